/- Plain law of sinks: what is released of true rows is a beginning of the stream. -/
import Derived.Test.YtdibepkfgemddaaGreatSinkB
import Derived.Test.YtdibepkfgemddaaGreatRel6
import Derived.Test.YtdibepkfgemddaaGreatTake
import Derived.Test.YtdibepkfgemddaaGreatSpan
import Derived.Test.YtdibepkfgemddaaGreatKeep
import Derived.Test.YtdibepkfgemddaaGreatLaw
namespace Go.Bw
set_option linter.unusedVariables false
set_option linter.unusedSimpArgs false
open Go.Proofs

theorem pad_lay {g s : Nat} {chunk : List UInt8} (h1 : 1 ≤ chunk.length) (h2 : chunk.length ≤ g * s - 4) (hgs : g * s ≤ 1000000000) : padOk (g * s - 4) (layAll g s chunk) ∧ padF (g * s - 4) (layAll g s chunk) = chunk := by
  have hb := beN_len 4 chunk.length (by omega)
  have e1 : (layAll g s chunk).take 4 = beN 4 chunk.length := by
    unfold layAll
    rw [List.append_assoc, List.take_append_of_le_length (by omega), List.take_of_length_le (by omega)]
  have e2 : (layAll g s chunk).drop 4 = chunk ++ List.replicate (g * s - 4 - chunk.length) 0 := by
    unfold layAll
    rw [List.append_assoc, List.drop_append_of_le_length (by omega), List.drop_of_length_le (by omega), List.nil_append]
  have hn : padN (layAll g s chunk) = chunk.length := by rw [padN, e1, beVal_beN _ (by omega)]
  have hok : padOk (g * s - 4) (layAll g s chunk) := by
    refine ⟨by omega, by omega, ?_⟩
    rw [hn, e2, List.drop_left']
    · exact zeros_lead _
    · rfl
  refine ⟨hok, ?_⟩
  rw [padF, if_pos hok, hn, e2, List.take_left']
  rfl
theorem drops_rows : ∀ (gs : List Nat) (x : RelD) (i : Nat), (x.drops gs).rows i = if ∃ k ∈ gs, k % x.width = i then [] else x.rows i
  | [], x, i => by simp [RelD.drops]
  | gen :: gs, x, i => by
    have h := drops_rows gs (x.put gen []) i
    have e : (x.drops (gen :: gs)) = (x.put gen []).drops gs := rfl
    rw [e, h]
    have ew : (x.put gen []).width = x.width := rfl
    rw [ew]
    by_cases h1 : ∃ k ∈ gs, k % x.width = i
    · obtain ⟨k, hk, hki⟩ := h1
      rw [if_pos ⟨k, hk, hki⟩, if_pos ⟨k, List.mem_cons_of_mem _ hk, hki⟩]
    · rw [if_neg h1]
      show (if i = gen % x.width then [] else x.rows i) = _
      by_cases h2 : i = gen % x.width
      · rw [if_pos h2, if_pos ⟨gen, List.mem_cons_self .., h2.symm⟩]
      · rw [if_neg h2, if_neg]
        rintro ⟨k, hk, hki⟩
        rcases List.mem_cons.1 hk with rfl | hk
        · exact h2 hki.symm
        · exact h1 ⟨k, hk, hki⟩
theorem gone_mem {base nb k n : Nat} : n ∈ winGone base 8 nb k ↔ (base ≤ n ∧ n < base + k) ∧ ¬ inWin nb 8 n := by
  unfold winGone winNums
  rw [List.mem_filter, List.mem_map]
  constructor
  · rintro ⟨⟨j, hj, rfl⟩, h⟩
    have := List.mem_range.1 hj
    exact ⟨⟨by omega, by omega⟩, by simpa using h⟩
  · rintro ⟨⟨h1, h2⟩, h3⟩
    exact ⟨⟨n - base, List.mem_range.2 (by omega), by omega⟩, by simpa using h3⟩

structure Ord (X : SrcD) (x : RelD) (d : Nat) : Prop where
  g : x.g = X.g
  s : x.s = X.s
  w : x.width = 8
  b : x.base = d
  dn : d ≤ X.chunks.length
  good : ∀ gen, d ≤ gen → gen < d + 8 → gen < X.chunks.length → Good X.g X.s (symF X gen) (x.rows (gen % 8))
  none : ∀ gen, d ≤ gen → gen < d + 8 → X.chunks.length ≤ gen → x.rows (gen % 8) = []
theorem Ord.start (X : SrcD) : Ord X (newR X.g X.s 8) 0 := ⟨rfl, rfl, rfl, rfl, Nat.zero_le _, fun _ _ _ _ => Good.nil _ _ _, fun _ _ _ _ => rfl⟩
section
variable {X : SrcD} {x : RelD} {d : Nat}
theorem Ord.win (h : Ord X x d) (hX : SrcOk X) (gen : Nat) : inWin x.base x.width gen ↔ d ≤ gen ∧ gen < d + 8 := by
  have h1 := hX.chl
  have h2 := h.dn
  rw [h.b, h.w]
  unfold inWin winEnd
  omega
theorem mod8 {a b d : Nat} (h1 : d ≤ a) (h2 : a < d + 8) (h3 : d ≤ b) (h4 : b < d + 8) (h : a % 8 = b % 8) : a = b := by omega
theorem Ord.take (h : Ord X x d) (hX : SrcOk X) {gen : Nat} (hg : gen < X.chunks.length) {r : RowD} (hr : RowGS X.g X.s r) (ht : Tr (symF X gen) r) : Ord X (x.take gen r) d := by
  unfold RelD.take
  by_cases hin : inWin x.base x.width gen
  · rw [if_pos hin]
    have hw := (h.win hX gen).1 hin
    have hgd := h.good gen hw.1 hw.2 hg
    refine ⟨h.g, h.s, h.w, h.b, h.dn, fun k k1 k2 k3 => ?_, fun k k1 k2 k3 => ?_⟩
    · show Good X.g X.s (symF X k) (if k % 8 = gen % x.width then (insR x.g x.s (x.rows (gen % x.width)) r).2 else x.rows (k % 8))
      rw [h.w, h.g, h.s]
      by_cases e : k % 8 = gen % 8
      · rw [if_pos e]
        have := mod8 k1 k2 hw.1 hw.2 e
        subst this
        exact hgd.ins hr ht
      · rw [if_neg e]
        exact h.good k k1 k2 k3
    · show (if k % 8 = gen % x.width then (insR x.g x.s (x.rows (gen % x.width)) r).2 else x.rows (k % 8)) = []
      rw [h.w]
      by_cases e : k % 8 = gen % 8
      · exfalso
        have := mod8 k1 k2 hw.1 hw.2 e
        omega
      · rw [if_neg e]
        exact h.none k k1 k2 k3
  · rw [if_neg hin]
    exact h
theorem Ord.full (h : Ord X x d) (hX : SrcOk X) {gen : Nat} (hs : x.solE gen = 0) : ∃ hg : gen < X.chunks.length, d ≤ gen ∧ gen < d + 8 ∧ rdyE x gen = 0 ∧ rdyF x gen = X.chunks[gen] := by
  have hin := RelD.sol_in hs
  obtain ⟨h1, h2⟩ := (h.win hX gen).1 hin
  obtain ⟨n1, n2, n3, n4, n5⟩ := hX.nat
  have hlt : ¬ (x.rows (gen % 8)).length < X.g := by
    intro hlt
    unfold RelD.solE at hs
    rw [if_pos hin, h.w, h.g, if_pos hlt] at hs
    cases hs
  have hgn : gen < X.chunks.length := by
    rcases Nat.lt_or_ge gen X.chunks.length with h3 | h3
    · exact h3
    · have := h.none gen h1 h2 h3
      rw [this] at hlt
      simp at hlt
      omega
  have hgd := h.good gen h1 h2 hgn
  have hl := hgd.red.len
  have hsol : x.solF gen = symF X gen := by
    unfold RelD.solF
    rw [if_pos hin, h.w, h.g, if_neg hlt]
    exact hgd.solved (by omega) (symF_len hX hgn) (symF_row hX hgn)
  have hc := hX.mem X.chunks[gen] (List.getElem_mem _)
  have hsy : symF X gen = layF X.g X.s X.chunks[gen] := by
    unfold symF
    rw [List.getElem?_eq_getElem hgn]
  have hfl : (x.solF gen).flatten = layAll X.g X.s X.chunks[gen] := by rw [hsol, hsy, layF_flat n5 hc.2]
  have hm : X.g * X.s ≤ 255 * 65535 := Nat.mul_le_mul n2 n4
  obtain ⟨p1, p2⟩ := pad_lay (g := X.g) (s := X.s) hc.1 hc.2 (by omega)
  refine ⟨hgn, h1, h2, ?_, ?_⟩
  · unfold rdyE
    rw [h.g, h.s, hfl, padE, if_pos p1]
  · unfold rdyF
    rw [h.g, h.s, hfl]
    exact p2
theorem Ord.release (h : Ord X x d) (hX : SrcOk X) {m : Nat} {e : Int} {br : Bool} (hg : goodTo x d m) (hend : relEnd x d m e br) :
    e = 0 ∧ br = false ∧ d + m ≤ X.chunks.length ∧ rdyL x d m = (X.chunks.drop d).take m ∧ (x.rk (d + m)).length ≠ X.g := by
  have hdn := h.dn
  have hchl := hX.chl
  obtain ⟨n1, n2, n3, n4, n5⟩ := hX.nat
  have hlen : d + m ≤ X.chunks.length := by
    rcases Nat.eq_zero_or_pos m with h0 | h0
    · omega
    · obtain ⟨h1, _⟩ := h.full hX (hg (m - 1) (by omega)).1
      omega
  have hL : rdyL x d m = (X.chunks.drop d).take m := by
    refine List.ext_getElem (by simp [rdyL]; omega) fun i h1 h2 => ?_
    have hi : i < m := by simpa [rdyL] using h1
    obtain ⟨h3, _, _, _, h4⟩ := h.full hX (hg i hi).1
    simp only [rdyL, List.getElem_map, List.getElem_range, List.getElem_take, List.getElem_drop]
    exact h4
  rcases hend with ⟨rfl, rfl, h1⟩ | ⟨rfl, rfl, h1, h2, h3⟩
  · refine ⟨rfl, rfl, hlen, hL, fun hr => ?_⟩
    rcases h1 with h1 | h1
    · omega
    · apply h1
      unfold RelD.rk at hr
      by_cases hin : inWin x.base x.width (d + m)
      · rw [if_pos hin] at hr
        unfold RelD.solE
        rw [if_pos hin, if_neg (by rw [hr, h.g]; omega)]
      · rw [if_neg hin] at hr
        simp at hr
        omega
  · obtain ⟨_, _, _, h4, _⟩ := h.full hX h2
    exact absurd h4 h3
theorem Ord.move (h : Ord X x d) (hX : SrcOk X) {nb : Nat} (h1 : d ≤ nb) (h2 : nb ≤ X.chunks.length) : Ord X (x.moveTo nb) nb := by
  have hchl := hX.chl
  have hdn := h.dn
  have hw : ∀ k, inWin nb 8 k ↔ nb ≤ k ∧ k < nb + 8 := by
    intro k
    unfold inWin winEnd
    omega
  have hnM : nb ≤ 1099511627776 := by omega
  have hE : winEnd x.base x.width - x.base = 8 := by rw [h.b, h.w]; unfold winEnd; omega
  obtain ⟨d1, d2, d3, d4⟩ := drops_same (winGone x.base x.width nb (winEnd x.base x.width - x.base)) x
  have hmv : x.moveTo nb = { x.drops (winGone x.base x.width nb (winEnd x.base x.width - x.base)) with base := nb } := by rw [RelD.moveTo, if_pos hnM]
  have hd8 : (x.moveTo nb).rows = (x.drops (winGone d 8 nb 8)).rows := by
    rw [hmv, hE, h.b, h.w]
  have hyes : ∀ i k, d ≤ k → k < d + 8 → ¬ (nb ≤ k ∧ k < nb + 8) → k % 8 = i → (x.moveTo nb).rows i = [] := by
    intro i k k1 k2 k3 k4
    rw [hd8, drops_rows, h.w, if_pos]
    exact ⟨k, gone_mem.2 ⟨⟨k1, k2⟩, fun q => k3 ((hw k).1 q)⟩, k4⟩
  have hno : ∀ i, (∀ k, d ≤ k → k < d + 8 → k % 8 = i → nb ≤ k ∧ k < nb + 8) → (x.moveTo nb).rows i = x.rows i := by
    intro i hi
    rw [hd8, drops_rows, h.w, if_neg]
    rintro ⟨k, hk, hki⟩
    obtain ⟨k1, k2⟩ := gone_mem.1 hk
    exact k2 ((hw k).2 (hi k k1.1 k1.2 hki))
  have hnew : ∀ gen, nb ≤ gen → gen < nb + 8 → (x.moveTo nb).rows (gen % 8) = if gen < d + 8 then x.rows (gen % 8) else [] := by
    intro gen g1 g2
    by_cases hc : gen < d + 8
    · rw [if_pos hc]
      refine hno _ fun k k1 k2 k3 => ?_
      have := mod8 k1 k2 (by omega : d ≤ gen) hc k3
      omega
    · rw [if_neg hc]
      have hm : (d + (gen - d) % 8) % 8 = gen % 8 := by omega
      refine hyes _ (d + (gen - d) % 8) (by omega) (by omega) ?_ hm
      intro q
      omega
  refine ⟨by rw [hmv]; exact d1.trans h.g, by rw [hmv]; exact d2.trans h.s, by rw [hmv]; exact d4.trans h.w, by rw [hmv], h2, fun gen g1 g2 g3 => ?_, fun gen g1 g2 g3 => ?_⟩
  · rw [hnew gen g1 g2]
    by_cases hc : gen < d + 8
    · rw [if_pos hc]
      exact h.good gen (by omega) hc g3
    · rw [if_neg hc]
      exact Good.nil _ _ _
  · rw [hnew gen g1 g2]
    by_cases hc : gen < d + 8
    · rw [if_pos hc]
      exact h.none gen (by omega) hc g3
    · rw [if_neg hc]
end
end Go.Bw
namespace Go.Bw
set_option linter.unusedVariables false
set_option linter.unusedSimpArgs false
open Go.Proofs

def soG (G : UInt8) : Nat := 1 + G.toNat % 6
def soS (S : UInt8) : Nat := 5 + S.toNat % 6
theorem so_good (G S : UInt8) : goodGS (soG G) (soS S) := by
  have h1 := Nat.mod_lt G.toNat (by omega : 0 < 6)
  have h2 := Nat.mod_lt S.toNat (by omega : 0 < 6)
  have h3 : 1 * 5 ≤ soG G * soS S := Nat.mul_le_mul (by unfold soG; omega) (by unfold soS; omega)
  refine ⟨by unfold soG; omega, by unfold soG; omega, by unfold soS; omega, by unfold soS; omega, ?_⟩
  rw [← Int.natCast_mul]
  omega
def soD1 (g s : Nat) (l : List UInt8) : SrcD := subD (newD g s [] [] false) l 1099511627776
theorem so_sub {g s : Nat} (h : goodGS g s) (l : List UInt8) (hl : l.length ≤ 1000) : subE (newD g s [] [] false) l 1099511627776 = 0 ∧ (soD1 g s l).st = l ∧ (soD1 g s l).cl = false ∧ (soD1 g s l).cuts = [] ∧ (soD1 g s l).g = g ∧ (soD1 g s l).s = s := by
  have hok := newD_ok h
  have h1 := hok.long (l := l) (by show 0 + _ ≤ _; omega)
  have h2 := h1.chl
  have hf : subFits (newD g s [] [] false) l 1099511627776 := by
    refine ⟨by show 0 + _ ≤ _; omega, ?_⟩
    unfold needs
    split <;> omega
  have hD : soD1 g s l = longD (newD g s [] [] false) l := by
    rw [soD1, subD, if_neg (by show ¬ false = true; decide), if_pos hf]
  refine ⟨by rw [subE, if_neg (by show ¬ false = true; decide), if_pos hf], by rw [hD]; rfl, by rw [hD]; rfl, by rw [hD]; rfl, by rw [hD]; rfl, by rw [hD]; rfl⟩
def soD (g s : Nat) (l : List UInt8) : SrcD := flushD (soD1 g s l)
theorem so_ok {g s : Nat} (h : goodGS g s) (l : List UInt8) (hl : l.length ≤ 1000) (hne : l ≠ []) : SrcOk (soD1 g s l) ∧ SrcOk (soD g s l) ∧ 1 ≤ (soD g s l).chunks.length ∧ (soD g s l).g = g ∧ (soD g s l).s = s ∧ (soD g s l).chunks.flatten = l ∧ (soD g s l).chunks.length ≤ 1000 := by
  have h1 : SrcOk (soD1 g s l) := (newD_ok h).sub _ _
  have h2 : SrcOk (soD g s l) := h1.flush
  obtain ⟨_, e1, e2, _, e3, e4⟩ := so_sub h l hl
  have e : soD g s l = cutD (soD1 g s l) := by rw [soD, flushD, if_neg (by rw [e2]; decide)]
  have h3 := h2.flat
  have h4 := cutD_open (soD1 g s l)
  have h5 := cutD_st (soD1 g s l)
  rw [← e] at h4 h5
  rw [h4, h5, e1, List.append_nil] at h3
  have h6 : (soD g s l).chunks.length ≤ (soD g s l).st.length := by rw [h2.ch]; exact chunksF_len h2.room h2.cuts
  rw [h5, e1] at h6
  refine ⟨h1, h2, ?_, by rw [e, (cutD_g _).1, e3], by rw [e, (cutD_g _).2, e4], h3, by omega⟩
  rcases Nat.eq_zero_or_pos (soD g s l).chunks.length with h | h
  · rw [List.eq_nil_of_length_eq_zero h] at h3
    exact absurd h3.symm hne
  · exact h
theorem permK {R Mo : Mem} {p k : Nat × Obj × Bool} : (k :: ((p :: Mo) ++ R)).Perm (R ++ ([p, k] ++ Mo)) :=
  ((List.Perm.swap p k (Mo ++ R))).trans (List.perm_append_comm (l₁ := [p, k] ++ Mo) (l₂ := R))
theorem permO {R Mo : Mem} {p k : Nat × Obj × Bool} : (Mo ++ (R ++ [p, k])).Perm (R ++ ([p, k] ++ Mo)) := by
  have := List.perm_append_comm (l₁ := Mo) (l₂ := R ++ [p, k])
  rwa [List.append_assoc] at this
abbrev tripV (G S : UInt8) (vs vg vc vw : Value) : Value := .agg #[B G, B S, vs, vg, vc, vw]
def Bools (H : Hp) (v : Value) (l : List Bool) : Prop := Sl H 1 v l.length (l.map fun b => Value.bool b)
/-- What is so between two rounds. -/
def SoS (D : SrcD) (xb kb rb wb : Nat) (o2 : Obj) (H0 : Hp) (w0 : World) (H : Hp) (y : RelD) (l : Slots) (d : Nat) (Mo : Mem) (w : World) : Prop := HS [] H0 w0 H (relMem true y rb wb l ++ ([(xb, o2, true), (kb, sinkObj ⟨D.g, D.s, d, 0, false, false⟩, true)] ++ Mo)) w
structure SoI (D : SrcD) (H0 HB H : Hp) (w0 : World) (y : RelD) (l : Slots) (d : Nat) (Mo : Mem) (vo : Value) : Prop where
  le : Hp.le H0 H
  lb : Hp.le HB H
  ok : RelOk y
  sl : SlotsOk H y l
  ord : Ord D y d
  own : Own w0.heap.size 5 1 vo (D.chunks.take d).flatten.length ((D.chunks.take d).flatten.map B) Mo
set_option maxRecDepth 20000 in
set_option maxHeartbeats 2000000 in
theorem sorder_ok (G S : UInt8) (vs vg vc vw : Value) (st ge : List UInt8) (co : List (List UInt8)) (wh : List Bool) (H0 : Hp) (w0 : World) (h0 : Sub H0 w0) (hst : Bytes H0 vs st) (hge : Bytes H0 vg ge) (hco : BytesL H0 vc co) (hwh : Bools H0 vw wh)
    (hl1 : st.length ≤ 9223372036854775807) :
    Calls Tryz.prog 4 #[tripV G S vs vg vc vw] w0 (Pure H0 w0 fun v _ => v = .bool true) := by
  have hs := HS.init h0
  have hle := Hp.le.refl H0
  obtain ⟨bs, cs, rfl⟩ := hst.form
  obtain ⟨bg, cg, rfl⟩ := hge.form
  obtain ⟨bc, cc, rfl⟩ := hco.form
  obtain ⟨bw, cw, rfl⟩ := Sl.form hwh
  refine Calls.enter (args := [tripV G S (.slice bs st.length cs) (.slice bg ge.length cg) (.slice bc co.length cc) (.slice bw wh.length cw)]) Tryz.func4 rfl Tryz.ntmps4 rfl ?_
  refine WC.seq (WC.region (WO.step rfl (OR.box hs rfl ?_)))
  clear hs; intro g1 w hg1 hs
  refine WO.step rfl (OR.assign rfl (WO.done (WX.seq (WC.seq ?_))))
  obtain ⟨H, hle1, hp_g1, hs9⟩ := hs.pub1 hg1; clear hs; have hs := hs9; clear hs9; replace hle := hle.trans hle1; (try replace hlb := hlb.trans hle1)
  have hA0 : hcell H ⟨g1, 0 + 0, none⟩ = some (B G) := hcell_of hp_g1 rfl
  have hA1 : hcell H ⟨g1, 0 + 1, none⟩ = some (B S) := hcell_of hp_g1 rfl
  have hA2 : hcell H ⟨g1, 0 + 2, none⟩ = some (.slice bs st.length cs) := hcell_of hp_g1 rfl
  have hA3 : hcell H ⟨g1, 0 + 3, none⟩ = some (.slice bg ge.length cg) := hcell_of hp_g1 rfl
  have hA4 : hcell H ⟨g1, 0 + 4, none⟩ = some (.slice bc co.length cc) := hcell_of hp_g1 rfl
  have hA5 : hcell H ⟨g1, 0 + 5, none⟩ = some (.slice bw wh.length cw) := hcell_of hp_g1 rfl
  have hgg : 1 ≤ soG G ∧ soG G ≤ 6 := by have := Nat.mod_lt G.toNat (by omega : 0 < 6); unfold soG; omega
  have hss : 5 ≤ soS S ∧ soS S ≤ 10 := by have := Nat.mod_lt S.toNat (by omega : 0 < 6); unfold soS; omega
  have hgs := so_good G S
  refine WC.draw 11 mixed hs (by kernel_rfl) ?_
  refine ⟨MF.eq _, by intro Mx H w hle hs; refine forVals_nil (ORg.plain (OR.fieldAddr FA65_0 rfl ?_)); exact ⟨_, [], Hp.le.refl _, hs, rfl, rfl⟩, ?_⟩
  refine ⟨MF.eq (B G), ?_, ?_⟩
  · intro Mx H w hle2 hs; (try replace hle := hle.trans hle2); (try replace hlb := hlb.trans hle2); refine forVals_eq rfl rfl rfl ?_
    refine forVals_nil (ORg.plain (OR.load T5 rfl rfl (hs.cell (hcell.mono hle2 hA0)) ?_))
    exact ⟨_, [], Hp.le.refl _, hs, rfl, rfl⟩
  refine ⟨MF.eq (.int .i64 (G.toNat : Int)), ?_, ?_⟩
  · intro Mx H w hle2 hs; (try replace hle := hle.trans hle2); (try replace hlb := hlb.trans hle2); refine forVals_eq rfl rfl rfl ?_
    refine forVals_nil (ORg.plain (OR.convB T5.und T3.und rfl ?_))
    exact ⟨_, [], Hp.le.refl _, hs, rfl, rfl⟩
  refine ⟨MF.eq (.int .i64 ((G.toNat : Int).tmod 6)), ?_, ?_⟩
  · intro Mx H w hle2 hs; (try replace hle := hle.trans hle2); (try replace hlb := hlb.trans hle2); refine forVals_eq rfl rfl rfl ?_
    refine forVals_nil (ORg.plain (OR.rem rfl rfl (by omega) ?_))
    exact ⟨_, [], Hp.le.refl _, hs, rfl, rfl⟩
  refine ⟨MF.eq (.int .i64 (soG G : Int)), ?_, ?_⟩
  · intro Mx H w hle2 hs; (try replace hle := hle.trans hle2); (try replace hlb := hlb.trans hle2); refine forVals_eq rfl rfl rfl ?_
    have hG : (1 : Int) + (G.toNat : Int).tmod 6 = (soG G : Int) := rfl
    refine forVals_nil (ORg.plain (OR.addI rfl rfl (by rw [hG]; omega) (by rw [hG]; omega) ?_))
    exact ⟨_, [], Hp.le.refl _, hs, rfl, rfl⟩
  refine ⟨MF.eq _, by intro Mx H w hle hs; refine forVals_nil (ORg.plain (OR.fieldAddr FA65_1 rfl ?_)); exact ⟨_, [], Hp.le.refl _, hs, rfl, rfl⟩, ?_⟩
  refine ⟨MF.eq (B S), ?_, ?_⟩
  · intro Mx H w hle2 hs; (try replace hle := hle.trans hle2); (try replace hlb := hlb.trans hle2); refine forVals_eq rfl rfl rfl ?_
    refine forVals_nil (ORg.plain (OR.load T5 rfl rfl (hs.cell (hcell.mono hle2 hA1)) ?_))
    exact ⟨_, [], Hp.le.refl _, hs, rfl, rfl⟩
  refine ⟨MF.eq (.int .i64 (S.toNat : Int)), ?_, ?_⟩
  · intro Mx H w hle2 hs; (try replace hle := hle.trans hle2); (try replace hlb := hlb.trans hle2); refine forVals_eq rfl rfl rfl ?_
    refine forVals_nil (ORg.plain (OR.convB T5.und T3.und rfl ?_))
    exact ⟨_, [], Hp.le.refl _, hs, rfl, rfl⟩
  refine ⟨MF.eq (.int .i64 ((S.toNat : Int).tmod 6)), ?_, ?_⟩
  · intro Mx H w hle2 hs; (try replace hle := hle.trans hle2); (try replace hlb := hlb.trans hle2); refine forVals_eq rfl rfl rfl ?_
    refine forVals_nil (ORg.plain (OR.rem rfl rfl (by omega) ?_))
    exact ⟨_, [], Hp.le.refl _, hs, rfl, rfl⟩
  refine ⟨MF.eq (.int .i64 (soS S : Int)), ?_, ?_⟩
  · intro Mx H w hle2 hs; (try replace hle := hle.trans hle2); (try replace hlb := hlb.trans hle2); refine forVals_eq rfl rfl rfl ?_
    have hG : (5 : Int) + (S.toNat : Int).tmod 6 = (soS S : Int) := rfl
    refine forVals_nil (ORg.plain (OR.addI rfl rfl (by rw [hG]; omega) (by rw [hG]; omega) ?_))
    exact ⟨_, [], Hp.le.refl _, hs, rfl, rfl⟩
  refine ⟨MF.eq _, by intro Mx H w hle hs; refine forVals_eq rfl rfl rfl ?_; refine forVals_nil (ORg.plain (OR.assign rfl ?_)); exact ⟨_, [], Hp.le.refl _, hs, rfl, rfl⟩, ?_⟩
  intro H w hle2; (try replace hle := hle.trans hle2); (try replace hlb := hlb.trans hle2)
  refine forAllVals_eq rfl ?_
  refine forAllVals_eq rfl ?_
  refine forAllVals_eq rfl ?_
  refine forAllVals_eq rfl ?_
  refine forAllVals_eq rfl ?_
  refine forAllVals_eq rfl ?_
  refine forAllVals_eq rfl ?_
  refine forAllVals_eq rfl ?_
  refine forAllVals_eq rfl ?_
  refine forAllVals_eq rfl ?_
  refine forAllVals_eq rfl ?_
  refine forAllVals_nil ?_; (try clear hs); intro hs
  replace hA2 := hcell.mono hle2 hA2
  replace hA3 := hcell.mono hle2 hA3
  replace hA4 := hcell.mono hle2 hA4
  replace hA5 := hcell.mono hle2 hA5
  clear hA0 hA1 hp_g1
  generalize soG G = g at *
  generalize soS S = s at *
  have hlb := Hp.le.refl H
  refine WO.step rfl (OR.assign rfl (WO.done (WX.seq (WC.seq (WC.region (WO.step rfl (OR.move rfl ?_)))))))
  refine WO.step rfl (OR.move rfl ?_)
  refine WO.step rfl (OR.callX (Mx := []) (Mr := []) hs body28 rfl rfl (snew_ok g s _ _ hs.toSub hgs) rfl rfl ?_)
  clear hs; rintro v H M w hs hle1 hnew ⟨xb, o, rfl, rfl, hx0, hx⟩
  replace hle := hle.trans hle1
  replace hlb := hlb.trans hle1
  replace hs : HS [] H0 w0 H [(xb, o, true)] w := hs
  refine WO.step rfl (OR.move rfl (WO.step rfl (OR.extract rfl rfl (WO.step rfl (OR.extract rfl rfl (WO.step rfl (OR.assign rfl ?_)))))))
  refine WO.step rfl (OR.assign rfl (WO.done (WX.seq (WC.seq (WC.region ?_)))))
  refine WO.step rfl (OR.buildSlice (vs := [B 7]) hs T43.und T5 rfl rfl rfl rfl (by simp) ?_)
  clear hs; intro gA w hgA hs
  refine WO.step rfl (OR.fieldAddr FA65_2 rfl ?_)
  refine WO.step rfl (OR.load T43 rfl rfl (hs.cell (hcell.mono hlb hA2)) ?_)
  refine WO.step rfl (OR.fieldAddr FA65_2 rfl ?_)
  refine WO.step rfl (OR.load T43 rfl rfl (hs.cell (hcell.mono hlb hA2)) ?_)
  refine WO.step rfl (OR.lenSlice T43.und rfl ?_)
  refine WO.step rfl (OR.minI rfl rfl ?_)
  refine WO.step rfl (OR.sliceHiG (min st.length 150) T43.und T5 rfl rfl (by split <;> omega) (by have := hst.cap_le; omega) ?_)
  have hln : ((st.take 150).map B).length = min st.length 150 * 1 := by simp; omega
  refine WO.step rfl (OR.append (n := 1) (m := min st.length 150) (cs := [B 7]) (news := (st.take 150).map B) (Mo := [_]) (M := [_]) hs (Own.block (cap := 1) (by omega) rfl rfl hgA) T43.und T5 rfl (by omega) rfl rfl hln (fun q hq j u hj => Sl.src (hst.mono hle) hs q hq j u (by rw [List.map_take] at hj; exact get_take hj)) (fun q => by have := Sl.src0 hst q; omega) (bytes_one _) (by omega) (by omega) ?_)
  clear hs; intro v' w Mo hs ho hge'
  obtain ⟨H3, hle3, hs, hsl3, _⟩ := HS.pub hs ho
  replace hle := hle.trans hle3
  replace hlb := hlb.trans hle3
  have hv3 : Bytes H3 v' (7 :: st.take 150) := by
    have e : (7 :: st.take 150).length = 1 + min st.length 150 := by simp; omega
    unfold Bytes
    rw [e]
    exact hsl3
  clear hsl3 ho
  have hll : (7 :: st.take 150).length ≤ 1000 := by simp; omega
  have hne : (7 :: st.take 150) ≠ [] := by simp
  generalize (7 :: st.take 150) = lv at *
  obtain ⟨bv, cv, hfv⟩ := hv3.form
  subst hfv
  obtain ⟨eE, e1, e2, e3, e4, e5⟩ := so_sub hgs lv hll
  obtain ⟨hok1, hok2, hch, e6, e7, hfl, hchn⟩ := so_ok hgs lv hll hne
  replace hx := hx.mono hle3
  have hlc := Hp.le.refl H3
  refine WO.step rfl (OR.assign rfl (WO.done (WX.seq (WC.seq (WC.seq (WC.region ?_))))))
  refine WO.step rfl (OR.call hs body9 rfl rfl (kawake_ok _ _ hs.toSub) ?_)
  clear hs; rintro _ H w hs hle1 rfl
  replace hle := hle.trans hle1
  replace hlb := hlb.trans hle1
  replace hlc := hlc.trans hle1
  refine WO.step rfl (OR.not rfl (WO.step rfl (OR.move rfl ?_)))
  refine WO.guardYes rfl rfl rfl rfl (OR.move rfl (WO.guardYes rfl rfl rfl rfl (OR.move rfl ?_)))
  refine WO.guardYes rfl rfl rfl rfl (OR.callX (Mx := [(xb, _, true)]) hs body29 rfl rfl (submit_ok xb (newD g s [] [] false) o _ lv 1099511627776 _ _ hs.toSub (hs.blk (i := 0) rfl) (hs.mem xb _ true (List.mem_cons_self ..)).2.1 (hx.mono hlc) (newD_ok hgs) (hv3.mono hlc) (by omega) (by show 0 ≤ _; omega)) rfl rfl ?_)
  clear hs; rintro _ H M' w hs hle1 hnew ⟨rfl, o1, rfl, hx1⟩; replace hle := hle.trans hle1; (try replace hlb := hlb.trans hle1)
  rw [eE]
  replace hx1 : SrcIn H (soD1 g s lv) o1 := hx1
  replace hlc := hlc.trans hle1
  refine WO.guardYes rfl rfl rfl rfl (OR.neq rfl rfl (WO.step rfl (OR.pickF rfl rfl rfl (WO.step rfl (OR.move rfl ?_)))))
  refine WO.guardYes rfl rfl rfl rfl (OR.move rfl ?_)
  refine WO.guardYes rfl rfl rfl rfl (OR.callX (Mx := [(xb, _, true)]) hs body30 rfl rfl (flush_ok xb (soD1 g s lv) o1 _ _ hs.toSub (hs.blk (i := 0) rfl) (hs.mem xb _ true (List.mem_cons_self ..)).2.1 hx1 hok1 (by rw [e3]; show 0 ≤ _; omega)) rfl rfl ?_)
  clear hs; rintro _ H M' w hs hle1 hnew ⟨rfl, o2, rfl, hx2⟩; replace hle := hle.trans hle1; (try replace hlb := hlb.trans hle1)
  rw [e2]
  replace hx2 : SrcIn H (soD g s lv) o2 := hx2
  replace hv3 := (hv3.mono hlc).mono hle1
  refine WO.guardYes rfl rfl rfl rfl (OR.neq rfl rfl (WO.step rfl (OR.pickF rfl rfl rfl (WO.done (WX.seq ?_)))))
  refine WC.no rfl rfl ?_
  clear hx1 hx e1 e2 e3 e4 e5 eE hlc
  generalize soD g s lv = D at *
  subst e6 e7
  refine WC.skip (WX.seq (WC.seq (WC.region (WO.step rfl (OR.move rfl (WO.step rfl (OR.move rfl ?_)))))))
  refine WO.step rfl (OR.callX (Mx := []) (Mr := [(xb, o2, true)]) hs body10 rfl rfl (knew_ok D.g D.s 0 _ _ hs.toSub) rfl rfl ?_)
  clear hs; rintro v H M w hs hle1 hnew hres
  replace hle := hle.trans hle1
  replace hlb := hlb.trans hle1
  obtain ⟨hn1, hn2, hn3, hn4, hn5⟩ := hok2.nat
  obtain ⟨kb, rfl, rfl⟩ := knew_yes (g := D.g) (s := D.s) (dl := 0) ⟨⟨hn1, hn2, hn3, hn4, hn5⟩, by omega⟩ hres
  replace hx2 := hx2.mono hle1
  replace hv3 := hv3.mono hle1
  replace hs : HS [] H0 w0 H [(kb, sinkObj ⟨D.g, D.s, 0, 0, false, false⟩, true), (xb, o2, true)] w := hs
  refine WO.step rfl (OR.move rfl (WO.step rfl (OR.extract rfl rfl (WO.step rfl (OR.extract rfl rfl (WO.step rfl (OR.assign rfl ?_)))))))
  refine WO.step rfl (OR.assign rfl (WO.done (WX.seq (WC.seq (WC.region (WO.step rfl (OR.move rfl ?_)))))))
  refine WO.step rfl (OR.move rfl ?_)
  refine WO.step rfl (OR.callX (Mx := []) (Mr := [(kb, sinkObj ⟨D.g, D.s, 0, 0, false, false⟩, true), (xb, o2, true)]) hs body12 rfl rfl (rnew_ok D.g D.s 8 _ _ hs.toSub ⟨hn1, hn2, hn3, hn4⟩ (by omega)) rfl rfl ?_)
  clear hs; rintro v H M w hs hle1 hnew ⟨hH, rb, wb, rfl, rfl⟩
  replace hle := hle.trans hle1
  replace hlb := hlb.trans hle1
  replace hx2 := hx2.mono hle1
  replace hv3 := hv3.mono hle1
  have hsx : HS [] H0 w0 H (relMem true (newR D.g D.s 8) rb wb (List.replicate 16 none) ++ ([(xb, o2, true), (kb, sinkObj ⟨D.g, D.s, 0, 0, false, false⟩, true)] ++ [])) w := hs.perm ((List.Perm.swap _ _ _).append_left _)
  clear hs
  have hs := hsx
  clear hsx
  refine WO.step rfl (OR.move rfl (WO.step rfl (OR.extract rfl rfl (WO.step rfl (OR.extract rfl rfl (WO.step rfl (OR.assign rfl ?_)))))))
  refine WO.step rfl (OR.assign rfl (WO.done (WX.seq (WC.seq (WC.seq (WC.region (WO.step rfl ?_)))))))
  refine OR.move rfl (WO.step rfl (OR.neq rfl rfl (WO.step rfl (OR.move rfl ?_))))
  refine WO.guardYes rfl rfl rfl rfl (OR.move rfl (WO.guardYes rfl rfl rfl rfl (OR.neq rfl rfl (WO.step rfl (OR.pickF rfl rfl rfl (WO.done (WX.seq ?_)))))))
  refine WC.no rfl rfl ?_
  refine WC.skip (WX.seq (WC.seq (WC.region (WO.step rfl (OR.assign rfl (WO.done (WX.seq ?_)))))))
  refine WC.seq (WC.seq (WC.region (WO.step rfl (OR.fieldAddr FA65_4 rfl ?_))))
  refine WO.step rfl (OR.load T40 rfl rfl (hs.cell (hcell.mono hlb hA4)) ?_)
  replace hA3 := hcell.mono hlb hA3
  replace hA5 := hcell.mono hlb hA5
  clear hA2 hA4 hlb
  obtain ⟨HB, hHB⟩ : ∃ X, X = H := ⟨_, rfl⟩
  subst hHB
  have hokR := newR_ok (g := D.g) (s := D.s) (width := 8) ⟨hn1, hn2, hn3, hn4⟩ (by omega)
  have hsl0 := slots_new HB D.g D.s 8
  have hord0 := Ord.start D
  generalize newR D.g D.s 8 = y0 at *
  refine WO.step rfl (OR.lenSlice T40.und rfl (WO.step rfl (OR.move rfl (WO.done (WX.seq ?_)))))
  refine WC.joinK (ι := Value) (fun vo => [(3, .int .i64 (D.g : Int)), (5, ptr xb), (7, .slice bv lv.length cv), (8, ptr kb), (12, vo)]) (fun vo w => (∃ H y l d Mo, SoI D H0 HB H w0 y l d Mo vo ∧ SoS D xb kb rb wb o2 H0 w0 H y l d Mo w)) ?_ (fun vo w hW => ?_)
  · refine WC.block ?_
    refine WC.loop (ι := Nat × Value) (fun ix => [(1, ptr g1), (3, .int .i64 (D.g : Int)), (5, ptr xb), (7, .slice bv lv.length cv), (8, ptr kb), (10, ptr rb), (12, ix.2), (82, .slice bc co.length cc), (83, .int .i64 (co.length : Int)), (84, .int .i64 (ix.1 : Int))]) (fun ix w => (ix.1 ≤ co.length ∧ ix.1 ≤ 80 ∧ ∃ H y l d Mo, SoI D H0 HB H w0 y l d Mo ix.2 ∧ SoS D xb kb rb wb o2 H0 w0 H y l d Mo w)) (fun ix => co.length - ix.1) (0, .slice none 0 0) ⟨rfl, rfl, rfl, rfl, rfl, rfl, rfl, rfl, rfl, rfl,  trivial⟩ ?_ (fun ix w hW => ?_)
    · exact ⟨by omega, by omega, HB, y0, _, 0, [], ⟨hle, Hp.le.refl _, hokR, hsl0, hord0, Own.nil _ _ _⟩, hs⟩
    clear hs hle hokR hsl0 hord0
    obtain ⟨i, vo⟩ := ix
    obtain ⟨hi, hi80, H, y, l, d, Mo, hI, hs⟩ := hW
    simp only at hi hi80 hI
    have hle := hI.le
    refine WC.seq (WC.region (WO.step rfl (OR.lss rfl rfl (WO.done (WX.seq (WC.seq ?_))))))
    refine WC.condD rfl (fun hlt => ?_) (fun hlt => ?_)
    · have hi' : i < co.length := by omega
      obtain ⟨yb, yo, rfl, hcy⟩ := hco.pos (by omega)
      obtain ⟨e9, he9, hb9⟩ := hcy i hi'
      obtain ⟨b3, c3, rfl⟩ := hb9.form
      replace hs : HS [] H0 w0 H (relMem true y rb wb l ++ ([(xb, o2, true), (kb, sinkObj ⟨D.g, D.s, d, 0, false, false⟩, true)] ++ Mo)) w := hs
      refine WC.skip (WX.seq (WC.seq (WC.block (WC.seq (WC.region (WO.step rfl (OR.move rfl ?_)))))))
      refine WO.step rfl (OR.idx i T40.und T43 rfl rfl rfl hi' ?_)
      refine WO.step rfl (OR.load T43 rfl rfl (hs.cell (hcell.mono hle he9)) ?_)
      refine WO.step rfl (OR.assign rfl (WO.step rfl (OR.assign rfl (WO.done (WX.seq (WC.seq (WC.seq ?_)))))))
      refine WC.region (WO.step rfl (OR.move rfl (WO.step rfl (OR.eql rfl rfl (WO.done (WX.seq ?_))))))
      refine WC.condD rfl (fun h80 => ?_) (fun h80 => ?_)
      · refine WC.exit (WX.seq_exit (WX.block_miss rfl (WX.seq_exit (WX.loop_exit (WX.block_hit ?_)))))
        refine WX.arrive (vo) ⟨rfl, rfl, rfl, rfl, rfl,  trivial⟩ ?_
        · exact ⟨H, y, l, d, Mo, hI, hs⟩
      · have hlb := hI.lb
        have hb9' := hb9.mono hle
        refine WC.skip (WX.seq (WC.seq (WC.region (WO.step rfl (OR.assign rfl (WO.done ?_))))))
        refine WX.seq (WC.seq (WC.seq (WC.region (WO.step rfl (OR.move rfl (WO.step rfl (OR.fieldAddr FA65_3 rfl ?_)))))))
        refine WO.step rfl (OR.load T43 rfl rfl (hs.cell (hcell.mono hlb hA3)) ?_)
        refine WO.step rfl (OR.lenSlice T43.und rfl (WO.step rfl (OR.lss rfl rfl (WO.done (WX.seq ?_)))))
        refine WC.joinK (ι := Nat) (fun gv => [(1, ptr g1), (3, .int .i64 (D.g : Int)), (5, ptr xb), (7, .slice bv lv.length cv), (8, ptr kb), (10, ptr rb), (12, vo), (13, .int .i64 (i : Int)), (14, .slice b3 co[i].length c3), (15, .int .u64 (gv : Int)), (82, .slice (some ⟨yb, yo, none⟩) co.length cc), (83, .int .i64 (co.length : Int)), (84, .int .i64 (i : Int))]) (fun gv w => (gv < D.chunks.length ∧ ∃ H2, Hp.le H H2 ∧ SoS D xb kb rb wb o2 H0 w0 H2 y l d Mo w)) ?_ (fun gv w hW => ?_)
        · refine WC.condD rfl (fun hgi => ?_) (fun hgi => ?_)
          · have hgi' : i < ge.length := by omega
            obtain ⟨zb, zo, rfl, hcz⟩ := hge.pos (by omega)
            have hzi := hcz i hgi'
            have hlc := Hp.le.refl H
            have hxm := hs.mem xb o2 true (List.mem_append_right _ (List.mem_cons_self ..))
            have hgm : (ge[i].toNat : Int) < 256 := by have := ge[i].toNat_lt; omega
            refine WC.draw 8 mixed hs (by kernel_rfl) ?_
            refine ⟨MF.eq _, by intro Mx H w hle hs; refine forVals_nil (ORg.plain (OR.fieldAddr FA65_3 rfl ?_)); exact ⟨_, [], Hp.le.refl _, hs, rfl, rfl⟩, ?_⟩
            refine ⟨MF.eq (.slice (some ⟨zb, zo, none⟩) ge.length cg), ?_, ?_⟩
            · intro Mx H w hle2 hs; (try replace hle := hle.trans hle2); (try replace hlb := hlb.trans hle2); refine forVals_eq rfl rfl rfl ?_
              refine forVals_nil (ORg.plain (OR.load T43 rfl rfl (hs.cell (hcell.mono hlb hA3)) ?_))
              exact ⟨_, [], Hp.le.refl _, hs, rfl, rfl⟩
            refine ⟨MF.eq _, by intro Mx H w hle hs; refine forVals_nil (ORg.plain (OR.move rfl ?_)); exact ⟨_, [], Hp.le.refl _, hs, rfl, rfl⟩, ?_⟩
            refine ⟨MF.eq (.pointer (some ⟨zb, zo + i, none⟩)), ?_, ?_⟩
            · intro Mx H w hle2 hs; (try replace hle := hle.trans hle2); (try replace hlb := hlb.trans hle2); refine forVals_eq rfl rfl rfl ?_; refine forVals_eq rfl rfl rfl ?_
              refine forVals_nil (ORg.plain (OR.idx i T43.und T5 rfl rfl rfl hgi' ?_))
              exact ⟨_, [], Hp.le.refl _, hs, rfl, rfl⟩
            refine ⟨MF.eq (B ge[i]), ?_, ?_⟩
            · intro Mx H w hle2 hs; (try replace hle := hle.trans hle2); (try replace hlb := hlb.trans hle2); refine forVals_eq rfl rfl rfl ?_
              refine forVals_nil (ORg.plain (OR.load T5 rfl rfl (hs.cell (hcell.mono hle hzi)) ?_))
              exact ⟨_, [], Hp.le.refl _, hs, rfl, rfl⟩
            refine ⟨MF.eq (.int .u64 (ge[i].toNat : Int)), ?_, ?_⟩
            · intro Mx H w hle2 hs; (try replace hle := hle.trans hle2); (try replace hlb := hlb.trans hle2); refine forVals_eq rfl rfl rfl ?_
              refine forVals_nil (ORg.plain (OR.convI T5.und T22.und rfl ?_))
              exact ⟨_, [], Hp.le.refl _, hs, (by rw [u64_wrap _ (by omega)]), rfl⟩
            refine ⟨MF.eq _, by intro Mx H w hle hs; refine forVals_nil (ORg.plain (OR.move rfl ?_)); exact ⟨_, [], Hp.le.refl _, hs, rfl, rfl⟩, ?_⟩
            refine ⟨MF.eq (.int .u64 (D.chunks.length : Int)), ?_, ?_⟩
            · intro Mx H w hle2 hs; (try replace hle := hle.trans hle2); (try replace hlb := hlb.trans hle2); refine forVals_eq rfl rfl rfl ?_
              refine forVals_nil (ORg.plain (OR.call hs body31 rfl rfl (gens_ok xb D o2 _ _ hs.toSub (hs.mem xb o2 true (List.mem_append_right _ (List.mem_append_right _ (List.mem_cons_self ..)))).1 (hs.mem xb o2 true (List.mem_append_right _ (List.mem_append_right _ (List.mem_cons_self ..)))).2.1 (hx2.mono hlb) (by omega)) ?_))
              clear hs; rintro _ H w hs hle1 rfl
              exact ⟨_, [], hle1, hs, rfl, rfl⟩
            intro H w hle2; (try replace hle := hle.trans hle2); (try replace hlb := hlb.trans hle2)
            refine forAllVals_eq rfl ?_
            refine forAllVals_eq rfl ?_
            refine forAllVals_eq rfl ?_
            refine forAllVals_eq rfl ?_
            refine forAllVals_eq rfl ?_
            refine forAllVals_eq rfl ?_
            refine forAllVals_eq rfl ?_
            refine forAllVals_eq rfl ?_
            refine forAllVals_nil ?_; (try clear hs); intro hs
            refine WO.step rfl (OR.rem rfl rfl (by omega) ?_)
            rw [← Int.ofNat_tmod]
            refine WO.step rfl (OR.assign rfl (WO.done ?_))
            refine WX.arrive ((ge[i].toNat % D.chunks.length)) ⟨rfl, rfl, rfl, rfl, rfl, rfl, rfl, rfl, rfl, rfl, rfl, rfl, rfl,  trivial⟩ ?_
            · exact ⟨Nat.mod_lt _ (by omega), H, hle2, hs⟩
          · refine WC.skip ?_
            refine WX.arrive (0) ⟨rfl, rfl, rfl, rfl, rfl, rfl, rfl, rfl, rfl, rfl, rfl, rfl, rfl,  trivial⟩ ?_
            · exact ⟨by omega, H, Hp.le.refl _, hs⟩
        · clear hs
          obtain ⟨hgv, H2, hl2, hs⟩ := hW
          replace hle := hle.trans hl2
          replace hlb := hlb.trans hl2
          replace hb9' := hb9'.mono hl2
          replace hs : HS [] H0 w0 H2 (relMem true y rb wb l ++ ([(xb, o2, true), (kb, sinkObj ⟨D.g, D.s, d, 0, false, false⟩, true)] ++ Mo)) w := hs
          have hlc := hl2
          refine WC.seq (WC.region (WO.step rfl (OR.move rfl ?_)))
          refine WO.step rfl (OR.make1 (m := D.g) hs T43.und T5 rfl rfl rfl (by omega) (by omega) ?_)
          clear hs; intro gc w hgc hs
          refine WO.step rfl (OR.assign rfl (WO.done (WX.seq (WC.seq (WC.region (WO.step rfl (OR.move rfl ?_)))))))
          refine WO.step rfl (OR.move rfl ?_)
          refine WO.step rfl (OR.copyO hs ((co[i].take D.g).map B) T43.und T5 rfl rfl (by rw [List.length_map, List.length_take, natmin (c := min D.g co[i].length) (by omega)]; omega) (Sl.src0 hb9') (fun q hq j u hj => Sl.src hb9' hs q hq j u (by rw [List.map_take] at hj; exact get_take hj)) (by simp; omega) (bytes_one _) ?_)
          clear hs; intro w hs
          replace hs : HS [] H0 w0 H2 ((gc, .cells ((padTo D.g co[i]).map B).toArray 5, true) :: (relMem true y rb wb l ++ ([(xb, o2, true), (kb, sinkObj ⟨D.g, D.s, d, 0, false, false⟩, true)] ++ Mo))) w := by rw [← padTo_cells]; exact hs
          refine WO.done (WX.seq (WC.seq (WC.region (WO.step rfl (OR.move rfl (WO.step rfl (OR.move rfl ?_)))))))
          refine WO.step rfl (OR.move rfl ?_)
          obtain ⟨H, hle1, hp_gc, hs9⟩ := hs.pub1 hgc; clear hs; have hs := hs9; clear hs9; replace hle := hle.trans hle1; (try replace hlb := hlb.trans hle1)
          replace hlc := hlc.trans hle1
          have hpc := Bytes.block (l := padTo D.g co[i]) (cap := D.g) hp_gc (by rw [padTo_length]; exact List.take_of_length_le (by simp [padTo_length])) (by simp [padTo_length])
          rw [padTo_length] at hpc
          have hyr := symF_row hok2 hgv
          have hxm := hs.mem xb o2 true (List.mem_append_right _ (List.mem_cons_self ..))
          refine WO.step rfl (OR.call hs body32 rfl rfl (srow_ok xb gv _ (padTo D.g co[i]) D o2 _ _ hs.toSub hxm.1 hxm.2.1 (hx2.mono hlb) hok2 hpc (by rw [padTo_length]; omega)) ?_)
          clear hs; rintro _ H w hs hle1 ⟨rv, rfl, hrv⟩
          replace hle := hle.trans hle1
          replace hlb := hlb.trans hle1
          replace hlc := hlc.trans hle1
          have hF : rowF D gv (padTo D.g co[i]) = (padTo D.g co[i], comb D.s (symF D gv) (padTo D.g co[i])) := by rw [rowF, if_pos ⟨hgv, padTo_length _ _⟩]
          have hE : rowE D gv (padTo D.g co[i]) = 0 := by rw [rowE, if_pos hgv, if_pos (padTo_length _ _)]
          have htr := laid_true (g := D.g) (symF D gv) co[i] hyr
          rw [hE]
          rw [hF] at hrv
          replace hrv : RowV H rv (laidRow D.g D.s (symF D gv) co[i]) := hrv
          obtain ⟨rc, rp, rfl, hrc, hrp⟩ := hrv
          generalize laidRow D.g D.s (symF D gv) co[i] = r at *
          clear hF hE
          obtain ⟨b4, c4, hf4⟩ := hrc.form
          obtain ⟨b5, c5, hf5⟩ := hrp.form
          subst hf4 hf5
          refine WO.step rfl (OR.move rfl (WO.step rfl (OR.extract rfl rfl (WO.step rfl (OR.extract rfl rfl (WO.step rfl (OR.alloc hs T45 ?_)))))))
          clear hs; intro g2 w hg2 hs
          refine WO.stepN (OR.storeAll hs T45 rfl rfl rfl rfl rfl ?_)
          clear hs; intro w hs
          refine WO.step rfl (OR.assign rfl (WO.done (WX.seq (WC.seq (WC.region (WO.step rfl (OR.move rfl ?_)))))))
          refine WO.step rfl (OR.move rfl (WO.step rfl (OR.loadAll T45 rfl rfl (hs.blk (i := 0) rfl) rfl ?_)))
          obtain ⟨H, hle1, hp_g2, hs9⟩ := hs.pub1 hg2; clear hs; have hs := hs9; clear hs9; replace hle := hle.trans hle1; (try replace hlb := hlb.trans hle1)
          replace hrc := hrc.mono hle1
          replace hrp := hrp.mono hle1
          replace hlc := hlc.trans hle1
          refine WO.step rfl (OR.callX (Mx := relMem true y rb wb l) (Mr := [(xb, o2, true), (kb, sinkObj ⟨D.g, D.s, d, 0, false, false⟩, true)] ++ Mo) hs body15 rfl rfl (rtake_ok' rb wb gv _ _ y l r _ _ (HS.relRW (Mr := [(xb, o2, true), (kb, sinkObj ⟨D.g, D.s, d, 0, false, false⟩, true)] ++ Mo) hs) (hI.sl.mono hlc) hI.ok (by omega) hrc hrp) rfl (relMem_flags _ _ _ _) ?_)
          clear hs; rintro v H M w hs hle1 hnew ⟨rfl, l2, rfl, hsl2⟩
          replace hle := hle.trans hle1
          replace hlb := hlb.trans hle1
          have hord2 := hI.ord.take hok2 hgv htr.2 htr.1
          have hokY := hI.ok.take gv r
          have hI2 : SoI D H0 HB H w0 (y.take gv r) l2 d Mo vo := ⟨hle, hlb, hokY, hsl2, hord2, hI.own⟩
          generalize y.take gv r = z at *
          clear hI hsl2 hord2 hokY hrc hrp hlc
          refine WO.done (WX.seq (WC.seq (WC.seq (WC.region (WO.step rfl (OR.move rfl (WO.step rfl ?_)))))))
          refine OR.fieldAddr FA65_5 rfl ?_
          refine WO.step rfl (OR.load T63 rfl rfl (hs.cell (hcell.mono hlb hA5)) ?_)
          refine WO.step rfl (OR.lenSlice T63.und rfl (WO.step rfl (OR.geq rfl rfl (WO.step rfl (OR.move rfl ?_)))))
          refine WO.guardSplit (j := 5) rfl (fun hwi => ?_) (fun hwi => ?_)
          · refine WO.guardNo rfl (decide_eq_true hwi) rfl rfl (WO.guardNo rfl (decide_eq_true hwi) rfl rfl (WO.guardNo rfl (decide_eq_true hwi) rfl rfl (WO.guardNo rfl (decide_eq_true hwi) rfl rfl (WO.guardNo rfl (decide_eq_true hwi) rfl rfl (WO.guardNo rfl (decide_eq_true hwi) rfl rfl (WO.step rfl (OR.pickT rfl (decide_eq_true hwi) rfl ?_)))))))
            refine WO.done (WX.seq (WC.yes rfl rfl (WC.exit (WX.seq_exit (WX.block_hit (WX.seq (WC.region ?_)))))))
            refine WO.step rfl (OR.addI rfl rfl (by omega) (by omega) (WO.step rfl (OR.move rfl (WO.done ?_))))
            refine WX.again ((i + 1, vo)) ⟨rfl, rfl, rfl, rfl, rfl, rfl, rfl, rfl, rfl, rfl,  trivial⟩ ?_ ?_
            · exact ⟨hi', by simp only at h80; omega, H, z, l2, d, Mo, hI2, hs⟩
            · simp only; omega
          · have hiw : i < wh.length := by omega
            obtain ⟨wb2, wo2, rfl, hcw⟩ := Sl.pos hwh (by omega)
            have hcwi := hcw i _ (by rw [List.getElem?_map, List.getElem?_eq_getElem hiw]; rfl)
            refine WO.guardYes rfl (decide_eq_false hwi) rfl rfl (OR.fieldAddr FA65_5 rfl ?_)
            refine WO.guardYes rfl (decide_eq_false hwi) rfl rfl (OR.load T63 rfl rfl (hs.cell (hcell.mono hlb hA5)) ?_)
            refine WO.guardYes rfl (decide_eq_false hwi) rfl rfl (OR.move rfl ?_)
            refine WO.guardYes rfl (decide_eq_false hwi) rfl rfl (OR.idx i T63.und T4 rfl rfl rfl hiw ?_)
            refine WO.guardYes rfl (decide_eq_false hwi) rfl rfl (OR.load T4 rfl rfl (hs.cell (hcell.mono hle hcwi)) ?_)
            refine WO.guardYes rfl (decide_eq_false hwi) rfl rfl (OR.not rfl (WO.step rfl (OR.pickF rfl (decide_eq_false hwi) rfl (WO.done (WX.seq ?_)))))
            refine WC.cond rfl (fun hwb => ?_) (fun hwb => ?_)
            · refine WC.exit (WX.seq_exit (WX.block_hit (WX.seq (WC.region (WO.step rfl (OR.addI rfl rfl (by omega) (by omega) (WO.step rfl ?_)))))))
              refine OR.move rfl (WO.done ?_)
              refine WX.again ((i + 1, vo)) ⟨rfl, rfl, rfl, rfl, rfl, rfl, rfl, rfl, rfl, rfl,  trivial⟩ ?_ ?_
              · exact ⟨hi', by simp only at h80; omega, H, z, l2, d, Mo, hI2, hs⟩
              · simp only; omega
            · have hdn := hI2.ord.dn
              have hkm := hs.mem kb _ true (List.mem_append_right _ (List.mem_cons_of_mem _ (List.mem_cons_self ..)))
              refine WC.skip (WX.seq (WC.seq (WC.region (WO.step rfl (OR.move rfl ?_)))))
              refine WO.step rfl (OR.call hs body24 rfl rfl (kdel_ok kb ⟨D.g, D.s, d, 0, false, false⟩ _ _ hs.toSub hkm.1 hkm.2.1) ?_)
              clear hs; rintro _ H2 w hs hle1 rfl
              replace hle := hle.trans hle1
              replace hlb := hlb.trans hle1
              have hsl2 := hI2.sl.mono hle1
              have hg1 := hI2.ord.g
              have hs1 := hI2.ord.s
              have eK : (⟨D.g, D.s, d, 0, false, false⟩ : SinkD) = skD z 0 false false d := by rw [skD, hg1, hs1]
              rw [eK] at hs
              have hsk : HS [] H0 w0 H2 ([(kb, sinkObj (skD z 0 false false d), true)] ++ (((xb, o2, true) :: Mo) ++ relMem true z rb wb l2)) w := hs.perm permK
              clear hs
              refine WO.step rfl (OR.assign rfl (WO.done (WX.seq (WC.seq (WC.region (WO.step rfl (OR.move rfl ?_)))))))
              refine WO.step rfl (OR.move rfl ?_)
              refine WO.step rfl (OR.callX (Mx := [(kb, _, true)]) (Mr := ((xb, o2, true) :: Mo) ++ relMem true z rb wb l2) hsk body14 rfl rfl (krel_ok kb rb wb d 0 false z l2 _ _ (HS.relKB (A := (xb, o2, true) :: Mo) hsk) hsl2 hI2.ok (by rw [hg1, hs1]; exact hn5) (by omega)) rfl rfl ?_)
              clear hsk; rintro v H3 M w hs hle1 hnew ⟨m, rl, e, br, rfl, hrl, hgood, hdm, rfl, hend⟩
              replace hle := hle.trans hle1
              replace hlb := hlb.trans hle1
              replace hsl2 := hsl2.mono hle1
              obtain ⟨rfl, rfl, hdm2, hrdy, hrk⟩ := hI2.ord.release hok2 hgood hend
              rw [hrdy] at hrl
              have eK2 : skD z 0 false false (d + m) = ⟨D.g, D.s, d + m, 0, false, false⟩ := by rw [skD, hg1, hs1]
              rw [eK2] at hs
              replace hs : HS [] H0 w0 H3 (relMem true z rb wb l2 ++ ([(xb, o2, true), (kb, sinkObj ⟨D.g, D.s, d + m, 0, false, false⟩, true)] ++ Mo)) w := hs.perm permK.symm
              have hml : ((D.chunks.drop d).take m).length = m := by rw [List.length_take, List.length_drop]; omega
              obtain ⟨brl, crl, hfr⟩ := hrl.form
              subst hfr
              have hLk : ∀ k (h : k < m) (h' : k < ((D.chunks.drop d).take m).length), ((D.chunks.drop d).take m)[k] = D.chunks[d + k]'(Nat.lt_of_lt_of_le (Nat.add_lt_add_left h d) hdm2) := fun k h h' => by rw [List.getElem_take, List.getElem_drop]
              generalize (D.chunks.drop d).take m = LL at *
              have hF : ∀ j, (D.chunks.take j).flatten <+: lv := fun j => ⟨(D.chunks.drop j).flatten, by rw [← List.flatten_append, List.take_append_drop]; exact hfl⟩
              have hFl : ∀ j, (D.chunks.take j).flatten.length ≤ 1000 := fun j => Nat.le_trans (hF j).length_le hll
              have hFs : ∀ j (h : j < D.chunks.length), (D.chunks.take (j + 1)).flatten = (D.chunks.take j).flatten ++ D.chunks[j] := fun j h => by rw [List.take_succ_eq_append_getElem h, List.flatten_append]; simp
              refine WO.step rfl (OR.move rfl (WO.step rfl (OR.extract rfl rfl (WO.step rfl (OR.extract rfl rfl (WO.step rfl (OR.assign rfl ?_)))))))
              refine WO.step rfl (OR.assign rfl (WO.done (WX.seq (WC.seq (WC.seq (WC.region (WO.step rfl ?_)))))))
              refine OR.move rfl (WO.step rfl (OR.neq rfl rfl (WO.step rfl (OR.move rfl ?_))))
              refine WO.guardYes rfl rfl rfl rfl (OR.move rfl (WO.guardYes rfl rfl rfl rfl (OR.lenSlice T40.und rfl ?_)))
              refine WO.guardYes rfl rfl rfl rfl (OR.convI T3.und T22.und rfl ?_)
              rw [u64_wrap LL.length (by omega)]
              have hkm := hs.mem kb _ true (List.mem_append_right _ (List.mem_cons_of_mem _ (List.mem_cons_self ..)))
              have hlc := Hp.le.refl H3
              refine WO.guardYes rfl rfl rfl rfl (OR.move rfl ?_)
              refine WO.guardYes rfl rfl rfl rfl (OR.call hs body24 rfl rfl (kdel_ok kb ⟨D.g, D.s, d + m, 0, false, false⟩ _ _ hs.toSub hkm.1 hkm.2.1) ?_)
              clear hs; rintro _ H4 w hs hle1 rfl
              replace hle := hle.trans hle1
              replace hlb := hlb.trans hle1
              replace hsl2 := hsl2.mono hle1
              replace hrl := hrl.mono hle1
              refine WO.guardYes rfl rfl rfl rfl (OR.move rfl ?_)
              refine WO.guardYes rfl rfl rfl rfl (OR.sub rfl rfl ?_)
              rw [show IntKind.u64.wrap (((d + m : Nat) : Int) - (d : Int)) = (LL.length : Int) from by rw [show ((d + m : Nat) : Int) - (d : Int) = ((LL.length : Nat) : Int) by omega]; exact u64_wrap _ (by omega)]
              refine WO.guardYes rfl rfl rfl rfl (OR.neq rfl rfl (WO.step rfl (OR.pickF rfl rfl rfl (WO.done (WX.seq ?_)))))
              refine WC.no rfl (decide_eq_false (by omega)) ?_
              refine WC.skip (WX.seq (WC.seq (WC.seq (WC.region (WO.step rfl (OR.move rfl (WO.step rfl ?_)))))))
              refine OR.lenSlice T40.und rfl (WO.step rfl (OR.move rfl (WO.done (WX.seq (WC.block ?_)))))
              have ho := hI2.own
              clear hlc
              refine WC.loop (ι := Nat × Value) (fun ix => [(1, ptr g1), (3, .int .i64 (D.g : Int)), (5, ptr xb), (7, .slice bv lv.length cv), (8, ptr kb), (10, ptr rb), (12, ix.2), (82, .slice (some ⟨yb, yo, none⟩) co.length cc), (83, .int .i64 (co.length : Int)), (84, .int .i64 (i : Int)), (154, .slice brl LL.length crl), (155, .int .i64 (LL.length : Int)), (156, .int .i64 (ix.1 : Int))]) (fun ix w => (ix.1 ≤ LL.length ∧ ∃ H Mo, Hp.le H0 H ∧ Hp.le HB H ∧ Hp.le H4 H ∧ Own w0.heap.size 5 1 ix.2 (D.chunks.take (d + ix.1)).flatten.length ((D.chunks.take (d + ix.1)).flatten.map B) Mo ∧ HS [] H0 w0 H (relMem true z rb wb l2 ++ ([(xb, o2, true), (kb, sinkObj ⟨D.g, D.s, d + m, 0, false, false⟩, true)] ++ Mo)) w)) (fun ix => LL.length - ix.1) (0, vo) ⟨rfl, rfl, rfl, rfl, rfl, rfl, rfl, rfl, rfl, rfl, rfl, rfl, rfl,  trivial⟩ ?_ (fun ix w hW => ?_)
              · exact ⟨by omega, H4, Mo, hle, hlb, Hp.le.refl _, ho, hs⟩
              clear hs hle hlb ho
              obtain ⟨k, vo2⟩ := ix
              obtain ⟨hk, H, Mo2, hle, hlb, hl4, ho, hs⟩ := hW
              simp only at hk ho
              refine WC.seq (WC.region (WO.step rfl (OR.lss rfl rfl (WO.done (WX.seq (WC.seq ?_))))))
              refine WC.condD rfl (fun hkl => ?_) (fun hkl => ?_)
              · have hk' : k < LL.length := by omega
                obtain ⟨ub, uo, rfl, hcu⟩ := hrl.pos (by omega)
                obtain ⟨e8, he8, hb8⟩ := hcu k hk'
                obtain ⟨b8, c8, rfl⟩ := hb8.form
                have hfk := hFl (d + k + 1)
                rw [hFs (d + k) (by omega), List.length_append, ← hLk k (by omega) hk'] at hfk
                have hln : (LL[k].map B).length = LL[k].length * 1 := by simp
                obtain ⟨bo, co9, hfo⟩ := ho.form
                subst hfo
                refine WC.skip (WX.seq (WC.seq (WC.block (WC.seq (WC.region ?_)))))
                refine WO.step rfl (OR.idx k T40.und T43 rfl rfl rfl hk' ?_)
                refine WO.step rfl (OR.load T43 rfl rfl (hs.cell (hcell.mono hl4 he8)) ?_)
                have hb8' := hb8.mono hl4
                refine WO.step rfl (OR.assign rfl (WO.done (WX.seq (WC.region (WO.step rfl (OR.move rfl (WO.step rfl ?_)))))))
                refine OR.move rfl ?_
                refine WO.step rfl (OR.append (m := LL[k].length) (news := LL[k].map B) (Mo := Mo2) (M := relMem true z rb wb l2 ++ [(xb, o2, true), (kb, sinkObj ⟨D.g, D.s, d + m, 0, false, false⟩, true)]) (hs.perm permO) ho T43.und T5 rfl (by omega) rfl rfl hln (fun q hq j u hj => Sl.src hb8' hs q hq j u hj) (fun q => Sl.src0 hb8' q) (bytes_one _) (by omega) (by omega) ?_)
                clear hs ho; intro v9 w Mo3 hs ho hge9
                replace hs : HS [] H0 w0 H (relMem true z rb wb l2 ++ ([(xb, o2, true), (kb, sinkObj ⟨D.g, D.s, d + m, 0, false, false⟩, true)] ++ Mo3)) w := hs.perm permO.symm
                refine WO.step rfl (OR.assign rfl (WO.done (WX.block (WX.seq (WC.region (WO.step rfl (OR.addI rfl rfl (by omega) (by omega) ?_)))))))
                refine WO.step rfl (OR.move rfl (WO.done ?_))
                refine WX.again ((k + 1, v9)) ⟨rfl, rfl, rfl, rfl, rfl, rfl, rfl, rfl, rfl, rfl, rfl, rfl, rfl,  trivial⟩ ?_ ?_
                · refine ⟨hk', H, Mo3, hle, hlb, hl4, ?_, hs⟩
                  simp only
                  rw [← Nat.add_assoc, hFs (d + k) (by omega), ← hLk k (by omega) hk', List.length_append, List.map_append]
                  exact ho
                · simp only; omega
              · have e : k = LL.length := by omega
                subst e
                rw [hml] at ho
                obtain ⟨bo, co9, hfo⟩ := ho.form
                subst hfo
                have hv9 := hv3.mono hlb
                have hpx : decide ((D.chunks.take (d + m)).flatten <+: lv) = true := decide_eq_true (hF (d + m))
                refine WC.exit (WX.seq_exit (WX.loop_exit (WX.block_hit (WX.seq (WC.seq (WC.seq (WC.region ?_)))))))
                refine WO.step rfl (OR.move rfl (WO.step rfl (OR.move rfl ?_)))
                refine WO.step rfl (OR.callOwn (Mo := Mo2) (M := relMem true z rb wb l2 ++ [(xb, o2, true), (kb, sinkObj ⟨D.g, D.s, d + m, 0, false, false⟩, true)]) (C := fun v => v = .bool true) (hs.perm permO) ho body33 rfl rfl (fun Hx hl hH hb => (hasPrefix_ok _ _ lv _ Hx w hH (hv9.mono hl) hb).mono fun e w2 hp => by rw [hpx] at hp; exact hp) ?_)
                clear hs; rintro _ H5 w hs hle1 rfl
                replace hs : HS [] H0 w0 H5 (relMem true z rb wb l2 ++ ([(xb, o2, true), (kb, sinkObj ⟨D.g, D.s, d + m, 0, false, false⟩, true)] ++ Mo2)) w := hs.perm permO.symm
                replace hle := hle.trans hle1
                replace hlb := hlb.trans hle1
                replace hl4 := hl4.trans hle1
                refine WO.step rfl (OR.not rfl (WO.step rfl (OR.move rfl ?_)))
                have hkm := hs.mem kb _ true (List.mem_append_right _ (List.mem_cons_of_mem _ (List.mem_cons_self ..)))
                refine WO.guardYes rfl rfl rfl rfl (OR.move rfl (WO.guardYes rfl rfl rfl rfl (OR.move rfl ?_)))
                refine WO.guardYes rfl rfl rfl rfl (OR.call hs body24 rfl rfl (kdel_ok kb ⟨D.g, D.s, d + m, 0, false, false⟩ _ _ hs.toSub hkm.1 hkm.2.1) ?_)
                clear hs; rintro _ H6 w hs hle1 rfl
                replace hle := hle.trans hle1
                replace hlb := hlb.trans hle1
                replace hl4 := hl4.trans hle1
                refine WO.guardYes rfl rfl rfl rfl (OR.call hs body34 rfl rfl (rrank_ok rb wb (d + m) z l2 _ _ (HS.relRO (Mr := [(xb, o2, true), (kb, sinkObj ⟨D.g, D.s, d + m, 0, false, false⟩, true)] ++ Mo2) hs) (hsl2.mono hl4) hI2.ok (by omega)) ?_)
                clear hs; rintro _ H7 w hs hle1 rfl
                replace hle := hle.trans hle1
                replace hlb := hlb.trans hle1
                replace hl4 := hl4.trans hle1
                refine WO.guardYes rfl rfl rfl rfl (OR.move rfl (WO.guardYes rfl rfl rfl rfl (OR.eql rfl rfl (WO.step rfl (OR.pickF rfl rfl rfl (WO.done (WX.seq ?_)))))))
                refine WC.no rfl (decide_eq_false (by omega)) ?_
                refine WC.skip (WX.seq (WC.region (WO.step rfl (OR.move rfl (WO.step rfl (OR.move rfl ?_))))))
                have hkm := hs.mem kb _ true (List.mem_append_right _ (List.mem_cons_of_mem _ (List.mem_cons_self ..)))
                refine WO.step rfl (OR.call hs body24 rfl rfl (kdel_ok kb ⟨D.g, D.s, d + m, 0, false, false⟩ _ _ hs.toSub hkm.1 hkm.2.1) ?_)
                clear hs; rintro _ H8 w hs hle1 rfl
                replace hle := hle.trans hle1
                replace hlb := hlb.trans hle1
                replace hl4 := hl4.trans hle1
                refine WO.step rfl (OR.callX (Mx := relMem true z rb wb l2) (Mr := [(xb, o2, true), (kb, sinkObj ⟨D.g, D.s, d + m, 0, false, false⟩, true)] ++ Mo2) hs body21 rfl rfl (rmove_ok rb wb (d + m) z l2 _ _ (HS.relRW (Mr := [(xb, o2, true), (kb, sinkObj ⟨D.g, D.s, d + m, 0, false, false⟩, true)] ++ Mo2) hs) (hsl2.mono hl4) hI2.ok (by omega)) rfl (relMem_flags _ _ _ _) ?_)
                clear hs; rintro v H9 M w hs hle1 hnew ⟨rfl, l4, rfl, hsl4⟩
                replace hle := hle.trans hle1
                replace hlb := hlb.trans hle1
                refine WO.done (WX.block (WX.seq (WC.region (WO.step rfl (OR.addI rfl rfl (by omega) (by omega) (WO.step rfl (OR.move rfl ?_)))))))
                refine WO.done ?_
                refine WX.again ((i + 1, .slice bo _ co9)) ⟨rfl, rfl, rfl, rfl, rfl, rfl, rfl, rfl, rfl, rfl,  trivial⟩ ?_ ?_
                · exact ⟨hi', by simp only at h80; omega, H9, _, l4, d + m, Mo2, ⟨hle, hlb, hI2.ok.moveTo _, hsl4, hI2.ord.move hok2 (by omega) hdm2, ho⟩, hs⟩
                · simp only; omega
    · refine WC.exit (WX.seq_exit (WX.loop_exit (WX.block_hit ?_)))
      refine WX.arrive (vo) ⟨rfl, rfl, rfl, rfl, rfl,  trivial⟩ ?_
      · exact ⟨H, y, l, d, Mo, hI, hs⟩
  · clear hs hle hokR hsl0 hord0
    obtain ⟨H, y, l, d, Mo, hI, hs⟩ := hW
    have hle := hI.le
    have hdn := hI.ord.dn
    have hlb := hI.lb
    have ho := hI.own
    replace hs : HS [] H0 w0 H (relMem true y rb wb l ++ ([(xb, o2, true), (kb, sinkObj ⟨D.g, D.s, d, 0, false, false⟩, true)] ++ Mo)) w := hs
    obtain ⟨bo, co9, hfo⟩ := ho.form
    subst hfo
    replace hs : HS [] H0 w0 H [(xb, o2, true), (kb, sinkObj ⟨D.g, D.s, d, 0, false, false⟩, true)] w := hs.sublist (by exact (List.sublist_append_left _ _).trans (List.sublist_append_right _ _))
    refine WC.seq (WC.region (WO.step rfl (OR.move rfl ?_)))
    refine WO.step rfl (OR.call hs body24 rfl rfl (kdel_ok kb ⟨D.g, D.s, d, 0, false, false⟩ _ _ hs.toSub (hs.blk (i := 1) rfl) (hs.nh (i := 1) rfl)) ?_)
    clear hs; rintro _ H w hs hle1 rfl; replace hle := hle.trans hle1; (try replace hlb := hlb.trans hle1)
    refine WO.step rfl (OR.assign rfl (WO.done (WX.seq (WC.seq (WC.seq (WC.region (WO.step rfl ?_)))))))
    refine OR.move rfl (WO.step rfl (OR.move rfl ?_))
    refine WO.step rfl (OR.call hs body31 rfl rfl (gens_ok xb D o2 _ _ hs.toSub (hs.blk (i := 0) rfl) (hs.nh (i := 0) rfl) (hx2.mono hlb) (by omega)) ?_)
    clear hs; rintro _ H w hs hle1 rfl; replace hle := hle.trans hle1; (try replace hlb := hlb.trans hle1)
    replace hs := hs.front (i := 1) rfl
    have hT : SinkD.totE ⟨D.g, D.s, d, 0, false, false⟩ D.chunks.length = 0 := by
      unfold SinkD.totE
      rw [if_neg (by show ¬ (D.chunks.length < d ∨ 1099511627776 < D.chunks.length); omega), if_neg (by rintro ⟨h, _⟩; cases h)]
    have hT2 : SinkD.total ⟨D.g, D.s, d, 0, false, false⟩ D.chunks.length = ⟨D.g, D.s, d, D.chunks.length, true, false⟩ := SinkD.total_eq hT
    have hlc := Hp.le.refl H
    refine WO.step rfl (OR.callX (Mx := [(kb, _, true)]) (Mr := [(xb, o2, true)]) hs body19 rfl rfl (ktotal_ok kb D.chunks.length ⟨D.g, D.s, d, 0, false, false⟩ _ _ hs.toSub (hs.blk (i := 0) rfl) (hs.nh (i := 0) rfl) hn1) rfl rfl ?_)
    clear hs; rintro v H9 M w hs hle1 hnew ⟨rfl, rfl⟩
    replace hle := hle.trans hle1
    replace hlb := hlb.trans hle1
    rw [hT]
    rw [hT2] at hs
    replace hs : HS [] H0 w0 H9 [(kb, sinkObj ⟨D.g, D.s, d, D.chunks.length, true, false⟩, true), (xb, o2, true)] w := hs
    have hdE : ((true && decide (D.chunks.length = d)) == decide ((d : Int) = (D.chunks.length : Int))) = true := by
      by_cases e : D.chunks.length = d
      · rw [decide_eq_true e, decide_eq_true (by omega)]; rfl
      · rw [decide_eq_false e, decide_eq_false (by omega)]; rfl
    have hlE : ((true && decide (D.chunks.length = d)) == decide (((D.chunks.take d).flatten.length : Int) = (lv.length : Int))) = true := by
      by_cases e : D.chunks.length = d
      · have e2 : (D.chunks.take d).flatten.length = lv.length := by rw [← e, List.take_length, hfl]
        rw [decide_eq_true e, decide_eq_true (by omega)]; rfl
      · have hlt : d < D.chunks.length := by omega
        have h1 : (D.chunks.take d).flatten ++ (D.chunks.drop d).flatten = lv := by rw [← List.flatten_append, List.take_append_drop]; exact hfl
        have h2 : 1 ≤ (D.chunks.drop d).flatten.length := by
          rw [List.drop_eq_getElem_cons hlt, List.flatten_cons, List.length_append]
          have := (hok2.mem _ (List.getElem_mem hlt)).1
          omega
        have h3 := congrArg List.length h1
        rw [List.length_append] at h3
        rw [decide_eq_false e, decide_eq_false (by omega)]; rfl
    refine WO.step rfl (OR.neq rfl rfl (WO.step rfl (OR.move rfl ?_)))
    refine WO.guardYes rfl rfl rfl rfl (OR.move rfl ?_)
    refine WO.guardYes rfl rfl rfl rfl (OR.call hs body25 rfl rfl (kdone_ok kb ⟨D.g, D.s, d, D.chunks.length, true, false⟩ _ _ hs.toSub (hs.blk (i := 0) rfl) (hs.nh (i := 0) rfl)) ?_)
    clear hs; rintro _ H9 w hs hle1 rfl
    replace hle := hle.trans hle1
    replace hlb := hlb.trans hle1
    refine WO.guardYes rfl rfl rfl rfl (OR.move rfl (WO.guardYes rfl rfl rfl rfl (OR.move rfl ?_)))
    refine WO.guardYes rfl rfl rfl rfl (OR.call hs body31 rfl rfl (gens_ok xb D o2 _ _ hs.toSub (hs.blk (i := 1) rfl) (hs.nh (i := 1) rfl) (hx2.mono hlb) (by omega)) ?_)
    clear hs; rintro _ H w hs hle1 rfl; replace hle := hle.trans hle1; (try replace hlb := hlb.trans hle1)
    refine WO.guardYes rfl rfl rfl rfl (OR.eql rfl rfl (WO.guardYes rfl rfl rfl rfl (OR.neqB T4.und rfl rfl (WO.step rfl (OR.pickF rfl rfl rfl (WO.done (WX.seq ?_)))))))
    refine WC.no rfl (by rw [show ((SinkD.mk D.g D.s d D.chunks.length true false).kn && decide ((SinkD.mk D.g D.s d D.chunks.length true false).tot = (SinkD.mk D.g D.s d D.chunks.length true false).dl)) = (true && decide (D.chunks.length = d)) from rfl, hdE]; rfl) ?_
    refine WC.skip (WX.seq (WC.seq (WC.region (WO.step rfl (OR.move rfl ?_)))))
    refine WO.step rfl (OR.call hs body25 rfl rfl (kdone_ok kb ⟨D.g, D.s, d, D.chunks.length, true, false⟩ _ _ hs.toSub (hs.blk (i := 0) rfl) (hs.nh (i := 0) rfl)) ?_)
    clear hs; rintro _ H9 w hs hle1 rfl
    refine WO.step rfl (OR.move rfl (WO.step rfl (OR.lenSlice T43.und rfl (WO.step rfl (OR.move rfl (WO.step rfl (OR.lenSlice T43.und rfl ?_)))))))
    refine WO.step rfl (OR.eql rfl rfl (WO.step rfl (OR.eqlB T4.und rfl rfl (WO.step rfl (OR.assign rfl (WO.done (WX.seq ?_)))))))
    refine WC.ret ?_
    refine WX.ret1 rfl rfl ?_
    refine .mk (hs.sublist (List.nil_sublist _)) ?_
    exact congrArg Value.bool hlE
end Go.Bw
namespace Go.Bw
set_option linter.unusedVariables false
set_option linter.unusedSimpArgs false
open Go.Proofs Go.RowKit Go.ChangeShapes Go.Deep

theorem read_bool {H : Type} {enc : TypeId × Value → H} {P : Program} {w : World} {base : Nat} {spare : Nat → Bool} {held : Bool} {t : TypeId} {fuel : Nat} {cs : List Value} {x : DataW H × List MemPlace} (ht : P.underlying t = some .bool) (h : DataW.trod enc P w base spare held fuel t cs = some x) : ∃ b : Bool, cs = [.bool b] := by
  obtain ⟨b, rfl, _⟩ := DataW.trod_bool ht h
  exact ⟨b, rfl⟩
theorem read_bools {H : Type} {enc : TypeId × Value → H} {P : Program} {w : World} {base : Nat} {spare : Nat → Bool} {held : Bool} {t e : TypeId} {fuel : Nat} {cs : List Value} {x : DataW H × List MemPlace} (ht : P.underlying t = some (.slice e)) (he : P.underlying e = some .bool) (hc : P.cellsOf e = 1)
    (h : DataW.trod enc P w base spare held fuel t cs = some x) : ∃ v l, cs = [v] ∧ Bools (heapOf w) v l ∧ l.length ≤ 9223372036854775807 := by
  obtain ⟨v, len, C, n, rfl, hl, hC, hsl⟩ := read_slice ht hc (by omega) h
  obtain ⟨g, hg⟩ := choose_lt (α := Bool) (p := fun i b => C i = [.bool b]) (fun i hi => by
    obtain ⟨_, y, hy⟩ := hC i hi
    exact read_bool he hy)
  refine ⟨v, (List.range len).map g, rfl, ?_, by simpa using hl⟩
  rw [flat_one len C (fun i => .bool i) g hg] at hsl
  unfold Bools
  simpa using hsl
set_option maxRecDepth 20000 in
theorem open_trip {H : Type} {enc : TypeId × Value → H} {W : World} {base : Nat} {v : Value} {d : DataW H} {p : List MemPlace}
    (hv : Value.okWide Tryz.prog W .any base 65 v) (h : DataW.Trod enc Tryz.prog W 0 (fun _ => true) true 65 v d p) :
    ∃ (G S : UInt8) (vs vg vc vw : Value) (st ge : List UInt8) (co : List (List UInt8)) (wh : List Bool), v = tripV G S vs vg vc vw ∧ Bytes (heapOf W) vs st ∧ Bytes (heapOf W) vg ge ∧ BytesL (heapOf W) vc co ∧ Bools (heapOf W) vw wh ∧ st.length ≤ 9223372036854775807 := by
  obtain ⟨cs, rfl, hsz⟩ := read_struct T65.und hv
  obtain ⟨fuel, h⟩ := h
  obtain ⟨_, n, hf⟩ := read_fields T65.und h
  have c1 : Tryz.prog.cellsOf 5 = 1 := by kernel_rfl
  have c2 : Tryz.prog.cellsOf 43 = 1 := by kernel_rfl
  have c3 : Tryz.prog.cellsOf 40 = 1 := by kernel_rfl
  have c5 : Tryz.prog.cellsOf 4 = 1 := by kernel_rfl
  have c6 : Tryz.prog.cellsOf 63 = 1 := by kernel_rfl
  have c4 : Tryz.prog.cellsOf 65 = 6 := by kernel_rfl
  rw [c4] at hsz
  obtain ⟨l⟩ := cs
  match l, hsz with
  | [a0, a1, a2, a3, a4, a5], _ =>
    obtain ⟨y0, h0⟩ := read_field 5 [a0] (hf 0 _ rfl) rfl c1 rfl
    obtain ⟨y1, h1⟩ := read_field 5 [a1] (hf 1 _ rfl) rfl c1 rfl
    obtain ⟨y2, h2⟩ := read_field 43 [a2] (hf 2 _ rfl) rfl c2 rfl
    obtain ⟨y3, h3⟩ := read_field 43 [a3] (hf 3 _ rfl) rfl c2 rfl
    obtain ⟨y4, h4⟩ := read_field 40 [a4] (hf 4 _ rfl) rfl c3 rfl
    obtain ⟨y5, h5⟩ := read_field 63 [a5] (hf 5 _ rfl) rfl c6 rfl
    obtain ⟨G, e0⟩ := read_byte T5.und h0
    obtain ⟨S, e1⟩ := read_byte T5.und h1
    obtain ⟨v2, st, e2, hst, l2⟩ := read_bytes T43.und T5.und c1 h2
    obtain ⟨v3, ge, e3, hge, l3⟩ := read_bytes T43.und T5.und c1 h3
    obtain ⟨v4, co, e4, hco, l4, _⟩ := read_bytesL T40.und T43.und T5.und c2 c1 h4
    obtain ⟨v5, wh, e5, hwh, l5⟩ := read_bools T63.und T4.und c5 h5
    simp at e0 e1 e2 e3 e4 e5
    subst e0 e1 e2 e3 e4 e5
    exact ⟨G, S, _, _, _, _, st, ge, co, wh, rfl, hst, hge, hco, hwh, l2⟩
set_option maxRecDepth 20000 in
theorem law_SinkOrder {H : Type} {enc : TypeId × Value → H} {W : World} {base : Nat} {v : Value} {d : DataW H} {p : List MemPlace}
    (hv : Value.okWide Tryz.prog W .any base 65 v) (h : DataW.Trod enc Tryz.prog W 0 (fun _ => true) true 65 v d p) :
    Calls Tryz.prog 4 #[v] W fun e w' => e = .returned (.bool true) ∧ Below W.heap.size W w' := by
  obtain ⟨G, S, vs, vg, vc, vw, st, ge, co, wh, rfl, hst, hge, hco, hwh, l2⟩ := open_trip hv h
  exact (sorder_ok G S _ _ _ _ st ge co wh _ W (heapOf.sub W) hst hge hco hwh l2).mono fun e w' h => h.law fun _ _ h => h
end Go.Bw
