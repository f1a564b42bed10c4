/- Relays one behind the other: in memory, and what stays so. -/
import Derived.Test.YtdibepkfgemddaaHops
namespace Go.Bw
set_option linter.unusedVariables false
set_option linter.unusedSimpArgs false
open Go.Proofs

structure HopR where
  rb : Nat
  wb : Nat
  l : Slots
  A : List RowD
def rxMem (g s : Nat) (x : HopR) : Mem := relMem true (relT g s 2 1 x.A) x.rb x.wb x.l
def hopMem (g s : Nat) (L : List HopR) : Mem := L.flatMap (rxMem g s)
theorem hop_perm (g s : Nat) {L : List HopR} {k : Nat} (h : k < L.length) : (hopMem g s L).Perm (rxMem g s L[k] ++ hopMem g s (L.take k ++ L.drop (k + 1))) := by
  have e : L = L.take k ++ L[k] :: L.drop (k + 1) := by rw [← List.drop_eq_getElem_cons h, List.take_append_drop]
  have e2 : hopMem g s L = hopMem g s (L.take k) ++ (rxMem g s L[k] ++ hopMem g s (L.drop (k + 1))) := by
    conv => lhs; rw [e]
    simp only [hopMem, List.flatMap_append, List.flatMap_cons]
  have e3 : hopMem g s (L.take k ++ L.drop (k + 1)) = hopMem g s (L.take k) ++ hopMem g s (L.drop (k + 1)) := by simp only [hopMem, List.flatMap_append]
  rw [e2, e3, ← List.append_assoc, ← List.append_assoc]
  exact List.perm_append_comm.append_right _
theorem hop_perm_set (g s : Nat) {L : List HopR} {k : Nat} (h : k < L.length) (y : HopR) : (hopMem g s (L.set k y)).Perm (rxMem g s y ++ hopMem g s (L.take k ++ L.drop (k + 1))) := by
  have e2 : hopMem g s (L.set k y) = hopMem g s (L.take k) ++ (rxMem g s y ++ hopMem g s (L.drop (k + 1))) := by
    rw [List.set_eq_take_append_cons_drop, if_pos h]
    simp only [hopMem, List.flatMap_append, List.flatMap_cons]
  have e3 : hopMem g s (L.take k ++ L.drop (k + 1)) = hopMem g s (L.take k) ++ hopMem g s (L.drop (k + 1)) := by simp only [hopMem, List.flatMap_append]
  rw [e2, e3, ← List.append_assoc, ← List.append_assoc]
  exact List.perm_append_comm.append_right _
theorem HS.hopOut {xs : List Nat} {H0 H : Hp} {w0 w : World} {g s k : Nat} {L : List HopR} (hs : HS xs H0 w0 H (hopMem g s L) w) (h : k < L.length) :
    HS xs H0 w0 H (relMem true (relT g s 2 1 L[k].A) L[k].rb L[k].wb L[k].l ++ hopMem g s (L.take k ++ L.drop (k + 1))) w := hs.perm (hop_perm g s h).symm
theorem HS.hopIn {xs : List Nat} {H0 H : Hp} {w0 w : World} {g s k rb wb : Nat} {l : Slots} {A : List RowD} {L : List HopR} (hs : HS xs H0 w0 H (relMem true (relT g s 2 1 A) rb wb l ++ hopMem g s (L.take k ++ L.drop (k + 1))) w) (h : k < L.length) :
    HS xs H0 w0 H (hopMem g s (L.set k ⟨rb, wb, l, A⟩)) w := hs.perm (hop_perm_set g s h ⟨rb, wb, l, A⟩)
/-- A relay of several, only read. -/
theorem HS.hopRO {xs : List Nat} {H0 H : Hp} {w0 w : World} {g s k : Nat} {L : List HopR} (hs : HS xs H0 w0 H (hopMem g s L) w) (h : k < L.length) :
    HS [] H w H (relMem false (relT g s 2 1 L[k].A) L[k].rb L[k].wb L[k].l) w := HS.relRO (hs.hopOut h)

structure HopI (H : Hp) (g s : Nat) (ys : List (List UInt8)) (ar : Nat) (L : List HopR) : Prop where
  len : L.length = 4
  good : ∀ k (h : k < L.length), Good g s ys L[k].A
  slots : ∀ k (h : k < L.length), SlotsOk H (relT g s 2 1 L[k].A) L[k].l
  sub : ∀ k (h : k + 1 < L.length), ∀ x ∈ L[k + 1].A, InS L[k].A (fun _ => True) x
  ptr : ∀ k (h : k < L.length), hcell H ⟨ar, 0 + k, none⟩ = some (ptr L[k].rb)
theorem HopI.mono {H H' : Hp} {g s ar : Nat} {ys : List (List UInt8)} {L : List HopR} (h : HopI H g s ys ar L) (hle : Hp.le H H') : HopI H' g s ys ar L :=
  ⟨h.len, h.good, fun k hk => (h.slots k hk).mono hle, h.sub, fun k hk => hcell.mono hle (h.ptr k hk)⟩
/-- A row taken by one of them. -/
theorem HopI.upd {H : Hp} {g s ar k : Nat} {ys : List (List UInt8)} {L : List HopR} (h : HopI H g s ys ar L) (hk : k < L.length) {r : RowD} (htr : Tr ys r) (hgr : RowGS g s r) (hin : ∀ (h0 : 0 < k), InS (L[k - 1]'(by omega)).A (fun _ => True) r) (l' : Slots)
    (hl : SlotsOk H (relT g s 2 1 (insR g s L[k].A r).2) l') : HopI H g s ys ar (L.set k ⟨L[k].rb, L[k].wb, l', (insR g s L[k].A r).2⟩) := by
  have hgk := h.good k hk
  refine ⟨by rw [List.length_set]; exact h.len, ?_, ?_, ?_, ?_⟩
  · intro j hj
    rw [List.length_set] at hj
    rw [List.getElem_set]
    split
    · exact hgk.ins hgr htr
    · exact h.good j hj
  · intro j hj
    rw [List.length_set] at hj
    rw [List.getElem_set]
    split
    · exact hl
    · exact h.slots j hj
  · intro j hj
    rw [List.length_set] at hj
    rw [List.getElem_set, List.getElem_set]
    by_cases e : k = j + 1
    · rw [if_pos e, if_neg (by omega)]
      have hin' := hin (by omega)
      simp only [e] at hin'
      intro x hx
      have hin2 : InS L[j].A (fun _ => True) r := by
        have e9 : j + 1 - 1 = j := by omega
        simp only [e9] at hin'
        exact hin'
      have hsub := h.sub j hj
      subst e
      exact (InS.insR (A := L[j].A) (fun y hy => ⟨hgk.red.gs y hy, hsub y hy⟩) hgr hin2 x hx).2
    · rw [if_neg e]
      intro x hx
      have h1 := h.sub j hj x hx
      by_cases e2 : k = j
      · rw [if_pos e2]
        subst e2
        exact hgk.keep hgr (fun _ => trivial) ((h.good (k + 1) hj).red.gs x hx) h1
      · rw [if_neg e2]
        exact h1
  · intro j hj
    rw [List.length_set] at hj
    rw [List.getElem_set]
    split
    · rename_i e
      subst e
      exact h.ptr k hk
    · exact h.ptr j hj
end Go.Bw
