/- SourceKeeps walked. -/
import Derived.Test.YtbgdgmilcojlbaaKeep
import Derived.Test.YtbgdgmilcojlbaaLinear
import Derived.Test.YtbgdgmilcojlbaaLaw
namespace Go.Bw
set_option linter.unusedVariables false
set_option linter.unusedSimpArgs false
open Go.Proofs

structure ActD where
  what : Int
  b : List UInt8
  n : Nat
  sent : Nat
/-- A list of calls in memory. -/
def Acts (H : Hp) (v : Value) (len : Nat) (A : Nat → ActD) (V : Nat → Value) : Prop :=
  Sl H 4 v len ((List.range len).flatMap fun i => [.int .i64 (A i).what, V i, .int .u64 ((A i).n : Int), .int .u64 ((A i).sent : Int)]) ∧ ∀ i, i < len → Bytes H (V i) (A i).b ∧ (A i).b.length ≤ 9223372036854775807 ∧ (A i).n < 18446744073709551616
theorem Acts.pos {H : Hp} {len cap : Nat} {base : Option Addr} {A : Nat → ActD} {V : Nat → Value} (h : Acts H (.slice base len cap) len A V) (hn : 0 < len) :
    ∃ b o, base = some ⟨b, o, none⟩ ∧ ∀ i, i < len → ∀ j u, [.int .i64 (A i).what, V i, .int .u64 ((A i).n : Int), .int .u64 ((A i).sent : Int)][j]? = some u → hcell H ((⟨b, o + i * 4, none⟩ : Addr).add j) = some u := by
  obtain ⟨b, o, h4, h5⟩ := h.1.pos hn
  refine ⟨b, o, h4, fun i hi j u hj => ?_⟩
  have h6 := (flat_get (C := fun i => [Value.int .i64 (A i).what, V i, .int .u64 ((A i).n : Int), .int .u64 ((A i).sent : Int)]) (sz := 4) len (fun _ _ => rfl)).2 i hi j (by have := (List.getElem?_eq_some_iff.1 hj).1; simpa using this)
  rw [add_off, Nat.add_assoc]
  exact h5 _ _ (h6.trans hj)

/-- What is kept from round to round. -/
structure KeepI (H0 : Hp) (w0 : World) (x n m i : Nat) (va vw : Value) (cl : Bool) (D : SrcD) (o : Obj) (H : Hp) (Ma Mw : Mem) (cs : List Value) (wl : Nat) : Prop where
  le : Hp.le H0 H
  ok : SrcOk D
  g : D.g = n
  s : D.s = m
  clq : D.cl = cl
  opn : cl = true → D.opn = []
  cuts : D.cuts.length ≤ i
  src : SrcIn H D o
  all : Own w0.heap.size 5 1 va D.st.length (D.st.map B) Ma
  was : Own w0.heap.size 22 1 vw wl cs Mw
  wle : wl ≤ D.chunks.length
  wok : ∀ k, k < wl → ∀ u, cs[k]? = some u → BytesL H u (symF D k)

theorem HS.turn {xs : List Nat} {H0 H : Hp} {w0 w : World} {A B C : Mem} (h : HS xs H0 w0 H (A ++ (B ++ C)) w) : HS xs H0 w0 H (B ++ (A ++ C)) w :=
  h.perm (by rw [← List.append_assoc, ← List.append_assoc]; exact List.perm_append_comm.append_right C)

theorem KeepI.next {H0 : Hp} {w0 : World} {x n m i : Nat} {va vw : Value} {cl : Bool} {D : SrcD} {o : Obj} {H : Hp} {Ma Mw : Mem} {cs : List Value} {wl : Nat} (hI : KeepI H0 w0 x n m i va vw cl D o H Ma Mw cs wl)
    {va' : Value} {cl' : Bool} {D' : SrcD} {o' : Obj} {H' : Hp} {Ma' : Mem} (hle : Hp.le H H') (ok : SrcOk D') (g : D'.g = D.g) (s : D'.s = D.s) (clq : D'.cl = cl') (opn : cl' = true → D'.opn = []) (cuts : D'.cuts.length ≤ D.cuts.length + 1)
    (src : SrcIn H' D' o') (all : Own w0.heap.size 5 1 va' D'.st.length (D'.st.map B) Ma') (hp : D.chunks <+: D'.chunks) : KeepI H0 w0 x n m (i + 1) va' vw cl' D' o' H' Ma' Mw cs wl :=
  ⟨hI.le.trans hle, ok, g.trans hI.g, s.trans hI.s, clq, opn, by have := hI.cuts; omega, src, all, hI.was, Nat.le_trans hI.wle hp.length_le, fun k hk u hu => by
    rw [symF_prefix hp g s (by have := hI.wle; omega)]
    exact (hI.wok k hk u hu).mono hle⟩

theorem sub_cases (D : SrcD) (l : List UInt8) (most : Nat) : (D.cl = true ∧ subE D l most = 27 ∧ subD D l most = D) ∨ (D.cl = false ∧ subE D l most = 0 ∧ subD D l most = longD D l) ∨ (D.cl = false ∧ subE D l most = 7 ∧ subD D l most = D) := by
  unfold subE subD
  cases D.cl with
  | true => exact .inl ⟨rfl, rfl, rfl⟩
  | false =>
    by_cases hf : subFits D l most
    · exact .inr (.inl ⟨rfl, by rw [if_neg (by decide), if_pos hf], by rw [if_neg (by decide), if_pos hf]⟩)
    · exact .inr (.inr ⟨rfl, by rw [if_neg (by decide), if_neg hf], by rw [if_neg (by decide), if_neg hf]⟩)
theorem cut_len (D : SrcD) : (cutD D).cuts.length ≤ D.cuts.length + 1 := by unfold cutD; split <;> simp

theorem HS.bringLast {xs : List Nat} {H0 H : Hp} {w0 w : World} {A B C D : Mem} (h : HS xs H0 w0 H (A ++ (B ++ (C ++ D))) w) : HS xs H0 w0 H (D ++ (A ++ (B ++ C))) w :=
  h.perm (by rw [show A ++ (B ++ (C ++ D)) = (A ++ (B ++ C)) ++ D from by simp [List.append_assoc]]; exact List.perm_append_comm)
theorem HS.putLast {xs : List Nat} {H0 H : Hp} {w0 w : World} {A B C D : Mem} (h : HS xs H0 w0 H (D ++ (A ++ (B ++ C))) w) : HS xs H0 w0 H (A ++ (B ++ (C ++ D))) w :=
  h.perm (by rw [show A ++ (B ++ (C ++ D)) = (A ++ (B ++ C)) ++ D from by simp [List.append_assoc]]; exact List.perm_append_comm)
theorem HS.bringC {xs : List Nat} {H0 H : Hp} {w0 w : World} {A B C D : Mem} (h : HS xs H0 w0 H (A ++ (B ++ (C ++ D))) w) : HS xs H0 w0 H (C ++ (A ++ (B ++ D))) w :=
  h.perm (by have := List.perm_append_comm_assoc C (A ++ B) D; simpa [List.append_assoc] using this)
theorem HS.putC {xs : List Nat} {H0 H : Hp} {w0 w : World} {A B C D : Mem} (h : HS xs H0 w0 H (C ++ (A ++ (B ++ D))) w) : HS xs H0 w0 H (A ++ (B ++ (C ++ D))) w :=
  h.perm (by have := List.perm_append_comm_assoc (A ++ B) C D; simpa [List.append_assoc] using this)
theorem cell_at {w : World} {g k : Nat} {c : Array Value} {e : TypeId} {fr : Nat × Nat} {v : Value} (h : w.heap[g]? = some (.cells c e fr)) (hk : c.toList[k]? = some v) : w.cell? ⟨g, k, none⟩ = some v := by
  simpa [World.cell?, h] using hk

set_option maxRecDepth 20000 in
set_option maxHeartbeats 2000000 in
theorem skeeps_ok (G S : UInt8) (vl : Value) (len : Nat) (A : Nat → ActD) (V : Nat → Value) (H0 : Hp) (w0 : World) (h0 : Sub H0 w0) (hl : Acts H0 vl len A V) (hlen : len ≤ 9223372036854775807) :
    Calls Try.prog 13 #[B G, B S, vl] w0 (Pure H0 w0 fun v _ => v = .bool true) := by
  have hs := HS.init h0
  have hle := Hp.le.refl H0
  have hl0 := hl.1
  obtain ⟨bl, cl0, rfl⟩ := hl0.form
  have hG : (1 : Int) + (G.toNat : Int).tmod 12 = (slG G : Int) := rfl
  have hS : (5 : Int) + (S.toNat : Int).tmod 12 = (slS S : Int) := rfl
  have hng : 1 ≤ slG G ∧ slG G ≤ 12 := by have := Nat.mod_lt G.toNat (by omega : 0 < 12); unfold slG; omega
  have hns : 5 ≤ slS S ∧ slS S ≤ 16 := by have := Nat.mod_lt S.toNat (by omega : 0 < 12); unfold slS; omega
  have hgd := sl_good G S
  generalize hg9 : slG G = n at *
  generalize hs9 : slS S = m at *
  refine Calls.enter (args := [B G, B S, .slice bl len cl0]) Try.func13 rfl Try.ntmps13 rfl ?_
  refine WC.seq (WC.region (WO.step rfl (OR.assign rfl (WO.done (WX.seq (WC.seq (WC.region ?_)))))))
  refine WO.step rfl (OR.move rfl ?_)
  refine WO.step rfl (OR.convB T5.und T3.und rfl ?_)
  refine WO.step rfl (OR.rem rfl rfl (by omega) ?_)
  refine WO.step rfl (OR.addI rfl rfl (by omega) (by omega) (WO.step rfl (OR.move rfl ?_)))
  refine WO.step rfl (OR.convB T5.und T3.und rfl ?_)
  refine WO.step rfl (OR.rem rfl rfl (by omega) ?_)
  refine WO.step rfl (OR.addI rfl rfl (by omega) (by omega) (WO.step rfl (OR.assign rfl (WO.step rfl (OR.assign rfl (WO.done (WX.seq ?_)))))))
  refine WC.seq (WC.region (WO.step rfl (OR.move rfl (WO.step rfl (OR.move rfl ?_)))))
  rw [hG, hS]
  refine WO.step rfl (OR.callX (Mx := []) hs body27 rfl rfl (snew_ok n m _ _ hs.toSub hgd) rfl rfl ?_)
  clear hs; rintro _ H M' w hs hle1 hnew ⟨x, o, rfl, rfl, hx0, hx⟩; replace hle := hle.trans hle1; (try replace hlb := hlb.trans hle1)
  refine WO.step rfl (OR.move rfl (WO.step rfl (OR.extract rfl rfl (WO.step rfl (OR.extract rfl rfl (WO.step rfl (OR.assign rfl ?_)))))))
  refine WO.step rfl (OR.assign rfl (WO.done (WX.seq (WC.seq (WC.seq (WC.region ?_))))))
  refine WO.step rfl (OR.call hs body28 rfl rfl (awake13_ok _ _ hs.toSub) ?_)
  clear hs; rintro _ H w hs hle1 rfl; replace hle := hle.trans hle1; (try replace hlb := hlb.trans hle1)
  replace hx := hx.mono hle1
  refine WO.step rfl (OR.not rfl (WO.step rfl (OR.move rfl ?_)))
  refine WO.guardYes rfl rfl rfl rfl (OR.move rfl (WO.guardYes rfl rfl rfl rfl (OR.neq rfl rfl (WO.step rfl (OR.pickF rfl rfl rfl (WO.done (WX.seq ?_)))))))
  refine WC.no rfl rfl ?_
  refine WC.skip (WX.seq (WC.seq (WC.region (WO.step rfl (OR.assign rfl (WO.done (WX.seq ?_)))))))
  refine WC.seq (WC.region (WO.step rfl (OR.assign rfl (WO.done (WX.seq (WC.seq (WC.region ?_)))))))
  refine WO.step rfl (OR.assign rfl (WO.done (WX.seq (WC.seq (WC.seq (WC.region (WO.step rfl ?_)))))))
  refine OR.move rfl (WO.step rfl (OR.lenSlice T94.und rfl (WO.step rfl (OR.move rfl (WO.done (WX.seq ?_))))))
  refine WC.joinK (ι := Value × Value × Bool) (fun ix => [(7, .int .i64 (n : Int)), (8, .int .i64 (m : Int)), (9, ptr x), (12, ix.2.1)]) (fun ix w => (∃ D o H Ma Mw cs wl, KeepI H0 w0 x n m 40 ix.1 ix.2.1 ix.2.2 D o H Ma Mw cs wl ∧ HS [] H0 w0 H ([(x, o, true)] ++ (Ma ++ Mw)) w)) ?_ (fun ix w hW => ?_)
  · refine WC.block ?_
    refine WC.loop (ι := Nat × Value × Value × Bool) (fun ix => [(7, .int .i64 (n : Int)), (8, .int .i64 (m : Int)), (9, ptr x), (11, ix.2.1), (12, ix.2.2.1), (13, .bool ix.2.2.2), (48, .slice bl len cl0), (49, .int .i64 (len : Int)), (50, .int .i64 (ix.1 : Int))]) (fun ix w => (ix.1 ≤ len ∧ ix.1 ≤ 40 ∧ ∃ D o H Ma Mw cs wl, KeepI H0 w0 x n m ix.1 ix.2.1 ix.2.2.1 ix.2.2.2 D o H Ma Mw cs wl ∧ HS [] H0 w0 H ([(x, o, true)] ++ (Ma ++ Mw)) w)) (fun ix => len - ix.1) (0, .slice none 0 0, .slice none 0 0, false) ⟨rfl, rfl, rfl, rfl, rfl, rfl, rfl, rfl, rfl,  trivial⟩ ?_ (fun ix w hW => ?_)
    · exact ⟨by omega, by omega, newD n m [] [] false, o, H, [], [], [], 0, ⟨hle, newD_ok hgd, rfl, rfl, rfl, (fun h => by cases h), Nat.zero_le _, hx, Own.nil _ _ _, Own.nil _ _ _, Nat.zero_le _, fun k h => by omega⟩, hs⟩
    clear hs hle hx
    obtain ⟨i, va, vw, cl⟩ := ix
    obtain ⟨hi, hi40, D, o2, H, Ma, Mw, cs, wl, hI, hs⟩ := hW
    simp only at hi hi40 hI
    have hle := hI.le
    refine WC.seq (WC.region (WO.step rfl (OR.lss rfl rfl (WO.done (WX.seq (WC.seq ?_))))))
    refine WC.condD rfl (fun hlt => ?_) (fun hlt => ?_)
    · have hi' : i < len := by omega
      obtain ⟨lb, lo, rfl, hcc⟩ := hl.pos (by omega)
      obtain ⟨hbV, hbl, hAn⟩ := hl.2 i hi'
      obtain ⟨bv, cv, hvf⟩ := hbV.form
      refine WC.skip (WX.seq (WC.seq (WC.block (WC.seq (WC.region (WO.step rfl (OR.move rfl ?_)))))))
      refine WO.step rfl (OR.idxN i T94.und T102 rfl rfl rfl hi' ?_)
      refine WO.step rfl (OR.loadN (cs := [_, _, _, _]) T102 rfl rfl rfl (fun j u hj => hs.cell (hcell.mono hI.le (hcc i hi' j u hj))) ?_)
      rw [hvf]
      rw [hvf] at hbV
      have hcv := hbV.cap_le
      refine WO.step rfl (OR.alloc hs T102 ?_)
      clear hs; intro g1 w hg1 hs
      refine WO.step rfl (OR.assign rfl (WO.stepN (OR.storeAll hs T102 rfl rfl rfl rfl rfl ?_)))
      clear hs; intro w hs
      refine WO.done (WX.seq (WC.seq (WC.seq (WC.region (WO.step rfl (OR.move rfl (WO.step rfl ?_)))))))
      refine OR.eql rfl rfl (WO.done (WX.seq ?_))
      refine WC.condD rfl (fun h40 => ?_) (fun h40 => ?_)
      · refine WC.exit (WX.seq_exit (WX.block_miss rfl (WX.seq_exit (WX.loop_exit (WX.block_hit ?_)))))
        refine WX.arrive ((va, vw, cl)) ⟨rfl, rfl, rfl, rfl,  trivial⟩ ?_
        · exact ⟨D, o2, H, Ma, Mw, cs, wl, { hI with cuts := by have := hI.cuts; omega }, hs.drop 0⟩
      · refine WC.skip (WX.seq (WC.seq (WC.region (WO.step rfl (OR.fieldAddr FA102_1 rfl (WO.step rfl (OR.load T23 rfl rfl (hs.cellM (i := 0) rfl rfl) ?_)))))))
        refine WO.step rfl (OR.fieldAddr FA102_1 rfl (WO.step rfl (OR.load T23 rfl rfl (hs.cellM (i := 0) rfl rfl) (WO.step rfl (OR.lenSlice T23.und rfl ?_)))))
        refine WO.step rfl (OR.minI rfl rfl ?_)
        refine WO.step rfl (OR.sliceHiG (min (A i).b.length 200) T23.und T5 rfl rfl (by split <;> omega) (by omega) ?_)
        have hbt : Bytes H0 (.slice bv (min (A i).b.length 200) cv) ((A i).b.take 200) := by
          have := Sl.takeS hbV (min (A i).b.length 200) (by omega)
          unfold Bytes
          rw [Nat.mul_one] at this
          rw [show (List.take 200 (A i).b).length = min (A i).b.length 200 from by rw [List.length_take]; exact Nat.min_comm _ _, List.map_take]
          rw [show List.take (min (A i).b.length 200) (List.map B (A i).b) = List.take 200 (List.map B (A i).b) from by
            rw [List.take_eq_take_iff]; simp; exact Nat.min_comm _ _] at this
          exact this
        have hbtl : ((A i).b.take 200).length = min (A i).b.length 200 := by rw [List.length_take]; exact Nat.min_comm _ _
        generalize (A i).b.take 200 = ab at *
        rw [← hbtl] at hbt ⊢
        have habl : ab.length ≤ 200 := by omega
        refine WO.step rfl (OR.fieldAddr FA102_1 rfl (WO.stepN (OR.store hs T23 rfl rfl rfl (Nat.le_of_ble_eq_true rfl) rfl ?_)))
        clear hs; intro w hs
        refine WO.done (WX.seq (WC.seq (WC.seq (WC.region (WO.step rfl (OR.fieldAddr FA102_0 rfl (WO.step rfl ?_)))))))
        refine OR.load T3 rfl rfl (hs.cellM (i := 0) rfl rfl) (WO.done (WX.seq ?_))
        refine WC.joinK (ι := Value × Bool) (fun iy => [(7, .int .i64 (n : Int)), (8, .int .i64 (m : Int)), (9, ptr x), (11, iy.1), (12, vw), (13, .bool iy.2), (48, .slice (some ⟨lb, lo, none⟩) len cl0), (49, .int .i64 (len : Int)), (50, .int .i64 (i : Int))]) (fun iy w => (∃ D o H Ma, KeepI H0 w0 x n m (i + 1) iy.1 vw iy.2 D o H Ma Mw cs wl ∧ HS [] H0 w0 H ([(x, o, true)] ++ (Ma ++ Mw)) w)) ?_ (fun iy w hW => ?_)
        · refine WC.block (WC.seq (WC.region (WO.step rfl (OR.eql rfl rfl (WO.step rfl (OR.assign rfl (WO.done ?_)))))))
          refine WX.seq ?_
          refine WC.condD rfl (fun hw0 => ?_) (fun hw0 => ?_)
          · refine WC.seq (WC.region (WO.step rfl (OR.move rfl (WO.step rfl (OR.fieldAddr FA102_1 rfl (WO.step rfl (OR.load T23 rfl rfl (hs.cellM (i := 0) rfl rfl) ?_)))))))
            refine WO.step rfl (OR.fieldAddr FA102_2 rfl (WO.step rfl (OR.load T58 rfl rfl (hs.cellM (i := 0) rfl rfl) ?_)))
            replace hs := hs.front (i := 1) rfl
            refine WO.step rfl (OR.callX (Mx := [(x, _, true)]) hs body29 rfl rfl (submit_ok x D o2 _ ab (A i).n _ _ hs.toSub (hs.blk (i := 0) rfl) (hs.mem x _ true (List.mem_cons_self ..)).2.1 hI.src hI.ok (hbt.mono hI.le) (by omega) (by have := hI.cuts; omega)) rfl rfl ?_)
            clear hs; rintro _ H3 M' w hs hle1 hnew ⟨rfl, o3, rfl, hsrc⟩; replace hle := hle.trans hle1; (try replace hlb := hlb.trans hle1)
            have hsok := hI.ok.sub ab (A i).n
            have hspr := hI.ok.sub_prefix ab (A i).n
            have hstl := hI.ok.len
            rcases sub_cases D ab (A i).n with ⟨hc, hE, hD⟩ | ⟨hc, hE, hD⟩ | ⟨hc, hE, hD⟩
            · have hcl : cl = true := hI.clq.symm.trans hc
              subst hcl
              rw [hE]
              rw [hD] at hsrc
              refine WO.step rfl (OR.assign rfl (WO.done (WX.seq (WC.seq (WC.seq (WC.region (WO.step rfl ?_)))))))
              refine OR.move rfl (WO.step rfl (OR.eql rfl rfl (WO.done (WX.seq ?_))))
              refine WC.no rfl (decide_eq_false (by decide)) ?_
              refine WC.skip (WX.seq (WC.seq (WC.region (WO.step rfl (OR.move rfl (WO.step rfl (OR.move rfl ?_)))))))
              refine WO.step rfl (OR.eql rfl rfl (WO.step rfl (OR.neqB T4.und rfl rfl (WO.step rfl (OR.move rfl ?_)))))
              refine WO.guardYes rfl rfl rfl rfl (OR.move rfl (WO.guardYes rfl rfl rfl rfl (OR.neq rfl rfl (WO.guardYes rfl rfl rfl rfl (OR.move rfl ?_)))))
              refine WO.guardYes rfl rfl rfl rfl (OR.move rfl (WO.guardYes rfl rfl rfl rfl (OR.neq rfl rfl (WO.guardYes rfl rfl rfl rfl (OR.pickT rfl rfl rfl (WO.guardYes rfl rfl rfl rfl (OR.move rfl ?_)))))))
              refine WO.guardNo rfl rfl rfl rfl (WO.guardNo rfl rfl rfl rfl (WO.guardYes rfl rfl rfl rfl (OR.pickF rfl rfl rfl (WO.step rfl (OR.pickF rfl rfl rfl (WO.done (WX.seq ?_)))))))
              refine WC.no rfl rfl (WC.skip (WX.block ?_))
              refine WX.arrive ((va, true)) ⟨rfl, rfl, rfl, rfl, rfl, rfl, rfl, rfl, rfl,  trivial⟩ ?_
              · exact ⟨D, o3, H3, Ma, hI.next hle1 hI.ok rfl rfl hI.clq hI.opn (by omega) hsrc hI.all (List.prefix_refl _), hs.drop 1⟩
            · have hcl : cl = false := hI.clq.symm.trans hc
              subst hcl
              rw [hE]
              rw [hD] at hsrc hsok hspr
              refine WO.step rfl (OR.assign rfl (WO.done (WX.seq (WC.seq (WC.seq (WC.region (WO.step rfl ?_)))))))
              refine OR.move rfl (WO.step rfl (OR.eql rfl rfl (WO.done (WX.seq ?_))))
              refine WC.yes rfl (decide_eq_true (by decide)) ?_
              refine WC.region (WO.step rfl (OR.move rfl (WO.step rfl (OR.fieldAddr FA102_1 rfl (WO.step rfl (OR.load T23 rfl rfl (hs.cellM (i := 1) rfl rfl) ?_))))))
              refine WO.step rfl (OR.append (n := D.st.length) (m := ab.length) (cs := D.st.map B) (news := ab.map B) (Mo := Ma) (M := [_, _] ++ Mw) (HS.turn (A := [_, _]) (B := Ma) (C := Mw) hs) hI.all T23.und T5 rfl (by omega) rfl rfl (by simp) (Sl.src (hbt.mono (hI.le.trans hle1)) hs) (Sl.src0 hbt) (bytes_one _) (by omega) (by omega) ?_)
              clear hs; intro v' w Mo hs ho hge
              replace hs := HS.turn (A := Mo) (B := [_, _]) (C := Mw) hs
              refine WO.step rfl (OR.assign rfl (WO.done (WX.seq (WC.seq (WC.region (WO.step rfl (OR.move rfl ?_)))))))
              refine WO.step rfl (OR.move rfl (WO.step rfl (OR.eql rfl rfl (WO.step rfl (OR.neqB T4.und rfl rfl (WO.step rfl (OR.move rfl ?_)))))))
              refine WO.guardYes rfl rfl rfl rfl (OR.move rfl (WO.guardYes rfl rfl rfl rfl (OR.neq rfl rfl (WO.guardYes rfl rfl rfl rfl (OR.move rfl ?_)))))
              refine WO.guardNo rfl rfl rfl rfl (WO.guardNo rfl rfl rfl rfl (WO.guardYes rfl rfl rfl rfl (OR.pickF rfl rfl rfl (WO.guardYes rfl rfl rfl rfl (OR.move rfl (WO.guardNo rfl rfl rfl rfl (WO.guardNo rfl rfl rfl rfl ?_)))))))
              refine WO.guardYes rfl rfl rfl rfl (OR.pickF rfl rfl rfl (WO.step rfl (OR.pickF rfl rfl rfl (WO.done (WX.seq (WC.no rfl rfl (WC.skip ?_)))))))
              refine WX.block ?_
              refine WX.arrive ((v', false)) ⟨rfl, rfl, rfl, rfl, rfl, rfl, rfl, rfl, rfl,  trivial⟩ ?_
              · exact ⟨longD D ab, o3, H3, Mo, hI.next hle1 hsok rfl rfl hc (fun h => by cases h) (by show D.cuts.length ≤ _; omega) hsrc (by rw [show (longD D ab).st = D.st ++ ab from rfl, List.length_append, List.map_append]; exact ho) hspr, hs.drop 1⟩
            · have hcl : cl = false := hI.clq.symm.trans hc
              subst hcl
              rw [hE]
              rw [hD] at hsrc
              refine WO.step rfl (OR.assign rfl (WO.done (WX.seq (WC.seq (WC.seq (WC.region (WO.step rfl ?_)))))))
              refine OR.move rfl (WO.step rfl (OR.eql rfl rfl (WO.done (WX.seq ?_))))
              refine WC.no rfl (decide_eq_false (by decide)) ?_
              refine WC.skip (WX.seq (WC.seq (WC.region (WO.step rfl (OR.move rfl (WO.step rfl (OR.move rfl ?_)))))))
              refine WO.step rfl (OR.eql rfl rfl (WO.step rfl (OR.neqB T4.und rfl rfl (WO.step rfl (OR.move rfl ?_)))))
              refine WO.guardYes rfl rfl rfl rfl (OR.move rfl (WO.guardYes rfl rfl rfl rfl (OR.neq rfl rfl (WO.guardYes rfl rfl rfl rfl (OR.move rfl ?_)))))
              refine WO.guardYes rfl rfl rfl rfl (OR.move rfl (WO.guardYes rfl rfl rfl rfl (OR.neq rfl rfl (WO.guardYes rfl rfl rfl rfl (OR.pickT rfl rfl rfl (WO.guardYes rfl rfl rfl rfl (OR.move rfl ?_)))))))
              refine WO.guardYes rfl rfl rfl rfl (OR.move rfl (WO.guardYes rfl rfl rfl rfl (OR.neq rfl rfl (WO.guardYes rfl rfl rfl rfl (OR.pickT rfl rfl rfl (WO.step rfl (OR.pickF rfl rfl rfl ?_)))))))
              refine WO.done (WX.seq ?_)
              refine WC.no rfl rfl ?_
              refine WC.skip (WX.block ?_)
              refine WX.arrive ((va, false)) ⟨rfl, rfl, rfl, rfl, rfl, rfl, rfl, rfl, rfl,  trivial⟩ ?_
              · exact ⟨D, o3, H3, Ma, hI.next hle1 hI.ok rfl rfl hI.clq hI.opn (by omega) hsrc hI.all (List.prefix_refl _), hs.drop 1⟩
          · refine WC.seq (WC.region (WO.step rfl (OR.eql rfl rfl (WO.step rfl (OR.assign rfl (WO.done (WX.seq ?_)))))))
            refine WC.condD rfl (fun hw1 => ?_) (fun hw1 => ?_)
            · refine WC.seq (WC.region (WO.step rfl (OR.move rfl ?_)))
              replace hs := hs.front (i := 1) rfl
              refine WO.step rfl (OR.callX (Mx := [(x, _, true)]) hs body30 rfl rfl (flush_ok x D o2 _ _ hs.toSub (hs.blk (i := 0) rfl) (hs.mem x _ true (List.mem_cons_self ..)).2.1 hI.src hI.ok (by have := hI.cuts; omega)) rfl rfl ?_)
              clear hs; rintro _ H3 M' w hs hle1 hnew ⟨rfl, o3, rfl, hsrc⟩; replace hle := hle.trans hle1; (try replace hlb := hlb.trans hle1)
              have hsok := hI.ok.flush
              have hspr := hI.ok.flush_prefix
              rw [hI.clq]
              cases cl with
              | true =>
                have hD : flushD D = D := by rw [flushD, if_pos hI.clq]
                rw [hD] at hsrc
                refine WO.step rfl (OR.eql rfl rfl (WO.step rfl (OR.move rfl (WO.step rfl (OR.eqlB T4.und rfl rfl (WO.done (WX.seq ?_)))))))
                refine WC.no rfl rfl ?_
                refine WC.skip (WX.block ?_)
                refine WX.arrive ((va, true)) ⟨rfl, rfl, rfl, rfl, rfl, rfl, rfl, rfl, rfl,  trivial⟩ ?_
                · exact ⟨D, o3, H3, Ma, hI.next hle1 hI.ok rfl rfl hI.clq hI.opn (by omega) hsrc hI.all (List.prefix_refl _), hs.drop 1⟩
              | false =>
                have hD : flushD D = cutD D := by rw [flushD, if_neg (by rw [hI.clq]; decide)]
                rw [hD] at hsrc hsok hspr
                refine WO.step rfl (OR.eql rfl rfl (WO.step rfl (OR.move rfl (WO.step rfl (OR.eqlB T4.und rfl rfl (WO.done (WX.seq ?_)))))))
                refine WC.no rfl rfl ?_
                refine WC.skip (WX.block ?_)
                refine WX.arrive ((va, false)) ⟨rfl, rfl, rfl, rfl, rfl, rfl, rfl, rfl, rfl,  trivial⟩ ?_
                · exact ⟨cutD D, o3, H3, Ma, hI.next hle1 hsok (cutD_g D).1 (cutD_g D).2 ((cutD_cl D).trans hI.clq) (fun h => by cases h) (cut_len D) hsrc (by rw [cutD_st]; exact hI.all) hspr, hs.drop 1⟩
            · refine WC.seq (WC.region (WO.step rfl (OR.eql rfl rfl (WO.step rfl (OR.assign rfl (WO.done (WX.seq ?_)))))))
              refine WC.condD rfl (fun hw2 => ?_) (fun hw2 => ?_)
              · refine WC.seq (WC.seq (WC.region (WO.step rfl (OR.move rfl ?_))))
                replace hs := hs.front (i := 1) rfl
                refine WO.step rfl (OR.callX (Mx := [(x, _, true)]) hs body49 rfl rfl (close_ok x D o2 _ _ hs.toSub (hs.blk (i := 0) rfl) (hs.mem x _ true (List.mem_cons_self ..)).2.1 hI.src hI.ok (by have := hI.cuts; omega)) rfl rfl ?_)
                clear hs; rintro _ H3 M' w hs hle1 hnew ⟨rfl, o3, rfl, hsrc⟩; replace hle := hle.trans hle1; (try replace hlb := hlb.trans hle1)
                have hsok := hI.ok.close
                have hspr := hI.ok.close_prefix
                rw [hI.clq]
                cases cl with
                | true =>
                  have hD : closeD D = D := by rw [closeD, if_pos hI.clq]
                  rw [hD] at hsrc
                  refine WO.step rfl (OR.eql rfl rfl (WO.step rfl (OR.move rfl (WO.step rfl (OR.eqlB T4.und rfl rfl (WO.done (WX.seq ?_)))))))
                  refine WC.no rfl rfl ?_
                  refine WC.skip (WX.seq (WC.region (WO.step rfl (OR.assign rfl (WO.done (WX.block ?_))))))
                  refine WX.arrive ((va, true)) ⟨rfl, rfl, rfl, rfl, rfl, rfl, rfl, rfl, rfl,  trivial⟩ ?_
                  · exact ⟨D, o3, H3, Ma, hI.next hle1 hI.ok rfl rfl hI.clq hI.opn (by omega) hsrc hI.all (List.prefix_refl _), hs.drop 1⟩
                | false =>
                  have hD : closeD D = { cutD D with cl := true } := by rw [closeD, if_neg (by rw [hI.clq]; decide)]
                  rw [hD] at hsrc hsok hspr
                  refine WO.step rfl (OR.eql rfl rfl (WO.step rfl (OR.move rfl (WO.step rfl (OR.eqlB T4.und rfl rfl (WO.done (WX.seq ?_)))))))
                  refine WC.no rfl rfl ?_
                  refine WC.skip (WX.seq (WC.region (WO.step rfl (OR.assign rfl (WO.done (WX.block ?_))))))
                  refine WX.arrive ((va, true)) ⟨rfl, rfl, rfl, rfl, rfl, rfl, rfl, rfl, rfl,  trivial⟩ ?_
                  · exact ⟨{ cutD D with cl := true }, o3, H3, Ma, hI.next hle1 hsok (cutD_g D).1 (cutD_g D).2 rfl (fun _ => cutD_open D) (cut_len D) hsrc (by show Own _ _ _ _ (cutD D).st.length ((cutD D).st.map B) _; rw [cutD_st]; exact hI.all) hspr, hs.drop 1⟩
              · refine WC.skip (WX.block ?_)
                refine WX.arrive ((va, cl)) ⟨rfl, rfl, rfl, rfl, rfl, rfl, rfl, rfl, rfl,  trivial⟩ ?_
                · exact ⟨D, o2, H, Ma, hI.next (.refl H) hI.ok rfl rfl hI.clq hI.opn (by omega) hI.src hI.all (List.prefix_refl _), hs.drop 0⟩
        · clear hs hle hI
          obtain ⟨va2, cl2⟩ := iy
          obtain ⟨D, o, H, Ma, hI, hs⟩ := hW
          simp only at hI
          have hle := hI.le
          have hchl := hI.ok.chl
          have hwle := hI.wle
          have hnat := hI.ok.nat
          have hmem := hI.ok.mem
          rw [hI.g, hI.s] at hnat hmem
          obtain ⟨bw, cw, rfl⟩ := hI.was.form
          obtain ⟨vs, vc, vch, vop, ho, _⟩ := hI.src
          have hlb := Hp.le.refl H
          refine WC.seq (WC.seq (WC.region (WO.step rfl (OR.move rfl ?_))))
          refine WO.step rfl (OR.call hs body31 rfl rfl (gens_ok x D o _ _ hs.toSub (hs.blk (i := 0) rfl) (hs.mem x _ true (List.mem_cons_self ..)).2.1 hI.src (by omega)) ?_)
          clear hs; rintro _ H w hs hle1 rfl; replace hle := hle.trans hle1; (try replace hlb := hlb.trans hle1)
          have hsr := hI.src.mono hle1
          refine WO.step rfl (OR.move rfl (WO.step rfl (OR.lenSlice T133.und rfl ?_)))
          refine WO.step rfl (OR.convI T3.und T58.und rfl ?_)
          rw [u64_wrap wl (by omega)]
          refine WO.step rfl (OR.lss rfl rfl (WO.step rfl (OR.move rfl ?_)))
          refine WO.guardYes rfl (decide_eq_false (by omega)) rfl rfl (OR.move rfl ?_)
          refine WO.guardYes rfl (decide_eq_false (by omega)) rfl rfl (OR.call hs body51 rfl rfl (sclosed_ok x D.g D.s vs vc vch vop D.cl _ _ hs.toSub (by rw [show srcObj D.g D.s vs vc D.cl vch vop = o from ho.symm]; exact hs.blk (i := 0) rfl) (hs.mem x _ true (List.mem_cons_self ..)).2.1) ?_)
          clear hs; rintro _ H w hs hle1 rfl; replace hle := hle.trans hle1; (try replace hlb := hlb.trans hle1)
          replace hsr := hsr.mono hle1
          rw [hI.clq]
          refine WO.guardYes rfl (decide_eq_false (by omega)) rfl rfl (OR.move rfl (WO.guardYes rfl (decide_eq_false (by omega)) rfl rfl (OR.neqB T4.und rfl rfl (WO.step rfl (OR.pickF rfl (decide_eq_false (by omega)) rfl (WO.done (WX.seq ?_)))))))
          refine WC.no rfl (by simp) ?_
          refine WC.skip (WX.seq (WC.seq (WC.region (WO.step rfl (OR.assign rfl (WO.done (WX.seq ?_)))))))
          refine WC.seq (WC.seq (WC.region (WO.step rfl (OR.move rfl ?_))))
          refine WO.step rfl (OR.call hs body31 rfl rfl (gens_ok x D o _ _ hs.toSub (hs.blk (i := 0) rfl) (hs.mem x _ true (List.mem_cons_self ..)).2.1 hsr (by omega)) ?_)
          clear hs; rintro _ H w hs hle1 rfl; replace hle := hle.trans hle1; (try replace hlb := hlb.trans hle1)
          replace hsr := hsr.mono hle1
          refine WO.step rfl (OR.move rfl (WO.done (WX.seq (WC.block ?_))))
          refine WC.loop (ι := Nat × Value × Value) (fun ix => [(7, .int .i64 (n : Int)), (8, .int .i64 (m : Int)), (9, ptr x), (11, va2), (12, ix.2.1), (13, .bool cl2), (17, ix.2.2), (48, .slice (some ⟨lb, lo, none⟩) len cl0), (49, .int .i64 (len : Int)), (50, .int .i64 (i : Int)), (124, .int .u64 (D.chunks.length : Int)), (125, .int .u64 (ix.1 : Int))]) (fun ix w => (ix.1 ≤ D.chunks.length ∧ ∃ H Mw Mt cs wl, Hp.le H0 H ∧ SrcIn H D o ∧ Own w0.heap.size 22 1 ix.2.1 wl cs Mw ∧ ix.1 ≤ wl ∧ wl ≤ D.chunks.length ∧ (∀ k, k < wl → ∀ u, cs[k]? = some u → BytesL H u (symF D k)) ∧ Own w0.heap.size 5 1 ix.2.2 (D.chunks.take ix.1).flatten.length ((D.chunks.take ix.1).flatten.map B) Mt ∧ HS [] H0 w0 H ([(x, o, true)] ++ (Ma ++ (Mw ++ Mt))) w)) (fun ix => D.chunks.length - ix.1) (0, .slice bw wl cw, .slice none 0 0) ⟨rfl, rfl, rfl, rfl, rfl, rfl, rfl, rfl, rfl, rfl, rfl, rfl,  trivial⟩ ?_ (fun ix w hW => ?_)
          · exact ⟨by omega, H, Mw, [], cs, wl, hle, hsr, hI.was, by omega, hwle, fun k hk u hu => (hI.wok k hk u hu).mono hlb, Own.nil _ _ _, by rw [List.append_nil]; exact hs⟩
          clear hs hle hsr hwle hlb
          obtain ⟨k, vw, vt⟩ := ix
          obtain ⟨hk, H, Mw, Mt, cs, wl, hle, hsr, hwas, hkw, hwle, hwok, htold, hs⟩ := hW
          simp only at hk hwas hkw htold
          refine WC.seq (WC.region (WO.step rfl (OR.lss rfl rfl (WO.done (WX.seq (WC.seq ?_))))))
          refine WC.condD rfl (fun hkG => ?_) (fun hkG => ?_)
          · have hkG' : k < D.chunks.length := by omega
            have hlb := Hp.le.refl H
            obtain ⟨bw, cw, rfl⟩ := hwas.form
            refine WC.skip (WX.seq (WC.seq (WC.block (WC.seq (WC.region (WO.step rfl (OR.move rfl ?_)))))))
            refine WO.step rfl (OR.assign rfl (WO.done (WX.seq (WC.seq (WC.region (WO.step rfl (OR.move rfl ?_)))))))
            refine WO.step rfl (OR.move rfl ?_)
            refine WO.step rfl (OR.call hs body34 rfl rfl (symbols_ok x k D o _ _ hs.toSub (hs.blk (i := 0) rfl) (hs.mem x _ true (List.mem_cons_self ..)).2.1 hsr hI.ok) ?_)
            clear hs; rintro _ H w hs hle1 ⟨r, rfl, hr⟩; replace hle := hle.trans hle1; (try replace hlb := hlb.trans hle1)
            rw [thereE, if_pos hkG']
            have hlay : symF D k = layF n m D.chunks[k] := by rw [symF, List.getElem?_eq_getElem hkG', hI.g, hI.s]
            have hr0 := hr
            rw [hlay] at hr0
            obtain ⟨b3, c3, rfl⟩ := hr.form
            have hmm := hmem D.chunks[k] (List.getElem_mem hkG')
            refine WO.step rfl (OR.move rfl (WO.step rfl (OR.extract rfl rfl (WO.step rfl (OR.extract rfl rfl (WO.step rfl (OR.assign rfl ?_)))))))
            refine WO.step rfl (OR.assign rfl (WO.done (WX.seq (WC.seq (WC.region (WO.step rfl (OR.move rfl ?_)))))))
            refine WO.step rfl (OR.move rfl (WO.step rfl (OR.move rfl ?_)))
            refine WO.step rfl (OR.call hs body78 rfl rfl (ptake_ok n m _ D.chunks[k] _ _ hs.toSub hnat hr0 hmm.1 hmm.2) ?_)
            clear hs; rintro _ H w hs hle1 ⟨r2, rfl, hr2⟩; replace hle := hle.trans hle1; (try replace hlb := hlb.trans hle1)
            replace hr := hr.mono hle1
            obtain ⟨b4, c4, rfl⟩ := hr2.form
            refine WO.step rfl (OR.move rfl (WO.step rfl (OR.extract rfl rfl (WO.step rfl (OR.extract rfl rfl (WO.step rfl (OR.assign rfl ?_)))))))
            refine WO.step rfl (OR.assign rfl (WO.done (WX.seq (WC.seq (WC.seq (WC.region (WO.step rfl ?_)))))))
            refine OR.move rfl (WO.step rfl (OR.neq rfl rfl (WO.step rfl (OR.move rfl ?_))))
            refine WO.guardYes rfl rfl rfl rfl (OR.move rfl (WO.guardYes rfl rfl rfl rfl (OR.neq rfl rfl (WO.step rfl (OR.pickF rfl rfl rfl (WO.step rfl (OR.move rfl ?_)))))))
            refine WO.guardYes rfl rfl rfl rfl (OR.move rfl (WO.guardYes rfl rfl rfl rfl (OR.move rfl (WO.guardYes rfl rfl rfl rfl (OR.lenSlice T133.und rfl ?_)))))
            refine WO.guardYes rfl rfl rfl rfl (OR.convI T3.und T58.und rfl ?_)
            rw [u64_wrap wl (by omega)]
            refine WO.guardYes rfl rfl rfl rfl (OR.lss rfl rfl (WO.guardYes rfl rfl rfl rfl (OR.move rfl ?_)))
            refine WO.guardSplit (j := 12) rfl (fun q => ?_) (fun q => ?_)
            · have hkwl : k < wl := by omega
              obtain ⟨hwl, ⟨_, _, hwz⟩ | ⟨gw, cc, capw, rfl, hvw, hnw, hcsz, htkw, hgw⟩⟩ := hwas
              · omega
              cases hvw
              rw [Nat.mul_one] at htkw hwl hcsz
              have hku : k < cs.length := by omega
              have hcell' := cell_at (hs.mem gw (.cells cc 22) true (by simp)).1 (show cc.toList[k]? = some cs[k] from by
                have hq2 : (cc.toList.take wl)[k]? = cs[k]? := by rw [htkw]
                rw [List.getElem?_take, if_pos hkwl] at hq2
                exact hq2.trans (List.getElem?_eq_getElem hku))
              have hbk := (hwok k hkwl cs[k] (List.getElem?_eq_getElem hku)).mono hlb
              refine WO.guardYes rfl (decide_eq_true q) rfl rfl (OR.move rfl (WO.guardYes rfl (decide_eq_true q) rfl rfl (OR.move rfl (WO.guardYes rfl (decide_eq_true q) rfl rfl (OR.move rfl ?_)))))
              refine WO.guardYes rfl (decide_eq_true q) rfl rfl (OR.idx k T133.und T22 rfl rfl rfl hkwl ?_)
              rw [Nat.zero_add]
              refine WO.guardYes rfl (decide_eq_true q) rfl rfl (OR.load T22 rfl rfl hcell' ?_)
              obtain ⟨b5, c5, e5⟩ := hbk.form
              refine WO.guardYes rfl (decide_eq_true q) rfl rfl (OR.call hs body62 rfl rfl (same05_ok _ _ (symF D k) (symF D k) _ _ hs.toSub hr hbk rfl (by rw [hlay]; simp [layF]; omega)) ?_)
              clear hs; rintro _ H w hs hle1 rfl; replace hle := hle.trans hle1; (try replace hlb := hlb.trans hle1)
              replace hr2 := hr2.mono hle1
              refine WO.guardYes rfl (decide_eq_true q) rfl rfl (OR.not rfl (WO.guardYes rfl rfl rfl rfl (OR.pickT rfl (decide_eq_true q) rfl (WO.step rfl (OR.pickF rfl rfl rfl (WO.done (WX.seq ?_)))))))
              refine WC.no rfl rfl ?_
              refine WC.skip (WX.seq (WC.seq (WC.seq (WC.region (WO.step rfl (OR.move rfl (WO.step rfl ?_)))))))
              refine OR.move rfl (WO.step rfl (OR.lenSlice T133.und rfl ?_))
              refine WO.step rfl (OR.convI T3.und T58.und rfl ?_)
              rw [u64_wrap wl (by omega)]
              refine WO.step rfl (OR.geq rfl rfl (WO.done (WX.seq ?_)))
              refine WC.no rfl (decide_eq_false (by omega)) ?_
              have htk := take_flat_succ D.chunks k hkG'
              have hfl := hI.ok.flat
              have hlenS := hI.ok.len
              have hft1 := flat_take_le D.chunks (k + 1)
              have hft2 : D.chunks.flatten.length ≤ D.st.length := by rw [← hfl, List.length_append]; omega
              have hft3 : (D.chunks.take (k + 1)).flatten.length = (D.chunks.take k).flatten.length + D.chunks[k].length := by rw [htk, List.length_append]
              refine WC.skip (WX.seq (WC.region (WO.step rfl (OR.move rfl (WO.step rfl (OR.move rfl ?_))))))
              refine WO.step rfl (OR.append (n := (D.chunks.take k).flatten.length) (m := D.chunks[k].length) (cs := (D.chunks.take k).flatten.map B) (news := D.chunks[k].map B) (Mo := Mt) (M := [_] ++ (Ma ++ [(gw, .cells cc 22, true)])) (HS.bringLast (A := [_]) (B := Ma) (C := [(gw, .cells cc 22, true)]) (D := Mt) hs) htold T23.und T5 rfl (by omega) rfl rfl (by simp) (Sl.src hr2 hs) (Sl.src0 hr2) (bytes_one _) (by omega) (by omega) ?_)
              clear hs; intro vt' w Mt' hs ht' hge
              replace hs := HS.putLast (A := [_]) (B := Ma) (C := [(gw, .cells cc 22, true)]) (D := Mt') hs
              refine WO.step rfl (OR.assign rfl (WO.done (WX.block (WX.seq (WC.region ?_)))))
              refine WO.step rfl (OR.add rfl rfl ?_)
              have hadd : IntKind.u64.wrap ((k : Int) + 1) = ((k + 1 : Nat) : Int) := by
                have := u64_wrap (k + 1) (by omega)
                rw [← this]; rfl
              rw [hadd]
              refine WO.step rfl (OR.move rfl (WO.done ?_))
              refine WX.again ((k + 1, _, vt')) ⟨rfl, rfl, rfl, rfl, rfl, rfl, rfl, rfl, rfl, rfl, rfl, rfl,  trivial⟩ ?_ ?_
              · exact ⟨by show k + 1 ≤ _; omega, H, [(gw, .cells cc 22, true)], Mt', cs, wl, hle, hsr.mono hlb, ⟨by simpa using hwl, .inr ⟨gw, cc, cw, rfl, rfl, hnw, by simpa using hcsz, by simpa using htkw, hgw⟩⟩, by show k + 1 ≤ _; omega, hwle, fun k hk u hu => (hwok k hk u hu).mono hlb, by rw [htk, List.length_append, List.map_append]; exact ht', hs⟩
              · show _ < D.chunks.length - k; simp only; omega
            · have hkwl : k = wl := by omega
              subst hkwl
              refine WO.guardNo rfl (decide_eq_false q) rfl rfl (WO.guardNo rfl (decide_eq_false q) rfl rfl (WO.guardNo rfl (decide_eq_false q) rfl rfl (WO.guardNo rfl (decide_eq_false q) rfl rfl (WO.guardNo rfl (decide_eq_false q) rfl rfl (WO.guardNo rfl (decide_eq_false q) rfl rfl (WO.guardNo rfl (decide_eq_false q) rfl rfl (WO.guardYes rfl rfl rfl rfl ?_)))))))
              refine OR.pickF rfl (decide_eq_false q) rfl (WO.step rfl (OR.pickF rfl rfl rfl (WO.done (WX.seq (WC.no rfl rfl (WC.skip (WX.seq ?_)))))))
              refine WC.seq (WC.seq (WC.region (WO.step rfl (OR.move rfl (WO.step rfl (OR.move rfl (WO.step rfl ?_)))))))
              refine OR.lenSlice T133.und rfl ?_
              refine WO.step rfl (OR.convI T3.und T58.und rfl ?_)
              rw [u64_wrap k (by omega)]
              refine WO.step rfl (OR.geq rfl rfl (WO.done (WX.seq ?_)))
              refine WC.yes rfl (decide_eq_true (by omega)) ?_
              refine WC.region (WO.step rfl (OR.move rfl (WO.step rfl (OR.move rfl ?_))))
              refine WO.step rfl (OR.buildSlice (vs := [_]) hs T133.und T22 rfl rfl rfl rfl (by simp) ?_)
              clear hs; intro gn w hgn hs
              obtain ⟨H, hle1, hp_gn, hs9⟩ := hs.pub1 hgn; clear hs; have hs := hs9; clear hs9; replace hle := hle.trans hle1; (try replace hlb := hlb.trans hle1)
              have hsn : Sl H 1 (.slice (some ⟨gn, 0, none⟩) 1 1) 1 [.slice b3 (symF D k).length c3] := Sl.block hp_gn rfl rfl (by simp)
              replace hr := hr.mono hle1
              replace hr2 := hr2.mono hle1
              have hchl2 := hI.ok.chl
              refine WO.step rfl (OR.append (n := k) (m := 1) (cs := cs) (news := [.slice b3 (symF D k).length c3]) (Mo := Mw) (M := [_] ++ (Ma ++ Mt)) (HS.bringC (A := [_]) (B := Ma) (C := Mw) (D := Mt) hs) hwas T133.und T22 rfl (by omega) rfl rfl rfl (Sl.src hsn hs) (Sl.src0 hsn) rfl (by omega) (by omega) ?_)
              clear hs; intro vw' w Mw' hs hw' hge2
              replace hs := HS.putC (A := [_]) (B := Ma) (C := Mw') (D := Mt) hs
              have htk := take_flat_succ D.chunks k hkG'
              have hfl := hI.ok.flat
              have hlenS := hI.ok.len
              have hft1 := flat_take_le D.chunks (k + 1)
              have hft2 : D.chunks.flatten.length ≤ D.st.length := by rw [← hfl, List.length_append]; omega
              have hft3 : (D.chunks.take (k + 1)).flatten.length = (D.chunks.take k).flatten.length + D.chunks[k].length := by rw [htk, List.length_append]
              refine WO.step rfl (OR.assign rfl (WO.done (WX.seq (WC.region (WO.step rfl (OR.move rfl (WO.step rfl ?_)))))))
              refine OR.move rfl ?_
              refine WO.step rfl (OR.append (n := (D.chunks.take k).flatten.length) (m := D.chunks[k].length) (cs := (D.chunks.take k).flatten.map B) (news := D.chunks[k].map B) (Mo := Mt) (M := [_] ++ (Ma ++ Mw')) (HS.bringLast (A := [_]) (B := Ma) (C := Mw') (D := Mt) hs) htold T23.und T5 rfl (by omega) rfl rfl (by simp) (Sl.src hr2 hs) (Sl.src0 hr2) (bytes_one _) (by omega) (by omega) ?_)
              clear hs; intro vt' w Mt' hs ht' hge
              replace hs := HS.putLast (A := [_]) (B := Ma) (C := Mw') (D := Mt') hs
              refine WO.step rfl (OR.assign rfl (WO.done (WX.block (WX.seq (WC.region ?_)))))
              refine WO.step rfl (OR.add rfl rfl ?_)
              have hadd : IntKind.u64.wrap ((k : Int) + 1) = ((k + 1 : Nat) : Int) := by
                have := u64_wrap (k + 1) (by omega)
                rw [← this]; rfl
              rw [hadd]
              refine WO.step rfl (OR.move rfl (WO.done ?_))
              refine WX.again ((k + 1, vw', vt')) ⟨rfl, rfl, rfl, rfl, rfl, rfl, rfl, rfl, rfl, rfl, rfl, rfl,  trivial⟩ ?_ ?_
              · refine ⟨by show k + 1 ≤ _; omega, H, Mw', Mt', cs ++ [.slice b3 (symF D k).length c3], k + 1, hle, hsr.mono hlb, hw', Nat.le_refl _, by omega, fun j hj u hu => ?_, by rw [htk, List.length_append, List.map_append]; exact ht', hs⟩
                have hcsl : cs.length = k := by simpa using hwas.1
                by_cases hjk : j < k
                · rw [List.getElem?_append_left (by omega)] at hu
                  exact (hwok j hjk u hu).mono hlb
                · have : j = k := by omega
                  subst this
                  rw [List.getElem?_append_right (by omega), hcsl, Nat.sub_self] at hu
                  simp at hu
                  rw [← hu]
                  exact hr
              · show _ < D.chunks.length - k; simp only; omega
          · have e : k = D.chunks.length := by omega
            rw [e, List.take_length] at htold
            have hfl := hI.ok.flat
            obtain ⟨bw, cw, rfl⟩ := hwas.form
            obtain ⟨ba9, ca9, rfl⟩ := hI.all.form
            have hN := hs.size
            obtain ⟨Hq, hleq, hs, hsl3, _⟩ := HS.pub (HS.bringLast (A := [_]) (B := Ma) (C := Mw) (D := Mt) hs) htold
            have htb : Bytes Hq vt D.chunks.flatten := hsl3
            obtain ⟨bt9, ct9, rfl⟩ := htb.form
            replace hle := hle.trans hleq
            replace hsr := hsr.mono hleq
            have hlb := hleq
            replace hs := HS.turn (A := [_]) (B := Ma) (C := Mw) hs
            refine WC.exit (WX.seq_exit (WX.loop_exit (WX.block_hit (WX.seq (WC.seq (WC.region (WO.step rfl ?_)))))))
            refine OR.move rfl (WO.step rfl (OR.move rfl ?_))
            refine WO.step rfl (OR.callOwn hs hI.all body79 rfl rfl (fun Hx hx hsub hbx => hasPrefix_ok _ _ D.st D.chunks.flatten Hx _ hsub hbx (htb.mono hx)) ?_)
            clear hs; rintro v H2 w hs hle1 rfl
            rw [decide_eq_true (show D.chunks.flatten <+: D.st from ⟨D.opn, hfl⟩)]
            replace hsr := hsr.mono hle1
            replace htb := htb.mono hle1
            replace hlb := hlb.trans hle1
            replace hle := hle.trans hle1
            refine WO.step rfl (OR.not rfl (WO.step rfl (OR.move rfl ?_)))
            refine WO.guardYes rfl rfl rfl rfl (OR.move rfl ?_)
            refine WO.guardYes rfl rfl rfl rfl (OR.call hs body52 rfl rfl (stream_ok x D o _ _ hs.toSub (hs.mem x o true (by simp)).1 (hs.mem x o true (by simp)).2.1 hsr (by have := hI.ok.len; omega)) ?_)
            clear hs; rintro _ H w hs hle1 hst; replace hle := hle.trans hle1; (try replace hlb := hlb.trans hle1)
            replace hsr := hsr.mono hle1
            replace htb := htb.mono hle1
            refine WO.guardYes rfl rfl rfl rfl (OR.move rfl ?_)
            refine WO.guardYes rfl rfl rfl rfl (OR.callOwn hs hI.all body21 rfl rfl (fun Hx hx hsub hbx => equal_ok _ _ D.st D.st Hx _ hsub (hst.mono hx) hbx) ?_)
            clear hs; rintro v H3 w hs hle1 rfl
            rw [decide_eq_true rfl]
            replace hsr := hsr.mono hle1
            replace hlb := hlb.trans hle1
            replace hle := hle.trans hle1
            refine WO.guardYes rfl rfl rfl rfl (OR.not rfl (WO.step rfl (OR.pickF rfl rfl rfl (WO.step rfl (OR.move rfl ?_)))))
            have hI2 : KeepI H0 w0 x n m (i + 1) (.slice ba9 D.st.length ca9) (.slice bw wl cw) cl2 D o H3 Ma Mw cs wl := { hI with le := hle, src := hsr, was := hwas, wle := hwle, wok := fun k hk u hu => (hwok k hk u hu).mono hlb }
            replace hs := HS.turn (A := Ma) (B := [_]) (C := Mw) hs
            cases cl2 with
            | true =>
              have hopn := hI.opn rfl
              rw [hopn, List.append_nil] at hfl
              refine WO.guardYes rfl rfl rfl rfl (OR.move rfl (WO.guardYes rfl rfl rfl rfl (OR.move rfl ?_)))
              refine WO.guardYes rfl rfl rfl rfl (OR.move rfl (WO.guardYes rfl rfl rfl rfl (OR.lenSlice T23.und rfl (WO.guardYes rfl rfl rfl rfl (OR.move rfl (WO.guardYes rfl rfl rfl rfl (OR.lenSlice T23.und rfl ?_)))))))
              refine WO.guardYes rfl rfl rfl rfl (OR.neq rfl rfl (WO.guardYes rfl rfl rfl rfl (OR.pickT rfl rfl rfl (WO.step rfl (OR.pickF rfl rfl rfl (WO.done (WX.seq ?_)))))))
              refine WC.no rfl (decide_eq_false (by rw [hfl]; omega)) ?_
              refine WC.skip (WX.block (WX.seq (WC.region (WO.step rfl (OR.addI rfl rfl (by omega) (by omega) (WO.step rfl (OR.move rfl ?_)))))))
              refine WO.done ?_
              refine WX.again ((i + 1, _, _, true)) ⟨rfl, rfl, rfl, rfl, rfl, rfl, rfl, rfl, rfl,  trivial⟩ ?_ ?_
              · exact ⟨by show i + 1 ≤ _; omega, by show i + 1 ≤ 40; omega, D, o, H3, Ma, Mw, cs, wl, hI2, hs⟩
              · show _ < len - i; simp only; omega
            | false =>
              refine WO.guardYes rfl rfl rfl rfl (OR.move rfl (WO.guardYes rfl rfl rfl rfl (OR.move rfl ?_)))
              refine WO.guardNo rfl rfl rfl rfl (WO.guardNo rfl rfl rfl rfl (WO.guardNo rfl rfl rfl rfl (WO.guardNo rfl rfl rfl rfl (WO.guardNo rfl rfl rfl rfl (WO.guardYes rfl rfl rfl rfl (OR.pickF rfl rfl rfl (WO.step rfl ?_)))))))
              refine OR.pickF rfl rfl rfl (WO.done (WX.seq (WC.no rfl rfl (WC.skip (WX.block (WX.seq (WC.region ?_)))))))
              refine WO.step rfl (OR.addI rfl rfl (by omega) (by omega) (WO.step rfl (OR.move rfl (WO.done ?_))))
              refine WX.again ((i + 1, _, _, false)) ⟨rfl, rfl, rfl, rfl, rfl, rfl, rfl, rfl, rfl,  trivial⟩ ?_ ?_
              · exact ⟨by show i + 1 ≤ _; omega, by show i + 1 ≤ 40; omega, D, o, H3, Ma, Mw, cs, wl, hI2, hs⟩
              · show _ < len - i; simp only; omega
    · refine WC.exit (WX.seq_exit (WX.loop_exit (WX.block_hit ?_)))
      refine WX.arrive ((va, vw, cl)) ⟨rfl, rfl, rfl, rfl,  trivial⟩ ?_
      · exact ⟨D, o2, H, Ma, Mw, cs, wl, { hI with cuts := by have := hI.cuts; omega }, hs⟩
  · clear hs hle hx
    obtain ⟨va, vw, cl⟩ := ix
    obtain ⟨D, o2, H, Ma, Mw, cs, wl, hI, hs⟩ := hW
    simp only at hI
    have hle := hI.le
    have hlb := Hp.le.refl H
    have hst0 := hI.ok.len
    have hcu0 := hI.cuts
    have hwle := hI.wle
    have hchl := hI.ok.chl
    obtain ⟨vs, vc, vch, vop, ho, _⟩ := hI.src
    refine WC.seq (WC.region (WO.step rfl (OR.move rfl (WO.step rfl (OR.move rfl (WO.step rfl (OR.move rfl ?_)))))))
    refine WO.step rfl (OR.call hs body52 rfl rfl (stream_ok x D o2 _ _ hs.toSub (hs.blk (i := 0) rfl) (hs.mem x _ true (List.mem_cons_self ..)).2.1 hI.src (by omega)) ?_)
    clear hs; rintro _ H w hs hle1 hst; replace hle := hle.trans hle1; (try replace hlb := hlb.trans hle1)
    refine WO.step rfl (OR.move rfl ?_)
    refine WO.step rfl (OR.call hs body53 rfl rfl (cuts_ok x D o2 _ _ hs.toSub (hs.blk (i := 0) rfl) (hs.mem x _ true (List.mem_cons_self ..)).2.1 (hI.src.mono hlb) (by omega)) ?_)
    clear hs; rintro _ H w hs hle1 hcu; replace hle := hle.trans hle1; (try replace hlb := hlb.trans hle1)
    replace hst := hst.mono hle1
    refine WO.step rfl (OR.move rfl ?_)
    refine WO.step rfl (OR.call hs body51 rfl rfl (sclosed_ok x D.g D.s vs vc vch vop D.cl _ _ hs.toSub (by rw [show srcObj D.g D.s vs vc D.cl vch vop = o2 from ho.symm]; exact hs.blk (i := 0) rfl) (hs.mem x _ true (List.mem_cons_self ..)).2.1) ?_)
    clear hs; rintro _ H w hs hle1 rfl; replace hle := hle.trans hle1; (try replace hlb := hlb.trans hle1)
    replace hst := hst.mono hle1
    replace hcu := hcu.mono hle1
    refine WO.step rfl (OR.callX (Mx := []) hs body50 rfl rfl (restore_ok n m _ _ D.st D.cuts D.cl _ _ hs.toSub hgd hst hcu (by omega) (by omega)) rfl rfl ?_)
    clear hs; rintro _ H5 M' w hs hle1 hnew hres; replace hle := hle.trans hle1; (try replace hlb := hlb.trans hle1)
    rw [if_pos ⟨hI.ok.cuts, fun h => by have h1 := hI.opn (hI.clq.symm.trans h); have h2 := hI.ok.op; rw [hI.g, hI.s, h1] at h2; exact h2.symm⟩] at hres
    obtain ⟨z, oz, rfl, rfl, hz0, hzs⟩ := hres
    have hzok : SrcOk (newD n m D.st D.cuts D.cl) := ⟨hgd, hI.ok.cuts, rfl, rfl, hI.ok.len⟩
    have hzc : (newD n m D.st D.cuts D.cl).chunks = D.chunks := by have h2 := hI.ok.ch; rw [hI.g, hI.s] at h2; exact h2.symm
    have hzl : (newD n m D.st D.cuts D.cl).cl = D.cl := rfl
    have hzg : (newD n m D.st D.cuts D.cl).g = D.g ∧ (newD n m D.st D.cuts D.cl).s = D.s := ⟨hI.g.symm, hI.s.symm⟩
    generalize newD n m D.st D.cuts D.cl = Z at *
    have hzs0 := hzs
    obtain ⟨zs, zc, zch, zop, hoz, _⟩ := hzs0
    refine WO.step rfl (OR.move rfl (WO.step rfl (OR.extract rfl rfl (WO.step rfl (OR.extract rfl rfl (WO.step rfl (OR.assign rfl ?_)))))))
    refine WO.step rfl (OR.assign rfl (WO.done (WX.seq (WC.seq (WC.seq (WC.region (WO.step rfl ?_)))))))
    refine OR.move rfl (WO.step rfl (OR.neq rfl rfl (WO.step rfl (OR.move rfl ?_))))
    refine WO.guardYes rfl rfl rfl rfl (OR.move rfl ?_)
    refine WO.guardYes rfl rfl rfl rfl (OR.call hs body31 rfl rfl (gens_ok z Z oz _ _ hs.toSub (hs.blk (i := 0) rfl) (hs.mem z _ true (List.mem_cons_self ..)).2.1 hzs (by rw [hzc]; omega)) ?_)
    clear hs; rintro _ H w hs hle1 rfl; replace hle := hle.trans hle1; (try replace hlb := hlb.trans hle1)
    replace hzs := hzs.mono hle1
    refine WO.guardYes rfl rfl rfl rfl (OR.move rfl ?_)
    refine WO.guardYes rfl rfl rfl rfl (OR.call hs body31 rfl rfl (gens_ok x D o2 _ _ hs.toSub (hs.blk (i := 1) rfl) (hs.mem x o2 true (by simp)).2.1 (hI.src.mono hlb) (by omega)) ?_)
    clear hs; rintro _ H w hs hle1 rfl; replace hle := hle.trans hle1; (try replace hlb := hlb.trans hle1)
    replace hzs := hzs.mono hle1
    rw [hzc]
    refine WO.guardYes rfl rfl rfl rfl (OR.neq rfl rfl (WO.step rfl (OR.pickF rfl rfl rfl (WO.step rfl (OR.move rfl ?_)))))
    refine WO.guardYes rfl (decide_eq_false (fun h => h rfl)) rfl rfl (OR.move rfl ?_)
    refine WO.guardYes rfl (decide_eq_false (fun h => h rfl)) rfl rfl (OR.call hs body51 rfl rfl (sclosed_ok z Z.g Z.s zs zc zch zop Z.cl _ _ hs.toSub (by rw [show srcObj Z.g Z.s zs zc Z.cl zch zop = oz from hoz.symm]; exact hs.blk (i := 0) rfl) (hs.mem z _ true (List.mem_cons_self ..)).2.1) ?_)
    clear hs; rintro _ H w hs hle1 rfl; replace hle := hle.trans hle1; (try replace hlb := hlb.trans hle1)
    replace hzs := hzs.mono hle1
    refine WO.guardYes rfl (decide_eq_false (fun h => h rfl)) rfl rfl (OR.move rfl ?_)
    refine WO.guardYes rfl (decide_eq_false (fun h => h rfl)) rfl rfl (OR.call hs body51 rfl rfl (sclosed_ok x D.g D.s vs vc vch vop D.cl _ _ hs.toSub (by rw [show srcObj D.g D.s vs vc D.cl vch vop = o2 from ho.symm]; exact hs.blk (i := 1) rfl) (hs.mem x o2 true (by simp)).2.1) ?_)
    clear hs; rintro _ H w hs hle1 rfl; replace hle := hle.trans hle1; (try replace hlb := hlb.trans hle1)
    replace hzs := hzs.mono hle1
    rw [hzl]
    refine WO.guardYes rfl (decide_eq_false (fun h => h rfl)) rfl rfl (OR.neqB T4.und rfl rfl (WO.step rfl (OR.pickF rfl (decide_eq_false (fun h => h rfl)) rfl (WO.done (WX.seq ?_)))))
    refine WC.no rfl (by simp) ?_
    obtain ⟨bw, cw, rfl⟩ := hI.was.form
    obtain ⟨Hq, hleq, hs, hslw, _⟩ := HS.pub (HS.bringLast (A := [_, _]) (B := Ma) (C := []) (D := Mw) hs) hI.was
    replace hlb := hlb.trans hleq
    have hcsl : cs.length = wl := by simpa using hI.was.1
    refine WC.skip (WX.seq (WC.seq (WC.seq (WC.region (WO.step rfl (OR.move rfl (WO.step rfl ?_)))))))
    refine OR.lenSlice T133.und rfl (WO.step rfl (OR.move rfl (WO.done (WX.seq (WC.block ?_)))))
    refine WC.loop (ι := Nat) (fun k => [(12, .slice bw wl cw), (23, ptr z), (227, .int .i64 (wl : Int)), (228, .int .i64 (k : Int))]) (fun k w => (k ≤ wl ∧ ∃ H6, Hp.le Hq H6 ∧ SrcIn H6 Z oz ∧ HS [] H0 w0 H6 ([(z, oz, true), (x, o2, true)] ++ (Ma ++ [])) w)) (fun k => wl - k) 0 ⟨rfl, rfl, rfl, rfl,  trivial⟩ ?_ (fun k w hW => ?_)
    · exact ⟨by omega, Hq, .refl Hq, hzs.mono hleq, hs⟩
    clear hs hle
    obtain ⟨hk, H6, hle6, hz6, hs⟩ := hW
    have hle := Hp.le.refl H6
    refine WC.seq (WC.region (WO.step rfl (OR.lss rfl rfl (WO.done (WX.seq (WC.seq ?_))))))
    refine WC.condD rfl (fun hlt => ?_) (fun hlt => ?_)
    · have hk' : k < wl := by omega
      obtain ⟨ob, oo, rfl, hco⟩ := hslw.pos (by omega)
      have hku : k < cs.length := by omega
      have hcell' := hco k cs[k] (List.getElem?_eq_getElem hku)
      have hbk := (hI.wok k hk' cs[k] (List.getElem?_eq_getElem hku)).mono hlb
      refine WC.skip (WX.seq (WC.seq (WC.block (WC.seq (WC.region (WO.step rfl (OR.move rfl ?_)))))))
      refine WO.step rfl (OR.assign rfl (WO.done (WX.seq (WC.seq (WC.region (WO.step rfl (OR.move rfl ?_)))))))
      refine WO.step rfl (OR.move rfl ?_)
      refine WO.step rfl (OR.convI T3.und T58.und rfl ?_)
      rw [u64_wrap k (by omega)]
      refine WO.step rfl (OR.call hs body34 rfl rfl (symbols_ok z k Z oz _ _ hs.toSub (hs.blk (i := 0) rfl) (hs.mem z _ true (List.mem_cons_self ..)).2.1 hz6 hzok) ?_)
      clear hs; rintro _ H w hs hle1 ⟨r, rfl, hr⟩; replace hle := hle.trans hle1; (try replace hlb := hlb.trans hle1)
      rw [thereE, if_pos (by rw [hzc]; omega)]
      have hsy : symF Z k = symF D k := symF_prefix (by rw [hzc]; exact List.prefix_refl _) hzg.1 hzg.2 (by omega)
      rw [hsy] at hr
      obtain ⟨b3, c3, rfl⟩ := hr.form
      refine WO.step rfl (OR.move rfl (WO.step rfl (OR.extract rfl rfl (WO.step rfl (OR.extract rfl rfl (WO.step rfl (OR.assign rfl ?_)))))))
      refine WO.step rfl (OR.assign rfl (WO.done (WX.seq (WC.seq (WC.region (WO.step rfl (OR.move rfl ?_)))))))
      refine WO.step rfl (OR.neq rfl rfl (WO.step rfl (OR.move rfl ?_)))
      refine WO.guardYes rfl rfl rfl rfl (OR.move rfl (WO.guardYes rfl rfl rfl rfl (OR.move rfl (WO.guardYes rfl rfl rfl rfl (OR.move rfl ?_)))))
      refine WO.guardYes rfl rfl rfl rfl (OR.idx k T133.und T22 rfl rfl rfl hk' ?_)
      refine WO.guardYes rfl rfl rfl rfl (OR.load T22 rfl rfl (hs.cell (hcell.mono (hle6.trans hle1) hcell')) ?_)
      replace hz6 := hz6.mono hle1
      have hle7 := hle6.trans hle1
      have hln : (symF D k).length ≤ 255 := by rw [symF_len hI.ok (by omega)]; have := hI.ok.nat; omega
      refine WO.guardYes rfl rfl rfl rfl (OR.call hs body62 rfl rfl (same05_ok _ _ (symF D k) (symF D k) _ _ hs.toSub hr (hbk.mono hle7) rfl (by omega)) ?_)
      clear hs; rintro _ H w hs hle1 rfl; replace hle := hle.trans hle1; (try replace hlb := hlb.trans hle1)
      refine WO.guardYes rfl rfl rfl rfl (OR.not rfl (WO.step rfl (OR.pickF rfl rfl rfl (WO.done (WX.seq ?_)))))
      refine WC.no rfl rfl ?_
      refine WC.skip (WX.block (WX.seq (WC.region (WO.step rfl (OR.addI rfl rfl (by omega) (by omega) (WO.step rfl (OR.move rfl ?_)))))))
      refine WO.done ?_
      refine WX.again (k + 1) ⟨rfl, rfl, rfl, rfl,  trivial⟩ ?_ ?_
      · exact ⟨hk', _, hle7.trans hle1, hz6.mono hle1, hs⟩
      · omega
    · refine WC.exit (WX.seq_exit (WX.loop_exit (WX.block_hit (WX.seq (WC.seq (WC.region (WO.step rfl ?_)))))))
      refine OR.assign rfl (WO.done (WX.seq (WC.ret ?_)))
      refine WX.ret1 rfl rfl ?_
      exact .mk ((hs.drop 0).drop 0).right rfl
end Go.Bw
