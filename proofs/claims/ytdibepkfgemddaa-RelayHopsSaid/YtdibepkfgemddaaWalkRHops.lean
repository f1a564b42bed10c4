/- RelayHops, walked; and from whatever arguments can be read. -/
import Derived.Test.YtdibepkfgemddaaHops4
import Derived.Test.YtdibepkfgemddaaReadV
namespace Go.Bw
set_option linter.unusedVariables false
set_option linter.unusedSimpArgs false
open Go.Proofs

def g4 (a : UInt8) : Nat := 1 + a.toNat % 4
theorem g4_le (a : UInt8) : 1 ≤ g4 a ∧ g4 a ≤ 4 := by have := Nat.mod_lt a.toNat (by omega : 0 < 4); unfold g4; omega
theorem modn (a : UInt8) (n : Nat) (hn : 0 < n) (h2 : n ≤ 100) : IntKind.i64.wrap ((a.toNat : Int).tmod n) = ((a.toNat % n : Nat) : Int) := by
  have h1 := Nat.mod_lt a.toNat hn
  have e : (a.toNat : Int).tmod n = ((a.toNat % n : Nat) : Int) := rfl
  rw [e]
  exact IntWalk.i64_in _ (by omega)
/-- The four places, as far as relays were made. -/
def hopArr (L : List HopR) : Obj := .cells (L.map (fun x : HopR => ptr x.rb) ++ List.replicate (4 - L.length) (Value.pointer none)).toArray 45
theorem hopArr_set (L : List HopR) (h : L.length < 4) (x : HopR) : (L.map (fun x : HopR => ptr x.rb) ++ List.replicate (4 - L.length) (Value.pointer none)).set L.length (ptr x.rb) = (L ++ [x]).map (fun x : HopR => ptr x.rb) ++ List.replicate (4 - (L ++ [x]).length) (Value.pointer none) := by
  have e : 4 - L.length = (4 - (L ++ [x]).length) + 1 := by rw [List.length_append]; simp only [List.length_cons, List.length_nil]; omega
  rw [e, List.replicate_succ, List.set_append_right _ _ (by simp)]
  simp
set_option maxRecDepth 20000 in
set_option maxHeartbeats 2000000 in
theorem rhops_ok (a c : UInt8) (vb vt vf vd : Value) (b fr : List UInt8) (tk ds : List (List UInt8)) (H0 : Hp) (w0 : World) (h0 : Sub H0 w0) (hb : Bytes H0 vb b) (ht : BytesL H0 vt tk) (hf : Bytes H0 vf fr) (hd : BytesL H0 vd ds) (hlt : ∀ r ∈ tk, r.length ≤ 9223372036854775807) :
    Calls Try.prog 4 #[vb, .agg #[B a, B c], vt, vf, vd] w0 (Pure H0 w0 fun v _ => v = .bool true) := by
  have hs := HS.init h0
  have hle := Hp.le.refl H0
  obtain ⟨bb, cb, rfl⟩ := hb.form
  obtain ⟨bt, ct, rfl⟩ := ht.form
  obtain ⟨bf, cf, rfl⟩ := hf.form
  obtain ⟨bd, cd, rfl⟩ := hd.form
  refine Calls.enter (args := [.slice bb b.length cb, .agg #[B a, B c], .slice bt tk.length ct, .slice bf fr.length cf, .slice bd ds.length cd]) Try.func4 rfl Try.ntmps4 rfl ?_
  refine WC.seq (WC.region (WO.step rfl (OR.box hs rfl ?_)))
  clear hs; intro g1 w hg1 hs
  refine WO.step rfl (OR.assign rfl (WO.done (WX.seq (WC.seq ?_))))
  obtain ⟨H, hle1, hp_g1, hs9⟩ := hs.pub1 hg1; clear hs; have hs := hs9; clear hs9; replace hle := hle.trans hle1; (try replace hlb := hlb.trans hle1)
  have hA0 : hcell H ⟨g1, 0 + 0, none⟩ = some (B a) := hcell_of hp_g1 rfl
  have hA1 : hcell H ⟨g1, 0 + 1, none⟩ = some (B c) := hcell_of hp_g1 rfl
  have hga := g4_le a
  have hgc := g4_le c
  refine WC.draw 11 mixed hs (by kernel_rfl) ?_
  refine ⟨MF.eq (.pointer (some ⟨g1, 0 + 0, none⟩)), ?_, ?_⟩
  · intro Mx H w hle2 hs; (try replace hle := hle.trans hle2); (try replace hlb := hlb.trans hle2)
    refine forVals_nil (ORg.plain (OR.idxArr 0 T43.und T5 rfl rfl (by omega) (by omega) ?_))
    exact ⟨_, [], Hp.le.refl _, hs, rfl, rfl⟩
  refine ⟨MF.eq (B a), ?_, ?_⟩
  · intro Mx H w hle2 hs; (try replace hle := hle.trans hle2); (try replace hlb := hlb.trans hle2); refine forVals_eq rfl rfl rfl ?_
    refine forVals_nil (ORg.plain (OR.load T5 rfl rfl (hs.cell (hcell.mono hle2 hA0)) ?_))
    exact ⟨_, [], Hp.le.refl _, hs, rfl, rfl⟩
  refine ⟨MF.eq (.int .u8 ((a.toNat : Int).tmod 4)), ?_, ?_⟩
  · intro Mx H w hle2 hs; (try replace hle := hle.trans hle2); (try replace hlb := hlb.trans hle2); refine forVals_eq rfl rfl rfl ?_
    refine forVals_nil (ORg.plain (OR.rem rfl rfl (by omega) ?_))
    exact ⟨_, [], Hp.le.refl _, hs, rfl, rfl⟩
  refine ⟨MF.eq (.int .i64 ((a.toNat % 4 : Nat) : Int)), ?_, ?_⟩
  · intro Mx H w hle2 hs; (try replace hle := hle.trans hle2); (try replace hlb := hlb.trans hle2); refine forVals_eq rfl rfl rfl ?_
    refine forVals_nil (ORg.plain (OR.convI T5.und T3.und rfl ?_))
    exact ⟨_, [], Hp.le.refl _, hs, (by rw [show ((a.toNat : Int).tmod 4) = ((a.toNat : Int).tmod (4 : Nat)) from rfl, modn a 4 (by omega) (by omega)]), rfl⟩
  refine ⟨MF.eq (.int .i64 (g4 a : Int)), ?_, ?_⟩
  · intro Mx H w hle2 hs; (try replace hle := hle.trans hle2); (try replace hlb := hlb.trans hle2); refine forVals_eq rfl rfl rfl ?_
    have hG : (1 : Int) + ((a.toNat % 4 : Nat) : Int) = (g4 a : Int) := rfl
    refine forVals_nil (ORg.plain (OR.addI rfl rfl (by rw [hG]; omega) (by rw [hG]; omega) ?_))
    exact ⟨_, [], Hp.le.refl _, hs, rfl, rfl⟩
  refine ⟨MF.eq (.pointer (some ⟨g1, 0 + 1, none⟩)), ?_, ?_⟩
  · intro Mx H w hle2 hs; (try replace hle := hle.trans hle2); (try replace hlb := hlb.trans hle2)
    refine forVals_nil (ORg.plain (OR.idxArr 1 T43.und T5 rfl rfl (by omega) (by omega) ?_))
    exact ⟨_, [], Hp.le.refl _, hs, rfl, rfl⟩
  refine ⟨MF.eq (B c), ?_, ?_⟩
  · intro Mx H w hle2 hs; (try replace hle := hle.trans hle2); (try replace hlb := hlb.trans hle2); refine forVals_eq rfl rfl rfl ?_
    refine forVals_nil (ORg.plain (OR.load T5 rfl rfl (hs.cell (hcell.mono hle2 hA1)) ?_))
    exact ⟨_, [], Hp.le.refl _, hs, rfl, rfl⟩
  refine ⟨MF.eq (.int .u8 ((c.toNat : Int).tmod 4)), ?_, ?_⟩
  · intro Mx H w hle2 hs; (try replace hle := hle.trans hle2); (try replace hlb := hlb.trans hle2); refine forVals_eq rfl rfl rfl ?_
    refine forVals_nil (ORg.plain (OR.rem rfl rfl (by omega) ?_))
    exact ⟨_, [], Hp.le.refl _, hs, rfl, rfl⟩
  refine ⟨MF.eq (.int .i64 ((c.toNat % 4 : Nat) : Int)), ?_, ?_⟩
  · intro Mx H w hle2 hs; (try replace hle := hle.trans hle2); (try replace hlb := hlb.trans hle2); refine forVals_eq rfl rfl rfl ?_
    refine forVals_nil (ORg.plain (OR.convI T5.und T3.und rfl ?_))
    exact ⟨_, [], Hp.le.refl _, hs, (by rw [show ((c.toNat : Int).tmod 4) = ((c.toNat : Int).tmod (4 : Nat)) from rfl, modn c 4 (by omega) (by omega)]), rfl⟩
  refine ⟨MF.eq (.int .i64 (g4 c : Int)), ?_, ?_⟩
  · intro Mx H w hle2 hs; (try replace hle := hle.trans hle2); (try replace hlb := hlb.trans hle2); refine forVals_eq rfl rfl rfl ?_
    have hG : (1 : Int) + ((c.toNat % 4 : Nat) : Int) = (g4 c : Int) := rfl
    refine forVals_nil (ORg.plain (OR.addI rfl rfl (by rw [hG]; omega) (by rw [hG]; omega) ?_))
    exact ⟨_, [], Hp.le.refl _, hs, rfl, rfl⟩
  refine ⟨MF.eq _, by intro Mx H w hle hs; refine forVals_eq rfl rfl rfl ?_; refine forVals_nil (ORg.plain (OR.assign rfl ?_)); exact ⟨_, [], Hp.le.refl _, hs, rfl, rfl⟩, ?_⟩
  intro H w hle2; (try replace hle := hle.trans hle2); (try replace hlb := hlb.trans hle2)
  refine forAllVals_eq rfl ?_
  refine forAllVals_eq rfl ?_
  refine forAllVals_eq rfl ?_
  refine forAllVals_eq rfl ?_
  refine forAllVals_eq rfl ?_
  refine forAllVals_eq rfl ?_
  refine forAllVals_eq rfl ?_
  refine forAllVals_eq rfl ?_
  refine forAllVals_eq rfl ?_
  refine forAllVals_eq rfl ?_
  refine forAllVals_eq rfl ?_
  refine forAllVals_nil ?_; (try clear hs); intro hs
  refine WO.step rfl (OR.assign rfl (WO.done (WX.seq (WC.seq (WC.region (WO.step rfl (OR.move rfl ?_)))))))
  refine WO.step rfl (OR.move rfl (WO.step rfl (OR.move rfl ?_)))
  clear hA0 hA1 hp_g1
  refine WO.step rfl (OR.call hs body16 rfl rfl (symbols14_ok _ b (g4 a) (g4 c) _ _ hs.toSub (hb.mono hle) (by omega) (by omega)) ?_)
  clear hs; rintro _ H w hs hle1 hys; replace hle := hle.trans hle1; (try replace hlb := hlb.trans hle1)
  have hyl := symsF_len (g4 a) (g4 c) b
  have hyr := symsF_row (g4 a) (g4 c) b
  generalize symsF (g4 a) (g4 c) b = ys at *
  generalize g4 a = g at *
  generalize g4 c = s at *
  obtain ⟨by_, cy, hfy⟩ := hys.form
  subst hfy
  refine WO.step rfl (OR.assign rfl (WO.done (WX.seq (WC.seq (WC.region (WO.step rfl (OR.alloc hs T45 ?_)))))))
  clear hs; intro g2 w hg2 hs
  refine WO.done (WX.seq (WC.seq (WC.seq (WC.region (WO.step rfl (OR.assign rfl (WO.done ?_)))))))
  refine WX.seq (WC.block ?_)
  obtain ⟨HB, hHB⟩ : ∃ X, X = H := ⟨_, rfl⟩
  subst hHB
  replace hs : HS [] H0 w0 HB ((g2, hopArr [], true) :: hopMem g s []) w := hs
  refine WC.loop (ι := Nat) (fun i => [(2, .slice bt tk.length ct), (3, .slice bf fr.length cf), (4, .slice bd ds.length cd), (11, .int .i64 (g : Int)), (12, .int .i64 (s : Int)), (13, .slice by_ ys.length cy), (14, ptr g2), (15, .int .i64 (i : Int))]) (fun i w => (i ≤ 4 ∧ ∃ H L, Hp.le H0 H ∧ Hp.le HB H ∧ L.length = i ∧ (∀ x ∈ L, x.A = [] ∧ x.l = List.replicate 16 none) ∧ HS [] H0 w0 H ((g2, hopArr L, true) :: hopMem g s L) w)) (fun i => 4 - i) 0 ⟨rfl, rfl, rfl, rfl, rfl, rfl, rfl, rfl,  trivial⟩ ?_ (fun i w hW => ?_)
  · exact ⟨by omega, HB, [], hle, Hp.le.refl _, rfl, by simp, hs⟩
  clear hs hle
  obtain ⟨hi, H, L, hle, hlb, hL, hLx, hs⟩ := hW
  refine WC.seq (WC.seq (WC.region (WO.step rfl (OR.move rfl (WO.step rfl (OR.lss rfl rfl (WO.done ?_)))))))
  refine WX.seq ?_
  refine WC.condD rfl (fun hlt4 => ?_) (fun hlt4 => ?_)
  · refine WC.skip (WX.seq (WC.seq (WC.block (WC.region (WO.step rfl (OR.move rfl (WO.step rfl ?_)))))))
    refine OR.move rfl (WO.step rfl (OR.move rfl ?_))
    refine WO.step rfl (OR.callX (Mx := []) (Mr := (g2, hopArr L, true) :: hopMem g s L) hs body8 rfl rfl (rnew_ok g s 2 _ _ hs.toSub (by omega) (by omega)) rfl rfl ?_)
    clear hs; rintro v H M w hs hle1 hnew ⟨hH, rb, wb, rfl, rfl⟩
    replace hle := hle.trans hle1
    replace hlb := hlb.trans hle1
    rw [relT_new g s 2 1] at hs
    replace hs := HS.mtail (A := relMem true (relT g s 2 1 []) rb wb (List.replicate 16 none)) (B := (g2, hopArr L, true) :: hopMem g s L) hs
    replace hs : HS [] H0 w0 H ((g2, hopArr L, true) :: hopMem g s (L ++ [⟨rb, wb, List.replicate 16 none, []⟩])) w := by
      have e : hopMem g s (L ++ [⟨rb, wb, List.replicate 16 none, []⟩]) = hopMem g s L ++ relMem true (relT g s 2 1 []) rb wb (List.replicate 16 none) := by simp [hopMem, rxMem]
      rw [e]
      exact hs
    refine WO.step rfl (OR.move rfl (WO.step rfl (OR.extract rfl rfl (WO.step rfl (OR.extract rfl rfl ?_)))))
    refine WO.step rfl (OR.idxArr i T45.und T28 rfl rfl rfl (by omega) ?_)
    refine WO.stepN (OR.store hs T28 rfl rfl rfl (by simp; omega) rfl ?_)
    clear hs; intro w hs
    have hobj : Obj.cells (setL (L.map (fun x : HopR => ptr x.rb) ++ List.replicate (4 - L.length) (Value.pointer none)).toArray.toList (0 + i) (ptr rb).cells.toList).toArray 45 = hopArr (L ++ [⟨rb, wb, List.replicate 16 none, []⟩]) := by
      rw [Nat.zero_add, List.toList_toArray, show (ptr rb).cells.toList = [ptr rb] from rfl, setL_one2, ← hL, hopArr_set L (by omega) ⟨rb, wb, List.replicate 16 none, []⟩]
      rfl
    replace hs : HS [] H0 w0 H ((g2, hopArr (L ++ [⟨rb, wb, List.replicate 16 none, []⟩]), true) :: hopMem g s (L ++ [⟨rb, wb, List.replicate 16 none, []⟩])) w := by rw [← hobj]; exact hs
    refine WO.done (WX.block (WX.seq (WC.region (WO.step rfl (OR.move rfl (WO.step rfl (OR.addI rfl rfl (by omega) (by omega) ?_)))))))
    refine WO.step rfl (OR.assign rfl (WO.done ?_))
    refine WX.again (i + 1) ⟨rfl, rfl, rfl, rfl, rfl, rfl, rfl, rfl,  trivial⟩ ?_ ?_
    · refine ⟨by omega, H, _, hle, hlb, by rw [List.length_append, hL]; rfl, ?_, hs⟩
      intro x hx
      rcases List.mem_append.1 hx with hx | hx
      · exact hLx x hx
      · rw [List.mem_singleton.1 hx]; exact ⟨rfl, rfl⟩
    · omega
  · have e : i = 4 := by omega
    subst e
    have hin : inWin 0 2 1 := by decide
    have hokT : ∀ A, Red g s A → RelOk (relT g s 2 1 A) := fun A hA => relT_ok (by omega) (by omega) hA
    refine WC.exit (WX.seq_exit (WX.loop_exit (WX.block_hit (WX.seq (WC.seq (WC.seq (WC.region ?_)))))))
    refine WO.step rfl (OR.assign rfl (WO.done (WX.seq ?_)))
    refine WC.joinK (ι := Unit) (fun iu => [(3, .slice bf fr.length cf), (4, .slice bd ds.length cd), (11, .int .i64 (g : Int)), (13, .slice by_ ys.length cy), (14, ptr g2)]) (fun iu w => (∃ H L, Hp.le H0 H ∧ Hp.le HB H ∧ HopI H g s ys g2 L ∧ HS [] H0 w0 H (hopMem g s L) w)) ?_ (fun iu w hW => ?_)
    · refine WC.block ?_
      obtain ⟨H, hle1, hp_g2, hs9⟩ := hs.pub1 hg2; clear hs; have hs := hs9; clear hs9; replace hle := hle.trans hle1; (try replace hlb := hlb.trans hle1)
      have hI : HopI H g s ys g2 L := by
        refine ⟨hL, fun k hk => ?_, fun k hk => ?_, fun k hk x hx => ?_, fun k hk => ?_⟩
        · rw [(hLx _ (List.getElem_mem hk)).1]; exact Good.nil g s ys
        · rw [(hLx _ (List.getElem_mem hk)).1, (hLx _ (List.getElem_mem hk)).2]; exact (relT_new g s 2 1) ▸ slots_newR H g s 2
        · rw [(hLx _ (List.getElem_mem hk)).1] at hx; cases hx
        · refine hcell_of hp_g2 ?_
          rw [nth_eq, Nat.zero_add, hL]
          simp [hk]
      clear hLx hL
      refine WC.loop (ι := Nat) (fun i => [(2, .slice bt tk.length ct), (3, .slice bf fr.length cf), (4, .slice bd ds.length cd), (11, .int .i64 (g : Int)), (13, .slice by_ ys.length cy), (14, ptr g2), (16, .int .i64 (i : Int))]) (fun i w => (i ≤ tk.length ∧ i ≤ 8 ∧ ∃ H L, Hp.le H0 H ∧ Hp.le HB H ∧ HopI H g s ys g2 L ∧ HS [] H0 w0 H (hopMem g s L) w)) (fun i => tk.length - i) 0 ⟨rfl, rfl, rfl, rfl, rfl, rfl, rfl,  trivial⟩ ?_ (fun i w hW => ?_)
      · exact ⟨by omega, by omega, H, L, hle, hlb, hI, hs⟩
      clear hs hle hI hlb hle1 hp_g2
      obtain ⟨hi, hi8, H, L, hle, hlr, hI, hs⟩ := hW
      refine WC.seq (WC.seq (WC.region (WO.step rfl (OR.move rfl (WO.step rfl (OR.move rfl (WO.step rfl ?_)))))))
      refine OR.lenSlice T31.und rfl (WO.step rfl (OR.lss rfl rfl (WO.step rfl (OR.move rfl ?_))))
      refine WO.guardSplit (j := 4) rfl (fun hks => ?_) (fun hks => ?_)
      · refine WO.guardYes rfl (decide_eq_true hks) rfl rfl (OR.move rfl (WO.guardYes rfl (decide_eq_true hks) rfl rfl (OR.lss rfl rfl (WO.step rfl (OR.pickT rfl (decide_eq_true hks) rfl (WO.done (WX.seq ?_)))))))
        refine WC.condD rfl (fun h8 => ?_) (fun h8 => ?_)
        · have hi' : i < tk.length := by omega
          have hL := hI.len
          have hk0 : 0 < L.length := by omega
          have hgd := hI.good 0 hk0
          have hok9 := hokT _ hgd.red
          obtain ⟨htr, hgr⟩ := laid_true (g := g) ys tk[i] hyr
          obtain ⟨xb, xo, rfl, hcr⟩ := ht.pos (by omega)
          obtain ⟨e1, he1, hb1⟩ := hcr i hi'
          obtain ⟨b3, c3, rfl⟩ := hb1.form
          have hpt := hI.ptr 0 hk0
          have hlb := Hp.le.refl H
          refine WC.skip (WX.seq (WC.seq (WC.block ?_)))
          refine WC.draw 8 mixed hs (by kernel_rfl) ?_
          refine ⟨MF.eq (.pointer (some ⟨g2, 0 + 0, none⟩)), ?_, ?_⟩
          · intro Mx H w hle2 hs; (try replace hle := hle.trans hle2); (try replace hlb := hlb.trans hle2)
            refine forVals_nil (ORg.plain (OR.idxArr 0 T45.und T28 rfl rfl (by omega) (by omega) ?_))
            exact ⟨_, [], Hp.le.refl _, hs, rfl, rfl⟩
          refine ⟨MF.eq (ptr L[0].rb), ?_, ?_⟩
          · intro Mx H w hle2 hs; (try replace hle := hle.trans hle2); (try replace hlb := hlb.trans hle2); refine forVals_eq rfl rfl rfl ?_
            refine forVals_nil (ORg.plain (OR.load T28 rfl rfl (hs.cell (hcell.mono hlb hpt)) ?_))
            exact ⟨_, [], Hp.le.refl _, hs, rfl, rfl⟩
          refine ⟨MF.eq _, by intro Mx H w hle hs; refine forVals_nil (ORg.plain (OR.move rfl ?_)); exact ⟨_, [], Hp.le.refl _, hs, rfl, rfl⟩, ?_⟩
          refine ⟨MF.eq _, by intro Mx H w hle hs; refine forVals_nil (ORg.plain (OR.move rfl ?_)); exact ⟨_, [], Hp.le.refl _, hs, rfl, rfl⟩, ?_⟩
          refine ⟨MF.eq (.pointer (some ⟨xb, xo + i, none⟩)), ?_, ?_⟩
          · intro Mx H w hle2 hs; (try replace hle := hle.trans hle2); (try replace hlb := hlb.trans hle2); refine forVals_eq rfl rfl rfl ?_; refine forVals_eq rfl rfl rfl ?_
            refine forVals_nil (ORg.plain (OR.idx i T31.und T37 rfl rfl rfl hi' ?_))
            exact ⟨_, [], Hp.le.refl _, hs, rfl, rfl⟩
          refine ⟨MF.eq (.slice b3 tk[i].length c3), ?_, ?_⟩
          · intro Mx H w hle2 hs; (try replace hle := hle.trans hle2); (try replace hlb := hlb.trans hle2); refine forVals_eq rfl rfl rfl ?_
            refine forVals_nil (ORg.plain (OR.load T37 rfl rfl (hs.cell (hcell.mono hle he1)) ?_))
            exact ⟨_, [], Hp.le.refl _, hs, rfl, rfl⟩
          refine ⟨MF.eq _, by intro Mx H w hle hs; refine forVals_nil (ORg.plain (OR.move rfl ?_)); exact ⟨_, [], Hp.le.refl _, hs, rfl, rfl⟩, ?_⟩
          refine ⟨MF.row (laidRow g s ys tk[i]), ?_, ?_⟩
          · intro Mx H w hle2 hs; (try replace hle := hle.trans hle2); (try replace hlb := hlb.trans hle2); refine forVals_eq rfl rfl rfl ?_; refine forVals_eq rfl rfl rfl ?_
            refine forVals_nil (ORg.plain (OR.call hs body17 rfl rfl (truth14_ok _ _ tk[i] ys s _ _ hs.toSub (hb1.mono hle) (hys.mono (hlr.trans hlb)) (by omega) hyr (by omega) (by omega) (hlt _ (List.getElem_mem _))) ?_))
            clear hs; rintro _ H w hs hle1 hr9
            exact ⟨_, [], hle1, hs, by rw [hyl] at hr9; exact hr9, rfl⟩
          intro H w hle2; (try replace hle := hle.trans hle2); (try replace hlb := hlb.trans hle2)
          refine forAllVals_eq rfl ?_
          refine forAllVals_eq rfl ?_
          refine forAllVals_eq rfl ?_
          refine forAllVals_eq rfl ?_
          refine forAllVals_eq rfl ?_
          refine forAllVals_eq rfl ?_
          refine forAllVals_eq rfl ?_
          refine forAllVals_of rfl ?_; intro v7 h7
          refine forAllVals_nil ?_; (try clear hs); intro hs
          obtain ⟨rc, rp, rfl, hrc, hrp⟩ := h7
          generalize laidRow g s ys tk[i] = r at *
          refine WO.step rfl (OR.callX (Mx := relMem true (relT g s 2 1 L[0].A) L[0].rb L[0].wb L[0].l) (Mr := hopMem g s (L.take 0 ++ L.drop 1)) (hs.hopOut hk0) body12 rfl rfl (rtake_ok' L[0].rb L[0].wb 1 _ _ (relT g s 2 1 L[0].A) L[0].l r _ _ (HS.relRW (Mr := hopMem g s (L.take 0 ++ L.drop 1)) (hs.hopOut hk0)) ((hI.slots 0 hk0).mono hlb) hok9 (by omega) hrc hrp) rfl (relMem_flags _ _ _ _) ?_)
          clear hs; rintro v H M w hs hle1 hnew ⟨rfl, l2, rfl, hsl2⟩
          replace hle := hle.trans hle1
          replace hlb := hlb.trans hle1
          rw [relT_take hin r] at hs hsl2
          replace hs := HS.hopIn (k := 0) hs hk0
          refine WO.done (WX.block (WX.seq (WC.region (WO.step rfl (OR.move rfl (WO.step rfl (OR.addI rfl rfl (by omega) (by omega) ?_)))))))
          refine WO.step rfl (OR.assign rfl (WO.done ?_))
          refine WX.again (i + 1) ⟨rfl, rfl, rfl, rfl, rfl, rfl, rfl,  trivial⟩ ?_ ?_
          · exact ⟨hi', by omega, H, _, hle, hlr.trans hlb, (hI.mono hlb).upd hk0 htr hgr (fun h => absurd h (by omega)) l2 hsl2, hs⟩
          · omega
        · refine WC.exit (WX.seq_exit (WX.loop_exit (WX.block_hit ?_)))
          refine WX.arrive (()) ⟨rfl, rfl, rfl, rfl, rfl,  trivial⟩ ?_
          · exact ⟨H, L, hle, hlr, hI, hs⟩
      · refine WO.guardNo rfl (decide_eq_false hks) rfl rfl (WO.guardNo rfl (decide_eq_false hks) rfl rfl (WO.step rfl (OR.pickF rfl (decide_eq_false hks) rfl (WO.done (WX.seq (WC.no rfl rfl (WC.exit ?_)))))))
        refine WX.seq_exit (WX.loop_exit (WX.block_hit ?_))
        refine WX.arrive (()) ⟨rfl, rfl, rfl, rfl, rfl,  trivial⟩ ?_
        · exact ⟨H, L, hle, hlr, hI, hs⟩
    · clear hs hle hlb hLx hL
      obtain ⟨H, L, hle, hlr, hI, hs⟩ := hW
      refine WC.seq (WC.seq (WC.region (WO.step rfl (OR.assign rfl (WO.done (WX.seq ?_))))))
      refine WC.joinK (ι := Unit) (fun iu => [(11, .int .i64 (g : Int)), (13, .slice by_ ys.length cy), (14, ptr g2)]) (fun iu w => (∃ H L, Hp.le H0 H ∧ Hp.le HB H ∧ HopI H g s ys g2 L ∧ HS [] H0 w0 H (hopMem g s L) w)) ?_ (fun iu w hW => ?_)
      · refine WC.block ?_
        refine WC.loop (ι := Nat) (fun i => [(3, .slice bf fr.length cf), (4, .slice bd ds.length cd), (11, .int .i64 (g : Int)), (13, .slice by_ ys.length cy), (14, ptr g2), (17, .int .i64 (i : Int))]) (fun i w => (i ≤ fr.length ∧ i ≤ 60 ∧ ∃ H L, Hp.le H0 H ∧ Hp.le HB H ∧ HopI H g s ys g2 L ∧ HS [] H0 w0 H (hopMem g s L) w)) (fun i => fr.length - i) 0 ⟨rfl, rfl, rfl, rfl, rfl, rfl,  trivial⟩ ?_ (fun i w hW => ?_)
        · exact ⟨by omega, by omega, H, L, hle, hlr, hI, hs⟩
        clear hs hle hI hlr
        obtain ⟨hi, hi60, H, L, hle, hlr, hI, hs⟩ := hW
        refine WC.seq (WC.seq (WC.region (WO.step rfl (OR.move rfl (WO.step rfl (OR.move rfl (WO.step rfl ?_)))))))
        refine OR.lenSlice T37.und rfl (WO.step rfl (OR.lss rfl rfl (WO.step rfl (OR.move rfl ?_))))
        refine WO.guardSplit (j := 4) rfl (fun hks => ?_) (fun hks => ?_)
        · refine WO.guardYes rfl (decide_eq_true hks) rfl rfl (OR.move rfl (WO.guardYes rfl (decide_eq_true hks) rfl rfl (OR.lss rfl rfl (WO.step rfl (OR.pickT rfl (decide_eq_true hks) rfl (WO.done (WX.seq ?_)))))))
          refine WC.condD rfl (fun h60 => ?_) (fun h60 => ?_)
          · have hi' : i < fr.length := by omega
            obtain ⟨xb, xo, rfl, hcf⟩ := hf.pos (by omega)
            have hfi := hcf i hi'
            refine WC.skip (WX.seq (WC.seq (WC.block (WC.seq (WC.region (WO.step rfl (OR.move rfl ?_)))))))
            refine WO.step rfl (OR.move rfl ?_)
            refine WO.step rfl (OR.idx i T37.und T5 rfl rfl rfl hi' ?_)
            refine WO.step rfl (OR.load T5 rfl rfl (hs.cell (hcell.mono hle hfi)) ?_)
            refine WO.step rfl (OR.rem rfl rfl (by omega) ?_)
            refine WO.step rfl (OR.convI T5.und T3.und rfl ?_)
            rw [show ((fr[i].toNat : Int).tmod 3) = ((fr[i].toNat : Int).tmod (3 : Nat)) from rfl, modn fr[i] 3 (by omega) (by omega)]
            have hk3 : fr[i].toNat % 3 < 3 := Nat.mod_lt _ (by omega)
            generalize fr[i].toNat % 3 = k at *
            refine WO.step rfl (OR.assign rfl (WO.done (WX.seq (WC.seq (WC.region (WO.step rfl (OR.assign rfl ?_)))))))
            refine WO.done (WX.seq (WC.seq (WC.seq (WC.region (WO.step rfl (OR.move rfl (WO.step rfl ?_)))))))
            refine OR.move rfl (WO.step rfl (OR.lenSlice T31.und rfl (WO.step rfl (OR.lss rfl rfl (WO.done (WX.seq ?_))))))
            refine WC.joinK (ι := Value) (fun vq => [(3, .slice (some ⟨xb, xo, none⟩) fr.length cf), (4, .slice bd ds.length cd), (11, .int .i64 (g : Int)), (13, .slice by_ ys.length cy), (14, ptr g2), (17, .int .i64 (i : Int)), (18, .int .i64 (k : Int)), (19, vq)]) (fun vq w => (∃ dl, Bytes H vq dl ∧ HS [] H0 w0 H (hopMem g s L) w)) ?_ (fun vq w hW => ?_)
            · refine WC.condD rfl (fun hby => ?_) (fun hby => ?_)
              · have hid : i < ds.length := by omega
                obtain ⟨yb, yo, rfl, hcy⟩ := hd.pos (by omega)
                obtain ⟨e2, he2, hb2⟩ := hcy i hid
                obtain ⟨b6, c6, rfl⟩ := hb2.form
                refine WC.region (WO.step rfl (OR.move rfl (WO.step rfl (OR.move rfl ?_))))
                refine WO.step rfl (OR.idx i T31.und T37 rfl rfl rfl hid ?_)
                refine WO.step rfl (OR.load T37 rfl rfl (hs.cell (hcell.mono hle he2)) ?_)
                refine WO.step rfl (OR.assign rfl (WO.done ?_))
                refine WX.arrive ((.slice b6 ds[i].length c6)) ⟨rfl, rfl, rfl, rfl, rfl, rfl, rfl, rfl,  trivial⟩ ?_
                · exact ⟨ds[i], hb2.mono hle, hs⟩
              · refine WC.skip ?_
                refine WX.arrive ((.slice none 0 0)) ⟨rfl, rfl, rfl, rfl, rfl, rfl, rfl, rfl,  trivial⟩ ?_
                · exact ⟨[], Sl.nil _ _, hs⟩
            · clear hs
              obtain ⟨dl, hdl, hs⟩ := hW
              have hL := hI.len
              have hkL : k < L.length := by omega
              have hkL1 : k + 1 < L.length := by omega
              have hgd := hI.good k hkL
              have hok9 := hokT _ hgd.red
              have hgd1 := hI.good (k + 1) hkL1
              have hok1 := hokT _ hgd1.red
              have hlb := Hp.le.refl H
              refine WC.seq (WC.region (WO.step rfl (OR.move rfl ?_)))
              refine WO.step rfl (OR.idxArr k T45.und T28 rfl rfl rfl (by omega) ?_)
              refine WO.step rfl (OR.load T28 rfl rfl (hs.cell (hI.ptr k hkL)) ?_)
              refine WO.step rfl (OR.move rfl ?_)
              refine WO.step rfl (OR.convI T3.und T27.und rfl ?_)
              rw [u64_wrap i (by omega)]
              refine WO.step rfl (OR.move rfl ?_)
              refine WO.step rfl (OR.call hs body18 rfl rfl (rsend_ok L[k].rb L[k].wb 1 i _ dl (relT g s 2 1 L[k].A) L[k].l _ _ (hs.hopRO hkL) (hI.slots k hkL) hok9 (by omega) hdl (by omega)) ?_)
              clear hs; rintro _ H w hs hle1 ⟨r1, r2, rfl, hr1, hr2⟩
              replace hle := hle.trans hle1
              replace hlb := hlb.trans hle1
              rw [relT_sndF hin] at hr1 hr2
              rw [relT_sndE hin]
              obtain ⟨b4, c4, hf4⟩ := hr1.form
              obtain ⟨b5, c5, hf5⟩ := hr2.form
              subst hf4 hf5
              refine WO.step rfl (OR.move rfl (WO.step rfl (OR.extract rfl rfl (WO.step rfl (OR.extract rfl rfl (WO.step rfl (OR.alloc hs T39 ?_)))))))
              clear hs; intro g3 w hg3 hs
              refine WO.stepN (OR.storeAll hs T39 rfl rfl rfl rfl rfl ?_)
              clear hs; intro w hs
              refine WO.step rfl (OR.assign rfl (WO.done (WX.seq (WC.seq (WC.seq (WC.region (WO.step rfl ?_)))))))
              refine OR.move rfl (WO.step rfl (OR.eql rfl rfl (WO.step rfl (OR.move rfl ?_))))
              obtain ⟨H, hle1, hp_g3, hs9⟩ := hs.pub1 hg3; clear hs; have hs := hs9; clear hs9; replace hle := hle.trans hle1; (try replace hlb := hlb.trans hle1)
              replace hr1 := hr1.mono hle1
              replace hr2 := hr2.mono hle1
              have hlc := Hp.le.refl H
              refine WO.step rfl (OR.idxArr k T45.und T28 rfl rfl rfl (by omega) ?_)
              refine WO.step rfl (OR.load T28 rfl rfl (hs.cell (hcell.mono hlb (hI.ptr k hkL))) ?_)
              refine WO.step rfl (OR.call hs body19 rfl rfl (rrank_ok L[k].rb L[k].wb 1 (relT g s 2 1 L[k].A) L[k].l _ _ (hs.hopRO hkL) ((hI.slots k hkL).mono hlb) hok9 (by omega)) ?_)
              clear hs; rintro _ H w hs hle1 rfl
              replace hle := hle.trans hle1
              replace hlb := hlb.trans hle1
              replace hlc := hlc.trans hle1
              rw [relT_rk hin]
              by_cases hA0 : L[k].A.length = 0
              · rw [if_pos hA0]
                refine WO.step rfl (OR.gtr rfl rfl (WO.step rfl (OR.neqB T4.und rfl rfl (WO.done (WX.seq ?_)))))
                refine WC.no rfl (by rw [decide_eq_false (by omega : ¬ ((L[k].A.length : Int) > 0))]; rfl) ?_
                refine WC.skip (WX.seq (WC.seq (WC.region (WO.step rfl (OR.move rfl (WO.step rfl (OR.eql rfl rfl ?_)))))))
                refine WO.done (WX.seq ?_)
                refine WC.no rfl rfl ?_
                refine WC.skip (WX.block (WX.seq (WC.region (WO.step rfl (OR.move rfl (WO.step rfl (OR.addI rfl rfl (by omega) (by omega) ?_)))))))
                refine WO.step rfl (OR.assign rfl (WO.done ?_))
                refine WX.again (i + 1) ⟨rfl, rfl, rfl, rfl, rfl, rfl,  trivial⟩ ?_ ?_
                · exact ⟨hi', by omega, H, L, hle, hlr.trans hlb, hI.mono hlb, hs⟩
                · omega
              · rw [if_neg hA0]
                refine WO.step rfl (OR.gtr rfl rfl (WO.step rfl (OR.neqB T4.und rfl rfl (WO.done (WX.seq ?_)))))
                refine WC.no rfl (by rw [decide_eq_true (by omega : ((L[k].A.length : Int) > 0))]; rfl) ?_
                refine WC.skip (WX.seq (WC.seq (WC.region (WO.step rfl (OR.move rfl (WO.step rfl (OR.eql rfl rfl ?_)))))))
                refine WO.done (WX.seq ?_)
                refine WC.yes rfl rfl ?_
                have hsg := snd_gs hgd.red i dl hA0
                have hsi := snd_in hgd.red i dl hA0
                have hst := snd_tr hgd i dl hA0
                generalize sndR g s L[k].A i dl = r at *
                have hrow : ∀ j u, [Value.slice b4 r.1.length c4, Value.slice b5 r.2.length c5][j]? = some u → hcell H ((⟨g3, 0, none⟩ : Addr).add j) = some u := by
                  intro j u hj
                  rw [add_off, Nat.zero_add]
                  exact hcell.mono hlc (hcell_of hp_g3 (by rw [nth_eq]; exact hj))
                have hpt := hcell.mono hlb (hI.ptr (k + 1) hkL1)
                refine WC.draw 5 mixed hs (by kernel_rfl) ?_
                refine ⟨MF.eq _, by intro Mx H w hle hs; refine forVals_nil (ORg.plain (OR.move rfl ?_)); exact ⟨_, [], Hp.le.refl _, hs, rfl, rfl⟩, ?_⟩
                refine ⟨MF.eq _, by intro Mx H w hle hs; refine forVals_eq rfl rfl rfl ?_; refine forVals_nil (ORg.plain (OR.addI rfl rfl (by omega) (by omega) ?_)); exact ⟨_, [], Hp.le.refl _, hs, rfl, rfl⟩, ?_⟩
                refine ⟨MF.eq (.pointer (some ⟨g2, 0 + (k + 1), none⟩)), ?_, ?_⟩
                · intro Mx H w hle2 hs; (try replace hle := hle.trans hle2); (try replace hlb := hlb.trans hle2); refine forVals_eq rfl rfl rfl ?_
                  refine forVals_nil (ORg.plain (OR.idxArr (k + 1) T45.und T28 rfl rfl (by omega) (by omega) ?_))
                  exact ⟨_, [], Hp.le.refl _, hs, rfl, rfl⟩
                refine ⟨MF.eq (ptr L[k + 1].rb), ?_, ?_⟩
                · intro Mx H w hle2 hs; (try replace hle := hle.trans hle2); (try replace hlb := hlb.trans hle2); refine forVals_eq rfl rfl rfl ?_
                  refine forVals_nil (ORg.plain (OR.load T28 rfl rfl (hs.cell (hcell.mono hle2 hpt)) ?_))
                  exact ⟨_, [], Hp.le.refl _, hs, rfl, rfl⟩
                refine ⟨MF.eq (.agg #[.slice b4 r.1.length c4, .slice b5 r.2.length c5]), ?_, ?_⟩
                · intro Mx H w hle2 hs; (try replace hle := hle.trans hle2); (try replace hlb := hlb.trans hle2)
                  refine forVals_nil (ORg.plain (OR.loadN (cs := [_, _]) T39 rfl rfl rfl (fun j u hj => hs.cell (hcell.mono hle2 (hrow j u hj))) ?_))
                  exact ⟨_, [], Hp.le.refl _, hs, rfl, rfl⟩
                intro H w hle2; (try replace hle := hle.trans hle2); (try replace hlb := hlb.trans hle2)
                refine forAllVals_eq rfl ?_
                refine forAllVals_eq rfl ?_
                refine forAllVals_eq rfl ?_
                refine forAllVals_eq rfl ?_
                refine forAllVals_eq rfl ?_
                refine forAllVals_nil ?_; (try clear hs); intro hs
                have hr1' := hr1.mono (hlc.trans hle2)
                have hr2' := hr2.mono (hlc.trans hle2)
                refine WO.step rfl (OR.callX (Mx := relMem true (relT g s 2 1 L[k + 1].A) L[k + 1].rb L[k + 1].wb L[k + 1].l) (Mr := hopMem g s (L.take (k + 1) ++ L.drop (k + 1 + 1))) (hs.hopOut hkL1) body12 rfl rfl (rtake_ok' L[k + 1].rb L[k + 1].wb 1 _ _ (relT g s 2 1 L[k + 1].A) L[k + 1].l r _ _ (HS.relRW (Mr := hopMem g s (L.take (k + 1) ++ L.drop (k + 1 + 1))) (hs.hopOut hkL1)) ((hI.slots (k + 1) hkL1).mono hlb) hok1 (by omega) hr1' hr2') rfl (relMem_flags _ _ _ _) ?_)
                clear hs; rintro v H M w hs hle1 hnew ⟨rfl, l2, rfl, hsl2⟩
                replace hle := hle.trans hle1
                replace hlb := hlb.trans hle1
                rw [relT_take hin r] at hs hsl2
                replace hs := HS.hopIn (k := k + 1) hs hkL1
                refine WO.done (WX.block (WX.seq (WC.region (WO.step rfl (OR.move rfl (WO.step rfl (OR.addI rfl rfl (by omega) (by omega) ?_)))))))
                refine WO.step rfl (OR.assign rfl (WO.done ?_))
                refine WX.again (i + 1) ⟨rfl, rfl, rfl, rfl, rfl, rfl,  trivial⟩ ?_ ?_
                · exact ⟨hi', by omega, H, _, hle, hlr.trans hlb, (hI.mono hlb).upd hkL1 hst hsg (fun _ => hsi) l2 hsl2, hs⟩
                · omega
          · refine WC.exit (WX.seq_exit (WX.loop_exit (WX.block_hit ?_)))
            refine WX.arrive (()) ⟨rfl, rfl, rfl,  trivial⟩ ?_
            · exact ⟨H, L, hle, hlr, hI, hs⟩
        · refine WO.guardNo rfl (decide_eq_false hks) rfl rfl (WO.guardNo rfl (decide_eq_false hks) rfl rfl (WO.step rfl (OR.pickF rfl (decide_eq_false hks) rfl (WO.done (WX.seq (WC.no rfl rfl (WC.exit ?_)))))))
          refine WX.seq_exit (WX.loop_exit (WX.block_hit ?_))
          refine WX.arrive (()) ⟨rfl, rfl, rfl,  trivial⟩ ?_
          · exact ⟨H, L, hle, hlr, hI, hs⟩
      · clear hs hle hI hlr
        obtain ⟨H, L, hle, hlr, hI, hs⟩ := hW
        have hL := hI.len
        replace hys := hys.mono hlr
        clear hlr
        obtain ⟨HD, hHD⟩ : ∃ X, X = H := ⟨_, rfl⟩
        subst hHD
        refine WC.seq (WC.seq (WC.region (WO.step rfl (OR.assign rfl (WO.done (WX.seq (WC.block ?_)))))))
        refine WC.loop (ι := Nat) (fun i => [(11, .int .i64 (g : Int)), (13, .slice by_ ys.length cy), (14, ptr g2), (22, .int .i64 (i : Int))]) (fun i w => (i ≤ 4 ∧ ∃ H, Hp.le H0 H ∧ Hp.le HD H ∧ HS [] H0 w0 H (hopMem g s L) w)) (fun i => 4 - i) 0 ⟨rfl, rfl, rfl, rfl,  trivial⟩ ?_ (fun i w hW => ?_)
        · exact ⟨by omega, HD, hle, Hp.le.refl _, hs⟩
        clear hs hle
        obtain ⟨hi, H, hle, hlb, hs⟩ := hW
        refine WC.seq (WC.seq (WC.region (WO.step rfl (OR.move rfl (WO.step rfl (OR.lss rfl rfl (WO.done ?_)))))))
        refine WX.seq ?_
        refine WC.condD rfl (fun hi4 => ?_) (fun hi4 => ?_)
        · have hiL : i < L.length := by omega
          have hgd := hI.good i hiL
          have hok9 := hokT _ hgd.red
          have hAl := hgd.red.len
          refine WC.skip (WX.seq (WC.seq (WC.block (WC.seq (WC.region (WO.step rfl (OR.move rfl ?_)))))))
          refine WO.step rfl (OR.idxArr i T45.und T28 rfl rfl rfl (by omega) ?_)
          refine WO.step rfl (OR.load T28 rfl rfl (hs.cell (hcell.mono hlb (hI.ptr i hiL))) ?_)
          refine WO.step rfl (OR.call hs body20 rfl rfl (rrows_ok L[i].rb L[i].wb 1 (relT g s 2 1 L[i].A) L[i].l _ _ (hs.hopRO hiL) ((hI.slots i hiL).mono hlb) hok9 (by omega)) ?_)
          clear hs; rintro _ H w hs hle1 hrw
          replace hle := hle.trans hle1
          replace hlb := hlb.trans hle1
          rw [relT_rk hin] at hrw
          obtain ⟨br, cr, hfr⟩ := hrw.form
          subst hfr
          refine WO.step rfl (OR.assign rfl (WO.done (WX.seq (WC.seq (WC.seq (WC.region (WO.step rfl ?_)))))))
          refine OR.assign rfl (WO.done (WX.seq (WC.block ?_)))
          obtain ⟨HE, hHE⟩ : ∃ X, X = H := ⟨_, rfl⟩
          subst hHE
          have hDE := hlb
          replace hys := hys.mono hDE
          refine WC.loop (ι := Nat) (fun k => [(11, .int .i64 (g : Int)), (13, .slice by_ ys.length cy), (14, ptr g2), (22, .int .i64 (i : Int)), (23, .slice br L[i].A.length cr), (24, .int .i64 (k : Int))]) (fun k w => (k ≤ L[i].A.length ∧ ∃ H, Hp.le H0 H ∧ Hp.le HE H ∧ HS [] H0 w0 H (hopMem g s L) w)) (fun k => L[i].A.length - k) 0 ⟨rfl, rfl, rfl, rfl, rfl, rfl,  trivial⟩ ?_ (fun k w hW => ?_)
          · exact ⟨by omega, HE, hle, Hp.le.refl _, hs⟩
          clear hs hle hlb
          obtain ⟨hk, H, hle, hlb, hs⟩ := hW
          refine WC.seq (WC.seq (WC.region (WO.step rfl (OR.move rfl (WO.step rfl (OR.move rfl (WO.step rfl ?_)))))))
          refine OR.lenSlice T50.und rfl (WO.step rfl (OR.lss rfl rfl (WO.done (WX.seq ?_))))
          refine WC.condD rfl (fun hkA => ?_) (fun hkA => ?_)
          · have hk' : k < L[i].A.length := by omega
            obtain ⟨yb, yo, rfl, hcy⟩ := hrw.pos (by omega)
            obtain ⟨ec, ep, hcc, hec, hep⟩ := hcy k hk'
            obtain ⟨b7, c7, rfl⟩ := hec.form
            obtain ⟨b8, c8, rfl⟩ := hep.form
            refine WC.skip (WX.seq (WC.seq (WC.block (WC.seq (WC.region (WO.step rfl (OR.move rfl ?_)))))))
            refine WO.step rfl (OR.move rfl ?_)
            refine WO.step rfl (OR.idxN k T50.und T39 rfl rfl rfl hk' ?_)
            refine WO.step rfl (OR.loadN (cs := [_, _]) T39 rfl rfl rfl (fun j u hj => hs.cell (hcell.mono hlb (hcc j u hj))) ?_)
            have hrg := hgd.red.gs _ (List.getElem_mem hk')
            refine WO.step rfl (OR.move rfl ?_)
            refine WO.step rfl (OR.call hs body21 rfl rfl (isTrue_ok _ _ _ ys L[i].A[k] s _ _ hs.toSub (hec.mono hlb) (hep.mono hlb) (hys.mono hlb) (by omega) hyr (by omega) (by omega) (by rw [hrg.1]; exact hyl) (hgd.pay hyr (List.getElem_mem hk'))) ?_)
            clear hs; rintro _ H w hs hle1 rfl; replace hle := hle.trans hle1; (try replace hlb := hlb.trans hle1)
            refine WO.step rfl (OR.not rfl (WO.done (WX.seq ?_)))
            refine WC.no rfl rfl ?_
            refine WC.skip (WX.block (WX.seq (WC.region (WO.step rfl (OR.move rfl (WO.step rfl (OR.addI rfl rfl (by omega) (by omega) ?_)))))))
            refine WO.step rfl (OR.assign rfl (WO.done ?_))
            refine WX.again (k + 1) ⟨rfl, rfl, rfl, rfl, rfl, rfl,  trivial⟩ ?_ ?_
            · exact ⟨hk', H, hle, hlb, hs⟩
            · omega
          · clear hk hkA
            refine WC.exit (WX.seq_exit (WX.loop_exit (WX.block_hit (WX.seq (WC.seq (WC.seq (WC.region ?_)))))))
            refine WO.step rfl (OR.move rfl (WO.step rfl (OR.gtr rfl rfl (WO.done (WX.seq ?_)))))
            refine WC.joinK (ι := Unit) (fun iu => [(11, .int .i64 (g : Int)), (13, .slice by_ ys.length cy), (14, ptr g2), (22, .int .i64 (i : Int)), (23, .slice br L[i].A.length cr)]) (fun iu w => (∃ H, Hp.le H0 H ∧ Hp.le HE H ∧ HS [] H0 w0 H (hopMem g s L) w)) ?_ (fun iu w hW => ?_)
            · refine WC.condD rfl (fun hpos => ?_) (fun hpos => ?_)
              · obtain ⟨j, rfl⟩ : ∃ j, i = j + 1 := ⟨i - 1, by omega⟩
                have hjL : j < L.length := by omega
                have hgj := hI.good j hjL
                have hokj := hokT _ hgj.red
                have hjl := hgj.red.len
                have hINL : InL g (L[j].A.map (·.1)) (L[j + 1].A.map (·.1)) := sub_in hgj.red (fun x hx => ⟨hgd.red.gs x hx, hI.sub j hiL x hx⟩)
                have hR1 : ∀ r ∈ L[j].A.map (·.1), r.length = g := by
                  intro v hv
                  obtain ⟨r, hr, rfl⟩ := List.mem_map.1 hv
                  exact (hgj.red.gs r hr).1
                have hR2 : ∀ r ∈ L[j + 1].A.map (·.1), r.length = g := by
                  intro v hv
                  obtain ⟨r, hr, rfl⟩ := List.mem_map.1 hv
                  exact (hgd.red.gs r hr).1
                have l1 : (L[j].A.map (·.1)).length ≤ 1000 := by rw [List.length_map]; omega
                have l2 : (L[j + 1].A.map (·.1)).length ≤ 1000 := by rw [List.length_map]; omega
                have l3 : g ≤ 255 := by omega
                refine WC.seq (WC.region (WO.step rfl (OR.move rfl (WO.step rfl (OR.subI rfl rfl (by omega) (by omega) ?_)))))
                refine WO.step rfl (OR.idxArr j T45.und T28 rfl rfl (by omega) (by omega) ?_)
                refine WO.step rfl (OR.load T28 rfl rfl (hs.cell (hcell.mono (hDE.trans hlb) (hI.ptr j hjL))) ?_)
                refine WO.step rfl (OR.call hs body20 rfl rfl (rrows_ok L[j].rb L[j].wb 1 (relT g s 2 1 L[j].A) L[j].l _ _ (hs.hopRO hjL) ((hI.slots j hjL).mono (hDE.trans hlb)) hokj (by omega)) ?_)
                clear hs; rintro _ H w hs hle1 hrj
                replace hle := hle.trans hle1
                replace hlb := hlb.trans hle1
                rw [relT_rk hin] at hrj
                obtain ⟨bj, cj, hfj⟩ := hrj.form
                subst hfj
                refine WO.step rfl (OR.call hs body23 rfl rfl (coefs14_ok _ L[j].A _ _ hs.toSub hrj (by omega)) ?_)
                clear hs; rintro _ H w hs hle1 hc1
                replace hle := hle.trans hle1
                replace hlb := hlb.trans hle1
                refine WO.step rfl (OR.move rfl ?_)
                refine WO.step rfl (OR.call hs body23 rfl rfl (coefs14_ok _ L[j + 1].A _ _ hs.toSub (hrw.mono hlb) (by omega)) ?_)
                clear hs; rintro _ H w hs hle1 hc2
                replace hle := hle.trans hle1
                replace hlb := hlb.trans hle1
                obtain ⟨bc1, cc1, hfc1⟩ := hc1.form
                obtain ⟨bc2, cc2, hfc2⟩ := hc2.form
                subst hfc1 hfc2
                have hc1' := hc1.mono hle1
                generalize L[j].A.map (·.1) = LA at *
                generalize L[j + 1].A.map (·.1) = LB at *
                have hsam := contains8_ok (.slice bc1 LA.length cc1) (.slice bc2 LB.length cc2) LA LB g H w hs.toSub hc1' hc2 l1 l2 hR1 hR2 l3 hINL
                refine WO.step rfl (OR.call hs body22 rfl rfl (hsam) ?_)
                clear hs; rintro _ H w hs hle1 rfl
                replace hle := hle.trans hle1
                replace hlb := hlb.trans hle1
                refine WO.step rfl (OR.move rfl (WO.step rfl (OR.extract rfl rfl (WO.step rfl (OR.extract rfl rfl (WO.step rfl (OR.assign rfl ?_)))))))
                refine WO.step rfl (OR.assign rfl (WO.done (WX.seq (WC.seq (WC.region (WO.step rfl (OR.move rfl ?_)))))))
                refine WO.step rfl (OR.not rfl (WO.done (WX.seq ?_)))
                refine WC.no rfl rfl ?_
                refine WC.skip ?_
                refine WX.arrive (()) ⟨rfl, rfl, rfl, rfl, rfl,  trivial⟩ ?_
                · exact ⟨H, hle, hlb, hs⟩
              · refine WC.skip ?_
                refine WX.arrive (()) ⟨rfl, rfl, rfl, rfl, rfl,  trivial⟩ ?_
                · exact ⟨H, hle, hlb, hs⟩
            · clear hs hle hlb
              obtain ⟨H, hle, hlb, hs⟩ := hW
              refine WC.seq (WC.region (WO.step rfl (OR.move rfl ?_)))
              refine WO.step rfl (OR.idxArr i T45.und T28 rfl rfl rfl (by omega) ?_)
              refine WO.step rfl (OR.load T28 rfl rfl (hs.cell (hcell.mono (hDE.trans hlb) (hI.ptr i hiL))) ?_)
              refine WO.step rfl (OR.call hs body24 rfl rfl (rsolve_ok L[i].rb L[i].wb 1 (relT g s 2 1 L[i].A) L[i].l _ _ (hs.hopRO hiL) ((hI.slots i hiL).mono (hDE.trans hlb)) hok9 (by omega)) ?_)
              clear hs; rintro _ H w hs hle1 ⟨ro, rfl, hro⟩
              replace hle := hle.trans hle1
              replace hlb := hlb.trans hle1
              rw [relT_solE hin]
              rw [relT_solF hin] at hro
              have hO1 : (if L[i].A.length < g then [] else L[i].A.map (·.2)) = [] ∨ (if L[i].A.length < g then [] else L[i].A.map (·.2)) = ys := by
                by_cases hfull : L[i].A.length < g
                · rw [if_pos hfull]; exact .inl rfl
                · rw [if_neg hfull]; exact .inr (hgd.solved (by omega) hyl hyr)
              have hO2 : (decide ((if L[i].A.length < g then (24 : Int) else 0) = 0) == decide ((L[i].A.length : Int) = (g : Int))) = true := by
                by_cases hfull : L[i].A.length < g
                · rw [if_pos hfull, decide_eq_false (by omega : ¬ ((L[i].A.length : Int) = (g : Int)))]; rfl
                · rw [if_neg hfull, decide_eq_true (by omega : (L[i].A.length : Int) = (g : Int))]; rfl
              generalize (if L[i].A.length < g then [] else L[i].A.map (·.2)) = O at *
              generalize (if L[i].A.length < g then (24 : Int) else 0) = eS at *
              obtain ⟨b6, c6, hf6⟩ := hro.form
              subst hf6
              refine WO.step rfl (OR.move rfl (WO.step rfl (OR.extract rfl rfl (WO.step rfl (OR.extract rfl rfl (WO.step rfl (OR.assign rfl ?_)))))))
              refine WO.step rfl (OR.assign rfl (WO.done (WX.seq (WC.seq (WC.seq (WC.region (WO.step rfl ?_)))))))
              refine OR.move rfl (WO.step rfl (OR.eql rfl rfl (WO.step rfl (OR.move rfl (WO.step rfl (OR.lenSlice T50.und rfl (WO.step rfl ?_)))))))
              refine OR.move rfl (WO.step rfl (OR.eql rfl rfl (WO.step rfl (OR.neqB T4.und rfl rfl (WO.done (WX.seq ?_))))))
              refine WC.no rfl (by rw [hO2]; rfl) ?_
              have hysZ := hys.mono hlb
              have hEZ := hlb
              clear hlb
              obtain ⟨HZ, hHZ⟩ : ∃ X, X = H := ⟨_, rfl⟩
              subst hHZ
              refine WC.skip (WX.seq (WC.seq (WC.region (WO.step rfl (OR.assign rfl (WO.done (WX.seq ?_)))))))
              refine WC.block ?_
              refine WC.loop (ι := Nat) (fun k => [(11, .int .i64 (g : Int)), (13, .slice by_ ys.length cy), (14, ptr g2), (22, .int .i64 (i : Int)), (27, .slice b6 O.length c6), (29, .int .i64 (k : Int))]) (fun k w => (k ≤ O.length ∧ ∃ H, Hp.le H0 H ∧ Hp.le HZ H ∧ HS [] H0 w0 H (hopMem g s L) w)) (fun k => O.length - k) 0 ⟨rfl, rfl, rfl, rfl, rfl, rfl,  trivial⟩ ?_ (fun k w hW => ?_)
              · exact ⟨by omega, HZ, hle, Hp.le.refl _, hs⟩
              clear hs hle
              obtain ⟨hkO, H, hle, hlb, hs⟩ := hW
              refine WC.seq (WC.seq (WC.region (WO.step rfl (OR.move rfl (WO.step rfl (OR.move rfl (WO.step rfl ?_)))))))
              refine OR.lenSlice T31.und rfl (WO.step rfl (OR.lss rfl rfl (WO.done (WX.seq ?_))))
              refine WC.condD rfl (fun hk4 => ?_) (fun hk4 => ?_)
              · have hk' : k < O.length := by omega
                have hOy : O = ys := by
                  rcases hO1 with h | h
                  · rw [h] at hk'; cases hk'
                  · exact h
                subst hOy
                obtain ⟨ob1, oo1, hfo1, hc1⟩ := hro.pos (by omega)
                obtain ⟨ob2, oo2, hfo2, hc2⟩ := hysZ.pos (by omega)
                subst hfo1 hfo2
                obtain ⟨e1, he1, hbe1⟩ := hc1 k hk'
                obtain ⟨e2, he2, hbe2⟩ := hc2 k hk'
                refine WC.skip (WX.seq (WC.seq (WC.block (WC.seq ?_))))
                refine WC.draw 11 mixed hs (by kernel_rfl) ?_
                refine ⟨MF.eq _, by intro Mx H w hle hs; refine forVals_nil (ORg.plain (OR.move rfl ?_)); exact ⟨_, [], Hp.le.refl _, hs, rfl, rfl⟩, ?_⟩
                refine ⟨MF.eq _, by intro Mx H w hle hs; refine forVals_nil (ORg.plain (OR.move rfl ?_)); exact ⟨_, [], Hp.le.refl _, hs, rfl, rfl⟩, ?_⟩
                refine ⟨MF.eq (.pointer (some ⟨ob1, oo1 + k, none⟩)), ?_, ?_⟩
                · intro Mx H w hle2 hs; (try replace hle := hle.trans hle2); (try replace hlb := hlb.trans hle2); refine forVals_eq rfl rfl rfl ?_; refine forVals_eq rfl rfl rfl ?_
                  refine forVals_nil (ORg.plain (OR.idx k T31.und T37 rfl rfl rfl hk' ?_))
                  exact ⟨_, [], Hp.le.refl _, hs, rfl, rfl⟩
                refine ⟨MF.eq e1, ?_, ?_⟩
                · intro Mx H w hle2 hs; (try replace hle := hle.trans hle2); (try replace hlb := hlb.trans hle2); refine forVals_eq rfl rfl rfl ?_
                  refine forVals_nil (ORg.plain (OR.load T37 rfl rfl (hs.cell (hcell.mono hlb he1)) ?_))
                  exact ⟨_, [], Hp.le.refl _, hs, rfl, rfl⟩
                refine ⟨MF.eq (.string (str O[k])), ?_, ?_⟩
                · intro Mx H w hle2 hs; (try replace hle := hle.trans hle2); (try replace hlb := hlb.trans hle2); refine forVals_eq rfl rfl rfl ?_
                  refine forVals_nil (ORg.plain (OR.toStr hs T37.und T9.und T5.und rfl (hbe1.mono hlb) ?_))
                  exact ⟨_, [], Hp.le.refl _, hs, rfl, rfl⟩
                refine ⟨MF.eq _, by intro Mx H w hle hs; refine forVals_nil (ORg.plain (OR.move rfl ?_)); exact ⟨_, [], Hp.le.refl _, hs, rfl, rfl⟩, ?_⟩
                refine ⟨MF.eq _, by intro Mx H w hle hs; refine forVals_nil (ORg.plain (OR.move rfl ?_)); exact ⟨_, [], Hp.le.refl _, hs, rfl, rfl⟩, ?_⟩
                refine ⟨MF.eq (.pointer (some ⟨ob2, oo2 + k, none⟩)), ?_, ?_⟩
                · intro Mx H w hle2 hs; (try replace hle := hle.trans hle2); (try replace hlb := hlb.trans hle2); refine forVals_eq rfl rfl rfl ?_; refine forVals_eq rfl rfl rfl ?_
                  refine forVals_nil (ORg.plain (OR.idx k T31.und T37 rfl rfl rfl hk' ?_))
                  exact ⟨_, [], Hp.le.refl _, hs, rfl, rfl⟩
                refine ⟨MF.eq e2, ?_, ?_⟩
                · intro Mx H w hle2 hs; (try replace hle := hle.trans hle2); (try replace hlb := hlb.trans hle2); refine forVals_eq rfl rfl rfl ?_
                  refine forVals_nil (ORg.plain (OR.load T37 rfl rfl (hs.cell (hcell.mono hlb he2)) ?_))
                  exact ⟨_, [], Hp.le.refl _, hs, rfl, rfl⟩
                refine ⟨MF.eq (.string (str O[k])), ?_, ?_⟩
                · intro Mx H w hle2 hs; (try replace hle := hle.trans hle2); (try replace hlb := hlb.trans hle2); refine forVals_eq rfl rfl rfl ?_
                  refine forVals_nil (ORg.plain (OR.toStr hs T37.und T9.und T5.und rfl (hbe2.mono hlb) ?_))
                  exact ⟨_, [], Hp.le.refl _, hs, rfl, rfl⟩
                refine ⟨MF.eq _, by intro Mx H w hle hs; refine forVals_eq rfl rfl rfl ?_; refine forVals_eq rfl rfl rfl ?_; refine forVals_nil (ORg.plain (OR.neqStr rfl rfl ?_)); exact ⟨_, [], Hp.le.refl _, hs, rfl, rfl⟩, ?_⟩
                intro H w hle2; (try replace hle := hle.trans hle2); (try replace hlb := hlb.trans hle2)
                refine forAllVals_eq rfl ?_
                refine forAllVals_eq rfl ?_
                refine forAllVals_eq rfl ?_
                refine forAllVals_eq rfl ?_
                refine forAllVals_eq rfl ?_
                refine forAllVals_eq rfl ?_
                refine forAllVals_eq rfl ?_
                refine forAllVals_eq rfl ?_
                refine forAllVals_eq rfl ?_
                refine forAllVals_eq rfl ?_
                refine forAllVals_eq rfl ?_
                refine forAllVals_nil ?_; (try clear hs); intro hs
                refine WO.done (WX.seq ?_)
                refine WC.no rfl (by simp) ?_
                refine WC.skip (WX.block (WX.seq (WC.region (WO.step rfl (OR.move rfl (WO.step rfl (OR.addI rfl rfl (by omega) (by omega) ?_)))))))
                refine WO.step rfl (OR.assign rfl (WO.done ?_))
                refine WX.again (k + 1) ⟨rfl, rfl, rfl, rfl, rfl, rfl,  trivial⟩ ?_ ?_
                · exact ⟨hk', H, hle, hlb, hs⟩
                · omega
              · refine WC.exit (WX.seq_exit (WX.loop_exit (WX.block_hit (WX.block (WX.seq (WC.region (WO.step rfl ?_)))))))
                refine OR.move rfl (WO.step rfl (OR.addI rfl rfl (by omega) (by omega) (WO.step rfl (OR.assign rfl (WO.done ?_)))))
                refine WX.again (i + 1) ⟨rfl, rfl, rfl, rfl,  trivial⟩ ?_ ?_
                · exact ⟨by omega, H, hle, hDE.trans (hEZ.trans hlb), hs⟩
                · omega
        · refine WC.exit (WX.seq_exit (WX.loop_exit (WX.block_hit (WX.seq (WC.seq (WC.region ?_))))))
          refine WO.step rfl (OR.call hs body25 rfl rfl (wakes14_ok _ _ hs.toSub) ?_)
          clear hs; rintro _ H w hs hle1 rfl; replace hle := hle.trans hle1; (try replace hlb := hlb.trans hle1)
          refine WO.step rfl (OR.assign rfl (WO.done (WX.seq (WC.ret ?_))))
          refine WX.ret1 rfl rfl ?_
          exact .mk (hs.sublist (List.nil_sublist _)) rfl
end Go.Bw
namespace Go.Bw
set_option linter.unusedVariables false
set_option linter.unusedSimpArgs false
open Go.Proofs Go.RowKit Go.ChangeShapes

set_option maxRecDepth 20000 in
theorem law_RelayHops {H : Type} {enc : TypeId × Value → H} {W : World} {base : Nat} {v0 v1 v2 v3 v4 : Value} {d0 d1 d2 d3 d4 : DataW H} {p0 p1 p2 p3 p4 : List MemPlace}
    (hv0 : Value.okWide Try.prog W .any base 37 v0) (h0 : DataW.Trod enc Try.prog W 0 (fun _ => true) true 37 v0 d0 p0)
    (hv1 : Value.okWide Try.prog W .any base 43 v1) (h1 : DataW.Trod enc Try.prog W 0 (fun _ => true) true 43 v1 d1 p1)
    (hv2 : Value.okWide Try.prog W .any base 31 v2) (h2 : DataW.Trod enc Try.prog W 0 (fun _ => true) true 31 v2 d2 p2)
    (hv3 : Value.okWide Try.prog W .any base 37 v3) (h3 : DataW.Trod enc Try.prog W 0 (fun _ => true) true 37 v3 d3 p3)
    (hv4 : Value.okWide Try.prog W .any base 31 v4) (h4 : DataW.Trod enc Try.prog W 0 (fun _ => true) true 31 v4 d4 p4) :
    Calls Try.prog 4 #[v0, v1, v2, v3, v4] W fun e w' => e = .returned (.bool true) ∧ Below W.heap.size W w' := by
  have c1 : Try.prog.cellsOf 5 = 1 := by kernel_rfl
  have c2 : Try.prog.cellsOf 37 = 1 := by kernel_rfl
  obtain ⟨b, hb, lb⟩ := read_bytesV T37.und T5.und c1 hv0 h0
  obtain ⟨a, c, rfl⟩ := read_byte2 T43.und T5.und c1 (by kernel_rfl) hv1 h1
  obtain ⟨tk, ht, l2, l2'⟩ := read_bytesLV T31.und T37.und T5.und c2 c1 hv2 h2
  obtain ⟨fr, hf, lf⟩ := read_bytesV T37.und T5.und c1 hv3 h3
  obtain ⟨ds, hd, l4, l4'⟩ := read_bytesLV T31.und T37.und T5.und c2 c1 hv4 h4
  exact (rhops_ok a c _ _ _ _ b fr tk ds _ W (heapOf.sub W) hb ht hf hd l2').mono fun e w' h => h.law fun _ _ h => h
end Go.Bw
