/- A source: what is handed in stays with the caller; what is told may be changed. -/
import Derived.Test.YtbgdgmilcojlbaaSrc6
import Derived.Test.YtbgdgmilcojlbaaSBits
namespace Go.Bw
set_option linter.unusedVariables false
set_option linter.unusedSimpArgs false
open Go.Proofs

/-- These bytes can be read there, and not in that block. -/
def RdAt (w : World) (x : Nat) (b5 : Option Addr) (l : List UInt8) : Prop := (b5 = none → l = []) ∧ ∀ a, b5 = some a → (l ≠ [] → a.block ≠ x) ∧ ∀ j u, (l.map B)[j]? = some u → w.cell? (a.add j) = some u
theorem RdAt.keep {x : Nat} {b5 : Option Addr} {l : List UInt8} {H0 H : Hp} {w0 w : World} {M : Mem} (h : RdAt w0 x b5 l) (hs : HS [x] H0 w0 H M w) : RdAt w x b5 l := by
  refine ⟨h.1, fun a ha => ⟨(h.2 a ha).1, fun j u hj => ?_⟩⟩
  have h1 := (h.2 a ha).2 j u hj
  have hb : (a.add j).block = a.block := by unfold Addr.add; split <;> rfl
  have hlt : a.block < w0.heap.size := by
    rcases Nat.lt_or_ge a.block w0.heap.size with h2 | h2
    · exact h2
    · have h3 : w0.heap[(a.add j).block]? = none := by rw [hb]; exact Array.getElem?_eq_none h2
      unfold World.cell? at h1
      simp [h3] at h1
  have hk := hs.keep a.block hlt (by simpa using (h.2 a ha).1 (fun e => by subst e; simp at hj))
  rw [← h1]
  unfold World.cell?
  rw [hb, hk]
/-- Slices of one block, one behind the other. -/
def LaidIn (H : Hp) (N : Nat) (v : Value) (g s : Nat) : Prop := ∃ gA cA gL cL cap, N ≤ gA ∧ gL ≠ gA ∧ H gA = some (.cells cA 5) ∧ (∀ j, j < g * s → ∃ x : UInt8, cA.toList[j]? = some (B x)) ∧ H gL = some (.cells cL 23) ∧ v = .slice (some ⟨gL, 0, none⟩) g cap ∧ ∀ i, i < g → cL.toList[i]? = some (.slice (some ⟨gA, s * i, none⟩) s s)
theorem LaidIn.mono {H H' : Hp} {N : Nat} {v : Value} {g s : Nat} (h : LaidIn H N v g s) (hle : Hp.le H H') : LaidIn H' N v g s := by
  obtain ⟨gA, cA, gL, cL, cap, h1, h2, h3, h4, h5, h6, h7⟩ := h
  exact ⟨gA, cA, gL, cL, cap, h1, h2, hle _ _ h3, h4, hle _ _ h5, h6, h7⟩
theorem LaidIn.anti {H : Hp} {N N' : Nat} {v : Value} {g s : Nat} (h : LaidIn H N v g s) (hle : N' ≤ N) : LaidIn H N' v g s := by
  obtain ⟨gA, cA, gL, cL, cap, h1, h2⟩ := h
  exact ⟨gA, cA, gL, cL, cap, Nat.le_trans hle h1, h2⟩
def MF.bytesLN (N g s : Nat) (ll : List (List UInt8)) : MF := MF.of (fun v H => BytesL H v ll ∧ LaidIn H N v g s) fun _ _ _ hle h => ⟨h.1.mono hle, h.2.mono hle⟩
def MF.tupLN (N g s : Nat) (ll : List (List UInt8)) (e : Int) : MF := MF.of (fun v H => ∃ r, v = .tuple #[r, .int .i64 e] ∧ BytesL H r ll ∧ LaidIn H N r g s) fun _ _ _ hle ⟨r, h1, h2, h3⟩ => ⟨r, h1, h2.mono hle, h3.mono hle⟩

set_option maxRecDepth 20000 in
set_option maxHeartbeats 2000000 in
theorem submit1_rd (b gb gx gm : Nat) (x : SrcD) (o : Obj) (b5 : Option Addr) (c5 : Nat) (l : List UInt8) (most : Nat) (H0 : Hp) (w0 : World)
    (hs : HS [b] H0 w0 H0 [(b, o, true), (gb, .cells #[.slice b5 l.length c5] 23, false), (gx, .cells #[ptr b] 54, false), (gm, .cells #[.int .u64 (most : Int)] 58, false)] w0)
    (hx : SrcIn H0 x o) (hok : SrcOk x) (hl : RdAt w0 b b5 l) (hll : l.length ≤ 9223372036854775807) (hcl : x.cuts.length ≤ 1000000000) :
    Calls Try.prog 97 #[ptr gb, ptr gx, ptr gm] w0 (Ret [b] H0 w0 fun v H' M' => v = .int .i64 (if subFits x l most then 0 else 7) ∧ ∃ o', M' = [(b, o', true)] ∧ SrcIn H' (if subFits x l most then longD x l else x) o') := by
  have hxl := hok.len
  have hok0 := hok
  obtain ⟨g, s, st, cuts, cl, chunks, opn⟩ := x
  obtain ⟨vs, vc, vch, vop, rfl, hst, hcu, hch, hop⟩ := hx
  simp only at hst hcu hch hop hs hxl hcl
  have hle := Hp.le.refl H0
  have hgs := hok0.gs
  simp only at hgs
  obtain ⟨b1, c1, rfl⟩ := hst.form
  obtain ⟨b2, c2, rfl⟩ := hcu.form
  obtain ⟨b3, c3, rfl⟩ := hch.form
  obtain ⟨b4, c4, rfl⟩ := hop.form
  refine Calls.enter (args := [ptr gb, ptr gx, ptr gm]) Try.func97 rfl Try.ntmps97 rfl ?_
  refine WC.seq (WC.region (WO.step rfl (OR.assign rfl (WO.done (WX.seq (WC.seq (WC.seq ?_)))))))
  refine WC.draw 9 mixed hs (by kernel_rfl) ?_
  refine ⟨MF.eq _, by intro Mx H w hle hs; refine forVals_nil (ORg.plain (OR.load T23 rfl rfl (hs.right.cellM (i := 1) rfl rfl) ?_)); exact ⟨_, [], Hp.le.refl _, hs, rfl, rfl⟩, ?_⟩
  refine ⟨MF.eq _, by intro Mx H w hle hs; refine forVals_eq rfl rfl rfl ?_; refine forVals_nil (ORg.plain (OR.lenSlice T23.und rfl ?_)); exact ⟨_, [], Hp.le.refl _, hs, rfl, rfl⟩, ?_⟩
  refine ⟨MF.eq _, by intro Mx H w hle hs; refine forVals_nil (ORg.plain (OR.load T54 rfl rfl (hs.right.cellM (i := 2) rfl rfl) ?_)); exact ⟨_, [], Hp.le.refl _, hs, rfl, rfl⟩, ?_⟩
  refine ⟨MF.eq _, by intro Mx H w hle hs; refine forVals_eq rfl rfl rfl ?_; refine forVals_nil (ORg.plain (OR.nilCheck rfl ?_)); exact ⟨_, [], Hp.le.refl _, hs, rfl, rfl⟩, ?_⟩
  refine ⟨MF.eq _, by intro Mx H w hle hs; refine forVals_eq rfl rfl rfl ?_; refine forVals_nil (ORg.plain (OR.fieldAddr FA151_2 rfl ?_)); exact ⟨_, [], Hp.le.refl _, hs, rfl, rfl⟩, ?_⟩
  refine ⟨MF.eq _, by intro Mx H w hle hs; refine forVals_eq rfl rfl rfl ?_; refine forVals_nil (ORg.plain (OR.load T23 rfl rfl (hs.right.cellM (i := 0) rfl rfl) ?_)); exact ⟨_, [], Hp.le.refl _, hs, rfl, rfl⟩, ?_⟩
  refine ⟨MF.eq _, by intro Mx H w hle hs; refine forVals_eq rfl rfl rfl ?_; refine forVals_nil (ORg.plain (OR.lenSlice T23.und rfl ?_)); exact ⟨_, [], Hp.le.refl _, hs, rfl, rfl⟩, ?_⟩
  refine ⟨MF.eq _, by intro Mx H w hle hs; refine forVals_eq rfl rfl rfl ?_; refine forVals_nil (ORg.plain (OR.subI rfl rfl (by omega) (by omega) ?_)); exact ⟨_, [], Hp.le.refl _, hs, rfl, rfl⟩, ?_⟩
  refine ⟨MF.eq _, by intro Mx H w hle hs; refine forVals_eq rfl rfl rfl ?_; refine forVals_eq rfl rfl rfl ?_; refine forVals_nil (ORg.plain (OR.gtr rfl rfl ?_)); exact ⟨_, [], Hp.le.refl _, hs, rfl, rfl⟩, ?_⟩
  intro H w hle2; (try replace hle := hle.trans hle2); (try replace hlb := hlb.trans hle2)
  refine forAllVals_eq rfl ?_
  refine forAllVals_eq rfl ?_
  refine forAllVals_eq rfl ?_
  refine forAllVals_eq rfl ?_
  refine forAllVals_eq rfl ?_
  refine forAllVals_eq rfl ?_
  refine forAllVals_eq rfl ?_
  refine forAllVals_eq rfl ?_
  refine forAllVals_eq rfl ?_
  refine forAllVals_nil ?_; (try clear hs); intro hs
  refine WO.done (WX.seq ?_)
  refine WC.condD rfl (fun hbig => ?_) (fun hbig => ?_)
  · have hnf : ¬ subFits ⟨g, s, st, cuts, cl, chunks, opn⟩ l most := fun h => by have := h.1; simp only at this; omega
    refine WC.seq (WC.region (WO.step rfl (OR.assign rfl (WO.done (WX.seq (WC.ret (WX.seq_ret ?_)))))))
    refine WX.ret1 rfl rfl ?_
    refine ⟨_, _, _, rfl, ((hs.drop 1).drop 1).drop 1, by simp [dropAt], by rw [if_neg hnf], _, rfl, ?_⟩
    rw [if_neg hnf]
    exact ⟨_, _, _, _, rfl, hst.mono hle, hcu.mono hle, hch.mono hle, hop.mono hle⟩
  · have hfit : st.length + l.length ≤ 262144 := by omega
    have hok2 := hok0.long (l := l) hfit
    obtain ⟨LD, hLD⟩ : ∃ LD, LD = longD ⟨g, s, st, cuts, cl, chunks, opn⟩ l := ⟨_, rfl⟩
    rw [← hLD] at hok2
    have hc2 := hok2.cuts
    have hchl := hok2.chl
    have hopl := hok2.opl
    have hsub : subFits ⟨g, s, st, cuts, cl, chunks, opn⟩ l most ↔ needs LD ≤ most := by rw [subFits, ← hLD]; exact ⟨fun h => h.2, fun h => ⟨hfit, h⟩⟩
    have hLs : LD.st = st ++ l := by rw [hLD]; rfl
    have hLc : LD.cuts = cuts := by rw [hLD]; rfl
    have hLch : LD.chunks = chunksF (g * s - 4) (st ++ l) cuts := by rw [hLD]; rfl
    have hLop : LD.opn = openF (g * s - 4) (st ++ l) cuts := by rw [hLD]; rfl
    have hgs' : 1 ≤ g ∧ g ≤ 255 ∧ 1 ≤ s ∧ s ≤ 65535 ∧ 4 < g * s := by
      obtain ⟨g1, g2, g3, g4, g5⟩ := hgs
      exact ⟨by omega, by omega, by omega, by omega, by rw [← Int.natCast_mul] at g5; omega⟩
    rw [hLs, hLc] at hc2
    have hlen2 : (st ++ l).length = st.length + l.length := List.length_append
    refine WC.skip (WX.seq (WC.seq ?_))
    refine WC.draw 6 mixed hs (by kernel_rfl) ?_
    refine ⟨MF.eq _, by intro Mx H w hle hs; refine forVals_nil (ORg.plain (OR.load T54 rfl rfl (hs.right.cellM (i := 2) rfl rfl) ?_)); exact ⟨_, [], Hp.le.refl _, hs, rfl, rfl⟩, ?_⟩
    refine ⟨MF.eq _, by intro Mx H w hle hs; refine forVals_eq rfl rfl rfl ?_; refine forVals_nil (ORg.plain (OR.nilCheck rfl ?_)); exact ⟨_, [], Hp.le.refl _, hs, rfl, rfl⟩, ?_⟩
    refine ⟨MF.eq _, by intro Mx H w hle hs; refine forVals_eq rfl rfl rfl ?_; refine forVals_nil (ORg.plain (OR.fieldAddr FA151_2 rfl ?_)); exact ⟨_, [], Hp.le.refl _, hs, rfl, rfl⟩, ?_⟩
    refine ⟨MF.eq _, by intro Mx H w hle hs; refine forVals_eq rfl rfl rfl ?_; refine forVals_nil (ORg.plain (OR.load T23 rfl rfl (hs.right.cellM (i := 0) rfl rfl) ?_)); exact ⟨_, [], Hp.le.refl _, hs, rfl, rfl⟩, ?_⟩
    refine ⟨MF.own w0.heap.size 5 1 st.length (st.map B), ?_, ?_⟩
    · intro Mx H w hle2 hs; (try replace hle := hle.trans hle2); (try replace hlb := hlb.trans hle2); refine forVals_eq rfl rfl rfl ?_
      refine forVals_nil (ORg.plain (OR.callX (Mx := []) hs body57 rfl rfl (clone_ok _ st _ _ hs.toSub (hst.mono hle) (by omega)) rfl rfl ?_))
      have hsz := hs.size
      clear hs; rintro v H1 M1 w hs hle1 hnew ⟨rfl, ho⟩
      exact ⟨_, M1, hle1, hs, ho.mono hsz⟩
    refine ⟨MF.eq _, by intro Mx H w hle hs; refine forVals_nil (ORg.plain (OR.load T23 rfl rfl (hs.right.cellM (i := 1) rfl rfl) ?_)); exact ⟨_, [], Hp.le.refl _, hs, rfl, rfl⟩, ?_⟩
    intro H w hle2; (try replace hle := hle.trans hle2); (try replace hlb := hlb.trans hle2)
    refine forAllVals_eq rfl ?_
    refine forAllVals_eq rfl ?_
    refine forAllVals_eq rfl ?_
    refine forAllVals_eq rfl ?_
    refine forAllVals_cons rfl ?_; intro v4 M4 h4
    refine forAllVals_eq rfl ?_
    refine forAllVals_nil ?_; (try clear hs); intro hs
    refine WO.step rfl (OR.append (m := l.length) (news := l.map B) hs h4 T23.und T5 rfl (by omega) rfl rfl (by simp) (fun a ha j u hj => ((hl.keep hs).2 a ha).2 j u hj) (fun e => by rw [hl.1 e]; rfl) (bytes_one l) (by omega) (by omega) ?_)
    clear hs; intro vl w Mo hs ho hge
    obtain ⟨H3, hle3, hs, hsl3, _⟩ := HS.pub hs ho
    replace hle := hle.trans hle3
    have hlong : Bytes H3 vl (st ++ l) := by unfold Bytes; rw [hlen2, List.map_append]; exact hsl3
    obtain ⟨b6, c6, rfl⟩ := hlong.form
    clear ho hsl3 hle3
    have hlb := Hp.le.refl H3
    obtain ⟨HB, hHB⟩ : ∃ X, X = H3 := ⟨_, rfl⟩
    subst hHB
    have hcu1 := hcu.mono hle
    refine WO.step rfl (OR.assign rfl (WO.done (WX.seq (WC.seq ?_))))
    refine WC.draw 20 mixed hs (by kernel_rfl) ?_
    refine ⟨MF.eq _, by intro Mx H w hle hs; refine forVals_nil (ORg.plain (OR.move rfl ?_)); exact ⟨_, [], Hp.le.refl _, hs, rfl, rfl⟩, ?_⟩
    refine ⟨MF.eq _, by intro Mx H w hle hs; refine forVals_nil (ORg.plain (OR.load T54 rfl rfl (hs.right.cellM (i := 2) rfl rfl) ?_)); exact ⟨_, [], Hp.le.refl _, hs, rfl, rfl⟩, ?_⟩
    refine ⟨MF.eq _, by intro Mx H w hle hs; refine forVals_eq rfl rfl rfl ?_; refine forVals_nil (ORg.plain (OR.nilCheck rfl ?_)); exact ⟨_, [], Hp.le.refl _, hs, rfl, rfl⟩, ?_⟩
    refine ⟨MF.eq _, by intro Mx H w hle hs; refine forVals_eq rfl rfl rfl ?_; refine forVals_nil (ORg.plain (OR.fieldAddr FA151_3 rfl ?_)); exact ⟨_, [], Hp.le.refl _, hs, rfl, rfl⟩, ?_⟩
    refine ⟨MF.eq _, by intro Mx H w hle hs; refine forVals_eq rfl rfl rfl ?_; refine forVals_nil (ORg.plain (OR.load T87 rfl rfl (hs.right.cellM (i := 0) rfl rfl) ?_)); exact ⟨_, [], Hp.le.refl _, hs, rfl, rfl⟩, ?_⟩
    refine ⟨MF.eq _, by intro Mx H w hle hs; refine forVals_nil (ORg.plain (OR.load T54 rfl rfl (hs.right.cellM (i := 2) rfl rfl) ?_)); exact ⟨_, [], Hp.le.refl _, hs, rfl, rfl⟩, ?_⟩
    refine ⟨MF.eq _, by intro Mx H w hle hs; refine forVals_eq rfl rfl rfl ?_; refine forVals_nil (ORg.plain (OR.nilCheck rfl ?_)); exact ⟨_, [], Hp.le.refl _, hs, rfl, rfl⟩, ?_⟩
    refine ⟨MF.eq _, by intro Mx H w hle hs; refine forVals_eq rfl rfl rfl ?_; refine forVals_nil (ORg.plain (OR.fieldAddr FA151_0 rfl ?_)); exact ⟨_, [], Hp.le.refl _, hs, rfl, rfl⟩, ?_⟩
    refine ⟨MF.eq _, by intro Mx H w hle hs; refine forVals_eq rfl rfl rfl ?_; refine forVals_nil (ORg.plain (OR.load T3 rfl rfl (hs.right.cellM (i := 0) rfl rfl) ?_)); exact ⟨_, [], Hp.le.refl _, hs, rfl, rfl⟩, ?_⟩
    refine ⟨MF.eq _, by intro Mx H w hle hs; refine forVals_nil (ORg.plain (OR.load T54 rfl rfl (hs.right.cellM (i := 2) rfl rfl) ?_)); exact ⟨_, [], Hp.le.refl _, hs, rfl, rfl⟩, ?_⟩
    refine ⟨MF.eq _, by intro Mx H w hle hs; refine forVals_eq rfl rfl rfl ?_; refine forVals_nil (ORg.plain (OR.nilCheck rfl ?_)); exact ⟨_, [], Hp.le.refl _, hs, rfl, rfl⟩, ?_⟩
    refine ⟨MF.eq _, by intro Mx H w hle hs; refine forVals_eq rfl rfl rfl ?_; refine forVals_nil (ORg.plain (OR.fieldAddr FA151_1 rfl ?_)); exact ⟨_, [], Hp.le.refl _, hs, rfl, rfl⟩, ?_⟩
    refine ⟨MF.eq _, by intro Mx H w hle hs; refine forVals_eq rfl rfl rfl ?_; refine forVals_nil (ORg.plain (OR.load T3 rfl rfl (hs.right.cellM (i := 0) rfl rfl) ?_)); exact ⟨_, [], Hp.le.refl _, hs, rfl, rfl⟩, ?_⟩
    refine ⟨MF.tup3 LD.chunks LD.opn 0, ?_, ?_⟩
    · intro Mx H w hle2 hs; (try replace hle := hle.trans hle2); (try replace hlb := hlb.trans hle2); refine forVals_eq rfl rfl rfl ?_; refine forVals_eq rfl rfl rfl ?_; refine forVals_eq rfl rfl rfl ?_; refine forVals_eq rfl rfl rfl ?_
      refine forVals_nil (ORg.plain (OR.call hs body98 rfl rfl (chunks_ok g s _ _ (st ++ l) cuts _ _ hs.toSub hgs' (hlong.mono hlb) (hcu1.mono hlb) (by omega) (by omega)) ?_))
      clear hs; rintro _ H w hs hle1 ⟨r1, r2, rfl, hr1, hr2⟩
      exact ⟨_, [], hle1, hs, ⟨_, _, by rw [if_pos hc2], by rw [hLch]; rw [if_pos hc2] at hr1; exact hr1, by rw [hLop]; rw [if_pos hc2] at hr2; exact hr2⟩, rfl⟩
    refine ⟨MF.tup3 LD.chunks LD.opn 0, ?_, ?_⟩
    · intro Mx H w hle2 hs; (try replace hle := hle.trans hle2); (try replace hlb := hlb.trans hle2); refine forVals_of rfl rfl rfl ?_; intro v13 h13
      obtain ⟨r1, r2, rfl, hr1, hr2⟩ := h13
      refine forVals_nil (ORg.plain (OR.move rfl ?_))
      exact ⟨_, [], Hp.le.refl _, hs, ⟨_, _, rfl, hr1, hr2⟩, rfl⟩
    refine ⟨MF.bytesL LD.chunks, ?_, ?_⟩
    · intro Mx H w hle2 hs; (try replace hle := hle.trans hle2); (try replace hlb := hlb.trans hle2); refine forVals_of rfl rfl rfl ?_; intro v14 h14
      obtain ⟨r1, r2, rfl, hr1, hr2⟩ := h14
      refine forVals_nil (ORg.plain (OR.extract rfl rfl ?_))
      exact ⟨_, [], Hp.le.refl _, hs, hr1, rfl⟩
    refine ⟨MF.bytes LD.opn, ?_, ?_⟩
    · intro Mx H w hle2 hs; (try replace hle := hle.trans hle2); (try replace hlb := hlb.trans hle2); refine forVals_of rfl rfl rfl ?_; intro v14 h14
      obtain ⟨r1, r2, rfl, hr1, hr2⟩ := h14
      refine forVals_nil (ORg.plain (OR.extract rfl rfl ?_))
      exact ⟨_, [], Hp.le.refl _, hs, hr2, rfl⟩
    refine ⟨MF.eq (.int .i64 0), ?_, ?_⟩
    · intro Mx H w hle2 hs; (try replace hle := hle.trans hle2); (try replace hlb := hlb.trans hle2); refine forVals_of rfl rfl rfl ?_; intro v14 h14
      obtain ⟨r1, r2, rfl, hr1, hr2⟩ := h14
      refine forVals_nil (ORg.plain (OR.extract rfl rfl ?_))
      exact ⟨_, [], Hp.le.refl _, hs, rfl, rfl⟩
    refine ⟨MF.bytesL LD.chunks, ?_, ?_⟩
    · intro Mx H w hle2 hs; (try replace hle := hle.trans hle2); (try replace hlb := hlb.trans hle2); refine forVals_of rfl rfl rfl ?_; intro v15 h15
      refine forVals_nil (ORg.plain (OR.assign rfl ?_))
      exact ⟨_, [], Hp.le.refl _, hs, h15, rfl⟩
    refine ⟨MF.bytes LD.opn, ?_, ?_⟩
    · intro Mx H w hle2 hs; (try replace hle := hle.trans hle2); (try replace hlb := hlb.trans hle2); refine forVals_of rfl rfl rfl ?_; intro v16 h16
      refine forVals_nil (ORg.plain (OR.assign rfl ?_))
      exact ⟨_, [], Hp.le.refl _, hs, h16, rfl⟩
    intro H w hle2; (try replace hle := hle.trans hle2); (try replace hlb := hlb.trans hle2)
    refine forAllVals_eq rfl ?_
    refine forAllVals_eq rfl ?_
    refine forAllVals_eq rfl ?_
    refine forAllVals_eq rfl ?_
    refine forAllVals_eq rfl ?_
    refine forAllVals_eq rfl ?_
    refine forAllVals_eq rfl ?_
    refine forAllVals_eq rfl ?_
    refine forAllVals_eq rfl ?_
    refine forAllVals_eq rfl ?_
    refine forAllVals_eq rfl ?_
    refine forAllVals_eq rfl ?_
    refine forAllVals_eq rfl ?_
    refine forAllVals_of rfl ?_; intro v13 h13
    refine forAllVals_of rfl ?_; intro v14 h14
    refine forAllVals_of rfl ?_; intro v15 h15
    refine forAllVals_of rfl ?_; intro v16 h16
    refine forAllVals_eq rfl ?_
    refine forAllVals_of rfl ?_; intro v18 h18
    refine forAllVals_of rfl ?_; intro v19 h19
    refine forAllVals_nil ?_; (try clear hs); intro hs
    obtain ⟨b7, c7, rfl⟩ := h18.form
    obtain ⟨b8, c8, rfl⟩ := h19.form
    refine WO.step rfl (OR.assign rfl (WO.done (WX.seq (WC.seq (WC.region (WO.step rfl (OR.move rfl ?_)))))))
    refine WO.step rfl (OR.lenSlice T22.und rfl ?_)
    refine WO.step rfl (OR.convI T3.und T58.und rfl ?_)
    rw [u64_wrap _ (by omega)]
    refine WO.step rfl (OR.assign rfl (WO.done (WX.seq (WC.seq (WC.seq (WC.region (WO.step rfl ?_)))))))
    refine OR.move rfl (WO.step rfl (OR.lenSlice T23.und rfl (WO.step rfl (OR.gtr rfl rfl (WO.done (WX.seq ?_))))))
    refine WC.joinK (ι := Unit) (fun ix => [(0, ptr gb), (1, ptr gx), (2, ptr gm), (4, .slice b6 (st ++ l).length c6), (8, .int .u64 (needs LD : Int))]) (fun ix w => (HS [b] H0 w0 H [(b, srcObj g s (.slice b1 st.length c1) (.slice b2 cuts.length c2) cl (.slice b3 chunks.length c3) (.slice b4 opn.length c4), true), (gb, .cells #[.slice b5 l.length c5] 23, false), (gx, .cells #[ptr b] 54, false), (gm, .cells #[.int .u64 (most : Int)] 58, false)] w)) ?_ (fun ix w hW => ?_)
    · refine WC.condD rfl (fun hopn => ?_) (fun hopn => ?_)
      · refine WC.region (WO.step rfl (OR.move rfl ?_))
        refine WO.step rfl (OR.add rfl rfl ?_)
        have hne : ¬ LD.opn = [] := fun e => by rw [e] at hopn; exact absurd hopn (by decide)
        have hnd : IntKind.u64.wrap ((LD.chunks.length : Int) + 1) = (needs LD : Int) := by
          have := u64_wrap (LD.chunks.length + 1) (by omega)
          rw [needs, if_neg hne, ← this]; rfl
        rw [hnd]
        refine WO.step rfl (OR.assign rfl (WO.done ?_))
        refine WX.arrive (()) ⟨rfl, rfl, rfl, rfl, rfl,  trivial⟩ ?_
        · exact hs
      · have he : LD.opn = [] := List.eq_nil_of_length_eq_zero (by omega)
        have hnd : (LD.chunks.length : Int) = (needs LD : Int) := by rw [needs, if_pos he, Nat.add_zero]
        rw [hnd]
        refine WC.skip ?_
        refine WX.arrive (()) ⟨rfl, rfl, rfl, rfl, rfl,  trivial⟩ ?_
        · exact hs
    · clear hs
      have hs := hW
      clear hW
      refine WC.seq (WC.seq (WC.region (WO.step rfl (OR.move rfl (WO.step rfl (OR.load T58 rfl rfl (hs.cellM (i := 3) rfl rfl) (WO.step rfl ?_)))))))
      refine OR.gtr rfl rfl (WO.done (WX.seq ?_))
      refine WC.condD rfl (fun hmost => ?_) (fun hmost => ?_)
      · have hnf : ¬ subFits ⟨g, s, st, cuts, cl, chunks, opn⟩ l most := fun h => by have := hsub.1 h; omega
        refine WC.seq (WC.region (WO.step rfl (OR.assign rfl (WO.done (WX.seq (WC.ret (WX.seq_ret ?_)))))))
        refine WX.ret1 rfl rfl ?_
        refine ⟨_, _, _, rfl, ((hs.drop 1).drop 1).drop 1, by simp [dropAt], by rw [if_neg hnf], _, rfl, ?_⟩
        rw [if_neg hnf]
        exact ⟨_, _, _, _, rfl, hst.mono hle, hcu.mono hle, hch.mono hle, hop.mono hle⟩
      · have hf : subFits ⟨g, s, st, cuts, cl, chunks, opn⟩ l most := hsub.2 (by omega)
        refine WC.skip (WX.seq (WC.seq ?_))
        refine WC.draw 6 mixed hs (by kernel_rfl) ?_
        refine ⟨MF.eq _, by intro Mx H w hle hs; refine forVals_nil (ORg.plain (OR.load T54 rfl rfl (hs.right.cellM (i := 2) rfl rfl) ?_)); exact ⟨_, [], Hp.le.refl _, hs, rfl, rfl⟩, ?_⟩
        refine ⟨MF.eq _, by intro Mx H w hle hs; refine forVals_nil (ORg.plain (OR.move rfl ?_)); exact ⟨_, [], Hp.le.refl _, hs, rfl, rfl⟩, ?_⟩
        refine ⟨MF.eq _, by intro Mx H w hle hs; refine forVals_nil (ORg.plain (OR.load T54 rfl rfl (hs.right.cellM (i := 2) rfl rfl) ?_)); exact ⟨_, [], Hp.le.refl _, hs, rfl, rfl⟩, ?_⟩
        refine ⟨MF.eq _, by intro Mx H w hle hs; refine forVals_eq rfl rfl rfl ?_; refine forVals_nil (ORg.plain (OR.nilCheck rfl ?_)); exact ⟨_, [], Hp.le.refl _, hs, rfl, rfl⟩, ?_⟩
        refine ⟨MF.eq _, by intro Mx H w hle hs; refine forVals_eq rfl rfl rfl ?_; refine forVals_nil (ORg.plain (OR.fieldAddr FA151_3 rfl ?_)); exact ⟨_, [], Hp.le.refl _, hs, rfl, rfl⟩, ?_⟩
        refine ⟨MF.eq _, by intro Mx H w hle hs; refine forVals_eq rfl rfl rfl ?_; refine forVals_nil (ORg.plain (OR.load T87 rfl rfl (hs.right.cellM (i := 0) rfl rfl) ?_)); exact ⟨_, [], Hp.le.refl _, hs, rfl, rfl⟩, ?_⟩
        intro H w hle2; (try replace hle := hle.trans hle2); (try replace hlb := hlb.trans hle2)
        refine forAllVals_eq rfl ?_
        refine forAllVals_eq rfl ?_
        refine forAllVals_eq rfl ?_
        refine forAllVals_eq rfl ?_
        refine forAllVals_eq rfl ?_
        refine forAllVals_eq rfl ?_
        refine forAllVals_nil ?_; (try clear hs); intro hs
        refine WO.step rfl (OR.callX (Mx := [(b, _, true)]) hs body99 rfl rfl (set_ok b g s _ _ _ _ _ _ cl (st ++ l) cuts _ _ hs.toSub (hs.blk (i := 0) rfl) (hs.mem b _ true (List.mem_cons_self ..)).2.1 hgs (hlong.mono hlb) (hcu.mono hle) (by omega) (by omega)) rfl rfl ?_)
        clear hs; rintro _ H4 M' w hs hle1 hnew hres; replace hle := hle.trans hle1; (try replace hlb := hlb.trans hle1)
        rw [if_pos hc2] at hres
        obtain ⟨rfl, o', rfl, hsrc⟩ := hres
        refine WO.step rfl (OR.assign rfl (WO.done (WX.seq (WC.ret ?_))))
        refine WX.ret1 rfl rfl ?_
        refine ⟨_, H4, _, rfl, ((hs.drop 1).drop 1).drop 1, by simp [dropAt], by rw [if_pos hf], _, rfl, ?_⟩
        rw [if_pos hf]
        exact hsrc

set_option maxRecDepth 20000 in
set_option maxHeartbeats 2000000 in
theorem submit_rd (b : Nat) (x : SrcD) (o : Obj) (b5 : Option Addr) (c5 : Nat) (l : List UInt8) (most : Nat) (H0 : Hp) (w0 : World) (h0 : Sub H0 w0) (hb : w0.heap[b]? = some o) (hn : H0 b = none)
    (hx : SrcIn H0 x o) (hok : SrcOk x) (hl : RdAt w0 b b5 l) (hll : l.length ≤ 9223372036854775807) (hcl : x.cuts.length ≤ 1000000000) :
    Calls Try.prog 29 #[ptr b, .slice b5 l.length c5, .int .u64 (most : Int)] w0 (Ret [b] H0 w0 fun v H' M' => v = .int .i64 (subE x l most) ∧ ∃ o', M' = [(b, o', true)] ∧ SrcIn H' (subD x l most) o') := by
  have hs := HS.start1 h0 hb hn
  have hle := Hp.le.refl H0
  have hx0 := hx
  have hgp : 0 < x.g := by have := hok.gs.1; omega
  obtain ⟨vs, vc, vch, vop, ho, _⟩ := hx0
  refine Calls.enter (args := [ptr b, .slice b5 l.length c5, .int .u64 (most : Int)]) Try.func29 rfl Try.ntmps29 rfl ?_
  refine WC.seq (WC.region (WO.step rfl (OR.box hs rfl ?_)))
  clear hs; intro g1 w hg1 hs
  refine WO.step rfl (OR.box hs rfl ?_)
  clear hs; intro g2 w hg2 hs
  refine WO.step rfl (OR.box hs rfl ?_)
  clear hs; intro g3 w hg3 hs
  refine WO.step rfl (OR.assign rfl (WO.done (WX.seq (WC.seq (WC.region (WO.step rfl (OR.load T54 rfl rfl (hs.cellM (i := 2) rfl rfl) ?_)))))))
  refine WO.step rfl (OR.makeFunc rfl rfl (WO.step rfl (OR.load T54 rfl rfl (hs.cellM (i := 2) rfl rfl) (WO.step rfl (OR.makeFunc rfl rfl (WO.step rfl (OR.makeFunc rfl rfl ?_)))))))
  refine WO.step rfl (OR.buildSlice (vs := [_, _, _]) hs T219.und T59 rfl rfl rfl rfl (by simp) ?_)
  clear hs; intro g4 w hg4 hs
  refine WO.step rfl (OR.callW body94 rfl rfl (first_ok [.func (.func 95) #[ptr b] #[], .func (.func 96) #[ptr b] #[], .func (.func 97) #[] #[ptr g2, ptr g1, ptr g3]] g4 3 (fun i w => (i ≤ 2 ∧ (i = 2 → x.cl = false) ∧ ∃ H, Hp.le H0 H ∧ HS [b] H0 w0 H [(g4, .cells #[.func (.func 95) #[ptr b] #[], .func (.func 96) #[ptr b] #[], .func (.func 97) #[] #[ptr g2, ptr g1, ptr g3]] 59, true), (g3, .cells #[.int .u64 (most : Int)] 58, true), (g2, .cells #[.slice b5 l.length c5] 23, true), (g1, .cells #[ptr b] 54, true), (b, o, true)] w) ∨ (i = 3 ∧ subE x l most = 0 ∧ ∃ H o', HS [b] H0 w0 H [(b, o', true)] w ∧ SrcIn H (subD x l most) o')) (fun er w => er = subE x l most ∧ ∃ H o', HS [b] H0 w0 H [(b, o', true)] w ∧ SrcIn H (subD x l most) o') _ (.inl ⟨by omega, (fun h => by cases h), H0, hle, hs⟩) (by simp) ?_ ?_ ?_) ?_)
  · rintro i w (⟨hi, _, H, _, hs⟩ | ⟨rfl, _⟩) h
    · match i, hi with
      | 0, _ => exact hs.cellM (i := 0) rfl rfl
      | 1, _ => exact hs.cellM (i := 0) rfl rfl
      | 2, _ => exact hs.cellM (i := 0) rfl rfl
    · simp at h
  · rintro i h w (⟨hi, hc2, H, hle, hs⟩ | ⟨rfl, _⟩)
    · match i, hi with
      | 0, _ =>
        refine ⟨_, [ptr b], [], rfl, body95, (smade_ok b x.g x.s vs vc vch vop x.cl _ _ hs.toSub (by rw [← ho]; exact hs.blk (i := 4) rfl) (hs.mem b o true (by simp)).2.1 hgp).mono fun e w' hp => ?_⟩
        obtain ⟨v, H', rfl, hs', hle', rfl⟩ := hp.step hs
        exact ⟨0, rfl, .inl ⟨rfl, .inl ⟨by omega, (fun h => by cases h), H', hle.trans hle', hs'⟩⟩⟩
      | 1, _ =>
        refine ⟨_, [ptr b], [], rfl, body96, (sfree_ok b x.g x.s vs vc vch vop x.cl _ _ hs.toSub (by rw [← ho]; exact hs.blk (i := 4) rfl) (hs.mem b o true (by simp)).2.1).mono fun e w' hp => ?_⟩
        obtain ⟨v, H', rfl, hs', hle', rfl⟩ := hp.step hs
        by_cases hc : x.cl = true
        · exact ⟨27, by rw [if_pos hc], .inr ⟨by decide, by rw [subE, if_pos hc], H', o, (((hs'.drop 0).drop 0).drop 0).drop 0, by rw [subD, if_pos hc]; exact hx.mono (hle.trans hle')⟩⟩
        · exact ⟨0, by rw [if_neg hc], .inl ⟨rfl, .inl ⟨by omega, (fun _ => by simpa using hc), H', hle.trans hle', hs'⟩⟩⟩
      | 2, _ =>
        have hc := hc2 rfl
        have hs3 : HS [b] H0 w0 H ([(b, o, true)] ++ [(g2, .cells #[.slice b5 l.length c5] 23, true), (g1, .cells #[ptr b] 54, true), (g3, .cells #[.int .u64 (most : Int)] 58, true)]) w := ((((hs.drop 0).front (i := 0) rfl).front (i := 2) rfl).front (i := 2) rfl).front (i := 3) rfl
        refine ⟨_, [], [ptr g2, ptr g1, ptr g3], rfl, body97, (submit1_rd b g2 g1 g3 x o b5 c5 l most H w (hs3.begin [true, false, false, false]) (hx.mono hle) hok (hl.keep hs) hll hcl).mono fun e w' hp => ?_⟩
        obtain ⟨v, H', M', rfl, hs', hle', rfl, o', rfl, hsrc⟩ := hp.step hs3 rfl rfl
        have hE : subE x l most = if subFits x l most then 0 else 7 := by rw [subE, if_neg (by rw [hc]; decide)]
        have hD : subD x l most = if subFits x l most then longD x l else x := by rw [subD, if_neg (by rw [hc]; decide)]
        rw [← hD] at hsrc
        rw [← hE]
        have hs4 : HS [b] H0 w0 H' [(b, o', true)] w' := ((hs'.drop 1).drop 1).drop 1
        by_cases hz : subE x l most = 0
        · exact ⟨_, rfl, .inl ⟨hz, .inr ⟨rfl, hz, H', o', hs4, hsrc⟩⟩⟩
        · exact ⟨_, rfl, .inr ⟨hz, rfl, H', o', hs4, hsrc⟩⟩
    · simp at h
  · rintro w (⟨h, _⟩ | ⟨_, hz, H, o', hs, hsrc⟩)
    · simp at h
    · exact ⟨hz.symm, H, o', hs, hsrc⟩
  rintro e w ⟨er, rfl, rfl, H, o', hs, hsrc⟩
  refine ⟨_, rfl, ?_⟩
  refine WO.step rfl (OR.assign rfl (WO.done (WX.seq (WC.ret ?_))))
  refine WX.ret1 rfl rfl ?_
  exact ⟨_, H, _, rfl, hs, by simp, rfl, o', rfl, hsrc⟩


set_option maxRecDepth 20000 in
set_option maxHeartbeats 2000000 in
theorem lay_new (g s : Nat) (vc : Value) (chunk : List UInt8) (H0 : Hp) (w0 : World) (h0 : Sub H0 w0) (hgs : 1 ≤ g ∧ g ≤ 255 ∧ 1 ≤ s ∧ s ≤ 65535 ∧ 4 < g * s) (hc : Bytes H0 vc chunk) (hl1 : 1 ≤ chunk.length) (hl2 : chunk.length ≤ g * s - 4) :
    Calls Try.prog 107 #[vc, .int .i64 (g : Int), .int .i64 (s : Int)] w0 (Pure H0 w0 fun v H' => ∃ r, v = .tuple #[r, .int .i64 0] ∧ BytesL H' r (layF g s chunk) ∧ LaidIn H' w0.heap.size r g s) := by
  have hs := HS.init h0
  have hle := Hp.le.refl H0
  obtain ⟨hg1, hg2, hs1, hs2, hgs4⟩ := hgs
  have hmul : g * s ≤ 255 * 65535 := Nat.mul_le_mul hg2 hs2
  obtain ⟨bc, cc, rfl⟩ := hc.form
  have hal := layAll_len hgs4 hl2
  have hmc : (g : Int) * (s : Int) = ((g * s : Nat) : Int) := by rw [Int.natCast_mul]
  have hb1 : (0 : Int) ≤ (g : Int) * (s : Int) := by rw [hmc]; omega
  have hb2 : (g : Int) * (s : Int) ≤ 16711425 := by rw [hmc]; omega
  refine Calls.enter (args := [.slice bc chunk.length cc, .int .i64 (g : Int), .int .i64 (s : Int)]) Try.func107 rfl Try.ntmps107 rfl ?_
  refine WC.seq (WC.region (WO.step rfl (OR.assign rfl (WO.step rfl (OR.assign rfl (WO.done (WX.seq ?_)))))))
  refine WC.seq (WC.region (WO.step rfl (OR.move rfl (WO.step rfl (OR.move rfl ?_)))))
  refine WO.step rfl (OR.call hs body141 rfl rfl (room_ok (g : Int) (s : Int) _ _ hs.toSub) ?_)
  clear hs; rintro _ H w hs hle1 rfl; replace hle := hle.trans hle1; (try replace hlb := hlb.trans hle1)
  have hrc : (g : Int) * (s : Int) - 4 = ((g * s - 4 : Nat) : Int) := by rw [hmc]; omega
  rw [if_pos (show 1 ≤ (g : Int) ∧ (g : Int) ≤ 255 ∧ 1 ≤ (s : Int) ∧ (s : Int) ≤ 65535 ∧ 4 < (g : Int) * (s : Int) from ⟨by omega, by omega, by omega, by omega, by rw [hmc]; omega⟩), hrc]
  refine WO.step rfl (OR.move rfl (WO.step rfl (OR.extract rfl rfl (WO.step rfl (OR.extract rfl rfl (WO.step rfl (OR.assign rfl ?_)))))))
  refine WO.step rfl (OR.assign rfl (WO.done (WX.seq (WC.seq (WC.block (WC.seq (WC.region ?_)))))))
  refine WO.step rfl (OR.move rfl (WO.step rfl (OR.neq rfl rfl (WO.step rfl (OR.assign rfl (WO.done (WX.seq ?_)))))))
  refine WC.no rfl (decide_eq_false (by omega)) ?_
  refine WC.seq (WC.region (WO.step rfl (OR.move rfl (WO.step rfl (OR.lenSlice T23.und rfl (WO.step rfl (OR.eql rfl rfl ?_)))))))
  refine WO.step rfl (OR.assign rfl (WO.done (WX.seq ?_)))
  refine WC.no rfl (decide_eq_false (by omega)) ?_
  refine WC.seq (WC.region (WO.step rfl (OR.move rfl (WO.step rfl (OR.lenSlice T23.und rfl (WO.step rfl (OR.move rfl ?_)))))))
  refine WO.step rfl (OR.gtr rfl rfl (WO.step rfl (OR.assign rfl (WO.done (WX.seq ?_)))))
  refine WC.no rfl (decide_eq_false (by omega)) ?_
  refine WC.skip (WX.block (WX.seq (WC.seq (WC.region (WO.step rfl (OR.move rfl (WO.step rfl ?_)))))))
  refine OR.lenSlice T23.und rfl ?_
  refine WO.step rfl (OR.convI T3.und T58.und rfl ?_)
  rw [IntWalk.u64_in (chunk.length : Int) (by omega)]
  have h256 : chunk.length < 256 ^ 4 := Nat.lt_of_le_of_lt (by omega : chunk.length ≤ 16711425) (by decide)
  have hszc := hs.size
  refine WO.step rfl (OR.callX (Mx := []) hs body160 rfl rfl (num_ok (.slice none 0 0) [] chunk.length 4 _ _ hs.toSub (Bytes.nil _) (by simp) h256 (by omega) (by omega)) rfl rfl ?_)
  clear hs; rintro _ H Mo w hs hle1 hnew ⟨v1, rfl, ho⟩; replace hle := hle.trans hle1; (try replace hlb := hlb.trans hle1)
  rw [List.nil_append] at ho
  replace ho := ho.mono hszc
  refine WO.step rfl (OR.move rfl (WO.step rfl (OR.extract rfl rfl (WO.step rfl (OR.extract rfl rfl (WO.step rfl (OR.assign rfl ?_)))))))
  refine WO.step rfl (OR.assign rfl (WO.done (WX.seq (WC.seq (WC.region (WO.step rfl (OR.move rfl ?_)))))))
  refine WO.step rfl (OR.move rfl ?_)
  refine WO.step rfl (OR.append (m := chunk.length) (news := chunk.map B) hs ho T23.und T5 rfl (by omega) rfl rfl (by simp) (Sl.src (hc.mono hle) hs) (Sl.src0 hc) (bytes_one _) (by simp; omega) (by simp; omega) ?_)
  clear hs ho; intro v2 w Mo2 hs ho hge
  refine WO.step rfl (OR.move rfl (WO.step rfl (OR.move rfl (WO.step rfl (OR.lenSlice T23.und rfl (WO.step rfl (OR.subI rfl rfl (by omega) (by omega) ?_)))))))
  have hsubI : ((g * s - 4 : Nat) : Int) - (chunk.length : Int) = ((g * s - 4 - chunk.length : Nat) : Int) := by omega
  rw [hsubI]
  refine WO.step rfl (OR.appendZ (m := g * s - 4 - chunk.length) (Nat.le_refl _) hs ho T23.und T5 rfl T3.und rfl rfl rfl (by simp; omega) (by simp; omega) ?_)
  clear hs ho; intro v3 w Mo3 hs ho
  obtain ⟨H3, hle3, hs, hO⟩ := HS.pubO hs ho
  have hsl3 := hO.sl
  obtain ⟨hgA, cA, capA, hvA, hHA, hcA, hsA, hxA⟩ := hO.blk (by simp; omega)
  replace hle := hle.trans hle3
  have hall : Bytes H3 v3 (layAll g s chunk) := by
    unfold Bytes
    rw [hal]
    have e1 : ([] : List UInt8).length + 4 + chunk.length + (g * s - 4 - chunk.length) = g * s := by simp; omega
    have e2 : (layAll g s chunk).map B = (beN 4 chunk.length).map B ++ chunk.map B ++ List.replicate (g * s - 4 - chunk.length) (B 0) := by simp [layAll]
    rw [e1] at hsl3
    rw [e2]
    exact hsl3
  obtain ⟨HB, hHB⟩ : ∃ X, X = H3 := ⟨_, rfl⟩
  subst hHB
  generalize hAL : layAll g s chunk = AL at hall hal
  have hBA : ∀ j, j < g * s → ∃ x : UInt8, cA.toList[j]? = some (B x) := by
    intro j hj
    have e1 : ([] : List UInt8).length + 4 + chunk.length + (g * s - 4 - chunk.length) = g * s := by simp; omega
    rw [e1, Nat.mul_one] at hxA
    have h9 : (cA.toList.take (g * s))[j]? = (AL.map B)[j]? := by rw [hxA, ← hAL]; simp [layAll]; rfl
    rw [List.getElem?_take, if_pos hj, List.getElem?_map, List.getElem?_eq_getElem (l := AL) (by omega)] at h9
    exact ⟨_, h9⟩
  generalize blkOf v3 = gA at hgA hvA hHA
  have e11 : ([] : List UInt8).length + 4 + chunk.length + (g * s - 4 - chunk.length) = AL.length := by rw [hal]; simp; omega
  rw [e11] at hvA
  subst hvA
  obtain ⟨b3, hb3⟩ : ∃ b : Option Addr, b = some ⟨gA, 0, none⟩ := ⟨_, rfl⟩
  rw [← hb3] at hall ⊢
  obtain ⟨c3, hc3⟩ : ∃ c, c = capA := ⟨_, rfl⟩
  rw [← hc3] at hall ⊢
  refine WO.step rfl (OR.assign rfl (WO.done (WX.seq (WC.seq (WC.region (WO.step rfl (OR.assign rfl ?_)))))))
  refine WO.done (WX.seq (WC.seq (WC.seq (WC.region (WO.step rfl (OR.assign rfl (WO.done ?_)))))))
  refine WX.seq (WC.block ?_)
  refine WC.loop (ι := Nat × Value) (fun ix => [(1, .int .i64 (g : Int)), (2, .int .i64 (s : Int)), (10, .slice b3 AL.length c3), (12, ix.2), (13, .int .i64 ((s * ix.1 : Nat) : Int))]) (fun ix w => (ix.1 ≤ g ∧ ∃ H cl Mo, Hp.le H0 H ∧ Hp.le HB H ∧ BLOk H cl ((List.range ix.1).map fun i => (AL.drop (s * i)).take s) ∧ (∀ i, i < ix.1 → cl[i]? = some (.slice (some ⟨gA, s * i, none⟩) s s)) ∧ Own w0.heap.size 23 1 ix.2 ix.1 cl Mo ∧ HS [] H0 w0 H (Mo ++ []) w)) (fun ix => g - ix.1) (0, .slice none 0 0) ⟨rfl, rfl, rfl, rfl, rfl,  trivial⟩ ?_ (fun ix w hW => ?_)
  · exact ⟨by omega, HB, [], [], hle, Hp.le.refl _, BLOk.nil _, (fun i h => absurd h (Nat.not_lt_zero _)), Own.nil _ _ _, hs⟩
  clear hs hle ho hsl3
  obtain ⟨k, vo⟩ := ix
  obtain ⟨hk, H, cl, Mo, hle, hlb, hok, hcl, ho, hs⟩ := hW
  simp only at hk hok hcl ho
  have hskg : s * k ≤ g * s := by rw [Nat.mul_comm g s]; exact Nat.mul_le_mul_left s hk
  refine WC.seq (WC.seq (WC.region (WO.step rfl (OR.move rfl (WO.step rfl (OR.move rfl (WO.step rfl ?_)))))))
  refine OR.move rfl (WO.step rfl (OR.mulI rfl rfl (by omega) (by omega) (WO.step rfl (OR.lss rfl rfl (WO.done (WX.seq ?_))))))
  refine WC.condD rfl (fun hlt => ?_) (fun hlt => ?_)
  · have hlt2 : s * k < s * g := by rw [Nat.mul_comm s g]; rw [hmc] at hlt; exact Int.ofNat_lt.1 hlt
    have hk' : k < g := Nat.lt_of_mul_lt_mul_left hlt2
    have hks : s * k + s ≤ g * s := by
      have := Nat.mul_le_mul_left s (show k + 1 ≤ g from hk')
      rw [Nat.mul_succ] at this
      rw [Nat.mul_comm g s]; exact this
    have hpc := hall.part3 (s * k) (s * k + s) (by omega) (by rw [hal]; exact hks)
    have hksI : ((s * k : Nat) : Int) + (s : Int) = ((s * k + s : Nat) : Int) := rfl
    have hksJ : ((s * k + s : Nat) : Int) ≤ 16711425 := Int.ofNat_le.2 (Nat.le_trans hks hmul)
    have hcap3 : s * k + s ≤ c3 := Nat.le_trans hks (by rw [← hal]; exact hall.cap_le)
    refine WC.skip (WX.seq (WC.seq (WC.block (WC.region (WO.step rfl (OR.move rfl (WO.step rfl ?_)))))))
    refine OR.move rfl (WO.step rfl (OR.move rfl (WO.step rfl (OR.move rfl (WO.step rfl (OR.move rfl (WO.step rfl ?_)))))))
    refine OR.addI rfl rfl (by omega) (by omega) (WO.step rfl (OR.move rfl (WO.step rfl (OR.move rfl (WO.step rfl (OR.addI rfl rfl (by omega) (by omega) ?_))))))
    refine WO.step rfl (OR.slice3G (s * k) (s * k + s) (s * k + s) T23.und T5 rfl rfl rfl rfl hksI rfl hksI (Nat.le_add_right _ _) (Nat.le_refl _) hcap3 ?_)
    refine WO.step rfl (OR.buildSlice (vs := [_]) hs T22.und T23 rfl rfl rfl rfl (by simp) ?_)
    clear hs; intro g3 w hg3 hs
    have hb9 := hs.blk (i := 0) rfl
    replace hs := hs.sink
    refine WO.step rfl (OR.append (m := 1) (news := [_]) hs ho T22.und T23 rfl (by omega) rfl rfl rfl (cells_of hb9) (fun h => by cases h) rfl (by omega) (by omega) ?_)
    clear hs ho; intro vo' w Mo' hs ho hge
    replace hs := hs.dropMid
    refine WO.step rfl (OR.assign rfl (WO.done (WX.block (WX.seq (WC.region (WO.step rfl (OR.move rfl ?_)))))))
    refine WO.step rfl (OR.move rfl (WO.step rfl (OR.addI rfl rfl (by omega) (by omega) (WO.step rfl (OR.assign rfl (WO.done ?_))))))
    refine WX.again ((k + 1, vo')) ⟨rfl, rfl, rfl, rfl, rfl,  trivial⟩ ?_ ?_
    · refine ⟨hk', H, cl ++ [_], Mo', hle, hlb, ?_, ?_, ho, hs⟩
      rotate_left
      · have h12 : cl.length = k := by have := hok.1; simpa using this
        intro i hi
        by_cases e : i < k
        · rw [List.getElem?_append_left (by omega)]
          exact hcl i e
        · have e2 : i = k := by omega
          subst e2
          rw [List.getElem?_append_right (by omega), h12, Nat.sub_self, List.getElem?_cons_zero, hb3]
          have e13 : s * i + s - s * i = s := by omega
          rw [if_neg (by omega), e13]
          simp [Addr.add]
          intro h
          exact h.symm
      have e9 : s * k + s - s * k = s := by omega
      rw [e9] at hpc ⊢
      rw [List.range_succ, List.map_append, List.map_singleton]
      exact hok.snoc (hpc.mono hlb)
    · simp only; omega
  · have hkg : k = g := by
      rcases Nat.lt_or_ge k g with h | h
      · exfalso
        have := Nat.mul_lt_mul_of_pos_left h (show 0 < s by omega)
        rw [Nat.mul_comm s g] at this
        rw [hmc] at hlt
        exact hlt (Int.ofNat_lt.2 this)
      · omega
    subst hkg
    have ho2 := ho
    obtain ⟨hL1, ⟨hL2, _⟩ | ⟨gL, cL, capL, rfl, rfl, hnL, hcL, hxL, hgL⟩⟩ := ho2
    · omega
    have hLn := (hs.mem gL (.cells cL 23) true (by simp)).2.1
    have hne : gL ≠ gA := fun e => by
      have h9 := hlb _ _ hHA
      rw [e] at hLn
      rw [hLn] at h9
      cases h9
    refine WC.exit (WX.seq_exit (WX.loop_exit (WX.block_hit (WX.seq (WC.seq (WC.region (WO.step rfl ?_)))))))
    refine OR.move rfl (WO.step rfl (OR.assign rfl (WO.step rfl (OR.assign rfl (WO.done (WX.seq (WC.ret ?_)))))))
    refine WX.ret2 rfl rfl rfl ?_
    obtain ⟨H4, hle4, hs4, hO4⟩ := HS.pubO hs ho
    have hsl4 := hO4.sl
    obtain ⟨_, cL2, capL2, hvL2, hHL2, _, _, hxL2⟩ := hO4.blk (by omega)
    refine .mk hs4 ⟨_, rfl, ?_⟩
    rw [layF, hAL]
    exact ⟨(hok.mono hle4).bytesL (by simpa using hsl4), gA, cA, gL, cL2, capL, hgA, hne, (hlb.trans hle4) _ _ hHA, hBA, hHL2, rfl, fun i hi => by
      have h9 := hcl i hi
      rw [← hxL2] at h9
      exact get_take h9⟩

set_option maxRecDepth 20000 in
set_option maxHeartbeats 2000000 in
theorem symbols_new (b : Nat) (gen : Nat) (x : SrcD) (o : Obj) (H0 : Hp) (w0 : World) (h0 : Sub H0 w0) (hb : w0.heap[b]? = some o) (hn : H0 b = none) (hx : SrcIn H0 x o) (hok : SrcOk x) :
    Calls Try.prog 34 #[ptr b, .int .u64 (gen : Int)] w0 (Pure H0 w0 fun v H' => ∃ r, v = .tuple #[r, .int .i64 (thereE x gen)] ∧ BytesL H' r (symF x gen) ∧ (gen < x.chunks.length → LaidIn H' w0.heap.size r x.g x.s)) := by
  have hs := HS.startR h0 hb hn
  have hle := Hp.le.refl H0
  have hchl := hok.chl
  have hgp : 0 < x.g := by have := hok.gs.1; omega
  have hx0 := hx
  obtain ⟨vs, vc, vch, vop, rfl, hx1, hx2, hx3, hx4⟩ := hx0
  refine Calls.enter (args := [ptr b, .int .u64 (gen : Int)]) Try.func34 rfl Try.ntmps34 rfl ?_
  refine WC.seq (WC.region (WO.step rfl (OR.assign rfl (WO.step rfl (OR.assign rfl (WO.done (WX.seq ?_)))))))
  refine WC.seq (WC.seq (WC.region (WO.step rfl (OR.move rfl (WO.step rfl (OR.makeFunc rfl rfl (WO.step rfl ?_)))))))
  refine OR.move rfl (WO.step rfl (OR.move rfl ?_))
  refine WO.step rfl (OR.call hs body106 rfl rfl (there_ok b gen _ _ hs.toSub) ?_)
  clear hs; rintro _ H w hs hle1 ⟨gg, gx, rfl, hc1, hc2⟩; replace hle := hle.trans hle1; (try replace hlb := hlb.trans hle1)
  refine WO.step rfl (OR.buildSlice (vs := [_, _]) hs T219.und T59 rfl rfl rfl rfl (by simp) ?_)
  clear hs; intro g4 w hg4 hs
  refine WO.step rfl (OR.callW body94 rfl rfl (first2 _ _ 0 (thereE x gen) g4 2 _ _ _ _ _ _ hs ⟨_, [ptr b], [], rfl, body95, fun H' w' hl' hs' => smade_ok b x.g x.s vs vc vch vop x.cl _ _ hs'.toSub (hs'.blk (i := 1) rfl) (hs'.mem b (srcObj x.g x.s vs vc x.cl vch vop) false (by simp)).2.1 hgp⟩ ⟨_, [], [ptr gg, ptr gx], rfl, body159, fun H' w' hl' hs' => there1_ok b gg gx gen x (srcObj x.g x.s vs vc x.cl vch vop) _ _ hs'.toSub (hs'.blk (i := 1) rfl) (hs'.mem b (srcObj x.g x.s vs vc x.cl vch vop) false (by simp)).2.1 (hx.mono (hle.trans hl')) (by omega) (hcell.mono hl' hc1) (hcell.mono hl' hc2)⟩) ?_)
  clear hs
  rintro e w ⟨rfl, H, hle1, hs⟩
  replace hle := hle.trans hle1
  refine ⟨_, rfl, ?_⟩
  rw [if_pos rfl]
  by_cases hlt : gen < x.chunks.length
  · have hE : thereE x gen = 0 := by rw [thereE, if_pos hlt]
    rw [hE]
    obtain ⟨b3, c3, e3⟩ := hx3.form
    subst e3
    refine WO.step rfl (OR.assign rfl (WO.done (WX.seq (WC.seq (WC.region (WO.step rfl (OR.move rfl ?_)))))))
    refine WO.step rfl (OR.neq rfl rfl (WO.done (WX.seq ?_)))
    refine WC.no rfl (decide_eq_false (by decide)) ?_
    obtain ⟨cs, hsl, hcl, hcs⟩ := hx3
    obtain ⟨ob, oo, rfl, hco⟩ := hsl.pos (by omega)
    have hgc : gen < cs.length := by omega
    have hcell' := hco gen cs[gen] (List.getElem?_eq_getElem hgc)
    have hcb := hcs gen hlt hgc
    have hmem := hok.mem x.chunks[gen] (List.getElem_mem hlt)
    have hsym : symF x gen = layF x.g x.s x.chunks[gen] := by rw [symF, List.getElem?_eq_getElem hlt]
    obtain ⟨N9, hN9⟩ : ∃ N, N = w0.heap.size := ⟨_, rfl⟩
    refine WC.skip (WX.seq (WC.seq ?_))
    refine WC.sub [(0, ptr b), (1, .int .u64 (gen : Int))] ⟨rfl, rfl,  trivial⟩ ?_
    refine WC.draw 19 mixed hs (by kernel_rfl) ?_
    refine ⟨MF.eq _, by intro Mx H w hle hs; refine forVals_nil (ORg.plain (OR.move rfl ?_)); exact ⟨_, [], Hp.le.refl _, hs, rfl, rfl⟩, ?_⟩
    refine ⟨MF.eq _, by intro Mx H w hle hs; refine forVals_eq rfl rfl rfl ?_; refine forVals_nil (ORg.plain (OR.nilCheck rfl ?_)); exact ⟨_, [], Hp.le.refl _, hs, rfl, rfl⟩, ?_⟩
    refine ⟨MF.eq _, by intro Mx H w hle hs; refine forVals_eq rfl rfl rfl ?_; refine forVals_nil (ORg.plain (OR.fieldAddr FA151_5 rfl ?_)); exact ⟨_, [], Hp.le.refl _, hs, rfl, rfl⟩, ?_⟩
    refine ⟨MF.eq _, by intro Mx H w hle hs; refine forVals_eq rfl rfl rfl ?_; refine forVals_nil (ORg.plain (OR.load T22 rfl rfl (hs.right.cellM (i := 1) rfl rfl) ?_)); exact ⟨_, [], Hp.le.refl _, hs, rfl, rfl⟩, ?_⟩
    refine ⟨MF.eq _, by intro Mx H w hle hs; refine forVals_nil (ORg.plain (OR.move rfl ?_)); exact ⟨_, [], Hp.le.refl _, hs, rfl, rfl⟩, ?_⟩
    refine ⟨MF.eq (.pointer (some ⟨ob, oo + gen, none⟩)), ?_, ?_⟩
    · intro Mx H w hle2 hs; (try replace hle := hle.trans hle2); (try replace hlb := hlb.trans hle2); refine forVals_eq rfl rfl rfl ?_; refine forVals_eq rfl rfl rfl ?_
      refine forVals_nil (ORg.plain (OR.idx gen T22.und T23 rfl rfl rfl hlt ?_))
      exact ⟨_, [], Hp.le.refl _, hs, rfl, rfl⟩
    refine ⟨MF.eq cs[gen], ?_, ?_⟩
    · intro Mx H w hle2 hs; (try replace hle := hle.trans hle2); (try replace hlb := hlb.trans hle2); refine forVals_eq rfl rfl rfl ?_
      refine forVals_nil (ORg.plain (OR.load T23 rfl rfl (hs.cell (hcell.mono hle hcell')) ?_))
      exact ⟨_, [], Hp.le.refl _, hs, rfl, rfl⟩
    refine ⟨MF.eq _, by intro Mx H w hle hs; refine forVals_nil (ORg.plain (OR.move rfl ?_)); exact ⟨_, [], Hp.le.refl _, hs, rfl, rfl⟩, ?_⟩
    refine ⟨MF.eq _, by intro Mx H w hle hs; refine forVals_eq rfl rfl rfl ?_; refine forVals_nil (ORg.plain (OR.nilCheck rfl ?_)); exact ⟨_, [], Hp.le.refl _, hs, rfl, rfl⟩, ?_⟩
    refine ⟨MF.eq _, by intro Mx H w hle hs; refine forVals_eq rfl rfl rfl ?_; refine forVals_nil (ORg.plain (OR.fieldAddr FA151_0 rfl ?_)); exact ⟨_, [], Hp.le.refl _, hs, rfl, rfl⟩, ?_⟩
    refine ⟨MF.eq _, by intro Mx H w hle hs; refine forVals_eq rfl rfl rfl ?_; refine forVals_nil (ORg.plain (OR.load T3 rfl rfl (hs.right.cellM (i := 1) rfl rfl) ?_)); exact ⟨_, [], Hp.le.refl _, hs, rfl, rfl⟩, ?_⟩
    refine ⟨MF.eq _, by intro Mx H w hle hs; refine forVals_nil (ORg.plain (OR.move rfl ?_)); exact ⟨_, [], Hp.le.refl _, hs, rfl, rfl⟩, ?_⟩
    refine ⟨MF.eq _, by intro Mx H w hle hs; refine forVals_eq rfl rfl rfl ?_; refine forVals_nil (ORg.plain (OR.nilCheck rfl ?_)); exact ⟨_, [], Hp.le.refl _, hs, rfl, rfl⟩, ?_⟩
    refine ⟨MF.eq _, by intro Mx H w hle hs; refine forVals_eq rfl rfl rfl ?_; refine forVals_nil (ORg.plain (OR.fieldAddr FA151_1 rfl ?_)); exact ⟨_, [], Hp.le.refl _, hs, rfl, rfl⟩, ?_⟩
    refine ⟨MF.eq _, by intro Mx H w hle hs; refine forVals_eq rfl rfl rfl ?_; refine forVals_nil (ORg.plain (OR.load T3 rfl rfl (hs.right.cellM (i := 1) rfl rfl) ?_)); exact ⟨_, [], Hp.le.refl _, hs, rfl, rfl⟩, ?_⟩
    refine ⟨MF.tupLN N9 x.g x.s (layF x.g x.s x.chunks[gen]) 0, ?_, ?_⟩
    · intro Mx H w hle2 hs; (try replace hle := hle.trans hle2); (try replace hlb := hlb.trans hle2); refine forVals_eq rfl rfl rfl ?_; refine forVals_eq rfl rfl rfl ?_; refine forVals_eq rfl rfl rfl ?_
      have hz9 : N9 ≤ w.heap.size := by rw [hN9]; exact hs.size
      refine forVals_nil (ORg.plain (OR.call hs body107 rfl rfl (lay_new x.g x.s cs[gen] x.chunks[gen] _ _ hs.toSub hok.nat (hcb.mono hle) hmem.1 hmem.2) ?_))
      clear hs; rintro _ H w hs hle1 ⟨r, rfl, hr, hr2⟩
      exact ⟨_, [], hle1, hs, ⟨r, rfl, hr, hr2.anti hz9⟩, rfl⟩
    refine ⟨MF.bytesLN N9 x.g x.s (layF x.g x.s x.chunks[gen]), ?_, ?_⟩
    · intro Mx H w hle2 hs; (try replace hle := hle.trans hle2); (try replace hlb := hlb.trans hle2); refine forVals_of rfl rfl rfl ?_; intro v15 h15
      obtain ⟨r, rfl, hr⟩ := h15
      refine forVals_nil (ORg.plain (OR.extract rfl rfl ?_))
      exact ⟨_, [], Hp.le.refl _, hs, hr, rfl⟩
    refine ⟨MF.eq (.int .i64 0), ?_, ?_⟩
    · intro Mx H w hle2 hs; (try replace hle := hle.trans hle2); (try replace hlb := hlb.trans hle2); refine forVals_of rfl rfl rfl ?_; intro v15 h15
      obtain ⟨r, rfl, hr⟩ := h15
      refine forVals_nil (ORg.plain (OR.extract rfl rfl ?_))
      exact ⟨_, [], Hp.le.refl _, hs, rfl, rfl⟩
    refine ⟨MF.bytesLN N9 x.g x.s (layF x.g x.s x.chunks[gen]), ?_, ?_⟩
    · intro Mx H w hle2 hs; (try replace hle := hle.trans hle2); (try replace hlb := hlb.trans hle2); refine forVals_of rfl rfl rfl ?_; intro v16 h16
      refine forVals_nil (ORg.plain (OR.assign rfl ?_))
      exact ⟨_, [], Hp.le.refl _, hs, h16, rfl⟩
    intro H w hle2; (try replace hle := hle.trans hle2); (try replace hlb := hlb.trans hle2)
    refine forAllVals_eq rfl ?_
    refine forAllVals_eq rfl ?_
    refine forAllVals_eq rfl ?_
    refine forAllVals_eq rfl ?_
    refine forAllVals_eq rfl ?_
    refine forAllVals_eq rfl ?_
    refine forAllVals_eq rfl ?_
    refine forAllVals_eq rfl ?_
    refine forAllVals_eq rfl ?_
    refine forAllVals_eq rfl ?_
    refine forAllVals_eq rfl ?_
    refine forAllVals_eq rfl ?_
    refine forAllVals_eq rfl ?_
    refine forAllVals_eq rfl ?_
    refine forAllVals_eq rfl ?_
    refine forAllVals_of rfl ?_; intro v15 h15
    refine forAllVals_of rfl ?_; intro v16 h16
    refine forAllVals_eq rfl ?_
    refine forAllVals_of rfl ?_; intro v18 h18
    refine forAllVals_nil ?_; (try clear hs); intro hs
    refine WO.step rfl (OR.assign rfl (WO.done (WX.seq (WC.ret ?_))))
    refine WX.ret2 rfl rfl rfl ?_
    rw [hsym, ← hN9]
    exact .mk (hs.drop 0) ⟨v18, rfl, h18.1, fun _ => h18.2⟩
  · have hE : thereE x gen = 23 := by rw [thereE, if_neg hlt]
    rw [hE]
    refine WO.step rfl (OR.assign rfl (WO.done (WX.seq (WC.seq (WC.region (WO.step rfl (OR.move rfl ?_)))))))
    refine WO.step rfl (OR.neq rfl rfl (WO.done (WX.seq ?_)))
    refine WC.yes rfl (decide_eq_true (by decide)) ?_
    refine WC.seq (WC.region (WO.step rfl (OR.move rfl (WO.step rfl (OR.assign rfl (WO.step rfl (OR.assign rfl ?_)))))))
    refine WO.done (WX.seq (WC.ret (WX.seq_ret ?_)))
    refine WX.ret2 rfl rfl rfl ?_
    exact .mk (hs.drop 0) ⟨.slice none 0 0, rfl, by rw [symF, List.getElem?_eq_none (by omega)]; exact ⟨[], Sl.empty _ _ _, rfl, fun i h => by simp at h⟩, fun h => absurd h hlt⟩

end Go.Bw
