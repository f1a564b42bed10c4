/- A source: Submit, Flush, Close. -/
import Derived.Test.YtbgdgmilcojlbaaSrc2
namespace Go.Bw
set_option linter.unusedVariables false
set_option linter.unusedSimpArgs false
open Go.Proofs

theorem chunkP_bound {room n : Nat} {st : List UInt8} (hr : 1 ≤ room) : ∀ (cuts : List Int) (p : List (List UInt8) × Nat), p.1.length ≤ p.2 → p.2 ≤ n → cutsOk n (p.2 : Int) cuts = true →
    (cuts.foldl (chunkStep room st) p).1.length ≤ (cuts.foldl (chunkStep room st) p).2 ∧ (cuts.foldl (chunkStep room st) p).2 ≤ n
  | [], p, h1, h2, _ => ⟨h1, h2⟩
  | c :: cs, p, h1, h2, h => by
    simp only [cutsOk, Bool.and_eq_true, decide_eq_true_eq] at h
    obtain ⟨⟨h3, h4⟩, h5⟩ := h
    obtain ⟨k, rfl⟩ := Int.eq_ofNat_of_zero_le (show 0 ≤ c by omega)
    have hk : (chunkStep room st p ((k : Nat) : Int)).2 = k := rfl
    have h6 := chunkStep_len (room := room) (st := st) (p := p) (cut := ((k : Nat) : Int)) h1 (show p.2 ≤ k by omega) hr
    exact chunkP_bound hr cs _ h6 (by rw [hk]; omega) (by rw [hk]; exact h5)
theorem chunksF_len {room : Nat} {st : List UInt8} {cuts : List Int} (hr : 1 ≤ room) (h : cutsOk st.length 0 cuts = true) : (chunksF room st cuts).length ≤ st.length := by
  have h1 := chunkP_bound (st := st) hr cuts ([], 0) (Nat.le_refl _) (Nat.zero_le _) h
  have h2 : (chunkP room st cuts).1.length ≤ (chunkP room st cuts).2 := h1.1
  have h3 : (chunkP room st cuts).2 ≤ st.length := h1.2
  have h4 : (st.length - (chunkP room st cuts).2) / room ≤ st.length - (chunkP room st cuts).2 := Nat.div_le_self _ _
  have h5 : (wholeL room st (chunkP room st cuts).2 ((st.length - (chunkP room st cuts).2) / room)).length = (st.length - (chunkP room st cuts).2) / room := by simp [wholeL]
  rw [chunksF, List.length_append, h5]
  omega
theorem openF_len (room : Nat) (st : List UInt8) (cuts : List Int) : (openF room st cuts).length ≤ st.length := by rw [openF, List.length_drop]; omega
theorem cutsOk_mono {n m : Nat} (h : n ≤ m) : ∀ (cuts : List Int) (last : Int), cutsOk n last cuts = true → cutsOk m last cuts = true
  | [], _, _ => rfl
  | c :: cs, last, hk => by
    simp only [cutsOk, Bool.and_eq_true, decide_eq_true_eq] at hk ⊢
    exact ⟨⟨hk.1.1, by omega⟩, cutsOk_mono h cs c hk.2⟩

structure SrcOk (x : SrcD) : Prop where
  gs : goodGS x.g x.s
  cuts : cutsOk x.st.length 0 x.cuts = true
  ch : x.chunks = chunksF (x.g * x.s - 4) x.st x.cuts
  op : x.opn = openF (x.g * x.s - 4) x.st x.cuts
  len : x.st.length ≤ 262144
theorem SrcOk.room {x : SrcD} (h : SrcOk x) : 1 ≤ x.g * x.s - 4 := by
  have h1 : (4 : Int) < (x.g : Int) * (x.s : Int) := h.gs.2.2.2.2
  rw [← Int.natCast_mul] at h1
  omega
theorem SrcOk.chl {x : SrcD} (h : SrcOk x) : x.chunks.length ≤ 262144 := by
  rw [h.ch]
  exact Nat.le_trans (chunksF_len h.room h.cuts) h.len
theorem SrcOk.opl {x : SrcD} (h : SrcOk x) : x.opn.length ≤ 262144 := by
  rw [h.op]
  exact Nat.le_trans (openF_len _ _ _) h.len
theorem SrcOk.cut {x : SrcD} (h : SrcOk x) : SrcOk (cutD x) := by
  unfold cutD
  split
  · exact h
  · exact ⟨h.gs, cutsOk_snoc _ _ _ (by omega) h.cuts, rfl, rfl, h.len⟩

/-- What a Submit would make, and how many generations that needs. -/
def longD (x : SrcD) (l : List UInt8) : SrcD := { x with st := x.st ++ l, chunks := chunksF (x.g * x.s - 4) (x.st ++ l) x.cuts, opn := openF (x.g * x.s - 4) (x.st ++ l) x.cuts }
def needs (x : SrcD) : Nat := x.chunks.length + (if x.opn = [] then 0 else 1)
def subFits (x : SrcD) (l : List UInt8) (most : Nat) : Prop := x.st.length + l.length ≤ 262144 ∧ needs (longD x l) ≤ most
instance (x : SrcD) (l : List UInt8) (most : Nat) : Decidable (subFits x l most) := inferInstanceAs (Decidable (_ ∧ _))
theorem SrcOk.long {x : SrcD} {l : List UInt8} (h : SrcOk x) (hl : x.st.length + l.length ≤ 262144) : SrcOk (longD x l) :=
  ⟨h.gs, cutsOk_mono (by simp [longD]) _ _ h.cuts, rfl, rfl, by simp [longD]; exact hl⟩

set_option maxRecDepth 20000 in
set_option maxHeartbeats 2000000 in
theorem submit1_ok (b gb gx gm : Nat) (x : SrcD) (o : Obj) (bv : Value) (l : List UInt8) (most : Nat) (H0 : Hp) (w0 : World)
    (hs : HS [b] H0 w0 H0 [(b, o, true), (gb, .cells #[bv] 23, false), (gx, .cells #[ptr b] 54, false), (gm, .cells #[.int .u64 (most : Int)] 58, false)] w0)
    (hx : SrcIn H0 x o) (hok : SrcOk x) (hl : Bytes H0 bv l) (hll : l.length ≤ 9223372036854775807) (hcl : x.cuts.length ≤ 1000000000) :
    Calls Try.prog 97 #[ptr gb, ptr gx, ptr gm] w0 (Ret [b] H0 w0 fun v H' M' => v = .int .i64 (if subFits x l most then 0 else 7) ∧ ∃ o', M' = [(b, o', true)] ∧ SrcIn H' (if subFits x l most then longD x l else x) o') := by
  have hxl := hok.len
  have hok0 := hok
  obtain ⟨g, s, st, cuts, cl, chunks, opn⟩ := x
  obtain ⟨vs, vc, vch, vop, rfl, hst, hcu, hch, hop⟩ := hx
  simp only at hst hcu hch hop hs hxl hcl
  have hle := Hp.le.refl H0
  have hgs := hok0.gs
  simp only at hgs
  obtain ⟨b1, c1, rfl⟩ := hst.form
  obtain ⟨b2, c2, rfl⟩ := hcu.form
  obtain ⟨b3, c3, rfl⟩ := hch.form
  obtain ⟨b4, c4, rfl⟩ := hop.form
  obtain ⟨b5, c5, rfl⟩ := hl.form
  refine Calls.enter (args := [ptr gb, ptr gx, ptr gm]) Try.func97 rfl Try.ntmps97 rfl ?_
  refine WC.seq (WC.region (WO.step rfl (OR.assign rfl (WO.done (WX.seq (WC.seq (WC.seq ?_)))))))
  refine WC.draw 9 mixed hs (by kernel_rfl) ?_
  refine ⟨MF.eq _, by intro Mx H w hle hs; refine forVals_nil (ORg.plain (OR.load T23 rfl rfl (hs.right.cellM (i := 1) rfl rfl) ?_)); exact ⟨_, [], Hp.le.refl _, hs, rfl, rfl⟩, ?_⟩
  refine ⟨MF.eq _, by intro Mx H w hle hs; refine forVals_eq rfl rfl rfl ?_; refine forVals_nil (ORg.plain (OR.lenSlice T23.und rfl ?_)); exact ⟨_, [], Hp.le.refl _, hs, rfl, rfl⟩, ?_⟩
  refine ⟨MF.eq _, by intro Mx H w hle hs; refine forVals_nil (ORg.plain (OR.load T54 rfl rfl (hs.right.cellM (i := 2) rfl rfl) ?_)); exact ⟨_, [], Hp.le.refl _, hs, rfl, rfl⟩, ?_⟩
  refine ⟨MF.eq _, by intro Mx H w hle hs; refine forVals_eq rfl rfl rfl ?_; refine forVals_nil (ORg.plain (OR.nilCheck rfl ?_)); exact ⟨_, [], Hp.le.refl _, hs, rfl, rfl⟩, ?_⟩
  refine ⟨MF.eq _, by intro Mx H w hle hs; refine forVals_eq rfl rfl rfl ?_; refine forVals_nil (ORg.plain (OR.fieldAddr FA151_2 rfl ?_)); exact ⟨_, [], Hp.le.refl _, hs, rfl, rfl⟩, ?_⟩
  refine ⟨MF.eq _, by intro Mx H w hle hs; refine forVals_eq rfl rfl rfl ?_; refine forVals_nil (ORg.plain (OR.load T23 rfl rfl (hs.right.cellM (i := 0) rfl rfl) ?_)); exact ⟨_, [], Hp.le.refl _, hs, rfl, rfl⟩, ?_⟩
  refine ⟨MF.eq _, by intro Mx H w hle hs; refine forVals_eq rfl rfl rfl ?_; refine forVals_nil (ORg.plain (OR.lenSlice T23.und rfl ?_)); exact ⟨_, [], Hp.le.refl _, hs, rfl, rfl⟩, ?_⟩
  refine ⟨MF.eq _, by intro Mx H w hle hs; refine forVals_eq rfl rfl rfl ?_; refine forVals_nil (ORg.plain (OR.subI rfl rfl (by omega) (by omega) ?_)); exact ⟨_, [], Hp.le.refl _, hs, rfl, rfl⟩, ?_⟩
  refine ⟨MF.eq _, by intro Mx H w hle hs; refine forVals_eq rfl rfl rfl ?_; refine forVals_eq rfl rfl rfl ?_; refine forVals_nil (ORg.plain (OR.gtr rfl rfl ?_)); exact ⟨_, [], Hp.le.refl _, hs, rfl, rfl⟩, ?_⟩
  intro H w hle2; (try replace hle := hle.trans hle2); (try replace hlb := hlb.trans hle2)
  refine forAllVals_eq rfl ?_
  refine forAllVals_eq rfl ?_
  refine forAllVals_eq rfl ?_
  refine forAllVals_eq rfl ?_
  refine forAllVals_eq rfl ?_
  refine forAllVals_eq rfl ?_
  refine forAllVals_eq rfl ?_
  refine forAllVals_eq rfl ?_
  refine forAllVals_eq rfl ?_
  refine forAllVals_nil ?_; (try clear hs); intro hs
  refine WO.done (WX.seq ?_)
  refine WC.condD rfl (fun hbig => ?_) (fun hbig => ?_)
  · have hnf : ¬ subFits ⟨g, s, st, cuts, cl, chunks, opn⟩ l most := fun h => by have := h.1; simp only at this; omega
    refine WC.seq (WC.region (WO.step rfl (OR.assign rfl (WO.done (WX.seq (WC.ret (WX.seq_ret ?_)))))))
    refine WX.ret1 rfl rfl ?_
    refine ⟨_, _, _, rfl, ((hs.drop 1).drop 1).drop 1, by simp [dropAt], by rw [if_neg hnf], _, rfl, ?_⟩
    rw [if_neg hnf]
    exact ⟨_, _, _, _, rfl, hst.mono hle, hcu.mono hle, hch.mono hle, hop.mono hle⟩
  · have hfit : st.length + l.length ≤ 262144 := by omega
    have hok2 := hok0.long (l := l) hfit
    obtain ⟨LD, hLD⟩ : ∃ LD, LD = longD ⟨g, s, st, cuts, cl, chunks, opn⟩ l := ⟨_, rfl⟩
    rw [← hLD] at hok2
    have hc2 := hok2.cuts
    have hchl := hok2.chl
    have hopl := hok2.opl
    have hsub : subFits ⟨g, s, st, cuts, cl, chunks, opn⟩ l most ↔ needs LD ≤ most := by rw [subFits, ← hLD]; exact ⟨fun h => h.2, fun h => ⟨hfit, h⟩⟩
    have hLs : LD.st = st ++ l := by rw [hLD]; rfl
    have hLc : LD.cuts = cuts := by rw [hLD]; rfl
    have hLch : LD.chunks = chunksF (g * s - 4) (st ++ l) cuts := by rw [hLD]; rfl
    have hLop : LD.opn = openF (g * s - 4) (st ++ l) cuts := by rw [hLD]; rfl
    have hgs' : 1 ≤ g ∧ g ≤ 255 ∧ 1 ≤ s ∧ s ≤ 65535 ∧ 4 < g * s := by
      obtain ⟨g1, g2, g3, g4, g5⟩ := hgs
      exact ⟨by omega, by omega, by omega, by omega, by rw [← Int.natCast_mul] at g5; omega⟩
    rw [hLs, hLc] at hc2
    have hlen2 : (st ++ l).length = st.length + l.length := List.length_append
    refine WC.skip (WX.seq (WC.seq ?_))
    refine WC.draw 6 mixed hs (by kernel_rfl) ?_
    refine ⟨MF.eq _, by intro Mx H w hle hs; refine forVals_nil (ORg.plain (OR.load T54 rfl rfl (hs.right.cellM (i := 2) rfl rfl) ?_)); exact ⟨_, [], Hp.le.refl _, hs, rfl, rfl⟩, ?_⟩
    refine ⟨MF.eq _, by intro Mx H w hle hs; refine forVals_eq rfl rfl rfl ?_; refine forVals_nil (ORg.plain (OR.nilCheck rfl ?_)); exact ⟨_, [], Hp.le.refl _, hs, rfl, rfl⟩, ?_⟩
    refine ⟨MF.eq _, by intro Mx H w hle hs; refine forVals_eq rfl rfl rfl ?_; refine forVals_nil (ORg.plain (OR.fieldAddr FA151_2 rfl ?_)); exact ⟨_, [], Hp.le.refl _, hs, rfl, rfl⟩, ?_⟩
    refine ⟨MF.eq _, by intro Mx H w hle hs; refine forVals_eq rfl rfl rfl ?_; refine forVals_nil (ORg.plain (OR.load T23 rfl rfl (hs.right.cellM (i := 0) rfl rfl) ?_)); exact ⟨_, [], Hp.le.refl _, hs, rfl, rfl⟩, ?_⟩
    refine ⟨MF.own w0.heap.size 5 1 st.length (st.map B), ?_, ?_⟩
    · intro Mx H w hle2 hs; (try replace hle := hle.trans hle2); (try replace hlb := hlb.trans hle2); refine forVals_eq rfl rfl rfl ?_
      refine forVals_nil (ORg.plain (OR.callX (Mx := []) hs body57 rfl rfl (clone_ok _ st _ _ hs.toSub (hst.mono hle) (by omega)) rfl rfl ?_))
      have hsz := hs.size
      clear hs; rintro v H1 M1 w hs hle1 hnew ⟨rfl, ho⟩
      exact ⟨_, M1, hle1, hs, ho.mono hsz⟩
    refine ⟨MF.eq _, by intro Mx H w hle hs; refine forVals_nil (ORg.plain (OR.load T23 rfl rfl (hs.right.cellM (i := 1) rfl rfl) ?_)); exact ⟨_, [], Hp.le.refl _, hs, rfl, rfl⟩, ?_⟩
    intro H w hle2; (try replace hle := hle.trans hle2); (try replace hlb := hlb.trans hle2)
    refine forAllVals_eq rfl ?_
    refine forAllVals_eq rfl ?_
    refine forAllVals_eq rfl ?_
    refine forAllVals_eq rfl ?_
    refine forAllVals_cons rfl ?_; intro v4 M4 h4
    refine forAllVals_eq rfl ?_
    refine forAllVals_nil ?_; (try clear hs); intro hs
    refine WO.step rfl (OR.append (m := l.length) (news := l.map B) hs h4 T23.und T5 rfl (by omega) rfl rfl (by simp) (Sl.src (hl.mono hle) hs) (Sl.src0 hl) (bytes_one l) (by omega) (by omega) ?_)
    clear hs; intro vl w Mo hs ho hge
    obtain ⟨H3, hle3, hs, hsl3, _⟩ := HS.pub hs ho
    replace hle := hle.trans hle3
    have hlong : Bytes H3 vl (st ++ l) := by unfold Bytes; rw [hlen2, List.map_append]; exact hsl3
    obtain ⟨b6, c6, rfl⟩ := hlong.form
    clear ho hsl3 hle3
    have hlb := Hp.le.refl H3
    obtain ⟨HB, hHB⟩ : ∃ X, X = H3 := ⟨_, rfl⟩
    subst hHB
    have hcu1 := hcu.mono hle
    refine WO.step rfl (OR.assign rfl (WO.done (WX.seq (WC.seq ?_))))
    refine WC.draw 20 mixed hs (by kernel_rfl) ?_
    refine ⟨MF.eq _, by intro Mx H w hle hs; refine forVals_nil (ORg.plain (OR.move rfl ?_)); exact ⟨_, [], Hp.le.refl _, hs, rfl, rfl⟩, ?_⟩
    refine ⟨MF.eq _, by intro Mx H w hle hs; refine forVals_nil (ORg.plain (OR.load T54 rfl rfl (hs.right.cellM (i := 2) rfl rfl) ?_)); exact ⟨_, [], Hp.le.refl _, hs, rfl, rfl⟩, ?_⟩
    refine ⟨MF.eq _, by intro Mx H w hle hs; refine forVals_eq rfl rfl rfl ?_; refine forVals_nil (ORg.plain (OR.nilCheck rfl ?_)); exact ⟨_, [], Hp.le.refl _, hs, rfl, rfl⟩, ?_⟩
    refine ⟨MF.eq _, by intro Mx H w hle hs; refine forVals_eq rfl rfl rfl ?_; refine forVals_nil (ORg.plain (OR.fieldAddr FA151_3 rfl ?_)); exact ⟨_, [], Hp.le.refl _, hs, rfl, rfl⟩, ?_⟩
    refine ⟨MF.eq _, by intro Mx H w hle hs; refine forVals_eq rfl rfl rfl ?_; refine forVals_nil (ORg.plain (OR.load T87 rfl rfl (hs.right.cellM (i := 0) rfl rfl) ?_)); exact ⟨_, [], Hp.le.refl _, hs, rfl, rfl⟩, ?_⟩
    refine ⟨MF.eq _, by intro Mx H w hle hs; refine forVals_nil (ORg.plain (OR.load T54 rfl rfl (hs.right.cellM (i := 2) rfl rfl) ?_)); exact ⟨_, [], Hp.le.refl _, hs, rfl, rfl⟩, ?_⟩
    refine ⟨MF.eq _, by intro Mx H w hle hs; refine forVals_eq rfl rfl rfl ?_; refine forVals_nil (ORg.plain (OR.nilCheck rfl ?_)); exact ⟨_, [], Hp.le.refl _, hs, rfl, rfl⟩, ?_⟩
    refine ⟨MF.eq _, by intro Mx H w hle hs; refine forVals_eq rfl rfl rfl ?_; refine forVals_nil (ORg.plain (OR.fieldAddr FA151_0 rfl ?_)); exact ⟨_, [], Hp.le.refl _, hs, rfl, rfl⟩, ?_⟩
    refine ⟨MF.eq _, by intro Mx H w hle hs; refine forVals_eq rfl rfl rfl ?_; refine forVals_nil (ORg.plain (OR.load T3 rfl rfl (hs.right.cellM (i := 0) rfl rfl) ?_)); exact ⟨_, [], Hp.le.refl _, hs, rfl, rfl⟩, ?_⟩
    refine ⟨MF.eq _, by intro Mx H w hle hs; refine forVals_nil (ORg.plain (OR.load T54 rfl rfl (hs.right.cellM (i := 2) rfl rfl) ?_)); exact ⟨_, [], Hp.le.refl _, hs, rfl, rfl⟩, ?_⟩
    refine ⟨MF.eq _, by intro Mx H w hle hs; refine forVals_eq rfl rfl rfl ?_; refine forVals_nil (ORg.plain (OR.nilCheck rfl ?_)); exact ⟨_, [], Hp.le.refl _, hs, rfl, rfl⟩, ?_⟩
    refine ⟨MF.eq _, by intro Mx H w hle hs; refine forVals_eq rfl rfl rfl ?_; refine forVals_nil (ORg.plain (OR.fieldAddr FA151_1 rfl ?_)); exact ⟨_, [], Hp.le.refl _, hs, rfl, rfl⟩, ?_⟩
    refine ⟨MF.eq _, by intro Mx H w hle hs; refine forVals_eq rfl rfl rfl ?_; refine forVals_nil (ORg.plain (OR.load T3 rfl rfl (hs.right.cellM (i := 0) rfl rfl) ?_)); exact ⟨_, [], Hp.le.refl _, hs, rfl, rfl⟩, ?_⟩
    refine ⟨MF.tup3 LD.chunks LD.opn 0, ?_, ?_⟩
    · intro Mx H w hle2 hs; (try replace hle := hle.trans hle2); (try replace hlb := hlb.trans hle2); refine forVals_eq rfl rfl rfl ?_; refine forVals_eq rfl rfl rfl ?_; refine forVals_eq rfl rfl rfl ?_; refine forVals_eq rfl rfl rfl ?_
      refine forVals_nil (ORg.plain (OR.call hs body98 rfl rfl (chunks_ok g s _ _ (st ++ l) cuts _ _ hs.toSub hgs' (hlong.mono hlb) (hcu1.mono hlb) (by omega) (by omega)) ?_))
      clear hs; rintro _ H w hs hle1 ⟨r1, r2, rfl, hr1, hr2⟩
      exact ⟨_, [], hle1, hs, ⟨_, _, by rw [if_pos hc2], by rw [hLch]; rw [if_pos hc2] at hr1; exact hr1, by rw [hLop]; rw [if_pos hc2] at hr2; exact hr2⟩, rfl⟩
    refine ⟨MF.tup3 LD.chunks LD.opn 0, ?_, ?_⟩
    · intro Mx H w hle2 hs; (try replace hle := hle.trans hle2); (try replace hlb := hlb.trans hle2); refine forVals_of rfl rfl rfl ?_; intro v13 h13
      obtain ⟨r1, r2, rfl, hr1, hr2⟩ := h13
      refine forVals_nil (ORg.plain (OR.move rfl ?_))
      exact ⟨_, [], Hp.le.refl _, hs, ⟨_, _, rfl, hr1, hr2⟩, rfl⟩
    refine ⟨MF.bytesL LD.chunks, ?_, ?_⟩
    · intro Mx H w hle2 hs; (try replace hle := hle.trans hle2); (try replace hlb := hlb.trans hle2); refine forVals_of rfl rfl rfl ?_; intro v14 h14
      obtain ⟨r1, r2, rfl, hr1, hr2⟩ := h14
      refine forVals_nil (ORg.plain (OR.extract rfl rfl ?_))
      exact ⟨_, [], Hp.le.refl _, hs, hr1, rfl⟩
    refine ⟨MF.bytes LD.opn, ?_, ?_⟩
    · intro Mx H w hle2 hs; (try replace hle := hle.trans hle2); (try replace hlb := hlb.trans hle2); refine forVals_of rfl rfl rfl ?_; intro v14 h14
      obtain ⟨r1, r2, rfl, hr1, hr2⟩ := h14
      refine forVals_nil (ORg.plain (OR.extract rfl rfl ?_))
      exact ⟨_, [], Hp.le.refl _, hs, hr2, rfl⟩
    refine ⟨MF.eq (.int .i64 0), ?_, ?_⟩
    · intro Mx H w hle2 hs; (try replace hle := hle.trans hle2); (try replace hlb := hlb.trans hle2); refine forVals_of rfl rfl rfl ?_; intro v14 h14
      obtain ⟨r1, r2, rfl, hr1, hr2⟩ := h14
      refine forVals_nil (ORg.plain (OR.extract rfl rfl ?_))
      exact ⟨_, [], Hp.le.refl _, hs, rfl, rfl⟩
    refine ⟨MF.bytesL LD.chunks, ?_, ?_⟩
    · intro Mx H w hle2 hs; (try replace hle := hle.trans hle2); (try replace hlb := hlb.trans hle2); refine forVals_of rfl rfl rfl ?_; intro v15 h15
      refine forVals_nil (ORg.plain (OR.assign rfl ?_))
      exact ⟨_, [], Hp.le.refl _, hs, h15, rfl⟩
    refine ⟨MF.bytes LD.opn, ?_, ?_⟩
    · intro Mx H w hle2 hs; (try replace hle := hle.trans hle2); (try replace hlb := hlb.trans hle2); refine forVals_of rfl rfl rfl ?_; intro v16 h16
      refine forVals_nil (ORg.plain (OR.assign rfl ?_))
      exact ⟨_, [], Hp.le.refl _, hs, h16, rfl⟩
    intro H w hle2; (try replace hle := hle.trans hle2); (try replace hlb := hlb.trans hle2)
    refine forAllVals_eq rfl ?_
    refine forAllVals_eq rfl ?_
    refine forAllVals_eq rfl ?_
    refine forAllVals_eq rfl ?_
    refine forAllVals_eq rfl ?_
    refine forAllVals_eq rfl ?_
    refine forAllVals_eq rfl ?_
    refine forAllVals_eq rfl ?_
    refine forAllVals_eq rfl ?_
    refine forAllVals_eq rfl ?_
    refine forAllVals_eq rfl ?_
    refine forAllVals_eq rfl ?_
    refine forAllVals_eq rfl ?_
    refine forAllVals_of rfl ?_; intro v13 h13
    refine forAllVals_of rfl ?_; intro v14 h14
    refine forAllVals_of rfl ?_; intro v15 h15
    refine forAllVals_of rfl ?_; intro v16 h16
    refine forAllVals_eq rfl ?_
    refine forAllVals_of rfl ?_; intro v18 h18
    refine forAllVals_of rfl ?_; intro v19 h19
    refine forAllVals_nil ?_; (try clear hs); intro hs
    obtain ⟨b7, c7, rfl⟩ := h18.form
    obtain ⟨b8, c8, rfl⟩ := h19.form
    refine WO.step rfl (OR.assign rfl (WO.done (WX.seq (WC.seq (WC.region (WO.step rfl (OR.move rfl ?_)))))))
    refine WO.step rfl (OR.lenSlice T22.und rfl ?_)
    refine WO.step rfl (OR.convI T3.und T58.und rfl ?_)
    rw [u64_wrap _ (by omega)]
    refine WO.step rfl (OR.assign rfl (WO.done (WX.seq (WC.seq (WC.seq (WC.region (WO.step rfl ?_)))))))
    refine OR.move rfl (WO.step rfl (OR.lenSlice T23.und rfl (WO.step rfl (OR.gtr rfl rfl (WO.done (WX.seq ?_))))))
    refine WC.joinK (ι := Unit) (fun ix => [(0, ptr gb), (1, ptr gx), (2, ptr gm), (4, .slice b6 (st ++ l).length c6), (8, .int .u64 (needs LD : Int))]) (fun ix w => (HS [b] H0 w0 H [(b, srcObj g s (.slice b1 st.length c1) (.slice b2 cuts.length c2) cl (.slice b3 chunks.length c3) (.slice b4 opn.length c4), true), (gb, .cells #[.slice b5 l.length c5] 23, false), (gx, .cells #[ptr b] 54, false), (gm, .cells #[.int .u64 (most : Int)] 58, false)] w)) ?_ (fun ix w hW => ?_)
    · refine WC.condD rfl (fun hopn => ?_) (fun hopn => ?_)
      · refine WC.region (WO.step rfl (OR.move rfl ?_))
        refine WO.step rfl (OR.add rfl rfl ?_)
        have hne : ¬ LD.opn = [] := fun e => by rw [e] at hopn; exact absurd hopn (by decide)
        have hnd : IntKind.u64.wrap ((LD.chunks.length : Int) + 1) = (needs LD : Int) := by
          have := u64_wrap (LD.chunks.length + 1) (by omega)
          rw [needs, if_neg hne, ← this]; rfl
        rw [hnd]
        refine WO.step rfl (OR.assign rfl (WO.done ?_))
        refine WX.arrive (()) ⟨rfl, rfl, rfl, rfl, rfl,  trivial⟩ ?_
        · exact hs
      · have he : LD.opn = [] := List.eq_nil_of_length_eq_zero (by omega)
        have hnd : (LD.chunks.length : Int) = (needs LD : Int) := by rw [needs, if_pos he, Nat.add_zero]
        rw [hnd]
        refine WC.skip ?_
        refine WX.arrive (()) ⟨rfl, rfl, rfl, rfl, rfl,  trivial⟩ ?_
        · exact hs
    · clear hs
      have hs := hW
      clear hW
      refine WC.seq (WC.seq (WC.region (WO.step rfl (OR.move rfl (WO.step rfl (OR.load T58 rfl rfl (hs.cellM (i := 3) rfl rfl) (WO.step rfl ?_)))))))
      refine OR.gtr rfl rfl (WO.done (WX.seq ?_))
      refine WC.condD rfl (fun hmost => ?_) (fun hmost => ?_)
      · have hnf : ¬ subFits ⟨g, s, st, cuts, cl, chunks, opn⟩ l most := fun h => by have := hsub.1 h; omega
        refine WC.seq (WC.region (WO.step rfl (OR.assign rfl (WO.done (WX.seq (WC.ret (WX.seq_ret ?_)))))))
        refine WX.ret1 rfl rfl ?_
        refine ⟨_, _, _, rfl, ((hs.drop 1).drop 1).drop 1, by simp [dropAt], by rw [if_neg hnf], _, rfl, ?_⟩
        rw [if_neg hnf]
        exact ⟨_, _, _, _, rfl, hst.mono hle, hcu.mono hle, hch.mono hle, hop.mono hle⟩
      · have hf : subFits ⟨g, s, st, cuts, cl, chunks, opn⟩ l most := hsub.2 (by omega)
        refine WC.skip (WX.seq (WC.seq ?_))
        refine WC.draw 6 mixed hs (by kernel_rfl) ?_
        refine ⟨MF.eq _, by intro Mx H w hle hs; refine forVals_nil (ORg.plain (OR.load T54 rfl rfl (hs.right.cellM (i := 2) rfl rfl) ?_)); exact ⟨_, [], Hp.le.refl _, hs, rfl, rfl⟩, ?_⟩
        refine ⟨MF.eq _, by intro Mx H w hle hs; refine forVals_nil (ORg.plain (OR.move rfl ?_)); exact ⟨_, [], Hp.le.refl _, hs, rfl, rfl⟩, ?_⟩
        refine ⟨MF.eq _, by intro Mx H w hle hs; refine forVals_nil (ORg.plain (OR.load T54 rfl rfl (hs.right.cellM (i := 2) rfl rfl) ?_)); exact ⟨_, [], Hp.le.refl _, hs, rfl, rfl⟩, ?_⟩
        refine ⟨MF.eq _, by intro Mx H w hle hs; refine forVals_eq rfl rfl rfl ?_; refine forVals_nil (ORg.plain (OR.nilCheck rfl ?_)); exact ⟨_, [], Hp.le.refl _, hs, rfl, rfl⟩, ?_⟩
        refine ⟨MF.eq _, by intro Mx H w hle hs; refine forVals_eq rfl rfl rfl ?_; refine forVals_nil (ORg.plain (OR.fieldAddr FA151_3 rfl ?_)); exact ⟨_, [], Hp.le.refl _, hs, rfl, rfl⟩, ?_⟩
        refine ⟨MF.eq _, by intro Mx H w hle hs; refine forVals_eq rfl rfl rfl ?_; refine forVals_nil (ORg.plain (OR.load T87 rfl rfl (hs.right.cellM (i := 0) rfl rfl) ?_)); exact ⟨_, [], Hp.le.refl _, hs, rfl, rfl⟩, ?_⟩
        intro H w hle2; (try replace hle := hle.trans hle2); (try replace hlb := hlb.trans hle2)
        refine forAllVals_eq rfl ?_
        refine forAllVals_eq rfl ?_
        refine forAllVals_eq rfl ?_
        refine forAllVals_eq rfl ?_
        refine forAllVals_eq rfl ?_
        refine forAllVals_eq rfl ?_
        refine forAllVals_nil ?_; (try clear hs); intro hs
        refine WO.step rfl (OR.callX (Mx := [(b, _, true)]) hs body99 rfl rfl (set_ok b g s _ _ _ _ _ _ cl (st ++ l) cuts _ _ hs.toSub (hs.blk (i := 0) rfl) (hs.mem b _ true (List.mem_cons_self ..)).2.1 hgs (hlong.mono hlb) (hcu.mono hle) (by omega) (by omega)) rfl rfl ?_)
        clear hs; rintro _ H4 M' w hs hle1 hnew hres; replace hle := hle.trans hle1; (try replace hlb := hlb.trans hle1)
        rw [if_pos hc2] at hres
        obtain ⟨rfl, o', rfl, hsrc⟩ := hres
        refine WO.step rfl (OR.assign rfl (WO.done (WX.seq (WC.ret ?_))))
        refine WX.ret1 rfl rfl ?_
        refine ⟨_, H4, _, rfl, ((hs.drop 1).drop 1).drop 1, by simp [dropAt], by rw [if_pos hf], _, rfl, ?_⟩
        rw [if_pos hf]
        exact hsrc

end Go.Bw
