/- A source: Submit, Flush, Close as a whole. -/
import Derived.Test.YtbgdgmilcojlbaaSrc3
namespace Go.Bw
set_option linter.unusedVariables false
set_option linter.unusedSimpArgs false
open Go.Proofs

def subE (x : SrcD) (l : List UInt8) (most : Nat) : Int := if x.cl = true then 27 else if subFits x l most then 0 else 7
def subD (x : SrcD) (l : List UInt8) (most : Nat) : SrcD := if x.cl = true then x else if subFits x l most then longD x l else x

abbrev madeV (p : Value) : Value := .func (.func 95) #[p] #[]
abbrev freeV (p : Value) : Value := .func (.func 96) #[p] #[]
abbrev cutV (p : Value) : Value := .func (.func 100) #[p] #[]
/-- No source: the first question says so. -/
theorem first_nil (rest : List Value) (gb cap k : Nat) (hk : k = rest.length + 1) (H : Hp) (w : World) (h0 : Sub H w) (hb : w.heap[gb]? = some (.cells (madeV (.pointer none) :: rest).toArray 59)) (hl : k ≤ 1000) :
    Calls Try.prog 94 #[.slice (some ⟨gb, 0, none⟩) k cap] w (Pure H w fun v _ => v = .int .i64 2) := by
  subst hk
  refine (first_ok (madeV (.pointer none) :: rest) gb cap (fun i w' => i = 0 ∧ w' = w) (fun er w' => er = 2 ∧ ∃ H', HS [] H w H' [] w') w ⟨rfl, rfl⟩ (by simpa using hl) ?_ ?_ ?_).mono ?_
  · rintro i w' ⟨rfl, rfl⟩ h
    simp [World.cell?, hb]
  · rintro i h w' ⟨rfl, rfl⟩
    refine ⟨_, [.pointer none], [], rfl, body95, (smade_nil H w' h0).mono fun e w2 hp => ?_⟩
    obtain ⟨v, H', M', rfl, hs, _, rfl, rfl⟩ := hp
    exact ⟨2, rfl, .inr ⟨by decide, rfl, H', hs⟩⟩
  · rintro w' ⟨h, _⟩
    simp at h
  · rintro e w' ⟨er, rfl, rfl, H', hs⟩
    exact .mk hs rfl
set_option maxRecDepth 20000 in
set_option maxHeartbeats 2000000 in
theorem ssub_nil (b5 : Option Addr) (n5 c5 : Nat) (most : Int) (H0 : Hp) (w0 : World) (h0 : Sub H0 w0) :
    Calls Try.prog 29 #[.pointer none, .slice b5 n5 c5, .int .u64 most] w0 (Pure H0 w0 fun v _ => v = .int .i64 2) := by
  have hs := HS.init h0
  have hle := Hp.le.refl H0
  refine Calls.enter (args := [.pointer none, .slice b5 n5 c5, .int .u64 most]) Try.func29 rfl Try.ntmps29 rfl ?_
  refine WC.seq (WC.region (WO.step rfl (OR.box hs rfl ?_)))
  clear hs; intro g1 w hg1 hs
  refine WO.step rfl (OR.box hs rfl ?_)
  clear hs; intro g2 w hg2 hs
  refine WO.step rfl (OR.box hs rfl ?_)
  clear hs; intro g3 w hg3 hs
  refine WO.step rfl (OR.assign rfl (WO.done (WX.seq (WC.seq (WC.region (WO.step rfl (OR.load T54 rfl rfl (hs.cellM (i := 2) rfl rfl) ?_)))))))
  refine WO.step rfl (OR.makeFunc rfl rfl (WO.step rfl (OR.load T54 rfl rfl (hs.cellM (i := 2) rfl rfl) (WO.step rfl (OR.makeFunc rfl rfl (WO.step rfl (OR.makeFunc rfl rfl ?_)))))))
  refine WO.step rfl (OR.buildSlice (vs := [_, _, _]) hs T219.und T59 rfl rfl rfl rfl (by simp) ?_)
  clear hs; intro g4 w hg4 hs
  refine WO.step rfl (OR.call hs body94 rfl rfl (first_nil [_, _] g4 3 3 rfl _ _ hs.toSub (hs.blk (i := 0) rfl) (by omega)) ?_)
  clear hs; rintro _ H w hs hle1 rfl; replace hle := hle.trans hle1; (try replace hlb := hlb.trans hle1)
  refine WO.step rfl (OR.assign rfl (WO.done (WX.seq (WC.ret ?_))))
  refine WX.ret1 rfl rfl ?_
  exact .mk hs rfl
set_option maxRecDepth 20000 in
set_option maxHeartbeats 2000000 in
theorem sflush_nil (H0 : Hp) (w0 : World) (h0 : Sub H0 w0) : Calls Try.prog 30 #[.pointer none] w0 (Pure H0 w0 fun v _ => v = .int .i64 2) := by
  have hs := HS.init h0
  have hle := Hp.le.refl H0
  refine Calls.enter (args := [.pointer none]) Try.func30 rfl Try.ntmps30 rfl ?_
  refine WC.seq (WC.region (WO.step rfl (OR.assign rfl (WO.done (WX.seq (WC.seq (WC.region ?_)))))))
  refine WO.step rfl (OR.move rfl (WO.step rfl (OR.makeFunc rfl rfl (WO.step rfl (OR.move rfl (WO.step rfl (OR.makeFunc rfl rfl ?_)))))))
  refine WO.step rfl (OR.move rfl (WO.step rfl (OR.makeFunc rfl rfl ?_)))
  refine WO.step rfl (OR.buildSlice (vs := [_, _, _]) hs T219.und T59 rfl rfl rfl rfl (by simp) ?_)
  clear hs; intro g4 w hg4 hs
  refine WO.step rfl (OR.call hs body94 rfl rfl (first_nil [_, _] g4 3 3 rfl _ _ hs.toSub (hs.blk (i := 0) rfl) (by omega)) ?_)
  clear hs; rintro _ H w hs hle1 rfl; replace hle := hle.trans hle1; (try replace hlb := hlb.trans hle1)
  refine WO.step rfl (OR.assign rfl (WO.done (WX.seq (WC.ret ?_))))
  refine WX.ret1 rfl rfl ?_
  exact .mk hs rfl
set_option maxRecDepth 20000 in
set_option maxHeartbeats 2000000 in
theorem sclose_nil (H0 : Hp) (w0 : World) (h0 : Sub H0 w0) : Calls Try.prog 49 #[.pointer none] w0 (Pure H0 w0 fun v _ => v = .int .i64 2) := by
  have hs := HS.init h0
  have hle := Hp.le.refl H0
  refine Calls.enter (args := [.pointer none]) Try.func49 rfl Try.ntmps49 rfl ?_
  refine WC.seq (WC.region (WO.step rfl (OR.box hs rfl ?_)))
  clear hs; intro g1 w hg1 hs
  refine WO.step rfl (OR.assign rfl (WO.done (WX.seq (WC.seq (WC.region (WO.step rfl (OR.load T54 rfl rfl (hs.cellM (i := 0) rfl rfl) ?_)))))))
  refine WO.step rfl (OR.makeFunc rfl rfl (WO.step rfl (OR.load T54 rfl rfl (hs.cellM (i := 0) rfl rfl) (WO.step rfl (OR.makeFunc rfl rfl (WO.step rfl (OR.load T54 rfl rfl (hs.cellM (i := 0) rfl rfl) ?_)))))))
  refine WO.step rfl (OR.makeFunc rfl rfl (WO.step rfl (OR.makeFunc rfl rfl ?_)))
  refine WO.step rfl (OR.buildSlice (vs := [_, _, _, _]) hs T219.und T59 rfl rfl rfl rfl (by simp) ?_)
  clear hs; intro g4 w hg4 hs
  refine WO.step rfl (OR.call hs body94 rfl rfl (first_nil [_, _, _] g4 4 4 rfl _ _ hs.toSub (hs.blk (i := 0) rfl) (by omega)) ?_)
  clear hs; rintro _ H w hs hle1 rfl; replace hle := hle.trans hle1; (try replace hlb := hlb.trans hle1)
  refine WO.step rfl (OR.assign rfl (WO.done (WX.seq (WC.ret ?_))))
  refine WX.ret1 rfl rfl ?_
  exact .mk hs rfl

set_option maxRecDepth 20000 in
set_option maxHeartbeats 2000000 in
theorem submit_ok (b : Nat) (x : SrcD) (o : Obj) (bv : Value) (l : List UInt8) (most : Nat) (H0 : Hp) (w0 : World) (h0 : Sub H0 w0) (hb : w0.heap[b]? = some o) (hn : H0 b = none)
    (hx : SrcIn H0 x o) (hok : SrcOk x) (hl : Bytes H0 bv l) (hll : l.length ≤ 9223372036854775807) (hcl : x.cuts.length ≤ 1000000000) :
    Calls Try.prog 29 #[ptr b, bv, .int .u64 (most : Int)] w0 (Ret [b] H0 w0 fun v H' M' => v = .int .i64 (subE x l most) ∧ ∃ o', M' = [(b, o', true)] ∧ SrcIn H' (subD x l most) o') := by
  have hs := HS.start1 h0 hb hn
  have hle := Hp.le.refl H0
  have hx0 := hx
  have hgp : 0 < x.g := by have := hok.gs.1; omega
  obtain ⟨vs, vc, vch, vop, ho, _⟩ := hx0
  obtain ⟨b5, c5, rfl⟩ := hl.form
  refine Calls.enter (args := [ptr b, .slice b5 l.length c5, .int .u64 (most : Int)]) Try.func29 rfl Try.ntmps29 rfl ?_
  refine WC.seq (WC.region (WO.step rfl (OR.box hs rfl ?_)))
  clear hs; intro g1 w hg1 hs
  refine WO.step rfl (OR.box hs rfl ?_)
  clear hs; intro g2 w hg2 hs
  refine WO.step rfl (OR.box hs rfl ?_)
  clear hs; intro g3 w hg3 hs
  refine WO.step rfl (OR.assign rfl (WO.done (WX.seq (WC.seq (WC.region (WO.step rfl (OR.load T54 rfl rfl (hs.cellM (i := 2) rfl rfl) ?_)))))))
  refine WO.step rfl (OR.makeFunc rfl rfl (WO.step rfl (OR.load T54 rfl rfl (hs.cellM (i := 2) rfl rfl) (WO.step rfl (OR.makeFunc rfl rfl (WO.step rfl (OR.makeFunc rfl rfl ?_)))))))
  refine WO.step rfl (OR.buildSlice (vs := [_, _, _]) hs T219.und T59 rfl rfl rfl rfl (by simp) ?_)
  clear hs; intro g4 w hg4 hs
  refine WO.step rfl (OR.callW body94 rfl rfl (first_ok [.func (.func 95) #[ptr b] #[], .func (.func 96) #[ptr b] #[], .func (.func 97) #[] #[ptr g2, ptr g1, ptr g3]] g4 3 (fun i w => (i ≤ 2 ∧ (i = 2 → x.cl = false) ∧ ∃ H, Hp.le H0 H ∧ HS [b] H0 w0 H [(g4, .cells #[.func (.func 95) #[ptr b] #[], .func (.func 96) #[ptr b] #[], .func (.func 97) #[] #[ptr g2, ptr g1, ptr g3]] 59, true), (g3, .cells #[.int .u64 (most : Int)] 58, true), (g2, .cells #[.slice b5 l.length c5] 23, true), (g1, .cells #[ptr b] 54, true), (b, o, true)] w) ∨ (i = 3 ∧ subE x l most = 0 ∧ ∃ H o', HS [b] H0 w0 H [(b, o', true)] w ∧ SrcIn H (subD x l most) o')) (fun er w => er = subE x l most ∧ ∃ H o', HS [b] H0 w0 H [(b, o', true)] w ∧ SrcIn H (subD x l most) o') _ (.inl ⟨by omega, (fun h => by cases h), H0, hle, hs⟩) (by simp) ?_ ?_ ?_) ?_)
  · rintro i w (⟨hi, _, H, _, hs⟩ | ⟨rfl, _⟩) h
    · match i, hi with
      | 0, _ => exact hs.cellM (i := 0) rfl rfl
      | 1, _ => exact hs.cellM (i := 0) rfl rfl
      | 2, _ => exact hs.cellM (i := 0) rfl rfl
    · simp at h
  · rintro i h w (⟨hi, hc2, H, hle, hs⟩ | ⟨rfl, _⟩)
    · match i, hi with
      | 0, _ =>
        refine ⟨_, [ptr b], [], rfl, body95, (smade_ok b x.g x.s vs vc vch vop x.cl _ _ hs.toSub (by rw [← ho]; exact hs.blk (i := 4) rfl) (hs.mem b o true (by simp)).2.1 hgp).mono fun e w' hp => ?_⟩
        obtain ⟨v, H', rfl, hs', hle', rfl⟩ := hp.step hs
        exact ⟨0, rfl, .inl ⟨rfl, .inl ⟨by omega, (fun h => by cases h), H', hle.trans hle', hs'⟩⟩⟩
      | 1, _ =>
        refine ⟨_, [ptr b], [], rfl, body96, (sfree_ok b x.g x.s vs vc vch vop x.cl _ _ hs.toSub (by rw [← ho]; exact hs.blk (i := 4) rfl) (hs.mem b o true (by simp)).2.1).mono fun e w' hp => ?_⟩
        obtain ⟨v, H', rfl, hs', hle', rfl⟩ := hp.step hs
        by_cases hc : x.cl = true
        · exact ⟨27, by rw [if_pos hc], .inr ⟨by decide, by rw [subE, if_pos hc], H', o, (((hs'.drop 0).drop 0).drop 0).drop 0, by rw [subD, if_pos hc]; exact hx.mono (hle.trans hle')⟩⟩
        · exact ⟨0, by rw [if_neg hc], .inl ⟨rfl, .inl ⟨by omega, (fun _ => by simpa using hc), H', hle.trans hle', hs'⟩⟩⟩
      | 2, _ =>
        have hc := hc2 rfl
        have hs3 : HS [b] H0 w0 H ([(b, o, true)] ++ [(g2, .cells #[.slice b5 l.length c5] 23, true), (g1, .cells #[ptr b] 54, true), (g3, .cells #[.int .u64 (most : Int)] 58, true)]) w := ((((hs.drop 0).front (i := 0) rfl).front (i := 2) rfl).front (i := 2) rfl).front (i := 3) rfl
        refine ⟨_, [], [ptr g2, ptr g1, ptr g3], rfl, body97, (submit1_ok b g2 g1 g3 x o _ l most H w (hs3.begin [true, false, false, false]) (hx.mono hle) hok (hl.mono hle) hll hcl).mono fun e w' hp => ?_⟩
        obtain ⟨v, H', M', rfl, hs', hle', rfl, o', rfl, hsrc⟩ := hp.step hs3 rfl rfl
        have hE : subE x l most = if subFits x l most then 0 else 7 := by rw [subE, if_neg (by rw [hc]; decide)]
        have hD : subD x l most = if subFits x l most then longD x l else x := by rw [subD, if_neg (by rw [hc]; decide)]
        rw [← hD] at hsrc
        rw [← hE]
        have hs4 : HS [b] H0 w0 H' [(b, o', true)] w' := ((hs'.drop 1).drop 1).drop 1
        by_cases hz : subE x l most = 0
        · exact ⟨_, rfl, .inl ⟨hz, .inr ⟨rfl, hz, H', o', hs4, hsrc⟩⟩⟩
        · exact ⟨_, rfl, .inr ⟨hz, rfl, H', o', hs4, hsrc⟩⟩
    · simp at h
  · rintro w (⟨h, _⟩ | ⟨_, hz, H, o', hs, hsrc⟩)
    · simp at h
    · exact ⟨hz.symm, H, o', hs, hsrc⟩
  rintro e w ⟨er, rfl, rfl, H, o', hs, hsrc⟩
  refine ⟨_, rfl, ?_⟩
  refine WO.step rfl (OR.assign rfl (WO.done (WX.seq (WC.ret ?_))))
  refine WX.ret1 rfl rfl ?_
  exact ⟨_, H, _, rfl, hs, by simp, rfl, o', rfl, hsrc⟩


def flushD (x : SrcD) : SrcD := if x.cl = true then x else cutD x
def closeD (x : SrcD) : SrcD := if x.cl = true then x else { cutD x with cl := true }
set_option maxRecDepth 20000 in
set_option maxHeartbeats 2000000 in
theorem close1_ok (b gx : Nat) (x : SrcD) (o : Obj) (H0 : Hp) (w0 : World) (hs : HS [b] H0 w0 H0 [(b, o, true), (gx, .cells #[ptr b] 54, false)] w0) (hx : SrcIn H0 x o) :
    Calls Try.prog 116 #[ptr gx] w0 (Ret [b] H0 w0 fun v H' M' => v = .int .i64 0 ∧ ∃ o', M' = [(b, o', true)] ∧ SrcIn H' { x with cl := true } o') := by
  have hle := Hp.le.refl H0
  obtain ⟨vs, vc, vch, vop, rfl, h1, h2, h3, h4⟩ := hx
  refine Calls.enter (args := [ptr gx]) Try.func116 rfl Try.ntmps116 rfl ?_
  refine WC.seq (WC.region (WO.step rfl (OR.assign rfl (WO.done (WX.seq (WC.seq (WC.region ?_)))))))
  refine WO.step rfl (OR.load T54 rfl rfl (hs.cellM (i := 1) rfl rfl) (WO.step rfl (OR.nilCheck rfl (WO.step rfl (OR.fieldAddr FA151_4 rfl (WO.stepN (OR.store hs T4 rfl rfl rfl (Nat.le_of_ble_eq_true rfl) rfl ?_)))))))
  clear hs; intro w hs
  refine WO.done (WX.seq (WC.seq (WC.region (WO.step rfl (OR.assign rfl (WO.done (WX.seq ?_)))))))
  refine WC.ret ?_
  refine WX.ret1 rfl rfl ?_
  exact ⟨_, H0, _, rfl, hs.drop 1, by simp [dropAt], rfl, _, rfl, _, _, _, _, rfl, h1, h2, h3, h4⟩

set_option maxRecDepth 20000 in
set_option maxHeartbeats 2000000 in
theorem flush_ok (b : Nat) (x : SrcD) (o : Obj) (H0 : Hp) (w0 : World) (h0 : Sub H0 w0) (hb : w0.heap[b]? = some o) (hn : H0 b = none) (hx : SrcIn H0 x o) (hok : SrcOk x) (hcl : x.cuts.length ≤ 1000000000) :
    Calls Try.prog 30 #[ptr b] w0 (Ret [b] H0 w0 fun v H' M' => v = .int .i64 (if x.cl = true then 27 else 0) ∧ ∃ o', M' = [(b, o', true)] ∧ SrcIn H' (flushD x) o') := by
  have hs := HS.start1 h0 hb hn
  have hle := Hp.le.refl H0
  have hx0 := hx
  have hgp : 0 < x.g := by have := hok.gs.1; omega
  have hlen := hok.len
  have hopl := hok.opl
  obtain ⟨vs, vc, vch, vop, ho, _⟩ := hx0
  refine Calls.enter (args := [ptr b]) Try.func30 rfl Try.ntmps30 rfl ?_
  refine WC.seq (WC.region (WO.step rfl (OR.assign rfl (WO.done (WX.seq (WC.seq (WC.region ?_)))))))
  refine WO.step rfl (OR.move rfl (WO.step rfl (OR.makeFunc rfl rfl (WO.step rfl (OR.move rfl (WO.step rfl (OR.makeFunc rfl rfl ?_)))))))
  refine WO.step rfl (OR.move rfl (WO.step rfl (OR.makeFunc rfl rfl ?_)))
  refine WO.step rfl (OR.buildSlice (vs := [_, _, _]) hs T219.und T59 rfl rfl rfl rfl (by simp) ?_)
  clear hs; intro g4 w hg4 hs
  refine WO.step rfl (OR.callW body94 rfl rfl (first_ok [madeV (ptr b), freeV (ptr b), cutV (ptr b)] g4 3 (fun i w => (i ≤ 2 ∧ (i = 2 → x.cl = false) ∧ ∃ H, Hp.le H0 H ∧ HS [b] H0 w0 H [(g4, .cells #[madeV (ptr b), freeV (ptr b), cutV (ptr b)] 59, true), (b, o, true)] w) ∨ (i = 3 ∧ x.cl = false ∧ ∃ H o', HS [b] H0 w0 H [(b, o', true)] w ∧ SrcIn H (flushD x) o')) (fun er w => er = (if x.cl = true then 27 else 0) ∧ ∃ H o', HS [b] H0 w0 H [(b, o', true)] w ∧ SrcIn H (flushD x) o') _ (.inl ⟨by omega, (fun h => by cases h), H0, hle, hs⟩) (by simp) ?_ ?_ ?_) ?_)
  · rintro i w (⟨hi, _, H, _, hs⟩ | ⟨rfl, _⟩) h
    · match i, hi with
      | 0, _ => exact hs.cellM (i := 0) rfl rfl
      | 1, _ => exact hs.cellM (i := 0) rfl rfl
      | 2, _ => exact hs.cellM (i := 0) rfl rfl
    · simp at h
  · rintro i h w (⟨hi, hc2, H, hle, hs⟩ | ⟨rfl, _⟩)
    · match i, hi with
      | 0, _ =>
        refine ⟨_, [ptr b], [], rfl, body95, (smade_ok b x.g x.s vs vc vch vop x.cl _ _ hs.toSub (by rw [← ho]; exact hs.blk (i := 1) rfl) (hs.mem b o true (by simp)).2.1 hgp).mono fun e w' hp => ?_⟩
        obtain ⟨v, H', rfl, hs', hle', rfl⟩ := hp.step hs
        exact ⟨0, rfl, .inl ⟨rfl, .inl ⟨by omega, (fun h => by cases h), H', hle.trans hle', hs'⟩⟩⟩
      | 1, _ =>
        refine ⟨_, [ptr b], [], rfl, body96, (sfree_ok b x.g x.s vs vc vch vop x.cl _ _ hs.toSub (by rw [← ho]; exact hs.blk (i := 1) rfl) (hs.mem b o true (by simp)).2.1).mono fun e w' hp => ?_⟩
        obtain ⟨v, H', rfl, hs', hle', rfl⟩ := hp.step hs
        by_cases hc : x.cl = true
        · exact ⟨27, by rw [if_pos hc], .inr ⟨by decide, by rw [if_pos hc], H', o, hs'.drop 0, by rw [flushD, if_pos hc]; exact hx.mono (hle.trans hle')⟩⟩
        · exact ⟨0, by rw [if_neg hc], .inl ⟨rfl, .inl ⟨by omega, (fun _ => by simpa using hc), H', hle.trans hle', hs'⟩⟩⟩
      | 2, _ =>
        have hc := hc2 rfl
        have hs3 : HS [b] H0 w0 H ([(b, o, true)] ++ []) w := hs.drop 0
        refine ⟨_, [ptr b], [], rfl, body100, (cut_ok b x o H w hs.toSub (hs.blk (i := 1) rfl) (hs.mem b o true (by simp)).2.1 (hx.mono hle) hok.gs hok.cuts (by omega) hcl (by omega)).mono fun e w' hp => ?_⟩
        obtain ⟨v, H', M', rfl, hs', hle', rfl, o', rfl, hsrc⟩ := hp.step hs3 rfl rfl
        have hD : flushD x = cutD x := by rw [flushD, if_neg (by rw [hc]; decide)]
        rw [← hD] at hsrc
        exact ⟨0, rfl, .inl ⟨rfl, .inr ⟨rfl, hc, H', o', hs', hsrc⟩⟩⟩
    · simp at h
  · rintro w (⟨h, _⟩ | ⟨_, hz, H, o', hs, hsrc⟩)
    · simp at h
    · exact ⟨by rw [if_neg (by rw [hz]; decide)], H, o', hs, hsrc⟩
  rintro e w ⟨er, rfl, rfl, H, o', hs, hsrc⟩
  refine ⟨_, rfl, ?_⟩
  refine WO.step rfl (OR.assign rfl (WO.done (WX.seq (WC.ret ?_))))
  refine WX.ret1 rfl rfl ?_
  exact ⟨_, H, _, rfl, hs, by simp, rfl, o', rfl, hsrc⟩

set_option maxRecDepth 20000 in
set_option maxHeartbeats 2000000 in
theorem close_ok (b : Nat) (x : SrcD) (o : Obj) (H0 : Hp) (w0 : World) (h0 : Sub H0 w0) (hb : w0.heap[b]? = some o) (hn : H0 b = none) (hx : SrcIn H0 x o) (hok : SrcOk x) (hcl : x.cuts.length ≤ 1000000000) :
    Calls Try.prog 49 #[ptr b] w0 (Ret [b] H0 w0 fun v H' M' => v = .int .i64 (if x.cl = true then 27 else 0) ∧ ∃ o', M' = [(b, o', true)] ∧ SrcIn H' (closeD x) o') := by
  have hs := HS.start1 h0 hb hn
  have hle := Hp.le.refl H0
  have hx0 := hx
  have hgp : 0 < x.g := by have := hok.gs.1; omega
  have hlen := hok.len
  have hopl := hok.opl
  obtain ⟨vs, vc, vch, vop, ho, _⟩ := hx0
  refine Calls.enter (args := [ptr b]) Try.func49 rfl Try.ntmps49 rfl ?_
  refine WC.seq (WC.region (WO.step rfl (OR.box hs rfl ?_)))
  clear hs; intro g1 w hg1 hs
  refine WO.step rfl (OR.assign rfl (WO.done (WX.seq (WC.seq (WC.region (WO.step rfl (OR.load T54 rfl rfl (hs.cellM (i := 0) rfl rfl) ?_)))))))
  refine WO.step rfl (OR.makeFunc rfl rfl (WO.step rfl (OR.load T54 rfl rfl (hs.cellM (i := 0) rfl rfl) (WO.step rfl (OR.makeFunc rfl rfl (WO.step rfl (OR.load T54 rfl rfl (hs.cellM (i := 0) rfl rfl) ?_)))))))
  refine WO.step rfl (OR.makeFunc rfl rfl (WO.step rfl (OR.makeFunc rfl rfl ?_)))
  refine WO.step rfl (OR.buildSlice (vs := [_, _, _, _]) hs T219.und T59 rfl rfl rfl rfl (by simp) ?_)
  clear hs; intro g4 w hg4 hs
  refine WO.step rfl (OR.callW body94 rfl rfl (first_ok [madeV (ptr b), freeV (ptr b), cutV (ptr b), .func (.func 116) #[] #[ptr g1]] g4 4 (fun i w => (i ≤ 2 ∧ (i = 2 → x.cl = false) ∧ ∃ H, Hp.le H0 H ∧ HS [b] H0 w0 H [(g4, .cells #[madeV (ptr b), freeV (ptr b), cutV (ptr b), .func (.func 116) #[] #[ptr g1]] 59, true), (g1, .cells #[ptr b] 54, true), (b, o, true)] w) ∨ (i = 3 ∧ x.cl = false ∧ ∃ H o', HS [b] H0 w0 H [(b, o', true), (g4, .cells #[madeV (ptr b), freeV (ptr b), cutV (ptr b), .func (.func 116) #[] #[ptr g1]] 59, true), (g1, .cells #[ptr b] 54, true)] w ∧ SrcIn H (cutD x) o') ∨ (i = 4 ∧ x.cl = false ∧ ∃ H o', HS [b] H0 w0 H [(b, o', true)] w ∧ SrcIn H (closeD x) o')) (fun er w => er = (if x.cl = true then 27 else 0) ∧ ∃ H o', HS [b] H0 w0 H [(b, o', true)] w ∧ SrcIn H (closeD x) o') _ (.inl ⟨by omega, (fun h => by cases h), H0, hle, hs⟩) (by simp) ?_ ?_ ?_) ?_)
  · rintro i w (⟨hi, _, H, _, hs⟩ | ⟨rfl, _, H, o', hs, _⟩ | ⟨rfl, _⟩) h
    · match i, hi with
      | 0, _ => exact hs.cellM (i := 0) rfl rfl
      | 1, _ => exact hs.cellM (i := 0) rfl rfl
      | 2, _ => exact hs.cellM (i := 0) rfl rfl
    · exact hs.cellM (i := 1) rfl rfl
    · simp at h
  · rintro i h w (⟨hi, hc2, H, hle, hs⟩ | ⟨rfl, hc, H, o', hs, hsrc⟩ | ⟨rfl, _⟩)
    · match i, hi with
      | 0, _ =>
        refine ⟨_, [ptr b], [], rfl, body95, (smade_ok b x.g x.s vs vc vch vop x.cl _ _ hs.toSub (by rw [← ho]; exact hs.blk (i := 2) rfl) (hs.mem b o true (by simp)).2.1 hgp).mono fun e w' hp => ?_⟩
        obtain ⟨v, H', rfl, hs', hle', rfl⟩ := hp.step hs
        exact ⟨0, rfl, .inl ⟨rfl, .inl ⟨by omega, (fun h => by cases h), H', hle.trans hle', hs'⟩⟩⟩
      | 1, _ =>
        refine ⟨_, [ptr b], [], rfl, body96, (sfree_ok b x.g x.s vs vc vch vop x.cl _ _ hs.toSub (by rw [← ho]; exact hs.blk (i := 2) rfl) (hs.mem b o true (by simp)).2.1).mono fun e w' hp => ?_⟩
        obtain ⟨v, H', rfl, hs', hle', rfl⟩ := hp.step hs
        by_cases hc : x.cl = true
        · exact ⟨27, by rw [if_pos hc], .inr ⟨by decide, by rw [if_pos hc], H', o, (hs'.drop 0).drop 0, by rw [closeD, if_pos hc]; exact hx.mono (hle.trans hle')⟩⟩
        · exact ⟨0, by rw [if_neg hc], .inl ⟨rfl, .inl ⟨by omega, (fun _ => by simpa using hc), H', hle.trans hle', hs'⟩⟩⟩
      | 2, _ =>
        have hc := hc2 rfl
        have hs3 : HS [b] H0 w0 H ([(b, o, true)] ++ [(g4, .cells #[madeV (ptr b), freeV (ptr b), cutV (ptr b), .func (.func 116) #[] #[ptr g1]] 59, true), (g1, .cells #[ptr b] 54, true)]) w := hs.front (i := 2) rfl
        refine ⟨_, [ptr b], [], rfl, body100, (cut_ok b x o H w hs.toSub (hs.blk (i := 2) rfl) (hs.mem b o true (by simp)).2.1 (hx.mono hle) hok.gs hok.cuts (by omega) hcl (by omega)).mono fun e w' hp => ?_⟩
        obtain ⟨v, H', M', rfl, hs', hle', rfl, o', rfl, hsrc⟩ := hp.step hs3 rfl rfl
        exact ⟨0, rfl, .inl ⟨rfl, .inr (.inl ⟨rfl, hc, H', o', hs', hsrc⟩)⟩⟩
    · have hs3 : HS [b] H0 w0 H ([(b, o', true)] ++ [(g1, .cells #[ptr b] 54, true)]) w := hs.drop 1
      refine ⟨_, [], [ptr g1], rfl, body116, (close1_ok b g1 (cutD x) o' H w (hs3.begin [true, false]) hsrc).mono fun e w' hp => ?_⟩
      obtain ⟨v, H', M', rfl, hs', hle', rfl, o2, rfl, hsrc2⟩ := hp.step hs3 rfl rfl
      have hD : closeD x = { cutD x with cl := true } := by rw [closeD, if_neg (by rw [hc]; decide)]
      rw [← hD] at hsrc2
      exact ⟨0, rfl, .inl ⟨rfl, .inr (.inr ⟨rfl, hc, H', o2, hs'.drop 1, hsrc2⟩)⟩⟩
    · simp at h
  · rintro w (⟨h, _⟩ | ⟨h, _⟩ | ⟨_, hz, H, o', hs, hsrc⟩)
    · simp at h
    · simp at h
    · exact ⟨by rw [if_neg (by rw [hz]; decide)], H, o', hs, hsrc⟩
  rintro e w ⟨er, rfl, rfl, H, o', hs, hsrc⟩
  refine ⟨_, rfl, ?_⟩
  refine WO.step rfl (OR.assign rfl (WO.done (WX.seq (WC.ret ?_))))
  refine WX.ret1 rfl rfl ?_
  exact ⟨_, H, _, rfl, hs, by simp, rfl, o', rfl, hsrc⟩

end Go.Bw
