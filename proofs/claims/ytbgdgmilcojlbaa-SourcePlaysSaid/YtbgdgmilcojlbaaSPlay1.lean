/- SourcePlays: what is small. -/
import Derived.Test.YtbgdgmilcojlbaaSrc7
import Derived.Test.YtbgdgmilcojlbaaRefS6
import Derived.Test.YtbgdgmilcojlbaaJoin2
import Derived.Test.YtbgdgmilcojlbaaDrawW
namespace Go.Bw
set_option linter.unusedVariables false
set_option linter.unusedSimpArgs false
open Go.Proofs

/-- What was told to a call stays the caller's. -/
theorem HS.regain {H0 H2 K : Hp} {w0 w : World} {M Mo : Mem} {e : TypeId} {sz n : Nat} {vo : Value} {cs : List Value} (hs : HS [] H0 w0 H2 M w) (h0 : Hp.le H0 K) (hK : Hp.le K H2) (ho : Own w0.heap.size e sz vo n cs Mo) (hin : ∀ p ∈ Mo, H2 p.1 = some p.2.1) (hno : ∀ p ∈ Mo, K p.1 = Option.none) : HS [] H0 w0 K (M ++ Mo) w := by
  have h1 := hs.shrink h0 hK
  have ho2 := ho
  obtain ⟨hl, ⟨rfl, ⟨b9, rfl⟩, rfl⟩ | ⟨g, c, cap, rfl, rfl, hn, hc, hx, hg⟩⟩ := ho
  · rw [List.append_nil]; exact h1
  · have h3 := hin (g, .cells c e, true) (by simp)
    simp only at h3
    have hM : g ∉ Mem.keys (M ++ []) := by
      rw [List.append_nil]
      intro hm
      obtain ⟨⟨q, o, t⟩, hq, e⟩ := List.mem_map.1 hm
      simp only at e
      subst e
      have h6 := (hs.mem q o t hq).2.1
      rw [h3] at h6
      cases h6
    exact HS.learn (Ml := []) (by rw [List.append_nil]; exact h1) (hs.sub _ _ h3) (hno (g, .cells c e, true) (by simp)) hM hg
/-- What is owned is lent to a call that reads it. -/
theorem HS.lend {H0 H : Hp} {w0 w : World} {M Mo : Mem} {e : TypeId} {sz n : Nat} {vo : Value} {cs : List Value} (hs : HS [] H0 w0 H (M ++ Mo) w) (ho : Own w0.heap.size e sz vo n cs Mo) :
    ∃ H2, Hp.le H H2 ∧ HS [] H0 w0 H2 M w ∧ (∀ p ∈ Mo, H2 p.1 = some p.2.1) ∧ (∀ p ∈ Mo, H p.1 = Option.none) ∧ Sl H2 sz vo n cs := by
  have h1 := hs.perm (List.perm_append_comm (l₁ := Mo) (l₂ := M))
  have ho2 := ho
  obtain ⟨hl, ⟨rfl, ⟨b9, rfl⟩, rfl⟩ | ⟨g, c, cap, rfl, rfl, hn, hc, hx, hg⟩⟩ := ho
  · have : cs = [] := List.eq_nil_of_length_eq_zero (by simpa using hl)
    subst this
    exact ⟨H, .refl H, h1, (fun p hp => by cases hp), (fun p hp => by cases hp), Sl.empty _ sz b9⟩
  · have h0 := h1.mem g (.cells c e) true (by simp)
    exact ⟨H.put g (.cells c e), Hp.le_put h0.2.1 _, HS.publish h1 hg, (fun p hp => by rw [List.mem_singleton.1 hp]; exact Hp.put_same ..), (fun p hp => by rw [List.mem_singleton.1 hp]; exact h0.2.1), Sl.block (Hp.put_same ..) hl hx hn⟩
theorem Own.rd {xs : List Nat} {H0 H : Hp} {w0 w : World} {F Mo : Mem} {N : Nat} {n c5 x : Nat} {b5 : Option Addr} {l : List UInt8} (hs : HS xs H0 w0 H (F ++ Mo) w) (ho : Own N 5 1 (.slice b5 n c5) n (l.map B) Mo) (hx : x ∈ Mem.keys F) : RdAt w x b5 l := by
  obtain ⟨hl, ⟨rfl, ⟨b9, h9⟩, rfl⟩ | ⟨g, c, cap, rfl, hv, hn, hc, hxs, hg⟩⟩ := ho
  · have : l = [] := List.eq_nil_of_length_eq_zero (by simpa using hl)
    subst this
    cases h9
    exact ⟨fun _ => rfl, fun a ha => ⟨fun h => absurd rfl h, fun j u hj => by simp at hj⟩⟩
  · cases hv
    refine ⟨(fun e => by cases e), fun a ha => ?_⟩
    cases ha
    refine ⟨fun _ e => ?_, fun j u hj => ?_⟩
    · simp only at e
      subst e
      have := hs.nd
      simp only [Mem.keys, List.map_append, List.map_cons, List.map_nil] at this hx
      rw [List.nodup_append] at this
      exact this.2.2 _ hx _ (by simp) rfl
    · have hb := (hs.mem g (.cells c 5) true (by simp)).1
      have hj2 : (c.toList.take (n * 1))[j]? = some u := by rw [hxs]; exact hj
      rw [add_off, Nat.zero_add]
      exact cell_at hb (get_take hj2)

set_option maxRecDepth 20000 in
set_option maxHeartbeats 2000000 in
theorem sizes_ok (g s : Int) (H0 : Hp) (w0 : World) (h0 : Sub H0 w0) :
    Calls Try.prog 54 #[.int .i64 g, .int .i64 s] w0 (Pure H0 w0 fun v _ => ∃ g' s' : Int, v = .tuple #[.int .i64 g', .int .i64 s']) := by
  have hs := HS.init h0
  refine Calls.enter (args := [.int .i64 g, .int .i64 s]) Try.func54 rfl Try.ntmps54 rfl ?_
  refine WC.seq (WC.region (WO.step rfl (OR.assign rfl (WO.step rfl (OR.assign rfl (WO.done (WX.seq ?_)))))))
  refine WC.seq ?_
  refine WC.joinK (ι := Int) (fun g2 => [(0, .int .i64 g2), (1, .int .i64 s)]) (fun g2 w => (HS [] H0 w0 H0 [] w)) ?_ (fun g2 w hW => ?_)
  · refine WC.seq (WC.region (WO.step rfl (OR.move rfl (WO.step rfl (OR.gtr rfl rfl (WO.step rfl (OR.move rfl ?_)))))))
    refine WO.guardSplit (j := 2) rfl (fun hg40 => ?_) (fun hg40 => ?_)
    · refine WO.guardYes rfl (decide_eq_true hg40) rfl rfl (OR.move rfl (WO.guardYes rfl (decide_eq_true hg40) rfl rfl (OR.leq rfl rfl (WO.step rfl (OR.pickT rfl (decide_eq_true hg40) rfl (WO.done (WX.seq ?_)))))))
      refine WC.condD rfl (fun hg255 => ?_) (fun hg255 => ?_)
      · refine WC.region (WO.step rfl (OR.move rfl ?_))
        refine WO.step rfl (OR.rem rfl rfl (by omega) ?_)
        have hm : (0 : Int) ≤ g.tmod 40 ∧ g.tmod 40 < 40 := by
          rw [Int.tmod_eq_emod_of_nonneg (by omega)]
          omega
        refine WO.step rfl (OR.addI rfl rfl (by omega) (by omega) (WO.step rfl (OR.assign rfl (WO.done ?_))))
        refine WX.arrive (1 + g.tmod 40) ⟨rfl, rfl,  trivial⟩ ?_
        exact hs
      · refine WC.skip ?_
        refine WX.arrive (g) ⟨rfl, rfl,  trivial⟩ ?_
        exact hs
    · refine WO.guardNo rfl (decide_eq_false hg40) rfl rfl (WO.guardNo rfl (decide_eq_false hg40) rfl rfl (WO.step rfl (OR.pickF rfl (decide_eq_false hg40) rfl (WO.done (WX.seq (WC.no rfl rfl (WC.skip ?_)))))))
      refine WX.arrive (g) ⟨rfl, rfl,  trivial⟩ ?_
      exact hs
  · clear hs
    have hs := hW
    clear hW
    refine WC.seq ?_
    refine WC.joinK (ι := Int) (fun s2 => [(0, .int .i64 g2), (1, .int .i64 s2)]) (fun s2 w => (HS [] H0 w0 H0 [] w)) ?_ (fun s2 w hW => ?_)
    · refine WC.seq (WC.region (WO.step rfl (OR.move rfl (WO.step rfl (OR.gtr rfl rfl (WO.step rfl (OR.move rfl ?_)))))))
      refine WO.guardSplit (j := 2) rfl (fun hg40 => ?_) (fun hg40 => ?_)
      · refine WO.guardYes rfl (decide_eq_true hg40) rfl rfl (OR.move rfl (WO.guardYes rfl (decide_eq_true hg40) rfl rfl (OR.leq rfl rfl (WO.step rfl (OR.pickT rfl (decide_eq_true hg40) rfl (WO.done (WX.seq ?_)))))))
        refine WC.condD rfl (fun hg255 => ?_) (fun hg255 => ?_)
        · refine WC.region (WO.step rfl (OR.move rfl ?_))
          refine WO.step rfl (OR.rem rfl rfl (by omega) ?_)
          have hm : (0 : Int) ≤ s.tmod 40 ∧ s.tmod 40 < 40 := by
            rw [Int.tmod_eq_emod_of_nonneg (by omega)]
            omega
          refine WO.step rfl (OR.addI rfl rfl (by omega) (by omega) (WO.step rfl (OR.assign rfl (WO.done ?_))))
          refine WX.arrive (1 + s.tmod 40) ⟨rfl, rfl,  trivial⟩ ?_
          exact hs
        · refine WC.skip ?_
          refine WX.arrive (s) ⟨rfl, rfl,  trivial⟩ ?_
          exact hs
      · refine WO.guardNo rfl (decide_eq_false hg40) rfl rfl (WO.guardNo rfl (decide_eq_false hg40) rfl rfl (WO.step rfl (OR.pickF rfl (decide_eq_false hg40) rfl (WO.done (WX.seq (WC.no rfl rfl (WC.skip ?_)))))))
        refine WX.arrive (s) ⟨rfl, rfl,  trivial⟩ ?_
        exact hs
    · clear hs
      have hs := hW
      clear hW
      refine WC.seq (WC.region (WO.step rfl (OR.move rfl (WO.step rfl (OR.move rfl (WO.step rfl (OR.assign rfl ?_)))))))
      refine WO.step rfl (OR.assign rfl (WO.done (WX.seq (WC.ret ?_))))
      refine WX.ret2 rfl rfl rfl ?_
      exact .mk hs ⟨_, _, rfl⟩
set_option maxRecDepth 20000 in
set_option maxHeartbeats 2000000 in
theorem same13_ok (r : RowD) (c1 p1 c2 p2 : Value) (H0 : Hp) (w0 : World) (h0 : Sub H0 w0) (hc1 : Bytes H0 c1 r.1) (hp1 : Bytes H0 p1 r.2) (hc2 : Bytes H0 c2 r.1) (hp2 : Bytes H0 p2 r.2) :
    Calls Try.prog 64 #[.agg #[c1, p1], .agg #[c2, p2]] w0 (Pure H0 w0 fun v _ => v = .bool true) := by
  have hs := HS.init h0
  have hle := Hp.le.refl H0
  obtain ⟨_, _, rfl⟩ := hc1.form
  obtain ⟨_, _, rfl⟩ := hp1.form
  obtain ⟨_, _, rfl⟩ := hc2.form
  obtain ⟨_, _, rfl⟩ := hp2.form
  refine Calls.enter (args := [.agg #[_, _], .agg #[_, _]]) Try.func64 rfl Try.ntmps64 rfl ?_
  refine WC.seq (WC.region (WO.step rfl (OR.box hs rfl ?_)))
  clear hs; intro g1 w hg1 hs
  refine WO.step rfl (OR.box hs rfl ?_)
  clear hs; intro g2 w hg2 hs
  refine WO.step rfl (OR.assign rfl (WO.done (WX.seq (WC.seq (WC.region (WO.step rfl (OR.fieldAddr FA35_0 rfl ?_)))))))
  refine WO.step rfl (OR.load T23 rfl rfl (hs.cellM (i := 1) rfl rfl) (WO.step rfl (OR.fieldAddr FA35_0 rfl (WO.step rfl (OR.load T23 rfl rfl (hs.cellM (i := 0) rfl rfl) ?_)))))
  refine WO.step rfl (OR.call hs body21 rfl rfl (equal_ok _ _ r.1 r.1 _ _ hs.toSub (hc1.mono hle) (hc2.mono hle)) ?_)
  clear hs; rintro _ H w hs hle1 rfl; replace hle := hle.trans hle1; (try replace hlb := hlb.trans hle1)
  rw [decide_eq_true rfl]
  refine WO.step rfl (OR.move rfl ?_)
  refine WO.guardYes rfl rfl rfl rfl (OR.fieldAddr FA35_1 rfl (WO.guardYes rfl rfl rfl rfl (OR.load T23 rfl rfl (hs.cellM (i := 1) rfl rfl) (WO.guardYes rfl rfl rfl rfl (OR.fieldAddr FA35_1 rfl (WO.guardYes rfl rfl rfl rfl (OR.load T23 rfl rfl (hs.cellM (i := 0) rfl rfl) ?_)))))))
  refine WO.guardYes rfl rfl rfl rfl (OR.call hs body21 rfl rfl (equal_ok _ _ r.2 r.2 _ _ hs.toSub (hp1.mono hle) (hp2.mono hle)) ?_)
  clear hs; rintro _ H w hs hle1 rfl; replace hle := hle.trans hle1; (try replace hlb := hlb.trans hle1)
  rw [decide_eq_true rfl]
  refine WO.step rfl (OR.pickT rfl rfl rfl (WO.step rfl (OR.assign rfl (WO.done (WX.seq (WC.ret ?_))))))
  refine WX.ret1 rfl rfl ?_
  exact .mk hs rfl
set_option maxRecDepth 20000 in
set_option maxHeartbeats 2000000 in
theorem equalInts_ok (va vb : Value) (l : List Int) (H0 : Hp) (w0 : World) (h0 : Sub H0 w0) (ha : Ints H0 va l) (hb : Ints H0 vb l) (hl : l.length ≤ 9223372036854775807) :
    Calls Try.prog 67 #[va, vb] w0 (Pure H0 w0 fun v _ => v = .bool true) := by
  have hs := HS.init h0
  have hle := Hp.le.refl H0
  have ha0 := ha
  have hb0 := hb
  obtain ⟨b1, c1, rfl⟩ := ha0.form
  obtain ⟨b2, c2, rfl⟩ := hb0.form
  refine Calls.enter (args := [.slice b1 l.length c1, .slice b2 l.length c2]) Try.func67 rfl Try.ntmps67 rfl ?_
  refine WC.seq (WC.region (WO.step rfl (OR.assign rfl (WO.done (WX.seq (WC.seq (WC.seq ?_)))))))
  refine WC.region (WO.step rfl (OR.move rfl (WO.step rfl (OR.lenSlice T87.und rfl (WO.step rfl (OR.move rfl (WO.step rfl ?_)))))))
  refine OR.lenSlice T87.und rfl (WO.step rfl (OR.neq rfl rfl (WO.done (WX.seq ?_))))
  refine WC.no rfl (decide_eq_false (by omega)) ?_
  refine WC.skip (WX.seq (WC.seq (WC.seq (WC.region (WO.step rfl (OR.move rfl (WO.step rfl ?_)))))))
  refine OR.lenSlice T87.und rfl (WO.step rfl (OR.move rfl (WO.done (WX.seq (WC.block ?_)))))
  refine WC.loop (ι := Nat) (fun k => [(0, .slice b1 l.length c1), (1, .slice b2 l.length c2), (12, .int .i64 (l.length : Int)), (13, .int .i64 (k : Int))]) (fun k w => (k ≤ l.length ∧ ∃ H, Hp.le H0 H ∧ HS [] H0 w0 H [] w)) (fun k => l.length - k) 0 ⟨rfl, rfl, rfl, rfl,  trivial⟩ ?_ (fun k w hW => ?_)
  · exact ⟨by omega, H0, hle, hs⟩
  clear hs hle
  obtain ⟨hk, H, hle, hs⟩ := hW
  refine WC.seq (WC.region (WO.step rfl (OR.lss rfl rfl (WO.done (WX.seq (WC.seq ?_))))))
  refine WC.condD rfl (fun hlt => ?_) (fun hlt => ?_)
  · have hk' : k < l.length := by omega
    obtain ⟨xb, xo, rfl, hx⟩ := ha.pos (by omega)
    obtain ⟨yb, yo, rfl, hy⟩ := hb.pos (by omega)
    have hlb := Hp.le.refl H
    refine WC.skip (WX.seq (WC.seq (WC.block (WC.seq (WC.region (WO.step rfl (OR.move rfl ?_)))))))
    refine WO.step rfl (OR.assign rfl (WO.done (WX.seq (WC.seq ?_))))
    refine WC.draw 9 mixed hs (by kernel_rfl) ?_
    refine ⟨MF.eq _, by intro Mx H w hle hs; refine forVals_nil (ORg.plain (OR.move rfl ?_)); exact ⟨_, [], Hp.le.refl _, hs, rfl, rfl⟩, ?_⟩
    refine ⟨MF.eq _, by intro Mx H w hle hs; refine forVals_nil (ORg.plain (OR.move rfl ?_)); exact ⟨_, [], Hp.le.refl _, hs, rfl, rfl⟩, ?_⟩
    refine ⟨MF.eq (.pointer (some ⟨xb, xo + k, none⟩)), ?_, ?_⟩
    · intro Mx H w hle2 hs; (try replace hle := hle.trans hle2); (try replace hlb := hlb.trans hle2); refine forVals_eq rfl rfl rfl ?_; refine forVals_eq rfl rfl rfl ?_
      refine forVals_nil (ORg.plain (OR.idx k T87.und T3 rfl rfl rfl hk' ?_))
      exact ⟨_, [], Hp.le.refl _, hs, rfl, rfl⟩
    refine ⟨MF.eq (.int .i64 l[k]), ?_, ?_⟩
    · intro Mx H w hle2 hs; (try replace hle := hle.trans hle2); (try replace hlb := hlb.trans hle2); refine forVals_eq rfl rfl rfl ?_
      refine forVals_nil (ORg.plain (OR.load T3 rfl rfl (hs.cell (hcell.mono hle (hx k hk'))) ?_))
      exact ⟨_, [], Hp.le.refl _, hs, rfl, rfl⟩
    refine ⟨MF.eq _, by intro Mx H w hle hs; refine forVals_nil (ORg.plain (OR.move rfl ?_)); exact ⟨_, [], Hp.le.refl _, hs, rfl, rfl⟩, ?_⟩
    refine ⟨MF.eq _, by intro Mx H w hle hs; refine forVals_nil (ORg.plain (OR.move rfl ?_)); exact ⟨_, [], Hp.le.refl _, hs, rfl, rfl⟩, ?_⟩
    refine ⟨MF.eq (.pointer (some ⟨yb, yo + k, none⟩)), ?_, ?_⟩
    · intro Mx H w hle2 hs; (try replace hle := hle.trans hle2); (try replace hlb := hlb.trans hle2); refine forVals_eq rfl rfl rfl ?_; refine forVals_eq rfl rfl rfl ?_
      refine forVals_nil (ORg.plain (OR.idx k T87.und T3 rfl rfl rfl hk' ?_))
      exact ⟨_, [], Hp.le.refl _, hs, rfl, rfl⟩
    refine ⟨MF.eq (.int .i64 l[k]), ?_, ?_⟩
    · intro Mx H w hle2 hs; (try replace hle := hle.trans hle2); (try replace hlb := hlb.trans hle2); refine forVals_eq rfl rfl rfl ?_
      refine forVals_nil (ORg.plain (OR.load T3 rfl rfl (hs.cell (hcell.mono hle (hy k hk'))) ?_))
      exact ⟨_, [], Hp.le.refl _, hs, rfl, rfl⟩
    refine ⟨MF.eq _, by intro Mx H w hle hs; refine forVals_eq rfl rfl rfl ?_; refine forVals_eq rfl rfl rfl ?_; refine forVals_nil (ORg.plain (OR.neq rfl rfl ?_)); exact ⟨_, [], Hp.le.refl _, hs, rfl, rfl⟩, ?_⟩
    intro H w hle2; (try replace hle := hle.trans hle2); (try replace hlb := hlb.trans hle2)
    refine forAllVals_eq rfl ?_
    refine forAllVals_eq rfl ?_
    refine forAllVals_eq rfl ?_
    refine forAllVals_eq rfl ?_
    refine forAllVals_eq rfl ?_
    refine forAllVals_eq rfl ?_
    refine forAllVals_eq rfl ?_
    refine forAllVals_eq rfl ?_
    refine forAllVals_eq rfl ?_
    refine forAllVals_nil ?_; (try clear hs); intro hs
    refine WO.done (WX.seq ?_)
    refine WC.no rfl (decide_eq_false (fun h => h rfl)) ?_
    refine WC.skip (WX.block (WX.seq (WC.region (WO.step rfl (OR.addI rfl rfl (by omega) (by omega) (WO.step rfl (OR.move rfl ?_)))))))
    refine WO.done ?_
    refine WX.again (k + 1) ⟨rfl, rfl, rfl, rfl,  trivial⟩ ?_ ?_
    · exact ⟨hk', H, hle, hs⟩
    · omega
  · refine WC.exit (WX.seq_exit (WX.loop_exit (WX.block_hit (WX.seq (WC.seq (WC.region (WO.step rfl ?_)))))))
    refine OR.assign rfl (WO.done (WX.seq (WC.ret ?_)))
    refine WX.ret1 rfl rfl ?_
    exact .mk hs rfl
end Go.Bw
