/- What SourcePlays wants of other texts (copies, to keep its claim small: never import this beside Fresh, Loose, Matrix2, Plays, RefB, Keeps, Keep). -/
import Derived.Test.YtbgdgmilcojlbaaSrc6
import Derived.Test.YtbgdgmilcojlbaaFlat
import Derived.Test.YtbgdgmilcojlbaaTimes
import Derived.Test.YtbgdgmilcojlbaaGone
import Derived.Test.YtbgdgmilcojlbaaLaw
namespace Go.Bw
set_option linter.unusedVariables false
set_option linter.unusedSimpArgs false
open Go.Proofs

/-- A slice whose block was made after N and is its own; it stays. -/
def OwnH (H : Hp) (N : Nat) (e : TypeId) (sz : Nat) (v : Value) (n : Nat) (xs : List Value) : Prop := ∃ Mo, Own N e sz v n xs Mo ∧ ∀ p ∈ Mo, H p.1 = some p.2.1

theorem OwnH.mono {H H' : Hp} {N : Nat} {e : TypeId} {sz n : Nat} {v : Value} {xs : List Value} (h : OwnH H N e sz v n xs) (hle : Hp.le H H') : OwnH H' N e sz v n xs := by
  obtain ⟨Mo, h1, h2⟩ := h
  exact ⟨Mo, h1, fun p hp => hle _ _ (h2 p hp)⟩

theorem OwnH.anti {H : Hp} {N N' : Nat} {e : TypeId} {sz n : Nat} {v : Value} {xs : List Value} (h : OwnH H N e sz v n xs) (hle : N' ≤ N) : OwnH H N' e sz v n xs := by
  obtain ⟨Mo, h1, h2⟩ := h
  exact ⟨Mo, h1.mono hle, h2⟩

theorem OwnH.sl {H : Hp} {N : Nat} {e : TypeId} {sz n : Nat} {v : Value} {xs : List Value} (h : OwnH H N e sz v n xs) : Sl H sz v n xs := by
  obtain ⟨Mo, ⟨hl, ⟨rfl, ⟨b9, rfl⟩, rfl⟩ | ⟨g, c, cap, rfl, rfl, hn, hc, hx, hg⟩⟩, h2⟩ := h
  · have : xs = [] := List.eq_nil_of_length_eq_zero (by simpa using hl)
    subst this
    exact Sl.empty _ sz b9
  · exact Sl.block (h2 (g, .cells c e, true) (by simp)) hl hx hn

theorem HS.pubO {xs : List Nat} {H0 H : Hp} {w0 w : World} {M : Mem} {e : TypeId} {sz n : Nat} {v : Value} {cs : List Value} {Mo : Mem} (h : HS xs H0 w0 H (Mo ++ M) w) (ho : Own w0.heap.size e sz v n cs Mo) :
    ∃ H', Hp.le H H' ∧ HS xs H0 w0 H' M w ∧ OwnH H' w0.heap.size e sz v n cs := by
  have ho2 := ho
  obtain ⟨hl, ⟨rfl, ⟨b9, rfl⟩, rfl⟩ | ⟨g, c, cap, rfl, rfl, hn, hc, hx, hg⟩⟩ := ho
  · exact ⟨H, .refl H, h, [], ho2, fun p hp => by cases hp⟩
  · have h0 := h.mem g (.cells c e) true (by simp)
    exact ⟨H.put g (.cells c e), Hp.le_put h0.2.1 _, HS.publish h hg, _, ho2, fun p hp => by rw [List.mem_singleton.1 hp]; exact Hp.put_same ..⟩

/-- A slice's block. -/
def blkOf : Value → Nat
  | .slice (some a) _ _ => a.block
  | _ => 0

theorem OwnH.blk {H : Hp} {N : Nat} {e : TypeId} {sz n : Nat} {v : Value} {xs : List Value} (h : OwnH H N e sz v n xs) (hn : 0 < n) : N ≤ blkOf v ∧ ∃ c cap, v = .slice (some ⟨blkOf v, 0, none⟩) n cap ∧ H (blkOf v) = some (.cells c e) ∧ n ≤ cap ∧ c.size = cap * sz ∧ c.toList.take (n * sz) = xs := by
  obtain ⟨Mo, ⟨hl, ⟨rfl, ⟨b9, rfl⟩, rfl⟩ | ⟨g, c, cap, rfl, rfl, hn2, hc, hx, hg⟩⟩, h2⟩ := h
  · omega
  · exact ⟨hg, c, cap, rfl, h2 (g, .cells c e, true) (by simp), hn2, hc, hx⟩

theorem HS.shrink {xs : List Nat} {H0 H K : Hp} {w0 w : World} {M : Mem} (hs : HS xs H0 w0 H M w) (h0 : Hp.le H0 K) (hK : Hp.le K H) : HS xs H0 w0 K M w :=
  ⟨h0, fun b o h => hs.sub b o (hK b o h), fun b o h => hs.new b o (hK b o h), hs.keep, hs.size, hs.os, hs.tape, hs.out, (fun g o t hm => by
    have h1 := hs.mem g o t hm
    refine ⟨h1.1, ?_, h1.2.2⟩
    cases hk : K g with
    | none => rfl
    | some u =>
      have h2 := hK g u hk
      rw [h1.2.1] at h2
      cases h2), hs.nd⟩

/-- A block known anew. -/
theorem HS.learn {xs : List Nat} {H0 K : Hp} {w0 w : World} {M Ml : Mem} {g : Nat} {o : Obj} (hs : HS xs H0 w0 K (M ++ Ml) w) (hg : w.heap[g]? = some o) (hK : K g = none) (hM : g ∉ Mem.keys (M ++ Ml)) (hn : w0.heap.size ≤ g) : HS xs H0 w0 K (M ++ ((g, o, true) :: Ml)) w := by
  have h1 : HS xs H0 w0 K ((g, o, true) :: (M ++ Ml)) w := by
    refine ⟨hs.le, hs.sub, hs.new, hs.keep, hs.size, hs.os, hs.tape, hs.out, fun q u t hm => ?_, List.nodup_cons.2 ⟨hM, hs.nd⟩⟩
    rcases List.mem_cons.1 hm with e | hm
    · cases e
      exact ⟨hg, hK, fun _ => .inr hn⟩
    · exact hs.mem q u t hm
  exact h1.perm List.perm_middle

theorem setL_one (l : List Value) (k : Nat) (v : Value) : setL l k [v] = l.set k v := by rw [setL_step, setL_nil]

theorem Bytes.cut {H : Hp} {base : Option Addr} {n cap k : Nat} {l : List UInt8} (h : Bytes H (.slice base n cap) l) (hk : k ≤ l.length) : Bytes H (.slice base k cap) (l.take k) := by
  obtain ⟨hl, b', c', he, hn, hb0, hc⟩ := h
  cases he
  have e : (l.take k).length = k := by rw [List.length_take]; omega
  refine ⟨by simp, base, cap, by rw [e], by omega, fun e2 => ?_, fun a ha => ⟨fun hp => ?_, fun i u hi => ?_⟩⟩
  · have := hb0 e2
    omega
  · exact (hc a ha).1 (by omega)
  · rw [List.map_take] at hi
    exact (hc a ha).2 i u (get_take hi)

theorem Bytes.cap {H : Hp} {base : Option Addr} {n cap : Nat} {l : List UInt8} (h : Bytes H (.slice base n cap) l) : l.length ≤ cap := by
  obtain ⟨hl, b', c', he, hn, hb0, hc⟩ := h
  cases he
  exact hn

theorem HS.none {xs : List Nat} {H0 H : Hp} {w0 w : World} {M : Mem} (h : HS xs H0 w0 H M w) {i : Nat} {g : Nat} {o : Obj} {t : Bool} (hm : nth M i = some (g, o, t)) : H g = none :=
  (h.mem g o t (List.mem_of_getElem? (by rw [← nth_eq]; exact hm))).2.1

structure ActD where
  what : Int
  b : List UInt8
  n : Nat
  sent : Nat

/-- A list of calls in memory. -/
def Acts (H : Hp) (v : Value) (len : Nat) (A : Nat → ActD) (V : Nat → Value) : Prop :=
  Sl H 4 v len ((List.range len).flatMap fun i => [.int .i64 (A i).what, V i, .int .u64 ((A i).n : Int), .int .u64 ((A i).sent : Int)]) ∧ ∀ i, i < len → Bytes H (V i) (A i).b ∧ (A i).b.length ≤ 9223372036854775807 ∧ (A i).n < 18446744073709551616

theorem Acts.pos {H : Hp} {len cap : Nat} {base : Option Addr} {A : Nat → ActD} {V : Nat → Value} (h : Acts H (.slice base len cap) len A V) (hn : 0 < len) :
    ∃ b o, base = some ⟨b, o, none⟩ ∧ ∀ i, i < len → ∀ j u, [.int .i64 (A i).what, V i, .int .u64 ((A i).n : Int), .int .u64 ((A i).sent : Int)][j]? = some u → hcell H ((⟨b, o + i * 4, none⟩ : Addr).add j) = some u := by
  obtain ⟨b, o, h4, h5⟩ := h.1.pos hn
  refine ⟨b, o, h4, fun i hi j u hj => ?_⟩
  have h6 := (flat_get (C := fun i => [Value.int .i64 (A i).what, V i, .int .u64 ((A i).n : Int), .int .u64 ((A i).sent : Int)]) (sz := 4) len (fun _ _ => rfl)).2 i hi j (by have := (List.getElem?_eq_some_iff.1 hj).1; simpa using this)
  rw [add_off, Nat.add_assoc]
  exact h5 _ _ (h6.trans hj)

theorem cut_len (D : SrcD) : (cutD D).cuts.length ≤ D.cuts.length + 1 := by unfold cutD; split <;> simp

theorem cell_at {w : World} {g k : Nat} {c : Array Value} {e : TypeId} {fr : Nat × Nat} {v : Value} (h : w.heap[g]? = some (.cells c e fr)) (hk : c.toList[k]? = some v) : w.cell? ⟨g, k, none⟩ = some v := by
  simpa [World.cell?, h] using hk

set_option maxRecDepth 20000 in
set_option maxHeartbeats 2000000 in
theorem same05_ok (va vb : Value) (a b : List (List UInt8)) (H0 : Hp) (w0 : World) (h0 : Sub H0 w0) (ha : BytesL H0 va a) (hb : BytesL H0 vb b) (he : a = b) (hl : a.length < 1000000000) :
    Calls Try.prog 62 #[va, vb] w0 (Pure H0 w0 fun v _ => v = .bool true) := by
  have hs := HS.init h0
  subst he
  have ha0 := ha
  have hb0 := hb
  obtain ⟨b1, c1, rfl⟩ := ha0.form
  obtain ⟨b2, c2, rfl⟩ := hb0.form
  refine Calls.enter (args := [.slice b1 a.length c1, .slice b2 a.length c2]) Try.func62 rfl Try.ntmps62 rfl ?_
  refine WC.seq (WC.region (WO.step rfl (OR.assign rfl (WO.done (WX.seq (WC.seq (WC.seq ?_)))))))
  refine WC.region (WO.step rfl (OR.move rfl (WO.step rfl (OR.lenSlice T22.und rfl (WO.step rfl (OR.move rfl (WO.step rfl ?_)))))))
  refine OR.lenSlice T22.und rfl (WO.step rfl (OR.neq rfl rfl (WO.done (WX.seq ?_))))
  refine WC.no rfl (decide_eq_false (by omega)) ?_
  refine WC.skip (WX.seq (WC.seq (WC.seq (WC.region (WO.step rfl (OR.assign rfl (WO.done ?_)))))))
  refine WX.seq (WC.block ?_)
  refine WC.loop (ι := Nat) (fun k => [(0, .slice b1 a.length c1), (1, .slice b2 a.length c2), (5, .int .i64 (k : Int))]) (fun k w => (k ≤ a.length ∧ ∃ H, Hp.le H0 H ∧ HS [] H0 w0 H [] w)) (fun k => a.length - k) 0 ⟨rfl, rfl, rfl,  trivial⟩ ?_ (fun k w hW => ?_)
  · exact ⟨by omega, H0, .refl H0, hs⟩
  clear hs
  obtain ⟨hk, H, hle, hs⟩ := hW
  refine WC.seq (WC.seq (WC.region (WO.step rfl (OR.move rfl (WO.step rfl (OR.move rfl (WO.step rfl ?_)))))))
  refine OR.lenSlice T22.und rfl (WO.step rfl (OR.lss rfl rfl (WO.done (WX.seq ?_))))
  refine WC.condD rfl (fun hlt => ?_) (fun hlt => ?_)
  · have hk' : k < a.length := by omega
    obtain ⟨ob1, oo1, rfl, hc1⟩ := ha.pos (by omega)
    obtain ⟨ob2, oo2, rfl, hc2⟩ := hb.pos (by omega)
    obtain ⟨e1, he1, hbe1⟩ := hc1 k hk'
    obtain ⟨e2, he2, hbe2⟩ := hc2 k hk'
    have hlb := Hp.le.refl H
    refine WC.skip (WX.seq (WC.seq (WC.block (WC.seq ?_))))
    refine WC.draw 11 mixed hs (by kernel_rfl) ?_
    refine ⟨MF.eq _, by intro Mx H w hle hs; refine forVals_nil (ORg.plain (OR.move rfl ?_)); exact ⟨_, [], Hp.le.refl _, hs, rfl, rfl⟩, ?_⟩
    refine ⟨MF.eq _, by intro Mx H w hle hs; refine forVals_nil (ORg.plain (OR.move rfl ?_)); exact ⟨_, [], Hp.le.refl _, hs, rfl, rfl⟩, ?_⟩
    refine ⟨MF.eq (.pointer (some ⟨ob1, oo1 + k, none⟩)), ?_, ?_⟩
    · intro Mx H w hle2 hs; (try replace hle := hle.trans hle2); (try replace hlb := hlb.trans hle2); refine forVals_eq rfl rfl rfl ?_; refine forVals_eq rfl rfl rfl ?_
      refine forVals_nil (ORg.plain (OR.idx k T22.und T23 rfl rfl rfl hk' ?_))
      exact ⟨_, [], Hp.le.refl _, hs, rfl, rfl⟩
    refine ⟨MF.eq e1, ?_, ?_⟩
    · intro Mx H w hle2 hs; (try replace hle := hle.trans hle2); (try replace hlb := hlb.trans hle2); refine forVals_eq rfl rfl rfl ?_
      refine forVals_nil (ORg.plain (OR.load T23 rfl rfl (hs.cell (hcell.mono hle he1)) ?_))
      exact ⟨_, [], Hp.le.refl _, hs, rfl, rfl⟩
    refine ⟨MF.eq (.string (str a[k])), ?_, ?_⟩
    · intro Mx H w hle2 hs; (try replace hle := hle.trans hle2); (try replace hlb := hlb.trans hle2); refine forVals_eq rfl rfl rfl ?_
      refine forVals_nil (ORg.plain (OR.toStr hs T23.und T9.und T5.und rfl (hbe1.mono hle) ?_))
      exact ⟨_, [], Hp.le.refl _, hs, rfl, rfl⟩
    refine ⟨MF.eq _, by intro Mx H w hle hs; refine forVals_nil (ORg.plain (OR.move rfl ?_)); exact ⟨_, [], Hp.le.refl _, hs, rfl, rfl⟩, ?_⟩
    refine ⟨MF.eq _, by intro Mx H w hle hs; refine forVals_nil (ORg.plain (OR.move rfl ?_)); exact ⟨_, [], Hp.le.refl _, hs, rfl, rfl⟩, ?_⟩
    refine ⟨MF.eq (.pointer (some ⟨ob2, oo2 + k, none⟩)), ?_, ?_⟩
    · intro Mx H w hle2 hs; (try replace hle := hle.trans hle2); (try replace hlb := hlb.trans hle2); refine forVals_eq rfl rfl rfl ?_; refine forVals_eq rfl rfl rfl ?_
      refine forVals_nil (ORg.plain (OR.idx k T22.und T23 rfl rfl rfl hk' ?_))
      exact ⟨_, [], Hp.le.refl _, hs, rfl, rfl⟩
    refine ⟨MF.eq e2, ?_, ?_⟩
    · intro Mx H w hle2 hs; (try replace hle := hle.trans hle2); (try replace hlb := hlb.trans hle2); refine forVals_eq rfl rfl rfl ?_
      refine forVals_nil (ORg.plain (OR.load T23 rfl rfl (hs.cell (hcell.mono hle he2)) ?_))
      exact ⟨_, [], Hp.le.refl _, hs, rfl, rfl⟩
    refine ⟨MF.eq (.string (str a[k])), ?_, ?_⟩
    · intro Mx H w hle2 hs; (try replace hle := hle.trans hle2); (try replace hlb := hlb.trans hle2); refine forVals_eq rfl rfl rfl ?_
      refine forVals_nil (ORg.plain (OR.toStr hs T23.und T9.und T5.und rfl (hbe2.mono hle) ?_))
      exact ⟨_, [], Hp.le.refl _, hs, rfl, rfl⟩
    refine ⟨MF.eq _, by intro Mx H w hle hs; refine forVals_eq rfl rfl rfl ?_; refine forVals_eq rfl rfl rfl ?_; refine forVals_nil (ORg.plain (OR.neqStr rfl rfl ?_)); exact ⟨_, [], Hp.le.refl _, hs, rfl, rfl⟩, ?_⟩
    intro H w hle2; (try replace hle := hle.trans hle2); (try replace hlb := hlb.trans hle2)
    refine forAllVals_eq rfl ?_
    refine forAllVals_eq rfl ?_
    refine forAllVals_eq rfl ?_
    refine forAllVals_eq rfl ?_
    refine forAllVals_eq rfl ?_
    refine forAllVals_eq rfl ?_
    refine forAllVals_eq rfl ?_
    refine forAllVals_eq rfl ?_
    refine forAllVals_eq rfl ?_
    refine forAllVals_eq rfl ?_
    refine forAllVals_eq rfl ?_
    refine forAllVals_nil ?_; (try clear hs); intro hs
    refine WO.done (WX.seq ?_)
    refine WC.no rfl (by simp) ?_
    refine WC.skip (WX.block (WX.seq (WC.region (WO.step rfl (OR.move rfl (WO.step rfl (OR.addI rfl rfl (by omega) (by omega) ?_)))))))
    refine WO.step rfl (OR.assign rfl (WO.done ?_))
    refine WX.again (k + 1) ⟨rfl, rfl, rfl,  trivial⟩ ?_ ?_
    · exact ⟨hk', H, hle, hs⟩
    · omega
  · refine WC.exit (WX.seq_exit (WX.loop_exit (WX.block_hit (WX.seq (WC.seq (WC.region (WO.step rfl ?_)))))))
    refine OR.assign rfl (WO.done (WX.seq (WC.ret ?_)))
    refine WX.ret1 rfl rfl ?_
    exact .mk hs rfl
end Go.Bw
