/- Results that lie in cells of their own. -/
import Derived.Test.YtdibepkfgemddaaGreatOpsM
import Derived.Test.YtdibepkfgemddaaGreatDefer
namespace Go.Bw
set_option linter.unusedVariables false
set_option linter.unusedSimpArgs false
section
variable {P : Program} {n : Nat} {ds : List Deferred} {env : Env} {w : World} {f : Func} {C : Ending → World → Prop} {s u u2 : Nat} {t T : TypeId} {v x y : Value} {d : TypeDesc} {sz by_ : Nat} {z : Value} {ad : Addr}

theorem results_C1 {tmps : Array Value} (ht : TI P T d sz by_ z) (hd : isAggD d = false) (hf : f.results = #[.cell u T])
    (hu : tmps.getD u undef = .pointer (some ad)) (hc : w.cell? ad = some x) : (results f tmps).run P w = .ok x w := by
  rw [Array.getD_eq_getD_getElem?] at hu
  simp [results, hf, hu, asAddr, loadVar, ht.run_agg, hd, hc]
theorem results_CT {tmps : Array Value} (ht : TI P T d sz by_ z) (hd : isAggD d = false) (hf : f.results = #[.cell u T, .tmp s])
    (hv : tmps.getD s undef = v) (hu : tmps.getD u undef = .pointer (some ad)) (hc : w.cell? ad = some x) : (results f tmps).run P w = .ok (.tuple #[x, v]) w := by
  rw [Array.getD_eq_getD_getElem?] at hv hu
  simp [results, hf, hv, hu, asAddr, loadVar, ht.run_agg, hd, hc]
theorem results_CC {tmps : Array Value} {T2 : TypeId} {d2 : TypeDesc} {sz2 by2 : Nat} {z2 : Value} {ad2 : Addr} (ht : TI P T d sz by_ z) (hd : isAggD d = false) (ht2 : TI P T2 d2 sz2 by2 z2) (hd2 : isAggD d2 = false) (hf : f.results = #[.cell u T, .cell u2 T2])
    (hu : tmps.getD u undef = .pointer (some ad)) (hc : w.cell? ad = some x) (hu2 : tmps.getD u2 undef = .pointer (some ad2)) (hc2 : w.cell? ad2 = some y) : (results f tmps).run P w = .ok (.tuple #[x, y]) w := by
  rw [Array.getD_eq_getD_getElem?] at hu hu2
  simp [results, hf, hu, hu2, asAddr, loadVar, ht.run_agg, hd, ht2.run_agg, hd2, hc, hc2]

theorem WX.retCellS (ht : TI P T d sz by_ z) (hd : isAggD d = false) (hf : f.results = #[.cell u T]) (hu : env.get u = some (.pointer (some ad))) (hc : w.cell? ad = some x) (h : C (.returned x) w) : WX P n [] .ret (.fn f C) env w :=
  WX.end_ret (vs := fun _ => True) rfl fun a ha => ⟨_, results_C1 ht hd hf (ha.get u _ hu) hc, h⟩
theorem WX.endCellS (ht : TI P T d sz by_ z) (hd : isAggD d = false) (hf : f.results = #[.cell u T]) (hu : env.get u = some (.pointer (some ad))) (hc : w.cell? ad = some x) (h : C (.returned x) w) : WX P n [] .normal (.fn f C) env w :=
  WX.end_ret (vs := fun _ => True) rfl fun a ha => ⟨_, results_C1 ht hd hf (ha.get u _ hu) hc, h⟩
theorem WX.retCTS (ht : TI P T d sz by_ z) (hd : isAggD d = false) (hf : f.results = #[.cell u T, .tmp s]) (hu : env.get u = some (.pointer (some ad))) (hv : env.get s = some v) (hc : w.cell? ad = some x) (h : C (.returned (.tuple #[x, v])) w) : WX P n [] .ret (.fn f C) env w :=
  WX.end_ret (vs := fun _ => True) rfl fun a ha => ⟨_, results_CT ht hd hf (ha.get s _ hv) (ha.get u _ hu) hc, h⟩
theorem WX.retCCS {T2 : TypeId} {d2 : TypeDesc} {sz2 by2 : Nat} {z2 : Value} {ad2 : Addr} (ht : TI P T d sz by_ z) (hd : isAggD d = false) (ht2 : TI P T2 d2 sz2 by2 z2) (hd2 : isAggD d2 = false) (hf : f.results = #[.cell u T, .cell u2 T2])
    (hu : env.get u = some (.pointer (some ad))) (hc : w.cell? ad = some x) (hu2 : env.get u2 = some (.pointer (some ad2))) (hc2 : w.cell? ad2 = some y) (h : C (.returned (.tuple #[x, y])) w) : WX P n [] .ret (.fn f C) env w :=
  WX.end_ret (vs := fun _ => True) rfl fun a ha => ⟨_, results_CC ht hd ht2 hd2 hf (ha.get u _ hu) hc (ha.get u2 _ hu2) hc2, h⟩
end
section
variable {P : Program} {n' : Nat} {ds : List Deferred} {env : Env} {w w0 : World} {dst : Option Nat} {ty : TypeId} {pos : String} {aft : Array Edge} {gd : Option (Nat × Bool)} {R : Value → World → Prop}
variable {xs : List Nat} {H0 H : Hp} {M : Mem} {x y : Operand} {t e : TypeId} {d : TypeDesc} {sz by_ : Nat} {z : Value}
/-- append to a slice that is full: into new memory. -/
theorem OR.appendGrow {n m cap c : Nat} {b a : Addr} {cs news : List Value} (hs : HS xs H0 w0 H M w) (ht : P.underlying t = some (.slice e)) (he : TI P e d sz by_ z) (hzs : z.cells.size = sz) (hsz : 0 < sz)
    (hx : look env x = some (.slice (some b) n cap)) (hcs : cs.length = n * sz) (holds : ∀ j u, cs[j]? = some u → w.cell? (b.add j) = some u) (hy : look env y = some (.slice (some a) m c)) (hl : news.length = m * sz)
    (hnews : ∀ j u, news[j]? = some u → w.cell? (a.add j) = some u) (hroom : cap < n + m) (h63 : n + m ≤ 9223372036854775807) (hbytes : (n + m) * by_ ≤ 140737488355328)
    (hR : ∀ v' w' Mo', HS xs H0 w0 H (Mo' ++ M) w' → Own w0.heap.size e sz v' (n + m) (cs ++ news) Mo' → R v' w') :
    OR P n' ds ⟨dst, .call { callee := .builtin .append, args := #[x, y], argTypes := #[t, t] }, ty, pos, aft, gd⟩ env w R := by
  obtain ⟨inf, hi1, hi2, hi3, hi4⟩ := he.inf
  have hlen : (cs ++ news).length = (n + m) * sz := by rw [List.length_append, hcs, hl, Nat.add_mul]
  have hge := grownCap_ge w (n + m) cap e
  have hr := fun (tyy : TypeId) => run_append_grow (P := P) w t tyy e inf z ht hi1 hi4 b n cap cs (by rw [hi2]; exact hcs) holds a m c news (by rw [hi2]; exact hl) hnews (by omega) (by omega)
    (by rw [hi3]; exact growslice_fits (by omega) hbytes)
  refine .run (fun aa ha => execOp_append rfl (by rw [ha.look hx, ha.look hy]; exact hr ty)) (hR _ _ [_] (hs.drew.alloc _) (Own.block hge ?_ ?_ hs.size))
  · simp only [Array.size_append, List.size_toArray, size_zeroCells, hzs, hcs, hl, ← Nat.add_mul]
    congr 1
    omega
  · simp only [Array.toList_append, List.append_assoc]
    rw [← List.append_assoc, ← hlen]
    exact List.take_left
end
end Go.Bw
