/-
  The package proof: the law's own examples and Right, walked.
-/
import Derived.Test.YtcfoongiffpnlaaPrH
set_option linter.unusedVariables false
set_option linter.unusedSimpArgs false
namespace Go.Proofs.Ytcfoongiffpnlaa
open Go.RowKit

theorem st41 {O : VH} {k : Nat} {x0 x1 : MV} (h : O.hp k = some (.cells [x0, x1])) (a : Value) (n : Nat) (cs : List MV) (t : Tok) : vstore (tyOf Try.prog) O 41 (.ptr k 0) (.agg [.v a, .sl n cs t]) = some (O.set k (.cells [.v a, .sl n cs t])) := by
  simp [vstore, ty41, h, mcells, leafB, setMany]
theorem ld41 {O : VH} {k : Nat} {x0 x1 : MV} (h : O.hp k = some (.cells [x0, x1])) : vload (tyOf Try.prog) O 41 (.ptr k 0) = some (.agg [x0, x1]) := by
  rw [vload_pa ty41 ag41 h (by simp)]; rfl
theorem bd41 (a : Value) (n : Nat) (cs : List MV) (t : Tok) : vbuild (tyOf Try.prog) 41 [(0, .v a), (1, .sl n cs t)] = some (.agg [.v a, .sl n cs t]) := by kernel_rfl
theorem bd41' (n : Nat) (cs : List MV) (t : Tok) : vbuild (tyOf Try.prog) 41 [(1, .sl n cs t)] = some (.agg [.v (.int .i64 0), .sl n cs t]) := by kernel_rfl
theorem vbs3s {tab : Tab} {t el : TypeId} {u : TypeDesc} {a b d : Nat} {z : List MV} {y : MV} {k0 k1 k2 : Nat} {c0 c1 c2 : List MV} {t0 t1 t2 : Tok} (h : tab t = some ⟨.slice el, a, b, z⟩) (h2 : tab el = some ⟨u, 1, d, [y]⟩) : vbuildSlice tab t 3 [(0, .sl k0 c0 t0), (1, .sl k1 c1 t1), (2, .sl k2 c2 t2)] = some (.sl 3 [.sl k0 c0 t0, .sl k1 c1 t1, .sl k2 c2 t2] .full) := vbs3 h h2 rfl rfl rfl

theorem bad1 : Bad [[1, 2], [-1, 2]] [2] := by
  have u2 : UP [[1, 2], [-1, 2]] [2] (-2) := .base (by simp) (by decide)
  have u1 : UP [[1, 2], [-1, 2]] [2] 1 := .unit (C := [1, 2]) (by simp) (by simp) (by decide) fun m hm _ h => by
    simp only [List.mem_cons, List.not_mem_nil, or_false] at hm
    rcases hm with rfl | rfl
    · exact absurd rfl h
    · exact u2
  have um : UP [[1, 2], [-1, 2]] [2] (-1) := .unit (C := [-1, 2]) (by simp) (by simp) (by decide) fun m hm _ h => by
    simp only [List.mem_cons, List.not_mem_nil, or_false] at hm
    rcases hm with rfl | rfl
    · exact absurd rfl h
    · exact u2
  exact .inl ⟨1, u1, um⟩
theorem nbad1 : ¬ Bad [[1, 2], [-1, 2]] [1] := by
  refine not_bad (Y := fun n => n = -1 ∨ n = 2) (fun n hn _ => ?_) (fun C hC x hx _ h => ?_) (fun n a b => by omega) fun C hC h => ?_
  · simp only [List.mem_cons, List.not_mem_nil, or_false] at hn
    subst hn; simp
  · simp only [List.mem_cons, List.not_mem_nil, or_false] at hC
    rcases hC with rfl | rfl
    all_goals
      simp only [List.mem_cons, List.not_mem_nil, or_false] at hx
      rcases hx with rfl | rfl
    · have := h 2 (by simp) (by decide) (by decide); omega
    · exact .inr rfl
    · exact .inl rfl
    · exact .inr rfl
  · simp only [List.mem_cons, List.not_mem_nil, or_false] at hC
    rcases hC with rfl | rfl
    all_goals
      have := h 2 (by simp) (by decide); omega
theorem bad3 (X : List (List Int)) (c : List Int) : Bad ([[1, 2], [-1, 2], [-2]] ++ X) c := by
  have u2 : UP ([[1, 2], [-1, 2], [-2]] ++ X) c (-2) := .unit (C := [-2]) (by simp) (by simp) (by decide) fun m hm _ h => by
    simp only [List.mem_cons, List.not_mem_nil, or_false] at hm
    exact absurd hm h
  have u1 : UP ([[1, 2], [-1, 2], [-2]] ++ X) c 1 := .unit (C := [1, 2]) (by simp) (by simp) (by decide) fun m hm _ h => by
    simp only [List.mem_cons, List.not_mem_nil, or_false] at hm
    rcases hm with rfl | rfl
    · exact absurd rfl h
    · exact u2
  have um : UP ([[1, 2], [-1, 2], [-2]] ++ X) c (-1) := .unit (C := [-1, 2]) (by simp) (by simp) (by decide) fun m hm _ h => by
    simp only [List.mem_cons, List.not_mem_nil, or_false] at hm
    rcases hm with rfl | rfl
    · exact absurd rfl h
    · exact u2
  exact .inl ⟨1, u1, um⟩

set_option maxRecDepth 20000 in
/-- pomacelaw16.lives -/
theorem Lives_v (O : VH) : VF Try.prog 24 [] O (Ret fun m O' => m = mb true ∧ O.Ge O') := by
  have h0 := VH.push_new O (.cells [.v (.int .i64 0), .sl 0 [] .nil])
  have hq : ((O.push (.cells [.v (.int .i64 0), .sl 0 [] .nil])).set O.next (.cells [.v (.int .i64 2), .sl 3 [.sl 2 [.v (.int .i64 1), .v (.int .i64 2)] .full, .sl 2 [.v (.int .i64 (-1)), .v (.int .i64 2)] .full, .sl 1 [.v (.int .i64 (-2))] .full] .full])).hp O.next = _ := VH.set_get _ _ _
  have hge : O.Ge ((O.push (.cells [.v (.int .i64 0), .sl 0 [] .nil])).set O.next (.cells [.v (.int .i64 2), .sl 3 [.sl 2 [.v (.int .i64 1), .v (.int .i64 2)] .full, .sl 2 [.v (.int .i64 (-1)), .v (.int .i64 2)] .full, .sl 1 [.v (.int .i64 (-2))] .full] .full])) := ((VH.Ge.refl O).push _).set (Nat.le_refl _) _
  have hlt : O.next < ((O.push (.cells [.v (.int .i64 0), .sl 0 [] .nil])).set O.next (.cells [.v (.int .i64 2), .sl 3 [.sl 2 [.v (.int .i64 1), .v (.int .i64 2)] .full, .sl 2 [.v (.int .i64 (-1)), .v (.int .i64 2)] .full, .sl 1 [.v (.int .i64 (-2))] .full] .full])).next := Nat.lt_succ_self _
  have hs := fun n cs t => st41 h0 (.int .i64 2) n cs t
  refine VF.enter' tabOk Try.func24 (c := _) rfl (Nat.le_of_ble_eq_true rfl) ?_
  rw [show Try.f24.ntmps = 39 from rfl]
  simp only [argEnv, Nat.zero_add, Nat.reduceAdd]
  repeat' first
    | with_reducible refine VC.seq' ?_
    | with_reducible refine VC.block' ?_
    | with_reducible refine VC.skip ?_
    | with_reducible refine VC.label ?_
    | with_reducible refine VC.scope ?_
    | with_reducible refine VC.exit ?_
    | with_reducible refine VC.ret ?_
    | with_reducible refine VL.nil ?_
    | ((first | with_reducible apply VC.plainL | with_reducible apply VC.readsL (by kernel_rfl) (by kernel_rfl) (by kernel_rfl)); (with_reducible apply VL.run tabOk); (· (simp (disch := omega) only [vset, wset, ints, bools, strs, undefM, Nat.reduceLT, Nat.reduceAdd, Nat.reduceBEq, Int.reduceToNat, vbs2v ty22 ty3, vbs1v ty22 ty3, vbs2s ty24 ty22, vbs3s ty24 ty22, bd41, hs, ty41] <;> exact rfl)))
    | ((with_reducible apply VC.cond); (· (simp (disch := omega) only [vset, wset, ints, bools, strs, undefM, Nat.reduceLT, Nat.reduceAdd, Nat.reduceBEq, Int.reduceToNat, vbs2v ty22 ty3, vbs1v ty22 ty3, vbs2s ty24 ty22, vbs3s ty24 ty22, bd41, hs, ty41] <;> exact rfl)); all_goals (intro hcond; try simp only [decide_eq_true_eq, decide_eq_false_iff_not, beq_iff_eq, beq_eq_false_iff_ne, bne_iff_ne, bne_eq_false_iff_eq, ne_eq, reduceCtorEq] at hcond))
    | simp only [qset, Nat.reduceEqDiff, reduceIte]
    | ((apply EndQ.ret1 rfl); (· (simp only [look_cons, Nat.reduceBEq, cond_true, cond_false] <;> exact rfl)))
    | ((apply EndQ.ret2 rfl); (· (simp only [look_cons, Nat.reduceBEq, cond_true, cond_false] <;> exact rfl)); (· (simp only [look_cons, Nat.reduceBEq, cond_true, cond_false] <;> exact rfl)))
    | (refine EndQ.ret0 rfl ?_)
    | (refine EndQ.nor0 rfl ?_)
  generalize (O.push (.cells [.v (.int .i64 0), .sl 0 [] .nil])).set O.next (.cells [.v (.int .i64 2), .sl 3 [.sl 2 [.v (.int .i64 1), .v (.int .i64 2)] .full, .sl 2 [.v (.int .i64 (-1)), .v (.int .i64 2)] .full, .sl 1 [.v (.int .i64 (-2))] .full] .full]) = O1 at *
  generalize O.next = b at *
  clear h0 hs
  apply VL.callR (id := 25) (hE := Enters.of Try.func25 (by decide) (by decide)) (hR := Follows_v [([1, 2], .full), ([-1, 2], .full)] [2] .full .full O1 (by decide) (by decide) (by decide) (by simp [InR]) (by simp [InR]))
  · exact rfl
  · (simp (disch := omega) only [vset, wset, ints, bools, strs, undefM, Nat.reduceLT, Nat.reduceAdd, Nat.reduceBEq, Int.reduceToNat] <;> exact rfl)
  · (simp (disch := omega) only [vset, wset, ints, bools, strs, undefM, Nat.reduceLT, Nat.reduceAdd, Nat.reduceBEq, Int.reduceToNat] <;> exact rfl)
  · exact rfl
  · exact rfl
  rintro _ O2 ⟨r, rfl, hr, hge2⟩
  obtain rfl : r = true := hr.2 bad1
  apply VL.run tabOk
  · (simp (disch := omega) only [vset, wset, ints, bools, strs, undefM, Nat.reduceLT, Nat.reduceAdd, Nat.reduceBEq, Int.reduceToNat, vbs1v ty22 ty3] <;> exact rfl)
  apply VL.callR (id := 25) (hE := Enters.of Try.func25 (by decide) (by decide)) (hR := Follows_v [([1, 2], .full), ([-1, 2], .full)] [1] .full .full O2 (by decide) (by decide) (by decide) (by simp [InR]) (by simp [InR]))
  · exact rfl
  · (simp (disch := omega) only [vset, wset, ints, bools, strs, undefM, Nat.reduceLT, Nat.reduceAdd, Nat.reduceBEq, Int.reduceToNat] <;> exact rfl)
  · (simp (disch := omega) only [vset, wset, ints, bools, strs, undefM, Nat.reduceLT, Nat.reduceAdd, Nat.reduceBEq, Int.reduceToNat] <;> exact rfl)
  · exact rfl
  · exact rfl
  rintro _ O3 ⟨r, rfl, hr, hge3⟩
  obtain rfl : r = false := by
    cases r with
    | false => rfl
    | true => exact absurd (hr.1 rfl) nbad1
  clear hr
  have hq3 := ((hge2.trans hge3).hp _ hlt).trans hq
  have hlt3 := Nat.lt_of_lt_of_le hlt (hge2.trans hge3).next
  apply VL.run tabOk
  · (simp (disch := omega) only [vset, wset, ints, bools, strs, undefM, Nat.reduceLT, Nat.reduceAdd, Nat.reduceBEq, Int.reduceToNat, vbs1v ty22 ty3, vbs0 ty22 ty3, vbs2s ty24 ty22, ld41 hq3] <;> exact rfl)
  apply VL.callR (id := 27) (hE := Enters.of Try.func27 (by decide) (by decide)) (hR := Check_v 2 [([1, 2], .full), ([-1, 2], .full), ([-2], .full)] [([2], .full), ([], .full)] .full .full O3 (by decide) (by decide) (by decide) (by decide) (by simp [InR]) (by simp [InR]))
  · exact rfl
  · (simp (disch := omega) only [vset, wset, ints, bools, strs, undefM, Nat.reduceLT, Nat.reduceAdd, Nat.reduceBEq, Int.reduceToNat] <;> exact rfl)
  · (simp (disch := omega) only [vset, wset, ints, bools, strs, undefM, Nat.reduceLT, Nat.reduceAdd, Nat.reduceBEq, Int.reduceToNat] <;> exact rfl)
  · exact rfl
  · exact rfl
  rintro _ O4 ⟨r, rfl, hr, hge4⟩
  obtain rfl := hr.uniq (s := -1) (.inr ⟨fun j _ => bad3 _ _, by decide⟩)
  have hq4 := (hge4.hp _ hlt3).trans hq3
  have hlt4 := Nat.lt_of_lt_of_le hlt3 hge4.next
  apply VL.run tabOk
  · (simp (disch := omega) only [vset, wset, ints, bools, strs, undefM, Nat.reduceLT, Nat.reduceAdd, Nat.reduceBEq, Int.reduceToNat, vbs1s ty24 ty22, ld41 hq4] <;> exact rfl)
  apply VL.callR (id := 27) (hE := Enters.of Try.func27 (by decide) (by decide)) (hR := Check_v 2 [([1, 2], .full), ([-1, 2], .full), ([-2], .full)] [([], .nil)] .full .full O4 (by decide) (by decide) (by decide) (by decide) (by simp [InR]) (by simp [InR]))
  · exact rfl
  · (simp (disch := omega) only [vset, wset, ints, bools, strs, undefM, Nat.reduceLT, Nat.reduceAdd, Nat.reduceBEq, Int.reduceToNat] <;> exact rfl)
  · (simp (disch := omega) only [vset, wset, ints, bools, strs, undefM, Nat.reduceLT, Nat.reduceAdd, Nat.reduceBEq, Int.reduceToNat] <;> exact rfl)
  · exact rfl
  · exact rfl
  rintro _ O5 ⟨r, rfl, hr5, hge5⟩
  obtain rfl := hr5.uniq (s := -1) (.inr ⟨fun j _ => bad3 _ _, by decide⟩)
  have hq5 := (hge5.hp _ hlt4).trans hq4
  apply VL.run tabOk
  · (simp (disch := omega) only [vset, wset, ints, bools, strs, undefM, Nat.reduceLT, Nat.reduceAdd, Nat.reduceBEq, Int.reduceToNat, ld41 hq5] <;> exact rfl)
  apply VL.callR (id := 27) (hE := Enters.of Try.func27 (by decide) (by decide)) (hR := Check_v 2 [([1, 2], .full), ([-1, 2], .full), ([-2], .full)] [] .full .nil O5 (by decide) (by decide) (by decide) (by decide) (by simp [InR]) (by simp [InR]))
  · exact rfl
  · (simp (disch := omega) only [vset, wset, ints, bools, strs, undefM, Nat.reduceLT, Nat.reduceAdd, Nat.reduceBEq, Int.reduceToNat] <;> exact rfl)
  · (simp (disch := omega) only [vset, wset, ints, bools, strs, undefM, Nat.reduceLT, Nat.reduceAdd, Nat.reduceBEq, Int.reduceToNat] <;> exact rfl)
  · exact rfl
  · exact rfl
  rintro _ O6 ⟨r, rfl, hr6, hge6⟩
  obtain rfl := hr6.uniq (s := 0) (.inr ⟨fun j _ => bad3 _ _, by decide⟩)
  apply VL.run tabOk
  · (simp (disch := omega) only [vset, wset, ints, bools, strs, undefM, Nat.reduceLT, Nat.reduceAdd, Nat.reduceBEq, Int.reduceToNat] <;> exact rfl)
  repeat' first
    | with_reducible refine VC.seq' ?_
    | with_reducible refine VC.block' ?_
    | with_reducible refine VC.skip ?_
    | with_reducible refine VC.label ?_
    | with_reducible refine VC.scope ?_
    | with_reducible refine VC.exit ?_
    | with_reducible refine VC.ret ?_
    | with_reducible refine VL.nil ?_
    | ((first | with_reducible apply VC.plainL | with_reducible apply VC.readsL (by kernel_rfl) (by kernel_rfl) (by kernel_rfl)); (with_reducible apply VL.run tabOk); (· (simp (disch := omega) only [vset, wset, ints, bools, strs, undefM, Nat.reduceLT, Nat.reduceAdd, Nat.reduceBEq, Int.reduceToNat] <;> exact rfl)))
    | ((with_reducible apply VC.cond); (· (simp (disch := omega) only [vset, wset, ints, bools, strs, undefM, Nat.reduceLT, Nat.reduceAdd, Nat.reduceBEq, Int.reduceToNat] <;> exact rfl)); all_goals (intro hcond; try simp only [decide_eq_true_eq, decide_eq_false_iff_not, beq_iff_eq, beq_eq_false_iff_ne, bne_iff_ne, bne_eq_false_iff_eq, ne_eq, reduceCtorEq] at hcond))
    | simp only [qset, Nat.reduceEqDiff, reduceIte]
    | ((apply EndQ.ret1 rfl); (· (simp only [look_cons, Nat.reduceBEq, cond_true, cond_false] <;> exact rfl)))
    | ((apply EndQ.ret2 rfl); (· (simp only [look_cons, Nat.reduceBEq, cond_true, cond_false] <;> exact rfl)); (· (simp only [look_cons, Nat.reduceBEq, cond_true, cond_false] <;> exact rfl)))
    | (refine EndQ.ret0 rfl ?_)
    | (refine EndQ.nor0 rfl ?_)
  exact ⟨rfl, ((((hge.trans hge2).trans hge3).trans hge4).trans hge5).trans hge6⟩
end Go.Proofs.Ytcfoongiffpnlaa
