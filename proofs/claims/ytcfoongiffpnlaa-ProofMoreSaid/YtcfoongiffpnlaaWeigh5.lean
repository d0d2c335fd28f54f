/-
  pomacelaw21.lives and the laws WeighCounts, WeighClauses, walked.
-/
import Derived.Test.YtcfoongiffpnlaaWeigh4
set_option linter.unusedVariables false
set_option linter.unusedSimpArgs false
namespace Go.Proofs.Ytcfoongiffpnlaa
open Go.RowKit

theorem cl2 {cl : List (List Int × Tok)} {a b : List Int} (h : cl.map (·.1) = [a, b]) : ∃ s t, cl = [(a, s), (b, t)] := by
  match cl, h with
  | [(x, s), (y, t)], h =>
    simp only [List.map_cons, List.map_nil, List.cons.injEq, and_true] at h
    obtain ⟨rfl, rfl⟩ := h
    exact ⟨s, t, rfl⟩
  | [], h => cases h
  | [_], h => simp at h
  | _ :: _ :: _ :: _, h => simp at h

set_option maxRecDepth 20000 in
/-- pomacelaw21.lives -/
theorem lives_v (O : VH) : VF Try.prog 15 [] O (Ret fun m O' => m = mb true ∧ O.Ge O') := by
  refine VF.enter' tabOk Try.func15 (c := _) rfl (Nat.le_of_ble_eq_true rfl) ?_
  rw [show Try.f15.ntmps = 77 from rfl]
  simp only [argEnv, Nat.zero_add, Nat.reduceAdd]
  have hx : ∀ x ∈ [(1 : Int), 2], -1000000 ≤ x ∧ x ≤ 1000000 := by decide
  repeat' first
    | with_reducible refine VC.seq' ?_
    | with_reducible refine VC.block' ?_
    | with_reducible refine VC.skip ?_
    | with_reducible refine VC.label ?_
    | with_reducible refine VC.scope ?_
    | with_reducible refine VC.exit ?_
    | with_reducible refine VC.ret ?_
    | with_reducible refine VL.nil ?_
    | ((first | with_reducible apply VC.plainL | with_reducible apply VC.readsL (by kernel_rfl) (by kernel_rfl) (by kernel_rfl)); (with_reducible apply VL.run tabOk); (· (simp (disch := omega) only [vset, wset, ints, bools, strs, undefM, Nat.reduceLT, Nat.reduceAdd, Nat.reduceBEq, Int.reduceToNat, vbs2v ty22 ty3] <;> exact rfl)))
    | ((with_reducible apply VC.cond); (· (simp (disch := omega) only [vset, wset, ints, bools, strs, undefM, Nat.reduceLT, Nat.reduceAdd, Nat.reduceBEq, Int.reduceToNat, vbs2v ty22 ty3] <;> exact rfl)); all_goals (intro hcond; try simp only [decide_eq_true_eq, decide_eq_false_iff_not, beq_iff_eq, beq_eq_false_iff_ne, bne_iff_ne, bne_eq_false_iff_eq, ne_eq, reduceCtorEq] at hcond))
    | simp only [qset, Nat.reduceEqDiff, reduceIte]
    | ((apply EndQ.ret1 rfl); (· (simp only [look_cons, Nat.reduceBEq, cond_true, cond_false] <;> exact rfl)))
    | ((apply EndQ.ret2 rfl); (· (simp only [look_cons, Nat.reduceBEq, cond_true, cond_false] <;> exact rfl)); (· (simp only [look_cons, Nat.reduceBEq, cond_true, cond_false] <;> exact rfl)))
    | (refine EndQ.ret0 rfl ?_)
    | (refine EndQ.nor0 rfl ?_)
  apply VL.callR (id := 14) (hE := Enters.of Try.func14 (by decide) (by decide)) (hR := AtMost_v [1, 2] 1 3 .full O hx (by decide) (by decide) (by decide))
  · exact rfl
  · (simp (disch := omega) only [vset, wset, ints, bools, strs, undefM, Nat.reduceLT, Nat.reduceAdd, Nat.reduceBEq, Int.reduceToNat, vextract] <;> exact rfl)
  · (simp (disch := omega) only [vset, wset, ints, bools, strs, undefM, Nat.reduceLT, Nat.reduceAdd, Nat.reduceBEq, Int.reduceToNat, vextract] <;> exact rfl)
  · exact rfl
  · exact rfl
  rintro _ O2 ⟨hge, cl, s, hcl, rfl⟩
  apply VL.run tabOk
  · (simp (disch := omega) only [vset, wset, ints, bools, strs, undefM, Nat.reduceLT, Nat.reduceAdd, Nat.reduceBEq, Int.reduceToNat, vextract] <;> exact rfl)
  obtain ⟨t1, t2, rfl⟩ := cl2 (a := [-1, 3]) (b := [-2, -3]) (by rw [hcl]; decide)
  rw [show (am [1, 2] 1 3).2 = 4 by decide]
  repeat' first
    | with_reducible refine VC.seq' ?_
    | with_reducible refine VC.block' ?_
    | with_reducible refine VC.skip ?_
    | with_reducible refine VC.label ?_
    | with_reducible refine VC.scope ?_
    | with_reducible refine VC.exit ?_
    | with_reducible refine VC.ret ?_
    | with_reducible refine VL.nil ?_
    | ((first | with_reducible apply VC.plainL | with_reducible apply VC.readsL (by kernel_rfl) (by kernel_rfl) (by kernel_rfl)); (with_reducible apply VL.run tabOk); (· (simp (disch := omega) only [vset, wset, ints, bools, strs, undefM, Nat.reduceLT, Nat.reduceAdd, Nat.reduceBEq, Int.reduceToNat, vbs2v ty22 ty3] <;> exact rfl)))
    | ((with_reducible apply VC.cond); (· (simp (disch := omega) only [vset, wset, ints, bools, strs, undefM, Nat.reduceLT, Nat.reduceAdd, Nat.reduceBEq, Int.reduceToNat, vbs2v ty22 ty3] <;> exact rfl)); all_goals (intro hcond; try simp only [decide_eq_true_eq, decide_eq_false_iff_not, beq_iff_eq, beq_eq_false_iff_ne, bne_iff_ne, bne_eq_false_iff_eq, ne_eq, reduceCtorEq] at hcond))
    | simp only [qset, Nat.reduceEqDiff, reduceIte]
    | ((apply EndQ.ret1 rfl); (· (simp only [look_cons, Nat.reduceBEq, cond_true, cond_false] <;> exact rfl)))
    | ((apply EndQ.ret2 rfl); (· (simp only [look_cons, Nat.reduceBEq, cond_true, cond_false] <;> exact rfl)); (· (simp only [look_cons, Nat.reduceBEq, cond_true, cond_false] <;> exact rfl)))
    | (refine EndQ.ret0 rfl ?_)
    | (refine EndQ.nor0 rfl ?_)
  apply VL.callR (id := 14) (hE := Enters.of Try.func14 (by decide) (by decide)) (hR := AtMost_v [1, 2] 0 3 .full O2 hx (by decide) (by decide) (by decide))
  · exact rfl
  · (simp (disch := omega) only [vset, wset, ints, bools, strs, undefM, Nat.reduceLT, Nat.reduceAdd, Nat.reduceBEq, Int.reduceToNat, vextract] <;> exact rfl)
  · (simp (disch := omega) only [vset, wset, ints, bools, strs, undefM, Nat.reduceLT, Nat.reduceAdd, Nat.reduceBEq, Int.reduceToNat, vextract] <;> exact rfl)
  · exact rfl
  · exact rfl
  rintro _ O3 ⟨hge2, cl, s', hcl2, rfl⟩
  apply VL.run tabOk
  · (simp (disch := omega) only [vset, wset, ints, bools, strs, undefM, Nat.reduceLT, Nat.reduceAdd, Nat.reduceBEq, Int.reduceToNat, vextract] <;> exact rfl)
  obtain ⟨t3, t4, rfl⟩ := cl2 (a := [-1]) (b := [-2]) (by rw [hcl2]; decide)
  rw [show (am [1, 2] 0 3).2 = 3 by decide]
  repeat' first
    | with_reducible refine VC.seq' ?_
    | with_reducible refine VC.block' ?_
    | with_reducible refine VC.skip ?_
    | with_reducible refine VC.label ?_
    | with_reducible refine VC.scope ?_
    | with_reducible refine VC.exit ?_
    | with_reducible refine VC.ret ?_
    | with_reducible refine VL.nil ?_
    | ((first | with_reducible apply VC.plainL | with_reducible apply VC.readsL (by kernel_rfl) (by kernel_rfl) (by kernel_rfl)); (with_reducible apply VL.run tabOk); (· (simp (disch := omega) only [vset, wset, ints, bools, strs, undefM, Nat.reduceLT, Nat.reduceAdd, Nat.reduceBEq, Int.reduceToNat, vlen_sl ty24, vlen_sl ty22, vix_sl ty24 ty22, vload_c ty22 rfl, vix_sl ty22 ty3, vload_c ty3 rfl, clM, List.length_cons, List.length_nil] <;> exact rfl)))
    | ((with_reducible apply VC.cond); (· (simp (disch := omega) only [vset, wset, ints, bools, strs, undefM, Nat.reduceLT, Nat.reduceAdd, Nat.reduceBEq, Int.reduceToNat, vlen_sl ty24, vlen_sl ty22, vix_sl ty24 ty22, vload_c ty22 rfl, vix_sl ty22 ty3, vload_c ty3 rfl, clM, List.length_cons, List.length_nil] <;> exact rfl)); all_goals (intro hcond; try simp only [decide_eq_true_eq, decide_eq_false_iff_not, beq_iff_eq, beq_eq_false_iff_ne, bne_iff_ne, bne_eq_false_iff_eq, ne_eq, reduceCtorEq] at hcond))
    | simp only [qset, Nat.reduceEqDiff, reduceIte]
    | ((apply EndQ.ret1 rfl); (· (simp only [look_cons, Nat.reduceBEq, cond_true, cond_false] <;> exact rfl)))
    | ((apply EndQ.ret2 rfl); (· (simp only [look_cons, Nat.reduceBEq, cond_true, cond_false] <;> exact rfl)); (· (simp only [look_cons, Nat.reduceBEq, cond_true, cond_false] <;> exact rfl)))
    | (refine EndQ.ret0 rfl ?_)
    | (refine EndQ.nor0 rfl ?_)
  exact ⟨rfl, hge.trans hge2⟩

theorem norm_bounds (n : Int) : (1 ≤ norm n ∧ norm n ≤ 1000) ∨ (-1000 ≤ norm n ∧ norm n ≤ -1) := by
  have := tmod_bounds n
  unfold norm
  split <;> omega
theorem tru_pos : ∀ (ts : List Bool) (k : Nat) (n : Int), 1 ≤ n - k → tru n k ts = (ts[(n - 1 - k).toNat]?).getD false
  | [], k, n, h => by
    rw [tru, decide_eq_false (by omega)]; rfl
  | t :: ts, k, n, h => by
    rw [tru]
    by_cases e : n = k + 1
    · rw [if_pos e, show (n - 1 - k).toNat = 0 by omega]; rfl
    · rw [if_neg e, if_neg (by omega)]
      have := tru_pos ts (k + 1) n (by omega)
      rw [show ((k + 1 : Nat) : Int) = (k : Int) + 1 by omega] at this
      rw [this, show (n - 1 - (k : Int)).toNat = (n - 1 - ((k : Int) + 1)).toNat + 1 by omega, List.getElem?_cons_succ]
theorem tru_neg : ∀ (ts : List Bool) (k : Nat) (n : Int), 1 ≤ -n - k → tru n k ts = !((ts[(-n - 1 - k).toNat]?).getD false)
  | [], k, n, h => by
    rw [tru, decide_eq_true (by omega)]; rfl
  | t :: ts, k, n, h => by
    rw [tru, if_neg (by omega)]
    by_cases e : n = -(k + 1)
    · rw [if_pos e, show (-n - 1 - k).toNat = 0 by omega]; rfl
    · rw [if_neg e]
      have := tru_neg ts (k + 1) n (by omega)
      rw [show ((k + 1 : Nat) : Int) = (k : Int) + 1 by omega] at this
      rw [this, show (-n - 1 - (k : Int)).toNat = (-n - 1 - ((k : Int) + 1)).toNat + 1 by omega, List.getElem?_cons_succ]
theorem isT_eq (ts : List Bool) (y : Int) (h : y ≠ 0) : isT ts y = (ts[(max y (-y) - 1).toNat]?).getD false := by
  rw [isT, decide_eq_true (by omega : max y (-y) ≥ 1), Bool.true_and]
  by_cases h2 : max y (-y) ≤ ts.length
  · rw [decide_eq_true h2, Bool.true_and]
  · rw [decide_eq_false h2, Bool.false_and, List.getElem?_eq_none (by omega)]; rfl
theorem tru_isT (ts : List Bool) (y : Int) (h : y ≠ 0) : tru y 0 ts = (isT ts y == decide (y > 0)) := by
  rw [isT_eq ts y h]
  by_cases hp : y > 0
  · have := tru_pos ts 0 y (by omega)
    simp only [Int.natCast_zero, Int.sub_zero] at this
    rw [this, decide_eq_true hp, show max y (-y) = y by omega, beqT]
  · have := tru_neg ts 0 y (by omega)
    simp only [Int.natCast_zero, Int.sub_zero] at this
    rw [this, decide_eq_false hp, show max y (-y) = -y by omega, beqF]

/-- pomacelaw21.WeighCounts -/
theorem law5_v (l : List Int) (ts : List Bool) (tk tk' : Tok) (O : VH) (hl : (l.length : Int) ≤ 9223372036854775807) :
    VF Try.prog 5 [.sl l.length (l.map mi) tk, .sl ts.length (ts.map mb) tk'] O (Ret fun m O' => m = mb true) := by
  refine VF.enter' tabOk Try.func5 (c := _) rfl (Nat.le_of_ble_eq_true rfl) ?_
  rw [show Try.f5.ntmps = 35 from rfl]
  simp only [argEnv, Nat.zero_add, Nat.reduceAdd]
  repeat' first
    | with_reducible refine VC.seq' ?_
    | with_reducible refine VC.block' ?_
    | with_reducible refine VC.skip ?_
    | with_reducible refine VC.label ?_
    | with_reducible refine VC.scope ?_
    | with_reducible refine VC.exit ?_
    | with_reducible refine VC.ret ?_
    | with_reducible refine VL.nil ?_
    | ((first | with_reducible apply VC.plainL | with_reducible apply VC.readsL (by kernel_rfl) (by kernel_rfl) (by kernel_rfl)); (with_reducible apply VL.run tabOk); (· (simp (disch := omega) only [vset, wset, ints, bools, strs, undefM, Nat.reduceLT, Nat.reduceAdd, Nat.reduceBEq, Int.reduceToNat] <;> exact rfl)))
    | ((with_reducible apply VC.cond); (· (simp (disch := omega) only [vset, wset, ints, bools, strs, undefM, Nat.reduceLT, Nat.reduceAdd, Nat.reduceBEq, Int.reduceToNat] <;> exact rfl)); all_goals (intro hcond; try simp only [decide_eq_true_eq, decide_eq_false_iff_not, beq_iff_eq, beq_eq_false_iff_ne, bne_iff_ne, bne_eq_false_iff_eq, ne_eq, reduceCtorEq] at hcond))
    | simp only [qset, Nat.reduceEqDiff, reduceIte]
    | ((apply EndQ.ret1 rfl); (· (simp only [look_cons, Nat.reduceBEq, cond_true, cond_false] <;> exact rfl)))
    | ((apply EndQ.ret2 rfl); (· (simp only [look_cons, Nat.reduceBEq, cond_true, cond_false] <;> exact rfl)); (· (simp only [look_cons, Nat.reduceBEq, cond_true, cond_false] <;> exact rfl)))
    | (refine EndQ.ret0 rfl ?_)
    | (refine EndQ.nor0 rfl ?_)
  apply VL.callR (id := 13) (hE := Enters.of Try.func13 (by decide) (by decide)) (hR := own_v l 60 tk O (by omega) (by omega) hl)
  · exact rfl
  · (simp (disch := omega) only [vset, wset, ints, bools, strs, undefM, Nat.reduceLT, Nat.reduceAdd, Nat.reduceBEq, Int.reduceToNat] <;> exact rfl)
  · (simp (disch := omega) only [vset, wset, ints, bools, strs, undefM, Nat.reduceLT, Nat.reduceAdd, Nat.reduceBEq, Int.reduceToNat] <;> exact rfl)
  · exact rfl
  · exact rfl
  rintro _ O2 ⟨hge, s, rfl, -⟩
  apply VL.run tabOk
  · (simp (disch := omega) only [vset, wset, ints, bools, strs, undefM, Nat.reduceLT, Nat.reduceAdd, Nat.reduceBEq, Int.reduceToNat] <;> exact rfl)
  by_cases h100 : (ts.length : Int) > 100
  · repeat' first
      | with_reducible refine VC.seq' ?_
      | with_reducible refine VC.block' ?_
      | with_reducible refine VC.skip ?_
      | with_reducible refine VC.label ?_
      | with_reducible refine VC.scope ?_
      | with_reducible refine VC.exit ?_
      | with_reducible refine VC.ret ?_
      | with_reducible refine VL.nil ?_
      | ((first | with_reducible apply VC.plainL | with_reducible apply VC.readsL (by kernel_rfl) (by kernel_rfl) (by kernel_rfl)); (with_reducible apply VL.run tabOk); (· (simp (disch := omega) only [vset, wset, ints, bools, strs, undefM, Nat.reduceLT, Nat.reduceAdd, Nat.reduceBEq, Int.reduceToNat, vlen_sl ty27] <;> exact rfl)))
      | ((with_reducible apply VC.cond); (· (simp (disch := omega) only [vset, wset, ints, bools, strs, undefM, Nat.reduceLT, Nat.reduceAdd, Nat.reduceBEq, Int.reduceToNat, vlen_sl ty27] <;> exact rfl)); all_goals (intro hcond; try simp only [decide_eq_true_eq, decide_eq_false_iff_not, beq_iff_eq, beq_eq_false_iff_ne, bne_iff_ne, bne_eq_false_iff_eq, ne_eq, reduceCtorEq] at hcond))
      | simp only [qset, Nat.reduceEqDiff, reduceIte]
      | ((apply EndQ.ret1 rfl); (· (simp only [look_cons, Nat.reduceBEq, cond_true, cond_false] <;> exact rfl)))
      | ((apply EndQ.ret2 rfl); (· (simp only [look_cons, Nat.reduceBEq, cond_true, cond_false] <;> exact rfl)); (· (simp only [look_cons, Nat.reduceBEq, cond_true, cond_false] <;> exact rfl)))
      | (refine EndQ.ret0 rfl ?_)
      | (refine EndQ.nor0 rfl ?_)
    apply VL.callR (id := 15) (hE := Enters.of Try.func15 (by decide) (by decide)) (hR := lives_v O2)
    · exact rfl
    · (simp (disch := omega) only [vset, wset, ints, bools, strs, undefM, Nat.reduceLT, Nat.reduceAdd, Nat.reduceBEq, Int.reduceToNat] <;> exact rfl)
    · (simp (disch := omega) only [vset, wset, ints, bools, strs, undefM, Nat.reduceLT, Nat.reduceAdd, Nat.reduceBEq, Int.reduceToNat] <;> exact rfl)
    · exact rfl
    · exact rfl
    rintro _ O3 ⟨rfl, hge2⟩
    apply VL.run tabOk
    · (simp (disch := omega) only [vset, wset, ints, bools, strs, undefM, Nat.reduceLT, Nat.reduceAdd, Nat.reduceBEq, Int.reduceToNat] <;> exact rfl)
    repeat' first
      | with_reducible refine VC.seq' ?_
      | with_reducible refine VC.block' ?_
      | with_reducible refine VC.skip ?_
      | with_reducible refine VC.label ?_
      | with_reducible refine VC.scope ?_
      | with_reducible refine VC.exit ?_
      | with_reducible refine VC.ret ?_
      | with_reducible refine VL.nil ?_
      | ((first | with_reducible apply VC.plainL | with_reducible apply VC.readsL (by kernel_rfl) (by kernel_rfl) (by kernel_rfl)); (with_reducible apply VL.run tabOk); (· (simp (disch := omega) only [vset, wset, ints, bools, strs, undefM, Nat.reduceLT, Nat.reduceAdd, Nat.reduceBEq, Int.reduceToNat] <;> exact rfl)))
      | ((with_reducible apply VC.cond); (· (simp (disch := omega) only [vset, wset, ints, bools, strs, undefM, Nat.reduceLT, Nat.reduceAdd, Nat.reduceBEq, Int.reduceToNat] <;> exact rfl)); all_goals (intro hcond; try simp only [decide_eq_true_eq, decide_eq_false_iff_not, beq_iff_eq, beq_eq_false_iff_ne, bne_iff_ne, bne_eq_false_iff_eq, ne_eq, reduceCtorEq] at hcond))
      | simp only [qset, Nat.reduceEqDiff, reduceIte]
      | ((apply EndQ.ret1 rfl); (· (simp only [look_cons, Nat.reduceBEq, cond_true, cond_false] <;> exact rfl)))
      | ((apply EndQ.ret2 rfl); (· (simp only [look_cons, Nat.reduceBEq, cond_true, cond_false] <;> exact rfl)); (· (simp only [look_cons, Nat.reduceBEq, cond_true, cond_false] <;> exact rfl)))
      | (refine EndQ.ret0 rfl ?_)
      | (refine EndQ.nor0 rfl ?_)
    exact rfl
  have hxs : ∀ x ∈ (l.take 60).map norm, (1 ≤ x ∧ x ≤ 1000) ∨ (-1000 ≤ x ∧ x ≤ -1) := fun x hx => by
    obtain ⟨y, _, rfl⟩ := List.mem_map.1 hx
    exact norm_bounds y
  have hxl : ((l.take 60).map norm).length ≤ 60 := by rw [List.length_map]; exact List.length_take_le _ _
  generalize (l.take 60).map norm = xs at *
  repeat' first
    | with_reducible refine VC.seq' ?_
    | with_reducible refine VC.block' ?_
    | with_reducible refine VC.skip ?_
    | with_reducible refine VC.label ?_
    | with_reducible refine VC.scope ?_
    | with_reducible refine VC.exit ?_
    | with_reducible refine VC.ret ?_
    | with_reducible refine VL.nil ?_
    | ((first | with_reducible apply VC.plainL | with_reducible apply VC.readsL (by kernel_rfl) (by kernel_rfl) (by kernel_rfl)); (with_reducible apply VL.run tabOk); (· (simp (disch := omega) only [vset, wset, ints, bools, strs, undefM, Nat.reduceLT, Nat.reduceAdd, Nat.reduceBEq, Int.reduceToNat, vlen_sl ty27, vlen_sl ty22] <;> exact rfl)))
    | ((with_reducible apply VC.cond); (· (simp (disch := omega) only [vset, wset, ints, bools, strs, undefM, Nat.reduceLT, Nat.reduceAdd, Nat.reduceBEq, Int.reduceToNat, vlen_sl ty27, vlen_sl ty22] <;> exact rfl)); all_goals (intro hcond; try simp only [decide_eq_true_eq, decide_eq_false_iff_not, beq_iff_eq, beq_eq_false_iff_ne, bne_iff_ne, bne_eq_false_iff_eq, ne_eq, reduceCtorEq] at hcond))
    | simp only [qset, Nat.reduceEqDiff, reduceIte]
    | ((apply EndQ.ret1 rfl); (· (simp only [look_cons, Nat.reduceBEq, cond_true, cond_false] <;> exact rfl)))
    | ((apply EndQ.ret2 rfl); (· (simp only [look_cons, Nat.reduceBEq, cond_true, cond_false] <;> exact rfl)); (· (simp only [look_cons, Nat.reduceBEq, cond_true, cond_false] <;> exact rfl)))
    | (refine EndQ.ret0 rfl ?_)
    | (refine EndQ.nor0 rfl ?_)
  refine VC.loopS' [1, 5, 6, 15, 16, 17] (fun j : Nat => [.sl ts.length (ts.map mb) tk', .sl xs.length (xs.map mi) s, mi (cnt ts (xs.take j)), .sl xs.length (xs.map mi) s, mi xs.length, mi j])
    (fun j O' => j ≤ xs.length ∧ O' = O2) (fun j => xs.length - j) 0 ?_ ⟨by omega, rfl⟩ ?_
  · (simp only [vset, wset, ints, bools, strs, undefM, Nat.reduceLT, Nat.reduceAdd, Nat.reduceBEq, Int.reduceToNat] <;> exact rfl)
  rintro j O' ⟨hj, rfl⟩
  rw [pair_cons]
  by_cases h2 : j < xs.length
  · have hb := hxs xs[j] (List.getElem_mem h2)
    have hc : cnt ts (xs.take (j + 1)) = cnt ts (xs.take j) + if tru xs[j] 0 ts = true then 1 else 0 := by
      rw [take_snoc xs j h2, cnt, List.filter_append, List.length_append, tru_isT ts xs[j] (by omega)]
      by_cases h : (isT ts xs[j] == decide (xs[j] > 0)) = true
      · rw [List.filter_cons_of_pos (by simpa using h), if_pos h]; rfl
      · rw [List.filter_cons_of_neg (by simpa using h), if_neg h]; rfl
    have hk : cnt ts (xs.take j) ≤ j := Nat.le_trans (List.length_filter_le _ _) (by simp; omega)
    repeat' first
      | with_reducible refine VC.seq' ?_
      | with_reducible refine VC.block' ?_
      | with_reducible refine VC.skip ?_
      | with_reducible refine VC.label ?_
      | with_reducible refine VC.scope ?_
      | with_reducible refine VC.exit ?_
      | with_reducible refine VC.ret ?_
      | with_reducible refine VL.nil ?_
      | ((first | with_reducible apply VC.plainL | with_reducible apply VC.readsL (by kernel_rfl) (by kernel_rfl) (by kernel_rfl)); (with_reducible apply VL.run tabOk); (· (simp (disch := omega) only [vset, wset, ints, bools, strs, undefM, Nat.reduceLT, Nat.reduceAdd, Nat.reduceBEq, Int.reduceToNat, vix_sl ty22 ty3, vload_c ty3 rfl] <;> exact rfl)))
      | ((with_reducible apply VC.cond); (· (simp (disch := omega) only [vset, wset, ints, bools, strs, undefM, Nat.reduceLT, Nat.reduceAdd, Nat.reduceBEq, Int.reduceToNat, vix_sl ty22 ty3, vload_c ty3 rfl] <;> exact rfl)); all_goals (intro hcond; try simp only [decide_eq_true_eq, decide_eq_false_iff_not, beq_iff_eq, beq_eq_false_iff_ne, bne_iff_ne, bne_eq_false_iff_eq, ne_eq, reduceCtorEq] at hcond))
      | simp only [qset, Nat.reduceEqDiff, reduceIte]
      | ((apply EndQ.ret1 rfl); (· (simp only [look_cons, Nat.reduceBEq, cond_true, cond_false] <;> exact rfl)))
      | ((apply EndQ.ret2 rfl); (· (simp only [look_cons, Nat.reduceBEq, cond_true, cond_false] <;> exact rfl)); (· (simp only [look_cons, Nat.reduceBEq, cond_true, cond_false] <;> exact rfl)))
      | (refine EndQ.ret0 rfl ?_)
      | (refine EndQ.nor0 rfl ?_)
    apply VL.callR (id := 19) (hE := Enters.of Try.func19 (by decide) (by decide)) (hR := True_v xs[j] ts tk' O' (by omega) (by omega))
    · exact rfl
    · (simp (disch := omega) only [vset, wset, ints, bools, strs, undefM, Nat.reduceLT, Nat.reduceAdd, Nat.reduceBEq, Int.reduceToNat] <;> exact rfl)
    · (simp (disch := omega) only [vset, wset, ints, bools, strs, undefM, Nat.reduceLT, Nat.reduceAdd, Nat.reduceBEq, Int.reduceToNat] <;> exact rfl)
    · exact rfl
    · exact rfl
    rintro _ O2 ⟨rfl, rfl⟩
    apply VL.run tabOk
    · (simp (disch := omega) only [vset, wset, ints, bools, strs, undefM, Nat.reduceLT, Nat.reduceAdd, Nat.reduceBEq, Int.reduceToNat] <;> exact rfl)
    by_cases ht : tru xs[j] 0 ts = true
    · rw [if_pos ht] at hc
      repeat' first
        | with_reducible refine VC.seq' ?_
        | with_reducible refine VC.block' ?_
        | with_reducible refine VC.skip ?_
        | with_reducible refine VC.label ?_
        | with_reducible refine VC.scope ?_
        | with_reducible refine VC.exit ?_
        | with_reducible refine VC.ret ?_
        | with_reducible refine VL.nil ?_
        | ((first | with_reducible apply VC.plainL | with_reducible apply VC.readsL (by kernel_rfl) (by kernel_rfl) (by kernel_rfl)); (with_reducible apply VL.run tabOk); (· (simp (disch := omega) only [vset, wset, ints, bools, strs, undefM, Nat.reduceLT, Nat.reduceAdd, Nat.reduceBEq, Int.reduceToNat, ht] <;> exact rfl)))
        | ((with_reducible apply VC.cond); (· (simp (disch := omega) only [vset, wset, ints, bools, strs, undefM, Nat.reduceLT, Nat.reduceAdd, Nat.reduceBEq, Int.reduceToNat, ht] <;> exact rfl)); all_goals (intro hcond; try simp only [decide_eq_true_eq, decide_eq_false_iff_not, beq_iff_eq, beq_eq_false_iff_ne, bne_iff_ne, bne_eq_false_iff_eq, ne_eq, reduceCtorEq] at hcond))
        | simp only [qset, Nat.reduceEqDiff, reduceIte]
        | ((apply EndQ.ret1 rfl); (· (simp only [look_cons, Nat.reduceBEq, cond_true, cond_false] <;> exact rfl)))
        | ((apply EndQ.ret2 rfl); (· (simp only [look_cons, Nat.reduceBEq, cond_true, cond_false] <;> exact rfl)); (· (simp only [look_cons, Nat.reduceBEq, cond_true, cond_false] <;> exact rfl)))
        | (refine EndQ.ret0 rfl ?_)
        | (refine EndQ.nor0 rfl ?_)
      refine ⟨j + 1, ?_, ⟨by omega, rfl⟩, by dsimp only; omega⟩
      simp only [vset, wset, ints, bools, strs, undefM, Nat.reduceLT, Nat.reduceAdd, Nat.reduceBEq, Int.reduceToNat, hc, Int.natCast_add, Int.cast_ofNat_Int]
    · rw [if_neg ht] at hc
      simp only [Bool.not_eq_true] at ht
      repeat' first
        | with_reducible refine VC.seq' ?_
        | with_reducible refine VC.block' ?_
        | with_reducible refine VC.skip ?_
        | with_reducible refine VC.label ?_
        | with_reducible refine VC.scope ?_
        | with_reducible refine VC.exit ?_
        | with_reducible refine VC.ret ?_
        | with_reducible refine VL.nil ?_
        | ((first | with_reducible apply VC.plainL | with_reducible apply VC.readsL (by kernel_rfl) (by kernel_rfl) (by kernel_rfl)); (with_reducible apply VL.run tabOk); (· (simp (disch := omega) only [vset, wset, ints, bools, strs, undefM, Nat.reduceLT, Nat.reduceAdd, Nat.reduceBEq, Int.reduceToNat, ht] <;> exact rfl)))
        | ((with_reducible apply VC.cond); (· (simp (disch := omega) only [vset, wset, ints, bools, strs, undefM, Nat.reduceLT, Nat.reduceAdd, Nat.reduceBEq, Int.reduceToNat, ht] <;> exact rfl)); all_goals (intro hcond; try simp only [decide_eq_true_eq, decide_eq_false_iff_not, beq_iff_eq, beq_eq_false_iff_ne, bne_iff_ne, bne_eq_false_iff_eq, ne_eq, reduceCtorEq] at hcond))
        | simp only [qset, Nat.reduceEqDiff, reduceIte]
        | ((apply EndQ.ret1 rfl); (· (simp only [look_cons, Nat.reduceBEq, cond_true, cond_false] <;> exact rfl)))
        | ((apply EndQ.ret2 rfl); (· (simp only [look_cons, Nat.reduceBEq, cond_true, cond_false] <;> exact rfl)); (· (simp only [look_cons, Nat.reduceBEq, cond_true, cond_false] <;> exact rfl)))
        | (refine EndQ.ret0 rfl ?_)
        | (refine EndQ.nor0 rfl ?_)
      refine ⟨j + 1, ?_, ⟨by omega, rfl⟩, by dsimp only; omega⟩
      simp only [vset, wset, ints, bools, strs, undefM, Nat.reduceLT, Nat.reduceAdd, Nat.reduceBEq, Int.reduceToNat, hc, Int.natCast_add, Int.cast_ofNat_Int]
  · obtain rfl : j = xs.length := by omega
    rw [List.take_length]
    repeat' first
      | with_reducible refine VC.seq' ?_
      | with_reducible refine VC.block' ?_
      | with_reducible refine VC.skip ?_
      | with_reducible refine VC.label ?_
      | with_reducible refine VC.scope ?_
      | with_reducible refine VC.exit ?_
      | with_reducible refine VC.ret ?_
      | with_reducible refine VL.nil ?_
      | ((first | with_reducible apply VC.plainL | with_reducible apply VC.readsL (by kernel_rfl) (by kernel_rfl) (by kernel_rfl)); (with_reducible apply VL.run tabOk); (· (simp (disch := omega) only [vset, wset, ints, bools, strs, undefM, Nat.reduceLT, Nat.reduceAdd, Nat.reduceBEq, Int.reduceToNat] <;> exact rfl)))
      | ((with_reducible apply VC.cond); (· (simp (disch := omega) only [vset, wset, ints, bools, strs, undefM, Nat.reduceLT, Nat.reduceAdd, Nat.reduceBEq, Int.reduceToNat] <;> exact rfl)); all_goals (intro hcond; try simp only [decide_eq_true_eq, decide_eq_false_iff_not, beq_iff_eq, beq_eq_false_iff_ne, bne_iff_ne, bne_eq_false_iff_eq, ne_eq, reduceCtorEq] at hcond))
      | simp only [qset, Nat.reduceEqDiff, reduceIte]
      | ((apply EndQ.ret1 rfl); (· (simp only [look_cons, Nat.reduceBEq, cond_true, cond_false] <;> exact rfl)))
      | ((apply EndQ.ret2 rfl); (· (simp only [look_cons, Nat.reduceBEq, cond_true, cond_false] <;> exact rfl)); (· (simp only [look_cons, Nat.reduceBEq, cond_true, cond_false] <;> exact rfl)))
      | (refine EndQ.ret0 rfl ?_)
      | (refine EndQ.nor0 rfl ?_)
    apply VL.callR (id := 20) (hE := Enters.of Try.func20 (by decide) (by decide)) (hR := Count_v xs ts s tk' O' (fun x hx => by have := hxs x hx; omega) (by omega) (by omega))
    · exact rfl
    · (simp (disch := omega) only [vset, wset, ints, bools, strs, undefM, Nat.reduceLT, Nat.reduceAdd, Nat.reduceBEq, Int.reduceToNat] <;> exact rfl)
    · (simp (disch := omega) only [vset, wset, ints, bools, strs, undefM, Nat.reduceLT, Nat.reduceAdd, Nat.reduceBEq, Int.reduceToNat] <;> exact rfl)
    · exact rfl
    · exact rfl
    rintro _ O2 ⟨rfl, rfl⟩
    apply VL.run tabOk
    · (simp (disch := omega) only [vset, wset, ints, bools, strs, undefM, Nat.reduceLT, Nat.reduceAdd, Nat.reduceBEq, Int.reduceToNat] <;> exact rfl)
    apply VL.callR (id := 15) (hE := Enters.of Try.func15 (by decide) (by decide)) (hR := lives_v O2)
    · exact rfl
    · (simp (disch := omega) only [vset, wset, ints, bools, strs, undefM, Nat.reduceLT, Nat.reduceAdd, Nat.reduceBEq, Int.reduceToNat] <;> exact rfl)
    · (simp (disch := omega) only [vset, wset, ints, bools, strs, undefM, Nat.reduceLT, Nat.reduceAdd, Nat.reduceBEq, Int.reduceToNat] <;> exact rfl)
    · exact rfl
    · exact rfl
    rintro _ O3 ⟨rfl, hge2⟩
    apply VL.run tabOk
    · (simp (disch := omega) only [vset, wset, ints, bools, strs, undefM, Nat.reduceLT, Nat.reduceAdd, Nat.reduceBEq, Int.reduceToNat] <;> exact rfl)
    repeat' first
      | with_reducible refine VC.seq' ?_
      | with_reducible refine VC.block' ?_
      | with_reducible refine VC.skip ?_
      | with_reducible refine VC.label ?_
      | with_reducible refine VC.scope ?_
      | with_reducible refine VC.exit ?_
      | with_reducible refine VC.ret ?_
      | with_reducible refine VL.nil ?_
      | ((first | with_reducible apply VC.plainL | with_reducible apply VC.readsL (by kernel_rfl) (by kernel_rfl) (by kernel_rfl)); (with_reducible apply VL.run tabOk); (· (simp (disch := omega) only [vset, wset, ints, bools, strs, undefM, Nat.reduceLT, Nat.reduceAdd, Nat.reduceBEq, Int.reduceToNat] <;> exact rfl)))
      | ((with_reducible apply VC.cond); (· (simp (disch := omega) only [vset, wset, ints, bools, strs, undefM, Nat.reduceLT, Nat.reduceAdd, Nat.reduceBEq, Int.reduceToNat] <;> exact rfl)); all_goals (intro hcond; try simp only [decide_eq_true_eq, decide_eq_false_iff_not, beq_iff_eq, beq_eq_false_iff_ne, bne_iff_ne, bne_eq_false_iff_eq, ne_eq, reduceCtorEq] at hcond))
      | simp only [qset, Nat.reduceEqDiff, reduceIte]
      | ((apply EndQ.ret1 rfl); (· (simp only [look_cons, Nat.reduceBEq, cond_true, cond_false] <;> exact rfl)))
      | ((apply EndQ.ret2 rfl); (· (simp only [look_cons, Nat.reduceBEq, cond_true, cond_false] <;> exact rfl)); (· (simp only [look_cons, Nat.reduceBEq, cond_true, cond_false] <;> exact rfl)))
      | (refine EndQ.ret0 rfl ?_)
      | (refine EndQ.nor0 rfl ?_)
    exact rfl
end Go.Proofs.Ytcfoongiffpnlaa
