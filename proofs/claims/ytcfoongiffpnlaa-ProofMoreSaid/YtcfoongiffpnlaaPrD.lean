/-
  The package proof: isTrue, holds, Holds, taken.take, taken.look, walked.
-/
import Derived.Test.YtcfoongiffpnlaaPrC
set_option linter.unusedVariables false
set_option linter.unusedSimpArgs false
namespace Go.Proofs.Ytcfoongiffpnlaa
open Go.RowKit

/-- proof.isTrue -/
theorem isTrue_v (n : Int) (ts : List Bool) (tk : Tok) (O : VH) (hl : ts.length ≤ 1000) (hn : InR n) : VF Try.prog 42 [mi n, bools ts tk] O (Ret fun m O' => m = mb (tru n 0 ts) ∧ O' = O) := by
  simp only [InR] at hn
  by_cases hp : n > 0
  · have ht : tru n 0 ts = (ts[(n - 1).toNat]?).getD false := by
      have := tru_pos ts 0 n (by omega)
      simpa using this
    by_cases hle : n ≤ ts.length
    · have hi : (n - 1).toNat < ts.length := by omega
      rw [List.getElem?_eq_getElem hi] at ht
      refine VF.enter' tabOk Try.func42 (c := _) rfl (Nat.le_of_ble_eq_true rfl) ?_
      rw [show Try.f42.ntmps = 36 from rfl]
      simp only [argEnv, Nat.zero_add, Nat.reduceAdd]
      repeat' first
        | with_reducible refine VC.seq' ?_
        | with_reducible refine VC.block' ?_
        | with_reducible refine VC.skip ?_
        | with_reducible refine VC.label ?_
        | with_reducible refine VC.scope ?_
        | with_reducible refine VC.exit ?_
        | with_reducible refine VC.ret ?_
        | with_reducible refine VL.nil ?_
        | ((first | with_reducible apply VC.plainL | with_reducible apply VC.readsL (by kernel_rfl) (by kernel_rfl) (by kernel_rfl)); (with_reducible apply VL.run tabOk); (· (simp (disch := omega) only [vset, wset, ints, bools, strs, undefM, Nat.reduceLT, Nat.reduceAdd, Nat.reduceBEq, Int.reduceToNat, vlen_sl ty27, vix_sl ty27 ty4, vload_c ty4 rfl] <;> exact rfl)))
        | ((with_reducible apply VC.cond); (· (simp (disch := omega) only [vset, wset, ints, bools, strs, undefM, Nat.reduceLT, Nat.reduceAdd, Nat.reduceBEq, Int.reduceToNat, vlen_sl ty27, vix_sl ty27 ty4, vload_c ty4 rfl] <;> exact rfl)); all_goals (intro hcond; try simp only [decide_eq_true_eq, decide_eq_false_iff_not, beq_iff_eq, beq_eq_false_iff_ne, bne_iff_ne, bne_eq_false_iff_eq, ne_eq, reduceCtorEq] at hcond))
        | simp only [qset, Nat.reduceEqDiff, reduceIte]
        | ((apply EndQ.ret1 rfl); (· (simp only [look_cons, Nat.reduceBEq, cond_true, cond_false] <;> exact rfl)))
        | ((apply EndQ.ret2 rfl); (· (simp only [look_cons, Nat.reduceBEq, cond_true, cond_false] <;> exact rfl)); (· (simp only [look_cons, Nat.reduceBEq, cond_true, cond_false] <;> exact rfl)))
        | (refine EndQ.ret0 rfl ?_)
        | (refine EndQ.nor0 rfl ?_)
      exact ⟨by rw [ht]; rfl, by trivial⟩
    · rw [List.getElem?_eq_none (by omega)] at ht
      refine VF.enter' tabOk Try.func42 (c := _) rfl (Nat.le_of_ble_eq_true rfl) ?_
      rw [show Try.f42.ntmps = 36 from rfl]
      simp only [argEnv, Nat.zero_add, Nat.reduceAdd]
      repeat' first
        | with_reducible refine VC.seq' ?_
        | with_reducible refine VC.block' ?_
        | with_reducible refine VC.skip ?_
        | with_reducible refine VC.label ?_
        | with_reducible refine VC.scope ?_
        | with_reducible refine VC.exit ?_
        | with_reducible refine VC.ret ?_
        | with_reducible refine VL.nil ?_
        | ((first | with_reducible apply VC.plainL | with_reducible apply VC.readsL (by kernel_rfl) (by kernel_rfl) (by kernel_rfl)); (with_reducible apply VL.run tabOk); (· (simp (disch := omega) only [vset, wset, ints, bools, strs, undefM, Nat.reduceLT, Nat.reduceAdd, Nat.reduceBEq, Int.reduceToNat, vlen_sl ty27, vix_sl ty27 ty4, vload_c ty4 rfl] <;> exact rfl)))
        | ((with_reducible apply VC.cond); (· (simp (disch := omega) only [vset, wset, ints, bools, strs, undefM, Nat.reduceLT, Nat.reduceAdd, Nat.reduceBEq, Int.reduceToNat, vlen_sl ty27, vix_sl ty27 ty4, vload_c ty4 rfl] <;> exact rfl)); all_goals (intro hcond; try simp only [decide_eq_true_eq, decide_eq_false_iff_not, beq_iff_eq, beq_eq_false_iff_ne, bne_iff_ne, bne_eq_false_iff_eq, ne_eq, reduceCtorEq] at hcond))
        | simp only [qset, Nat.reduceEqDiff, reduceIte]
        | ((apply EndQ.ret1 rfl); (· (simp only [look_cons, Nat.reduceBEq, cond_true, cond_false] <;> exact rfl)))
        | ((apply EndQ.ret2 rfl); (· (simp only [look_cons, Nat.reduceBEq, cond_true, cond_false] <;> exact rfl)); (· (simp only [look_cons, Nat.reduceBEq, cond_true, cond_false] <;> exact rfl)))
        | (refine EndQ.ret0 rfl ?_)
        | (refine EndQ.nor0 rfl ?_)
      exact ⟨by rw [ht]; rfl, by trivial⟩
  by_cases hneg : n < 0
  · have ht : tru n 0 ts = !(ts[(-n - 1).toNat]?).getD false := by
      have := tru_neg ts 0 n (by omega)
      simpa using this
    by_cases hle : n < -ts.length
    · rw [List.getElem?_eq_none (by omega)] at ht
      refine VF.enter' tabOk Try.func42 (c := _) rfl (Nat.le_of_ble_eq_true rfl) ?_
      rw [show Try.f42.ntmps = 36 from rfl]
      simp only [argEnv, Nat.zero_add, Nat.reduceAdd]
      repeat' first
        | with_reducible refine VC.seq' ?_
        | with_reducible refine VC.block' ?_
        | with_reducible refine VC.skip ?_
        | with_reducible refine VC.label ?_
        | with_reducible refine VC.scope ?_
        | with_reducible refine VC.exit ?_
        | with_reducible refine VC.ret ?_
        | with_reducible refine VL.nil ?_
        | ((first | with_reducible apply VC.plainL | with_reducible apply VC.readsL (by kernel_rfl) (by kernel_rfl) (by kernel_rfl)); (with_reducible apply VL.run tabOk); (· (simp (disch := omega) only [vset, wset, ints, bools, strs, undefM, Nat.reduceLT, Nat.reduceAdd, Nat.reduceBEq, Int.reduceToNat, vlen_sl ty27, vix_sl ty27 ty4, vload_c ty4 rfl] <;> exact rfl)))
        | ((with_reducible apply VC.cond); (· (simp (disch := omega) only [vset, wset, ints, bools, strs, undefM, Nat.reduceLT, Nat.reduceAdd, Nat.reduceBEq, Int.reduceToNat, vlen_sl ty27, vix_sl ty27 ty4, vload_c ty4 rfl] <;> exact rfl)); all_goals (intro hcond; try simp only [decide_eq_true_eq, decide_eq_false_iff_not, beq_iff_eq, beq_eq_false_iff_ne, bne_iff_ne, bne_eq_false_iff_eq, ne_eq, reduceCtorEq] at hcond))
        | simp only [qset, Nat.reduceEqDiff, reduceIte]
        | ((apply EndQ.ret1 rfl); (· (simp only [look_cons, Nat.reduceBEq, cond_true, cond_false] <;> exact rfl)))
        | ((apply EndQ.ret2 rfl); (· (simp only [look_cons, Nat.reduceBEq, cond_true, cond_false] <;> exact rfl)); (· (simp only [look_cons, Nat.reduceBEq, cond_true, cond_false] <;> exact rfl)))
        | (refine EndQ.ret0 rfl ?_)
        | (refine EndQ.nor0 rfl ?_)
      exact ⟨by rw [ht]; rfl, by trivial⟩
    · have hi : (-n - 1).toNat < ts.length := by omega
      rw [List.getElem?_eq_getElem hi] at ht
      refine VF.enter' tabOk Try.func42 (c := _) rfl (Nat.le_of_ble_eq_true rfl) ?_
      rw [show Try.f42.ntmps = 36 from rfl]
      simp only [argEnv, Nat.zero_add, Nat.reduceAdd]
      repeat' first
        | with_reducible refine VC.seq' ?_
        | with_reducible refine VC.block' ?_
        | with_reducible refine VC.skip ?_
        | with_reducible refine VC.label ?_
        | with_reducible refine VC.scope ?_
        | with_reducible refine VC.exit ?_
        | with_reducible refine VC.ret ?_
        | with_reducible refine VL.nil ?_
        | ((first | with_reducible apply VC.plainL | with_reducible apply VC.readsL (by kernel_rfl) (by kernel_rfl) (by kernel_rfl)); (with_reducible apply VL.run tabOk); (· (simp (disch := omega) only [vset, wset, ints, bools, strs, undefM, Nat.reduceLT, Nat.reduceAdd, Nat.reduceBEq, Int.reduceToNat, vlen_sl ty27, vix_sl ty27 ty4, vload_c ty4 rfl] <;> exact rfl)))
        | ((with_reducible apply VC.cond); (· (simp (disch := omega) only [vset, wset, ints, bools, strs, undefM, Nat.reduceLT, Nat.reduceAdd, Nat.reduceBEq, Int.reduceToNat, vlen_sl ty27, vix_sl ty27 ty4, vload_c ty4 rfl] <;> exact rfl)); all_goals (intro hcond; try simp only [decide_eq_true_eq, decide_eq_false_iff_not, beq_iff_eq, beq_eq_false_iff_ne, bne_iff_ne, bne_eq_false_iff_eq, ne_eq, reduceCtorEq] at hcond))
        | simp only [qset, Nat.reduceEqDiff, reduceIte]
        | ((apply EndQ.ret1 rfl); (· (simp only [look_cons, Nat.reduceBEq, cond_true, cond_false] <;> exact rfl)))
        | ((apply EndQ.ret2 rfl); (· (simp only [look_cons, Nat.reduceBEq, cond_true, cond_false] <;> exact rfl)); (· (simp only [look_cons, Nat.reduceBEq, cond_true, cond_false] <;> exact rfl)))
        | (refine EndQ.ret0 rfl ?_)
        | (refine EndQ.nor0 rfl ?_)
      exact ⟨by rw [ht]; rfl, by trivial⟩
  · obtain rfl : n = 0 := by omega
    refine VF.enter' tabOk Try.func42 (c := _) rfl (Nat.le_of_ble_eq_true rfl) ?_
    rw [show Try.f42.ntmps = 36 from rfl]
    simp only [argEnv, Nat.zero_add, Nat.reduceAdd]
    repeat' first
      | with_reducible refine VC.seq' ?_
      | with_reducible refine VC.block' ?_
      | with_reducible refine VC.skip ?_
      | with_reducible refine VC.label ?_
      | with_reducible refine VC.scope ?_
      | with_reducible refine VC.exit ?_
      | with_reducible refine VC.ret ?_
      | with_reducible refine VL.nil ?_
      | ((first | with_reducible apply VC.plainL | with_reducible apply VC.readsL (by kernel_rfl) (by kernel_rfl) (by kernel_rfl)); (with_reducible apply VL.run tabOk); (· (simp (disch := omega) only [vset, wset, ints, bools, strs, undefM, Nat.reduceLT, Nat.reduceAdd, Nat.reduceBEq, Int.reduceToNat] <;> exact rfl)))
      | ((with_reducible apply VC.cond); (· (simp (disch := omega) only [vset, wset, ints, bools, strs, undefM, Nat.reduceLT, Nat.reduceAdd, Nat.reduceBEq, Int.reduceToNat] <;> exact rfl)); all_goals (intro hcond; try simp only [decide_eq_true_eq, decide_eq_false_iff_not, beq_iff_eq, beq_eq_false_iff_ne, bne_iff_ne, bne_eq_false_iff_eq, ne_eq, reduceCtorEq] at hcond))
      | simp only [qset, Nat.reduceEqDiff, reduceIte]
      | ((apply EndQ.ret1 rfl); (· (simp only [look_cons, Nat.reduceBEq, cond_true, cond_false] <;> exact rfl)))
      | ((apply EndQ.ret2 rfl); (· (simp only [look_cons, Nat.reduceBEq, cond_true, cond_false] <;> exact rfl)); (· (simp only [look_cons, Nat.reduceBEq, cond_true, cond_false] <;> exact rfl)))
      | (refine EndQ.ret0 rfl ?_)
      | (refine EndQ.nor0 rfl ?_)
    exact ⟨by rw [tru_zero]; rfl, by trivial⟩

/-- proof.holds -/
theorem holds_v (c : List Int) (ts : List Bool) (tk tk2 : Tok) (O : VH) (hl : ts.length ≤ 1000) (hc : c.length ≤ 1000) (hR : ∀ n ∈ c, InR n) : VF Try.prog 39 [ints c tk, bools ts tk2] O (Ret fun m O' => m = mb (clT ts c) ∧ O' = O) := by
  refine VF.enter' tabOk Try.func39 (c := _) rfl (Nat.le_of_ble_eq_true rfl) ?_
  rw [show Try.f39.ntmps = 17 from rfl]
  simp only [argEnv, Nat.zero_add, Nat.reduceAdd]
  repeat' first
    | with_reducible refine VC.seq' ?_
    | with_reducible refine VC.block' ?_
    | with_reducible refine VC.skip ?_
    | with_reducible refine VC.label ?_
    | with_reducible refine VC.scope ?_
    | with_reducible refine VC.exit ?_
    | with_reducible refine VC.ret ?_
    | with_reducible refine VL.nil ?_
    | ((first | with_reducible apply VC.plainL | with_reducible apply VC.readsL (by kernel_rfl) (by kernel_rfl) (by kernel_rfl)); (with_reducible apply VL.run tabOk); (· (simp (disch := omega) only [vset, wset, ints, bools, strs, undefM, Nat.reduceLT, Nat.reduceAdd, Nat.reduceBEq, Int.reduceToNat, vlen_sl ty22] <;> exact rfl)))
    | ((with_reducible apply VC.cond); (· (simp (disch := omega) only [vset, wset, ints, bools, strs, undefM, Nat.reduceLT, Nat.reduceAdd, Nat.reduceBEq, Int.reduceToNat, vlen_sl ty22] <;> exact rfl)); all_goals (intro hcond; try simp only [decide_eq_true_eq, decide_eq_false_iff_not, beq_iff_eq, beq_eq_false_iff_ne, bne_iff_ne, bne_eq_false_iff_eq, ne_eq, reduceCtorEq] at hcond))
    | simp only [qset, Nat.reduceEqDiff, reduceIte]
    | ((apply EndQ.ret1 rfl); (· (simp only [look_cons, Nat.reduceBEq, cond_true, cond_false] <;> exact rfl)))
    | ((apply EndQ.ret2 rfl); (· (simp only [look_cons, Nat.reduceBEq, cond_true, cond_false] <;> exact rfl)); (· (simp only [look_cons, Nat.reduceBEq, cond_true, cond_false] <;> exact rfl)))
    | (refine EndQ.ret0 rfl ?_)
    | (refine EndQ.nor0 rfl ?_)
  apply VC.loopK [9] [1, 7, 8] (ms := fun s : Nat => [mi s]) (I := fun s O' => s ≤ c.length ∧ O' = O ∧ clT ts (c.take s) = false) (μ := fun s => c.length - s) (s0 := 0)
  · (simp (disch := omega) only [vset, wset, ints, bools, strs, undefM, Nat.reduceLT, Nat.reduceAdd, Nat.reduceBEq, Int.reduceToNat, Int.natCast_zero, List.take_zero, List.map_nil, List.any_nil, Bool.or_false] <;> exact rfl)
  · (simp only [vset, wset, ints, bools, strs, undefM, Nat.reduceLT, Nat.reduceAdd, Nat.reduceBEq, Int.reduceToNat] <;> exact rfl)
  · exact ⟨by omega, rfl, by simp [clT]⟩
  rintro j O' ⟨hj, rfl, hno⟩
  by_cases h2 : j < c.length
  · have hs2 : clT ts (c.take (j + 1)) = (clT ts (c.take j) || tru c[j] 0 ts) := by
      rw [take_snoc _ _ h2, clT, List.any_append]; simp [clT]
    have hT := isTrue_v c[j] ts tk2 O' hl (hR _ (List.getElem_mem h2))
    cases ht : tru c[j] 0 ts
    · rw [ht] at hT hs2
      repeat' first
        | with_reducible refine VC.seq' ?_
        | with_reducible refine VC.block' ?_
        | with_reducible refine VC.skip ?_
        | with_reducible refine VC.label ?_
        | with_reducible refine VC.scope ?_
        | with_reducible refine VC.exit ?_
        | with_reducible refine VC.ret ?_
        | with_reducible refine VL.nil ?_
        | ((first | with_reducible apply VC.plainL | with_reducible apply VC.readsL (by kernel_rfl) (by kernel_rfl) (by kernel_rfl)); (with_reducible apply VL.run tabOk); (· (simp (disch := omega) only [vset, wset, ints, bools, strs, undefM, Nat.reduceLT, Nat.reduceAdd, Nat.reduceBEq, Int.reduceToNat, vix_sl ty22 ty3, vload_c ty3 rfl] <;> exact rfl)))
        | ((with_reducible apply VC.cond); (· (simp (disch := omega) only [vset, wset, ints, bools, strs, undefM, Nat.reduceLT, Nat.reduceAdd, Nat.reduceBEq, Int.reduceToNat, vix_sl ty22 ty3, vload_c ty3 rfl] <;> exact rfl)); all_goals (intro hcond; try simp only [decide_eq_true_eq, decide_eq_false_iff_not, beq_iff_eq, beq_eq_false_iff_ne, bne_iff_ne, bne_eq_false_iff_eq, ne_eq, reduceCtorEq] at hcond))
        | simp only [qset, Nat.reduceEqDiff, reduceIte]
        | ((apply EndQ.ret1 rfl); (· (simp only [look_cons, Nat.reduceBEq, cond_true, cond_false] <;> exact rfl)))
        | ((apply EndQ.ret2 rfl); (· (simp only [look_cons, Nat.reduceBEq, cond_true, cond_false] <;> exact rfl)); (· (simp only [look_cons, Nat.reduceBEq, cond_true, cond_false] <;> exact rfl)))
        | (refine EndQ.ret0 rfl ?_)
        | (refine EndQ.nor0 rfl ?_)
      apply VL.callR (id := 42) (hE := Enters.of Try.func42 (by decide) (by decide)) (hR := hT)
      · exact rfl
      · (simp (disch := omega) only [vset, wset, ints, bools, strs, undefM, Nat.reduceLT, Nat.reduceAdd, Nat.reduceBEq, Int.reduceToNat] <;> exact rfl)
      · (simp (disch := omega) only [vset, wset, ints, bools, strs, undefM, Nat.reduceLT, Nat.reduceAdd, Nat.reduceBEq, Int.reduceToNat] <;> exact rfl)
      · exact rfl
      · exact rfl
      rintro _ O3 ⟨rfl, rfl⟩
      apply VL.run tabOk
      · (simp (disch := omega) only [vset, wset, ints, bools, strs, undefM, Nat.reduceLT, Nat.reduceAdd, Nat.reduceBEq, Int.reduceToNat] <;> exact rfl)
      repeat' first
        | with_reducible refine VC.seq' ?_
        | with_reducible refine VC.block' ?_
        | with_reducible refine VC.skip ?_
        | with_reducible refine VC.label ?_
        | with_reducible refine VC.scope ?_
        | with_reducible refine VC.exit ?_
        | with_reducible refine VC.ret ?_
        | with_reducible refine VL.nil ?_
        | ((first | with_reducible apply VC.plainL | with_reducible apply VC.readsL (by kernel_rfl) (by kernel_rfl) (by kernel_rfl)); (with_reducible apply VL.run tabOk); (· (simp (disch := omega) only [vset, wset, ints, bools, strs, undefM, Nat.reduceLT, Nat.reduceAdd, Nat.reduceBEq, Int.reduceToNat] <;> exact rfl)))
        | ((with_reducible apply VC.cond); (· (simp (disch := omega) only [vset, wset, ints, bools, strs, undefM, Nat.reduceLT, Nat.reduceAdd, Nat.reduceBEq, Int.reduceToNat] <;> exact rfl)); all_goals (intro hcond; try simp only [decide_eq_true_eq, decide_eq_false_iff_not, beq_iff_eq, beq_eq_false_iff_ne, bne_iff_ne, bne_eq_false_iff_eq, ne_eq, reduceCtorEq] at hcond))
        | simp only [qset, Nat.reduceEqDiff, reduceIte]
        | ((apply EndQ.ret1 rfl); (· (simp only [look_cons, Nat.reduceBEq, cond_true, cond_false] <;> exact rfl)))
        | ((apply EndQ.ret2 rfl); (· (simp only [look_cons, Nat.reduceBEq, cond_true, cond_false] <;> exact rfl)); (· (simp only [look_cons, Nat.reduceBEq, cond_true, cond_false] <;> exact rfl)))
        | (refine EndQ.ret0 rfl ?_)
        | (refine EndQ.nor0 rfl ?_)
      refine ⟨?_, j + 1, ?_, ?_, by dsimp only; omega⟩
      · (simp only [vset, wset, ints, bools, strs, undefM, Nat.reduceLT, Nat.reduceAdd, Nat.reduceBEq, Int.reduceToNat] <;> exact rfl)
      · (simp (disch := omega) only [vset, wset, ints, bools, strs, undefM, Nat.reduceLT, Nat.reduceAdd, Nat.reduceBEq, Int.reduceToNat, Int.natCast_add, Int.cast_ofNat_Int] <;> first | done | exact rfl)
      exact ⟨by omega, rfl, by rw [hs2, hno]; rfl⟩
    · rw [ht] at hT
      repeat' first
        | with_reducible refine VC.seq' ?_
        | with_reducible refine VC.block' ?_
        | with_reducible refine VC.skip ?_
        | with_reducible refine VC.label ?_
        | with_reducible refine VC.scope ?_
        | with_reducible refine VC.exit ?_
        | with_reducible refine VC.ret ?_
        | with_reducible refine VL.nil ?_
        | ((first | with_reducible apply VC.plainL | with_reducible apply VC.readsL (by kernel_rfl) (by kernel_rfl) (by kernel_rfl)); (with_reducible apply VL.run tabOk); (· (simp (disch := omega) only [vset, wset, ints, bools, strs, undefM, Nat.reduceLT, Nat.reduceAdd, Nat.reduceBEq, Int.reduceToNat, vix_sl ty22 ty3, vload_c ty3 rfl] <;> exact rfl)))
        | ((with_reducible apply VC.cond); (· (simp (disch := omega) only [vset, wset, ints, bools, strs, undefM, Nat.reduceLT, Nat.reduceAdd, Nat.reduceBEq, Int.reduceToNat, vix_sl ty22 ty3, vload_c ty3 rfl] <;> exact rfl)); all_goals (intro hcond; try simp only [decide_eq_true_eq, decide_eq_false_iff_not, beq_iff_eq, beq_eq_false_iff_ne, bne_iff_ne, bne_eq_false_iff_eq, ne_eq, reduceCtorEq] at hcond))
        | simp only [qset, Nat.reduceEqDiff, reduceIte]
        | ((apply EndQ.ret1 rfl); (· (simp only [look_cons, Nat.reduceBEq, cond_true, cond_false] <;> exact rfl)))
        | ((apply EndQ.ret2 rfl); (· (simp only [look_cons, Nat.reduceBEq, cond_true, cond_false] <;> exact rfl)); (· (simp only [look_cons, Nat.reduceBEq, cond_true, cond_false] <;> exact rfl)))
        | (refine EndQ.ret0 rfl ?_)
        | (refine EndQ.nor0 rfl ?_)
      apply VL.callR (id := 42) (hE := Enters.of Try.func42 (by decide) (by decide)) (hR := hT)
      · exact rfl
      · (simp (disch := omega) only [vset, wset, ints, bools, strs, undefM, Nat.reduceLT, Nat.reduceAdd, Nat.reduceBEq, Int.reduceToNat] <;> exact rfl)
      · (simp (disch := omega) only [vset, wset, ints, bools, strs, undefM, Nat.reduceLT, Nat.reduceAdd, Nat.reduceBEq, Int.reduceToNat] <;> exact rfl)
      · exact rfl
      · exact rfl
      rintro _ O3 ⟨rfl, rfl⟩
      apply VL.run tabOk
      · (simp (disch := omega) only [vset, wset, ints, bools, strs, undefM, Nat.reduceLT, Nat.reduceAdd, Nat.reduceBEq, Int.reduceToNat] <;> exact rfl)
      repeat' first
        | with_reducible refine VC.seq' ?_
        | with_reducible refine VC.block' ?_
        | with_reducible refine VC.skip ?_
        | with_reducible refine VC.label ?_
        | with_reducible refine VC.scope ?_
        | with_reducible refine VC.exit ?_
        | with_reducible refine VC.ret ?_
        | with_reducible refine VL.nil ?_
        | ((first | with_reducible apply VC.plainL | with_reducible apply VC.readsL (by kernel_rfl) (by kernel_rfl) (by kernel_rfl)); (with_reducible apply VL.run tabOk); (· (simp (disch := omega) only [vset, wset, ints, bools, strs, undefM, Nat.reduceLT, Nat.reduceAdd, Nat.reduceBEq, Int.reduceToNat] <;> exact rfl)))
        | ((with_reducible apply VC.cond); (· (simp (disch := omega) only [vset, wset, ints, bools, strs, undefM, Nat.reduceLT, Nat.reduceAdd, Nat.reduceBEq, Int.reduceToNat] <;> exact rfl)); all_goals (intro hcond; try simp only [decide_eq_true_eq, decide_eq_false_iff_not, beq_iff_eq, beq_eq_false_iff_ne, bne_iff_ne, bne_eq_false_iff_eq, ne_eq, reduceCtorEq] at hcond))
        | simp only [qset, Nat.reduceEqDiff, reduceIte]
        | ((apply EndQ.ret1 rfl); (· (simp only [look_cons, Nat.reduceBEq, cond_true, cond_false] <;> exact rfl)))
        | ((apply EndQ.ret2 rfl); (· (simp only [look_cons, Nat.reduceBEq, cond_true, cond_false] <;> exact rfl)); (· (simp only [look_cons, Nat.reduceBEq, cond_true, cond_false] <;> exact rfl)))
        | (refine EndQ.ret0 rfl ?_)
        | (refine EndQ.nor0 rfl ?_)
      have : clT ts c = true := List.any_eq_true.2 ⟨c[j], List.getElem_mem h2, ht⟩
      exact ⟨by rw [this]; rfl, by trivial⟩
  · rw [List.take_of_length_le (by omega)] at hno
    repeat' first
      | with_reducible refine VC.seq' ?_
      | with_reducible refine VC.block' ?_
      | with_reducible refine VC.skip ?_
      | with_reducible refine VC.label ?_
      | with_reducible refine VC.scope ?_
      | with_reducible refine VC.exit ?_
      | with_reducible refine VC.ret ?_
      | with_reducible refine VL.nil ?_
      | ((first | with_reducible apply VC.plainL | with_reducible apply VC.readsL (by kernel_rfl) (by kernel_rfl) (by kernel_rfl)); (with_reducible apply VL.run tabOk); (· (simp (disch := omega) only [vset, wset, ints, bools, strs, undefM, Nat.reduceLT, Nat.reduceAdd, Nat.reduceBEq, Int.reduceToNat] <;> exact rfl)))
      | ((with_reducible apply VC.cond); (· (simp (disch := omega) only [vset, wset, ints, bools, strs, undefM, Nat.reduceLT, Nat.reduceAdd, Nat.reduceBEq, Int.reduceToNat] <;> exact rfl)); all_goals (intro hcond; try simp only [decide_eq_true_eq, decide_eq_false_iff_not, beq_iff_eq, beq_eq_false_iff_ne, bne_iff_ne, bne_eq_false_iff_eq, ne_eq, reduceCtorEq] at hcond))
      | simp only [qset, Nat.reduceEqDiff, reduceIte]
      | ((apply EndQ.ret1 rfl); (· (simp only [look_cons, Nat.reduceBEq, cond_true, cond_false] <;> exact rfl)))
      | ((apply EndQ.ret2 rfl); (· (simp only [look_cons, Nat.reduceBEq, cond_true, cond_false] <;> exact rfl)); (· (simp only [look_cons, Nat.reduceBEq, cond_true, cond_false] <;> exact rfl)))
      | (refine EndQ.ret0 rfl ?_)
      | (refine EndQ.nor0 rfl ?_)
    exact ⟨by rw [hno]; rfl, by trivial⟩

/-- A question as the program has it. -/
def qM (vars : Int) (cl : List (List Int × Tok)) (tk : Tok) : MV := .agg [mi vars, .sl cl.length (cl.map clM) tk]
/-- proof.Holds -/
theorem Holds_v (vars : Int) (cl : List (List Int × Tok)) (ts : List Bool) (tk tk' : Tok) (O : VH) (hl : ts.length ≤ 1000) (hn : cl.length ≤ 1000000) (hc : ∀ c ∈ cl, c.1.length ≤ 1000) (hR : ∀ c ∈ cl, ∀ n ∈ c.1, InR n) :
    VF Try.prog 29 [qM vars cl tk, bools ts tk'] O (Ret fun m O' => m = mi (hold (rows cl) ts) ∧ O.Ge O') := by
  have hq := VH.push_new O (.cells [mi vars, .sl cl.length (cl.map clM) tk])
  have hge := (VH.Ge.refl O).push (.cells [mi vars, .sl cl.length (cl.map clM) tk])
  simp only [mi_def] at hq hge
  refine VF.enter' tabOk Try.func29 (c := _) rfl (Nat.le_of_ble_eq_true rfl) ?_
  rw [show Try.f29.ntmps = 21 from rfl]
  simp only [argEnv, Nat.zero_add, Nat.reduceAdd]
  repeat' first
    | with_reducible refine VC.seq' ?_
    | with_reducible refine VC.block' ?_
    | with_reducible refine VC.skip ?_
    | with_reducible refine VC.label ?_
    | with_reducible refine VC.scope ?_
    | with_reducible refine VC.exit ?_
    | with_reducible refine VC.ret ?_
    | with_reducible refine VL.nil ?_
    | ((first | with_reducible apply VC.plainL | with_reducible apply VC.readsL (by kernel_rfl) (by kernel_rfl) (by kernel_rfl)); (with_reducible apply VL.run tabOk); (· (simp (disch := omega) only [vset, wset, ints, bools, strs, undefM, Nat.reduceLT, Nat.reduceAdd, Nat.reduceBEq, Int.reduceToNat, qM, fa41_1, vload_p ty24 rfl hq, vlen_sl ty24] <;> exact rfl)))
    | ((with_reducible apply VC.cond); (· (simp (disch := omega) only [vset, wset, ints, bools, strs, undefM, Nat.reduceLT, Nat.reduceAdd, Nat.reduceBEq, Int.reduceToNat, qM, fa41_1, vload_p ty24 rfl hq, vlen_sl ty24] <;> exact rfl)); all_goals (intro hcond; try simp only [decide_eq_true_eq, decide_eq_false_iff_not, beq_iff_eq, beq_eq_false_iff_ne, bne_iff_ne, bne_eq_false_iff_eq, ne_eq, reduceCtorEq] at hcond))
    | simp only [qset, Nat.reduceEqDiff, reduceIte]
    | ((apply EndQ.ret1 rfl); (· (simp only [look_cons, Nat.reduceBEq, cond_true, cond_false] <;> exact rfl)))
    | ((apply EndQ.ret2 rfl); (· (simp only [look_cons, Nat.reduceBEq, cond_true, cond_false] <;> exact rfl)); (· (simp only [look_cons, Nat.reduceBEq, cond_true, cond_false] <;> exact rfl)))
    | (refine EndQ.ret0 rfl ?_)
    | (refine EndQ.nor0 rfl ?_)
  generalize O.push (.cells [.v (.int .i64 vars), .sl cl.length (cl.map clM) tk]) = O1 at *
  apply VC.loopK [10] [1, 8, 9] (ms := fun s : Nat => [mi s]) (I := fun s O' => s ≤ cl.length ∧ O' = O1 ∧ ((rows cl).take s).all (clT ts) = true) (μ := fun s => cl.length - s) (s0 := 0)
  · (simp (disch := omega) only [vset, wset, ints, bools, strs, undefM, Nat.reduceLT, Nat.reduceAdd, Nat.reduceBEq, Int.reduceToNat, Int.natCast_zero, List.take_zero, List.map_nil, List.any_nil, Bool.or_false] <;> exact rfl)
  · (simp only [vset, wset, ints, bools, strs, undefM, Nat.reduceLT, Nat.reduceAdd, Nat.reduceBEq, Int.reduceToNat] <;> exact rfl)
  · exact ⟨by omega, rfl, rfl⟩
  rintro j O' ⟨hj, rfl, hall⟩
  by_cases h2 : j < cl.length
  · have hcj : (cl.map clM)[j]? = some (clM cl[j]) := by rw [List.getElem?_map, List.getElem?_eq_getElem h2]; rfl
    have hlen := hc _ (List.getElem_mem h2)
    have hRj := hR _ (List.getElem_mem h2)
    have hrj : (rows cl)[j]'(by simpa [rows] using h2) = cl[j].1 := by simp [rows]
    have hsn : ((rows cl).take (j + 1)).all (clT ts) = (((rows cl).take j).all (clT ts) && clT ts cl[j].1) := by
      rw [take_snoc _ _ (by simpa [rows] using h2), List.all_append, hrj]; simp
    have hat := hold_at (ts := ts) (j := j) (by simpa [rows] using h2) hall
    rw [hrj] at hat
    have hH := holds_v cl[j].1 ts cl[j].2 tk' O' hl hlen hRj
    cases ht : clT ts cl[j].1
    · rw [ht] at hH
      repeat' first
        | with_reducible refine VC.seq' ?_
        | with_reducible refine VC.block' ?_
        | with_reducible refine VC.skip ?_
        | with_reducible refine VC.label ?_
        | with_reducible refine VC.scope ?_
        | with_reducible refine VC.exit ?_
        | with_reducible refine VC.ret ?_
        | with_reducible refine VL.nil ?_
        | ((first | with_reducible apply VC.plainL | with_reducible apply VC.readsL (by kernel_rfl) (by kernel_rfl) (by kernel_rfl)); (with_reducible apply VL.run tabOk); (· (simp (disch := omega) only [vset, wset, ints, bools, strs, undefM, Nat.reduceLT, Nat.reduceAdd, Nat.reduceBEq, Int.reduceToNat, vix_sl ty24 ty22, vload_c ty22 rfl, hcj, clM] <;> exact rfl)))
        | ((with_reducible apply VC.cond); (· (simp (disch := omega) only [vset, wset, ints, bools, strs, undefM, Nat.reduceLT, Nat.reduceAdd, Nat.reduceBEq, Int.reduceToNat, vix_sl ty24 ty22, vload_c ty22 rfl, hcj, clM] <;> exact rfl)); all_goals (intro hcond; try simp only [decide_eq_true_eq, decide_eq_false_iff_not, beq_iff_eq, beq_eq_false_iff_ne, bne_iff_ne, bne_eq_false_iff_eq, ne_eq, reduceCtorEq] at hcond))
        | simp only [qset, Nat.reduceEqDiff, reduceIte]
        | ((apply EndQ.ret1 rfl); (· (simp only [look_cons, Nat.reduceBEq, cond_true, cond_false] <;> exact rfl)))
        | ((apply EndQ.ret2 rfl); (· (simp only [look_cons, Nat.reduceBEq, cond_true, cond_false] <;> exact rfl)); (· (simp only [look_cons, Nat.reduceBEq, cond_true, cond_false] <;> exact rfl)))
        | (refine EndQ.ret0 rfl ?_)
        | (refine EndQ.nor0 rfl ?_)
      apply VL.callR (id := 39) (hE := Enters.of Try.func39 (by decide) (by decide)) (hR := hH)
      · exact rfl
      · (simp (disch := omega) only [vset, wset, ints, bools, strs, undefM, Nat.reduceLT, Nat.reduceAdd, Nat.reduceBEq, Int.reduceToNat] <;> exact rfl)
      · (simp (disch := omega) only [vset, wset, ints, bools, strs, undefM, Nat.reduceLT, Nat.reduceAdd, Nat.reduceBEq, Int.reduceToNat] <;> exact rfl)
      · exact rfl
      · exact rfl
      rintro _ O3 ⟨rfl, rfl⟩
      apply VL.run tabOk
      · (simp (disch := omega) only [vset, wset, ints, bools, strs, undefM, Nat.reduceLT, Nat.reduceAdd, Nat.reduceBEq, Int.reduceToNat] <;> exact rfl)
      repeat' first
        | with_reducible refine VC.seq' ?_
        | with_reducible refine VC.block' ?_
        | with_reducible refine VC.skip ?_
        | with_reducible refine VC.label ?_
        | with_reducible refine VC.scope ?_
        | with_reducible refine VC.exit ?_
        | with_reducible refine VC.ret ?_
        | with_reducible refine VL.nil ?_
        | ((first | with_reducible apply VC.plainL | with_reducible apply VC.readsL (by kernel_rfl) (by kernel_rfl) (by kernel_rfl)); (with_reducible apply VL.run tabOk); (· (simp (disch := omega) only [vset, wset, ints, bools, strs, undefM, Nat.reduceLT, Nat.reduceAdd, Nat.reduceBEq, Int.reduceToNat] <;> exact rfl)))
        | ((with_reducible apply VC.cond); (· (simp (disch := omega) only [vset, wset, ints, bools, strs, undefM, Nat.reduceLT, Nat.reduceAdd, Nat.reduceBEq, Int.reduceToNat] <;> exact rfl)); all_goals (intro hcond; try simp only [decide_eq_true_eq, decide_eq_false_iff_not, beq_iff_eq, beq_eq_false_iff_ne, bne_iff_ne, bne_eq_false_iff_eq, ne_eq, reduceCtorEq] at hcond))
        | simp only [qset, Nat.reduceEqDiff, reduceIte]
        | ((apply EndQ.ret1 rfl); (· (simp only [look_cons, Nat.reduceBEq, cond_true, cond_false] <;> exact rfl)))
        | ((apply EndQ.ret2 rfl); (· (simp only [look_cons, Nat.reduceBEq, cond_true, cond_false] <;> exact rfl)); (· (simp only [look_cons, Nat.reduceBEq, cond_true, cond_false] <;> exact rfl)))
        | (refine EndQ.ret0 rfl ?_)
        | (refine EndQ.nor0 rfl ?_)
      exact ⟨by rw [hat ht]; rfl, hge⟩
    · rw [ht] at hH
      repeat' first
        | with_reducible refine VC.seq' ?_
        | with_reducible refine VC.block' ?_
        | with_reducible refine VC.skip ?_
        | with_reducible refine VC.label ?_
        | with_reducible refine VC.scope ?_
        | with_reducible refine VC.exit ?_
        | with_reducible refine VC.ret ?_
        | with_reducible refine VL.nil ?_
        | ((first | with_reducible apply VC.plainL | with_reducible apply VC.readsL (by kernel_rfl) (by kernel_rfl) (by kernel_rfl)); (with_reducible apply VL.run tabOk); (· (simp (disch := omega) only [vset, wset, ints, bools, strs, undefM, Nat.reduceLT, Nat.reduceAdd, Nat.reduceBEq, Int.reduceToNat, vix_sl ty24 ty22, vload_c ty22 rfl, hcj, clM] <;> exact rfl)))
        | ((with_reducible apply VC.cond); (· (simp (disch := omega) only [vset, wset, ints, bools, strs, undefM, Nat.reduceLT, Nat.reduceAdd, Nat.reduceBEq, Int.reduceToNat, vix_sl ty24 ty22, vload_c ty22 rfl, hcj, clM] <;> exact rfl)); all_goals (intro hcond; try simp only [decide_eq_true_eq, decide_eq_false_iff_not, beq_iff_eq, beq_eq_false_iff_ne, bne_iff_ne, bne_eq_false_iff_eq, ne_eq, reduceCtorEq] at hcond))
        | simp only [qset, Nat.reduceEqDiff, reduceIte]
        | ((apply EndQ.ret1 rfl); (· (simp only [look_cons, Nat.reduceBEq, cond_true, cond_false] <;> exact rfl)))
        | ((apply EndQ.ret2 rfl); (· (simp only [look_cons, Nat.reduceBEq, cond_true, cond_false] <;> exact rfl)); (· (simp only [look_cons, Nat.reduceBEq, cond_true, cond_false] <;> exact rfl)))
        | (refine EndQ.ret0 rfl ?_)
        | (refine EndQ.nor0 rfl ?_)
      apply VL.callR (id := 39) (hE := Enters.of Try.func39 (by decide) (by decide)) (hR := hH)
      · exact rfl
      · (simp (disch := omega) only [vset, wset, ints, bools, strs, undefM, Nat.reduceLT, Nat.reduceAdd, Nat.reduceBEq, Int.reduceToNat] <;> exact rfl)
      · (simp (disch := omega) only [vset, wset, ints, bools, strs, undefM, Nat.reduceLT, Nat.reduceAdd, Nat.reduceBEq, Int.reduceToNat] <;> exact rfl)
      · exact rfl
      · exact rfl
      rintro _ O3 ⟨rfl, rfl⟩
      apply VL.run tabOk
      · (simp (disch := omega) only [vset, wset, ints, bools, strs, undefM, Nat.reduceLT, Nat.reduceAdd, Nat.reduceBEq, Int.reduceToNat] <;> exact rfl)
      repeat' first
        | with_reducible refine VC.seq' ?_
        | with_reducible refine VC.block' ?_
        | with_reducible refine VC.skip ?_
        | with_reducible refine VC.label ?_
        | with_reducible refine VC.scope ?_
        | with_reducible refine VC.exit ?_
        | with_reducible refine VC.ret ?_
        | with_reducible refine VL.nil ?_
        | ((first | with_reducible apply VC.plainL | with_reducible apply VC.readsL (by kernel_rfl) (by kernel_rfl) (by kernel_rfl)); (with_reducible apply VL.run tabOk); (· (simp (disch := omega) only [vset, wset, ints, bools, strs, undefM, Nat.reduceLT, Nat.reduceAdd, Nat.reduceBEq, Int.reduceToNat] <;> exact rfl)))
        | ((with_reducible apply VC.cond); (· (simp (disch := omega) only [vset, wset, ints, bools, strs, undefM, Nat.reduceLT, Nat.reduceAdd, Nat.reduceBEq, Int.reduceToNat] <;> exact rfl)); all_goals (intro hcond; try simp only [decide_eq_true_eq, decide_eq_false_iff_not, beq_iff_eq, beq_eq_false_iff_ne, bne_iff_ne, bne_eq_false_iff_eq, ne_eq, reduceCtorEq] at hcond))
        | simp only [qset, Nat.reduceEqDiff, reduceIte]
        | ((apply EndQ.ret1 rfl); (· (simp only [look_cons, Nat.reduceBEq, cond_true, cond_false] <;> exact rfl)))
        | ((apply EndQ.ret2 rfl); (· (simp only [look_cons, Nat.reduceBEq, cond_true, cond_false] <;> exact rfl)); (· (simp only [look_cons, Nat.reduceBEq, cond_true, cond_false] <;> exact rfl)))
        | (refine EndQ.ret0 rfl ?_)
        | (refine EndQ.nor0 rfl ?_)
      refine ⟨?_, j + 1, ?_, ?_, by dsimp only; omega⟩
      · (simp only [vset, wset, ints, bools, strs, undefM, Nat.reduceLT, Nat.reduceAdd, Nat.reduceBEq, Int.reduceToNat] <;> exact rfl)
      · (simp (disch := omega) only [vset, wset, ints, bools, strs, undefM, Nat.reduceLT, Nat.reduceAdd, Nat.reduceBEq, Int.reduceToNat, Int.natCast_add, Int.cast_ofNat_Int] <;> first | done | exact rfl)
      exact ⟨by omega, rfl, by rw [hsn, hall, ht]; rfl⟩
  · rw [List.take_of_length_le (by simp [rows]; omega)] at hall
    repeat' first
      | with_reducible refine VC.seq' ?_
      | with_reducible refine VC.block' ?_
      | with_reducible refine VC.skip ?_
      | with_reducible refine VC.label ?_
      | with_reducible refine VC.scope ?_
      | with_reducible refine VC.exit ?_
      | with_reducible refine VC.ret ?_
      | with_reducible refine VL.nil ?_
      | ((first | with_reducible apply VC.plainL | with_reducible apply VC.readsL (by kernel_rfl) (by kernel_rfl) (by kernel_rfl)); (with_reducible apply VL.run tabOk); (· (simp (disch := omega) only [vset, wset, ints, bools, strs, undefM, Nat.reduceLT, Nat.reduceAdd, Nat.reduceBEq, Int.reduceToNat] <;> exact rfl)))
      | ((with_reducible apply VC.cond); (· (simp (disch := omega) only [vset, wset, ints, bools, strs, undefM, Nat.reduceLT, Nat.reduceAdd, Nat.reduceBEq, Int.reduceToNat] <;> exact rfl)); all_goals (intro hcond; try simp only [decide_eq_true_eq, decide_eq_false_iff_not, beq_iff_eq, beq_eq_false_iff_ne, bne_iff_ne, bne_eq_false_iff_eq, ne_eq, reduceCtorEq] at hcond))
      | simp only [qset, Nat.reduceEqDiff, reduceIte]
      | ((apply EndQ.ret1 rfl); (· (simp only [look_cons, Nat.reduceBEq, cond_true, cond_false] <;> exact rfl)))
      | ((apply EndQ.ret2 rfl); (· (simp only [look_cons, Nat.reduceBEq, cond_true, cond_false] <;> exact rfl)); (· (simp only [look_cons, Nat.reduceBEq, cond_true, cond_false] <;> exact rfl)))
      | (refine EndQ.ret0 rfl ?_)
      | (refine EndQ.nor0 rfl ?_)
    exact ⟨by rw [hold_none hall]; rfl, hge⟩

/-! ### What is taken -/
def yesL (ord : List Int) : List (Int × Bool) := ord.map fun n => (n, true)
theorem mfind_yes (ord : List Int) (n : Int) : mfind (yesL ord) n = if n ∈ ord then some true else none := by
  induction ord with
  | nil => rfl
  | cons a l ih =>
    rw [yesL, List.map_cons, mfind]
    by_cases h : a = n
    · subst h; simp
    · rw [if_neg h]
      rw [show List.map (fun n => (n, true)) l = yesL l from rfl, ih]
      simp [Ne.symm h]
theorem mput_yes (ord : List Int) (n : Int) (h : n ∉ ord) : mput (yesL ord) n true = yesL (ord ++ [n]) := by
  induction ord with
  | nil => rfl
  | cons a l ih =>
    simp only [List.mem_cons, not_or] at h
    rw [yesL, List.map_cons, mput, if_neg (Ne.symm h.1), show List.map (fun n => (n, true)) l = yesL l from rfl, ih h.2]
    rfl
/-- The taken object: bt; its map: bm; the base that it speaks of: bb. -/
structure Tk (O0 : VH) (bt bm bb : Nat) (ord todo : List Int) (bad : Bool) (O : VH) : Prop where
  ge : O0.Ge O
  lt : O0.next ≤ bt ∧ bt < O.next
  lm : O0.next ≤ bm ∧ bm < O.next
  ne : bt ≠ bm
  ht : ∃ s, O.hp bt = some (.cells [.ptr bb 0, .map bm, ints todo s, mb bad]) ∧ App O O0.next 1 s ∧ (todo = [] ∨ s ≠ .nil)
  hm : O.hp bm = some (mapI mb (yesL ord))
theorem vstore_pasl1 {tab : Tab} {O : VH} {t : TypeId} {u : TypeDesc} {d : Nat} {y cs : List MV} {k off : Nat} {x : MV} (h : tab t = some ⟨u, 1, d, y⟩) (hx : mcells x = [x]) (hl' : leafB x = true) (hk : O.hp k = some (.cells cs)) (hl : off < cs.length) : vstore tab O t (.ptr k off) x = some (O.set k (.cells (cs.set off x))) := vstore_p h hx hl' hk hl

/-- (*proof.taken).take -/
theorem take_v {O0 O : VH} {bt bm bb : Nat} {ord todo : List Int} {bad : Bool} (hT : Tk O0 bt bm bb ord todo bad O) (n : Int) (hn : InR n) (hl : todo.length ≤ 10000000) :
    VF Try.prog 40 [.ptr bt 0, mi n] O (Ret fun m O' => m = .tuple [] ∧ Tk O0 bt bm bb (if n ∈ ord then ord else ord ++ [n]) (if n ∈ ord then todo else todo ++ [n]) (bad || decide (-n ∈ ord)) O') := by
  simp only [InR] at hn
  -- the first half: is the other one taken?
  obtain ⟨s, h1, happ, hnn⟩ := hT.ht
  have hm := hT.hm
  have hlk : ∀ {O' : VH}, O'.hp bm = some (mapI mb (yesL ord)) → ∀ k, vlookup (tyOf Try.prog) O' 66 (.map bm) (.v (.int .i64 k)) false = some (mb (decide (k ∈ ord))) := fun hm k => by
    rw [vlookup_I ty66 ty3 ty4 (z := mb false) rfl hm, mfind_yes]
    by_cases h : k ∈ ord
    · rw [if_pos h, decide_eq_true h]; rfl
    · rw [if_neg h, decide_eq_false h]; rfl
  have hup : ∀ {O' : VH}, O'.hp bm = some (mapI mb (yesL ord)) → n ∉ ord → vmapUpdate (tyOf Try.prog) O' 66 (.map bm) (.v (.int .i64 n)) (.v (.bool true)) = some (O'.set bm (mapI mb (yesL (ord ++ [n])))) := fun {O'} hm hno => by
    have := vmapUpdate_I (tab := tyOf Try.prog) (f := mb) ty66 ty3 (k := n) hm true (te := ⟨.bool, 1, 1, [.v (.bool false)]⟩)
    rw [mput_yes ord n hno] at this
    exact this
  refine VF.enter' tabOk Try.func40 (c := _) rfl (Nat.le_of_ble_eq_true rfl) ?_
  rw [show Try.f40.ntmps = 36 from rfl]
  simp only [argEnv, Nat.zero_add, Nat.reduceAdd]
  by_cases hneg : -n ∈ ord
  · have hd : decide (-n ∈ ord) = true := decide_eq_true hneg
    have hl1 := hlk hm (-n)
    rw [hd] at hl1
    have hT2 : Tk O0 bt bm bb ord todo (bad || decide (-n ∈ ord)) (O.set bt (.cells [.ptr bb 0, .map bm, .sl todo.length (todo.map mi) s, .v (.bool true)])) := by
      rw [hd, Bool.or_true]
      refine ⟨hT.ge.set hT.lt.1 _, hT.lt, hT.lm, hT.ne, ⟨s, upd_same _ _ _, ?_, hnn⟩, ?_⟩
      · cases s with
        | own t k => exact ⟨happ.1, (VH.set_ne _ _ (fun e => by subst e; rw [happ.2.1] at h1; cases h1)).trans happ.2.1, happ.2.2⟩
        | _ => exact happ
      · rw [VH.set_ne _ _ (Ne.symm hT.ne)]; exact hm
    repeat' first
      | with_reducible refine VC.seq' ?_
      | with_reducible refine VC.block' ?_
      | with_reducible refine VC.skip ?_
      | with_reducible refine VC.label ?_
      | with_reducible refine VC.scope ?_
      | with_reducible refine VC.exit ?_
      | with_reducible refine VC.ret ?_
      | with_reducible refine VL.nil ?_
      | ((first | with_reducible apply VC.plainL | with_reducible apply VC.readsL (by kernel_rfl) (by kernel_rfl) (by kernel_rfl)); (with_reducible apply VL.run tabOk); (· (simp (disch := omega) only [vset, wset, ints, bools, strs, undefM, Nat.reduceLT, Nat.reduceAdd, Nat.reduceBEq, Int.reduceToNat, vnil_p, fa68_1, fa68_3, vload_p ty66 rfl h1, hl1, vstore_pv (off := 3) ty4 h1 (by simp)] <;> exact rfl)))
      | ((with_reducible apply VC.cond); (· (simp (disch := omega) only [vset, wset, ints, bools, strs, undefM, Nat.reduceLT, Nat.reduceAdd, Nat.reduceBEq, Int.reduceToNat, vnil_p, fa68_1, fa68_3, vload_p ty66 rfl h1, hl1, vstore_pv (off := 3) ty4 h1 (by simp)] <;> exact rfl)); all_goals (intro hcond; try simp only [decide_eq_true_eq, decide_eq_false_iff_not, beq_iff_eq, beq_eq_false_iff_ne, bne_iff_ne, bne_eq_false_iff_eq, ne_eq, reduceCtorEq] at hcond))
      | simp only [qset, Nat.reduceEqDiff, reduceIte]
      | ((apply EndQ.ret1 rfl); (· (simp only [look_cons, Nat.reduceBEq, cond_true, cond_false] <;> exact rfl)))
      | ((apply EndQ.ret2 rfl); (· (simp only [look_cons, Nat.reduceBEq, cond_true, cond_false] <;> exact rfl)); (· (simp only [look_cons, Nat.reduceBEq, cond_true, cond_false] <;> exact rfl)))
      | (refine EndQ.ret0 rfl ?_)
      | (refine EndQ.nor0 rfl ?_)
    generalize O.set bt (.cells [.ptr bb 0, .map bm, .sl todo.length (todo.map mi) s, .v (.bool true)]) = O1 at *
    generalize (bad || decide (-n ∈ ord)) = bd at *
    obtain ⟨s1, h1', happ', hnn'⟩ := hT2.ht
    have hm' := hT2.hm
    clear hT h1 happ hm hl1
    by_cases hin : n ∈ ord
    · have hl2 := hlk hm' n
      rw [decide_eq_true hin] at hl2
      repeat' first
        | with_reducible refine VC.seq' ?_
        | with_reducible refine VC.block' ?_
        | with_reducible refine VC.skip ?_
        | with_reducible refine VC.label ?_
        | with_reducible refine VC.scope ?_
        | with_reducible refine VC.exit ?_
        | with_reducible refine VC.ret ?_
        | with_reducible refine VL.nil ?_
        | ((first | with_reducible apply VC.plainL | with_reducible apply VC.readsL (by kernel_rfl) (by kernel_rfl) (by kernel_rfl)); (with_reducible apply VL.run tabOk); (· (simp (disch := omega) only [vset, wset, ints, bools, strs, undefM, Nat.reduceLT, Nat.reduceAdd, Nat.reduceBEq, Int.reduceToNat, vnil_p, fa68_1, vload_p ty66 rfl h1', hl2] <;> exact rfl)))
        | ((with_reducible apply VC.cond); (· (simp (disch := omega) only [vset, wset, ints, bools, strs, undefM, Nat.reduceLT, Nat.reduceAdd, Nat.reduceBEq, Int.reduceToNat, vnil_p, fa68_1, vload_p ty66 rfl h1', hl2] <;> exact rfl)); all_goals (intro hcond; try simp only [decide_eq_true_eq, decide_eq_false_iff_not, beq_iff_eq, beq_eq_false_iff_ne, bne_iff_ne, bne_eq_false_iff_eq, ne_eq, reduceCtorEq] at hcond))
        | simp only [qset, Nat.reduceEqDiff, reduceIte]
        | ((apply EndQ.ret1 rfl); (· (simp only [look_cons, Nat.reduceBEq, cond_true, cond_false] <;> exact rfl)))
        | ((apply EndQ.ret2 rfl); (· (simp only [look_cons, Nat.reduceBEq, cond_true, cond_false] <;> exact rfl)); (· (simp only [look_cons, Nat.reduceBEq, cond_true, cond_false] <;> exact rfl)))
        | (refine EndQ.ret0 rfl ?_)
        | (refine EndQ.nor0 rfl ?_)
      exact ⟨by trivial, by rw [if_pos hin, if_pos hin]; exact hT2⟩
    · have hl2 := hlk hm' n
      rw [decide_eq_false hin] at hl2
      have hup' := hup hm' hin
      rw [if_neg hin, if_neg hin]
      have hu1 := (VH.set_ne O1 (mapI mb (yesL (ord ++ [n]))) hT2.ne).trans h1'
      have happ2 : App (VH.set O1 bm (mapI mb (yesL (ord ++ [n])))) O0.next 1 s1 := by
        cases s1 with
        | own t k => exact ⟨happ'.1, (VH.set_ne _ _ (fun e => by subst e; rw [happ'.2.1] at hm'; cases hm')).trans happ'.2.1, happ'.2.2⟩
        | _ => exact happ'
      have hmm := VH.set_get O1 bm (mapI mb (yesL (ord ++ [n])))
      have hge2 := hT2.ge.set hT2.lm.1 (mapI mb (yesL (ord ++ [n])))
      have hap := vappend_app ty22 ty3 (tk' := .full) (cs := todo.map mi) (n := todo.length) (ds := [.v (.int .i64 n)]) (k := 1) happ2 (by simp) rfl rfl (by decide) (by decide) (by omega) (by simp [maxLen]; omega)
      have hb2 := VH.after_hp happ2 hu1 (by simp) hT2.lt.2
      have hm2 := VH.after_hp happ2 hmm (by simp [mapI]) hT2.lm.2
      repeat' first
        | with_reducible refine VC.seq' ?_
        | with_reducible refine VC.block' ?_
        | with_reducible refine VC.skip ?_
        | with_reducible refine VC.label ?_
        | with_reducible refine VC.scope ?_
        | with_reducible refine VC.exit ?_
        | with_reducible refine VC.ret ?_
        | with_reducible refine VL.nil ?_
        | ((first | with_reducible apply VC.plainL | with_reducible apply VC.readsL (by kernel_rfl) (by kernel_rfl) (by kernel_rfl)); (with_reducible apply VL.run tabOk); (· (simp (disch := omega) only [vset, wset, ints, bools, strs, undefM, Nat.reduceLT, Nat.reduceAdd, Nat.reduceBEq, Int.reduceToNat, vnil_p, fa68_1, fa68_2, vload_p ty66 rfl h1', hl2, hup', vload_p ty22 rfl hu1, vbs1v ty22 ty3, hap, vstore_psl (off := 2) ty22 hb2 (by simp)] <;> exact rfl)))
        | ((with_reducible apply VC.cond); (· (simp (disch := omega) only [vset, wset, ints, bools, strs, undefM, Nat.reduceLT, Nat.reduceAdd, Nat.reduceBEq, Int.reduceToNat, vnil_p, fa68_1, fa68_2, vload_p ty66 rfl h1', hl2, hup', vload_p ty22 rfl hu1, vbs1v ty22 ty3, hap, vstore_psl (off := 2) ty22 hb2 (by simp)] <;> exact rfl)); all_goals (intro hcond; try simp only [decide_eq_true_eq, decide_eq_false_iff_not, beq_iff_eq, beq_eq_false_iff_ne, bne_iff_ne, bne_eq_false_iff_eq, ne_eq, reduceCtorEq] at hcond))
        | simp only [qset, Nat.reduceEqDiff, reduceIte]
        | ((apply EndQ.ret1 rfl); (· (simp only [look_cons, Nat.reduceBEq, cond_true, cond_false] <;> exact rfl)))
        | ((apply EndQ.ret2 rfl); (· (simp only [look_cons, Nat.reduceBEq, cond_true, cond_false] <;> exact rfl)); (· (simp only [look_cons, Nat.reduceBEq, cond_true, cond_false] <;> exact rfl)))
        | (refine EndQ.ret0 rfl ?_)
        | (refine EndQ.nor0 rfl ?_)
      have hnx := VH.after_next (VH.set O1 bm (mapI mb (yesL (ord ++ [n])))) s1
      refine ⟨by trivial, (hge2.after happ2 (Nat.le_refl _)).set hT2.lt.1 _, ⟨hT2.lt.1, ?_⟩, ⟨hT2.lm.1, ?_⟩, hT2.ne, ⟨.own (VH.next O1) 1, (upd_same _ _ _).trans ?_, ?_, .inr (by simp)⟩, ?_⟩
      · show _ < (VH.after _ s1).next
        rw [hnx]; exact Nat.lt_succ_of_lt hT2.lt.2
      · show _ < (VH.after _ s1).next
        rw [hnx]; exact Nat.lt_succ_of_lt hT2.lm.2
      · rw [ints, List.length_append, List.map_append]; rfl
      · refine ⟨rfl, (VH.set_ne _ _ ?_).trans (VH.after_new _ _), hge2.next, ?_⟩
        · have := hT2.lt.2; exact Nat.ne_of_gt this
        · show _ < (VH.after _ s1).next
          rw [hnx]; exact Nat.lt_succ_self _
      · rw [VH.set_ne _ _ (Ne.symm hT2.ne)]; exact hm2
  · have hd : decide (-n ∈ ord) = false := decide_eq_false hneg
    have hl1 := hlk hm (-n)
    rw [hd] at hl1
    have hT2 : Tk O0 bt bm bb ord todo (bad || decide (-n ∈ ord)) O := by
      rw [hd, Bool.or_false]; exact hT
    repeat' first
      | with_reducible refine VC.seq' ?_
      | with_reducible refine VC.block' ?_
      | with_reducible refine VC.skip ?_
      | with_reducible refine VC.label ?_
      | with_reducible refine VC.scope ?_
      | with_reducible refine VC.exit ?_
      | with_reducible refine VC.ret ?_
      | with_reducible refine VL.nil ?_
      | ((first | with_reducible apply VC.plainL | with_reducible apply VC.readsL (by kernel_rfl) (by kernel_rfl) (by kernel_rfl)); (with_reducible apply VL.run tabOk); (· (simp (disch := omega) only [vset, wset, ints, bools, strs, undefM, Nat.reduceLT, Nat.reduceAdd, Nat.reduceBEq, Int.reduceToNat, vnil_p, fa68_1, fa68_3, vload_p ty66 rfl h1, hl1] <;> exact rfl)))
      | ((with_reducible apply VC.cond); (· (simp (disch := omega) only [vset, wset, ints, bools, strs, undefM, Nat.reduceLT, Nat.reduceAdd, Nat.reduceBEq, Int.reduceToNat, vnil_p, fa68_1, fa68_3, vload_p ty66 rfl h1, hl1] <;> exact rfl)); all_goals (intro hcond; try simp only [decide_eq_true_eq, decide_eq_false_iff_not, beq_iff_eq, beq_eq_false_iff_ne, bne_iff_ne, bne_eq_false_iff_eq, ne_eq, reduceCtorEq] at hcond))
      | simp only [qset, Nat.reduceEqDiff, reduceIte]
      | ((apply EndQ.ret1 rfl); (· (simp only [look_cons, Nat.reduceBEq, cond_true, cond_false] <;> exact rfl)))
      | ((apply EndQ.ret2 rfl); (· (simp only [look_cons, Nat.reduceBEq, cond_true, cond_false] <;> exact rfl)); (· (simp only [look_cons, Nat.reduceBEq, cond_true, cond_false] <;> exact rfl)))
      | (refine EndQ.ret0 rfl ?_)
      | (refine EndQ.nor0 rfl ?_)
    generalize (bad || decide (-n ∈ ord)) = bd at *
    obtain ⟨s1, h1', happ', hnn'⟩ := hT2.ht
    have hm' := hT2.hm
    clear hT h1 happ hm hl1
    by_cases hin : n ∈ ord
    · have hl2 := hlk hm' n
      rw [decide_eq_true hin] at hl2
      repeat' first
        | with_reducible refine VC.seq' ?_
        | with_reducible refine VC.block' ?_
        | with_reducible refine VC.skip ?_
        | with_reducible refine VC.label ?_
        | with_reducible refine VC.scope ?_
        | with_reducible refine VC.exit ?_
        | with_reducible refine VC.ret ?_
        | with_reducible refine VL.nil ?_
        | ((first | with_reducible apply VC.plainL | with_reducible apply VC.readsL (by kernel_rfl) (by kernel_rfl) (by kernel_rfl)); (with_reducible apply VL.run tabOk); (· (simp (disch := omega) only [vset, wset, ints, bools, strs, undefM, Nat.reduceLT, Nat.reduceAdd, Nat.reduceBEq, Int.reduceToNat, vnil_p, fa68_1, vload_p ty66 rfl h1', hl2] <;> exact rfl)))
        | ((with_reducible apply VC.cond); (· (simp (disch := omega) only [vset, wset, ints, bools, strs, undefM, Nat.reduceLT, Nat.reduceAdd, Nat.reduceBEq, Int.reduceToNat, vnil_p, fa68_1, vload_p ty66 rfl h1', hl2] <;> exact rfl)); all_goals (intro hcond; try simp only [decide_eq_true_eq, decide_eq_false_iff_not, beq_iff_eq, beq_eq_false_iff_ne, bne_iff_ne, bne_eq_false_iff_eq, ne_eq, reduceCtorEq] at hcond))
        | simp only [qset, Nat.reduceEqDiff, reduceIte]
        | ((apply EndQ.ret1 rfl); (· (simp only [look_cons, Nat.reduceBEq, cond_true, cond_false] <;> exact rfl)))
        | ((apply EndQ.ret2 rfl); (· (simp only [look_cons, Nat.reduceBEq, cond_true, cond_false] <;> exact rfl)); (· (simp only [look_cons, Nat.reduceBEq, cond_true, cond_false] <;> exact rfl)))
        | (refine EndQ.ret0 rfl ?_)
        | (refine EndQ.nor0 rfl ?_)
      exact ⟨by trivial, by rw [if_pos hin, if_pos hin]; exact hT2⟩
    · have hl2 := hlk hm' n
      rw [decide_eq_false hin] at hl2
      have hup' := hup hm' hin
      rw [if_neg hin, if_neg hin]
      have hu1 := (VH.set_ne O (mapI mb (yesL (ord ++ [n]))) hT2.ne).trans h1'
      have happ2 : App (VH.set O bm (mapI mb (yesL (ord ++ [n])))) O0.next 1 s1 := by
        cases s1 with
        | own t k => exact ⟨happ'.1, (VH.set_ne _ _ (fun e => by subst e; rw [happ'.2.1] at hm'; cases hm')).trans happ'.2.1, happ'.2.2⟩
        | _ => exact happ'
      have hmm := VH.set_get O bm (mapI mb (yesL (ord ++ [n])))
      have hge2 := hT2.ge.set hT2.lm.1 (mapI mb (yesL (ord ++ [n])))
      have hap := vappend_app ty22 ty3 (tk' := .full) (cs := todo.map mi) (n := todo.length) (ds := [.v (.int .i64 n)]) (k := 1) happ2 (by simp) rfl rfl (by decide) (by decide) (by omega) (by simp [maxLen]; omega)
      have hb2 := VH.after_hp happ2 hu1 (by simp) hT2.lt.2
      have hm2 := VH.after_hp happ2 hmm (by simp [mapI]) hT2.lm.2
      repeat' first
        | with_reducible refine VC.seq' ?_
        | with_reducible refine VC.block' ?_
        | with_reducible refine VC.skip ?_
        | with_reducible refine VC.label ?_
        | with_reducible refine VC.scope ?_
        | with_reducible refine VC.exit ?_
        | with_reducible refine VC.ret ?_
        | with_reducible refine VL.nil ?_
        | ((first | with_reducible apply VC.plainL | with_reducible apply VC.readsL (by kernel_rfl) (by kernel_rfl) (by kernel_rfl)); (with_reducible apply VL.run tabOk); (· (simp (disch := omega) only [vset, wset, ints, bools, strs, undefM, Nat.reduceLT, Nat.reduceAdd, Nat.reduceBEq, Int.reduceToNat, vnil_p, fa68_1, fa68_2, vload_p ty66 rfl h1', hl2, hup', vload_p ty22 rfl hu1, vbs1v ty22 ty3, hap, vstore_psl (off := 2) ty22 hb2 (by simp)] <;> exact rfl)))
        | ((with_reducible apply VC.cond); (· (simp (disch := omega) only [vset, wset, ints, bools, strs, undefM, Nat.reduceLT, Nat.reduceAdd, Nat.reduceBEq, Int.reduceToNat, vnil_p, fa68_1, fa68_2, vload_p ty66 rfl h1', hl2, hup', vload_p ty22 rfl hu1, vbs1v ty22 ty3, hap, vstore_psl (off := 2) ty22 hb2 (by simp)] <;> exact rfl)); all_goals (intro hcond; try simp only [decide_eq_true_eq, decide_eq_false_iff_not, beq_iff_eq, beq_eq_false_iff_ne, bne_iff_ne, bne_eq_false_iff_eq, ne_eq, reduceCtorEq] at hcond))
        | simp only [qset, Nat.reduceEqDiff, reduceIte]
        | ((apply EndQ.ret1 rfl); (· (simp only [look_cons, Nat.reduceBEq, cond_true, cond_false] <;> exact rfl)))
        | ((apply EndQ.ret2 rfl); (· (simp only [look_cons, Nat.reduceBEq, cond_true, cond_false] <;> exact rfl)); (· (simp only [look_cons, Nat.reduceBEq, cond_true, cond_false] <;> exact rfl)))
        | (refine EndQ.ret0 rfl ?_)
        | (refine EndQ.nor0 rfl ?_)
      have hnx := VH.after_next (VH.set O bm (mapI mb (yesL (ord ++ [n])))) s1
      refine ⟨by trivial, (hge2.after happ2 (Nat.le_refl _)).set hT2.lt.1 _, ⟨hT2.lt.1, ?_⟩, ⟨hT2.lm.1, ?_⟩, hT2.ne, ⟨.own (VH.next O) 1, (upd_same _ _ _).trans ?_, ?_, .inr (by simp)⟩, ?_⟩
      · show _ < (VH.after _ s1).next
        rw [hnx]; exact Nat.lt_succ_of_lt hT2.lt.2
      · show _ < (VH.after _ s1).next
        rw [hnx]; exact Nat.lt_succ_of_lt hT2.lm.2
      · rw [ints, List.length_append, List.map_append]; rfl
      · refine ⟨rfl, (VH.set_ne _ _ ?_).trans (VH.after_new _ _), hge2.next, ?_⟩
        · have := hT2.lt.2; exact Nat.ne_of_gt this
        · show _ < (VH.after _ s1).next
          rw [hnx]; exact Nat.lt_succ_self _
      · rw [VH.set_ne _ _ (Ne.symm hT2.ne)]; exact hm2
end Go.Proofs.Ytcfoongiffpnlaa
