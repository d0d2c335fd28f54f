/-
  pomaceref16.has, Follows, Check; pomacelaw16.Light, mild, walked.
-/
import Derived.Test.YtcfoongiffpnlaaPrA
set_option linter.unusedVariables false
set_option linter.unusedSimpArgs false
namespace Go.Proofs.Ytcfoongiffpnlaa
open Go.RowKit

/-- pomaceref16.has -/
theorem has_v (l : List Int) (tk : Tok) (n : Int) (O : VH) (hl : l.length ≤ maxLen) : VF Try.prog 37 [ints l tk, mi n] O (Ret fun m O' => m = mb (decide (n ∈ l)) ∧ O' = O) := by
  have hlm : (l.length : Int) ≤ 9223372036854775807 := by simp [maxLen] at hl; omega
  refine VF.enter' tabOk Try.func37 (c := _) rfl (Nat.le_of_ble_eq_true rfl) ?_
  rw [show Try.f37.ntmps = 17 from rfl]
  simp only [argEnv, Nat.zero_add, Nat.reduceAdd]
  repeat' first
    | with_reducible refine VC.seq' ?_
    | with_reducible refine VC.block' ?_
    | with_reducible refine VC.skip ?_
    | with_reducible refine VC.label ?_
    | with_reducible refine VC.scope ?_
    | with_reducible refine VC.exit ?_
    | with_reducible refine VC.ret ?_
    | with_reducible refine VL.nil ?_
    | ((first | with_reducible apply VC.plainL | with_reducible apply VC.readsL (by kernel_rfl) (by kernel_rfl) (by kernel_rfl)); (with_reducible apply VL.run tabOk); (· (simp (disch := omega) only [vset, wset, ints, bools, strs, undefM, Nat.reduceLT, Nat.reduceAdd, Nat.reduceBEq, Int.reduceToNat, vlen_sl ty22] <;> exact rfl)))
    | ((with_reducible apply VC.cond); (· (simp (disch := omega) only [vset, wset, ints, bools, strs, undefM, Nat.reduceLT, Nat.reduceAdd, Nat.reduceBEq, Int.reduceToNat, vlen_sl ty22] <;> exact rfl)); all_goals (intro hcond; try simp only [decide_eq_true_eq, decide_eq_false_iff_not, beq_iff_eq, beq_eq_false_iff_ne, bne_iff_ne, bne_eq_false_iff_eq, ne_eq, reduceCtorEq] at hcond))
    | simp only [qset, Nat.reduceEqDiff, reduceIte]
    | ((apply EndQ.ret1 rfl); (· (simp only [look_cons, Nat.reduceBEq, cond_true, cond_false] <;> exact rfl)))
    | ((apply EndQ.ret2 rfl); (· (simp only [look_cons, Nat.reduceBEq, cond_true, cond_false] <;> exact rfl)); (· (simp only [look_cons, Nat.reduceBEq, cond_true, cond_false] <;> exact rfl)))
    | (refine EndQ.ret0 rfl ?_)
    | (refine EndQ.nor0 rfl ?_)
  apply VC.loopK [9] [1, 7, 8] (ms := fun s : Nat => [mi s]) (I := fun s O' => s ≤ l.length ∧ O' = O ∧ n ∉ l.take s) (μ := fun s => l.length - s) (s0 := 0)
  · (simp (disch := omega) only [vset, wset, ints, bools, strs, undefM, Nat.reduceLT, Nat.reduceAdd, Nat.reduceBEq, Int.reduceToNat, Int.natCast_zero, List.take_zero, List.map_nil, List.any_nil, Bool.or_false] <;> exact rfl)
  · (simp only [vset, wset, ints, bools, strs, undefM, Nat.reduceLT, Nat.reduceAdd, Nat.reduceBEq, Int.reduceToNat] <;> exact rfl)
  · exact ⟨by omega, rfl, by simp⟩
  rintro j O' ⟨hj, rfl, hno⟩
  by_cases h2 : j < l.length
  · by_cases he : l[j] = n
    · have hq : (l[j] == n) = true := by simpa using he
      repeat' first
        | with_reducible refine VC.seq' ?_
        | with_reducible refine VC.block' ?_
        | with_reducible refine VC.skip ?_
        | with_reducible refine VC.label ?_
        | with_reducible refine VC.scope ?_
        | with_reducible refine VC.exit ?_
        | with_reducible refine VC.ret ?_
        | with_reducible refine VL.nil ?_
        | ((first | with_reducible apply VC.plainL | with_reducible apply VC.readsL (by kernel_rfl) (by kernel_rfl) (by kernel_rfl)); (with_reducible apply VL.run tabOk); (· (simp (disch := omega) only [vset, wset, ints, bools, strs, undefM, Nat.reduceLT, Nat.reduceAdd, Nat.reduceBEq, Int.reduceToNat, vix_sl ty22 ty3, vload_c ty3 rfl, hq] <;> exact rfl)))
        | ((with_reducible apply VC.cond); (· (simp (disch := omega) only [vset, wset, ints, bools, strs, undefM, Nat.reduceLT, Nat.reduceAdd, Nat.reduceBEq, Int.reduceToNat, vix_sl ty22 ty3, vload_c ty3 rfl, hq] <;> exact rfl)); all_goals (intro hcond; try simp only [decide_eq_true_eq, decide_eq_false_iff_not, beq_iff_eq, beq_eq_false_iff_ne, bne_iff_ne, bne_eq_false_iff_eq, ne_eq, reduceCtorEq] at hcond))
        | simp only [qset, Nat.reduceEqDiff, reduceIte]
        | ((apply EndQ.ret1 rfl); (· (simp only [look_cons, Nat.reduceBEq, cond_true, cond_false] <;> exact rfl)))
        | ((apply EndQ.ret2 rfl); (· (simp only [look_cons, Nat.reduceBEq, cond_true, cond_false] <;> exact rfl)); (· (simp only [look_cons, Nat.reduceBEq, cond_true, cond_false] <;> exact rfl)))
        | (refine EndQ.ret0 rfl ?_)
        | (refine EndQ.nor0 rfl ?_)
      exact ⟨by rw [decide_eq_true (by rw [← he]; exact List.getElem_mem h2)]; rfl, by trivial⟩
    · have hq : (l[j] == n) = false := by simpa using he
      repeat' first
        | with_reducible refine VC.seq' ?_
        | with_reducible refine VC.block' ?_
        | with_reducible refine VC.skip ?_
        | with_reducible refine VC.label ?_
        | with_reducible refine VC.scope ?_
        | with_reducible refine VC.exit ?_
        | with_reducible refine VC.ret ?_
        | with_reducible refine VL.nil ?_
        | ((first | with_reducible apply VC.plainL | with_reducible apply VC.readsL (by kernel_rfl) (by kernel_rfl) (by kernel_rfl)); (with_reducible apply VL.run tabOk); (· (simp (disch := omega) only [vset, wset, ints, bools, strs, undefM, Nat.reduceLT, Nat.reduceAdd, Nat.reduceBEq, Int.reduceToNat, vix_sl ty22 ty3, vload_c ty3 rfl, hq] <;> exact rfl)))
        | ((with_reducible apply VC.cond); (· (simp (disch := omega) only [vset, wset, ints, bools, strs, undefM, Nat.reduceLT, Nat.reduceAdd, Nat.reduceBEq, Int.reduceToNat, vix_sl ty22 ty3, vload_c ty3 rfl, hq] <;> exact rfl)); all_goals (intro hcond; try simp only [decide_eq_true_eq, decide_eq_false_iff_not, beq_iff_eq, beq_eq_false_iff_ne, bne_iff_ne, bne_eq_false_iff_eq, ne_eq, reduceCtorEq] at hcond))
        | simp only [qset, Nat.reduceEqDiff, reduceIte]
        | ((apply EndQ.ret1 rfl); (· (simp only [look_cons, Nat.reduceBEq, cond_true, cond_false] <;> exact rfl)))
        | ((apply EndQ.ret2 rfl); (· (simp only [look_cons, Nat.reduceBEq, cond_true, cond_false] <;> exact rfl)); (· (simp only [look_cons, Nat.reduceBEq, cond_true, cond_false] <;> exact rfl)))
        | (refine EndQ.ret0 rfl ?_)
        | (refine EndQ.nor0 rfl ?_)
      refine ⟨?_, j + 1, ?_, ?_, by dsimp only; omega⟩
      · (simp only [vset, wset, ints, bools, strs, undefM, Nat.reduceLT, Nat.reduceAdd, Nat.reduceBEq, Int.reduceToNat] <;> exact rfl)
      · (simp (disch := omega) only [vset, wset, ints, bools, strs, undefM, Nat.reduceLT, Nat.reduceAdd, Nat.reduceBEq, Int.reduceToNat, Int.natCast_add, Int.cast_ofNat_Int] <;> first | done | exact rfl)
      refine ⟨by omega, rfl, ?_⟩
      rw [take_snoc _ _ h2, List.mem_append]
      rintro (h | h)
      · exact hno h
      · simp at h; exact he h.symm
  · rw [List.take_of_length_le (by omega)] at hno
    repeat' first
      | with_reducible refine VC.seq' ?_
      | with_reducible refine VC.block' ?_
      | with_reducible refine VC.skip ?_
      | with_reducible refine VC.label ?_
      | with_reducible refine VC.scope ?_
      | with_reducible refine VC.exit ?_
      | with_reducible refine VC.ret ?_
      | with_reducible refine VL.nil ?_
      | ((first | with_reducible apply VC.plainL | with_reducible apply VC.readsL (by kernel_rfl) (by kernel_rfl) (by kernel_rfl)); (with_reducible apply VL.run tabOk); (· (simp (disch := omega) only [vset, wset, ints, bools, strs, undefM, Nat.reduceLT, Nat.reduceAdd, Nat.reduceBEq, Int.reduceToNat] <;> exact rfl)))
      | ((with_reducible apply VC.cond); (· (simp (disch := omega) only [vset, wset, ints, bools, strs, undefM, Nat.reduceLT, Nat.reduceAdd, Nat.reduceBEq, Int.reduceToNat] <;> exact rfl)); all_goals (intro hcond; try simp only [decide_eq_true_eq, decide_eq_false_iff_not, beq_iff_eq, beq_eq_false_iff_ne, bne_iff_ne, bne_eq_false_iff_eq, ne_eq, reduceCtorEq] at hcond))
      | simp only [qset, Nat.reduceEqDiff, reduceIte]
      | ((apply EndQ.ret1 rfl); (· (simp only [look_cons, Nat.reduceBEq, cond_true, cond_false] <;> exact rfl)))
      | ((apply EndQ.ret2 rfl); (· (simp only [look_cons, Nat.reduceBEq, cond_true, cond_false] <;> exact rfl)); (· (simp only [look_cons, Nat.reduceBEq, cond_true, cond_false] <;> exact rfl)))
      | (refine EndQ.ret0 rfl ?_)
      | (refine EndQ.nor0 rfl ?_)
    exact ⟨by rw [decide_eq_false hno]; rfl, by trivial⟩
theorem has_t {l : List Int} {tk : Tok} {n : Int} (O : VH) (hl : l.length ≤ maxLen) (h : n ∈ l) : VF Try.prog 37 [ints l tk, mi n] O (Ret fun m O' => m = mb true ∧ O' = O) :=
  (has_v l tk n O hl).retMono fun m O' ⟨h1, h2⟩ => ⟨by rw [h1, decide_eq_true h], h2⟩
theorem has_f {l : List Int} {tk : Tok} {n : Int} (O : VH) (hl : l.length ≤ maxLen) (h : n ∉ l) : VF Try.prog 37 [ints l tk, mi n] O (Ret fun m O' => m = mb false ∧ O' = O) :=
  (has_v l tk n O hl).retMono fun m O' ⟨h1, h2⟩ => ⟨by rw [h1, decide_eq_false h], h2⟩

/-- pomacelaw16.Light -/
theorem Light_v (cl : List (List Int × Tok)) (tk : Tok) (O : VH) (hl : cl.length ≤ maxLen) (hc : ∀ c ∈ cl, c.1.length ≤ maxLen) :
    VF Try.prog 22 [.sl cl.length (cl.map clM) tk] O (Ret fun m O' => ∃ r, m = mb r ∧ (r = true → cl.length ≤ 80 ∧ ∀ c ∈ cl, c.1.length ≤ 20) ∧ O' = O) := by
  have hlm : (cl.length : Int) ≤ 9223372036854775807 := by simp [maxLen] at hl; omega
  refine VF.enter' tabOk Try.func22 (c := _) rfl (Nat.le_of_ble_eq_true rfl) ?_
  rw [show Try.f22.ntmps = 18 from rfl]
  simp only [argEnv, Nat.zero_add, Nat.reduceAdd]
  by_cases h80 : cl.length ≤ 80
  · repeat' first
      | with_reducible refine VC.seq' ?_
      | with_reducible refine VC.block' ?_
      | with_reducible refine VC.skip ?_
      | with_reducible refine VC.label ?_
      | with_reducible refine VC.scope ?_
      | with_reducible refine VC.exit ?_
      | with_reducible refine VC.ret ?_
      | with_reducible refine VL.nil ?_
      | ((first | with_reducible apply VC.plainL | with_reducible apply VC.readsL (by kernel_rfl) (by kernel_rfl) (by kernel_rfl)); (with_reducible apply VL.run tabOk); (· (simp (disch := omega) only [vset, wset, ints, bools, strs, undefM, Nat.reduceLT, Nat.reduceAdd, Nat.reduceBEq, Int.reduceToNat, vlen_sl ty24] <;> exact rfl)))
      | ((with_reducible apply VC.cond); (· (simp (disch := omega) only [vset, wset, ints, bools, strs, undefM, Nat.reduceLT, Nat.reduceAdd, Nat.reduceBEq, Int.reduceToNat, vlen_sl ty24] <;> exact rfl)); all_goals (intro hcond; try simp only [decide_eq_true_eq, decide_eq_false_iff_not, beq_iff_eq, beq_eq_false_iff_ne, bne_iff_ne, bne_eq_false_iff_eq, ne_eq, reduceCtorEq] at hcond))
      | simp only [qset, Nat.reduceEqDiff, reduceIte]
      | ((apply EndQ.ret1 rfl); (· (simp only [look_cons, Nat.reduceBEq, cond_true, cond_false] <;> exact rfl)))
      | ((apply EndQ.ret2 rfl); (· (simp only [look_cons, Nat.reduceBEq, cond_true, cond_false] <;> exact rfl)); (· (simp only [look_cons, Nat.reduceBEq, cond_true, cond_false] <;> exact rfl)))
      | (refine EndQ.ret0 rfl ?_)
      | (refine EndQ.nor0 rfl ?_)
    apply VC.loopK [10] [8, 9] (ms := fun s : Nat => [mi s]) (I := fun s O' => s ≤ cl.length ∧ O' = O ∧ ∀ c ∈ cl.take s, c.1.length ≤ 20) (μ := fun s => cl.length - s) (s0 := 0)
    · (simp (disch := omega) only [vset, wset, ints, bools, strs, undefM, Nat.reduceLT, Nat.reduceAdd, Nat.reduceBEq, Int.reduceToNat, Int.natCast_zero, List.take_zero, List.map_nil, List.any_nil, Bool.or_false] <;> exact rfl)
    · (simp only [vset, wset, ints, bools, strs, undefM, Nat.reduceLT, Nat.reduceAdd, Nat.reduceBEq, Int.reduceToNat] <;> exact rfl)
    · exact ⟨by omega, rfl, by simp⟩
    rintro j O' ⟨hj, rfl, hall⟩
    by_cases h2 : j < cl.length
    · have hcj : (cl.map clM)[j]? = some (clM cl[j]) := by rw [List.getElem?_map, List.getElem?_eq_getElem h2]; rfl
      have hlen := hc _ (List.getElem_mem h2)
      simp only [maxLen] at hlen
      by_cases h20 : cl[j].1.length ≤ 20
      · repeat' first
          | with_reducible refine VC.seq' ?_
          | with_reducible refine VC.block' ?_
          | with_reducible refine VC.skip ?_
          | with_reducible refine VC.label ?_
          | with_reducible refine VC.scope ?_
          | with_reducible refine VC.exit ?_
          | with_reducible refine VC.ret ?_
          | with_reducible refine VL.nil ?_
          | ((first | with_reducible apply VC.plainL | with_reducible apply VC.readsL (by kernel_rfl) (by kernel_rfl) (by kernel_rfl)); (with_reducible apply VL.run tabOk); (· (simp (disch := omega) only [vset, wset, ints, bools, strs, undefM, Nat.reduceLT, Nat.reduceAdd, Nat.reduceBEq, Int.reduceToNat, vix_sl ty24 ty22, vload_c ty22 rfl, hcj, clM, vlen_sl ty22] <;> exact rfl)))
          | ((with_reducible apply VC.cond); (· (simp (disch := omega) only [vset, wset, ints, bools, strs, undefM, Nat.reduceLT, Nat.reduceAdd, Nat.reduceBEq, Int.reduceToNat, vix_sl ty24 ty22, vload_c ty22 rfl, hcj, clM, vlen_sl ty22] <;> exact rfl)); all_goals (intro hcond; try simp only [decide_eq_true_eq, decide_eq_false_iff_not, beq_iff_eq, beq_eq_false_iff_ne, bne_iff_ne, bne_eq_false_iff_eq, ne_eq, reduceCtorEq] at hcond))
          | simp only [qset, Nat.reduceEqDiff, reduceIte]
          | ((apply EndQ.ret1 rfl); (· (simp only [look_cons, Nat.reduceBEq, cond_true, cond_false] <;> exact rfl)))
          | ((apply EndQ.ret2 rfl); (· (simp only [look_cons, Nat.reduceBEq, cond_true, cond_false] <;> exact rfl)); (· (simp only [look_cons, Nat.reduceBEq, cond_true, cond_false] <;> exact rfl)))
          | (refine EndQ.ret0 rfl ?_)
          | (refine EndQ.nor0 rfl ?_)
        refine ⟨?_, j + 1, ?_, ?_, by dsimp only; omega⟩
        · (simp only [vset, wset, ints, bools, strs, undefM, Nat.reduceLT, Nat.reduceAdd, Nat.reduceBEq, Int.reduceToNat] <;> exact rfl)
        · (simp (disch := omega) only [vset, wset, ints, bools, strs, undefM, Nat.reduceLT, Nat.reduceAdd, Nat.reduceBEq, Int.reduceToNat, Int.natCast_add, Int.cast_ofNat_Int] <;> first | done | exact rfl)
        refine ⟨by omega, rfl, fun c hc' => ?_⟩
        rw [take_snoc _ _ h2] at hc'
        rcases List.mem_append.1 hc' with h | h
        · exact hall c h
        · rw [List.mem_singleton.1 h]; exact h20
      · repeat' first
          | with_reducible refine VC.seq' ?_
          | with_reducible refine VC.block' ?_
          | with_reducible refine VC.skip ?_
          | with_reducible refine VC.label ?_
          | with_reducible refine VC.scope ?_
          | with_reducible refine VC.exit ?_
          | with_reducible refine VC.ret ?_
          | with_reducible refine VL.nil ?_
          | ((first | with_reducible apply VC.plainL | with_reducible apply VC.readsL (by kernel_rfl) (by kernel_rfl) (by kernel_rfl)); (with_reducible apply VL.run tabOk); (· (simp (disch := omega) only [vset, wset, ints, bools, strs, undefM, Nat.reduceLT, Nat.reduceAdd, Nat.reduceBEq, Int.reduceToNat, vix_sl ty24 ty22, vload_c ty22 rfl, hcj, clM, vlen_sl ty22] <;> exact rfl)))
          | ((with_reducible apply VC.cond); (· (simp (disch := omega) only [vset, wset, ints, bools, strs, undefM, Nat.reduceLT, Nat.reduceAdd, Nat.reduceBEq, Int.reduceToNat, vix_sl ty24 ty22, vload_c ty22 rfl, hcj, clM, vlen_sl ty22] <;> exact rfl)); all_goals (intro hcond; try simp only [decide_eq_true_eq, decide_eq_false_iff_not, beq_iff_eq, beq_eq_false_iff_ne, bne_iff_ne, bne_eq_false_iff_eq, ne_eq, reduceCtorEq] at hcond))
          | simp only [qset, Nat.reduceEqDiff, reduceIte]
          | ((apply EndQ.ret1 rfl); (· (simp only [look_cons, Nat.reduceBEq, cond_true, cond_false] <;> exact rfl)))
          | ((apply EndQ.ret2 rfl); (· (simp only [look_cons, Nat.reduceBEq, cond_true, cond_false] <;> exact rfl)); (· (simp only [look_cons, Nat.reduceBEq, cond_true, cond_false] <;> exact rfl)))
          | (refine EndQ.ret0 rfl ?_)
          | (refine EndQ.nor0 rfl ?_)
        exact ⟨false, rfl, (fun h => by cases h), by trivial⟩
    · rw [List.take_of_length_le (by omega)] at hall
      repeat' first
        | with_reducible refine VC.seq' ?_
        | with_reducible refine VC.block' ?_
        | with_reducible refine VC.skip ?_
        | with_reducible refine VC.label ?_
        | with_reducible refine VC.scope ?_
        | with_reducible refine VC.exit ?_
        | with_reducible refine VC.ret ?_
        | with_reducible refine VL.nil ?_
        | ((first | with_reducible apply VC.plainL | with_reducible apply VC.readsL (by kernel_rfl) (by kernel_rfl) (by kernel_rfl)); (with_reducible apply VL.run tabOk); (· (simp (disch := omega) only [vset, wset, ints, bools, strs, undefM, Nat.reduceLT, Nat.reduceAdd, Nat.reduceBEq, Int.reduceToNat] <;> exact rfl)))
        | ((with_reducible apply VC.cond); (· (simp (disch := omega) only [vset, wset, ints, bools, strs, undefM, Nat.reduceLT, Nat.reduceAdd, Nat.reduceBEq, Int.reduceToNat] <;> exact rfl)); all_goals (intro hcond; try simp only [decide_eq_true_eq, decide_eq_false_iff_not, beq_iff_eq, beq_eq_false_iff_ne, bne_iff_ne, bne_eq_false_iff_eq, ne_eq, reduceCtorEq] at hcond))
        | simp only [qset, Nat.reduceEqDiff, reduceIte]
        | ((apply EndQ.ret1 rfl); (· (simp only [look_cons, Nat.reduceBEq, cond_true, cond_false] <;> exact rfl)))
        | ((apply EndQ.ret2 rfl); (· (simp only [look_cons, Nat.reduceBEq, cond_true, cond_false] <;> exact rfl)); (· (simp only [look_cons, Nat.reduceBEq, cond_true, cond_false] <;> exact rfl)))
        | (refine EndQ.ret0 rfl ?_)
        | (refine EndQ.nor0 rfl ?_)
      exact ⟨true, rfl, fun _ => ⟨h80, hall⟩, by trivial⟩
  · repeat' first
      | with_reducible refine VC.seq' ?_
      | with_reducible refine VC.block' ?_
      | with_reducible refine VC.skip ?_
      | with_reducible refine VC.label ?_
      | with_reducible refine VC.scope ?_
      | with_reducible refine VC.exit ?_
      | with_reducible refine VC.ret ?_
      | with_reducible refine VL.nil ?_
      | ((first | with_reducible apply VC.plainL | with_reducible apply VC.readsL (by kernel_rfl) (by kernel_rfl) (by kernel_rfl)); (with_reducible apply VL.run tabOk); (· (simp (disch := omega) only [vset, wset, ints, bools, strs, undefM, Nat.reduceLT, Nat.reduceAdd, Nat.reduceBEq, Int.reduceToNat, vlen_sl ty24] <;> exact rfl)))
      | ((with_reducible apply VC.cond); (· (simp (disch := omega) only [vset, wset, ints, bools, strs, undefM, Nat.reduceLT, Nat.reduceAdd, Nat.reduceBEq, Int.reduceToNat, vlen_sl ty24] <;> exact rfl)); all_goals (intro hcond; try simp only [decide_eq_true_eq, decide_eq_false_iff_not, beq_iff_eq, beq_eq_false_iff_ne, bne_iff_ne, bne_eq_false_iff_eq, ne_eq, reduceCtorEq] at hcond))
      | simp only [qset, Nat.reduceEqDiff, reduceIte]
      | ((apply EndQ.ret1 rfl); (· (simp only [look_cons, Nat.reduceBEq, cond_true, cond_false] <;> exact rfl)))
      | ((apply EndQ.ret2 rfl); (· (simp only [look_cons, Nat.reduceBEq, cond_true, cond_false] <;> exact rfl)); (· (simp only [look_cons, Nat.reduceBEq, cond_true, cond_false] <;> exact rfl)))
      | (refine EndQ.ret0 rfl ?_)
      | (refine EndQ.nor0 rfl ?_)
    exact ⟨false, rfl, (fun h => by cases h), by trivial⟩

/-- pomacelaw16.mild -/
theorem mild_v (cl : List (List Int × Tok)) (tk : Tok) (O : VH) (hl : cl.length ≤ maxLen) (hc : ∀ c ∈ cl, c.1.length ≤ maxLen) (hx : ∀ c ∈ cl, ∀ n ∈ c.1, InK .i64 n) :
    VF Try.prog 23 [.sl cl.length (cl.map clM) tk] O (Ret fun m O' => ∃ r, m = mb r ∧ (r = true → ∀ c ∈ cl, ∀ n ∈ c.1, n ≠ -9223372036854775808) ∧ O' = O) := by
  have hlm : (cl.length : Int) ≤ 9223372036854775807 := by simp [maxLen] at hl; omega
  refine VF.enter' tabOk Try.func23 (c := _) rfl (Nat.le_of_ble_eq_true rfl) ?_
  rw [show Try.f23.ntmps = 29 from rfl]
  simp only [argEnv, Nat.zero_add, Nat.reduceAdd]
  repeat' first
    | with_reducible refine VC.seq' ?_
    | with_reducible refine VC.block' ?_
    | with_reducible refine VC.skip ?_
    | with_reducible refine VC.label ?_
    | with_reducible refine VC.scope ?_
    | with_reducible refine VC.exit ?_
    | with_reducible refine VC.ret ?_
    | with_reducible refine VL.nil ?_
    | ((first | with_reducible apply VC.plainL | with_reducible apply VC.readsL (by kernel_rfl) (by kernel_rfl) (by kernel_rfl)); (with_reducible apply VL.run tabOk); (· (simp (disch := omega) only [vset, wset, ints, bools, strs, undefM, Nat.reduceLT, Nat.reduceAdd, Nat.reduceBEq, Int.reduceToNat, vlen_sl ty24] <;> exact rfl)))
    | ((with_reducible apply VC.cond); (· (simp (disch := omega) only [vset, wset, ints, bools, strs, undefM, Nat.reduceLT, Nat.reduceAdd, Nat.reduceBEq, Int.reduceToNat, vlen_sl ty24] <;> exact rfl)); all_goals (intro hcond; try simp only [decide_eq_true_eq, decide_eq_false_iff_not, beq_iff_eq, beq_eq_false_iff_ne, bne_iff_ne, bne_eq_false_iff_eq, ne_eq, reduceCtorEq] at hcond))
    | simp only [qset, Nat.reduceEqDiff, reduceIte]
    | ((apply EndQ.ret1 rfl); (· (simp only [look_cons, Nat.reduceBEq, cond_true, cond_false] <;> exact rfl)))
    | ((apply EndQ.ret2 rfl); (· (simp only [look_cons, Nat.reduceBEq, cond_true, cond_false] <;> exact rfl)); (· (simp only [look_cons, Nat.reduceBEq, cond_true, cond_false] <;> exact rfl)))
    | (refine EndQ.ret0 rfl ?_)
    | (refine EndQ.nor0 rfl ?_)
  apply VC.loopK [9] [7, 8] (ms := fun s : Nat => [mi s]) (I := fun s O' => s ≤ cl.length ∧ O' = O ∧ ∀ c ∈ cl.take s, ∀ n ∈ c.1, n ≠ -9223372036854775808) (μ := fun s => cl.length - s) (s0 := 0)
  · (simp (disch := omega) only [vset, wset, ints, bools, strs, undefM, Nat.reduceLT, Nat.reduceAdd, Nat.reduceBEq, Int.reduceToNat, Int.natCast_zero, List.take_zero, List.map_nil, List.any_nil, Bool.or_false] <;> exact rfl)
  · (simp only [vset, wset, ints, bools, strs, undefM, Nat.reduceLT, Nat.reduceAdd, Nat.reduceBEq, Int.reduceToNat] <;> exact rfl)
  · exact ⟨by omega, rfl, by simp⟩
  rintro j O' ⟨hj, rfl, hall⟩
  by_cases h2 : j < cl.length
  · have hcj : (cl.map clM)[j]? = some (clM cl[j]) := by rw [List.getElem?_map, List.getElem?_eq_getElem h2]; rfl
    have hlen := hc _ (List.getElem_mem h2)
    have hxj := hx _ (List.getElem_mem h2)
    simp only [maxLen] at hlen
    repeat' first
      | with_reducible refine VC.seq' ?_
      | with_reducible refine VC.block' ?_
      | with_reducible refine VC.skip ?_
      | with_reducible refine VC.label ?_
      | with_reducible refine VC.scope ?_
      | with_reducible refine VC.exit ?_
      | with_reducible refine VC.ret ?_
      | with_reducible refine VL.nil ?_
      | ((first | with_reducible apply VC.plainL | with_reducible apply VC.readsL (by kernel_rfl) (by kernel_rfl) (by kernel_rfl)); (with_reducible apply VL.run tabOk); (· (simp (disch := omega) only [vset, wset, ints, bools, strs, undefM, Nat.reduceLT, Nat.reduceAdd, Nat.reduceBEq, Int.reduceToNat, vix_sl ty24 ty22, vload_c ty22 rfl, hcj, clM, vlen_sl ty22] <;> exact rfl)))
      | ((with_reducible apply VC.cond); (· (simp (disch := omega) only [vset, wset, ints, bools, strs, undefM, Nat.reduceLT, Nat.reduceAdd, Nat.reduceBEq, Int.reduceToNat, vix_sl ty24 ty22, vload_c ty22 rfl, hcj, clM, vlen_sl ty22] <;> exact rfl)); all_goals (intro hcond; try simp only [decide_eq_true_eq, decide_eq_false_iff_not, beq_iff_eq, beq_eq_false_iff_ne, bne_iff_ne, bne_eq_false_iff_eq, ne_eq, reduceCtorEq] at hcond))
      | simp only [qset, Nat.reduceEqDiff, reduceIte]
      | ((apply EndQ.ret1 rfl); (· (simp only [look_cons, Nat.reduceBEq, cond_true, cond_false] <;> exact rfl)))
      | ((apply EndQ.ret2 rfl); (· (simp only [look_cons, Nat.reduceBEq, cond_true, cond_false] <;> exact rfl)); (· (simp only [look_cons, Nat.reduceBEq, cond_true, cond_false] <;> exact rfl)))
      | (refine EndQ.ret0 rfl ?_)
      | (refine EndQ.nor0 rfl ?_)
    apply VC.loopK [15] [7, 8, 9, 13, 14] (ms := fun s : Nat => [mi s]) (I := fun s O2 => s ≤ cl[j].1.length ∧ O2 = O' ∧ ∀ n ∈ cl[j].1.take s, n ≠ -9223372036854775808) (μ := fun s => cl[j].1.length - s) (s0 := 0)
    · (simp (disch := omega) only [vset, wset, ints, bools, strs, undefM, Nat.reduceLT, Nat.reduceAdd, Nat.reduceBEq, Int.reduceToNat, Int.natCast_zero, List.take_zero, List.map_nil, List.any_nil, Bool.or_false] <;> exact rfl)
    · (simp only [vset, wset, ints, bools, strs, undefM, Nat.reduceLT, Nat.reduceAdd, Nat.reduceBEq, Int.reduceToNat] <;> exact rfl)
    · exact ⟨by omega, rfl, by simp⟩
    rintro i O2 ⟨hi, rfl, hall2⟩
    by_cases h3 : i < cl[j].1.length
    · have hb := hxj _ (List.getElem_mem h3)
      simp only [InK] at hb
      by_cases hm : cl[j].1[i] = -9223372036854775808
      · have hw : IntKind.i64.wrap (-cl[j].1[i]) = -9223372036854775808 := by rw [hm]; decide
        have hq : (cl[j].1[i] == -9223372036854775808) = true := by simpa using hm
        have hq2 : (cl[j].1[i] != 0) = true := by rw [hm]; decide
        repeat' first
          | with_reducible refine VC.seq' ?_
          | with_reducible refine VC.block' ?_
          | with_reducible refine VC.skip ?_
          | with_reducible refine VC.label ?_
          | with_reducible refine VC.scope ?_
          | with_reducible refine VC.exit ?_
          | with_reducible refine VC.ret ?_
          | with_reducible refine VL.nil ?_
          | ((first | with_reducible apply VC.plainL | with_reducible apply VC.readsL (by kernel_rfl) (by kernel_rfl) (by kernel_rfl)); (with_reducible apply VL.run tabOk); (· (simp (disch := omega) only [vset, wset, ints, bools, strs, undefM, Nat.reduceLT, Nat.reduceAdd, Nat.reduceBEq, Int.reduceToNat, vix_sl ty22 ty3, vload_c ty3 rfl, hw, hq, hq2] <;> exact rfl)))
          | ((with_reducible apply VC.cond); (· (simp (disch := omega) only [vset, wset, ints, bools, strs, undefM, Nat.reduceLT, Nat.reduceAdd, Nat.reduceBEq, Int.reduceToNat, vix_sl ty22 ty3, vload_c ty3 rfl, hw, hq, hq2] <;> exact rfl)); all_goals (intro hcond; try simp only [decide_eq_true_eq, decide_eq_false_iff_not, beq_iff_eq, beq_eq_false_iff_ne, bne_iff_ne, bne_eq_false_iff_eq, ne_eq, reduceCtorEq] at hcond))
          | simp only [qset, Nat.reduceEqDiff, reduceIte]
          | ((apply EndQ.ret1 rfl); (· (simp only [look_cons, Nat.reduceBEq, cond_true, cond_false] <;> exact rfl)))
          | ((apply EndQ.ret2 rfl); (· (simp only [look_cons, Nat.reduceBEq, cond_true, cond_false] <;> exact rfl)); (· (simp only [look_cons, Nat.reduceBEq, cond_true, cond_false] <;> exact rfl)))
          | (refine EndQ.ret0 rfl ?_)
          | (refine EndQ.nor0 rfl ?_)
        exact ⟨false, rfl, (fun h => by cases h), by trivial⟩
      · by_cases h0 : cl[j].1[i] = 0
        · have hq : (cl[j].1[i] == -cl[j].1[i]) = true := by rw [h0]; decide
          have hq2 : (cl[j].1[i] != 0) = false := by rw [h0]; decide
          repeat' first
            | with_reducible refine VC.seq' ?_
            | with_reducible refine VC.block' ?_
            | with_reducible refine VC.skip ?_
            | with_reducible refine VC.label ?_
            | with_reducible refine VC.scope ?_
            | with_reducible refine VC.exit ?_
            | with_reducible refine VC.ret ?_
            | with_reducible refine VL.nil ?_
            | ((first | with_reducible apply VC.plainL | with_reducible apply VC.readsL (by kernel_rfl) (by kernel_rfl) (by kernel_rfl)); (with_reducible apply VL.run tabOk); (· (simp (disch := omega) only [vset, wset, ints, bools, strs, undefM, Nat.reduceLT, Nat.reduceAdd, Nat.reduceBEq, Int.reduceToNat, vix_sl ty22 ty3, vload_c ty3 rfl, hq, hq2] <;> exact rfl)))
            | ((with_reducible apply VC.cond); (· (simp (disch := omega) only [vset, wset, ints, bools, strs, undefM, Nat.reduceLT, Nat.reduceAdd, Nat.reduceBEq, Int.reduceToNat, vix_sl ty22 ty3, vload_c ty3 rfl, hq, hq2] <;> exact rfl)); all_goals (intro hcond; try simp only [decide_eq_true_eq, decide_eq_false_iff_not, beq_iff_eq, beq_eq_false_iff_ne, bne_iff_ne, bne_eq_false_iff_eq, ne_eq, reduceCtorEq] at hcond))
            | simp only [qset, Nat.reduceEqDiff, reduceIte]
            | ((apply EndQ.ret1 rfl); (· (simp only [look_cons, Nat.reduceBEq, cond_true, cond_false] <;> exact rfl)))
            | ((apply EndQ.ret2 rfl); (· (simp only [look_cons, Nat.reduceBEq, cond_true, cond_false] <;> exact rfl)); (· (simp only [look_cons, Nat.reduceBEq, cond_true, cond_false] <;> exact rfl)))
            | (refine EndQ.ret0 rfl ?_)
            | (refine EndQ.nor0 rfl ?_)
          refine ⟨?_, i + 1, ?_, ?_, by dsimp only; omega⟩
          · (simp only [vset, wset, ints, bools, strs, undefM, Nat.reduceLT, Nat.reduceAdd, Nat.reduceBEq, Int.reduceToNat] <;> exact rfl)
          · (simp (disch := omega) only [vset, wset, ints, bools, strs, undefM, Nat.reduceLT, Nat.reduceAdd, Nat.reduceBEq, Int.reduceToNat, Int.natCast_add, Int.cast_ofNat_Int] <;> first | done | exact rfl)
          refine ⟨by omega, rfl, fun n hn => ?_⟩
          rw [take_snoc _ _ h3] at hn
          rcases List.mem_append.1 hn with h | h
          · exact hall2 n h
          · rw [List.mem_singleton.1 h]; exact hm
        · have hq : (cl[j].1[i] == -cl[j].1[i]) = false := beqI_f (by omega)
          repeat' first
            | with_reducible refine VC.seq' ?_
            | with_reducible refine VC.block' ?_
            | with_reducible refine VC.skip ?_
            | with_reducible refine VC.label ?_
            | with_reducible refine VC.scope ?_
            | with_reducible refine VC.exit ?_
            | with_reducible refine VC.ret ?_
            | with_reducible refine VL.nil ?_
            | ((first | with_reducible apply VC.plainL | with_reducible apply VC.readsL (by kernel_rfl) (by kernel_rfl) (by kernel_rfl)); (with_reducible apply VL.run tabOk); (· (simp (disch := omega) only [vset, wset, ints, bools, strs, undefM, Nat.reduceLT, Nat.reduceAdd, Nat.reduceBEq, Int.reduceToNat, vix_sl ty22 ty3, vload_c ty3 rfl, hq] <;> exact rfl)))
            | ((with_reducible apply VC.cond); (· (simp (disch := omega) only [vset, wset, ints, bools, strs, undefM, Nat.reduceLT, Nat.reduceAdd, Nat.reduceBEq, Int.reduceToNat, vix_sl ty22 ty3, vload_c ty3 rfl, hq] <;> exact rfl)); all_goals (intro hcond; try simp only [decide_eq_true_eq, decide_eq_false_iff_not, beq_iff_eq, beq_eq_false_iff_ne, bne_iff_ne, bne_eq_false_iff_eq, ne_eq, reduceCtorEq] at hcond))
            | simp only [qset, Nat.reduceEqDiff, reduceIte]
            | ((apply EndQ.ret1 rfl); (· (simp only [look_cons, Nat.reduceBEq, cond_true, cond_false] <;> exact rfl)))
            | ((apply EndQ.ret2 rfl); (· (simp only [look_cons, Nat.reduceBEq, cond_true, cond_false] <;> exact rfl)); (· (simp only [look_cons, Nat.reduceBEq, cond_true, cond_false] <;> exact rfl)))
            | (refine EndQ.ret0 rfl ?_)
            | (refine EndQ.nor0 rfl ?_)
          refine ⟨?_, i + 1, ?_, ?_, by dsimp only; omega⟩
          · (simp only [vset, wset, ints, bools, strs, undefM, Nat.reduceLT, Nat.reduceAdd, Nat.reduceBEq, Int.reduceToNat] <;> exact rfl)
          · (simp (disch := omega) only [vset, wset, ints, bools, strs, undefM, Nat.reduceLT, Nat.reduceAdd, Nat.reduceBEq, Int.reduceToNat, Int.natCast_add, Int.cast_ofNat_Int] <;> first | done | exact rfl)
          refine ⟨by omega, rfl, fun n hn => ?_⟩
          rw [take_snoc _ _ h3] at hn
          rcases List.mem_append.1 hn with h | h
          · exact hall2 n h
          · rw [List.mem_singleton.1 h]; exact hm
    · rw [List.take_of_length_le (by omega)] at hall2
      repeat' first
        | with_reducible refine VC.seq' ?_
        | with_reducible refine VC.block' ?_
        | with_reducible refine VC.skip ?_
        | with_reducible refine VC.label ?_
        | with_reducible refine VC.scope ?_
        | with_reducible refine VC.exit ?_
        | with_reducible refine VC.ret ?_
        | with_reducible refine VL.nil ?_
        | ((first | with_reducible apply VC.plainL | with_reducible apply VC.readsL (by kernel_rfl) (by kernel_rfl) (by kernel_rfl)); (with_reducible apply VL.run tabOk); (· (simp (disch := omega) only [vset, wset, ints, bools, strs, undefM, Nat.reduceLT, Nat.reduceAdd, Nat.reduceBEq, Int.reduceToNat] <;> exact rfl)))
        | ((with_reducible apply VC.cond); (· (simp (disch := omega) only [vset, wset, ints, bools, strs, undefM, Nat.reduceLT, Nat.reduceAdd, Nat.reduceBEq, Int.reduceToNat] <;> exact rfl)); all_goals (intro hcond; try simp only [decide_eq_true_eq, decide_eq_false_iff_not, beq_iff_eq, beq_eq_false_iff_ne, bne_iff_ne, bne_eq_false_iff_eq, ne_eq, reduceCtorEq] at hcond))
        | simp only [qset, Nat.reduceEqDiff, reduceIte]
        | ((apply EndQ.ret1 rfl); (· (simp only [look_cons, Nat.reduceBEq, cond_true, cond_false] <;> exact rfl)))
        | ((apply EndQ.ret2 rfl); (· (simp only [look_cons, Nat.reduceBEq, cond_true, cond_false] <;> exact rfl)); (· (simp only [look_cons, Nat.reduceBEq, cond_true, cond_false] <;> exact rfl)))
        | (refine EndQ.ret0 rfl ?_)
        | (refine EndQ.nor0 rfl ?_)
      refine ⟨?_, j + 1, ?_, ?_, by dsimp only; omega⟩
      · (simp only [vset, wset, ints, bools, strs, undefM, Nat.reduceLT, Nat.reduceAdd, Nat.reduceBEq, Int.reduceToNat] <;> exact rfl)
      · (simp (disch := omega) only [vset, wset, ints, bools, strs, undefM, Nat.reduceLT, Nat.reduceAdd, Nat.reduceBEq, Int.reduceToNat, Int.natCast_add, Int.cast_ofNat_Int] <;> first | done | exact rfl)
      refine ⟨by omega, rfl, fun c hc' => ?_⟩
      rw [take_snoc _ _ h2] at hc'
      rcases List.mem_append.1 hc' with h | h
      · exact hall c h
      · rw [List.mem_singleton.1 h]; exact hall2
  · rw [List.take_of_length_le (by omega)] at hall
    repeat' first
      | with_reducible refine VC.seq' ?_
      | with_reducible refine VC.block' ?_
      | with_reducible refine VC.skip ?_
      | with_reducible refine VC.label ?_
      | with_reducible refine VC.scope ?_
      | with_reducible refine VC.exit ?_
      | with_reducible refine VC.ret ?_
      | with_reducible refine VL.nil ?_
      | ((first | with_reducible apply VC.plainL | with_reducible apply VC.readsL (by kernel_rfl) (by kernel_rfl) (by kernel_rfl)); (with_reducible apply VL.run tabOk); (· (simp (disch := omega) only [vset, wset, ints, bools, strs, undefM, Nat.reduceLT, Nat.reduceAdd, Nat.reduceBEq, Int.reduceToNat] <;> exact rfl)))
      | ((with_reducible apply VC.cond); (· (simp (disch := omega) only [vset, wset, ints, bools, strs, undefM, Nat.reduceLT, Nat.reduceAdd, Nat.reduceBEq, Int.reduceToNat] <;> exact rfl)); all_goals (intro hcond; try simp only [decide_eq_true_eq, decide_eq_false_iff_not, beq_iff_eq, beq_eq_false_iff_ne, bne_iff_ne, bne_eq_false_iff_eq, ne_eq, reduceCtorEq] at hcond))
      | simp only [qset, Nat.reduceEqDiff, reduceIte]
      | ((apply EndQ.ret1 rfl); (· (simp only [look_cons, Nat.reduceBEq, cond_true, cond_false] <;> exact rfl)))
      | ((apply EndQ.ret2 rfl); (· (simp only [look_cons, Nat.reduceBEq, cond_true, cond_false] <;> exact rfl)); (· (simp only [look_cons, Nat.reduceBEq, cond_true, cond_false] <;> exact rfl)))
      | (refine EndQ.ret0 rfl ?_)
      | (refine EndQ.nor0 rfl ?_)
    exact ⟨true, rfl, fun _ => hall, by trivial⟩

/-! ### pomaceref16.Follows -/
/-- A literal whose other one is a number, too. -/
def InR (n : Int) : Prop := -9223372036854775807 ≤ n ∧ n ≤ 9223372036854775807
/-- The different literals of a clause that are left. -/
def lf (yes : List Int) (C : List Int) : List Int := C.foldl (fun acc n => if n ≠ 0 ∧ -n ∉ yes ∧ n ∉ acc then acc ++ [n] else acc) []
theorem lf_snoc (yes C : List Int) (n : Int) : lf yes (C ++ [n]) = if n ≠ 0 ∧ -n ∉ yes ∧ n ∉ lf yes C then lf yes C ++ [n] else lf yes C := by
  rw [lf, List.foldl_append]; rfl
theorem snoc_ind {α : Type} {p : List α → Prop} (h0 : p []) (h1 : ∀ l a, p l → p (l ++ [a])) (l : List α) : p l := by
  have : ∀ n (l : List α), l.length = n → p l := by
    intro n
    induction n with
    | zero => intro l hl; rw [List.eq_nil_of_length_eq_zero hl]; exact h0
    | succ n ih =>
      intro l hl
      have hne : l ≠ [] := fun e => by rw [e] at hl; cases hl
      rw [← List.dropLast_concat_getLast hne]
      exact h1 _ _ (ih _ (by rw [List.length_dropLast]; omega))
  exact this _ l rfl
theorem mem_lf {yes : List Int} {n : Int} (C : List Int) : n ∈ lf yes C ↔ n ∈ C ∧ n ≠ 0 ∧ -n ∉ yes := by
  refine snoc_ind (p := fun C => n ∈ lf yes C ↔ n ∈ C ∧ n ≠ 0 ∧ -n ∉ yes) (by simp [lf]) (fun l a ih => ?_) C
  rw [lf_snoc, List.mem_append, List.mem_singleton]
  by_cases h : a ≠ 0 ∧ -a ∉ yes ∧ a ∉ lf yes l
  · rw [if_pos h, List.mem_append, List.mem_singleton, ih]
    constructor
    · rintro (⟨a1, a2⟩ | rfl)
      · exact ⟨.inl a1, a2⟩
      · exact ⟨.inr rfl, h.1, h.2.1⟩
    · rintro ⟨a1 | rfl, a2⟩
      · exact .inl ⟨a1, a2⟩
      · exact .inr rfl
  · rw [if_neg h, ih]
    constructor
    · rintro ⟨a1, a2⟩; exact ⟨.inl a1, a2⟩
    · rintro ⟨a1 | rfl, a2⟩
      · exact ⟨a1, a2⟩
      · have : n ∈ lf yes l := Classical.not_not.1 fun hh => h ⟨a2.1, a2.2, hh⟩
        exact ih.1 this
/-- What has been taken so far. -/
structure Yes (cls : List (List Int)) (c : List Int) (yes : List Int) : Prop where
  nodup : yes.Nodup
  sub : ∀ n ∈ yes, n ∈ c.map (fun x => -x) ++ cls.flatten
  up : ∀ n ∈ yes, UP cls c n
theorem Yes.len {cls : List (List Int)} {c yes : List Int} (h : Yes cls c yes) : yes.length ≤ c.length + cls.flatten.length := by
  have := List.Nodup.length_le_of_subset h.nodup (l₂ := c.map (fun x => -x) ++ cls.flatten) fun n hn => h.sub n hn
  simpa using this
theorem Yes.inR {cls : List (List Int)} {c yes : List Int} (h : Yes cls c yes) (hc : ∀ n ∈ c, InR n) (hC : ∀ C ∈ cls, ∀ n ∈ C, InR n) : ∀ n ∈ yes, InR n := fun n hn => by
  rcases List.mem_append.1 (h.sub n hn) with h1 | h1
  · obtain ⟨m, hm, rfl⟩ := List.mem_map.1 h1
    have := hc m hm
    simp only [InR] at *; omega
  · obtain ⟨C, hC', hn'⟩ := List.mem_flatten.1 h1
    exact hC C hC' n hn'
theorem Yes.nil {cls : List (List Int)} {c : List Int} : Yes cls c [] := ⟨List.nodup_nil, by simp, by simp⟩
theorem Yes.snoc {cls : List (List Int)} {c yes : List Int} {n : Int} (h : Yes cls c yes) (h1 : n ∉ yes) (h2 : n ∈ c.map (fun x => -x) ++ cls.flatten) (h3 : UP cls c n) : Yes cls c (yes ++ [n]) :=
  ⟨List.nodup_append.2 ⟨h.nodup, by simp, fun a ha b hb e => h1 (by rw [← List.mem_singleton.1 hb, ← e]; exact ha)⟩, fun m hm => by
    rcases List.mem_append.1 hm with h4 | h4
    · exact h.sub m h4
    · rw [List.mem_singleton.1 h4]; exact h2, fun m hm => by
    rcases List.mem_append.1 hm with h4 | h4
    · exact h.up m h4
    · rw [List.mem_singleton.1 h4]; exact h3⟩
/-- Units tell nothing more of this clause. -/
def Still (yes C : List Int) : Prop := lf yes C ≠ [] ∧ ∀ x, lf yes C = [x] → x ∈ yes
theorem still_not_bad {cls : List (List Int)} {c yes : List Int} (h0 : ∀ n ∈ c, n ≠ 0 → -n ∈ yes) (h1 : ∀ C ∈ cls, (lf yes C).Nodup ∧ Still yes C) (h2 : ∀ n ∈ yes, -n ∉ yes) : ¬ Bad cls c := by
  refine not_bad (Y := (· ∈ yes)) h0 (fun C hC x hx hx0 hall => ?_) (fun n a b => h2 n a b) fun C hC hall => ?_
  · obtain ⟨hnd, hne, hone⟩ := h1 C hC
    have hsub : ∀ m ∈ lf yes C, m = x := fun m hm => by
      obtain ⟨a1, a2, a3⟩ := (mem_lf C).1 hm
      exact Classical.not_not.1 fun e => a3 (hall m a1 a2 e)
    apply hone
    match h : lf yes C with
    | [] => exact absurd h hne
    | [y] => rw [hsub y (by rw [h]; simp)]
    | y :: z :: r =>
      rw [h] at hnd hsub
      have e1 := hsub y (by simp)
      have e2 := hsub z (by simp)
      simp [e1, e2] at hnd
  · obtain ⟨_, hne, _⟩ := h1 C hC
    apply hne
    rw [List.eq_nil_iff_forall_not_mem]
    intro m hm
    obtain ⟨a1, a2, a3⟩ := (mem_lf C).1 hm
    exact a3 (hall m a1 a2)
theorem lf_nodup (yes C : List Int) : (lf yes C).Nodup := by
  refine snoc_ind (p := fun C => (lf yes C).Nodup) (by simp [lf]) (fun l a ih => ?_) C
  rw [lf_snoc]
  split
  · rename_i h
    exact List.nodup_append.2 ⟨ih, by simp, fun b hb d hd e => h.2.2 (by rw [← List.mem_singleton.1 hd, ← e]; exact hb)⟩
  · exact ih
end Go.Proofs.Ytcfoongiffpnlaa
