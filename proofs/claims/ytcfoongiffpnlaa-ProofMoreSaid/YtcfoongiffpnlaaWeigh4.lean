/-
  weigh.Least, pomacelaw21.same, walked.
-/
import Derived.Test.YtcfoongiffpnlaaWeigh3
set_option linter.unusedVariables false
set_option linter.unusedSimpArgs false
namespace Go.Proofs.Ytcfoongiffpnlaa
open Go.RowKit

theorem mks22 (O : VH) (n : Nat) (hn : (n : Int) ≤ 1000000) : vmakeSlice (tyOf Try.prog) O 22 (.v (.int .i64 n)) (.v (.int .i64 n)) = some (.asl O.next 0 n n, O.push (.cells (List.replicate n (mi 0)))) := by
  simp only [vmakeSlice, ty22, ty3, Option.map_some, Int.toNat_natCast]
  rw [if_pos ⟨by omega, by omega, by omega, by omega, by decide⟩, Nat.mul_one]
  congr 4
  apply List.ext_getElem?
  intro i
  simp only [vzeros, mi, List.getElem?_map, List.getElem?_replicate]
  by_cases h : i < n
  · rw [List.getElem?_range h, if_pos h]; simp [Nat.mod_one]
  · rw [List.getElem?_eq_none (by simp; omega), if_neg h]; rfl
theorem set_step (lits : List Int) (f : Int → Int) (j : Nat) (h : j < lits.length) : (((lits.take j).map fun x => mi (f x)) ++ List.replicate (lits.length - j) (mi 0)).set j (mi (f lits[j])) = ((lits.take (j + 1)).map fun x => mi (f x)) ++ List.replicate (lits.length - (j + 1)) (mi 0) := by
  have hl : ((lits.take j).map fun x => mi (f x)).length = j := by simp; omega
  rw [List.set_append, if_neg (by omega), hl, Nat.sub_self, take_snoc _ _ h, List.map_append, List.append_assoc, show lits.length - j = (lits.length - (j + 1)) + 1 by omega, List.replicate_succ, List.set_cons_zero]
  rfl

/-- weigh.Least -/
theorem Least_v (lits : List Int) (k next : Int) (tk : Tok) (O : VH) (hx : ∀ x ∈ lits, -1000000 ≤ x ∧ x ≤ 1000000) (hn : lits.length ≤ 50) (hk : -900 ≤ k ∧ k ≤ 900) (hnx : 0 ≤ next ∧ next ≤ 1000000) :
    VF Try.prog 18 [.sl lits.length (lits.map mi) tk, mi k, mi next] O (Ret fun m O' => O.Ge O' ∧ ∃ (cl : List (List Int × Tok)) (s : Tok), cl.map (·.1) = (am (lits.map fun x => -x) (lits.length - k) next).1 ∧ m = .tuple [.sl cl.length (cl.map clM) s, mi (am (lits.map fun x => -x) (lits.length - k) next).2]) := by
  refine VF.enter' tabOk Try.func18 (c := _) rfl (Nat.le_of_ble_eq_true rfl) ?_
  rw [show Try.f18.ntmps = 36 from rfl]
  simp only [argEnv, Nat.zero_add, Nat.reduceAdd]
  repeat' first
    | with_reducible refine VC.seq' ?_
    | with_reducible refine VC.block' ?_
    | with_reducible refine VC.skip ?_
    | with_reducible refine VC.label ?_
    | with_reducible refine VC.scope ?_
    | with_reducible refine VC.exit ?_
    | with_reducible refine VC.ret ?_
    | with_reducible refine VL.nil ?_
    | ((first | with_reducible apply VC.plainL | with_reducible apply VC.readsL (by kernel_rfl) (by kernel_rfl) (by kernel_rfl)); (with_reducible apply VL.run tabOk); (· (simp (disch := omega) only [vset, wset, ints, bools, strs, undefM, Nat.reduceLT, Nat.reduceAdd, Nat.reduceBEq, Int.reduceToNat, vlen_sl ty22, mks22] <;> exact rfl)))
    | ((with_reducible apply VC.cond); (· (simp (disch := omega) only [vset, wset, ints, bools, strs, undefM, Nat.reduceLT, Nat.reduceAdd, Nat.reduceBEq, Int.reduceToNat, vlen_sl ty22, mks22] <;> exact rfl)); all_goals (intro hcond; try simp only [decide_eq_true_eq, decide_eq_false_iff_not, beq_iff_eq, beq_eq_false_iff_ne, bne_iff_ne, bne_eq_false_iff_eq, ne_eq, reduceCtorEq] at hcond))
    | simp only [qset, Nat.reduceEqDiff, reduceIte]
    | ((apply EndQ.ret1 rfl); (· (simp only [look_cons, Nat.reduceBEq, cond_true, cond_false] <;> exact rfl)))
    | ((apply EndQ.ret2 rfl); (· (simp only [look_cons, Nat.reduceBEq, cond_true, cond_false] <;> exact rfl)); (· (simp only [look_cons, Nat.reduceBEq, cond_true, cond_false] <;> exact rfl)))
    | (refine EndQ.ret0 rfl ?_)
    | (refine EndQ.nor0 rfl ?_)
  refine VC.loopS' [0, 1, 2, 8, 14, 15, 16] (fun j : Nat => [.sl lits.length (lits.map mi) tk, mi k, mi next, .asl O.next 0 lits.length lits.length, .sl lits.length (lits.map mi) tk, mi lits.length, mi j])
      (fun j O' => j ≤ lits.length ∧ O.Ge O' ∧ O'.hp O.next = some (.cells (((lits.take j).map fun x => mi (-x)) ++ List.replicate (lits.length - j) (mi 0)))) (fun j => lits.length - j) 0 ?_ ⟨by omega, (VH.Ge.refl O).push _, VH.push_new _ _⟩ ?_
  · (simp only [vset, wset, ints, bools, strs, undefM, Nat.reduceLT, Nat.reduceAdd, Nat.reduceBEq, Int.reduceToNat] <;> exact rfl)
  rintro j O' ⟨hj, hge, hcell⟩
  rw [pair_cons]
  by_cases h2 : j < lits.length
  · have hb := hx lits[j] (List.getElem_mem h2)
    have hcl : j < (((lits.take j).map fun x => mi (-x)) ++ List.replicate (lits.length - j) (mi 0)).length := by simp; omega
    repeat' first
      | with_reducible refine VC.seq' ?_
      | with_reducible refine VC.block' ?_
      | with_reducible refine VC.skip ?_
      | with_reducible refine VC.label ?_
      | with_reducible refine VC.scope ?_
      | with_reducible refine VC.exit ?_
      | with_reducible refine VC.ret ?_
      | with_reducible refine VL.nil ?_
      | ((first | with_reducible apply VC.plainL | with_reducible apply VC.readsL (by kernel_rfl) (by kernel_rfl) (by kernel_rfl)); (with_reducible apply VL.run tabOk); (· (simp (disch := omega) only [vset, wset, ints, bools, strs, undefM, Nat.reduceLT, Nat.reduceAdd, Nat.reduceBEq, Int.reduceToNat, vix_sl ty22 ty3, vload_c ty3 rfl, vix_asl ty22 ty3, vstore_pv ty3 hcell hcl] <;> exact rfl)))
      | ((with_reducible apply VC.cond); (· (simp (disch := omega) only [vset, wset, ints, bools, strs, undefM, Nat.reduceLT, Nat.reduceAdd, Nat.reduceBEq, Int.reduceToNat, vix_sl ty22 ty3, vload_c ty3 rfl, vix_asl ty22 ty3, vstore_pv ty3 hcell hcl] <;> exact rfl)); all_goals (intro hcond; try simp only [decide_eq_true_eq, decide_eq_false_iff_not, beq_iff_eq, beq_eq_false_iff_ne, bne_iff_ne, bne_eq_false_iff_eq, ne_eq, reduceCtorEq] at hcond))
      | simp only [qset, Nat.reduceEqDiff, reduceIte]
      | ((apply EndQ.ret1 rfl); (· (simp only [look_cons, Nat.reduceBEq, cond_true, cond_false] <;> exact rfl)))
      | ((apply EndQ.ret2 rfl); (· (simp only [look_cons, Nat.reduceBEq, cond_true, cond_false] <;> exact rfl)); (· (simp only [look_cons, Nat.reduceBEq, cond_true, cond_false] <;> exact rfl)))
      | (refine EndQ.ret0 rfl ?_)
      | (refine EndQ.nor0 rfl ?_)
    refine ⟨j + 1, ?_, ⟨by omega, hge.set (Nat.le_refl _) _, ?_⟩, by dsimp only; omega⟩
    · simp only [vset, wset, ints, bools, strs, undefM, Nat.reduceLT, Nat.reduceAdd, Nat.reduceBEq, Int.reduceToNat, Int.natCast_add, Int.cast_ofNat_Int]
    · exact (upd_same _ _ _).trans (congrArg (fun x => some (VObj.cells x)) (set_step lits (fun x => -x) j h2))
  · obtain rfl : j = lits.length := by omega
    rw [List.take_length, Nat.sub_self, List.replicate_zero, List.append_nil] at hcell
    refine VC.freeze 8 (k := O.next) (o := 0) (i := lits.length) (cp := lits.length) (sz := lits.length) rfl hcell (by simp) ?_
    rw [List.drop_zero, List.take_of_length_le (by simp), if_pos rfl]
    have hA := AtMost_v (lits.map fun x => -x) (lits.length - k) next .full (O'.kill O.next) (by
      intro x hx'
      obtain ⟨y, hy, rfl⟩ := List.mem_map.1 hx'
      have := hx y hy
      omega) (by simpa using hn) (by omega) hnx
    rw [List.length_map, List.map_map] at hA
    repeat' first
      | with_reducible refine VC.seq' ?_
      | with_reducible refine VC.block' ?_
      | with_reducible refine VC.skip ?_
      | with_reducible refine VC.label ?_
      | with_reducible refine VC.scope ?_
      | with_reducible refine VC.exit ?_
      | with_reducible refine VC.ret ?_
      | with_reducible refine VL.nil ?_
      | ((first | with_reducible apply VC.plainL | with_reducible apply VC.readsL (by kernel_rfl) (by kernel_rfl) (by kernel_rfl)); (with_reducible apply VL.run tabOk); (· (simp (disch := omega) only [vset, wset, ints, bools, strs, undefM, Nat.reduceLT, Nat.reduceAdd, Nat.reduceBEq, Int.reduceToNat, vlen_sl ty22] <;> exact rfl)))
      | ((with_reducible apply VC.cond); (· (simp (disch := omega) only [vset, wset, ints, bools, strs, undefM, Nat.reduceLT, Nat.reduceAdd, Nat.reduceBEq, Int.reduceToNat, vlen_sl ty22] <;> exact rfl)); all_goals (intro hcond; try simp only [decide_eq_true_eq, decide_eq_false_iff_not, beq_iff_eq, beq_eq_false_iff_ne, bne_iff_ne, bne_eq_false_iff_eq, ne_eq, reduceCtorEq] at hcond))
      | simp only [qset, Nat.reduceEqDiff, reduceIte]
      | ((apply EndQ.ret1 rfl); (· (simp only [look_cons, Nat.reduceBEq, cond_true, cond_false] <;> exact rfl)))
      | ((apply EndQ.ret2 rfl); (· (simp only [look_cons, Nat.reduceBEq, cond_true, cond_false] <;> exact rfl)); (· (simp only [look_cons, Nat.reduceBEq, cond_true, cond_false] <;> exact rfl)))
      | (refine EndQ.ret0 rfl ?_)
      | (refine EndQ.nor0 rfl ?_)
    apply VL.callR (id := 14) (hE := Enters.of Try.func14 (by decide) (by decide)) (hR := hA)
    · exact rfl
    · (simp (disch := omega) only [vset, wset, ints, bools, strs, undefM, Nat.reduceLT, Nat.reduceAdd, Nat.reduceBEq, Int.reduceToNat, vextract] <;> exact rfl)
    · (simp (disch := omega) only [vset, wset, ints, bools, strs, undefM, Nat.reduceLT, Nat.reduceAdd, Nat.reduceBEq, Int.reduceToNat, vextract] <;> exact rfl)
    · exact rfl
    · exact rfl
    rintro _ O2 ⟨hge2, cl, s, hcl, rfl⟩
    apply VL.run tabOk
    · (simp (disch := omega) only [vset, wset, ints, bools, strs, undefM, Nat.reduceLT, Nat.reduceAdd, Nat.reduceBEq, Int.reduceToNat, vextract] <;> exact rfl)
    repeat' first
      | with_reducible refine VC.seq' ?_
      | with_reducible refine VC.block' ?_
      | with_reducible refine VC.skip ?_
      | with_reducible refine VC.label ?_
      | with_reducible refine VC.scope ?_
      | with_reducible refine VC.exit ?_
      | with_reducible refine VC.ret ?_
      | with_reducible refine VL.nil ?_
      | ((first | with_reducible apply VC.plainL | with_reducible apply VC.readsL (by kernel_rfl) (by kernel_rfl) (by kernel_rfl)); (with_reducible apply VL.run tabOk); (· (simp (disch := omega) only [vset, wset, ints, bools, strs, undefM, Nat.reduceLT, Nat.reduceAdd, Nat.reduceBEq, Int.reduceToNat] <;> exact rfl)))
      | ((with_reducible apply VC.cond); (· (simp (disch := omega) only [vset, wset, ints, bools, strs, undefM, Nat.reduceLT, Nat.reduceAdd, Nat.reduceBEq, Int.reduceToNat] <;> exact rfl)); all_goals (intro hcond; try simp only [decide_eq_true_eq, decide_eq_false_iff_not, beq_iff_eq, beq_eq_false_iff_ne, bne_iff_ne, bne_eq_false_iff_eq, ne_eq, reduceCtorEq] at hcond))
      | simp only [qset, Nat.reduceEqDiff, reduceIte]
      | ((apply EndQ.ret1 rfl); (· (simp only [look_cons, Nat.reduceBEq, cond_true, cond_false] <;> exact rfl)))
      | ((apply EndQ.ret2 rfl); (· (simp only [look_cons, Nat.reduceBEq, cond_true, cond_false] <;> exact rfl)); (· (simp only [look_cons, Nat.reduceBEq, cond_true, cond_false] <;> exact rfl)))
      | (refine EndQ.ret0 rfl ?_)
      | (refine EndQ.nor0 rfl ?_)
    exact ⟨(hge.kill (Nat.le_refl _)).trans hge2, cl, s, hcl, rfl⟩

/-- Rows of rows as the program has them: with a token each. -/
def rows (l : List (List Int × Tok)) : List (List Int) := l.map (·.1)
/-- pomacelaw21.same -/
theorem same_v (a b : List (List Int × Tok)) (ta tb : Tok) (O : VH) (ha : a.length ≤ 1000000) (hla : ∀ x ∈ a, x.1.length ≤ 1000000) :
    VF Try.prog 17 [.sl a.length (a.map clM) ta, .sl b.length (b.map clM) tb] O (Ret fun m O' => m = mb (decide (rows a = rows b)) ∧ O' = O) := by
  refine VF.enter' tabOk Try.func17 (c := _) rfl (Nat.le_of_ble_eq_true rfl) ?_
  rw [show Try.f17.ntmps = 53 from rfl]
  simp only [argEnv, Nat.zero_add, Nat.reduceAdd]
  by_cases hab : a.length = b.length
  · repeat' first
      | with_reducible refine VC.seq' ?_
      | with_reducible refine VC.block' ?_
      | with_reducible refine VC.skip ?_
      | with_reducible refine VC.label ?_
      | with_reducible refine VC.scope ?_
      | with_reducible refine VC.exit ?_
      | with_reducible refine VC.ret ?_
      | with_reducible refine VL.nil ?_
      | ((first | with_reducible apply VC.plainL | with_reducible apply VC.readsL (by kernel_rfl) (by kernel_rfl) (by kernel_rfl)); (with_reducible apply VL.run tabOk); (· (simp (disch := omega) only [vset, wset, ints, bools, strs, undefM, Nat.reduceLT, Nat.reduceAdd, Nat.reduceBEq, Int.reduceToNat, vlen_sl ty24] <;> exact rfl)))
      | ((with_reducible apply VC.cond); (· (simp (disch := omega) only [vset, wset, ints, bools, strs, undefM, Nat.reduceLT, Nat.reduceAdd, Nat.reduceBEq, Int.reduceToNat, vlen_sl ty24] <;> exact rfl)); all_goals (intro hcond; try simp only [decide_eq_true_eq, decide_eq_false_iff_not, beq_iff_eq, beq_eq_false_iff_ne, bne_iff_ne, bne_eq_false_iff_eq, ne_eq, reduceCtorEq] at hcond))
      | simp only [qset, Nat.reduceEqDiff, reduceIte]
      | ((apply EndQ.ret1 rfl); (· (simp only [look_cons, Nat.reduceBEq, cond_true, cond_false] <;> exact rfl)))
      | ((apply EndQ.ret2 rfl); (· (simp only [look_cons, Nat.reduceBEq, cond_true, cond_false] <;> exact rfl)); (· (simp only [look_cons, Nat.reduceBEq, cond_true, cond_false] <;> exact rfl)))
      | (refine EndQ.ret0 rfl ?_)
      | (refine EndQ.nor0 rfl ?_)
    refine VC.loopS' [0, 1, 12, 13, 14] (fun j : Nat => [.sl a.length (a.map clM) ta, .sl b.length (b.map clM) tb, .sl a.length (a.map clM) ta, mi a.length, mi j])
      (fun j O' => j ≤ a.length ∧ O' = O ∧ (rows a).take j = (rows b).take j) (fun j => a.length - j) 0 ?_ ⟨by omega, rfl, rfl⟩ ?_
    · (simp only [vset, wset, ints, bools, strs, undefM, Nat.reduceLT, Nat.reduceAdd, Nat.reduceBEq, Int.reduceToNat] <;> exact rfl)
    rintro j O' ⟨hj, rfl, heq⟩
    rw [pair_cons]
    by_cases h2 : j < a.length
    · have h3 : j < b.length := by omega
      have hxa : (a.map clM)[j]? = some (clM a[j]) := by rw [List.getElem?_map, List.getElem?_eq_getElem h2]; rfl
      have hxb : (b.map clM)[j]? = some (clM b[j]) := by rw [List.getElem?_map, List.getElem?_eq_getElem h3]; rfl
      repeat' first
        | with_reducible refine VC.seq' ?_
        | with_reducible refine VC.block' ?_
        | with_reducible refine VC.skip ?_
        | with_reducible refine VC.label ?_
        | with_reducible refine VC.scope ?_
        | with_reducible refine VC.exit ?_
        | with_reducible refine VC.ret ?_
        | with_reducible refine VL.nil ?_
        | ((first | with_reducible apply VC.plainL | with_reducible apply VC.readsL (by kernel_rfl) (by kernel_rfl) (by kernel_rfl)); (with_reducible apply VL.run tabOk); (· (simp (disch := omega) only [vset, wset, ints, bools, strs, undefM, Nat.reduceLT, Nat.reduceAdd, Nat.reduceBEq, Int.reduceToNat, vlen_sl ty24, vlen_sl ty22, vix_sl ty24 ty22, vload_c ty22 rfl, hxa, hxb, clM] <;> exact rfl)))
        | ((with_reducible apply VC.cond); (· (simp (disch := omega) only [vset, wset, ints, bools, strs, undefM, Nat.reduceLT, Nat.reduceAdd, Nat.reduceBEq, Int.reduceToNat, vlen_sl ty24, vlen_sl ty22, vix_sl ty24 ty22, vload_c ty22 rfl, hxa, hxb, clM] <;> exact rfl)); all_goals (intro hcond; try simp only [decide_eq_true_eq, decide_eq_false_iff_not, beq_iff_eq, beq_eq_false_iff_ne, bne_iff_ne, bne_eq_false_iff_eq, ne_eq, reduceCtorEq] at hcond))
        | simp only [qset, Nat.reduceEqDiff, reduceIte]
        | ((apply EndQ.ret1 rfl); (· (simp only [look_cons, Nat.reduceBEq, cond_true, cond_false] <;> exact rfl)))
        | ((apply EndQ.ret2 rfl); (· (simp only [look_cons, Nat.reduceBEq, cond_true, cond_false] <;> exact rfl)); (· (simp only [look_cons, Nat.reduceBEq, cond_true, cond_false] <;> exact rfl)))
        | (refine EndQ.ret0 rfl ?_)
        | (refine EndQ.nor0 rfl ?_)
      · refine ⟨?_, trivial⟩
        have : ¬ rows a = rows b := fun h => by
          have := congrArg (fun l => (l[j]?).map List.length) h
          simp only [rows, List.getElem?_map, List.getElem?_eq_getElem h2, List.getElem?_eq_getElem h3, Option.map_some, Option.some.injEq] at this
          omega
        rw [decide_eq_false this]; rfl
      have hxl := hla a[j] (List.getElem_mem h2)
      have hra : (rows a)[j]? = some a[j].1 := by rw [rows, List.getElem?_map, List.getElem?_eq_getElem h2]; rfl
      have hrb : (rows b)[j]? = some b[j].1 := by rw [rows, List.getElem?_map, List.getElem?_eq_getElem h3]; rfl
      refine VC.loopS' [0, 1, 5, 12, 13, 14, 32, 33] (fun i : Nat => [.sl a.length (a.map clM) ta, .sl b.length (b.map clM) tb, mi j, .sl a.length (a.map clM) ta, mi a.length, mi j, mi a[j].1.length, mi i])
        (fun i O2 => i ≤ a[j].1.length ∧ O2 = O' ∧ a[j].1.take i = b[j].1.take i) (fun i => a[j].1.length - i) 0 ?_ ⟨by omega, rfl, rfl⟩ ?_
      · (simp only [vset, wset, ints, bools, strs, undefM, Nat.reduceLT, Nat.reduceAdd, Nat.reduceBEq, Int.reduceToNat] <;> exact rfl)
      rintro i O' ⟨hi, rfl, heq2⟩
      rw [pair_cons]
      by_cases h4 : i < a[j].1.length
      · have h5 : i < b[j].1.length := by omega
        repeat' first
          | with_reducible refine VC.seq' ?_
          | with_reducible refine VC.block' ?_
          | with_reducible refine VC.skip ?_
          | with_reducible refine VC.label ?_
          | with_reducible refine VC.scope ?_
          | with_reducible refine VC.exit ?_
          | with_reducible refine VC.ret ?_
          | with_reducible refine VL.nil ?_
          | ((first | with_reducible apply VC.plainL | with_reducible apply VC.readsL (by kernel_rfl) (by kernel_rfl) (by kernel_rfl)); (with_reducible apply VL.run tabOk); (· (simp (disch := omega) only [vset, wset, ints, bools, strs, undefM, Nat.reduceLT, Nat.reduceAdd, Nat.reduceBEq, Int.reduceToNat, vlen_sl ty24, vlen_sl ty22, vix_sl ty24 ty22, vload_c ty22 rfl, vix_sl ty22 ty3, vload_c ty3 rfl, hxa, hxb, clM] <;> exact rfl)))
          | ((with_reducible apply VC.cond); (· (simp (disch := omega) only [vset, wset, ints, bools, strs, undefM, Nat.reduceLT, Nat.reduceAdd, Nat.reduceBEq, Int.reduceToNat, vlen_sl ty24, vlen_sl ty22, vix_sl ty24 ty22, vload_c ty22 rfl, vix_sl ty22 ty3, vload_c ty3 rfl, hxa, hxb, clM] <;> exact rfl)); all_goals (intro hcond; try simp only [decide_eq_true_eq, decide_eq_false_iff_not, beq_iff_eq, beq_eq_false_iff_ne, bne_iff_ne, bne_eq_false_iff_eq, ne_eq, reduceCtorEq] at hcond))
          | simp only [qset, Nat.reduceEqDiff, reduceIte]
          | ((apply EndQ.ret1 rfl); (· (simp only [look_cons, Nat.reduceBEq, cond_true, cond_false] <;> exact rfl)))
          | ((apply EndQ.ret2 rfl); (· (simp only [look_cons, Nat.reduceBEq, cond_true, cond_false] <;> exact rfl)); (· (simp only [look_cons, Nat.reduceBEq, cond_true, cond_false] <;> exact rfl)))
          | (refine EndQ.ret0 rfl ?_)
          | (refine EndQ.nor0 rfl ?_)
        · refine ⟨?_, trivial⟩
          have : ¬ rows a = rows b := fun h => by
            rw [h, hrb] at hra
            have e : a[j].1 = b[j].1 := (Option.some.inj hra).symm
            exact ‹¬ a[j].1[i] = b[j].1[i]› (List.getElem_of_eq e h4)
          rw [decide_eq_false this]; rfl
        · refine ⟨i + 1, ?_, ⟨by omega, rfl, ?_⟩, by dsimp only; omega⟩
          · simp only [vset, wset, ints, bools, strs, undefM, Nat.reduceLT, Nat.reduceAdd, Nat.reduceBEq, Int.reduceToNat, Int.natCast_add, Int.cast_ofNat_Int]
          · rw [take_snoc _ _ h4, take_snoc _ _ h5, heq2, ‹a[j].1[i] = b[j].1[i]›]
      · repeat' first
          | with_reducible refine VC.seq' ?_
          | with_reducible refine VC.block' ?_
          | with_reducible refine VC.skip ?_
          | with_reducible refine VC.label ?_
          | with_reducible refine VC.scope ?_
          | with_reducible refine VC.exit ?_
          | with_reducible refine VC.ret ?_
          | with_reducible refine VL.nil ?_
          | ((first | with_reducible apply VC.plainL | with_reducible apply VC.readsL (by kernel_rfl) (by kernel_rfl) (by kernel_rfl)); (with_reducible apply VL.run tabOk); (· (simp (disch := omega) only [vset, wset, ints, bools, strs, undefM, Nat.reduceLT, Nat.reduceAdd, Nat.reduceBEq, Int.reduceToNat] <;> exact rfl)))
          | ((with_reducible apply VC.cond); (· (simp (disch := omega) only [vset, wset, ints, bools, strs, undefM, Nat.reduceLT, Nat.reduceAdd, Nat.reduceBEq, Int.reduceToNat] <;> exact rfl)); all_goals (intro hcond; try simp only [decide_eq_true_eq, decide_eq_false_iff_not, beq_iff_eq, beq_eq_false_iff_ne, bne_iff_ne, bne_eq_false_iff_eq, ne_eq, reduceCtorEq] at hcond))
          | simp only [qset, Nat.reduceEqDiff, reduceIte]
          | ((apply EndQ.ret1 rfl); (· (simp only [look_cons, Nat.reduceBEq, cond_true, cond_false] <;> exact rfl)))
          | ((apply EndQ.ret2 rfl); (· (simp only [look_cons, Nat.reduceBEq, cond_true, cond_false] <;> exact rfl)); (· (simp only [look_cons, Nat.reduceBEq, cond_true, cond_false] <;> exact rfl)))
          | (refine EndQ.ret0 rfl ?_)
          | (refine EndQ.nor0 rfl ?_)
        refine ⟨j + 1, ?_, ⟨by omega, rfl, ?_⟩, by dsimp only; omega⟩
        · simp only [vset, wset, ints, bools, strs, undefM, Nat.reduceLT, Nat.reduceAdd, Nat.reduceBEq, Int.reduceToNat, Int.natCast_add, Int.cast_ofNat_Int]
        · rw [List.take_of_length_le (by omega), List.take_of_length_le (by omega)] at heq2
          rw [List.take_add_one, List.take_add_one, heq, hra, hrb, heq2]
    · repeat' first
        | with_reducible refine VC.seq' ?_
        | with_reducible refine VC.block' ?_
        | with_reducible refine VC.skip ?_
        | with_reducible refine VC.label ?_
        | with_reducible refine VC.scope ?_
        | with_reducible refine VC.exit ?_
        | with_reducible refine VC.ret ?_
        | with_reducible refine VL.nil ?_
        | ((first | with_reducible apply VC.plainL | with_reducible apply VC.readsL (by kernel_rfl) (by kernel_rfl) (by kernel_rfl)); (with_reducible apply VL.run tabOk); (· (simp (disch := omega) only [vset, wset, ints, bools, strs, undefM, Nat.reduceLT, Nat.reduceAdd, Nat.reduceBEq, Int.reduceToNat] <;> exact rfl)))
        | ((with_reducible apply VC.cond); (· (simp (disch := omega) only [vset, wset, ints, bools, strs, undefM, Nat.reduceLT, Nat.reduceAdd, Nat.reduceBEq, Int.reduceToNat] <;> exact rfl)); all_goals (intro hcond; try simp only [decide_eq_true_eq, decide_eq_false_iff_not, beq_iff_eq, beq_eq_false_iff_ne, bne_iff_ne, bne_eq_false_iff_eq, ne_eq, reduceCtorEq] at hcond))
        | simp only [qset, Nat.reduceEqDiff, reduceIte]
        | ((apply EndQ.ret1 rfl); (· (simp only [look_cons, Nat.reduceBEq, cond_true, cond_false] <;> exact rfl)))
        | ((apply EndQ.ret2 rfl); (· (simp only [look_cons, Nat.reduceBEq, cond_true, cond_false] <;> exact rfl)); (· (simp only [look_cons, Nat.reduceBEq, cond_true, cond_false] <;> exact rfl)))
        | (refine EndQ.ret0 rfl ?_)
        | (refine EndQ.nor0 rfl ?_)
      refine ⟨?_, trivial⟩
      have : rows a = rows b := by
        rw [List.take_of_length_le (by simp [rows]; omega), List.take_of_length_le (by simp [rows]; omega)] at heq; exact heq
      rw [decide_eq_true this]; rfl
  · repeat' first
      | with_reducible refine VC.seq' ?_
      | with_reducible refine VC.block' ?_
      | with_reducible refine VC.skip ?_
      | with_reducible refine VC.label ?_
      | with_reducible refine VC.scope ?_
      | with_reducible refine VC.exit ?_
      | with_reducible refine VC.ret ?_
      | with_reducible refine VL.nil ?_
      | ((first | with_reducible apply VC.plainL | with_reducible apply VC.readsL (by kernel_rfl) (by kernel_rfl) (by kernel_rfl)); (with_reducible apply VL.run tabOk); (· (simp (disch := omega) only [vset, wset, ints, bools, strs, undefM, Nat.reduceLT, Nat.reduceAdd, Nat.reduceBEq, Int.reduceToNat, vlen_sl ty24] <;> exact rfl)))
      | ((with_reducible apply VC.cond); (· (simp (disch := omega) only [vset, wset, ints, bools, strs, undefM, Nat.reduceLT, Nat.reduceAdd, Nat.reduceBEq, Int.reduceToNat, vlen_sl ty24] <;> exact rfl)); all_goals (intro hcond; try simp only [decide_eq_true_eq, decide_eq_false_iff_not, beq_iff_eq, beq_eq_false_iff_ne, bne_iff_ne, bne_eq_false_iff_eq, ne_eq, reduceCtorEq] at hcond))
      | simp only [qset, Nat.reduceEqDiff, reduceIte]
      | ((apply EndQ.ret1 rfl); (· (simp only [look_cons, Nat.reduceBEq, cond_true, cond_false] <;> exact rfl)))
      | ((apply EndQ.ret2 rfl); (· (simp only [look_cons, Nat.reduceBEq, cond_true, cond_false] <;> exact rfl)); (· (simp only [look_cons, Nat.reduceBEq, cond_true, cond_false] <;> exact rfl)))
      | (refine EndQ.ret0 rfl ?_)
      | (refine EndQ.nor0 rfl ?_)
    refine ⟨?_, trivial⟩
    have : ¬ rows a = rows b := fun h => hab (by have := congrArg List.length h; simpa [rows] using this)
    rw [decide_eq_false this]; rfl
end Go.Proofs.Ytcfoongiffpnlaa
