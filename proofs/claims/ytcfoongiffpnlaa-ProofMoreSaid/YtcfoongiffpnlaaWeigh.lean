/-
  THE FUNCTIONS OF THE LAYER weigh, of its statements and its reference, walked over the value machine: what each computes.
-/
import Derived.Test.YtcfoongiffpnlaaVe
import Derived.Test.YtcfoongiffpnlaaTy
set_option linter.unusedVariables false
set_option linter.unusedSimpArgs false
namespace Go.Proofs.Ytcfoongiffpnlaa
open Go.RowKit

def tru (n : Int) : Int → List Bool → Bool
  | _, [] => decide (n < 0)
  | i, t :: ts => if n = i + 1 then t else if n = -(i + 1) then !t else tru n (i + 1) ts
def norm (n : Int) : Int := if n.tmod 1000 + 1001 > 1000 then 1000 - (n.tmod 1000 + 1001) else n.tmod 1000 + 1001
theorem tmod_bounds (n : Int) : -1000 < n.tmod 1000 ∧ n.tmod 1000 < 1000 := by
  have h : (n.tmod 1000).natAbs = n.natAbs % 1000 := Int.natAbs_tmod n 1000
  omega
theorem take_snoc {α : Type} (xs : List α) (j : Nat) (h : j < xs.length) : xs.take (j + 1) = xs.take j ++ [xs[j]] := by
  rw [List.take_succ_eq_append_getElem h]

theorem own_w1 (n : Int) : IntKind.i64.wrap (n.tmod 1000 + 1001) = n.tmod 1000 + 1001 := by have := tmod_bounds n; exact wrap_i64 (by omega) (by omega)
theorem own_w2 (n : Int) : IntKind.i64.wrap (1000 - (n.tmod 1000 + 1001)) = 1000 - (n.tmod 1000 + 1001) := by have := tmod_bounds n; exact wrap_i64 (by omega) (by omega)
theorem norm_1 {n : Int} (h : n.tmod 1000 + 1001 > 1000) : 1000 - (n.tmod 1000 + 1001) = norm n := by rw [norm, if_pos h]
theorem norm_2 {n : Int} (h : ¬ n.tmod 1000 + 1001 > 1000) : n.tmod 1000 + 1001 = norm n := by rw [norm, if_neg h]

/-- pomacelaw21.own -/
theorem own_v (xs : List Int) (most : Int) (tk : Tok) (O : VH) (h0 : 0 ≤ most) (h1 : most ≤ 1000) (hx : (xs.length : Int) ≤ 9223372036854775807) :
    VF Try.prog 13 [.sl xs.length (xs.map mi) tk, mi most] O (Ret fun m O' => O.Ge O' ∧ ∃ s, m = .sl ((xs.take most.toNat).map norm).length (((xs.take most.toNat).map norm).map mi) s ∧ App O' O.next 1 s) := by
  refine VF.enter' tabOk Try.func13 (c := _) rfl (Nat.le_of_ble_eq_true rfl) ?_
  rw [show Try.f13.ntmps = 34 from rfl]
  simp only [argEnv, Nat.zero_add, Nat.reduceAdd]
  repeat' first
    | with_reducible refine VC.seq' ?_
    | with_reducible refine VC.block' ?_
    | with_reducible refine VC.skip ?_
    | with_reducible refine VC.label ?_
    | with_reducible refine VC.scope ?_
    | with_reducible refine VC.exit ?_
    | with_reducible refine VC.ret ?_
    | with_reducible refine VL.nil ?_
    | ((first | with_reducible apply VC.plainL | with_reducible apply VC.readsL (by kernel_rfl) (by kernel_rfl) (by kernel_rfl)); (with_reducible apply VL.run tabOk); (· (simp (disch := omega) only [vset, wset, ints, bools, strs, undefM, Nat.reduceLT, Nat.reduceAdd, Nat.reduceBEq, Int.reduceToNat, vlen_sl ty22] <;> exact rfl)))
    | ((with_reducible apply VC.cond); (· (simp (disch := omega) only [vset, wset, ints, bools, strs, undefM, Nat.reduceLT, Nat.reduceAdd, Nat.reduceBEq, Int.reduceToNat, vlen_sl ty22] <;> exact rfl)); all_goals (intro hcond; try simp only [decide_eq_true_eq, decide_eq_false_iff_not, beq_iff_eq, beq_eq_false_iff_ne, bne_iff_ne, bne_eq_false_iff_eq, ne_eq, reduceCtorEq] at hcond))
    | simp only [qset, Nat.reduceEqDiff, reduceIte]
    | ((apply EndQ.ret1 rfl); (· (simp only [look_cons, Nat.reduceBEq, cond_true, cond_false] <;> exact rfl)))
    | ((apply EndQ.ret2 rfl); (· (simp only [look_cons, Nat.reduceBEq, cond_true, cond_false] <;> exact rfl)); (· (simp only [look_cons, Nat.reduceBEq, cond_true, cond_false] <;> exact rfl)))
    | (refine EndQ.ret0 rfl ?_)
    | (refine EndQ.nor0 rfl ?_)
  refine VC.loopS' [0, 1, 5, 9, 10, 11] (fun s : Nat × Tok => [.sl xs.length (xs.map mi) tk, mi most, .sl ((xs.take s.1).map norm).length (((xs.take s.1).map norm).map mi) s.2, .sl xs.length (xs.map mi) tk, mi xs.length, mi s.1])
    (fun s O' => s.1 ≤ xs.length ∧ (s.1 : Int) ≤ most ∧ O.Ge O' ∧ App O' O.next 1 s.2) (fun s => xs.length - s.1) (0, .nil) ?_ ⟨by omega, by omega, VH.Ge.refl _, trivial⟩ ?_
  · (simp only [vset, wset, ints, bools, strs, undefM, Nat.reduceLT, Nat.reduceAdd, Nat.reduceBEq, Int.reduceToNat] <;> exact rfl)
  rintro ⟨j, s⟩ O' ⟨hj, hjm, hge, happ⟩
  simp only at hj hjm happ ⊢
  rw [pair_cons]
  have hap := fun n => vappend_app (O := O') ty22 ty3 (tk' := .full) (cs := ((xs.take j).map norm).map mi) (n := ((xs.take j).map norm).length) (ds := [.v (.int .i64 n)]) (k := 1) happ (by simp) rfl rfl (by decide) (by decide) (by simp; omega) (by simp [maxLen]; omega)
  repeat' first
    | with_reducible refine VC.seq' ?_
    | with_reducible refine VC.block' ?_
    | with_reducible refine VC.skip ?_
    | with_reducible refine VC.label ?_
    | with_reducible refine VC.scope ?_
    | with_reducible refine VC.exit ?_
    | with_reducible refine VC.ret ?_
    | with_reducible refine VL.nil ?_
    | ((first | with_reducible apply VC.plainL | with_reducible apply VC.readsL (by kernel_rfl) (by kernel_rfl) (by kernel_rfl)); (with_reducible apply VL.run tabOk); (· (simp (disch := omega) only [vset, wset, ints, bools, strs, undefM, Nat.reduceLT, Nat.reduceAdd, Nat.reduceBEq, Int.reduceToNat, vix_sl ty22 ty3, vload_c ty3 rfl, vbin_rem (show (1000 : Int) ≠ 0 by decide), vbs1v ty22 ty3, hap, own_w1, own_w2] <;> exact rfl)))
    | ((with_reducible apply VC.cond); (· (simp (disch := omega) only [vset, wset, ints, bools, strs, undefM, Nat.reduceLT, Nat.reduceAdd, Nat.reduceBEq, Int.reduceToNat, vix_sl ty22 ty3, vload_c ty3 rfl, vbin_rem (show (1000 : Int) ≠ 0 by decide), vbs1v ty22 ty3, hap, own_w1, own_w2] <;> exact rfl)); all_goals (intro hcond; try simp only [decide_eq_true_eq, decide_eq_false_iff_not, beq_iff_eq, beq_eq_false_iff_ne, bne_iff_ne, bne_eq_false_iff_eq, ne_eq, reduceCtorEq] at hcond))
    | simp only [qset, Nat.reduceEqDiff, reduceIte]
    | ((apply EndQ.ret1 rfl); (· (simp only [look_cons, Nat.reduceBEq, cond_true, cond_false] <;> exact rfl)))
    | ((apply EndQ.ret2 rfl); (· (simp only [look_cons, Nat.reduceBEq, cond_true, cond_false] <;> exact rfl)); (· (simp only [look_cons, Nat.reduceBEq, cond_true, cond_false] <;> exact rfl)))
    | (refine EndQ.ret0 rfl ?_)
    | (refine EndQ.nor0 rfl ?_)
  · refine ⟨hge, s, ?_, happ⟩
    rw [show most.toNat = j by omega]
  · have h2 : j < xs.length := by omega
    refine ⟨(j + 1, .own O'.next 1), ?_, ⟨by simp only; omega, by simp only; omega, hge.after happ (Nat.le_refl _), App.after hge.next⟩, by simp only; omega⟩
    rw [norm_1 ‹_›]
    simp only [vset, wset, ints, bools, strs, undefM, Nat.reduceLT, Nat.reduceAdd, Nat.reduceBEq, Int.reduceToNat, take_snoc xs j h2, List.map_append, List.length_append, List.length_cons, List.length_nil, Int.natCast_add, Int.cast_ofNat_Int]
  · have := tmod_bounds xs[j]; omega
  · have h2 : j < xs.length := by omega
    refine ⟨(j + 1, .own O'.next 1), ?_, ⟨by simp only; omega, by simp only; omega, hge.after happ (Nat.le_refl _), App.after hge.next⟩, by simp only; omega⟩
    rw [norm_2 ‹_›]
    simp only [vset, wset, ints, bools, strs, undefM, Nat.reduceLT, Nat.reduceAdd, Nat.reduceBEq, Int.reduceToNat, take_snoc xs j h2, List.map_append, List.length_append, List.length_cons, List.length_nil, Int.natCast_add, Int.cast_ofNat_Int]
  · refine ⟨hge, s, ?_, happ⟩
    rw [List.take_of_length_le (l := xs) (i := j) (by omega), List.take_of_length_le (l := xs) (i := most.toNat) (by omega)]

/-- pomaceref16.True -/
theorem True_v (n : Int) (ts : List Bool) (tk : Tok) (O : VH) (hn : -1000000 ≤ n ∧ n ≤ 1000000) (hl : ts.length ≤ 1000) : VF Try.prog 19 [mi n, .sl ts.length (ts.map mb) tk] O (Ret fun m O' => m = mb (tru n 0 ts) ∧ O' = O) := by
  refine VF.enter' tabOk Try.func19 (c := _) rfl (Nat.le_of_ble_eq_true rfl) ?_
  rw [show Try.f19.ntmps = 29 from rfl]
  simp only [argEnv, Nat.zero_add, Nat.reduceAdd]
  repeat' first
    | with_reducible refine VC.seq' ?_
    | with_reducible refine VC.block' ?_
    | with_reducible refine VC.skip ?_
    | with_reducible refine VC.label ?_
    | with_reducible refine VC.scope ?_
    | with_reducible refine VC.exit ?_
    | with_reducible refine VC.ret ?_
    | with_reducible refine VL.nil ?_
    | ((first | with_reducible apply VC.plainL | with_reducible apply VC.readsL (by kernel_rfl) (by kernel_rfl) (by kernel_rfl)); (with_reducible apply VL.run tabOk); (· (simp (disch := omega) only [vset, wset, ints, bools, strs, undefM, Nat.reduceLT, Nat.reduceAdd, Nat.reduceBEq, Int.reduceToNat, vlen_sl ty27] <;> exact rfl)))
    | ((with_reducible apply VC.cond); (· (simp (disch := omega) only [vset, wset, ints, bools, strs, undefM, Nat.reduceLT, Nat.reduceAdd, Nat.reduceBEq, Int.reduceToNat, vlen_sl ty27] <;> exact rfl)); all_goals (intro hcond; try simp only [decide_eq_true_eq, decide_eq_false_iff_not, beq_iff_eq, beq_eq_false_iff_ne, bne_iff_ne, bne_eq_false_iff_eq, ne_eq, reduceCtorEq] at hcond))
    | simp only [qset, Nat.reduceEqDiff, reduceIte]
    | ((apply EndQ.ret1 rfl); (· (simp only [look_cons, Nat.reduceBEq, cond_true, cond_false] <;> exact rfl)))
    | ((apply EndQ.ret2 rfl); (· (simp only [look_cons, Nat.reduceBEq, cond_true, cond_false] <;> exact rfl)); (· (simp only [look_cons, Nat.reduceBEq, cond_true, cond_false] <;> exact rfl)))
    | (refine EndQ.ret0 rfl ?_)
    | (refine EndQ.nor0 rfl ?_)
  refine VC.loopS' [0, 1, 4, 7, 8, 9] (fun s : Nat => [mi n, .sl ts.length (ts.map mb) tk, mb false, .sl ts.length (ts.map mb) tk, mi ts.length, mi s])
    (fun s O' => s ≤ ts.length ∧ O' = O ∧ tru n 0 ts = tru n s (ts.drop s)) (fun s => ts.length - s) 0 ?_ ⟨by omega, rfl, rfl⟩ ?_
  · (simp only [vset, wset, ints, bools, strs, undefM, Nat.reduceLT, Nat.reduceAdd, Nat.reduceBEq, Int.reduceToNat] <;> exact rfl)
  rintro j O' ⟨hj, rfl, hs⟩
  rw [pair_cons]
  repeat' first
    | with_reducible refine VC.seq' ?_
    | with_reducible refine VC.block' ?_
    | with_reducible refine VC.skip ?_
    | with_reducible refine VC.label ?_
    | with_reducible refine VC.scope ?_
    | with_reducible refine VC.exit ?_
    | with_reducible refine VC.ret ?_
    | with_reducible refine VL.nil ?_
    | ((first | with_reducible apply VC.plainL | with_reducible apply VC.readsL (by kernel_rfl) (by kernel_rfl) (by kernel_rfl)); (with_reducible apply VL.run tabOk); (· (simp (disch := omega) only [vset, wset, ints, bools, strs, undefM, Nat.reduceLT, Nat.reduceAdd, Nat.reduceBEq, Int.reduceToNat, vix_sl ty27 ty4, vload_c ty4 rfl] <;> exact rfl)))
    | ((with_reducible apply VC.cond); (· (simp (disch := omega) only [vset, wset, ints, bools, strs, undefM, Nat.reduceLT, Nat.reduceAdd, Nat.reduceBEq, Int.reduceToNat, vix_sl ty27 ty4, vload_c ty4 rfl] <;> exact rfl)); all_goals (intro hcond; try simp only [decide_eq_true_eq, decide_eq_false_iff_not, beq_iff_eq, beq_eq_false_iff_ne, bne_iff_ne, bne_eq_false_iff_eq, ne_eq, reduceCtorEq] at hcond))
    | simp only [qset, Nat.reduceEqDiff, reduceIte]
    | ((apply EndQ.ret1 rfl); (· (simp only [look_cons, Nat.reduceBEq, cond_true, cond_false] <;> exact rfl)))
    | ((apply EndQ.ret2 rfl); (· (simp only [look_cons, Nat.reduceBEq, cond_true, cond_false] <;> exact rfl)); (· (simp only [look_cons, Nat.reduceBEq, cond_true, cond_false] <;> exact rfl)))
    | (refine EndQ.ret0 rfl ?_)
    | (refine EndQ.nor0 rfl ?_)
  · have h2 : j < ts.length := by omega
    refine ⟨?_, trivial⟩
    rw [hs, List.drop_eq_getElem_cons h2, tru, if_pos (by omega)]; rfl
  · have h2 : j < ts.length := by omega
    refine ⟨?_, trivial⟩
    rw [hs, List.drop_eq_getElem_cons h2, tru, if_neg (by omega), if_pos (by omega)]; rfl
  · have h2 : j < ts.length := by omega
    refine ⟨j + 1, ?_, ⟨by omega, rfl, ?_⟩, by dsimp only; omega⟩
    · simp (disch := omega) only [vset, wset, ints, bools, strs, undefM, Nat.reduceLT, Nat.reduceAdd, Nat.reduceBEq, Int.reduceToNat, Int.natCast_add, Int.cast_ofNat_Int]
    · rw [hs, List.drop_eq_getElem_cons h2, tru, if_neg (by omega), if_neg (by omega)]; rfl
  · refine ⟨?_, trivial⟩
    rw [hs, List.drop_of_length_le (by omega), tru]; rfl

/-- weigh.Count, one literal. -/
def isT (ts : List Bool) (x : Int) : Bool := decide (max x (-x) ≥ 1) && (decide (max x (-x) ≤ ts.length) && (ts[(max x (-x) - 1).toNat]?).getD false)
def cnt (ts : List Bool) (xs : List Int) : Nat := (xs.filter fun x => isT ts x == decide (x > 0)).length
theorem Count_v (xs : List Int) (ts : List Bool) (tk tk' : Tok) (O : VH) (hx : ∀ x ∈ xs, -1000000 ≤ x ∧ x ≤ 1000000) (hl : ts.length ≤ 1000) (hn : xs.length ≤ 1000) :
    VF Try.prog 20 [.sl xs.length (xs.map mi) tk, .sl ts.length (ts.map mb) tk'] O (Ret fun m O' => m = mi (cnt ts xs) ∧ O' = O) := by
  refine VF.enter' tabOk Try.func20 (c := _) rfl (Nat.le_of_ble_eq_true rfl) ?_
  rw [show Try.f20.ntmps = 43 from rfl]
  simp only [argEnv, Nat.zero_add, Nat.reduceAdd]
  repeat' first
    | with_reducible refine VC.seq' ?_
    | with_reducible refine VC.block' ?_
    | with_reducible refine VC.skip ?_
    | with_reducible refine VC.label ?_
    | with_reducible refine VC.scope ?_
    | with_reducible refine VC.exit ?_
    | with_reducible refine VC.ret ?_
    | with_reducible refine VL.nil ?_
    | ((first | with_reducible apply VC.plainL | with_reducible apply VC.readsL (by kernel_rfl) (by kernel_rfl) (by kernel_rfl)); (with_reducible apply VL.run tabOk); (· (simp (disch := omega) only [vset, wset, ints, bools, strs, undefM, Nat.reduceLT, Nat.reduceAdd, Nat.reduceBEq, Int.reduceToNat, vlen_sl ty22] <;> exact rfl)))
    | ((with_reducible apply VC.cond); (· (simp (disch := omega) only [vset, wset, ints, bools, strs, undefM, Nat.reduceLT, Nat.reduceAdd, Nat.reduceBEq, Int.reduceToNat, vlen_sl ty22] <;> exact rfl)); all_goals (intro hcond; try simp only [decide_eq_true_eq, decide_eq_false_iff_not, beq_iff_eq, beq_eq_false_iff_ne, bne_iff_ne, bne_eq_false_iff_eq, ne_eq, reduceCtorEq] at hcond))
    | simp only [qset, Nat.reduceEqDiff, reduceIte]
    | ((apply EndQ.ret1 rfl); (· (simp only [look_cons, Nat.reduceBEq, cond_true, cond_false] <;> exact rfl)))
    | ((apply EndQ.ret2 rfl); (· (simp only [look_cons, Nat.reduceBEq, cond_true, cond_false] <;> exact rfl)); (· (simp only [look_cons, Nat.reduceBEq, cond_true, cond_false] <;> exact rfl)))
    | (refine EndQ.ret0 rfl ?_)
    | (refine EndQ.nor0 rfl ?_)
  refine VC.loopS' [0, 1, 5, 10, 11, 12] (fun s : Nat => [.sl xs.length (xs.map mi) tk, .sl ts.length (ts.map mb) tk', mi (cnt ts (xs.take s)), .sl xs.length (xs.map mi) tk, mi xs.length, mi s])
    (fun s O' => s ≤ xs.length ∧ O' = O) (fun s => xs.length - s) 0 ?_ ⟨by omega, rfl⟩ ?_
  · (simp only [vset, wset, ints, bools, strs, undefM, Nat.reduceLT, Nat.reduceAdd, Nat.reduceBEq, Int.reduceToNat] <;> exact rfl)
  rintro j O' ⟨hj, rfl⟩
  rw [pair_cons]
  by_cases h2 : j < xs.length
  · have hb := hx xs[j] (List.getElem_mem h2)
    have hc : cnt ts (xs.take (j + 1)) = cnt ts (xs.take j) + if isT ts xs[j] = decide (xs[j] > 0) then 1 else 0 := by
      rw [take_snoc xs j h2, cnt, List.filter_append, List.length_append]
      by_cases h : isT ts xs[j] = decide (xs[j] > 0)
      · rw [List.filter_cons_of_pos (by simpa using h), if_pos h]; rfl
      · rw [List.filter_cons_of_neg (by simpa using h), if_neg h]; rfl
    have hk : cnt ts (xs.take j) ≤ j := Nat.le_trans (List.length_filter_le _ _) (by simp; omega)
    by_cases h3 : max xs[j] (-xs[j]) ≥ 1
    · by_cases h4 : max xs[j] (-xs[j]) ≤ ts.length
      · have h5 : (max xs[j] (-xs[j]) - 1).toNat < ts.length := by omega
        have hT : isT ts xs[j] = ts[(max xs[j] (-xs[j]) - 1).toNat] := by
          rw [isT, decide_eq_true h3, decide_eq_true h4, List.getElem?_eq_getElem h5]; rfl
        rw [hT] at hc
        repeat' first
          | with_reducible refine VC.seq' ?_
          | with_reducible refine VC.block' ?_
          | with_reducible refine VC.skip ?_
          | with_reducible refine VC.label ?_
          | with_reducible refine VC.scope ?_
          | with_reducible refine VC.exit ?_
          | with_reducible refine VC.ret ?_
          | with_reducible refine VL.nil ?_
          | ((first | with_reducible apply VC.plainL | with_reducible apply VC.readsL (by kernel_rfl) (by kernel_rfl) (by kernel_rfl)); (with_reducible apply VL.run tabOk); (· (simp (disch := omega) only [vset, wset, ints, bools, strs, undefM, Nat.reduceLT, Nat.reduceAdd, Nat.reduceBEq, Int.reduceToNat, vlen_sl ty27, vix_sl ty22 ty3, vload_c ty3 rfl, vix_sl ty27 ty4, vload_c ty4 rfl] <;> exact rfl)))
          | ((with_reducible apply VC.cond); (· (simp (disch := omega) only [vset, wset, ints, bools, strs, undefM, Nat.reduceLT, Nat.reduceAdd, Nat.reduceBEq, Int.reduceToNat, vlen_sl ty27, vix_sl ty22 ty3, vload_c ty3 rfl, vix_sl ty27 ty4, vload_c ty4 rfl] <;> exact rfl)); all_goals (intro hcond; try simp only [decide_eq_true_eq, decide_eq_false_iff_not, beq_iff_eq, beq_eq_false_iff_ne, bne_iff_ne, bne_eq_false_iff_eq, ne_eq, reduceCtorEq] at hcond))
          | simp only [qset, Nat.reduceEqDiff, reduceIte]
          | ((apply EndQ.ret1 rfl); (· (simp only [look_cons, Nat.reduceBEq, cond_true, cond_false] <;> exact rfl)))
          | ((apply EndQ.ret2 rfl); (· (simp only [look_cons, Nat.reduceBEq, cond_true, cond_false] <;> exact rfl)); (· (simp only [look_cons, Nat.reduceBEq, cond_true, cond_false] <;> exact rfl)))
          | (refine EndQ.ret0 rfl ?_)
          | (refine EndQ.nor0 rfl ?_)
        · rw [if_pos ‹_›] at hc
          refine ⟨j + 1, ?_, ⟨by omega, rfl⟩, by dsimp only; omega⟩
          simp only [vset, wset, ints, bools, strs, undefM, Nat.reduceLT, Nat.reduceAdd, Nat.reduceBEq, Int.reduceToNat, hc, Int.natCast_add, Int.cast_ofNat_Int]
        · rw [if_neg ‹_›] at hc
          refine ⟨j + 1, ?_, ⟨by omega, rfl⟩, by dsimp only; omega⟩
          simp only [vset, wset, ints, bools, strs, undefM, Nat.reduceLT, Nat.reduceAdd, Nat.reduceBEq, Int.reduceToNat, hc, Int.natCast_add, Int.cast_ofNat_Int]
      · have hT : isT ts xs[j] = false := by
          rw [isT, decide_eq_true h3, decide_eq_false h4]; rfl
        rw [hT] at hc
        repeat' first
          | with_reducible refine VC.seq' ?_
          | with_reducible refine VC.block' ?_
          | with_reducible refine VC.skip ?_
          | with_reducible refine VC.label ?_
          | with_reducible refine VC.scope ?_
          | with_reducible refine VC.exit ?_
          | with_reducible refine VC.ret ?_
          | with_reducible refine VL.nil ?_
          | ((first | with_reducible apply VC.plainL | with_reducible apply VC.readsL (by kernel_rfl) (by kernel_rfl) (by kernel_rfl)); (with_reducible apply VL.run tabOk); (· (simp (disch := omega) only [vset, wset, ints, bools, strs, undefM, Nat.reduceLT, Nat.reduceAdd, Nat.reduceBEq, Int.reduceToNat, vlen_sl ty27, vix_sl ty22 ty3, vload_c ty3 rfl, vix_sl ty27 ty4, vload_c ty4 rfl] <;> exact rfl)))
          | ((with_reducible apply VC.cond); (· (simp (disch := omega) only [vset, wset, ints, bools, strs, undefM, Nat.reduceLT, Nat.reduceAdd, Nat.reduceBEq, Int.reduceToNat, vlen_sl ty27, vix_sl ty22 ty3, vload_c ty3 rfl, vix_sl ty27 ty4, vload_c ty4 rfl] <;> exact rfl)); all_goals (intro hcond; try simp only [decide_eq_true_eq, decide_eq_false_iff_not, beq_iff_eq, beq_eq_false_iff_ne, bne_iff_ne, bne_eq_false_iff_eq, ne_eq, reduceCtorEq] at hcond))
          | simp only [qset, Nat.reduceEqDiff, reduceIte]
          | ((apply EndQ.ret1 rfl); (· (simp only [look_cons, Nat.reduceBEq, cond_true, cond_false] <;> exact rfl)))
          | ((apply EndQ.ret2 rfl); (· (simp only [look_cons, Nat.reduceBEq, cond_true, cond_false] <;> exact rfl)); (· (simp only [look_cons, Nat.reduceBEq, cond_true, cond_false] <;> exact rfl)))
          | (refine EndQ.ret0 rfl ?_)
          | (refine EndQ.nor0 rfl ?_)
        · rw [if_pos ‹_›] at hc
          refine ⟨j + 1, ?_, ⟨by omega, rfl⟩, by dsimp only; omega⟩
          simp only [vset, wset, ints, bools, strs, undefM, Nat.reduceLT, Nat.reduceAdd, Nat.reduceBEq, Int.reduceToNat, hc, Int.natCast_add, Int.cast_ofNat_Int]
        · rw [if_neg ‹_›] at hc
          refine ⟨j + 1, ?_, ⟨by omega, rfl⟩, by dsimp only; omega⟩
          simp only [vset, wset, ints, bools, strs, undefM, Nat.reduceLT, Nat.reduceAdd, Nat.reduceBEq, Int.reduceToNat, hc, Int.natCast_add, Int.cast_ofNat_Int]
    · have hT : isT ts xs[j] = false := by
        rw [isT, decide_eq_false h3]; rfl
      rw [hT] at hc
      repeat' first
        | with_reducible refine VC.seq' ?_
        | with_reducible refine VC.block' ?_
        | with_reducible refine VC.skip ?_
        | with_reducible refine VC.label ?_
        | with_reducible refine VC.scope ?_
        | with_reducible refine VC.exit ?_
        | with_reducible refine VC.ret ?_
        | with_reducible refine VL.nil ?_
        | ((first | with_reducible apply VC.plainL | with_reducible apply VC.readsL (by kernel_rfl) (by kernel_rfl) (by kernel_rfl)); (with_reducible apply VL.run tabOk); (· (simp (disch := omega) only [vset, wset, ints, bools, strs, undefM, Nat.reduceLT, Nat.reduceAdd, Nat.reduceBEq, Int.reduceToNat, vlen_sl ty27, vix_sl ty22 ty3, vload_c ty3 rfl, vix_sl ty27 ty4, vload_c ty4 rfl] <;> exact rfl)))
        | ((with_reducible apply VC.cond); (· (simp (disch := omega) only [vset, wset, ints, bools, strs, undefM, Nat.reduceLT, Nat.reduceAdd, Nat.reduceBEq, Int.reduceToNat, vlen_sl ty27, vix_sl ty22 ty3, vload_c ty3 rfl, vix_sl ty27 ty4, vload_c ty4 rfl] <;> exact rfl)); all_goals (intro hcond; try simp only [decide_eq_true_eq, decide_eq_false_iff_not, beq_iff_eq, beq_eq_false_iff_ne, bne_iff_ne, bne_eq_false_iff_eq, ne_eq, reduceCtorEq] at hcond))
        | simp only [qset, Nat.reduceEqDiff, reduceIte]
        | ((apply EndQ.ret1 rfl); (· (simp only [look_cons, Nat.reduceBEq, cond_true, cond_false] <;> exact rfl)))
        | ((apply EndQ.ret2 rfl); (· (simp only [look_cons, Nat.reduceBEq, cond_true, cond_false] <;> exact rfl)); (· (simp only [look_cons, Nat.reduceBEq, cond_true, cond_false] <;> exact rfl)))
        | (refine EndQ.ret0 rfl ?_)
        | (refine EndQ.nor0 rfl ?_)
      rw [if_pos (by simp; omega)] at hc
      refine ⟨j + 1, ?_, ⟨by omega, rfl⟩, by dsimp only; omega⟩
      simp only [vset, wset, ints, bools, strs, undefM, Nat.reduceLT, Nat.reduceAdd, Nat.reduceBEq, Int.reduceToNat, hc, Int.natCast_add, Int.cast_ofNat_Int]
  · repeat' first
      | with_reducible refine VC.seq' ?_
      | with_reducible refine VC.block' ?_
      | with_reducible refine VC.skip ?_
      | with_reducible refine VC.label ?_
      | with_reducible refine VC.scope ?_
      | with_reducible refine VC.exit ?_
      | with_reducible refine VC.ret ?_
      | with_reducible refine VL.nil ?_
      | ((first | with_reducible apply VC.plainL | with_reducible apply VC.readsL (by kernel_rfl) (by kernel_rfl) (by kernel_rfl)); (with_reducible apply VL.run tabOk); (· (simp (disch := omega) only [vset, wset, ints, bools, strs, undefM, Nat.reduceLT, Nat.reduceAdd, Nat.reduceBEq, Int.reduceToNat] <;> exact rfl)))
      | ((with_reducible apply VC.cond); (· (simp (disch := omega) only [vset, wset, ints, bools, strs, undefM, Nat.reduceLT, Nat.reduceAdd, Nat.reduceBEq, Int.reduceToNat] <;> exact rfl)); all_goals (intro hcond; try simp only [decide_eq_true_eq, decide_eq_false_iff_not, beq_iff_eq, beq_eq_false_iff_ne, bne_iff_ne, bne_eq_false_iff_eq, ne_eq, reduceCtorEq] at hcond))
      | simp only [qset, Nat.reduceEqDiff, reduceIte]
      | ((apply EndQ.ret1 rfl); (· (simp only [look_cons, Nat.reduceBEq, cond_true, cond_false] <;> exact rfl)))
      | ((apply EndQ.ret2 rfl); (· (simp only [look_cons, Nat.reduceBEq, cond_true, cond_false] <;> exact rfl)); (· (simp only [look_cons, Nat.reduceBEq, cond_true, cond_false] <;> exact rfl)))
      | (refine EndQ.ret0 rfl ?_)
      | (refine EndQ.nor0 rfl ?_)
    refine ⟨?_, trivial⟩
    rw [List.take_of_length_le (by omega)]; rfl
end Go.Proofs.Ytcfoongiffpnlaa
