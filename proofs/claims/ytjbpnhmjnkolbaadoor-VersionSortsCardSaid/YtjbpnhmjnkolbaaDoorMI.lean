/-
  Texts VerG VerH VerI VerJ VerK VerL VerM VerN, one behind the other.
-/
import Derived.Test.YtjbpnhmjnkolbaaDoorMH
import Derived.Lib.Bytealg
/-
  The package pomaceref04: rank, walked.
-/
set_option linter.unusedVariables false
set_option linter.unusedSimpArgs false
namespace Go.Proofs.YtjbpnhmjnkolbaaDoor
open Go.RowKit
set_option maxRecDepth 10000

def wordsR : List (List UInt8) := [[97, 108, 112, 104, 97], [98, 101, 116, 97], [109, 105, 108, 101, 115, 116, 111, 110, 101], [114, 99], [115, 110, 97, 112, 115, 104, 111, 116], [103, 97], [115, 112]]
def rankR (p : Prt) : Int := if p.2.2 == [] then 5 else if p.1 then (match wordsR.findIdx? (fun w => p.2.2 == w) with
  | some i => i
  | none => 7) else if p.2.1 then 8 else 9
theorem bs38w : vbuildSlice (tyOf Tryd.prog) 38 7 [(0, .str [97, 108, 112, 104, 97]), (1, .str [98, 101, 116, 97]), (2, .str [109, 105, 108, 101, 115, 116, 111, 110, 101]), (3, .str [114, 99]), (4, .str [115, 110, 97, 112, 115, 104, 111, 116]), (5, .str [103, 97]), (6, .str [115, 112])] = some (.sl 7 (wordsR.map .str) .full) := by kernel_rfl
theorem zp7 {α : Type} {i0 i1 i2 i3 i4 i5 i6 : Nat} {x0 x1 x2 x3 x4 x5 x6 : Operand} {m0 m1 m2 m3 m4 m5 m6 : α} : zipParts #[(i0, x0), (i1, x1), (i2, x2), (i3, x3), (i4, x4), (i5, x5), (i6, x6)] [m0, m1, m2, m3, m4, m5, m6] = [(i0, m0), (i1, m1), (i2, m2), (i3, m3), (i4, m4), (i5, m5), (i6, m6)] := rfl
theorem rankAt {t : List UInt8} {j : Nat} (hj : j < wordsR.length) (h : ∀ k (hk : k < j), (t == wordsR[k]) = false) (h2 : (t == wordsR[j]) = true) : wordsR.findIdx? (fun w => t == w) = some j := by
  rw [List.findIdx?_eq_some_iff_getElem]
  exact ⟨hj, h2, fun k hk => by rw [h k hk]; simp⟩
theorem rankNo {t : List UInt8} (h : ∀ k (hk : k < wordsR.length), (t == wordsR[k]) = false) : wordsR.findIdx? (fun w => t == w) = none := by
  rw [List.findIdx?_eq_none_iff]
  intro w hw
  obtain ⟨k, hk, rfl⟩ := List.mem_iff_getElem.1 hw
  exact h k hk
/-- pomaceref04.rank -/
theorem rRank_v (p : Prt) (O : VH) : VF Tryd.prog 39 [.agg (prM p)] O (Ret fun m O' => m = mi (rankR p) ∧ O.Ge O') := by
  have hb := VH.push_new O (.cells (prM p))
  have hge := (VH.Ge.refl O).push (.cells (prM p))
  obtain ⟨wd, hy, t⟩ := p
  simp only [prM, mb_def] at hb hge
  unfold rankR
  dsimp only
  refine VF.enter' tabOk Tryd.func39 (c := _) rfl (Nat.le_of_ble_eq_true rfl) ?_
  rw [show Tryd.f39.ntmps = 27 from rfl]
  simp only [argEnv, Nat.zero_add, Nat.reduceAdd]
  cases ht : t == []
  rotate_left
  · repeat' first
      | with_reducible refine VC.seq' ?_
      | with_reducible refine VC.block' ?_
      | with_reducible refine VC.skip ?_
      | with_reducible refine VC.label ?_
      | with_reducible refine VC.scope ?_
      | with_reducible refine VC.exit ?_
      | with_reducible refine VC.ret ?_
      | with_reducible refine VL.nil ?_
      | ((first | with_reducible apply VC.plainL | with_reducible apply VC.readsL (by kernel_rfl) (by kernel_rfl) (by kernel_rfl)); (with_reducible apply VL.run tabOk); (· (simp (disch := omega) only [vset, wset, ints, bools, strs, undefM, Nat.reduceLT, Nat.reduceAdd, Nat.reduceBEq, Int.reduceToNat, prM, fa30_2, vload_p ty9 rfl hb, vbin_strE, ht] <;> exact rfl)))
      | ((with_reducible apply VC.cond); (· (simp (disch := omega) only [vset, wset, ints, bools, strs, undefM, Nat.reduceLT, Nat.reduceAdd, Nat.reduceBEq, Int.reduceToNat, prM, fa30_2, vload_p ty9 rfl hb, vbin_strE, ht] <;> exact rfl)); all_goals (intro hcond; try simp only [decide_eq_true_eq, decide_eq_false_iff_not, beq_iff_eq, beq_eq_false_iff_ne, bne_iff_ne, bne_eq_false_iff_eq, ne_eq, reduceCtorEq] at hcond))
      | simp only [qset, Nat.reduceEqDiff, reduceIte]
      | ((apply EndQ.ret1 rfl); (· (simp only [look_cons, Nat.reduceBEq, cond_true, cond_false] <;> exact rfl)))
      | ((apply EndQ.ret2 rfl); (· (simp only [look_cons, Nat.reduceBEq, cond_true, cond_false] <;> exact rfl)); (· (simp only [look_cons, Nat.reduceBEq, cond_true, cond_false] <;> exact rfl)))
      | (refine EndQ.ret0 rfl ?_)
      | (refine EndQ.nor0 rfl ?_)
    exact ⟨rfl, hge⟩
  cases wd
  · cases hy
    · repeat' first
        | with_reducible refine VC.seq' ?_
        | with_reducible refine VC.block' ?_
        | with_reducible refine VC.skip ?_
        | with_reducible refine VC.label ?_
        | with_reducible refine VC.scope ?_
        | with_reducible refine VC.exit ?_
        | with_reducible refine VC.ret ?_
        | with_reducible refine VL.nil ?_
        | ((first | with_reducible apply VC.plainL | with_reducible apply VC.readsL (by kernel_rfl) (by kernel_rfl) (by kernel_rfl)); (with_reducible apply VL.run tabOk); (· (simp (disch := omega) only [vset, wset, ints, bools, strs, undefM, Nat.reduceLT, Nat.reduceAdd, Nat.reduceBEq, Int.reduceToNat, prM, fa30_0, fa30_1, fa30_2, vload_p ty9 rfl hb, vload_p ty4 rfl hb, vbin_strE, ht] <;> exact rfl)))
        | ((with_reducible apply VC.cond); (· (simp (disch := omega) only [vset, wset, ints, bools, strs, undefM, Nat.reduceLT, Nat.reduceAdd, Nat.reduceBEq, Int.reduceToNat, prM, fa30_0, fa30_1, fa30_2, vload_p ty9 rfl hb, vload_p ty4 rfl hb, vbin_strE, ht] <;> exact rfl)); all_goals (intro hcond; try simp only [decide_eq_true_eq, decide_eq_false_iff_not, beq_iff_eq, beq_eq_false_iff_ne, bne_iff_ne, bne_eq_false_iff_eq, ne_eq, reduceCtorEq] at hcond))
        | simp only [qset, Nat.reduceEqDiff, reduceIte]
        | ((apply EndQ.ret1 rfl); (· (simp only [look_cons, Nat.reduceBEq, cond_true, cond_false] <;> exact rfl)))
        | ((apply EndQ.ret2 rfl); (· (simp only [look_cons, Nat.reduceBEq, cond_true, cond_false] <;> exact rfl)); (· (simp only [look_cons, Nat.reduceBEq, cond_true, cond_false] <;> exact rfl)))
        | (refine EndQ.ret0 rfl ?_)
        | (refine EndQ.nor0 rfl ?_)
      exact ⟨rfl, hge⟩
    · repeat' first
        | with_reducible refine VC.seq' ?_
        | with_reducible refine VC.block' ?_
        | with_reducible refine VC.skip ?_
        | with_reducible refine VC.label ?_
        | with_reducible refine VC.scope ?_
        | with_reducible refine VC.exit ?_
        | with_reducible refine VC.ret ?_
        | with_reducible refine VL.nil ?_
        | ((first | with_reducible apply VC.plainL | with_reducible apply VC.readsL (by kernel_rfl) (by kernel_rfl) (by kernel_rfl)); (with_reducible apply VL.run tabOk); (· (simp (disch := omega) only [vset, wset, ints, bools, strs, undefM, Nat.reduceLT, Nat.reduceAdd, Nat.reduceBEq, Int.reduceToNat, prM, fa30_0, fa30_1, fa30_2, vload_p ty9 rfl hb, vload_p ty4 rfl hb, vbin_strE, ht] <;> exact rfl)))
        | ((with_reducible apply VC.cond); (· (simp (disch := omega) only [vset, wset, ints, bools, strs, undefM, Nat.reduceLT, Nat.reduceAdd, Nat.reduceBEq, Int.reduceToNat, prM, fa30_0, fa30_1, fa30_2, vload_p ty9 rfl hb, vload_p ty4 rfl hb, vbin_strE, ht] <;> exact rfl)); all_goals (intro hcond; try simp only [decide_eq_true_eq, decide_eq_false_iff_not, beq_iff_eq, beq_eq_false_iff_ne, bne_iff_ne, bne_eq_false_iff_eq, ne_eq, reduceCtorEq] at hcond))
        | simp only [qset, Nat.reduceEqDiff, reduceIte]
        | ((apply EndQ.ret1 rfl); (· (simp only [look_cons, Nat.reduceBEq, cond_true, cond_false] <;> exact rfl)))
        | ((apply EndQ.ret2 rfl); (· (simp only [look_cons, Nat.reduceBEq, cond_true, cond_false] <;> exact rfl)); (· (simp only [look_cons, Nat.reduceBEq, cond_true, cond_false] <;> exact rfl)))
        | (refine EndQ.ret0 rfl ?_)
        | (refine EndQ.nor0 rfl ?_)
      exact ⟨rfl, hge⟩
  repeat' first
    | with_reducible refine VC.seq' ?_
    | with_reducible refine VC.block' ?_
    | with_reducible refine VC.skip ?_
    | with_reducible refine VC.label ?_
    | with_reducible refine VC.scope ?_
    | with_reducible refine VC.exit ?_
    | with_reducible refine VC.ret ?_
    | with_reducible refine VL.nil ?_
    | ((first | with_reducible apply VC.plainL | with_reducible apply VC.readsL (by kernel_rfl) (by kernel_rfl) (by kernel_rfl)); (with_reducible apply VL.run tabOk); (· (simp (disch := omega) only [vset, wset, ints, bools, strs, undefM, Nat.reduceLT, Nat.reduceAdd, Nat.reduceBEq, Int.reduceToNat, prM, fa30_0, fa30_1, fa30_2, vload_p ty9 rfl hb, vload_p ty4 rfl hb, vbin_strE, ht, zp7, bs38w, vlen_sl ty38] <;> exact rfl)))
    | ((with_reducible apply VC.cond); (· (simp (disch := omega) only [vset, wset, ints, bools, strs, undefM, Nat.reduceLT, Nat.reduceAdd, Nat.reduceBEq, Int.reduceToNat, prM, fa30_0, fa30_1, fa30_2, vload_p ty9 rfl hb, vload_p ty4 rfl hb, vbin_strE, ht, zp7, bs38w, vlen_sl ty38] <;> exact rfl)); all_goals (intro hcond; try simp only [decide_eq_true_eq, decide_eq_false_iff_not, beq_iff_eq, beq_eq_false_iff_ne, bne_iff_ne, bne_eq_false_iff_eq, ne_eq, reduceCtorEq] at hcond))
    | simp only [qset, Nat.reduceEqDiff, reduceIte]
    | ((apply EndQ.ret1 rfl); (· (simp only [look_cons, Nat.reduceBEq, cond_true, cond_false] <;> exact rfl)))
    | ((apply EndQ.ret2 rfl); (· (simp only [look_cons, Nat.reduceBEq, cond_true, cond_false] <;> exact rfl)); (· (simp only [look_cons, Nat.reduceBEq, cond_true, cond_false] <;> exact rfl)))
    | (refine EndQ.ret0 rfl ?_)
    | (refine EndQ.nor0 rfl ?_)
  generalize O.push (.cells [.v (.bool true), .v (.bool hy), .str t]) = O1 at *
  generalize O.next = b at *
  apply VC.loopK [14] [1, 12, 13] (ms := fun j : Nat => [mi j]) (I := fun j O' => j ≤ 7 ∧ O' = O1 ∧ ∀ k (hk : k < wordsR.length), k < j → (t == wordsR[k]) = false) (μ := fun j => 7 - j) (s0 := 0)
  · (simp (disch := omega) only [vset, wset, ints, bools, strs, undefM, Nat.reduceLT, Nat.reduceAdd, Nat.reduceBEq, Int.reduceToNat, Int.natCast_zero, List.take_zero, List.map_nil, List.any_nil, Bool.or_false] <;> exact rfl)
  · (simp only [vset, wset, ints, bools, strs, undefM, Nat.reduceLT, Nat.reduceAdd, Nat.reduceBEq, Int.reduceToNat] <;> exact rfl)
  · exact ⟨by omega, rfl, fun k _ hk => by omega⟩
  rintro j O2 ⟨hj, rfl, hno⟩
  have h7 : wordsR.length = 7 := rfl
  by_cases h2 : j < 7
  · have hat : (wordsR.map MV.str)[j]? = some (.str (wordsR[j]'(by omega))) := by rw [List.getElem?_map, List.getElem?_eq_getElem (by omega)]; rfl
    cases he : t == wordsR[j]'(by omega)
    · repeat' first
        | with_reducible refine VC.seq' ?_
        | with_reducible refine VC.block' ?_
        | with_reducible refine VC.skip ?_
        | with_reducible refine VC.label ?_
        | with_reducible refine VC.scope ?_
        | with_reducible refine VC.exit ?_
        | with_reducible refine VC.ret ?_
        | with_reducible refine VL.nil ?_
        | ((first | with_reducible apply VC.plainL | with_reducible apply VC.readsL (by kernel_rfl) (by kernel_rfl) (by kernel_rfl)); (with_reducible apply VL.run tabOk); (· (simp (disch := omega) only [vset, wset, ints, bools, strs, undefM, Nat.reduceLT, Nat.reduceAdd, Nat.reduceBEq, Int.reduceToNat, vix_sl ty38 ty9, vload_c ty9 rfl, hat, fa30_2, vload_p ty9 rfl hb, vbin_strE, he] <;> exact rfl)))
        | ((with_reducible apply VC.cond); (· (simp (disch := omega) only [vset, wset, ints, bools, strs, undefM, Nat.reduceLT, Nat.reduceAdd, Nat.reduceBEq, Int.reduceToNat, vix_sl ty38 ty9, vload_c ty9 rfl, hat, fa30_2, vload_p ty9 rfl hb, vbin_strE, he] <;> exact rfl)); all_goals (intro hcond; try simp only [decide_eq_true_eq, decide_eq_false_iff_not, beq_iff_eq, beq_eq_false_iff_ne, bne_iff_ne, bne_eq_false_iff_eq, ne_eq, reduceCtorEq] at hcond))
        | simp only [qset, Nat.reduceEqDiff, reduceIte]
        | ((apply EndQ.ret1 rfl); (· (simp only [look_cons, Nat.reduceBEq, cond_true, cond_false] <;> exact rfl)))
        | ((apply EndQ.ret2 rfl); (· (simp only [look_cons, Nat.reduceBEq, cond_true, cond_false] <;> exact rfl)); (· (simp only [look_cons, Nat.reduceBEq, cond_true, cond_false] <;> exact rfl)))
        | (refine EndQ.ret0 rfl ?_)
        | (refine EndQ.nor0 rfl ?_)
      refine ⟨?_, j + 1, ?_, ?_, by dsimp only; omega⟩
      · (simp only [vset, wset, ints, bools, strs, undefM, Nat.reduceLT, Nat.reduceAdd, Nat.reduceBEq, Int.reduceToNat] <;> exact rfl)
      · (simp (disch := omega) only [vset, wset, ints, bools, strs, undefM, Nat.reduceLT, Nat.reduceAdd, Nat.reduceBEq, Int.reduceToNat, Int.natCast_add, Int.cast_ofNat_Int] <;> first | done | exact rfl)
      refine ⟨by omega, rfl, fun k hk hkj => ?_⟩
      rcases Nat.lt_succ_iff_lt_or_eq.1 hkj with h | rfl
      · exact hno k hk h
      · exact he
    · repeat' first
        | with_reducible refine VC.seq' ?_
        | with_reducible refine VC.block' ?_
        | with_reducible refine VC.skip ?_
        | with_reducible refine VC.label ?_
        | with_reducible refine VC.scope ?_
        | with_reducible refine VC.exit ?_
        | with_reducible refine VC.ret ?_
        | with_reducible refine VL.nil ?_
        | ((first | with_reducible apply VC.plainL | with_reducible apply VC.readsL (by kernel_rfl) (by kernel_rfl) (by kernel_rfl)); (with_reducible apply VL.run tabOk); (· (simp (disch := omega) only [vset, wset, ints, bools, strs, undefM, Nat.reduceLT, Nat.reduceAdd, Nat.reduceBEq, Int.reduceToNat, vix_sl ty38 ty9, vload_c ty9 rfl, hat, fa30_2, vload_p ty9 rfl hb, vbin_strE, he] <;> exact rfl)))
        | ((with_reducible apply VC.cond); (· (simp (disch := omega) only [vset, wset, ints, bools, strs, undefM, Nat.reduceLT, Nat.reduceAdd, Nat.reduceBEq, Int.reduceToNat, vix_sl ty38 ty9, vload_c ty9 rfl, hat, fa30_2, vload_p ty9 rfl hb, vbin_strE, he] <;> exact rfl)); all_goals (intro hcond; try simp only [decide_eq_true_eq, decide_eq_false_iff_not, beq_iff_eq, beq_eq_false_iff_ne, bne_iff_ne, bne_eq_false_iff_eq, ne_eq, reduceCtorEq] at hcond))
        | simp only [qset, Nat.reduceEqDiff, reduceIte]
        | ((apply EndQ.ret1 rfl); (· (simp only [look_cons, Nat.reduceBEq, cond_true, cond_false] <;> exact rfl)))
        | ((apply EndQ.ret2 rfl); (· (simp only [look_cons, Nat.reduceBEq, cond_true, cond_false] <;> exact rfl)); (· (simp only [look_cons, Nat.reduceBEq, cond_true, cond_false] <;> exact rfl)))
        | (refine EndQ.ret0 rfl ?_)
        | (refine EndQ.nor0 rfl ?_)
      exact ⟨by rw [rankAt (by omega) (fun k hk => hno k (by omega) hk) he]; rfl, hge⟩
  · repeat' first
      | with_reducible refine VC.seq' ?_
      | with_reducible refine VC.block' ?_
      | with_reducible refine VC.skip ?_
      | with_reducible refine VC.label ?_
      | with_reducible refine VC.scope ?_
      | with_reducible refine VC.exit ?_
      | with_reducible refine VC.ret ?_
      | with_reducible refine VL.nil ?_
      | ((first | with_reducible apply VC.plainL | with_reducible apply VC.readsL (by kernel_rfl) (by kernel_rfl) (by kernel_rfl)); (with_reducible apply VL.run tabOk); (· (simp (disch := omega) only [vset, wset, ints, bools, strs, undefM, Nat.reduceLT, Nat.reduceAdd, Nat.reduceBEq, Int.reduceToNat] <;> exact rfl)))
      | ((with_reducible apply VC.cond); (· (simp (disch := omega) only [vset, wset, ints, bools, strs, undefM, Nat.reduceLT, Nat.reduceAdd, Nat.reduceBEq, Int.reduceToNat] <;> exact rfl)); all_goals (intro hcond; try simp only [decide_eq_true_eq, decide_eq_false_iff_not, beq_iff_eq, beq_eq_false_iff_ne, bne_iff_ne, bne_eq_false_iff_eq, ne_eq, reduceCtorEq] at hcond))
      | simp only [qset, Nat.reduceEqDiff, reduceIte]
      | ((apply EndQ.ret1 rfl); (· (simp only [look_cons, Nat.reduceBEq, cond_true, cond_false] <;> exact rfl)))
      | ((apply EndQ.ret2 rfl); (· (simp only [look_cons, Nat.reduceBEq, cond_true, cond_false] <;> exact rfl)); (· (simp only [look_cons, Nat.reduceBEq, cond_true, cond_false] <;> exact rfl)))
      | (refine EndQ.ret0 rfl ?_)
      | (refine EndQ.nor0 rfl ?_)
    exact ⟨by rw [rankNo (fun k hk => hno k hk (by omega))]; rfl, hge⟩
end Go.Proofs.YtjbpnhmjnkolbaaDoor

/-
  The package version: Index, rank, strings.Compare, compare, walked by rewriting.
-/
set_option linter.unusedVariables false
set_option linter.unusedSimpArgs false
namespace Go.Proofs.YtjbpnhmjnkolbaaDoor
open Go.RowKit

set_option maxRecDepth 10000
set_option linter.defProp false in
def tsH := And.intro T9 <| And.intro T38 <| And.intro T3 <| And.intro T4 T28

/-- slices.Index of texts -/
theorem IndexS_v (l : List (List UInt8)) (tk : Tok) (v : List UInt8) (O : VH) (hl : l.length ≤ maxLen) : VF Tryd.prog 60 [.sl l.length (l.map .str) tk, .str v] O (Ret fun m O' => m = mi (match l.findIdx? (v == ·) with | some i => (i : Int) | none => -1) ∧ O' = O) := by
  have hm : (l.length : Int) ≤ 9223372036854775807 := by simp [maxLen] at hl; omega
  refine VF.ofW (n := ⟨19, 0⟩) (rs := [.tmp 4]) tabOk Tryd.func60 rfl rfl rfl (Nat.le_of_ble_eq_true rfl) ?_
  simp only [argEnv, Nat.zero_add, Nat.reduceAdd]
  simp (disch := first | omega | (simp only [ds] <;> omega) | fail) only [ws, undefM, Nat.reduceLT, Nat.reduceAdd, Nat.reduceMul, Nat.reduceSub, Nat.reduceBEq, Nat.reduceEqDiff, Int.reduceToNat, reduceIte, tsH]
  refine WC.loopK tabOk [8] [0, 1, 7] (fun j : Nat => [mi j]) (fun j O' => O' = O ∧ j ≤ l.length ∧ ∀ k (hk : k < l.length), k < j → (v == l[k]) = false) (fun j => l.length - j) (0) rfl rfl ?_ ?_
  · exact ⟨rfl, by omega, fun k _ h => by omega⟩
  rintro j O2 ⟨rfl, hj, hno⟩
  by_cases h2 : j < l.length
  · cases he : v == l[j]
    · simp (disch := first | omega | (simp only [ds] <;> omega) | fail) only [ws, undefM, Nat.reduceLT, Nat.reduceAdd, Nat.reduceMul, Nat.reduceSub, Nat.reduceBEq, Nat.reduceEqDiff, Int.reduceToNat, reduceIte, tsH, List.getElem?_eq_getElem h2, he]
      refine RoundQ.next (j + 1) rfl rfl ?_ (by first | omega | (dsimp only; omega))
      refine ⟨rfl, by omega, fun k hk hkj => ?_⟩
      rcases Nat.lt_succ_iff_lt_or_eq.1 hkj with h | rfl
      · exact hno k hk h
      · exact he
    · simp (disch := first | omega | (simp only [ds] <;> omega) | fail) only [ws, undefM, Nat.reduceLT, Nat.reduceAdd, Nat.reduceMul, Nat.reduceSub, Nat.reduceBEq, Nat.reduceEqDiff, Int.reduceToNat, reduceIte, tsH, List.getElem?_eq_getElem h2, he]
      rw [List.findIdx?_eq_some_iff_getElem.2 ⟨h2, he, fun k hk => by rw [hno k (by omega) hk]; simp⟩]
  · simp (disch := first | omega | (simp only [ds] <;> omega) | fail) only [ws, undefM, Nat.reduceLT, Nat.reduceAdd, Nat.reduceMul, Nat.reduceSub, Nat.reduceBEq, Nat.reduceEqDiff, Int.reduceToNat, reduceIte, tsH]
    rw [List.findIdx?_eq_none_iff.2 (fun w hw => by
      obtain ⟨k, hk, rfl⟩ := List.mem_iff_getElem.1 hw
      exact hno k hk (by omega))]
def wordsV : List (List UInt8) := [[97, 108, 112, 104, 97], [98, 101, 116, 97], [109, 105, 108, 101, 115, 116, 111, 110, 101], [114, 99], [115, 110, 97, 112, 115, 104, 111, 116], [], [115, 112]]
def rankV (p : Prt) : Int := if p.2.1 then (if p.2.2 == [] then 5 else if p.1 then 8 else 9) else match wordsV.findIdx? (p.2.2 == ·) with
  | some i => i
  | none => 7
/-- version.rank -/
theorem vRank_v (p : Prt) (O : VH) : VF Tryd.prog 51 [.agg (prM p)] O (Ret fun m O' => m = mi (rankV p) ∧ O.Ge O') := by
  obtain ⟨hy, nb, t⟩ := p
  have hge := fun x => (VH.Ge.refl O).push x
  unfold rankV
  dsimp only
  refine VF.ofW (n := ⟨20, 0⟩) (rs := [.tmp 2]) tabOk Tryd.func51 rfl rfl rfl (Nat.le_of_ble_eq_true rfl) ?_
  simp only [argEnv, Nat.zero_add, Nat.reduceAdd]
  cases nb
  · simp (disch := first | omega | (simp only [ds] <;> omega) | fail) only [ws, undefM, Nat.reduceLT, Nat.reduceAdd, Nat.reduceMul, Nat.reduceSub, Nat.reduceBEq, Nat.reduceEqDiff, Int.reduceToNat, reduceIte, tsH, prM]
    refine CallW.rt (IndexS_v wordsV .full t _ (by simp [wordsV, maxLen])) (by kernel_rfl) rfl rfl ?_
    rintro _ O2 ⟨rfl, rfl⟩
    cases hf : wordsV.findIdx? (t == ·) with
    | none =>
      simp (disch := first | omega | (simp only [ds] <;> omega) | fail) only [ws, undefM, Nat.reduceLT, Nat.reduceAdd, Nat.reduceMul, Nat.reduceSub, Nat.reduceBEq, Nat.reduceEqDiff, Int.reduceToNat, reduceIte, tsH]
      exact hge _
    | some i =>
      simp (disch := first | omega | (simp only [ds] <;> omega) | fail) only [ws, undefM, Nat.reduceLT, Nat.reduceAdd, Nat.reduceMul, Nat.reduceSub, Nat.reduceBEq, Nat.reduceEqDiff, Int.reduceToNat, reduceIte, tsH]
      exact hge _
  · cases he : t == []
    · cases hy
      · simp (disch := first | omega | (simp only [ds] <;> omega) | fail) only [ws, undefM, Nat.reduceLT, Nat.reduceAdd, Nat.reduceMul, Nat.reduceSub, Nat.reduceBEq, Nat.reduceEqDiff, Int.reduceToNat, reduceIte, tsH, prM, he]
        exact hge _
      · simp (disch := first | omega | (simp only [ds] <;> omega) | fail) only [ws, undefM, Nat.reduceLT, Nat.reduceAdd, Nat.reduceMul, Nat.reduceSub, Nat.reduceBEq, Nat.reduceEqDiff, Int.reduceToNat, reduceIte, tsH, prM, he]
        exact hge _
    · simp (disch := first | omega | (simp only [ds] <;> omega) | fail) only [ws, undefM, Nat.reduceLT, Nat.reduceAdd, Nat.reduceMul, Nat.reduceSub, Nat.reduceBEq, Nat.reduceEqDiff, Int.reduceToNat, reduceIte, tsH, prM, he]
      exact hge _
def cmpB (a b : List UInt8) : Int := Lib.compareBytes a b
theorem cmpstring_x (a b : List UInt8) (O : VH) : ExtOk Tryd.prog 67 [.str a, .str b] O fun m O' => m = mi (cmpB a b) ∧ O' = O := by
  refine ExtOk.of (ex := Extern.BytealgCompare.compare) Tryd.func67 (by kernel_rfl) (by kernel_rfl) (by kernel_rfl) (by kernel_rfl) fun G w vs hw hv => ?_
  obtain ⟨u, us, rfl, h1, h2⟩ := hv.inv_cons
  obtain ⟨u2, us2, rfl, h3, h4⟩ := h2.inv_cons
  rw [h4.inv_nil]
  cases h1
  cases h3
  exact ⟨_, Lib.run_compareString _ _ w, .v rfl⟩
/-- internal/bytealg.CompareString, strings.Compare -/
theorem CompareString_v (a b : List UInt8) (O : VH) : VF Tryd.prog 61 [.str a, .str b] O (Ret fun m O' => m = mi (cmpB a b) ∧ O' = O) := by
  refine VF.ofW (n := ⟨8, 0⟩) (rs := [.tmp 4]) tabOk Tryd.func61 rfl rfl rfl (Nat.le_of_ble_eq_true rfl) ?_
  simp only [argEnv, Nat.zero_add, Nat.reduceAdd]
  simp (disch := first | omega | (simp only [ds] <;> omega) | fail) only [ws, undefM, Nat.reduceLT, Nat.reduceAdd, Nat.reduceMul, Nat.reduceSub, Nat.reduceBEq, Nat.reduceEqDiff, Int.reduceToNat, reduceIte]
  refine CallW.ext (cmpstring_x a b O) rfl ?_
  rintro _ O2 ⟨rfl, rfl⟩
  simp (disch := first | omega | (simp only [ds] <;> omega) | fail) only [ws, undefM, Nat.reduceLT, Nat.reduceAdd, Nat.reduceMul, Nat.reduceSub, Nat.reduceBEq, Nat.reduceEqDiff, Int.reduceToNat, reduceIte]
theorem strCompare_v (a b : List UInt8) (O : VH) : VF Tryd.prog 53 [.str a, .str b] O (Ret fun m O' => m = mi (cmpB a b) ∧ O' = O) := by
  refine VF.ofW (n := ⟨8, 0⟩) (rs := [.tmp 4]) tabOk Tryd.func53 rfl rfl rfl (Nat.le_of_ble_eq_true rfl) ?_
  simp only [argEnv, Nat.zero_add, Nat.reduceAdd]
  simp (disch := first | omega | (simp only [ds] <;> omega) | fail) only [ws, undefM, Nat.reduceLT, Nat.reduceAdd, Nat.reduceMul, Nat.reduceSub, Nat.reduceBEq, Nat.reduceEqDiff, Int.reduceToNat, reduceIte]
  refine CallW.rt (CompareString_v a b O) (by kernel_rfl) rfl rfl ?_
  rintro _ O2 ⟨rfl, rfl⟩
  simp (disch := first | omega | (simp only [ds] <;> omega) | fail) only [ws, undefM, Nat.reduceLT, Nat.reduceAdd, Nat.reduceMul, Nat.reduceSub, Nat.reduceBEq, Nat.reduceEqDiff, Int.reduceToNat, reduceIte]
def cmpV (a b : Prt) : Int :=
  if sgn (rankV a) (rankV b) ≠ 0 then sgn (rankV a) (rankV b)
  else if rankV a = 7 then cmpB a.2.2 b.2.2
  else if rankV a > 7 then (if sgn a.2.2.length b.2.2.length ≠ 0 then sgn a.2.2.length b.2.2.length else cmpB a.2.2 b.2.2)
  else 0
/-- version.compare -/
theorem compare_v (a b : Prt) (O : VH) (ha : a.2.2.length ≤ maxLen) (hb : b.2.2.length ≤ maxLen) : VF Tryd.prog 37 [.agg (prM a), .agg (prM b)] O (Ret fun m O' => m = mi (cmpV a b) ∧ O.Ge O') := by
  have hla : (prM a).length = 3 := rfl
  have hlb : (prM b).length = 3 := rfl
  have ht : ∀ p : Prt, ((prM p).drop 0).take 3 = prM p := fun p => rfl
  have ht2 : ∀ p : Prt, (prM p)[2]? = some (.str p.2.2) := fun p => rfl
  have hge := ((VH.Ge.refl O).push (.cells (prM a))).push (.cells (prM b))
  simp only [maxLen] at ha hb
  unfold cmpV
  refine VF.ofW (n := ⟨43, 0⟩) (rs := [.tmp 4]) tabOk Tryd.func37 rfl rfl rfl (Nat.le_of_ble_eq_true rfl) ?_
  simp only [argEnv, Nat.zero_add, Nat.reduceAdd]
  simp (disch := first | omega | (simp only [ds] <;> omega) | fail) only [ws, undefM, Nat.reduceLT, Nat.reduceAdd, Nat.reduceMul, Nat.reduceSub, Nat.reduceBEq, Nat.reduceEqDiff, Int.reduceToNat, reduceIte, tsH, ht]
  refine CallW.rt (vRank_v a _) (by kernel_rfl) rfl rfl ?_
  rintro _ O2 ⟨rfl, hg2⟩
  have h0 := hg2.hp O.next (by simp only [ds]; omega)
  have h1 := hg2.hp (O.next + 1) (by simp only [ds]; omega)
  simp (disch := first | omega | (simp only [ds] <;> omega) | fail) only [ws, undefM, Nat.reduceLT, Nat.reduceAdd, Nat.reduceMul, Nat.reduceSub, Nat.reduceBEq, Nat.reduceEqDiff, Int.reduceToNat, reduceIte] at h0 h1
  have hge := hge.trans hg2
  simp (disch := first | omega | (simp only [ds] <;> omega) | fail) only [ws, undefM, Nat.reduceLT, Nat.reduceAdd, Nat.reduceMul, Nat.reduceSub, Nat.reduceBEq, Nat.reduceEqDiff, Int.reduceToNat, reduceIte, tsH, ht, h1]
  refine CallW.rt (vRank_v b _) (by kernel_rfl) rfl rfl ?_
  rintro _ O3 ⟨rfl, hg3⟩
  have h2 := hg3.hp O.next (by have := hg2.next; simp only [ds] at this; omega)
  have h3 := hg3.hp (O.next + 1) (by have := hg2.next; simp only [ds] at this; omega)
  rw [h0] at h2
  rw [h1] at h3
  have hge := hge.trans hg3
  simp (disch := first | omega | (simp only [ds] <;> omega) | fail) only [ws, undefM, Nat.reduceLT, Nat.reduceAdd, Nat.reduceMul, Nat.reduceSub, Nat.reduceBEq, Nat.reduceEqDiff, Int.reduceToNat, reduceIte, tsH]
  refine CallW.rt (sign_v (rankV a) (rankV b) _) (by kernel_rfl) rfl rfl ?_
  rintro _ O4 ⟨rfl, rfl⟩
  by_cases c1 : sgn (rankV a) (rankV b) = 0
  · rw [if_neg (by simpa using c1)]
    by_cases c2 : rankV a = 7
    · rw [if_pos c2]
      simp (disch := first | omega | (simp only [ds] <;> omega) | fail) only [ws, undefM, Nat.reduceLT, Nat.reduceAdd, Nat.reduceMul, Nat.reduceSub, Nat.reduceBEq, Nat.reduceEqDiff, Int.reduceToNat, reduceIte, tsH, h2, h3, ht2]
      refine CallW.rt (strCompare_v a.2.2 b.2.2 _) (by kernel_rfl) rfl rfl ?_
      rintro _ O5 ⟨rfl, rfl⟩
      simp (disch := first | omega | (simp only [ds] <;> omega) | fail) only [ws, undefM, Nat.reduceLT, Nat.reduceAdd, Nat.reduceMul, Nat.reduceSub, Nat.reduceBEq, Nat.reduceEqDiff, Int.reduceToNat, reduceIte, tsH]
      exact hge
    · rw [if_neg c2]
      by_cases c3 : rankV a > 7
      · rw [if_pos c3]
        simp (disch := first | omega | (simp only [ds] <;> omega) | fail) only [ws, undefM, Nat.reduceLT, Nat.reduceAdd, Nat.reduceMul, Nat.reduceSub, Nat.reduceBEq, Nat.reduceEqDiff, Int.reduceToNat, reduceIte, tsH, h2, h3, ht2]
        refine CallW.rt (sign_v a.2.2.length b.2.2.length _) (by kernel_rfl) rfl rfl ?_
        rintro _ O5 ⟨rfl, rfl⟩
        by_cases c4 : sgn a.2.2.length b.2.2.length = 0
        · rw [if_neg (by simpa using c4)]
          simp (disch := first | omega | (simp only [ds] <;> omega) | fail) only [ws, undefM, Nat.reduceLT, Nat.reduceAdd, Nat.reduceMul, Nat.reduceSub, Nat.reduceBEq, Nat.reduceEqDiff, Int.reduceToNat, reduceIte, tsH, h2, h3, ht2]
          refine CallW.rt (strCompare_v a.2.2 b.2.2 _) (by kernel_rfl) rfl rfl ?_
          rintro _ O5 ⟨rfl, rfl⟩
          simp (disch := first | omega | (simp only [ds] <;> omega) | fail) only [ws, undefM, Nat.reduceLT, Nat.reduceAdd, Nat.reduceMul, Nat.reduceSub, Nat.reduceBEq, Nat.reduceEqDiff, Int.reduceToNat, reduceIte, tsH]
          exact hge
        · rw [if_pos c4]
          simp (disch := first | omega | (simp only [ds] <;> omega) | fail) only [ws, undefM, Nat.reduceLT, Nat.reduceAdd, Nat.reduceMul, Nat.reduceSub, Nat.reduceBEq, Nat.reduceEqDiff, Int.reduceToNat, reduceIte, tsH]
          exact hge
      · rw [if_neg c3]
        simp (disch := first | omega | (simp only [ds] <;> omega) | fail) only [ws, undefM, Nat.reduceLT, Nat.reduceAdd, Nat.reduceMul, Nat.reduceSub, Nat.reduceBEq, Nat.reduceEqDiff, Int.reduceToNat, reduceIte, tsH]
        exact hge
  · rw [if_pos c1]
    simp (disch := first | omega | (simp only [ds] <;> omega) | fail) only [ws, undefM, Nat.reduceLT, Nat.reduceAdd, Nat.reduceMul, Nat.reduceSub, Nat.reduceBEq, Nat.reduceEqDiff, Int.reduceToNat, reduceIte, tsH]
    exact hge
end Go.Proofs.YtjbpnhmjnkolbaaDoor

/-
  slices.Delete of one part; version.Parts, walked.
-/
set_option linter.unusedVariables false
set_option linter.unusedSimpArgs false
namespace Go.Proofs.YtjbpnhmjnkolbaaDoor
open Go.RowKit
set_option maxRecDepth 10000
set_option linter.defProp false in
def tsI := And.intro T9 <| And.intro T3 <| And.intro T4 <| And.intro T23 <| And.intro T28 <| And.intro T47 T50

abbrev PRow (O : VH) (B k c : Nat) (L : List Prt) : Prop := Row O 28 3 B k c (L.flatMap prM)
theorem flat_split (L : List Prt) (i : Nat) : (L.flatMap prM).take (i * 3) = (L.take i).flatMap prM ∧ (L.flatMap prM).drop (i * 3) = (L.drop i).flatMap prM := by
  induction i generalizing L with
  | zero => simp
  | succ i ih =>
    cases L with
    | nil => simp
    | cons p L =>
      have := ih L
      simp only [List.flatMap_cons, List.take_succ_cons, List.drop_succ_cons]
      rw [show (i + 1) * 3 = (prM p).length + i * 3 from by simp [prM]; omega, List.take_append, List.drop_append]
      rw [List.take_of_length_le (by simp [prM]), List.drop_of_length_le (by simp [prM])]
      simp [this.1, this.2]
/-- slices.Delete of one part -/
theorem Delete_v {O : VH} {B k c : Nat} {L : List Prt} (i : Nat) (h : PRow O B k c L) (hi : i < L.length) (hc : L.length ≤ c) (hm : L.length ≤ 9223372036854775807) : VF Tryd.prog 31 [.asl k 0 L.length c, mi i, mi (i + 1)] O (Ret fun m O' => m = .asl k 0 (L.length - 1) c ∧ PRow O' B k c (L.take i ++ L.drop (i + 1)) ∧ Upd O (some k) O') := by
  obtain ⟨sp, h1, h2⟩ := h.cells
  have hpl := pr_len L
  refine VF.ofW (n := ⟨33, 0⟩) (rs := [.tmp 6]) tabOk Tryd.func31 rfl rfl rfl (Nat.le_of_ble_eq_true rfl) ?_
  simp only [argEnv, Nat.zero_add, Nat.reduceAdd]
  simp (disch := first | omega | (simp only [ds] <;> omega) | fail) only [ws, undefM, Nat.reduceLT, Nat.reduceAdd, Nat.reduceMul, Nat.reduceSub, Nat.reduceBEq, Nat.reduceEqDiff, Int.reduceToNat, reduceIte, tsI, sl3_a ty23 ty28]
  refine WC.plan tabOk .any [(0, .sil), (1, .sil), (2, .sil), (3, .sil), (4, .sil), (5, .sil), (6, .one), (7, .sil)] (by simp) (by kernel_rfl) (by kernel_rfl) (by kernel_rfl) rfl ?_
  obtain ⟨fs1, fs2⟩ := flat_split L i
  obtain ⟨fs3, fs4⟩ := flat_split L (i + 1)
  have hA : ((L.take i).flatMap prM).length = i * 3 := by rw [pr_len, List.length_take, Nat.min_eq_left (by omega)]
  have hD : ((L.drop (i + 1)).flatMap prM).length = (L.length - (i + 1)) * 3 := by rw [pr_len, List.length_drop]
  have hcs : L.flatMap prM ++ sp = (L.take i).flatMap prM ++ ((L.drop i).flatMap prM ++ sp) := by rw [← List.append_assoc, ← fs1, ← fs2, List.take_append_drop]
  have hlen : (L.flatMap prM ++ sp).length = L.length * 3 + sp.length := by rw [List.length_append, hpl]
  have hsrc : ∀ o' c', (o' = (i + 1) * 3 ∨ L.length - (i + 1) = 0) → o' ≤ (i + 1) * 3 → srcM O 3 (.asl k o' (L.length - (i + 1)) c') = some (L.length - (i + 1), (L.drop (i + 1)).flatMap prM) := fun o' c' ho ho2 => by
    simp only [srcM, h1]
    rw [if_pos (by rw [hlen]; omega)]
    congr 2
    rcases ho with rfl | ho
    · rw [List.drop_append_of_le_length (by rw [hpl]; omega), fs4, List.take_append_of_le_length (by rw [hD]; omega), List.take_of_length_le (by rw [hD]; omega)]
    · rw [ho, Nat.zero_mul, List.take_zero]
      rw [ho, Nat.zero_mul] at hD
      exact (List.eq_nil_of_length_eq_zero hD).symm
  have hlf : ((L.drop (i + 1)).flatMap prM).all leafB = true := by
    rw [List.all_flatMap, List.all_eq_true]; intro p _; rfl
  have hset : setMany (L.flatMap prM ++ sp) (0 + i * 3) ((L.drop (i + 1)).flatMap prM) = ((L.take i).flatMap prM ++ (L.drop (i + 1)).flatMap prM) ++ ((L.drop i).flatMap prM ++ sp).drop ((L.drop (i + 1)).flatMap prM).length := by
    have e1 := setMany_app ((L.take i).flatMap prM) ((L.drop (i + 1)).flatMap prM) ((L.drop i).flatMap prM ++ sp)
    rw [hA, List.take_of_length_le (l := (L.drop (i + 1)).flatMap prM) (by
      rw [List.length_append, pr_len, pr_len, List.length_drop, List.length_drop]; omega)] at e1
    rw [hcs, Nat.zero_add, e1]
  simp (disch := first | omega | (simp only [ds] <;> omega) | fail) only [ws, undefM, Nat.reduceLT, Nat.reduceAdd, Nat.reduceMul, Nat.reduceSub, Nat.reduceBEq, Nat.reduceEqDiff, Int.reduceToNat, reduceIte, tsI]
  have hn : i + (L.length - (i + 1)) = L.length - 1 := by omega
  have hn2 : L.length - (L.length - 1) = 1 := by omega
  have hAD : ((L.take i).flatMap prM ++ (L.drop (i + 1)).flatMap prM).length = (L.length - 1) * 3 := by rw [List.length_append, hA, hD, ← Nat.add_mul, hn]
  have hR : ∀ x : List MV, x = ((L.drop i).flatMap prM ++ sp).drop ((L.drop (i + 1)).flatMap prM).length → x.length = c * 3 - (L.length - 1) * 3 := by
    rintro x rfl
    have := hlen
    rw [h2] at this
    rw [List.length_drop, List.length_append, hD, pr_len, List.length_drop]
    omega
  rw [← List.flatMap_append] at hAD
  generalize hx : ((L.drop i).flatMap prM ++ sp).drop ((L.drop (i + 1)).flatMap prM).length = R at hset
  have hRl := hR R hx.symm
  rw [← List.flatMap_append] at hset
  generalize hL' : L.take i ++ L.drop (i + 1) = L' at *
  have fin : ∀ zs : List MV, zs.length = 3 → PRow ((O.set k (.cells (L'.flatMap prM ++ R))).set k (.cells (setMany (L'.flatMap prM ++ R) (L'.flatMap prM).length zs))) B k c L' ∧ Upd O (some k) ((O.set k (.cells (L'.flatMap prM ++ R))).set k (.cells (setMany (L'.flatMap prM ++ R) (L'.flatMap prM).length zs))) := fun zs hz => by
    rw [VH.set_set, setMany_app, List.append_assoc]
    refine ⟨h.turn ?_, Upd.set⟩
    rw [List.length_append, List.length_append, List.length_take, List.length_drop, hAD, hRl, hz]
    have : L.length * 3 ≤ c * 3 := Nat.mul_le_mul_right _ hc
    omega
  rw [hAD] at fin
  rw [Nat.zero_add] at hset
  by_cases hci : c = i + 1
  · simp (disch := first | omega | (simp only [ds] <;> omega) | fail) only [ws, undefM, Nat.reduceLT, Nat.reduceAdd, Nat.reduceMul, Nat.reduceSub, Nat.reduceBEq, Nat.reduceEqDiff, Int.reduceToNat, reduceIte, tsI]
    refine VL.room tabOk (.inr rfl) (te := ⟨_, 3, 24, _⟩) (dx := .slice 28) h1 (hsrc _ _ (.inr (by omega)) (Nat.zero_le _)) hlf (by rw [ty23]; rfl) ty28 (by rw [ty23]; rfl) trivial (by omega) (by rw [hD, hlen]; dsimp only; omega) rfl rfl rfl rfl ?_
    simp (disch := first | omega | (simp only [ds] <;> omega) | fail) only [ws, undefM, Nat.reduceLT, Nat.reduceAdd, Nat.reduceMul, Nat.reduceSub, Nat.reduceBEq, Nat.reduceEqDiff, Int.reduceToNat, reduceIte, tsI, hset, hn, hn2]
    refine VL.clear tabOk (.inl rfl) (by rw [ty23]; rfl) ty28 (by rfl) (by decide) (VH.set_get _ _ _) (by rw [List.length_append, hAD, hRl]; dsimp only; omega) rfl rfl rfl ?_
    simp (disch := first | omega | (simp only [ds] <;> omega) | fail) only [ws, undefM, Nat.reduceLT, Nat.reduceAdd, Nat.reduceMul, Nat.reduceSub, Nat.reduceBEq, Nat.reduceEqDiff, Int.reduceToNat, reduceIte, tsI, hset, hn, hn2]
    exact fin _ (by simp [vzeros])
  · simp (disch := first | omega | (simp only [ds] <;> omega) | fail) only [ws, undefM, Nat.reduceLT, Nat.reduceAdd, Nat.reduceMul, Nat.reduceSub, Nat.reduceBEq, Nat.reduceEqDiff, Int.reduceToNat, reduceIte, tsI]
    refine VL.room tabOk (.inr rfl) (te := ⟨_, 3, 24, _⟩) (dx := .slice 28) h1 (hsrc _ _ (.inl rfl) (Nat.le_refl _)) hlf (by rw [ty23]; rfl) ty28 (by rw [ty23]; rfl) trivial (by omega) (by rw [hD, hlen]; dsimp only; omega) rfl rfl rfl rfl ?_
    simp (disch := first | omega | (simp only [ds] <;> omega) | fail) only [ws, undefM, Nat.reduceLT, Nat.reduceAdd, Nat.reduceMul, Nat.reduceSub, Nat.reduceBEq, Nat.reduceEqDiff, Int.reduceToNat, reduceIte, tsI, hset, hn, hn2]
    refine VL.clear tabOk (.inl rfl) (by rw [ty23]; rfl) ty28 (by rfl) (by decide) (VH.set_get _ _ _) (by rw [List.length_append, hAD, hRl]; dsimp only; omega) rfl rfl rfl ?_
    simp (disch := first | omega | (simp only [ds] <;> omega) | fail) only [ws, undefM, Nat.reduceLT, Nat.reduceAdd, Nat.reduceMul, Nat.reduceSub, Nat.reduceBEq, Nat.reduceEqDiff, Int.reduceToNat, reduceIte, tsI, hset, hn, hn2]
    exact fin _ (by simp [vzeros])
end Go.Proofs.YtjbpnhmjnkolbaaDoor

/-
  version.Parts, walked.
-/
set_option linter.unusedVariables false
set_option linter.unusedSimpArgs false
namespace Go.Proofs.YtjbpnhmjnkolbaaDoor
open Go.RowKit
set_option maxRecDepth 10000

/-- A row that may be written, handed back: from then on nobody writes it. -/
theorem VF.frozen {P : Program} {f : FuncId} {args : List MV} {O : VH} {Φ Φ' : MV → VH → Prop} (h : VF P f args O (Ret Φ)) (hf : ∀ m O', Φ m O' → ∃ k o n c sz cs, m = .asl k o n c ∧ O'.hp k = some (.cells cs) ∧ o + sz ≤ cs.length ∧ Φ' (.sl n ((cs.drop o).take sz) (if c = n then .full else .unk)) (O'.kill k)) : VF P f args O (Ret Φ') := by
  intro G w vs hw hv
  refine (h G w vs hw hv).mono fun x w' ⟨r, O', H, h1, h2, h3, h4⟩ => ?_
  cases r with
  | panic m => exact h4.elim
  | ret m =>
    cases x with
    | panicked c => exact h3.elim
    | outgrown => exact h3.elim
    | returned v =>
      obtain ⟨k, o, n, c, sz, cs, rfl, g1, g2, g3⟩ := hf m O' h4
      obtain ⟨H', e1, e2, e3⟩ := h2.freeze g1 h3 g2
      exact ⟨.ret _, _, H', h1.trans e1, e2, e3, g3⟩
theorem Row.cells_eq {O : VH} {el : TypeId} {sz B k c : Nat} {L : List MV} (h : Row O el sz B k c L) : ∃ sp, O.hp k = some (.cells (L ++ sp)) := by obtain ⟨sp, h1, _⟩ := h.cells; exact ⟨sp, h1⟩

def mkV (p : Piece) : Prt := (p.2.1, p.1.all isD, if p.1.all isD then p.1.dropWhile (· == 48) else wordF p.1 p.2.2)
def trimT : List Prt → List Prt
  | [] => []
  | p :: r => if p.2.2 == [] && (match trimT r with | [] => true | q :: _ => q.1) then trimT r else p :: trimT r
def firstF : List Prt → List Prt
  | [] => []
  | p :: r => (false, p.2) :: r
def tailT : List Prt → List Prt
  | [] => []
  | p :: r => p :: trimT r
def partsV (s : List UInt8) : List Prt := tailT (firstF ((cutF (s.map lo)).map mkV))
theorem cutF_ne (s : List UInt8) : cutF s ≠ [] := by
  unfold cutF
  rw [cutS_succ, if_neg (by omega)]
  simp
theorem cutF_len (s : List UInt8) : (cutF s).length ≤ s.length + 1 := (cutS_b s (s.length + 1)).2
theorem cutS_text (s : List UInt8) (i : Nat) : ∀ p ∈ (cutS s i).1, p.1.length ≤ s.length := by
  induction i with
  | zero => intro p hp; cases hp
  | succ i ih =>
    intro p hp
    rw [cutS_succ] at hp
    split at hp
    · split at hp
      · rcases List.mem_append.1 hp with h | h
        · exact ih p h
        · rw [List.mem_singleton.1 h]; simp; omega
      · split at hp
        · rcases List.mem_append.1 hp with h | h
          · exact ih p h
          · rw [List.mem_singleton.1 h]; simp; omega
        · exact ih p hp
    · rcases List.mem_append.1 hp with h | h
      · exact ih p h
      · rw [List.mem_singleton.1 h]; simp; omega
theorem cutF_text (s : List UInt8) : ∀ p ∈ cutF s, p.1.length ≤ s.length := cutS_text s _
theorem pc_at : ∀ (L : List Piece) (i : Nat) (h : i < L.length), ((L.flatMap pcM).drop (i * 3)).take 3 = pcM L[i]
  | p :: L, 0, _ => by simp [pcM]
  | p :: L, i + 1, h => by
    have := pc_at L i (by simpa using h)
    rw [List.flatMap_cons, Nat.succ_mul]
    exact this

/-- The row as it stands when all behind place i is trimmed. -/
def trimS (L : List Prt) (i : Nat) : List Prt := L.take (i + 1) ++ trimT (L.drop (i + 1))
theorem trimS_at {L : List Prt} {i : Nat} (h : i < L.length) : trimS L i = L.take i ++ L[i] :: trimT (L.drop (i + 1)) := by
  rw [trimS, take_snoc _ _ h, List.append_assoc]; rfl
theorem trimS_prev {L : List Prt} {i : Nat} (h : i + 1 < L.length) : trimS L i = L.take (i + 1) ++ (if L[i + 1].2.2 == [] && (match trimT (L.drop (i + 2)) with | [] => true | q :: _ => q.1) then trimT (L.drop (i + 2)) else L[i + 1] :: trimT (L.drop (i + 2))) := by
  rw [trimS, List.drop_eq_getElem_cons h, trimT]
theorem tailT_eq (L : List Prt) : tailT L = trimS L 0 := by cases L <;> rfl
theorem trimS_last (L : List Prt) (h : L ≠ []) : trimS L (L.length - 1) = L := by
  have : 0 < L.length := List.length_pos_iff.2 h
  rw [trimS, show L.length - 1 + 1 = L.length from by omega]; simp [trimT]
theorem trimT_len (L : List Prt) : (trimT L).length ≤ L.length := by
  induction L with
  | nil => exact Nat.le_refl _
  | cons p r ih =>
    rw [trimT]
    generalize (p.2.2 == [] && _) = b
    cases b <;> simp <;> omega
theorem pr_at2 (X : List Prt) (sp : List MV) (i : Nat) (h : i < X.length) : ((X.flatMap prM ++ sp).drop (i * 3)).take 3 = prM X[i] := by
  rw [List.drop_append_of_le_length (by rw [pr_len]; omega), List.take_append_of_le_length (by rw [List.length_drop, pr_len]; omega)]
  exact pr_at X i h
theorem pr_cell (X : List Prt) (sp : List MV) (i j : Nat) (h : i < X.length) (hj : j < 3) : (X.flatMap prM ++ sp)[i * 3 + j]? = (prM X[i])[j]? := by
  have := pr_at2 X sp i h
  rw [← this, List.getElem?_take, if_pos hj, List.getElem?_drop]
/-- The parts of a row of pieces, in a row of its own: version.Parts' first loop and the rest. -/
theorem Parts_w (s : List UInt8) (O : VH) (hs : s.length ≤ 10000) : VF Tryd.prog 13 [.str s] O (Ret fun m O' => ∃ k c, m = .asl k 0 (partsV s).length c ∧ (partsV s).length ≤ c ∧ PRow O' O.next k c (partsV s) ∧ O.Ge O') := by
  have hsl : (s.map lo).length = s.length := List.length_map _
  refine VF.ofW (n := ⟨76, 0⟩) (rs := [.tmp 2]) tabOk Tryd.func13 rfl rfl rfl (Nat.le_of_ble_eq_true rfl) ?_
  simp only [argEnv, Nat.zero_add, Nat.reduceAdd]
  simp (disch := first | omega | (simp only [ds] <;> omega) | fail) only [ws, undefM, Nat.reduceLT, Nat.reduceAdd, Nat.reduceMul, Nat.reduceSub, Nat.reduceBEq, Nat.reduceEqDiff, Int.reduceToNat, reduceIte, tsI]
  refine CallW.rt (Lower_v s _ (by simp only [maxLen]; omega)) (by kernel_rfl) rfl rfl ?_
  rintro _ O1 ⟨rfl, hge1⟩
  simp (disch := first | omega | (simp only [ds] <;> omega) | fail) only [ws, undefM, Nat.reduceLT, Nat.reduceAdd, Nat.reduceMul, Nat.reduceSub, Nat.reduceBEq, Nat.reduceEqDiff, Int.reduceToNat, reduceIte, tsI]
  refine CallW.rt (cut_v (s.map lo) _ (by omega)) (by kernel_rfl) rfl rfl ?_
  rintro _ O2 ⟨tk, rfl, hap⟩
  have hge := hge1.trans hap.ge
  have hcl := cutF_len (s.map lo)
  have hct := cutF_text (s.map lo)
  have hne := cutF_ne (s.map lo)
  have hpl := pc_len (cutF (s.map lo))
  unfold partsV
  generalize cutF (s.map lo) = C at *
  simp (disch := first | omega | (simp only [ds] <;> omega) | fail) only [ws, undefM, Nat.reduceLT, Nat.reduceAdd, Nat.reduceMul, Nat.reduceSub, Nat.reduceBEq, Nat.reduceEqDiff, Int.reduceToNat, reduceIte, tsI]
  refine WC.loopK tabOk [3, 14] [12, 13] (fun x : Nat × MV => [x.2, mi x.1]) (fun x O' => x.1 ≤ C.length ∧ O.Ge O' ∧ GR O' 28 3 O.next x.2 x.1 (((C.take x.1).map mkV).flatMap prM)) (fun x => C.length - x.1) ((0, .sl 0 [] .nil)) rfl rfl ?_ ?_
  · exact ⟨Nat.zero_le _, hge, .inl ⟨rfl, rfl, .inl rfl⟩⟩
  rintro ⟨j, m⟩ O3 ⟨hj, hge3, hgr⟩
  dsimp only at hj hge3 hgr
  by_cases h2 : j < C.length
  · have hpt := pc_at C j h2
    have hpx := hct C[j] (List.getElem_mem h2)
    have hmx : mkV C[j] = (C[j].2.1, C[j].1.all isD, if C[j].1.all isD then C[j].1.dropWhile (· == 48) else wordF C[j].1 C[j].2.2) := rfl
    rcases hpc : C[j] with ⟨tx, hy, cl⟩
    rw [hpc] at hpt hpx hmx
    simp only [pcM, mb_def] at hpt
    dsimp only at hpx hmx
    simp (disch := first | omega | (simp only [ds] <;> omega) | fail) only [ws, undefM, Nat.reduceLT, Nat.reduceAdd, Nat.reduceMul, Nat.reduceSub, Nat.reduceBEq, Nat.reduceEqDiff, Int.reduceToNat, reduceIte, tsI, hpt]
    refine CallW.rt (isNumber_v tx _ (by simp only [maxLen]; omega)) (by kernel_rfl) rfl rfl ?_
    rintro _ O4 ⟨rfl, hg4⟩
    have h6 := hg4.hp O3.next (by simp only [ds]; omega)
    have h7 := hg4.hp (O3.next + 1) (by simp only [ds]; omega)
    simp (disch := first | omega | (simp only [ds] <;> omega) | fail) only [ws, undefM, Nat.reduceLT, Nat.reduceAdd, Nat.reduceMul, Nat.reduceSub, Nat.reduceBEq, Nat.reduceEqDiff, Int.reduceToNat, reduceIte] at h6 h7
    have hu4 : Upd O3 none O4 := Upd.ofGe ((((((VH.Ge.refl O3).push _).set (Nat.le_refl _) _).push _).set (Nat.le_succ _) _).trans hg4)
    have hn4 : O3.next + 2 ≤ O4.next := by have := hg4.next; simp only [ds] at this; omega
    clear hg4
    have fin : ∀ O5 : VH, Upd O3 none O5 → ∀ O6 m6, GR O6 28 3 O.next m6 (j + 1) (((C.take j).map mkV).flatMap prM ++ prM (mkV C[j])) → Upd O5 (gid m) O6 → (gid m = none → O5.Ge O6) → (j + 1 ≤ C.length ∧ O.Ge O6 ∧ GR O6 28 3 O.next m6 (j + 1) (((C.take (j + 1)).map mkV).flatMap prM)) := fun O5 hu5 O6 m6 hg6 hu6 hge6 => by
      refine ⟨by omega, ?_, ?_⟩
      · have h53 : O.Ge O5 := hu5.geN hge3
        rcases hgr with ⟨_, _, rfl | rfl⟩ | ⟨k, c, rfl, _, _, hr⟩
        · exact h53.trans (hge6 rfl)
        · exact h53.trans (hge6 rfl)
        · exact hu6.ge h53 hr.lo
      · rw [take_snoc _ _ h2, List.map_append, List.flatMap_append]
        simpa using hg6
    rw [hpc] at fin
    cases hd : tx.all isD
    · rw [hmx, hd] at fin
      simp only [Bool.false_eq_true, if_false] at fin
      simp (disch := first | omega | (simp only [ds] <;> omega) | fail) only [ws, undefM, Nat.reduceLT, Nat.reduceAdd, Nat.reduceMul, Nat.reduceSub, Nat.reduceBEq, Nat.reduceEqDiff, Int.reduceToNat, reduceIte, tsI, h6, h7]
      refine CallW.rt (word_v tx cl _) (by kernel_rfl) rfl rfl ?_
      rintro _ O5 ⟨rfl, rfl⟩
      simp (disch := first | omega | (simp only [ds] <;> omega) | fail) only [ws, undefM, Nat.reduceLT, Nat.reduceAdd, Nat.reduceMul, Nat.reduceSub, Nat.reduceBEq, Nat.reduceEqDiff, Int.reduceToNat, reduceIte, tsI, h6, h7]
      have hu5 := hu4.new (Upd.set (q := O3.next + 1) (x := .cells [.v (.bool hy), .v (.bool false), .str (wordF tx cl)])) (Nat.le_succ _)
      have hB5 : O.next ≤ O5.next := Nat.le_trans hge3.next (by omega)
      refine VL.grow tabOk (.inl rfl) (te := ⟨_, 3, 24, _⟩) (dx := .slice 28) (q := .sl 1 (prM (hy, false, wordF tx cl)) .full) (j := 1) (ds := prM (hy, false, wordF tx cl)) (hgr.keepN hu5) rfl rfl (by rw [ty23]; rfl) ty28 (by rw [ty23]; rfl) trivial (by dsimp only; omega) (by simp only [maxLen]; omega) hB5 rfl rfl rfl rfl ?_
      intro m6 O6 hg6 hu6 hge6 hnew
      simp (disch := first | omega | (simp only [ds] <;> omega) | fail) only [ws, undefM, Nat.reduceLT, Nat.reduceAdd, Nat.reduceMul, Nat.reduceSub, Nat.reduceBEq, Nat.reduceEqDiff, Int.reduceToNat, reduceIte, tsI]
      refine RoundQ.next (j + 1, m6) rfl rfl (fin _ hu5 _ _ hg6 hu6 hge6) (by dsimp only; omega)
    · rw [hmx, hd] at fin
      simp only [if_true] at fin
      simp (disch := first | omega | (simp only [ds] <;> omega) | fail) only [ws, undefM, Nat.reduceLT, Nat.reduceAdd, Nat.reduceMul, Nat.reduceSub, Nat.reduceBEq, Nat.reduceEqDiff, Int.reduceToNat, reduceIte, tsI, h6, h7]
      refine CallW.rt (TrimLeft0_v tx _) (by kernel_rfl) rfl rfl ?_
      rintro _ O5 ⟨rfl, rfl⟩
      simp (disch := first | omega | (simp only [ds] <;> omega) | fail) only [ws, undefM, Nat.reduceLT, Nat.reduceAdd, Nat.reduceMul, Nat.reduceSub, Nat.reduceBEq, Nat.reduceEqDiff, Int.reduceToNat, reduceIte, tsI, h6, h7]
      have hu5 := (hu4.new (Upd.set (q := O3.next + 1) (x := .cells [.v (.bool hy), .v (.bool true), .str []])) (Nat.le_succ _)).new (Upd.set (q := O3.next + 1) (x := .cells [.v (.bool hy), .v (.bool true), .str (tx.dropWhile (· == 48))])) (Nat.le_succ _)
      have hB5 : O.next ≤ O5.next := Nat.le_trans hge3.next (by omega)
      refine VL.grow tabOk (.inl rfl) (te := ⟨_, 3, 24, _⟩) (dx := .slice 28) (q := .sl 1 (prM (hy, true, tx.dropWhile (· == 48))) .full) (j := 1) (ds := prM (hy, true, tx.dropWhile (· == 48))) (hgr.keepN hu5) rfl rfl (by rw [ty23]; rfl) ty28 (by rw [ty23]; rfl) trivial (by dsimp only; omega) (by simp only [maxLen]; omega) hB5 rfl rfl rfl rfl ?_
      intro m6 O6 hg6 hu6 hge6 hnew
      simp (disch := first | omega | (simp only [ds] <;> omega) | fail) only [ws, undefM, Nat.reduceLT, Nat.reduceAdd, Nat.reduceMul, Nat.reduceSub, Nat.reduceBEq, Nat.reduceEqDiff, Int.reduceToNat, reduceIte, tsI]
      refine RoundQ.next (j + 1, m6) rfl rfl (fin _ hu5 _ _ hg6 hu6 hge6) (by dsimp only; omega)
  · have hjl : j = C.length := by omega
    subst hjl
    rcases hgr with ⟨e1, _⟩ | ⟨k, c, rfl, hnc, hLl, hrow⟩
    · exact absurd (List.eq_nil_of_length_eq_zero e1) hne
    obtain ⟨p, C', rfl⟩ : ∃ p C', C = p :: C' := by cases C with
      | nil => exact absurd rfl hne
      | cons p C' => exact ⟨p, C', rfl⟩
    rw [List.take_length] at hrow hLl
    obtain ⟨sp, h1, h2⟩ := hrow.cells
    have hrow2 : Row (O3.set k (.cells (((false, (mkV p).2) :: C'.map mkV).flatMap prM ++ sp))) 28 3 O.next k c (((false, (mkV p).2) :: C'.map mkV).flatMap prM) := hrow.turn (by rw [← h2, List.length_append, List.length_append, pr_len, pr_len]; simp)
    simp only [List.map_cons, List.flatMap_cons, prM, mb_def, List.cons_append, List.nil_append] at h1 hrow2
    have hC' : C'.length ≤ 10001 := by rw [List.length_cons] at hcl; omega
    simp (disch := first | omega | (simp only [ds] <;> omega) | fail) only [ws, undefM, Nat.reduceLT, Nat.reduceAdd, Nat.reduceMul, Nat.reduceSub, Nat.reduceBEq, Nat.reduceEqDiff, Int.reduceToNat, reduceIte, tsI, h1, List.length_cons]
    generalize hO : O3.set k _ = O4
    have hO' : O4 = O3.set k (.cells (.v (.bool false) :: .v (.bool (mkV p).2.1) :: .str (mkV p).2.2 :: ((C'.map mkV).flatMap prM ++ sp))) := by rw [← hO]
    rw [← hO'] at hrow2
    have hge4 : O.Ge O4 := by rw [hO']; exact hge3.set hrow.lo _
    have hfl : firstF (mkV p :: C'.map mkV) = (false, (mkV p).2) :: C'.map mkV := rfl
    simp only [hfl, tailT_eq]
    have hrow4 : PRow O4 O.next k c (((false, (mkV p).2) :: C'.map mkV)) := hrow2
    have hLlen : ((false, (mkV p).2) :: C'.map mkV).length = C'.length + 1 := by simp
    generalize (false, (mkV p).2) :: C'.map mkV = L at hrow4 hLlen
    have hlast : trimS L C'.length = L := by have := trimS_last L (by intro e; rw [e] at hLlen; simp at hLlen); rwa [hLlen] at this
    refine WC.loopK tabOk [3, 8] [] (fun i : Nat => [.asl k 0 (trimS L i).length c, mi i]) (fun i O' => i < L.length ∧ O.Ge O' ∧ PRow O' O.next k c (trimS L i) ∧ (trimS L i).length ≤ c) (fun i => i) C'.length (by rw [hlast, hLlen]; rfl) rfl ?_ ?_
    · exact ⟨by omega, hge4, by rw [hlast]; exact hrow4, by rw [hlast, hLlen]; simpa using hnc⟩
    clear hge4 hrow4 hrow2 hO hO' hrow h1 h2
    rintro i O5 ⟨hi, hge5, hr5, hc5⟩
    rcases Nat.eq_zero_or_pos i with rfl | hi0
    · simp (disch := first | omega | (simp only [ds] <;> omega) | fail) only [ws, undefM, Nat.reduceLT, Nat.reduceAdd, Nat.reduceMul, Nat.reduceSub, Nat.reduceBEq, Nat.reduceEqDiff, Int.reduceToNat, reduceIte, tsI]
      exact ⟨k, c, rfl, hc5, hr5, hge5⟩
    · obtain ⟨i, rfl⟩ : ∃ i', i = i' + 1 := ⟨i - 1, by omega⟩
      have hat := trimS_at hi
      have hprev := trimS_prev hi
      have hlt : (L.take (i + 1)).length = i + 1 := by rw [List.length_take]; omega
      obtain ⟨sp, g1, g2⟩ := hr5.cells
      generalize hX : trimS L (i + 1) = X at *
      generalize hT : trimT (L.drop (i + 1 + 1)) = T at *
      have hXl : X.length = i + 1 + 1 + T.length := by rw [hat, List.length_append, hlt, List.length_cons]; omega
      have hTl : T.length ≤ 10001 := by rw [← hT]; have := trimT_len (L.drop (i + 1 + 1)); rw [List.length_drop] at this; omega
      have hiX : i + 1 < X.length := by omega
      have hXi : X[i + 1] = L[i + 1] := by
        simp only [hat]
        rw [List.getElem_append_right (by omega)]; simp [hlt]
      have hdel : X.take (i + 1) ++ X.drop (i + 1 + 1) = L.take (i + 1) ++ T := by
        rw [hat, List.take_append_of_le_length (by omega), List.take_of_length_le (by omega), List.drop_append, hlt, List.drop_of_length_le (l := L.take (i + 1)) (by omega)]
        simp
      have hl := pr_at2 X sp (i + 1) hiX
      have hxl : (X.flatMap prM ++ sp).length = X.length * 3 + sp.length := by rw [List.length_append, pr_len]
      rw [hXi] at hl
      generalize hp : L[i + 1] = p at *
      simp (disch := first | omega | (simp only [ds] <;> omega) | fail) only [ws, undefM, Nat.reduceLT, Nat.reduceAdd, Nat.reduceMul, Nat.reduceSub, Nat.reduceBEq, Nat.reduceEqDiff, Int.reduceToNat, reduceIte, tsI, g1, hl]
      refine CallW.rt (isNull_v p _) (by kernel_rfl) rfl rfl ?_
      rintro _ O6 ⟨rfl, hg6⟩
      have h6 := (hg6.hp k hr5.hi).trans g1
      cases hnull : p.2.2 == []
      · rw [hnull] at hprev
        have hsame : trimS L i = X := by rw [hprev, hat]; simp
        simp (disch := first | omega | (simp only [ds] <;> omega) | fail) only [ws, undefM, Nat.reduceLT, Nat.reduceAdd, Nat.reduceMul, Nat.reduceSub, Nat.reduceBEq, Nat.reduceEqDiff, Int.reduceToNat, reduceIte, tsI]
        refine RoundQ.next i rfl (by rw [hsame]; rfl) ⟨by omega, hge5.trans hg6, by rw [hsame]; exact hr5.keepN (Upd.ofGe hg6), by rw [hsame]; exact hc5⟩ (by omega)
      · rw [hnull] at hprev
        cases T with
        | nil =>
          simp only [List.length_nil, Nat.add_zero] at hXl
          have hd : trimS L i = L.take (i + 1) ++ [] := by rw [hprev]; simp
          have hlen1 : X.length - 1 = (trimS L i).length := by rw [hd, List.append_nil, hlt, hXl]; omega
          rw [← hd] at hdel
          simp (disch := first | omega | (simp only [ds] <;> omega) | fail) only [ws, undefM, Nat.reduceLT, Nat.reduceAdd, Nat.reduceMul, Nat.reduceSub, Nat.reduceBEq, Nat.reduceEqDiff, Int.reduceToNat, reduceIte, tsI, h6]
          refine CallW.rt (Delete_v (i + 1) (hr5.keepN (Upd.ofGe hg6)) hiX hc5 (by omega)) (by kernel_rfl) rfl rfl ?_
          rintro _ O7 ⟨rfl, hr7, hu7⟩
          simp (disch := first | omega | (simp only [ds] <;> omega) | fail) only [ws, undefM, Nat.reduceLT, Nat.reduceAdd, Nat.reduceMul, Nat.reduceSub, Nat.reduceBEq, Nat.reduceEqDiff, Int.reduceToNat, reduceIte, tsI]
          refine RoundQ.next i rfl (by simp only [looks_cons, looks_nil, look_cons, Nat.reduceBEq, cond_true, cond_false, Option.bind_some, Option.map_some]; rw [hlen1]) ⟨by omega, Upd.ge (hge5.trans hg6) hu7 hr5.lo, by rw [hdel] at hr7; exact hr7, by omega⟩ (by omega)
        | cons q T' =>
          simp only [List.length_cons] at hXl hTl
          have hXq : (X.flatMap prM ++ sp)[(i + 1 + 1) * 3]? = some (mb q.1) := by
            have := pr_cell X sp (i + 1 + 1) 0 (by omega) (by omega)
            rw [Nat.add_zero] at this
            rw [this]
            have : X[i + 1 + 1]'(by omega) = q := by
              simp only [hat]
              rw [List.getElem_append_right (by omega)]; simp [hlt]
            rw [this]; rfl
          cases hq : q.1
          · have hsame : trimS L i = X := by rw [hprev, hat]; simp [hq]
            have hg := hXq
            rw [hq] at hg
            simp (disch := first | omega | (simp only [ds] <;> omega) | fail) only [ws, undefM, Nat.reduceLT, Nat.reduceAdd, Nat.reduceMul, Nat.reduceSub, Nat.reduceBEq, Nat.reduceEqDiff, Int.reduceToNat, reduceIte, tsI, h6, hg]
            refine RoundQ.next i rfl (by rw [hsame]; rfl) ⟨by omega, hge5.trans hg6, by rw [hsame]; exact hr5.keepN (Upd.ofGe hg6), by rw [hsame]; exact hc5⟩ (by omega)
          · have hd : trimS L i = L.take (i + 1) ++ q :: T' := by rw [hprev]; simp [hq]
            have hlen1 : X.length - 1 = (trimS L i).length := by rw [hd, List.length_append, hlt, hXl, List.length_cons]; omega
            rw [← hd] at hdel
            rw [hq] at hXq
            simp (disch := first | omega | (simp only [ds] <;> omega) | fail) only [ws, undefM, Nat.reduceLT, Nat.reduceAdd, Nat.reduceMul, Nat.reduceSub, Nat.reduceBEq, Nat.reduceEqDiff, Int.reduceToNat, reduceIte, tsI, h6, hXq]
            refine CallW.rt (Delete_v (i + 1) (hr5.keepN (Upd.ofGe hg6)) hiX hc5 (by omega)) (by kernel_rfl) rfl rfl ?_
            rintro _ O7 ⟨rfl, hr7, hu7⟩
            simp (disch := first | omega | (simp only [ds] <;> omega) | fail) only [ws, undefM, Nat.reduceLT, Nat.reduceAdd, Nat.reduceMul, Nat.reduceSub, Nat.reduceBEq, Nat.reduceEqDiff, Int.reduceToNat, reduceIte, tsI]
            refine RoundQ.next i rfl (by simp only [looks_cons, looks_nil, look_cons, Nat.reduceBEq, cond_true, cond_false, Option.bind_some, Option.map_some]; rw [hlen1]) ⟨by omega, Upd.ge (hge5.trans hg6) hu7 hr5.lo, by rw [hdel] at hr7; exact hr7, by omega⟩ (by omega)
end Go.Proofs.YtjbpnhmjnkolbaaDoor

/-
  version.Parts as a row for good; version.Compare, version.Canon, walked.
-/
set_option linter.unusedVariables false
set_option linter.unusedSimpArgs false
namespace Go.Proofs.YtjbpnhmjnkolbaaDoor
open Go.RowKit
set_option maxRecDepth 10000
set_option linter.defProp false in
def tsK := And.intro T9 <| And.intro T3 <| And.intro T4 <| And.intro T23 <| And.intro T28 <| And.intro T58 T60

/-- version.Parts -/
theorem Parts_v (s : List UInt8) (O : VH) (hs : s.length ≤ 10000) : VF Tryd.prog 13 [.str s] O (Ret fun m O' => ∃ tk, m = .sl (partsV s).length ((partsV s).flatMap prM) tk ∧ O.Ge O') := by
  refine (Parts_w s O hs).frozen ?_
  rintro m O' ⟨k, c, rfl, h1, h2, h3⟩
  obtain ⟨sp, h4⟩ := h2.cells_eq
  refine ⟨k, 0, _, c, (partsV s).length * 3, _, rfl, h4, by rw [List.length_append, pr_len]; omega, (if c = (partsV s).length then .full else .unk), ?_, h3.kill h2.lo⟩
  rw [List.drop_zero, List.take_append_of_le_length (by rw [pr_len]; exact Nat.le_refl _), List.take_of_length_le (by rw [pr_len]; exact Nat.le_refl _)]
theorem partsV_len (s : List UInt8) : (partsV s).length ≤ s.length + 1 := by
  have h1 := cutF_len (s.map lo)
  rw [List.length_map] at h1
  unfold partsV
  cases hc : (cutF (s.map lo)).map mkV with
  | nil => simp [firstF, tailT]
  | cons p r =>
    have : (cutF (s.map lo)).length = r.length + 1 := by rw [← List.length_map (f := mkV), hc]; rfl
    have h2 := trimT_len r
    simp only [firstF, tailT, List.length_cons]
    omega
theorem wordF_len (s : List UInt8) (b : Bool) : (wordF s b).length ≤ s.length + 9 := by
  unfold wordF
  repeat' split
  all_goals simp
  all_goals omega
theorem trimT_mem (L : List Prt) : ∀ p ∈ trimT L, p ∈ L := by
  induction L with
  | nil => intro p h; exact h
  | cons q r ih =>
    intro p h
    rw [trimT] at h
    generalize (q.2.2 == [] && _) = b at h
    cases b
    · simp only [Bool.false_eq_true, if_false, List.mem_cons] at h
      rcases h with rfl | h
      · simp
      · exact List.mem_cons_of_mem _ (ih p h)
    · simp only [if_true] at h
      exact List.mem_cons_of_mem _ (ih p h)
theorem partsV_text (s : List UInt8) : ∀ p ∈ partsV s, p.2.2.length ≤ s.length + 9 := by
  have key : ∀ p ∈ (cutF (s.map lo)).map mkV, p.2.2.length ≤ s.length + 9 := by
    intro p hp
    obtain ⟨q, hq, rfl⟩ := List.mem_map.1 hp
    have h1 := cutF_text (s.map lo) q hq
    rw [List.length_map] at h1
    simp only [mkV]
    split
    · have := (List.dropWhile_sublist (l := q.1) (· == 48)).length_le; omega
    · have := wordF_len q.1 q.2.2; omega
  unfold partsV
  cases hc : (cutF (s.map lo)).map mkV with
  | nil => intro p hp; cases hp
  | cons q r =>
    rw [hc] at key
    intro p hp
    simp only [firstF, tailT, List.mem_cons] at hp
    rcases hp with rfl | hp
    · exact key q (by simp)
    · exact key p (List.mem_cons_of_mem _ (trimT_mem r p hp))
def nullP : Prt := (false, true, [])
def cmpFrom (l m : List Prt) : Nat → Nat → Int
  | 0, _ => 0
  | k + 1, i => if cmpV (l.getD i nullP) (m.getD i nullP) ≠ 0 then cmpV (l.getD i nullP) (m.getD i nullP) else cmpFrom l m k (i + 1)
def compareV (a b : List UInt8) : Int := cmpFrom (partsV a) (partsV b) (max (partsV a).length (partsV b).length) 0
theorem getD_text {L : List Prt} {n : Nat} (h : ∀ p ∈ L, p.2.2.length ≤ n) (i : Nat) : (L.getD i nullP).2.2.length ≤ n := by
  rw [List.getD_eq_getElem?_getD]
  cases hi : L[i]? with
  | none => simp [nullP]
  | some p => exact h p (List.mem_of_getElem? hi)
/-- version.Compare -/
theorem Compare_v (a b : List UInt8) (O : VH) (ha : a.length ≤ 10000) (hb : b.length ≤ 10000) : VF Tryd.prog 18 [.str a, .str b] O (Ret fun m O' => m = mi (compareV a b) ∧ O.Ge O') := by
  have la := partsV_len a
  have lb := partsV_len b
  have ta := fun i => getD_text (partsV_text a) i
  have tb := fun i => getD_text (partsV_text b) i
  unfold compareV
  refine VF.ofW (n := ⟨32, 0⟩) (rs := [.tmp 4]) tabOk Tryd.func18 rfl rfl rfl (Nat.le_of_ble_eq_true rfl) ?_
  simp only [argEnv, Nat.zero_add, Nat.reduceAdd]
  simp (disch := first | omega | (simp only [ds] <;> omega) | fail) only [ws, undefM, Nat.reduceLT, Nat.reduceAdd, Nat.reduceMul, Nat.reduceSub, Nat.reduceBEq, Nat.reduceEqDiff, Int.reduceToNat, reduceIte, tsK]
  refine CallW.rt (Parts_v a _ ha) (by kernel_rfl) rfl rfl ?_
  rintro _ O1 ⟨tk1, rfl, hg1⟩
  simp (disch := first | omega | (simp only [ds] <;> omega) | fail) only [ws, undefM, Nat.reduceLT, Nat.reduceAdd, Nat.reduceMul, Nat.reduceSub, Nat.reduceBEq, Nat.reduceEqDiff, Int.reduceToNat, reduceIte, tsK]
  refine CallW.rt (Parts_v b _ hb) (by kernel_rfl) rfl rfl ?_
  rintro _ O2 ⟨tk2, rfl, hg2⟩
  have hge := hg1.trans hg2
  generalize partsV a = L at *
  generalize partsV b = M at *
  simp (disch := first | omega | (simp only [ds] <;> omega) | fail) only [ws, undefM, Nat.reduceLT, Nat.reduceAdd, Nat.reduceMul, Nat.reduceSub, Nat.reduceBEq, Nat.reduceEqDiff, Int.reduceToNat, reduceIte, tsK]
  generalize hN : max L.length M.length = N
  have hmx : max (L.length : Int) (M.length : Int) = (N : Int) := by omega
  rw [hmx]
  refine WC.loopK tabOk [18] [5, 6, 17] (fun i : Nat => [mi i]) (fun i O' => i ≤ N ∧ O.Ge O' ∧ cmpFrom L M N 0 = cmpFrom L M (N - i) i) (fun i => N - i) (0) rfl rfl ?_ ?_
  · exact ⟨Nat.zero_le _, hge, rfl⟩
  rintro i O3 ⟨hi, hge3, hc⟩
  rw [hc]
  by_cases h2 : i < N
  · have hs : cmpFrom L M (N - i) i = if cmpV (L.getD i nullP) (M.getD i nullP) ≠ 0 then cmpV (L.getD i nullP) (M.getD i nullP) else cmpFrom L M (N - (i + 1)) (i + 1) := by
      rw [show N - i = (N - (i + 1)) + 1 from by omega]; rfl
    rw [hs]
    simp (disch := first | omega | (simp only [ds] <;> omega) | fail) only [ws, undefM, Nat.reduceLT, Nat.reduceAdd, Nat.reduceMul, Nat.reduceSub, Nat.reduceBEq, Nat.reduceEqDiff, Int.reduceToNat, reduceIte, tsK]
    refine CallW.rt (at_v L tk1 i _ (by simp only [maxLen]; omega)) (by kernel_rfl) rfl rfl ?_
    rintro _ O4 ⟨rfl, hg4⟩
    simp (disch := first | omega | (simp only [ds] <;> omega) | fail) only [ws, undefM, Nat.reduceLT, Nat.reduceAdd, Nat.reduceMul, Nat.reduceSub, Nat.reduceBEq, Nat.reduceEqDiff, Int.reduceToNat, reduceIte, tsK]
    refine CallW.rt (at_v M tk2 i _ (by simp only [maxLen]; omega)) (by kernel_rfl) rfl rfl ?_
    rintro _ O5 ⟨rfl, hg5⟩
    simp (disch := first | omega | (simp only [ds] <;> omega) | fail) only [ws, undefM, Nat.reduceLT, Nat.reduceAdd, Nat.reduceMul, Nat.reduceSub, Nat.reduceBEq, Nat.reduceEqDiff, Int.reduceToNat, reduceIte, tsK]
    refine CallW.rt (compare_v (L.getD i nullP) (M.getD i nullP) _ (by have := ta i; simp only [maxLen]; omega) (by have := tb i; simp only [maxLen]; omega)) (by kernel_rfl) rfl rfl ?_
    rintro _ O6 ⟨rfl, hg6⟩
    have hge6 := ((hge3.trans hg4).trans hg5).trans hg6
    by_cases h0 : cmpV (L.getD i nullP) (M.getD i nullP) = 0
    · rw [if_neg (by simpa using h0)]
      simp (disch := first | omega | (simp only [ds] <;> omega) | fail) only [ws, undefM, Nat.reduceLT, Nat.reduceAdd, Nat.reduceMul, Nat.reduceSub, Nat.reduceBEq, Nat.reduceEqDiff, Int.reduceToNat, reduceIte, tsK]
      refine RoundQ.next (i + 1) rfl rfl ?_ (by first | omega | (dsimp only; omega))
      exact ⟨by omega, hge6, rfl⟩
    · rw [if_pos h0]
      simp (disch := first | omega | (simp only [ds] <;> omega) | fail) only [ws, undefM, Nat.reduceLT, Nat.reduceAdd, Nat.reduceMul, Nat.reduceSub, Nat.reduceBEq, Nat.reduceEqDiff, Int.reduceToNat, reduceIte, tsK]
      exact hge6
  · have : N - i = 0 := by omega
    rw [this]
    simp (disch := first | omega | (simp only [ds] <;> omega) | fail) only [ws, undefM, Nat.reduceLT, Nat.reduceAdd, Nat.reduceMul, Nat.reduceSub, Nat.reduceBEq, Nat.reduceEqDiff, Int.reduceToNat, reduceIte, tsK, cmpFrom]
    exact hge3
/-- A part's text. -/
def pieceC (i : Nat) (p : Prt) : List UInt8 := (if i = 0 then [] else if p.1 then [45] else [46]) ++ ((if p.2.1 && p.2.2 == [] then [48] else []) ++ p.2.2)
def canonN (L : List Prt) : Nat → List UInt8
  | 0 => []
  | j + 1 => canonN L j ++ pieceC j (L.getD j nullP)
def canonV (s : List UInt8) : List UInt8 := canonN (partsV s) (partsV s).length
theorem canonN_len (L : List Prt) (n : Nat) (h : ∀ p ∈ L, p.2.2.length ≤ n) (j : Nat) : (canonN L j).length ≤ j * (n + 2) := by
  induction j with
  | zero => simp [canonN]
  | succ j ih =>
    have h1 := getD_text h j
    have h2 : (pieceC j (L.getD j nullP)).length ≤ n + 2 := by
      unfold pieceC
      simp only [List.length_append]
      have e1 : (if j = 0 then [] else if (L.getD j nullP).1 then [45] else [46] : List UInt8).length ≤ 1 := by split <;> simp; split <;> simp
      have e2 : (if (L.getD j nullP).2.1 && (L.getD j nullP).2.2 == [] then [48] else [] : List UInt8).length ≤ 1 := by split <;> simp
      omega
    rw [canonN, List.length_append, Nat.succ_mul]
    omega
/-- version.Canon -/
theorem Canon_v (s : List UInt8) (O : VH) (hs : s.length ≤ 10000) : VF Tryd.prog 15 [.str s] O (Ret fun m O' => m = .str (canonV s) ∧ O.Ge O') := by
  have hl := partsV_len s
  have ht := partsV_text s
  unfold canonV
  have hB0 := Bld.fresh O (B := O.next) (Nat.le_refl _)
  have hge0 := ((VH.Ge.refl O).push (.cells [.v (.pointer none), .sl 0 [] .nil])).push (.shape O.next 60 2)
  refine VF.ofW (n := ⟨35, 0⟩) (rs := [.tmp 2]) tabOk Tryd.func15 rfl rfl rfl (Nat.le_of_ble_eq_true rfl) ?_
  simp only [argEnv, Nat.zero_add, Nat.reduceAdd]
  simp (disch := first | omega | (simp only [ds] <;> omega) | fail) only [ws, undefM, Nat.reduceLT, Nat.reduceAdd, Nat.reduceMul, Nat.reduceSub, Nat.reduceBEq, Nat.reduceEqDiff, Int.reduceToNat, reduceIte, tsK]
  refine CallW.rt (Parts_v s _ hs) (by kernel_rfl) rfl rfl ?_
  rintro _ O1 ⟨tk, rfl, hg1⟩
  have hB1 := hB0.keepN (Upd.ofGe hg1)
  have hge1 := hge0.trans hg1
  clear hB0 hge0 hg1
  generalize partsV s = L at *
  have hcl := canonN_len L _ ht
  simp (disch := first | omega | (simp only [ds] <;> omega) | fail) only [ws, undefM, Nat.reduceLT, Nat.reduceAdd, Nat.reduceMul, Nat.reduceSub, Nat.reduceBEq, Nat.reduceEqDiff, Int.reduceToNat, reduceIte, tsK]
  refine WC.loopK tabOk [9] [3, 7, 8] (fun j : Nat => [mi j]) (fun j O' => j ≤ L.length ∧ O.Ge O' ∧ ∃ q, Bld O' O.next O.next q (canonN L j)) (fun j => L.length - j) (0) rfl rfl ?_ ?_
  · exact ⟨Nat.zero_le _, hge1, none, hB1⟩
  clear hB1 hge1
  rintro j O2 ⟨hj, hge2, q, hB2⟩
  have hcj := hcl j
  have hj2 : j * (s.length + 9 + 2) ≤ 10001 * 10011 := Nat.mul_le_mul (by omega) (by omega)
  by_cases h2 : j < L.length
  · have hat := pr_at L j h2
    have hg : L.getD j nullP = L[j] := by rw [List.getD_eq_getElem?_getD, List.getElem?_eq_getElem h2]; rfl
    have htx := ht L[j] (List.getElem_mem h2)
    have hnx : canonN L (j + 1) = canonN L j ++ pieceC j L[j] := by rw [canonN, hg]
    have hpl := pr_len L
    rcases hpc : L[j] with ⟨hy, nb, tx⟩
    rw [hpc] at hat hnx htx
    simp only [prM, mb_def] at hat
    dsimp only at htx
    have hu := (hB2.keepN (Upd.push (x := .cells [.v (.bool false), .v (.bool false), .str []]))).set (x := .cells [.v (.bool hy), .v (.bool nb), .str tx]) (VH.push_new _ _) (by have := hB2.hi; omega) (hB2.q_lt _ (Nat.le_refl _))
    have hge3 := (hge2.push (.cells [.v (.bool false), .v (.bool false), .str []])).set hge2.next (.cells [.v (.bool hy), .v (.bool nb), .str tx])
    have hq := hB2.q_lt
    have hqo := hB2.q_lo
    have stW : ∀ {Oc : VH} {qc : Option Nat} {t : List UInt8} (hS : Bld Oc O.next O.next qc t ∧ qc ≠ some O2.next ∧ Oc.hp O2.next = some (.cells [.v (.bool hy), .v (.bool nb), .str tx]) ∧ O.Ge Oc ∧ O2.next < Oc.next) {O' : VH} {q' : Option Nat} {t' : List UInt8}, Bld O' O.next O.next q' t' → BUpd Oc O.next qc O' q' →
        Bld O' O.next O.next q' t' ∧ q' ≠ some O2.next ∧ O'.hp O2.next = some (.cells [.v (.bool hy), .v (.bool nb), .str tx]) ∧ O.Ge O' ∧ O2.next < O'.next := by
      intro Oc qc t hS O' q' t' hB hu
      obtain ⟨s1, s2, s3, s4, s5⟩ := hS
      have hlt := hB2.hi
      exact ⟨hB, hu.new _ s5 s2, (hu.hp _ s5 (by omega) s2).trans s3, hu.ge s4 (Nat.le_refl _) (fun i hi => s1.q_lo i hi), Nat.lt_of_lt_of_le s5 hu.next⟩
    have hS2 : Bld ((O2.push (.cells [.v (.bool false), .v (.bool false), .str []])).set O2.next (.cells [.v (.bool hy), .v (.bool nb), .str tx])) O.next O.next q (canonN L j) ∧ q ≠ some O2.next ∧ ((O2.push (.cells [.v (.bool false), .v (.bool false), .str []])).set O2.next (.cells [.v (.bool hy), .v (.bool nb), .str tx])).hp O2.next = some (.cells [.v (.bool hy), .v (.bool nb), .str tx]) ∧ O.Ge ((O2.push (.cells [.v (.bool false), .v (.bool false), .str []])).set O2.next (.cells [.v (.bool hy), .v (.bool nb), .str tx])) ∧ O2.next < ((O2.push (.cells [.v (.bool false), .v (.bool false), .str []])).set O2.next (.cells [.v (.bool hy), .v (.bool nb), .str tx])).next :=
      ⟨hu, hq _ (Nat.le_refl _), VH.set_get _ _ _, hge3, Nat.lt_succ_self _⟩
    by_cases hj0 : j = 0
    · simp (disch := first | omega | (simp only [ds] <;> omega) | fail) only [ws, undefM, Nat.reduceLT, Nat.reduceAdd, Nat.reduceMul, Nat.reduceSub, Nat.reduceBEq, Nat.reduceEqDiff, Int.reduceToNat, reduceIte, tsK, hat]
      generalize (O2.push (.cells [.v (.bool false), .v (.bool false), .str []])).set O2.next (.cells [.v (.bool hy), .v (.bool nb), .str tx]) = Oc at *
      have hqlo := fun i (hi : _ = some i) => hS2.1.q_lo i hi
      have h5 := hS2.2.2.1
      cases nb
      · simp (disch := first | omega | (simp only [ds] <;> omega) | fail) only [ws, undefM, Nat.reduceLT, Nat.reduceAdd, Nat.reduceMul, Nat.reduceSub, Nat.reduceBEq, Nat.reduceEqDiff, Int.reduceToNat, reduceIte, tsK, h5]
        refine CallW.rt (WriteString_v tx hS2.1 (by first | omega | (simp only [List.length_append, List.length_cons, List.length_nil]; omega))) (by kernel_rfl) rfl rfl ?_
        rintro _ O9 ⟨rfl, q9, hB9, hu9⟩
        simp (disch := first | omega | (simp only [ds] <;> omega) | fail) only [ws, undefM, Nat.reduceLT, Nat.reduceAdd, Nat.reduceMul, Nat.reduceSub, Nat.reduceBEq, Nat.reduceEqDiff, Int.reduceToNat, reduceIte, tsK]
        refine RoundQ.next (j + 1) rfl rfl ⟨by omega, hu9.ge hS2.2.2.2.1 (Nat.le_refl _) hqlo, q9, ?_⟩ (by omega)
        have e : canonN L (j + 1) = (canonN L j) ++ tx := by rw [hnx]; simp [pieceC, hj0]
        rw [e]; exact hB9
      · cases he : tx == []
        · have he' : tx ≠ [] := by simpa using he
          simp (disch := first | omega | (simp only [ds] <;> omega) | fail) only [ws, undefM, Nat.reduceLT, Nat.reduceAdd, Nat.reduceMul, Nat.reduceSub, Nat.reduceBEq, Nat.reduceEqDiff, Int.reduceToNat, reduceIte, tsK, h5, he]
          refine CallW.rt (WriteString_v tx hS2.1 (by first | omega | (simp only [List.length_append, List.length_cons, List.length_nil]; omega))) (by kernel_rfl) rfl rfl ?_
          rintro _ O9 ⟨rfl, q9, hB9, hu9⟩
          simp (disch := first | omega | (simp only [ds] <;> omega) | fail) only [ws, undefM, Nat.reduceLT, Nat.reduceAdd, Nat.reduceMul, Nat.reduceSub, Nat.reduceBEq, Nat.reduceEqDiff, Int.reduceToNat, reduceIte, tsK]
          refine RoundQ.next (j + 1) rfl rfl ⟨by omega, hu9.ge hS2.2.2.2.1 (Nat.le_refl _) hqlo, q9, ?_⟩ (by omega)
          have e : canonN L (j + 1) = (canonN L j) ++ tx := by rw [hnx]; simp [pieceC, hj0, he']
          rw [e]; exact hB9
        · have he' : tx = [] := by simpa using he
          simp (disch := first | omega | (simp only [ds] <;> omega) | fail) only [ws, undefM, Nat.reduceLT, Nat.reduceAdd, Nat.reduceMul, Nat.reduceSub, Nat.reduceBEq, Nat.reduceEqDiff, Int.reduceToNat, reduceIte, tsK, h5, he]
          refine CallW.rt (WriteByte_v 48 hS2.1 (by first | omega | (simp only [List.length_append, List.length_cons, List.length_nil]; omega))) (by kernel_rfl) rfl rfl ?_
          rintro _ O8 ⟨rfl, q8, hB8, hu8⟩
          have hS8 := stW hS2 hB8 hu8
          have hqlo := fun i (hi : _ = some i) => hS8.1.q_lo i hi
          have h5 := hS8.2.2.1
          simp (disch := first | omega | (simp only [ds] <;> omega) | fail) only [ws, undefM, Nat.reduceLT, Nat.reduceAdd, Nat.reduceMul, Nat.reduceSub, Nat.reduceBEq, Nat.reduceEqDiff, Int.reduceToNat, reduceIte, tsK, h5]
          refine CallW.rt (WriteString_v tx hS8.1 (by first | omega | (simp only [List.length_append, List.length_cons, List.length_nil]; omega))) (by kernel_rfl) rfl rfl ?_
          rintro _ O9 ⟨rfl, q9, hB9, hu9⟩
          simp (disch := first | omega | (simp only [ds] <;> omega) | fail) only [ws, undefM, Nat.reduceLT, Nat.reduceAdd, Nat.reduceMul, Nat.reduceSub, Nat.reduceBEq, Nat.reduceEqDiff, Int.reduceToNat, reduceIte, tsK]
          refine RoundQ.next (j + 1) rfl rfl ⟨by omega, hu9.ge hS8.2.2.2.1 (Nat.le_refl _) hqlo, q9, ?_⟩ (by omega)
          have e : canonN L (j + 1) = ((canonN L j) ++ [48]) ++ tx := by rw [hnx]; simp [pieceC, hj0, he']
          rw [e]; exact hB9
    · simp (disch := first | omega | (simp only [ds] <;> omega) | fail) only [ws, undefM, Nat.reduceLT, Nat.reduceAdd, Nat.reduceMul, Nat.reduceSub, Nat.reduceBEq, Nat.reduceEqDiff, Int.reduceToNat, reduceIte, tsK, hat]
      generalize (O2.push (.cells [.v (.bool false), .v (.bool false), .str []])).set O2.next (.cells [.v (.bool hy), .v (.bool nb), .str tx]) = Oc at *
      have h5 := hS2.2.2.1
      cases hy
      · simp (disch := first | omega | (simp only [ds] <;> omega) | fail) only [ws, undefM, Nat.reduceLT, Nat.reduceAdd, Nat.reduceMul, Nat.reduceSub, Nat.reduceBEq, Nat.reduceEqDiff, Int.reduceToNat, reduceIte, tsK, h5]
        refine CallW.rt (WriteByte_v 46 hS2.1 (by omega)) (by kernel_rfl) rfl rfl ?_
        rintro _ O7 ⟨rfl, q7, hB7, hu7⟩
        have hS7 := stW hS2 hB7 hu7
        simp (disch := first | omega | (simp only [ds] <;> omega) | fail) only [ws, undefM, Nat.reduceLT, Nat.reduceAdd, Nat.reduceMul, Nat.reduceSub, Nat.reduceBEq, Nat.reduceEqDiff, Int.reduceToNat, reduceIte, tsK]
        have hqlo := fun i (hi : _ = some i) => hS7.1.q_lo i hi
        have h5 := hS7.2.2.1
        cases nb
        · simp (disch := first | omega | (simp only [ds] <;> omega) | fail) only [ws, undefM, Nat.reduceLT, Nat.reduceAdd, Nat.reduceMul, Nat.reduceSub, Nat.reduceBEq, Nat.reduceEqDiff, Int.reduceToNat, reduceIte, tsK, h5]
          refine CallW.rt (WriteString_v tx hS7.1 (by first | omega | (simp only [List.length_append, List.length_cons, List.length_nil]; omega))) (by kernel_rfl) rfl rfl ?_
          rintro _ O9 ⟨rfl, q9, hB9, hu9⟩
          simp (disch := first | omega | (simp only [ds] <;> omega) | fail) only [ws, undefM, Nat.reduceLT, Nat.reduceAdd, Nat.reduceMul, Nat.reduceSub, Nat.reduceBEq, Nat.reduceEqDiff, Int.reduceToNat, reduceIte, tsK]
          refine RoundQ.next (j + 1) rfl rfl ⟨by omega, hu9.ge hS7.2.2.2.1 (Nat.le_refl _) hqlo, q9, ?_⟩ (by omega)
          have e : canonN L (j + 1) = (canonN L j ++ [46]) ++ tx := by rw [hnx]; simp [pieceC, hj0]
          rw [e]; exact hB9
        · cases he : tx == []
          · have he' : tx ≠ [] := by simpa using he
            simp (disch := first | omega | (simp only [ds] <;> omega) | fail) only [ws, undefM, Nat.reduceLT, Nat.reduceAdd, Nat.reduceMul, Nat.reduceSub, Nat.reduceBEq, Nat.reduceEqDiff, Int.reduceToNat, reduceIte, tsK, h5, he]
            refine CallW.rt (WriteString_v tx hS7.1 (by first | omega | (simp only [List.length_append, List.length_cons, List.length_nil]; omega))) (by kernel_rfl) rfl rfl ?_
            rintro _ O9 ⟨rfl, q9, hB9, hu9⟩
            simp (disch := first | omega | (simp only [ds] <;> omega) | fail) only [ws, undefM, Nat.reduceLT, Nat.reduceAdd, Nat.reduceMul, Nat.reduceSub, Nat.reduceBEq, Nat.reduceEqDiff, Int.reduceToNat, reduceIte, tsK]
            refine RoundQ.next (j + 1) rfl rfl ⟨by omega, hu9.ge hS7.2.2.2.1 (Nat.le_refl _) hqlo, q9, ?_⟩ (by omega)
            have e : canonN L (j + 1) = (canonN L j ++ [46]) ++ tx := by rw [hnx]; simp [pieceC, hj0, he']
            rw [e]; exact hB9
          · have he' : tx = [] := by simpa using he
            simp (disch := first | omega | (simp only [ds] <;> omega) | fail) only [ws, undefM, Nat.reduceLT, Nat.reduceAdd, Nat.reduceMul, Nat.reduceSub, Nat.reduceBEq, Nat.reduceEqDiff, Int.reduceToNat, reduceIte, tsK, h5, he]
            refine CallW.rt (WriteByte_v 48 hS7.1 (by first | omega | (simp only [List.length_append, List.length_cons, List.length_nil]; omega))) (by kernel_rfl) rfl rfl ?_
            rintro _ O8 ⟨rfl, q8, hB8, hu8⟩
            have hS8 := stW hS7 hB8 hu8
            have hqlo := fun i (hi : _ = some i) => hS8.1.q_lo i hi
            have h5 := hS8.2.2.1
            simp (disch := first | omega | (simp only [ds] <;> omega) | fail) only [ws, undefM, Nat.reduceLT, Nat.reduceAdd, Nat.reduceMul, Nat.reduceSub, Nat.reduceBEq, Nat.reduceEqDiff, Int.reduceToNat, reduceIte, tsK, h5]
            refine CallW.rt (WriteString_v tx hS8.1 (by first | omega | (simp only [List.length_append, List.length_cons, List.length_nil]; omega))) (by kernel_rfl) rfl rfl ?_
            rintro _ O9 ⟨rfl, q9, hB9, hu9⟩
            simp (disch := first | omega | (simp only [ds] <;> omega) | fail) only [ws, undefM, Nat.reduceLT, Nat.reduceAdd, Nat.reduceMul, Nat.reduceSub, Nat.reduceBEq, Nat.reduceEqDiff, Int.reduceToNat, reduceIte, tsK]
            refine RoundQ.next (j + 1) rfl rfl ⟨by omega, hu9.ge hS8.2.2.2.1 (Nat.le_refl _) hqlo, q9, ?_⟩ (by omega)
            have e : canonN L (j + 1) = ((canonN L j ++ [46]) ++ [48]) ++ tx := by rw [hnx]; simp [pieceC, hj0, he']
            rw [e]; exact hB9
      · simp (disch := first | omega | (simp only [ds] <;> omega) | fail) only [ws, undefM, Nat.reduceLT, Nat.reduceAdd, Nat.reduceMul, Nat.reduceSub, Nat.reduceBEq, Nat.reduceEqDiff, Int.reduceToNat, reduceIte, tsK, h5]
        refine CallW.rt (WriteByte_v 45 hS2.1 (by omega)) (by kernel_rfl) rfl rfl ?_
        rintro _ O7 ⟨rfl, q7, hB7, hu7⟩
        have hS7 := stW hS2 hB7 hu7
        simp (disch := first | omega | (simp only [ds] <;> omega) | fail) only [ws, undefM, Nat.reduceLT, Nat.reduceAdd, Nat.reduceMul, Nat.reduceSub, Nat.reduceBEq, Nat.reduceEqDiff, Int.reduceToNat, reduceIte, tsK]
        have hqlo := fun i (hi : _ = some i) => hS7.1.q_lo i hi
        have h5 := hS7.2.2.1
        cases nb
        · simp (disch := first | omega | (simp only [ds] <;> omega) | fail) only [ws, undefM, Nat.reduceLT, Nat.reduceAdd, Nat.reduceMul, Nat.reduceSub, Nat.reduceBEq, Nat.reduceEqDiff, Int.reduceToNat, reduceIte, tsK, h5]
          refine CallW.rt (WriteString_v tx hS7.1 (by first | omega | (simp only [List.length_append, List.length_cons, List.length_nil]; omega))) (by kernel_rfl) rfl rfl ?_
          rintro _ O9 ⟨rfl, q9, hB9, hu9⟩
          simp (disch := first | omega | (simp only [ds] <;> omega) | fail) only [ws, undefM, Nat.reduceLT, Nat.reduceAdd, Nat.reduceMul, Nat.reduceSub, Nat.reduceBEq, Nat.reduceEqDiff, Int.reduceToNat, reduceIte, tsK]
          refine RoundQ.next (j + 1) rfl rfl ⟨by omega, hu9.ge hS7.2.2.2.1 (Nat.le_refl _) hqlo, q9, ?_⟩ (by omega)
          have e : canonN L (j + 1) = (canonN L j ++ [45]) ++ tx := by rw [hnx]; simp [pieceC, hj0]
          rw [e]; exact hB9
        · cases he : tx == []
          · have he' : tx ≠ [] := by simpa using he
            simp (disch := first | omega | (simp only [ds] <;> omega) | fail) only [ws, undefM, Nat.reduceLT, Nat.reduceAdd, Nat.reduceMul, Nat.reduceSub, Nat.reduceBEq, Nat.reduceEqDiff, Int.reduceToNat, reduceIte, tsK, h5, he]
            refine CallW.rt (WriteString_v tx hS7.1 (by first | omega | (simp only [List.length_append, List.length_cons, List.length_nil]; omega))) (by kernel_rfl) rfl rfl ?_
            rintro _ O9 ⟨rfl, q9, hB9, hu9⟩
            simp (disch := first | omega | (simp only [ds] <;> omega) | fail) only [ws, undefM, Nat.reduceLT, Nat.reduceAdd, Nat.reduceMul, Nat.reduceSub, Nat.reduceBEq, Nat.reduceEqDiff, Int.reduceToNat, reduceIte, tsK]
            refine RoundQ.next (j + 1) rfl rfl ⟨by omega, hu9.ge hS7.2.2.2.1 (Nat.le_refl _) hqlo, q9, ?_⟩ (by omega)
            have e : canonN L (j + 1) = (canonN L j ++ [45]) ++ tx := by rw [hnx]; simp [pieceC, hj0, he']
            rw [e]; exact hB9
          · have he' : tx = [] := by simpa using he
            simp (disch := first | omega | (simp only [ds] <;> omega) | fail) only [ws, undefM, Nat.reduceLT, Nat.reduceAdd, Nat.reduceMul, Nat.reduceSub, Nat.reduceBEq, Nat.reduceEqDiff, Int.reduceToNat, reduceIte, tsK, h5, he]
            refine CallW.rt (WriteByte_v 48 hS7.1 (by first | omega | (simp only [List.length_append, List.length_cons, List.length_nil]; omega))) (by kernel_rfl) rfl rfl ?_
            rintro _ O8 ⟨rfl, q8, hB8, hu8⟩
            have hS8 := stW hS7 hB8 hu8
            have hqlo := fun i (hi : _ = some i) => hS8.1.q_lo i hi
            have h5 := hS8.2.2.1
            simp (disch := first | omega | (simp only [ds] <;> omega) | fail) only [ws, undefM, Nat.reduceLT, Nat.reduceAdd, Nat.reduceMul, Nat.reduceSub, Nat.reduceBEq, Nat.reduceEqDiff, Int.reduceToNat, reduceIte, tsK, h5]
            refine CallW.rt (WriteString_v tx hS8.1 (by first | omega | (simp only [List.length_append, List.length_cons, List.length_nil]; omega))) (by kernel_rfl) rfl rfl ?_
            rintro _ O9 ⟨rfl, q9, hB9, hu9⟩
            simp (disch := first | omega | (simp only [ds] <;> omega) | fail) only [ws, undefM, Nat.reduceLT, Nat.reduceAdd, Nat.reduceMul, Nat.reduceSub, Nat.reduceBEq, Nat.reduceEqDiff, Int.reduceToNat, reduceIte, tsK]
            refine RoundQ.next (j + 1) rfl rfl ⟨by omega, hu9.ge hS8.2.2.2.1 (Nat.le_refl _) hqlo, q9, ?_⟩ (by omega)
            have e : canonN L (j + 1) = ((canonN L j ++ [45]) ++ [48]) ++ tx := by rw [hnx]; simp [pieceC, hj0, he']
            rw [e]; exact hB9
  · obtain rfl : j = L.length := by omega
    simp (disch := first | omega | (simp only [ds] <;> omega) | fail) only [ws, undefM, Nat.reduceLT, Nat.reduceAdd, Nat.reduceMul, Nat.reduceSub, Nat.reduceBEq, Nat.reduceEqDiff, Int.reduceToNat, reduceIte, tsK]
    refine CallW.rt (BString_v hB2 (by simp only [maxLen]; omega)) (by kernel_rfl) rfl rfl ?_
    rintro _ O3 ⟨rfl, hu3⟩
    simp (disch := first | omega | (simp only [ds] <;> omega) | fail) only [ws, undefM, Nat.reduceLT, Nat.reduceAdd, Nat.reduceMul, Nat.reduceSub, Nat.reduceBEq, Nat.reduceEqDiff, Int.reduceToNat, reduceIte, tsK]
    refine ⟨Nat.le_trans hge2.next hu3.next, fun i hi => (hu3.hp i (Nat.lt_of_lt_of_le hi hge2.next) (fun e => by have := hB2.q_lo i e; omega)).trans (hge2.hp i hi)⟩
end Go.Proofs.YtjbpnhmjnkolbaaDoor

/-
  The statements' examples (lives), walked.
-/
set_option linter.unusedVariables false
set_option linter.unusedSimpArgs false
namespace Go.Proofs.YtjbpnhmjnkolbaaDoor
open Go.RowKit
set_option maxRecDepth 10000
def rowL : List (List UInt8) := [[49, 46, 48, 45, 114, 99, 50], [49, 46, 48, 45, 115, 110, 97, 112, 115, 104, 111, 116], [49], [49, 45, 115, 112], [49, 45, 120], [49, 45, 49], [49, 46, 49]]
theorem rowL_ok : ∀ j : Fin 6, compareV (rowL.getD j.val []) (rowL.getD (j.val + 1) []) = -1 := by decide +kernel
/-- pomacelaw04.lives -/
theorem lives_v (O : VH) : VF Tryd.prog 17 [] O (Ret fun m O' => m = mb true ∧ O.Ge O') := by
  have c1 : compareV [49, 46, 48] [49] = 0 := by decide +kernel
  have c2 : compareV [49, 45, 97, 108, 112, 104, 97, 49] [49, 45, 97, 49] = 0 := by decide +kernel
  have c3 : canonV [49, 46, 48, 46, 82, 69, 76, 69, 65, 83, 69] = [49] := by decide +kernel
  have c4 : canonV [49, 46, 49, 48, 97, 50] = [49, 46, 49, 48, 45, 97, 108, 112, 104, 97, 45, 50] := by decide +kernel
  refine VF.ofW (n := ⟨39, 0⟩) (rs := [.tmp 0]) tabOk Tryd.func17 rfl rfl rfl (Nat.le_of_ble_eq_true rfl) ?_
  simp only [argEnv, Nat.zero_add, Nat.reduceAdd]
  simp (disch := first | omega | (simp only [ds] <;> omega) | fail) only [ws, undefM, Nat.reduceLT, Nat.reduceAdd, Nat.reduceMul, Nat.reduceSub, Nat.reduceBEq, Nat.reduceEqDiff, Int.reduceToNat, reduceIte, tsK, T38]
  have hrow : [MV.str [49, 46, 48, 45, 114, 99, 50], .str [49, 46, 48, 45, 115, 110, 97, 112, 115, 104, 111, 116], .str [49], .str [49, 45, 115, 112], .str [49, 45, 120], .str [49, 45, 49], .str [49, 46, 49]] = rowL.map .str := rfl
  rw [hrow]
  refine WC.loopK tabOk [6] [1, 5] (fun j : Nat => [mi j]) (fun j O' => j ≤ 7 ∧ O.Ge O') (fun j => 7 - j) (0) rfl rfl ?_ ?_
  · exact ⟨by omega, VH.Ge.refl _⟩
  rintro j O2 ⟨hj, hge⟩
  have hlen : rowL.length = 7 := rfl
  by_cases h2 : j < 7
  · simp (disch := first | omega | (simp only [ds] <;> omega) | fail) only [ws, undefM, Nat.reduceLT, Nat.reduceAdd, Nat.reduceMul, Nat.reduceSub, Nat.reduceBEq, Nat.reduceEqDiff, Int.reduceToNat, reduceIte, tsK, T38]
    refine WC.plan tabOk .any [(0, .sil), (1, .sil), (2, .sil), (3, .sil), (4, .sil), (5, .sil), (6, .sil), (7, .sil), (8, .sil), (9, .sil), (10, .sil), (11, .sil), (12, .one), (13, .sil), (14, .sil)] (by simp) (by kernel_rfl) (by kernel_rfl) (by kernel_rfl) rfl ?_
    rcases Nat.eq_zero_or_pos j with rfl | hj0
    · simp (disch := first | omega | (simp only [ds] <;> omega) | fail) only [ws, undefM, Nat.reduceLT, Nat.reduceAdd, Nat.reduceMul, Nat.reduceSub, Nat.reduceBEq, Nat.reduceEqDiff, Int.reduceToNat, reduceIte, tsK, T38]
      refine RoundQ.next (1) rfl rfl ?_ (by first | omega | (dsimp only; omega))
      exact ⟨by omega, hge⟩
    · obtain ⟨i, rfl⟩ : ∃ i, j = i + 1 := ⟨j - 1, by omega⟩
      have h1 := rowL_ok ⟨i, by omega⟩
      have hb : ∀ (k : Nat) (x : List UInt8), rowL[k]? = some x → x.length ≤ 10000 := by
        intro k x hk
        have : ∀ x : List UInt8, x ∈ rowL → x.length ≤ 10000 := by decide
        exact this _ (List.mem_of_getElem? hk)
      obtain ⟨x1, e1⟩ : ∃ x, rowL[i]? = some x := ⟨_, List.getElem?_eq_getElem (by omega)⟩
      obtain ⟨x2, e2⟩ : ∃ x, rowL[i + 1]? = some x := ⟨_, List.getElem?_eq_getElem (by omega)⟩
      simp only [List.getD_eq_getElem?_getD, e1, e2, Option.getD_some] at h1
      simp (disch := first | omega | (simp only [ds] <;> omega) | fail) only [ws, undefM, Nat.reduceLT, Nat.reduceAdd, Nat.reduceMul, Nat.reduceSub, Nat.reduceBEq, Nat.reduceEqDiff, Int.reduceToNat, reduceIte, tsK, T38, e1, e2]
      refine CallW.rt (Compare_v x1 x2 _ (hb _ _ e1) (hb _ _ e2)) (by kernel_rfl) rfl rfl ?_
      rintro _ O3 ⟨rfl, hg3⟩
      rw [h1]
      simp (disch := first | omega | (simp only [ds] <;> omega) | fail) only [ws, undefM, Nat.reduceLT, Nat.reduceAdd, Nat.reduceMul, Nat.reduceSub, Nat.reduceBEq, Nat.reduceEqDiff, Int.reduceToNat, reduceIte, tsK]
      refine RoundQ.next (i + 1 + 1) rfl rfl ?_ (by first | omega | (dsimp only; omega))
      exact ⟨by omega, hge.trans hg3⟩
  · simp (disch := first | omega | (simp only [ds] <;> omega) | fail) only [ws, undefM, Nat.reduceLT, Nat.reduceAdd, Nat.reduceMul, Nat.reduceSub, Nat.reduceBEq, Nat.reduceEqDiff, Int.reduceToNat, reduceIte, tsK]
    refine CallW.rt (Compare_v [49, 46, 48] [49] _ (by decide) (by decide)) (by kernel_rfl) rfl rfl ?_
    rintro _ O3 ⟨rfl, hg3⟩
    rw [c1]
    simp (disch := first | omega | (simp only [ds] <;> omega) | fail) only [ws, undefM, Nat.reduceLT, Nat.reduceAdd, Nat.reduceMul, Nat.reduceSub, Nat.reduceBEq, Nat.reduceEqDiff, Int.reduceToNat, reduceIte, tsK]
    refine CallW.rt (Compare_v [49, 45, 97, 108, 112, 104, 97, 49] [49, 45, 97, 49] _ (by decide) (by decide)) (by kernel_rfl) rfl rfl ?_
    rintro _ O4 ⟨rfl, hg4⟩
    rw [c2]
    simp (disch := first | omega | (simp only [ds] <;> omega) | fail) only [ws, undefM, Nat.reduceLT, Nat.reduceAdd, Nat.reduceMul, Nat.reduceSub, Nat.reduceBEq, Nat.reduceEqDiff, Int.reduceToNat, reduceIte, tsK]
    refine CallW.rt (Canon_v [49, 46, 48, 46, 82, 69, 76, 69, 65, 83, 69] _ (by decide)) (by kernel_rfl) rfl rfl ?_
    rintro _ O5 ⟨rfl, hg5⟩
    rw [c3]
    simp (disch := first | omega | (simp only [ds] <;> omega) | fail) only [ws, undefM, Nat.reduceLT, Nat.reduceAdd, Nat.reduceMul, Nat.reduceSub, Nat.reduceBEq, Nat.reduceEqDiff, Int.reduceToNat, reduceIte, tsK, beq_self_eq_true]
    refine CallW.rt (Canon_v [49, 46, 49, 48, 97, 50] _ (by decide)) (by kernel_rfl) rfl rfl ?_
    rintro _ O6 ⟨rfl, hg6⟩
    rw [c4]
    simp (disch := first | omega | (simp only [ds] <;> omega) | fail) only [ws, undefM, Nat.reduceLT, Nat.reduceAdd, Nat.reduceMul, Nat.reduceSub, Nat.reduceBEq, Nat.reduceEqDiff, Int.reduceToNat, reduceIte, tsK, beq_self_eq_true]
    exact (((hge.trans hg3).trans hg4).trans hg5).trans hg6
end Go.Proofs.YtjbpnhmjnkolbaaDoor

/-
  The comparison of versions as an order: plain.
-/
set_option linter.unusedVariables false
set_option linter.unusedSimpArgs false
namespace Go.Proofs.YtjbpnhmjnkolbaaDoor
open Go.RowKit

/-- A comparison: its answers, turned round, and how it goes on. -/
structure Cmp {α : Type} (c : α → α → Int) : Prop where
  rng : ∀ x y, c x y = -1 ∨ c x y = 0 ∨ c x y = 1
  anti : ∀ x y, c y x = - c x y
  eq : ∀ x y z, c x y = 0 → c x z = c y z
  tr : ∀ x y z, c x y = -1 → c y z = -1 → c x z = -1
theorem Cmp.refl {α : Type} {c : α → α → Int} (h : Cmp c) (x : α) : c x x = 0 := by have := h.anti x x; omega
theorem Cmp.eqR {α : Type} {c : α → α → Int} (h : Cmp c) (x y z : α) (e : c y z = 0) : c x y = c x z := by
  have := h.eq y z x e
  rw [h.anti x y, h.anti x z] at this; omega
theorem Cmp.comap {α β : Type} {c : α → α → Int} (h : Cmp c) (f : β → α) : Cmp fun x y => c (f x) (f y) :=
  ⟨fun _ _ => h.rng _ _, fun _ _ => h.anti _ _, fun _ _ _ => h.eq _ _ _, fun _ _ _ => h.tr _ _ _⟩
def lexC {α : Type} (c d : α → α → Int) (x y : α) : Int := if c x y ≠ 0 then c x y else d x y
theorem Cmp.lex {α : Type} {c d : α → α → Int} (h : Cmp c) (k : Cmp d) : Cmp (lexC c d) := by
  have cases2 : ∀ x y v, lexC c d x y = v → (c x y ≠ 0 ∧ c x y = v) ∨ (c x y = 0 ∧ d x y = v) := fun x y v hv => by
    unfold lexC at hv
    by_cases e : c x y = 0
    · rw [if_neg (by simpa using e)] at hv; exact .inr ⟨e, hv⟩
    · rw [if_pos e] at hv; exact .inl ⟨e, hv⟩
  have mk0 : ∀ x y, c x y = 0 → lexC c d x y = d x y := fun x y e => if_neg (by simpa using e)
  have mk1 : ∀ x y, c x y ≠ 0 → lexC c d x y = c x y := fun x y e => if_pos e
  refine ⟨fun x y => ?_, fun x y => ?_, fun x y z e => ?_, fun x y z e1 e2 => ?_⟩
  · by_cases e : c x y = 0
    · rw [mk0 _ _ e]; exact k.rng x y
    · rw [mk1 _ _ e]; exact h.rng x y
  · have ha := h.anti x y
    by_cases e : c x y = 0
    · rw [mk0 _ _ e, mk0 _ _ (by omega)]; exact k.anti x y
    · rw [mk1 _ _ e, mk1 _ _ (by omega)]; exact ha
  · rcases cases2 _ _ _ e with ⟨e1, e2⟩ | ⟨e1, e2⟩
    · exact absurd e2 e1
    · have h1 := h.eq x y z e1
      have h2 := k.eq x y z e2
      unfold lexC; rw [h1, h2]
  · rcases cases2 _ _ _ e1 with ⟨a1, a2⟩ | ⟨a1, a2⟩ <;> rcases cases2 _ _ _ e2 with ⟨b1, b2⟩ | ⟨b1, b2⟩
    · have := h.tr x y z a2 b2
      rw [mk1 _ _ (by omega)]; exact this
    · have := h.eqR x y z b1
      rw [mk1 _ _ (by omega)]; omega
    · have := h.eq x y z a1
      rw [mk1 _ _ (by omega)]; omega
    · have := h.eq x y z a1
      rw [mk0 _ _ (by omega)]; exact k.tr x y z a2 b2
theorem cmp_sgn : Cmp sgn := by
  refine ⟨fun x y => ?_, fun x y => ?_, fun x y z e => ?_, fun x y z e1 e2 => ?_⟩ <;> simp only [sgn] at * <;> (repeat' split at *) <;> omega
theorem cmpB_nil : cmpB [] [] = 0 := rfl
theorem cmpB_cons (a b : UInt8) (u v : List UInt8) : cmpB (a :: u) (b :: v) = if a.toNat < b.toNat then -1 else if b.toNat < a.toNat then 1 else cmpB u v := by
  show (if a < b then (-1 : Int) else if b < a then 1 else Lib.compareBytes u v) = _
  simp only [UInt8.lt_iff_toNat_lt]; rfl
theorem cmpB_nc (b : UInt8) (v : List UInt8) : cmpB [] (b :: v) = -1 := rfl
theorem cmpB_cn (b : UInt8) (v : List UInt8) : cmpB (b :: v) [] = 1 := rfl
theorem cmp_bytes : Cmp cmpB := by
  refine ⟨fun x => ?_, fun x => ?_, fun x => ?_, fun x => ?_⟩
  · induction x with
    | nil => intro y; cases y <;> simp [cmpB_nil, cmpB_nc]
    | cons a u ih =>
      intro y
      cases y with
      | nil => simp [cmpB_cn]
      | cons b v => rw [cmpB_cons]; have := ih v; (repeat' split) <;> omega
  · induction x with
    | nil => intro y; cases y <;> simp [cmpB_nil, cmpB_nc, cmpB_cn]
    | cons a u ih =>
      intro y
      cases y with
      | nil => simp [cmpB_nc, cmpB_cn]
      | cons b v => rw [cmpB_cons, cmpB_cons]; have := ih v; (repeat' split) <;> omega
  · induction x with
    | nil =>
      intro y z e
      cases y with
      | nil => rfl
      | cons b v => rw [cmpB_nc] at e; cases e
    | cons a u ih =>
      intro y z e
      cases y with
      | nil => rw [cmpB_cn] at e; cases e
      | cons b v =>
        rw [cmpB_cons] at e
        have h1 : ¬ a.toNat < b.toNat := fun h => by rw [if_pos h] at e; cases e
        rw [if_neg h1] at e
        have h2 : ¬ b.toNat < a.toNat := fun h => by rw [if_pos h] at e; cases e
        rw [if_neg h2] at e
        cases z with
        | nil => rw [cmpB_cn, cmpB_cn]
        | cons d ds =>
          have := ih v ds e
          rw [cmpB_cons, cmpB_cons]
          have e3 : a.toNat = b.toNat := by omega
          rw [e3, this]
  · induction x with
    | nil =>
      intro y z e1 e2
      cases z with
      | nil => cases y with
        | nil => exact e1
        | cons b v => rw [cmpB_cn] at e2; cases e2
      | cons d ds => rfl
    | cons a u ih =>
      intro y z e1 e2
      cases y with
      | nil => rw [cmpB_cn] at e1; cases e1
      | cons b v =>
        cases z with
        | nil => rw [cmpB_cn] at e2; cases e2
        | cons d ds =>
          have := ih v ds
          rw [cmpB_cons] at e1 e2 ⊢
          by_cases h1 : a.toNat < d.toNat
          · rw [if_pos h1]
          · rw [if_neg h1]
            by_cases c1 : a.toNat < b.toNat
            · rw [if_neg (by omega), if_pos (by omega)] at e2; cases e2
            · rw [if_neg c1] at e1
              by_cases c2 : b.toNat < a.toNat
              · rw [if_pos c2] at e1; cases e1
              · rw [if_neg c2] at e1
                rw [if_neg (by omega)] at e2
                by_cases c3 : d.toNat < b.toNat
                · rw [if_pos c3] at e2; cases e2
                · rw [if_neg c3] at e2
                  rw [if_neg (by omega)]
                  exact this e1 e2
def keyN (p : Prt) : Int := if rankV p > 7 then p.2.2.length else 0
def keyT (p : Prt) : List UInt8 := if rankV p < 7 then [] else p.2.2
theorem cmpV_eq (a b : Prt) : cmpV a b = lexC (fun x y => sgn (rankV x) (rankV y)) (lexC (fun x y => sgn (keyN x) (keyN y)) fun x y => cmpB (keyT x) (keyT y)) a b := by
  unfold cmpV lexC
  dsimp only
  by_cases h0 : sgn (rankV a) (rankV b) = 0
  · have h0' : ¬ sgn (rankV a) (rankV b) ≠ 0 := by simpa using h0
    rw [if_neg h0', if_neg h0']
    have hr : rankV b = rankV a := by simp only [sgn] at h0; (repeat' split at h0) <;> omega
    have s0 : sgn 0 0 = 0 := rfl
    unfold keyN keyT
    simp only [hr]
    by_cases h7 : rankV a = 7
    · have e1 : ¬ rankV a > 7 := by omega
      have e2 : ¬ rankV a < 7 := by omega
      simp only [if_pos h7, if_neg e1, if_neg e2, s0, ne_eq, not_true_eq_false, if_false]
    · rw [if_neg h7]
      by_cases h8 : rankV a > 7
      · have e2 : ¬ rankV a < 7 := by omega
        simp only [if_pos h8, if_neg e2]
      · have e2 : rankV a < 7 := by omega
        simp only [if_neg h8, if_pos e2, s0, ne_eq, not_true_eq_false, if_false]; rfl
  · rw [if_pos h0, if_pos h0]
theorem cmp_cmpV : Cmp cmpV := by
  have : cmpV = lexC (fun x y => sgn (rankV x) (rankV y)) (lexC (fun x y => sgn (keyN x) (keyN y)) fun x y => cmpB (keyT x) (keyT y)) := by
    funext a b; exact cmpV_eq a b
  rw [this]
  exact (cmp_sgn.comap rankV).lex ((cmp_sgn.comap keyN).lex (cmp_bytes.comap keyT))
def seqC : Nat → Nat → (Nat → Prt) → (Nat → Prt) → Int
  | 0, _, _, _ => 0
  | k + 1, i, f, g => lexC (fun f g => cmpV (f i) (g i)) (seqC k (i + 1)) f g
theorem cmp_seq : ∀ k i, Cmp (seqC k i)
  | 0, i => ⟨fun _ _ => .inr (.inl rfl), fun _ _ => rfl, fun _ _ _ _ => rfl, fun _ _ _ h => by cases h⟩
  | k + 1, i => (cmp_cmpV.comap fun f : Nat → Prt => f i).lex (cmp_seq k (i + 1))
theorem cmpFrom_seq (l m : List Prt) : ∀ k i, cmpFrom l m k i = seqC k i (l.getD · nullP) (m.getD · nullP)
  | 0, _ => rfl
  | k + 1, i => by rw [cmpFrom, cmpFrom_seq l m k (i + 1)]; rfl
theorem cmpFrom_null (l m : List Prt) : ∀ k i, l.length ≤ i → m.length ≤ i → cmpFrom l m k i = 0
  | 0, _, _, _ => rfl
  | k + 1, i, h1, h2 => by
    have e1 : l.getD i nullP = nullP := by rw [List.getD_eq_getElem?_getD, List.getElem?_eq_none h1]; rfl
    have e2 : m.getD i nullP = nullP := by rw [List.getD_eq_getElem?_getD, List.getElem?_eq_none h2]; rfl
    rw [cmpFrom, e1, e2, if_neg (by simp [cmp_cmpV.refl])]
    exact cmpFrom_null l m k (i + 1) (by omega) (by omega)
theorem cmpFrom_more (l m : List Prt) : ∀ k j i, l.length ≤ i + k → m.length ≤ i + k → cmpFrom l m (k + j) i = cmpFrom l m k i
  | 0, j, i, h1, h2 => by rw [Nat.zero_add]; exact cmpFrom_null l m j i (by omega) (by omega)
  | k + 1, j, i, h1, h2 => by
    rw [show k + 1 + j = (k + j) + 1 from by omega, cmpFrom, cmpFrom, cmpFrom_more l m k j (i + 1) (by omega) (by omega)]
/-- Any length that is great enough will do. -/
theorem compareV_seq (a b : List UInt8) (N : Nat) (ha : (partsV a).length ≤ N) (hb : (partsV b).length ≤ N) : compareV a b = seqC N 0 ((partsV a).getD · nullP) ((partsV b).getD · nullP) := by
  unfold compareV
  rw [← cmpFrom_seq]
  have := cmpFrom_more (partsV a) (partsV b) (max (partsV a).length (partsV b).length) (N - max (partsV a).length (partsV b).length) 0 (by omega) (by omega)
  rw [← this]
  congr 1
  omega
theorem compareV_cmp : Cmp compareV := by
  have key : ∀ a b c : List UInt8, ∃ N, (partsV a).length ≤ N ∧ (partsV b).length ≤ N ∧ (partsV c).length ≤ N := fun a b c => ⟨(partsV a).length + (partsV b).length + (partsV c).length, by omega, by omega, by omega⟩
  refine ⟨fun x y => ?_, fun x y => ?_, fun x y z => ?_, fun x y z => ?_⟩
  · obtain ⟨N, h1, h2, _⟩ := key x y y
    rw [compareV_seq x y N h1 h2]; exact (cmp_seq N 0).rng _ _
  · obtain ⟨N, h1, h2, _⟩ := key x y y
    rw [compareV_seq x y N h1 h2, compareV_seq y x N h2 h1]; exact (cmp_seq N 0).anti _ _
  · obtain ⟨N, h1, h2, h3⟩ := key x y z
    rw [compareV_seq x y N h1 h2, compareV_seq x z N h1 h3, compareV_seq y z N h2 h3]; exact (cmp_seq N 0).eq _ _ _
  · obtain ⟨N, h1, h2, h3⟩ := key x y z
    rw [compareV_seq x y N h1 h2, compareV_seq x z N h1 h3, compareV_seq y z N h2 h3]; exact (cmp_seq N 0).tr _ _ _
end Go.Proofs.YtjbpnhmjnkolbaaDoor

/-
  The laws VersionTurns and VersionOrder, walked.
-/
set_option linter.unusedVariables false
set_option linter.unusedSimpArgs false
namespace Go.Proofs.YtjbpnhmjnkolbaaDoor
open Go.RowKit
set_option maxRecDepth 10000
theorem cut300 (l : List UInt8) : (l.take 300).length ≤ 10000 := by rw [List.length_take]; omega
/-- pomacelaw04.VersionTurns -/
theorem turns_law (a b : List UInt8) (O : VH) (ha : a.length ≤ maxLen) (hb : b.length ≤ maxLen) : VF Tryd.prog 5 [.str a, .str b] O (Ret fun m O' => m = mb true) := by
  refine VF.ofW (n := ⟨36, 0⟩) (rs := [.tmp 4]) tabOk Tryd.func5 rfl rfl rfl (Nat.le_of_ble_eq_true rfl) ?_
  simp only [argEnv, Nat.zero_add, Nat.reduceAdd]
  simp (disch := first | omega | (simp only [ds] <;> omega) | fail) only [ws, undefM, Nat.reduceLT, Nat.reduceAdd, Nat.reduceMul, Nat.reduceSub, Nat.reduceBEq, Nat.reduceEqDiff, Int.reduceToNat, reduceIte, tsK]
  refine CallW.rt (lawCut_v a _) (by kernel_rfl) rfl rfl ?_
  rintro _ O1 ⟨rfl, rfl⟩
  simp (disch := first | omega | (simp only [ds] <;> omega) | fail) only [ws, undefM, Nat.reduceLT, Nat.reduceAdd, Nat.reduceMul, Nat.reduceSub, Nat.reduceBEq, Nat.reduceEqDiff, Int.reduceToNat, reduceIte, tsK]
  refine CallW.rt (lawCut_v b _) (by kernel_rfl) rfl rfl ?_
  rintro _ O1 ⟨rfl, rfl⟩
  have ha := cut300 a
  have hb := cut300 b
  generalize a.take 300 = a at *
  generalize b.take 300 = b at *
  have h1 := compareV_cmp.rng a b
  have h2 := compareV_cmp.anti a b
  have h3 := compareV_cmp.refl a
  simp (disch := first | omega | (simp only [ds] <;> omega) | fail) only [ws, undefM, Nat.reduceLT, Nat.reduceAdd, Nat.reduceMul, Nat.reduceSub, Nat.reduceBEq, Nat.reduceEqDiff, Int.reduceToNat, reduceIte, tsK]
  refine CallW.rt (Compare_v a b _ ha hb) (by kernel_rfl) rfl rfl ?_
  rintro _ O2 ⟨rfl, hg2⟩
  simp (disch := first | omega | (simp only [ds] <;> omega) | fail) only [ws, undefM, Nat.reduceLT, Nat.reduceAdd, Nat.reduceMul, Nat.reduceSub, Nat.reduceBEq, Nat.reduceEqDiff, Int.reduceToNat, reduceIte, tsK]
  refine CallW.rt (Compare_v b a _ hb ha) (by kernel_rfl) rfl rfl ?_
  rintro _ O3 ⟨rfl, hg3⟩
  generalize compareV a b = x at *
  generalize compareV b a = y at *
  simp (disch := first | omega | (simp only [ds] <;> omega) | fail) only [ws, undefM, Nat.reduceLT, Nat.reduceAdd, Nat.reduceMul, Nat.reduceSub, Nat.reduceBEq, Nat.reduceEqDiff, Int.reduceToNat, reduceIte, tsK]
  refine CallW.rt (Compare_v a a _ ha ha) (by kernel_rfl) rfl rfl ?_
  rintro _ O4 ⟨rfl, hg4⟩
  rw [h3]
  simp (disch := first | omega | (simp only [ds] <;> omega) | fail) only [ws, undefM, Nat.reduceLT, Nat.reduceAdd, Nat.reduceMul, Nat.reduceSub, Nat.reduceBEq, Nat.reduceEqDiff, Int.reduceToNat, reduceIte, tsK]
  refine CallW.rt (lives_v _) (by kernel_rfl) rfl rfl ?_
  rintro _ O5 ⟨rfl, hg5⟩
  simp (disch := first | omega | (simp only [ds] <;> omega) | fail) only [ws, undefM, Nat.reduceLT, Nat.reduceAdd, Nat.reduceMul, Nat.reduceSub, Nat.reduceBEq, Nat.reduceEqDiff, Int.reduceToNat, reduceIte, tsK]
set_option maxHeartbeats 4000000 in
/-- pomacelaw04.VersionOrder -/
theorem order_law (a b c : List UInt8) (O : VH) (ha : a.length ≤ maxLen) (hb : b.length ≤ maxLen) (hc : c.length ≤ maxLen) : VF Tryd.prog 6 [.str a, .str b, .str c] O (Ret fun m O' => m = mb true) := by
  refine VF.ofW (n := ⟨66, 0⟩) (rs := [.tmp 6]) tabOk Tryd.func6 rfl rfl rfl (Nat.le_of_ble_eq_true rfl) ?_
  simp only [argEnv, Nat.zero_add, Nat.reduceAdd]
  simp (disch := first | omega | (simp only [ds] <;> omega) | fail) only [ws, undefM, Nat.reduceLT, Nat.reduceAdd, Nat.reduceMul, Nat.reduceSub, Nat.reduceBEq, Nat.reduceEqDiff, Int.reduceToNat, reduceIte, tsK]
  refine CallW.rt (lawCut_v a _) (by kernel_rfl) rfl rfl ?_
  rintro _ O1 ⟨rfl, rfl⟩
  simp (disch := first | omega | (simp only [ds] <;> omega) | fail) only [ws, undefM, Nat.reduceLT, Nat.reduceAdd, Nat.reduceMul, Nat.reduceSub, Nat.reduceBEq, Nat.reduceEqDiff, Int.reduceToNat, reduceIte, tsK]
  refine CallW.rt (lawCut_v b _) (by kernel_rfl) rfl rfl ?_
  rintro _ O1 ⟨rfl, rfl⟩
  simp (disch := first | omega | (simp only [ds] <;> omega) | fail) only [ws, undefM, Nat.reduceLT, Nat.reduceAdd, Nat.reduceMul, Nat.reduceSub, Nat.reduceBEq, Nat.reduceEqDiff, Int.reduceToNat, reduceIte, tsK]
  refine CallW.rt (lawCut_v c _) (by kernel_rfl) rfl rfl ?_
  rintro _ O1 ⟨rfl, rfl⟩
  have ha := cut300 a
  have hb := cut300 b
  have hc := cut300 c
  generalize a.take 300 = a at *
  generalize b.take 300 = b at *
  generalize c.take 300 = c at *
  have h1 := compareV_cmp.rng a b
  have h2 := compareV_cmp.rng b c
  have h3 := compareV_cmp.rng a c
  have h4 := compareV_cmp.eq a b c
  have h5 := compareV_cmp.eqR a b c
  have h6 := compareV_cmp.tr a b c
  have h7 := compareV_cmp.tr c b a
  rw [compareV_cmp.anti b c, compareV_cmp.anti a b, compareV_cmp.anti a c] at h7
  simp (disch := first | omega | (simp only [ds] <;> omega) | fail) only [ws, undefM, Nat.reduceLT, Nat.reduceAdd, Nat.reduceMul, Nat.reduceSub, Nat.reduceBEq, Nat.reduceEqDiff, Int.reduceToNat, reduceIte, tsK]
  refine CallW.rt (Compare_v a b _ ha hb) (by kernel_rfl) rfl rfl ?_
  rintro _ O2 ⟨rfl, hg2⟩
  simp (disch := first | omega | (simp only [ds] <;> omega) | fail) only [ws, undefM, Nat.reduceLT, Nat.reduceAdd, Nat.reduceMul, Nat.reduceSub, Nat.reduceBEq, Nat.reduceEqDiff, Int.reduceToNat, reduceIte, tsK]
  refine CallW.rt (Compare_v b c _ hb hc) (by kernel_rfl) rfl rfl ?_
  rintro _ O3 ⟨rfl, hg3⟩
  simp (disch := first | omega | (simp only [ds] <;> omega) | fail) only [ws, undefM, Nat.reduceLT, Nat.reduceAdd, Nat.reduceMul, Nat.reduceSub, Nat.reduceBEq, Nat.reduceEqDiff, Int.reduceToNat, reduceIte, tsK]
  refine CallW.rt (Compare_v a c _ ha hc) (by kernel_rfl) rfl rfl ?_
  rintro _ O4 ⟨rfl, hg4⟩
  generalize compareV a b = x at *
  generalize compareV b c = y at *
  generalize compareV a c = z at *
  rcases h1 with rfl | rfl | rfl <;> rcases h2 with rfl | rfl | rfl <;> rcases h3 with rfl | rfl | rfl <;> (try (exfalso; omega))
  all_goals
    simp (disch := first | omega | (simp only [ds] <;> omega) | fail) only [ws, undefM, Nat.reduceLT, Nat.reduceAdd, Nat.reduceMul, Nat.reduceSub, Nat.reduceBEq, Nat.reduceEqDiff, Int.reduceToNat, reduceIte, tsK]
    refine CallW.rt (lives_v _) (by kernel_rfl) rfl rfl ?_
    rintro _ O5 ⟨rfl, hg5⟩
    simp (disch := first | omega | (simp only [ds] <;> omega) | fail) only [ws, undefM, Nat.reduceLT, Nat.reduceAdd, Nat.reduceMul, Nat.reduceSub, Nat.reduceBEq, Nat.reduceEqDiff, Int.reduceToNat, reduceIte, tsK]
end Go.Proofs.YtjbpnhmjnkolbaaDoor
