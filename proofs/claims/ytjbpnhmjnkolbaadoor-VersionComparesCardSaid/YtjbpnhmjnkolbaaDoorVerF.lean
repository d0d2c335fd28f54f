/-
  The package version: at, walked.
-/
import Derived.Test.YtjbpnhmjnkolbaaDoorVerE
import Derived.Test.YtjbpnhmjnkolbaaDoorVk
set_option linter.unusedVariables false
set_option linter.unusedSimpArgs false
namespace Go.Proofs.YtjbpnhmjnkolbaaDoor
open Go.RowKit

set_option maxRecDepth 10000
set_option linter.defProp false in
def tsF := And.intro T9 <| And.intro T3 <| And.intro T4 <| And.intro T23 T28
/-- version.at -/
theorem at_v (L : List Prt) (tk : Tok) (i : Nat) (O : VH) (hL : L.length ≤ maxLen) : VF Tryd.prog 38 [.sl L.length (L.flatMap prM) tk, mi i] O (Ret fun m O' => m = .agg (prM (L.getD i (false, true, []))) ∧ O.Ge O') := by
  have hpl := pr_len L
  refine VF.ofW (n := 14) (rs := [.cell 4 28]) tabOk Tryd.func38 rfl rfl rfl (Nat.le_of_ble_eq_true rfl) ?_
  simp only [argEnv, Nat.zero_add, Nat.reduceAdd]
  by_cases h : i < L.length
  · have hl := pr_at L i h
    have hg : L.getD i (false, true, []) = L[i] := by rw [List.getD_eq_getElem?_getD, List.getElem?_eq_getElem h]; rfl
    rw [hg]
    simp (disch := first | omega | (simp only [ds] <;> omega) | fail) only [ws, undefM, Nat.reduceLT, Nat.reduceAdd, Nat.reduceMul, Nat.reduceSub, Nat.reduceBEq, Nat.reduceEqDiff, Int.reduceToNat, reduceIte, tsF, hl, prM]
    exact ((VH.Ge.refl O).push _).set (Nat.le_refl _) _
  · have hg : L.getD i (false, true, []) = (false, true, []) := by rw [List.getD_eq_getElem?_getD, List.getElem?_eq_none (by omega)]; rfl
    rw [hg]
    simp (disch := first | omega | (simp only [ds] <;> omega) | fail) only [ws, undefM, Nat.reduceLT, Nat.reduceAdd, Nat.reduceMul, Nat.reduceSub, Nat.reduceBEq, Nat.reduceEqDiff, Int.reduceToNat, reduceIte, tsF, prM]
    exact ((VH.Ge.refl O).push _).set (Nat.le_refl _) _
end Go.Proofs.YtjbpnhmjnkolbaaDoor
