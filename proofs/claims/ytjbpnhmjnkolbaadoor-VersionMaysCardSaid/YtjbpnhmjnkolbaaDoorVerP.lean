/-
  The law VersionMays, walked.
-/
import Derived.Test.YtjbpnhmjnkolbaaDoorVerO
set_option linter.unusedVariables false
set_option linter.unusedSimpArgs false
namespace Go.Proofs.YtjbpnhmjnkolbaaDoor
open Go.RowKit
set_option maxRecDepth 10000
/-- pomacelaw04.VersionMays -/
theorem mays_law (s : List UInt8) (O : VH) (hs : s.length ≤ maxLen) : VF Tryd.prog 10 [.str s] O (Ret fun m O' => m = mb true) := by
  refine VF.ofW (n := 13) (rs := [.tmp 2]) tabOk Tryd.func10 rfl rfl rfl (Nat.le_of_ble_eq_true rfl) ?_
  simp only [argEnv, Nat.zero_add, Nat.reduceAdd]
  simp (disch := first | omega | (simp only [ds] <;> omega) | fail) only [ws, undefM, Nat.reduceLT, Nat.reduceAdd, Nat.reduceMul, Nat.reduceSub, Nat.reduceBEq, Nat.reduceEqDiff, Int.reduceToNat, reduceIte, tsK]
  refine CallW.rt (lawCut_v s _) (by kernel_rfl) rfl rfl ?_
  rintro _ O1 ⟨rfl, rfl⟩
  have ha := cut300 s
  generalize s.take 300 = s at *
  have hs : s.length ≤ maxLen := by simp only [maxLen]; omega
  simp (disch := first | omega | (simp only [ds] <;> omega) | fail) only [ws, undefM, Nat.reduceLT, Nat.reduceAdd, Nat.reduceMul, Nat.reduceSub, Nat.reduceBEq, Nat.reduceEqDiff, Int.reduceToNat, reduceIte, tsK]
  refine CallW.rt (May_v s _ hs) (by kernel_rfl) rfl rfl ?_
  rintro _ O2 ⟨rfl, hg2⟩
  simp (disch := first | omega | (simp only [ds] <;> omega) | fail) only [ws, undefM, Nat.reduceLT, Nat.reduceAdd, Nat.reduceMul, Nat.reduceSub, Nat.reduceBEq, Nat.reduceEqDiff, Int.reduceToNat, reduceIte, tsK]
  refine CallW.rt (rMay_v s _ hs) (by kernel_rfl) rfl rfl ?_
  rintro _ O3 ⟨rfl, rfl⟩
  cases mayF s
  · simp (disch := first | omega | (simp only [ds] <;> omega) | fail) only [ws, undefM, Nat.reduceLT, Nat.reduceAdd, Nat.reduceMul, Nat.reduceSub, Nat.reduceBEq, Nat.reduceEqDiff, Int.reduceToNat, reduceIte, tsK, beq_self_eq_true]
    refine CallW.rt (lives_v _) (by kernel_rfl) rfl rfl ?_
    rintro _ O5 ⟨rfl, hg5⟩
    simp (disch := first | omega | (simp only [ds] <;> omega) | fail) only [ws, undefM, Nat.reduceLT, Nat.reduceAdd, Nat.reduceMul, Nat.reduceSub, Nat.reduceBEq, Nat.reduceEqDiff, Int.reduceToNat, reduceIte, tsK]
  · simp (disch := first | omega | (simp only [ds] <;> omega) | fail) only [ws, undefM, Nat.reduceLT, Nat.reduceAdd, Nat.reduceMul, Nat.reduceSub, Nat.reduceBEq, Nat.reduceEqDiff, Int.reduceToNat, reduceIte, tsK, beq_self_eq_true]
    refine CallW.rt (lives_v _) (by kernel_rfl) rfl rfl ?_
    rintro _ O5 ⟨rfl, hg5⟩
    simp (disch := first | omega | (simp only [ds] <;> omega) | fail) only [ws, undefM, Nat.reduceLT, Nat.reduceAdd, Nat.reduceMul, Nat.reduceSub, Nat.reduceBEq, Nat.reduceEqDiff, Int.reduceToNat, reduceIte, tsK]
end Go.Proofs.YtjbpnhmjnkolbaaDoor
