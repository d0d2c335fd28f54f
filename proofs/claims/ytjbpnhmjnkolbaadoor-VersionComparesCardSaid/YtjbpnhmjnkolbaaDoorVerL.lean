/-
  The statements' examples (lives), walked.
-/
import Derived.Test.YtjbpnhmjnkolbaaDoorVerK
set_option linter.unusedVariables false
set_option linter.unusedSimpArgs false
namespace Go.Proofs.YtjbpnhmjnkolbaaDoor
open Go.RowKit
set_option maxRecDepth 10000
def rowL : List (List UInt8) := [[49, 46, 48, 45, 114, 99, 50], [49, 46, 48, 45, 115, 110, 97, 112, 115, 104, 111, 116], [49], [49, 45, 115, 112], [49, 45, 120], [49, 45, 49], [49, 46, 49]]
theorem rowL_ok : ∀ j : Fin 6, compareV (rowL.getD j.val []) (rowL.getD (j.val + 1) []) = -1 := by decide +kernel
/-- pomacelaw04.lives -/
theorem lives_v (O : VH) : VF Tryd.prog 17 [] O (Ret fun m O' => m = mb true ∧ O.Ge O') := by
  have c1 : compareV [49, 46, 48] [49] = 0 := by decide +kernel
  have c2 : compareV [49, 45, 97, 108, 112, 104, 97, 49] [49, 45, 97, 49] = 0 := by decide +kernel
  have c3 : canonV [49, 46, 48, 46, 82, 69, 76, 69, 65, 83, 69] = [49] := by decide +kernel
  have c4 : canonV [49, 46, 49, 48, 97, 50] = [49, 46, 49, 48, 45, 97, 108, 112, 104, 97, 45, 50] := by decide +kernel
  refine VF.ofW (n := 39) (rs := [.tmp 0]) tabOk Tryd.func17 rfl rfl rfl (Nat.le_of_ble_eq_true rfl) ?_
  simp only [argEnv, Nat.zero_add, Nat.reduceAdd]
  simp (disch := first | omega | (simp only [ds] <;> omega) | fail) only [ws, undefM, Nat.reduceLT, Nat.reduceAdd, Nat.reduceMul, Nat.reduceSub, Nat.reduceBEq, Nat.reduceEqDiff, Int.reduceToNat, reduceIte, tsK, T38]
  have hrow : [MV.str [49, 46, 48, 45, 114, 99, 50], .str [49, 46, 48, 45, 115, 110, 97, 112, 115, 104, 111, 116], .str [49], .str [49, 45, 115, 112], .str [49, 45, 120], .str [49, 45, 49], .str [49, 46, 49]] = rowL.map .str := rfl
  rw [hrow]
  refine WC.loopK tabOk [6] [1, 5] (fun j : Nat => [mi j]) (fun j O' => j ≤ 7 ∧ O.Ge O') (fun j => 7 - j) (0) rfl rfl ?_ ?_
  · exact ⟨by omega, VH.Ge.refl _⟩
  rintro j O2 ⟨hj, hge⟩
  have hlen : rowL.length = 7 := rfl
  by_cases h2 : j < 7
  · simp (disch := first | omega | (simp only [ds] <;> omega) | fail) only [ws, undefM, Nat.reduceLT, Nat.reduceAdd, Nat.reduceMul, Nat.reduceSub, Nat.reduceBEq, Nat.reduceEqDiff, Int.reduceToNat, reduceIte, tsK, T38]
    refine WC.plan tabOk .any [(0, .sil), (1, .sil), (2, .sil), (3, .sil), (4, .sil), (5, .sil), (6, .sil), (7, .sil), (8, .sil), (9, .sil), (10, .sil), (11, .sil), (12, .one), (13, .sil), (14, .sil)] (by simp) (by kernel_rfl) (by kernel_rfl) (by kernel_rfl) rfl ?_
    rcases Nat.eq_zero_or_pos j with rfl | hj0
    · simp (disch := first | omega | (simp only [ds] <;> omega) | fail) only [ws, undefM, Nat.reduceLT, Nat.reduceAdd, Nat.reduceMul, Nat.reduceSub, Nat.reduceBEq, Nat.reduceEqDiff, Int.reduceToNat, reduceIte, tsK, T38]
      refine RoundQ.next (1) rfl rfl ?_ (by first | omega | (dsimp only; omega))
      exact ⟨by omega, hge⟩
    · obtain ⟨i, rfl⟩ : ∃ i, j = i + 1 := ⟨j - 1, by omega⟩
      have h1 := rowL_ok ⟨i, by omega⟩
      have hb : ∀ (k : Nat) (x : List UInt8), rowL[k]? = some x → x.length ≤ 10000 := by
        intro k x hk
        have : ∀ x : List UInt8, x ∈ rowL → x.length ≤ 10000 := by decide
        exact this _ (List.mem_of_getElem? hk)
      obtain ⟨x1, e1⟩ : ∃ x, rowL[i]? = some x := ⟨_, List.getElem?_eq_getElem (by omega)⟩
      obtain ⟨x2, e2⟩ : ∃ x, rowL[i + 1]? = some x := ⟨_, List.getElem?_eq_getElem (by omega)⟩
      simp only [List.getD_eq_getElem?_getD, e1, e2, Option.getD_some] at h1
      simp (disch := first | omega | (simp only [ds] <;> omega) | fail) only [ws, undefM, Nat.reduceLT, Nat.reduceAdd, Nat.reduceMul, Nat.reduceSub, Nat.reduceBEq, Nat.reduceEqDiff, Int.reduceToNat, reduceIte, tsK, T38, e1, e2]
      refine CallW.rt (Compare_v x1 x2 _ (hb _ _ e1) (hb _ _ e2)) (by kernel_rfl) rfl rfl ?_
      rintro _ O3 ⟨rfl, hg3⟩
      rw [h1]
      simp (disch := first | omega | (simp only [ds] <;> omega) | fail) only [ws, undefM, Nat.reduceLT, Nat.reduceAdd, Nat.reduceMul, Nat.reduceSub, Nat.reduceBEq, Nat.reduceEqDiff, Int.reduceToNat, reduceIte, tsK]
      refine RoundQ.next (i + 1 + 1) rfl rfl ?_ (by first | omega | (dsimp only; omega))
      exact ⟨by omega, hge.trans hg3⟩
  · simp (disch := first | omega | (simp only [ds] <;> omega) | fail) only [ws, undefM, Nat.reduceLT, Nat.reduceAdd, Nat.reduceMul, Nat.reduceSub, Nat.reduceBEq, Nat.reduceEqDiff, Int.reduceToNat, reduceIte, tsK]
    refine CallW.rt (Compare_v [49, 46, 48] [49] _ (by decide) (by decide)) (by kernel_rfl) rfl rfl ?_
    rintro _ O3 ⟨rfl, hg3⟩
    rw [c1]
    simp (disch := first | omega | (simp only [ds] <;> omega) | fail) only [ws, undefM, Nat.reduceLT, Nat.reduceAdd, Nat.reduceMul, Nat.reduceSub, Nat.reduceBEq, Nat.reduceEqDiff, Int.reduceToNat, reduceIte, tsK]
    refine CallW.rt (Compare_v [49, 45, 97, 108, 112, 104, 97, 49] [49, 45, 97, 49] _ (by decide) (by decide)) (by kernel_rfl) rfl rfl ?_
    rintro _ O4 ⟨rfl, hg4⟩
    rw [c2]
    simp (disch := first | omega | (simp only [ds] <;> omega) | fail) only [ws, undefM, Nat.reduceLT, Nat.reduceAdd, Nat.reduceMul, Nat.reduceSub, Nat.reduceBEq, Nat.reduceEqDiff, Int.reduceToNat, reduceIte, tsK]
    refine CallW.rt (Canon_v [49, 46, 48, 46, 82, 69, 76, 69, 65, 83, 69] _ (by decide)) (by kernel_rfl) rfl rfl ?_
    rintro _ O5 ⟨rfl, hg5⟩
    rw [c3]
    simp (disch := first | omega | (simp only [ds] <;> omega) | fail) only [ws, undefM, Nat.reduceLT, Nat.reduceAdd, Nat.reduceMul, Nat.reduceSub, Nat.reduceBEq, Nat.reduceEqDiff, Int.reduceToNat, reduceIte, tsK, beq_self_eq_true]
    refine CallW.rt (Canon_v [49, 46, 49, 48, 97, 50] _ (by decide)) (by kernel_rfl) rfl rfl ?_
    rintro _ O6 ⟨rfl, hg6⟩
    rw [c4]
    simp (disch := first | omega | (simp only [ds] <;> omega) | fail) only [ws, undefM, Nat.reduceLT, Nat.reduceAdd, Nat.reduceMul, Nat.reduceSub, Nat.reduceBEq, Nat.reduceEqDiff, Int.reduceToNat, reduceIte, tsK, beq_self_eq_true]
    exact (((hge.trans hg3).trans hg4).trans hg5).trans hg6
end Go.Proofs.YtjbpnhmjnkolbaaDoor
