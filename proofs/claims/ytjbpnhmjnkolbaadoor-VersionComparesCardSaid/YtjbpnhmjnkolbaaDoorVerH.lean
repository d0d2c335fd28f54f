/-
  The package version: Index, rank, strings.Compare, compare, walked by rewriting.
-/
import Derived.Test.YtjbpnhmjnkolbaaDoorVerG
import Derived.Test.YtjbpnhmjnkolbaaDoorVk
import Derived.Lib.Bytealg
set_option linter.unusedVariables false
set_option linter.unusedSimpArgs false
namespace Go.Proofs.YtjbpnhmjnkolbaaDoor
open Go.RowKit

set_option maxRecDepth 10000
set_option linter.defProp false in
def tsH := And.intro T9 <| And.intro T38 <| And.intro T3 <| And.intro T4 T28

/-- slices.Index of texts -/
theorem IndexS_v (l : List (List UInt8)) (tk : Tok) (v : List UInt8) (O : VH) (hl : l.length ≤ maxLen) : VF Tryd.prog 60 [.sl l.length (l.map .str) tk, .str v] O (Ret fun m O' => m = mi (match l.findIdx? (v == ·) with | some i => (i : Int) | none => -1) ∧ O' = O) := by
  have hm : (l.length : Int) ≤ 9223372036854775807 := by simp [maxLen] at hl; omega
  refine VF.ofW (n := 19) (rs := [.tmp 4]) tabOk Tryd.func60 rfl rfl rfl (Nat.le_of_ble_eq_true rfl) ?_
  simp only [argEnv, Nat.zero_add, Nat.reduceAdd]
  simp (disch := first | omega | (simp only [ds] <;> omega) | fail) only [ws, undefM, Nat.reduceLT, Nat.reduceAdd, Nat.reduceMul, Nat.reduceSub, Nat.reduceBEq, Nat.reduceEqDiff, Int.reduceToNat, reduceIte, tsH]
  refine WC.loopK tabOk [8] [0, 1, 7] (fun j : Nat => [mi j]) (fun j O' => O' = O ∧ j ≤ l.length ∧ ∀ k (hk : k < l.length), k < j → (v == l[k]) = false) (fun j => l.length - j) (0) rfl rfl ?_ ?_
  · exact ⟨rfl, by omega, fun k _ h => by omega⟩
  rintro j O2 ⟨rfl, hj, hno⟩
  by_cases h2 : j < l.length
  · cases he : v == l[j]
    · simp (disch := first | omega | (simp only [ds] <;> omega) | fail) only [ws, undefM, Nat.reduceLT, Nat.reduceAdd, Nat.reduceMul, Nat.reduceSub, Nat.reduceBEq, Nat.reduceEqDiff, Int.reduceToNat, reduceIte, tsH, List.getElem?_eq_getElem h2, he]
      refine RoundQ.next (j + 1) rfl rfl ?_ (by first | omega | (dsimp only; omega))
      refine ⟨rfl, by omega, fun k hk hkj => ?_⟩
      rcases Nat.lt_succ_iff_lt_or_eq.1 hkj with h | rfl
      · exact hno k hk h
      · exact he
    · simp (disch := first | omega | (simp only [ds] <;> omega) | fail) only [ws, undefM, Nat.reduceLT, Nat.reduceAdd, Nat.reduceMul, Nat.reduceSub, Nat.reduceBEq, Nat.reduceEqDiff, Int.reduceToNat, reduceIte, tsH, List.getElem?_eq_getElem h2, he]
      rw [List.findIdx?_eq_some_iff_getElem.2 ⟨h2, he, fun k hk => by rw [hno k (by omega) hk]; simp⟩]
  · simp (disch := first | omega | (simp only [ds] <;> omega) | fail) only [ws, undefM, Nat.reduceLT, Nat.reduceAdd, Nat.reduceMul, Nat.reduceSub, Nat.reduceBEq, Nat.reduceEqDiff, Int.reduceToNat, reduceIte, tsH]
    rw [List.findIdx?_eq_none_iff.2 (fun w hw => by
      obtain ⟨k, hk, rfl⟩ := List.mem_iff_getElem.1 hw
      exact hno k hk (by omega))]
def wordsV : List (List UInt8) := [[97, 108, 112, 104, 97], [98, 101, 116, 97], [109, 105, 108, 101, 115, 116, 111, 110, 101], [114, 99], [115, 110, 97, 112, 115, 104, 111, 116], [], [115, 112]]
def rankV (p : Prt) : Int := if p.2.1 then (if p.2.2 == [] then 5 else if p.1 then 8 else 9) else match wordsV.findIdx? (p.2.2 == ·) with
  | some i => i
  | none => 7
/-- version.rank -/
theorem vRank_v (p : Prt) (O : VH) : VF Tryd.prog 51 [.agg (prM p)] O (Ret fun m O' => m = mi (rankV p) ∧ O.Ge O') := by
  obtain ⟨hy, nb, t⟩ := p
  have hge := fun x => (VH.Ge.refl O).push x
  unfold rankV
  dsimp only
  refine VF.ofW (n := 20) (rs := [.tmp 2]) tabOk Tryd.func51 rfl rfl rfl (Nat.le_of_ble_eq_true rfl) ?_
  simp only [argEnv, Nat.zero_add, Nat.reduceAdd]
  cases nb
  · simp (disch := first | omega | (simp only [ds] <;> omega) | fail) only [ws, undefM, Nat.reduceLT, Nat.reduceAdd, Nat.reduceMul, Nat.reduceSub, Nat.reduceBEq, Nat.reduceEqDiff, Int.reduceToNat, reduceIte, tsH, prM]
    refine CallW.rt (IndexS_v wordsV .full t _ (by simp [wordsV, maxLen])) (by kernel_rfl) rfl rfl ?_
    rintro _ O2 ⟨rfl, rfl⟩
    cases hf : wordsV.findIdx? (t == ·) with
    | none =>
      simp (disch := first | omega | (simp only [ds] <;> omega) | fail) only [ws, undefM, Nat.reduceLT, Nat.reduceAdd, Nat.reduceMul, Nat.reduceSub, Nat.reduceBEq, Nat.reduceEqDiff, Int.reduceToNat, reduceIte, tsH]
      exact hge _
    | some i =>
      simp (disch := first | omega | (simp only [ds] <;> omega) | fail) only [ws, undefM, Nat.reduceLT, Nat.reduceAdd, Nat.reduceMul, Nat.reduceSub, Nat.reduceBEq, Nat.reduceEqDiff, Int.reduceToNat, reduceIte, tsH]
      exact hge _
  · cases he : t == []
    · cases hy
      · simp (disch := first | omega | (simp only [ds] <;> omega) | fail) only [ws, undefM, Nat.reduceLT, Nat.reduceAdd, Nat.reduceMul, Nat.reduceSub, Nat.reduceBEq, Nat.reduceEqDiff, Int.reduceToNat, reduceIte, tsH, prM, he]
        exact hge _
      · simp (disch := first | omega | (simp only [ds] <;> omega) | fail) only [ws, undefM, Nat.reduceLT, Nat.reduceAdd, Nat.reduceMul, Nat.reduceSub, Nat.reduceBEq, Nat.reduceEqDiff, Int.reduceToNat, reduceIte, tsH, prM, he]
        exact hge _
    · simp (disch := first | omega | (simp only [ds] <;> omega) | fail) only [ws, undefM, Nat.reduceLT, Nat.reduceAdd, Nat.reduceMul, Nat.reduceSub, Nat.reduceBEq, Nat.reduceEqDiff, Int.reduceToNat, reduceIte, tsH, prM, he]
      exact hge _
def cmpB (a b : List UInt8) : Int := Lib.compareBytes a b
theorem cmpstring_x (a b : List UInt8) (O : VH) : ExtOk Tryd.prog 67 [.str a, .str b] O fun m O' => m = mi (cmpB a b) ∧ O' = O := by
  refine ExtOk.of (ex := Extern.BytealgCompare.compare) Tryd.func67 (by kernel_rfl) (by kernel_rfl) (by kernel_rfl) (by kernel_rfl) fun G w vs hw hv => ?_
  obtain ⟨u, us, rfl, h1, h2⟩ := hv.inv_cons
  obtain ⟨u2, us2, rfl, h3, h4⟩ := h2.inv_cons
  rw [h4.inv_nil]
  cases h1
  cases h3
  exact ⟨_, Lib.run_compareString _ _ w, .v rfl⟩
/-- internal/bytealg.CompareString, strings.Compare -/
theorem CompareString_v (a b : List UInt8) (O : VH) : VF Tryd.prog 61 [.str a, .str b] O (Ret fun m O' => m = mi (cmpB a b) ∧ O' = O) := by
  refine VF.ofW (n := 8) (rs := [.tmp 4]) tabOk Tryd.func61 rfl rfl rfl (Nat.le_of_ble_eq_true rfl) ?_
  simp only [argEnv, Nat.zero_add, Nat.reduceAdd]
  simp (disch := first | omega | (simp only [ds] <;> omega) | fail) only [ws, undefM, Nat.reduceLT, Nat.reduceAdd, Nat.reduceMul, Nat.reduceSub, Nat.reduceBEq, Nat.reduceEqDiff, Int.reduceToNat, reduceIte]
  refine CallW.ext (cmpstring_x a b O) rfl ?_
  rintro _ O2 ⟨rfl, rfl⟩
  simp (disch := first | omega | (simp only [ds] <;> omega) | fail) only [ws, undefM, Nat.reduceLT, Nat.reduceAdd, Nat.reduceMul, Nat.reduceSub, Nat.reduceBEq, Nat.reduceEqDiff, Int.reduceToNat, reduceIte]
theorem strCompare_v (a b : List UInt8) (O : VH) : VF Tryd.prog 53 [.str a, .str b] O (Ret fun m O' => m = mi (cmpB a b) ∧ O' = O) := by
  refine VF.ofW (n := 8) (rs := [.tmp 4]) tabOk Tryd.func53 rfl rfl rfl (Nat.le_of_ble_eq_true rfl) ?_
  simp only [argEnv, Nat.zero_add, Nat.reduceAdd]
  simp (disch := first | omega | (simp only [ds] <;> omega) | fail) only [ws, undefM, Nat.reduceLT, Nat.reduceAdd, Nat.reduceMul, Nat.reduceSub, Nat.reduceBEq, Nat.reduceEqDiff, Int.reduceToNat, reduceIte]
  refine CallW.rt (CompareString_v a b O) (by kernel_rfl) rfl rfl ?_
  rintro _ O2 ⟨rfl, rfl⟩
  simp (disch := first | omega | (simp only [ds] <;> omega) | fail) only [ws, undefM, Nat.reduceLT, Nat.reduceAdd, Nat.reduceMul, Nat.reduceSub, Nat.reduceBEq, Nat.reduceEqDiff, Int.reduceToNat, reduceIte]
def cmpV (a b : Prt) : Int :=
  if sgn (rankV a) (rankV b) ≠ 0 then sgn (rankV a) (rankV b)
  else if rankV a = 7 then cmpB a.2.2 b.2.2
  else if rankV a > 7 then (if sgn a.2.2.length b.2.2.length ≠ 0 then sgn a.2.2.length b.2.2.length else cmpB a.2.2 b.2.2)
  else 0
/-- version.compare -/
theorem compare_v (a b : Prt) (O : VH) (ha : a.2.2.length ≤ maxLen) (hb : b.2.2.length ≤ maxLen) : VF Tryd.prog 37 [.agg (prM a), .agg (prM b)] O (Ret fun m O' => m = mi (cmpV a b) ∧ O.Ge O') := by
  have hla : (prM a).length = 3 := rfl
  have hlb : (prM b).length = 3 := rfl
  have ht : ∀ p : Prt, ((prM p).drop 0).take 3 = prM p := fun p => rfl
  have ht2 : ∀ p : Prt, (prM p)[2]? = some (.str p.2.2) := fun p => rfl
  have hge := ((VH.Ge.refl O).push (.cells (prM a))).push (.cells (prM b))
  simp only [maxLen] at ha hb
  unfold cmpV
  refine VF.ofW (n := 43) (rs := [.tmp 4]) tabOk Tryd.func37 rfl rfl rfl (Nat.le_of_ble_eq_true rfl) ?_
  simp only [argEnv, Nat.zero_add, Nat.reduceAdd]
  simp (disch := first | omega | (simp only [ds] <;> omega) | fail) only [ws, undefM, Nat.reduceLT, Nat.reduceAdd, Nat.reduceMul, Nat.reduceSub, Nat.reduceBEq, Nat.reduceEqDiff, Int.reduceToNat, reduceIte, tsH, ht]
  refine CallW.rt (vRank_v a _) (by kernel_rfl) rfl rfl ?_
  rintro _ O2 ⟨rfl, hg2⟩
  have h0 := hg2.hp O.next (by simp only [ds]; omega)
  have h1 := hg2.hp (O.next + 1) (by simp only [ds]; omega)
  simp (disch := first | omega | (simp only [ds] <;> omega) | fail) only [ws, undefM, Nat.reduceLT, Nat.reduceAdd, Nat.reduceMul, Nat.reduceSub, Nat.reduceBEq, Nat.reduceEqDiff, Int.reduceToNat, reduceIte] at h0 h1
  have hge := hge.trans hg2
  simp (disch := first | omega | (simp only [ds] <;> omega) | fail) only [ws, undefM, Nat.reduceLT, Nat.reduceAdd, Nat.reduceMul, Nat.reduceSub, Nat.reduceBEq, Nat.reduceEqDiff, Int.reduceToNat, reduceIte, tsH, ht, h1]
  refine CallW.rt (vRank_v b _) (by kernel_rfl) rfl rfl ?_
  rintro _ O3 ⟨rfl, hg3⟩
  have h2 := hg3.hp O.next (by have := hg2.next; simp only [ds] at this; omega)
  have h3 := hg3.hp (O.next + 1) (by have := hg2.next; simp only [ds] at this; omega)
  rw [h0] at h2
  rw [h1] at h3
  have hge := hge.trans hg3
  simp (disch := first | omega | (simp only [ds] <;> omega) | fail) only [ws, undefM, Nat.reduceLT, Nat.reduceAdd, Nat.reduceMul, Nat.reduceSub, Nat.reduceBEq, Nat.reduceEqDiff, Int.reduceToNat, reduceIte, tsH]
  refine CallW.rt (sign_v (rankV a) (rankV b) _) (by kernel_rfl) rfl rfl ?_
  rintro _ O4 ⟨rfl, rfl⟩
  by_cases c1 : sgn (rankV a) (rankV b) = 0
  · rw [if_neg (by simpa using c1)]
    by_cases c2 : rankV a = 7
    · rw [if_pos c2]
      simp (disch := first | omega | (simp only [ds] <;> omega) | fail) only [ws, undefM, Nat.reduceLT, Nat.reduceAdd, Nat.reduceMul, Nat.reduceSub, Nat.reduceBEq, Nat.reduceEqDiff, Int.reduceToNat, reduceIte, tsH, h2, h3, ht2]
      refine CallW.rt (strCompare_v a.2.2 b.2.2 _) (by kernel_rfl) rfl rfl ?_
      rintro _ O5 ⟨rfl, rfl⟩
      simp (disch := first | omega | (simp only [ds] <;> omega) | fail) only [ws, undefM, Nat.reduceLT, Nat.reduceAdd, Nat.reduceMul, Nat.reduceSub, Nat.reduceBEq, Nat.reduceEqDiff, Int.reduceToNat, reduceIte, tsH]
      exact hge
    · rw [if_neg c2]
      by_cases c3 : rankV a > 7
      · rw [if_pos c3]
        simp (disch := first | omega | (simp only [ds] <;> omega) | fail) only [ws, undefM, Nat.reduceLT, Nat.reduceAdd, Nat.reduceMul, Nat.reduceSub, Nat.reduceBEq, Nat.reduceEqDiff, Int.reduceToNat, reduceIte, tsH, h2, h3, ht2]
        refine CallW.rt (sign_v a.2.2.length b.2.2.length _) (by kernel_rfl) rfl rfl ?_
        rintro _ O5 ⟨rfl, rfl⟩
        by_cases c4 : sgn a.2.2.length b.2.2.length = 0
        · rw [if_neg (by simpa using c4)]
          simp (disch := first | omega | (simp only [ds] <;> omega) | fail) only [ws, undefM, Nat.reduceLT, Nat.reduceAdd, Nat.reduceMul, Nat.reduceSub, Nat.reduceBEq, Nat.reduceEqDiff, Int.reduceToNat, reduceIte, tsH, h2, h3, ht2]
          refine CallW.rt (strCompare_v a.2.2 b.2.2 _) (by kernel_rfl) rfl rfl ?_
          rintro _ O5 ⟨rfl, rfl⟩
          simp (disch := first | omega | (simp only [ds] <;> omega) | fail) only [ws, undefM, Nat.reduceLT, Nat.reduceAdd, Nat.reduceMul, Nat.reduceSub, Nat.reduceBEq, Nat.reduceEqDiff, Int.reduceToNat, reduceIte, tsH]
          exact hge
        · rw [if_pos c4]
          simp (disch := first | omega | (simp only [ds] <;> omega) | fail) only [ws, undefM, Nat.reduceLT, Nat.reduceAdd, Nat.reduceMul, Nat.reduceSub, Nat.reduceBEq, Nat.reduceEqDiff, Int.reduceToNat, reduceIte, tsH]
          exact hge
      · rw [if_neg c3]
        simp (disch := first | omega | (simp only [ds] <;> omega) | fail) only [ws, undefM, Nat.reduceLT, Nat.reduceAdd, Nat.reduceMul, Nat.reduceSub, Nat.reduceBEq, Nat.reduceEqDiff, Int.reduceToNat, reduceIte, tsH]
        exact hge
  · rw [if_pos c1]
    simp (disch := first | omega | (simp only [ds] <;> omega) | fail) only [ws, undefM, Nat.reduceLT, Nat.reduceAdd, Nat.reduceMul, Nat.reduceSub, Nat.reduceBEq, Nat.reduceEqDiff, Int.reduceToNat, reduceIte, tsH]
    exact hge
end Go.Proofs.YtjbpnhmjnkolbaaDoor
