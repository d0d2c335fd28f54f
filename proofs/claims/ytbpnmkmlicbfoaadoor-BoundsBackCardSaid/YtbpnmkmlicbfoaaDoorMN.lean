/-
  Texts BndN BndO BndP BndT BndU Sh Shv BndX BndY, one behind the other.
-/
import Derived.Test.YtbpnmkmlicbfoaaDoorMM
import Derived.Lib.LazyBuf
import Derived.Shelf.Strings.OnBuilder
import Derived.Test.YtbpnmkmlicbfoaaDoorProg
/-
  The statements of the package bounds: what they are made of: cut, Light, Same, the examples, walked.
-/
set_option linter.unusedVariables false
set_option linter.unusedSimpArgs false
namespace Go.Proofs.YtbpnmkmlicbfoaaDoor
open Go.RowKit
set_option maxRecDepth 10000
set_option linter.defProp false in
def tsN := And.intro tsM T26
/-- pomacelaw05.cut -/
theorem lawCut5_v (s : List UInt8) (O : VH) (hs : s.length ≤ maxLen) : VF Tryd.prog 9 [.str s] O (Ret fun m O' => m = .str (s.take 300) ∧ O' = O) := by
  have hm : (s.length : Int) ≤ 9223372036854775807 := by simp [maxLen] at hs; omega
  refine VF.ofW (n := ⟨9, 0⟩) (rs := [.tmp 2]) tabOk Tryd.func9 rfl rfl rfl (Nat.le_of_ble_eq_true rfl) ?_
  simp only [argEnv, Nat.zero_add, Nat.reduceAdd]
  by_cases h : s.length ≤ 300
  · rw [List.take_of_length_le h]
    simp (disch := first | omega | (simp only [ds] <;> omega) | fail) only [wk, undefM, Nat.reduceLT, Nat.reduceAdd, Nat.reduceMul, Nat.reduceSub, Nat.reduceBEq, Nat.reduceEqDiff, Int.reduceToNat, reduceIte, tsN]
  · simp (disch := first | omega | (simp only [ds] <;> omega) | fail) only [wk, undefM, Nat.reduceLT, Nat.reduceAdd, Nat.reduceMul, Nat.reduceSub, Nat.reduceBEq, Nat.reduceEqDiff, Int.reduceToNat, reduceIte, tsN]
def lightR (r : Rg) : Bool := decide (r.2.2.length ≤ 20) && (decide (r.2.1.length ≤ 100) && r.2.2.all fun p => decide (p.1.2.1.length ≤ 100) && decide (p.2.2.1.length ≤ 100))
theorem light_ok {r : Rg} (h : lightR r = true) : RgOk r ∧ r.2.2.length ≤ 20 ∧ r.2.1.length ≤ 100 ∧ ∀ p ∈ r.2.2, p.1.2.1.length ≤ 100 ∧ p.2.2.1.length ≤ 100 := by
  simp only [lightR, Bool.and_eq_true, decide_eq_true_eq, List.all_eq_true] at h
  refine ⟨⟨by simp only [maxLen]; omega, by simp only [maxLen]; omega, fun p hp => ?_⟩, h.1, h.2.1, fun p hp => h.2.2 p hp⟩
  have := h.2.2 p hp
  exact ⟨by omega, by omega⟩
/-- pomacelaw05.Light -/
theorem Light_v (r : Rg) (tk : Tok) (O : VH) (h1 : r.2.1.length ≤ maxLen) (h2 : r.2.2.length ≤ maxLen) (h3 : ∀ p ∈ r.2.2, p.1.2.1.length ≤ maxLen ∧ p.2.2.1.length ≤ maxLen) : VF Tryd.prog 14 [.agg (rgM r tk)] O (Ret fun m O' => m = mb (lightR r) ∧ O.Ge O') := by
  obtain ⟨hard, ver, L⟩ := r
  dsimp only at h1 h2 h3
  have hge := fun x => (VH.Ge.refl O).push x
  have hpl := iv_len L
  have hnm : (L.length : Int) ≤ 9223372036854775807 := by simp [maxLen] at h2; omega
  have hvm : (ver.length : Int) ≤ 9223372036854775807 := by simp [maxLen] at h1; omega
  unfold lightR
  dsimp only
  refine VF.ofW (n := ⟨35, 0⟩) (rs := [.tmp 2]) tabOk Tryd.func14 rfl rfl rfl (Nat.le_of_ble_eq_true rfl) ?_
  simp only [argEnv, Nat.zero_add, Nat.reduceAdd]
  by_cases a1 : L.length ≤ 20
  rotate_left
  · rw [decide_eq_false a1]
    simp (disch := first | omega | (simp only [ds] <;> omega) | fail) only [wk, undefM, Nat.reduceLT, Nat.reduceAdd, Nat.reduceMul, Nat.reduceSub, Nat.reduceBEq, Nat.reduceEqDiff, Int.reduceToNat, reduceIte, tsN, rgM]
    exact hge _
  by_cases a2 : ver.length ≤ 100
  rotate_left
  · rw [decide_eq_false a2]
    simp (disch := first | omega | (simp only [ds] <;> omega) | fail) only [wk, undefM, Nat.reduceLT, Nat.reduceAdd, Nat.reduceMul, Nat.reduceSub, Nat.reduceBEq, Nat.reduceEqDiff, Int.reduceToNat, reduceIte, tsN, rgM]
    exact hge _
  rw [decide_eq_true a1, decide_eq_true a2]
  simp (disch := first | omega | (simp only [ds] <;> omega) | fail) only [wk, undefM, Nat.reduceLT, Nat.reduceAdd, Nat.reduceMul, Nat.reduceSub, Nat.reduceBEq, Nat.reduceEqDiff, Int.reduceToNat, reduceIte, tsN, rgM]
  refine WC.loopK tabOk [18] [16, 17] (fun j : Nat => [mi j]) (fun j O' => O.Ge O' ∧ j ≤ L.length ∧ (L.all fun p => decide (p.1.2.1.length ≤ 100) && decide (p.2.2.1.length ≤ 100)) = ((L.drop j).all fun p => decide (p.1.2.1.length ≤ 100) && decide (p.2.2.1.length ≤ 100))) (fun j => L.length - j) (0) rfl rfl ?_ ?_
  · exact ⟨hge _, Nat.zero_le _, rfl⟩
  rintro j O2 ⟨hg2, hj, hok⟩
  by_cases b2 : j < L.length
  · have hp6 := iv_at L j b2
    have hbd := h3 L[j] (List.getElem_mem b2)
    rw [List.drop_eq_getElem_cons b2, List.all_cons] at hok
    generalize hp : L[j] = p at *
    obtain ⟨⟨e1, v1, c1⟩, ⟨e3, v3, c3⟩⟩ := p
    dsimp only at hbd hok
    have hvm1 : (v1.length : Int) ≤ 9223372036854775807 := by have := hbd.1; simp [maxLen] at this; omega
    have hvm3 : (v3.length : Int) ≤ 9223372036854775807 := by have := hbd.2; simp [maxLen] at this; omega
    have hgY : ∀ x y, O2.Ge ((O2.push x).set O2.next y) := fun x y => ((VH.Ge.refl O2).push _).set (Nat.le_refl _) _
    by_cases a3 : v1.length ≤ 100
    rotate_left
    · rw [hok, decide_eq_false a3]
      simp (disch := first | omega | (simp only [ds] <;> omega) | fail) only [wk, undefM, Nat.reduceLT, Nat.reduceAdd, Nat.reduceMul, Nat.reduceSub, Nat.reduceBEq, Nat.reduceEqDiff, Int.reduceToNat, reduceIte, tsN, hp6, ivM, enM]
      exact hg2.trans (hgY _ _)
    by_cases a4 : v3.length ≤ 100
    rotate_left
    · rw [hok, decide_eq_false a4, decide_eq_true a3]
      simp (disch := first | omega | (simp only [ds] <;> omega) | fail) only [wk, undefM, Nat.reduceLT, Nat.reduceAdd, Nat.reduceMul, Nat.reduceSub, Nat.reduceBEq, Nat.reduceEqDiff, Int.reduceToNat, reduceIte, tsN, hp6, ivM, enM]
      exact hg2.trans (hgY _ _)
    rw [decide_eq_true a3, decide_eq_true a4] at hok
    simp (disch := first | omega | (simp only [ds] <;> omega) | fail) only [wk, undefM, Nat.reduceLT, Nat.reduceAdd, Nat.reduceMul, Nat.reduceSub, Nat.reduceBEq, Nat.reduceEqDiff, Int.reduceToNat, reduceIte, tsN, hp6, ivM, enM]
    refine RoundQ.next (j + 1) rfl rfl ?_ (by first | omega | (dsimp only; omega))
    exact ⟨hg2.trans (hgY _ _), by omega, hok⟩
  · have hjl : j = L.length := by omega
    rw [List.drop_of_length_le (by omega)] at hok
    rw [hok]
    simp (disch := first | omega | (simp only [ds] <;> omega) | fail) only [wk, undefM, Nat.reduceLT, Nat.reduceAdd, Nat.reduceMul, Nat.reduceSub, Nat.reduceBEq, Nat.reduceEqDiff, Int.reduceToNat, reduceIte, tsN]
    exact ⟨rfl, hg2⟩
/-- pomaceref05.Same of a range and itself -/
theorem rSame_v (r : Rg) (tk tk' : Tok) (O : VH) (hn : r.2.2.length ≤ maxLen) : VF Tryd.prog 12 [.agg (rgM r tk), .agg (rgM r tk')] O (Ret fun m O' => m = mb true ∧ O.Ge O') := by
  obtain ⟨hard, ver, L⟩ := r
  dsimp only at hn
  have hge := fun x y => ((VH.Ge.refl O).push x).push y
  have hpl := iv_len L
  have hnm : (L.length : Int) ≤ 9223372036854775807 := by simp [maxLen] at hn; omega
  have hk1 : ((O.push (.cells (rgM (hard, ver, L) tk))).push (.cells (rgM (hard, ver, L) tk'))).hp O.next = some (.cells (rgM (hard, ver, L) tk)) := (VH.push_ne _ _ (by show O.next ≠ O.next + 1; omega)).trans (VH.push_new O _)
  have hk2 : ((O.push (.cells (rgM (hard, ver, L) tk))).push (.cells (rgM (hard, ver, L) tk'))).hp (O.next + 1) = some (.cells (rgM (hard, ver, L) tk')) := VH.push_new _ _
  simp only [rgM] at hk1 hk2
  refine VF.ofW (n := ⟨45, 0⟩) (rs := [.tmp 4]) tabOk Tryd.func12 rfl rfl rfl (Nat.le_of_ble_eq_true rfl) ?_
  simp only [argEnv, Nat.zero_add, Nat.reduceAdd]
  simp (disch := first | omega | (simp only [ds] <;> omega) | fail) only [wk, undefM, Nat.reduceLT, Nat.reduceAdd, Nat.reduceMul, Nat.reduceSub, Nat.reduceBEq, Nat.reduceEqDiff, Int.reduceToNat, reduceIte, tsN, rgM, beq_self_eq_true, bne_self_eq_false, BEq.rfl]
  refine WC.loopK tabOk [30] [2, 3, 29] (fun j : Nat => [mi j]) (fun j O' => ((O.push (.cells (rgM (hard, ver, L) tk))).push (.cells (rgM (hard, ver, L) tk'))).Ge O' ∧ j ≤ L.length) (fun j => L.length - j) (0) rfl rfl ?_ ?_
  · exact ⟨VH.Ge.refl _, Nat.zero_le _⟩
  rintro j O2 ⟨hg2, hj⟩
  have hk1' := (hg2.hp O.next (by show O.next < O.next + 2; omega)).trans hk1
  have hk2' := (hg2.hp (O.next + 1) (by show O.next + 1 < O.next + 2; omega)).trans hk2
  by_cases h2 : j < L.length
  · have hp6 := iv_at L j h2
    generalize hp : L[j] = p at *
    obtain ⟨⟨h1, v1, c1⟩, ⟨h3, v3, c3⟩⟩ := p
    simp (disch := first | omega | (simp only [ds] <;> omega) | fail) only [wk, undefM, Nat.reduceLT, Nat.reduceAdd, Nat.reduceMul, Nat.reduceSub, Nat.reduceBEq, Nat.reduceEqDiff, Int.reduceToNat, reduceIte, tsN]
    refine WC.reads tabOk (by kernel_rfl) (by kernel_rfl) (by kernel_rfl) ?_
    simp (disch := first | omega | (simp only [ds] <;> omega) | fail) only [wk, undefM, Nat.reduceLT, Nat.reduceAdd, Nat.reduceMul, Nat.reduceSub, Nat.reduceBEq, Nat.reduceEqDiff, Int.reduceToNat, reduceIte, tsN, hk1', hk2', hp6, ivM, enM, vbin_agg]
    refine VL.eqS tabOk (bb := !(((h1 == h1) && ((v1 == v1) && ((c1 == c1) && true))) && (((h3 == h3) && ((v3 == v3) && ((c3 == c3) && true))) && true))) (b := ((h1 == h1) && ((v1 == v1) && ((c1 == c1) && true))) && (((h3 == h3) && ((v3 == v3) && ((c3 == c3) && true))) && true)) (by simp) (by simp) (.inr ⟨rfl, rfl⟩) (by kernel_rfl) (by kernel_rfl) rfl rfl rfl rfl ?_
    simp (disch := first | omega | (simp only [ds] <;> omega) | fail) only [wk, undefM, Nat.reduceLT, Nat.reduceAdd, Nat.reduceMul, Nat.reduceSub, Nat.reduceBEq, Nat.reduceEqDiff, Int.reduceToNat, reduceIte, tsN, BEq.rfl, beq_self_eq_true]
    refine RoundQ.next (j + 1) rfl rfl ?_ (by first | omega | (dsimp only; omega))
    exact ⟨hg2, by omega⟩
  · simp (disch := first | omega | (simp only [ds] <;> omega) | fail) only [wk, undefM, Nat.reduceLT, Nat.reduceAdd, Nat.reduceMul, Nat.reduceSub, Nat.reduceBEq, Nat.reduceEqDiff, Int.reduceToNat, reduceIte, tsN]
    exact (hge _ _).trans hg2
end Go.Proofs.YtbpnmkmlicbfoaaDoor

/-
  The statements of the package bounds: the examples, walked.
-/
set_option linter.unusedVariables false
set_option linter.unusedSimpArgs false
namespace Go.Proofs.YtbpnmkmlicbfoaaDoor
open Go.RowKit
set_option maxRecDepth 10000
def exA : List Iv := [((true, [49], true), (true, [50], false))]
def exB : List Iv := [((false, [], false), (true, [49], true)), ((true, [50], true), (false, [], false))]
def exC : List Iv := [((true, [49], true), (true, [49], true))]
/-- pomacelaw05.lives -/
theorem lives5_v (O : VH) : VF Tryd.prog 13 [] O (Ret fun m O' => m = mb true ∧ O.Ge O') := by
  have c1 : parseD [91, 49, 44, 50, 41] = ((true, [], exA), 0) := by kernel_rfl
  have c2 : parseD [40, 44, 49, 93, 44, 91, 50, 44, 41] = ((true, [], exB), 0) := by kernel_rfl
  have c3 : parseD [91, 49, 93] = ((true, [], exC), 0) := by kernel_rfl
  have c4 : parseD [91, 50, 44, 49, 93] = ((false, [], []), 21) := by kernel_rfl
  have c5 : parseD [91, 49, 44, 50] = ((false, [], []), 21) := by kernel_rfl
  have c6 : parseD [49, 46, 48] = ((false, [49, 46, 48], []), 0) := by kernel_rfl
  have o1 : RgOk (true, [], exA) := by unfold RgOk; decide
  have o2 : RgOk (true, [], exB) := by unfold RgOk; decide
  have o3 : RgOk (true, [], exC) := by unfold RgOk; decide
  have d1 : hasF (true, [], exA) [49] = true := by decide +kernel
  have d2 : hasF (true, [], exA) [49, 46, 57] = true := by decide +kernel
  have d3 : hasF (true, [], exA) [50] = false := by decide +kernel
  have d4 : hasF (true, [], exA) [50, 46, 48] = false := by decide +kernel
  have d5 : hasF (true, [], exB) [48, 46, 53] = true := by decide +kernel
  have d6 : hasF (true, [], exB) [51] = true := by decide +kernel
  have d7 : hasF (true, [], exB) [49, 46, 53] = false := by decide +kernel
  have d8 : hasF (true, [], exC) [49, 46, 48] = true := by decide +kernel
  generalize exA = A at *
  generalize exB = B at *
  generalize exC = C at *
  have hgO := VH.Ge.refl O
  refine VF.ofW (n := ⟨96, 0⟩) (rs := [.tmp 0]) tabOk Tryd.func13 rfl rfl rfl (Nat.le_of_ble_eq_true rfl) ?_
  simp only [argEnv, Nat.zero_add, Nat.reduceAdd]
  simp (disch := first | omega | (simp only [ds] <;> omega) | fail) only [wk, undefM, Nat.reduceLT, Nat.reduceAdd, Nat.reduceMul, Nat.reduceSub, Nat.reduceBEq, Nat.reduceEqDiff, Int.reduceToNat, reduceIte, tsN]
  refine CallW.rt (Parse_v [91, 49, 44, 50, 41] _ (by decide)) (by kernel_rfl) rfl rfl ?_
  rintro _ P1 ⟨tk1, eM, hg1⟩
  rw [c1] at eM
  subst eM
  simp (disch := first | omega | (simp only [ds] <;> omega) | fail) only [wk, undefM, Nat.reduceLT, Nat.reduceAdd, Nat.reduceMul, Nat.reduceSub, Nat.reduceBEq, Nat.reduceEqDiff, Int.reduceToNat, reduceIte, tsN, wi, rgM]
  have hge1 := ((hgO.trans hg1).push (.cells bndC)).set (k := P1.next) (hgO.trans hg1).next (.cells (rgM (true, [], A) tk1))
  have hgs1 : P1.Ge ((P1.push (.cells bndC)).set P1.next (.cells (rgM (true, [], A) tk1))) := ((VH.Ge.refl P1).push _).set (Nat.le_refl _) _
  have hk1 := VH.set_get (P1.push (.cells bndC)) P1.next (.cells (rgM (true, [], A) tk1))
  have hn1 : P1.next < ((P1.push (.cells bndC)).set P1.next (.cells (rgM (true, [], A) tk1))).next := Nat.lt_succ_self _
  simp only [bndC, rgM, mb_def] at hge1 hk1 hn1 hgs1
  generalize ((P1.push (.cells [.v (.bool false), .str [], .sl 0 [] .nil])).set P1.next (.cells [.v (.bool true), .str [], .sl (A : List Iv).length ((A : List Iv).flatMap ivM) tk1])) = Q1 at *
  refine CallW.rt (Parse_v [40, 44, 49, 93, 44, 91, 50, 44, 41] _ (by decide)) (by kernel_rfl) rfl rfl ?_
  rintro _ P2 ⟨tk2, eM, hg2⟩
  rw [c2] at eM
  subst eM
  simp (disch := first | omega | (simp only [ds] <;> omega) | fail) only [wk, undefM, Nat.reduceLT, Nat.reduceAdd, Nat.reduceMul, Nat.reduceSub, Nat.reduceBEq, Nat.reduceEqDiff, Int.reduceToNat, reduceIte, tsN, wi, rgM]
  have hge2 := ((hge1.trans hg2).push (.cells bndC)).set (k := P2.next) (hge1.trans hg2).next (.cells (rgM (true, [], B) tk2))
  have hgs2 : P2.Ge ((P2.push (.cells bndC)).set P2.next (.cells (rgM (true, [], B) tk2))) := ((VH.Ge.refl P2).push _).set (Nat.le_refl _) _
  have hk2 := VH.set_get (P2.push (.cells bndC)) P2.next (.cells (rgM (true, [], B) tk2))
  have hn2 : P2.next < ((P2.push (.cells bndC)).set P2.next (.cells (rgM (true, [], B) tk2))).next := Nat.lt_succ_self _
  simp only [bndC, rgM, mb_def] at hge2 hk2 hn2 hgs2
  generalize ((P2.push (.cells [.v (.bool false), .str [], .sl 0 [] .nil])).set P2.next (.cells [.v (.bool true), .str [], .sl (B : List Iv).length ((B : List Iv).flatMap ivM) tk2])) = Q2 at *
  refine CallW.rt (Parse_v [91, 49, 93] _ (by decide)) (by kernel_rfl) rfl rfl ?_
  rintro _ P3 ⟨tk3, eM, hg3⟩
  rw [c3] at eM
  subst eM
  simp (disch := first | omega | (simp only [ds] <;> omega) | fail) only [wk, undefM, Nat.reduceLT, Nat.reduceAdd, Nat.reduceMul, Nat.reduceSub, Nat.reduceBEq, Nat.reduceEqDiff, Int.reduceToNat, reduceIte, tsN, wi, rgM]
  have hge3 := ((hge2.trans hg3).push (.cells bndC)).set (k := P3.next) (hge2.trans hg3).next (.cells (rgM (true, [], C) tk3))
  have hgs3 : P3.Ge ((P3.push (.cells bndC)).set P3.next (.cells (rgM (true, [], C) tk3))) := ((VH.Ge.refl P3).push _).set (Nat.le_refl _) _
  have hk3 := VH.set_get (P3.push (.cells bndC)) P3.next (.cells (rgM (true, [], C) tk3))
  have hn3 : P3.next < ((P3.push (.cells bndC)).set P3.next (.cells (rgM (true, [], C) tk3))).next := Nat.lt_succ_self _
  simp only [bndC, rgM, mb_def] at hge3 hk3 hn3 hgs3
  generalize ((P3.push (.cells [.v (.bool false), .str [], .sl 0 [] .nil])).set P3.next (.cells [.v (.bool true), .str [], .sl (C : List Iv).length ((C : List Iv).flatMap ivM) tk3])) = Q3 at *
  refine CallW.rt (Parse_v [91, 50, 44, 49, 93] _ (by decide)) (by kernel_rfl) rfl rfl ?_
  rintro _ P4 ⟨tk4, eM, hg4⟩
  rw [c4] at eM
  subst eM
  simp (disch := first | omega | (simp only [ds] <;> omega) | fail) only [wk, undefM, Nat.reduceLT, Nat.reduceAdd, Nat.reduceMul, Nat.reduceSub, Nat.reduceBEq, Nat.reduceEqDiff, Int.reduceToNat, reduceIte, tsN, wi, rgM]
  have hge4 := ((hge3.trans hg4).push (.cells bndC)).set (k := P4.next) (hge3.trans hg4).next (.cells (rgM (false, [], []) tk4))
  have hgs4 : P4.Ge ((P4.push (.cells bndC)).set P4.next (.cells (rgM (false, [], []) tk4))) := ((VH.Ge.refl P4).push _).set (Nat.le_refl _) _
  have hk4 := VH.set_get (P4.push (.cells bndC)) P4.next (.cells (rgM (false, [], []) tk4))
  have hn4 : P4.next < ((P4.push (.cells bndC)).set P4.next (.cells (rgM (false, [], []) tk4))).next := Nat.lt_succ_self _
  simp only [bndC, rgM, mb_def] at hge4 hk4 hn4 hgs4
  generalize ((P4.push (.cells [.v (.bool false), .str [], .sl 0 [] .nil])).set P4.next (.cells [.v (.bool false), .str [], .sl ([] : List Iv).length (([] : List Iv).flatMap ivM) tk4])) = Q4 at *
  refine CallW.rt (Parse_v [91, 49, 44, 50] _ (by decide)) (by kernel_rfl) rfl rfl ?_
  rintro _ P5 ⟨tk5, eM, hg5⟩
  rw [c5] at eM
  subst eM
  simp (disch := first | omega | (simp only [ds] <;> omega) | fail) only [wk, undefM, Nat.reduceLT, Nat.reduceAdd, Nat.reduceMul, Nat.reduceSub, Nat.reduceBEq, Nat.reduceEqDiff, Int.reduceToNat, reduceIte, tsN, wi, rgM]
  have hge5 := ((hge4.trans hg5).push (.cells bndC)).set (k := P5.next) (hge4.trans hg5).next (.cells (rgM (false, [], []) tk5))
  have hgs5 : P5.Ge ((P5.push (.cells bndC)).set P5.next (.cells (rgM (false, [], []) tk5))) := ((VH.Ge.refl P5).push _).set (Nat.le_refl _) _
  have hk5 := VH.set_get (P5.push (.cells bndC)) P5.next (.cells (rgM (false, [], []) tk5))
  have hn5 : P5.next < ((P5.push (.cells bndC)).set P5.next (.cells (rgM (false, [], []) tk5))).next := Nat.lt_succ_self _
  simp only [bndC, rgM, mb_def] at hge5 hk5 hn5 hgs5
  generalize ((P5.push (.cells [.v (.bool false), .str [], .sl 0 [] .nil])).set P5.next (.cells [.v (.bool false), .str [], .sl ([] : List Iv).length (([] : List Iv).flatMap ivM) tk5])) = Q5 at *
  refine CallW.rt (Parse_v [49, 46, 48] _ (by decide)) (by kernel_rfl) rfl rfl ?_
  rintro _ P6 ⟨tk6, eM, hg6⟩
  rw [c6] at eM
  subst eM
  simp (disch := first | omega | (simp only [ds] <;> omega) | fail) only [wk, undefM, Nat.reduceLT, Nat.reduceAdd, Nat.reduceMul, Nat.reduceSub, Nat.reduceBEq, Nat.reduceEqDiff, Int.reduceToNat, reduceIte, tsN, wi, rgM]
  have hge6 := ((hge5.trans hg6).push (.cells bndC)).set (k := P6.next) (hge5.trans hg6).next (.cells (rgM (false, [49, 46, 48], []) tk6))
  have hgs6 : P6.Ge ((P6.push (.cells bndC)).set P6.next (.cells (rgM (false, [49, 46, 48], []) tk6))) := ((VH.Ge.refl P6).push _).set (Nat.le_refl _) _
  have hk6 := VH.set_get (P6.push (.cells bndC)) P6.next (.cells (rgM (false, [49, 46, 48], []) tk6))
  have hn6 : P6.next < ((P6.push (.cells bndC)).set P6.next (.cells (rgM (false, [49, 46, 48], []) tk6))).next := Nat.lt_succ_self _
  simp only [bndC, rgM, mb_def] at hge6 hk6 hn6 hgs6
  generalize ((P6.push (.cells [.v (.bool false), .str [], .sl 0 [] .nil])).set P6.next (.cells [.v (.bool false), .str [49, 46, 48], .sl ([] : List Iv).length (([] : List Iv).flatMap ivM) tk6])) = Q6 at *
  have g56 := hg6.trans hgs6
  have g46 := (hg5.trans hgs5).trans g56
  have g36 := (hg4.trans hgs4).trans g46
  have g26 := (hg3.trans hgs3).trans g36
  have g16 := (hg2.trans hgs2).trans g26
  have hA := (g16.hp _ hn1).trans hk1
  have hB := (g26.hp _ hn2).trans hk2
  have hC := (g36.hp _ hn3).trans hk3
  have hG := hge6
  have m1 := Nat.lt_of_lt_of_le hn1 g16.next
  have m2 := Nat.lt_of_lt_of_le hn2 g26.next
  have m3 := Nat.lt_of_lt_of_le hn3 g36.next
  clear g16 g26 g36 g46 g56 hg1 hg2 hg3 hg4 hg5 hg6 hgs1 hgs2 hgs3 hgs4 hgs5 hgs6 hk1 hk2 hk3 hk4 hk5 hge1 hge2 hge3 hge4 hge5 hge6 hn1 hn2 hn3 hn4 hn5
  simp (disch := first | omega | (simp only [ds] <;> omega) | fail) only [wk, undefM, Nat.reduceLT, Nat.reduceAdd, Nat.reduceMul, Nat.reduceSub, Nat.reduceBEq, Nat.reduceEqDiff, Int.reduceToNat, reduceIte, tsN, hk6, hA, hB, hC, rgM]
  refine CallW.rt (Has_v (true, [], A) tk1 [49] _ o1 (by decide)) (by kernel_rfl) rfl rfl ?_
  rintro _ R01 ⟨rfl, h01⟩
  rw [d1]
  replace hA := (h01.hp _ (by omega)).trans hA
  replace hB := (h01.hp _ (by omega)).trans hB
  replace hC := (h01.hp _ (by omega)).trans hC
  replace hG := hG.trans h01
  have N01 := h01.next
  clear h01
  simp (disch := first | omega | (simp only [ds] <;> omega) | fail) only [wk, undefM, Nat.reduceLT, Nat.reduceAdd, Nat.reduceMul, Nat.reduceSub, Nat.reduceBEq, Nat.reduceEqDiff, Int.reduceToNat, reduceIte, tsN, hA, hB, hC, rgM]
  refine CallW.rt (Has_v (true, [], A) tk1 [49, 46, 57] _ o1 (by decide)) (by kernel_rfl) rfl rfl ?_
  rintro _ R02 ⟨rfl, h02⟩
  rw [d2]
  replace hA := (h02.hp _ (by omega)).trans hA
  replace hB := (h02.hp _ (by omega)).trans hB
  replace hC := (h02.hp _ (by omega)).trans hC
  replace hG := hG.trans h02
  have N02 := h02.next
  clear h02
  simp (disch := first | omega | (simp only [ds] <;> omega) | fail) only [wk, undefM, Nat.reduceLT, Nat.reduceAdd, Nat.reduceMul, Nat.reduceSub, Nat.reduceBEq, Nat.reduceEqDiff, Int.reduceToNat, reduceIte, tsN, hA, hB, hC, rgM]
  refine CallW.rt (Has_v (true, [], A) tk1 [50] _ o1 (by decide)) (by kernel_rfl) rfl rfl ?_
  rintro _ R03 ⟨rfl, h03⟩
  rw [d3]
  replace hA := (h03.hp _ (by omega)).trans hA
  replace hB := (h03.hp _ (by omega)).trans hB
  replace hC := (h03.hp _ (by omega)).trans hC
  replace hG := hG.trans h03
  have N03 := h03.next
  clear h03
  simp (disch := first | omega | (simp only [ds] <;> omega) | fail) only [wk, undefM, Nat.reduceLT, Nat.reduceAdd, Nat.reduceMul, Nat.reduceSub, Nat.reduceBEq, Nat.reduceEqDiff, Int.reduceToNat, reduceIte, tsN, hA, hB, hC, rgM]
  refine CallW.rt (Has_v (true, [], A) tk1 [50, 46, 48] _ o1 (by decide)) (by kernel_rfl) rfl rfl ?_
  rintro _ R04 ⟨rfl, h04⟩
  rw [d4]
  replace hA := (h04.hp _ (by omega)).trans hA
  replace hB := (h04.hp _ (by omega)).trans hB
  replace hC := (h04.hp _ (by omega)).trans hC
  replace hG := hG.trans h04
  have N04 := h04.next
  clear h04
  simp (disch := first | omega | (simp only [ds] <;> omega) | fail) only [wk, undefM, Nat.reduceLT, Nat.reduceAdd, Nat.reduceMul, Nat.reduceSub, Nat.reduceBEq, Nat.reduceEqDiff, Int.reduceToNat, reduceIte, tsN, hA, hB, hC, rgM]
  refine CallW.rt (Has_v (true, [], B) tk2 [48, 46, 53] _ o2 (by decide)) (by kernel_rfl) rfl rfl ?_
  rintro _ R05 ⟨rfl, h05⟩
  rw [d5]
  replace hA := (h05.hp _ (by omega)).trans hA
  replace hB := (h05.hp _ (by omega)).trans hB
  replace hC := (h05.hp _ (by omega)).trans hC
  replace hG := hG.trans h05
  have N05 := h05.next
  clear h05
  simp (disch := first | omega | (simp only [ds] <;> omega) | fail) only [wk, undefM, Nat.reduceLT, Nat.reduceAdd, Nat.reduceMul, Nat.reduceSub, Nat.reduceBEq, Nat.reduceEqDiff, Int.reduceToNat, reduceIte, tsN, hA, hB, hC, rgM]
  refine CallW.rt (Has_v (true, [], B) tk2 [51] _ o2 (by decide)) (by kernel_rfl) rfl rfl ?_
  rintro _ R06 ⟨rfl, h06⟩
  rw [d6]
  replace hA := (h06.hp _ (by omega)).trans hA
  replace hB := (h06.hp _ (by omega)).trans hB
  replace hC := (h06.hp _ (by omega)).trans hC
  replace hG := hG.trans h06
  have N06 := h06.next
  clear h06
  simp (disch := first | omega | (simp only [ds] <;> omega) | fail) only [wk, undefM, Nat.reduceLT, Nat.reduceAdd, Nat.reduceMul, Nat.reduceSub, Nat.reduceBEq, Nat.reduceEqDiff, Int.reduceToNat, reduceIte, tsN, hA, hB, hC, rgM]
  refine CallW.rt (Has_v (true, [], B) tk2 [49, 46, 53] _ o2 (by decide)) (by kernel_rfl) rfl rfl ?_
  rintro _ R07 ⟨rfl, h07⟩
  rw [d7]
  replace hA := (h07.hp _ (by omega)).trans hA
  replace hB := (h07.hp _ (by omega)).trans hB
  replace hC := (h07.hp _ (by omega)).trans hC
  replace hG := hG.trans h07
  have N07 := h07.next
  clear h07
  simp (disch := first | omega | (simp only [ds] <;> omega) | fail) only [wk, undefM, Nat.reduceLT, Nat.reduceAdd, Nat.reduceMul, Nat.reduceSub, Nat.reduceBEq, Nat.reduceEqDiff, Int.reduceToNat, reduceIte, tsN, hA, hB, hC, rgM]
  refine CallW.rt (Has_v (true, [], C) tk3 [49, 46, 48] _ o3 (by decide)) (by kernel_rfl) rfl rfl ?_
  rintro _ R08 ⟨rfl, h08⟩
  rw [d8]
  replace hA := (h08.hp _ (by omega)).trans hA
  replace hB := (h08.hp _ (by omega)).trans hB
  replace hC := (h08.hp _ (by omega)).trans hC
  replace hG := hG.trans h08
  have N08 := h08.next
  clear h08
  simp (disch := first | omega | (simp only [ds] <;> omega) | fail) only [wk, undefM, Nat.reduceLT, Nat.reduceAdd, Nat.reduceMul, Nat.reduceSub, Nat.reduceBEq, Nat.reduceEqDiff, Int.reduceToNat, reduceIte, tsN, hA, hB, hC, rgM]
  exact hG
end Go.Proofs.YtbpnmkmlicbfoaaDoor

/-
  The laws BoundsParses and BoundsHas, walked.
-/
set_option linter.unusedVariables false
set_option linter.unusedSimpArgs false
namespace Go.Proofs.YtbpnmkmlicbfoaaDoor
open Go.RowKit
set_option maxRecDepth 10000
theorem may_len {q : Rg} (h : mayR q = true) : q.2.2.length ≤ maxLen := by
  unfold mayR at h
  simp only [maxLen]
  split at h
  · simp only [Bool.and_eq_true, decide_eq_true_eq] at h; omega
  · simp only [Bool.and_eq_true, decide_eq_true_eq] at h; omega
theorem parse_may {t : List UInt8} {q : Rg} (h : parseT t = some q) : mayR q = true := by
  unfold parseT at h
  split at h
  · obtain ⟨L, h1, h2⟩ := Option.bind_eq_some_iff.1 h
    split at h2
    · injection h2 with h2; subst h2; assumption
    · cases h2
  · split at h
    · injection h with h; subst h; assumption
    · cases h
/-- pomacelaw05.BoundsParses -/
theorem parses5_law (s : List UInt8) (O : VH) (hs : s.length ≤ maxLen) : VF Tryd.prog 3 [.str s] O (Ret fun m O' => m = mb true) := by
  refine VF.ofW (n := ⟨41, 0⟩) (rs := [.tmp 2]) tabOk Tryd.func3 rfl rfl rfl (Nat.le_of_ble_eq_true rfl) ?_
  simp only [argEnv, Nat.zero_add, Nat.reduceAdd]
  simp (disch := first | omega | (simp only [ds] <;> omega) | fail) only [wk, undefM, Nat.reduceLT, Nat.reduceAdd, Nat.reduceMul, Nat.reduceSub, Nat.reduceBEq, Nat.reduceEqDiff, Int.reduceToNat, reduceIte, tsN]
  refine CallW.rt (lawCut5_v s _ hs) (by kernel_rfl) rfl rfl ?_
  rintro _ OX ⟨rfl, eX⟩
  rw [eX]; clear eX OX
  have ha := cut300 s
  generalize s.take 300 = u at *
  simp (disch := first | omega | (simp only [ds] <;> omega) | fail) only [wk, undefM, Nat.reduceLT, Nat.reduceAdd, Nat.reduceMul, Nat.reduceSub, Nat.reduceBEq, Nat.reduceEqDiff, Int.reduceToNat, reduceIte, tsN]
  cases hP : parseR u with
  | none =>
    have hD : parseD u = ((false, [], []), 21) := by unfold parseD; rw [hP]; rfl
    refine CallW.rt (Parse_v u _ ha) (by kernel_rfl) rfl rfl ?_
    rintro _ O2 ⟨tk, eM, hg2⟩
    rw [hD] at eM
    subst eM
    simp (disch := first | omega | (simp only [ds] <;> omega) | fail) only [wk, undefM, Nat.reduceLT, Nat.reduceAdd, Nat.reduceMul, Nat.reduceSub, Nat.reduceBEq, Nat.reduceEqDiff, Int.reduceToNat, reduceIte, tsN, wi, rgM]
    have hk2 := VH.set_get (O2.push (.cells bndC)) O2.next (.cells (rgM (false, [], []) tk))
    have hn2 : O2.next < ((O2.push (.cells bndC)).set O2.next (.cells (rgM (false, [], []) tk))).next := Nat.lt_succ_self _
    simp only [bndC, rgM, mb_def] at hk2 hn2
    generalize ((O2.push (.cells [.v (.bool false), .str [], .sl 0 [] .nil])).set O2.next (.cells [.v (.bool false), .str [], .sl ([] : List Iv).length (([] : List Iv).flatMap ivM) tk])) = Q2 at *
    refine CallW.rt (rParse_v u _ ha) (by kernel_rfl) rfl rfl ?_
    rintro _ O3 ⟨r, tk3, rfl, hr, hg3⟩
    rw [hP]
    have hk3 := (hg3.hp _ hn2).trans hk2
    have hn3 := Nat.lt_of_lt_of_le hn2 hg3.next
    obtain ⟨h1, v1, l1⟩ := r
    simp (disch := first | omega | (simp only [ds] <;> omega) | fail) only [wk, undefM, Nat.reduceLT, Nat.reduceAdd, Nat.reduceMul, Nat.reduceSub, Nat.reduceBEq, Nat.reduceEqDiff, Int.reduceToNat, reduceIte, tsN, wi, rgM, hk3, Option.isSome_none, Option.isSome_some]
    refine CallW.rt (rSame_v (false, [], []) tk .nil _ (Nat.zero_le _)) (by kernel_rfl) rfl rfl ?_
    rintro _ O5 ⟨rfl, hg5⟩
    simp (disch := first | omega | (simp only [ds] <;> omega) | fail) only [wk, undefM, Nat.reduceLT, Nat.reduceAdd, Nat.reduceMul, Nat.reduceSub, Nat.reduceBEq, Nat.reduceEqDiff, Int.reduceToNat, reduceIte, tsN]
    refine CallW.rt (lives5_v _) (by kernel_rfl) rfl rfl ?_
    rintro _ O6 ⟨rfl, hg6⟩
    simp (disch := first | omega | (simp only [ds] <;> omega) | fail) only [wk, undefM, Nat.reduceLT, Nat.reduceAdd, Nat.reduceMul, Nat.reduceSub, Nat.reduceBEq, Nat.reduceEqDiff, Int.reduceToNat, reduceIte, tsN]
  | some q =>
    have hD : parseD u = (q, 0) := by unfold parseD; rw [hP]; rfl
    have hql := may_len (parse_may hP)
    obtain ⟨hd, ver, L⟩ := q
    refine CallW.rt (Parse_v u _ ha) (by kernel_rfl) rfl rfl ?_
    rintro _ O2 ⟨tk, eM, hg2⟩
    rw [hD] at eM
    subst eM
    simp (disch := first | omega | (simp only [ds] <;> omega) | fail) only [wk, undefM, Nat.reduceLT, Nat.reduceAdd, Nat.reduceMul, Nat.reduceSub, Nat.reduceBEq, Nat.reduceEqDiff, Int.reduceToNat, reduceIte, tsN, wi, rgM]
    have hk2 := VH.set_get (O2.push (.cells bndC)) O2.next (.cells (rgM (hd, ver, L) tk))
    have hn2 : O2.next < ((O2.push (.cells bndC)).set O2.next (.cells (rgM (hd, ver, L) tk))).next := Nat.lt_succ_self _
    simp only [bndC, rgM, mb_def] at hk2 hn2
    generalize ((O2.push (.cells [.v (.bool false), .str [], .sl 0 [] .nil])).set O2.next (.cells [.v (.bool hd), .str ver, .sl (L : List Iv).length ((L : List Iv).flatMap ivM) tk])) = Q2 at *
    refine CallW.rt (rParse_v u _ ha) (by kernel_rfl) rfl rfl ?_
    rintro _ O3 ⟨r, tk3, rfl, hr, hg3⟩
    rw [hP]
    have hk3 := (hg3.hp _ hn2).trans hk2
    have hn3 := Nat.lt_of_lt_of_le hn2 hg3.next
    have hrq := hr _ hP
    subst hrq
    simp (disch := first | omega | (simp only [ds] <;> omega) | fail) only [wk, undefM, Nat.reduceLT, Nat.reduceAdd, Nat.reduceMul, Nat.reduceSub, Nat.reduceBEq, Nat.reduceEqDiff, Int.reduceToNat, reduceIte, tsN, wi, rgM, hk3, Option.isSome_none, Option.isSome_some]
    refine CallW.rt (rSame_v (hd, ver, L) tk tk3 _ hql) (by kernel_rfl) rfl rfl ?_
    rintro _ O5 ⟨rfl, hg5⟩
    simp (disch := first | omega | (simp only [ds] <;> omega) | fail) only [wk, undefM, Nat.reduceLT, Nat.reduceAdd, Nat.reduceMul, Nat.reduceSub, Nat.reduceBEq, Nat.reduceEqDiff, Int.reduceToNat, reduceIte, tsN]
    refine CallW.rt (lives5_v _) (by kernel_rfl) rfl rfl ?_
    rintro _ O6 ⟨rfl, hg6⟩
    simp (disch := first | omega | (simp only [ds] <;> omega) | fail) only [wk, undefM, Nat.reduceLT, Nat.reduceAdd, Nat.reduceMul, Nat.reduceSub, Nat.reduceBEq, Nat.reduceEqDiff, Int.reduceToNat, reduceIte, tsN]
/-- A range as a statement's argument. -/
abbrev RgA := Bool × List UInt8 × List Iv × Tok
def ivIn (x : Iv) : Prop := (True ∧ x.1.2.1.length ≤ maxLen ∧ True) ∧ (True ∧ x.2.2.1.length ≤ maxLen ∧ True)
def RgIn (y : RgA) : Prop := True ∧ y.2.1.length ≤ maxLen ∧ (∀ x ∈ y.2.2.1, ivIn x) ∧ y.2.2.1.length ≤ maxLen
def rgY (y : RgA) : Rg := (y.1, y.2.1, y.2.2.1)
/-- pomacelaw05.BoundsHas -/
theorem has5_law (y : RgA) (v : List UInt8) (O : VH) (hy : RgIn y) (hv : v.length ≤ maxLen) : VF Tryd.prog 4 [.agg (rgM (rgY y) y.2.2.2), .str v] O (Ret fun m O' => m = mb true) := by
  obtain ⟨hd, ver, L, tk⟩ := y
  obtain ⟨_, h1, h2, h3⟩ := hy
  dsimp only [rgY] at h1 h2 h3 ⊢
  refine VF.ofW (n := ⟨21, 0⟩) (rs := [.tmp 4]) tabOk Tryd.func4 rfl rfl rfl (Nat.le_of_ble_eq_true rfl) ?_
  simp only [argEnv, Nat.zero_add, Nat.reduceAdd]
  simp (disch := first | omega | (simp only [ds] <;> omega) | fail) only [wk, undefM, Nat.reduceLT, Nat.reduceAdd, Nat.reduceMul, Nat.reduceSub, Nat.reduceBEq, Nat.reduceEqDiff, Int.reduceToNat, reduceIte, tsN, rgM]
  refine CallW.rt (lawCut5_v v _ hv) (by kernel_rfl) rfl rfl ?_
  rintro _ OX ⟨rfl, eX⟩
  rw [eX]; clear eX OX
  have ha := cut300 v
  generalize v.take 300 = u at *
  have hk := VH.push_new O (.cells (rgM (hd, ver, L) tk))
  have hn : O.next < (O.push (.cells (rgM (hd, ver, L) tk))).next := Nat.lt_succ_self _
  simp only [rgM, mb_def] at hk hn
  generalize O.push (.cells [.v (.bool hd), .str ver, .sl L.length (L.flatMap ivM) tk]) = O1 at *
  simp (disch := first | omega | (simp only [ds] <;> omega) | fail) only [wk, undefM, Nat.reduceLT, Nat.reduceAdd, Nat.reduceMul, Nat.reduceSub, Nat.reduceBEq, Nat.reduceEqDiff, Int.reduceToNat, reduceIte, tsN, hk]
  refine CallW.rt (Light_v (hd, ver, L) tk _ h1 h3 (fun p hp => ⟨(h2 p hp).1.2.1, (h2 p hp).2.2.1⟩)) (by kernel_rfl) rfl rfl ?_
  rintro _ O2 ⟨rfl, hg2⟩
  have hk2 := (hg2.hp _ hn).trans hk
  cases hl : lightR (hd, ver, L)
  · simp (disch := first | omega | (simp only [ds] <;> omega) | fail) only [wk, undefM, Nat.reduceLT, Nat.reduceAdd, Nat.reduceMul, Nat.reduceSub, Nat.reduceBEq, Nat.reduceEqDiff, Int.reduceToNat, reduceIte, tsN]
    refine CallW.rt (lives5_v _) (by kernel_rfl) rfl rfl ?_
    rintro _ O6 ⟨rfl, hg6⟩
    simp (disch := first | omega | (simp only [ds] <;> omega) | fail) only [wk, undefM, Nat.reduceLT, Nat.reduceAdd, Nat.reduceMul, Nat.reduceSub, Nat.reduceBEq, Nat.reduceEqDiff, Int.reduceToNat, reduceIte, tsN]
  have hok := (light_ok hl).1
  simp (disch := first | omega | (simp only [ds] <;> omega) | fail) only [wk, undefM, Nat.reduceLT, Nat.reduceAdd, Nat.reduceMul, Nat.reduceSub, Nat.reduceBEq, Nat.reduceEqDiff, Int.reduceToNat, reduceIte, tsN]
  refine VC.drawF [] (O.next) (hk2) (by kernel_rfl) ?_
  intro X
  refine VAnyE.ldF (m := .agg [.v (.bool hd), .str ver, .sl L.length (L.flatMap ivM) tk]) tabOk 0 rfl (by kernel_rfl) (by kernel_rfl) (by kernel_rfl) (by kernel_rfl) rfl rfl rfl ?_ ?_
  · simp (disch := first | omega | (simp only [ds] <;> omega) | fail) only [wk, undefM, Nat.reduceLT, Nat.reduceAdd, Nat.reduceMul, Nat.reduceSub, Nat.reduceBEq, Nat.reduceEqDiff, Int.reduceToNat, reduceIte, tsN]
  simp only [putM_some]
  refine VAnyE.ldF (m := .agg [.v (.bool hd), .str ver, .sl L.length (L.flatMap ivM) tk]) tabOk 3 rfl (by kernel_rfl) (by kernel_rfl) (by kernel_rfl) (by kernel_rfl) rfl rfl rfl ?_ ?_
  · simp (disch := first | omega | (simp only [ds] <;> omega) | fail) only [wk, undefM, Nat.reduceLT, Nat.reduceAdd, Nat.reduceMul, Nat.reduceSub, Nat.reduceBEq, Nat.reduceEqDiff, Int.reduceToNat, reduceIte, tsN]
  simp only [putM_some]
  refine VAnyE.sil tabOk 1 rfl (by kernel_rfl) (by kernel_rfl) (by kernel_rfl) (by kernel_rfl) rfl rfl ?_
  simp (disch := first | omega | (simp only [ds] <;> omega) | fail) only [wk, undefM, Nat.reduceLT, Nat.reduceAdd, Nat.reduceMul, Nat.reduceSub, Nat.reduceBEq, Nat.reduceEqDiff, Int.reduceToNat, reduceIte, PreK_some, putM_some, tsN]
  refine VAnyE.sil tabOk 4 rfl (by kernel_rfl) (by kernel_rfl) (by kernel_rfl) (by kernel_rfl) rfl rfl ?_
  simp (disch := first | omega | (simp only [ds] <;> omega) | fail) only [wk, undefM, Nat.reduceLT, Nat.reduceAdd, Nat.reduceMul, Nat.reduceSub, Nat.reduceBEq, Nat.reduceEqDiff, Int.reduceToNat, reduceIte, PreK_some, putM_some, tsN]
  refine VAnyE.call (i := 2) (by kernel_rfl) rfl rfl rfl rfl (by kernel_rfl) rfl (Has_v (hd, ver, L) tk u _ hok ha) ?_
  rintro _ O3 ⟨rfl, hg3⟩
  simp only [putM_some]
  have hX3 := (hg3.hp _ (Nat.lt_of_lt_of_le hn hg2.next)).trans (VH.set_get _ _ _)
  refine ⟨hX3, ?_⟩
  refine VAnyE.call (i := 5) (by kernel_rfl) rfl rfl rfl rfl (by kernel_rfl) rfl (rHas_v (hd, ver, L) tk u _ hok ha) ?_
  rintro _ O4 ⟨rfl, hg4⟩
  simp only [putM_some]
  have hX4 := (hg4.hp _ (Nat.lt_of_lt_of_le (Nat.lt_of_lt_of_le hn hg2.next) hg3.next)).trans hX3
  refine ⟨hX4, ?_⟩
  refine VAnyE.sil tabOk 6 rfl (by kernel_rfl) (by kernel_rfl) (by kernel_rfl) (by kernel_rfl) rfl rfl ?_
  simp (disch := first | omega | (simp only [ds] <;> omega) | fail) only [wk, undefM, Nat.reduceLT, Nat.reduceAdd, Nat.reduceMul, Nat.reduceSub, Nat.reduceBEq, Nat.reduceEqDiff, Int.reduceToNat, reduceIte, PreK_some, putM_some, tsN, beq_self_eq_true]
  refine VAnyE.sil tabOk 7 rfl (by kernel_rfl) (by kernel_rfl) (by kernel_rfl) (by kernel_rfl) rfl rfl ?_
  simp (disch := first | omega | (simp only [ds] <;> omega) | fail) only [wk, undefM, Nat.reduceLT, Nat.reduceAdd, Nat.reduceMul, Nat.reduceSub, Nat.reduceBEq, Nat.reduceEqDiff, Int.reduceToNat, reduceIte, PreK_some, putM_some, tsN]
  refine VAnyE.call (i := 8) (by kernel_rfl) rfl rfl rfl rfl (by kernel_rfl) rfl (lives5_v _) ?_
  rintro _ O5 ⟨rfl, hg5⟩
  simp only [putM_some]
  have hX5 := (hg5.hp _ (Nat.lt_of_lt_of_le (Nat.lt_of_lt_of_le (Nat.lt_of_lt_of_le hn hg2.next) hg3.next) hg4.next)).trans hX4
  refine ⟨hX5, ?_⟩
  refine VAnyE.sil tabOk 9 rfl (by kernel_rfl) (by kernel_rfl) (by kernel_rfl) (by kernel_rfl) rfl rfl ?_
  simp (disch := first | omega | (simp only [ds] <;> omega) | fail) only [wk, undefM, Nat.reduceLT, Nat.reduceAdd, Nat.reduceMul, Nat.reduceSub, Nat.reduceBEq, Nat.reduceEqDiff, Int.reduceToNat, reduceIte, PreK_some, putM_some, tsN]
  refine VAnyE.sil tabOk 10 rfl (by kernel_rfl) (by kernel_rfl) (by kernel_rfl) (by kernel_rfl) rfl rfl ?_
  simp (disch := first | omega | (simp only [ds] <;> omega) | fail) only [wk, undefM, Nat.reduceLT, Nat.reduceAdd, Nat.reduceMul, Nat.reduceSub, Nat.reduceBEq, Nat.reduceEqDiff, Int.reduceToNat, reduceIte, PreK_some, putM_some, tsN]
  refine VAnyE.planF tabOk [] (by kernel_rfl) (by kernel_rfl) (by kernel_rfl) rfl ?_
  simp (disch := first | omega | (simp only [ds] <;> omega) | fail) only [wk, undefM, Nat.reduceLT, Nat.reduceAdd, Nat.reduceMul, Nat.reduceSub, Nat.reduceBEq, Nat.reduceEqDiff, Int.reduceToNat, reduceIte, tsN]
end Go.Proofs.YtbpnmkmlicbfoaaDoor

/-
  The package bounds: slices.Clone, tighter, walked.
-/
set_option linter.unusedVariables false
set_option linter.unusedSimpArgs false
namespace Go.Proofs.YtbpnmkmlicbfoaaDoor
open Go.RowKit
set_option maxRecDepth 10000
section
variable {P : Program} {n : Sz} {D : List Deferred} {e : Env} {O : VH}
/-- Is a slice nil? If it has anything, it isn't. -/
theorem nilS_M {d : Option Tmp} {t t' ty el : TypeId} {x : Operand} {ps : String} {af : Array Edge} {g : Option (Nat × Bool)} {k : Nat} {cs : List MV} {tk : Tok} (hu : P.underlying t = some (.slice el)) (hx : ev e x = some (.sl k cs tk)) :
    YieldsM P n D (.mk d (.binOp .eql t x (.const (.slice none 0 0)) t') ty ps af g) e O fun m O' => O' = O ∧ ∃ b, m = .v (.bool b) ∧ (b = true → k = 0 ∧ cs = []) := by
  intro G a w hw hf
  have h1 := hf.ev hx
  have hc : a.eval (.const (.slice none 0 0)) = .slice none 0 0 := rfl
  have key : ∀ (A : Option Addr) (l c : Nat), a.eval x = .slice A l c → (A = none → k = 0 ∧ cs = []) → ∃ m O' u w' H, (O' = O ∧ ∃ b, m = .v (.bool b) ∧ (b = true → k = 0 ∧ cs = [])) ∧ (execOp a.eval (.mk d (.binOp .eql t x (.const (.slice none 0 0)) t') ty ps af g)).run P w = .ok (.value u) w' ∧ Gh.Le G H ∧ WR H O' w' ∧ VR H m u := fun A l c ha hA => by
    refine ⟨.v (.bool A.isNone), O, .bool A.isNone, w, G, ⟨rfl, _, rfl, fun h => hA (by cases A <;> first | rfl | cases h)⟩, ?_, Gh.Le.refl G, hw, .v rfl⟩
    have hgd : (eqGuard .eql t x (.const (.slice none 0 0)) (.slice A l c) (.slice none 0 0)).run P w = .ok () w := by simp [eqGuard]
    simp only [execOp, ha, hc, Sem.run_bind, hgd, Result.andThen_ok, run_eql_slice_nil w t el A l c hu]
    rfl
  generalize hv : a.eval x = v at h1
  cases h1 with
  | slnil => exact key none 0 0 hv fun _ => ⟨rfl, rfl⟩
  | sl0 h => exact key _ _ _ hv fun _ => ⟨rfl, rfl⟩
  | sl0n => exact key none 0 0 hv fun _ => ⟨rfl, rfl⟩
  | sl h1 h2 h3 h4 h5 h6 => exact key _ _ _ hv fun h => by cases h
end
theorem vbin_sl {tab : Tab} {op : BinOp} {t : TypeId} {n : Nat} {cs : List MV} {tk : Tok} {y : MV} : vbin tab op t (.sl n cs tk) y = none := rfl
theorem iv_leaf (L : List Iv) : (L.flatMap ivM).all leafB = true := by
  rw [List.all_flatMap, List.all_eq_true]; intro p _; rfl
/-- slices.Clone of intervals -/
theorem CloneIv_v (L : List Iv) (tk : Tok) (O : VH) (hn : L.length ≤ 100000) : VF Tryd.prog 44 [.sl L.length (L.flatMap ivM) tk] O (Ret fun m O' => ∃ t, m = .sl L.length (L.flatMap ivM) t ∧ O.Ge O') := by
  have hpl := iv_len L
  refine VF.ofW (n := ⟨8, 0⟩) (rs := [.tmp 2]) tabOk Tryd.func44 rfl rfl rfl (Nat.le_of_ble_eq_true rfl) ?_
  simp only [argEnv, Nat.zero_add, Nat.reduceAdd]
  simp (disch := first | omega | (simp only [ds] <;> omega) | fail) only [wk, undefM, Nat.reduceLT, Nat.reduceAdd, Nat.reduceMul, Nat.reduceSub, Nat.reduceBEq, Nat.reduceEqDiff, Int.reduceToNat, reduceIte, tsN, vbin_sl]
  refine VL.stepP (.inl rfl) rfl rfl (nilS_M Tryd.underlying23 rfl) ?_
  rintro _ O1 ⟨eO, b, rfl, hb⟩
  rw [eO]; clear eO O1
  refine WL.sound tabOk ?_
  cases b
  · simp (disch := first | omega | (simp only [ds] <;> omega) | fail) only [wk, undefM, Nat.reduceLT, Nat.reduceAdd, Nat.reduceMul, Nat.reduceSub, Nat.reduceBEq, Nat.reduceEqDiff, Int.reduceToNat, reduceIte, tsN]
    by_cases h0 : L.length = 0
    · have hL : L = [] := List.eq_nil_of_length_eq_zero h0
      subst hL
      refine VL.app tabOk (m := .sl 0 [] .full) (O' := O) (by simp [vappend, ty23, ty57]) rfl rfl rfl rfl ?_
      simp (disch := first | omega | (simp only [ds] <;> omega) | fail) only [wk, undefM, Nat.reduceLT, Nat.reduceAdd, Nat.reduceMul, Nat.reduceSub, Nat.reduceBEq, Nat.reduceEqDiff, Int.reduceToNat, reduceIte, tsN]
      exact ⟨.full, rfl, VH.Ge.refl _⟩
    · have hvap := fun O : VH => vappend_app (tk := .full) (tk' := tk) (B := O.next) (n := 0) (k := L.length) (cs := []) (ds := L.flatMap ivM) ty23 ty57 (O := O) trivial rfl hpl (iv_leaf L) (by decide) h0 (by omega) (by simp [maxLen]; omega)
      refine VL.app tabOk (hvap _) rfl rfl rfl rfl ?_
      simp (disch := first | omega | (simp only [ds] <;> omega) | fail) only [wk, undefM, Nat.reduceLT, Nat.reduceAdd, Nat.reduceMul, Nat.reduceSub, Nat.reduceBEq, Nat.reduceEqDiff, Int.reduceToNat, reduceIte, tsN]
      exact ⟨_, rfl, (VH.Ge.refl _).push _⟩
  · obtain ⟨h0, h1⟩ := hb rfl
    rw [h0, h1]
    simp (disch := first | omega | (simp only [ds] <;> omega) | fail) only [wk, undefM, Nat.reduceLT, Nat.reduceAdd, Nat.reduceMul, Nat.reduceSub, Nat.reduceBEq, Nat.reduceEqDiff, Int.reduceToNat, reduceIte, tsN]
    exact ⟨.nil, rfl, VH.Ge.refl _⟩
/-- Of two ends the tighter one. -/
def tightF (up : Bool) (a b : En) : En :=
  if !a.1 then b else if !b.1 then a else if compareV a.2.1 b.2.1 == 0 && (a.2.2 && !b.2.2) then b else if compareV a.2.1 b.2.1 == 0 || (decide (compareV a.2.1 b.2.1 > 0) == up) then a else b
/-- bounds.tighter -/
theorem tight_v (a b : En) (up : Bool) (O : VH) (ha : a.2.1.length ≤ 10000) (hb : b.2.1.length ≤ 10000) : VF Tryd.prog 45 [.agg (enM a), .agg (enM b), mb up] O (Ret fun m O' => m = .agg (enM (tightF up a b)) ∧ O.Ge O') := by
  obtain ⟨h1, v1, c1⟩ := a
  obtain ⟨h2, v2, c2⟩ := b
  dsimp only at ha hb
  have hge := fun x y z => (((VH.Ge.refl O).push x).push y).push z
  refine VF.ofW (n := ⟨47, 0⟩) (rs := [.cell 6 55]) tabOk Tryd.func45 rfl rfl rfl (Nat.le_of_ble_eq_true rfl) ?_
  simp only [argEnv, Nat.zero_add, Nat.reduceAdd]
  unfold tightF
  dsimp only
  cases h1
  · simp (disch := first | omega | (simp only [ds] <;> omega) | fail) only [wk, undefM, Nat.reduceLT, Nat.reduceAdd, Nat.reduceMul, Nat.reduceSub, Nat.reduceBEq, Nat.reduceEqDiff, Int.reduceToNat, reduceIte, tsN, enM]
    exact (hge _ _ _).set (show O.next ≤ O.next + 1 + 1 by omega) _
  cases h2
  · simp (disch := first | omega | (simp only [ds] <;> omega) | fail) only [wk, undefM, Nat.reduceLT, Nat.reduceAdd, Nat.reduceMul, Nat.reduceSub, Nat.reduceBEq, Nat.reduceEqDiff, Int.reduceToNat, reduceIte, tsN, enM]
    exact (hge _ _ _).set (show O.next ≤ O.next + 1 + 1 by omega) _
  simp (disch := first | omega | (simp only [ds] <;> omega) | fail) only [wk, undefM, Nat.reduceLT, Nat.reduceAdd, Nat.reduceMul, Nat.reduceSub, Nat.reduceBEq, Nat.reduceEqDiff, Int.reduceToNat, reduceIte, tsN, enM]
  have hk1 : (((O.push (.cells [.v (.bool true), .str v1, .v (.bool c1)])).push (.cells [.v (.bool true), .str v2, .v (.bool c2)])).push (.cells [.v (.bool false), .str [], .v (.bool false)])).hp O.next = some (.cells [.v (.bool true), .str v1, .v (.bool c1)]) := (VH.push_ne _ _ (by show O.next ≠ O.next + 1 + 1; omega)).trans ((VH.push_ne _ _ (by show O.next ≠ O.next + 1; omega)).trans (VH.push_new _ _))
  have hk2 : (((O.push (.cells [.v (.bool true), .str v1, .v (.bool c1)])).push (.cells [.v (.bool true), .str v2, .v (.bool c2)])).push (.cells [.v (.bool false), .str [], .v (.bool false)])).hp (O.next + 1) = some (.cells [.v (.bool true), .str v2, .v (.bool c2)]) := (VH.push_ne _ _ (by show O.next + 1 ≠ O.next + 1 + 1; omega)).trans (VH.push_new _ _)
  have hk3 : (((O.push (.cells [.v (.bool true), .str v1, .v (.bool c1)])).push (.cells [.v (.bool true), .str v2, .v (.bool c2)])).push (.cells [.v (.bool false), .str [], .v (.bool false)])).hp (O.next + 2) = some (.cells [.v (.bool false), .str [], .v (.bool false)]) := VH.push_new _ _
  have hn : (((O.push (.cells [.v (.bool true), .str v1, .v (.bool c1)])).push (.cells [.v (.bool true), .str v2, .v (.bool c2)])).push (.cells [.v (.bool false), .str [], .v (.bool false)])).next = O.next + 3 := rfl
  have hgX := hge (.cells [.v (.bool true), .str v1, .v (.bool c1)]) (.cells [.v (.bool true), .str v2, .v (.bool c2)]) (.cells [.v (.bool false), .str [], .v (.bool false)])
  generalize (((O.push (.cells [.v (.bool true), .str v1, .v (.bool c1)])).push (.cells [.v (.bool true), .str v2, .v (.bool c2)])).push (.cells [.v (.bool false), .str [], .v (.bool false)])) = O1 at *
  clear hge
  refine CallW.rt (Compare_v v1 v2 _ ha hb) (by kernel_rfl) rfl rfl ?_
  rintro _ O2 ⟨rfl, hg2⟩
  have hk12 := (hg2.hp _ (by omega)).trans hk1
  have hk22 := (hg2.hp _ (by omega)).trans hk2
  have hk32 := (hg2.hp _ (by omega)).trans hk3
  have hgZ := hgX.trans hg2
  have hgS := fun y => hgZ.set (k := O.next + 2) (by omega) y
  rcases compareV_cmp.rng v1 v2 with e | e | e
  · rw [e]
    cases up
    · simp (disch := first | omega | (simp only [ds] <;> omega) | fail) only [wk, undefM, Nat.reduceLT, Nat.reduceAdd, Nat.reduceMul, Nat.reduceSub, Nat.reduceBEq, Nat.reduceEqDiff, Int.reduceToNat, reduceIte, tsN, hk12, hk22, hk32, Int.reduceBEq, Int.reduceLT, Int.reduceGT, Int.reduceNeg, Int.reduceEq]
      exact hgS _
    · simp (disch := first | omega | (simp only [ds] <;> omega) | fail) only [wk, undefM, Nat.reduceLT, Nat.reduceAdd, Nat.reduceMul, Nat.reduceSub, Nat.reduceBEq, Nat.reduceEqDiff, Int.reduceToNat, reduceIte, tsN, hk12, hk22, hk32, Int.reduceBEq, Int.reduceLT, Int.reduceGT, Int.reduceNeg, Int.reduceEq]
      exact hgS _
  · rw [e]
    cases c1
    · simp (disch := first | omega | (simp only [ds] <;> omega) | fail) only [wk, undefM, Nat.reduceLT, Nat.reduceAdd, Nat.reduceMul, Nat.reduceSub, Nat.reduceBEq, Nat.reduceEqDiff, Int.reduceToNat, reduceIte, tsN, hk12, hk22, hk32, Int.reduceBEq, Int.reduceLT, Int.reduceGT]
      exact hgS _
    cases c2
    · simp (disch := first | omega | (simp only [ds] <;> omega) | fail) only [wk, undefM, Nat.reduceLT, Nat.reduceAdd, Nat.reduceMul, Nat.reduceSub, Nat.reduceBEq, Nat.reduceEqDiff, Int.reduceToNat, reduceIte, tsN, hk12, hk22, hk32, Int.reduceBEq, Int.reduceLT, Int.reduceGT]
      exact hgS _
    · simp (disch := first | omega | (simp only [ds] <;> omega) | fail) only [wk, undefM, Nat.reduceLT, Nat.reduceAdd, Nat.reduceMul, Nat.reduceSub, Nat.reduceBEq, Nat.reduceEqDiff, Int.reduceToNat, reduceIte, tsN, hk12, hk22, hk32, Int.reduceBEq, Int.reduceLT, Int.reduceGT]
      exact hgS _
  · rw [e]
    cases up
    · simp (disch := first | omega | (simp only [ds] <;> omega) | fail) only [wk, undefM, Nat.reduceLT, Nat.reduceAdd, Nat.reduceMul, Nat.reduceSub, Nat.reduceBEq, Nat.reduceEqDiff, Int.reduceToNat, reduceIte, tsN, hk12, hk22, hk32, Int.reduceBEq, Int.reduceLT, Int.reduceGT]
      exact hgS _
    · simp (disch := first | omega | (simp only [ds] <;> omega) | fail) only [wk, undefM, Nat.reduceLT, Nat.reduceAdd, Nat.reduceMul, Nat.reduceSub, Nat.reduceBEq, Nat.reduceEqDiff, Int.reduceToNat, reduceIte, tsN, hk12, hk22, hk32, Int.reduceBEq, Int.reduceLT, Int.reduceGT]
      exact hgS _
end Go.Proofs.YtbpnmkmlicbfoaaDoor

/-
  What both of two ranges have: plain facts.
-/
set_option linter.unusedVariables false
set_option linter.unusedSimpArgs false
namespace Go.Proofs.YtbpnmkmlicbfoaaDoor
open Go.RowKit
set_option maxRecDepth 10000
theorem count_le {α : Type} (p q : α → Bool) : ∀ S : List α, (∀ z ∈ S, p z = true → q z = true) → (S.filter p).length ≤ (S.filter q).length
  | [], _ => Nat.le_refl _
  | x :: S, h => by
    have ih := count_le p q S fun z hz => h z (List.mem_cons_of_mem _ hz)
    have hx := h x (by simp)
    cases hp : p x
    · cases hq : q x <;> simp [hp, hq] <;> omega
    · simp [hp, hx hp]; exact ih
theorem count_lt {α : Type} (p q : α → Bool) : ∀ S : List α, (∀ z ∈ S, p z = true → q z = true) → (∃ x ∈ S, q x = true ∧ p x = false) → (S.filter p).length < (S.filter q).length
  | [], _, ⟨x, h, _⟩ => by cases h
  | x :: S, h, ⟨y, hy, h1, h2⟩ => by
    have hh : ∀ z ∈ S, p z = true → q z = true := fun z hz => h z (List.mem_cons_of_mem _ hz)
    have hx := h x (by simp)
    rcases List.mem_cons.1 hy with rfl | hy
    · have := count_le p q S hh
      simp [h1, h2]; omega
    · have ih := count_lt p q S hh ⟨y, hy, h1, h2⟩
      cases hp : p x
      · cases hq : q x <;> simp [hp, hq] <;> omega
      · simp [hp, hx hp]; exact ih
/-- Some versions, as numbers. -/
theorem cmp_rank (S : List (List UInt8)) : ∃ ρ : List UInt8 → Nat, ∀ x ∈ S, ∀ y ∈ S, (ρ x < ρ y ∧ compareV x y = -1 ∧ compareV y x = 1) ∨ (ρ x = ρ y ∧ compareV x y = 0 ∧ compareV y x = 0) ∨ (ρ y < ρ x ∧ compareV x y = 1 ∧ compareV y x = -1) := by
  refine ⟨fun x => (S.filter fun z => compareV z x == -1).length, fun x hx y hy => ?_⟩
  have lt : ∀ x ∈ S, ∀ y, compareV x y = -1 → (S.filter fun z => compareV z x == -1).length < (S.filter fun z => compareV z y == -1).length := fun x hx y h =>
    count_lt _ _ _ (fun z _ hz => by simp only [beq_iff_eq] at hz ⊢; exact compareV_cmp.tr z x y hz h) ⟨x, hx, by simp [h], by simp [compareV_cmp.refl x]⟩
  have an := compareV_cmp.anti x y
  rcases compareV_cmp.rng x y with e | e | e
  · exact .inl ⟨lt x hx y e, e, by rw [an, e]; rfl⟩
  · have : (fun z => compareV z x == -1) = fun z => compareV z y == -1 := funext fun z => by rw [compareV_cmp.eqR z x y e]
    exact .inr (.inl ⟨by dsimp only; rw [this], e, by rw [an, e]; rfl⟩)
  · exact .inr (.inr ⟨lt y hy x (by rw [an, e]), e, by rw [an, e]⟩)
set_option maxHeartbeats 2000000 in
theorem tight_lo (a b : En) (v : List UInt8) : belowF (tightF true a b) (true, v, true) = (belowF a (true, v, true) && belowF b (true, v, true)) := by
  obtain ⟨h1, v1, c1⟩ := a
  obtain ⟨h2, v2, c2⟩ := b
  obtain ⟨ρ, hρ⟩ := cmp_rank [v1, v2, v]
  have s12 := hρ v1 (by simp) v2 (by simp)
  have s13 := hρ v1 (by simp) v (by simp)
  have s23 := hρ v2 (by simp) v (by simp)
  generalize ρ v1 = r1 at *
  generalize ρ v2 = r2 at *
  generalize ρ v = r3 at *
  clear hρ
  unfold tightF
  dsimp only
  rcases s12 with ⟨a1, e12, e21⟩ | ⟨a1, e12, e21⟩ | ⟨a1, e12, e21⟩ <;> rcases s13 with ⟨a2, e13, e31⟩ | ⟨a2, e13, e31⟩ | ⟨a2, e13, e31⟩ <;> rcases s23 with ⟨a3, e23, e32⟩ | ⟨a3, e23, e32⟩ | ⟨a3, e23, e32⟩ <;> first
    | omega
    | (clear a1 a2 a3
       rw [e12]
       cases h1 <;> cases h2 <;> cases c1 <;> cases c2 <;> simp [belowF, e12, e13, e23, e21, e31, e32])
set_option maxHeartbeats 2000000 in
theorem tight_hi (a b : En) (v : List UInt8) : belowF (true, v, true) (tightF false a b) = (belowF (true, v, true) a && belowF (true, v, true) b) := by
  obtain ⟨h1, v1, c1⟩ := a
  obtain ⟨h2, v2, c2⟩ := b
  obtain ⟨ρ, hρ⟩ := cmp_rank [v1, v2, v]
  have s12 := hρ v1 (by simp) v2 (by simp)
  have s13 := hρ v1 (by simp) v (by simp)
  have s23 := hρ v2 (by simp) v (by simp)
  generalize ρ v1 = r1 at *
  generalize ρ v2 = r2 at *
  generalize ρ v = r3 at *
  clear hρ
  unfold tightF
  dsimp only
  rcases s12 with ⟨a1, e12, e21⟩ | ⟨a1, e12, e21⟩ | ⟨a1, e12, e21⟩ <;> rcases s13 with ⟨a2, e13, e31⟩ | ⟨a2, e13, e31⟩ | ⟨a2, e13, e31⟩ <;> rcases s23 with ⟨a3, e23, e32⟩ | ⟨a3, e23, e32⟩ | ⟨a3, e23, e32⟩ <;> first
    | omega
    | (clear a1 a2 a3; rw [e12]; cases h1 <;> cases h2 <;> cases c1 <;> cases c2 <;> simp [belowF, e12, e13, e23, e21, e31, e32])
set_option maxHeartbeats 2000000 in
theorem in_below {x : Iv} {v : List UInt8} (h : inF x v = true) : belowF x.1 x.2 = true := by
  obtain ⟨⟨h1, v1, c1⟩, ⟨h2, v2, c2⟩⟩ := x
  obtain ⟨ρ, hρ⟩ := cmp_rank [v1, v2, v]
  have s12 := hρ v1 (by simp) v2 (by simp)
  have s13 := hρ v1 (by simp) v (by simp)
  have s23 := hρ v2 (by simp) v (by simp)
  generalize ρ v1 = r1 at *
  generalize ρ v2 = r2 at *
  generalize ρ v = r3 at *
  clear hρ
  unfold inF at h
  dsimp only at h ⊢
  revert h
  rcases s12 with ⟨a1, e12, e21⟩ | ⟨a1, e12, e21⟩ | ⟨a1, e12, e21⟩ <;> rcases s13 with ⟨a2, e13, e31⟩ | ⟨a2, e13, e31⟩ | ⟨a2, e13, e31⟩ <;> rcases s23 with ⟨a3, e23, e32⟩ | ⟨a3, e23, e32⟩ | ⟨a3, e23, e32⟩ <;> first
    | omega
    | (clear a1 a2 a3; cases h1 <;> cases h2 <;> cases c1 <;> cases c2 <;> simp [belowF, e12, e13, e23, e21, e31, e32])
set_option maxHeartbeats 2000000 in
theorem ahead_hi {h l p : En} (hh : aheadF h l = true) : aheadF (tightF false h p) l = true ∧ aheadF (tightF false p h) l = true := by
  obtain ⟨h1, v1, c1⟩ := h
  obtain ⟨h2, v2, c2⟩ := l
  obtain ⟨h3, v3, c3⟩ := p
  obtain ⟨ρ, hρ⟩ := cmp_rank [v1, v2, v3]
  have s12 := hρ v1 (by simp) v2 (by simp)
  have s13 := hρ v1 (by simp) v3 (by simp)
  have s23 := hρ v2 (by simp) v3 (by simp)
  generalize ρ v1 = r1 at *
  generalize ρ v2 = r2 at *
  generalize ρ v3 = r3 at *
  clear hρ
  unfold tightF
  revert hh
  dsimp only
  rw [aheadF]
  dsimp only
  cases h1
  · intro h; cases h
  cases h2
  · intro h; cases h
  rcases s12 with ⟨a1, e12, e21⟩ | ⟨a1, e12, e21⟩ | ⟨a1, e12, e21⟩ <;> rcases s13 with ⟨a2, e13, e31⟩ | ⟨a2, e13, e31⟩ | ⟨a2, e13, e31⟩ <;> rcases s23 with ⟨a3, e23, e32⟩ | ⟨a3, e23, e32⟩ | ⟨a3, e23, e32⟩ <;> first
    | omega
    | (clear a1 a2 a3; rw [e12, e13, e31]; cases h3 <;> cases c1 <;> cases c2 <;> cases c3 <;> simp [aheadF, e12, e13, e23, e21, e31, e32])
set_option maxHeartbeats 2000000 in
theorem ahead_lo {h l p : En} (hh : aheadF h l = true) : aheadF h (tightF true l p) = true ∧ aheadF h (tightF true p l) = true := by
  obtain ⟨h1, v1, c1⟩ := h
  obtain ⟨h2, v2, c2⟩ := l
  obtain ⟨h3, v3, c3⟩ := p
  obtain ⟨ρ, hρ⟩ := cmp_rank [v1, v2, v3]
  have s12 := hρ v1 (by simp) v2 (by simp)
  have s13 := hρ v1 (by simp) v3 (by simp)
  have s23 := hρ v2 (by simp) v3 (by simp)
  generalize ρ v1 = r1 at *
  generalize ρ v2 = r2 at *
  generalize ρ v3 = r3 at *
  clear hρ
  unfold tightF
  revert hh
  dsimp only
  rw [aheadF]
  dsimp only
  cases h1
  · intro h; cases h
  cases h2
  · intro h; cases h
  rcases s12 with ⟨a1, e12, e21⟩ | ⟨a1, e12, e21⟩ | ⟨a1, e12, e21⟩ <;> rcases s13 with ⟨a2, e13, e31⟩ | ⟨a2, e13, e31⟩ | ⟨a2, e13, e31⟩ <;> rcases s23 with ⟨a3, e23, e32⟩ | ⟨a3, e23, e32⟩ | ⟨a3, e23, e32⟩ <;> first
    | omega
    | (clear a1 a2 a3; rw [e12, e23, e32]; cases h3 <;> cases c1 <;> cases c2 <;> cases c3 <;> simp [aheadF, e12, e13, e23, e21, e31, e32])
/-- Ahead of what is below what is ahead. -/
theorem ahead_below {h l l' : En} (h1 : aheadF h l = true) {k : En} (h2 : belowF l k = true) (h3 : aheadF k l' = true) : aheadF h l' = true := by
  obtain ⟨b1, v1, c1⟩ := h
  obtain ⟨b2, v2, c2⟩ := l
  obtain ⟨b3, v3, c3⟩ := k
  obtain ⟨b4, v4, c4⟩ := l'
  simp only [aheadF, belowF, Bool.and_eq_true, Bool.or_eq_true, decide_eq_true_eq, Bool.not_eq_true', beq_iff_eq, Bool.and_eq_false_iff] at h1 h2 h3 ⊢
  obtain ⟨⟨rfl, rfl⟩, h1⟩ := h1
  obtain ⟨⟨rfl, rfl⟩, h3⟩ := h3
  obtain ⟨ρ, hρ⟩ := cmp_rank [v1, v2, v3, v4]
  have s12 := hρ v1 (by simp) v2 (by simp)
  have s23 := hρ v2 (by simp) v3 (by simp)
  have s34 := hρ v3 (by simp) v4 (by simp)
  have s14 := hρ v1 (by simp) v4 (by simp)
  generalize ρ v1 = r1 at *
  generalize ρ v2 = r2 at *
  generalize ρ v3 = r3 at *
  generalize ρ v4 = r4 at *
  refine ⟨by simp, ?_⟩
  have h2 : compareV v2 v3 < 0 ∨ (compareV v2 v3 = 0 ∧ c2 = true) ∧ c3 = true := by simpa using h2
  rcases s14 with ⟨a4, e14, _⟩ | ⟨a4, e14, _⟩ | ⟨a4, e14, _⟩
  · exact .inl (by omega)
  · refine .inr ⟨e14, ?_⟩
    have f1 : r1 ≤ r2 := by rcases h1 with h | ⟨h, _⟩ <;> omega
    have f2 : r2 ≤ r3 := by rcases h2 with h | ⟨⟨h, _⟩, _⟩ <;> omega
    have f3 : r3 ≤ r4 := by rcases h3 with h | ⟨h, _⟩ <;> omega
    have g1 : compareV v1 v2 = 0 := by omega
    have g2 : compareV v2 v3 = 0 := by omega
    have g3 : compareV v3 v4 = 0 := by omega
    rcases h1 with h | ⟨_, h⟩
    · omega
    rcases h3 with h' | ⟨_, h'⟩
    · omega
    rcases h2 with h'' | ⟨⟨_, k1⟩, k2⟩
    · omega
    rcases h with h | h
    · exact .inl h
    · rw [k1] at h; cases h
  · have f1 : r1 ≤ r2 := by rcases h1 with h | ⟨h, _⟩ <;> omega
    have f2 : r2 ≤ r3 := by rcases h2 with h | ⟨⟨h, _⟩, _⟩ <;> omega
    have f3 : r3 ≤ r4 := by rcases h3 with h | ⟨h, _⟩ <;> omega
    omega
/-- An interval that may be. -/
def ivOk (p : Iv) : Prop := endOk p.1 = true ∧ endOk p.2 = true ∧ belowF p.1 p.2 = true
theorem row_ahead : ∀ (L : List Iv) (h : En), okRow (some h) L = true → (∀ q ∈ L, aheadF h q.1 = true)
  | [], _, _, q, hq => by cases hq
  | p :: r, h, ho, q, hq => by
    simp only [okRow, aheadO, Bool.and_eq_true] at ho
    rcases List.mem_cons.1 hq with rfl | hq
    · exact ho.1.2.2.2
    · exact ahead_below ho.1.2.2.2 ho.1.2.2.1 (row_ahead r p.2 ho.2 q hq)
theorem row_iff (L : List Iv) : ∀ pr, okRow pr L = true ↔ (∀ p ∈ L, ivOk p) ∧ (L.Pairwise fun p q => aheadF p.2 q.1 = true) ∧ ∀ q ∈ L, aheadO pr q.1 = true := by
  induction L with
  | nil => intro pr; simp [okRow]
  | cons p r ih =>
    intro pr
    constructor
    · intro ho
      have ha : ∀ q ∈ p :: r, aheadO pr q.1 = true := by
        cases pr with
        | none => intro q _; rfl
        | some h => exact row_ahead _ h ho
      have hr : ∀ q ∈ r, aheadF p.2 q.1 = true := by
        simp only [okRow, Bool.and_eq_true] at ho
        exact row_ahead r p.2 ho.2
      simp only [okRow, Bool.and_eq_true] at ho
      obtain ⟨⟨h1, h2, h3, h4⟩, h5⟩ := ho
      obtain ⟨k1, k2, _⟩ := (ih _).1 h5
      refine ⟨fun q hq => ?_, List.pairwise_cons.2 ⟨hr, k2⟩, ha⟩
      rcases List.mem_cons.1 hq with rfl | hq
      · exact ⟨h1, h2, h3⟩
      · exact k1 q hq
    · rintro ⟨h1, h2, h3⟩
      obtain ⟨k1, k2⟩ := List.pairwise_cons.1 h2
      obtain ⟨g1, g2, g3⟩ := h1 p (by simp)
      simp only [okRow, Bool.and_eq_true]
      exact ⟨⟨g1, g2, g3, h3 p (by simp)⟩, (ih _).2 ⟨fun q hq => h1 q (List.mem_cons_of_mem _ hq), k2, fun q hq => k1 q hq⟩⟩
def meetI (p q : Iv) : Iv := (tightF true p.1 q.1, tightF false p.2 q.2)
def meetB (p : Iv) (b : List Iv) : List Iv := (b.map (meetI p)).filter fun x => belowF x.1 x.2
def meetL (a b : List Iv) : List Iv := a.flatMap fun p => meetB p b
def meetR (a b : Rg) : Rg := if !b.1 then a else if !a.1 then b else (true, [], meetL a.2.2 b.2.2)
theorem in_meet (p q : Iv) (v : List UInt8) : inF (meetI p q) v = (inF p v && inF q v) := by
  unfold inF meetI
  dsimp only
  rw [tight_lo, tight_hi]
  cases belowF p.1 (true, v, true) <;> cases belowF q.1 (true, v, true) <;> cases belowF (true, v, true) p.2 <;> simp
theorem any_meet (a b : List Iv) (v : List UInt8) : (meetL a b).any (inF · v) = (a.any (inF · v) && b.any (inF · v)) := by
  rw [Bool.eq_iff_iff, Bool.and_eq_true, List.any_eq_true, List.any_eq_true, List.any_eq_true]
  constructor
  · rintro ⟨x, hx, hv⟩
    obtain ⟨p, hp, hx⟩ := List.mem_flatMap.1 hx
    obtain ⟨hx, _⟩ := List.mem_filter.1 hx
    obtain ⟨q, hq, rfl⟩ := List.mem_map.1 hx
    rw [in_meet, Bool.and_eq_true] at hv
    exact ⟨⟨p, hp, hv.1⟩, ⟨q, hq, hv.2⟩⟩
  · rintro ⟨⟨p, hp, h1⟩, ⟨q, hq, h2⟩⟩
    have hv : inF (meetI p q) v = true := by rw [in_meet, h1, h2]; rfl
    exact ⟨meetI p q, List.mem_flatMap.2 ⟨p, hp, List.mem_filter.2 ⟨List.mem_map.2 ⟨q, hq, rfl⟩, in_below hv⟩⟩, hv⟩
theorem has_meet (a b : Rg) (v : List UInt8) : hasF (meetR a b) v = (hasF a v && hasF b v) := by
  obtain ⟨h1, v1, l1⟩ := a
  obtain ⟨h2, v2, l2⟩ := b
  unfold meetR hasF
  cases h1 <;> cases h2 <;> simp [any_meet]
theorem tight_ok {up : Bool} {a b : En} (ha : endOk a = true) (hb : endOk b = true) : endOk (tightF up a b) = true := by
  unfold tightF
  split
  · exact hb
  · split
    · exact ha
    · split
      · exact hb
      · split
        · exact ha
        · exact hb
theorem meet_row {a b : List Iv} (ha : okRow none a = true) (hb : okRow none b = true) : okRow none (meetL a b) = true := by
  obtain ⟨a1, a2, _⟩ := (row_iff a none).1 ha
  obtain ⟨b1, b2, _⟩ := (row_iff b none).1 hb
  refine (row_iff _ none).2 ⟨fun x hx => ?_, ?_, fun _ _ => rfl⟩
  · obtain ⟨p, hp, hx⟩ := List.mem_flatMap.1 hx
    obtain ⟨hx, hbl⟩ := List.mem_filter.1 hx
    obtain ⟨q, hq, rfl⟩ := List.mem_map.1 hx
    obtain ⟨p1, p2, _⟩ := a1 p hp
    obtain ⟨q1, q2, _⟩ := b1 q hq
    exact ⟨tight_ok p1 q1, tight_ok p2 q2, hbl⟩
  · refine List.pairwise_flatMap.2 ⟨fun p hp => ?_, ?_⟩
    · refine List.Pairwise.filter _ (List.pairwise_map.2 (b2.imp fun {q q'} h => ?_))
      exact (ahead_lo (ahead_hi h).2).2
    · refine a2.imp fun {p p'} h => ?_
      intro x hx y hy
      obtain ⟨q, _, rfl⟩ := List.mem_map.1 (List.mem_filter.1 hx).1
      obtain ⟨q', _, rfl⟩ := List.mem_map.1 (List.mem_filter.1 hy).1
      exact (ahead_lo (ahead_hi h).1).1
theorem meetL_len (a b : List Iv) : (meetL a b).length ≤ a.length * b.length := by
  induction a with
  | nil => simp [meetL]
  | cons p r ih =>
    have h1 : (meetB p b).length ≤ b.length := Nat.le_trans (List.length_filter_le _ _) (by simp)
    have e : meetL (p :: r) b = meetB p b ++ meetL r b := by simp [meetL]
    rw [e, List.length_append, List.length_cons, Nat.succ_mul]
    omega
theorem may_meet {a b : Rg} (ha : mayR a = true) (hb : mayR b = true) (la : a.2.2.length ≤ 20) (lb : b.2.2.length ≤ 20) : mayR (meetR a b) = true ∨ ((meetR a b).1 = true ∧ (meetR a b).2.2 = []) := by
  obtain ⟨h1, v1, l1⟩ := a
  obtain ⟨h2, v2, l2⟩ := b
  unfold meetR
  cases h2
  · exact .inl ha
  cases h1
  · exact .inl hb
  simp only [mayR, if_true, Bool.and_eq_true] at ha hb
  have hr := meet_row ha.1 hb.1
  have hl := meetL_len l1 l2
  have h400 : l1.length * l2.length ≤ 400 := Nat.mul_le_mul la lb
  simp only [Bool.not_true, Bool.false_eq_true, if_false]
  rcases Nat.eq_zero_or_pos (meetL l1 l2).length with h0 | h0
  · exact .inr ⟨by first | trivial | rfl, List.eq_nil_of_length_eq_zero h0⟩
  · refine .inl ?_
    simp only [mayR, if_true, hr, Bool.true_and, Bool.and_eq_true, decide_eq_true_eq, BEq.rfl, true_and]
    omega
end Go.Proofs.YtbpnmkmlicbfoaaDoor

/-
  Contracts of the library, laid at this program.
-/
namespace Go.Proofs.YtbpnmkmlicbfoaaDoor
open Go.Shelf
def Tryd.lays156_ren : Go.Shelf.Ren := ⟨fun | 156 => 50 | 165 => 63 | 166 => 64 | 169 => 65 | 240 => 72 | 241 => 73 | 276 => 89 | 277 => 90 | n => n, fun | 31 => 39 | 9 => 9 | 3 => 3 | 4 => 4 | 0 => 0 | 20 => 20 | 72 => 88 | 76 => 92 | 70 => 86 | 37 => 79 | 75 => 91 | 127 => 101 | 164 => 118 | 5 => 5 | 80 => 80 | n => n, fun | n => n⟩
theorem Tryd.lays156 : Go.Proofs.Lays.n156 Tryd.prog Tryd.lays156_ren := {
  mixed := by kernel_rfl
  f156 := Tryd.func50.trans (congrArg some (by kernel_rfl))
  f165 := Tryd.func63.trans (congrArg some (by kernel_rfl))
  f166 := Tryd.func64.trans (congrArg some (by kernel_rfl))
  f169 := Tryd.func65.trans (congrArg some (by kernel_rfl))
  f240 := Tryd.func72.trans (congrArg some (by kernel_rfl))
  f241 := Tryd.func73.trans (congrArg some (by kernel_rfl))
  f276 := Tryd.func89.trans (congrArg some (by kernel_rfl))
  f277 := Tryd.func90.trans (congrArg some (by kernel_rfl))
  t0 := Tryd.underlying0
  a0 := Tryd.isAgg0
  z0 := Tryd.sizeOf0
  v0 := Tryd.zeroValue0
  t3 := Tryd.underlying3
  a3 := Tryd.isAgg3
  z3 := Tryd.sizeOf3
  v3 := Tryd.zeroValue3
  t4 := Tryd.underlying4
  a4 := Tryd.isAgg4
  z4 := Tryd.sizeOf4
  v4 := Tryd.zeroValue4
  t9 := Tryd.underlying9
  a9 := Tryd.isAgg9
  z9 := Tryd.sizeOf9
  v9 := Tryd.zeroValue9
  t20 := Tryd.underlying20
  a20 := Tryd.isAgg20
  z20 := Tryd.sizeOf20
  v20 := Tryd.zeroValue20
  t31 := Tryd.underlying39
  a31 := Tryd.isAgg39
  z31 := Tryd.sizeOf39
  v31 := Tryd.zeroValue39
  t37 := Tryd.underlying79
  a37 := Tryd.isAgg79
  z37 := Tryd.sizeOf79
  v37 := Tryd.zeroValue79
  t70 := Tryd.underlying86
  a70 := Tryd.isAgg86
  z70 := Tryd.sizeOf86
  v70 := Tryd.zeroValue86
  t72 := Tryd.underlying88
  a72 := Tryd.isAgg88
  z72 := Tryd.sizeOf88
  v72 := Tryd.zeroValue88
  t75 := Tryd.underlying91
  a75 := Tryd.isAgg91
  z75 := Tryd.sizeOf91
  v75 := Tryd.zeroValue91
  t76 := Tryd.underlying92
  a76 := Tryd.isAgg92
  z76 := Tryd.sizeOf92
  v76 := Tryd.zeroValue92
  t127 := Tryd.underlying101
  a127 := Tryd.isAgg101
  z127 := Tryd.sizeOf101
  v127 := Tryd.zeroValue101
  t164 := Tryd.underlying118
  a164 := Tryd.isAgg118
  z164 := Tryd.sizeOf118
  v164 := Tryd.zeroValue118 }
theorem Tryd.Builder_Extra_156 : Builder.Extra Tryd.prog Tryd.lays156_ren := {
  sizeBuilder := by kernel_rfl
  liesBuilder := by kernel_rfl
  t5 := Tryd.underlying5
  a5 := Tryd.isAgg5
  z5 := Tryd.sizeOf5
  v5 := Tryd.zeroValue5
  infoByte := by kernel_rfl
  cellsByte := by kernel_rfl
  sizeByte := by kernel_rfl
  neB5 := by decide }
open Go.RowKit in
/-- No element: the empty string; the world is as it was. (Whatever the slice's address and capacity: a nil slice too.) (LAID: no walk: one application.) -/
theorem Tryd.strings_Join_none (a : Option Addr) (c : Nat) (sep : ByteArray) (w : World) :
    Calls Tryd.prog 50 #[.slice a 0 c, .string sep] w fun e w' => e = .returned (.string ⟨#[]⟩) ∧ w' = w := Any.strings_Join_none Tryd.lays156 Tryd.Builder_Extra_156 a c sep w
open Go.RowKit in
/-- strings.Join: "Join concatenates the elements of its first argument to create a single string. The separator string sep is placed between elements in the resulting string.": HOWEVER MANY ELEMENTS. Below the heap's end the world is as it was. (LAID: no walk: one application.) -/
theorem Tryd.strings_Join (bk o c : Nat) (xs : List ByteArray) (sep : ByteArray) (w : World) (hcells : ∀ (j : Nat) x, xs[j]? = some x → w.cell? ⟨bk, o + j, none⟩ = some (.string x)) (hbk : bk < w.heap.size) (hN : xs.length ≤ 140737488355328) (hcap : xs.length ≤ c) (hlen : (Lib.join (xs.map (·.data.toList)) sep.data.toList).length ≤ 140737488355328) :
    Calls Tryd.prog 50 #[.slice (some ⟨bk, o, none⟩) xs.length c, .string sep] w fun e w' => e = .returned (.string ⟨(Lib.join (xs.map (·.data.toList)) sep.data.toList).toArray⟩) ∧ Below w.heap.size w w' := Any.strings_Join Tryd.lays156 Tryd.Builder_Extra_156 bk o c xs sep w hcells hbk hN hcap hlen
end Go.Proofs.YtbpnmkmlicbfoaaDoor

/-
  The library's contracts, as the value machine's.
-/
set_option linter.unusedVariables false
set_option linter.unusedSimpArgs false
namespace Go.Proofs.YtbpnmkmlicbfoaaDoor
open Go.RowKit
theorem WR.below {G : Gh} {O : VH} {w w' : World} (h : WR G O w) (hb : Below w.heap.size w w') : WR G O w' := by
  have hh : ∀ {b : Nat} {x : Obj}, w.heap[b]? = some x → w'.heap[b]? = some x := fun {b x} hx => (hb.block b (lt_of_heap hx)).trans hx
  refine ⟨h.base.trans (hb.mono h.bsz), fun b o u hc => ?_, h.dom, fun k b hk => ?_, h.inj, fun k cs hk => ?_, fun k es ck hk => ?_, fun t ht => ?_, h.tinj, fun j k t n hj => ?_, fun k x hk => ?_⟩
  · have h1 := h.com b o u hc
    have h2 := hb.block b (World.block_lt_of_cell? w _ h1)
    unfold World.cell? at h1 ⊢
    rw [h2]; exact h1
  · obtain ⟨h1, h2, h3⟩ := h.plt k b hk
    exact ⟨h1, Nat.lt_of_lt_of_le h2 hb.size, h3⟩
  · obtain ⟨b, C, T, h1, h2, h3⟩ := h.cells k cs hk
    exact ⟨b, C, T, h1, hh h2, h3⟩
  · obtain ⟨b, E, h1, h2, h3⟩ := h.map k es ck hk
    exact ⟨b, E, h1, hh h2, h3⟩
  · obtain ⟨b, f, k, r, C, T, h1, h2, h3, h4⟩ := h.tok t ht
    exact ⟨b, f, k, r, C, T, h1, h2, hh h3, h4⟩
  · obtain ⟨b, h1, h2⟩ := h.shp j k t n hj
    exact ⟨b, h1, shape_heap (fun x hx => hh hx) h2⟩
  · obtain ⟨b, h1, h2⟩ := h.obj k x hk
    exact ⟨b, h1, hh h2⟩
/-- strings.Join -/
theorem Join_v (l : List (List UInt8)) (sep : List UInt8) (tk : Tok) (O : VH) (hn : l.length ≤ 140737488355328) (hlen : (Lib.join l sep).length ≤ 140737488355328) : VF Tryd.prog 50 [.sl l.length (l.map .str) tk, .str sep] O (Ret fun m O' => m = .str (Lib.join l sep) ∧ O' = O) := by
  intro G w vs hw hv
  obtain ⟨u, us, rfl, h1, h2⟩ := hv.inv_cons
  obtain ⟨u2, us2, rfl, h3, h4⟩ := h2.inv_cons
  rw [h4.inv_nil]
  cases h3
  have empty : ∀ (a : Option Addr) (c : Nat), l = [] → Calls Tryd.prog 50 (#[.slice a 0 c, .string ⟨⟨sep⟩⟩]) w fun x w' => ∃ r O' H, Gh.Le G H ∧ WR H O' w' ∧ ER H r x ∧ Ret (fun m O' => m = .str (Lib.join l sep) ∧ O' = O) r O' := fun a c hl =>
    (Tryd.strings_Join_none a c ⟨⟨sep⟩⟩ w).mono fun e w' ⟨he, hw'⟩ => by
      subst hw'; subst he; subst hl
      exact ⟨.ret (.str []), O, G, Gh.Le.refl G, hw, .str, rfl, rfl⟩
  generalize hlc : l.map MV.str = cs at h1
  generalize hll : l.length = n at h1
  have hl0 : n = 0 → l = [] := fun e => List.eq_nil_of_length_eq_zero (by omega)
  cases h1 with
  | slnil => exact empty _ _ (hl0 rfl)
  | sl0 h => exact empty _ _ (hl0 rfl)
  | sl0n => exact empty _ _ (hl0 rfl)
  | sl g1 g2 g3 g4 g5 g6 =>
    rename_i us c b o
    by_cases he : l = []
    · subst he
      simp only [List.length_nil] at hll
      subst hll
      exact empty _ _ rfl
    have hus : us = l.map fun s => Value.string ⟨⟨s⟩⟩ := by
      refine List.ext_getElem? fun i => ?_
      rcases Nat.lt_or_ge i us.length with hi | hi
      · have e1 := List.getElem?_eq_getElem hi
        have hil : i < l.length := by rw [g1, ← hlc] at hi; simpa using hi
        have e2 : cs[i]? = some (.str l[i]) := by rw [← hlc]; simp [hil]
        have := g3 i _ _ e2 e1
        rw [e1, List.getElem?_map, List.getElem?_eq_getElem hil]
        generalize us[i] = v at *
        cases this
        rfl
      · rw [List.getElem?_eq_none hi, List.getElem?_eq_none (by rw [g1, ← hlc] at hi; simpa using hi)]
    have hcell : ∀ (j : Nat) x, (l.map fun s => (⟨⟨s⟩⟩ : ByteArray))[j]? = some x → w.cell? ⟨b, o + j, none⟩ = some (.string x) := fun j x hj => by
      refine hw.com _ _ _ (g2 j _ ?_)
      rw [hus]
      rw [List.getElem?_map] at hj ⊢
      obtain ⟨s, hs, rfl⟩ := Option.map_eq_some_iff.1 hj
      rw [hs]; rfl
    have hbk : b < w.heap.size := by
      obtain ⟨s, r, rfl⟩ := List.exists_cons_of_ne_nil he
      exact World.block_lt_of_cell? w _ (hcell 0 _ rfl)
    have hmm : (l.map fun s => (⟨⟨s⟩⟩ : ByteArray)).map (·.data.toList) = l := by rw [List.map_map]; exact (List.map_congr_left (g := id) fun _ _ => rfl).trans (List.map_id _)
    have key := Tryd.strings_Join b o c (l.map fun s => (⟨⟨s⟩⟩ : ByteArray)) ⟨⟨sep⟩⟩ w hcell hbk (by rw [List.length_map]; exact hn) (by rw [List.length_map]; omega) (by rw [hmm]; exact hlen)
    rw [hmm, List.length_map, hll] at key
    refine key.mono fun e w' ⟨he, hw'⟩ => ?_
    subst he
    exact ⟨.ret (.str (Lib.join l sep)), O, G, Gh.Le.refl G, hw.below hw', .str, rfl, rfl⟩
end Go.Proofs.YtbpnmkmlicbfoaaDoor

/-
  The package bounds: Print, walked.
-/
set_option linter.unusedVariables false
set_option linter.unusedSimpArgs false
namespace Go.Proofs.YtbpnmkmlicbfoaaDoor
open Go.RowKit
set_option maxRecDepth 10000
set_option linter.defProp false in
def ts6 := And.intro tsN <| And.intro T39 T9
def sameE (a b : En) : Bool := (a.1 == b.1) && ((a.2.1 == b.2.1) && ((a.2.2 == b.2.2) && true))
def itemF (p : Iv) : List UInt8 :=
  if sameE p.1 p.2 && (p.1.1 && p.1.2.2) then ([91] ++ p.1.2.1) ++ [93]
  else ((((if p.1.2.2 then [91] else [40]) ++ p.1.2.1) ++ [44]) ++ p.2.2.1) ++ (if p.2.2.2 then [93] else [41])
def printR (r : Rg) : List UInt8 := if r.1 then Lib.join (r.2.2.map itemF) [44] else r.2.1
theorem item_len (p : Iv) (k : Nat) (h1 : p.1.2.1.length ≤ k) (h2 : p.2.2.1.length ≤ k) : (itemF p).length ≤ 2 * k + 3 := by
  unfold itemF
  split
  · simp; omega
  · cases p.1.2.2 <;> cases p.2.2.2 <;> simp <;> omega
theorem join_len : ∀ (l : List (List UInt8)) (k : Nat), (∀ x ∈ l, x.length ≤ k) → (Lib.join l [44]).length ≤ l.length * (k + 1)
  | [], _, _ => by simp [Lib.join_nil]
  | x :: r, k, h => by
    rw [Lib.join_length]
    have hr : Lib.lens (x :: r) ≤ (r.length + 1) * k := by
      clear join_len
      have : ∀ l : List (List UInt8), (∀ x ∈ l, x.length ≤ k) → Lib.lens l ≤ l.length * k := by
        intro l
        induction l with
        | nil => intro _; simp [Lib.lens]
        | cons y l ih =>
          intro hl
          have h1 := ih fun z hz => hl z (List.mem_cons_of_mem _ hz)
          have h2 := hl y (by simp)
          rw [List.length_cons, Nat.succ_mul]
          show y.length + Lib.lens l ≤ _
          omega
      exact this (x :: r) h
    simp only [List.length_cons, List.length_nil, Nat.mul_add, Nat.add_mul] at hr ⊢
    omega
/-- bounds.Print -/
theorem Print_v (r : Rg) (tk : Tok) (O : VH) (hr : RgOk r) (hl : r.2.2.length ≤ 10000) : VF Tryd.prog 23 [.agg (rgM r tk)] O (Ret fun m O' => m = .str (printR r) ∧ O.Ge O') := by
  obtain ⟨hard, ver, L⟩ := r
  obtain ⟨hvr, hn, hL⟩ := hr
  have hge := fun x => (VH.Ge.refl O).push x
  have hpl := iv_len L
  unfold printR
  dsimp only at hvr hn hL hl ⊢
  have hnm : (L.length : Int) ≤ 9223372036854775807 := by omega
  refine VF.ofW (n := ⟨67, 0⟩) (rs := [.tmp 2]) tabOk Tryd.func23 rfl rfl rfl (Nat.le_of_ble_eq_true rfl) ?_
  simp only [argEnv, Nat.zero_add, Nat.reduceAdd]
  cases hard
  · simp (disch := first | omega | (simp only [ds] <;> omega) | fail) only [wk, undefM, Nat.reduceLT, Nat.reduceAdd, Nat.reduceMul, Nat.reduceSub, Nat.reduceBEq, Nat.reduceEqDiff, Int.reduceToNat, reduceIte, ts6, rgM]
    exact hge _
  simp (disch := first | omega | (simp only [ds] <;> omega) | fail) only [wk, undefM, Nat.reduceLT, Nat.reduceAdd, Nat.reduceMul, Nat.reduceSub, Nat.reduceBEq, Nat.reduceEqDiff, Int.reduceToNat, reduceIte, ts6, rgM]
  refine WC.loopK tabOk [3, 16] [14, 15] (fun x : Nat × Tok => [.sl (L.take x.1).length (((L.take x.1).map itemF).map .str) x.2, mi x.1]) (fun x O' => (O.push (.cells (rgM (true, ver, L) tk))).Ge O' ∧ App O' (O.next + 1) 1 x.2 ∧ x.1 ≤ L.length) (fun x => L.length - x.1) ((0, .nil)) rfl rfl ?_ ?_
  · exact ⟨VH.Ge.refl _, trivial, Nat.zero_le _⟩
  rintro ⟨j, t⟩ O2 ⟨hg2, hap, hj⟩
  dsimp only at hap hj
  by_cases hj2 : j < L.length
  · have hp6 := iv_at L j hj2
    have hbd := hL L[j] (List.getElem_mem hj2)
    have hsn := take_snoc L j hj2
    have hit : itemF L[j] = _ := rfl
    conv at hit => rhs; unfold itemF
    generalize L[j] = p at *
    obtain ⟨⟨h1, v1, c1⟩, ⟨h3, v3, c3⟩⟩ := p
    dsimp only at hbd hit
    simp (disch := first | omega | (simp only [ds] <;> omega) | fail) only [wk, undefM, Nat.reduceLT, Nat.reduceAdd, Nat.reduceMul, Nat.reduceSub, Nat.reduceBEq, Nat.reduceEqDiff, Int.reduceToNat, reduceIte, ts6, hp6, ivM, enM]
    have hgY := ((VH.Ge.refl O2).push (.cells [.v (.bool false), .str [], .v (.bool false), .v (.bool false), .str [], .v (.bool false)])).set (Nat.le_refl _) (.cells [.v (.bool h1), .str v1, .v (.bool c1), .v (.bool h3), .str v3, .v (.bool c3)])
    have hk5 := VH.set_get (O2.push (.cells [.v (.bool false), .str [], .v (.bool false), .v (.bool false), .str [], .v (.bool false)])) O2.next (.cells [.v (.bool h1), .str v1, .v (.bool c1), .v (.bool h3), .str v3, .v (.bool c3)])
    generalize ((O2.push (.cells [.v (.bool false), .str [], .v (.bool false), .v (.bool false), .str [], .v (.bool false)])).set O2.next (.cells [.v (.bool h1), .str v1, .v (.bool c1), .v (.bool h3), .str v3, .v (.bool c3)])) = O5 at *
    have hg5 := hg2.trans hgY
    have hap5 := hap.keep hgY.next (fun i _ h => hgY.hp i h)
    have hsE : sameE (h1, v1, c1) (h3, v3, c3) = ((h1 == h3) && ((v1 == v3) && ((c1 == c3) && true))) := rfl
    rw [hsE] at hit
    refine VL.eqS tabOk (bb := (h1 == h3) && ((v1 == v3) && ((c1 == c3) && true))) (b := (h1 == h3) && ((v1 == v3) && ((c1 == c3) && true))) (by simp) (by simp [isPlain]) (.inl ⟨rfl, rfl⟩) (by kernel_rfl) (by kernel_rfl) rfl rfl rfl rfl ?_
    generalize ((h1 == h3) && ((v1 == v3) && ((c1 == c3) && true))) = se at *
    clear hsE
    cases hq : se && (h1 && c1)
    · rw [hq, if_neg (by simp)] at hit
      cases se
      · cases c1
        · cases c3
          · simp (disch := first | omega | (simp only [ds] <;> omega) | fail) only [wk, undefM, Nat.reduceLT, Nat.reduceAdd, Nat.reduceMul, Nat.reduceSub, Nat.reduceBEq, Nat.reduceEqDiff, Int.reduceToNat, reduceIte, ts6, hk5, List.length_append, List.length_cons, List.length_nil]
            have hvap := vappend_app (tk' := .full) (n := (L.take j).length) (k := 1) (cs := ((L.take j).map itemF).map .str) (ds := [.str (((([40] ++ v1) ++ [44]) ++ v3) ++ [41])]) ty39 ty9 hap5 (by simp) rfl rfl (by decide) (by decide) (by rw [List.length_take]; omega) (by rw [List.length_take]; simp [maxLen]; omega)
            refine VL.app tabOk hvap rfl rfl rfl rfl ?_
            simp (disch := first | omega | (simp only [ds] <;> omega) | fail) only [wk, undefM, Nat.reduceLT, Nat.reduceAdd, Nat.reduceMul, Nat.reduceSub, Nat.reduceBEq, Nat.reduceEqDiff, Int.reduceToNat, reduceIte, ts6]
            refine RoundQ.next (j + 1, .own O5.next 1) rfl ?_ ⟨hg5.after hap5 (Nat.le_refl _), App.after hg5.next, hj2⟩ (by dsimp only; omega)
            dsimp only
            rw [hsn]
            simp only [List.length_append, List.map_append, List.length_cons, List.length_nil, List.map_cons, List.map_nil, Nat.zero_add, hit]
            rfl
          · simp (disch := first | omega | (simp only [ds] <;> omega) | fail) only [wk, undefM, Nat.reduceLT, Nat.reduceAdd, Nat.reduceMul, Nat.reduceSub, Nat.reduceBEq, Nat.reduceEqDiff, Int.reduceToNat, reduceIte, ts6, hk5, List.length_append, List.length_cons, List.length_nil]
            have hvap := vappend_app (tk' := .full) (n := (L.take j).length) (k := 1) (cs := ((L.take j).map itemF).map .str) (ds := [.str (((([40] ++ v1) ++ [44]) ++ v3) ++ [93])]) ty39 ty9 hap5 (by simp) rfl rfl (by decide) (by decide) (by rw [List.length_take]; omega) (by rw [List.length_take]; simp [maxLen]; omega)
            refine VL.app tabOk hvap rfl rfl rfl rfl ?_
            simp (disch := first | omega | (simp only [ds] <;> omega) | fail) only [wk, undefM, Nat.reduceLT, Nat.reduceAdd, Nat.reduceMul, Nat.reduceSub, Nat.reduceBEq, Nat.reduceEqDiff, Int.reduceToNat, reduceIte, ts6]
            refine RoundQ.next (j + 1, .own O5.next 1) rfl ?_ ⟨hg5.after hap5 (Nat.le_refl _), App.after hg5.next, hj2⟩ (by dsimp only; omega)
            dsimp only
            rw [hsn]
            simp only [List.length_append, List.map_append, List.length_cons, List.length_nil, List.map_cons, List.map_nil, Nat.zero_add, hit]
            rfl
        · cases c3
          · simp (disch := first | omega | (simp only [ds] <;> omega) | fail) only [wk, undefM, Nat.reduceLT, Nat.reduceAdd, Nat.reduceMul, Nat.reduceSub, Nat.reduceBEq, Nat.reduceEqDiff, Int.reduceToNat, reduceIte, ts6, hk5, List.length_append, List.length_cons, List.length_nil]
            have hvap := vappend_app (tk' := .full) (n := (L.take j).length) (k := 1) (cs := ((L.take j).map itemF).map .str) (ds := [.str (((([91] ++ v1) ++ [44]) ++ v3) ++ [41])]) ty39 ty9 hap5 (by simp) rfl rfl (by decide) (by decide) (by rw [List.length_take]; omega) (by rw [List.length_take]; simp [maxLen]; omega)
            refine VL.app tabOk hvap rfl rfl rfl rfl ?_
            simp (disch := first | omega | (simp only [ds] <;> omega) | fail) only [wk, undefM, Nat.reduceLT, Nat.reduceAdd, Nat.reduceMul, Nat.reduceSub, Nat.reduceBEq, Nat.reduceEqDiff, Int.reduceToNat, reduceIte, ts6]
            refine RoundQ.next (j + 1, .own O5.next 1) rfl ?_ ⟨hg5.after hap5 (Nat.le_refl _), App.after hg5.next, hj2⟩ (by dsimp only; omega)
            dsimp only
            rw [hsn]
            simp only [List.length_append, List.map_append, List.length_cons, List.length_nil, List.map_cons, List.map_nil, Nat.zero_add, hit]
            rfl
          · simp (disch := first | omega | (simp only [ds] <;> omega) | fail) only [wk, undefM, Nat.reduceLT, Nat.reduceAdd, Nat.reduceMul, Nat.reduceSub, Nat.reduceBEq, Nat.reduceEqDiff, Int.reduceToNat, reduceIte, ts6, hk5, List.length_append, List.length_cons, List.length_nil]
            have hvap := vappend_app (tk' := .full) (n := (L.take j).length) (k := 1) (cs := ((L.take j).map itemF).map .str) (ds := [.str (((([91] ++ v1) ++ [44]) ++ v3) ++ [93])]) ty39 ty9 hap5 (by simp) rfl rfl (by decide) (by decide) (by rw [List.length_take]; omega) (by rw [List.length_take]; simp [maxLen]; omega)
            refine VL.app tabOk hvap rfl rfl rfl rfl ?_
            simp (disch := first | omega | (simp only [ds] <;> omega) | fail) only [wk, undefM, Nat.reduceLT, Nat.reduceAdd, Nat.reduceMul, Nat.reduceSub, Nat.reduceBEq, Nat.reduceEqDiff, Int.reduceToNat, reduceIte, ts6]
            refine RoundQ.next (j + 1, .own O5.next 1) rfl ?_ ⟨hg5.after hap5 (Nat.le_refl _), App.after hg5.next, hj2⟩ (by dsimp only; omega)
            dsimp only
            rw [hsn]
            simp only [List.length_append, List.map_append, List.length_cons, List.length_nil, List.map_cons, List.map_nil, Nat.zero_add, hit]
            rfl
      cases h1
      · cases c1
        · cases c3
          · simp (disch := first | omega | (simp only [ds] <;> omega) | fail) only [wk, undefM, Nat.reduceLT, Nat.reduceAdd, Nat.reduceMul, Nat.reduceSub, Nat.reduceBEq, Nat.reduceEqDiff, Int.reduceToNat, reduceIte, ts6, hk5, List.length_append, List.length_cons, List.length_nil]
            have hvap := vappend_app (tk' := .full) (n := (L.take j).length) (k := 1) (cs := ((L.take j).map itemF).map .str) (ds := [.str (((([40] ++ v1) ++ [44]) ++ v3) ++ [41])]) ty39 ty9 hap5 (by simp) rfl rfl (by decide) (by decide) (by rw [List.length_take]; omega) (by rw [List.length_take]; simp [maxLen]; omega)
            refine VL.app tabOk hvap rfl rfl rfl rfl ?_
            simp (disch := first | omega | (simp only [ds] <;> omega) | fail) only [wk, undefM, Nat.reduceLT, Nat.reduceAdd, Nat.reduceMul, Nat.reduceSub, Nat.reduceBEq, Nat.reduceEqDiff, Int.reduceToNat, reduceIte, ts6]
            refine RoundQ.next (j + 1, .own O5.next 1) rfl ?_ ⟨hg5.after hap5 (Nat.le_refl _), App.after hg5.next, hj2⟩ (by dsimp only; omega)
            dsimp only
            rw [hsn]
            simp only [List.length_append, List.map_append, List.length_cons, List.length_nil, List.map_cons, List.map_nil, Nat.zero_add, hit]
            rfl
          · simp (disch := first | omega | (simp only [ds] <;> omega) | fail) only [wk, undefM, Nat.reduceLT, Nat.reduceAdd, Nat.reduceMul, Nat.reduceSub, Nat.reduceBEq, Nat.reduceEqDiff, Int.reduceToNat, reduceIte, ts6, hk5, List.length_append, List.length_cons, List.length_nil]
            have hvap := vappend_app (tk' := .full) (n := (L.take j).length) (k := 1) (cs := ((L.take j).map itemF).map .str) (ds := [.str (((([40] ++ v1) ++ [44]) ++ v3) ++ [93])]) ty39 ty9 hap5 (by simp) rfl rfl (by decide) (by decide) (by rw [List.length_take]; omega) (by rw [List.length_take]; simp [maxLen]; omega)
            refine VL.app tabOk hvap rfl rfl rfl rfl ?_
            simp (disch := first | omega | (simp only [ds] <;> omega) | fail) only [wk, undefM, Nat.reduceLT, Nat.reduceAdd, Nat.reduceMul, Nat.reduceSub, Nat.reduceBEq, Nat.reduceEqDiff, Int.reduceToNat, reduceIte, ts6]
            refine RoundQ.next (j + 1, .own O5.next 1) rfl ?_ ⟨hg5.after hap5 (Nat.le_refl _), App.after hg5.next, hj2⟩ (by dsimp only; omega)
            dsimp only
            rw [hsn]
            simp only [List.length_append, List.map_append, List.length_cons, List.length_nil, List.map_cons, List.map_nil, Nat.zero_add, hit]
            rfl
        · cases c3
          · simp (disch := first | omega | (simp only [ds] <;> omega) | fail) only [wk, undefM, Nat.reduceLT, Nat.reduceAdd, Nat.reduceMul, Nat.reduceSub, Nat.reduceBEq, Nat.reduceEqDiff, Int.reduceToNat, reduceIte, ts6, hk5, List.length_append, List.length_cons, List.length_nil]
            have hvap := vappend_app (tk' := .full) (n := (L.take j).length) (k := 1) (cs := ((L.take j).map itemF).map .str) (ds := [.str (((([91] ++ v1) ++ [44]) ++ v3) ++ [41])]) ty39 ty9 hap5 (by simp) rfl rfl (by decide) (by decide) (by rw [List.length_take]; omega) (by rw [List.length_take]; simp [maxLen]; omega)
            refine VL.app tabOk hvap rfl rfl rfl rfl ?_
            simp (disch := first | omega | (simp only [ds] <;> omega) | fail) only [wk, undefM, Nat.reduceLT, Nat.reduceAdd, Nat.reduceMul, Nat.reduceSub, Nat.reduceBEq, Nat.reduceEqDiff, Int.reduceToNat, reduceIte, ts6]
            refine RoundQ.next (j + 1, .own O5.next 1) rfl ?_ ⟨hg5.after hap5 (Nat.le_refl _), App.after hg5.next, hj2⟩ (by dsimp only; omega)
            dsimp only
            rw [hsn]
            simp only [List.length_append, List.map_append, List.length_cons, List.length_nil, List.map_cons, List.map_nil, Nat.zero_add, hit]
            rfl
          · simp (disch := first | omega | (simp only [ds] <;> omega) | fail) only [wk, undefM, Nat.reduceLT, Nat.reduceAdd, Nat.reduceMul, Nat.reduceSub, Nat.reduceBEq, Nat.reduceEqDiff, Int.reduceToNat, reduceIte, ts6, hk5, List.length_append, List.length_cons, List.length_nil]
            have hvap := vappend_app (tk' := .full) (n := (L.take j).length) (k := 1) (cs := ((L.take j).map itemF).map .str) (ds := [.str (((([91] ++ v1) ++ [44]) ++ v3) ++ [93])]) ty39 ty9 hap5 (by simp) rfl rfl (by decide) (by decide) (by rw [List.length_take]; omega) (by rw [List.length_take]; simp [maxLen]; omega)
            refine VL.app tabOk hvap rfl rfl rfl rfl ?_
            simp (disch := first | omega | (simp only [ds] <;> omega) | fail) only [wk, undefM, Nat.reduceLT, Nat.reduceAdd, Nat.reduceMul, Nat.reduceSub, Nat.reduceBEq, Nat.reduceEqDiff, Int.reduceToNat, reduceIte, ts6]
            refine RoundQ.next (j + 1, .own O5.next 1) rfl ?_ ⟨hg5.after hap5 (Nat.le_refl _), App.after hg5.next, hj2⟩ (by dsimp only; omega)
            dsimp only
            rw [hsn]
            simp only [List.length_append, List.map_append, List.length_cons, List.length_nil, List.map_cons, List.map_nil, Nat.zero_add, hit]
            rfl
      cases c1
      · cases c3
        · simp (disch := first | omega | (simp only [ds] <;> omega) | fail) only [wk, undefM, Nat.reduceLT, Nat.reduceAdd, Nat.reduceMul, Nat.reduceSub, Nat.reduceBEq, Nat.reduceEqDiff, Int.reduceToNat, reduceIte, ts6, hk5, List.length_append, List.length_cons, List.length_nil]
          have hvap := vappend_app (tk' := .full) (n := (L.take j).length) (k := 1) (cs := ((L.take j).map itemF).map .str) (ds := [.str (((([40] ++ v1) ++ [44]) ++ v3) ++ [41])]) ty39 ty9 hap5 (by simp) rfl rfl (by decide) (by decide) (by rw [List.length_take]; omega) (by rw [List.length_take]; simp [maxLen]; omega)
          refine VL.app tabOk hvap rfl rfl rfl rfl ?_
          simp (disch := first | omega | (simp only [ds] <;> omega) | fail) only [wk, undefM, Nat.reduceLT, Nat.reduceAdd, Nat.reduceMul, Nat.reduceSub, Nat.reduceBEq, Nat.reduceEqDiff, Int.reduceToNat, reduceIte, ts6]
          refine RoundQ.next (j + 1, .own O5.next 1) rfl ?_ ⟨hg5.after hap5 (Nat.le_refl _), App.after hg5.next, hj2⟩ (by dsimp only; omega)
          dsimp only
          rw [hsn]
          simp only [List.length_append, List.map_append, List.length_cons, List.length_nil, List.map_cons, List.map_nil, Nat.zero_add, hit]
          rfl
        · simp (disch := first | omega | (simp only [ds] <;> omega) | fail) only [wk, undefM, Nat.reduceLT, Nat.reduceAdd, Nat.reduceMul, Nat.reduceSub, Nat.reduceBEq, Nat.reduceEqDiff, Int.reduceToNat, reduceIte, ts6, hk5, List.length_append, List.length_cons, List.length_nil]
          have hvap := vappend_app (tk' := .full) (n := (L.take j).length) (k := 1) (cs := ((L.take j).map itemF).map .str) (ds := [.str (((([40] ++ v1) ++ [44]) ++ v3) ++ [93])]) ty39 ty9 hap5 (by simp) rfl rfl (by decide) (by decide) (by rw [List.length_take]; omega) (by rw [List.length_take]; simp [maxLen]; omega)
          refine VL.app tabOk hvap rfl rfl rfl rfl ?_
          simp (disch := first | omega | (simp only [ds] <;> omega) | fail) only [wk, undefM, Nat.reduceLT, Nat.reduceAdd, Nat.reduceMul, Nat.reduceSub, Nat.reduceBEq, Nat.reduceEqDiff, Int.reduceToNat, reduceIte, ts6]
          refine RoundQ.next (j + 1, .own O5.next 1) rfl ?_ ⟨hg5.after hap5 (Nat.le_refl _), App.after hg5.next, hj2⟩ (by dsimp only; omega)
          dsimp only
          rw [hsn]
          simp only [List.length_append, List.map_append, List.length_cons, List.length_nil, List.map_cons, List.map_nil, Nat.zero_add, hit]
          rfl
      · cases hq
    · rw [hq, if_pos rfl] at hit
      obtain ⟨e1, e2⟩ := Bool.and_eq_true_iff.1 hq
      obtain ⟨e2, e3⟩ := Bool.and_eq_true_iff.1 e2
      subst e1 e2 e3
      simp (disch := first | omega | (simp only [ds] <;> omega) | fail) only [wk, undefM, Nat.reduceLT, Nat.reduceAdd, Nat.reduceMul, Nat.reduceSub, Nat.reduceBEq, Nat.reduceEqDiff, Int.reduceToNat, reduceIte, ts6, hk5, List.length_append, List.length_cons, List.length_nil]
      have hvap := vappend_app (tk' := .full) (n := (L.take j).length) (k := 1) (cs := ((L.take j).map itemF).map .str) (ds := [.str (([91] ++ v1) ++ [93])]) ty39 ty9 hap5 (by simp) rfl rfl (by decide) (by decide) (by rw [List.length_take]; omega) (by rw [List.length_take]; simp [maxLen]; omega)
      refine VL.app tabOk hvap rfl rfl rfl rfl ?_
      simp (disch := first | omega | (simp only [ds] <;> omega) | fail) only [wk, undefM, Nat.reduceLT, Nat.reduceAdd, Nat.reduceMul, Nat.reduceSub, Nat.reduceBEq, Nat.reduceEqDiff, Int.reduceToNat, reduceIte, ts6]
      refine RoundQ.next (j + 1, .own O5.next 1) rfl ?_ ⟨hg5.after hap5 (Nat.le_refl _), App.after hg5.next, hj2⟩ (by dsimp only; omega)
      dsimp only
      rw [hsn]
      simp only [List.length_append, List.map_append, List.length_cons, List.length_nil, List.map_cons, List.map_nil, Nat.zero_add, hit]
      rfl
  · have hje : j = L.length := by omega
    subst hje
    rw [List.take_length]
    have hil : ∀ x ∈ L.map itemF, x.length ≤ 20003 := fun x hx => by
      obtain ⟨p, hp, rfl⟩ := List.mem_map.1 hx
      exact item_len p 10000 (hL p hp).1 (hL p hp).2
    have hjl := join_len _ _ hil
    rw [List.length_map] at hjl
    have hlm : L.length = (L.map itemF).length := by simp
    have hjn := Join_v (L.map itemF) [44] t O2 (by rw [List.length_map]; omega) (by omega)
    rw [← hlm] at hjn
    simp (disch := first | omega | (simp only [ds] <;> omega) | fail) only [wk, undefM, Nat.reduceLT, Nat.reduceAdd, Nat.reduceMul, Nat.reduceSub, Nat.reduceBEq, Nat.reduceEqDiff, Int.reduceToNat, reduceIte, ts6]
    refine CallW.rt (hjn) (by kernel_rfl) rfl rfl ?_
    rintro _ O3 ⟨rfl, eO⟩
    rw [eO]
    simp (disch := first | omega | (simp only [ds] <;> omega) | fail) only [wk, undefM, Nat.reduceLT, Nat.reduceAdd, Nat.reduceMul, Nat.reduceSub, Nat.reduceBEq, Nat.reduceEqDiff, Int.reduceToNat, reduceIte, ts6]
    exact (hge _).trans hg2
end Go.Proofs.YtbpnmkmlicbfoaaDoor

/-
  What is printed of a range is read as the same: plain facts.
-/
set_option linter.unusedVariables false
set_option linter.unusedSimpArgs false
namespace Go.Proofs.YtbpnmkmlicbfoaaDoor
open Go.RowKit
set_option maxRecDepth 10000
theorem okC_stop {c : UInt8} (h : okC c = true) : stopC.contains c = false := by
  rw [Bool.eq_false_iff]
  intro hc
  have hm : c ∈ stopC := by simpa using hc
  simp only [stopC, List.mem_cons, List.not_mem_nil, or_false] at hm
  rcases hm with e | e | e | e | e | e | e | e | e <;> (rw [e] at h; revert h; decide)
theorem nostop_blank {c : UInt8} (h : stopC.contains c = false) : isB c = false := by
  cases hb : isB c
  · rfl
  · rw [stop_yes hb] at h; cases h
theorem may_stop {v : List UInt8} (h : mayF v = true) : v ≠ [] ∧ ∀ c ∈ v, stopC.contains c = false := by
  simp only [mayF, Bool.and_eq_true, decide_eq_true_eq, List.all_eq_true] at h
  exact ⟨fun e => by rw [e] at h; simp at h, fun c hc => okC_stop (h.1 c hc)⟩
theorem word_at {v : List UInt8} (hv : ∀ c ∈ v, stopC.contains c = false) {d : UInt8} (hd : stopC.contains d = true) (hb : isB d = false) (r : List UInt8) : wordB (v ++ d :: r) = (v, d :: r) := by
  have h1 : (v ++ d :: r).dropWhile isB = v ++ d :: r := by
    cases v with
    | nil => simp [List.dropWhile, hb]
    | cons c v => simp [List.dropWhile, nostop_blank (hv c (by simp))]
  have h2 : ∀ v : List UInt8, (∀ c ∈ v, stopC.contains c = false) → ((v ++ d :: r).takeWhile fun b => !stopC.contains b) = v ∧ ((v ++ d :: r).dropWhile fun b => !stopC.contains b) = d :: r := by
    intro v
    induction v with
    | nil => intro _; simp only [List.nil_append, List.takeWhile, List.dropWhile, hd]; exact ⟨rfl, rfl⟩
    | cons c v ih =>
      intro hv
      have hc := hv c (by simp)
      obtain ⟨g1, g2⟩ := ih fun x hx => hv x (List.mem_cons_of_mem _ hx)
      simp only [List.cons_append, List.takeWhile, List.dropWhile, hc, Bool.not_false]
      exact ⟨by rw [g1], g2⟩
  unfold wordB
  rw [h1, (h2 v hv).1, (h2 v hv).2]
  simp [List.dropWhile, hb]
theorem end_stop {e : En} (h : endOk e = true) : ∀ c ∈ e.2.1, stopC.contains c = false := by
  unfold endOk at h
  split at h
  · exact (may_stop h).2
  · simp only [Bool.and_eq_true, beq_iff_eq] at h
    rw [h.1]; intro c hc; cases hc
theorem end_eq {e : En} (h : endOk e = true) : endF e.2.1 e.2.2 = e := by
  obtain ⟨b, v, c⟩ := e
  unfold endOk at h
  unfold endF
  dsimp only at h ⊢
  cases b
  · simp only [Bool.false_eq_true, if_false, Bool.and_eq_true, beq_iff_eq, Bool.not_eq_true'] at h
    obtain ⟨rfl, rfl⟩ := h
    rfl
  · simp only [if_true] at h
    have := (may_stop h).1
    rw [if_neg (by simpa using this)]
theorem same_eq {a b : En} (h : sameE a b = true) : a = b := by
  obtain ⟨a1, a2, a3⟩ := a
  obtain ⟨b1, b2, b3⟩ := b
  simp only [sameE, Bool.and_eq_true, beq_iff_eq, and_true] at h
  obtain ⟨rfl, rfl, rfl⟩ := h
  rfl
/-- An interval printed, read. -/
theorem iv_item {p : Iv} (hp : ivOk p) (r : List UInt8) : ivF (itemF p ++ r) = some (p, r) := by
  obtain ⟨h1, h2, _⟩ := hp
  have s1 := end_stop h1
  have s2 := end_stop h2
  have q1 := end_eq h1
  have q2 := end_eq h2
  obtain ⟨⟨b1, v1, c1⟩, ⟨b2, v2, c2⟩⟩ := p
  dsimp only at s1 s2 q1 q2
  unfold itemF
  dsimp only
  cases hs : sameE (b1, v1, c1) (b2, v2, c2) && (b1 && c1)
  · simp only [Bool.false_eq_true, if_false]
    have e : (((((if c1 = true then [91] else [40]) ++ v1) ++ [44]) ++ v2) ++ (if c2 = true then [93] else [41])) ++ r = (if c1 = true then (91 : UInt8) else 40) :: (v1 ++ 44 :: (v2 ++ (if c2 = true then (93 : UInt8) else 41) :: r)) := by cases c1 <;> cases c2 <;> simp
    rw [e]
    have w1 := word_at s1 (d := 44) (by decide) (by decide) (v2 ++ (if c2 = true then (93 : UInt8) else 41) :: r)
    have w2 := word_at s2 (d := if c2 = true then 93 else 41) (by cases c2 <;> decide) (by cases c2 <;> decide) r
    unfold ivF
    simp only [List.drop_succ_cons, List.drop_zero, w1, w2, headB, List.headD_cons]
    have k1 : ((if c1 = true then (91 : UInt8) else 40) == 91) = c1 := by cases c1 <;> rfl
    have k2 : ((if c2 = true then (93 : UInt8) else 41) == 93) = c2 := by cases c2 <;> rfl
    rw [k1, k2, q1, q2]
    cases c1 <;> cases c2 <;> simp
  · simp only [if_true]
    simp only [Bool.and_eq_true] at hs
    obtain ⟨hs1, rfl, rfl⟩ := hs
    have := same_eq hs1
    simp only [Prod.mk.injEq] at this
    obtain ⟨rfl, rfl, rfl⟩ := this
    have e : (([91] ++ v1) ++ [93]) ++ r = (91 : UInt8) :: (v1 ++ 93 :: r) := by simp
    rw [e]
    have w1 := word_at s1 (d := 93) (by decide) (by decide) r
    unfold ivF
    simp only [List.drop_succ_cons, List.drop_zero, w1, headB, List.headD_cons]
    simp
theorem item_head (p : Iv) : ∃ c l, itemF p = c :: l ∧ isB c = false ∧ (c == 91 || c == 40) = true := by
  unfold itemF
  split
  · exact ⟨91, p.1.2.1 ++ [93], by simp, by decide, by decide⟩
  · cases p.1.2.2
    · exact ⟨40, _, by simp; rfl, by decide, by decide⟩
    · exact ⟨91, _, by simp; rfl, by decide, by decide⟩
theorem item_last (p : Iv) : ∃ l c, itemF p = l ++ [c] ∧ isB c = false := by
  unfold itemF
  split
  · exact ⟨_, 93, rfl, by decide⟩
  · cases p.2.2.2
    · exact ⟨_, 41, rfl, by decide⟩
    · exact ⟨_, 93, rfl, by decide⟩
/-- What stands behind an interval, printed. -/
def restT (r : List Iv) : List UInt8 := r.flatMap fun q => 44 :: itemF q
theorem rest_trim (r : List Iv) : (restT r).dropWhile isB = restT r := by
  cases r with
  | nil => rfl
  | cons q r => simp [restT, List.dropWhile, show isB 44 = false by decide]
theorem tail_rest : ∀ (r : List Iv) (k : Nat), r.length < k → (∀ p ∈ r, ivOk p) → tailF k (restT r) = some r
  | [], k + 1, _, _ => rfl
  | q :: r, 0, h, _ => by cases h
  | q :: r, k + 1, h, hok => by
    obtain ⟨c, l, hc, hb, _⟩ := item_head q
    have e : restT (q :: r) = 44 :: (itemF q ++ restT r) := by simp [restT]
    have hd : (itemF q ++ restT r).dropWhile isB = itemF q ++ restT r := by rw [hc]; simp [List.dropWhile, hb]
    rw [e, tailF]
    simp only [List.drop_succ_cons, List.drop_zero, hd, headB, List.headD_cons]
    rw [iv_item (hok q (by simp))]
    have ih := tail_rest r k (by simpa using h) fun p hp => hok p (List.mem_cons_of_mem _ hp)
    simp [rest_trim, ih]
theorem join_rest (p : Iv) (r : List Iv) : Lib.join ((p :: r).map itemF) [44] = itemF p ++ restT r := by
  rw [List.map_cons, Lib.join_cons]
  congr 1
  unfold Lib.joinTail restT
  induction r with
  | nil => rfl
  | cons q r ih => rw [List.map_cons, List.map_cons, List.flatten_cons, ih, List.flatMap_cons]; rfl
theorem rest_len (r : List Iv) : r.length ≤ (restT r).length := by
  induction r with
  | nil => exact Nat.le_refl _
  | cons q r ih =>
    have e : restT (q :: r) = 44 :: (itemF q ++ restT r) := by simp [restT]
    rw [e, List.length_cons, List.length_cons, List.length_append]; omega
theorem parts_print {p : Iv} {r : List Iv} (hok : ∀ q ∈ p :: r, ivOk q) : partsF (itemF p ++ restT r) = some (p :: r) := by
  unfold partsF restF
  simp only [if_true]
  rw [iv_item (hok p (by simp))]
  have hl := rest_len r
  have := tail_rest r ((itemF p ++ restT r).length + 1) (by rw [List.length_append]; omega) fun q hq => hok q (List.mem_cons_of_mem _ hq)
  show Option.map _ (tailF ((itemF p ++ restT r).length + 1) ((restT r).dropWhile isB)) = _
  rw [rest_trim, this]; rfl
theorem trim_ends {s : List UInt8} (hf : ∃ c l, s = c :: l ∧ isB c = false) (hl : ∃ l c, s = l ++ [c] ∧ isB c = false) : trimB s = s ∧ trimB ([32, 10] ++ s ++ [9]) = s := by
  obtain ⟨l, e, h1, h2⟩ := hl
  have r0 : rdw isB s = s := by rw [h1, rdw_snoc, if_neg (by simp [h2])]
  obtain ⟨c, t, h3, h4⟩ := hf
  have d0 : s.dropWhile isB = s := by rw [h3]; simp [List.dropWhile, h4]
  refine ⟨by unfold trimB; rw [d0, r0], ?_⟩
  have d1 : ([32, 10] ++ s ++ [9]).dropWhile isB = s ++ [9] := by
    rw [h3]; simp [List.dropWhile, h4, show isB 32 = true by decide, show isB 10 = true by decide]
  unfold trimB
  rw [d1, rdw_snoc, if_pos (by decide), r0]
theorem rest_last (p : Iv) (r : List Iv) : ∃ l c, itemF p ++ restT r = l ++ [c] ∧ isB c = false := by
  induction r generalizing p with
  | nil =>
    obtain ⟨l, c, h1, h2⟩ := item_last p
    exact ⟨l, c, by simp [restT, h1], h2⟩
  | cons q r ih =>
    obtain ⟨l, c, h1, h2⟩ := ih q
    have e : restT (q :: r) = 44 :: (itemF q ++ restT r) := by simp [restT]
    exact ⟨itemF p ++ 44 :: l, c, by rw [e, h1]; simp, h2⟩
/-- A range that may be, printed, is read as the same. -/
theorem back {r : Rg} (h : mayR r = true) : parseR (printR r) = some r ∧ parseR ([32, 10] ++ printR r ++ [9]) = some r := by
  have hmay := h
  obtain ⟨hd, v, L⟩ := r
  unfold mayR at h
  dsimp only at h
  cases hd
  · simp only [Bool.false_eq_true, if_false, Bool.and_eq_true, decide_eq_true_eq] at h
    obtain ⟨h0, hv⟩ := h
    have hL : L = [] := List.eq_nil_of_length_eq_zero h0
    subst hL
    obtain ⟨hne, hst⟩ := may_stop hv
    have hf : ∃ c l, v = c :: l ∧ isB c = false := by
      obtain ⟨c, l, rfl⟩ := List.exists_cons_of_ne_nil hne
      exact ⟨c, l, rfl, nostop_blank (hst c (by simp))⟩
    have hl : ∃ l c, v = l ++ [c] ∧ isB c = false := ⟨v.dropLast, v.getLast hne, (List.dropLast_concat_getLast hne).symm, nostop_blank (hst _ (List.getLast_mem hne))⟩
    have hp : parseT v = some (false, v, []) := by
      obtain ⟨c, l, rfl⟩ := List.exists_cons_of_ne_nil hne
      have hc := hst c (by simp)
      have h91 : (c == 91) = false := by rw [beq_eq_false_iff_ne]; rintro rfl; exact absurd hc (by decide)
      have h40 : (c == 40) = false := by rw [beq_eq_false_iff_ne]; rintro rfl; exact absurd hc (by decide)
      simp only [parseT, headB, List.headD_cons, h91, h40, Bool.or_self, Bool.false_eq_true, if_false, hmay, if_true]
    obtain ⟨t1, t2⟩ := trim_ends hf hl
    show parseT (trimB v) = _ ∧ parseT (trimB ([32, 10] ++ v ++ [9])) = _
    rw [t1, t2]
    exact ⟨hp, hp⟩
  · simp only [if_true, Bool.and_eq_true, decide_eq_true_eq, beq_iff_eq] at h
    obtain ⟨hr, rfl, h1, _⟩ := h
    obtain ⟨hok, _, _⟩ := (row_iff L none).1 hr
    obtain ⟨p, r, rfl⟩ := List.exists_cons_of_ne_nil (show L ≠ [] by rintro rfl; simp at h1)
    have hpr : printR (true, [], p :: r) = itemF p ++ restT r := join_rest p r
    obtain ⟨c, l, hc, hb, h91⟩ := item_head p
    obtain ⟨t1, t2⟩ := trim_ends (s := itemF p ++ restT r) ⟨c, l ++ restT r, by rw [hc]; rfl, hb⟩ (rest_last p r)
    have hp : parseT (itemF p ++ restT r) = some (true, [], p :: r) := by
      unfold parseT
      rw [parts_print hok]
      have hh : headB (itemF p ++ restT r) = c := by rw [hc]; rfl
      rw [hh, h91]
      simp [hmay]
    rw [hpr]
    show parseT (trimB _) = _ ∧ parseT (trimB _) = _
    rw [t1, t2]
    exact ⟨hp, hp⟩
end Go.Proofs.YtbpnmkmlicbfoaaDoor
