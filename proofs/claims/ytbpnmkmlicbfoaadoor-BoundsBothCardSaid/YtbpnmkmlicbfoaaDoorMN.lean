/-
  Texts BndN BndO BndP BndQ BndR BndS BndT, one behind the other.
-/
import Derived.Test.YtbpnmkmlicbfoaaDoorMM
import Derived.Lib.LazyBuf
/-
  The statements of the package bounds: what they are made of: cut, Light, Same, the examples, walked.
-/
set_option linter.unusedVariables false
set_option linter.unusedSimpArgs false
namespace Go.Proofs.YtbpnmkmlicbfoaaDoor
open Go.RowKit
set_option maxRecDepth 10000
set_option linter.defProp false in
def tsN := And.intro tsM T26
/-- pomacelaw05.cut -/
theorem lawCut5_v (s : List UInt8) (O : VH) (hs : s.length ≤ maxLen) : VF Tryd.prog 9 [.str s] O (Ret fun m O' => m = .str (s.take 300) ∧ O' = O) := by
  have hm : (s.length : Int) ≤ 9223372036854775807 := by simp [maxLen] at hs; omega
  refine VF.ofW (n := ⟨9, 0⟩) (rs := [.tmp 2]) tabOk Tryd.func9 rfl rfl rfl (Nat.le_of_ble_eq_true rfl) ?_
  simp only [argEnv, Nat.zero_add, Nat.reduceAdd]
  by_cases h : s.length ≤ 300
  · rw [List.take_of_length_le h]
    simp (disch := first | omega | (simp only [ds] <;> omega) | fail) only [wk, undefM, Nat.reduceLT, Nat.reduceAdd, Nat.reduceMul, Nat.reduceSub, Nat.reduceBEq, Nat.reduceEqDiff, Int.reduceToNat, reduceIte, tsN]
  · simp (disch := first | omega | (simp only [ds] <;> omega) | fail) only [wk, undefM, Nat.reduceLT, Nat.reduceAdd, Nat.reduceMul, Nat.reduceSub, Nat.reduceBEq, Nat.reduceEqDiff, Int.reduceToNat, reduceIte, tsN]
def lightR (r : Rg) : Bool := decide (r.2.2.length ≤ 20) && (decide (r.2.1.length ≤ 100) && r.2.2.all fun p => decide (p.1.2.1.length ≤ 100) && decide (p.2.2.1.length ≤ 100))
theorem light_ok {r : Rg} (h : lightR r = true) : RgOk r ∧ r.2.2.length ≤ 20 ∧ r.2.1.length ≤ 100 ∧ ∀ p ∈ r.2.2, p.1.2.1.length ≤ 100 ∧ p.2.2.1.length ≤ 100 := by
  simp only [lightR, Bool.and_eq_true, decide_eq_true_eq, List.all_eq_true] at h
  refine ⟨⟨by simp only [maxLen]; omega, by simp only [maxLen]; omega, fun p hp => ?_⟩, h.1, h.2.1, fun p hp => h.2.2 p hp⟩
  have := h.2.2 p hp
  exact ⟨by omega, by omega⟩
/-- pomacelaw05.Light -/
theorem Light_v (r : Rg) (tk : Tok) (O : VH) (h1 : r.2.1.length ≤ maxLen) (h2 : r.2.2.length ≤ maxLen) (h3 : ∀ p ∈ r.2.2, p.1.2.1.length ≤ maxLen ∧ p.2.2.1.length ≤ maxLen) : VF Tryd.prog 14 [.agg (rgM r tk)] O (Ret fun m O' => m = mb (lightR r) ∧ O.Ge O') := by
  obtain ⟨hard, ver, L⟩ := r
  dsimp only at h1 h2 h3
  have hge := fun x => (VH.Ge.refl O).push x
  have hpl := iv_len L
  have hnm : (L.length : Int) ≤ 9223372036854775807 := by simp [maxLen] at h2; omega
  have hvm : (ver.length : Int) ≤ 9223372036854775807 := by simp [maxLen] at h1; omega
  unfold lightR
  dsimp only
  refine VF.ofW (n := ⟨35, 0⟩) (rs := [.tmp 2]) tabOk Tryd.func14 rfl rfl rfl (Nat.le_of_ble_eq_true rfl) ?_
  simp only [argEnv, Nat.zero_add, Nat.reduceAdd]
  by_cases a1 : L.length ≤ 20
  rotate_left
  · rw [decide_eq_false a1]
    simp (disch := first | omega | (simp only [ds] <;> omega) | fail) only [wk, undefM, Nat.reduceLT, Nat.reduceAdd, Nat.reduceMul, Nat.reduceSub, Nat.reduceBEq, Nat.reduceEqDiff, Int.reduceToNat, reduceIte, tsN, rgM]
    exact hge _
  by_cases a2 : ver.length ≤ 100
  rotate_left
  · rw [decide_eq_false a2]
    simp (disch := first | omega | (simp only [ds] <;> omega) | fail) only [wk, undefM, Nat.reduceLT, Nat.reduceAdd, Nat.reduceMul, Nat.reduceSub, Nat.reduceBEq, Nat.reduceEqDiff, Int.reduceToNat, reduceIte, tsN, rgM]
    exact hge _
  rw [decide_eq_true a1, decide_eq_true a2]
  simp (disch := first | omega | (simp only [ds] <;> omega) | fail) only [wk, undefM, Nat.reduceLT, Nat.reduceAdd, Nat.reduceMul, Nat.reduceSub, Nat.reduceBEq, Nat.reduceEqDiff, Int.reduceToNat, reduceIte, tsN, rgM]
  refine WC.loopK tabOk [18] [16, 17] (fun j : Nat => [mi j]) (fun j O' => O.Ge O' ∧ j ≤ L.length ∧ (L.all fun p => decide (p.1.2.1.length ≤ 100) && decide (p.2.2.1.length ≤ 100)) = ((L.drop j).all fun p => decide (p.1.2.1.length ≤ 100) && decide (p.2.2.1.length ≤ 100))) (fun j => L.length - j) (0) rfl rfl ?_ ?_
  · exact ⟨hge _, Nat.zero_le _, rfl⟩
  rintro j O2 ⟨hg2, hj, hok⟩
  by_cases b2 : j < L.length
  · have hp6 := iv_at L j b2
    have hbd := h3 L[j] (List.getElem_mem b2)
    rw [List.drop_eq_getElem_cons b2, List.all_cons] at hok
    generalize hp : L[j] = p at *
    obtain ⟨⟨e1, v1, c1⟩, ⟨e3, v3, c3⟩⟩ := p
    dsimp only at hbd hok
    have hvm1 : (v1.length : Int) ≤ 9223372036854775807 := by have := hbd.1; simp [maxLen] at this; omega
    have hvm3 : (v3.length : Int) ≤ 9223372036854775807 := by have := hbd.2; simp [maxLen] at this; omega
    have hgY : ∀ x y, O2.Ge ((O2.push x).set O2.next y) := fun x y => ((VH.Ge.refl O2).push _).set (Nat.le_refl _) _
    by_cases a3 : v1.length ≤ 100
    rotate_left
    · rw [hok, decide_eq_false a3]
      simp (disch := first | omega | (simp only [ds] <;> omega) | fail) only [wk, undefM, Nat.reduceLT, Nat.reduceAdd, Nat.reduceMul, Nat.reduceSub, Nat.reduceBEq, Nat.reduceEqDiff, Int.reduceToNat, reduceIte, tsN, hp6, ivM, enM]
      exact hg2.trans (hgY _ _)
    by_cases a4 : v3.length ≤ 100
    rotate_left
    · rw [hok, decide_eq_false a4, decide_eq_true a3]
      simp (disch := first | omega | (simp only [ds] <;> omega) | fail) only [wk, undefM, Nat.reduceLT, Nat.reduceAdd, Nat.reduceMul, Nat.reduceSub, Nat.reduceBEq, Nat.reduceEqDiff, Int.reduceToNat, reduceIte, tsN, hp6, ivM, enM]
      exact hg2.trans (hgY _ _)
    rw [decide_eq_true a3, decide_eq_true a4] at hok
    simp (disch := first | omega | (simp only [ds] <;> omega) | fail) only [wk, undefM, Nat.reduceLT, Nat.reduceAdd, Nat.reduceMul, Nat.reduceSub, Nat.reduceBEq, Nat.reduceEqDiff, Int.reduceToNat, reduceIte, tsN, hp6, ivM, enM]
    refine RoundQ.next (j + 1) rfl rfl ?_ (by first | omega | (dsimp only; omega))
    exact ⟨hg2.trans (hgY _ _), by omega, hok⟩
  · have hjl : j = L.length := by omega
    rw [List.drop_of_length_le (by omega)] at hok
    rw [hok]
    simp (disch := first | omega | (simp only [ds] <;> omega) | fail) only [wk, undefM, Nat.reduceLT, Nat.reduceAdd, Nat.reduceMul, Nat.reduceSub, Nat.reduceBEq, Nat.reduceEqDiff, Int.reduceToNat, reduceIte, tsN]
    exact ⟨rfl, hg2⟩
/-- pomaceref05.Same of a range and itself -/
theorem rSame_v (r : Rg) (tk tk' : Tok) (O : VH) (hn : r.2.2.length ≤ maxLen) : VF Tryd.prog 12 [.agg (rgM r tk), .agg (rgM r tk')] O (Ret fun m O' => m = mb true ∧ O.Ge O') := by
  obtain ⟨hard, ver, L⟩ := r
  dsimp only at hn
  have hge := fun x y => ((VH.Ge.refl O).push x).push y
  have hpl := iv_len L
  have hnm : (L.length : Int) ≤ 9223372036854775807 := by simp [maxLen] at hn; omega
  have hk1 : ((O.push (.cells (rgM (hard, ver, L) tk))).push (.cells (rgM (hard, ver, L) tk'))).hp O.next = some (.cells (rgM (hard, ver, L) tk)) := (VH.push_ne _ _ (by show O.next ≠ O.next + 1; omega)).trans (VH.push_new O _)
  have hk2 : ((O.push (.cells (rgM (hard, ver, L) tk))).push (.cells (rgM (hard, ver, L) tk'))).hp (O.next + 1) = some (.cells (rgM (hard, ver, L) tk')) := VH.push_new _ _
  simp only [rgM] at hk1 hk2
  refine VF.ofW (n := ⟨45, 0⟩) (rs := [.tmp 4]) tabOk Tryd.func12 rfl rfl rfl (Nat.le_of_ble_eq_true rfl) ?_
  simp only [argEnv, Nat.zero_add, Nat.reduceAdd]
  simp (disch := first | omega | (simp only [ds] <;> omega) | fail) only [wk, undefM, Nat.reduceLT, Nat.reduceAdd, Nat.reduceMul, Nat.reduceSub, Nat.reduceBEq, Nat.reduceEqDiff, Int.reduceToNat, reduceIte, tsN, rgM, beq_self_eq_true, bne_self_eq_false, BEq.rfl]
  refine WC.loopK tabOk [30] [2, 3, 29] (fun j : Nat => [mi j]) (fun j O' => ((O.push (.cells (rgM (hard, ver, L) tk))).push (.cells (rgM (hard, ver, L) tk'))).Ge O' ∧ j ≤ L.length) (fun j => L.length - j) (0) rfl rfl ?_ ?_
  · exact ⟨VH.Ge.refl _, Nat.zero_le _⟩
  rintro j O2 ⟨hg2, hj⟩
  have hk1' := (hg2.hp O.next (by show O.next < O.next + 2; omega)).trans hk1
  have hk2' := (hg2.hp (O.next + 1) (by show O.next + 1 < O.next + 2; omega)).trans hk2
  by_cases h2 : j < L.length
  · have hp6 := iv_at L j h2
    generalize hp : L[j] = p at *
    obtain ⟨⟨h1, v1, c1⟩, ⟨h3, v3, c3⟩⟩ := p
    simp (disch := first | omega | (simp only [ds] <;> omega) | fail) only [wk, undefM, Nat.reduceLT, Nat.reduceAdd, Nat.reduceMul, Nat.reduceSub, Nat.reduceBEq, Nat.reduceEqDiff, Int.reduceToNat, reduceIte, tsN]
    refine WC.reads tabOk (by kernel_rfl) (by kernel_rfl) (by kernel_rfl) ?_
    simp (disch := first | omega | (simp only [ds] <;> omega) | fail) only [wk, undefM, Nat.reduceLT, Nat.reduceAdd, Nat.reduceMul, Nat.reduceSub, Nat.reduceBEq, Nat.reduceEqDiff, Int.reduceToNat, reduceIte, tsN, hk1', hk2', hp6, ivM, enM, vbin_agg]
    refine VL.eqS tabOk (bb := !(((h1 == h1) && ((v1 == v1) && ((c1 == c1) && true))) && (((h3 == h3) && ((v3 == v3) && ((c3 == c3) && true))) && true))) (b := ((h1 == h1) && ((v1 == v1) && ((c1 == c1) && true))) && (((h3 == h3) && ((v3 == v3) && ((c3 == c3) && true))) && true)) (by simp) (by simp) (.inr ⟨rfl, rfl⟩) (by kernel_rfl) (by kernel_rfl) rfl rfl rfl rfl ?_
    simp (disch := first | omega | (simp only [ds] <;> omega) | fail) only [wk, undefM, Nat.reduceLT, Nat.reduceAdd, Nat.reduceMul, Nat.reduceSub, Nat.reduceBEq, Nat.reduceEqDiff, Int.reduceToNat, reduceIte, tsN, BEq.rfl, beq_self_eq_true]
    refine RoundQ.next (j + 1) rfl rfl ?_ (by first | omega | (dsimp only; omega))
    exact ⟨hg2, by omega⟩
  · simp (disch := first | omega | (simp only [ds] <;> omega) | fail) only [wk, undefM, Nat.reduceLT, Nat.reduceAdd, Nat.reduceMul, Nat.reduceSub, Nat.reduceBEq, Nat.reduceEqDiff, Int.reduceToNat, reduceIte, tsN]
    exact (hge _ _).trans hg2
end Go.Proofs.YtbpnmkmlicbfoaaDoor

/-
  The statements of the package bounds: the examples, walked.
-/
set_option linter.unusedVariables false
set_option linter.unusedSimpArgs false
namespace Go.Proofs.YtbpnmkmlicbfoaaDoor
open Go.RowKit
set_option maxRecDepth 10000
def exA : List Iv := [((true, [49], true), (true, [50], false))]
def exB : List Iv := [((false, [], false), (true, [49], true)), ((true, [50], true), (false, [], false))]
def exC : List Iv := [((true, [49], true), (true, [49], true))]
/-- pomacelaw05.lives -/
theorem lives5_v (O : VH) : VF Tryd.prog 13 [] O (Ret fun m O' => m = mb true ∧ O.Ge O') := by
  have c1 : parseD [91, 49, 44, 50, 41] = ((true, [], exA), 0) := by kernel_rfl
  have c2 : parseD [40, 44, 49, 93, 44, 91, 50, 44, 41] = ((true, [], exB), 0) := by kernel_rfl
  have c3 : parseD [91, 49, 93] = ((true, [], exC), 0) := by kernel_rfl
  have c4 : parseD [91, 50, 44, 49, 93] = ((false, [], []), 21) := by kernel_rfl
  have c5 : parseD [91, 49, 44, 50] = ((false, [], []), 21) := by kernel_rfl
  have c6 : parseD [49, 46, 48] = ((false, [49, 46, 48], []), 0) := by kernel_rfl
  have o1 : RgOk (true, [], exA) := by unfold RgOk; decide
  have o2 : RgOk (true, [], exB) := by unfold RgOk; decide
  have o3 : RgOk (true, [], exC) := by unfold RgOk; decide
  have d1 : hasF (true, [], exA) [49] = true := by decide +kernel
  have d2 : hasF (true, [], exA) [49, 46, 57] = true := by decide +kernel
  have d3 : hasF (true, [], exA) [50] = false := by decide +kernel
  have d4 : hasF (true, [], exA) [50, 46, 48] = false := by decide +kernel
  have d5 : hasF (true, [], exB) [48, 46, 53] = true := by decide +kernel
  have d6 : hasF (true, [], exB) [51] = true := by decide +kernel
  have d7 : hasF (true, [], exB) [49, 46, 53] = false := by decide +kernel
  have d8 : hasF (true, [], exC) [49, 46, 48] = true := by decide +kernel
  generalize exA = A at *
  generalize exB = B at *
  generalize exC = C at *
  have hgO := VH.Ge.refl O
  refine VF.ofW (n := ⟨96, 0⟩) (rs := [.tmp 0]) tabOk Tryd.func13 rfl rfl rfl (Nat.le_of_ble_eq_true rfl) ?_
  simp only [argEnv, Nat.zero_add, Nat.reduceAdd]
  simp (disch := first | omega | (simp only [ds] <;> omega) | fail) only [wk, undefM, Nat.reduceLT, Nat.reduceAdd, Nat.reduceMul, Nat.reduceSub, Nat.reduceBEq, Nat.reduceEqDiff, Int.reduceToNat, reduceIte, tsN]
  refine CallW.rt (Parse_v [91, 49, 44, 50, 41] _ (by decide)) (by kernel_rfl) rfl rfl ?_
  rintro _ P1 ⟨tk1, eM, hg1⟩
  rw [c1] at eM
  subst eM
  simp (disch := first | omega | (simp only [ds] <;> omega) | fail) only [wk, undefM, Nat.reduceLT, Nat.reduceAdd, Nat.reduceMul, Nat.reduceSub, Nat.reduceBEq, Nat.reduceEqDiff, Int.reduceToNat, reduceIte, tsN, wi, rgM]
  have hge1 := ((hgO.trans hg1).push (.cells bndC)).set (k := P1.next) (hgO.trans hg1).next (.cells (rgM (true, [], A) tk1))
  have hgs1 : P1.Ge ((P1.push (.cells bndC)).set P1.next (.cells (rgM (true, [], A) tk1))) := ((VH.Ge.refl P1).push _).set (Nat.le_refl _) _
  have hk1 := VH.set_get (P1.push (.cells bndC)) P1.next (.cells (rgM (true, [], A) tk1))
  have hn1 : P1.next < ((P1.push (.cells bndC)).set P1.next (.cells (rgM (true, [], A) tk1))).next := Nat.lt_succ_self _
  simp only [bndC, rgM, mb_def] at hge1 hk1 hn1 hgs1
  generalize ((P1.push (.cells [.v (.bool false), .str [], .sl 0 [] .nil])).set P1.next (.cells [.v (.bool true), .str [], .sl (A : List Iv).length ((A : List Iv).flatMap ivM) tk1])) = Q1 at *
  refine CallW.rt (Parse_v [40, 44, 49, 93, 44, 91, 50, 44, 41] _ (by decide)) (by kernel_rfl) rfl rfl ?_
  rintro _ P2 ⟨tk2, eM, hg2⟩
  rw [c2] at eM
  subst eM
  simp (disch := first | omega | (simp only [ds] <;> omega) | fail) only [wk, undefM, Nat.reduceLT, Nat.reduceAdd, Nat.reduceMul, Nat.reduceSub, Nat.reduceBEq, Nat.reduceEqDiff, Int.reduceToNat, reduceIte, tsN, wi, rgM]
  have hge2 := ((hge1.trans hg2).push (.cells bndC)).set (k := P2.next) (hge1.trans hg2).next (.cells (rgM (true, [], B) tk2))
  have hgs2 : P2.Ge ((P2.push (.cells bndC)).set P2.next (.cells (rgM (true, [], B) tk2))) := ((VH.Ge.refl P2).push _).set (Nat.le_refl _) _
  have hk2 := VH.set_get (P2.push (.cells bndC)) P2.next (.cells (rgM (true, [], B) tk2))
  have hn2 : P2.next < ((P2.push (.cells bndC)).set P2.next (.cells (rgM (true, [], B) tk2))).next := Nat.lt_succ_self _
  simp only [bndC, rgM, mb_def] at hge2 hk2 hn2 hgs2
  generalize ((P2.push (.cells [.v (.bool false), .str [], .sl 0 [] .nil])).set P2.next (.cells [.v (.bool true), .str [], .sl (B : List Iv).length ((B : List Iv).flatMap ivM) tk2])) = Q2 at *
  refine CallW.rt (Parse_v [91, 49, 93] _ (by decide)) (by kernel_rfl) rfl rfl ?_
  rintro _ P3 ⟨tk3, eM, hg3⟩
  rw [c3] at eM
  subst eM
  simp (disch := first | omega | (simp only [ds] <;> omega) | fail) only [wk, undefM, Nat.reduceLT, Nat.reduceAdd, Nat.reduceMul, Nat.reduceSub, Nat.reduceBEq, Nat.reduceEqDiff, Int.reduceToNat, reduceIte, tsN, wi, rgM]
  have hge3 := ((hge2.trans hg3).push (.cells bndC)).set (k := P3.next) (hge2.trans hg3).next (.cells (rgM (true, [], C) tk3))
  have hgs3 : P3.Ge ((P3.push (.cells bndC)).set P3.next (.cells (rgM (true, [], C) tk3))) := ((VH.Ge.refl P3).push _).set (Nat.le_refl _) _
  have hk3 := VH.set_get (P3.push (.cells bndC)) P3.next (.cells (rgM (true, [], C) tk3))
  have hn3 : P3.next < ((P3.push (.cells bndC)).set P3.next (.cells (rgM (true, [], C) tk3))).next := Nat.lt_succ_self _
  simp only [bndC, rgM, mb_def] at hge3 hk3 hn3 hgs3
  generalize ((P3.push (.cells [.v (.bool false), .str [], .sl 0 [] .nil])).set P3.next (.cells [.v (.bool true), .str [], .sl (C : List Iv).length ((C : List Iv).flatMap ivM) tk3])) = Q3 at *
  refine CallW.rt (Parse_v [91, 50, 44, 49, 93] _ (by decide)) (by kernel_rfl) rfl rfl ?_
  rintro _ P4 ⟨tk4, eM, hg4⟩
  rw [c4] at eM
  subst eM
  simp (disch := first | omega | (simp only [ds] <;> omega) | fail) only [wk, undefM, Nat.reduceLT, Nat.reduceAdd, Nat.reduceMul, Nat.reduceSub, Nat.reduceBEq, Nat.reduceEqDiff, Int.reduceToNat, reduceIte, tsN, wi, rgM]
  have hge4 := ((hge3.trans hg4).push (.cells bndC)).set (k := P4.next) (hge3.trans hg4).next (.cells (rgM (false, [], []) tk4))
  have hgs4 : P4.Ge ((P4.push (.cells bndC)).set P4.next (.cells (rgM (false, [], []) tk4))) := ((VH.Ge.refl P4).push _).set (Nat.le_refl _) _
  have hk4 := VH.set_get (P4.push (.cells bndC)) P4.next (.cells (rgM (false, [], []) tk4))
  have hn4 : P4.next < ((P4.push (.cells bndC)).set P4.next (.cells (rgM (false, [], []) tk4))).next := Nat.lt_succ_self _
  simp only [bndC, rgM, mb_def] at hge4 hk4 hn4 hgs4
  generalize ((P4.push (.cells [.v (.bool false), .str [], .sl 0 [] .nil])).set P4.next (.cells [.v (.bool false), .str [], .sl ([] : List Iv).length (([] : List Iv).flatMap ivM) tk4])) = Q4 at *
  refine CallW.rt (Parse_v [91, 49, 44, 50] _ (by decide)) (by kernel_rfl) rfl rfl ?_
  rintro _ P5 ⟨tk5, eM, hg5⟩
  rw [c5] at eM
  subst eM
  simp (disch := first | omega | (simp only [ds] <;> omega) | fail) only [wk, undefM, Nat.reduceLT, Nat.reduceAdd, Nat.reduceMul, Nat.reduceSub, Nat.reduceBEq, Nat.reduceEqDiff, Int.reduceToNat, reduceIte, tsN, wi, rgM]
  have hge5 := ((hge4.trans hg5).push (.cells bndC)).set (k := P5.next) (hge4.trans hg5).next (.cells (rgM (false, [], []) tk5))
  have hgs5 : P5.Ge ((P5.push (.cells bndC)).set P5.next (.cells (rgM (false, [], []) tk5))) := ((VH.Ge.refl P5).push _).set (Nat.le_refl _) _
  have hk5 := VH.set_get (P5.push (.cells bndC)) P5.next (.cells (rgM (false, [], []) tk5))
  have hn5 : P5.next < ((P5.push (.cells bndC)).set P5.next (.cells (rgM (false, [], []) tk5))).next := Nat.lt_succ_self _
  simp only [bndC, rgM, mb_def] at hge5 hk5 hn5 hgs5
  generalize ((P5.push (.cells [.v (.bool false), .str [], .sl 0 [] .nil])).set P5.next (.cells [.v (.bool false), .str [], .sl ([] : List Iv).length (([] : List Iv).flatMap ivM) tk5])) = Q5 at *
  refine CallW.rt (Parse_v [49, 46, 48] _ (by decide)) (by kernel_rfl) rfl rfl ?_
  rintro _ P6 ⟨tk6, eM, hg6⟩
  rw [c6] at eM
  subst eM
  simp (disch := first | omega | (simp only [ds] <;> omega) | fail) only [wk, undefM, Nat.reduceLT, Nat.reduceAdd, Nat.reduceMul, Nat.reduceSub, Nat.reduceBEq, Nat.reduceEqDiff, Int.reduceToNat, reduceIte, tsN, wi, rgM]
  have hge6 := ((hge5.trans hg6).push (.cells bndC)).set (k := P6.next) (hge5.trans hg6).next (.cells (rgM (false, [49, 46, 48], []) tk6))
  have hgs6 : P6.Ge ((P6.push (.cells bndC)).set P6.next (.cells (rgM (false, [49, 46, 48], []) tk6))) := ((VH.Ge.refl P6).push _).set (Nat.le_refl _) _
  have hk6 := VH.set_get (P6.push (.cells bndC)) P6.next (.cells (rgM (false, [49, 46, 48], []) tk6))
  have hn6 : P6.next < ((P6.push (.cells bndC)).set P6.next (.cells (rgM (false, [49, 46, 48], []) tk6))).next := Nat.lt_succ_self _
  simp only [bndC, rgM, mb_def] at hge6 hk6 hn6 hgs6
  generalize ((P6.push (.cells [.v (.bool false), .str [], .sl 0 [] .nil])).set P6.next (.cells [.v (.bool false), .str [49, 46, 48], .sl ([] : List Iv).length (([] : List Iv).flatMap ivM) tk6])) = Q6 at *
  have g56 := hg6.trans hgs6
  have g46 := (hg5.trans hgs5).trans g56
  have g36 := (hg4.trans hgs4).trans g46
  have g26 := (hg3.trans hgs3).trans g36
  have g16 := (hg2.trans hgs2).trans g26
  have hA := (g16.hp _ hn1).trans hk1
  have hB := (g26.hp _ hn2).trans hk2
  have hC := (g36.hp _ hn3).trans hk3
  have hG := hge6
  have m1 := Nat.lt_of_lt_of_le hn1 g16.next
  have m2 := Nat.lt_of_lt_of_le hn2 g26.next
  have m3 := Nat.lt_of_lt_of_le hn3 g36.next
  clear g16 g26 g36 g46 g56 hg1 hg2 hg3 hg4 hg5 hg6 hgs1 hgs2 hgs3 hgs4 hgs5 hgs6 hk1 hk2 hk3 hk4 hk5 hge1 hge2 hge3 hge4 hge5 hge6 hn1 hn2 hn3 hn4 hn5
  simp (disch := first | omega | (simp only [ds] <;> omega) | fail) only [wk, undefM, Nat.reduceLT, Nat.reduceAdd, Nat.reduceMul, Nat.reduceSub, Nat.reduceBEq, Nat.reduceEqDiff, Int.reduceToNat, reduceIte, tsN, hk6, hA, hB, hC, rgM]
  refine CallW.rt (Has_v (true, [], A) tk1 [49] _ o1 (by decide)) (by kernel_rfl) rfl rfl ?_
  rintro _ R01 ⟨rfl, h01⟩
  rw [d1]
  replace hA := (h01.hp _ (by omega)).trans hA
  replace hB := (h01.hp _ (by omega)).trans hB
  replace hC := (h01.hp _ (by omega)).trans hC
  replace hG := hG.trans h01
  have N01 := h01.next
  clear h01
  simp (disch := first | omega | (simp only [ds] <;> omega) | fail) only [wk, undefM, Nat.reduceLT, Nat.reduceAdd, Nat.reduceMul, Nat.reduceSub, Nat.reduceBEq, Nat.reduceEqDiff, Int.reduceToNat, reduceIte, tsN, hA, hB, hC, rgM]
  refine CallW.rt (Has_v (true, [], A) tk1 [49, 46, 57] _ o1 (by decide)) (by kernel_rfl) rfl rfl ?_
  rintro _ R02 ⟨rfl, h02⟩
  rw [d2]
  replace hA := (h02.hp _ (by omega)).trans hA
  replace hB := (h02.hp _ (by omega)).trans hB
  replace hC := (h02.hp _ (by omega)).trans hC
  replace hG := hG.trans h02
  have N02 := h02.next
  clear h02
  simp (disch := first | omega | (simp only [ds] <;> omega) | fail) only [wk, undefM, Nat.reduceLT, Nat.reduceAdd, Nat.reduceMul, Nat.reduceSub, Nat.reduceBEq, Nat.reduceEqDiff, Int.reduceToNat, reduceIte, tsN, hA, hB, hC, rgM]
  refine CallW.rt (Has_v (true, [], A) tk1 [50] _ o1 (by decide)) (by kernel_rfl) rfl rfl ?_
  rintro _ R03 ⟨rfl, h03⟩
  rw [d3]
  replace hA := (h03.hp _ (by omega)).trans hA
  replace hB := (h03.hp _ (by omega)).trans hB
  replace hC := (h03.hp _ (by omega)).trans hC
  replace hG := hG.trans h03
  have N03 := h03.next
  clear h03
  simp (disch := first | omega | (simp only [ds] <;> omega) | fail) only [wk, undefM, Nat.reduceLT, Nat.reduceAdd, Nat.reduceMul, Nat.reduceSub, Nat.reduceBEq, Nat.reduceEqDiff, Int.reduceToNat, reduceIte, tsN, hA, hB, hC, rgM]
  refine CallW.rt (Has_v (true, [], A) tk1 [50, 46, 48] _ o1 (by decide)) (by kernel_rfl) rfl rfl ?_
  rintro _ R04 ⟨rfl, h04⟩
  rw [d4]
  replace hA := (h04.hp _ (by omega)).trans hA
  replace hB := (h04.hp _ (by omega)).trans hB
  replace hC := (h04.hp _ (by omega)).trans hC
  replace hG := hG.trans h04
  have N04 := h04.next
  clear h04
  simp (disch := first | omega | (simp only [ds] <;> omega) | fail) only [wk, undefM, Nat.reduceLT, Nat.reduceAdd, Nat.reduceMul, Nat.reduceSub, Nat.reduceBEq, Nat.reduceEqDiff, Int.reduceToNat, reduceIte, tsN, hA, hB, hC, rgM]
  refine CallW.rt (Has_v (true, [], B) tk2 [48, 46, 53] _ o2 (by decide)) (by kernel_rfl) rfl rfl ?_
  rintro _ R05 ⟨rfl, h05⟩
  rw [d5]
  replace hA := (h05.hp _ (by omega)).trans hA
  replace hB := (h05.hp _ (by omega)).trans hB
  replace hC := (h05.hp _ (by omega)).trans hC
  replace hG := hG.trans h05
  have N05 := h05.next
  clear h05
  simp (disch := first | omega | (simp only [ds] <;> omega) | fail) only [wk, undefM, Nat.reduceLT, Nat.reduceAdd, Nat.reduceMul, Nat.reduceSub, Nat.reduceBEq, Nat.reduceEqDiff, Int.reduceToNat, reduceIte, tsN, hA, hB, hC, rgM]
  refine CallW.rt (Has_v (true, [], B) tk2 [51] _ o2 (by decide)) (by kernel_rfl) rfl rfl ?_
  rintro _ R06 ⟨rfl, h06⟩
  rw [d6]
  replace hA := (h06.hp _ (by omega)).trans hA
  replace hB := (h06.hp _ (by omega)).trans hB
  replace hC := (h06.hp _ (by omega)).trans hC
  replace hG := hG.trans h06
  have N06 := h06.next
  clear h06
  simp (disch := first | omega | (simp only [ds] <;> omega) | fail) only [wk, undefM, Nat.reduceLT, Nat.reduceAdd, Nat.reduceMul, Nat.reduceSub, Nat.reduceBEq, Nat.reduceEqDiff, Int.reduceToNat, reduceIte, tsN, hA, hB, hC, rgM]
  refine CallW.rt (Has_v (true, [], B) tk2 [49, 46, 53] _ o2 (by decide)) (by kernel_rfl) rfl rfl ?_
  rintro _ R07 ⟨rfl, h07⟩
  rw [d7]
  replace hA := (h07.hp _ (by omega)).trans hA
  replace hB := (h07.hp _ (by omega)).trans hB
  replace hC := (h07.hp _ (by omega)).trans hC
  replace hG := hG.trans h07
  have N07 := h07.next
  clear h07
  simp (disch := first | omega | (simp only [ds] <;> omega) | fail) only [wk, undefM, Nat.reduceLT, Nat.reduceAdd, Nat.reduceMul, Nat.reduceSub, Nat.reduceBEq, Nat.reduceEqDiff, Int.reduceToNat, reduceIte, tsN, hA, hB, hC, rgM]
  refine CallW.rt (Has_v (true, [], C) tk3 [49, 46, 48] _ o3 (by decide)) (by kernel_rfl) rfl rfl ?_
  rintro _ R08 ⟨rfl, h08⟩
  rw [d8]
  replace hA := (h08.hp _ (by omega)).trans hA
  replace hB := (h08.hp _ (by omega)).trans hB
  replace hC := (h08.hp _ (by omega)).trans hC
  replace hG := hG.trans h08
  have N08 := h08.next
  clear h08
  simp (disch := first | omega | (simp only [ds] <;> omega) | fail) only [wk, undefM, Nat.reduceLT, Nat.reduceAdd, Nat.reduceMul, Nat.reduceSub, Nat.reduceBEq, Nat.reduceEqDiff, Int.reduceToNat, reduceIte, tsN, hA, hB, hC, rgM]
  exact hG
end Go.Proofs.YtbpnmkmlicbfoaaDoor

/-
  The laws BoundsParses and BoundsHas, walked.
-/
set_option linter.unusedVariables false
set_option linter.unusedSimpArgs false
namespace Go.Proofs.YtbpnmkmlicbfoaaDoor
open Go.RowKit
set_option maxRecDepth 10000
theorem may_len {q : Rg} (h : mayR q = true) : q.2.2.length ≤ maxLen := by
  unfold mayR at h
  simp only [maxLen]
  split at h
  · simp only [Bool.and_eq_true, decide_eq_true_eq] at h; omega
  · simp only [Bool.and_eq_true, decide_eq_true_eq] at h; omega
theorem parse_may {t : List UInt8} {q : Rg} (h : parseT t = some q) : mayR q = true := by
  unfold parseT at h
  split at h
  · obtain ⟨L, h1, h2⟩ := Option.bind_eq_some_iff.1 h
    split at h2
    · injection h2 with h2; subst h2; assumption
    · cases h2
  · split at h
    · injection h with h; subst h; assumption
    · cases h
/-- pomacelaw05.BoundsParses -/
theorem parses5_law (s : List UInt8) (O : VH) (hs : s.length ≤ maxLen) : VF Tryd.prog 3 [.str s] O (Ret fun m O' => m = mb true) := by
  refine VF.ofW (n := ⟨41, 0⟩) (rs := [.tmp 2]) tabOk Tryd.func3 rfl rfl rfl (Nat.le_of_ble_eq_true rfl) ?_
  simp only [argEnv, Nat.zero_add, Nat.reduceAdd]
  simp (disch := first | omega | (simp only [ds] <;> omega) | fail) only [wk, undefM, Nat.reduceLT, Nat.reduceAdd, Nat.reduceMul, Nat.reduceSub, Nat.reduceBEq, Nat.reduceEqDiff, Int.reduceToNat, reduceIte, tsN]
  refine CallW.rt (lawCut5_v s _ hs) (by kernel_rfl) rfl rfl ?_
  rintro _ OX ⟨rfl, eX⟩
  rw [eX]; clear eX OX
  have ha := cut300 s
  generalize s.take 300 = u at *
  simp (disch := first | omega | (simp only [ds] <;> omega) | fail) only [wk, undefM, Nat.reduceLT, Nat.reduceAdd, Nat.reduceMul, Nat.reduceSub, Nat.reduceBEq, Nat.reduceEqDiff, Int.reduceToNat, reduceIte, tsN]
  cases hP : parseR u with
  | none =>
    have hD : parseD u = ((false, [], []), 21) := by unfold parseD; rw [hP]; rfl
    refine CallW.rt (Parse_v u _ ha) (by kernel_rfl) rfl rfl ?_
    rintro _ O2 ⟨tk, eM, hg2⟩
    rw [hD] at eM
    subst eM
    simp (disch := first | omega | (simp only [ds] <;> omega) | fail) only [wk, undefM, Nat.reduceLT, Nat.reduceAdd, Nat.reduceMul, Nat.reduceSub, Nat.reduceBEq, Nat.reduceEqDiff, Int.reduceToNat, reduceIte, tsN, wi, rgM]
    have hk2 := VH.set_get (O2.push (.cells bndC)) O2.next (.cells (rgM (false, [], []) tk))
    have hn2 : O2.next < ((O2.push (.cells bndC)).set O2.next (.cells (rgM (false, [], []) tk))).next := Nat.lt_succ_self _
    simp only [bndC, rgM, mb_def] at hk2 hn2
    generalize ((O2.push (.cells [.v (.bool false), .str [], .sl 0 [] .nil])).set O2.next (.cells [.v (.bool false), .str [], .sl ([] : List Iv).length (([] : List Iv).flatMap ivM) tk])) = Q2 at *
    refine CallW.rt (rParse_v u _ ha) (by kernel_rfl) rfl rfl ?_
    rintro _ O3 ⟨r, tk3, rfl, hr, hg3⟩
    rw [hP]
    have hk3 := (hg3.hp _ hn2).trans hk2
    have hn3 := Nat.lt_of_lt_of_le hn2 hg3.next
    obtain ⟨h1, v1, l1⟩ := r
    simp (disch := first | omega | (simp only [ds] <;> omega) | fail) only [wk, undefM, Nat.reduceLT, Nat.reduceAdd, Nat.reduceMul, Nat.reduceSub, Nat.reduceBEq, Nat.reduceEqDiff, Int.reduceToNat, reduceIte, tsN, wi, rgM, hk3, Option.isSome_none, Option.isSome_some]
    refine CallW.rt (rSame_v (false, [], []) tk .nil _ (Nat.zero_le _)) (by kernel_rfl) rfl rfl ?_
    rintro _ O5 ⟨rfl, hg5⟩
    simp (disch := first | omega | (simp only [ds] <;> omega) | fail) only [wk, undefM, Nat.reduceLT, Nat.reduceAdd, Nat.reduceMul, Nat.reduceSub, Nat.reduceBEq, Nat.reduceEqDiff, Int.reduceToNat, reduceIte, tsN]
    refine CallW.rt (lives5_v _) (by kernel_rfl) rfl rfl ?_
    rintro _ O6 ⟨rfl, hg6⟩
    simp (disch := first | omega | (simp only [ds] <;> omega) | fail) only [wk, undefM, Nat.reduceLT, Nat.reduceAdd, Nat.reduceMul, Nat.reduceSub, Nat.reduceBEq, Nat.reduceEqDiff, Int.reduceToNat, reduceIte, tsN]
  | some q =>
    have hD : parseD u = (q, 0) := by unfold parseD; rw [hP]; rfl
    have hql := may_len (parse_may hP)
    obtain ⟨hd, ver, L⟩ := q
    refine CallW.rt (Parse_v u _ ha) (by kernel_rfl) rfl rfl ?_
    rintro _ O2 ⟨tk, eM, hg2⟩
    rw [hD] at eM
    subst eM
    simp (disch := first | omega | (simp only [ds] <;> omega) | fail) only [wk, undefM, Nat.reduceLT, Nat.reduceAdd, Nat.reduceMul, Nat.reduceSub, Nat.reduceBEq, Nat.reduceEqDiff, Int.reduceToNat, reduceIte, tsN, wi, rgM]
    have hk2 := VH.set_get (O2.push (.cells bndC)) O2.next (.cells (rgM (hd, ver, L) tk))
    have hn2 : O2.next < ((O2.push (.cells bndC)).set O2.next (.cells (rgM (hd, ver, L) tk))).next := Nat.lt_succ_self _
    simp only [bndC, rgM, mb_def] at hk2 hn2
    generalize ((O2.push (.cells [.v (.bool false), .str [], .sl 0 [] .nil])).set O2.next (.cells [.v (.bool hd), .str ver, .sl (L : List Iv).length ((L : List Iv).flatMap ivM) tk])) = Q2 at *
    refine CallW.rt (rParse_v u _ ha) (by kernel_rfl) rfl rfl ?_
    rintro _ O3 ⟨r, tk3, rfl, hr, hg3⟩
    rw [hP]
    have hk3 := (hg3.hp _ hn2).trans hk2
    have hn3 := Nat.lt_of_lt_of_le hn2 hg3.next
    have hrq := hr _ hP
    subst hrq
    simp (disch := first | omega | (simp only [ds] <;> omega) | fail) only [wk, undefM, Nat.reduceLT, Nat.reduceAdd, Nat.reduceMul, Nat.reduceSub, Nat.reduceBEq, Nat.reduceEqDiff, Int.reduceToNat, reduceIte, tsN, wi, rgM, hk3, Option.isSome_none, Option.isSome_some]
    refine CallW.rt (rSame_v (hd, ver, L) tk tk3 _ hql) (by kernel_rfl) rfl rfl ?_
    rintro _ O5 ⟨rfl, hg5⟩
    simp (disch := first | omega | (simp only [ds] <;> omega) | fail) only [wk, undefM, Nat.reduceLT, Nat.reduceAdd, Nat.reduceMul, Nat.reduceSub, Nat.reduceBEq, Nat.reduceEqDiff, Int.reduceToNat, reduceIte, tsN]
    refine CallW.rt (lives5_v _) (by kernel_rfl) rfl rfl ?_
    rintro _ O6 ⟨rfl, hg6⟩
    simp (disch := first | omega | (simp only [ds] <;> omega) | fail) only [wk, undefM, Nat.reduceLT, Nat.reduceAdd, Nat.reduceMul, Nat.reduceSub, Nat.reduceBEq, Nat.reduceEqDiff, Int.reduceToNat, reduceIte, tsN]
/-- A range as a statement's argument. -/
abbrev RgA := Bool × List UInt8 × List Iv × Tok
def ivIn (x : Iv) : Prop := (True ∧ x.1.2.1.length ≤ maxLen ∧ True) ∧ (True ∧ x.2.2.1.length ≤ maxLen ∧ True)
def RgIn (y : RgA) : Prop := True ∧ y.2.1.length ≤ maxLen ∧ (∀ x ∈ y.2.2.1, ivIn x) ∧ y.2.2.1.length ≤ maxLen
def rgY (y : RgA) : Rg := (y.1, y.2.1, y.2.2.1)
/-- pomacelaw05.BoundsHas -/
theorem has5_law (y : RgA) (v : List UInt8) (O : VH) (hy : RgIn y) (hv : v.length ≤ maxLen) : VF Tryd.prog 4 [.agg (rgM (rgY y) y.2.2.2), .str v] O (Ret fun m O' => m = mb true) := by
  obtain ⟨hd, ver, L, tk⟩ := y
  obtain ⟨_, h1, h2, h3⟩ := hy
  dsimp only [rgY] at h1 h2 h3 ⊢
  refine VF.ofW (n := ⟨21, 0⟩) (rs := [.tmp 4]) tabOk Tryd.func4 rfl rfl rfl (Nat.le_of_ble_eq_true rfl) ?_
  simp only [argEnv, Nat.zero_add, Nat.reduceAdd]
  simp (disch := first | omega | (simp only [ds] <;> omega) | fail) only [wk, undefM, Nat.reduceLT, Nat.reduceAdd, Nat.reduceMul, Nat.reduceSub, Nat.reduceBEq, Nat.reduceEqDiff, Int.reduceToNat, reduceIte, tsN, rgM]
  refine CallW.rt (lawCut5_v v _ hv) (by kernel_rfl) rfl rfl ?_
  rintro _ OX ⟨rfl, eX⟩
  rw [eX]; clear eX OX
  have ha := cut300 v
  generalize v.take 300 = u at *
  have hk := VH.push_new O (.cells (rgM (hd, ver, L) tk))
  have hn : O.next < (O.push (.cells (rgM (hd, ver, L) tk))).next := Nat.lt_succ_self _
  simp only [rgM, mb_def] at hk hn
  generalize O.push (.cells [.v (.bool hd), .str ver, .sl L.length (L.flatMap ivM) tk]) = O1 at *
  simp (disch := first | omega | (simp only [ds] <;> omega) | fail) only [wk, undefM, Nat.reduceLT, Nat.reduceAdd, Nat.reduceMul, Nat.reduceSub, Nat.reduceBEq, Nat.reduceEqDiff, Int.reduceToNat, reduceIte, tsN, hk]
  refine CallW.rt (Light_v (hd, ver, L) tk _ h1 h3 (fun p hp => ⟨(h2 p hp).1.2.1, (h2 p hp).2.2.1⟩)) (by kernel_rfl) rfl rfl ?_
  rintro _ O2 ⟨rfl, hg2⟩
  have hk2 := (hg2.hp _ hn).trans hk
  cases hl : lightR (hd, ver, L)
  · simp (disch := first | omega | (simp only [ds] <;> omega) | fail) only [wk, undefM, Nat.reduceLT, Nat.reduceAdd, Nat.reduceMul, Nat.reduceSub, Nat.reduceBEq, Nat.reduceEqDiff, Int.reduceToNat, reduceIte, tsN]
    refine CallW.rt (lives5_v _) (by kernel_rfl) rfl rfl ?_
    rintro _ O6 ⟨rfl, hg6⟩
    simp (disch := first | omega | (simp only [ds] <;> omega) | fail) only [wk, undefM, Nat.reduceLT, Nat.reduceAdd, Nat.reduceMul, Nat.reduceSub, Nat.reduceBEq, Nat.reduceEqDiff, Int.reduceToNat, reduceIte, tsN]
  have hok := (light_ok hl).1
  simp (disch := first | omega | (simp only [ds] <;> omega) | fail) only [wk, undefM, Nat.reduceLT, Nat.reduceAdd, Nat.reduceMul, Nat.reduceSub, Nat.reduceBEq, Nat.reduceEqDiff, Int.reduceToNat, reduceIte, tsN]
  refine VC.drawF [] (O.next) (hk2) (by kernel_rfl) ?_
  intro X
  refine VAnyE.ldF (m := .agg [.v (.bool hd), .str ver, .sl L.length (L.flatMap ivM) tk]) tabOk 0 rfl (by kernel_rfl) (by kernel_rfl) (by kernel_rfl) (by kernel_rfl) rfl rfl rfl ?_ ?_
  · simp (disch := first | omega | (simp only [ds] <;> omega) | fail) only [wk, undefM, Nat.reduceLT, Nat.reduceAdd, Nat.reduceMul, Nat.reduceSub, Nat.reduceBEq, Nat.reduceEqDiff, Int.reduceToNat, reduceIte, tsN]
  simp only [putM_some]
  refine VAnyE.ldF (m := .agg [.v (.bool hd), .str ver, .sl L.length (L.flatMap ivM) tk]) tabOk 3 rfl (by kernel_rfl) (by kernel_rfl) (by kernel_rfl) (by kernel_rfl) rfl rfl rfl ?_ ?_
  · simp (disch := first | omega | (simp only [ds] <;> omega) | fail) only [wk, undefM, Nat.reduceLT, Nat.reduceAdd, Nat.reduceMul, Nat.reduceSub, Nat.reduceBEq, Nat.reduceEqDiff, Int.reduceToNat, reduceIte, tsN]
  simp only [putM_some]
  refine VAnyE.sil tabOk 1 rfl (by kernel_rfl) (by kernel_rfl) (by kernel_rfl) (by kernel_rfl) rfl rfl ?_
  simp (disch := first | omega | (simp only [ds] <;> omega) | fail) only [wk, undefM, Nat.reduceLT, Nat.reduceAdd, Nat.reduceMul, Nat.reduceSub, Nat.reduceBEq, Nat.reduceEqDiff, Int.reduceToNat, reduceIte, PreK_some, putM_some, tsN]
  refine VAnyE.sil tabOk 4 rfl (by kernel_rfl) (by kernel_rfl) (by kernel_rfl) (by kernel_rfl) rfl rfl ?_
  simp (disch := first | omega | (simp only [ds] <;> omega) | fail) only [wk, undefM, Nat.reduceLT, Nat.reduceAdd, Nat.reduceMul, Nat.reduceSub, Nat.reduceBEq, Nat.reduceEqDiff, Int.reduceToNat, reduceIte, PreK_some, putM_some, tsN]
  refine VAnyE.call (i := 2) (by kernel_rfl) rfl rfl rfl rfl (by kernel_rfl) rfl (Has_v (hd, ver, L) tk u _ hok ha) ?_
  rintro _ O3 ⟨rfl, hg3⟩
  simp only [putM_some]
  have hX3 := (hg3.hp _ (Nat.lt_of_lt_of_le hn hg2.next)).trans (VH.set_get _ _ _)
  refine ⟨hX3, ?_⟩
  refine VAnyE.call (i := 5) (by kernel_rfl) rfl rfl rfl rfl (by kernel_rfl) rfl (rHas_v (hd, ver, L) tk u _ hok ha) ?_
  rintro _ O4 ⟨rfl, hg4⟩
  simp only [putM_some]
  have hX4 := (hg4.hp _ (Nat.lt_of_lt_of_le (Nat.lt_of_lt_of_le hn hg2.next) hg3.next)).trans hX3
  refine ⟨hX4, ?_⟩
  refine VAnyE.sil tabOk 6 rfl (by kernel_rfl) (by kernel_rfl) (by kernel_rfl) (by kernel_rfl) rfl rfl ?_
  simp (disch := first | omega | (simp only [ds] <;> omega) | fail) only [wk, undefM, Nat.reduceLT, Nat.reduceAdd, Nat.reduceMul, Nat.reduceSub, Nat.reduceBEq, Nat.reduceEqDiff, Int.reduceToNat, reduceIte, PreK_some, putM_some, tsN, beq_self_eq_true]
  refine VAnyE.sil tabOk 7 rfl (by kernel_rfl) (by kernel_rfl) (by kernel_rfl) (by kernel_rfl) rfl rfl ?_
  simp (disch := first | omega | (simp only [ds] <;> omega) | fail) only [wk, undefM, Nat.reduceLT, Nat.reduceAdd, Nat.reduceMul, Nat.reduceSub, Nat.reduceBEq, Nat.reduceEqDiff, Int.reduceToNat, reduceIte, PreK_some, putM_some, tsN]
  refine VAnyE.call (i := 8) (by kernel_rfl) rfl rfl rfl rfl (by kernel_rfl) rfl (lives5_v _) ?_
  rintro _ O5 ⟨rfl, hg5⟩
  simp only [putM_some]
  have hX5 := (hg5.hp _ (Nat.lt_of_lt_of_le (Nat.lt_of_lt_of_le (Nat.lt_of_lt_of_le hn hg2.next) hg3.next) hg4.next)).trans hX4
  refine ⟨hX5, ?_⟩
  refine VAnyE.sil tabOk 9 rfl (by kernel_rfl) (by kernel_rfl) (by kernel_rfl) (by kernel_rfl) rfl rfl ?_
  simp (disch := first | omega | (simp only [ds] <;> omega) | fail) only [wk, undefM, Nat.reduceLT, Nat.reduceAdd, Nat.reduceMul, Nat.reduceSub, Nat.reduceBEq, Nat.reduceEqDiff, Int.reduceToNat, reduceIte, PreK_some, putM_some, tsN]
  refine VAnyE.sil tabOk 10 rfl (by kernel_rfl) (by kernel_rfl) (by kernel_rfl) (by kernel_rfl) rfl rfl ?_
  simp (disch := first | omega | (simp only [ds] <;> omega) | fail) only [wk, undefM, Nat.reduceLT, Nat.reduceAdd, Nat.reduceMul, Nat.reduceSub, Nat.reduceBEq, Nat.reduceEqDiff, Int.reduceToNat, reduceIte, PreK_some, putM_some, tsN]
  refine VAnyE.planF tabOk [] (by kernel_rfl) (by kernel_rfl) (by kernel_rfl) rfl ?_
  simp (disch := first | omega | (simp only [ds] <;> omega) | fail) only [wk, undefM, Nat.reduceLT, Nat.reduceAdd, Nat.reduceMul, Nat.reduceSub, Nat.reduceBEq, Nat.reduceEqDiff, Int.reduceToNat, reduceIte, tsN]
end Go.Proofs.YtbpnmkmlicbfoaaDoor

/-
  The law BoundsSame, walked.
-/
set_option linter.unusedVariables false
set_option linter.unusedSimpArgs false
namespace Go.Proofs.YtbpnmkmlicbfoaaDoor
open Go.RowKit
set_option maxRecDepth 10000
/-- Where two ways meet, piece by piece on both sides. -/
theorem VC.join2 {P : Program} {n : Sz} {D : List Deferred} {c d : Code} {e : Env} {O : VH} {Q : VQ} {σ : Type} (l : List Nat) (ms : σ → List MV) (I : σ → VH → Prop) (h1 : VC P n D c e O (JoinQ l ms I Q)) (h2 : ∀ s O, I s O → VC P n D d (pairs l (ms s) []) O Q) : VC P n D (.seq c d) e O Q := by
  refine VC.seq (VC.mono ?_ h1)
  intro x e O h
  cases x with
  | normal =>
    obtain ⟨s, h3, h4⟩ := h
    exact VC.env (h2 s O h4) (look_pairs (e0 := []) (fun t x h => by simp [look] at h) h3)
  | _ => exact h
theorem in_same {x : Iv} {a b : List UInt8} (h : compareV a b = 0) : inF x a = inF x b := by
  have e : ∀ z, compareV z a = compareV z b := fun z => compareV_cmp.eqR z a b h
  rw [inF_eq, inF_eq, loF, loF, hiF, hiF, e, e]
theorem has_same {r : Rg} {a b : List UInt8} (h : compareV a b = 0) : hasF r a = hasF r b := by
  unfold hasF
  rw [show (fun x => inF x a) = fun x => inF x b from funext fun x => in_same h]
theorem cmp_le_trans {a b c : List UInt8} (h1 : compareV a b ≤ 0) (h2 : compareV b c ≤ 0) : compareV a c ≤ 0 := by
  rcases compareV_cmp.rng a b with e | e | e
  · rcases compareV_cmp.rng b c with f | f | f
    · rw [compareV_cmp.tr a b c e f]; decide
    · rw [← compareV_cmp.eqR a b c f, e]; decide
    · omega
  · rw [compareV_cmp.eq a b c e]; exact h2
  · omega
/-- What lies between two that are in an interval is in it. -/
theorem in_between {x : Iv} {a b c : List UInt8} (h1 : compareV a b ≤ 0) (h2 : compareV b c ≤ 0) (ha : inF x a = true) (hc : inF x c = true) : inF x b = true := by
  rw [inF_eq] at ha hc ⊢
  simp only [Bool.and_eq_true, Bool.or_eq_true, beq_iff_eq, loF, hiF] at ha hc ⊢
  obtain ⟨⟨e, v, k⟩, ⟨e', v', k'⟩⟩ := x
  dsimp only at ha hc ⊢
  refine ⟨?_, ?_⟩
  · cases e
    · exact .inl rfl
    · simp only [if_true] at ha ⊢
      rcases ha.1 with h | ⟨h, hk⟩
      · rcases compareV_cmp.rng a b with f | f | f
        · exact .inl (compareV_cmp.tr v a b h f)
        · rw [← compareV_cmp.eqR v a b f]; exact .inl h
        · omega
      · rw [compareV_cmp.eq v a b h]
        rcases compareV_cmp.rng a b with f | f | f
        · exact .inl f
        · exact .inr ⟨f, hk⟩
        · omega
  · cases e'
    · exact .inl rfl
    · simp only [if_true] at hc ⊢
      have an := compareV_cmp.anti
      rcases hc.2 with h | ⟨h, hk⟩
      · have h' : compareV c v' = -1 := by rw [an v' c, h]
        rcases compareV_cmp.rng b c with f | f | f
        · have := compareV_cmp.tr b c v' f h'
          rw [an b v', this]; exact .inl rfl
        · have := compareV_cmp.eq b c v' f
          rw [an b v', this, h']; exact .inl rfl
        · omega
      · have h' : compareV c v' = 0 := by rw [an v' c, h]; rfl
        have := compareV_cmp.eqR b c v' h'
        rcases compareV_cmp.rng b c with f | f | f
        · rw [an b v', ← this, f]; exact .inl rfl
        · rw [an b v', ← this, f]; exact .inr ⟨rfl, hk⟩
        · omega
theorem one_has {hd : Bool} {ver : List UInt8} {L : List Iv} {a b c : List UInt8} (h1 : compareV a b ≤ 0) (h2 : compareV b c ≤ 0) (ha : hasF (true, [], L.take 1) a = true) (hc : hasF (true, [], L.take 1) c = true) : hasF (true, [], L.take 1) b = true ∧ hasF (hd, ver, L) b = true := by
  unfold hasF at *
  cases L with
  | nil => cases ha
  | cons p L =>
    simp only [List.take_succ_cons, List.take_zero, List.any_cons, List.any_nil, Bool.or_false, Bool.not_true, Bool.false_or] at ha hc ⊢
    have := in_between h1 h2 ha hc
    exact ⟨this, by rw [this]; simp⟩
theorem first_iv {p : Iv} {L : List Iv} {tk : Tok} : ∃ t, ∀ {u : TypeDesc} {b : Nat} {z : List MV}, slS (p :: L).length 0 1 ((p :: L).flatMap ivM) tk (some ⟨u, 6, b, z⟩) = some (.sl 1 (ivM p) t) := by
  by_cases h : (p :: L).length = 1
  · have hL : L = [] := List.eq_nil_of_length_eq_zero (by simpa using h)
    subst hL
    refine ⟨tk, fun {u b z} => ?_⟩
    rw [slS_all rfl h.symm]
    simp
  · refine ⟨cutTok tk 6 (1 == (p :: L).length), fun {u b z} => ?_⟩
    rw [slS_part (.inr (fun e => h e.symm)) (by omega) (by simp) (iv_len _)]
    simp [ivM, enM]
/-- pomacelaw05.BoundsSame -/
theorem same5_law (y : RgA) (ls : List (List UInt8)) (O : VH) (hy : RgIn y) (hls : ls.length = 3 ∧ ∀ l ∈ ls, l.length ≤ maxLen) : VF Tryd.prog 5 [.agg (rgM (rgY y) y.2.2.2), .agg (ls.flatMap fun l => [.str l])] O (Ret fun m O' => m = mb true) := by
  obtain ⟨hd, ver, L, tk⟩ := y
  obtain ⟨_, h1, h2, h3⟩ := hy
  obtain ⟨a0, b0, c0, rfl⟩ : ∃ a b c, ls = [a, b, c] := by
    match ls, hls.1 with
    | [a, b, c], _ => exact ⟨a, b, c, rfl⟩
  have ha0 := hls.2 a0 (by simp)
  have hb0 := hls.2 b0 (by simp)
  have hc0 := hls.2 c0 (by simp)
  clear hls
  dsimp only [rgY] at h1 h2 h3 ⊢
  have hpl := iv_len L
  have hnm : (L.length : Int) ≤ 9223372036854775807 := by simp [maxLen] at h3; omega
  rw [show ([a0, b0, c0].flatMap fun l => [MV.str l]) = [.str a0, .str b0, .str c0] from rfl]
  have hk2 : ((O.push (.cells (rgM (hd, ver, L) tk))).push (.cells [.str a0, .str b0, .str c0])).hp O.next = some (.cells (rgM (hd, ver, L) tk)) := (VH.push_ne _ _ (by show O.next ≠ O.next + 1; omega)).trans (VH.push_new O _)
  have hk3 : ((O.push (.cells (rgM (hd, ver, L) tk))).push (.cells [.str a0, .str b0, .str c0])).hp (O.next + 1) = some (.cells [.str a0, .str b0, .str c0]) := VH.push_new _ _
  have hn1 : ((O.push (.cells (rgM (hd, ver, L) tk))).push (.cells [.str a0, .str b0, .str c0])).next = O.next + 2 := rfl
  simp only [rgM, mb_def] at hk2 hk3 hn1
  refine VF.ofV (n := ⟨87, 0⟩) (rs := [.tmp 4]) tabOk Tryd.func5 rfl rfl rfl (Nat.le_of_ble_eq_true rfl) ?_
  simp only [argEnv, Nat.zero_add, Nat.reduceAdd]
  refine VC.seqV tabOk ?_
  simp (disch := first | omega | (simp only [ds] <;> omega) | fail) only [wk, undefM, Nat.reduceLT, Nat.reduceAdd, Nat.reduceMul, Nat.reduceSub, Nat.reduceBEq, Nat.reduceEqDiff, Int.reduceToNat, reduceIte, tsN, T36, rgM]
  generalize ((O.push (.cells [.v (.bool hd), .str ver, .sl L.length (L.flatMap ivM) tk])).push (.cells [.str a0, .str b0, .str c0])) = O1 at *
  refine VC.seq0 ?_
  refine VC.drawE [] (by kernel_rfl) ?_
  refine VAnyE.sil tabOk 0 rfl (by kernel_rfl) (by kernel_rfl) (by kernel_rfl) (by kernel_rfl) rfl rfl ?_
  simp (disch := first | omega | (simp only [ds] <;> omega) | fail) only [wk, undefM, Nat.reduceLT, Nat.reduceAdd, Nat.reduceMul, Nat.reduceSub, Nat.reduceBEq, Nat.reduceEqDiff, Int.reduceToNat, reduceIte, PreK_some, putM_some, tsN, T36]
  refine VAnyE.sil tabOk 3 rfl (by kernel_rfl) (by kernel_rfl) (by kernel_rfl) (by kernel_rfl) rfl rfl ?_
  simp (disch := first | omega | (simp only [ds] <;> omega) | fail) only [wk, undefM, Nat.reduceLT, Nat.reduceAdd, Nat.reduceMul, Nat.reduceSub, Nat.reduceBEq, Nat.reduceEqDiff, Int.reduceToNat, reduceIte, PreK_some, putM_some, tsN, T36]
  refine VAnyE.sil tabOk 6 rfl (by kernel_rfl) (by kernel_rfl) (by kernel_rfl) (by kernel_rfl) rfl rfl ?_
  simp (disch := first | omega | (simp only [ds] <;> omega) | fail) only [wk, undefM, Nat.reduceLT, Nat.reduceAdd, Nat.reduceMul, Nat.reduceSub, Nat.reduceBEq, Nat.reduceEqDiff, Int.reduceToNat, reduceIte, PreK_some, putM_some, tsN, T36]
  refine VAnyE.ld (m := .str a0) tabOk 1 rfl (by kernel_rfl) (by kernel_rfl) (by kernel_rfl) (by kernel_rfl) rfl rfl rfl ?_ rfl ?_
  · simp (disch := first | omega | (simp only [ds] <;> omega) | fail) only [wk, undefM, Nat.reduceLT, Nat.reduceAdd, Nat.reduceMul, Nat.reduceSub, Nat.reduceBEq, Nat.reduceEqDiff, Int.reduceToNat, reduceIte, tsN, hk3]
  simp only [putM_some]
  refine VAnyE.ld (m := .str b0) tabOk 4 rfl (by kernel_rfl) (by kernel_rfl) (by kernel_rfl) (by kernel_rfl) rfl rfl rfl ?_ rfl ?_
  · simp (disch := first | omega | (simp only [ds] <;> omega) | fail) only [wk, undefM, Nat.reduceLT, Nat.reduceAdd, Nat.reduceMul, Nat.reduceSub, Nat.reduceBEq, Nat.reduceEqDiff, Int.reduceToNat, reduceIte, tsN, hk3]
  simp only [putM_some]
  refine VAnyE.ld (m := .str c0) tabOk 7 rfl (by kernel_rfl) (by kernel_rfl) (by kernel_rfl) (by kernel_rfl) rfl rfl rfl ?_ rfl ?_
  · simp (disch := first | omega | (simp only [ds] <;> omega) | fail) only [wk, undefM, Nat.reduceLT, Nat.reduceAdd, Nat.reduceMul, Nat.reduceSub, Nat.reduceBEq, Nat.reduceEqDiff, Int.reduceToNat, reduceIte, tsN, hk3]
  simp only [putM_some]
  refine VAnyE.call (i := 2) (by kernel_rfl) rfl rfl rfl rfl (by kernel_rfl) rfl (lawCut5_v a0 _ ha0) ?_
  rintro _ OX ⟨rfl, eX⟩
  simp only [putM_some]
  rw [eX]; clear eX OX
  refine ⟨VH.Ge.refl _, ?_⟩
  refine VAnyE.call (i := 5) (by kernel_rfl) rfl rfl rfl rfl (by kernel_rfl) rfl (lawCut5_v b0 _ hb0) ?_
  rintro _ OX ⟨rfl, eX⟩
  simp only [putM_some]
  rw [eX]; clear eX OX
  refine ⟨VH.Ge.refl _, ?_⟩
  refine VAnyE.call (i := 8) (by kernel_rfl) rfl rfl rfl rfl (by kernel_rfl) rfl (lawCut5_v c0 _ hc0) ?_
  rintro _ OX ⟨rfl, eX⟩
  simp only [putM_some]
  rw [eX]; clear eX OX
  refine ⟨VH.Ge.refl _, ?_⟩
  refine VAnyE.sil tabOk 9 rfl (by kernel_rfl) (by kernel_rfl) (by kernel_rfl) (by kernel_rfl) rfl rfl ?_
  simp (disch := first | omega | (simp only [ds] <;> omega) | fail) only [wk, undefM, Nat.reduceLT, Nat.reduceAdd, Nat.reduceMul, Nat.reduceSub, Nat.reduceBEq, Nat.reduceEqDiff, Int.reduceToNat, reduceIte, PreK_some, putM_some, tsN]
  refine VAnyE.sil tabOk 10 rfl (by kernel_rfl) (by kernel_rfl) (by kernel_rfl) (by kernel_rfl) rfl rfl ?_
  simp (disch := first | omega | (simp only [ds] <;> omega) | fail) only [wk, undefM, Nat.reduceLT, Nat.reduceAdd, Nat.reduceMul, Nat.reduceSub, Nat.reduceBEq, Nat.reduceEqDiff, Int.reduceToNat, reduceIte, PreK_some, putM_some, tsN]
  refine VAnyE.sil tabOk 11 rfl (by kernel_rfl) (by kernel_rfl) (by kernel_rfl) (by kernel_rfl) rfl rfl ?_
  simp (disch := first | omega | (simp only [ds] <;> omega) | fail) only [wk, undefM, Nat.reduceLT, Nat.reduceAdd, Nat.reduceMul, Nat.reduceSub, Nat.reduceBEq, Nat.reduceEqDiff, Int.reduceToNat, reduceIte, PreK_some, putM_some, tsN]
  refine VAnyE.plan tabOk [] (by kernel_rfl) (by kernel_rfl) (by kernel_rfl) rfl ?_
  have ha := cut300 a0
  have hb := cut300 b0
  have hc := cut300 c0
  generalize a0.take 300 = a at *
  generalize b0.take 300 = b at *
  generalize c0.take 300 = c at *
  clear hk3
  simp (disch := first | omega | (simp only [ds] <;> omega) | fail) only [wk, undefM, Nat.reduceLT, Nat.reduceAdd, Nat.reduceMul, Nat.reduceSub, Nat.reduceBEq, Nat.reduceEqDiff, Int.reduceToNat, reduceIte, tsN]
  refine VC.seqV tabOk ?_
  simp (disch := first | omega | (simp only [ds] <;> omega) | fail) only [wk, undefM, Nat.reduceLT, Nat.reduceAdd, Nat.reduceMul, Nat.reduceSub, Nat.reduceBEq, Nat.reduceEqDiff, Int.reduceToNat, reduceIte, tsN, hk2]
  refine CallW.rt (Light_v (hd, ver, L) tk _ h1 h3 (fun p hp => ⟨(h2 p hp).1.2.1, (h2 p hp).2.2.1⟩)) (by kernel_rfl) rfl rfl ?_
  rintro _ O2 ⟨rfl, hg2⟩
  have hk22 := (hg2.hp _ (by omega)).trans hk2
  have hn2 := hg2.next
  cases hl : lightR (hd, ver, L)
  · simp (disch := first | omega | (simp only [ds] <;> omega) | fail) only [wk, undefM, Nat.reduceLT, Nat.reduceAdd, Nat.reduceMul, Nat.reduceSub, Nat.reduceBEq, Nat.reduceEqDiff, Int.reduceToNat, reduceIte, tsN]
    refine CallW.rt (lives5_v _) (by kernel_rfl) rfl rfl ?_
    rintro _ OL ⟨rfl, hgL⟩
    simp (disch := first | omega | (simp only [ds] <;> omega) | fail) only [wk, undefM, Nat.reduceLT, Nat.reduceAdd, Nat.reduceMul, Nat.reduceSub, Nat.reduceBEq, Nat.reduceEqDiff, Int.reduceToNat, reduceIte, tsN]
  have hok := (light_ok hl).1
  simp (disch := first | omega | (simp only [ds] <;> omega) | fail) only [wk, undefM, Nat.reduceLT, Nat.reduceAdd, Nat.reduceMul, Nat.reduceSub, Nat.reduceBEq, Nat.reduceEqDiff, Int.reduceToNat, reduceIte, tsN]
  refine VC.join2 [2, 5, 6, 7] (fun _ : Unit => [.ptr O.next 0, .str a, .str b, .str c]) (fun _ O' => O2.Ge O') ?_ ?_
  · refine VC.seq0 ?_
    by_cases h0 : compareV a b = 0
    · have hs := has_same (r := (hd, ver, L)) h0
      refine VC.drawF [] (O.next) (hk22) (by kernel_rfl) ?_
      intro X
      refine VAnyE.sil tabOk 0 rfl (by kernel_rfl) (by kernel_rfl) (by kernel_rfl) (by kernel_rfl) rfl rfl ?_
      simp (disch := first | omega | (simp only [ds] <;> omega) | fail) only [wk, undefM, Nat.reduceLT, Nat.reduceAdd, Nat.reduceMul, Nat.reduceSub, Nat.reduceBEq, Nat.reduceEqDiff, Int.reduceToNat, reduceIte, PreK_some, putM_some, tsN]
      refine VAnyE.sil tabOk 1 rfl (by kernel_rfl) (by kernel_rfl) (by kernel_rfl) (by kernel_rfl) rfl rfl ?_
      simp (disch := first | omega | (simp only [ds] <;> omega) | fail) only [wk, undefM, Nat.reduceLT, Nat.reduceAdd, Nat.reduceMul, Nat.reduceSub, Nat.reduceBEq, Nat.reduceEqDiff, Int.reduceToNat, reduceIte, PreK_some, putM_some, tsN]
      refine VAnyE.call (i := 2) (by kernel_rfl) rfl rfl rfl rfl (by kernel_rfl) rfl (refCompare_v a b _ ha hb) ?_
      rintro _ O3 ⟨rfl, hg3⟩
      simp only [putM_some]
      have hX3 := (hg3.hp O.next (by rw [VH.next_set]; omega)).trans (VH.set_get _ _ _)
      have hn3 := hg3.next
      rw [VH.next_set] at hn3
      rw [h0]
      refine ⟨hX3, ?_⟩
      refine VAnyE.sil tabOk 3 rfl (by kernel_rfl) (by kernel_rfl) (by kernel_rfl) (by kernel_rfl) rfl rfl ?_
      simp (disch := first | omega | (simp only [ds] <;> omega) | fail) only [wk, undefM, Nat.reduceLT, Nat.reduceAdd, Nat.reduceMul, Nat.reduceSub, Nat.reduceBEq, Nat.reduceEqDiff, Int.reduceToNat, reduceIte, PreK_some, putM_some, tsN, Int.reduceBEq]
      refine VAnyE.sil tabOk 4 rfl (by kernel_rfl) (by kernel_rfl) (by kernel_rfl) (by kernel_rfl) rfl rfl ?_
      simp (disch := first | omega | (simp only [ds] <;> omega) | fail) only [wk, undefM, Nat.reduceLT, Nat.reduceAdd, Nat.reduceMul, Nat.reduceSub, Nat.reduceBEq, Nat.reduceEqDiff, Int.reduceToNat, reduceIte, PreK_some, putM_some, tsN]
      refine VAnyE.ldF (m := .agg [.v (.bool hd), .str ver, .sl L.length (L.flatMap ivM) tk]) tabOk 5 rfl (by kernel_rfl) (by kernel_rfl) (by kernel_rfl) (by kernel_rfl) rfl rfl rfl ?_ ?_
      · simp (disch := first | omega | (simp only [ds] <;> omega) | fail) only [wk, undefM, Nat.reduceLT, Nat.reduceAdd, Nat.reduceMul, Nat.reduceSub, Nat.reduceBEq, Nat.reduceEqDiff, Int.reduceToNat, reduceIte, tsN]
      simp only [putM_some]
      refine VAnyE.ldF (m := .agg [.v (.bool hd), .str ver, .sl L.length (L.flatMap ivM) tk]) tabOk 8 rfl (by kernel_rfl) (by kernel_rfl) (by kernel_rfl) (by kernel_rfl) rfl rfl rfl ?_ ?_
      · simp (disch := first | omega | (simp only [ds] <;> omega) | fail) only [wk, undefM, Nat.reduceLT, Nat.reduceAdd, Nat.reduceMul, Nat.reduceSub, Nat.reduceBEq, Nat.reduceEqDiff, Int.reduceToNat, reduceIte, tsN]
      simp only [putM_some]
      refine VAnyE.sil tabOk 6 rfl (by kernel_rfl) (by kernel_rfl) (by kernel_rfl) (by kernel_rfl) rfl rfl ?_
      simp (disch := first | omega | (simp only [ds] <;> omega) | fail) only [wk, undefM, Nat.reduceLT, Nat.reduceAdd, Nat.reduceMul, Nat.reduceSub, Nat.reduceBEq, Nat.reduceEqDiff, Int.reduceToNat, reduceIte, PreK_some, putM_some, tsN]
      refine VAnyE.sil tabOk 9 rfl (by kernel_rfl) (by kernel_rfl) (by kernel_rfl) (by kernel_rfl) rfl rfl ?_
      simp (disch := first | omega | (simp only [ds] <;> omega) | fail) only [wk, undefM, Nat.reduceLT, Nat.reduceAdd, Nat.reduceMul, Nat.reduceSub, Nat.reduceBEq, Nat.reduceEqDiff, Int.reduceToNat, reduceIte, PreK_some, putM_some, tsN]
      refine VAnyE.call (i := 7) (by kernel_rfl) rfl rfl rfl rfl (by kernel_rfl) rfl (Has_v (hd, ver, L) tk a _ hok ha) ?_
      rintro _ O4 ⟨rfl, hg4⟩
      simp only [putM_some]
      have hX4 := (hg4.hp _ (by omega)).trans hX3
      have hn4 := hg4.next
      rw [hs]
      refine ⟨hX4, ?_⟩
      refine VAnyE.call (i := 10) (by kernel_rfl) rfl rfl rfl rfl (by kernel_rfl) rfl (Has_v (hd, ver, L) tk b _ hok hb) ?_
      rintro _ O5 ⟨rfl, hg5⟩
      simp only [putM_some]
      have hX5 := (hg5.hp _ (by omega)).trans hX4
      refine ⟨hX5, ?_⟩
      have hgz : O2.Ge (O5.set O.next (.cells [.v (.bool hd), .str ver, .sl L.length (L.flatMap ivM) tk])) := by
        have g := (hg3.trans hg4).trans hg5
        refine ⟨by have := g.next; rw [VH.next_set] at this ⊢; exact this, fun i hi => ?_⟩
        by_cases e : i = O.next
        · subst e; exact (VH.set_get _ _ _).trans hk22.symm
        · exact (VH.set_ne _ _ e).trans ((g.hp i hi).trans (VH.set_ne _ _ e))
      cases hasF (hd, ver, L) b
      · refine VAnyE.sil tabOk 11 rfl (by kernel_rfl) (by kernel_rfl) (by kernel_rfl) (by kernel_rfl) rfl rfl ?_
        simp (disch := first | omega | (simp only [ds] <;> omega) | fail) only [wk, undefM, Nat.reduceLT, Nat.reduceAdd, Nat.reduceMul, Nat.reduceSub, Nat.reduceBEq, Nat.reduceEqDiff, Int.reduceToNat, reduceIte, PreK_some, putM_some, tsN]
        refine VAnyE.sil tabOk 12 rfl (by kernel_rfl) (by kernel_rfl) (by kernel_rfl) (by kernel_rfl) rfl rfl ?_
        simp (disch := first | omega | (simp only [ds] <;> omega) | fail) only [wk, undefM, Nat.reduceLT, Nat.reduceAdd, Nat.reduceMul, Nat.reduceSub, Nat.reduceBEq, Nat.reduceEqDiff, Int.reduceToNat, reduceIte, PreK_some, putM_some, tsN]
        refine VAnyE.planF tabOk [] (by kernel_rfl) (by kernel_rfl) (by kernel_rfl) rfl ?_
        simp (disch := first | omega | (simp only [ds] <;> omega) | fail) only [wk, undefM, Nat.reduceLT, Nat.reduceAdd, Nat.reduceMul, Nat.reduceSub, Nat.reduceBEq, Nat.reduceEqDiff, Int.reduceToNat, reduceIte, tsN]
        refine WC.sound tabOk ?_
        simp (disch := first | omega | (simp only [ds] <;> omega) | fail) only [wk, undefM, Nat.reduceLT, Nat.reduceAdd, Nat.reduceMul, Nat.reduceSub, Nat.reduceBEq, Nat.reduceEqDiff, Int.reduceToNat, reduceIte, tsN]
        exact JoinQ.mk () rfl hgz
      · refine VAnyE.sil tabOk 11 rfl (by kernel_rfl) (by kernel_rfl) (by kernel_rfl) (by kernel_rfl) rfl rfl ?_
        simp (disch := first | omega | (simp only [ds] <;> omega) | fail) only [wk, undefM, Nat.reduceLT, Nat.reduceAdd, Nat.reduceMul, Nat.reduceSub, Nat.reduceBEq, Nat.reduceEqDiff, Int.reduceToNat, reduceIte, PreK_some, putM_some, tsN]
        refine VAnyE.sil tabOk 12 rfl (by kernel_rfl) (by kernel_rfl) (by kernel_rfl) (by kernel_rfl) rfl rfl ?_
        simp (disch := first | omega | (simp only [ds] <;> omega) | fail) only [wk, undefM, Nat.reduceLT, Nat.reduceAdd, Nat.reduceMul, Nat.reduceSub, Nat.reduceBEq, Nat.reduceEqDiff, Int.reduceToNat, reduceIte, PreK_some, putM_some, tsN]
        refine VAnyE.planF tabOk [] (by kernel_rfl) (by kernel_rfl) (by kernel_rfl) rfl ?_
        simp (disch := first | omega | (simp only [ds] <;> omega) | fail) only [wk, undefM, Nat.reduceLT, Nat.reduceAdd, Nat.reduceMul, Nat.reduceSub, Nat.reduceBEq, Nat.reduceEqDiff, Int.reduceToNat, reduceIte, tsN]
        refine WC.sound tabOk ?_
        simp (disch := first | omega | (simp only [ds] <;> omega) | fail) only [wk, undefM, Nat.reduceLT, Nat.reduceAdd, Nat.reduceMul, Nat.reduceSub, Nat.reduceBEq, Nat.reduceEqDiff, Int.reduceToNat, reduceIte, tsN]
        exact JoinQ.mk () rfl hgz
    · refine WC.plan tabOk .any [(0, .sil), (1, .sil), (2, .one), (3, .sil), (4, .sil), (5, .sil), (6, .sil), (8, .sil), (9, .sil), (7, .one), (10, .one), (11, .sil), (12, .sil)] (by simp) (by kernel_rfl) (by kernel_rfl) (by kernel_rfl) rfl ?_
      simp (disch := first | omega | (simp only [ds] <;> omega) | fail) only [wk, undefM, Nat.reduceLT, Nat.reduceAdd, Nat.reduceMul, Nat.reduceSub, Nat.reduceBEq, Nat.reduceEqDiff, Int.reduceToNat, reduceIte, tsN]
      refine CallW.rt (refCompare_v a b _ ha hb) (by kernel_rfl) rfl rfl ?_
      rintro _ O3 ⟨rfl, hg3⟩
      have h0' : (compareV a b == 0) = false := by simpa using h0
      simp (disch := first | omega | (simp only [ds] <;> omega) | fail) only [wk, undefM, Nat.reduceLT, Nat.reduceAdd, Nat.reduceMul, Nat.reduceSub, Nat.reduceBEq, Nat.reduceEqDiff, Int.reduceToNat, reduceIte, tsN, h0']
      refine WC.sound tabOk ?_
      simp (disch := first | omega | (simp only [ds] <;> omega) | fail) only [wk, undefM, Nat.reduceLT, Nat.reduceAdd, Nat.reduceMul, Nat.reduceSub, Nat.reduceBEq, Nat.reduceEqDiff, Int.reduceToNat, reduceIte, tsN]
      exact JoinQ.mk () rfl hg3
  rintro _ O3 hg3
  have hk23 := (hg3.hp _ (by omega)).trans hk22
  have hn3 := hg3.next
  refine VC.seqV tabOk ?_
  simp (disch := first | omega | (simp only [ds] <;> omega) | fail) only [wk, undefM, Nat.reduceLT, Nat.reduceAdd, Nat.reduceMul, Nat.reduceSub, Nat.reduceBEq, Nat.reduceEqDiff, Int.reduceToNat, reduceIte, tsN]
  have hk8 := VH.set_get (O3.push (.cells bndC)) O3.next (.cells [.v (.bool true), .str [], .sl 0 [] .nil])
  have hgz := (((VH.Ge.refl O3).push (.cells bndC)).set (Nat.le_refl _) (.cells [.v (.bool true), .str [], .sl 0 [] .nil]))
  have hn8 : O3.next < ((O3.push (.cells bndC)).set O3.next (.cells [.v (.bool true), .str [], .sl 0 [] .nil])).next := Nat.lt_succ_self _
  simp only [bndC] at hk8 hgz hn8
  generalize ((O3.push (.cells [.v (.bool false), .str [], .sl 0 [] .nil])).set O3.next (.cells [.v (.bool true), .str [], .sl 0 [] .nil])) = O4 at *
  have hk24 := (hgz.hp _ (by omega)).trans hk23
  have hn4 := hgz.next
  refine VC.join2 [2, 5, 6, 7, 8] (fun _ : Tok => [.ptr O.next 0, .str a, .str b, .str c, .ptr O3.next 0]) (fun t O' => O'.hp O.next = some (.cells [.v (.bool hd), .str ver, .sl L.length (L.flatMap ivM) tk]) ∧ O'.hp O3.next = some (.cells (rgM (true, [], L.take 1) t)) ∧ O3.next < O'.next) ?_ ?_
  · refine WC.sound tabOk ?_
    cases L with
    | nil =>
      simp (disch := first | omega | (simp only [ds] <;> omega) | fail) only [wk, undefM, Nat.reduceLT, Nat.reduceAdd, Nat.reduceMul, Nat.reduceSub, Nat.reduceBEq, Nat.reduceEqDiff, Int.reduceToNat, reduceIte, tsN, hk24]
      exact JoinQ.mk .nil rfl ⟨hk24, hk8, hn8⟩
    | cons p L =>
      have hp0 : 0 < (p :: L).length := by simp
      have hp1 : 1 ≤ (p :: L).length := by simp
      obtain ⟨t, hsl⟩ := first_iv (p := p) (L := L) (tk := tk)
      generalize hLL : p :: L = LL at *
      simp (disch := first | omega | (simp only [ds] <;> omega) | fail) only [wk, undefM, Nat.reduceLT, Nat.reduceAdd, Nat.reduceMul, Nat.reduceSub, Nat.reduceBEq, Nat.reduceEqDiff, Int.reduceToNat, reduceIte, tsN, hk24, hk8, hsl]
      refine JoinQ.mk t rfl ⟨(VH.set_ne _ _ (by omega)).trans hk24, ?_, hn8⟩
      rw [← hLL]
      refine (VH.set_get _ _ _).trans ?_
      simp [rgM, mb_def]
  rintro t O5 ⟨hk25, hk85, hn5⟩
  have h1l : (L.take 1).length ≤ 1 := by rw [List.length_take]; omega
  have hok1 : RgOk (true, [], L.take 1) := ⟨Nat.zero_le _, Nat.le_trans h1l (by decide), fun p hp => hok.2.2 p (List.mem_of_mem_take hp)⟩
  have hlaw := fun h1 h2 => one_has (hd := hd) (ver := ver) (L := L) (a := a) (b := b) (c := c) h1 h2
  simp only [rgM, mb_def] at hk85
  have r1 := compareV_cmp.rng a b
  have r2 := compareV_cmp.rng b c
  clear hk2 hk22 hk23 hk24 hk8 hgz
  refine WC.sound tabOk ?_
  simp (disch := first | omega | (simp only [ds] <;> omega) | fail) only [wk, undefM, Nat.reduceLT, Nat.reduceAdd, Nat.reduceMul, Nat.reduceSub, Nat.reduceBEq, Nat.reduceEqDiff, Int.reduceToNat, reduceIte, tsN]
  refine CallW.rt (refCompare_v a b _ ha hb) (by kernel_rfl) rfl rfl ?_
  rintro _ O6 ⟨rfl, hg6⟩
  have hk26 := (hg6.hp _ (by omega)).trans hk25
  have hk86 := (hg6.hp _ hn5).trans hk85
  have hn6 := hg6.next
  generalize compareV a b = n1 at *
  generalize hn2' : compareV b c = n2 at *
  by_cases e1 : n1 ≤ 0
  rotate_left
  · simp (disch := first | omega | (simp only [ds] <;> omega) | fail) only [wk, undefM, Nat.reduceLT, Nat.reduceAdd, Nat.reduceMul, Nat.reduceSub, Nat.reduceBEq, Nat.reduceEqDiff, Int.reduceToNat, reduceIte, tsN, e1]
    refine CallW.rt (lives5_v _) (by kernel_rfl) rfl rfl ?_
    rintro _ OL ⟨rfl, hgL⟩
    simp (disch := first | omega | (simp only [ds] <;> omega) | fail) only [wk, undefM, Nat.reduceLT, Nat.reduceAdd, Nat.reduceMul, Nat.reduceSub, Nat.reduceBEq, Nat.reduceEqDiff, Int.reduceToNat, reduceIte, tsN]
  simp (disch := first | omega | (simp only [ds] <;> omega) | fail) only [wk, undefM, Nat.reduceLT, Nat.reduceAdd, Nat.reduceMul, Nat.reduceSub, Nat.reduceBEq, Nat.reduceEqDiff, Int.reduceToNat, reduceIte, tsN, e1]
  refine CallW.rt (refCompare_v b c _ hb hc) (by kernel_rfl) rfl rfl ?_
  rintro _ O7 ⟨rfl, hg7⟩
  rw [hn2']
  have hk27 := (hg7.hp _ (by omega)).trans hk26
  have hk87 := (hg7.hp _ (by omega)).trans hk86
  have hn7 := hg7.next
  by_cases e2 : n2 ≤ 0
  rotate_left
  · simp (disch := first | omega | (simp only [ds] <;> omega) | fail) only [wk, undefM, Nat.reduceLT, Nat.reduceAdd, Nat.reduceMul, Nat.reduceSub, Nat.reduceBEq, Nat.reduceEqDiff, Int.reduceToNat, reduceIte, tsN, e2]
    refine CallW.rt (lives5_v _) (by kernel_rfl) rfl rfl ?_
    rintro _ OL ⟨rfl, hgL⟩
    simp (disch := first | omega | (simp only [ds] <;> omega) | fail) only [wk, undefM, Nat.reduceLT, Nat.reduceAdd, Nat.reduceMul, Nat.reduceSub, Nat.reduceBEq, Nat.reduceEqDiff, Int.reduceToNat, reduceIte, tsN]
  simp (disch := first | omega | (simp only [ds] <;> omega) | fail) only [wk, undefM, Nat.reduceLT, Nat.reduceAdd, Nat.reduceMul, Nat.reduceSub, Nat.reduceBEq, Nat.reduceEqDiff, Int.reduceToNat, reduceIte, tsN, e2, hk87, rgM]
  refine CallW.rt (Has_v (true, [], L.take 1) t a _ hok1 ha) (by kernel_rfl) rfl rfl ?_
  rintro _ O8 ⟨rfl, hg8⟩
  have hk28 := (hg8.hp _ (by omega)).trans hk27
  have hk88 := (hg8.hp _ (by omega)).trans hk87
  have hn8 := hg8.next
  cases f1 : hasF (true, [], L.take 1) a
  · simp (disch := first | omega | (simp only [ds] <;> omega) | fail) only [wk, undefM, Nat.reduceLT, Nat.reduceAdd, Nat.reduceMul, Nat.reduceSub, Nat.reduceBEq, Nat.reduceEqDiff, Int.reduceToNat, reduceIte, tsN]
    refine CallW.rt (lives5_v _) (by kernel_rfl) rfl rfl ?_
    rintro _ OL ⟨rfl, hgL⟩
    simp (disch := first | omega | (simp only [ds] <;> omega) | fail) only [wk, undefM, Nat.reduceLT, Nat.reduceAdd, Nat.reduceMul, Nat.reduceSub, Nat.reduceBEq, Nat.reduceEqDiff, Int.reduceToNat, reduceIte, tsN]
  simp (disch := first | omega | (simp only [ds] <;> omega) | fail) only [wk, undefM, Nat.reduceLT, Nat.reduceAdd, Nat.reduceMul, Nat.reduceSub, Nat.reduceBEq, Nat.reduceEqDiff, Int.reduceToNat, reduceIte, tsN, hk88, rgM]
  refine CallW.rt (Has_v (true, [], L.take 1) t c _ hok1 hc) (by kernel_rfl) rfl rfl ?_
  rintro _ O9 ⟨rfl, hg9⟩
  have hk29 := (hg9.hp _ (by omega)).trans hk28
  have hk89 := (hg9.hp _ (by omega)).trans hk88
  have hn9 := hg9.next
  cases f2 : hasF (true, [], L.take 1) c
  · simp (disch := first | omega | (simp only [ds] <;> omega) | fail) only [wk, undefM, Nat.reduceLT, Nat.reduceAdd, Nat.reduceMul, Nat.reduceSub, Nat.reduceBEq, Nat.reduceEqDiff, Int.reduceToNat, reduceIte, tsN]
    refine CallW.rt (lives5_v _) (by kernel_rfl) rfl rfl ?_
    rintro _ OL ⟨rfl, hgL⟩
    simp (disch := first | omega | (simp only [ds] <;> omega) | fail) only [wk, undefM, Nat.reduceLT, Nat.reduceAdd, Nat.reduceMul, Nat.reduceSub, Nat.reduceBEq, Nat.reduceEqDiff, Int.reduceToNat, reduceIte, tsN]
  obtain ⟨f3, f4⟩ := hlaw e1 e2 f1 f2
  simp (disch := first | omega | (simp only [ds] <;> omega) | fail) only [wk, undefM, Nat.reduceLT, Nat.reduceAdd, Nat.reduceMul, Nat.reduceSub, Nat.reduceBEq, Nat.reduceEqDiff, Int.reduceToNat, reduceIte, tsN, hk89, rgM]
  refine CallW.rt (Has_v (true, [], L.take 1) t b _ hok1 hb) (by kernel_rfl) rfl rfl ?_
  rintro _ O10 ⟨rfl, hg10⟩
  rw [f3]
  have hk210 := (hg10.hp _ (by omega)).trans hk29
  cases hd
  · simp (disch := first | omega | (simp only [ds] <;> omega) | fail) only [wk, undefM, Nat.reduceLT, Nat.reduceAdd, Nat.reduceMul, Nat.reduceSub, Nat.reduceBEq, Nat.reduceEqDiff, Int.reduceToNat, reduceIte, tsN, hk210]
    refine CallW.rt (lives5_v _) (by kernel_rfl) rfl rfl ?_
    rintro _ OL ⟨rfl, hgL⟩
    simp (disch := first | omega | (simp only [ds] <;> omega) | fail) only [wk, undefM, Nat.reduceLT, Nat.reduceAdd, Nat.reduceMul, Nat.reduceSub, Nat.reduceBEq, Nat.reduceEqDiff, Int.reduceToNat, reduceIte, tsN]
  · simp (disch := first | omega | (simp only [ds] <;> omega) | fail) only [wk, undefM, Nat.reduceLT, Nat.reduceAdd, Nat.reduceMul, Nat.reduceSub, Nat.reduceBEq, Nat.reduceEqDiff, Int.reduceToNat, reduceIte, tsN, hk210]
    refine CallW.rt (Has_v (true, ver, L) tk b _ hok hb) (by kernel_rfl) rfl rfl ?_
    rintro _ O11 ⟨rfl, hg11⟩
    rw [f4]
    simp (disch := first | omega | (simp only [ds] <;> omega) | fail) only [wk, undefM, Nat.reduceLT, Nat.reduceAdd, Nat.reduceMul, Nat.reduceSub, Nat.reduceBEq, Nat.reduceEqDiff, Int.reduceToNat, reduceIte, tsN]
    refine CallW.rt (lives5_v _) (by kernel_rfl) rfl rfl ?_
    rintro _ OL ⟨rfl, hgL⟩
    simp (disch := first | omega | (simp only [ds] <;> omega) | fail) only [wk, undefM, Nat.reduceLT, Nat.reduceAdd, Nat.reduceMul, Nat.reduceSub, Nat.reduceBEq, Nat.reduceEqDiff, Int.reduceToNat, reduceIte, tsN]
end Go.Proofs.YtbpnmkmlicbfoaaDoor

/-
  The package bounds: Among, Pick; version.Highest, slices.MaxFunc, walked.
-/
set_option linter.unusedVariables false
set_option linter.unusedSimpArgs false
namespace Go.Proofs.YtbpnmkmlicbfoaaDoor
open Go.RowKit
set_option maxRecDepth 10000
set_option linter.defProp false in
def ts5 := And.intro tsN <| And.intro T39 T9
/-- The greatest of a row, the first of the same. -/
def maxL (m : List UInt8) : List (List UInt8) → List UInt8
  | [] => m
  | x :: r => maxL (if compareV x m > 0 then x else m) r
def highF : List (List UInt8) → List UInt8 × Bool
  | [] => ([], false)
  | x :: r => (maxL x r, true)
theorem maxL_snoc (m : List UInt8) (x : List UInt8) : ∀ r, maxL m (r ++ [x]) = if compareV x (maxL m r) > 0 then x else maxL m r := by
  intro r
  induction r generalizing m with
  | nil => rfl
  | cons y r ih => exact ih _
theorem maxL_mem (m : List UInt8) (r : List (List UInt8)) : maxL m r ∈ m :: r := by
  induction r generalizing m with
  | nil => simp [maxL]
  | cons x r ih =>
    rw [maxL]
    have := ih (if compareV x m > 0 then x else m)
    rcases List.mem_cons.1 this with h | h
    · rw [h]; split <;> simp
    · simp [h]
theorem highF_snoc (l : List (List UInt8)) (x : List UInt8) : highF (l ++ [x]) = (if !(highF l).2 || decide (compareV x (highF l).1 > 0) then x else (highF l).1, true) := by
  cases l with
  | nil => rfl
  | cons y l =>
    show (maxL y (l ++ [x]), true) = _
    rw [maxL_snoc]
    simp [highF]
/-- slices.MaxFunc by version.Compare -/
theorem MaxFunc_v (x : List UInt8) (r : List (List UInt8)) (tk : Tok) (O : VH) (hn : r.length + 1 ≤ maxLen) (hl : ∀ v ∈ x :: r, v.length ≤ 10000) : VF Tryd.prog 60 [.sl (r.length + 1) ((x :: r).map .str) tk, .func (.func 61) [] []] O (Ret fun m O' => m = .str (maxL x r) ∧ O.Ge O') := by
  have hnm : (r.length : Int) + 1 ≤ 9223372036854775807 := by simp [maxLen] at hn; omega
  have hml : ((x :: r).map MV.str).length = r.length + 1 := by simp
  have h0 : 0 < r.length + 1 := by omega
  refine VF.ofW (n := ⟨33, 0⟩) (rs := [.tmp 4]) tabOk Tryd.func60 rfl rfl rfl (Nat.le_of_ble_eq_true rfl) ?_
  simp only [argEnv, Nat.zero_add, Nat.reduceAdd]
  simp (disch := first | omega | (simp only [ds] <;> omega) | fail) only [wk, undefM, Nat.reduceLT, Nat.reduceAdd, Nat.reduceMul, Nat.reduceSub, Nat.reduceBEq, Nat.reduceEqDiff, Int.reduceToNat, reduceIte, ts5, T37]
  refine WC.loopK tabOk [5, 6] [0, 1] (fun j : Nat => [.str (maxL x (r.take j)), mi (j + 1)]) (fun j O' => O.Ge O' ∧ j ≤ r.length) (fun j => r.length - j) (0) rfl rfl ?_ ?_
  · exact ⟨VH.Ge.refl _, Nat.zero_le _⟩
  rintro j O2 ⟨hg2, hj⟩
  by_cases h2 : j < r.length
  · have hat : ((x :: r).map MV.str)[j + 1]? = some (.str r[j]) := by simp [h2]
    have hat2 := List.getElem?_eq_getElem h2
    have hsn := maxL_snoc x r[j] (r.take j)
    rw [← take_snoc _ _ h2] at hsn
    have hm : (maxL x (r.take j)).length ≤ 10000 := by
      have := maxL_mem x (r.take j)
      rcases List.mem_cons.1 this with h | h
      · rw [h]; exact hl x (by simp)
      · exact hl _ (List.mem_cons_of_mem _ (List.mem_of_mem_take h))
    have hv : r[j].length ≤ 10000 := hl _ (List.mem_cons_of_mem _ (List.getElem_mem h2))
    generalize maxL x (r.take j) = m at *
    generalize r[j] = v at *
    have hj1 : ((j : Int) + 1).toNat = j + 1 := by omega
    simp (disch := first | omega | (simp only [ds] <;> omega) | fail) only [wk, undefM, Nat.reduceLT, Nat.reduceAdd, Nat.reduceMul, Nat.reduceSub, Nat.reduceBEq, Nat.reduceEqDiff, Int.reduceToNat, reduceIte, ts5, T37, hat2, hj1]
    refine CallW.rt (Compare_v v m _ hv hm) (by kernel_rfl) rfl rfl ?_
    rintro _ O3 ⟨rfl, hg3⟩
    by_cases e : compareV v m > 0
    · rw [if_pos e] at hsn
      simp (disch := first | omega | (simp only [ds] <;> omega) | fail) only [wk, undefM, Nat.reduceLT, Nat.reduceAdd, Nat.reduceMul, Nat.reduceSub, Nat.reduceBEq, Nat.reduceEqDiff, Int.reduceToNat, reduceIte, ts5, hat2, hj1, e]
      exact RoundQ.next (j + 1) rfl (by rw [hsn]; rfl) ⟨hg2.trans hg3, by omega⟩ (by omega)
    · rw [if_neg e] at hsn
      simp (disch := first | omega | (simp only [ds] <;> omega) | fail) only [wk, undefM, Nat.reduceLT, Nat.reduceAdd, Nat.reduceMul, Nat.reduceSub, Nat.reduceBEq, Nat.reduceEqDiff, Int.reduceToNat, reduceIte, ts5, hat2, hj1, e]
      exact RoundQ.next (j + 1) rfl (by rw [hsn]; rfl) ⟨hg2.trans hg3, by omega⟩ (by omega)
  · have hjl : j = r.length := by omega
    subst hjl
    rw [List.take_length]
    simp (disch := first | omega | (simp only [ds] <;> omega) | fail) only [wk, undefM, Nat.reduceLT, Nat.reduceAdd, Nat.reduceMul, Nat.reduceSub, Nat.reduceBEq, Nat.reduceEqDiff, Int.reduceToNat, reduceIte, ts5, T37]
    exact hg2
/-- version.Highest -/
theorem Highest_v (l : List (List UInt8)) (tk : Tok) (O : VH) (hn : l.length ≤ maxLen) (hl : ∀ v ∈ l, v.length ≤ 10000) : VF Tryd.prog 40 [.sl l.length (l.map .str) tk] O (Ret fun m O' => m = .tuple [.str (highF l).1, mb (highF l).2] ∧ O.Ge O') := by
  refine VF.ofW (n := ⟨9, 0⟩) (rs := [.tmp 2, .tmp 3]) tabOk Tryd.func40 rfl rfl rfl (Nat.le_of_ble_eq_true rfl) ?_
  simp only [argEnv, Nat.zero_add, Nat.reduceAdd]
  cases l with
  | nil =>
    simp (disch := first | omega | (simp only [ds] <;> omega) | fail) only [wk, undefM, Nat.reduceLT, Nat.reduceAdd, Nat.reduceMul, Nat.reduceSub, Nat.reduceBEq, Nat.reduceEqDiff, Int.reduceToNat, reduceIte, ts5, List.length_nil]
    exact ⟨rfl, VH.Ge.refl _⟩
  | cons x r =>
    have h0 : (((r.length + 1 : Nat) : Int) == 0) = false := by simp; omega
    simp only [List.length_cons] at hn
    simp (disch := first | omega | (simp only [ds] <;> omega) | fail) only [wk, undefM, Nat.reduceLT, Nat.reduceAdd, Nat.reduceMul, Nat.reduceSub, Nat.reduceBEq, Nat.reduceEqDiff, Int.reduceToNat, reduceIte, ts5, List.length_cons, h0]
    refine CallW.rt (MaxFunc_v x r tk _ hn hl) (by kernel_rfl) rfl rfl ?_
    rintro _ O2 ⟨rfl, hg2⟩
    simp (disch := first | omega | (simp only [ds] <;> omega) | fail) only [wk, undefM, Nat.reduceLT, Nat.reduceAdd, Nat.reduceMul, Nat.reduceSub, Nat.reduceBEq, Nat.reduceEqDiff, Int.reduceToNat, reduceIte, ts5]
    exact ⟨rfl, hg2⟩
theorem filter_snoc (p : List UInt8 → Bool) (l : List (List UInt8)) (j : Nat) (h : j < l.length) : (l.take (j + 1)).filter p = (l.take j).filter p ++ if p l[j] then [l[j]] else [] := by
  rw [take_snoc _ _ h, List.filter_append]
  congr 1
  cases hp : p l[j] <;> simp [hp]
theorem filter_le (p : List UInt8 → Bool) (l : List (List UInt8)) (j : Nat) : ((l.take j).filter p).length ≤ j := Nat.le_trans (List.length_filter_le _ _) (by rw [List.length_take]; omega)
/-- bounds.Among -/
theorem Among_v (r : Rg) (tk : Tok) (l : List (List UInt8)) (tl : Tok) (O : VH) (hr : RgOk r) (hn : l.length ≤ 10000) (hl : ∀ v ∈ l, v.length ≤ 10000) : VF Tryd.prog 18 [.agg (rgM r tk), .sl l.length (l.map .str) tl] O (Ret fun m O' => ∃ t, m = .sl (l.filter (hasF r ·)).length ((l.filter (hasF r ·)).map .str) t ∧ O.Ge O') := by
  obtain ⟨hd, ver, L⟩ := r
  have hge := fun x => (VH.Ge.refl O).push x
  have hnm : (l.length : Int) ≤ 9223372036854775807 := by omega
  have hml : (l.map MV.str).length = l.length := by simp
  have hk := VH.push_new O (.cells (rgM (hd, ver, L) tk))
  refine VF.ofW (n := ⟨22, 0⟩) (rs := [.tmp 4]) tabOk Tryd.func18 rfl rfl rfl (Nat.le_of_ble_eq_true rfl) ?_
  simp only [argEnv, Nat.zero_add, Nat.reduceAdd]
  simp (disch := first | omega | (simp only [ds] <;> omega) | fail) only [wk, undefM, Nat.reduceLT, Nat.reduceAdd, Nat.reduceMul, Nat.reduceSub, Nat.reduceBEq, Nat.reduceEqDiff, Int.reduceToNat, reduceIte, ts5, rgM]
  refine WC.loopK tabOk [4, 9] [2, 7, 8] (fun x : Nat × Tok => [.sl ((l.take x.1).filter (hasF (hd, ver, L) ·)).length (((l.take x.1).filter (hasF (hd, ver, L) ·)).map .str) x.2, mi x.1]) (fun x O' => (O.push (.cells (rgM (hd, ver, L) tk))).Ge O' ∧ App O' (O.next + 1) 1 x.2 ∧ x.1 ≤ l.length) (fun x => l.length - x.1) ((0, .nil)) rfl rfl ?_ ?_
  · exact ⟨VH.Ge.refl _, trivial, Nat.zero_le _⟩
  rintro ⟨j, t⟩ O2 ⟨hg2, hap, hj⟩
  dsimp only at hap hj
  have hk2 := (hg2.hp O.next (Nat.lt_succ_self _)).trans hk
  have hn2 := hg2.next
  simp only [VH.push] at hn2
  by_cases h2 : j < l.length
  · have hat : (l.map MV.str)[j]? = some (.str l[j]) := by simp [h2]
    have hsn := filter_snoc (hasF (hd, ver, L) ·) l j h2
    have hfl := filter_le (hasF (hd, ver, L) ·) l j
    have hv : l[j].length ≤ 10000 := hl _ (List.getElem_mem h2)
    generalize l[j] = v at *
    generalize (l.take j).filter (hasF (hd, ver, L) ·) = F at *
    simp (disch := first | omega | (simp only [ds] <;> omega) | fail) only [wk, undefM, Nat.reduceLT, Nat.reduceAdd, Nat.reduceMul, Nat.reduceSub, Nat.reduceBEq, Nat.reduceEqDiff, Int.reduceToNat, reduceIte, ts5, hat, hk2, rgM]
    refine CallW.rt (Has_v (hd, ver, L) tk v _ hr hv) (by kernel_rfl) rfl rfl ?_
    rintro _ O3 ⟨rfl, hg3⟩
    have hg23 := hg2.trans hg3
    have hap3 : App O3 (O.next + 1) 1 t := hap.keep hg3.next (fun i _ h => hg3.hp i h)
    cases hb : hasF (hd, ver, L) v
    · rw [hb, if_neg (by simp), List.append_nil] at hsn
      simp (disch := first | omega | (simp only [ds] <;> omega) | fail) only [wk, undefM, Nat.reduceLT, Nat.reduceAdd, Nat.reduceMul, Nat.reduceSub, Nat.reduceBEq, Nat.reduceEqDiff, Int.reduceToNat, reduceIte, ts5]
      exact RoundQ.next (j + 1, t) rfl (by dsimp only; rw [hsn]; rfl) ⟨hg23, hap3, h2⟩ (by dsimp only; omega)
    · rw [hb, if_pos rfl] at hsn
      simp (disch := first | omega | (simp only [ds] <;> omega) | fail) only [wk, undefM, Nat.reduceLT, Nat.reduceAdd, Nat.reduceMul, Nat.reduceSub, Nat.reduceBEq, Nat.reduceEqDiff, Int.reduceToNat, reduceIte, ts5]
      have hvap := vappend_app (tk' := .full) (n := F.length) (k := 1) (cs := F.map .str) (ds := [.str v]) ty39 ty9 hap3 (by simp) rfl rfl (by decide) (by decide) (by omega) (by simp [maxLen]; omega)
      refine VL.app tabOk hvap rfl rfl rfl rfl ?_
      simp (disch := first | omega | (simp only [ds] <;> omega) | fail) only [wk, undefM, Nat.reduceLT, Nat.reduceAdd, Nat.reduceMul, Nat.reduceSub, Nat.reduceBEq, Nat.reduceEqDiff, Int.reduceToNat, reduceIte, ts5]
      exact RoundQ.next (j + 1, .own O3.next 1) rfl (by dsimp only; rw [hsn, List.length_append, List.map_append]; rfl) ⟨hg23.after hap3 (Nat.le_refl _), App.after (by have := hg3.next; omega), h2⟩ (by dsimp only; omega)
  · have hjl : j = l.length := by omega
    subst hjl
    rw [List.take_length]
    simp (disch := first | omega | (simp only [ds] <;> omega) | fail) only [wk, undefM, Nat.reduceLT, Nat.reduceAdd, Nat.reduceMul, Nat.reduceSub, Nat.reduceBEq, Nat.reduceEqDiff, Int.reduceToNat, reduceIte, ts5]
    exact ⟨_, rfl, (hge _).trans hg2⟩
/-- bounds.Pick -/
theorem Pick_v (r : Rg) (tk : Tok) (l : List (List UInt8)) (tl : Tok) (O : VH) (hr : RgOk r) (hn : l.length ≤ 10000) (hl : ∀ v ∈ l, v.length ≤ 10000) : VF Tryd.prog 19 [.agg (rgM r tk), .sl l.length (l.map .str) tl] O (Ret fun m O' => m = .tuple [.str (highF (l.filter (hasF r ·))).1, mb (highF (l.filter (hasF r ·))).2] ∧ O.Ge O') := by
  obtain ⟨hd, ver, L⟩ := r
  have hge := fun x => (VH.Ge.refl O).push x
  have hfl := List.length_filter_le (hasF (hd, ver, L) ·) l
  refine VF.ofW (n := ⟨12, 0⟩) (rs := [.tmp 4, .tmp 5]) tabOk Tryd.func19 rfl rfl rfl (Nat.le_of_ble_eq_true rfl) ?_
  simp only [argEnv, Nat.zero_add, Nat.reduceAdd]
  simp (disch := first | omega | (simp only [ds] <;> omega) | fail) only [wk, undefM, Nat.reduceLT, Nat.reduceAdd, Nat.reduceMul, Nat.reduceSub, Nat.reduceBEq, Nat.reduceEqDiff, Int.reduceToNat, reduceIte, ts5, rgM]
  refine CallW.rt (Among_v (hd, ver, L) tk l tl _ hr hn hl) (by kernel_rfl) rfl rfl ?_
  rintro _ O2 ⟨t, rfl, hg2⟩
  simp (disch := first | omega | (simp only [ds] <;> omega) | fail) only [wk, undefM, Nat.reduceLT, Nat.reduceAdd, Nat.reduceMul, Nat.reduceSub, Nat.reduceBEq, Nat.reduceEqDiff, Int.reduceToNat, reduceIte, ts5]
  refine CallW.rt (Highest_v (l.filter (hasF (hd, ver, L) ·)) t _ (Nat.le_trans hfl (Nat.le_trans hn (by decide))) (fun v hv => hl v (List.mem_filter.1 hv).1)) (by kernel_rfl) rfl rfl ?_
  rintro _ O3 ⟨rfl, hg3⟩
  simp (disch := first | omega | (simp only [ds] <;> omega) | fail) only [wk, undefM, Nat.reduceLT, Nat.reduceAdd, Nat.reduceMul, Nat.reduceSub, Nat.reduceBEq, Nat.reduceEqDiff, Int.reduceToNat, reduceIte, ts5, wi]
  exact ((hge _).trans hg2).trans hg3
end Go.Proofs.YtbpnmkmlicbfoaaDoor

/-
  The law BoundsPicks, walked.
-/
set_option linter.unusedVariables false
set_option linter.unusedSimpArgs false
namespace Go.Proofs.YtbpnmkmlicbfoaaDoor
open Go.RowKit
set_option maxRecDepth 10000
/-- Tokens of two rows that both grow. -/
def tokNe : Tok → Tok → Prop
  | .own a _, .own b _ => a ≠ b
  | _, _ => True
theorem tokNe.symm {a b : Tok} (h : tokNe a b) : tokNe b a := by
  cases a <;> cases b <;> first | trivial | exact fun e => h e.symm
theorem tokNe_new {O : VH} {B sz k : Nat} {w : Tok} (h : App O B sz w) : tokNe (.own O.next k) w := by
  cases w with
  | own t j => exact fun e => by have := h.2.2.2; omega
  | _ => trivial
theorem App.other {O : VH} {B sz : Nat} {tk w : Tok} (h : App O B sz w) (hne : tokNe tk w) : App (O.after tk) B sz w := by
  cases w with
  | own t j =>
    obtain ⟨h1, h2, h3, h4⟩ := h
    refine ⟨h1, ?_, h3, by rw [VH.after_next]; omega⟩
    cases tk with
    | own s k =>
      refine (VH.push_old (O.kill s) _ h4).trans ?_
      exact (VH.kill_ne _ (fun e => hne e.symm)).trans h2
    | _ => exact (VH.push_old _ _ h4).trans h2
  | nil => trivial
  | full => trivial
  | unk => exact h.elim
theorem fm_str : ∀ l : List (List UInt8), (l.flatMap fun l => [MV.str l]) = l.map .str
  | [] => rfl
  | x :: r => by rw [List.flatMap_cons, fm_str r]; rfl
/-- pomacelaw05.BoundsPicks -/
theorem picks5_law (y : RgA) (z : List (List UInt8) × Tok) (O : VH) (hy : RgIn y) (hz : (∀ v ∈ z.1, v.length ≤ maxLen) ∧ z.1.length ≤ maxLen) : VF Tryd.prog 6 [.agg (rgM (rgY y) y.2.2.2), .sl z.1.length (z.1.flatMap fun l => [.str l]) z.2] O (Ret fun m O' => m = mb true) := by
  obtain ⟨hd, ver, L, tk⟩ := y
  obtain ⟨l, tl⟩ := z
  obtain ⟨_, h1, h2, h3⟩ := hy
  obtain ⟨hl, hn⟩ := hz
  dsimp only [rgY] at h1 h2 h3 hl hn ⊢
  rw [fm_str]
  have hnm : (l.length : Int) ≤ 9223372036854775807 := by simp [maxLen] at hn; omega
  have hml : (l.map MV.str).length = l.length := by simp
  refine VF.ofV (n := ⟨94, 0⟩) (rs := [.tmp 4]) tabOk Tryd.func6 rfl rfl rfl (Nat.le_of_ble_eq_true rfl) ?_
  simp only [argEnv, Nat.zero_add, Nat.reduceAdd]
  refine VC.seqV tabOk ?_
  simp (disch := first | omega | (simp only [ds] <;> omega) | fail) only [wk, undefM, Nat.reduceLT, Nat.reduceAdd, Nat.reduceMul, Nat.reduceSub, Nat.reduceBEq, Nat.reduceEqDiff, Int.reduceToNat, reduceIte, ts5, rgM]
  have hk := VH.push_new O (.cells (rgM (hd, ver, L) tk))
  have hn1 : O.next < (O.push (.cells (rgM (hd, ver, L) tk))).next := Nat.lt_succ_self _
  simp only [rgM, mb_def] at hk hn1
  generalize O.push (.cells [.v (.bool hd), .str ver, .sl L.length (L.flatMap ivM) tk]) = O1 at *
  refine VC.seqV tabOk ?_
  simp (disch := first | omega | (simp only [ds] <;> omega) | fail) only [wk, undefM, Nat.reduceLT, Nat.reduceAdd, Nat.reduceMul, Nat.reduceSub, Nat.reduceBEq, Nat.reduceEqDiff, Int.reduceToNat, reduceIte, ts5, hk]
  refine CallW.rt (Light_v (hd, ver, L) tk _ h1 h3 (fun p hp => ⟨(h2 p hp).1.2.1, (h2 p hp).2.2.1⟩)) (by kernel_rfl) rfl rfl ?_
  rintro _ O2 ⟨rfl, hg2⟩
  have hk2 := (hg2.hp _ hn1).trans hk
  have hn2 := Nat.lt_of_lt_of_le hn1 hg2.next
  cases hli : lightR (hd, ver, L)
  · simp (disch := first | omega | (simp only [ds] <;> omega) | fail) only [wk, undefM, Nat.reduceLT, Nat.reduceAdd, Nat.reduceMul, Nat.reduceSub, Nat.reduceBEq, Nat.reduceEqDiff, Int.reduceToNat, reduceIte, ts5]
    refine CallW.rt (lives5_v _) (by kernel_rfl) rfl rfl ?_
    rintro _ OL ⟨rfl, hgL⟩
    simp (disch := first | omega | (simp only [ds] <;> omega) | fail) only [wk, undefM, Nat.reduceLT, Nat.reduceAdd, Nat.reduceMul, Nat.reduceSub, Nat.reduceBEq, Nat.reduceEqDiff, Int.reduceToNat, reduceIte, ts5]
  have hok := (light_ok hli).1
  simp (disch := first | omega | (simp only [ds] <;> omega) | fail) only [wk, undefM, Nat.reduceLT, Nat.reduceAdd, Nat.reduceMul, Nat.reduceSub, Nat.reduceBEq, Nat.reduceEqDiff, Int.reduceToNat, reduceIte, ts5]
  refine VC.seqV tabOk ?_
  simp (disch := first | omega | (simp only [ds] <;> omega) | fail) only [wk, undefM, Nat.reduceLT, Nat.reduceAdd, Nat.reduceMul, Nat.reduceSub, Nat.reduceBEq, Nat.reduceEqDiff, Int.reduceToNat, reduceIte, ts5]
  refine VC.seqV tabOk ?_
  simp (disch := first | omega | (simp only [ds] <;> omega) | fail) only [wk, undefM, Nat.reduceLT, Nat.reduceAdd, Nat.reduceMul, Nat.reduceSub, Nat.reduceBEq, Nat.reduceEqDiff, Int.reduceToNat, reduceIte, ts5]
  refine VC.join2 [2, 5, 6, 7, 8] (fun x : Nat × Tok × Tok => [.ptr O.next 0, .sl (l.take x.1).length ((l.take x.1).map .str) x.2.1, .sl ((l.take x.1).filter (hasF (hd, ver, L) ·)).length (((l.take x.1).filter (hasF (hd, ver, L) ·)).map .str) x.2.2, .str (highF ((l.take x.1).filter (hasF (hd, ver, L) ·))).1, mb (highF ((l.take x.1).filter (hasF (hd, ver, L) ·))).2]) (fun x O' => O2.Ge O' ∧ x.1 ≤ l.length ∧ x.1 ≤ 60 ∧ ∀ v ∈ l.take x.1, v.length ≤ 100) ?_ ?_
  · refine VC.seqV tabOk ?_
    simp (disch := first | omega | (simp only [ds] <;> omega) | fail) only [wk, undefM, Nat.reduceLT, Nat.reduceAdd, Nat.reduceMul, Nat.reduceSub, Nat.reduceBEq, Nat.reduceEqDiff, Int.reduceToNat, reduceIte, ts5]
    refine VC.block' ?_
    refine VC.loopV [5, 6, 7, 8, 21] [2, 19, 20] (fun x : Nat × Tok × Tok => [.sl (l.take x.1).length ((l.take x.1).map .str) x.2.1, .sl ((l.take x.1).filter (hasF (hd, ver, L) ·)).length (((l.take x.1).filter (hasF (hd, ver, L) ·)).map .str) x.2.2, .str (highF ((l.take x.1).filter (hasF (hd, ver, L) ·))).1, mb (highF ((l.take x.1).filter (hasF (hd, ver, L) ·))).2, mi x.1]) (fun x O' => O2.Ge O' ∧ App O' O2.next 1 x.2.1 ∧ App O' O2.next 1 x.2.2 ∧ tokNe x.2.1 x.2.2 ∧ x.1 ≤ l.length ∧ x.1 ≤ 60 ∧ ∀ v ∈ l.take x.1, v.length ≤ 100) (fun x => l.length - x.1) ((0, .nil, .nil)) rfl rfl ?_ ?_
    · exact ⟨VH.Ge.refl _, trivial, trivial, trivial, Nat.zero_le _, Nat.zero_le _, fun v h => by cases h⟩
    rintro ⟨j, ta, tb⟩ O3 ⟨hg3, ha, hb, hne, hj, hj60, hall⟩
    dsimp only at ha hb hne hj hj60 hall
    have hk3 := (hg3.hp _ hn2).trans hk2
    by_cases hj2 : j < l.length
    rotate_left
    · refine WC.sound tabOk ?_
      simp (disch := first | omega | (simp only [ds] <;> omega) | fail) only [wk, undefM, Nat.reduceLT, Nat.reduceAdd, Nat.reduceMul, Nat.reduceSub, Nat.reduceBEq, Nat.reduceEqDiff, Int.reduceToNat, reduceIte, ts5]
      exact JoinQ.mk (j, ta, tb) rfl ⟨hg3, hj, hj60, hall⟩
    have hat : (l.map MV.str)[j]? = some (.str l[j]) := by simp [hj2]
    have hat2 := List.getElem?_eq_getElem hj2
    have hsnO := take_snoc l j hj2
    have hsnW := filter_snoc (hasF (hd, ver, L) ·) l j hj2
    have hlv := hl l[j] (List.getElem_mem hj2)
    have hfl := filter_le (hasF (hd, ver, L) ·) l j
    have hFv : ∀ x ∈ (l.take j).filter (hasF (hd, ver, L) ·), x.length ≤ 100 := fun x hx => hall x (List.mem_filter.1 hx).1
    have hall' : l[j].length ≤ 100 → ∀ x ∈ l.take (j + 1), x.length ≤ 100 := fun hv x hx => by
      rw [hsnO] at hx
      rcases List.mem_append.1 hx with hx | hx
      · exact hall x hx
      · rw [List.mem_singleton.1 hx]; exact hv
    have hln : (l.take j).length ≤ 60 := by rw [List.length_take]; omega
    generalize l[j] = v at *
    have hvm : (v.length : Int) ≤ 9223372036854775807 := by simp [maxLen] at hlv; omega
    refine VC.seqV tabOk ?_
    simp (disch := first | omega | (simp only [ds] <;> omega) | fail) only [wk, undefM, Nat.reduceLT, Nat.reduceAdd, Nat.reduceMul, Nat.reduceSub, Nat.reduceBEq, Nat.reduceEqDiff, Int.reduceToNat, reduceIte, ts5]
    refine VC.seqV tabOk ?_
    simp (disch := first | omega | (simp only [ds] <;> omega) | fail) only [wk, undefM, Nat.reduceLT, Nat.reduceAdd, Nat.reduceMul, Nat.reduceSub, Nat.reduceBEq, Nat.reduceEqDiff, Int.reduceToNat, reduceIte, ts5]
    refine VC.seq0 (VC.block' ?_)
    refine VC.seqV tabOk ?_
    simp (disch := first | omega | (simp only [ds] <;> omega) | fail) only [wk, undefM, Nat.reduceLT, Nat.reduceAdd, Nat.reduceMul, Nat.reduceSub, Nat.reduceBEq, Nat.reduceEqDiff, Int.reduceToNat, reduceIte, ts5, hat, hat2]
    by_cases h60 : 60 ≤ j
    · refine WC.sound tabOk ?_
      simp (disch := first | omega | (simp only [ds] <;> omega) | fail) only [wk, undefM, Nat.reduceLT, Nat.reduceAdd, Nat.reduceMul, Nat.reduceSub, Nat.reduceBEq, Nat.reduceEqDiff, Int.reduceToNat, reduceIte, ts5]
      exact JoinQ.mk (j, ta, tb) rfl ⟨hg3, hj, hj60, hall⟩
    by_cases h100 : v.length ≤ 100
    rotate_left
    · refine WC.sound tabOk ?_
      simp (disch := first | omega | (simp only [ds] <;> omega) | fail) only [wk, undefM, Nat.reduceLT, Nat.reduceAdd, Nat.reduceMul, Nat.reduceSub, Nat.reduceBEq, Nat.reduceEqDiff, Int.reduceToNat, reduceIte, ts5]
      exact JoinQ.mk (j, ta, tb) rfl ⟨hg3, hj, hj60, hall⟩
    replace hall' := hall' h100
    refine VC.seqV tabOk ?_
    simp (disch := first | omega | (simp only [ds] <;> omega) | fail) only [wk, undefM, Nat.reduceLT, Nat.reduceAdd, Nat.reduceMul, Nat.reduceSub, Nat.reduceBEq, Nat.reduceEqDiff, Int.reduceToNat, reduceIte, ts5]
    refine VC.seqV tabOk ?_
    simp (disch := first | omega | (simp only [ds] <;> omega) | fail) only [wk, undefM, Nat.reduceLT, Nat.reduceAdd, Nat.reduceMul, Nat.reduceSub, Nat.reduceBEq, Nat.reduceEqDiff, Int.reduceToNat, reduceIte, ts5]
    have hapA := vappend_app (tk' := .full) (n := (l.take j).length) (k := 1) (cs := (l.take j).map .str) (ds := [.str v]) ty39 ty9 ha (by simp) rfl rfl (by decide) (by decide) (by omega) (by simp [maxLen]; omega)
    refine VL.app tabOk hapA rfl rfl rfl rfl ?_
    have hk4 := VH.after_hp ha hk3 (by simp) (Nat.lt_of_lt_of_le hn2 hg3.next)
    have hb4 := hb.other hne
    have ha4 : App (O3.after ta) O2.next 1 (.own O3.next 1) := App.after hg3.next
    have hne4 := tokNe_new (k := 1) hb
    have hg4 := hg3.after ha (Nat.le_refl _)
    generalize O3.after ta = O4 at *
    generalize (Tok.own O3.next 1) = tc at *
    clear hapA ha hb hne hk3 hg3
    generalize hF : (l.take j).filter (hasF (hd, ver, L) ·) = F at *
    simp (disch := first | omega | (simp only [ds] <;> omega) | fail) only [wk, undefM, Nat.reduceLT, Nat.reduceAdd, Nat.reduceMul, Nat.reduceSub, Nat.reduceBEq, Nat.reduceEqDiff, Int.reduceToNat, reduceIte, ts5]
    refine VC.seqV tabOk ?_
    simp (disch := first | omega | (simp only [ds] <;> omega) | fail) only [wk, undefM, Nat.reduceLT, Nat.reduceAdd, Nat.reduceMul, Nat.reduceSub, Nat.reduceBEq, Nat.reduceEqDiff, Int.reduceToNat, reduceIte, ts5, hk4]
    refine CallW.rt (rHas_v (hd, ver, L) tk v _ hok (by omega)) (by kernel_rfl) rfl rfl ?_
    rintro _ O5 ⟨rfl, hg5⟩
    have hg45 := hg4.trans hg5
    have ha5 := ha4.keep hg5.next (fun i _ h => hg5.hp i h)
    have hb5 := hb4.keep hg5.next (fun i _ h => hg5.hp i h)
    cases hhas : hasF (hd, ver, L) v
    · rw [hhas, if_neg (by simp), List.append_nil] at hsnW
      simp (disch := first | omega | (simp only [ds] <;> omega) | fail) only [wk, undefM, Nat.reduceLT, Nat.reduceAdd, Nat.reduceMul, Nat.reduceSub, Nat.reduceBEq, Nat.reduceEqDiff, Int.reduceToNat, reduceIte, ts5]
      refine WC.sound tabOk ?_
      simp (disch := first | omega | (simp only [ds] <;> omega) | fail) only [wk, undefM, Nat.reduceLT, Nat.reduceAdd, Nat.reduceMul, Nat.reduceSub, Nat.reduceBEq, Nat.reduceEqDiff, Int.reduceToNat, reduceIte, ts5]
      refine WC.sound tabOk ?_
      simp (disch := first | omega | (simp only [ds] <;> omega) | fail) only [wk, undefM, Nat.reduceLT, Nat.reduceAdd, Nat.reduceMul, Nat.reduceSub, Nat.reduceBEq, Nat.reduceEqDiff, Int.reduceToNat, reduceIte, ts5]
      refine RoundQ.next (j + 1, tc, tb) rfl ?_ ⟨hg45, ha5, hb5, hne4, hj2, by omega, hall'⟩ (by dsimp only; omega)
      dsimp only
      rw [hsnW, hsnO]
      simp only [List.length_append, List.map_append, List.length_cons, List.length_nil, List.map_cons, List.map_nil, Nat.zero_add]
      rfl
    rw [hhas, if_pos rfl] at hsnW
    have hsnH := highF_snoc F v
    simp (disch := first | omega | (simp only [ds] <;> omega) | fail) only [wk, undefM, Nat.reduceLT, Nat.reduceAdd, Nat.reduceMul, Nat.reduceSub, Nat.reduceBEq, Nat.reduceEqDiff, Int.reduceToNat, reduceIte, ts5]
    refine WC.sound tabOk ?_
    simp (disch := first | omega | (simp only [ds] <;> omega) | fail) only [wk, undefM, Nat.reduceLT, Nat.reduceAdd, Nat.reduceMul, Nat.reduceSub, Nat.reduceBEq, Nat.reduceEqDiff, Int.reduceToNat, reduceIte, ts5]
    have hapB := vappend_app (tk' := .full) (n := F.length) (k := 1) (cs := F.map .str) (ds := [.str v]) ty39 ty9 hb5 (by simp) rfl rfl (by decide) (by decide) (by omega) (by simp [maxLen]; omega)
    refine VL.app tabOk hapB rfl rfl rfl rfl ?_
    have ha6 := ha5.other hne4.symm
    have hb6 : App (O5.after tb) O2.next 1 (.own O5.next 1) := App.after (by have := hg45.next; omega)
    have hne6 := (tokNe_new (k := 1) ha5).symm
    have hg6 := hg45.after hb5 (Nat.le_refl _)
    generalize O5.after tb = O6 at *
    generalize (Tok.own O5.next 1) = td at *
    have hbl : (highF F).1.length ≤ 10000 := by
      cases F with
      | nil => exact Nat.zero_le _
      | cons x r => have := hFv _ (maxL_mem x r); exact Nat.le_trans this (by decide)
    cases hfd : (highF F).2
    · rw [hfd] at hsnH
      simp (disch := first | omega | (simp only [ds] <;> omega) | fail) only [wk, undefM, Nat.reduceLT, Nat.reduceAdd, Nat.reduceMul, Nat.reduceSub, Nat.reduceBEq, Nat.reduceEqDiff, Int.reduceToNat, reduceIte, ts5]
      refine WC.sound tabOk ?_
      simp (disch := first | omega | (simp only [ds] <;> omega) | fail) only [wk, undefM, Nat.reduceLT, Nat.reduceAdd, Nat.reduceMul, Nat.reduceSub, Nat.reduceBEq, Nat.reduceEqDiff, Int.reduceToNat, reduceIte, ts5]
      refine RoundQ.next (j + 1, tc, td) rfl ?_ ⟨hg6, ha6, hb6, hne6, hj2, by omega, hall'⟩ (by dsimp only; omega)
      dsimp only
      rw [hsnW, hsnO, hsnH]
      simp only [List.length_append, List.map_append, List.length_cons, List.length_nil, List.map_cons, List.map_nil, Nat.zero_add]
      rfl
    · rw [hfd] at hsnH
      simp (disch := first | omega | (simp only [ds] <;> omega) | fail) only [wk, undefM, Nat.reduceLT, Nat.reduceAdd, Nat.reduceMul, Nat.reduceSub, Nat.reduceBEq, Nat.reduceEqDiff, Int.reduceToNat, reduceIte, ts5]
      refine CallW.rt (refCompare_v v (highF F).1 _ (by omega) hbl) (by kernel_rfl) rfl rfl ?_
      rintro _ O7 ⟨rfl, hg7⟩
      have hg67 := hg6.trans hg7
      have ha7 := ha6.keep hg7.next (fun i _ h => hg7.hp i h)
      have hb7 := hb6.keep hg7.next (fun i _ h => hg7.hp i h)
      by_cases hcm : compareV v (highF F).1 > 0
      · rw [decide_eq_true hcm] at hsnH
        simp (disch := first | omega | (simp only [ds] <;> omega) | fail) only [wk, undefM, Nat.reduceLT, Nat.reduceAdd, Nat.reduceMul, Nat.reduceSub, Nat.reduceBEq, Nat.reduceEqDiff, Int.reduceToNat, reduceIte, ts5, hcm]
        refine WC.sound tabOk ?_
        simp (disch := first | omega | (simp only [ds] <;> omega) | fail) only [wk, undefM, Nat.reduceLT, Nat.reduceAdd, Nat.reduceMul, Nat.reduceSub, Nat.reduceBEq, Nat.reduceEqDiff, Int.reduceToNat, reduceIte, ts5]
        refine RoundQ.next (j + 1, tc, td) rfl ?_ ⟨hg67, ha7, hb7, hne6, hj2, by omega, hall'⟩ (by dsimp only; omega)
        dsimp only
        rw [hsnW, hsnO, hsnH]
        simp only [List.length_append, List.map_append, List.length_cons, List.length_nil, List.map_cons, List.map_nil, Nat.zero_add]
        rfl
      · rw [decide_eq_false hcm] at hsnH
        simp (disch := first | omega | (simp only [ds] <;> omega) | fail) only [wk, undefM, Nat.reduceLT, Nat.reduceAdd, Nat.reduceMul, Nat.reduceSub, Nat.reduceBEq, Nat.reduceEqDiff, Int.reduceToNat, reduceIte, ts5, hcm]
        refine WC.sound tabOk ?_
        simp (disch := first | omega | (simp only [ds] <;> omega) | fail) only [wk, undefM, Nat.reduceLT, Nat.reduceAdd, Nat.reduceMul, Nat.reduceSub, Nat.reduceBEq, Nat.reduceEqDiff, Int.reduceToNat, reduceIte, ts5]
        refine RoundQ.next (j + 1, tc, td) rfl ?_ ⟨hg67, ha7, hb7, hne6, hj2, by omega, hall'⟩ (by dsimp only; omega)
        dsimp only
        rw [hsnW, hsnO, hsnH]
        simp only [List.length_append, List.map_append, List.length_cons, List.length_nil, List.map_cons, List.map_nil, Nat.zero_add]
        rfl
  rintro ⟨n, ta, tb⟩ O3 ⟨hg3, hn3, hn60, hall⟩
  dsimp only at hn3 hn60 hall
  have hk3 := (hg3.hp _ hn2).trans hk2
  have hnx := Nat.lt_of_lt_of_le hn2 hg3.next
  have hlen : (l.take n).length ≤ 10000 := by rw [List.length_take]; omega
  have hbd : ∀ v ∈ l.take n, v.length ≤ 10000 := fun v hv => Nat.le_trans (hall v hv) (by decide)
  have hpk := fun t O => Pick_v (hd, ver, L) tk (l.take n) t O hok hlen hbd
  have ham := fun t O => Among_v (hd, ver, L) tk (l.take n) t O hok hlen hbd
  have hFl : ((l.take n).filter (hasF (hd, ver, L) ·)).length ≤ 10000 := Nat.le_trans (List.length_filter_le _ _) hlen
  generalize (l.take n).filter (hasF (hd, ver, L) ·) = F at *
  generalize l.take n = W at *
  have hFm : (F.length : Int) ≤ 9223372036854775807 := by omega
  refine VC.seqV tabOk ?_
  simp (disch := first | omega | (simp only [ds] <;> omega) | fail) only [wk, undefM, Nat.reduceLT, Nat.reduceAdd, Nat.reduceMul, Nat.reduceSub, Nat.reduceBEq, Nat.reduceEqDiff, Int.reduceToNat, reduceIte, ts5, hk3]
  refine CallW.rt (ham ta _) (by kernel_rfl) rfl rfl ?_
  rintro _ O4 ⟨tg, rfl, hg4⟩
  have hk4 := (hg4.hp _ hnx).trans hk3
  simp (disch := first | omega | (simp only [ds] <;> omega) | fail) only [wk, undefM, Nat.reduceLT, Nat.reduceAdd, Nat.reduceMul, Nat.reduceSub, Nat.reduceBEq, Nat.reduceEqDiff, Int.reduceToNat, reduceIte, ts5]
  refine VC.seqV tabOk ?_
  simp (disch := first | omega | (simp only [ds] <;> omega) | fail) only [wk, undefM, Nat.reduceLT, Nat.reduceAdd, Nat.reduceMul, Nat.reduceSub, Nat.reduceBEq, Nat.reduceEqDiff, Int.reduceToNat, reduceIte, ts5, hk4]
  refine CallW.rt (hpk ta _) (by kernel_rfl) rfl rfl ?_
  rintro _ O5 ⟨rfl, hg5⟩
  simp (disch := first | omega | (simp only [ds] <;> omega) | fail) only [wk, undefM, Nat.reduceLT, Nat.reduceAdd, Nat.reduceMul, Nat.reduceSub, Nat.reduceBEq, Nat.reduceEqDiff, Int.reduceToNat, reduceIte, ts5, wi]
  refine VC.seqV tabOk ?_
  generalize (highF F).1 = bst at *
  generalize (highF F).2 = fnd at *
  simp (disch := first | omega | (simp only [ds] <;> omega) | fail) only [wk, undefM, Nat.reduceLT, Nat.reduceAdd, Nat.reduceMul, Nat.reduceSub, Nat.reduceBEq, Nat.reduceEqDiff, Int.reduceToNat, reduceIte, ts5, bne_self_eq_false, beq_self_eq_true]
  refine VC.seq0 ?_
  refine VC.seqV tabOk ?_
  simp (disch := first | omega | (simp only [ds] <;> omega) | fail) only [wk, undefM, Nat.reduceLT, Nat.reduceAdd, Nat.reduceMul, Nat.reduceSub, Nat.reduceBEq, Nat.reduceEqDiff, Int.reduceToNat, reduceIte, ts5]
  refine VC.block' ?_
  have hml2 : (F.map MV.str).length = F.length := by simp
  refine VC.loopV [80] [6, 11, 79] (fun j : Nat => [mi j]) (fun j O' => j ≤ F.length) (fun j => F.length - j) (0) rfl rfl ?_ ?_
  · exact Nat.zero_le _
  rintro j O6 hj
  by_cases hj2 : j < F.length
  · have hat2 := List.getElem?_eq_getElem hj2
    generalize F[j] = v at *
    refine WC.sound tabOk ?_
    simp (disch := first | omega | (simp only [ds] <;> omega) | fail) only [wk, undefM, Nat.reduceLT, Nat.reduceAdd, Nat.reduceMul, Nat.reduceSub, Nat.reduceBEq, Nat.reduceEqDiff, Int.reduceToNat, reduceIte, ts5]
    refine WC.reads tabOk (by kernel_rfl) (by kernel_rfl) (by kernel_rfl) ?_
    simp (disch := first | omega | (simp only [ds] <;> omega) | fail) only [wk, undefM, Nat.reduceLT, Nat.reduceAdd, Nat.reduceMul, Nat.reduceSub, Nat.reduceBEq, Nat.reduceEqDiff, Int.reduceToNat, reduceIte, ts5, hat2, bne_self_eq_false, beq_self_eq_true]
    exact RoundQ.next (j + 1) rfl rfl hj2 (by omega)
  · refine WC.sound tabOk ?_
    simp (disch := first | omega | (simp only [ds] <;> omega) | fail) only [wk, undefM, Nat.reduceLT, Nat.reduceAdd, Nat.reduceMul, Nat.reduceSub, Nat.reduceBEq, Nat.reduceEqDiff, Int.reduceToNat, reduceIte, ts5]
    refine WC.sound tabOk ?_
    simp (disch := first | omega | (simp only [ds] <;> omega) | fail) only [wk, undefM, Nat.reduceLT, Nat.reduceAdd, Nat.reduceMul, Nat.reduceSub, Nat.reduceBEq, Nat.reduceEqDiff, Int.reduceToNat, reduceIte, ts5]
    refine CallW.rt (lives5_v _) (by kernel_rfl) rfl rfl ?_
    rintro _ OL ⟨rfl, hgL⟩
    simp (disch := first | omega | (simp only [ds] <;> omega) | fail) only [wk, undefM, Nat.reduceLT, Nat.reduceAdd, Nat.reduceMul, Nat.reduceSub, Nat.reduceBEq, Nat.reduceEqDiff, Int.reduceToNat, reduceIte, ts5]
end Go.Proofs.YtbpnmkmlicbfoaaDoor

/-
  The package bounds: slices.Clone, tighter, walked.
-/
set_option linter.unusedVariables false
set_option linter.unusedSimpArgs false
namespace Go.Proofs.YtbpnmkmlicbfoaaDoor
open Go.RowKit
set_option maxRecDepth 10000
section
variable {P : Program} {n : Sz} {D : List Deferred} {e : Env} {O : VH}
/-- Is a slice nil? If it has anything, it isn't. -/
theorem nilS_M {d : Option Tmp} {t t' ty el : TypeId} {x : Operand} {ps : String} {af : Array Edge} {g : Option (Nat × Bool)} {k : Nat} {cs : List MV} {tk : Tok} (hu : P.underlying t = some (.slice el)) (hx : ev e x = some (.sl k cs tk)) :
    YieldsM P n D (.mk d (.binOp .eql t x (.const (.slice none 0 0)) t') ty ps af g) e O fun m O' => O' = O ∧ ∃ b, m = .v (.bool b) ∧ (b = true → k = 0 ∧ cs = []) := by
  intro G a w hw hf
  have h1 := hf.ev hx
  have hc : a.eval (.const (.slice none 0 0)) = .slice none 0 0 := rfl
  have key : ∀ (A : Option Addr) (l c : Nat), a.eval x = .slice A l c → (A = none → k = 0 ∧ cs = []) → ∃ m O' u w' H, (O' = O ∧ ∃ b, m = .v (.bool b) ∧ (b = true → k = 0 ∧ cs = [])) ∧ (execOp a.eval (.mk d (.binOp .eql t x (.const (.slice none 0 0)) t') ty ps af g)).run P w = .ok (.value u) w' ∧ Gh.Le G H ∧ WR H O' w' ∧ VR H m u := fun A l c ha hA => by
    refine ⟨.v (.bool A.isNone), O, .bool A.isNone, w, G, ⟨rfl, _, rfl, fun h => hA (by cases A <;> first | rfl | cases h)⟩, ?_, Gh.Le.refl G, hw, .v rfl⟩
    have hgd : (eqGuard .eql t x (.const (.slice none 0 0)) (.slice A l c) (.slice none 0 0)).run P w = .ok () w := by simp [eqGuard]
    simp only [execOp, ha, hc, Sem.run_bind, hgd, Result.andThen_ok, run_eql_slice_nil w t el A l c hu]
    rfl
  generalize hv : a.eval x = v at h1
  cases h1 with
  | slnil => exact key none 0 0 hv fun _ => ⟨rfl, rfl⟩
  | sl0 h => exact key _ _ _ hv fun _ => ⟨rfl, rfl⟩
  | sl0n => exact key none 0 0 hv fun _ => ⟨rfl, rfl⟩
  | sl h1 h2 h3 h4 h5 h6 => exact key _ _ _ hv fun h => by cases h
end
theorem vbin_sl {tab : Tab} {op : BinOp} {t : TypeId} {n : Nat} {cs : List MV} {tk : Tok} {y : MV} : vbin tab op t (.sl n cs tk) y = none := rfl
theorem iv_leaf (L : List Iv) : (L.flatMap ivM).all leafB = true := by
  rw [List.all_flatMap, List.all_eq_true]; intro p _; rfl
/-- slices.Clone of intervals -/
theorem CloneIv_v (L : List Iv) (tk : Tok) (O : VH) (hn : L.length ≤ 100000) : VF Tryd.prog 44 [.sl L.length (L.flatMap ivM) tk] O (Ret fun m O' => ∃ t, m = .sl L.length (L.flatMap ivM) t ∧ O.Ge O') := by
  have hpl := iv_len L
  refine VF.ofW (n := ⟨8, 0⟩) (rs := [.tmp 2]) tabOk Tryd.func44 rfl rfl rfl (Nat.le_of_ble_eq_true rfl) ?_
  simp only [argEnv, Nat.zero_add, Nat.reduceAdd]
  simp (disch := first | omega | (simp only [ds] <;> omega) | fail) only [wk, undefM, Nat.reduceLT, Nat.reduceAdd, Nat.reduceMul, Nat.reduceSub, Nat.reduceBEq, Nat.reduceEqDiff, Int.reduceToNat, reduceIte, tsN, vbin_sl]
  refine VL.stepP (.inl rfl) rfl rfl (nilS_M Tryd.underlying23 rfl) ?_
  rintro _ O1 ⟨eO, b, rfl, hb⟩
  rw [eO]; clear eO O1
  refine WL.sound tabOk ?_
  cases b
  · simp (disch := first | omega | (simp only [ds] <;> omega) | fail) only [wk, undefM, Nat.reduceLT, Nat.reduceAdd, Nat.reduceMul, Nat.reduceSub, Nat.reduceBEq, Nat.reduceEqDiff, Int.reduceToNat, reduceIte, tsN]
    by_cases h0 : L.length = 0
    · have hL : L = [] := List.eq_nil_of_length_eq_zero h0
      subst hL
      refine VL.app tabOk (m := .sl 0 [] .full) (O' := O) (by simp [vappend, ty23, ty57]) rfl rfl rfl rfl ?_
      simp (disch := first | omega | (simp only [ds] <;> omega) | fail) only [wk, undefM, Nat.reduceLT, Nat.reduceAdd, Nat.reduceMul, Nat.reduceSub, Nat.reduceBEq, Nat.reduceEqDiff, Int.reduceToNat, reduceIte, tsN]
      exact ⟨.full, rfl, VH.Ge.refl _⟩
    · have hvap := fun O : VH => vappend_app (tk := .full) (tk' := tk) (B := O.next) (n := 0) (k := L.length) (cs := []) (ds := L.flatMap ivM) ty23 ty57 (O := O) trivial rfl hpl (iv_leaf L) (by decide) h0 (by omega) (by simp [maxLen]; omega)
      refine VL.app tabOk (hvap _) rfl rfl rfl rfl ?_
      simp (disch := first | omega | (simp only [ds] <;> omega) | fail) only [wk, undefM, Nat.reduceLT, Nat.reduceAdd, Nat.reduceMul, Nat.reduceSub, Nat.reduceBEq, Nat.reduceEqDiff, Int.reduceToNat, reduceIte, tsN]
      exact ⟨_, rfl, (VH.Ge.refl _).push _⟩
  · obtain ⟨h0, h1⟩ := hb rfl
    rw [h0, h1]
    simp (disch := first | omega | (simp only [ds] <;> omega) | fail) only [wk, undefM, Nat.reduceLT, Nat.reduceAdd, Nat.reduceMul, Nat.reduceSub, Nat.reduceBEq, Nat.reduceEqDiff, Int.reduceToNat, reduceIte, tsN]
    exact ⟨.nil, rfl, VH.Ge.refl _⟩
/-- Of two ends the tighter one. -/
def tightF (up : Bool) (a b : En) : En :=
  if !a.1 then b else if !b.1 then a else if compareV a.2.1 b.2.1 == 0 && (a.2.2 && !b.2.2) then b else if compareV a.2.1 b.2.1 == 0 || (decide (compareV a.2.1 b.2.1 > 0) == up) then a else b
/-- bounds.tighter -/
theorem tight_v (a b : En) (up : Bool) (O : VH) (ha : a.2.1.length ≤ 10000) (hb : b.2.1.length ≤ 10000) : VF Tryd.prog 45 [.agg (enM a), .agg (enM b), mb up] O (Ret fun m O' => m = .agg (enM (tightF up a b)) ∧ O.Ge O') := by
  obtain ⟨h1, v1, c1⟩ := a
  obtain ⟨h2, v2, c2⟩ := b
  dsimp only at ha hb
  have hge := fun x y z => (((VH.Ge.refl O).push x).push y).push z
  refine VF.ofW (n := ⟨47, 0⟩) (rs := [.cell 6 55]) tabOk Tryd.func45 rfl rfl rfl (Nat.le_of_ble_eq_true rfl) ?_
  simp only [argEnv, Nat.zero_add, Nat.reduceAdd]
  unfold tightF
  dsimp only
  cases h1
  · simp (disch := first | omega | (simp only [ds] <;> omega) | fail) only [wk, undefM, Nat.reduceLT, Nat.reduceAdd, Nat.reduceMul, Nat.reduceSub, Nat.reduceBEq, Nat.reduceEqDiff, Int.reduceToNat, reduceIte, tsN, enM]
    exact (hge _ _ _).set (show O.next ≤ O.next + 1 + 1 by omega) _
  cases h2
  · simp (disch := first | omega | (simp only [ds] <;> omega) | fail) only [wk, undefM, Nat.reduceLT, Nat.reduceAdd, Nat.reduceMul, Nat.reduceSub, Nat.reduceBEq, Nat.reduceEqDiff, Int.reduceToNat, reduceIte, tsN, enM]
    exact (hge _ _ _).set (show O.next ≤ O.next + 1 + 1 by omega) _
  simp (disch := first | omega | (simp only [ds] <;> omega) | fail) only [wk, undefM, Nat.reduceLT, Nat.reduceAdd, Nat.reduceMul, Nat.reduceSub, Nat.reduceBEq, Nat.reduceEqDiff, Int.reduceToNat, reduceIte, tsN, enM]
  have hk1 : (((O.push (.cells [.v (.bool true), .str v1, .v (.bool c1)])).push (.cells [.v (.bool true), .str v2, .v (.bool c2)])).push (.cells [.v (.bool false), .str [], .v (.bool false)])).hp O.next = some (.cells [.v (.bool true), .str v1, .v (.bool c1)]) := (VH.push_ne _ _ (by show O.next ≠ O.next + 1 + 1; omega)).trans ((VH.push_ne _ _ (by show O.next ≠ O.next + 1; omega)).trans (VH.push_new _ _))
  have hk2 : (((O.push (.cells [.v (.bool true), .str v1, .v (.bool c1)])).push (.cells [.v (.bool true), .str v2, .v (.bool c2)])).push (.cells [.v (.bool false), .str [], .v (.bool false)])).hp (O.next + 1) = some (.cells [.v (.bool true), .str v2, .v (.bool c2)]) := (VH.push_ne _ _ (by show O.next + 1 ≠ O.next + 1 + 1; omega)).trans (VH.push_new _ _)
  have hk3 : (((O.push (.cells [.v (.bool true), .str v1, .v (.bool c1)])).push (.cells [.v (.bool true), .str v2, .v (.bool c2)])).push (.cells [.v (.bool false), .str [], .v (.bool false)])).hp (O.next + 2) = some (.cells [.v (.bool false), .str [], .v (.bool false)]) := VH.push_new _ _
  have hn : (((O.push (.cells [.v (.bool true), .str v1, .v (.bool c1)])).push (.cells [.v (.bool true), .str v2, .v (.bool c2)])).push (.cells [.v (.bool false), .str [], .v (.bool false)])).next = O.next + 3 := rfl
  have hgX := hge (.cells [.v (.bool true), .str v1, .v (.bool c1)]) (.cells [.v (.bool true), .str v2, .v (.bool c2)]) (.cells [.v (.bool false), .str [], .v (.bool false)])
  generalize (((O.push (.cells [.v (.bool true), .str v1, .v (.bool c1)])).push (.cells [.v (.bool true), .str v2, .v (.bool c2)])).push (.cells [.v (.bool false), .str [], .v (.bool false)])) = O1 at *
  clear hge
  refine CallW.rt (Compare_v v1 v2 _ ha hb) (by kernel_rfl) rfl rfl ?_
  rintro _ O2 ⟨rfl, hg2⟩
  have hk12 := (hg2.hp _ (by omega)).trans hk1
  have hk22 := (hg2.hp _ (by omega)).trans hk2
  have hk32 := (hg2.hp _ (by omega)).trans hk3
  have hgZ := hgX.trans hg2
  have hgS := fun y => hgZ.set (k := O.next + 2) (by omega) y
  rcases compareV_cmp.rng v1 v2 with e | e | e
  · rw [e]
    cases up
    · simp (disch := first | omega | (simp only [ds] <;> omega) | fail) only [wk, undefM, Nat.reduceLT, Nat.reduceAdd, Nat.reduceMul, Nat.reduceSub, Nat.reduceBEq, Nat.reduceEqDiff, Int.reduceToNat, reduceIte, tsN, hk12, hk22, hk32, Int.reduceBEq, Int.reduceLT, Int.reduceGT, Int.reduceNeg, Int.reduceEq]
      exact hgS _
    · simp (disch := first | omega | (simp only [ds] <;> omega) | fail) only [wk, undefM, Nat.reduceLT, Nat.reduceAdd, Nat.reduceMul, Nat.reduceSub, Nat.reduceBEq, Nat.reduceEqDiff, Int.reduceToNat, reduceIte, tsN, hk12, hk22, hk32, Int.reduceBEq, Int.reduceLT, Int.reduceGT, Int.reduceNeg, Int.reduceEq]
      exact hgS _
  · rw [e]
    cases c1
    · simp (disch := first | omega | (simp only [ds] <;> omega) | fail) only [wk, undefM, Nat.reduceLT, Nat.reduceAdd, Nat.reduceMul, Nat.reduceSub, Nat.reduceBEq, Nat.reduceEqDiff, Int.reduceToNat, reduceIte, tsN, hk12, hk22, hk32, Int.reduceBEq, Int.reduceLT, Int.reduceGT]
      exact hgS _
    cases c2
    · simp (disch := first | omega | (simp only [ds] <;> omega) | fail) only [wk, undefM, Nat.reduceLT, Nat.reduceAdd, Nat.reduceMul, Nat.reduceSub, Nat.reduceBEq, Nat.reduceEqDiff, Int.reduceToNat, reduceIte, tsN, hk12, hk22, hk32, Int.reduceBEq, Int.reduceLT, Int.reduceGT]
      exact hgS _
    · simp (disch := first | omega | (simp only [ds] <;> omega) | fail) only [wk, undefM, Nat.reduceLT, Nat.reduceAdd, Nat.reduceMul, Nat.reduceSub, Nat.reduceBEq, Nat.reduceEqDiff, Int.reduceToNat, reduceIte, tsN, hk12, hk22, hk32, Int.reduceBEq, Int.reduceLT, Int.reduceGT]
      exact hgS _
  · rw [e]
    cases up
    · simp (disch := first | omega | (simp only [ds] <;> omega) | fail) only [wk, undefM, Nat.reduceLT, Nat.reduceAdd, Nat.reduceMul, Nat.reduceSub, Nat.reduceBEq, Nat.reduceEqDiff, Int.reduceToNat, reduceIte, tsN, hk12, hk22, hk32, Int.reduceBEq, Int.reduceLT, Int.reduceGT]
      exact hgS _
    · simp (disch := first | omega | (simp only [ds] <;> omega) | fail) only [wk, undefM, Nat.reduceLT, Nat.reduceAdd, Nat.reduceMul, Nat.reduceSub, Nat.reduceBEq, Nat.reduceEqDiff, Int.reduceToNat, reduceIte, tsN, hk12, hk22, hk32, Int.reduceBEq, Int.reduceLT, Int.reduceGT]
      exact hgS _
end Go.Proofs.YtbpnmkmlicbfoaaDoor
