/-
  Texts VerO VerQ VerR VerS, one behind the other.
-/
import Derived.Test.YtjbpnhmjnkolbaaDoorMI
/-
  strings.Contains of one byte; pomaceref04.May, version.May, walked.
-/
set_option linter.unusedVariables false
set_option linter.unusedSimpArgs false
namespace Go.Proofs.YtjbpnhmjnkolbaaDoor
open Go.RowKit
set_option maxRecDepth 10000
set_option linter.defProp false in
def tsO := And.intro T9 <| And.intro T3 <| And.intro T4 <| And.intro T5 T37

theorem indexByte_has (s : List UInt8) (c : UInt8) : (0 ≤ Lib.indexByte s c) ↔ c ∈ s := by
  induction s with
  | nil => simp [Lib.indexByte]
  | cons b l ih =>
    have hge := Lib.indexByte_ge l c
    unfold Lib.indexByte
    by_cases hb : b = c
    · subst hb; simp
    · have : (b == c) = false := by simpa using hb
      rw [this]
      simp only [Bool.false_eq_true, if_false, List.mem_cons]
      by_cases h1 : Lib.indexByte l c = -1
      · rw [h1] at ih ⊢
        simp only [beq_self_eq_true, if_true]
        constructor
        · intro h; omega
        · rintro (h | h)
          · exact absurd h.symm hb
          · have := ih.2 h; omega
      · have : (Lib.indexByte l c == -1) = false := by simpa using h1
        rw [this]
        simp only [Bool.false_eq_true, if_false]
        constructor
        · intro _; exact .inr (ih.1 (by omega))
        · rintro (h | h)
          · exact absurd h.symm hb
          · have := ih.2 h; omega
theorem IndexByteString_x (s : List UInt8) (c : UInt8) (O : VH) : ExtOk Tryd.prog 75 [.str s, byM c] O fun m O' => m = mi (Lib.indexByte s c) ∧ O' = O := by
  refine ExtOk.of (ex := Extern.BytealgIndexByte.indexByte) Tryd.func75 (by kernel_rfl) (by kernel_rfl) (by kernel_rfl) (by kernel_rfl) fun G w vs hw hv => ?_
  obtain ⟨u, us, rfl, h1, h2⟩ := hv.inv_cons
  obtain ⟨u2, us2, rfl, h3, h4⟩ := h2.inv_cons
  rw [h4.inv_nil]
  cases h1
  have := h3.v_inv
  subst this
  refine ⟨_, Lib.run_indexByteString _ _ w, ?_⟩
  have e : ((c.toNat : Int).toNat).toUInt8 = c := by simp
  rw [e]
  exact .v rfl
theorem IndexByte_v (s : List UInt8) (c : UInt8) (O : VH) : VF Tryd.prog 68 [.str s, byM c] O (Ret fun m O' => m = mi (Lib.indexByte s c) ∧ O' = O) := by
  refine VF.ofW (n := ⟨8, 0⟩) (rs := [.tmp 4]) tabOk Tryd.func68 rfl rfl rfl (Nat.le_of_ble_eq_true rfl) ?_
  simp only [argEnv, Nat.zero_add, Nat.reduceAdd]
  simp (disch := first | omega | (simp only [ds] <;> omega) | fail) only [ws, undefM, Nat.reduceLT, Nat.reduceAdd, Nat.reduceMul, Nat.reduceSub, Nat.reduceBEq, Nat.reduceEqDiff, Int.reduceToNat, reduceIte]
  refine CallW.ext (IndexByteString_x s c O) rfl ?_
  rintro _ O2 ⟨rfl, rfl⟩
  simp (disch := first | omega | (simp only [ds] <;> omega) | fail) only [ws, undefM, Nat.reduceLT, Nat.reduceAdd, Nat.reduceMul, Nat.reduceSub, Nat.reduceBEq, Nat.reduceEqDiff, Int.reduceToNat, reduceIte]
theorem Index1_v (s : List UInt8) (c : UInt8) (O : VH) : VF Tryd.prog 62 [.str s, .str [c]] O (Ret fun m O' => ∃ n : Int, m = mi n ∧ (0 ≤ n ↔ c ∈ s) ∧ O' = O) := by
  refine VF.ofW (n := ⟨143, 0⟩) (rs := [.tmp 4]) tabOk Tryd.func62 rfl rfl rfl (Nat.le_of_ble_eq_true rfl) ?_
  simp only [argEnv, Nat.zero_add, Nat.reduceAdd]
  cases h : ([c] : List UInt8) == s
  · simp (disch := first | omega | (simp only [ds] <;> omega) | fail) only [ws, undefM, Nat.reduceLT, Nat.reduceAdd, Nat.reduceMul, Nat.reduceSub, Nat.reduceBEq, Nat.reduceEqDiff, Int.reduceToNat, reduceIte, tsO, h, List.length_cons, List.length_nil]
    refine CallW.rt (IndexByte_v s c O) (by kernel_rfl) rfl rfl ?_
    rintro _ O2 ⟨rfl, rfl⟩
    simp (disch := first | omega | (simp only [ds] <;> omega) | fail) only [ws, undefM, Nat.reduceLT, Nat.reduceAdd, Nat.reduceMul, Nat.reduceSub, Nat.reduceBEq, Nat.reduceEqDiff, Int.reduceToNat, reduceIte, tsO]
    exact ⟨_, rfl, indexByte_has s c⟩
  · simp (disch := first | omega | (simp only [ds] <;> omega) | fail) only [ws, undefM, Nat.reduceLT, Nat.reduceAdd, Nat.reduceMul, Nat.reduceSub, Nat.reduceBEq, Nat.reduceEqDiff, Int.reduceToNat, reduceIte, tsO, h, List.length_cons, List.length_nil]
    have : s = [c] := by have := beq_iff_eq.1 h; exact this.symm
    exact ⟨0, rfl, by rw [this]; simp⟩
theorem strIndex1_v (s : List UInt8) (c : UInt8) (O : VH) : VF Tryd.prog 54 [.str s, .str [c]] O (Ret fun m O' => ∃ n : Int, m = mi n ∧ (0 ≤ n ↔ c ∈ s) ∧ O' = O) := by
  refine VF.ofW (n := ⟨8, 0⟩) (rs := [.tmp 4]) tabOk Tryd.func54 rfl rfl rfl (Nat.le_of_ble_eq_true rfl) ?_
  simp only [argEnv, Nat.zero_add, Nat.reduceAdd]
  simp (disch := first | omega | (simp only [ds] <;> omega) | fail) only [ws, undefM, Nat.reduceLT, Nat.reduceAdd, Nat.reduceMul, Nat.reduceSub, Nat.reduceBEq, Nat.reduceEqDiff, Int.reduceToNat, reduceIte]
  refine CallW.rt (Index1_v s c O) (by kernel_rfl) rfl rfl ?_
  rintro _ O2 ⟨n, rfl, h, rfl⟩
  simp (disch := first | omega | (simp only [ds] <;> omega) | fail) only [ws, undefM, Nat.reduceLT, Nat.reduceAdd, Nat.reduceMul, Nat.reduceSub, Nat.reduceBEq, Nat.reduceEqDiff, Int.reduceToNat, reduceIte]
  exact ⟨n, rfl, h⟩
/-- strings.Contains of one byte -/
theorem Contains1_v (s : List UInt8) (c : UInt8) (O : VH) : VF Tryd.prog 41 [.str s, .str [c]] O (Ret fun m O' => m = mb (s.contains c) ∧ O' = O) := by
  refine VF.ofW (n := ⟨9, 0⟩) (rs := [.tmp 4]) tabOk Tryd.func41 rfl rfl rfl (Nat.le_of_ble_eq_true rfl) ?_
  simp only [argEnv, Nat.zero_add, Nat.reduceAdd]
  simp (disch := first | omega | (simp only [ds] <;> omega) | fail) only [ws, undefM, Nat.reduceLT, Nat.reduceAdd, Nat.reduceMul, Nat.reduceSub, Nat.reduceBEq, Nat.reduceEqDiff, Int.reduceToNat, reduceIte]
  refine CallW.rt (strIndex1_v s c O) (by kernel_rfl) rfl rfl ?_
  rintro _ O2 ⟨n, rfl, h, rfl⟩
  simp (disch := first | omega | (simp only [ds] <;> omega) | fail) only [ws, undefM, Nat.reduceLT, Nat.reduceAdd, Nat.reduceMul, Nat.reduceSub, Nat.reduceBEq, Nat.reduceEqDiff, Int.reduceToNat, reduceIte]
  have : s.contains c = decide (n ≥ 0) := by
    rw [Bool.eq_iff_iff, List.contains_iff_mem, decide_eq_true_iff]; exact h.symm
  rw [this]
/-- A byte that a version may bear. -/
def okC (c : UInt8) : Bool := decide ((97 ≤ c.toNat ∧ c.toNat ≤ 122) ∨ (65 ≤ c.toNat ∧ c.toNat ≤ 90) ∨ (48 ≤ c.toNat ∧ c.toNat ≤ 57) ∨ c.toNat = 46 ∨ c.toNat = 45 ∨ c.toNat = 95 ∨ c.toNat = 43)
def mayF (s : List UInt8) : Bool := s.all okC && (decide (1 ≤ s.length) && decide (s.length ≤ 64))
theorem okC_cases (c : UInt8) : ((97 ≤ c.toNat ∧ c.toNat ≤ 122) ∨ (65 ≤ c.toNat ∧ c.toNat ≤ 90) ∨ (48 ≤ c.toNat ∧ c.toNat ≤ 57) ∨ c.toNat = 46 ∨ c.toNat = 45 ∨ c.toNat = 95 ∨ c.toNat = 43) ∨ ((123 ≤ c.toNat) ∨ (91 ≤ c.toNat ∧ c.toNat ≤ 96 ∧ c.toNat ≠ 95) ∨ (58 ≤ c.toNat ∧ c.toNat ≤ 64) ∨ (c.toNat ≤ 47 ∧ c.toNat ≠ 43 ∧ c.toNat ≠ 45 ∧ c.toNat ≠ 46)) := by omega
/-- pomaceref04.May -/
theorem rMay_v (s : List UInt8) (O : VH) (hs : s.length ≤ maxLen) : VF Tryd.prog 20 [.str s] O (Ret fun m O' => m = mb (mayF s) ∧ O' = O) := by
  have hm : (s.length : Int) ≤ 9223372036854775807 := by simp [maxLen] at hs; omega
  refine VF.ofW (n := ⟨61, 0⟩) (rs := [.tmp 2]) tabOk Tryd.func20 rfl rfl rfl (Nat.le_of_ble_eq_true rfl) ?_
  simp only [argEnv, Nat.zero_add, Nat.reduceAdd]
  simp (disch := first | omega | (simp only [ds] <;> omega) | fail) only [ws, undefM, Nat.reduceLT, Nat.reduceAdd, Nat.reduceMul, Nat.reduceSub, Nat.reduceBEq, Nat.reduceEqDiff, Int.reduceToNat, reduceIte, tsO]
  refine WC.loopK tabOk [3] [0] (fun j : Nat => [mi j]) (fun j O' => O' = O ∧ j ≤ s.length ∧ (s.take j).all okC = true) (fun j => s.length - j) (0) rfl rfl ?_ ?_
  · exact ⟨rfl, Nat.zero_le _, rfl⟩
  rintro j O2 ⟨rfl, hj, hall⟩
  by_cases h2 : j < s.length
  · have hc := okC_cases s[j]
    have hgi := List.getElem?_eq_getElem h2
    have hok : okC s[j] = decide ((97 ≤ s[j].toNat ∧ s[j].toNat ≤ 122) ∨ (65 ≤ s[j].toNat ∧ s[j].toNat ≤ 90) ∨ (48 ≤ s[j].toNat ∧ s[j].toNat ≤ 57) ∨ s[j].toNat = 46 ∨ s[j].toNat = 45 ∨ s[j].toNat = 95 ∨ s[j].toNat = 43) := rfl
    have hsn : (s.take (j + 1)).all okC = okC s[j] := by rw [take_snoc _ _ h2, List.all_append, hall]; simp
    generalize hx : s[j] = c at *
    rcases hc with hc | hc
    · have h1 : okC c = true := by rw [hok]; exact decide_eq_true hc
      rw [h1] at hsn
      rcases hc with hc | hc | hc | hc | hc | hc | hc
      all_goals
        simp (disch := first | omega | (simp only [ds] <;> omega) | fail) only [ws, undefM, Nat.reduceLT, Nat.reduceAdd, Nat.reduceMul, Nat.reduceSub, Nat.reduceBEq, Nat.reduceEqDiff, Int.reduceToNat, reduceIte, tsO, hgi, byM_def]
        refine RoundQ.next (j + 1) rfl rfl ?_ (by first | omega | (dsimp only; omega))
        exact ⟨rfl, by omega, hsn⟩
    · have h1 : okC c = false := by rw [hok]; exact decide_eq_false (by omega)
      have : mayF s = false := by
        unfold mayF
        rw [List.all_eq_false.2 ⟨c, by rw [← hx]; exact List.getElem_mem h2, by simp [h1]⟩]; rfl
      rw [this]
      rcases hc with hc | hc | hc | hc
      all_goals
        simp (disch := first | omega | (simp only [ds] <;> omega) | fail) only [ws, undefM, Nat.reduceLT, Nat.reduceAdd, Nat.reduceMul, Nat.reduceSub, Nat.reduceBEq, Nat.reduceEqDiff, Int.reduceToNat, reduceIte, tsO, hgi, byM_def]
  · have hjl : j = s.length := by omega
    subst hjl
    rw [List.take_length] at hall
    unfold mayF
    rw [hall]
    by_cases h0 : 0 < s.length
    · have e : decide (1 ≤ s.length) = true := decide_eq_true h0
      rw [e]
      by_cases h64 : s.length ≤ 64
      · simp (disch := first | omega | (simp only [ds] <;> omega) | fail) only [ws, undefM, Nat.reduceLT, Nat.reduceAdd, Nat.reduceMul, Nat.reduceSub, Nat.reduceBEq, Nat.reduceEqDiff, Int.reduceToNat, reduceIte, tsO]
      · simp (disch := first | omega | (simp only [ds] <;> omega) | fail) only [ws, undefM, Nat.reduceLT, Nat.reduceAdd, Nat.reduceMul, Nat.reduceSub, Nat.reduceBEq, Nat.reduceEqDiff, Int.reduceToNat, reduceIte, tsO]
    · have e : decide (1 ≤ s.length) = false := decide_eq_false (by omega)
      rw [e]
      simp (disch := first | omega | (simp only [ds] <;> omega) | fail) only [ws, undefM, Nat.reduceLT, Nat.reduceAdd, Nat.reduceMul, Nat.reduceSub, Nat.reduceBEq, Nat.reduceEqDiff, Int.reduceToNat, reduceIte, tsO]
/-- version.May -/
theorem May_v (s : List UInt8) (O : VH) (hs : s.length ≤ maxLen) : VF Tryd.prog 22 [.str s] O (Ret fun m O' => m = mb (mayF s) ∧ O.Ge O') := by
  have hm : (s.length : Int) ≤ 9223372036854775807 := by simp [maxLen] at hs; omega
  have hbk := VH.push_new O (.cells (s.map byM))
  have hge0 := (VH.Ge.refl O).push (.cells (s.map byM))
  refine VF.ofW (n := ⟨50, 0⟩) (rs := [.tmp 2]) tabOk Tryd.func22 rfl rfl rfl (Nat.le_of_ble_eq_true rfl) ?_
  simp only [argEnv, Nat.zero_add, Nat.reduceAdd]
  simp (disch := first | omega | (simp only [ds] <;> omega) | fail) only [ws, undefM, Nat.reduceLT, Nat.reduceAdd, Nat.reduceMul, Nat.reduceSub, Nat.reduceBEq, Nat.reduceEqDiff, Int.reduceToNat, reduceIte, tsO]
  refine VL.bytes tabOk (el := 5) (l := s) rfl rfl (by rw [ty9]; rfl) (by rw [ty37]; rfl) (by rw [ty5]; rfl) hs rfl fun cap h1 h2 => WL.sound tabOk ?_
  simp (disch := first | omega | (simp only [ds] <;> omega) | fail) only [ws, undefM, Nat.reduceLT, Nat.reduceAdd, Nat.reduceMul, Nat.reduceSub, Nat.reduceBEq, Nat.reduceEqDiff, Int.reduceToNat, reduceIte, tsO]
  refine WC.loopK tabOk [9] [0, 7, 8] (fun j : Nat => [mi j]) (fun j O' => (O.push (.cells (s.map byM))).Ge O' ∧ j ≤ s.length ∧ (s.take j).all okC = true) (fun j => s.length - j) (0) rfl rfl ?_ ?_
  · exact ⟨VH.Ge.refl _, Nat.zero_le _, rfl⟩
  rintro j O2 ⟨hge2, hj, hall⟩
  have hO2 := (hge2.hp O.next (Nat.lt_succ_self _)).trans hbk
  by_cases h2 : j < s.length
  · have hc := okC_cases s[j]
    have hgi := List.getElem?_eq_getElem h2
    have hok : okC s[j] = decide ((97 ≤ s[j].toNat ∧ s[j].toNat ≤ 122) ∨ (65 ≤ s[j].toNat ∧ s[j].toNat ≤ 90) ∨ (48 ≤ s[j].toNat ∧ s[j].toNat ≤ 57) ∨ s[j].toNat = 46 ∨ s[j].toNat = 45 ∨ s[j].toNat = 95 ∨ s[j].toNat = 43) := rfl
    have hsn : (s.take (j + 1)).all okC = okC s[j] := by rw [take_snoc _ _ h2, List.all_append, hall]; simp
    generalize hx : s[j] = c at *
    have hD : isD c = decide (48 ≤ c.toNat ∧ c.toNat ≤ 57) := by unfold isD; rw [Bool.decide_and]
    have hC : ([46, 45, 95, 43] : List UInt8).contains c = decide (c.toNat = 46 ∨ c.toNat = 45 ∨ c.toNat = 95 ∨ c.toNat = 43) := by
      rw [Bool.eq_iff_iff, List.contains_iff_mem, decide_eq_true_iff]
      simp only [List.mem_cons, List.not_mem_nil, or_false, ← UInt8.toNat_inj]
      rfl
    rcases hc with hc | hc
    · have h1 : okC c = true := by rw [hok]; exact decide_eq_true hc
      rw [h1] at hsn
      rcases hc with hc | hc | hc | hc | hc | hc | hc
      · simp (disch := first | omega | (simp only [ds] <;> omega) | fail) only [ws, undefM, Nat.reduceLT, Nat.reduceAdd, Nat.reduceMul, Nat.reduceSub, Nat.reduceBEq, Nat.reduceEqDiff, Int.reduceToNat, reduceIte, tsO, hgi, hO2, byM_def]
        refine RoundQ.next (j + 1) rfl rfl ?_ (by first | omega | (dsimp only; omega))
        exact ⟨hge2, by omega, hsn⟩
      · simp (disch := first | omega | (simp only [ds] <;> omega) | fail) only [ws, undefM, Nat.reduceLT, Nat.reduceAdd, Nat.reduceMul, Nat.reduceSub, Nat.reduceBEq, Nat.reduceEqDiff, Int.reduceToNat, reduceIte, tsO, hgi, hO2, byM_def]
        refine RoundQ.next (j + 1) rfl rfl ?_ (by first | omega | (dsimp only; omega))
        exact ⟨hge2, by omega, hsn⟩
      · rw [decide_eq_true (by omega)] at hD
        simp (disch := first | omega | (simp only [ds] <;> omega) | fail) only [ws, undefM, Nat.reduceLT, Nat.reduceAdd, Nat.reduceMul, Nat.reduceSub, Nat.reduceBEq, Nat.reduceEqDiff, Int.reduceToNat, reduceIte, tsO, hgi, hO2, byM_def]
        refine CallW.rt (IsDigit_v c _) (by kernel_rfl) rfl rfl ?_
        rintro _ O3 ⟨rfl, rfl⟩
        rw [hD]
        simp (disch := first | omega | (simp only [ds] <;> omega) | fail) only [ws, undefM, Nat.reduceLT, Nat.reduceAdd, Nat.reduceMul, Nat.reduceSub, Nat.reduceBEq, Nat.reduceEqDiff, Int.reduceToNat, reduceIte, tsO]
        refine RoundQ.next (j + 1) rfl rfl ?_ (by first | omega | (dsimp only; omega))
        exact ⟨hge2, by omega, hsn⟩
      all_goals
        rw [decide_eq_false (by omega)] at hD
        rw [decide_eq_true (by omega)] at hC
        simp (disch := first | omega | (simp only [ds] <;> omega) | fail) only [ws, undefM, Nat.reduceLT, Nat.reduceAdd, Nat.reduceMul, Nat.reduceSub, Nat.reduceBEq, Nat.reduceEqDiff, Int.reduceToNat, reduceIte, tsO, hgi, hO2, byM_def]
        refine CallW.rt (IsDigit_v c _) (by kernel_rfl) rfl rfl ?_
        rintro _ O3 ⟨rfl, rfl⟩
        rw [hD]
        simp (disch := first | omega | (simp only [ds] <;> omega) | fail) only [ws, undefM, Nat.reduceLT, Nat.reduceAdd, Nat.reduceMul, Nat.reduceSub, Nat.reduceBEq, Nat.reduceEqDiff, Int.reduceToNat, reduceIte, tsO]
        refine VL.textS tabOk (el := 5) (l := [c]) rfl rfl (by rw [ty37]; rfl) (by rw [ty9]; rfl) (by rw [ty5]; rfl) rfl rfl rfl (WL.sound tabOk ?_)
        simp (disch := first | omega | (simp only [ds] <;> omega) | fail) only [ws, undefM, Nat.reduceLT, Nat.reduceAdd, Nat.reduceMul, Nat.reduceSub, Nat.reduceBEq, Nat.reduceEqDiff, Int.reduceToNat, reduceIte, tsO]
        refine CallW.rt (Contains1_v [46, 45, 95, 43] c _) (by kernel_rfl) rfl rfl ?_
        rintro _ O4 ⟨rfl, rfl⟩
        rw [hC]
        simp (disch := first | omega | (simp only [ds] <;> omega) | fail) only [ws, undefM, Nat.reduceLT, Nat.reduceAdd, Nat.reduceMul, Nat.reduceSub, Nat.reduceBEq, Nat.reduceEqDiff, Int.reduceToNat, reduceIte, tsO]
        refine RoundQ.next (j + 1) rfl rfl ?_ (by first | omega | (dsimp only; omega))
        exact ⟨hge2, by omega, hsn⟩
    · have h1 : okC c = false := by rw [hok]; exact decide_eq_false (by omega)
      have : mayF s = false := by
        unfold mayF
        rw [List.all_eq_false.2 ⟨c, by rw [← hx]; exact List.getElem_mem h2, by simp [h1]⟩]; rfl
      rw [this]
      rw [decide_eq_false (by omega)] at hD hC
      rcases hc with hc | hc | hc | hc
      all_goals
        simp (disch := first | omega | (simp only [ds] <;> omega) | fail) only [ws, undefM, Nat.reduceLT, Nat.reduceAdd, Nat.reduceMul, Nat.reduceSub, Nat.reduceBEq, Nat.reduceEqDiff, Int.reduceToNat, reduceIte, tsO, hgi, hO2, byM_def]
        refine CallW.rt (IsDigit_v c _) (by kernel_rfl) rfl rfl ?_
        rintro _ O3 ⟨rfl, rfl⟩
        rw [hD]
        simp (disch := first | omega | (simp only [ds] <;> omega) | fail) only [ws, undefM, Nat.reduceLT, Nat.reduceAdd, Nat.reduceMul, Nat.reduceSub, Nat.reduceBEq, Nat.reduceEqDiff, Int.reduceToNat, reduceIte, tsO]
        refine VL.textS tabOk (el := 5) (l := [c]) rfl rfl (by rw [ty37]; rfl) (by rw [ty9]; rfl) (by rw [ty5]; rfl) rfl rfl rfl (WL.sound tabOk ?_)
        simp (disch := first | omega | (simp only [ds] <;> omega) | fail) only [ws, undefM, Nat.reduceLT, Nat.reduceAdd, Nat.reduceMul, Nat.reduceSub, Nat.reduceBEq, Nat.reduceEqDiff, Int.reduceToNat, reduceIte, tsO]
        refine CallW.rt (Contains1_v [46, 45, 95, 43] c _) (by kernel_rfl) rfl rfl ?_
        rintro _ O4 ⟨rfl, rfl⟩
        rw [hC]
        simp (disch := first | omega | (simp only [ds] <;> omega) | fail) only [ws, undefM, Nat.reduceLT, Nat.reduceAdd, Nat.reduceMul, Nat.reduceSub, Nat.reduceBEq, Nat.reduceEqDiff, Int.reduceToNat, reduceIte, tsO]
        exact hge0.trans hge2
  · have hjl : j = s.length := by omega
    subst hjl
    rw [List.take_length] at hall
    unfold mayF
    rw [hall]
    by_cases h0 : 0 < s.length
    · have e : decide (1 ≤ s.length) = true := decide_eq_true h0
      rw [e]
      by_cases h64 : s.length ≤ 64
      · simp (disch := first | omega | (simp only [ds] <;> omega) | fail) only [ws, undefM, Nat.reduceLT, Nat.reduceAdd, Nat.reduceMul, Nat.reduceSub, Nat.reduceBEq, Nat.reduceEqDiff, Int.reduceToNat, reduceIte, tsO]
        exact hge0.trans hge2
      · simp (disch := first | omega | (simp only [ds] <;> omega) | fail) only [ws, undefM, Nat.reduceLT, Nat.reduceAdd, Nat.reduceMul, Nat.reduceSub, Nat.reduceBEq, Nat.reduceEqDiff, Int.reduceToNat, reduceIte, tsO]
        exact hge0.trans hge2
    · have e : decide (1 ≤ s.length) = false := decide_eq_false (by omega)
      rw [e]
      simp (disch := first | omega | (simp only [ds] <;> omega) | fail) only [ws, undefM, Nat.reduceLT, Nat.reduceAdd, Nat.reduceMul, Nat.reduceSub, Nat.reduceBEq, Nat.reduceEqDiff, Int.reduceToNat, reduceIte, tsO]
      exact hge0.trans hge2
end Go.Proofs.YtjbpnhmjnkolbaaDoor

/-
  The pieces of a text, told from its front: plain.
-/
set_option linter.unusedVariables false
set_option linter.unusedSimpArgs false
namespace Go.Proofs.YtjbpnhmjnkolbaaDoor
open Go.RowKit

/-- hy: does a hyphen stand ahead of what is being read; cur: what is read of it. -/
def cutR : Bool → List UInt8 → List UInt8 → List Piece
  | hy, cur, [] => [(cur, hy, false)]
  | hy, cur, c :: r => if isMk c then (cur, hy, false) :: cutR (c == 45) [] r
    else match cur.getLast? with
      | none => cutR hy [c] r
      | some d => if isD c = isD d then cutR hy (cur ++ [c]) r else (cur, hy, true) :: cutR true [c] r
theorem cutR_nil (hy : Bool) (cur : List UInt8) : cutR hy cur [] = [(cur, hy, false)] := rfl
theorem cutR_mark {hy : Bool} {cur r : List UInt8} {c : UInt8} (h : isMk c = true) : cutR hy cur (c :: r) = (cur, hy, false) :: cutR (c == 45) [] r := by rw [cutR, if_pos h]
/-- The state behind i bytes, told by what is left. -/
theorem cutS_cutR (s : List UInt8) : ∀ i, i ≤ s.length → (cutS s i).1 ++ cutR (cutS s i).2.2 ((s.drop (cutS s i).2.1).take (i - (cutS s i).2.1)) (s.drop i) = cutR false [] s
  | 0, _ => by simp [cutS]
  | i + 1, h => by
    have ih := cutS_cutR s i (by omega)
    have hb := (cutS_b s i).1
    rw [cutS_succ, if_pos (by omega)]
    rcases hc : cutS s i with ⟨L, fr, hy⟩
    rw [hc] at ih hb
    dsimp only at ih hb ⊢
    have hi : i < s.length := by omega
    rw [getD_at hi]
    rw [List.drop_eq_getElem_cons hi] at ih
    rw [← ih]
    generalize hcur : (s.drop fr).take (i - fr) = cur at ih
    have hsucc : (s.drop fr).take (i + 1 - fr) = cur ++ [s[i]] := by
      rw [show i + 1 - fr = (i - fr) + 1 from by omega, List.take_add_one, hcur, List.getElem?_drop, show fr + (i - fr) = i from by omega, List.getElem?_eq_getElem hi]; rfl
    by_cases hm : isMk s[i] = true
    · rw [if_pos hm, cutR_mark hm]
      simp
    · rw [if_neg hm]
      have hlen : cur.length = i - fr := by rw [← hcur]; simp; omega
      by_cases hfr : fr < i
      · have hne : cur ≠ [] := fun e => by rw [e] at hlen; simp at hlen; omega
        have hlast : cur.getLast? = some s[i - 1] := by
          rw [List.getLast?_eq_getElem?, hlen, ← hcur, List.getElem?_take, if_pos (by omega), List.getElem?_drop, show fr + (i - fr - 1) = i - 1 from by omega, List.getElem?_eq_getElem (by omega)]
        rw [getD_at (show i - 1 < s.length by omega)]
        by_cases hd : isD s[i] = isD s[i - 1]
        · rw [if_neg (fun h => h.2 hd)]
          simp only [hsucc]
          conv => rhs; rw [cutR, if_neg hm, hlast]
          simp only [hd, if_true]
        · rw [if_pos ⟨hfr, hd⟩]
          conv => rhs; rw [cutR, if_neg hm, hlast]
          simp only [hd, if_false]
          have e1 : (s.drop i).take 1 = [s[i]] := by rw [List.drop_eq_getElem_cons hi]; rfl
          rw [show i + 1 - i = 1 from by omega, e1]
          simp
      · have e : fr = i := by omega
        subst e
        have hnil : cur = [] := List.eq_nil_of_length_eq_zero (by omega)
        subst hnil
        rw [if_neg (fun h => hfr h.1)]
        simp only [hsucc]
        conv => rhs; rw [cutR, if_neg hm]
        rfl
theorem cutF_cutR (s : List UInt8) : cutF s = cutR false [] s := by
  have h := cutS_cutR s s.length (Nat.le_refl _)
  unfold cutF
  rw [cutS_succ, if_neg (by omega), ← h, List.drop_length, cutR_nil]
/-- A text that bears no mark and whose bytes are all digits, or none is. -/
def even (l : List UInt8) : Prop := (∀ c ∈ l, isMk c = false) ∧ ∀ c ∈ l, ∀ d ∈ l, isD c = isD d
theorem even_snoc {l : List UInt8} {c d : UInt8} (h : even l) (hl : l.getLast? = some d) (hm : isMk c = false) (hd : isD c = isD d) : even (l ++ [c]) := by
  have hmem := List.mem_of_getLast? hl
  constructor
  · intro x hx
    rcases List.mem_append.1 hx with h1 | h1
    · exact h.1 x h1
    · rw [List.mem_singleton.1 h1]; exact hm
  · intro x hx y hy
    have key : ∀ z ∈ l ++ [c], isD z = isD d := fun z hz => by
      rcases List.mem_append.1 hz with h1 | h1
      · exact h.2 z h1 d hmem
      · rw [List.mem_singleton.1 h1]; exact hd
    rw [key x hx, key y hy]
/-- Each piece is even; where none stands behind it, it is closed by an end. -/
theorem cutR_even : ∀ (r : List UInt8) (hy : Bool) (cur : List UInt8), even cur → ∀ p ∈ cutR hy cur r, even p.1
  | [], hy, cur, h, p, hp => by rw [cutR_nil, List.mem_singleton] at hp; rw [hp]; exact h
  | c :: r, hy, cur, h, p, hp => by
    by_cases hm : isMk c = true
    · rw [cutR_mark hm, List.mem_cons] at hp
      rcases hp with rfl | hp
      · exact h
      · exact cutR_even r _ [] ⟨fun _ h => (by cases h), fun _ h => (by cases h)⟩ p hp
    · have hm' : isMk c = false := by simpa using hm
      have one : even [c] := ⟨fun x hx => by rw [List.mem_singleton.1 hx]; exact hm', fun x hx y hy => by rw [List.mem_singleton.1 hx, List.mem_singleton.1 hy]⟩
      rw [cutR, if_neg hm] at hp
      cases hl : cur.getLast? with
      | none => rw [hl] at hp; exact cutR_even r _ _ one p hp
      | some d =>
        rw [hl] at hp
        dsimp only at hp
        split at hp
        · exact cutR_even r _ _ (even_snoc h hl hm' ‹_›) p hp
        · rcases List.mem_cons.1 hp with rfl | hp
          · exact h
          · exact cutR_even r _ _ one p hp
/-- An even text, then a mark or the end, is one piece. -/
theorem cutR_run : ∀ (l cur r : List UInt8) (hy : Bool), even (cur ++ l) → cutR hy cur (l ++ r) = cutR hy (cur ++ l) r
  | [], cur, r, hy, _ => by simp
  | c :: l, cur, r, hy, h => by
    have hm : isMk c = false := h.1 c (by simp)
    have hrec := cutR_run l (cur ++ [c]) r hy (by rw [List.append_assoc]; exact h)
    rw [List.append_assoc, List.singleton_append] at hrec
    rw [← hrec, List.cons_append, cutR, if_neg (by rw [hm]; simp)]
    cases hl : cur.getLast? with
    | none =>
      have : cur = [] := List.getLast?_eq_none_iff.1 hl
      subst this; rfl
    | some d =>
      have hd : isD c = isD d := h.2 c (by simp) d (List.mem_append_left _ (List.mem_of_getLast? hl))
      simp only [hd, if_true]
/-- A text, then a mark, then more. -/
theorem cutR_app : ∀ (l cur r : List UInt8) (hy : Bool) (c : UInt8), isMk c = true → cutR hy cur (l ++ c :: r) = cutR hy cur l ++ cutR (c == 45) [] r
  | [], cur, r, hy, c, hc => by rw [List.nil_append, cutR_mark hc, cutR_nil]; rfl
  | a :: l, cur, r, hy, c, hc => by
    rw [List.cons_append]
    by_cases hm : isMk a = true
    · rw [cutR_mark hm, cutR_mark hm, cutR_app l [] r _ c hc]; rfl
    · rw [cutR, if_neg hm, cutR, if_neg hm]
      cases cur.getLast? with
      | none => exact cutR_app l [a] r hy c hc
      | some d =>
        dsimp only
        split
        · exact cutR_app l _ r hy c hc
        · rw [cutR_app l [a] r true c hc]; rfl
theorem cutF_app (l r : List UInt8) (c : UInt8) (hc : isMk c = true) : cutF (l ++ c :: r) = cutF l ++ cutR (c == 45) [] r := by rw [cutF_cutR, cutF_cutR, cutR_app _ _ _ _ _ hc]
/-- Null parts at the end change nothing. -/
theorem trimT_null (n : Prt) (hn : n.2.2 = []) : ∀ L : List Prt, trimT (L ++ [n]) = trimT L
  | [] => by simp [trimT, hn]
  | p :: L => by rw [List.cons_append, trimT, trimT, trimT_null n hn L]
end Go.Proofs.YtjbpnhmjnkolbaaDoor

/-
  The law VersionNulls: plain, and walked.
-/
set_option linter.unusedVariables false
set_option linter.unusedSimpArgs false
namespace Go.Proofs.YtjbpnhmjnkolbaaDoor
open Go.RowKit
set_option maxRecDepth 10000

/-- The parts of a text of small letters. -/
def partsL (l : List UInt8) : List Prt := tailT (firstF ((cutF l).map mkV))
theorem partsV_L (s : List UInt8) : partsV s = partsL (s.map lo) := rfl
theorem compareV_parts {a b : List UInt8} (h : partsV a = partsV b) : compareV a b = 0 := by
  have := compareV_cmp.refl a
  unfold compareV at this ⊢
  rw [← h]; exact this
theorem partsL_null (l w : List UInt8) (c : UInt8) (hc : isMk c = true) (hw : even w) (hn : ∀ hy, (mkV (w, hy, false)).2.2 = []) : partsL (l ++ c :: w) = partsL l := by
  unfold partsL
  have h1 : cutR (c == 45) [] w = [(w, c == 45, false)] := by
    have := cutR_run w [] [] (c == 45) (by simpa using hw)
    simpa [cutR_nil] using this
  rw [cutF_app l w c hc, h1, List.map_append]
  have hne := cutF_ne l
  cases hL : cutF l with
  | nil => exact absurd hL hne
  | cons p r =>
    simp only [List.map_cons, List.map_nil, List.cons_append, firstF, tailT]
    rw [trimT_null _ (hn _)]
def sufs : List (List UInt8) := [[], [46, 48], [45, 48], [46, 103, 97], [45, 102, 105, 110, 97, 108], [46, 48, 46, 48], [45, 82, 69, 76, 69, 65, 83, 69], [46, 48, 48]]
theorem even_dec (w : List UInt8) (h : ((w.all fun c => !isMk c) && (w.all fun c => w.all fun d => isD c == isD d)) = true) : even w := by
  simp only [Bool.and_eq_true, List.all_eq_true] at h
  exact ⟨fun c hc => by simpa using h.1 c hc, fun c hc d hd => by simpa using h.2 c hc d hd⟩
theorem parts_suf (s x : List UInt8) (hx : x ∈ sufs) : partsV (s ++ x) = partsV s := by
  rw [partsV_L, partsV_L, List.map_append]
  generalize s.map lo = l
  have one : ∀ (c : UInt8) (w : List UInt8) (l : List UInt8), isMk c = true → ((w.all fun c => !isMk c) && (w.all fun c => w.all fun d => isD c == isD d)) = true → (mkV (w, true, false)).2.2 = [] → partsL (l ++ c :: w) = partsL l := fun c w l h1 h2 h3 =>
    partsL_null l w c h1 (even_dec w h2) (fun hy => h3)
  simp only [sufs, List.mem_cons, List.not_mem_nil, or_false] at hx
  rcases hx with rfl | rfl | rfl | rfl | rfl | rfl | rfl | rfl
  · simp
  · exact one 46 [48] l rfl rfl rfl
  · exact one 45 [48] l rfl rfl rfl
  · exact one 46 [103, 97] l rfl rfl rfl
  · exact one 45 [102, 105, 110, 97, 108] l rfl rfl rfl
  · have := one 46 [48] (l ++ [46, 48]) rfl rfl rfl
    rw [List.append_assoc] at this
    exact this.trans (one 46 [48] l rfl rfl rfl)
  · exact one 45 [114, 101, 108, 101, 97, 115, 101] l rfl rfl rfl
  · exact one 46 [48, 48] l rfl rfl rfl
theorem partsL_front (a b l : List UInt8) (ha : even a) (hb : even b) (h : mkV (a, false, false) = mkV (b, false, false)) : partsL (a ++ 46 :: l) = partsL (b ++ 46 :: l) := by
  unfold partsL
  have h1 : ∀ w, even w → cutF w = [(w, false, false)] := fun w hw => by
    rw [cutF_cutR]
    have := cutR_run w [] [] false (by simpa using hw)
    simpa [cutR_nil] using this
  rw [cutF_app a l 46 rfl, cutF_app b l 46 rfl, h1 a ha, h1 b hb, List.map_append, List.map_append]
  simp [h]
theorem parts_one (s : List UInt8) : partsV ([49, 46] ++ s) = partsV ([48, 49, 46] ++ s) := by
  rw [partsV_L, partsV_L, List.map_append, List.map_append]
  exact partsL_front [49] [48, 49] (s.map lo) (even_dec _ rfl) (even_dec _ rfl) rfl
theorem lo_up (c : UInt8) (h0 : 97 ≤ c.toNat) (h1 : c.toNat ≤ 122) : lo (UInt8.ofNat (c.toNat - 32)) = lo c ∧ (UInt8.ofNat (c.toNat - 32)).toNat = c.toNat - 32 := by
  have e : (UInt8.ofNat (c.toNat - 32)).toNat = c.toNat - 32 := by rw [UInt8.toNat_ofNat']; omega
  refine ⟨?_, e⟩
  rw [lo, if_pos (by rw [e]; omega), lo, if_neg (by omega), e]
  rw [← UInt8.toNat_inj, UInt8.toNat_ofNat']; omega
set_option linter.defProp false in
def tsR := And.intro T9 <| And.intro T3 <| And.intro T4 <| And.intro T5 <| And.intro T37 <| And.intro T38 T36

/-- pomacelaw04.VersionNulls -/
theorem nulls_law (s : List UInt8) (how : Int) (O : VH) (hs : s.length ≤ maxLen) (hh : InK .u64 how) : VF Tryd.prog 8 [.str s, .v (.int .u64 how)] O (Ret fun m O' => m = mb true) := by
  have hh0 : 0 ≤ how := by have := hh.1; simpa [IntKind.min, IntKind.signed] using this
  have hbk := VH.push_new O (.cells (s.map byM))
  have hge0 := (VH.Ge.refl O).push (.cells (s.map byM))
  refine VF.ofW (n := ⟨66, 0⟩) (rs := [.tmp 4]) tabOk Tryd.func8 rfl rfl rfl (Nat.le_of_ble_eq_true rfl) ?_
  simp only [argEnv, Nat.zero_add, Nat.reduceAdd]
  simp (disch := first | omega | (simp only [ds] <;> omega) | fail) only [ws, undefM, Nat.reduceLT, Nat.reduceAdd, Nat.reduceMul, Nat.reduceSub, Nat.reduceBEq, Nat.reduceEqDiff, Int.reduceToNat, reduceIte, tsR]
  refine CallW.rt (rMay_v s _ hs) (by kernel_rfl) rfl rfl ?_
  rintro _ O1 ⟨rfl, rfl⟩
  cases hmay : mayF s
  · simp (disch := first | omega | (simp only [ds] <;> omega) | fail) only [ws, undefM, Nat.reduceLT, Nat.reduceAdd, Nat.reduceMul, Nat.reduceSub, Nat.reduceBEq, Nat.reduceEqDiff, Int.reduceToNat, reduceIte, tsR]
    refine CallW.rt (lives_v _) (by kernel_rfl) rfl rfl ?_
    rintro _ O5 ⟨rfl, hg5⟩
    simp (disch := first | omega | (simp only [ds] <;> omega) | fail) only [ws, undefM, Nat.reduceLT, Nat.reduceAdd, Nat.reduceMul, Nat.reduceSub, Nat.reduceBEq, Nat.reduceEqDiff, Int.reduceToNat, reduceIte, tsR]
  · have h64 : s.length ≤ 64 := by
      unfold mayF at hmay
      simp only [Bool.and_eq_true, decide_eq_true_eq] at hmay
      exact hmay.2.2
    simp (disch := first | omega | (simp only [ds] <;> omega) | fail) only [ws, undefM, Nat.reduceLT, Nat.reduceAdd, Nat.reduceMul, Nat.reduceSub, Nat.reduceBEq, Nat.reduceEqDiff, Int.reduceToNat, reduceIte, tsR]
    refine VL.bytes tabOk (el := 5) (l := s) rfl rfl (by rw [ty9]; rfl) (by rw [ty37]; rfl) (by rw [ty5]; rfl) hs rfl fun cap h1 h2 => WL.sound tabOk ?_
    simp (disch := first | omega | (simp only [ds] <;> omega) | fail) only [ws, undefM, Nat.reduceLT, Nat.reduceAdd, Nat.reduceMul, Nat.reduceSub, Nat.reduceBEq, Nat.reduceEqDiff, Int.reduceToNat, reduceIte, tsR]
    generalize hb : O1.next = b at *
    refine WC.loopK tabOk [17] [0, 1, 5, 15, 16] (fun j : Nat => [mi j]) (fun j O' => j ≤ s.length ∧ ∃ u : List UInt8, u.length = s.length ∧ u.map lo = s.map lo ∧ O'.hp b = some (.cells (u.map byM))) (fun j => s.length - j) (0) rfl rfl ?_ ?_
    · exact ⟨Nat.zero_le _, s, rfl, rfl, hbk⟩
    rintro j O2 ⟨hj, u, hul, hulo, hO2⟩
    by_cases h2 : j < s.length
    · have hju : j < u.length := by omega
      have hgi := List.getElem?_eq_getElem hju
      have hcl : (u.map byM).length = s.length := by rw [List.length_map, hul]
      generalize hx : u[j] = c at *
      have hskip : ∃ u : List UInt8, u.length = s.length ∧ u.map lo = s.map lo ∧ O2.hp b = some (.cells (u.map byM)) := ⟨u, hul, hulo, hO2⟩
      by_cases c1 : 97 ≤ c.toNat
      · by_cases c2 : c.toNat ≤ 122
        · simp (disch := first | omega | (simp only [ds] <;> omega) | fail) only [ws, undefM, Nat.reduceLT, Nat.reduceAdd, Nat.reduceMul, Nat.reduceSub, Nat.reduceBEq, Nat.reduceEqDiff, Int.reduceToNat, reduceIte, tsR, hgi, hO2, byM_def, Int.tmod_eq_emod_of_nonneg]
          generalize hX : IntKind.wrap _ _ = X
          by_cases c3 : X = 1
          · obtain ⟨e1, e2⟩ := lo_up c c1 c2
            simp (disch := first | omega | (simp only [ds] <;> omega) | fail) only [ws, undefM, Nat.reduceLT, Nat.reduceAdd, Nat.reduceMul, Nat.reduceSub, Nat.reduceBEq, Nat.reduceEqDiff, Int.reduceToNat, reduceIte, tsR, hgi, hO2, byM_def, Int.tmod_eq_emod_of_nonneg]
            refine RoundQ.next (j + 1) rfl rfl ?_ (by first | omega | (dsimp only; omega))
            refine ⟨by omega, u.set j (UInt8.ofNat (c.toNat - 32)), by simpa using hul, ?_, ?_⟩
            · rw [List.map_set, e1, ← hx, ← hulo]
              apply List.ext_getElem?
              intro i
              rw [List.getElem?_set]
              split
              · rename_i hi; subst hi; simp [hju]
              · rfl
            · rw [VH.set_get, List.map_set, byM_def, e2]
              congr 5
              omega
          · simp (disch := first | omega | (simp only [ds] <;> omega) | fail) only [ws, undefM, Nat.reduceLT, Nat.reduceAdd, Nat.reduceMul, Nat.reduceSub, Nat.reduceBEq, Nat.reduceEqDiff, Int.reduceToNat, reduceIte, tsR, hgi, hO2, byM_def, Int.tmod_eq_emod_of_nonneg]
            refine RoundQ.next (j + 1) rfl rfl ?_ (by first | omega | (dsimp only; omega))
            exact ⟨by omega, hskip⟩
        · simp (disch := first | omega | (simp only [ds] <;> omega) | fail) only [ws, undefM, Nat.reduceLT, Nat.reduceAdd, Nat.reduceMul, Nat.reduceSub, Nat.reduceBEq, Nat.reduceEqDiff, Int.reduceToNat, reduceIte, tsR, hgi, hO2, byM_def, Int.tmod_eq_emod_of_nonneg]
          refine RoundQ.next (j + 1) rfl rfl ?_ (by first | omega | (dsimp only; omega))
          exact ⟨by omega, hskip⟩
      · simp (disch := first | omega | (simp only [ds] <;> omega) | fail) only [ws, undefM, Nat.reduceLT, Nat.reduceAdd, Nat.reduceMul, Nat.reduceSub, Nat.reduceBEq, Nat.reduceEqDiff, Int.reduceToNat, reduceIte, tsR, hgi, hO2, byM_def, Int.tmod_eq_emod_of_nonneg]
        refine RoundQ.next (j + 1) rfl rfl ?_ (by first | omega | (dsimp only; omega))
        exact ⟨by omega, hskip⟩
    · simp (disch := first | omega | (simp only [ds] <;> omega) | fail) only [ws, undefM, Nat.reduceLT, Nat.reduceAdd, Nat.reduceMul, Nat.reduceSub, Nat.reduceBEq, Nat.reduceEqDiff, Int.reduceToNat, reduceIte, tsR]
      obtain ⟨q, hq, hqe⟩ : ∃ q : Nat, q < 8 ∧ (how.fdiv (2 ^ min 16 IntKind.u64.bits)).tmod 8 = q := by
        have h0 : 0 ≤ how.fdiv (2 ^ min 16 IntKind.u64.bits) := by
          rw [Int.fdiv_eq_ediv_of_nonneg _ (by decide)]
          exact Int.ediv_nonneg hh0 (by decide)
        rw [Int.tmod_eq_emod_of_nonneg h0]
        exact ⟨((how.fdiv (2 ^ min 16 IntKind.u64.bits)) % 8).toNat, by omega, by omega⟩
      obtain ⟨x, hx, hxm⟩ : ∃ x, [MV.str [], MV.str [46, 48], MV.str [45, 48], MV.str [46, 103, 97], MV.str [45, 102, 105, 110, 97, 108], MV.str [46, 48, 46, 48], MV.str [45, 82, 69, 76, 69, 65, 83, 69], MV.str [46, 48, 48]][q]? = some (MV.str x) ∧ x ∈ sufs := by
        have hl : q < sufs.length := hq
        refine ⟨sufs[q], ?_, List.getElem_mem hl⟩
        have : (sufs.map MV.str)[q]? = some (MV.str sufs[q]) := by rw [List.getElem?_map, List.getElem?_eq_getElem hl]; rfl
        exact this
      have hxl : x.length ≤ 8 := by
        simp only [sufs, List.mem_cons, List.not_mem_nil, or_false] at hxm
        rcases hxm with rfl | rfl | rfl | rfl | rfl | rfl | rfl | rfl <;> simp
      have hpq : compareV s (u ++ x) = 0 := by
        apply compareV_parts
        rw [parts_suf u x hxm, partsV_L, partsV_L, hulo]
      have hp1 : compareV (49 :: 46 :: s) (48 :: 49 :: 46 :: s) = 0 := compareV_parts (parts_one s)
      refine VC.draw (by kernel_rfl) ?_
      refine VAny.pre1 tabOk 0 rfl (by kernel_rfl) (by kernel_rfl) (by kernel_rfl) rfl rfl ?_
      simp (disch := first | omega | (simp only [ds] <;> omega) | fail) only [ws, undefM, Nat.reduceLT, Nat.reduceAdd, Nat.reduceMul, Nat.reduceSub, Nat.reduceBEq, Nat.reduceEqDiff, Int.reduceToNat, reduceIte, PreK_some, putM_some, tsR]
      refine VAny.pre1 tabOk 3 rfl (by kernel_rfl) (by kernel_rfl) (by kernel_rfl) rfl rfl ?_
      simp (disch := first | omega | (simp only [ds] <;> omega) | fail) only [ws, undefM, Nat.reduceLT, Nat.reduceAdd, Nat.reduceMul, Nat.reduceSub, Nat.reduceBEq, Nat.reduceEqDiff, Int.reduceToNat, reduceIte, PreK_some, putM_some, tsR]
      refine VAny.pre1 tabOk 4 rfl (by kernel_rfl) (by kernel_rfl) (by kernel_rfl) rfl rfl ?_
      simp (disch := first | omega | (simp only [ds] <;> omega) | fail) only [ws, undefM, Nat.reduceLT, Nat.reduceAdd, Nat.reduceMul, Nat.reduceSub, Nat.reduceBEq, Nat.reduceEqDiff, Int.reduceToNat, reduceIte, PreK_some, putM_some, tsR]
      refine VAny.pre1 tabOk 5 rfl (by kernel_rfl) (by kernel_rfl) (by kernel_rfl) rfl rfl ?_
      simp (disch := first | omega | (simp only [ds] <;> omega) | fail) only [ws, undefM, Nat.reduceLT, Nat.reduceAdd, Nat.reduceMul, Nat.reduceSub, Nat.reduceBEq, Nat.reduceEqDiff, Int.reduceToNat, reduceIte, PreK_some, putM_some, tsR, hqe]
      refine VAny.all (rs := [1, 2]) (by kernel_rfl) (by simp) fun i hi => ?_
      simp only [List.mem_cons, List.not_mem_nil, or_false] at hi
      rcases hi with rfl | rfl
      · refine VOne.st rfl rfl rfl (textA_M tabOk (el := 5) (l := u) rfl (by rw [ty37]; rfl) (by rw [ty9]; rfl) (by rw [ty5]; rfl) hO2 hul.symm (by simp [← hul, List.take_of_length_le])) ?_
        rintro _ _ ⟨rfl, rfl⟩
        refine VAny.plan tabOk [(2, .one), (6, .sil), (7, .one), (8, .sil), (9, .sil)] (by kernel_rfl) (by kernel_rfl) rfl ?_
        simp (disch := first | omega | (simp only [ds] <;> omega) | fail) only [ws, undefM, Nat.reduceLT, Nat.reduceAdd, Nat.reduceMul, Nat.reduceSub, Nat.reduceBEq, Nat.reduceEqDiff, Int.reduceToNat, reduceIte, tsR, hx]
        refine CallW.rt (Compare_v _ _ _ (by omega) (by simp only [List.length_append]; omega)) (by kernel_rfl) rfl rfl ?_
        rintro _ OA ⟨rfl, hgA⟩
        simp (disch := first | omega | (simp only [ds] <;> omega) | fail) only [ws, undefM, Nat.reduceLT, Nat.reduceAdd, Nat.reduceMul, Nat.reduceSub, Nat.reduceBEq, Nat.reduceEqDiff, Int.reduceToNat, reduceIte, tsR, hpq]
        refine CallW.rt (Compare_v _ _ _ (by simp only [List.length_append, List.length_cons, List.length_nil]; omega) (by simp only [List.length_append, List.length_cons, List.length_nil]; omega)) (by kernel_rfl) rfl rfl ?_
        rintro _ OB ⟨rfl, hgB⟩
        simp (disch := first | omega | (simp only [ds] <;> omega) | fail) only [ws, undefM, Nat.reduceLT, Nat.reduceAdd, Nat.reduceMul, Nat.reduceSub, Nat.reduceBEq, Nat.reduceEqDiff, Int.reduceToNat, reduceIte, tsR, hp1]
        refine CallW.rt (lives_v _) (by kernel_rfl) rfl rfl ?_
        rintro _ OC ⟨rfl, hgC⟩
        simp (disch := first | omega | (simp only [ds] <;> omega) | fail) only [ws, undefM, Nat.reduceLT, Nat.reduceAdd, Nat.reduceMul, Nat.reduceSub, Nat.reduceBEq, Nat.reduceEqDiff, Int.reduceToNat, reduceIte, tsR]
      · refine VOne.o1 tabOk rfl rfl rfl ?_
        simp (disch := first | omega | (simp only [ds] <;> omega) | fail) only [ws, undefM, Nat.reduceLT, Nat.reduceAdd, Nat.reduceMul, Nat.reduceSub, Nat.reduceBEq, Nat.reduceEqDiff, Int.reduceToNat, reduceIte, PreK_some, putM_some, tsR]
        refine VAny.pre1 tabOk 6 rfl (by kernel_rfl) (by kernel_rfl) (by kernel_rfl) rfl rfl ?_
        simp (disch := first | omega | (simp only [ds] <;> omega) | fail) only [ws, undefM, Nat.reduceLT, Nat.reduceAdd, Nat.reduceMul, Nat.reduceSub, Nat.reduceBEq, Nat.reduceEqDiff, Int.reduceToNat, reduceIte, PreK_some, putM_some, tsR]
        refine VAny.plan tabOk [(1, .fk), (7, .one), (8, .sil), (9, .sil)] (by kernel_rfl) (by kernel_rfl) rfl ?_
        simp (disch := first | omega | (simp only [ds] <;> omega) | fail) only [ws, undefM, Nat.reduceLT, Nat.reduceAdd, Nat.reduceMul, Nat.reduceSub, Nat.reduceBEq, Nat.reduceEqDiff, Int.reduceToNat, reduceIte, tsR]
        refine VL.forkM tabOk (mi := .str u) (mj := .str x) (mj' := .str x) (O2 := O2) (O2' := O2) rfl (textA_M tabOk (el := 5) (l := u) rfl (by rw [ty37]; rfl) (by rw [ty9]; rfl) (by rw [ty5]; rfl) hO2 hul.symm (by simp [← hul, List.take_of_length_le])) rfl rfl ?_ rfl rfl ?_ rfl (textA_M tabOk (el := 5) (l := u) rfl (by rw [ty37]; rfl) (by rw [ty9]; rfl) (by rw [ty5]; rfl) hO2 hul.symm (by simp [← hul, List.take_of_length_le])) (WL.sound tabOk ?_) (WL.sound tabOk ?_)
        · simp (disch := first | omega | (simp only [ds] <;> omega) | fail) only [ws, undefM, Nat.reduceLT, Nat.reduceAdd, Nat.reduceMul, Nat.reduceSub, Nat.reduceBEq, Nat.reduceEqDiff, Int.reduceToNat, reduceIte, tsR, hx]
        · simp (disch := first | omega | (simp only [ds] <;> omega) | fail) only [ws, undefM, Nat.reduceLT, Nat.reduceAdd, Nat.reduceMul, Nat.reduceSub, Nat.reduceBEq, Nat.reduceEqDiff, Int.reduceToNat, reduceIte, tsR, hx]
        · simp (disch := first | omega | (simp only [ds] <;> omega) | fail) only [ws, undefM, Nat.reduceLT, Nat.reduceAdd, Nat.reduceMul, Nat.reduceSub, Nat.reduceBEq, Nat.reduceEqDiff, Int.reduceToNat, reduceIte, tsR, hx]
          refine CallW.rt (Compare_v _ _ _ (by omega) (by simp only [List.length_append]; omega)) (by kernel_rfl) rfl rfl ?_
          rintro _ OA ⟨rfl, hgA⟩
          simp (disch := first | omega | (simp only [ds] <;> omega) | fail) only [ws, undefM, Nat.reduceLT, Nat.reduceAdd, Nat.reduceMul, Nat.reduceSub, Nat.reduceBEq, Nat.reduceEqDiff, Int.reduceToNat, reduceIte, tsR, hpq]
          refine CallW.rt (Compare_v _ _ _ (by simp only [List.length_append, List.length_cons, List.length_nil]; omega) (by simp only [List.length_append, List.length_cons, List.length_nil]; omega)) (by kernel_rfl) rfl rfl ?_
          rintro _ OB ⟨rfl, hgB⟩
          simp (disch := first | omega | (simp only [ds] <;> omega) | fail) only [ws, undefM, Nat.reduceLT, Nat.reduceAdd, Nat.reduceMul, Nat.reduceSub, Nat.reduceBEq, Nat.reduceEqDiff, Int.reduceToNat, reduceIte, tsR, hp1]
          refine CallW.rt (lives_v _) (by kernel_rfl) rfl rfl ?_
          rintro _ OC ⟨rfl, hgC⟩
          simp (disch := first | omega | (simp only [ds] <;> omega) | fail) only [ws, undefM, Nat.reduceLT, Nat.reduceAdd, Nat.reduceMul, Nat.reduceSub, Nat.reduceBEq, Nat.reduceEqDiff, Int.reduceToNat, reduceIte, tsR]
        · simp (disch := first | omega | (simp only [ds] <;> omega) | fail) only [ws, undefM, Nat.reduceLT, Nat.reduceAdd, Nat.reduceMul, Nat.reduceSub, Nat.reduceBEq, Nat.reduceEqDiff, Int.reduceToNat, reduceIte, tsR, hx]
          refine CallW.rt (Compare_v _ _ _ (by omega) (by simp only [List.length_append]; omega)) (by kernel_rfl) rfl rfl ?_
          rintro _ OA ⟨rfl, hgA⟩
          simp (disch := first | omega | (simp only [ds] <;> omega) | fail) only [ws, undefM, Nat.reduceLT, Nat.reduceAdd, Nat.reduceMul, Nat.reduceSub, Nat.reduceBEq, Nat.reduceEqDiff, Int.reduceToNat, reduceIte, tsR, hpq]
          refine CallW.rt (Compare_v _ _ _ (by simp only [List.length_append, List.length_cons, List.length_nil]; omega) (by simp only [List.length_append, List.length_cons, List.length_nil]; omega)) (by kernel_rfl) rfl rfl ?_
          rintro _ OB ⟨rfl, hgB⟩
          simp (disch := first | omega | (simp only [ds] <;> omega) | fail) only [ws, undefM, Nat.reduceLT, Nat.reduceAdd, Nat.reduceMul, Nat.reduceSub, Nat.reduceBEq, Nat.reduceEqDiff, Int.reduceToNat, reduceIte, tsR, hp1]
          refine CallW.rt (lives_v _) (by kernel_rfl) rfl rfl ?_
          rintro _ OC ⟨rfl, hgC⟩
          simp (disch := first | omega | (simp only [ds] <;> omega) | fail) only [ws, undefM, Nat.reduceLT, Nat.reduceAdd, Nat.reduceMul, Nat.reduceSub, Nat.reduceBEq, Nat.reduceEqDiff, Int.reduceToNat, reduceIte, tsR]
end Go.Proofs.YtjbpnhmjnkolbaaDoor

/-
  The law VersionCanon: plain, and walked.
-/
set_option linter.unusedVariables false
set_option linter.unusedSimpArgs false
namespace Go.Proofs.YtjbpnhmjnkolbaaDoor
open Go.RowKit
set_option maxRecDepth 10000

theorem lo_lo (c : UInt8) : lo (lo c) = lo c := by
  unfold lo
  split
  · rw [if_neg]
    rw [UInt8.toNat_ofNat']; omega
  · rfl
theorem cutR_mem : ∀ (r : List UInt8) (hy : Bool) (cur : List UInt8), ∀ p ∈ cutR hy cur r, ∀ c ∈ p.1, c ∈ cur ∨ c ∈ r
  | [], hy, cur, p, hp, c, hc => by rw [cutR_nil, List.mem_singleton] at hp; subst hp; exact .inl hc
  | a :: r, hy, cur, p, hp, c, hc => by
    by_cases hm : isMk a = true
    · rw [cutR_mark hm, List.mem_cons] at hp
      rcases hp with rfl | hp
      · exact .inl hc
      · rcases cutR_mem r _ [] p hp c hc with h | h
        · cases h
        · exact .inr (List.mem_cons_of_mem _ h)
    · rw [cutR, if_neg hm] at hp
      cases hl : cur.getLast? with
      | none =>
        rw [hl] at hp
        rcases cutR_mem r _ [a] p hp c hc with h | h
        · rw [List.mem_singleton.1 h]; exact .inr (by simp)
        · exact .inr (List.mem_cons_of_mem _ h)
      | some d =>
        rw [hl] at hp
        dsimp only at hp
        split at hp
        · rcases cutR_mem r _ _ p hp c hc with h | h
          · rcases List.mem_append.1 h with h | h
            · exact .inl h
            · rw [List.mem_singleton.1 h]; exact .inr (by simp)
          · exact .inr (List.mem_cons_of_mem _ h)
        · rcases List.mem_cons.1 hp with rfl | hp
          · exact .inl hc
          · rcases cutR_mem r _ [a] p hp c hc with h | h
            · rw [List.mem_singleton.1 h]; exact .inr (by simp)
            · exact .inr (List.mem_cons_of_mem _ h)
/-- What a part's text holds. -/
def okT (p : Prt) : Prop := even p.2.2 ∧ (∀ c ∈ p.2.2, lo c = c) ∧ (if p.2.1 then p.2.2.all isD = true ∧ p.2.2.dropWhile (· == 48) = p.2.2 else p.2.2.all (fun c => !isD c) = true ∧ wordF p.2.2 false = p.2.2)
theorem dw_dw (l : List UInt8) : (l.dropWhile (· == 48)).dropWhile (· == 48) = l.dropWhile (· == 48) := by
  induction l with
  | nil => rfl
  | cons a l ih =>
    by_cases h : a = 48
    · subst h; exact ih
    · have hn : (a :: l).dropWhile (· == 48) = a :: l := by simp [List.dropWhile_cons, h]
      rw [hn, hn]
theorem mkV_ok (q : Piece) (he : even q.1) (hl : ∀ c ∈ q.1, lo c = c) : okT (mkV q) := by
  obtain ⟨w, hy, cl⟩ := q
  dsimp only at he hl
  by_cases hd : w.all isD = true
  · have hm : mkV (w, hy, cl) = (hy, true, w.dropWhile (· == 48)) := by simp [mkV, hd]
    rw [hm]
    have hsub : ∀ c ∈ w.dropWhile (· == 48), c ∈ w := fun c hc => (List.dropWhile_sublist (l := w) (· == 48)).subset hc
    refine ⟨⟨fun c hc => he.1 c (hsub c hc), fun c hc d hd => he.2 c (hsub c hc) d (hsub d hd)⟩, fun c hc => hl c (hsub c hc), ?_⟩
    rw [if_pos rfl]
    exact ⟨by rw [List.all_eq_true] at hd ⊢; exact fun c hc => hd c (hsub c hc), dw_dw w⟩
  · have hm : mkV (w, hy, cl) = (hy, false, wordF w cl) := by simp [mkV, hd]
    rw [hm]
    have hno : w.all (fun c => !isD c) = true := by
      rw [List.all_eq_true] at hd ⊢
      intro c hc
      rw [Bool.not_eq_true']
      cases hcd : isD c with
      | false => rfl
      | true => exact absurd (fun d hd => by rw [he.2 d hd c hc, hcd]) hd
    have con : ∀ t : List UInt8, ((t.all fun c => !isMk c) && (t.all fun c => t.all fun d => isD c == isD d)) = true → (t.all fun c => lo c == c) = true → t.all (fun c => !isD c) = true → wordF t false = t → okT (hy, false, t) := fun t h1 h2 h3 h4 =>
      ⟨even_dec t h1, fun c hc => by rw [List.all_eq_true] at h2; simpa using h2 c hc, by rw [if_neg (by simp)]; exact ⟨h3, h4⟩⟩
    unfold wordF
    split
    · exact con [] rfl rfl rfl (by decide)
    · rename_i h1
      split
      · exact con _ (by decide) (by decide) (by decide) (by decide)
      · rename_i h2
        split
        · exact con _ (by decide) (by decide) (by decide) (by decide)
        · split
          · exact con _ (by decide) (by decide) (by decide) (by decide)
          · split
            · exact con _ (by decide) (by decide) (by decide) (by decide)
            · refine ⟨he, hl, ?_⟩
              rw [if_neg (by simp)]
              refine ⟨hno, ?_⟩
              unfold wordF
              rw [if_neg h1, if_neg h2]
              simp
theorem partsV_ok (s : List UInt8) : ∀ p ∈ partsV s, okT p := by
  have key : ∀ p ∈ (cutF (s.map lo)).map mkV, okT p := by
    intro p hp
    obtain ⟨q, hq, rfl⟩ := List.mem_map.1 hp
    rw [cutF_cutR] at hq
    refine mkV_ok q (cutR_even _ _ _ ⟨fun _ h => (by cases h), fun _ h => (by cases h)⟩ q hq) fun c hc => ?_
    rcases cutR_mem _ _ _ q hq c hc with h | h
    · cases h
    · obtain ⟨a, _, rfl⟩ := List.mem_map.1 h
      exact lo_lo a
  unfold partsV
  cases hc : (cutF (s.map lo)).map mkV with
  | nil => intro p hp; cases hp
  | cons q r =>
    rw [hc] at key
    intro p hp
    simp only [firstF, tailT, List.mem_cons] at hp
    rcases hp with rfl | hp
    · exact key q (by simp)
    · exact key p (List.mem_cons_of_mem _ (trimT_mem r p hp))
/-- A part as its canonical text reads. -/
def nrm (p : Prt) : Prt := (p.1, p.2.1 || p.2.2 == [], p.2.2)
def txt (p : Prt) : List UInt8 := (if p.2.1 && p.2.2 == [] then [48] else []) ++ p.2.2
def sepT (p : Prt) : List UInt8 := (if p.1 then 45 else 46) :: txt p
def canL : List Prt → List UInt8
  | [] => []
  | p :: r => txt p ++ r.flatMap sepT
theorem canonN_canL (p : Prt) (r : List Prt) : ∀ k, k ≤ r.length → canonN (p :: r) (k + 1) = canL (p :: r.take k)
  | 0, _ => by simp [canonN, canL, pieceC, txt]
  | k + 1, h => by
    have hk : k < r.length := by omega
    have hg : (p :: r).getD (k + 1) nullP = r[k] := by rw [List.getD_eq_getElem?_getD, List.getElem?_cons_succ, List.getElem?_eq_getElem hk]; rfl
    rw [canonN, canonN_canL p r k (by omega), hg, List.take_add_one, List.getElem?_eq_getElem hk]
    simp only [canL, Option.toList_some, List.flatMap_append, List.flatMap_cons, List.flatMap_nil, List.append_nil, List.append_assoc]
    congr 2
    simp only [pieceC, sepT, txt, Nat.add_one_ne_zero, if_false]
    cases r[k].1 <;> rfl
theorem canonV_canL (s : List UInt8) : canonV s = canL (partsV s) := by
  unfold canonV
  cases hp : partsV s with
  | nil => rfl
  | cons p r => rw [List.length_cons, canonN_canL p r r.length (Nat.le_refl _), List.take_length]
theorem txt_even {p : Prt} (h : okT p) : even (txt p) := by
  unfold txt
  split
  · rename_i hc
    have : p.2.2 = [] := by simpa using (Bool.and_eq_true _ _ ▸ hc : p.2.1 = true ∧ (p.2.2 == []) = true).2
    rw [this]
    exact even_dec _ rfl
  · exact h.1
theorem txt_lo {p : Prt} (h : okT p) : ∀ c ∈ txt p, lo c = c := by
  intro c hc
  unfold txt at hc
  rcases List.mem_append.1 hc with h1 | h1
  · split at h1
    · rw [List.mem_singleton.1 h1]; rfl
    · cases h1
  · exact h.2.1 c h1
theorem mkV_txt {p : Prt} (h : okT p) (hy : Bool) : mkV (txt p, hy, false) = (hy, (nrm p).2) := by
  obtain ⟨ph, nb, t⟩ := p
  obtain ⟨_, _, h3⟩ := h
  dsimp only at h3
  cases nb
  · rw [if_neg (by simp)] at h3
    obtain ⟨h4, h5⟩ := h3
    cases t with
    | nil => rfl
    | cons c t =>
      have hc : isD c = false := by
        rw [List.all_cons, Bool.and_eq_true] at h4
        simpa using h4.1
      simp [mkV, txt, nrm, hc, h5]
  · rw [if_pos rfl] at h3
    obtain ⟨h4, h5⟩ := h3
    cases t with
    | nil => rfl
    | cons c t =>
      have ha : txt (ph, true, c :: t) = c :: t := rfl
      simp only [mkV, ha, h4, if_true, h5, nrm, Bool.true_or]
theorem chain : ∀ (r : List Prt) (_ : ∀ p ∈ r, okT p) (w : List UInt8) (_ : even w) (hy : Bool), cutR hy [] (w ++ r.flatMap sepT) = (w, hy, false) :: r.map fun p => (txt p, p.1, false)
  | [], _, w, hw, hy => by
    have := cutR_run w [] [] hy (by simpa using hw)
    simpa [cutR_nil] using this
  | p :: r, h, w, hw, hy => by
    have ih := chain r (fun q hq => h q (List.mem_cons_of_mem _ hq)) (txt p) (txt_even (h p (by simp))) p.1
    have h1 := cutR_run w [] ((p :: r).flatMap sepT) hy (by simpa using hw)
    rw [h1, List.nil_append, List.flatMap_cons, sepT, List.cons_append, cutR_mark (by cases p.1 <;> rfl)]
    have hb : ((if p.1 then 45 else 46 : UInt8) == 45) = p.1 := by cases p.1 <;> rfl
    rw [hb, ih, List.map_cons]
def hdH : List Prt → Bool
  | [] => true
  | q :: _ => q.1
theorem trimT_cons (p : Prt) (r : List Prt) : trimT (p :: r) = if p.2.2 == [] && hdH (trimT r) then trimT r else p :: trimT r := by
  rw [trimT]
  cases trimT r <;> rfl
theorem hdH_nrm (L : List Prt) : hdH (L.map nrm) = hdH L := by cases L <;> rfl
theorem trimT_nrm : ∀ L : List Prt, trimT (L.map nrm) = (trimT L).map nrm
  | [] => rfl
  | p :: r => by
    rw [List.map_cons, trimT_cons, trimT_cons, trimT_nrm r, hdH_nrm, show (nrm p).2.2 = p.2.2 from rfl]
    split <;> rfl
theorem trimT_trimT : ∀ L : List Prt, trimT (trimT L) = trimT L
  | [] => rfl
  | p :: r => by
    have ih := trimT_trimT r
    rw [trimT_cons]
    split
    · exact ih
    · rename_i h
      rw [trimT_cons, ih, if_neg h]
theorem partsV_canon (s : List UInt8) : partsV (canonV s) = (partsV s).map nrm := by
  have hok := partsV_ok s
  rw [canonV_canL]
  have hp : ∃ p r, partsV s = p :: r ∧ p.1 = false ∧ trimT r = r := by
    unfold partsV
    cases hc : (cutF (s.map lo)).map mkV with
    | nil => exact absurd (List.map_eq_nil_iff.1 hc) (cutF_ne _)
    | cons q r => exact ⟨_, _, rfl, rfl, trimT_trimT r⟩
  obtain ⟨p, r, hpr, hp1, htr⟩ := hp
  rw [hpr] at hok ⊢
  have hlo : (canL (p :: r)).map lo = canL (p :: r) := by
    have : ∀ c ∈ canL (p :: r), lo c = c := by
      intro c hc
      rw [canL] at hc
      rcases List.mem_append.1 hc with h | h
      · exact txt_lo (hok p (by simp)) c h
      · obtain ⟨q, hq, h⟩ := List.mem_flatMap.1 h
        rw [sepT] at h
        rcases List.mem_cons.1 h with h | h
        · subst h; cases q.1 <;> rfl
        · exact txt_lo (hok q (List.mem_cons_of_mem _ hq)) c h
    conv => rhs; rw [← List.map_id (canL (p :: r))]
    exact List.map_congr_left this
  unfold partsV
  rw [hlo, cutF_cutR, canL, chain r (fun q hq => hok q (List.mem_cons_of_mem _ hq)) (txt p) (txt_even (hok p (by simp))) false]
  have hm : (r.map fun p => (txt p, p.1, false)).map mkV = r.map nrm := by
    rw [List.map_map]
    apply List.map_congr_left
    intro q hq
    exact mkV_txt (hok q (List.mem_cons_of_mem _ hq)) q.1
  rw [List.map_cons, hm, mkV_txt (hok p (by simp)), firstF, tailT, trimT_nrm, htr, List.map_cons]
  simp [nrm, hp1]
theorem cmpV_nrm (p : Prt) : cmpV p (nrm p) = 0 := by
  obtain ⟨hy, nb, t⟩ := p
  by_cases ht : t = []
  · subst ht; cases hy <;> cases nb <;> rfl
  · have : nrm (hy, nb, t) = (hy, nb, t) := by
      have : (t == []) = false := by simpa using ht
      simp [nrm, this]
    rw [this]; exact cmp_cmpV.refl _
theorem seqC_nrm (f g : Nat → Prt) (h : ∀ i, cmpV (f i) (g i) = 0) : ∀ k i, seqC k i f g = 0
  | 0, _ => rfl
  | k + 1, i => by
    rw [seqC, lexC, if_neg (by simp [h i])]
    exact seqC_nrm f g h k (i + 1)
theorem compareV_canon (s : List UInt8) : compareV s (canonV s) = 0 := by
  rw [compareV_seq s (canonV s) (partsV s).length (Nat.le_refl _) (by rw [partsV_canon, List.length_map]; exact Nat.le_refl _)]
  apply seqC_nrm
  intro i
  rw [partsV_canon, List.getD_eq_getElem?_getD, List.getD_eq_getElem?_getD, List.getElem?_map]
  cases (partsV s)[i]? with
  | none => rfl
  | some p => exact cmpV_nrm p
theorem canonV_len (s : List UInt8) (h : s.length ≤ 64) : (canonV s).length ≤ 5000 ∧ (canonV (canonV s)).length ≤ 5000 := by
  have h1 := partsV_len s
  have h2 := partsV_text s
  have h3 : ∀ p ∈ partsV s, p.2.2.length ≤ 73 := fun p hp => by have := h2 p hp; omega
  have h4 : (partsV s).length * 75 ≤ 65 * 75 := Nat.mul_le_mul_right _ (by omega)
  constructor
  · have := canonN_len (partsV s) 73 h3 (partsV s).length
    unfold canonV; omega
  · have := canonN_len (partsV (canonV s)) 73 (fun p hp => by
      rw [partsV_canon] at hp
      obtain ⟨q, hq, rfl⟩ := List.mem_map.1 hp
      exact h3 q hq) (partsV (canonV s)).length
    rw [partsV_canon, List.length_map] at this
    have he : canonV (canonV s) = canonN ((partsV s).map nrm) (partsV s).length := by
      rw [canonV, partsV_canon, List.length_map]
    rw [he]; omega
set_option linter.defProp false in
def tsS := And.intro T9 <| And.intro T3 T4

/-- pomacelaw04.VersionCanon -/
theorem canon_law (s : List UInt8) (O : VH) (hs : s.length ≤ maxLen) : VF Tryd.prog 7 [.str s] O (Ret fun m O' => m = mb true) := by
  refine VF.ofW (n := ⟨24, 0⟩) (rs := [.tmp 2]) tabOk Tryd.func7 rfl rfl rfl (Nat.le_of_ble_eq_true rfl) ?_
  simp only [argEnv, Nat.zero_add, Nat.reduceAdd]
  simp (disch := first | omega | (simp only [ds] <;> omega) | fail) only [ws, undefM, Nat.reduceLT, Nat.reduceAdd, Nat.reduceMul, Nat.reduceSub, Nat.reduceBEq, Nat.reduceEqDiff, Int.reduceToNat, reduceIte, tsS]
  refine CallW.rt (rMay_v s _ hs) (by kernel_rfl) rfl rfl ?_
  rintro _ O1 ⟨rfl, rfl⟩
  cases hmay : mayF s
  · simp (disch := first | omega | (simp only [ds] <;> omega) | fail) only [ws, undefM, Nat.reduceLT, Nat.reduceAdd, Nat.reduceMul, Nat.reduceSub, Nat.reduceBEq, Nat.reduceEqDiff, Int.reduceToNat, reduceIte, tsS]
    refine CallW.rt (lives_v _) (by kernel_rfl) rfl rfl ?_
    rintro _ O5 ⟨rfl, hg5⟩
    simp (disch := first | omega | (simp only [ds] <;> omega) | fail) only [ws, undefM, Nat.reduceLT, Nat.reduceAdd, Nat.reduceMul, Nat.reduceSub, Nat.reduceBEq, Nat.reduceEqDiff, Int.reduceToNat, reduceIte, tsS]
  · have h64 : s.length ≤ 64 := by
      unfold mayF at hmay
      simp only [Bool.and_eq_true, decide_eq_true_eq] at hmay
      exact hmay.2.2
    obtain ⟨hl1, hl2⟩ := canonV_len s h64
    have hc1 := compareV_canon s
    have hc2 : compareV (canonV (canonV s)) (canonV s) = 0 := by
      have := compareV_canon (canonV s)
      have h := compareV_cmp.anti (canonV (canonV s)) (canonV s)
      omega
    simp (disch := first | omega | (simp only [ds] <;> omega) | fail) only [ws, undefM, Nat.reduceLT, Nat.reduceAdd, Nat.reduceMul, Nat.reduceSub, Nat.reduceBEq, Nat.reduceEqDiff, Int.reduceToNat, reduceIte, tsS]
    refine CallW.rt (Canon_v s _ (by omega)) (by kernel_rfl) rfl rfl ?_
    rintro _ O2 ⟨rfl, hg2⟩
    simp (disch := first | omega | (simp only [ds] <;> omega) | fail) only [ws, undefM, Nat.reduceLT, Nat.reduceAdd, Nat.reduceMul, Nat.reduceSub, Nat.reduceBEq, Nat.reduceEqDiff, Int.reduceToNat, reduceIte, tsS]
    refine CallW.rt (Compare_v s _ _ (by omega) (by omega)) (by kernel_rfl) rfl rfl ?_
    rintro _ O3 ⟨rfl, hg3⟩
    simp (disch := first | omega | (simp only [ds] <;> omega) | fail) only [ws, undefM, Nat.reduceLT, Nat.reduceAdd, Nat.reduceMul, Nat.reduceSub, Nat.reduceBEq, Nat.reduceEqDiff, Int.reduceToNat, reduceIte, tsS, hc1]
    refine CallW.rt (Canon_v (canonV s) _ (by omega)) (by kernel_rfl) rfl rfl ?_
    rintro _ O4 ⟨rfl, hg4⟩
    simp (disch := first | omega | (simp only [ds] <;> omega) | fail) only [ws, undefM, Nat.reduceLT, Nat.reduceAdd, Nat.reduceMul, Nat.reduceSub, Nat.reduceBEq, Nat.reduceEqDiff, Int.reduceToNat, reduceIte, tsS]
    refine CallW.rt (Compare_v _ _ _ (by omega) (by omega)) (by kernel_rfl) rfl rfl ?_
    rintro _ O6 ⟨rfl, hg6⟩
    simp (disch := first | omega | (simp only [ds] <;> omega) | fail) only [ws, undefM, Nat.reduceLT, Nat.reduceAdd, Nat.reduceMul, Nat.reduceSub, Nat.reduceBEq, Nat.reduceEqDiff, Int.reduceToNat, reduceIte, tsS, hc2]
    refine CallW.rt (lives_v _) (by kernel_rfl) rfl rfl ?_
    rintro _ O5 ⟨rfl, hg5⟩
    simp (disch := first | omega | (simp only [ds] <;> omega) | fail) only [ws, undefM, Nat.reduceLT, Nat.reduceAdd, Nat.reduceMul, Nat.reduceSub, Nat.reduceBEq, Nat.reduceEqDiff, Int.reduceToNat, reduceIte, tsS]
end Go.Proofs.YtjbpnhmjnkolbaaDoor
