/-
  strings.Contains of one byte; pomaceref04.May, version.May, walked.
-/
import Derived.Test.YtjbpnhmjnkolbaaDoorVerN
set_option linter.unusedVariables false
set_option linter.unusedSimpArgs false
namespace Go.Proofs.YtjbpnhmjnkolbaaDoor
open Go.RowKit
set_option maxRecDepth 10000
set_option linter.defProp false in
def tsO := And.intro T9 <| And.intro T3 <| And.intro T4 <| And.intro T5 T37

theorem indexByte_has (s : List UInt8) (c : UInt8) : (0 ≤ Lib.indexByte s c) ↔ c ∈ s := by
  induction s with
  | nil => simp [Lib.indexByte]
  | cons b l ih =>
    have hge := Lib.indexByte_ge l c
    unfold Lib.indexByte
    by_cases hb : b = c
    · subst hb; simp
    · have : (b == c) = false := by simpa using hb
      rw [this]
      simp only [Bool.false_eq_true, if_false, List.mem_cons]
      by_cases h1 : Lib.indexByte l c = -1
      · rw [h1] at ih ⊢
        simp only [beq_self_eq_true, if_true]
        constructor
        · intro h; omega
        · rintro (h | h)
          · exact absurd h.symm hb
          · have := ih.2 h; omega
      · have : (Lib.indexByte l c == -1) = false := by simpa using h1
        rw [this]
        simp only [Bool.false_eq_true, if_false]
        constructor
        · intro _; exact .inr (ih.1 (by omega))
        · rintro (h | h)
          · exact absurd h.symm hb
          · have := ih.2 h; omega
theorem IndexByteString_x (s : List UInt8) (c : UInt8) (O : VH) : ExtOk Tryd.prog 75 [.str s, byM c] O fun m O' => m = mi (Lib.indexByte s c) ∧ O' = O := by
  refine ExtOk.of (ex := Extern.BytealgIndexByte.indexByte) Tryd.func75 (by kernel_rfl) (by kernel_rfl) (by kernel_rfl) (by kernel_rfl) fun G w vs hw hv => ?_
  obtain ⟨u, us, rfl, h1, h2⟩ := hv.inv_cons
  obtain ⟨u2, us2, rfl, h3, h4⟩ := h2.inv_cons
  rw [h4.inv_nil]
  cases h1
  have := h3.v_inv
  subst this
  refine ⟨_, Lib.run_indexByteString _ _ w, ?_⟩
  have e : ((c.toNat : Int).toNat).toUInt8 = c := by simp
  rw [e]
  exact .v rfl
theorem IndexByte_v (s : List UInt8) (c : UInt8) (O : VH) : VF Tryd.prog 68 [.str s, byM c] O (Ret fun m O' => m = mi (Lib.indexByte s c) ∧ O' = O) := by
  refine VF.ofW (n := 8) (rs := [.tmp 4]) tabOk Tryd.func68 rfl rfl rfl (Nat.le_of_ble_eq_true rfl) ?_
  simp only [argEnv, Nat.zero_add, Nat.reduceAdd]
  simp (disch := first | omega | (simp only [ds] <;> omega) | fail) only [ws, undefM, Nat.reduceLT, Nat.reduceAdd, Nat.reduceMul, Nat.reduceSub, Nat.reduceBEq, Nat.reduceEqDiff, Int.reduceToNat, reduceIte]
  refine CallW.ext (IndexByteString_x s c O) rfl ?_
  rintro _ O2 ⟨rfl, rfl⟩
  simp (disch := first | omega | (simp only [ds] <;> omega) | fail) only [ws, undefM, Nat.reduceLT, Nat.reduceAdd, Nat.reduceMul, Nat.reduceSub, Nat.reduceBEq, Nat.reduceEqDiff, Int.reduceToNat, reduceIte]
theorem Index1_v (s : List UInt8) (c : UInt8) (O : VH) : VF Tryd.prog 62 [.str s, .str [c]] O (Ret fun m O' => ∃ n : Int, m = mi n ∧ (0 ≤ n ↔ c ∈ s) ∧ O' = O) := by
  refine VF.ofW (n := 143) (rs := [.tmp 4]) tabOk Tryd.func62 rfl rfl rfl (Nat.le_of_ble_eq_true rfl) ?_
  simp only [argEnv, Nat.zero_add, Nat.reduceAdd]
  cases h : ([c] : List UInt8) == s
  · simp (disch := first | omega | (simp only [ds] <;> omega) | fail) only [ws, undefM, Nat.reduceLT, Nat.reduceAdd, Nat.reduceMul, Nat.reduceSub, Nat.reduceBEq, Nat.reduceEqDiff, Int.reduceToNat, reduceIte, tsO, h, List.length_cons, List.length_nil]
    refine CallW.rt (IndexByte_v s c O) (by kernel_rfl) rfl rfl ?_
    rintro _ O2 ⟨rfl, rfl⟩
    simp (disch := first | omega | (simp only [ds] <;> omega) | fail) only [ws, undefM, Nat.reduceLT, Nat.reduceAdd, Nat.reduceMul, Nat.reduceSub, Nat.reduceBEq, Nat.reduceEqDiff, Int.reduceToNat, reduceIte, tsO]
    exact ⟨_, rfl, indexByte_has s c⟩
  · simp (disch := first | omega | (simp only [ds] <;> omega) | fail) only [ws, undefM, Nat.reduceLT, Nat.reduceAdd, Nat.reduceMul, Nat.reduceSub, Nat.reduceBEq, Nat.reduceEqDiff, Int.reduceToNat, reduceIte, tsO, h, List.length_cons, List.length_nil]
    have : s = [c] := by have := beq_iff_eq.1 h; exact this.symm
    exact ⟨0, rfl, by rw [this]; simp⟩
theorem strIndex1_v (s : List UInt8) (c : UInt8) (O : VH) : VF Tryd.prog 54 [.str s, .str [c]] O (Ret fun m O' => ∃ n : Int, m = mi n ∧ (0 ≤ n ↔ c ∈ s) ∧ O' = O) := by
  refine VF.ofW (n := 8) (rs := [.tmp 4]) tabOk Tryd.func54 rfl rfl rfl (Nat.le_of_ble_eq_true rfl) ?_
  simp only [argEnv, Nat.zero_add, Nat.reduceAdd]
  simp (disch := first | omega | (simp only [ds] <;> omega) | fail) only [ws, undefM, Nat.reduceLT, Nat.reduceAdd, Nat.reduceMul, Nat.reduceSub, Nat.reduceBEq, Nat.reduceEqDiff, Int.reduceToNat, reduceIte]
  refine CallW.rt (Index1_v s c O) (by kernel_rfl) rfl rfl ?_
  rintro _ O2 ⟨n, rfl, h, rfl⟩
  simp (disch := first | omega | (simp only [ds] <;> omega) | fail) only [ws, undefM, Nat.reduceLT, Nat.reduceAdd, Nat.reduceMul, Nat.reduceSub, Nat.reduceBEq, Nat.reduceEqDiff, Int.reduceToNat, reduceIte]
  exact ⟨n, rfl, h⟩
/-- strings.Contains of one byte -/
theorem Contains1_v (s : List UInt8) (c : UInt8) (O : VH) : VF Tryd.prog 41 [.str s, .str [c]] O (Ret fun m O' => m = mb (s.contains c) ∧ O' = O) := by
  refine VF.ofW (n := 9) (rs := [.tmp 4]) tabOk Tryd.func41 rfl rfl rfl (Nat.le_of_ble_eq_true rfl) ?_
  simp only [argEnv, Nat.zero_add, Nat.reduceAdd]
  simp (disch := first | omega | (simp only [ds] <;> omega) | fail) only [ws, undefM, Nat.reduceLT, Nat.reduceAdd, Nat.reduceMul, Nat.reduceSub, Nat.reduceBEq, Nat.reduceEqDiff, Int.reduceToNat, reduceIte]
  refine CallW.rt (strIndex1_v s c O) (by kernel_rfl) rfl rfl ?_
  rintro _ O2 ⟨n, rfl, h, rfl⟩
  simp (disch := first | omega | (simp only [ds] <;> omega) | fail) only [ws, undefM, Nat.reduceLT, Nat.reduceAdd, Nat.reduceMul, Nat.reduceSub, Nat.reduceBEq, Nat.reduceEqDiff, Int.reduceToNat, reduceIte]
  have : s.contains c = decide (n ≥ 0) := by
    rw [Bool.eq_iff_iff, List.contains_iff_mem, decide_eq_true_iff]; exact h.symm
  rw [this]
/-- A byte that a version may bear. -/
def okC (c : UInt8) : Bool := decide ((97 ≤ c.toNat ∧ c.toNat ≤ 122) ∨ (65 ≤ c.toNat ∧ c.toNat ≤ 90) ∨ (48 ≤ c.toNat ∧ c.toNat ≤ 57) ∨ c.toNat = 46 ∨ c.toNat = 45 ∨ c.toNat = 95 ∨ c.toNat = 43)
def mayF (s : List UInt8) : Bool := s.all okC && (decide (1 ≤ s.length) && decide (s.length ≤ 64))
theorem okC_cases (c : UInt8) : ((97 ≤ c.toNat ∧ c.toNat ≤ 122) ∨ (65 ≤ c.toNat ∧ c.toNat ≤ 90) ∨ (48 ≤ c.toNat ∧ c.toNat ≤ 57) ∨ c.toNat = 46 ∨ c.toNat = 45 ∨ c.toNat = 95 ∨ c.toNat = 43) ∨ ((123 ≤ c.toNat) ∨ (91 ≤ c.toNat ∧ c.toNat ≤ 96 ∧ c.toNat ≠ 95) ∨ (58 ≤ c.toNat ∧ c.toNat ≤ 64) ∨ (c.toNat ≤ 47 ∧ c.toNat ≠ 43 ∧ c.toNat ≠ 45 ∧ c.toNat ≠ 46)) := by omega
/-- pomaceref04.May -/
theorem rMay_v (s : List UInt8) (O : VH) (hs : s.length ≤ maxLen) : VF Tryd.prog 20 [.str s] O (Ret fun m O' => m = mb (mayF s) ∧ O' = O) := by
  have hm : (s.length : Int) ≤ 9223372036854775807 := by simp [maxLen] at hs; omega
  refine VF.ofW (n := 61) (rs := [.tmp 2]) tabOk Tryd.func20 rfl rfl rfl (Nat.le_of_ble_eq_true rfl) ?_
  simp only [argEnv, Nat.zero_add, Nat.reduceAdd]
  simp (disch := first | omega | (simp only [ds] <;> omega) | fail) only [ws, undefM, Nat.reduceLT, Nat.reduceAdd, Nat.reduceMul, Nat.reduceSub, Nat.reduceBEq, Nat.reduceEqDiff, Int.reduceToNat, reduceIte, tsO]
  refine WC.loopK tabOk [3] [0] (fun j : Nat => [mi j]) (fun j O' => O' = O ∧ j ≤ s.length ∧ (s.take j).all okC = true) (fun j => s.length - j) (0) rfl rfl ?_ ?_
  · exact ⟨rfl, Nat.zero_le _, rfl⟩
  rintro j O2 ⟨rfl, hj, hall⟩
  by_cases h2 : j < s.length
  · have hc := okC_cases s[j]
    have hgi := List.getElem?_eq_getElem h2
    have hok : okC s[j] = decide ((97 ≤ s[j].toNat ∧ s[j].toNat ≤ 122) ∨ (65 ≤ s[j].toNat ∧ s[j].toNat ≤ 90) ∨ (48 ≤ s[j].toNat ∧ s[j].toNat ≤ 57) ∨ s[j].toNat = 46 ∨ s[j].toNat = 45 ∨ s[j].toNat = 95 ∨ s[j].toNat = 43) := rfl
    have hsn : (s.take (j + 1)).all okC = okC s[j] := by rw [take_snoc _ _ h2, List.all_append, hall]; simp
    generalize hx : s[j] = c at *
    rcases hc with hc | hc
    · have h1 : okC c = true := by rw [hok]; exact decide_eq_true hc
      rw [h1] at hsn
      rcases hc with hc | hc | hc | hc | hc | hc | hc
      all_goals
        simp (disch := first | omega | (simp only [ds] <;> omega) | fail) only [ws, undefM, Nat.reduceLT, Nat.reduceAdd, Nat.reduceMul, Nat.reduceSub, Nat.reduceBEq, Nat.reduceEqDiff, Int.reduceToNat, reduceIte, tsO, hgi, byM_def]
        refine RoundQ.next (j + 1) rfl rfl ?_ (by first | omega | (dsimp only; omega))
        exact ⟨rfl, by omega, hsn⟩
    · have h1 : okC c = false := by rw [hok]; exact decide_eq_false (by omega)
      have : mayF s = false := by
        unfold mayF
        rw [List.all_eq_false.2 ⟨c, by rw [← hx]; exact List.getElem_mem h2, by simp [h1]⟩]; rfl
      rw [this]
      rcases hc with hc | hc | hc | hc
      all_goals
        simp (disch := first | omega | (simp only [ds] <;> omega) | fail) only [ws, undefM, Nat.reduceLT, Nat.reduceAdd, Nat.reduceMul, Nat.reduceSub, Nat.reduceBEq, Nat.reduceEqDiff, Int.reduceToNat, reduceIte, tsO, hgi, byM_def]
  · have hjl : j = s.length := by omega
    subst hjl
    rw [List.take_length] at hall
    unfold mayF
    rw [hall]
    by_cases h0 : 0 < s.length
    · have e : decide (1 ≤ s.length) = true := decide_eq_true h0
      rw [e]
      by_cases h64 : s.length ≤ 64
      · simp (disch := first | omega | (simp only [ds] <;> omega) | fail) only [ws, undefM, Nat.reduceLT, Nat.reduceAdd, Nat.reduceMul, Nat.reduceSub, Nat.reduceBEq, Nat.reduceEqDiff, Int.reduceToNat, reduceIte, tsO]
      · simp (disch := first | omega | (simp only [ds] <;> omega) | fail) only [ws, undefM, Nat.reduceLT, Nat.reduceAdd, Nat.reduceMul, Nat.reduceSub, Nat.reduceBEq, Nat.reduceEqDiff, Int.reduceToNat, reduceIte, tsO]
    · have e : decide (1 ≤ s.length) = false := decide_eq_false (by omega)
      rw [e]
      simp (disch := first | omega | (simp only [ds] <;> omega) | fail) only [ws, undefM, Nat.reduceLT, Nat.reduceAdd, Nat.reduceMul, Nat.reduceSub, Nat.reduceBEq, Nat.reduceEqDiff, Int.reduceToNat, reduceIte, tsO]
/-- version.May -/
theorem May_v (s : List UInt8) (O : VH) (hs : s.length ≤ maxLen) : VF Tryd.prog 22 [.str s] O (Ret fun m O' => m = mb (mayF s) ∧ O.Ge O') := by
  have hm : (s.length : Int) ≤ 9223372036854775807 := by simp [maxLen] at hs; omega
  have hbk := VH.push_new O (.cells (s.map byM))
  have hge0 := (VH.Ge.refl O).push (.cells (s.map byM))
  refine VF.ofW (n := 50) (rs := [.tmp 2]) tabOk Tryd.func22 rfl rfl rfl (Nat.le_of_ble_eq_true rfl) ?_
  simp only [argEnv, Nat.zero_add, Nat.reduceAdd]
  simp (disch := first | omega | (simp only [ds] <;> omega) | fail) only [ws, undefM, Nat.reduceLT, Nat.reduceAdd, Nat.reduceMul, Nat.reduceSub, Nat.reduceBEq, Nat.reduceEqDiff, Int.reduceToNat, reduceIte, tsO]
  refine VL.bytes tabOk (el := 5) (l := s) rfl rfl (by rw [ty9]; rfl) (by rw [ty37]; rfl) (by rw [ty5]; rfl) hs rfl fun cap h1 h2 => WL.sound tabOk ?_
  simp (disch := first | omega | (simp only [ds] <;> omega) | fail) only [ws, undefM, Nat.reduceLT, Nat.reduceAdd, Nat.reduceMul, Nat.reduceSub, Nat.reduceBEq, Nat.reduceEqDiff, Int.reduceToNat, reduceIte, tsO]
  refine WC.loopK tabOk [9] [0, 7, 8] (fun j : Nat => [mi j]) (fun j O' => (O.push (.cells (s.map byM))).Ge O' ∧ j ≤ s.length ∧ (s.take j).all okC = true) (fun j => s.length - j) (0) rfl rfl ?_ ?_
  · exact ⟨VH.Ge.refl _, Nat.zero_le _, rfl⟩
  rintro j O2 ⟨hge2, hj, hall⟩
  have hO2 := (hge2.hp O.next (Nat.lt_succ_self _)).trans hbk
  by_cases h2 : j < s.length
  · have hc := okC_cases s[j]
    have hgi := List.getElem?_eq_getElem h2
    have hok : okC s[j] = decide ((97 ≤ s[j].toNat ∧ s[j].toNat ≤ 122) ∨ (65 ≤ s[j].toNat ∧ s[j].toNat ≤ 90) ∨ (48 ≤ s[j].toNat ∧ s[j].toNat ≤ 57) ∨ s[j].toNat = 46 ∨ s[j].toNat = 45 ∨ s[j].toNat = 95 ∨ s[j].toNat = 43) := rfl
    have hsn : (s.take (j + 1)).all okC = okC s[j] := by rw [take_snoc _ _ h2, List.all_append, hall]; simp
    generalize hx : s[j] = c at *
    have hD : isD c = decide (48 ≤ c.toNat ∧ c.toNat ≤ 57) := by unfold isD; rw [Bool.decide_and]
    have hC : ([46, 45, 95, 43] : List UInt8).contains c = decide (c.toNat = 46 ∨ c.toNat = 45 ∨ c.toNat = 95 ∨ c.toNat = 43) := by
      rw [Bool.eq_iff_iff, List.contains_iff_mem, decide_eq_true_iff]
      simp only [List.mem_cons, List.not_mem_nil, or_false, ← UInt8.toNat_inj]
      rfl
    rcases hc with hc | hc
    · have h1 : okC c = true := by rw [hok]; exact decide_eq_true hc
      rw [h1] at hsn
      rcases hc with hc | hc | hc | hc | hc | hc | hc
      · simp (disch := first | omega | (simp only [ds] <;> omega) | fail) only [ws, undefM, Nat.reduceLT, Nat.reduceAdd, Nat.reduceMul, Nat.reduceSub, Nat.reduceBEq, Nat.reduceEqDiff, Int.reduceToNat, reduceIte, tsO, hgi, hO2, byM_def]
        refine RoundQ.next (j + 1) rfl rfl ?_ (by first | omega | (dsimp only; omega))
        exact ⟨hge2, by omega, hsn⟩
      · simp (disch := first | omega | (simp only [ds] <;> omega) | fail) only [ws, undefM, Nat.reduceLT, Nat.reduceAdd, Nat.reduceMul, Nat.reduceSub, Nat.reduceBEq, Nat.reduceEqDiff, Int.reduceToNat, reduceIte, tsO, hgi, hO2, byM_def]
        refine RoundQ.next (j + 1) rfl rfl ?_ (by first | omega | (dsimp only; omega))
        exact ⟨hge2, by omega, hsn⟩
      · rw [decide_eq_true (by omega)] at hD
        simp (disch := first | omega | (simp only [ds] <;> omega) | fail) only [ws, undefM, Nat.reduceLT, Nat.reduceAdd, Nat.reduceMul, Nat.reduceSub, Nat.reduceBEq, Nat.reduceEqDiff, Int.reduceToNat, reduceIte, tsO, hgi, hO2, byM_def]
        refine CallW.rt (IsDigit_v c _) (by kernel_rfl) rfl rfl ?_
        rintro _ O3 ⟨rfl, rfl⟩
        rw [hD]
        simp (disch := first | omega | (simp only [ds] <;> omega) | fail) only [ws, undefM, Nat.reduceLT, Nat.reduceAdd, Nat.reduceMul, Nat.reduceSub, Nat.reduceBEq, Nat.reduceEqDiff, Int.reduceToNat, reduceIte, tsO]
        refine RoundQ.next (j + 1) rfl rfl ?_ (by first | omega | (dsimp only; omega))
        exact ⟨hge2, by omega, hsn⟩
      all_goals
        rw [decide_eq_false (by omega)] at hD
        rw [decide_eq_true (by omega)] at hC
        simp (disch := first | omega | (simp only [ds] <;> omega) | fail) only [ws, undefM, Nat.reduceLT, Nat.reduceAdd, Nat.reduceMul, Nat.reduceSub, Nat.reduceBEq, Nat.reduceEqDiff, Int.reduceToNat, reduceIte, tsO, hgi, hO2, byM_def]
        refine CallW.rt (IsDigit_v c _) (by kernel_rfl) rfl rfl ?_
        rintro _ O3 ⟨rfl, rfl⟩
        rw [hD]
        simp (disch := first | omega | (simp only [ds] <;> omega) | fail) only [ws, undefM, Nat.reduceLT, Nat.reduceAdd, Nat.reduceMul, Nat.reduceSub, Nat.reduceBEq, Nat.reduceEqDiff, Int.reduceToNat, reduceIte, tsO]
        refine VL.textS tabOk (el := 5) (l := [c]) rfl rfl (by rw [ty37]; rfl) (by rw [ty9]; rfl) (by rw [ty5]; rfl) rfl rfl rfl (WL.sound tabOk ?_)
        simp (disch := first | omega | (simp only [ds] <;> omega) | fail) only [ws, undefM, Nat.reduceLT, Nat.reduceAdd, Nat.reduceMul, Nat.reduceSub, Nat.reduceBEq, Nat.reduceEqDiff, Int.reduceToNat, reduceIte, tsO]
        refine CallW.rt (Contains1_v [46, 45, 95, 43] c _) (by kernel_rfl) rfl rfl ?_
        rintro _ O4 ⟨rfl, rfl⟩
        rw [hC]
        simp (disch := first | omega | (simp only [ds] <;> omega) | fail) only [ws, undefM, Nat.reduceLT, Nat.reduceAdd, Nat.reduceMul, Nat.reduceSub, Nat.reduceBEq, Nat.reduceEqDiff, Int.reduceToNat, reduceIte, tsO]
        refine RoundQ.next (j + 1) rfl rfl ?_ (by first | omega | (dsimp only; omega))
        exact ⟨hge2, by omega, hsn⟩
    · have h1 : okC c = false := by rw [hok]; exact decide_eq_false (by omega)
      have : mayF s = false := by
        unfold mayF
        rw [List.all_eq_false.2 ⟨c, by rw [← hx]; exact List.getElem_mem h2, by simp [h1]⟩]; rfl
      rw [this]
      rw [decide_eq_false (by omega)] at hD hC
      rcases hc with hc | hc | hc | hc
      all_goals
        simp (disch := first | omega | (simp only [ds] <;> omega) | fail) only [ws, undefM, Nat.reduceLT, Nat.reduceAdd, Nat.reduceMul, Nat.reduceSub, Nat.reduceBEq, Nat.reduceEqDiff, Int.reduceToNat, reduceIte, tsO, hgi, hO2, byM_def]
        refine CallW.rt (IsDigit_v c _) (by kernel_rfl) rfl rfl ?_
        rintro _ O3 ⟨rfl, rfl⟩
        rw [hD]
        simp (disch := first | omega | (simp only [ds] <;> omega) | fail) only [ws, undefM, Nat.reduceLT, Nat.reduceAdd, Nat.reduceMul, Nat.reduceSub, Nat.reduceBEq, Nat.reduceEqDiff, Int.reduceToNat, reduceIte, tsO]
        refine VL.textS tabOk (el := 5) (l := [c]) rfl rfl (by rw [ty37]; rfl) (by rw [ty9]; rfl) (by rw [ty5]; rfl) rfl rfl rfl (WL.sound tabOk ?_)
        simp (disch := first | omega | (simp only [ds] <;> omega) | fail) only [ws, undefM, Nat.reduceLT, Nat.reduceAdd, Nat.reduceMul, Nat.reduceSub, Nat.reduceBEq, Nat.reduceEqDiff, Int.reduceToNat, reduceIte, tsO]
        refine CallW.rt (Contains1_v [46, 45, 95, 43] c _) (by kernel_rfl) rfl rfl ?_
        rintro _ O4 ⟨rfl, rfl⟩
        rw [hC]
        simp (disch := first | omega | (simp only [ds] <;> omega) | fail) only [ws, undefM, Nat.reduceLT, Nat.reduceAdd, Nat.reduceMul, Nat.reduceSub, Nat.reduceBEq, Nat.reduceEqDiff, Int.reduceToNat, reduceIte, tsO]
        exact hge0.trans hge2
  · have hjl : j = s.length := by omega
    subst hjl
    rw [List.take_length] at hall
    unfold mayF
    rw [hall]
    by_cases h0 : 0 < s.length
    · have e : decide (1 ≤ s.length) = true := decide_eq_true h0
      rw [e]
      by_cases h64 : s.length ≤ 64
      · simp (disch := first | omega | (simp only [ds] <;> omega) | fail) only [ws, undefM, Nat.reduceLT, Nat.reduceAdd, Nat.reduceMul, Nat.reduceSub, Nat.reduceBEq, Nat.reduceEqDiff, Int.reduceToNat, reduceIte, tsO]
        exact hge0.trans hge2
      · simp (disch := first | omega | (simp only [ds] <;> omega) | fail) only [ws, undefM, Nat.reduceLT, Nat.reduceAdd, Nat.reduceMul, Nat.reduceSub, Nat.reduceBEq, Nat.reduceEqDiff, Int.reduceToNat, reduceIte, tsO]
        exact hge0.trans hge2
    · have e : decide (1 ≤ s.length) = false := decide_eq_false (by omega)
      rw [e]
      simp (disch := first | omega | (simp only [ds] <;> omega) | fail) only [ws, undefM, Nat.reduceLT, Nat.reduceAdd, Nat.reduceMul, Nat.reduceSub, Nat.reduceBEq, Nat.reduceEqDiff, Int.reduceToNat, reduceIte, tsO]
      exact hge0.trans hge2
end Go.Proofs.YtjbpnhmjnkolbaaDoor
