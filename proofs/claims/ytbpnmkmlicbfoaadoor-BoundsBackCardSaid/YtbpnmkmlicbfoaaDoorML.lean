/-
  Texts BndE BndF BndG BndH BndI BndJ, one behind the other.
-/
import Derived.Test.YtbpnmkmlicbfoaaDoorMK
/-
  The package bounds: an interval read, walked.
-/
set_option linter.unusedVariables false
set_option linter.unusedSimpArgs false
namespace Go.Proofs.YtbpnmkmlicbfoaaDoor
open Go.RowKit
set_option maxRecDepth 10000
/-- An end: is there one, its version, does it belong to the interval. -/
abbrev En := Bool × List UInt8 × Bool
def enM (e : En) : List MV := [mb e.1, .str e.2.1, mb e.2.2]
def endF (v : List UInt8) (c : Bool) : En := if v == [] then (false, [], false) else (true, v, c)
def ivM (x : En × En) : List MV := enM x.1 ++ enM x.2
/-- bounds.end -/
theorem end_v (v : List UInt8) (c : Bool) (O : VH) : VF Tryd.prog 55 [.str v, mb c] O (Ret fun m O' => m = .agg (enM (endF v c)) ∧ O.Ge O') := by
  have hge := fun x => (VH.Ge.refl O).push x
  unfold endF
  refine VF.ofW (n := ⟨11, 0⟩) (rs := [.cell 4 55]) tabOk Tryd.func55 rfl rfl rfl (Nat.le_of_ble_eq_true rfl) ?_
  simp only [argEnv, Nat.zero_add, Nat.reduceAdd]
  cases h : v == []
  · simp (disch := first | omega | (simp only [ds] <;> omega) | fail) only [wk, undefM, Nat.reduceLT, Nat.reduceAdd, Nat.reduceMul, Nat.reduceSub, Nat.reduceBEq, Nat.reduceEqDiff, Int.reduceToNat, reduceIte, tsD, h]
    exact ⟨rfl, (hge _).set (Nat.le_refl _) _⟩
  · simp (disch := first | omega | (simp only [ds] <;> omega) | fail) only [wk, undefM, Nat.reduceLT, Nat.reduceAdd, Nat.reduceMul, Nat.reduceSub, Nat.reduceBEq, Nat.reduceEqDiff, Int.reduceToNat, reduceIte, tsD, h]
    exact ⟨rfl, (hge _).set (Nat.le_refl _) _⟩
/-- pomaceref05.end -/
theorem rEnd_v (v : List UInt8) (c : Bool) (O : VH) : VF Tryd.prog 33 [.str v, mb c] O (Ret fun m O' => m = .agg (enM (endF v c)) ∧ O.Ge O') := by
  have hge := fun x => (VH.Ge.refl O).push x
  unfold endF
  refine VF.ofW (n := ⟨11, 0⟩) (rs := [.cell 4 55]) tabOk Tryd.func33 rfl rfl rfl (Nat.le_of_ble_eq_true rfl) ?_
  simp only [argEnv, Nat.zero_add, Nat.reduceAdd]
  cases h : v == []
  · simp (disch := first | omega | (simp only [ds] <;> omega) | fail) only [wk, undefM, Nat.reduceLT, Nat.reduceAdd, Nat.reduceMul, Nat.reduceSub, Nat.reduceBEq, Nat.reduceEqDiff, Int.reduceToNat, reduceIte, tsD, h]
    exact ⟨rfl, (hge _).set (Nat.le_refl _) _⟩
  · simp (disch := first | omega | (simp only [ds] <;> omega) | fail) only [wk, undefM, Nat.reduceLT, Nat.reduceAdd, Nat.reduceMul, Nat.reduceSub, Nat.reduceBEq, Nat.reduceEqDiff, Int.reduceToNat, reduceIte, tsD, h]
    exact ⟨rfl, (hge _).set (Nat.le_refl _) _⟩
/-- An interval at the front of a text, and what stands behind it. -/
def ivF (s : List UInt8) : Option ((En × En) × List UInt8) :=
  if ([91, 40] : List UInt8).contains (headB s) then
    if headB (wordB (s.drop 1)).2 == 93 && headB s == 91 then some (((true, (wordB (s.drop 1)).1, true), (true, (wordB (s.drop 1)).1, true)), (wordB (s.drop 1)).2.drop 1)
    else if ([44] : List UInt8).contains (headB (wordB (s.drop 1)).2) then
      if ([93, 41] : List UInt8).contains (headB (wordB ((wordB (s.drop 1)).2.drop 1)).2) then
        some ((endF (wordB (s.drop 1)).1 (headB s == 91), endF (wordB ((wordB (s.drop 1)).2.drop 1)).1 (headB (wordB ((wordB (s.drop 1)).2.drop 1)).2 == 93)), (wordB ((wordB (s.drop 1)).2.drop 1)).2.drop 1)
      else none
    else none
  else none
theorem RdAt.push {O : VH} {b : Nat} {s : List UInt8} (h : RdAt O b s) (x : VObj) : RdAt (O.push x) b s := h.upd ((VH.Ge.refl O).push x)
theorem RdAt.other {O : VH} {b k : Nat} {s : List UInt8} (h : RdAt O b s) (x : VObj) (hk : b ≠ k) : RdAt (O.set k x) b s := ⟨h.1, (VH.set_ne _ _ hk).trans h.2⟩
theorem Upd.newQ {O O1 O' : VH} {q : Option Nat} {k : Nat} (h : Upd O q O1) (h2 : Upd O1 (some k) O') (hk : O.next ≤ k) : Upd O q O' :=
  ⟨Nat.le_trans h.next h2.next, fun i hi hq => (h2.hp i (Nat.lt_of_lt_of_le hi h.next) (by intro e; injection e; omega)).trans (h.hp i hi hq)⟩
theorem Upd.pushQ {O O1 : VH} {q : Option Nat} {x : VObj} (h : Upd O q O1) : Upd O q (O1.push x) := h.trans Upd.push.any
theorem Upd.keep {O O1 : VH} {q k : Nat} (h : Upd O (some q) O1) (hk : k < O.next) (hq : q ≠ k) {x : VObj} (hx : O.hp k = some x) : O1.hp k = some x := (h.hp k hk (by intro e; injection e; omega)).trans hx
theorem byte_eq (c k : UInt8) : ((c.toNat : Int) == (k.toNat : Int)) = (c == k) := by
  rw [Bool.eq_iff_iff]; simp only [beq_iff_eq]
  exact ⟨fun e => UInt8.toNat_inj.1 (by omega), fun e => by rw [e]⟩
/-- (*bounds.reader).interval -/
theorem interval_v {O : VH} {b : Nat} {s : List UInt8} (h : RdAt O b s) (hs : s.length ≤ maxLen) : VF Tryd.prog 29 [.ptr b 0] O fun r O' => Upd O (some b) O' ∧ match r with
    | .ret m => ∃ x rest, ivF s = some (x, rest) ∧ m = .agg (ivM x) ∧ RdAt O' b rest
    | .panic m => m = faultM ∧ ivF s = none := by
  have hm : (s.length : Int) ≤ 9223372036854775807 := by simp [maxLen] at hs; omega
  have hiv : ivF s = _ := rfl
  conv at hiv => rhs; unfold ivF
  refine VF.ofW (n := ⟨41, 0⟩) (rs := [.cell 2 57]) tabOk Tryd.func29 rfl rfl rfl (Nat.le_of_ble_eq_true rfl) ?_
  simp only [argEnv, Nat.zero_add, Nat.reduceAdd]
  have hbO : b < O.next := h.1
  have h1 := h.push (.cells [.v (.bool false), .str [], .v (.bool false), .v (.bool false), .str [], .v (.bool false)])
  have hu1 : Upd O (some b) (O.push (.cells [.v (.bool false), .str [], .v (.bool false), .v (.bool false), .str [], .v (.bool false)])) := Upd.push.any
  have hk1 := VH.push_new O (.cells [.v (.bool false), .str [], .v (.bool false), .v (.bool false), .str [], .v (.bool false)])
  have hn1 : O.next < (O.push (.cells [.v (.bool false), .str [], .v (.bool false), .v (.bool false), .str [], .v (.bool false)])).next := Nat.lt_succ_self _
  simp (disch := first | omega | (simp only [ds] <;> omega) | fail) only [wk, undefM, Nat.reduceLT, Nat.reduceAdd, Nat.reduceMul, Nat.reduceSub, Nat.reduceBEq, Nat.reduceEqDiff, Int.reduceToNat, reduceIte, tsD]
  generalize O.push (.cells [.v (.bool false), .str [], .v (.bool false), .v (.bool false), .str [], .v (.bool false)]) = O1 at *
  refine CallW.p (take_v [91, 40] h1 hs rfl) (by kernel_rfl) rfl rfl ?_ ?_
  rotate_left
  · rintro m O2 ⟨hu, rfl, hno⟩
    rw [if_neg (by rw [hno]; simp)] at hiv
    simp (disch := first | omega | (simp only [ds] <;> omega) | fail) only [wk, undefM, Nat.reduceLT, Nat.reduceAdd, Nat.reduceMul, Nat.reduceSub, Nat.reduceBEq, Nat.reduceEqDiff, Int.reduceToNat, reduceIte, wd]
    exact ⟨hu1.trans hu, hiv⟩
  rintro m O2 ⟨hu2, rfl, hc, h2⟩
  rw [if_pos hc] at hiv
  have hk2 := hu2.keep hn1 (by omega) hk1
  have hu2' := hu1.trans hu2
  have hn2 := Nat.lt_of_lt_of_le hn1 hu2.next
  clear hu2 hu1 hk1 h1 hn1
  have hl2 : (s.drop 1).length ≤ maxLen := by rw [List.length_drop]; omega
  have hwl := wordB_len (s.drop 1)
  simp (disch := first | omega | (simp only [ds] <;> omega) | fail) only [wk, undefM, Nat.reduceLT, Nat.reduceAdd, Nat.reduceMul, Nat.reduceSub, Nat.reduceBEq, Nat.reduceEqDiff, Int.reduceToNat, reduceIte, tsD, hk2]
  refine CallW.rt (word_v2 h2 hl2) (by kernel_rfl) rfl rfl ?_
  rintro _ O3 ⟨rfl, hu3, h3⟩
  have hk3 := hu3.keep hn2 (by omega) hk2
  have hu3' := hu2'.trans hu3
  have hn3 := Nat.lt_of_lt_of_le hn2 hu3.next
  clear hu2' hu3 hk2 hn2 h2
  generalize wordB (s.drop 1) = ws at *
  obtain ⟨lo, s2⟩ := ws
  dsimp only at h3 hiv hwl
  have hl3 : s2.length ≤ maxLen := Nat.le_trans hwl.2 hl2
  generalize headB s = c at *
  simp (disch := first | omega | (simp only [ds] <;> omega) | fail) only [wk, undefM, Nat.reduceLT, Nat.reduceAdd, Nat.reduceMul, Nat.reduceSub, Nat.reduceBEq, Nat.reduceEqDiff, Int.reduceToNat, reduceIte, tsD]
  refine CallW.rt (peek_v h3) (by kernel_rfl) rfl rfl ?_
  rintro _ OX ⟨rfl, eX⟩
  rw [eX]; clear eX OX
  cases hA : headB s2 == 93 && c == 91
  · rw [hA, if_neg (by simp)] at hiv
    have hA2 : (headB s2).toNat = 93 → c.toNat ≠ 91 := fun e1 e2 => by
      have h1 : headB s2 = 93 := UInt8.toNat_inj.1 e1
      have h2 : c = 91 := UInt8.toNat_inj.1 e2
      rw [h1, h2] at hA; exact absurd hA (by decide)
    have hcb : ((c.toNat : Int) == 91) = (c == 91) := byte_eq c 91
    by_cases e1 : (headB s2).toNat = 93
    · have e2 := hA2 e1
      simp (disch := first | omega | (simp only [ds] <;> omega) | fail) only [wk, undefM, Nat.reduceLT, Nat.reduceAdd, Nat.reduceMul, Nat.reduceSub, Nat.reduceBEq, Nat.reduceEqDiff, Int.reduceToNat, reduceIte, tsD, byM_def, e1, e2]
      refine CallW.p (take_v [44] h3 hl3 rfl) (by kernel_rfl) rfl rfl ?_ ?_
      rotate_left
      · rintro m O4 ⟨hu, rfl, hno⟩
        rw [if_neg (by rw [hno]; simp)] at hiv
        simp (disch := first | omega | (simp only [ds] <;> omega) | fail) only [wk, undefM, Nat.reduceLT, Nat.reduceAdd, Nat.reduceMul, Nat.reduceSub, Nat.reduceBEq, Nat.reduceEqDiff, Int.reduceToNat, reduceIte, wd]
        exact ⟨hu3'.trans hu, hiv⟩
      rintro m O4 ⟨hu4, rfl, hc4, h4⟩
      rw [if_pos hc4] at hiv
      have hk4 := hu4.keep hn3 (by omega) hk3
      have hn4 := Nat.lt_of_lt_of_le hn3 hu4.next
      have hu4' := hu3'.trans hu4
      have hl4 : (s2.drop 1).length ≤ maxLen := by rw [List.length_drop]; omega
      have hwl4 := wordB_len (s2.drop 1)
      simp (disch := first | omega | (simp only [ds] <;> omega) | fail) only [wk, undefM, Nat.reduceLT, Nat.reduceAdd, Nat.reduceMul, Nat.reduceSub, Nat.reduceBEq, Nat.reduceEqDiff, Int.reduceToNat, reduceIte, tsD]
      refine CallW.rt (word_v2 h4 hl4) (by kernel_rfl) rfl rfl ?_
      rintro _ O5 ⟨rfl, hu5, h5⟩
      have hk5 := hu5.keep hn4 (by omega) hk4
      have hn5 := Nat.lt_of_lt_of_le hn4 hu5.next
      have hu5' := hu4'.trans hu5
      generalize wordB (s2.drop 1) = ws at *
      obtain ⟨hi, s3⟩ := ws
      dsimp only at h5 hiv hwl4
      have hl5 : s3.length ≤ maxLen := Nat.le_trans hwl4.2 hl4
      simp (disch := first | omega | (simp only [ds] <;> omega) | fail) only [wk, undefM, Nat.reduceLT, Nat.reduceAdd, Nat.reduceMul, Nat.reduceSub, Nat.reduceBEq, Nat.reduceEqDiff, Int.reduceToNat, reduceIte, tsD]
      refine CallW.p (take_v [93, 41] h5 hl5 rfl) (by kernel_rfl) rfl rfl ?_ ?_
      rotate_left
      · rintro m O6 ⟨hu, rfl, hno⟩
        rw [if_neg (by rw [hno]; simp)] at hiv
        simp (disch := first | omega | (simp only [ds] <;> omega) | fail) only [wk, undefM, Nat.reduceLT, Nat.reduceAdd, Nat.reduceMul, Nat.reduceSub, Nat.reduceBEq, Nat.reduceEqDiff, Int.reduceToNat, reduceIte, wd]
        exact ⟨hu5'.trans hu, hiv⟩
      rintro m O6 ⟨hu6, rfl, hc6, h6⟩
      rw [if_pos hc6] at hiv
      have hk6 := hu6.keep hn5 (by omega) hk5
      have hn6 := Nat.lt_of_lt_of_le hn5 hu6.next
      have hu6' := hu5'.trans hu6
      have hsb : (((headB s3).toNat : Int) == 93) = (headB s3 == 93) := byte_eq (headB s3) 93
      generalize headB s3 = d at *
      simp (disch := first | omega | (simp only [ds] <;> omega) | fail) only [wk, undefM, Nat.reduceLT, Nat.reduceAdd, Nat.reduceMul, Nat.reduceSub, Nat.reduceBEq, Nat.reduceEqDiff, Int.reduceToNat, reduceIte, tsD, byM_def, hcb, hsb]
      refine CallW.rt (end_v lo (c == 91) _) (by kernel_rfl) rfl rfl ?_
      rintro _ O7 ⟨rfl, hg7⟩
      simp (disch := first | omega | (simp only [ds] <;> omega) | fail) only [wk, undefM, Nat.reduceLT, Nat.reduceAdd, Nat.reduceMul, Nat.reduceSub, Nat.reduceBEq, Nat.reduceEqDiff, Int.reduceToNat, reduceIte, tsD, byM_def, hcb, hsb]
      refine CallW.rt (end_v hi (d == 93) _) (by kernel_rfl) rfl rfl ?_
      rintro _ O8 ⟨rfl, hg8⟩
      have hg68 := hg7.trans hg8
      have hk8 := (hg68.hp _ hn6).trans hk6
      have h8 := h6.upd hg68
      simp (disch := first | omega | (simp only [ds] <;> omega) | fail) only [wk, undefM, Nat.reduceLT, Nat.reduceAdd, Nat.reduceMul, Nat.reduceSub, Nat.reduceBEq, Nat.reduceEqDiff, Int.reduceToNat, reduceIte, tsD, hk8, enM]
      refine ⟨?_, _, _, hiv, rfl, h8.other _ (by omega)⟩
      exact (hu6'.trans (Upd.ofGe' hg68)).newQ Upd.set (Nat.le_refl _)
    · simp (disch := first | omega | (simp only [ds] <;> omega) | fail) only [wk, undefM, Nat.reduceLT, Nat.reduceAdd, Nat.reduceMul, Nat.reduceSub, Nat.reduceBEq, Nat.reduceEqDiff, Int.reduceToNat, reduceIte, tsD, byM_def, e1]
      refine CallW.p (take_v [44] h3 hl3 rfl) (by kernel_rfl) rfl rfl ?_ ?_
      rotate_left
      · rintro m O4 ⟨hu, rfl, hno⟩
        rw [if_neg (by rw [hno]; simp)] at hiv
        simp (disch := first | omega | (simp only [ds] <;> omega) | fail) only [wk, undefM, Nat.reduceLT, Nat.reduceAdd, Nat.reduceMul, Nat.reduceSub, Nat.reduceBEq, Nat.reduceEqDiff, Int.reduceToNat, reduceIte, wd]
        exact ⟨hu3'.trans hu, hiv⟩
      rintro m O4 ⟨hu4, rfl, hc4, h4⟩
      rw [if_pos hc4] at hiv
      have hk4 := hu4.keep hn3 (by omega) hk3
      have hn4 := Nat.lt_of_lt_of_le hn3 hu4.next
      have hu4' := hu3'.trans hu4
      have hl4 : (s2.drop 1).length ≤ maxLen := by rw [List.length_drop]; omega
      have hwl4 := wordB_len (s2.drop 1)
      simp (disch := first | omega | (simp only [ds] <;> omega) | fail) only [wk, undefM, Nat.reduceLT, Nat.reduceAdd, Nat.reduceMul, Nat.reduceSub, Nat.reduceBEq, Nat.reduceEqDiff, Int.reduceToNat, reduceIte, tsD]
      refine CallW.rt (word_v2 h4 hl4) (by kernel_rfl) rfl rfl ?_
      rintro _ O5 ⟨rfl, hu5, h5⟩
      have hk5 := hu5.keep hn4 (by omega) hk4
      have hn5 := Nat.lt_of_lt_of_le hn4 hu5.next
      have hu5' := hu4'.trans hu5
      generalize wordB (s2.drop 1) = ws at *
      obtain ⟨hi, s3⟩ := ws
      dsimp only at h5 hiv hwl4
      have hl5 : s3.length ≤ maxLen := Nat.le_trans hwl4.2 hl4
      simp (disch := first | omega | (simp only [ds] <;> omega) | fail) only [wk, undefM, Nat.reduceLT, Nat.reduceAdd, Nat.reduceMul, Nat.reduceSub, Nat.reduceBEq, Nat.reduceEqDiff, Int.reduceToNat, reduceIte, tsD]
      refine CallW.p (take_v [93, 41] h5 hl5 rfl) (by kernel_rfl) rfl rfl ?_ ?_
      rotate_left
      · rintro m O6 ⟨hu, rfl, hno⟩
        rw [if_neg (by rw [hno]; simp)] at hiv
        simp (disch := first | omega | (simp only [ds] <;> omega) | fail) only [wk, undefM, Nat.reduceLT, Nat.reduceAdd, Nat.reduceMul, Nat.reduceSub, Nat.reduceBEq, Nat.reduceEqDiff, Int.reduceToNat, reduceIte, wd]
        exact ⟨hu5'.trans hu, hiv⟩
      rintro m O6 ⟨hu6, rfl, hc6, h6⟩
      rw [if_pos hc6] at hiv
      have hk6 := hu6.keep hn5 (by omega) hk5
      have hn6 := Nat.lt_of_lt_of_le hn5 hu6.next
      have hu6' := hu5'.trans hu6
      have hsb : (((headB s3).toNat : Int) == 93) = (headB s3 == 93) := byte_eq (headB s3) 93
      generalize headB s3 = d at *
      simp (disch := first | omega | (simp only [ds] <;> omega) | fail) only [wk, undefM, Nat.reduceLT, Nat.reduceAdd, Nat.reduceMul, Nat.reduceSub, Nat.reduceBEq, Nat.reduceEqDiff, Int.reduceToNat, reduceIte, tsD, byM_def, hcb, hsb]
      refine CallW.rt (end_v lo (c == 91) _) (by kernel_rfl) rfl rfl ?_
      rintro _ O7 ⟨rfl, hg7⟩
      simp (disch := first | omega | (simp only [ds] <;> omega) | fail) only [wk, undefM, Nat.reduceLT, Nat.reduceAdd, Nat.reduceMul, Nat.reduceSub, Nat.reduceBEq, Nat.reduceEqDiff, Int.reduceToNat, reduceIte, tsD, byM_def, hcb, hsb]
      refine CallW.rt (end_v hi (d == 93) _) (by kernel_rfl) rfl rfl ?_
      rintro _ O8 ⟨rfl, hg8⟩
      have hg68 := hg7.trans hg8
      have hk8 := (hg68.hp _ hn6).trans hk6
      have h8 := h6.upd hg68
      simp (disch := first | omega | (simp only [ds] <;> omega) | fail) only [wk, undefM, Nat.reduceLT, Nat.reduceAdd, Nat.reduceMul, Nat.reduceSub, Nat.reduceBEq, Nat.reduceEqDiff, Int.reduceToNat, reduceIte, tsD, hk8, enM]
      refine ⟨?_, _, _, hiv, rfl, h8.other _ (by omega)⟩
      exact (hu6'.trans (Upd.ofGe' hg68)).newQ Upd.set (Nat.le_refl _)
  · rw [hA, if_pos rfl] at hiv
    rw [Bool.and_eq_true] at hA
    have e1 : headB s2 = 93 := by simpa using hA.1
    have e2 : c = 91 := by simpa using hA.2
    have e1' : (headB s2).toNat = 93 := by rw [e1]; rfl
    have e2' : c.toNat = 91 := by rw [e2]; rfl
    simp (disch := first | omega | (simp only [ds] <;> omega) | fail) only [wk, undefM, Nat.reduceLT, Nat.reduceAdd, Nat.reduceMul, Nat.reduceSub, Nat.reduceBEq, Nat.reduceEqDiff, Int.reduceToNat, reduceIte, tsD, byM_def, e1', e2']
    refine CallW.p (take_v [93] h3 hl3 rfl) (by kernel_rfl) rfl rfl ?_ ?_
    rotate_left
    · rintro m O4 ⟨_, _, hno⟩
      rw [e1] at hno; exact absurd hno (by decide)
    rintro m O4 ⟨hu4, rfl, _, h4⟩
    have hk4 := hu4.keep hn3 (by omega) hk3
    have hn4 := Nat.lt_of_lt_of_le hn3 hu4.next
    have hu4' := hu3'.trans hu4
    simp (disch := first | omega | (simp only [ds] <;> omega) | fail) only [wk, undefM, Nat.reduceLT, Nat.reduceAdd, Nat.reduceMul, Nat.reduceSub, Nat.reduceBEq, Nat.reduceEqDiff, Int.reduceToNat, reduceIte, tsD, hk4]
    refine ⟨?_, _, _, hiv, rfl, ?_⟩
    · exact ((hu4'.pushQ).newQ Upd.set (by omega)).newQ Upd.set (Nat.le_refl _)
    · exact ((h4.push _).other _ (by omega)).other _ (by omega)
end Go.Proofs.YtbpnmkmlicbfoaaDoor

/-
  The package bounds and its reference: ends, walked.
-/
set_option linter.unusedVariables false
set_option linter.unusedSimpArgs false
namespace Go.Proofs.YtbpnmkmlicbfoaaDoor
open Go.RowKit
set_option maxRecDepth 10000
def endOk (e : En) : Bool := if e.1 then mayF e.2.1 else (e.2.1 == [] && !e.2.2)
def belowF (lo hi : En) : Bool := !lo.1 || !hi.1 || (decide (compareV lo.2.1 hi.2.1 < 0) || (compareV lo.2.1 hi.2.1 == 0 && lo.2.2 && hi.2.2))
def aheadF (hi lo : En) : Bool := hi.1 && lo.1 && (decide (compareV hi.2.1 lo.2.1 < 0) || (compareV hi.2.1 lo.2.1 == 0 && !(hi.2.2 && lo.2.2)))
/-- bounds.isEnd -/
theorem isEnd_v (e : En) (O : VH) (he : e.2.1.length ≤ 10000) : VF Tryd.prog 48 [.agg (enM e)] O (Ret fun m O' => m = mb (endOk e) ∧ O.Ge O') := by
  obtain ⟨h, v, c⟩ := e
  have hge := (VH.Ge.refl O).push (.cells [.v (.bool h), .str v, .v (.bool c)])
  have hl : v.length ≤ maxLen := Nat.le_trans he (by decide)
  unfold endOk
  dsimp only at he ⊢
  refine VF.ofW (n := ⟨15, 0⟩) (rs := [.tmp 2]) tabOk Tryd.func48 rfl rfl rfl (Nat.le_of_ble_eq_true rfl) ?_
  simp only [argEnv, Nat.zero_add, Nat.reduceAdd]
  simp (disch := first | omega | (simp only [ds] <;> omega) | fail) only [wk, undefM, Nat.reduceLT, Nat.reduceAdd, Nat.reduceMul, Nat.reduceSub, Nat.reduceBEq, Nat.reduceEqDiff, Int.reduceToNat, reduceIte, tsD, enM, vbin_agg]
  refine VL.eqS tabOk (bb := (h == false) && ((v == []) && ((c == false) && true))) (b := (h == false) && ((v == []) && ((c == false) && true))) (by simp) (by simp [isPlain]) (.inl ⟨rfl, rfl⟩) (by kernel_rfl) (by kernel_rfl) rfl rfl rfl rfl ?_
  cases h
  · cases hv : v == [] <;> cases c
    all_goals
      simp (disch := first | omega | (simp only [ds] <;> omega) | fail) only [wk, undefM, Nat.reduceLT, Nat.reduceAdd, Nat.reduceMul, Nat.reduceSub, Nat.reduceBEq, Nat.reduceEqDiff, Int.reduceToNat, reduceIte, tsD, BEq.rfl, beq_self_eq_true, hv]
      exact hge
  · simp (disch := first | omega | (simp only [ds] <;> omega) | fail) only [wk, undefM, Nat.reduceLT, Nat.reduceAdd, Nat.reduceMul, Nat.reduceSub, Nat.reduceBEq, Nat.reduceEqDiff, Int.reduceToNat, reduceIte, tsD]
    refine CallW.rt (May_v v _ hl) (by kernel_rfl) rfl rfl ?_
    rintro _ O2 ⟨rfl, hg2⟩
    simp (disch := first | omega | (simp only [ds] <;> omega) | fail) only [wk, undefM, Nat.reduceLT, Nat.reduceAdd, Nat.reduceMul, Nat.reduceSub, Nat.reduceBEq, Nat.reduceEqDiff, Int.reduceToNat, reduceIte, tsD]
    exact hge.trans hg2
/-- bounds.isBelow -/
theorem isBelow_v (lo hi : En) (O : VH) (hlo : lo.2.1.length ≤ 10000) (hhi : hi.2.1.length ≤ 10000) : VF Tryd.prog 46 [.agg (enM lo), .agg (enM hi)] O (Ret fun m O' => m = mb (belowF lo hi) ∧ O.Ge O') := by
  unfold belowF
  obtain ⟨h1, v1, c1⟩ := lo
  obtain ⟨h2, v2, c2⟩ := hi
  have hge := ((VH.Ge.refl O).push (.cells [.v (.bool h1), .str v1, .v (.bool c1)])).push (.cells [.v (.bool h2), .str v2, .v (.bool c2)])
  have hk1 : ((O.push (.cells [.v (.bool h1), .str v1, .v (.bool c1)])).push (.cells [.v (.bool h2), .str v2, .v (.bool c2)])).hp O.next = some (.cells [.v (.bool h1), .str v1, .v (.bool c1)]) := (VH.push_ne _ _ (by show O.next ≠ O.next + 1; omega)).trans (VH.push_new O _)
  have hk2 : ((O.push (.cells [.v (.bool h1), .str v1, .v (.bool c1)])).push (.cells [.v (.bool h2), .str v2, .v (.bool c2)])).hp (O.next + 1) = some (.cells [.v (.bool h2), .str v2, .v (.bool c2)]) := VH.push_new _ _
  have hn : ((O.push (.cells [.v (.bool h1), .str v1, .v (.bool c1)])).push (.cells [.v (.bool h2), .str v2, .v (.bool c2)])).next = O.next + 2 := rfl
  dsimp only at hlo hhi ⊢
  refine VF.ofW (n := ⟨33, 0⟩) (rs := [.tmp 4]) tabOk Tryd.func46 rfl rfl rfl (Nat.le_of_ble_eq_true rfl) ?_
  simp only [argEnv, Nat.zero_add, Nat.reduceAdd]
  cases h1
  · simp (disch := first | omega | (simp only [ds] <;> omega) | fail) only [wk, undefM, Nat.reduceLT, Nat.reduceAdd, Nat.reduceMul, Nat.reduceSub, Nat.reduceBEq, Nat.reduceEqDiff, Int.reduceToNat, reduceIte, tsD, enM]
    exact hge
  cases h2
  · simp (disch := first | omega | (simp only [ds] <;> omega) | fail) only [wk, undefM, Nat.reduceLT, Nat.reduceAdd, Nat.reduceMul, Nat.reduceSub, Nat.reduceBEq, Nat.reduceEqDiff, Int.reduceToNat, reduceIte, tsD, enM]
    exact hge
  simp (disch := first | omega | (simp only [ds] <;> omega) | fail) only [wk, undefM, Nat.reduceLT, Nat.reduceAdd, Nat.reduceMul, Nat.reduceSub, Nat.reduceBEq, Nat.reduceEqDiff, Int.reduceToNat, reduceIte, tsD, enM]
  generalize ((O.push (.cells [.v (.bool true), .str v1, .v (.bool c1)])).push (.cells [.v (.bool true), .str v2, .v (.bool c2)])) = OX at *
  refine CallW.rt (Compare_v v1 v2 _ hlo hhi) (by kernel_rfl) rfl rfl ?_
  rintro _ O3 ⟨rfl, hg3⟩
  have hk1' := (hg3.hp _ (by omega)).trans hk1
  have hk2' := (hg3.hp _ (by omega)).trans hk2
  have hgg := hge.trans hg3
  generalize compareV v1 v2 = n at *
  by_cases e1 : n < 0
  · simp (disch := first | omega | (simp only [ds] <;> omega) | fail) only [wk, undefM, Nat.reduceLT, Nat.reduceAdd, Nat.reduceMul, Nat.reduceSub, Nat.reduceBEq, Nat.reduceEqDiff, Int.reduceToNat, reduceIte, tsD, hk1', hk2', e1]
    exact hgg
  · by_cases e2 : n = 0
    · subst e2
      cases c1
      · simp (disch := first | omega | (simp only [ds] <;> omega) | fail) only [wk, undefM, Nat.reduceLT, Nat.reduceAdd, Nat.reduceMul, Nat.reduceSub, Nat.reduceBEq, Nat.reduceEqDiff, Int.reduceToNat, reduceIte, tsD, hk1', hk2', Int.lt_irrefl]
        exact hgg
      · simp (disch := first | omega | (simp only [ds] <;> omega) | fail) only [wk, undefM, Nat.reduceLT, Nat.reduceAdd, Nat.reduceMul, Nat.reduceSub, Nat.reduceBEq, Nat.reduceEqDiff, Int.reduceToNat, reduceIte, tsD, hk1', hk2', Int.lt_irrefl]
        exact hgg
    · have e3 : (n == 0) = false := by simpa using e2
      simp (disch := first | omega | (simp only [ds] <;> omega) | fail) only [wk, undefM, Nat.reduceLT, Nat.reduceAdd, Nat.reduceMul, Nat.reduceSub, Nat.reduceBEq, Nat.reduceEqDiff, Int.reduceToNat, reduceIte, tsD, hk1', hk2', e1, e3]
      exact hgg
/-- bounds.isAhead -/
theorem isAhead_v (lo hi : En) (O : VH) (hlo : lo.2.1.length ≤ 10000) (hhi : hi.2.1.length ≤ 10000) : VF Tryd.prog 49 [.agg (enM lo), .agg (enM hi)] O (Ret fun m O' => m = mb (aheadF lo hi) ∧ O.Ge O') := by
  unfold aheadF
  obtain ⟨h1, v1, c1⟩ := lo
  obtain ⟨h2, v2, c2⟩ := hi
  have hge := ((VH.Ge.refl O).push (.cells [.v (.bool h1), .str v1, .v (.bool c1)])).push (.cells [.v (.bool h2), .str v2, .v (.bool c2)])
  have hk1 : ((O.push (.cells [.v (.bool h1), .str v1, .v (.bool c1)])).push (.cells [.v (.bool h2), .str v2, .v (.bool c2)])).hp O.next = some (.cells [.v (.bool h1), .str v1, .v (.bool c1)]) := (VH.push_ne _ _ (by show O.next ≠ O.next + 1; omega)).trans (VH.push_new O _)
  have hk2 : ((O.push (.cells [.v (.bool h1), .str v1, .v (.bool c1)])).push (.cells [.v (.bool h2), .str v2, .v (.bool c2)])).hp (O.next + 1) = some (.cells [.v (.bool h2), .str v2, .v (.bool c2)]) := VH.push_new _ _
  have hn : ((O.push (.cells [.v (.bool h1), .str v1, .v (.bool c1)])).push (.cells [.v (.bool h2), .str v2, .v (.bool c2)])).next = O.next + 2 := rfl
  dsimp only at hlo hhi ⊢
  refine VF.ofW (n := ⟨34, 0⟩) (rs := [.tmp 4]) tabOk Tryd.func49 rfl rfl rfl (Nat.le_of_ble_eq_true rfl) ?_
  simp only [argEnv, Nat.zero_add, Nat.reduceAdd]
  cases h1
  · simp (disch := first | omega | (simp only [ds] <;> omega) | fail) only [wk, undefM, Nat.reduceLT, Nat.reduceAdd, Nat.reduceMul, Nat.reduceSub, Nat.reduceBEq, Nat.reduceEqDiff, Int.reduceToNat, reduceIte, tsD, enM]
    exact hge
  cases h2
  · simp (disch := first | omega | (simp only [ds] <;> omega) | fail) only [wk, undefM, Nat.reduceLT, Nat.reduceAdd, Nat.reduceMul, Nat.reduceSub, Nat.reduceBEq, Nat.reduceEqDiff, Int.reduceToNat, reduceIte, tsD, enM]
    exact hge
  simp (disch := first | omega | (simp only [ds] <;> omega) | fail) only [wk, undefM, Nat.reduceLT, Nat.reduceAdd, Nat.reduceMul, Nat.reduceSub, Nat.reduceBEq, Nat.reduceEqDiff, Int.reduceToNat, reduceIte, tsD, enM]
  generalize ((O.push (.cells [.v (.bool true), .str v1, .v (.bool c1)])).push (.cells [.v (.bool true), .str v2, .v (.bool c2)])) = OX at *
  refine CallW.rt (Compare_v v1 v2 _ hlo hhi) (by kernel_rfl) rfl rfl ?_
  rintro _ O3 ⟨rfl, hg3⟩
  have hk1' := (hg3.hp _ (by omega)).trans hk1
  have hk2' := (hg3.hp _ (by omega)).trans hk2
  have hgg := hge.trans hg3
  generalize compareV v1 v2 = n at *
  by_cases e1 : n < 0
  · simp (disch := first | omega | (simp only [ds] <;> omega) | fail) only [wk, undefM, Nat.reduceLT, Nat.reduceAdd, Nat.reduceMul, Nat.reduceSub, Nat.reduceBEq, Nat.reduceEqDiff, Int.reduceToNat, reduceIte, tsD, hk1', hk2', e1]
    exact hgg
  · by_cases e2 : n = 0
    · subst e2
      cases c1
      · simp (disch := first | omega | (simp only [ds] <;> omega) | fail) only [wk, undefM, Nat.reduceLT, Nat.reduceAdd, Nat.reduceMul, Nat.reduceSub, Nat.reduceBEq, Nat.reduceEqDiff, Int.reduceToNat, reduceIte, tsD, hk1', hk2', Int.lt_irrefl]
        exact hgg
      · simp (disch := first | omega | (simp only [ds] <;> omega) | fail) only [wk, undefM, Nat.reduceLT, Nat.reduceAdd, Nat.reduceMul, Nat.reduceSub, Nat.reduceBEq, Nat.reduceEqDiff, Int.reduceToNat, reduceIte, tsD, hk1', hk2', Int.lt_irrefl]
        exact hgg
    · have e3 : (n == 0) = false := by simpa using e2
      simp (disch := first | omega | (simp only [ds] <;> omega) | fail) only [wk, undefM, Nat.reduceLT, Nat.reduceAdd, Nat.reduceMul, Nat.reduceSub, Nat.reduceBEq, Nat.reduceEqDiff, Int.reduceToNat, reduceIte, tsD, hk1', hk2', e1, e3]
      exact hgg
/-- pomaceref05.mayEnd -/
theorem rMayEnd_v (e : En) (O : VH) (he : e.2.1.length ≤ 10000) : VF Tryd.prog 42 [.agg (enM e)] O (Ret fun m O' => m = mb (endOk e) ∧ O.Ge O') := by
  obtain ⟨h, v, c⟩ := e
  have hge := (VH.Ge.refl O).push (.cells [.v (.bool h), .str v, .v (.bool c)])
  have hl : v.length ≤ maxLen := Nat.le_trans he (by decide)
  unfold endOk
  dsimp only at he ⊢
  refine VF.ofW (n := ⟨17, 0⟩) (rs := [.tmp 2]) tabOk Tryd.func42 rfl rfl rfl (Nat.le_of_ble_eq_true rfl) ?_
  simp only [argEnv, Nat.zero_add, Nat.reduceAdd]
  cases h
  · cases hv : v == [] <;> cases c
    all_goals
      simp (disch := first | omega | (simp only [ds] <;> omega) | fail) only [wk, undefM, Nat.reduceLT, Nat.reduceAdd, Nat.reduceMul, Nat.reduceSub, Nat.reduceBEq, Nat.reduceEqDiff, Int.reduceToNat, reduceIte, tsD, enM, BEq.rfl, beq_self_eq_true, hv]
      exact hge
  · simp (disch := first | omega | (simp only [ds] <;> omega) | fail) only [wk, undefM, Nat.reduceLT, Nat.reduceAdd, Nat.reduceMul, Nat.reduceSub, Nat.reduceBEq, Nat.reduceEqDiff, Int.reduceToNat, reduceIte, tsD, enM]
    refine CallW.rt (rMay_v v _ hl) (by kernel_rfl) rfl rfl ?_
    rintro _ O2 ⟨rfl, rfl⟩
    simp (disch := first | omega | (simp only [ds] <;> omega) | fail) only [wk, undefM, Nat.reduceLT, Nat.reduceAdd, Nat.reduceMul, Nat.reduceSub, Nat.reduceBEq, Nat.reduceEqDiff, Int.reduceToNat, reduceIte, tsD]
    exact hge
/-- pomaceref05.below -/
theorem rBelow_v (lo hi : En) (O : VH) (hlo : lo.2.1.length ≤ 10000) (hhi : hi.2.1.length ≤ 10000) : VF Tryd.prog 43 [.agg (enM lo), .agg (enM hi)] O (Ret fun m O' => m = mb (belowF lo hi) ∧ O.Ge O') := by
  unfold belowF
  obtain ⟨h1, v1, c1⟩ := lo
  obtain ⟨h2, v2, c2⟩ := hi
  have hge := ((VH.Ge.refl O).push (.cells [.v (.bool h1), .str v1, .v (.bool c1)])).push (.cells [.v (.bool h2), .str v2, .v (.bool c2)])
  have hk1 : ((O.push (.cells [.v (.bool h1), .str v1, .v (.bool c1)])).push (.cells [.v (.bool h2), .str v2, .v (.bool c2)])).hp O.next = some (.cells [.v (.bool h1), .str v1, .v (.bool c1)]) := (VH.push_ne _ _ (by show O.next ≠ O.next + 1; omega)).trans (VH.push_new O _)
  have hk2 : ((O.push (.cells [.v (.bool h1), .str v1, .v (.bool c1)])).push (.cells [.v (.bool h2), .str v2, .v (.bool c2)])).hp (O.next + 1) = some (.cells [.v (.bool h2), .str v2, .v (.bool c2)]) := VH.push_new _ _
  have hn : ((O.push (.cells [.v (.bool h1), .str v1, .v (.bool c1)])).push (.cells [.v (.bool h2), .str v2, .v (.bool c2)])).next = O.next + 2 := rfl
  dsimp only at hlo hhi ⊢
  refine VF.ofW (n := ⟨33, 0⟩) (rs := [.tmp 4]) tabOk Tryd.func43 rfl rfl rfl (Nat.le_of_ble_eq_true rfl) ?_
  simp only [argEnv, Nat.zero_add, Nat.reduceAdd]
  cases h1
  · simp (disch := first | omega | (simp only [ds] <;> omega) | fail) only [wk, undefM, Nat.reduceLT, Nat.reduceAdd, Nat.reduceMul, Nat.reduceSub, Nat.reduceBEq, Nat.reduceEqDiff, Int.reduceToNat, reduceIte, tsD, enM]
    exact hge
  cases h2
  · simp (disch := first | omega | (simp only [ds] <;> omega) | fail) only [wk, undefM, Nat.reduceLT, Nat.reduceAdd, Nat.reduceMul, Nat.reduceSub, Nat.reduceBEq, Nat.reduceEqDiff, Int.reduceToNat, reduceIte, tsD, enM]
    exact hge
  simp (disch := first | omega | (simp only [ds] <;> omega) | fail) only [wk, undefM, Nat.reduceLT, Nat.reduceAdd, Nat.reduceMul, Nat.reduceSub, Nat.reduceBEq, Nat.reduceEqDiff, Int.reduceToNat, reduceIte, tsD, enM]
  generalize ((O.push (.cells [.v (.bool true), .str v1, .v (.bool c1)])).push (.cells [.v (.bool true), .str v2, .v (.bool c2)])) = OX at *
  refine CallW.rt (refCompare_v v1 v2 _ hlo hhi) (by kernel_rfl) rfl rfl ?_
  rintro _ O3 ⟨rfl, hg3⟩
  have hk1' := (hg3.hp _ (by omega)).trans hk1
  have hk2' := (hg3.hp _ (by omega)).trans hk2
  have hgg := hge.trans hg3
  rcases compareV_cmp.rng v1 v2 with e | e | e
  · simp (disch := first | omega | (simp only [ds] <;> omega) | fail) only [wk, undefM, Nat.reduceLT, Nat.reduceAdd, Nat.reduceMul, Nat.reduceSub, Nat.reduceBEq, Nat.reduceEqDiff, Int.reduceToNat, reduceIte, tsD, hk1', hk2', e, Int.reduceLT, Int.reduceBEq]
    exact hgg
  · cases c1
    · simp (disch := first | omega | (simp only [ds] <;> omega) | fail) only [wk, undefM, Nat.reduceLT, Nat.reduceAdd, Nat.reduceMul, Nat.reduceSub, Nat.reduceBEq, Nat.reduceEqDiff, Int.reduceToNat, reduceIte, tsD, hk1', hk2', e, Int.lt_irrefl, Int.reduceBEq]
      exact hgg
    · simp (disch := first | omega | (simp only [ds] <;> omega) | fail) only [wk, undefM, Nat.reduceLT, Nat.reduceAdd, Nat.reduceMul, Nat.reduceSub, Nat.reduceBEq, Nat.reduceEqDiff, Int.reduceToNat, reduceIte, tsD, hk1', hk2', e, Int.lt_irrefl, Int.reduceBEq]
      exact hgg
  · simp (disch := first | omega | (simp only [ds] <;> omega) | fail) only [wk, undefM, Nat.reduceLT, Nat.reduceAdd, Nat.reduceMul, Nat.reduceSub, Nat.reduceBEq, Nat.reduceEqDiff, Int.reduceToNat, reduceIte, tsD, hk1', hk2', e, Int.reduceLT, Int.reduceBEq]
    exact hgg
end Go.Proofs.YtbpnmkmlicbfoaaDoor

/-
  The package bounds: a version in an interval, walked.
-/
set_option linter.unusedVariables false
set_option linter.unusedSimpArgs false
namespace Go.Proofs.YtbpnmkmlicbfoaaDoor
open Go.RowKit
set_option maxRecDepth 10000
def inF (x : En × En) (v : List UInt8) : Bool := belowF x.1 (true, v, true) && belowF (true, v, true) x.2
/-- bounds.in -/
theorem in_v (x : En × En) (v : List UInt8) (O : VH) (hlo : x.1.2.1.length ≤ 10000) (hhi : x.2.2.1.length ≤ 10000) (hv : v.length ≤ 10000) : VF Tryd.prog 37 [.agg (ivM x), .str v] O (Ret fun m O' => m = mb (inF x v) ∧ O.Ge O') := by
  obtain ⟨⟨h1, v1, c1⟩, ⟨h2, v2, c2⟩⟩ := x
  have hge : O.Ge (((O.push (.cells [.v (.bool h1), .str v1, .v (.bool c1), .v (.bool h2), .str v2, .v (.bool c2)])).push (.cells [.v (.bool false), .str [], .v (.bool false)])).set (O.next + 1) (.cells [.v (.bool true), .str v, .v (.bool true)])) := (((VH.Ge.refl O).push (.cells [.v (.bool h1), .str v1, .v (.bool c1), .v (.bool h2), .str v2, .v (.bool c2)])).push (.cells [.v (.bool false), .str [], .v (.bool false)])).set (Nat.le_succ _) _
  have hk1 : (((O.push (.cells [.v (.bool h1), .str v1, .v (.bool c1), .v (.bool h2), .str v2, .v (.bool c2)])).push (.cells [.v (.bool false), .str [], .v (.bool false)])).set (O.next + 1) (.cells [.v (.bool true), .str v, .v (.bool true)])).hp O.next = some (.cells [.v (.bool h1), .str v1, .v (.bool c1), .v (.bool h2), .str v2, .v (.bool c2)]) := (VH.set_ne _ _ (by omega)).trans ((VH.push_ne _ _ (by show O.next ≠ O.next + 1; omega)).trans (VH.push_new O _))
  have hk2 : (((O.push (.cells [.v (.bool h1), .str v1, .v (.bool c1), .v (.bool h2), .str v2, .v (.bool c2)])).push (.cells [.v (.bool false), .str [], .v (.bool false)])).set (O.next + 1) (.cells [.v (.bool true), .str v, .v (.bool true)])).hp (O.next + 1) = some (.cells [.v (.bool true), .str v, .v (.bool true)]) := VH.set_get _ _ _
  have hn : (((O.push (.cells [.v (.bool h1), .str v1, .v (.bool c1), .v (.bool h2), .str v2, .v (.bool c2)])).push (.cells [.v (.bool false), .str [], .v (.bool false)])).set (O.next + 1) (.cells [.v (.bool true), .str v, .v (.bool true)])).next = O.next + 2 := rfl
  have e1 : inF ((h1, v1, c1), (h2, v2, c2)) v = (belowF (h1, v1, c1) (true, v, true) && belowF (true, v, true) (h2, v2, c2)) := rfl
  rw [e1]; clear e1
  dsimp only at hlo hhi ⊢
  refine VF.ofW (n := ⟨18, 0⟩) (rs := [.tmp 4]) tabOk Tryd.func37 rfl rfl rfl (Nat.le_of_ble_eq_true rfl) ?_
  simp only [argEnv, Nat.zero_add, Nat.reduceAdd]
  simp (disch := first | omega | (simp only [ds] <;> omega) | fail) only [wk, undefM, Nat.reduceLT, Nat.reduceAdd, Nat.reduceMul, Nat.reduceSub, Nat.reduceBEq, Nat.reduceEqDiff, Int.reduceToNat, reduceIte, tsD, ivM, enM]
  generalize (((O.push (.cells [.v (.bool h1), .str v1, .v (.bool c1), .v (.bool h2), .str v2, .v (.bool c2)])).push (.cells [.v (.bool false), .str [], .v (.bool false)])).set (O.next + 1) (.cells [.v (.bool true), .str v, .v (.bool true)])) = OX at *
  refine CallW.rt (isBelow_v (h1, v1, c1) (true, v, true) _ hlo hv) (by kernel_rfl) rfl rfl ?_
  rintro _ O3 ⟨rfl, hg3⟩
  have hk1' := (hg3.hp _ (by omega)).trans hk1
  have hk2' := (hg3.hp _ (by omega)).trans hk2
  have hgg := hge.trans hg3
  cases hb : belowF (h1, v1, c1) (true, v, true)
  · simp (disch := first | omega | (simp only [ds] <;> omega) | fail) only [wk, undefM, Nat.reduceLT, Nat.reduceAdd, Nat.reduceMul, Nat.reduceSub, Nat.reduceBEq, Nat.reduceEqDiff, Int.reduceToNat, reduceIte, tsD, hb]
    exact hgg
  · simp (disch := first | omega | (simp only [ds] <;> omega) | fail) only [wk, undefM, Nat.reduceLT, Nat.reduceAdd, Nat.reduceMul, Nat.reduceSub, Nat.reduceBEq, Nat.reduceEqDiff, Int.reduceToNat, reduceIte, tsD, hb, hk1', hk2']
    refine CallW.rt (isBelow_v (true, v, true) (h2, v2, c2) _ hv hhi) (by kernel_rfl) rfl rfl ?_
    rintro _ O4 ⟨rfl, hg4⟩
    simp (disch := first | omega | (simp only [ds] <;> omega) | fail) only [wk, undefM, Nat.reduceLT, Nat.reduceAdd, Nat.reduceMul, Nat.reduceSub, Nat.reduceBEq, Nat.reduceEqDiff, Int.reduceToNat, reduceIte, tsD]
    exact hgg.trans hg4
/-- pomaceref05.first -/
theorem first_v (s : List UInt8) (O : VH) (hs : s.length ≤ maxLen) : VF Tryd.prog 31 [.str s] O (Ret fun m O' => m = byM (headB s) ∧ O' = O) := by
  have hm : (s.length : Int) ≤ 9223372036854775807 := by simp [maxLen] at hs; omega
  refine VF.ofW (n := ⟨8, 0⟩) (rs := [.tmp 2]) tabOk Tryd.func31 rfl rfl rfl (Nat.le_of_ble_eq_true rfl) ?_
  simp only [argEnv, Nat.zero_add, Nat.reduceAdd]
  cases s with
  | nil =>
    simp (disch := first | omega | (simp only [ds] <;> omega) | fail) only [wk, undefM, Nat.reduceLT, Nat.reduceAdd, Nat.reduceMul, Nat.reduceSub, Nat.reduceBEq, Nat.reduceEqDiff, Int.reduceToNat, reduceIte, tsP]
    rfl
  | cons c t =>
    have h0 : (((c :: t).length : Int) == 0) = false := by simp; omega
    simp (disch := first | omega | (simp only [ds] <;> omega) | fail) only [wk, undefM, Nat.reduceLT, Nat.reduceAdd, Nat.reduceMul, Nat.reduceSub, Nat.reduceBEq, Nat.reduceEqDiff, Int.reduceToNat, reduceIte, tsP, h0]
    rfl
end Go.Proofs.YtbpnmkmlicbfoaaDoor

/-
  The reference's words, walked.
-/
set_option linter.unusedVariables false
set_option linter.unusedSimpArgs false
namespace Go.Proofs.YtbpnmkmlicbfoaaDoor
open Go.RowKit
set_option maxRecDepth 10000
theorem tw_at (p : UInt8 → Bool) : ∀ (l : List UInt8) (j : Nat) (h : j < l.length), j ≤ (l.takeWhile p).length → (p l[j] = true ↔ j < (l.takeWhile p).length)
  | c :: t, 0, _, _ => by
    cases hc : p c <;> simp [List.takeWhile, hc]
  | c :: t, j + 1, h, hj => by
    cases hc : p c
    · simp [List.takeWhile, hc] at hj
    · simp only [List.takeWhile, hc, List.length_cons, List.getElem_cons_succ] at hj ⊢
      rw [tw_at p t j (by simpa using h) (by omega)]; omega
theorem tw_drop (p : UInt8 → Bool) : ∀ l : List UInt8, l.drop (l.takeWhile p).length = l.dropWhile p
  | [] => rfl
  | c :: t => by
    cases hc : p c
    · simp [List.takeWhile, List.dropWhile, hc]
    · simp [List.takeWhile, List.dropWhile, hc, tw_drop p t]
theorem stop_no {c : UInt8} (hb : isB c = false) (e1 : ¬c.toNat = 91) (e2 : ¬c.toNat = 93) (e3 : ¬c.toNat = 40) (e4 : ¬c.toNat = 41) (e5 : ¬c.toNat = 44) : stopC.contains c = false := by
  have h := of_decide_eq_false hb
  rw [Bool.eq_false_iff]
  intro hc
  have hm : c ∈ stopC := by simpa using hc
  simp only [stopC, List.mem_cons, List.not_mem_nil, or_false] at hm
  rcases hm with e | e | e | e | e | e | e | e | e <;> (rw [e] at h e1 e2 e3 e4 e5; revert h e1 e2 e3 e4 e5; decide)
theorem stop_yes {c : UInt8} (hb : isB c = true) : stopC.contains c = true := by
  rcases of_decide_eq_true hb with e | e | e | e
  · rw [UInt8.toNat_inj.1 (show c.toNat = (32 : UInt8).toNat from e)]; rfl
  · rw [UInt8.toNat_inj.1 (show c.toNat = (9 : UInt8).toNat from e)]; rfl
  · rw [UInt8.toNat_inj.1 (show c.toNat = (10 : UInt8).toNat from e)]; rfl
  · rw [UInt8.toNat_inj.1 (show c.toNat = (13 : UInt8).toNat from e)]; rfl
/-- pomaceref05.word -/
theorem rWord_v (s : List UInt8) (O : VH) (hs : s.length ≤ maxLen) : VF Tryd.prog 32 [.str s] O (Ret fun m O' => m = .tuple [.str (wordB s).1, .str (wordB s).2] ∧ O' = O) := by
  have hw : wordB s = ((s.dropWhile isB).takeWhile fun b => !stopC.contains b, ((s.dropWhile isB).dropWhile fun b => !stopC.contains b).dropWhile isB) := rfl
  have hl := dw_len isB s
  rw [hw]; clear hw
  dsimp only
  refine VF.ofW (n := ⟨57, 0⟩) (rs := [.tmp 2, .tmp 3]) tabOk Tryd.func32 rfl rfl rfl (Nat.le_of_ble_eq_true rfl) ?_
  simp only [argEnv, Nat.zero_add, Nat.reduceAdd]
  simp (disch := first | omega | (simp only [ds] <;> omega) | fail) only [wk, undefM, Nat.reduceLT, Nat.reduceAdd, Nat.reduceMul, Nat.reduceSub, Nat.reduceBEq, Nat.reduceEqDiff, Int.reduceToNat, reduceIte, tsP]
  refine CallW.rt (skip_v s O hs) (by kernel_rfl) rfl rfl ?_
  rintro _ O2 ⟨rfl, eO⟩
  rw [eO]; clear eO O2
  generalize s.dropWhile isB = t at *
  have hm : (t.length : Int) ≤ 9223372036854775807 := by simp [maxLen] at hs; omega
  have htl : t.length ≤ maxLen := by omega
  simp (disch := first | omega | (simp only [ds] <;> omega) | fail) only [wk, undefM, Nat.reduceLT, Nat.reduceAdd, Nat.reduceMul, Nat.reduceSub, Nat.reduceBEq, Nat.reduceEqDiff, Int.reduceToNat, reduceIte, tsP]
  refine WC.loopK tabOk [4] [0] (fun j : Nat => [mi j]) (fun j O' => O' = O ∧ j ≤ (t.takeWhile fun b => !stopC.contains b).length) (fun j => t.length - j) (0) rfl rfl ?_ ?_
  · exact ⟨rfl, Nat.zero_le _⟩
  rintro j O3 ⟨eO, hj⟩
  rw [eO]; clear eO O3
  have htw := tw_len (fun b => !stopC.contains b) t
  by_cases h2 : j < t.length
  · have hat := tw_at (fun b => !stopC.contains b) t j h2 hj
    generalize hc : t[j] = c at *
    by_cases e1 : c.toNat = 91
    · have ec : c = 91 := UInt8.toNat_inj.1 e1
      have hjt : j = (t.takeWhile fun b => !stopC.contains b).length := by
        have : (!stopC.contains c) = false := by rw [ec]; rfl
        have h3 := mt hat.2 (by rw [this]; decide)
        omega
      have ht := tw_take (fun b => !stopC.contains b) t
      have hd := tw_drop (fun b => !stopC.contains b) t
      rw [← hjt] at ht hd
      have hdl : (t.drop j).length ≤ maxLen := by rw [List.length_drop]; omega
      simp (disch := first | omega | (simp only [ds] <;> omega) | fail) only [wk, undefM, Nat.reduceLT, Nat.reduceAdd, Nat.reduceMul, Nat.reduceSub, Nat.reduceBEq, Nat.reduceEqDiff, Int.reduceToNat, reduceIte, tsP, List.getElem?_eq_getElem h2, hc, byM_def, e1]
      refine WC.plan tabOk .any [(0, .sil), (1, .sil), (2, .sil), (3, .sil), (4, .sil), (5, .sil), (6, .one), (7, .sil), (8, .sil)] (by simp) (by kernel_rfl) (by kernel_rfl) (by kernel_rfl) rfl ?_
      simp (disch := first | omega | (simp only [ds] <;> omega) | fail) only [wk, undefM, Nat.reduceLT, Nat.reduceAdd, Nat.reduceMul, Nat.reduceSub, Nat.reduceBEq, Nat.reduceEqDiff, Int.reduceToNat, reduceIte, tsP]
      refine CallW.rt (skip_v (t.drop j) _ hdl) (by kernel_rfl) rfl rfl ?_
      rintro _ O4 ⟨rfl, eO⟩
      rw [eO]; clear eO O4
      simp (disch := first | omega | (simp only [ds] <;> omega) | fail) only [wk, undefM, Nat.reduceLT, Nat.reduceAdd, Nat.reduceMul, Nat.reduceSub, Nat.reduceBEq, Nat.reduceEqDiff, Int.reduceToNat, reduceIte, tsP, ht, hd]
    by_cases e2 : c.toNat = 93
    · have ec : c = 93 := UInt8.toNat_inj.1 e2
      have hjt : j = (t.takeWhile fun b => !stopC.contains b).length := by
        have : (!stopC.contains c) = false := by rw [ec]; rfl
        have h3 := mt hat.2 (by rw [this]; decide)
        omega
      have ht := tw_take (fun b => !stopC.contains b) t
      have hd := tw_drop (fun b => !stopC.contains b) t
      rw [← hjt] at ht hd
      have hdl : (t.drop j).length ≤ maxLen := by rw [List.length_drop]; omega
      simp (disch := first | omega | (simp only [ds] <;> omega) | fail) only [wk, undefM, Nat.reduceLT, Nat.reduceAdd, Nat.reduceMul, Nat.reduceSub, Nat.reduceBEq, Nat.reduceEqDiff, Int.reduceToNat, reduceIte, tsP, List.getElem?_eq_getElem h2, hc, byM_def, e1, e2]
      refine WC.plan tabOk .any [(0, .sil), (1, .sil), (2, .sil), (3, .sil), (4, .sil), (5, .sil), (6, .one), (7, .sil), (8, .sil)] (by simp) (by kernel_rfl) (by kernel_rfl) (by kernel_rfl) rfl ?_
      simp (disch := first | omega | (simp only [ds] <;> omega) | fail) only [wk, undefM, Nat.reduceLT, Nat.reduceAdd, Nat.reduceMul, Nat.reduceSub, Nat.reduceBEq, Nat.reduceEqDiff, Int.reduceToNat, reduceIte, tsP]
      refine CallW.rt (skip_v (t.drop j) _ hdl) (by kernel_rfl) rfl rfl ?_
      rintro _ O4 ⟨rfl, eO⟩
      rw [eO]; clear eO O4
      simp (disch := first | omega | (simp only [ds] <;> omega) | fail) only [wk, undefM, Nat.reduceLT, Nat.reduceAdd, Nat.reduceMul, Nat.reduceSub, Nat.reduceBEq, Nat.reduceEqDiff, Int.reduceToNat, reduceIte, tsP, ht, hd]
    by_cases e3 : c.toNat = 40
    · have ec : c = 40 := UInt8.toNat_inj.1 e3
      have hjt : j = (t.takeWhile fun b => !stopC.contains b).length := by
        have : (!stopC.contains c) = false := by rw [ec]; rfl
        have h3 := mt hat.2 (by rw [this]; decide)
        omega
      have ht := tw_take (fun b => !stopC.contains b) t
      have hd := tw_drop (fun b => !stopC.contains b) t
      rw [← hjt] at ht hd
      have hdl : (t.drop j).length ≤ maxLen := by rw [List.length_drop]; omega
      simp (disch := first | omega | (simp only [ds] <;> omega) | fail) only [wk, undefM, Nat.reduceLT, Nat.reduceAdd, Nat.reduceMul, Nat.reduceSub, Nat.reduceBEq, Nat.reduceEqDiff, Int.reduceToNat, reduceIte, tsP, List.getElem?_eq_getElem h2, hc, byM_def, e1, e2, e3]
      refine WC.plan tabOk .any [(0, .sil), (1, .sil), (2, .sil), (3, .sil), (4, .sil), (5, .sil), (6, .one), (7, .sil), (8, .sil)] (by simp) (by kernel_rfl) (by kernel_rfl) (by kernel_rfl) rfl ?_
      simp (disch := first | omega | (simp only [ds] <;> omega) | fail) only [wk, undefM, Nat.reduceLT, Nat.reduceAdd, Nat.reduceMul, Nat.reduceSub, Nat.reduceBEq, Nat.reduceEqDiff, Int.reduceToNat, reduceIte, tsP]
      refine CallW.rt (skip_v (t.drop j) _ hdl) (by kernel_rfl) rfl rfl ?_
      rintro _ O4 ⟨rfl, eO⟩
      rw [eO]; clear eO O4
      simp (disch := first | omega | (simp only [ds] <;> omega) | fail) only [wk, undefM, Nat.reduceLT, Nat.reduceAdd, Nat.reduceMul, Nat.reduceSub, Nat.reduceBEq, Nat.reduceEqDiff, Int.reduceToNat, reduceIte, tsP, ht, hd]
    by_cases e4 : c.toNat = 41
    · have ec : c = 41 := UInt8.toNat_inj.1 e4
      have hjt : j = (t.takeWhile fun b => !stopC.contains b).length := by
        have : (!stopC.contains c) = false := by rw [ec]; rfl
        have h3 := mt hat.2 (by rw [this]; decide)
        omega
      have ht := tw_take (fun b => !stopC.contains b) t
      have hd := tw_drop (fun b => !stopC.contains b) t
      rw [← hjt] at ht hd
      have hdl : (t.drop j).length ≤ maxLen := by rw [List.length_drop]; omega
      simp (disch := first | omega | (simp only [ds] <;> omega) | fail) only [wk, undefM, Nat.reduceLT, Nat.reduceAdd, Nat.reduceMul, Nat.reduceSub, Nat.reduceBEq, Nat.reduceEqDiff, Int.reduceToNat, reduceIte, tsP, List.getElem?_eq_getElem h2, hc, byM_def, e1, e2, e3, e4]
      refine WC.plan tabOk .any [(0, .sil), (1, .sil), (2, .sil), (3, .sil), (4, .sil), (5, .sil), (6, .one), (7, .sil), (8, .sil)] (by simp) (by kernel_rfl) (by kernel_rfl) (by kernel_rfl) rfl ?_
      simp (disch := first | omega | (simp only [ds] <;> omega) | fail) only [wk, undefM, Nat.reduceLT, Nat.reduceAdd, Nat.reduceMul, Nat.reduceSub, Nat.reduceBEq, Nat.reduceEqDiff, Int.reduceToNat, reduceIte, tsP]
      refine CallW.rt (skip_v (t.drop j) _ hdl) (by kernel_rfl) rfl rfl ?_
      rintro _ O4 ⟨rfl, eO⟩
      rw [eO]; clear eO O4
      simp (disch := first | omega | (simp only [ds] <;> omega) | fail) only [wk, undefM, Nat.reduceLT, Nat.reduceAdd, Nat.reduceMul, Nat.reduceSub, Nat.reduceBEq, Nat.reduceEqDiff, Int.reduceToNat, reduceIte, tsP, ht, hd]
    by_cases e5 : c.toNat = 44
    · have ec : c = 44 := UInt8.toNat_inj.1 e5
      have hjt : j = (t.takeWhile fun b => !stopC.contains b).length := by
        have : (!stopC.contains c) = false := by rw [ec]; rfl
        have h3 := mt hat.2 (by rw [this]; decide)
        omega
      have ht := tw_take (fun b => !stopC.contains b) t
      have hd := tw_drop (fun b => !stopC.contains b) t
      rw [← hjt] at ht hd
      have hdl : (t.drop j).length ≤ maxLen := by rw [List.length_drop]; omega
      simp (disch := first | omega | (simp only [ds] <;> omega) | fail) only [wk, undefM, Nat.reduceLT, Nat.reduceAdd, Nat.reduceMul, Nat.reduceSub, Nat.reduceBEq, Nat.reduceEqDiff, Int.reduceToNat, reduceIte, tsP, List.getElem?_eq_getElem h2, hc, byM_def, e1, e2, e3, e4, e5]
      refine WC.plan tabOk .any [(0, .sil), (1, .sil), (2, .sil), (3, .sil), (4, .sil), (5, .sil), (6, .one), (7, .sil), (8, .sil)] (by simp) (by kernel_rfl) (by kernel_rfl) (by kernel_rfl) rfl ?_
      simp (disch := first | omega | (simp only [ds] <;> omega) | fail) only [wk, undefM, Nat.reduceLT, Nat.reduceAdd, Nat.reduceMul, Nat.reduceSub, Nat.reduceBEq, Nat.reduceEqDiff, Int.reduceToNat, reduceIte, tsP]
      refine CallW.rt (skip_v (t.drop j) _ hdl) (by kernel_rfl) rfl rfl ?_
      rintro _ O4 ⟨rfl, eO⟩
      rw [eO]; clear eO O4
      simp (disch := first | omega | (simp only [ds] <;> omega) | fail) only [wk, undefM, Nat.reduceLT, Nat.reduceAdd, Nat.reduceMul, Nat.reduceSub, Nat.reduceBEq, Nat.reduceEqDiff, Int.reduceToNat, reduceIte, tsP, ht, hd]
    simp (disch := first | omega | (simp only [ds] <;> omega) | fail) only [wk, undefM, Nat.reduceLT, Nat.reduceAdd, Nat.reduceMul, Nat.reduceSub, Nat.reduceBEq, Nat.reduceEqDiff, Int.reduceToNat, reduceIte, tsP, List.getElem?_eq_getElem h2, hc, byM_def, e1, e2, e3, e4, e5]
    refine CallW.rt (Is_v c 1 _ (by decide) (by decide)) (by kernel_rfl) rfl rfl ?_
    rintro _ O4 ⟨rfl, eO⟩
    rw [eO]; clear eO O4
    have hcl : clsB c 1 = isB c := cls1 c
    cases hb : isB c
    · have hns : stopC.contains c = false := stop_no hb e1 e2 e3 e4 e5
      have h3 := hat.1 (by rw [hns]; rfl)
      simp (disch := first | omega | (simp only [ds] <;> omega) | fail) only [wk, undefM, Nat.reduceLT, Nat.reduceAdd, Nat.reduceMul, Nat.reduceSub, Nat.reduceBEq, Nat.reduceEqDiff, Int.reduceToNat, reduceIte, tsP, hcl, hb]
      refine RoundQ.next (j + 1) rfl rfl ?_ (by first | omega | (dsimp only; omega))
      exact ⟨rfl, h3⟩
    · have hjt : j = (t.takeWhile fun b => !stopC.contains b).length := by
        have : (!stopC.contains c) = false := by
          rw [stop_yes hb]; rfl
        have h3 := mt hat.2 (by rw [this]; decide)
        omega
      have ht := tw_take (fun b => !stopC.contains b) t
      have hd := tw_drop (fun b => !stopC.contains b) t
      rw [← hjt] at ht hd
      have hdl : (t.drop j).length ≤ maxLen := by rw [List.length_drop]; omega
      simp (disch := first | omega | (simp only [ds] <;> omega) | fail) only [wk, undefM, Nat.reduceLT, Nat.reduceAdd, Nat.reduceMul, Nat.reduceSub, Nat.reduceBEq, Nat.reduceEqDiff, Int.reduceToNat, reduceIte, tsP, hcl, hb]
      refine WC.plan tabOk .any [(0, .sil), (1, .sil), (2, .sil), (3, .sil), (4, .sil), (5, .sil), (6, .one), (7, .sil), (8, .sil)] (by simp) (by kernel_rfl) (by kernel_rfl) (by kernel_rfl) rfl ?_
      simp (disch := first | omega | (simp only [ds] <;> omega) | fail) only [wk, undefM, Nat.reduceLT, Nat.reduceAdd, Nat.reduceMul, Nat.reduceSub, Nat.reduceBEq, Nat.reduceEqDiff, Int.reduceToNat, reduceIte, tsP]
      refine CallW.rt (skip_v (t.drop j) _ hdl) (by kernel_rfl) rfl rfl ?_
      rintro _ O4 ⟨rfl, eO⟩
      rw [eO]; clear eO O4
      simp (disch := first | omega | (simp only [ds] <;> omega) | fail) only [wk, undefM, Nat.reduceLT, Nat.reduceAdd, Nat.reduceMul, Nat.reduceSub, Nat.reduceBEq, Nat.reduceEqDiff, Int.reduceToNat, reduceIte, tsP, ht, hd]
  · have hjt : j = (t.takeWhile fun b => !stopC.contains b).length := by omega
    have ht := tw_take (fun b => !stopC.contains b) t
    have hd := tw_drop (fun b => !stopC.contains b) t
    rw [← hjt] at ht hd
    have hdl : (t.drop j).length ≤ maxLen := by rw [List.length_drop]; omega
    simp (disch := first | omega | (simp only [ds] <;> omega) | fail) only [wk, undefM, Nat.reduceLT, Nat.reduceAdd, Nat.reduceMul, Nat.reduceSub, Nat.reduceBEq, Nat.reduceEqDiff, Int.reduceToNat, reduceIte, tsP]
    refine WC.plan tabOk .any [(0, .sil), (1, .sil), (2, .sil), (3, .sil), (4, .sil), (5, .sil), (6, .one), (7, .sil), (8, .sil)] (by simp) (by kernel_rfl) (by kernel_rfl) (by kernel_rfl) rfl ?_
    simp (disch := first | omega | (simp only [ds] <;> omega) | fail) only [wk, undefM, Nat.reduceLT, Nat.reduceAdd, Nat.reduceMul, Nat.reduceSub, Nat.reduceBEq, Nat.reduceEqDiff, Int.reduceToNat, reduceIte, tsP]
    refine CallW.rt (skip_v (t.drop j) _ hdl) (by kernel_rfl) rfl rfl ?_
    rintro _ O4 ⟨rfl, eO⟩
    rw [eO]; clear eO O4
    simp (disch := first | omega | (simp only [ds] <;> omega) | fail) only [wk, undefM, Nat.reduceLT, Nat.reduceAdd, Nat.reduceMul, Nat.reduceSub, Nat.reduceBEq, Nat.reduceEqDiff, Int.reduceToNat, reduceIte, tsP, ht, hd]
end Go.Proofs.YtbpnmkmlicbfoaaDoor

/-
  The package bounds and its reference: whether a range may be, walked.
-/
set_option linter.unusedVariables false
set_option linter.unusedSimpArgs false
namespace Go.Proofs.YtbpnmkmlicbfoaaDoor
open Go.RowKit
set_option maxRecDepth 10000
set_option linter.defProp false in
def tsI2 := And.intro tsD <| And.intro T25 T23
abbrev Iv := En × En
abbrev Rg := Bool × List UInt8 × List Iv
def rgM (r : Rg) (tk : Tok) : List MV := [mb r.1, .str r.2.1, .sl r.2.2.length (r.2.2.flatMap ivM) tk]
theorem iv_len (L : List Iv) : (L.flatMap ivM).length = L.length * 6 := by
  induction L with
  | nil => rfl
  | cons p L ih => rw [List.flatMap_cons, List.length_append, ih, List.length_cons]; simp [ivM, enM]; omega
theorem iv_at : ∀ (L : List Iv) (i : Nat) (h : i < L.length), ((L.flatMap ivM).drop (i * 6)).take 6 = ivM L[i]
  | p :: L, 0, _ => by simp [ivM, enM]
  | p :: L, i + 1, h => by
    have := iv_at L i (by simpa using h)
    rw [List.flatMap_cons, Nat.succ_mul]
    exact this
theorem iv_hi : ∀ (L : List Iv) (i : Nat) (h : i < L.length), ((L.flatMap ivM).drop (i * 6 + 3)).take 3 = enM L[i].2
  | p :: L, 0, _ => by simp [ivM, enM]
  | p :: L, i + 1, h => by
    have := iv_hi L i (by simpa using h)
    rw [List.flatMap_cons, Nat.succ_mul, show i * 6 + 6 + 3 = 6 + (i * 6 + 3) by omega]
    rw [← List.drop_drop]
    exact this
def aheadO : Option En → En → Bool
  | none, _ => true
  | some h, l => aheadF h l
def okRow : Option En → List Iv → Bool
  | _, [] => true
  | pr, p :: r => (endOk p.1 && (endOk p.2 && (belowF p.1 p.2 && aheadO pr p.1))) && okRow (some p.2) r
def mayR (r : Rg) : Bool := if r.1 then okRow none r.2.2 && (r.2.1 == [] && (decide (1 ≤ r.2.2.length) && decide (r.2.2.length ≤ 1024))) else decide (r.2.2.length = 0) && mayF r.2.1
/-- Short enough to be looked at. -/
def RgOk (r : Rg) : Prop := r.2.1.length ≤ maxLen ∧ r.2.2.length ≤ maxLen ∧ ∀ p ∈ r.2.2, p.1.2.1.length ≤ 10000 ∧ p.2.2.1.length ≤ 10000
/-- bounds.May -/
theorem rgMay_v (r : Rg) (tk : Tok) (O : VH) (hr : RgOk r) : VF Tryd.prog 22 [.agg (rgM r tk)] O (Ret fun m O' => m = mb (mayR r) ∧ O.Ge O') := by
  obtain ⟨hard, ver, L⟩ := r
  obtain ⟨hv, hn, hL⟩ := hr
  dsimp only at hv hn hL
  have hge := fun x => (VH.Ge.refl O).push x
  have hpl := iv_len L
  have hnm : (L.length : Int) ≤ 9223372036854775807 := by simp [maxLen] at hn; omega
  unfold mayR
  dsimp only
  refine VF.ofW (n := ⟨76, 0⟩) (rs := [.tmp 2]) tabOk Tryd.func22 rfl rfl rfl (Nat.le_of_ble_eq_true rfl) ?_
  simp only [argEnv, Nat.zero_add, Nat.reduceAdd]
  cases hard
  · by_cases h0 : L.length = 0
    · simp (disch := first | omega | (simp only [ds] <;> omega) | fail) only [wk, undefM, Nat.reduceLT, Nat.reduceAdd, Nat.reduceMul, Nat.reduceSub, Nat.reduceBEq, Nat.reduceEqDiff, Int.reduceToNat, reduceIte, tsI2, rgM, h0]
      refine CallW.rt (May_v ver _ hv) (by kernel_rfl) rfl rfl ?_
      rintro _ O2 ⟨rfl, hg⟩
      simp (disch := first | omega | (simp only [ds] <;> omega) | fail) only [wk, undefM, Nat.reduceLT, Nat.reduceAdd, Nat.reduceMul, Nat.reduceSub, Nat.reduceBEq, Nat.reduceEqDiff, Int.reduceToNat, reduceIte, tsI2]
      exact (hge _).trans hg
    · simp (disch := first | omega | (simp only [ds] <;> omega) | fail) only [wk, undefM, Nat.reduceLT, Nat.reduceAdd, Nat.reduceMul, Nat.reduceSub, Nat.reduceBEq, Nat.reduceEqDiff, Int.reduceToNat, reduceIte, tsI2, rgM, h0]
      exact hge _
  · simp (disch := first | omega | (simp only [ds] <;> omega) | fail) only [wk, undefM, Nat.reduceLT, Nat.reduceAdd, Nat.reduceMul, Nat.reduceSub, Nat.reduceBEq, Nat.reduceEqDiff, Int.reduceToNat, reduceIte, tsI2, rgM]
    refine WC.loopK tabOk [20] [1, 18, 19] (fun j : Nat => [mi j]) (fun j O' => (O.push (.cells (rgM (true, ver, L) tk))).Ge O' ∧ j ≤ L.length ∧ okRow none L = okRow (if j = 0 then none else (L[j - 1]?).map (·.2)) (L.drop j)) (fun j => L.length - j) (0) rfl rfl ?_ ?_
    · exact ⟨VH.Ge.refl _, Nat.zero_le _, rfl⟩
    rintro j O2 ⟨hg2, hj, hok⟩
    have hk1 : O2.hp O.next = some (.cells (rgM (true, ver, L) tk)) := (hg2.hp _ (Nat.lt_succ_self _)).trans (VH.push_new O _)
    by_cases h2 : j < L.length
    · have hp6 := iv_at L j h2
      have hbd := hL L[j] (List.getElem_mem h2)
      rw [List.drop_eq_getElem_cons h2] at hok
      generalize hp : L[j] = p at *
      obtain ⟨⟨h1, v1, c1⟩, ⟨h3, v3, c3⟩⟩ := p
      simp (disch := first | omega | (simp only [ds] <;> omega) | fail) only [wk, undefM, Nat.reduceLT, Nat.reduceAdd, Nat.reduceMul, Nat.reduceSub, Nat.reduceBEq, Nat.reduceEqDiff, Int.reduceToNat, reduceIte, tsI2, hp6, ivM, enM]
      have hOX : O2.Ge ((O2.push (.cells [.v (.bool false), .str [], .v (.bool false), .v (.bool false), .str [], .v (.bool false)])).set O2.next (.cells [.v (.bool h1), .str v1, .v (.bool c1), .v (.bool h3), .str v3, .v (.bool c3)])) := ((VH.Ge.refl O2).push _).set (Nat.le_refl _) _
      have hk4 := VH.set_get (O2.push (.cells [.v (.bool false), .str [], .v (.bool false), .v (.bool false), .str [], .v (.bool false)])) O2.next (.cells [.v (.bool h1), .str v1, .v (.bool c1), .v (.bool h3), .str v3, .v (.bool c3)])
      have hn4 : O2.next < ((O2.push (.cells [.v (.bool false), .str [], .v (.bool false), .v (.bool false), .str [], .v (.bool false)])).set O2.next (.cells [.v (.bool h1), .str v1, .v (.bool c1), .v (.bool h3), .str v3, .v (.bool c3)])).next := Nat.lt_succ_self _
      have hlt1 := hg2.next
      dsimp only [VH.push] at hlt1
      generalize ((O2.push (.cells [.v (.bool false), .str [], .v (.bool false), .v (.bool false), .str [], .v (.bool false)])).set O2.next (.cells [.v (.bool h1), .str v1, .v (.bool c1), .v (.bool h3), .str v3, .v (.bool c3)])) = OX at *
      have hgX := hg2.trans hOX
      have hk1X := (hOX.hp _ (by omega)).trans hk1
      have hge0 := (hge (.cells (rgM (true, ver, L) tk))).trans hgX
      dsimp only at hbd
      rw [okRow] at hok
      dsimp only at hok
      cases hA : endOk (h1, v1, c1)
      · rw [hok, hA]
        refine WC.plan tabOk .any [(0, .sil), (1, .one), (2, .one), (3, .sil), (4, .sil), (5, .sil), (6, .one), (7, .one), (8, .sil), (9, .sil), (10, .sil), (11, .sil), (12, .sil), (13, .sil), (14, .sil), (15, .one), (16, .sil), (17, .sil), (18, .sil), (19, .sil), (20, .sil), (21, .sil), (22, .sil), (23, .sil), (24, .sil), (25, .sil), (26, .sil), (27, .sil), (28, .sil), (29, .sil), (30, .sil), (31, .one), (32, .sil), (33, .sil), (34, .sil)] (by simp) (by kernel_rfl) (by kernel_rfl) (by kernel_rfl) rfl ?_
        simp (disch := first | omega | (simp only [ds] <;> omega) | fail) only [wk, undefM, Nat.reduceLT, Nat.reduceAdd, Nat.reduceMul, Nat.reduceSub, Nat.reduceBEq, Nat.reduceEqDiff, Int.reduceToNat, reduceIte, tsI2, hk4, enM]
        refine CallW.rt (isEnd_v (h1, v1, c1) _ hbd.1) (by kernel_rfl) rfl rfl ?_
        rintro _ O3 ⟨rfl, hg3⟩
        simp (disch := first | omega | (simp only [ds] <;> omega) | fail) only [wk, undefM, Nat.reduceLT, Nat.reduceAdd, Nat.reduceMul, Nat.reduceSub, Nat.reduceBEq, Nat.reduceEqDiff, Int.reduceToNat, reduceIte, tsI2, hA]
        exact hge0.trans hg3
      cases hB : endOk (h3, v3, c3)
      · rw [hok, hA, hB]
        refine WC.plan tabOk .any [(0, .sil), (1, .one), (2, .one), (3, .sil), (4, .sil), (5, .sil), (6, .one), (7, .one), (8, .sil), (9, .sil), (10, .sil), (11, .sil), (12, .sil), (13, .sil), (14, .sil), (15, .one), (16, .sil), (17, .sil), (18, .sil), (19, .sil), (20, .sil), (21, .sil), (22, .sil), (23, .sil), (24, .sil), (25, .sil), (26, .sil), (27, .sil), (28, .sil), (29, .sil), (30, .sil), (31, .one), (32, .sil), (33, .sil), (34, .sil)] (by simp) (by kernel_rfl) (by kernel_rfl) (by kernel_rfl) rfl ?_
        simp (disch := first | omega | (simp only [ds] <;> omega) | fail) only [wk, undefM, Nat.reduceLT, Nat.reduceAdd, Nat.reduceMul, Nat.reduceSub, Nat.reduceBEq, Nat.reduceEqDiff, Int.reduceToNat, reduceIte, tsI2, hk4, enM]
        refine CallW.rt (isEnd_v (h1, v1, c1) _ hbd.1) (by kernel_rfl) rfl rfl ?_
        rintro _ O3 ⟨rfl, hg3⟩
        have hk43 := (hg3.hp _ hn4).trans hk4
        simp (disch := first | omega | (simp only [ds] <;> omega) | fail) only [wk, undefM, Nat.reduceLT, Nat.reduceAdd, Nat.reduceMul, Nat.reduceSub, Nat.reduceBEq, Nat.reduceEqDiff, Int.reduceToNat, reduceIte, tsI2, hA, hk43]
        refine CallW.rt (isEnd_v (h3, v3, c3) _ hbd.2) (by kernel_rfl) rfl rfl ?_
        rintro _ O4 ⟨rfl, hg4⟩
        simp (disch := first | omega | (simp only [ds] <;> omega) | fail) only [wk, undefM, Nat.reduceLT, Nat.reduceAdd, Nat.reduceMul, Nat.reduceSub, Nat.reduceBEq, Nat.reduceEqDiff, Int.reduceToNat, reduceIte, tsI2, hB]
        exact (hge0.trans hg3).trans hg4
      cases hC : belowF (h1, v1, c1) (h3, v3, c3)
      · rw [hok, hA, hB, hC]
        refine WC.plan tabOk .any [(0, .sil), (1, .one), (2, .one), (3, .sil), (4, .sil), (5, .sil), (6, .one), (7, .one), (8, .sil), (9, .sil), (10, .sil), (11, .sil), (13, .sil), (12, .fk), (14, .one), (15, .one), (16, .sil), (17, .sil), (18, .sil), (19, .sil), (20, .sil), (21, .sil), (22, .sil), (23, .sil), (24, .sil), (25, .sil), (26, .sil), (27, .sil), (28, .sil), (29, .sil), (30, .sil), (31, .one), (32, .sil), (33, .sil), (34, .sil)] (by simp) (by kernel_rfl) (by kernel_rfl) (by kernel_rfl) rfl ?_
        simp (disch := first | omega | (simp only [ds] <;> omega) | fail) only [wk, undefM, Nat.reduceLT, Nat.reduceAdd, Nat.reduceMul, Nat.reduceSub, Nat.reduceBEq, Nat.reduceEqDiff, Int.reduceToNat, reduceIte, tsI2, hk4, enM]
        refine CallW.rt (isEnd_v (h1, v1, c1) _ hbd.1) (by kernel_rfl) rfl rfl ?_
        rintro _ O3 ⟨rfl, hg3⟩
        have hk43 := (hg3.hp _ hn4).trans hk4
        simp (disch := first | omega | (simp only [ds] <;> omega) | fail) only [wk, undefM, Nat.reduceLT, Nat.reduceAdd, Nat.reduceMul, Nat.reduceSub, Nat.reduceBEq, Nat.reduceEqDiff, Int.reduceToNat, reduceIte, tsI2, hA, hk43]
        refine CallW.rt (isEnd_v (h3, v3, c3) _ hbd.2) (by kernel_rfl) rfl rfl ?_
        rintro _ O4 ⟨rfl, hg4⟩
        have hg34 := hg3.trans hg4
        have hk44 := (hg34.hp _ hn4).trans hk4
        simp (disch := first | omega | (simp only [ds] <;> omega) | fail) only [wk, undefM, Nat.reduceLT, Nat.reduceAdd, Nat.reduceMul, Nat.reduceSub, Nat.reduceBEq, Nat.reduceEqDiff, Int.reduceToNat, reduceIte, tsI2, hB]
        refine VL.ld2 (m1 := .agg (enM (h1, v1, c1))) (m2 := .agg (enM (h3, v3, c3))) tabOk rfl ?_ rfl ?_ rfl rfl rfl rfl rfl rfl rfl rfl rfl (WL.sound tabOk ?_)
        · simp (disch := first | omega | (simp only [ds] <;> omega) | fail) only [wk, undefM, Nat.reduceLT, Nat.reduceAdd, Nat.reduceMul, Nat.reduceSub, Nat.reduceBEq, Nat.reduceEqDiff, Int.reduceToNat, reduceIte, tsI2, hk44, enM]
        · simp (disch := first | omega | (simp only [ds] <;> omega) | fail) only [wk, undefM, Nat.reduceLT, Nat.reduceAdd, Nat.reduceMul, Nat.reduceSub, Nat.reduceBEq, Nat.reduceEqDiff, Int.reduceToNat, reduceIte, tsI2, hk44, enM]
        simp (disch := first | omega | (simp only [ds] <;> omega) | fail) only [wk, undefM, Nat.reduceLT, Nat.reduceAdd, Nat.reduceMul, Nat.reduceSub, Nat.reduceBEq, Nat.reduceEqDiff, Int.reduceToNat, reduceIte, tsI2, hk44, enM]
        refine CallW.rt (isBelow_v (h1, v1, c1) (h3, v3, c3) _ hbd.1 hbd.2) (by kernel_rfl) rfl rfl ?_
        rintro _ O5 ⟨rfl, hg5⟩
        have hg35 := hg34.trans hg5
        simp (disch := first | omega | (simp only [ds] <;> omega) | fail) only [wk, undefM, Nat.reduceLT, Nat.reduceAdd, Nat.reduceMul, Nat.reduceSub, Nat.reduceBEq, Nat.reduceEqDiff, Int.reduceToNat, reduceIte, tsI2, hC]
        exact hge0.trans hg35
      rw [hA, hB, hC] at hok
      by_cases hj0 : j = 0
      · subst hj0
        rw [if_pos rfl] at hok
        refine WC.plan tabOk .any [(0, .sil), (1, .one), (2, .one), (3, .sil), (4, .sil), (5, .sil), (6, .one), (7, .one), (8, .sil), (9, .sil), (10, .sil), (11, .sil), (13, .sil), (12, .fk), (14, .one), (15, .one), (16, .sil), (17, .sil), (18, .sil), (19, .sil), (20, .sil), (21, .sil), (22, .sil), (23, .sil), (24, .sil), (25, .sil), (26, .sil), (27, .sil), (28, .sil), (29, .sil), (30, .sil), (31, .one), (32, .sil), (33, .sil), (34, .sil)] (by simp) (by kernel_rfl) (by kernel_rfl) (by kernel_rfl) rfl ?_
        simp (disch := first | omega | (simp only [ds] <;> omega) | fail) only [wk, undefM, Nat.reduceLT, Nat.reduceAdd, Nat.reduceMul, Nat.reduceSub, Nat.reduceBEq, Nat.reduceEqDiff, Int.reduceToNat, reduceIte, tsI2, hk4, enM]
        refine CallW.rt (isEnd_v (h1, v1, c1) _ hbd.1) (by kernel_rfl) rfl rfl ?_
        rintro _ O3 ⟨rfl, hg3⟩
        have hk43 := (hg3.hp _ hn4).trans hk4
        simp (disch := first | omega | (simp only [ds] <;> omega) | fail) only [wk, undefM, Nat.reduceLT, Nat.reduceAdd, Nat.reduceMul, Nat.reduceSub, Nat.reduceBEq, Nat.reduceEqDiff, Int.reduceToNat, reduceIte, tsI2, hA, hk43]
        refine CallW.rt (isEnd_v (h3, v3, c3) _ hbd.2) (by kernel_rfl) rfl rfl ?_
        rintro _ O4 ⟨rfl, hg4⟩
        have hg34 := hg3.trans hg4
        have hk44 := (hg34.hp _ hn4).trans hk4
        simp (disch := first | omega | (simp only [ds] <;> omega) | fail) only [wk, undefM, Nat.reduceLT, Nat.reduceAdd, Nat.reduceMul, Nat.reduceSub, Nat.reduceBEq, Nat.reduceEqDiff, Int.reduceToNat, reduceIte, tsI2, hB]
        refine VL.ld2 (m1 := .agg (enM (h1, v1, c1))) (m2 := .agg (enM (h3, v3, c3))) tabOk rfl ?_ rfl ?_ rfl rfl rfl rfl rfl rfl rfl rfl rfl (WL.sound tabOk ?_)
        · simp (disch := first | omega | (simp only [ds] <;> omega) | fail) only [wk, undefM, Nat.reduceLT, Nat.reduceAdd, Nat.reduceMul, Nat.reduceSub, Nat.reduceBEq, Nat.reduceEqDiff, Int.reduceToNat, reduceIte, tsI2, hk44, enM]
        · simp (disch := first | omega | (simp only [ds] <;> omega) | fail) only [wk, undefM, Nat.reduceLT, Nat.reduceAdd, Nat.reduceMul, Nat.reduceSub, Nat.reduceBEq, Nat.reduceEqDiff, Int.reduceToNat, reduceIte, tsI2, hk44, enM]
        simp (disch := first | omega | (simp only [ds] <;> omega) | fail) only [wk, undefM, Nat.reduceLT, Nat.reduceAdd, Nat.reduceMul, Nat.reduceSub, Nat.reduceBEq, Nat.reduceEqDiff, Int.reduceToNat, reduceIte, tsI2, hk44, enM]
        refine CallW.rt (isBelow_v (h1, v1, c1) (h3, v3, c3) _ hbd.1 hbd.2) (by kernel_rfl) rfl rfl ?_
        rintro _ O5 ⟨rfl, hg5⟩
        have hg35 := hg34.trans hg5
        have hgZ := hg35
        simp (disch := first | omega | (simp only [ds] <;> omega) | fail) only [wk, undefM, Nat.reduceLT, Nat.reduceAdd, Nat.reduceMul, Nat.reduceSub, Nat.reduceBEq, Nat.reduceEqDiff, Int.reduceToNat, reduceIte, tsI2, hC]
        refine RoundQ.next (0 + 1) rfl rfl ?_ (by first | omega | (dsimp only; omega))
        refine ⟨hgX.trans hgZ, by omega, ?_⟩
        rw [if_neg (by omega), Nat.add_sub_cancel, List.getElem?_eq_getElem h2, hp, hok]
        rfl
      have hj1 : j - 1 < L.length := by omega
      obtain ⟨i, rfl⟩ : ∃ i, j = i + 1 := ⟨j - 1, by omega⟩
      rw [if_neg hj0, Nat.add_sub_cancel, List.getElem?_eq_getElem (by omega)] at hok
      have hhi := iv_hi L i (by omega)
      have hbq := hL L[i] (List.getElem_mem (by omega))
      generalize L[i] = q at *
      obtain ⟨qlo, ⟨h5, v5, c5⟩⟩ := q
      dsimp only [Option.map_some, aheadO] at hok hbq hhi
      refine VC.drawE [] (by kernel_rfl) ?_
      refine VAnyE.sil tabOk 0 rfl (by kernel_rfl) (by kernel_rfl) (by kernel_rfl) (by kernel_rfl) rfl rfl ?_
      simp (disch := first | omega | (simp only [ds] <;> omega) | fail) only [wk, undefM, Nat.reduceLT, Nat.reduceAdd, Nat.reduceMul, Nat.reduceSub, Nat.reduceBEq, Nat.reduceEqDiff, Int.reduceToNat, reduceIte, PreK_some, putM_some, tsI2]
      refine VAnyE.ld (m := .agg (enM (h1, v1, c1))) tabOk 1 rfl (by kernel_rfl) (by kernel_rfl) (by kernel_rfl) (by kernel_rfl) rfl rfl rfl ?_ rfl ?_
      · simp (disch := first | omega | (simp only [ds] <;> omega) | fail) only [wk, undefM, Nat.reduceLT, Nat.reduceAdd, Nat.reduceMul, Nat.reduceSub, Nat.reduceBEq, Nat.reduceEqDiff, Int.reduceToNat, reduceIte, tsI2, hk4, enM]
      simp only [putM_some]
      refine VAnyE.call (i := 2) (by kernel_rfl) rfl rfl rfl rfl (by kernel_rfl) rfl (isEnd_v (h1, v1, c1) _ hbd.1) ?_
      rintro _ O3 ⟨rfl, hg3⟩
      simp only [putM_some]
      refine ⟨hg3, ?_⟩
      rw [hA]
      refine VAnyE.sil tabOk 3 rfl (by kernel_rfl) (by kernel_rfl) (by kernel_rfl) (by kernel_rfl) rfl rfl ?_
      simp (disch := first | omega | (simp only [ds] <;> omega) | fail) only [wk, undefM, Nat.reduceLT, Nat.reduceAdd, Nat.reduceMul, Nat.reduceSub, Nat.reduceBEq, Nat.reduceEqDiff, Int.reduceToNat, reduceIte, PreK_some, putM_some, tsI2]
      refine VAnyE.sil tabOk 4 rfl (by kernel_rfl) (by kernel_rfl) (by kernel_rfl) (by kernel_rfl) rfl rfl ?_
      simp (disch := first | omega | (simp only [ds] <;> omega) | fail) only [wk, undefM, Nat.reduceLT, Nat.reduceAdd, Nat.reduceMul, Nat.reduceSub, Nat.reduceBEq, Nat.reduceEqDiff, Int.reduceToNat, reduceIte, PreK_some, putM_some, tsI2]
      refine VAnyE.sil tabOk 5 rfl (by kernel_rfl) (by kernel_rfl) (by kernel_rfl) (by kernel_rfl) rfl rfl ?_
      simp (disch := first | omega | (simp only [ds] <;> omega) | fail) only [wk, undefM, Nat.reduceLT, Nat.reduceAdd, Nat.reduceMul, Nat.reduceSub, Nat.reduceBEq, Nat.reduceEqDiff, Int.reduceToNat, reduceIte, PreK_some, putM_some, tsI2]
      refine VAnyE.ld (m := .agg (enM (h3, v3, c3))) tabOk 6 rfl (by kernel_rfl) (by kernel_rfl) (by kernel_rfl) (by kernel_rfl) rfl rfl rfl ?_ rfl ?_
      · simp (disch := first | omega | (simp only [ds] <;> omega) | fail) only [wk, undefM, Nat.reduceLT, Nat.reduceAdd, Nat.reduceMul, Nat.reduceSub, Nat.reduceBEq, Nat.reduceEqDiff, Int.reduceToNat, reduceIte, tsI2, hk4, enM]
      simp only [putM_some]
      refine VAnyE.call (i := 7) (by kernel_rfl) rfl rfl rfl rfl (by kernel_rfl) rfl (isEnd_v (h3, v3, c3) _ hbd.2) ?_
      rintro _ O4 ⟨rfl, hg4⟩
      simp only [putM_some]
      have hg34 := hg3.trans hg4
      refine ⟨hg34, ?_⟩
      rw [hB]
      refine VAnyE.sil tabOk 8 rfl (by kernel_rfl) (by kernel_rfl) (by kernel_rfl) (by kernel_rfl) rfl rfl ?_
      simp (disch := first | omega | (simp only [ds] <;> omega) | fail) only [wk, undefM, Nat.reduceLT, Nat.reduceAdd, Nat.reduceMul, Nat.reduceSub, Nat.reduceBEq, Nat.reduceEqDiff, Int.reduceToNat, reduceIte, PreK_some, putM_some, tsI2]
      refine VAnyE.sil tabOk 9 rfl (by kernel_rfl) (by kernel_rfl) (by kernel_rfl) (by kernel_rfl) rfl rfl ?_
      simp (disch := first | omega | (simp only [ds] <;> omega) | fail) only [wk, undefM, Nat.reduceLT, Nat.reduceAdd, Nat.reduceMul, Nat.reduceSub, Nat.reduceBEq, Nat.reduceEqDiff, Int.reduceToNat, reduceIte, PreK_some, putM_some, tsI2]
      refine VAnyE.sil tabOk 10 rfl (by kernel_rfl) (by kernel_rfl) (by kernel_rfl) (by kernel_rfl) rfl rfl ?_
      simp (disch := first | omega | (simp only [ds] <;> omega) | fail) only [wk, undefM, Nat.reduceLT, Nat.reduceAdd, Nat.reduceMul, Nat.reduceSub, Nat.reduceBEq, Nat.reduceEqDiff, Int.reduceToNat, reduceIte, PreK_some, putM_some, tsI2]
      refine VAnyE.sil tabOk 11 rfl (by kernel_rfl) (by kernel_rfl) (by kernel_rfl) (by kernel_rfl) rfl rfl ?_
      simp (disch := first | omega | (simp only [ds] <;> omega) | fail) only [wk, undefM, Nat.reduceLT, Nat.reduceAdd, Nat.reduceMul, Nat.reduceSub, Nat.reduceBEq, Nat.reduceEqDiff, Int.reduceToNat, reduceIte, PreK_some, putM_some, tsI2]
      refine VAnyE.sil tabOk 13 rfl (by kernel_rfl) (by kernel_rfl) (by kernel_rfl) (by kernel_rfl) rfl rfl ?_
      simp (disch := first | omega | (simp only [ds] <;> omega) | fail) only [wk, undefM, Nat.reduceLT, Nat.reduceAdd, Nat.reduceMul, Nat.reduceSub, Nat.reduceBEq, Nat.reduceEqDiff, Int.reduceToNat, reduceIte, PreK_some, putM_some, tsI2]
      refine VAnyE.ld (m := .agg (enM (h1, v1, c1))) tabOk 12 rfl (by kernel_rfl) (by kernel_rfl) (by kernel_rfl) (by kernel_rfl) rfl rfl rfl ?_ rfl ?_
      · simp (disch := first | omega | (simp only [ds] <;> omega) | fail) only [wk, undefM, Nat.reduceLT, Nat.reduceAdd, Nat.reduceMul, Nat.reduceSub, Nat.reduceBEq, Nat.reduceEqDiff, Int.reduceToNat, reduceIte, tsI2, hk4, enM]
      simp only [putM_some]
      refine VAnyE.ld (m := .agg (enM (h3, v3, c3))) tabOk 14 rfl (by kernel_rfl) (by kernel_rfl) (by kernel_rfl) (by kernel_rfl) rfl rfl rfl ?_ rfl ?_
      · simp (disch := first | omega | (simp only [ds] <;> omega) | fail) only [wk, undefM, Nat.reduceLT, Nat.reduceAdd, Nat.reduceMul, Nat.reduceSub, Nat.reduceBEq, Nat.reduceEqDiff, Int.reduceToNat, reduceIte, tsI2, hk4, enM]
      simp only [putM_some]
      refine VAnyE.call (i := 15) (by kernel_rfl) rfl rfl rfl rfl (by kernel_rfl) rfl (isBelow_v (h1, v1, c1) (h3, v3, c3) _ hbd.1 hbd.2) ?_
      rintro _ O5 ⟨rfl, hg5⟩
      simp only [putM_some]
      have hg35 := hg34.trans hg5
      have hk1Y := (hg35.hp _ (by omega)).trans hk1X
      refine ⟨hg35, ?_⟩
      rw [hC]
      refine VAnyE.sil tabOk 16 rfl (by kernel_rfl) (by kernel_rfl) (by kernel_rfl) (by kernel_rfl) rfl rfl ?_
      simp (disch := first | omega | (simp only [ds] <;> omega) | fail) only [wk, undefM, Nat.reduceLT, Nat.reduceAdd, Nat.reduceMul, Nat.reduceSub, Nat.reduceBEq, Nat.reduceEqDiff, Int.reduceToNat, reduceIte, PreK_some, putM_some, tsI2]
      refine VAnyE.sil tabOk 17 rfl (by kernel_rfl) (by kernel_rfl) (by kernel_rfl) (by kernel_rfl) rfl rfl ?_
      simp (disch := first | omega | (simp only [ds] <;> omega) | fail) only [wk, undefM, Nat.reduceLT, Nat.reduceAdd, Nat.reduceMul, Nat.reduceSub, Nat.reduceBEq, Nat.reduceEqDiff, Int.reduceToNat, reduceIte, PreK_some, putM_some, tsI2]
      refine VAnyE.sil tabOk 18 rfl (by kernel_rfl) (by kernel_rfl) (by kernel_rfl) (by kernel_rfl) rfl rfl ?_
      simp (disch := first | omega | (simp only [ds] <;> omega) | fail) only [wk, undefM, Nat.reduceLT, Nat.reduceAdd, Nat.reduceMul, Nat.reduceSub, Nat.reduceBEq, Nat.reduceEqDiff, Int.reduceToNat, reduceIte, PreK_some, putM_some, tsI2]
      refine VAnyE.sil tabOk 19 rfl (by kernel_rfl) (by kernel_rfl) (by kernel_rfl) (by kernel_rfl) rfl rfl ?_
      simp (disch := first | omega | (simp only [ds] <;> omega) | fail) only [wk, undefM, Nat.reduceLT, Nat.reduceAdd, Nat.reduceMul, Nat.reduceSub, Nat.reduceBEq, Nat.reduceEqDiff, Int.reduceToNat, reduceIte, PreK_some, putM_some, tsI2]
      refine VAnyE.sil tabOk 20 rfl (by kernel_rfl) (by kernel_rfl) (by kernel_rfl) (by kernel_rfl) rfl rfl ?_
      simp (disch := first | omega | (simp only [ds] <;> omega) | fail) only [wk, undefM, Nat.reduceLT, Nat.reduceAdd, Nat.reduceMul, Nat.reduceSub, Nat.reduceBEq, Nat.reduceEqDiff, Int.reduceToNat, reduceIte, PreK_some, putM_some, tsI2]
      refine VAnyE.sil tabOk 21 rfl (by kernel_rfl) (by kernel_rfl) (by kernel_rfl) (by kernel_rfl) rfl rfl ?_
      simp (disch := first | omega | (simp only [ds] <;> omega) | fail) only [wk, undefM, Nat.reduceLT, Nat.reduceAdd, Nat.reduceMul, Nat.reduceSub, Nat.reduceBEq, Nat.reduceEqDiff, Int.reduceToNat, reduceIte, PreK_some, putM_some, tsI2]
      refine VAnyE.sil tabOk 22 rfl (by kernel_rfl) (by kernel_rfl) (by kernel_rfl) (by kernel_rfl) rfl rfl ?_
      simp (disch := first | omega | (simp only [ds] <;> omega) | fail) only [wk, undefM, Nat.reduceLT, Nat.reduceAdd, Nat.reduceMul, Nat.reduceSub, Nat.reduceBEq, Nat.reduceEqDiff, Int.reduceToNat, reduceIte, PreK_some, putM_some, tsI2]
      refine VAnyE.sil tabOk 24 rfl (by kernel_rfl) (by kernel_rfl) (by kernel_rfl) (by kernel_rfl) rfl rfl ?_
      simp (disch := first | omega | (simp only [ds] <;> omega) | fail) only [wk, undefM, Nat.reduceLT, Nat.reduceAdd, Nat.reduceMul, Nat.reduceSub, Nat.reduceBEq, Nat.reduceEqDiff, Int.reduceToNat, reduceIte, PreK_some, putM_some, tsI2]
      refine VAnyE.sil tabOk 25 rfl (by kernel_rfl) (by kernel_rfl) (by kernel_rfl) (by kernel_rfl) rfl rfl ?_
      simp (disch := first | omega | (simp only [ds] <;> omega) | fail) only [wk, undefM, Nat.reduceLT, Nat.reduceAdd, Nat.reduceMul, Nat.reduceSub, Nat.reduceBEq, Nat.reduceEqDiff, Int.reduceToNat, reduceIte, PreK_some, putM_some, tsI2]
      refine VAnyE.sil tabOk 29 rfl (by kernel_rfl) (by kernel_rfl) (by kernel_rfl) (by kernel_rfl) rfl rfl ?_
      simp (disch := first | omega | (simp only [ds] <;> omega) | fail) only [wk, undefM, Nat.reduceLT, Nat.reduceAdd, Nat.reduceMul, Nat.reduceSub, Nat.reduceBEq, Nat.reduceEqDiff, Int.reduceToNat, reduceIte, PreK_some, putM_some, tsI2]
      refine VAnyE.ld (m := .agg (enM (h1, v1, c1))) tabOk 30 rfl (by kernel_rfl) (by kernel_rfl) (by kernel_rfl) (by kernel_rfl) rfl rfl rfl ?_ rfl ?_
      · simp (disch := first | omega | (simp only [ds] <;> omega) | fail) only [wk, undefM, Nat.reduceLT, Nat.reduceAdd, Nat.reduceMul, Nat.reduceSub, Nat.reduceBEq, Nat.reduceEqDiff, Int.reduceToNat, reduceIte, tsI2, hk4, enM]
      simp only [putM_some]
      refine VAnyE.op (i := 23) tabOk (by kernel_rfl) rfl rfl rfl ?_
      simp (disch := first | omega | (simp only [ds] <;> omega) | fail) only [wk, undefM, Nat.reduceLT, Nat.reduceAdd, Nat.reduceMul, Nat.reduceSub, Nat.reduceBEq, Nat.reduceEqDiff, Int.reduceToNat, reduceIte, PreK_some, putM_some, tsI2, hk1Y, rgM]
      refine ⟨hg35, ?_⟩
      refine VAnyE.sil tabOk 26 rfl (by kernel_rfl) (by kernel_rfl) (by kernel_rfl) (by kernel_rfl) rfl rfl ?_
      simp (disch := first | omega | (simp only [ds] <;> omega) | fail) only [wk, undefM, Nat.reduceLT, Nat.reduceAdd, Nat.reduceMul, Nat.reduceSub, Nat.reduceBEq, Nat.reduceEqDiff, Int.reduceToNat, reduceIte, PreK_some, putM_some, tsI2]
      refine VAnyE.sil tabOk 27 rfl (by kernel_rfl) (by kernel_rfl) (by kernel_rfl) (by kernel_rfl) rfl rfl ?_
      simp (disch := first | omega | (simp only [ds] <;> omega) | fail) only [wk, undefM, Nat.reduceLT, Nat.reduceAdd, Nat.reduceMul, Nat.reduceSub, Nat.reduceBEq, Nat.reduceEqDiff, Int.reduceToNat, reduceIte, PreK_some, putM_some, tsI2]
      refine VAnyE.op (i := 28) tabOk (by kernel_rfl) rfl rfl rfl ?_
      simp (disch := first | omega | (simp only [ds] <;> omega) | fail) only [wk, undefM, Nat.reduceLT, Nat.reduceAdd, Nat.reduceMul, Nat.reduceSub, Nat.reduceBEq, Nat.reduceEqDiff, Int.reduceToNat, reduceIte, PreK_some, putM_some, tsI2, hhi, enM]
      refine ⟨hg35, ?_⟩
      refine VAnyE.call (i := 31) (by kernel_rfl) rfl rfl rfl rfl (by kernel_rfl) rfl (isAhead_v (h5, v5, c5) (h1, v1, c1) _ hbq.2 hbd.1) ?_
      rintro _ O6 ⟨rfl, hg6⟩
      simp only [putM_some]
      have hgZ := hg35.trans hg6
      refine ⟨hgZ, ?_⟩
      cases hD : aheadF (h5, v5, c5) (h1, v1, c1)
      · rw [hok, hD]
        refine VAnyE.sil tabOk 32 rfl (by kernel_rfl) (by kernel_rfl) (by kernel_rfl) (by kernel_rfl) rfl rfl ?_
        simp (disch := first | omega | (simp only [ds] <;> omega) | fail) only [wk, undefM, Nat.reduceLT, Nat.reduceAdd, Nat.reduceMul, Nat.reduceSub, Nat.reduceBEq, Nat.reduceEqDiff, Int.reduceToNat, reduceIte, PreK_some, putM_some, tsI2]
        refine VAnyE.sil tabOk 33 rfl (by kernel_rfl) (by kernel_rfl) (by kernel_rfl) (by kernel_rfl) rfl rfl ?_
        simp (disch := first | omega | (simp only [ds] <;> omega) | fail) only [wk, undefM, Nat.reduceLT, Nat.reduceAdd, Nat.reduceMul, Nat.reduceSub, Nat.reduceBEq, Nat.reduceEqDiff, Int.reduceToNat, reduceIte, PreK_some, putM_some, tsI2]
        refine VAnyE.sil tabOk 34 rfl (by kernel_rfl) (by kernel_rfl) (by kernel_rfl) (by kernel_rfl) rfl rfl ?_
        simp (disch := first | omega | (simp only [ds] <;> omega) | fail) only [wk, undefM, Nat.reduceLT, Nat.reduceAdd, Nat.reduceMul, Nat.reduceSub, Nat.reduceBEq, Nat.reduceEqDiff, Int.reduceToNat, reduceIte, PreK_some, putM_some, tsI2]
        refine VAnyE.plan tabOk [] (by kernel_rfl) (by kernel_rfl) (by kernel_rfl) rfl ?_
        simp (disch := first | omega | (simp only [ds] <;> omega) | fail) only [wk, undefM, Nat.reduceLT, Nat.reduceAdd, Nat.reduceMul, Nat.reduceSub, Nat.reduceBEq, Nat.reduceEqDiff, Int.reduceToNat, reduceIte, tsI2]
        exact hge0.trans hgZ
      · rw [hD] at hok
        refine VAnyE.sil tabOk 32 rfl (by kernel_rfl) (by kernel_rfl) (by kernel_rfl) (by kernel_rfl) rfl rfl ?_
        simp (disch := first | omega | (simp only [ds] <;> omega) | fail) only [wk, undefM, Nat.reduceLT, Nat.reduceAdd, Nat.reduceMul, Nat.reduceSub, Nat.reduceBEq, Nat.reduceEqDiff, Int.reduceToNat, reduceIte, PreK_some, putM_some, tsI2]
        refine VAnyE.sil tabOk 33 rfl (by kernel_rfl) (by kernel_rfl) (by kernel_rfl) (by kernel_rfl) rfl rfl ?_
        simp (disch := first | omega | (simp only [ds] <;> omega) | fail) only [wk, undefM, Nat.reduceLT, Nat.reduceAdd, Nat.reduceMul, Nat.reduceSub, Nat.reduceBEq, Nat.reduceEqDiff, Int.reduceToNat, reduceIte, PreK_some, putM_some, tsI2]
        refine VAnyE.sil tabOk 34 rfl (by kernel_rfl) (by kernel_rfl) (by kernel_rfl) (by kernel_rfl) rfl rfl ?_
        simp (disch := first | omega | (simp only [ds] <;> omega) | fail) only [wk, undefM, Nat.reduceLT, Nat.reduceAdd, Nat.reduceMul, Nat.reduceSub, Nat.reduceBEq, Nat.reduceEqDiff, Int.reduceToNat, reduceIte, PreK_some, putM_some, tsI2]
        refine VAnyE.plan tabOk [] (by kernel_rfl) (by kernel_rfl) (by kernel_rfl) rfl ?_
        simp (disch := first | omega | (simp only [ds] <;> omega) | fail) only [wk, undefM, Nat.reduceLT, Nat.reduceAdd, Nat.reduceMul, Nat.reduceSub, Nat.reduceBEq, Nat.reduceEqDiff, Int.reduceToNat, reduceIte, tsI2]
        refine RoundQ.next ((i + 1) + 1) rfl rfl ?_ (by first | omega | (dsimp only; omega))
        refine ⟨hgX.trans hgZ, by omega, ?_⟩
        rw [if_neg (by omega), Nat.add_sub_cancel, List.getElem?_eq_getElem h2, hp, hok]
        rfl
    · have hjl : j = L.length := by omega
      rw [List.drop_of_length_le (by omega), okRow] at hok
      rw [hok]
      have hge0 := (hge (.cells (rgM (true, ver, L) tk))).trans hg2
      cases hv0 : ver == []
      · simp (disch := first | omega | (simp only [ds] <;> omega) | fail) only [wk, undefM, Nat.reduceLT, Nat.reduceAdd, Nat.reduceMul, Nat.reduceSub, Nat.reduceBEq, Nat.reduceEqDiff, Int.reduceToNat, reduceIte, tsI2, hk1, rgM, hv0]
        exact hge0
      by_cases h1l : 1 ≤ L.length
      · by_cases h3l : L.length ≤ 1024
        · simp (disch := first | omega | (simp only [ds] <;> omega) | fail) only [wk, undefM, Nat.reduceLT, Nat.reduceAdd, Nat.reduceMul, Nat.reduceSub, Nat.reduceBEq, Nat.reduceEqDiff, Int.reduceToNat, reduceIte, tsI2, hk1, rgM, hv0, h1l, h3l]
          exact hge0
        · simp (disch := first | omega | (simp only [ds] <;> omega) | fail) only [wk, undefM, Nat.reduceLT, Nat.reduceAdd, Nat.reduceMul, Nat.reduceSub, Nat.reduceBEq, Nat.reduceEqDiff, Int.reduceToNat, reduceIte, tsI2, hk1, rgM, hv0, h1l, h3l]
          exact hge0
      · simp (disch := first | omega | (simp only [ds] <;> omega) | fail) only [wk, undefM, Nat.reduceLT, Nat.reduceAdd, Nat.reduceMul, Nat.reduceSub, Nat.reduceBEq, Nat.reduceEqDiff, Int.reduceToNat, reduceIte, tsI2, hk1, rgM, hv0, h1l]
        exact hge0
end Go.Proofs.YtbpnmkmlicbfoaaDoor

/-
  The reference of the package bounds: whether a range may be, walked.
-/
set_option linter.unusedVariables false
set_option linter.unusedSimpArgs false
namespace Go.Proofs.YtbpnmkmlicbfoaaDoor
open Go.RowKit
set_option maxRecDepth 10000
/-- pomaceref05.May -/
theorem rRgMay_v (r : Rg) (tk : Tok) (O : VH) (hr : RgOk r) : VF Tryd.prog 20 [.agg (rgM r tk)] O (Ret fun m O' => m = mb (mayR r) ∧ O.Ge O') := by
  obtain ⟨hard, ver, L⟩ := r
  obtain ⟨hv, hn, hL⟩ := hr
  dsimp only at hv hn hL
  have hge := fun x => (VH.Ge.refl O).push x
  have hpl := iv_len L
  have hnm : (L.length : Int) ≤ 9223372036854775807 := by simp [maxLen] at hn; omega
  unfold mayR
  dsimp only
  refine VF.ofW (n := ⟨100, 0⟩) (rs := [.tmp 2]) tabOk Tryd.func20 rfl rfl rfl (Nat.le_of_ble_eq_true rfl) ?_
  simp only [argEnv, Nat.zero_add, Nat.reduceAdd]
  cases hard
  · simp (disch := first | omega | (simp only [ds] <;> omega) | fail) only [wk, undefM, Nat.reduceLT, Nat.reduceAdd, Nat.reduceMul, Nat.reduceSub, Nat.reduceBEq, Nat.reduceEqDiff, Int.reduceToNat, reduceIte, tsI2, rgM]
    refine CallW.rt (rMay_v ver _ hv) (by kernel_rfl) rfl rfl ?_
    rintro _ O2 ⟨rfl, rfl⟩
    cases hmf : mayF ver
    · simp (disch := first | omega | (simp only [ds] <;> omega) | fail) only [wk, undefM, Nat.reduceLT, Nat.reduceAdd, Nat.reduceMul, Nat.reduceSub, Nat.reduceBEq, Nat.reduceEqDiff, Int.reduceToNat, reduceIte, tsI2, rgM]
      exact hge _
    by_cases h0 : L.length = 0
    · simp (disch := first | omega | (simp only [ds] <;> omega) | fail) only [wk, undefM, Nat.reduceLT, Nat.reduceAdd, Nat.reduceMul, Nat.reduceSub, Nat.reduceBEq, Nat.reduceEqDiff, Int.reduceToNat, reduceIte, tsI2, rgM, h0]
      exact hge _
    · simp (disch := first | omega | (simp only [ds] <;> omega) | fail) only [wk, undefM, Nat.reduceLT, Nat.reduceAdd, Nat.reduceMul, Nat.reduceSub, Nat.reduceBEq, Nat.reduceEqDiff, Int.reduceToNat, reduceIte, tsI2, rgM, h0]
      exact hge _
  cases hv0 : ver == []
  · simp (disch := first | omega | (simp only [ds] <;> omega) | fail) only [wk, undefM, Nat.reduceLT, Nat.reduceAdd, Nat.reduceMul, Nat.reduceSub, Nat.reduceBEq, Nat.reduceEqDiff, Int.reduceToNat, reduceIte, tsI2, rgM, hv0]
    exact hge _
  by_cases h1l : 1 ≤ L.length
  rotate_left
  · have h0 : L.length = 0 := by omega
    simp (disch := first | omega | (simp only [ds] <;> omega) | fail) only [wk, undefM, Nat.reduceLT, Nat.reduceAdd, Nat.reduceMul, Nat.reduceSub, Nat.reduceBEq, Nat.reduceEqDiff, Int.reduceToNat, reduceIte, tsI2, rgM, hv0, h0]
    exact hge _
  have h0 : ¬L.length = 0 := by omega
  by_cases h3l : L.length ≤ 1024
  rotate_left
  · simp (disch := first | omega | (simp only [ds] <;> omega) | fail) only [wk, undefM, Nat.reduceLT, Nat.reduceAdd, Nat.reduceMul, Nat.reduceSub, Nat.reduceBEq, Nat.reduceEqDiff, Int.reduceToNat, reduceIte, tsI2, rgM, hv0, h0, h1l, h3l]
    exact hge _
  rw [decide_eq_true h1l, decide_eq_true h3l]
  simp (disch := first | omega | (simp only [ds] <;> omega) | fail) only [wk, undefM, Nat.reduceLT, Nat.reduceAdd, Nat.reduceMul, Nat.reduceSub, Nat.reduceBEq, Nat.reduceEqDiff, Int.reduceToNat, reduceIte, tsI2, rgM, hv0, h0, h1l, h3l]
  refine WC.loopK tabOk [37] [1, 35, 36] (fun j : Nat => [mi j]) (fun j O' => (O.push (.cells (rgM (true, ver, L) tk))).Ge O' ∧ j ≤ L.length ∧ okRow none L = okRow (if j = 0 then none else (L[j - 1]?).map (·.2)) (L.drop j)) (fun j => L.length - j) (0) rfl rfl ?_ ?_
  · exact ⟨VH.Ge.refl _, Nat.zero_le _, rfl⟩
  rintro j O2 ⟨hg2, hj, hok⟩
  by_cases h2 : j < L.length
  · have hp6 := iv_at L j h2
    have hbd := hL L[j] (List.getElem_mem h2)
    rw [List.drop_eq_getElem_cons h2] at hok
    generalize hp : L[j] = p at *
    obtain ⟨⟨h1, v1, c1⟩, ⟨h3, v3, c3⟩⟩ := p
    simp (disch := first | omega | (simp only [ds] <;> omega) | fail) only [wk, undefM, Nat.reduceLT, Nat.reduceAdd, Nat.reduceMul, Nat.reduceSub, Nat.reduceBEq, Nat.reduceEqDiff, Int.reduceToNat, reduceIte, tsI2, hp6, ivM, enM]
    have hOX : O2.Ge ((O2.push (.cells [.v (.bool false), .str [], .v (.bool false), .v (.bool false), .str [], .v (.bool false)])).set O2.next (.cells [.v (.bool h1), .str v1, .v (.bool c1), .v (.bool h3), .str v3, .v (.bool c3)])) := ((VH.Ge.refl O2).push _).set (Nat.le_refl _) _
    have hk4 := VH.set_get (O2.push (.cells [.v (.bool false), .str [], .v (.bool false), .v (.bool false), .str [], .v (.bool false)])) O2.next (.cells [.v (.bool h1), .str v1, .v (.bool c1), .v (.bool h3), .str v3, .v (.bool c3)])
    have hn4 : O2.next < ((O2.push (.cells [.v (.bool false), .str [], .v (.bool false), .v (.bool false), .str [], .v (.bool false)])).set O2.next (.cells [.v (.bool h1), .str v1, .v (.bool c1), .v (.bool h3), .str v3, .v (.bool c3)])).next := Nat.lt_succ_self _
    have hlt1 := hg2.next
    dsimp only [VH.push] at hlt1
    generalize ((O2.push (.cells [.v (.bool false), .str [], .v (.bool false), .v (.bool false), .str [], .v (.bool false)])).set O2.next (.cells [.v (.bool h1), .str v1, .v (.bool c1), .v (.bool h3), .str v3, .v (.bool c3)])) = OX at *
    have hgX := hg2.trans hOX
    have hge0 := (hge (.cells (rgM (true, ver, L) tk))).trans hgX
    dsimp only at hbd
    rw [okRow] at hok
    dsimp only at hok
    cases hA : endOk (h1, v1, c1)
    · rw [hok, hA]
      refine CallW.rt (rMayEnd_v (h1, v1, c1) _ hbd.1) (by kernel_rfl) rfl rfl ?_
      rintro _ O3 ⟨rfl, hg3⟩
      have hk43 := (hg3.hp _ hn4).trans hk4
      simp (disch := first | omega | (simp only [ds] <;> omega) | fail) only [wk, undefM, Nat.reduceLT, Nat.reduceAdd, Nat.reduceMul, Nat.reduceSub, Nat.reduceBEq, Nat.reduceEqDiff, Int.reduceToNat, reduceIte, tsI2, hA]
      exact hge0.trans hg3
    cases hB : endOk (h3, v3, c3)
    · rw [hok, hA, hB]
      refine CallW.rt (rMayEnd_v (h1, v1, c1) _ hbd.1) (by kernel_rfl) rfl rfl ?_
      rintro _ O3 ⟨rfl, hg3⟩
      have hk43 := (hg3.hp _ hn4).trans hk4
      simp (disch := first | omega | (simp only [ds] <;> omega) | fail) only [wk, undefM, Nat.reduceLT, Nat.reduceAdd, Nat.reduceMul, Nat.reduceSub, Nat.reduceBEq, Nat.reduceEqDiff, Int.reduceToNat, reduceIte, tsI2, hA, hk43]
      refine CallW.rt (rMayEnd_v (h3, v3, c3) _ hbd.2) (by kernel_rfl) rfl rfl ?_
      rintro _ O4 ⟨rfl, hg4⟩
      have hg34 := hg3.trans hg4
      have hk44 := (hg34.hp _ hn4).trans hk4
      simp (disch := first | omega | (simp only [ds] <;> omega) | fail) only [wk, undefM, Nat.reduceLT, Nat.reduceAdd, Nat.reduceMul, Nat.reduceSub, Nat.reduceBEq, Nat.reduceEqDiff, Int.reduceToNat, reduceIte, tsI2, hB]
      exact (hge0.trans hg3).trans hg4
    cases hC : belowF (h1, v1, c1) (h3, v3, c3)
    · rw [hok, hA, hB, hC]
      refine CallW.rt (rMayEnd_v (h1, v1, c1) _ hbd.1) (by kernel_rfl) rfl rfl ?_
      rintro _ O3 ⟨rfl, hg3⟩
      have hk43 := (hg3.hp _ hn4).trans hk4
      simp (disch := first | omega | (simp only [ds] <;> omega) | fail) only [wk, undefM, Nat.reduceLT, Nat.reduceAdd, Nat.reduceMul, Nat.reduceSub, Nat.reduceBEq, Nat.reduceEqDiff, Int.reduceToNat, reduceIte, tsI2, hA, hk43]
      refine CallW.rt (rMayEnd_v (h3, v3, c3) _ hbd.2) (by kernel_rfl) rfl rfl ?_
      rintro _ O4 ⟨rfl, hg4⟩
      have hg34 := hg3.trans hg4
      have hk44 := (hg34.hp _ hn4).trans hk4
      simp (disch := first | omega | (simp only [ds] <;> omega) | fail) only [wk, undefM, Nat.reduceLT, Nat.reduceAdd, Nat.reduceMul, Nat.reduceSub, Nat.reduceBEq, Nat.reduceEqDiff, Int.reduceToNat, reduceIte, tsI2, hB, hk44, enM]
      refine CallW.rt (rBelow_v (h1, v1, c1) (h3, v3, c3) _ hbd.1 hbd.2) (by kernel_rfl) rfl rfl ?_
      rintro _ O5 ⟨rfl, hg5⟩
      have hg35 := hg34.trans hg5
      have hk45 := (hg35.hp _ hn4).trans hk4
      have hk15 := ((hgX.trans hg35).hp _ (Nat.lt_succ_self _)).trans (VH.push_new O (.cells (rgM (true, ver, L) tk)))
      have hn5 := Nat.lt_of_lt_of_le hn4 hg35.next
      simp (disch := first | omega | (simp only [ds] <;> omega) | fail) only [wk, undefM, Nat.reduceLT, Nat.reduceAdd, Nat.reduceMul, Nat.reduceSub, Nat.reduceBEq, Nat.reduceEqDiff, Int.reduceToNat, reduceIte, tsI2, hC]
      exact hge0.trans hg35
    rw [hA, hB, hC] at hok
    by_cases hj0 : j = 0
    · subst hj0
      rw [if_pos rfl] at hok
      refine CallW.rt (rMayEnd_v (h1, v1, c1) _ hbd.1) (by kernel_rfl) rfl rfl ?_
      rintro _ O3 ⟨rfl, hg3⟩
      have hk43 := (hg3.hp _ hn4).trans hk4
      simp (disch := first | omega | (simp only [ds] <;> omega) | fail) only [wk, undefM, Nat.reduceLT, Nat.reduceAdd, Nat.reduceMul, Nat.reduceSub, Nat.reduceBEq, Nat.reduceEqDiff, Int.reduceToNat, reduceIte, tsI2, hA, hk43]
      refine CallW.rt (rMayEnd_v (h3, v3, c3) _ hbd.2) (by kernel_rfl) rfl rfl ?_
      rintro _ O4 ⟨rfl, hg4⟩
      have hg34 := hg3.trans hg4
      have hk44 := (hg34.hp _ hn4).trans hk4
      simp (disch := first | omega | (simp only [ds] <;> omega) | fail) only [wk, undefM, Nat.reduceLT, Nat.reduceAdd, Nat.reduceMul, Nat.reduceSub, Nat.reduceBEq, Nat.reduceEqDiff, Int.reduceToNat, reduceIte, tsI2, hB, hk44, enM]
      refine CallW.rt (rBelow_v (h1, v1, c1) (h3, v3, c3) _ hbd.1 hbd.2) (by kernel_rfl) rfl rfl ?_
      rintro _ O5 ⟨rfl, hg5⟩
      have hg35 := hg34.trans hg5
      have hk45 := (hg35.hp _ hn4).trans hk4
      have hk15 := ((hgX.trans hg35).hp _ (Nat.lt_succ_self _)).trans (VH.push_new O (.cells (rgM (true, ver, L) tk)))
      have hn5 := Nat.lt_of_lt_of_le hn4 hg35.next
      have hgZ := hg35
      simp (disch := first | omega | (simp only [ds] <;> omega) | fail) only [wk, undefM, Nat.reduceLT, Nat.reduceAdd, Nat.reduceMul, Nat.reduceSub, Nat.reduceBEq, Nat.reduceEqDiff, Int.reduceToNat, reduceIte, tsI2, hC]
      refine RoundQ.next (0 + 1) rfl rfl ?_ (by first | omega | (dsimp only; omega))
      refine ⟨hgX.trans hgZ, by omega, ?_⟩
      rw [if_neg (by omega), Nat.add_sub_cancel, List.getElem?_eq_getElem h2, hp, hok]
      rfl
    obtain ⟨i, rfl⟩ : ∃ i, j = i + 1 := ⟨j - 1, by omega⟩
    rw [if_neg hj0, Nat.add_sub_cancel, List.getElem?_eq_getElem (by omega)] at hok
    have hhi := iv_hi L i (by omega)
    have hbq := hL L[i] (List.getElem_mem (by omega))
    generalize L[i] = q at *
    obtain ⟨qlo, ⟨h5, v5, c5⟩⟩ := q
    dsimp only [Option.map_some, aheadO] at hok hbq hhi
    refine CallW.rt (rMayEnd_v (h1, v1, c1) _ hbd.1) (by kernel_rfl) rfl rfl ?_
    rintro _ O3 ⟨rfl, hg3⟩
    have hk43 := (hg3.hp _ hn4).trans hk4
    simp (disch := first | omega | (simp only [ds] <;> omega) | fail) only [wk, undefM, Nat.reduceLT, Nat.reduceAdd, Nat.reduceMul, Nat.reduceSub, Nat.reduceBEq, Nat.reduceEqDiff, Int.reduceToNat, reduceIte, tsI2, hA, hk43]
    refine CallW.rt (rMayEnd_v (h3, v3, c3) _ hbd.2) (by kernel_rfl) rfl rfl ?_
    rintro _ O4 ⟨rfl, hg4⟩
    have hg34 := hg3.trans hg4
    have hk44 := (hg34.hp _ hn4).trans hk4
    simp (disch := first | omega | (simp only [ds] <;> omega) | fail) only [wk, undefM, Nat.reduceLT, Nat.reduceAdd, Nat.reduceMul, Nat.reduceSub, Nat.reduceBEq, Nat.reduceEqDiff, Int.reduceToNat, reduceIte, tsI2, hB, hk44, enM]
    refine CallW.rt (rBelow_v (h1, v1, c1) (h3, v3, c3) _ hbd.1 hbd.2) (by kernel_rfl) rfl rfl ?_
    rintro _ O5 ⟨rfl, hg5⟩
    have hg35 := hg34.trans hg5
    have hk45 := (hg35.hp _ hn4).trans hk4
    have hk15 := ((hgX.trans hg35).hp _ (Nat.lt_succ_self _)).trans (VH.push_new O (.cells (rgM (true, ver, L) tk)))
    have hn5 := Nat.lt_of_lt_of_le hn4 hg35.next
    have hge5 := hge0.trans hg35
    have hgY : ∀ x y, O5.Ge ((O5.push x).set O5.next y) := fun x y => ((VH.Ge.refl O5).push _).set (Nat.le_refl _) _
    cases h5
    · rw [hok]
      simp (disch := first | omega | (simp only [ds] <;> omega) | fail) only [wk, undefM, Nat.reduceLT, Nat.reduceAdd, Nat.reduceMul, Nat.reduceSub, Nat.reduceBEq, Nat.reduceEqDiff, Int.reduceToNat, reduceIte, tsI2, hC, hk15, rgM, hhi, enM]
      exact ⟨rfl, hge5.trans (hgY _ _)⟩
    cases h1
    · rw [hok]
      simp (disch := first | omega | (simp only [ds] <;> omega) | fail) only [wk, undefM, Nat.reduceLT, Nat.reduceAdd, Nat.reduceMul, Nat.reduceSub, Nat.reduceBEq, Nat.reduceEqDiff, Int.reduceToNat, reduceIte, tsI2, hC, hk15, hk45, rgM, hhi, enM]
      exact ⟨rfl, hge5.trans (hgY _ _)⟩
    have hah : aheadF (true, v5, c5) (true, v1, c1) = (decide (compareV v5 v1 < 0) || (compareV v5 v1 == 0 && !(c5 && c1))) := rfl
    simp (disch := first | omega | (simp only [ds] <;> omega) | fail) only [wk, undefM, Nat.reduceLT, Nat.reduceAdd, Nat.reduceMul, Nat.reduceSub, Nat.reduceBEq, Nat.reduceEqDiff, Int.reduceToNat, reduceIte, tsI2, hC, hk15, hk45, rgM, hhi, enM]
    have hk46 := ((hgY (.cells [.v (.bool false), .str [], .v (.bool false)]) (.cells [.v (.bool true), .str v5, .v (.bool c5)])).hp _ hn5).trans hk45
    have hk56 := VH.set_get (O5.push (.cells [.v (.bool false), .str [], .v (.bool false)])) O5.next (.cells [.v (.bool true), .str v5, .v (.bool c5)])
    have hn6 : O5.next < ((O5.push (.cells [.v (.bool false), .str [], .v (.bool false)])).set O5.next (.cells [.v (.bool true), .str v5, .v (.bool c5)])).next := Nat.lt_succ_self _
    have hgX6 := hgY (.cells [.v (.bool false), .str [], .v (.bool false)]) (.cells [.v (.bool true), .str v5, .v (.bool c5)])
    generalize ((O5.push (.cells [.v (.bool false), .str [], .v (.bool false)])).set O5.next (.cells [.v (.bool true), .str v5, .v (.bool c5)])) = O6 at *
    refine CallW.rt (refCompare_v v5 v1 _ hbq.2 hbd.1) (by kernel_rfl) rfl rfl ?_
    rintro _ O7 ⟨rfl, hg7⟩
    have hk47 := (hg7.hp _ (Nat.lt_trans hn5 hn6)).trans hk46
    have hk57 := (hg7.hp _ hn6).trans hk56
    have hgZ := hg35.trans (hgX6.trans hg7)
    rcases compareV_cmp.rng v5 v1 with e | e | e
    · rw [hah, e] at hok
      simp (disch := first | omega | (simp only [ds] <;> omega) | fail) only [wk, undefM, Nat.reduceLT, Nat.reduceAdd, Nat.reduceMul, Nat.reduceSub, Nat.reduceBEq, Nat.reduceEqDiff, Int.reduceToNat, reduceIte, tsI2, e, Int.reduceLT, Int.reduceBEq, Int.reduceEq, Int.reduceNeg]
      refine RoundQ.next ((i + 1) + 1) rfl rfl ?_ (by first | omega | (dsimp only; omega))
      refine ⟨hgX.trans hgZ, by omega, ?_⟩
      rw [if_neg (by omega), Nat.add_sub_cancel, List.getElem?_eq_getElem h2, hp, hok]
      rfl
    · rw [hah, e] at hok
      cases c5
      · simp (disch := first | omega | (simp only [ds] <;> omega) | fail) only [wk, undefM, Nat.reduceLT, Nat.reduceAdd, Nat.reduceMul, Nat.reduceSub, Nat.reduceBEq, Nat.reduceEqDiff, Int.reduceToNat, reduceIte, tsI2, hk47, hk57, e, Int.lt_irrefl, Int.reduceBEq]
        refine RoundQ.next ((i + 1) + 1) rfl rfl ?_ (by first | omega | (dsimp only; omega))
        refine ⟨hgX.trans hgZ, by omega, ?_⟩
        rw [if_neg (by omega), Nat.add_sub_cancel, List.getElem?_eq_getElem h2, hp, hok]
        rfl
      cases c1
      · simp (disch := first | omega | (simp only [ds] <;> omega) | fail) only [wk, undefM, Nat.reduceLT, Nat.reduceAdd, Nat.reduceMul, Nat.reduceSub, Nat.reduceBEq, Nat.reduceEqDiff, Int.reduceToNat, reduceIte, tsI2, hk47, hk57, e, Int.lt_irrefl, Int.reduceBEq]
        refine RoundQ.next ((i + 1) + 1) rfl rfl ?_ (by first | omega | (dsimp only; omega))
        refine ⟨hgX.trans hgZ, by omega, ?_⟩
        rw [if_neg (by omega), Nat.add_sub_cancel, List.getElem?_eq_getElem h2, hp, hok]
        rfl
      · rw [hok]
        simp (disch := first | omega | (simp only [ds] <;> omega) | fail) only [wk, undefM, Nat.reduceLT, Nat.reduceAdd, Nat.reduceMul, Nat.reduceSub, Nat.reduceBEq, Nat.reduceEqDiff, Int.reduceToNat, reduceIte, tsI2, hk47, hk57, e, Int.lt_irrefl, Int.reduceBEq]
        exact hge0.trans hgZ
    · rw [hah, e] at hok
      rw [hok]
      simp (disch := first | omega | (simp only [ds] <;> omega) | fail) only [wk, undefM, Nat.reduceLT, Nat.reduceAdd, Nat.reduceMul, Nat.reduceSub, Nat.reduceBEq, Nat.reduceEqDiff, Int.reduceToNat, reduceIte, tsI2, e, Int.reduceLT, Int.reduceBEq]
      exact hge0.trans hgZ
  · have hjl : j = L.length := by omega
    rw [List.drop_of_length_le (by omega), okRow] at hok
    rw [hok]
    simp (disch := first | omega | (simp only [ds] <;> omega) | fail) only [wk, undefM, Nat.reduceLT, Nat.reduceAdd, Nat.reduceMul, Nat.reduceSub, Nat.reduceBEq, Nat.reduceEqDiff, Int.reduceToNat, reduceIte, tsI2, hv0]
    exact (hge (.cells (rgM (true, ver, L) tk))).trans hg2
end Go.Proofs.YtbpnmkmlicbfoaaDoor
