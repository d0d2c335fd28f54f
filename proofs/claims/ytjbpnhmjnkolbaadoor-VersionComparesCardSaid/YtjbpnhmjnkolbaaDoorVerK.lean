/-
  version.Parts as a row for good; version.Compare, version.Canon, walked.
-/
import Derived.Test.YtjbpnhmjnkolbaaDoorVerJ
set_option linter.unusedVariables false
set_option linter.unusedSimpArgs false
namespace Go.Proofs.YtjbpnhmjnkolbaaDoor
open Go.RowKit
set_option maxRecDepth 10000
set_option linter.defProp false in
def tsK := And.intro T9 <| And.intro T3 <| And.intro T4 <| And.intro T23 <| And.intro T28 <| And.intro T58 T60

/-- version.Parts -/
theorem Parts_v (s : List UInt8) (O : VH) (hs : s.length ≤ 10000) : VF Tryd.prog 13 [.str s] O (Ret fun m O' => ∃ tk, m = .sl (partsV s).length ((partsV s).flatMap prM) tk ∧ O.Ge O') := by
  refine (Parts_w s O hs).frozen ?_
  rintro m O' ⟨k, c, rfl, h1, h2, h3⟩
  obtain ⟨sp, h4⟩ := h2.cells_eq
  refine ⟨k, 0, _, c, (partsV s).length * 3, _, rfl, h4, by rw [List.length_append, pr_len]; omega, (if c = (partsV s).length then .full else .unk), ?_, h3.kill h2.lo⟩
  rw [List.drop_zero, List.take_append_of_le_length (by rw [pr_len]; exact Nat.le_refl _), List.take_of_length_le (by rw [pr_len]; exact Nat.le_refl _)]
theorem partsV_len (s : List UInt8) : (partsV s).length ≤ s.length + 1 := by
  have h1 := cutF_len (s.map lo)
  rw [List.length_map] at h1
  unfold partsV
  cases hc : (cutF (s.map lo)).map mkV with
  | nil => simp [firstF, tailT]
  | cons p r =>
    have : (cutF (s.map lo)).length = r.length + 1 := by rw [← List.length_map (f := mkV), hc]; rfl
    have h2 := trimT_len r
    simp only [firstF, tailT, List.length_cons]
    omega
theorem wordF_len (s : List UInt8) (b : Bool) : (wordF s b).length ≤ s.length + 9 := by
  unfold wordF
  repeat' split
  all_goals simp
  all_goals omega
theorem trimT_mem (L : List Prt) : ∀ p ∈ trimT L, p ∈ L := by
  induction L with
  | nil => intro p h; exact h
  | cons q r ih =>
    intro p h
    rw [trimT] at h
    generalize (q.2.2 == [] && _) = b at h
    cases b
    · simp only [Bool.false_eq_true, if_false, List.mem_cons] at h
      rcases h with rfl | h
      · simp
      · exact List.mem_cons_of_mem _ (ih p h)
    · simp only [if_true] at h
      exact List.mem_cons_of_mem _ (ih p h)
theorem partsV_text (s : List UInt8) : ∀ p ∈ partsV s, p.2.2.length ≤ s.length + 9 := by
  have key : ∀ p ∈ (cutF (s.map lo)).map mkV, p.2.2.length ≤ s.length + 9 := by
    intro p hp
    obtain ⟨q, hq, rfl⟩ := List.mem_map.1 hp
    have h1 := cutF_text (s.map lo) q hq
    rw [List.length_map] at h1
    simp only [mkV]
    split
    · have := (List.dropWhile_sublist (l := q.1) (· == 48)).length_le; omega
    · have := wordF_len q.1 q.2.2; omega
  unfold partsV
  cases hc : (cutF (s.map lo)).map mkV with
  | nil => intro p hp; cases hp
  | cons q r =>
    rw [hc] at key
    intro p hp
    simp only [firstF, tailT, List.mem_cons] at hp
    rcases hp with rfl | hp
    · exact key q (by simp)
    · exact key p (List.mem_cons_of_mem _ (trimT_mem r p hp))
def nullP : Prt := (false, true, [])
def cmpFrom (l m : List Prt) : Nat → Nat → Int
  | 0, _ => 0
  | k + 1, i => if cmpV (l.getD i nullP) (m.getD i nullP) ≠ 0 then cmpV (l.getD i nullP) (m.getD i nullP) else cmpFrom l m k (i + 1)
def compareV (a b : List UInt8) : Int := cmpFrom (partsV a) (partsV b) (max (partsV a).length (partsV b).length) 0
theorem getD_text {L : List Prt} {n : Nat} (h : ∀ p ∈ L, p.2.2.length ≤ n) (i : Nat) : (L.getD i nullP).2.2.length ≤ n := by
  rw [List.getD_eq_getElem?_getD]
  cases hi : L[i]? with
  | none => simp [nullP]
  | some p => exact h p (List.mem_of_getElem? hi)
/-- version.Compare -/
theorem Compare_v (a b : List UInt8) (O : VH) (ha : a.length ≤ 10000) (hb : b.length ≤ 10000) : VF Tryd.prog 18 [.str a, .str b] O (Ret fun m O' => m = mi (compareV a b) ∧ O.Ge O') := by
  have la := partsV_len a
  have lb := partsV_len b
  have ta := fun i => getD_text (partsV_text a) i
  have tb := fun i => getD_text (partsV_text b) i
  unfold compareV
  refine VF.ofW (n := 32) (rs := [.tmp 4]) tabOk Tryd.func18 rfl rfl rfl (Nat.le_of_ble_eq_true rfl) ?_
  simp only [argEnv, Nat.zero_add, Nat.reduceAdd]
  simp (disch := first | omega | (simp only [ds] <;> omega) | fail) only [ws, undefM, Nat.reduceLT, Nat.reduceAdd, Nat.reduceMul, Nat.reduceSub, Nat.reduceBEq, Nat.reduceEqDiff, Int.reduceToNat, reduceIte, tsK]
  refine CallW.rt (Parts_v a _ ha) (by kernel_rfl) rfl rfl ?_
  rintro _ O1 ⟨tk1, rfl, hg1⟩
  simp (disch := first | omega | (simp only [ds] <;> omega) | fail) only [ws, undefM, Nat.reduceLT, Nat.reduceAdd, Nat.reduceMul, Nat.reduceSub, Nat.reduceBEq, Nat.reduceEqDiff, Int.reduceToNat, reduceIte, tsK]
  refine CallW.rt (Parts_v b _ hb) (by kernel_rfl) rfl rfl ?_
  rintro _ O2 ⟨tk2, rfl, hg2⟩
  have hge := hg1.trans hg2
  generalize partsV a = L at *
  generalize partsV b = M at *
  simp (disch := first | omega | (simp only [ds] <;> omega) | fail) only [ws, undefM, Nat.reduceLT, Nat.reduceAdd, Nat.reduceMul, Nat.reduceSub, Nat.reduceBEq, Nat.reduceEqDiff, Int.reduceToNat, reduceIte, tsK]
  generalize hN : max L.length M.length = N
  have hmx : max (L.length : Int) (M.length : Int) = (N : Int) := by omega
  rw [hmx]
  refine WC.loopK tabOk [18] [5, 6, 17] (fun i : Nat => [mi i]) (fun i O' => i ≤ N ∧ O.Ge O' ∧ cmpFrom L M N 0 = cmpFrom L M (N - i) i) (fun i => N - i) (0) rfl rfl ?_ ?_
  · exact ⟨Nat.zero_le _, hge, rfl⟩
  rintro i O3 ⟨hi, hge3, hc⟩
  rw [hc]
  by_cases h2 : i < N
  · have hs : cmpFrom L M (N - i) i = if cmpV (L.getD i nullP) (M.getD i nullP) ≠ 0 then cmpV (L.getD i nullP) (M.getD i nullP) else cmpFrom L M (N - (i + 1)) (i + 1) := by
      rw [show N - i = (N - (i + 1)) + 1 from by omega]; rfl
    rw [hs]
    simp (disch := first | omega | (simp only [ds] <;> omega) | fail) only [ws, undefM, Nat.reduceLT, Nat.reduceAdd, Nat.reduceMul, Nat.reduceSub, Nat.reduceBEq, Nat.reduceEqDiff, Int.reduceToNat, reduceIte, tsK]
    refine CallW.rt (at_v L tk1 i _ (by simp only [maxLen]; omega)) (by kernel_rfl) rfl rfl ?_
    rintro _ O4 ⟨rfl, hg4⟩
    simp (disch := first | omega | (simp only [ds] <;> omega) | fail) only [ws, undefM, Nat.reduceLT, Nat.reduceAdd, Nat.reduceMul, Nat.reduceSub, Nat.reduceBEq, Nat.reduceEqDiff, Int.reduceToNat, reduceIte, tsK]
    refine CallW.rt (at_v M tk2 i _ (by simp only [maxLen]; omega)) (by kernel_rfl) rfl rfl ?_
    rintro _ O5 ⟨rfl, hg5⟩
    simp (disch := first | omega | (simp only [ds] <;> omega) | fail) only [ws, undefM, Nat.reduceLT, Nat.reduceAdd, Nat.reduceMul, Nat.reduceSub, Nat.reduceBEq, Nat.reduceEqDiff, Int.reduceToNat, reduceIte, tsK]
    refine CallW.rt (compare_v (L.getD i nullP) (M.getD i nullP) _ (by have := ta i; simp only [maxLen]; omega) (by have := tb i; simp only [maxLen]; omega)) (by kernel_rfl) rfl rfl ?_
    rintro _ O6 ⟨rfl, hg6⟩
    have hge6 := ((hge3.trans hg4).trans hg5).trans hg6
    by_cases h0 : cmpV (L.getD i nullP) (M.getD i nullP) = 0
    · rw [if_neg (by simpa using h0)]
      simp (disch := first | omega | (simp only [ds] <;> omega) | fail) only [ws, undefM, Nat.reduceLT, Nat.reduceAdd, Nat.reduceMul, Nat.reduceSub, Nat.reduceBEq, Nat.reduceEqDiff, Int.reduceToNat, reduceIte, tsK]
      refine RoundQ.next (i + 1) rfl rfl ?_ (by first | omega | (dsimp only; omega))
      exact ⟨by omega, hge6, rfl⟩
    · rw [if_pos h0]
      simp (disch := first | omega | (simp only [ds] <;> omega) | fail) only [ws, undefM, Nat.reduceLT, Nat.reduceAdd, Nat.reduceMul, Nat.reduceSub, Nat.reduceBEq, Nat.reduceEqDiff, Int.reduceToNat, reduceIte, tsK]
      exact hge6
  · have : N - i = 0 := by omega
    rw [this]
    simp (disch := first | omega | (simp only [ds] <;> omega) | fail) only [ws, undefM, Nat.reduceLT, Nat.reduceAdd, Nat.reduceMul, Nat.reduceSub, Nat.reduceBEq, Nat.reduceEqDiff, Int.reduceToNat, reduceIte, tsK, cmpFrom]
    exact hge3
/-- A part's text. -/
def pieceC (i : Nat) (p : Prt) : List UInt8 := (if i = 0 then [] else if p.1 then [45] else [46]) ++ ((if p.2.1 && p.2.2 == [] then [48] else []) ++ p.2.2)
def canonN (L : List Prt) : Nat → List UInt8
  | 0 => []
  | j + 1 => canonN L j ++ pieceC j (L.getD j nullP)
def canonV (s : List UInt8) : List UInt8 := canonN (partsV s) (partsV s).length
theorem canonN_len (L : List Prt) (n : Nat) (h : ∀ p ∈ L, p.2.2.length ≤ n) (j : Nat) : (canonN L j).length ≤ j * (n + 2) := by
  induction j with
  | zero => simp [canonN]
  | succ j ih =>
    have h1 := getD_text h j
    have h2 : (pieceC j (L.getD j nullP)).length ≤ n + 2 := by
      unfold pieceC
      simp only [List.length_append]
      have e1 : (if j = 0 then [] else if (L.getD j nullP).1 then [45] else [46] : List UInt8).length ≤ 1 := by split <;> simp; split <;> simp
      have e2 : (if (L.getD j nullP).2.1 && (L.getD j nullP).2.2 == [] then [48] else [] : List UInt8).length ≤ 1 := by split <;> simp
      omega
    rw [canonN, List.length_append, Nat.succ_mul]
    omega
/-- version.Canon -/
theorem Canon_v (s : List UInt8) (O : VH) (hs : s.length ≤ 10000) : VF Tryd.prog 15 [.str s] O (Ret fun m O' => m = .str (canonV s) ∧ O.Ge O') := by
  have hl := partsV_len s
  have ht := partsV_text s
  unfold canonV
  have hB0 := Bld.fresh O (B := O.next) (Nat.le_refl _)
  have hge0 := ((VH.Ge.refl O).push (.cells [.v (.pointer none), .sl 0 [] .nil])).push (.shape O.next 60 2)
  refine VF.ofW (n := 35) (rs := [.tmp 2]) tabOk Tryd.func15 rfl rfl rfl (Nat.le_of_ble_eq_true rfl) ?_
  simp only [argEnv, Nat.zero_add, Nat.reduceAdd]
  simp (disch := first | omega | (simp only [ds] <;> omega) | fail) only [ws, undefM, Nat.reduceLT, Nat.reduceAdd, Nat.reduceMul, Nat.reduceSub, Nat.reduceBEq, Nat.reduceEqDiff, Int.reduceToNat, reduceIte, tsK]
  refine CallW.rt (Parts_v s _ hs) (by kernel_rfl) rfl rfl ?_
  rintro _ O1 ⟨tk, rfl, hg1⟩
  have hB1 := hB0.keepN (Upd.ofGe hg1)
  have hge1 := hge0.trans hg1
  clear hB0 hge0 hg1
  generalize partsV s = L at *
  have hcl := canonN_len L _ ht
  simp (disch := first | omega | (simp only [ds] <;> omega) | fail) only [ws, undefM, Nat.reduceLT, Nat.reduceAdd, Nat.reduceMul, Nat.reduceSub, Nat.reduceBEq, Nat.reduceEqDiff, Int.reduceToNat, reduceIte, tsK]
  refine WC.loopK tabOk [9] [3, 7, 8] (fun j : Nat => [mi j]) (fun j O' => j ≤ L.length ∧ O.Ge O' ∧ ∃ q, Bld O' O.next O.next q (canonN L j)) (fun j => L.length - j) (0) rfl rfl ?_ ?_
  · exact ⟨Nat.zero_le _, hge1, none, hB1⟩
  clear hB1 hge1
  rintro j O2 ⟨hj, hge2, q, hB2⟩
  have hcj := hcl j
  have hj2 : j * (s.length + 9 + 2) ≤ 10001 * 10011 := Nat.mul_le_mul (by omega) (by omega)
  by_cases h2 : j < L.length
  · have hat := pr_at L j h2
    have hg : L.getD j nullP = L[j] := by rw [List.getD_eq_getElem?_getD, List.getElem?_eq_getElem h2]; rfl
    have htx := ht L[j] (List.getElem_mem h2)
    have hnx : canonN L (j + 1) = canonN L j ++ pieceC j L[j] := by rw [canonN, hg]
    have hpl := pr_len L
    rcases hpc : L[j] with ⟨hy, nb, tx⟩
    rw [hpc] at hat hnx htx
    simp only [prM, mb_def] at hat
    dsimp only at htx
    have hu := (hB2.keepN (Upd.push (x := .cells [.v (.bool false), .v (.bool false), .str []]))).set (x := .cells [.v (.bool hy), .v (.bool nb), .str tx]) (VH.push_new _ _) (by have := hB2.hi; omega) (hB2.q_lt _ (Nat.le_refl _))
    have hge3 := (hge2.push (.cells [.v (.bool false), .v (.bool false), .str []])).set hge2.next (.cells [.v (.bool hy), .v (.bool nb), .str tx])
    have hq := hB2.q_lt
    have hqo := hB2.q_lo
    have stW : ∀ {Oc : VH} {qc : Option Nat} {t : List UInt8} (hS : Bld Oc O.next O.next qc t ∧ qc ≠ some O2.next ∧ Oc.hp O2.next = some (.cells [.v (.bool hy), .v (.bool nb), .str tx]) ∧ O.Ge Oc ∧ O2.next < Oc.next) {O' : VH} {q' : Option Nat} {t' : List UInt8}, Bld O' O.next O.next q' t' → BUpd Oc O.next qc O' q' →
        Bld O' O.next O.next q' t' ∧ q' ≠ some O2.next ∧ O'.hp O2.next = some (.cells [.v (.bool hy), .v (.bool nb), .str tx]) ∧ O.Ge O' ∧ O2.next < O'.next := by
      intro Oc qc t hS O' q' t' hB hu
      obtain ⟨s1, s2, s3, s4, s5⟩ := hS
      have hlt := hB2.hi
      exact ⟨hB, hu.new _ s5 s2, (hu.hp _ s5 (by omega) s2).trans s3, hu.ge s4 (Nat.le_refl _) (fun i hi => s1.q_lo i hi), Nat.lt_of_lt_of_le s5 hu.next⟩
    have hS2 : Bld ((O2.push (.cells [.v (.bool false), .v (.bool false), .str []])).set O2.next (.cells [.v (.bool hy), .v (.bool nb), .str tx])) O.next O.next q (canonN L j) ∧ q ≠ some O2.next ∧ ((O2.push (.cells [.v (.bool false), .v (.bool false), .str []])).set O2.next (.cells [.v (.bool hy), .v (.bool nb), .str tx])).hp O2.next = some (.cells [.v (.bool hy), .v (.bool nb), .str tx]) ∧ O.Ge ((O2.push (.cells [.v (.bool false), .v (.bool false), .str []])).set O2.next (.cells [.v (.bool hy), .v (.bool nb), .str tx])) ∧ O2.next < ((O2.push (.cells [.v (.bool false), .v (.bool false), .str []])).set O2.next (.cells [.v (.bool hy), .v (.bool nb), .str tx])).next :=
      ⟨hu, hq _ (Nat.le_refl _), VH.set_get _ _ _, hge3, Nat.lt_succ_self _⟩
    by_cases hj0 : j = 0
    · simp (disch := first | omega | (simp only [ds] <;> omega) | fail) only [ws, undefM, Nat.reduceLT, Nat.reduceAdd, Nat.reduceMul, Nat.reduceSub, Nat.reduceBEq, Nat.reduceEqDiff, Int.reduceToNat, reduceIte, tsK, hat]
      generalize (O2.push (.cells [.v (.bool false), .v (.bool false), .str []])).set O2.next (.cells [.v (.bool hy), .v (.bool nb), .str tx]) = Oc at *
      have hqlo := fun i (hi : _ = some i) => hS2.1.q_lo i hi
      have h5 := hS2.2.2.1
      cases nb
      · simp (disch := first | omega | (simp only [ds] <;> omega) | fail) only [ws, undefM, Nat.reduceLT, Nat.reduceAdd, Nat.reduceMul, Nat.reduceSub, Nat.reduceBEq, Nat.reduceEqDiff, Int.reduceToNat, reduceIte, tsK, h5]
        refine CallW.rt (WriteString_v tx hS2.1 (by first | omega | (simp only [List.length_append, List.length_cons, List.length_nil]; omega))) (by kernel_rfl) rfl rfl ?_
        rintro _ O9 ⟨rfl, q9, hB9, hu9⟩
        simp (disch := first | omega | (simp only [ds] <;> omega) | fail) only [ws, undefM, Nat.reduceLT, Nat.reduceAdd, Nat.reduceMul, Nat.reduceSub, Nat.reduceBEq, Nat.reduceEqDiff, Int.reduceToNat, reduceIte, tsK]
        refine RoundQ.next (j + 1) rfl rfl ⟨by omega, hu9.ge hS2.2.2.2.1 (Nat.le_refl _) hqlo, q9, ?_⟩ (by omega)
        have e : canonN L (j + 1) = (canonN L j) ++ tx := by rw [hnx]; simp [pieceC, hj0]
        rw [e]; exact hB9
      · cases he : tx == []
        · have he' : tx ≠ [] := by simpa using he
          simp (disch := first | omega | (simp only [ds] <;> omega) | fail) only [ws, undefM, Nat.reduceLT, Nat.reduceAdd, Nat.reduceMul, Nat.reduceSub, Nat.reduceBEq, Nat.reduceEqDiff, Int.reduceToNat, reduceIte, tsK, h5, he]
          refine CallW.rt (WriteString_v tx hS2.1 (by first | omega | (simp only [List.length_append, List.length_cons, List.length_nil]; omega))) (by kernel_rfl) rfl rfl ?_
          rintro _ O9 ⟨rfl, q9, hB9, hu9⟩
          simp (disch := first | omega | (simp only [ds] <;> omega) | fail) only [ws, undefM, Nat.reduceLT, Nat.reduceAdd, Nat.reduceMul, Nat.reduceSub, Nat.reduceBEq, Nat.reduceEqDiff, Int.reduceToNat, reduceIte, tsK]
          refine RoundQ.next (j + 1) rfl rfl ⟨by omega, hu9.ge hS2.2.2.2.1 (Nat.le_refl _) hqlo, q9, ?_⟩ (by omega)
          have e : canonN L (j + 1) = (canonN L j) ++ tx := by rw [hnx]; simp [pieceC, hj0, he']
          rw [e]; exact hB9
        · have he' : tx = [] := by simpa using he
          simp (disch := first | omega | (simp only [ds] <;> omega) | fail) only [ws, undefM, Nat.reduceLT, Nat.reduceAdd, Nat.reduceMul, Nat.reduceSub, Nat.reduceBEq, Nat.reduceEqDiff, Int.reduceToNat, reduceIte, tsK, h5, he]
          refine CallW.rt (WriteByte_v 48 hS2.1 (by first | omega | (simp only [List.length_append, List.length_cons, List.length_nil]; omega))) (by kernel_rfl) rfl rfl ?_
          rintro _ O8 ⟨rfl, q8, hB8, hu8⟩
          have hS8 := stW hS2 hB8 hu8
          have hqlo := fun i (hi : _ = some i) => hS8.1.q_lo i hi
          have h5 := hS8.2.2.1
          simp (disch := first | omega | (simp only [ds] <;> omega) | fail) only [ws, undefM, Nat.reduceLT, Nat.reduceAdd, Nat.reduceMul, Nat.reduceSub, Nat.reduceBEq, Nat.reduceEqDiff, Int.reduceToNat, reduceIte, tsK, h5]
          refine CallW.rt (WriteString_v tx hS8.1 (by first | omega | (simp only [List.length_append, List.length_cons, List.length_nil]; omega))) (by kernel_rfl) rfl rfl ?_
          rintro _ O9 ⟨rfl, q9, hB9, hu9⟩
          simp (disch := first | omega | (simp only [ds] <;> omega) | fail) only [ws, undefM, Nat.reduceLT, Nat.reduceAdd, Nat.reduceMul, Nat.reduceSub, Nat.reduceBEq, Nat.reduceEqDiff, Int.reduceToNat, reduceIte, tsK]
          refine RoundQ.next (j + 1) rfl rfl ⟨by omega, hu9.ge hS8.2.2.2.1 (Nat.le_refl _) hqlo, q9, ?_⟩ (by omega)
          have e : canonN L (j + 1) = ((canonN L j) ++ [48]) ++ tx := by rw [hnx]; simp [pieceC, hj0, he']
          rw [e]; exact hB9
    · simp (disch := first | omega | (simp only [ds] <;> omega) | fail) only [ws, undefM, Nat.reduceLT, Nat.reduceAdd, Nat.reduceMul, Nat.reduceSub, Nat.reduceBEq, Nat.reduceEqDiff, Int.reduceToNat, reduceIte, tsK, hat]
      generalize (O2.push (.cells [.v (.bool false), .v (.bool false), .str []])).set O2.next (.cells [.v (.bool hy), .v (.bool nb), .str tx]) = Oc at *
      have h5 := hS2.2.2.1
      cases hy
      · simp (disch := first | omega | (simp only [ds] <;> omega) | fail) only [ws, undefM, Nat.reduceLT, Nat.reduceAdd, Nat.reduceMul, Nat.reduceSub, Nat.reduceBEq, Nat.reduceEqDiff, Int.reduceToNat, reduceIte, tsK, h5]
        refine CallW.rt (WriteByte_v 46 hS2.1 (by omega)) (by kernel_rfl) rfl rfl ?_
        rintro _ O7 ⟨rfl, q7, hB7, hu7⟩
        have hS7 := stW hS2 hB7 hu7
        simp (disch := first | omega | (simp only [ds] <;> omega) | fail) only [ws, undefM, Nat.reduceLT, Nat.reduceAdd, Nat.reduceMul, Nat.reduceSub, Nat.reduceBEq, Nat.reduceEqDiff, Int.reduceToNat, reduceIte, tsK]
        have hqlo := fun i (hi : _ = some i) => hS7.1.q_lo i hi
        have h5 := hS7.2.2.1
        cases nb
        · simp (disch := first | omega | (simp only [ds] <;> omega) | fail) only [ws, undefM, Nat.reduceLT, Nat.reduceAdd, Nat.reduceMul, Nat.reduceSub, Nat.reduceBEq, Nat.reduceEqDiff, Int.reduceToNat, reduceIte, tsK, h5]
          refine CallW.rt (WriteString_v tx hS7.1 (by first | omega | (simp only [List.length_append, List.length_cons, List.length_nil]; omega))) (by kernel_rfl) rfl rfl ?_
          rintro _ O9 ⟨rfl, q9, hB9, hu9⟩
          simp (disch := first | omega | (simp only [ds] <;> omega) | fail) only [ws, undefM, Nat.reduceLT, Nat.reduceAdd, Nat.reduceMul, Nat.reduceSub, Nat.reduceBEq, Nat.reduceEqDiff, Int.reduceToNat, reduceIte, tsK]
          refine RoundQ.next (j + 1) rfl rfl ⟨by omega, hu9.ge hS7.2.2.2.1 (Nat.le_refl _) hqlo, q9, ?_⟩ (by omega)
          have e : canonN L (j + 1) = (canonN L j ++ [46]) ++ tx := by rw [hnx]; simp [pieceC, hj0]
          rw [e]; exact hB9
        · cases he : tx == []
          · have he' : tx ≠ [] := by simpa using he
            simp (disch := first | omega | (simp only [ds] <;> omega) | fail) only [ws, undefM, Nat.reduceLT, Nat.reduceAdd, Nat.reduceMul, Nat.reduceSub, Nat.reduceBEq, Nat.reduceEqDiff, Int.reduceToNat, reduceIte, tsK, h5, he]
            refine CallW.rt (WriteString_v tx hS7.1 (by first | omega | (simp only [List.length_append, List.length_cons, List.length_nil]; omega))) (by kernel_rfl) rfl rfl ?_
            rintro _ O9 ⟨rfl, q9, hB9, hu9⟩
            simp (disch := first | omega | (simp only [ds] <;> omega) | fail) only [ws, undefM, Nat.reduceLT, Nat.reduceAdd, Nat.reduceMul, Nat.reduceSub, Nat.reduceBEq, Nat.reduceEqDiff, Int.reduceToNat, reduceIte, tsK]
            refine RoundQ.next (j + 1) rfl rfl ⟨by omega, hu9.ge hS7.2.2.2.1 (Nat.le_refl _) hqlo, q9, ?_⟩ (by omega)
            have e : canonN L (j + 1) = (canonN L j ++ [46]) ++ tx := by rw [hnx]; simp [pieceC, hj0, he']
            rw [e]; exact hB9
          · have he' : tx = [] := by simpa using he
            simp (disch := first | omega | (simp only [ds] <;> omega) | fail) only [ws, undefM, Nat.reduceLT, Nat.reduceAdd, Nat.reduceMul, Nat.reduceSub, Nat.reduceBEq, Nat.reduceEqDiff, Int.reduceToNat, reduceIte, tsK, h5, he]
            refine CallW.rt (WriteByte_v 48 hS7.1 (by first | omega | (simp only [List.length_append, List.length_cons, List.length_nil]; omega))) (by kernel_rfl) rfl rfl ?_
            rintro _ O8 ⟨rfl, q8, hB8, hu8⟩
            have hS8 := stW hS7 hB8 hu8
            have hqlo := fun i (hi : _ = some i) => hS8.1.q_lo i hi
            have h5 := hS8.2.2.1
            simp (disch := first | omega | (simp only [ds] <;> omega) | fail) only [ws, undefM, Nat.reduceLT, Nat.reduceAdd, Nat.reduceMul, Nat.reduceSub, Nat.reduceBEq, Nat.reduceEqDiff, Int.reduceToNat, reduceIte, tsK, h5]
            refine CallW.rt (WriteString_v tx hS8.1 (by first | omega | (simp only [List.length_append, List.length_cons, List.length_nil]; omega))) (by kernel_rfl) rfl rfl ?_
            rintro _ O9 ⟨rfl, q9, hB9, hu9⟩
            simp (disch := first | omega | (simp only [ds] <;> omega) | fail) only [ws, undefM, Nat.reduceLT, Nat.reduceAdd, Nat.reduceMul, Nat.reduceSub, Nat.reduceBEq, Nat.reduceEqDiff, Int.reduceToNat, reduceIte, tsK]
            refine RoundQ.next (j + 1) rfl rfl ⟨by omega, hu9.ge hS8.2.2.2.1 (Nat.le_refl _) hqlo, q9, ?_⟩ (by omega)
            have e : canonN L (j + 1) = ((canonN L j ++ [46]) ++ [48]) ++ tx := by rw [hnx]; simp [pieceC, hj0, he']
            rw [e]; exact hB9
      · simp (disch := first | omega | (simp only [ds] <;> omega) | fail) only [ws, undefM, Nat.reduceLT, Nat.reduceAdd, Nat.reduceMul, Nat.reduceSub, Nat.reduceBEq, Nat.reduceEqDiff, Int.reduceToNat, reduceIte, tsK, h5]
        refine CallW.rt (WriteByte_v 45 hS2.1 (by omega)) (by kernel_rfl) rfl rfl ?_
        rintro _ O7 ⟨rfl, q7, hB7, hu7⟩
        have hS7 := stW hS2 hB7 hu7
        simp (disch := first | omega | (simp only [ds] <;> omega) | fail) only [ws, undefM, Nat.reduceLT, Nat.reduceAdd, Nat.reduceMul, Nat.reduceSub, Nat.reduceBEq, Nat.reduceEqDiff, Int.reduceToNat, reduceIte, tsK]
        have hqlo := fun i (hi : _ = some i) => hS7.1.q_lo i hi
        have h5 := hS7.2.2.1
        cases nb
        · simp (disch := first | omega | (simp only [ds] <;> omega) | fail) only [ws, undefM, Nat.reduceLT, Nat.reduceAdd, Nat.reduceMul, Nat.reduceSub, Nat.reduceBEq, Nat.reduceEqDiff, Int.reduceToNat, reduceIte, tsK, h5]
          refine CallW.rt (WriteString_v tx hS7.1 (by first | omega | (simp only [List.length_append, List.length_cons, List.length_nil]; omega))) (by kernel_rfl) rfl rfl ?_
          rintro _ O9 ⟨rfl, q9, hB9, hu9⟩
          simp (disch := first | omega | (simp only [ds] <;> omega) | fail) only [ws, undefM, Nat.reduceLT, Nat.reduceAdd, Nat.reduceMul, Nat.reduceSub, Nat.reduceBEq, Nat.reduceEqDiff, Int.reduceToNat, reduceIte, tsK]
          refine RoundQ.next (j + 1) rfl rfl ⟨by omega, hu9.ge hS7.2.2.2.1 (Nat.le_refl _) hqlo, q9, ?_⟩ (by omega)
          have e : canonN L (j + 1) = (canonN L j ++ [45]) ++ tx := by rw [hnx]; simp [pieceC, hj0]
          rw [e]; exact hB9
        · cases he : tx == []
          · have he' : tx ≠ [] := by simpa using he
            simp (disch := first | omega | (simp only [ds] <;> omega) | fail) only [ws, undefM, Nat.reduceLT, Nat.reduceAdd, Nat.reduceMul, Nat.reduceSub, Nat.reduceBEq, Nat.reduceEqDiff, Int.reduceToNat, reduceIte, tsK, h5, he]
            refine CallW.rt (WriteString_v tx hS7.1 (by first | omega | (simp only [List.length_append, List.length_cons, List.length_nil]; omega))) (by kernel_rfl) rfl rfl ?_
            rintro _ O9 ⟨rfl, q9, hB9, hu9⟩
            simp (disch := first | omega | (simp only [ds] <;> omega) | fail) only [ws, undefM, Nat.reduceLT, Nat.reduceAdd, Nat.reduceMul, Nat.reduceSub, Nat.reduceBEq, Nat.reduceEqDiff, Int.reduceToNat, reduceIte, tsK]
            refine RoundQ.next (j + 1) rfl rfl ⟨by omega, hu9.ge hS7.2.2.2.1 (Nat.le_refl _) hqlo, q9, ?_⟩ (by omega)
            have e : canonN L (j + 1) = (canonN L j ++ [45]) ++ tx := by rw [hnx]; simp [pieceC, hj0, he']
            rw [e]; exact hB9
          · have he' : tx = [] := by simpa using he
            simp (disch := first | omega | (simp only [ds] <;> omega) | fail) only [ws, undefM, Nat.reduceLT, Nat.reduceAdd, Nat.reduceMul, Nat.reduceSub, Nat.reduceBEq, Nat.reduceEqDiff, Int.reduceToNat, reduceIte, tsK, h5, he]
            refine CallW.rt (WriteByte_v 48 hS7.1 (by first | omega | (simp only [List.length_append, List.length_cons, List.length_nil]; omega))) (by kernel_rfl) rfl rfl ?_
            rintro _ O8 ⟨rfl, q8, hB8, hu8⟩
            have hS8 := stW hS7 hB8 hu8
            have hqlo := fun i (hi : _ = some i) => hS8.1.q_lo i hi
            have h5 := hS8.2.2.1
            simp (disch := first | omega | (simp only [ds] <;> omega) | fail) only [ws, undefM, Nat.reduceLT, Nat.reduceAdd, Nat.reduceMul, Nat.reduceSub, Nat.reduceBEq, Nat.reduceEqDiff, Int.reduceToNat, reduceIte, tsK, h5]
            refine CallW.rt (WriteString_v tx hS8.1 (by first | omega | (simp only [List.length_append, List.length_cons, List.length_nil]; omega))) (by kernel_rfl) rfl rfl ?_
            rintro _ O9 ⟨rfl, q9, hB9, hu9⟩
            simp (disch := first | omega | (simp only [ds] <;> omega) | fail) only [ws, undefM, Nat.reduceLT, Nat.reduceAdd, Nat.reduceMul, Nat.reduceSub, Nat.reduceBEq, Nat.reduceEqDiff, Int.reduceToNat, reduceIte, tsK]
            refine RoundQ.next (j + 1) rfl rfl ⟨by omega, hu9.ge hS8.2.2.2.1 (Nat.le_refl _) hqlo, q9, ?_⟩ (by omega)
            have e : canonN L (j + 1) = ((canonN L j ++ [45]) ++ [48]) ++ tx := by rw [hnx]; simp [pieceC, hj0, he']
            rw [e]; exact hB9
  · obtain rfl : j = L.length := by omega
    simp (disch := first | omega | (simp only [ds] <;> omega) | fail) only [ws, undefM, Nat.reduceLT, Nat.reduceAdd, Nat.reduceMul, Nat.reduceSub, Nat.reduceBEq, Nat.reduceEqDiff, Int.reduceToNat, reduceIte, tsK]
    refine CallW.rt (BString_v hB2 (by simp only [maxLen]; omega)) (by kernel_rfl) rfl rfl ?_
    rintro _ O3 ⟨rfl, hu3⟩
    simp (disch := first | omega | (simp only [ds] <;> omega) | fail) only [ws, undefM, Nat.reduceLT, Nat.reduceAdd, Nat.reduceMul, Nat.reduceSub, Nat.reduceBEq, Nat.reduceEqDiff, Int.reduceToNat, reduceIte, tsK]
    refine ⟨Nat.le_trans hge2.next hu3.next, fun i hi => (hu3.hp i (Nat.lt_of_lt_of_le hi hge2.next) (fun e => by have := hB2.q_lo i e; omega)).trans (hge2.hp i hi)⟩
end Go.Proofs.YtjbpnhmjnkolbaaDoor
