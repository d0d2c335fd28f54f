/-
  Texts VerW BndA BndB BndC BndD, one behind the other.
-/
import Derived.Test.YtbpnmkmlicbfoaaDoorMJ
/-
  ref.Canon, ref.rank, ref.Compare, walked; the laws VersionParts and VersionCompares.
-/
set_option linter.unusedVariables false
set_option linter.unusedSimpArgs false
namespace Go.Proofs.YtbpnmkmlicbfoaaDoor
open Go.RowKit
set_option maxRecDepth 10000

theorem prR_3 : ∀ x, (prR x).length = 3 := fun _ => rfl
theorem prR_at (L : List Prt) (i : Nat) (h : i < L.length) : ((L.flatMap prR).drop (i * 3)).take 3 = prR L[i] := by
  rw [fm_drop prR_3, List.drop_eq_getElem_cons h]; rfl
/-- ref.rank -/
def rankQ (q : Prt) : Int := rankR (!q.2.1, q.1, q.2.2)
theorem refRank_v (q : Prt) (O : VH) : VF Tryd.prog 39 [.agg (prR q)] O (Ret fun m O' => m = mi (rankQ q) ∧ O.Ge O') := rRank_v (!q.2.1, q.1, q.2.2) O
theorem idx_swap (t : List UInt8) (h1 : (t == []) = false) (h2 : (t == [103, 97]) = false) : wordsR.findIdx? (fun w => t == w) = wordsV.findIdx? (t == ·) := by
  simp only [wordsR, wordsV, List.findIdx?_cons, h1, h2]
theorem rankQ_eq (q : Prt) (h : q.2.1 = false → q.2.2 ≠ [103, 97]) : rankQ q = rankV q := by
  obtain ⟨hy, nb, t⟩ := q
  unfold rankQ rankR rankV
  dsimp only at h ⊢
  cases nb
  · cases he : t == []
    · have h2 : (t == [103, 97]) = false := by simpa using h rfl
      simp only [Bool.not_false, if_true, Bool.false_eq_true, if_false, idx_swap t he h2]
      all_goals (generalize wordsV.findIdx? _ = z; cases z <;> rfl)
    · have : t = [] := by simpa using he
      subst this
      rfl
  · cases he : t == [] <;> simp
theorem parts_noga (s : List UInt8) (i : Nat) : ((partsV s).getD i nullP).2.1 = false → ((partsV s).getD i nullP).2.2 ≠ [103, 97] := by
  rw [List.getD_eq_getElem?_getD]
  cases hi : (partsV s)[i]? with
  | none => intro h; cases h
  | some p =>
    intro h1 h2
    have hk := (partsV_ok s p (List.mem_of_getElem? hi)).2.2
    simp only [Option.getD_some] at h1 h2
    rw [if_neg (by rw [h1]; simp), h2] at hk
    exact absurd hk.2 (by decide)
theorem less_cmp : ∀ a b : List UInt8, cmpB a b = if a = b then 0 else if Op.bytesLess a b then -1 else 1
  | [], [] => rfl
  | [], b :: v => by rw [cmpB_nc]; simp [Op.bytesLess]
  | a :: u, [] => by rw [cmpB_cn]; simp [Op.bytesLess]
  | a :: u, b :: v => by
    rw [cmpB_cons]
    by_cases h1 : a.toNat < b.toNat
    · have : a ≠ b := fun e => by rw [e] at h1; omega
      have h2 : a < b := h1
      simp [h1, this, Op.bytesLess, h2]
    · by_cases h2 : b.toNat < a.toNat
      · have : a ≠ b := fun e => by rw [e] at h2; omega
        have h3 : ¬ a < b := h1
        simp [h1, h2, this, Op.bytesLess, h3]
      · have e : a = b := UInt8.toNat_inj.1 (by omega)
        subst e
        have h3 : ¬ a < a := h1
        rw [if_neg h1, if_neg h2, less_cmp u v]
        simp [Op.bytesLess, h3]
/-- ref.Compare -/
theorem refCompare_v (a b : List UInt8) (O : VH) (ha : a.length ≤ 10000) (hb : b.length ≤ 10000) : VF Tryd.prog 17 [.str a, .str b] O (Ret fun m O' => m = mi (compareV a b) ∧ O.Ge O') := by
  have la := partsV_len a
  have lb := partsV_len b
  have ta := fun i => getD_text (partsV_text a) i
  have tb := fun i => getD_text (partsV_text b) i
  have ga := fun i => rankQ_eq _ (parts_noga a i)
  have gb := fun i => rankQ_eq _ (parts_noga b i)
  unfold compareV
  refine VF.ofV (n := ⟨88, 0⟩) (rs := [.tmp 4]) tabOk Tryd.func17 rfl rfl rfl (Nat.le_of_ble_eq_true rfl) ?_
  simp only [argEnv, Nat.zero_add, Nat.reduceAdd]
  refine VC.seqV tabOk ?_
  simp (disch := first | omega | (simp only [ds] <;> omega) | fail) only [wk, undefM, Nat.reduceLT, Nat.reduceAdd, Nat.reduceMul, Nat.reduceSub, Nat.reduceBEq, Nat.reduceEqDiff, Int.reduceToNat, reduceIte, tsV]
  refine VC.seqV tabOk ?_
  simp (disch := first | omega | (simp only [ds] <;> omega) | fail) only [wk, undefM, Nat.reduceLT, Nat.reduceAdd, Nat.reduceMul, Nat.reduceSub, Nat.reduceBEq, Nat.reduceEqDiff, Int.reduceToNat, reduceIte, tsV]
  refine CallW.rt (refParts_v a _ ha) (by kernel_rfl) rfl rfl ?_
  rintro _ O1 ⟨tk1, rfl, hg1⟩
  simp (disch := first | omega | (simp only [ds] <;> omega) | fail) only [wk, undefM, Nat.reduceLT, Nat.reduceAdd, Nat.reduceMul, Nat.reduceSub, Nat.reduceBEq, Nat.reduceEqDiff, Int.reduceToNat, reduceIte, tsV]
  refine CallW.rt (refParts_v b _ hb) (by kernel_rfl) rfl rfl ?_
  rintro _ O2 ⟨tk2, rfl, hg2⟩
  simp (disch := first | omega | (simp only [ds] <;> omega) | fail) only [wk, undefM, Nat.reduceLT, Nat.reduceAdd, Nat.reduceMul, Nat.reduceSub, Nat.reduceBEq, Nat.reduceEqDiff, Int.reduceToNat, reduceIte, tsV]
  have hge := hg1.trans hg2
  generalize partsV a = L at *
  generalize partsV b = M at *
  generalize hN : max L.length M.length = N
  have hfl := fm_len prR_3 L
  have hfm := fm_len prR_3 M
  refine WC.sound tabOk ?_
  simp (disch := first | omega | (simp only [ds] <;> omega) | fail) only [wk, undefM, Nat.reduceLT, Nat.reduceAdd, Nat.reduceMul, Nat.reduceSub, Nat.reduceBEq, Nat.reduceEqDiff, Int.reduceToNat, reduceIte, tsV]
  refine VC.loopV [7] [5, 6] (fun i : Nat => [mi i]) (fun i O' => i ≤ N ∧ O.Ge O' ∧ cmpFrom L M N 0 = cmpFrom L M (N - i) i) (fun i => N - i) (0) rfl rfl ?_ ?_
  · exact ⟨Nat.zero_le _, hge, rfl⟩
  rintro i O3 ⟨hi, hge3, hc⟩
  rw [hc]
  by_cases h2 : i < N
  · have hs : cmpFrom L M (N - i) i = if cmpV (L.getD i nullP) (M.getD i nullP) ≠ 0 then cmpV (L.getD i nullP) (M.getD i nullP) else cmpFrom L M (N - (i + 1)) (i + 1) := by
      rw [show N - i = (N - (i + 1)) + 1 from by omega]; rfl
    rw [hs]
    have hor : i < L.length ∨ i < M.length := by omega
    refine WC.join tabOk [7, 5, 6] (fun _ : Unit => [mi i, .sl L.length (L.flatMap prR) tk1, .sl M.length (M.flatMap prR) tk2]) (fun _ O' => O' = O3) ?_ ?_
    · by_cases hl : i < L.length
      · simp (disch := first | omega | (simp only [ds] <;> omega) | fail) only [wk, undefM, Nat.reduceLT, Nat.reduceAdd, Nat.reduceMul, Nat.reduceSub, Nat.reduceBEq, Nat.reduceEqDiff, Int.reduceToNat, reduceIte, tsV]
        exact JoinQ.mk () rfl rfl
      · simp (disch := first | omega | (simp only [ds] <;> omega) | fail) only [wk, undefM, Nat.reduceLT, Nat.reduceAdd, Nat.reduceMul, Nat.reduceSub, Nat.reduceBEq, Nat.reduceEqDiff, Int.reduceToNat, reduceIte, tsV]
        exact JoinQ.mk () rfl rfl
    rintro ⟨⟩ Oz eO
    rw [eO]; clear eO Oz
    refine VC.seq0 (VC.block' ?_)
    refine VC.seqV tabOk ?_
    simp (disch := first | omega | (simp only [ds] <;> omega) | fail) only [wk, undefM, Nat.reduceLT, Nat.reduceAdd, Nat.reduceMul, Nat.reduceSub, Nat.reduceBEq, Nat.reduceEqDiff, Int.reduceToNat, reduceIte, tsV]
    have hge4 := (((hge3.push (.cells [.v (.bool false), .v (.bool false), .str []])).push (.cells [.v (.bool false), .v (.bool false), .str []])).set hge3.next (.cells [.v (.bool false), .v (.bool false), .str []])).set (Nat.le_succ_of_le hge3.next) (.cells [.v (.bool false), .v (.bool false), .str []])
    refine WC.join tabOk [5, 6, 7, 8, 9] (fun _ : Unit => [.sl L.length (L.flatMap prR) tk1, .sl M.length (M.flatMap prR) tk2, mi i, .ptr O3.next 0, .ptr (O3.next + 1) 0]) (fun _ O' => O.Ge O' ∧ O3.next + 2 ≤ O'.next ∧ O'.hp O3.next = some (.cells (prR (L.getD i nullP))) ∧ O'.hp (O3.next + 1) = some (.cells [.v (.bool false), .v (.bool false), .str []])) ?_ ?_
    · by_cases hl : i < L.length
      · have hat := prR_at L i hl
        have hg : L.getD i nullP = L[i] := by rw [List.getD_eq_getElem?_getD, List.getElem?_eq_getElem hl]; rfl
        rw [hg]
        generalize L[i] = q at *
        obtain ⟨q1, q2, q3⟩ := q
        simp only [prR] at hat
        simp (disch := first | omega | (simp only [ds] <;> omega) | fail) only [wk, undefM, Nat.reduceLT, Nat.reduceAdd, Nat.reduceMul, Nat.reduceSub, Nat.reduceBEq, Nat.reduceEqDiff, Int.reduceToNat, reduceIte, tsV, hat]
        exact JoinQ.mk () rfl ⟨hge4.set hge3.next _, Nat.le_refl _, VH.set_get _ _ _, by rw [VH.set_ne _ _ (by omega), VH.set_get]⟩
      · have hg : L.getD i nullP = nullP := by rw [List.getD_eq_getElem?_getD, List.getElem?_eq_none (by omega)]; rfl
        rw [hg]
        simp (disch := first | omega | (simp only [ds] <;> omega) | fail) only [wk, undefM, Nat.reduceLT, Nat.reduceAdd, Nat.reduceMul, Nat.reduceSub, Nat.reduceBEq, Nat.reduceEqDiff, Int.reduceToNat, reduceIte, tsV]
        exact JoinQ.mk () rfl ⟨hge4, Nat.le_refl _, by rw [VH.set_ne _ _ (by omega), VH.set_get]; rfl, VH.set_get _ _ _⟩
    rintro ⟨⟩ O5 ⟨hge5, hn5, hx5, hy5⟩
    refine WC.join tabOk [5, 6, 7, 8, 9] (fun _ : Unit => [.sl L.length (L.flatMap prR) tk1, .sl M.length (M.flatMap prR) tk2, mi i, .ptr O3.next 0, .ptr (O3.next + 1) 0]) (fun _ O' => O.Ge O' ∧ O3.next + 2 ≤ O'.next ∧ O'.hp O3.next = some (.cells (prR (L.getD i nullP))) ∧ O'.hp (O3.next + 1) = some (.cells (prR (M.getD i nullP)))) ?_ ?_
    · by_cases hm : i < M.length
      · have hat := prR_at M i hm
        have hg : M.getD i nullP = M[i] := by rw [List.getD_eq_getElem?_getD, List.getElem?_eq_getElem hm]; rfl
        rw [hg]
        generalize M[i] = q at *
        obtain ⟨q1, q2, q3⟩ := q
        simp only [prR] at hat
        simp (disch := first | omega | (simp only [ds] <;> omega) | fail) only [wk, undefM, Nat.reduceLT, Nat.reduceAdd, Nat.reduceMul, Nat.reduceSub, Nat.reduceBEq, Nat.reduceEqDiff, Int.reduceToNat, reduceIte, tsV, hat, hy5]
        exact JoinQ.mk () rfl ⟨hge5.set (Nat.le_succ_of_le hge3.next) _, hn5, by rw [VH.set_ne _ _ (by omega)]; exact hx5, VH.set_get _ _ _⟩
      · have hg : M.getD i nullP = nullP := by rw [List.getD_eq_getElem?_getD, List.getElem?_eq_none (by omega)]; rfl
        rw [hg]
        simp (disch := first | omega | (simp only [ds] <;> omega) | fail) only [wk, undefM, Nat.reduceLT, Nat.reduceAdd, Nat.reduceMul, Nat.reduceSub, Nat.reduceBEq, Nat.reduceEqDiff, Int.reduceToNat, reduceIte, tsV]
        exact JoinQ.mk () rfl ⟨hge5, hn5, hx5, hy5⟩
    clear hx5 hy5 hge4 hge5
    rintro ⟨⟩ O6 ⟨hge6, hn6, hx6, hy6⟩
    have tai := ta i
    have tbi := tb i
    have gai := ga i
    have gbi := gb i
    generalize L.getD i nullP = X at *
    generalize M.getD i nullP = Y at *
    have hcv : cmpV X Y = if sgn (rankV X) (rankV Y) ≠ 0 then sgn (rankV X) (rankV Y) else if rankV X = 7 then cmpB X.2.2 Y.2.2 else if rankV X > 7 then (if sgn X.2.2.length Y.2.2.length ≠ 0 then sgn X.2.2.length Y.2.2.length else cmpB X.2.2 Y.2.2) else 0 := rfl
    obtain ⟨hx, nx, tx⟩ := X
    obtain ⟨hy, ny, ty⟩ := Y
    simp only [prR] at hx6 hy6
    dsimp only at tai tbi hcv
    have crx := fun O => refRank_v (hx, nx, tx) O
    have cry := fun O => refRank_v (hy, ny, ty) O
    simp only [gai, gbi, prR, mb_def] at crx cry
    generalize rankV (hx, nx, tx) = r at *
    generalize rankV (hy, ny, ty) = r' at *
    generalize cmpV (hx, nx, tx) (hy, ny, ty) = cv at *
    have hl6 : O3.next < O6.next := by omega
    have hl6' : O3.next + 1 < O6.next := by omega
    refine VC.seqV tabOk ?_
    simp (disch := first | omega | (simp only [ds] <;> omega) | fail) only [wk, undefM, Nat.reduceLT, Nat.reduceAdd, Nat.reduceMul, Nat.reduceSub, Nat.reduceBEq, Nat.reduceEqDiff, Int.reduceToNat, reduceIte]
    refine VC.drawE [] (by kernel_rfl) ?_
    refine VAnyE.ld (m := .agg [.v (.bool !nx), .v (.bool hx), .str tx]) tabOk 0 rfl (by kernel_rfl) (by kernel_rfl) (by kernel_rfl) (by kernel_rfl) rfl rfl rfl ?_ rfl ?_
    · simp (disch := first | omega | (simp only [ds] <;> omega) | fail) only [wk, undefM, Nat.reduceLT, Nat.reduceAdd, Nat.reduceMul, Nat.reduceSub, Nat.reduceBEq, Nat.reduceEqDiff, Int.reduceToNat, reduceIte, tsV, hx6]
    simp only [putM_some]
    refine VAnyE.ld (m := .agg [.v (.bool !ny), .v (.bool hy), .str ty]) tabOk 2 rfl (by kernel_rfl) (by kernel_rfl) (by kernel_rfl) (by kernel_rfl) rfl rfl rfl ?_ rfl ?_
    · simp (disch := first | omega | (simp only [ds] <;> omega) | fail) only [wk, undefM, Nat.reduceLT, Nat.reduceAdd, Nat.reduceMul, Nat.reduceSub, Nat.reduceBEq, Nat.reduceEqDiff, Int.reduceToNat, reduceIte, tsV, hy6]
    simp only [putM_some]
    refine VAnyE.call (i := 1) (by kernel_rfl) rfl rfl rfl rfl (by kernel_rfl) rfl (crx _) ?_
    rintro _ O7 ⟨rfl, hg7⟩
    simp only [putM_some]
    refine ⟨hg7, ?_⟩
    refine VAnyE.call (i := 3) (by kernel_rfl) rfl rfl rfl rfl (by kernel_rfl) rfl (cry _) ?_
    rintro _ O8 ⟨rfl, hg8⟩
    simp only [putM_some]
    refine ⟨hg7.trans hg8, ?_⟩
    refine VAnyE.sil tabOk 4 rfl (by kernel_rfl) (by kernel_rfl) (by kernel_rfl) (by kernel_rfl) rfl rfl ?_
    simp (disch := first | omega | (simp only [ds] <;> omega) | fail) only [wk, undefM, Nat.reduceLT, Nat.reduceAdd, Nat.reduceMul, Nat.reduceSub, Nat.reduceBEq, Nat.reduceEqDiff, Int.reduceToNat, reduceIte, PreK_some, putM_some, tsV]
    refine VAnyE.plan tabOk [] (by kernel_rfl) (by kernel_rfl) (by kernel_rfl) rfl ?_
    simp (disch := first | omega | (simp only [ds] <;> omega) | fail) only [wk, undefM, Nat.reduceLT, Nat.reduceAdd, Nat.reduceMul, Nat.reduceSub, Nat.reduceBEq, Nat.reduceEqDiff, Int.reduceToNat, reduceIte]
    have hge8 := (hge6.trans hg7).trans hg8
    have hg68 := hg7.trans hg8
    have hx8 := (hg68.hp _ hl6).trans hx6
    have hy8 := (hg68.hp _ hl6').trans hy6
    have hn8 := hg68.next
    by_cases e1 : r = r'
    · have hz : sgn r r' = 0 := by rw [e1]; simp [sgn]
      rw [hz] at hcv
      simp only [ne_eq, not_true_eq_false, if_false] at hcv
      clear hx6 hy6 hg7 hge6
      have hge9 := fun O9 (hg9 : O8.Ge O9) => hge8.trans hg9
      by_cases e2 : r < 7
      · have hcv0 : cv = 0 := by rw [hcv, if_neg (by omega), if_neg (by omega)]
        simp (disch := first | omega | (simp only [ds] <;> omega) | fail) only [wk, undefM, Nat.reduceLT, Nat.reduceAdd, Nat.reduceMul, Nat.reduceSub, Nat.reduceBEq, Nat.reduceEqDiff, Int.reduceToNat, reduceIte, tsV]
        refine WC.sound tabOk ?_
        simp (disch := first | omega | (simp only [ds] <;> omega) | fail) only [wk, undefM, Nat.reduceLT, Nat.reduceAdd, Nat.reduceMul, Nat.reduceSub, Nat.reduceBEq, Nat.reduceEqDiff, Int.reduceToNat, reduceIte, tsV, hx8]
        refine CallW.rt (crx _) (by kernel_rfl) rfl rfl ?_
        rintro _ O9 ⟨rfl, hg9⟩
        simp (disch := first | omega | (simp only [ds] <;> omega) | fail) only [wk, undefM, Nat.reduceLT, Nat.reduceAdd, Nat.reduceMul, Nat.reduceSub, Nat.reduceBEq, Nat.reduceEqDiff, Int.reduceToNat, reduceIte, tsV]
        refine WC.sound tabOk ?_
        simp (disch := first | omega | (simp only [ds] <;> omega) | fail) only [wk, undefM, Nat.reduceLT, Nat.reduceAdd, Nat.reduceMul, Nat.reduceSub, Nat.reduceBEq, Nat.reduceEqDiff, Int.reduceToNat, reduceIte, tsV]
        exact RoundQ.next (i + 1) rfl rfl ⟨by omega, hge8.trans hg9, by rw [if_neg (by simp [hcv0])]⟩ (by omega)
      · cases e3 : tx == ty
        · have e3' : tx ≠ ty := by simpa using e3
          have hb1 : cmpB tx ty = if Op.bytesLess tx ty then -1 else 1 := by rw [less_cmp, if_neg e3']
          simp (disch := first | omega | (simp only [ds] <;> omega) | fail) only [wk, undefM, Nat.reduceLT, Nat.reduceAdd, Nat.reduceMul, Nat.reduceSub, Nat.reduceBEq, Nat.reduceEqDiff, Int.reduceToNat, reduceIte, tsV]
          refine WC.sound tabOk ?_
          simp (disch := first | omega | (simp only [ds] <;> omega) | fail) only [wk, undefM, Nat.reduceLT, Nat.reduceAdd, Nat.reduceMul, Nat.reduceSub, Nat.reduceBEq, Nat.reduceEqDiff, Int.reduceToNat, reduceIte, tsV, hx8]
          refine CallW.rt (crx _) (by kernel_rfl) rfl rfl ?_
          rintro _ O9 ⟨rfl, hg9⟩
          have hx9 := (hg9.hp _ (by omega)).trans hx8
          have hy9 := (hg9.hp _ (by omega)).trans hy8
          have hn9 := hg9.next
          simp (disch := first | omega | (simp only [ds] <;> omega) | fail) only [wk, undefM, Nat.reduceLT, Nat.reduceAdd, Nat.reduceMul, Nat.reduceSub, Nat.reduceBEq, Nat.reduceEqDiff, Int.reduceToNat, reduceIte, tsV, hx9, hy9, e3]
          refine CallW.rt (crx _) (by kernel_rfl) rfl rfl ?_
          rintro _ O10 ⟨rfl, hg10⟩
          have hx10 := (hg10.hp _ (by omega)).trans hx9
          have hy10 := (hg10.hp _ (by omega)).trans hy9
          have hge10 := (hge8.trans hg9).trans hg10
          by_cases e4 : r = 7
          · have hcv2 : cv = cmpB tx ty := by rw [hcv, if_pos e4]
            cases e6 : Op.bytesLess tx ty
            · rw [hb1, e6] at hcv2
              simp only [Bool.false_eq_true, if_false] at hcv2
              rw [hcv2]
              simp (disch := first | omega | (simp only [ds] <;> omega) | fail) only [wk, undefM, Nat.reduceLT, Nat.reduceAdd, Nat.reduceMul, Nat.reduceSub, Nat.reduceBEq, Nat.reduceEqDiff, Int.reduceToNat, reduceIte, tsV, hx10, hy10, e6]
              exact ⟨by simp, hge10⟩
            · rw [hb1, e6] at hcv2
              simp only [if_true] at hcv2
              rw [hcv2]
              simp (disch := first | omega | (simp only [ds] <;> omega) | fail) only [wk, undefM, Nat.reduceLT, Nat.reduceAdd, Nat.reduceMul, Nat.reduceSub, Nat.reduceBEq, Nat.reduceEqDiff, Int.reduceToNat, reduceIte, tsV, hx10, hy10, e6]
              exact ⟨by simp, hge10⟩
          · by_cases e5 : tx.length = ty.length
            · have hcv2 : cv = cmpB tx ty := by rw [hcv, if_neg e4, if_pos (by omega), if_neg]; rw [e5]; simp [sgn]
              cases e6 : Op.bytesLess tx ty
              · rw [hb1, e6] at hcv2
                simp only [Bool.false_eq_true, if_false] at hcv2
                rw [hcv2]
                simp (disch := first | omega | (simp only [ds] <;> omega) | fail) only [wk, undefM, Nat.reduceLT, Nat.reduceAdd, Nat.reduceMul, Nat.reduceSub, Nat.reduceBEq, Nat.reduceEqDiff, Int.reduceToNat, reduceIte, tsV, hx10, hy10, e6]
                exact ⟨by simp, hge10⟩
              · rw [hb1, e6] at hcv2
                simp only [if_true] at hcv2
                rw [hcv2]
                simp (disch := first | omega | (simp only [ds] <;> omega) | fail) only [wk, undefM, Nat.reduceLT, Nat.reduceAdd, Nat.reduceMul, Nat.reduceSub, Nat.reduceBEq, Nat.reduceEqDiff, Int.reduceToNat, reduceIte, tsV, hx10, hy10, e6]
                exact ⟨by simp, hge10⟩
            · rw [if_neg e4, if_pos (by omega)] at hcv
              by_cases e6 : tx.length < ty.length
              · have hs1 : sgn tx.length ty.length = -1 := by rw [sgn, if_pos (by omega)]
                rw [hs1, if_pos (by decide)] at hcv
                rw [hcv]
                simp (disch := first | omega | (simp only [ds] <;> omega) | fail) only [wk, undefM, Nat.reduceLT, Nat.reduceAdd, Nat.reduceMul, Nat.reduceSub, Nat.reduceBEq, Nat.reduceEqDiff, Int.reduceToNat, reduceIte, tsV, hx10, hy10]
                exact ⟨by simp, hge10⟩
              · have hs1 : sgn tx.length ty.length = 1 := by rw [sgn, if_neg (by omega), if_pos (by omega)]
                rw [hs1, if_pos (by decide)] at hcv
                rw [hcv]
                simp (disch := first | omega | (simp only [ds] <;> omega) | fail) only [wk, undefM, Nat.reduceLT, Nat.reduceAdd, Nat.reduceMul, Nat.reduceSub, Nat.reduceBEq, Nat.reduceEqDiff, Int.reduceToNat, reduceIte, tsV, hx10, hy10]
                exact ⟨by simp, hge10⟩
        · have e3' : tx = ty := by simpa using e3
          have hcv0 : cv = 0 := by
            rw [hcv, e3', less_cmp, if_pos rfl]
            simp [sgn]
          simp (disch := first | omega | (simp only [ds] <;> omega) | fail) only [wk, undefM, Nat.reduceLT, Nat.reduceAdd, Nat.reduceMul, Nat.reduceSub, Nat.reduceBEq, Nat.reduceEqDiff, Int.reduceToNat, reduceIte, tsV]
          refine WC.sound tabOk ?_
          simp (disch := first | omega | (simp only [ds] <;> omega) | fail) only [wk, undefM, Nat.reduceLT, Nat.reduceAdd, Nat.reduceMul, Nat.reduceSub, Nat.reduceBEq, Nat.reduceEqDiff, Int.reduceToNat, reduceIte, tsV, hx8]
          refine CallW.rt (crx _) (by kernel_rfl) rfl rfl ?_
          rintro _ O9 ⟨rfl, hg9⟩
          have hx9 := (hg9.hp _ (by omega)).trans hx8
          have hy9 := (hg9.hp _ (by omega)).trans hy8
          simp (disch := first | omega | (simp only [ds] <;> omega) | fail) only [wk, undefM, Nat.reduceLT, Nat.reduceAdd, Nat.reduceMul, Nat.reduceSub, Nat.reduceBEq, Nat.reduceEqDiff, Int.reduceToNat, reduceIte, tsV, hx9, hy9, e3]
          refine WC.sound tabOk ?_
          simp (disch := first | omega | (simp only [ds] <;> omega) | fail) only [wk, undefM, Nat.reduceLT, Nat.reduceAdd, Nat.reduceMul, Nat.reduceSub, Nat.reduceBEq, Nat.reduceEqDiff, Int.reduceToNat, reduceIte, tsV]
          exact RoundQ.next (i + 1) rfl rfl ⟨by omega, hge8.trans hg9, by rw [if_neg (by simp [hcv0])]⟩ (by omega)
    · have hb : (r != r') = true := by simpa using e1
      have hlt8 : O3.next < O8.next := by omega
      have hlt8' : O3.next + 1 < O8.next := by omega
      clear hx6 hy6 hg7 hg8 hg68
      have hx6 := hx8
      have hy6 := hy8
      by_cases e2 : r < r'
      · have hz : sgn r r' = -1 := by rw [sgn, if_pos e2]
        rw [hz, if_pos (by decide)] at hcv
        rw [hcv]
        simp (disch := first | omega | (simp only [ds] <;> omega) | fail) only [wk, undefM, Nat.reduceLT, Nat.reduceAdd, Nat.reduceMul, Nat.reduceSub, Nat.reduceBEq, Nat.reduceEqDiff, Int.reduceToNat, reduceIte, tsV, hb]
        refine VC.drawE [] (by kernel_rfl) ?_
        refine VAnyE.ld (m := .agg [.v (.bool !nx), .v (.bool hx), .str tx]) tabOk 0 rfl (by kernel_rfl) (by kernel_rfl) (by kernel_rfl) (by kernel_rfl) rfl rfl rfl ?_ rfl ?_
        · simp (disch := first | omega | (simp only [ds] <;> omega) | fail) only [wk, undefM, Nat.reduceLT, Nat.reduceAdd, Nat.reduceMul, Nat.reduceSub, Nat.reduceBEq, Nat.reduceEqDiff, Int.reduceToNat, reduceIte, tsV, hx6]
        simp only [putM_some]
        refine VAnyE.ld (m := .agg [.v (.bool !ny), .v (.bool hy), .str ty]) tabOk 2 rfl (by kernel_rfl) (by kernel_rfl) (by kernel_rfl) (by kernel_rfl) rfl rfl rfl ?_ rfl ?_
        · simp (disch := first | omega | (simp only [ds] <;> omega) | fail) only [wk, undefM, Nat.reduceLT, Nat.reduceAdd, Nat.reduceMul, Nat.reduceSub, Nat.reduceBEq, Nat.reduceEqDiff, Int.reduceToNat, reduceIte, tsV, hy6]
        simp only [putM_some]
        refine VAnyE.call (i := 1) (by kernel_rfl) rfl rfl rfl rfl (by kernel_rfl) rfl (crx _) ?_
        rintro _ O7 ⟨rfl, hg7⟩
        simp only [putM_some]
        refine ⟨hg7, ?_⟩
        refine VAnyE.call (i := 3) (by kernel_rfl) rfl rfl rfl rfl (by kernel_rfl) rfl (cry _) ?_
        rintro _ O8 ⟨rfl, hg8⟩
        simp only [putM_some]
        refine ⟨hg7.trans hg8, ?_⟩
        refine VAnyE.sil tabOk 4 rfl (by kernel_rfl) (by kernel_rfl) (by kernel_rfl) (by kernel_rfl) rfl rfl ?_
        simp (disch := first | omega | (simp only [ds] <;> omega) | fail) only [wk, undefM, Nat.reduceLT, Nat.reduceAdd, Nat.reduceMul, Nat.reduceSub, Nat.reduceBEq, Nat.reduceEqDiff, Int.reduceToNat, reduceIte, PreK_some, putM_some, tsV]
        refine VAnyE.plan tabOk [] (by kernel_rfl) (by kernel_rfl) (by kernel_rfl) rfl ?_
        simp (disch := first | omega | (simp only [ds] <;> omega) | fail) only [wk, undefM, Nat.reduceLT, Nat.reduceAdd, Nat.reduceMul, Nat.reduceSub, Nat.reduceBEq, Nat.reduceEqDiff, Int.reduceToNat, reduceIte]
        have hge9 := (hge8.trans hg7).trans hg8
        exact ⟨by simp, hge9⟩
      · have hz : sgn r r' = 1 := by rw [sgn, if_neg e2, if_pos (by omega)]
        rw [hz, if_pos (by decide)] at hcv
        rw [hcv]
        simp (disch := first | omega | (simp only [ds] <;> omega) | fail) only [wk, undefM, Nat.reduceLT, Nat.reduceAdd, Nat.reduceMul, Nat.reduceSub, Nat.reduceBEq, Nat.reduceEqDiff, Int.reduceToNat, reduceIte, tsV, hb]
        refine VC.drawE [] (by kernel_rfl) ?_
        refine VAnyE.ld (m := .agg [.v (.bool !nx), .v (.bool hx), .str tx]) tabOk 0 rfl (by kernel_rfl) (by kernel_rfl) (by kernel_rfl) (by kernel_rfl) rfl rfl rfl ?_ rfl ?_
        · simp (disch := first | omega | (simp only [ds] <;> omega) | fail) only [wk, undefM, Nat.reduceLT, Nat.reduceAdd, Nat.reduceMul, Nat.reduceSub, Nat.reduceBEq, Nat.reduceEqDiff, Int.reduceToNat, reduceIte, tsV, hx6]
        simp only [putM_some]
        refine VAnyE.ld (m := .agg [.v (.bool !ny), .v (.bool hy), .str ty]) tabOk 2 rfl (by kernel_rfl) (by kernel_rfl) (by kernel_rfl) (by kernel_rfl) rfl rfl rfl ?_ rfl ?_
        · simp (disch := first | omega | (simp only [ds] <;> omega) | fail) only [wk, undefM, Nat.reduceLT, Nat.reduceAdd, Nat.reduceMul, Nat.reduceSub, Nat.reduceBEq, Nat.reduceEqDiff, Int.reduceToNat, reduceIte, tsV, hy6]
        simp only [putM_some]
        refine VAnyE.call (i := 1) (by kernel_rfl) rfl rfl rfl rfl (by kernel_rfl) rfl (crx _) ?_
        rintro _ O7 ⟨rfl, hg7⟩
        simp only [putM_some]
        refine ⟨hg7, ?_⟩
        refine VAnyE.call (i := 3) (by kernel_rfl) rfl rfl rfl rfl (by kernel_rfl) rfl (cry _) ?_
        rintro _ O8 ⟨rfl, hg8⟩
        simp only [putM_some]
        refine ⟨hg7.trans hg8, ?_⟩
        refine VAnyE.sil tabOk 4 rfl (by kernel_rfl) (by kernel_rfl) (by kernel_rfl) (by kernel_rfl) rfl rfl ?_
        simp (disch := first | omega | (simp only [ds] <;> omega) | fail) only [wk, undefM, Nat.reduceLT, Nat.reduceAdd, Nat.reduceMul, Nat.reduceSub, Nat.reduceBEq, Nat.reduceEqDiff, Int.reduceToNat, reduceIte, PreK_some, putM_some, tsV]
        refine VAnyE.plan tabOk [] (by kernel_rfl) (by kernel_rfl) (by kernel_rfl) rfl ?_
        simp (disch := first | omega | (simp only [ds] <;> omega) | fail) only [wk, undefM, Nat.reduceLT, Nat.reduceAdd, Nat.reduceMul, Nat.reduceSub, Nat.reduceBEq, Nat.reduceEqDiff, Int.reduceToNat, reduceIte]
        have hge9 := (hge8.trans hg7).trans hg8
        exact ⟨by simp, hge9⟩
  · have e0 : N - i = 0 := by omega
    rw [e0]
    refine WC.sound tabOk ?_
    simp (disch := first | omega | (simp only [ds] <;> omega) | fail) only [wk, undefM, Nat.reduceLT, Nat.reduceAdd, Nat.reduceMul, Nat.reduceSub, Nat.reduceBEq, Nat.reduceEqDiff, Int.reduceToNat, reduceIte, tsV, cmpFrom]
    exact hge3
end Go.Proofs.YtbpnmkmlicbfoaaDoor

/-
  The package chars and its reference: bytes' classes, span, Trim; walked.
-/
set_option linter.unusedVariables false
set_option linter.unusedSimpArgs false
namespace Go.Proofs.YtbpnmkmlicbfoaaDoor
open Go.RowKit
set_option maxRecDepth 10000
set_option linter.defProp false in
def tsP := And.intro T9 <| And.intro T3 <| And.intro T4 <| And.intro T5 T79

def isB (c : UInt8) : Bool := decide (c.toNat = 32 ∨ c.toNat = 9 ∨ c.toNat = 10 ∨ c.toNat = 13)
def isFi (c : UInt8) : Bool := decide ((65 ≤ c.toNat ∧ c.toNat ≤ 90) ∨ (97 ≤ c.toNat ∧ c.toNat ≤ 122) ∨ c.toNat = 95)
def isN3 (c : UInt8) : Bool := decide (c.toNat = 46 ∨ c.toNat = 45 ∨ c.toNat = 58)
def isTx (c : UInt8) : Bool := decide (32 ≤ c.toNat ∨ c.toNat = 9 ∨ c.toNat = 10 ∨ c.toNat = 13)
def clsF (c : UInt8) : Nat := ((((0 + if isB c then 1 else 0) + if isD c then 10 else 0) + if isFi c then 12 else 0) + if isN3 c then 8 else 0) + if isTx c then 16 else 0
/-- chars.IsBlank -/
theorem IsBlank_v (c : UInt8) (O : VH) : VF Tryd.prog 52 [byM c] O (Ret fun m O' => m = mb (isB c) ∧ O' = O) := by
  have hc := c.toNat_lt
  refine VF.ofW (n := ⟨17, 0⟩) (rs := [.tmp 2]) tabOk Tryd.func52 rfl rfl rfl (Nat.le_of_ble_eq_true rfl) ?_
  simp only [argEnv, Nat.zero_add, Nat.reduceAdd]
  rcases (show c.toNat = 32 ∨ c.toNat = 9 ∨ c.toNat = 10 ∨ c.toNat = 13 ∨ (c.toNat ≠ 32 ∧ c.toNat ≠ 9 ∧ c.toNat ≠ 10 ∧ c.toNat ≠ 13) from by omega) with h | h | h | h | ⟨h1, h2, h3, h4⟩
  · simp (disch := first | omega | (simp only [ds] <;> omega) | fail) only [wk, undefM, Nat.reduceLT, Nat.reduceAdd, Nat.reduceMul, Nat.reduceSub, Nat.reduceBEq, Nat.reduceEqDiff, Int.reduceToNat, reduceIte, tsP, byM_def]
    simp [isB, h]
  · simp (disch := first | omega | (simp only [ds] <;> omega) | fail) only [wk, undefM, Nat.reduceLT, Nat.reduceAdd, Nat.reduceMul, Nat.reduceSub, Nat.reduceBEq, Nat.reduceEqDiff, Int.reduceToNat, reduceIte, tsP, byM_def]
    simp [isB, h]
  · simp (disch := first | omega | (simp only [ds] <;> omega) | fail) only [wk, undefM, Nat.reduceLT, Nat.reduceAdd, Nat.reduceMul, Nat.reduceSub, Nat.reduceBEq, Nat.reduceEqDiff, Int.reduceToNat, reduceIte, tsP, byM_def]
    simp [isB, h]
  · simp (disch := first | omega | (simp only [ds] <;> omega) | fail) only [wk, undefM, Nat.reduceLT, Nat.reduceAdd, Nat.reduceMul, Nat.reduceSub, Nat.reduceBEq, Nat.reduceEqDiff, Int.reduceToNat, reduceIte, tsP, byM_def]
    simp [isB, h]
  · simp (disch := first | omega | (simp only [ds] <;> omega) | fail) only [wk, undefM, Nat.reduceLT, Nat.reduceAdd, Nat.reduceMul, Nat.reduceSub, Nat.reduceBEq, Nat.reduceEqDiff, Int.reduceToNat, reduceIte, tsP, byM_def]
    simp [isB, h1, h2, h3, h4]
/-- pomaceref01.Class -/
theorem Class_v (c : UInt8) (O : VH) : VF Tryd.prog 68 [byM c] O (Ret fun m O' => m = mi (clsF c) ∧ O' = O) := by
  have hc := c.toNat_lt
  unfold clsF
  refine VF.ofV (n := ⟨77, 0⟩) (rs := [.tmp 2]) tabOk Tryd.func68 rfl rfl rfl (Nat.le_of_ble_eq_true rfl) ?_
  simp only [argEnv, Nat.zero_add, Nat.reduceAdd]
  refine VC.seqV tabOk ?_
  simp (disch := first | omega | (simp only [ds] <;> omega) | fail) only [wk, undefM, Nat.reduceLT, Nat.reduceAdd, Nat.reduceMul, Nat.reduceSub, Nat.reduceBEq, Nat.reduceEqDiff, Int.reduceToNat, reduceIte, tsP]
  refine VC.seqV tabOk ?_
  simp (disch := first | omega | (simp only [ds] <;> omega) | fail) only [wk, undefM, Nat.reduceLT, Nat.reduceAdd, Nat.reduceMul, Nat.reduceSub, Nat.reduceBEq, Nat.reduceEqDiff, Int.reduceToNat, reduceIte, tsP]
  refine WC.join tabOk [0, 3] (fun k : Nat => [byM c, mi k]) (fun k O' => O' = O ∧ k = 0 + if isB c then 1 else 0) ?_ ?_
  · rcases (show c.toNat = 32 ∨ c.toNat = 9 ∨ c.toNat = 10 ∨ c.toNat = 13 ∨ (c.toNat ≠ 32 ∧ c.toNat ≠ 9 ∧ c.toNat ≠ 10 ∧ c.toNat ≠ 13) from by omega) with h | h | h | h | h
    all_goals
      simp (disch := first | omega | (simp only [ds] <;> omega) | fail) only [wk, undefM, Nat.reduceLT, Nat.reduceAdd, Nat.reduceMul, Nat.reduceSub, Nat.reduceBEq, Nat.reduceEqDiff, Int.reduceToNat, reduceIte, tsP, byM_def]
      exact JoinQ.mk _ rfl ⟨rfl, by simp [isB, h]⟩
  rintro k1 Oz ⟨eO, hk1⟩
  rw [eO]; clear eO Oz
  have b1 : k1 ≤ 1 := by rw [hk1]; split <;> omega
  refine WC.join tabOk [0, 3] (fun k : Nat => [byM c, mi k]) (fun k O' => O' = O ∧ k = k1 + if isD c then 10 else 0) ?_ ?_
  · rcases (show c.toNat < 48 ∨ 57 < c.toNat ∨ (48 ≤ c.toNat ∧ c.toNat ≤ 57) from by omega) with h | h | h
    · have hd : isD c = false := by simp [isD]; omega
      simp (disch := first | omega | (simp only [ds] <;> omega) | fail) only [wk, undefM, Nat.reduceLT, Nat.reduceAdd, Nat.reduceMul, Nat.reduceSub, Nat.reduceBEq, Nat.reduceEqDiff, Int.reduceToNat, reduceIte, tsP, byM_def]
      exact JoinQ.mk _ rfl ⟨rfl, by simp [hd]⟩
    · have hd : isD c = false := by simp [isD]; omega
      simp (disch := first | omega | (simp only [ds] <;> omega) | fail) only [wk, undefM, Nat.reduceLT, Nat.reduceAdd, Nat.reduceMul, Nat.reduceSub, Nat.reduceBEq, Nat.reduceEqDiff, Int.reduceToNat, reduceIte, tsP, byM_def]
      exact JoinQ.mk _ rfl ⟨rfl, by simp [hd]⟩
    · have hd : isD c = true := by simp [isD]; omega
      simp (disch := first | omega | (simp only [ds] <;> omega) | fail) only [wk, undefM, Nat.reduceLT, Nat.reduceAdd, Nat.reduceMul, Nat.reduceSub, Nat.reduceBEq, Nat.reduceEqDiff, Int.reduceToNat, reduceIte, tsP, byM_def]
      exact JoinQ.mk (k1 + 10) rfl ⟨rfl, by simp [hd]⟩
  rintro k2 Oz ⟨eO, hk2⟩
  rw [eO]; clear eO Oz
  have b2 : k2 ≤ 11 := by rw [hk2]; split <;> omega
  refine WC.join tabOk [0, 3] (fun k : Nat => [byM c, mi k]) (fun k O' => O' = O ∧ k = k2 + if isFi c then 12 else 0) ?_ ?_
  · rcases (show c.toNat < 65 ∨ (65 ≤ c.toNat ∧ c.toNat ≤ 90) ∨ (90 < c.toNat ∧ c.toNat < 97 ∧ c.toNat ≠ 95) ∨ c.toNat = 95 ∨ (97 ≤ c.toNat ∧ c.toNat ≤ 122) ∨ 122 < c.toNat from by omega) with h | h | h | h | h | h
    · have hd : isFi c = false := by simp [isFi]; omega
      simp (disch := first | omega | (simp only [ds] <;> omega) | fail) only [wk, undefM, Nat.reduceLT, Nat.reduceAdd, Nat.reduceMul, Nat.reduceSub, Nat.reduceBEq, Nat.reduceEqDiff, Int.reduceToNat, reduceIte, tsP, byM_def]
      exact JoinQ.mk _ rfl ⟨rfl, by simp [hd]⟩
    · have hd : isFi c = true := by simp [isFi]; omega
      simp (disch := first | omega | (simp only [ds] <;> omega) | fail) only [wk, undefM, Nat.reduceLT, Nat.reduceAdd, Nat.reduceMul, Nat.reduceSub, Nat.reduceBEq, Nat.reduceEqDiff, Int.reduceToNat, reduceIte, tsP, byM_def]
      exact JoinQ.mk (k2 + 12) rfl ⟨rfl, by simp [hd]⟩
    · have hd : isFi c = false := by simp [isFi]; omega
      simp (disch := first | omega | (simp only [ds] <;> omega) | fail) only [wk, undefM, Nat.reduceLT, Nat.reduceAdd, Nat.reduceMul, Nat.reduceSub, Nat.reduceBEq, Nat.reduceEqDiff, Int.reduceToNat, reduceIte, tsP, byM_def]
      exact JoinQ.mk _ rfl ⟨rfl, by simp [hd]⟩
    · have hd : isFi c = true := by simp [isFi]; omega
      simp (disch := first | omega | (simp only [ds] <;> omega) | fail) only [wk, undefM, Nat.reduceLT, Nat.reduceAdd, Nat.reduceMul, Nat.reduceSub, Nat.reduceBEq, Nat.reduceEqDiff, Int.reduceToNat, reduceIte, tsP, byM_def]
      exact JoinQ.mk (k2 + 12) rfl ⟨rfl, by simp [hd]⟩
    · have hd : isFi c = true := by simp [isFi]; omega
      simp (disch := first | omega | (simp only [ds] <;> omega) | fail) only [wk, undefM, Nat.reduceLT, Nat.reduceAdd, Nat.reduceMul, Nat.reduceSub, Nat.reduceBEq, Nat.reduceEqDiff, Int.reduceToNat, reduceIte, tsP, byM_def]
      exact JoinQ.mk (k2 + 12) rfl ⟨rfl, by simp [hd]⟩
    · have hd : isFi c = false := by simp [isFi]; omega
      simp (disch := first | omega | (simp only [ds] <;> omega) | fail) only [wk, undefM, Nat.reduceLT, Nat.reduceAdd, Nat.reduceMul, Nat.reduceSub, Nat.reduceBEq, Nat.reduceEqDiff, Int.reduceToNat, reduceIte, tsP, byM_def]
      exact JoinQ.mk _ rfl ⟨rfl, by simp [hd]⟩
  rintro k3 Oz ⟨eO, hk3⟩
  rw [eO]; clear eO Oz
  have b3 : k3 ≤ 23 := by rw [hk3]; split <;> omega
  refine WC.join tabOk [0, 3] (fun k : Nat => [byM c, mi k]) (fun k O' => O' = O ∧ k = k3 + if isN3 c then 8 else 0) ?_ ?_
  · rcases (show c.toNat = 46 ∨ c.toNat = 45 ∨ c.toNat = 58 ∨ (c.toNat ≠ 46 ∧ c.toNat ≠ 45 ∧ c.toNat ≠ 58) from by omega) with h | h | h | h
    · simp (disch := first | omega | (simp only [ds] <;> omega) | fail) only [wk, undefM, Nat.reduceLT, Nat.reduceAdd, Nat.reduceMul, Nat.reduceSub, Nat.reduceBEq, Nat.reduceEqDiff, Int.reduceToNat, reduceIte, tsP, byM_def]
      exact JoinQ.mk (k3 + 8) rfl ⟨rfl, by simp [isN3, h]⟩
    · simp (disch := first | omega | (simp only [ds] <;> omega) | fail) only [wk, undefM, Nat.reduceLT, Nat.reduceAdd, Nat.reduceMul, Nat.reduceSub, Nat.reduceBEq, Nat.reduceEqDiff, Int.reduceToNat, reduceIte, tsP, byM_def]
      exact JoinQ.mk (k3 + 8) rfl ⟨rfl, by simp [isN3, h]⟩
    · simp (disch := first | omega | (simp only [ds] <;> omega) | fail) only [wk, undefM, Nat.reduceLT, Nat.reduceAdd, Nat.reduceMul, Nat.reduceSub, Nat.reduceBEq, Nat.reduceEqDiff, Int.reduceToNat, reduceIte, tsP, byM_def]
      exact JoinQ.mk (k3 + 8) rfl ⟨rfl, by simp [isN3, h]⟩
    · simp (disch := first | omega | (simp only [ds] <;> omega) | fail) only [wk, undefM, Nat.reduceLT, Nat.reduceAdd, Nat.reduceMul, Nat.reduceSub, Nat.reduceBEq, Nat.reduceEqDiff, Int.reduceToNat, reduceIte, tsP, byM_def]
      exact JoinQ.mk k3 rfl ⟨rfl, by simp [isN3, h]⟩
  rintro k4 Oz ⟨eO, hk4⟩
  rw [eO]; clear eO Oz
  have b4 : k4 ≤ 31 := by rw [hk4]; split <;> omega
  refine WC.join tabOk [0, 3] (fun k : Nat => [byM c, mi k]) (fun k O' => O' = O ∧ k = k4 + if isTx c then 16 else 0) ?_ ?_
  · rcases (show 32 ≤ c.toNat ∨ c.toNat = 9 ∨ c.toNat = 10 ∨ c.toNat = 13 ∨ (c.toNat < 32 ∧ c.toNat ≠ 9 ∧ c.toNat ≠ 10 ∧ c.toNat ≠ 13) from by omega) with h | h | h | h | h
    · have hd : isTx c = true := by simp [isTx]; omega
      simp (disch := first | omega | (simp only [ds] <;> omega) | fail) only [wk, undefM, Nat.reduceLT, Nat.reduceAdd, Nat.reduceMul, Nat.reduceSub, Nat.reduceBEq, Nat.reduceEqDiff, Int.reduceToNat, reduceIte, tsP, byM_def]
      exact JoinQ.mk (k4 + 16) rfl ⟨rfl, by simp [hd]⟩
    · have hd : isTx c = true := by simp [isTx]; omega
      simp (disch := first | omega | (simp only [ds] <;> omega) | fail) only [wk, undefM, Nat.reduceLT, Nat.reduceAdd, Nat.reduceMul, Nat.reduceSub, Nat.reduceBEq, Nat.reduceEqDiff, Int.reduceToNat, reduceIte, tsP, byM_def]
      exact JoinQ.mk (k4 + 16) rfl ⟨rfl, by simp [hd]⟩
    · have hd : isTx c = true := by simp [isTx]; omega
      simp (disch := first | omega | (simp only [ds] <;> omega) | fail) only [wk, undefM, Nat.reduceLT, Nat.reduceAdd, Nat.reduceMul, Nat.reduceSub, Nat.reduceBEq, Nat.reduceEqDiff, Int.reduceToNat, reduceIte, tsP, byM_def]
      exact JoinQ.mk (k4 + 16) rfl ⟨rfl, by simp [hd]⟩
    · have hd : isTx c = true := by simp [isTx]; omega
      simp (disch := first | omega | (simp only [ds] <;> omega) | fail) only [wk, undefM, Nat.reduceLT, Nat.reduceAdd, Nat.reduceMul, Nat.reduceSub, Nat.reduceBEq, Nat.reduceEqDiff, Int.reduceToNat, reduceIte, tsP, byM_def]
      exact JoinQ.mk (k4 + 16) rfl ⟨rfl, by simp [hd]⟩
    · have hd : isTx c = false := by simp [isTx]; omega
      simp (disch := first | omega | (simp only [ds] <;> omega) | fail) only [wk, undefM, Nat.reduceLT, Nat.reduceAdd, Nat.reduceMul, Nat.reduceSub, Nat.reduceBEq, Nat.reduceEqDiff, Int.reduceToNat, reduceIte, tsP, byM_def]
      exact JoinQ.mk k4 rfl ⟨rfl, by simp [hd]⟩
  rintro k5 Oz ⟨eO, hk5⟩
  rw [eO]; clear eO Oz
  refine WC.sound tabOk ?_
  simp (disch := first | omega | (simp only [ds] <;> omega) | fail) only [wk, undefM, Nat.reduceLT, Nat.reduceAdd, Nat.reduceMul, Nat.reduceSub, Nat.reduceBEq, Nat.reduceEqDiff, Int.reduceToNat, reduceIte, tsP]
  simp [hk5, hk4, hk3, hk2, hk1]
/-- pomaceref01.Is -/
def clsB (c : UInt8) (k : Nat) : Bool := clsF c / k % 2 == 1
theorem Is_v (c : UInt8) (k : Nat) (O : VH) (hk : 0 < k) (hk2 : k ≤ 100) : VF Tryd.prog 56 [byM c, mi k] O (Ret fun m O' => m = mb (clsB c k) ∧ O' = O) := by
  have h1 : clsF c ≤ 200 := by unfold clsF; (repeat' split) <;> omega
  unfold clsB
  refine VF.ofW (n := ⟨11, 0⟩) (rs := [.tmp 4]) tabOk Tryd.func56 rfl rfl rfl (Nat.le_of_ble_eq_true rfl) ?_
  simp only [argEnv, Nat.zero_add, Nat.reduceAdd]
  simp (disch := first | omega | (simp only [ds] <;> omega) | fail) only [wk, undefM, Nat.reduceLT, Nat.reduceAdd, Nat.reduceMul, Nat.reduceSub, Nat.reduceBEq, Nat.reduceEqDiff, Int.reduceToNat, reduceIte, tsP]
  refine CallW.rt (Class_v c _) (by kernel_rfl) rfl rfl ?_
  rintro _ O2 ⟨rfl, rfl⟩
  generalize clsF c = z at *
  have h2 : (z : Int).tdiv k = ((z / k : Nat) : Int) := by rw [Int.tdiv_eq_ediv_of_nonneg (Int.natCast_nonneg z)]; rfl
  have h3 : (((z / k : Nat) : Int)).tmod 2 = ((z / k % 2 : Nat) : Int) := by rw [Int.tmod_eq_emod_of_nonneg (Int.natCast_nonneg _)]; rfl
  have h4 : z / k ≤ z := Nat.div_le_self _ _
  generalize z / k = q at *
  have h5 : (((q % 2 : Nat) : Int) == 1) = (q % 2 == 1) := by
    rcases Nat.mod_two_eq_zero_or_one q with h | h <;> simp [h]
  simp (disch := first | omega | (simp only [ds] <;> omega) | fail) only [wk, undefM, Nat.reduceLT, Nat.reduceAdd, Nat.reduceMul, Nat.reduceSub, Nat.reduceBEq, Nat.reduceEqDiff, Int.reduceToNat, reduceIte, tsP, h2, h3, h5]
/-- chars.span -/
theorem span_v (f : FuncId) (p : UInt8 → Bool) (s : List UInt8) (O : VH) (hs : s.length ≤ maxLen) (hf : ∀ c O, VF Tryd.prog f [byM c] O (Ret fun m O' => m = mb (p c) ∧ O' = O)) (hb : callable Tryd.prog f = true) :
    VF Tryd.prog 51 [.str s, .func (.func f) [] []] O (Ret fun m O' => m = mi (s.takeWhile p).length ∧ O' = O) := by
  have hm : (s.length : Int) ≤ 9223372036854775807 := by simp [maxLen] at hs; omega
  refine VF.ofW (n := ⟨20, 0⟩) (rs := [.tmp 4]) tabOk Tryd.func51 rfl rfl rfl (Nat.le_of_ble_eq_true rfl) ?_
  simp only [argEnv, Nat.zero_add, Nat.reduceAdd]
  simp (disch := first | omega | (simp only [ds] <;> omega) | fail) only [wk, undefM, Nat.reduceLT, Nat.reduceAdd, Nat.reduceMul, Nat.reduceSub, Nat.reduceBEq, Nat.reduceEqDiff, Int.reduceToNat, reduceIte, tsP]
  refine WC.loopK tabOk [5] [0, 1] (fun j : Nat => [mi j]) (fun j O' => O' = O ∧ j ≤ s.length ∧ (s.takeWhile p).length = j + ((s.drop j).takeWhile p).length) (fun j => s.length - j) (0) rfl rfl ?_ ?_
  · exact ⟨rfl, Nat.zero_le _, by simp⟩
  rintro j O2 ⟨rfl, hj, hw⟩
  by_cases h2 : j < s.length
  · have hg := List.getElem?_eq_getElem h2
    have hd := List.drop_eq_getElem_cons h2
    generalize s[j] = c at *
    simp (disch := first | omega | (simp only [ds] <;> omega) | fail) only [wk, undefM, Nat.reduceLT, Nat.reduceAdd, Nat.reduceMul, Nat.reduceSub, Nat.reduceBEq, Nat.reduceEqDiff, Int.reduceToNat, reduceIte, tsP, hg]
    refine CallW.rt (hf c _) hb rfl rfl ?_
    rintro _ O3 ⟨rfl, rfl⟩
    cases hp : p c
    · simp (disch := first | omega | (simp only [ds] <;> omega) | fail) only [wk, undefM, Nat.reduceLT, Nat.reduceAdd, Nat.reduceMul, Nat.reduceSub, Nat.reduceBEq, Nat.reduceEqDiff, Int.reduceToNat, reduceIte, tsP, hg]
      rw [hw, hd, List.takeWhile_cons_of_neg (by simp [hp])]
      trivial
    · simp (disch := first | omega | (simp only [ds] <;> omega) | fail) only [wk, undefM, Nat.reduceLT, Nat.reduceAdd, Nat.reduceMul, Nat.reduceSub, Nat.reduceBEq, Nat.reduceEqDiff, Int.reduceToNat, reduceIte, tsP, hg]
      refine RoundQ.next (j + 1) rfl rfl ?_ (by first | omega | (dsimp only; omega))
      refine ⟨rfl, by omega, ?_⟩
      rw [hw, hd, List.takeWhile_cons_of_pos hp, List.length_cons]; omega
  · simp (disch := first | omega | (simp only [ds] <;> omega) | fail) only [wk, undefM, Nat.reduceLT, Nat.reduceAdd, Nat.reduceMul, Nat.reduceSub, Nat.reduceBEq, Nat.reduceEqDiff, Int.reduceToNat, reduceIte, tsP]
    rw [hw, List.drop_of_length_le (by omega)]
    trivial
theorem cls1 (c : UInt8) : clsB c 1 = isB c := by
  unfold clsB clsF
  generalize isB c = a, isD c = b, isFi c = d, isN3 c = e, isTx c = f
  revert a b d e f
  decide
/-! ### Trim -/
def rdw (p : UInt8 → Bool) (l : List UInt8) : List UInt8 := (l.reverse.dropWhile p).reverse
theorem rdw_nil (p : UInt8 → Bool) : rdw p [] = [] := rfl
theorem rdw_snoc (p : UInt8 → Bool) (l : List UInt8) (a : UInt8) : rdw p (l ++ [a]) = if p a then rdw p l else l ++ [a] := by
  unfold rdw
  rw [List.reverse_append, List.reverse_singleton, List.singleton_append, List.dropWhile_cons]
  cases p a <;> simp
def trimB (s : List UInt8) : List UInt8 := rdw isB (s.dropWhile isB)
theorem drop_tw (p : UInt8 → Bool) : ∀ s : List UInt8, s.drop (s.takeWhile p).length = s.dropWhile p
  | [] => rfl
  | c :: s => by
    cases h : p c
    · rw [List.takeWhile_cons_of_neg (by simp [h]), List.dropWhile_cons_of_neg (by simp [h])]; rfl
    · rw [List.takeWhile_cons_of_pos h, List.dropWhile_cons_of_pos h, List.length_cons, List.drop_succ_cons, drop_tw p s]
theorem tw_len (p : UInt8 → Bool) (s : List UInt8) : (s.takeWhile p).length ≤ s.length := (List.takeWhile_sublist p).length_le
theorem dw_len (p : UInt8 → Bool) (s : List UInt8) : (s.dropWhile p).length ≤ s.length := (List.dropWhile_sublist p).length_le
theorem rdw_len (p : UInt8 → Bool) (s : List UInt8) : (rdw p s).length ≤ s.length := by
  unfold rdw
  have := dw_len p s.reverse
  simp only [List.length_reverse] at this ⊢
  exact this
theorem trimB_len (s : List UInt8) : (trimB s).length ≤ s.length := Nat.le_trans (rdw_len _ _) (dw_len _ _)
/-- chars.Trim -/
theorem Trim_v (s : List UInt8) (O : VH) (hs : s.length ≤ maxLen) : VF Tryd.prog 25 [.str s] O (Ret fun m O' => m = .str (trimB s) ∧ O' = O) := by
  have hm : (s.length : Int) ≤ 9223372036854775807 := by simp [maxLen] at hs; omega
  have htl := tw_len isB s
  have hdw := drop_tw isB s
  have hdl := dw_len isB s
  unfold trimB
  refine VF.ofW (n := ⟨23, 0⟩) (rs := [.tmp 2]) tabOk Tryd.func25 rfl rfl rfl (Nat.le_of_ble_eq_true rfl) ?_
  simp only [argEnv, Nat.zero_add, Nat.reduceAdd]
  simp (disch := first | omega | (simp only [ds] <;> omega) | fail) only [wk, undefM, Nat.reduceLT, Nat.reduceAdd, Nat.reduceMul, Nat.reduceSub, Nat.reduceBEq, Nat.reduceEqDiff, Int.reduceToNat, reduceIte, tsP]
  refine CallW.rt (span_v 52 isB s _ hs IsBlank_v (by kernel_rfl)) (by kernel_rfl) rfl rfl ?_
  rintro _ O2 ⟨rfl, rfl⟩
  simp (disch := first | omega | (simp only [ds] <;> omega) | fail) only [wk, undefM, Nat.reduceLT, Nat.reduceAdd, Nat.reduceMul, Nat.reduceSub, Nat.reduceBEq, Nat.reduceEqDiff, Int.reduceToNat, reduceIte, tsP, hdw]
  generalize s.dropWhile isB = t at *
  refine WC.loopK tabOk [0] [] (fun k : Nat => [.str (t.take k)]) (fun k O' => O' = O2 ∧ k ≤ t.length ∧ rdw isB t = rdw isB (t.take k)) (fun k => k) t.length (by rw [List.take_length]; rfl) rfl ?_ ?_
  · exact ⟨rfl, Nat.le_refl _, by rw [List.take_length]⟩
  rintro k O3 ⟨rfl, hk, hr⟩
  rw [hr]
  have hlen : (t.take k).length = k := by rw [List.length_take]; omega
  rcases Nat.eq_zero_or_pos k with rfl | hk0
  · have hnil : (([] : List UInt8) == []) = true := rfl
    simp (disch := first | omega | (simp only [ds] <;> omega) | fail) only [wk, undefM, Nat.reduceLT, Nat.reduceAdd, Nat.reduceMul, Nat.reduceSub, Nat.reduceBEq, Nat.reduceEqDiff, Int.reduceToNat, reduceIte, tsP, hnil]
    trivial
  · obtain ⟨k, rfl⟩ : ∃ j, k = j + 1 := ⟨k - 1, by omega⟩
    have h2 : k < t.length := by omega
    have hsn := take_snoc t k h2
    have hat : (t.take (k + 1))[k]? = some t[k] := by rw [List.getElem?_take, if_pos (by omega), List.getElem?_eq_getElem h2]
    have hne : (t.take (k + 1) == []) = false := by rw [hsn]; cases t.take k <;> rfl
    have hr2 := rdw_snoc isB (t.take k) t[k]
    rw [← hsn] at hr2
    have htt : (t.take (k + 1)).take k = t.take k := by rw [List.take_take]; congr 1; omega
    generalize t[k] = c at *
    simp (disch := first | omega | (simp only [ds] <;> omega) | fail) only [wk, undefM, Nat.reduceLT, Nat.reduceAdd, Nat.reduceMul, Nat.reduceSub, Nat.reduceBEq, Nat.reduceEqDiff, Int.reduceToNat, reduceIte, tsP, hne, hlen, hat]
    refine CallW.rt (IsBlank_v c _) (by kernel_rfl) rfl rfl ?_
    rintro _ O4 ⟨rfl, rfl⟩
    cases hb : isB c
    · simp (disch := first | omega | (simp only [ds] <;> omega) | fail) only [wk, undefM, Nat.reduceLT, Nat.reduceAdd, Nat.reduceMul, Nat.reduceSub, Nat.reduceBEq, Nat.reduceEqDiff, Int.reduceToNat, reduceIte, tsP]
      rw [hr2, hb]
      trivial
    · rw [hb] at hr2
      simp (disch := first | omega | (simp only [ds] <;> omega) | fail) only [wk, undefM, Nat.reduceLT, Nat.reduceAdd, Nat.reduceMul, Nat.reduceSub, Nat.reduceBEq, Nat.reduceEqDiff, Int.reduceToNat, reduceIte, tsP, hlen, htt]
      exact RoundQ.next k rfl rfl ⟨rfl, by omega, by rw [hr2]; rfl⟩ (by first | omega | (dsimp only; omega))
/-- pomaceref01.Trim -/
theorem rTrim_v (s : List UInt8) (O : VH) (hs : s.length ≤ maxLen) : VF Tryd.prog 30 [.str s] O (Ret fun m O' => m = .str (trimB s) ∧ O' = O) := by
  have hm : (s.length : Int) ≤ 9223372036854775807 := by simp [maxLen] at hs; omega
  unfold trimB
  refine VF.ofV (n := ⟨34, 0⟩) (rs := [.tmp 2]) tabOk Tryd.func30 rfl rfl rfl (Nat.le_of_ble_eq_true rfl) ?_
  simp only [argEnv, Nat.zero_add, Nat.reduceAdd]
  refine VC.seqV tabOk ?_
  simp (disch := first | omega | (simp only [ds] <;> omega) | fail) only [wk, undefM, Nat.reduceLT, Nat.reduceAdd, Nat.reduceMul, Nat.reduceSub, Nat.reduceBEq, Nat.reduceEqDiff, Int.reduceToNat, reduceIte, tsP]
  refine VC.seqV tabOk ?_
  simp (disch := first | omega | (simp only [ds] <;> omega) | fail) only [wk, undefM, Nat.reduceLT, Nat.reduceAdd, Nat.reduceMul, Nat.reduceSub, Nat.reduceBEq, Nat.reduceEqDiff, Int.reduceToNat, reduceIte, tsP]
  refine WC.join tabOk [0, 3, 4] (fun i : Nat => [.str s, mi i, mi s.length]) (fun i O' => O' = O ∧ i ≤ s.length ∧ s.dropWhile isB = s.drop i) ?_ ?_
  · simp (disch := first | omega | (simp only [ds] <;> omega) | fail) only [wk, undefM, Nat.reduceLT, Nat.reduceAdd, Nat.reduceMul, Nat.reduceSub, Nat.reduceBEq, Nat.reduceEqDiff, Int.reduceToNat, reduceIte, tsP]
    refine VC.loopV [3] [0, 4] (fun i : Nat => [mi i]) (fun i O' => O' = O ∧ i ≤ s.length ∧ s.dropWhile isB = (s.drop i).dropWhile isB) (fun i => s.length - i) (0) rfl rfl ?_ ?_
    · exact ⟨rfl, Nat.zero_le _, rfl⟩
    rintro i O2 ⟨rfl, hi, hd⟩
    refine WC.sound tabOk ?_
    by_cases h2 : i < s.length
    · have hg := List.getElem?_eq_getElem h2
      have hdr := List.drop_eq_getElem_cons h2
      generalize s[i] = c at *
      simp (disch := first | omega | (simp only [ds] <;> omega) | fail) only [wk, undefM, Nat.reduceLT, Nat.reduceAdd, Nat.reduceMul, Nat.reduceSub, Nat.reduceBEq, Nat.reduceEqDiff, Int.reduceToNat, reduceIte, tsP, hg]
      refine CallW.rt (Is_v c 1 _ (by omega) (by omega)) (by kernel_rfl) rfl rfl ?_
      rintro _ O3 ⟨rfl, rfl⟩
      rw [cls1]
      cases hb : isB c
      · simp (disch := first | omega | (simp only [ds] <;> omega) | fail) only [wk, undefM, Nat.reduceLT, Nat.reduceAdd, Nat.reduceMul, Nat.reduceSub, Nat.reduceBEq, Nat.reduceEqDiff, Int.reduceToNat, reduceIte, tsP]
        exact JoinQ.mk i rfl ⟨rfl, hi, by rw [hd, hdr, List.dropWhile_cons_of_neg (by simp [hb])]⟩
      · simp (disch := first | omega | (simp only [ds] <;> omega) | fail) only [wk, undefM, Nat.reduceLT, Nat.reduceAdd, Nat.reduceMul, Nat.reduceSub, Nat.reduceBEq, Nat.reduceEqDiff, Int.reduceToNat, reduceIte, tsP]
        exact RoundQ.next (i + 1) rfl rfl ⟨rfl, by omega, by rw [hd, hdr, List.dropWhile_cons_of_pos hb]⟩ (by first | omega | (dsimp only; omega))
    · simp (disch := first | omega | (simp only [ds] <;> omega) | fail) only [wk, undefM, Nat.reduceLT, Nat.reduceAdd, Nat.reduceMul, Nat.reduceSub, Nat.reduceBEq, Nat.reduceEqDiff, Int.reduceToNat, reduceIte, tsP]
      exact JoinQ.mk i rfl ⟨rfl, hi, by rw [hd, List.drop_of_length_le (by omega)]; rfl⟩
  rintro i Oz ⟨eO, hi, hd⟩
  rw [eO, hd]; clear eO Oz
  refine WC.sound tabOk ?_
  simp (disch := first | omega | (simp only [ds] <;> omega) | fail) only [wk, undefM, Nat.reduceLT, Nat.reduceAdd, Nat.reduceMul, Nat.reduceSub, Nat.reduceBEq, Nat.reduceEqDiff, Int.reduceToNat, reduceIte, tsP]
  refine WC.loopK tabOk [4] [0, 3] (fun j : Nat => [mi j]) (fun j O' => O' = O ∧ i ≤ j ∧ j ≤ s.length ∧ rdw isB (s.drop i) = rdw isB ((s.drop i).take (j - i))) (fun j => j) s.length rfl rfl ?_ ?_
  · exact ⟨rfl, hi, Nat.le_refl _, by rw [List.take_of_length_le (by rw [List.length_drop]; omega)]⟩
  rintro j O3 ⟨rfl, hij, hj, hr⟩
  rw [hr]
  rcases Nat.lt_or_ge i j with h2 | h2
  · obtain ⟨j, rfl⟩ : ∃ k, j = k + 1 := ⟨j - 1, by omega⟩
    have h3 : j < s.length := by omega
    have hg := List.getElem?_eq_getElem h3
    have h4 : j - i < (s.drop i).length := by rw [List.length_drop]; omega
    have hsn := take_snoc (s.drop i) (j - i) h4
    have hge : (s.drop i)[j - i] = s[j] := by
      rw [List.getElem_drop]; congr 1; omega
    rw [hge] at hsn
    have hr2 := rdw_snoc isB ((s.drop i).take (j - i)) s[j]
    rw [← hsn, show j - i + 1 = j + 1 - i from by omega] at hr2
    generalize s[j] = c at *
    simp (disch := first | omega | (simp only [ds] <;> omega) | fail) only [wk, undefM, Nat.reduceLT, Nat.reduceAdd, Nat.reduceMul, Nat.reduceSub, Nat.reduceBEq, Nat.reduceEqDiff, Int.reduceToNat, reduceIte, tsP, hg]
    refine CallW.rt (Is_v c 1 _ (by omega) (by omega)) (by kernel_rfl) rfl rfl ?_
    rintro _ O4 ⟨rfl, rfl⟩
    rw [cls1]
    cases hb : isB c
    · rw [hb] at hr2
      simp (disch := first | omega | (simp only [ds] <;> omega) | fail) only [wk, undefM, Nat.reduceLT, Nat.reduceAdd, Nat.reduceMul, Nat.reduceSub, Nat.reduceBEq, Nat.reduceEqDiff, Int.reduceToNat, reduceIte, tsP]
      rw [hr2]
      trivial
    · rw [hb] at hr2
      simp (disch := first | omega | (simp only [ds] <;> omega) | fail) only [wk, undefM, Nat.reduceLT, Nat.reduceAdd, Nat.reduceMul, Nat.reduceSub, Nat.reduceBEq, Nat.reduceEqDiff, Int.reduceToNat, reduceIte, tsP]
      exact RoundQ.next j rfl rfl ⟨rfl, by omega, by omega, by rw [hr2]; rfl⟩ (by first | omega | (dsimp only; omega))
  · obtain rfl : i = j := by omega
    rw [Nat.sub_self, List.take_zero]
    simp (disch := first | omega | (simp only [ds] <;> omega) | fail) only [wk, undefM, Nat.reduceLT, Nat.reduceAdd, Nat.reduceMul, Nat.reduceSub, Nat.reduceBEq, Nat.reduceEqDiff, Int.reduceToNat, reduceIte, tsP]
    simp [rdw]
/-- pomaceref05.skip -/
theorem skip_v (s : List UInt8) (O : VH) (hs : s.length ≤ maxLen) : VF Tryd.prog 34 [.str s] O (Ret fun m O' => m = .str (s.dropWhile isB) ∧ O' = O) := by
  have hm : (s.length : Int) ≤ 9223372036854775807 := by simp [maxLen] at hs; omega
  refine VF.ofW (n := ⟨14, 0⟩) (rs := [.tmp 2]) tabOk Tryd.func34 rfl rfl rfl (Nat.le_of_ble_eq_true rfl) ?_
  simp only [argEnv, Nat.zero_add, Nat.reduceAdd]
  simp (disch := first | omega | (simp only [ds] <;> omega) | fail) only [wk, undefM, Nat.reduceLT, Nat.reduceAdd, Nat.reduceMul, Nat.reduceSub, Nat.reduceBEq, Nat.reduceEqDiff, Int.reduceToNat, reduceIte, tsP]
  refine WC.loopK tabOk [0] [] (fun t : List UInt8 => [.str t]) (fun t O' => O' = O ∧ t.length ≤ s.length ∧ s.dropWhile isB = t.dropWhile isB) (fun t => t.length) (s) rfl rfl ?_ ?_
  · exact ⟨rfl, Nat.le_refl _, rfl⟩
  rintro t O2 ⟨rfl, htl, hd⟩
  rw [hd]
  cases t with
  | nil =>
    simp (disch := first | omega | (simp only [ds] <;> omega) | fail) only [wk, undefM, Nat.reduceLT, Nat.reduceAdd, Nat.reduceMul, Nat.reduceSub, Nat.reduceBEq, Nat.reduceEqDiff, Int.reduceToNat, reduceIte, tsP]
    trivial
  | cons c t =>
    simp only [List.length_cons] at htl
    simp (disch := first | omega | (simp only [ds] <;> omega) | fail) only [wk, undefM, Nat.reduceLT, Nat.reduceAdd, Nat.reduceMul, Nat.reduceSub, Nat.reduceBEq, Nat.reduceEqDiff, Int.reduceToNat, reduceIte, tsP]
    refine CallW.rt (Is_v c 1 _ (by omega) (by omega)) (by kernel_rfl) rfl rfl ?_
    rintro _ O3 ⟨rfl, rfl⟩
    rw [cls1]
    cases hb : isB c
    · simp (disch := first | omega | (simp only [ds] <;> omega) | fail) only [wk, undefM, Nat.reduceLT, Nat.reduceAdd, Nat.reduceMul, Nat.reduceSub, Nat.reduceBEq, Nat.reduceEqDiff, Int.reduceToNat, reduceIte, tsP]
      rw [List.dropWhile_cons_of_neg (by simp [hb])]
    · simp (disch := first | omega | (simp only [ds] <;> omega) | fail) only [wk, undefM, Nat.reduceLT, Nat.reduceAdd, Nat.reduceMul, Nat.reduceSub, Nat.reduceBEq, Nat.reduceEqDiff, Int.reduceToNat, reduceIte, tsP]
      exact RoundQ.next t rfl rfl ⟨rfl, by omega, by rw [List.dropWhile_cons_of_pos hb]⟩ (by simp)
end Go.Proofs.YtbpnmkmlicbfoaaDoor

/-
  strings.IndexRune of a text of small bytes, strings.IndexAny of small bytes, walked.
-/
set_option linter.unusedVariables false
set_option linter.unusedSimpArgs false
namespace Go.Proofs.YtbpnmkmlicbfoaaDoor
open Go.RowKit
set_option maxRecDepth 10000
set_option linter.defProp false in
def tsB2 := And.intro T9 <| And.intro T3 <| And.intro T4 <| And.intro T5 T21

/-! ### Letters, plain -/
theorem get_list (l : List UInt8) (i : Nat) : (⟨⟨l⟩⟩ : ByteArray).get! i = l.getD i 0 := by
  show (⟨l⟩ : Array UInt8)[i]! = _
  rw [List.getD_eq_getElem?_getD]
  rcases Nat.lt_or_ge i l.length with h | h
  · rw [getElem!_pos (⟨l⟩ : Array UInt8) i h, List.getElem?_eq_getElem h]; rfl
  · rw [getElem!_neg (⟨l⟩ : Array UInt8) i (by show ¬ i < l.length; omega), List.getElem?_eq_none h]; rfl
/-- What stands at a place of a text: a small byte as it is; else a letter of more than one byte, or a fault, which small bytes do not bear. -/
theorem decode_lo (l : List UInt8) (p : Nat) (h : (l.getD p 0).toNat < 128) : Utf8.decode ⟨⟨l⟩⟩ p = ((l.getD p 0).toNat, 1) := by
  unfold Utf8.decode
  simp only [get_list, Nat.add_zero, h, if_true]
theorem decode_hi (l : List UInt8) (p : Nat) (hp : p < l.length) (h : 128 ≤ (l.getD p 0).toNat) : 128 ≤ (Utf8.decode ⟨⟨l⟩⟩ p).1 ∧ Utf8.valid (Utf8.decode ⟨⟨l⟩⟩ p).1 = true ∧ 1 ≤ (Utf8.decode ⟨⟨l⟩⟩ p).2 ∧ p + (Utf8.decode ⟨⟨l⟩⟩ p).2 ≤ l.length ∧ ∀ j, p ≤ j → j < p + (Utf8.decode ⟨⟨l⟩⟩ p).2 → 128 ≤ (l.getD j 0).toNat := by
  have hsz : (⟨⟨l⟩⟩ : ByteArray).size = l.length := rfl
  have one : 128 ≤ Utf8.runeError ∧ Utf8.valid Utf8.runeError = true ∧ 1 ≤ 1 ∧ p + 1 ≤ l.length ∧ ∀ j, p ≤ j → j < p + 1 → 128 ≤ (l.getD j 0).toNat :=
    ⟨by decide, by decide, Nat.le_refl _, hp, fun j h1 h2 => by rw [show j = p from by omega]; exact h⟩
  have cont : ∀ k, (decide (p + k < l.length) && (l.getD (p + k) 0).toNat / 64 == 2) = true → p + k < l.length ∧ 128 ≤ (l.getD (p + k) 0).toNat := fun k hk => by
    simp only [Bool.and_eq_true, decide_eq_true_eq, beq_iff_eq] at hk
    exact ⟨hk.1, by omega⟩
  unfold Utf8.decode
  simp only [get_list, hsz, Nat.add_zero]
  rw [if_neg (by omega)]
  split
  · rename_i hc
    rw [Bool.and_eq_true] at hc
    obtain ⟨c1, c2⟩ := cont 1 hc.2
    split
    · rename_i hge
      refine ⟨hge, ?_, by omega, by omega, fun j h1 h2 => ?_⟩
      · simp [Utf8.valid]; omega
      · rcases (show j = p ∨ j = p + 1 from by omega) with rfl | rfl
        · exact h
        · exact c2
    · exact one
  · split
    · rename_i hc
      simp only [Bool.and_eq_true] at hc
      obtain ⟨c1, c2⟩ := cont 1 (by simpa using hc.1.2)
      obtain ⟨d1, d2⟩ := cont 2 (by simpa using hc.2)
      split
      · rename_i hge
        rw [Bool.and_eq_true, decide_eq_true_eq] at hge
        refine ⟨by omega, hge.2, by omega, by omega, fun j h1 h2 => ?_⟩
        rcases (show j = p ∨ j = p + 1 ∨ j = p + 2 from by omega) with rfl | rfl | rfl
        · exact h
        · exact c2
        · exact d2
      · exact one
    · split
      · rename_i hc
        simp only [Bool.and_eq_true] at hc
        obtain ⟨c1, c2⟩ := cont 1 (by simpa using hc.1.1.2)
        obtain ⟨d1, d2⟩ := cont 2 (by simpa using hc.1.2)
        obtain ⟨e1, e2⟩ := cont 3 (by simpa using hc.2)
        split
        · rename_i hge
          rw [Bool.and_eq_true, decide_eq_true_eq] at hge
          refine ⟨by omega, hge.2, by omega, by omega, fun j h1 h2 => ?_⟩
          rcases (show j = p ∨ j = p + 1 ∨ j = p + 2 ∨ j = p + 3 from by omega) with rfl | rfl | rfl | rfl
          · exact h
          · exact c2
          · exact d2
          · exact e2
        · exact one
      · exact one
theorem encode_hi (r : Nat) (h : 128 ≤ r) (hv : Utf8.valid r = true) : ∃ k x, (Utf8.encode r).data.toList = k ++ [x] ∧ 1 ≤ k.length ∧ k.length ≤ 3 ∧ 128 ≤ x.toNat := by
  have hr : r < 1114112 := by simp [Utf8.valid] at hv; omega
  unfold Utf8.encode
  simp only [hv, if_true, Int.toNat_natCast]
  rw [if_neg (by omega)]
  have hx : 128 ≤ (UInt8.ofNat (128 + r % 64)).toNat := by rw [UInt8.toNat_ofNat']; omega
  split
  · exact ⟨[_], _, rfl, by simp, by simp, hx⟩
  · split
    · exact ⟨[_, _], _, rfl, by simp, by simp, hx⟩
    · exact ⟨[_, _, _], _, rfl, by simp, by simp, hx⟩
/-! ### Walked -/
theorem IndexByteS_v (s : List UInt8) (c : UInt8) (O : VH) : VF Tryd.prog 95 [.str s, byM c] O (Ret fun m O' => m = mi (Lib.indexByte s c) ∧ O' = O) := by
  refine VF.ofW (n := ⟨8, 0⟩) (rs := [.tmp 4]) tabOk Tryd.func95 rfl rfl rfl (Nat.le_of_ble_eq_true rfl) ?_
  simp only [argEnv, Nat.zero_add, Nat.reduceAdd]
  simp (disch := first | omega | (simp only [ds] <;> omega) | fail) only [wk, undefM, Nat.reduceLT, Nat.reduceAdd, Nat.reduceMul, Nat.reduceSub, Nat.reduceBEq, Nat.reduceEqDiff, Int.reduceToNat, reduceIte]
  refine CallW.rt (IndexByte_v s c O) (by kernel_rfl) rfl rfl ?_
  rintro _ O2 ⟨rfl, rfl⟩
  simp (disch := first | omega | (simp only [ds] <;> omega) | fail) only [wk, undefM, Nat.reduceLT, Nat.reduceAdd, Nat.reduceMul, Nat.reduceSub, Nat.reduceBEq, Nat.reduceEqDiff, Int.reduceToNat, reduceIte]
theorem ValidRune_a (r : Nat) (O : VH) (h : r < 55296) : VF Tryd.prog 96 [.v (.int .i32 r)] O (Ret fun m O' => m = mb true ∧ O' = O) := by
  refine VF.ofW (n := ⟨17, 0⟩) (rs := [.tmp 2]) tabOk Tryd.func96 rfl rfl rfl (Nat.le_of_ble_eq_true rfl) ?_
  simp only [argEnv, Nat.zero_add, Nat.reduceAdd]
  simp (disch := first | omega | (simp only [ds] <;> omega) | fail) only [wk, undefM, Nat.reduceLT, Nat.reduceAdd, Nat.reduceMul, Nat.reduceSub, Nat.reduceBEq, Nat.reduceEqDiff, Int.reduceToNat, reduceIte, tsB2]
theorem ValidRune_b (r : Nat) (O : VH) (h1 : 57343 < r) (h2 : r ≤ 1114111) : VF Tryd.prog 96 [.v (.int .i32 r)] O (Ret fun m O' => m = mb true ∧ O' = O) := by
  refine VF.ofW (n := ⟨17, 0⟩) (rs := [.tmp 2]) tabOk Tryd.func96 rfl rfl rfl (Nat.le_of_ble_eq_true rfl) ?_
  simp only [argEnv, Nat.zero_add, Nat.reduceAdd]
  simp (disch := first | omega | (simp only [ds] <;> omega) | fail) only [wk, undefM, Nat.reduceLT, Nat.reduceAdd, Nat.reduceMul, Nat.reduceSub, Nat.reduceBEq, Nat.reduceEqDiff, Int.reduceToNat, reduceIte, tsB2]
theorem ValidRune_v (r : Nat) (O : VH) (hv : Utf8.valid r = true) : VF Tryd.prog 96 [.v (.int .i32 r)] O (Ret fun m O' => m = mb true ∧ O' = O) := by
  have h : r < 55296 ∨ (57343 < r ∧ r ≤ 1114111) := by simp [Utf8.valid] at hv; omega
  exact h.elim (ValidRune_a r O) fun h => ValidRune_b r O h.1 h.2
theorem IndexRune_v (s : List UInt8) (r : Nat) (O : VH) (hs : ∀ b ∈ s, b.toNat < 128) (hl : s.length ≤ 1000000) (hv : Utf8.valid r = true) : VF Tryd.prog 75 [.str s, .v (.int .i32 r)] O (Ret fun m O' => ∃ z : Int, m = mi z ∧ (0 ≤ z ↔ ∃ b ∈ s, b.toNat = r) ∧ O.Ge O') := by
  have hr : r < 1114112 := by simp [Utf8.valid] at hv; omega
  refine VF.ofW (n := ⟨187, 0⟩) (rs := [.tmp 4]) tabOk Tryd.func75 rfl rfl rfl (Nat.le_of_ble_eq_true rfl) ?_
  simp only [argEnv, Nat.zero_add, Nat.reduceAdd]
  by_cases h1 : r < 128
  · simp (disch := first | omega | (simp only [ds] <;> omega) | fail) only [wk, undefM, Nat.reduceLT, Nat.reduceAdd, Nat.reduceMul, Nat.reduceSub, Nat.reduceBEq, Nat.reduceEqDiff, Int.reduceToNat, reduceIte, tsB2]
    have hc : (r : Int) = ((UInt8.ofNat r).toNat : Int) := by rw [UInt8.toNat_ofNat']; omega
    rw [hc]
    refine CallW.rt (IndexByteS_v s (UInt8.ofNat r) _) (by kernel_rfl) rfl rfl ?_
    rintro _ O2 ⟨rfl, rfl⟩
    simp (disch := first | omega | (simp only [ds] <;> omega) | fail) only [wk, undefM, Nat.reduceLT, Nat.reduceAdd, Nat.reduceMul, Nat.reduceSub, Nat.reduceBEq, Nat.reduceEqDiff, Int.reduceToNat, reduceIte, tsB2]
    refine ⟨_, rfl, ?_, VH.Ge.refl _⟩
    rw [indexByte_has]
    constructor
    · intro h; exact ⟨_, h, by rw [UInt8.toNat_ofNat']; omega⟩
    · rintro ⟨b, h2, h3⟩
      rwa [show UInt8.ofNat r = b from by rw [← h3]; simp]
  · have hno : ¬ ∃ b ∈ s, b.toNat = r := fun ⟨b, h2, h3⟩ => by have := hs b h2; omega
    have hz : (0 : Int) ≤ -1 ↔ ∃ b ∈ s, b.toNat = r := ⟨fun h => by omega, fun h => absurd h hno⟩
    by_cases h2 : r = 65533
    · simp (disch := first | omega | (simp only [ds] <;> omega) | fail) only [wk, undefM, Nat.reduceLT, Nat.reduceAdd, Nat.reduceMul, Nat.reduceSub, Nat.reduceBEq, Nat.reduceEqDiff, Int.reduceToNat, reduceIte, tsB2, wi]
      refine VL.stepP (.inl rfl) rfl rfl (YieldsM.rangeS tabOk (l := s) (by rw [ty9]; rfl) rfl) ?_
      rintro _ O2 ⟨rfl, rfl⟩
      refine WL.sound tabOk ?_
      simp (disch := first | omega | (simp only [ds] <;> omega) | fail) only [wk, undefM, Nat.reduceLT, Nat.reduceAdd, Nat.reduceMul, Nat.reduceSub, Nat.reduceBEq, Nat.reduceEqDiff, Int.reduceToNat, reduceIte, tsB2]
      refine WC.loopK tabOk [] [175] (fun p : Nat => []) (fun p O' => O.Ge O' ∧ p ≤ s.length ∧ O'.hp O.next = some (.obj (.stringIter ⟨⟨s⟩⟩ p))) (fun p => s.length - p) (0) rfl rfl ?_ ?_
      · exact ⟨(VH.Ge.refl O).push _, Nat.zero_le _, VH.push_new _ _⟩
      rintro p O3 ⟨hge, hp, hit⟩
      simp (disch := first | omega | (simp only [ds] <;> omega) | fail) only [wk, undefM, Nat.reduceLT, Nat.reduceAdd, Nat.reduceMul, Nat.reduceSub, Nat.reduceBEq, Nat.reduceEqDiff, Int.reduceToNat, reduceIte, tsB2, wi]
      by_cases h3 : p < s.length
      · have hb := hs s[p] (List.getElem_mem h3)
        have hg : s.getD p 0 = s[p] := getD_at h3
        have hdec := decode_lo s p (by rw [hg]; exact hb)
        rw [hg] at hdec
        refine VL.stepP (.inl rfl) rfl rfl (YieldsM.nextS rfl hit h3) ?_
        rintro _ O4 ⟨rfl, rfl⟩
        refine WL.sound tabOk ?_
        rw [hdec]
        simp (disch := first | omega | (simp only [ds] <;> omega) | fail) only [wk, undefM, Nat.reduceLT, Nat.reduceAdd, Nat.reduceMul, Nat.reduceSub, Nat.reduceBEq, Nat.reduceEqDiff, Int.reduceToNat, reduceIte, tsB2, wi]
        exact RoundQ.next (p + 1) rfl rfl ⟨hge.set (Nat.le_refl _) _, by omega, VH.set_get _ _ _⟩ (by first | omega | (dsimp only; omega))
      · refine VL.stepP (.inl rfl) rfl rfl (YieldsM.nextE rfl hit (by omega)) ?_
        rintro _ O4 ⟨rfl, rfl⟩
        refine WL.sound tabOk ?_
        simp (disch := first | omega | (simp only [ds] <;> omega) | fail) only [wk, undefM, Nat.reduceLT, Nat.reduceAdd, Nat.reduceMul, Nat.reduceSub, Nat.reduceBEq, Nat.reduceEqDiff, Int.reduceToNat, reduceIte, tsB2, wi]
        exact ⟨_, rfl, hz, hge⟩
    · simp (disch := first | omega | (simp only [ds] <;> omega) | fail) only [wk, undefM, Nat.reduceLT, Nat.reduceAdd, Nat.reduceMul, Nat.reduceSub, Nat.reduceBEq, Nat.reduceEqDiff, Int.reduceToNat, reduceIte, tsB2]
      refine CallW.rt (ValidRune_v r _ hv) (by kernel_rfl) rfl rfl ?_
      rintro _ O2 ⟨rfl, rfl⟩
      simp (disch := first | omega | (simp only [ds] <;> omega) | fail) only [wk, undefM, Nat.reduceLT, Nat.reduceAdd, Nat.reduceMul, Nat.reduceSub, Nat.reduceBEq, Nat.reduceEqDiff, Int.reduceToNat, reduceIte, tsB2, wi]
      obtain ⟨k, x, he, hk1, hk3, hx⟩ := encode_hi r (by omega) hv
      refine VL.pure (by simp) (by simp [isPlain]) rfl rfl (PureOp.letter tabOk (r := r) (by rw [ty21]; rfl) (by rw [ty9]; rfl) rfl) (WL.sound tabOk ?_)
      rw [he]
      have hkl : (k ++ [x]).length = k.length + 1 := by simp
      have hkx : (k ++ [x])[k.length]? = some x := by simp
      simp (disch := first | omega | (simp only [ds] <;> omega) | fail) only [wk, undefM, Nat.reduceLT, Nat.reduceAdd, Nat.reduceMul, Nat.reduceSub, Nat.reduceBEq, Nat.reduceEqDiff, Int.reduceToNat, reduceIte, tsB2, hkl]
      refine WC.loopK tabOk [9] [0, 7, 8] (fun _ : Unit => [mi k.length]) (fun _ O' => O' = O2) (fun _ => 0) (()) rfl rfl ?_ ?_
      · rfl
      rintro ⟨⟩ O3 rfl
      by_cases h3 : k.length < s.length
      · have hb := hs s[k.length] (List.getElem_mem h3)
        have hg := List.getElem?_eq_getElem h3
        generalize s[k.length] = c at *
        have hcx : c.toNat ≠ x.toNat := by omega
        have hnot : Lib.indexByte (s.drop (k.length + 1)) x < 0 := by
          rcases Int.lt_or_le (Lib.indexByte (s.drop (k.length + 1)) x) 0 with h | h
          · exact h
          · have := (indexByte_has _ _).1 h
            have := hs x (List.mem_of_mem_drop this)
            omega
        simp (disch := first | omega | (simp only [ds] <;> omega) | fail) only [wk, undefM, Nat.reduceLT, Nat.reduceAdd, Nat.reduceMul, Nat.reduceSub, Nat.reduceBEq, Nat.reduceEqDiff, Int.reduceToNat, reduceIte, tsB2]
        refine WC.reads tabOk (by kernel_rfl) (by kernel_rfl) (by kernel_rfl) ?_
        simp (disch := first | omega | (simp only [ds] <;> omega) | fail) only [wk, undefM, Nat.reduceLT, Nat.reduceAdd, Nat.reduceMul, Nat.reduceSub, Nat.reduceBEq, Nat.reduceEqDiff, Int.reduceToNat, reduceIte, tsB2, hg, hkx, byM_def]
        refine WC.plan tabOk .any [(0, .sil), (1, .sil), (2, .sil), (3, .sil), (4, .sil), (5, .sil), (6, .sil), (7, .one), (8, .sil)] (by simp) (by kernel_rfl) (by kernel_rfl) (by kernel_rfl) rfl ?_
        simp (disch := first | omega | (simp only [ds] <;> omega) | fail) only [wk, undefM, Nat.reduceLT, Nat.reduceAdd, Nat.reduceMul, Nat.reduceSub, Nat.reduceBEq, Nat.reduceEqDiff, Int.reduceToNat, reduceIte, tsB2, hkx]
        refine CallW.rt (IndexByteS_v (s.drop (k.length + 1)) x _) (by kernel_rfl) rfl rfl ?_
        rintro _ O4 ⟨rfl, rfl⟩
        generalize Lib.indexByte (s.drop (k.length + 1)) x = z at *
        simp (disch := first | omega | (simp only [ds] <;> omega) | fail) only [wk, undefM, Nat.reduceLT, Nat.reduceAdd, Nat.reduceMul, Nat.reduceSub, Nat.reduceBEq, Nat.reduceEqDiff, Int.reduceToNat, reduceIte, tsB2]
        exact ⟨_, rfl, hz, VH.Ge.refl _⟩
      · simp (disch := first | omega | (simp only [ds] <;> omega) | fail) only [wk, undefM, Nat.reduceLT, Nat.reduceAdd, Nat.reduceMul, Nat.reduceSub, Nat.reduceBEq, Nat.reduceEqDiff, Int.reduceToNat, reduceIte, tsB2]
        exact ⟨_, rfl, hz, VH.Ge.refl _⟩
theorem valid_lo (r : Nat) (h : r < 128) : Utf8.valid r = true := by simp [Utf8.valid]; omega
/-! ### strings.IndexAny -/
/-- The first place of one of some bytes. -/
def idxAny (ch l : List UInt8) : Int := if (l.takeWhile fun b => !ch.contains b).length < l.length then ((l.takeWhile fun b => !ch.contains b).length : Int) else -1
theorem idx_at (ch l : List UInt8) (p : Nat) (hp : p < l.length) (hno : ∀ j, j < p → ch.contains (l.getD j 0) = false) (h : ch.contains (l.getD p 0) = true) : idxAny ch l = p := by
  have key : ∀ (l : List UInt8) (p : Nat), p < l.length → (∀ j, j < p → ch.contains (l.getD j 0) = false) → ch.contains (l.getD p 0) = true → (l.takeWhile fun b => !ch.contains b).length = p := by
    intro l
    induction l with
    | nil => intro p hp; cases hp
    | cons a l ih =>
      intro p hp hno h
      cases p with
      | zero =>
        have h : ch.contains a = true := h
        rw [List.takeWhile_cons_of_neg (by show ¬ (!ch.contains a) = true; rw [h]; decide)]; rfl
      | succ p =>
        have h0 : ch.contains a = false := hno 0 (by omega)
        rw [List.takeWhile_cons_of_pos (by show (!ch.contains a) = true; rw [h0]; rfl), List.length_cons, ih p (by simpa using hp) (fun j hj => hno (j + 1) (by omega)) h]
  unfold idxAny
  rw [key l p hp hno h, if_pos hp]
theorem idx_no (ch l : List UInt8) (hno : ∀ j, j < l.length → ch.contains (l.getD j 0) = false) : idxAny ch l = -1 := by
  have key : ∀ (l : List UInt8), (∀ j, j < l.length → ch.contains (l.getD j 0) = false) → (l.takeWhile fun b => !ch.contains b).length = l.length := by
    intro l
    induction l with
    | nil => intro _; rfl
    | cons a l ih =>
      intro hno
      have h0 : ch.contains a = false := hno 0 (by simp)
      rw [List.takeWhile_cons_of_pos (by show (!ch.contains a) = true; rw [h0]; rfl), List.length_cons, List.length_cons, ih fun j hj => hno (j + 1) (by simpa using hj)]
  unfold idxAny
  rw [key l hno, if_neg (by omega)]
theorem shouldUse_v (k : Nat) (O : VH) : VF Tryd.prog 76 [mi k] O (Ret fun m O' => m = mb (decide (8 < k)) ∧ O' = O) := by
  refine VF.ofW (n := ⟨5, 0⟩) (rs := [.tmp 2]) tabOk Tryd.func76 rfl rfl rfl (Nat.le_of_ble_eq_true rfl) ?_
  simp only [argEnv, Nat.zero_add, Nat.reduceAdd]
  by_cases h : 8 < k
  · simp (disch := first | omega | (simp only [ds] <;> omega) | fail) only [wk, undefM, Nat.reduceLT, Nat.reduceAdd, Nat.reduceMul, Nat.reduceSub, Nat.reduceBEq, Nat.reduceEqDiff, Int.reduceToNat, reduceIte, tsB2, h]
  · simp (disch := first | omega | (simp only [ds] <;> omega) | fail) only [wk, undefM, Nat.reduceLT, Nat.reduceAdd, Nat.reduceMul, Nat.reduceSub, Nat.reduceBEq, Nat.reduceEqDiff, Int.reduceToNat, reduceIte, tsB2, h]
theorem IndexAnyS_v (l ch : List UInt8) (O : VH) (hl : l.length ≤ 8) (hc : ∀ b ∈ ch, b.toNat < 128) (hc2 : 2 ≤ ch.length) (hc3 : ch.length ≤ 1000) : VF Tryd.prog 67 [.str l, .str ch] O (Ret fun m O' => m = mi (idxAny ch l) ∧ O.Ge O') := by
  have hne : (ch == []) = false := by cases ch with | nil => simp at hc2 | cons a b => rfl
  have hcon : ∀ b : UInt8, 128 ≤ b.toNat → ch.contains b = false := fun b hb => by
    rw [Bool.eq_false_iff]; intro h
    have := hc b (List.contains_iff_mem.1 h); omega
  refine VF.ofW (n := ⟨55, 0⟩) (rs := [.tmp 4]) tabOk Tryd.func67 rfl rfl rfl (Nat.le_of_ble_eq_true rfl) ?_
  simp only [argEnv, Nat.zero_add, Nat.reduceAdd]
  simp (disch := first | omega | (simp only [ds] <;> omega) | fail) only [wk, undefM, Nat.reduceLT, Nat.reduceAdd, Nat.reduceMul, Nat.reduceSub, Nat.reduceBEq, Nat.reduceEqDiff, Int.reduceToNat, reduceIte, tsB2, hne]
  refine CallW.rt (shouldUse_v l.length _) (by kernel_rfl) rfl rfl ?_
  rintro _ O2 ⟨rfl, rfl⟩
  have h8 : decide (8 < l.length) = false := by simp; omega
  rw [h8]
  simp (disch := first | omega | (simp only [ds] <;> omega) | fail) only [wk, undefM, Nat.reduceLT, Nat.reduceAdd, Nat.reduceMul, Nat.reduceSub, Nat.reduceBEq, Nat.reduceEqDiff, Int.reduceToNat, reduceIte, tsB2, wi]
  refine VL.stepP (.inl rfl) rfl rfl (YieldsM.rangeS tabOk (l := l) (by rw [ty9]; rfl) rfl) ?_
  rintro _ O3 ⟨rfl, rfl⟩
  refine WL.sound tabOk ?_
  simp (disch := first | omega | (simp only [ds] <;> omega) | fail) only [wk, undefM, Nat.reduceLT, Nat.reduceAdd, Nat.reduceMul, Nat.reduceSub, Nat.reduceBEq, Nat.reduceEqDiff, Int.reduceToNat, reduceIte, tsB2]
  refine WC.loopK tabOk [] [1, 45] (fun p : Nat => []) (fun p O' => O2.Ge O' ∧ O2.next < O'.next ∧ p ≤ l.length ∧ O'.hp O2.next = some (.obj (.stringIter ⟨⟨l⟩⟩ p)) ∧ ∀ j, j < p → ch.contains (l.getD j 0) = false) (fun p => l.length - p) (0) rfl rfl ?_ ?_
  · exact ⟨(VH.Ge.refl O2).push _, Nat.lt_succ_self _, Nat.zero_le _, VH.push_new _ _, fun j h => by omega⟩
  rintro p O3 ⟨hge, hlt, hp, hit, hno⟩
  simp (disch := first | omega | (simp only [ds] <;> omega) | fail) only [wk, undefM, Nat.reduceLT, Nat.reduceAdd, Nat.reduceMul, Nat.reduceSub, Nat.reduceBEq, Nat.reduceEqDiff, Int.reduceToNat, reduceIte, tsB2, wi]
  by_cases h3 : p < l.length
  · refine VL.stepP (.inl rfl) rfl rfl (YieldsM.nextS rfl hit h3) ?_
    rintro _ O4 ⟨rfl, rfl⟩
    refine WL.sound tabOk ?_
    have hge4 := fun x => hge.set (Nat.le_refl _) (x := x)
    by_cases hb : (l.getD p 0).toNat < 128
    · have hdec := decode_lo l p hb
      rw [hdec]
      have hval := valid_lo _ hb
      simp (disch := first | omega | (simp only [ds] <;> omega) | fail) only [wk, undefM, Nat.reduceLT, Nat.reduceAdd, Nat.reduceMul, Nat.reduceSub, Nat.reduceBEq, Nat.reduceEqDiff, Int.reduceToNat, reduceIte, tsB2, wi]
      refine CallW.rt (IndexRune_v ch (l.getD p 0).toNat _ hc (by omega) hval) (by kernel_rfl) rfl rfl ?_
      rintro _ O4 ⟨z, rfl, hz, hg4⟩
      by_cases h0 : 0 ≤ z
      · obtain ⟨b, hb1, hb2⟩ := hz.1 h0
        have hcb : ch.contains (l.getD p 0) = true := by
          rw [← UInt8.toNat_inj.1 hb2]; exact List.contains_iff_mem.2 hb1
        simp (disch := first | omega | (simp only [ds] <;> omega) | fail) only [wk, undefM, Nat.reduceLT, Nat.reduceAdd, Nat.reduceMul, Nat.reduceSub, Nat.reduceBEq, Nat.reduceEqDiff, Int.reduceToNat, reduceIte, tsB2]
        rw [idx_at ch l p h3 hno hcb]
        exact ⟨rfl, (hge4 _).trans hg4⟩
      · have hcb : ch.contains (l.getD p 0) = false := by
          rw [Bool.eq_false_iff]; intro h
          exact h0 (hz.2 ⟨_, List.contains_iff_mem.1 h, rfl⟩)
        simp (disch := first | omega | (simp only [ds] <;> omega) | fail) only [wk, undefM, Nat.reduceLT, Nat.reduceAdd, Nat.reduceMul, Nat.reduceSub, Nat.reduceBEq, Nat.reduceEqDiff, Int.reduceToNat, reduceIte, tsB2]
        refine RoundQ.next (p + 1) rfl rfl ⟨(hge4 _).trans hg4, Nat.lt_of_lt_of_le hlt hg4.next, by omega, (hg4.hp _ hlt).trans (VH.set_get _ _ _), fun j hj => ?_⟩ (by first | omega | (dsimp only; omega))
        rcases Nat.lt_or_eq_of_le (Nat.le_of_lt_succ hj) with h | h
        · exact hno j h
        · rw [h]; exact hcb
    · obtain ⟨d1, d2, d3, d4, d5⟩ := decode_hi l p h3 (by omega)
      generalize Utf8.decode ⟨⟨l⟩⟩ p = cw at *
      obtain ⟨c, wd⟩ := cw
      dsimp only at d1 d2 d3 d4 d5
      simp (disch := first | omega | (simp only [ds] <;> omega) | fail) only [wk, undefM, Nat.reduceLT, Nat.reduceAdd, Nat.reduceMul, Nat.reduceSub, Nat.reduceBEq, Nat.reduceEqDiff, Int.reduceToNat, reduceIte, tsB2, wi]
      refine CallW.rt (IndexRune_v ch c _ hc (by omega) d2) (by kernel_rfl) rfl rfl ?_
      rintro _ O4 ⟨z, rfl, hz, hg4⟩
      have h0 : z < 0 := by
        rcases Int.lt_or_le z 0 with h | h
        · exact h
        · obtain ⟨b, hb1, hb2⟩ := hz.1 h
          have := hc b hb1; omega
      simp (disch := first | omega | (simp only [ds] <;> omega) | fail) only [wk, undefM, Nat.reduceLT, Nat.reduceAdd, Nat.reduceMul, Nat.reduceSub, Nat.reduceBEq, Nat.reduceEqDiff, Int.reduceToNat, reduceIte, tsB2]
      refine RoundQ.next (p + wd) rfl rfl ⟨(hge4 _).trans hg4, Nat.lt_of_lt_of_le hlt hg4.next, by omega, (hg4.hp _ hlt).trans (VH.set_get _ _ _), fun j hj => ?_⟩ (by first | omega | (dsimp only; omega))
      rcases Nat.lt_or_ge j p with h | h
      · exact hno j h
      · exact hcon _ (d5 j h hj)
  · refine VL.stepP (.inl rfl) rfl rfl (YieldsM.nextE rfl hit (by omega)) ?_
    rintro _ O4 ⟨rfl, rfl⟩
    refine WL.sound tabOk ?_
    simp (disch := first | omega | (simp only [ds] <;> omega) | fail) only [wk, undefM, Nat.reduceLT, Nat.reduceAdd, Nat.reduceMul, Nat.reduceSub, Nat.reduceBEq, Nat.reduceEqDiff, Int.reduceToNat, reduceIte, tsB2, wi]
    rw [idx_no ch l fun j hj => hno j (by omega)]
    exact ⟨rfl, hge⟩
end Go.Proofs.YtbpnmkmlicbfoaaDoor

/-
  strings.IndexAny of small bytes over a set of them, walked.
-/
set_option linter.unusedVariables false
set_option linter.unusedSimpArgs false
namespace Go.Proofs.YtbpnmkmlicbfoaaDoor
open Go.RowKit
set_option maxRecDepth 10000
theorem tyA : tyOf Tryd.prog 105 = some ⟨.array 256 4, 256, 256, List.replicate 256 (.v (.bool false))⟩ := by kernel_rfl
theorem bldA : isBldB (List.replicate 256 (.v (.bool false))) = false := rfl
def asc (ch : List UInt8) : List MV := (List.range 256).map fun b => .v (.bool (ch.any fun c => c.toNat == b))
theorem asc_len (ch : List UInt8) : (asc ch).length = 256 := by simp [asc]
theorem asc_0 : asc [] = List.replicate 256 (.v (.bool false)) := by
  apply List.ext_getElem?
  intro i
  simp only [asc, List.any_nil, List.getElem?_map, List.getElem?_replicate]
  rcases Nat.lt_or_ge i 256 with h | h
  · rw [List.getElem?_range h, if_pos h]; rfl
  · rw [List.getElem?_eq_none (by simpa using h), if_neg (by omega)]; rfl
theorem asc_leaf (ch : List UInt8) : (asc ch).all leafB = true := by
  rw [List.all_eq_true]
  intro m hm
  simp only [asc, List.mem_map] at hm
  obtain ⟨b, _, rfl⟩ := hm
  rfl
theorem asc_get (ch : List UInt8) (c : UInt8) : (asc ch)[c.toNat]? = some (.v (.bool (ch.contains c))) := by
  have hc := c.toNat_lt
  simp only [asc, List.getElem?_map, List.getElem?_range (show c.toNat < 256 from hc), Option.map_some, Option.some.injEq, MV.v.injEq, Value.bool.injEq]
  rw [Bool.eq_iff_iff, List.contains_iff_mem, List.any_eq_true]
  constructor
  · rintro ⟨x, h1, h2⟩
    have e : x = c := UInt8.toNat_inj.1 (by simpa using h2)
    rw [← e]; exact h1
  · intro h; exact ⟨c, h, by simp⟩
theorem asc_set (ch : List UInt8) (c : UInt8) : (asc ch).set c.toNat (.v (.bool true)) = asc (ch ++ [c]) := by
  have hc := c.toNat_lt
  apply List.ext_getElem?
  intro i
  rw [List.getElem?_set, asc_len]
  simp only [asc, List.getElem?_map]
  rcases Nat.lt_or_ge i 256 with h | h
  · rw [List.getElem?_range h]
    by_cases e : c.toNat = i
    · subst e; simp [h]
    · simp [e]
  · rw [List.getElem?_eq_none (by simpa using h), if_neg (by omega)]; rfl
theorem set_all (cs ds : List MV) (h : cs.length = ds.length) : setMany cs 0 ds = ds := by
  have := setMany_app [] ds cs
  simp only [List.nil_append, List.length_nil] at this
  rw [this, List.take_of_length_le (by omega), List.drop_of_length_le (by omega), List.append_nil]
set_option linter.defProp false in
def tsC := And.intro tsB2 <| And.intro @tyA <| And.intro @bldA <| And.intro @agB_arr @vcell_t
theorem makeSet_v (ch : List UInt8) (O : VH) (hc : ∀ b ∈ ch, b.toNat < 128) (hl : ch.length ≤ 1000) : VF Tryd.prog 77 [.str ch] O (Ret fun m O' => m = .tuple [.agg (asc ch), mb true] ∧ O.Ge O') := by
  have hlen := asc_len
  refine VF.ofW (n := ⟨21, 0⟩) (rs := [.cell 2 105, .tmp 3]) tabOk Tryd.func77 rfl rfl rfl (Nat.le_of_ble_eq_true rfl) ?_
  simp only [argEnv, Nat.zero_add, Nat.reduceAdd]
  simp (disch := first | omega | (simp only [ds] <;> omega) | fail) only [wk, undefM, Nat.reduceLT, Nat.reduceAdd, Nat.reduceMul, Nat.reduceSub, Nat.reduceBEq, Nat.reduceEqDiff, Int.reduceToNat, reduceIte, tsC]
  refine WC.loopK tabOk [4] [0, 2] (fun i : Nat => [mi i]) (fun i O' => O.Ge O' ∧ i ≤ ch.length ∧ O'.hp O.next = some (.cells (asc (ch.take i)))) (fun i => ch.length - i) (0) rfl rfl ?_ ?_
  · exact ⟨(VH.Ge.refl O).push _, Nat.zero_le _, by rw [List.take_zero, asc_0]; exact VH.push_new _ _⟩
  rintro i O2 ⟨hge, hi, hk⟩
  by_cases h2 : i < ch.length
  · have hb := hc ch[i] (List.getElem_mem h2)
    have hg := List.getElem?_eq_getElem h2
    have hs := asc_set (ch.take i) ch[i]
    rw [← take_snoc _ _ h2] at hs
    have hlb := asc_len (ch.take i)
    generalize ch[i] = c at *
    simp (disch := first | omega | (simp only [ds] <;> omega) | fail) only [wk, undefM, Nat.reduceLT, Nat.reduceAdd, Nat.reduceMul, Nat.reduceSub, Nat.reduceBEq, Nat.reduceEqDiff, Int.reduceToNat, reduceIte, tsC, hg, byM_def, hk, hlb]
    refine RoundQ.next (i + 1) rfl rfl ⟨hge.set (Nat.le_refl _) _, by omega, by rw [VH.set_get, ← hs]⟩ (by first | omega | (dsimp only; omega))
  · obtain rfl : i = ch.length := by omega
    rw [List.take_length] at hk
    have hlb := asc_len ch
    have hlf := asc_leaf ch
    have hsm := set_all (asc ch) (asc ch) rfl
    have htk : (asc ch).take 256 = asc ch := List.take_of_length_le (by omega)
    generalize asc ch = cs at *
    simp (disch := first | omega | (simp only [ds] <;> omega) | fail) only [wk, undefM, Nat.reduceLT, Nat.reduceAdd, Nat.reduceMul, Nat.reduceSub, Nat.reduceBEq, Nat.reduceEqDiff, Int.reduceToNat, reduceIte, tsC, hk, hlb, hlf, hsm, htk]
    exact hge.set (Nat.le_refl _) _
theorem hasA_v (ch : List UInt8) (c : UInt8) (k : Nat) (O : VH) (hk : O.hp k = some (.cells (asc ch))) : VF Tryd.prog 78 [.ptr k 0, byM c] O (Ret fun m O' => m = mb (ch.contains c) ∧ O' = O) := by
  have hc := c.toNat_lt
  have hg := asc_get ch c
  have hl := asc_len ch
  refine VF.ofW (n := ⟨10, 0⟩) (rs := [.tmp 4]) tabOk Tryd.func78 rfl rfl rfl (Nat.le_of_ble_eq_true rfl) ?_
  simp only [argEnv, Nat.zero_add, Nat.reduceAdd]
  simp (disch := first | omega | (simp only [ds] <;> omega) | fail) only [wk, undefM, Nat.reduceLT, Nat.reduceAdd, Nat.reduceMul, Nat.reduceSub, Nat.reduceBEq, Nat.reduceEqDiff, Int.reduceToNat, reduceIte, tsC, byM_def, hk, hg, hl]
theorem IndexAnyL_v (l ch : List UInt8) (O : VH) (hl : 8 < l.length) (hl2 : l.length ≤ maxLen) (hc : ∀ b ∈ ch, b.toNat < 128) (hc2 : 2 ≤ ch.length) (hc3 : ch.length ≤ 1000) : VF Tryd.prog 67 [.str l, .str ch] O (Ret fun m O' => m = mi (idxAny ch l) ∧ O.Ge O') := by
  have hne : (ch == []) = false := by cases ch with | nil => simp at hc2 | cons a b => rfl
  have hm : (l.length : Int) ≤ 9223372036854775807 := by simp [maxLen] at hl2; omega
  have hlf := asc_leaf ch
  have hla := asc_len ch
  have hsm := set_all (List.replicate 256 (.v (.bool false))) (asc ch) (by rw [hla, List.length_replicate])
  have hrl : (List.replicate 256 (MV.v (Value.bool false))).length = 256 := List.length_replicate
  refine VF.ofW (n := ⟨55, 0⟩) (rs := [.tmp 4]) tabOk Tryd.func67 rfl rfl rfl (Nat.le_of_ble_eq_true rfl) ?_
  simp only [argEnv, Nat.zero_add, Nat.reduceAdd]
  simp (disch := first | omega | (simp only [ds] <;> omega) | fail) only [wk, undefM, Nat.reduceLT, Nat.reduceAdd, Nat.reduceMul, Nat.reduceSub, Nat.reduceBEq, Nat.reduceEqDiff, Int.reduceToNat, reduceIte, tsC, hne]
  refine CallW.rt (shouldUse_v l.length _) (by kernel_rfl) rfl rfl ?_
  rintro _ O2 ⟨rfl, rfl⟩
  have h8 : decide (8 < l.length) = true := by simp; omega
  rw [h8]
  simp (disch := first | omega | (simp only [ds] <;> omega) | fail) only [wk, undefM, Nat.reduceLT, Nat.reduceAdd, Nat.reduceMul, Nat.reduceSub, Nat.reduceBEq, Nat.reduceEqDiff, Int.reduceToNat, reduceIte, tsC]
  refine CallW.rt (makeSet_v ch _ hc hc3) (by kernel_rfl) rfl rfl ?_
  rintro _ O3 ⟨rfl, hg3⟩
  simp (disch := first | omega | (simp only [ds] <;> omega) | fail) only [wk, undefM, Nat.reduceLT, Nat.reduceAdd, Nat.reduceMul, Nat.reduceSub, Nat.reduceBEq, Nat.reduceEqDiff, Int.reduceToNat, reduceIte, tsC, wi, hla, hlf, hsm]
  have hn3 := hg3.next
  have hinit : ∀ x, O2.Ge ((O3.push x).set O3.next (.cells (asc ch))) ∧ O3.next < ((O3.push x).set O3.next (.cells (asc ch))).next ∧ 0 ≤ l.length ∧ ((O3.push x).set O3.next (.cells (asc ch))).hp O3.next = some (.cells (asc ch)) ∧ ∀ j, j < 0 → ch.contains (l.getD j 0) = false := fun x =>
    ⟨(hg3.push _).set hn3 _, Nat.lt_succ_self _, Nat.zero_le _, VH.set_get _ _ _, fun j h => by omega⟩
  have hcall := fun c O (h : O.hp O3.next = some (.cells (asc ch))) => hasA_v ch c O3.next O h
  clear hsm hlf hla hrl
  generalize List.replicate 256 (MV.v (Value.bool false)) = rep at *
  generalize asc ch = A at *
  refine WC.loopK tabOk [8] [0, 6] (fun p : Nat => [mi p]) (fun p O' => O2.Ge O' ∧ O3.next < O'.next ∧ p ≤ l.length ∧ O'.hp O3.next = some (.cells A) ∧ ∀ j, j < p → ch.contains (l.getD j 0) = false) (fun p => l.length - p) (0) rfl rfl ?_ ?_
  · exact hinit _
  rintro p O4 ⟨hge, hlt, hp, hit, hno⟩
  by_cases h3 : p < l.length
  · have hg := List.getElem?_eq_getElem h3
    have hgd : l.getD p 0 = l[p] := getD_at h3
    have hcon := idx_at ch l p h3 hno
    rw [hgd] at hcon
    simp (disch := first | omega | (simp only [ds] <;> omega) | fail) only [wk, undefM, Nat.reduceLT, Nat.reduceAdd, Nat.reduceMul, Nat.reduceSub, Nat.reduceBEq, Nat.reduceEqDiff, Int.reduceToNat, reduceIte, tsC, hg]
    refine CallW.rt (hcall l[p] _ hit) (by kernel_rfl) rfl rfl ?_
    rintro _ O5 ⟨rfl, rfl⟩
    cases hb : ch.contains l[p]
    · simp (disch := first | omega | (simp only [ds] <;> omega) | fail) only [wk, undefM, Nat.reduceLT, Nat.reduceAdd, Nat.reduceMul, Nat.reduceSub, Nat.reduceBEq, Nat.reduceEqDiff, Int.reduceToNat, reduceIte, tsC]
      refine RoundQ.next (p + 1) rfl rfl ⟨hge, hlt, by omega, hit, fun j hj => ?_⟩ (by first | omega | (dsimp only; omega))
      rcases Nat.lt_or_eq_of_le (Nat.le_of_lt_succ hj) with h | h
      · exact hno j h
      · rw [h, hgd]; exact hb
    · simp (disch := first | omega | (simp only [ds] <;> omega) | fail) only [wk, undefM, Nat.reduceLT, Nat.reduceAdd, Nat.reduceMul, Nat.reduceSub, Nat.reduceBEq, Nat.reduceEqDiff, Int.reduceToNat, reduceIte, tsC]
      rw [hcon hb]
      exact ⟨rfl, hge⟩
  · simp (disch := first | omega | (simp only [ds] <;> omega) | fail) only [wk, undefM, Nat.reduceLT, Nat.reduceAdd, Nat.reduceMul, Nat.reduceSub, Nat.reduceBEq, Nat.reduceEqDiff, Int.reduceToNat, reduceIte, tsC]
    rw [idx_no ch l fun j hj => hno j (by omega)]
    exact ⟨rfl, hge⟩
/-- strings.IndexAny of small bytes -/
theorem IndexAny_v (l ch : List UInt8) (O : VH) (hl2 : l.length ≤ maxLen) (hc : ∀ b ∈ ch, b.toNat < 128) (hc2 : 2 ≤ ch.length) (hc3 : ch.length ≤ 1000) : VF Tryd.prog 67 [.str l, .str ch] O (Ret fun m O' => m = mi (idxAny ch l) ∧ O.Ge O') := by
  rcases Nat.lt_or_ge 8 l.length with h | h
  · exact IndexAnyL_v l ch O h hl2 hc hc2 hc3
  · exact IndexAnyS_v l ch O h hc hc2 hc3
end Go.Proofs.YtbpnmkmlicbfoaaDoor

/-
  The package bounds: the reader's steps, walked.
-/
set_option linter.unusedVariables false
set_option linter.unusedSimpArgs false
namespace Go.Proofs.YtbpnmkmlicbfoaaDoor
open Go.RowKit
set_option maxRecDepth 10000
set_option linter.defProp false in
def tsD := And.intro tsP <| And.intro T51 <| And.intro T49 <| And.intro T55 T57
def headB (s : List UInt8) : UInt8 := s.headD 0
/-- A reader that stands before a text. -/
def RdAt (O : VH) (b : Nat) (s : List UInt8) : Prop := b < O.next ∧ O.hp b = some (.cells [.str s])
theorem RdAt.set {O : VH} {b : Nat} {s t : List UInt8} (h : RdAt O b s) : RdAt (O.set b (.cells [.str t])) b t := ⟨h.1, VH.set_get _ _ _⟩
theorem RdAt.upd {O O' : VH} {b : Nat} {s : List UInt8} (h : RdAt O b s) (g : O.Ge O') : RdAt O' b s := ⟨Nat.lt_of_lt_of_le h.1 g.next, (g.hp _ h.1).trans h.2⟩
theorem Upd.ofGe' {O O' : VH} {q : Option Nat} (h : O.Ge O') : Upd O q O' := (Upd.ofGe h).any
/-- (*bounds.reader).peek -/
theorem peek_v {O : VH} {b : Nat} {s : List UInt8} (h : RdAt O b s) : VF Tryd.prog 26 [.ptr b 0] O (Ret fun m O' => m = byM (headB s) ∧ O' = O) := by
  obtain ⟨hlt, hk⟩ := h
  refine VF.ofW (n := ⟨13, 0⟩) (rs := [.tmp 2]) tabOk Tryd.func26 rfl rfl rfl (Nat.le_of_ble_eq_true rfl) ?_
  simp only [argEnv, Nat.zero_add, Nat.reduceAdd]
  cases s with
  | nil =>
    have hn : (([] : List UInt8) == []) = true := rfl
    simp (disch := first | omega | (simp only [ds] <;> omega) | fail) only [wk, undefM, Nat.reduceLT, Nat.reduceAdd, Nat.reduceMul, Nat.reduceSub, Nat.reduceBEq, Nat.reduceEqDiff, Int.reduceToNat, reduceIte, tsD, hk, hn]
    rfl
  | cons c s =>
    have hn : ((c :: s) == []) = false := rfl
    simp (disch := first | omega | (simp only [ds] <;> omega) | fail) only [wk, undefM, Nat.reduceLT, Nat.reduceAdd, Nat.reduceMul, Nat.reduceSub, Nat.reduceBEq, Nat.reduceEqDiff, Int.reduceToNat, reduceIte, tsD, hk, hn]
    rfl
/-- (*bounds.reader).blanks -/
theorem blanks_v {O : VH} {b : Nat} {s : List UInt8} (h : RdAt O b s) (hs : s.length ≤ maxLen) : VF Tryd.prog 28 [.ptr b 0] O (Ret fun m O' => Upd O (some b) O' ∧ RdAt O' b (s.dropWhile isB)) := by
  have hm : (s.length : Int) ≤ 9223372036854775807 := by simp [maxLen] at hs; omega
  refine VF.ofW (n := ⟨23, 0⟩) (rs := []) tabOk Tryd.func28 rfl rfl rfl (Nat.le_of_ble_eq_true rfl) ?_
  simp only [argEnv, Nat.zero_add, Nat.reduceAdd]
  simp (disch := first | omega | (simp only [ds] <;> omega) | fail) only [wk, undefM, Nat.reduceLT, Nat.reduceAdd, Nat.reduceMul, Nat.reduceSub, Nat.reduceBEq, Nat.reduceEqDiff, Int.reduceToNat, reduceIte, tsD]
  refine WC.loopK tabOk [] [0] (fun t : List UInt8 => []) (fun t O' => Upd O (some b) O' ∧ RdAt O' b t ∧ t.length ≤ s.length ∧ s.dropWhile isB = t.dropWhile isB) (fun t => t.length) (s) rfl rfl ?_ ?_
  · exact ⟨Upd.refl _ _, h, Nat.le_refl _, rfl⟩
  rintro t O2 ⟨hu, hr, htl, hd⟩
  rw [hd]
  have hk := hr.2
  cases t with
  | nil =>
    have hn : (([] : List UInt8) == []) = true := rfl
    simp (disch := first | omega | (simp only [ds] <;> omega) | fail) only [wk, undefM, Nat.reduceLT, Nat.reduceAdd, Nat.reduceMul, Nat.reduceSub, Nat.reduceBEq, Nat.reduceEqDiff, Int.reduceToNat, reduceIte, tsD, hk, hn]
    exact ⟨hu, hr⟩
  | cons c t =>
    have hn : ((c :: t) == []) = false := rfl
    simp only [List.length_cons] at htl
    simp (disch := first | omega | (simp only [ds] <;> omega) | fail) only [wk, undefM, Nat.reduceLT, Nat.reduceAdd, Nat.reduceMul, Nat.reduceSub, Nat.reduceBEq, Nat.reduceEqDiff, Int.reduceToNat, reduceIte, tsD, hk, hn]
    refine CallW.rt (IsBlank_v c _) (by kernel_rfl) rfl rfl ?_
    rintro _ O3 ⟨rfl, rfl⟩
    cases hb : isB c
    · simp (disch := first | omega | (simp only [ds] <;> omega) | fail) only [wk, undefM, Nat.reduceLT, Nat.reduceAdd, Nat.reduceMul, Nat.reduceSub, Nat.reduceBEq, Nat.reduceEqDiff, Int.reduceToNat, reduceIte, tsD]
      rw [List.dropWhile_cons_of_neg (by simp [hb])]
      exact ⟨hu, hr⟩
    · simp (disch := first | omega | (simp only [ds] <;> omega) | fail) only [wk, undefM, Nat.reduceLT, Nat.reduceAdd, Nat.reduceMul, Nat.reduceSub, Nat.reduceBEq, Nat.reduceEqDiff, Int.reduceToNat, reduceIte, tsD, hk]
      exact RoundQ.next t rfl rfl ⟨hu.trans Upd.set, hr.set, by omega, by rw [List.dropWhile_cons_of_pos hb]⟩ (by simp)
/-- (*bounds.reader).take: the byte, or the fault. -/
def faultM : MV := .iface 48 (.agg [])
theorem bdF : vbuild (tyOf Tryd.prog) 48 [] = some (.agg []) := by kernel_rfl
theorem ifF {p : MV} : mkIfT 48 (tyOf Tryd.prog 48) (some p) = some (.iface 48 p) := by rw [ty48]; rfl
theorem take_v {O : VH} {b : Nat} {s : List UInt8} (of : List UInt8) (h : RdAt O b s) (hs : s.length ≤ maxLen) (hof : of.contains 0 = false) : VF Tryd.prog 27 [.ptr b 0, .str of] O fun r O' => Upd O (some b) O' ∧ match r with
    | .ret m => m = byM (headB s) ∧ of.contains (headB s) = true ∧ RdAt O' b (s.drop 1)
    | .panic m => m = faultM ∧ of.contains (headB s) = false := by
  have hm : (s.length : Int) ≤ 9223372036854775807 := by simp [maxLen] at hs; omega
  refine VF.ofW (n := ⟨29, 0⟩) (rs := [.tmp 4]) tabOk Tryd.func27 rfl rfl rfl (Nat.le_of_ble_eq_true rfl) ?_
  simp only [argEnv, Nat.zero_add, Nat.reduceAdd]
  simp (disch := first | omega | (simp only [ds] <;> omega) | fail) only [wk, undefM, Nat.reduceLT, Nat.reduceAdd, Nat.reduceMul, Nat.reduceSub, Nat.reduceBEq, Nat.reduceEqDiff, Int.reduceToNat, reduceIte, tsD]
  refine CallW.rt (peek_v h) (by kernel_rfl) rfl rfl ?_
  rintro _ O2 ⟨rfl, rfl⟩
  have hk := h.2
  by_cases h0 : (headB s).toNat = 0
  · have hz : headB s = 0 := UInt8.toNat_inj.1 h0
    simp (disch := first | omega | (simp only [ds] <;> omega) | fail) only [wk, undefM, Nat.reduceLT, Nat.reduceAdd, Nat.reduceMul, Nat.reduceSub, Nat.reduceBEq, Nat.reduceEqDiff, Int.reduceToNat, reduceIte, tsD, byM_def, h0, wi, wd, bdF, ifF]
    refine VL.panic rfl rfl rfl ?_
    simp (disch := first | omega | (simp only [ds] <;> omega) | fail) only [wk, undefM, Nat.reduceLT, Nat.reduceAdd, Nat.reduceMul, Nat.reduceSub, Nat.reduceBEq, Nat.reduceEqDiff, Int.reduceToNat, reduceIte, wd]
    exact ⟨Upd.refl _ _, rfl, by rw [hz]; exact hof⟩
  · simp (disch := first | omega | (simp only [ds] <;> omega) | fail) only [wk, undefM, Nat.reduceLT, Nat.reduceAdd, Nat.reduceMul, Nat.reduceSub, Nat.reduceBEq, Nat.reduceEqDiff, Int.reduceToNat, reduceIte, tsD, byM_def, h0]
    refine VL.stepP (.inl rfl) rfl rfl (textS_M tabOk (el := 5) (l := [headB s]) rfl (by rw [ty79]; rfl) (by rw [ty9]; rfl) (by rw [ty5]; rfl) rfl rfl) ?_
    rintro _ O3 ⟨rfl, rfl⟩
    refine WL.sound tabOk ?_
    simp (disch := first | omega | (simp only [ds] <;> omega) | fail) only [wk, undefM, Nat.reduceLT, Nat.reduceAdd, Nat.reduceMul, Nat.reduceSub, Nat.reduceBEq, Nat.reduceEqDiff, Int.reduceToNat, reduceIte, tsD]
    refine CallW.rt (Contains1_v of (headB s) _) (by kernel_rfl) rfl rfl ?_
    rintro _ O4 ⟨rfl, rfl⟩
    cases hc : of.contains (headB s)
    · simp (disch := first | omega | (simp only [ds] <;> omega) | fail) only [wk, undefM, Nat.reduceLT, Nat.reduceAdd, Nat.reduceMul, Nat.reduceSub, Nat.reduceBEq, Nat.reduceEqDiff, Int.reduceToNat, reduceIte, tsD, byM_def, wi, wd, bdF, ifF]
      refine VL.panic rfl rfl rfl ?_
      simp (disch := first | omega | (simp only [ds] <;> omega) | fail) only [wk, undefM, Nat.reduceLT, Nat.reduceAdd, Nat.reduceMul, Nat.reduceSub, Nat.reduceBEq, Nat.reduceEqDiff, Int.reduceToNat, reduceIte, wd]
      exact ⟨Upd.refl _ _, rfl⟩
    · have hne : s ≠ [] := fun e => by rw [e] at h0; exact h0 rfl
      have hpos : 0 < s.length := List.length_pos_iff.2 hne
      simp (disch := first | omega | (simp only [ds] <;> omega) | fail) only [wk, undefM, Nat.reduceLT, Nat.reduceAdd, Nat.reduceMul, Nat.reduceSub, Nat.reduceBEq, Nat.reduceEqDiff, Int.reduceToNat, reduceIte, tsD, hk]
      exact ⟨Upd.set, h.set⟩
/-- A word, and what stands behind it. -/
def stopC : List UInt8 := [91, 93, 40, 41, 44, 32, 9, 10, 13]
def wordB (s : List UInt8) : List UInt8 × List UInt8 :=
  ((s.dropWhile isB).takeWhile fun b => !stopC.contains b, ((s.dropWhile isB).dropWhile fun b => !stopC.contains b).dropWhile isB)
theorem wordB_len (s : List UInt8) : (wordB s).1.length ≤ s.length ∧ (wordB s).2.length ≤ s.length :=
  ⟨Nat.le_trans (tw_len _ _) (dw_len _ _), Nat.le_trans (dw_len _ _) (Nat.le_trans (dw_len _ _) (dw_len _ _))⟩
theorem tw_take (p : UInt8 → Bool) : ∀ l : List UInt8, l.take (l.takeWhile p).length = l.takeWhile p
  | [] => rfl
  | c :: s => by
    cases h : p c
    · rw [List.takeWhile_cons_of_neg (by simp [h])]; rfl
    · rw [List.takeWhile_cons_of_pos h, List.length_cons, List.take_succ_cons, tw_take p s]
/-- (*bounds.reader).word -/
theorem word_v2 {O : VH} {b : Nat} {s : List UInt8} (h : RdAt O b s) (hs : s.length ≤ maxLen) : VF Tryd.prog 54 [.ptr b 0] O (Ret fun m O' => m = .str (wordB s).1 ∧ Upd O (some b) O' ∧ RdAt O' b (wordB s).2) := by
  have hl := dw_len isB s
  unfold wordB
  refine VF.ofV (n := ⟨37, 0⟩) (rs := [.tmp 2]) tabOk Tryd.func54 rfl rfl rfl (Nat.le_of_ble_eq_true rfl) ?_
  simp only [argEnv, Nat.zero_add, Nat.reduceAdd]
  refine VC.seqV tabOk ?_
  simp (disch := first | omega | (simp only [ds] <;> omega) | fail) only [wk, undefM, Nat.reduceLT, Nat.reduceAdd, Nat.reduceMul, Nat.reduceSub, Nat.reduceBEq, Nat.reduceEqDiff, Int.reduceToNat, reduceIte, tsD]
  refine VC.seqV tabOk ?_
  simp (disch := first | omega | (simp only [ds] <;> omega) | fail) only [wk, undefM, Nat.reduceLT, Nat.reduceAdd, Nat.reduceMul, Nat.reduceSub, Nat.reduceBEq, Nat.reduceEqDiff, Int.reduceToNat, reduceIte, tsD]
  refine CallW.rt (blanks_v h hs) (by kernel_rfl) rfl rfl ?_
  rintro _ O2 ⟨hu2, hr2⟩
  generalize s.dropWhile isB = t at *
  have hk2 := hr2.2
  have htw := tw_len (fun b => !stopC.contains b) t
  have htt := tw_take (fun b => !stopC.contains b) t
  have htd := drop_tw (fun b => !stopC.contains b) t
  have hdl := dw_len (fun b => !stopC.contains b) t
  have hta := List.takeWhile_append_dropWhile (p := fun b => !stopC.contains b) (l := t)
  have hidx : idxAny stopC t = if (t.takeWhile fun b => !stopC.contains b).length < t.length then ((t.takeWhile fun b => !stopC.contains b).length : Int) else -1 := rfl
  generalize (t.takeWhile fun b => !stopC.contains b) = w at *
  generalize (t.dropWhile fun b => !stopC.contains b) = r at *
  have hlt : t.length ≤ maxLen := Nat.le_trans hl hs
  have hm : (t.length : Int) ≤ 9223372036854775807 := by simp [maxLen] at hlt; omega
  simp (disch := first | omega | (simp only [ds] <;> omega) | fail) only [wk, undefM, Nat.reduceLT, Nat.reduceAdd, Nat.reduceMul, Nat.reduceSub, Nat.reduceBEq, Nat.reduceEqDiff, Int.reduceToNat, reduceIte, tsD]
  refine VC.seqV tabOk ?_
  simp (disch := first | omega | (simp only [ds] <;> omega) | fail) only [wk, undefM, Nat.reduceLT, Nat.reduceAdd, Nat.reduceMul, Nat.reduceSub, Nat.reduceBEq, Nat.reduceEqDiff, Int.reduceToNat, reduceIte, tsD, hk2]
  refine CallW.rt (IndexAny_v t stopC _ hlt (by decide) (by decide) (by decide)) (by kernel_rfl) rfl rfl ?_
  rintro _ O3 ⟨rfl, hg3⟩
  have hr3 := hr2.upd hg3
  have hk3 := hr3.2
  have hu3 := hu2.trans (Upd.ofGe' hg3)
  generalize idxAny stopC t = z at *
  simp (disch := first | omega | (simp only [ds] <;> omega) | fail) only [wk, undefM, Nat.reduceLT, Nat.reduceAdd, Nat.reduceMul, Nat.reduceSub, Nat.reduceBEq, Nat.reduceEqDiff, Int.reduceToNat, reduceIte, tsD]
  refine WC.join tabOk [0, 3] (fun n : Nat => [.ptr b 0, mi n]) (fun n O' => O' = O3 ∧ n = w.length) ?_ ?_
  · by_cases h1 : w.length < t.length
    · rw [if_pos h1] at hidx
      subst hidx
      simp (disch := first | omega | (simp only [ds] <;> omega) | fail) only [wk, undefM, Nat.reduceLT, Nat.reduceAdd, Nat.reduceMul, Nat.reduceSub, Nat.reduceBEq, Nat.reduceEqDiff, Int.reduceToNat, reduceIte, tsD, hk3]
      exact JoinQ.mk _ rfl ⟨rfl, rfl⟩
    · rw [if_neg h1] at hidx
      subst hidx
      simp (disch := first | omega | (simp only [ds] <;> omega) | fail) only [wk, undefM, Nat.reduceLT, Nat.reduceAdd, Nat.reduceMul, Nat.reduceSub, Nat.reduceBEq, Nat.reduceEqDiff, Int.reduceToNat, reduceIte, tsD, hk3]
      exact JoinQ.mk _ rfl ⟨rfl, by omega⟩
  rintro n Oz ⟨eO, rfl⟩
  rw [eO]; clear eO Oz
  refine WC.sound tabOk ?_
  simp (disch := first | omega | (simp only [ds] <;> omega) | fail) only [wk, undefM, Nat.reduceLT, Nat.reduceAdd, Nat.reduceMul, Nat.reduceSub, Nat.reduceBEq, Nat.reduceEqDiff, Int.reduceToNat, reduceIte, tsD, hk3, htt, htd]
  have hr4 : RdAt (O3.set b (.cells [.str r])) b r := hr3.set
  refine CallW.rt (blanks_v hr4 (Nat.le_trans hdl hlt)) (by kernel_rfl) rfl rfl ?_
  rintro _ O5 ⟨hu5, hr5⟩
  simp (disch := first | omega | (simp only [ds] <;> omega) | fail) only [wk, undefM, Nat.reduceLT, Nat.reduceAdd, Nat.reduceMul, Nat.reduceSub, Nat.reduceBEq, Nat.reduceEqDiff, Int.reduceToNat, reduceIte, tsD]
  exact ⟨(hu3.trans Upd.set).trans hu5, hr5⟩
end Go.Proofs.YtbpnmkmlicbfoaaDoor
