/-
  ref.Canon, ref.rank, ref.Compare, walked; the laws VersionParts and VersionCompares.
-/
import Derived.Test.YtjbpnhmjnkolbaaDoorVerV
import Derived.Test.YtjbpnhmjnkolbaaDoorVerN
set_option linter.unusedVariables false
set_option linter.unusedSimpArgs false
namespace Go.Proofs.YtjbpnhmjnkolbaaDoor
open Go.RowKit
set_option maxRecDepth 10000

theorem prR_3 : ∀ x, (prR x).length = 3 := fun _ => rfl
theorem prR_at (L : List Prt) (i : Nat) (h : i < L.length) : ((L.flatMap prR).drop (i * 3)).take 3 = prR L[i] := by
  rw [fm_drop prR_3, List.drop_eq_getElem_cons h]; rfl
/-- ref.Canon -/
theorem refCanon_v (s : List UInt8) (O : VH) (hs : s.length ≤ 10000) : VF Tryd.prog 16 [.str s] O (Ret fun m O' => m = .str (canonV s) ∧ O.Ge O') := by
  have hl := partsV_len s
  have ht := partsV_text s
  unfold canonV
  refine VF.ofW (n := 47) (rs := [.tmp 2]) tabOk Tryd.func16 rfl rfl rfl (Nat.le_of_ble_eq_true rfl) ?_
  simp only [argEnv, Nat.zero_add, Nat.reduceAdd]
  simp (disch := first | omega | (simp only [ds] <;> omega) | fail) only [wk, undefM, Nat.reduceLT, Nat.reduceAdd, Nat.reduceMul, Nat.reduceSub, Nat.reduceBEq, Nat.reduceEqDiff, Int.reduceToNat, reduceIte, tsV]
  refine CallW.rt (refParts_v s _ hs) (by kernel_rfl) rfl rfl ?_
  rintro _ O1 ⟨tk, rfl, hg1⟩
  generalize partsV s = L at *
  have hcl := canonN_len L _ ht
  simp (disch := first | omega | (simp only [ds] <;> omega) | fail) only [wk, undefM, Nat.reduceLT, Nat.reduceAdd, Nat.reduceMul, Nat.reduceSub, Nat.reduceBEq, Nat.reduceEqDiff, Int.reduceToNat, reduceIte, tsV]
  refine WC.loopK tabOk [3, 9] [7, 8] (fun j : Nat => [.str (canonN L j), mi j]) (fun j O' => j ≤ L.length ∧ O.Ge O') (fun j => L.length - j) (0) rfl rfl ?_ ?_
  · exact ⟨Nat.zero_le _, hg1⟩
  rintro j O2 ⟨hj, hge2⟩
  have hcj := hcl j
  have hj2 : j * (s.length + 9 + 2) ≤ 10001 * 10011 := Nat.mul_le_mul (by omega) (by omega)
  by_cases h2 : j < L.length
  · have hat := prR_at L j h2
    have hfl := fm_len prR_3 L
    have hg : L.getD j nullP = L[j] := by rw [List.getD_eq_getElem?_getD, List.getElem?_eq_getElem h2]; rfl
    have htx := ht L[j] (List.getElem_mem h2)
    have hnx : canonN L (j + 1) = canonN L j ++ pieceC j L[j] := by rw [canonN, hg]
    have hge3 := fun x => (hge2.push (.cells [.v (.bool false), .v (.bool false), .str []])).set hge2.next x
    rcases hpc : L[j] with ⟨hy, nb, tx⟩
    rw [hpc] at hat hnx htx
    simp only [prR] at hat
    dsimp only at htx
    by_cases hj0 : j = 0
    · cases nb <;> cases he : tx == []
      all_goals
        simp (disch := first | omega | (simp only [ds] <;> omega) | fail) only [wk, undefM, Nat.reduceLT, Nat.reduceAdd, Nat.reduceMul, Nat.reduceSub, Nat.reduceBEq, Nat.reduceEqDiff, Int.reduceToNat, reduceIte, tsV, hat, he]
        refine RoundQ.next (j + 1) rfl ?_ ⟨by omega, hge3 _⟩ (by omega)
        rw [hnx]
        simp [pieceC, hj0, he]
        rfl
    · cases hy <;> cases nb <;> cases he : tx == []
      all_goals
        simp (disch := first | omega | (simp only [ds] <;> omega) | fail) only [wk, undefM, Nat.reduceLT, Nat.reduceAdd, Nat.reduceMul, Nat.reduceSub, Nat.reduceBEq, Nat.reduceEqDiff, Int.reduceToNat, reduceIte, tsV, hat, he]
        refine RoundQ.next (j + 1) rfl ?_ ⟨by omega, hge3 _⟩ (by omega)
        rw [hnx]
        simp [pieceC, hj0, he]
        rfl
  · obtain rfl : j = L.length := by omega
    simp (disch := first | omega | (simp only [ds] <;> omega) | fail) only [wk, undefM, Nat.reduceLT, Nat.reduceAdd, Nat.reduceMul, Nat.reduceSub, Nat.reduceBEq, Nat.reduceEqDiff, Int.reduceToNat, reduceIte, tsV]
    exact hge2
/-- ref.rank -/
def rankQ (q : Prt) : Int := rankR (!q.2.1, q.1, q.2.2)
theorem refRank_v (q : Prt) (O : VH) : VF Tryd.prog 39 [.agg (prR q)] O (Ret fun m O' => m = mi (rankQ q) ∧ O.Ge O') := rRank_v (!q.2.1, q.1, q.2.2) O
theorem idx_swap (t : List UInt8) (h1 : (t == []) = false) (h2 : (t == [103, 97]) = false) : wordsR.findIdx? (fun w => t == w) = wordsV.findIdx? (t == ·) := by
  simp only [wordsR, wordsV, List.findIdx?_cons, h1, h2]
theorem rankQ_eq (q : Prt) (h : q.2.1 = false → q.2.2 ≠ [103, 97]) : rankQ q = rankV q := by
  obtain ⟨hy, nb, t⟩ := q
  unfold rankQ rankR rankV
  dsimp only at h ⊢
  cases nb
  · cases he : t == []
    · have h2 : (t == [103, 97]) = false := by simpa using h rfl
      simp only [Bool.not_false, if_true, Bool.false_eq_true, if_false, idx_swap t he h2]
      generalize wordsV.findIdx? _ = z
      cases z <;> rfl
    · have : t = [] := by simpa using he
      subst this
      rfl
  · cases he : t == [] <;> simp
theorem parts_noga (s : List UInt8) (i : Nat) : ((partsV s).getD i nullP).2.1 = false → ((partsV s).getD i nullP).2.2 ≠ [103, 97] := by
  rw [List.getD_eq_getElem?_getD]
  cases hi : (partsV s)[i]? with
  | none => intro h; cases h
  | some p =>
    intro h1 h2
    have hk := (partsV_ok s p (List.mem_of_getElem? hi)).2.2
    simp only [Option.getD_some] at h1 h2
    rw [if_neg (by rw [h1]; simp), h2] at hk
    exact absurd hk.2 (by decide)
theorem less_cmp : ∀ a b : List UInt8, cmpB a b = if a = b then 0 else if Op.bytesLess a b then -1 else 1
  | [], [] => rfl
  | [], b :: v => by rw [cmpB_nc]; simp [Op.bytesLess]
  | a :: u, [] => by rw [cmpB_cn]; simp [Op.bytesLess]
  | a :: u, b :: v => by
    rw [cmpB_cons]
    by_cases h1 : a.toNat < b.toNat
    · have : a ≠ b := fun e => by rw [e] at h1; omega
      have h2 : a < b := h1
      simp [h1, this, Op.bytesLess, h2]
    · by_cases h2 : b.toNat < a.toNat
      · have : a ≠ b := fun e => by rw [e] at h2; omega
        have h3 : ¬ a < b := h1
        simp [h1, h2, this, Op.bytesLess, h3]
      · have e : a = b := UInt8.toNat_inj.1 (by omega)
        subst e
        have h3 : ¬ a < a := h1
        rw [if_neg h1, if_neg h2, less_cmp u v]
        simp [Op.bytesLess, h3]
/-- ref.Compare -/
theorem refCompare_v (a b : List UInt8) (O : VH) (ha : a.length ≤ 10000) (hb : b.length ≤ 10000) : VF Tryd.prog 19 [.str a, .str b] O (Ret fun m O' => m = mi (compareV a b) ∧ O.Ge O') := by
  have la := partsV_len a
  have lb := partsV_len b
  have ta := fun i => getD_text (partsV_text a) i
  have tb := fun i => getD_text (partsV_text b) i
  have ga := fun i => rankQ_eq _ (parts_noga a i)
  have gb := fun i => rankQ_eq _ (parts_noga b i)
  unfold compareV
  refine VF.ofV (n := 88) (rs := [.tmp 4]) tabOk Tryd.func19 rfl rfl rfl (Nat.le_of_ble_eq_true rfl) ?_
  simp only [argEnv, Nat.zero_add, Nat.reduceAdd]
  refine VC.seqV tabOk ?_
  simp (disch := first | omega | (simp only [ds] <;> omega) | fail) only [wk, undefM, Nat.reduceLT, Nat.reduceAdd, Nat.reduceMul, Nat.reduceSub, Nat.reduceBEq, Nat.reduceEqDiff, Int.reduceToNat, reduceIte, tsV]
  refine VC.seqV tabOk ?_
  simp (disch := first | omega | (simp only [ds] <;> omega) | fail) only [wk, undefM, Nat.reduceLT, Nat.reduceAdd, Nat.reduceMul, Nat.reduceSub, Nat.reduceBEq, Nat.reduceEqDiff, Int.reduceToNat, reduceIte, tsV]
  refine CallW.rt (refParts_v a _ ha) (by kernel_rfl) rfl rfl ?_
  rintro _ O1 ⟨tk1, rfl, hg1⟩
  simp (disch := first | omega | (simp only [ds] <;> omega) | fail) only [wk, undefM, Nat.reduceLT, Nat.reduceAdd, Nat.reduceMul, Nat.reduceSub, Nat.reduceBEq, Nat.reduceEqDiff, Int.reduceToNat, reduceIte, tsV]
  refine CallW.rt (refParts_v b _ hb) (by kernel_rfl) rfl rfl ?_
  rintro _ O2 ⟨tk2, rfl, hg2⟩
  simp (disch := first | omega | (simp only [ds] <;> omega) | fail) only [wk, undefM, Nat.reduceLT, Nat.reduceAdd, Nat.reduceMul, Nat.reduceSub, Nat.reduceBEq, Nat.reduceEqDiff, Int.reduceToNat, reduceIte, tsV]
  have hge := hg1.trans hg2
  generalize partsV a = L at *
  generalize partsV b = M at *
  generalize hN : max L.length M.length = N
  have hfl := fm_len prR_3 L
  have hfm := fm_len prR_3 M
  refine WC.sound tabOk ?_
  simp (disch := first | omega | (simp only [ds] <;> omega) | fail) only [wk, undefM, Nat.reduceLT, Nat.reduceAdd, Nat.reduceMul, Nat.reduceSub, Nat.reduceBEq, Nat.reduceEqDiff, Int.reduceToNat, reduceIte, tsV]
  refine VC.loopV [7] [5, 6] (fun i : Nat => [mi i]) (fun i O' => i ≤ N ∧ O.Ge O' ∧ cmpFrom L M N 0 = cmpFrom L M (N - i) i) (fun i => N - i) (0) rfl rfl ?_ ?_
  · exact ⟨Nat.zero_le _, hge, rfl⟩
  rintro i O3 ⟨hi, hge3, hc⟩
  rw [hc]
  by_cases h2 : i < N
  · have hs : cmpFrom L M (N - i) i = if cmpV (L.getD i nullP) (M.getD i nullP) ≠ 0 then cmpV (L.getD i nullP) (M.getD i nullP) else cmpFrom L M (N - (i + 1)) (i + 1) := by
      rw [show N - i = (N - (i + 1)) + 1 from by omega]; rfl
    rw [hs]
    have hor : i < L.length ∨ i < M.length := by omega
    refine WC.join tabOk [7, 5, 6] (fun _ : Unit => [mi i, .sl L.length (L.flatMap prR) tk1, .sl M.length (M.flatMap prR) tk2]) (fun _ O' => O' = O3) ?_ ?_
    · by_cases hl : i < L.length
      · simp (disch := first | omega | (simp only [ds] <;> omega) | fail) only [wk, undefM, Nat.reduceLT, Nat.reduceAdd, Nat.reduceMul, Nat.reduceSub, Nat.reduceBEq, Nat.reduceEqDiff, Int.reduceToNat, reduceIte, tsV]
        exact JoinQ.mk () rfl rfl
      · simp (disch := first | omega | (simp only [ds] <;> omega) | fail) only [wk, undefM, Nat.reduceLT, Nat.reduceAdd, Nat.reduceMul, Nat.reduceSub, Nat.reduceBEq, Nat.reduceEqDiff, Int.reduceToNat, reduceIte, tsV]
        exact JoinQ.mk () rfl rfl
    rintro ⟨⟩ Oz eO
    rw [eO]; clear eO Oz
    refine VC.seq0 (VC.block' ?_)
    refine VC.seqV tabOk ?_
    simp (disch := first | omega | (simp only [ds] <;> omega) | fail) only [wk, undefM, Nat.reduceLT, Nat.reduceAdd, Nat.reduceMul, Nat.reduceSub, Nat.reduceBEq, Nat.reduceEqDiff, Int.reduceToNat, reduceIte, tsV]
    have hge4 := (((hge3.push (.cells [.v (.bool false), .v (.bool false), .str []])).push (.cells [.v (.bool false), .v (.bool false), .str []])).set hge3.next (.cells [.v (.bool false), .v (.bool false), .str []])).set (Nat.le_succ_of_le hge3.next) (.cells [.v (.bool false), .v (.bool false), .str []])
    refine WC.join tabOk [5, 6, 7, 8, 9] (fun _ : Unit => [.sl L.length (L.flatMap prR) tk1, .sl M.length (M.flatMap prR) tk2, mi i, .ptr O3.next 0, .ptr (O3.next + 1) 0]) (fun _ O' => O.Ge O' ∧ O3.next + 2 ≤ O'.next ∧ O'.hp O3.next = some (.cells (prR (L.getD i nullP))) ∧ O'.hp (O3.next + 1) = some (.cells [.v (.bool false), .v (.bool false), .str []])) ?_ ?_
    · by_cases hl : i < L.length
      · have hat := prR_at L i hl
        have hg : L.getD i nullP = L[i] := by rw [List.getD_eq_getElem?_getD, List.getElem?_eq_getElem hl]; rfl
        rw [hg]
        generalize L[i] = q at *
        obtain ⟨q1, q2, q3⟩ := q
        simp only [prR] at hat
        simp (disch := first | omega | (simp only [ds] <;> omega) | fail) only [wk, undefM, Nat.reduceLT, Nat.reduceAdd, Nat.reduceMul, Nat.reduceSub, Nat.reduceBEq, Nat.reduceEqDiff, Int.reduceToNat, reduceIte, tsV, hat]
        exact JoinQ.mk () rfl ⟨hge4.set hge3.next _, Nat.le_refl _, VH.set_get _ _ _, by rw [VH.set_ne _ _ (by omega), VH.set_get]⟩
      · have hg : L.getD i nullP = nullP := by rw [List.getD_eq_getElem?_getD, List.getElem?_eq_none (by omega)]; rfl
        rw [hg]
        simp (disch := first | omega | (simp only [ds] <;> omega) | fail) only [wk, undefM, Nat.reduceLT, Nat.reduceAdd, Nat.reduceMul, Nat.reduceSub, Nat.reduceBEq, Nat.reduceEqDiff, Int.reduceToNat, reduceIte, tsV]
        exact JoinQ.mk () rfl ⟨hge4, Nat.le_refl _, by rw [VH.set_ne _ _ (by omega), VH.set_get]; rfl, VH.set_get _ _ _⟩
    rintro ⟨⟩ O5 ⟨hge5, hn5, hx5, hy5⟩
    refine WC.join tabOk [5, 6, 7, 8, 9] (fun _ : Unit => [.sl L.length (L.flatMap prR) tk1, .sl M.length (M.flatMap prR) tk2, mi i, .ptr O3.next 0, .ptr (O3.next + 1) 0]) (fun _ O' => O.Ge O' ∧ O3.next + 2 ≤ O'.next ∧ O'.hp O3.next = some (.cells (prR (L.getD i nullP))) ∧ O'.hp (O3.next + 1) = some (.cells (prR (M.getD i nullP)))) ?_ ?_
    · by_cases hm : i < M.length
      · have hat := prR_at M i hm
        have hg : M.getD i nullP = M[i] := by rw [List.getD_eq_getElem?_getD, List.getElem?_eq_getElem hm]; rfl
        rw [hg]
        generalize M[i] = q at *
        obtain ⟨q1, q2, q3⟩ := q
        simp only [prR] at hat
        simp (disch := first | omega | (simp only [ds] <;> omega) | fail) only [wk, undefM, Nat.reduceLT, Nat.reduceAdd, Nat.reduceMul, Nat.reduceSub, Nat.reduceBEq, Nat.reduceEqDiff, Int.reduceToNat, reduceIte, tsV, hat, hy5]
        exact JoinQ.mk () rfl ⟨hge5.set (Nat.le_succ_of_le hge3.next) _, hn5, by rw [VH.set_ne _ _ (by omega)]; exact hx5, VH.set_get _ _ _⟩
      · have hg : M.getD i nullP = nullP := by rw [List.getD_eq_getElem?_getD, List.getElem?_eq_none (by omega)]; rfl
        rw [hg]
        simp (disch := first | omega | (simp only [ds] <;> omega) | fail) only [wk, undefM, Nat.reduceLT, Nat.reduceAdd, Nat.reduceMul, Nat.reduceSub, Nat.reduceBEq, Nat.reduceEqDiff, Int.reduceToNat, reduceIte, tsV]
        exact JoinQ.mk () rfl ⟨hge5, hn5, hx5, hy5⟩
    clear hx5 hy5 hge4 hge5
    rintro ⟨⟩ O6 ⟨hge6, hn6, hx6, hy6⟩
    have tai := ta i
    have tbi := tb i
    have gai := ga i
    have gbi := gb i
    generalize L.getD i nullP = X at *
    generalize M.getD i nullP = Y at *
    have hcv : cmpV X Y = if sgn (rankV X) (rankV Y) ≠ 0 then sgn (rankV X) (rankV Y) else if rankV X = 7 then cmpB X.2.2 Y.2.2 else if rankV X > 7 then (if sgn X.2.2.length Y.2.2.length ≠ 0 then sgn X.2.2.length Y.2.2.length else cmpB X.2.2 Y.2.2) else 0 := rfl
    obtain ⟨hx, nx, tx⟩ := X
    obtain ⟨hy, ny, ty⟩ := Y
    simp only [prR] at hx6 hy6
    dsimp only at tai tbi hcv
    have crx := fun O => refRank_v (hx, nx, tx) O
    have cry := fun O => refRank_v (hy, ny, ty) O
    simp only [gai, gbi, prR, mb_def] at crx cry
    generalize rankV (hx, nx, tx) = r at *
    generalize rankV (hy, ny, ty) = r' at *
    generalize cmpV (hx, nx, tx) (hy, ny, ty) = cv at *
    have hl6 : O3.next < O6.next := by omega
    have hl6' : O3.next + 1 < O6.next := by omega
    refine VC.seqV tabOk ?_
    simp (disch := first | omega | (simp only [ds] <;> omega) | fail) only [wk, undefM, Nat.reduceLT, Nat.reduceAdd, Nat.reduceMul, Nat.reduceSub, Nat.reduceBEq, Nat.reduceEqDiff, Int.reduceToNat, reduceIte]
    refine VC.drawE [] (by kernel_rfl) ?_
    refine VAnyE.ld (m := .agg [.v (.bool !nx), .v (.bool hx), .str tx]) tabOk 0 rfl (by kernel_rfl) (by kernel_rfl) (by kernel_rfl) (by kernel_rfl) rfl rfl rfl ?_ rfl ?_
    · simp (disch := first | omega | (simp only [ds] <;> omega) | fail) only [wk, undefM, Nat.reduceLT, Nat.reduceAdd, Nat.reduceMul, Nat.reduceSub, Nat.reduceBEq, Nat.reduceEqDiff, Int.reduceToNat, reduceIte, tsV, hx6]
    simp only [putM_some]
    refine VAnyE.ld (m := .agg [.v (.bool !ny), .v (.bool hy), .str ty]) tabOk 2 rfl (by kernel_rfl) (by kernel_rfl) (by kernel_rfl) (by kernel_rfl) rfl rfl rfl ?_ rfl ?_
    · simp (disch := first | omega | (simp only [ds] <;> omega) | fail) only [wk, undefM, Nat.reduceLT, Nat.reduceAdd, Nat.reduceMul, Nat.reduceSub, Nat.reduceBEq, Nat.reduceEqDiff, Int.reduceToNat, reduceIte, tsV, hy6]
    simp only [putM_some]
    refine VAnyE.call (i := 1) (by kernel_rfl) rfl rfl rfl rfl (by kernel_rfl) rfl (crx _) ?_
    rintro _ O7 ⟨rfl, hg7⟩
    simp only [putM_some]
    refine ⟨hg7, ?_⟩
    refine VAnyE.call (i := 3) (by kernel_rfl) rfl rfl rfl rfl (by kernel_rfl) rfl (cry _) ?_
    rintro _ O8 ⟨rfl, hg8⟩
    simp only [putM_some]
    refine ⟨hg7.trans hg8, ?_⟩
    refine VAnyE.sil tabOk 4 rfl (by kernel_rfl) (by kernel_rfl) (by kernel_rfl) (by kernel_rfl) rfl rfl ?_
    simp (disch := first | omega | (simp only [ds] <;> omega) | fail) only [wk, undefM, Nat.reduceLT, Nat.reduceAdd, Nat.reduceMul, Nat.reduceSub, Nat.reduceBEq, Nat.reduceEqDiff, Int.reduceToNat, reduceIte, PreK_some, putM_some, tsV]
    refine VAnyE.plan tabOk [] (by kernel_rfl) (by kernel_rfl) (by kernel_rfl) rfl ?_
    simp (disch := first | omega | (simp only [ds] <;> omega) | fail) only [wk, undefM, Nat.reduceLT, Nat.reduceAdd, Nat.reduceMul, Nat.reduceSub, Nat.reduceBEq, Nat.reduceEqDiff, Int.reduceToNat, reduceIte]
    have hge8 := (hge6.trans hg7).trans hg8
    have hg68 := hg7.trans hg8
    have hx8 := (hg68.hp _ hl6).trans hx6
    have hy8 := (hg68.hp _ hl6').trans hy6
    have hn8 := hg68.next
    by_cases e1 : r = r'
    · have hz : sgn r r' = 0 := by rw [e1]; simp [sgn]
      rw [hz] at hcv
      simp only [ne_eq, not_true_eq_false, if_false] at hcv
      clear hx6 hy6 hg7 hge6
      have hge9 := fun O9 (hg9 : O8.Ge O9) => hge8.trans hg9
      by_cases e2 : r < 7
      · have hcv0 : cv = 0 := by rw [hcv, if_neg (by omega), if_neg (by omega)]
        simp (disch := first | omega | (simp only [ds] <;> omega) | fail) only [wk, undefM, Nat.reduceLT, Nat.reduceAdd, Nat.reduceMul, Nat.reduceSub, Nat.reduceBEq, Nat.reduceEqDiff, Int.reduceToNat, reduceIte, tsV]
        refine WC.sound tabOk ?_
        simp (disch := first | omega | (simp only [ds] <;> omega) | fail) only [wk, undefM, Nat.reduceLT, Nat.reduceAdd, Nat.reduceMul, Nat.reduceSub, Nat.reduceBEq, Nat.reduceEqDiff, Int.reduceToNat, reduceIte, tsV, hx8]
        refine CallW.rt (crx _) (by kernel_rfl) rfl rfl ?_
        rintro _ O9 ⟨rfl, hg9⟩
        simp (disch := first | omega | (simp only [ds] <;> omega) | fail) only [wk, undefM, Nat.reduceLT, Nat.reduceAdd, Nat.reduceMul, Nat.reduceSub, Nat.reduceBEq, Nat.reduceEqDiff, Int.reduceToNat, reduceIte, tsV]
        refine WC.sound tabOk ?_
        simp (disch := first | omega | (simp only [ds] <;> omega) | fail) only [wk, undefM, Nat.reduceLT, Nat.reduceAdd, Nat.reduceMul, Nat.reduceSub, Nat.reduceBEq, Nat.reduceEqDiff, Int.reduceToNat, reduceIte, tsV]
        exact RoundQ.next (i + 1) rfl rfl ⟨by omega, hge8.trans hg9, by rw [if_neg (by simp [hcv0])]⟩ (by omega)
      · cases e3 : tx == ty
        · have e3' : tx ≠ ty := by simpa using e3
          have hb1 : cmpB tx ty = if Op.bytesLess tx ty then -1 else 1 := by rw [less_cmp, if_neg e3']
          simp (disch := first | omega | (simp only [ds] <;> omega) | fail) only [wk, undefM, Nat.reduceLT, Nat.reduceAdd, Nat.reduceMul, Nat.reduceSub, Nat.reduceBEq, Nat.reduceEqDiff, Int.reduceToNat, reduceIte, tsV]
          refine WC.sound tabOk ?_
          simp (disch := first | omega | (simp only [ds] <;> omega) | fail) only [wk, undefM, Nat.reduceLT, Nat.reduceAdd, Nat.reduceMul, Nat.reduceSub, Nat.reduceBEq, Nat.reduceEqDiff, Int.reduceToNat, reduceIte, tsV, hx8]
          refine CallW.rt (crx _) (by kernel_rfl) rfl rfl ?_
          rintro _ O9 ⟨rfl, hg9⟩
          have hx9 := (hg9.hp _ (by omega)).trans hx8
          have hy9 := (hg9.hp _ (by omega)).trans hy8
          have hn9 := hg9.next
          simp (disch := first | omega | (simp only [ds] <;> omega) | fail) only [wk, undefM, Nat.reduceLT, Nat.reduceAdd, Nat.reduceMul, Nat.reduceSub, Nat.reduceBEq, Nat.reduceEqDiff, Int.reduceToNat, reduceIte, tsV, hx9, hy9, e3]
          refine CallW.rt (crx _) (by kernel_rfl) rfl rfl ?_
          rintro _ O10 ⟨rfl, hg10⟩
          have hx10 := (hg10.hp _ (by omega)).trans hx9
          have hy10 := (hg10.hp _ (by omega)).trans hy9
          have hge10 := (hge8.trans hg9).trans hg10
          by_cases e4 : r = 7
          · have hcv2 : cv = cmpB tx ty := by rw [hcv, if_pos e4]
            cases e6 : Op.bytesLess tx ty
            · rw [hb1, e6] at hcv2
              simp only [Bool.false_eq_true, if_false] at hcv2
              rw [hcv2]
              simp (disch := first | omega | (simp only [ds] <;> omega) | fail) only [wk, undefM, Nat.reduceLT, Nat.reduceAdd, Nat.reduceMul, Nat.reduceSub, Nat.reduceBEq, Nat.reduceEqDiff, Int.reduceToNat, reduceIte, tsV, hx10, hy10, e6]
              exact ⟨by simp, hge10⟩
            · rw [hb1, e6] at hcv2
              simp only [if_true] at hcv2
              rw [hcv2]
              simp (disch := first | omega | (simp only [ds] <;> omega) | fail) only [wk, undefM, Nat.reduceLT, Nat.reduceAdd, Nat.reduceMul, Nat.reduceSub, Nat.reduceBEq, Nat.reduceEqDiff, Int.reduceToNat, reduceIte, tsV, hx10, hy10, e6]
              exact ⟨by simp, hge10⟩
          · by_cases e5 : tx.length = ty.length
            · have hcv2 : cv = cmpB tx ty := by rw [hcv, if_neg e4, if_pos (by omega), if_neg]; rw [e5]; simp [sgn]
              cases e6 : Op.bytesLess tx ty
              · rw [hb1, e6] at hcv2
                simp only [Bool.false_eq_true, if_false] at hcv2
                rw [hcv2]
                simp (disch := first | omega | (simp only [ds] <;> omega) | fail) only [wk, undefM, Nat.reduceLT, Nat.reduceAdd, Nat.reduceMul, Nat.reduceSub, Nat.reduceBEq, Nat.reduceEqDiff, Int.reduceToNat, reduceIte, tsV, hx10, hy10, e6]
                exact ⟨by simp, hge10⟩
              · rw [hb1, e6] at hcv2
                simp only [if_true] at hcv2
                rw [hcv2]
                simp (disch := first | omega | (simp only [ds] <;> omega) | fail) only [wk, undefM, Nat.reduceLT, Nat.reduceAdd, Nat.reduceMul, Nat.reduceSub, Nat.reduceBEq, Nat.reduceEqDiff, Int.reduceToNat, reduceIte, tsV, hx10, hy10, e6]
                exact ⟨by simp, hge10⟩
            · rw [if_neg e4, if_pos (by omega)] at hcv
              by_cases e6 : tx.length < ty.length
              · have hs1 : sgn tx.length ty.length = -1 := by rw [sgn, if_pos (by omega)]
                rw [hs1, if_pos (by decide)] at hcv
                rw [hcv]
                simp (disch := first | omega | (simp only [ds] <;> omega) | fail) only [wk, undefM, Nat.reduceLT, Nat.reduceAdd, Nat.reduceMul, Nat.reduceSub, Nat.reduceBEq, Nat.reduceEqDiff, Int.reduceToNat, reduceIte, tsV, hx10, hy10]
                exact ⟨by simp, hge10⟩
              · have hs1 : sgn tx.length ty.length = 1 := by rw [sgn, if_neg (by omega), if_pos (by omega)]
                rw [hs1, if_pos (by decide)] at hcv
                rw [hcv]
                simp (disch := first | omega | (simp only [ds] <;> omega) | fail) only [wk, undefM, Nat.reduceLT, Nat.reduceAdd, Nat.reduceMul, Nat.reduceSub, Nat.reduceBEq, Nat.reduceEqDiff, Int.reduceToNat, reduceIte, tsV, hx10, hy10]
                exact ⟨by simp, hge10⟩
        · have e3' : tx = ty := by simpa using e3
          have hcv0 : cv = 0 := by
            rw [hcv, e3', less_cmp, if_pos rfl]
            simp [sgn]
          simp (disch := first | omega | (simp only [ds] <;> omega) | fail) only [wk, undefM, Nat.reduceLT, Nat.reduceAdd, Nat.reduceMul, Nat.reduceSub, Nat.reduceBEq, Nat.reduceEqDiff, Int.reduceToNat, reduceIte, tsV]
          refine WC.sound tabOk ?_
          simp (disch := first | omega | (simp only [ds] <;> omega) | fail) only [wk, undefM, Nat.reduceLT, Nat.reduceAdd, Nat.reduceMul, Nat.reduceSub, Nat.reduceBEq, Nat.reduceEqDiff, Int.reduceToNat, reduceIte, tsV, hx8]
          refine CallW.rt (crx _) (by kernel_rfl) rfl rfl ?_
          rintro _ O9 ⟨rfl, hg9⟩
          have hx9 := (hg9.hp _ (by omega)).trans hx8
          have hy9 := (hg9.hp _ (by omega)).trans hy8
          simp (disch := first | omega | (simp only [ds] <;> omega) | fail) only [wk, undefM, Nat.reduceLT, Nat.reduceAdd, Nat.reduceMul, Nat.reduceSub, Nat.reduceBEq, Nat.reduceEqDiff, Int.reduceToNat, reduceIte, tsV, hx9, hy9, e3]
          refine WC.sound tabOk ?_
          simp (disch := first | omega | (simp only [ds] <;> omega) | fail) only [wk, undefM, Nat.reduceLT, Nat.reduceAdd, Nat.reduceMul, Nat.reduceSub, Nat.reduceBEq, Nat.reduceEqDiff, Int.reduceToNat, reduceIte, tsV]
          exact RoundQ.next (i + 1) rfl rfl ⟨by omega, hge8.trans hg9, by rw [if_neg (by simp [hcv0])]⟩ (by omega)
    · have hb : (r != r') = true := by simpa using e1
      have hlt8 : O3.next < O8.next := by omega
      have hlt8' : O3.next + 1 < O8.next := by omega
      clear hx6 hy6 hg7 hg8 hg68
      have hx6 := hx8
      have hy6 := hy8
      by_cases e2 : r < r'
      · have hz : sgn r r' = -1 := by rw [sgn, if_pos e2]
        rw [hz, if_pos (by decide)] at hcv
        rw [hcv]
        simp (disch := first | omega | (simp only [ds] <;> omega) | fail) only [wk, undefM, Nat.reduceLT, Nat.reduceAdd, Nat.reduceMul, Nat.reduceSub, Nat.reduceBEq, Nat.reduceEqDiff, Int.reduceToNat, reduceIte, tsV, hb]
        refine VC.drawE [] (by kernel_rfl) ?_
        refine VAnyE.ld (m := .agg [.v (.bool !nx), .v (.bool hx), .str tx]) tabOk 0 rfl (by kernel_rfl) (by kernel_rfl) (by kernel_rfl) (by kernel_rfl) rfl rfl rfl ?_ rfl ?_
        · simp (disch := first | omega | (simp only [ds] <;> omega) | fail) only [wk, undefM, Nat.reduceLT, Nat.reduceAdd, Nat.reduceMul, Nat.reduceSub, Nat.reduceBEq, Nat.reduceEqDiff, Int.reduceToNat, reduceIte, tsV, hx6]
        simp only [putM_some]
        refine VAnyE.ld (m := .agg [.v (.bool !ny), .v (.bool hy), .str ty]) tabOk 2 rfl (by kernel_rfl) (by kernel_rfl) (by kernel_rfl) (by kernel_rfl) rfl rfl rfl ?_ rfl ?_
        · simp (disch := first | omega | (simp only [ds] <;> omega) | fail) only [wk, undefM, Nat.reduceLT, Nat.reduceAdd, Nat.reduceMul, Nat.reduceSub, Nat.reduceBEq, Nat.reduceEqDiff, Int.reduceToNat, reduceIte, tsV, hy6]
        simp only [putM_some]
        refine VAnyE.call (i := 1) (by kernel_rfl) rfl rfl rfl rfl (by kernel_rfl) rfl (crx _) ?_
        rintro _ O7 ⟨rfl, hg7⟩
        simp only [putM_some]
        refine ⟨hg7, ?_⟩
        refine VAnyE.call (i := 3) (by kernel_rfl) rfl rfl rfl rfl (by kernel_rfl) rfl (cry _) ?_
        rintro _ O8 ⟨rfl, hg8⟩
        simp only [putM_some]
        refine ⟨hg7.trans hg8, ?_⟩
        refine VAnyE.sil tabOk 4 rfl (by kernel_rfl) (by kernel_rfl) (by kernel_rfl) (by kernel_rfl) rfl rfl ?_
        simp (disch := first | omega | (simp only [ds] <;> omega) | fail) only [wk, undefM, Nat.reduceLT, Nat.reduceAdd, Nat.reduceMul, Nat.reduceSub, Nat.reduceBEq, Nat.reduceEqDiff, Int.reduceToNat, reduceIte, PreK_some, putM_some, tsV]
        refine VAnyE.plan tabOk [] (by kernel_rfl) (by kernel_rfl) (by kernel_rfl) rfl ?_
        simp (disch := first | omega | (simp only [ds] <;> omega) | fail) only [wk, undefM, Nat.reduceLT, Nat.reduceAdd, Nat.reduceMul, Nat.reduceSub, Nat.reduceBEq, Nat.reduceEqDiff, Int.reduceToNat, reduceIte]
        have hge9 := (hge8.trans hg7).trans hg8
        exact ⟨by simp, hge9⟩
      · have hz : sgn r r' = 1 := by rw [sgn, if_neg e2, if_pos (by omega)]
        rw [hz, if_pos (by decide)] at hcv
        rw [hcv]
        simp (disch := first | omega | (simp only [ds] <;> omega) | fail) only [wk, undefM, Nat.reduceLT, Nat.reduceAdd, Nat.reduceMul, Nat.reduceSub, Nat.reduceBEq, Nat.reduceEqDiff, Int.reduceToNat, reduceIte, tsV, hb]
        refine VC.drawE [] (by kernel_rfl) ?_
        refine VAnyE.ld (m := .agg [.v (.bool !nx), .v (.bool hx), .str tx]) tabOk 0 rfl (by kernel_rfl) (by kernel_rfl) (by kernel_rfl) (by kernel_rfl) rfl rfl rfl ?_ rfl ?_
        · simp (disch := first | omega | (simp only [ds] <;> omega) | fail) only [wk, undefM, Nat.reduceLT, Nat.reduceAdd, Nat.reduceMul, Nat.reduceSub, Nat.reduceBEq, Nat.reduceEqDiff, Int.reduceToNat, reduceIte, tsV, hx6]
        simp only [putM_some]
        refine VAnyE.ld (m := .agg [.v (.bool !ny), .v (.bool hy), .str ty]) tabOk 2 rfl (by kernel_rfl) (by kernel_rfl) (by kernel_rfl) (by kernel_rfl) rfl rfl rfl ?_ rfl ?_
        · simp (disch := first | omega | (simp only [ds] <;> omega) | fail) only [wk, undefM, Nat.reduceLT, Nat.reduceAdd, Nat.reduceMul, Nat.reduceSub, Nat.reduceBEq, Nat.reduceEqDiff, Int.reduceToNat, reduceIte, tsV, hy6]
        simp only [putM_some]
        refine VAnyE.call (i := 1) (by kernel_rfl) rfl rfl rfl rfl (by kernel_rfl) rfl (crx _) ?_
        rintro _ O7 ⟨rfl, hg7⟩
        simp only [putM_some]
        refine ⟨hg7, ?_⟩
        refine VAnyE.call (i := 3) (by kernel_rfl) rfl rfl rfl rfl (by kernel_rfl) rfl (cry _) ?_
        rintro _ O8 ⟨rfl, hg8⟩
        simp only [putM_some]
        refine ⟨hg7.trans hg8, ?_⟩
        refine VAnyE.sil tabOk 4 rfl (by kernel_rfl) (by kernel_rfl) (by kernel_rfl) (by kernel_rfl) rfl rfl ?_
        simp (disch := first | omega | (simp only [ds] <;> omega) | fail) only [wk, undefM, Nat.reduceLT, Nat.reduceAdd, Nat.reduceMul, Nat.reduceSub, Nat.reduceBEq, Nat.reduceEqDiff, Int.reduceToNat, reduceIte, PreK_some, putM_some, tsV]
        refine VAnyE.plan tabOk [] (by kernel_rfl) (by kernel_rfl) (by kernel_rfl) rfl ?_
        simp (disch := first | omega | (simp only [ds] <;> omega) | fail) only [wk, undefM, Nat.reduceLT, Nat.reduceAdd, Nat.reduceMul, Nat.reduceSub, Nat.reduceBEq, Nat.reduceEqDiff, Int.reduceToNat, reduceIte]
        have hge9 := (hge8.trans hg7).trans hg8
        exact ⟨by simp, hge9⟩
  · have e0 : N - i = 0 := by omega
    rw [e0]
    refine WC.sound tabOk ?_
    simp (disch := first | omega | (simp only [ds] <;> omega) | fail) only [wk, undefM, Nat.reduceLT, Nat.reduceAdd, Nat.reduceMul, Nat.reduceSub, Nat.reduceBEq, Nat.reduceEqDiff, Int.reduceToNat, reduceIte, tsV, cmpFrom]
    exact hge3
/-- pomacelaw04.VersionCompares -/
theorem compares_law (a b : List UInt8) (O : VH) (ha : a.length ≤ maxLen) (hb : b.length ≤ maxLen) : VF Tryd.prog 4 [.str a, .str b] O (Ret fun m O' => m = mb true) := by
  refine VF.ofW (n := 19) (rs := [.tmp 4]) tabOk Tryd.func4 rfl rfl rfl (Nat.le_of_ble_eq_true rfl) ?_
  simp only [argEnv, Nat.zero_add, Nat.reduceAdd]
  simp (disch := first | omega | (simp only [ds] <;> omega) | fail) only [ws, undefM, Nat.reduceLT, Nat.reduceAdd, Nat.reduceMul, Nat.reduceSub, Nat.reduceBEq, Nat.reduceEqDiff, Int.reduceToNat, reduceIte, tsK]
  refine CallW.rt (lawCut_v a _) (by kernel_rfl) rfl rfl ?_
  rintro _ O1 ⟨rfl, rfl⟩
  simp (disch := first | omega | (simp only [ds] <;> omega) | fail) only [ws, undefM, Nat.reduceLT, Nat.reduceAdd, Nat.reduceMul, Nat.reduceSub, Nat.reduceBEq, Nat.reduceEqDiff, Int.reduceToNat, reduceIte, tsK]
  refine CallW.rt (lawCut_v b _) (by kernel_rfl) rfl rfl ?_
  rintro _ O1 ⟨rfl, rfl⟩
  have ha := cut300 a
  have hb := cut300 b
  generalize a.take 300 = a at *
  generalize b.take 300 = b at *
  simp (disch := first | omega | (simp only [ds] <;> omega) | fail) only [ws, undefM, Nat.reduceLT, Nat.reduceAdd, Nat.reduceMul, Nat.reduceSub, Nat.reduceBEq, Nat.reduceEqDiff, Int.reduceToNat, reduceIte, tsK]
  refine CallW.rt (Compare_v a b _ ha hb) (by kernel_rfl) rfl rfl ?_
  rintro _ O2 ⟨rfl, hg2⟩
  simp (disch := first | omega | (simp only [ds] <;> omega) | fail) only [ws, undefM, Nat.reduceLT, Nat.reduceAdd, Nat.reduceMul, Nat.reduceSub, Nat.reduceBEq, Nat.reduceEqDiff, Int.reduceToNat, reduceIte, tsK]
  refine CallW.rt (refCompare_v a b _ ha hb) (by kernel_rfl) rfl rfl ?_
  rintro _ O3 ⟨rfl, hg3⟩
  generalize compareV a b = x at *
  simp (disch := first | omega | (simp only [ds] <;> omega) | fail) only [ws, undefM, Nat.reduceLT, Nat.reduceAdd, Nat.reduceMul, Nat.reduceSub, Nat.reduceBEq, Nat.reduceEqDiff, Int.reduceToNat, reduceIte, tsK]
  refine CallW.rt (lives_v _) (by kernel_rfl) rfl rfl ?_
  rintro _ O5 ⟨rfl, hg5⟩
  simp (disch := first | omega | (simp only [ds] <;> omega) | fail) only [ws, undefM, Nat.reduceLT, Nat.reduceAdd, Nat.reduceMul, Nat.reduceSub, Nat.reduceBEq, Nat.reduceEqDiff, Int.reduceToNat, reduceIte, tsK]
/-- pomacelaw04.VersionParts -/
theorem parts_law (s : List UInt8) (O : VH) (hs : s.length ≤ maxLen) : VF Tryd.prog 3 [.str s] O (Ret fun m O' => m = mb true) := by
  refine VF.ofW (n := 53) (rs := [.tmp 2]) tabOk Tryd.func3 rfl rfl rfl (Nat.le_of_ble_eq_true rfl) ?_
  simp only [argEnv, Nat.zero_add, Nat.reduceAdd]
  simp (disch := first | omega | (simp only [ds] <;> omega) | fail) only [ws, undefM, Nat.reduceLT, Nat.reduceAdd, Nat.reduceMul, Nat.reduceSub, Nat.reduceBEq, Nat.reduceEqDiff, Int.reduceToNat, reduceIte, tsK]
  refine CallW.rt (lawCut_v s _) (by kernel_rfl) rfl rfl ?_
  rintro _ O1 ⟨rfl, rfl⟩
  have hs := cut300 s
  generalize s.take 300 = s at *
  simp (disch := first | omega | (simp only [ds] <;> omega) | fail) only [ws, undefM, Nat.reduceLT, Nat.reduceAdd, Nat.reduceMul, Nat.reduceSub, Nat.reduceBEq, Nat.reduceEqDiff, Int.reduceToNat, reduceIte, tsK]
  refine CallW.rt (Parts_v s _ hs) (by kernel_rfl) rfl rfl ?_
  rintro _ O2 ⟨tk1, rfl, hg2⟩
  simp (disch := first | omega | (simp only [ds] <;> omega) | fail) only [ws, undefM, Nat.reduceLT, Nat.reduceAdd, Nat.reduceMul, Nat.reduceSub, Nat.reduceBEq, Nat.reduceEqDiff, Int.reduceToNat, reduceIte, tsK]
  refine CallW.rt (refParts_v s _ hs) (by kernel_rfl) rfl rfl ?_
  rintro _ O3 ⟨tk2, rfl, hg3⟩
  have hl := partsV_len s
  generalize hL : partsV s = L at *
  simp (disch := first | omega | (simp only [ds] <;> omega) | fail) only [ws, undefM, Nat.reduceLT, Nat.reduceAdd, Nat.reduceMul, Nat.reduceSub, Nat.reduceBEq, Nat.reduceEqDiff, Int.reduceToNat, reduceIte, tsK, tsV]
  refine WC.loopK tabOk [20] [0, 4, 18, 19] (fun i : Nat => [mi i]) (fun i O' => i ≤ L.length) (fun i => L.length - i) (0) rfl rfl ?_ ?_
  · exact Nat.zero_le _
  rintro i O4 hi
  have hlm := pr_len L
  have hlr := fm_len prR_3 L
  by_cases h2 : i < L.length
  · have hat := pr_at L i h2
    have hx0 := fm_get prR_3 L i 0 h2 (by omega)
    have hx1 := fm_get prR_3 L i 1 h2 (by omega)
    have hx2 := fm_get prR_3 L i 2 h2 (by omega)
    generalize L[i] = p at *
    obtain ⟨hy, nb, tx⟩ := p
    simp only [prM, prR, List.getElem?_cons_succ, List.getElem?_cons_zero, Nat.add_zero] at hat hx0 hx1 hx2
    simp (disch := first | omega | (simp only [ds] <;> omega) | fail) only [ws, undefM, Nat.reduceLT, Nat.reduceAdd, Nat.reduceMul, Nat.reduceSub, Nat.reduceBEq, Nat.reduceEqDiff, Int.reduceToNat, reduceIte, tsK, tsV, hat]
    refine WC.reads tabOk (by kernel_rfl) (by kernel_rfl) (by kernel_rfl) ?_
    simp (disch := first | omega | (simp only [ds] <;> omega) | fail) only [ws, undefM, Nat.reduceLT, Nat.reduceAdd, Nat.reduceMul, Nat.reduceSub, Nat.reduceBEq, Nat.reduceEqDiff, Int.reduceToNat, reduceIte, tsK, tsV, hx0, hx1, hx2]
    refine VL.eqS tabOk (bb := false) (b := (hy == hy) && ((nb == !!nb) && ((tx == tx) && true))) (by simp) (by simp) (.inr ⟨rfl, by simp⟩) (by kernel_rfl) (by kernel_rfl) rfl rfl rfl rfl ?_
    simp (disch := first | omega | (simp only [ds] <;> omega) | fail) only [ws, undefM, Nat.reduceLT, Nat.reduceAdd, Nat.reduceMul, Nat.reduceSub, Nat.reduceBEq, Nat.reduceEqDiff, Int.reduceToNat, reduceIte, tsK, tsV]
    refine RoundQ.next (i + 1) rfl rfl ?_ (by first | omega | (dsimp only; omega))
    show i + 1 ≤ L.length
    omega
  · obtain rfl : i = L.length := by omega
    simp (disch := first | omega | (simp only [ds] <;> omega) | fail) only [ws, undefM, Nat.reduceLT, Nat.reduceAdd, Nat.reduceMul, Nat.reduceSub, Nat.reduceBEq, Nat.reduceEqDiff, Int.reduceToNat, reduceIte, tsK, tsV]
    refine CallW.rt (Canon_v s _ hs) (by kernel_rfl) rfl rfl ?_
    rintro _ O5 ⟨rfl, hg5⟩
    simp (disch := first | omega | (simp only [ds] <;> omega) | fail) only [ws, undefM, Nat.reduceLT, Nat.reduceAdd, Nat.reduceMul, Nat.reduceSub, Nat.reduceBEq, Nat.reduceEqDiff, Int.reduceToNat, reduceIte, tsK]
    refine CallW.rt (refCanon_v s _ hs) (by kernel_rfl) rfl rfl ?_
    rintro _ O6 ⟨rfl, hg6⟩
    simp (disch := first | omega | (simp only [ds] <;> omega) | fail) only [ws, undefM, Nat.reduceLT, Nat.reduceAdd, Nat.reduceMul, Nat.reduceSub, Nat.reduceBEq, Nat.reduceEqDiff, Int.reduceToNat, reduceIte, tsK, beq_self_eq_true]
    refine CallW.rt (lives_v _) (by kernel_rfl) rfl rfl ?_
    rintro _ O7 ⟨rfl, hg7⟩
    simp (disch := first | omega | (simp only [ds] <;> omega) | fail) only [ws, undefM, Nat.reduceLT, Nat.reduceAdd, Nat.reduceMul, Nat.reduceSub, Nat.reduceBEq, Nat.reduceEqDiff, Int.reduceToNat, reduceIte, tsK]
end Go.Proofs.YtjbpnhmjnkolbaaDoor
