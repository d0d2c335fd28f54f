/-
  Texts VerW SrtA SrtB SrtC SrtD SrtE SrtF SrtG, one behind the other.
-/
import Derived.Test.YtjbpnhmjnkolbaaDoorMK
/-
  ref.Canon, ref.rank, ref.Compare, walked; the laws VersionParts and VersionCompares.
-/
set_option linter.unusedVariables false
set_option linter.unusedSimpArgs false
namespace Go.Proofs.YtjbpnhmjnkolbaaDoor
open Go.RowKit
set_option maxRecDepth 10000

theorem prR_3 : ∀ x, (prR x).length = 3 := fun _ => rfl
theorem prR_at (L : List Prt) (i : Nat) (h : i < L.length) : ((L.flatMap prR).drop (i * 3)).take 3 = prR L[i] := by
  rw [fm_drop prR_3, List.drop_eq_getElem_cons h]; rfl
/-- ref.Canon -/
theorem refCanon_v (s : List UInt8) (O : VH) (hs : s.length ≤ 10000) : VF Tryd.prog 16 [.str s] O (Ret fun m O' => m = .str (canonV s) ∧ O.Ge O') := by
  have hl := partsV_len s
  have ht := partsV_text s
  unfold canonV
  refine VF.ofW (n := ⟨47, 0⟩) (rs := [.tmp 2]) tabOk Tryd.func16 rfl rfl rfl (Nat.le_of_ble_eq_true rfl) ?_
  simp only [argEnv, Nat.zero_add, Nat.reduceAdd]
  simp (disch := first | omega | (simp only [ds] <;> omega) | fail) only [wk, undefM, Nat.reduceLT, Nat.reduceAdd, Nat.reduceMul, Nat.reduceSub, Nat.reduceBEq, Nat.reduceEqDiff, Int.reduceToNat, reduceIte, tsV]
  refine CallW.rt (refParts_v s _ hs) (by kernel_rfl) rfl rfl ?_
  rintro _ O1 ⟨tk, rfl, hg1⟩
  generalize partsV s = L at *
  have hcl := canonN_len L _ ht
  simp (disch := first | omega | (simp only [ds] <;> omega) | fail) only [wk, undefM, Nat.reduceLT, Nat.reduceAdd, Nat.reduceMul, Nat.reduceSub, Nat.reduceBEq, Nat.reduceEqDiff, Int.reduceToNat, reduceIte, tsV]
  refine WC.loopK tabOk [3, 9] [7, 8] (fun j : Nat => [.str (canonN L j), mi j]) (fun j O' => j ≤ L.length ∧ O.Ge O') (fun j => L.length - j) (0) rfl rfl ?_ ?_
  · exact ⟨Nat.zero_le _, hg1⟩
  rintro j O2 ⟨hj, hge2⟩
  have hcj := hcl j
  have hj2 : j * (s.length + 9 + 2) ≤ 10001 * 10011 := Nat.mul_le_mul (by omega) (by omega)
  by_cases h2 : j < L.length
  · have hat := prR_at L j h2
    have hfl := fm_len prR_3 L
    have hg : L.getD j nullP = L[j] := by rw [List.getD_eq_getElem?_getD, List.getElem?_eq_getElem h2]; rfl
    have htx := ht L[j] (List.getElem_mem h2)
    have hnx : canonN L (j + 1) = canonN L j ++ pieceC j L[j] := by rw [canonN, hg]
    have hge3 := fun x => (hge2.push (.cells [.v (.bool false), .v (.bool false), .str []])).set hge2.next x
    rcases hpc : L[j] with ⟨hy, nb, tx⟩
    rw [hpc] at hat hnx htx
    simp only [prR] at hat
    dsimp only at htx
    by_cases hj0 : j = 0
    · cases nb <;> cases he : tx == []
      all_goals
        simp (disch := first | omega | (simp only [ds] <;> omega) | fail) only [wk, undefM, Nat.reduceLT, Nat.reduceAdd, Nat.reduceMul, Nat.reduceSub, Nat.reduceBEq, Nat.reduceEqDiff, Int.reduceToNat, reduceIte, tsV, hat, he]
        refine RoundQ.next (j + 1) rfl ?_ ⟨by omega, hge3 _⟩ (by omega)
        rw [hnx]
        simp [pieceC, hj0, he]
        rfl
    · cases hy <;> cases nb <;> cases he : tx == []
      all_goals
        simp (disch := first | omega | (simp only [ds] <;> omega) | fail) only [wk, undefM, Nat.reduceLT, Nat.reduceAdd, Nat.reduceMul, Nat.reduceSub, Nat.reduceBEq, Nat.reduceEqDiff, Int.reduceToNat, reduceIte, tsV, hat, he]
        refine RoundQ.next (j + 1) rfl ?_ ⟨by omega, hge3 _⟩ (by omega)
        rw [hnx]
        simp [pieceC, hj0, he]
        rfl
  · obtain rfl : j = L.length := by omega
    simp (disch := first | omega | (simp only [ds] <;> omega) | fail) only [wk, undefM, Nat.reduceLT, Nat.reduceAdd, Nat.reduceMul, Nat.reduceSub, Nat.reduceBEq, Nat.reduceEqDiff, Int.reduceToNat, reduceIte, tsV]
    exact hge2
/-- ref.rank -/
def rankQ (q : Prt) : Int := rankR (!q.2.1, q.1, q.2.2)
theorem refRank_v (q : Prt) (O : VH) : VF Tryd.prog 39 [.agg (prR q)] O (Ret fun m O' => m = mi (rankQ q) ∧ O.Ge O') := rRank_v (!q.2.1, q.1, q.2.2) O
theorem idx_swap (t : List UInt8) (h1 : (t == []) = false) (h2 : (t == [103, 97]) = false) : wordsR.findIdx? (fun w => t == w) = wordsV.findIdx? (t == ·) := by
  simp only [wordsR, wordsV, List.findIdx?_cons, h1, h2]
theorem rankQ_eq (q : Prt) (h : q.2.1 = false → q.2.2 ≠ [103, 97]) : rankQ q = rankV q := by
  obtain ⟨hy, nb, t⟩ := q
  unfold rankQ rankR rankV
  dsimp only at h ⊢
  cases nb
  · cases he : t == []
    · have h2 : (t == [103, 97]) = false := by simpa using h rfl
      simp only [Bool.not_false, if_true, Bool.false_eq_true, if_false, idx_swap t he h2]
      all_goals (generalize wordsV.findIdx? _ = z; cases z <;> rfl)
    · have : t = [] := by simpa using he
      subst this
      rfl
  · cases he : t == [] <;> simp
theorem parts_noga (s : List UInt8) (i : Nat) : ((partsV s).getD i nullP).2.1 = false → ((partsV s).getD i nullP).2.2 ≠ [103, 97] := by
  rw [List.getD_eq_getElem?_getD]
  cases hi : (partsV s)[i]? with
  | none => intro h; cases h
  | some p =>
    intro h1 h2
    have hk := (partsV_ok s p (List.mem_of_getElem? hi)).2.2
    simp only [Option.getD_some] at h1 h2
    rw [if_neg (by rw [h1]; simp), h2] at hk
    exact absurd hk.2 (by decide)
theorem less_cmp : ∀ a b : List UInt8, cmpB a b = if a = b then 0 else if Op.bytesLess a b then -1 else 1
  | [], [] => rfl
  | [], b :: v => by rw [cmpB_nc]; simp [Op.bytesLess]
  | a :: u, [] => by rw [cmpB_cn]; simp [Op.bytesLess]
  | a :: u, b :: v => by
    rw [cmpB_cons]
    by_cases h1 : a.toNat < b.toNat
    · have : a ≠ b := fun e => by rw [e] at h1; omega
      have h2 : a < b := h1
      simp [h1, this, Op.bytesLess, h2]
    · by_cases h2 : b.toNat < a.toNat
      · have : a ≠ b := fun e => by rw [e] at h2; omega
        have h3 : ¬ a < b := h1
        simp [h1, h2, this, Op.bytesLess, h3]
      · have e : a = b := UInt8.toNat_inj.1 (by omega)
        subst e
        have h3 : ¬ a < a := h1
        rw [if_neg h1, if_neg h2, less_cmp u v]
        simp [Op.bytesLess, h3]
/-- ref.Compare -/
theorem refCompare_v (a b : List UInt8) (O : VH) (ha : a.length ≤ 10000) (hb : b.length ≤ 10000) : VF Tryd.prog 19 [.str a, .str b] O (Ret fun m O' => m = mi (compareV a b) ∧ O.Ge O') := by
  have la := partsV_len a
  have lb := partsV_len b
  have ta := fun i => getD_text (partsV_text a) i
  have tb := fun i => getD_text (partsV_text b) i
  have ga := fun i => rankQ_eq _ (parts_noga a i)
  have gb := fun i => rankQ_eq _ (parts_noga b i)
  unfold compareV
  refine VF.ofV (n := ⟨88, 0⟩) (rs := [.tmp 4]) tabOk Tryd.func19 rfl rfl rfl (Nat.le_of_ble_eq_true rfl) ?_
  simp only [argEnv, Nat.zero_add, Nat.reduceAdd]
  refine VC.seqV tabOk ?_
  simp (disch := first | omega | (simp only [ds] <;> omega) | fail) only [wk, undefM, Nat.reduceLT, Nat.reduceAdd, Nat.reduceMul, Nat.reduceSub, Nat.reduceBEq, Nat.reduceEqDiff, Int.reduceToNat, reduceIte, tsV]
  refine VC.seqV tabOk ?_
  simp (disch := first | omega | (simp only [ds] <;> omega) | fail) only [wk, undefM, Nat.reduceLT, Nat.reduceAdd, Nat.reduceMul, Nat.reduceSub, Nat.reduceBEq, Nat.reduceEqDiff, Int.reduceToNat, reduceIte, tsV]
  refine CallW.rt (refParts_v a _ ha) (by kernel_rfl) rfl rfl ?_
  rintro _ O1 ⟨tk1, rfl, hg1⟩
  simp (disch := first | omega | (simp only [ds] <;> omega) | fail) only [wk, undefM, Nat.reduceLT, Nat.reduceAdd, Nat.reduceMul, Nat.reduceSub, Nat.reduceBEq, Nat.reduceEqDiff, Int.reduceToNat, reduceIte, tsV]
  refine CallW.rt (refParts_v b _ hb) (by kernel_rfl) rfl rfl ?_
  rintro _ O2 ⟨tk2, rfl, hg2⟩
  simp (disch := first | omega | (simp only [ds] <;> omega) | fail) only [wk, undefM, Nat.reduceLT, Nat.reduceAdd, Nat.reduceMul, Nat.reduceSub, Nat.reduceBEq, Nat.reduceEqDiff, Int.reduceToNat, reduceIte, tsV]
  have hge := hg1.trans hg2
  generalize partsV a = L at *
  generalize partsV b = M at *
  generalize hN : max L.length M.length = N
  have hfl := fm_len prR_3 L
  have hfm := fm_len prR_3 M
  refine WC.sound tabOk ?_
  simp (disch := first | omega | (simp only [ds] <;> omega) | fail) only [wk, undefM, Nat.reduceLT, Nat.reduceAdd, Nat.reduceMul, Nat.reduceSub, Nat.reduceBEq, Nat.reduceEqDiff, Int.reduceToNat, reduceIte, tsV]
  refine VC.loopV [7] [5, 6] (fun i : Nat => [mi i]) (fun i O' => i ≤ N ∧ O.Ge O' ∧ cmpFrom L M N 0 = cmpFrom L M (N - i) i) (fun i => N - i) (0) rfl rfl ?_ ?_
  · exact ⟨Nat.zero_le _, hge, rfl⟩
  rintro i O3 ⟨hi, hge3, hc⟩
  rw [hc]
  by_cases h2 : i < N
  · have hs : cmpFrom L M (N - i) i = if cmpV (L.getD i nullP) (M.getD i nullP) ≠ 0 then cmpV (L.getD i nullP) (M.getD i nullP) else cmpFrom L M (N - (i + 1)) (i + 1) := by
      rw [show N - i = (N - (i + 1)) + 1 from by omega]; rfl
    rw [hs]
    have hor : i < L.length ∨ i < M.length := by omega
    refine WC.join tabOk [7, 5, 6] (fun _ : Unit => [mi i, .sl L.length (L.flatMap prR) tk1, .sl M.length (M.flatMap prR) tk2]) (fun _ O' => O' = O3) ?_ ?_
    · by_cases hl : i < L.length
      · simp (disch := first | omega | (simp only [ds] <;> omega) | fail) only [wk, undefM, Nat.reduceLT, Nat.reduceAdd, Nat.reduceMul, Nat.reduceSub, Nat.reduceBEq, Nat.reduceEqDiff, Int.reduceToNat, reduceIte, tsV]
        exact JoinQ.mk () rfl rfl
      · simp (disch := first | omega | (simp only [ds] <;> omega) | fail) only [wk, undefM, Nat.reduceLT, Nat.reduceAdd, Nat.reduceMul, Nat.reduceSub, Nat.reduceBEq, Nat.reduceEqDiff, Int.reduceToNat, reduceIte, tsV]
        exact JoinQ.mk () rfl rfl
    rintro ⟨⟩ Oz eO
    rw [eO]; clear eO Oz
    refine VC.seq0 (VC.block' ?_)
    refine VC.seqV tabOk ?_
    simp (disch := first | omega | (simp only [ds] <;> omega) | fail) only [wk, undefM, Nat.reduceLT, Nat.reduceAdd, Nat.reduceMul, Nat.reduceSub, Nat.reduceBEq, Nat.reduceEqDiff, Int.reduceToNat, reduceIte, tsV]
    have hge4 := (((hge3.push (.cells [.v (.bool false), .v (.bool false), .str []])).push (.cells [.v (.bool false), .v (.bool false), .str []])).set hge3.next (.cells [.v (.bool false), .v (.bool false), .str []])).set (Nat.le_succ_of_le hge3.next) (.cells [.v (.bool false), .v (.bool false), .str []])
    refine WC.join tabOk [5, 6, 7, 8, 9] (fun _ : Unit => [.sl L.length (L.flatMap prR) tk1, .sl M.length (M.flatMap prR) tk2, mi i, .ptr O3.next 0, .ptr (O3.next + 1) 0]) (fun _ O' => O.Ge O' ∧ O3.next + 2 ≤ O'.next ∧ O'.hp O3.next = some (.cells (prR (L.getD i nullP))) ∧ O'.hp (O3.next + 1) = some (.cells [.v (.bool false), .v (.bool false), .str []])) ?_ ?_
    · by_cases hl : i < L.length
      · have hat := prR_at L i hl
        have hg : L.getD i nullP = L[i] := by rw [List.getD_eq_getElem?_getD, List.getElem?_eq_getElem hl]; rfl
        rw [hg]
        generalize L[i] = q at *
        obtain ⟨q1, q2, q3⟩ := q
        simp only [prR] at hat
        simp (disch := first | omega | (simp only [ds] <;> omega) | fail) only [wk, undefM, Nat.reduceLT, Nat.reduceAdd, Nat.reduceMul, Nat.reduceSub, Nat.reduceBEq, Nat.reduceEqDiff, Int.reduceToNat, reduceIte, tsV, hat]
        exact JoinQ.mk () rfl ⟨hge4.set hge3.next _, Nat.le_refl _, VH.set_get _ _ _, by rw [VH.set_ne _ _ (by omega), VH.set_get]⟩
      · have hg : L.getD i nullP = nullP := by rw [List.getD_eq_getElem?_getD, List.getElem?_eq_none (by omega)]; rfl
        rw [hg]
        simp (disch := first | omega | (simp only [ds] <;> omega) | fail) only [wk, undefM, Nat.reduceLT, Nat.reduceAdd, Nat.reduceMul, Nat.reduceSub, Nat.reduceBEq, Nat.reduceEqDiff, Int.reduceToNat, reduceIte, tsV]
        exact JoinQ.mk () rfl ⟨hge4, Nat.le_refl _, by rw [VH.set_ne _ _ (by omega), VH.set_get]; rfl, VH.set_get _ _ _⟩
    rintro ⟨⟩ O5 ⟨hge5, hn5, hx5, hy5⟩
    refine WC.join tabOk [5, 6, 7, 8, 9] (fun _ : Unit => [.sl L.length (L.flatMap prR) tk1, .sl M.length (M.flatMap prR) tk2, mi i, .ptr O3.next 0, .ptr (O3.next + 1) 0]) (fun _ O' => O.Ge O' ∧ O3.next + 2 ≤ O'.next ∧ O'.hp O3.next = some (.cells (prR (L.getD i nullP))) ∧ O'.hp (O3.next + 1) = some (.cells (prR (M.getD i nullP)))) ?_ ?_
    · by_cases hm : i < M.length
      · have hat := prR_at M i hm
        have hg : M.getD i nullP = M[i] := by rw [List.getD_eq_getElem?_getD, List.getElem?_eq_getElem hm]; rfl
        rw [hg]
        generalize M[i] = q at *
        obtain ⟨q1, q2, q3⟩ := q
        simp only [prR] at hat
        simp (disch := first | omega | (simp only [ds] <;> omega) | fail) only [wk, undefM, Nat.reduceLT, Nat.reduceAdd, Nat.reduceMul, Nat.reduceSub, Nat.reduceBEq, Nat.reduceEqDiff, Int.reduceToNat, reduceIte, tsV, hat, hy5]
        exact JoinQ.mk () rfl ⟨hge5.set (Nat.le_succ_of_le hge3.next) _, hn5, by rw [VH.set_ne _ _ (by omega)]; exact hx5, VH.set_get _ _ _⟩
      · have hg : M.getD i nullP = nullP := by rw [List.getD_eq_getElem?_getD, List.getElem?_eq_none (by omega)]; rfl
        rw [hg]
        simp (disch := first | omega | (simp only [ds] <;> omega) | fail) only [wk, undefM, Nat.reduceLT, Nat.reduceAdd, Nat.reduceMul, Nat.reduceSub, Nat.reduceBEq, Nat.reduceEqDiff, Int.reduceToNat, reduceIte, tsV]
        exact JoinQ.mk () rfl ⟨hge5, hn5, hx5, hy5⟩
    clear hx5 hy5 hge4 hge5
    rintro ⟨⟩ O6 ⟨hge6, hn6, hx6, hy6⟩
    have tai := ta i
    have tbi := tb i
    have gai := ga i
    have gbi := gb i
    generalize L.getD i nullP = X at *
    generalize M.getD i nullP = Y at *
    have hcv : cmpV X Y = if sgn (rankV X) (rankV Y) ≠ 0 then sgn (rankV X) (rankV Y) else if rankV X = 7 then cmpB X.2.2 Y.2.2 else if rankV X > 7 then (if sgn X.2.2.length Y.2.2.length ≠ 0 then sgn X.2.2.length Y.2.2.length else cmpB X.2.2 Y.2.2) else 0 := rfl
    obtain ⟨hx, nx, tx⟩ := X
    obtain ⟨hy, ny, ty⟩ := Y
    simp only [prR] at hx6 hy6
    dsimp only at tai tbi hcv
    have crx := fun O => refRank_v (hx, nx, tx) O
    have cry := fun O => refRank_v (hy, ny, ty) O
    simp only [gai, gbi, prR, mb_def] at crx cry
    generalize rankV (hx, nx, tx) = r at *
    generalize rankV (hy, ny, ty) = r' at *
    generalize cmpV (hx, nx, tx) (hy, ny, ty) = cv at *
    have hl6 : O3.next < O6.next := by omega
    have hl6' : O3.next + 1 < O6.next := by omega
    refine VC.seqV tabOk ?_
    simp (disch := first | omega | (simp only [ds] <;> omega) | fail) only [wk, undefM, Nat.reduceLT, Nat.reduceAdd, Nat.reduceMul, Nat.reduceSub, Nat.reduceBEq, Nat.reduceEqDiff, Int.reduceToNat, reduceIte]
    refine VC.drawE [] (by kernel_rfl) ?_
    refine VAnyE.ld (m := .agg [.v (.bool !nx), .v (.bool hx), .str tx]) tabOk 0 rfl (by kernel_rfl) (by kernel_rfl) (by kernel_rfl) (by kernel_rfl) rfl rfl rfl ?_ rfl ?_
    · simp (disch := first | omega | (simp only [ds] <;> omega) | fail) only [wk, undefM, Nat.reduceLT, Nat.reduceAdd, Nat.reduceMul, Nat.reduceSub, Nat.reduceBEq, Nat.reduceEqDiff, Int.reduceToNat, reduceIte, tsV, hx6]
    simp only [putM_some]
    refine VAnyE.ld (m := .agg [.v (.bool !ny), .v (.bool hy), .str ty]) tabOk 2 rfl (by kernel_rfl) (by kernel_rfl) (by kernel_rfl) (by kernel_rfl) rfl rfl rfl ?_ rfl ?_
    · simp (disch := first | omega | (simp only [ds] <;> omega) | fail) only [wk, undefM, Nat.reduceLT, Nat.reduceAdd, Nat.reduceMul, Nat.reduceSub, Nat.reduceBEq, Nat.reduceEqDiff, Int.reduceToNat, reduceIte, tsV, hy6]
    simp only [putM_some]
    refine VAnyE.call (i := 1) (by kernel_rfl) rfl rfl rfl rfl (by kernel_rfl) rfl (crx _) ?_
    rintro _ O7 ⟨rfl, hg7⟩
    simp only [putM_some]
    refine ⟨hg7, ?_⟩
    refine VAnyE.call (i := 3) (by kernel_rfl) rfl rfl rfl rfl (by kernel_rfl) rfl (cry _) ?_
    rintro _ O8 ⟨rfl, hg8⟩
    simp only [putM_some]
    refine ⟨hg7.trans hg8, ?_⟩
    refine VAnyE.sil tabOk 4 rfl (by kernel_rfl) (by kernel_rfl) (by kernel_rfl) (by kernel_rfl) rfl rfl ?_
    simp (disch := first | omega | (simp only [ds] <;> omega) | fail) only [wk, undefM, Nat.reduceLT, Nat.reduceAdd, Nat.reduceMul, Nat.reduceSub, Nat.reduceBEq, Nat.reduceEqDiff, Int.reduceToNat, reduceIte, PreK_some, putM_some, tsV]
    refine VAnyE.plan tabOk [] (by kernel_rfl) (by kernel_rfl) (by kernel_rfl) rfl ?_
    simp (disch := first | omega | (simp only [ds] <;> omega) | fail) only [wk, undefM, Nat.reduceLT, Nat.reduceAdd, Nat.reduceMul, Nat.reduceSub, Nat.reduceBEq, Nat.reduceEqDiff, Int.reduceToNat, reduceIte]
    have hge8 := (hge6.trans hg7).trans hg8
    have hg68 := hg7.trans hg8
    have hx8 := (hg68.hp _ hl6).trans hx6
    have hy8 := (hg68.hp _ hl6').trans hy6
    have hn8 := hg68.next
    by_cases e1 : r = r'
    · have hz : sgn r r' = 0 := by rw [e1]; simp [sgn]
      rw [hz] at hcv
      simp only [ne_eq, not_true_eq_false, if_false] at hcv
      clear hx6 hy6 hg7 hge6
      have hge9 := fun O9 (hg9 : O8.Ge O9) => hge8.trans hg9
      by_cases e2 : r < 7
      · have hcv0 : cv = 0 := by rw [hcv, if_neg (by omega), if_neg (by omega)]
        simp (disch := first | omega | (simp only [ds] <;> omega) | fail) only [wk, undefM, Nat.reduceLT, Nat.reduceAdd, Nat.reduceMul, Nat.reduceSub, Nat.reduceBEq, Nat.reduceEqDiff, Int.reduceToNat, reduceIte, tsV]
        refine WC.sound tabOk ?_
        simp (disch := first | omega | (simp only [ds] <;> omega) | fail) only [wk, undefM, Nat.reduceLT, Nat.reduceAdd, Nat.reduceMul, Nat.reduceSub, Nat.reduceBEq, Nat.reduceEqDiff, Int.reduceToNat, reduceIte, tsV, hx8]
        refine CallW.rt (crx _) (by kernel_rfl) rfl rfl ?_
        rintro _ O9 ⟨rfl, hg9⟩
        simp (disch := first | omega | (simp only [ds] <;> omega) | fail) only [wk, undefM, Nat.reduceLT, Nat.reduceAdd, Nat.reduceMul, Nat.reduceSub, Nat.reduceBEq, Nat.reduceEqDiff, Int.reduceToNat, reduceIte, tsV]
        refine WC.sound tabOk ?_
        simp (disch := first | omega | (simp only [ds] <;> omega) | fail) only [wk, undefM, Nat.reduceLT, Nat.reduceAdd, Nat.reduceMul, Nat.reduceSub, Nat.reduceBEq, Nat.reduceEqDiff, Int.reduceToNat, reduceIte, tsV]
        exact RoundQ.next (i + 1) rfl rfl ⟨by omega, hge8.trans hg9, by rw [if_neg (by simp [hcv0])]⟩ (by omega)
      · cases e3 : tx == ty
        · have e3' : tx ≠ ty := by simpa using e3
          have hb1 : cmpB tx ty = if Op.bytesLess tx ty then -1 else 1 := by rw [less_cmp, if_neg e3']
          simp (disch := first | omega | (simp only [ds] <;> omega) | fail) only [wk, undefM, Nat.reduceLT, Nat.reduceAdd, Nat.reduceMul, Nat.reduceSub, Nat.reduceBEq, Nat.reduceEqDiff, Int.reduceToNat, reduceIte, tsV]
          refine WC.sound tabOk ?_
          simp (disch := first | omega | (simp only [ds] <;> omega) | fail) only [wk, undefM, Nat.reduceLT, Nat.reduceAdd, Nat.reduceMul, Nat.reduceSub, Nat.reduceBEq, Nat.reduceEqDiff, Int.reduceToNat, reduceIte, tsV, hx8]
          refine CallW.rt (crx _) (by kernel_rfl) rfl rfl ?_
          rintro _ O9 ⟨rfl, hg9⟩
          have hx9 := (hg9.hp _ (by omega)).trans hx8
          have hy9 := (hg9.hp _ (by omega)).trans hy8
          have hn9 := hg9.next
          simp (disch := first | omega | (simp only [ds] <;> omega) | fail) only [wk, undefM, Nat.reduceLT, Nat.reduceAdd, Nat.reduceMul, Nat.reduceSub, Nat.reduceBEq, Nat.reduceEqDiff, Int.reduceToNat, reduceIte, tsV, hx9, hy9, e3]
          refine CallW.rt (crx _) (by kernel_rfl) rfl rfl ?_
          rintro _ O10 ⟨rfl, hg10⟩
          have hx10 := (hg10.hp _ (by omega)).trans hx9
          have hy10 := (hg10.hp _ (by omega)).trans hy9
          have hge10 := (hge8.trans hg9).trans hg10
          by_cases e4 : r = 7
          · have hcv2 : cv = cmpB tx ty := by rw [hcv, if_pos e4]
            cases e6 : Op.bytesLess tx ty
            · rw [hb1, e6] at hcv2
              simp only [Bool.false_eq_true, if_false] at hcv2
              rw [hcv2]
              simp (disch := first | omega | (simp only [ds] <;> omega) | fail) only [wk, undefM, Nat.reduceLT, Nat.reduceAdd, Nat.reduceMul, Nat.reduceSub, Nat.reduceBEq, Nat.reduceEqDiff, Int.reduceToNat, reduceIte, tsV, hx10, hy10, e6]
              exact ⟨by simp, hge10⟩
            · rw [hb1, e6] at hcv2
              simp only [if_true] at hcv2
              rw [hcv2]
              simp (disch := first | omega | (simp only [ds] <;> omega) | fail) only [wk, undefM, Nat.reduceLT, Nat.reduceAdd, Nat.reduceMul, Nat.reduceSub, Nat.reduceBEq, Nat.reduceEqDiff, Int.reduceToNat, reduceIte, tsV, hx10, hy10, e6]
              exact ⟨by simp, hge10⟩
          · by_cases e5 : tx.length = ty.length
            · have hcv2 : cv = cmpB tx ty := by rw [hcv, if_neg e4, if_pos (by omega), if_neg]; rw [e5]; simp [sgn]
              cases e6 : Op.bytesLess tx ty
              · rw [hb1, e6] at hcv2
                simp only [Bool.false_eq_true, if_false] at hcv2
                rw [hcv2]
                simp (disch := first | omega | (simp only [ds] <;> omega) | fail) only [wk, undefM, Nat.reduceLT, Nat.reduceAdd, Nat.reduceMul, Nat.reduceSub, Nat.reduceBEq, Nat.reduceEqDiff, Int.reduceToNat, reduceIte, tsV, hx10, hy10, e6]
                exact ⟨by simp, hge10⟩
              · rw [hb1, e6] at hcv2
                simp only [if_true] at hcv2
                rw [hcv2]
                simp (disch := first | omega | (simp only [ds] <;> omega) | fail) only [wk, undefM, Nat.reduceLT, Nat.reduceAdd, Nat.reduceMul, Nat.reduceSub, Nat.reduceBEq, Nat.reduceEqDiff, Int.reduceToNat, reduceIte, tsV, hx10, hy10, e6]
                exact ⟨by simp, hge10⟩
            · rw [if_neg e4, if_pos (by omega)] at hcv
              by_cases e6 : tx.length < ty.length
              · have hs1 : sgn tx.length ty.length = -1 := by rw [sgn, if_pos (by omega)]
                rw [hs1, if_pos (by decide)] at hcv
                rw [hcv]
                simp (disch := first | omega | (simp only [ds] <;> omega) | fail) only [wk, undefM, Nat.reduceLT, Nat.reduceAdd, Nat.reduceMul, Nat.reduceSub, Nat.reduceBEq, Nat.reduceEqDiff, Int.reduceToNat, reduceIte, tsV, hx10, hy10]
                exact ⟨by simp, hge10⟩
              · have hs1 : sgn tx.length ty.length = 1 := by rw [sgn, if_neg (by omega), if_pos (by omega)]
                rw [hs1, if_pos (by decide)] at hcv
                rw [hcv]
                simp (disch := first | omega | (simp only [ds] <;> omega) | fail) only [wk, undefM, Nat.reduceLT, Nat.reduceAdd, Nat.reduceMul, Nat.reduceSub, Nat.reduceBEq, Nat.reduceEqDiff, Int.reduceToNat, reduceIte, tsV, hx10, hy10]
                exact ⟨by simp, hge10⟩
        · have e3' : tx = ty := by simpa using e3
          have hcv0 : cv = 0 := by
            rw [hcv, e3', less_cmp, if_pos rfl]
            simp [sgn]
          simp (disch := first | omega | (simp only [ds] <;> omega) | fail) only [wk, undefM, Nat.reduceLT, Nat.reduceAdd, Nat.reduceMul, Nat.reduceSub, Nat.reduceBEq, Nat.reduceEqDiff, Int.reduceToNat, reduceIte, tsV]
          refine WC.sound tabOk ?_
          simp (disch := first | omega | (simp only [ds] <;> omega) | fail) only [wk, undefM, Nat.reduceLT, Nat.reduceAdd, Nat.reduceMul, Nat.reduceSub, Nat.reduceBEq, Nat.reduceEqDiff, Int.reduceToNat, reduceIte, tsV, hx8]
          refine CallW.rt (crx _) (by kernel_rfl) rfl rfl ?_
          rintro _ O9 ⟨rfl, hg9⟩
          have hx9 := (hg9.hp _ (by omega)).trans hx8
          have hy9 := (hg9.hp _ (by omega)).trans hy8
          simp (disch := first | omega | (simp only [ds] <;> omega) | fail) only [wk, undefM, Nat.reduceLT, Nat.reduceAdd, Nat.reduceMul, Nat.reduceSub, Nat.reduceBEq, Nat.reduceEqDiff, Int.reduceToNat, reduceIte, tsV, hx9, hy9, e3]
          refine WC.sound tabOk ?_
          simp (disch := first | omega | (simp only [ds] <;> omega) | fail) only [wk, undefM, Nat.reduceLT, Nat.reduceAdd, Nat.reduceMul, Nat.reduceSub, Nat.reduceBEq, Nat.reduceEqDiff, Int.reduceToNat, reduceIte, tsV]
          exact RoundQ.next (i + 1) rfl rfl ⟨by omega, hge8.trans hg9, by rw [if_neg (by simp [hcv0])]⟩ (by omega)
    · have hb : (r != r') = true := by simpa using e1
      have hlt8 : O3.next < O8.next := by omega
      have hlt8' : O3.next + 1 < O8.next := by omega
      clear hx6 hy6 hg7 hg8 hg68
      have hx6 := hx8
      have hy6 := hy8
      by_cases e2 : r < r'
      · have hz : sgn r r' = -1 := by rw [sgn, if_pos e2]
        rw [hz, if_pos (by decide)] at hcv
        rw [hcv]
        simp (disch := first | omega | (simp only [ds] <;> omega) | fail) only [wk, undefM, Nat.reduceLT, Nat.reduceAdd, Nat.reduceMul, Nat.reduceSub, Nat.reduceBEq, Nat.reduceEqDiff, Int.reduceToNat, reduceIte, tsV, hb]
        refine VC.drawE [] (by kernel_rfl) ?_
        refine VAnyE.ld (m := .agg [.v (.bool !nx), .v (.bool hx), .str tx]) tabOk 0 rfl (by kernel_rfl) (by kernel_rfl) (by kernel_rfl) (by kernel_rfl) rfl rfl rfl ?_ rfl ?_
        · simp (disch := first | omega | (simp only [ds] <;> omega) | fail) only [wk, undefM, Nat.reduceLT, Nat.reduceAdd, Nat.reduceMul, Nat.reduceSub, Nat.reduceBEq, Nat.reduceEqDiff, Int.reduceToNat, reduceIte, tsV, hx6]
        simp only [putM_some]
        refine VAnyE.ld (m := .agg [.v (.bool !ny), .v (.bool hy), .str ty]) tabOk 2 rfl (by kernel_rfl) (by kernel_rfl) (by kernel_rfl) (by kernel_rfl) rfl rfl rfl ?_ rfl ?_
        · simp (disch := first | omega | (simp only [ds] <;> omega) | fail) only [wk, undefM, Nat.reduceLT, Nat.reduceAdd, Nat.reduceMul, Nat.reduceSub, Nat.reduceBEq, Nat.reduceEqDiff, Int.reduceToNat, reduceIte, tsV, hy6]
        simp only [putM_some]
        refine VAnyE.call (i := 1) (by kernel_rfl) rfl rfl rfl rfl (by kernel_rfl) rfl (crx _) ?_
        rintro _ O7 ⟨rfl, hg7⟩
        simp only [putM_some]
        refine ⟨hg7, ?_⟩
        refine VAnyE.call (i := 3) (by kernel_rfl) rfl rfl rfl rfl (by kernel_rfl) rfl (cry _) ?_
        rintro _ O8 ⟨rfl, hg8⟩
        simp only [putM_some]
        refine ⟨hg7.trans hg8, ?_⟩
        refine VAnyE.sil tabOk 4 rfl (by kernel_rfl) (by kernel_rfl) (by kernel_rfl) (by kernel_rfl) rfl rfl ?_
        simp (disch := first | omega | (simp only [ds] <;> omega) | fail) only [wk, undefM, Nat.reduceLT, Nat.reduceAdd, Nat.reduceMul, Nat.reduceSub, Nat.reduceBEq, Nat.reduceEqDiff, Int.reduceToNat, reduceIte, PreK_some, putM_some, tsV]
        refine VAnyE.plan tabOk [] (by kernel_rfl) (by kernel_rfl) (by kernel_rfl) rfl ?_
        simp (disch := first | omega | (simp only [ds] <;> omega) | fail) only [wk, undefM, Nat.reduceLT, Nat.reduceAdd, Nat.reduceMul, Nat.reduceSub, Nat.reduceBEq, Nat.reduceEqDiff, Int.reduceToNat, reduceIte]
        have hge9 := (hge8.trans hg7).trans hg8
        exact ⟨by simp, hge9⟩
      · have hz : sgn r r' = 1 := by rw [sgn, if_neg e2, if_pos (by omega)]
        rw [hz, if_pos (by decide)] at hcv
        rw [hcv]
        simp (disch := first | omega | (simp only [ds] <;> omega) | fail) only [wk, undefM, Nat.reduceLT, Nat.reduceAdd, Nat.reduceMul, Nat.reduceSub, Nat.reduceBEq, Nat.reduceEqDiff, Int.reduceToNat, reduceIte, tsV, hb]
        refine VC.drawE [] (by kernel_rfl) ?_
        refine VAnyE.ld (m := .agg [.v (.bool !nx), .v (.bool hx), .str tx]) tabOk 0 rfl (by kernel_rfl) (by kernel_rfl) (by kernel_rfl) (by kernel_rfl) rfl rfl rfl ?_ rfl ?_
        · simp (disch := first | omega | (simp only [ds] <;> omega) | fail) only [wk, undefM, Nat.reduceLT, Nat.reduceAdd, Nat.reduceMul, Nat.reduceSub, Nat.reduceBEq, Nat.reduceEqDiff, Int.reduceToNat, reduceIte, tsV, hx6]
        simp only [putM_some]
        refine VAnyE.ld (m := .agg [.v (.bool !ny), .v (.bool hy), .str ty]) tabOk 2 rfl (by kernel_rfl) (by kernel_rfl) (by kernel_rfl) (by kernel_rfl) rfl rfl rfl ?_ rfl ?_
        · simp (disch := first | omega | (simp only [ds] <;> omega) | fail) only [wk, undefM, Nat.reduceLT, Nat.reduceAdd, Nat.reduceMul, Nat.reduceSub, Nat.reduceBEq, Nat.reduceEqDiff, Int.reduceToNat, reduceIte, tsV, hy6]
        simp only [putM_some]
        refine VAnyE.call (i := 1) (by kernel_rfl) rfl rfl rfl rfl (by kernel_rfl) rfl (crx _) ?_
        rintro _ O7 ⟨rfl, hg7⟩
        simp only [putM_some]
        refine ⟨hg7, ?_⟩
        refine VAnyE.call (i := 3) (by kernel_rfl) rfl rfl rfl rfl (by kernel_rfl) rfl (cry _) ?_
        rintro _ O8 ⟨rfl, hg8⟩
        simp only [putM_some]
        refine ⟨hg7.trans hg8, ?_⟩
        refine VAnyE.sil tabOk 4 rfl (by kernel_rfl) (by kernel_rfl) (by kernel_rfl) (by kernel_rfl) rfl rfl ?_
        simp (disch := first | omega | (simp only [ds] <;> omega) | fail) only [wk, undefM, Nat.reduceLT, Nat.reduceAdd, Nat.reduceMul, Nat.reduceSub, Nat.reduceBEq, Nat.reduceEqDiff, Int.reduceToNat, reduceIte, PreK_some, putM_some, tsV]
        refine VAnyE.plan tabOk [] (by kernel_rfl) (by kernel_rfl) (by kernel_rfl) rfl ?_
        simp (disch := first | omega | (simp only [ds] <;> omega) | fail) only [wk, undefM, Nat.reduceLT, Nat.reduceAdd, Nat.reduceMul, Nat.reduceSub, Nat.reduceBEq, Nat.reduceEqDiff, Int.reduceToNat, reduceIte]
        have hge9 := (hge8.trans hg7).trans hg8
        exact ⟨by simp, hge9⟩
  · have e0 : N - i = 0 := by omega
    rw [e0]
    refine WC.sound tabOk ?_
    simp (disch := first | omega | (simp only [ds] <;> omega) | fail) only [wk, undefM, Nat.reduceLT, Nat.reduceAdd, Nat.reduceMul, Nat.reduceSub, Nat.reduceBEq, Nat.reduceEqDiff, Int.reduceToNat, reduceIte, tsV, cmpFrom]
    exact hge3
/-- pomacelaw04.VersionCompares -/
theorem compares_law (a b : List UInt8) (O : VH) (ha : a.length ≤ maxLen) (hb : b.length ≤ maxLen) : VF Tryd.prog 4 [.str a, .str b] O (Ret fun m O' => m = mb true) := by
  refine VF.ofW (n := ⟨19, 0⟩) (rs := [.tmp 4]) tabOk Tryd.func4 rfl rfl rfl (Nat.le_of_ble_eq_true rfl) ?_
  simp only [argEnv, Nat.zero_add, Nat.reduceAdd]
  simp (disch := first | omega | (simp only [ds] <;> omega) | fail) only [ws, undefM, Nat.reduceLT, Nat.reduceAdd, Nat.reduceMul, Nat.reduceSub, Nat.reduceBEq, Nat.reduceEqDiff, Int.reduceToNat, reduceIte, tsK]
  refine CallW.rt (lawCut_v a _) (by kernel_rfl) rfl rfl ?_
  rintro _ O1 ⟨rfl, rfl⟩
  simp (disch := first | omega | (simp only [ds] <;> omega) | fail) only [ws, undefM, Nat.reduceLT, Nat.reduceAdd, Nat.reduceMul, Nat.reduceSub, Nat.reduceBEq, Nat.reduceEqDiff, Int.reduceToNat, reduceIte, tsK]
  refine CallW.rt (lawCut_v b _) (by kernel_rfl) rfl rfl ?_
  rintro _ O1 ⟨rfl, rfl⟩
  have ha := cut300 a
  have hb := cut300 b
  generalize a.take 300 = a at *
  generalize b.take 300 = b at *
  simp (disch := first | omega | (simp only [ds] <;> omega) | fail) only [ws, undefM, Nat.reduceLT, Nat.reduceAdd, Nat.reduceMul, Nat.reduceSub, Nat.reduceBEq, Nat.reduceEqDiff, Int.reduceToNat, reduceIte, tsK]
  refine CallW.rt (Compare_v a b _ ha hb) (by kernel_rfl) rfl rfl ?_
  rintro _ O2 ⟨rfl, hg2⟩
  simp (disch := first | omega | (simp only [ds] <;> omega) | fail) only [ws, undefM, Nat.reduceLT, Nat.reduceAdd, Nat.reduceMul, Nat.reduceSub, Nat.reduceBEq, Nat.reduceEqDiff, Int.reduceToNat, reduceIte, tsK]
  refine CallW.rt (refCompare_v a b _ ha hb) (by kernel_rfl) rfl rfl ?_
  rintro _ O3 ⟨rfl, hg3⟩
  generalize compareV a b = x at *
  simp (disch := first | omega | (simp only [ds] <;> omega) | fail) only [ws, undefM, Nat.reduceLT, Nat.reduceAdd, Nat.reduceMul, Nat.reduceSub, Nat.reduceBEq, Nat.reduceEqDiff, Int.reduceToNat, reduceIte, tsK]
  refine CallW.rt (lives_v _) (by kernel_rfl) rfl rfl ?_
  rintro _ O5 ⟨rfl, hg5⟩
  simp (disch := first | omega | (simp only [ds] <;> omega) | fail) only [ws, undefM, Nat.reduceLT, Nat.reduceAdd, Nat.reduceMul, Nat.reduceSub, Nat.reduceBEq, Nat.reduceEqDiff, Int.reduceToNat, reduceIte, tsK]
/-- pomacelaw04.VersionParts -/
theorem parts_law (s : List UInt8) (O : VH) (hs : s.length ≤ maxLen) : VF Tryd.prog 3 [.str s] O (Ret fun m O' => m = mb true) := by
  refine VF.ofW (n := ⟨53, 0⟩) (rs := [.tmp 2]) tabOk Tryd.func3 rfl rfl rfl (Nat.le_of_ble_eq_true rfl) ?_
  simp only [argEnv, Nat.zero_add, Nat.reduceAdd]
  simp (disch := first | omega | (simp only [ds] <;> omega) | fail) only [ws, undefM, Nat.reduceLT, Nat.reduceAdd, Nat.reduceMul, Nat.reduceSub, Nat.reduceBEq, Nat.reduceEqDiff, Int.reduceToNat, reduceIte, tsK]
  refine CallW.rt (lawCut_v s _) (by kernel_rfl) rfl rfl ?_
  rintro _ O1 ⟨rfl, rfl⟩
  have hs := cut300 s
  generalize s.take 300 = s at *
  simp (disch := first | omega | (simp only [ds] <;> omega) | fail) only [ws, undefM, Nat.reduceLT, Nat.reduceAdd, Nat.reduceMul, Nat.reduceSub, Nat.reduceBEq, Nat.reduceEqDiff, Int.reduceToNat, reduceIte, tsK]
  refine CallW.rt (Parts_v s _ hs) (by kernel_rfl) rfl rfl ?_
  rintro _ O2 ⟨tk1, rfl, hg2⟩
  simp (disch := first | omega | (simp only [ds] <;> omega) | fail) only [ws, undefM, Nat.reduceLT, Nat.reduceAdd, Nat.reduceMul, Nat.reduceSub, Nat.reduceBEq, Nat.reduceEqDiff, Int.reduceToNat, reduceIte, tsK]
  refine CallW.rt (refParts_v s _ hs) (by kernel_rfl) rfl rfl ?_
  rintro _ O3 ⟨tk2, rfl, hg3⟩
  have hl := partsV_len s
  generalize hL : partsV s = L at *
  simp (disch := first | omega | (simp only [ds] <;> omega) | fail) only [ws, undefM, Nat.reduceLT, Nat.reduceAdd, Nat.reduceMul, Nat.reduceSub, Nat.reduceBEq, Nat.reduceEqDiff, Int.reduceToNat, reduceIte, tsK, tsV]
  refine WC.loopK tabOk [20] [0, 4, 18, 19] (fun i : Nat => [mi i]) (fun i O' => i ≤ L.length) (fun i => L.length - i) (0) rfl rfl ?_ ?_
  · exact Nat.zero_le _
  rintro i O4 hi
  have hlm := pr_len L
  have hlr := fm_len prR_3 L
  by_cases h2 : i < L.length
  · have hat := pr_at L i h2
    have hx0 := fm_get prR_3 L i 0 h2 (by omega)
    have hx1 := fm_get prR_3 L i 1 h2 (by omega)
    have hx2 := fm_get prR_3 L i 2 h2 (by omega)
    generalize L[i] = p at *
    obtain ⟨hy, nb, tx⟩ := p
    simp only [prM, prR, List.getElem?_cons_succ, List.getElem?_cons_zero, Nat.add_zero] at hat hx0 hx1 hx2
    simp (disch := first | omega | (simp only [ds] <;> omega) | fail) only [ws, undefM, Nat.reduceLT, Nat.reduceAdd, Nat.reduceMul, Nat.reduceSub, Nat.reduceBEq, Nat.reduceEqDiff, Int.reduceToNat, reduceIte, tsK, tsV, hat]
    refine WC.reads tabOk (by kernel_rfl) (by kernel_rfl) (by kernel_rfl) ?_
    simp (disch := first | omega | (simp only [ds] <;> omega) | fail) only [ws, undefM, Nat.reduceLT, Nat.reduceAdd, Nat.reduceMul, Nat.reduceSub, Nat.reduceBEq, Nat.reduceEqDiff, Int.reduceToNat, reduceIte, tsK, tsV, hx0, hx1, hx2]
    refine VL.eqS tabOk (bb := false) (b := (hy == hy) && ((nb == !!nb) && ((tx == tx) && true))) (by simp) (by simp) (.inr ⟨rfl, by simp⟩) (by kernel_rfl) (by kernel_rfl) rfl rfl rfl rfl ?_
    simp (disch := first | omega | (simp only [ds] <;> omega) | fail) only [ws, undefM, Nat.reduceLT, Nat.reduceAdd, Nat.reduceMul, Nat.reduceSub, Nat.reduceBEq, Nat.reduceEqDiff, Int.reduceToNat, reduceIte, tsK, tsV]
    refine RoundQ.next (i + 1) rfl rfl ?_ (by first | omega | (dsimp only; omega))
    show i + 1 ≤ L.length
    omega
  · obtain rfl : i = L.length := by omega
    simp (disch := first | omega | (simp only [ds] <;> omega) | fail) only [ws, undefM, Nat.reduceLT, Nat.reduceAdd, Nat.reduceMul, Nat.reduceSub, Nat.reduceBEq, Nat.reduceEqDiff, Int.reduceToNat, reduceIte, tsK, tsV]
    refine CallW.rt (Canon_v s _ hs) (by kernel_rfl) rfl rfl ?_
    rintro _ O5 ⟨rfl, hg5⟩
    simp (disch := first | omega | (simp only [ds] <;> omega) | fail) only [ws, undefM, Nat.reduceLT, Nat.reduceAdd, Nat.reduceMul, Nat.reduceSub, Nat.reduceBEq, Nat.reduceEqDiff, Int.reduceToNat, reduceIte, tsK]
    refine CallW.rt (refCanon_v s _ hs) (by kernel_rfl) rfl rfl ?_
    rintro _ O6 ⟨rfl, hg6⟩
    simp (disch := first | omega | (simp only [ds] <;> omega) | fail) only [ws, undefM, Nat.reduceLT, Nat.reduceAdd, Nat.reduceMul, Nat.reduceSub, Nat.reduceBEq, Nat.reduceEqDiff, Int.reduceToNat, reduceIte, tsK, beq_self_eq_true]
    refine CallW.rt (lives_v _) (by kernel_rfl) rfl rfl ?_
    rintro _ O7 ⟨rfl, hg7⟩
    simp (disch := first | omega | (simp only [ds] <;> omega) | fail) only [ws, undefM, Nat.reduceLT, Nat.reduceAdd, Nat.reduceMul, Nat.reduceSub, Nat.reduceBEq, Nat.reduceEqDiff, Int.reduceToNat, reduceIte, tsK]
end Go.Proofs.YtjbpnhmjnkolbaaDoor

/-
  Sorting that keeps the order of what is the same: plain facts.
-/
set_option linter.unusedVariables false
set_option linter.unusedSimpArgs false
namespace Go.Proofs.YtjbpnhmjnkolbaaDoor
open Go.RowKit
set_option maxRecDepth 10000
section
variable {α : Type} {c : α → α → Int} {a b d e l m n : List α}
/-- The same to c as x. -/
def eqv (c : α → α → Int) (x y : α) : Bool := decide (c x y = 0)
/-- Rows that hold the same of each kind in the same order. -/
def St (c : α → α → Int) (l m : List α) : Prop := ∀ x, l.filter (eqv c x) = m.filter (eqv c x)
def Srt (c : α → α → Int) (l : List α) : Prop := l.Pairwise fun x y => c x y ≤ 0
theorem St.refl (l : List α) : St c l l := fun _ => rfl
theorem St.trans (h : St c l m) (k : St c m n) : St c l n := fun x => (h x).trans (k x)
theorem St.symm (h : St c l m) : St c m l := fun x => (h x).symm
theorem St.app (h : St c a b) (k : St c d e) : St c (a ++ d) (b ++ e) := fun x => by rw [List.filter_append, List.filter_append, h x, k x]
theorem St.swap (hc : Cmp c) (h : ∀ x ∈ a, ∀ y ∈ b, c x y ≠ 0) : St c (a ++ b) (b ++ a) := fun x => by
  rw [List.filter_append, List.filter_append]
  by_cases e : a.filter (eqv c x) = []
  · rw [e]; simp
  · have : b.filter (eqv c x) = [] := by
      rw [List.filter_eq_nil_iff]
      intro y hy hxy
      obtain ⟨z, hz⟩ := List.exists_mem_of_ne_nil _ e
      rw [List.mem_filter] at hz
      refine h z hz.1 y hy ?_
      rw [← hc.eq x z y (by simpa [eqv] using hz.2)]
      simpa [eqv] using hxy
    rw [this]; simp
theorem St.mem (hc : Cmp c) (h : St c l m) {x : α} (hx : x ∈ l) : x ∈ m := by
  have : x ∈ l.filter (eqv c x) := List.mem_filter.2 ⟨hx, by simpa [eqv] using hc.refl x⟩
  rw [h x] at this
  exact (List.mem_filter.1 this).1
theorem Cmp.le_tr (hc : Cmp c) {x y z : α} (h : c x y ≤ 0) (k : c y z ≤ 0) : c x z ≤ 0 := by
  rcases hc.rng x y with e | e | e
  · rcases hc.rng y z with f | f | f
    · rw [hc.tr x y z e f]; omega
    · rw [← hc.eqR x y z f, e]; omega
    · omega
  · rw [hc.eq x y z e]; exact k
  · omega
theorem Cmp.lt_le (hc : Cmp c) {x y z : α} (h : c x y < 0) (k : c y z ≤ 0) : c x z < 0 := by
  rcases hc.rng y z with f | f | f
  · rcases hc.rng x y with e | e | e
    · rw [hc.tr x y z e f]; omega
    · omega
    · omega
  · rw [← hc.eqR x y z f]; exact h
  · omega
theorem Cmp.le_lt (hc : Cmp c) {x y z : α} (h : c x y ≤ 0) (k : c y z < 0) : c x z < 0 := by
  rcases hc.rng x y with f | f | f
  · rcases hc.rng y z with e | e | e
    · rw [hc.tr x y z f e]; omega
    · omega
    · omega
  · rw [hc.eq x y z f]; exact k
  · omega
/-- Two sorted rows of the same are one. -/
theorem Srt.one (hc : Cmp c) : ∀ {l m : List α}, Srt c l → Srt c m → St c l m → l = m
  | [], [], _, _, _ => rfl
  | [], y :: m, _, _, h => by have := h.symm.mem hc (x := y) (by simp); cases this
  | x :: l, [], _, _, h => by have := h.mem hc (x := x) (by simp); cases this
  | x :: l, y :: m, hl, hm, h => by
    have h1 : c x y ≤ 0 := by
      rcases List.mem_cons.1 (h.symm.mem hc (x := y) (by simp)) with e | e
      · rw [e, hc.refl]; omega
      · exact (List.pairwise_cons.1 hl).1 y e
    have h2 : c y x ≤ 0 := by
      rcases List.mem_cons.1 (h.mem hc (x := x) (by simp)) with e | e
      · rw [e, hc.refl]; omega
      · exact (List.pairwise_cons.1 hm).1 x e
    have h0 : c x y = 0 := by have := hc.anti x y; omega
    have hx := h x
    rw [List.filter_cons_of_pos (by simpa [eqv] using hc.refl x), List.filter_cons_of_pos (by simpa [eqv] using h0)] at hx
    obtain ⟨rfl, _⟩ := List.cons.inj hx
    rw [Srt.one hc (List.pairwise_cons.1 hl).2 (List.pairwise_cons.1 hm).2 fun z => by
      have := h z
      simp only [List.filter_cons] at this
      split at this
      · exact (List.cons.inj this).2
      · exact this]
/-- Put into a row behind all that are not greater. -/
def insS (c : α → α → Int) (x : α) : List α → List α
  | [] => [x]
  | y :: l => if c x y < 0 then x :: y :: l else y :: insS c x l
theorem insS_mem (c : α → α → Int) (x z : α) : ∀ l, z ∈ insS c x l ↔ z = x ∨ z ∈ l
  | [] => by simp [insS]
  | y :: l => by
    rw [insS]
    split
    · simp
    · rw [List.mem_cons, insS_mem c x z l, List.mem_cons]
      constructor
      · rintro (h | h | h) <;> simp [h]
      · rintro (h | h | h) <;> simp [h]
theorem insS_srt (hc : Cmp c) (x : α) : ∀ {l}, Srt c l → Srt c (insS c x l)
  | [], _ => List.pairwise_singleton _ _
  | y :: l, h => by
    obtain ⟨h1, h2⟩ := List.pairwise_cons.1 h
    rw [insS]
    split
    · rename_i hlt
      exact List.pairwise_cons.2 ⟨fun z hz => (List.mem_cons.1 hz).elim (fun e => by rw [e]; omega) fun hz => by have := hc.lt_le hlt (h1 z hz); omega, h⟩
    · rename_i hge
      refine List.pairwise_cons.2 ⟨fun z hz => ?_, insS_srt hc x h2⟩
      rcases (insS_mem c x z l).1 hz with rfl | hz
      · have := hc.anti y z; omega
      · exact h1 z hz
theorem insS_st (hc : Cmp c) (x : α) : ∀ {l}, Srt c l → St c (l ++ [x]) (insS c x l)
  | [], _ => St.refl _
  | y :: l, h => by
    obtain ⟨h1, h2⟩ := List.pairwise_cons.1 h
    rw [insS]
    split
    · rename_i hlt
      refine St.swap (a := y :: l) (b := [x]) hc fun z hz w hw => ?_
      obtain rfl := List.mem_singleton.1 hw
      have hzw : c w z < 0 := by
        rcases List.mem_cons.1 hz with rfl | hz
        · exact hlt
        · exact hc.lt_le hlt (h1 z hz)
      have := hc.anti w z; omega
    · exact St.app (a := [y]) (b := [y]) (St.refl _) (insS_st hc x h2)
def sortS (c : α → α → Int) (l : List α) : List α := l.foldl (fun s x => insS c x s) []
theorem sort_snoc (l : List α) (x : α) : sortS c (l ++ [x]) = insS c x (sortS c l) := by
  unfold sortS; rw [List.foldl_append]; rfl
theorem sort_both (hc : Cmp c) (l : List α) : Srt c (sortS c l) ∧ St c l (sortS c l) := by
  rcases List.eq_nil_or_concat l with rfl | ⟨r, x, rfl⟩
  · exact ⟨List.Pairwise.nil, St.refl _⟩
  · have ih := sort_both hc r
    rw [List.concat_eq_append, sort_snoc]
    exact ⟨insS_srt hc x ih.1, (ih.2.app (St.refl [x])).trans (insS_st hc x ih.1)⟩
termination_by l.length
decreasing_by subst_vars; simp
theorem sort_is (hc : Cmp c) (h : Srt c m) (k : St c l m) : sortS c l = m := Srt.one hc (sort_both hc l).1 h ((sort_both hc l).2.symm.trans k)
theorem sort_self (hc : Cmp c) (h : Srt c m) : sortS c m = m := sort_is hc h (St.refl _)
theorem insS_len (c : α → α → Int) (x : α) : ∀ l, (insS c x l).length = l.length + 1
  | [] => rfl
  | y :: l => by rw [insS]; split; · rfl
                 · simp [insS_len c x l]
theorem sort_len (l : List α) : (sortS c l).length = l.length := by
  rcases List.eq_nil_or_concat l with rfl | ⟨r, x, rfl⟩
  · rfl
  · have ih := sort_len r
    rw [List.concat_eq_append, sort_snoc, insS_len, ih]; simp
termination_by l.length
decreasing_by subst_vars; simp
theorem sort_mem (hc : Cmp c) {x : α} : x ∈ sortS c l ↔ x ∈ l := ⟨fun h => (sort_both hc l).2.symm.mem hc h, fun h => (sort_both hc l).2.mem hc h⟩
theorem sort_st (hc : Cmp c) (h : St c l m) : sortS c l = sortS c m := sort_is hc (sort_both hc m).1 (h.trans (sort_both hc m).2)
/-- Two sorted rows, turned at their middles. -/
theorem sort_turn (hc : Cmp c) {A1 A2 B1 B2 : List α} (hA : Srt c (A1 ++ A2)) (hB : Srt c (B1 ++ B2)) (h1 : ∀ x ∈ A1, ∀ y ∈ B2, c x y ≤ 0) (h2 : ∀ x ∈ B1, ∀ y ∈ A2, c x y < 0) : sortS c ((A1 ++ A2) ++ (B1 ++ B2)) = sortS c (A1 ++ B1) ++ sortS c (A2 ++ B2) := by
  obtain ⟨_, _, hAx⟩ := List.pairwise_append.1 hA
  obtain ⟨_, _, hBx⟩ := List.pairwise_append.1 hB
  refine sort_is hc (List.pairwise_append.2 ⟨(sort_both hc _).1, (sort_both hc _).1, fun x hx y hy => ?_⟩) ?_
  · rw [sort_mem hc, List.mem_append] at hx hy
    rcases hx with hx | hx <;> rcases hy with hy | hy
    · exact hAx x hx y hy
    · exact h1 x hx y hy
    · exact Int.le_of_lt (h2 x hx y hy)
    · exact hBx x hx y hy
  · refine St.trans ?_ ((sort_both hc (A1 ++ B1)).2.app (sort_both hc (A2 ++ B2)).2)
    have := ((St.refl A1).app ((St.swap (a := A2) (b := B1) hc fun x hx y hy => by
      have := h2 y hy x hx; have := hc.anti y x; omega).app (St.refl B2)))
    simpa [List.append_assoc] using this
/-- What stands ahead of a place in a sorted row against what stands behind a place in another. -/
theorem srt_cross (hc : Cmp c) {A B : List α} (hA : Srt c A) (hB : Srt c B) (s t : Nat) (hs : s ≤ A.length) (h : s = 0 ∨ t = B.length ∨ ∃ x y, A[s - 1]? = some x ∧ B[t]? = some y ∧ c x y ≤ 0) : ∀ x ∈ A.take s, ∀ y ∈ B.drop t, c x y ≤ 0 := by
  intro x hx y hy
  rcases h with rfl | rfl | ⟨u, v, hu, hv, huv⟩
  · cases hx
  · rw [List.drop_length] at hy; cases hy
  · obtain ⟨i, hi, rfl⟩ := List.mem_iff_getElem.1 hx
    obtain ⟨j, hj, rfl⟩ := List.mem_iff_getElem.1 hy
    rw [List.length_take] at hi
    rw [List.length_drop] at hj
    rw [List.getElem_take, List.getElem_drop]
    obtain ⟨hu1, rfl⟩ := List.getElem?_eq_some_iff.1 hu
    obtain ⟨hv1, rfl⟩ := List.getElem?_eq_some_iff.1 hv
    have e1 : c A[i] A[s - 1] ≤ 0 := by
      rcases Nat.lt_or_ge i (s - 1) with h | h
      · exact List.pairwise_iff_getElem.1 hA _ _ _ _ h
      · have : i = s - 1 := by omega
        subst this; rw [hc.refl]; omega
    have e2 : c B[t] B[t + j] ≤ 0 := by
      rcases Nat.eq_zero_or_pos j with rfl | h
      · simp [hc.refl]
      · exact List.pairwise_iff_getElem.1 hB _ _ _ _ (by omega)
    exact hc.le_tr e1 (hc.le_tr huv e2)
theorem srt_cross2 (hc : Cmp c) {A B : List α} (hA : Srt c A) (hB : Srt c B) (s t : Nat) (ht : t ≤ B.length) (h : t = 0 ∨ s = A.length ∨ ∃ x y, B[t - 1]? = some x ∧ A[s]? = some y ∧ c x y < 0) : ∀ x ∈ B.take t, ∀ y ∈ A.drop s, c x y < 0 := by
  intro x hx y hy
  rcases h with rfl | rfl | ⟨u, v, hu, hv, huv⟩
  · cases hx
  · rw [List.drop_length] at hy; cases hy
  · obtain ⟨i, hi, rfl⟩ := List.mem_iff_getElem.1 hx
    obtain ⟨j, hj, rfl⟩ := List.mem_iff_getElem.1 hy
    rw [List.length_take] at hi
    rw [List.length_drop] at hj
    rw [List.getElem_take, List.getElem_drop]
    obtain ⟨hu1, rfl⟩ := List.getElem?_eq_some_iff.1 hu
    obtain ⟨hv1, rfl⟩ := List.getElem?_eq_some_iff.1 hv
    have e1 : c B[i] B[t - 1] ≤ 0 := by
      rcases Nat.lt_or_ge i (t - 1) with h | h
      · exact List.pairwise_iff_getElem.1 hB _ _ _ _ h
      · have : i = t - 1 := by omega
        subst this; rw [hc.refl]; omega
    have e2 : c A[s] A[s + j] ≤ 0 := by
      rcases Nat.eq_zero_or_pos j with rfl | h
      · simp [hc.refl]
      · exact List.pairwise_iff_getElem.1 hA _ _ _ _ (by omega)
    exact hc.le_lt e1 (hc.lt_le huv e2)
end
end Go.Proofs.YtjbpnhmjnkolbaaDoor

/-
  A row of texts in a block, two of them changed round: plain facts.
-/
set_option linter.unusedVariables false
set_option linter.unusedSimpArgs false
namespace Go.Proofs.YtjbpnhmjnkolbaaDoor
open Go.RowKit
set_option maxRecDepth 10000
/-- A block that begins with these texts. -/
def SB (O : VH) (k : Nat) (L : List (List UInt8)) (sp : List MV) : Prop := O.hp k = some (.cells (L.map .str ++ sp))
theorem sb_at {L : List (List UInt8)} {sp : List MV} {i : Nat} {x : List UInt8} (h : L[i]? = some x) : (L.map MV.str ++ sp)[i]? = some (.str x) := by
  obtain ⟨h1, rfl⟩ := List.getElem?_eq_some_iff.1 h
  rw [List.getElem?_append_left (by simpa using h1)]; simp [h1]
theorem sb_set {L : List (List UInt8)} {sp : List MV} {i : Nat} (x : List UInt8) (h : i < L.length) : (L.map MV.str ++ sp).set i (.str x) = (L.set i x).map .str ++ sp := by
  rw [List.set_append_left _ _ (by simpa using h), List.map_set]
section
variable {α : Type}
/-- Two places changed round. -/
def chg (L : List α) (i j : Nat) : List α := match L[i]?, L[j]? with
  | some x, some y => (L.set i y).set j x
  | _, _ => L
theorem chg_eq {L : List α} {i j : Nat} {x y : α} (h : L[i]? = some x) (k : L[j]? = some y) : chg L i j = (L.set i y).set j x := by unfold chg; rw [h, k]
theorem chg_len (L : List α) (i j : Nat) : (chg L i j).length = L.length := by
  unfold chg
  split
  · simp
  · rfl
theorem chg_app (P M Q : List α) (x y : α) : chg (P ++ x :: (M ++ y :: Q)) P.length (P.length + 1 + M.length) = P ++ y :: (M ++ x :: Q) := by
  have h1 : (P ++ x :: (M ++ y :: Q))[P.length]? = some x := by simp
  have h2 : (P ++ x :: (M ++ y :: Q))[P.length + 1 + M.length]? = some y := by
    rw [List.getElem?_append_right (by omega), show P.length + 1 + M.length - P.length = M.length + 1 by omega, List.getElem?_cons_succ, List.getElem?_append_right (by omega)]
    simp
  rw [chg_eq h1 h2, List.set_append_right _ _ (by omega), Nat.sub_self, List.set_cons_zero, List.set_append_right _ _ (by omega), show P.length + 1 + M.length - P.length = M.length + 1 by omega, List.set_cons_succ, List.set_append_right _ _ (by omega), Nat.sub_self, List.set_cons_zero]
theorem chg_comm (L : List α) (i j : Nat) : chg L i j = chg L j i := by
  unfold chg
  cases h1 : L[i]? <;> cases h2 : L[j]? <;> try rfl
  rename_i x y
  dsimp only
  by_cases e : i = j
  · subst e; rw [h1] at h2; cases h2; rfl
  · rw [List.set_comm _ _ e]
/-- The places from a on changed with those from b on, i of them. -/
def swp (L : List α) (a b : Nat) : Nat → List α
  | 0 => L
  | i + 1 => chg (swp L a b i) (a + i) (b + i)
theorem swp_len (L : List α) (a b i : Nat) : (swp L a b i).length = L.length := by
  induction i with
  | zero => rfl
  | succ i ih => rw [swp, chg_len, ih]
theorem swp_part (D U M V E : List α) (i : Nat) (hU : i ≤ U.length) (hV : U.length = V.length) : swp (D ++ U ++ M ++ V ++ E) D.length (D.length + U.length + M.length) i = D ++ V.take i ++ U.drop i ++ M ++ U.take i ++ V.drop i ++ E := by
  induction i with
  | zero => simp [swp]
  | succ i ih =>
    rw [swp, ih (by omega)]
    have h1 : i < U.length := by omega
    have h2 : i < V.length := by omega
    have e1 : D ++ V.take i ++ U.drop i ++ M ++ U.take i ++ V.drop i ++ E = (D ++ V.take i) ++ U[i] :: ((U.drop (i + 1) ++ M ++ U.take i) ++ V[i] :: (V.drop (i + 1) ++ E)) := by
      rw [List.drop_eq_getElem_cons h1, List.drop_eq_getElem_cons h2]; simp only [List.append_assoc, List.cons_append]
    have e2 : D ++ V.take (i + 1) ++ U.drop (i + 1) ++ M ++ U.take (i + 1) ++ V.drop (i + 1) ++ E = (D ++ V.take i) ++ V[i] :: ((U.drop (i + 1) ++ M ++ U.take i) ++ U[i] :: (V.drop (i + 1) ++ E)) := by
      rw [take_snoc _ _ h1, take_snoc _ _ h2]; simp only [List.append_assoc, List.cons_append, List.nil_append]
    have l1 : (D ++ V.take i).length = D.length + i := by simp; omega
    have l2 : (U.drop (i + 1) ++ M ++ U.take i).length = U.length - 1 + M.length := by simp; omega
    have := chg_app (D ++ V.take i) (U.drop (i + 1) ++ M ++ U.take i) (V.drop (i + 1) ++ E) U[i] V[i]
    rw [l1, l2] at this
    rw [e1, e2, ← this]
    congr 1
    omega
theorem swp_all (D U M V E : List α) (hV : U.length = V.length) : swp (D ++ U ++ M ++ V ++ E) D.length (D.length + U.length + M.length) U.length = D ++ V ++ M ++ U ++ E := by
  rw [swp_part D U M V E U.length (Nat.le_refl _) hV, List.take_of_length_le (by omega), List.drop_length, List.take_length, List.drop_of_length_le (by omega)]
  simp
end
end Go.Proofs.YtjbpnhmjnkolbaaDoor

/-
  slices.swapRangeCmpFunc, walked.
-/
set_option linter.unusedVariables false
set_option linter.unusedSimpArgs false
namespace Go.Proofs.YtjbpnhmjnkolbaaDoor
open Go.RowKit
set_option maxRecDepth 10000
set_option linter.defProp false in
def tsSo := And.intro T9 <| And.intro T3 <| And.intro T4 <| And.intro T36 <| And.intro T38 T33
/-- The function version.Compare as a value. -/
abbrev fcmp : MV := .func (.func 18) [] []
theorem sb_chg {O : VH} {k i j : Nat} {L : List (List UInt8)} {sp : List MV} {x y : List UInt8} {X : VObj} (h1 : L[i]? = some x) (h2 : L[j]? = some y) : SB ((O.set k X).set k (.cells (((L.map MV.str ++ sp).set i (.str y)).set j (.str x)))) k (chg L i j) sp := by
  have e1 := (List.getElem?_eq_some_iff.1 h1).1
  have e2 := (List.getElem?_eq_some_iff.1 h2).1
  unfold SB
  rw [VH.set_get, sb_set y e1, sb_set x (by rw [List.length_set]; exact e2), chg_eq h1 h2]
/-- slices.swapRangeCmpFunc -/
theorem swapRange_v {O : VH} {k c : Nat} {L : List (List UInt8)} {sp : List MV} (a b n : Nat) (h : SB O k L sp) (hk : k < O.next) (ha : a + n ≤ L.length) (hb : b + n ≤ L.length) (hm : L.length ≤ 1000000) : VF Tryd.prog 77 [.asl k 0 L.length c, mi a, mi b, mi n, fcmp] O (Ret fun m O' => SB O' k (swp L a b n) sp ∧ Upd O (some k) O') := by
  refine VF.ofW (n := ⟨38, 0⟩) (rs := []) tabOk Tryd.func77 rfl rfl rfl (Nat.le_of_ble_eq_true rfl) ?_
  simp only [argEnv, Nat.zero_add, Nat.reduceAdd]
  simp (disch := first | omega | (simp only [ds] <;> omega) | fail) only [wk, undefM, Nat.reduceLT, Nat.reduceAdd, Nat.reduceMul, Nat.reduceSub, Nat.reduceBEq, Nat.reduceEqDiff, Int.reduceToNat, reduceIte, tsSo]
  refine WC.loopK tabOk [10] [0, 1, 2, 3] (fun j : Nat => [mi j]) (fun j O' => j ≤ n ∧ SB O' k (swp L a b j) sp ∧ Upd O (some k) O') (fun j => n - j) (0) rfl rfl ?_ ?_
  · exact ⟨Nat.zero_le _, h, Upd.refl _ _⟩
  rintro j O2 ⟨hj, h2, hu2⟩
  by_cases hlt : j < n
  · have hl := swp_len L a b j
    have e1 := List.getElem?_eq_getElem (l := swp L a b j) (i := a + j) (by omega)
    have e2 := List.getElem?_eq_getElem (l := swp L a b j) (i := b + j) (by omega)
    have hc := chg_eq e1 e2
    have g1 := sb_at (sp := sp) e1
    have g2 := sb_at (sp := sp) e2
    generalize (swp L a b j)[a + j] = x at *
    generalize (swp L a b j)[b + j] = y at *
    unfold SB at h2
    simp (disch := first | omega | (simp only [ds] <;> omega) | fail) only [wk, undefM, Nat.reduceLT, Nat.reduceAdd, Nat.reduceMul, Nat.reduceSub, Nat.reduceBEq, Nat.reduceEqDiff, Int.reduceToNat, reduceIte, tsSo]
    refine WC.plan tabOk .any [(0, .sil), (1, .sil), (2, .sil), (3, .sil), (4, .sil), (5, .sil), (6, .sil), (7, .sil), (8, .sil), (9, .sil), (10, .sil), (11, .sil), (12, .sil), (14, .sil), (15, .sil), (16, .sil), (17, .sil), (18, .sil), (13, .fk), (19, .one), (20, .sil), (21, .one), (22, .sil), (23, .one)] (by simp) (by kernel_rfl) (by kernel_rfl) (by kernel_rfl) rfl ?_
    simp (disch := first | omega | (simp only [ds] <;> omega) | fail) only [wk, undefM, Nat.reduceLT, Nat.reduceAdd, Nat.reduceMul, Nat.reduceSub, Nat.reduceBEq, Nat.reduceEqDiff, Int.reduceToNat, reduceIte, tsSo]
    refine VL.ld2 (m1 := .str y) (m2 := .str x) tabOk rfl ?_ rfl ?_ rfl rfl rfl rfl rfl rfl rfl rfl rfl (WL.sound tabOk ?_)
    · simp (disch := first | omega | (simp only [ds] <;> omega) | fail) only [wk, undefM, Nat.reduceLT, Nat.reduceAdd, Nat.reduceMul, Nat.reduceSub, Nat.reduceBEq, Nat.reduceEqDiff, Int.reduceToNat, reduceIte, tsSo, h2, g1, g2]
    · simp (disch := first | omega | (simp only [ds] <;> omega) | fail) only [wk, undefM, Nat.reduceLT, Nat.reduceAdd, Nat.reduceMul, Nat.reduceSub, Nat.reduceBEq, Nat.reduceEqDiff, Int.reduceToNat, reduceIte, tsSo, h2, g1, g2]
    simp (disch := first | omega | (simp only [ds] <;> omega) | fail) only [wk, undefM, Nat.reduceLT, Nat.reduceAdd, Nat.reduceMul, Nat.reduceSub, Nat.reduceBEq, Nat.reduceEqDiff, Int.reduceToNat, reduceIte, tsSo, h2, g1, g2]
    refine RoundQ.next (j + 1) rfl rfl ?_ (by first | omega | (dsimp only; omega))
    exact ⟨by omega, sb_chg e1 e2, (hu2.trans Upd.set).trans Upd.set⟩
  · have : j = n := by omega
    subst this
    simp (disch := first | omega | (simp only [ds] <;> omega) | fail) only [wk, undefM, Nat.reduceLT, Nat.reduceAdd, Nat.reduceMul, Nat.reduceSub, Nat.reduceBEq, Nat.reduceEqDiff, Int.reduceToNat, reduceIte, tsSo]
    exact ⟨h2, hu2⟩
end Go.Proofs.YtjbpnhmjnkolbaaDoor

/-
  slices.rotateCmpFunc, walked.
-/
set_option linter.unusedVariables false
set_option linter.unusedSimpArgs false
namespace Go.Proofs.YtjbpnhmjnkolbaaDoor
open Go.RowKit
set_option maxRecDepth 10000
abbrev Txt := List (List UInt8)
/-- slices.rotateCmpFunc -/
theorem rotate_v {O : VH} {k c n : Nat} {sp : List MV} (D U V E : Txt) (h : SB O k (D ++ U ++ V ++ E) sp) (hk : k < O.next) (hn : n = (D ++ U ++ V ++ E).length) (h1 : 0 < U.length) (h2 : 0 < V.length) (hm : n ≤ 1000000) : VF Tryd.prog 72 [.asl k 0 n c, mi D.length, mi (D.length + U.length : Nat), mi (D.length + U.length + V.length : Nat), fcmp] O (Ret fun m O' => SB O' k (D ++ V ++ U ++ E) sp ∧ Upd O (some k) O') := by
  have e1 : ((D.length + U.length : Nat) : Int) - D.length = U.length := by omega
  have e2 : ((D.length + U.length + V.length : Nat) : Int) - (D.length + U.length : Nat) = V.length := by omega
  have hT : ∃ T, T = D ++ V ++ U ++ E := ⟨_, rfl⟩
  obtain ⟨T, hT⟩ := hT
  rw [← hT]
  have hM : ∃ M, M = D.length + U.length := ⟨_, rfl⟩
  obtain ⟨M, hM⟩ := hM
  rw [← hM] at e1 e2 ⊢
  have hmx : M + V.length ≤ 1000000 := by rw [hn] at hm; simp only [List.length_append] at hm; omega
  refine VF.ofW (n := ⟨58, 0⟩) (rs := []) tabOk Tryd.func72 rfl rfl rfl (Nat.le_of_ble_eq_true rfl) ?_
  simp only [argEnv, Nat.zero_add, Nat.reduceAdd]
  simp (disch := first | omega | (simp only [ds] <;> omega) | fail) only [wk, undefM, Nat.reduceLT, Nat.reduceAdd, Nat.reduceMul, Nat.reduceSub, Nat.reduceBEq, Nat.reduceEqDiff, Int.reduceToNat, reduceIte, tsSo, e1, e2]
  refine WC.loopK tabOk [10, 11] [0, 2, 4] (fun s : Txt × Txt × Txt × Txt => [mi s.2.1.length, mi s.2.2.1.length]) (fun s O' => SB O' k (s.1 ++ s.2.1 ++ s.2.2.1 ++ s.2.2.2) sp ∧ Upd O (some k) O' ∧ s.1 ++ s.2.2.1 ++ s.2.1 ++ s.2.2.2 = T ∧ M = s.1.length + s.2.1.length ∧ 0 < s.2.1.length ∧ 0 < s.2.2.1.length ∧ (s.1 ++ s.2.1 ++ s.2.2.1 ++ s.2.2.2).length = n) (fun s => s.2.1.length + s.2.2.1.length) ((D, U, V, E)) rfl rfl ?_ ?_
  · exact ⟨h, Upd.refl _ _, hT.symm, hM, h1, h2, hn.symm⟩
  clear h hT hM h1 h2 hn e1 e2 hmx D U V E
  rintro ⟨D, U, V, E⟩ O2 ⟨h, hu, hT, hM, h1, h2, hn⟩
  dsimp only at h hT hM h1 h2 hn ⊢
  have hk2 : k < O2.next := Nat.lt_of_lt_of_le hk hu.next
  have hl := hn
  simp only [List.length_append] at hl
  have e1 : (M : Int) - U.length = D.length := by omega
  rcases Nat.lt_trichotomy U.length V.length with hlt | heq | hgt
  · obtain ⟨V1, V2, hV, hV2⟩ : ∃ V1 V2, V = V1 ++ V2 ∧ V2.length = U.length := ⟨V.take (V.length - U.length), V.drop (V.length - U.length), (List.take_append_drop _ _).symm, by simp; omega⟩
    have hVl : V.length = V1.length + V2.length := by rw [hV, List.length_append]
    have e3 : (M : Int) + V.length - U.length = (D.length + U.length + V1.length : Nat) := by omega
    have e4 : (V.length : Int) - U.length = V1.length := by omega
    have hh : SB O2 k (D ++ U ++ V1 ++ V2 ++ E) sp := by rw [hV] at h; simpa [List.append_assoc] using h
    have hL : (D ++ U ++ V1 ++ V2 ++ E).length = n := by simp; omega
    have hs := swapRange_v (c := c) D.length (D.length + U.length + V1.length) U.length hh hk2 (by omega) (by omega) (by omega)
    rw [swp_all D U V1 V2 E hV2.symm, hL] at hs
    simp (disch := first | omega | (simp only [ds] <;> omega) | fail) only [wk, undefM, Nat.reduceLT, Nat.reduceAdd, Nat.reduceMul, Nat.reduceSub, Nat.reduceBEq, Nat.reduceEqDiff, Int.reduceToNat, reduceIte, tsSo, e1, e3, e4]
    refine CallW.rt (hs) (by kernel_rfl) rfl rfl ?_
    rintro _ O3 ⟨h3, hu3⟩
    simp (disch := first | omega | (simp only [ds] <;> omega) | fail) only [wk, undefM, Nat.reduceLT, Nat.reduceAdd, Nat.reduceMul, Nat.reduceSub, Nat.reduceBEq, Nat.reduceEqDiff, Int.reduceToNat, reduceIte, tsSo, e4]
    refine RoundQ.next (D, V2, V1, U ++ E) rfl (by rw [← hV2]; rfl) ⟨by simpa [List.append_assoc] using h3, hu.trans hu3, by rw [← hT, hV]; simp [List.append_assoc], ?_, ?_, ?_, ?_⟩ ?_ <;> dsimp only <;> (try simp only [List.length_append]) <;> omega
  · have hs := swapRange_v (c := c) (sp := sp) D.length (D.length + U.length) U.length h hk2 (by rw [hn]; omega) (by rw [hn]; omega) (by rw [hn]; omega)
    have ha := swp_all D U [] V E heq
    rw [List.append_nil, List.append_nil, List.length_nil, Nat.add_zero] at ha
    rw [ha, hn, ← hM] at hs
    simp (disch := first | omega | (simp only [ds] <;> omega) | fail) only [wk, undefM, Nat.reduceLT, Nat.reduceAdd, Nat.reduceMul, Nat.reduceSub, Nat.reduceBEq, Nat.reduceEqDiff, Int.reduceToNat, reduceIte, tsSo, e1]
    refine CallW.rt (hs) (by kernel_rfl) rfl rfl ?_
    rintro _ O3 ⟨h3, hu3⟩
    simp (disch := first | omega | (simp only [ds] <;> omega) | fail) only [wk, undefM, Nat.reduceLT, Nat.reduceAdd, Nat.reduceMul, Nat.reduceSub, Nat.reduceBEq, Nat.reduceEqDiff, Int.reduceToNat, reduceIte, tsSo]
    exact ⟨by rw [← hT]; exact h3, hu.trans hu3⟩
  · obtain ⟨U1, U2, hU, hU1⟩ : ∃ U1 U2, U = U1 ++ U2 ∧ U1.length = V.length := ⟨U.take V.length, U.drop V.length, (List.take_append_drop _ _).symm, by simp; omega⟩
    have hUl : U.length = U1.length + U2.length := by rw [hU, List.length_append]
    have e4 : (U.length : Int) - V.length = U2.length := by omega
    have hh : SB O2 k (D ++ U1 ++ U2 ++ V ++ E) sp := by rw [hU] at h; simpa [List.append_assoc] using h
    have hL : (D ++ U1 ++ U2 ++ V ++ E).length = n := by simp; omega
    have hs := swapRange_v (c := c) D.length (D.length + U1.length + U2.length) U1.length hh hk2 (by omega) (by omega) (by omega)
    rw [swp_all D U1 U2 V E hU1, hL, Nat.add_assoc, ← hUl, ← hM, hU1] at hs
    simp (disch := first | omega | (simp only [ds] <;> omega) | fail) only [wk, undefM, Nat.reduceLT, Nat.reduceAdd, Nat.reduceMul, Nat.reduceSub, Nat.reduceBEq, Nat.reduceEqDiff, Int.reduceToNat, reduceIte, tsSo, e1, e4]
    refine CallW.rt (hs) (by kernel_rfl) rfl rfl ?_
    rintro _ O3 ⟨h3, hu3⟩
    simp (disch := first | omega | (simp only [ds] <;> omega) | fail) only [wk, undefM, Nat.reduceLT, Nat.reduceAdd, Nat.reduceMul, Nat.reduceSub, Nat.reduceBEq, Nat.reduceEqDiff, Int.reduceToNat, reduceIte, tsSo, e4]
    refine RoundQ.next (D ++ V, U2, U1, E) rfl (by rw [← hU1]; rfl) ⟨h3, hu.trans hu3, by rw [← hT, hU]; simp [List.append_assoc], ?_, ?_, ?_, ?_⟩ ?_ <;> dsimp only <;> (try simp only [List.length_append]) <;> omega
end Go.Proofs.YtjbpnhmjnkolbaaDoor

/-
  slices.insertionSortCmpFunc, walked.
-/
set_option linter.unusedVariables false
set_option linter.unusedSimpArgs false
namespace Go.Proofs.YtjbpnhmjnkolbaaDoor
open Go.RowKit
set_option maxRecDepth 10000
theorem ins_here {α : Type} {c : α → α → Int} (x : α) : ∀ {A B : List α}, (∀ a ∈ A, ¬ c x a < 0) → (∀ b ∈ B, c x b < 0) → insS c x (A ++ B) = A ++ x :: B
  | [], [], _, _ => rfl
  | [], b :: B, _, h => by rw [List.nil_append, insS, if_pos (h b (by simp))]; rfl
  | a :: A, B, h, k => by rw [List.cons_append, insS, if_neg (h a (by simp)), ins_here x (fun b hb => h b (List.mem_cons_of_mem _ hb)) k]; rfl
theorem ins_stop {α : Type} {c : α → α → Int} (hc : Cmp c) {S : List α} (hS : Srt c S) {i : Nat} {x y : α} (hy : S[i]? = some y) (h : ¬ c x y < 0) : ∀ a ∈ S.take (i + 1), ¬ c x a < 0 := by
  intro a ha hlt
  obtain ⟨hi, rfl⟩ := List.getElem?_eq_some_iff.1 hy
  rw [take_snoc _ _ hi, List.mem_append, List.mem_singleton] at ha
  rcases ha with ha | rfl
  · obtain ⟨q, hq, rfl⟩ := List.mem_iff_getElem.1 ha
    rw [List.length_take] at hq
    rw [List.getElem_take] at hlt
    exact h (hc.lt_le hlt (List.pairwise_iff_getElem.1 hS _ _ _ _ (by omega)))
  · exact h hlt
theorem sort_len1 {α : Type} {c : α → α → Int} (X : List α) : sortS c (X.take 1) = X.take 1 := by cases X <;> rfl
abbrev sortV : Txt → Txt := sortS compareV
/-- slices.insertionSortCmpFunc -/
theorem insertion_v {O : VH} {k c n : Nat} {sp : List MV} (D X E : Txt) (h : SB O k (D ++ X ++ E) sp) (hk : k < O.next) (hn : n = (D ++ X ++ E).length) (hX : ∀ x ∈ X, x.length ≤ 10000) (hm : n ≤ 1000000) : VF Tryd.prog 63 [.asl k 0 n c, mi D.length, mi (D.length + X.length : Nat), fcmp] O (Ret fun m O' => SB O' k (D ++ sortV X ++ E) sp ∧ Upd O (some k) O') := by
  have hc := compareV_cmp
  have hl := hn
  simp only [List.length_append] at hl
  refine VF.ofW (n := ⟨53, 0⟩) (rs := []) tabOk Tryd.func63 rfl rfl rfl (Nat.le_of_ble_eq_true rfl) ?_
  simp only [argEnv, Nat.zero_add, Nat.reduceAdd]
  simp (disch := first | omega | (simp only [ds] <;> omega) | fail) only [wk, undefM, Nat.reduceLT, Nat.reduceAdd, Nat.reduceMul, Nat.reduceSub, Nat.reduceBEq, Nat.reduceEqDiff, Int.reduceToNat, reduceIte, tsSo]
  refine WC.loopK tabOk [8] [0, 1, 2, 3] (fun s : Nat => [mi (D.length + (s + 1) : Nat)]) (fun s O' => SB O' k (D ++ (sortV (X.take (s + 1)) ++ X.drop (s + 1)) ++ E) sp ∧ Upd O (some k) O') (fun s => X.length - s) (0) rfl rfl ?_ ?_
  · refine ⟨?_, Upd.refl _ _⟩
    rw [show sortV (X.take (0 + 1)) = X.take 1 from sort_len1 X, List.take_append_drop]; exact h
  rintro s O2 ⟨h2, hu2⟩
  by_cases hlt : s + 1 < X.length
  · have hSl : (sortV (X.take (s + 1))).length = s + 1 := by rw [sort_len, List.length_take]; omega
    have hSs : Srt compareV (sortV (X.take (s + 1))) := (sort_both hc _).1
    have hSm : ∀ y ∈ sortV (X.take (s + 1)), y.length ≤ 10000 := fun y hy => hX y (List.mem_of_mem_take ((sort_mem hc).1 hy))
    have hsn : sortV (X.take (s + 1 + 1)) = insS compareV X[s + 1] (sortV (X.take (s + 1))) := by rw [take_snoc _ _ hlt]; exact sort_snoc _ _
    have hxl := hX X[s + 1] (List.getElem_mem hlt)
    rw [List.drop_eq_getElem_cons hlt] at h2
    generalize X[s + 1] = x at *
    generalize sortV (X.take (s + 1)) = S at *
    simp (disch := first | omega | (simp only [ds] <;> omega) | fail) only [wk, undefM, Nat.reduceLT, Nat.reduceAdd, Nat.reduceMul, Nat.reduceSub, Nat.reduceBEq, Nat.reduceEqDiff, Int.reduceToNat, reduceIte, tsSo]
    refine WC.loopK tabOk [9] [0, 1, 2, 3, 8] (fun j : Nat => [mi (D.length + j : Nat)]) (fun j O' => j ≤ s + 1 ∧ SB O' k (D ++ (S.take j ++ x :: S.drop j) ++ (X.drop (s + 1 + 1) ++ E)) sp ∧ (∀ y ∈ S.drop j, compareV x y < 0) ∧ Upd O (some k) O') (fun j => j) (s + 1) rfl rfl ?_ ?_
    · exact ⟨Nat.le_refl _, by rw [List.take_of_length_le (by omega), List.drop_of_length_le (by omega)]; simpa [List.append_assoc] using h2, by rw [List.drop_of_length_le (by omega)]; simp, hu2⟩
    rintro j O3 ⟨hj, h3, hgt, hu3⟩
    have hk3 : k < O3.next := Nat.lt_of_lt_of_le hk hu3.next
    cases j with
    | zero =>
      rw [List.drop_zero] at hgt
      have hi := ins_here (c := compareV) (A := []) (B := S) x (by simp) hgt
      simp (disch := first | omega | (simp only [ds] <;> omega) | fail) only [wk, undefM, Nat.reduceLT, Nat.reduceAdd, Nat.reduceMul, Nat.reduceSub, Nat.reduceBEq, Nat.reduceEqDiff, Int.reduceToNat, reduceIte, tsSo]
      refine WC.plan tabOk .any [(0, .sil), (1, .sil), (2, .sil), (3, .sil), (4, .sil), (5, .sil), (6, .sil), (7, .sil), (8, .sil), (9, .sil), (10, .sil), (11, .sil), (12, .sil), (13, .sil), (14, .one), (15, .sil), (16, .sil)] (by simp) (by kernel_rfl) (by kernel_rfl) (by kernel_rfl) rfl ?_
      simp (disch := first | omega | (simp only [ds] <;> omega) | fail) only [wk, undefM, Nat.reduceLT, Nat.reduceAdd, Nat.reduceMul, Nat.reduceSub, Nat.reduceBEq, Nat.reduceEqDiff, Int.reduceToNat, reduceIte, tsSo]
      refine RoundQ.next (s + 1) rfl rfl ⟨?_, hu3⟩ (by omega)
      rw [List.nil_append] at hi
      rw [hsn, hi]
      simpa [List.append_assoc] using h3
    | succ i =>
      have hiS : i < S.length := by omega
      have hy := List.getElem?_eq_getElem hiS
      have hyS := hy
      have hyl := hSm _ (List.getElem_mem hiS)
      have hyd := List.drop_eq_getElem_cons hiS
      have hyt := take_snoc _ _ hiS
      generalize S[i] = y at *
      obtain ⟨P, hP⟩ : ∃ P, P = D ++ S.take i := ⟨_, rfl⟩
      obtain ⟨R, hR⟩ : ∃ R, R = S.drop (i + 1) ++ (X.drop (s + 1 + 1) ++ E) := ⟨_, rfl⟩
      have hPl : P.length = D.length + i := by rw [hP, List.length_append, List.length_take]; omega
      have h4 : D ++ (S.take (i + 1) ++ x :: S.drop (i + 1)) ++ (X.drop (s + 1 + 1) ++ E) = P ++ y :: x :: R := by rw [hyt, hP, hR]; simp [List.append_assoc]
      rw [h4] at h3
      have e1 : (P ++ y :: x :: R)[D.length + (i + 1)]? = some x := by rw [List.getElem?_append_right (by omega), hPl, show D.length + (i + 1) - (D.length + i) = 1 by omega]; rfl
      have e2 : (P ++ y :: x :: R)[D.length + i]? = some y := by rw [List.getElem?_append_right (by omega), hPl, Nat.sub_self]; rfl
      have g1 := sb_at (sp := sp) e1
      have g2 := sb_at (sp := sp) e2
      have t1 : ((D.length + (i + 1) : Nat) : Int) - 1 = (D.length + i : Nat) := by omega
      have hLl : (P ++ y :: x :: R).length = n := by rw [← h4]; simp; omega
      have h3' := h3
      unfold SB at h3'
      simp (disch := first | omega | (simp only [ds] <;> omega) | fail) only [wk, undefM, Nat.reduceLT, Nat.reduceAdd, Nat.reduceMul, Nat.reduceSub, Nat.reduceBEq, Nat.reduceEqDiff, Int.reduceToNat, reduceIte, tsSo]
      refine WC.plan tabOk .any [(0, .sil), (1, .sil), (2, .sil), (3, .sil), (4, .sil), (5, .sil), (6, .sil), (7, .sil), (9, .sil), (10, .sil), (11, .sil), (12, .sil), (8, .fk), (13, .one), (14, .one), (15, .sil), (16, .sil)] (by simp) (by kernel_rfl) (by kernel_rfl) (by kernel_rfl) rfl ?_
      simp (disch := first | omega | (simp only [ds] <;> omega) | fail) only [wk, undefM, Nat.reduceLT, Nat.reduceAdd, Nat.reduceMul, Nat.reduceSub, Nat.reduceBEq, Nat.reduceEqDiff, Int.reduceToNat, reduceIte, tsSo, t1]
      refine VL.ld2 (m1 := .str x) (m2 := .str y) tabOk rfl ?_ rfl ?_ rfl rfl rfl rfl rfl rfl rfl rfl rfl (WL.sound tabOk ?_)
      · simp (disch := first | omega | (simp only [ds] <;> omega) | fail) only [wk, undefM, Nat.reduceLT, Nat.reduceAdd, Nat.reduceMul, Nat.reduceSub, Nat.reduceBEq, Nat.reduceEqDiff, Int.reduceToNat, reduceIte, tsSo, h3', g1, g2]
      · simp (disch := first | omega | (simp only [ds] <;> omega) | fail) only [wk, undefM, Nat.reduceLT, Nat.reduceAdd, Nat.reduceMul, Nat.reduceSub, Nat.reduceBEq, Nat.reduceEqDiff, Int.reduceToNat, reduceIte, tsSo, h3', g1, g2]
      simp (disch := first | omega | (simp only [ds] <;> omega) | fail) only [wk, undefM, Nat.reduceLT, Nat.reduceAdd, Nat.reduceMul, Nat.reduceSub, Nat.reduceBEq, Nat.reduceEqDiff, Int.reduceToNat, reduceIte, tsSo, h3', g1, g2]
      refine CallW.rt (Compare_v x y _ hxl hyl) (by kernel_rfl) rfl rfl ?_
      rintro _ O4 ⟨rfl, hg4⟩
      have h5 : SB O4 k (P ++ y :: x :: R) sp := (hg4.hp k hk3).trans h3'
      have hu4 := hu3.trans (Upd.ofGe hg4).any
      clear h3 h3'
      have h5' := h5
      unfold SB at h5'
      by_cases hxy : compareV x y < 0
      · simp (disch := first | omega | (simp only [ds] <;> omega) | fail) only [wk, undefM, Nat.reduceLT, Nat.reduceAdd, Nat.reduceMul, Nat.reduceSub, Nat.reduceBEq, Nat.reduceEqDiff, Int.reduceToNat, reduceIte, tsSo]
        refine WC.plan tabOk .any [(0, .sil), (1, .sil), (2, .sil), (3, .sil), (4, .sil), (5, .sil), (6, .sil), (7, .sil), (8, .sil), (10, .sil), (11, .sil), (12, .sil), (9, .fk), (13, .one), (14, .sil), (15, .one), (16, .sil), (17, .one)] (by simp) (by kernel_rfl) (by kernel_rfl) (by kernel_rfl) rfl ?_
        simp (disch := first | omega | (simp only [ds] <;> omega) | fail) only [wk, undefM, Nat.reduceLT, Nat.reduceAdd, Nat.reduceMul, Nat.reduceSub, Nat.reduceBEq, Nat.reduceEqDiff, Int.reduceToNat, reduceIte, tsSo, t1]
        refine VL.ld2 (m1 := .str y) (m2 := .str x) tabOk rfl ?_ rfl ?_ rfl rfl rfl rfl rfl rfl rfl rfl rfl (WL.sound tabOk ?_)
        · simp (disch := first | omega | (simp only [ds] <;> omega) | fail) only [wk, undefM, Nat.reduceLT, Nat.reduceAdd, Nat.reduceMul, Nat.reduceSub, Nat.reduceBEq, Nat.reduceEqDiff, Int.reduceToNat, reduceIte, tsSo, h5', g1, g2, t1]
        · simp (disch := first | omega | (simp only [ds] <;> omega) | fail) only [wk, undefM, Nat.reduceLT, Nat.reduceAdd, Nat.reduceMul, Nat.reduceSub, Nat.reduceBEq, Nat.reduceEqDiff, Int.reduceToNat, reduceIte, tsSo, h5', g1, g2, t1]
        simp (disch := first | omega | (simp only [ds] <;> omega) | fail) only [wk, undefM, Nat.reduceLT, Nat.reduceAdd, Nat.reduceMul, Nat.reduceSub, Nat.reduceBEq, Nat.reduceEqDiff, Int.reduceToNat, reduceIte, tsSo, h5', g1, g2, t1]
        have hs := sb_chg (O := O4) (k := k) (sp := sp) (X := .cells (((P ++ y :: x :: R).map MV.str ++ sp).set (D.length + (i + 1)) (.str y))) e1 e2
        rw [chg_comm] at hs
        have hca := chg_app P [] R y x
        rw [List.length_nil, Nat.add_zero, hPl, Nat.add_assoc] at hca
        rw [List.nil_append, List.nil_append] at hca
        rw [hca] at hs
        refine RoundQ.next i rfl rfl ⟨by omega, ?_, ?_, (hu4.trans Upd.set).trans Upd.set⟩ (by omega)
        · have hq : D ++ (S.take i ++ x :: S.drop i) ++ (X.drop (s + 1 + 1) ++ E) = P ++ x :: y :: R := by rw [hyd, hP, hR]; simp only [List.append_assoc, List.cons_append]
          rw [hq]; exact hs
        · rw [hyd]; intro z hz; exact (List.mem_cons.1 hz).elim (fun e => by rw [e]; exact hxy) (hgt z)
      · simp (disch := first | omega | (simp only [ds] <;> omega) | fail) only [wk, undefM, Nat.reduceLT, Nat.reduceAdd, Nat.reduceMul, Nat.reduceSub, Nat.reduceBEq, Nat.reduceEqDiff, Int.reduceToNat, reduceIte, tsSo]
        refine RoundQ.next (s + 1) rfl rfl ⟨?_, hu4⟩ (by omega)
        have hi := ins_here (c := compareV) (A := S.take (i + 1)) (B := S.drop (i + 1)) x (ins_stop hc hSs hyS hxy) hgt
        rw [List.take_append_drop] at hi
        rw [hsn, hi]
        rw [← h4] at h5
        simpa [List.append_assoc] using h5
  · simp (disch := first | omega | (simp only [ds] <;> omega) | fail) only [wk, undefM, Nat.reduceLT, Nat.reduceAdd, Nat.reduceMul, Nat.reduceSub, Nat.reduceBEq, Nat.reduceEqDiff, Int.reduceToNat, reduceIte, tsSo]
    rw [List.take_of_length_le (by omega), List.drop_of_length_le (by omega), List.append_nil] at h2
    exact ⟨h2, hu2⟩
end Go.Proofs.YtjbpnhmjnkolbaaDoor

/-
  slices.symMergeCmpFunc of one text and others, walked.
-/
set_option linter.unusedVariables false
set_option linter.unusedSimpArgs false
namespace Go.Proofs.YtjbpnhmjnkolbaaDoor
open Go.RowKit
set_option maxRecDepth 10000
theorem merge_one1 {α : Type} {c : α → α → Int} (hc : Cmp c) {B : List α} {x : α} (hB : Srt c B) {i : Nat} (hi : i ≤ B.length) (h1 : i = 0 ∨ ∃ y, B[i - 1]? = some y ∧ c y x < 0) (h2 : i = B.length ∨ ∃ y, B[i]? = some y ∧ ¬ c y x < 0) : sortS c ([x] ++ B) = B.take i ++ x :: B.drop i := by
  have hx : Srt c [x] := List.pairwise_singleton _ _
  have k1 := srt_cross2 hc hx hB 0 i hi (by
    rcases h1 with h | ⟨y, h, k⟩
    · exact .inl h
    · exact .inr (.inr ⟨y, x, h, rfl, k⟩))
  have k2 := srt_cross hc hx hB 1 i (Nat.le_refl _) (by
    rcases h2 with h | ⟨y, h, k⟩
    · exact .inr (.inl h)
    · exact .inr (.inr ⟨x, y, rfl, h, by have := hc.anti y x; omega⟩))
  have hT : Srt c (B.take i) := hB.sublist (List.take_sublist _ _)
  have hD : Srt c (B.drop i) := hB.sublist (List.drop_sublist _ _)
  have := sort_turn hc (A1 := []) (A2 := [x]) (B1 := B.take i) (B2 := B.drop i) hx (by rw [List.take_append_drop]; exact hB) (by simp) (by simpa using k1)
  rw [List.take_append_drop, List.nil_append, List.nil_append, sort_self hc hT, sort_self (m := [x] ++ B.drop i) hc (List.pairwise_cons.2 ⟨fun y hy => k2 x (by simp) y hy, hD⟩)] at this
  exact this
theorem merge_one2 {α : Type} {c : α → α → Int} (hc : Cmp c) {A : List α} {x : α} (hA : Srt c A) {i : Nat} (hi : i ≤ A.length) (h1 : i = 0 ∨ ∃ y, A[i - 1]? = some y ∧ ¬ c x y < 0) (h2 : i = A.length ∨ ∃ y, A[i]? = some y ∧ c x y < 0) : sortS c (A ++ [x]) = A.take i ++ x :: A.drop i := by
  rw [sort_snoc, sort_self hc hA]
  have := ins_here (c := c) (A := A.take i) (B := A.drop i) x (by
    rcases h1 with h | ⟨y, h, k⟩
    · rw [h]; simp
    · cases i with
      | zero => simp
      | succ i => exact ins_stop hc hA h k) (by
    rcases h2 with h | ⟨y, h, k⟩
    · rw [h]; simp
    · intro b hb
      obtain ⟨q, hq, rfl⟩ := List.mem_iff_getElem.1 hb
      rw [List.length_drop] at hq
      rw [List.getElem_drop]
      obtain ⟨hi, rfl⟩ := List.getElem?_eq_some_iff.1 h
      rcases Nat.eq_zero_or_pos q with rfl | hq0
      · exact k
      · exact hc.lt_le k (List.pairwise_iff_getElem.1 hA _ _ _ _ (by omega)))
  rwa [List.take_append_drop] at this
theorem half {a b q : Nat} (h : a + b ≤ 4000000) (hq : q = (a + b) / 2) : IntKind.i64.wrap (((a : Int) + (b : Int)).fdiv (2 ^ min 1 IntKind.u64.bits)) = (q : Int) := by
  have e : (2 ^ min 1 IntKind.u64.bits : Int) = 2 := by decide
  rw [e, Int.fdiv_eq_ediv_of_nonneg _ (by decide)]
  simp only [IntKind.wrap, IntKind.signed, IntKind.bits]
  simp
  omega
/-- slices.symMergeCmpFunc, the first row of one text -/
theorem merge1_v {O : VH} {k c n : Nat} {sp : List MV} (D B E : Txt) (x : List UInt8) (h : SB O k (D ++ [x] ++ B ++ E) sp) (hk : k < O.next) (hn : n = (D ++ [x] ++ B ++ E).length) (hB : Srt compareV B) (hx : x.length ≤ 10000) (hBl : ∀ y ∈ B, y.length ≤ 10000) (hm : n ≤ 1000000) : VF Tryd.prog 64 [.asl k 0 n c, mi D.length, mi (D.length + 1 : Nat), mi (D.length + 1 + B.length : Nat), fcmp] O (Ret fun m O' => SB O' k (D ++ sortV ([x] ++ B) ++ E) sp ∧ Upd O (some k) O') := by
  have hc := compareV_cmp
  have hl := hn
  simp only [List.length_append, List.length_singleton] at hl
  have e0 : ((D.length + 1 : Nat) : Int) - D.length = 1 := by omega
  refine VF.ofW (n := ⟨220, 0⟩) (rs := []) tabOk Tryd.func64 rfl rfl rfl (Nat.le_of_ble_eq_true rfl) ?_
  simp only [argEnv, Nat.zero_add, Nat.reduceAdd]
  simp (disch := first | omega | (simp only [ds] <;> omega) | fail) only [wk, undefM, Nat.reduceLT, Nat.reduceAdd, Nat.reduceMul, Nat.reduceSub, Nat.reduceBEq, Nat.reduceEqDiff, Int.reduceToNat, reduceIte, tsSo, e0]
  refine WC.loopK tabOk [10, 11] [0, 1, 4] (fun s : Nat × Nat => [mi (D.length + 1 + s.1 : Nat), mi (D.length + 1 + s.2 : Nat)]) (fun s O' => SB O' k (D ++ [x] ++ B ++ E) sp ∧ O.Ge O' ∧ s.1 ≤ s.2 ∧ s.2 ≤ B.length ∧ (s.1 = 0 ∨ ∃ y, B[s.1 - 1]? = some y ∧ compareV y x < 0) ∧ (s.2 = B.length ∨ ∃ y, B[s.2]? = some y ∧ ¬ compareV y x < 0)) (fun s => s.2 - s.1) ((0, B.length)) rfl rfl ?_ ?_
  · exact ⟨h, VH.Ge.refl _, Nat.zero_le _, Nat.le_refl _, .inl rfl, .inl rfl⟩
  rintro ⟨i, j⟩ O2 ⟨h2, hg2, hij, hj, hlo, hhi⟩
  dsimp only at hij hj hlo hhi ⊢
  have hk2 : k < O2.next := Nat.lt_of_lt_of_le hk hg2.next
  by_cases hlt : i < j
  · obtain ⟨q, hq⟩ : ∃ q, q = (i + j) / 2 := ⟨_, rfl⟩
    have hqB : q < B.length := by omega
    have hy := List.getElem?_eq_getElem hqB
    have hyl := hBl _ (List.getElem_mem hqB)
    generalize B[q] = y at *
    have e1 : (D ++ [x] ++ B ++ E)[D.length + 1 + q]? = some y := by
      rw [List.append_assoc, List.getElem?_append_right (by simp), List.getElem?_append_left (by simp; omega)]
      simpa using hy
    have e2 : (D ++ [x] ++ B ++ E)[D.length]? = some x := by simp
    have g1 := sb_at (sp := sp) e1
    have g2 := sb_at (sp := sp) e2
    have h2' := h2
    unfold SB at h2'
    have e3 : IntKind.i64.wrap (((D.length + 1 + i : Nat) + (D.length + 1 + j : Nat) : Int).fdiv (2 ^ min 1 IntKind.u64.bits)) = (D.length + 1 + q : Nat) := half (by omega) (by omega)
    simp (disch := first | omega | (simp only [ds] <;> omega) | fail) only [wk, undefM, Nat.reduceLT, Nat.reduceAdd, Nat.reduceMul, Nat.reduceSub, Nat.reduceBEq, Nat.reduceEqDiff, Int.reduceToNat, reduceIte, tsSo, e3]
    refine WC.plan tabOk .any [(0, .sil), (1, .sil), (2, .sil), (3, .sil), (5, .sil), (6, .sil), (7, .sil), (4, .fk), (8, .one), (9, .one), (10, .sil)] (by simp) (by kernel_rfl) (by kernel_rfl) (by kernel_rfl) rfl ?_
    simp (disch := first | omega | (simp only [ds] <;> omega) | fail) only [wk, undefM, Nat.reduceLT, Nat.reduceAdd, Nat.reduceMul, Nat.reduceSub, Nat.reduceBEq, Nat.reduceEqDiff, Int.reduceToNat, reduceIte, tsSo]
    refine VL.ld2 (m1 := .str y) (m2 := .str x) tabOk rfl ?_ rfl ?_ rfl rfl rfl rfl rfl rfl rfl rfl rfl (WL.sound tabOk ?_)
    · simp (disch := first | omega | (simp only [ds] <;> omega) | fail) only [wk, undefM, Nat.reduceLT, Nat.reduceAdd, Nat.reduceMul, Nat.reduceSub, Nat.reduceBEq, Nat.reduceEqDiff, Int.reduceToNat, reduceIte, tsSo, h2', g1, g2]
    · simp (disch := first | omega | (simp only [ds] <;> omega) | fail) only [wk, undefM, Nat.reduceLT, Nat.reduceAdd, Nat.reduceMul, Nat.reduceSub, Nat.reduceBEq, Nat.reduceEqDiff, Int.reduceToNat, reduceIte, tsSo, h2', g1, g2]
    simp (disch := first | omega | (simp only [ds] <;> omega) | fail) only [wk, undefM, Nat.reduceLT, Nat.reduceAdd, Nat.reduceMul, Nat.reduceSub, Nat.reduceBEq, Nat.reduceEqDiff, Int.reduceToNat, reduceIte, tsSo, h2', g1, g2]
    refine CallW.rt (Compare_v y x _ hyl hx) (by kernel_rfl) rfl rfl ?_
    rintro _ O3 ⟨rfl, hg3⟩
    have h3 : SB O3 k (D ++ [x] ++ B ++ E) sp := (hg3.hp k hk2).trans h2'
    by_cases hyx : compareV y x < 0
    · simp (disch := first | omega | (simp only [ds] <;> omega) | fail) only [wk, undefM, Nat.reduceLT, Nat.reduceAdd, Nat.reduceMul, Nat.reduceSub, Nat.reduceBEq, Nat.reduceEqDiff, Int.reduceToNat, reduceIte, tsSo]
      refine RoundQ.next (q + 1, j) rfl rfl ⟨h3, hg2.trans hg3, by dsimp only; omega, hj, .inr ⟨y, hy, hyx⟩, hhi⟩ (by dsimp only; omega)
    · simp (disch := first | omega | (simp only [ds] <;> omega) | fail) only [wk, undefM, Nat.reduceLT, Nat.reduceAdd, Nat.reduceMul, Nat.reduceSub, Nat.reduceBEq, Nat.reduceEqDiff, Int.reduceToNat, reduceIte, tsSo]
      refine RoundQ.next (i, q) rfl rfl ⟨h3, hg2.trans hg3, by dsimp only; omega, by dsimp only; omega, hlo, .inr ⟨y, hy, hyx⟩⟩ (by dsimp only; omega)
  · obtain rfl : i = j := by omega
    have hms := merge_one1 hc hB hj hlo hhi
    have e4 : ((D.length + 1 + i : Nat) : Int) - 1 = (D.length + i : Nat) := by omega
    simp (disch := first | omega | (simp only [ds] <;> omega) | fail) only [wk, undefM, Nat.reduceLT, Nat.reduceAdd, Nat.reduceMul, Nat.reduceSub, Nat.reduceBEq, Nat.reduceEqDiff, Int.reduceToNat, reduceIte, tsSo, e4]
    refine WC.loopK tabOk [13] [0, 10] (fun q : Nat => [mi (D.length + q : Nat)]) (fun q O' => q ≤ i ∧ SB O' k (D ++ (B.take q ++ x :: B.drop q) ++ E) sp ∧ Upd O (some k) O') (fun q => i - q) (0) rfl rfl ?_ ?_
    · exact ⟨Nat.zero_le _, by simpa [List.append_assoc] using h2, (Upd.ofGe hg2).any⟩
    rintro q O3 ⟨hq, h3, hu3⟩
    by_cases hqi : q < i
    · have hqB : q < B.length := by omega
      have hyd := List.drop_eq_getElem_cons hqB
      have hyt := take_snoc _ _ hqB
      generalize B[q] = y at *
      obtain ⟨P, hP⟩ : ∃ P, P = D ++ B.take q := ⟨_, rfl⟩
      obtain ⟨R, hR⟩ : ∃ R, R = B.drop (q + 1) ++ E := ⟨_, rfl⟩
      have hPl : P.length = D.length + q := by rw [hP, List.length_append, List.length_take]; omega
      have h4 : D ++ (B.take q ++ x :: B.drop q) ++ E = P ++ x :: y :: R := by rw [hyd, hP, hR]; simp only [List.append_assoc, List.cons_append]
      have h5 : D ++ (B.take (q + 1) ++ x :: B.drop (q + 1)) ++ E = P ++ y :: x :: R := by rw [hyt, hP, hR]; simp only [List.append_assoc, List.cons_append, List.nil_append]
      rw [h4] at h3
      have e1 : (P ++ x :: y :: R)[D.length + q]? = some x := by rw [← hPl]; simp
      have e2 : (P ++ x :: y :: R)[D.length + q + 1]? = some y := by rw [← hPl, List.getElem?_append_right (by omega), Nat.add_sub_cancel_left]; rfl
      have g1 := sb_at (sp := sp) e1
      have g2 := sb_at (sp := sp) e2
      have hLl : (P ++ x :: y :: R).length = n := by rw [← h4]; simp; omega
      have h3' := h3
      unfold SB at h3'
      simp (disch := first | omega | (simp only [ds] <;> omega) | fail) only [wk, undefM, Nat.reduceLT, Nat.reduceAdd, Nat.reduceMul, Nat.reduceSub, Nat.reduceBEq, Nat.reduceEqDiff, Int.reduceToNat, reduceIte, tsSo, e4]
      refine WC.plan tabOk .any [(0, .sil), (1, .sil), (2, .sil), (3, .sil), (4, .sil), (5, .sil), (6, .sil), (7, .sil), (8, .sil), (10, .sil), (11, .sil), (12, .sil), (9, .fk), (13, .one), (14, .sil), (15, .one), (16, .sil), (17, .one)] (by simp) (by kernel_rfl) (by kernel_rfl) (by kernel_rfl) rfl ?_
      simp (disch := first | omega | (simp only [ds] <;> omega) | fail) only [wk, undefM, Nat.reduceLT, Nat.reduceAdd, Nat.reduceMul, Nat.reduceSub, Nat.reduceBEq, Nat.reduceEqDiff, Int.reduceToNat, reduceIte, tsSo]
      refine VL.ld2 (m1 := .str y) (m2 := .str x) tabOk rfl ?_ rfl ?_ rfl rfl rfl rfl rfl rfl rfl rfl rfl (WL.sound tabOk ?_)
      · simp (disch := first | omega | (simp only [ds] <;> omega) | fail) only [wk, undefM, Nat.reduceLT, Nat.reduceAdd, Nat.reduceMul, Nat.reduceSub, Nat.reduceBEq, Nat.reduceEqDiff, Int.reduceToNat, reduceIte, tsSo, h3', g1, g2]
      · simp (disch := first | omega | (simp only [ds] <;> omega) | fail) only [wk, undefM, Nat.reduceLT, Nat.reduceAdd, Nat.reduceMul, Nat.reduceSub, Nat.reduceBEq, Nat.reduceEqDiff, Int.reduceToNat, reduceIte, tsSo, h3', g1, g2]
      simp (disch := first | omega | (simp only [ds] <;> omega) | fail) only [wk, undefM, Nat.reduceLT, Nat.reduceAdd, Nat.reduceMul, Nat.reduceSub, Nat.reduceBEq, Nat.reduceEqDiff, Int.reduceToNat, reduceIte, tsSo, h3', g1, g2]
      have hs := sb_chg (O := O3) (k := k) (sp := sp) (X := .cells (((P ++ x :: y :: R).map MV.str ++ sp).set (D.length + q) (.str y))) e1 e2
      have hca := chg_app P [] R x y
      rw [List.length_nil, Nat.add_zero, hPl, List.nil_append, List.nil_append] at hca
      rw [hca] at hs
      refine RoundQ.next (q + 1) rfl rfl ⟨by omega, ?_, (hu3.trans Upd.set).trans Upd.set⟩ (by omega)
      rw [h5]; exact hs
    · obtain rfl : q = i := by omega
      simp (disch := first | omega | (simp only [ds] <;> omega) | fail) only [wk, undefM, Nat.reduceLT, Nat.reduceAdd, Nat.reduceMul, Nat.reduceSub, Nat.reduceBEq, Nat.reduceEqDiff, Int.reduceToNat, reduceIte, tsSo, e4]
      exact ⟨by show SB O3 k (D ++ sortS compareV ([x] ++ B) ++ E) sp; rw [hms]; exact h3, hu3⟩
end Go.Proofs.YtjbpnhmjnkolbaaDoor

/-
  slices.symMergeCmpFunc of others and one text, walked.
-/
set_option linter.unusedVariables false
set_option linter.unusedSimpArgs false
namespace Go.Proofs.YtjbpnhmjnkolbaaDoor
open Go.RowKit
set_option maxRecDepth 10000
/-- slices.symMergeCmpFunc, the second row of one text -/
theorem merge2_v {O : VH} {k c n : Nat} {sp : List MV} (D A E : Txt) (x : List UInt8) (h : SB O k (D ++ A ++ [x] ++ E) sp) (hk : k < O.next) (hn : n = (D ++ A ++ [x] ++ E).length) (hA2 : 2 ≤ A.length) (hA : Srt compareV A) (hx : x.length ≤ 10000) (hAl : ∀ y ∈ A, y.length ≤ 10000) (hm : n ≤ 1000000) : VF Tryd.prog 64 [.asl k 0 n c, mi D.length, mi (D.length + A.length : Nat), mi (D.length + A.length + 1 : Nat), fcmp] O (Ret fun m O' => SB O' k (D ++ sortV (A ++ [x]) ++ E) sp ∧ Upd O (some k) O') := by
  have hc := compareV_cmp
  have hl := hn
  simp only [List.length_append, List.length_singleton] at hl
  have e0 : ((D.length + A.length : Nat) : Int) - D.length = A.length := by omega
  have e1 : ((D.length + A.length + 1 : Nat) : Int) - (D.length + A.length : Nat) = 1 := by omega
  have e2 : decide ((A.length : Int) = 1) = false := by rw [decide_eq_false_iff_not]; omega
  refine VF.ofW (n := ⟨220, 0⟩) (rs := []) tabOk Tryd.func64 rfl rfl rfl (Nat.le_of_ble_eq_true rfl) ?_
  simp only [argEnv, Nat.zero_add, Nat.reduceAdd]
  simp (disch := first | omega | (simp only [ds] <;> omega) | fail) only [wk, undefM, Nat.reduceLT, Nat.reduceAdd, Nat.reduceMul, Nat.reduceSub, Nat.reduceBEq, Nat.reduceEqDiff, Int.reduceToNat, reduceIte, tsSo, e0, e1, e2]
  refine WC.loopK tabOk [14, 15] [0, 2, 4] (fun s : Nat × Nat => [mi (D.length + s.1 : Nat), mi (D.length + s.2 : Nat)]) (fun s O' => SB O' k (D ++ A ++ [x] ++ E) sp ∧ O.Ge O' ∧ s.1 ≤ s.2 ∧ s.2 ≤ A.length ∧ (s.1 = 0 ∨ ∃ y, A[s.1 - 1]? = some y ∧ ¬ compareV x y < 0) ∧ (s.2 = A.length ∨ ∃ y, A[s.2]? = some y ∧ compareV x y < 0)) (fun s => s.2 - s.1) ((0, A.length)) rfl rfl ?_ ?_
  · exact ⟨h, VH.Ge.refl _, Nat.zero_le _, Nat.le_refl _, .inl rfl, .inl rfl⟩
  rintro ⟨i, j⟩ O2 ⟨h2, hg2, hij, hj, hlo, hhi⟩
  dsimp only at hij hj hlo hhi ⊢
  have hk2 : k < O2.next := Nat.lt_of_lt_of_le hk hg2.next
  by_cases hlt : i < j
  · obtain ⟨q, hq⟩ : ∃ q, q = (i + j) / 2 := ⟨_, rfl⟩
    have hqA : q < A.length := by omega
    have hy := List.getElem?_eq_getElem hqA
    have hyl := hAl _ (List.getElem_mem hqA)
    generalize A[q] = y at *
    have e1 : (D ++ A ++ [x] ++ E)[D.length + q]? = some y := by
      rw [List.append_assoc, List.getElem?_append_left (by simp; omega), List.getElem?_append_right (by simp)]
      simpa using hy
    have e2 : (D ++ A ++ [x] ++ E)[D.length + A.length]? = some x := by
      rw [List.append_assoc, List.getElem?_append_right (by simp)]; simp
    have g1 := sb_at (sp := sp) e1
    have g2 := sb_at (sp := sp) e2
    have h2' := h2
    unfold SB at h2'
    have e3 : IntKind.i64.wrap (((D.length + i : Nat) + (D.length + j : Nat) : Int).fdiv (2 ^ min 1 IntKind.u64.bits)) = (D.length + q : Nat) := half (by omega) (by omega)
    simp (disch := first | omega | (simp only [ds] <;> omega) | fail) only [wk, undefM, Nat.reduceLT, Nat.reduceAdd, Nat.reduceMul, Nat.reduceSub, Nat.reduceBEq, Nat.reduceEqDiff, Int.reduceToNat, reduceIte, tsSo, e3]
    refine WC.plan tabOk .any [(0, .sil), (1, .sil), (2, .sil), (3, .sil), (5, .sil), (6, .sil), (7, .sil), (4, .fk), (8, .one), (9, .one), (10, .sil), (11, .sil)] (by simp) (by kernel_rfl) (by kernel_rfl) (by kernel_rfl) rfl ?_
    simp (disch := first | omega | (simp only [ds] <;> omega) | fail) only [wk, undefM, Nat.reduceLT, Nat.reduceAdd, Nat.reduceMul, Nat.reduceSub, Nat.reduceBEq, Nat.reduceEqDiff, Int.reduceToNat, reduceIte, tsSo]
    refine VL.ld2 (m1 := .str x) (m2 := .str y) tabOk rfl ?_ rfl ?_ rfl rfl rfl rfl rfl rfl rfl rfl rfl (WL.sound tabOk ?_)
    · simp (disch := first | omega | (simp only [ds] <;> omega) | fail) only [wk, undefM, Nat.reduceLT, Nat.reduceAdd, Nat.reduceMul, Nat.reduceSub, Nat.reduceBEq, Nat.reduceEqDiff, Int.reduceToNat, reduceIte, tsSo, h2', g1, g2]
    · simp (disch := first | omega | (simp only [ds] <;> omega) | fail) only [wk, undefM, Nat.reduceLT, Nat.reduceAdd, Nat.reduceMul, Nat.reduceSub, Nat.reduceBEq, Nat.reduceEqDiff, Int.reduceToNat, reduceIte, tsSo, h2', g1, g2]
    simp (disch := first | omega | (simp only [ds] <;> omega) | fail) only [wk, undefM, Nat.reduceLT, Nat.reduceAdd, Nat.reduceMul, Nat.reduceSub, Nat.reduceBEq, Nat.reduceEqDiff, Int.reduceToNat, reduceIte, tsSo, h2', g1, g2]
    refine CallW.rt (Compare_v x y _ hx hyl) (by kernel_rfl) rfl rfl ?_
    rintro _ O3 ⟨rfl, hg3⟩
    have h3 : SB O3 k (D ++ A ++ [x] ++ E) sp := (hg3.hp k hk2).trans h2'
    by_cases hyx : compareV x y < 0
    · simp (disch := first | omega | (simp only [ds] <;> omega) | fail) only [wk, undefM, Nat.reduceLT, Nat.reduceAdd, Nat.reduceMul, Nat.reduceSub, Nat.reduceBEq, Nat.reduceEqDiff, Int.reduceToNat, reduceIte, tsSo]
      refine RoundQ.next (i, q) rfl rfl ⟨h3, hg2.trans hg3, by dsimp only; omega, by dsimp only; omega, hlo, .inr ⟨y, hy, hyx⟩⟩ (by dsimp only; omega)
    · simp (disch := first | omega | (simp only [ds] <;> omega) | fail) only [wk, undefM, Nat.reduceLT, Nat.reduceAdd, Nat.reduceMul, Nat.reduceSub, Nat.reduceBEq, Nat.reduceEqDiff, Int.reduceToNat, reduceIte, tsSo]
      refine RoundQ.next (q + 1, j) rfl rfl ⟨h3, hg2.trans hg3, by dsimp only; omega, hj, .inr ⟨y, hy, hyx⟩, hhi⟩ (by dsimp only; omega)
  · obtain rfl : i = j := by omega
    have hms := merge_one2 hc hA hj hlo hhi
    simp (disch := first | omega | (simp only [ds] <;> omega) | fail) only [wk, undefM, Nat.reduceLT, Nat.reduceAdd, Nat.reduceMul, Nat.reduceSub, Nat.reduceBEq, Nat.reduceEqDiff, Int.reduceToNat, reduceIte, tsSo]
    refine WC.loopK tabOk [17] [0, 14] (fun q : Nat => [mi (D.length + q : Nat)]) (fun q O' => i ≤ q ∧ q ≤ A.length ∧ SB O' k (D ++ (A.take q ++ x :: A.drop q) ++ E) sp ∧ Upd O (some k) O') (fun q => q) (A.length) rfl rfl ?_ ?_
    · exact ⟨hj, Nat.le_refl _, by rw [List.take_length, List.drop_length]; simpa [List.append_assoc] using h2, (Upd.ofGe hg2).any⟩
    rintro q O3 ⟨hq, hqA, h3, hu3⟩
    by_cases hqi : i < q
    · cases q with
      | zero => omega
      | succ q =>
      have hqB : q < A.length := by omega
      have hyd := List.drop_eq_getElem_cons hqB
      have hyt := take_snoc _ _ hqB
      generalize A[q] = y at *
      obtain ⟨P, hP⟩ : ∃ P, P = D ++ A.take q := ⟨_, rfl⟩
      obtain ⟨R, hR⟩ : ∃ R, R = A.drop (q + 1) ++ E := ⟨_, rfl⟩
      have hPl : P.length = D.length + q := by rw [hP, List.length_append, List.length_take]; omega
      have h4 : D ++ (A.take (q + 1) ++ x :: A.drop (q + 1)) ++ E = P ++ y :: x :: R := by rw [hyt, hP, hR]; simp only [List.append_assoc, List.cons_append, List.nil_append]
      have h5 : D ++ (A.take q ++ x :: A.drop q) ++ E = P ++ x :: y :: R := by rw [hyd, hP, hR]; simp only [List.append_assoc, List.cons_append]
      rw [h4] at h3
      have e1 : (P ++ y :: x :: R)[D.length + (q + 1)]? = some x := by rw [List.getElem?_append_right (by omega), hPl, show D.length + (q + 1) - (D.length + q) = 1 by omega]; rfl
      have e2 : (P ++ y :: x :: R)[D.length + q]? = some y := by rw [List.getElem?_append_right (by omega), hPl, Nat.sub_self]; rfl
      have g1 := sb_at (sp := sp) e1
      have g2 := sb_at (sp := sp) e2
      have t1 : ((D.length + (q + 1) : Nat) : Int) - 1 = (D.length + q : Nat) := by omega
      have hLl : (P ++ y :: x :: R).length = n := by rw [← h4]; simp; omega
      have h3' := h3
      unfold SB at h3'
      simp (disch := first | omega | (simp only [ds] <;> omega) | fail) only [wk, undefM, Nat.reduceLT, Nat.reduceAdd, Nat.reduceMul, Nat.reduceSub, Nat.reduceBEq, Nat.reduceEqDiff, Int.reduceToNat, reduceIte, tsSo]
      refine WC.plan tabOk .any [(0, .sil), (1, .sil), (2, .sil), (3, .sil), (4, .sil), (5, .sil), (6, .sil), (7, .sil), (8, .sil), (10, .sil), (11, .sil), (12, .sil), (9, .fk), (13, .one), (14, .sil), (15, .one), (16, .sil), (17, .one)] (by simp) (by kernel_rfl) (by kernel_rfl) (by kernel_rfl) rfl ?_
      simp (disch := first | omega | (simp only [ds] <;> omega) | fail) only [wk, undefM, Nat.reduceLT, Nat.reduceAdd, Nat.reduceMul, Nat.reduceSub, Nat.reduceBEq, Nat.reduceEqDiff, Int.reduceToNat, reduceIte, tsSo, t1]
      refine VL.ld2 (m1 := .str y) (m2 := .str x) tabOk rfl ?_ rfl ?_ rfl rfl rfl rfl rfl rfl rfl rfl rfl (WL.sound tabOk ?_)
      · simp (disch := first | omega | (simp only [ds] <;> omega) | fail) only [wk, undefM, Nat.reduceLT, Nat.reduceAdd, Nat.reduceMul, Nat.reduceSub, Nat.reduceBEq, Nat.reduceEqDiff, Int.reduceToNat, reduceIte, tsSo, h3', g1, g2, t1]
      · simp (disch := first | omega | (simp only [ds] <;> omega) | fail) only [wk, undefM, Nat.reduceLT, Nat.reduceAdd, Nat.reduceMul, Nat.reduceSub, Nat.reduceBEq, Nat.reduceEqDiff, Int.reduceToNat, reduceIte, tsSo, h3', g1, g2, t1]
      simp (disch := first | omega | (simp only [ds] <;> omega) | fail) only [wk, undefM, Nat.reduceLT, Nat.reduceAdd, Nat.reduceMul, Nat.reduceSub, Nat.reduceBEq, Nat.reduceEqDiff, Int.reduceToNat, reduceIte, tsSo, h3', g1, g2, t1]
      have hs := sb_chg (O := O3) (k := k) (sp := sp) (X := .cells (((P ++ y :: x :: R).map MV.str ++ sp).set (D.length + (q + 1)) (.str y))) e1 e2
      rw [chg_comm] at hs
      have hca := chg_app P [] R y x
      rw [List.length_nil, Nat.add_zero, hPl, Nat.add_assoc, List.nil_append, List.nil_append] at hca
      rw [hca] at hs
      refine RoundQ.next q rfl rfl ⟨by omega, by omega, ?_, (hu3.trans Upd.set).trans Upd.set⟩ (by omega)
      rw [h5]; exact hs
    · obtain rfl : i = q := by omega
      simp (disch := first | omega | (simp only [ds] <;> omega) | fail) only [wk, undefM, Nat.reduceLT, Nat.reduceAdd, Nat.reduceMul, Nat.reduceSub, Nat.reduceBEq, Nat.reduceEqDiff, Int.reduceToNat, reduceIte, tsSo]
      exact ⟨by show SB O3 k (D ++ sortS compareV (A ++ [x]) ++ E) sp; rw [hms]; exact h3, hu3⟩
end Go.Proofs.YtjbpnhmjnkolbaaDoor
