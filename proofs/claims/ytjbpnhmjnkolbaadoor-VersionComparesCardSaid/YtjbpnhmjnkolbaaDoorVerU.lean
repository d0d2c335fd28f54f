/-
  The law VersionNumbers: plain, and walked.
-/
import Derived.Test.YtjbpnhmjnkolbaaDoorVerT
set_option linter.unusedVariables false
set_option linter.unusedSimpArgs false
namespace Go.Proofs.YtjbpnhmjnkolbaaDoor
open Go.RowKit
set_option maxRecDepth 10000

theorem lo_D {c : UInt8} (h : isD c = true) : lo c = c := by
  have := isD_le h
  rw [lo, if_neg (by omega)]
theorem even_D {w : List UInt8} (h : w.all isD = true) : even w := by
  rw [List.all_eq_true] at h
  refine ⟨fun c hc => ?_, fun c hc d hd => by rw [h c hc, h d hd]⟩
  have := isD_le (h c hc)
  have h1 : c ≠ 46 := fun e => by subst e; revert this; decide
  have h2 : c ≠ 45 := fun e => by subst e; revert this; decide
  simp [isMk, h1, h2]
theorem map_lo_D {w : List UInt8} (h : w.all isD = true) : w.map lo = w := by
  rw [List.all_eq_true] at h
  conv => rhs; rw [← List.map_id w]
  exact List.map_congr_left fun c hc => lo_D (h c hc)
def strip (w : List UInt8) : List UInt8 := w.dropWhile (· == 48)
theorem strip_D {w : List UInt8} (h : w.all isD = true) : (strip w).all isD = true := by
  rw [List.all_eq_true] at h ⊢
  exact fun c hc => h c ((List.dropWhile_sublist (l := w) (· == 48)).subset hc)
theorem mkV_D {w : List UInt8} (h : w.all isD = true) (hy : Bool) : mkV (w, hy, false) = (hy, true, strip w) := by simp [mkV, h, strip]
theorem cutR_D {w : List UInt8} (h : w.all isD = true) (hy : Bool) : cutR hy [] w = [(w, hy, false)] := by
  have := cutR_run w [] [] hy (by simpa using even_D h)
  simpa [cutR_nil] using this
theorem partsV_D {w : List UInt8} (h : w.all isD = true) : partsV w = [(false, true, strip w)] := by
  unfold partsV
  rw [map_lo_D h, cutF_cutR, cutR_D h, List.map_cons, mkV_D h]
  rfl
theorem partsV_1D {w : List UInt8} (h : w.all isD = true) (c : UInt8) (hc : isMk c = true) : partsV (49 :: c :: w) = (false, true, [49]) :: trimT [(c == 45, true, strip w)] := by
  unfold partsV
  have hl : lo c = c := by
    unfold isMk at hc
    simp only [Bool.or_eq_true, beq_iff_eq] at hc
    rcases hc with rfl | rfl <;> rfl
  rw [List.map_cons, List.map_cons, map_lo_D h, hl]
  have := cutF_app [49] w c hc
  rw [List.singleton_append] at this
  rw [show lo 49 = 49 from rfl, this, cutR_D h, cutF_cutR, cutR_D (by rfl), List.map_append, List.map_cons, List.map_cons, mkV_D h]
  rfl
theorem cmpV_nullL (h : Bool) (z : Prt) : cmpV nullP z = cmpV (h, true, []) z := by cases h <;> rfl
theorem cmpV_nullR (h : Bool) (z : Prt) : cmpV z nullP = cmpV z (h, true, []) := by
  have h1 := cmp_cmpV.anti z nullP
  have h2 := cmp_cmpV.anti z (h, true, [])
  have h3 := cmpV_nullL h z
  omega
theorem cmp_one {x y : List UInt8} (hx : x.all isD = true) (hy : y.all isD = true) : compareV x y = sgn (val x) (val y) := by
  rw [compareV_seq x y 1 (by rw [partsV_D hx]; exact Nat.le_refl _) (by rw [partsV_D hy]; exact Nat.le_refl _), partsV_D hx, partsV_D hy]
  have := cmpV_num false (strip x) (strip y) (strip_D hx) (strip_D hy) (dw_dw x) (dw_dw y)
  rw [show val (strip x) = val x from val_strip x, show val (strip y) = val y from val_strip y] at this
  rw [← this]
  show (if cmpV (false, true, strip x) (false, true, strip y) ≠ 0 then _ else (0 : Int)) = _
  split
  · rfl
  · rename_i h; exact (Decidable.not_not.1 h).symm
theorem getD_trim (h : Bool) (x : List UInt8) (p z : Prt) : cmpV ((p :: trimT [(h, true, x)]).getD 1 nullP) z = cmpV (h, true, x) z ∧ cmpV z ((p :: trimT [(h, true, x)]).getD 1 nullP) = cmpV z (h, true, x) := by
  cases x with
  | nil => exact ⟨cmpV_nullL h z, cmpV_nullR h z⟩
  | cons c x => exact ⟨rfl, rfl⟩
theorem trimT_one (q : Prt) : (trimT [q]).length ≤ 1 := trimT_len [q]
theorem cmp_two {x y : List UInt8} (hx : x.all isD = true) (hy : y.all isD = true) (c : UInt8) (hc : isMk c = true) : compareV (49 :: c :: x) (49 :: c :: y) = sgn (val x) (val y) := by
  have px := partsV_1D hx c hc
  have py := partsV_1D hy c hc
  have l1 := trimT_one (c == 45, true, strip x)
  have l2 := trimT_one (c == 45, true, strip y)
  rw [compareV_seq _ _ 2 (by rw [px, List.length_cons]; omega) (by rw [py, List.length_cons]; omega), px, py]
  have := cmpV_num (c == 45) (strip x) (strip y) (strip_D hx) (strip_D hy) (dw_dw x) (dw_dw y)
  rw [show val (strip x) = val x from val_strip x, show val (strip y) = val y from val_strip y] at this
  rw [← this, ← (getD_trim (c == 45) (strip x) (false, true, [49]) _).1, ← (getD_trim (c == 45) (strip y) (false, true, [49]) _).2]
  rw [seqC, lexC, if_neg (by show ¬ cmpV (false, true, [49]) (false, true, [49]) ≠ 0; rw [cmp_cmpV.refl]; simp), seqC, lexC]
  split
  · rfl
  · rename_i h; exact (Decidable.not_not.1 h).symm
/-! ### The law's texts -/
theorem digit_ok (n : Nat) (h : n < 10) : isD (UInt8.ofNat (48 + n)) = true ∧ (UInt8.ofNat (48 + n)).toNat - 48 = n := by
  have : ∀ n : Fin 10, isD (UInt8.ofNat (48 + n.1)) = true ∧ (UInt8.ofNat (48 + n.1)).toNat - 48 = n.1 := by decide
  exact this ⟨n, h⟩
theorem digitsF_ok (n : Nat) : (digitsF n).all isD = true ∧ val (digitsF n) = n := by
  induction n using Nat.strongRecOn with
  | _ n ih =>
    rw [digitsF]
    split
    · obtain ⟨h1, h2⟩ := digit_ok n ‹_›
      exact ⟨by rw [List.all_cons, h1]; rfl, by rw [val, h2, List.length_nil, Nat.pow_zero, Nat.mul_one]; rfl⟩
    · obtain ⟨h1, h2⟩ := digit_ok (n % 10) (Nat.mod_lt _ (by omega))
      obtain ⟨i1, i2⟩ := ih (n / 10) (by omega)
      refine ⟨by rw [List.all_append, i1, List.all_cons, h1]; rfl, ?_⟩
      rw [val_app, i2, val, h2]
      simp only [val, List.length_cons, List.length_nil, Nat.zero_add, Nat.pow_one, Nat.pow_zero]
      omega
def tailF (m : List UInt8) : List UInt8 := m.map fun c => UInt8.ofNat (48 + c.toNat % 10)
theorem tailF_len (m : List UInt8) : (tailF m).length = m.length := List.length_map _
theorem tailF_D (m : List UInt8) : (tailF m).all isD = true := by
  rw [tailF, List.all_map, List.all_eq_true]
  exact fun c _ => (digit_ok _ (Nat.mod_lt _ (by omega))).1
theorem tail_at (c : UInt8) : ([48, 49, 50, 51, 52, 53, 54, 55, 56, 57].drop (c.toNat % 10)).take 1 = [UInt8.ofNat (48 + c.toNat % 10)] := ten_at _ (Nat.mod_lt _ (by omega))
theorem sgn_scale (a b P z : Nat) (h : 0 < P) : sgn ((a * P + z : Nat) : Int) ((b * P + z : Nat) : Int) = sgn a b := by
  rcases Nat.lt_trichotomy a b with h1 | h1 | h1
  · have : (a + 1) * P ≤ b * P := Nat.mul_le_mul_right _ h1
    rw [Nat.add_mul] at this
    rw [sgn_lt (show (a : Int) < b by omega), sgn_lt (by omega)]
  · subst h1; rw [sgn_eq, sgn_eq]
  · have : (b + 1) * P ≤ a * P := Nat.mul_le_mul_right _ h1
    rw [Nat.add_mul] at this
    rw [sgn_gt (show (b : Int) < a by omega), sgn_gt (by omega)]
theorem cmps (a b : Nat) (t : List UInt8) (ht : t.all isD = true) : compareV (digitsF a) (digitsF b) = sgn a b ∧ compareV (49 :: 46 :: digitsF a) (49 :: 46 :: digitsF b) = sgn a b ∧ compareV (49 :: 45 :: digitsF a) (49 :: 45 :: digitsF b) = sgn a b ∧
    compareV (49 :: 46 :: (digitsF a ++ t)) (49 :: 46 :: (digitsF b ++ t)) = sgn a b := by
  obtain ⟨a1, a2⟩ := digitsF_ok a
  obtain ⟨b1, b2⟩ := digitsF_ok b
  have al : (digitsF a ++ t).all isD = true := by rw [List.all_append, a1, ht]; rfl
  have bl : (digitsF b ++ t).all isD = true := by rw [List.all_append, b1, ht]; rfl
  refine ⟨by rw [cmp_one a1 b1, a2, b2], by rw [cmp_two a1 b1 46 rfl, a2, b2], by rw [cmp_two a1 b1 45 rfl, a2, b2], ?_⟩
  rw [cmp_two al bl 46 rfl, val_app, val_app, a2, b2]
  exact sgn_scale a b _ _ (Nat.pow_pos (by omega))
set_option linter.defProp false in
def tsU := And.intro T9 <| And.intro T3 <| And.intro T4 <| And.intro T5 T40

/-- pomacelaw04.VersionNumbers -/
theorem numbers_law0 (a b : Nat) (more : List UInt8) (O : VH) (ha : a < 18446744073709551616) (hb : b < 18446744073709551616) (hm : more.length ≤ maxLen) : VF Tryd.prog 9 [.v (.int .u64 a), .v (.int .u64 b), .str more] O (Ret fun m O' => m = mb true) := by
  have la : (digitsF a).length ≤ 20 := digitsF_len a 19 (by rw [show (10 : Nat) ^ (19 + 1) = 100000000000000000000 from rfl]; omega)
  have lb : (digitsF b).length ≤ 20 := digitsF_len b 19 (by rw [show (10 : Nat) ^ (19 + 1) = 100000000000000000000 from rfl]; omega)
  refine VF.ofW (n := 84) (rs := [.tmp 6]) tabOk Tryd.func9 rfl rfl rfl (Nat.le_of_ble_eq_true rfl) ?_
  simp only [argEnv, Nat.zero_add, Nat.reduceAdd]
  simp (disch := first | omega | (simp only [ds] <;> omega) | fail) only [ws, undefM, Nat.reduceLT, Nat.reduceAdd, Nat.reduceMul, Nat.reduceSub, Nat.reduceBEq, Nat.reduceEqDiff, Int.reduceToNat, reduceIte, tsU]
  refine CallW.rt (digits_v a _ ha) (by kernel_rfl) rfl rfl ?_
  rintro _ O1 ⟨rfl, rfl⟩
  simp (disch := first | omega | (simp only [ds] <;> omega) | fail) only [ws, undefM, Nat.reduceLT, Nat.reduceAdd, Nat.reduceMul, Nat.reduceSub, Nat.reduceBEq, Nat.reduceEqDiff, Int.reduceToNat, reduceIte, tsU]
  refine CallW.rt (digits_v b _ hb) (by kernel_rfl) rfl rfl ?_
  rintro _ O1 ⟨rfl, rfl⟩
  by_cases h1 : a < b
  · have hw : sgn (a : Int) b = -1 := sgn_lt (by omega)
    by_cases hl : 30 < more.length
    · have hm30 : (more.take 30).length = 30 := by rw [List.length_take]; omega
      simp (disch := first | omega | (simp only [ds] <;> omega) | fail) only [ws, undefM, Nat.reduceLT, Nat.reduceAdd, Nat.reduceMul, Nat.reduceSub, Nat.reduceBEq, Nat.reduceEqDiff, Int.reduceToNat, reduceIte, tsU]
      generalize hmm : more.take 30 = m at *
      refine WC.loopK tabOk [10, 29] [2, 7, 8, 9, 28] (fun i : Nat => [.str (tailF ((m).take i)), mi i]) (fun i O' => i ≤ (m).length) (fun i => (m).length - i) (0) rfl rfl ?_ ?_
      · (exact Nat.zero_le _)
      · rintro i O3 hi
        by_cases c2 : i < (m).length
        · have hi2 : i + 1 ≤ (m).length := c2
          have hgi := List.getElem?_eq_getElem c2
          have ht := tail_at ((m)[i])
          generalize hx : (m)[i] = c at *
          have e2 : (c.toNat : Int).tmod 10 = ((c.toNat % 10 : Nat) : Int) := by
            rw [Int.tmod_eq_emod_of_nonneg (by omega)]; omega
          have hlt : c.toNat % 10 < 10 := Nat.mod_lt _ (by omega)
          have htl : (tailF ((m).take i)).length ≤ 30 := by rw [tailF_len, List.length_take]; omega
          have htk : tailF ((m).take i) ++ [UInt8.ofNat (48 + c.toNat % 10)] = tailF ((m).take (i + 1)) := by
            rw [List.take_add_one, hgi]
            simp only [tailF, List.map_append, Option.toList_some, List.map_cons, List.map_nil]
          have e3 : c.toNat % 10 + 1 - c.toNat % 10 = 1 := by omega
          simp (disch := first | omega | (simp only [ds] <;> omega) | fail) only [ws, undefM, Nat.reduceLT, Nat.reduceAdd, Nat.reduceMul, Nat.reduceSub, Nat.reduceBEq, Nat.reduceEqDiff, Int.reduceToNat, reduceIte, tsU, hgi, byM_def, e2, e3, ht, htk]
          refine WC.reads tabOk (by kernel_rfl) (by kernel_rfl) (by kernel_rfl) ?_
          simp (disch := first | omega | (simp only [ds] <;> omega) | fail) only [ws, undefM, Nat.reduceLT, Nat.reduceAdd, Nat.reduceMul, Nat.reduceSub, Nat.reduceBEq, Nat.reduceEqDiff, Int.reduceToNat, reduceIte, tsU, hgi, byM_def, e2, e3, ht, htk]
          refine RoundQ.next (i + 1) rfl rfl ?_ (by first | omega | (dsimp only; omega))
          exact hi2
        · have hi3 : i = (m).length := by omega
          subst hi3
          rw [List.take_length]
          have htl : (tailF (m)).length ≤ 30 := by rw [tailF_len]; omega
          obtain ⟨q1, q2, q3, q4⟩ := cmps a b (tailF (m)) (tailF_D _)
          rw [hw] at q1 q2 q3 q4
          simp (disch := first | omega | (simp only [ds] <;> omega) | fail) only [ws, undefM, Nat.reduceLT, Nat.reduceAdd, Nat.reduceMul, Nat.reduceSub, Nat.reduceBEq, Nat.reduceEqDiff, Int.reduceToNat, reduceIte, tsU]
          refine CallW.rt (Compare_v _ _ _ (by omega) (by omega)) (by kernel_rfl) rfl rfl ?_
          rintro _ OA ⟨rfl, hgA⟩
          simp (disch := first | omega | (simp only [ds] <;> omega) | fail) only [ws, undefM, Nat.reduceLT, Nat.reduceAdd, Nat.reduceMul, Nat.reduceSub, Nat.reduceBEq, Nat.reduceEqDiff, Int.reduceToNat, reduceIte, tsU, q1]
          refine CallW.rt (Compare_v _ _ _ (by simp only [List.length_cons]; omega) (by simp only [List.length_cons]; omega)) (by kernel_rfl) rfl rfl ?_
          rintro _ OB ⟨rfl, hgB⟩
          simp (disch := first | omega | (simp only [ds] <;> omega) | fail) only [ws, undefM, Nat.reduceLT, Nat.reduceAdd, Nat.reduceMul, Nat.reduceSub, Nat.reduceBEq, Nat.reduceEqDiff, Int.reduceToNat, reduceIte, tsU, q2]
          refine CallW.rt (Compare_v _ _ _ (by simp only [List.length_cons]; omega) (by simp only [List.length_cons]; omega)) (by kernel_rfl) rfl rfl ?_
          rintro _ OC ⟨rfl, hgC⟩
          simp (disch := first | omega | (simp only [ds] <;> omega) | fail) only [ws, undefM, Nat.reduceLT, Nat.reduceAdd, Nat.reduceMul, Nat.reduceSub, Nat.reduceBEq, Nat.reduceEqDiff, Int.reduceToNat, reduceIte, tsU, q3]
          refine CallW.rt (Compare_v _ _ _ (by simp only [List.length_cons, List.length_append]; omega) (by simp only [List.length_cons, List.length_append]; omega)) (by kernel_rfl) rfl rfl ?_
          rintro _ OD ⟨rfl, hgD⟩
          simp (disch := first | omega | (simp only [ds] <;> omega) | fail) only [ws, undefM, Nat.reduceLT, Nat.reduceAdd, Nat.reduceMul, Nat.reduceSub, Nat.reduceBEq, Nat.reduceEqDiff, Int.reduceToNat, reduceIte, tsU, q4]
          refine CallW.rt (lives_v _) (by kernel_rfl) rfl rfl ?_
          rintro _ OE ⟨rfl, hgE⟩
          simp (disch := first | omega | (simp only [ds] <;> omega) | fail) only [ws, undefM, Nat.reduceLT, Nat.reduceAdd, Nat.reduceMul, Nat.reduceSub, Nat.reduceBEq, Nat.reduceEqDiff, Int.reduceToNat, reduceIte, tsU]
    · simp (disch := first | omega | (simp only [ds] <;> omega) | fail) only [ws, undefM, Nat.reduceLT, Nat.reduceAdd, Nat.reduceMul, Nat.reduceSub, Nat.reduceBEq, Nat.reduceEqDiff, Int.reduceToNat, reduceIte, tsU]
      refine WC.loopK tabOk [10, 29] [2, 7, 8, 9, 28] (fun i : Nat => [.str (tailF ((more).take i)), mi i]) (fun i O' => i ≤ (more).length) (fun i => (more).length - i) (0) rfl rfl ?_ ?_
      · (exact Nat.zero_le _)
      · rintro i O3 hi
        by_cases c2 : i < (more).length
        · have hi2 : i + 1 ≤ (more).length := c2
          have hgi := List.getElem?_eq_getElem c2
          have ht := tail_at ((more)[i])
          generalize hx : (more)[i] = c at *
          have e2 : (c.toNat : Int).tmod 10 = ((c.toNat % 10 : Nat) : Int) := by
            rw [Int.tmod_eq_emod_of_nonneg (by omega)]; omega
          have hlt : c.toNat % 10 < 10 := Nat.mod_lt _ (by omega)
          have htl : (tailF ((more).take i)).length ≤ 30 := by rw [tailF_len, List.length_take]; omega
          have htk : tailF ((more).take i) ++ [UInt8.ofNat (48 + c.toNat % 10)] = tailF ((more).take (i + 1)) := by
            rw [List.take_add_one, hgi]
            simp only [tailF, List.map_append, Option.toList_some, List.map_cons, List.map_nil]
          have e3 : c.toNat % 10 + 1 - c.toNat % 10 = 1 := by omega
          simp (disch := first | omega | (simp only [ds] <;> omega) | fail) only [ws, undefM, Nat.reduceLT, Nat.reduceAdd, Nat.reduceMul, Nat.reduceSub, Nat.reduceBEq, Nat.reduceEqDiff, Int.reduceToNat, reduceIte, tsU, hgi, byM_def, e2, e3, ht, htk]
          refine WC.reads tabOk (by kernel_rfl) (by kernel_rfl) (by kernel_rfl) ?_
          simp (disch := first | omega | (simp only [ds] <;> omega) | fail) only [ws, undefM, Nat.reduceLT, Nat.reduceAdd, Nat.reduceMul, Nat.reduceSub, Nat.reduceBEq, Nat.reduceEqDiff, Int.reduceToNat, reduceIte, tsU, hgi, byM_def, e2, e3, ht, htk]
          refine RoundQ.next (i + 1) rfl rfl ?_ (by first | omega | (dsimp only; omega))
          exact hi2
        · have hi3 : i = (more).length := by omega
          subst hi3
          rw [List.take_length]
          have htl : (tailF (more)).length ≤ 30 := by rw [tailF_len]; omega
          obtain ⟨q1, q2, q3, q4⟩ := cmps a b (tailF (more)) (tailF_D _)
          rw [hw] at q1 q2 q3 q4
          simp (disch := first | omega | (simp only [ds] <;> omega) | fail) only [ws, undefM, Nat.reduceLT, Nat.reduceAdd, Nat.reduceMul, Nat.reduceSub, Nat.reduceBEq, Nat.reduceEqDiff, Int.reduceToNat, reduceIte, tsU]
          refine CallW.rt (Compare_v _ _ _ (by omega) (by omega)) (by kernel_rfl) rfl rfl ?_
          rintro _ OA ⟨rfl, hgA⟩
          simp (disch := first | omega | (simp only [ds] <;> omega) | fail) only [ws, undefM, Nat.reduceLT, Nat.reduceAdd, Nat.reduceMul, Nat.reduceSub, Nat.reduceBEq, Nat.reduceEqDiff, Int.reduceToNat, reduceIte, tsU, q1]
          refine CallW.rt (Compare_v _ _ _ (by simp only [List.length_cons]; omega) (by simp only [List.length_cons]; omega)) (by kernel_rfl) rfl rfl ?_
          rintro _ OB ⟨rfl, hgB⟩
          simp (disch := first | omega | (simp only [ds] <;> omega) | fail) only [ws, undefM, Nat.reduceLT, Nat.reduceAdd, Nat.reduceMul, Nat.reduceSub, Nat.reduceBEq, Nat.reduceEqDiff, Int.reduceToNat, reduceIte, tsU, q2]
          refine CallW.rt (Compare_v _ _ _ (by simp only [List.length_cons]; omega) (by simp only [List.length_cons]; omega)) (by kernel_rfl) rfl rfl ?_
          rintro _ OC ⟨rfl, hgC⟩
          simp (disch := first | omega | (simp only [ds] <;> omega) | fail) only [ws, undefM, Nat.reduceLT, Nat.reduceAdd, Nat.reduceMul, Nat.reduceSub, Nat.reduceBEq, Nat.reduceEqDiff, Int.reduceToNat, reduceIte, tsU, q3]
          refine CallW.rt (Compare_v _ _ _ (by simp only [List.length_cons, List.length_append]; omega) (by simp only [List.length_cons, List.length_append]; omega)) (by kernel_rfl) rfl rfl ?_
          rintro _ OD ⟨rfl, hgD⟩
          simp (disch := first | omega | (simp only [ds] <;> omega) | fail) only [ws, undefM, Nat.reduceLT, Nat.reduceAdd, Nat.reduceMul, Nat.reduceSub, Nat.reduceBEq, Nat.reduceEqDiff, Int.reduceToNat, reduceIte, tsU, q4]
          refine CallW.rt (lives_v _) (by kernel_rfl) rfl rfl ?_
          rintro _ OE ⟨rfl, hgE⟩
          simp (disch := first | omega | (simp only [ds] <;> omega) | fail) only [ws, undefM, Nat.reduceLT, Nat.reduceAdd, Nat.reduceMul, Nat.reduceSub, Nat.reduceBEq, Nat.reduceEqDiff, Int.reduceToNat, reduceIte, tsU]
  · by_cases h2 : b < a
    · have hw : sgn (a : Int) b = 1 := sgn_gt (by omega)
      by_cases hl : 30 < more.length
      · have hm30 : (more.take 30).length = 30 := by rw [List.length_take]; omega
        simp (disch := first | omega | (simp only [ds] <;> omega) | fail) only [ws, undefM, Nat.reduceLT, Nat.reduceAdd, Nat.reduceMul, Nat.reduceSub, Nat.reduceBEq, Nat.reduceEqDiff, Int.reduceToNat, reduceIte, tsU]
        generalize hmm : more.take 30 = m at *
        refine WC.loopK tabOk [10, 29] [2, 7, 8, 9, 28] (fun i : Nat => [.str (tailF ((m).take i)), mi i]) (fun i O' => i ≤ (m).length) (fun i => (m).length - i) (0) rfl rfl ?_ ?_
        · (exact Nat.zero_le _)
        · rintro i O3 hi
          by_cases c2 : i < (m).length
          · have hi2 : i + 1 ≤ (m).length := c2
            have hgi := List.getElem?_eq_getElem c2
            have ht := tail_at ((m)[i])
            generalize hx : (m)[i] = c at *
            have e2 : (c.toNat : Int).tmod 10 = ((c.toNat % 10 : Nat) : Int) := by
              rw [Int.tmod_eq_emod_of_nonneg (by omega)]; omega
            have hlt : c.toNat % 10 < 10 := Nat.mod_lt _ (by omega)
            have htl : (tailF ((m).take i)).length ≤ 30 := by rw [tailF_len, List.length_take]; omega
            have htk : tailF ((m).take i) ++ [UInt8.ofNat (48 + c.toNat % 10)] = tailF ((m).take (i + 1)) := by
              rw [List.take_add_one, hgi]
              simp only [tailF, List.map_append, Option.toList_some, List.map_cons, List.map_nil]
            have e3 : c.toNat % 10 + 1 - c.toNat % 10 = 1 := by omega
            simp (disch := first | omega | (simp only [ds] <;> omega) | fail) only [ws, undefM, Nat.reduceLT, Nat.reduceAdd, Nat.reduceMul, Nat.reduceSub, Nat.reduceBEq, Nat.reduceEqDiff, Int.reduceToNat, reduceIte, tsU, hgi, byM_def, e2, e3, ht, htk]
            refine WC.reads tabOk (by kernel_rfl) (by kernel_rfl) (by kernel_rfl) ?_
            simp (disch := first | omega | (simp only [ds] <;> omega) | fail) only [ws, undefM, Nat.reduceLT, Nat.reduceAdd, Nat.reduceMul, Nat.reduceSub, Nat.reduceBEq, Nat.reduceEqDiff, Int.reduceToNat, reduceIte, tsU, hgi, byM_def, e2, e3, ht, htk]
            refine RoundQ.next (i + 1) rfl rfl ?_ (by first | omega | (dsimp only; omega))
            exact hi2
          · have hi3 : i = (m).length := by omega
            subst hi3
            rw [List.take_length]
            have htl : (tailF (m)).length ≤ 30 := by rw [tailF_len]; omega
            obtain ⟨q1, q2, q3, q4⟩ := cmps a b (tailF (m)) (tailF_D _)
            rw [hw] at q1 q2 q3 q4
            simp (disch := first | omega | (simp only [ds] <;> omega) | fail) only [ws, undefM, Nat.reduceLT, Nat.reduceAdd, Nat.reduceMul, Nat.reduceSub, Nat.reduceBEq, Nat.reduceEqDiff, Int.reduceToNat, reduceIte, tsU]
            refine CallW.rt (Compare_v _ _ _ (by omega) (by omega)) (by kernel_rfl) rfl rfl ?_
            rintro _ OA ⟨rfl, hgA⟩
            simp (disch := first | omega | (simp only [ds] <;> omega) | fail) only [ws, undefM, Nat.reduceLT, Nat.reduceAdd, Nat.reduceMul, Nat.reduceSub, Nat.reduceBEq, Nat.reduceEqDiff, Int.reduceToNat, reduceIte, tsU, q1]
            refine CallW.rt (Compare_v _ _ _ (by simp only [List.length_cons]; omega) (by simp only [List.length_cons]; omega)) (by kernel_rfl) rfl rfl ?_
            rintro _ OB ⟨rfl, hgB⟩
            simp (disch := first | omega | (simp only [ds] <;> omega) | fail) only [ws, undefM, Nat.reduceLT, Nat.reduceAdd, Nat.reduceMul, Nat.reduceSub, Nat.reduceBEq, Nat.reduceEqDiff, Int.reduceToNat, reduceIte, tsU, q2]
            refine CallW.rt (Compare_v _ _ _ (by simp only [List.length_cons]; omega) (by simp only [List.length_cons]; omega)) (by kernel_rfl) rfl rfl ?_
            rintro _ OC ⟨rfl, hgC⟩
            simp (disch := first | omega | (simp only [ds] <;> omega) | fail) only [ws, undefM, Nat.reduceLT, Nat.reduceAdd, Nat.reduceMul, Nat.reduceSub, Nat.reduceBEq, Nat.reduceEqDiff, Int.reduceToNat, reduceIte, tsU, q3]
            refine CallW.rt (Compare_v _ _ _ (by simp only [List.length_cons, List.length_append]; omega) (by simp only [List.length_cons, List.length_append]; omega)) (by kernel_rfl) rfl rfl ?_
            rintro _ OD ⟨rfl, hgD⟩
            simp (disch := first | omega | (simp only [ds] <;> omega) | fail) only [ws, undefM, Nat.reduceLT, Nat.reduceAdd, Nat.reduceMul, Nat.reduceSub, Nat.reduceBEq, Nat.reduceEqDiff, Int.reduceToNat, reduceIte, tsU, q4]
            refine CallW.rt (lives_v _) (by kernel_rfl) rfl rfl ?_
            rintro _ OE ⟨rfl, hgE⟩
            simp (disch := first | omega | (simp only [ds] <;> omega) | fail) only [ws, undefM, Nat.reduceLT, Nat.reduceAdd, Nat.reduceMul, Nat.reduceSub, Nat.reduceBEq, Nat.reduceEqDiff, Int.reduceToNat, reduceIte, tsU]
      · simp (disch := first | omega | (simp only [ds] <;> omega) | fail) only [ws, undefM, Nat.reduceLT, Nat.reduceAdd, Nat.reduceMul, Nat.reduceSub, Nat.reduceBEq, Nat.reduceEqDiff, Int.reduceToNat, reduceIte, tsU]
        refine WC.loopK tabOk [10, 29] [2, 7, 8, 9, 28] (fun i : Nat => [.str (tailF ((more).take i)), mi i]) (fun i O' => i ≤ (more).length) (fun i => (more).length - i) (0) rfl rfl ?_ ?_
        · (exact Nat.zero_le _)
        · rintro i O3 hi
          by_cases c2 : i < (more).length
          · have hi2 : i + 1 ≤ (more).length := c2
            have hgi := List.getElem?_eq_getElem c2
            have ht := tail_at ((more)[i])
            generalize hx : (more)[i] = c at *
            have e2 : (c.toNat : Int).tmod 10 = ((c.toNat % 10 : Nat) : Int) := by
              rw [Int.tmod_eq_emod_of_nonneg (by omega)]; omega
            have hlt : c.toNat % 10 < 10 := Nat.mod_lt _ (by omega)
            have htl : (tailF ((more).take i)).length ≤ 30 := by rw [tailF_len, List.length_take]; omega
            have htk : tailF ((more).take i) ++ [UInt8.ofNat (48 + c.toNat % 10)] = tailF ((more).take (i + 1)) := by
              rw [List.take_add_one, hgi]
              simp only [tailF, List.map_append, Option.toList_some, List.map_cons, List.map_nil]
            have e3 : c.toNat % 10 + 1 - c.toNat % 10 = 1 := by omega
            simp (disch := first | omega | (simp only [ds] <;> omega) | fail) only [ws, undefM, Nat.reduceLT, Nat.reduceAdd, Nat.reduceMul, Nat.reduceSub, Nat.reduceBEq, Nat.reduceEqDiff, Int.reduceToNat, reduceIte, tsU, hgi, byM_def, e2, e3, ht, htk]
            refine WC.reads tabOk (by kernel_rfl) (by kernel_rfl) (by kernel_rfl) ?_
            simp (disch := first | omega | (simp only [ds] <;> omega) | fail) only [ws, undefM, Nat.reduceLT, Nat.reduceAdd, Nat.reduceMul, Nat.reduceSub, Nat.reduceBEq, Nat.reduceEqDiff, Int.reduceToNat, reduceIte, tsU, hgi, byM_def, e2, e3, ht, htk]
            refine RoundQ.next (i + 1) rfl rfl ?_ (by first | omega | (dsimp only; omega))
            exact hi2
          · have hi3 : i = (more).length := by omega
            subst hi3
            rw [List.take_length]
            have htl : (tailF (more)).length ≤ 30 := by rw [tailF_len]; omega
            obtain ⟨q1, q2, q3, q4⟩ := cmps a b (tailF (more)) (tailF_D _)
            rw [hw] at q1 q2 q3 q4
            simp (disch := first | omega | (simp only [ds] <;> omega) | fail) only [ws, undefM, Nat.reduceLT, Nat.reduceAdd, Nat.reduceMul, Nat.reduceSub, Nat.reduceBEq, Nat.reduceEqDiff, Int.reduceToNat, reduceIte, tsU]
            refine CallW.rt (Compare_v _ _ _ (by omega) (by omega)) (by kernel_rfl) rfl rfl ?_
            rintro _ OA ⟨rfl, hgA⟩
            simp (disch := first | omega | (simp only [ds] <;> omega) | fail) only [ws, undefM, Nat.reduceLT, Nat.reduceAdd, Nat.reduceMul, Nat.reduceSub, Nat.reduceBEq, Nat.reduceEqDiff, Int.reduceToNat, reduceIte, tsU, q1]
            refine CallW.rt (Compare_v _ _ _ (by simp only [List.length_cons]; omega) (by simp only [List.length_cons]; omega)) (by kernel_rfl) rfl rfl ?_
            rintro _ OB ⟨rfl, hgB⟩
            simp (disch := first | omega | (simp only [ds] <;> omega) | fail) only [ws, undefM, Nat.reduceLT, Nat.reduceAdd, Nat.reduceMul, Nat.reduceSub, Nat.reduceBEq, Nat.reduceEqDiff, Int.reduceToNat, reduceIte, tsU, q2]
            refine CallW.rt (Compare_v _ _ _ (by simp only [List.length_cons]; omega) (by simp only [List.length_cons]; omega)) (by kernel_rfl) rfl rfl ?_
            rintro _ OC ⟨rfl, hgC⟩
            simp (disch := first | omega | (simp only [ds] <;> omega) | fail) only [ws, undefM, Nat.reduceLT, Nat.reduceAdd, Nat.reduceMul, Nat.reduceSub, Nat.reduceBEq, Nat.reduceEqDiff, Int.reduceToNat, reduceIte, tsU, q3]
            refine CallW.rt (Compare_v _ _ _ (by simp only [List.length_cons, List.length_append]; omega) (by simp only [List.length_cons, List.length_append]; omega)) (by kernel_rfl) rfl rfl ?_
            rintro _ OD ⟨rfl, hgD⟩
            simp (disch := first | omega | (simp only [ds] <;> omega) | fail) only [ws, undefM, Nat.reduceLT, Nat.reduceAdd, Nat.reduceMul, Nat.reduceSub, Nat.reduceBEq, Nat.reduceEqDiff, Int.reduceToNat, reduceIte, tsU, q4]
            refine CallW.rt (lives_v _) (by kernel_rfl) rfl rfl ?_
            rintro _ OE ⟨rfl, hgE⟩
            simp (disch := first | omega | (simp only [ds] <;> omega) | fail) only [ws, undefM, Nat.reduceLT, Nat.reduceAdd, Nat.reduceMul, Nat.reduceSub, Nat.reduceBEq, Nat.reduceEqDiff, Int.reduceToNat, reduceIte, tsU]
    · have hw : sgn (a : Int) b = 0 := by rw [show (a : Int) = b by omega]; exact sgn_eq
      by_cases hl : 30 < more.length
      · have hm30 : (more.take 30).length = 30 := by rw [List.length_take]; omega
        simp (disch := first | omega | (simp only [ds] <;> omega) | fail) only [ws, undefM, Nat.reduceLT, Nat.reduceAdd, Nat.reduceMul, Nat.reduceSub, Nat.reduceBEq, Nat.reduceEqDiff, Int.reduceToNat, reduceIte, tsU]
        generalize hmm : more.take 30 = m at *
        refine WC.loopK tabOk [10, 29] [2, 7, 8, 9, 28] (fun i : Nat => [.str (tailF ((m).take i)), mi i]) (fun i O' => i ≤ (m).length) (fun i => (m).length - i) (0) rfl rfl ?_ ?_
        · (exact Nat.zero_le _)
        · rintro i O3 hi
          by_cases c2 : i < (m).length
          · have hi2 : i + 1 ≤ (m).length := c2
            have hgi := List.getElem?_eq_getElem c2
            have ht := tail_at ((m)[i])
            generalize hx : (m)[i] = c at *
            have e2 : (c.toNat : Int).tmod 10 = ((c.toNat % 10 : Nat) : Int) := by
              rw [Int.tmod_eq_emod_of_nonneg (by omega)]; omega
            have hlt : c.toNat % 10 < 10 := Nat.mod_lt _ (by omega)
            have htl : (tailF ((m).take i)).length ≤ 30 := by rw [tailF_len, List.length_take]; omega
            have htk : tailF ((m).take i) ++ [UInt8.ofNat (48 + c.toNat % 10)] = tailF ((m).take (i + 1)) := by
              rw [List.take_add_one, hgi]
              simp only [tailF, List.map_append, Option.toList_some, List.map_cons, List.map_nil]
            have e3 : c.toNat % 10 + 1 - c.toNat % 10 = 1 := by omega
            simp (disch := first | omega | (simp only [ds] <;> omega) | fail) only [ws, undefM, Nat.reduceLT, Nat.reduceAdd, Nat.reduceMul, Nat.reduceSub, Nat.reduceBEq, Nat.reduceEqDiff, Int.reduceToNat, reduceIte, tsU, hgi, byM_def, e2, e3, ht, htk]
            refine WC.reads tabOk (by kernel_rfl) (by kernel_rfl) (by kernel_rfl) ?_
            simp (disch := first | omega | (simp only [ds] <;> omega) | fail) only [ws, undefM, Nat.reduceLT, Nat.reduceAdd, Nat.reduceMul, Nat.reduceSub, Nat.reduceBEq, Nat.reduceEqDiff, Int.reduceToNat, reduceIte, tsU, hgi, byM_def, e2, e3, ht, htk]
            refine RoundQ.next (i + 1) rfl rfl ?_ (by first | omega | (dsimp only; omega))
            exact hi2
          · have hi3 : i = (m).length := by omega
            subst hi3
            rw [List.take_length]
            have htl : (tailF (m)).length ≤ 30 := by rw [tailF_len]; omega
            obtain ⟨q1, q2, q3, q4⟩ := cmps a b (tailF (m)) (tailF_D _)
            rw [hw] at q1 q2 q3 q4
            simp (disch := first | omega | (simp only [ds] <;> omega) | fail) only [ws, undefM, Nat.reduceLT, Nat.reduceAdd, Nat.reduceMul, Nat.reduceSub, Nat.reduceBEq, Nat.reduceEqDiff, Int.reduceToNat, reduceIte, tsU]
            refine CallW.rt (Compare_v _ _ _ (by omega) (by omega)) (by kernel_rfl) rfl rfl ?_
            rintro _ OA ⟨rfl, hgA⟩
            simp (disch := first | omega | (simp only [ds] <;> omega) | fail) only [ws, undefM, Nat.reduceLT, Nat.reduceAdd, Nat.reduceMul, Nat.reduceSub, Nat.reduceBEq, Nat.reduceEqDiff, Int.reduceToNat, reduceIte, tsU, q1]
            refine CallW.rt (Compare_v _ _ _ (by simp only [List.length_cons]; omega) (by simp only [List.length_cons]; omega)) (by kernel_rfl) rfl rfl ?_
            rintro _ OB ⟨rfl, hgB⟩
            simp (disch := first | omega | (simp only [ds] <;> omega) | fail) only [ws, undefM, Nat.reduceLT, Nat.reduceAdd, Nat.reduceMul, Nat.reduceSub, Nat.reduceBEq, Nat.reduceEqDiff, Int.reduceToNat, reduceIte, tsU, q2]
            refine CallW.rt (Compare_v _ _ _ (by simp only [List.length_cons]; omega) (by simp only [List.length_cons]; omega)) (by kernel_rfl) rfl rfl ?_
            rintro _ OC ⟨rfl, hgC⟩
            simp (disch := first | omega | (simp only [ds] <;> omega) | fail) only [ws, undefM, Nat.reduceLT, Nat.reduceAdd, Nat.reduceMul, Nat.reduceSub, Nat.reduceBEq, Nat.reduceEqDiff, Int.reduceToNat, reduceIte, tsU, q3]
            refine CallW.rt (Compare_v _ _ _ (by simp only [List.length_cons, List.length_append]; omega) (by simp only [List.length_cons, List.length_append]; omega)) (by kernel_rfl) rfl rfl ?_
            rintro _ OD ⟨rfl, hgD⟩
            simp (disch := first | omega | (simp only [ds] <;> omega) | fail) only [ws, undefM, Nat.reduceLT, Nat.reduceAdd, Nat.reduceMul, Nat.reduceSub, Nat.reduceBEq, Nat.reduceEqDiff, Int.reduceToNat, reduceIte, tsU, q4]
            refine CallW.rt (lives_v _) (by kernel_rfl) rfl rfl ?_
            rintro _ OE ⟨rfl, hgE⟩
            simp (disch := first | omega | (simp only [ds] <;> omega) | fail) only [ws, undefM, Nat.reduceLT, Nat.reduceAdd, Nat.reduceMul, Nat.reduceSub, Nat.reduceBEq, Nat.reduceEqDiff, Int.reduceToNat, reduceIte, tsU]
      · simp (disch := first | omega | (simp only [ds] <;> omega) | fail) only [ws, undefM, Nat.reduceLT, Nat.reduceAdd, Nat.reduceMul, Nat.reduceSub, Nat.reduceBEq, Nat.reduceEqDiff, Int.reduceToNat, reduceIte, tsU]
        refine WC.loopK tabOk [10, 29] [2, 7, 8, 9, 28] (fun i : Nat => [.str (tailF ((more).take i)), mi i]) (fun i O' => i ≤ (more).length) (fun i => (more).length - i) (0) rfl rfl ?_ ?_
        · (exact Nat.zero_le _)
        · rintro i O3 hi
          by_cases c2 : i < (more).length
          · have hi2 : i + 1 ≤ (more).length := c2
            have hgi := List.getElem?_eq_getElem c2
            have ht := tail_at ((more)[i])
            generalize hx : (more)[i] = c at *
            have e2 : (c.toNat : Int).tmod 10 = ((c.toNat % 10 : Nat) : Int) := by
              rw [Int.tmod_eq_emod_of_nonneg (by omega)]; omega
            have hlt : c.toNat % 10 < 10 := Nat.mod_lt _ (by omega)
            have htl : (tailF ((more).take i)).length ≤ 30 := by rw [tailF_len, List.length_take]; omega
            have htk : tailF ((more).take i) ++ [UInt8.ofNat (48 + c.toNat % 10)] = tailF ((more).take (i + 1)) := by
              rw [List.take_add_one, hgi]
              simp only [tailF, List.map_append, Option.toList_some, List.map_cons, List.map_nil]
            have e3 : c.toNat % 10 + 1 - c.toNat % 10 = 1 := by omega
            simp (disch := first | omega | (simp only [ds] <;> omega) | fail) only [ws, undefM, Nat.reduceLT, Nat.reduceAdd, Nat.reduceMul, Nat.reduceSub, Nat.reduceBEq, Nat.reduceEqDiff, Int.reduceToNat, reduceIte, tsU, hgi, byM_def, e2, e3, ht, htk]
            refine WC.reads tabOk (by kernel_rfl) (by kernel_rfl) (by kernel_rfl) ?_
            simp (disch := first | omega | (simp only [ds] <;> omega) | fail) only [ws, undefM, Nat.reduceLT, Nat.reduceAdd, Nat.reduceMul, Nat.reduceSub, Nat.reduceBEq, Nat.reduceEqDiff, Int.reduceToNat, reduceIte, tsU, hgi, byM_def, e2, e3, ht, htk]
            refine RoundQ.next (i + 1) rfl rfl ?_ (by first | omega | (dsimp only; omega))
            exact hi2
          · have hi3 : i = (more).length := by omega
            subst hi3
            rw [List.take_length]
            have htl : (tailF (more)).length ≤ 30 := by rw [tailF_len]; omega
            obtain ⟨q1, q2, q3, q4⟩ := cmps a b (tailF (more)) (tailF_D _)
            rw [hw] at q1 q2 q3 q4
            simp (disch := first | omega | (simp only [ds] <;> omega) | fail) only [ws, undefM, Nat.reduceLT, Nat.reduceAdd, Nat.reduceMul, Nat.reduceSub, Nat.reduceBEq, Nat.reduceEqDiff, Int.reduceToNat, reduceIte, tsU]
            refine CallW.rt (Compare_v _ _ _ (by omega) (by omega)) (by kernel_rfl) rfl rfl ?_
            rintro _ OA ⟨rfl, hgA⟩
            simp (disch := first | omega | (simp only [ds] <;> omega) | fail) only [ws, undefM, Nat.reduceLT, Nat.reduceAdd, Nat.reduceMul, Nat.reduceSub, Nat.reduceBEq, Nat.reduceEqDiff, Int.reduceToNat, reduceIte, tsU, q1]
            refine CallW.rt (Compare_v _ _ _ (by simp only [List.length_cons]; omega) (by simp only [List.length_cons]; omega)) (by kernel_rfl) rfl rfl ?_
            rintro _ OB ⟨rfl, hgB⟩
            simp (disch := first | omega | (simp only [ds] <;> omega) | fail) only [ws, undefM, Nat.reduceLT, Nat.reduceAdd, Nat.reduceMul, Nat.reduceSub, Nat.reduceBEq, Nat.reduceEqDiff, Int.reduceToNat, reduceIte, tsU, q2]
            refine CallW.rt (Compare_v _ _ _ (by simp only [List.length_cons]; omega) (by simp only [List.length_cons]; omega)) (by kernel_rfl) rfl rfl ?_
            rintro _ OC ⟨rfl, hgC⟩
            simp (disch := first | omega | (simp only [ds] <;> omega) | fail) only [ws, undefM, Nat.reduceLT, Nat.reduceAdd, Nat.reduceMul, Nat.reduceSub, Nat.reduceBEq, Nat.reduceEqDiff, Int.reduceToNat, reduceIte, tsU, q3]
            refine CallW.rt (Compare_v _ _ _ (by simp only [List.length_cons, List.length_append]; omega) (by simp only [List.length_cons, List.length_append]; omega)) (by kernel_rfl) rfl rfl ?_
            rintro _ OD ⟨rfl, hgD⟩
            simp (disch := first | omega | (simp only [ds] <;> omega) | fail) only [ws, undefM, Nat.reduceLT, Nat.reduceAdd, Nat.reduceMul, Nat.reduceSub, Nat.reduceBEq, Nat.reduceEqDiff, Int.reduceToNat, reduceIte, tsU, q4]
            refine CallW.rt (lives_v _) (by kernel_rfl) rfl rfl ?_
            rintro _ OE ⟨rfl, hgE⟩
            simp (disch := first | omega | (simp only [ds] <;> omega) | fail) only [ws, undefM, Nat.reduceLT, Nat.reduceAdd, Nat.reduceMul, Nat.reduceSub, Nat.reduceBEq, Nat.reduceEqDiff, Int.reduceToNat, reduceIte, tsU]
theorem numbers_law (a b : Int) (more : List UInt8) (O : VH) (ha : InK .u64 a) (hb : InK .u64 b) (hm : more.length ≤ maxLen) : VF Tryd.prog 9 [.v (.int .u64 a), .v (.int .u64 b), .str more] O (Ret fun m O' => m = mb true) := by
  have conv : ∀ x : Int, InK .u64 x → ∃ n : Nat, x = n ∧ n < 18446744073709551616 := fun x h => by
    obtain ⟨h1, h2⟩ := h
    exact ⟨x.toNat, by omega, by omega⟩
  obtain ⟨n, rfl, hn⟩ := conv a ha
  obtain ⟨k, rfl, hk⟩ := conv b hb
  exact numbers_law0 n k more O hn hk hm
end Go.Proofs.YtjbpnhmjnkolbaaDoor
