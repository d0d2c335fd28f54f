/-
  The law VersionNulls: plain, and walked.
-/
import Derived.Test.YtjbpnhmjnkolbaaDoorVerQ
import Derived.Test.YtjbpnhmjnkolbaaDoorBr
import Derived.Test.YtjbpnhmjnkolbaaDoorVl
set_option linter.unusedVariables false
set_option linter.unusedSimpArgs false
namespace Go.Proofs.YtjbpnhmjnkolbaaDoor
open Go.RowKit
set_option maxRecDepth 10000

/-- The parts of a text of small letters. -/
def partsL (l : List UInt8) : List Prt := tailT (firstF ((cutF l).map mkV))
theorem partsV_L (s : List UInt8) : partsV s = partsL (s.map lo) := rfl
theorem compareV_parts {a b : List UInt8} (h : partsV a = partsV b) : compareV a b = 0 := by
  have := compareV_cmp.refl a
  unfold compareV at this ⊢
  rw [← h]; exact this
theorem partsL_null (l w : List UInt8) (c : UInt8) (hc : isMk c = true) (hw : even w) (hn : ∀ hy, (mkV (w, hy, false)).2.2 = []) : partsL (l ++ c :: w) = partsL l := by
  unfold partsL
  have h1 : cutR (c == 45) [] w = [(w, c == 45, false)] := by
    have := cutR_run w [] [] (c == 45) (by simpa using hw)
    simpa [cutR_nil] using this
  rw [cutF_app l w c hc, h1, List.map_append]
  have hne := cutF_ne l
  cases hL : cutF l with
  | nil => exact absurd hL hne
  | cons p r =>
    simp only [List.map_cons, List.map_nil, List.cons_append, firstF, tailT]
    rw [trimT_null _ (hn _)]
def sufs : List (List UInt8) := [[], [46, 48], [45, 48], [46, 103, 97], [45, 102, 105, 110, 97, 108], [46, 48, 46, 48], [45, 82, 69, 76, 69, 65, 83, 69], [46, 48, 48]]
theorem even_dec (w : List UInt8) (h : ((w.all fun c => !isMk c) && (w.all fun c => w.all fun d => isD c == isD d)) = true) : even w := by
  simp only [Bool.and_eq_true, List.all_eq_true] at h
  exact ⟨fun c hc => by simpa using h.1 c hc, fun c hc d hd => by simpa using h.2 c hc d hd⟩
theorem parts_suf (s x : List UInt8) (hx : x ∈ sufs) : partsV (s ++ x) = partsV s := by
  rw [partsV_L, partsV_L, List.map_append]
  generalize s.map lo = l
  have one : ∀ (c : UInt8) (w : List UInt8) (l : List UInt8), isMk c = true → ((w.all fun c => !isMk c) && (w.all fun c => w.all fun d => isD c == isD d)) = true → (mkV (w, true, false)).2.2 = [] → partsL (l ++ c :: w) = partsL l := fun c w l h1 h2 h3 =>
    partsL_null l w c h1 (even_dec w h2) (fun hy => h3)
  simp only [sufs, List.mem_cons, List.not_mem_nil, or_false] at hx
  rcases hx with rfl | rfl | rfl | rfl | rfl | rfl | rfl | rfl
  · simp
  · exact one 46 [48] l rfl rfl rfl
  · exact one 45 [48] l rfl rfl rfl
  · exact one 46 [103, 97] l rfl rfl rfl
  · exact one 45 [102, 105, 110, 97, 108] l rfl rfl rfl
  · have := one 46 [48] (l ++ [46, 48]) rfl rfl rfl
    rw [List.append_assoc] at this
    exact this.trans (one 46 [48] l rfl rfl rfl)
  · exact one 45 [114, 101, 108, 101, 97, 115, 101] l rfl rfl rfl
  · exact one 46 [48, 48] l rfl rfl rfl
theorem partsL_front (a b l : List UInt8) (ha : even a) (hb : even b) (h : mkV (a, false, false) = mkV (b, false, false)) : partsL (a ++ 46 :: l) = partsL (b ++ 46 :: l) := by
  unfold partsL
  have h1 : ∀ w, even w → cutF w = [(w, false, false)] := fun w hw => by
    rw [cutF_cutR]
    have := cutR_run w [] [] false (by simpa using hw)
    simpa [cutR_nil] using this
  rw [cutF_app a l 46 rfl, cutF_app b l 46 rfl, h1 a ha, h1 b hb, List.map_append, List.map_append]
  simp [h]
theorem parts_one (s : List UInt8) : partsV ([49, 46] ++ s) = partsV ([48, 49, 46] ++ s) := by
  rw [partsV_L, partsV_L, List.map_append, List.map_append]
  exact partsL_front [49] [48, 49] (s.map lo) (even_dec _ rfl) (even_dec _ rfl) rfl
theorem lo_up (c : UInt8) (h0 : 97 ≤ c.toNat) (h1 : c.toNat ≤ 122) : lo (UInt8.ofNat (c.toNat - 32)) = lo c ∧ (UInt8.ofNat (c.toNat - 32)).toNat = c.toNat - 32 := by
  have e : (UInt8.ofNat (c.toNat - 32)).toNat = c.toNat - 32 := by rw [UInt8.toNat_ofNat']; omega
  refine ⟨?_, e⟩
  rw [lo, if_pos (by rw [e]; omega), lo, if_neg (by omega), e]
  rw [← UInt8.toNat_inj, UInt8.toNat_ofNat']; omega
set_option linter.defProp false in
def tsR := And.intro T9 <| And.intro T3 <| And.intro T4 <| And.intro T5 <| And.intro T37 <| And.intro T38 T36

/-- pomacelaw04.VersionNulls -/
theorem nulls_law (s : List UInt8) (how : Int) (O : VH) (hs : s.length ≤ maxLen) (hh : InK .u64 how) : VF Tryd.prog 8 [.str s, .v (.int .u64 how)] O (Ret fun m O' => m = mb true) := by
  have hh0 : 0 ≤ how := by have := hh.1; simpa [IntKind.min, IntKind.signed] using this
  have hbk := VH.push_new O (.cells (s.map byM))
  have hge0 := (VH.Ge.refl O).push (.cells (s.map byM))
  refine VF.ofW (n := 66) (rs := [.tmp 4]) tabOk Tryd.func8 rfl rfl rfl (Nat.le_of_ble_eq_true rfl) ?_
  simp only [argEnv, Nat.zero_add, Nat.reduceAdd]
  simp (disch := first | omega | (simp only [ds] <;> omega) | fail) only [ws, undefM, Nat.reduceLT, Nat.reduceAdd, Nat.reduceMul, Nat.reduceSub, Nat.reduceBEq, Nat.reduceEqDiff, Int.reduceToNat, reduceIte, tsR]
  refine CallW.rt (rMay_v s _ hs) (by kernel_rfl) rfl rfl ?_
  rintro _ O1 ⟨rfl, rfl⟩
  cases hmay : mayF s
  · simp (disch := first | omega | (simp only [ds] <;> omega) | fail) only [ws, undefM, Nat.reduceLT, Nat.reduceAdd, Nat.reduceMul, Nat.reduceSub, Nat.reduceBEq, Nat.reduceEqDiff, Int.reduceToNat, reduceIte, tsR]
    refine CallW.rt (lives_v _) (by kernel_rfl) rfl rfl ?_
    rintro _ O5 ⟨rfl, hg5⟩
    simp (disch := first | omega | (simp only [ds] <;> omega) | fail) only [ws, undefM, Nat.reduceLT, Nat.reduceAdd, Nat.reduceMul, Nat.reduceSub, Nat.reduceBEq, Nat.reduceEqDiff, Int.reduceToNat, reduceIte, tsR]
  · have h64 : s.length ≤ 64 := by
      unfold mayF at hmay
      simp only [Bool.and_eq_true, decide_eq_true_eq] at hmay
      exact hmay.2.2
    simp (disch := first | omega | (simp only [ds] <;> omega) | fail) only [ws, undefM, Nat.reduceLT, Nat.reduceAdd, Nat.reduceMul, Nat.reduceSub, Nat.reduceBEq, Nat.reduceEqDiff, Int.reduceToNat, reduceIte, tsR]
    refine VL.bytes tabOk (el := 5) (l := s) rfl rfl (by rw [ty9]; rfl) (by rw [ty37]; rfl) (by rw [ty5]; rfl) hs rfl fun cap h1 h2 => WL.sound tabOk ?_
    simp (disch := first | omega | (simp only [ds] <;> omega) | fail) only [ws, undefM, Nat.reduceLT, Nat.reduceAdd, Nat.reduceMul, Nat.reduceSub, Nat.reduceBEq, Nat.reduceEqDiff, Int.reduceToNat, reduceIte, tsR]
    generalize hb : O1.next = b at *
    refine WC.loopK tabOk [17] [0, 1, 5, 15, 16] (fun j : Nat => [mi j]) (fun j O' => j ≤ s.length ∧ ∃ u : List UInt8, u.length = s.length ∧ u.map lo = s.map lo ∧ O'.hp b = some (.cells (u.map byM))) (fun j => s.length - j) (0) rfl rfl ?_ ?_
    · exact ⟨Nat.zero_le _, s, rfl, rfl, hbk⟩
    rintro j O2 ⟨hj, u, hul, hulo, hO2⟩
    by_cases h2 : j < s.length
    · have hju : j < u.length := by omega
      have hgi := List.getElem?_eq_getElem hju
      have hcl : (u.map byM).length = s.length := by rw [List.length_map, hul]
      generalize hx : u[j] = c at *
      have hskip : ∃ u : List UInt8, u.length = s.length ∧ u.map lo = s.map lo ∧ O2.hp b = some (.cells (u.map byM)) := ⟨u, hul, hulo, hO2⟩
      by_cases c1 : 97 ≤ c.toNat
      · by_cases c2 : c.toNat ≤ 122
        · simp (disch := first | omega | (simp only [ds] <;> omega) | fail) only [ws, undefM, Nat.reduceLT, Nat.reduceAdd, Nat.reduceMul, Nat.reduceSub, Nat.reduceBEq, Nat.reduceEqDiff, Int.reduceToNat, reduceIte, tsR, hgi, hO2, byM_def, Int.tmod_eq_emod_of_nonneg]
          generalize hX : IntKind.wrap _ _ = X
          by_cases c3 : X = 1
          · obtain ⟨e1, e2⟩ := lo_up c c1 c2
            simp (disch := first | omega | (simp only [ds] <;> omega) | fail) only [ws, undefM, Nat.reduceLT, Nat.reduceAdd, Nat.reduceMul, Nat.reduceSub, Nat.reduceBEq, Nat.reduceEqDiff, Int.reduceToNat, reduceIte, tsR, hgi, hO2, byM_def, Int.tmod_eq_emod_of_nonneg]
            refine RoundQ.next (j + 1) rfl rfl ?_ (by first | omega | (dsimp only; omega))
            refine ⟨by omega, u.set j (UInt8.ofNat (c.toNat - 32)), by simpa using hul, ?_, ?_⟩
            · rw [List.map_set, e1, ← hx, ← hulo]
              apply List.ext_getElem?
              intro i
              rw [List.getElem?_set]
              split
              · rename_i hi; subst hi; simp [hju]
              · rfl
            · rw [VH.set_get, List.map_set, byM_def, e2]
              congr 5
              omega
          · simp (disch := first | omega | (simp only [ds] <;> omega) | fail) only [ws, undefM, Nat.reduceLT, Nat.reduceAdd, Nat.reduceMul, Nat.reduceSub, Nat.reduceBEq, Nat.reduceEqDiff, Int.reduceToNat, reduceIte, tsR, hgi, hO2, byM_def, Int.tmod_eq_emod_of_nonneg]
            refine RoundQ.next (j + 1) rfl rfl ?_ (by first | omega | (dsimp only; omega))
            exact ⟨by omega, hskip⟩
        · simp (disch := first | omega | (simp only [ds] <;> omega) | fail) only [ws, undefM, Nat.reduceLT, Nat.reduceAdd, Nat.reduceMul, Nat.reduceSub, Nat.reduceBEq, Nat.reduceEqDiff, Int.reduceToNat, reduceIte, tsR, hgi, hO2, byM_def, Int.tmod_eq_emod_of_nonneg]
          refine RoundQ.next (j + 1) rfl rfl ?_ (by first | omega | (dsimp only; omega))
          exact ⟨by omega, hskip⟩
      · simp (disch := first | omega | (simp only [ds] <;> omega) | fail) only [ws, undefM, Nat.reduceLT, Nat.reduceAdd, Nat.reduceMul, Nat.reduceSub, Nat.reduceBEq, Nat.reduceEqDiff, Int.reduceToNat, reduceIte, tsR, hgi, hO2, byM_def, Int.tmod_eq_emod_of_nonneg]
        refine RoundQ.next (j + 1) rfl rfl ?_ (by first | omega | (dsimp only; omega))
        exact ⟨by omega, hskip⟩
    · simp (disch := first | omega | (simp only [ds] <;> omega) | fail) only [ws, undefM, Nat.reduceLT, Nat.reduceAdd, Nat.reduceMul, Nat.reduceSub, Nat.reduceBEq, Nat.reduceEqDiff, Int.reduceToNat, reduceIte, tsR]
      obtain ⟨q, hq, hqe⟩ : ∃ q : Nat, q < 8 ∧ (how.fdiv (2 ^ min 16 IntKind.u64.bits)).tmod 8 = q := by
        have h0 : 0 ≤ how.fdiv (2 ^ min 16 IntKind.u64.bits) := by
          rw [Int.fdiv_eq_ediv_of_nonneg _ (by decide)]
          exact Int.ediv_nonneg hh0 (by decide)
        rw [Int.tmod_eq_emod_of_nonneg h0]
        exact ⟨((how.fdiv (2 ^ min 16 IntKind.u64.bits)) % 8).toNat, by omega, by omega⟩
      obtain ⟨x, hx, hxm⟩ : ∃ x, [MV.str [], MV.str [46, 48], MV.str [45, 48], MV.str [46, 103, 97], MV.str [45, 102, 105, 110, 97, 108], MV.str [46, 48, 46, 48], MV.str [45, 82, 69, 76, 69, 65, 83, 69], MV.str [46, 48, 48]][q]? = some (MV.str x) ∧ x ∈ sufs := by
        have hl : q < sufs.length := hq
        refine ⟨sufs[q], ?_, List.getElem_mem hl⟩
        have : (sufs.map MV.str)[q]? = some (MV.str sufs[q]) := by rw [List.getElem?_map, List.getElem?_eq_getElem hl]; rfl
        exact this
      have hxl : x.length ≤ 8 := by
        simp only [sufs, List.mem_cons, List.not_mem_nil, or_false] at hxm
        rcases hxm with rfl | rfl | rfl | rfl | rfl | rfl | rfl | rfl <;> simp
      have hpq : compareV s (u ++ x) = 0 := by
        apply compareV_parts
        rw [parts_suf u x hxm, partsV_L, partsV_L, hulo]
      have hp1 : compareV (49 :: 46 :: s) (48 :: 49 :: 46 :: s) = 0 := compareV_parts (parts_one s)
      refine VC.draw (by kernel_rfl) ?_
      refine VAny.pre1 tabOk 0 rfl (by kernel_rfl) (by kernel_rfl) (by kernel_rfl) rfl rfl ?_
      simp (disch := first | omega | (simp only [ds] <;> omega) | fail) only [ws, undefM, Nat.reduceLT, Nat.reduceAdd, Nat.reduceMul, Nat.reduceSub, Nat.reduceBEq, Nat.reduceEqDiff, Int.reduceToNat, reduceIte, PreK_some, putM_some, tsR]
      refine VAny.pre1 tabOk 3 rfl (by kernel_rfl) (by kernel_rfl) (by kernel_rfl) rfl rfl ?_
      simp (disch := first | omega | (simp only [ds] <;> omega) | fail) only [ws, undefM, Nat.reduceLT, Nat.reduceAdd, Nat.reduceMul, Nat.reduceSub, Nat.reduceBEq, Nat.reduceEqDiff, Int.reduceToNat, reduceIte, PreK_some, putM_some, tsR]
      refine VAny.pre1 tabOk 4 rfl (by kernel_rfl) (by kernel_rfl) (by kernel_rfl) rfl rfl ?_
      simp (disch := first | omega | (simp only [ds] <;> omega) | fail) only [ws, undefM, Nat.reduceLT, Nat.reduceAdd, Nat.reduceMul, Nat.reduceSub, Nat.reduceBEq, Nat.reduceEqDiff, Int.reduceToNat, reduceIte, PreK_some, putM_some, tsR]
      refine VAny.pre1 tabOk 5 rfl (by kernel_rfl) (by kernel_rfl) (by kernel_rfl) rfl rfl ?_
      simp (disch := first | omega | (simp only [ds] <;> omega) | fail) only [ws, undefM, Nat.reduceLT, Nat.reduceAdd, Nat.reduceMul, Nat.reduceSub, Nat.reduceBEq, Nat.reduceEqDiff, Int.reduceToNat, reduceIte, PreK_some, putM_some, tsR, hqe]
      refine VAny.all (rs := [1, 2]) (by kernel_rfl) (by simp) fun i hi => ?_
      simp only [List.mem_cons, List.not_mem_nil, or_false] at hi
      rcases hi with rfl | rfl
      · refine VOne.st rfl rfl rfl (textA_M tabOk (el := 5) (l := u) rfl (by rw [ty37]; rfl) (by rw [ty9]; rfl) (by rw [ty5]; rfl) hO2 hul.symm (by simp [← hul, List.take_of_length_le])) ?_
        rintro _ _ ⟨rfl, rfl⟩
        refine VAny.plan tabOk [(2, .one), (6, .sil), (7, .one), (8, .sil), (9, .sil)] (by kernel_rfl) (by kernel_rfl) rfl ?_
        simp (disch := first | omega | (simp only [ds] <;> omega) | fail) only [ws, undefM, Nat.reduceLT, Nat.reduceAdd, Nat.reduceMul, Nat.reduceSub, Nat.reduceBEq, Nat.reduceEqDiff, Int.reduceToNat, reduceIte, tsR, hx]
        refine CallW.rt (Compare_v _ _ _ (by omega) (by simp only [List.length_append]; omega)) (by kernel_rfl) rfl rfl ?_
        rintro _ OA ⟨rfl, hgA⟩
        simp (disch := first | omega | (simp only [ds] <;> omega) | fail) only [ws, undefM, Nat.reduceLT, Nat.reduceAdd, Nat.reduceMul, Nat.reduceSub, Nat.reduceBEq, Nat.reduceEqDiff, Int.reduceToNat, reduceIte, tsR, hpq]
        refine CallW.rt (Compare_v _ _ _ (by simp only [List.length_append, List.length_cons, List.length_nil]; omega) (by simp only [List.length_append, List.length_cons, List.length_nil]; omega)) (by kernel_rfl) rfl rfl ?_
        rintro _ OB ⟨rfl, hgB⟩
        simp (disch := first | omega | (simp only [ds] <;> omega) | fail) only [ws, undefM, Nat.reduceLT, Nat.reduceAdd, Nat.reduceMul, Nat.reduceSub, Nat.reduceBEq, Nat.reduceEqDiff, Int.reduceToNat, reduceIte, tsR, hp1]
        refine CallW.rt (lives_v _) (by kernel_rfl) rfl rfl ?_
        rintro _ OC ⟨rfl, hgC⟩
        simp (disch := first | omega | (simp only [ds] <;> omega) | fail) only [ws, undefM, Nat.reduceLT, Nat.reduceAdd, Nat.reduceMul, Nat.reduceSub, Nat.reduceBEq, Nat.reduceEqDiff, Int.reduceToNat, reduceIte, tsR]
      · refine VOne.o1 tabOk rfl rfl rfl ?_
        simp (disch := first | omega | (simp only [ds] <;> omega) | fail) only [ws, undefM, Nat.reduceLT, Nat.reduceAdd, Nat.reduceMul, Nat.reduceSub, Nat.reduceBEq, Nat.reduceEqDiff, Int.reduceToNat, reduceIte, PreK_some, putM_some, tsR]
        refine VAny.pre1 tabOk 6 rfl (by kernel_rfl) (by kernel_rfl) (by kernel_rfl) rfl rfl ?_
        simp (disch := first | omega | (simp only [ds] <;> omega) | fail) only [ws, undefM, Nat.reduceLT, Nat.reduceAdd, Nat.reduceMul, Nat.reduceSub, Nat.reduceBEq, Nat.reduceEqDiff, Int.reduceToNat, reduceIte, PreK_some, putM_some, tsR]
        refine VAny.plan tabOk [(1, .fk), (7, .one), (8, .sil), (9, .sil)] (by kernel_rfl) (by kernel_rfl) rfl ?_
        simp (disch := first | omega | (simp only [ds] <;> omega) | fail) only [ws, undefM, Nat.reduceLT, Nat.reduceAdd, Nat.reduceMul, Nat.reduceSub, Nat.reduceBEq, Nat.reduceEqDiff, Int.reduceToNat, reduceIte, tsR]
        refine VL.forkM tabOk (mi := .str u) (mj := .str x) (mj' := .str x) (O2 := O2) (O2' := O2) rfl (textA_M tabOk (el := 5) (l := u) rfl (by rw [ty37]; rfl) (by rw [ty9]; rfl) (by rw [ty5]; rfl) hO2 hul.symm (by simp [← hul, List.take_of_length_le])) rfl rfl ?_ rfl rfl ?_ rfl (textA_M tabOk (el := 5) (l := u) rfl (by rw [ty37]; rfl) (by rw [ty9]; rfl) (by rw [ty5]; rfl) hO2 hul.symm (by simp [← hul, List.take_of_length_le])) (WL.sound tabOk ?_) (WL.sound tabOk ?_)
        · simp (disch := first | omega | (simp only [ds] <;> omega) | fail) only [ws, undefM, Nat.reduceLT, Nat.reduceAdd, Nat.reduceMul, Nat.reduceSub, Nat.reduceBEq, Nat.reduceEqDiff, Int.reduceToNat, reduceIte, tsR, hx]
        · simp (disch := first | omega | (simp only [ds] <;> omega) | fail) only [ws, undefM, Nat.reduceLT, Nat.reduceAdd, Nat.reduceMul, Nat.reduceSub, Nat.reduceBEq, Nat.reduceEqDiff, Int.reduceToNat, reduceIte, tsR, hx]
        · simp (disch := first | omega | (simp only [ds] <;> omega) | fail) only [ws, undefM, Nat.reduceLT, Nat.reduceAdd, Nat.reduceMul, Nat.reduceSub, Nat.reduceBEq, Nat.reduceEqDiff, Int.reduceToNat, reduceIte, tsR, hx]
          refine CallW.rt (Compare_v _ _ _ (by omega) (by simp only [List.length_append]; omega)) (by kernel_rfl) rfl rfl ?_
          rintro _ OA ⟨rfl, hgA⟩
          simp (disch := first | omega | (simp only [ds] <;> omega) | fail) only [ws, undefM, Nat.reduceLT, Nat.reduceAdd, Nat.reduceMul, Nat.reduceSub, Nat.reduceBEq, Nat.reduceEqDiff, Int.reduceToNat, reduceIte, tsR, hpq]
          refine CallW.rt (Compare_v _ _ _ (by simp only [List.length_append, List.length_cons, List.length_nil]; omega) (by simp only [List.length_append, List.length_cons, List.length_nil]; omega)) (by kernel_rfl) rfl rfl ?_
          rintro _ OB ⟨rfl, hgB⟩
          simp (disch := first | omega | (simp only [ds] <;> omega) | fail) only [ws, undefM, Nat.reduceLT, Nat.reduceAdd, Nat.reduceMul, Nat.reduceSub, Nat.reduceBEq, Nat.reduceEqDiff, Int.reduceToNat, reduceIte, tsR, hp1]
          refine CallW.rt (lives_v _) (by kernel_rfl) rfl rfl ?_
          rintro _ OC ⟨rfl, hgC⟩
          simp (disch := first | omega | (simp only [ds] <;> omega) | fail) only [ws, undefM, Nat.reduceLT, Nat.reduceAdd, Nat.reduceMul, Nat.reduceSub, Nat.reduceBEq, Nat.reduceEqDiff, Int.reduceToNat, reduceIte, tsR]
        · simp (disch := first | omega | (simp only [ds] <;> omega) | fail) only [ws, undefM, Nat.reduceLT, Nat.reduceAdd, Nat.reduceMul, Nat.reduceSub, Nat.reduceBEq, Nat.reduceEqDiff, Int.reduceToNat, reduceIte, tsR, hx]
          refine CallW.rt (Compare_v _ _ _ (by omega) (by simp only [List.length_append]; omega)) (by kernel_rfl) rfl rfl ?_
          rintro _ OA ⟨rfl, hgA⟩
          simp (disch := first | omega | (simp only [ds] <;> omega) | fail) only [ws, undefM, Nat.reduceLT, Nat.reduceAdd, Nat.reduceMul, Nat.reduceSub, Nat.reduceBEq, Nat.reduceEqDiff, Int.reduceToNat, reduceIte, tsR, hpq]
          refine CallW.rt (Compare_v _ _ _ (by simp only [List.length_append, List.length_cons, List.length_nil]; omega) (by simp only [List.length_append, List.length_cons, List.length_nil]; omega)) (by kernel_rfl) rfl rfl ?_
          rintro _ OB ⟨rfl, hgB⟩
          simp (disch := first | omega | (simp only [ds] <;> omega) | fail) only [ws, undefM, Nat.reduceLT, Nat.reduceAdd, Nat.reduceMul, Nat.reduceSub, Nat.reduceBEq, Nat.reduceEqDiff, Int.reduceToNat, reduceIte, tsR, hp1]
          refine CallW.rt (lives_v _) (by kernel_rfl) rfl rfl ?_
          rintro _ OC ⟨rfl, hgC⟩
          simp (disch := first | omega | (simp only [ds] <;> omega) | fail) only [ws, undefM, Nat.reduceLT, Nat.reduceAdd, Nat.reduceMul, Nat.reduceSub, Nat.reduceBEq, Nat.reduceEqDiff, Int.reduceToNat, reduceIte, tsR]
end Go.Proofs.YtjbpnhmjnkolbaaDoor
