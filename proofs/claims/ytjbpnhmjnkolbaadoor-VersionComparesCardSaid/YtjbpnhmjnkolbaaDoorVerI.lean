/-
  slices.Delete of one part; version.Parts, walked.
-/
import Derived.Test.YtjbpnhmjnkolbaaDoorVerH
import Derived.Test.YtjbpnhmjnkolbaaDoorBld
set_option linter.unusedVariables false
set_option linter.unusedSimpArgs false
namespace Go.Proofs.YtjbpnhmjnkolbaaDoor
open Go.RowKit
set_option maxRecDepth 10000
set_option linter.defProp false in
def tsI := And.intro T9 <| And.intro T3 <| And.intro T4 <| And.intro T23 <| And.intro T28 <| And.intro T47 T50

abbrev PRow (O : VH) (B k c : Nat) (L : List Prt) : Prop := Row O 28 3 B k c (L.flatMap prM)
theorem flat_split (L : List Prt) (i : Nat) : (L.flatMap prM).take (i * 3) = (L.take i).flatMap prM ∧ (L.flatMap prM).drop (i * 3) = (L.drop i).flatMap prM := by
  induction i generalizing L with
  | zero => simp
  | succ i ih =>
    cases L with
    | nil => simp
    | cons p L =>
      have := ih L
      simp only [List.flatMap_cons, List.take_succ_cons, List.drop_succ_cons]
      rw [show (i + 1) * 3 = (prM p).length + i * 3 from by simp [prM]; omega, List.take_append, List.drop_append]
      rw [List.take_of_length_le (by simp [prM]), List.drop_of_length_le (by simp [prM])]
      simp [this.1, this.2]
/-- slices.Delete of one part -/
theorem Delete_v {O : VH} {B k c : Nat} {L : List Prt} (i : Nat) (h : PRow O B k c L) (hi : i < L.length) (hc : L.length ≤ c) (hm : L.length ≤ 9223372036854775807) : VF Tryd.prog 31 [.asl k 0 L.length c, mi i, mi (i + 1)] O (Ret fun m O' => m = .asl k 0 (L.length - 1) c ∧ PRow O' B k c (L.take i ++ L.drop (i + 1)) ∧ Upd O (some k) O') := by
  obtain ⟨sp, h1, h2⟩ := h.cells
  have hpl := pr_len L
  refine VF.ofW (n := 33) (rs := [.tmp 6]) tabOk Tryd.func31 rfl rfl rfl (Nat.le_of_ble_eq_true rfl) ?_
  simp only [argEnv, Nat.zero_add, Nat.reduceAdd]
  simp (disch := first | omega | (simp only [ds] <;> omega) | fail) only [ws, undefM, Nat.reduceLT, Nat.reduceAdd, Nat.reduceMul, Nat.reduceSub, Nat.reduceBEq, Nat.reduceEqDiff, Int.reduceToNat, reduceIte, tsI, sl3_a ty23 ty28]
  refine WC.plan tabOk .any [(0, .sil), (1, .sil), (2, .sil), (3, .sil), (4, .sil), (5, .sil), (6, .one), (7, .sil)] (by simp) (by kernel_rfl) (by kernel_rfl) (by kernel_rfl) rfl ?_
  obtain ⟨fs1, fs2⟩ := flat_split L i
  obtain ⟨fs3, fs4⟩ := flat_split L (i + 1)
  have hA : ((L.take i).flatMap prM).length = i * 3 := by rw [pr_len, List.length_take, Nat.min_eq_left (by omega)]
  have hD : ((L.drop (i + 1)).flatMap prM).length = (L.length - (i + 1)) * 3 := by rw [pr_len, List.length_drop]
  have hcs : L.flatMap prM ++ sp = (L.take i).flatMap prM ++ ((L.drop i).flatMap prM ++ sp) := by rw [← List.append_assoc, ← fs1, ← fs2, List.take_append_drop]
  have hlen : (L.flatMap prM ++ sp).length = L.length * 3 + sp.length := by rw [List.length_append, hpl]
  have hsrc : ∀ o' c', (o' = (i + 1) * 3 ∨ L.length - (i + 1) = 0) → o' ≤ (i + 1) * 3 → srcM O 3 (.asl k o' (L.length - (i + 1)) c') = some (L.length - (i + 1), (L.drop (i + 1)).flatMap prM) := fun o' c' ho ho2 => by
    simp only [srcM, h1]
    rw [if_pos (by rw [hlen]; omega)]
    congr 2
    rcases ho with rfl | ho
    · rw [List.drop_append_of_le_length (by rw [hpl]; omega), fs4, List.take_append_of_le_length (by rw [hD]; omega), List.take_of_length_le (by rw [hD]; omega)]
    · rw [ho, Nat.zero_mul, List.take_zero]
      rw [ho, Nat.zero_mul] at hD
      exact (List.eq_nil_of_length_eq_zero hD).symm
  have hlf : ((L.drop (i + 1)).flatMap prM).all leafB = true := by
    rw [List.all_flatMap, List.all_eq_true]; intro p _; rfl
  have hset : setMany (L.flatMap prM ++ sp) (0 + i * 3) ((L.drop (i + 1)).flatMap prM) = ((L.take i).flatMap prM ++ (L.drop (i + 1)).flatMap prM) ++ ((L.drop i).flatMap prM ++ sp).drop ((L.drop (i + 1)).flatMap prM).length := by
    have e1 := setMany_app ((L.take i).flatMap prM) ((L.drop (i + 1)).flatMap prM) ((L.drop i).flatMap prM ++ sp)
    rw [hA, List.take_of_length_le (l := (L.drop (i + 1)).flatMap prM) (by
      rw [List.length_append, pr_len, pr_len, List.length_drop, List.length_drop]; omega)] at e1
    rw [hcs, Nat.zero_add, e1]
  simp (disch := first | omega | (simp only [ds] <;> omega) | fail) only [ws, undefM, Nat.reduceLT, Nat.reduceAdd, Nat.reduceMul, Nat.reduceSub, Nat.reduceBEq, Nat.reduceEqDiff, Int.reduceToNat, reduceIte, tsI]
  have hn : i + (L.length - (i + 1)) = L.length - 1 := by omega
  have hn2 : L.length - (L.length - 1) = 1 := by omega
  have hAD : ((L.take i).flatMap prM ++ (L.drop (i + 1)).flatMap prM).length = (L.length - 1) * 3 := by rw [List.length_append, hA, hD, ← Nat.add_mul, hn]
  have hR : ∀ x : List MV, x = ((L.drop i).flatMap prM ++ sp).drop ((L.drop (i + 1)).flatMap prM).length → x.length = c * 3 - (L.length - 1) * 3 := by
    rintro x rfl
    have := hlen
    rw [h2] at this
    rw [List.length_drop, List.length_append, hD, pr_len, List.length_drop]
    omega
  rw [← List.flatMap_append] at hAD
  generalize hx : ((L.drop i).flatMap prM ++ sp).drop ((L.drop (i + 1)).flatMap prM).length = R at hset
  have hRl := hR R hx.symm
  rw [← List.flatMap_append] at hset
  generalize hL' : L.take i ++ L.drop (i + 1) = L' at *
  have fin : ∀ zs : List MV, zs.length = 3 → PRow ((O.set k (.cells (L'.flatMap prM ++ R))).set k (.cells (setMany (L'.flatMap prM ++ R) (L'.flatMap prM).length zs))) B k c L' ∧ Upd O (some k) ((O.set k (.cells (L'.flatMap prM ++ R))).set k (.cells (setMany (L'.flatMap prM ++ R) (L'.flatMap prM).length zs))) := fun zs hz => by
    rw [VH.set_set, setMany_app, List.append_assoc]
    refine ⟨h.turn ?_, Upd.set⟩
    rw [List.length_append, List.length_append, List.length_take, List.length_drop, hAD, hRl, hz]
    have : L.length * 3 ≤ c * 3 := Nat.mul_le_mul_right _ hc
    omega
  rw [hAD] at fin
  rw [Nat.zero_add] at hset
  by_cases hci : c = i + 1
  · simp (disch := first | omega | (simp only [ds] <;> omega) | fail) only [ws, undefM, Nat.reduceLT, Nat.reduceAdd, Nat.reduceMul, Nat.reduceSub, Nat.reduceBEq, Nat.reduceEqDiff, Int.reduceToNat, reduceIte, tsI]
    refine VL.room tabOk (.inr rfl) (te := ⟨_, 3, 24, _⟩) (dx := .slice 28) h1 (hsrc _ _ (.inr (by omega)) (Nat.zero_le _)) hlf (by rw [ty23]; rfl) ty28 (by rw [ty23]; rfl) trivial (by omega) (by rw [hD, hlen]; dsimp only; omega) rfl rfl rfl rfl ?_
    simp (disch := first | omega | (simp only [ds] <;> omega) | fail) only [ws, undefM, Nat.reduceLT, Nat.reduceAdd, Nat.reduceMul, Nat.reduceSub, Nat.reduceBEq, Nat.reduceEqDiff, Int.reduceToNat, reduceIte, tsI, hset, hn, hn2]
    refine VL.clear tabOk (.inl rfl) (by rw [ty23]; rfl) ty28 (by rfl) (by decide) (VH.set_get _ _ _) (by rw [List.length_append, hAD, hRl]; dsimp only; omega) rfl rfl rfl ?_
    simp (disch := first | omega | (simp only [ds] <;> omega) | fail) only [ws, undefM, Nat.reduceLT, Nat.reduceAdd, Nat.reduceMul, Nat.reduceSub, Nat.reduceBEq, Nat.reduceEqDiff, Int.reduceToNat, reduceIte, tsI, hset, hn, hn2]
    exact fin _ (by simp [vzeros])
  · simp (disch := first | omega | (simp only [ds] <;> omega) | fail) only [ws, undefM, Nat.reduceLT, Nat.reduceAdd, Nat.reduceMul, Nat.reduceSub, Nat.reduceBEq, Nat.reduceEqDiff, Int.reduceToNat, reduceIte, tsI]
    refine VL.room tabOk (.inr rfl) (te := ⟨_, 3, 24, _⟩) (dx := .slice 28) h1 (hsrc _ _ (.inl rfl) (Nat.le_refl _)) hlf (by rw [ty23]; rfl) ty28 (by rw [ty23]; rfl) trivial (by omega) (by rw [hD, hlen]; dsimp only; omega) rfl rfl rfl rfl ?_
    simp (disch := first | omega | (simp only [ds] <;> omega) | fail) only [ws, undefM, Nat.reduceLT, Nat.reduceAdd, Nat.reduceMul, Nat.reduceSub, Nat.reduceBEq, Nat.reduceEqDiff, Int.reduceToNat, reduceIte, tsI, hset, hn, hn2]
    refine VL.clear tabOk (.inl rfl) (by rw [ty23]; rfl) ty28 (by rfl) (by decide) (VH.set_get _ _ _) (by rw [List.length_append, hAD, hRl]; dsimp only; omega) rfl rfl rfl ?_
    simp (disch := first | omega | (simp only [ds] <;> omega) | fail) only [ws, undefM, Nat.reduceLT, Nat.reduceAdd, Nat.reduceMul, Nat.reduceSub, Nat.reduceBEq, Nat.reduceEqDiff, Int.reduceToNat, reduceIte, tsI, hset, hn, hn2]
    exact fin _ (by simp [vzeros])
end Go.Proofs.YtjbpnhmjnkolbaaDoor
