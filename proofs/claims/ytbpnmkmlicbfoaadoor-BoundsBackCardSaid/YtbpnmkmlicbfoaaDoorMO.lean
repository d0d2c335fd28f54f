/-
  Texts BndZ, one behind the other.
-/
import Derived.Test.YtbpnmkmlicbfoaaDoorMN
/-
  The law BoundsBack, walked.
-/
set_option linter.unusedVariables false
set_option linter.unusedSimpArgs false
namespace Go.Proofs.YtbpnmkmlicbfoaaDoor
open Go.RowKit
set_option maxRecDepth 10000
theorem print_len {r : Rg} (h : lightR r = true) : (printR r).length ≤ 5000 := by
  obtain ⟨_, h1, h2, h3⟩ := light_ok h
  unfold printR
  split
  · have hil : ∀ x ∈ r.2.2.map itemF, x.length ≤ 203 := fun x hx => by
      obtain ⟨p, hp, rfl⟩ := List.mem_map.1 hx
      exact item_len p 100 (h3 p hp).1 (h3 p hp).2
    have := join_len _ _ hil
    rw [List.length_map] at this
    omega
  · omega
/-- pomacelaw05.BoundsBack -/
theorem back5_law (y : RgA) (O : VH) (hy : RgIn y) : VF Tryd.prog 8 [.agg (rgM (rgY y) y.2.2.2)] O (Ret fun m O' => m = mb true) := by
  obtain ⟨hd, ver, L, tk⟩ := y
  obtain ⟨_, h1, h2, h3⟩ := hy
  dsimp only [rgY] at h1 h2 h3 ⊢
  have hk := VH.push_new O (.cells (rgM (hd, ver, L) tk))
  have hn1 : O.next < (O.push (.cells (rgM (hd, ver, L) tk))).next := Nat.lt_succ_self _
  simp only [rgM, mb_def] at hk hn1
  refine VF.ofW (n := ⟨49, 0⟩) (rs := [.tmp 2]) tabOk Tryd.func8 rfl rfl rfl (Nat.le_of_ble_eq_true rfl) ?_
  simp only [argEnv, Nat.zero_add, Nat.reduceAdd]
  simp (disch := first | omega | (simp only [ds] <;> omega) | fail) only [wk, undefM, Nat.reduceLT, Nat.reduceAdd, Nat.reduceMul, Nat.reduceSub, Nat.reduceBEq, Nat.reduceEqDiff, Int.reduceToNat, reduceIte, ts6, rgM]
  generalize O.push (.cells [.v (.bool hd), .str ver, .sl L.length (L.flatMap ivM) tk]) = O1 at *
  refine CallW.rt (Light_v (hd, ver, L) tk _ h1 h3 (fun p hp => ⟨(h2 p hp).1.2.1, (h2 p hp).2.2.1⟩)) (by kernel_rfl) rfl rfl ?_
  rintro _ O2 ⟨rfl, hg2⟩
  have hk2 := (hg2.hp _ hn1).trans hk
  have hn2 := hg2.next
  cases hli : lightR (hd, ver, L)
  · simp (disch := first | omega | (simp only [ds] <;> omega) | fail) only [wk, undefM, Nat.reduceLT, Nat.reduceAdd, Nat.reduceMul, Nat.reduceSub, Nat.reduceBEq, Nat.reduceEqDiff, Int.reduceToNat, reduceIte, ts6]
    refine CallW.rt (lives5_v _) (by kernel_rfl) rfl rfl ?_
    rintro _ OL ⟨rfl, hgL⟩
    simp (disch := first | omega | (simp only [ds] <;> omega) | fail) only [wk, undefM, Nat.reduceLT, Nat.reduceAdd, Nat.reduceMul, Nat.reduceSub, Nat.reduceBEq, Nat.reduceEqDiff, Int.reduceToNat, reduceIte, ts6]
  obtain ⟨ok, c1, _⟩ := light_ok hli
  dsimp only at c1
  simp (disch := first | omega | (simp only [ds] <;> omega) | fail) only [wk, undefM, Nat.reduceLT, Nat.reduceAdd, Nat.reduceMul, Nat.reduceSub, Nat.reduceBEq, Nat.reduceEqDiff, Int.reduceToNat, reduceIte, ts6, hk2]
  refine CallW.rt (rRgMay_v (hd, ver, L) tk _ ok) (by kernel_rfl) rfl rfl ?_
  rintro _ O3 ⟨rfl, hg3⟩
  have hk3 := (hg3.hp _ (by omega)).trans hk2
  have hn3 := hg3.next
  cases hm : mayR (hd, ver, L)
  · simp (disch := first | omega | (simp only [ds] <;> omega) | fail) only [wk, undefM, Nat.reduceLT, Nat.reduceAdd, Nat.reduceMul, Nat.reduceSub, Nat.reduceBEq, Nat.reduceEqDiff, Int.reduceToNat, reduceIte, ts6]
    refine CallW.rt (lives5_v _) (by kernel_rfl) rfl rfl ?_
    rintro _ OL ⟨rfl, hgL⟩
    simp (disch := first | omega | (simp only [ds] <;> omega) | fail) only [wk, undefM, Nat.reduceLT, Nat.reduceAdd, Nat.reduceMul, Nat.reduceSub, Nat.reduceBEq, Nat.reduceEqDiff, Int.reduceToNat, reduceIte, ts6]
  obtain ⟨b1, b2⟩ := back hm
  have hpl := print_len hli
  have d1 : parseD (printR (hd, ver, L)) = ((hd, ver, L), 0) := by unfold parseD; rw [b1]; rfl
  have d2 : parseD (32 :: 10 :: (printR (hd, ver, L) ++ [9])) = ((hd, ver, L), 0) := by
    have e : (32 :: 10 :: (printR (hd, ver, L) ++ [9]) : List UInt8) = [32, 10] ++ printR (hd, ver, L) ++ [9] := by simp
    unfold parseD; rw [e, b2]; rfl
  have hpv := fun O => Print_v (hd, ver, L) tk O ok (by dsimp only; omega)
  generalize printR (hd, ver, L) = T at *
  simp (disch := first | omega | (simp only [ds] <;> omega) | fail) only [wk, undefM, Nat.reduceLT, Nat.reduceAdd, Nat.reduceMul, Nat.reduceSub, Nat.reduceBEq, Nat.reduceEqDiff, Int.reduceToNat, reduceIte, ts6, hk3]
  refine CallW.rt (hpv _) (by kernel_rfl) rfl rfl ?_
  rintro _ O4 ⟨rfl, hg4⟩
  have hk4 := (hg4.hp _ (by omega)).trans hk3
  have hn4 := hg4.next
  simp (disch := first | omega | (simp only [ds] <;> omega) | fail) only [wk, undefM, Nat.reduceLT, Nat.reduceAdd, Nat.reduceMul, Nat.reduceSub, Nat.reduceBEq, Nat.reduceEqDiff, Int.reduceToNat, reduceIte, ts6]
  refine CallW.rt (Parse_v T _ (by omega)) (by kernel_rfl) rfl rfl ?_
  rintro _ O5 ⟨t5, eM, hg5⟩
  rw [d1] at eM
  subst eM
  have hk5 := (hg5.hp _ (by omega)).trans hk4
  have hn5 := hg5.next
  simp (disch := first | omega | (simp only [ds] <;> omega) | fail) only [wk, undefM, Nat.reduceLT, Nat.reduceAdd, Nat.reduceMul, Nat.reduceSub, Nat.reduceBEq, Nat.reduceEqDiff, Int.reduceToNat, reduceIte, ts6, wi, rgM, hk5]
  have hkq := VH.set_get (O5.push (.cells [.v (.bool false), .str [], .sl 0 [] .nil])) O5.next (.cells (rgM (hd, ver, L) t5))
  have hk6 : ((O5.push (.cells [.v (.bool false), .str [], .sl 0 [] .nil])).set O5.next (.cells (rgM (hd, ver, L) t5))).hp O.next = _ := (VH.set_ne _ _ (by omega)).trans ((VH.push_old _ _ (by omega)).trans hk5)
  have hn6 : ((O5.push (.cells [.v (.bool false), .str [], .sl 0 [] .nil])).set O5.next (.cells (rgM (hd, ver, L) t5))).next = O5.next + 1 := rfl
  simp only [rgM, mb_def] at hkq hk6 hn6
  generalize (O5.push (.cells [.v (.bool false), .str [], .sl 0 [] .nil])).set O5.next (.cells [.v (.bool hd), .str ver, .sl L.length (L.flatMap ivM) t5]) = O6 at *
  refine CallW.rt (hpv _) (by kernel_rfl) rfl rfl ?_
  rintro _ O7 ⟨rfl, hg7⟩
  have hk7 := (hg7.hp _ (by omega)).trans hk6
  have hq7 := (hg7.hp _ (by omega)).trans hkq
  have hn7 := hg7.next
  simp (disch := first | omega | (simp only [ds] <;> omega) | fail) only [wk, undefM, Nat.reduceLT, Nat.reduceAdd, Nat.reduceMul, Nat.reduceSub, Nat.reduceBEq, Nat.reduceEqDiff, Int.reduceToNat, reduceIte, ts6, List.length_append]
  refine CallW.rt (Parse_v (32 :: 10 :: (T ++ [9])) _ (by simp; omega)) (by kernel_rfl) rfl rfl ?_
  rintro _ O8 ⟨t8, eM, hg8⟩
  rw [d2] at eM
  subst eM
  have hk8 := (hg8.hp _ (by omega)).trans hk7
  have hq8 := (hg8.hp _ (by omega)).trans hq7
  have hn8 := hg8.next
  simp (disch := first | omega | (simp only [ds] <;> omega) | fail) only [wk, undefM, Nat.reduceLT, Nat.reduceAdd, Nat.reduceMul, Nat.reduceSub, Nat.reduceBEq, Nat.reduceEqDiff, Int.reduceToNat, reduceIte, ts6, wi, rgM, hk8, hq8]
  have hr9 := VH.set_get (O8.push (.cells [.v (.bool false), .str [], .sl 0 [] .nil])) O8.next (.cells (rgM (hd, ver, L) t8))
  have hk9 : ((O8.push (.cells [.v (.bool false), .str [], .sl 0 [] .nil])).set O8.next (.cells (rgM (hd, ver, L) t8))).hp O.next = _ := (VH.set_ne _ _ (by omega)).trans ((VH.push_old _ _ (by omega)).trans hk8)
  simp only [rgM, mb_def] at hr9 hk9
  have hn9 : ((O8.push (.cells [.v (.bool false), .str [], .sl 0 [] .nil])).set O8.next (.cells [.v (.bool hd), .str ver, .sl L.length (L.flatMap ivM) t8])).next = O8.next + 1 := rfl
  generalize (O8.push (.cells [.v (.bool false), .str [], .sl 0 [] .nil])).set O8.next (.cells [.v (.bool hd), .str ver, .sl L.length (L.flatMap ivM) t8]) = O9 at *
  have hml := may_len hm
  refine CallW.rt (rSame_v (hd, ver, L) tk t5 _ hml) (by kernel_rfl) rfl rfl ?_
  rintro _ Oa ⟨rfl, hga⟩
  have hka := (hga.hp _ (by omega)).trans hk9
  have hra := (hga.hp _ (by omega)).trans hr9
  simp (disch := first | omega | (simp only [ds] <;> omega) | fail) only [wk, undefM, Nat.reduceLT, Nat.reduceAdd, Nat.reduceMul, Nat.reduceSub, Nat.reduceBEq, Nat.reduceEqDiff, Int.reduceToNat, reduceIte, ts6, hka, hra]
  refine CallW.rt (rSame_v (hd, ver, L) tk t8 _ hml) (by kernel_rfl) rfl rfl ?_
  rintro _ Ob ⟨rfl, hgb⟩
  simp (disch := first | omega | (simp only [ds] <;> omega) | fail) only [wk, undefM, Nat.reduceLT, Nat.reduceAdd, Nat.reduceMul, Nat.reduceSub, Nat.reduceBEq, Nat.reduceEqDiff, Int.reduceToNat, reduceIte, ts6]
  refine CallW.rt (lives5_v _) (by kernel_rfl) rfl rfl ?_
  rintro _ OL ⟨rfl, hgL⟩
  simp (disch := first | omega | (simp only [ds] <;> omega) | fail) only [wk, undefM, Nat.reduceLT, Nat.reduceAdd, Nat.reduceMul, Nat.reduceSub, Nat.reduceBEq, Nat.reduceEqDiff, Int.reduceToNat, reduceIte, ts6]
end Go.Proofs.YtbpnmkmlicbfoaaDoor
