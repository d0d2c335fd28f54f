/-
  Texts SrtH SrtI SrtJ SrtK SrtM SrtN, one behind the other.
-/
import Derived.Test.YtjbpnhmjnkolbaaDoorML
import Derived.Lib.LazyBuf
/-
  slices.symMergeCmpFunc, walked.
-/
set_option linter.unusedVariables false
set_option linter.unusedSimpArgs false
namespace Go.Proofs.YtjbpnhmjnkolbaaDoor
open Go.RowKit
set_option maxRecDepth 10000
def LoH (A B : Txt) (h s : Nat) : Prop := s = h - B.length ∨ ∃ x y, A[s - 1]? = some x ∧ B[h - s]? = some y ∧ compareV x y ≤ 0
def HiH (A B : Txt) (h s : Nat) : Prop := s = min A.length h ∨ ∃ x y, B[h - s - 1]? = some x ∧ A[s]? = some y ∧ compareV x y < 0
def MergeOk (N : Nat) : Prop := ∀ {O : VH} {k c n : Nat} {sp : List MV} (D A B E : Txt), A.length + B.length ≤ N → SB O k (D ++ A ++ B ++ E) sp → k < O.next → n = (D ++ A ++ B ++ E).length → Srt compareV A → Srt compareV B → 0 < A.length → 0 < B.length → (∀ x ∈ A, x.length ≤ 10000) → (∀ x ∈ B, x.length ≤ 10000) → n ≤ 1000000 → VF Tryd.prog 64 [.asl k 0 n c, mi D.length, mi (D.length + A.length : Nat), mi (D.length + A.length + B.length : Nat), fcmp] O (Ret fun m O' => SB O' k (D ++ sortV (A ++ B) ++ E) sp ∧ Upd O (some k) O')
/-- What comes behind the search. -/
theorem sym_tail {N k c n h s : Nat} {sp : List MV} (ih : MergeOk N) (D A B E : Txt) (hN : A.length + B.length ≤ N + 1) (hn : n = (D ++ A ++ B ++ E).length) (hA : Srt compareV A) (hB : Srt compareV B) (hA0 : 0 < A.length) (hB0 : 0 < B.length) (hAl : ∀ x ∈ A, x.length ≤ 10000) (hBl : ∀ x ∈ B, x.length ≤ 10000) (hm : n ≤ 1000000) (hh : h = (A.length + B.length) / 2) (hs0 : h - B.length ≤ s) (hs1 : s ≤ min A.length h) (hlo : LoH A B h s) (hhi : HiH A B h s) :
    ∃ A1 A2 B1 B2 : Txt, A1.length = s ∧ B1.length = h - s ∧ A.length = s + A2.length ∧ B.length = (h - s) + B2.length ∧
      (∀ O : VH, SB O k (D ++ A ++ B ++ E) sp → k < O.next → 0 < A2.length → 0 < B1.length → VF Tryd.prog 72 [.asl k 0 n c, mi (D.length + s : Nat), mi (D.length + A.length : Nat), mi (D.length + A.length + (h - s) : Nat), fcmp] O (Ret fun m O' => SB O' k (D ++ (A1 ++ (B1 ++ (A2 ++ (B2 ++ E))))) sp ∧ Upd O (some k) O')) ∧
      (∀ O : VH, SB O k (D ++ (A1 ++ (B1 ++ (A2 ++ (B2 ++ E))))) sp → k < O.next → 0 < A1.length → 0 < B1.length → VF Tryd.prog 64 [.asl k 0 n c, mi D.length, mi (D.length + s : Nat), mi (D.length + h : Nat), fcmp] O (Ret fun m O' => SB O' k (D ++ (sortV (A1 ++ B1) ++ (A2 ++ (B2 ++ E)))) sp ∧ Upd O (some k) O')) ∧
      (∀ O : VH, SB O k (D ++ (sortV (A1 ++ B1) ++ (A2 ++ (B2 ++ E)))) sp → k < O.next → 0 < A2.length → 0 < B2.length → VF Tryd.prog 64 [.asl k 0 n c, mi (D.length + h : Nat), mi (D.length + A.length + (h - s) : Nat), mi (D.length + A.length + B.length : Nat), fcmp] O (Ret fun m O' => SB O' k (D ++ sortV (A ++ B) ++ E) sp ∧ Upd O (some k) O')) ∧
      (∀ O : VH, A2.length = 0 ∨ B1.length = 0 → SB O k (D ++ A ++ B ++ E) sp → SB O k (D ++ (A1 ++ (B1 ++ (A2 ++ (B2 ++ E))))) sp) ∧
      (∀ O : VH, A1.length = 0 ∨ B1.length = 0 → SB O k (D ++ (A1 ++ (B1 ++ (A2 ++ (B2 ++ E))))) sp → SB O k (D ++ (sortV (A1 ++ B1) ++ (A2 ++ (B2 ++ E)))) sp) ∧
      (∀ O : VH, A2.length = 0 ∨ B2.length = 0 → SB O k (D ++ (sortV (A1 ++ B1) ++ (A2 ++ (B2 ++ E)))) sp → SB O k (D ++ sortV (A ++ B) ++ E) sp) := by
  have hc := compareV_cmp
  have k1 := srt_cross hc hA hB s (h - s) (by omega) (by
    rcases hlo with h | h
    · omega
    · exact .inr (.inr h))
  have k2 := srt_cross2 hc hA hB s (h - s) (by omega) (by
    rcases hhi with h | h
    · omega
    · exact .inr (.inr h))
  have hl := hn
  simp only [List.length_append] at hl
  have sA1 : Srt compareV (A.take s) := hA.sublist (List.take_sublist _ _)
  have sA2 : Srt compareV (A.drop s) := hA.sublist (List.drop_sublist _ _)
  have sB1 : Srt compareV (B.take (h - s)) := hB.sublist (List.take_sublist _ _)
  have sB2 : Srt compareV (B.drop (h - s)) := hB.sublist (List.drop_sublist _ _)
  have wA1 : ∀ x ∈ A.take s, x.length ≤ 10000 := fun x hx => hAl x (List.mem_of_mem_take hx)
  have wA2 : ∀ x ∈ A.drop s, x.length ≤ 10000 := fun x hx => hAl x (List.mem_of_mem_drop hx)
  have wB1 : ∀ x ∈ B.take (h - s), x.length ≤ 10000 := fun x hx => hBl x (List.mem_of_mem_take hx)
  have wB2 : ∀ x ∈ B.drop (h - s), x.length ≤ 10000 := fun x hx => hBl x (List.mem_of_mem_drop hx)
  have l1 : (A.take s).length = s := by rw [List.length_take]; omega
  have l2 : (B.take (h - s)).length = h - s := by rw [List.length_take]; omega
  have l3 : A.length = s + (A.drop s).length := by rw [List.length_drop]; omega
  have l4 : B.length = (h - s) + (B.drop (h - s)).length := by rw [List.length_drop]; omega
  have eA := (List.take_append_drop s A).symm
  have eB := (List.take_append_drop (h - s) B).symm
  generalize A.take s = A1 at *
  generalize A.drop s = A2 at *
  generalize B.take (h - s) = B1 at *
  generalize B.drop (h - s) = B2 at *
  have hT : sortV (A ++ B) = sortV (A1 ++ B1) ++ sortV (A2 ++ B2) := by
    rw [eA] at hA; rw [eB] at hB; rw [eA, eB]; exact sort_turn hc hA hB k1 k2
  have hF : (sortV (A1 ++ B1)).length = h := by rw [show (sortV (A1 ++ B1)).length = _ from sort_len _, List.length_append]; omega
  have q0 : D ++ A ++ B ++ E = (D ++ A1) ++ A2 ++ B1 ++ (B2 ++ E) := by rw [eA, eB]; simp only [List.append_assoc]
  refine ⟨A1, A2, B1, B2, l1, l2, l3, l4, fun O h1 hk p1 p2 => ?_, fun O h1 hk p1 p2 => ?_, fun O h1 hk p1 p2 => ?_, fun O p h1 => ?_, fun O p h1 => ?_, fun O p h1 => ?_⟩
  · rw [q0] at h1
    have := rotate_v (c := c) (n := n) (D ++ A1) A2 B1 (B2 ++ E) h1 hk (by rw [← q0]; exact hn) p1 p2 hm
    rw [List.length_append, l1, l2, show D.length + s + A2.length = D.length + A.length by omega] at this
    simp only [List.append_assoc] at this ⊢
    exact this
  · have := ih (O := O) (k := k) (c := c) (n := n) (sp := sp) D A1 B1 (A2 ++ (B2 ++ E)) (by omega) (by simpa only [List.append_assoc] using h1) hk (by simp only [List.length_append]; omega) sA1 sB1 p1 p2 wA1 wB1 hm
    rw [l1, l2, show D.length + s + (h - s) = D.length + h by omega] at this
    simp only [List.append_assoc] at this ⊢
    exact this
  · have := ih (O := O) (k := k) (c := c) (n := n) (sp := sp) (D ++ sortV (A1 ++ B1)) A2 B2 E (by omega) (by simpa only [List.append_assoc] using h1) hk (by simp only [List.length_append, hF]; omega) sA2 sB2 p1 p2 wA2 wB2 hm
    rw [List.length_append, hF, show D.length + h + A2.length = D.length + A.length + (h - s) by omega, show D.length + A.length + (h - s) + B2.length = D.length + A.length + B.length by omega] at this
    rw [hT]
    simp only [List.append_assoc] at this ⊢
    exact this
  · rw [q0] at h1
    rcases p with p | p <;> (have := List.eq_nil_of_length_eq_zero p; subst this; simpa only [List.append_assoc, List.nil_append] using h1)
  · have e : sortV (A1 ++ B1) = A1 ++ B1 := by
      rcases p with p | p <;> (have := List.eq_nil_of_length_eq_zero p; subst this)
      · exact sort_self hc sB1
      · rw [List.append_nil]; exact sort_self hc sA1
    rw [e]; simpa only [List.append_assoc] using h1
  · have e : sortV (A2 ++ B2) = A2 ++ B2 := by
      rcases p with p | p <;> (have := List.eq_nil_of_length_eq_zero p; subst this)
      · exact sort_self hc sB2
      · rw [List.append_nil]; exact sort_self hc sA2
    rw [hT, e]; simpa only [List.append_assoc] using h1
set_option maxHeartbeats 4000000 in
/-- slices.symMergeCmpFunc -/
theorem symMerge_v : ∀ N : Nat, MergeOk N := by
  intro N
  induction N with
  | zero => unfold MergeOk; intros; omega
  | succ N ih =>
  intro O k c n sp D A B E hN hb hk hn hA hB hA0 hB0 hAl hBl hm
  by_cases hA1 : A.length = 1
  · obtain ⟨x, rfl⟩ := List.length_eq_one_iff.1 hA1
    exact merge1_v D B E x hb hk hn hB (hAl x (by simp)) hBl hm
  by_cases hB1 : B.length = 1
  · obtain ⟨x, rfl⟩ := List.length_eq_one_iff.1 hB1
    exact merge2_v D A E x hb hk hn (by omega) hA (hBl x (by simp)) hAl hm
  have hc := compareV_cmp
  have hl := hn
  simp only [List.length_append] at hl
  obtain ⟨h, hh⟩ : ∃ h, h = (A.length + B.length) / 2 := ⟨_, rfl⟩
  obtain ⟨M, hM⟩ : ∃ M, M = D.length + h + (D.length + A.length) := ⟨_, rfl⟩
  have e0 : ((D.length + A.length : Nat) : Int) - D.length = A.length := by omega
  have e1 : ((D.length + A.length + B.length : Nat) : Int) - (D.length + A.length : Nat) = B.length := by omega
  have e2 : decide ((A.length : Int) = 1) = false := by rw [decide_eq_false_iff_not]; omega
  have e3 : decide ((B.length : Int) = 1) = false := by rw [decide_eq_false_iff_not]; omega
  have e4 : IntKind.i64.wrap (((D.length : Nat) + (D.length + A.length + B.length : Nat) : Int).fdiv (2 ^ min 1 IntKind.u64.bits)) = (D.length + h : Nat) := half (by omega) (by omega)
  have e5 : ((D.length + h : Nat) : Int) + (D.length + A.length : Nat) = (M : Nat) := by omega
  have e7 : (M : Int) - 1 = (M - 1 : Nat) := by omega
  refine VF.ofW (n := ⟨220, 0⟩) (rs := []) tabOk Tryd.func64 rfl rfl rfl (Nat.le_of_ble_eq_true rfl) ?_
  simp only [argEnv, Nat.zero_add, Nat.reduceAdd]
  by_cases hph : h < A.length
  · have e6 : (M : Int) - (D.length + A.length + B.length : Nat) = (D.length + (h - B.length) : Nat) := by omega
    simp (disch := first | omega | (simp only [ds] <;> omega) | fail) only [wk, undefM, Nat.reduceLT, Nat.reduceAdd, Nat.reduceMul, Nat.reduceSub, Nat.reduceBEq, Nat.reduceEqDiff, Int.reduceToNat, reduceIte, tsSo, e0, e1, e2, e3, e4, e5, e6, e7]
    refine WC.loopK tabOk [20, 21] [0, 1, 2, 3, 4, 18, 19, 22] (fun s : Nat × Nat => [mi (D.length + s.1 : Nat), mi (D.length + s.2 : Nat)]) (fun s O' => SB O' k (D ++ A ++ B ++ E) sp ∧ O.Ge O' ∧ h - B.length ≤ s.1 ∧ s.1 ≤ s.2 ∧ s.2 ≤ min A.length h ∧ LoH A B h s.1 ∧ HiH A B h s.2) (fun s => s.2 - s.1) ((h - B.length, h)) rfl rfl ?_ ?_
    · exact ⟨hb, VH.Ge.refl _, by dsimp only <;> omega, by dsimp only <;> omega, by dsimp only <;> omega, .inl (by dsimp only <;> omega), .inl (by dsimp only <;> omega)⟩
    rintro ⟨s, t⟩ O2 ⟨h2, hg2, hs0, hst, ht, hlo, hhi⟩
    dsimp only at hs0 hst ht hlo hhi ⊢
    have hk2 : k < O2.next := Nat.lt_of_lt_of_le hk hg2.next
    by_cases hlt : s < t
    · obtain ⟨q, hq⟩ : ∃ q, q = (s + t) / 2 := ⟨_, rfl⟩
      have hqA : q < A.length := by omega
      have hqB : h - q - 1 < B.length := by omega
      have hx := List.getElem?_eq_getElem hqA
      have hxl := hAl _ (List.getElem_mem hqA)
      have hy := List.getElem?_eq_getElem hqB
      have hyl := hBl _ (List.getElem_mem hqB)
      generalize A[q] = x at *
      generalize B[h - q - 1] = y at *
      have e1 : (D ++ A ++ B ++ E)[D.length + q]? = some x := by
        rw [List.append_assoc, List.getElem?_append_left (by simp <;> omega), List.getElem?_append_right (by simp)]
        simpa using hx
      have e2 : (D ++ A ++ B ++ E)[D.length + A.length + (h - q - 1)]? = some y := by
        rw [List.append_assoc, List.getElem?_append_right (by simp <;> omega), List.getElem?_append_left (by simp <;> omega)]
        rw [← hy]; congr 1; simp <;> omega
      have g1 := sb_at (sp := sp) e1
      have g2 := sb_at (sp := sp) e2
      have h2' := h2
      unfold SB at h2'
      have e3 : IntKind.i64.wrap (((D.length + s : Nat) + (D.length + t : Nat) : Int).fdiv (2 ^ min 1 IntKind.u64.bits)) = (D.length + q : Nat) := half (by omega) (by omega)
      have e8 : ((M - 1 : Nat) : Int) - (D.length + q : Nat) = (D.length + A.length + (h - q - 1) : Nat) := by omega
      simp (disch := first | omega | (simp only [ds] <;> omega) | fail) only [wk, undefM, Nat.reduceLT, Nat.reduceAdd, Nat.reduceMul, Nat.reduceSub, Nat.reduceBEq, Nat.reduceEqDiff, Int.reduceToNat, reduceIte, tsSo, e3]
      refine WC.plan tabOk .any [(0, .sil), (1, .sil), (2, .sil), (3, .sil), (4, .sil), (5, .sil), (7, .sil), (8, .sil), (9, .sil), (6, .fk), (10, .one), (11, .one), (12, .sil), (13, .sil)] (by simp) (by kernel_rfl) (by kernel_rfl) (by kernel_rfl) rfl ?_
      simp (disch := first | omega | (simp only [ds] <;> omega) | fail) only [wk, undefM, Nat.reduceLT, Nat.reduceAdd, Nat.reduceMul, Nat.reduceSub, Nat.reduceBEq, Nat.reduceEqDiff, Int.reduceToNat, reduceIte, tsSo, e8]
      refine VL.ld2 (m1 := .str y) (m2 := .str x) tabOk rfl ?_ rfl ?_ rfl rfl rfl rfl rfl rfl rfl rfl rfl (WL.sound tabOk ?_)
      · simp (disch := first | omega | (simp only [ds] <;> omega) | fail) only [wk, undefM, Nat.reduceLT, Nat.reduceAdd, Nat.reduceMul, Nat.reduceSub, Nat.reduceBEq, Nat.reduceEqDiff, Int.reduceToNat, reduceIte, tsSo, h2', g1, g2]
      · simp (disch := first | omega | (simp only [ds] <;> omega) | fail) only [wk, undefM, Nat.reduceLT, Nat.reduceAdd, Nat.reduceMul, Nat.reduceSub, Nat.reduceBEq, Nat.reduceEqDiff, Int.reduceToNat, reduceIte, tsSo, h2', g1, g2]
      simp (disch := first | omega | (simp only [ds] <;> omega) | fail) only [wk, undefM, Nat.reduceLT, Nat.reduceAdd, Nat.reduceMul, Nat.reduceSub, Nat.reduceBEq, Nat.reduceEqDiff, Int.reduceToNat, reduceIte, tsSo, h2', g1, g2]
      refine CallW.rt (Compare_v y x _ hyl hxl) (by kernel_rfl) rfl rfl ?_
      rintro _ O3 ⟨rfl, hg3⟩
      have h3 : SB O3 k (D ++ A ++ B ++ E) sp := (hg3.hp k hk2).trans h2'
      by_cases hyx : compareV y x < 0
      · simp (disch := first | omega | (simp only [ds] <;> omega) | fail) only [wk, undefM, Nat.reduceLT, Nat.reduceAdd, Nat.reduceMul, Nat.reduceSub, Nat.reduceBEq, Nat.reduceEqDiff, Int.reduceToNat, reduceIte, tsSo]
        refine RoundQ.next (s, q) rfl rfl ⟨h3, hg2.trans hg3, hs0, by dsimp only <;> omega, by dsimp only <;> omega, hlo, .inr ⟨y, x, hy, hx, hyx⟩⟩ (by dsimp only <;> omega)
      · simp (disch := first | omega | (simp only [ds] <;> omega) | fail) only [wk, undefM, Nat.reduceLT, Nat.reduceAdd, Nat.reduceMul, Nat.reduceSub, Nat.reduceBEq, Nat.reduceEqDiff, Int.reduceToNat, reduceIte, tsSo]
        refine RoundQ.next (q + 1, t) rfl rfl ⟨h3, hg2.trans hg3, by dsimp only <;> omega, by dsimp only <;> omega, ht, .inr ⟨x, y, hx, by rw [← hy]; rfl, by have := hc.anti y x; omega⟩, hhi⟩ (by dsimp only <;> omega)
    · obtain rfl : s = t := by omega
      have h2' := h2
      obtain ⟨A1, A2, B1, B2, lA1, lB1, lA, lB, rot, r1, r2, n0, n1, n2⟩ := sym_tail (k := k) (c := c) (sp := sp) ih D A B E hN hn hA hB hA0 hB0 hAl hBl hm hh hs0 ht hlo hhi
      have e9 : (M : Int) - (D.length + s : Nat) = (D.length + A.length + (h - s) : Nat) := by omega
      have hgo : ∀ O3, Upd O2 (some k) O3 → Upd O (some k) O3 := fun O3 hu => (Upd.ofGe hg2).any.trans hu
      clear e0 e1 e2 e3 e4 e5 e7 hlo hhi ih
      rcases Nat.eq_zero_or_pos A2.length with a2 | a2
      · rcases Nat.eq_zero_or_pos B1.length with b1 | b1
        · try (exfalso; omega)
          all_goals
            simp (disch := first | omega | (simp only [ds] <;> omega) | fail) only [wk, undefM, Nat.reduceLT, Nat.reduceAdd, Nat.reduceMul, Nat.reduceSub, Nat.reduceBEq, Nat.reduceEqDiff, Int.reduceToNat, reduceIte, tsSo, e9]
            exact ⟨n2 _ (.inl a2) (n1 _ (.inr b1) (n0 _ (.inl a2) h2')), (Upd.ofGe hg2).any⟩
        · try (exfalso; omega)
          all_goals
            simp (disch := first | omega | (simp only [ds] <;> omega) | fail) only [wk, undefM, Nat.reduceLT, Nat.reduceAdd, Nat.reduceMul, Nat.reduceSub, Nat.reduceBEq, Nat.reduceEqDiff, Int.reduceToNat, reduceIte, tsSo, e9]
            refine CallW.rt (r1 _ (n0 _ (.inl a2) h2') hk2 (by omega) b1) (by kernel_rfl) rfl rfl ?_
            rintro _ O4 ⟨h4, hu4⟩
            simp (disch := first | omega | (simp only [ds] <;> omega) | fail) only [wk, undefM, Nat.reduceLT, Nat.reduceAdd, Nat.reduceMul, Nat.reduceSub, Nat.reduceBEq, Nat.reduceEqDiff, Int.reduceToNat, reduceIte, tsSo]
            exact ⟨n2 _ (.inl a2) h4, hgo _ hu4⟩
      · rcases Nat.eq_zero_or_pos B1.length with b1 | b1
        · try (exfalso; omega)
          all_goals
            have h3 := n1 _ (.inr b1) (n0 _ (.inr b1) h2')
            simp (disch := first | omega | (simp only [ds] <;> omega) | fail) only [wk, undefM, Nat.reduceLT, Nat.reduceAdd, Nat.reduceMul, Nat.reduceSub, Nat.reduceBEq, Nat.reduceEqDiff, Int.reduceToNat, reduceIte, tsSo, e9]
            refine CallW.rt (r2 _ h3 hk2 a2 (by omega)) (by kernel_rfl) rfl rfl ?_
            rintro _ O4 ⟨h4, hu4⟩
            simp (disch := first | omega | (simp only [ds] <;> omega) | fail) only [wk, undefM, Nat.reduceLT, Nat.reduceAdd, Nat.reduceMul, Nat.reduceSub, Nat.reduceBEq, Nat.reduceEqDiff, Int.reduceToNat, reduceIte, tsSo]
            exact ⟨h4, hgo _ hu4⟩
        · simp (disch := first | omega | (simp only [ds] <;> omega) | fail) only [wk, undefM, Nat.reduceLT, Nat.reduceAdd, Nat.reduceMul, Nat.reduceSub, Nat.reduceBEq, Nat.reduceEqDiff, Int.reduceToNat, reduceIte, tsSo, e9]
          refine CallW.rt (rot _ h2' hk2 a2 b1) (by kernel_rfl) rfl rfl ?_
          rintro _ O4 ⟨h4, hu4⟩
          have hk4 := Nat.lt_of_lt_of_le hk2 hu4.next
          rcases Nat.eq_zero_or_pos A1.length with a1 | a1
          · have h5 := n1 _ (.inl a1) h4
            rcases Nat.eq_zero_or_pos B2.length with b2 | b2
            · try (exfalso; omega)
              all_goals
                simp (disch := first | omega | (simp only [ds] <;> omega) | fail) only [wk, undefM, Nat.reduceLT, Nat.reduceAdd, Nat.reduceMul, Nat.reduceSub, Nat.reduceBEq, Nat.reduceEqDiff, Int.reduceToNat, reduceIte, tsSo]
                exact ⟨n2 _ (.inr b2) h5, hgo _ hu4⟩
            · try (exfalso; omega)
              all_goals
                simp (disch := first | omega | (simp only [ds] <;> omega) | fail) only [wk, undefM, Nat.reduceLT, Nat.reduceAdd, Nat.reduceMul, Nat.reduceSub, Nat.reduceBEq, Nat.reduceEqDiff, Int.reduceToNat, reduceIte, tsSo]
                refine CallW.rt (r2 _ h5 hk4 a2 b2) (by kernel_rfl) rfl rfl ?_
                rintro _ O6 ⟨h6, hu6⟩
                simp (disch := first | omega | (simp only [ds] <;> omega) | fail) only [wk, undefM, Nat.reduceLT, Nat.reduceAdd, Nat.reduceMul, Nat.reduceSub, Nat.reduceBEq, Nat.reduceEqDiff, Int.reduceToNat, reduceIte, tsSo]
                exact ⟨h6, hgo _ (hu4.trans hu6)⟩
          · simp (disch := first | omega | (simp only [ds] <;> omega) | fail) only [wk, undefM, Nat.reduceLT, Nat.reduceAdd, Nat.reduceMul, Nat.reduceSub, Nat.reduceBEq, Nat.reduceEqDiff, Int.reduceToNat, reduceIte, tsSo]
            refine CallW.rt (r1 _ h4 hk4 a1 b1) (by kernel_rfl) rfl rfl ?_
            rintro _ O5 ⟨h5, hu5⟩
            have hk5 := Nat.lt_of_lt_of_le hk4 hu5.next
            rcases Nat.eq_zero_or_pos B2.length with b2 | b2
            · try (exfalso; omega)
              all_goals
                simp (disch := first | omega | (simp only [ds] <;> omega) | fail) only [wk, undefM, Nat.reduceLT, Nat.reduceAdd, Nat.reduceMul, Nat.reduceSub, Nat.reduceBEq, Nat.reduceEqDiff, Int.reduceToNat, reduceIte, tsSo]
                exact ⟨n2 _ (.inr b2) h5, hgo _ (hu4.trans hu5)⟩
            · try (exfalso; omega)
              all_goals
                simp (disch := first | omega | (simp only [ds] <;> omega) | fail) only [wk, undefM, Nat.reduceLT, Nat.reduceAdd, Nat.reduceMul, Nat.reduceSub, Nat.reduceBEq, Nat.reduceEqDiff, Int.reduceToNat, reduceIte, tsSo]
                refine CallW.rt (r2 _ h5 hk5 a2 b2) (by kernel_rfl) rfl rfl ?_
                rintro _ O6 ⟨h6, hu6⟩
                simp (disch := first | omega | (simp only [ds] <;> omega) | fail) only [wk, undefM, Nat.reduceLT, Nat.reduceAdd, Nat.reduceMul, Nat.reduceSub, Nat.reduceBEq, Nat.reduceEqDiff, Int.reduceToNat, reduceIte, tsSo]
                exact ⟨h6, hgo _ ((hu4.trans hu5).trans hu6)⟩
  · simp (disch := first | omega | (simp only [ds] <;> omega) | fail) only [wk, undefM, Nat.reduceLT, Nat.reduceAdd, Nat.reduceMul, Nat.reduceSub, Nat.reduceBEq, Nat.reduceEqDiff, Int.reduceToNat, reduceIte, tsSo, e0, e1, e2, e3, e4, e5, e7]
    refine WC.loopK tabOk [20, 21] [0, 1, 2, 3, 4, 18, 19, 22] (fun s : Nat × Nat => [mi (D.length + s.1 : Nat), mi (D.length + s.2 : Nat)]) (fun s O' => SB O' k (D ++ A ++ B ++ E) sp ∧ O.Ge O' ∧ h - B.length ≤ s.1 ∧ s.1 ≤ s.2 ∧ s.2 ≤ min A.length h ∧ LoH A B h s.1 ∧ HiH A B h s.2) (fun s => s.2 - s.1) ((0, A.length)) rfl rfl ?_ ?_
    · exact ⟨hb, VH.Ge.refl _, by dsimp only <;> omega, by dsimp only <;> omega, by dsimp only <;> omega, .inl (by dsimp only <;> omega), .inl (by dsimp only <;> omega)⟩
    rintro ⟨s, t⟩ O2 ⟨h2, hg2, hs0, hst, ht, hlo, hhi⟩
    dsimp only at hs0 hst ht hlo hhi ⊢
    have hk2 : k < O2.next := Nat.lt_of_lt_of_le hk hg2.next
    by_cases hlt : s < t
    · obtain ⟨q, hq⟩ : ∃ q, q = (s + t) / 2 := ⟨_, rfl⟩
      have hqA : q < A.length := by omega
      have hqB : h - q - 1 < B.length := by omega
      have hx := List.getElem?_eq_getElem hqA
      have hxl := hAl _ (List.getElem_mem hqA)
      have hy := List.getElem?_eq_getElem hqB
      have hyl := hBl _ (List.getElem_mem hqB)
      generalize A[q] = x at *
      generalize B[h - q - 1] = y at *
      have e1 : (D ++ A ++ B ++ E)[D.length + q]? = some x := by
        rw [List.append_assoc, List.getElem?_append_left (by simp <;> omega), List.getElem?_append_right (by simp)]
        simpa using hx
      have e2 : (D ++ A ++ B ++ E)[D.length + A.length + (h - q - 1)]? = some y := by
        rw [List.append_assoc, List.getElem?_append_right (by simp <;> omega), List.getElem?_append_left (by simp <;> omega)]
        rw [← hy]; congr 1; simp <;> omega
      have g1 := sb_at (sp := sp) e1
      have g2 := sb_at (sp := sp) e2
      have h2' := h2
      unfold SB at h2'
      have e3 : IntKind.i64.wrap (((D.length + s : Nat) + (D.length + t : Nat) : Int).fdiv (2 ^ min 1 IntKind.u64.bits)) = (D.length + q : Nat) := half (by omega) (by omega)
      have e8 : ((M - 1 : Nat) : Int) - (D.length + q : Nat) = (D.length + A.length + (h - q - 1) : Nat) := by omega
      simp (disch := first | omega | (simp only [ds] <;> omega) | fail) only [wk, undefM, Nat.reduceLT, Nat.reduceAdd, Nat.reduceMul, Nat.reduceSub, Nat.reduceBEq, Nat.reduceEqDiff, Int.reduceToNat, reduceIte, tsSo, e3]
      refine WC.plan tabOk .any [(0, .sil), (1, .sil), (2, .sil), (3, .sil), (4, .sil), (5, .sil), (7, .sil), (8, .sil), (9, .sil), (6, .fk), (10, .one), (11, .one), (12, .sil), (13, .sil)] (by simp) (by kernel_rfl) (by kernel_rfl) (by kernel_rfl) rfl ?_
      simp (disch := first | omega | (simp only [ds] <;> omega) | fail) only [wk, undefM, Nat.reduceLT, Nat.reduceAdd, Nat.reduceMul, Nat.reduceSub, Nat.reduceBEq, Nat.reduceEqDiff, Int.reduceToNat, reduceIte, tsSo, e8]
      refine VL.ld2 (m1 := .str y) (m2 := .str x) tabOk rfl ?_ rfl ?_ rfl rfl rfl rfl rfl rfl rfl rfl rfl (WL.sound tabOk ?_)
      · simp (disch := first | omega | (simp only [ds] <;> omega) | fail) only [wk, undefM, Nat.reduceLT, Nat.reduceAdd, Nat.reduceMul, Nat.reduceSub, Nat.reduceBEq, Nat.reduceEqDiff, Int.reduceToNat, reduceIte, tsSo, h2', g1, g2]
      · simp (disch := first | omega | (simp only [ds] <;> omega) | fail) only [wk, undefM, Nat.reduceLT, Nat.reduceAdd, Nat.reduceMul, Nat.reduceSub, Nat.reduceBEq, Nat.reduceEqDiff, Int.reduceToNat, reduceIte, tsSo, h2', g1, g2]
      simp (disch := first | omega | (simp only [ds] <;> omega) | fail) only [wk, undefM, Nat.reduceLT, Nat.reduceAdd, Nat.reduceMul, Nat.reduceSub, Nat.reduceBEq, Nat.reduceEqDiff, Int.reduceToNat, reduceIte, tsSo, h2', g1, g2]
      refine CallW.rt (Compare_v y x _ hyl hxl) (by kernel_rfl) rfl rfl ?_
      rintro _ O3 ⟨rfl, hg3⟩
      have h3 : SB O3 k (D ++ A ++ B ++ E) sp := (hg3.hp k hk2).trans h2'
      by_cases hyx : compareV y x < 0
      · simp (disch := first | omega | (simp only [ds] <;> omega) | fail) only [wk, undefM, Nat.reduceLT, Nat.reduceAdd, Nat.reduceMul, Nat.reduceSub, Nat.reduceBEq, Nat.reduceEqDiff, Int.reduceToNat, reduceIte, tsSo]
        refine RoundQ.next (s, q) rfl rfl ⟨h3, hg2.trans hg3, hs0, by dsimp only <;> omega, by dsimp only <;> omega, hlo, .inr ⟨y, x, hy, hx, hyx⟩⟩ (by dsimp only <;> omega)
      · simp (disch := first | omega | (simp only [ds] <;> omega) | fail) only [wk, undefM, Nat.reduceLT, Nat.reduceAdd, Nat.reduceMul, Nat.reduceSub, Nat.reduceBEq, Nat.reduceEqDiff, Int.reduceToNat, reduceIte, tsSo]
        refine RoundQ.next (q + 1, t) rfl rfl ⟨h3, hg2.trans hg3, by dsimp only <;> omega, by dsimp only <;> omega, ht, .inr ⟨x, y, hx, by rw [← hy]; rfl, by have := hc.anti y x; omega⟩, hhi⟩ (by dsimp only <;> omega)
    · obtain rfl : s = t := by omega
      have h2' := h2
      obtain ⟨A1, A2, B1, B2, lA1, lB1, lA, lB, rot, r1, r2, n0, n1, n2⟩ := sym_tail (k := k) (c := c) (sp := sp) ih D A B E hN hn hA hB hA0 hB0 hAl hBl hm hh hs0 ht hlo hhi
      have e9 : (M : Int) - (D.length + s : Nat) = (D.length + A.length + (h - s) : Nat) := by omega
      have hgo : ∀ O3, Upd O2 (some k) O3 → Upd O (some k) O3 := fun O3 hu => (Upd.ofGe hg2).any.trans hu
      clear e0 e1 e2 e3 e4 e5 e7 hlo hhi ih
      rcases Nat.eq_zero_or_pos A2.length with a2 | a2
      · rcases Nat.eq_zero_or_pos B1.length with b1 | b1
        · try (exfalso; omega)
          all_goals
            simp (disch := first | omega | (simp only [ds] <;> omega) | fail) only [wk, undefM, Nat.reduceLT, Nat.reduceAdd, Nat.reduceMul, Nat.reduceSub, Nat.reduceBEq, Nat.reduceEqDiff, Int.reduceToNat, reduceIte, tsSo, e9]
            exact ⟨n2 _ (.inl a2) (n1 _ (.inr b1) (n0 _ (.inl a2) h2')), (Upd.ofGe hg2).any⟩
        · try (exfalso; omega)
          all_goals
            simp (disch := first | omega | (simp only [ds] <;> omega) | fail) only [wk, undefM, Nat.reduceLT, Nat.reduceAdd, Nat.reduceMul, Nat.reduceSub, Nat.reduceBEq, Nat.reduceEqDiff, Int.reduceToNat, reduceIte, tsSo, e9]
            refine CallW.rt (r1 _ (n0 _ (.inl a2) h2') hk2 (by omega) b1) (by kernel_rfl) rfl rfl ?_
            rintro _ O4 ⟨h4, hu4⟩
            simp (disch := first | omega | (simp only [ds] <;> omega) | fail) only [wk, undefM, Nat.reduceLT, Nat.reduceAdd, Nat.reduceMul, Nat.reduceSub, Nat.reduceBEq, Nat.reduceEqDiff, Int.reduceToNat, reduceIte, tsSo]
            exact ⟨n2 _ (.inl a2) h4, hgo _ hu4⟩
      · rcases Nat.eq_zero_or_pos B1.length with b1 | b1
        · try (exfalso; omega)
          all_goals
            have h3 := n1 _ (.inr b1) (n0 _ (.inr b1) h2')
            simp (disch := first | omega | (simp only [ds] <;> omega) | fail) only [wk, undefM, Nat.reduceLT, Nat.reduceAdd, Nat.reduceMul, Nat.reduceSub, Nat.reduceBEq, Nat.reduceEqDiff, Int.reduceToNat, reduceIte, tsSo, e9]
            refine CallW.rt (r2 _ h3 hk2 a2 (by omega)) (by kernel_rfl) rfl rfl ?_
            rintro _ O4 ⟨h4, hu4⟩
            simp (disch := first | omega | (simp only [ds] <;> omega) | fail) only [wk, undefM, Nat.reduceLT, Nat.reduceAdd, Nat.reduceMul, Nat.reduceSub, Nat.reduceBEq, Nat.reduceEqDiff, Int.reduceToNat, reduceIte, tsSo]
            exact ⟨h4, hgo _ hu4⟩
        · simp (disch := first | omega | (simp only [ds] <;> omega) | fail) only [wk, undefM, Nat.reduceLT, Nat.reduceAdd, Nat.reduceMul, Nat.reduceSub, Nat.reduceBEq, Nat.reduceEqDiff, Int.reduceToNat, reduceIte, tsSo, e9]
          refine CallW.rt (rot _ h2' hk2 a2 b1) (by kernel_rfl) rfl rfl ?_
          rintro _ O4 ⟨h4, hu4⟩
          have hk4 := Nat.lt_of_lt_of_le hk2 hu4.next
          rcases Nat.eq_zero_or_pos A1.length with a1 | a1
          · have h5 := n1 _ (.inl a1) h4
            rcases Nat.eq_zero_or_pos B2.length with b2 | b2
            · try (exfalso; omega)
              all_goals
                simp (disch := first | omega | (simp only [ds] <;> omega) | fail) only [wk, undefM, Nat.reduceLT, Nat.reduceAdd, Nat.reduceMul, Nat.reduceSub, Nat.reduceBEq, Nat.reduceEqDiff, Int.reduceToNat, reduceIte, tsSo]
                exact ⟨n2 _ (.inr b2) h5, hgo _ hu4⟩
            · try (exfalso; omega)
              all_goals
                simp (disch := first | omega | (simp only [ds] <;> omega) | fail) only [wk, undefM, Nat.reduceLT, Nat.reduceAdd, Nat.reduceMul, Nat.reduceSub, Nat.reduceBEq, Nat.reduceEqDiff, Int.reduceToNat, reduceIte, tsSo]
                refine CallW.rt (r2 _ h5 hk4 a2 b2) (by kernel_rfl) rfl rfl ?_
                rintro _ O6 ⟨h6, hu6⟩
                simp (disch := first | omega | (simp only [ds] <;> omega) | fail) only [wk, undefM, Nat.reduceLT, Nat.reduceAdd, Nat.reduceMul, Nat.reduceSub, Nat.reduceBEq, Nat.reduceEqDiff, Int.reduceToNat, reduceIte, tsSo]
                exact ⟨h6, hgo _ (hu4.trans hu6)⟩
          · simp (disch := first | omega | (simp only [ds] <;> omega) | fail) only [wk, undefM, Nat.reduceLT, Nat.reduceAdd, Nat.reduceMul, Nat.reduceSub, Nat.reduceBEq, Nat.reduceEqDiff, Int.reduceToNat, reduceIte, tsSo]
            refine CallW.rt (r1 _ h4 hk4 a1 b1) (by kernel_rfl) rfl rfl ?_
            rintro _ O5 ⟨h5, hu5⟩
            have hk5 := Nat.lt_of_lt_of_le hk4 hu5.next
            rcases Nat.eq_zero_or_pos B2.length with b2 | b2
            · try (exfalso; omega)
              all_goals
                simp (disch := first | omega | (simp only [ds] <;> omega) | fail) only [wk, undefM, Nat.reduceLT, Nat.reduceAdd, Nat.reduceMul, Nat.reduceSub, Nat.reduceBEq, Nat.reduceEqDiff, Int.reduceToNat, reduceIte, tsSo]
                exact ⟨n2 _ (.inr b2) h5, hgo _ (hu4.trans hu5)⟩
            · try (exfalso; omega)
              all_goals
                simp (disch := first | omega | (simp only [ds] <;> omega) | fail) only [wk, undefM, Nat.reduceLT, Nat.reduceAdd, Nat.reduceMul, Nat.reduceSub, Nat.reduceBEq, Nat.reduceEqDiff, Int.reduceToNat, reduceIte, tsSo]
                refine CallW.rt (r2 _ h5 hk5 a2 b2) (by kernel_rfl) rfl rfl ?_
                rintro _ O6 ⟨h6, hu6⟩
                simp (disch := first | omega | (simp only [ds] <;> omega) | fail) only [wk, undefM, Nat.reduceLT, Nat.reduceAdd, Nat.reduceMul, Nat.reduceSub, Nat.reduceBEq, Nat.reduceEqDiff, Int.reduceToNat, reduceIte, tsSo]
                exact ⟨h6, hgo _ ((hu4.trans hu5).trans hu6)⟩
end Go.Proofs.YtjbpnhmjnkolbaaDoor

/-
  slices.stableCmpFunc, walked.
-/
set_option linter.unusedVariables false
set_option linter.unusedSimpArgs false
namespace Go.Proofs.YtjbpnhmjnkolbaaDoor
open Go.RowKit
set_option maxRecDepth 10000
/-- The blocks of w, each sorted. -/
inductive Blk (w : Nat) : Txt → Txt → Prop
  | last {L : Txt} : L.length ≤ w → Blk w L (sortV L)
  | more {X R S : Txt} : X.length = w → Blk w R S → Blk w (X ++ R) (sortV X ++ S)
theorem Blk.len {w : Nat} {L S : Txt} (h : Blk w L S) : S.length = L.length := by
  induction h with
  | last _ => exact sort_len _
  | more _ _ ih => rw [List.length_append, List.length_append, ih]; congr 1; exact sort_len _
theorem Blk.all {w : Nat} {L S : Txt} (hw : 0 < w) (h : Blk w L S) (hl : L.length ≤ w) : S = sortV L := by
  cases h with
  | last _ => rfl
  | @more X R T hX h2 =>
    rw [List.length_append] at hl
    have h3 := h2.len
    have e1 : R = [] := List.eq_nil_of_length_eq_zero (by omega)
    have e2 : T = [] := List.eq_nil_of_length_eq_zero (by rw [h3, e1]; rfl)
    rw [e1, e2, List.append_nil, List.append_nil]
theorem Blk.two {w : Nat} {R S : Txt} (hw : 0 < w) (h : Blk w R S) (hl : w < R.length) : ∃ X R1 S1, R = X ++ R1 ∧ S = sortV X ++ S1 ∧ X.length = w ∧ Blk w R1 S1 := by
  cases h with
  | last h => omega
  | more hX h2 => exact ⟨_, _, _, rfl, rfl, hX, h2⟩
theorem Blk.cut {w : Nat} {R S : Txt} (hw : 0 < w) (h : Blk w R S) (hl : w ≤ R.length) : ∃ X R1 S1, R = X ++ R1 ∧ S = sortV X ++ S1 ∧ X.length = w ∧ Blk w R1 S1 := by
  rcases Nat.lt_or_ge w R.length with h1 | h1
  · exact h.two hw h1
  · have := h.all hw h1
    exact ⟨R, [], [], by simp, by rw [this]; simp, by omega, Blk.last (L := []) (Nat.zero_le _)⟩
theorem sort_two (X Y : Txt) : sortV (sortV X ++ sortV Y) = sortV (X ++ Y) := sort_st compareV_cmp ((sort_both compareV_cmp X).2.app (sort_both compareV_cmp Y).2).symm
theorem sort_words {X : Txt} (h : ∀ x ∈ X, x.length ≤ 10000) : ∀ x ∈ sortV X, x.length ≤ 10000 := fun x hx => h x ((sort_mem compareV_cmp).1 hx)
set_option maxHeartbeats 4000000 in
/-- slices.stableCmpFunc -/
theorem stable_v {O : VH} {k c n : Nat} {sp : List MV} (L : Txt) (h : SB O k L sp) (hk : k < O.next) (hn : n = L.length) (hL : ∀ x ∈ L, x.length ≤ 10000) (hm : n ≤ 1000000) : VF Tryd.prog 55 [.asl k 0 n c, mi n, fcmp] O (Ret fun m O' => SB O' k (sortV L) sp ∧ Upd O (some k) O') := by
  have hc := compareV_cmp
  refine VF.ofW (n := ⟨63, 0⟩) (rs := []) tabOk Tryd.func55 rfl rfl rfl (Nat.le_of_ble_eq_true rfl) ?_
  simp only [argEnv, Nat.zero_add, Nat.reduceAdd]
  simp (disch := first | omega | (simp only [ds] <;> omega) | fail) only [wk, undefM, Nat.reduceLT, Nat.reduceAdd, Nat.reduceMul, Nat.reduceSub, Nat.reduceBEq, Nat.reduceEqDiff, Int.reduceToNat, reduceIte, tsSo]
  refine WC.loopK tabOk [7, 8] [0, 1, 2, 6] (fun s : Txt × Txt => [mi s.1.length, mi (s.1.length + 20 : Nat)]) (fun s O' => SB O' k (s.1 ++ s.2) sp ∧ Upd O (some k) O' ∧ s.1.length + s.2.length = n ∧ (∀ S, Blk 20 s.2 S → Blk 20 L (s.1 ++ S)) ∧ (∀ x ∈ s.2, x.length ≤ 10000)) (fun s => s.2.length) (([], L)) rfl rfl ?_ ?_
  · exact ⟨h, Upd.refl _ _, by rw [hn]; simp, fun S h => h, hL⟩
  rintro ⟨P, R⟩ O2 ⟨h2, hu2, hl2, hB, hR⟩
  dsimp only at h2 hl2 hB hR ⊢
  have hk2 : k < O2.next := Nat.lt_of_lt_of_le hk hu2.next
  by_cases hlt : P.length + 20 ≤ n
  · obtain ⟨X, R1, rfl, hX⟩ : ∃ X R1, R = X ++ R1 ∧ X.length = 20 := ⟨R.take 20, R.drop 20, (List.take_append_drop _ _).symm, by rw [List.length_take]; omega⟩
    rw [List.length_append] at hl2
    have hi := insertion_v (c := c) (n := n) (sp := sp) P X R1 (by rw [List.append_assoc]; exact h2) hk2 (by simp only [List.length_append]; omega) (fun x hx => hR x (List.mem_append_left _ hx)) hm
    rw [hX] at hi
    have hPl : (P ++ sortV X).length = P.length + 20 := by rw [List.length_append, show (sortV X).length = _ from sort_len X, hX]
    simp (disch := first | omega | (simp only [ds] <;> omega) | fail) only [wk, undefM, Nat.reduceLT, Nat.reduceAdd, Nat.reduceMul, Nat.reduceSub, Nat.reduceBEq, Nat.reduceEqDiff, Int.reduceToNat, reduceIte, tsSo]
    refine CallW.rt (hi) (by kernel_rfl) rfl rfl ?_
    rintro _ O3 ⟨h3, hu3⟩
    simp (disch := first | omega | (simp only [ds] <;> omega) | fail) only [wk, undefM, Nat.reduceLT, Nat.reduceAdd, Nat.reduceMul, Nat.reduceSub, Nat.reduceBEq, Nat.reduceEqDiff, Int.reduceToNat, reduceIte, tsSo]
    refine RoundQ.next (P ++ sortV X, R1) rfl (by dsimp only; rw [hPl]; rfl) ⟨h3, hu2.trans hu3, by dsimp only; omega, fun S hS => by rw [List.append_assoc]; exact hB _ (Blk.more hX hS), fun x hx => hR x (List.mem_append_right _ hx)⟩ (by dsimp only; rw [List.length_append]; omega)
  have hi := insertion_v (c := c) (n := n) (sp := sp) P R [] (by rw [List.append_nil]; exact h2) hk2 (by simp only [List.length_append, List.length_nil]; omega) hR hm
  rw [hl2, List.append_nil] at hi
  have hB1 := hB _ (Blk.last (w := 20) (L := R) (by omega))
  simp (disch := first | omega | (simp only [ds] <;> omega) | fail) only [wk, undefM, Nat.reduceLT, Nat.reduceAdd, Nat.reduceMul, Nat.reduceSub, Nat.reduceBEq, Nat.reduceEqDiff, Int.reduceToNat, reduceIte, tsSo]
  refine CallW.rt (hi) (by kernel_rfl) rfl rfl ?_
  rintro _ O3 ⟨h3, hu3⟩
  have hu3 := hu2.trans hu3
  simp (disch := first | omega | (simp only [ds] <;> omega) | fail) only [wk, undefM, Nat.reduceLT, Nat.reduceAdd, Nat.reduceMul, Nat.reduceSub, Nat.reduceBEq, Nat.reduceEqDiff, Int.reduceToNat, reduceIte, tsSo]
  generalize P ++ sortV R = S at *
  clear hi hB h2 hu2 hl2 hR hlt hk2
  refine WC.loopK tabOk [6] [0, 1, 2] (fun s : Nat => [mi s]) (fun s O' => 0 < s ∧ ∃ S, SB O' k S sp ∧ Blk s L S ∧ Upd O (some k) O') (fun s => n - s) (20) rfl rfl ?_ ?_
  · exact ⟨by omega, S, h3, hB1, hu3⟩
  clear hB1 h3 hu3 S
  rintro w O4 ⟨hw, S, h4, hB4, hu4⟩
  by_cases hwn : w < n
  · have hd : (2 : Int) * w = (2 * w : Nat) := by omega
    have hd2 : (w : Int) * 2 = (2 * w : Nat) := by omega
    have hSn : S.length = n := by rw [hB4.len, hn]
    simp (disch := first | omega | (simp only [ds] <;> omega) | fail) only [wk, undefM, Nat.reduceLT, Nat.reduceAdd, Nat.reduceMul, Nat.reduceSub, Nat.reduceBEq, Nat.reduceEqDiff, Int.reduceToNat, reduceIte, tsSo, hd]
    refine WC.loopK tabOk [7, 8] [0, 1, 2, 6] (fun s : Txt × Txt × Txt => [mi s.1.length, mi (2 * w + s.1.length : Nat)]) (fun s O' => SB O' k (s.1 ++ s.2.2) sp ∧ Upd O (some k) O' ∧ Blk w s.2.1 s.2.2 ∧ s.1.length + s.2.1.length = n ∧ (∀ T, Blk (2 * w) s.2.1 T → Blk (2 * w) L (s.1 ++ T)) ∧ (∀ x ∈ s.2.1, x.length ≤ 10000)) (fun s => s.2.1.length) (([], L, S)) rfl rfl ?_ ?_
    · exact ⟨h4, hu4, hB4, by rw [hn]; simp, fun T h => h, hL⟩
    rintro ⟨P, R, T⟩ O5 ⟨h5, hu5, hB5, hl5, hT, hR⟩
    dsimp only at h5 hB5 hl5 hT hR ⊢
    have hk5 : k < O5.next := Nat.lt_of_lt_of_le hk hu5.next
    have hd3 : (P.length : Int) + w = (P.length + w : Nat) := by omega
    by_cases hlt : P.length + 2 * w ≤ n
    · obtain ⟨X, R1, T1, rfl, rfl, hX, hB6⟩ := hB5.cut hw (by omega)
      rw [List.length_append] at hl5
      obtain ⟨Y, R2, T2, rfl, rfl, hY, hB7⟩ := hB6.cut hw (by omega)
      rw [List.length_append] at hl5
      have hT2 := hB7.len
      have lX : (sortV X).length = w := by rw [show (sortV X).length = _ from sort_len X, hX]
      have lY : (sortV Y).length = w := by rw [show (sortV Y).length = _ from sort_len Y, hY]
      have wX : ∀ x ∈ X, x.length ≤ 10000 := fun x hx => hR x (List.mem_append_left _ hx)
      have wY : ∀ x ∈ Y, x.length ≤ 10000 := fun x hx => hR x (List.mem_append_right _ (List.mem_append_left _ hx))
      have hi := symMerge_v ((sortV X).length + (sortV Y).length) (c := c) (n := n) (sp := sp) P (sortV X) (sortV Y) T2 (Nat.le_refl _) (by simpa only [List.append_assoc] using h5) hk5 (by simp only [List.length_append]; omega) (sort_both hc X).1 (sort_both hc Y).1 (by omega) (by omega) (sort_words wX) (sort_words wY) hm
      rw [sort_two, lX, lY, show P.length + w + w = 2 * w + P.length by omega] at hi
      have lXY : (sortV (X ++ Y)).length = 2 * w := by rw [show (sortV (X ++ Y)).length = _ from sort_len _, List.length_append]; omega
      have hPl : (P ++ sortV (X ++ Y)).length = 2 * w + P.length := by rw [List.length_append, lXY]; omega
      have hd4 : ((2 * w + P.length : Nat) : Int) + (2 * w : Nat) = (2 * w + (2 * w + P.length) : Nat) := by omega
      simp (disch := first | omega | (simp only [ds] <;> omega) | fail) only [wk, undefM, Nat.reduceLT, Nat.reduceAdd, Nat.reduceMul, Nat.reduceSub, Nat.reduceBEq, Nat.reduceEqDiff, Int.reduceToNat, reduceIte, tsSo, hd, hd3]
      refine CallW.rt (hi) (by kernel_rfl) rfl rfl ?_
      rintro _ O6 ⟨h6, hu6⟩
      simp (disch := first | omega | (simp only [ds] <;> omega) | fail) only [wk, undefM, Nat.reduceLT, Nat.reduceAdd, Nat.reduceMul, Nat.reduceSub, Nat.reduceBEq, Nat.reduceEqDiff, Int.reduceToNat, reduceIte, tsSo, hd, hd4]
      refine RoundQ.next (P ++ sortV (X ++ Y), R2, T2) rfl (by dsimp only; rw [hPl]; rfl) ⟨h6, hu5.trans hu6, hB7, by dsimp only; omega, fun T hS => by rw [List.append_assoc]; have := Blk.more (w := 2 * w) (X := X ++ Y) (by rw [List.length_append]; omega) hS; rw [List.append_assoc] at this; exact hT _ this, fun x hx => hR x (List.mem_append_right _ (List.mem_append_right _ hx))⟩ (by dsimp only; rw [List.length_append, List.length_append]; omega)
    by_cases hlw : P.length + w < n
    · obtain ⟨X, Y, T1, rfl, rfl, hX, hB6⟩ := hB5.cut hw (by omega)
      rw [List.length_append] at hl5
      have := hB6.all hw (by omega)
      subst this
      have lX : (sortV X).length = w := by rw [show (sortV X).length = _ from sort_len X, hX]
      have lY : (sortV Y).length = Y.length := sort_len Y
      have wX : ∀ x ∈ X, x.length ≤ 10000 := fun x hx => hR x (List.mem_append_left _ hx)
      have wY : ∀ x ∈ Y, x.length ≤ 10000 := fun x hx => hR x (List.mem_append_right _ hx)
      have hi := symMerge_v ((sortV X).length + (sortV Y).length) (c := c) (n := n) (sp := sp) P (sortV X) (sortV Y) [] (Nat.le_refl _) (by simpa only [List.append_assoc, List.append_nil] using h5) hk5 (by simp only [List.length_append, List.length_nil]; omega) (sort_both hc X).1 (sort_both hc Y).1 (by omega) (by omega) (sort_words wX) (sort_words wY) hm
      rw [sort_two, lX, lY, show P.length + w + Y.length = n by omega, List.append_nil] at hi
      have hB8 := hT _ (Blk.last (w := 2 * w) (L := X ++ Y) (by rw [List.length_append]; omega))
      simp (disch := first | omega | (simp only [ds] <;> omega) | fail) only [wk, undefM, Nat.reduceLT, Nat.reduceAdd, Nat.reduceMul, Nat.reduceSub, Nat.reduceBEq, Nat.reduceEqDiff, Int.reduceToNat, reduceIte, tsSo, hd, hd3]
      refine CallW.rt (hi) (by kernel_rfl) rfl rfl ?_
      rintro _ O6 ⟨h6, hu6⟩
      simp (disch := first | omega | (simp only [ds] <;> omega) | fail) only [wk, undefM, Nat.reduceLT, Nat.reduceAdd, Nat.reduceMul, Nat.reduceSub, Nat.reduceBEq, Nat.reduceEqDiff, Int.reduceToNat, reduceIte, tsSo, hd2]
      exact RoundQ.next (2 * w) rfl rfl ⟨by omega, _, h6, hB8, hu5.trans hu6⟩ (by omega)
    · have := hB5.all hw (by omega)
      subst this
      have hB8 := hT _ (Blk.last (w := 2 * w) (L := R) (by omega))
      simp (disch := first | omega | (simp only [ds] <;> omega) | fail) only [wk, undefM, Nat.reduceLT, Nat.reduceAdd, Nat.reduceMul, Nat.reduceSub, Nat.reduceBEq, Nat.reduceEqDiff, Int.reduceToNat, reduceIte, tsSo, hd, hd3, hd2]
      exact RoundQ.next (2 * w) rfl rfl ⟨by omega, _, h5, hB8, hu5⟩ (by omega)
  · have := hB4.all hw (by omega)
    subst this
    simp (disch := first | omega | (simp only [ds] <;> omega) | fail) only [wk, undefM, Nat.reduceLT, Nat.reduceAdd, Nat.reduceMul, Nat.reduceSub, Nat.reduceBEq, Nat.reduceEqDiff, Int.reduceToNat, reduceIte, tsSo]
    exact ⟨h4, hu4⟩
end Go.Proofs.YtjbpnhmjnkolbaaDoor

/-
  slices.SortStableFunc, slices.Clone of texts, walked.
-/
set_option linter.unusedVariables false
set_option linter.unusedSimpArgs false
namespace Go.Proofs.YtjbpnhmjnkolbaaDoor
open Go.RowKit
set_option maxRecDepth 10000
section
variable {P : Program} {n : Sz} {D : List Deferred} {e : Env} {O : VH}
/-- Is a slice nil? If it has anything, it isn't. -/
theorem nilS_MS {d : Option Tmp} {t t' ty el : TypeId} {x : Operand} {ps : String} {af : Array Edge} {g : Option (Nat × Bool)} {k : Nat} {cs : List MV} {tk : Tok} (hu : P.underlying t = some (.slice el)) (hx : ev e x = some (.sl k cs tk)) :
    YieldsM P n D (.mk d (.binOp .eql t x (.const (.slice none 0 0)) t') ty ps af g) e O fun m O' => O' = O ∧ ∃ b, m = .v (.bool b) ∧ (b = true → k = 0 ∧ cs = []) := by
  intro G a w hw hf
  have h1 := hf.ev hx
  have hc : a.eval (.const (.slice none 0 0)) = .slice none 0 0 := rfl
  have key : ∀ (A : Option Addr) (l c : Nat), a.eval x = .slice A l c → (A = none → k = 0 ∧ cs = []) → ∃ m O' u w' H, (O' = O ∧ ∃ b, m = .v (.bool b) ∧ (b = true → k = 0 ∧ cs = [])) ∧ (execOp a.eval (.mk d (.binOp .eql t x (.const (.slice none 0 0)) t') ty ps af g)).run P w = .ok (.value u) w' ∧ Gh.Le G H ∧ WR H O' w' ∧ VR H m u := fun A l c ha hA => by
    refine ⟨.v (.bool A.isNone), O, .bool A.isNone, w, G, ⟨rfl, _, rfl, fun h => hA (by cases A <;> first | rfl | cases h)⟩, ?_, Gh.Le.refl G, hw, .v rfl⟩
    have hgd : (eqGuard .eql t x (.const (.slice none 0 0)) (.slice A l c) (.slice none 0 0)).run P w = .ok () w := by simp [eqGuard]
    simp only [execOp, ha, hc, Sem.run_bind, hgd, Result.andThen_ok, run_eql_slice_nil w t el A l c hu]
    rfl
  generalize hv : a.eval x = v at h1
  cases h1 with
  | slnil => exact key none 0 0 hv fun _ => ⟨rfl, rfl⟩
  | sl0 h => exact key _ _ _ hv fun _ => ⟨rfl, rfl⟩
  | sl0n => exact key none 0 0 hv fun _ => ⟨rfl, rfl⟩
  | sl h1 h2 h3 h4 h5 h6 => exact key _ _ _ hv fun h => by cases h
end
theorem vbin_slS {tab : Tab} {op : BinOp} {t : TypeId} {n : Nat} {cs : List MV} {tk : Tok} {y : MV} : vbin tab op t (.sl n cs tk) y = none := rfl
/-- slices.SortStableFunc -/
theorem SortStable_v {O : VH} {k c n : Nat} {sp : List MV} (L : Txt) (h : SB O k L sp) (hk : k < O.next) (hn : n = L.length) (hL : ∀ x ∈ L, x.length ≤ 10000) (hm : n ≤ 1000000) : VF Tryd.prog 43 [.asl k 0 n c, fcmp] O (Ret fun m O' => SB O' k (sortV L) sp ∧ Upd O (some k) O') := by
  refine VF.ofW (n := ⟨9, 0⟩) (rs := []) tabOk Tryd.func43 rfl rfl rfl (Nat.le_of_ble_eq_true rfl) ?_
  simp only [argEnv, Nat.zero_add, Nat.reduceAdd]
  simp (disch := first | omega | (simp only [ds] <;> omega) | fail) only [wk, undefM, Nat.reduceLT, Nat.reduceAdd, Nat.reduceMul, Nat.reduceSub, Nat.reduceBEq, Nat.reduceEqDiff, Int.reduceToNat, reduceIte, tsSo]
  refine CallW.rt (stable_v L h hk hn hL hm) (by kernel_rfl) rfl rfl ?_
  rintro _ O2 ⟨h2, hu2⟩
  simp (disch := first | omega | (simp only [ds] <;> omega) | fail) only [wk, undefM, Nat.reduceLT, Nat.reduceAdd, Nat.reduceMul, Nat.reduceSub, Nat.reduceBEq, Nat.reduceEqDiff, Int.reduceToNat, reduceIte, tsSo]
  exact ⟨h2, hu2⟩
theorem insertion0_v (t : Tok) (O : VH) : VF Tryd.prog 63 [.sl 0 [] t, mi 0, mi 0, fcmp] O (Ret fun m O' => O' = O) := by
  refine VF.ofW (n := ⟨53, 0⟩) (rs := []) tabOk Tryd.func63 rfl rfl rfl (Nat.le_of_ble_eq_true rfl) ?_
  simp only [argEnv, Nat.zero_add, Nat.reduceAdd]
  simp (disch := first | omega | (simp only [ds] <;> omega) | fail) only [wk, undefM, Nat.reduceLT, Nat.reduceAdd, Nat.reduceMul, Nat.reduceSub, Nat.reduceBEq, Nat.reduceEqDiff, Int.reduceToNat, reduceIte, tsSo]
  refine WC.loopK tabOk [8] [0, 1, 2, 3] (fun s : Nat => [mi 1]) (fun s O' => O' = O) (fun s => s) (0) rfl rfl ?_ ?_
  · rfl
  rintro s O2 h2
  rw [h2]; clear h2 O2
  simp (disch := first | omega | (simp only [ds] <;> omega) | fail) only [wk, undefM, Nat.reduceLT, Nat.reduceAdd, Nat.reduceMul, Nat.reduceSub, Nat.reduceBEq, Nat.reduceEqDiff, Int.reduceToNat, reduceIte, tsSo]
theorem stable0_v (t : Tok) (O : VH) : VF Tryd.prog 55 [.sl 0 [] t, mi 0, fcmp] O (Ret fun m O' => O' = O) := by
  refine VF.ofW (n := ⟨63, 0⟩) (rs := []) tabOk Tryd.func55 rfl rfl rfl (Nat.le_of_ble_eq_true rfl) ?_
  simp only [argEnv, Nat.zero_add, Nat.reduceAdd]
  simp (disch := first | omega | (simp only [ds] <;> omega) | fail) only [wk, undefM, Nat.reduceLT, Nat.reduceAdd, Nat.reduceMul, Nat.reduceSub, Nat.reduceBEq, Nat.reduceEqDiff, Int.reduceToNat, reduceIte, tsSo]
  refine WC.loopK tabOk [7, 8] [0, 1, 2, 6] (fun s : Nat => [mi 0, mi 20]) (fun s O' => O' = O) (fun s => s) (0) rfl rfl ?_ ?_
  · rfl
  rintro s O2 h2
  rw [h2]; clear h2 O2
  simp (disch := first | omega | (simp only [ds] <;> omega) | fail) only [wk, undefM, Nat.reduceLT, Nat.reduceAdd, Nat.reduceMul, Nat.reduceSub, Nat.reduceBEq, Nat.reduceEqDiff, Int.reduceToNat, reduceIte, tsSo]
  refine CallW.rt (insertion0_v t _) (by kernel_rfl) rfl rfl ?_
  rintro _ O3 h3
  rw [h3]; clear h3 O3
  simp (disch := first | omega | (simp only [ds] <;> omega) | fail) only [wk, undefM, Nat.reduceLT, Nat.reduceAdd, Nat.reduceMul, Nat.reduceSub, Nat.reduceBEq, Nat.reduceEqDiff, Int.reduceToNat, reduceIte, tsSo]
  refine WC.loopK tabOk [6] [0, 1, 2] (fun s : Nat => [mi 20]) (fun s O' => O' = O) (fun s => s) (0) rfl rfl ?_ ?_
  · rfl
  rintro s O2 h2
  rw [h2]; clear h2 O2
  simp (disch := first | omega | (simp only [ds] <;> omega) | fail) only [wk, undefM, Nat.reduceLT, Nat.reduceAdd, Nat.reduceMul, Nat.reduceSub, Nat.reduceBEq, Nat.reduceEqDiff, Int.reduceToNat, reduceIte, tsSo]
theorem SortStable0_v (t : Tok) (O : VH) : VF Tryd.prog 43 [.sl 0 [] t, fcmp] O (Ret fun m O' => O' = O) := by
  refine VF.ofW (n := ⟨9, 0⟩) (rs := []) tabOk Tryd.func43 rfl rfl rfl (Nat.le_of_ble_eq_true rfl) ?_
  simp only [argEnv, Nat.zero_add, Nat.reduceAdd]
  simp (disch := first | omega | (simp only [ds] <;> omega) | fail) only [wk, undefM, Nat.reduceLT, Nat.reduceAdd, Nat.reduceMul, Nat.reduceSub, Nat.reduceBEq, Nat.reduceEqDiff, Int.reduceToNat, reduceIte, tsSo]
  refine CallW.rt (stable0_v t _) (by kernel_rfl) rfl rfl ?_
  rintro _ O2 h2
  rw [h2]; clear h2 O2
  simp (disch := first | omega | (simp only [ds] <;> omega) | fail) only [wk, undefM, Nat.reduceLT, Nat.reduceAdd, Nat.reduceMul, Nat.reduceSub, Nat.reduceBEq, Nat.reduceEqDiff, Int.reduceToNat, reduceIte, tsSo]
/-- slices.Clone of texts -/
theorem CloneS_v (L : Txt) (tk : Tok) (O : VH) (hn : L.length ≤ 100000) : VF Tryd.prog 42 [.sl L.length (L.map .str) tk] O (Ret fun m O' => O.Ge O' ∧ GR O' 9 1 O.next m L.length (L.map .str)) := by
  refine VF.ofW (n := ⟨8, 0⟩) (rs := [.tmp 2]) tabOk Tryd.func42 rfl rfl rfl (Nat.le_of_ble_eq_true rfl) ?_
  simp only [argEnv, Nat.zero_add, Nat.reduceAdd]
  simp (disch := first | omega | (simp only [ds] <;> omega) | fail) only [wk, undefM, Nat.reduceLT, Nat.reduceAdd, Nat.reduceMul, Nat.reduceSub, Nat.reduceBEq, Nat.reduceEqDiff, Int.reduceToNat, reduceIte, tsSo, vbin_slS]
  refine VL.stepP (.inl rfl) rfl rfl (nilS_MS Tryd.underlying38 rfl) ?_
  rintro _ O1 ⟨eO, b, rfl, hb⟩
  rw [eO]; clear eO O1
  refine WL.sound tabOk ?_
  cases b
  · simp (disch := first | omega | (simp only [ds] <;> omega) | fail) only [wk, undefM, Nat.reduceLT, Nat.reduceAdd, Nat.reduceMul, Nat.reduceSub, Nat.reduceBEq, Nat.reduceEqDiff, Int.reduceToNat, reduceIte, tsSo]
    refine VL.grow tabOk (.inl rfl) (te := ⟨_, 1, 16, _⟩) (B := O.next) (n' := 0) (L := []) (dx := .slice 9) (p := .sl 0 [] .full) (q := .sl L.length (L.map .str) tk) (j := L.length) (ds := L.map .str) (.inl ⟨rfl, rfl, .inr rfl⟩) (by simp [srcM]) (by rw [List.all_map]; exact List.all_eq_true.2 fun _ _ => rfl) (by rw [ty38]; rfl) ty9 (by rw [ty38]; rfl) trivial (by dsimp only; omega) (by simp only [maxLen]; omega) (Nat.le_refl _) rfl rfl rfl rfl ?_
    intro m O' h1 h2 h3 h4
    rw [Nat.zero_add, List.nil_append] at h1
    simp (disch := first | omega | (simp only [ds] <;> omega) | fail) only [wk, undefM, Nat.reduceLT, Nat.reduceAdd, Nat.reduceMul, Nat.reduceSub, Nat.reduceBEq, Nat.reduceEqDiff, Int.reduceToNat, reduceIte, tsSo]
    exact ⟨h3 rfl, h1⟩
  · obtain ⟨h0, h1⟩ := hb rfl
    rw [h0, h1]
    simp (disch := first | omega | (simp only [ds] <;> omega) | fail) only [wk, undefM, Nat.reduceLT, Nat.reduceAdd, Nat.reduceMul, Nat.reduceSub, Nat.reduceBEq, Nat.reduceEqDiff, Int.reduceToNat, reduceIte, tsSo]
    exact ⟨VH.Ge.refl _, .inl ⟨rfl, rfl, .inl rfl⟩⟩
end Go.Proofs.YtjbpnhmjnkolbaaDoor

/-
  version.Sort, walked.
-/
set_option linter.unusedVariables false
set_option linter.unusedSimpArgs false
namespace Go.Proofs.YtjbpnhmjnkolbaaDoor
open Go.RowKit
set_option maxRecDepth 10000
/-- version.Sort -/
theorem Sort_v (L : Txt) (tk : Tok) (O : VH) (hn : L.length ≤ 100000) (hL : ∀ x ∈ L, x.length ≤ 10000) : VF Tryd.prog 23 [.sl L.length (L.map .str) tk] O (Ret fun m O' => O.Ge O' ∧ GR O' 9 1 O.next m L.length ((sortV L).map .str)) := by
  refine VF.ofW (n := ⟨9, 0⟩) (rs := [.tmp 2]) tabOk Tryd.func23 rfl rfl rfl (Nat.le_of_ble_eq_true rfl) ?_
  simp only [argEnv, Nat.zero_add, Nat.reduceAdd]
  simp (disch := first | omega | (simp only [ds] <;> omega) | fail) only [wk, undefM, Nat.reduceLT, Nat.reduceAdd, Nat.reduceMul, Nat.reduceSub, Nat.reduceBEq, Nat.reduceEqDiff, Int.reduceToNat, reduceIte, tsSo]
  refine CallW.rt (CloneS_v L tk _ hn) (by kernel_rfl) rfl rfl ?_
  rintro m O2 ⟨hg2, ⟨h0, hLe, rfl | rfl⟩ | ⟨k, c, rfl, hnc, hlen, hrow⟩⟩
  · have hL0 : L = [] := List.eq_nil_of_length_eq_zero h0
    subst hL0
    simp (disch := first | omega | (simp only [ds] <;> omega) | fail) only [wk, undefM, Nat.reduceLT, Nat.reduceAdd, Nat.reduceMul, Nat.reduceSub, Nat.reduceBEq, Nat.reduceEqDiff, Int.reduceToNat, reduceIte, tsSo]
    refine CallW.rt (SortStable0_v _ _) (by kernel_rfl) rfl rfl ?_
    rintro _ O3 h3
    rw [h3]; clear h3 O3
    simp (disch := first | omega | (simp only [ds] <;> omega) | fail) only [wk, undefM, Nat.reduceLT, Nat.reduceAdd, Nat.reduceMul, Nat.reduceSub, Nat.reduceBEq, Nat.reduceEqDiff, Int.reduceToNat, reduceIte, tsSo]
    exact ⟨hg2, .inl ⟨rfl, rfl, .inl rfl⟩⟩
  · have hL0 : L = [] := List.eq_nil_of_length_eq_zero h0
    subst hL0
    simp (disch := first | omega | (simp only [ds] <;> omega) | fail) only [wk, undefM, Nat.reduceLT, Nat.reduceAdd, Nat.reduceMul, Nat.reduceSub, Nat.reduceBEq, Nat.reduceEqDiff, Int.reduceToNat, reduceIte, tsSo]
    refine CallW.rt (SortStable0_v _ _) (by kernel_rfl) rfl rfl ?_
    rintro _ O3 h3
    rw [h3]; clear h3 O3
    simp (disch := first | omega | (simp only [ds] <;> omega) | fail) only [wk, undefM, Nat.reduceLT, Nat.reduceAdd, Nat.reduceMul, Nat.reduceSub, Nat.reduceBEq, Nat.reduceEqDiff, Int.reduceToNat, reduceIte, tsSo]
    exact ⟨hg2, .inl ⟨rfl, rfl, .inr rfl⟩⟩
  · obtain ⟨sp, hc1, hc2⟩ := hrow.cells
    obtain ⟨j, hj1, hj2, hj3⟩ := hrow.shp
    have hjk : k ≠ j := fun e => by rw [← e, hc1] at hj3; cases hj3
    simp (disch := first | omega | (simp only [ds] <;> omega) | fail) only [wk, undefM, Nat.reduceLT, Nat.reduceAdd, Nat.reduceMul, Nat.reduceSub, Nat.reduceBEq, Nat.reduceEqDiff, Int.reduceToNat, reduceIte, tsSo]
    refine CallW.rt (SortStable_v (sp := sp) L hc1 hrow.hi rfl hL (by omega)) (by kernel_rfl) rfl rfl ?_
    rintro _ O3 ⟨h3, hu3⟩
    simp (disch := first | omega | (simp only [ds] <;> omega) | fail) only [wk, undefM, Nat.reduceLT, Nat.reduceAdd, Nat.reduceMul, Nat.reduceSub, Nat.reduceBEq, Nat.reduceEqDiff, Int.reduceToNat, reduceIte, tsSo]
    have hsl : (sortV L).length = L.length := sort_len L
    refine ⟨hu3.ge hg2 hrow.lo, .inr ⟨k, c, rfl, hnc, by rw [List.length_map, hsl, Nat.mul_one], ⟨⟨sp, h3, ?_⟩, ⟨j, hj1, Nat.lt_of_lt_of_le hj2 hu3.next, (hu3.hp j hj2 (by simpa using hjk)).trans hj3⟩, hrow.lo, Nat.lt_of_lt_of_le hrow.hi hu3.next⟩⟩⟩
    rw [List.length_append, List.length_map] at hc2 ⊢
    rw [hsl]; exact hc2
end Go.Proofs.YtjbpnhmjnkolbaaDoor

/-
  slices.MaxFunc, version.Highest, walked.
-/
set_option linter.unusedVariables false
set_option linter.unusedSimpArgs false
namespace Go.Proofs.YtjbpnhmjnkolbaaDoor
open Go.RowKit
set_option maxRecDepth 10000
/-- The greatest of a row, the first of the same. -/
def maxL (m : List UInt8) : List (List UInt8) → List UInt8
  | [] => m
  | x :: r => maxL (if compareV x m > 0 then x else m) r
def highF : List (List UInt8) → List UInt8 × Bool
  | [] => ([], false)
  | x :: r => (maxL x r, true)
theorem maxL_snoc (m : List UInt8) (x : List UInt8) : ∀ r, maxL m (r ++ [x]) = if compareV x (maxL m r) > 0 then x else maxL m r := by
  intro r
  induction r generalizing m with
  | nil => rfl
  | cons y r ih => exact ih _
theorem maxL_mem (m : List UInt8) (r : List (List UInt8)) : maxL m r ∈ m :: r := by
  induction r generalizing m with
  | nil => simp [maxL]
  | cons x r ih =>
    rw [maxL]
    have := ih (if compareV x m > 0 then x else m)
    rcases List.mem_cons.1 this with h | h
    · rw [h]; split <;> simp
    · simp [h]
theorem highF_snoc (l : List (List UInt8)) (x : List UInt8) : highF (l ++ [x]) = (if !(highF l).2 || decide (compareV x (highF l).1 > 0) then x else (highF l).1, true) := by
  cases l with
  | nil => rfl
  | cons y l =>
    show (maxL y (l ++ [x]), true) = _
    rw [maxL_snoc]
    simp [highF]
/-- slices.MaxFunc by version.Compare -/
theorem MaxFunc_v (x : List UInt8) (r : List (List UInt8)) (tk : Tok) (O : VH) (hn : r.length + 1 ≤ maxLen) (hl : ∀ v ∈ x :: r, v.length ≤ 10000) : VF Tryd.prog 44 [.sl (r.length + 1) ((x :: r).map .str) tk, .func (.func 18) [] []] O (Ret fun m O' => m = .str (maxL x r) ∧ O.Ge O') := by
  have hnm : (r.length : Int) + 1 ≤ 9223372036854775807 := by simp [maxLen] at hn; omega
  have hml : ((x :: r).map MV.str).length = r.length + 1 := by simp
  have h0 : 0 < r.length + 1 := by omega
  refine VF.ofW (n := ⟨33, 0⟩) (rs := [.tmp 4]) tabOk Tryd.func44 rfl rfl rfl (Nat.le_of_ble_eq_true rfl) ?_
  simp only [argEnv, Nat.zero_add, Nat.reduceAdd]
  simp (disch := first | omega | (simp only [ds] <;> omega) | fail) only [wk, undefM, Nat.reduceLT, Nat.reduceAdd, Nat.reduceMul, Nat.reduceSub, Nat.reduceBEq, Nat.reduceEqDiff, Int.reduceToNat, reduceIte, tsSo, T33]
  refine WC.loopK tabOk [5, 6] [0, 1] (fun j : Nat => [.str (maxL x (r.take j)), mi (j + 1)]) (fun j O' => O.Ge O' ∧ j ≤ r.length) (fun j => r.length - j) (0) rfl rfl ?_ ?_
  · exact ⟨VH.Ge.refl _, Nat.zero_le _⟩
  rintro j O2 ⟨hg2, hj⟩
  by_cases h2 : j < r.length
  · have hat : ((x :: r).map MV.str)[j + 1]? = some (.str r[j]) := by simp [h2]
    have hat2 := List.getElem?_eq_getElem h2
    have hsn := maxL_snoc x r[j] (r.take j)
    rw [← take_snoc _ _ h2] at hsn
    have hm : (maxL x (r.take j)).length ≤ 10000 := by
      have := maxL_mem x (r.take j)
      rcases List.mem_cons.1 this with h | h
      · rw [h]; exact hl x (by simp)
      · exact hl _ (List.mem_cons_of_mem _ (List.mem_of_mem_take h))
    have hv : r[j].length ≤ 10000 := hl _ (List.mem_cons_of_mem _ (List.getElem_mem h2))
    generalize maxL x (r.take j) = m at *
    generalize r[j] = v at *
    have hj1 : ((j : Int) + 1).toNat = j + 1 := by omega
    simp (disch := first | omega | (simp only [ds] <;> omega) | fail) only [wk, undefM, Nat.reduceLT, Nat.reduceAdd, Nat.reduceMul, Nat.reduceSub, Nat.reduceBEq, Nat.reduceEqDiff, Int.reduceToNat, reduceIte, tsSo, T33, hat2, hj1]
    refine CallW.rt (Compare_v v m _ hv hm) (by kernel_rfl) rfl rfl ?_
    rintro _ O3 ⟨rfl, hg3⟩
    by_cases e : compareV v m > 0
    · rw [if_pos e] at hsn
      simp (disch := first | omega | (simp only [ds] <;> omega) | fail) only [wk, undefM, Nat.reduceLT, Nat.reduceAdd, Nat.reduceMul, Nat.reduceSub, Nat.reduceBEq, Nat.reduceEqDiff, Int.reduceToNat, reduceIte, tsSo, hat2, hj1, e]
      exact RoundQ.next (j + 1) rfl (by rw [hsn]; rfl) ⟨hg2.trans hg3, by omega⟩ (by omega)
    · rw [if_neg e] at hsn
      simp (disch := first | omega | (simp only [ds] <;> omega) | fail) only [wk, undefM, Nat.reduceLT, Nat.reduceAdd, Nat.reduceMul, Nat.reduceSub, Nat.reduceBEq, Nat.reduceEqDiff, Int.reduceToNat, reduceIte, tsSo, hat2, hj1, e]
      exact RoundQ.next (j + 1) rfl (by rw [hsn]; rfl) ⟨hg2.trans hg3, by omega⟩ (by omega)
  · have hjl : j = r.length := by omega
    subst hjl
    rw [List.take_length]
    simp (disch := first | omega | (simp only [ds] <;> omega) | fail) only [wk, undefM, Nat.reduceLT, Nat.reduceAdd, Nat.reduceMul, Nat.reduceSub, Nat.reduceBEq, Nat.reduceEqDiff, Int.reduceToNat, reduceIte, tsSo, T33]
    exact hg2
/-- version.Highest -/
theorem Highest_v (l : List (List UInt8)) (tk : Tok) (O : VH) (hn : l.length ≤ maxLen) (hl : ∀ v ∈ l, v.length ≤ 10000) : VF Tryd.prog 24 [.sl l.length (l.map .str) tk] O (Ret fun m O' => m = .tuple [.str (highF l).1, mb (highF l).2] ∧ O.Ge O') := by
  refine VF.ofW (n := ⟨9, 0⟩) (rs := [.tmp 2, .tmp 3]) tabOk Tryd.func24 rfl rfl rfl (Nat.le_of_ble_eq_true rfl) ?_
  simp only [argEnv, Nat.zero_add, Nat.reduceAdd]
  cases l with
  | nil =>
    simp (disch := first | omega | (simp only [ds] <;> omega) | fail) only [wk, undefM, Nat.reduceLT, Nat.reduceAdd, Nat.reduceMul, Nat.reduceSub, Nat.reduceBEq, Nat.reduceEqDiff, Int.reduceToNat, reduceIte, tsSo, List.length_nil]
    exact ⟨rfl, VH.Ge.refl _⟩
  | cons x r =>
    have h0 : (((r.length + 1 : Nat) : Int) == 0) = false := by simp; omega
    simp only [List.length_cons] at hn
    simp (disch := first | omega | (simp only [ds] <;> omega) | fail) only [wk, undefM, Nat.reduceLT, Nat.reduceAdd, Nat.reduceMul, Nat.reduceSub, Nat.reduceBEq, Nat.reduceEqDiff, Int.reduceToNat, reduceIte, tsSo, List.length_cons, h0]
    refine CallW.rt (MaxFunc_v x r tk _ hn hl) (by kernel_rfl) rfl rfl ?_
    rintro _ O2 ⟨rfl, hg2⟩
    simp (disch := first | omega | (simp only [ds] <;> omega) | fail) only [wk, undefM, Nat.reduceLT, Nat.reduceAdd, Nat.reduceMul, Nat.reduceSub, Nat.reduceBEq, Nat.reduceEqDiff, Int.reduceToNat, reduceIte, tsSo]
    exact ⟨rfl, hg2⟩
theorem filter_snoc (p : List UInt8 → Bool) (l : List (List UInt8)) (j : Nat) (h : j < l.length) : (l.take (j + 1)).filter p = (l.take j).filter p ++ if p l[j] then [l[j]] else [] := by
  rw [take_snoc _ _ h, List.filter_append]
  congr 1
  cases hp : p l[j] <;> simp [hp]
theorem filter_le (p : List UInt8 → Bool) (l : List (List UInt8)) (j : Nat) : ((l.take j).filter p).length ≤ j := Nat.le_trans (List.length_filter_le _ _) (by rw [List.length_take]; omega)
end Go.Proofs.YtjbpnhmjnkolbaaDoor

/-
  The law VersionSorts, walked.
-/
set_option linter.unusedVariables false
set_option linter.unusedSimpArgs false
namespace Go.Proofs.YtjbpnhmjnkolbaaDoor
open Go.RowKit
set_option maxRecDepth 10000
/-- The law's own row: of the first 60 texts those of at most 100 bytes. -/
def ownL (l : Txt) (j : Nat) : Txt := ((l.take j).take 60).filter fun s => decide (s.length ≤ 100)
theorem own_in {l : Txt} {j : Nat} (h : j < l.length) (h6 : j < 60) (k : l[j].length ≤ 100) : ownL l (j + 1) = ownL l j ++ [l[j]] := by
  unfold ownL
  rw [List.take_take, List.take_take, Nat.min_eq_right (by omega), Nat.min_eq_right (by omega), take_snoc _ _ h, List.filter_append]
  simp [k]
theorem own_long {l : Txt} {j : Nat} (h : j < l.length) (h6 : j < 60) (k : ¬ l[j].length ≤ 100) : ownL l (j + 1) = ownL l j := by
  unfold ownL
  rw [List.take_take, List.take_take, Nat.min_eq_right (by omega), Nat.min_eq_right (by omega), take_snoc _ _ h, List.filter_append]
  simp [k]
theorem own_out {l : Txt} {j : Nat} (h6 : ¬ j < 60) : ownL l (j + 1) = ownL l j := by
  unfold ownL
  rw [List.take_take, List.take_take, Nat.min_eq_left (by omega), Nat.min_eq_left (by omega)]
theorem own_le (l : Txt) (j : Nat) : (ownL l j).length ≤ 60 := Nat.le_trans (List.length_filter_le _ _) (by rw [List.length_take]; omega)
theorem own_words (l : Txt) (j : Nat) : ∀ x ∈ ownL l j, x.length ≤ 100 := fun x hx => by simpa using (List.mem_filter.1 hx).2
theorem fm_strS : ∀ l : Txt, (l.flatMap fun l => [MV.str l]) = l.map .str
  | [] => rfl
  | x :: r => by rw [List.flatMap_cons, fm_strS r]; rfl
/-- A row cut at a place, with no room behind. -/
def sl3R (n : Nat) (cs : List MV) (tk : Tok) (q a : Nat) : MV := if n = 0 then .sl 0 [] (cut0 tk) else if q = 0 then .sl 0 [] .full else .sl q (cs.take (q * a)) .full
theorem sl3_s {tab : Tab} {t el : TypeId} {a b a' b' n : Nat} {z z' cs : List MV} {u : TypeDesc} {tk : Tok} {j : Int} {kk kk' : IntKind} (h : tab t = some ⟨.slice el, a, b, z⟩) (h' : tab el = some ⟨u, a', b', z'⟩) (h0 : 0 ≤ j) (h1 : j.toNat ≤ n) (hc : cs.length = n * a') : vslice3 tab t (.sl n cs tk) none (.v (.int kk j)) (.v (.int kk' j)) = some (sl3R n cs tk j.toNat a') := by
  simp only [vslice3, h, h', Option.map_some, vbound]
  rw [if_pos ⟨h0, h0, Nat.zero_le _, Nat.le_refl _⟩, if_pos ⟨h1, hc⟩]
  unfold sl3R
  by_cases hn : n = 0
  · rw [if_pos hn, if_pos hn]
  · rw [if_neg hn, if_neg hn]
    by_cases hq : j.toNat = 0
    · rw [if_pos hq, if_pos hq]
    · rw [if_neg hq, if_neg hq, if_pos trivial, Nat.sub_zero, Nat.zero_mul, List.drop_zero]
theorem sl3R_t {S : Txt} {tk : Tok} {k : Nat} (h : S.length = 0 → tk = .nil) (hk : k ≤ S.length) : ∃ t, sl3R S.length (S.map MV.str) tk k 1 = .sl k ((S.take k).map .str) t ∧ ∀ O B, App O B 1 t := by
  unfold sl3R
  by_cases h0 : S.length = 0
  · rw [if_pos h0, h h0]
    obtain rfl : k = 0 := by omega
    exact ⟨.nil, rfl, fun _ _ => trivial⟩
  · rw [if_neg h0]
    by_cases hk0 : k = 0
    · rw [if_pos hk0, hk0]; exact ⟨.full, rfl, fun _ _ => trivial⟩
    · rw [if_neg hk0, Nat.mul_one, ← List.map_take]; exact ⟨.full, rfl, fun _ _ => trivial⟩
theorem put_row {tab : Tab} {t el : TypeId} {a b by' : Nat} {z y : List MV} {u : TypeDesc} (h : tab t = some ⟨.slice el, a, b, z⟩) (h2 : tab el = some ⟨u, 1, by', y⟩) (hby : by' = 16) {S : Txt} {v : List UInt8} {ds : List MV} {tq t2 : Tok} {k : Nat} (O : VH) (hq : ∀ O B, App O B 1 tq) (hk : k ≤ S.length) (hS : S.length ≤ 60) (hds : ds = (S.drop k).map .str) :
    ∃ r O1 t3 O2, vappend tab O t (.sl 1 [.str v] .full) (.sl (S.length - k) ds t2) = some (r, O1) ∧ vappend tab O1 t (.sl k ((S.take k).map .str) tq) r = some (.sl (S.length + 1) ((S.take k ++ v :: S.drop k).map .str) t3, O2) ∧ O.Ge O2 := by
  subst hds; subst hby
  have hl : ((S.take k).map MV.str).length = k * 1 := by rw [List.length_map, List.length_take]; omega
  have hd : ((S.drop k).map MV.str).length = (S.length - k) * 1 := by rw [List.length_map, List.length_drop]; omega
  have two : ∀ (O1 : VH) (t' : Tok), O.Ge O1 → ∃ t3 O2, vappend tab O1 t (.sl k ((S.take k).map .str) tq) (.sl (1 + (S.length - k)) ([MV.str v] ++ (S.drop k).map MV.str) t') = some (.sl (S.length + 1) ((S.take k ++ v :: S.drop k).map .str) t3, O2) ∧ O.Ge O2 := fun O1 t' hg => by
    have := vappend_app (tk' := t') h h2 (hq O1 O.next) hl (show ([MV.str v] ++ (S.drop k).map MV.str).length = (1 + (S.length - k)) * 1 by rw [List.length_append, hd]; simp) (by rw [List.all_append, Bool.and_eq_true]; exact ⟨rfl, by rw [List.all_map]; exact List.all_eq_true.2 fun _ _ => rfl⟩) (by decide) (by omega) (by omega) (by simp only [maxLen]; omega)
    exact ⟨_, _, by rw [this, show k + (1 + (S.length - k)) = S.length + 1 by omega, List.map_append, List.map_cons]; rfl, hg.after (hq O1 O.next) (Nat.le_refl _)⟩
  by_cases h0 : S.length - k = 0
  · have he : S.drop k = [] := List.drop_of_length_le (by omega)
    obtain ⟨t3, O2, h4, h5⟩ := two O .full (VH.Ge.refl _)
    rw [he, h0] at h4
    refine ⟨.sl 1 [.str v] .full, O, t3, O2, ?_, by rw [he]; exact h4, h5⟩
    rw [he, h0]
    simp [vappend, h, h2]
  · have h1 := vappend_app (tk' := t2) h h2 (B := O.next) (O := O) (tk := .full) (n := 1) (cs := [.str v]) trivial rfl hd (by rw [List.all_map]; exact List.all_eq_true.2 fun _ _ => rfl) (by decide) h0 (by omega) (by simp only [maxLen]; omega)
    obtain ⟨t3, O2, h4, h5⟩ := two _ (.own O.next 1) ((VH.Ge.refl O).after (B := O.next) (sz := 1) (tk := .full) trivial (Nat.le_refl _))
    exact ⟨_, _, t3, O2, h1, h4, h5⟩
theorem was_row {tab : Tab} {t el : TypeId} {a b by' : Nat} {z y : List MV} {u : TypeDesc} (h : tab t = some ⟨.slice el, a, b, z⟩) (h2 : tab el = some ⟨u, 1, by', y⟩) (hby : by' = 16) (W : Txt) (tk : Tok) (O : VH) (hW : W.length ≤ 60) :
    ∃ t3 O2, vappend tab O t (.sl 0 [] .full) (.sl W.length (W.map .str) tk) = some (.sl W.length (W.map .str) t3, O2) ∧ O.Ge O2 := by
  subst hby
  by_cases h0 : W.length = 0
  · obtain rfl := List.eq_nil_of_length_eq_zero h0
    exact ⟨.full, O, by simp [vappend, h, h2], VH.Ge.refl _⟩
  · have h1 := vappend_app (tk' := tk) h h2 (B := O.next) (O := O) (tk := .full) (n := 0) (cs := []) trivial rfl (show (W.map MV.str).length = W.length * 1 by simp) (by rw [List.all_map]; exact List.all_eq_true.2 fun _ _ => rfl) (by decide) h0 (by omega) (by simp only [maxLen]; omega)
    exact ⟨_, _, by rw [h1, Nat.zero_add, List.nil_append], (VH.Ge.refl O).after (B := O.next) (sz := 1) (tk := .full) trivial (Nat.le_refl _)⟩
theorem vextract_2a {a b : MV} : vextract (.tuple [a, b]) 0 = some a := rfl
theorem vextract_2b {a b : MV} : vextract (.tuple [a, b]) 1 = some b := rfl
theorem highF_le {n : Nat} (l : Txt) (h : ∀ y ∈ l, y.length ≤ n) : (highF l).1.length ≤ n := by
  cases l with
  | nil => exact Nat.zero_le _
  | cons x r => exact h _ (maxL_mem x r)
theorem highF_has (l : Txt) (x : Nat) (hx : x ≤ l.length) : (highF (l.take x)).2 = decide (0 < x) := by
  cases l with
  | nil => obtain rfl : x = 0 := Nat.le_zero.1 hx; rfl
  | cons y r => cases x <;> rfl
/-- pomacelaw04.VersionSorts -/
theorem sorts_run (l : Txt) (tl : Tok) (O : VH) (hl : ∀ v ∈ l, v.length ≤ maxLen) (hn : l.length ≤ maxLen) : VF Tryd.prog 11 [.sl l.length (l.map .str) tl] O (Ret fun m O' => m = mb true) := by
  have hnm : (l.length : Int) ≤ 9223372036854775807 := by simp [maxLen] at hn; omega
  have hml : (l.map MV.str).length = l.length := by simp
  refine VF.ofW (n := ⟨142, 0⟩) (rs := [.tmp 2]) tabOk Tryd.func11 rfl rfl rfl (Nat.le_of_ble_eq_true rfl) ?_
  simp only [argEnv, Nat.zero_add, Nat.reduceAdd]
  simp (disch := first | omega | (simp only [ds] <;> omega) | fail) only [wk, undefM, Nat.reduceLT, Nat.reduceAdd, Nat.reduceMul, Nat.reduceSub, Nat.reduceBEq, Nat.reduceEqDiff, Int.reduceToNat, reduceIte, tsSo]
  refine WC.loopK tabOk [3, 20] [18, 19] (fun x : Nat × Tok => [.sl (ownL l x.1).length ((ownL l x.1).map .str) x.2, mi x.1]) (fun x O' => O.Ge O' ∧ App O' O.next 1 x.2 ∧ x.1 ≤ l.length) (fun x => l.length - x.1) ((0, .nil)) rfl rfl ?_ ?_
  · exact ⟨VH.Ge.refl _, trivial, Nat.zero_le _⟩
  rintro ⟨j, tk⟩ O2 ⟨hg2, ha, hj⟩
  dsimp only at ha hj ⊢
  by_cases hj2 : j < l.length
  · have hat : (l.map MV.str)[j]? = some (.str l[j]) := by simp [hj2]
    have hat2 := List.getElem?_eq_getElem hj2
    have hlv := hl l[j] (List.getElem_mem hj2)
    have hi1 := own_in hj2
    have hi2 := own_long hj2
    have hi3 := own_out (l := l) (j := j)
    have hle := own_le l j
    generalize l[j] = v at *
    have hvm : (v.length : Int) ≤ 9223372036854775807 := by simp [maxLen] at hlv; omega
    by_cases h60 : j < 60
    · by_cases h100 : v.length ≤ 100
      · have hsn := hi1 h60 h100
        simp (disch := first | omega | (simp only [ds] <;> omega) | fail) only [wk, undefM, Nat.reduceLT, Nat.reduceAdd, Nat.reduceMul, Nat.reduceSub, Nat.reduceBEq, Nat.reduceEqDiff, Int.reduceToNat, reduceIte, tsSo, hat, hat2]
        have hap := vappend_app (tk' := .full) (n := (ownL l j).length) (k := 1) (cs := (ownL l j).map .str) (ds := [.str v]) ty38 ty9 ha (by simp) rfl rfl (by decide) (by decide) (by omega) (by simp [maxLen]; omega)
        refine VL.app tabOk hap rfl rfl rfl rfl ?_
        simp (disch := first | omega | (simp only [ds] <;> omega) | fail) only [wk, undefM, Nat.reduceLT, Nat.reduceAdd, Nat.reduceMul, Nat.reduceSub, Nat.reduceBEq, Nat.reduceEqDiff, Int.reduceToNat, reduceIte, tsSo]
        refine RoundQ.next (j + 1, .own O2.next 1) rfl (by dsimp only; rw [hsn]; simp only [List.length_append, List.map_append, List.length_cons, List.length_nil, List.map_cons, List.map_nil, Nat.zero_add]; rfl) ⟨hg2.after ha (Nat.le_refl _), App.after hg2.next, hj2⟩ (by dsimp only; omega)
      · have hsn := hi2 h60 h100
        simp (disch := first | omega | (simp only [ds] <;> omega) | fail) only [wk, undefM, Nat.reduceLT, Nat.reduceAdd, Nat.reduceMul, Nat.reduceSub, Nat.reduceBEq, Nat.reduceEqDiff, Int.reduceToNat, reduceIte, tsSo, hat, hat2]
        exact RoundQ.next (j + 1, tk) rfl (by dsimp only; rw [hsn]; rfl) ⟨hg2, ha, hj2⟩ (by dsimp only; omega)
    · have hsn := hi3 h60
      simp (disch := first | omega | (simp only [ds] <;> omega) | fail) only [wk, undefM, Nat.reduceLT, Nat.reduceAdd, Nat.reduceMul, Nat.reduceSub, Nat.reduceBEq, Nat.reduceEqDiff, Int.reduceToNat, reduceIte, tsSo, hat, hat2]
      exact RoundQ.next (j + 1, tk) rfl (by dsimp only; rw [hsn]; rfl) ⟨hg2, ha, hj2⟩ (by dsimp only; omega)
  simp (disch := first | omega | (simp only [ds] <;> omega) | fail) only [wk, undefM, Nat.reduceLT, Nat.reduceAdd, Nat.reduceMul, Nat.reduceSub, Nat.reduceBEq, Nat.reduceEqDiff, Int.reduceToNat, reduceIte, tsSo]
  have hle := own_le l j
  have how := own_words l j
  generalize ownL l j = W at *
  clear ha hj hj2 hl hn hnm hml
  have hc := compareV_cmp
  refine WC.loopK tabOk [6, 39] [3, 37, 38] (fun x : Nat × Tok => [.sl (sortV (W.take x.1)).length ((sortV (W.take x.1)).map .str) x.2, mi x.1]) (fun x O' => O2.Ge O' ∧ x.1 ≤ W.length ∧ (x.1 = 0 → x.2 = .nil)) (fun x => W.length - x.1) ((0, .nil)) rfl rfl ?_ ?_
  · exact ⟨VH.Ge.refl _, Nat.zero_le _, fun _ => rfl⟩
  rintro ⟨i, tw⟩ O3 ⟨hg3, hi, htn⟩
  dsimp only at hi htn ⊢
  by_cases hi2 : i < W.length
  · have hat := List.getElem?_eq_getElem hi2
    have hat2 : (W.map MV.str)[i]? = some (.str W[i]) := by simp [hi2]
    have hsn : sortV (W.take (i + 1)) = insS compareV W[i] (sortV (W.take i)) := by rw [take_snoc _ _ hi2]; exact sort_snoc _ _
    have hsv := how W[i] (List.getElem_mem hi2)
    have hSs : Srt compareV (sortV (W.take i)) := (sort_both hc _).1
    have hSl : (sortV (W.take i)).length ≤ 60 := by rw [show (sortV (W.take i)).length = _ from sort_len _, List.length_take]; omega
    have hSw : ∀ y ∈ sortV (W.take i), y.length ≤ 100 := fun y hy => how y (List.mem_of_mem_take ((sort_mem hc).1 hy))
    have htw : (sortV (W.take i)).length = 0 → tw = .nil := fun h => htn (by rw [show (sortV (W.take i)).length = _ from sort_len _, List.length_take] at h; omega)
    generalize W[i] = v at *
    generalize sortV (W.take i) = S at *
    simp (disch := first | omega | (simp only [ds] <;> omega) | fail) only [wk, undefM, Nat.reduceLT, Nat.reduceAdd, Nat.reduceMul, Nat.reduceSub, Nat.reduceBEq, Nat.reduceEqDiff, Int.reduceToNat, reduceIte, tsSo, hat, hat2]
    refine WC.loopK tabOk [9] [3, 6, 8, 37, 38, 39] (fun k : Nat => [mi k]) (fun k O' => O3.Ge O' ∧ k ≤ S.length ∧ ∀ y ∈ S.drop k, compareV v y < 0) (fun k => k) (S.length) rfl rfl ?_ ?_
    · exact ⟨VH.Ge.refl _, Nat.le_refl _, by rw [List.drop_length]; simp⟩
    rintro k O4 ⟨hg4, hk, hgt⟩
    have fin : (k = 0 ∨ ∃ y, S[k - 1]? = some y ∧ ¬ compareV v y < 0) → insS compareV v S = S.take k ++ v :: S.drop k := fun h => by
      have := ins_here (c := compareV) (A := S.take k) (B := S.drop k) v (by
        rcases h with h | ⟨y, h, h'⟩
        · rw [h]; simp
        · cases k with
          | zero => simp
          | succ q => exact ins_stop hc hSs h h') hgt
      rwa [List.take_append_drop] at this
    by_cases hk0 : k = 0
    · have hins := fin (.inl hk0)
      have hlen : S.length + 1 = (S.take k ++ v :: S.drop k).length := by simp; omega
      simp (disch := first | omega | (simp only [ds] <;> omega) | fail) only [wk, undefM, Nat.reduceLT, Nat.reduceAdd, Nat.reduceMul, Nat.reduceSub, Nat.reduceBEq, Nat.reduceEqDiff, Int.reduceToNat, reduceIte, tsSo]
      refine WC.plan tabOk .any [(0, .sil), (1, .sil), (2, .sil), (3, .sil), (4, .sil), (6, .sil), (7, .sil), (8, .sil), (5, .one), (9, .one), (10, .one), (11, .sil)] (by simp) (by kernel_rfl) (by kernel_rfl) (by kernel_rfl) rfl ?_
      have h3 := sl3_s (tk := tw) (kk := .i64) (kk' := .i64) (n := S.length) (cs := S.map MV.str) (j := (k : Nat)) ty38 ty9 (by omega) (by omega) (by simp)
      obtain ⟨tq, he3, hap3⟩ := sl3R_t (S := S) (tk := tw) (k := k) htw (by omega)
      simp only [Int.toNat_natCast] at h3
      rw [he3] at h3
      simp (disch := first | omega | (simp only [ds] <;> omega) | fail) only [wk, undefM, Nat.reduceLT, Nat.reduceAdd, Nat.reduceMul, Nat.reduceSub, Nat.reduceBEq, Nat.reduceEqDiff, Int.reduceToNat, reduceIte, tsSo, h3]
      obtain ⟨r, Oa, t3, Ob, ha1, ha2, hgp⟩ := put_row (v := v) (ds := S.map .str) (t2 := tw) ty38 ty9 rfl O4 hap3 hk hSl (by rw [hk0]; rfl)
      have hs0 : S.length - k = S.length := by omega
      rw [hs0] at ha1
      refine VL.app tabOk ha1 rfl rfl rfl rfl ?_
      simp (disch := first | omega | (simp only [ds] <;> omega) | fail) only [wk, undefM, Nat.reduceLT, Nat.reduceAdd, Nat.reduceMul, Nat.reduceSub, Nat.reduceBEq, Nat.reduceEqDiff, Int.reduceToNat, reduceIte, tsSo]
      refine VL.app tabOk ha2 rfl rfl rfl rfl ?_
      simp (disch := first | omega | (simp only [ds] <;> omega) | fail) only [wk, undefM, Nat.reduceLT, Nat.reduceAdd, Nat.reduceMul, Nat.reduceSub, Nat.reduceBEq, Nat.reduceEqDiff, Int.reduceToNat, reduceIte, tsSo]
      refine RoundQ.next (i + 1, t3) rfl (by rw [hsn, hins, hlen]; rfl) ⟨(hg3.trans (hg4)).trans hgp, by dsimp only; omega, fun h => absurd h (by dsimp only; omega)⟩ (by dsimp only; omega)
    · obtain ⟨q, rfl⟩ : ∃ q, k = q + 1 := ⟨k - 1, by omega⟩
      have hqS : q < S.length := by omega
      have hy := List.getElem?_eq_getElem hqS
      have hy2 : (S.map MV.str)[q]? = some (.str S[q]) := by simp [hqS]
      have hyw := hSw S[q] (List.getElem_mem hqS)
      have hyd := List.drop_eq_getElem_cons hqS
      have hq1 : ((q + 1 : Nat) : Int) - 1 = q := by omega
      generalize S[q] = y at *
      simp (disch := first | omega | (simp only [ds] <;> omega) | fail) only [wk, undefM, Nat.reduceLT, Nat.reduceAdd, Nat.reduceMul, Nat.reduceSub, Nat.reduceBEq, Nat.reduceEqDiff, Int.reduceToNat, reduceIte, tsSo, hq1, hy, hy2]
      refine CallW.rt (refCompare_v y v _ (by omega) (by omega)) (by kernel_rfl) rfl rfl ?_
      rintro _ O5 ⟨rfl, hg5⟩
      by_cases hyv : compareV y v > 0
      · simp (disch := first | omega | (simp only [ds] <;> omega) | fail) only [wk, undefM, Nat.reduceLT, Nat.reduceAdd, Nat.reduceMul, Nat.reduceSub, Nat.reduceBEq, Nat.reduceEqDiff, Int.reduceToNat, reduceIte, tsSo, hq1]
        refine RoundQ.next q rfl rfl ⟨hg4.trans hg5, by omega, ?_⟩ (by omega)
        rw [hyd]; intro z hz; exact (List.mem_cons.1 hz).elim (fun e => by rw [e]; have := hc.anti y v; omega) (hgt z)
      · have hins := fin (.inr ⟨y, hy, by have := hc.anti y v; omega⟩)
        have hlen : S.length + 1 = (S.take (q + 1) ++ v :: S.drop (q + 1)).length := by simp; omega
        simp (disch := first | omega | (simp only [ds] <;> omega) | fail) only [wk, undefM, Nat.reduceLT, Nat.reduceAdd, Nat.reduceMul, Nat.reduceSub, Nat.reduceBEq, Nat.reduceEqDiff, Int.reduceToNat, reduceIte, tsSo]
        refine WC.plan tabOk .any [(0, .sil), (1, .sil), (2, .sil), (3, .sil), (4, .sil), (6, .sil), (7, .sil), (8, .sil), (5, .one), (9, .one), (10, .one), (11, .sil)] (by simp) (by kernel_rfl) (by kernel_rfl) (by kernel_rfl) rfl ?_
        have h3 := sl3_s (tk := tw) (kk := .i64) (kk' := .i64) (n := S.length) (cs := S.map MV.str) (j := (q + 1 : Nat)) ty38 ty9 (by omega) (by omega) (by simp)
        obtain ⟨tq, he3, hap3⟩ := sl3R_t (S := S) (tk := tw) (k := q + 1) htw (by omega)
        simp only [Int.toNat_natCast] at h3
        rw [he3] at h3
        simp (disch := first | omega | (simp only [ds] <;> omega) | fail) only [wk, undefM, Nat.reduceLT, Nat.reduceAdd, Nat.reduceMul, Nat.reduceSub, Nat.reduceBEq, Nat.reduceEqDiff, Int.reduceToNat, reduceIte, tsSo, h3]
        obtain ⟨r, Oa, t3, Ob, ha1, ha2, hgp⟩ := put_row (v := v) (ds := List.take (S.length - (q + 1)) (List.drop (q + 1) (List.map MV.str S))) (t2 := cutTok tw 1 (S.length == S.length)) ty38 ty9 rfl O5 hap3 hk hSl (by rw [← List.map_drop, List.take_of_length_le (by simp)])
        refine VL.app tabOk ha1 rfl rfl rfl rfl ?_
        simp (disch := first | omega | (simp only [ds] <;> omega) | fail) only [wk, undefM, Nat.reduceLT, Nat.reduceAdd, Nat.reduceMul, Nat.reduceSub, Nat.reduceBEq, Nat.reduceEqDiff, Int.reduceToNat, reduceIte, tsSo]
        refine VL.app tabOk ha2 rfl rfl rfl rfl ?_
        simp (disch := first | omega | (simp only [ds] <;> omega) | fail) only [wk, undefM, Nat.reduceLT, Nat.reduceAdd, Nat.reduceMul, Nat.reduceSub, Nat.reduceBEq, Nat.reduceEqDiff, Int.reduceToNat, reduceIte, tsSo]
        refine RoundQ.next (i + 1, t3) rfl (by rw [hsn, hins, hlen]; rfl) ⟨(hg3.trans (hg4.trans hg5)).trans hgp, by dsimp only; omega, fun h => absurd h (by dsimp only; omega)⟩ (by dsimp only; omega)
  · obtain rfl : i = W.length := by omega
    rw [List.take_length]
    have hsl : (sortV W).length = W.length := sort_len _
    simp (disch := first | omega | (simp only [ds] <;> omega) | fail) only [wk, undefM, Nat.reduceLT, Nat.reduceAdd, Nat.reduceMul, Nat.reduceSub, Nat.reduceBEq, Nat.reduceEqDiff, Int.reduceToNat, reduceIte, tsSo]
    obtain ⟨tv, Ov, hav, hgv⟩ := was_row ty38 ty9 rfl W tk O3 hle
    refine VL.app tabOk hav rfl rfl rfl rfl ?_
    simp (disch := first | omega | (simp only [ds] <;> omega) | fail) only [wk, undefM, Nat.reduceLT, Nat.reduceAdd, Nat.reduceMul, Nat.reduceSub, Nat.reduceBEq, Nat.reduceEqDiff, Int.reduceToNat, reduceIte, tsSo]
    refine CallW.rt (Sort_v W tk _ (by omega) (fun x hx => Nat.le_trans (how x hx) (by omega))) (by kernel_rfl) rfl rfl ?_
    rintro _ Og ⟨hgg, hgr⟩
    have hws : (sortV W).map MV.str = (sortV W).map MV.str := rfl
    rcases hgr with ⟨h0, _, hm⟩ | ⟨b, c, rfl, hcn, _, hrow⟩
    · rcases hm with rfl | rfl
      all_goals
        simp (disch := first | omega | (simp only [ds] <;> omega) | fail) only [wk, undefM, Nat.reduceLT, Nat.reduceAdd, Nat.reduceMul, Nat.reduceSub, Nat.reduceBEq, Nat.reduceEqDiff, Int.reduceToNat, reduceIte, tsSo, hsl]
        refine WC.loopK tabOk [83] [3, 6, 10, 11, 82] (fun x : Nat => [mi 0]) (fun x O' => O' = Og) (fun x => x) (0) rfl rfl ?_ ?_
        · rfl
        rintro s _ rfl
        simp (disch := first | omega | (simp only [ds] <;> omega) | fail) only [wk, undefM, Nat.reduceLT, Nat.reduceAdd, Nat.reduceMul, Nat.reduceSub, Nat.reduceBEq, Nat.reduceEqDiff, Int.reduceToNat, reduceIte, tsSo, hsl]
        refine WC.loopK tabOk [13, 109] [3, 107, 108] (fun x : Nat => [.str (highF (W.take x)).1, mi x]) (fun x O' => x ≤ W.length) (fun x => W.length - x) (0) rfl rfl ?_ ?_
        · exact Nat.zero_le _
        rintro x O9 hx
        skip
        obtain rfl : x = W.length := by omega
        rw [List.take_length]
        have h2 : (highF W).2 = decide (0 < W.length) := by have := highF_has W W.length (Nat.le_refl _); rwa [List.take_length] at this
        simp (disch := first | omega | (simp only [ds] <;> omega) | fail) only [wk, undefM, Nat.reduceLT, Nat.reduceAdd, Nat.reduceMul, Nat.reduceSub, Nat.reduceBEq, Nat.reduceEqDiff, Int.reduceToNat, reduceIte, tsSo]
        refine CallW.rt (Highest_v W tk _ (by simp only [maxLen]; omega) (fun v hv => Nat.le_trans (how v hv) (by omega))) (by kernel_rfl) rfl rfl ?_
        rintro _ Oh ⟨rfl, _⟩
        rw [h2]
        generalize (highF W).1 = B at *
        cases hwd : decide (0 < W.length)
        all_goals
          have hwl := hwd
          simp only [decide_eq_true_eq, decide_eq_false_iff_not] at hwl
          try (exfalso; omega)
        all_goals
          simp (disch := first | omega | (simp only [ds] <;> omega) | fail) only [wk, undefM, Nat.reduceLT, Nat.reduceAdd, Nat.reduceMul, Nat.reduceSub, Nat.reduceBEq, Nat.reduceEqDiff, Int.reduceToNat, reduceIte, tsSo, vextract_2a, vextract_2b, bne_self_eq_false, beq_self_eq_true]
          refine CallW.rt (lives_v _) (by kernel_rfl) rfl rfl ?_
          rintro _ Ol ⟨rfl, _⟩
          simp (disch := first | omega | (simp only [ds] <;> omega) | fail) only [wk, undefM, Nat.reduceLT, Nat.reduceAdd, Nat.reduceMul, Nat.reduceSub, Nat.reduceBEq, Nat.reduceEqDiff, Int.reduceToNat, reduceIte, tsSo]
    · obtain ⟨sp, hcs, _⟩ := hrow.cells
      simp (disch := first | omega | (simp only [ds] <;> omega) | fail) only [wk, undefM, Nat.reduceLT, Nat.reduceAdd, Nat.reduceMul, Nat.reduceSub, Nat.reduceBEq, Nat.reduceEqDiff, Int.reduceToNat, reduceIte, tsSo, hsl]
      refine WC.loopK tabOk [83] [3, 6, 10, 11, 82] (fun x : Nat => [mi x]) (fun x O' => O' = Og ∧ x ≤ W.length) (fun x => W.length - x) (0) rfl rfl ?_ ?_
      · exact ⟨rfl, Nat.zero_le _⟩
      rintro s _ ⟨rfl, hs⟩
      by_cases hs2 : s < W.length
      · have hat := List.getElem?_eq_getElem hs2
        have hat2 : (W.map MV.str)[s]? = some (.str W[s]) := by simp [hs2]
        have hs3 : s < (sortV W).length := by omega
        have hbt := List.getElem?_eq_getElem hs3
        have hbt2 : ((sortV W).map MV.str)[s]? = some (.str (sortV W)[s]) := by simp [hs3]
        have hbt3 := sb_at (sp := sp) hbt
        generalize W[s] = x at *
        generalize (sortV W)[s] = y at *
        simp (disch := first | omega | (simp only [ds] <;> omega) | fail) only [wk, undefM, Nat.reduceLT, Nat.reduceAdd, Nat.reduceMul, Nat.reduceSub, Nat.reduceBEq, Nat.reduceEqDiff, Int.reduceToNat, reduceIte, tsSo, hsl]
        refine WC.reads tabOk (by kernel_rfl) (by kernel_rfl) (by kernel_rfl) ?_
        simp (disch := first | omega | (simp only [ds] <;> omega) | fail) only [wk, undefM, Nat.reduceLT, Nat.reduceAdd, Nat.reduceMul, Nat.reduceSub, Nat.reduceBEq, Nat.reduceEqDiff, Int.reduceToNat, reduceIte, tsSo, hsl, hcs, hat, hat2, hbt, hbt2, hbt3, bne_self_eq_false, beq_self_eq_true, Bool.not_true, ne_eq, not_true_eq_false, decide_false]
        exact RoundQ.next (s + 1) rfl rfl ⟨rfl, hs2⟩ (by omega)
      · simp (disch := first | omega | (simp only [ds] <;> omega) | fail) only [wk, undefM, Nat.reduceLT, Nat.reduceAdd, Nat.reduceMul, Nat.reduceSub, Nat.reduceBEq, Nat.reduceEqDiff, Int.reduceToNat, reduceIte, tsSo, hsl]
        refine WC.loopK tabOk [13, 109] [3, 107, 108] (fun x : Nat => [.str (highF (W.take x)).1, mi x]) (fun x O' => x ≤ W.length) (fun x => W.length - x) (0) rfl rfl ?_ ?_
        · exact Nat.zero_le _
        rintro x O9 hx
        by_cases hx2 : x < W.length
        · have hat := List.getElem?_eq_getElem hx2
          have hat2 : (W.map MV.str)[x]? = some (.str W[x]) := by simp [hx2]
          have hsv := how W[x] (List.getElem_mem hx2)
          have hsn : highF (W.take (x + 1)) = (if !(highF (W.take x)).2 || decide (compareV W[x] (highF (W.take x)).1 > 0) then W[x] else (highF (W.take x)).1, true) := by rw [take_snoc _ _ hx2]; exact highF_snoc _ _
          have hbl : (highF (W.take x)).1.length ≤ 100 := highF_le _ fun y hy => how y (List.mem_of_mem_take hy)
          have h2 : (highF (W.take x)).2 = decide (0 < x) := highF_has _ x hx
          generalize W[x] = v at *
          generalize highF (W.take x) = B at *
          by_cases hx0 : x = 0
          · simp (disch := first | omega | (simp only [ds] <;> omega) | fail) only [wk, undefM, Nat.reduceLT, Nat.reduceAdd, Nat.reduceMul, Nat.reduceSub, Nat.reduceBEq, Nat.reduceEqDiff, Int.reduceToNat, reduceIte, tsSo, hat, hat2]
            exact RoundQ.next (x + 1) rfl (by rw [hsn, h2, hx0]; rfl) (by omega) (by omega)
          · simp (disch := first | omega | (simp only [ds] <;> omega) | fail) only [wk, undefM, Nat.reduceLT, Nat.reduceAdd, Nat.reduceMul, Nat.reduceSub, Nat.reduceBEq, Nat.reduceEqDiff, Int.reduceToNat, reduceIte, tsSo, hat, hat2]
            refine CallW.rt (refCompare_v v B.1 _ (by omega) (by omega)) (by kernel_rfl) rfl rfl ?_
            rintro _ Oa ⟨rfl, _⟩
            by_cases hv : compareV v B.1 > 0
            · simp (disch := first | omega | (simp only [ds] <;> omega) | fail) only [wk, undefM, Nat.reduceLT, Nat.reduceAdd, Nat.reduceMul, Nat.reduceSub, Nat.reduceBEq, Nat.reduceEqDiff, Int.reduceToNat, reduceIte, tsSo]
              exact RoundQ.next (x + 1) rfl (by rw [hsn, h2]; simp [hv]; rfl) (by omega) (by omega)
            · simp (disch := first | omega | (simp only [ds] <;> omega) | fail) only [wk, undefM, Nat.reduceLT, Nat.reduceAdd, Nat.reduceMul, Nat.reduceSub, Nat.reduceBEq, Nat.reduceEqDiff, Int.reduceToNat, reduceIte, tsSo]
              exact RoundQ.next (x + 1) rfl (by rw [hsn, h2]; simp [hv, Nat.pos_of_ne_zero hx0]; rfl) (by omega) (by omega)
        obtain rfl : x = W.length := by omega
        rw [List.take_length]
        have h2 : (highF W).2 = decide (0 < W.length) := by have := highF_has W W.length (Nat.le_refl _); rwa [List.take_length] at this
        simp (disch := first | omega | (simp only [ds] <;> omega) | fail) only [wk, undefM, Nat.reduceLT, Nat.reduceAdd, Nat.reduceMul, Nat.reduceSub, Nat.reduceBEq, Nat.reduceEqDiff, Int.reduceToNat, reduceIte, tsSo]
        refine CallW.rt (Highest_v W tk _ (by simp only [maxLen]; omega) (fun v hv => Nat.le_trans (how v hv) (by omega))) (by kernel_rfl) rfl rfl ?_
        rintro _ Oh ⟨rfl, _⟩
        rw [h2]
        generalize (highF W).1 = B at *
        cases hwd : decide (0 < W.length)
        all_goals
          have hwl := hwd
          simp only [decide_eq_true_eq, decide_eq_false_iff_not] at hwl
          try (exfalso; omega)
        all_goals
          simp (disch := first | omega | (simp only [ds] <;> omega) | fail) only [wk, undefM, Nat.reduceLT, Nat.reduceAdd, Nat.reduceMul, Nat.reduceSub, Nat.reduceBEq, Nat.reduceEqDiff, Int.reduceToNat, reduceIte, tsSo, vextract_2a, vextract_2b, bne_self_eq_false, beq_self_eq_true]
          refine CallW.rt (lives_v _) (by kernel_rfl) rfl rfl ?_
          rintro _ Ol ⟨rfl, _⟩
          simp (disch := first | omega | (simp only [ds] <;> omega) | fail) only [wk, undefM, Nat.reduceLT, Nat.reduceAdd, Nat.reduceMul, Nat.reduceSub, Nat.reduceBEq, Nat.reduceEqDiff, Int.reduceToNat, reduceIte, tsSo]
theorem sorts_law (z : List (List UInt8) × Tok) (O : VH) (hz : (∀ v ∈ z.1, v.length ≤ maxLen) ∧ z.1.length ≤ maxLen) : VF Tryd.prog 11 [.sl z.1.length (z.1.flatMap fun l => [.str l]) z.2] O (Ret fun m O' => m = mb true) := by
  rw [fm_strS]
  exact sorts_run z.1 z.2 O hz.1 hz.2
end Go.Proofs.YtjbpnhmjnkolbaaDoor
