/-
  The law VersionCanon: plain, and walked.
-/
import Derived.Test.YtjbpnhmjnkolbaaDoorVerR
set_option linter.unusedVariables false
set_option linter.unusedSimpArgs false
namespace Go.Proofs.YtjbpnhmjnkolbaaDoor
open Go.RowKit
set_option maxRecDepth 10000

theorem lo_lo (c : UInt8) : lo (lo c) = lo c := by
  unfold lo
  split
  · rw [if_neg]
    rw [UInt8.toNat_ofNat']; omega
  · rfl
theorem cutR_mem : ∀ (r : List UInt8) (hy : Bool) (cur : List UInt8), ∀ p ∈ cutR hy cur r, ∀ c ∈ p.1, c ∈ cur ∨ c ∈ r
  | [], hy, cur, p, hp, c, hc => by rw [cutR_nil, List.mem_singleton] at hp; subst hp; exact .inl hc
  | a :: r, hy, cur, p, hp, c, hc => by
    by_cases hm : isMk a = true
    · rw [cutR_mark hm, List.mem_cons] at hp
      rcases hp with rfl | hp
      · exact .inl hc
      · rcases cutR_mem r _ [] p hp c hc with h | h
        · cases h
        · exact .inr (List.mem_cons_of_mem _ h)
    · rw [cutR, if_neg hm] at hp
      cases hl : cur.getLast? with
      | none =>
        rw [hl] at hp
        rcases cutR_mem r _ [a] p hp c hc with h | h
        · rw [List.mem_singleton.1 h]; exact .inr (by simp)
        · exact .inr (List.mem_cons_of_mem _ h)
      | some d =>
        rw [hl] at hp
        dsimp only at hp
        split at hp
        · rcases cutR_mem r _ _ p hp c hc with h | h
          · rcases List.mem_append.1 h with h | h
            · exact .inl h
            · rw [List.mem_singleton.1 h]; exact .inr (by simp)
          · exact .inr (List.mem_cons_of_mem _ h)
        · rcases List.mem_cons.1 hp with rfl | hp
          · exact .inl hc
          · rcases cutR_mem r _ [a] p hp c hc with h | h
            · rw [List.mem_singleton.1 h]; exact .inr (by simp)
            · exact .inr (List.mem_cons_of_mem _ h)
/-- What a part's text holds. -/
def okT (p : Prt) : Prop := even p.2.2 ∧ (∀ c ∈ p.2.2, lo c = c) ∧ (if p.2.1 then p.2.2.all isD = true ∧ p.2.2.dropWhile (· == 48) = p.2.2 else p.2.2.all (fun c => !isD c) = true ∧ wordF p.2.2 false = p.2.2)
theorem dw_dw (l : List UInt8) : (l.dropWhile (· == 48)).dropWhile (· == 48) = l.dropWhile (· == 48) := by
  induction l with
  | nil => rfl
  | cons a l ih =>
    by_cases h : a = 48
    · subst h; exact ih
    · have hn : (a :: l).dropWhile (· == 48) = a :: l := by simp [List.dropWhile_cons, h]
      rw [hn, hn]
theorem mkV_ok (q : Piece) (he : even q.1) (hl : ∀ c ∈ q.1, lo c = c) : okT (mkV q) := by
  obtain ⟨w, hy, cl⟩ := q
  dsimp only at he hl
  by_cases hd : w.all isD = true
  · have hm : mkV (w, hy, cl) = (hy, true, w.dropWhile (· == 48)) := by simp [mkV, hd]
    rw [hm]
    have hsub : ∀ c ∈ w.dropWhile (· == 48), c ∈ w := fun c hc => (List.dropWhile_sublist (l := w) (· == 48)).subset hc
    refine ⟨⟨fun c hc => he.1 c (hsub c hc), fun c hc d hd => he.2 c (hsub c hc) d (hsub d hd)⟩, fun c hc => hl c (hsub c hc), ?_⟩
    rw [if_pos rfl]
    exact ⟨by rw [List.all_eq_true] at hd ⊢; exact fun c hc => hd c (hsub c hc), dw_dw w⟩
  · have hm : mkV (w, hy, cl) = (hy, false, wordF w cl) := by simp [mkV, hd]
    rw [hm]
    have hno : w.all (fun c => !isD c) = true := by
      rw [List.all_eq_true] at hd ⊢
      intro c hc
      rw [Bool.not_eq_true']
      cases hcd : isD c with
      | false => rfl
      | true => exact absurd (fun d hd => by rw [he.2 d hd c hc, hcd]) hd
    have con : ∀ t : List UInt8, ((t.all fun c => !isMk c) && (t.all fun c => t.all fun d => isD c == isD d)) = true → (t.all fun c => lo c == c) = true → t.all (fun c => !isD c) = true → wordF t false = t → okT (hy, false, t) := fun t h1 h2 h3 h4 =>
      ⟨even_dec t h1, fun c hc => by rw [List.all_eq_true] at h2; simpa using h2 c hc, by rw [if_neg (by simp)]; exact ⟨h3, h4⟩⟩
    unfold wordF
    split
    · exact con [] rfl rfl rfl (by decide)
    · rename_i h1
      split
      · exact con _ (by decide) (by decide) (by decide) (by decide)
      · rename_i h2
        split
        · exact con _ (by decide) (by decide) (by decide) (by decide)
        · split
          · exact con _ (by decide) (by decide) (by decide) (by decide)
          · split
            · exact con _ (by decide) (by decide) (by decide) (by decide)
            · refine ⟨he, hl, ?_⟩
              rw [if_neg (by simp)]
              refine ⟨hno, ?_⟩
              unfold wordF
              rw [if_neg h1, if_neg h2]
              simp
theorem partsV_ok (s : List UInt8) : ∀ p ∈ partsV s, okT p := by
  have key : ∀ p ∈ (cutF (s.map lo)).map mkV, okT p := by
    intro p hp
    obtain ⟨q, hq, rfl⟩ := List.mem_map.1 hp
    rw [cutF_cutR] at hq
    refine mkV_ok q (cutR_even _ _ _ ⟨fun _ h => (by cases h), fun _ h => (by cases h)⟩ q hq) fun c hc => ?_
    rcases cutR_mem _ _ _ q hq c hc with h | h
    · cases h
    · obtain ⟨a, _, rfl⟩ := List.mem_map.1 h
      exact lo_lo a
  unfold partsV
  cases hc : (cutF (s.map lo)).map mkV with
  | nil => intro p hp; cases hp
  | cons q r =>
    rw [hc] at key
    intro p hp
    simp only [firstF, tailT, List.mem_cons] at hp
    rcases hp with rfl | hp
    · exact key q (by simp)
    · exact key p (List.mem_cons_of_mem _ (trimT_mem r p hp))
/-- A part as its canonical text reads. -/
def nrm (p : Prt) : Prt := (p.1, p.2.1 || p.2.2 == [], p.2.2)
def txt (p : Prt) : List UInt8 := (if p.2.1 && p.2.2 == [] then [48] else []) ++ p.2.2
def sepT (p : Prt) : List UInt8 := (if p.1 then 45 else 46) :: txt p
def canL : List Prt → List UInt8
  | [] => []
  | p :: r => txt p ++ r.flatMap sepT
theorem canonN_canL (p : Prt) (r : List Prt) : ∀ k, k ≤ r.length → canonN (p :: r) (k + 1) = canL (p :: r.take k)
  | 0, _ => by simp [canonN, canL, pieceC, txt]
  | k + 1, h => by
    have hk : k < r.length := by omega
    have hg : (p :: r).getD (k + 1) nullP = r[k] := by rw [List.getD_eq_getElem?_getD, List.getElem?_cons_succ, List.getElem?_eq_getElem hk]; rfl
    rw [canonN, canonN_canL p r k (by omega), hg, List.take_add_one, List.getElem?_eq_getElem hk]
    simp only [canL, Option.toList_some, List.flatMap_append, List.flatMap_cons, List.flatMap_nil, List.append_nil, List.append_assoc]
    congr 2
    simp only [pieceC, sepT, txt, Nat.add_one_ne_zero, if_false]
    cases r[k].1 <;> rfl
theorem canonV_canL (s : List UInt8) : canonV s = canL (partsV s) := by
  unfold canonV
  cases hp : partsV s with
  | nil => rfl
  | cons p r => rw [List.length_cons, canonN_canL p r r.length (Nat.le_refl _), List.take_length]
theorem txt_even {p : Prt} (h : okT p) : even (txt p) := by
  unfold txt
  split
  · rename_i hc
    have : p.2.2 = [] := by simpa using (Bool.and_eq_true _ _ ▸ hc : p.2.1 = true ∧ (p.2.2 == []) = true).2
    rw [this]
    exact even_dec _ rfl
  · exact h.1
theorem txt_lo {p : Prt} (h : okT p) : ∀ c ∈ txt p, lo c = c := by
  intro c hc
  unfold txt at hc
  rcases List.mem_append.1 hc with h1 | h1
  · split at h1
    · rw [List.mem_singleton.1 h1]; rfl
    · cases h1
  · exact h.2.1 c h1
theorem mkV_txt {p : Prt} (h : okT p) (hy : Bool) : mkV (txt p, hy, false) = (hy, (nrm p).2) := by
  obtain ⟨ph, nb, t⟩ := p
  obtain ⟨_, _, h3⟩ := h
  dsimp only at h3
  cases nb
  · rw [if_neg (by simp)] at h3
    obtain ⟨h4, h5⟩ := h3
    cases t with
    | nil => rfl
    | cons c t =>
      have hc : isD c = false := by
        rw [List.all_cons, Bool.and_eq_true] at h4
        simpa using h4.1
      simp [mkV, txt, nrm, hc, h5]
  · rw [if_pos rfl] at h3
    obtain ⟨h4, h5⟩ := h3
    cases t with
    | nil => rfl
    | cons c t =>
      have ha : txt (ph, true, c :: t) = c :: t := rfl
      simp only [mkV, ha, h4, if_true, h5, nrm, Bool.true_or]
theorem chain : ∀ (r : List Prt) (_ : ∀ p ∈ r, okT p) (w : List UInt8) (_ : even w) (hy : Bool), cutR hy [] (w ++ r.flatMap sepT) = (w, hy, false) :: r.map fun p => (txt p, p.1, false)
  | [], _, w, hw, hy => by
    have := cutR_run w [] [] hy (by simpa using hw)
    simpa [cutR_nil] using this
  | p :: r, h, w, hw, hy => by
    have ih := chain r (fun q hq => h q (List.mem_cons_of_mem _ hq)) (txt p) (txt_even (h p (by simp))) p.1
    have h1 := cutR_run w [] ((p :: r).flatMap sepT) hy (by simpa using hw)
    rw [h1, List.nil_append, List.flatMap_cons, sepT, List.cons_append, cutR_mark (by cases p.1 <;> rfl)]
    have hb : ((if p.1 then 45 else 46 : UInt8) == 45) = p.1 := by cases p.1 <;> rfl
    rw [hb, ih, List.map_cons]
def hdH : List Prt → Bool
  | [] => true
  | q :: _ => q.1
theorem trimT_cons (p : Prt) (r : List Prt) : trimT (p :: r) = if p.2.2 == [] && hdH (trimT r) then trimT r else p :: trimT r := by
  rw [trimT]
  cases trimT r <;> rfl
theorem hdH_nrm (L : List Prt) : hdH (L.map nrm) = hdH L := by cases L <;> rfl
theorem trimT_nrm : ∀ L : List Prt, trimT (L.map nrm) = (trimT L).map nrm
  | [] => rfl
  | p :: r => by
    rw [List.map_cons, trimT_cons, trimT_cons, trimT_nrm r, hdH_nrm, show (nrm p).2.2 = p.2.2 from rfl]
    split <;> rfl
theorem trimT_trimT : ∀ L : List Prt, trimT (trimT L) = trimT L
  | [] => rfl
  | p :: r => by
    have ih := trimT_trimT r
    rw [trimT_cons]
    split
    · exact ih
    · rename_i h
      rw [trimT_cons, ih, if_neg h]
theorem partsV_canon (s : List UInt8) : partsV (canonV s) = (partsV s).map nrm := by
  have hok := partsV_ok s
  rw [canonV_canL]
  have hp : ∃ p r, partsV s = p :: r ∧ p.1 = false ∧ trimT r = r := by
    unfold partsV
    cases hc : (cutF (s.map lo)).map mkV with
    | nil => exact absurd (List.map_eq_nil_iff.1 hc) (cutF_ne _)
    | cons q r => exact ⟨_, _, rfl, rfl, trimT_trimT r⟩
  obtain ⟨p, r, hpr, hp1, htr⟩ := hp
  rw [hpr] at hok ⊢
  have hlo : (canL (p :: r)).map lo = canL (p :: r) := by
    have : ∀ c ∈ canL (p :: r), lo c = c := by
      intro c hc
      rw [canL] at hc
      rcases List.mem_append.1 hc with h | h
      · exact txt_lo (hok p (by simp)) c h
      · obtain ⟨q, hq, h⟩ := List.mem_flatMap.1 h
        rw [sepT] at h
        rcases List.mem_cons.1 h with h | h
        · subst h; cases q.1 <;> rfl
        · exact txt_lo (hok q (List.mem_cons_of_mem _ hq)) c h
    conv => rhs; rw [← List.map_id (canL (p :: r))]
    exact List.map_congr_left this
  unfold partsV
  rw [hlo, cutF_cutR, canL, chain r (fun q hq => hok q (List.mem_cons_of_mem _ hq)) (txt p) (txt_even (hok p (by simp))) false]
  have hm : (r.map fun p => (txt p, p.1, false)).map mkV = r.map nrm := by
    rw [List.map_map]
    apply List.map_congr_left
    intro q hq
    exact mkV_txt (hok q (List.mem_cons_of_mem _ hq)) q.1
  rw [List.map_cons, hm, mkV_txt (hok p (by simp)), firstF, tailT, trimT_nrm, htr, List.map_cons]
  simp [nrm, hp1]
theorem cmpV_nrm (p : Prt) : cmpV p (nrm p) = 0 := by
  obtain ⟨hy, nb, t⟩ := p
  by_cases ht : t = []
  · subst ht; cases hy <;> cases nb <;> rfl
  · have : nrm (hy, nb, t) = (hy, nb, t) := by
      have : (t == []) = false := by simpa using ht
      simp [nrm, this]
    rw [this]; exact cmp_cmpV.refl _
theorem seqC_nrm (f g : Nat → Prt) (h : ∀ i, cmpV (f i) (g i) = 0) : ∀ k i, seqC k i f g = 0
  | 0, _ => rfl
  | k + 1, i => by
    rw [seqC, lexC, if_neg (by simp [h i])]
    exact seqC_nrm f g h k (i + 1)
theorem compareV_canon (s : List UInt8) : compareV s (canonV s) = 0 := by
  rw [compareV_seq s (canonV s) (partsV s).length (Nat.le_refl _) (by rw [partsV_canon, List.length_map]; exact Nat.le_refl _)]
  apply seqC_nrm
  intro i
  rw [partsV_canon, List.getD_eq_getElem?_getD, List.getD_eq_getElem?_getD, List.getElem?_map]
  cases (partsV s)[i]? with
  | none => rfl
  | some p => exact cmpV_nrm p
theorem canonV_len (s : List UInt8) (h : s.length ≤ 64) : (canonV s).length ≤ 5000 ∧ (canonV (canonV s)).length ≤ 5000 := by
  have h1 := partsV_len s
  have h2 := partsV_text s
  have h3 : ∀ p ∈ partsV s, p.2.2.length ≤ 73 := fun p hp => by have := h2 p hp; omega
  have h4 : (partsV s).length * 75 ≤ 65 * 75 := Nat.mul_le_mul_right _ (by omega)
  constructor
  · have := canonN_len (partsV s) 73 h3 (partsV s).length
    unfold canonV; omega
  · have := canonN_len (partsV (canonV s)) 73 (fun p hp => by
      rw [partsV_canon] at hp
      obtain ⟨q, hq, rfl⟩ := List.mem_map.1 hp
      exact h3 q hq) (partsV (canonV s)).length
    rw [partsV_canon, List.length_map] at this
    have he : canonV (canonV s) = canonN ((partsV s).map nrm) (partsV s).length := by
      rw [canonV, partsV_canon, List.length_map]
    rw [he]; omega
set_option linter.defProp false in
def tsS := And.intro T9 <| And.intro T3 T4

/-- pomacelaw04.VersionCanon -/
theorem canon_law (s : List UInt8) (O : VH) (hs : s.length ≤ maxLen) : VF Tryd.prog 7 [.str s] O (Ret fun m O' => m = mb true) := by
  refine VF.ofW (n := 24) (rs := [.tmp 2]) tabOk Tryd.func7 rfl rfl rfl (Nat.le_of_ble_eq_true rfl) ?_
  simp only [argEnv, Nat.zero_add, Nat.reduceAdd]
  simp (disch := first | omega | (simp only [ds] <;> omega) | fail) only [ws, undefM, Nat.reduceLT, Nat.reduceAdd, Nat.reduceMul, Nat.reduceSub, Nat.reduceBEq, Nat.reduceEqDiff, Int.reduceToNat, reduceIte, tsS]
  refine CallW.rt (rMay_v s _ hs) (by kernel_rfl) rfl rfl ?_
  rintro _ O1 ⟨rfl, rfl⟩
  cases hmay : mayF s
  · simp (disch := first | omega | (simp only [ds] <;> omega) | fail) only [ws, undefM, Nat.reduceLT, Nat.reduceAdd, Nat.reduceMul, Nat.reduceSub, Nat.reduceBEq, Nat.reduceEqDiff, Int.reduceToNat, reduceIte, tsS]
    refine CallW.rt (lives_v _) (by kernel_rfl) rfl rfl ?_
    rintro _ O5 ⟨rfl, hg5⟩
    simp (disch := first | omega | (simp only [ds] <;> omega) | fail) only [ws, undefM, Nat.reduceLT, Nat.reduceAdd, Nat.reduceMul, Nat.reduceSub, Nat.reduceBEq, Nat.reduceEqDiff, Int.reduceToNat, reduceIte, tsS]
  · have h64 : s.length ≤ 64 := by
      unfold mayF at hmay
      simp only [Bool.and_eq_true, decide_eq_true_eq] at hmay
      exact hmay.2.2
    obtain ⟨hl1, hl2⟩ := canonV_len s h64
    have hc1 := compareV_canon s
    have hc2 : compareV (canonV (canonV s)) (canonV s) = 0 := by
      have := compareV_canon (canonV s)
      have h := compareV_cmp.anti (canonV (canonV s)) (canonV s)
      omega
    simp (disch := first | omega | (simp only [ds] <;> omega) | fail) only [ws, undefM, Nat.reduceLT, Nat.reduceAdd, Nat.reduceMul, Nat.reduceSub, Nat.reduceBEq, Nat.reduceEqDiff, Int.reduceToNat, reduceIte, tsS]
    refine CallW.rt (Canon_v s _ (by omega)) (by kernel_rfl) rfl rfl ?_
    rintro _ O2 ⟨rfl, hg2⟩
    simp (disch := first | omega | (simp only [ds] <;> omega) | fail) only [ws, undefM, Nat.reduceLT, Nat.reduceAdd, Nat.reduceMul, Nat.reduceSub, Nat.reduceBEq, Nat.reduceEqDiff, Int.reduceToNat, reduceIte, tsS]
    refine CallW.rt (Compare_v s _ _ (by omega) (by omega)) (by kernel_rfl) rfl rfl ?_
    rintro _ O3 ⟨rfl, hg3⟩
    simp (disch := first | omega | (simp only [ds] <;> omega) | fail) only [ws, undefM, Nat.reduceLT, Nat.reduceAdd, Nat.reduceMul, Nat.reduceSub, Nat.reduceBEq, Nat.reduceEqDiff, Int.reduceToNat, reduceIte, tsS, hc1]
    refine CallW.rt (Canon_v (canonV s) _ (by omega)) (by kernel_rfl) rfl rfl ?_
    rintro _ O4 ⟨rfl, hg4⟩
    simp (disch := first | omega | (simp only [ds] <;> omega) | fail) only [ws, undefM, Nat.reduceLT, Nat.reduceAdd, Nat.reduceMul, Nat.reduceSub, Nat.reduceBEq, Nat.reduceEqDiff, Int.reduceToNat, reduceIte, tsS]
    refine CallW.rt (Compare_v _ _ _ (by omega) (by omega)) (by kernel_rfl) rfl rfl ?_
    rintro _ O6 ⟨rfl, hg6⟩
    simp (disch := first | omega | (simp only [ds] <;> omega) | fail) only [ws, undefM, Nat.reduceLT, Nat.reduceAdd, Nat.reduceMul, Nat.reduceSub, Nat.reduceBEq, Nat.reduceEqDiff, Int.reduceToNat, reduceIte, tsS, hc2]
    refine CallW.rt (lives_v _) (by kernel_rfl) rfl rfl ?_
    rintro _ O5 ⟨rfl, hg5⟩
    simp (disch := first | omega | (simp only [ds] <;> omega) | fail) only [ws, undefM, Nat.reduceLT, Nat.reduceAdd, Nat.reduceMul, Nat.reduceSub, Nat.reduceBEq, Nat.reduceEqDiff, Int.reduceToNat, reduceIte, tsS]
end Go.Proofs.YtjbpnhmjnkolbaaDoor
