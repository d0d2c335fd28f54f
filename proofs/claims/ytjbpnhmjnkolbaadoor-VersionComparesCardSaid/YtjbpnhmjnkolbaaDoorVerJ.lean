/-
  version.Parts, walked.
-/
import Derived.Test.YtjbpnhmjnkolbaaDoorVerI
set_option linter.unusedVariables false
set_option linter.unusedSimpArgs false
namespace Go.Proofs.YtjbpnhmjnkolbaaDoor
open Go.RowKit
set_option maxRecDepth 10000

/-- A row that may be written, handed back: from then on nobody writes it. -/
theorem VF.frozen {P : Program} {f : FuncId} {args : List MV} {O : VH} {Φ Φ' : MV → VH → Prop} (h : VF P f args O (Ret Φ)) (hf : ∀ m O', Φ m O' → ∃ k o n c sz cs, m = .asl k o n c ∧ O'.hp k = some (.cells cs) ∧ o + sz ≤ cs.length ∧ Φ' (.sl n ((cs.drop o).take sz) (if c = n then .full else .unk)) (O'.kill k)) : VF P f args O (Ret Φ') := by
  intro G w vs hw hv
  refine (h G w vs hw hv).mono fun x w' ⟨r, O', H, h1, h2, h3, h4⟩ => ?_
  cases r with
  | panic m => exact h4.elim
  | ret m =>
    cases x with
    | panicked c => exact h3.elim
    | outgrown => exact h3.elim
    | returned v =>
      obtain ⟨k, o, n, c, sz, cs, rfl, g1, g2, g3⟩ := hf m O' h4
      obtain ⟨H', e1, e2, e3⟩ := h2.freeze g1 h3 g2
      exact ⟨.ret _, _, H', h1.trans e1, e2, e3, g3⟩
theorem Row.cells_eq {O : VH} {el : TypeId} {sz B k c : Nat} {L : List MV} (h : Row O el sz B k c L) : ∃ sp, O.hp k = some (.cells (L ++ sp)) := by obtain ⟨sp, h1, _⟩ := h.cells; exact ⟨sp, h1⟩

def mkV (p : Piece) : Prt := (p.2.1, p.1.all isD, if p.1.all isD then p.1.dropWhile (· == 48) else wordF p.1 p.2.2)
def trimT : List Prt → List Prt
  | [] => []
  | p :: r => if p.2.2 == [] && (match trimT r with | [] => true | q :: _ => q.1) then trimT r else p :: trimT r
def firstF : List Prt → List Prt
  | [] => []
  | p :: r => (false, p.2) :: r
def tailT : List Prt → List Prt
  | [] => []
  | p :: r => p :: trimT r
def partsV (s : List UInt8) : List Prt := tailT (firstF ((cutF (s.map lo)).map mkV))
theorem cutF_ne (s : List UInt8) : cutF s ≠ [] := by
  unfold cutF
  rw [cutS_succ, if_neg (by omega)]
  simp
theorem cutF_len (s : List UInt8) : (cutF s).length ≤ s.length + 1 := (cutS_b s (s.length + 1)).2
theorem cutS_text (s : List UInt8) (i : Nat) : ∀ p ∈ (cutS s i).1, p.1.length ≤ s.length := by
  induction i with
  | zero => intro p hp; cases hp
  | succ i ih =>
    intro p hp
    rw [cutS_succ] at hp
    split at hp
    · split at hp
      · rcases List.mem_append.1 hp with h | h
        · exact ih p h
        · rw [List.mem_singleton.1 h]; simp; omega
      · split at hp
        · rcases List.mem_append.1 hp with h | h
          · exact ih p h
          · rw [List.mem_singleton.1 h]; simp; omega
        · exact ih p hp
    · rcases List.mem_append.1 hp with h | h
      · exact ih p h
      · rw [List.mem_singleton.1 h]; simp; omega
theorem cutF_text (s : List UInt8) : ∀ p ∈ cutF s, p.1.length ≤ s.length := cutS_text s _
theorem pc_at : ∀ (L : List Piece) (i : Nat) (h : i < L.length), ((L.flatMap pcM).drop (i * 3)).take 3 = pcM L[i]
  | p :: L, 0, _ => by simp [pcM]
  | p :: L, i + 1, h => by
    have := pc_at L i (by simpa using h)
    rw [List.flatMap_cons, Nat.succ_mul]
    exact this

/-- The row as it stands when all behind place i is trimmed. -/
def trimS (L : List Prt) (i : Nat) : List Prt := L.take (i + 1) ++ trimT (L.drop (i + 1))
theorem trimS_at {L : List Prt} {i : Nat} (h : i < L.length) : trimS L i = L.take i ++ L[i] :: trimT (L.drop (i + 1)) := by
  rw [trimS, take_snoc _ _ h, List.append_assoc]; rfl
theorem trimS_prev {L : List Prt} {i : Nat} (h : i + 1 < L.length) : trimS L i = L.take (i + 1) ++ (if L[i + 1].2.2 == [] && (match trimT (L.drop (i + 2)) with | [] => true | q :: _ => q.1) then trimT (L.drop (i + 2)) else L[i + 1] :: trimT (L.drop (i + 2))) := by
  rw [trimS, List.drop_eq_getElem_cons h, trimT]
theorem tailT_eq (L : List Prt) : tailT L = trimS L 0 := by cases L <;> rfl
theorem trimS_last (L : List Prt) (h : L ≠ []) : trimS L (L.length - 1) = L := by
  have : 0 < L.length := List.length_pos_iff.2 h
  rw [trimS, show L.length - 1 + 1 = L.length from by omega]; simp [trimT]
theorem trimT_len (L : List Prt) : (trimT L).length ≤ L.length := by
  induction L with
  | nil => exact Nat.le_refl _
  | cons p r ih =>
    rw [trimT]
    generalize (p.2.2 == [] && _) = b
    cases b <;> simp <;> omega
theorem pr_at2 (X : List Prt) (sp : List MV) (i : Nat) (h : i < X.length) : ((X.flatMap prM ++ sp).drop (i * 3)).take 3 = prM X[i] := by
  rw [List.drop_append_of_le_length (by rw [pr_len]; omega), List.take_append_of_le_length (by rw [List.length_drop, pr_len]; omega)]
  exact pr_at X i h
theorem pr_cell (X : List Prt) (sp : List MV) (i j : Nat) (h : i < X.length) (hj : j < 3) : (X.flatMap prM ++ sp)[i * 3 + j]? = (prM X[i])[j]? := by
  have := pr_at2 X sp i h
  rw [← this, List.getElem?_take, if_pos hj, List.getElem?_drop]
/-- The parts of a row of pieces, in a row of its own: version.Parts' first loop and the rest. -/
theorem Parts_w (s : List UInt8) (O : VH) (hs : s.length ≤ 10000) : VF Tryd.prog 13 [.str s] O (Ret fun m O' => ∃ k c, m = .asl k 0 (partsV s).length c ∧ (partsV s).length ≤ c ∧ PRow O' O.next k c (partsV s) ∧ O.Ge O') := by
  have hsl : (s.map lo).length = s.length := List.length_map _
  refine VF.ofW (n := 76) (rs := [.tmp 2]) tabOk Tryd.func13 rfl rfl rfl (Nat.le_of_ble_eq_true rfl) ?_
  simp only [argEnv, Nat.zero_add, Nat.reduceAdd]
  simp (disch := first | omega | (simp only [ds] <;> omega) | fail) only [ws, undefM, Nat.reduceLT, Nat.reduceAdd, Nat.reduceMul, Nat.reduceSub, Nat.reduceBEq, Nat.reduceEqDiff, Int.reduceToNat, reduceIte, tsI]
  refine CallW.rt (Lower_v s _ (by simp only [maxLen]; omega)) (by kernel_rfl) rfl rfl ?_
  rintro _ O1 ⟨rfl, hge1⟩
  simp (disch := first | omega | (simp only [ds] <;> omega) | fail) only [ws, undefM, Nat.reduceLT, Nat.reduceAdd, Nat.reduceMul, Nat.reduceSub, Nat.reduceBEq, Nat.reduceEqDiff, Int.reduceToNat, reduceIte, tsI]
  refine CallW.rt (cut_v (s.map lo) _ (by omega)) (by kernel_rfl) rfl rfl ?_
  rintro _ O2 ⟨tk, rfl, hap⟩
  have hge := hge1.trans hap.ge
  have hcl := cutF_len (s.map lo)
  have hct := cutF_text (s.map lo)
  have hne := cutF_ne (s.map lo)
  have hpl := pc_len (cutF (s.map lo))
  unfold partsV
  generalize cutF (s.map lo) = C at *
  simp (disch := first | omega | (simp only [ds] <;> omega) | fail) only [ws, undefM, Nat.reduceLT, Nat.reduceAdd, Nat.reduceMul, Nat.reduceSub, Nat.reduceBEq, Nat.reduceEqDiff, Int.reduceToNat, reduceIte, tsI]
  refine WC.loopK tabOk [3, 14] [12, 13] (fun x : Nat × MV => [x.2, mi x.1]) (fun x O' => x.1 ≤ C.length ∧ O.Ge O' ∧ GR O' 28 3 O.next x.2 x.1 (((C.take x.1).map mkV).flatMap prM)) (fun x => C.length - x.1) ((0, .sl 0 [] .nil)) rfl rfl ?_ ?_
  · exact ⟨Nat.zero_le _, hge, .inl ⟨rfl, rfl, .inl rfl⟩⟩
  rintro ⟨j, m⟩ O3 ⟨hj, hge3, hgr⟩
  dsimp only at hj hge3 hgr
  by_cases h2 : j < C.length
  · have hpt := pc_at C j h2
    have hpx := hct C[j] (List.getElem_mem h2)
    have hmx : mkV C[j] = (C[j].2.1, C[j].1.all isD, if C[j].1.all isD then C[j].1.dropWhile (· == 48) else wordF C[j].1 C[j].2.2) := rfl
    rcases hpc : C[j] with ⟨tx, hy, cl⟩
    rw [hpc] at hpt hpx hmx
    simp only [pcM, mb_def] at hpt
    dsimp only at hpx hmx
    simp (disch := first | omega | (simp only [ds] <;> omega) | fail) only [ws, undefM, Nat.reduceLT, Nat.reduceAdd, Nat.reduceMul, Nat.reduceSub, Nat.reduceBEq, Nat.reduceEqDiff, Int.reduceToNat, reduceIte, tsI, hpt]
    refine CallW.rt (isNumber_v tx _ (by simp only [maxLen]; omega)) (by kernel_rfl) rfl rfl ?_
    rintro _ O4 ⟨rfl, hg4⟩
    have h6 := hg4.hp O3.next (by simp only [ds]; omega)
    have h7 := hg4.hp (O3.next + 1) (by simp only [ds]; omega)
    simp (disch := first | omega | (simp only [ds] <;> omega) | fail) only [ws, undefM, Nat.reduceLT, Nat.reduceAdd, Nat.reduceMul, Nat.reduceSub, Nat.reduceBEq, Nat.reduceEqDiff, Int.reduceToNat, reduceIte] at h6 h7
    have hu4 : Upd O3 none O4 := Upd.ofGe ((((((VH.Ge.refl O3).push _).set (Nat.le_refl _) _).push _).set (Nat.le_succ _) _).trans hg4)
    have hn4 : O3.next + 2 ≤ O4.next := by have := hg4.next; simp only [ds] at this; omega
    clear hg4
    have fin : ∀ O5 : VH, Upd O3 none O5 → ∀ O6 m6, GR O6 28 3 O.next m6 (j + 1) (((C.take j).map mkV).flatMap prM ++ prM (mkV C[j])) → Upd O5 (gid m) O6 → (gid m = none → O5.Ge O6) → (j + 1 ≤ C.length ∧ O.Ge O6 ∧ GR O6 28 3 O.next m6 (j + 1) (((C.take (j + 1)).map mkV).flatMap prM)) := fun O5 hu5 O6 m6 hg6 hu6 hge6 => by
      refine ⟨by omega, ?_, ?_⟩
      · have h53 : O.Ge O5 := hu5.geN hge3
        rcases hgr with ⟨_, _, rfl | rfl⟩ | ⟨k, c, rfl, _, _, hr⟩
        · exact h53.trans (hge6 rfl)
        · exact h53.trans (hge6 rfl)
        · exact hu6.ge h53 hr.lo
      · rw [take_snoc _ _ h2, List.map_append, List.flatMap_append]
        simpa using hg6
    rw [hpc] at fin
    cases hd : tx.all isD
    · rw [hmx, hd] at fin
      simp only [Bool.false_eq_true, if_false] at fin
      simp (disch := first | omega | (simp only [ds] <;> omega) | fail) only [ws, undefM, Nat.reduceLT, Nat.reduceAdd, Nat.reduceMul, Nat.reduceSub, Nat.reduceBEq, Nat.reduceEqDiff, Int.reduceToNat, reduceIte, tsI, h6, h7]
      refine CallW.rt (word_v tx cl _) (by kernel_rfl) rfl rfl ?_
      rintro _ O5 ⟨rfl, rfl⟩
      simp (disch := first | omega | (simp only [ds] <;> omega) | fail) only [ws, undefM, Nat.reduceLT, Nat.reduceAdd, Nat.reduceMul, Nat.reduceSub, Nat.reduceBEq, Nat.reduceEqDiff, Int.reduceToNat, reduceIte, tsI, h6, h7]
      have hu5 := hu4.new (Upd.set (q := O3.next + 1) (x := .cells [.v (.bool hy), .v (.bool false), .str (wordF tx cl)])) (Nat.le_succ _)
      have hB5 : O.next ≤ O5.next := Nat.le_trans hge3.next (by omega)
      refine VL.grow tabOk (.inl rfl) (te := ⟨_, 3, 24, _⟩) (dx := .slice 28) (q := .sl 1 (prM (hy, false, wordF tx cl)) .full) (j := 1) (ds := prM (hy, false, wordF tx cl)) (hgr.keepN hu5) rfl rfl (by rw [ty23]; rfl) ty28 (by rw [ty23]; rfl) trivial (by dsimp only; omega) (by simp only [maxLen]; omega) hB5 rfl rfl rfl rfl ?_
      intro m6 O6 hg6 hu6 hge6 hnew
      simp (disch := first | omega | (simp only [ds] <;> omega) | fail) only [ws, undefM, Nat.reduceLT, Nat.reduceAdd, Nat.reduceMul, Nat.reduceSub, Nat.reduceBEq, Nat.reduceEqDiff, Int.reduceToNat, reduceIte, tsI]
      refine RoundQ.next (j + 1, m6) rfl rfl (fin _ hu5 _ _ hg6 hu6 hge6) (by dsimp only; omega)
    · rw [hmx, hd] at fin
      simp only [if_true] at fin
      simp (disch := first | omega | (simp only [ds] <;> omega) | fail) only [ws, undefM, Nat.reduceLT, Nat.reduceAdd, Nat.reduceMul, Nat.reduceSub, Nat.reduceBEq, Nat.reduceEqDiff, Int.reduceToNat, reduceIte, tsI, h6, h7]
      refine CallW.rt (TrimLeft0_v tx _) (by kernel_rfl) rfl rfl ?_
      rintro _ O5 ⟨rfl, rfl⟩
      simp (disch := first | omega | (simp only [ds] <;> omega) | fail) only [ws, undefM, Nat.reduceLT, Nat.reduceAdd, Nat.reduceMul, Nat.reduceSub, Nat.reduceBEq, Nat.reduceEqDiff, Int.reduceToNat, reduceIte, tsI, h6, h7]
      have hu5 := (hu4.new (Upd.set (q := O3.next + 1) (x := .cells [.v (.bool hy), .v (.bool true), .str []])) (Nat.le_succ _)).new (Upd.set (q := O3.next + 1) (x := .cells [.v (.bool hy), .v (.bool true), .str (tx.dropWhile (· == 48))])) (Nat.le_succ _)
      have hB5 : O.next ≤ O5.next := Nat.le_trans hge3.next (by omega)
      refine VL.grow tabOk (.inl rfl) (te := ⟨_, 3, 24, _⟩) (dx := .slice 28) (q := .sl 1 (prM (hy, true, tx.dropWhile (· == 48))) .full) (j := 1) (ds := prM (hy, true, tx.dropWhile (· == 48))) (hgr.keepN hu5) rfl rfl (by rw [ty23]; rfl) ty28 (by rw [ty23]; rfl) trivial (by dsimp only; omega) (by simp only [maxLen]; omega) hB5 rfl rfl rfl rfl ?_
      intro m6 O6 hg6 hu6 hge6 hnew
      simp (disch := first | omega | (simp only [ds] <;> omega) | fail) only [ws, undefM, Nat.reduceLT, Nat.reduceAdd, Nat.reduceMul, Nat.reduceSub, Nat.reduceBEq, Nat.reduceEqDiff, Int.reduceToNat, reduceIte, tsI]
      refine RoundQ.next (j + 1, m6) rfl rfl (fin _ hu5 _ _ hg6 hu6 hge6) (by dsimp only; omega)
  · have hjl : j = C.length := by omega
    subst hjl
    rcases hgr with ⟨e1, _⟩ | ⟨k, c, rfl, hnc, hLl, hrow⟩
    · exact absurd (List.eq_nil_of_length_eq_zero e1) hne
    obtain ⟨p, C', rfl⟩ : ∃ p C', C = p :: C' := by cases C with
      | nil => exact absurd rfl hne
      | cons p C' => exact ⟨p, C', rfl⟩
    rw [List.take_length] at hrow hLl
    obtain ⟨sp, h1, h2⟩ := hrow.cells
    have hrow2 : Row (O3.set k (.cells (((false, (mkV p).2) :: C'.map mkV).flatMap prM ++ sp))) 28 3 O.next k c (((false, (mkV p).2) :: C'.map mkV).flatMap prM) := hrow.turn (by rw [← h2, List.length_append, List.length_append, pr_len, pr_len]; simp)
    simp only [List.map_cons, List.flatMap_cons, prM, mb_def, List.cons_append, List.nil_append] at h1 hrow2
    have hC' : C'.length ≤ 10001 := by rw [List.length_cons] at hcl; omega
    simp (disch := first | omega | (simp only [ds] <;> omega) | fail) only [ws, undefM, Nat.reduceLT, Nat.reduceAdd, Nat.reduceMul, Nat.reduceSub, Nat.reduceBEq, Nat.reduceEqDiff, Int.reduceToNat, reduceIte, tsI, h1, List.length_cons]
    generalize hO : O3.set k _ = O4
    have hO' : O4 = O3.set k (.cells (.v (.bool false) :: .v (.bool (mkV p).2.1) :: .str (mkV p).2.2 :: ((C'.map mkV).flatMap prM ++ sp))) := by rw [← hO]
    rw [← hO'] at hrow2
    have hge4 : O.Ge O4 := by rw [hO']; exact hge3.set hrow.lo _
    have hfl : firstF (mkV p :: C'.map mkV) = (false, (mkV p).2) :: C'.map mkV := rfl
    simp only [hfl, tailT_eq]
    have hrow4 : PRow O4 O.next k c (((false, (mkV p).2) :: C'.map mkV)) := hrow2
    have hLlen : ((false, (mkV p).2) :: C'.map mkV).length = C'.length + 1 := by simp
    generalize (false, (mkV p).2) :: C'.map mkV = L at hrow4 hLlen
    have hlast : trimS L C'.length = L := by have := trimS_last L (by intro e; rw [e] at hLlen; simp at hLlen); rwa [hLlen] at this
    refine WC.loopK tabOk [3, 8] [] (fun i : Nat => [.asl k 0 (trimS L i).length c, mi i]) (fun i O' => i < L.length ∧ O.Ge O' ∧ PRow O' O.next k c (trimS L i) ∧ (trimS L i).length ≤ c) (fun i => i) C'.length (by rw [hlast, hLlen]; rfl) rfl ?_ ?_
    · exact ⟨by omega, hge4, by rw [hlast]; exact hrow4, by rw [hlast, hLlen]; simpa using hnc⟩
    clear hge4 hrow4 hrow2 hO hO' hrow h1 h2
    rintro i O5 ⟨hi, hge5, hr5, hc5⟩
    rcases Nat.eq_zero_or_pos i with rfl | hi0
    · simp (disch := first | omega | (simp only [ds] <;> omega) | fail) only [ws, undefM, Nat.reduceLT, Nat.reduceAdd, Nat.reduceMul, Nat.reduceSub, Nat.reduceBEq, Nat.reduceEqDiff, Int.reduceToNat, reduceIte, tsI]
      exact ⟨k, c, rfl, hc5, hr5, hge5⟩
    · obtain ⟨i, rfl⟩ : ∃ i', i = i' + 1 := ⟨i - 1, by omega⟩
      have hat := trimS_at hi
      have hprev := trimS_prev hi
      have hlt : (L.take (i + 1)).length = i + 1 := by rw [List.length_take]; omega
      obtain ⟨sp, g1, g2⟩ := hr5.cells
      generalize hX : trimS L (i + 1) = X at *
      generalize hT : trimT (L.drop (i + 1 + 1)) = T at *
      have hXl : X.length = i + 1 + 1 + T.length := by rw [hat, List.length_append, hlt, List.length_cons]; omega
      have hTl : T.length ≤ 10001 := by rw [← hT]; have := trimT_len (L.drop (i + 1 + 1)); rw [List.length_drop] at this; omega
      have hiX : i + 1 < X.length := by omega
      have hXi : X[i + 1] = L[i + 1] := by
        simp only [hat]
        rw [List.getElem_append_right (by omega)]; simp [hlt]
      have hdel : X.take (i + 1) ++ X.drop (i + 1 + 1) = L.take (i + 1) ++ T := by
        rw [hat, List.take_append_of_le_length (by omega), List.take_of_length_le (by omega), List.drop_append, hlt, List.drop_of_length_le (l := L.take (i + 1)) (by omega)]
        simp
      have hl := pr_at2 X sp (i + 1) hiX
      have hxl : (X.flatMap prM ++ sp).length = X.length * 3 + sp.length := by rw [List.length_append, pr_len]
      rw [hXi] at hl
      generalize hp : L[i + 1] = p at *
      simp (disch := first | omega | (simp only [ds] <;> omega) | fail) only [ws, undefM, Nat.reduceLT, Nat.reduceAdd, Nat.reduceMul, Nat.reduceSub, Nat.reduceBEq, Nat.reduceEqDiff, Int.reduceToNat, reduceIte, tsI, g1, hl]
      refine CallW.rt (isNull_v p _) (by kernel_rfl) rfl rfl ?_
      rintro _ O6 ⟨rfl, hg6⟩
      have h6 := (hg6.hp k hr5.hi).trans g1
      cases hnull : p.2.2 == []
      · rw [hnull] at hprev
        have hsame : trimS L i = X := by rw [hprev, hat]; simp
        simp (disch := first | omega | (simp only [ds] <;> omega) | fail) only [ws, undefM, Nat.reduceLT, Nat.reduceAdd, Nat.reduceMul, Nat.reduceSub, Nat.reduceBEq, Nat.reduceEqDiff, Int.reduceToNat, reduceIte, tsI]
        refine RoundQ.next i rfl (by rw [hsame]; rfl) ⟨by omega, hge5.trans hg6, by rw [hsame]; exact hr5.keepN (Upd.ofGe hg6), by rw [hsame]; exact hc5⟩ (by omega)
      · rw [hnull] at hprev
        cases T with
        | nil =>
          simp only [List.length_nil, Nat.add_zero] at hXl
          have hd : trimS L i = L.take (i + 1) ++ [] := by rw [hprev]; simp
          have hlen1 : X.length - 1 = (trimS L i).length := by rw [hd, List.append_nil, hlt, hXl]; omega
          rw [← hd] at hdel
          simp (disch := first | omega | (simp only [ds] <;> omega) | fail) only [ws, undefM, Nat.reduceLT, Nat.reduceAdd, Nat.reduceMul, Nat.reduceSub, Nat.reduceBEq, Nat.reduceEqDiff, Int.reduceToNat, reduceIte, tsI, h6]
          refine CallW.rt (Delete_v (i + 1) (hr5.keepN (Upd.ofGe hg6)) hiX hc5 (by omega)) (by kernel_rfl) rfl rfl ?_
          rintro _ O7 ⟨rfl, hr7, hu7⟩
          simp (disch := first | omega | (simp only [ds] <;> omega) | fail) only [ws, undefM, Nat.reduceLT, Nat.reduceAdd, Nat.reduceMul, Nat.reduceSub, Nat.reduceBEq, Nat.reduceEqDiff, Int.reduceToNat, reduceIte, tsI]
          refine RoundQ.next i rfl (by simp only [looks_cons, looks_nil, look_cons, Nat.reduceBEq, cond_true, cond_false, Option.bind_some, Option.map_some]; rw [hlen1]) ⟨by omega, Upd.ge (hge5.trans hg6) hu7 hr5.lo, by rw [hdel] at hr7; exact hr7, by omega⟩ (by omega)
        | cons q T' =>
          simp only [List.length_cons] at hXl hTl
          have hXq : (X.flatMap prM ++ sp)[(i + 1 + 1) * 3]? = some (mb q.1) := by
            have := pr_cell X sp (i + 1 + 1) 0 (by omega) (by omega)
            rw [Nat.add_zero] at this
            rw [this]
            have : X[i + 1 + 1]'(by omega) = q := by
              simp only [hat]
              rw [List.getElem_append_right (by omega)]; simp [hlt]
            rw [this]; rfl
          cases hq : q.1
          · have hsame : trimS L i = X := by rw [hprev, hat]; simp [hq]
            have hg := hXq
            rw [hq] at hg
            simp (disch := first | omega | (simp only [ds] <;> omega) | fail) only [ws, undefM, Nat.reduceLT, Nat.reduceAdd, Nat.reduceMul, Nat.reduceSub, Nat.reduceBEq, Nat.reduceEqDiff, Int.reduceToNat, reduceIte, tsI, h6, hg]
            refine RoundQ.next i rfl (by rw [hsame]; rfl) ⟨by omega, hge5.trans hg6, by rw [hsame]; exact hr5.keepN (Upd.ofGe hg6), by rw [hsame]; exact hc5⟩ (by omega)
          · have hd : trimS L i = L.take (i + 1) ++ q :: T' := by rw [hprev]; simp [hq]
            have hlen1 : X.length - 1 = (trimS L i).length := by rw [hd, List.length_append, hlt, hXl, List.length_cons]; omega
            rw [← hd] at hdel
            rw [hq] at hXq
            simp (disch := first | omega | (simp only [ds] <;> omega) | fail) only [ws, undefM, Nat.reduceLT, Nat.reduceAdd, Nat.reduceMul, Nat.reduceSub, Nat.reduceBEq, Nat.reduceEqDiff, Int.reduceToNat, reduceIte, tsI, h6, hXq]
            refine CallW.rt (Delete_v (i + 1) (hr5.keepN (Upd.ofGe hg6)) hiX hc5 (by omega)) (by kernel_rfl) rfl rfl ?_
            rintro _ O7 ⟨rfl, hr7, hu7⟩
            simp (disch := first | omega | (simp only [ds] <;> omega) | fail) only [ws, undefM, Nat.reduceLT, Nat.reduceAdd, Nat.reduceMul, Nat.reduceSub, Nat.reduceBEq, Nat.reduceEqDiff, Int.reduceToNat, reduceIte, tsI]
            refine RoundQ.next i rfl (by simp only [looks_cons, looks_nil, look_cons, Nat.reduceBEq, cond_true, cond_false, Option.bind_some, Option.map_some]; rw [hlen1]) ⟨by omega, Upd.ge (hge5.trans hg6) hu7 hr5.lo, by rw [hdel] at hr7; exact hr7, by omega⟩ (by omega)
end Go.Proofs.YtjbpnhmjnkolbaaDoor
