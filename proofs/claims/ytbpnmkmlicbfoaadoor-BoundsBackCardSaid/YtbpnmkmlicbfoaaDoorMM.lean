/-
  Texts BndK BndL BndM, one behind the other.
-/
import Derived.Test.YtbpnmkmlicbfoaaDoorML
/-
  The package bounds: Parse, walked.
-/
set_option linter.unusedVariables false
set_option linter.unusedSimpArgs false
namespace Go.Proofs.YtbpnmkmlicbfoaaDoor
open Go.RowKit
set_option maxRecDepth 10000
/-- What stands behind an interval. -/
def tailF : Nat → List UInt8 → Option (List Iv)
  | 0, _ => none
  | k + 1, t => if t == [] then some [] else if headB t == 44 then (ivF ((t.drop 1).dropWhile isB)).bind fun p => (tailF k (p.2.dropWhile isB)).map (p.1 :: ·) else none
/-- The intervals from here on; at the first one, behind one. -/
def restF (first : Bool) (k : Nat) (s : List UInt8) : Option (List Iv) := if first then (ivF s).bind fun p => (tailF k (p.2.dropWhile isB)).map (p.1 :: ·) else tailF k s
def partsF (s : List UInt8) : Option (List Iv) := restF true (s.length + 1) s
def parseT (t : List UInt8) : Option Rg :=
  if headB t == 91 || headB t == 40 then (partsF t).bind fun L => if mayR (true, [], L) then some (true, [], L) else none
  else if mayR (false, t, []) then some (false, t, []) else none
def parseR (s : List UInt8) : Option Rg := parseT (trimB s)
def parseD (s : List UInt8) : Rg × Int := (parseR s).elim ((false, [], []), 21) (·, 0)
theorem ivF_len {s : List UInt8} {p : Iv × List UInt8} (h : ivF s = some p) : p.2.length < s.length ∧ p.1.1.2.1.length ≤ s.length ∧ p.1.2.2.1.length ≤ s.length := by
  have hne : s ≠ [] := fun e => by rw [e] at h; simp [ivF, headB] at h
  have hpos : 0 < s.length := List.length_pos_iff.2 hne
  have h1 := wordB_len (s.drop 1)
  have h2 := wordB_len ((wordB (s.drop 1)).2.drop 1)
  simp only [List.length_drop] at h1 h2
  have he : ∀ v c, (endF v c).2.1.length ≤ v.length := fun v c => by unfold endF; split <;> simp
  unfold ivF at h
  split at h
  · split at h
    · injection h with h; subst h
      simp only [List.length_drop]; omega
    · split at h
      · split at h
        · injection h with h; subst h
          simp only [List.length_drop]
          have h3 := he (wordB (s.drop 1)).1 (headB s == 91)
          have h4 := he (wordB ((wordB (s.drop 1)).2.drop 1)).1 (headB (wordB ((wordB (s.drop 1)).2.drop 1)).2 == 93)
          omega
        · cases h
      · cases h
  · cases h
def bndC : List MV := [.v (.bool false), .str [], .sl 0 [] .nil]
theorem stE {O : VH} {k b : Nat} {u : TypeDesc} {z : List MV} : stT O k 0 (.agg []) (some ⟨u, 0, b, z⟩) (some (.cells [])) = some (O.set k (.cells [])) := rfl
/-- bounds.Parse's last word, where nothing panics. -/
theorem catchN {O : VH} {a b : Nat} {K : VH → Prop} (h : K O) : VDef Tryd.prog 24 [.ptr a 0, .ptr b 0] none O K := by
  refine VDef.rec tabOk Tryd.func24 rfl rfl (Nat.le_of_ble_eq_true rfl) (Nat.lt_of_lt_of_eq (by decide : 5 < 12) rfl) ?_
  show WC _ _ ⟨12, 0⟩ _ _ _ _ _
  simp only [argEnv, Nat.zero_add, Nat.reduceAdd]
  simp (disch := first | omega | (simp only [ds] <;> omega) | fail) only [wk, undefM, Nat.reduceLT, Nat.reduceAdd, Nat.reduceMul, Nat.reduceSub, Nat.reduceBEq, Nat.reduceEqDiff, Int.reduceToNat, reduceIte, tsD, recM, wi]
  refine VL.pure (by simp) (fun _ => .inl rfl) rfl rfl (PureOp.ifNil (bb := true) Tryd.underlying20 rfl (.inl ⟨rfl, rfl⟩)) ?_
  refine WL.sound tabOk ?_
  simp (disch := first | omega | (simp only [ds] <;> omega) | fail) only [wk, undefM, Nat.reduceLT, Nat.reduceAdd, Nat.reduceMul, Nat.reduceSub, Nat.reduceBEq, Nat.reduceEqDiff, Int.reduceToNat, reduceIte, tsD, wi]
  exact h
/-- The same, at a fault. -/
theorem catchF {O : VH} {a b : Nat} {K : VH → Prop} {x1 x2 x3 y : MV} (ha : O.hp a = some (.cells [x1, x2, x3])) (hb : O.hp b = some (.cells [y])) (hab : a ≠ b) (hbn : b < O.next) (han : a < O.next) (h : ∀ O', (∀ B : VH, B.Ge O → B.next ≤ a → B.next ≤ b → B.Ge O') → O'.hp a = some (.cells bndC) → O'.hp b = some (.cells [mi 21]) → K O') : VDef Tryd.prog 24 [.ptr a 0, .ptr b 0] (some faultM) O K := by
  refine VDef.rec tabOk Tryd.func24 rfl rfl (Nat.le_of_ble_eq_true rfl) (Nat.lt_of_lt_of_eq (by decide : 5 < 12) rfl) ?_
  show WC _ _ ⟨12, 0⟩ _ _ _ _ _
  simp only [argEnv, Nat.zero_add, Nat.reduceAdd]
  simp (disch := first | omega | (simp only [ds] <;> omega) | fail) only [wk, undefM, Nat.reduceLT, Nat.reduceAdd, Nat.reduceMul, Nat.reduceSub, Nat.reduceBEq, Nat.reduceEqDiff, Int.reduceToNat, reduceIte, tsD, recM, wi, faultM]
  refine VL.pure (by simp) (fun _ => .inl rfl) rfl rfl (PureOp.ifHeld (bb := false) Tryd.underlying20 rfl (.inl ⟨rfl, rfl⟩)) ?_
  refine WL.sound tabOk ?_
  simp (disch := first | omega | (simp only [ds] <;> omega) | fail) only [wk, undefM, Nat.reduceLT, Nat.reduceAdd, Nat.reduceMul, Nat.reduceSub, Nat.reduceBEq, Nat.reduceEqDiff, Int.reduceToNat, reduceIte, tsD, wi]
  refine VL.pure (by simp) (fun _ => .inl rfl) rfl rfl (PureOp.asT Tryd.underlying48 (fun _ h => by cases h) rfl) ?_
  refine WL.sound tabOk ?_
  have h1 := (VH.push_ne O (.cells []) (Nat.ne_of_lt han)).trans ha
  simp (disch := first | omega | (simp only [ds] <;> omega) | fail) only [wk, undefM, Nat.reduceLT, Nat.reduceAdd, Nat.reduceMul, Nat.reduceSub, Nat.reduceBEq, Nat.reduceEqDiff, Int.reduceToNat, reduceIte, tsD, T25, T26, T48, wi, stE, ha, hb]
  exact h _ (fun B hB h1 h2 => ((((hB.push _).set hB.next _).set h1 _).set h2 _)) ((VH.set_ne _ _ hab).trans (VH.set_get _ _ _)) (VH.set_get _ _ _)
theorem App.keep {O O' : VH} {B sz : Nat} {tk : Tok} (h : App O B sz tk) (hn : O.next ≤ O'.next) (hh : ∀ i, B ≤ i → i < O.next → O'.hp i = O.hp i) : App O' B sz tk := by
  cases tk with
  | own t k => exact ⟨h.1, (hh t h.2.2.1 h.2.2.2).trans h.2.1, h.2.2.1, Nat.lt_of_lt_of_le h.2.2.2 hn⟩
  | nil => trivial
  | full => trivial
  | unk => exact h.elim
theorem rg_grow {L : List Iv} {x : Iv} : (L ++ [x]).flatMap ivM = L.flatMap ivM ++ ivM x := by simp
/-- bounds.Parse -/
theorem Parse_v (s : List UInt8) (O : VH) (hs : s.length ≤ 10000) : VF Tryd.prog 10 [.str s] O (Ret fun m O' => ∃ tk, m = .tuple [.agg (rgM (parseD s).1 tk), mi (parseD s).2] ∧ O.Ge O') := by
  refine VF.deferred (lo := 4) (k := 54) (rs := [.cell 2 25, .cell 3 26]) tabOk Tryd.func10 rfl rfl rfl (Nat.le_of_ble_eq_true rfl) (by decide) (Enters.ofB (by kernel_rfl)) ?_
  simp only [argEnv, Nat.zero_add, Nat.reduceAdd]
  have hge : O.Ge ((O.push (.cells bndC)).push (.cells [mi 0])) := ((VH.Ge.refl O).push _).push _
  have ha : ((O.push (.cells bndC)).push (.cells [mi 0])).hp O.next = some (.cells bndC) := (VH.push_ne _ _ (by show O.next ≠ O.next + 1; omega)).trans (VH.push_new O _)
  have hb : ((O.push (.cells bndC)).push (.cells [mi 0])).hp (O.next + 1) = some (.cells [mi 0]) := VH.push_new _ _
  have hn : ((O.push (.cells bndC)).push (.cells [mi 0])).next = O.next + 2 := rfl
  simp (disch := first | omega | (simp only [ds] <;> omega) | fail) only [wk, undefM, Nat.reduceLT, Nat.reduceAdd, Nat.reduceMul, Nat.reduceSub, Nat.reduceBEq, Nat.reduceEqDiff, Int.reduceToNat, reduceIte, tsD, T25, T26]
  refine ⟨_, rfl, fun D => ?_⟩
  simp only [bndC, mi_def] at hge ha hb hn
  generalize ((O.push (.cells [.v (.bool false), .str [], .sl 0 [] .nil])).push (.cells [.v (.int .i64 0)])) = OX at *
  have hml : s.length ≤ maxLen := Nat.le_trans hs (by decide)
  refine VC.seqV tabOk ?_
  simp (disch := first | omega | (simp only [ds] <;> omega) | fail) only [wk, undefM, Nat.reduceLT, Nat.reduceAdd, Nat.reduceMul, Nat.reduceSub, Nat.reduceBEq, Nat.reduceEqDiff, Int.reduceToNat, reduceIte, tsD]
  refine CallW.rt (Trim_v s _ hml) (by kernel_rfl) rfl rfl ?_
  rintro _ O2 ⟨rfl, rfl⟩
  have htl : (trimB s).length ≤ s.length := trimB_len s
  have hpr : parseR s = parseT (trimB s) := rfl
  unfold parseD
  rw [hpr]; clear hpr
  generalize trimB s = t at *
  have htm : t.length ≤ maxLen := Nat.le_trans htl hml
  simp (disch := first | omega | (simp only [ds] <;> omega) | fail) only [wk, undefM, Nat.reduceLT, Nat.reduceAdd, Nat.reduceMul, Nat.reduceSub, Nat.reduceBEq, Nat.reduceEqDiff, Int.reduceToNat, reduceIte, tsD, wd]
  have hge3 := hge.push (.cells [.str t])
  have ha3 := (VH.push_ne O2 (.cells [.str t]) (show O.next ≠ O2.next by omega)).trans ha
  have hb3 := (VH.push_ne O2 (.cells [.str t]) (show O.next + 1 ≠ O2.next by omega)).trans hb
  have hr3 : RdAt (O2.push (.cells [.str t])) O2.next t := ⟨Nat.lt_succ_self _, VH.push_new _ _⟩
  have hn3 : (O2.push (.cells [.str t])).next = O.next + 3 := by rw [← show O2.next + 1 = O.next + 3 by omega]; rfl
  rw [hn] at hr3 ⊢
  generalize O2.push (.cells [.str t]) = O3 at *
  clear ha hb hge
  refine VC.join tabOk [2, 3] (fun x : Rg × Tok => [.ptr O.next 0, .ptr (O.next + 1) 0]) (fun x O' => O.Ge O' ∧ O'.hp O.next = some (.cells (rgM x.1 x.2)) ∧ O'.hp (O.next + 1) = some (.cells [mi 0]) ∧ O.next + 2 < O'.next ∧ RgOk x.1 ∧ parseT t = if mayR x.1 then some x.1 else none) ?_ ?_
  rotate_left
  · rintro ⟨⟨hd, ver, L⟩, tk⟩ O4 ⟨hge4, ha4, hb4, hn4, hrk, hpt⟩
    dsimp only at ha4 hrk hpt
    rw [hpt]
    have hge4' := hge4
    simp only [rgM] at ha4
    simp (disch := first | omega | (simp only [ds] <;> omega) | fail) only [wk, undefM, Nat.reduceLT, Nat.reduceAdd, Nat.reduceMul, Nat.reduceSub, Nat.reduceBEq, Nat.reduceEqDiff, Int.reduceToNat, reduceIte, tsI2, wd, ha4]
    refine CallW.rt (rgMay_v (hd, ver, L) tk _ hrk) (by kernel_rfl) rfl rfl ?_
    rintro _ O5 ⟨rfl, hg5⟩
    have hge5 := hge4.trans hg5
    have ha5 := (hg5.hp _ (by omega)).trans ha4
    have hb5 := (hg5.hp _ (by omega)).trans hb4
    have hn5 := hg5.next
    simp only [mi_def] at hb5
    cases hm : mayR (hd, ver, L)
    · simp (disch := first | omega | (simp only [ds] <;> omega) | fail) only [wk, undefM, Nat.reduceLT, Nat.reduceAdd, Nat.reduceMul, Nat.reduceSub, Nat.reduceBEq, Nat.reduceEqDiff, Int.reduceToNat, reduceIte, tsI2, wd, ha5, hb5]
      refine catchN ?_
      simp (disch := first | omega | (simp only [ds] <;> omega) | fail) only [wk, undefM, Nat.reduceLT, Nat.reduceAdd, Nat.reduceMul, Nat.reduceSub, Nat.reduceBEq, Nat.reduceEqDiff, Int.reduceToNat, reduceIte, tsI2, T26]
      exact ⟨.nil, rfl, (hge5.set (Nat.le_refl _) _).set (Nat.le_succ _) _⟩
    · simp (disch := first | omega | (simp only [ds] <;> omega) | fail) only [wk, undefM, Nat.reduceLT, Nat.reduceAdd, Nat.reduceMul, Nat.reduceSub, Nat.reduceBEq, Nat.reduceEqDiff, Int.reduceToNat, reduceIte, tsI2, wd, ha5, hb5]
      refine catchN ?_
      simp (disch := first | omega | (simp only [ds] <;> omega) | fail) only [wk, undefM, Nat.reduceLT, Nat.reduceAdd, Nat.reduceMul, Nat.reduceSub, Nat.reduceBEq, Nat.reduceEqDiff, Int.reduceToNat, reduceIte, tsI2, T26]
      exact ⟨tk, rfl, (hge5.set (Nat.le_refl _) _).set (Nat.le_succ _) _⟩
  refine VC.seqV tabOk ?_
  simp (disch := first | omega | (simp only [ds] <;> omega) | fail) only [wk, undefM, Nat.reduceLT, Nat.reduceAdd, Nat.reduceMul, Nat.reduceSub, Nat.reduceBEq, Nat.reduceEqDiff, Int.reduceToNat, reduceIte, tsD, wd]
  refine CallW.rt (peek_v hr3) (by kernel_rfl) rfl rfl ?_
  rintro _ OX ⟨rfl, eX⟩
  rw [eX]; clear eX OX
  simp (disch := first | omega | (simp only [ds] <;> omega) | fail) only [wk, undefM, Nat.reduceLT, Nat.reduceAdd, Nat.reduceMul, Nat.reduceSub, Nat.reduceBEq, Nat.reduceEqDiff, Int.reduceToNat, reduceIte, tsD, wd]
  refine WC.join tabOk [19, 2, 3, 4] (fun b : Bool => [mb b, .ptr O.next 0, .ptr (O.next + 1) 0, .ptr (O.next + 2) 0]) (fun b O' => O' = O3 ∧ b = !(headB t == 91 || headB t == 40)) ?_ ?_
  · have e91 : ((headB t).toNat == 91) = (headB t == 91) := by have := byte_eq (headB t) 91; rw [← this]; rw [Bool.eq_iff_iff]; simp; omega
    have e40 : ((headB t).toNat == 40) = (headB t == 40) := by have := byte_eq (headB t) 40; rw [← this]; rw [Bool.eq_iff_iff]; simp; omega
    rw [← e91, ← e40]
    by_cases e1 : (headB t).toNat = 91
    · simp (disch := first | omega | (simp only [ds] <;> omega) | fail) only [wk, undefM, Nat.reduceLT, Nat.reduceAdd, Nat.reduceMul, Nat.reduceSub, Nat.reduceBEq, Nat.reduceEqDiff, Int.reduceToNat, reduceIte, tsD, wd, byM_def, e1]
      exact JoinQ.mk _ rfl ⟨rfl, rfl⟩
    · by_cases e2 : (headB t).toNat = 40
      · simp (disch := first | omega | (simp only [ds] <;> omega) | fail) only [wk, undefM, Nat.reduceLT, Nat.reduceAdd, Nat.reduceMul, Nat.reduceSub, Nat.reduceBEq, Nat.reduceEqDiff, Int.reduceToNat, reduceIte, tsD, wd, byM_def, e1, e2]
        exact JoinQ.mk _ rfl ⟨rfl, rfl⟩
      · simp (disch := first | omega | (simp only [ds] <;> omega) | fail) only [wk, undefM, Nat.reduceLT, Nat.reduceAdd, Nat.reduceMul, Nat.reduceSub, Nat.reduceBEq, Nat.reduceEqDiff, Int.reduceToNat, reduceIte, tsD, wd, byM_def, e1, e2]
        exact JoinQ.mk true rfl ⟨rfl, by simp [e1, e2]⟩
  rintro b Oz ⟨eO, hb⟩
  rw [eO]; clear eO Oz
  cases hc : headB t == 91 || headB t == 40
  · rw [hc] at hb
    subst hb
    have hk3 := hr3.2
    refine WC.sound tabOk ?_
    simp (disch := first | omega | (simp only [ds] <;> omega) | fail) only [wk, undefM, Nat.reduceLT, Nat.reduceAdd, Nat.reduceMul, Nat.reduceSub, Nat.reduceBEq, Nat.reduceEqDiff, Int.reduceToNat, reduceIte, tsI2, wd, hk3, ha3]
    refine JoinQ.mk ((false, t, []), .nil) rfl ⟨hge3.set (Nat.le_refl _) _, VH.set_get _ _ _, (VH.set_ne _ _ (by omega)).trans hb3, by rw [VH.next_set]; omega, ⟨htm, Nat.zero_le _, fun p h => by cases h⟩, ?_⟩
    unfold parseT
    rw [hc]
    rfl
  · rw [hc] at hb
    subst hb
    refine WC.sound tabOk ?_
    simp (disch := first | omega | (simp only [ds] <;> omega) | fail) only [wk, undefM, Nat.reduceLT, Nat.reduceAdd, Nat.reduceMul, Nat.reduceSub, Nat.reduceBEq, Nat.reduceEqDiff, Int.reduceToNat, reduceIte, tsI2, wd, ha3]
    have hpt : parseT t = (partsF t).bind fun L => if mayR (true, [], L) then some (true, [], L) else none := by unfold parseT; rw [hc]; rfl
    rw [hpt]
    clear hpt hc
    have hgeS := hge3.set (Nat.le_refl _) (.cells [.v (.bool true), .str [], .sl 0 [] .nil])
    have haS := VH.set_get O3 O.next (.cells [.v (.bool true), .str [], .sl 0 [] .nil])
    have hbS := (VH.set_ne O3 (.cells [.v (.bool true), .str [], .sl 0 [] .nil]) (show O.next + 1 ≠ O.next by omega)).trans hb3
    have hrS := hr3.other (.cells [.v (.bool true), .str [], .sl 0 [] .nil]) (show O.next + 2 ≠ O.next by omega)
    have hnS : (O3.set O.next (.cells [.v (.bool true), .str [], .sl 0 [] .nil])).next = O.next + 3 := hn3
    generalize O3.set O.next (.cells [.v (.bool true), .str [], .sl 0 [] .nil]) = O4 at *
    clear ha3 hb3 hr3 hge3
    refine VC.loopV [6] [2, 3, 4] (fun x : Bool × List Iv × Tok × List UInt8 => [mb x.1]) (fun x O' => O.Ge O' ∧ O'.hp O.next = some (.cells [mb true, .str [], .sl x.2.1.length (x.2.1.flatMap ivM) x.2.2.1]) ∧ O'.hp (O.next + 1) = some (.cells [mi 0]) ∧ RdAt O' (O.next + 2) x.2.2.2 ∧ O.next + 2 < O'.next ∧ App O' (O.next + 3) 6 x.2.2.1 ∧ x.2.1.length + x.2.2.2.length ≤ t.length ∧ (∀ p ∈ x.2.1, p.1.2.1.length ≤ t.length ∧ p.2.2.1.length ≤ t.length) ∧ ∃ k, x.2.2.2.length < k ∧ partsF t = (restF x.1 k x.2.2.2).map (x.2.1 ++ ·)) (fun x => x.2.2.2.length) ((true, [], .nil, t)) rfl rfl ?_ ?_
    · refine ⟨hgeS, haS, hbS, hrS, by omega, trivial, by simp, by simp, t.length + 1, Nat.lt_succ_self _, ?_⟩
      show partsF t = Option.map _ (restF true (t.length + 1) t)
      rw [show (([] : List Iv) ++ ·) = id from rfl, Option.map_id]; rfl
    rintro ⟨first, acc, tk, u⟩ O5 ⟨hge5, ha5, hb5, hr5, hn5, hap5, hsz, hacc, k, hk, hpf⟩
    dsimp only at ha5 hr5 hap5 hsz hacc hk hpf
    have hru := hr5.2
    have hul : u.length ≤ maxLen := by omega
    refine WC.join tabOk [6, 2, 3, 4] (fun _ : Unit => [mb first, .ptr O.next 0, .ptr (O.next + 1) 0, .ptr (O.next + 2) 0]) (fun _ O' => O' = O5 ∧ (first = true ∨ u ≠ [])) ?_ ?_
    · cases first
      · cases u with
        | nil =>
          have hu0 : (([] : List UInt8) == []) = true := rfl
          simp (disch := first | omega | (simp only [ds] <;> omega) | fail) only [wk, undefM, Nat.reduceLT, Nat.reduceAdd, Nat.reduceMul, Nat.reduceSub, Nat.reduceBEq, Nat.reduceEqDiff, Int.reduceToNat, reduceIte, tsD, wd, hru, hu0]
          have hpf' : partsF t = some acc := by
            rw [hpf]
            cases k with
            | zero => exact absurd hk (by simp)
            | succ k => simp [restF, tailF]
          refine JoinQ.mk ((true, [], acc), tk) rfl ⟨hge5, ha5, hb5, hn5, ⟨Nat.zero_le _, by show acc.length ≤ maxLen; simp only [List.length_nil] at hsz; omega, fun p hp => by have := hacc p hp; exact ⟨by omega, by omega⟩⟩, ?_⟩
          rw [hpf']
          rfl
        | cons c u =>
          have hu0 : ((c :: u) == []) = false := rfl
          simp (disch := first | omega | (simp only [ds] <;> omega) | fail) only [wk, undefM, Nat.reduceLT, Nat.reduceAdd, Nat.reduceMul, Nat.reduceSub, Nat.reduceBEq, Nat.reduceEqDiff, Int.reduceToNat, reduceIte, tsD, wd, hru, hu0]
          exact JoinQ.mk () rfl ⟨rfl, by simp⟩
      · simp (disch := first | omega | (simp only [ds] <;> omega) | fail) only [wk, undefM, Nat.reduceLT, Nat.reduceAdd, Nat.reduceMul, Nat.reduceSub, Nat.reduceBEq, Nat.reduceEqDiff, Int.reduceToNat, reduceIte, tsD, wd, hru]
        exact JoinQ.mk () rfl ⟨rfl, by simp⟩
    rintro _ Oz ⟨eO, hfu⟩
    rw [eO]; clear eO Oz
    refine VC.seq0 (VC.block' ?_)
    refine WC.join tabOk [2, 3, 4] (fun _ : List UInt8 => [.ptr O.next 0, .ptr (O.next + 1) 0, .ptr (O.next + 2) 0]) (fun v O' => Upd O5 (some (O.next + 2)) O' ∧ RdAt O' (O.next + 2) v ∧ v.length ≤ u.length ∧ ∃ k', v.length < k' ∧ partsF t = (restF true k' v).map (acc ++ ·)) ?_ ?_
    · cases first
      · have hne : u ≠ [] := by simpa using hfu
        obtain ⟨c, v, rfl⟩ := List.exists_cons_of_ne_nil hne
        obtain ⟨k, rfl⟩ : ∃ j, k = j + 1 := ⟨k - 1, by omega⟩
        have htf : restF false (k + 1) (c :: v) = if headB (c :: v) == 44 then (ivF (v.dropWhile isB)).bind fun p => (tailF k (p.2.dropWhile isB)).map (p.1 :: ·) else none := rfl
        rw [htf] at hpf
        simp (disch := first | omega | (simp only [ds] <;> omega) | fail) only [wk, undefM, Nat.reduceLT, Nat.reduceAdd, Nat.reduceMul, Nat.reduceSub, Nat.reduceBEq, Nat.reduceEqDiff, Int.reduceToNat, reduceIte, tsD, wd]
        refine CallW.p (take_v [44] hr5 hul rfl) (by kernel_rfl) rfl rfl ?_ ?_
        rotate_left
        · rintro m O6 ⟨hu, rfl, hno⟩
          have hno' : (headB (c :: v) == 44) = false := by simpa using hno
          rw [hno', if_neg (by simp)] at hpf
          simp (disch := first | omega | (simp only [ds] <;> omega) | fail) only [wk, undefM, Nat.reduceLT, Nat.reduceAdd, Nat.reduceMul, Nat.reduceSub, Nat.reduceBEq, Nat.reduceEqDiff, Int.reduceToNat, reduceIte, wd]
          have hnx := hu.next
          refine catchF (O := _) (a := O.next) (b := O.next + 1) (hu.keep (by omega) (by omega) ha5) (hu.keep (by omega) (by omega) hb5) (by omega) (by first | omega | (rw [VH.next_set]; omega)) (by first | omega | (rw [VH.next_set]; omega)) ?_
          rintro OF hGe haF hbF
          simp only [bndC, mi_def] at haF hbF
          rw [show partsF t = none from hpf]
          simp (disch := first | omega | (simp only [ds] <;> omega) | fail) only [wk, undefM, Nat.reduceLT, Nat.reduceAdd, Nat.reduceMul, Nat.reduceSub, Nat.reduceBEq, Nat.reduceEqDiff, Int.reduceToNat, reduceIte, tsI2, T26, haF, hbF]
          exact ⟨.nil, rfl, hGe O (Upd.ge hge5 hu (by omega)) (Nat.le_refl _) (Nat.le_succ _)⟩
        rintro m O6 ⟨hu6, rfl, hc6, h6⟩
        have hc' : (headB (c :: v) == 44) = true := by simpa using hc6
        rw [hc', if_pos rfl] at hpf
        simp (disch := first | omega | (simp only [ds] <;> omega) | fail) only [wk, undefM, Nat.reduceLT, Nat.reduceAdd, Nat.reduceMul, Nat.reduceSub, Nat.reduceBEq, Nat.reduceEqDiff, Int.reduceToNat, reduceIte, tsD, wd]
        have hdl := dw_len isB v
        simp only [List.length_cons] at hsz hk hul
        refine CallW.rt (blanks_v h6 (by simp; omega)) (by kernel_rfl) rfl rfl ?_
        rintro _ O7 ⟨hu7, h7⟩
        simp (disch := first | omega | (simp only [ds] <;> omega) | fail) only [wk, undefM, Nat.reduceLT, Nat.reduceAdd, Nat.reduceMul, Nat.reduceSub, Nat.reduceBEq, Nat.reduceEqDiff, Int.reduceToNat, reduceIte, tsD, wd]
        exact JoinQ.mk (v.dropWhile isB) rfl ⟨hu6.trans hu7, h7, by simp; omega, k, by omega, hpf⟩
      · simp (disch := first | omega | (simp only [ds] <;> omega) | fail) only [wk, undefM, Nat.reduceLT, Nat.reduceAdd, Nat.reduceMul, Nat.reduceSub, Nat.reduceBEq, Nat.reduceEqDiff, Int.reduceToNat, reduceIte, tsD, wd]
        exact JoinQ.mk u rfl ⟨Upd.refl _ _, hr5, Nat.le_refl _, k, hk, hpf⟩
    rintro v O6 ⟨hu6, hr6, hvl, k', hk', hpf'⟩
    have ha6 := hu6.keep (by omega) (by omega) ha5
    have hb6 := hu6.keep (by omega) (by omega) hb5
    have hn6 := hu6.next
    have hge6 := Upd.ge hge5 hu6 (by omega)
    have hap6 : App O6 (O.next + 3) 6 tk := hap5.keep hn6 (fun i h1 h2 => hu6.hp i h2 (by intro e; injection e; omega))
    clear ha5 hb5 hr5 hu6 hpf hap5 hge5 hru
    refine VC.seq0 ?_
    refine VC.drawF [6, 7] (O.next) (ha6) (by kernel_rfl) ?_
    intro X
    refine VAnyE.sil tabOk 0 rfl (by kernel_rfl) (by kernel_rfl) (by kernel_rfl) (by kernel_rfl) rfl rfl ?_
    simp (disch := first | omega | (simp only [ds] <;> omega) | fail) only [wk, undefM, Nat.reduceLT, Nat.reduceAdd, Nat.reduceMul, Nat.reduceSub, Nat.reduceBEq, Nat.reduceEqDiff, Int.reduceToNat, reduceIte, PreK_some, putM_some, tsI2]
    refine VAnyE.ldF (m := .sl acc.length (acc.flatMap ivM) tk) tabOk 1 rfl (by kernel_rfl) (by kernel_rfl) (by kernel_rfl) (by kernel_rfl) rfl rfl rfl ?_ ?_
    · simp (disch := first | omega | (simp only [ds] <;> omega) | fail) only [wk, undefM, Nat.reduceLT, Nat.reduceAdd, Nat.reduceMul, Nat.reduceSub, Nat.reduceBEq, Nat.reduceEqDiff, Int.reduceToNat, reduceIte, tsI2]
    simp only [putM_some]
    refine VAnyE.sil tabOk 2 rfl (by kernel_rfl) (by kernel_rfl) (by kernel_rfl) (by kernel_rfl) rfl rfl ?_
    simp (disch := first | omega | (simp only [ds] <;> omega) | fail) only [wk, undefM, Nat.reduceLT, Nat.reduceAdd, Nat.reduceMul, Nat.reduceSub, Nat.reduceBEq, Nat.reduceEqDiff, Int.reduceToNat, reduceIte, PreK_some, putM_some, tsI2]
    refine VAnyE.callP (k := O.next) (i := 3) (by kernel_rfl) rfl rfl rfl rfl (by kernel_rfl) rfl (interval_v (RdAt.other (k := O.next) hr6 (.obj X) (by omega)) (Nat.le_trans hvl hul)) ?_ ?_
    rotate_left
    · rintro m O7 ⟨hu7, rfl, hno⟩
      have hX := hu7.keep (k := O.next) (by rw [VH.next_set]; omega) (by omega) (VH.set_get _ _ _)
      refine ⟨hX, ?_⟩
      have hpn : partsF t = none := by rw [hpf']; show Option.map _ ((ivF v).bind _) = none; rw [hno]; rfl
      have hnx := hu7.next
      simp only [VH.next_set] at hnx
      have hbX := hu7.keep (k := O.next + 1) (by rw [VH.next_set]; omega) (by omega) ((VH.set_ne _ _ (by omega)).trans hb6)
      have hge7 := Upd.ge (hge6.set (Nat.le_refl _) (.obj X)) hu7 (by omega)
      simp (disch := first | omega | (simp only [ds] <;> omega) | fail) only [wk, undefM, Nat.reduceLT, Nat.reduceAdd, Nat.reduceMul, Nat.reduceSub, Nat.reduceBEq, Nat.reduceEqDiff, Int.reduceToNat, reduceIte, wd]
      refine catchF (O := _) (a := O.next) (b := O.next + 1) (VH.set_get _ _ _) ((VH.set_ne _ _ (by omega)).trans hbX) (by omega) (by first | omega | (rw [VH.next_set]; omega)) (by first | omega | (rw [VH.next_set]; omega)) ?_
      rintro OF hGe haF hbF
      simp only [bndC, mi_def] at haF hbF
      rw [hpn]
      simp (disch := first | omega | (simp only [ds] <;> omega) | fail) only [wk, undefM, Nat.reduceLT, Nat.reduceAdd, Nat.reduceMul, Nat.reduceSub, Nat.reduceBEq, Nat.reduceEqDiff, Int.reduceToNat, reduceIte, tsI2, T26, haF, hbF]
      exact ⟨.nil, rfl, hGe O (hge7.set (Nat.le_refl _) _) (Nat.le_refl _) (Nat.le_succ _)⟩
    rintro m O7 ⟨hu7, x, rest, hiv, rfl, h7⟩
    have hX := hu7.keep (k := O.next) (by rw [VH.next_set]; omega) (by omega) (VH.set_get _ _ _)
    have hbX := hu7.keep (k := O.next + 1) (by rw [VH.next_set]; omega) (by omega) ((VH.set_ne _ _ (by omega)).trans hb6)
    have hge7 := Upd.ge (hge6.set (Nat.le_refl _) (.obj X)) hu7 (by omega)
    have hnx := hu7.next
    simp only [VH.next_set] at hnx
    have hap7 : App O7 (O.next + 3) 6 tk := hap6.keep hnx (fun i h1 h2 => (hu7.hp i h2 (by intro e; injection e; omega)).trans (VH.set_ne _ _ (by omega)))
    refine ⟨hX, ?_⟩
    refine VAnyE.op (i := 4) tabOk (by kernel_rfl) rfl rfl rfl ?_
    simp (disch := first | omega | (simp only [ds] <;> omega) | fail) only [wk, undefM, Nat.reduceLT, Nat.reduceAdd, Nat.reduceMul, Nat.reduceSub, Nat.reduceBEq, Nat.reduceEqDiff, Int.reduceToNat, reduceIte, PreK_some, putM_some, tsI2, ivM, enM]
    refine ⟨hX, ?_⟩
    have hil := ivF_len hiv
    dsimp only at hil
    have hvap := vappend_app (tk' := .full) (n := acc.length) (k := 1) (cs := acc.flatMap ivM) (ds := [.v (.bool x.1.1), .str x.1.2.1, .v (.bool x.1.2.2), .v (.bool x.2.1), .str x.2.2.1, .v (.bool x.2.2.2)]) ty23 ty57 hap7 (iv_len acc) rfl rfl (by decide) (by decide) (by omega) (by simp [maxLen]; omega)
    have hst : (acc ++ [x]).flatMap ivM = acc.flatMap ivM ++ [.v (.bool x.1.1), .str x.1.2.1, .v (.bool x.1.2.2), .v (.bool x.2.1), .str x.2.2.1, .v (.bool x.2.2.2)] := by simp [ivM, enM, mb_def]
    rw [← hst] at hvap
    refine VAnyE.op (i := 5) tabOk (by kernel_rfl) rfl rfl rfl ?_
    simp (disch := first | omega | (simp only [ds] <;> omega) | fail) only [wk, undefM, Nat.reduceLT, Nat.reduceAdd, Nat.reduceMul, Nat.reduceSub, Nat.reduceBEq, Nat.reduceEqDiff, Int.reduceToNat, reduceIte, PreK_some, putM_some, tsI2, vop_append, hvap]
    have hX9 := VH.after_hp hap7 hX (by simp) (by omega)
    have hb9 := VH.after_hp hap7 hbX (by simp) (by omega)
    have hr9 : RdAt (O7.after tk) (O.next + 2) rest := ⟨by rw [VH.after_next]; omega, VH.after_hp hap7 h7.2 (by simp) (by omega)⟩
    have hge9 := hge7.after hap7 (by omega)
    have hap9 : App (O7.after tk) (O.next + 3) 6 (.own O7.next 6) := App.after (by omega)
    have hn9 : O.next + 2 < (O7.after tk).next := by rw [VH.after_next]; omega
    generalize O7.after tk = O9 at *
    refine ⟨hX9, ?_⟩
    refine VAnyE.planF tabOk [(6, .sil), (7, .one)] (by kernel_rfl) (by kernel_rfl) (by kernel_rfl) rfl ?_
    simp (disch := first | omega | (simp only [ds] <;> omega) | fail) only [wk, undefM, Nat.reduceLT, Nat.reduceAdd, Nat.reduceMul, Nat.reduceSub, Nat.reduceBEq, Nat.reduceEqDiff, Int.reduceToNat, reduceIte, tsI2, wd]
    have hs2 : ∀ (i : Nat) (y : VObj), i ≠ O.next → O9.hp i = some y → ((O9.set O.next (.cells [.v (.bool true), .str [], .sl acc.length (acc.flatMap ivM) tk])).set O.next (.cells [.v (.bool true), .str [], .sl (acc.length + 1) ((acc ++ [x]).flatMap ivM) (.own O7.next 6)])).hp i = some y := fun i y hi h => (VH.set_ne _ _ hi).trans ((VH.set_ne _ _ hi).trans h)
    have ha10 : ((O9.set O.next (.cells [.v (.bool true), .str [], .sl acc.length (acc.flatMap ivM) tk])).set O.next (.cells [.v (.bool true), .str [], .sl (acc.length + 1) ((acc ++ [x]).flatMap ivM) (.own O7.next 6)])).hp O.next = some (.cells [.v (.bool true), .str [], .sl (acc.length + 1) ((acc ++ [x]).flatMap ivM) (.own O7.next 6)]) := VH.set_get _ _ _
    have hb10 := hs2 _ _ (by omega) hb9
    have hr10 : RdAt ((O9.set O.next (.cells [.v (.bool true), .str [], .sl acc.length (acc.flatMap ivM) tk])).set O.next (.cells [.v (.bool true), .str [], .sl (acc.length + 1) ((acc ++ [x]).flatMap ivM) (.own O7.next 6)])) (O.next + 2) rest := ⟨hr9.1, hs2 _ _ (by omega) hr9.2⟩
    have hge10 := (hge9.set (Nat.le_refl _) (.cells [.v (.bool true), .str [], .sl acc.length (acc.flatMap ivM) tk])).set (Nat.le_refl _) (.cells [.v (.bool true), .str [], .sl (acc.length + 1) ((acc ++ [x]).flatMap ivM) (.own O7.next 6)])
    have hap10 : App ((O9.set O.next (.cells [.v (.bool true), .str [], .sl acc.length (acc.flatMap ivM) tk])).set O.next (.cells [.v (.bool true), .str [], .sl (acc.length + 1) ((acc ++ [x]).flatMap ivM) (.own O7.next 6)])) (O.next + 3) 6 (.own O7.next 6) := hap9.keep (Nat.le_refl _) (fun i h1 _ => (VH.set_ne _ _ (by omega)).trans (VH.set_ne _ _ (by omega)))
    have hn10 : O.next + 2 < ((O9.set O.next (.cells [.v (.bool true), .str [], .sl acc.length (acc.flatMap ivM) tk])).set O.next (.cells [.v (.bool true), .str [], .sl (acc.length + 1) ((acc ++ [x]).flatMap ivM) (.own O7.next 6)])).next := hn9
    clear hs2
    generalize ((O9.set O.next (.cells [.v (.bool true), .str [], .sl acc.length (acc.flatMap ivM) tk])).set O.next (.cells [.v (.bool true), .str [], .sl (acc.length + 1) ((acc ++ [x]).flatMap ivM) (.own O7.next 6)])) = O10 at *
    refine WC.sound tabOk ?_
    simp (disch := first | omega | (simp only [ds] <;> omega) | fail) only [wk, undefM, Nat.reduceLT, Nat.reduceAdd, Nat.reduceMul, Nat.reduceSub, Nat.reduceBEq, Nat.reduceEqDiff, Int.reduceToNat, reduceIte, tsI2, wd]
    have hdl := dw_len isB rest
    refine CallW.rt (blanks_v hr10 (by omega)) (by kernel_rfl) rfl rfl ?_
    rintro _ O11 ⟨hu11, h11⟩
    have hn11 := hu11.next
    simp (disch := first | omega | (simp only [ds] <;> omega) | fail) only [wk, undefM, Nat.reduceLT, Nat.reduceAdd, Nat.reduceMul, Nat.reduceSub, Nat.reduceBEq, Nat.reduceEqDiff, Int.reduceToNat, reduceIte, tsI2, wd]
    refine WC.sound tabOk ?_
    simp (disch := first | omega | (simp only [ds] <;> omega) | fail) only [wk, undefM, Nat.reduceLT, Nat.reduceAdd, Nat.reduceMul, Nat.reduceSub, Nat.reduceBEq, Nat.reduceEqDiff, Int.reduceToNat, reduceIte, tsI2, wd]
    refine RoundQ.next (false, acc ++ [x], .own O7.next 6, rest.dropWhile isB) rfl rfl ⟨Upd.ge hge10 hu11 (by omega), ?_, hu11.keep (by omega) (by omega) hb10, h11, by omega, hap10.keep hn11 (fun i h1 h2 => hu11.hp i h2 (by intro e; injection e; omega)), by simp only [List.length_append, List.length_cons, List.length_nil]; omega, ?_, k', by dsimp only; omega, ?_⟩ (by dsimp only; omega)
    · have := hu11.keep (by omega) (by omega) ha10
      simpa using this
    · intro p hp
      rcases List.mem_append.1 hp with hp | hp
      · exact hacc p hp
      · rw [List.mem_singleton.1 hp]; exact ⟨by omega, by omega⟩
    · rw [hpf']
      show Option.map _ ((ivF v).bind _) = _
      rw [hiv]
      show Option.map _ (Option.map _ (tailF k' (rest.dropWhile isB))) = Option.map _ (tailF k' (rest.dropWhile isB))
      cases tailF k' (rest.dropWhile isB) with
      | none => rfl
      | some l => simp
end Go.Proofs.YtbpnmkmlicbfoaaDoor

/-
  The reference of the package bounds: Parse, walked.
-/
set_option linter.unusedVariables false
set_option linter.unusedSimpArgs false
namespace Go.Proofs.YtbpnmkmlicbfoaaDoor
open Go.RowKit
set_option maxRecDepth 10000
theorem okRow_bad {x : Iv} (hx : endOk x.1 = false) : ∀ (L : List Iv) (pr : Option En), x ∈ L → okRow pr L = false
  | [], _, h => by cases h
  | y :: L, pr, h => by
    rcases List.mem_cons.1 h with rfl | h
    · simp [okRow, hx]
    · simp [okRow, okRow_bad hx L (some y.2) h]
theorem parse_bad {t : List UInt8} {acc : List Iv} {x : Iv} {z : Option (List Iv)} (hx : endOk x.1 = false) (h : partsF t = (z.map (x :: ·)).map (acc ++ ·)) : ((partsF t).bind fun L => if mayR (true, [], L) then some (true, [], L) else none) = (none : Option Rg) := by
  rw [h]
  cases z with
  | none => rfl
  | some l =>
    have : mayR (true, [], acc ++ x :: l) = false := by simp [mayR, okRow_bad hx (acc ++ x :: l) none (by simp)]
    simp [this]
/-- pomaceref05.Parse -/
theorem rParse_v (s : List UInt8) (O : VH) (hs : s.length ≤ 10000) : VF Tryd.prog 11 [.str s] O (Ret fun m O' => ∃ r tk, m = .tuple [.agg (rgM r tk), mb (parseR s).isSome] ∧ (∀ q, parseR s = some q → r = q) ∧ O.Ge O') := by
  have hml : s.length ≤ maxLen := Nat.le_trans hs (by decide)
  have htl : (trimB s).length ≤ s.length := trimB_len s
  have hpr : parseR s = parseT (trimB s) := rfl
  rw [hpr]; clear hpr
  have hge := fun x y z => (((VH.Ge.refl O).push x).push y).set (k := O.next + 1) (Nat.le_succ _) z
  refine VF.ofV (n := ⟨116, 0⟩) (rs := [.cell 2 25, .tmp 3]) tabOk Tryd.func11 rfl rfl rfl (Nat.le_of_ble_eq_true rfl) ?_
  simp only [argEnv, Nat.zero_add, Nat.reduceAdd]
  refine VC.seqV tabOk ?_
  simp (disch := first | omega | (simp only [ds] <;> omega) | fail) only [wk, undefM, Nat.reduceLT, Nat.reduceAdd, Nat.reduceMul, Nat.reduceSub, Nat.reduceBEq, Nat.reduceEqDiff, Int.reduceToNat, reduceIte, tsI2]
  refine VC.seqV tabOk ?_
  simp (disch := first | omega | (simp only [ds] <;> omega) | fail) only [wk, undefM, Nat.reduceLT, Nat.reduceAdd, Nat.reduceMul, Nat.reduceSub, Nat.reduceBEq, Nat.reduceEqDiff, Int.reduceToNat, reduceIte, tsI2]
  refine CallW.rt (rTrim_v s _ hml) (by kernel_rfl) rfl rfl ?_
  rintro _ O2 ⟨rfl, eO⟩
  rw [eO]; clear eO O2
  generalize trimB s = t at *
  have htm : t.length ≤ maxLen := Nat.le_trans htl hml
  simp (disch := first | omega | (simp only [ds] <;> omega) | fail) only [wk, undefM, Nat.reduceLT, Nat.reduceAdd, Nat.reduceMul, Nat.reduceSub, Nat.reduceBEq, Nat.reduceEqDiff, Int.reduceToNat, reduceIte, tsI2]
  refine VC.seqV tabOk ?_
  simp (disch := first | omega | (simp only [ds] <;> omega) | fail) only [wk, undefM, Nat.reduceLT, Nat.reduceAdd, Nat.reduceMul, Nat.reduceSub, Nat.reduceBEq, Nat.reduceEqDiff, Int.reduceToNat, reduceIte, tsI2]
  have hge3 := hge (.cells bndC) (.cells bndC) (.cells bndC)
  have ha3 : (((O.push (.cells bndC)).push (.cells bndC)).set (O.next + 1) (.cells bndC)).hp O.next = some (.cells bndC) := (VH.set_ne _ _ (by omega)).trans ((VH.push_ne _ _ (by show O.next ≠ O.next + 1; omega)).trans (VH.push_new O _))
  have hb3 : (((O.push (.cells bndC)).push (.cells bndC)).set (O.next + 1) (.cells bndC)).hp (O.next + 1) = some (.cells bndC) := VH.set_get _ _ _
  have hn3 : (((O.push (.cells bndC)).push (.cells bndC)).set (O.next + 1) (.cells bndC)).next = O.next + 2 := rfl
  simp only [bndC] at hge3 ha3 hb3 hn3
  generalize (((O.push (.cells [.v (.bool false), .str [], .sl 0 [] .nil])).push (.cells [.v (.bool false), .str [], .sl 0 [] .nil])).set (O.next + 1) (.cells [.v (.bool false), .str [], .sl 0 [] .nil])) = O3 at *
  clear hge
  refine VC.seq0 ?_
  refine WC.join tabOk [21, 0, 2, 4] (fun b : Bool => [mb b, .str t, .ptr O.next 0, .ptr (O.next + 1) 0]) (fun b O' => O' = O3 ∧ b = !(headB t == 91 || headB t == 40)) ?_ ?_
  · have e91 : ((headB t).toNat == 91) = (headB t == 91) := by have := byte_eq (headB t) 91; rw [← this]; rw [Bool.eq_iff_iff]; simp; omega
    have e40 : ((headB t).toNat == 40) = (headB t == 40) := by have := byte_eq (headB t) 40; rw [← this]; rw [Bool.eq_iff_iff]; simp; omega
    rw [← e91, ← e40]
    by_cases e1 : (headB t).toNat = 91
    · simp (disch := first | omega | (simp only [ds] <;> omega) | fail) only [wk, undefM, Nat.reduceLT, Nat.reduceAdd, Nat.reduceMul, Nat.reduceSub, Nat.reduceBEq, Nat.reduceEqDiff, Int.reduceToNat, reduceIte, tsI2]
      refine CallW.rt (first_v t _ htm) (by kernel_rfl) rfl rfl ?_
      rintro _ OX ⟨rfl, eX⟩
      rw [eX]; clear eX OX
      simp (disch := first | omega | (simp only [ds] <;> omega) | fail) only [wk, undefM, Nat.reduceLT, Nat.reduceAdd, Nat.reduceMul, Nat.reduceSub, Nat.reduceBEq, Nat.reduceEqDiff, Int.reduceToNat, reduceIte, tsI2, byM_def, e1]
      exact JoinQ.mk _ rfl ⟨rfl, rfl⟩
    · simp (disch := first | omega | (simp only [ds] <;> omega) | fail) only [wk, undefM, Nat.reduceLT, Nat.reduceAdd, Nat.reduceMul, Nat.reduceSub, Nat.reduceBEq, Nat.reduceEqDiff, Int.reduceToNat, reduceIte, tsI2]
      refine CallW.rt (first_v t _ htm) (by kernel_rfl) rfl rfl ?_
      rintro _ OX ⟨rfl, eX⟩
      rw [eX]; clear eX OX
      simp (disch := first | omega | (simp only [ds] <;> omega) | fail) only [wk, undefM, Nat.reduceLT, Nat.reduceAdd, Nat.reduceMul, Nat.reduceSub, Nat.reduceBEq, Nat.reduceEqDiff, Int.reduceToNat, reduceIte, tsI2, byM_def, e1]
      refine CallW.rt (first_v t _ htm) (by kernel_rfl) rfl rfl ?_
      rintro _ OX ⟨rfl, eX⟩
      rw [eX]; clear eX OX
      by_cases e2 : (headB t).toNat = 40
      · simp (disch := first | omega | (simp only [ds] <;> omega) | fail) only [wk, undefM, Nat.reduceLT, Nat.reduceAdd, Nat.reduceMul, Nat.reduceSub, Nat.reduceBEq, Nat.reduceEqDiff, Int.reduceToNat, reduceIte, tsI2, byM_def, e1, e2]
        exact JoinQ.mk _ rfl ⟨rfl, rfl⟩
      · simp (disch := first | omega | (simp only [ds] <;> omega) | fail) only [wk, undefM, Nat.reduceLT, Nat.reduceAdd, Nat.reduceMul, Nat.reduceSub, Nat.reduceBEq, Nat.reduceEqDiff, Int.reduceToNat, reduceIte, tsI2, byM_def, e1, e2]
        exact JoinQ.mk true rfl ⟨rfl, by simp [e1, e2]⟩
  rintro b Oz ⟨eO, hb⟩
  rw [eO]; clear eO Oz
  cases hc : headB t == 91 || headB t == 40
  · rw [hc] at hb
    subst hb
    have hpt : parseT t = if mayR (false, t, []) then some (false, t, []) else none := by unfold parseT; rw [hc]; rfl
    rw [hpt]
    clear hpt hc
    refine WC.sound tabOk ?_
    simp (disch := first | omega | (simp only [ds] <;> omega) | fail) only [wk, undefM, Nat.reduceLT, Nat.reduceAdd, Nat.reduceMul, Nat.reduceSub, Nat.reduceBEq, Nat.reduceEqDiff, Int.reduceToNat, reduceIte, tsI2, hb3]
    have hb4 := VH.set_get O3 (O.next + 1) (.cells [.v (.bool false), .str t, .sl 0 [] .nil])
    have ha4 := (VH.set_ne O3 (.cells [.v (.bool false), .str t, .sl 0 [] .nil]) (show O.next ≠ O.next + 1 by omega)).trans ha3
    have hge4 := hge3.set (Nat.le_succ _) (.cells [.v (.bool false), .str t, .sl 0 [] .nil])
    have hn4 : (O3.set (O.next + 1) (.cells [.v (.bool false), .str t, .sl 0 [] .nil])).next = O.next + 2 := hn3
    generalize O3.set (O.next + 1) (.cells [.v (.bool false), .str t, .sl 0 [] .nil]) = O4 at *
    refine VC.drawF [] (O.next + 1) (hb4) (by kernel_rfl) ?_
    intro X
    refine VAnyE.ldF (m := .agg [.v (.bool false), .str t, .sl 0 [] .nil]) tabOk 0 rfl (by kernel_rfl) (by kernel_rfl) (by kernel_rfl) (by kernel_rfl) rfl rfl rfl ?_ ?_
    · simp (disch := first | omega | (simp only [ds] <;> omega) | fail) only [wk, undefM, Nat.reduceLT, Nat.reduceAdd, Nat.reduceMul, Nat.reduceSub, Nat.reduceBEq, Nat.reduceEqDiff, Int.reduceToNat, reduceIte, tsI2]
    simp only [putM_some]
    refine VAnyE.ldF (m := .agg [.v (.bool false), .str t, .sl 0 [] .nil]) tabOk 1 rfl (by kernel_rfl) (by kernel_rfl) (by kernel_rfl) (by kernel_rfl) rfl rfl rfl ?_ ?_
    · simp (disch := first | omega | (simp only [ds] <;> omega) | fail) only [wk, undefM, Nat.reduceLT, Nat.reduceAdd, Nat.reduceMul, Nat.reduceSub, Nat.reduceBEq, Nat.reduceEqDiff, Int.reduceToNat, reduceIte, tsI2]
    simp only [putM_some]
    refine VAnyE.call (i := 2) (by kernel_rfl) rfl rfl rfl rfl (by kernel_rfl) rfl (rRgMay_v (false, t, []) .nil _ ⟨htm, Nat.zero_le _, fun p h => by cases h⟩) ?_
    rintro _ O5 ⟨rfl, hg5⟩
    simp only [putM_some]
    have hX := (hg5.hp _ (by rw [VH.next_set]; omega)).trans (VH.set_get _ _ _)
    have ha5 := (hg5.hp _ (by rw [VH.next_set]; omega)).trans ((VH.set_ne _ _ (by omega)).trans ha4)
    have hge5 := (hge4.set (Nat.le_succ _) (.obj X)).trans hg5
    refine ⟨hX, ?_⟩
    refine VAnyE.op (i := 3) tabOk (by kernel_rfl) rfl rfl rfl ?_
    simp (disch := first | omega | (simp only [ds] <;> omega) | fail) only [wk, undefM, Nat.reduceLT, Nat.reduceAdd, Nat.reduceMul, Nat.reduceSub, Nat.reduceBEq, Nat.reduceEqDiff, Int.reduceToNat, reduceIte, PreK_some, putM_some, tsI2, ha5, rgM]
    refine ⟨hX, ?_⟩
    refine VAnyE.sil tabOk 4 rfl (by kernel_rfl) (by kernel_rfl) (by kernel_rfl) (by kernel_rfl) rfl rfl ?_
    simp (disch := first | omega | (simp only [ds] <;> omega) | fail) only [wk, undefM, Nat.reduceLT, Nat.reduceAdd, Nat.reduceMul, Nat.reduceSub, Nat.reduceBEq, Nat.reduceEqDiff, Int.reduceToNat, reduceIte, PreK_some, putM_some, tsI2]
    refine VAnyE.planF tabOk [] (by kernel_rfl) (by kernel_rfl) (by kernel_rfl) rfl ?_
    simp (disch := first | omega | (simp only [ds] <;> omega) | fail) only [wk, undefM, Nat.reduceLT, Nat.reduceAdd, Nat.reduceMul, Nat.reduceSub, Nat.reduceBEq, Nat.reduceEqDiff, Int.reduceToNat, reduceIte, tsI2]
    refine ⟨(false, t, []), .nil, ?_, ?_, (hge5.set (Nat.le_refl _) _).set (Nat.le_succ _) _⟩
    · cases mayR (false, t, []) <;> rfl
    · intro q hq
      cases hm : mayR (false, t, [])
      · rw [hm] at hq; cases hq
      · rw [hm] at hq; injection hq
  rw [hc] at hb
  subst hb
  have hpt : parseT t = (partsF t).bind fun L => if mayR (true, [], L) then some (true, [], L) else none := by unfold parseT; rw [hc]; rfl
  rw [hpt]
  clear hpt hc
  refine WC.sound tabOk ?_
  simp (disch := first | omega | (simp only [ds] <;> omega) | fail) only [wk, undefM, Nat.reduceLT, Nat.reduceAdd, Nat.reduceMul, Nat.reduceSub, Nat.reduceBEq, Nat.reduceEqDiff, Int.reduceToNat, reduceIte, tsI2]
  refine VC.seqV tabOk ?_
  simp (disch := first | omega | (simp only [ds] <;> omega) | fail) only [wk, undefM, Nat.reduceLT, Nat.reduceAdd, Nat.reduceMul, Nat.reduceSub, Nat.reduceBEq, Nat.reduceEqDiff, Int.reduceToNat, reduceIte, tsI2, hb3]
  have hbS := VH.set_get O3 (O.next + 1) (.cells [.v (.bool true), .str [], .sl 0 [] .nil])
  have haS := (VH.set_ne O3 (.cells [.v (.bool true), .str [], .sl 0 [] .nil]) (show O.next ≠ O.next + 1 by omega)).trans ha3
  have hgeS := hge3.set (Nat.le_succ _) (.cells [.v (.bool true), .str [], .sl 0 [] .nil])
  have hnS : (O3.set (O.next + 1) (.cells [.v (.bool true), .str [], .sl 0 [] .nil])).next = O.next + 2 := hn3
  generalize O3.set (O.next + 1) (.cells [.v (.bool true), .str [], .sl 0 [] .nil]) = O4 at *
  clear ha3 hb3 hge3
  refine VC.join tabOk [2, 4] (fun x : List Iv × Tok => [.ptr O.next 0, .ptr (O.next + 1) 0]) (fun x O' => O.Ge O' ∧ O'.hp O.next = some (.cells bndC) ∧ O'.hp (O.next + 1) = some (.cells (rgM (true, [], x.1) x.2)) ∧ O.next + 2 ≤ O'.next ∧ RgOk (true, [], x.1) ∧ partsF t = some x.1) ?_ ?_
  rotate_left
  · rintro ⟨L, tk⟩ O5 ⟨hge5, ha5, hb5, hn5, hrk, hpf⟩
    dsimp only at hb5 hrk hpf
    have hpr : ((partsF t).bind fun L => if mayR (true, [], L) then some (true, [], L) else none) = if mayR (true, [], L) then some ((true, [], L) : Rg) else none := by rw [hpf]; rfl
    rw [hpr]
    clear hpr hpf
    simp only [bndC] at ha5
    simp only [rgM] at hb5
    simp (disch := first | omega | (simp only [ds] <;> omega) | fail) only [wk, undefM, Nat.reduceLT, Nat.reduceAdd, Nat.reduceMul, Nat.reduceSub, Nat.reduceBEq, Nat.reduceEqDiff, Int.reduceToNat, reduceIte, tsI2, hb5]
    refine CallW.rt (rRgMay_v (true, [], L) tk _ hrk) (by kernel_rfl) rfl rfl ?_
    rintro _ O6 ⟨rfl, hg6⟩
    have hge6 := hge5.trans hg6
    have ha6 := (hg6.hp _ (by omega)).trans ha5
    have hb6 := (hg6.hp _ (by omega)).trans hb5
    cases hm : mayR (true, [], L)
    · simp (disch := first | omega | (simp only [ds] <;> omega) | fail) only [wk, undefM, Nat.reduceLT, Nat.reduceAdd, Nat.reduceMul, Nat.reduceSub, Nat.reduceBEq, Nat.reduceEqDiff, Int.reduceToNat, reduceIte, tsI2, ha6, hb6]
      exact ⟨(false, [], []), .nil, rfl, fun q hq => (by cases hq), hge6.set (Nat.le_refl _) _⟩
    · simp (disch := first | omega | (simp only [ds] <;> omega) | fail) only [wk, undefM, Nat.reduceLT, Nat.reduceAdd, Nat.reduceMul, Nat.reduceSub, Nat.reduceBEq, Nat.reduceEqDiff, Int.reduceToNat, reduceIte, tsI2, ha6, hb6]
      exact ⟨(true, [], L), tk, rfl, fun q hq => (by injection hq), hge6.set (Nat.le_refl _) _⟩
  refine VC.block' ?_
  replace haS : O4.hp O.next = some (.cells bndC) := haS
  refine VC.loopV [0] [2, 4] (fun x : List UInt8 × List Iv × Tok => [.str x.1]) (fun x O' => O.Ge O' ∧ O'.hp O.next = some (.cells bndC) ∧ O'.hp (O.next + 1) = some (.cells [mb true, .str [], .sl x.2.1.length (x.2.1.flatMap ivM) x.2.2]) ∧ O.next + 2 ≤ O'.next ∧ App O' (O.next + 2) 6 x.2.2 ∧ x.2.1.length + x.1.length ≤ t.length ∧ (∀ p ∈ x.2.1, p.1.2.1.length ≤ t.length ∧ p.2.2.1.length ≤ t.length) ∧ ∃ k, x.1.length < k ∧ partsF t = (restF true k x.1).map (x.2.1 ++ ·)) (fun x => x.1.length) ((t, [], .nil)) rfl rfl ?_ ?_
  · refine ⟨hgeS, haS, hbS, by omega, trivial, by simp, by simp, t.length + 1, Nat.lt_succ_self _, ?_⟩
    show partsF t = Option.map _ (restF true (t.length + 1) t)
    rw [show (([] : List Iv) ++ ·) = id from rfl, Option.map_id]; rfl
  rintro ⟨u, acc, tk⟩ O5 ⟨hge5, ha5, hb5, hn5, hap5, hsz, hacc, k, hk, hpf⟩
  dsimp only at ha5 hb5 hap5 hsz hacc hk hpf
  clear haS hbS hgeS
  have hul : u.length ≤ maxLen := by omega
  refine VC.block' ?_
  refine VC.seqV tabOk ?_
  simp (disch := first | omega | (simp only [ds] <;> omega) | fail) only [wk, undefM, Nat.reduceLT, Nat.reduceAdd, Nat.reduceMul, Nat.reduceSub, Nat.reduceBEq, Nat.reduceEqDiff, Int.reduceToNat, reduceIte, tsI2]
  refine CallW.rt (first_v u _ hul) (by kernel_rfl) rfl rfl ?_
  rintro _ OX ⟨rfl, eX⟩
  rw [eX]; clear eX OX
  simp (disch := first | omega | (simp only [ds] <;> omega) | fail) only [wk, undefM, Nat.reduceLT, Nat.reduceAdd, Nat.reduceMul, Nat.reduceSub, Nat.reduceBEq, Nat.reduceEqDiff, Int.reduceToNat, reduceIte, tsI2]
  have hiv : ivF u = _ := rfl
  conv at hiv => rhs; unfold ivF
  refine WC.join tabOk [5, 0, 2, 4] (fun _ : Unit => [byM (headB u), .str u, .ptr O.next 0, .ptr (O.next + 1) 0]) (fun _ O' => O' = O5 ∧ ([91, 40] : List UInt8).contains (headB u) = true) ?_ ?_
  · cases hcc : ([91, 40] : List UInt8).contains (headB u)
    · rw [hcc, if_neg (by simp)] at hiv
      have hpn : partsF t = none := by rw [hpf]; show Option.map _ ((ivF u).bind _) = none; rw [hiv]; rfl
      have e1 : ¬(headB u).toNat = 91 := fun e => by
        have : headB u = 91 := UInt8.toNat_inj.1 e
        rw [this] at hcc; exact absurd hcc (by decide)
      have e2 : ¬(headB u).toNat = 40 := fun e => by
        have : headB u = 40 := UInt8.toNat_inj.1 e
        rw [this] at hcc; exact absurd hcc (by decide)
      rw [hpn]
      simp only [bndC] at ha5
      simp (disch := first | omega | (simp only [ds] <;> omega) | fail) only [wk, undefM, Nat.reduceLT, Nat.reduceAdd, Nat.reduceMul, Nat.reduceSub, Nat.reduceBEq, Nat.reduceEqDiff, Int.reduceToNat, reduceIte, tsI2, byM_def, e1, e2, ha5]
      exact ⟨(false, [], []), .nil, rfl, fun q hq => (by cases hq), hge5.set (Nat.le_refl _) _⟩
    · by_cases e1 : (headB u).toNat = 91
      · simp (disch := first | omega | (simp only [ds] <;> omega) | fail) only [wk, undefM, Nat.reduceLT, Nat.reduceAdd, Nat.reduceMul, Nat.reduceSub, Nat.reduceBEq, Nat.reduceEqDiff, Int.reduceToNat, reduceIte, tsI2, byM_def, e1]
        exact JoinQ.mk () rfl rfl
      · have e2 : (headB u).toNat = 40 := by
          have h : headB u = 91 ∨ headB u = 40 := by simpa using hcc
          rcases h with h | h
          · rw [h] at e1; exact absurd rfl e1
          · rw [h]; rfl
        simp (disch := first | omega | (simp only [ds] <;> omega) | fail) only [wk, undefM, Nat.reduceLT, Nat.reduceAdd, Nat.reduceMul, Nat.reduceSub, Nat.reduceBEq, Nat.reduceEqDiff, Int.reduceToNat, reduceIte, tsI2, byM_def, e1, e2]
        exact JoinQ.mk () rfl rfl
  rintro _ Oz ⟨eO, hcc⟩
  rw [eO]; clear eO Oz
  rw [hcc, if_pos rfl] at hiv
  have hne : u ≠ [] := fun e => by rw [e] at hcc; exact absurd hcc (by decide)
  have hul1 : 1 ≤ u.length := List.length_pos_iff.2 hne
  refine VC.seqV tabOk ?_
  simp (disch := first | omega | (simp only [ds] <;> omega) | fail) only [wk, undefM, Nat.reduceLT, Nat.reduceAdd, Nat.reduceMul, Nat.reduceSub, Nat.reduceBEq, Nat.reduceEqDiff, Int.reduceToNat, reduceIte, tsI2]
  have hwl := wordB_len (u.drop 1)
  rw [List.length_drop] at hwl
  refine CallW.rt (rWord_v (u.drop 1) _ (by rw [List.length_drop]; omega)) (by kernel_rfl) rfl rfl ?_
  rintro _ OX ⟨rfl, eX⟩
  rw [eX]; clear eX OX
  generalize wordB (u.drop 1) = ws at *
  obtain ⟨lo, s2⟩ := ws
  generalize headB u = c at *
  dsimp only at hiv hwl
  simp (disch := first | omega | (simp only [ds] <;> omega) | fail) only [wk, undefM, Nat.reduceLT, Nat.reduceAdd, Nat.reduceMul, Nat.reduceSub, Nat.reduceBEq, Nat.reduceEqDiff, Int.reduceToNat, reduceIte, tsI2, wi]
  have hs2l : s2.length ≤ maxLen := by omega
  refine VC.join tabOk [0, 2, 4] (fun x : List UInt8 × Iv × Tok => [.str x.1, .ptr O.next 0, .ptr (O.next + 1) 0]) (fun x O' => O.Ge O' ∧ O'.hp O.next = some (.cells bndC) ∧ O'.hp (O.next + 1) = some (.cells [mb true, .str [], .sl (acc.length + 1) ((acc ++ [x.2.1]).flatMap ivM) x.2.2]) ∧ O.next + 2 ≤ O'.next ∧ App O' (O.next + 2) 6 x.2.2 ∧ x.1.length < u.length ∧ (x.2.1.1.2.1.length ≤ t.length ∧ x.2.1.2.2.1.length ≤ t.length) ∧ partsF t = ((tailF k x.1).map (x.2.1 :: ·)).map (acc ++ ·)) ?_ ?_
  · refine WC.join tabOk [49, 0, 2, 4, 5, 6, 7] (fun b : Bool => [mb b, .str u, .ptr O.next 0, .ptr (O.next + 1) 0, byM c, .str lo, .str s2]) (fun b O' => O' = O5 ∧ b = (headB s2 == 93 && c == 91)) ?_ ?_
    · have e91 : (c.toNat == 91) = (c == 91) := by have := byte_eq c 91; rw [← this]; rw [Bool.eq_iff_iff]; simp; omega
      have e93 : ((headB s2).toNat == 93) = (headB s2 == 93) := by have := byte_eq (headB s2) 93; rw [← this]; rw [Bool.eq_iff_iff]; simp; omega
      rw [← e91, ← e93]
      by_cases e1 : c.toNat = 91
      · simp (disch := first | omega | (simp only [ds] <;> omega) | fail) only [wk, undefM, Nat.reduceLT, Nat.reduceAdd, Nat.reduceMul, Nat.reduceSub, Nat.reduceBEq, Nat.reduceEqDiff, Int.reduceToNat, reduceIte, tsI2, byM_def, e1]
        refine CallW.rt (first_v s2 _ hs2l) (by kernel_rfl) rfl rfl ?_
        rintro _ OX ⟨rfl, eX⟩
        rw [eX]; clear eX OX
        by_cases e2 : (headB s2).toNat = 93
        · simp (disch := first | omega | (simp only [ds] <;> omega) | fail) only [wk, undefM, Nat.reduceLT, Nat.reduceAdd, Nat.reduceMul, Nat.reduceSub, Nat.reduceBEq, Nat.reduceEqDiff, Int.reduceToNat, reduceIte, tsI2, byM_def, e1, e2]
          exact JoinQ.mk true rfl ⟨rfl, by simp⟩
        · simp (disch := first | omega | (simp only [ds] <;> omega) | fail) only [wk, undefM, Nat.reduceLT, Nat.reduceAdd, Nat.reduceMul, Nat.reduceSub, Nat.reduceBEq, Nat.reduceEqDiff, Int.reduceToNat, reduceIte, tsI2, byM_def, e1, e2]
          exact JoinQ.mk false rfl ⟨rfl, by simp [e2]⟩
      · simp (disch := first | omega | (simp only [ds] <;> omega) | fail) only [wk, undefM, Nat.reduceLT, Nat.reduceAdd, Nat.reduceMul, Nat.reduceSub, Nat.reduceBEq, Nat.reduceEqDiff, Int.reduceToNat, reduceIte, tsI2, byM_def, e1]
        exact JoinQ.mk false rfl ⟨rfl, by simp [e1]⟩
    rintro b Oz ⟨eO, hb⟩
    rw [eO]; clear eO Oz
    cases hA : headB s2 == 93 && c == 91
    · rw [hA] at hb hiv
      subst hb
      refine WC.sound tabOk ?_
      simp (disch := first | omega | (simp only [ds] <;> omega) | fail) only [wk, undefM, Nat.reduceLT, Nat.reduceAdd, Nat.reduceMul, Nat.reduceSub, Nat.reduceBEq, Nat.reduceEqDiff, Int.reduceToNat, reduceIte, tsI2]
      rw [if_neg (by simp)] at hiv
      have hcb : ((c.toNat : Int) == 91) = (c == 91) := byte_eq c 91
      refine CallW.rt (first_v s2 _ hs2l) (by kernel_rfl) rfl rfl ?_
      rintro _ OX ⟨rfl, eX⟩
      rw [eX]; clear eX OX
      simp only [bndC] at ha5
      cases h44 : ([44] : List UInt8).contains (headB s2)
      · rw [h44, if_neg (by simp)] at hiv
        have hpn : partsF t = none := by rw [hpf]; show Option.map _ ((ivF u).bind _) = none; rw [hiv]; rfl
        have e1 : ¬(headB s2).toNat = 44 := fun e => by
          have : headB s2 = 44 := UInt8.toNat_inj.1 e
          rw [this] at h44; exact absurd h44 (by decide)
        rw [hpn]
        simp (disch := first | omega | (simp only [ds] <;> omega) | fail) only [wk, undefM, Nat.reduceLT, Nat.reduceAdd, Nat.reduceMul, Nat.reduceSub, Nat.reduceBEq, Nat.reduceEqDiff, Int.reduceToNat, reduceIte, tsI2, byM_def, e1, ha5]
        exact ⟨(false, [], []), .nil, rfl, fun q hq => (by cases hq), hge5.set (Nat.le_refl _) _⟩
      rw [h44, if_pos rfl] at hiv
      have e44 : (headB s2).toNat = 44 := by
        have : headB s2 = 44 := by simpa using h44
        rw [this]; rfl
      have hne2 : s2 ≠ [] := fun e => by rw [e] at h44; exact absurd h44 (by decide)
      have hs21 : 1 ≤ s2.length := List.length_pos_iff.2 hne2
      simp (disch := first | omega | (simp only [ds] <;> omega) | fail) only [wk, undefM, Nat.reduceLT, Nat.reduceAdd, Nat.reduceMul, Nat.reduceSub, Nat.reduceBEq, Nat.reduceEqDiff, Int.reduceToNat, reduceIte, tsI2, byM_def, e44]
      have hwl2 := wordB_len (s2.drop 1)
      rw [List.length_drop] at hwl2
      refine CallW.rt (rWord_v (s2.drop 1) _ (by rw [List.length_drop]; omega)) (by kernel_rfl) rfl rfl ?_
      rintro _ OX ⟨rfl, eX⟩
      rw [eX]; clear eX OX
      generalize wordB (s2.drop 1) = ws at *
      obtain ⟨hi, s3⟩ := ws
      dsimp only at hiv hwl2
      simp (disch := first | omega | (simp only [ds] <;> omega) | fail) only [wk, undefM, Nat.reduceLT, Nat.reduceAdd, Nat.reduceMul, Nat.reduceSub, Nat.reduceBEq, Nat.reduceEqDiff, Int.reduceToNat, reduceIte, tsI2, wi]
      refine CallW.rt (first_v s3 _ (by omega)) (by kernel_rfl) rfl rfl ?_
      rintro _ OX ⟨rfl, eX⟩
      rw [eX]; clear eX OX
      cases hdd : ([93, 41] : List UInt8).contains (headB s3)
      · rw [hdd, if_neg (by simp)] at hiv
        have hpn : partsF t = none := by rw [hpf]; show Option.map _ ((ivF u).bind _) = none; rw [hiv]; rfl
        have e1 : ¬(headB s3).toNat = 93 := fun e => by
          have : headB s3 = 93 := UInt8.toNat_inj.1 e
          rw [this] at hdd; exact absurd hdd (by decide)
        have e2 : ¬(headB s3).toNat = 41 := fun e => by
          have : headB s3 = 41 := UInt8.toNat_inj.1 e
          rw [this] at hdd; exact absurd hdd (by decide)
        rw [hpn]
        simp (disch := first | omega | (simp only [ds] <;> omega) | fail) only [wk, undefM, Nat.reduceLT, Nat.reduceAdd, Nat.reduceMul, Nat.reduceSub, Nat.reduceBEq, Nat.reduceEqDiff, Int.reduceToNat, reduceIte, tsI2, byM_def, e1, e2, ha5]
        exact ⟨(false, [], []), .nil, rfl, fun q hq => (by cases hq), hge5.set (Nat.le_refl _) _⟩
      rw [hdd, if_pos rfl] at hiv
      have hne3 : s3 ≠ [] := fun e => by rw [e] at hdd; exact absurd hdd (by decide)
      have hs31 : 1 ≤ s3.length := List.length_pos_iff.2 hne3
      have hdl := dw_len isB (s3.drop 1)
      have hel : ∀ v b, (endF v b).2.1.length ≤ v.length := fun v b => by unfold endF; split <;> simp
      have hv1 := hel lo (c == 91)
      have hv3 := hel hi (headB s3 == 93)
      have q1 := rEnd_v lo (c == 91)
      have q3 := rEnd_v hi (headB s3 == 93)
      replace ha5 : O5.hp O.next = some (.cells bndC) := ha5
      have hd2 : headB s3 = 93 ∨ headB s3 = 41 := by simpa using hdd
      rcases hd2 with hd2 | hd2
      · have e1 : (headB s3).toNat = 93 := by rw [hd2]; rfl
        rw [show (headB s3 == 93) = true by rw [hd2]; rfl] at hiv hv3 q3
        generalize endF lo (c == 91) = E1 at *
        generalize endF hi true = E3 at *
        obtain ⟨h1, v1, c1⟩ := E1
        obtain ⟨h3, v3, c3⟩ := E3
        simp (disch := first | omega | (simp only [ds] <;> omega) | fail) only [wk, undefM, Nat.reduceLT, Nat.reduceAdd, Nat.reduceMul, Nat.reduceSub, Nat.reduceBEq, Nat.reduceEqDiff, Int.reduceToNat, reduceIte, tsI2, byM_def, e1]
        refine VC.drawF [13, 14] (O.next + 1) (hb5) (by kernel_rfl) ?_
        intro X
        refine VAnyE.sil tabOk 0 rfl (by kernel_rfl) (by kernel_rfl) (by kernel_rfl) (by kernel_rfl) rfl rfl ?_
        simp (disch := first | omega | (simp only [ds] <;> omega) | fail) only [wk, undefM, Nat.reduceLT, Nat.reduceAdd, Nat.reduceMul, Nat.reduceSub, Nat.reduceBEq, Nat.reduceEqDiff, Int.reduceToNat, reduceIte, PreK_some, putM_some, tsI2]
        refine VAnyE.ldF (m := .sl acc.length (acc.flatMap ivM) tk) tabOk 1 rfl (by kernel_rfl) (by kernel_rfl) (by kernel_rfl) (by kernel_rfl) rfl rfl rfl ?_ ?_
        · simp (disch := first | omega | (simp only [ds] <;> omega) | fail) only [wk, undefM, Nat.reduceLT, Nat.reduceAdd, Nat.reduceMul, Nat.reduceSub, Nat.reduceBEq, Nat.reduceEqDiff, Int.reduceToNat, reduceIte, tsI2]
        simp only [putM_some]
        refine VAnyE.sil tabOk 2 rfl (by kernel_rfl) (by kernel_rfl) (by kernel_rfl) (by kernel_rfl) rfl rfl ?_
        simp (disch := first | omega | (simp only [ds] <;> omega) | fail) only [wk, undefM, Nat.reduceLT, Nat.reduceAdd, Nat.reduceMul, Nat.reduceSub, Nat.reduceBEq, Nat.reduceEqDiff, Int.reduceToNat, reduceIte, PreK_some, putM_some, tsI2]
        refine VAnyE.sil tabOk 3 rfl (by kernel_rfl) (by kernel_rfl) (by kernel_rfl) (by kernel_rfl) rfl rfl ?_
        simp (disch := first | omega | (simp only [ds] <;> omega) | fail) only [wk, undefM, Nat.reduceLT, Nat.reduceAdd, Nat.reduceMul, Nat.reduceSub, Nat.reduceBEq, Nat.reduceEqDiff, Int.reduceToNat, reduceIte, PreK_some, putM_some, tsI2]
        refine VAnyE.sil tabOk 4 rfl (by kernel_rfl) (by kernel_rfl) (by kernel_rfl) (by kernel_rfl) rfl rfl ?_
        simp (disch := first | omega | (simp only [ds] <;> omega) | fail) only [wk, undefM, Nat.reduceLT, Nat.reduceAdd, Nat.reduceMul, Nat.reduceSub, Nat.reduceBEq, Nat.reduceEqDiff, Int.reduceToNat, reduceIte, PreK_some, putM_some, tsI2, byM_def, hcb, Int.reduceBEq]
        refine VAnyE.sil tabOk 6 rfl (by kernel_rfl) (by kernel_rfl) (by kernel_rfl) (by kernel_rfl) rfl rfl ?_
        simp (disch := first | omega | (simp only [ds] <;> omega) | fail) only [wk, undefM, Nat.reduceLT, Nat.reduceAdd, Nat.reduceMul, Nat.reduceSub, Nat.reduceBEq, Nat.reduceEqDiff, Int.reduceToNat, reduceIte, PreK_some, putM_some, tsI2]
        refine VAnyE.sil tabOk 7 rfl (by kernel_rfl) (by kernel_rfl) (by kernel_rfl) (by kernel_rfl) rfl rfl ?_
        simp (disch := first | omega | (simp only [ds] <;> omega) | fail) only [wk, undefM, Nat.reduceLT, Nat.reduceAdd, Nat.reduceMul, Nat.reduceSub, Nat.reduceBEq, Nat.reduceEqDiff, Int.reduceToNat, reduceIte, PreK_some, putM_some, tsI2]
        refine VAnyE.sil tabOk 8 rfl (by kernel_rfl) (by kernel_rfl) (by kernel_rfl) (by kernel_rfl) rfl rfl ?_
        simp (disch := first | omega | (simp only [ds] <;> omega) | fail) only [wk, undefM, Nat.reduceLT, Nat.reduceAdd, Nat.reduceMul, Nat.reduceSub, Nat.reduceBEq, Nat.reduceEqDiff, Int.reduceToNat, reduceIte, PreK_some, putM_some, tsI2, byM_def, Int.reduceBEq]
        refine VAnyE.call (i := 5) (by kernel_rfl) rfl rfl rfl rfl (by kernel_rfl) rfl (q1 _) ?_
        rintro _ O6 ⟨rfl, hg6⟩
        simp only [putM_some]
        refine ⟨(hg6.hp _ (by rw [VH.next_set]; omega)).trans (VH.set_get _ _ _), ?_⟩
        refine VAnyE.call (i := 9) (by kernel_rfl) rfl rfl rfl rfl (by kernel_rfl) rfl (q3 _) ?_
        rintro _ O7 ⟨rfl, hg7⟩
        simp only [putM_some]
        have hg57 := hg6.trans hg7
        refine ⟨(hg57.hp _ (by rw [VH.next_set]; omega)).trans (VH.set_get _ _ _), ?_⟩
        have hX7 := (hg57.hp _ (by rw [VH.next_set]; omega)).trans (VH.set_get _ _ _)
        have ha7 := (hg57.hp _ (by rw [VH.next_set]; omega)).trans ((VH.set_ne _ _ (by omega)).trans ha5)
        have hge7 := (hge5.set (Nat.le_succ _) (.obj X)).trans hg57
        have hnx := hg57.next
        simp only [VH.next_set] at hnx
        have hap7 : App O7 (O.next + 2) 6 tk := hap5.keep hnx (fun i h1 h2 => (hg57.hp i h2).trans (VH.set_ne _ _ (by omega)))
        refine VAnyE.sil tabOk 10 rfl (by kernel_rfl) (by kernel_rfl) (by kernel_rfl) (by kernel_rfl) rfl rfl ?_
        simp (disch := first | omega | (simp only [ds] <;> omega) | fail) only [wk, undefM, Nat.reduceLT, Nat.reduceAdd, Nat.reduceMul, Nat.reduceSub, Nat.reduceBEq, Nat.reduceEqDiff, Int.reduceToNat, reduceIte, PreK_some, putM_some, tsI2, enM]
        refine VAnyE.op (i := 11) tabOk (by kernel_rfl) rfl rfl rfl ?_
        simp (disch := first | omega | (simp only [ds] <;> omega) | fail) only [wk, undefM, Nat.reduceLT, Nat.reduceAdd, Nat.reduceMul, Nat.reduceSub, Nat.reduceBEq, Nat.reduceEqDiff, Int.reduceToNat, reduceIte, PreK_some, putM_some, tsI2, enM]
        refine ⟨hX7, ?_⟩
        have hvap := vappend_app (tk' := .full) (n := acc.length) (k := 1) (cs := acc.flatMap ivM) (ds := [.v (.bool h1), .str v1, .v (.bool c1), .v (.bool h3), .str v3, .v (.bool c3)]) ty23 ty57 hap7 (iv_len acc) rfl rfl (by decide) (by decide) (by omega) (by simp [maxLen]; omega)
        have hst : (acc ++ [((h1, v1, c1), (h3, v3, c3))]).flatMap ivM = acc.flatMap ivM ++ [.v (.bool h1), .str v1, .v (.bool c1), .v (.bool h3), .str v3, .v (.bool c3)] := by simp [ivM, enM, mb_def]
        rw [← hst] at hvap
        refine VAnyE.op (i := 12) tabOk (by kernel_rfl) rfl rfl rfl ?_
        simp (disch := first | omega | (simp only [ds] <;> omega) | fail) only [wk, undefM, Nat.reduceLT, Nat.reduceAdd, Nat.reduceMul, Nat.reduceSub, Nat.reduceBEq, Nat.reduceEqDiff, Int.reduceToNat, reduceIte, PreK_some, putM_some, tsI2, vop_append, hvap]
        have hX9 := VH.after_hp hap7 hX7 (by simp) (by omega)
        have ha9 := VH.after_hp hap7 ha7 (by simp) (by omega)
        have hge9 := hge7.after hap7 (by omega)
        have hap9 : App (O7.after tk) (O.next + 2) 6 (.own O7.next 6) := App.after (by omega)
        have hn9 : O.next + 2 ≤ (O7.after tk).next := by rw [VH.after_next]; omega
        generalize O7.after tk = O9 at *
        refine ⟨hX9, ?_⟩
        refine VAnyE.planF tabOk [(13, .sil), (14, .one)] (by kernel_rfl) (by kernel_rfl) (by kernel_rfl) rfl ?_
        simp (disch := first | omega | (simp only [ds] <;> omega) | fail) only [wk, undefM, Nat.reduceLT, Nat.reduceAdd, Nat.reduceMul, Nat.reduceSub, Nat.reduceBEq, Nat.reduceEqDiff, Int.reduceToNat, reduceIte, tsI2]
        refine CallW.rt (skip_v (s3.drop 1) _ (by rw [List.length_drop]; omega)) (by kernel_rfl) rfl rfl ?_
        rintro _ OX ⟨rfl, eX⟩
        rw [eX]; clear eX OX
        simp (disch := first | omega | (simp only [ds] <;> omega) | fail) only [wk, undefM, Nat.reduceLT, Nat.reduceAdd, Nat.reduceMul, Nat.reduceSub, Nat.reduceBEq, Nat.reduceEqDiff, Int.reduceToNat, reduceIte, tsI2]
        refine JoinQ.mk (((s3.drop 1)).dropWhile isB, ((h1, v1, c1), (h3, v3, c3)), .own O7.next 6) rfl ⟨(hge9.set (Nat.le_succ _) _).set (Nat.le_succ _) _, (VH.set_ne _ _ (by omega)).trans ((VH.set_ne _ _ (by omega)).trans ha9), VH.set_get _ _ _, hn9, hap9.keep (Nat.le_refl _) (fun i h1 _ => (VH.set_ne _ _ (by omega)).trans (VH.set_ne _ _ (by omega))), ?_, ?_, ?_⟩
        · dsimp only; rw [List.length_drop] at hdl; omega
        · dsimp only at hv1 hv3 ⊢; exact ⟨by omega, by omega⟩
        · rw [hpf]
          show Option.map _ ((ivF u).bind _) = _
          rw [hiv]
          rfl
      · have e1 : (headB s3).toNat = 41 := by rw [hd2]; rfl
        rw [show (headB s3 == 93) = false by rw [hd2]; rfl] at hiv hv3 q3
        generalize endF lo (c == 91) = E1 at *
        generalize endF hi false = E3 at *
        obtain ⟨h1, v1, c1⟩ := E1
        obtain ⟨h3, v3, c3⟩ := E3
        simp (disch := first | omega | (simp only [ds] <;> omega) | fail) only [wk, undefM, Nat.reduceLT, Nat.reduceAdd, Nat.reduceMul, Nat.reduceSub, Nat.reduceBEq, Nat.reduceEqDiff, Int.reduceToNat, reduceIte, tsI2, byM_def, e1]
        refine VC.drawF [13, 14] (O.next + 1) (hb5) (by kernel_rfl) ?_
        intro X
        refine VAnyE.sil tabOk 0 rfl (by kernel_rfl) (by kernel_rfl) (by kernel_rfl) (by kernel_rfl) rfl rfl ?_
        simp (disch := first | omega | (simp only [ds] <;> omega) | fail) only [wk, undefM, Nat.reduceLT, Nat.reduceAdd, Nat.reduceMul, Nat.reduceSub, Nat.reduceBEq, Nat.reduceEqDiff, Int.reduceToNat, reduceIte, PreK_some, putM_some, tsI2]
        refine VAnyE.ldF (m := .sl acc.length (acc.flatMap ivM) tk) tabOk 1 rfl (by kernel_rfl) (by kernel_rfl) (by kernel_rfl) (by kernel_rfl) rfl rfl rfl ?_ ?_
        · simp (disch := first | omega | (simp only [ds] <;> omega) | fail) only [wk, undefM, Nat.reduceLT, Nat.reduceAdd, Nat.reduceMul, Nat.reduceSub, Nat.reduceBEq, Nat.reduceEqDiff, Int.reduceToNat, reduceIte, tsI2]
        simp only [putM_some]
        refine VAnyE.sil tabOk 2 rfl (by kernel_rfl) (by kernel_rfl) (by kernel_rfl) (by kernel_rfl) rfl rfl ?_
        simp (disch := first | omega | (simp only [ds] <;> omega) | fail) only [wk, undefM, Nat.reduceLT, Nat.reduceAdd, Nat.reduceMul, Nat.reduceSub, Nat.reduceBEq, Nat.reduceEqDiff, Int.reduceToNat, reduceIte, PreK_some, putM_some, tsI2]
        refine VAnyE.sil tabOk 3 rfl (by kernel_rfl) (by kernel_rfl) (by kernel_rfl) (by kernel_rfl) rfl rfl ?_
        simp (disch := first | omega | (simp only [ds] <;> omega) | fail) only [wk, undefM, Nat.reduceLT, Nat.reduceAdd, Nat.reduceMul, Nat.reduceSub, Nat.reduceBEq, Nat.reduceEqDiff, Int.reduceToNat, reduceIte, PreK_some, putM_some, tsI2]
        refine VAnyE.sil tabOk 4 rfl (by kernel_rfl) (by kernel_rfl) (by kernel_rfl) (by kernel_rfl) rfl rfl ?_
        simp (disch := first | omega | (simp only [ds] <;> omega) | fail) only [wk, undefM, Nat.reduceLT, Nat.reduceAdd, Nat.reduceMul, Nat.reduceSub, Nat.reduceBEq, Nat.reduceEqDiff, Int.reduceToNat, reduceIte, PreK_some, putM_some, tsI2, byM_def, hcb, Int.reduceBEq]
        refine VAnyE.sil tabOk 6 rfl (by kernel_rfl) (by kernel_rfl) (by kernel_rfl) (by kernel_rfl) rfl rfl ?_
        simp (disch := first | omega | (simp only [ds] <;> omega) | fail) only [wk, undefM, Nat.reduceLT, Nat.reduceAdd, Nat.reduceMul, Nat.reduceSub, Nat.reduceBEq, Nat.reduceEqDiff, Int.reduceToNat, reduceIte, PreK_some, putM_some, tsI2]
        refine VAnyE.sil tabOk 7 rfl (by kernel_rfl) (by kernel_rfl) (by kernel_rfl) (by kernel_rfl) rfl rfl ?_
        simp (disch := first | omega | (simp only [ds] <;> omega) | fail) only [wk, undefM, Nat.reduceLT, Nat.reduceAdd, Nat.reduceMul, Nat.reduceSub, Nat.reduceBEq, Nat.reduceEqDiff, Int.reduceToNat, reduceIte, PreK_some, putM_some, tsI2]
        refine VAnyE.sil tabOk 8 rfl (by kernel_rfl) (by kernel_rfl) (by kernel_rfl) (by kernel_rfl) rfl rfl ?_
        simp (disch := first | omega | (simp only [ds] <;> omega) | fail) only [wk, undefM, Nat.reduceLT, Nat.reduceAdd, Nat.reduceMul, Nat.reduceSub, Nat.reduceBEq, Nat.reduceEqDiff, Int.reduceToNat, reduceIte, PreK_some, putM_some, tsI2, byM_def, Int.reduceBEq]
        refine VAnyE.call (i := 5) (by kernel_rfl) rfl rfl rfl rfl (by kernel_rfl) rfl (q1 _) ?_
        rintro _ O6 ⟨rfl, hg6⟩
        simp only [putM_some]
        refine ⟨(hg6.hp _ (by rw [VH.next_set]; omega)).trans (VH.set_get _ _ _), ?_⟩
        refine VAnyE.call (i := 9) (by kernel_rfl) rfl rfl rfl rfl (by kernel_rfl) rfl (q3 _) ?_
        rintro _ O7 ⟨rfl, hg7⟩
        simp only [putM_some]
        have hg57 := hg6.trans hg7
        refine ⟨(hg57.hp _ (by rw [VH.next_set]; omega)).trans (VH.set_get _ _ _), ?_⟩
        have hX7 := (hg57.hp _ (by rw [VH.next_set]; omega)).trans (VH.set_get _ _ _)
        have ha7 := (hg57.hp _ (by rw [VH.next_set]; omega)).trans ((VH.set_ne _ _ (by omega)).trans ha5)
        have hge7 := (hge5.set (Nat.le_succ _) (.obj X)).trans hg57
        have hnx := hg57.next
        simp only [VH.next_set] at hnx
        have hap7 : App O7 (O.next + 2) 6 tk := hap5.keep hnx (fun i h1 h2 => (hg57.hp i h2).trans (VH.set_ne _ _ (by omega)))
        refine VAnyE.sil tabOk 10 rfl (by kernel_rfl) (by kernel_rfl) (by kernel_rfl) (by kernel_rfl) rfl rfl ?_
        simp (disch := first | omega | (simp only [ds] <;> omega) | fail) only [wk, undefM, Nat.reduceLT, Nat.reduceAdd, Nat.reduceMul, Nat.reduceSub, Nat.reduceBEq, Nat.reduceEqDiff, Int.reduceToNat, reduceIte, PreK_some, putM_some, tsI2, enM]
        refine VAnyE.op (i := 11) tabOk (by kernel_rfl) rfl rfl rfl ?_
        simp (disch := first | omega | (simp only [ds] <;> omega) | fail) only [wk, undefM, Nat.reduceLT, Nat.reduceAdd, Nat.reduceMul, Nat.reduceSub, Nat.reduceBEq, Nat.reduceEqDiff, Int.reduceToNat, reduceIte, PreK_some, putM_some, tsI2, enM]
        refine ⟨hX7, ?_⟩
        have hvap := vappend_app (tk' := .full) (n := acc.length) (k := 1) (cs := acc.flatMap ivM) (ds := [.v (.bool h1), .str v1, .v (.bool c1), .v (.bool h3), .str v3, .v (.bool c3)]) ty23 ty57 hap7 (iv_len acc) rfl rfl (by decide) (by decide) (by omega) (by simp [maxLen]; omega)
        have hst : (acc ++ [((h1, v1, c1), (h3, v3, c3))]).flatMap ivM = acc.flatMap ivM ++ [.v (.bool h1), .str v1, .v (.bool c1), .v (.bool h3), .str v3, .v (.bool c3)] := by simp [ivM, enM, mb_def]
        rw [← hst] at hvap
        refine VAnyE.op (i := 12) tabOk (by kernel_rfl) rfl rfl rfl ?_
        simp (disch := first | omega | (simp only [ds] <;> omega) | fail) only [wk, undefM, Nat.reduceLT, Nat.reduceAdd, Nat.reduceMul, Nat.reduceSub, Nat.reduceBEq, Nat.reduceEqDiff, Int.reduceToNat, reduceIte, PreK_some, putM_some, tsI2, vop_append, hvap]
        have hX9 := VH.after_hp hap7 hX7 (by simp) (by omega)
        have ha9 := VH.after_hp hap7 ha7 (by simp) (by omega)
        have hge9 := hge7.after hap7 (by omega)
        have hap9 : App (O7.after tk) (O.next + 2) 6 (.own O7.next 6) := App.after (by omega)
        have hn9 : O.next + 2 ≤ (O7.after tk).next := by rw [VH.after_next]; omega
        generalize O7.after tk = O9 at *
        refine ⟨hX9, ?_⟩
        refine VAnyE.planF tabOk [(13, .sil), (14, .one)] (by kernel_rfl) (by kernel_rfl) (by kernel_rfl) rfl ?_
        simp (disch := first | omega | (simp only [ds] <;> omega) | fail) only [wk, undefM, Nat.reduceLT, Nat.reduceAdd, Nat.reduceMul, Nat.reduceSub, Nat.reduceBEq, Nat.reduceEqDiff, Int.reduceToNat, reduceIte, tsI2]
        refine CallW.rt (skip_v (s3.drop 1) _ (by rw [List.length_drop]; omega)) (by kernel_rfl) rfl rfl ?_
        rintro _ OX ⟨rfl, eX⟩
        rw [eX]; clear eX OX
        simp (disch := first | omega | (simp only [ds] <;> omega) | fail) only [wk, undefM, Nat.reduceLT, Nat.reduceAdd, Nat.reduceMul, Nat.reduceSub, Nat.reduceBEq, Nat.reduceEqDiff, Int.reduceToNat, reduceIte, tsI2]
        refine JoinQ.mk (((s3.drop 1)).dropWhile isB, ((h1, v1, c1), (h3, v3, c3)), .own O7.next 6) rfl ⟨(hge9.set (Nat.le_succ _) _).set (Nat.le_succ _) _, (VH.set_ne _ _ (by omega)).trans ((VH.set_ne _ _ (by omega)).trans ha9), VH.set_get _ _ _, hn9, hap9.keep (Nat.le_refl _) (fun i h1 _ => (VH.set_ne _ _ (by omega)).trans (VH.set_ne _ _ (by omega))), ?_, ?_, ?_⟩
        · dsimp only; rw [List.length_drop] at hdl; omega
        · dsimp only at hv1 hv3 ⊢; exact ⟨by omega, by omega⟩
        · rw [hpf]
          show Option.map _ ((ivF u).bind _) = _
          rw [hiv]
          rfl
    · rw [hA] at hb hiv
      subst hb
      refine WC.sound tabOk ?_
      simp (disch := first | omega | (simp only [ds] <;> omega) | fail) only [wk, undefM, Nat.reduceLT, Nat.reduceAdd, Nat.reduceMul, Nat.reduceSub, Nat.reduceBEq, Nat.reduceEqDiff, Int.reduceToNat, reduceIte, tsI2]
      cases hl : lo == []
      · have hlo : endF lo true = (true, lo, true) := by unfold endF; rw [hl]; rfl
        rw [if_pos rfl, ← hlo] at hiv
        have hne2 : s2 ≠ [] := fun e => by rw [e] at hA; exact absurd hA (by cases (c == 91) <;> decide)
        have hs21 : 1 ≤ s2.length := List.length_pos_iff.2 hne2
        have hdl := dw_len isB (s2.drop 1)
        have hv1 : (endF lo true).2.1.length ≤ t.length := by rw [hlo]; show lo.length ≤ t.length; omega
        obtain ⟨e1, he1⟩ : ∃ e, e = endF lo true := ⟨_, rfl⟩
        obtain ⟨e3, he3⟩ : ∃ e, e = endF lo true := ⟨_, rfl⟩
        have q1 : ∀ O, VF Tryd.prog 33 [.str lo, mb true] O (Ret fun m O' => m = .agg (enM e1) ∧ O.Ge O') := fun O => he1 ▸ rEnd_v lo true O
        have q3 : ∀ O, VF Tryd.prog 33 [.str lo, mb true] O (Ret fun m O' => m = .agg (enM e3) ∧ O.Ge O') := fun O => he3 ▸ rEnd_v lo true O
        have hiv' : ivF u = some ((e1, e3), s2.drop 1) := by rw [hiv, he1, he3]
        have hv3 : e3.2.1.length ≤ t.length := he3 ▸ hv1
        rw [← he1] at hv1
        clear hlo he1 he3 hiv
        obtain ⟨h1, v1, c1⟩ := e1
        obtain ⟨h3, v3, c3⟩ := e3
        simp (disch := first | omega | (simp only [ds] <;> omega) | fail) only [wk, undefM, Nat.reduceLT, Nat.reduceAdd, Nat.reduceMul, Nat.reduceSub, Nat.reduceBEq, Nat.reduceEqDiff, Int.reduceToNat, reduceIte, tsI2, hl]
        refine VC.drawF [9, 10] (O.next + 1) (hb5) (by kernel_rfl) ?_
        intro X
        refine VAnyE.sil tabOk 0 rfl (by kernel_rfl) (by kernel_rfl) (by kernel_rfl) (by kernel_rfl) rfl rfl ?_
        simp (disch := first | omega | (simp only [ds] <;> omega) | fail) only [wk, undefM, Nat.reduceLT, Nat.reduceAdd, Nat.reduceMul, Nat.reduceSub, Nat.reduceBEq, Nat.reduceEqDiff, Int.reduceToNat, reduceIte, PreK_some, putM_some, tsI2]
        refine VAnyE.ldF (m := .sl acc.length (acc.flatMap ivM) tk) tabOk 1 rfl (by kernel_rfl) (by kernel_rfl) (by kernel_rfl) (by kernel_rfl) rfl rfl rfl ?_ ?_
        · simp (disch := first | omega | (simp only [ds] <;> omega) | fail) only [wk, undefM, Nat.reduceLT, Nat.reduceAdd, Nat.reduceMul, Nat.reduceSub, Nat.reduceBEq, Nat.reduceEqDiff, Int.reduceToNat, reduceIte, tsI2]
        simp only [putM_some]
        refine VAnyE.sil tabOk 2 rfl (by kernel_rfl) (by kernel_rfl) (by kernel_rfl) (by kernel_rfl) rfl rfl ?_
        simp (disch := first | omega | (simp only [ds] <;> omega) | fail) only [wk, undefM, Nat.reduceLT, Nat.reduceAdd, Nat.reduceMul, Nat.reduceSub, Nat.reduceBEq, Nat.reduceEqDiff, Int.reduceToNat, reduceIte, PreK_some, putM_some, tsI2]
        refine VAnyE.sil tabOk 4 rfl (by kernel_rfl) (by kernel_rfl) (by kernel_rfl) (by kernel_rfl) rfl rfl ?_
        simp (disch := first | omega | (simp only [ds] <;> omega) | fail) only [wk, undefM, Nat.reduceLT, Nat.reduceAdd, Nat.reduceMul, Nat.reduceSub, Nat.reduceBEq, Nat.reduceEqDiff, Int.reduceToNat, reduceIte, PreK_some, putM_some, tsI2]
        refine VAnyE.call (i := 3) (by kernel_rfl) rfl rfl rfl rfl (by kernel_rfl) rfl (q1 _) ?_
        rintro _ O6 ⟨rfl, hg6⟩
        simp only [putM_some]
        refine ⟨(hg6.hp _ (by rw [VH.next_set]; omega)).trans (VH.set_get _ _ _), ?_⟩
        refine VAnyE.call (i := 5) (by kernel_rfl) rfl rfl rfl rfl (by kernel_rfl) rfl (q3 _) ?_
        rintro _ O7 ⟨rfl, hg7⟩
        simp only [putM_some]
        have hg57 := hg6.trans hg7
        refine ⟨(hg57.hp _ (by rw [VH.next_set]; omega)).trans (VH.set_get _ _ _), ?_⟩
        have hX7 := (hg57.hp _ (by rw [VH.next_set]; omega)).trans (VH.set_get _ _ _)
        have ha7 := (hg57.hp _ (by rw [VH.next_set]; omega)).trans ((VH.set_ne _ _ (by omega)).trans ha5)
        have hge7 := (hge5.set (Nat.le_succ _) (.obj X)).trans hg57
        have hnx := hg57.next
        simp only [VH.next_set] at hnx
        have hap7 : App O7 (O.next + 2) 6 tk := hap5.keep hnx (fun i h1 h2 => (hg57.hp i h2).trans (VH.set_ne _ _ (by omega)))
        refine VAnyE.sil tabOk 6 rfl (by kernel_rfl) (by kernel_rfl) (by kernel_rfl) (by kernel_rfl) rfl rfl ?_
        simp (disch := first | omega | (simp only [ds] <;> omega) | fail) only [wk, undefM, Nat.reduceLT, Nat.reduceAdd, Nat.reduceMul, Nat.reduceSub, Nat.reduceBEq, Nat.reduceEqDiff, Int.reduceToNat, reduceIte, PreK_some, putM_some, tsI2, enM]
        refine VAnyE.op (i := 7) tabOk (by kernel_rfl) rfl rfl rfl ?_
        simp (disch := first | omega | (simp only [ds] <;> omega) | fail) only [wk, undefM, Nat.reduceLT, Nat.reduceAdd, Nat.reduceMul, Nat.reduceSub, Nat.reduceBEq, Nat.reduceEqDiff, Int.reduceToNat, reduceIte, PreK_some, putM_some, tsI2, enM]
        refine ⟨hX7, ?_⟩
        have hvap := vappend_app (tk' := .full) (n := acc.length) (k := 1) (cs := acc.flatMap ivM) (ds := [.v (.bool h1), .str v1, .v (.bool c1), .v (.bool h3), .str v3, .v (.bool c3)]) ty23 ty57 hap7 (iv_len acc) rfl rfl (by decide) (by decide) (by omega) (by simp [maxLen]; omega)
        have hst : (acc ++ [((h1, v1, c1), (h3, v3, c3))]).flatMap ivM = acc.flatMap ivM ++ [.v (.bool h1), .str v1, .v (.bool c1), .v (.bool h3), .str v3, .v (.bool c3)] := by simp [ivM, enM, mb_def]
        rw [← hst] at hvap
        refine VAnyE.op (i := 8) tabOk (by kernel_rfl) rfl rfl rfl ?_
        simp (disch := first | omega | (simp only [ds] <;> omega) | fail) only [wk, undefM, Nat.reduceLT, Nat.reduceAdd, Nat.reduceMul, Nat.reduceSub, Nat.reduceBEq, Nat.reduceEqDiff, Int.reduceToNat, reduceIte, PreK_some, putM_some, tsI2, vop_append, hvap]
        have hX9 := VH.after_hp hap7 hX7 (by simp) (by omega)
        have ha9 := VH.after_hp hap7 ha7 (by simp) (by omega)
        have hge9 := hge7.after hap7 (by omega)
        have hap9 : App (O7.after tk) (O.next + 2) 6 (.own O7.next 6) := App.after (by omega)
        have hn9 : O.next + 2 ≤ (O7.after tk).next := by rw [VH.after_next]; omega
        generalize O7.after tk = O9 at *
        refine ⟨hX9, ?_⟩
        refine VAnyE.planF tabOk [(9, .sil), (10, .one)] (by kernel_rfl) (by kernel_rfl) (by kernel_rfl) rfl ?_
        simp (disch := first | omega | (simp only [ds] <;> omega) | fail) only [wk, undefM, Nat.reduceLT, Nat.reduceAdd, Nat.reduceMul, Nat.reduceSub, Nat.reduceBEq, Nat.reduceEqDiff, Int.reduceToNat, reduceIte, tsI2]
        refine CallW.rt (skip_v (s2.drop 1) _ (by rw [List.length_drop]; omega)) (by kernel_rfl) rfl rfl ?_
        rintro _ OX ⟨rfl, eX⟩
        rw [eX]; clear eX OX
        simp (disch := first | omega | (simp only [ds] <;> omega) | fail) only [wk, undefM, Nat.reduceLT, Nat.reduceAdd, Nat.reduceMul, Nat.reduceSub, Nat.reduceBEq, Nat.reduceEqDiff, Int.reduceToNat, reduceIte, tsI2]
        refine JoinQ.mk (((s2.drop 1)).dropWhile isB, ((h1, v1, c1), (h3, v3, c3)), .own O7.next 6) rfl ⟨(hge9.set (Nat.le_succ _) _).set (Nat.le_succ _) _, (VH.set_ne _ _ (by omega)).trans ((VH.set_ne _ _ (by omega)).trans ha9), VH.set_get _ _ _, hn9, hap9.keep (Nat.le_refl _) (fun i h1 _ => (VH.set_ne _ _ (by omega)).trans (VH.set_ne _ _ (by omega))), ?_, ?_, ?_⟩
        · dsimp only; rw [List.length_drop] at hdl; omega
        · dsimp only at hv1 hv3 ⊢; exact ⟨by omega, by omega⟩
        · rw [hpf]
          show Option.map _ ((ivF u).bind _) = _
          rw [hiv']
          rfl
      · have hlo : lo = [] := beq_iff_eq.1 hl
        subst hlo
        rw [if_pos rfl] at hiv
        have hpn := parse_bad (x := ((true, [], true), (true, [], true))) (t := t) (acc := acc) (z := tailF k ((s2.drop 1).dropWhile isB)) (by decide) (by
          rw [hpf]
          show Option.map _ ((ivF u).bind _) = _
          rw [hiv]; rfl)
        rw [hpn]
        simp only [bndC] at ha5
        simp (disch := first | omega | (simp only [ds] <;> omega) | fail) only [wk, undefM, Nat.reduceLT, Nat.reduceAdd, Nat.reduceMul, Nat.reduceSub, Nat.reduceBEq, Nat.reduceEqDiff, Int.reduceToNat, reduceIte, tsI2, hl, ha5]
        exact ⟨(false, [], []), .nil, rfl, fun q hq => (by cases hq), hge5.set (Nat.le_refl _) _⟩
  rintro ⟨u', x, tk'⟩ O8 ⟨hge8, ha8, hb8, hn8, hap8, hlt8, hx8, hpf8⟩
  dsimp only at hb8 hap8 hlt8 hx8 hpf8
  have hul' : u'.length ≤ maxLen := by omega
  have hacc' : ∀ p ∈ acc ++ [x], p.1.2.1.length ≤ t.length ∧ p.2.2.1.length ≤ t.length := fun p hp => by
    rcases List.mem_append.1 hp with hp | hp
    · exact hacc p hp
    · rw [List.mem_singleton.1 hp]; exact hx8
  obtain ⟨k, rfl⟩ : ∃ j, k = j + 1 := ⟨k - 1, by omega⟩
  cases u' with
  | nil =>
    have hn0 : (([] : List UInt8) == []) = true := rfl
    simp (disch := first | omega | (simp only [ds] <;> omega) | fail) only [wk, undefM, Nat.reduceLT, Nat.reduceAdd, Nat.reduceMul, Nat.reduceSub, Nat.reduceBEq, Nat.reduceEqDiff, Int.reduceToNat, reduceIte, tsI2, hn0]
    refine JoinQ.mk (acc ++ [x], tk') rfl ⟨hge8, ha8, ?_, hn8, ⟨Nat.zero_le _, ?_, fun p hp => ?_⟩, ?_⟩
    · rw [hb8]; simp [rgM]
    · simp only [List.length_append, List.length_cons, List.length_nil]; omega
    · have := hacc' p hp; exact ⟨by omega, by omega⟩
    · rw [hpf8]; simp [tailF]
  | cons d u' =>
    have hn0 : ((d :: u') == []) = false := rfl
    have htf : tailF (k + 1) (d :: u') = if headB (d :: u') == 44 then (ivF (u'.dropWhile isB)).bind fun p => (tailF k (p.2.dropWhile isB)).map (p.1 :: ·) else none := rfl
    rw [htf] at hpf8
    simp (disch := first | omega | (simp only [ds] <;> omega) | fail) only [wk, undefM, Nat.reduceLT, Nat.reduceAdd, Nat.reduceMul, Nat.reduceSub, Nat.reduceBEq, Nat.reduceEqDiff, Int.reduceToNat, reduceIte, tsI2, hn0]
    refine CallW.rt (first_v (d :: u') _ hul') (by kernel_rfl) rfl rfl ?_
    rintro _ OX ⟨rfl, eX⟩
    rw [eX]; clear eX OX
    cases hd : headB (d :: u') == 44
    · rw [hd, if_neg (by simp)] at hpf8
      have hpn : partsF t = none := hpf8
      have e1 : ¬(headB (d :: u')).toNat = 44 := fun e => by
        have : headB (d :: u') = 44 := UInt8.toNat_inj.1 e
        rw [this] at hd; exact absurd hd (by decide)
      rw [hpn]
      simp only [bndC] at ha8
      simp (disch := first | omega | (simp only [ds] <;> omega) | fail) only [wk, undefM, Nat.reduceLT, Nat.reduceAdd, Nat.reduceMul, Nat.reduceSub, Nat.reduceBEq, Nat.reduceEqDiff, Int.reduceToNat, reduceIte, tsI2, byM_def, e1, ha8]
      exact ⟨(false, [], []), .nil, rfl, fun q hq => (by cases hq), hge8.set (Nat.le_refl _) _⟩
    · rw [hd, if_pos rfl] at hpf8
      have e1 : (headB (d :: u')).toNat = 44 := by rw [beq_iff_eq.1 hd]; rfl
      simp (disch := first | omega | (simp only [ds] <;> omega) | fail) only [wk, undefM, Nat.reduceLT, Nat.reduceAdd, Nat.reduceMul, Nat.reduceSub, Nat.reduceBEq, Nat.reduceEqDiff, Int.reduceToNat, reduceIte, tsI2, byM_def, e1]
      simp only [List.length_cons] at hul' hlt8
      refine CallW.rt (skip_v u' _ (by omega)) (by kernel_rfl) rfl rfl ?_
      rintro _ OX ⟨rfl, eX⟩
      rw [eX]; clear eX OX
      have hdl := dw_len isB u'
      simp (disch := first | omega | (simp only [ds] <;> omega) | fail) only [wk, undefM, Nat.reduceLT, Nat.reduceAdd, Nat.reduceMul, Nat.reduceSub, Nat.reduceBEq, Nat.reduceEqDiff, Int.reduceToNat, reduceIte, tsI2]
      refine RoundQ.next (u'.dropWhile isB, acc ++ [x], tk') rfl rfl ⟨hge8, ha8, ?_, hn8, hap8, by simp only [List.length_append, List.length_cons, List.length_nil]; omega, hacc', k, by dsimp only; omega, ?_⟩ (by dsimp only; omega)
      · rw [hb8]; simp [mb_def]
      · rw [hpf8]
        show _ = Option.map _ ((ivF (u'.dropWhile isB)).bind fun p => (tailF k (p.2.dropWhile isB)).map (p.1 :: ·))
        cases ((ivF (u'.dropWhile isB)).bind fun p => (tailF k (p.2.dropWhile isB)).map (p.1 :: ·)) with
        | none => rfl
        | some l => simp
end Go.Proofs.YtbpnmkmlicbfoaaDoor

/-
  The package bounds and its reference: Has, walked.
-/
set_option linter.unusedVariables false
set_option linter.unusedSimpArgs false
namespace Go.Proofs.YtbpnmkmlicbfoaaDoor
open Go.RowKit
set_option maxRecDepth 10000
set_option linter.defProp false in
def tsM := And.intro tsI2 <| And.intro T9 T64
def hasF (r : Rg) (v : List UInt8) : Bool := !r.1 || r.2.2.any (inF · v)
/-- bounds.Has's own function -/
theorem has1_v (x : Iv) (v : List UInt8) (b : Nat) (O : VH) (hb : O.hp b = some (.cells [.str v])) (hbn : b < O.next) (hlo : x.1.2.1.length ≤ 10000) (hhi : x.2.2.1.length ≤ 10000) (hv : v.length ≤ 10000) : VF Tryd.prog 36 [.agg (ivM x), .ptr b 0] O (Ret fun m O' => m = mb (inF x v) ∧ O.Ge O') := by
  obtain ⟨⟨h1, v1, c1⟩, ⟨h3, v3, c3⟩⟩ := x
  have hge := fun y => (VH.Ge.refl O).push y
  refine VF.ofW (n := ⟨7, 0⟩) (rs := [.tmp 3]) tabOk Tryd.func36 rfl rfl rfl (Nat.le_of_ble_eq_true rfl) ?_
  simp only [argEnv, Nat.zero_add, Nat.reduceAdd]
  simp (disch := first | omega | (simp only [ds] <;> omega) | fail) only [wk, undefM, Nat.reduceLT, Nat.reduceAdd, Nat.reduceMul, Nat.reduceSub, Nat.reduceBEq, Nat.reduceEqDiff, Int.reduceToNat, reduceIte, tsM, ivM, enM, hb]
  refine CallW.rt (in_v ((h1, v1, c1), (h3, v3, c3)) v _ hlo hhi hv) (by kernel_rfl) rfl rfl ?_
  rintro _ O2 ⟨rfl, hg2⟩
  simp (disch := first | omega | (simp only [ds] <;> omega) | fail) only [wk, undefM, Nat.reduceLT, Nat.reduceAdd, Nat.reduceMul, Nat.reduceSub, Nat.reduceBEq, Nat.reduceEqDiff, Int.reduceToNat, reduceIte, tsM]
  exact (hge _).trans hg2
/-- slices.IndexFunc with it -/
theorem idxIv_v (L : List Iv) (tk : Tok) (v : List UInt8) (b : Nat) (O : VH) (hb : O.hp b = some (.cells [.str v])) (hbn : b < O.next) (hn : L.length ≤ maxLen) (hL : ∀ p ∈ L, p.1.2.1.length ≤ 10000 ∧ p.2.2.1.length ≤ 10000) (hv : v.length ≤ 10000) : VF Tryd.prog 57 [.sl L.length (L.flatMap ivM) tk, .func (.func 36) [] [.ptr b 0]] O (Ret fun m O' => ∃ n : Int, m = mi n ∧ decide (n ≥ 0) = L.any (inF · v) ∧ O.Ge O') := by
  have hnm : (L.length : Int) ≤ 9223372036854775807 := by simp [maxLen] at hn; omega
  have hpl := iv_len L
  refine VF.ofW (n := ⟨19, 0⟩) (rs := [.tmp 4]) tabOk Tryd.func57 rfl rfl rfl (Nat.le_of_ble_eq_true rfl) ?_
  simp only [argEnv, Nat.zero_add, Nat.reduceAdd]
  simp (disch := first | omega | (simp only [ds] <;> omega) | fail) only [wk, undefM, Nat.reduceLT, Nat.reduceAdd, Nat.reduceMul, Nat.reduceSub, Nat.reduceBEq, Nat.reduceEqDiff, Int.reduceToNat, reduceIte, tsM]
  refine WC.loopK tabOk [8] [0, 1, 7] (fun j : Nat => [mi j]) (fun j O' => O.Ge O' ∧ j ≤ L.length ∧ L.any (inF · v) = (L.drop j).any (inF · v)) (fun j => L.length - j) (0) rfl rfl ?_ ?_
  · exact ⟨VH.Ge.refl _, Nat.zero_le _, rfl⟩
  rintro j O2 ⟨hg2, hj, hok⟩
  by_cases h2 : j < L.length
  · have hp6 := iv_at L j h2
    have hbd := hL L[j] (List.getElem_mem h2)
    rw [List.drop_eq_getElem_cons h2, List.any_cons] at hok
    generalize hp : L[j] = p at *
    simp (disch := first | omega | (simp only [ds] <;> omega) | fail) only [wk, undefM, Nat.reduceLT, Nat.reduceAdd, Nat.reduceMul, Nat.reduceSub, Nat.reduceBEq, Nat.reduceEqDiff, Int.reduceToNat, reduceIte, tsM, hp6, ivM, enM]
    refine CallW.rt (has1_v p v b _ ((hg2.hp _ hbn).trans hb) (Nat.lt_of_lt_of_le hbn hg2.next) hbd.1 hbd.2 hv) (by kernel_rfl) rfl rfl ?_
    rintro _ O3 ⟨rfl, hg3⟩
    cases hi : inF p v
    · rw [hi, Bool.false_or] at hok
      simp (disch := first | omega | (simp only [ds] <;> omega) | fail) only [wk, undefM, Nat.reduceLT, Nat.reduceAdd, Nat.reduceMul, Nat.reduceSub, Nat.reduceBEq, Nat.reduceEqDiff, Int.reduceToNat, reduceIte, tsM]
      refine RoundQ.next (j + 1) rfl rfl ?_ (by first | omega | (dsimp only; omega))
      exact ⟨hg2.trans hg3, by omega, hok⟩
    · rw [hok, hi]
      simp (disch := first | omega | (simp only [ds] <;> omega) | fail) only [wk, undefM, Nat.reduceLT, Nat.reduceAdd, Nat.reduceMul, Nat.reduceSub, Nat.reduceBEq, Nat.reduceEqDiff, Int.reduceToNat, reduceIte, tsM]
      exact ⟨_, rfl, by simp, hg2.trans hg3⟩
  · have hjl : j = L.length := by omega
    rw [List.drop_of_length_le (by omega)] at hok
    rw [hok]
    simp (disch := first | omega | (simp only [ds] <;> omega) | fail) only [wk, undefM, Nat.reduceLT, Nat.reduceAdd, Nat.reduceMul, Nat.reduceSub, Nat.reduceBEq, Nat.reduceEqDiff, Int.reduceToNat, reduceIte, tsM]
    exact ⟨_, rfl, rfl, hg2⟩
/-- slices.ContainsFunc with it -/
theorem anyIv_v (L : List Iv) (tk : Tok) (v : List UInt8) (b : Nat) (O : VH) (hb : O.hp b = some (.cells [.str v])) (hbn : b < O.next) (hn : L.length ≤ maxLen) (hL : ∀ p ∈ L, p.1.2.1.length ≤ 10000 ∧ p.2.2.1.length ≤ 10000) (hv : v.length ≤ 10000) : VF Tryd.prog 35 [.sl L.length (L.flatMap ivM) tk, .func (.func 36) [] [.ptr b 0]] O (Ret fun m O' => m = mb (L.any (inF · v)) ∧ O.Ge O') := by
  refine VF.ofW (n := ⟨9, 0⟩) (rs := [.tmp 4]) tabOk Tryd.func35 rfl rfl rfl (Nat.le_of_ble_eq_true rfl) ?_
  simp only [argEnv, Nat.zero_add, Nat.reduceAdd]
  simp (disch := first | omega | (simp only [ds] <;> omega) | fail) only [wk, undefM, Nat.reduceLT, Nat.reduceAdd, Nat.reduceMul, Nat.reduceSub, Nat.reduceBEq, Nat.reduceEqDiff, Int.reduceToNat, reduceIte, tsM]
  refine CallW.rt (idxIv_v L tk v b O hb hbn hn hL hv) (by kernel_rfl) rfl rfl ?_
  rintro _ O2 ⟨z, rfl, hz, hg2⟩
  rw [← hz]
  simp (disch := first | omega | (simp only [ds] <;> omega) | fail) only [wk, undefM, Nat.reduceLT, Nat.reduceAdd, Nat.reduceMul, Nat.reduceSub, Nat.reduceBEq, Nat.reduceEqDiff, Int.reduceToNat, reduceIte, tsM]
  exact hg2
/-- bounds.Has -/
theorem Has_v (r : Rg) (tk : Tok) (v : List UInt8) (O : VH) (hr : RgOk r) (hv : v.length ≤ 10000) : VF Tryd.prog 15 [.agg (rgM r tk), .str v] O (Ret fun m O' => m = mb (hasF r v) ∧ O.Ge O') := by
  obtain ⟨hard, ver, L⟩ := r
  obtain ⟨hvr, hn, hL⟩ := hr
  have hge := fun x y => ((VH.Ge.refl O).push x).push y
  have hpl := iv_len L
  unfold hasF
  dsimp only at hvr hn hL ⊢
  refine VF.ofW (n := ⟨14, 0⟩) (rs := [.tmp 4]) tabOk Tryd.func15 rfl rfl rfl (Nat.le_of_ble_eq_true rfl) ?_
  simp only [argEnv, Nat.zero_add, Nat.reduceAdd]
  cases hard
  · simp (disch := first | omega | (simp only [ds] <;> omega) | fail) only [wk, undefM, Nat.reduceLT, Nat.reduceAdd, Nat.reduceMul, Nat.reduceSub, Nat.reduceBEq, Nat.reduceEqDiff, Int.reduceToNat, reduceIte, tsM, rgM]
    exact hge _ _
  · simp (disch := first | omega | (simp only [ds] <;> omega) | fail) only [wk, undefM, Nat.reduceLT, Nat.reduceAdd, Nat.reduceMul, Nat.reduceSub, Nat.reduceBEq, Nat.reduceEqDiff, Int.reduceToNat, reduceIte, tsM, rgM]
    have hk := VH.push_new (O.push (.cells [.v (.bool true), .str ver, .sl L.length (L.flatMap ivM) tk])) (.cells [.str v])
    refine CallW.rt (anyIv_v L tk v _ _ hk (Nat.lt_succ_self _) hn hL hv) (by kernel_rfl) rfl rfl ?_
    rintro _ O2 ⟨rfl, hg2⟩
    simp (disch := first | omega | (simp only [ds] <;> omega) | fail) only [wk, undefM, Nat.reduceLT, Nat.reduceAdd, Nat.reduceMul, Nat.reduceSub, Nat.reduceBEq, Nat.reduceEqDiff, Int.reduceToNat, reduceIte, tsM]
    exact (hge _ _).trans hg2
def loF (x : Iv) (v : List UInt8) : Int := if x.1.1 then compareV x.1.2.1 v else -1
def hiF (x : Iv) (v : List UInt8) : Int := if x.2.1 then compareV x.2.2.1 v else 1
theorem lo_rng (x : Iv) (v : List UInt8) : loF x v = -1 ∨ loF x v = 0 ∨ loF x v = 1 := by
  unfold loF
  split
  · exact compareV_cmp.rng _ _
  · exact .inl rfl
theorem hi_rng (x : Iv) (v : List UInt8) : hiF x v = -1 ∨ hiF x v = 0 ∨ hiF x v = 1 := by
  unfold hiF
  split
  · exact compareV_cmp.rng _ _
  · exact .inr (.inr rfl)
theorem inF_eq (x : Iv) (v : List UInt8) : inF x v = ((loF x v == -1 || (loF x v == 0 && x.1.2.2)) && (hiF x v == 1 || (hiF x v == 0 && x.2.2.2))) := by
  obtain ⟨⟨h1, v1, c1⟩, ⟨h3, v3, c3⟩⟩ := x
  have ha := compareV_cmp.anti v3 v
  have r1 := compareV_cmp.rng v1 v
  have r3 := compareV_cmp.rng v3 v
  unfold inF belowF loF hiF
  dsimp only
  rw [ha]
  generalize compareV v1 v = n at *
  generalize compareV v3 v = k at *
  rcases r1 with rfl | rfl | rfl <;> rcases r3 with rfl | rfl | rfl <;> cases h1 <;> cases h3 <;> cases c1 <;> cases c3 <;> rfl
/-- pomaceref05.Has -/
theorem rHas_v (r : Rg) (tk : Tok) (v : List UInt8) (O : VH) (hr : RgOk r) (hv : v.length ≤ 10000) : VF Tryd.prog 16 [.agg (rgM r tk), .str v] O (Ret fun m O' => m = mb (hasF r v) ∧ O.Ge O') := by
  obtain ⟨hard, ver, L⟩ := r
  obtain ⟨hvr, hn, hL⟩ := hr
  have hge := fun x => (VH.Ge.refl O).push x
  have hpl := iv_len L
  unfold hasF
  dsimp only at hvr hn hL ⊢
  have hnm : (L.length : Int) ≤ 9223372036854775807 := by simp [maxLen] at hn; omega
  refine VF.ofV (n := ⟨60, 0⟩) (rs := [.tmp 4]) tabOk Tryd.func16 rfl rfl rfl (Nat.le_of_ble_eq_true rfl) ?_
  simp only [argEnv, Nat.zero_add, Nat.reduceAdd]
  cases hard
  · refine WC.sound tabOk ?_
    simp (disch := first | omega | (simp only [ds] <;> omega) | fail) only [wk, undefM, Nat.reduceLT, Nat.reduceAdd, Nat.reduceMul, Nat.reduceSub, Nat.reduceBEq, Nat.reduceEqDiff, Int.reduceToNat, reduceIte, tsM, rgM]
    exact hge _
  refine VC.seqV tabOk ?_
  simp (disch := first | omega | (simp only [ds] <;> omega) | fail) only [wk, undefM, Nat.reduceLT, Nat.reduceAdd, Nat.reduceMul, Nat.reduceSub, Nat.reduceBEq, Nat.reduceEqDiff, Int.reduceToNat, reduceIte, tsM, rgM]
  refine VC.seqV tabOk ?_
  simp (disch := first | omega | (simp only [ds] <;> omega) | fail) only [wk, undefM, Nat.reduceLT, Nat.reduceAdd, Nat.reduceMul, Nat.reduceSub, Nat.reduceBEq, Nat.reduceEqDiff, Int.reduceToNat, reduceIte, tsM]
  refine VC.seq0 ?_
  refine VC.seqV tabOk ?_
  simp (disch := first | omega | (simp only [ds] <;> omega) | fail) only [wk, undefM, Nat.reduceLT, Nat.reduceAdd, Nat.reduceMul, Nat.reduceSub, Nat.reduceBEq, Nat.reduceEqDiff, Int.reduceToNat, reduceIte, tsM]
  refine VC.block' ?_
  refine VC.loopV [15] [1, 13, 14] (fun j : Nat => [mi j]) (fun j O' => (O.push (.cells (rgM (true, ver, L) tk))).Ge O' ∧ j ≤ L.length ∧ L.any (inF · v) = (L.drop j).any (inF · v)) (fun j => L.length - j) (0) rfl rfl ?_ ?_
  · exact ⟨VH.Ge.refl _, Nat.zero_le _, rfl⟩
  rintro j O2 ⟨hg2, hj, hok⟩
  by_cases h2 : j < L.length
  · have hp6 := iv_at L j h2
    have hbd := hL L[j] (List.getElem_mem h2)
    rw [List.drop_eq_getElem_cons h2, List.any_cons] at hok
    generalize hp : L[j] = p at *
    have hie := inF_eq p v
    have r1 := lo_rng p v
    have r3 := hi_rng p v
    have hlo : loF p v = if p.1.1 then compareV p.1.2.1 v else -1 := rfl
    have hhi : hiF p v = if p.2.1 then compareV p.2.2.1 v else 1 := rfl
    generalize loF p v = lo at *
    generalize hiF p v = hi at *
    obtain ⟨⟨h1, v1, c1⟩, ⟨h3, v3, c3⟩⟩ := p
    dsimp only at hbd hie hlo hhi
    refine VC.seqV tabOk ?_
    simp (disch := first | omega | (simp only [ds] <;> omega) | fail) only [wk, undefM, Nat.reduceLT, Nat.reduceAdd, Nat.reduceMul, Nat.reduceSub, Nat.reduceBEq, Nat.reduceEqDiff, Int.reduceToNat, reduceIte, tsM]
    refine VC.seqV tabOk ?_
    simp (disch := first | omega | (simp only [ds] <;> omega) | fail) only [wk, undefM, Nat.reduceLT, Nat.reduceAdd, Nat.reduceMul, Nat.reduceSub, Nat.reduceBEq, Nat.reduceEqDiff, Int.reduceToNat, reduceIte, tsM]
    refine VC.seq0 (VC.block' ?_)
    refine VC.seqV tabOk ?_
    simp (disch := first | omega | (simp only [ds] <;> omega) | fail) only [wk, undefM, Nat.reduceLT, Nat.reduceAdd, Nat.reduceMul, Nat.reduceSub, Nat.reduceBEq, Nat.reduceEqDiff, Int.reduceToNat, reduceIte, tsM, hp6, ivM, enM]
    have hOX : O2.Ge ((O2.push (.cells [.v (.bool false), .str [], .v (.bool false), .v (.bool false), .str [], .v (.bool false)])).set O2.next (.cells [.v (.bool h1), .str v1, .v (.bool c1), .v (.bool h3), .str v3, .v (.bool c3)])) := ((VH.Ge.refl O2).push _).set (Nat.le_refl _) _
    have hk4 := VH.set_get (O2.push (.cells [.v (.bool false), .str [], .v (.bool false), .v (.bool false), .str [], .v (.bool false)])) O2.next (.cells [.v (.bool h1), .str v1, .v (.bool c1), .v (.bool h3), .str v3, .v (.bool c3)])
    have hn4 : O2.next < ((O2.push (.cells [.v (.bool false), .str [], .v (.bool false), .v (.bool false), .str [], .v (.bool false)])).set O2.next (.cells [.v (.bool h1), .str v1, .v (.bool c1), .v (.bool h3), .str v3, .v (.bool c3)])).next := Nat.lt_succ_self _
    generalize ((O2.push (.cells [.v (.bool false), .str [], .v (.bool false), .v (.bool false), .str [], .v (.bool false)])).set O2.next (.cells [.v (.bool h1), .str v1, .v (.bool c1), .v (.bool h3), .str v3, .v (.bool c3)])) = OX at *
    have hgX := hg2.trans hOX
    clear hg2 hOX
    refine VC.seqV tabOk ?_
    simp (disch := first | omega | (simp only [ds] <;> omega) | fail) only [wk, undefM, Nat.reduceLT, Nat.reduceAdd, Nat.reduceMul, Nat.reduceSub, Nat.reduceBEq, Nat.reduceEqDiff, Int.reduceToNat, reduceIte, tsM]
    refine WC.join tabOk [7, 6, 8, 1, 13, 14, 15] (fun _ : Unit => [mi lo, .ptr O2.next 0, mi 1, .str v, .sl L.length (L.flatMap ivM) tk, mi L.length, mi j]) (fun _ O' => OX.Ge O') ?_ ?_
    · cases h1
      · rw [if_neg (by simp)] at hlo
        simp (disch := first | omega | (simp only [ds] <;> omega) | fail) only [wk, undefM, Nat.reduceLT, Nat.reduceAdd, Nat.reduceMul, Nat.reduceSub, Nat.reduceBEq, Nat.reduceEqDiff, Int.reduceToNat, reduceIte, tsM, hk4]
        exact JoinQ.mk () (by rw [hlo]; rfl) (VH.Ge.refl _)
      · rw [if_pos rfl] at hlo
        simp (disch := first | omega | (simp only [ds] <;> omega) | fail) only [wk, undefM, Nat.reduceLT, Nat.reduceAdd, Nat.reduceMul, Nat.reduceSub, Nat.reduceBEq, Nat.reduceEqDiff, Int.reduceToNat, reduceIte, tsM, hk4]
        refine CallW.rt (refCompare_v v1 v _ hbd.1 hv) (by kernel_rfl) rfl rfl ?_
        rintro _ O3 ⟨rfl, hg3⟩
        rw [← hlo]
        simp (disch := first | omega | (simp only [ds] <;> omega) | fail) only [wk, undefM, Nat.reduceLT, Nat.reduceAdd, Nat.reduceMul, Nat.reduceSub, Nat.reduceBEq, Nat.reduceEqDiff, Int.reduceToNat, reduceIte, tsM]
        exact JoinQ.mk () rfl hg3
    rintro _ O3 hg3
    have hk43 := (hg3.hp _ hn4).trans hk4
    have hn43 := Nat.lt_of_lt_of_le hn4 hg3.next
    refine WC.join tabOk [7, 6, 8, 1, 13, 14, 15] (fun _ : Unit => [mi lo, .ptr O2.next 0, mi hi, .str v, .sl L.length (L.flatMap ivM) tk, mi L.length, mi j]) (fun _ O' => O3.Ge O') ?_ ?_
    · cases h3
      · rw [if_neg (by simp)] at hhi
        simp (disch := first | omega | (simp only [ds] <;> omega) | fail) only [wk, undefM, Nat.reduceLT, Nat.reduceAdd, Nat.reduceMul, Nat.reduceSub, Nat.reduceBEq, Nat.reduceEqDiff, Int.reduceToNat, reduceIte, tsM, hk43]
        exact JoinQ.mk () (by rw [hhi]; rfl) (VH.Ge.refl _)
      · rw [if_pos rfl] at hhi
        simp (disch := first | omega | (simp only [ds] <;> omega) | fail) only [wk, undefM, Nat.reduceLT, Nat.reduceAdd, Nat.reduceMul, Nat.reduceSub, Nat.reduceBEq, Nat.reduceEqDiff, Int.reduceToNat, reduceIte, tsM, hk43]
        refine CallW.rt (refCompare_v v3 v _ hbd.2 hv) (by kernel_rfl) rfl rfl ?_
        rintro _ O4 ⟨rfl, hg4⟩
        rw [← hhi]
        simp (disch := first | omega | (simp only [ds] <;> omega) | fail) only [wk, undefM, Nat.reduceLT, Nat.reduceAdd, Nat.reduceMul, Nat.reduceSub, Nat.reduceBEq, Nat.reduceEqDiff, Int.reduceToNat, reduceIte, tsM]
        exact JoinQ.mk () rfl hg4
    rintro _ O4 hg4
    have hk44 := (hg4.hp _ hn43).trans hk43
    have hgZ := (hgX.trans hg3).trans hg4
    refine WC.join tabOk [58, 1, 13, 14, 15] (fun b : Bool => [mb b, .str v, .sl L.length (L.flatMap ivM) tk, mi L.length, mi j]) (fun b O' => b = inF ((h1, v1, c1), (h3, v3, c3)) v ∧ O' = O4) ?_ ?_
    · rw [hie]
      clear hlo hhi hok hie
      rcases r1 with rfl | rfl | rfl
      · rcases r3 with rfl | rfl | rfl
        · simp (disch := first | omega | (simp only [ds] <;> omega) | fail) only [wk, undefM, Nat.reduceLT, Nat.reduceAdd, Nat.reduceMul, Nat.reduceSub, Nat.reduceBEq, Nat.reduceEqDiff, Int.reduceToNat, reduceIte, tsM, hk44, Int.reduceNeg, Int.reduceBEq, Int.reduceEq]
          exact JoinQ.mk _ rfl ⟨rfl, rfl⟩
        · simp (disch := first | omega | (simp only [ds] <;> omega) | fail) only [wk, undefM, Nat.reduceLT, Nat.reduceAdd, Nat.reduceMul, Nat.reduceSub, Nat.reduceBEq, Nat.reduceEqDiff, Int.reduceToNat, reduceIte, tsM, hk44, Int.reduceNeg, Int.reduceBEq, Int.reduceEq]
          exact JoinQ.mk _ rfl ⟨rfl, rfl⟩
        · simp (disch := first | omega | (simp only [ds] <;> omega) | fail) only [wk, undefM, Nat.reduceLT, Nat.reduceAdd, Nat.reduceMul, Nat.reduceSub, Nat.reduceBEq, Nat.reduceEqDiff, Int.reduceToNat, reduceIte, tsM, hk44, Int.reduceNeg, Int.reduceBEq, Int.reduceEq]
          exact JoinQ.mk _ rfl ⟨rfl, rfl⟩
      · cases c1
        · simp (disch := first | omega | (simp only [ds] <;> omega) | fail) only [wk, undefM, Nat.reduceLT, Nat.reduceAdd, Nat.reduceMul, Nat.reduceSub, Nat.reduceBEq, Nat.reduceEqDiff, Int.reduceToNat, reduceIte, tsM, hk44, Int.reduceNeg, Int.reduceBEq, Int.reduceEq]
          exact JoinQ.mk _ rfl ⟨rfl, rfl⟩
        · rcases r3 with rfl | rfl | rfl
          · simp (disch := first | omega | (simp only [ds] <;> omega) | fail) only [wk, undefM, Nat.reduceLT, Nat.reduceAdd, Nat.reduceMul, Nat.reduceSub, Nat.reduceBEq, Nat.reduceEqDiff, Int.reduceToNat, reduceIte, tsM, hk44, Int.reduceNeg, Int.reduceBEq, Int.reduceEq]
            exact JoinQ.mk _ rfl ⟨rfl, rfl⟩
          · simp (disch := first | omega | (simp only [ds] <;> omega) | fail) only [wk, undefM, Nat.reduceLT, Nat.reduceAdd, Nat.reduceMul, Nat.reduceSub, Nat.reduceBEq, Nat.reduceEqDiff, Int.reduceToNat, reduceIte, tsM, hk44, Int.reduceNeg, Int.reduceBEq, Int.reduceEq]
            exact JoinQ.mk _ rfl ⟨rfl, rfl⟩
          · simp (disch := first | omega | (simp only [ds] <;> omega) | fail) only [wk, undefM, Nat.reduceLT, Nat.reduceAdd, Nat.reduceMul, Nat.reduceSub, Nat.reduceBEq, Nat.reduceEqDiff, Int.reduceToNat, reduceIte, tsM, hk44, Int.reduceNeg, Int.reduceBEq, Int.reduceEq]
            exact JoinQ.mk _ rfl ⟨rfl, rfl⟩
      · simp (disch := first | omega | (simp only [ds] <;> omega) | fail) only [wk, undefM, Nat.reduceLT, Nat.reduceAdd, Nat.reduceMul, Nat.reduceSub, Nat.reduceBEq, Nat.reduceEqDiff, Int.reduceToNat, reduceIte, tsM, hk44, Int.reduceNeg, Int.reduceBEq, Int.reduceEq]
        exact JoinQ.mk _ rfl ⟨rfl, rfl⟩
    rintro b O5 ⟨hb, eO⟩
    rw [eO]; clear eO O5
    cases b
    · rw [← hb, Bool.false_or] at hok
      refine WC.sound tabOk ?_
      simp (disch := first | omega | (simp only [ds] <;> omega) | fail) only [wk, undefM, Nat.reduceLT, Nat.reduceAdd, Nat.reduceMul, Nat.reduceSub, Nat.reduceBEq, Nat.reduceEqDiff, Int.reduceToNat, reduceIte, tsM]
      refine WC.sound tabOk ?_
      simp (disch := first | omega | (simp only [ds] <;> omega) | fail) only [wk, undefM, Nat.reduceLT, Nat.reduceAdd, Nat.reduceMul, Nat.reduceSub, Nat.reduceBEq, Nat.reduceEqDiff, Int.reduceToNat, reduceIte, tsM]
      refine RoundQ.next (j + 1) rfl rfl ?_ (by first | omega | (dsimp only; omega))
      exact ⟨hgZ, by omega, hok⟩
    · rw [hok, ← hb]
      refine WC.sound tabOk ?_
      simp (disch := first | omega | (simp only [ds] <;> omega) | fail) only [wk, undefM, Nat.reduceLT, Nat.reduceAdd, Nat.reduceMul, Nat.reduceSub, Nat.reduceBEq, Nat.reduceEqDiff, Int.reduceToNat, reduceIte, tsM]
      exact (hge _).trans hgZ
  · have hjl : j = L.length := by omega
    rw [List.drop_of_length_le (by omega)] at hok
    rw [hok]
    refine WC.sound tabOk ?_
    simp (disch := first | omega | (simp only [ds] <;> omega) | fail) only [wk, undefM, Nat.reduceLT, Nat.reduceAdd, Nat.reduceMul, Nat.reduceSub, Nat.reduceBEq, Nat.reduceEqDiff, Int.reduceToNat, reduceIte, tsM]
    refine WC.sound tabOk ?_
    simp (disch := first | omega | (simp only [ds] <;> omega) | fail) only [wk, undefM, Nat.reduceLT, Nat.reduceAdd, Nat.reduceMul, Nat.reduceSub, Nat.reduceBEq, Nat.reduceEqDiff, Int.reduceToNat, reduceIte, tsM]
    exact ⟨rfl, (hge _).trans hg2⟩
end Go.Proofs.YtbpnmkmlicbfoaaDoor
