/-
  The package version: cut, walked.
-/
import Derived.Test.YtjbpnhmjnkolbaaDoorVerC
set_option linter.unusedVariables false
set_option linter.unusedSimpArgs false
namespace Go.Proofs.YtjbpnhmjnkolbaaDoor
open Go.RowKit

/-- What was grown since. -/
structure Ap (O0 : VH) (k : Nat) (s : Tok) (O : VH) : Prop where
  ge : O0.Ge O
  app : App O O0.next k s
theorem Ap.refl (O : VH) {k : Nat} {s : Tok} (h : s = .nil ∨ s = .full) : Ap O k s O := ⟨VH.Ge.refl _, by rcases h with rfl | rfl <;> trivial⟩
theorem Ap.next {O0 O : VH} {k : Nat} {s : Tok} (h : Ap O0 k s O) : Ap O0 k (.own O.next k) (O.after s) := ⟨h.ge.after h.app (Nat.le_refl _), App.after h.ge.next⟩
theorem vbin_neqB {tab : Tab} {t : TypeId} {s c : Nat} {z : List MV} {a b : Bool} (h : tab t = some ⟨.bool, s, c, z⟩) : vbin tab .neq t (.v (.bool a)) (.v (.bool b)) = some (.v (.bool (!(a == b)))) := by simp [vbin, h]

abbrev Piece := List UInt8 × Bool × Bool
def pcM (p : Piece) : List MV := [.str p.1, mb p.2.1, mb p.2.2]
theorem pc_len (L : List Piece) : (L.flatMap pcM).length = L.length * 3 := by
  induction L with
  | nil => rfl
  | cons p L ih => rw [List.flatMap_cons, List.length_append, ih, List.length_cons]; simp [pcM]; omega
def cutS (s : List UInt8) : Nat → List Piece × Nat × Bool
  | 0 => ([], 0, false)
  | i + 1 =>
    if i < s.length then
      if isMk (s.getD i 0) then ((cutS s i).1 ++ [((s.drop (cutS s i).2.1).take (i - (cutS s i).2.1), (cutS s i).2.2, false)], i + 1, s.getD i 0 == 45)
      else if (cutS s i).2.1 < i ∧ isD (s.getD i 0) ≠ isD (s.getD (i - 1) 0) then ((cutS s i).1 ++ [((s.drop (cutS s i).2.1).take (i - (cutS s i).2.1), (cutS s i).2.2, true)], i, true)
      else cutS s i
    else ((cutS s i).1 ++ [((s.drop (cutS s i).2.1).take (i - (cutS s i).2.1), (cutS s i).2.2, false)], i + 1, false)
theorem cutS_succ (s : List UInt8) (i : Nat) : cutS s (i + 1) =
    if i < s.length then
      if isMk (s.getD i 0) then ((cutS s i).1 ++ [((s.drop (cutS s i).2.1).take (i - (cutS s i).2.1), (cutS s i).2.2, false)], i + 1, s.getD i 0 == 45)
      else if (cutS s i).2.1 < i ∧ isD (s.getD i 0) ≠ isD (s.getD (i - 1) 0) then ((cutS s i).1 ++ [((s.drop (cutS s i).2.1).take (i - (cutS s i).2.1), (cutS s i).2.2, true)], i, true)
      else cutS s i
    else ((cutS s i).1 ++ [((s.drop (cutS s i).2.1).take (i - (cutS s i).2.1), (cutS s i).2.2, false)], i + 1, false) := rfl
theorem cutS_b (s : List UInt8) (i : Nat) : (cutS s i).2.1 ≤ i ∧ (cutS s i).1.length ≤ i := by
  induction i with
  | zero => exact ⟨Nat.le_refl _, Nat.le_refl _⟩
  | succ i ih =>
    rw [cutS]
    split
    · split
      · simp; omega
      · split
        · simp; omega
        · omega
    · simp; omega
def cutF (s : List UInt8) : List Piece := (cutS s (s.length + 1)).1
theorem bd50a (x : List UInt8) (h : Bool) : vbuild (tyOf Tryd.prog) 50 [(0, .str x), (1, .v (.bool h))] = some (.agg [.str x, .v (.bool h), .v (.bool false)]) := by kernel_rfl
theorem bd50b (x : List UInt8) (h c : Bool) : vbuild (tyOf Tryd.prog) 50 [(0, .str x), (1, .v (.bool h)), (2, .v (.bool c))] = some (.agg [.str x, .v (.bool h), .v (.bool c)]) := by kernel_rfl
theorem bs47 (x : List UInt8) (h c : Bool) : vbuildSlice (tyOf Tryd.prog) 47 1 [(0, .agg [.str x, .v (.bool h), .v (.bool c)])] = some (.sl 1 [.str x, .v (.bool h), .v (.bool c)] .full) := by kernel_rfl
theorem getD_at {s : List UInt8} {i : Nat} (h : i < s.length) : s.getD i 0 = s[i] := by
  rw [List.getD_eq_getElem?_getD, List.getElem?_eq_getElem h]; rfl

set_option maxHeartbeats 1000000 in
/-- version.cut -/
theorem cut_v (s : List UInt8) (O : VH) (hs : s.length ≤ 100000) : VF Tryd.prog 25 [.str s] O (Ret fun m O' => ∃ tk, m = .sl (cutF s).length ((cutF s).flatMap pcM) tk ∧ Ap O 3 tk O') := by
  refine VF.enter' tabOk Tryd.func25 (c := _) rfl (Nat.le_of_ble_eq_true rfl) ?_
  rw [show Tryd.f25.ntmps = 71 from rfl]
  simp only [argEnv, Nat.zero_add, Nat.reduceAdd]
  repeat' first
    | with_reducible refine VC.seq' ?_
    | with_reducible refine VC.block' ?_
    | with_reducible refine VC.skip ?_
    | with_reducible refine VC.label ?_
    | with_reducible refine VC.scope ?_
    | with_reducible refine VC.exit ?_
    | with_reducible refine VC.ret ?_
    | with_reducible refine VL.nil ?_
    | ((first | with_reducible apply VC.plainL | with_reducible apply VC.readsL (by kernel_rfl) (by kernel_rfl) (by kernel_rfl)); (with_reducible apply VL.run tabOk); (· (simp (disch := omega) only [vset, wset, ints, bools, strs, undefM, Nat.reduceLT, Nat.reduceAdd, Nat.reduceBEq, Int.reduceToNat] <;> exact rfl)))
    | ((with_reducible apply VC.cond); (· (simp (disch := omega) only [vset, wset, ints, bools, strs, undefM, Nat.reduceLT, Nat.reduceAdd, Nat.reduceBEq, Int.reduceToNat] <;> exact rfl)); all_goals (intro hcond; try simp only [decide_eq_true_eq, decide_eq_false_iff_not, beq_iff_eq, beq_eq_false_iff_ne, bne_iff_ne, bne_eq_false_iff_eq, ne_eq, reduceCtorEq] at hcond))
    | simp only [qset, Nat.reduceEqDiff, reduceIte]
    | ((apply EndQ.ret1 rfl); (· (simp only [look_cons, Nat.reduceBEq, cond_true, cond_false] <;> exact rfl)))
    | ((apply EndQ.ret2 rfl); (· (simp only [look_cons, Nat.reduceBEq, cond_true, cond_false] <;> exact rfl)); (· (simp only [look_cons, Nat.reduceBEq, cond_true, cond_false] <;> exact rfl)))
    | (refine EndQ.ret0 rfl ?_)
    | (refine EndQ.nor0 rfl ?_)
  apply VC.loopK [2, 3, 4, 5] [0] (ms := fun x : Nat × Tok => [.sl (cutS s x.1).1.length ((cutS s x.1).1.flatMap pcM) x.2, mi (cutS s x.1).2.1, mb (cutS s x.1).2.2, mi x.1]) (I := fun x O' => x.1 ≤ s.length + 1 ∧ Ap O 3 x.2 O') (μ := fun x => s.length + 1 - x.1) (s0 := (0, .nil))
  · (simp (disch := omega) only [vset, wset, ints, bools, strs, undefM, Nat.reduceLT, Nat.reduceAdd, Nat.reduceBEq, Int.reduceToNat, Int.natCast_zero, List.take_zero, List.map_nil, List.any_nil, Bool.or_false, show cutS s 0 = ([], 0, false) from rfl, List.flatMap_nil, List.length_nil] <;> exact rfl)
  · (simp only [vset, wset, ints, bools, strs, undefM, Nat.reduceLT, Nat.reduceAdd, Nat.reduceBEq, Int.reduceToNat] <;> exact rfl)
  · exact ⟨by simp, Ap.refl _ (.inl rfl)⟩
  rintro ⟨i, tk⟩ O2 ⟨hi, hap⟩
  dsimp only at hi hap
  obtain ⟨hb1, hb2⟩ := cutS_b s i
  by_cases h2 : i ≤ s.length
  rotate_left
  · have hie : i = s.length + 1 := by omega
    subst hie
    repeat' first
      | with_reducible refine VC.seq' ?_
      | with_reducible refine VC.block' ?_
      | with_reducible refine VC.skip ?_
      | with_reducible refine VC.label ?_
      | with_reducible refine VC.scope ?_
      | with_reducible refine VC.exit ?_
      | with_reducible refine VC.ret ?_
      | with_reducible refine VL.nil ?_
      | ((first | with_reducible apply VC.plainL | with_reducible apply VC.readsL (by kernel_rfl) (by kernel_rfl) (by kernel_rfl)); (with_reducible apply VL.run tabOk); (· (simp (disch := omega) only [vset, wset, ints, bools, strs, undefM, Nat.reduceLT, Nat.reduceAdd, Nat.reduceBEq, Int.reduceToNat, vlen_str ty9] <;> exact rfl)))
      | ((with_reducible apply VC.cond); (· (simp (disch := omega) only [vset, wset, ints, bools, strs, undefM, Nat.reduceLT, Nat.reduceAdd, Nat.reduceBEq, Int.reduceToNat, vlen_str ty9] <;> exact rfl)); all_goals (intro hcond; try simp only [decide_eq_true_eq, decide_eq_false_iff_not, beq_iff_eq, beq_eq_false_iff_ne, bne_iff_ne, bne_eq_false_iff_eq, ne_eq, reduceCtorEq] at hcond))
      | simp only [qset, Nat.reduceEqDiff, reduceIte]
      | ((apply EndQ.ret1 rfl); (· (simp only [look_cons, Nat.reduceBEq, cond_true, cond_false] <;> exact rfl)))
      | ((apply EndQ.ret2 rfl); (· (simp only [look_cons, Nat.reduceBEq, cond_true, cond_false] <;> exact rfl)); (· (simp only [look_cons, Nat.reduceBEq, cond_true, cond_false] <;> exact rfl)))
      | (refine EndQ.ret0 rfl ?_)
      | (refine EndQ.nor0 rfl ?_)
    exact ⟨tk, rfl, hap⟩
  have hS := cutS_succ s i
  rcases hc : cutS s i with ⟨L, fr, hy⟩
  rw [hc] at hb1 hb2 hS
  dsimp only at hb1 hb2 hS
  have hsl := vslice_s (l := s) (i := fr) (j := i) (k := .i64) (k' := .i64) ty9 hb1 (by omega)
  by_cases h3 : i < s.length
  · rw [if_pos h3] at hS
    have hgi := getD_at h3
    have hix := vindex_s (l := s) (i := (i : Int)) (k := .i64) (b := s[i]) ty9 (by omega) (by simp [h3])
    rw [hgi] at hS
    repeat' first
      | with_reducible refine VC.seq' ?_
      | with_reducible refine VC.block' ?_
      | with_reducible refine VC.skip ?_
      | with_reducible refine VC.label ?_
      | with_reducible refine VC.scope ?_
      | with_reducible refine VC.exit ?_
      | with_reducible refine VC.ret ?_
      | with_reducible refine VL.nil ?_
      | ((first | with_reducible apply VC.plainL | with_reducible apply VC.readsL (by kernel_rfl) (by kernel_rfl) (by kernel_rfl)); (with_reducible apply VL.run tabOk); (· (simp (disch := omega) only [vset, wset, ints, bools, strs, undefM, Nat.reduceLT, Nat.reduceAdd, Nat.reduceBEq, Int.reduceToNat, vlen_str ty9, hix, beqI_f] <;> exact rfl)))
      | ((with_reducible apply VC.cond); (· (simp (disch := omega) only [vset, wset, ints, bools, strs, undefM, Nat.reduceLT, Nat.reduceAdd, Nat.reduceBEq, Int.reduceToNat, vlen_str ty9, hix, beqI_f] <;> exact rfl)); all_goals (intro hcond; try simp only [decide_eq_true_eq, decide_eq_false_iff_not, beq_iff_eq, beq_eq_false_iff_ne, bne_iff_ne, bne_eq_false_iff_eq, ne_eq, reduceCtorEq] at hcond))
      | simp only [qset, Nat.reduceEqDiff, reduceIte]
      | ((apply EndQ.ret1 rfl); (· (simp only [look_cons, Nat.reduceBEq, cond_true, cond_false] <;> exact rfl)))
      | ((apply EndQ.ret2 rfl); (· (simp only [look_cons, Nat.reduceBEq, cond_true, cond_false] <;> exact rfl)); (· (simp only [look_cons, Nat.reduceBEq, cond_true, cond_false] <;> exact rfl)))
      | (refine EndQ.ret0 rfl ?_)
      | (refine EndQ.nor0 rfl ?_)
    apply VL.callR (id := 45) (hE := Enters.of Tryd.func45 (by decide) (by decide)) (hR := isMark_v s[i] O2)
    · exact rfl
    · (simp (disch := omega) only [vset, wset, ints, bools, strs, undefM, Nat.reduceLT, Nat.reduceAdd, Nat.reduceBEq, Int.reduceToNat] <;> exact rfl)
    · (simp (disch := omega) only [vset, wset, ints, bools, strs, undefM, Nat.reduceLT, Nat.reduceAdd, Nat.reduceBEq, Int.reduceToNat] <;> exact rfl)
    · exact rfl
    · exact rfl
    rintro _ O2 ⟨rfl, rfl⟩
    cases hm : isMk s[i]
    · rw [hm, if_neg (by simp)] at hS
      apply VL.run tabOk
      · (simp (disch := omega) only [vset, wset, ints, bools, strs, undefM, Nat.reduceLT, Nat.reduceAdd, Nat.reduceBEq, Int.reduceToNat] <;> exact rfl)
      by_cases hfr : fr < i
      · have hgi2 := getD_at (s := s) (i := i - 1) (by omega)
        have hix2 := vindex_s (l := s) (i := (i : Int) - 1) (k := .i64) (b := s[i - 1]) ty9 (by omega) (by rw [show ((i : Int) - 1).toNat = i - 1 by omega]; exact List.getElem?_eq_getElem (by omega))
        rw [hgi2] at hS
        repeat' first
          | with_reducible refine VC.seq' ?_
          | with_reducible refine VC.block' ?_
          | with_reducible refine VC.skip ?_
          | with_reducible refine VC.label ?_
          | with_reducible refine VC.scope ?_
          | with_reducible refine VC.exit ?_
          | with_reducible refine VC.ret ?_
          | with_reducible refine VL.nil ?_
          | ((with_reducible apply VC.cond); (· (simp (disch := omega) only [vset, wset, ints, bools, strs, undefM, Nat.reduceLT, Nat.reduceAdd, Nat.reduceBEq, Int.reduceToNat] <;> exact rfl)); all_goals (intro hcond; try simp only [decide_eq_true_eq, decide_eq_false_iff_not, beq_iff_eq, beq_eq_false_iff_ne, bne_iff_ne, bne_eq_false_iff_eq, ne_eq, reduceCtorEq] at hcond))
          | simp only [qset, Nat.reduceEqDiff, reduceIte]
          | ((apply EndQ.ret1 rfl); (· (simp only [look_cons, Nat.reduceBEq, cond_true, cond_false] <;> exact rfl)))
          | ((apply EndQ.ret2 rfl); (· (simp only [look_cons, Nat.reduceBEq, cond_true, cond_false] <;> exact rfl)); (· (simp only [look_cons, Nat.reduceBEq, cond_true, cond_false] <;> exact rfl)))
          | (refine EndQ.ret0 rfl ?_)
          | (refine EndQ.nor0 rfl ?_)
        apply VC.drawnL .any [(0, .sil), (1, .sil), (2, .sil), (3, .sil), (4, .sil), (5, .sil), (6, .sil), (8, .sil), (9, .sil), (10, .sil), (11, .sil), (7, .one), (12, .one), (13, .sil), (14, .sil), (15, .sil)] (by simp) (by kernel_rfl) (by kernel_rfl) (by kernel_rfl)
        · exact rfl
        apply VL.run tabOk
        · (simp (disch := omega) only [vset, wset, ints, bools, strs, undefM, Nat.reduceLT, Nat.reduceAdd, Nat.reduceBEq, Int.reduceToNat, hix, hix2] <;> exact rfl)
        apply VL.callR (id := 40) (hE := Enters.of Tryd.func40 (by decide) (by decide)) (hR := IsDigit_v s[i] O2)
        · exact rfl
        · (simp (disch := omega) only [vset, wset, ints, bools, strs, undefM, Nat.reduceLT, Nat.reduceAdd, Nat.reduceBEq, Int.reduceToNat] <;> exact rfl)
        · (simp (disch := omega) only [vset, wset, ints, bools, strs, undefM, Nat.reduceLT, Nat.reduceAdd, Nat.reduceBEq, Int.reduceToNat] <;> exact rfl)
        · exact rfl
        · exact rfl
        rintro _ O2 ⟨rfl, rfl⟩
        apply VL.run tabOk
        · (simp (disch := omega) only [vset, wset, ints, bools, strs, undefM, Nat.reduceLT, Nat.reduceAdd, Nat.reduceBEq, Int.reduceToNat, hix2] <;> exact rfl)
        apply VL.callR (id := 40) (hE := Enters.of Tryd.func40 (by decide) (by decide)) (hR := IsDigit_v s[i - 1] O2)
        · exact rfl
        · (simp (disch := omega) only [vset, wset, ints, bools, strs, undefM, Nat.reduceLT, Nat.reduceAdd, Nat.reduceBEq, Int.reduceToNat] <;> exact rfl)
        · (simp (disch := omega) only [vset, wset, ints, bools, strs, undefM, Nat.reduceLT, Nat.reduceAdd, Nat.reduceBEq, Int.reduceToNat] <;> exact rfl)
        · exact rfl
        · exact rfl
        rintro _ O2 ⟨rfl, rfl⟩
        cases hd1 : isD s[i] <;> cases hd2 : isD s[i - 1]
        · rw [hd1, hd2, if_neg (by simp)] at hS
          apply VL.run tabOk
          · (simp (disch := omega) only [vset, wset, ints, bools, strs, undefM, Nat.reduceLT, Nat.reduceAdd, Nat.reduceBEq, Int.reduceToNat, vbin_neqB ty4] <;> exact rfl)
          repeat' first
            | with_reducible refine VC.seq' ?_
            | with_reducible refine VC.block' ?_
            | with_reducible refine VC.skip ?_
            | with_reducible refine VC.label ?_
            | with_reducible refine VC.scope ?_
            | with_reducible refine VC.exit ?_
            | with_reducible refine VC.ret ?_
            | with_reducible refine VL.nil ?_
            | ((first | with_reducible apply VC.plainL | with_reducible apply VC.readsL (by kernel_rfl) (by kernel_rfl) (by kernel_rfl)); (with_reducible apply VL.run tabOk); (· (simp (disch := omega) only [vset, wset, ints, bools, strs, undefM, Nat.reduceLT, Nat.reduceAdd, Nat.reduceBEq, Int.reduceToNat] <;> exact rfl)))
            | ((with_reducible apply VC.cond); (· (simp (disch := omega) only [vset, wset, ints, bools, strs, undefM, Nat.reduceLT, Nat.reduceAdd, Nat.reduceBEq, Int.reduceToNat] <;> exact rfl)); all_goals (intro hcond; try simp only [decide_eq_true_eq, decide_eq_false_iff_not, beq_iff_eq, beq_eq_false_iff_ne, bne_iff_ne, bne_eq_false_iff_eq, ne_eq, reduceCtorEq] at hcond))
            | simp only [qset, Nat.reduceEqDiff, reduceIte]
            | ((apply EndQ.ret1 rfl); (· (simp only [look_cons, Nat.reduceBEq, cond_true, cond_false] <;> exact rfl)))
            | ((apply EndQ.ret2 rfl); (· (simp only [look_cons, Nat.reduceBEq, cond_true, cond_false] <;> exact rfl)); (· (simp only [look_cons, Nat.reduceBEq, cond_true, cond_false] <;> exact rfl)))
            | (refine EndQ.ret0 rfl ?_)
            | (refine EndQ.nor0 rfl ?_)
          refine ⟨?_, (i + 1, tk), ?_, ⟨by dsimp only; omega, hap⟩, by dsimp only; omega⟩
          · (simp only [vset, wset, ints, bools, strs, undefM, Nat.reduceLT, Nat.reduceAdd, Nat.reduceBEq, Int.reduceToNat] <;> exact rfl)
          · dsimp only
            rw [hS]
            simp only [vset, wset, ints, bools, strs, undefM, Nat.reduceLT, Nat.reduceAdd, Nat.reduceBEq, Int.reduceToNat, Int.natCast_add, Int.cast_ofNat_Int] <;> exact rfl
        · rw [hd1, hd2, if_pos ⟨hfr, by simp⟩] at hS
          have hap' := vappend_app ty47 ty50 (tk' := .full) (cs := L.flatMap pcM) (n := L.length) (ds := [.str ((s.drop fr).take (i - fr)), .v (.bool hy), .v (.bool true)]) (k := 1) hap.app (pc_len L) rfl rfl (by decide) (by decide) (by omega) (by simp [maxLen]; omega)
          have hst : (L ++ [((s.drop fr).take (i - fr), hy, true)]).flatMap pcM = L.flatMap pcM ++ [.str ((s.drop fr).take (i - fr)), .v (.bool hy), .v (.bool true)] := by simp [pcM, mb_def]
          apply VL.run tabOk
          · (simp (disch := omega) only [vset, wset, ints, bools, strs, undefM, Nat.reduceLT, Nat.reduceAdd, Nat.reduceBEq, Int.reduceToNat, vbin_neqB ty4] <;> exact rfl)
          repeat' first
            | with_reducible refine VC.seq' ?_
            | with_reducible refine VC.block' ?_
            | with_reducible refine VC.skip ?_
            | with_reducible refine VC.label ?_
            | with_reducible refine VC.scope ?_
            | with_reducible refine VC.exit ?_
            | with_reducible refine VC.ret ?_
            | with_reducible refine VL.nil ?_
            | ((first | with_reducible apply VC.plainL | with_reducible apply VC.readsL (by kernel_rfl) (by kernel_rfl) (by kernel_rfl)); (with_reducible apply VL.run tabOk); (· (simp (disch := omega) only [vset, wset, ints, bools, strs, undefM, Nat.reduceLT, Nat.reduceAdd, Nat.reduceBEq, Int.reduceToNat, hsl, bd50b, bs47, hap'] <;> exact rfl)))
            | ((with_reducible apply VC.cond); (· (simp (disch := omega) only [vset, wset, ints, bools, strs, undefM, Nat.reduceLT, Nat.reduceAdd, Nat.reduceBEq, Int.reduceToNat, hsl, bd50b, bs47, hap'] <;> exact rfl)); all_goals (intro hcond; try simp only [decide_eq_true_eq, decide_eq_false_iff_not, beq_iff_eq, beq_eq_false_iff_ne, bne_iff_ne, bne_eq_false_iff_eq, ne_eq, reduceCtorEq] at hcond))
            | simp only [qset, Nat.reduceEqDiff, reduceIte]
            | ((apply EndQ.ret1 rfl); (· (simp only [look_cons, Nat.reduceBEq, cond_true, cond_false] <;> exact rfl)))
            | ((apply EndQ.ret2 rfl); (· (simp only [look_cons, Nat.reduceBEq, cond_true, cond_false] <;> exact rfl)); (· (simp only [look_cons, Nat.reduceBEq, cond_true, cond_false] <;> exact rfl)))
            | (refine EndQ.ret0 rfl ?_)
            | (refine EndQ.nor0 rfl ?_)
          refine ⟨?_, (i + 1, .own O2.next 3), ?_, ⟨by dsimp only; omega, hap.next⟩, by dsimp only; omega⟩
          · (simp only [vset, wset, ints, bools, strs, undefM, Nat.reduceLT, Nat.reduceAdd, Nat.reduceBEq, Int.reduceToNat] <;> exact rfl)
          · dsimp only
            rw [hS]
            simp only [vset, wset, ints, bools, strs, undefM, Nat.reduceLT, Nat.reduceAdd, Nat.reduceBEq, Int.reduceToNat, Int.natCast_add, Int.cast_ofNat_Int, List.length_append, List.length_cons, List.length_nil, hst] <;> exact rfl
        · rw [hd1, hd2, if_pos ⟨hfr, by simp⟩] at hS
          have hap' := vappend_app ty47 ty50 (tk' := .full) (cs := L.flatMap pcM) (n := L.length) (ds := [.str ((s.drop fr).take (i - fr)), .v (.bool hy), .v (.bool true)]) (k := 1) hap.app (pc_len L) rfl rfl (by decide) (by decide) (by omega) (by simp [maxLen]; omega)
          have hst : (L ++ [((s.drop fr).take (i - fr), hy, true)]).flatMap pcM = L.flatMap pcM ++ [.str ((s.drop fr).take (i - fr)), .v (.bool hy), .v (.bool true)] := by simp [pcM, mb_def]
          apply VL.run tabOk
          · (simp (disch := omega) only [vset, wset, ints, bools, strs, undefM, Nat.reduceLT, Nat.reduceAdd, Nat.reduceBEq, Int.reduceToNat, vbin_neqB ty4] <;> exact rfl)
          repeat' first
            | with_reducible refine VC.seq' ?_
            | with_reducible refine VC.block' ?_
            | with_reducible refine VC.skip ?_
            | with_reducible refine VC.label ?_
            | with_reducible refine VC.scope ?_
            | with_reducible refine VC.exit ?_
            | with_reducible refine VC.ret ?_
            | with_reducible refine VL.nil ?_
            | ((first | with_reducible apply VC.plainL | with_reducible apply VC.readsL (by kernel_rfl) (by kernel_rfl) (by kernel_rfl)); (with_reducible apply VL.run tabOk); (· (simp (disch := omega) only [vset, wset, ints, bools, strs, undefM, Nat.reduceLT, Nat.reduceAdd, Nat.reduceBEq, Int.reduceToNat, hsl, bd50b, bs47, hap'] <;> exact rfl)))
            | ((with_reducible apply VC.cond); (· (simp (disch := omega) only [vset, wset, ints, bools, strs, undefM, Nat.reduceLT, Nat.reduceAdd, Nat.reduceBEq, Int.reduceToNat, hsl, bd50b, bs47, hap'] <;> exact rfl)); all_goals (intro hcond; try simp only [decide_eq_true_eq, decide_eq_false_iff_not, beq_iff_eq, beq_eq_false_iff_ne, bne_iff_ne, bne_eq_false_iff_eq, ne_eq, reduceCtorEq] at hcond))
            | simp only [qset, Nat.reduceEqDiff, reduceIte]
            | ((apply EndQ.ret1 rfl); (· (simp only [look_cons, Nat.reduceBEq, cond_true, cond_false] <;> exact rfl)))
            | ((apply EndQ.ret2 rfl); (· (simp only [look_cons, Nat.reduceBEq, cond_true, cond_false] <;> exact rfl)); (· (simp only [look_cons, Nat.reduceBEq, cond_true, cond_false] <;> exact rfl)))
            | (refine EndQ.ret0 rfl ?_)
            | (refine EndQ.nor0 rfl ?_)
          refine ⟨?_, (i + 1, .own O2.next 3), ?_, ⟨by dsimp only; omega, hap.next⟩, by dsimp only; omega⟩
          · (simp only [vset, wset, ints, bools, strs, undefM, Nat.reduceLT, Nat.reduceAdd, Nat.reduceBEq, Int.reduceToNat] <;> exact rfl)
          · dsimp only
            rw [hS]
            simp only [vset, wset, ints, bools, strs, undefM, Nat.reduceLT, Nat.reduceAdd, Nat.reduceBEq, Int.reduceToNat, Int.natCast_add, Int.cast_ofNat_Int, List.length_append, List.length_cons, List.length_nil, hst] <;> exact rfl
        · rw [hd1, hd2, if_neg (by simp)] at hS
          apply VL.run tabOk
          · (simp (disch := omega) only [vset, wset, ints, bools, strs, undefM, Nat.reduceLT, Nat.reduceAdd, Nat.reduceBEq, Int.reduceToNat, vbin_neqB ty4] <;> exact rfl)
          repeat' first
            | with_reducible refine VC.seq' ?_
            | with_reducible refine VC.block' ?_
            | with_reducible refine VC.skip ?_
            | with_reducible refine VC.label ?_
            | with_reducible refine VC.scope ?_
            | with_reducible refine VC.exit ?_
            | with_reducible refine VC.ret ?_
            | with_reducible refine VL.nil ?_
            | ((first | with_reducible apply VC.plainL | with_reducible apply VC.readsL (by kernel_rfl) (by kernel_rfl) (by kernel_rfl)); (with_reducible apply VL.run tabOk); (· (simp (disch := omega) only [vset, wset, ints, bools, strs, undefM, Nat.reduceLT, Nat.reduceAdd, Nat.reduceBEq, Int.reduceToNat] <;> exact rfl)))
            | ((with_reducible apply VC.cond); (· (simp (disch := omega) only [vset, wset, ints, bools, strs, undefM, Nat.reduceLT, Nat.reduceAdd, Nat.reduceBEq, Int.reduceToNat] <;> exact rfl)); all_goals (intro hcond; try simp only [decide_eq_true_eq, decide_eq_false_iff_not, beq_iff_eq, beq_eq_false_iff_ne, bne_iff_ne, bne_eq_false_iff_eq, ne_eq, reduceCtorEq] at hcond))
            | simp only [qset, Nat.reduceEqDiff, reduceIte]
            | ((apply EndQ.ret1 rfl); (· (simp only [look_cons, Nat.reduceBEq, cond_true, cond_false] <;> exact rfl)))
            | ((apply EndQ.ret2 rfl); (· (simp only [look_cons, Nat.reduceBEq, cond_true, cond_false] <;> exact rfl)); (· (simp only [look_cons, Nat.reduceBEq, cond_true, cond_false] <;> exact rfl)))
            | (refine EndQ.ret0 rfl ?_)
            | (refine EndQ.nor0 rfl ?_)
          refine ⟨?_, (i + 1, tk), ?_, ⟨by dsimp only; omega, hap⟩, by dsimp only; omega⟩
          · (simp only [vset, wset, ints, bools, strs, undefM, Nat.reduceLT, Nat.reduceAdd, Nat.reduceBEq, Int.reduceToNat] <;> exact rfl)
          · dsimp only
            rw [hS]
            simp only [vset, wset, ints, bools, strs, undefM, Nat.reduceLT, Nat.reduceAdd, Nat.reduceBEq, Int.reduceToNat, Int.natCast_add, Int.cast_ofNat_Int] <;> exact rfl
      · rw [if_neg (fun h => hfr h.1)] at hS
        repeat' first
          | with_reducible refine VC.seq' ?_
          | with_reducible refine VC.block' ?_
          | with_reducible refine VC.skip ?_
          | with_reducible refine VC.label ?_
          | with_reducible refine VC.scope ?_
          | with_reducible refine VC.exit ?_
          | with_reducible refine VC.ret ?_
          | with_reducible refine VL.nil ?_
          | ((first | with_reducible apply VC.plainL | with_reducible apply VC.readsL (by kernel_rfl) (by kernel_rfl) (by kernel_rfl)); (with_reducible apply VL.run tabOk); (· (simp (disch := omega) only [vset, wset, ints, bools, strs, undefM, Nat.reduceLT, Nat.reduceAdd, Nat.reduceBEq, Int.reduceToNat] <;> exact rfl)))
          | ((with_reducible apply VC.cond); (· (simp (disch := omega) only [vset, wset, ints, bools, strs, undefM, Nat.reduceLT, Nat.reduceAdd, Nat.reduceBEq, Int.reduceToNat] <;> exact rfl)); all_goals (intro hcond; try simp only [decide_eq_true_eq, decide_eq_false_iff_not, beq_iff_eq, beq_eq_false_iff_ne, bne_iff_ne, bne_eq_false_iff_eq, ne_eq, reduceCtorEq] at hcond))
          | simp only [qset, Nat.reduceEqDiff, reduceIte]
          | ((apply EndQ.ret1 rfl); (· (simp only [look_cons, Nat.reduceBEq, cond_true, cond_false] <;> exact rfl)))
          | ((apply EndQ.ret2 rfl); (· (simp only [look_cons, Nat.reduceBEq, cond_true, cond_false] <;> exact rfl)); (· (simp only [look_cons, Nat.reduceBEq, cond_true, cond_false] <;> exact rfl)))
          | (refine EndQ.ret0 rfl ?_)
          | (refine EndQ.nor0 rfl ?_)
        refine ⟨?_, (i + 1, tk), ?_, ⟨by dsimp only; omega, hap⟩, by dsimp only; omega⟩
        · (simp only [vset, wset, ints, bools, strs, undefM, Nat.reduceLT, Nat.reduceAdd, Nat.reduceBEq, Int.reduceToNat] <;> exact rfl)
        · dsimp only
          rw [hS]
          simp only [vset, wset, ints, bools, strs, undefM, Nat.reduceLT, Nat.reduceAdd, Nat.reduceBEq, Int.reduceToNat, Int.natCast_add, Int.cast_ofNat_Int] <;> exact rfl
    · rw [hm, if_pos rfl] at hS
      have hap' := vappend_app ty47 ty50 (tk' := .full) (cs := L.flatMap pcM) (n := L.length) (ds := [.str ((s.drop fr).take (i - fr)), .v (.bool hy), .v (.bool false)]) (k := 1) hap.app (pc_len L) rfl rfl (by decide) (by decide) (by omega) (by simp [maxLen]; omega)
      have hst : (L ++ [((s.drop fr).take (i - fr), hy, false)]).flatMap pcM = L.flatMap pcM ++ [.str ((s.drop fr).take (i - fr)), .v (.bool hy), .v (.bool false)] := by simp [pcM, mb_def]
      apply VL.run tabOk
      · (simp (disch := omega) only [vset, wset, ints, bools, strs, undefM, Nat.reduceLT, Nat.reduceAdd, Nat.reduceBEq, Int.reduceToNat] <;> exact rfl)
      by_cases h45 : s[i] = 45
      · have h45n : s[i].toNat = 45 := by rw [h45]; rfl
        have hbq : (s[i] == 45) = true := by rw [h45]; rfl
        repeat' first
          | with_reducible refine VC.seq' ?_
          | with_reducible refine VC.block' ?_
          | with_reducible refine VC.skip ?_
          | with_reducible refine VC.label ?_
          | with_reducible refine VC.scope ?_
          | with_reducible refine VC.exit ?_
          | with_reducible refine VC.ret ?_
          | with_reducible refine VL.nil ?_
          | ((first | with_reducible apply VC.plainL | with_reducible apply VC.readsL (by kernel_rfl) (by kernel_rfl) (by kernel_rfl)); (with_reducible apply VL.run tabOk); (· (simp (disch := omega) only [vset, wset, ints, bools, strs, undefM, Nat.reduceLT, Nat.reduceAdd, Nat.reduceBEq, Int.reduceToNat, hsl, bd50a, bs47, hap', vlen_str ty9, hix, byM_def, beqI_t] <;> exact rfl)))
          | ((with_reducible apply VC.cond); (· (simp (disch := omega) only [vset, wset, ints, bools, strs, undefM, Nat.reduceLT, Nat.reduceAdd, Nat.reduceBEq, Int.reduceToNat, hsl, bd50a, bs47, hap', vlen_str ty9, hix, byM_def, beqI_t] <;> exact rfl)); all_goals (intro hcond; try simp only [decide_eq_true_eq, decide_eq_false_iff_not, beq_iff_eq, beq_eq_false_iff_ne, bne_iff_ne, bne_eq_false_iff_eq, ne_eq, reduceCtorEq] at hcond))
          | simp only [qset, Nat.reduceEqDiff, reduceIte]
          | ((apply EndQ.ret1 rfl); (· (simp only [look_cons, Nat.reduceBEq, cond_true, cond_false] <;> exact rfl)))
          | ((apply EndQ.ret2 rfl); (· (simp only [look_cons, Nat.reduceBEq, cond_true, cond_false] <;> exact rfl)); (· (simp only [look_cons, Nat.reduceBEq, cond_true, cond_false] <;> exact rfl)))
          | (refine EndQ.ret0 rfl ?_)
          | (refine EndQ.nor0 rfl ?_)
        refine ⟨?_, (i + 1, .own O2.next 3), ?_, ⟨by dsimp only; omega, hap.next⟩, by dsimp only; omega⟩
        · (simp only [vset, wset, ints, bools, strs, undefM, Nat.reduceLT, Nat.reduceAdd, Nat.reduceBEq, Int.reduceToNat] <;> exact rfl)
        · dsimp only
          rw [hS]
          simp only [vset, wset, ints, bools, strs, undefM, Nat.reduceLT, Nat.reduceAdd, Nat.reduceBEq, Int.reduceToNat, Int.natCast_add, Int.cast_ofNat_Int, List.length_append, List.length_cons, List.length_nil, hst, hbq] <;> exact rfl
      · have h45n : s[i].toNat ≠ 45 := fun h => h45 (UInt8.toNat_inj.1 h)
        have hbq : (s[i] == 45) = false := by simpa using h45
        repeat' first
          | with_reducible refine VC.seq' ?_
          | with_reducible refine VC.block' ?_
          | with_reducible refine VC.skip ?_
          | with_reducible refine VC.label ?_
          | with_reducible refine VC.scope ?_
          | with_reducible refine VC.exit ?_
          | with_reducible refine VC.ret ?_
          | with_reducible refine VL.nil ?_
          | ((first | with_reducible apply VC.plainL | with_reducible apply VC.readsL (by kernel_rfl) (by kernel_rfl) (by kernel_rfl)); (with_reducible apply VL.run tabOk); (· (simp (disch := omega) only [vset, wset, ints, bools, strs, undefM, Nat.reduceLT, Nat.reduceAdd, Nat.reduceBEq, Int.reduceToNat, hsl, bd50a, bs47, hap', vlen_str ty9, hix, byM_def, beqI_f] <;> exact rfl)))
          | ((with_reducible apply VC.cond); (· (simp (disch := omega) only [vset, wset, ints, bools, strs, undefM, Nat.reduceLT, Nat.reduceAdd, Nat.reduceBEq, Int.reduceToNat, hsl, bd50a, bs47, hap', vlen_str ty9, hix, byM_def, beqI_f] <;> exact rfl)); all_goals (intro hcond; try simp only [decide_eq_true_eq, decide_eq_false_iff_not, beq_iff_eq, beq_eq_false_iff_ne, bne_iff_ne, bne_eq_false_iff_eq, ne_eq, reduceCtorEq] at hcond))
          | simp only [qset, Nat.reduceEqDiff, reduceIte]
          | ((apply EndQ.ret1 rfl); (· (simp only [look_cons, Nat.reduceBEq, cond_true, cond_false] <;> exact rfl)))
          | ((apply EndQ.ret2 rfl); (· (simp only [look_cons, Nat.reduceBEq, cond_true, cond_false] <;> exact rfl)); (· (simp only [look_cons, Nat.reduceBEq, cond_true, cond_false] <;> exact rfl)))
          | (refine EndQ.ret0 rfl ?_)
          | (refine EndQ.nor0 rfl ?_)
        refine ⟨?_, (i + 1, .own O2.next 3), ?_, ⟨by dsimp only; omega, hap.next⟩, by dsimp only; omega⟩
        · (simp only [vset, wset, ints, bools, strs, undefM, Nat.reduceLT, Nat.reduceAdd, Nat.reduceBEq, Int.reduceToNat] <;> exact rfl)
        · dsimp only
          rw [hS]
          simp only [vset, wset, ints, bools, strs, undefM, Nat.reduceLT, Nat.reduceAdd, Nat.reduceBEq, Int.reduceToNat, Int.natCast_add, Int.cast_ofNat_Int, List.length_append, List.length_cons, List.length_nil, hst, hbq] <;> exact rfl
  · have hie : i = s.length := by omega
    rw [if_neg h3] at hS
    have hap' := vappend_app ty47 ty50 (tk' := .full) (cs := L.flatMap pcM) (n := L.length) (ds := [.str ((s.drop fr).take (i - fr)), .v (.bool hy), .v (.bool false)]) (k := 1) hap.app (pc_len L) rfl rfl (by decide) (by decide) (by omega) (by simp [maxLen]; omega)
    have hst : (L ++ [((s.drop fr).take (i - fr), hy, false)]).flatMap pcM = L.flatMap pcM ++ [.str ((s.drop fr).take (i - fr)), .v (.bool hy), .v (.bool false)] := by simp [pcM, mb_def]
    repeat' first
      | with_reducible refine VC.seq' ?_
      | with_reducible refine VC.block' ?_
      | with_reducible refine VC.skip ?_
      | with_reducible refine VC.label ?_
      | with_reducible refine VC.scope ?_
      | with_reducible refine VC.exit ?_
      | with_reducible refine VC.ret ?_
      | with_reducible refine VL.nil ?_
      | ((first | with_reducible apply VC.plainL | with_reducible apply VC.readsL (by kernel_rfl) (by kernel_rfl) (by kernel_rfl)); (with_reducible apply VL.run tabOk); (· (simp (disch := omega) only [vset, wset, ints, bools, strs, undefM, Nat.reduceLT, Nat.reduceAdd, Nat.reduceBEq, Int.reduceToNat, vlen_str ty9, beqI_t, hsl, bd50a, bs47, hap'] <;> exact rfl)))
      | ((with_reducible apply VC.cond); (· (simp (disch := omega) only [vset, wset, ints, bools, strs, undefM, Nat.reduceLT, Nat.reduceAdd, Nat.reduceBEq, Int.reduceToNat, vlen_str ty9, beqI_t, hsl, bd50a, bs47, hap'] <;> exact rfl)); all_goals (intro hcond; try simp only [decide_eq_true_eq, decide_eq_false_iff_not, beq_iff_eq, beq_eq_false_iff_ne, bne_iff_ne, bne_eq_false_iff_eq, ne_eq, reduceCtorEq] at hcond))
      | simp only [qset, Nat.reduceEqDiff, reduceIte]
      | ((apply EndQ.ret1 rfl); (· (simp only [look_cons, Nat.reduceBEq, cond_true, cond_false] <;> exact rfl)))
      | ((apply EndQ.ret2 rfl); (· (simp only [look_cons, Nat.reduceBEq, cond_true, cond_false] <;> exact rfl)); (· (simp only [look_cons, Nat.reduceBEq, cond_true, cond_false] <;> exact rfl)))
      | (refine EndQ.ret0 rfl ?_)
      | (refine EndQ.nor0 rfl ?_)
    refine ⟨?_, (i + 1, .own O2.next 3), ?_, ⟨by dsimp only; omega, hap.next⟩, by dsimp only; omega⟩
    · (simp only [vset, wset, ints, bools, strs, undefM, Nat.reduceLT, Nat.reduceAdd, Nat.reduceBEq, Int.reduceToNat] <;> exact rfl)
    · dsimp only
      rw [hS]
      simp only [vset, wset, ints, bools, strs, undefM, Nat.reduceLT, Nat.reduceAdd, Nat.reduceBEq, Int.reduceToNat, Int.natCast_add, Int.cast_ofNat_Int, List.length_append, List.length_cons, List.length_nil, hst] <;> exact rfl
end Go.Proofs.YtjbpnhmjnkolbaaDoor
