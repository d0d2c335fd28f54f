/-
  pomaceref21.AtMost, walked: the same clauses.
-/
import Derived.Test.YtcfoongiffpnlaaWeigh2
set_option linter.unusedVariables false
set_option linter.unusedSimpArgs false
namespace Go.Proofs.Ytcfoongiffpnlaa
open Go.RowKit

def cF (c : List Int) : MV := .sl c.length (c.map mi) .full
section
variable {O : VH} {B : Nat} {s : Tok} {L : List (List Int)} (ha : App O B 1 s) (hl : L.length ≤ 100000) {a b c d e : Int}
include ha hl
theorem ap_1 : vappend (tyOf Try.prog) O 24 (.sl L.length (L.map cF) s) (.sl 1 [.sl 1 [.v (.int .i64 a)] .full] .full) = some (.sl (L ++ [[a]]).length ((L ++ [[a]]).map cF) (.own O.next 1), O.after s) := by
  rw [vappend_app ty24 ty22 (B := B) ha (by simp) rfl rfl (by decide) (by decide) (by omega) (by simp [maxLen]; omega), List.length_append, List.map_append]; rfl
theorem ap_2 : vappend (tyOf Try.prog) O 24 (.sl L.length (L.map cF) s) (.sl 1 [.sl 2 [.v (.int .i64 a), .v (.int .i64 b)] .full] .full) = some (.sl (L ++ [[a, b]]).length ((L ++ [[a, b]]).map cF) (.own O.next 1), O.after s) := by
  rw [vappend_app ty24 ty22 (B := B) ha (by simp) rfl rfl (by decide) (by decide) (by omega) (by simp [maxLen]; omega), List.length_append, List.map_append]; rfl
theorem ap_22 : vappend (tyOf Try.prog) O 24 (.sl L.length (L.map cF) s) (.sl 2 [.sl 2 [.v (.int .i64 a), .v (.int .i64 b)] .full, .sl 2 [.v (.int .i64 c), .v (.int .i64 d)] .full] .full) = some (.sl (L ++ [[a, b], [c, d]]).length ((L ++ [[a, b], [c, d]]).map cF) (.own O.next 1), O.after s) := by
  rw [vappend_app ty24 ty22 (B := B) ha (by simp) rfl rfl (by decide) (by decide) (by omega) (by simp [maxLen]; omega), List.length_append, List.map_append]; rfl
theorem ap_32 : vappend (tyOf Try.prog) O 24 (.sl L.length (L.map cF) s) (.sl 2 [.sl 3 [.v (.int .i64 a), .v (.int .i64 b), .v (.int .i64 c)] .full, .sl 2 [.v (.int .i64 d), .v (.int .i64 e)] .full] .full) = some (.sl (L ++ [[a, b, c], [d, e]]).length ((L ++ [[a, b, c], [d, e]]).map cF) (.own O.next 1), O.after s) := by
  rw [vappend_app ty24 ty22 (B := B) ha (by simp) rfl rfl (by decide) (by decide) (by omega) (by simp [maxLen]; omega), List.length_append, List.map_append]; rfl
end
/-- What has been appended to so far lies behind O0. -/
structure Ap (O0 : VH) (s : Tok) (O : VH) : Prop where
  ge : O0.Ge O
  app : App O O0.next 1 s
theorem Ap.refl (O : VH) {s : Tok} (h : s = .nil ∨ s = .full) : Ap O s O := ⟨VH.Ge.refl _, by rcases h with rfl | rfl <;> trivial⟩
theorem Ap.next {O0 O : VH} {s : Tok} (h : Ap O0 s O) : Ap O0 (.own O.next 1) (O.after s) := ⟨h.ge.after h.app (Nat.le_refl _), App.after h.ge.next⟩

def rl (lits : List Int) (k next : Int) (i : Nat) : List (List Int) :=
  if i = 0 then [] else if i < lits.length then aHead lits k next ++ (List.range (k.toNat - 1)).map (aHeadJ k next) ++ (List.range (i - 1)).flatMap (fun i => aRow k next (lits.getD (i + 1) 0) (i + 2)) else aMain lits k next
theorem rl_len (lits : List Int) (k next : Int) (hk : 1 ≤ k) (i : Nat) : (rl lits k next i).length ≤ k.toNat + (i + lits.length) * (2 * k.toNat + 1) + 1 := by
  unfold rl
  have h1 : (i - 1) * (2 * k.toNat + 1) ≤ (i + lits.length) * (2 * k.toNat + 1) := Nat.mul_le_mul (by omega) (Nat.le_refl _)
  have h2 : (lits.length - 2) * (2 * k.toNat + 1) ≤ (i + lits.length) * (2 * k.toNat + 1) := Nat.mul_le_mul (by omega) (Nat.le_refl _)
  split
  · simp
  · split
    · simp only [List.length_append, List.length_map, List.length_range, rows_len hk, aHead, List.length_cons, List.length_nil]; omega
    · simp only [aMain, List.length_append, List.length_map, List.length_range, rows_len hk, aHead, List.length_cons, List.length_nil]; omega
/-- pomaceref21.AtMost -/
theorem rAtMost_v (lits : List Int) (k next : Int) (tk : Tok) (O : VH) (hx : ∀ x ∈ lits, -1000000 ≤ x ∧ x ≤ 1000000) (hn : lits.length ≤ 50) (hk : -1000 ≤ k ∧ k ≤ 1000) (hnx : 0 ≤ next ∧ next ≤ 1000000) :
    VF Try.prog 16 [.sl lits.length (lits.map mi) tk, mi k, mi next] O (Ret fun m O' => O.Ge O' ∧ ∃ (s : Tok), m = .tuple [.sl (am lits k next).1.length ((am lits k next).1.map cF) s, mi (am lits k next).2]) := by
  by_cases hk0 : k < 0
  · have e : am lits k next = ([[]], next) := by rw [am, if_pos hk0]
    refine VF.enter' tabOk Try.func16 (c := _) rfl (Nat.le_of_ble_eq_true rfl) ?_
    rw [show Try.f16.ntmps = 155 from rfl]
    simp only [argEnv, Nat.zero_add, Nat.reduceAdd]
    repeat' first
      | with_reducible refine VC.seq' ?_
      | with_reducible refine VC.block' ?_
      | with_reducible refine VC.skip ?_
      | with_reducible refine VC.label ?_
      | with_reducible refine VC.scope ?_
      | with_reducible refine VC.exit ?_
      | with_reducible refine VC.ret ?_
      | with_reducible refine VL.nil ?_
      | ((first | with_reducible apply VC.plainL | with_reducible apply VC.readsL (by kernel_rfl) (by kernel_rfl) (by kernel_rfl)); (with_reducible apply VL.run tabOk); (· (simp (disch := omega) only [vset, wset, ints, bools, strs, undefM, Nat.reduceLT, Nat.reduceAdd, Nat.reduceBEq, Int.reduceToNat, vbs0 ty22 ty3, vbs1s ty24 ty22] <;> exact rfl)))
      | ((with_reducible apply VC.cond); (· (simp (disch := omega) only [vset, wset, ints, bools, strs, undefM, Nat.reduceLT, Nat.reduceAdd, Nat.reduceBEq, Int.reduceToNat, vbs0 ty22 ty3, vbs1s ty24 ty22] <;> exact rfl)); all_goals (intro hcond; try simp only [decide_eq_true_eq, decide_eq_false_iff_not, beq_iff_eq, beq_eq_false_iff_ne, bne_iff_ne, bne_eq_false_iff_eq, ne_eq, reduceCtorEq] at hcond))
      | simp only [qset, Nat.reduceEqDiff, reduceIte]
      | ((apply EndQ.ret1 rfl); (· (simp only [look_cons, Nat.reduceBEq, cond_true, cond_false] <;> exact rfl)))
      | ((apply EndQ.ret2 rfl); (· (simp only [look_cons, Nat.reduceBEq, cond_true, cond_false] <;> exact rfl)); (· (simp only [look_cons, Nat.reduceBEq, cond_true, cond_false] <;> exact rfl)))
      | (refine EndQ.ret0 rfl ?_)
      | (refine EndQ.nor0 rfl ?_)
    exact ⟨VH.Ge.refl _, .full, by rw [e]; rfl⟩
  by_cases hkn : k ≥ lits.length
  · have e : am lits k next = ([], next) := by rw [am, if_neg hk0, if_pos hkn]
    refine VF.enter' tabOk Try.func16 (c := _) rfl (Nat.le_of_ble_eq_true rfl) ?_
    rw [show Try.f16.ntmps = 155 from rfl]
    simp only [argEnv, Nat.zero_add, Nat.reduceAdd]
    repeat' first
      | with_reducible refine VC.seq' ?_
      | with_reducible refine VC.block' ?_
      | with_reducible refine VC.skip ?_
      | with_reducible refine VC.label ?_
      | with_reducible refine VC.scope ?_
      | with_reducible refine VC.exit ?_
      | with_reducible refine VC.ret ?_
      | with_reducible refine VL.nil ?_
      | ((first | with_reducible apply VC.plainL | with_reducible apply VC.readsL (by kernel_rfl) (by kernel_rfl) (by kernel_rfl)); (with_reducible apply VL.run tabOk); (· (simp (disch := omega) only [vset, wset, ints, bools, strs, undefM, Nat.reduceLT, Nat.reduceAdd, Nat.reduceBEq, Int.reduceToNat, vlen_sl ty22] <;> exact rfl)))
      | ((with_reducible apply VC.cond); (· (simp (disch := omega) only [vset, wset, ints, bools, strs, undefM, Nat.reduceLT, Nat.reduceAdd, Nat.reduceBEq, Int.reduceToNat, vlen_sl ty22] <;> exact rfl)); all_goals (intro hcond; try simp only [decide_eq_true_eq, decide_eq_false_iff_not, beq_iff_eq, beq_eq_false_iff_ne, bne_iff_ne, bne_eq_false_iff_eq, ne_eq, reduceCtorEq] at hcond))
      | simp only [qset, Nat.reduceEqDiff, reduceIte]
      | ((apply EndQ.ret1 rfl); (· (simp only [look_cons, Nat.reduceBEq, cond_true, cond_false] <;> exact rfl)))
      | ((apply EndQ.ret2 rfl); (· (simp only [look_cons, Nat.reduceBEq, cond_true, cond_false] <;> exact rfl)); (· (simp only [look_cons, Nat.reduceBEq, cond_true, cond_false] <;> exact rfl)))
      | (refine EndQ.ret0 rfl ?_)
      | (refine EndQ.nor0 rfl ?_)
    exact ⟨VH.Ge.refl _, .nil, by rw [e]; rfl⟩
  by_cases hke : k = 0
  · have e : am lits k next = (lits.map fun x => [-x], next) := by rw [am, if_neg hk0, if_neg hkn, if_pos hke]
    refine VF.enter' tabOk Try.func16 (c := _) rfl (Nat.le_of_ble_eq_true rfl) ?_
    rw [show Try.f16.ntmps = 155 from rfl]
    simp only [argEnv, Nat.zero_add, Nat.reduceAdd]
    repeat' first
      | with_reducible refine VC.seq' ?_
      | with_reducible refine VC.block' ?_
      | with_reducible refine VC.skip ?_
      | with_reducible refine VC.label ?_
      | with_reducible refine VC.scope ?_
      | with_reducible refine VC.exit ?_
      | with_reducible refine VC.ret ?_
      | with_reducible refine VL.nil ?_
      | ((first | with_reducible apply VC.plainL | with_reducible apply VC.readsL (by kernel_rfl) (by kernel_rfl) (by kernel_rfl)); (with_reducible apply VL.run tabOk); (· (simp (disch := omega) only [vset, wset, ints, bools, strs, undefM, Nat.reduceLT, Nat.reduceAdd, Nat.reduceBEq, Int.reduceToNat, vlen_sl ty22] <;> exact rfl)))
      | ((with_reducible apply VC.cond); (· (simp (disch := omega) only [vset, wset, ints, bools, strs, undefM, Nat.reduceLT, Nat.reduceAdd, Nat.reduceBEq, Int.reduceToNat, vlen_sl ty22] <;> exact rfl)); all_goals (intro hcond; try simp only [decide_eq_true_eq, decide_eq_false_iff_not, beq_iff_eq, beq_eq_false_iff_ne, bne_iff_ne, bne_eq_false_iff_eq, ne_eq, reduceCtorEq] at hcond))
      | simp only [qset, Nat.reduceEqDiff, reduceIte]
      | ((apply EndQ.ret1 rfl); (· (simp only [look_cons, Nat.reduceBEq, cond_true, cond_false] <;> exact rfl)))
      | ((apply EndQ.ret2 rfl); (· (simp only [look_cons, Nat.reduceBEq, cond_true, cond_false] <;> exact rfl)); (· (simp only [look_cons, Nat.reduceBEq, cond_true, cond_false] <;> exact rfl)))
      | (refine EndQ.ret0 rfl ?_)
      | (refine EndQ.nor0 rfl ?_)
    refine VC.loopS' [2, 8, 28, 29, 30] (fun s : Nat × Tok => [mi next, .sl ((lits.take s.1).map fun x => [-x]).length (((lits.take s.1).map fun x => [-x]).map cF) s.2, .sl lits.length (lits.map mi) tk, mi lits.length, mi s.1])
      (fun s O' => s.1 ≤ lits.length ∧ Ap O s.2 O') (fun s => lits.length - s.1) (0, .nil) ?_ ⟨by omega, Ap.refl _ (.inl rfl)⟩ ?_
    · (simp only [vset, wset, ints, bools, strs, undefM, Nat.reduceLT, Nat.reduceAdd, Nat.reduceBEq, Int.reduceToNat] <;> exact rfl)
    rintro ⟨j, s⟩ O' ⟨hj, hM⟩
    rw [pair_cons]
    dsimp only at hj hM
    by_cases h2 : j < lits.length
    · have hb := hx lits[j] (List.getElem_mem h2)
      have hap := fun a => ap_1 (a := a) (L := (lits.take j).map fun x => [-x]) hM.app (by simp; omega)
      repeat' first
        | with_reducible refine VC.seq' ?_
        | with_reducible refine VC.block' ?_
        | with_reducible refine VC.skip ?_
        | with_reducible refine VC.label ?_
        | with_reducible refine VC.scope ?_
        | with_reducible refine VC.exit ?_
        | with_reducible refine VC.ret ?_
        | with_reducible refine VL.nil ?_
        | ((first | with_reducible apply VC.plainL | with_reducible apply VC.readsL (by kernel_rfl) (by kernel_rfl) (by kernel_rfl)); (with_reducible apply VL.run tabOk); (· (simp (disch := omega) only [vset, wset, ints, bools, strs, undefM, Nat.reduceLT, Nat.reduceAdd, Nat.reduceBEq, Int.reduceToNat, vix_sl ty22 ty3, vload_c ty3 rfl, vbs1v ty22 ty3, vbs1s ty24 ty22, hap] <;> exact rfl)))
        | ((with_reducible apply VC.cond); (· (simp (disch := omega) only [vset, wset, ints, bools, strs, undefM, Nat.reduceLT, Nat.reduceAdd, Nat.reduceBEq, Int.reduceToNat, vix_sl ty22 ty3, vload_c ty3 rfl, vbs1v ty22 ty3, vbs1s ty24 ty22, hap] <;> exact rfl)); all_goals (intro hcond; try simp only [decide_eq_true_eq, decide_eq_false_iff_not, beq_iff_eq, beq_eq_false_iff_ne, bne_iff_ne, bne_eq_false_iff_eq, ne_eq, reduceCtorEq] at hcond))
        | simp only [qset, Nat.reduceEqDiff, reduceIte]
        | ((apply EndQ.ret1 rfl); (· (simp only [look_cons, Nat.reduceBEq, cond_true, cond_false] <;> exact rfl)))
        | ((apply EndQ.ret2 rfl); (· (simp only [look_cons, Nat.reduceBEq, cond_true, cond_false] <;> exact rfl)); (· (simp only [look_cons, Nat.reduceBEq, cond_true, cond_false] <;> exact rfl)))
        | (refine EndQ.ret0 rfl ?_)
        | (refine EndQ.nor0 rfl ?_)
      refine ⟨(j + 1, .own O'.next 1), ?_, ⟨by dsimp only; omega, hM.next⟩, by dsimp only; omega⟩
      dsimp only
      rw [take_snoc _ _ h2, List.map_append (l₂ := [lits[j]])]
      simp only [vset, wset, ints, bools, strs, undefM, Nat.reduceLT, Nat.reduceAdd, Nat.reduceBEq, Int.reduceToNat, Int.natCast_add, Int.cast_ofNat_Int]
    · repeat' first
        | with_reducible refine VC.seq' ?_
        | with_reducible refine VC.block' ?_
        | with_reducible refine VC.skip ?_
        | with_reducible refine VC.label ?_
        | with_reducible refine VC.scope ?_
        | with_reducible refine VC.exit ?_
        | with_reducible refine VC.ret ?_
        | with_reducible refine VL.nil ?_
        | ((first | with_reducible apply VC.plainL | with_reducible apply VC.readsL (by kernel_rfl) (by kernel_rfl) (by kernel_rfl)); (with_reducible apply VL.run tabOk); (· (simp (disch := omega) only [vset, wset, ints, bools, strs, undefM, Nat.reduceLT, Nat.reduceAdd, Nat.reduceBEq, Int.reduceToNat] <;> exact rfl)))
        | ((with_reducible apply VC.cond); (· (simp (disch := omega) only [vset, wset, ints, bools, strs, undefM, Nat.reduceLT, Nat.reduceAdd, Nat.reduceBEq, Int.reduceToNat] <;> exact rfl)); all_goals (intro hcond; try simp only [decide_eq_true_eq, decide_eq_false_iff_not, beq_iff_eq, beq_eq_false_iff_ne, bne_iff_ne, bne_eq_false_iff_eq, ne_eq, reduceCtorEq] at hcond))
        | simp only [qset, Nat.reduceEqDiff, reduceIte]
        | ((apply EndQ.ret1 rfl); (· (simp only [look_cons, Nat.reduceBEq, cond_true, cond_false] <;> exact rfl)))
        | ((apply EndQ.ret2 rfl); (· (simp only [look_cons, Nat.reduceBEq, cond_true, cond_false] <;> exact rfl)); (· (simp only [look_cons, Nat.reduceBEq, cond_true, cond_false] <;> exact rfl)))
        | (refine EndQ.ret0 rfl ?_)
        | (refine EndQ.nor0 rfl ?_)
      refine ⟨hM.ge, s, ?_⟩
      rw [e, List.take_of_length_le (by omega)]; rfl
  have e : am lits k next = (aMain lits k next, next + (lits.length - 1) * k) := by rw [am, if_neg hk0, if_neg hkn, if_neg hke]
  have h0 : 0 < lits.length := by omega
  have hb0 := hx lits[0] (List.getElem_mem h0)
  have hRL : ∀ i, i ≤ lits.length → (rl lits k next i).length ≤ 20000 := fun i hi => by
    refine Nat.le_trans (rl_len lits k next (by omega) i) ?_
    have h3 : (i + lits.length) * (2 * k.toNat + 1) ≤ 100 * 101 := Nat.mul_le_mul (by omega) (by omega)
    omega
  refine VF.enter' tabOk Try.func16 (c := _) rfl (Nat.le_of_ble_eq_true rfl) ?_
  rw [show Try.f16.ntmps = 155 from rfl]
  simp only [argEnv, Nat.zero_add, Nat.reduceAdd]
  repeat' first
    | with_reducible refine VC.seq' ?_
    | with_reducible refine VC.block' ?_
    | with_reducible refine VC.skip ?_
    | with_reducible refine VC.label ?_
    | with_reducible refine VC.scope ?_
    | with_reducible refine VC.exit ?_
    | with_reducible refine VC.ret ?_
    | with_reducible refine VL.nil ?_
    | ((first | with_reducible apply VC.plainL | with_reducible apply VC.readsL (by kernel_rfl) (by kernel_rfl) (by kernel_rfl)); (with_reducible apply VL.run tabOk); (· (simp (disch := omega) only [vset, wset, ints, bools, strs, undefM, Nat.reduceLT, Nat.reduceAdd, Nat.reduceBEq, Int.reduceToNat, vlen_sl ty22] <;> exact rfl)))
    | ((with_reducible apply VC.cond); (· (simp (disch := omega) only [vset, wset, ints, bools, strs, undefM, Nat.reduceLT, Nat.reduceAdd, Nat.reduceBEq, Int.reduceToNat, vlen_sl ty22] <;> exact rfl)); all_goals (intro hcond; try simp only [decide_eq_true_eq, decide_eq_false_iff_not, beq_iff_eq, beq_eq_false_iff_ne, bne_iff_ne, bne_eq_false_iff_eq, ne_eq, reduceCtorEq] at hcond))
    | simp only [qset, Nat.reduceEqDiff, reduceIte]
    | ((apply EndQ.ret1 rfl); (· (simp only [look_cons, Nat.reduceBEq, cond_true, cond_false] <;> exact rfl)))
    | ((apply EndQ.ret2 rfl); (· (simp only [look_cons, Nat.reduceBEq, cond_true, cond_false] <;> exact rfl)); (· (simp only [look_cons, Nat.reduceBEq, cond_true, cond_false] <;> exact rfl)))
    | (refine EndQ.ret0 rfl ?_)
    | (refine EndQ.nor0 rfl ?_)
  refine VC.loopS' [0, 1, 2, 8, 11] (fun s : Nat × Tok => [.sl lits.length (lits.map mi) tk, mi k, mi next, .sl (rl lits k next s.1).length ((rl lits k next s.1).map cF) s.2, mi ((s.1 : Int) + 1)])
      (fun s O' => s.1 ≤ lits.length ∧ Ap O s.2 O') (fun s => lits.length - s.1) (0, .nil) ?_ ⟨by omega, Ap.refl _ (.inl rfl)⟩ ?_
  · (simp only [vset, wset, ints, bools, strs, undefM, Nat.reduceLT, Nat.reduceAdd, Nat.reduceBEq, Int.reduceToNat] <;> exact rfl)
  rintro ⟨i, s⟩ O' ⟨hi, hM⟩
  rw [pair_cons]
  dsimp only at hi hM
  have hLl := hRL i hi
  by_cases hil : i < lits.length
  · by_cases hi0 : i = 0
    · subst hi0
      have hL0 : rl lits k next 0 = [] := rfl
      have hL1 : rl lits k next 1 = aHead lits k next ++ (List.range (k.toNat - 1)).map (aHeadJ k next) := by
        rw [rl, if_neg (by omega), if_pos (by omega)]; simp
      have hap := fun a b => ap_2 (a := a) (b := b) (L := rl lits k next 0) hM.app (by omega)
      simp only [hL0, List.map_nil] at hap
      simp only [hL0, show (((0 : Nat) : Int) + 1) = 1 from rfl]
      repeat' first
        | with_reducible refine VC.seq' ?_
        | with_reducible refine VC.block' ?_
        | with_reducible refine VC.skip ?_
        | with_reducible refine VC.label ?_
        | with_reducible refine VC.scope ?_
        | with_reducible refine VC.exit ?_
        | with_reducible refine VC.ret ?_
        | with_reducible refine VL.nil ?_
        | ((first | with_reducible apply VC.plainL | with_reducible apply VC.readsL (by kernel_rfl) (by kernel_rfl) (by kernel_rfl)); (with_reducible apply VL.run tabOk); (· (simp (disch := omega) only [vset, wset, ints, bools, strs, undefM, Nat.reduceLT, Nat.reduceAdd, Nat.reduceBEq, Int.reduceToNat, vlen_sl ty22, vix_sl ty22 ty3, vload_c ty3 rfl, vbs2v ty22 ty3, vbs1s ty24 ty22, hap] <;> exact rfl)))
        | ((with_reducible apply VC.cond); (· (simp (disch := omega) only [vset, wset, ints, bools, strs, undefM, Nat.reduceLT, Nat.reduceAdd, Nat.reduceBEq, Int.reduceToNat, vlen_sl ty22, vix_sl ty22 ty3, vload_c ty3 rfl, vbs2v ty22 ty3, vbs1s ty24 ty22, hap] <;> exact rfl)); all_goals (intro hcond; try simp only [decide_eq_true_eq, decide_eq_false_iff_not, beq_iff_eq, beq_eq_false_iff_ne, bne_iff_ne, bne_eq_false_iff_eq, ne_eq, reduceCtorEq] at hcond))
        | simp only [qset, Nat.reduceEqDiff, reduceIte]
        | ((apply EndQ.ret1 rfl); (· (simp only [look_cons, Nat.reduceBEq, cond_true, cond_false] <;> exact rfl)))
        | ((apply EndQ.ret2 rfl); (· (simp only [look_cons, Nat.reduceBEq, cond_true, cond_false] <;> exact rfl)); (· (simp only [look_cons, Nat.reduceBEq, cond_true, cond_false] <;> exact rfl)))
        | (refine EndQ.ret0 rfl ?_)
        | (refine EndQ.nor0 rfl ?_)
      refine VC.loopS' [0, 1, 2, 8, 11, 12, 14] (fun s : Nat × Tok => [.sl lits.length (lits.map mi) tk, mi k, mi next, .sl (aHead lits k next ++ (List.range s.1).map (aHeadJ k next)).length ((aHead lits k next ++ (List.range s.1).map (aHeadJ k next)).map cF) s.2, mi 1, mi (next + (1 - 1) * k), mi ((s.1 : Int) + 1)])
          (fun s O' => s.1 ≤ k.toNat - 1 ∧ Ap O s.2 O') (fun s => k.toNat - 1 - s.1) (0, .own O'.next 1) ?_ ⟨by omega, hM.next⟩ ?_
      · have hE : [] ++ [[-lits[0], next + (1 - 1) * k]] = aHead lits k next ++ List.map (aHeadJ k next) (List.range 0) := by
          rw [aHead, List.getD_eq_getElem?_getD, List.getElem?_eq_getElem h0, S, List.range_zero, List.map_nil, List.append_nil, List.nil_append, Option.getD_some]
          congr 3
          omega
        simp only [vset, wset, ints, bools, strs, undefM, Nat.reduceLT, Nat.reduceAdd, Nat.reduceBEq, Int.reduceToNat, hE, Int.natCast_zero, Int.zero_add]
      rintro ⟨j, s⟩ O' ⟨hj, hM⟩
      rw [pair_cons]
      dsimp only at hj hM
      by_cases hjk : (j : Int) + 1 < k
      · have hap := fun a => ap_1 (a := a) (L := aHead lits k next ++ (List.range j).map (aHeadJ k next)) hM.app (by simp [aHead]; omega)
        repeat' first
          | with_reducible refine VC.seq' ?_
          | with_reducible refine VC.block' ?_
          | with_reducible refine VC.skip ?_
          | with_reducible refine VC.label ?_
          | with_reducible refine VC.scope ?_
          | with_reducible refine VC.exit ?_
          | with_reducible refine VC.ret ?_
          | with_reducible refine VL.nil ?_
          | ((first | with_reducible apply VC.plainL | with_reducible apply VC.readsL (by kernel_rfl) (by kernel_rfl) (by kernel_rfl)); (with_reducible apply VL.run tabOk); (· (simp (disch := omega) only [vset, wset, ints, bools, strs, undefM, Nat.reduceLT, Nat.reduceAdd, Nat.reduceBEq, Int.reduceToNat, vbs1v ty22 ty3, vbs1s ty24 ty22, hap] <;> exact rfl)))
          | ((with_reducible apply VC.cond); (· (simp (disch := omega) only [vset, wset, ints, bools, strs, undefM, Nat.reduceLT, Nat.reduceAdd, Nat.reduceBEq, Int.reduceToNat, vbs1v ty22 ty3, vbs1s ty24 ty22, hap] <;> exact rfl)); all_goals (intro hcond; try simp only [decide_eq_true_eq, decide_eq_false_iff_not, beq_iff_eq, beq_eq_false_iff_ne, bne_iff_ne, bne_eq_false_iff_eq, ne_eq, reduceCtorEq] at hcond))
          | simp only [qset, Nat.reduceEqDiff, reduceIte]
          | ((apply EndQ.ret1 rfl); (· (simp only [look_cons, Nat.reduceBEq, cond_true, cond_false] <;> exact rfl)))
          | ((apply EndQ.ret2 rfl); (· (simp only [look_cons, Nat.reduceBEq, cond_true, cond_false] <;> exact rfl)); (· (simp only [look_cons, Nat.reduceBEq, cond_true, cond_false] <;> exact rfl)))
          | (refine EndQ.ret0 rfl ?_)
          | (refine EndQ.nor0 rfl ?_)
        refine ⟨(j + 1, .own O'.next 1), ?_, ⟨by dsimp only; omega, hM.next⟩, by dsimp only; omega⟩
        have hE : aHead lits k next ++ List.map (aHeadJ k next) (List.range (j + 1)) = aHead lits k next ++ List.map (aHeadJ k next) (List.range j) ++ [[-(next + (1 - 1) * k + ((j : Int) + 1))]] := by
          rw [List.range_succ, List.map_append, List.append_assoc, List.map_cons, List.map_nil, aHeadJ, S]
          congr 5
          omega
        dsimp only
        rw [hE]
        simp (disch := omega) only [vset, wset, ints, bools, strs, undefM, Nat.reduceLT, Nat.reduceAdd, Nat.reduceBEq, Int.reduceToNat, Int.natCast_add, Int.cast_ofNat_Int]
      · obtain rfl : j = k.toNat - 1 := by omega
        repeat' first
          | with_reducible refine VC.seq' ?_
          | with_reducible refine VC.block' ?_
          | with_reducible refine VC.skip ?_
          | with_reducible refine VC.label ?_
          | with_reducible refine VC.scope ?_
          | with_reducible refine VC.exit ?_
          | with_reducible refine VC.ret ?_
          | with_reducible refine VL.nil ?_
          | ((first | with_reducible apply VC.plainL | with_reducible apply VC.readsL (by kernel_rfl) (by kernel_rfl) (by kernel_rfl)); (with_reducible apply VL.run tabOk); (· (simp (disch := omega) only [vset, wset, ints, bools, strs, undefM, Nat.reduceLT, Nat.reduceAdd, Nat.reduceBEq, Int.reduceToNat] <;> exact rfl)))
          | ((with_reducible apply VC.cond); (· (simp (disch := omega) only [vset, wset, ints, bools, strs, undefM, Nat.reduceLT, Nat.reduceAdd, Nat.reduceBEq, Int.reduceToNat] <;> exact rfl)); all_goals (intro hcond; try simp only [decide_eq_true_eq, decide_eq_false_iff_not, beq_iff_eq, beq_eq_false_iff_ne, bne_iff_ne, bne_eq_false_iff_eq, ne_eq, reduceCtorEq] at hcond))
          | simp only [qset, Nat.reduceEqDiff, reduceIte]
          | ((apply EndQ.ret1 rfl); (· (simp only [look_cons, Nat.reduceBEq, cond_true, cond_false] <;> exact rfl)))
          | ((apply EndQ.ret2 rfl); (· (simp only [look_cons, Nat.reduceBEq, cond_true, cond_false] <;> exact rfl)); (· (simp only [look_cons, Nat.reduceBEq, cond_true, cond_false] <;> exact rfl)))
          | (refine EndQ.ret0 rfl ?_)
          | (refine EndQ.nor0 rfl ?_)
        refine ⟨(1, s), ?_, ⟨by dsimp only; omega, hM⟩, by dsimp only; omega⟩
        dsimp only
        rw [hL1]
        simp (disch := omega) only [vset, wset, ints, bools, strs, undefM, Nat.reduceLT, Nat.reduceAdd, Nat.reduceBEq, Int.reduceToNat, Int.natCast_add, Int.cast_ofNat_Int, Int.natCast_one]
    · have hm1 : 0 ≤ ((i : Int) + 1 - 1) * k := Int.mul_nonneg (by omega) (by omega)
      have hm2 : ((i : Int) + 1 - 1) * k ≤ 1000 * 1000 := Int.mul_le_mul (by omega) (by omega) (by omega) (by omega)
      have hms : ((i : Int) + 1 - 1 - 1) * k = ((i : Int) + 1 - 1) * k - k := by rw [Int.sub_mul _ 1 k, Int.one_mul]
      have hxe : lits[((i : Int) + 1 - 1).toNat]? = some (lits.getD i 0) := by
        rw [show ((i : Int) + 1 - 1).toNat = i by omega, List.getD_eq_getElem?_getD, List.getElem?_eq_getElem hil]; rfl
      have hxb : -1000000 ≤ lits.getD i 0 ∧ lits.getD i 0 ≤ 1000000 := by
        rw [List.getD_eq_getElem?_getD, List.getElem?_eq_getElem hil]; exact hx _ (List.getElem_mem hil)
      have hLs : rl lits k next (i + 1) = if i + 1 < lits.length then rl lits k next i ++ aRow k next (lits.getD i 0) ((i : Int) + 1) else rl lits k next i ++ [[-(lits.getD i 0), -(S k next ((i : Int) + 1 - 1) k)]] := by
        have e1 : ((i - 1 : Nat) : Int) + 2 = (i : Int) + 1 := by omega
        split
        · have e2 : List.range i = List.range (i - 1) ++ [i - 1] := by rw [← List.range_succ]; congr 1; omega
          rw [rl, if_neg (by omega), if_pos (by omega), rl, if_neg hi0, if_pos hil, show i + 1 - 1 = i from rfl, e2, List.flatMap_append, List.flatMap_cons, List.flatMap_nil, List.append_nil, e1, show i - 1 + 1 = i by omega, List.append_assoc _ (List.flatMap _ _) (aRow _ _ _ _)]
        · have e3 : i = lits.length - 1 := by omega
          rw [rl, if_neg (by omega), if_neg (by omega), rl, if_neg hi0, if_pos hil, aMain, show lits.length - 1 = i by omega, show lits.length - 2 = i - 1 by omega]
          rw [show ((lits.length : Int) - 1) = (i : Int) + 1 - 1 by omega]
      generalize rl lits k next i = L at *
      generalize lits.getD i 0 = x at *
      by_cases hi2 : i + 1 < lits.length
      · rw [if_pos hi2] at hLs
        have hE1 : [[-x, next + ((i : Int) + 1 - 1) * k], [-(next + ((i : Int) + 1 - 1) * k - k), next + ((i : Int) + 1 - 1) * k]] = aRow1 k next x ((i : Int) + 1) := by
          rw [aRow1, show S k next ((i : Int) + 1) 1 = next + ((i : Int) + 1 - 1) * k by unfold S; omega, show S k next ((i : Int) + 1 - 1) 1 = next + ((i : Int) + 1 - 1) * k - k by unfold S; rw [hms]; omega]
        have hap := fun a b c d => ap_22 (a := a) (b := b) (c := c) (d := d) (L := L) hM.app (by omega)
        repeat' first
          | with_reducible refine VC.seq' ?_
          | with_reducible refine VC.block' ?_
          | with_reducible refine VC.skip ?_
          | with_reducible refine VC.label ?_
          | with_reducible refine VC.scope ?_
          | with_reducible refine VC.exit ?_
          | with_reducible refine VC.ret ?_
          | with_reducible refine VL.nil ?_
          | ((first | with_reducible apply VC.plainL | with_reducible apply VC.readsL (by kernel_rfl) (by kernel_rfl) (by kernel_rfl)); (with_reducible apply VL.run tabOk); (· (simp (disch := omega) only [vset, wset, ints, bools, strs, undefM, Nat.reduceLT, Nat.reduceAdd, Nat.reduceBEq, Int.reduceToNat, vlen_sl ty22, vix_sl ty22 ty3, vload_c ty3 rfl, vbs2v ty22 ty3, vbs2s ty24 ty22, hap, hxe] <;> exact rfl)))
          | ((with_reducible apply VC.cond); (· (simp (disch := omega) only [vset, wset, ints, bools, strs, undefM, Nat.reduceLT, Nat.reduceAdd, Nat.reduceBEq, Int.reduceToNat, vlen_sl ty22, vix_sl ty22 ty3, vload_c ty3 rfl, vbs2v ty22 ty3, vbs2s ty24 ty22, hap, hxe] <;> exact rfl)); all_goals (intro hcond; try simp only [decide_eq_true_eq, decide_eq_false_iff_not, beq_iff_eq, beq_eq_false_iff_ne, bne_iff_ne, bne_eq_false_iff_eq, ne_eq, reduceCtorEq] at hcond))
          | simp only [qset, Nat.reduceEqDiff, reduceIte]
          | ((apply EndQ.ret1 rfl); (· (simp only [look_cons, Nat.reduceBEq, cond_true, cond_false] <;> exact rfl)))
          | ((apply EndQ.ret2 rfl); (· (simp only [look_cons, Nat.reduceBEq, cond_true, cond_false] <;> exact rfl)); (· (simp only [look_cons, Nat.reduceBEq, cond_true, cond_false] <;> exact rfl)))
          | (refine EndQ.ret0 rfl ?_)
          | (refine EndQ.nor0 rfl ?_)
        refine VC.loopS' [0, 1, 2, 8, 11, 12, 13, 15] (fun s : Nat × Tok => [.sl lits.length (lits.map mi) tk, mi k, mi next, .sl (L ++ aRow1 k next x ((i : Int) + 1) ++ (List.range s.1).flatMap (aRowJ k next x ((i : Int) + 1))).length ((L ++ aRow1 k next x ((i : Int) + 1) ++ (List.range s.1).flatMap (aRowJ k next x ((i : Int) + 1))).map cF) s.2, mi ((i : Int) + 1), mi (next + ((i : Int) + 1 - 1) * k), mi (next + ((i : Int) + 1 - 1) * k - k), mi ((s.1 : Int) + 1)])
            (fun s O' => s.1 ≤ k.toNat - 1 ∧ Ap O s.2 O') (fun s => k.toNat - 1 - s.1) (0, .own O'.next 1) ?_ ⟨by omega, hM.next⟩ ?_
        · simp only [vset, wset, ints, bools, strs, undefM, Nat.reduceLT, Nat.reduceAdd, Nat.reduceBEq, Int.reduceToNat, hE1, Int.natCast_zero, Int.zero_add, List.range_zero, List.flatMap_nil, List.append_nil]
        clear hap hM
        rintro ⟨j, s⟩ O' ⟨hj, hM⟩
        rw [pair_cons]
        dsimp only at hj hM
        have hll : (L ++ aRow1 k next x ((i : Int) + 1) ++ (List.range j).flatMap (aRowJ k next x ((i : Int) + 1))).length ≤ 30000 := by
          simp only [List.length_append, rowJ_len, aRow1, List.length_cons, List.length_nil]
          omega
        by_cases hjk : (j : Int) + 1 < k
        · have hap := fun a b c d e => ap_32 (a := a) (b := b) (c := c) (d := d) (e := e) (L := L ++ aRow1 k next x ((i : Int) + 1) ++ (List.range j).flatMap (aRowJ k next x ((i : Int) + 1))) hM.app (by omega)
          repeat' first
            | with_reducible refine VC.seq' ?_
            | with_reducible refine VC.block' ?_
            | with_reducible refine VC.skip ?_
            | with_reducible refine VC.label ?_
            | with_reducible refine VC.scope ?_
            | with_reducible refine VC.exit ?_
            | with_reducible refine VC.ret ?_
            | with_reducible refine VL.nil ?_
            | ((first | with_reducible apply VC.plainL | with_reducible apply VC.readsL (by kernel_rfl) (by kernel_rfl) (by kernel_rfl)); (with_reducible apply VL.run tabOk); (· (simp (disch := omega) only [vset, wset, ints, bools, strs, undefM, Nat.reduceLT, Nat.reduceAdd, Nat.reduceBEq, Int.reduceToNat, vix_sl ty22 ty3, vload_c ty3 rfl, vbs2v ty22 ty3, vbs3v ty22 ty3, vbs2s ty24 ty22, hap, hxe] <;> exact rfl)))
            | ((with_reducible apply VC.cond); (· (simp (disch := omega) only [vset, wset, ints, bools, strs, undefM, Nat.reduceLT, Nat.reduceAdd, Nat.reduceBEq, Int.reduceToNat, vix_sl ty22 ty3, vload_c ty3 rfl, vbs2v ty22 ty3, vbs3v ty22 ty3, vbs2s ty24 ty22, hap, hxe] <;> exact rfl)); all_goals (intro hcond; try simp only [decide_eq_true_eq, decide_eq_false_iff_not, beq_iff_eq, beq_eq_false_iff_ne, bne_iff_ne, bne_eq_false_iff_eq, ne_eq, reduceCtorEq] at hcond))
            | simp only [qset, Nat.reduceEqDiff, reduceIte]
            | ((apply EndQ.ret1 rfl); (· (simp only [look_cons, Nat.reduceBEq, cond_true, cond_false] <;> exact rfl)))
            | ((apply EndQ.ret2 rfl); (· (simp only [look_cons, Nat.reduceBEq, cond_true, cond_false] <;> exact rfl)); (· (simp only [look_cons, Nat.reduceBEq, cond_true, cond_false] <;> exact rfl)))
            | (refine EndQ.ret0 rfl ?_)
            | (refine EndQ.nor0 rfl ?_)
          have hEJ : [[-x, -(next + ((i : Int) + 1 - 1) * k - k + ((j : Int) + 1) - 1), next + ((i : Int) + 1 - 1) * k + ((j : Int) + 1)], [-(next + ((i : Int) + 1 - 1) * k - k + ((j : Int) + 1)), next + ((i : Int) + 1 - 1) * k + ((j : Int) + 1)]] = aRowJ k next x ((i : Int) + 1) j := by
            rw [aRowJ, show S k next ((i : Int) + 1 - 1) ((j : Int) + 2 - 1) = next + ((i : Int) + 1 - 1) * k - k + ((j : Int) + 1) - 1 by unfold S; rw [hms]; omega, show S k next ((i : Int) + 1) ((j : Int) + 2) = next + ((i : Int) + 1 - 1) * k + ((j : Int) + 1) by unfold S; omega, show S k next ((i : Int) + 1 - 1) ((j : Int) + 2) = next + ((i : Int) + 1 - 1) * k - k + ((j : Int) + 1) by unfold S; rw [hms]; omega]
          have hE : L ++ aRow1 k next x ((i : Int) + 1) ++ (List.range (j + 1)).flatMap (aRowJ k next x ((i : Int) + 1)) = L ++ aRow1 k next x ((i : Int) + 1) ++ (List.range j).flatMap (aRowJ k next x ((i : Int) + 1)) ++ [[-x, -(next + ((i : Int) + 1 - 1) * k - k + ((j : Int) + 1) - 1), next + ((i : Int) + 1 - 1) * k + ((j : Int) + 1)], [-(next + ((i : Int) + 1 - 1) * k - k + ((j : Int) + 1)), next + ((i : Int) + 1 - 1) * k + ((j : Int) + 1)]] := by
            rw [hEJ, List.range_succ, List.flatMap_append, List.flatMap_cons, List.flatMap_nil, List.append_nil, ← List.append_assoc]
          refine ⟨(j + 1, .own O'.next 1), ?_, ⟨by dsimp only; omega, hM.next⟩, by dsimp only; omega⟩
          dsimp only
          rw [hE]
          simp (disch := omega) only [vset, wset, ints, bools, strs, undefM, Nat.reduceLT, Nat.reduceAdd, Nat.reduceBEq, Int.reduceToNat, Int.natCast_add, Int.cast_ofNat_Int]
        · obtain rfl : j = k.toNat - 1 := by omega
          have hap := fun a b => ap_2 (a := a) (b := b) (L := L ++ aRow1 k next x ((i : Int) + 1) ++ (List.range (k.toNat - 1)).flatMap (aRowJ k next x ((i : Int) + 1))) hM.app (by omega)
          repeat' first
            | with_reducible refine VC.seq' ?_
            | with_reducible refine VC.block' ?_
            | with_reducible refine VC.skip ?_
            | with_reducible refine VC.label ?_
            | with_reducible refine VC.scope ?_
            | with_reducible refine VC.exit ?_
            | with_reducible refine VC.ret ?_
            | with_reducible refine VL.nil ?_
            | ((first | with_reducible apply VC.plainL | with_reducible apply VC.readsL (by kernel_rfl) (by kernel_rfl) (by kernel_rfl)); (with_reducible apply VL.run tabOk); (· (simp (disch := omega) only [vset, wset, ints, bools, strs, undefM, Nat.reduceLT, Nat.reduceAdd, Nat.reduceBEq, Int.reduceToNat, vix_sl ty22 ty3, vload_c ty3 rfl, vbs2v ty22 ty3, vbs1s ty24 ty22, hap, hxe] <;> exact rfl)))
            | ((with_reducible apply VC.cond); (· (simp (disch := omega) only [vset, wset, ints, bools, strs, undefM, Nat.reduceLT, Nat.reduceAdd, Nat.reduceBEq, Int.reduceToNat, vix_sl ty22 ty3, vload_c ty3 rfl, vbs2v ty22 ty3, vbs1s ty24 ty22, hap, hxe] <;> exact rfl)); all_goals (intro hcond; try simp only [decide_eq_true_eq, decide_eq_false_iff_not, beq_iff_eq, beq_eq_false_iff_ne, bne_iff_ne, bne_eq_false_iff_eq, ne_eq, reduceCtorEq] at hcond))
            | simp only [qset, Nat.reduceEqDiff, reduceIte]
            | ((apply EndQ.ret1 rfl); (· (simp only [look_cons, Nat.reduceBEq, cond_true, cond_false] <;> exact rfl)))
            | ((apply EndQ.ret2 rfl); (· (simp only [look_cons, Nat.reduceBEq, cond_true, cond_false] <;> exact rfl)); (· (simp only [look_cons, Nat.reduceBEq, cond_true, cond_false] <;> exact rfl)))
            | (refine EndQ.ret0 rfl ?_)
            | (refine EndQ.nor0 rfl ?_)
          refine ⟨(i + 1, .own O'.next 1), ?_, ⟨by dsimp only; omega, hM.next⟩, by dsimp only; omega⟩
          have hE : rl lits k next (i + 1) = L ++ aRow1 k next x ((i : Int) + 1) ++ (List.range (k.toNat - 1)).flatMap (aRowJ k next x ((i : Int) + 1)) ++ [[-x, -(next + ((i : Int) + 1 - 1) * k - k + k - 1)]] := by
            rw [hLs, aRow, show S k next ((i : Int) + 1 - 1) k = next + ((i : Int) + 1 - 1) * k - k + k - 1 by unfold S; rw [hms]; omega]
            simp only [List.append_assoc]
          dsimp only
          rw [hE]
          simp (disch := omega) only [vset, wset, ints, bools, strs, undefM, Nat.reduceLT, Nat.reduceAdd, Nat.reduceBEq, Int.reduceToNat, Int.natCast_add, Int.cast_ofNat_Int]
      · rw [if_neg hi2] at hLs
        have hap := fun a b => ap_2 (a := a) (b := b) (L := L) hM.app (by omega)
        repeat' first
          | with_reducible refine VC.seq' ?_
          | with_reducible refine VC.block' ?_
          | with_reducible refine VC.skip ?_
          | with_reducible refine VC.label ?_
          | with_reducible refine VC.scope ?_
          | with_reducible refine VC.exit ?_
          | with_reducible refine VC.ret ?_
          | with_reducible refine VL.nil ?_
          | ((first | with_reducible apply VC.plainL | with_reducible apply VC.readsL (by kernel_rfl) (by kernel_rfl) (by kernel_rfl)); (with_reducible apply VL.run tabOk); (· (simp (disch := omega) only [vset, wset, ints, bools, strs, undefM, Nat.reduceLT, Nat.reduceAdd, Nat.reduceBEq, Int.reduceToNat, vlen_sl ty22, vix_sl ty22 ty3, vload_c ty3 rfl, vbs2v ty22 ty3, vbs1s ty24 ty22, hap, hxe] <;> exact rfl)))
          | ((with_reducible apply VC.cond); (· (simp (disch := omega) only [vset, wset, ints, bools, strs, undefM, Nat.reduceLT, Nat.reduceAdd, Nat.reduceBEq, Int.reduceToNat, vlen_sl ty22, vix_sl ty22 ty3, vload_c ty3 rfl, vbs2v ty22 ty3, vbs1s ty24 ty22, hap, hxe] <;> exact rfl)); all_goals (intro hcond; try simp only [decide_eq_true_eq, decide_eq_false_iff_not, beq_iff_eq, beq_eq_false_iff_ne, bne_iff_ne, bne_eq_false_iff_eq, ne_eq, reduceCtorEq] at hcond))
          | simp only [qset, Nat.reduceEqDiff, reduceIte]
          | ((apply EndQ.ret1 rfl); (· (simp only [look_cons, Nat.reduceBEq, cond_true, cond_false] <;> exact rfl)))
          | ((apply EndQ.ret2 rfl); (· (simp only [look_cons, Nat.reduceBEq, cond_true, cond_false] <;> exact rfl)); (· (simp only [look_cons, Nat.reduceBEq, cond_true, cond_false] <;> exact rfl)))
          | (refine EndQ.ret0 rfl ?_)
          | (refine EndQ.nor0 rfl ?_)
        refine ⟨(i + 1, .own O'.next 1), ?_, ⟨by dsimp only; omega, hM.next⟩, by dsimp only; omega⟩
        have hE : rl lits k next (i + 1) = L ++ [[-x, -(next + ((i : Int) + 1 - 1) * k - k + k - 1)]] := by
          rw [hLs, show S k next ((i : Int) + 1 - 1) k = next + ((i : Int) + 1 - 1) * k - k + k - 1 by unfold S; rw [hms]; omega]
        dsimp only
        rw [hE]
        simp (disch := omega) only [vset, wset, ints, bools, strs, undefM, Nat.reduceLT, Nat.reduceAdd, Nat.reduceBEq, Int.reduceToNat, Int.natCast_add, Int.cast_ofNat_Int]
  · have h1 : 0 ≤ ((lits.length : Int) - 1) * k := Int.mul_nonneg (by omega) (by omega)
    have h2 : ((lits.length : Int) - 1) * k ≤ 1000 * 1000 := Int.mul_le_mul (by omega) (by omega) (by omega) (by omega)
    repeat' first
      | with_reducible refine VC.seq' ?_
      | with_reducible refine VC.block' ?_
      | with_reducible refine VC.skip ?_
      | with_reducible refine VC.label ?_
      | with_reducible refine VC.scope ?_
      | with_reducible refine VC.exit ?_
      | with_reducible refine VC.ret ?_
      | with_reducible refine VL.nil ?_
      | ((first | with_reducible apply VC.plainL | with_reducible apply VC.readsL (by kernel_rfl) (by kernel_rfl) (by kernel_rfl)); (with_reducible apply VL.run tabOk); (· (simp (disch := omega) only [vset, wset, ints, bools, strs, undefM, Nat.reduceLT, Nat.reduceAdd, Nat.reduceBEq, Int.reduceToNat, vlen_sl ty22] <;> exact rfl)))
      | ((with_reducible apply VC.cond); (· (simp (disch := omega) only [vset, wset, ints, bools, strs, undefM, Nat.reduceLT, Nat.reduceAdd, Nat.reduceBEq, Int.reduceToNat, vlen_sl ty22] <;> exact rfl)); all_goals (intro hcond; try simp only [decide_eq_true_eq, decide_eq_false_iff_not, beq_iff_eq, beq_eq_false_iff_ne, bne_iff_ne, bne_eq_false_iff_eq, ne_eq, reduceCtorEq] at hcond))
      | simp only [qset, Nat.reduceEqDiff, reduceIte]
      | ((apply EndQ.ret1 rfl); (· (simp only [look_cons, Nat.reduceBEq, cond_true, cond_false] <;> exact rfl)))
      | ((apply EndQ.ret2 rfl); (· (simp only [look_cons, Nat.reduceBEq, cond_true, cond_false] <;> exact rfl)); (· (simp only [look_cons, Nat.reduceBEq, cond_true, cond_false] <;> exact rfl)))
      | (refine EndQ.ret0 rfl ?_)
      | (refine EndQ.nor0 rfl ?_)
    refine ⟨hM.ge, s, ?_⟩
    rw [e, rl, if_neg (by omega), if_neg hil]; rfl
end Go.Proofs.Ytcfoongiffpnlaa
