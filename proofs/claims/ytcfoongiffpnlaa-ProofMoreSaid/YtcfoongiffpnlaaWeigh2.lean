/-
  weigh.maker.clause, weigh.AtMost and what lies in it, walked.
-/
import Derived.Test.YtcfoongiffpnlaaWeigh
set_option linter.unusedVariables false
set_option linter.unusedSimpArgs false
namespace Go.Proofs.Ytcfoongiffpnlaa
open Go.RowKit

theorem fa54 (b o : Nat) : vfieldAddr (tyOf Try.prog) 54 0 (.ptr b o) = some (.ptr b (o + 0)) := by kernel_rfl
theorem bd54 : vbuild (tyOf Try.prog) 54 [] = some (.agg [.sl 0 [] .nil]) := by kernel_rfl
/-- (*weigh.maker).clause -/
theorem clause_v (b n k : Nat) (cs ds : List MV) (s tk : Tok) (B : Nat) (O : VH) (hb : O.hp b = some (.cells [.sl n cs s])) (ha : App O B 1 s) (hlt : b < O.next) (hc : cs.length = n) (hn : n ≤ 1000000) :
    VF Try.prog 32 [.ptr b 0, .sl k ds tk] O (Ret fun m O' => m = .tuple [] ∧ O' = (O.after s).set b (.cells [.sl (n + 1) (cs ++ [.sl k ds tk]) (.own O.next 1)])) := by
  refine VF.enter' tabOk Try.func32 (c := _) rfl (Nat.le_of_ble_eq_true rfl) ?_
  rw [show Try.f32.ntmps = 14 from rfl]
  simp only [argEnv, Nat.zero_add, Nat.reduceAdd]
  have hap := vappend_app (O := O) ty24 ty22 (tk' := .full) (cs := cs) (n := n) (ds := [.sl k ds tk]) (k := 1) ha (by simp [hc]) rfl rfl (by decide) (by decide) (by omega) (by simp [maxLen]; omega)
  have h2 : (O.after s).hp b = some (.cells [.sl n cs s]) := VH.after_hp ha hb (by simp) hlt
  repeat' first
    | with_reducible refine VC.seq' ?_
    | with_reducible refine VC.block' ?_
    | with_reducible refine VC.skip ?_
    | with_reducible refine VC.label ?_
    | with_reducible refine VC.scope ?_
    | with_reducible refine VC.exit ?_
    | with_reducible refine VC.ret ?_
    | with_reducible refine VL.nil ?_
    | ((first | with_reducible apply VC.plainL | with_reducible apply VC.readsL (by kernel_rfl) (by kernel_rfl) (by kernel_rfl)); (with_reducible apply VL.run tabOk); (· (simp (disch := omega) only [vset, wset, ints, bools, strs, undefM, Nat.reduceLT, Nat.reduceAdd, Nat.reduceBEq, Int.reduceToNat, fa54, vbs1 ty24 ty22 (mcells_sl k ds tk), vload_p ty24 rfl hb, vstore_psl ty24 h2 (Nat.zero_lt_succ 0), hap] <;> exact rfl)))
    | ((with_reducible apply VC.cond); (· (simp (disch := omega) only [vset, wset, ints, bools, strs, undefM, Nat.reduceLT, Nat.reduceAdd, Nat.reduceBEq, Int.reduceToNat, fa54, vbs1 ty24 ty22 (mcells_sl k ds tk), vload_p ty24 rfl hb, vstore_psl ty24 h2 (Nat.zero_lt_succ 0), hap] <;> exact rfl)); all_goals (intro hcond; try simp only [decide_eq_true_eq, decide_eq_false_iff_not, beq_iff_eq, beq_eq_false_iff_ne, bne_iff_ne, bne_eq_false_iff_eq, ne_eq, reduceCtorEq] at hcond))
    | simp only [qset, Nat.reduceEqDiff, reduceIte]
    | ((apply EndQ.ret1 rfl); (· (simp only [look_cons, Nat.reduceBEq, cond_true, cond_false] <;> exact rfl)))
    | ((apply EndQ.ret2 rfl); (· (simp only [look_cons, Nat.reduceBEq, cond_true, cond_false] <;> exact rfl)); (· (simp only [look_cons, Nat.reduceBEq, cond_true, cond_false] <;> exact rfl)))
    | (refine EndQ.ret0 rfl ?_)
    | (refine EndQ.nor0 rfl ?_)
  exact ⟨trivial, trivial⟩

/-- weigh.AtMost's s. -/
theorem s_v (i j next k : Int) (b4 b5 : Nat) (O : VH) (h4 : O.hp b4 = some (.cells [mi k])) (h5 : O.hp b5 = some (.cells [mi next])) (hi : 1 ≤ i ∧ i ≤ 1000) (hj : 0 ≤ j ∧ j ≤ 1000) (hk : 0 ≤ k ∧ k ≤ 1000) (hn : 0 ≤ next ∧ next ≤ 1000000) :
    VF Try.prog 33 [mi i, mi j, .ptr b5 0, .ptr b4 0] O (Ret fun m O' => m = mi (next + (i - 1) * k + j - 1) ∧ O' = O) := by
  refine VF.enter' tabOk Try.func33 (c := _) rfl (Nat.le_of_ble_eq_true rfl) ?_
  rw [show Try.f33.ntmps = 16 from rfl]
  simp only [argEnv, Nat.zero_add, Nat.reduceAdd]
  have h1 : 0 ≤ (i - 1) * k := Int.mul_nonneg (by omega) (by omega)
  have h2 : (i - 1) * k ≤ 1000 * 1000 := Int.mul_le_mul (by omega) (by omega) (by omega) (by omega)
  repeat' first
    | with_reducible refine VC.seq' ?_
    | with_reducible refine VC.block' ?_
    | with_reducible refine VC.skip ?_
    | with_reducible refine VC.label ?_
    | with_reducible refine VC.scope ?_
    | with_reducible refine VC.exit ?_
    | with_reducible refine VC.ret ?_
    | with_reducible refine VL.nil ?_
    | ((first | with_reducible apply VC.plainL | with_reducible apply VC.readsL (by kernel_rfl) (by kernel_rfl) (by kernel_rfl)); (with_reducible apply VL.run tabOk); (· (simp (disch := omega) only [vset, wset, ints, bools, strs, undefM, Nat.reduceLT, Nat.reduceAdd, Nat.reduceBEq, Int.reduceToNat, vload_p ty3 rfl h4, vload_p ty3 rfl h5] <;> exact rfl)))
    | ((with_reducible apply VC.cond); (· (simp (disch := omega) only [vset, wset, ints, bools, strs, undefM, Nat.reduceLT, Nat.reduceAdd, Nat.reduceBEq, Int.reduceToNat, vload_p ty3 rfl h4, vload_p ty3 rfl h5] <;> exact rfl)); all_goals (intro hcond; try simp only [decide_eq_true_eq, decide_eq_false_iff_not, beq_iff_eq, beq_eq_false_iff_ne, bne_iff_ne, bne_eq_false_iff_eq, ne_eq, reduceCtorEq] at hcond))
    | simp only [qset, Nat.reduceEqDiff, reduceIte]
    | ((apply EndQ.ret1 rfl); (· (simp only [look_cons, Nat.reduceBEq, cond_true, cond_false] <;> exact rfl)))
    | ((apply EndQ.ret2 rfl); (· (simp only [look_cons, Nat.reduceBEq, cond_true, cond_false] <;> exact rfl)); (· (simp only [look_cons, Nat.reduceBEq, cond_true, cond_false] <;> exact rfl)))
    | (refine EndQ.ret0 rfl ?_)
    | (refine EndQ.nor0 rfl ?_)
  exact ⟨rfl, trivial⟩

def S (k next i j : Int) : Int := next + (i - 1) * k + j - 1
theorem S_bound {k next i j : Int} (hi : 1 ≤ i ∧ i ≤ 1000) (hj : 0 ≤ j ∧ j ≤ 1000) (hk : 0 ≤ k ∧ k ≤ 1000) (hn : 0 ≤ next ∧ next ≤ 1000000) : -1 ≤ S k next i j ∧ S k next i j ≤ 2001000 := by
  have h1 : 0 ≤ (i - 1) * k := Int.mul_nonneg (by omega) (by omega)
  have h2 : (i - 1) * k ≤ 1000 * 1000 := Int.mul_le_mul (by omega) (by omega) (by omega) (by omega)
  unfold S
  omega
/-- A clause as the program has it. -/
def clM (p : List Int × Tok) : MV := .sl p.1.length (p.1.map mi) p.2
/-- The maker in block b8 has these clauses; k and next lie in their boxes. -/
structure Mk (O0 : VH) (b4 b5 b8 : Nat) (k next : Int) (cl : List (List Int × Tok)) (O : VH) : Prop where
  ge : O0.Ge O
  l4 : O0.next ≤ b4 ∧ b4 < O.next
  l5 : O0.next ≤ b5 ∧ b5 < O.next
  l8 : O0.next ≤ b8 ∧ b8 < O.next
  n4 : b4 ≠ b8
  n5 : b5 ≠ b8
  h4 : O.hp b4 = some (.cells [mi k])
  h5 : O.hp b5 = some (.cells [mi next])
  h8 : ∃ s, O.hp b8 = some (.cells [.sl cl.length (cl.map clM) s]) ∧ App O O0.next 1 s
section
variable {O0 O : VH} {b4 b5 b8 : Nat} {k next : Int} {cl : List (List Int × Tok)}
theorem s_mk (hM : Mk O0 b4 b5 b8 k next cl O) (i j : Int) (hi : 1 ≤ i ∧ i ≤ 1000) (hj : 0 ≤ j ∧ j ≤ 1000) (hk : 0 ≤ k ∧ k ≤ 1000) (hn : 0 ≤ next ∧ next ≤ 1000000) :
    VF Try.prog 33 [mi i, mi j, .ptr b5 0, .ptr b4 0] O (Ret fun m O' => m = mi (S k next i j) ∧ O' = O) := s_v i j next k b4 b5 O hM.h4 hM.h5 hi hj hk hn
theorem clause_mk (hM : Mk O0 b4 b5 b8 k next cl O) (hl : cl.length ≤ 100000) (c : List Int) (tk : Tok) {n : Nat} {cs : List MV} (hn : n = c.length) (hc : cs = c.map mi) :
    VF Try.prog 32 [.ptr b8 0, .sl n cs tk] O (Ret fun m O' => m = .tuple [] ∧ Mk O0 b4 b5 b8 k next (cl ++ [(c, tk)]) O') := by
  subst hn hc
  obtain ⟨s, h8, ha⟩ := hM.h8
  refine (clause_v b8 _ _ _ _ s tk O0.next O h8 ha hM.l8.2 (by simp) (by omega)).retMono ?_
  rintro m O' ⟨rfl, rfl⟩
  have hne : ∀ j x, x ≠ .tok → j ≠ b8 → j < O.next → O.hp j = some x → ((O.after s).set b8 (.cells [.sl (cl.length + 1) (cl.map clM ++ [.sl c.length (c.map mi) tk]) (.own O.next 1)])).hp j = some x := fun j x hx hj hl h => by
    rw [VH.set_ne _ _ hj]; exact VH.after_hp ha h hx hl
  have hnx : (O.after s).next = O.next + 1 := VH.after_next _ _
  refine ⟨rfl, (hM.ge.after ha (Nat.le_refl _)).set hM.l8.1 _, ⟨hM.l4.1, ?_⟩, ⟨hM.l5.1, ?_⟩, ⟨hM.l8.1, ?_⟩, hM.n4, hM.n5, hne _ _ (by simp) hM.n4 hM.l4.2 hM.h4, hne _ _ (by simp) hM.n5 hM.l5.2 hM.h5, .own O.next 1, ?_, rfl, ?_, hM.ge.next, ?_⟩
  · show _ < (O.after s).next; have := hM.l4.2; omega
  · show _ < (O.after s).next; have := hM.l5.2; omega
  · show _ < (O.after s).next; have := hM.l8.2; omega
  · rw [List.map_append, List.length_append]; exact upd_same _ _ _
  · rw [VH.set_ne _ _ (by have := hM.l8.2; omega)]; exact VH.after_new _ _
  · show _ < (O.after s).next; omega
end

def full (l : List (List Int)) : List (List Int × Tok) := l.map fun c => (c, .full)
theorem full_snoc (l : List (List Int)) (c : List Int) : full l ++ [(c, .full)] = full (l ++ [c]) := by simp [full]
def aHead (lits : List Int) (k next : Int) : List (List Int) := [[-(lits.getD 0 0), S k next 1 1]]
def aHeadJ (k next : Int) (j : Nat) : List Int := [-(S k next 1 (j + 2))]
def aRow1 (k next x i : Int) : List (List Int) := [[-x, S k next i 1], [-(S k next (i - 1) 1), S k next i 1]]
def aRowJ (k next x i : Int) (j : Nat) : List (List Int) := [[-x, -(S k next (i - 1) (j + 2 - 1)), S k next i (j + 2)], [-(S k next (i - 1) (j + 2)), S k next i (j + 2)]]
def aRow (k next x i : Int) : List (List Int) := aRow1 k next x i ++ (List.range (k.toNat - 1)).flatMap (aRowJ k next x i) ++ [[-x, -(S k next (i - 1) k)]]
theorem rowJ_len (k next x i : Int) : ∀ n : Nat, ((List.range n).flatMap (aRowJ k next x i)).length = 2 * n
  | 0 => rfl
  | n + 1 => by rw [List.range_succ, List.flatMap_append, List.length_append, rowJ_len k next x i n]; rfl
theorem rows_len {k next : Int} (hk : 1 ≤ k) {f : Nat → Int} {g : Nat → Int} : ∀ n : Nat, ((List.range n).flatMap (fun i => aRow k next (f i) (g i))).length = n * (2 * k.toNat + 1)
  | 0 => by simp
  | n + 1 => by
    rw [List.range_succ, List.flatMap_append, List.length_append, rows_len hk n, Nat.add_mul n 1, Nat.one_mul]
    have h1 : ((List.flatMap (fun i => aRow k next (f i) (g i)) [n])).length = 2 * k.toNat + 1 := by
      rw [List.flatMap_cons, List.flatMap_nil, List.append_nil]
      simp only [aRow, List.length_append, rowJ_len, aRow1, List.length_cons, List.length_nil]
      omega
    rw [h1]
def aMain (lits : List Int) (k next : Int) : List (List Int) :=
  aHead lits k next ++ (List.range (k.toNat - 1)).map (aHeadJ k next) ++ (List.range (lits.length - 2)).flatMap (fun i => aRow k next (lits.getD (i + 1) 0) (i + 2)) ++ [[-(lits.getD (lits.length - 1) 0), -(S k next (lits.length - 1) k)]]
/-- P21.1. -/
def am (lits : List Int) (k next : Int) : List (List Int) × Int :=
  if k < 0 then ([[]], next) else if k ≥ lits.length then ([], next) else if k = 0 then (lits.map fun x => [-x], next) else (aMain lits k next, next + (lits.length - 1) * k)

/-- weigh.AtMost -/
theorem AtMost_v (lits : List Int) (k next : Int) (tk : Tok) (O : VH) (hx : ∀ x ∈ lits, -1000000 ≤ x ∧ x ≤ 1000000) (hn : lits.length ≤ 50) (hk : -1000 ≤ k ∧ k ≤ 1000) (hnx : 0 ≤ next ∧ next ≤ 1000000) :
    VF Try.prog 14 [.sl lits.length (lits.map mi) tk, mi k, mi next] O (Ret fun m O' => O.Ge O' ∧ ∃ (cl : List (List Int × Tok)) (s : Tok), cl.map (·.1) = (am lits k next).1 ∧ m = .tuple [.sl cl.length (cl.map clM) s, mi (am lits k next).2]) := by
  refine VF.enter' tabOk Try.func14 (c := _) rfl (Nat.le_of_ble_eq_true rfl) ?_
  rw [show Try.f14.ntmps = 177 from rfl]
  simp only [argEnv, Nat.zero_add, Nat.reduceAdd]
  repeat' first
    | with_reducible refine VC.seq' ?_
    | with_reducible refine VC.block' ?_
    | with_reducible refine VC.skip ?_
    | with_reducible refine VC.label ?_
    | with_reducible refine VC.scope ?_
    | with_reducible refine VC.exit ?_
    | with_reducible refine VC.ret ?_
    | with_reducible refine VL.nil ?_
    | ((first | with_reducible apply VC.plainL | with_reducible apply VC.readsL (by kernel_rfl) (by kernel_rfl) (by kernel_rfl)); (with_reducible apply VL.run tabOk); (· (simp (disch := omega) only [vset, wset, ints, bools, strs, undefM, Nat.reduceLT, Nat.reduceAdd, Nat.reduceBEq, Int.reduceToNat, bd54, vlen_sl ty22] <;> exact rfl)))
    | ((with_reducible apply VC.cond); (· (simp (disch := omega) only [vset, wset, ints, bools, strs, undefM, Nat.reduceLT, Nat.reduceAdd, Nat.reduceBEq, Int.reduceToNat, bd54, vlen_sl ty22] <;> exact rfl)); all_goals (intro hcond; try simp only [decide_eq_true_eq, decide_eq_false_iff_not, beq_iff_eq, beq_eq_false_iff_ne, bne_iff_ne, bne_eq_false_iff_eq, ne_eq, reduceCtorEq] at hcond))
    | simp only [qset, Nat.reduceEqDiff, reduceIte]
    | ((apply EndQ.ret1 rfl); (· (simp only [look_cons, Nat.reduceBEq, cond_true, cond_false] <;> exact rfl)))
    | ((apply EndQ.ret2 rfl); (· (simp only [look_cons, Nat.reduceBEq, cond_true, cond_false] <;> exact rfl)); (· (simp only [look_cons, Nat.reduceBEq, cond_true, cond_false] <;> exact rfl)))
    | (refine EndQ.ret0 rfl ?_)
    | (refine EndQ.nor0 rfl ?_)
  have hM : Mk O O.next (O.next + 1) (O.next + 1 + 1) k next [] (((O.push (.cells [mi k])).push (.cells [mi next])).push (.cells [.sl 0 [] .nil])) := by
    refine ⟨((VH.Ge.refl O).push _ |>.push _ |>.push _), ⟨by omega, ?_⟩, ⟨by omega, ?_⟩, ⟨by omega, ?_⟩, by omega, by omega, ?_, ?_, .nil, ?_, trivial⟩
    · simp only [VH.next_push]; omega
    · simp only [VH.next_push]; omega
    · simp only [VH.next_push]; omega
    · rw [VH.push_ne _ _ (by simp only [VH.next_push]; omega), VH.push_ne _ _ (by simp only [VH.next_push]; omega)]; exact VH.push_new _ _
    · rw [VH.push_ne _ _ (by simp only [VH.next_push]; omega)]; exact VH.push_new (O.push _) _
    · exact VH.push_new ((O.push _).push _) _
  simp only [mi_def] at hM
  generalize (((O.push (.cells [.v (.int .i64 k)])).push (.cells [.v (.int .i64 next)])).push (.cells [.sl 0 [] .nil])) = O3 at hM ⊢
  generalize O.next + 1 + 1 = b8 at hM ⊢
  generalize O.next + 1 = b5 at hM ⊢
  generalize O.next = b4 at hM ⊢
  refine VC.keep [0, 2, 4, 5, 6, 7, 8, 9] ?_
  simp only [keep, List.filter, List.contains, List.elem, Nat.reduceBEq]
  by_cases hk0 : k < 0
  · have e : am lits k next = ([[]], next) := by rw [am, if_pos hk0]
    repeat' first
      | with_reducible refine VC.seq' ?_
      | with_reducible refine VC.block' ?_
      | with_reducible refine VC.skip ?_
      | with_reducible refine VC.label ?_
      | with_reducible refine VC.scope ?_
      | with_reducible refine VC.exit ?_
      | with_reducible refine VC.ret ?_
      | with_reducible refine VL.nil ?_
      | ((first | with_reducible apply VC.plainL | with_reducible apply VC.readsL (by kernel_rfl) (by kernel_rfl) (by kernel_rfl)); (with_reducible apply VL.run tabOk); (· (simp (disch := omega) only [vset, wset, ints, bools, strs, undefM, Nat.reduceLT, Nat.reduceAdd, Nat.reduceBEq, Int.reduceToNat, vload_p ty3 rfl hM.h4] <;> exact rfl)))
      | ((with_reducible apply VC.cond); (· (simp (disch := omega) only [vset, wset, ints, bools, strs, undefM, Nat.reduceLT, Nat.reduceAdd, Nat.reduceBEq, Int.reduceToNat, vload_p ty3 rfl hM.h4] <;> exact rfl)); all_goals (intro hcond; try simp only [decide_eq_true_eq, decide_eq_false_iff_not, beq_iff_eq, beq_eq_false_iff_ne, bne_iff_ne, bne_eq_false_iff_eq, ne_eq, reduceCtorEq] at hcond))
      | simp only [qset, Nat.reduceEqDiff, reduceIte]
      | ((apply EndQ.ret1 rfl); (· (simp only [look_cons, Nat.reduceBEq, cond_true, cond_false] <;> exact rfl)))
      | ((apply EndQ.ret2 rfl); (· (simp only [look_cons, Nat.reduceBEq, cond_true, cond_false] <;> exact rfl)); (· (simp only [look_cons, Nat.reduceBEq, cond_true, cond_false] <;> exact rfl)))
      | (refine EndQ.ret0 rfl ?_)
      | (refine EndQ.nor0 rfl ?_)
    apply VL.callR (id := 32) (hE := Enters.of Try.func32 (by decide) (by decide)) (hR := clause_mk hM (by simp) [] .nil rfl rfl)
    · exact rfl
    · (simp (disch := omega) only [vset, wset, ints, bools, strs, undefM, Nat.reduceLT, Nat.reduceAdd, Nat.reduceBEq, Int.reduceToNat] <;> exact rfl)
    · (simp (disch := omega) only [vset, wset, ints, bools, strs, undefM, Nat.reduceLT, Nat.reduceAdd, Nat.reduceBEq, Int.reduceToNat] <;> exact rfl)
    · exact rfl
    · exact rfl
    rintro _ O2 ⟨rfl, hM2⟩
    apply VL.run tabOk
    · (simp (disch := omega) only [vset, wset, ints, bools, strs, undefM, Nat.reduceLT, Nat.reduceAdd, Nat.reduceBEq, Int.reduceToNat] <;> exact rfl)
    obtain ⟨s, h8, -⟩ := hM2.h8
    repeat' first
      | with_reducible refine VC.seq' ?_
      | with_reducible refine VC.block' ?_
      | with_reducible refine VC.skip ?_
      | with_reducible refine VC.label ?_
      | with_reducible refine VC.scope ?_
      | with_reducible refine VC.exit ?_
      | with_reducible refine VC.ret ?_
      | with_reducible refine VL.nil ?_
      | ((first | with_reducible apply VC.plainL | with_reducible apply VC.readsL (by kernel_rfl) (by kernel_rfl) (by kernel_rfl)); (with_reducible apply VL.run tabOk); (· (simp (disch := omega) only [vset, wset, ints, bools, strs, undefM, Nat.reduceLT, Nat.reduceAdd, Nat.reduceBEq, Int.reduceToNat, vload_p ty3 rfl hM2.h5, vload_p ty24 rfl h8, fa54] <;> exact rfl)))
      | ((with_reducible apply VC.cond); (· (simp (disch := omega) only [vset, wset, ints, bools, strs, undefM, Nat.reduceLT, Nat.reduceAdd, Nat.reduceBEq, Int.reduceToNat, vload_p ty3 rfl hM2.h5, vload_p ty24 rfl h8, fa54] <;> exact rfl)); all_goals (intro hcond; try simp only [decide_eq_true_eq, decide_eq_false_iff_not, beq_iff_eq, beq_eq_false_iff_ne, bne_iff_ne, bne_eq_false_iff_eq, ne_eq, reduceCtorEq] at hcond))
      | simp only [qset, Nat.reduceEqDiff, reduceIte]
      | ((apply EndQ.ret1 rfl); (· (simp only [look_cons, Nat.reduceBEq, cond_true, cond_false] <;> exact rfl)))
      | ((apply EndQ.ret2 rfl); (· (simp only [look_cons, Nat.reduceBEq, cond_true, cond_false] <;> exact rfl)); (· (simp only [look_cons, Nat.reduceBEq, cond_true, cond_false] <;> exact rfl)))
      | (refine EndQ.ret0 rfl ?_)
      | (refine EndQ.nor0 rfl ?_)
    exact ⟨hM2.ge, [([], .nil)], s, by rw [e]; rfl, by rw [e]; rfl⟩
  by_cases hkn : k ≥ lits.length
  · have e : am lits k next = ([], next) := by rw [am, if_neg hk0, if_pos hkn]
    repeat' first
      | with_reducible refine VC.seq' ?_
      | with_reducible refine VC.block' ?_
      | with_reducible refine VC.skip ?_
      | with_reducible refine VC.label ?_
      | with_reducible refine VC.scope ?_
      | with_reducible refine VC.exit ?_
      | with_reducible refine VC.ret ?_
      | with_reducible refine VL.nil ?_
      | ((first | with_reducible apply VC.plainL | with_reducible apply VC.readsL (by kernel_rfl) (by kernel_rfl) (by kernel_rfl)); (with_reducible apply VL.run tabOk); (· (simp (disch := omega) only [vset, wset, ints, bools, strs, undefM, Nat.reduceLT, Nat.reduceAdd, Nat.reduceBEq, Int.reduceToNat, vload_p ty3 rfl hM.h4, vload_p ty3 rfl hM.h5] <;> exact rfl)))
      | ((with_reducible apply VC.cond); (· (simp (disch := omega) only [vset, wset, ints, bools, strs, undefM, Nat.reduceLT, Nat.reduceAdd, Nat.reduceBEq, Int.reduceToNat, vload_p ty3 rfl hM.h4, vload_p ty3 rfl hM.h5] <;> exact rfl)); all_goals (intro hcond; try simp only [decide_eq_true_eq, decide_eq_false_iff_not, beq_iff_eq, beq_eq_false_iff_ne, bne_iff_ne, bne_eq_false_iff_eq, ne_eq, reduceCtorEq] at hcond))
      | simp only [qset, Nat.reduceEqDiff, reduceIte]
      | ((apply EndQ.ret1 rfl); (· (simp only [look_cons, Nat.reduceBEq, cond_true, cond_false] <;> exact rfl)))
      | ((apply EndQ.ret2 rfl); (· (simp only [look_cons, Nat.reduceBEq, cond_true, cond_false] <;> exact rfl)); (· (simp only [look_cons, Nat.reduceBEq, cond_true, cond_false] <;> exact rfl)))
      | (refine EndQ.ret0 rfl ?_)
      | (refine EndQ.nor0 rfl ?_)
    exact ⟨hM.ge, [], .nil, by rw [e]; rfl, by rw [e]; rfl⟩
  by_cases hke : k = 0
  · have e : am lits k next = (lits.map fun x => [-x], next) := by rw [am, if_neg hk0, if_neg hkn, if_pos hke]
    repeat' first
      | with_reducible refine VC.seq' ?_
      | with_reducible refine VC.block' ?_
      | with_reducible refine VC.skip ?_
      | with_reducible refine VC.label ?_
      | with_reducible refine VC.scope ?_
      | with_reducible refine VC.exit ?_
      | with_reducible refine VC.ret ?_
      | with_reducible refine VL.nil ?_
      | ((first | with_reducible apply VC.plainL | with_reducible apply VC.readsL (by kernel_rfl) (by kernel_rfl) (by kernel_rfl)); (with_reducible apply VL.run tabOk); (· (simp (disch := omega) only [vset, wset, ints, bools, strs, undefM, Nat.reduceLT, Nat.reduceAdd, Nat.reduceBEq, Int.reduceToNat, vload_p ty3 rfl hM.h4, vload_p ty3 rfl hM.h5, vlen_sl ty22] <;> exact rfl)))
      | ((with_reducible apply VC.cond); (· (simp (disch := omega) only [vset, wset, ints, bools, strs, undefM, Nat.reduceLT, Nat.reduceAdd, Nat.reduceBEq, Int.reduceToNat, vload_p ty3 rfl hM.h4, vload_p ty3 rfl hM.h5, vlen_sl ty22] <;> exact rfl)); all_goals (intro hcond; try simp only [decide_eq_true_eq, decide_eq_false_iff_not, beq_iff_eq, beq_eq_false_iff_ne, bne_iff_ne, bne_eq_false_iff_eq, ne_eq, reduceCtorEq] at hcond))
      | simp only [qset, Nat.reduceEqDiff, reduceIte]
      | ((apply EndQ.ret1 rfl); (· (simp only [look_cons, Nat.reduceBEq, cond_true, cond_false] <;> exact rfl)))
      | ((apply EndQ.ret2 rfl); (· (simp only [look_cons, Nat.reduceBEq, cond_true, cond_false] <;> exact rfl)); (· (simp only [look_cons, Nat.reduceBEq, cond_true, cond_false] <;> exact rfl)))
      | (refine EndQ.ret0 rfl ?_)
      | (refine EndQ.nor0 rfl ?_)
    refine VC.loopS' [5, 8, 39, 40, 41] (fun j : Nat => [.ptr b5 0, .ptr b8 0, .sl lits.length (lits.map mi) tk, mi lits.length, mi j])
      (fun j O' => j ≤ lits.length ∧ Mk O b4 b5 b8 k next ((lits.take j).map fun x => ([-x], .full)) O') (fun j => lits.length - j) 0 ?_ ⟨by omega, hM⟩ ?_
    · (simp only [vset, wset, ints, bools, strs, undefM, Nat.reduceLT, Nat.reduceAdd, Nat.reduceBEq, Int.reduceToNat] <;> exact rfl)
    rintro j O' ⟨hj, hM2⟩
    rw [pair_cons]
    by_cases h2 : j < lits.length
    · have hb := hx lits[j] (List.getElem_mem h2)
      repeat' first
        | with_reducible refine VC.seq' ?_
        | with_reducible refine VC.block' ?_
        | with_reducible refine VC.skip ?_
        | with_reducible refine VC.label ?_
        | with_reducible refine VC.scope ?_
        | with_reducible refine VC.exit ?_
        | with_reducible refine VC.ret ?_
        | with_reducible refine VL.nil ?_
        | ((first | with_reducible apply VC.plainL | with_reducible apply VC.readsL (by kernel_rfl) (by kernel_rfl) (by kernel_rfl)); (with_reducible apply VL.run tabOk); (· (simp (disch := omega) only [vset, wset, ints, bools, strs, undefM, Nat.reduceLT, Nat.reduceAdd, Nat.reduceBEq, Int.reduceToNat, vix_sl ty22 ty3, vload_c ty3 rfl, vbs1v ty22 ty3] <;> exact rfl)))
        | ((with_reducible apply VC.cond); (· (simp (disch := omega) only [vset, wset, ints, bools, strs, undefM, Nat.reduceLT, Nat.reduceAdd, Nat.reduceBEq, Int.reduceToNat, vix_sl ty22 ty3, vload_c ty3 rfl, vbs1v ty22 ty3] <;> exact rfl)); all_goals (intro hcond; try simp only [decide_eq_true_eq, decide_eq_false_iff_not, beq_iff_eq, beq_eq_false_iff_ne, bne_iff_ne, bne_eq_false_iff_eq, ne_eq, reduceCtorEq] at hcond))
        | simp only [qset, Nat.reduceEqDiff, reduceIte]
        | ((apply EndQ.ret1 rfl); (· (simp only [look_cons, Nat.reduceBEq, cond_true, cond_false] <;> exact rfl)))
        | ((apply EndQ.ret2 rfl); (· (simp only [look_cons, Nat.reduceBEq, cond_true, cond_false] <;> exact rfl)); (· (simp only [look_cons, Nat.reduceBEq, cond_true, cond_false] <;> exact rfl)))
        | (refine EndQ.ret0 rfl ?_)
        | (refine EndQ.nor0 rfl ?_)
      apply VL.callR (id := 32) (hE := Enters.of Try.func32 (by decide) (by decide)) (hR := clause_mk hM2 (by simp; omega) [-lits[j]] .full rfl rfl)
      · exact rfl
      · (simp (disch := omega) only [vset, wset, ints, bools, strs, undefM, Nat.reduceLT, Nat.reduceAdd, Nat.reduceBEq, Int.reduceToNat] <;> exact rfl)
      · (simp (disch := omega) only [vset, wset, ints, bools, strs, undefM, Nat.reduceLT, Nat.reduceAdd, Nat.reduceBEq, Int.reduceToNat] <;> exact rfl)
      · exact rfl
      · exact rfl
      rintro _ O2 ⟨rfl, hM3⟩
      apply VL.run tabOk
      · (simp (disch := omega) only [vset, wset, ints, bools, strs, undefM, Nat.reduceLT, Nat.reduceAdd, Nat.reduceBEq, Int.reduceToNat] <;> exact rfl)
      repeat' first
        | with_reducible refine VC.seq' ?_
        | with_reducible refine VC.block' ?_
        | with_reducible refine VC.skip ?_
        | with_reducible refine VC.label ?_
        | with_reducible refine VC.scope ?_
        | with_reducible refine VC.exit ?_
        | with_reducible refine VC.ret ?_
        | with_reducible refine VL.nil ?_
        | ((first | with_reducible apply VC.plainL | with_reducible apply VC.readsL (by kernel_rfl) (by kernel_rfl) (by kernel_rfl)); (with_reducible apply VL.run tabOk); (· (simp (disch := omega) only [vset, wset, ints, bools, strs, undefM, Nat.reduceLT, Nat.reduceAdd, Nat.reduceBEq, Int.reduceToNat] <;> exact rfl)))
        | ((with_reducible apply VC.cond); (· (simp (disch := omega) only [vset, wset, ints, bools, strs, undefM, Nat.reduceLT, Nat.reduceAdd, Nat.reduceBEq, Int.reduceToNat] <;> exact rfl)); all_goals (intro hcond; try simp only [decide_eq_true_eq, decide_eq_false_iff_not, beq_iff_eq, beq_eq_false_iff_ne, bne_iff_ne, bne_eq_false_iff_eq, ne_eq, reduceCtorEq] at hcond))
        | simp only [qset, Nat.reduceEqDiff, reduceIte]
        | ((apply EndQ.ret1 rfl); (· (simp only [look_cons, Nat.reduceBEq, cond_true, cond_false] <;> exact rfl)))
        | ((apply EndQ.ret2 rfl); (· (simp only [look_cons, Nat.reduceBEq, cond_true, cond_false] <;> exact rfl)); (· (simp only [look_cons, Nat.reduceBEq, cond_true, cond_false] <;> exact rfl)))
        | (refine EndQ.ret0 rfl ?_)
        | (refine EndQ.nor0 rfl ?_)
      refine ⟨j + 1, ?_, ⟨by omega, ?_⟩, by dsimp only; omega⟩
      · simp only [vset, wset, ints, bools, strs, undefM, Nat.reduceLT, Nat.reduceAdd, Nat.reduceBEq, Int.reduceToNat, Int.natCast_add, Int.cast_ofNat_Int]
      · rw [take_snoc _ _ h2, List.map_append]; exact hM3
    · obtain ⟨s, h8, -⟩ := hM2.h8
      repeat' first
        | with_reducible refine VC.seq' ?_
        | with_reducible refine VC.block' ?_
        | with_reducible refine VC.skip ?_
        | with_reducible refine VC.label ?_
        | with_reducible refine VC.scope ?_
        | with_reducible refine VC.exit ?_
        | with_reducible refine VC.ret ?_
        | with_reducible refine VL.nil ?_
        | ((first | with_reducible apply VC.plainL | with_reducible apply VC.readsL (by kernel_rfl) (by kernel_rfl) (by kernel_rfl)); (with_reducible apply VL.run tabOk); (· (simp (disch := omega) only [vset, wset, ints, bools, strs, undefM, Nat.reduceLT, Nat.reduceAdd, Nat.reduceBEq, Int.reduceToNat, vload_p ty3 rfl hM2.h5, vload_p ty24 rfl h8, fa54] <;> exact rfl)))
        | ((with_reducible apply VC.cond); (· (simp (disch := omega) only [vset, wset, ints, bools, strs, undefM, Nat.reduceLT, Nat.reduceAdd, Nat.reduceBEq, Int.reduceToNat, vload_p ty3 rfl hM2.h5, vload_p ty24 rfl h8, fa54] <;> exact rfl)); all_goals (intro hcond; try simp only [decide_eq_true_eq, decide_eq_false_iff_not, beq_iff_eq, beq_eq_false_iff_ne, bne_iff_ne, bne_eq_false_iff_eq, ne_eq, reduceCtorEq] at hcond))
        | simp only [qset, Nat.reduceEqDiff, reduceIte]
        | ((apply EndQ.ret1 rfl); (· (simp only [look_cons, Nat.reduceBEq, cond_true, cond_false] <;> exact rfl)))
        | ((apply EndQ.ret2 rfl); (· (simp only [look_cons, Nat.reduceBEq, cond_true, cond_false] <;> exact rfl)); (· (simp only [look_cons, Nat.reduceBEq, cond_true, cond_false] <;> exact rfl)))
        | (refine EndQ.ret0 rfl ?_)
        | (refine EndQ.nor0 rfl ?_)
      refine ⟨hM2.ge, (lits.take j).map fun x => ([-x], .full), s, ?_, by rw [e]; rfl⟩
      rw [e, List.take_of_length_le (by omega), List.map_map]; rfl
  have e : am lits k next = (aMain lits k next, next + (lits.length - 1) * k) := by rw [am, if_neg hk0, if_neg hkn, if_neg hke]
  have h0 : 0 < lits.length := by omega
  have hb := hx lits[0] (List.getElem_mem h0)
  repeat' first
    | with_reducible refine VC.seq' ?_
    | with_reducible refine VC.block' ?_
    | with_reducible refine VC.skip ?_
    | with_reducible refine VC.label ?_
    | with_reducible refine VC.scope ?_
    | with_reducible refine VC.exit ?_
    | with_reducible refine VC.ret ?_
    | with_reducible refine VL.nil ?_
    | ((first | with_reducible apply VC.plainL | with_reducible apply VC.readsL (by kernel_rfl) (by kernel_rfl) (by kernel_rfl)); (with_reducible apply VL.run tabOk); (· (simp (disch := omega) only [vset, wset, ints, bools, strs, undefM, Nat.reduceLT, Nat.reduceAdd, Nat.reduceBEq, Int.reduceToNat, vload_p ty3 rfl hM.h4, vload_p ty3 rfl hM.h5, vlen_sl ty22] <;> exact rfl)))
    | ((with_reducible apply VC.cond); (· (simp (disch := omega) only [vset, wset, ints, bools, strs, undefM, Nat.reduceLT, Nat.reduceAdd, Nat.reduceBEq, Int.reduceToNat, vload_p ty3 rfl hM.h4, vload_p ty3 rfl hM.h5, vlen_sl ty22] <;> exact rfl)); all_goals (intro hcond; try simp only [decide_eq_true_eq, decide_eq_false_iff_not, beq_iff_eq, beq_eq_false_iff_ne, bne_iff_ne, bne_eq_false_iff_eq, ne_eq, reduceCtorEq] at hcond))
    | simp only [qset, Nat.reduceEqDiff, reduceIte]
    | ((apply EndQ.ret1 rfl); (· (simp only [look_cons, Nat.reduceBEq, cond_true, cond_false] <;> exact rfl)))
    | ((apply EndQ.ret2 rfl); (· (simp only [look_cons, Nat.reduceBEq, cond_true, cond_false] <;> exact rfl)); (· (simp only [look_cons, Nat.reduceBEq, cond_true, cond_false] <;> exact rfl)))
    | (refine EndQ.ret0 rfl ?_)
    | (refine EndQ.nor0 rfl ?_)
  apply VC.drawnL .any [(0, .sil), (1, .sil), (2, .sil), (3, .sil), (4, .sil), (5, .sil), (6, .one), (7, .one), (8, .one)] (by simp) (by kernel_rfl) (by kernel_rfl) (by kernel_rfl)
  · exact rfl
  apply VL.run tabOk
  · (simp (disch := omega) only [vset, wset, ints, bools, strs, undefM, Nat.reduceLT, Nat.reduceAdd, Nat.reduceBEq, Int.reduceToNat, vix_sl ty22 ty3, vload_c ty3 rfl] <;> exact rfl)
  have hS11 := S_bound (k := k) (next := next) (i := 1) (j := 1) (by omega) (by omega) (by omega) (by omega)
  apply VL.callR (id := 33) (hE := Enters.of Try.func33 (by decide) (by decide)) (hR := s_mk hM 1 1 (by omega) (by omega) (by omega) (by omega))
  · exact rfl
  · (simp (disch := omega) only [vset, wset, ints, bools, strs, undefM, Nat.reduceLT, Nat.reduceAdd, Nat.reduceBEq, Int.reduceToNat, vbs2v ty22 ty3] <;> exact rfl)
  · (simp (disch := omega) only [vset, wset, ints, bools, strs, undefM, Nat.reduceLT, Nat.reduceAdd, Nat.reduceBEq, Int.reduceToNat, vbs2v ty22 ty3] <;> exact rfl)
  · exact rfl
  · exact rfl
  rintro _ O2 ⟨rfl, rfl⟩
  apply VL.run tabOk
  · (simp (disch := omega) only [vset, wset, ints, bools, strs, undefM, Nat.reduceLT, Nat.reduceAdd, Nat.reduceBEq, Int.reduceToNat, vbs2v ty22 ty3] <;> exact rfl)
  apply VL.callR (id := 32) (hE := Enters.of Try.func32 (by decide) (by decide)) (hR := clause_mk hM (by simp) [-lits[0], S k next 1 1] .full rfl rfl)
  · exact rfl
  · (simp (disch := omega) only [vset, wset, ints, bools, strs, undefM, Nat.reduceLT, Nat.reduceAdd, Nat.reduceBEq, Int.reduceToNat] <;> exact rfl)
  · (simp (disch := omega) only [vset, wset, ints, bools, strs, undefM, Nat.reduceLT, Nat.reduceAdd, Nat.reduceBEq, Int.reduceToNat] <;> exact rfl)
  · exact rfl
  · exact rfl
  rintro _ O2 ⟨rfl, hM2⟩
  apply VL.run tabOk
  · (simp (disch := omega) only [vset, wset, ints, bools, strs, undefM, Nat.reduceLT, Nat.reduceAdd, Nat.reduceBEq, Int.reduceToNat] <;> exact rfl)
  clear hM
  have hM3 : Mk O b4 b5 b8 k next (full (aHead lits k next)) O2 := by
    rw [aHead, List.getD_eq_getElem?_getD, List.getElem?_eq_getElem h0]; exact hM2
  clear hM2
  repeat' first
    | with_reducible refine VC.seq' ?_
    | with_reducible refine VC.block' ?_
    | with_reducible refine VC.skip ?_
    | with_reducible refine VC.label ?_
    | with_reducible refine VC.scope ?_
    | with_reducible refine VC.exit ?_
    | with_reducible refine VC.ret ?_
    | with_reducible refine VL.nil ?_
    | ((first | with_reducible apply VC.plainL | with_reducible apply VC.readsL (by kernel_rfl) (by kernel_rfl) (by kernel_rfl)); (with_reducible apply VL.run tabOk); (· (simp (disch := omega) only [vset, wset, ints, bools, strs, undefM, Nat.reduceLT, Nat.reduceAdd, Nat.reduceBEq, Int.reduceToNat] <;> exact rfl)))
    | ((with_reducible apply VC.cond); (· (simp (disch := omega) only [vset, wset, ints, bools, strs, undefM, Nat.reduceLT, Nat.reduceAdd, Nat.reduceBEq, Int.reduceToNat] <;> exact rfl)); all_goals (intro hcond; try simp only [decide_eq_true_eq, decide_eq_false_iff_not, beq_iff_eq, beq_eq_false_iff_ne, bne_iff_ne, bne_eq_false_iff_eq, ne_eq, reduceCtorEq] at hcond))
    | simp only [qset, Nat.reduceEqDiff, reduceIte]
    | ((apply EndQ.ret1 rfl); (· (simp only [look_cons, Nat.reduceBEq, cond_true, cond_false] <;> exact rfl)))
    | ((apply EndQ.ret2 rfl); (· (simp only [look_cons, Nat.reduceBEq, cond_true, cond_false] <;> exact rfl)); (· (simp only [look_cons, Nat.reduceBEq, cond_true, cond_false] <;> exact rfl)))
    | (refine EndQ.ret0 rfl ?_)
    | (refine EndQ.nor0 rfl ?_)
  refine VC.loopS' [0, 4, 5, 8, 9, 12, 13] (fun j : Nat => [.sl lits.length (lits.map mi) tk, .ptr b4 0, .ptr b5 0, .ptr b8 0, mi lits.length, .func (.func 33) [] [.ptr b5 0, .ptr b4 0], mi ((j : Int) + 2)])
      (fun j O' => j ≤ k.toNat - 1 ∧ Mk O b4 b5 b8 k next (full (aHead lits k next ++ (List.range j).map (aHeadJ k next))) O') (fun j => k.toNat - 1 - j) 0 ?_ ⟨by omega, by rw [List.range_zero, List.map_nil, List.append_nil]; exact hM3⟩ ?_
  · (simp only [vset, wset, ints, bools, strs, undefM, Nat.reduceLT, Nat.reduceAdd, Nat.reduceBEq, Int.reduceToNat] <;> exact rfl)
  clear hM3
  rintro j O' ⟨hj, hM⟩
  rw [pair_cons]
  by_cases hjk : (j : Int) + 2 ≤ k
  · have hS := S_bound (k := k) (next := next) (i := 1) (j := (j : Int) + 2) (by omega) (by omega) (by omega) (by omega)
    repeat' first
      | with_reducible refine VC.seq' ?_
      | with_reducible refine VC.block' ?_
      | with_reducible refine VC.skip ?_
      | with_reducible refine VC.label ?_
      | with_reducible refine VC.scope ?_
      | with_reducible refine VC.exit ?_
      | with_reducible refine VC.ret ?_
      | with_reducible refine VL.nil ?_
      | ((first | with_reducible apply VC.plainL | with_reducible apply VC.readsL (by kernel_rfl) (by kernel_rfl) (by kernel_rfl)); (with_reducible apply VL.run tabOk); (· (simp (disch := omega) only [vset, wset, ints, bools, strs, undefM, Nat.reduceLT, Nat.reduceAdd, Nat.reduceBEq, Int.reduceToNat, vload_p ty3 rfl hM.h4] <;> exact rfl)))
      | ((with_reducible apply VC.cond); (· (simp (disch := omega) only [vset, wset, ints, bools, strs, undefM, Nat.reduceLT, Nat.reduceAdd, Nat.reduceBEq, Int.reduceToNat, vload_p ty3 rfl hM.h4] <;> exact rfl)); all_goals (intro hcond; try simp only [decide_eq_true_eq, decide_eq_false_iff_not, beq_iff_eq, beq_eq_false_iff_ne, bne_iff_ne, bne_eq_false_iff_eq, ne_eq, reduceCtorEq] at hcond))
      | simp only [qset, Nat.reduceEqDiff, reduceIte]
      | ((apply EndQ.ret1 rfl); (· (simp only [look_cons, Nat.reduceBEq, cond_true, cond_false] <;> exact rfl)))
      | ((apply EndQ.ret2 rfl); (· (simp only [look_cons, Nat.reduceBEq, cond_true, cond_false] <;> exact rfl)); (· (simp only [look_cons, Nat.reduceBEq, cond_true, cond_false] <;> exact rfl)))
      | (refine EndQ.ret0 rfl ?_)
      | (refine EndQ.nor0 rfl ?_)
    apply VL.run tabOk
    · (simp (disch := omega) only [vset, wset, ints, bools, strs, undefM, Nat.reduceLT, Nat.reduceAdd, Nat.reduceBEq, Int.reduceToNat] <;> exact rfl)
    apply VL.callR (id := 33) (hE := Enters.of Try.func33 (by decide) (by decide)) (hR := s_mk hM 1 ((j : Int) + 2) (by omega) (by omega) (by omega) (by omega))
    · exact rfl
    · (simp (disch := omega) only [vset, wset, ints, bools, strs, undefM, Nat.reduceLT, Nat.reduceAdd, Nat.reduceBEq, Int.reduceToNat, vbs1v ty22 ty3] <;> exact rfl)
    · (simp (disch := omega) only [vset, wset, ints, bools, strs, undefM, Nat.reduceLT, Nat.reduceAdd, Nat.reduceBEq, Int.reduceToNat, vbs1v ty22 ty3] <;> exact rfl)
    · exact rfl
    · exact rfl
    rintro _ O2 ⟨rfl, rfl⟩
    apply VL.run tabOk
    · (simp (disch := omega) only [vset, wset, ints, bools, strs, undefM, Nat.reduceLT, Nat.reduceAdd, Nat.reduceBEq, Int.reduceToNat, vbs1v ty22 ty3] <;> exact rfl)
    apply VL.callR (id := 32) (hE := Enters.of Try.func32 (by decide) (by decide)) (hR := clause_mk hM (by simp [full, aHead]; omega) (aHeadJ k next j) .full rfl rfl)
    · exact rfl
    · (simp (disch := omega) only [vset, wset, ints, bools, strs, undefM, Nat.reduceLT, Nat.reduceAdd, Nat.reduceBEq, Int.reduceToNat] <;> exact rfl)
    · (simp (disch := omega) only [vset, wset, ints, bools, strs, undefM, Nat.reduceLT, Nat.reduceAdd, Nat.reduceBEq, Int.reduceToNat] <;> exact rfl)
    · exact rfl
    · exact rfl
    rintro _ O2 ⟨rfl, hM2⟩
    apply VL.run tabOk
    · (simp (disch := omega) only [vset, wset, ints, bools, strs, undefM, Nat.reduceLT, Nat.reduceAdd, Nat.reduceBEq, Int.reduceToNat] <;> exact rfl)
    repeat' first
      | with_reducible refine VC.seq' ?_
      | with_reducible refine VC.block' ?_
      | with_reducible refine VC.skip ?_
      | with_reducible refine VC.label ?_
      | with_reducible refine VC.scope ?_
      | with_reducible refine VC.exit ?_
      | with_reducible refine VC.ret ?_
      | with_reducible refine VL.nil ?_
      | ((first | with_reducible apply VC.plainL | with_reducible apply VC.readsL (by kernel_rfl) (by kernel_rfl) (by kernel_rfl)); (with_reducible apply VL.run tabOk); (· (simp (disch := omega) only [vset, wset, ints, bools, strs, undefM, Nat.reduceLT, Nat.reduceAdd, Nat.reduceBEq, Int.reduceToNat] <;> exact rfl)))
      | ((with_reducible apply VC.cond); (· (simp (disch := omega) only [vset, wset, ints, bools, strs, undefM, Nat.reduceLT, Nat.reduceAdd, Nat.reduceBEq, Int.reduceToNat] <;> exact rfl)); all_goals (intro hcond; try simp only [decide_eq_true_eq, decide_eq_false_iff_not, beq_iff_eq, beq_eq_false_iff_ne, bne_iff_ne, bne_eq_false_iff_eq, ne_eq, reduceCtorEq] at hcond))
      | simp only [qset, Nat.reduceEqDiff, reduceIte]
      | ((apply EndQ.ret1 rfl); (· (simp only [look_cons, Nat.reduceBEq, cond_true, cond_false] <;> exact rfl)))
      | ((apply EndQ.ret2 rfl); (· (simp only [look_cons, Nat.reduceBEq, cond_true, cond_false] <;> exact rfl)); (· (simp only [look_cons, Nat.reduceBEq, cond_true, cond_false] <;> exact rfl)))
      | (refine EndQ.ret0 rfl ?_)
      | (refine EndQ.nor0 rfl ?_)
    refine ⟨j + 1, ?_, ⟨by omega, ?_⟩, by dsimp only; omega⟩
    · simp (disch := omega) only [vset, wset, ints, bools, strs, undefM, Nat.reduceLT, Nat.reduceAdd, Nat.reduceBEq, Int.reduceToNat, Int.natCast_add, Int.cast_ofNat_Int]
      exact congrArg some (by congr 3)
    · rw [full_snoc, List.append_assoc] at hM2
      rw [List.range_succ, List.map_append]; exact hM2
  obtain rfl : j = k.toNat - 1 := by omega
  repeat' first
    | with_reducible refine VC.seq' ?_
    | with_reducible refine VC.block' ?_
    | with_reducible refine VC.skip ?_
    | with_reducible refine VC.label ?_
    | with_reducible refine VC.scope ?_
    | with_reducible refine VC.exit ?_
    | with_reducible refine VC.ret ?_
    | with_reducible refine VL.nil ?_
    | ((first | with_reducible apply VC.plainL | with_reducible apply VC.readsL (by kernel_rfl) (by kernel_rfl) (by kernel_rfl)); (with_reducible apply VL.run tabOk); (· (simp (disch := omega) only [vset, wset, ints, bools, strs, undefM, Nat.reduceLT, Nat.reduceAdd, Nat.reduceBEq, Int.reduceToNat, vload_p ty3 rfl hM.h4] <;> exact rfl)))
    | ((with_reducible apply VC.cond); (· (simp (disch := omega) only [vset, wset, ints, bools, strs, undefM, Nat.reduceLT, Nat.reduceAdd, Nat.reduceBEq, Int.reduceToNat, vload_p ty3 rfl hM.h4] <;> exact rfl)); all_goals (intro hcond; try simp only [decide_eq_true_eq, decide_eq_false_iff_not, beq_iff_eq, beq_eq_false_iff_ne, bne_iff_ne, bne_eq_false_iff_eq, ne_eq, reduceCtorEq] at hcond))
    | simp only [qset, Nat.reduceEqDiff, reduceIte]
    | ((apply EndQ.ret1 rfl); (· (simp only [look_cons, Nat.reduceBEq, cond_true, cond_false] <;> exact rfl)))
    | ((apply EndQ.ret2 rfl); (· (simp only [look_cons, Nat.reduceBEq, cond_true, cond_false] <;> exact rfl)); (· (simp only [look_cons, Nat.reduceBEq, cond_true, cond_false] <;> exact rfl)))
    | (refine EndQ.ret0 rfl ?_)
    | (refine EndQ.nor0 rfl ?_)
  refine VC.loopS' [0, 4, 5, 8, 9, 12, 14] (fun j : Nat => [.sl lits.length (lits.map mi) tk, .ptr b4 0, .ptr b5 0, .ptr b8 0, mi lits.length, .func (.func 33) [] [.ptr b5 0, .ptr b4 0], mi ((j : Int) + 2)])
      (fun j O' => j ≤ lits.length - 2 ∧ Mk O b4 b5 b8 k next (full (aHead lits k next ++ (List.range (k.toNat - 1)).map (aHeadJ k next) ++ (List.range j).flatMap (fun i => aRow k next (lits.getD (i + 1) 0) (i + 2)))) O') (fun j => lits.length - j) 0 ?_ ⟨by omega, by rw [List.range_zero, List.flatMap_nil, List.append_nil]; exact hM⟩ ?_
  · (simp only [vset, wset, ints, bools, strs, undefM, Nat.reduceLT, Nat.reduceAdd, Nat.reduceBEq, Int.reduceToNat] <;> exact rfl)
  clear hM hjk hj
  rintro i O' ⟨hi, hM⟩
  rw [pair_cons]
  have hlen : (aHead lits k next ++ (List.range (k.toNat - 1)).map (aHeadJ k next)).length + ((List.range i).flatMap (fun i => aRow k next (lits.getD (i + 1) 0) (i + 2))).length ≤ 20000 := by
    rw [rows_len (by omega)]
    simp only [List.length_map, List.length_append, List.length_range, aHead, List.length_cons, List.length_nil]
    have h3 : i * (2 * k.toNat + 1) ≤ 50 * 101 := Nat.mul_le_mul (by omega) (by omega)
    omega
  generalize hA : aHead lits k next ++ (List.range (k.toNat - 1)).map (aHeadJ k next) = A at *
  have hlast : Mk O b4 b5 b8 k next (full (A ++ (List.range i).flatMap (fun i => aRow k next (lits.getD (i + 1) 0) (i + 2)))) O' := hM
  by_cases hil : (i : Int) + 2 < lits.length
  · have hi1 : i + 1 < lits.length := by omega
    have hxe : lits[((i : Int) + 2 - 1).toNat]? = some (lits.getD (i + 1) 0) := by
      rw [show ((i : Int) + 2 - 1).toNat = i + 1 by omega, List.getD_eq_getElem?_getD, List.getElem?_eq_getElem hi1]; rfl
    have hxb : -1000000 ≤ lits.getD (i + 1) 0 ∧ lits.getD (i + 1) 0 ≤ 1000000 := by
      rw [List.getD_eq_getElem?_getD, List.getElem?_eq_getElem hi1]; exact hx _ (List.getElem_mem hi1)
    have hB : (List.range (i + 1)).flatMap (fun i : Nat => aRow k next (lits.getD (i + 1) 0) (i + 2)) = (List.range i).flatMap (fun i : Nat => aRow k next (lits.getD (i + 1) 0) (i + 2)) ++ aRow k next (lits.getD (i + 1) 0) ((i : Int) + 2) := by
      rw [List.range_succ, List.flatMap_append, List.flatMap_cons, List.flatMap_nil, List.append_nil]
    generalize hBd : (List.range i).flatMap (fun i : Nat => aRow k next (lits.getD (i + 1) 0) (i + 2)) = B at *
    generalize lits.getD (i + 1) 0 = x at *
    have hS1 := S_bound (k := k) (next := next) (i := (i : Int) + 2) (j := 1) (by omega) (by omega) (by omega) (by omega)
    have hS2 := S_bound (k := k) (next := next) (i := (i : Int) + 2 - 1) (j := 1) (by omega) (by omega) (by omega) (by omega)
    have hS3 := S_bound (k := k) (next := next) (i := (i : Int) + 2 - 1) (j := k) (by omega) (by omega) (by omega) (by omega)
    repeat' first
      | with_reducible refine VC.seq' ?_
      | with_reducible refine VC.block' ?_
      | with_reducible refine VC.skip ?_
      | with_reducible refine VC.label ?_
      | with_reducible refine VC.scope ?_
      | with_reducible refine VC.exit ?_
      | with_reducible refine VC.ret ?_
      | with_reducible refine VL.nil ?_
      | ((first | with_reducible apply VC.plainL | with_reducible apply VC.readsL (by kernel_rfl) (by kernel_rfl) (by kernel_rfl)); (with_reducible apply VL.run tabOk); (· (simp (disch := omega) only [vset, wset, ints, bools, strs, undefM, Nat.reduceLT, Nat.reduceAdd, Nat.reduceBEq, Int.reduceToNat, vix_sl ty22 ty3, vload_c ty3 rfl, hxe] <;> exact rfl)))
      | ((with_reducible apply VC.cond); (· (simp (disch := omega) only [vset, wset, ints, bools, strs, undefM, Nat.reduceLT, Nat.reduceAdd, Nat.reduceBEq, Int.reduceToNat, vix_sl ty22 ty3, vload_c ty3 rfl, hxe] <;> exact rfl)); all_goals (intro hcond; try simp only [decide_eq_true_eq, decide_eq_false_iff_not, beq_iff_eq, beq_eq_false_iff_ne, bne_iff_ne, bne_eq_false_iff_eq, ne_eq, reduceCtorEq] at hcond))
      | simp only [qset, Nat.reduceEqDiff, reduceIte]
      | ((apply EndQ.ret1 rfl); (· (simp only [look_cons, Nat.reduceBEq, cond_true, cond_false] <;> exact rfl)))
      | ((apply EndQ.ret2 rfl); (· (simp only [look_cons, Nat.reduceBEq, cond_true, cond_false] <;> exact rfl)); (· (simp only [look_cons, Nat.reduceBEq, cond_true, cond_false] <;> exact rfl)))
      | (refine EndQ.ret0 rfl ?_)
      | (refine EndQ.nor0 rfl ?_)
    apply VL.callR (id := 33) (hE := Enters.of Try.func33 (by decide) (by decide)) (hR := s_mk hM ((i : Int) + 2) 1 (by omega) (by omega) (by omega) (by omega))
    · exact rfl
    · (simp (disch := omega) only [vset, wset, ints, bools, strs, undefM, Nat.reduceLT, Nat.reduceAdd, Nat.reduceBEq, Int.reduceToNat, vbs2v ty22 ty3] <;> exact rfl)
    · (simp (disch := omega) only [vset, wset, ints, bools, strs, undefM, Nat.reduceLT, Nat.reduceAdd, Nat.reduceBEq, Int.reduceToNat, vbs2v ty22 ty3] <;> exact rfl)
    · exact rfl
    · exact rfl
    rintro _ O2 ⟨rfl, rfl⟩
    apply VL.run tabOk
    · (simp (disch := omega) only [vset, wset, ints, bools, strs, undefM, Nat.reduceLT, Nat.reduceAdd, Nat.reduceBEq, Int.reduceToNat, vbs2v ty22 ty3] <;> exact rfl)
    apply VL.callR (id := 32) (hE := Enters.of Try.func32 (by decide) (by decide)) (hR := clause_mk hM (by simp [full]; omega) [-x, S k next ((i : Int) + 2) 1] .full rfl rfl)
    · exact rfl
    · (simp (disch := omega) only [vset, wset, ints, bools, strs, undefM, Nat.reduceLT, Nat.reduceAdd, Nat.reduceBEq, Int.reduceToNat] <;> exact rfl)
    · (simp (disch := omega) only [vset, wset, ints, bools, strs, undefM, Nat.reduceLT, Nat.reduceAdd, Nat.reduceBEq, Int.reduceToNat] <;> exact rfl)
    · exact rfl
    · exact rfl
    rintro _ O2 ⟨rfl, hM2⟩
    apply VL.run tabOk
    · (simp (disch := omega) only [vset, wset, ints, bools, strs, undefM, Nat.reduceLT, Nat.reduceAdd, Nat.reduceBEq, Int.reduceToNat] <;> exact rfl)
    clear hM
    rw [full_snoc] at hM2
    repeat' first
      | with_reducible refine VC.seq' ?_
      | with_reducible refine VC.block' ?_
      | with_reducible refine VC.skip ?_
      | with_reducible refine VC.label ?_
      | with_reducible refine VC.scope ?_
      | with_reducible refine VC.exit ?_
      | with_reducible refine VC.ret ?_
      | with_reducible refine VL.nil ?_
      | ((first | with_reducible apply VC.plainL | with_reducible apply VC.readsL (by kernel_rfl) (by kernel_rfl) (by kernel_rfl)); (with_reducible apply VL.run tabOk); (· (simp (disch := omega) only [vset, wset, ints, bools, strs, undefM, Nat.reduceLT, Nat.reduceAdd, Nat.reduceBEq, Int.reduceToNat] <;> exact rfl)))
      | ((with_reducible apply VC.cond); (· (simp (disch := omega) only [vset, wset, ints, bools, strs, undefM, Nat.reduceLT, Nat.reduceAdd, Nat.reduceBEq, Int.reduceToNat] <;> exact rfl)); all_goals (intro hcond; try simp only [decide_eq_true_eq, decide_eq_false_iff_not, beq_iff_eq, beq_eq_false_iff_ne, bne_iff_ne, bne_eq_false_iff_eq, ne_eq, reduceCtorEq] at hcond))
      | simp only [qset, Nat.reduceEqDiff, reduceIte]
      | ((apply EndQ.ret1 rfl); (· (simp only [look_cons, Nat.reduceBEq, cond_true, cond_false] <;> exact rfl)))
      | ((apply EndQ.ret2 rfl); (· (simp only [look_cons, Nat.reduceBEq, cond_true, cond_false] <;> exact rfl)); (· (simp only [look_cons, Nat.reduceBEq, cond_true, cond_false] <;> exact rfl)))
      | (refine EndQ.ret0 rfl ?_)
      | (refine EndQ.nor0 rfl ?_)
    apply VL.callR (id := 33) (hE := Enters.of Try.func33 (by decide) (by decide)) (hR := s_mk hM2 ((i : Int) + 2 - 1) 1 (by omega) (by omega) (by omega) (by omega))
    · exact rfl
    · (simp (disch := omega) only [vset, wset, ints, bools, strs, undefM, Nat.reduceLT, Nat.reduceAdd, Nat.reduceBEq, Int.reduceToNat] <;> exact rfl)
    · (simp (disch := omega) only [vset, wset, ints, bools, strs, undefM, Nat.reduceLT, Nat.reduceAdd, Nat.reduceBEq, Int.reduceToNat] <;> exact rfl)
    · exact rfl
    · exact rfl
    rintro _ O2 ⟨rfl, rfl⟩
    apply VL.run tabOk
    · (simp (disch := omega) only [vset, wset, ints, bools, strs, undefM, Nat.reduceLT, Nat.reduceAdd, Nat.reduceBEq, Int.reduceToNat] <;> exact rfl)
    apply VL.callR (id := 33) (hE := Enters.of Try.func33 (by decide) (by decide)) (hR := s_mk hM2 ((i : Int) + 2) 1 (by omega) (by omega) (by omega) (by omega))
    · exact rfl
    · (simp (disch := omega) only [vset, wset, ints, bools, strs, undefM, Nat.reduceLT, Nat.reduceAdd, Nat.reduceBEq, Int.reduceToNat, vbs2v ty22 ty3] <;> exact rfl)
    · (simp (disch := omega) only [vset, wset, ints, bools, strs, undefM, Nat.reduceLT, Nat.reduceAdd, Nat.reduceBEq, Int.reduceToNat, vbs2v ty22 ty3] <;> exact rfl)
    · exact rfl
    · exact rfl
    rintro _ O2 ⟨rfl, rfl⟩
    apply VL.run tabOk
    · (simp (disch := omega) only [vset, wset, ints, bools, strs, undefM, Nat.reduceLT, Nat.reduceAdd, Nat.reduceBEq, Int.reduceToNat, vbs2v ty22 ty3] <;> exact rfl)
    apply VL.callR (id := 32) (hE := Enters.of Try.func32 (by decide) (by decide)) (hR := clause_mk hM2 (by simp [full]; omega) [-(S k next ((i : Int) + 2 - 1) 1), S k next ((i : Int) + 2) 1] .full rfl rfl)
    · exact rfl
    · (simp (disch := omega) only [vset, wset, ints, bools, strs, undefM, Nat.reduceLT, Nat.reduceAdd, Nat.reduceBEq, Int.reduceToNat] <;> exact rfl)
    · (simp (disch := omega) only [vset, wset, ints, bools, strs, undefM, Nat.reduceLT, Nat.reduceAdd, Nat.reduceBEq, Int.reduceToNat] <;> exact rfl)
    · exact rfl
    · exact rfl
    rintro _ O3 ⟨rfl, hM3⟩
    apply VL.run tabOk
    · (simp (disch := omega) only [vset, wset, ints, bools, strs, undefM, Nat.reduceLT, Nat.reduceAdd, Nat.reduceBEq, Int.reduceToNat] <;> exact rfl)
    clear hM2
    rw [full_snoc, List.append_assoc (A ++ B)] at hM3
    repeat' first
      | with_reducible refine VC.seq' ?_
      | with_reducible refine VC.block' ?_
      | with_reducible refine VC.skip ?_
      | with_reducible refine VC.label ?_
      | with_reducible refine VC.scope ?_
      | with_reducible refine VC.exit ?_
      | with_reducible refine VC.ret ?_
      | with_reducible refine VL.nil ?_
      | ((first | with_reducible apply VC.plainL | with_reducible apply VC.readsL (by kernel_rfl) (by kernel_rfl) (by kernel_rfl)); (with_reducible apply VL.run tabOk); (· (simp (disch := omega) only [vset, wset, ints, bools, strs, undefM, Nat.reduceLT, Nat.reduceAdd, Nat.reduceBEq, Int.reduceToNat] <;> exact rfl)))
      | ((with_reducible apply VC.cond); (· (simp (disch := omega) only [vset, wset, ints, bools, strs, undefM, Nat.reduceLT, Nat.reduceAdd, Nat.reduceBEq, Int.reduceToNat] <;> exact rfl)); all_goals (intro hcond; try simp only [decide_eq_true_eq, decide_eq_false_iff_not, beq_iff_eq, beq_eq_false_iff_ne, bne_iff_ne, bne_eq_false_iff_eq, ne_eq, reduceCtorEq] at hcond))
      | simp only [qset, Nat.reduceEqDiff, reduceIte]
      | ((apply EndQ.ret1 rfl); (· (simp only [look_cons, Nat.reduceBEq, cond_true, cond_false] <;> exact rfl)))
      | ((apply EndQ.ret2 rfl); (· (simp only [look_cons, Nat.reduceBEq, cond_true, cond_false] <;> exact rfl)); (· (simp only [look_cons, Nat.reduceBEq, cond_true, cond_false] <;> exact rfl)))
      | (refine EndQ.ret0 rfl ?_)
      | (refine EndQ.nor0 rfl ?_)
    refine VC.loopS' [0, 4, 5, 8, 9, 12, 14, 15, 16] (fun j : Nat => [.sl lits.length (lits.map mi) tk, .ptr b4 0, .ptr b5 0, .ptr b8 0, mi lits.length, .func (.func 33) [] [.ptr b5 0, .ptr b4 0], mi ((i : Int) + 2), mi x, mi ((j : Int) + 2)])
      (fun j O' => j ≤ k.toNat - 1 ∧ Mk O b4 b5 b8 k next (full (A ++ B ++ aRow1 k next x ((i : Int) + 2) ++ (List.range j).flatMap (aRowJ k next x ((i : Int) + 2)))) O') (fun j => k.toNat - 1 - j) 0 ?_ ⟨by omega, by rw [List.range_zero, List.flatMap_nil, List.append_nil]; exact hM3⟩ ?_
    · (simp only [vset, wset, ints, bools, strs, undefM, Nat.reduceLT, Nat.reduceAdd, Nat.reduceBEq, Int.reduceToNat] <;> exact rfl)
    clear hM3
    rintro j O' ⟨hj, hM⟩
    rw [pair_cons]
    have hll : (full (A ++ B ++ aRow1 k next x ((i : Int) + 2) ++ (List.range j).flatMap (aRowJ k next x ((i : Int) + 2)))).length ≤ 30000 := by
      simp only [full, List.length_map, List.length_append, rowJ_len, aRow1, List.length_cons, List.length_nil]
      omega
    by_cases hjk : (j : Int) + 2 ≤ k
    · have hT1 := S_bound (k := k) (next := next) (i := (i : Int) + 2 - 1) (j := (j : Int) + 2 - 1) (by omega) (by omega) (by omega) (by omega)
      have hT2 := S_bound (k := k) (next := next) (i := (i : Int) + 2 - 1) (j := (j : Int) + 2) (by omega) (by omega) (by omega) (by omega)
      repeat' first
        | with_reducible refine VC.seq' ?_
        | with_reducible refine VC.block' ?_
        | with_reducible refine VC.skip ?_
        | with_reducible refine VC.label ?_
        | with_reducible refine VC.scope ?_
        | with_reducible refine VC.exit ?_
        | with_reducible refine VC.ret ?_
        | with_reducible refine VL.nil ?_
        | ((first | with_reducible apply VC.plainL | with_reducible apply VC.readsL (by kernel_rfl) (by kernel_rfl) (by kernel_rfl)); (with_reducible apply VL.run tabOk); (· (simp (disch := omega) only [vset, wset, ints, bools, strs, undefM, Nat.reduceLT, Nat.reduceAdd, Nat.reduceBEq, Int.reduceToNat, vload_p ty3 rfl hM.h4] <;> exact rfl)))
        | ((with_reducible apply VC.cond); (· (simp (disch := omega) only [vset, wset, ints, bools, strs, undefM, Nat.reduceLT, Nat.reduceAdd, Nat.reduceBEq, Int.reduceToNat, vload_p ty3 rfl hM.h4] <;> exact rfl)); all_goals (intro hcond; try simp only [decide_eq_true_eq, decide_eq_false_iff_not, beq_iff_eq, beq_eq_false_iff_ne, bne_iff_ne, bne_eq_false_iff_eq, ne_eq, reduceCtorEq] at hcond))
        | simp only [qset, Nat.reduceEqDiff, reduceIte]
        | ((apply EndQ.ret1 rfl); (· (simp only [look_cons, Nat.reduceBEq, cond_true, cond_false] <;> exact rfl)))
        | ((apply EndQ.ret2 rfl); (· (simp only [look_cons, Nat.reduceBEq, cond_true, cond_false] <;> exact rfl)); (· (simp only [look_cons, Nat.reduceBEq, cond_true, cond_false] <;> exact rfl)))
        | (refine EndQ.ret0 rfl ?_)
        | (refine EndQ.nor0 rfl ?_)
      apply VL.callR (id := 33) (hE := Enters.of Try.func33 (by decide) (by decide)) (hR := s_mk hM ((i : Int) + 2 - 1) ((j : Int) + 2 - 1) (by omega) (by omega) (by omega) (by omega))
      · exact rfl
      · (simp (disch := omega) only [vset, wset, ints, bools, strs, undefM, Nat.reduceLT, Nat.reduceAdd, Nat.reduceBEq, Int.reduceToNat] <;> exact rfl)
      · (simp (disch := omega) only [vset, wset, ints, bools, strs, undefM, Nat.reduceLT, Nat.reduceAdd, Nat.reduceBEq, Int.reduceToNat] <;> exact rfl)
      · exact rfl
      · exact rfl
      rintro _ O2 ⟨rfl, rfl⟩
      apply VL.run tabOk
      · (simp (disch := omega) only [vset, wset, ints, bools, strs, undefM, Nat.reduceLT, Nat.reduceAdd, Nat.reduceBEq, Int.reduceToNat] <;> exact rfl)
      apply VL.callR (id := 33) (hE := Enters.of Try.func33 (by decide) (by decide)) (hR := s_mk hM ((i : Int) + 2) ((j : Int) + 2) (by omega) (by omega) (by omega) (by omega))
      · exact rfl
      · (simp (disch := omega) only [vset, wset, ints, bools, strs, undefM, Nat.reduceLT, Nat.reduceAdd, Nat.reduceBEq, Int.reduceToNat, vbs3v ty22 ty3] <;> exact rfl)
      · (simp (disch := omega) only [vset, wset, ints, bools, strs, undefM, Nat.reduceLT, Nat.reduceAdd, Nat.reduceBEq, Int.reduceToNat, vbs3v ty22 ty3] <;> exact rfl)
      · exact rfl
      · exact rfl
      rintro _ O2 ⟨rfl, rfl⟩
      apply VL.run tabOk
      · (simp (disch := omega) only [vset, wset, ints, bools, strs, undefM, Nat.reduceLT, Nat.reduceAdd, Nat.reduceBEq, Int.reduceToNat, vbs3v ty22 ty3] <;> exact rfl)
      apply VL.callR (id := 32) (hE := Enters.of Try.func32 (by decide) (by decide)) (hR := clause_mk hM (by omega) [-x, -(S k next ((i : Int) + 2 - 1) ((j : Int) + 2 - 1)), S k next ((i : Int) + 2) ((j : Int) + 2)] .full rfl rfl)
      · exact rfl
      · (simp (disch := omega) only [vset, wset, ints, bools, strs, undefM, Nat.reduceLT, Nat.reduceAdd, Nat.reduceBEq, Int.reduceToNat] <;> exact rfl)
      · (simp (disch := omega) only [vset, wset, ints, bools, strs, undefM, Nat.reduceLT, Nat.reduceAdd, Nat.reduceBEq, Int.reduceToNat] <;> exact rfl)
      · exact rfl
      · exact rfl
      rintro _ O3 ⟨rfl, hM2⟩
      apply VL.run tabOk
      · (simp (disch := omega) only [vset, wset, ints, bools, strs, undefM, Nat.reduceLT, Nat.reduceAdd, Nat.reduceBEq, Int.reduceToNat] <;> exact rfl)
      clear hM
      rw [full_snoc] at hM2
      repeat' first
        | with_reducible refine VC.seq' ?_
        | with_reducible refine VC.block' ?_
        | with_reducible refine VC.skip ?_
        | with_reducible refine VC.label ?_
        | with_reducible refine VC.scope ?_
        | with_reducible refine VC.exit ?_
        | with_reducible refine VC.ret ?_
        | with_reducible refine VL.nil ?_
        | ((first | with_reducible apply VC.plainL | with_reducible apply VC.readsL (by kernel_rfl) (by kernel_rfl) (by kernel_rfl)); (with_reducible apply VL.run tabOk); (· (simp (disch := omega) only [vset, wset, ints, bools, strs, undefM, Nat.reduceLT, Nat.reduceAdd, Nat.reduceBEq, Int.reduceToNat] <;> exact rfl)))
        | ((with_reducible apply VC.cond); (· (simp (disch := omega) only [vset, wset, ints, bools, strs, undefM, Nat.reduceLT, Nat.reduceAdd, Nat.reduceBEq, Int.reduceToNat] <;> exact rfl)); all_goals (intro hcond; try simp only [decide_eq_true_eq, decide_eq_false_iff_not, beq_iff_eq, beq_eq_false_iff_ne, bne_iff_ne, bne_eq_false_iff_eq, ne_eq, reduceCtorEq] at hcond))
        | simp only [qset, Nat.reduceEqDiff, reduceIte]
        | ((apply EndQ.ret1 rfl); (· (simp only [look_cons, Nat.reduceBEq, cond_true, cond_false] <;> exact rfl)))
        | ((apply EndQ.ret2 rfl); (· (simp only [look_cons, Nat.reduceBEq, cond_true, cond_false] <;> exact rfl)); (· (simp only [look_cons, Nat.reduceBEq, cond_true, cond_false] <;> exact rfl)))
        | (refine EndQ.ret0 rfl ?_)
        | (refine EndQ.nor0 rfl ?_)
      apply VL.callR (id := 33) (hE := Enters.of Try.func33 (by decide) (by decide)) (hR := s_mk hM2 ((i : Int) + 2 - 1) ((j : Int) + 2) (by omega) (by omega) (by omega) (by omega))
      · exact rfl
      · (simp (disch := omega) only [vset, wset, ints, bools, strs, undefM, Nat.reduceLT, Nat.reduceAdd, Nat.reduceBEq, Int.reduceToNat] <;> exact rfl)
      · (simp (disch := omega) only [vset, wset, ints, bools, strs, undefM, Nat.reduceLT, Nat.reduceAdd, Nat.reduceBEq, Int.reduceToNat] <;> exact rfl)
      · exact rfl
      · exact rfl
      rintro _ O2 ⟨rfl, rfl⟩
      apply VL.run tabOk
      · (simp (disch := omega) only [vset, wset, ints, bools, strs, undefM, Nat.reduceLT, Nat.reduceAdd, Nat.reduceBEq, Int.reduceToNat] <;> exact rfl)
      apply VL.callR (id := 33) (hE := Enters.of Try.func33 (by decide) (by decide)) (hR := s_mk hM2 ((i : Int) + 2) ((j : Int) + 2) (by omega) (by omega) (by omega) (by omega))
      · exact rfl
      · (simp (disch := omega) only [vset, wset, ints, bools, strs, undefM, Nat.reduceLT, Nat.reduceAdd, Nat.reduceBEq, Int.reduceToNat, vbs2v ty22 ty3] <;> exact rfl)
      · (simp (disch := omega) only [vset, wset, ints, bools, strs, undefM, Nat.reduceLT, Nat.reduceAdd, Nat.reduceBEq, Int.reduceToNat, vbs2v ty22 ty3] <;> exact rfl)
      · exact rfl
      · exact rfl
      rintro _ O2 ⟨rfl, rfl⟩
      apply VL.run tabOk
      · (simp (disch := omega) only [vset, wset, ints, bools, strs, undefM, Nat.reduceLT, Nat.reduceAdd, Nat.reduceBEq, Int.reduceToNat, vbs2v ty22 ty3] <;> exact rfl)
      apply VL.callR (id := 32) (hE := Enters.of Try.func32 (by decide) (by decide)) (hR := clause_mk hM2 (by simp only [full, List.length_map, List.length_append, List.length_cons, List.length_nil] at hll ⊢; omega) [-(S k next ((i : Int) + 2 - 1) ((j : Int) + 2)), S k next ((i : Int) + 2) ((j : Int) + 2)] .full rfl rfl)
      · exact rfl
      · (simp (disch := omega) only [vset, wset, ints, bools, strs, undefM, Nat.reduceLT, Nat.reduceAdd, Nat.reduceBEq, Int.reduceToNat] <;> exact rfl)
      · (simp (disch := omega) only [vset, wset, ints, bools, strs, undefM, Nat.reduceLT, Nat.reduceAdd, Nat.reduceBEq, Int.reduceToNat] <;> exact rfl)
      · exact rfl
      · exact rfl
      rintro _ O3 ⟨rfl, hM3⟩
      apply VL.run tabOk
      · (simp (disch := omega) only [vset, wset, ints, bools, strs, undefM, Nat.reduceLT, Nat.reduceAdd, Nat.reduceBEq, Int.reduceToNat] <;> exact rfl)
      clear hM2
      rw [full_snoc, List.append_assoc _ [_] [_], List.append_assoc _ _ ([_] ++ [_])] at hM3
      repeat' first
        | with_reducible refine VC.seq' ?_
        | with_reducible refine VC.block' ?_
        | with_reducible refine VC.skip ?_
        | with_reducible refine VC.label ?_
        | with_reducible refine VC.scope ?_
        | with_reducible refine VC.exit ?_
        | with_reducible refine VC.ret ?_
        | with_reducible refine VL.nil ?_
        | ((first | with_reducible apply VC.plainL | with_reducible apply VC.readsL (by kernel_rfl) (by kernel_rfl) (by kernel_rfl)); (with_reducible apply VL.run tabOk); (· (simp (disch := omega) only [vset, wset, ints, bools, strs, undefM, Nat.reduceLT, Nat.reduceAdd, Nat.reduceBEq, Int.reduceToNat] <;> exact rfl)))
        | ((with_reducible apply VC.cond); (· (simp (disch := omega) only [vset, wset, ints, bools, strs, undefM, Nat.reduceLT, Nat.reduceAdd, Nat.reduceBEq, Int.reduceToNat] <;> exact rfl)); all_goals (intro hcond; try simp only [decide_eq_true_eq, decide_eq_false_iff_not, beq_iff_eq, beq_eq_false_iff_ne, bne_iff_ne, bne_eq_false_iff_eq, ne_eq, reduceCtorEq] at hcond))
        | simp only [qset, Nat.reduceEqDiff, reduceIte]
        | ((apply EndQ.ret1 rfl); (· (simp only [look_cons, Nat.reduceBEq, cond_true, cond_false] <;> exact rfl)))
        | ((apply EndQ.ret2 rfl); (· (simp only [look_cons, Nat.reduceBEq, cond_true, cond_false] <;> exact rfl)); (· (simp only [look_cons, Nat.reduceBEq, cond_true, cond_false] <;> exact rfl)))
        | (refine EndQ.ret0 rfl ?_)
        | (refine EndQ.nor0 rfl ?_)
      refine ⟨j + 1, ?_, ⟨by omega, ?_⟩, by dsimp only; omega⟩
      · simp (disch := omega) only [vset, wset, ints, bools, strs, undefM, Nat.reduceLT, Nat.reduceAdd, Nat.reduceBEq, Int.reduceToNat, Int.natCast_add, Int.cast_ofNat_Int]
        exact congrArg some (by congr 3)
      · rw [List.range_succ, List.flatMap_append]; exact hM3
    · obtain rfl : j = k.toNat - 1 := by omega
      repeat' first
        | with_reducible refine VC.seq' ?_
        | with_reducible refine VC.block' ?_
        | with_reducible refine VC.skip ?_
        | with_reducible refine VC.label ?_
        | with_reducible refine VC.scope ?_
        | with_reducible refine VC.exit ?_
        | with_reducible refine VC.ret ?_
        | with_reducible refine VL.nil ?_
        | ((first | with_reducible apply VC.plainL | with_reducible apply VC.readsL (by kernel_rfl) (by kernel_rfl) (by kernel_rfl)); (with_reducible apply VL.run tabOk); (· (simp (disch := omega) only [vset, wset, ints, bools, strs, undefM, Nat.reduceLT, Nat.reduceAdd, Nat.reduceBEq, Int.reduceToNat, vload_p ty3 rfl hM.h4] <;> exact rfl)))
        | ((with_reducible apply VC.cond); (· (simp (disch := omega) only [vset, wset, ints, bools, strs, undefM, Nat.reduceLT, Nat.reduceAdd, Nat.reduceBEq, Int.reduceToNat, vload_p ty3 rfl hM.h4] <;> exact rfl)); all_goals (intro hcond; try simp only [decide_eq_true_eq, decide_eq_false_iff_not, beq_iff_eq, beq_eq_false_iff_ne, bne_iff_ne, bne_eq_false_iff_eq, ne_eq, reduceCtorEq] at hcond))
        | simp only [qset, Nat.reduceEqDiff, reduceIte]
        | ((apply EndQ.ret1 rfl); (· (simp only [look_cons, Nat.reduceBEq, cond_true, cond_false] <;> exact rfl)))
        | ((apply EndQ.ret2 rfl); (· (simp only [look_cons, Nat.reduceBEq, cond_true, cond_false] <;> exact rfl)); (· (simp only [look_cons, Nat.reduceBEq, cond_true, cond_false] <;> exact rfl)))
        | (refine EndQ.ret0 rfl ?_)
        | (refine EndQ.nor0 rfl ?_)
      apply VL.callR (id := 33) (hE := Enters.of Try.func33 (by decide) (by decide)) (hR := s_mk hM ((i : Int) + 2 - 1) k (by omega) (by omega) (by omega) (by omega))
      · exact rfl
      · (simp (disch := omega) only [vset, wset, ints, bools, strs, undefM, Nat.reduceLT, Nat.reduceAdd, Nat.reduceBEq, Int.reduceToNat, vbs2v ty22 ty3] <;> exact rfl)
      · (simp (disch := omega) only [vset, wset, ints, bools, strs, undefM, Nat.reduceLT, Nat.reduceAdd, Nat.reduceBEq, Int.reduceToNat, vbs2v ty22 ty3] <;> exact rfl)
      · exact rfl
      · exact rfl
      rintro _ O2 ⟨rfl, rfl⟩
      apply VL.run tabOk
      · (simp (disch := omega) only [vset, wset, ints, bools, strs, undefM, Nat.reduceLT, Nat.reduceAdd, Nat.reduceBEq, Int.reduceToNat, vbs2v ty22 ty3] <;> exact rfl)
      apply VL.callR (id := 32) (hE := Enters.of Try.func32 (by decide) (by decide)) (hR := clause_mk hM (by omega) [-x, -(S k next ((i : Int) + 2 - 1) k)] .full rfl rfl)
      · exact rfl
      · (simp (disch := omega) only [vset, wset, ints, bools, strs, undefM, Nat.reduceLT, Nat.reduceAdd, Nat.reduceBEq, Int.reduceToNat] <;> exact rfl)
      · (simp (disch := omega) only [vset, wset, ints, bools, strs, undefM, Nat.reduceLT, Nat.reduceAdd, Nat.reduceBEq, Int.reduceToNat] <;> exact rfl)
      · exact rfl
      · exact rfl
      rintro _ O3 ⟨rfl, hM2⟩
      apply VL.run tabOk
      · (simp (disch := omega) only [vset, wset, ints, bools, strs, undefM, Nat.reduceLT, Nat.reduceAdd, Nat.reduceBEq, Int.reduceToNat] <;> exact rfl)
      clear hM
      rw [full_snoc] at hM2
      repeat' first
        | with_reducible refine VC.seq' ?_
        | with_reducible refine VC.block' ?_
        | with_reducible refine VC.skip ?_
        | with_reducible refine VC.label ?_
        | with_reducible refine VC.scope ?_
        | with_reducible refine VC.exit ?_
        | with_reducible refine VC.ret ?_
        | with_reducible refine VL.nil ?_
        | ((first | with_reducible apply VC.plainL | with_reducible apply VC.readsL (by kernel_rfl) (by kernel_rfl) (by kernel_rfl)); (with_reducible apply VL.run tabOk); (· (simp (disch := omega) only [vset, wset, ints, bools, strs, undefM, Nat.reduceLT, Nat.reduceAdd, Nat.reduceBEq, Int.reduceToNat] <;> exact rfl)))
        | ((with_reducible apply VC.cond); (· (simp (disch := omega) only [vset, wset, ints, bools, strs, undefM, Nat.reduceLT, Nat.reduceAdd, Nat.reduceBEq, Int.reduceToNat] <;> exact rfl)); all_goals (intro hcond; try simp only [decide_eq_true_eq, decide_eq_false_iff_not, beq_iff_eq, beq_eq_false_iff_ne, bne_iff_ne, bne_eq_false_iff_eq, ne_eq, reduceCtorEq] at hcond))
        | simp only [qset, Nat.reduceEqDiff, reduceIte]
        | ((apply EndQ.ret1 rfl); (· (simp only [look_cons, Nat.reduceBEq, cond_true, cond_false] <;> exact rfl)))
        | ((apply EndQ.ret2 rfl); (· (simp only [look_cons, Nat.reduceBEq, cond_true, cond_false] <;> exact rfl)); (· (simp only [look_cons, Nat.reduceBEq, cond_true, cond_false] <;> exact rfl)))
        | (refine EndQ.ret0 rfl ?_)
        | (refine EndQ.nor0 rfl ?_)
      refine ⟨i + 1, ?_, ⟨by omega, ?_⟩, by dsimp only; omega⟩
      · simp (disch := omega) only [vset, wset, ints, bools, strs, undefM, Nat.reduceLT, Nat.reduceAdd, Nat.reduceBEq, Int.reduceToNat, Int.natCast_add, Int.cast_ofNat_Int]
        exact congrArg some (by congr 3)
      · rw [hB, aRow]
        simp only [List.append_assoc] at hM2 ⊢
        exact hM2
  · have hie : i = lits.length - 2 := by omega
    have hxe : lits[((lits.length : Int) - 1).toNat]? = some (lits.getD (lits.length - 1) 0) := by
      rw [show ((lits.length : Int) - 1).toNat = lits.length - 1 by omega, List.getD_eq_getElem?_getD, List.getElem?_eq_getElem (by omega)]; rfl
    have hxb : -1000000 ≤ lits.getD (lits.length - 1) 0 ∧ lits.getD (lits.length - 1) 0 ≤ 1000000 := by
      rw [List.getD_eq_getElem?_getD, List.getElem?_eq_getElem (by omega)]; exact hx _ (List.getElem_mem _)
    have hS3 := S_bound (k := k) (next := next) (i := (lits.length : Int) - 1) (j := k) (by omega) (by omega) (by omega) (by omega)
    repeat' first
      | with_reducible refine VC.seq' ?_
      | with_reducible refine VC.block' ?_
      | with_reducible refine VC.skip ?_
      | with_reducible refine VC.label ?_
      | with_reducible refine VC.scope ?_
      | with_reducible refine VC.exit ?_
      | with_reducible refine VC.ret ?_
      | with_reducible refine VL.nil ?_
      | ((first | with_reducible apply VC.plainL | with_reducible apply VC.readsL (by kernel_rfl) (by kernel_rfl) (by kernel_rfl)); (with_reducible apply VL.run tabOk); (· (simp (disch := omega) only [vset, wset, ints, bools, strs, undefM, Nat.reduceLT, Nat.reduceAdd, Nat.reduceBEq, Int.reduceToNat] <;> exact rfl)))
      | ((with_reducible apply VC.cond); (· (simp (disch := omega) only [vset, wset, ints, bools, strs, undefM, Nat.reduceLT, Nat.reduceAdd, Nat.reduceBEq, Int.reduceToNat] <;> exact rfl)); all_goals (intro hcond; try simp only [decide_eq_true_eq, decide_eq_false_iff_not, beq_iff_eq, beq_eq_false_iff_ne, bne_iff_ne, bne_eq_false_iff_eq, ne_eq, reduceCtorEq] at hcond))
      | simp only [qset, Nat.reduceEqDiff, reduceIte]
      | ((apply EndQ.ret1 rfl); (· (simp only [look_cons, Nat.reduceBEq, cond_true, cond_false] <;> exact rfl)))
      | ((apply EndQ.ret2 rfl); (· (simp only [look_cons, Nat.reduceBEq, cond_true, cond_false] <;> exact rfl)); (· (simp only [look_cons, Nat.reduceBEq, cond_true, cond_false] <;> exact rfl)))
      | (refine EndQ.ret0 rfl ?_)
      | (refine EndQ.nor0 rfl ?_)
    apply VC.drawnL .any [(0, .sil), (1, .sil), (2, .sil), (3, .sil), (4, .sil), (5, .sil), (6, .sil), (7, .sil), (8, .sil), (9, .sil), (10, .one), (11, .one), (12, .sil), (13, .one), (14, .one)] (by simp) (by kernel_rfl) (by kernel_rfl) (by kernel_rfl)
    · exact rfl
    apply VL.run tabOk
    · (simp (disch := omega) only [vset, wset, ints, bools, strs, undefM, Nat.reduceLT, Nat.reduceAdd, Nat.reduceBEq, Int.reduceToNat, vix_sl ty22 ty3, vload_c ty3 rfl, vload_p ty3 rfl hM.h4, hxe] <;> exact rfl)
    apply VL.callR (id := 33) (hE := Enters.of Try.func33 (by decide) (by decide)) (hR := s_mk hM ((lits.length : Int) - 1) k (by omega) (by omega) (by omega) (by omega))
    · exact rfl
    · (simp (disch := omega) only [vset, wset, ints, bools, strs, undefM, Nat.reduceLT, Nat.reduceAdd, Nat.reduceBEq, Int.reduceToNat, vbs2v ty22 ty3] <;> exact rfl)
    · (simp (disch := omega) only [vset, wset, ints, bools, strs, undefM, Nat.reduceLT, Nat.reduceAdd, Nat.reduceBEq, Int.reduceToNat, vbs2v ty22 ty3] <;> exact rfl)
    · exact rfl
    · exact rfl
    rintro _ O2 ⟨rfl, rfl⟩
    apply VL.run tabOk
    · (simp (disch := omega) only [vset, wset, ints, bools, strs, undefM, Nat.reduceLT, Nat.reduceAdd, Nat.reduceBEq, Int.reduceToNat, vbs2v ty22 ty3] <;> exact rfl)
    apply VL.callR (id := 32) (hE := Enters.of Try.func32 (by decide) (by decide)) (hR := clause_mk hM (by simp only [full, List.length_map, List.length_append]; omega) [-lits.getD (lits.length - 1) 0, -(S k next ((lits.length : Int) - 1) k)] .full rfl rfl)
    · exact rfl
    · (simp (disch := omega) only [vset, wset, ints, bools, strs, undefM, Nat.reduceLT, Nat.reduceAdd, Nat.reduceBEq, Int.reduceToNat] <;> exact rfl)
    · (simp (disch := omega) only [vset, wset, ints, bools, strs, undefM, Nat.reduceLT, Nat.reduceAdd, Nat.reduceBEq, Int.reduceToNat] <;> exact rfl)
    · exact rfl
    · exact rfl
    rintro _ O3 ⟨rfl, hM2⟩
    apply VL.run tabOk
    · (simp (disch := omega) only [vset, wset, ints, bools, strs, undefM, Nat.reduceLT, Nat.reduceAdd, Nat.reduceBEq, Int.reduceToNat] <;> exact rfl)
    rw [full_snoc] at hM2
    obtain ⟨s, h8, -⟩ := hM2.h8
    have h1 : 0 ≤ ((lits.length : Int) - 1) * k := Int.mul_nonneg (by omega) (by omega)
    have h2 : ((lits.length : Int) - 1) * k ≤ 1000 * 1000 := Int.mul_le_mul (by omega) (by omega) (by omega) (by omega)
    repeat' first
      | with_reducible refine VC.seq' ?_
      | with_reducible refine VC.block' ?_
      | with_reducible refine VC.skip ?_
      | with_reducible refine VC.label ?_
      | with_reducible refine VC.scope ?_
      | with_reducible refine VC.exit ?_
      | with_reducible refine VC.ret ?_
      | with_reducible refine VL.nil ?_
      | ((first | with_reducible apply VC.plainL | with_reducible apply VC.readsL (by kernel_rfl) (by kernel_rfl) (by kernel_rfl)); (with_reducible apply VL.run tabOk); (· (simp (disch := omega) only [vset, wset, ints, bools, strs, undefM, Nat.reduceLT, Nat.reduceAdd, Nat.reduceBEq, Int.reduceToNat, vload_p ty3 rfl hM2.h4, vload_p ty3 rfl hM2.h5, vload_p ty24 rfl h8, fa54] <;> exact rfl)))
      | ((with_reducible apply VC.cond); (· (simp (disch := omega) only [vset, wset, ints, bools, strs, undefM, Nat.reduceLT, Nat.reduceAdd, Nat.reduceBEq, Int.reduceToNat, vload_p ty3 rfl hM2.h4, vload_p ty3 rfl hM2.h5, vload_p ty24 rfl h8, fa54] <;> exact rfl)); all_goals (intro hcond; try simp only [decide_eq_true_eq, decide_eq_false_iff_not, beq_iff_eq, beq_eq_false_iff_ne, bne_iff_ne, bne_eq_false_iff_eq, ne_eq, reduceCtorEq] at hcond))
      | simp only [qset, Nat.reduceEqDiff, reduceIte]
      | ((apply EndQ.ret1 rfl); (· (simp only [look_cons, Nat.reduceBEq, cond_true, cond_false] <;> exact rfl)))
      | ((apply EndQ.ret2 rfl); (· (simp only [look_cons, Nat.reduceBEq, cond_true, cond_false] <;> exact rfl)); (· (simp only [look_cons, Nat.reduceBEq, cond_true, cond_false] <;> exact rfl)))
      | (refine EndQ.ret0 rfl ?_)
      | (refine EndQ.nor0 rfl ?_)
    refine ⟨hM2.ge, _, s, ?_, by rw [e]; rfl⟩
    rw [e]
    subst hie
    simp only [full, List.map_map, aMain, hA]
    exact List.map_id _
end Go.Proofs.Ytcfoongiffpnlaa
