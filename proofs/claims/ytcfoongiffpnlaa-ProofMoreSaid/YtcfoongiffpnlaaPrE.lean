/-
  The package proof: taken.look, base.add, newBase, walked.
-/
import Derived.Test.YtcfoongiffpnlaaPrD
set_option linter.unusedVariables false
set_option linter.unusedSimpArgs false
namespace Go.Proofs.Ytcfoongiffpnlaa
open Go.RowKit

abbrev St := List Int × List Int × Bool
def takeS (st : St) (n : Int) : St := (if n ∈ st.1 then st.1 else st.1 ++ [n], if n ∈ st.1 then st.2.1 else st.2.1 ++ [n], st.2.2 || decide (-n ∈ st.1))
def lq (ord C : List Int) : List Int := C.filter fun n => decide (-n ∉ ord)
def lookS (st : St) (C : List Int) : St := match lq st.1 C with
  | [] => (st.1, st.2.1, true)
  | [x] => takeS st x
  | _ => st
abbrev TkS (O0 : VH) (bt bm bb : Nat) (st : St) (O : VH) : Prop := Tk O0 bt bm bb st.1 st.2.1 st.2.2 O
theorem lq_snoc (ord C : List Int) (n : Int) : lq ord (C ++ [n]) = if -n ∈ ord then lq ord C else lq ord C ++ [n] := by
  rw [lq, List.filter_append]
  by_cases h : -n ∈ ord
  · rw [if_pos h, List.filter_cons_of_neg (by simpa using h)]; simp [lq]
  · rw [if_neg h, List.filter_cons_of_pos (by simpa using h)]; rfl

/-- (*proof.taken).look -/
theorem look_v {O0 O : VH} {bt bm bb : Nat} {st : St} (hT : TkS O0 bt bm bb st O) (C : List Int) (tk : Tok) (hC : C.length ≤ 10000) (hR : ∀ n ∈ C, InR n) (hl : st.2.1.length ≤ 10000000) :
    VF Try.prog 41 [.ptr bt 0, ints C tk] O (Ret fun m O' => m = .tuple [] ∧ TkS O0 bt bm bb (lookS st C) O') := by
  obtain ⟨s, h1, happ, hnn⟩ := hT.ht
  have hm := hT.hm
  have hlk : ∀ k, vlookup (tyOf Try.prog) O 66 (.map bm) (.v (.int .i64 k)) false = some (mb (decide (k ∈ st.1))) := fun k => by
    rw [vlookup_I ty66 ty3 ty4 (z := mb false) rfl hm, mfind_yes]
    by_cases h : k ∈ st.1
    · rw [if_pos h, decide_eq_true h]; rfl
    · rw [if_neg h, decide_eq_false h]; rfl
  refine VF.enter' tabOk Try.func41 (c := _) rfl (Nat.le_of_ble_eq_true rfl) ?_
  rw [show Try.f41.ntmps = 37 from rfl]
  simp only [argEnv, Nat.zero_add, Nat.reduceAdd]
  repeat' first
    | with_reducible refine VC.seq' ?_
    | with_reducible refine VC.block' ?_
    | with_reducible refine VC.skip ?_
    | with_reducible refine VC.label ?_
    | with_reducible refine VC.scope ?_
    | with_reducible refine VC.exit ?_
    | with_reducible refine VC.ret ?_
    | with_reducible refine VL.nil ?_
    | ((first | with_reducible apply VC.plainL | with_reducible apply VC.readsL (by kernel_rfl) (by kernel_rfl) (by kernel_rfl)); (with_reducible apply VL.run tabOk); (· (simp (disch := omega) only [vset, wset, ints, bools, strs, undefM, Nat.reduceLT, Nat.reduceAdd, Nat.reduceBEq, Int.reduceToNat, vlen_sl ty22] <;> exact rfl)))
    | ((with_reducible apply VC.cond); (· (simp (disch := omega) only [vset, wset, ints, bools, strs, undefM, Nat.reduceLT, Nat.reduceAdd, Nat.reduceBEq, Int.reduceToNat, vlen_sl ty22] <;> exact rfl)); all_goals (intro hcond; try simp only [decide_eq_true_eq, decide_eq_false_iff_not, beq_iff_eq, beq_eq_false_iff_ne, bne_iff_ne, bne_eq_false_iff_eq, ne_eq, reduceCtorEq] at hcond))
    | simp only [qset, Nat.reduceEqDiff, reduceIte]
    | ((apply EndQ.ret1 rfl); (· (simp only [look_cons, Nat.reduceBEq, cond_true, cond_false] <;> exact rfl)))
    | ((apply EndQ.ret2 rfl); (· (simp only [look_cons, Nat.reduceBEq, cond_true, cond_false] <;> exact rfl)); (· (simp only [look_cons, Nat.reduceBEq, cond_true, cond_false] <;> exact rfl)))
    | (refine EndQ.ret0 rfl ?_)
    | (refine EndQ.nor0 rfl ?_)
  apply VC.loopK [4, 5, 10] [0, 8, 9] (ms := fun i : Nat => [mi (lq st.1 (C.take i)).length, mi ((lq st.1 (C.take i)).getLastD 0), mi i]) (I := fun i O' => i ≤ C.length ∧ O' = O ∧ (lq st.1 (C.take i)).length ≤ i) (μ := fun i => C.length - i) (s0 := 0)
  · (simp (disch := omega) only [vset, wset, ints, bools, strs, undefM, Nat.reduceLT, Nat.reduceAdd, Nat.reduceBEq, Int.reduceToNat, Int.natCast_zero, List.take_zero, List.map_nil, List.any_nil, Bool.or_false, show lq st.1 [] = [] from rfl, List.length_nil, List.getLastD_nil] <;> exact rfl)
  · (simp only [vset, wset, ints, bools, strs, undefM, Nat.reduceLT, Nat.reduceAdd, Nat.reduceBEq, Int.reduceToNat] <;> exact rfl)
  · exact ⟨by omega, rfl, Nat.le_refl _⟩
  rintro i O' ⟨hi, rfl, hll⟩
  by_cases h2 : i < C.length
  · have hb := hR _ (List.getElem_mem h2)
    simp only [InR] at hb
    have hs := lq_snoc st.1 (C.take i) C[i]
    rw [← take_snoc _ _ h2] at hs
    have hl1 := hlk (-C[i])
    by_cases hin : -C[i] ∈ st.1
    · rw [decide_eq_true hin] at hl1
      rw [if_pos hin] at hs
      repeat' first
        | with_reducible refine VC.seq' ?_
        | with_reducible refine VC.block' ?_
        | with_reducible refine VC.skip ?_
        | with_reducible refine VC.label ?_
        | with_reducible refine VC.scope ?_
        | with_reducible refine VC.exit ?_
        | with_reducible refine VC.ret ?_
        | with_reducible refine VL.nil ?_
        | ((first | with_reducible apply VC.plainL | with_reducible apply VC.readsL (by kernel_rfl) (by kernel_rfl) (by kernel_rfl)); (with_reducible apply VL.run tabOk); (· (simp (disch := omega) only [vset, wset, ints, bools, strs, undefM, Nat.reduceLT, Nat.reduceAdd, Nat.reduceBEq, Int.reduceToNat, vix_sl ty22 ty3, vload_c ty3 rfl, vnil_p, fa68_1, vload_p ty66 rfl h1, hl1] <;> exact rfl)))
        | ((with_reducible apply VC.cond); (· (simp (disch := omega) only [vset, wset, ints, bools, strs, undefM, Nat.reduceLT, Nat.reduceAdd, Nat.reduceBEq, Int.reduceToNat, vix_sl ty22 ty3, vload_c ty3 rfl, vnil_p, fa68_1, vload_p ty66 rfl h1, hl1] <;> exact rfl)); all_goals (intro hcond; try simp only [decide_eq_true_eq, decide_eq_false_iff_not, beq_iff_eq, beq_eq_false_iff_ne, bne_iff_ne, bne_eq_false_iff_eq, ne_eq, reduceCtorEq] at hcond))
        | simp only [qset, Nat.reduceEqDiff, reduceIte]
        | ((apply EndQ.ret1 rfl); (· (simp only [look_cons, Nat.reduceBEq, cond_true, cond_false] <;> exact rfl)))
        | ((apply EndQ.ret2 rfl); (· (simp only [look_cons, Nat.reduceBEq, cond_true, cond_false] <;> exact rfl)); (· (simp only [look_cons, Nat.reduceBEq, cond_true, cond_false] <;> exact rfl)))
        | (refine EndQ.ret0 rfl ?_)
        | (refine EndQ.nor0 rfl ?_)
      refine ⟨?_, i + 1, ?_, ?_, by dsimp only; omega⟩
      · (simp only [vset, wset, ints, bools, strs, undefM, Nat.reduceLT, Nat.reduceAdd, Nat.reduceBEq, Int.reduceToNat] <;> exact rfl)
      · (simp (disch := omega) only [vset, wset, ints, bools, strs, undefM, Nat.reduceLT, Nat.reduceAdd, Nat.reduceBEq, Int.reduceToNat, Int.natCast_add, Int.cast_ofNat_Int, hs] <;> first | done | exact rfl)
      exact ⟨by omega, rfl, by rw [hs]; omega⟩
    · rw [decide_eq_false hin] at hl1
      rw [if_neg hin] at hs
      repeat' first
        | with_reducible refine VC.seq' ?_
        | with_reducible refine VC.block' ?_
        | with_reducible refine VC.skip ?_
        | with_reducible refine VC.label ?_
        | with_reducible refine VC.scope ?_
        | with_reducible refine VC.exit ?_
        | with_reducible refine VC.ret ?_
        | with_reducible refine VL.nil ?_
        | ((first | with_reducible apply VC.plainL | with_reducible apply VC.readsL (by kernel_rfl) (by kernel_rfl) (by kernel_rfl)); (with_reducible apply VL.run tabOk); (· (simp (disch := omega) only [vset, wset, ints, bools, strs, undefM, Nat.reduceLT, Nat.reduceAdd, Nat.reduceBEq, Int.reduceToNat, vix_sl ty22 ty3, vload_c ty3 rfl, vnil_p, fa68_1, vload_p ty66 rfl h1, hl1] <;> exact rfl)))
        | ((with_reducible apply VC.cond); (· (simp (disch := omega) only [vset, wset, ints, bools, strs, undefM, Nat.reduceLT, Nat.reduceAdd, Nat.reduceBEq, Int.reduceToNat, vix_sl ty22 ty3, vload_c ty3 rfl, vnil_p, fa68_1, vload_p ty66 rfl h1, hl1] <;> exact rfl)); all_goals (intro hcond; try simp only [decide_eq_true_eq, decide_eq_false_iff_not, beq_iff_eq, beq_eq_false_iff_ne, bne_iff_ne, bne_eq_false_iff_eq, ne_eq, reduceCtorEq] at hcond))
        | simp only [qset, Nat.reduceEqDiff, reduceIte]
        | ((apply EndQ.ret1 rfl); (· (simp only [look_cons, Nat.reduceBEq, cond_true, cond_false] <;> exact rfl)))
        | ((apply EndQ.ret2 rfl); (· (simp only [look_cons, Nat.reduceBEq, cond_true, cond_false] <;> exact rfl)); (· (simp only [look_cons, Nat.reduceBEq, cond_true, cond_false] <;> exact rfl)))
        | (refine EndQ.ret0 rfl ?_)
        | (refine EndQ.nor0 rfl ?_)
      refine ⟨?_, i + 1, ?_, ?_, by dsimp only; omega⟩
      · (simp only [vset, wset, ints, bools, strs, undefM, Nat.reduceLT, Nat.reduceAdd, Nat.reduceBEq, Int.reduceToNat] <;> exact rfl)
      · (simp (disch := omega) only [vset, wset, ints, bools, strs, undefM, Nat.reduceLT, Nat.reduceAdd, Nat.reduceBEq, Int.reduceToNat, Int.natCast_add, Int.cast_ofNat_Int, hs, List.length_append, List.length_cons, List.length_nil, List.getLastD_concat] <;> first | done | exact rfl)
      exact ⟨by omega, rfl, by rw [hs, List.length_append, List.length_singleton]; omega⟩
  · rw [List.take_of_length_le (by omega)] at hll ⊢
    unfold lookS
    match hL : lq st.1 C with
    | [] =>
      have hT2 : TkS O0 bt bm bb (st.1, st.2.1, true) (O'.set bt (.cells [.ptr bb 0, .map bm, .sl st.2.1.length (st.2.1.map mi) s, .v (.bool true)])) := by
        refine ⟨hT.ge.set hT.lt.1 _, hT.lt, hT.lm, hT.ne, ⟨s, upd_same _ _ _, ?_, hnn⟩, ?_⟩
        · cases s with
          | own t k => exact ⟨happ.1, (VH.set_ne _ _ (fun e => by subst e; rw [happ.2.1] at h1; cases h1)).trans happ.2.1, happ.2.2⟩
          | _ => exact happ
        · rw [VH.set_ne _ _ (Ne.symm hT.ne)]; exact hm
      repeat' first
        | with_reducible refine VC.seq' ?_
        | with_reducible refine VC.block' ?_
        | with_reducible refine VC.skip ?_
        | with_reducible refine VC.label ?_
        | with_reducible refine VC.scope ?_
        | with_reducible refine VC.exit ?_
        | with_reducible refine VC.ret ?_
        | with_reducible refine VL.nil ?_
        | ((first | with_reducible apply VC.plainL | with_reducible apply VC.readsL (by kernel_rfl) (by kernel_rfl) (by kernel_rfl)); (with_reducible apply VL.run tabOk); (· (simp (disch := omega) only [vset, wset, ints, bools, strs, undefM, Nat.reduceLT, Nat.reduceAdd, Nat.reduceBEq, Int.reduceToNat, List.length_nil, vnil_p, fa68_3, vstore_pv (off := 3) ty4 h1 (by simp)] <;> exact rfl)))
        | ((with_reducible apply VC.cond); (· (simp (disch := omega) only [vset, wset, ints, bools, strs, undefM, Nat.reduceLT, Nat.reduceAdd, Nat.reduceBEq, Int.reduceToNat, List.length_nil, vnil_p, fa68_3, vstore_pv (off := 3) ty4 h1 (by simp)] <;> exact rfl)); all_goals (intro hcond; try simp only [decide_eq_true_eq, decide_eq_false_iff_not, beq_iff_eq, beq_eq_false_iff_ne, bne_iff_ne, bne_eq_false_iff_eq, ne_eq, reduceCtorEq] at hcond))
        | simp only [qset, Nat.reduceEqDiff, reduceIte]
        | ((apply EndQ.ret1 rfl); (· (simp only [look_cons, Nat.reduceBEq, cond_true, cond_false] <;> exact rfl)))
        | ((apply EndQ.ret2 rfl); (· (simp only [look_cons, Nat.reduceBEq, cond_true, cond_false] <;> exact rfl)); (· (simp only [look_cons, Nat.reduceBEq, cond_true, cond_false] <;> exact rfl)))
        | (refine EndQ.ret0 rfl ?_)
        | (refine EndQ.nor0 rfl ?_)
      exact ⟨by trivial, hT2⟩
    | [x] =>
      have hx : x ∈ C := (List.mem_filter.1 (show x ∈ lq st.1 C by rw [hL]; simp)).1
      repeat' first
        | with_reducible refine VC.seq' ?_
        | with_reducible refine VC.block' ?_
        | with_reducible refine VC.skip ?_
        | with_reducible refine VC.label ?_
        | with_reducible refine VC.scope ?_
        | with_reducible refine VC.exit ?_
        | with_reducible refine VC.ret ?_
        | with_reducible refine VL.nil ?_
        | ((first | with_reducible apply VC.plainL | with_reducible apply VC.readsL (by kernel_rfl) (by kernel_rfl) (by kernel_rfl)); (with_reducible apply VL.run tabOk); (· (simp (disch := omega) only [vset, wset, ints, bools, strs, undefM, Nat.reduceLT, Nat.reduceAdd, Nat.reduceBEq, Int.reduceToNat, List.length_cons, List.length_nil, List.getLastD_cons, List.getLastD_nil, beqI_f, beqI_t] <;> exact rfl)))
        | ((with_reducible apply VC.cond); (· (simp (disch := omega) only [vset, wset, ints, bools, strs, undefM, Nat.reduceLT, Nat.reduceAdd, Nat.reduceBEq, Int.reduceToNat, List.length_cons, List.length_nil, List.getLastD_cons, List.getLastD_nil, beqI_f, beqI_t] <;> exact rfl)); all_goals (intro hcond; try simp only [decide_eq_true_eq, decide_eq_false_iff_not, beq_iff_eq, beq_eq_false_iff_ne, bne_iff_ne, bne_eq_false_iff_eq, ne_eq, reduceCtorEq] at hcond))
        | simp only [qset, Nat.reduceEqDiff, reduceIte]
        | ((apply EndQ.ret1 rfl); (· (simp only [look_cons, Nat.reduceBEq, cond_true, cond_false] <;> exact rfl)))
        | ((apply EndQ.ret2 rfl); (· (simp only [look_cons, Nat.reduceBEq, cond_true, cond_false] <;> exact rfl)); (· (simp only [look_cons, Nat.reduceBEq, cond_true, cond_false] <;> exact rfl)))
        | (refine EndQ.ret0 rfl ?_)
        | (refine EndQ.nor0 rfl ?_)
      apply VL.callR (id := 40) (hE := Enters.of Try.func40 (by decide) (by decide)) (hR := take_v hT x (hR x hx) hl)
      · exact rfl
      · (simp (disch := omega) only [vset, wset, ints, bools, strs, undefM, Nat.reduceLT, Nat.reduceAdd, Nat.reduceBEq, Int.reduceToNat] <;> exact rfl)
      · (simp (disch := omega) only [vset, wset, ints, bools, strs, undefM, Nat.reduceLT, Nat.reduceAdd, Nat.reduceBEq, Int.reduceToNat] <;> exact rfl)
      · exact rfl
      · exact rfl
      rintro _ O2 ⟨rfl, hT2⟩
      apply VL.run tabOk
      · (simp (disch := omega) only [vset, wset, ints, bools, strs, undefM, Nat.reduceLT, Nat.reduceAdd, Nat.reduceBEq, Int.reduceToNat] <;> exact rfl)
      repeat' first
        | with_reducible refine VC.seq' ?_
        | with_reducible refine VC.block' ?_
        | with_reducible refine VC.skip ?_
        | with_reducible refine VC.label ?_
        | with_reducible refine VC.scope ?_
        | with_reducible refine VC.exit ?_
        | with_reducible refine VC.ret ?_
        | with_reducible refine VL.nil ?_
        | ((first | with_reducible apply VC.plainL | with_reducible apply VC.readsL (by kernel_rfl) (by kernel_rfl) (by kernel_rfl)); (with_reducible apply VL.run tabOk); (· (simp (disch := omega) only [vset, wset, ints, bools, strs, undefM, Nat.reduceLT, Nat.reduceAdd, Nat.reduceBEq, Int.reduceToNat] <;> exact rfl)))
        | ((with_reducible apply VC.cond); (· (simp (disch := omega) only [vset, wset, ints, bools, strs, undefM, Nat.reduceLT, Nat.reduceAdd, Nat.reduceBEq, Int.reduceToNat] <;> exact rfl)); all_goals (intro hcond; try simp only [decide_eq_true_eq, decide_eq_false_iff_not, beq_iff_eq, beq_eq_false_iff_ne, bne_iff_ne, bne_eq_false_iff_eq, ne_eq, reduceCtorEq] at hcond))
        | simp only [qset, Nat.reduceEqDiff, reduceIte]
        | ((apply EndQ.ret1 rfl); (· (simp only [look_cons, Nat.reduceBEq, cond_true, cond_false] <;> exact rfl)))
        | ((apply EndQ.ret2 rfl); (· (simp only [look_cons, Nat.reduceBEq, cond_true, cond_false] <;> exact rfl)); (· (simp only [look_cons, Nat.reduceBEq, cond_true, cond_false] <;> exact rfl)))
        | (refine EndQ.ret0 rfl ?_)
        | (refine EndQ.nor0 rfl ?_)
      exact ⟨by trivial, hT2⟩
    | x :: y :: r =>
      rw [hL] at hll
      simp only [List.length_cons] at hll
      repeat' first
        | with_reducible refine VC.seq' ?_
        | with_reducible refine VC.block' ?_
        | with_reducible refine VC.skip ?_
        | with_reducible refine VC.label ?_
        | with_reducible refine VC.scope ?_
        | with_reducible refine VC.exit ?_
        | with_reducible refine VC.ret ?_
        | with_reducible refine VL.nil ?_
        | ((first | with_reducible apply VC.plainL | with_reducible apply VC.readsL (by kernel_rfl) (by kernel_rfl) (by kernel_rfl)); (with_reducible apply VL.run tabOk); (· (simp (disch := omega) only [vset, wset, ints, bools, strs, undefM, Nat.reduceLT, Nat.reduceAdd, Nat.reduceBEq, Int.reduceToNat, List.length_cons, beqI_f] <;> exact rfl)))
        | ((with_reducible apply VC.cond); (· (simp (disch := omega) only [vset, wset, ints, bools, strs, undefM, Nat.reduceLT, Nat.reduceAdd, Nat.reduceBEq, Int.reduceToNat, List.length_cons, beqI_f] <;> exact rfl)); all_goals (intro hcond; try simp only [decide_eq_true_eq, decide_eq_false_iff_not, beq_iff_eq, beq_eq_false_iff_ne, bne_iff_ne, bne_eq_false_iff_eq, ne_eq, reduceCtorEq] at hcond))
        | simp only [qset, Nat.reduceEqDiff, reduceIte]
        | ((apply EndQ.ret1 rfl); (· (simp only [look_cons, Nat.reduceBEq, cond_true, cond_false] <;> exact rfl)))
        | ((apply EndQ.ret2 rfl); (· (simp only [look_cons, Nat.reduceBEq, cond_true, cond_false] <;> exact rfl)); (· (simp only [look_cons, Nat.reduceBEq, cond_true, cond_false] <;> exact rfl)))
        | (refine EndQ.ret0 rfl ?_)
        | (refine EndQ.nor0 rfl ?_)
      exact ⟨by trivial, hT⟩

/-! ### Tokens -/
def tokId : Tok → Option Nat
  | .own t _ => some t
  | _ => none
structure TokS (O : VH) (B : Nat) (l : List Tok) : Prop where
  app : ∀ s ∈ l, App O B 1 s
  nodup : (l.filterMap tokId).Nodup
section
variable {O : VH} {B : Nat} {l l' : List Tok} {s : Tok}
theorem TokS.perm (h : TokS O B l) (hp : l.Perm l') : TokS O B l' := ⟨fun s hs => h.app s (hp.mem_iff.2 hs), (hp.filterMap _).nodup_iff.1 h.nodup⟩
theorem TokS.tail (h : TokS O B (s :: l)) : TokS O B l := ⟨fun x hx => h.app x (List.mem_cons_of_mem _ hx), by
  have := h.nodup
  rw [List.filterMap_cons] at this
  split at this
  · exact this
  · exact (List.nodup_cons.1 this).2⟩
theorem TokS.free (h : TokS O B l) (hs : s = .nil ∨ s = .full) : TokS O B (s :: l) := ⟨fun x hx => by
  rcases List.mem_cons.1 hx with rfl | hx
  · rcases hs with rfl | rfl <;> trivial
  · exact h.app x hx, by
  rcases hs with rfl | rfl <;> exact h.nodup⟩
theorem TokS.set {k : Nat} {x y : VObj} (h : TokS O B l) (hk : O.hp k = some x) (hx : x ≠ .tok) : TokS (O.set k y) B l := ⟨fun s hs => by
  have := h.app s hs
  cases s with
  | own t j => exact ⟨this.1, (VH.set_ne _ _ (fun e => by subst e; rw [this.2.1] at hk; injection hk with hk; exact hx hk.symm)).trans this.2.1, this.2.2⟩
  | _ => exact this, h.nodup⟩
theorem TokS.push {y : VObj} (h : TokS O B l) : TokS (O.push y) B l := ⟨fun s hs => by
  have := h.app s hs
  cases s with
  | own t j => exact ⟨this.1, (VH.push_old _ _ this.2.2.2).trans this.2.1, this.2.2.1, Nat.lt_succ_of_lt this.2.2.2⟩
  | _ => exact this, h.nodup⟩
theorem TokS.after (h : TokS O B (s :: l)) (hB : B ≤ O.next) : TokS (O.after s) B (.own O.next 1 :: l) := by
  have hid : ∀ t j, Tok.own t j ∈ l → s ≠ .own t j ∧ ∀ k, s = .own t k → False := fun t j ht => by
    have hn := h.nodup
    have hm : t ∈ l.filterMap tokId := List.mem_filterMap.2 ⟨_, ht, rfl⟩
    have key : ∀ k, s = .own t k → False := fun k e => by
      subst e
      rw [List.filterMap_cons] at hn
      exact (List.nodup_cons.1 hn).1 hm
    exact ⟨fun e => key j e, key⟩
  refine ⟨fun x hx => ?_, ?_⟩
  · rcases List.mem_cons.1 hx with rfl | hx
    · exact App.after hB
    · have := h.app x (List.mem_cons_of_mem _ hx)
      cases x with
      | own t j =>
        refine ⟨this.1, ?_, this.2.2.1, by rw [VH.after_next]; exact Nat.lt_succ_of_lt this.2.2.2⟩
        cases s with
        | own t' j' =>
          refine (VH.push_old (O.kill t') _ this.2.2.2).trans ?_
          rw [VH.kill_ne _ (fun e => by subst e; exact (hid t j hx).2 j' rfl)]
          exact this.2.1
        | _ => exact (VH.push_old _ _ this.2.2.2).trans this.2.1
      | _ => exact this
  · show (O.next :: l.filterMap tokId).Nodup
    refine List.nodup_cons.2 ⟨fun hm => ?_, h.tail.nodup⟩
    obtain ⟨x, hx, he⟩ := List.mem_filterMap.1 hm
    cases x with
    | own t j =>
      simp only [tokId, Option.some.injEq] at he
      subst he
      have := (h.app _ (List.mem_cons_of_mem _ hx)).2.2.2
      omega
    | _ => cases he
end

/-! ### The base -/
abbrev Vs := List Int × Tok
def fV (y : Vs) : MV := ints y.1 y.2
def valsOf (mp : List (Int × Vs)) (n : Int) : Vs := (mfind mp n).getD ([], .nil)
theorem mput_toks (mp : List (Int × Vs)) (n : Int) : ∃ rest, (∀ y : Vs, ((mput mp n y).map (·.2.2)).Perm (y.2 :: rest)) ∧ (((valsOf mp n).2 = .nil ∧ mp.map (·.2.2) = rest) ∨ (mp.map (·.2.2)).Perm ((valsOf mp n).2 :: rest)) := by
  induction mp with
  | nil => exact ⟨[], fun y => List.Perm.refl _, .inl ⟨rfl, rfl⟩⟩
  | cons p r ih =>
    obtain ⟨k, v⟩ := p
    by_cases h : k = n
    · subst h
      refine ⟨r.map (·.2.2), fun y => by rw [mput, if_pos rfl]; exact List.Perm.refl _, .inr ?_⟩
      rw [valsOf, mfind, if_pos rfl]; exact List.Perm.refl _
    · obtain ⟨rest, h1, h2⟩ := ih
      refine ⟨v.2 :: rest, fun y => ?_, ?_⟩
      · rw [mput, if_neg h, List.map_cons]
        exact ((h1 y).cons _).trans (List.Perm.swap ..)
      · have : valsOf ((k, v) :: r) n = valsOf r n := by rw [valsOf, mfind, if_neg h]; rfl
        rw [this]
        rcases h2 with ⟨h2, h3⟩ | h2
        · exact .inl ⟨h2, by rw [List.map_cons, h3]⟩
        · refine .inr ?_
          rw [List.map_cons]
          exact (h2.cons _).trans (List.Perm.swap ..)
theorem valsOf_put (mp : List (Int × Vs)) (n : Int) (y : Vs) (j : Int) : valsOf (mput mp n y) j = if n = j then y else valsOf mp j := by
  rw [valsOf, mfind_put]
  by_cases h : n = j
  · rw [if_pos h, if_pos h]; rfl
  · rw [if_neg h, if_neg h]; rfl
structure Bs (O0 : VH) (b bm : Nat) (cs : List Vs) (mp : List (Int × Vs)) (sh : List Int) (s1 s2 : Tok) (tl : List Tok) (O : VH) : Prop where
  ge : O0.Ge O
  lb : O0.next ≤ b ∧ b < O.next
  lm : O0.next ≤ bm ∧ bm < O.next
  ne : b ≠ bm
  hb : O.hp b = some (.cells [.sl cs.length (cs.map clM) s1, .map bm, ints sh s2])
  hm : O.hp bm = some (mapI fV mp)
  tk : TokS O O0.next (tl ++ s1 :: s2 :: mp.map (·.2.2))
/-- In which clauses a literal stands. -/
structure InvIn (cs : List Vs) (mp : List (Int × Vs)) (ex : Int → Prop) : Prop where
  mem : ∀ n i, i ∈ (valsOf mp n).1 ↔ (∃ k : Nat, k < cs.length ∧ i = k ∧ n ∈ (cs.getD k ([], .nil)).1) ∨ (ex n ∧ i = cs.length)
  len : ∀ n, (valsOf mp n).1.length ≤ cs.length + 1
  len0 : ∀ n, ¬ ex n → (valsOf mp n).1.length ≤ cs.length
structure InvSh (cs : List Vs) (sh : List Int) : Prop where
  mem : ∀ i, i ∈ sh ↔ ∃ k : Nat, k < cs.length ∧ i = k ∧ (cs.getD k ([], .nil)).1.length < 2
  len : sh.length ≤ cs.length
/-- A base of these clauses. -/
def Base (O0 : VH) (b : Nat) (cls : List (List Int)) (O : VH) : Prop := ∃ bm cs mp sh s1 s2, Bs O0 b bm cs mp sh s1 s2 [] O ∧ InvIn cs mp (fun _ => False) ∧ InvSh cs sh ∧ rows cs = cls
def metL (l : List Int) : List (Int × Bool) := (0, true) :: yesL l
theorem mfind_met (l : List Int) (n : Int) : mfind (metL l) n = if n = 0 ∨ n ∈ l then some true else none := by
  rw [metL, mfind, mfind_yes]
  by_cases h : 0 = n
  · rw [if_pos h, if_pos (.inl h.symm)]
  · rw [if_neg h]
    by_cases h2 : n ∈ l
    · rw [if_pos h2, if_pos (.inr h2)]
    · rw [if_neg h2, if_neg (by rintro (e | e); exact h e.symm; exact h2 e)]
theorem mput_met (l : List Int) (n : Int) (h0 : n ≠ 0) (h : n ∉ l) : mput (metL l) n true = metL (l ++ [n]) := by
  rw [metL, mput, if_neg (Ne.symm h0), mput_yes l n h]; rfl
theorem getD_append_old {cs : List Vs} {x : Vs} {k : Nat} (h : k < cs.length) : (cs ++ [x]).getD k ([], .nil) = cs.getD k ([], .nil) := by
  rw [List.getD_eq_getElem?_getD, List.getD_eq_getElem?_getD, List.getElem?_append_left h]
theorem getD_append_new {cs : List Vs} {x : Vs} : (cs ++ [x]).getD cs.length ([], .nil) = x := by
  rw [List.getD_eq_getElem?_getD, List.getElem?_append_right (Nat.le_refl _), Nat.sub_self]; rfl
theorem InvIn.next {cs : List Vs} {mp : List (Int × Vs)} {l : List Int} (h : InvIn cs mp (· ∈ l)) (t : Tok) : InvIn (cs ++ [(l, t)]) mp (fun _ => False) := by
  refine ⟨fun n i => ?_, fun n => ?_, fun n _ => ?_⟩
  · rw [h.mem]
    constructor
    · rintro (⟨k, h1, h2, h3⟩ | ⟨h1, h2⟩)
      · exact .inl ⟨k, by simp; omega, h2, by rw [getD_append_old h1]; exact h3⟩
      · exact .inl ⟨cs.length, by simp, h2, by rw [getD_append_new]; exact h1⟩
    · rintro (⟨k, h1, h2, h3⟩ | h)
      · simp only [List.length_append, List.length_singleton] at h1
        by_cases e : k = cs.length
        · subst e; rw [getD_append_new] at h3; exact .inr ⟨h3, h2⟩
        · rw [getD_append_old (by omega)] at h3; exact .inl ⟨k, by omega, h2, h3⟩
      · exact h.1.elim
  · have := h.len n; simp; omega
  · have := h.len n; simp; omega
theorem InvSh.next {cs : List Vs} {sh : List Int} (h : InvSh cs sh) (l : List Int) (t : Tok) : InvSh (cs ++ [(l, t)]) (if l.length < 2 then sh ++ [(cs.length : Int)] else sh) := by
  have hl := h.len
  refine ⟨fun i => ?_, ?_⟩
  · have key : (∃ k : Nat, k < (cs ++ [(l, t)]).length ∧ i = k ∧ ((cs ++ [(l, t)]).getD k ([], .nil)).1.length < 2) ↔ (∃ k : Nat, k < cs.length ∧ i = k ∧ (cs.getD k ([], .nil)).1.length < 2) ∨ (i = cs.length ∧ l.length < 2) := by
      constructor
      · rintro ⟨k, h1, h2, h3⟩
        simp only [List.length_append, List.length_singleton] at h1
        by_cases e : k = cs.length
        · subst e; rw [getD_append_new] at h3; exact .inr ⟨h2, h3⟩
        · rw [getD_append_old (by omega)] at h3; exact .inl ⟨k, by omega, h2, h3⟩
      · rintro (⟨k, h1, h2, h3⟩ | ⟨h2, h3⟩)
        · exact ⟨k, by simp; omega, h2, by rw [getD_append_old h1]; exact h3⟩
        · exact ⟨cs.length, by simp, h2, by rw [getD_append_new]; exact h3⟩
    rw [key]
    split
    · rename_i hs
      rw [List.mem_append, List.mem_singleton, h.mem]
      simp [hs]
    · rename_i hs
      rw [h.mem]
      simp [hs]
  · split <;> simp <;> omega
end Go.Proofs.Ytcfoongiffpnlaa
