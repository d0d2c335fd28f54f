/-
  The package proof: Check and its mirror, walked.
-/
import Derived.Test.YtcfoongiffpnlaaPrG
set_option linter.unusedVariables false
set_option linter.unusedSimpArgs false
namespace Go.Proofs.Ytcfoongiffpnlaa
open Go.RowKit

/-- What a check answers. -/
def Chk (cls p : List (List Int)) (r : Int) : Prop :=
  (∃ i : Nat, i < p.length ∧ r = i ∧ (∀ j, j < i → Bad (cls ++ p.take j) (p.getD j [])) ∧ ¬ Bad (cls ++ p.take i) (p.getD i []))
  ∨ ((∀ j, j < p.length → Bad (cls ++ p.take j) (p.getD j [])) ∧ r = if p.length = 0 ∨ 0 < (p.getD (p.length - 1) []).length then (p.length : Int) else -1)
theorem Chk.uniq {cls p : List (List Int)} {r s : Int} (h : Chk cls p r) (k : Chk cls p s) : r = s := by
  rcases h with ⟨i, hi, rfl, h1, h2⟩ | ⟨h1, rfl⟩
  · rcases k with ⟨j, hj, rfl, k1, k2⟩ | ⟨k1, rfl⟩
    · rcases Nat.lt_trichotomy i j with h | h | h
      · exact absurd (k1 i h) h2
      · rw [h]
      · exact absurd (h1 j h) k2
    · exact absurd (k1 i hi) h2
  · rcases k with ⟨j, hj, rfl, k1, k2⟩ | ⟨k1, rfl⟩
    · exact absurd (h1 j hj) k2
    · rfl
theorem rows_at {pl : List Vs} {j : Nat} (h : j < pl.length) : (rows pl).getD j [] = pl[j].1 := by
  rw [List.getD_eq_getElem?_getD, rows, List.getElem?_map, List.getElem?_eq_getElem h]; rfl
theorem rows_take (pl : List Vs) (j : Nat) : rows (pl.take j) = (rows pl).take j := by simp [rows]
theorem rows_app (a b : List Vs) : rows (a ++ b) = rows a ++ rows b := by simp [rows]

theorem Ap.more {O0 O O' : VH} {s : Tok} (h : Ap O0 s O) (hg : O.Ge O') : Ap O0 s O' := by
  refine ⟨h.ge.trans hg, ?_⟩
  have := h.app
  cases s with
  | own t j => exact ⟨this.1, (hg.hp _ this.2.2.2).trans this.2.1, this.2.2.1, Nat.lt_of_lt_of_le this.2.2.2 hg.next⟩
  | _ => exact this

/-- proof.Check -/
theorem Check_v (v : Int) (cl pl : List Vs) (tk tk2 : Tok) (O : VH) (hn : cl.length ≤ 500) (hpn : pl.length ≤ 500) (hl : ∀ C ∈ cl, C.1.length ≤ 1000) (hpl : ∀ C ∈ pl, C.1.length ≤ 1000) (hC : ∀ C ∈ cl, ∀ n ∈ C.1, InR n) (hP : ∀ C ∈ pl, ∀ n ∈ C.1, InR n) :
    VF Try.prog 27 [qM v cl tk, .sl pl.length (pl.map clM) tk2] O (Ret fun m O' => ∃ r, m = mi r ∧ Chk (rows cl) (rows pl) r ∧ O.Ge O') := by
  have hq := VH.push_new O (.cells [mi v, .sl cl.length (cl.map clM) tk])
  have hge := (VH.Ge.refl O).push (.cells [mi v, .sl cl.length (cl.map clM) tk])
  simp only [mi_def] at hq hge
  refine VF.enter' tabOk Try.func27 (c := _) rfl (Nat.le_of_ble_eq_true rfl) ?_
  rw [show Try.f27.ntmps = 42 from rfl]
  simp only [argEnv, Nat.zero_add, Nat.reduceAdd]
  repeat' first
    | with_reducible refine VC.seq' ?_
    | with_reducible refine VC.block' ?_
    | with_reducible refine VC.skip ?_
    | with_reducible refine VC.label ?_
    | with_reducible refine VC.scope ?_
    | with_reducible refine VC.exit ?_
    | with_reducible refine VC.ret ?_
    | with_reducible refine VL.nil ?_
    | ((first | with_reducible apply VC.plainL | with_reducible apply VC.readsL (by kernel_rfl) (by kernel_rfl) (by kernel_rfl)); (with_reducible apply VL.run tabOk); (· (simp (disch := omega) only [vset, wset, ints, bools, strs, undefM, Nat.reduceLT, Nat.reduceAdd, Nat.reduceBEq, Int.reduceToNat, qM, fa41_1, vload_p ty24 rfl hq] <;> exact rfl)))
    | ((with_reducible apply VC.cond); (· (simp (disch := omega) only [vset, wset, ints, bools, strs, undefM, Nat.reduceLT, Nat.reduceAdd, Nat.reduceBEq, Int.reduceToNat, qM, fa41_1, vload_p ty24 rfl hq] <;> exact rfl)); all_goals (intro hcond; try simp only [decide_eq_true_eq, decide_eq_false_iff_not, beq_iff_eq, beq_eq_false_iff_ne, bne_iff_ne, bne_eq_false_iff_eq, ne_eq, reduceCtorEq] at hcond))
    | simp only [qset, Nat.reduceEqDiff, reduceIte]
    | ((apply EndQ.ret1 rfl); (· (simp only [look_cons, Nat.reduceBEq, cond_true, cond_false] <;> exact rfl)))
    | ((apply EndQ.ret2 rfl); (· (simp only [look_cons, Nat.reduceBEq, cond_true, cond_false] <;> exact rfl)); (· (simp only [look_cons, Nat.reduceBEq, cond_true, cond_false] <;> exact rfl)))
    | (refine EndQ.ret0 rfl ?_)
    | (refine EndQ.nor0 rfl ?_)
  generalize O.push (.cells [.v (.int .i64 v), .sl cl.length (cl.map clM) tk]) = O1 at *
  apply VL.callR (id := 35) (hE := Enters.of Try.func35 (by decide) (by decide)) (hR := newBase_v cl tk O1 (by omega) hl)
  · exact rfl
  · (simp (disch := omega) only [vset, wset, ints, bools, strs, undefM, Nat.reduceLT, Nat.reduceAdd, Nat.reduceBEq, Int.reduceToNat] <;> exact rfl)
  · (simp (disch := omega) only [vset, wset, ints, bools, strs, undefM, Nat.reduceLT, Nat.reduceAdd, Nat.reduceBEq, Int.reduceToNat] <;> exact rfl)
  · exact rfl
  · exact rfl
  rintro _ O2 ⟨b, rfl, hb, hB⟩
  apply VL.run tabOk
  · (simp (disch := omega) only [vset, wset, ints, bools, strs, undefM, Nat.reduceLT, Nat.reduceAdd, Nat.reduceBEq, Int.reduceToNat] <;> exact rfl)
  repeat' first
    | with_reducible refine VC.seq' ?_
    | with_reducible refine VC.block' ?_
    | with_reducible refine VC.skip ?_
    | with_reducible refine VC.label ?_
    | with_reducible refine VC.scope ?_
    | with_reducible refine VC.exit ?_
    | with_reducible refine VC.ret ?_
    | with_reducible refine VL.nil ?_
    | ((first | with_reducible apply VC.plainL | with_reducible apply VC.readsL (by kernel_rfl) (by kernel_rfl) (by kernel_rfl)); (with_reducible apply VL.run tabOk); (· (simp (disch := omega) only [vset, wset, ints, bools, strs, undefM, Nat.reduceLT, Nat.reduceAdd, Nat.reduceBEq, Int.reduceToNat, vlen_sl ty24] <;> exact rfl)))
    | ((with_reducible apply VC.cond); (· (simp (disch := omega) only [vset, wset, ints, bools, strs, undefM, Nat.reduceLT, Nat.reduceAdd, Nat.reduceBEq, Int.reduceToNat, vlen_sl ty24] <;> exact rfl)); all_goals (intro hcond; try simp only [decide_eq_true_eq, decide_eq_false_iff_not, beq_iff_eq, beq_eq_false_iff_ne, bne_iff_ne, bne_eq_false_iff_eq, ne_eq, reduceCtorEq] at hcond))
    | simp only [qset, Nat.reduceEqDiff, reduceIte]
    | ((apply EndQ.ret1 rfl); (· (simp only [look_cons, Nat.reduceBEq, cond_true, cond_false] <;> exact rfl)))
    | ((apply EndQ.ret2 rfl); (· (simp only [look_cons, Nat.reduceBEq, cond_true, cond_false] <;> exact rfl)); (· (simp only [look_cons, Nat.reduceBEq, cond_true, cond_false] <;> exact rfl)))
    | (refine EndQ.ret0 rfl ?_)
    | (refine EndQ.nor0 rfl ?_)
  apply VC.loopK [14] [1, 5, 12, 13] (ms := fun j : Nat => [mi j]) (I := fun j O' => j ≤ pl.length ∧ Base O1 b ((rows cl ++ (rows pl).take j).map (lf [])) O' ∧ ∀ i, i < j → Bad (rows cl ++ (rows pl).take i) ((rows pl).getD i [])) (μ := fun j => pl.length - j) (s0 := 0)
  · (simp (disch := omega) only [vset, wset, ints, bools, strs, undefM, Nat.reduceLT, Nat.reduceAdd, Nat.reduceBEq, Int.reduceToNat, Int.natCast_zero, List.take_zero, List.map_nil, List.any_nil, Bool.or_false] <;> exact rfl)
  · (simp only [vset, wset, ints, bools, strs, undefM, Nat.reduceLT, Nat.reduceAdd, Nat.reduceBEq, Int.reduceToNat] <;> exact rfl)
  · exact ⟨by omega, by rw [List.take_zero, List.append_nil]; exact hB, fun i hi => by omega⟩
  rintro j O3 ⟨hj, hB, hall⟩
  have hgeB : O.Ge O3 := by obtain ⟨_, _, _, _, _, _, h, _⟩ := hB; exact hge.trans h.ge
  by_cases h2 : j < pl.length
  · have hcj : (pl.map clM)[j]? = some (clM pl[j]) := by rw [List.getElem?_map, List.getElem?_eq_getElem h2]; rfl
    have hmm : ∀ C ∈ (rows cl ++ (rows pl).take j).map (lf []), C.length ≤ 1000 ∧ ∀ n ∈ C, InR n := fun C hC' => by
      obtain ⟨D, hD, rfl⟩ := List.mem_map.1 hC'
      have hD2 : D.length ≤ 1000 ∧ ∀ n ∈ D, InR n := by
        rcases List.mem_append.1 hD with h | h
        · obtain ⟨y, hy, rfl⟩ := List.mem_map.1 h
          exact ⟨hl y hy, hC y hy⟩
        · obtain ⟨y, hy, rfl⟩ := List.mem_map.1 (List.mem_of_mem_take h)
          exact ⟨hpl y hy, hP y hy⟩
      exact ⟨Nat.le_trans (lf_len _ _) hD2.1, fun n hn' => hD2.2 n ((mem_lf _).1 hn').1⟩
    have hml : ((rows cl ++ (rows pl).take j).map (lf [])).length ≤ 1000 := by simp [rows]; omega
    have hF := follows_v hB (dd_nodup _) (dd_ne _) (fun C h => (hmm C h).2) (fun C h => (hmm C h).1) hml pl[j].1 pl[j].2 (hpl _ (List.getElem_mem h2)) (hP _ (List.getElem_mem h2))
    repeat' first
      | with_reducible refine VC.seq' ?_
      | with_reducible refine VC.block' ?_
      | with_reducible refine VC.skip ?_
      | with_reducible refine VC.label ?_
      | with_reducible refine VC.scope ?_
      | with_reducible refine VC.exit ?_
      | with_reducible refine VC.ret ?_
      | with_reducible refine VL.nil ?_
      | ((first | with_reducible apply VC.plainL | with_reducible apply VC.readsL (by kernel_rfl) (by kernel_rfl) (by kernel_rfl)); (with_reducible apply VL.run tabOk); (· (simp (disch := omega) only [vset, wset, ints, bools, strs, undefM, Nat.reduceLT, Nat.reduceAdd, Nat.reduceBEq, Int.reduceToNat, vix_sl ty24 ty22, vload_c ty22 rfl, hcj, clM] <;> exact rfl)))
      | ((with_reducible apply VC.cond); (· (simp (disch := omega) only [vset, wset, ints, bools, strs, undefM, Nat.reduceLT, Nat.reduceAdd, Nat.reduceBEq, Int.reduceToNat, vix_sl ty24 ty22, vload_c ty22 rfl, hcj, clM] <;> exact rfl)); all_goals (intro hcond; try simp only [decide_eq_true_eq, decide_eq_false_iff_not, beq_iff_eq, beq_eq_false_iff_ne, bne_iff_ne, bne_eq_false_iff_eq, ne_eq, reduceCtorEq] at hcond))
      | simp only [qset, Nat.reduceEqDiff, reduceIte]
      | ((apply EndQ.ret1 rfl); (· (simp only [look_cons, Nat.reduceBEq, cond_true, cond_false] <;> exact rfl)))
      | ((apply EndQ.ret2 rfl); (· (simp only [look_cons, Nat.reduceBEq, cond_true, cond_false] <;> exact rfl)); (· (simp only [look_cons, Nat.reduceBEq, cond_true, cond_false] <;> exact rfl)))
      | (refine EndQ.ret0 rfl ?_)
      | (refine EndQ.nor0 rfl ?_)
    apply VL.callR (id := 36) (hE := Enters.of Try.func36 (by decide) (by decide)) (hR := hF)
    · exact rfl
    · (simp (disch := omega) only [vset, wset, ints, bools, strs, undefM, Nat.reduceLT, Nat.reduceAdd, Nat.reduceBEq, Int.reduceToNat] <;> exact rfl)
    · (simp (disch := omega) only [vset, wset, ints, bools, strs, undefM, Nat.reduceLT, Nat.reduceAdd, Nat.reduceBEq, Int.reduceToNat] <;> exact rfl)
    · exact rfl
    · exact rfl
    rintro _ O4 ⟨r, rfl, hr, hge4⟩
    apply VL.run tabOk
    · (simp (disch := omega) only [vset, wset, ints, bools, strs, undefM, Nat.reduceLT, Nat.reduceAdd, Nat.reduceBEq, Int.reduceToNat] <;> exact rfl)
    rw [bad_dd, ← rows_at h2] at hr
    have hB4 := hB.ge hge4
    cases r with
    | false =>
      repeat' first
        | with_reducible refine VC.seq' ?_
        | with_reducible refine VC.block' ?_
        | with_reducible refine VC.skip ?_
        | with_reducible refine VC.label ?_
        | with_reducible refine VC.scope ?_
        | with_reducible refine VC.exit ?_
        | with_reducible refine VC.ret ?_
        | with_reducible refine VL.nil ?_
        | ((first | with_reducible apply VC.plainL | with_reducible apply VC.readsL (by kernel_rfl) (by kernel_rfl) (by kernel_rfl)); (with_reducible apply VL.run tabOk); (· (simp (disch := omega) only [vset, wset, ints, bools, strs, undefM, Nat.reduceLT, Nat.reduceAdd, Nat.reduceBEq, Int.reduceToNat] <;> exact rfl)))
        | ((with_reducible apply VC.cond); (· (simp (disch := omega) only [vset, wset, ints, bools, strs, undefM, Nat.reduceLT, Nat.reduceAdd, Nat.reduceBEq, Int.reduceToNat] <;> exact rfl)); all_goals (intro hcond; try simp only [decide_eq_true_eq, decide_eq_false_iff_not, beq_iff_eq, beq_eq_false_iff_ne, bne_iff_ne, bne_eq_false_iff_eq, ne_eq, reduceCtorEq] at hcond))
        | simp only [qset, Nat.reduceEqDiff, reduceIte]
        | ((apply EndQ.ret1 rfl); (· (simp only [look_cons, Nat.reduceBEq, cond_true, cond_false] <;> exact rfl)))
        | ((apply EndQ.ret2 rfl); (· (simp only [look_cons, Nat.reduceBEq, cond_true, cond_false] <;> exact rfl)); (· (simp only [look_cons, Nat.reduceBEq, cond_true, cond_false] <;> exact rfl)))
        | (refine EndQ.ret0 rfl ?_)
        | (refine EndQ.nor0 rfl ?_)
      exact ⟨j, rfl, .inl ⟨j, by simpa [rows] using h2, rfl, hall, fun h => by cases hr.2 h⟩, hgeB.trans hge4⟩
    | true =>
      have hA := add_v hB4 pl[j].1 pl[j].2 (hpl _ (List.getElem_mem h2)) hml
      repeat' first
        | with_reducible refine VC.seq' ?_
        | with_reducible refine VC.block' ?_
        | with_reducible refine VC.skip ?_
        | with_reducible refine VC.label ?_
        | with_reducible refine VC.scope ?_
        | with_reducible refine VC.exit ?_
        | with_reducible refine VC.ret ?_
        | with_reducible refine VL.nil ?_
        | ((first | with_reducible apply VC.plainL | with_reducible apply VC.readsL (by kernel_rfl) (by kernel_rfl) (by kernel_rfl)); (with_reducible apply VL.run tabOk); (· (simp (disch := omega) only [vset, wset, ints, bools, strs, undefM, Nat.reduceLT, Nat.reduceAdd, Nat.reduceBEq, Int.reduceToNat] <;> exact rfl)))
        | ((with_reducible apply VC.cond); (· (simp (disch := omega) only [vset, wset, ints, bools, strs, undefM, Nat.reduceLT, Nat.reduceAdd, Nat.reduceBEq, Int.reduceToNat] <;> exact rfl)); all_goals (intro hcond; try simp only [decide_eq_true_eq, decide_eq_false_iff_not, beq_iff_eq, beq_eq_false_iff_ne, bne_iff_ne, bne_eq_false_iff_eq, ne_eq, reduceCtorEq] at hcond))
        | simp only [qset, Nat.reduceEqDiff, reduceIte]
        | ((apply EndQ.ret1 rfl); (· (simp only [look_cons, Nat.reduceBEq, cond_true, cond_false] <;> exact rfl)))
        | ((apply EndQ.ret2 rfl); (· (simp only [look_cons, Nat.reduceBEq, cond_true, cond_false] <;> exact rfl)); (· (simp only [look_cons, Nat.reduceBEq, cond_true, cond_false] <;> exact rfl)))
        | (refine EndQ.ret0 rfl ?_)
        | (refine EndQ.nor0 rfl ?_)
      apply VL.callR (id := 38) (hE := Enters.of Try.func38 (by decide) (by decide)) (hR := hA)
      · exact rfl
      · (simp (disch := omega) only [vset, wset, ints, bools, strs, undefM, Nat.reduceLT, Nat.reduceAdd, Nat.reduceBEq, Int.reduceToNat] <;> exact rfl)
      · (simp (disch := omega) only [vset, wset, ints, bools, strs, undefM, Nat.reduceLT, Nat.reduceAdd, Nat.reduceBEq, Int.reduceToNat] <;> exact rfl)
      · exact rfl
      · exact rfl
      rintro _ O5 ⟨rfl, hB5⟩
      apply VL.run tabOk
      · (simp (disch := omega) only [vset, wset, ints, bools, strs, undefM, Nat.reduceLT, Nat.reduceAdd, Nat.reduceBEq, Int.reduceToNat] <;> exact rfl)
      repeat' first
        | with_reducible refine VC.seq' ?_
        | with_reducible refine VC.block' ?_
        | with_reducible refine VC.skip ?_
        | with_reducible refine VC.label ?_
        | with_reducible refine VC.scope ?_
        | with_reducible refine VC.exit ?_
        | with_reducible refine VC.ret ?_
        | with_reducible refine VL.nil ?_
        | ((first | with_reducible apply VC.plainL | with_reducible apply VC.readsL (by kernel_rfl) (by kernel_rfl) (by kernel_rfl)); (with_reducible apply VL.run tabOk); (· (simp (disch := omega) only [vset, wset, ints, bools, strs, undefM, Nat.reduceLT, Nat.reduceAdd, Nat.reduceBEq, Int.reduceToNat] <;> exact rfl)))
        | ((with_reducible apply VC.cond); (· (simp (disch := omega) only [vset, wset, ints, bools, strs, undefM, Nat.reduceLT, Nat.reduceAdd, Nat.reduceBEq, Int.reduceToNat] <;> exact rfl)); all_goals (intro hcond; try simp only [decide_eq_true_eq, decide_eq_false_iff_not, beq_iff_eq, beq_eq_false_iff_ne, bne_iff_ne, bne_eq_false_iff_eq, ne_eq, reduceCtorEq] at hcond))
        | simp only [qset, Nat.reduceEqDiff, reduceIte]
        | ((apply EndQ.ret1 rfl); (· (simp only [look_cons, Nat.reduceBEq, cond_true, cond_false] <;> exact rfl)))
        | ((apply EndQ.ret2 rfl); (· (simp only [look_cons, Nat.reduceBEq, cond_true, cond_false] <;> exact rfl)); (· (simp only [look_cons, Nat.reduceBEq, cond_true, cond_false] <;> exact rfl)))
        | (refine EndQ.ret0 rfl ?_)
        | (refine EndQ.nor0 rfl ?_)
      refine ⟨?_, j + 1, ?_, ?_, by dsimp only; omega⟩
      · (simp only [vset, wset, ints, bools, strs, undefM, Nat.reduceLT, Nat.reduceAdd, Nat.reduceBEq, Int.reduceToNat] <;> exact rfl)
      · (simp (disch := omega) only [vset, wset, ints, bools, strs, undefM, Nat.reduceLT, Nat.reduceAdd, Nat.reduceBEq, Int.reduceToNat, Int.natCast_add, Int.cast_ofNat_Int] <;> first | done | exact rfl)
      refine ⟨by omega, ?_, fun i hi => ?_⟩
      · rw [take_snoc _ _ (by simpa [rows] using h2), ← List.append_assoc, List.map_append]
        simpa [rows] using hB5
      · rcases Nat.lt_succ_iff_lt_or_eq.1 hi with h | rfl
        · exact hall i h
        · exact hr.1 rfl
  · obtain rfl : j = pl.length := by omega
    have hrl : (rows pl).length = pl.length := by simp [rows]
    by_cases h0 : pl.length = 0
    · repeat' first
        | with_reducible refine VC.seq' ?_
        | with_reducible refine VC.block' ?_
        | with_reducible refine VC.skip ?_
        | with_reducible refine VC.label ?_
        | with_reducible refine VC.scope ?_
        | with_reducible refine VC.exit ?_
        | with_reducible refine VC.ret ?_
        | with_reducible refine VL.nil ?_
        | ((first | with_reducible apply VC.plainL | with_reducible apply VC.readsL (by kernel_rfl) (by kernel_rfl) (by kernel_rfl)); (with_reducible apply VL.run tabOk); (· (simp (disch := omega) only [vset, wset, ints, bools, strs, undefM, Nat.reduceLT, Nat.reduceAdd, Nat.reduceBEq, Int.reduceToNat, vlen_sl ty24, h0] <;> exact rfl)))
        | ((with_reducible apply VC.cond); (· (simp (disch := omega) only [vset, wset, ints, bools, strs, undefM, Nat.reduceLT, Nat.reduceAdd, Nat.reduceBEq, Int.reduceToNat, vlen_sl ty24, h0] <;> exact rfl)); all_goals (intro hcond; try simp only [decide_eq_true_eq, decide_eq_false_iff_not, beq_iff_eq, beq_eq_false_iff_ne, bne_iff_ne, bne_eq_false_iff_eq, ne_eq, reduceCtorEq] at hcond))
        | simp only [qset, Nat.reduceEqDiff, reduceIte]
        | ((apply EndQ.ret1 rfl); (· (simp only [look_cons, Nat.reduceBEq, cond_true, cond_false] <;> exact rfl)))
        | ((apply EndQ.ret2 rfl); (· (simp only [look_cons, Nat.reduceBEq, cond_true, cond_false] <;> exact rfl)); (· (simp only [look_cons, Nat.reduceBEq, cond_true, cond_false] <;> exact rfl)))
        | (refine EndQ.ret0 rfl ?_)
        | (refine EndQ.nor0 rfl ?_)
      exact ⟨0, rfl, .inr ⟨fun i hi => hall i (by omega), by rw [if_pos (.inl (by omega))]; omega⟩, hgeB⟩
    · have h1 : pl.length - 1 < pl.length := by omega
      have hcj : (pl.map clM)[pl.length - 1]? = some (clM pl[pl.length - 1]) := by rw [List.getElem?_map, List.getElem?_eq_getElem h1]; rfl
      have hlen := hpl _ (List.getElem_mem h1)
      have hra := rows_at h1
      have e1 : (pl.length : Int) - 1 = ((pl.length - 1 : Nat) : Int) := by omega
      by_cases hpos : 0 < pl[pl.length - 1].1.length
      · repeat' first
          | with_reducible refine VC.seq' ?_
          | with_reducible refine VC.block' ?_
          | with_reducible refine VC.skip ?_
          | with_reducible refine VC.label ?_
          | with_reducible refine VC.scope ?_
          | with_reducible refine VC.exit ?_
          | with_reducible refine VC.ret ?_
          | with_reducible refine VL.nil ?_
          | ((first | with_reducible apply VC.plainL | with_reducible apply VC.readsL (by kernel_rfl) (by kernel_rfl) (by kernel_rfl)); (with_reducible apply VL.run tabOk); (· (simp (disch := omega) only [vset, wset, ints, bools, strs, undefM, Nat.reduceLT, Nat.reduceAdd, Nat.reduceBEq, Int.reduceToNat, vlen_sl ty24, vlen_sl ty22, e1, beqI_f, vix_sl ty24 ty22, vload_c ty22 rfl, hcj, clM] <;> exact rfl)))
          | ((with_reducible apply VC.cond); (· (simp (disch := omega) only [vset, wset, ints, bools, strs, undefM, Nat.reduceLT, Nat.reduceAdd, Nat.reduceBEq, Int.reduceToNat, vlen_sl ty24, vlen_sl ty22, e1, beqI_f, vix_sl ty24 ty22, vload_c ty22 rfl, hcj, clM] <;> exact rfl)); all_goals (intro hcond; try simp only [decide_eq_true_eq, decide_eq_false_iff_not, beq_iff_eq, beq_eq_false_iff_ne, bne_iff_ne, bne_eq_false_iff_eq, ne_eq, reduceCtorEq] at hcond))
          | simp only [qset, Nat.reduceEqDiff, reduceIte]
          | ((apply EndQ.ret1 rfl); (· (simp only [look_cons, Nat.reduceBEq, cond_true, cond_false] <;> exact rfl)))
          | ((apply EndQ.ret2 rfl); (· (simp only [look_cons, Nat.reduceBEq, cond_true, cond_false] <;> exact rfl)); (· (simp only [look_cons, Nat.reduceBEq, cond_true, cond_false] <;> exact rfl)))
          | (refine EndQ.ret0 rfl ?_)
          | (refine EndQ.nor0 rfl ?_)
        exact ⟨pl.length, rfl, .inr ⟨fun i hi => hall i (by omega), by rw [hrl, hra, if_pos (.inr hpos)]⟩, hgeB⟩
      · repeat' first
          | with_reducible refine VC.seq' ?_
          | with_reducible refine VC.block' ?_
          | with_reducible refine VC.skip ?_
          | with_reducible refine VC.label ?_
          | with_reducible refine VC.scope ?_
          | with_reducible refine VC.exit ?_
          | with_reducible refine VC.ret ?_
          | with_reducible refine VL.nil ?_
          | ((first | with_reducible apply VC.plainL | with_reducible apply VC.readsL (by kernel_rfl) (by kernel_rfl) (by kernel_rfl)); (with_reducible apply VL.run tabOk); (· (simp (disch := omega) only [vset, wset, ints, bools, strs, undefM, Nat.reduceLT, Nat.reduceAdd, Nat.reduceBEq, Int.reduceToNat, vlen_sl ty24, vlen_sl ty22, e1, beqI_f, vix_sl ty24 ty22, vload_c ty22 rfl, hcj, clM] <;> exact rfl)))
          | ((with_reducible apply VC.cond); (· (simp (disch := omega) only [vset, wset, ints, bools, strs, undefM, Nat.reduceLT, Nat.reduceAdd, Nat.reduceBEq, Int.reduceToNat, vlen_sl ty24, vlen_sl ty22, e1, beqI_f, vix_sl ty24 ty22, vload_c ty22 rfl, hcj, clM] <;> exact rfl)); all_goals (intro hcond; try simp only [decide_eq_true_eq, decide_eq_false_iff_not, beq_iff_eq, beq_eq_false_iff_ne, bne_iff_ne, bne_eq_false_iff_eq, ne_eq, reduceCtorEq] at hcond))
          | simp only [qset, Nat.reduceEqDiff, reduceIte]
          | ((apply EndQ.ret1 rfl); (· (simp only [look_cons, Nat.reduceBEq, cond_true, cond_false] <;> exact rfl)))
          | ((apply EndQ.ret2 rfl); (· (simp only [look_cons, Nat.reduceBEq, cond_true, cond_false] <;> exact rfl)); (· (simp only [look_cons, Nat.reduceBEq, cond_true, cond_false] <;> exact rfl)))
          | (refine EndQ.ret0 rfl ?_)
          | (refine EndQ.nor0 rfl ?_)
        exact ⟨-1, rfl, .inr ⟨fun i hi => hall i (by omega), by rw [hrl, hra, if_neg (by rintro (h | h) <;> omega)]⟩, hgeB⟩

/-- pomaceref16.Check -/
theorem rCheck_v (cl pl : List Vs) (tk tk2 : Tok) (O : VH) (hn : cl.length ≤ 500) (hpn : pl.length ≤ 500) (hl : ∀ C ∈ cl, C.1.length ≤ 1000) (hpl : ∀ C ∈ pl, C.1.length ≤ 1000) (hC : ∀ C ∈ cl, ∀ n ∈ C.1, InR n) (hP : ∀ C ∈ pl, ∀ n ∈ C.1, InR n) :
    VF Try.prog 28 [.sl cl.length (cl.map clM) tk, .sl pl.length (pl.map clM) tk2] O (Ret fun m O' => ∃ r, m = mi r ∧ Chk (rows cl) (rows pl) r ∧ O.Ge O') := by
  obtain ⟨tk3, O2, hclo, hap0⟩ := clone_app (O := O) ty24 ty22 (tk' := tk) (cs := cl.map clM) (n := cl.length) (by simp) (by rw [List.all_map]; exact List.all_eq_true.2 fun _ _ => rfl) (by omega) (by simp [maxLen]; omega)
  refine VF.enter' tabOk Try.func28 (c := _) rfl (Nat.le_of_ble_eq_true rfl) ?_
  rw [show Try.f28.ntmps = 43 from rfl]
  simp only [argEnv, Nat.zero_add, Nat.reduceAdd]
  repeat' first
    | with_reducible refine VC.seq' ?_
    | with_reducible refine VC.block' ?_
    | with_reducible refine VC.skip ?_
    | with_reducible refine VC.label ?_
    | with_reducible refine VC.scope ?_
    | with_reducible refine VC.exit ?_
    | with_reducible refine VC.ret ?_
    | with_reducible refine VL.nil ?_
    | ((first | with_reducible apply VC.plainL | with_reducible apply VC.readsL (by kernel_rfl) (by kernel_rfl) (by kernel_rfl)); (with_reducible apply VL.run tabOk); (· (simp (disch := omega) only [vset, wset, ints, bools, strs, undefM, Nat.reduceLT, Nat.reduceAdd, Nat.reduceBEq, Int.reduceToNat, vbs0 ty24 ty22, hclo, vlen_sl ty24] <;> exact rfl)))
    | ((with_reducible apply VC.cond); (· (simp (disch := omega) only [vset, wset, ints, bools, strs, undefM, Nat.reduceLT, Nat.reduceAdd, Nat.reduceBEq, Int.reduceToNat, vbs0 ty24 ty22, hclo, vlen_sl ty24] <;> exact rfl)); all_goals (intro hcond; try simp only [decide_eq_true_eq, decide_eq_false_iff_not, beq_iff_eq, beq_eq_false_iff_ne, bne_iff_ne, bne_eq_false_iff_eq, ne_eq, reduceCtorEq] at hcond))
    | simp only [qset, Nat.reduceEqDiff, reduceIte]
    | ((apply EndQ.ret1 rfl); (· (simp only [look_cons, Nat.reduceBEq, cond_true, cond_false] <;> exact rfl)))
    | ((apply EndQ.ret2 rfl); (· (simp only [look_cons, Nat.reduceBEq, cond_true, cond_false] <;> exact rfl)); (· (simp only [look_cons, Nat.reduceBEq, cond_true, cond_false] <;> exact rfl)))
    | (refine EndQ.ret0 rfl ?_)
    | (refine EndQ.nor0 rfl ?_)
  apply VC.loopK [5, 13] [1, 11, 12] (ms := fun s : Nat × Tok => [.sl (cl ++ pl.take s.1).length ((cl ++ pl.take s.1).map clM) s.2, mi s.1]) (I := fun s O' => s.1 ≤ pl.length ∧ Ap O s.2 O' ∧ ∀ i, i < s.1 → Bad (rows cl ++ (rows pl).take i) ((rows pl).getD i [])) (μ := fun s => pl.length - s.1) (s0 := (0, tk3))
  · (simp (disch := omega) only [vset, wset, ints, bools, strs, undefM, Nat.reduceLT, Nat.reduceAdd, Nat.reduceBEq, Int.reduceToNat, Int.natCast_zero, List.take_zero, List.map_nil, List.any_nil, Bool.or_false, List.append_nil] <;> exact rfl)
  · (simp only [vset, wset, ints, bools, strs, undefM, Nat.reduceLT, Nat.reduceAdd, Nat.reduceBEq, Int.reduceToNat] <;> exact rfl)
  · exact ⟨by simp, hap0, fun i hi => by omega⟩
  rintro ⟨j, s⟩ O3 ⟨hj, hap, hall⟩
  dsimp only at hj hap hall
  by_cases h2 : j < pl.length
  · have hcj : (pl.map clM)[j]? = some (clM pl[j]) := by rw [List.getElem?_map, List.getElem?_eq_getElem h2]; rfl
    have hmm : ∀ C ∈ cl ++ pl.take j, C.1.length ≤ 1000 ∧ ∀ n ∈ C.1, InR n := fun C hC' => by
      rcases List.mem_append.1 hC' with h | h
      · exact ⟨hl C h, hC C h⟩
      · exact ⟨hpl C (List.mem_of_mem_take h), hP C (List.mem_of_mem_take h)⟩
    have hml : (cl ++ pl.take j).length ≤ 1000 := by simp; omega
    have hF := rFollows_v (cl ++ pl.take j) pl[j].1 s pl[j].2 O3 hml (fun C h => (hmm C h).1) (hpl _ (List.getElem_mem h2)) (fun C h => (hmm C h).2) (hP _ (List.getElem_mem h2))
    repeat' first
      | with_reducible refine VC.seq' ?_
      | with_reducible refine VC.block' ?_
      | with_reducible refine VC.skip ?_
      | with_reducible refine VC.label ?_
      | with_reducible refine VC.scope ?_
      | with_reducible refine VC.exit ?_
      | with_reducible refine VC.ret ?_
      | with_reducible refine VL.nil ?_
      | ((first | with_reducible apply VC.plainL | with_reducible apply VC.readsL (by kernel_rfl) (by kernel_rfl) (by kernel_rfl)); (with_reducible apply VL.run tabOk); (· (simp (disch := omega) only [vset, wset, ints, bools, strs, undefM, Nat.reduceLT, Nat.reduceAdd, Nat.reduceBEq, Int.reduceToNat, vix_sl ty24 ty22, vload_c ty22 rfl, hcj, clM] <;> exact rfl)))
      | ((with_reducible apply VC.cond); (· (simp (disch := omega) only [vset, wset, ints, bools, strs, undefM, Nat.reduceLT, Nat.reduceAdd, Nat.reduceBEq, Int.reduceToNat, vix_sl ty24 ty22, vload_c ty22 rfl, hcj, clM] <;> exact rfl)); all_goals (intro hcond; try simp only [decide_eq_true_eq, decide_eq_false_iff_not, beq_iff_eq, beq_eq_false_iff_ne, bne_iff_ne, bne_eq_false_iff_eq, ne_eq, reduceCtorEq] at hcond))
      | simp only [qset, Nat.reduceEqDiff, reduceIte]
      | ((apply EndQ.ret1 rfl); (· (simp only [look_cons, Nat.reduceBEq, cond_true, cond_false] <;> exact rfl)))
      | ((apply EndQ.ret2 rfl); (· (simp only [look_cons, Nat.reduceBEq, cond_true, cond_false] <;> exact rfl)); (· (simp only [look_cons, Nat.reduceBEq, cond_true, cond_false] <;> exact rfl)))
      | (refine EndQ.ret0 rfl ?_)
      | (refine EndQ.nor0 rfl ?_)
    apply VL.callR (id := 26) (hE := Enters.of Try.func26 (by decide) (by decide)) (hR := hF)
    · exact rfl
    · (simp (disch := omega) only [vset, wset, ints, bools, strs, undefM, Nat.reduceLT, Nat.reduceAdd, Nat.reduceBEq, Int.reduceToNat] <;> exact rfl)
    · (simp (disch := omega) only [vset, wset, ints, bools, strs, undefM, Nat.reduceLT, Nat.reduceAdd, Nat.reduceBEq, Int.reduceToNat] <;> exact rfl)
    · exact rfl
    · exact rfl
    rintro _ O4 ⟨r, rfl, hr, hge4⟩
    apply VL.run tabOk
    · (simp (disch := omega) only [vset, wset, ints, bools, strs, undefM, Nat.reduceLT, Nat.reduceAdd, Nat.reduceBEq, Int.reduceToNat] <;> exact rfl)
    rw [rows_app, rows_take, ← rows_at h2] at hr
    cases r with
    | false =>
      repeat' first
        | with_reducible refine VC.seq' ?_
        | with_reducible refine VC.block' ?_
        | with_reducible refine VC.skip ?_
        | with_reducible refine VC.label ?_
        | with_reducible refine VC.scope ?_
        | with_reducible refine VC.exit ?_
        | with_reducible refine VC.ret ?_
        | with_reducible refine VL.nil ?_
        | ((first | with_reducible apply VC.plainL | with_reducible apply VC.readsL (by kernel_rfl) (by kernel_rfl) (by kernel_rfl)); (with_reducible apply VL.run tabOk); (· (simp (disch := omega) only [vset, wset, ints, bools, strs, undefM, Nat.reduceLT, Nat.reduceAdd, Nat.reduceBEq, Int.reduceToNat] <;> exact rfl)))
        | ((with_reducible apply VC.cond); (· (simp (disch := omega) only [vset, wset, ints, bools, strs, undefM, Nat.reduceLT, Nat.reduceAdd, Nat.reduceBEq, Int.reduceToNat] <;> exact rfl)); all_goals (intro hcond; try simp only [decide_eq_true_eq, decide_eq_false_iff_not, beq_iff_eq, beq_eq_false_iff_ne, bne_iff_ne, bne_eq_false_iff_eq, ne_eq, reduceCtorEq] at hcond))
        | simp only [qset, Nat.reduceEqDiff, reduceIte]
        | ((apply EndQ.ret1 rfl); (· (simp only [look_cons, Nat.reduceBEq, cond_true, cond_false] <;> exact rfl)))
        | ((apply EndQ.ret2 rfl); (· (simp only [look_cons, Nat.reduceBEq, cond_true, cond_false] <;> exact rfl)); (· (simp only [look_cons, Nat.reduceBEq, cond_true, cond_false] <;> exact rfl)))
        | (refine EndQ.ret0 rfl ?_)
        | (refine EndQ.nor0 rfl ?_)
      exact ⟨j, rfl, .inl ⟨j, by simpa [rows] using h2, rfl, hall, fun h => by cases hr.2 h⟩, hap.ge.trans hge4⟩
    | true =>
      have hap4 : Ap O s O4 := hap.more hge4
      have hap' := vappend_app (O := O4) ty24 ty22 (tk' := .full) (cs := (cl ++ pl.take j).map clM) (n := (cl ++ pl.take j).length) (ds := [.sl pl[j].1.length (pl[j].1.map mi) pl[j].2]) (k := 1) hap4.app (by simp) rfl rfl (by decide) (by decide) (by omega) (by simp [maxLen]; omega)
      repeat' first
        | with_reducible refine VC.seq' ?_
        | with_reducible refine VC.block' ?_
        | with_reducible refine VC.skip ?_
        | with_reducible refine VC.label ?_
        | with_reducible refine VC.scope ?_
        | with_reducible refine VC.exit ?_
        | with_reducible refine VC.ret ?_
        | with_reducible refine VL.nil ?_
        | ((first | with_reducible apply VC.plainL | with_reducible apply VC.readsL (by kernel_rfl) (by kernel_rfl) (by kernel_rfl)); (with_reducible apply VL.run tabOk); (· (simp (disch := omega) only [vset, wset, ints, bools, strs, undefM, Nat.reduceLT, Nat.reduceAdd, Nat.reduceBEq, Int.reduceToNat, vbs1s ty24 ty22, hap'] <;> exact rfl)))
        | ((with_reducible apply VC.cond); (· (simp (disch := omega) only [vset, wset, ints, bools, strs, undefM, Nat.reduceLT, Nat.reduceAdd, Nat.reduceBEq, Int.reduceToNat, vbs1s ty24 ty22, hap'] <;> exact rfl)); all_goals (intro hcond; try simp only [decide_eq_true_eq, decide_eq_false_iff_not, beq_iff_eq, beq_eq_false_iff_ne, bne_iff_ne, bne_eq_false_iff_eq, ne_eq, reduceCtorEq] at hcond))
        | simp only [qset, Nat.reduceEqDiff, reduceIte]
        | ((apply EndQ.ret1 rfl); (· (simp only [look_cons, Nat.reduceBEq, cond_true, cond_false] <;> exact rfl)))
        | ((apply EndQ.ret2 rfl); (· (simp only [look_cons, Nat.reduceBEq, cond_true, cond_false] <;> exact rfl)); (· (simp only [look_cons, Nat.reduceBEq, cond_true, cond_false] <;> exact rfl)))
        | (refine EndQ.ret0 rfl ?_)
        | (refine EndQ.nor0 rfl ?_)
      refine ⟨?_, (j + 1, .own O4.next 1), ?_, ⟨by dsimp only; omega, hap4.next, fun i hi => ?_⟩, by dsimp only; omega⟩
      · (simp only [vset, wset, ints, bools, strs, undefM, Nat.reduceLT, Nat.reduceAdd, Nat.reduceBEq, Int.reduceToNat] <;> exact rfl)
      · dsimp only
        rw [take_snoc _ _ h2, ← List.append_assoc]
        simp only [vset, wset, ints, bools, strs, undefM, Nat.reduceLT, Nat.reduceAdd, Nat.reduceBEq, Int.reduceToNat, Int.natCast_add, Int.cast_ofNat_Int, List.map_append, List.length_append, List.length_cons, List.length_nil, clM] <;> exact rfl
      · rcases Nat.lt_succ_iff_lt_or_eq.1 hi with h | rfl
        · exact hall i h
        · exact hr.1 rfl
  · obtain rfl : j = pl.length := by omega
    have hrl : (rows pl).length = pl.length := by simp [rows]
    by_cases h0 : pl.length = 0
    · repeat' first
        | with_reducible refine VC.seq' ?_
        | with_reducible refine VC.block' ?_
        | with_reducible refine VC.skip ?_
        | with_reducible refine VC.label ?_
        | with_reducible refine VC.scope ?_
        | with_reducible refine VC.exit ?_
        | with_reducible refine VC.ret ?_
        | with_reducible refine VL.nil ?_
        | ((first | with_reducible apply VC.plainL | with_reducible apply VC.readsL (by kernel_rfl) (by kernel_rfl) (by kernel_rfl)); (with_reducible apply VL.run tabOk); (· (simp (disch := omega) only [vset, wset, ints, bools, strs, undefM, Nat.reduceLT, Nat.reduceAdd, Nat.reduceBEq, Int.reduceToNat, vlen_sl ty24, h0] <;> exact rfl)))
        | ((with_reducible apply VC.cond); (· (simp (disch := omega) only [vset, wset, ints, bools, strs, undefM, Nat.reduceLT, Nat.reduceAdd, Nat.reduceBEq, Int.reduceToNat, vlen_sl ty24, h0] <;> exact rfl)); all_goals (intro hcond; try simp only [decide_eq_true_eq, decide_eq_false_iff_not, beq_iff_eq, beq_eq_false_iff_ne, bne_iff_ne, bne_eq_false_iff_eq, ne_eq, reduceCtorEq] at hcond))
        | simp only [qset, Nat.reduceEqDiff, reduceIte]
        | ((apply EndQ.ret1 rfl); (· (simp only [look_cons, Nat.reduceBEq, cond_true, cond_false] <;> exact rfl)))
        | ((apply EndQ.ret2 rfl); (· (simp only [look_cons, Nat.reduceBEq, cond_true, cond_false] <;> exact rfl)); (· (simp only [look_cons, Nat.reduceBEq, cond_true, cond_false] <;> exact rfl)))
        | (refine EndQ.ret0 rfl ?_)
        | (refine EndQ.nor0 rfl ?_)
      exact ⟨0, rfl, .inr ⟨fun i hi => hall i (by omega), by rw [if_pos (.inl (by omega))]; omega⟩, hap.ge⟩
    · have h1 : pl.length - 1 < pl.length := by omega
      have hcj : (pl.map clM)[pl.length - 1]? = some (clM pl[pl.length - 1]) := by rw [List.getElem?_map, List.getElem?_eq_getElem h1]; rfl
      have hlen := hpl _ (List.getElem_mem h1)
      have hra := rows_at h1
      have e1 : (pl.length : Int) - 1 = ((pl.length - 1 : Nat) : Int) := by omega
      by_cases hpos : 0 < pl[pl.length - 1].1.length
      · repeat' first
          | with_reducible refine VC.seq' ?_
          | with_reducible refine VC.block' ?_
          | with_reducible refine VC.skip ?_
          | with_reducible refine VC.label ?_
          | with_reducible refine VC.scope ?_
          | with_reducible refine VC.exit ?_
          | with_reducible refine VC.ret ?_
          | with_reducible refine VL.nil ?_
          | ((first | with_reducible apply VC.plainL | with_reducible apply VC.readsL (by kernel_rfl) (by kernel_rfl) (by kernel_rfl)); (with_reducible apply VL.run tabOk); (· (simp (disch := omega) only [vset, wset, ints, bools, strs, undefM, Nat.reduceLT, Nat.reduceAdd, Nat.reduceBEq, Int.reduceToNat, vlen_sl ty24, vlen_sl ty22, e1, beqI_f, vix_sl ty24 ty22, vload_c ty22 rfl, hcj, clM] <;> exact rfl)))
          | ((with_reducible apply VC.cond); (· (simp (disch := omega) only [vset, wset, ints, bools, strs, undefM, Nat.reduceLT, Nat.reduceAdd, Nat.reduceBEq, Int.reduceToNat, vlen_sl ty24, vlen_sl ty22, e1, beqI_f, vix_sl ty24 ty22, vload_c ty22 rfl, hcj, clM] <;> exact rfl)); all_goals (intro hcond; try simp only [decide_eq_true_eq, decide_eq_false_iff_not, beq_iff_eq, beq_eq_false_iff_ne, bne_iff_ne, bne_eq_false_iff_eq, ne_eq, reduceCtorEq] at hcond))
          | simp only [qset, Nat.reduceEqDiff, reduceIte]
          | ((apply EndQ.ret1 rfl); (· (simp only [look_cons, Nat.reduceBEq, cond_true, cond_false] <;> exact rfl)))
          | ((apply EndQ.ret2 rfl); (· (simp only [look_cons, Nat.reduceBEq, cond_true, cond_false] <;> exact rfl)); (· (simp only [look_cons, Nat.reduceBEq, cond_true, cond_false] <;> exact rfl)))
          | (refine EndQ.ret0 rfl ?_)
          | (refine EndQ.nor0 rfl ?_)
        exact ⟨pl.length, rfl, .inr ⟨fun i hi => hall i (by omega), by rw [hrl, hra, if_pos (.inr hpos)]⟩, hap.ge⟩
      · repeat' first
          | with_reducible refine VC.seq' ?_
          | with_reducible refine VC.block' ?_
          | with_reducible refine VC.skip ?_
          | with_reducible refine VC.label ?_
          | with_reducible refine VC.scope ?_
          | with_reducible refine VC.exit ?_
          | with_reducible refine VC.ret ?_
          | with_reducible refine VL.nil ?_
          | ((first | with_reducible apply VC.plainL | with_reducible apply VC.readsL (by kernel_rfl) (by kernel_rfl) (by kernel_rfl)); (with_reducible apply VL.run tabOk); (· (simp (disch := omega) only [vset, wset, ints, bools, strs, undefM, Nat.reduceLT, Nat.reduceAdd, Nat.reduceBEq, Int.reduceToNat, vlen_sl ty24, vlen_sl ty22, e1, beqI_f, vix_sl ty24 ty22, vload_c ty22 rfl, hcj, clM] <;> exact rfl)))
          | ((with_reducible apply VC.cond); (· (simp (disch := omega) only [vset, wset, ints, bools, strs, undefM, Nat.reduceLT, Nat.reduceAdd, Nat.reduceBEq, Int.reduceToNat, vlen_sl ty24, vlen_sl ty22, e1, beqI_f, vix_sl ty24 ty22, vload_c ty22 rfl, hcj, clM] <;> exact rfl)); all_goals (intro hcond; try simp only [decide_eq_true_eq, decide_eq_false_iff_not, beq_iff_eq, beq_eq_false_iff_ne, bne_iff_ne, bne_eq_false_iff_eq, ne_eq, reduceCtorEq] at hcond))
          | simp only [qset, Nat.reduceEqDiff, reduceIte]
          | ((apply EndQ.ret1 rfl); (· (simp only [look_cons, Nat.reduceBEq, cond_true, cond_false] <;> exact rfl)))
          | ((apply EndQ.ret2 rfl); (· (simp only [look_cons, Nat.reduceBEq, cond_true, cond_false] <;> exact rfl)); (· (simp only [look_cons, Nat.reduceBEq, cond_true, cond_false] <;> exact rfl)))
          | (refine EndQ.ret0 rfl ?_)
          | (refine EndQ.nor0 rfl ?_)
        exact ⟨-1, rfl, .inr ⟨fun i hi => hall i (by omega), by rw [hrl, hra, if_neg (by rintro (h | h) <;> omega)]⟩, hap.ge⟩
end Go.Proofs.Ytcfoongiffpnlaa
