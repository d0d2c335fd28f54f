/-
  The law WeighNew, walked.
-/
import Derived.Test.YtcfoongiffpnlaaWeigh6
set_option linter.unusedVariables false
set_option linter.unusedSimpArgs false
namespace Go.Proofs.Ytcfoongiffpnlaa
open Go.RowKit

theorem vmk1 {tab : Tab} {t el : TypeId} {u : TypeDesc} {a b d : Nat} {z : List MV} {y : MV} (h : tab t = some ⟨.slice el, a, b, z⟩) (h2 : tab el = some ⟨u, 1, d, [y]⟩) (O : VH) (n : Nat) (hb : d * n ≤ 281474976710656) (hn : n ≤ 9223372036854775807) :
    vmakeSlice tab O t (.v (.int .i64 n)) (.v (.int .i64 n)) = some (.asl O.next 0 n n, O.push (.cells (List.replicate n y))) := by
  simp only [vmakeSlice, h, h2, Option.map_some, Int.toNat_natCast]
  rw [if_pos ⟨Int.natCast_nonneg _, Int.le_refl _, by omega, by rw [← Int.natCast_mul]; omega, Nat.zero_lt_one⟩, Nat.mul_one]
  congr 4
  apply List.ext_getElem?
  intro i
  simp only [vzeros, List.getElem?_map, List.getElem?_replicate]
  by_cases h : i < n
  · rw [List.getElem?_range h, if_pos h]; simp [Nat.mod_one]
  · rw [List.getElem?_eq_none (by simp; omega), if_neg h]; rfl
theorem S_in {k i j : Int} {N : Nat} (hi : 1 ≤ i ∧ i ≤ (N : Int) - 1) (hj : 1 ≤ j ∧ j ≤ k) : 2000 ≤ S k 2000 i j ∧ S k 2000 i j < 2000 + ((N : Int) - 1) * k := by
  unfold S
  have h1 : 0 ≤ (i - 1) * k := Int.mul_nonneg (by omega) (by omega)
  have h2 : (i - 1) * k ≤ ((N : Int) - 2) * k := Int.mul_le_mul_of_nonneg_right (by omega) (by omega)
  have h3 : ((N : Int) - 1) * k = ((N : Int) - 2) * k + k := by
    rw [show ((N : Int) - 1) = (N - 2) + 1 by omega, Int.add_mul, Int.one_mul]
  omega
/-- What the variables of the clauses are. -/
def okV (xs : List Int) (after n : Int) : Prop := (2000 ≤ max n (-n) ∧ max n (-n) < after) ∨ (∃ y ∈ xs, max n (-n) = max y (-y))
theorem okV_S {xs : List Int} {k i j : Int} (hi : 1 ≤ i ∧ i ≤ (xs.length : Int) - 1) (hj : 1 ≤ j ∧ j ≤ k) : okV xs (2000 + ((xs.length : Int) - 1) * k) (S k 2000 i j) := by
  have := S_in hi hj
  left; omega
theorem okV_nS {xs : List Int} {k i j : Int} (hi : 1 ≤ i ∧ i ≤ (xs.length : Int) - 1) (hj : 1 ≤ j ∧ j ≤ k) : okV xs (2000 + ((xs.length : Int) - 1) * k) (-(S k 2000 i j)) := by
  have := S_in hi hj
  left; omega
theorem okV_x {xs : List Int} {a x : Int} (hx : x ∈ xs) : okV xs a (-x) := .inr ⟨x, hx, by omega⟩
theorem getD_mem {xs : List Int} {i : Nat} (h : i < xs.length) : xs.getD i 0 ∈ xs := by
  rw [List.getD_eq_getElem?_getD, List.getElem?_eq_getElem h]; exact List.getElem_mem h
theorem am_ok {xs : List Int} {k : Int} : ∀ c ∈ (am xs k 2000).1, ∀ n ∈ c, okV xs (am xs k 2000).2 n := by
  intro c hc n hn
  unfold am at hc ⊢
  split at hc
  · simp only [List.mem_cons, List.not_mem_nil, or_false] at hc; subst hc; simp at hn
  rw [if_neg ‹_›]
  split at hc
  · simp at hc
  rw [if_neg ‹_›]
  split at hc
  · simp only [List.mem_map] at hc
    obtain ⟨x, hx, rfl⟩ := hc
    simp only [List.mem_cons, List.not_mem_nil, or_false] at hn; subst hn
    exact okV_x hx
  rw [if_neg ‹_›]
  show okV xs (2000 + ((xs.length : Int) - 1) * k) n
  have hN : 0 < xs.length := by omega
  simp only [aMain, aHead, List.mem_append, List.mem_map, List.mem_range, List.mem_flatMap, List.mem_cons, List.not_mem_nil, or_false] at hc
  rcases hc with ((rfl | ⟨j, hj, rfl⟩) | ⟨i, hi, h⟩) | rfl
  · simp only [List.mem_cons, List.not_mem_nil, or_false] at hn
    rcases hn with rfl | rfl
    · exact okV_x (getD_mem hN)
    · exact okV_S (by omega) (by omega)
  · simp only [aHeadJ, List.mem_cons, List.not_mem_nil, or_false] at hn; subst hn
    exact okV_nS (by omega) (by omega)
  · have hx := getD_mem (xs := xs) (i := i + 1) (by omega)
    simp only [aRow, aRow1, aRowJ, List.mem_append, List.mem_flatMap, List.mem_range, List.mem_cons, List.not_mem_nil, or_false] at h
    rcases h with ((rfl | rfl) | ⟨j, hj, rfl | rfl⟩) | rfl <;> simp only [List.mem_cons, List.not_mem_nil, or_false] at hn
    · rcases hn with rfl | rfl
      · exact okV_x hx
      · exact okV_S (by omega) (by omega)
    · rcases hn with rfl | rfl
      · exact okV_nS (by omega) (by omega)
      · exact okV_S (by omega) (by omega)
    · rcases hn with rfl | rfl | rfl
      · exact okV_x hx
      · exact okV_nS (by omega) (by omega)
      · exact okV_S (by omega) (by omega)
    · rcases hn with rfl | rfl
      · exact okV_nS (by omega) (by omega)
      · exact okV_S (by omega) (by omega)
    · rcases hn with rfl | rfl
      · exact okV_x hx
      · exact okV_nS (by omega) (by omega)
  · simp only [List.mem_cons, List.not_mem_nil, or_false] at hn
    rcases hn with rfl | rfl
    · exact okV_x (getD_mem (by omega))
    · exact okV_nS (by omega) (by omega)
/-- Each further variable stands in some clause. -/
theorem am_all {xs : List Int} {k : Int} {q : Nat} (hq : 2000 + (q : Int) < (am xs k 2000).2) : ∃ c ∈ (am xs k 2000).1, ∃ n ∈ c, max n (-n) = 2000 + (q : Int) := by
  unfold am at hq ⊢
  split at hq
  · simp at hq; omega
  rw [if_neg ‹_›]
  split at hq
  · simp at hq; omega
  rw [if_neg ‹_›]
  split at hq
  · simp at hq; omega
  rw [if_neg ‹_›]
  have hq : 2000 + (q : Int) < 2000 + ((xs.length : Int) - 1) * k := hq
  show ∃ c ∈ aMain xs k 2000, _
  have hk : 1 ≤ k := by omega
  obtain ⟨K, rfl⟩ : ∃ K : Nat, k = K := ⟨k.toNat, by omega⟩
  have hN : 0 < xs.length := by omega
  have hqn : q < (xs.length - 1) * K := by
    have : (q : Int) < ((xs.length - 1 : Nat) : Int) * K := by rw [Int.natCast_sub (by omega)]; simpa using hq
    exact_mod_cast this
  have hi : q / K < xs.length - 1 := Nat.div_lt_of_lt_mul (by rw [Nat.mul_comm]; exact hqn)
  have hj : q % K < K := Nat.mod_lt _ (by omega)
  have hdm : (q : Int) = (q / K : Nat) * K + (q % K : Nat) := by exact_mod_cast (Nat.div_add_mod' q K).symm
  generalize q / K = i at *
  generalize q % K = j at *
  have hS : S K 2000 (i + 1) (j + 1) = 2000 + q := by unfold S; rw [hdm]; simp; omega
  have hpos : max (S (K : Int) 2000 (i + 1) (j + 1)) (-(S (K : Int) 2000 (i + 1) (j + 1))) = 2000 + q := by rw [hS]; omega
  have hneg : max (-(S (K : Int) 2000 (i + 1) (j + 1))) (- -(S (K : Int) 2000 (i + 1) (j + 1))) = 2000 + q := by rw [hS]; omega
  simp only [aMain, aHead, List.mem_append, List.mem_map, List.mem_range, List.mem_flatMap, List.mem_cons, List.not_mem_nil, or_false]
  by_cases hi0 : i = 0
  · subst hi0
    by_cases hj0 : j = 0
    · subst hj0
      exact ⟨_, .inl (.inl (.inl rfl)), _, .tail _ (.head _), hpos⟩
    · refine ⟨_, .inl (.inl (.inr ⟨j - 1, by omega, rfl⟩)), -(S K 2000 (0 + 1) (j + 1)), ?_, hneg⟩
      simp only [aHeadJ, List.mem_cons, List.not_mem_nil, or_false]
      rw [show ((j - 1 : Nat) : Int) + 2 = j + 1 by omega]; rfl
  · by_cases hj0 : j = 0
    · subst hj0
      refine ⟨[-(xs.getD (i - 1 + 1) 0), S K 2000 ((i - 1 : Nat) + 2) 1], .inl (.inr ⟨i - 1, by omega, ?_⟩), S K 2000 (i + 1) 1, ?_, hpos⟩
      · simp [aRow, aRow1]
      · rw [show ((i - 1 : Nat) : Int) + 2 = i + 1 by omega]; exact .tail _ (.head _)
    · refine ⟨[-(S K 2000 ((i - 1 : Nat) + 2 - 1) ((j - 1 : Nat) + 2)), S K 2000 ((i - 1 : Nat) + 2) ((j - 1 : Nat) + 2)], .inl (.inr ⟨i - 1, by omega, ?_⟩), S K 2000 (i + 1) (j + 1), ?_, hpos⟩
      · simp only [aRow, aRowJ, List.mem_append, List.mem_flatMap, List.mem_range, List.mem_cons, List.not_mem_nil, or_false]
        exact .inl (.inr ⟨j - 1, by omega, .inr rfl⟩)
      · rw [show ((i - 1 : Nat) : Int) + 2 = i + 1 by omega, show ((j - 1 : Nat) : Int) + 2 = j + 1 by omega]; exact .tail _ (.head _)
theorem am_after {xs : List Int} {k : Int} (hl : xs.length ≤ 40) (hk : k ≤ 50) : ∃ m : Nat, (am xs k 2000).2 = 2000 + (m : Int) ∧ m ≤ 2000 := by
  unfold am
  split
  · exact ⟨0, by simp, by omega⟩
  split
  · exact ⟨0, by simp, by omega⟩
  split
  · exact ⟨0, by simp, by omega⟩
  have h1 : 0 ≤ ((xs.length : Int) - 1) * k := Int.mul_nonneg (by omega) (by omega)
  have h2 : ((xs.length : Int) - 1) * k ≤ 40 * 50 := Int.mul_le_mul (by omega) (by omega) (by omega) (by omega)
  exact ⟨(((xs.length : Int) - 1) * k).toNat, by simp only; omega, by omega⟩

def seen (M : List (List Int)) (i : Nat) : Bool := M.any fun c => c.any fun n => decide (max n (-n) = 2000 + (i : Int))
def metc (M : List (List Int)) (m : Nat) : List MV := (List.range m).map fun i => mb (seen M i)
theorem metc_len (M : List (List Int)) (m : Nat) : (metc M m).length = m := by simp [metc]
theorem metc_nil (M : List (List Int)) (m : Nat) : metc (M ++ [[]]) m = metc M m := by simp [metc, seen]
theorem metc_zero (m : Nat) : metc [] m = List.replicate m (mb false) := by
  apply List.ext_getElem (by simp [metc])
  intro i h1 h2
  simp [metc, seen]
theorem seen_snoc (M : List (List Int)) (c : List Int) (n : Int) (i : Nat) : seen (M ++ [c ++ [n]]) i = (seen (M ++ [c]) i || decide (max n (-n) = 2000 + (i : Int))) := by
  simp [seen, Bool.or_assoc]
theorem metc_old (M : List (List Int)) (c : List Int) (n : Int) (m : Nat) (h : max n (-n) < 2000) : metc (M ++ [c ++ [n]]) m = metc (M ++ [c]) m := by
  unfold metc
  apply List.map_congr_left
  intro i _
  rw [seen_snoc, decide_eq_false (by omega), Bool.or_false]
theorem metc_set (M : List (List Int)) (c : List Int) (n : Int) (m : Nat) (h : 2000 ≤ max n (-n)) : (metc (M ++ [c]) m).set (max n (-n) - 2000).toNat (mb true) = metc (M ++ [c ++ [n]]) m := by
  apply List.ext_getElem (by simp [metc])
  intro i h1 h2
  rw [List.getElem_set]
  simp only [metc, List.getElem_map, List.getElem_range]
  rw [seen_snoc]
  by_cases e : (max n (-n) - 2000).toNat = i
  · rw [if_pos e, decide_eq_true (by omega), Bool.or_true]
  · rw [if_neg e, decide_eq_false (by omega), Bool.or_false]

/-- pomacelaw21.WeighNew -/
theorem law3_v (l : List Int) (tk : Tok) (k : Int) (O : VH) (hl : l.length ≤ maxLen) (hx : ∀ x ∈ l, InK .i64 x) (hk : InK .i64 k) :
    VF Try.prog 3 [ints l tk, mi k] O (Ret fun m O' => m = mb true) := by
  have hlm : (l.length : Int) ≤ 9223372036854775807 := by simp [maxLen] at hl; omega
  simp only [InK] at hk
  refine VF.enter' tabOk Try.func3 (c := _) rfl (Nat.le_of_ble_eq_true rfl) ?_
  rw [show Try.f3.ntmps = 98 from rfl]
  simp only [argEnv, Nat.zero_add, Nat.reduceAdd]
  repeat' first
    | with_reducible refine VC.seq' ?_
    | with_reducible refine VC.block' ?_
    | with_reducible refine VC.skip ?_
    | with_reducible refine VC.label ?_
    | with_reducible refine VC.scope ?_
    | with_reducible refine VC.exit ?_
    | with_reducible refine VC.ret ?_
    | with_reducible refine VL.nil ?_
    | ((first | with_reducible apply VC.plainL | with_reducible apply VC.readsL (by kernel_rfl) (by kernel_rfl) (by kernel_rfl)); (with_reducible apply VL.run tabOk); (· (simp (disch := omega) only [vset, wset, ints, bools, strs, undefM, Nat.reduceLT, Nat.reduceAdd, Nat.reduceBEq, Int.reduceToNat] <;> exact rfl)))
    | ((with_reducible apply VC.cond); (· (simp (disch := omega) only [vset, wset, ints, bools, strs, undefM, Nat.reduceLT, Nat.reduceAdd, Nat.reduceBEq, Int.reduceToNat] <;> exact rfl)); all_goals (intro hcond; try simp only [decide_eq_true_eq, decide_eq_false_iff_not, beq_iff_eq, beq_eq_false_iff_ne, bne_iff_ne, bne_eq_false_iff_eq, ne_eq, reduceCtorEq] at hcond))
    | simp only [qset, Nat.reduceEqDiff, reduceIte]
    | ((apply EndQ.ret1 rfl); (· (simp only [look_cons, Nat.reduceBEq, cond_true, cond_false] <;> exact rfl)))
    | ((apply EndQ.ret2 rfl); (· (simp only [look_cons, Nat.reduceBEq, cond_true, cond_false] <;> exact rfl)); (· (simp only [look_cons, Nat.reduceBEq, cond_true, cond_false] <;> exact rfl)))
    | (refine EndQ.ret0 rfl ?_)
    | (refine EndQ.nor0 rfl ?_)
  apply VL.callR (id := 13) (hE := Enters.of Try.func13 (by decide) (by decide)) (hR := own_v l 40 tk O (by omega) (by omega) hlm)
  · exact rfl
  · (simp (disch := omega) only [vset, wset, ints, bools, strs, undefM, Nat.reduceLT, Nat.reduceAdd, Nat.reduceBEq, Int.reduceToNat] <;> exact rfl)
  · (simp (disch := omega) only [vset, wset, ints, bools, strs, undefM, Nat.reduceLT, Nat.reduceAdd, Nat.reduceBEq, Int.reduceToNat] <;> exact rfl)
  · exact rfl
  · exact rfl
  rintro _ O2 ⟨hge, s, rfl, -⟩
  apply VL.run tabOk
  · (simp (disch := omega) only [vset, wset, ints, bools, strs, undefM, Nat.reduceLT, Nat.reduceAdd, Nat.reduceBEq, Int.reduceToNat] <;> exact rfl)
  have hxs : ∀ x ∈ (l.take 40).map norm, (1 ≤ x ∧ x ≤ 1000) ∨ (-1000 ≤ x ∧ x ≤ -1) := fun x hx => by
    obtain ⟨y, _, rfl⟩ := List.mem_map.1 hx
    exact norm_bounds y
  have hxl : ((l.take 40).map norm).length ≤ 40 := by rw [List.length_map]; exact List.length_take_le _ _
  generalize (l.take 40).map norm = xs at *
  have hkb : -3 ≤ max (-3) (min k 50) ∧ max (-3) (min k 50) ≤ 50 := by omega
  repeat' first
    | with_reducible refine VC.seq' ?_
    | with_reducible refine VC.block' ?_
    | with_reducible refine VC.skip ?_
    | with_reducible refine VC.label ?_
    | with_reducible refine VC.scope ?_
    | with_reducible refine VC.exit ?_
    | with_reducible refine VC.ret ?_
    | with_reducible refine VL.nil ?_
    | ((first | with_reducible apply VC.plainL | with_reducible apply VC.readsL (by kernel_rfl) (by kernel_rfl) (by kernel_rfl)); (with_reducible apply VL.run tabOk); (· (simp (disch := omega) only [vset, wset, ints, bools, strs, undefM, Nat.reduceLT, Nat.reduceAdd, Nat.reduceBEq, Int.reduceToNat] <;> exact rfl)))
    | ((with_reducible apply VC.cond); (· (simp (disch := omega) only [vset, wset, ints, bools, strs, undefM, Nat.reduceLT, Nat.reduceAdd, Nat.reduceBEq, Int.reduceToNat] <;> exact rfl)); all_goals (intro hcond; try simp only [decide_eq_true_eq, decide_eq_false_iff_not, beq_iff_eq, beq_eq_false_iff_ne, bne_iff_ne, bne_eq_false_iff_eq, ne_eq, reduceCtorEq] at hcond))
    | simp only [qset, Nat.reduceEqDiff, reduceIte]
    | ((apply EndQ.ret1 rfl); (· (simp only [look_cons, Nat.reduceBEq, cond_true, cond_false] <;> exact rfl)))
    | ((apply EndQ.ret2 rfl); (· (simp only [look_cons, Nat.reduceBEq, cond_true, cond_false] <;> exact rfl)); (· (simp only [look_cons, Nat.reduceBEq, cond_true, cond_false] <;> exact rfl)))
    | (refine EndQ.ret0 rfl ?_)
    | (refine EndQ.nor0 rfl ?_)
  generalize max (-3) (min k 50) = k at *
  have hx1 : ∀ x ∈ xs, -1000000 ≤ x ∧ x ≤ 1000000 := fun x hx => by have := hxs x hx; omega
  apply VL.callR (id := 14) (hE := Enters.of Try.func14 (by decide) (by decide)) (hR := AtMost_v xs k 2000 s O2 hx1 (by omega) (by omega) (by omega))
  · exact rfl
  · (simp (disch := omega) only [vset, wset, ints, bools, strs, undefM, Nat.reduceLT, Nat.reduceAdd, Nat.reduceBEq, Int.reduceToNat, vextract] <;> exact rfl)
  · (simp (disch := omega) only [vset, wset, ints, bools, strs, undefM, Nat.reduceLT, Nat.reduceAdd, Nat.reduceBEq, Int.reduceToNat, vextract] <;> exact rfl)
  · exact rfl
  · exact rfl
  rintro _ O3 ⟨hge2, cl, s2, hcl, rfl⟩
  apply VL.run tabOk
  · (simp (disch := omega) only [vset, wset, ints, bools, strs, undefM, Nat.reduceLT, Nat.reduceAdd, Nat.reduceBEq, Int.reduceToNat, vextract] <;> exact rfl)
  have hok := am_ok (xs := xs) (k := k)
  have hall := fun q => am_all (xs := xs) (k := k) (q := q)
  have hlen := am_len (l := xs) (k := k) (n := 2000) (by omega) (by omega)
  have hcx := fun c => am_x (l := xs) (k := k) (n := 2000) (c := c)
  obtain ⟨m, hm, hm2⟩ := am_after (xs := xs) (k := k) hxl (by omega)
  rw [hm] at hok hall ⊢
  rw [← hcl] at hok hall hlen hcx
  rw [List.length_map] at hlen
  have hmk := vmk1 ty27 ty4 O3 m (by omega) (by omega)
  repeat' first
    | with_reducible refine VC.seq' ?_
    | with_reducible refine VC.block' ?_
    | with_reducible refine VC.skip ?_
    | with_reducible refine VC.label ?_
    | with_reducible refine VC.scope ?_
    | with_reducible refine VC.exit ?_
    | with_reducible refine VC.ret ?_
    | with_reducible refine VL.nil ?_
    | ((first | with_reducible apply VC.plainL | with_reducible apply VC.readsL (by kernel_rfl) (by kernel_rfl) (by kernel_rfl)); (with_reducible apply VL.run tabOk); (· (simp (disch := omega) only [vset, wset, ints, bools, strs, undefM, Nat.reduceLT, Nat.reduceAdd, Nat.reduceBEq, Int.reduceToNat, show (2000 : Int) + m - 2000 = m by omega, hmk, vlen_sl ty24] <;> exact rfl)))
    | ((with_reducible apply VC.cond); (· (simp (disch := omega) only [vset, wset, ints, bools, strs, undefM, Nat.reduceLT, Nat.reduceAdd, Nat.reduceBEq, Int.reduceToNat, show (2000 : Int) + m - 2000 = m by omega, hmk, vlen_sl ty24] <;> exact rfl)); all_goals (intro hcond; try simp only [decide_eq_true_eq, decide_eq_false_iff_not, beq_iff_eq, beq_eq_false_iff_ne, bne_iff_ne, bne_eq_false_iff_eq, ne_eq, reduceCtorEq] at hcond))
    | simp only [qset, Nat.reduceEqDiff, reduceIte]
    | ((apply EndQ.ret1 rfl); (· (simp only [look_cons, Nat.reduceBEq, cond_true, cond_false] <;> exact rfl)))
    | ((apply EndQ.ret2 rfl); (· (simp only [look_cons, Nat.reduceBEq, cond_true, cond_false] <;> exact rfl)); (· (simp only [look_cons, Nat.reduceBEq, cond_true, cond_false] <;> exact rfl)))
    | (refine EndQ.ret0 rfl ?_)
    | (refine EndQ.nor0 rfl ?_)
  generalize hb : O3.next = b
  have hpush : (O3.push (.cells (List.replicate m (.v (.bool false))))).hp b = some (.cells (metc ((cl.map (·.1)).take 0) m)) := by
    rw [List.take_zero, metc_zero, ← hb]; exact VH.push_new _ _
  generalize O3.push (.cells (List.replicate m (.v (.bool false)))) = O4 at *
  apply VC.loopK [41] [5, 7, 8, 39, 40] (ms := fun j : Nat => [mi j]) (I := fun j O' => j ≤ cl.length ∧ O'.hp b = some (.cells (metc ((cl.map (·.1)).take j) m))) (μ := fun j => cl.length - j) (s0 := 0)
  · (simp (disch := omega) only [vset, wset, ints, bools, strs, undefM, Nat.reduceLT, Nat.reduceAdd, Nat.reduceBEq, Int.reduceToNat, Int.natCast_zero, List.take_zero, List.map_nil, List.any_nil, Bool.or_false] <;> exact rfl)
  · (simp only [vset, wset, ints, bools, strs, undefM, Nat.reduceLT, Nat.reduceAdd, Nat.reduceBEq, Int.reduceToNat] <;> exact rfl)
  · exact ⟨by omega, hpush⟩
  clear hpush
  rintro j O5 ⟨hj, hcell⟩
  by_cases h2 : j < cl.length
  · have hcj : (cl.map clM)[j]? = some (clM cl[j]) := by rw [List.getElem?_map, List.getElem?_eq_getElem h2]; rfl
    have hmem : cl[j].1 ∈ cl.map (·.1) := List.mem_map_of_mem (List.getElem_mem h2)
    have hts : (cl.map (·.1)).take (j + 1) = (cl.map (·.1)).take j ++ [cl[j].1] := by
      rw [take_snoc _ _ (by simpa using h2), List.getElem_map]
    have hc3 := hcx _ hmem
    have hokc := hok _ hmem
    generalize (cl.map (·.1)).take j = M at *
    generalize cl[j] = c at *
    obtain ⟨c, ct⟩ := c
    dsimp only at hokc hc3 hts hmem
    rw [← metc_nil] at hcell
    repeat' first
      | with_reducible refine VC.seq' ?_
      | with_reducible refine VC.block' ?_
      | with_reducible refine VC.skip ?_
      | with_reducible refine VC.label ?_
      | with_reducible refine VC.scope ?_
      | with_reducible refine VC.exit ?_
      | with_reducible refine VC.ret ?_
      | with_reducible refine VL.nil ?_
      | ((first | with_reducible apply VC.plainL | with_reducible apply VC.readsL (by kernel_rfl) (by kernel_rfl) (by kernel_rfl)); (with_reducible apply VL.run tabOk); (· (simp (disch := omega) only [vset, wset, ints, bools, strs, undefM, Nat.reduceLT, Nat.reduceAdd, Nat.reduceBEq, Int.reduceToNat, vix_sl ty24 ty22, vload_c ty22 rfl, hcj, clM, vlen_sl ty22] <;> exact rfl)))
      | ((with_reducible apply VC.cond); (· (simp (disch := omega) only [vset, wset, ints, bools, strs, undefM, Nat.reduceLT, Nat.reduceAdd, Nat.reduceBEq, Int.reduceToNat, vix_sl ty24 ty22, vload_c ty22 rfl, hcj, clM, vlen_sl ty22] <;> exact rfl)); all_goals (intro hcond; try simp only [decide_eq_true_eq, decide_eq_false_iff_not, beq_iff_eq, beq_eq_false_iff_ne, bne_iff_ne, bne_eq_false_iff_eq, ne_eq, reduceCtorEq] at hcond))
      | simp only [qset, Nat.reduceEqDiff, reduceIte]
      | ((apply EndQ.ret1 rfl); (· (simp only [look_cons, Nat.reduceBEq, cond_true, cond_false] <;> exact rfl)))
      | ((apply EndQ.ret2 rfl); (· (simp only [look_cons, Nat.reduceBEq, cond_true, cond_false] <;> exact rfl)); (· (simp only [look_cons, Nat.reduceBEq, cond_true, cond_false] <;> exact rfl)))
      | (refine EndQ.ret0 rfl ?_)
      | (refine EndQ.nor0 rfl ?_)
    apply VC.loopK [47] [5, 7, 8, 39, 40, 41, 45, 46] (ms := fun i : Nat => [mi i]) (I := fun i O' => i ≤ c.length ∧ O'.hp b = some (.cells (metc (M ++ [c.take i]) m))) (μ := fun i => c.length - i) (s0 := 0)
    · (simp (disch := omega) only [vset, wset, ints, bools, strs, undefM, Nat.reduceLT, Nat.reduceAdd, Nat.reduceBEq, Int.reduceToNat, Int.natCast_zero, List.take_zero, List.map_nil, List.any_nil, Bool.or_false] <;> exact rfl)
    · (simp only [vset, wset, ints, bools, strs, undefM, Nat.reduceLT, Nat.reduceAdd, Nat.reduceBEq, Int.reduceToNat] <;> exact rfl)
    · exact ⟨by omega, hcell⟩
    clear hcell
    rintro i O6 ⟨hi, hcell⟩
    by_cases h3 : i < c.length
    · have hokn := hokc c[i] (List.getElem_mem h3)
      have hv : max c[i] (-c[i]) < 2000 + m := by
        rcases hokn with ⟨_, h⟩ | ⟨y, hy, h⟩
        · exact h
        · have := hxs y hy; omega
      by_cases hv2 : max c[i] (-c[i]) ≥ 2000
      · repeat' first
          | with_reducible refine VC.seq' ?_
          | with_reducible refine VC.block' ?_
          | with_reducible refine VC.skip ?_
          | with_reducible refine VC.label ?_
          | with_reducible refine VC.scope ?_
          | with_reducible refine VC.exit ?_
          | with_reducible refine VC.ret ?_
          | with_reducible refine VL.nil ?_
          | ((first | with_reducible apply VC.plainL | with_reducible apply VC.readsL (by kernel_rfl) (by kernel_rfl) (by kernel_rfl)); (with_reducible apply VL.run tabOk); (· (simp (disch := omega) only [vset, wset, ints, bools, strs, undefM, Nat.reduceLT, Nat.reduceAdd, Nat.reduceBEq, Int.reduceToNat, vix_sl ty22 ty3, vload_c ty3 rfl, vlen_sl ty22] <;> exact rfl)))
          | ((with_reducible apply VC.cond); (· (simp (disch := omega) only [vset, wset, ints, bools, strs, undefM, Nat.reduceLT, Nat.reduceAdd, Nat.reduceBEq, Int.reduceToNat, vix_sl ty22 ty3, vload_c ty3 rfl, vlen_sl ty22] <;> exact rfl)); all_goals (intro hcond; try simp only [decide_eq_true_eq, decide_eq_false_iff_not, beq_iff_eq, beq_eq_false_iff_ne, bne_iff_ne, bne_eq_false_iff_eq, ne_eq, reduceCtorEq] at hcond))
          | simp only [qset, Nat.reduceEqDiff, reduceIte]
          | ((apply EndQ.ret1 rfl); (· (simp only [look_cons, Nat.reduceBEq, cond_true, cond_false] <;> exact rfl)))
          | ((apply EndQ.ret2 rfl); (· (simp only [look_cons, Nat.reduceBEq, cond_true, cond_false] <;> exact rfl)); (· (simp only [look_cons, Nat.reduceBEq, cond_true, cond_false] <;> exact rfl)))
          | (refine EndQ.ret0 rfl ?_)
          | (refine EndQ.nor0 rfl ?_)
        apply VC.loopK [14, 64] [5, 7, 8, 13, 39, 40, 41, 45, 46, 47, 62, 63] (ms := fun s : Nat × Bool => [mb s.2, mi s.1]) (I := fun s O' => s.1 ≤ xs.length ∧ s.2 = (decide (max c[i] (-c[i]) ≥ 2000) || (xs.take s.1).any fun y => decide (max c[i] (-c[i]) = max y (-y))) ∧ O' = O6) (μ := fun s => xs.length - s.1) (s0 := (0, decide (max c[i] (-c[i]) ≥ 2000)))
        · (simp (disch := omega) only [vset, wset, ints, bools, strs, undefM, Nat.reduceLT, Nat.reduceAdd, Nat.reduceBEq, Int.reduceToNat, Int.natCast_zero, List.take_zero, List.map_nil, List.any_nil, Bool.or_false] <;> exact rfl)
        · (simp only [vset, wset, ints, bools, strs, undefM, Nat.reduceLT, Nat.reduceAdd, Nat.reduceBEq, Int.reduceToNat] <;> exact rfl)
        · exact ⟨by simp, by simp, rfl⟩
        rintro ⟨t, bb⟩ O7 ⟨ht, hbb, rfl⟩
        dsimp only at ht hbb
        by_cases h4 : t < xs.length
        · have hb := hxs xs[t] (List.getElem_mem h4)
          have hstep : (xs.take (t + 1)).any (fun y => decide (max c[i] (-c[i]) = max y (-y))) = ((xs.take t).any (fun y => decide (max c[i] (-c[i]) = max y (-y))) || decide (max c[i] (-c[i]) = max xs[t] (-xs[t]))) := by
            rw [take_snoc _ _ h4, List.any_append, List.any_cons, List.any_nil, Bool.or_false]
          by_cases he : max c[i] (-c[i]) = max xs[t] (-xs[t])
          · have hq : (max c[i] (-c[i]) == max xs[t] (-xs[t])) = true := by simpa using he
            try (exfalso; omega)
            all_goals cases bb
            all_goals
              repeat' first
                | with_reducible refine VC.seq' ?_
                | with_reducible refine VC.block' ?_
                | with_reducible refine VC.skip ?_
                | with_reducible refine VC.label ?_
                | with_reducible refine VC.scope ?_
                | with_reducible refine VC.exit ?_
                | with_reducible refine VC.ret ?_
                | with_reducible refine VL.nil ?_
                | ((first | with_reducible apply VC.plainL | with_reducible apply VC.readsL (by kernel_rfl) (by kernel_rfl) (by kernel_rfl)); (with_reducible apply VL.run tabOk); (· (simp (disch := omega) only [vset, wset, ints, bools, strs, undefM, Nat.reduceLT, Nat.reduceAdd, Nat.reduceBEq, Int.reduceToNat, vix_sl ty22 ty3, vload_c ty3 rfl, hq] <;> exact rfl)))
                | ((with_reducible apply VC.cond); (· (simp (disch := omega) only [vset, wset, ints, bools, strs, undefM, Nat.reduceLT, Nat.reduceAdd, Nat.reduceBEq, Int.reduceToNat, vix_sl ty22 ty3, vload_c ty3 rfl, hq] <;> exact rfl)); all_goals (intro hcond; try simp only [decide_eq_true_eq, decide_eq_false_iff_not, beq_iff_eq, beq_eq_false_iff_ne, bne_iff_ne, bne_eq_false_iff_eq, ne_eq, reduceCtorEq] at hcond))
                | simp only [qset, Nat.reduceEqDiff, reduceIte]
                | ((apply EndQ.ret1 rfl); (· (simp only [look_cons, Nat.reduceBEq, cond_true, cond_false] <;> exact rfl)))
                | ((apply EndQ.ret2 rfl); (· (simp only [look_cons, Nat.reduceBEq, cond_true, cond_false] <;> exact rfl)); (· (simp only [look_cons, Nat.reduceBEq, cond_true, cond_false] <;> exact rfl)))
                | (refine EndQ.ret0 rfl ?_)
                | (refine EndQ.nor0 rfl ?_)
              refine ⟨?_, (t + 1, true), ?_, ?_, by dsimp only; omega⟩
              · (simp only [vset, wset, ints, bools, strs, undefM, Nat.reduceLT, Nat.reduceAdd, Nat.reduceBEq, Int.reduceToNat] <;> exact rfl)
              · (simp (disch := omega) only [vset, wset, ints, bools, strs, undefM, Nat.reduceLT, Nat.reduceAdd, Nat.reduceBEq, Int.reduceToNat, Int.natCast_add, Int.cast_ofNat_Int] <;> first | done | exact rfl)
              refine ⟨by dsimp only; omega, ?_, rfl⟩
              dsimp only
              rw [hstep, decide_eq_true he, Bool.or_true, Bool.or_true]
          · cases bb
            · repeat' first
                | with_reducible refine VC.seq' ?_
                | with_reducible refine VC.block' ?_
                | with_reducible refine VC.skip ?_
                | with_reducible refine VC.label ?_
                | with_reducible refine VC.scope ?_
                | with_reducible refine VC.exit ?_
                | with_reducible refine VC.ret ?_
                | with_reducible refine VL.nil ?_
                | ((first | with_reducible apply VC.plainL | with_reducible apply VC.readsL (by kernel_rfl) (by kernel_rfl) (by kernel_rfl)); (with_reducible apply VL.run tabOk); (· (simp (disch := omega) only [vset, wset, ints, bools, strs, undefM, Nat.reduceLT, Nat.reduceAdd, Nat.reduceBEq, Int.reduceToNat, vix_sl ty22 ty3, vload_c ty3 rfl, beqI_f] <;> exact rfl)))
                | ((with_reducible apply VC.cond); (· (simp (disch := omega) only [vset, wset, ints, bools, strs, undefM, Nat.reduceLT, Nat.reduceAdd, Nat.reduceBEq, Int.reduceToNat, vix_sl ty22 ty3, vload_c ty3 rfl, beqI_f] <;> exact rfl)); all_goals (intro hcond; try simp only [decide_eq_true_eq, decide_eq_false_iff_not, beq_iff_eq, beq_eq_false_iff_ne, bne_iff_ne, bne_eq_false_iff_eq, ne_eq, reduceCtorEq] at hcond))
                | simp only [qset, Nat.reduceEqDiff, reduceIte]
                | ((apply EndQ.ret1 rfl); (· (simp only [look_cons, Nat.reduceBEq, cond_true, cond_false] <;> exact rfl)))
                | ((apply EndQ.ret2 rfl); (· (simp only [look_cons, Nat.reduceBEq, cond_true, cond_false] <;> exact rfl)); (· (simp only [look_cons, Nat.reduceBEq, cond_true, cond_false] <;> exact rfl)))
                | (refine EndQ.ret0 rfl ?_)
                | (refine EndQ.nor0 rfl ?_)
              refine ⟨?_, (t + 1, false), ?_, ?_, by dsimp only; omega⟩
              · (simp only [vset, wset, ints, bools, strs, undefM, Nat.reduceLT, Nat.reduceAdd, Nat.reduceBEq, Int.reduceToNat] <;> exact rfl)
              · (simp (disch := omega) only [vset, wset, ints, bools, strs, undefM, Nat.reduceLT, Nat.reduceAdd, Nat.reduceBEq, Int.reduceToNat, Int.natCast_add, Int.cast_ofNat_Int] <;> first | done | exact rfl)
              refine ⟨by dsimp only; omega, ?_, rfl⟩
              dsimp only
              rw [hstep, decide_eq_false he, Bool.or_false]; exact hbb
            · repeat' first
                | with_reducible refine VC.seq' ?_
                | with_reducible refine VC.block' ?_
                | with_reducible refine VC.skip ?_
                | with_reducible refine VC.label ?_
                | with_reducible refine VC.scope ?_
                | with_reducible refine VC.exit ?_
                | with_reducible refine VC.ret ?_
                | with_reducible refine VL.nil ?_
                | ((first | with_reducible apply VC.plainL | with_reducible apply VC.readsL (by kernel_rfl) (by kernel_rfl) (by kernel_rfl)); (with_reducible apply VL.run tabOk); (· (simp (disch := omega) only [vset, wset, ints, bools, strs, undefM, Nat.reduceLT, Nat.reduceAdd, Nat.reduceBEq, Int.reduceToNat, vix_sl ty22 ty3, vload_c ty3 rfl, beqI_f] <;> exact rfl)))
                | ((with_reducible apply VC.cond); (· (simp (disch := omega) only [vset, wset, ints, bools, strs, undefM, Nat.reduceLT, Nat.reduceAdd, Nat.reduceBEq, Int.reduceToNat, vix_sl ty22 ty3, vload_c ty3 rfl, beqI_f] <;> exact rfl)); all_goals (intro hcond; try simp only [decide_eq_true_eq, decide_eq_false_iff_not, beq_iff_eq, beq_eq_false_iff_ne, bne_iff_ne, bne_eq_false_iff_eq, ne_eq, reduceCtorEq] at hcond))
                | simp only [qset, Nat.reduceEqDiff, reduceIte]
                | ((apply EndQ.ret1 rfl); (· (simp only [look_cons, Nat.reduceBEq, cond_true, cond_false] <;> exact rfl)))
                | ((apply EndQ.ret2 rfl); (· (simp only [look_cons, Nat.reduceBEq, cond_true, cond_false] <;> exact rfl)); (· (simp only [look_cons, Nat.reduceBEq, cond_true, cond_false] <;> exact rfl)))
                | (refine EndQ.ret0 rfl ?_)
                | (refine EndQ.nor0 rfl ?_)
              refine ⟨?_, (t + 1, true), ?_, ?_, by dsimp only; omega⟩
              · (simp only [vset, wset, ints, bools, strs, undefM, Nat.reduceLT, Nat.reduceAdd, Nat.reduceBEq, Int.reduceToNat] <;> exact rfl)
              · (simp (disch := omega) only [vset, wset, ints, bools, strs, undefM, Nat.reduceLT, Nat.reduceAdd, Nat.reduceBEq, Int.reduceToNat, Int.natCast_add, Int.cast_ofNat_Int] <;> first | done | exact rfl)
              refine ⟨by dsimp only; omega, ?_, rfl⟩
              dsimp only
              rw [hstep, decide_eq_false he, Bool.or_false]; exact hbb
        have hbt : bb = true := by
          rw [hbb, List.take_of_length_le (by omega)]
          rcases hokn with ⟨h, _⟩ | ⟨y, hy, h⟩
          · rw [decide_eq_true h, Bool.true_or]
          · rw [Bool.or_eq_true]; right
            exact List.any_eq_true.2 ⟨y, hy, decide_eq_true h⟩
        clear hbb
        subst hbt
        have hset := metc_set M (c.take i) c[i] m hv2
        rw [← take_snoc _ _ h3] at hset
        have hcl2 : (max c[i] (-c[i]) - 2000).toNat < (metc (M ++ [c.take i]) m).length := by rw [metc_len]; omega
        repeat' first
          | with_reducible refine VC.seq' ?_
          | with_reducible refine VC.block' ?_
          | with_reducible refine VC.skip ?_
          | with_reducible refine VC.label ?_
          | with_reducible refine VC.scope ?_
          | with_reducible refine VC.exit ?_
          | with_reducible refine VC.ret ?_
          | with_reducible refine VL.nil ?_
          | ((first | with_reducible apply VC.plainL | with_reducible apply VC.readsL (by kernel_rfl) (by kernel_rfl) (by kernel_rfl)); (with_reducible apply VL.run tabOk); (· (simp (disch := omega) only [vset, wset, ints, bools, strs, undefM, Nat.reduceLT, Nat.reduceAdd, Nat.reduceBEq, Int.reduceToNat, vix_asl ty27 ty4, vstore_pv ty4 hcell hcl2] <;> exact rfl)))
          | ((with_reducible apply VC.cond); (· (simp (disch := omega) only [vset, wset, ints, bools, strs, undefM, Nat.reduceLT, Nat.reduceAdd, Nat.reduceBEq, Int.reduceToNat, vix_asl ty27 ty4, vstore_pv ty4 hcell hcl2] <;> exact rfl)); all_goals (intro hcond; try simp only [decide_eq_true_eq, decide_eq_false_iff_not, beq_iff_eq, beq_eq_false_iff_ne, bne_iff_ne, bne_eq_false_iff_eq, ne_eq, reduceCtorEq] at hcond))
          | simp only [qset, Nat.reduceEqDiff, reduceIte]
          | ((apply EndQ.ret1 rfl); (· (simp only [look_cons, Nat.reduceBEq, cond_true, cond_false] <;> exact rfl)))
          | ((apply EndQ.ret2 rfl); (· (simp only [look_cons, Nat.reduceBEq, cond_true, cond_false] <;> exact rfl)); (· (simp only [look_cons, Nat.reduceBEq, cond_true, cond_false] <;> exact rfl)))
          | (refine EndQ.ret0 rfl ?_)
          | (refine EndQ.nor0 rfl ?_)
        refine ⟨?_, i + 1, ?_, ?_, by dsimp only; omega⟩
        · (simp only [vset, wset, ints, bools, strs, undefM, Nat.reduceLT, Nat.reduceAdd, Nat.reduceBEq, Int.reduceToNat] <;> exact rfl)
        · (simp (disch := omega) only [vset, wset, ints, bools, strs, undefM, Nat.reduceLT, Nat.reduceAdd, Nat.reduceBEq, Int.reduceToNat, Int.natCast_add, Int.cast_ofNat_Int] <;> first | done | exact rfl)
        refine ⟨by omega, ?_⟩
        rw [← hset]
        exact upd_same _ _ _
      · repeat' first
          | with_reducible refine VC.seq' ?_
          | with_reducible refine VC.block' ?_
          | with_reducible refine VC.skip ?_
          | with_reducible refine VC.label ?_
          | with_reducible refine VC.scope ?_
          | with_reducible refine VC.exit ?_
          | with_reducible refine VC.ret ?_
          | with_reducible refine VL.nil ?_
          | ((first | with_reducible apply VC.plainL | with_reducible apply VC.readsL (by kernel_rfl) (by kernel_rfl) (by kernel_rfl)); (with_reducible apply VL.run tabOk); (· (simp (disch := omega) only [vset, wset, ints, bools, strs, undefM, Nat.reduceLT, Nat.reduceAdd, Nat.reduceBEq, Int.reduceToNat, vix_sl ty22 ty3, vload_c ty3 rfl, vlen_sl ty22] <;> exact rfl)))
          | ((with_reducible apply VC.cond); (· (simp (disch := omega) only [vset, wset, ints, bools, strs, undefM, Nat.reduceLT, Nat.reduceAdd, Nat.reduceBEq, Int.reduceToNat, vix_sl ty22 ty3, vload_c ty3 rfl, vlen_sl ty22] <;> exact rfl)); all_goals (intro hcond; try simp only [decide_eq_true_eq, decide_eq_false_iff_not, beq_iff_eq, beq_eq_false_iff_ne, bne_iff_ne, bne_eq_false_iff_eq, ne_eq, reduceCtorEq] at hcond))
          | simp only [qset, Nat.reduceEqDiff, reduceIte]
          | ((apply EndQ.ret1 rfl); (· (simp only [look_cons, Nat.reduceBEq, cond_true, cond_false] <;> exact rfl)))
          | ((apply EndQ.ret2 rfl); (· (simp only [look_cons, Nat.reduceBEq, cond_true, cond_false] <;> exact rfl)); (· (simp only [look_cons, Nat.reduceBEq, cond_true, cond_false] <;> exact rfl)))
          | (refine EndQ.ret0 rfl ?_)
          | (refine EndQ.nor0 rfl ?_)
        apply VC.loopK [14, 64] [5, 7, 8, 13, 39, 40, 41, 45, 46, 47, 62, 63] (ms := fun s : Nat × Bool => [mb s.2, mi s.1]) (I := fun s O' => s.1 ≤ xs.length ∧ s.2 = (decide (max c[i] (-c[i]) ≥ 2000) || (xs.take s.1).any fun y => decide (max c[i] (-c[i]) = max y (-y))) ∧ O' = O6) (μ := fun s => xs.length - s.1) (s0 := (0, decide (max c[i] (-c[i]) ≥ 2000)))
        · (simp (disch := omega) only [vset, wset, ints, bools, strs, undefM, Nat.reduceLT, Nat.reduceAdd, Nat.reduceBEq, Int.reduceToNat, Int.natCast_zero, List.take_zero, List.map_nil, List.any_nil, Bool.or_false] <;> exact rfl)
        · (simp only [vset, wset, ints, bools, strs, undefM, Nat.reduceLT, Nat.reduceAdd, Nat.reduceBEq, Int.reduceToNat] <;> exact rfl)
        · exact ⟨by simp, by simp, rfl⟩
        rintro ⟨t, bb⟩ O7 ⟨ht, hbb, rfl⟩
        dsimp only at ht hbb
        by_cases h4 : t < xs.length
        · have hb := hxs xs[t] (List.getElem_mem h4)
          have hstep : (xs.take (t + 1)).any (fun y => decide (max c[i] (-c[i]) = max y (-y))) = ((xs.take t).any (fun y => decide (max c[i] (-c[i]) = max y (-y))) || decide (max c[i] (-c[i]) = max xs[t] (-xs[t]))) := by
            rw [take_snoc _ _ h4, List.any_append, List.any_cons, List.any_nil, Bool.or_false]
          by_cases he : max c[i] (-c[i]) = max xs[t] (-xs[t])
          · have hq : (max c[i] (-c[i]) == max xs[t] (-xs[t])) = true := by simpa using he
            try (exfalso; omega)
            all_goals cases bb
            all_goals
              repeat' first
                | with_reducible refine VC.seq' ?_
                | with_reducible refine VC.block' ?_
                | with_reducible refine VC.skip ?_
                | with_reducible refine VC.label ?_
                | with_reducible refine VC.scope ?_
                | with_reducible refine VC.exit ?_
                | with_reducible refine VC.ret ?_
                | with_reducible refine VL.nil ?_
                | ((first | with_reducible apply VC.plainL | with_reducible apply VC.readsL (by kernel_rfl) (by kernel_rfl) (by kernel_rfl)); (with_reducible apply VL.run tabOk); (· (simp (disch := omega) only [vset, wset, ints, bools, strs, undefM, Nat.reduceLT, Nat.reduceAdd, Nat.reduceBEq, Int.reduceToNat, vix_sl ty22 ty3, vload_c ty3 rfl, hq] <;> exact rfl)))
                | ((with_reducible apply VC.cond); (· (simp (disch := omega) only [vset, wset, ints, bools, strs, undefM, Nat.reduceLT, Nat.reduceAdd, Nat.reduceBEq, Int.reduceToNat, vix_sl ty22 ty3, vload_c ty3 rfl, hq] <;> exact rfl)); all_goals (intro hcond; try simp only [decide_eq_true_eq, decide_eq_false_iff_not, beq_iff_eq, beq_eq_false_iff_ne, bne_iff_ne, bne_eq_false_iff_eq, ne_eq, reduceCtorEq] at hcond))
                | simp only [qset, Nat.reduceEqDiff, reduceIte]
                | ((apply EndQ.ret1 rfl); (· (simp only [look_cons, Nat.reduceBEq, cond_true, cond_false] <;> exact rfl)))
                | ((apply EndQ.ret2 rfl); (· (simp only [look_cons, Nat.reduceBEq, cond_true, cond_false] <;> exact rfl)); (· (simp only [look_cons, Nat.reduceBEq, cond_true, cond_false] <;> exact rfl)))
                | (refine EndQ.ret0 rfl ?_)
                | (refine EndQ.nor0 rfl ?_)
              refine ⟨?_, (t + 1, true), ?_, ?_, by dsimp only; omega⟩
              · (simp only [vset, wset, ints, bools, strs, undefM, Nat.reduceLT, Nat.reduceAdd, Nat.reduceBEq, Int.reduceToNat] <;> exact rfl)
              · (simp (disch := omega) only [vset, wset, ints, bools, strs, undefM, Nat.reduceLT, Nat.reduceAdd, Nat.reduceBEq, Int.reduceToNat, Int.natCast_add, Int.cast_ofNat_Int] <;> first | done | exact rfl)
              refine ⟨by dsimp only; omega, ?_, rfl⟩
              dsimp only
              rw [hstep, decide_eq_true he, Bool.or_true, Bool.or_true]
          · cases bb
            · repeat' first
                | with_reducible refine VC.seq' ?_
                | with_reducible refine VC.block' ?_
                | with_reducible refine VC.skip ?_
                | with_reducible refine VC.label ?_
                | with_reducible refine VC.scope ?_
                | with_reducible refine VC.exit ?_
                | with_reducible refine VC.ret ?_
                | with_reducible refine VL.nil ?_
                | ((first | with_reducible apply VC.plainL | with_reducible apply VC.readsL (by kernel_rfl) (by kernel_rfl) (by kernel_rfl)); (with_reducible apply VL.run tabOk); (· (simp (disch := omega) only [vset, wset, ints, bools, strs, undefM, Nat.reduceLT, Nat.reduceAdd, Nat.reduceBEq, Int.reduceToNat, vix_sl ty22 ty3, vload_c ty3 rfl, beqI_f] <;> exact rfl)))
                | ((with_reducible apply VC.cond); (· (simp (disch := omega) only [vset, wset, ints, bools, strs, undefM, Nat.reduceLT, Nat.reduceAdd, Nat.reduceBEq, Int.reduceToNat, vix_sl ty22 ty3, vload_c ty3 rfl, beqI_f] <;> exact rfl)); all_goals (intro hcond; try simp only [decide_eq_true_eq, decide_eq_false_iff_not, beq_iff_eq, beq_eq_false_iff_ne, bne_iff_ne, bne_eq_false_iff_eq, ne_eq, reduceCtorEq] at hcond))
                | simp only [qset, Nat.reduceEqDiff, reduceIte]
                | ((apply EndQ.ret1 rfl); (· (simp only [look_cons, Nat.reduceBEq, cond_true, cond_false] <;> exact rfl)))
                | ((apply EndQ.ret2 rfl); (· (simp only [look_cons, Nat.reduceBEq, cond_true, cond_false] <;> exact rfl)); (· (simp only [look_cons, Nat.reduceBEq, cond_true, cond_false] <;> exact rfl)))
                | (refine EndQ.ret0 rfl ?_)
                | (refine EndQ.nor0 rfl ?_)
              refine ⟨?_, (t + 1, false), ?_, ?_, by dsimp only; omega⟩
              · (simp only [vset, wset, ints, bools, strs, undefM, Nat.reduceLT, Nat.reduceAdd, Nat.reduceBEq, Int.reduceToNat] <;> exact rfl)
              · (simp (disch := omega) only [vset, wset, ints, bools, strs, undefM, Nat.reduceLT, Nat.reduceAdd, Nat.reduceBEq, Int.reduceToNat, Int.natCast_add, Int.cast_ofNat_Int] <;> first | done | exact rfl)
              refine ⟨by dsimp only; omega, ?_, rfl⟩
              dsimp only
              rw [hstep, decide_eq_false he, Bool.or_false]; exact hbb
            · repeat' first
                | with_reducible refine VC.seq' ?_
                | with_reducible refine VC.block' ?_
                | with_reducible refine VC.skip ?_
                | with_reducible refine VC.label ?_
                | with_reducible refine VC.scope ?_
                | with_reducible refine VC.exit ?_
                | with_reducible refine VC.ret ?_
                | with_reducible refine VL.nil ?_
                | ((first | with_reducible apply VC.plainL | with_reducible apply VC.readsL (by kernel_rfl) (by kernel_rfl) (by kernel_rfl)); (with_reducible apply VL.run tabOk); (· (simp (disch := omega) only [vset, wset, ints, bools, strs, undefM, Nat.reduceLT, Nat.reduceAdd, Nat.reduceBEq, Int.reduceToNat, vix_sl ty22 ty3, vload_c ty3 rfl, beqI_f] <;> exact rfl)))
                | ((with_reducible apply VC.cond); (· (simp (disch := omega) only [vset, wset, ints, bools, strs, undefM, Nat.reduceLT, Nat.reduceAdd, Nat.reduceBEq, Int.reduceToNat, vix_sl ty22 ty3, vload_c ty3 rfl, beqI_f] <;> exact rfl)); all_goals (intro hcond; try simp only [decide_eq_true_eq, decide_eq_false_iff_not, beq_iff_eq, beq_eq_false_iff_ne, bne_iff_ne, bne_eq_false_iff_eq, ne_eq, reduceCtorEq] at hcond))
                | simp only [qset, Nat.reduceEqDiff, reduceIte]
                | ((apply EndQ.ret1 rfl); (· (simp only [look_cons, Nat.reduceBEq, cond_true, cond_false] <;> exact rfl)))
                | ((apply EndQ.ret2 rfl); (· (simp only [look_cons, Nat.reduceBEq, cond_true, cond_false] <;> exact rfl)); (· (simp only [look_cons, Nat.reduceBEq, cond_true, cond_false] <;> exact rfl)))
                | (refine EndQ.ret0 rfl ?_)
                | (refine EndQ.nor0 rfl ?_)
              refine ⟨?_, (t + 1, true), ?_, ?_, by dsimp only; omega⟩
              · (simp only [vset, wset, ints, bools, strs, undefM, Nat.reduceLT, Nat.reduceAdd, Nat.reduceBEq, Int.reduceToNat] <;> exact rfl)
              · (simp (disch := omega) only [vset, wset, ints, bools, strs, undefM, Nat.reduceLT, Nat.reduceAdd, Nat.reduceBEq, Int.reduceToNat, Int.natCast_add, Int.cast_ofNat_Int] <;> first | done | exact rfl)
              refine ⟨by dsimp only; omega, ?_, rfl⟩
              dsimp only
              rw [hstep, decide_eq_false he, Bool.or_false]; exact hbb
        have hbt : bb = true := by
          rw [hbb, List.take_of_length_le (by omega)]
          rcases hokn with ⟨h, _⟩ | ⟨y, hy, h⟩
          · rw [decide_eq_true h, Bool.true_or]
          · rw [Bool.or_eq_true]; right
            exact List.any_eq_true.2 ⟨y, hy, decide_eq_true h⟩
        clear hbb
        subst hbt
        have hold := metc_old M (c.take i) c[i] m (by omega)
        rw [← take_snoc _ _ h3] at hold
        repeat' first
          | with_reducible refine VC.seq' ?_
          | with_reducible refine VC.block' ?_
          | with_reducible refine VC.skip ?_
          | with_reducible refine VC.label ?_
          | with_reducible refine VC.scope ?_
          | with_reducible refine VC.exit ?_
          | with_reducible refine VC.ret ?_
          | with_reducible refine VL.nil ?_
          | ((first | with_reducible apply VC.plainL | with_reducible apply VC.readsL (by kernel_rfl) (by kernel_rfl) (by kernel_rfl)); (with_reducible apply VL.run tabOk); (· (simp (disch := omega) only [vset, wset, ints, bools, strs, undefM, Nat.reduceLT, Nat.reduceAdd, Nat.reduceBEq, Int.reduceToNat] <;> exact rfl)))
          | ((with_reducible apply VC.cond); (· (simp (disch := omega) only [vset, wset, ints, bools, strs, undefM, Nat.reduceLT, Nat.reduceAdd, Nat.reduceBEq, Int.reduceToNat] <;> exact rfl)); all_goals (intro hcond; try simp only [decide_eq_true_eq, decide_eq_false_iff_not, beq_iff_eq, beq_eq_false_iff_ne, bne_iff_ne, bne_eq_false_iff_eq, ne_eq, reduceCtorEq] at hcond))
          | simp only [qset, Nat.reduceEqDiff, reduceIte]
          | ((apply EndQ.ret1 rfl); (· (simp only [look_cons, Nat.reduceBEq, cond_true, cond_false] <;> exact rfl)))
          | ((apply EndQ.ret2 rfl); (· (simp only [look_cons, Nat.reduceBEq, cond_true, cond_false] <;> exact rfl)); (· (simp only [look_cons, Nat.reduceBEq, cond_true, cond_false] <;> exact rfl)))
          | (refine EndQ.ret0 rfl ?_)
          | (refine EndQ.nor0 rfl ?_)
        refine ⟨?_, i + 1, ?_, ?_, by dsimp only; omega⟩
        · (simp only [vset, wset, ints, bools, strs, undefM, Nat.reduceLT, Nat.reduceAdd, Nat.reduceBEq, Int.reduceToNat] <;> exact rfl)
        · (simp (disch := omega) only [vset, wset, ints, bools, strs, undefM, Nat.reduceLT, Nat.reduceAdd, Nat.reduceBEq, Int.reduceToNat, Int.natCast_add, Int.cast_ofNat_Int] <;> first | done | exact rfl)
        refine ⟨by omega, ?_⟩
        rw [hold]
        exact hcell
    · obtain rfl : i = c.length := by omega
      rw [List.take_length, ← hts] at hcell
      repeat' first
        | with_reducible refine VC.seq' ?_
        | with_reducible refine VC.block' ?_
        | with_reducible refine VC.skip ?_
        | with_reducible refine VC.label ?_
        | with_reducible refine VC.scope ?_
        | with_reducible refine VC.exit ?_
        | with_reducible refine VC.ret ?_
        | with_reducible refine VL.nil ?_
        | ((first | with_reducible apply VC.plainL | with_reducible apply VC.readsL (by kernel_rfl) (by kernel_rfl) (by kernel_rfl)); (with_reducible apply VL.run tabOk); (· (simp (disch := omega) only [vset, wset, ints, bools, strs, undefM, Nat.reduceLT, Nat.reduceAdd, Nat.reduceBEq, Int.reduceToNat] <;> exact rfl)))
        | ((with_reducible apply VC.cond); (· (simp (disch := omega) only [vset, wset, ints, bools, strs, undefM, Nat.reduceLT, Nat.reduceAdd, Nat.reduceBEq, Int.reduceToNat] <;> exact rfl)); all_goals (intro hcond; try simp only [decide_eq_true_eq, decide_eq_false_iff_not, beq_iff_eq, beq_eq_false_iff_ne, bne_iff_ne, bne_eq_false_iff_eq, ne_eq, reduceCtorEq] at hcond))
        | simp only [qset, Nat.reduceEqDiff, reduceIte]
        | ((apply EndQ.ret1 rfl); (· (simp only [look_cons, Nat.reduceBEq, cond_true, cond_false] <;> exact rfl)))
        | ((apply EndQ.ret2 rfl); (· (simp only [look_cons, Nat.reduceBEq, cond_true, cond_false] <;> exact rfl)); (· (simp only [look_cons, Nat.reduceBEq, cond_true, cond_false] <;> exact rfl)))
        | (refine EndQ.ret0 rfl ?_)
        | (refine EndQ.nor0 rfl ?_)
      refine ⟨?_, j + 1, ?_, ?_, by dsimp only; omega⟩
      · (simp only [vset, wset, ints, bools, strs, undefM, Nat.reduceLT, Nat.reduceAdd, Nat.reduceBEq, Int.reduceToNat] <;> exact rfl)
      · (simp (disch := omega) only [vset, wset, ints, bools, strs, undefM, Nat.reduceLT, Nat.reduceAdd, Nat.reduceBEq, Int.reduceToNat, Int.natCast_add, Int.cast_ofNat_Int] <;> first | done | exact rfl)
      exact ⟨by omega, hcell⟩
  · obtain rfl : j = cl.length := by omega
    rw [List.take_of_length_le (by simp)] at hcell
    have hseen : ∀ p, p < m → (metc (cl.map (·.1)) m)[p]? = some (.v (.bool true)) := fun p hp => by
      obtain ⟨c, hc, n, hn, e⟩ := hall p (by omega)
      rw [metc, List.getElem?_map, List.getElem?_range hp]
      have : seen (cl.map (·.1)) p = true := List.any_eq_true.2 ⟨c, hc, List.any_eq_true.2 ⟨n, hn, decide_eq_true e⟩⟩
      rw [Option.map_some, this]; rfl
    repeat' first
      | with_reducible refine VC.seq' ?_
      | with_reducible refine VC.block' ?_
      | with_reducible refine VC.skip ?_
      | with_reducible refine VC.label ?_
      | with_reducible refine VC.scope ?_
      | with_reducible refine VC.exit ?_
      | with_reducible refine VC.ret ?_
      | with_reducible refine VL.nil ?_
      | ((first | with_reducible apply VC.plainL | with_reducible apply VC.readsL (by kernel_rfl) (by kernel_rfl) (by kernel_rfl)); (with_reducible apply VL.run tabOk); (· (simp (disch := omega) only [vset, wset, ints, bools, strs, undefM, Nat.reduceLT, Nat.reduceAdd, Nat.reduceBEq, Int.reduceToNat, vlen_asl ty27] <;> exact rfl)))
      | ((with_reducible apply VC.cond); (· (simp (disch := omega) only [vset, wset, ints, bools, strs, undefM, Nat.reduceLT, Nat.reduceAdd, Nat.reduceBEq, Int.reduceToNat, vlen_asl ty27] <;> exact rfl)); all_goals (intro hcond; try simp only [decide_eq_true_eq, decide_eq_false_iff_not, beq_iff_eq, beq_eq_false_iff_ne, bne_iff_ne, bne_eq_false_iff_eq, ne_eq, reduceCtorEq] at hcond))
      | simp only [qset, Nat.reduceEqDiff, reduceIte]
      | ((apply EndQ.ret1 rfl); (· (simp only [look_cons, Nat.reduceBEq, cond_true, cond_false] <;> exact rfl)))
      | ((apply EndQ.ret2 rfl); (· (simp only [look_cons, Nat.reduceBEq, cond_true, cond_false] <;> exact rfl)); (· (simp only [look_cons, Nat.reduceBEq, cond_true, cond_false] <;> exact rfl)))
      | (refine EndQ.ret0 rfl ?_)
      | (refine EndQ.nor0 rfl ?_)
    apply VC.loopK [90] [88, 89] (ms := fun p : Nat => [mi p]) (I := fun p O' => p ≤ m ∧ O'.hp b = some (.cells (metc (cl.map (·.1)) m))) (μ := fun p => m - p) (s0 := 0)
    · (simp (disch := omega) only [vset, wset, ints, bools, strs, undefM, Nat.reduceLT, Nat.reduceAdd, Nat.reduceBEq, Int.reduceToNat, Int.natCast_zero, List.take_zero, List.map_nil, List.any_nil, Bool.or_false] <;> exact rfl)
    · (simp only [vset, wset, ints, bools, strs, undefM, Nat.reduceLT, Nat.reduceAdd, Nat.reduceBEq, Int.reduceToNat] <;> exact rfl)
    · exact ⟨by omega, hcell⟩
    clear hcell
    rintro p O6 ⟨hp, hcell⟩
    by_cases h3 : p < m
    · have hsp := hseen p h3
      repeat' first
        | with_reducible refine VC.seq' ?_
        | with_reducible refine VC.block' ?_
        | with_reducible refine VC.skip ?_
        | with_reducible refine VC.label ?_
        | with_reducible refine VC.scope ?_
        | with_reducible refine VC.exit ?_
        | with_reducible refine VC.ret ?_
        | with_reducible refine VL.nil ?_
        | ((first | with_reducible apply VC.plainL | with_reducible apply VC.readsL (by kernel_rfl) (by kernel_rfl) (by kernel_rfl)); (with_reducible apply VL.run tabOk); (· (simp (disch := omega) only [vset, wset, ints, bools, strs, undefM, Nat.reduceLT, Nat.reduceAdd, Nat.reduceBEq, Int.reduceToNat, vix_asl ty27 ty4, vload_p ty4 rfl hcell, hsp] <;> exact rfl)))
        | ((with_reducible apply VC.cond); (· (simp (disch := omega) only [vset, wset, ints, bools, strs, undefM, Nat.reduceLT, Nat.reduceAdd, Nat.reduceBEq, Int.reduceToNat, vix_asl ty27 ty4, vload_p ty4 rfl hcell, hsp] <;> exact rfl)); all_goals (intro hcond; try simp only [decide_eq_true_eq, decide_eq_false_iff_not, beq_iff_eq, beq_eq_false_iff_ne, bne_iff_ne, bne_eq_false_iff_eq, ne_eq, reduceCtorEq] at hcond))
        | simp only [qset, Nat.reduceEqDiff, reduceIte]
        | ((apply EndQ.ret1 rfl); (· (simp only [look_cons, Nat.reduceBEq, cond_true, cond_false] <;> exact rfl)))
        | ((apply EndQ.ret2 rfl); (· (simp only [look_cons, Nat.reduceBEq, cond_true, cond_false] <;> exact rfl)); (· (simp only [look_cons, Nat.reduceBEq, cond_true, cond_false] <;> exact rfl)))
        | (refine EndQ.ret0 rfl ?_)
        | (refine EndQ.nor0 rfl ?_)
      refine ⟨?_, p + 1, ?_, ?_, by dsimp only; omega⟩
      · (simp only [vset, wset, ints, bools, strs, undefM, Nat.reduceLT, Nat.reduceAdd, Nat.reduceBEq, Int.reduceToNat] <;> exact rfl)
      · (simp (disch := omega) only [vset, wset, ints, bools, strs, undefM, Nat.reduceLT, Nat.reduceAdd, Nat.reduceBEq, Int.reduceToNat, Int.natCast_add, Int.cast_ofNat_Int] <;> first | done | exact rfl)
      exact ⟨by omega, hcell⟩
    · repeat' first
        | with_reducible refine VC.seq' ?_
        | with_reducible refine VC.block' ?_
        | with_reducible refine VC.skip ?_
        | with_reducible refine VC.label ?_
        | with_reducible refine VC.scope ?_
        | with_reducible refine VC.exit ?_
        | with_reducible refine VC.ret ?_
        | with_reducible refine VL.nil ?_
        | ((first | with_reducible apply VC.plainL | with_reducible apply VC.readsL (by kernel_rfl) (by kernel_rfl) (by kernel_rfl)); (with_reducible apply VL.run tabOk); (· (simp (disch := omega) only [vset, wset, ints, bools, strs, undefM, Nat.reduceLT, Nat.reduceAdd, Nat.reduceBEq, Int.reduceToNat] <;> exact rfl)))
        | ((with_reducible apply VC.cond); (· (simp (disch := omega) only [vset, wset, ints, bools, strs, undefM, Nat.reduceLT, Nat.reduceAdd, Nat.reduceBEq, Int.reduceToNat] <;> exact rfl)); all_goals (intro hcond; try simp only [decide_eq_true_eq, decide_eq_false_iff_not, beq_iff_eq, beq_eq_false_iff_ne, bne_iff_ne, bne_eq_false_iff_eq, ne_eq, reduceCtorEq] at hcond))
        | simp only [qset, Nat.reduceEqDiff, reduceIte]
        | ((apply EndQ.ret1 rfl); (· (simp only [look_cons, Nat.reduceBEq, cond_true, cond_false] <;> exact rfl)))
        | ((apply EndQ.ret2 rfl); (· (simp only [look_cons, Nat.reduceBEq, cond_true, cond_false] <;> exact rfl)); (· (simp only [look_cons, Nat.reduceBEq, cond_true, cond_false] <;> exact rfl)))
        | (refine EndQ.ret0 rfl ?_)
        | (refine EndQ.nor0 rfl ?_)
      apply VL.callR (id := 15) (hE := Enters.of Try.func15 (by decide) (by decide)) (hR := lives_v O6)
      · exact rfl
      · (simp (disch := omega) only [vset, wset, ints, bools, strs, undefM, Nat.reduceLT, Nat.reduceAdd, Nat.reduceBEq, Int.reduceToNat] <;> exact rfl)
      · (simp (disch := omega) only [vset, wset, ints, bools, strs, undefM, Nat.reduceLT, Nat.reduceAdd, Nat.reduceBEq, Int.reduceToNat] <;> exact rfl)
      · exact rfl
      · exact rfl
      rintro _ O7 ⟨rfl, hge7⟩
      apply VL.run tabOk
      · (simp (disch := omega) only [vset, wset, ints, bools, strs, undefM, Nat.reduceLT, Nat.reduceAdd, Nat.reduceBEq, Int.reduceToNat] <;> exact rfl)
      repeat' first
        | with_reducible refine VC.seq' ?_
        | with_reducible refine VC.block' ?_
        | with_reducible refine VC.skip ?_
        | with_reducible refine VC.label ?_
        | with_reducible refine VC.scope ?_
        | with_reducible refine VC.exit ?_
        | with_reducible refine VC.ret ?_
        | with_reducible refine VL.nil ?_
        | ((first | with_reducible apply VC.plainL | with_reducible apply VC.readsL (by kernel_rfl) (by kernel_rfl) (by kernel_rfl)); (with_reducible apply VL.run tabOk); (· (simp (disch := omega) only [vset, wset, ints, bools, strs, undefM, Nat.reduceLT, Nat.reduceAdd, Nat.reduceBEq, Int.reduceToNat] <;> exact rfl)))
        | ((with_reducible apply VC.cond); (· (simp (disch := omega) only [vset, wset, ints, bools, strs, undefM, Nat.reduceLT, Nat.reduceAdd, Nat.reduceBEq, Int.reduceToNat] <;> exact rfl)); all_goals (intro hcond; try simp only [decide_eq_true_eq, decide_eq_false_iff_not, beq_iff_eq, beq_eq_false_iff_ne, bne_iff_ne, bne_eq_false_iff_eq, ne_eq, reduceCtorEq] at hcond))
        | simp only [qset, Nat.reduceEqDiff, reduceIte]
        | ((apply EndQ.ret1 rfl); (· (simp only [look_cons, Nat.reduceBEq, cond_true, cond_false] <;> exact rfl)))
        | ((apply EndQ.ret2 rfl); (· (simp only [look_cons, Nat.reduceBEq, cond_true, cond_false] <;> exact rfl)); (· (simp only [look_cons, Nat.reduceBEq, cond_true, cond_false] <;> exact rfl)))
        | (refine EndQ.ret0 rfl ?_)
        | (refine EndQ.nor0 rfl ?_)
      exact rfl
end Go.Proofs.Ytcfoongiffpnlaa
