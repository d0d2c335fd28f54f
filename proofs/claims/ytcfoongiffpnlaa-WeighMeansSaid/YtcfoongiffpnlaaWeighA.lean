/-
  The law WeighMeans, walked.
-/
import Derived.Test.YtcfoongiffpnlaaWeigh9
set_option linter.unusedVariables false
set_option linter.unusedSimpArgs false
namespace Go.Proofs.Ytcfoongiffpnlaa
open Go.RowKit

theorem tru_app {t e : List Bool} {n : Int} (h0 : n ≠ 0) (h : max n (-n) ≤ t.length) : tru n 0 (t ++ e) = tru n 0 t := by
  rw [tru_isT _ n h0, tru_isT _ n h0, isT_eq _ n h0, isT_eq _ n h0, List.getElem?_append_left (by omega)]
theorem units_all (t ts : List Bool) : (∀ c ∈ units t, clT ts c = true) ↔ ∀ i, i < t.length → tru (i + 1) 0 ts = t.getD i false := by
  simp only [units, List.mem_map, List.mem_range]
  have key : ∀ i : Nat, clT ts [if t.getD i false then (i : Int) + 1 else -((i : Int) + 1)] = true ↔ tru (i + 1) 0 ts = t.getD i false := fun i => by
    cases t.getD i false
    · simp only [Bool.false_eq_true, if_false, clT, List.any_cons, List.any_nil, Bool.or_false, tru_neg_pos ts _ (show (i : Int) + 1 ≠ 0 by omega)]
      simp
    · simp [clT]
  constructor
  · intro h i hi
    exact (key i).1 (h _ ⟨i, hi, rfl⟩)
  · rintro h c ⟨i, hi, rfl⟩
    exact (key i).2 (h i hi)
theorem units_self (t : List Bool) (e : List Bool) : ∀ c ∈ units t, clT (t ++ e) c = true := by
  rw [units_all]
  intro i hi
  have := tru_pos (t ++ e) 0 ((i : Int) + 1) (by omega)
  simp only [Int.natCast_zero, Int.sub_zero] at this
  rw [this, show ((i : Int) + 1 - 1).toNat = i by omega, List.getElem?_append_left hi, List.getD_eq_getElem?_getD]
theorem units_agree {t ts : List Bool} (h : ∀ c ∈ units t, clT ts c = true) {n : Int} (h0 : n ≠ 0) (hn : max n (-n) ≤ t.length) : tru n 0 ts = tru n 0 t := by
  rw [units_all] at h
  have pos : ∀ m : Int, 1 ≤ m → m ≤ t.length → tru m 0 ts = tru m 0 t := fun m h1 h2 => by
    have := h (m - 1).toNat (by omega)
    rw [show (((m - 1).toNat : Nat) : Int) + 1 = m by omega] at this
    have h3 := tru_pos t 0 m (by omega)
    simp only [Int.natCast_zero, Int.sub_zero] at h3
    rw [this, h3, List.getD_eq_getElem?_getD]
  by_cases hp : n > 0
  · exact pos n (by omega) (by omega)
  · have := pos (-n) (by omega) (by omega)
    rw [tru_neg_pos ts n h0, tru_neg_pos t n h0] at this
    simpa using this
theorem cnt_ct {t : List Bool} {xs : List Int} (hx : ∀ x ∈ xs, x ≠ 0) : cnt t xs = ct (tru · 0 t) xs := by
  rw [cnt, ct]
  congr 1
  apply List.filter_congr
  intro x hxm
  rw [tru_isT t x (hx x hxm)]
theorem ct_congr {T U : Int → Bool} {xs : List Int} (h : ∀ x ∈ xs, T x = U x) : ct T xs = ct U xs := by
  rw [ct, ct]; congr 1; exact List.filter_congr h

theorem means {xs : List Int} {k : Int} {t : List Bool} (hx : ∀ x ∈ xs, (1 ≤ x ∧ x ≤ 5) ∨ (-5 ≤ x ∧ x ≤ -1)) (ht : t.length = 5) :
    someB ((am xs k 6).1 ++ units t) ((am xs k 6).2 - 1).toNat = decide ((cnt t xs : Int) ≤ k) := by
  have hx0 : ∀ x ∈ xs, x ≠ 0 := fun x h => by have := hx x h; omega
  have hx5 : ∀ x ∈ xs, max x (-x) ≤ t.length := fun x h => by have := hx x h; omega
  have hcl : cnt t xs ≤ xs.length := by rw [cnt]; exact List.length_filter_le _ _
  rw [Bool.eq_iff_iff, someB_iff, decide_eq_true_eq]
  unfold am
  split
  · constructor
    · rintro ⟨ts, _, h⟩
      have := h [] (by simp)
      simp [clT] at this
    · intro h; omega
  split
  · constructor
    · intro _; omega
    · intro _
      refine ⟨t, by rw [ht]; rfl, fun c hc => ?_⟩
      have := units_self t [] c (by simpa using hc)
      rwa [List.append_nil] at this
  split
  · subst k
    rw [cnt_ct hx0]
    constructor
    · rintro ⟨ts, _, h⟩
      have hu := fun c hc => h c (List.mem_append_right _ hc)
      have : ct (tru · 0 t) xs = 0 := by
        rw [ct, List.length_eq_zero_iff, List.filter_eq_nil_iff]
        intro x hxm
        have h1 := h [-x] (List.mem_append_left _ (List.mem_map_of_mem hxm))
        simp only [clT, List.any_cons, List.any_nil, Bool.or_false, tru_neg_pos ts x (hx0 x hxm)] at h1
        rw [← units_agree hu (hx0 x hxm) (hx5 x hxm)]
        simpa using h1
      omega
    · intro h
      refine ⟨t, by rw [ht]; rfl, fun c hc => ?_⟩
      rcases List.mem_append.1 hc with hc | hc
      · obtain ⟨x, hxm, rfl⟩ := List.mem_map.1 hc
        have h0 : ct (tru · 0 t) xs = 0 := by omega
        rw [ct, List.length_eq_zero_iff, List.filter_eq_nil_iff] at h0
        have := h0 x hxm
        simp only [clT, List.any_cons, List.any_nil, Bool.or_false, tru_neg_pos t x (hx0 x hxm)]
        simpa using this
      · have := units_self t [] c hc
        rwa [List.append_nil] at this
  obtain ⟨K, rfl⟩ : ∃ K : Nat, k = K := ⟨k.toNat, by omega⟩
  have hK : 1 ≤ K := by omega
  have hKn : K < xs.length := by omega
  rw [cnt_ct hx0]
  constructor
  · rintro ⟨ts, _, h⟩
    have hu := fun c hc => h c (List.mem_append_right _ hc)
    have := sound hK hKn hx0 (by decide) (ts := ts) fun c hc => h c (List.mem_append_left _ hc)
    rw [ct_congr fun x hxm => units_agree hu (hx0 x hxm) (hx5 x hxm)] at this
    omega
  · intro h
    have hN : ((6 : Int) + ((xs.length : Int) - 1) * K - 1).toNat = 5 + (xs.length - 1) * K := by
      have : ((xs.length : Int) - 1) * K = (((xs.length - 1) * K : Nat) : Int) := by
        rw [Int.natCast_mul, Int.natCast_sub (by omega)]; rfl
      rw [this]; omega
    refine ⟨t ++ (List.range ((xs.length - 1) * K)).map fun q => decide (q % K + 1 ≤ ct (tru · 0 t) (xs.take (q / K + 1))), ?_, fun c hc => ?_⟩
    · rw [List.length_append, List.length_map, List.length_range, ht]; exact hN.symm
    · rcases List.mem_append.1 hc with hc | hc
      · have hag : ∀ (e : List Bool), ∀ x ∈ xs, tru x 0 (t ++ e) = tru x 0 t := fun e x hxm => tru_app (hx0 x hxm) (hx5 x hxm)
        refine complete hK hKn hx0 (by decide) ?_ ?_ c hc
        · rw [ct_congr (hag _)]; omega
        · intro i j h1 h2 h3 h4
          rw [ct_congr (U := (tru · 0 t)) fun x hxm => hag _ x (List.mem_of_mem_take hxm)]
          have hm : ((i : Int) - 1) * K = (((i - 1) * K : Nat) : Int) := by
            rw [Int.natCast_mul, Int.natCast_sub (by omega)]; rfl
          have hle : (i - 1) * K + K ≤ (xs.length - 1) * K := by
            rw [← Nat.succ_mul]; exact Nat.mul_le_mul_right _ (by omega)
          have hS : S K 6 i j = (((i - 1) * K + (j - 1) + 6 : Nat) : Int) := by unfold S; rw [hm]; omega
          have := tru_pos (t ++ (List.range ((xs.length - 1) * K)).map fun q => decide (q % K + 1 ≤ ct (tru · 0 t) (xs.take (q / K + 1)))) 0 (S K 6 i j) (by rw [hS]; omega)
          simp only [Int.natCast_zero, Int.sub_zero] at this
          rw [this, hS, show ((((i - 1) * K + (j - 1) + 6 : Nat) : Int) - 1).toNat = (i - 1) * K + (j - 1) + 5 by omega, List.getElem?_append_right (by omega), ht, Nat.add_sub_cancel, List.getElem?_map, List.getElem?_range (by omega)]
          have hd : ((i - 1) * K + (j - 1)) / K = i - 1 := by
            rw [Nat.mul_comm, Nat.mul_add_div (by omega), Nat.div_eq_of_lt (by omega), Nat.add_zero]
          have hr : ((i - 1) * K + (j - 1)) % K = j - 1 := by
            rw [Nat.mul_comm, Nat.mul_add_mod, Nat.mod_eq_of_lt (by omega)]
          rw [Option.map_some, Option.getD_some, hd, hr, show j - 1 + 1 = j by omega, show i - 1 + 1 = i by omega]
      · exact units_self t _ c hc
theorem am_after6 {xs : List Int} {k : Int} (hl : xs.length ≤ 5) (hk : k ≤ 2) : ∃ m : Nat, (am xs k 6).2 = 6 + (m : Int) ∧ m ≤ 8 := by
  unfold am
  split
  · exact ⟨0, by simp, by omega⟩
  split
  · exact ⟨0, by simp, by omega⟩
  split
  · exact ⟨0, by simp, by omega⟩
  have h1 : 0 ≤ ((xs.length : Int) - 1) * k := Int.mul_nonneg (by omega) (by omega)
  have h2 : ((xs.length : Int) - 1) * k ≤ 4 * 2 := Int.mul_le_mul (by omega) (by omega) (by omega) (by omega)
  exact ⟨(((xs.length : Int) - 1) * k).toNat, by simp only; omega, by omega⟩
theorem am_len2 {xs : List Int} {k : Int} (hxl : xs.length ≤ 5) (hk : k ≤ 2) : (am xs k 6).1.length ≤ 100000 := by
  have h3 : (xs.length - 2) * (2 * k.toNat + 1) ≤ 5 * 5 := Nat.mul_le_mul (by omega) (by omega)
  unfold am
  split
  · simp
  · split
    · simp
    · split
      · simp; omega
      · simp only [aMain, aHead, List.length_append, List.length_map, List.length_range, rows_len (show 1 ≤ k by omega), List.length_cons, List.length_nil]
        omega
theorem cnt_neg {t : List Bool} : ∀ {xs : List Int}, (∀ x ∈ xs, x ≠ 0) → cnt t (xs.map fun x => -x) + cnt t xs = xs.length
  | [], _ => rfl
  | x :: xs, hx => by
    have ih := cnt_neg (t := t) (xs := xs) fun y hy => hx y (List.mem_cons_of_mem _ hy)
    have h0 := hx x (List.mem_cons_self ..)
    have h1 := tru_neg_pos t x h0
    rw [tru_isT t x h0, tru_isT t (-x) (by omega)] at h1
    rw [cnt, cnt] at *
    rw [List.map_cons, List.filter_cons, List.filter_cons, h1, List.length_cons]
    cases hT : (isT t x == decide (x > 0)) <;> simp only [Bool.not_true, Bool.not_false, Bool.false_eq_true, if_false, if_true, List.length_cons] <;> omega

def normM (n : Int) : Int := if ((IntKind.u64.wrap n).tdiv 5).tmod 2 = 1 then -(1 + (IntKind.u64.wrap n).tmod 5) else 1 + (IntKind.u64.wrap n).tmod 5
theorem u64_b (n : Int) : 0 ≤ IntKind.u64.wrap n ∧ IntKind.u64.wrap n ≤ 18446744073709551615 := by
  have : IntKind.u64.wrap n = n % 18446744073709551616 := by simp [IntKind.wrap, IntKind.signed, IntKind.bits]
  rw [this]; omega
theorem u64_5 {u : Int} (h : 0 ≤ u ∧ u ≤ 18446744073709551615) : 0 ≤ u.tmod 5 ∧ u.tmod 5 < 5 ∧ 0 ≤ u.tdiv 5 ∧ u.tdiv 5 ≤ 18446744073709551615 := by
  rw [Int.tmod_eq_emod_of_nonneg h.1, Int.tdiv_eq_ediv_of_nonneg h.1]; omega
theorem u64_id {u : Int} (h : 0 ≤ u ∧ u ≤ 18446744073709551615) : IntKind.u64.wrap u = u := by
  have : IntKind.u64.wrap u = u % 18446744073709551616 := by simp [IntKind.wrap, IntKind.signed, IntKind.bits]
  rw [this]; omega
theorem normM_b (n : Int) : (1 ≤ normM n ∧ normM n ≤ 5) ∨ (-5 ≤ normM n ∧ normM n ≤ -1) := by
  have := u64_5 (u64_b n)
  unfold normM
  split <;> omega
section
variable {tab : Tab} {t : TypeId} {s c : Nat} {z : List MV} {a b : Bool}
theorem vbin_eqlB (h : tab t = some ⟨.bool, s, c, z⟩) : vbin tab .eql t (.v (.bool a)) (.v (.bool b)) = some (.v (.bool (a == b))) := by simp [vbin, h]
theorem vbin_neqB (h : tab t = some ⟨.bool, s, c, z⟩) : vbin tab .neq t (.v (.bool a)) (.v (.bool b)) = some (.v (.bool (!(a == b)))) := by simp [vbin, h]
end

/-- pomacelaw21.WeighMeans -/
theorem law6_v (l : List Int) (tk : Tok) (k u : Int) (O : VH) (hl : l.length ≤ maxLen) (hx : ∀ x ∈ l, InK .i64 x) (hk : InK .i64 k) (hn : InK .u64 u) :
    VF Try.prog 6 [ints l tk, mi k, .v (.int .u64 u)] O (Ret fun m O' => m = mb true) := by
  have hlm : (l.length : Int) ≤ 9223372036854775807 := by simp [maxLen] at hl; omega
  simp only [InK] at hk hn
  refine VF.enter' tabOk Try.func6 (c := _) rfl (Nat.le_of_ble_eq_true rfl) ?_
  rw [show Try.f6.ntmps = 117 from rfl]
  simp only [argEnv, Nat.zero_add, Nat.reduceAdd]
  repeat' first
    | with_reducible refine VC.seq' ?_
    | with_reducible refine VC.block' ?_
    | with_reducible refine VC.skip ?_
    | with_reducible refine VC.exit ?_
    | with_reducible refine VC.ret ?_
    | with_reducible refine VL.nil ?_
    | ((first | with_reducible apply VC.plainL | with_reducible apply VC.readsL (by kernel_rfl) (by kernel_rfl) (by kernel_rfl)); (with_reducible apply VL.run tabOk); (· (simp (disch := omega) only [vset, ints, bools, strs, pairs_cons, pairs_nil, List.set_cons_zero, List.set_cons_succ, Int.zero_sub, Bool.not_true, Bool.not_false, List.take_succ_cons, List.take_zero, List.drop_succ_cons, List.drop_zero, if_true, Nat.reduceLT, decide_true, decide_eq_true, decide_eq_false, List.getElem?_eq_getElem, Nat.zero_add, Nat.reduceAdd, Nat.reduceBEq, cond_true, cond_false, Option.bind_some, Option.map_some, List.map_cons, List.map_nil, List.getElem?_toArray, List.getElem?_cons_zero, List.getElem?_cons_succ, List.getElem?_map, List.getElem_map, Nat.mul_one, Int.toNat_natCast, Int.reduceToNat, Nat.add_zero, vlen_sl ty22] <;> exact rfl)))
    | ((with_reducible apply VC.cond); (· (simp (disch := omega) only [vset, ints, bools, strs, pairs_cons, pairs_nil, List.set_cons_zero, List.set_cons_succ, Int.zero_sub, Bool.not_true, Bool.not_false, List.take_succ_cons, List.take_zero, List.drop_succ_cons, List.drop_zero, if_true, Nat.reduceLT, decide_true, decide_eq_true, decide_eq_false, List.getElem?_eq_getElem, Nat.zero_add, Nat.reduceAdd, Nat.reduceBEq, cond_true, cond_false, Option.bind_some, Option.map_some, List.map_cons, List.map_nil, List.getElem?_toArray, List.getElem?_cons_zero, List.getElem?_cons_succ, List.getElem?_map, List.getElem_map, Nat.mul_one, Int.toNat_natCast, Int.reduceToNat, Nat.add_zero, vlen_sl ty22] <;> exact rfl)); all_goals (intro hcond; try simp only [decide_eq_true_eq, decide_eq_false_iff_not, beq_iff_eq, beq_eq_false_iff_ne, bne_iff_ne, bne_eq_false_iff_eq, ne_eq, reduceCtorEq] at hcond))
    | simp only [RoundQ_exit, RoundQ_goto, RoundQ_ret, RoundQ_panic, SeqQ_normal, SeqQ_exit, SeqQ_goto, SeqQ_ret, SeqQ_panic, BlockQ_normal, BlockQ_exit, BlockQ_goto, BlockQ_ret, BlockQ_panic, LoopQ_exit, LoopQ_goto, LoopQ_ret, LoopQ_panic, Ret_ret, if_true, if_false, Nat.reduceEqDiff, reduceIte]
    | ((apply EndQ.ret1 rfl); (· (simp only [look_cons, Nat.reduceBEq, cond_true, cond_false] <;> exact rfl)))
    | ((apply EndQ.ret2 rfl); (· (simp only [look_cons, Nat.reduceBEq, cond_true, cond_false] <;> exact rfl)); (· (simp only [look_cons, Nat.reduceBEq, cond_true, cond_false] <;> exact rfl)))
    | (refine EndQ.ret0 rfl ?_)
    | (refine EndQ.nor0 rfl ?_)
  apply VC.loopK [7, 20] [1, 2, 18, 19] (ms := fun s : Nat × Tok => [ints ((l.take (min s.1 5)).map normM) s.2, mi s.1]) (I := fun s O' => s.1 ≤ l.length ∧ Ap O s.2 O') (μ := fun s => l.length - s.1) (s0 := (0, .nil))
  · (simp (disch := omega) only [vset, ints, bools, strs, pairs_cons, pairs_nil, List.set_cons_zero, List.set_cons_succ, Int.zero_sub, Bool.not_true, Bool.not_false, List.take_succ_cons, List.take_zero, List.drop_succ_cons, List.drop_zero, if_true, Nat.reduceLT, decide_true, decide_eq_true, decide_eq_false, List.getElem?_eq_getElem, Nat.zero_add, Nat.reduceAdd, Nat.reduceBEq, cond_true, cond_false, Option.bind_some, Option.map_some, List.map_cons, List.map_nil, List.getElem?_toArray, List.getElem?_cons_zero, List.getElem?_cons_succ, List.getElem?_map, List.getElem_map, Nat.mul_one, Int.toNat_natCast, Int.reduceToNat, Nat.add_zero, Int.natCast_zero, List.take_zero, List.map_nil, List.any_nil, Bool.or_false, Nat.zero_min, List.length_nil] <;> exact rfl)
  · (simp only [vset, ints, bools, strs, pairs_cons, pairs_nil, List.set_cons_zero, List.set_cons_succ, Int.zero_sub, Bool.not_true, Bool.not_false, List.take_succ_cons, List.take_zero, List.drop_succ_cons, List.drop_zero, if_true, Nat.reduceLT, decide_true, decide_eq_true, decide_eq_false, List.getElem?_eq_getElem, Nat.zero_add, Nat.reduceAdd, Nat.reduceBEq, cond_true, cond_false, Option.bind_some, Option.map_some, List.map_cons, List.map_nil, List.getElem?_toArray, List.getElem?_cons_zero, List.getElem?_cons_succ, List.getElem?_map, List.getElem_map, Nat.mul_one, Int.toNat_natCast, Int.reduceToNat, Nat.add_zero] <;> exact rfl)
  · exact ⟨by simp, Ap.refl _ (.inl rfl)⟩
  rintro ⟨j, s⟩ O2 ⟨hj, hap⟩
  dsimp only at hj hap
  by_cases h2 : j < l.length
  · by_cases h5 : j < 5
    · have hu := u64_5 (u64_b l[j])
      have hw1 : IntKind.i64.wrap ((IntKind.u64.wrap l[j]).tmod 5) = (IntKind.u64.wrap l[j]).tmod 5 := wrap_i64 (by omega) (by omega)
      have hw2 : IntKind.u64.wrap ((IntKind.u64.wrap l[j]).tdiv 5) = (IntKind.u64.wrap l[j]).tdiv 5 := u64_id (by omega)
      have hsn : (l.take (min (j + 1) 5)).map normM = (l.take (min j 5)).map normM ++ [normM l[j]] := by
        rw [Nat.min_eq_left (by omega), Nat.min_eq_left (by omega), take_snoc _ _ h2, List.map_append]; rfl
      have hnm : normM l[j] = if ((IntKind.u64.wrap l[j]).tdiv 5).tmod 2 = 1 then -(1 + (IntKind.u64.wrap l[j]).tmod 5) else 1 + (IntKind.u64.wrap l[j]).tmod 5 := rfl
      have hap' := fun n => vappend_app (O := O2) ty22 ty3 (tk' := .full) (cs := ((l.take (min j 5)).map normM).map mi) (n := ((l.take (min j 5)).map normM).length) (ds := [.v (.int .i64 n)]) (k := 1) hap.app (by simp) rfl rfl (by decide) (by decide) (by simp; omega) (by simp [maxLen]; omega)
      by_cases hodd : ((IntKind.u64.wrap l[j]).tdiv 5).tmod 2 = 1
      · rw [if_pos hodd] at hnm
        have hq : (((IntKind.u64.wrap l[j]).tdiv 5).tmod 2 == 1) = true := by simpa using hodd
        repeat' first
          | with_reducible refine VC.seq' ?_
          | with_reducible refine VC.block' ?_
          | with_reducible refine VC.skip ?_
          | with_reducible refine VC.exit ?_
          | with_reducible refine VC.ret ?_
          | with_reducible refine VL.nil ?_
          | ((first | with_reducible apply VC.plainL | with_reducible apply VC.readsL (by kernel_rfl) (by kernel_rfl) (by kernel_rfl)); (with_reducible apply VL.run tabOk); (· (simp (disch := omega) only [vset, ints, bools, strs, pairs_cons, pairs_nil, List.set_cons_zero, List.set_cons_succ, Int.zero_sub, Bool.not_true, Bool.not_false, List.take_succ_cons, List.take_zero, List.drop_succ_cons, List.drop_zero, if_true, Nat.reduceLT, decide_true, decide_eq_true, decide_eq_false, List.getElem?_eq_getElem, Nat.zero_add, Nat.reduceAdd, Nat.reduceBEq, cond_true, cond_false, Option.bind_some, Option.map_some, List.map_cons, List.map_nil, List.getElem?_toArray, List.getElem?_cons_zero, List.getElem?_cons_succ, List.getElem?_map, List.getElem_map, Nat.mul_one, Int.toNat_natCast, Int.reduceToNat, Nat.add_zero, vix_sl ty22 ty3, vload_c ty3 rfl, vbin_rem (show (5 : Int) ≠ 0 by decide), vbin_rem (show (2 : Int) ≠ 0 by decide), vbin_quo (show (5 : Int) ≠ 0 by decide), hw1, hw2, hq, vbs1v ty22 ty3, hap'] <;> exact rfl)))
          | ((with_reducible apply VC.cond); (· (simp (disch := omega) only [vset, ints, bools, strs, pairs_cons, pairs_nil, List.set_cons_zero, List.set_cons_succ, Int.zero_sub, Bool.not_true, Bool.not_false, List.take_succ_cons, List.take_zero, List.drop_succ_cons, List.drop_zero, if_true, Nat.reduceLT, decide_true, decide_eq_true, decide_eq_false, List.getElem?_eq_getElem, Nat.zero_add, Nat.reduceAdd, Nat.reduceBEq, cond_true, cond_false, Option.bind_some, Option.map_some, List.map_cons, List.map_nil, List.getElem?_toArray, List.getElem?_cons_zero, List.getElem?_cons_succ, List.getElem?_map, List.getElem_map, Nat.mul_one, Int.toNat_natCast, Int.reduceToNat, Nat.add_zero, vix_sl ty22 ty3, vload_c ty3 rfl, vbin_rem (show (5 : Int) ≠ 0 by decide), vbin_rem (show (2 : Int) ≠ 0 by decide), vbin_quo (show (5 : Int) ≠ 0 by decide), hw1, hw2, hq, vbs1v ty22 ty3, hap'] <;> exact rfl)); all_goals (intro hcond; try simp only [decide_eq_true_eq, decide_eq_false_iff_not, beq_iff_eq, beq_eq_false_iff_ne, bne_iff_ne, bne_eq_false_iff_eq, ne_eq, reduceCtorEq] at hcond))
          | simp only [RoundQ_exit, RoundQ_goto, RoundQ_ret, RoundQ_panic, SeqQ_normal, SeqQ_exit, SeqQ_goto, SeqQ_ret, SeqQ_panic, BlockQ_normal, BlockQ_exit, BlockQ_goto, BlockQ_ret, BlockQ_panic, LoopQ_exit, LoopQ_goto, LoopQ_ret, LoopQ_panic, Ret_ret, if_true, if_false, Nat.reduceEqDiff, reduceIte]
          | ((apply EndQ.ret1 rfl); (· (simp only [look_cons, Nat.reduceBEq, cond_true, cond_false] <;> exact rfl)))
          | ((apply EndQ.ret2 rfl); (· (simp only [look_cons, Nat.reduceBEq, cond_true, cond_false] <;> exact rfl)); (· (simp only [look_cons, Nat.reduceBEq, cond_true, cond_false] <;> exact rfl)))
          | (refine EndQ.ret0 rfl ?_)
          | (refine EndQ.nor0 rfl ?_)
        refine ⟨?_, (j + 1, .own O2.next 1), ?_, ?_, by dsimp only; omega⟩
        · (simp only [vset, ints, bools, strs, pairs_cons, pairs_nil, List.set_cons_zero, List.set_cons_succ, Int.zero_sub, Bool.not_true, Bool.not_false, List.take_succ_cons, List.take_zero, List.drop_succ_cons, List.drop_zero, if_true, Nat.reduceLT, decide_true, decide_eq_true, decide_eq_false, List.getElem?_eq_getElem, Nat.zero_add, Nat.reduceAdd, Nat.reduceBEq, cond_true, cond_false, Option.bind_some, Option.map_some, List.map_cons, List.map_nil, List.getElem?_toArray, List.getElem?_cons_zero, List.getElem?_cons_succ, List.getElem?_map, List.getElem_map, Nat.mul_one, Int.toNat_natCast, Int.reduceToNat, Nat.add_zero] <;> exact rfl)
        · (simp (disch := omega) only [vset, ints, bools, strs, pairs_cons, pairs_nil, List.set_cons_zero, List.set_cons_succ, Int.zero_sub, Bool.not_true, Bool.not_false, List.take_succ_cons, List.take_zero, List.drop_succ_cons, List.drop_zero, if_true, Nat.reduceLT, decide_true, decide_eq_true, decide_eq_false, List.getElem?_eq_getElem, Nat.zero_add, Nat.reduceAdd, Nat.reduceBEq, cond_true, cond_false, Option.bind_some, Option.map_some, List.map_cons, List.map_nil, List.getElem?_toArray, List.getElem?_cons_zero, List.getElem?_cons_succ, List.getElem?_map, List.getElem_map, Nat.mul_one, Int.toNat_natCast, Int.reduceToNat, Nat.add_zero, Int.natCast_add, Int.cast_ofNat_Int, hsn, hnm, List.map_append, List.length_append, List.length_cons, List.length_nil] <;> first | done | exact rfl)
        exact ⟨by dsimp only; omega, hap.next⟩
      · rw [if_neg hodd] at hnm
        have hq : (((IntKind.u64.wrap l[j]).tdiv 5).tmod 2 == 1) = false := by simpa using hodd
        repeat' first
          | with_reducible refine VC.seq' ?_
          | with_reducible refine VC.block' ?_
          | with_reducible refine VC.skip ?_
          | with_reducible refine VC.exit ?_
          | with_reducible refine VC.ret ?_
          | with_reducible refine VL.nil ?_
          | ((first | with_reducible apply VC.plainL | with_reducible apply VC.readsL (by kernel_rfl) (by kernel_rfl) (by kernel_rfl)); (with_reducible apply VL.run tabOk); (· (simp (disch := omega) only [vset, ints, bools, strs, pairs_cons, pairs_nil, List.set_cons_zero, List.set_cons_succ, Int.zero_sub, Bool.not_true, Bool.not_false, List.take_succ_cons, List.take_zero, List.drop_succ_cons, List.drop_zero, if_true, Nat.reduceLT, decide_true, decide_eq_true, decide_eq_false, List.getElem?_eq_getElem, Nat.zero_add, Nat.reduceAdd, Nat.reduceBEq, cond_true, cond_false, Option.bind_some, Option.map_some, List.map_cons, List.map_nil, List.getElem?_toArray, List.getElem?_cons_zero, List.getElem?_cons_succ, List.getElem?_map, List.getElem_map, Nat.mul_one, Int.toNat_natCast, Int.reduceToNat, Nat.add_zero, vix_sl ty22 ty3, vload_c ty3 rfl, vbin_rem (show (5 : Int) ≠ 0 by decide), vbin_rem (show (2 : Int) ≠ 0 by decide), vbin_quo (show (5 : Int) ≠ 0 by decide), hw1, hw2, hq, vbs1v ty22 ty3, hap'] <;> exact rfl)))
          | ((with_reducible apply VC.cond); (· (simp (disch := omega) only [vset, ints, bools, strs, pairs_cons, pairs_nil, List.set_cons_zero, List.set_cons_succ, Int.zero_sub, Bool.not_true, Bool.not_false, List.take_succ_cons, List.take_zero, List.drop_succ_cons, List.drop_zero, if_true, Nat.reduceLT, decide_true, decide_eq_true, decide_eq_false, List.getElem?_eq_getElem, Nat.zero_add, Nat.reduceAdd, Nat.reduceBEq, cond_true, cond_false, Option.bind_some, Option.map_some, List.map_cons, List.map_nil, List.getElem?_toArray, List.getElem?_cons_zero, List.getElem?_cons_succ, List.getElem?_map, List.getElem_map, Nat.mul_one, Int.toNat_natCast, Int.reduceToNat, Nat.add_zero, vix_sl ty22 ty3, vload_c ty3 rfl, vbin_rem (show (5 : Int) ≠ 0 by decide), vbin_rem (show (2 : Int) ≠ 0 by decide), vbin_quo (show (5 : Int) ≠ 0 by decide), hw1, hw2, hq, vbs1v ty22 ty3, hap'] <;> exact rfl)); all_goals (intro hcond; try simp only [decide_eq_true_eq, decide_eq_false_iff_not, beq_iff_eq, beq_eq_false_iff_ne, bne_iff_ne, bne_eq_false_iff_eq, ne_eq, reduceCtorEq] at hcond))
          | simp only [RoundQ_exit, RoundQ_goto, RoundQ_ret, RoundQ_panic, SeqQ_normal, SeqQ_exit, SeqQ_goto, SeqQ_ret, SeqQ_panic, BlockQ_normal, BlockQ_exit, BlockQ_goto, BlockQ_ret, BlockQ_panic, LoopQ_exit, LoopQ_goto, LoopQ_ret, LoopQ_panic, Ret_ret, if_true, if_false, Nat.reduceEqDiff, reduceIte]
          | ((apply EndQ.ret1 rfl); (· (simp only [look_cons, Nat.reduceBEq, cond_true, cond_false] <;> exact rfl)))
          | ((apply EndQ.ret2 rfl); (· (simp only [look_cons, Nat.reduceBEq, cond_true, cond_false] <;> exact rfl)); (· (simp only [look_cons, Nat.reduceBEq, cond_true, cond_false] <;> exact rfl)))
          | (refine EndQ.ret0 rfl ?_)
          | (refine EndQ.nor0 rfl ?_)
        refine ⟨?_, (j + 1, .own O2.next 1), ?_, ?_, by dsimp only; omega⟩
        · (simp only [vset, ints, bools, strs, pairs_cons, pairs_nil, List.set_cons_zero, List.set_cons_succ, Int.zero_sub, Bool.not_true, Bool.not_false, List.take_succ_cons, List.take_zero, List.drop_succ_cons, List.drop_zero, if_true, Nat.reduceLT, decide_true, decide_eq_true, decide_eq_false, List.getElem?_eq_getElem, Nat.zero_add, Nat.reduceAdd, Nat.reduceBEq, cond_true, cond_false, Option.bind_some, Option.map_some, List.map_cons, List.map_nil, List.getElem?_toArray, List.getElem?_cons_zero, List.getElem?_cons_succ, List.getElem?_map, List.getElem_map, Nat.mul_one, Int.toNat_natCast, Int.reduceToNat, Nat.add_zero] <;> exact rfl)
        · (simp (disch := omega) only [vset, ints, bools, strs, pairs_cons, pairs_nil, List.set_cons_zero, List.set_cons_succ, Int.zero_sub, Bool.not_true, Bool.not_false, List.take_succ_cons, List.take_zero, List.drop_succ_cons, List.drop_zero, if_true, Nat.reduceLT, decide_true, decide_eq_true, decide_eq_false, List.getElem?_eq_getElem, Nat.zero_add, Nat.reduceAdd, Nat.reduceBEq, cond_true, cond_false, Option.bind_some, Option.map_some, List.map_cons, List.map_nil, List.getElem?_toArray, List.getElem?_cons_zero, List.getElem?_cons_succ, List.getElem?_map, List.getElem_map, Nat.mul_one, Int.toNat_natCast, Int.reduceToNat, Nat.add_zero, Int.natCast_add, Int.cast_ofNat_Int, hsn, hnm, List.map_append, List.length_append, List.length_cons, List.length_nil] <;> first | done | exact rfl)
        exact ⟨by dsimp only; omega, hap.next⟩
    · have hsn : min (j + 1) 5 = min j 5 := by omega
      repeat' first
        | with_reducible refine VC.seq' ?_
        | with_reducible refine VC.block' ?_
        | with_reducible refine VC.skip ?_
        | with_reducible refine VC.exit ?_
        | with_reducible refine VC.ret ?_
        | with_reducible refine VL.nil ?_
        | ((first | with_reducible apply VC.plainL | with_reducible apply VC.readsL (by kernel_rfl) (by kernel_rfl) (by kernel_rfl)); (with_reducible apply VL.run tabOk); (· (simp (disch := omega) only [vset, ints, bools, strs, pairs_cons, pairs_nil, List.set_cons_zero, List.set_cons_succ, Int.zero_sub, Bool.not_true, Bool.not_false, List.take_succ_cons, List.take_zero, List.drop_succ_cons, List.drop_zero, if_true, Nat.reduceLT, decide_true, decide_eq_true, decide_eq_false, List.getElem?_eq_getElem, Nat.zero_add, Nat.reduceAdd, Nat.reduceBEq, cond_true, cond_false, Option.bind_some, Option.map_some, List.map_cons, List.map_nil, List.getElem?_toArray, List.getElem?_cons_zero, List.getElem?_cons_succ, List.getElem?_map, List.getElem_map, Nat.mul_one, Int.toNat_natCast, Int.reduceToNat, Nat.add_zero, vix_sl ty22 ty3, vload_c ty3 rfl] <;> exact rfl)))
        | ((with_reducible apply VC.cond); (· (simp (disch := omega) only [vset, ints, bools, strs, pairs_cons, pairs_nil, List.set_cons_zero, List.set_cons_succ, Int.zero_sub, Bool.not_true, Bool.not_false, List.take_succ_cons, List.take_zero, List.drop_succ_cons, List.drop_zero, if_true, Nat.reduceLT, decide_true, decide_eq_true, decide_eq_false, List.getElem?_eq_getElem, Nat.zero_add, Nat.reduceAdd, Nat.reduceBEq, cond_true, cond_false, Option.bind_some, Option.map_some, List.map_cons, List.map_nil, List.getElem?_toArray, List.getElem?_cons_zero, List.getElem?_cons_succ, List.getElem?_map, List.getElem_map, Nat.mul_one, Int.toNat_natCast, Int.reduceToNat, Nat.add_zero, vix_sl ty22 ty3, vload_c ty3 rfl] <;> exact rfl)); all_goals (intro hcond; try simp only [decide_eq_true_eq, decide_eq_false_iff_not, beq_iff_eq, beq_eq_false_iff_ne, bne_iff_ne, bne_eq_false_iff_eq, ne_eq, reduceCtorEq] at hcond))
        | simp only [RoundQ_exit, RoundQ_goto, RoundQ_ret, RoundQ_panic, SeqQ_normal, SeqQ_exit, SeqQ_goto, SeqQ_ret, SeqQ_panic, BlockQ_normal, BlockQ_exit, BlockQ_goto, BlockQ_ret, BlockQ_panic, LoopQ_exit, LoopQ_goto, LoopQ_ret, LoopQ_panic, Ret_ret, if_true, if_false, Nat.reduceEqDiff, reduceIte]
        | ((apply EndQ.ret1 rfl); (· (simp only [look_cons, Nat.reduceBEq, cond_true, cond_false] <;> exact rfl)))
        | ((apply EndQ.ret2 rfl); (· (simp only [look_cons, Nat.reduceBEq, cond_true, cond_false] <;> exact rfl)); (· (simp only [look_cons, Nat.reduceBEq, cond_true, cond_false] <;> exact rfl)))
        | (refine EndQ.ret0 rfl ?_)
        | (refine EndQ.nor0 rfl ?_)
      refine ⟨?_, (j + 1, s), ?_, ?_, by dsimp only; omega⟩
      · (simp only [vset, ints, bools, strs, pairs_cons, pairs_nil, List.set_cons_zero, List.set_cons_succ, Int.zero_sub, Bool.not_true, Bool.not_false, List.take_succ_cons, List.take_zero, List.drop_succ_cons, List.drop_zero, if_true, Nat.reduceLT, decide_true, decide_eq_true, decide_eq_false, List.getElem?_eq_getElem, Nat.zero_add, Nat.reduceAdd, Nat.reduceBEq, cond_true, cond_false, Option.bind_some, Option.map_some, List.map_cons, List.map_nil, List.getElem?_toArray, List.getElem?_cons_zero, List.getElem?_cons_succ, List.getElem?_map, List.getElem_map, Nat.mul_one, Int.toNat_natCast, Int.reduceToNat, Nat.add_zero] <;> exact rfl)
      · (simp (disch := omega) only [vset, ints, bools, strs, pairs_cons, pairs_nil, List.set_cons_zero, List.set_cons_succ, Int.zero_sub, Bool.not_true, Bool.not_false, List.take_succ_cons, List.take_zero, List.drop_succ_cons, List.drop_zero, if_true, Nat.reduceLT, decide_true, decide_eq_true, decide_eq_false, List.getElem?_eq_getElem, Nat.zero_add, Nat.reduceAdd, Nat.reduceBEq, cond_true, cond_false, Option.bind_some, Option.map_some, List.map_cons, List.map_nil, List.getElem?_toArray, List.getElem?_cons_zero, List.getElem?_cons_succ, List.getElem?_map, List.getElem_map, Nat.mul_one, Int.toNat_natCast, Int.reduceToNat, Nat.add_zero, Int.natCast_add, Int.cast_ofNat_Int, hsn] <;> first | done | exact rfl)
      exact ⟨by dsimp only; omega, hap⟩
  obtain rfl : j = l.length := by omega
  have hxs : ∀ x ∈ (l.take (min l.length 5)).map normM, (1 ≤ x ∧ x ≤ 5) ∨ (-5 ≤ x ∧ x ≤ -1) := fun x hx => by
    obtain ⟨y, _, rfl⟩ := List.mem_map.1 hx
    exact normM_b y
  have hxl : ((l.take (min l.length 5)).map normM).length ≤ 5 := by rw [List.length_map, List.length_take]; omega
  generalize (l.take (min l.length 5)).map normM = xs at *
  have hkb : -1 ≤ max (-1) (min k 2) ∧ max (-1) (min k 2) ≤ 2 := by omega
  repeat' first
    | with_reducible refine VC.seq' ?_
    | with_reducible refine VC.block' ?_
    | with_reducible refine VC.skip ?_
    | with_reducible refine VC.exit ?_
    | with_reducible refine VC.ret ?_
    | with_reducible refine VL.nil ?_
    | ((first | with_reducible apply VC.plainL | with_reducible apply VC.readsL (by kernel_rfl) (by kernel_rfl) (by kernel_rfl)); (with_reducible apply VL.run tabOk); (· (simp (disch := omega) only [vset, ints, bools, strs, pairs_cons, pairs_nil, List.set_cons_zero, List.set_cons_succ, Int.zero_sub, Bool.not_true, Bool.not_false, List.take_succ_cons, List.take_zero, List.drop_succ_cons, List.drop_zero, if_true, Nat.reduceLT, decide_true, decide_eq_true, decide_eq_false, List.getElem?_eq_getElem, Nat.zero_add, Nat.reduceAdd, Nat.reduceBEq, cond_true, cond_false, Option.bind_some, Option.map_some, List.map_cons, List.map_nil, List.getElem?_toArray, List.getElem?_cons_zero, List.getElem?_cons_succ, List.getElem?_map, List.getElem_map, Nat.mul_one, Int.toNat_natCast, Int.reduceToNat, Nat.add_zero] <;> exact rfl)))
    | ((with_reducible apply VC.cond); (· (simp (disch := omega) only [vset, ints, bools, strs, pairs_cons, pairs_nil, List.set_cons_zero, List.set_cons_succ, Int.zero_sub, Bool.not_true, Bool.not_false, List.take_succ_cons, List.take_zero, List.drop_succ_cons, List.drop_zero, if_true, Nat.reduceLT, decide_true, decide_eq_true, decide_eq_false, List.getElem?_eq_getElem, Nat.zero_add, Nat.reduceAdd, Nat.reduceBEq, cond_true, cond_false, Option.bind_some, Option.map_some, List.map_cons, List.map_nil, List.getElem?_toArray, List.getElem?_cons_zero, List.getElem?_cons_succ, List.getElem?_map, List.getElem_map, Nat.mul_one, Int.toNat_natCast, Int.reduceToNat, Nat.add_zero] <;> exact rfl)); all_goals (intro hcond; try simp only [decide_eq_true_eq, decide_eq_false_iff_not, beq_iff_eq, beq_eq_false_iff_ne, bne_iff_ne, bne_eq_false_iff_eq, ne_eq, reduceCtorEq] at hcond))
    | simp only [RoundQ_exit, RoundQ_goto, RoundQ_ret, RoundQ_panic, SeqQ_normal, SeqQ_exit, SeqQ_goto, SeqQ_ret, SeqQ_panic, BlockQ_normal, BlockQ_exit, BlockQ_goto, BlockQ_ret, BlockQ_panic, LoopQ_exit, LoopQ_goto, LoopQ_ret, LoopQ_panic, Ret_ret, if_true, if_false, Nat.reduceEqDiff, reduceIte]
    | ((apply EndQ.ret1 rfl); (· (simp only [look_cons, Nat.reduceBEq, cond_true, cond_false] <;> exact rfl)))
    | ((apply EndQ.ret2 rfl); (· (simp only [look_cons, Nat.reduceBEq, cond_true, cond_false] <;> exact rfl)); (· (simp only [look_cons, Nat.reduceBEq, cond_true, cond_false] <;> exact rfl)))
    | (refine EndQ.ret0 rfl ?_)
    | (refine EndQ.nor0 rfl ?_)
  generalize max (-1) (min k 2) = k at *
  apply VC.loopK [11, 47] [1, 2, 7] (ms := fun s : List Bool × Tok => [bools s.1 s.2, mi s.1.length]) (I := fun s O' => s.1.length ≤ 5 ∧ Ap O2 s.2 O') (μ := fun s => 5 - s.1.length) (s0 := ([], .nil))
  · (simp (disch := omega) only [vset, ints, bools, strs, pairs_cons, pairs_nil, List.set_cons_zero, List.set_cons_succ, Int.zero_sub, Bool.not_true, Bool.not_false, List.take_succ_cons, List.take_zero, List.drop_succ_cons, List.drop_zero, if_true, Nat.reduceLT, decide_true, decide_eq_true, decide_eq_false, List.getElem?_eq_getElem, Nat.zero_add, Nat.reduceAdd, Nat.reduceBEq, cond_true, cond_false, Option.bind_some, Option.map_some, List.map_cons, List.map_nil, List.getElem?_toArray, List.getElem?_cons_zero, List.getElem?_cons_succ, List.getElem?_map, List.getElem_map, Nat.mul_one, Int.toNat_natCast, Int.reduceToNat, Nat.add_zero, Int.natCast_zero, List.take_zero, List.map_nil, List.any_nil, Bool.or_false, List.length_nil] <;> exact rfl)
  · (simp only [vset, ints, bools, strs, pairs_cons, pairs_nil, List.set_cons_zero, List.set_cons_succ, Int.zero_sub, Bool.not_true, Bool.not_false, List.take_succ_cons, List.take_zero, List.drop_succ_cons, List.drop_zero, if_true, Nat.reduceLT, decide_true, decide_eq_true, decide_eq_false, List.getElem?_eq_getElem, Nat.zero_add, Nat.reduceAdd, Nat.reduceBEq, cond_true, cond_false, Option.bind_some, Option.map_some, List.map_cons, List.map_nil, List.getElem?_toArray, List.getElem?_cons_zero, List.getElem?_cons_succ, List.getElem?_map, List.getElem_map, Nat.mul_one, Int.toNat_natCast, Int.reduceToNat, Nat.add_zero] <;> exact rfl)
  · exact ⟨by simp, Ap.refl _ (.inl rfl)⟩
  rintro ⟨t, st⟩ O3 ⟨ht, hapt⟩
  dsimp only at ht hapt
  by_cases h5 : t.length < 5
  · have hap' := fun b => vappend_app (O := O3) ty27 ty4 (tk' := .full) (cs := t.map mb) (n := t.length) (ds := [.v (.bool b)]) (k := 1) hapt.app (by simp) rfl rfl (by decide) (by decide) (by omega) (by simp [maxLen]; omega)
    repeat' first
      | with_reducible refine VC.seq' ?_
      | with_reducible refine VC.block' ?_
      | with_reducible refine VC.skip ?_
      | with_reducible refine VC.exit ?_
      | with_reducible refine VC.ret ?_
      | with_reducible refine VL.nil ?_
      | ((first | with_reducible apply VC.plainL | with_reducible apply VC.readsL (by kernel_rfl) (by kernel_rfl) (by kernel_rfl)); (with_reducible apply VL.run tabOk); (· (simp (disch := omega) only [vset, ints, bools, strs, pairs_cons, pairs_nil, List.set_cons_zero, List.set_cons_succ, Int.zero_sub, Bool.not_true, Bool.not_false, List.take_succ_cons, List.take_zero, List.drop_succ_cons, List.drop_zero, if_true, Nat.reduceLT, decide_true, decide_eq_true, decide_eq_false, List.getElem?_eq_getElem, Nat.zero_add, Nat.reduceAdd, Nat.reduceBEq, cond_true, cond_false, Option.bind_some, Option.map_some, List.map_cons, List.map_nil, List.getElem?_toArray, List.getElem?_cons_zero, List.getElem?_cons_succ, List.getElem?_map, List.getElem_map, Nat.mul_one, Int.toNat_natCast, Int.reduceToNat, Nat.add_zero, vbin_shr, vbin_and, vbs1v ty27 ty4, hap'] <;> exact rfl)))
      | ((with_reducible apply VC.cond); (· (simp (disch := omega) only [vset, ints, bools, strs, pairs_cons, pairs_nil, List.set_cons_zero, List.set_cons_succ, Int.zero_sub, Bool.not_true, Bool.not_false, List.take_succ_cons, List.take_zero, List.drop_succ_cons, List.drop_zero, if_true, Nat.reduceLT, decide_true, decide_eq_true, decide_eq_false, List.getElem?_eq_getElem, Nat.zero_add, Nat.reduceAdd, Nat.reduceBEq, cond_true, cond_false, Option.bind_some, Option.map_some, List.map_cons, List.map_nil, List.getElem?_toArray, List.getElem?_cons_zero, List.getElem?_cons_succ, List.getElem?_map, List.getElem_map, Nat.mul_one, Int.toNat_natCast, Int.reduceToNat, Nat.add_zero, vbin_shr, vbin_and, vbs1v ty27 ty4, hap'] <;> exact rfl)); all_goals (intro hcond; try simp only [decide_eq_true_eq, decide_eq_false_iff_not, beq_iff_eq, beq_eq_false_iff_ne, bne_iff_ne, bne_eq_false_iff_eq, ne_eq, reduceCtorEq] at hcond))
      | simp only [RoundQ_exit, RoundQ_goto, RoundQ_ret, RoundQ_panic, SeqQ_normal, SeqQ_exit, SeqQ_goto, SeqQ_ret, SeqQ_panic, BlockQ_normal, BlockQ_exit, BlockQ_goto, BlockQ_ret, BlockQ_panic, LoopQ_exit, LoopQ_goto, LoopQ_ret, LoopQ_panic, Ret_ret, if_true, if_false, Nat.reduceEqDiff, reduceIte]
      | ((apply EndQ.ret1 rfl); (· (simp only [look_cons, Nat.reduceBEq, cond_true, cond_false] <;> exact rfl)))
      | ((apply EndQ.ret2 rfl); (· (simp only [look_cons, Nat.reduceBEq, cond_true, cond_false] <;> exact rfl)); (· (simp only [look_cons, Nat.reduceBEq, cond_true, cond_false] <;> exact rfl)))
      | (refine EndQ.ret0 rfl ?_)
      | (refine EndQ.nor0 rfl ?_)
    refine ⟨?_, (t ++ [IntKind.u64.wrap ↑(BitVec.ofInt IntKind.u64.bits (u.fdiv (2 ^ min t.length IntKind.u64.bits)) &&& BitVec.ofInt IntKind.u64.bits 1).toNat == 1], .own O3.next 1), ?_, ⟨by simp; omega, hapt.next⟩, by simp; omega⟩
    · (simp only [vset, ints, bools, strs, pairs_cons, pairs_nil, List.set_cons_zero, List.set_cons_succ, Int.zero_sub, Bool.not_true, Bool.not_false, List.take_succ_cons, List.take_zero, List.drop_succ_cons, List.drop_zero, if_true, Nat.reduceLT, decide_true, decide_eq_true, decide_eq_false, List.getElem?_eq_getElem, Nat.zero_add, Nat.reduceAdd, Nat.reduceBEq, cond_true, cond_false, Option.bind_some, Option.map_some, List.map_cons, List.map_nil, List.getElem?_toArray, List.getElem?_cons_zero, List.getElem?_cons_succ, List.getElem?_map, List.getElem_map, Nat.mul_one, Int.toNat_natCast, Int.reduceToNat, Nat.add_zero] <;> exact rfl)
    · (simp (disch := omega) only [vset, ints, bools, strs, pairs_cons, pairs_nil, List.set_cons_zero, List.set_cons_succ, Int.zero_sub, Bool.not_true, Bool.not_false, List.take_succ_cons, List.take_zero, List.drop_succ_cons, List.drop_zero, if_true, Nat.reduceLT, decide_true, decide_eq_true, decide_eq_false, List.getElem?_eq_getElem, Nat.zero_add, Nat.reduceAdd, Nat.reduceBEq, cond_true, cond_false, Option.bind_some, Option.map_some, List.map_cons, List.map_nil, List.getElem?_toArray, List.getElem?_cons_zero, List.getElem?_cons_succ, List.getElem?_map, List.getElem_map, Nat.mul_one, Int.toNat_natCast, Int.reduceToNat, Nat.add_zero, Int.natCast_add, Int.cast_ofNat_Int, List.map_append, List.length_append, List.length_cons, List.length_nil] <;> first | done | exact rfl)
  have ht5 : t.length = 5 := by omega
  have hx1 : ∀ x ∈ xs, -1000000 ≤ x ∧ x ≤ 1000000 := fun x hx => by have := hxs x hx; omega
  have hx0 : ∀ x ∈ xs, x ≠ 0 := fun x hx => by have := hxs x hx; omega
  repeat' first
    | with_reducible refine VC.seq' ?_
    | with_reducible refine VC.block' ?_
    | with_reducible refine VC.skip ?_
    | with_reducible refine VC.exit ?_
    | with_reducible refine VC.ret ?_
    | with_reducible refine VL.nil ?_
    | ((first | with_reducible apply VC.plainL | with_reducible apply VC.readsL (by kernel_rfl) (by kernel_rfl) (by kernel_rfl)); (with_reducible apply VL.run tabOk); (· (simp (disch := omega) only [vset, ints, bools, strs, pairs_cons, pairs_nil, List.set_cons_zero, List.set_cons_succ, Int.zero_sub, Bool.not_true, Bool.not_false, List.take_succ_cons, List.take_zero, List.drop_succ_cons, List.drop_zero, if_true, Nat.reduceLT, decide_true, decide_eq_true, decide_eq_false, List.getElem?_eq_getElem, Nat.zero_add, Nat.reduceAdd, Nat.reduceBEq, cond_true, cond_false, Option.bind_some, Option.map_some, List.map_cons, List.map_nil, List.getElem?_toArray, List.getElem?_cons_zero, List.getElem?_cons_succ, List.getElem?_map, List.getElem_map, Nat.mul_one, Int.toNat_natCast, Int.reduceToNat, Nat.add_zero] <;> exact rfl)))
    | ((with_reducible apply VC.cond); (· (simp (disch := omega) only [vset, ints, bools, strs, pairs_cons, pairs_nil, List.set_cons_zero, List.set_cons_succ, Int.zero_sub, Bool.not_true, Bool.not_false, List.take_succ_cons, List.take_zero, List.drop_succ_cons, List.drop_zero, if_true, Nat.reduceLT, decide_true, decide_eq_true, decide_eq_false, List.getElem?_eq_getElem, Nat.zero_add, Nat.reduceAdd, Nat.reduceBEq, cond_true, cond_false, Option.bind_some, Option.map_some, List.map_cons, List.map_nil, List.getElem?_toArray, List.getElem?_cons_zero, List.getElem?_cons_succ, List.getElem?_map, List.getElem_map, Nat.mul_one, Int.toNat_natCast, Int.reduceToNat, Nat.add_zero] <;> exact rfl)); all_goals (intro hcond; try simp only [decide_eq_true_eq, decide_eq_false_iff_not, beq_iff_eq, beq_eq_false_iff_ne, bne_iff_ne, bne_eq_false_iff_eq, ne_eq, reduceCtorEq] at hcond))
    | simp only [RoundQ_exit, RoundQ_goto, RoundQ_ret, RoundQ_panic, SeqQ_normal, SeqQ_exit, SeqQ_goto, SeqQ_ret, SeqQ_panic, BlockQ_normal, BlockQ_exit, BlockQ_goto, BlockQ_ret, BlockQ_panic, LoopQ_exit, LoopQ_goto, LoopQ_ret, LoopQ_panic, Ret_ret, if_true, if_false, Nat.reduceEqDiff, reduceIte]
    | ((apply EndQ.ret1 rfl); (· (simp only [look_cons, Nat.reduceBEq, cond_true, cond_false] <;> exact rfl)))
    | ((apply EndQ.ret2 rfl); (· (simp only [look_cons, Nat.reduceBEq, cond_true, cond_false] <;> exact rfl)); (· (simp only [look_cons, Nat.reduceBEq, cond_true, cond_false] <;> exact rfl)))
    | (refine EndQ.ret0 rfl ?_)
    | (refine EndQ.nor0 rfl ?_)
  apply VL.callR (id := 14) (hE := Enters.of Try.func14 (by decide) (by decide)) (hR := AtMost_v xs k 6 s O3 hx1 (by omega) (by omega) (by omega))
  · exact rfl
  · (simp (disch := omega) only [vset, ints, bools, strs, pairs_cons, pairs_nil, List.set_cons_zero, List.set_cons_succ, Int.zero_sub, Bool.not_true, Bool.not_false, List.take_succ_cons, List.take_zero, List.drop_succ_cons, List.drop_zero, if_true, Nat.reduceLT, decide_true, decide_eq_true, decide_eq_false, List.getElem?_eq_getElem, Nat.zero_add, Nat.reduceAdd, Nat.reduceBEq, cond_true, cond_false, Option.bind_some, Option.map_some, List.map_cons, List.map_nil, List.getElem?_toArray, List.getElem?_cons_zero, List.getElem?_cons_succ, List.getElem?_map, List.getElem_map, Nat.mul_one, Int.toNat_natCast, Int.reduceToNat, Nat.add_zero, vextract] <;> exact rfl)
  · (simp (disch := omega) only [vset, ints, bools, strs, pairs_cons, pairs_nil, List.set_cons_zero, List.set_cons_succ, Int.zero_sub, Bool.not_true, Bool.not_false, List.take_succ_cons, List.take_zero, List.drop_succ_cons, List.drop_zero, if_true, Nat.reduceLT, decide_true, decide_eq_true, decide_eq_false, List.getElem?_eq_getElem, Nat.zero_add, Nat.reduceAdd, Nat.reduceBEq, cond_true, cond_false, Option.bind_some, Option.map_some, List.map_cons, List.map_nil, List.getElem?_toArray, List.getElem?_cons_zero, List.getElem?_cons_succ, List.getElem?_map, List.getElem_map, Nat.mul_one, Int.toNat_natCast, Int.reduceToNat, Nat.add_zero, vextract] <;> exact rfl)
  · exact rfl
  · exact rfl
  rintro _ O4 ⟨hge4, cl, s4, hcl, rfl⟩
  apply VL.run tabOk
  · (simp (disch := omega) only [vset, ints, bools, strs, pairs_cons, pairs_nil, List.set_cons_zero, List.set_cons_succ, Int.zero_sub, Bool.not_true, Bool.not_false, List.take_succ_cons, List.take_zero, List.drop_succ_cons, List.drop_zero, if_true, Nat.reduceLT, decide_true, decide_eq_true, decide_eq_false, List.getElem?_eq_getElem, Nat.zero_add, Nat.reduceAdd, Nat.reduceBEq, cond_true, cond_false, Option.bind_some, Option.map_some, List.map_cons, List.map_nil, List.getElem?_toArray, List.getElem?_cons_zero, List.getElem?_cons_succ, List.getElem?_map, List.getElem_map, Nat.mul_one, Int.toNat_natCast, Int.reduceToNat, Nat.add_zero, vextract] <;> exact rfl)
  obtain ⟨m, hm, hm2⟩ := am_after6 (xs := xs) (k := k) hxl (by omega)
  have hme := means (k := k) hxs ht5
  rw [hm] at hme ⊢
  rw [show ((6 : Int) + m - 1).toNat = 5 + m by omega, ← hcl] at hme
  have hA : ∀ c ∈ cl, c.1.length ≤ 1000000 := fun x hx => by
    have : x.1 ∈ (am xs k 6).1 := by rw [← hcl]; exact List.mem_map_of_mem hx
    have := am_x this
    omega
  have hB : cl.length ≤ 100000 := by
    have := am_len2 (xs := xs) (k := k) hxl (by omega)
    rw [← hcl, List.length_map] at this; exact this
  repeat' first
    | with_reducible refine VC.seq' ?_
    | with_reducible refine VC.block' ?_
    | with_reducible refine VC.skip ?_
    | with_reducible refine VC.exit ?_
    | with_reducible refine VC.ret ?_
    | with_reducible refine VL.nil ?_
    | ((first | with_reducible apply VC.plainL | with_reducible apply VC.readsL (by kernel_rfl) (by kernel_rfl) (by kernel_rfl)); (with_reducible apply VL.run tabOk); (· (simp (disch := omega) only [vset, ints, bools, strs, pairs_cons, pairs_nil, List.set_cons_zero, List.set_cons_succ, Int.zero_sub, Bool.not_true, Bool.not_false, List.take_succ_cons, List.take_zero, List.drop_succ_cons, List.drop_zero, if_true, Nat.reduceLT, decide_true, decide_eq_true, decide_eq_false, List.getElem?_eq_getElem, Nat.zero_add, Nat.reduceAdd, Nat.reduceBEq, cond_true, cond_false, Option.bind_some, Option.map_some, List.map_cons, List.map_nil, List.getElem?_toArray, List.getElem?_cons_zero, List.getElem?_cons_succ, List.getElem?_map, List.getElem_map, Nat.mul_one, Int.toNat_natCast, Int.reduceToNat, Nat.add_zero] <;> exact rfl)))
    | ((with_reducible apply VC.cond); (· (simp (disch := omega) only [vset, ints, bools, strs, pairs_cons, pairs_nil, List.set_cons_zero, List.set_cons_succ, Int.zero_sub, Bool.not_true, Bool.not_false, List.take_succ_cons, List.take_zero, List.drop_succ_cons, List.drop_zero, if_true, Nat.reduceLT, decide_true, decide_eq_true, decide_eq_false, List.getElem?_eq_getElem, Nat.zero_add, Nat.reduceAdd, Nat.reduceBEq, cond_true, cond_false, Option.bind_some, Option.map_some, List.map_cons, List.map_nil, List.getElem?_toArray, List.getElem?_cons_zero, List.getElem?_cons_succ, List.getElem?_map, List.getElem_map, Nat.mul_one, Int.toNat_natCast, Int.reduceToNat, Nat.add_zero] <;> exact rfl)); all_goals (intro hcond; try simp only [decide_eq_true_eq, decide_eq_false_iff_not, beq_iff_eq, beq_eq_false_iff_ne, bne_iff_ne, bne_eq_false_iff_eq, ne_eq, reduceCtorEq] at hcond))
    | simp only [RoundQ_exit, RoundQ_goto, RoundQ_ret, RoundQ_panic, SeqQ_normal, SeqQ_exit, SeqQ_goto, SeqQ_ret, SeqQ_panic, BlockQ_normal, BlockQ_exit, BlockQ_goto, BlockQ_ret, BlockQ_panic, LoopQ_exit, LoopQ_goto, LoopQ_ret, LoopQ_panic, Ret_ret, if_true, if_false, Nat.reduceEqDiff, reduceIte]
    | ((apply EndQ.ret1 rfl); (· (simp only [look_cons, Nat.reduceBEq, cond_true, cond_false] <;> exact rfl)))
    | ((apply EndQ.ret2 rfl); (· (simp only [look_cons, Nat.reduceBEq, cond_true, cond_false] <;> exact rfl)); (· (simp only [look_cons, Nat.reduceBEq, cond_true, cond_false] <;> exact rfl)))
    | (refine EndQ.ret0 rfl ?_)
    | (refine EndQ.nor0 rfl ?_)
  apply VL.callR (id := 20) (hE := Enters.of Try.func20 (by decide) (by decide)) (hR := Count_v xs t s st O4 hx1 (by omega) (by omega))
  · exact rfl
  · (simp (disch := omega) only [vset, ints, bools, strs, pairs_cons, pairs_nil, List.set_cons_zero, List.set_cons_succ, Int.zero_sub, Bool.not_true, Bool.not_false, List.take_succ_cons, List.take_zero, List.drop_succ_cons, List.drop_zero, if_true, Nat.reduceLT, decide_true, decide_eq_true, decide_eq_false, List.getElem?_eq_getElem, Nat.zero_add, Nat.reduceAdd, Nat.reduceBEq, cond_true, cond_false, Option.bind_some, Option.map_some, List.map_cons, List.map_nil, List.getElem?_toArray, List.getElem?_cons_zero, List.getElem?_cons_succ, List.getElem?_map, List.getElem_map, Nat.mul_one, Int.toNat_natCast, Int.reduceToNat, Nat.add_zero] <;> exact rfl)
  · (simp (disch := omega) only [vset, ints, bools, strs, pairs_cons, pairs_nil, List.set_cons_zero, List.set_cons_succ, Int.zero_sub, Bool.not_true, Bool.not_false, List.take_succ_cons, List.take_zero, List.drop_succ_cons, List.drop_zero, if_true, Nat.reduceLT, decide_true, decide_eq_true, decide_eq_false, List.getElem?_eq_getElem, Nat.zero_add, Nat.reduceAdd, Nat.reduceBEq, cond_true, cond_false, Option.bind_some, Option.map_some, List.map_cons, List.map_nil, List.getElem?_toArray, List.getElem?_cons_zero, List.getElem?_cons_succ, List.getElem?_map, List.getElem_map, Nat.mul_one, Int.toNat_natCast, Int.reduceToNat, Nat.add_zero] <;> exact rfl)
  · exact rfl
  · exact rfl
  rintro _ O5 ⟨rfl, rfl⟩
  apply VL.run tabOk
  · (simp (disch := omega) only [vset, ints, bools, strs, pairs_cons, pairs_nil, List.set_cons_zero, List.set_cons_succ, Int.zero_sub, Bool.not_true, Bool.not_false, List.take_succ_cons, List.take_zero, List.drop_succ_cons, List.drop_zero, if_true, Nat.reduceLT, decide_true, decide_eq_true, decide_eq_false, List.getElem?_eq_getElem, Nat.zero_add, Nat.reduceAdd, Nat.reduceBEq, cond_true, cond_false, Option.bind_some, Option.map_some, List.map_cons, List.map_nil, List.getElem?_toArray, List.getElem?_cons_zero, List.getElem?_cons_succ, List.getElem?_map, List.getElem_map, Nat.mul_one, Int.toNat_natCast, Int.reduceToNat, Nat.add_zero] <;> exact rfl)
  have hS := some_v cl t (5 + m) s4 st O5 (by omega) (by omega) hB hA
  rw [show rows cl = cl.map (·.1) from rfl, hme] at hS
  have e1 : (6 : Int) + m - 1 = ((5 + m : Nat) : Int) := by omega
  repeat' first
    | with_reducible refine VC.seq' ?_
    | with_reducible refine VC.block' ?_
    | with_reducible refine VC.skip ?_
    | with_reducible refine VC.exit ?_
    | with_reducible refine VC.ret ?_
    | with_reducible refine VL.nil ?_
    | ((first | with_reducible apply VC.plainL | with_reducible apply VC.readsL (by kernel_rfl) (by kernel_rfl) (by kernel_rfl)); (with_reducible apply VL.run tabOk); (· (simp (disch := omega) only [vset, ints, bools, strs, pairs_cons, pairs_nil, List.set_cons_zero, List.set_cons_succ, Int.zero_sub, Bool.not_true, Bool.not_false, List.take_succ_cons, List.take_zero, List.drop_succ_cons, List.drop_zero, if_true, Nat.reduceLT, decide_true, decide_eq_true, decide_eq_false, List.getElem?_eq_getElem, Nat.zero_add, Nat.reduceAdd, Nat.reduceBEq, cond_true, cond_false, Option.bind_some, Option.map_some, List.map_cons, List.map_nil, List.getElem?_toArray, List.getElem?_cons_zero, List.getElem?_cons_succ, List.getElem?_map, List.getElem_map, Nat.mul_one, Int.toNat_natCast, Int.reduceToNat, Nat.add_zero, e1] <;> exact rfl)))
    | ((with_reducible apply VC.cond); (· (simp (disch := omega) only [vset, ints, bools, strs, pairs_cons, pairs_nil, List.set_cons_zero, List.set_cons_succ, Int.zero_sub, Bool.not_true, Bool.not_false, List.take_succ_cons, List.take_zero, List.drop_succ_cons, List.drop_zero, if_true, Nat.reduceLT, decide_true, decide_eq_true, decide_eq_false, List.getElem?_eq_getElem, Nat.zero_add, Nat.reduceAdd, Nat.reduceBEq, cond_true, cond_false, Option.bind_some, Option.map_some, List.map_cons, List.map_nil, List.getElem?_toArray, List.getElem?_cons_zero, List.getElem?_cons_succ, List.getElem?_map, List.getElem_map, Nat.mul_one, Int.toNat_natCast, Int.reduceToNat, Nat.add_zero, e1] <;> exact rfl)); all_goals (intro hcond; try simp only [decide_eq_true_eq, decide_eq_false_iff_not, beq_iff_eq, beq_eq_false_iff_ne, bne_iff_ne, bne_eq_false_iff_eq, ne_eq, reduceCtorEq] at hcond))
    | simp only [RoundQ_exit, RoundQ_goto, RoundQ_ret, RoundQ_panic, SeqQ_normal, SeqQ_exit, SeqQ_goto, SeqQ_ret, SeqQ_panic, BlockQ_normal, BlockQ_exit, BlockQ_goto, BlockQ_ret, BlockQ_panic, LoopQ_exit, LoopQ_goto, LoopQ_ret, LoopQ_panic, Ret_ret, if_true, if_false, Nat.reduceEqDiff, reduceIte]
    | ((apply EndQ.ret1 rfl); (· (simp only [look_cons, Nat.reduceBEq, cond_true, cond_false] <;> exact rfl)))
    | ((apply EndQ.ret2 rfl); (· (simp only [look_cons, Nat.reduceBEq, cond_true, cond_false] <;> exact rfl)); (· (simp only [look_cons, Nat.reduceBEq, cond_true, cond_false] <;> exact rfl)))
    | (refine EndQ.ret0 rfl ?_)
    | (refine EndQ.nor0 rfl ?_)
  by_cases hcase : (cnt t xs : Int) ≤ k
  all_goals
    simp only [hcase, decide_true, decide_false] at hS
    apply VL.callR (id := 21) (hE := Enters.of Try.func21 (by decide) (by decide)) (hR := hS)
    · exact rfl
    · (simp (disch := omega) only [vset, ints, bools, strs, pairs_cons, pairs_nil, List.set_cons_zero, List.set_cons_succ, Int.zero_sub, Bool.not_true, Bool.not_false, List.take_succ_cons, List.take_zero, List.drop_succ_cons, List.drop_zero, if_true, Nat.reduceLT, decide_true, decide_eq_true, decide_eq_false, List.getElem?_eq_getElem, Nat.zero_add, Nat.reduceAdd, Nat.reduceBEq, cond_true, cond_false, Option.bind_some, Option.map_some, List.map_cons, List.map_nil, List.getElem?_toArray, List.getElem?_cons_zero, List.getElem?_cons_succ, List.getElem?_map, List.getElem_map, Nat.mul_one, Int.toNat_natCast, Int.reduceToNat, Nat.add_zero, vbin_neqB ty4] <;> exact rfl)
    · (simp (disch := omega) only [vset, ints, bools, strs, pairs_cons, pairs_nil, List.set_cons_zero, List.set_cons_succ, Int.zero_sub, Bool.not_true, Bool.not_false, List.take_succ_cons, List.take_zero, List.drop_succ_cons, List.drop_zero, if_true, Nat.reduceLT, decide_true, decide_eq_true, decide_eq_false, List.getElem?_eq_getElem, Nat.zero_add, Nat.reduceAdd, Nat.reduceBEq, cond_true, cond_false, Option.bind_some, Option.map_some, List.map_cons, List.map_nil, List.getElem?_toArray, List.getElem?_cons_zero, List.getElem?_cons_succ, List.getElem?_map, List.getElem_map, Nat.mul_one, Int.toNat_natCast, Int.reduceToNat, Nat.add_zero, vbin_neqB ty4] <;> exact rfl)
    · exact rfl
    · exact rfl
    rintro _ O6 ⟨rfl, hge6⟩
    apply VL.run tabOk
    · (simp (disch := omega) only [vset, ints, bools, strs, pairs_cons, pairs_nil, List.set_cons_zero, List.set_cons_succ, Int.zero_sub, Bool.not_true, Bool.not_false, List.take_succ_cons, List.take_zero, List.drop_succ_cons, List.drop_zero, if_true, Nat.reduceLT, decide_true, decide_eq_true, decide_eq_false, List.getElem?_eq_getElem, Nat.zero_add, Nat.reduceAdd, Nat.reduceBEq, cond_true, cond_false, Option.bind_some, Option.map_some, List.map_cons, List.map_nil, List.getElem?_toArray, List.getElem?_cons_zero, List.getElem?_cons_succ, List.getElem?_map, List.getElem_map, Nat.mul_one, Int.toNat_natCast, Int.reduceToNat, Nat.add_zero, vbin_neqB ty4] <;> exact rfl)
    repeat' first
      | with_reducible refine VC.seq' ?_
      | with_reducible refine VC.block' ?_
      | with_reducible refine VC.skip ?_
      | with_reducible refine VC.exit ?_
      | with_reducible refine VC.ret ?_
      | with_reducible refine VL.nil ?_
      | ((first | with_reducible apply VC.plainL | with_reducible apply VC.readsL (by kernel_rfl) (by kernel_rfl) (by kernel_rfl)); (with_reducible apply VL.run tabOk); (· (simp (disch := omega) only [vset, ints, bools, strs, pairs_cons, pairs_nil, List.set_cons_zero, List.set_cons_succ, Int.zero_sub, Bool.not_true, Bool.not_false, List.take_succ_cons, List.take_zero, List.drop_succ_cons, List.drop_zero, if_true, Nat.reduceLT, decide_true, decide_eq_true, decide_eq_false, List.getElem?_eq_getElem, Nat.zero_add, Nat.reduceAdd, Nat.reduceBEq, cond_true, cond_false, Option.bind_some, Option.map_some, List.map_cons, List.map_nil, List.getElem?_toArray, List.getElem?_cons_zero, List.getElem?_cons_succ, List.getElem?_map, List.getElem_map, Nat.mul_one, Int.toNat_natCast, Int.reduceToNat, Nat.add_zero, vlen_sl ty22] <;> exact rfl)))
      | ((with_reducible apply VC.cond); (· (simp (disch := omega) only [vset, ints, bools, strs, pairs_cons, pairs_nil, List.set_cons_zero, List.set_cons_succ, Int.zero_sub, Bool.not_true, Bool.not_false, List.take_succ_cons, List.take_zero, List.drop_succ_cons, List.drop_zero, if_true, Nat.reduceLT, decide_true, decide_eq_true, decide_eq_false, List.getElem?_eq_getElem, Nat.zero_add, Nat.reduceAdd, Nat.reduceBEq, cond_true, cond_false, Option.bind_some, Option.map_some, List.map_cons, List.map_nil, List.getElem?_toArray, List.getElem?_cons_zero, List.getElem?_cons_succ, List.getElem?_map, List.getElem_map, Nat.mul_one, Int.toNat_natCast, Int.reduceToNat, Nat.add_zero, vlen_sl ty22] <;> exact rfl)); all_goals (intro hcond; try simp only [decide_eq_true_eq, decide_eq_false_iff_not, beq_iff_eq, beq_eq_false_iff_ne, bne_iff_ne, bne_eq_false_iff_eq, ne_eq, reduceCtorEq] at hcond))
      | simp only [RoundQ_exit, RoundQ_goto, RoundQ_ret, RoundQ_panic, SeqQ_normal, SeqQ_exit, SeqQ_goto, SeqQ_ret, SeqQ_panic, BlockQ_normal, BlockQ_exit, BlockQ_goto, BlockQ_ret, BlockQ_panic, LoopQ_exit, LoopQ_goto, LoopQ_ret, LoopQ_panic, Ret_ret, if_true, if_false, Nat.reduceEqDiff, reduceIte]
      | ((apply EndQ.ret1 rfl); (· (simp only [look_cons, Nat.reduceBEq, cond_true, cond_false] <;> exact rfl)))
      | ((apply EndQ.ret2 rfl); (· (simp only [look_cons, Nat.reduceBEq, cond_true, cond_false] <;> exact rfl)); (· (simp only [look_cons, Nat.reduceBEq, cond_true, cond_false] <;> exact rfl)))
      | (refine EndQ.ret0 rfl ?_)
      | (refine EndQ.nor0 rfl ?_)
    apply VL.callR (id := 18) (hE := Enters.of Try.func18 (by decide) (by decide)) (hR := Least_v xs (xs.length - k) 6 s O6 hx1 (by omega) (by omega) (by omega))
    · exact rfl
    · (simp (disch := omega) only [vset, ints, bools, strs, pairs_cons, pairs_nil, List.set_cons_zero, List.set_cons_succ, Int.zero_sub, Bool.not_true, Bool.not_false, List.take_succ_cons, List.take_zero, List.drop_succ_cons, List.drop_zero, if_true, Nat.reduceLT, decide_true, decide_eq_true, decide_eq_false, List.getElem?_eq_getElem, Nat.zero_add, Nat.reduceAdd, Nat.reduceBEq, cond_true, cond_false, Option.bind_some, Option.map_some, List.map_cons, List.map_nil, List.getElem?_toArray, List.getElem?_cons_zero, List.getElem?_cons_succ, List.getElem?_map, List.getElem_map, Nat.mul_one, Int.toNat_natCast, Int.reduceToNat, Nat.add_zero, vextract] <;> exact rfl)
    · (simp (disch := omega) only [vset, ints, bools, strs, pairs_cons, pairs_nil, List.set_cons_zero, List.set_cons_succ, Int.zero_sub, Bool.not_true, Bool.not_false, List.take_succ_cons, List.take_zero, List.drop_succ_cons, List.drop_zero, if_true, Nat.reduceLT, decide_true, decide_eq_true, decide_eq_false, List.getElem?_eq_getElem, Nat.zero_add, Nat.reduceAdd, Nat.reduceBEq, cond_true, cond_false, Option.bind_some, Option.map_some, List.map_cons, List.map_nil, List.getElem?_toArray, List.getElem?_cons_zero, List.getElem?_cons_succ, List.getElem?_map, List.getElem_map, Nat.mul_one, Int.toNat_natCast, Int.reduceToNat, Nat.add_zero, vextract] <;> exact rfl)
    · exact rfl
    · exact rfl
    rintro _ O7 ⟨hge7, cl7, s7, hcl7, rfl⟩
    apply VL.run tabOk
    · (simp (disch := omega) only [vset, ints, bools, strs, pairs_cons, pairs_nil, List.set_cons_zero, List.set_cons_succ, Int.zero_sub, Bool.not_true, Bool.not_false, List.take_succ_cons, List.take_zero, List.drop_succ_cons, List.drop_zero, if_true, Nat.reduceLT, decide_true, decide_eq_true, decide_eq_false, List.getElem?_eq_getElem, Nat.zero_add, Nat.reduceAdd, Nat.reduceBEq, cond_true, cond_false, Option.bind_some, Option.map_some, List.map_cons, List.map_nil, List.getElem?_toArray, List.getElem?_cons_zero, List.getElem?_cons_succ, List.getElem?_map, List.getElem_map, Nat.mul_one, Int.toNat_natCast, Int.reduceToNat, Nat.add_zero, vextract] <;> exact rfl)
    have hxn : ∀ x ∈ xs.map (fun x => -x), (1 ≤ x ∧ x ≤ 5) ∨ (-5 ≤ x ∧ x ≤ -1) := fun x hx => by
      obtain ⟨y, hy, rfl⟩ := List.mem_map.1 hx
      have := hxs y hy
      omega
    have hme7 := means (k := k) hxn ht5
    have hcn := cnt_neg (t := t) hx0
    obtain ⟨m7, hm7, hm72⟩ := am_after6 (xs := xs.map fun x => -x) (k := k) (by simpa using hxl) (by omega)
    rw [show (xs.length : Int) - (xs.length - k) = k by omega] at hcl7 ⊢
    rw [hm7] at hme7 ⊢
    rw [show ((6 : Int) + m7 - 1).toNat = 5 + m7 by omega, ← hcl7] at hme7
    have hA7 : ∀ c ∈ cl7, c.1.length ≤ 1000000 := fun x hx => by
      have : x.1 ∈ (am (xs.map fun x => -x) k 6).1 := by rw [← hcl7]; exact List.mem_map_of_mem hx
      have := am_x this
      omega
    have hB7 : cl7.length ≤ 100000 := by
      have := am_len2 (xs := xs.map fun x => -x) (k := k) (by simpa using hxl) (by omega)
      rw [← hcl7, List.length_map] at this; exact this
    have hS7 := some_v cl7 t (5 + m7) s7 st O7 (by omega) (by omega) hB7 hA7
    rw [show rows cl7 = cl7.map (·.1) from rfl, hme7] at hS7
    have e7 : (6 : Int) + m7 - 1 = ((5 + m7 : Nat) : Int) := by omega
    repeat' first
      | with_reducible refine VC.seq' ?_
      | with_reducible refine VC.block' ?_
      | with_reducible refine VC.skip ?_
      | with_reducible refine VC.exit ?_
      | with_reducible refine VC.ret ?_
      | with_reducible refine VL.nil ?_
      | ((first | with_reducible apply VC.plainL | with_reducible apply VC.readsL (by kernel_rfl) (by kernel_rfl) (by kernel_rfl)); (with_reducible apply VL.run tabOk); (· (simp (disch := omega) only [vset, ints, bools, strs, pairs_cons, pairs_nil, List.set_cons_zero, List.set_cons_succ, Int.zero_sub, Bool.not_true, Bool.not_false, List.take_succ_cons, List.take_zero, List.drop_succ_cons, List.drop_zero, if_true, Nat.reduceLT, decide_true, decide_eq_true, decide_eq_false, List.getElem?_eq_getElem, Nat.zero_add, Nat.reduceAdd, Nat.reduceBEq, cond_true, cond_false, Option.bind_some, Option.map_some, List.map_cons, List.map_nil, List.getElem?_toArray, List.getElem?_cons_zero, List.getElem?_cons_succ, List.getElem?_map, List.getElem_map, Nat.mul_one, Int.toNat_natCast, Int.reduceToNat, Nat.add_zero, e7] <;> exact rfl)))
      | ((with_reducible apply VC.cond); (· (simp (disch := omega) only [vset, ints, bools, strs, pairs_cons, pairs_nil, List.set_cons_zero, List.set_cons_succ, Int.zero_sub, Bool.not_true, Bool.not_false, List.take_succ_cons, List.take_zero, List.drop_succ_cons, List.drop_zero, if_true, Nat.reduceLT, decide_true, decide_eq_true, decide_eq_false, List.getElem?_eq_getElem, Nat.zero_add, Nat.reduceAdd, Nat.reduceBEq, cond_true, cond_false, Option.bind_some, Option.map_some, List.map_cons, List.map_nil, List.getElem?_toArray, List.getElem?_cons_zero, List.getElem?_cons_succ, List.getElem?_map, List.getElem_map, Nat.mul_one, Int.toNat_natCast, Int.reduceToNat, Nat.add_zero, e7] <;> exact rfl)); all_goals (intro hcond; try simp only [decide_eq_true_eq, decide_eq_false_iff_not, beq_iff_eq, beq_eq_false_iff_ne, bne_iff_ne, bne_eq_false_iff_eq, ne_eq, reduceCtorEq] at hcond))
      | simp only [RoundQ_exit, RoundQ_goto, RoundQ_ret, RoundQ_panic, SeqQ_normal, SeqQ_exit, SeqQ_goto, SeqQ_ret, SeqQ_panic, BlockQ_normal, BlockQ_exit, BlockQ_goto, BlockQ_ret, BlockQ_panic, LoopQ_exit, LoopQ_goto, LoopQ_ret, LoopQ_panic, Ret_ret, if_true, if_false, Nat.reduceEqDiff, reduceIte]
      | ((apply EndQ.ret1 rfl); (· (simp only [look_cons, Nat.reduceBEq, cond_true, cond_false] <;> exact rfl)))
      | ((apply EndQ.ret2 rfl); (· (simp only [look_cons, Nat.reduceBEq, cond_true, cond_false] <;> exact rfl)); (· (simp only [look_cons, Nat.reduceBEq, cond_true, cond_false] <;> exact rfl)))
      | (refine EndQ.ret0 rfl ?_)
      | (refine EndQ.nor0 rfl ?_)
    by_cases hcase7 : (cnt t (xs.map fun x => -x) : Int) ≤ k
    all_goals
      simp only [hcase7, decide_true, decide_false] at hS7
      apply VL.callR (id := 21) (hE := Enters.of Try.func21 (by decide) (by decide)) (hR := hS7)
      · exact rfl
      · (simp (disch := omega) only [vset, ints, bools, strs, pairs_cons, pairs_nil, List.set_cons_zero, List.set_cons_succ, Int.zero_sub, Bool.not_true, Bool.not_false, List.take_succ_cons, List.take_zero, List.drop_succ_cons, List.drop_zero, if_true, Nat.reduceLT, decide_true, decide_eq_true, decide_eq_false, List.getElem?_eq_getElem, Nat.zero_add, Nat.reduceAdd, Nat.reduceBEq, cond_true, cond_false, Option.bind_some, Option.map_some, List.map_cons, List.map_nil, List.getElem?_toArray, List.getElem?_cons_zero, List.getElem?_cons_succ, List.getElem?_map, List.getElem_map, Nat.mul_one, Int.toNat_natCast, Int.reduceToNat, Nat.add_zero, vbin_eqlB ty4, vlen_sl ty22] <;> exact rfl)
      · (simp (disch := omega) only [vset, ints, bools, strs, pairs_cons, pairs_nil, List.set_cons_zero, List.set_cons_succ, Int.zero_sub, Bool.not_true, Bool.not_false, List.take_succ_cons, List.take_zero, List.drop_succ_cons, List.drop_zero, if_true, Nat.reduceLT, decide_true, decide_eq_true, decide_eq_false, List.getElem?_eq_getElem, Nat.zero_add, Nat.reduceAdd, Nat.reduceBEq, cond_true, cond_false, Option.bind_some, Option.map_some, List.map_cons, List.map_nil, List.getElem?_toArray, List.getElem?_cons_zero, List.getElem?_cons_succ, List.getElem?_map, List.getElem_map, Nat.mul_one, Int.toNat_natCast, Int.reduceToNat, Nat.add_zero, vbin_eqlB ty4, vlen_sl ty22] <;> exact rfl)
      · exact rfl
      · exact rfl
      rintro _ O8 ⟨rfl, hge8⟩
      apply VL.run tabOk
      · (simp (disch := omega) only [vset, ints, bools, strs, pairs_cons, pairs_nil, List.set_cons_zero, List.set_cons_succ, Int.zero_sub, Bool.not_true, Bool.not_false, List.take_succ_cons, List.take_zero, List.drop_succ_cons, List.drop_zero, if_true, Nat.reduceLT, decide_true, decide_eq_true, decide_eq_false, List.getElem?_eq_getElem, Nat.zero_add, Nat.reduceAdd, Nat.reduceBEq, cond_true, cond_false, Option.bind_some, Option.map_some, List.map_cons, List.map_nil, List.getElem?_toArray, List.getElem?_cons_zero, List.getElem?_cons_succ, List.getElem?_map, List.getElem_map, Nat.mul_one, Int.toNat_natCast, Int.reduceToNat, Nat.add_zero, vbin_eqlB ty4, vlen_sl ty22] <;> exact rfl)
      apply VL.callR (id := 15) (hE := Enters.of Try.func15 (by decide) (by decide)) (hR := lives_v O8)
      · exact rfl
      · (simp (disch := omega) only [vset, ints, bools, strs, pairs_cons, pairs_nil, List.set_cons_zero, List.set_cons_succ, Int.zero_sub, Bool.not_true, Bool.not_false, List.take_succ_cons, List.take_zero, List.drop_succ_cons, List.drop_zero, if_true, Nat.reduceLT, decide_true, decide_eq_true, decide_eq_false, List.getElem?_eq_getElem, Nat.zero_add, Nat.reduceAdd, Nat.reduceBEq, cond_true, cond_false, Option.bind_some, Option.map_some, List.map_cons, List.map_nil, List.getElem?_toArray, List.getElem?_cons_zero, List.getElem?_cons_succ, List.getElem?_map, List.getElem_map, Nat.mul_one, Int.toNat_natCast, Int.reduceToNat, Nat.add_zero] <;> exact rfl)
      · (simp (disch := omega) only [vset, ints, bools, strs, pairs_cons, pairs_nil, List.set_cons_zero, List.set_cons_succ, Int.zero_sub, Bool.not_true, Bool.not_false, List.take_succ_cons, List.take_zero, List.drop_succ_cons, List.drop_zero, if_true, Nat.reduceLT, decide_true, decide_eq_true, decide_eq_false, List.getElem?_eq_getElem, Nat.zero_add, Nat.reduceAdd, Nat.reduceBEq, cond_true, cond_false, Option.bind_some, Option.map_some, List.map_cons, List.map_nil, List.getElem?_toArray, List.getElem?_cons_zero, List.getElem?_cons_succ, List.getElem?_map, List.getElem_map, Nat.mul_one, Int.toNat_natCast, Int.reduceToNat, Nat.add_zero] <;> exact rfl)
      · exact rfl
      · exact rfl
      rintro _ O9 ⟨rfl, hge9⟩
      apply VL.run tabOk
      · (simp (disch := omega) only [vset, ints, bools, strs, pairs_cons, pairs_nil, List.set_cons_zero, List.set_cons_succ, Int.zero_sub, Bool.not_true, Bool.not_false, List.take_succ_cons, List.take_zero, List.drop_succ_cons, List.drop_zero, if_true, Nat.reduceLT, decide_true, decide_eq_true, decide_eq_false, List.getElem?_eq_getElem, Nat.zero_add, Nat.reduceAdd, Nat.reduceBEq, cond_true, cond_false, Option.bind_some, Option.map_some, List.map_cons, List.map_nil, List.getElem?_toArray, List.getElem?_cons_zero, List.getElem?_cons_succ, List.getElem?_map, List.getElem_map, Nat.mul_one, Int.toNat_natCast, Int.reduceToNat, Nat.add_zero] <;> exact rfl)
      repeat' first
        | with_reducible refine VC.seq' ?_
        | with_reducible refine VC.block' ?_
        | with_reducible refine VC.skip ?_
        | with_reducible refine VC.exit ?_
        | with_reducible refine VC.ret ?_
        | with_reducible refine VL.nil ?_
        | ((first | with_reducible apply VC.plainL | with_reducible apply VC.readsL (by kernel_rfl) (by kernel_rfl) (by kernel_rfl)); (with_reducible apply VL.run tabOk); (· (simp (disch := omega) only [vset, ints, bools, strs, pairs_cons, pairs_nil, List.set_cons_zero, List.set_cons_succ, Int.zero_sub, Bool.not_true, Bool.not_false, List.take_succ_cons, List.take_zero, List.drop_succ_cons, List.drop_zero, if_true, Nat.reduceLT, decide_true, decide_eq_true, decide_eq_false, List.getElem?_eq_getElem, Nat.zero_add, Nat.reduceAdd, Nat.reduceBEq, cond_true, cond_false, Option.bind_some, Option.map_some, List.map_cons, List.map_nil, List.getElem?_toArray, List.getElem?_cons_zero, List.getElem?_cons_succ, List.getElem?_map, List.getElem_map, Nat.mul_one, Int.toNat_natCast, Int.reduceToNat, Nat.add_zero] <;> exact rfl)))
        | ((with_reducible apply VC.cond); (· (simp (disch := omega) only [vset, ints, bools, strs, pairs_cons, pairs_nil, List.set_cons_zero, List.set_cons_succ, Int.zero_sub, Bool.not_true, Bool.not_false, List.take_succ_cons, List.take_zero, List.drop_succ_cons, List.drop_zero, if_true, Nat.reduceLT, decide_true, decide_eq_true, decide_eq_false, List.getElem?_eq_getElem, Nat.zero_add, Nat.reduceAdd, Nat.reduceBEq, cond_true, cond_false, Option.bind_some, Option.map_some, List.map_cons, List.map_nil, List.getElem?_toArray, List.getElem?_cons_zero, List.getElem?_cons_succ, List.getElem?_map, List.getElem_map, Nat.mul_one, Int.toNat_natCast, Int.reduceToNat, Nat.add_zero] <;> exact rfl)); all_goals (intro hcond; try simp only [decide_eq_true_eq, decide_eq_false_iff_not, beq_iff_eq, beq_eq_false_iff_ne, bne_iff_ne, bne_eq_false_iff_eq, ne_eq, reduceCtorEq] at hcond))
        | simp only [RoundQ_exit, RoundQ_goto, RoundQ_ret, RoundQ_panic, SeqQ_normal, SeqQ_exit, SeqQ_goto, SeqQ_ret, SeqQ_panic, BlockQ_normal, BlockQ_exit, BlockQ_goto, BlockQ_ret, BlockQ_panic, LoopQ_exit, LoopQ_goto, LoopQ_ret, LoopQ_panic, Ret_ret, if_true, if_false, Nat.reduceEqDiff, reduceIte]
        | ((apply EndQ.ret1 rfl); (· (simp only [look_cons, Nat.reduceBEq, cond_true, cond_false] <;> exact rfl)))
        | ((apply EndQ.ret2 rfl); (· (simp only [look_cons, Nat.reduceBEq, cond_true, cond_false] <;> exact rfl)); (· (simp only [look_cons, Nat.reduceBEq, cond_true, cond_false] <;> exact rfl)))
        | (refine EndQ.ret0 rfl ?_)
        | (refine EndQ.nor0 rfl ?_)
      exact rfl
end Go.Proofs.Ytcfoongiffpnlaa
