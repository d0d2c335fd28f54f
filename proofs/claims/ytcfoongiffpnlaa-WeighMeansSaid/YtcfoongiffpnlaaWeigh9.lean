/-
  The plain law of WeighMeans: truths can be gone on to such that make all clauses true just if at most so many literals are true.
-/
import Derived.Test.YtcfoongiffpnlaaWeigh8
set_option linter.unusedVariables false
set_option linter.unusedSimpArgs false
namespace Go.Proofs.Ytcfoongiffpnlaa

theorem tru_neg_pos (ts : List Bool) (n : Int) (h : n ≠ 0) : tru (-n) 0 ts = !tru n 0 ts := by
  rw [tru_isT ts n h, tru_isT ts (-n) (by omega), isT_eq ts n h, isT_eq ts (-n) (by omega)]
  rw [show max (-n) (- -n) = max n (-n) by omega]
  by_cases hp : n > 0
  · rw [decide_eq_true hp, decide_eq_false (by omega : ¬ -n > 0)]; cases (ts[(max n (-n) - 1).toNat]?).getD false <;> rfl
  · rw [decide_eq_false hp, decide_eq_true (by omega : -n > 0)]; cases (ts[(max n (-n) - 1).toNat]?).getD false <;> rfl
theorem bitsN_cons (k v : Nat) (b : Bool) : bitsN (2 * k + b.toNat) (v + 1) = b :: bitsN k v := by
  unfold bitsN
  rw [List.range_succ_eq_map, List.map_cons, List.map_map]
  congr 1
  · cases b <;> simp <;> omega
  · apply List.map_congr_left
    intro j _
    show decide ((2 * k + b.toNat) / 2 ^ (j + 1) % 2 = 1) = _
    rw [Nat.pow_succ, Nat.mul_comm (2 ^ j), ← Nat.div_div_eq_div_mul, show (2 * k + b.toNat) / 2 = k by cases b <;> simp <;> omega]
theorem bitsN_all : ∀ (ts : List Bool), ∃ k, k < 2 ^ ts.length ∧ bitsN k ts.length = ts
  | [] => ⟨0, by simp, rfl⟩
  | b :: l => by
    obtain ⟨k, h1, h2⟩ := bitsN_all l
    refine ⟨2 * k + b.toNat, ?_, ?_⟩
    · rw [List.length_cons, Nat.pow_succ]; cases b <;> simp <;> omega
    · rw [List.length_cons, bitsN_cons, h2]
theorem someB_iff (cl : List (List Int)) (v : Nat) : someB cl v = true ↔ ∃ ts : List Bool, ts.length = v ∧ ∀ c ∈ cl, clT ts c = true := by
  rw [someB, List.any_eq_true]
  constructor
  · rintro ⟨k, _, h⟩
    exact ⟨bitsN k v, bitsN_len k v, List.all_eq_true.1 h⟩
  · rintro ⟨ts, rfl, h⟩
    obtain ⟨k, h1, h2⟩ := bitsN_all ts
    exact ⟨k, List.mem_range.2 h1, by rw [h2]; exact List.all_eq_true.2 h⟩

def ct (T : Int → Bool) (l : List Int) : Nat := (l.filter T).length
theorem ct_snoc (T : Int → Bool) (xs : List Int) (i : Nat) (h : i < xs.length) : ct T (xs.take (i + 1)) = ct T (xs.take i) + if T (xs.getD i 0) then 1 else 0 := by
  have hg : xs.getD i 0 = xs[i] := by rw [List.getD_eq_getElem?_getD, List.getElem?_eq_getElem h]; rfl
  rw [hg, take_snoc _ _ h, ct, List.filter_append, List.length_append]
  cases hT : T xs[i] <;> simp [List.filter_cons, hT, ct]
theorem ct_le (T : Int → Bool) (xs : List Int) (i : Nat) : ct T (xs.take i) ≤ i := Nat.le_trans (List.length_filter_le _ _) (List.length_take_le _ _)

section
variable {xs : List Int} {K : Nat} {next : Int}
theorem mem_head : [-(xs.getD 0 0), S K next 1 1] ∈ aMain xs K next := by simp [aMain, aHead]
theorem mem_row {r : Nat} (hr : r + 2 < xs.length) {c : List Int} (hc : c ∈ aRow K next (xs.getD (r + 1) 0) (r + 2)) : c ∈ aMain xs K next := by
  simp only [aMain, List.mem_append, List.mem_flatMap, List.mem_range]
  exact .inl (.inr ⟨r, by omega, hc⟩)
theorem mem_last : [-(xs.getD (xs.length - 1) 0), -(S K next (xs.length - 1) K)] ∈ aMain xs K next := by simp [aMain]
end

/-- What makes all clauses true makes at most k literals true. -/
theorem sound {xs : List Int} {K : Nat} {next : Int} (hk : 1 ≤ K) (hkn : K < xs.length) (hx : ∀ x ∈ xs, x ≠ 0) (hnx : 1 ≤ next) {ts : List Bool} (h : ∀ c ∈ aMain xs K next, clT ts c = true) : ct (tru · 0 ts) xs ≤ K := by
  have hx0 : ∀ i, i < xs.length → xs.getD i 0 ≠ 0 := fun i hi => hx _ (getD_mem hi)
  have hS : ∀ i j : Nat, 1 ≤ i → 1 ≤ j → S K next i j ≠ 0 := fun i j hi hj => by
    unfold S
    have : 0 ≤ ((i : Int) - 1) * (K : Int) := Int.mul_nonneg (by omega) (by omega)
    omega
  have c2 : ∀ {a b : Int}, a ≠ 0 → [-a, b] ∈ aMain xs K next → tru a 0 ts = true → tru b 0 ts = true := fun {a b} h0 hc ha => by
    have := h _ hc
    simp only [clT, List.any_cons, List.any_nil, Bool.or_false, tru_neg_pos ts a h0, ha] at this
    simpa using this
  have c3 : ∀ {a b c : Int}, a ≠ 0 → b ≠ 0 → [-a, -b, c] ∈ aMain xs K next → tru a 0 ts = true → tru b 0 ts = true → tru c 0 ts = true := fun {a b c} h0 h1 hc ha hb => by
    have := h _ hc
    simp only [clT, List.any_cons, List.any_nil, Bool.or_false, tru_neg_pos ts a h0, tru_neg_pos ts b h1, ha, hb] at this
    simpa using this
  have cn : ∀ {a b : Int}, a ≠ 0 → b ≠ 0 → [-a, -b] ∈ aMain xs K next → tru a 0 ts = true → tru b 0 ts = true → False := fun {a b} h0 h1 hc ha hb => by
    have := h _ hc
    simp only [clT, List.any_cons, List.any_nil, Bool.or_false, tru_neg_pos ts a h0, tru_neg_pos ts b h1, ha, hb] at this
    simp at this
  have key : ∀ i : Nat, i + 2 ≤ xs.length → ∀ j : Nat, 1 ≤ j → j ≤ K → j ≤ ct (tru · 0 ts) (xs.take (i + 1)) → tru (S K next ((i + 1 : Nat) : Int) j) 0 ts = true := by
    intro i
    induction i with
    | zero =>
      intro hi j h1 h2 h3
      have hc := ct_snoc (tru · 0 ts) xs 0 (by omega)
      rw [List.take_zero] at hc
      have hz : ct (tru · 0 ts) [] = 0 := rfl
      have : j = 1 ∧ tru (xs.getD 0 0) 0 ts = true := by
        cases hT : tru (xs.getD 0 0) 0 ts <;> rw [hT] at hc <;> simp only [hz, Bool.false_eq_true, if_false, if_true] at hc
        · omega
        · exact ⟨by omega, rfl⟩
      obtain ⟨rfl, hT⟩ := this
      exact c2 (hx0 0 (by omega)) mem_head hT
    | succ i ih =>
      intro hi j h1 h2 h3
      have ih := ih (by omega)
      have hc := ct_snoc (tru · 0 ts) xs (i + 1) (by omega)
      have hr : ∀ {c}, c ∈ aRow K next (xs.getD (i + 1) 0) ((i : Int) + 2) → c ∈ aMain xs K next := fun hc => mem_row (by omega) hc
      have e1 : ((i + 1 + 1 : Nat) : Int) = (i : Int) + 2 := by omega
      have e2 : (i : Int) + 2 - 1 = ((i + 1 : Nat) : Int) := by omega
      by_cases h4 : j ≤ ct (tru · 0 ts) (xs.take (i + 1))
      · have h5 := ih j h1 h2 h4
        refine c2 (hS (i + 1) j (by omega) h1) ?_ h5
        apply hr
        rw [e1, ← e2]
        by_cases hj : j = 1
        · subst hj
          simp [aRow, aRow1]
        · simp only [aRow, aRowJ, List.mem_append, List.mem_flatMap, List.mem_range, List.mem_cons, List.not_mem_nil, or_false]
          refine .inl (.inr ⟨j - 2, by omega, .inr ?_⟩)
          rw [show ((j - 2 : Nat) : Int) + 2 = j by omega]
      · have hT : tru (xs.getD (i + 1) 0) 0 ts = true ∧ ct (tru · 0 ts) (xs.take (i + 1)) = j - 1 := by
          cases hT : tru (xs.getD (i + 1) 0) 0 ts <;> rw [hT] at hc <;> simp only [Bool.false_eq_true, if_false, if_true] at hc
          · omega
          · exact ⟨rfl, by omega⟩
        by_cases hj : j = 1
        · subst hj
          refine c2 (hx0 _ (by omega)) ?_ hT.1
          apply hr
          rw [e1]
          simp [aRow, aRow1]
        · have h5 := ih (j - 1) (by omega) (by omega) (by omega)
          refine c3 (hx0 _ (by omega)) (hS (i + 1) (j - 1) (by omega) (by omega)) ?_ hT.1 h5
          apply hr
          rw [e1, ← e2]
          simp only [aRow, aRowJ, List.mem_append, List.mem_flatMap, List.mem_range, List.mem_cons, List.not_mem_nil, or_false]
          refine .inl (.inr ⟨j - 2, by omega, .inl ?_⟩)
          rw [show ((j - 2 : Nat) : Int) + 2 = j by omega, show ((j - 1 : Nat) : Int) = (j : Int) - 1 by omega]
  have all : ∀ i : Nat, i ≤ xs.length → ct (tru · 0 ts) (xs.take i) ≤ K := by
    intro i
    induction i with
    | zero => intro _; simp [ct]
    | succ i ih =>
      intro hi
      have ih := ih (by omega)
      have hc := ct_snoc (tru · 0 ts) xs i (by omega)
      cases hT : tru (xs.getD i 0) 0 ts with
      | false => rw [hT] at hc; simp only [Bool.false_eq_true, if_false] at hc; omega
      | true =>
        rw [hT] at hc
        simp only [if_true] at hc
        by_cases h4 : ct (tru · 0 ts) (xs.take i) < K
        · omega
        exfalso
        have hle := ct_le (tru · 0 ts) xs i
        obtain ⟨m, rfl⟩ : ∃ m, i = m + 1 := ⟨i - 1, by omega⟩
        have hSk := key m (by omega) K hk (Nat.le_refl _) (by omega)
        refine cn (hx0 _ (by omega)) (hS (m + 1) K (by omega) hk) ?_ hT hSk
        by_cases hl : m + 2 < xs.length
        · apply mem_row hl
          rw [show ((m + 1 : Nat) : Int) = (m : Int) + 2 - 1 by omega]
          simp [aRow]
        · have := mem_last (xs := xs) (K := K) (next := next)
          rw [show xs.length - 1 = m + 1 by omega, show (xs.length : Int) - 1 = ((m + 1 : Nat) : Int) by omega] at this
          exact this
  have := all xs.length (Nat.le_refl _)
  rwa [List.take_length] at this

/-- The other way: the further variables told by the counts. -/
theorem complete {xs : List Int} {K : Nat} {next : Int} (hk : 1 ≤ K) (hkn : K < xs.length) (hx : ∀ x ∈ xs, x ≠ 0) (hnx : 1 ≤ next) {ts : List Bool} (hc : ct (tru · 0 ts) xs ≤ K)
    (hs : ∀ i j : Nat, 1 ≤ i → i < xs.length → 1 ≤ j → j ≤ K → tru (S K next i j) 0 ts = decide (j ≤ ct (tru · 0 ts) (xs.take i))) : ∀ c ∈ aMain xs K next, clT ts c = true := by
  have hx0 : ∀ i, i < xs.length → xs.getD i 0 ≠ 0 := fun i hi => hx _ (getD_mem hi)
  have hS : ∀ i j : Nat, 1 ≤ i → 1 ≤ j → S K next i j ≠ 0 := fun i j hi hj => by
    unfold S
    have : 0 ≤ ((i : Int) - 1) * (K : Int) := Int.mul_nonneg (by omega) (by omega)
    omega
  have hmono : ∀ i, i < xs.length → ct (tru · 0 ts) (xs.take i) + (if tru (xs.getD i 0) 0 ts then 1 else 0) = ct (tru · 0 ts) (xs.take (i + 1)) := fun i hi => (ct_snoc _ xs i hi).symm
  have htot : ∀ i, ct (tru · 0 ts) (xs.take i) ≤ K := fun i => Nat.le_trans (((List.take_sublist i xs).filter _).length_le) hc
  have lit : ∀ i j : Nat, 1 ≤ i → i < xs.length → 1 ≤ j → j ≤ K → tru (-(S K next i j)) 0 ts = !decide (j ≤ ct (tru · 0 ts) (xs.take i)) := fun i j a b c d => by
    rw [tru_neg_pos ts _ (hS i j a c), hs i j a b c d]
  have lx : ∀ i, i < xs.length → tru (-(xs.getD i 0)) 0 ts = !tru (xs.getD i 0) 0 ts := fun i hi => tru_neg_pos ts _ (hx0 i hi)
  intro c hcm
  simp only [aMain, aHead, List.mem_append, List.mem_map, List.mem_range, List.mem_flatMap, List.mem_cons, List.not_mem_nil, or_false] at hcm
  rcases hcm with ((rfl | ⟨j, hj, rfl⟩) | ⟨i, hi, h⟩) | rfl
  · have h1 : _ = ct (tru · 0 ts) (xs.take 1) := hmono 0 (by omega)
    have h2 := hs 1 1 (by omega) (by omega) (by omega) hk
    rw [List.take_zero] at h1
    have hz : ct (tru · 0 ts) [] = 0 := rfl
    simp only [clT, List.any_cons, List.any_nil, Bool.or_false, lx 0 (by omega)]
    rw [show S (K : Int) next 1 1 = S K next ((1 : Nat) : Int) ((1 : Nat) : Int) from rfl, h2]
    cases hT : tru (xs.getD 0 0) 0 ts
    · rfl
    · rw [hT] at h1; simp only [if_true, hz] at h1
      simp; omega
  · have h2 := lit 1 (j + 2) (by omega) (by omega) (by omega) (by omega)
    have := ct_le (tru · 0 ts) xs 1
    simp only [aHeadJ, clT, List.any_cons, List.any_nil, Bool.or_false]
    rw [show S (K : Int) next 1 ((j : Int) + 2) = S K next ((1 : Nat) : Int) ((j + 2 : Nat) : Int) from rfl, h2, decide_eq_false (by omega)]; rfl
  · have e1 : (i : Int) + 2 = ((i + 2 : Nat) : Int) := rfl
    have e2 : ((i + 2 : Nat) : Int) - 1 = ((i + 1 : Nat) : Int) := by omega
    have hm : ct (tru · 0 ts) (xs.take (i + 1)) + (if tru (xs.getD (i + 1) 0) 0 ts then 1 else 0) = ct (tru · 0 ts) (xs.take (i + 2)) := hmono (i + 1) (by omega)
    have lxi := lx (i + 1) (by omega)
    have hs2 := fun j => hs (i + 2) j (by omega) (by omega)
    have hl1 := fun j => lit (i + 1) j (by omega) (by omega)
    have ht2 := htot (i + 2)
    simp only [aRow, aRow1, aRowJ, List.mem_append, List.mem_flatMap, List.mem_range, List.mem_cons, List.not_mem_nil, or_false, e1, e2] at h
    rcases h with ((rfl | rfl) | ⟨j, hj, rfl | rfl⟩) | rfl <;> simp only [clT, List.any_cons, List.any_nil, Bool.or_false, lxi]
    · rw [show S (K : Int) next ((i + 2 : Nat) : Int) 1 = S K next ((i + 2 : Nat) : Int) ((1 : Nat) : Int) from rfl, hs2 1 (by omega) hk]
      cases hT : tru (xs.getD (i + 1) 0) 0 ts
      · rfl
      · rw [hT] at hm; simp only [if_true] at hm; simp; omega
    · rw [show S (K : Int) next ((i + 2 : Nat) : Int) 1 = S K next ((i + 2 : Nat) : Int) ((1 : Nat) : Int) from rfl, show S (K : Int) next ((i + 1 : Nat) : Int) 1 = S K next ((i + 1 : Nat) : Int) ((1 : Nat) : Int) from rfl, hs2 1 (by omega) hk, hl1 1 (by omega) hk]
      by_cases h5 : 1 ≤ ct (tru · 0 ts) (xs.take (i + 1))
      · rw [decide_eq_true (by omega : 1 ≤ ct (tru · 0 ts) (xs.take (i + 2)))]; simp
      · rw [decide_eq_false h5]; simp
    · rw [show ((j : Int) + 2 - 1) = ((j + 1 : Nat) : Int) by omega, show ((j : Int) + 2) = ((j + 2 : Nat) : Int) from rfl, hs2 (j + 2) (by omega) (by omega), hl1 (j + 1) (by omega) (by omega)]
      cases hT : tru (xs.getD (i + 1) 0) 0 ts
      · rfl
      · rw [hT] at hm; simp only [if_true] at hm
        by_cases h5 : j + 1 ≤ ct (tru · 0 ts) (xs.take (i + 1))
        · rw [decide_eq_true (by omega : j + 2 ≤ ct (tru · 0 ts) (xs.take (i + 2)))]; simp
        · rw [decide_eq_false h5]; simp
    · rw [show ((j : Int) + 2) = ((j + 2 : Nat) : Int) from rfl, hs2 (j + 2) (by omega) (by omega), hl1 (j + 2) (by omega) (by omega)]
      by_cases h5 : j + 2 ≤ ct (tru · 0 ts) (xs.take (i + 1))
      · rw [decide_eq_true (by omega : j + 2 ≤ ct (tru · 0 ts) (xs.take (i + 2)))]; simp
      · rw [decide_eq_false h5]; simp
    · rw [hl1 K hk (Nat.le_refl _)]
      cases hT : tru (xs.getD (i + 1) 0) 0 ts
      · rfl
      · rw [hT] at hm; simp only [if_true] at hm
        rw [decide_eq_false (by omega)]; rfl
  · have e2 : (xs.length : Int) - 1 = ((xs.length - 1 : Nat) : Int) := by omega
    have hm := hmono (xs.length - 1) (by omega)
    rw [show xs.length - 1 + 1 = xs.length by omega] at hm
    have := htot xs.length
    simp only [clT, List.any_cons, List.any_nil, Bool.or_false, lx (xs.length - 1) (by omega)]
    rw [e2, lit (xs.length - 1) K (by omega) (by omega) hk (Nat.le_refl _)]
    cases hT : tru (xs.getD (xs.length - 1) 0) 0 ts
    · rfl
    · rw [hT] at hm; simp only [if_true] at hm
      rw [decide_eq_false (by omega)]; rfl
end Go.Proofs.Ytcfoongiffpnlaa
