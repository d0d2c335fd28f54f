/-
  Texts BndU BndV BndW, one behind the other.
-/
import Derived.Test.YtbpnmkmlicbfoaaDoorMN
/-
  What both of two ranges have: plain facts.
-/
set_option linter.unusedVariables false
set_option linter.unusedSimpArgs false
namespace Go.Proofs.YtbpnmkmlicbfoaaDoor
open Go.RowKit
set_option maxRecDepth 10000
theorem count_le {α : Type} (p q : α → Bool) : ∀ S : List α, (∀ z ∈ S, p z = true → q z = true) → (S.filter p).length ≤ (S.filter q).length
  | [], _ => Nat.le_refl _
  | x :: S, h => by
    have ih := count_le p q S fun z hz => h z (List.mem_cons_of_mem _ hz)
    have hx := h x (by simp)
    cases hp : p x
    · cases hq : q x <;> simp [hp, hq] <;> omega
    · simp [hp, hx hp]; exact ih
theorem count_lt {α : Type} (p q : α → Bool) : ∀ S : List α, (∀ z ∈ S, p z = true → q z = true) → (∃ x ∈ S, q x = true ∧ p x = false) → (S.filter p).length < (S.filter q).length
  | [], _, ⟨x, h, _⟩ => by cases h
  | x :: S, h, ⟨y, hy, h1, h2⟩ => by
    have hh : ∀ z ∈ S, p z = true → q z = true := fun z hz => h z (List.mem_cons_of_mem _ hz)
    have hx := h x (by simp)
    rcases List.mem_cons.1 hy with rfl | hy
    · have := count_le p q S hh
      simp [h1, h2]; omega
    · have ih := count_lt p q S hh ⟨y, hy, h1, h2⟩
      cases hp : p x
      · cases hq : q x <;> simp [hp, hq] <;> omega
      · simp [hp, hx hp]; exact ih
/-- Some versions, as numbers. -/
theorem cmp_rank (S : List (List UInt8)) : ∃ ρ : List UInt8 → Nat, ∀ x ∈ S, ∀ y ∈ S, (ρ x < ρ y ∧ compareV x y = -1 ∧ compareV y x = 1) ∨ (ρ x = ρ y ∧ compareV x y = 0 ∧ compareV y x = 0) ∨ (ρ y < ρ x ∧ compareV x y = 1 ∧ compareV y x = -1) := by
  refine ⟨fun x => (S.filter fun z => compareV z x == -1).length, fun x hx y hy => ?_⟩
  have lt : ∀ x ∈ S, ∀ y, compareV x y = -1 → (S.filter fun z => compareV z x == -1).length < (S.filter fun z => compareV z y == -1).length := fun x hx y h =>
    count_lt _ _ _ (fun z _ hz => by simp only [beq_iff_eq] at hz ⊢; exact compareV_cmp.tr z x y hz h) ⟨x, hx, by simp [h], by simp [compareV_cmp.refl x]⟩
  have an := compareV_cmp.anti x y
  rcases compareV_cmp.rng x y with e | e | e
  · exact .inl ⟨lt x hx y e, e, by rw [an, e]; rfl⟩
  · have : (fun z => compareV z x == -1) = fun z => compareV z y == -1 := funext fun z => by rw [compareV_cmp.eqR z x y e]
    exact .inr (.inl ⟨by dsimp only; rw [this], e, by rw [an, e]; rfl⟩)
  · exact .inr (.inr ⟨lt y hy x (by rw [an, e]), e, by rw [an, e]⟩)
set_option maxHeartbeats 2000000 in
theorem tight_lo (a b : En) (v : List UInt8) : belowF (tightF true a b) (true, v, true) = (belowF a (true, v, true) && belowF b (true, v, true)) := by
  obtain ⟨h1, v1, c1⟩ := a
  obtain ⟨h2, v2, c2⟩ := b
  obtain ⟨ρ, hρ⟩ := cmp_rank [v1, v2, v]
  have s12 := hρ v1 (by simp) v2 (by simp)
  have s13 := hρ v1 (by simp) v (by simp)
  have s23 := hρ v2 (by simp) v (by simp)
  generalize ρ v1 = r1 at *
  generalize ρ v2 = r2 at *
  generalize ρ v = r3 at *
  clear hρ
  unfold tightF
  dsimp only
  rcases s12 with ⟨a1, e12, e21⟩ | ⟨a1, e12, e21⟩ | ⟨a1, e12, e21⟩ <;> rcases s13 with ⟨a2, e13, e31⟩ | ⟨a2, e13, e31⟩ | ⟨a2, e13, e31⟩ <;> rcases s23 with ⟨a3, e23, e32⟩ | ⟨a3, e23, e32⟩ | ⟨a3, e23, e32⟩ <;> first
    | omega
    | (clear a1 a2 a3
       rw [e12]
       cases h1 <;> cases h2 <;> cases c1 <;> cases c2 <;> simp [belowF, e12, e13, e23, e21, e31, e32])
set_option maxHeartbeats 2000000 in
theorem tight_hi (a b : En) (v : List UInt8) : belowF (true, v, true) (tightF false a b) = (belowF (true, v, true) a && belowF (true, v, true) b) := by
  obtain ⟨h1, v1, c1⟩ := a
  obtain ⟨h2, v2, c2⟩ := b
  obtain ⟨ρ, hρ⟩ := cmp_rank [v1, v2, v]
  have s12 := hρ v1 (by simp) v2 (by simp)
  have s13 := hρ v1 (by simp) v (by simp)
  have s23 := hρ v2 (by simp) v (by simp)
  generalize ρ v1 = r1 at *
  generalize ρ v2 = r2 at *
  generalize ρ v = r3 at *
  clear hρ
  unfold tightF
  dsimp only
  rcases s12 with ⟨a1, e12, e21⟩ | ⟨a1, e12, e21⟩ | ⟨a1, e12, e21⟩ <;> rcases s13 with ⟨a2, e13, e31⟩ | ⟨a2, e13, e31⟩ | ⟨a2, e13, e31⟩ <;> rcases s23 with ⟨a3, e23, e32⟩ | ⟨a3, e23, e32⟩ | ⟨a3, e23, e32⟩ <;> first
    | omega
    | (clear a1 a2 a3; rw [e12]; cases h1 <;> cases h2 <;> cases c1 <;> cases c2 <;> simp [belowF, e12, e13, e23, e21, e31, e32])
set_option maxHeartbeats 2000000 in
theorem in_below {x : Iv} {v : List UInt8} (h : inF x v = true) : belowF x.1 x.2 = true := by
  obtain ⟨⟨h1, v1, c1⟩, ⟨h2, v2, c2⟩⟩ := x
  obtain ⟨ρ, hρ⟩ := cmp_rank [v1, v2, v]
  have s12 := hρ v1 (by simp) v2 (by simp)
  have s13 := hρ v1 (by simp) v (by simp)
  have s23 := hρ v2 (by simp) v (by simp)
  generalize ρ v1 = r1 at *
  generalize ρ v2 = r2 at *
  generalize ρ v = r3 at *
  clear hρ
  unfold inF at h
  dsimp only at h ⊢
  revert h
  rcases s12 with ⟨a1, e12, e21⟩ | ⟨a1, e12, e21⟩ | ⟨a1, e12, e21⟩ <;> rcases s13 with ⟨a2, e13, e31⟩ | ⟨a2, e13, e31⟩ | ⟨a2, e13, e31⟩ <;> rcases s23 with ⟨a3, e23, e32⟩ | ⟨a3, e23, e32⟩ | ⟨a3, e23, e32⟩ <;> first
    | omega
    | (clear a1 a2 a3; cases h1 <;> cases h2 <;> cases c1 <;> cases c2 <;> simp [belowF, e12, e13, e23, e21, e31, e32])
set_option maxHeartbeats 2000000 in
theorem ahead_hi {h l p : En} (hh : aheadF h l = true) : aheadF (tightF false h p) l = true ∧ aheadF (tightF false p h) l = true := by
  obtain ⟨h1, v1, c1⟩ := h
  obtain ⟨h2, v2, c2⟩ := l
  obtain ⟨h3, v3, c3⟩ := p
  obtain ⟨ρ, hρ⟩ := cmp_rank [v1, v2, v3]
  have s12 := hρ v1 (by simp) v2 (by simp)
  have s13 := hρ v1 (by simp) v3 (by simp)
  have s23 := hρ v2 (by simp) v3 (by simp)
  generalize ρ v1 = r1 at *
  generalize ρ v2 = r2 at *
  generalize ρ v3 = r3 at *
  clear hρ
  unfold tightF
  revert hh
  dsimp only
  rw [aheadF]
  dsimp only
  cases h1
  · intro h; cases h
  cases h2
  · intro h; cases h
  rcases s12 with ⟨a1, e12, e21⟩ | ⟨a1, e12, e21⟩ | ⟨a1, e12, e21⟩ <;> rcases s13 with ⟨a2, e13, e31⟩ | ⟨a2, e13, e31⟩ | ⟨a2, e13, e31⟩ <;> rcases s23 with ⟨a3, e23, e32⟩ | ⟨a3, e23, e32⟩ | ⟨a3, e23, e32⟩ <;> first
    | omega
    | (clear a1 a2 a3; rw [e12, e13, e31]; cases h3 <;> cases c1 <;> cases c2 <;> cases c3 <;> simp [aheadF, e12, e13, e23, e21, e31, e32])
set_option maxHeartbeats 2000000 in
theorem ahead_lo {h l p : En} (hh : aheadF h l = true) : aheadF h (tightF true l p) = true ∧ aheadF h (tightF true p l) = true := by
  obtain ⟨h1, v1, c1⟩ := h
  obtain ⟨h2, v2, c2⟩ := l
  obtain ⟨h3, v3, c3⟩ := p
  obtain ⟨ρ, hρ⟩ := cmp_rank [v1, v2, v3]
  have s12 := hρ v1 (by simp) v2 (by simp)
  have s13 := hρ v1 (by simp) v3 (by simp)
  have s23 := hρ v2 (by simp) v3 (by simp)
  generalize ρ v1 = r1 at *
  generalize ρ v2 = r2 at *
  generalize ρ v3 = r3 at *
  clear hρ
  unfold tightF
  revert hh
  dsimp only
  rw [aheadF]
  dsimp only
  cases h1
  · intro h; cases h
  cases h2
  · intro h; cases h
  rcases s12 with ⟨a1, e12, e21⟩ | ⟨a1, e12, e21⟩ | ⟨a1, e12, e21⟩ <;> rcases s13 with ⟨a2, e13, e31⟩ | ⟨a2, e13, e31⟩ | ⟨a2, e13, e31⟩ <;> rcases s23 with ⟨a3, e23, e32⟩ | ⟨a3, e23, e32⟩ | ⟨a3, e23, e32⟩ <;> first
    | omega
    | (clear a1 a2 a3; rw [e12, e23, e32]; cases h3 <;> cases c1 <;> cases c2 <;> cases c3 <;> simp [aheadF, e12, e13, e23, e21, e31, e32])
/-- Ahead of what is below what is ahead. -/
theorem ahead_below {h l l' : En} (h1 : aheadF h l = true) {k : En} (h2 : belowF l k = true) (h3 : aheadF k l' = true) : aheadF h l' = true := by
  obtain ⟨b1, v1, c1⟩ := h
  obtain ⟨b2, v2, c2⟩ := l
  obtain ⟨b3, v3, c3⟩ := k
  obtain ⟨b4, v4, c4⟩ := l'
  simp only [aheadF, belowF, Bool.and_eq_true, Bool.or_eq_true, decide_eq_true_eq, Bool.not_eq_true', beq_iff_eq, Bool.and_eq_false_iff] at h1 h2 h3 ⊢
  obtain ⟨⟨rfl, rfl⟩, h1⟩ := h1
  obtain ⟨⟨rfl, rfl⟩, h3⟩ := h3
  obtain ⟨ρ, hρ⟩ := cmp_rank [v1, v2, v3, v4]
  have s12 := hρ v1 (by simp) v2 (by simp)
  have s23 := hρ v2 (by simp) v3 (by simp)
  have s34 := hρ v3 (by simp) v4 (by simp)
  have s14 := hρ v1 (by simp) v4 (by simp)
  generalize ρ v1 = r1 at *
  generalize ρ v2 = r2 at *
  generalize ρ v3 = r3 at *
  generalize ρ v4 = r4 at *
  refine ⟨by simp, ?_⟩
  have h2 : compareV v2 v3 < 0 ∨ (compareV v2 v3 = 0 ∧ c2 = true) ∧ c3 = true := by simpa using h2
  rcases s14 with ⟨a4, e14, _⟩ | ⟨a4, e14, _⟩ | ⟨a4, e14, _⟩
  · exact .inl (by omega)
  · refine .inr ⟨e14, ?_⟩
    have f1 : r1 ≤ r2 := by rcases h1 with h | ⟨h, _⟩ <;> omega
    have f2 : r2 ≤ r3 := by rcases h2 with h | ⟨⟨h, _⟩, _⟩ <;> omega
    have f3 : r3 ≤ r4 := by rcases h3 with h | ⟨h, _⟩ <;> omega
    have g1 : compareV v1 v2 = 0 := by omega
    have g2 : compareV v2 v3 = 0 := by omega
    have g3 : compareV v3 v4 = 0 := by omega
    rcases h1 with h | ⟨_, h⟩
    · omega
    rcases h3 with h' | ⟨_, h'⟩
    · omega
    rcases h2 with h'' | ⟨⟨_, k1⟩, k2⟩
    · omega
    rcases h with h | h
    · exact .inl h
    · rw [k1] at h; cases h
  · have f1 : r1 ≤ r2 := by rcases h1 with h | ⟨h, _⟩ <;> omega
    have f2 : r2 ≤ r3 := by rcases h2 with h | ⟨⟨h, _⟩, _⟩ <;> omega
    have f3 : r3 ≤ r4 := by rcases h3 with h | ⟨h, _⟩ <;> omega
    omega
/-- An interval that may be. -/
def ivOk (p : Iv) : Prop := endOk p.1 = true ∧ endOk p.2 = true ∧ belowF p.1 p.2 = true
theorem row_ahead : ∀ (L : List Iv) (h : En), okRow (some h) L = true → (∀ q ∈ L, aheadF h q.1 = true)
  | [], _, _, q, hq => by cases hq
  | p :: r, h, ho, q, hq => by
    simp only [okRow, aheadO, Bool.and_eq_true] at ho
    rcases List.mem_cons.1 hq with rfl | hq
    · exact ho.1.2.2.2
    · exact ahead_below ho.1.2.2.2 ho.1.2.2.1 (row_ahead r p.2 ho.2 q hq)
theorem row_iff (L : List Iv) : ∀ pr, okRow pr L = true ↔ (∀ p ∈ L, ivOk p) ∧ (L.Pairwise fun p q => aheadF p.2 q.1 = true) ∧ ∀ q ∈ L, aheadO pr q.1 = true := by
  induction L with
  | nil => intro pr; simp [okRow]
  | cons p r ih =>
    intro pr
    constructor
    · intro ho
      have ha : ∀ q ∈ p :: r, aheadO pr q.1 = true := by
        cases pr with
        | none => intro q _; rfl
        | some h => exact row_ahead _ h ho
      have hr : ∀ q ∈ r, aheadF p.2 q.1 = true := by
        simp only [okRow, Bool.and_eq_true] at ho
        exact row_ahead r p.2 ho.2
      simp only [okRow, Bool.and_eq_true] at ho
      obtain ⟨⟨h1, h2, h3, h4⟩, h5⟩ := ho
      obtain ⟨k1, k2, _⟩ := (ih _).1 h5
      refine ⟨fun q hq => ?_, List.pairwise_cons.2 ⟨hr, k2⟩, ha⟩
      rcases List.mem_cons.1 hq with rfl | hq
      · exact ⟨h1, h2, h3⟩
      · exact k1 q hq
    · rintro ⟨h1, h2, h3⟩
      obtain ⟨k1, k2⟩ := List.pairwise_cons.1 h2
      obtain ⟨g1, g2, g3⟩ := h1 p (by simp)
      simp only [okRow, Bool.and_eq_true]
      exact ⟨⟨g1, g2, g3, h3 p (by simp)⟩, (ih _).2 ⟨fun q hq => h1 q (List.mem_cons_of_mem _ hq), k2, fun q hq => k1 q hq⟩⟩
def meetI (p q : Iv) : Iv := (tightF true p.1 q.1, tightF false p.2 q.2)
def meetB (p : Iv) (b : List Iv) : List Iv := (b.map (meetI p)).filter fun x => belowF x.1 x.2
def meetL (a b : List Iv) : List Iv := a.flatMap fun p => meetB p b
def meetR (a b : Rg) : Rg := if !b.1 then a else if !a.1 then b else (true, [], meetL a.2.2 b.2.2)
theorem in_meet (p q : Iv) (v : List UInt8) : inF (meetI p q) v = (inF p v && inF q v) := by
  unfold inF meetI
  dsimp only
  rw [tight_lo, tight_hi]
  cases belowF p.1 (true, v, true) <;> cases belowF q.1 (true, v, true) <;> cases belowF (true, v, true) p.2 <;> simp
theorem any_meet (a b : List Iv) (v : List UInt8) : (meetL a b).any (inF · v) = (a.any (inF · v) && b.any (inF · v)) := by
  rw [Bool.eq_iff_iff, Bool.and_eq_true, List.any_eq_true, List.any_eq_true, List.any_eq_true]
  constructor
  · rintro ⟨x, hx, hv⟩
    obtain ⟨p, hp, hx⟩ := List.mem_flatMap.1 hx
    obtain ⟨hx, _⟩ := List.mem_filter.1 hx
    obtain ⟨q, hq, rfl⟩ := List.mem_map.1 hx
    rw [in_meet, Bool.and_eq_true] at hv
    exact ⟨⟨p, hp, hv.1⟩, ⟨q, hq, hv.2⟩⟩
  · rintro ⟨⟨p, hp, h1⟩, ⟨q, hq, h2⟩⟩
    have hv : inF (meetI p q) v = true := by rw [in_meet, h1, h2]; rfl
    exact ⟨meetI p q, List.mem_flatMap.2 ⟨p, hp, List.mem_filter.2 ⟨List.mem_map.2 ⟨q, hq, rfl⟩, in_below hv⟩⟩, hv⟩
theorem has_meet (a b : Rg) (v : List UInt8) : hasF (meetR a b) v = (hasF a v && hasF b v) := by
  obtain ⟨h1, v1, l1⟩ := a
  obtain ⟨h2, v2, l2⟩ := b
  unfold meetR hasF
  cases h1 <;> cases h2 <;> simp [any_meet]
theorem tight_ok {up : Bool} {a b : En} (ha : endOk a = true) (hb : endOk b = true) : endOk (tightF up a b) = true := by
  unfold tightF
  split
  · exact hb
  · split
    · exact ha
    · split
      · exact hb
      · split
        · exact ha
        · exact hb
theorem meet_row {a b : List Iv} (ha : okRow none a = true) (hb : okRow none b = true) : okRow none (meetL a b) = true := by
  obtain ⟨a1, a2, _⟩ := (row_iff a none).1 ha
  obtain ⟨b1, b2, _⟩ := (row_iff b none).1 hb
  refine (row_iff _ none).2 ⟨fun x hx => ?_, ?_, fun _ _ => rfl⟩
  · obtain ⟨p, hp, hx⟩ := List.mem_flatMap.1 hx
    obtain ⟨hx, hbl⟩ := List.mem_filter.1 hx
    obtain ⟨q, hq, rfl⟩ := List.mem_map.1 hx
    obtain ⟨p1, p2, _⟩ := a1 p hp
    obtain ⟨q1, q2, _⟩ := b1 q hq
    exact ⟨tight_ok p1 q1, tight_ok p2 q2, hbl⟩
  · refine List.pairwise_flatMap.2 ⟨fun p hp => ?_, ?_⟩
    · refine List.Pairwise.filter _ (List.pairwise_map.2 (b2.imp fun {q q'} h => ?_))
      exact (ahead_lo (ahead_hi h).2).2
    · refine a2.imp fun {p p'} h => ?_
      intro x hx y hy
      obtain ⟨q, _, rfl⟩ := List.mem_map.1 (List.mem_filter.1 hx).1
      obtain ⟨q', _, rfl⟩ := List.mem_map.1 (List.mem_filter.1 hy).1
      exact (ahead_lo (ahead_hi h).1).1
theorem meetL_len (a b : List Iv) : (meetL a b).length ≤ a.length * b.length := by
  induction a with
  | nil => simp [meetL]
  | cons p r ih =>
    have h1 : (meetB p b).length ≤ b.length := Nat.le_trans (List.length_filter_le _ _) (by simp)
    have e : meetL (p :: r) b = meetB p b ++ meetL r b := by simp [meetL]
    rw [e, List.length_append, List.length_cons, Nat.succ_mul]
    omega
theorem may_meet {a b : Rg} (ha : mayR a = true) (hb : mayR b = true) (la : a.2.2.length ≤ 20) (lb : b.2.2.length ≤ 20) : mayR (meetR a b) = true ∨ ((meetR a b).1 = true ∧ (meetR a b).2.2 = []) := by
  obtain ⟨h1, v1, l1⟩ := a
  obtain ⟨h2, v2, l2⟩ := b
  unfold meetR
  cases h2
  · exact .inl ha
  cases h1
  · exact .inl hb
  simp only [mayR, if_true, Bool.and_eq_true] at ha hb
  have hr := meet_row ha.1 hb.1
  have hl := meetL_len l1 l2
  have h400 : l1.length * l2.length ≤ 400 := Nat.mul_le_mul la lb
  simp only [Bool.not_true, Bool.false_eq_true, if_false]
  rcases Nat.eq_zero_or_pos (meetL l1 l2).length with h0 | h0
  · exact .inr ⟨by first | trivial | rfl, List.eq_nil_of_length_eq_zero h0⟩
  · refine .inl ?_
    simp only [mayR, if_true, hr, Bool.true_and, Bool.and_eq_true, decide_eq_true_eq, BEq.rfl, true_and]
    omega
end Go.Proofs.YtbpnmkmlicbfoaaDoor

/-
  The package bounds: Meet; the law BoundsBoth, walked.
-/
set_option linter.unusedVariables false
set_option linter.unusedSimpArgs false
namespace Go.Proofs.YtbpnmkmlicbfoaaDoor
open Go.RowKit
set_option maxRecDepth 10000
section
variable {G H : Gh} {n : Sz} {D : List Deferred} {e e' : Env} {a : Act} {P : Program} {tab : Tab} {O O' : VH} {w : World} {m m' : MV} {u v : Value} {ops : Array Oper} {Q : VQ} {md : Md}
/-- Two of which either may come first. -/
theorem VAnyE.two {brk : List Nat} {Ψ : Gh → Prop} {J : VH → Prop} {Z : Prop} {fuel i j : Nat} {listed : Array Bool} (hr : Region.ready .any ops listed = [i, j])
    (h1 : VOne P n D ops i e O Q fun e' O' => J O' ∧ VAnyE P n D ops brk J Ψ Z fuel (listed.setIfInBounds i true) e' O' Q) (h2 : VOne P n D ops j e O Q fun e' O' => J O' ∧ VAnyE P n D ops brk J Ψ Z fuel (listed.setIfInBounds j true) e' O' Q) : VAnyE P n D ops brk J Ψ Z (fuel + 1) listed e O Q := by
  intro hΨ hZ hJ G a w hψ hw hfr
  have key : ∀ x, (VOne P n D ops x e O Q fun e' O' => J O' ∧ VAnyE P n D ops brk J Ψ Z fuel (listed.setIfInBounds x true) e' O' Q) → wpOp P ops (VPost G n D Q) x (fun a' w' => TE brk G J x w' ∧ wpAnyT P .any ops (VPost G n D Q) (TE brk G J) fuel (listed.setIfInBounds x true) a' w') a w := fun x h =>
    wpOp_mono (fun a' w' ⟨e', O', H, h1, h2, h3, h4, h5⟩ => ⟨TE.mk ⟨H, O', h1, h2, h4⟩, wpAnyT_imp (fun _ _ _ => VPost.le h1) _ _ _ _ (fun k _ x hT => hT.le h1) (h5 hΨ hZ h4 H a' w' (hΨ _ _ h1 hψ) h2 h3)⟩) (h G a w hw hfr)
  refine wpAnyT_all hr (by simp) fun x hx => ?_
  simp only [List.mem_cons, List.not_mem_nil, or_false] at hx
  rcases hx with rfl | rfl
  · exact key _ h1
  · exact key _ h2
theorem VOne.callR {i : Nat} {l : List Oper} {d : Option Tmp} {f : Operand} {xs : Array Operand} {ts : Array TypeId} {ty : TypeId} {ps : String} {af : Array Edge} {g : Option (Nat × Bool)} {id : FuncId} {ms : List MV} {Φ : MV → VH → Prop} {K : Env → VH → Prop} (ho : l[i]? = some (.mk d (.call { callee := .value f, args := xs, argTypes := ts }) ty ps af g))
    (hg : vguard ⟨l⟩ (.mk d (.call { callee := .value f, args := xs, argTypes := ts }) ty ps af g) e = some true) (hf : ev e f = some (.func (.func id) [] [])) (hm : evs e xs.toList = some ms) (hb : callable P id = true) (hd : dstB n d = true) (hR : VF P id ms O (Ret Φ))
    (h : ∀ m O', Φ m O' → K (putM d m e) O') : VOne P n D ⟨l⟩ i e O Q K :=
  VOne.call (o := .mk d (.call { callee := .value f, args := xs, argTypes := ts }) ty ps af g) (by simpa using ho) hg rfl rfl hf hm (Enters.ofB hb) hd (by simpa using hR) fun r O' hr => by
    cases r with
    | ret m => exact h m O' hr
    | panic m => exact hr.elim
end
theorem tight_len {up : Bool} {a b : En} {k : Nat} (ha : a.2.1.length ≤ k) (hb : b.2.1.length ≤ k) : (tightF up a b).2.1.length ≤ k := by
  unfold tightF
  split
  · exact hb
  · split
    · exact ha
    · split
      · exact hb
      · split
        · exact ha
        · exact hb
theorem meetB_snoc (p : Iv) (B : List Iv) (j : Nat) (h : j < B.length) : meetB p (B.take (j + 1)) = meetB p (B.take j) ++ if belowF (meetI p B[j]).1 (meetI p B[j]).2 then [meetI p B[j]] else [] := by
  unfold meetB
  rw [take_snoc _ _ h, List.map_append, List.filter_append]
  congr 1
  cases hb : belowF (meetI p B[j]).1 (meetI p B[j]).2 <;> simp [hb]
theorem meetL_snoc (A B : List Iv) (i : Nat) (h : i < A.length) : meetL (A.take (i + 1)) B = meetL (A.take i) B ++ meetB A[i] B := by
  unfold meetL
  rw [take_snoc _ _ h, List.flatMap_append]
  simp
/-- bounds.Meet -/
theorem Meet_v (a b : Rg) (ta tb : Tok) (O : VH) (ha : RgOk a) (hb : RgOk b) (la : a.2.2.length ≤ 1000) (lb : b.2.2.length ≤ 1000) : VF Tryd.prog 21 [.agg (rgM a ta), .agg (rgM b tb)] O (Ret fun m O' => ∃ t, m = .agg (rgM (meetR a b) t) ∧ O.Ge O') := by
  obtain ⟨h1, v1, A⟩ := a
  obtain ⟨h2, v2, B⟩ := b
  dsimp only at la lb
  have hge := fun x y z => (((VH.Ge.refl O).push x).push y).push z
  have hk1 : (((O.push (.cells (rgM (h1, v1, A) ta))).push (.cells (rgM (h2, v2, B) tb))).push (.cells bndC)).hp O.next = some (.cells (rgM (h1, v1, A) ta)) := (VH.push_ne _ _ (by show O.next ≠ O.next + 1 + 1; omega)).trans ((VH.push_ne _ _ (by show O.next ≠ O.next + 1; omega)).trans (VH.push_new _ _))
  have hk2 : (((O.push (.cells (rgM (h1, v1, A) ta))).push (.cells (rgM (h2, v2, B) tb))).push (.cells bndC)).hp (O.next + 1) = some (.cells (rgM (h2, v2, B) tb)) := (VH.push_ne _ _ (by show O.next + 1 ≠ O.next + 1 + 1; omega)).trans (VH.push_new _ _)
  have hk3 : (((O.push (.cells (rgM (h1, v1, A) ta))).push (.cells (rgM (h2, v2, B) tb))).push (.cells bndC)).hp (O.next + 2) = some (.cells bndC) := VH.push_new _ _
  have hn : (((O.push (.cells (rgM (h1, v1, A) ta))).push (.cells (rgM (h2, v2, B) tb))).push (.cells bndC)).next = O.next + 3 := rfl
  have hgX := hge (.cells (rgM (h1, v1, A) ta)) (.cells (rgM (h2, v2, B) tb)) (.cells bndC)
  simp only [rgM, bndC, mb_def] at hk1 hk2 hk3 hn hgX
  refine VF.ofV (n := ⟨69, 0⟩) (rs := [.cell 4 25]) tabOk Tryd.func21 rfl rfl rfl (Nat.le_of_ble_eq_true rfl) ?_
  simp only [argEnv, Nat.zero_add, Nat.reduceAdd]
  refine VC.seqV tabOk ?_
  simp (disch := first | omega | (simp only [ds] <;> omega) | fail) only [wk, undefM, Nat.reduceLT, Nat.reduceAdd, Nat.reduceMul, Nat.reduceSub, Nat.reduceBEq, Nat.reduceEqDiff, Int.reduceToNat, reduceIte, tsN, rgM]
  generalize (((O.push (.cells [.v (.bool h1), .str v1, .sl A.length (A.flatMap ivM) ta])).push (.cells [.v (.bool h2), .str v2, .sl B.length (B.flatMap ivM) tb])).push (.cells [.v (.bool false), .str [], .sl 0 [] .nil])) = O1 at *
  clear hge
  refine VC.seq0 ?_
  refine VC.drawF [8, 9] (O.next + 1) (hk2) (by kernel_rfl) ?_
  intro X
  refine VAnyE.sil tabOk 0 rfl (by kernel_rfl) (by kernel_rfl) (by kernel_rfl) (by kernel_rfl) rfl rfl ?_
  simp (disch := first | omega | (simp only [ds] <;> omega) | fail) only [wk, undefM, Nat.reduceLT, Nat.reduceAdd, Nat.reduceMul, Nat.reduceSub, Nat.reduceBEq, Nat.reduceEqDiff, Int.reduceToNat, reduceIte, PreK_some, putM_some, tsN]
  refine VAnyE.sil tabOk 3 rfl (by kernel_rfl) (by kernel_rfl) (by kernel_rfl) (by kernel_rfl) rfl rfl ?_
  simp (disch := first | omega | (simp only [ds] <;> omega) | fail) only [wk, undefM, Nat.reduceLT, Nat.reduceAdd, Nat.reduceMul, Nat.reduceSub, Nat.reduceBEq, Nat.reduceEqDiff, Int.reduceToNat, reduceIte, PreK_some, putM_some, tsN]
  refine VAnyE.ldF (m := .sl B.length (B.flatMap ivM) tb) tabOk 4 rfl (by kernel_rfl) (by kernel_rfl) (by kernel_rfl) (by kernel_rfl) rfl rfl rfl ?_ ?_
  · simp (disch := first | omega | (simp only [ds] <;> omega) | fail) only [wk, undefM, Nat.reduceLT, Nat.reduceAdd, Nat.reduceMul, Nat.reduceSub, Nat.reduceBEq, Nat.reduceEqDiff, Int.reduceToNat, reduceIte, tsN]
  simp only [putM_some]
  refine VAnyE.op (i := 1) tabOk (by kernel_rfl) rfl rfl rfl ?_
  simp (disch := first | omega | (simp only [ds] <;> omega) | fail) only [wk, undefM, Nat.reduceLT, Nat.reduceAdd, Nat.reduceMul, Nat.reduceSub, Nat.reduceBEq, Nat.reduceEqDiff, Int.reduceToNat, reduceIte, PreK_some, putM_some, tsN, hk1]
  refine VAnyE.call (i := 2) (by kernel_rfl) rfl rfl rfl rfl (by kernel_rfl) rfl (CloneIv_v A ta _ (by omega)) ?_
  rintro _ O2 ⟨ta', rfl, hg2⟩
  simp only [putM_some]
  have hn2 := hg2.next
  rw [VH.next_set] at hn2
  have hX2 := (hg2.hp (O.next + 1) (by rw [VH.next_set]; omega)).trans (VH.set_get _ _ _)
  refine ⟨hX2, ?_⟩
  refine VAnyE.sil tabOk 6 rfl (by kernel_rfl) (by kernel_rfl) (by kernel_rfl) (by kernel_rfl) rfl rfl ?_
  simp (disch := first | omega | (simp only [ds] <;> omega) | fail) only [wk, undefM, Nat.reduceLT, Nat.reduceAdd, Nat.reduceMul, Nat.reduceSub, Nat.reduceBEq, Nat.reduceEqDiff, Int.reduceToNat, reduceIte, PreK_some, putM_some, tsN]
  refine VAnyE.call (i := 5) (by kernel_rfl) rfl rfl rfl rfl (by kernel_rfl) rfl (CloneIv_v B tb _ (by omega)) ?_
  rintro _ O3 ⟨tb', rfl, hg3⟩
  simp only [putM_some]
  have hn3 := hg3.next
  have hX3 := (hg3.hp _ (by omega)).trans hX2
  refine ⟨hX3, ?_⟩
  have hk13 := (hg3.hp _ (by omega)).trans ((hg2.hp O.next (by rw [VH.next_set]; omega)).trans ((VH.set_ne _ _ (by omega)).trans hk1))
  have hk33 := (hg3.hp _ (by omega)).trans ((hg2.hp (O.next + 2) (by rw [VH.next_set]; omega)).trans ((VH.set_ne _ _ (by omega)).trans hk3))
  have hgX3 := ((hgX.set (Nat.le_succ _) (.obj X)).trans hg2).trans hg3
  refine VAnyE.op (i := 7) tabOk (by kernel_rfl) rfl rfl rfl ?_
  simp (disch := first | omega | (simp only [ds] <;> omega) | fail) only [wk, undefM, Nat.reduceLT, Nat.reduceAdd, Nat.reduceMul, Nat.reduceSub, Nat.reduceBEq, Nat.reduceEqDiff, Int.reduceToNat, reduceIte, PreK_some, putM_some, tsN, hk13]
  refine ⟨hX3, ?_⟩
  refine VAnyE.planF tabOk [(8, .sil), (9, .one)] (by kernel_rfl) (by kernel_rfl) (by kernel_rfl) rfl ?_
  simp (disch := first | omega | (simp only [ds] <;> omega) | fail) only [wk, undefM, Nat.reduceLT, Nat.reduceAdd, Nat.reduceMul, Nat.reduceSub, Nat.reduceBEq, Nat.reduceEqDiff, Int.reduceToNat, reduceIte, tsN]
  have hs2 : ∀ (i : Nat) (y : VObj), i ≠ O.next → i ≠ O.next + 1 → O3.hp i = some y → (((O3.set O.next (.cells [.v (.bool h1), .str v1, .sl A.length (A.flatMap ivM) ta'])).set (O.next + 1) (.cells [.v (.bool h2), .str v2, .sl B.length (B.flatMap ivM) tb])).set (O.next + 1) (.cells [.v (.bool h2), .str v2, .sl B.length (B.flatMap ivM) tb'])).hp i = some y := fun i y a1 a2 h => (VH.set_ne _ _ a2).trans ((VH.set_ne _ _ a2).trans ((VH.set_ne _ _ a1).trans h))
  have hk34 := hs2 _ _ (by omega) (by omega) hk33
  have hk24 : (((O3.set O.next (.cells [.v (.bool h1), .str v1, .sl A.length (A.flatMap ivM) ta'])).set (O.next + 1) (.cells [.v (.bool h2), .str v2, .sl B.length (B.flatMap ivM) tb])).set (O.next + 1) (.cells [.v (.bool h2), .str v2, .sl B.length (B.flatMap ivM) tb'])).hp (O.next + 1) = some (.cells [.v (.bool h2), .str v2, .sl B.length (B.flatMap ivM) tb']) := VH.set_get _ _ _
  have hk14 : (((O3.set O.next (.cells [.v (.bool h1), .str v1, .sl A.length (A.flatMap ivM) ta'])).set (O.next + 1) (.cells [.v (.bool h2), .str v2, .sl B.length (B.flatMap ivM) tb])).set (O.next + 1) (.cells [.v (.bool h2), .str v2, .sl B.length (B.flatMap ivM) tb'])).hp O.next = some (.cells [.v (.bool h1), .str v1, .sl A.length (A.flatMap ivM) ta']) := (VH.set_ne _ _ (by omega)).trans ((VH.set_ne _ _ (by omega)).trans (VH.set_get _ _ _))
  have hg4 := ((hgX3.set (Nat.le_refl _) (.cells [.v (.bool h1), .str v1, .sl A.length (A.flatMap ivM) ta'])).set (Nat.le_succ _) (.cells [.v (.bool h2), .str v2, .sl B.length (B.flatMap ivM) tb])).set (Nat.le_succ _) (.cells [.v (.bool h2), .str v2, .sl B.length (B.flatMap ivM) tb'])
  have hn4 : O.next + 3 ≤ (((O3.set O.next (.cells [.v (.bool h1), .str v1, .sl A.length (A.flatMap ivM) ta'])).set (O.next + 1) (.cells [.v (.bool h2), .str v2, .sl B.length (B.flatMap ivM) tb])).set (O.next + 1) (.cells [.v (.bool h2), .str v2, .sl B.length (B.flatMap ivM) tb'])).next := by simp only [VH.next_set]; omega
  clear hs2
  generalize (((O3.set O.next (.cells [.v (.bool h1), .str v1, .sl A.length (A.flatMap ivM) ta'])).set (O.next + 1) (.cells [.v (.bool h2), .str v2, .sl B.length (B.flatMap ivM) tb])).set (O.next + 1) (.cells [.v (.bool h2), .str v2, .sl B.length (B.flatMap ivM) tb'])) = O4 at *
  clear hk1 hk2 hk3 hn hgX hg2 hn2 hX2 hg3 hn3 hX3 hk13 hk33 hgX3
  unfold meetR
  dsimp only
  refine VC.seq0 (VC.block' ?_)
  cases h2
  · refine WC.sound tabOk ?_
    simp (disch := first | omega | (simp only [ds] <;> omega) | fail) only [wk, undefM, Nat.reduceLT, Nat.reduceAdd, Nat.reduceMul, Nat.reduceSub, Nat.reduceBEq, Nat.reduceEqDiff, Int.reduceToNat, reduceIte, tsN, hk24, hk14, hk34]
    exact ⟨_, rfl, hg4.set (by omega) _⟩
  cases h1
  · refine WC.sound tabOk ?_
    simp (disch := first | omega | (simp only [ds] <;> omega) | fail) only [wk, undefM, Nat.reduceLT, Nat.reduceAdd, Nat.reduceMul, Nat.reduceSub, Nat.reduceBEq, Nat.reduceEqDiff, Int.reduceToNat, reduceIte, tsN, hk24, hk14, hk34]
    exact ⟨_, rfl, hg4.set (by omega) _⟩
  refine WC.sound tabOk ?_
  simp (disch := first | omega | (simp only [ds] <;> omega) | fail) only [wk, undefM, Nat.reduceLT, Nat.reduceAdd, Nat.reduceMul, Nat.reduceSub, Nat.reduceBEq, Nat.reduceEqDiff, Int.reduceToNat, reduceIte, tsN, hk24, hk14]
  refine VC.seqV tabOk ?_
  simp (disch := first | omega | (simp only [ds] <;> omega) | fail) only [wk, undefM, Nat.reduceLT, Nat.reduceAdd, Nat.reduceMul, Nat.reduceSub, Nat.reduceBEq, Nat.reduceEqDiff, Int.reduceToNat, reduceIte, tsN]
  have hgY := ((VH.Ge.refl O4).push (.cells bndC)).set (Nat.le_refl _) (.cells [.v (.bool true), .str [], .sl 0 [] .nil])
  have hk5 := VH.set_get (O4.push (.cells bndC)) O4.next (.cells [.v (.bool true), .str [], .sl 0 [] .nil])
  have hn5 : O4.next < ((O4.push (.cells bndC)).set O4.next (.cells [.v (.bool true), .str [], .sl 0 [] .nil])).next := Nat.lt_succ_self _
  simp only [bndC] at hgY hk5 hn5
  generalize ((O4.push (.cells [.v (.bool false), .str [], .sl 0 [] .nil])).set O4.next (.cells [.v (.bool true), .str [], .sl 0 [] .nil])) = O5 at *
  have hk15 := (hgY.hp _ (by omega)).trans hk14
  have hk25 := (hgY.hp _ (by omega)).trans hk24
  have hk35 := (hgY.hp _ (by omega)).trans hk34
  have hg5 := hg4.trans hgY
  generalize O4.next = K at *
  clear hk14 hk24 hk34 hg4 hgY
  refine VC.join2 [4, 5] (fun _ : Tok => [.ptr (O.next + 1 + 1) 0, .ptr K 0]) (fun t O' => O.Ge O' ∧ O'.hp (O.next + 2) = some (.cells bndC) ∧ O'.hp K = some (.cells [mb true, .str [], .sl (meetL A B).length ((meetL A B).flatMap ivM) t])) ?_ ?_
  rotate_left
  · rintro t O6 ⟨hg6, hk6, hk56⟩
    simp only [bndC, mb_def] at hk6 hk56
    refine WC.sound tabOk ?_
    simp (disch := first | omega | (simp only [ds] <;> omega) | fail) only [wk, undefM, Nat.reduceLT, Nat.reduceAdd, Nat.reduceMul, Nat.reduceSub, Nat.reduceBEq, Nat.reduceEqDiff, Int.reduceToNat, reduceIte, tsN, hk6, hk56]
    exact ⟨t, rfl, hg6.set (by omega) _⟩
  refine VC.seqV tabOk ?_
  simp (disch := first | omega | (simp only [ds] <;> omega) | fail) only [wk, undefM, Nat.reduceLT, Nat.reduceAdd, Nat.reduceMul, Nat.reduceSub, Nat.reduceBEq, Nat.reduceEqDiff, Int.reduceToNat, reduceIte, tsN, hk15]
  refine VC.block' ?_
  have hpA := iv_len A
  have hpB := iv_len B
  have hAm : (A.length : Int) ≤ 9223372036854775807 := by omega
  have hBm : (B.length : Int) ≤ 9223372036854775807 := by omega
  refine VC.loopV [33] [3, 4, 5, 31, 32] (fun x : Nat × Tok => [mi x.1]) (fun x O' => O.Ge O' ∧ O'.hp (O.next + 1) = some (.cells [mb true, .str v2, .sl B.length (B.flatMap ivM) tb']) ∧ O'.hp (O.next + 2) = some (.cells bndC) ∧ O'.hp K = some (.cells [mb true, .str [], .sl (meetL (A.take x.1) B).length ((meetL (A.take x.1) B).flatMap ivM) x.2]) ∧ K < O'.next ∧ App O' (K + 1) 6 x.2 ∧ x.1 ≤ A.length) (fun x => A.length - x.1) ((0, .nil)) rfl rfl ?_ ?_
  · exact ⟨hg5, hk25, hk35, hk5, hn5, trivial, Nat.zero_le _⟩
  rintro ⟨i, t⟩ O6 ⟨hg6, hk26, hk36, hk56, hn6, hap6, hi⟩
  dsimp only at hk56 hap6 hi
  clear hk5 hn5 hk15 hk25 hk35 hg5
  by_cases hi2 : i < A.length
  rotate_left
  · have hie : i = A.length := by omega
    subst hie
    rw [List.take_length] at hk56
    refine WC.sound tabOk ?_
    simp (disch := first | omega | (simp only [ds] <;> omega) | fail) only [wk, undefM, Nat.reduceLT, Nat.reduceAdd, Nat.reduceMul, Nat.reduceSub, Nat.reduceBEq, Nat.reduceEqDiff, Int.reduceToNat, reduceIte, tsN]
    exact JoinQ.mk t rfl ⟨hg6, hk36, hk56⟩
  have hp6 := iv_at A i hi2
  have hsnA := meetL_snoc A B i hi2
  have hpb := ha.2.2 A[i] (List.getElem_mem hi2)
  have hacc : (meetL (A.take i) B).length ≤ 1000000 := Nat.le_trans (meetL_len _ _) (by
    have : (A.take i).length * B.length ≤ 1000 * 1000 := Nat.mul_le_mul (by rw [List.length_take]; omega) lb
    omega)
  generalize A[i] = p at *
  generalize meetL (A.take i) B = F at *
  obtain ⟨⟨ph, pv, pc⟩, ⟨qh, qv, qc⟩⟩ := p
  refine VC.seqV tabOk ?_
  simp (disch := first | omega | (simp only [ds] <;> omega) | fail) only [wk, undefM, Nat.reduceLT, Nat.reduceAdd, Nat.reduceMul, Nat.reduceSub, Nat.reduceBEq, Nat.reduceEqDiff, Int.reduceToNat, reduceIte, tsN]
  refine VC.seqV tabOk ?_
  simp (disch := first | omega | (simp only [ds] <;> omega) | fail) only [wk, undefM, Nat.reduceLT, Nat.reduceAdd, Nat.reduceMul, Nat.reduceSub, Nat.reduceBEq, Nat.reduceEqDiff, Int.reduceToNat, reduceIte, tsN]
  refine VC.seq0 (VC.block' ?_)
  refine VC.seqV tabOk ?_
  simp (disch := first | omega | (simp only [ds] <;> omega) | fail) only [wk, undefM, Nat.reduceLT, Nat.reduceAdd, Nat.reduceMul, Nat.reduceSub, Nat.reduceBEq, Nat.reduceEqDiff, Int.reduceToNat, reduceIte, tsN, hp6, ivM, enM]
  have hgY := ((VH.Ge.refl O6).push (.cells [.v (.bool false), .str [], .v (.bool false), .v (.bool false), .str [], .v (.bool false)])).set (Nat.le_refl _) (.cells [.v (.bool ph), .str pv, .v (.bool pc), .v (.bool qh), .str qv, .v (.bool qc)])
  have hkp := VH.set_get (O6.push (.cells [.v (.bool false), .str [], .v (.bool false), .v (.bool false), .str [], .v (.bool false)])) O6.next (.cells [.v (.bool ph), .str pv, .v (.bool pc), .v (.bool qh), .str qv, .v (.bool qc)])
  have hnp : O6.next < ((O6.push (.cells [.v (.bool false), .str [], .v (.bool false), .v (.bool false), .str [], .v (.bool false)])).set O6.next (.cells [.v (.bool ph), .str pv, .v (.bool pc), .v (.bool qh), .str qv, .v (.bool qc)])).next := Nat.lt_succ_self _
  generalize ((O6.push (.cells [.v (.bool false), .str [], .v (.bool false), .v (.bool false), .str [], .v (.bool false)])).set O6.next (.cells [.v (.bool ph), .str pv, .v (.bool pc), .v (.bool qh), .str qv, .v (.bool qc)])) = O7 at *
  have hg7 := hg6.trans hgY
  have hgn := hg6.next
  simp only [bndC, mb_def] at hk26 hk36 hk56
  have hk27 := (hgY.hp _ (by omega)).trans hk26
  have hk37 := (hgY.hp _ (by omega)).trans hk36
  have hk57 := (hgY.hp _ (by omega)).trans hk56
  have hap7 := hap6.keep hgY.next (fun j _ h => hgY.hp j h)
  generalize O6.next = KP at *
  refine VC.seqV tabOk ?_
  simp (disch := first | omega | (simp only [ds] <;> omega) | fail) only [wk, undefM, Nat.reduceLT, Nat.reduceAdd, Nat.reduceMul, Nat.reduceSub, Nat.reduceBEq, Nat.reduceEqDiff, Int.reduceToNat, reduceIte, tsN, hk27]
  refine VC.block' ?_
  refine VC.loopV [40] [3, 4, 5, 7, 31, 32, 33, 38, 39] (fun y : Nat × Tok => [mi y.1]) (fun y O' => O.Ge O' ∧ O'.hp (O.next + 1) = some (.cells [mb true, .str v2, .sl B.length (B.flatMap ivM) tb']) ∧ O'.hp (O.next + 2) = some (.cells bndC) ∧ O'.hp K = some (.cells [mb true, .str [], .sl (F ++ meetB ((ph, pv, pc), (qh, qv, qc)) (B.take y.1)).length ((F ++ meetB ((ph, pv, pc), (qh, qv, qc)) (B.take y.1)).flatMap ivM) y.2]) ∧ O'.hp KP = some (.cells [.v (.bool ph), .str pv, .v (.bool pc), .v (.bool qh), .str qv, .v (.bool qc)]) ∧ KP < O'.next ∧ App O' (K + 1) 6 y.2 ∧ y.1 ≤ B.length) (fun y => B.length - y.1) ((0, t)) rfl rfl ?_ ?_
  · exact ⟨hg7, hk27, hk37, by simpa [meetB, mb_def] using hk57, hkp, hnp, hap7, Nat.zero_le _⟩
  rintro ⟨j, tj⟩ O8 ⟨hg8, hk28, hk38, hk58, hkp8, hnp8, hap8, hj⟩
  dsimp only at hk58 hap8 hj
  clear hk27 hk37 hk57 hkp hnp hap7 hg7 hk26 hk36 hk56 hap6 hgY
  by_cases hj2 : j < B.length
  rotate_left
  · have hje : j = B.length := by omega
    subst hje
    rw [List.take_length, ← hsnA] at hk58
    refine WC.sound tabOk ?_
    simp (disch := first | omega | (simp only [ds] <;> omega) | fail) only [wk, undefM, Nat.reduceLT, Nat.reduceAdd, Nat.reduceMul, Nat.reduceSub, Nat.reduceBEq, Nat.reduceEqDiff, Int.reduceToNat, reduceIte, tsN]
    refine WC.sound tabOk ?_
    simp (disch := first | omega | (simp only [ds] <;> omega) | fail) only [wk, undefM, Nat.reduceLT, Nat.reduceAdd, Nat.reduceMul, Nat.reduceSub, Nat.reduceBEq, Nat.reduceEqDiff, Int.reduceToNat, reduceIte, tsN]
    exact RoundQ.next (i + 1, tj) rfl rfl ⟨hg8, hk28, hk38, hk58, by omega, hap8, hi2⟩ (by dsimp only; omega)
  have hq6 := iv_at B j hj2
  have hsnB := meetB_snoc ((ph, pv, pc), (qh, qv, qc)) B j hj2
  have hqb := hb.2.2 B[j] (List.getElem_mem hj2)
  have haccB : (F ++ meetB ((ph, pv, pc), (qh, qv, qc)) (B.take j)).length ≤ 1001000 := by
    have h1 : (meetB ((ph, pv, pc), (qh, qv, qc)) (B.take j)).length ≤ 1000 := Nat.le_trans (List.length_filter_le _ _) (by rw [List.length_map, List.length_take]; omega)
    rw [List.length_append]; omega
  generalize B[j] = q at *
  obtain ⟨⟨rh, rv, rc⟩, ⟨sh, sv, sc⟩⟩ := q
  refine VC.seqV tabOk ?_
  simp (disch := first | omega | (simp only [ds] <;> omega) | fail) only [wk, undefM, Nat.reduceLT, Nat.reduceAdd, Nat.reduceMul, Nat.reduceSub, Nat.reduceBEq, Nat.reduceEqDiff, Int.reduceToNat, reduceIte, tsN]
  refine VC.seqV tabOk ?_
  simp (disch := first | omega | (simp only [ds] <;> omega) | fail) only [wk, undefM, Nat.reduceLT, Nat.reduceAdd, Nat.reduceMul, Nat.reduceSub, Nat.reduceBEq, Nat.reduceEqDiff, Int.reduceToNat, reduceIte, tsN]
  refine VC.seq0 (VC.block' ?_)
  refine VC.seqV tabOk ?_
  simp (disch := first | omega | (simp only [ds] <;> omega) | fail) only [wk, undefM, Nat.reduceLT, Nat.reduceAdd, Nat.reduceMul, Nat.reduceSub, Nat.reduceBEq, Nat.reduceEqDiff, Int.reduceToNat, reduceIte, tsN, hq6, ivM, enM]
  have hgY := ((VH.Ge.refl O8).push (.cells [.v (.bool false), .str [], .v (.bool false), .v (.bool false), .str [], .v (.bool false)])).set (Nat.le_refl _) (.cells [.v (.bool rh), .str rv, .v (.bool rc), .v (.bool sh), .str sv, .v (.bool sc)])
  have hkq := VH.set_get (O8.push (.cells [.v (.bool false), .str [], .v (.bool false), .v (.bool false), .str [], .v (.bool false)])) O8.next (.cells [.v (.bool rh), .str rv, .v (.bool rc), .v (.bool sh), .str sv, .v (.bool sc)])
  have hnq : O8.next < ((O8.push (.cells [.v (.bool false), .str [], .v (.bool false), .v (.bool false), .str [], .v (.bool false)])).set O8.next (.cells [.v (.bool rh), .str rv, .v (.bool rc), .v (.bool sh), .str sv, .v (.bool sc)])).next := Nat.lt_succ_self _
  generalize ((O8.push (.cells [.v (.bool false), .str [], .v (.bool false), .v (.bool false), .str [], .v (.bool false)])).set O8.next (.cells [.v (.bool rh), .str rv, .v (.bool rc), .v (.bool sh), .str sv, .v (.bool sc)])) = O9 at *
  have hg9 := hg8.trans hgY
  simp only [bndC, mb_def] at hk28 hk38 hk58
  have hk29 := (hgY.hp _ (by omega)).trans hk28
  have hk39 := (hgY.hp _ (by omega)).trans hk38
  have hk59 := (hgY.hp _ (by omega)).trans hk58
  have hkp9 := (hgY.hp _ (by omega)).trans hkp8
  have hap9 := hap8.keep hgY.next (fun j _ h => hgY.hp j h)
  generalize O8.next = KQ at *
  clear hgY hk28 hk38 hk58 hkp8 hap8 hg8
  dsimp only at hpb hqb
  have hx : meetI ((ph, pv, pc), (qh, qv, qc)) ((rh, rv, rc), (sh, sv, sc)) = (tightF true (ph, pv, pc) (rh, rv, rc), tightF false (qh, qv, qc) (sh, sv, sc)) := rfl
  rw [hx] at hsnB
  have t1 := tight_v (ph, pv, pc) (rh, rv, rc) true
  have t2 := tight_v (qh, qv, qc) (sh, sv, sc) false
  have l1 := tight_len (up := true) (a := (ph, pv, pc)) (b := (rh, rv, rc)) hpb.1 hqb.1
  have l2 := tight_len (up := false) (a := (qh, qv, qc)) (b := (sh, sv, sc)) hpb.2 hqb.2
  generalize tightF true (ph, pv, pc) (rh, rv, rc) = X1 at *
  generalize tightF false (qh, qv, qc) (sh, sv, sc) = X2 at *
  obtain ⟨xh, xv, xc⟩ := X1
  obtain ⟨yh, yv, yc⟩ := X2
  clear hx
  refine VC.join2 [3, 4, 5, 7, 10, 31, 32, 33, 38, 39, 40] (fun k : Nat => [.ptr (O.next + 1) 0, .ptr (O.next + 1 + 1) 0, .ptr K 0, .ptr KP 0, .ptr k 0, .sl A.length (A.flatMap ivM) ta', mi A.length, mi i, .sl B.length (B.flatMap ivM) tb', mi B.length, mi j]) (fun k O' => O9.Ge O' ∧ O9.next ≤ k ∧ k < O'.next ∧ O'.hp k = some (.cells [.v (.bool xh), .str xv, .v (.bool xc), .v (.bool yh), .str yv, .v (.bool yc)])) ?_ ?_
  · refine VC.drawE [] (by kernel_rfl) ?_
    refine VAnyE.sil tabOk 0 rfl (by kernel_rfl) (by kernel_rfl) (by kernel_rfl) (by kernel_rfl) rfl rfl ?_
    simp (disch := first | omega | (simp only [ds] <;> omega) | fail) only [wk, undefM, Nat.reduceLT, Nat.reduceAdd, Nat.reduceMul, Nat.reduceSub, Nat.reduceBEq, Nat.reduceEqDiff, Int.reduceToNat, reduceIte, PreK_some, putM_some, tsN]
    refine VAnyE.sil tabOk 2 rfl (by kernel_rfl) (by kernel_rfl) (by kernel_rfl) (by kernel_rfl) rfl rfl ?_
    simp (disch := first | omega | (simp only [ds] <;> omega) | fail) only [wk, undefM, Nat.reduceLT, Nat.reduceAdd, Nat.reduceMul, Nat.reduceSub, Nat.reduceBEq, Nat.reduceEqDiff, Int.reduceToNat, reduceIte, PreK_some, putM_some, tsN]
    refine VAnyE.sil tabOk 5 rfl (by kernel_rfl) (by kernel_rfl) (by kernel_rfl) (by kernel_rfl) rfl rfl ?_
    simp (disch := first | omega | (simp only [ds] <;> omega) | fail) only [wk, undefM, Nat.reduceLT, Nat.reduceAdd, Nat.reduceMul, Nat.reduceSub, Nat.reduceBEq, Nat.reduceEqDiff, Int.reduceToNat, reduceIte, PreK_some, putM_some, tsN]
    refine VAnyE.sil tabOk 7 rfl (by kernel_rfl) (by kernel_rfl) (by kernel_rfl) (by kernel_rfl) rfl rfl ?_
    simp (disch := first | omega | (simp only [ds] <;> omega) | fail) only [wk, undefM, Nat.reduceLT, Nat.reduceAdd, Nat.reduceMul, Nat.reduceSub, Nat.reduceBEq, Nat.reduceEqDiff, Int.reduceToNat, reduceIte, PreK_some, putM_some, tsN]
    refine VAnyE.ld (m := .agg [.v (.bool ph), .str pv, .v (.bool pc)]) tabOk 1 rfl (by kernel_rfl) (by kernel_rfl) (by kernel_rfl) (by kernel_rfl) rfl rfl rfl ?_ rfl ?_
    · simp (disch := first | omega | (simp only [ds] <;> omega) | fail) only [wk, undefM, Nat.reduceLT, Nat.reduceAdd, Nat.reduceMul, Nat.reduceSub, Nat.reduceBEq, Nat.reduceEqDiff, Int.reduceToNat, reduceIte, tsN, hkp9]
    simp only [putM_some]
    refine VAnyE.ld (m := .agg [.v (.bool rh), .str rv, .v (.bool rc)]) tabOk 3 rfl (by kernel_rfl) (by kernel_rfl) (by kernel_rfl) (by kernel_rfl) rfl rfl rfl ?_ rfl ?_
    · simp (disch := first | omega | (simp only [ds] <;> omega) | fail) only [wk, undefM, Nat.reduceLT, Nat.reduceAdd, Nat.reduceMul, Nat.reduceSub, Nat.reduceBEq, Nat.reduceEqDiff, Int.reduceToNat, reduceIte, tsN, hkq]
    simp only [putM_some]
    refine VAnyE.ld (m := .agg [.v (.bool qh), .str qv, .v (.bool qc)]) tabOk 6 rfl (by kernel_rfl) (by kernel_rfl) (by kernel_rfl) (by kernel_rfl) rfl rfl rfl ?_ rfl ?_
    · simp (disch := first | omega | (simp only [ds] <;> omega) | fail) only [wk, undefM, Nat.reduceLT, Nat.reduceAdd, Nat.reduceMul, Nat.reduceSub, Nat.reduceBEq, Nat.reduceEqDiff, Int.reduceToNat, reduceIte, tsN, hkp9]
    simp only [putM_some]
    refine VAnyE.ld (m := .agg [.v (.bool sh), .str sv, .v (.bool sc)]) tabOk 8 rfl (by kernel_rfl) (by kernel_rfl) (by kernel_rfl) (by kernel_rfl) rfl rfl rfl ?_ rfl ?_
    · simp (disch := first | omega | (simp only [ds] <;> omega) | fail) only [wk, undefM, Nat.reduceLT, Nat.reduceAdd, Nat.reduceMul, Nat.reduceSub, Nat.reduceBEq, Nat.reduceEqDiff, Int.reduceToNat, reduceIte, tsN, hkq]
    simp only [putM_some]
    refine VAnyE.two (i := 4) (j := 11) (by kernel_rfl) ?_ ?_
    · refine VOne.callR rfl rfl rfl rfl (by kernel_rfl) rfl (t1 _ hpb.1 hqb.1) ?_
      rintro _ O10 ⟨rfl, hg10⟩
      simp only [putM_some]
      refine ⟨hg10, ?_⟩
      refine VAnyE.two (i := 9) (j := 11) (by kernel_rfl) ?_ ?_
      · refine VOne.callR rfl rfl rfl rfl (by kernel_rfl) rfl (t2 _ hpb.2 hqb.2) ?_
        rintro _ O11 ⟨rfl, hg11⟩
        simp only [putM_some]
        have hgZ := hg10.trans hg11
        refine ⟨hgZ, ?_⟩
        refine VAnyE.sil tabOk 10 rfl (by kernel_rfl) (by kernel_rfl) (by kernel_rfl) (by kernel_rfl) rfl rfl ?_
        simp (disch := first | omega | (simp only [ds] <;> omega) | fail) only [wk, undefM, Nat.reduceLT, Nat.reduceAdd, Nat.reduceMul, Nat.reduceSub, Nat.reduceBEq, Nat.reduceEqDiff, Int.reduceToNat, reduceIte, PreK_some, putM_some, tsN, enM]
        refine VAnyE.op (i := 11) tabOk (by kernel_rfl) rfl rfl rfl ?_
        simp (disch := first | omega | (simp only [ds] <;> omega) | fail) only [wk, undefM, Nat.reduceLT, Nat.reduceAdd, Nat.reduceMul, Nat.reduceSub, Nat.reduceBEq, Nat.reduceEqDiff, Int.reduceToNat, reduceIte, PreK_some, putM_some, tsN]
        refine ⟨hgZ.push _, ?_⟩
        refine VAnyE.op (i := 12) tabOk (by kernel_rfl) rfl rfl rfl ?_
        simp (disch := first | omega | (simp only [ds] <;> omega) | fail) only [wk, undefM, Nat.reduceLT, Nat.reduceAdd, Nat.reduceMul, Nat.reduceSub, Nat.reduceBEq, Nat.reduceEqDiff, Int.reduceToNat, reduceIte, PreK_some, putM_some, tsN]
        refine ⟨(hgZ.push _).set hgZ.next _, ?_⟩
        refine VAnyE.plan tabOk [] (by kernel_rfl) (by kernel_rfl) (by kernel_rfl) rfl ?_
        simp (disch := first | omega | (simp only [ds] <;> omega) | fail) only [wk, undefM, Nat.reduceLT, Nat.reduceAdd, Nat.reduceMul, Nat.reduceSub, Nat.reduceBEq, Nat.reduceEqDiff, Int.reduceToNat, reduceIte, tsN]
        exact JoinQ.mk O11.next rfl ⟨(hgZ.push _).set hgZ.next _, hgZ.next, Nat.lt_succ_self _, VH.set_get _ _ _⟩
      · refine VOne.o1 tabOk rfl rfl rfl ?_
        simp (disch := first | omega | (simp only [ds] <;> omega) | fail) only [wk, undefM, Nat.reduceLT, Nat.reduceAdd, Nat.reduceMul, Nat.reduceSub, Nat.reduceBEq, Nat.reduceEqDiff, Int.reduceToNat, reduceIte, PreK_some, putM_some, tsN]
        refine ⟨hg10.push _, ?_⟩
        refine VAnyE.call (i := 9) (by kernel_rfl) rfl rfl rfl rfl (by kernel_rfl) rfl (t2 _ hpb.2 hqb.2) ?_
        rintro _ O11 ⟨rfl, hg11⟩
        simp only [putM_some]
        have hgZ := (hg10.push (.cells [.v (.bool false), .str [], .v (.bool false), .v (.bool false), .str [], .v (.bool false)])).trans hg11
        have hkx := (hg11.hp O10.next (Nat.lt_succ_self _)).trans (VH.push_new O10 (.cells [.v (.bool false), .str [], .v (.bool false), .v (.bool false), .str [], .v (.bool false)]))
        refine ⟨hgZ, ?_⟩
        refine VAnyE.sil tabOk 10 rfl (by kernel_rfl) (by kernel_rfl) (by kernel_rfl) (by kernel_rfl) rfl rfl ?_
        simp (disch := first | omega | (simp only [ds] <;> omega) | fail) only [wk, undefM, Nat.reduceLT, Nat.reduceAdd, Nat.reduceMul, Nat.reduceSub, Nat.reduceBEq, Nat.reduceEqDiff, Int.reduceToNat, reduceIte, PreK_some, putM_some, tsN, enM]
        refine VAnyE.op (i := 12) tabOk (by kernel_rfl) rfl rfl rfl ?_
        simp (disch := first | omega | (simp only [ds] <;> omega) | fail) only [wk, undefM, Nat.reduceLT, Nat.reduceAdd, Nat.reduceMul, Nat.reduceSub, Nat.reduceBEq, Nat.reduceEqDiff, Int.reduceToNat, reduceIte, PreK_some, putM_some, tsN, hkx]
        refine ⟨hgZ.set hg10.next _, ?_⟩
        refine VAnyE.plan tabOk [] (by kernel_rfl) (by kernel_rfl) (by kernel_rfl) rfl ?_
        simp (disch := first | omega | (simp only [ds] <;> omega) | fail) only [wk, undefM, Nat.reduceLT, Nat.reduceAdd, Nat.reduceMul, Nat.reduceSub, Nat.reduceBEq, Nat.reduceEqDiff, Int.reduceToNat, reduceIte, tsN]
        exact JoinQ.mk O10.next rfl ⟨hgZ.set hg10.next _, hg10.next, Nat.lt_of_lt_of_le (Nat.lt_succ_self _) hg11.next, VH.set_get _ _ _⟩
    · refine VOne.o1 tabOk rfl rfl rfl ?_
      simp (disch := first | omega | (simp only [ds] <;> omega) | fail) only [wk, undefM, Nat.reduceLT, Nat.reduceAdd, Nat.reduceMul, Nat.reduceSub, Nat.reduceBEq, Nat.reduceEqDiff, Int.reduceToNat, reduceIte, PreK_some, putM_some, tsN]
      refine ⟨(VH.Ge.refl _).push _, ?_⟩
      refine VAnyE.call (i := 4) (by kernel_rfl) rfl rfl rfl rfl (by kernel_rfl) rfl (t1 _ hpb.1 hqb.1) ?_
      rintro _ O10 ⟨rfl, hg10⟩
      simp only [putM_some]
      have hgW := ((VH.Ge.refl O9).push (.cells [.v (.bool false), .str [], .v (.bool false), .v (.bool false), .str [], .v (.bool false)])).trans hg10
      refine ⟨hgW, ?_⟩
      refine VAnyE.call (i := 9) (by kernel_rfl) rfl rfl rfl rfl (by kernel_rfl) rfl (t2 _ hpb.2 hqb.2) ?_
      rintro _ O11 ⟨rfl, hg11⟩
      simp only [putM_some]
      have hgZ := hgW.trans hg11
      have hkx := ((hg10.trans hg11).hp O9.next (Nat.lt_succ_self _)).trans (VH.push_new O9 (.cells [.v (.bool false), .str [], .v (.bool false), .v (.bool false), .str [], .v (.bool false)]))
      refine ⟨hgZ, ?_⟩
      refine VAnyE.sil tabOk 10 rfl (by kernel_rfl) (by kernel_rfl) (by kernel_rfl) (by kernel_rfl) rfl rfl ?_
      simp (disch := first | omega | (simp only [ds] <;> omega) | fail) only [wk, undefM, Nat.reduceLT, Nat.reduceAdd, Nat.reduceMul, Nat.reduceSub, Nat.reduceBEq, Nat.reduceEqDiff, Int.reduceToNat, reduceIte, PreK_some, putM_some, tsN, enM]
      refine VAnyE.op (i := 12) tabOk (by kernel_rfl) rfl rfl rfl ?_
      simp (disch := first | omega | (simp only [ds] <;> omega) | fail) only [wk, undefM, Nat.reduceLT, Nat.reduceAdd, Nat.reduceMul, Nat.reduceSub, Nat.reduceBEq, Nat.reduceEqDiff, Int.reduceToNat, reduceIte, PreK_some, putM_some, tsN, hkx]
      refine ⟨hgZ.set (Nat.le_refl _) _, ?_⟩
      refine VAnyE.plan tabOk [] (by kernel_rfl) (by kernel_rfl) (by kernel_rfl) rfl ?_
      simp (disch := first | omega | (simp only [ds] <;> omega) | fail) only [wk, undefM, Nat.reduceLT, Nat.reduceAdd, Nat.reduceMul, Nat.reduceSub, Nat.reduceBEq, Nat.reduceEqDiff, Int.reduceToNat, reduceIte, tsN]
      exact JoinQ.mk O9.next rfl ⟨hgZ.set (Nat.le_refl _) _, Nat.le_refl _, Nat.lt_of_lt_of_le (Nat.lt_succ_self _) (hg10.trans hg11).next, VH.set_get _ _ _⟩
  rintro k O10 ⟨hg10, hk1, hk2, hkx⟩
  have hg010 := hg9.trans hg10
  have hk210 := (hg10.hp _ (by omega)).trans hk29
  have hk310 := (hg10.hp _ (by omega)).trans hk39
  have hk510 := (hg10.hp _ (by omega)).trans hk59
  have hkp10 := (hg10.hp _ (by omega)).trans hkp9
  have hap10 := hap9.keep hg10.next (fun j _ h => hg10.hp j h)
  have hn9 := hg10.next
  clear hk29 hk39 hk59 hkp9 hap9 hkq
  refine WC.sound tabOk ?_
  simp (disch := first | omega | (simp only [ds] <;> omega) | fail) only [wk, undefM, Nat.reduceLT, Nat.reduceAdd, Nat.reduceMul, Nat.reduceSub, Nat.reduceBEq, Nat.reduceEqDiff, Int.reduceToNat, reduceIte, tsN, hkx]
  refine CallW.rt (isBelow_v (xh, xv, xc) (yh, yv, yc) _ l1 l2) (by kernel_rfl) rfl rfl ?_
  rintro _ O11 ⟨rfl, hg11⟩
  have hg011 := hg010.trans hg11
  have hk211 := (hg11.hp _ (by omega)).trans hk210
  have hk311 := (hg11.hp _ (by omega)).trans hk310
  have hk511 := (hg11.hp _ (by omega)).trans hk510
  have hkp11 := (hg11.hp _ (by omega)).trans hkp10
  have hkx11 := (hg11.hp _ hk2).trans hkx
  have hap11 := hap10.keep hg11.next (fun j _ h => hg11.hp j h)
  have hn11 := hg11.next
  clear hk210 hk310 hk510 hkp10 hap10 hkx
  cases hbl : belowF (xh, xv, xc) (yh, yv, yc)
  · rw [hbl, if_neg (by simp), List.append_nil] at hsnB
    simp (disch := first | omega | (simp only [ds] <;> omega) | fail) only [wk, undefM, Nat.reduceLT, Nat.reduceAdd, Nat.reduceMul, Nat.reduceSub, Nat.reduceBEq, Nat.reduceEqDiff, Int.reduceToNat, reduceIte, tsN]
    refine WC.sound tabOk ?_
    simp (disch := first | omega | (simp only [ds] <;> omega) | fail) only [wk, undefM, Nat.reduceLT, Nat.reduceAdd, Nat.reduceMul, Nat.reduceSub, Nat.reduceBEq, Nat.reduceEqDiff, Int.reduceToNat, reduceIte, tsN]
    refine RoundQ.next (j + 1, tj) rfl rfl ⟨hg011, hk211, hk311, ?_, hkp11, by omega, hap11, hj2⟩ (by dsimp only; omega)
    dsimp only
    rw [hsnB]
    exact hk511
  · rw [hbl, if_pos rfl] at hsnB
    simp (disch := first | omega | (simp only [ds] <;> omega) | fail) only [wk, undefM, Nat.reduceLT, Nat.reduceAdd, Nat.reduceMul, Nat.reduceSub, Nat.reduceBEq, Nat.reduceEqDiff, Int.reduceToNat, reduceIte, tsN, hk511, hkx11]
    generalize hFF : F ++ meetB ((ph, pv, pc), (qh, qv, qc)) (B.take j) = FF at *
    have hvap := vappend_app (tk' := .full) (n := FF.length) (k := 1) (cs := FF.flatMap ivM) (ds := [.v (.bool xh), .str xv, .v (.bool xc), .v (.bool yh), .str yv, .v (.bool yc)]) ty23 ty57 hap11 (iv_len FF) rfl rfl (by decide) (by decide) (by omega) (by simp [maxLen]; omega)
    have hst : (FF ++ [((xh, xv, xc), (yh, yv, yc))]).flatMap ivM = FF.flatMap ivM ++ [.v (.bool xh), .str xv, .v (.bool xc), .v (.bool yh), .str yv, .v (.bool yc)] := by simp [ivM, enM, mb_def]
    rw [← hst] at hvap
    refine VL.app tabOk hvap rfl rfl rfl rfl ?_
    have hk212 := VH.after_hp hap11 hk211 (by simp) (by omega)
    have hk312 := VH.after_hp hap11 hk311 (by simp) (by omega)
    have hk512 := VH.after_hp hap11 hk511 (by simp) (by omega)
    have hkp12 := VH.after_hp hap11 hkp11 (by simp) (by omega)
    have hg12 := hg011.after hap11 (by omega)
    have hap12 : App (O11.after tj) (K + 1) 6 (.own O11.next 6) := App.after (by omega)
    have hn12 : KP < (O11.after tj).next := by rw [VH.after_next]; omega
    generalize O11.after tj = O12 at *
    simp (disch := first | omega | (simp only [ds] <;> omega) | fail) only [wk, undefM, Nat.reduceLT, Nat.reduceAdd, Nat.reduceMul, Nat.reduceSub, Nat.reduceBEq, Nat.reduceEqDiff, Int.reduceToNat, reduceIte, tsN, hk512]
    refine WC.sound tabOk ?_
    simp (disch := first | omega | (simp only [ds] <;> omega) | fail) only [wk, undefM, Nat.reduceLT, Nat.reduceAdd, Nat.reduceMul, Nat.reduceSub, Nat.reduceBEq, Nat.reduceEqDiff, Int.reduceToNat, reduceIte, tsN]
    refine RoundQ.next (j + 1, .own O11.next 6) rfl rfl ⟨hg12.set (by omega) _, (VH.set_ne _ _ (by omega)).trans hk212, (VH.set_ne _ _ (by omega)).trans hk312, (VH.set_get _ _ _).trans ?_, (VH.set_ne _ _ (by omega)).trans hkp12, hn12, hap12.keep (Nat.le_refl _) (fun i h1 _ => VH.set_ne _ _ (by omega)), hj2⟩ (by dsimp only; omega)
    dsimp only
    rw [hsnB, ← List.append_assoc, hFF, List.length_append]
    rfl
end Go.Proofs.YtbpnmkmlicbfoaaDoor

/-
  The law BoundsBoth, walked.
-/
set_option linter.unusedVariables false
set_option linter.unusedSimpArgs false
namespace Go.Proofs.YtbpnmkmlicbfoaaDoor
open Go.RowKit
set_option maxRecDepth 10000
theorem meet_ok {a b : Rg} (ha : RgOk a) (hb : RgOk b) (la : a.2.2.length ≤ 20) (lb : b.2.2.length ≤ 20) : RgOk (meetR a b) ∧ (meetR a b).2.2.length ≤ 400 := by
  obtain ⟨h1, v1, l1⟩ := a
  obtain ⟨h2, v2, l2⟩ := b
  dsimp only at la lb
  unfold meetR
  cases h2
  · exact ⟨ha, by show l1.length ≤ 400; omega⟩
  cases h1
  · exact ⟨hb, by show l2.length ≤ 400; omega⟩
  have hl := meetL_len l1 l2
  have h400 : l1.length * l2.length ≤ 20 * 20 := Nat.mul_le_mul la lb
  refine ⟨⟨Nat.zero_le _, by show (meetL l1 l2).length ≤ maxLen; simp only [maxLen]; omega, fun x hx => ?_⟩, by show (meetL l1 l2).length ≤ 400; omega⟩
  obtain ⟨p, hp, hx⟩ := List.mem_flatMap.1 hx
  obtain ⟨q, hq, rfl⟩ := List.mem_map.1 (List.mem_filter.1 hx).1
  have k1 := ha.2.2 p hp
  have k2 := hb.2.2 q hq
  exact ⟨tight_len k1.1 k2.1, tight_len k1.2 k2.2⟩
/-- pomacelaw05.BoundsBoth -/
theorem both5_law (ya yb : RgA) (v : List UInt8) (O : VH) (hya : RgIn ya) (hyb : RgIn yb) (hv : v.length ≤ maxLen) : VF Tryd.prog 7 [.agg (rgM (rgY ya) ya.2.2.2), .agg (rgM (rgY yb) yb.2.2.2), .str v] O (Ret fun m O' => m = mb true) := by
  obtain ⟨h1, v1, A, ta⟩ := ya
  obtain ⟨h2, v2, B, tb⟩ := yb
  obtain ⟨_, a1, a2, a3⟩ := hya
  obtain ⟨_, b1, b2, b3⟩ := hyb
  dsimp only [rgY] at a1 a2 a3 b1 b2 b3 ⊢
  have hk1 : ((O.push (.cells (rgM (h1, v1, A) ta))).push (.cells (rgM (h2, v2, B) tb))).hp O.next = some (.cells (rgM (h1, v1, A) ta)) := (VH.push_ne _ _ (by show O.next ≠ O.next + 1; omega)).trans (VH.push_new O _)
  have hk2 : ((O.push (.cells (rgM (h1, v1, A) ta))).push (.cells (rgM (h2, v2, B) tb))).hp (O.next + 1) = some (.cells (rgM (h2, v2, B) tb)) := VH.push_new _ _
  have hn : ((O.push (.cells (rgM (h1, v1, A) ta))).push (.cells (rgM (h2, v2, B) tb))).next = O.next + 2 := rfl
  simp only [rgM, mb_def] at hk1 hk2 hn
  refine VF.ofW (n := ⟨74, 0⟩) (rs := [.tmp 6]) tabOk Tryd.func7 rfl rfl rfl (Nat.le_of_ble_eq_true rfl) ?_
  simp only [argEnv, Nat.zero_add, Nat.reduceAdd]
  simp (disch := first | omega | (simp only [ds] <;> omega) | fail) only [wk, undefM, Nat.reduceLT, Nat.reduceAdd, Nat.reduceMul, Nat.reduceSub, Nat.reduceBEq, Nat.reduceEqDiff, Int.reduceToNat, reduceIte, tsN, rgM]
  generalize ((O.push (.cells [.v (.bool h1), .str v1, .sl A.length (A.flatMap ivM) ta])).push (.cells [.v (.bool h2), .str v2, .sl B.length (B.flatMap ivM) tb])) = O1 at *
  refine CallW.rt (lawCut5_v v _ hv) (by kernel_rfl) rfl rfl ?_
  rintro _ OX ⟨rfl, eX⟩
  rw [eX]; clear eX OX
  have hu := cut300 v
  generalize v.take 300 = u at *
  simp (disch := first | omega | (simp only [ds] <;> omega) | fail) only [wk, undefM, Nat.reduceLT, Nat.reduceAdd, Nat.reduceMul, Nat.reduceSub, Nat.reduceBEq, Nat.reduceEqDiff, Int.reduceToNat, reduceIte, tsN, hk1]
  refine CallW.rt (Light_v (h1, v1, A) ta _ a1 a3 (fun p hp => ⟨(a2 p hp).1.2.1, (a2 p hp).2.2.1⟩)) (by kernel_rfl) rfl rfl ?_
  rintro _ O2 ⟨rfl, hg2⟩
  have hk12 := (hg2.hp _ (by omega)).trans hk1
  have hk22 := (hg2.hp _ (by omega)).trans hk2
  have hn2 := hg2.next
  cases hl1 : lightR (h1, v1, A)
  · simp (disch := first | omega | (simp only [ds] <;> omega) | fail) only [wk, undefM, Nat.reduceLT, Nat.reduceAdd, Nat.reduceMul, Nat.reduceSub, Nat.reduceBEq, Nat.reduceEqDiff, Int.reduceToNat, reduceIte, tsN]
    refine CallW.rt (lives5_v _) (by kernel_rfl) rfl rfl ?_
    rintro _ OL ⟨rfl, hgL⟩
    simp (disch := first | omega | (simp only [ds] <;> omega) | fail) only [wk, undefM, Nat.reduceLT, Nat.reduceAdd, Nat.reduceMul, Nat.reduceSub, Nat.reduceBEq, Nat.reduceEqDiff, Int.reduceToNat, reduceIte, tsN]
  simp (disch := first | omega | (simp only [ds] <;> omega) | fail) only [wk, undefM, Nat.reduceLT, Nat.reduceAdd, Nat.reduceMul, Nat.reduceSub, Nat.reduceBEq, Nat.reduceEqDiff, Int.reduceToNat, reduceIte, tsN, hk22]
  refine CallW.rt (Light_v (h2, v2, B) tb _ b1 b3 (fun p hp => ⟨(b2 p hp).1.2.1, (b2 p hp).2.2.1⟩)) (by kernel_rfl) rfl rfl ?_
  rintro _ O3 ⟨rfl, hg3⟩
  have hk13 := (hg3.hp _ (by omega)).trans hk12
  have hk23 := (hg3.hp _ (by omega)).trans hk22
  have hn3 := hg3.next
  cases hl2 : lightR (h2, v2, B)
  · simp (disch := first | omega | (simp only [ds] <;> omega) | fail) only [wk, undefM, Nat.reduceLT, Nat.reduceAdd, Nat.reduceMul, Nat.reduceSub, Nat.reduceBEq, Nat.reduceEqDiff, Int.reduceToNat, reduceIte, tsN]
    refine CallW.rt (lives5_v _) (by kernel_rfl) rfl rfl ?_
    rintro _ OL ⟨rfl, hgL⟩
    simp (disch := first | omega | (simp only [ds] <;> omega) | fail) only [wk, undefM, Nat.reduceLT, Nat.reduceAdd, Nat.reduceMul, Nat.reduceSub, Nat.reduceBEq, Nat.reduceEqDiff, Int.reduceToNat, reduceIte, tsN]
  obtain ⟨ok1, c1, _⟩ := light_ok hl1
  obtain ⟨ok2, c2, _⟩ := light_ok hl2
  dsimp only at c1 c2
  simp (disch := first | omega | (simp only [ds] <;> omega) | fail) only [wk, undefM, Nat.reduceLT, Nat.reduceAdd, Nat.reduceMul, Nat.reduceSub, Nat.reduceBEq, Nat.reduceEqDiff, Int.reduceToNat, reduceIte, tsN, hk13]
  refine CallW.rt (rRgMay_v (h1, v1, A) ta _ ok1) (by kernel_rfl) rfl rfl ?_
  rintro _ O4 ⟨rfl, hg4⟩
  have hk14 := (hg4.hp _ (by omega)).trans hk13
  have hk24 := (hg4.hp _ (by omega)).trans hk23
  have hn4 := hg4.next
  cases hm1 : mayR (h1, v1, A)
  · simp (disch := first | omega | (simp only [ds] <;> omega) | fail) only [wk, undefM, Nat.reduceLT, Nat.reduceAdd, Nat.reduceMul, Nat.reduceSub, Nat.reduceBEq, Nat.reduceEqDiff, Int.reduceToNat, reduceIte, tsN]
    refine CallW.rt (lives5_v _) (by kernel_rfl) rfl rfl ?_
    rintro _ OL ⟨rfl, hgL⟩
    simp (disch := first | omega | (simp only [ds] <;> omega) | fail) only [wk, undefM, Nat.reduceLT, Nat.reduceAdd, Nat.reduceMul, Nat.reduceSub, Nat.reduceBEq, Nat.reduceEqDiff, Int.reduceToNat, reduceIte, tsN]
  simp (disch := first | omega | (simp only [ds] <;> omega) | fail) only [wk, undefM, Nat.reduceLT, Nat.reduceAdd, Nat.reduceMul, Nat.reduceSub, Nat.reduceBEq, Nat.reduceEqDiff, Int.reduceToNat, reduceIte, tsN, hk24]
  refine CallW.rt (rRgMay_v (h2, v2, B) tb _ ok2) (by kernel_rfl) rfl rfl ?_
  rintro _ O5 ⟨rfl, hg5⟩
  have hk15 := (hg5.hp _ (by omega)).trans hk14
  have hk25 := (hg5.hp _ (by omega)).trans hk24
  have hn5 := hg5.next
  cases hm2 : mayR (h2, v2, B)
  · simp (disch := first | omega | (simp only [ds] <;> omega) | fail) only [wk, undefM, Nat.reduceLT, Nat.reduceAdd, Nat.reduceMul, Nat.reduceSub, Nat.reduceBEq, Nat.reduceEqDiff, Int.reduceToNat, reduceIte, tsN]
    refine CallW.rt (lives5_v _) (by kernel_rfl) rfl rfl ?_
    rintro _ OL ⟨rfl, hgL⟩
    simp (disch := first | omega | (simp only [ds] <;> omega) | fail) only [wk, undefM, Nat.reduceLT, Nat.reduceAdd, Nat.reduceMul, Nat.reduceSub, Nat.reduceBEq, Nat.reduceEqDiff, Int.reduceToNat, reduceIte, tsN]
  have hmm := may_meet hm1 hm2 c1 c2
  obtain ⟨okm, cm⟩ := meet_ok ok1 ok2 c1 c2
  obtain ⟨okn, cn⟩ := meet_ok ok2 ok1 c2 c1
  have hhm := has_meet (h1, v1, A) (h2, v2, B) u
  have hhn := has_meet (h2, v2, B) (h1, v1, A) u
  rw [Bool.and_comm] at hhn
  simp (disch := first | omega | (simp only [ds] <;> omega) | fail) only [wk, undefM, Nat.reduceLT, Nat.reduceAdd, Nat.reduceMul, Nat.reduceSub, Nat.reduceBEq, Nat.reduceEqDiff, Int.reduceToNat, reduceIte, tsN, hk15, hk25]
  refine CallW.rt (Meet_v (h1, v1, A) (h2, v2, B) ta tb _ ok1 ok2 (by dsimp only; omega) (by dsimp only; omega)) (by kernel_rfl) rfl rfl ?_
  rintro _ O6 ⟨tm, eM, hg6⟩
  have hk16 := (hg6.hp _ (by omega)).trans hk15
  have hk26 := (hg6.hp _ (by omega)).trans hk25
  have hn6 := hg6.next
  generalize meetR (h1, v1, A) (h2, v2, B) = M at *
  obtain ⟨mh, mv, ML⟩ := M
  subst eM
  simp (disch := first | omega | (simp only [ds] <;> omega) | fail) only [wk, undefM, Nat.reduceLT, Nat.reduceAdd, Nat.reduceMul, Nat.reduceSub, Nat.reduceBEq, Nat.reduceEqDiff, Int.reduceToNat, reduceIte, tsN, rgM, hk16, hk26]
  have hgY := ((VH.Ge.refl O6).push (.cells bndC)).set (Nat.le_refl _) (.cells (rgM (mh, mv, ML) tm))
  have hkm := VH.set_get (O6.push (.cells bndC)) O6.next (.cells (rgM (mh, mv, ML) tm))
  have hn7 : O6.next < ((O6.push (.cells bndC)).set O6.next (.cells (rgM (mh, mv, ML) tm))).next := Nat.lt_succ_self _
  simp only [bndC, rgM, mb_def] at hgY hkm hn7
  generalize ((O6.push (.cells [.v (.bool false), .str [], .sl 0 [] .nil])).set O6.next (.cells [.v (.bool mh), .str mv, .sl ML.length (ML.flatMap ivM) tm])) = O7 at *
  have hk17 := (hgY.hp _ (by omega)).trans hk16
  have hk27 := (hgY.hp _ (by omega)).trans hk26
  generalize O6.next = KM at *
  clear hgY
  refine CallW.rt (Meet_v (h2, v2, B) (h1, v1, A) tb ta _ ok2 ok1 (by dsimp only; omega) (by dsimp only; omega)) (by kernel_rfl) rfl rfl ?_
  rintro _ O8 ⟨tn, eM, hg8⟩
  have hk18 := (hg8.hp _ (by omega)).trans hk17
  have hk28 := (hg8.hp _ (by omega)).trans hk27
  have hkm8 := (hg8.hp _ (by omega)).trans hkm
  have hn8 := hg8.next
  generalize meetR (h2, v2, B) (h1, v1, A) = N at *
  obtain ⟨nh, nv, NL⟩ := N
  subst eM
  simp (disch := first | omega | (simp only [ds] <;> omega) | fail) only [wk, undefM, Nat.reduceLT, Nat.reduceAdd, Nat.reduceMul, Nat.reduceSub, Nat.reduceBEq, Nat.reduceEqDiff, Int.reduceToNat, reduceIte, tsN, rgM, hk18, hk28]
  have hgY := ((VH.Ge.refl O8).push (.cells bndC)).set (Nat.le_refl _) (.cells (rgM (nh, nv, NL) tn))
  have hkn := VH.set_get (O8.push (.cells bndC)) O8.next (.cells (rgM (nh, nv, NL) tn))
  have hn9 : O8.next < ((O8.push (.cells bndC)).set O8.next (.cells (rgM (nh, nv, NL) tn))).next := Nat.lt_succ_self _
  simp only [bndC, rgM, mb_def] at hgY hkn hn9
  generalize ((O8.push (.cells [.v (.bool false), .str [], .sl 0 [] .nil])).set O8.next (.cells [.v (.bool nh), .str nv, .sl NL.length (NL.flatMap ivM) tn])) = O9 at *
  have hk29 := (hgY.hp _ (by omega)).trans hk28
  have hkm9 := (hgY.hp _ (by omega)).trans hkm8
  generalize O8.next = KN at *
  clear hgY
  refine CallW.rt (Has_v (h1, v1, A) ta u _ ok1 hu) (by kernel_rfl) rfl rfl ?_
  rintro _ O10 ⟨rfl, hg10⟩
  have hk210 := (hg10.hp _ (by omega)).trans hk29
  have hkm10 := (hg10.hp _ (by omega)).trans hkm9
  have hkn10 := (hg10.hp _ (by omega)).trans hkn
  have hn10 := hg10.next
  cases hA : hasF (h1, v1, A) u
  · simp (disch := first | omega | (simp only [ds] <;> omega) | fail) only [wk, undefM, Nat.reduceLT, Nat.reduceAdd, Nat.reduceMul, Nat.reduceSub, Nat.reduceBEq, Nat.reduceEqDiff, Int.reduceToNat, reduceIte, tsN, hkm10]
    refine CallW.rt (Has_v (mh, mv, ML) tm u _ okm hu) (by kernel_rfl) rfl rfl ?_
    rintro _ R1 ⟨rfl, g1⟩
    rw [hhm, hA, Bool.false_and]
    have p1 := (g1.hp _ (by omega)).trans hkn10
    have p2 := (g1.hp _ (by omega)).trans hkm10
    have p3 := g1.next
    simp (disch := first | omega | (simp only [ds] <;> omega) | fail) only [wk, undefM, Nat.reduceLT, Nat.reduceAdd, Nat.reduceMul, Nat.reduceSub, Nat.reduceBEq, Nat.reduceEqDiff, Int.reduceToNat, reduceIte, tsN, p1, Bool.and_true, Bool.and_false, Bool.and_self]
    refine CallW.rt (Has_v (nh, nv, NL) tn u _ okn hu) (by kernel_rfl) rfl rfl ?_
    rintro _ R2 ⟨rfl, g2⟩
    rw [hhn, hA, Bool.false_and]
    have p4 := (g2.hp _ (by omega)).trans p2
    have p5 := g2.next
    simp (disch := first | omega | (simp only [ds] <;> omega) | fail) only [wk, undefM, Nat.reduceLT, Nat.reduceAdd, Nat.reduceMul, Nat.reduceSub, Nat.reduceBEq, Nat.reduceEqDiff, Int.reduceToNat, reduceIte, tsN, p4, Bool.and_true, Bool.and_false, Bool.and_self]
    refine CallW.rt (rgMay_v (mh, mv, ML) tm _ okm) (by kernel_rfl) rfl rfl ?_
    rintro _ R3 ⟨rfl, g3⟩
    have p6 := (g3.hp _ (by omega)).trans p4
    cases hmv : mayR (mh, mv, ML)
    · rcases hmm with h | ⟨e1, e2⟩
      · rw [hmv] at h; cases h
      dsimp only at e1 e2
      subst e1 e2
      simp (disch := first | omega | (simp only [ds] <;> omega) | fail) only [wk, undefM, Nat.reduceLT, Nat.reduceAdd, Nat.reduceMul, Nat.reduceSub, Nat.reduceBEq, Nat.reduceEqDiff, Int.reduceToNat, reduceIte, tsN, p6, List.length_nil]
      refine CallW.rt (lives5_v _) (by kernel_rfl) rfl rfl ?_
      rintro _ OL ⟨rfl, hgL⟩
      simp (disch := first | omega | (simp only [ds] <;> omega) | fail) only [wk, undefM, Nat.reduceLT, Nat.reduceAdd, Nat.reduceMul, Nat.reduceSub, Nat.reduceBEq, Nat.reduceEqDiff, Int.reduceToNat, reduceIte, tsN]
    · simp (disch := first | omega | (simp only [ds] <;> omega) | fail) only [wk, undefM, Nat.reduceLT, Nat.reduceAdd, Nat.reduceMul, Nat.reduceSub, Nat.reduceBEq, Nat.reduceEqDiff, Int.reduceToNat, reduceIte, tsN]
      refine CallW.rt (lives5_v _) (by kernel_rfl) rfl rfl ?_
      rintro _ OL ⟨rfl, hgL⟩
      simp (disch := first | omega | (simp only [ds] <;> omega) | fail) only [wk, undefM, Nat.reduceLT, Nat.reduceAdd, Nat.reduceMul, Nat.reduceSub, Nat.reduceBEq, Nat.reduceEqDiff, Int.reduceToNat, reduceIte, tsN]
  simp (disch := first | omega | (simp only [ds] <;> omega) | fail) only [wk, undefM, Nat.reduceLT, Nat.reduceAdd, Nat.reduceMul, Nat.reduceSub, Nat.reduceBEq, Nat.reduceEqDiff, Int.reduceToNat, reduceIte, tsN, hk210]
  refine CallW.rt (Has_v (h2, v2, B) tb u _ ok2 hu) (by kernel_rfl) rfl rfl ?_
  rintro _ O11 ⟨rfl, hg11⟩
  have hkm11 := (hg11.hp _ (by omega)).trans hkm10
  have hkn11 := (hg11.hp _ (by omega)).trans hkn10
  have hn11 := hg11.next
  cases hB : hasF (h2, v2, B) u
  · simp (disch := first | omega | (simp only [ds] <;> omega) | fail) only [wk, undefM, Nat.reduceLT, Nat.reduceAdd, Nat.reduceMul, Nat.reduceSub, Nat.reduceBEq, Nat.reduceEqDiff, Int.reduceToNat, reduceIte, tsN, hkm11]
    refine CallW.rt (Has_v (mh, mv, ML) tm u _ okm hu) (by kernel_rfl) rfl rfl ?_
    rintro _ R1 ⟨rfl, g1⟩
    rw [hhm, hA, hB, Bool.and_false]
    have p1 := (g1.hp _ (by omega)).trans hkn11
    have p2 := (g1.hp _ (by omega)).trans hkm11
    have p3 := g1.next
    simp (disch := first | omega | (simp only [ds] <;> omega) | fail) only [wk, undefM, Nat.reduceLT, Nat.reduceAdd, Nat.reduceMul, Nat.reduceSub, Nat.reduceBEq, Nat.reduceEqDiff, Int.reduceToNat, reduceIte, tsN, p1, Bool.and_true, Bool.and_false, Bool.and_self]
    refine CallW.rt (Has_v (nh, nv, NL) tn u _ okn hu) (by kernel_rfl) rfl rfl ?_
    rintro _ R2 ⟨rfl, g2⟩
    rw [hhn, hA, hB, Bool.and_false]
    have p4 := (g2.hp _ (by omega)).trans p2
    have p5 := g2.next
    simp (disch := first | omega | (simp only [ds] <;> omega) | fail) only [wk, undefM, Nat.reduceLT, Nat.reduceAdd, Nat.reduceMul, Nat.reduceSub, Nat.reduceBEq, Nat.reduceEqDiff, Int.reduceToNat, reduceIte, tsN, p4, Bool.and_true, Bool.and_false, Bool.and_self]
    refine CallW.rt (rgMay_v (mh, mv, ML) tm _ okm) (by kernel_rfl) rfl rfl ?_
    rintro _ R3 ⟨rfl, g3⟩
    have p6 := (g3.hp _ (by omega)).trans p4
    cases hmv : mayR (mh, mv, ML)
    · rcases hmm with h | ⟨e1, e2⟩
      · rw [hmv] at h; cases h
      dsimp only at e1 e2
      subst e1 e2
      simp (disch := first | omega | (simp only [ds] <;> omega) | fail) only [wk, undefM, Nat.reduceLT, Nat.reduceAdd, Nat.reduceMul, Nat.reduceSub, Nat.reduceBEq, Nat.reduceEqDiff, Int.reduceToNat, reduceIte, tsN, p6, List.length_nil]
      refine CallW.rt (lives5_v _) (by kernel_rfl) rfl rfl ?_
      rintro _ OL ⟨rfl, hgL⟩
      simp (disch := first | omega | (simp only [ds] <;> omega) | fail) only [wk, undefM, Nat.reduceLT, Nat.reduceAdd, Nat.reduceMul, Nat.reduceSub, Nat.reduceBEq, Nat.reduceEqDiff, Int.reduceToNat, reduceIte, tsN]
    · simp (disch := first | omega | (simp only [ds] <;> omega) | fail) only [wk, undefM, Nat.reduceLT, Nat.reduceAdd, Nat.reduceMul, Nat.reduceSub, Nat.reduceBEq, Nat.reduceEqDiff, Int.reduceToNat, reduceIte, tsN]
      refine CallW.rt (lives5_v _) (by kernel_rfl) rfl rfl ?_
      rintro _ OL ⟨rfl, hgL⟩
      simp (disch := first | omega | (simp only [ds] <;> omega) | fail) only [wk, undefM, Nat.reduceLT, Nat.reduceAdd, Nat.reduceMul, Nat.reduceSub, Nat.reduceBEq, Nat.reduceEqDiff, Int.reduceToNat, reduceIte, tsN]
  · simp (disch := first | omega | (simp only [ds] <;> omega) | fail) only [wk, undefM, Nat.reduceLT, Nat.reduceAdd, Nat.reduceMul, Nat.reduceSub, Nat.reduceBEq, Nat.reduceEqDiff, Int.reduceToNat, reduceIte, tsN, hkm11]
    refine CallW.rt (Has_v (mh, mv, ML) tm u _ okm hu) (by kernel_rfl) rfl rfl ?_
    rintro _ R1 ⟨rfl, g1⟩
    rw [hhm, hA, hB, Bool.and_true]
    have p1 := (g1.hp _ (by omega)).trans hkn11
    have p2 := (g1.hp _ (by omega)).trans hkm11
    have p3 := g1.next
    simp (disch := first | omega | (simp only [ds] <;> omega) | fail) only [wk, undefM, Nat.reduceLT, Nat.reduceAdd, Nat.reduceMul, Nat.reduceSub, Nat.reduceBEq, Nat.reduceEqDiff, Int.reduceToNat, reduceIte, tsN, p1, Bool.and_true, Bool.and_false, Bool.and_self]
    refine CallW.rt (Has_v (nh, nv, NL) tn u _ okn hu) (by kernel_rfl) rfl rfl ?_
    rintro _ R2 ⟨rfl, g2⟩
    rw [hhn, hA, hB, Bool.and_true]
    have p4 := (g2.hp _ (by omega)).trans p2
    have p5 := g2.next
    simp (disch := first | omega | (simp only [ds] <;> omega) | fail) only [wk, undefM, Nat.reduceLT, Nat.reduceAdd, Nat.reduceMul, Nat.reduceSub, Nat.reduceBEq, Nat.reduceEqDiff, Int.reduceToNat, reduceIte, tsN, p4, Bool.and_true, Bool.and_false, Bool.and_self]
    refine CallW.rt (rgMay_v (mh, mv, ML) tm _ okm) (by kernel_rfl) rfl rfl ?_
    rintro _ R3 ⟨rfl, g3⟩
    have p6 := (g3.hp _ (by omega)).trans p4
    cases hmv : mayR (mh, mv, ML)
    · rcases hmm with h | ⟨e1, e2⟩
      · rw [hmv] at h; cases h
      dsimp only at e1 e2
      subst e1 e2
      simp (disch := first | omega | (simp only [ds] <;> omega) | fail) only [wk, undefM, Nat.reduceLT, Nat.reduceAdd, Nat.reduceMul, Nat.reduceSub, Nat.reduceBEq, Nat.reduceEqDiff, Int.reduceToNat, reduceIte, tsN, p6, List.length_nil]
      refine CallW.rt (lives5_v _) (by kernel_rfl) rfl rfl ?_
      rintro _ OL ⟨rfl, hgL⟩
      simp (disch := first | omega | (simp only [ds] <;> omega) | fail) only [wk, undefM, Nat.reduceLT, Nat.reduceAdd, Nat.reduceMul, Nat.reduceSub, Nat.reduceBEq, Nat.reduceEqDiff, Int.reduceToNat, reduceIte, tsN]
    · simp (disch := first | omega | (simp only [ds] <;> omega) | fail) only [wk, undefM, Nat.reduceLT, Nat.reduceAdd, Nat.reduceMul, Nat.reduceSub, Nat.reduceBEq, Nat.reduceEqDiff, Int.reduceToNat, reduceIte, tsN]
      refine CallW.rt (lives5_v _) (by kernel_rfl) rfl rfl ?_
      rintro _ OL ⟨rfl, hgL⟩
      simp (disch := first | omega | (simp only [ds] <;> omega) | fail) only [wk, undefM, Nat.reduceLT, Nat.reduceAdd, Nat.reduceMul, Nat.reduceSub, Nat.reduceBEq, Nat.reduceEqDiff, Int.reduceToNat, reduceIte, tsN]
end Go.Proofs.YtbpnmkmlicbfoaaDoor
