/-
  The comparison of versions as an order: plain.
-/
import Derived.Test.YtjbpnhmjnkolbaaDoorVerL
set_option linter.unusedVariables false
set_option linter.unusedSimpArgs false
namespace Go.Proofs.YtjbpnhmjnkolbaaDoor
open Go.RowKit

/-- A comparison: its answers, turned round, and how it goes on. -/
structure Cmp {α : Type} (c : α → α → Int) : Prop where
  rng : ∀ x y, c x y = -1 ∨ c x y = 0 ∨ c x y = 1
  anti : ∀ x y, c y x = - c x y
  eq : ∀ x y z, c x y = 0 → c x z = c y z
  tr : ∀ x y z, c x y = -1 → c y z = -1 → c x z = -1
theorem Cmp.refl {α : Type} {c : α → α → Int} (h : Cmp c) (x : α) : c x x = 0 := by have := h.anti x x; omega
theorem Cmp.eqR {α : Type} {c : α → α → Int} (h : Cmp c) (x y z : α) (e : c y z = 0) : c x y = c x z := by
  have := h.eq y z x e
  rw [h.anti x y, h.anti x z] at this; omega
theorem Cmp.comap {α β : Type} {c : α → α → Int} (h : Cmp c) (f : β → α) : Cmp fun x y => c (f x) (f y) :=
  ⟨fun _ _ => h.rng _ _, fun _ _ => h.anti _ _, fun _ _ _ => h.eq _ _ _, fun _ _ _ => h.tr _ _ _⟩
def lexC {α : Type} (c d : α → α → Int) (x y : α) : Int := if c x y ≠ 0 then c x y else d x y
theorem Cmp.lex {α : Type} {c d : α → α → Int} (h : Cmp c) (k : Cmp d) : Cmp (lexC c d) := by
  have cases2 : ∀ x y v, lexC c d x y = v → (c x y ≠ 0 ∧ c x y = v) ∨ (c x y = 0 ∧ d x y = v) := fun x y v hv => by
    unfold lexC at hv
    by_cases e : c x y = 0
    · rw [if_neg (by simpa using e)] at hv; exact .inr ⟨e, hv⟩
    · rw [if_pos e] at hv; exact .inl ⟨e, hv⟩
  have mk0 : ∀ x y, c x y = 0 → lexC c d x y = d x y := fun x y e => if_neg (by simpa using e)
  have mk1 : ∀ x y, c x y ≠ 0 → lexC c d x y = c x y := fun x y e => if_pos e
  refine ⟨fun x y => ?_, fun x y => ?_, fun x y z e => ?_, fun x y z e1 e2 => ?_⟩
  · by_cases e : c x y = 0
    · rw [mk0 _ _ e]; exact k.rng x y
    · rw [mk1 _ _ e]; exact h.rng x y
  · have ha := h.anti x y
    by_cases e : c x y = 0
    · rw [mk0 _ _ e, mk0 _ _ (by omega)]; exact k.anti x y
    · rw [mk1 _ _ e, mk1 _ _ (by omega)]; exact ha
  · rcases cases2 _ _ _ e with ⟨e1, e2⟩ | ⟨e1, e2⟩
    · exact absurd e2 e1
    · have h1 := h.eq x y z e1
      have h2 := k.eq x y z e2
      unfold lexC; rw [h1, h2]
  · rcases cases2 _ _ _ e1 with ⟨a1, a2⟩ | ⟨a1, a2⟩ <;> rcases cases2 _ _ _ e2 with ⟨b1, b2⟩ | ⟨b1, b2⟩
    · have := h.tr x y z a2 b2
      rw [mk1 _ _ (by omega)]; exact this
    · have := h.eqR x y z b1
      rw [mk1 _ _ (by omega)]; omega
    · have := h.eq x y z a1
      rw [mk1 _ _ (by omega)]; omega
    · have := h.eq x y z a1
      rw [mk0 _ _ (by omega)]; exact k.tr x y z a2 b2
theorem cmp_sgn : Cmp sgn := by
  refine ⟨fun x y => ?_, fun x y => ?_, fun x y z e => ?_, fun x y z e1 e2 => ?_⟩ <;> simp only [sgn] at * <;> (repeat' split at *) <;> omega
theorem cmpB_nil : cmpB [] [] = 0 := rfl
theorem cmpB_cons (a b : UInt8) (u v : List UInt8) : cmpB (a :: u) (b :: v) = if a.toNat < b.toNat then -1 else if b.toNat < a.toNat then 1 else cmpB u v := by
  show (if a < b then (-1 : Int) else if b < a then 1 else Lib.compareBytes u v) = _
  simp only [UInt8.lt_iff_toNat_lt]; rfl
theorem cmpB_nc (b : UInt8) (v : List UInt8) : cmpB [] (b :: v) = -1 := rfl
theorem cmpB_cn (b : UInt8) (v : List UInt8) : cmpB (b :: v) [] = 1 := rfl
theorem cmp_bytes : Cmp cmpB := by
  refine ⟨fun x => ?_, fun x => ?_, fun x => ?_, fun x => ?_⟩
  · induction x with
    | nil => intro y; cases y <;> simp [cmpB_nil, cmpB_nc]
    | cons a u ih =>
      intro y
      cases y with
      | nil => simp [cmpB_cn]
      | cons b v => rw [cmpB_cons]; have := ih v; (repeat' split) <;> omega
  · induction x with
    | nil => intro y; cases y <;> simp [cmpB_nil, cmpB_nc, cmpB_cn]
    | cons a u ih =>
      intro y
      cases y with
      | nil => simp [cmpB_nc, cmpB_cn]
      | cons b v => rw [cmpB_cons, cmpB_cons]; have := ih v; (repeat' split) <;> omega
  · induction x with
    | nil =>
      intro y z e
      cases y with
      | nil => rfl
      | cons b v => rw [cmpB_nc] at e; cases e
    | cons a u ih =>
      intro y z e
      cases y with
      | nil => rw [cmpB_cn] at e; cases e
      | cons b v =>
        rw [cmpB_cons] at e
        have h1 : ¬ a.toNat < b.toNat := fun h => by rw [if_pos h] at e; cases e
        rw [if_neg h1] at e
        have h2 : ¬ b.toNat < a.toNat := fun h => by rw [if_pos h] at e; cases e
        rw [if_neg h2] at e
        cases z with
        | nil => rw [cmpB_cn, cmpB_cn]
        | cons d ds =>
          have := ih v ds e
          rw [cmpB_cons, cmpB_cons]
          have e3 : a.toNat = b.toNat := by omega
          rw [e3, this]
  · induction x with
    | nil =>
      intro y z e1 e2
      cases z with
      | nil => cases y with
        | nil => exact e1
        | cons b v => rw [cmpB_cn] at e2; cases e2
      | cons d ds => rfl
    | cons a u ih =>
      intro y z e1 e2
      cases y with
      | nil => rw [cmpB_cn] at e1; cases e1
      | cons b v =>
        cases z with
        | nil => rw [cmpB_cn] at e2; cases e2
        | cons d ds =>
          have := ih v ds
          rw [cmpB_cons] at e1 e2 ⊢
          by_cases h1 : a.toNat < d.toNat
          · rw [if_pos h1]
          · rw [if_neg h1]
            by_cases c1 : a.toNat < b.toNat
            · rw [if_neg (by omega), if_pos (by omega)] at e2; cases e2
            · rw [if_neg c1] at e1
              by_cases c2 : b.toNat < a.toNat
              · rw [if_pos c2] at e1; cases e1
              · rw [if_neg c2] at e1
                rw [if_neg (by omega)] at e2
                by_cases c3 : d.toNat < b.toNat
                · rw [if_pos c3] at e2; cases e2
                · rw [if_neg c3] at e2
                  rw [if_neg (by omega)]
                  exact this e1 e2
def keyN (p : Prt) : Int := if rankV p > 7 then p.2.2.length else 0
def keyT (p : Prt) : List UInt8 := if rankV p < 7 then [] else p.2.2
theorem cmpV_eq (a b : Prt) : cmpV a b = lexC (fun x y => sgn (rankV x) (rankV y)) (lexC (fun x y => sgn (keyN x) (keyN y)) fun x y => cmpB (keyT x) (keyT y)) a b := by
  unfold cmpV lexC
  dsimp only
  by_cases h0 : sgn (rankV a) (rankV b) = 0
  · have h0' : ¬ sgn (rankV a) (rankV b) ≠ 0 := by simpa using h0
    rw [if_neg h0', if_neg h0']
    have hr : rankV b = rankV a := by simp only [sgn] at h0; (repeat' split at h0) <;> omega
    have s0 : sgn 0 0 = 0 := rfl
    unfold keyN keyT
    simp only [hr]
    by_cases h7 : rankV a = 7
    · have e1 : ¬ rankV a > 7 := by omega
      have e2 : ¬ rankV a < 7 := by omega
      simp only [if_pos h7, if_neg e1, if_neg e2, s0, ne_eq, not_true_eq_false, if_false]
    · rw [if_neg h7]
      by_cases h8 : rankV a > 7
      · have e2 : ¬ rankV a < 7 := by omega
        simp only [if_pos h8, if_neg e2]
      · have e2 : rankV a < 7 := by omega
        simp only [if_neg h8, if_pos e2, s0, ne_eq, not_true_eq_false, if_false]; rfl
  · rw [if_pos h0, if_pos h0]
theorem cmp_cmpV : Cmp cmpV := by
  have : cmpV = lexC (fun x y => sgn (rankV x) (rankV y)) (lexC (fun x y => sgn (keyN x) (keyN y)) fun x y => cmpB (keyT x) (keyT y)) := by
    funext a b; exact cmpV_eq a b
  rw [this]
  exact (cmp_sgn.comap rankV).lex ((cmp_sgn.comap keyN).lex (cmp_bytes.comap keyT))
def seqC : Nat → Nat → (Nat → Prt) → (Nat → Prt) → Int
  | 0, _, _, _ => 0
  | k + 1, i, f, g => lexC (fun f g => cmpV (f i) (g i)) (seqC k (i + 1)) f g
theorem cmp_seq : ∀ k i, Cmp (seqC k i)
  | 0, i => ⟨fun _ _ => .inr (.inl rfl), fun _ _ => rfl, fun _ _ _ _ => rfl, fun _ _ _ h => by cases h⟩
  | k + 1, i => (cmp_cmpV.comap fun f : Nat → Prt => f i).lex (cmp_seq k (i + 1))
theorem cmpFrom_seq (l m : List Prt) : ∀ k i, cmpFrom l m k i = seqC k i (l.getD · nullP) (m.getD · nullP)
  | 0, _ => rfl
  | k + 1, i => by rw [cmpFrom, cmpFrom_seq l m k (i + 1)]; rfl
theorem cmpFrom_null (l m : List Prt) : ∀ k i, l.length ≤ i → m.length ≤ i → cmpFrom l m k i = 0
  | 0, _, _, _ => rfl
  | k + 1, i, h1, h2 => by
    have e1 : l.getD i nullP = nullP := by rw [List.getD_eq_getElem?_getD, List.getElem?_eq_none h1]; rfl
    have e2 : m.getD i nullP = nullP := by rw [List.getD_eq_getElem?_getD, List.getElem?_eq_none h2]; rfl
    rw [cmpFrom, e1, e2, if_neg (by simp [cmp_cmpV.refl])]
    exact cmpFrom_null l m k (i + 1) (by omega) (by omega)
theorem cmpFrom_more (l m : List Prt) : ∀ k j i, l.length ≤ i + k → m.length ≤ i + k → cmpFrom l m (k + j) i = cmpFrom l m k i
  | 0, j, i, h1, h2 => by rw [Nat.zero_add]; exact cmpFrom_null l m j i (by omega) (by omega)
  | k + 1, j, i, h1, h2 => by
    rw [show k + 1 + j = (k + j) + 1 from by omega, cmpFrom, cmpFrom, cmpFrom_more l m k j (i + 1) (by omega) (by omega)]
/-- Any length that is great enough will do. -/
theorem compareV_seq (a b : List UInt8) (N : Nat) (ha : (partsV a).length ≤ N) (hb : (partsV b).length ≤ N) : compareV a b = seqC N 0 ((partsV a).getD · nullP) ((partsV b).getD · nullP) := by
  unfold compareV
  rw [← cmpFrom_seq]
  have := cmpFrom_more (partsV a) (partsV b) (max (partsV a).length (partsV b).length) (N - max (partsV a).length (partsV b).length) 0 (by omega) (by omega)
  rw [← this]
  congr 1
  omega
theorem compareV_cmp : Cmp compareV := by
  have key : ∀ a b c : List UInt8, ∃ N, (partsV a).length ≤ N ∧ (partsV b).length ≤ N ∧ (partsV c).length ≤ N := fun a b c => ⟨(partsV a).length + (partsV b).length + (partsV c).length, by omega, by omega, by omega⟩
  refine ⟨fun x y => ?_, fun x y => ?_, fun x y z => ?_, fun x y z => ?_⟩
  · obtain ⟨N, h1, h2, _⟩ := key x y y
    rw [compareV_seq x y N h1 h2]; exact (cmp_seq N 0).rng _ _
  · obtain ⟨N, h1, h2, _⟩ := key x y y
    rw [compareV_seq x y N h1 h2, compareV_seq y x N h2 h1]; exact (cmp_seq N 0).anti _ _
  · obtain ⟨N, h1, h2, h3⟩ := key x y z
    rw [compareV_seq x y N h1 h2, compareV_seq x z N h1 h3, compareV_seq y z N h2 h3]; exact (cmp_seq N 0).eq _ _ _
  · obtain ⟨N, h1, h2, h3⟩ := key x y z
    rw [compareV_seq x y N h1 h2, compareV_seq x z N h1 h3, compareV_seq y z N h2 h3]; exact (cmp_seq N 0).tr _ _ _
end Go.Proofs.YtjbpnhmjnkolbaaDoor
