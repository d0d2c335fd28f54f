/-
  The pieces of a text, told from its front: plain.
-/
import Derived.Test.YtjbpnhmjnkolbaaDoorVerO
set_option linter.unusedVariables false
set_option linter.unusedSimpArgs false
namespace Go.Proofs.YtjbpnhmjnkolbaaDoor
open Go.RowKit

/-- hy: does a hyphen stand ahead of what is being read; cur: what is read of it. -/
def cutR : Bool → List UInt8 → List UInt8 → List Piece
  | hy, cur, [] => [(cur, hy, false)]
  | hy, cur, c :: r => if isMk c then (cur, hy, false) :: cutR (c == 45) [] r
    else match cur.getLast? with
      | none => cutR hy [c] r
      | some d => if isD c = isD d then cutR hy (cur ++ [c]) r else (cur, hy, true) :: cutR true [c] r
theorem cutR_nil (hy : Bool) (cur : List UInt8) : cutR hy cur [] = [(cur, hy, false)] := rfl
theorem cutR_mark {hy : Bool} {cur r : List UInt8} {c : UInt8} (h : isMk c = true) : cutR hy cur (c :: r) = (cur, hy, false) :: cutR (c == 45) [] r := by rw [cutR, if_pos h]
/-- The state behind i bytes, told by what is left. -/
theorem cutS_cutR (s : List UInt8) : ∀ i, i ≤ s.length → (cutS s i).1 ++ cutR (cutS s i).2.2 ((s.drop (cutS s i).2.1).take (i - (cutS s i).2.1)) (s.drop i) = cutR false [] s
  | 0, _ => by simp [cutS]
  | i + 1, h => by
    have ih := cutS_cutR s i (by omega)
    have hb := (cutS_b s i).1
    rw [cutS_succ, if_pos (by omega)]
    rcases hc : cutS s i with ⟨L, fr, hy⟩
    rw [hc] at ih hb
    dsimp only at ih hb ⊢
    have hi : i < s.length := by omega
    rw [getD_at hi]
    rw [List.drop_eq_getElem_cons hi] at ih
    rw [← ih]
    generalize hcur : (s.drop fr).take (i - fr) = cur at ih
    have hsucc : (s.drop fr).take (i + 1 - fr) = cur ++ [s[i]] := by
      rw [show i + 1 - fr = (i - fr) + 1 from by omega, List.take_add_one, hcur, List.getElem?_drop, show fr + (i - fr) = i from by omega, List.getElem?_eq_getElem hi]; rfl
    by_cases hm : isMk s[i] = true
    · rw [if_pos hm, cutR_mark hm]
      simp
    · rw [if_neg hm]
      have hlen : cur.length = i - fr := by rw [← hcur]; simp; omega
      by_cases hfr : fr < i
      · have hne : cur ≠ [] := fun e => by rw [e] at hlen; simp at hlen; omega
        have hlast : cur.getLast? = some s[i - 1] := by
          rw [List.getLast?_eq_getElem?, hlen, ← hcur, List.getElem?_take, if_pos (by omega), List.getElem?_drop, show fr + (i - fr - 1) = i - 1 from by omega, List.getElem?_eq_getElem (by omega)]
        rw [getD_at (show i - 1 < s.length by omega)]
        by_cases hd : isD s[i] = isD s[i - 1]
        · rw [if_neg (fun h => h.2 hd)]
          simp only [hsucc]
          conv => rhs; rw [cutR, if_neg hm, hlast]
          simp only [hd, if_true]
        · rw [if_pos ⟨hfr, hd⟩]
          conv => rhs; rw [cutR, if_neg hm, hlast]
          simp only [hd, if_false]
          have e1 : (s.drop i).take 1 = [s[i]] := by rw [List.drop_eq_getElem_cons hi]; rfl
          rw [show i + 1 - i = 1 from by omega, e1]
          simp
      · have e : fr = i := by omega
        subst e
        have hnil : cur = [] := List.eq_nil_of_length_eq_zero (by omega)
        subst hnil
        rw [if_neg (fun h => hfr h.1)]
        simp only [hsucc]
        conv => rhs; rw [cutR, if_neg hm]
        rfl
theorem cutF_cutR (s : List UInt8) : cutF s = cutR false [] s := by
  have h := cutS_cutR s s.length (Nat.le_refl _)
  unfold cutF
  rw [cutS_succ, if_neg (by omega), ← h, List.drop_length, cutR_nil]
/-- A text that bears no mark and whose bytes are all digits, or none is. -/
def even (l : List UInt8) : Prop := (∀ c ∈ l, isMk c = false) ∧ ∀ c ∈ l, ∀ d ∈ l, isD c = isD d
theorem even_snoc {l : List UInt8} {c d : UInt8} (h : even l) (hl : l.getLast? = some d) (hm : isMk c = false) (hd : isD c = isD d) : even (l ++ [c]) := by
  have hmem := List.mem_of_getLast? hl
  constructor
  · intro x hx
    rcases List.mem_append.1 hx with h1 | h1
    · exact h.1 x h1
    · rw [List.mem_singleton.1 h1]; exact hm
  · intro x hx y hy
    have key : ∀ z ∈ l ++ [c], isD z = isD d := fun z hz => by
      rcases List.mem_append.1 hz with h1 | h1
      · exact h.2 z h1 d hmem
      · rw [List.mem_singleton.1 h1]; exact hd
    rw [key x hx, key y hy]
/-- Each piece is even; where none stands behind it, it is closed by an end. -/
theorem cutR_even : ∀ (r : List UInt8) (hy : Bool) (cur : List UInt8), even cur → ∀ p ∈ cutR hy cur r, even p.1
  | [], hy, cur, h, p, hp => by rw [cutR_nil, List.mem_singleton] at hp; rw [hp]; exact h
  | c :: r, hy, cur, h, p, hp => by
    by_cases hm : isMk c = true
    · rw [cutR_mark hm, List.mem_cons] at hp
      rcases hp with rfl | hp
      · exact h
      · exact cutR_even r _ [] ⟨fun _ h => (by cases h), fun _ h => (by cases h)⟩ p hp
    · have hm' : isMk c = false := by simpa using hm
      have one : even [c] := ⟨fun x hx => by rw [List.mem_singleton.1 hx]; exact hm', fun x hx y hy => by rw [List.mem_singleton.1 hx, List.mem_singleton.1 hy]⟩
      rw [cutR, if_neg hm] at hp
      cases hl : cur.getLast? with
      | none => rw [hl] at hp; exact cutR_even r _ _ one p hp
      | some d =>
        rw [hl] at hp
        dsimp only at hp
        split at hp
        · exact cutR_even r _ _ (even_snoc h hl hm' ‹_›) p hp
        · rcases List.mem_cons.1 hp with rfl | hp
          · exact h
          · exact cutR_even r _ _ one p hp
/-- An even text, then a mark or the end, is one piece. -/
theorem cutR_run : ∀ (l cur r : List UInt8) (hy : Bool), even (cur ++ l) → cutR hy cur (l ++ r) = cutR hy (cur ++ l) r
  | [], cur, r, hy, _ => by simp
  | c :: l, cur, r, hy, h => by
    have hm : isMk c = false := h.1 c (by simp)
    have hrec := cutR_run l (cur ++ [c]) r hy (by rw [List.append_assoc]; exact h)
    rw [List.append_assoc, List.singleton_append] at hrec
    rw [← hrec, List.cons_append, cutR, if_neg (by rw [hm]; simp)]
    cases hl : cur.getLast? with
    | none =>
      have : cur = [] := List.getLast?_eq_none_iff.1 hl
      subst this; rfl
    | some d =>
      have hd : isD c = isD d := h.2 c (by simp) d (List.mem_append_left _ (List.mem_of_getLast? hl))
      simp only [hd, if_true]
/-- A text, then a mark, then more. -/
theorem cutR_app : ∀ (l cur r : List UInt8) (hy : Bool) (c : UInt8), isMk c = true → cutR hy cur (l ++ c :: r) = cutR hy cur l ++ cutR (c == 45) [] r
  | [], cur, r, hy, c, hc => by rw [List.nil_append, cutR_mark hc, cutR_nil]; rfl
  | a :: l, cur, r, hy, c, hc => by
    rw [List.cons_append]
    by_cases hm : isMk a = true
    · rw [cutR_mark hm, cutR_mark hm, cutR_app l [] r _ c hc]; rfl
    · rw [cutR, if_neg hm, cutR, if_neg hm]
      cases cur.getLast? with
      | none => exact cutR_app l [a] r hy c hc
      | some d =>
        dsimp only
        split
        · exact cutR_app l _ r hy c hc
        · rw [cutR_app l [a] r true c hc]; rfl
theorem cutF_app (l r : List UInt8) (c : UInt8) (hc : isMk c = true) : cutF (l ++ c :: r) = cutF l ++ cutR (c == 45) [] r := by rw [cutF_cutR, cutF_cutR, cutR_app _ _ _ _ _ hc]
/-- Null parts at the end change nothing. -/
theorem trimT_null (n : Prt) (hn : n.2.2 = []) : ∀ L : List Prt, trimT (L ++ [n]) = trimT L
  | [] => by simp [trimT, hn]
  | p :: L => by rw [List.cons_append, trimT, trimT, trimT_null n hn L]
end Go.Proofs.YtjbpnhmjnkolbaaDoor
