/-
  THE VALUE MACHINE, 15: loops of which only the slots are told that a round turns; short names for rows of numbers, words, bools.
-/
import Derived.Test.YtjbpnhmjnkolbaaDoorVd
set_option linter.unusedVariables false
set_option linter.unusedSimpArgs false
namespace Go.Proofs.YtjbpnhmjnkolbaaDoor
open Go.RowKit

def pairs : List Nat → List MV → Env → Env
  | t :: l, m :: ms, e => (t, m) :: pairs l ms e
  | _, _, e => e
theorem pairs_cons (t : Nat) (l : List Nat) (m : MV) (ms : List MV) (e : Env) : pairs (t :: l) (m :: ms) e = (t, m) :: pairs l ms e := rfl
theorem pairs_nil (ms : List MV) (e : Env) : pairs [] ms e = e := rfl
theorem look_pairs {e e0 : Env} (he : ∀ t x, look e0 t = some x → look e t = some x) : ∀ {l : List Nat} {ms : List MV}, looks e l = some ms → ∀ t x, look (pairs l ms e0) t = some x → look e t = some x
  | [], ms, _, t, x, hx => he t x (by simpa [pairs] using hx)
  | k :: l, ms, h, t, x, hx => by
    rw [looks_cons] at h
    obtain ⟨m, h1, h2⟩ := Option.bind_eq_some_iff.1 h
    obtain ⟨ms', h3, rfl⟩ := Option.map_eq_some_iff.1 h2
    rw [pairs_cons, look_cons] at hx
    cases hb : t == k with
    | true =>
      rw [hb, cond_true] at hx
      injection hx with hx; subst hx
      have : t = k := by simpa using hb
      rw [this]; exact h1
    | false => rw [hb, cond_false] at hx; exact look_pairs he h3 t x hx
/-- A round's end. -/
def RoundQ {σ : Type} (l K : List Nat) (ks : List MV) (ms : σ → List MV) (I : σ → VH → Prop) (μ : σ → Nat) (s : σ) (Q : VQ) : VQ := fun x e O => match x with
  | .normal => looks e K = some ks ∧ ∃ s', looks e l = some (ms s') ∧ I s' O ∧ μ s' < μ s
  | x => Q x e O
section
variable {n : Nat} {D : List Deferred} {e : Env} {P : Program} {O : VH} {Q : VQ} {c : Code} {σ : Type} {l K : List Nat} {ks : List MV} {ms : σ → List MV} {I : σ → VH → Prop} {μ : σ → Nat} {s : σ} {i : Nat} {m : MV}
theorem RoundQ_normal : RoundQ l K ks ms I μ s Q .normal e O = (looks e K = some ks ∧ ∃ s', looks e l = some (ms s') ∧ I s' O ∧ μ s' < μ s) := rfl
theorem RoundQ_exit : RoundQ l K ks ms I μ s Q (.exit i) e O = Q (.exit i) e O := rfl
theorem RoundQ_goto : RoundQ l K ks ms I μ s Q (.goto i) e O = Q (.goto i) e O := rfl
theorem RoundQ_ret : RoundQ l K ks ms I μ s Q .ret e O = Q .ret e O := rfl
theorem RoundQ_panic : RoundQ l K ks ms I μ s Q (.panic m) e O = Q (.panic m) e O := rfl
/-- A loop: l, the slots that a round turns; K, those that it reads and leaves. -/
theorem VC.loopK (l K : List Nat) (ms : σ → List MV) (I : σ → VH → Prop) (μ : σ → Nat) (s0 : σ) (h0 : looks e l = some (ms s0)) (hk : looks e K = some ks) (hI : I s0 O)
    (step : ∀ s O, I s O → VC P n D c (pairs l (ms s) (pairs K ks [])) O (RoundQ l K ks ms I μ s Q)) : VC P n D (.loop c) e O Q := by
  refine VC.loop (fun k e O => looks e K = some ks ∧ ∃ s, looks e l = some (ms s) ∧ I s O ∧ μ s = k) (k := μ s0) ⟨hk, s0, h0, hI, rfl⟩ ?_
  rintro k e O ⟨hk, s, h1, h2, rfl⟩
  refine VC.mono ?_ (VC.env (step s O h2) (look_pairs (look_pairs (e0 := []) (fun t x h => by simp [look] at h) hk) h1))
  intro x e' O' h
  cases x <;> first
    | exact h
    | (obtain ⟨h6, s', h3, h4, h5⟩ := h; exact ⟨_, h5, h6, s', h3, h4, rfl⟩)
end
/-- Rows of numbers, of truths, of texts. -/
abbrev ints (xs : List Int) (t : Tok) : MV := .sl xs.length (xs.map mi) t
abbrev bools (xs : List Bool) (t : Tok) : MV := .sl xs.length (xs.map mb) t
abbrev strs (xs : List (List UInt8)) (t : Tok) : MV := .sl xs.length (xs.map .str) t
/-! ### The rewriting lemmas that are not the machine's, and those of the ends, each in one -/
set_option linter.defProp false in
def wset := And.intro @Option.map_none.{0,0} <| And.intro @Option.bind_none.{0,0} <| And.intro @pairs_cons <| And.intro @pairs_nil <| And.intro @Int.zero_sub <| And.intro @Bool.not_true <| And.intro @Bool.not_false <| And.intro @decide_true <| And.intro @decide_eq_true <| And.intro @decide_eq_false <| And.intro @Nat.zero_add <| And.intro @Nat.mul_one <| And.intro @Int.toNat_natCast <| And.intro @Nat.add_zero <| And.intro @List.set_cons_zero.{0} <| And.intro @List.set_cons_succ.{0} <| And.intro @List.take_succ_cons.{0} <| And.intro @List.take_zero.{0} <| And.intro @List.drop_succ_cons.{0} <| And.intro @List.drop_zero.{0} <| And.intro @List.getElem?_eq_getElem.{0} <| And.intro @List.getElem?_toArray.{0} <| And.intro @List.getElem?_cons_zero.{0} <| And.intro @List.getElem?_cons_succ.{0} <| And.intro @Option.bind_some.{0,0} <| And.intro @Option.map_some.{0,0} <| And.intro @List.map_cons.{0,0} <| And.intro @List.map_nil.{0,0} <| And.intro @List.getElem?_map.{0,0} <| And.intro @List.getElem_map.{0,0} <| And.intro @if_true.{1} <| And.intro @cond_true.{1} @cond_false.{1}
set_option linter.defProp false in
def qset := And.intro @ScopeQ_normal <| And.intro @ScopeQ_exit <| And.intro @ScopeQ_ret <| And.intro @ScopeQ_panic <| And.intro @RoundQ_exit <| And.intro @RoundQ_goto <| And.intro @RoundQ_ret <| And.intro @RoundQ_panic <| And.intro @SeqQ_normal <| And.intro @SeqQ_exit <| And.intro @SeqQ_goto <| And.intro @SeqQ_ret <| And.intro @SeqQ_panic <| And.intro @BlockQ_normal <| And.intro @BlockQ_exit <| And.intro @BlockQ_goto <| And.intro @BlockQ_ret <| And.intro @BlockQ_panic <| And.intro @LoopQ_exit <| And.intro @LoopQ_goto <| And.intro @LoopQ_ret <| And.intro @LoopQ_panic <| And.intro @Ret_ret <| And.intro @if_true.{1} @if_false.{1}
end Go.Proofs.YtjbpnhmjnkolbaaDoor
