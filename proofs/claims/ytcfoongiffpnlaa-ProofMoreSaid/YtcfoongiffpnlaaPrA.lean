/-
  The layer proof: maps of numbers; what follows by units, in plain words.
-/
import Derived.Test.YtcfoongiffpnlaaWeigh8
set_option linter.unusedVariables false
set_option linter.unusedSimpArgs false
namespace Go.Proofs.Ytcfoongiffpnlaa
open Go.RowKit

/-! ### Maps whose keys are numbers, out of which nothing is struck -/
section
variable {β : Type}
def mfind : List (Int × β) → Int → Option β
  | [], _ => none
  | (k', v) :: r, k => if k' = k then some v else mfind r k
def mput : List (Int × β) → Int → β → List (Int × β)
  | [], k, v => [(k, v)]
  | (k', v') :: r, k, v => if k' = k then (k, v) :: r else (k', v') :: mput r k v
theorem mfind_put (l : List (Int × β)) (k : Int) (v : β) (j : Int) : mfind (mput l k v) j = if k = j then some v else mfind l j := by
  induction l with
  | nil => simp [mput, mfind]
  | cons p r ih =>
    obtain ⟨k', v'⟩ := p
    rw [mput]
    by_cases h : k' = k
    · subst h
      rw [if_pos rfl, mfind, mfind]
      by_cases h2 : k' = j
      · rw [if_pos h2, if_pos h2]
      · rw [if_neg h2, if_neg h2, if_neg h2]
    · rw [if_neg h, mfind, ih, mfind]
      by_cases h2 : k' = j
      · rw [if_pos h2, if_pos h2, if_neg (fun e => h (by rw [h2, e]))]
      · rw [if_neg h2, if_neg h2]
def ments (f : β → MV) (s : Nat) : List (Int × β) → MEs
  | [] => []
  | (k, v) :: r => (mi k, f v, s) :: ments f (s + 1) r
/-- A map of the machine. -/
def mapI (f : β → MV) (l : List (Int × β)) : VObj := .map (ments f 0 l) l.length
theorem mfind_vfind (f : β → MV) (k : Int) : ∀ (l : List (Int × β)) (s i : Nat), (∃ j v, vfind (.int .i64) (mi k) (ments f s l) i = some (some (j, f v)) ∧ mfind l k = some v) ∨ (vfind (.int .i64) (mi k) (ments f s l) i = some none ∧ mfind l k = none)
  | [], s, i => .inr ⟨rfl, rfl⟩
  | (k', v) :: r, s, i => by
    simp only [ments, vfind, sameM, mi, if_true, mfind]
    by_cases h : k' = k
    · subst h
      exact .inl ⟨i, v, by simp, by simp⟩
    · have : (k == k') = false := by simpa using fun e => h e.symm
      rw [if_neg h]
      simp only [this]
      exact mfind_vfind f k r (s + 1) (i + 1)
theorem vfind_none_put (f : β → MV) (k : Int) (v : β) : ∀ (l : List (Int × β)) (s i : Nat), vfind (.int .i64) (mi k) (ments f s l) i = some none → ments f s (mput l k v) = ments f s l ++ [(mi k, f v, s + l.length)] ∧ (mput l k v).length = l.length + 1
  | [], s, i, _ => ⟨rfl, rfl⟩
  | (k', v') :: r, s, i, h => by
    simp only [ments, vfind, sameM, mi, if_true] at h
    by_cases hk : k' = k
    · subst hk
      simp at h
    · have : (k == k') = false := by simpa using fun e => hk e.symm
      simp only [this] at h
      obtain ⟨h1, h2⟩ := vfind_none_put f k v r (s + 1) (i + 1) h
      rw [mput, if_neg hk]
      refine ⟨?_, by simp [h2]⟩
      rw [ments, h1, ments, List.length_cons, show s + 1 + r.length = s + (r.length + 1) by omega]; rfl
theorem vfind_some_put (f : β → MV) (k : Int) (v : β) : ∀ (l : List (Int × β)) (s i : Nat) {j : Nat} {m : MV}, vfind (.int .i64) (mi k) (ments f s l) i = some (some (j, m)) → i ≤ j ∧ ments f s (mput l k v) = setAt (ments f s l) (j - i) (mi k) (f v) ∧ (mput l k v).length = l.length
  | [], s, i, j, m, h => by cases h
  | (k', v') :: r, s, i, j, m, h => by
    simp only [ments, vfind, sameM, mi, if_true] at h
    by_cases hk : k' = k
    · subst hk
      simp only [beq_self_eq_true, Option.some.injEq, Prod.mk.injEq] at h
      obtain ⟨rfl, _⟩ := h
      rw [mput, if_pos rfl, Nat.sub_self]
      exact ⟨Nat.le_refl _, rfl, rfl⟩
    · have : (k == k') = false := by simpa using fun e => hk e.symm
      simp only [this] at h
      obtain ⟨h0, h1, h2⟩ := vfind_some_put f k v r (s + 1) (i + 1) h
      rw [mput, if_neg hk]
      refine ⟨by omega, ?_, by simp [h2]⟩
      rw [ments, h1, ments, show j - i = (j - (i + 1)) + 1 by omega]; rfl
variable {tab : Tab} {O : VH} {t kt et b : Nat} {a0 a1 c0 c1 : Nat} {z0 z1 : List MV} {f : β → MV} {l : List (Int × β)} {k : Int}
theorem vlookup_I {te : TyI} {z : MV} (h : tab t = some ⟨.map kt et, a0, a1, z0⟩) (h1 : tab kt = some ⟨.int .i64, c0, c1, z1⟩) (h2 : tab et = some te) (hz : vzeroM te = some z) (hb : O.hp b = some (mapI f l)) :
    vlookup tab O t (.map b) (.v (.int .i64 k)) false = some (((mfind l k).map f).getD z) := by
  simp only [vlookup, h, h1, h2, Option.map_some, mapOf, hb, mapI, Option.bind_some]
  rcases mfind_vfind f k l 0 0 with ⟨j, v, e1, e2⟩ | ⟨e1, e2⟩
  · rw [show (MV.v (.int .i64 k)) = mi k from rfl, e1, e2]; rfl
  · rw [show (MV.v (.int .i64 k)) = mi k from rfl, e1, e2]; simp only [hz]; rfl
theorem vmapUpdate_I {te : TyI} (h : tab t = some ⟨.map kt et, a0, a1, z0⟩) (h1 : tab kt = some ⟨.int .i64, c0, c1, z1⟩) (hb : O.hp b = some (mapI f l)) (v : β) :
    vmapUpdate tab O t (.map b) (.v (.int .i64 k)) (f v) = some (O.set b (mapI f (mput l k v))) := by
  simp only [vmapUpdate, h, h1, Option.map_some, hb, mapI]
  rcases mfind_vfind f k l 0 0 with ⟨j, v', e1, e2⟩ | ⟨e1, e2⟩
  · obtain ⟨_, g1, g2⟩ := vfind_some_put f k v l 0 0 e1
    rw [show (MV.v (.int .i64 k)) = mi k from rfl, e1, g1, g2]; rfl
  · obtain ⟨g1, g2⟩ := vfind_none_put f k v l 0 0 e1
    rw [show (MV.v (.int .i64 k)) = mi k from rfl, e1, g1, g2, Nat.zero_add]; rfl
end

/-! ### What follows by units -/
inductive UP (cls : List (List Int)) (c : List Int) : Int → Prop
  | base {n : Int} : n ∈ c → n ≠ 0 → UP cls c (-n)
  | unit {C : List Int} {x : Int} : C ∈ cls → x ∈ C → x ≠ 0 → (∀ m ∈ C, m ≠ 0 → m ≠ x → UP cls c (-m)) → UP cls c x
/-- What is taken can't be. -/
def Bad (cls : List (List Int)) (c : List Int) : Prop := (∃ n, UP cls c n ∧ UP cls c (-n)) ∨ ∃ C ∈ cls, ∀ m ∈ C, m ≠ 0 → UP cls c (-m)
theorem UP.ne {cls : List (List Int)} {c : List Int} {n : Int} (h : UP cls c n) : n ≠ 0 := by
  cases h with
  | base _ h => omega
  | unit _ _ h _ => exact h
/-- What is closed under units has all that follows. -/
theorem UP.sub {cls : List (List Int)} {c : List Int} {Y : Int → Prop} (h0 : ∀ n ∈ c, n ≠ 0 → Y (-n)) (h1 : ∀ C ∈ cls, ∀ x ∈ C, x ≠ 0 → (∀ m ∈ C, m ≠ 0 → m ≠ x → Y (-m)) → Y x) {n : Int} (h : UP cls c n) : Y n := by
  induction h with
  | base a b => exact h0 _ a b
  | unit a b d _ ih => exact h1 _ a _ b d ih
theorem not_bad {cls : List (List Int)} {c : List Int} {Y : Int → Prop} (h0 : ∀ n ∈ c, n ≠ 0 → Y (-n)) (h1 : ∀ C ∈ cls, ∀ x ∈ C, x ≠ 0 → (∀ m ∈ C, m ≠ 0 → m ≠ x → Y (-m)) → Y x) (h2 : ∀ n, Y n → Y (-n) → False) (h3 : ∀ C ∈ cls, (∀ m ∈ C, m ≠ 0 → Y (-m)) → False) : ¬ Bad cls c := by
  rintro (⟨n, a, b⟩ | ⟨C, a, b⟩)
  · exact h2 n (a.sub h0 h1) (b.sub h0 h1)
  · exact h3 C a fun m hm h => (b m hm h).sub h0 h1
theorem UP.more {cls cls' : List (List Int)} {c c' : List Int} (hC : ∀ C ∈ cls, ∃ D ∈ cls', ∀ m : Int, m ≠ 0 → (m ∈ D ↔ m ∈ C)) (hc : ∀ n ∈ c, n ≠ 0 → n ∈ c') {n : Int} (h : UP cls c n) : UP cls' c' n := by
  induction h with
  | base a b => exact .base (hc _ a b) b
  | unit a b d _ ih =>
    obtain ⟨D, hD, hm⟩ := hC _ a
    exact .unit hD ((hm _ d).2 b) d fun m h1 h2 h3 => ih m ((hm m h2).1 h1) h2 h3
theorem Bad.more {cls cls' : List (List Int)} {c c' : List Int} (hC : ∀ C ∈ cls, ∃ D ∈ cls', ∀ m : Int, m ≠ 0 → (m ∈ D ↔ m ∈ C)) (hc : ∀ n ∈ c, n ≠ 0 → n ∈ c') (h : Bad cls c) : Bad cls' c' := by
  rcases h with ⟨n, a, b⟩ | ⟨C, a, b⟩
  · exact .inl ⟨n, a.more hC hc, b.more hC hc⟩
  · obtain ⟨D, hD, hm⟩ := hC _ a
    exact .inr ⟨D, hD, fun m h1 h2 => (b m ((hm m h2).1 h1) h2).more hC hc⟩
theorem Bad.self {cls : List (List Int)} {C : List Int} (h : C ∈ cls) : Bad cls C := .inr ⟨C, h, fun m hm h0 => .base hm h0⟩
theorem Bad.both {cls : List (List Int)} {c : List Int} {n : Int} (h0 : n ≠ 0) (h1 : n ∈ c) (h2 : -n ∈ c) : Bad cls c :=
  .inl ⟨-n, .base h1 h0, .base h2 (by omega)⟩
/-- Truths that make all clauses true and c not make all true that follows. -/
theorem UP.true {cls : List (List Int)} {c : List Int} {ts : List Bool} (h : ∀ C ∈ cls, clT ts C = true) (hz : ∀ C ∈ cls, ∀ m ∈ C, tru m 0 ts = true → m ≠ 0) (hc : clT ts c = false) {n : Int} (hu : UP cls c n) : tru n 0 ts = true := by
  have tn : ∀ m : Int, m ≠ 0 → tru (-m) 0 ts = !tru m 0 ts := fun m hm => by
    rw [tru_isT ts m hm, tru_isT ts (-m) (by omega), isT_eq ts m hm, isT_eq ts (-m) (by omega), show max (-m) (- -m) = max m (-m) by omega]
    by_cases hp : m > 0
    · rw [decide_eq_true hp, decide_eq_false (by omega : ¬ -m > 0)]; cases (ts[(max m (-m) - 1).toNat]?).getD false <;> rfl
    · rw [decide_eq_false hp, decide_eq_true (by omega : -m > 0)]; cases (ts[(max m (-m) - 1).toNat]?).getD false <;> rfl
  induction hu with
  | base a b =>
    rw [tn _ b]
    rw [clT, List.any_eq_false] at hc
    simpa using hc _ a
  | @unit C x a b d _ ih =>
    have h1 := h _ a
    rw [clT, List.any_eq_true] at h1
    obtain ⟨m, hm, ht⟩ := h1
    have hm0 := hz _ a m hm ht
    by_cases e : m = x
    · rw [← e]; exact ht
    · have := ih m hm hm0 e
      rw [tn _ hm0, ht] at this
      cases this
theorem tru_zero (ts : List Bool) : tru 0 0 ts = false := by
  have : ∀ (l : List Bool) (k : Nat), tru 0 k l = false := by
    intro l
    induction l with
    | nil => intro k; rfl
    | cons t l ih =>
      intro k
      rw [tru, if_neg (by omega), if_neg (by omega)]
      exact ih (k + 1)
  exact this ts 0
theorem Bad.false_of {cls : List (List Int)} {c : List Int} {ts : List Bool} (h : ∀ C ∈ cls, clT ts C = true) (hb : Bad cls c) : clT ts c = true := by
  have hz : ∀ m : Int, tru m 0 ts = true → m ≠ 0 := fun m hm e => by subst e; rw [tru_zero] at hm; cases hm
  cases hc : clT ts c with
  | true => rfl
  | false =>
    exfalso
    have tn : ∀ m : Int, UP cls c m → UP cls c (-m) → False := fun m a b => by
      have h1 := a.true h (fun C _ m _ => hz m) hc
      have h2 := b.true h (fun C _ m _ => hz m) hc
      have hm := a.ne
      rw [tru_isT ts m hm] at h1
      rw [tru_isT ts (-m) (by omega)] at h2
      rw [isT_eq ts m hm] at h1
      rw [isT_eq ts (-m) (by omega), show max (-m) (- -m) = max m (-m) by omega] at h2
      by_cases hp : m > 0
      · rw [decide_eq_true hp] at h1; rw [decide_eq_false (by omega : ¬ -m > 0)] at h2
        simp at h1 h2; rw [h1] at h2; cases h2
      · rw [decide_eq_false hp] at h1; rw [decide_eq_true (by omega : -m > 0)] at h2
        simp at h1 h2; rw [h1] at h2; cases h2
    rcases hb with ⟨n, a, b⟩ | ⟨C, a, b⟩
    · exact tn n a b
    · have h1 := h _ a
      rw [clT, List.any_eq_true] at h1
      obtain ⟨m, hm, ht⟩ := h1
      have hm0 := hz m ht
      have h2 := (b m hm hm0).true h (fun C _ m _ => hz m) hc
      rw [tru_isT ts m hm0, isT_eq ts m hm0] at ht
      rw [tru_isT ts (-m) (by omega), isT_eq ts (-m) (by omega), show max (-m) (- -m) = max m (-m) by omega] at h2
      by_cases hp : m > 0
      · rw [decide_eq_true hp] at ht; rw [decide_eq_false (by omega : ¬ -m > 0)] at h2
        simp at ht h2; rw [ht] at h2; cases h2
      · rw [decide_eq_false hp] at ht; rw [decide_eq_true (by omega : -m > 0)] at h2
        simp at ht h2; rw [ht] at h2; cases h2
end Go.Proofs.Ytcfoongiffpnlaa
