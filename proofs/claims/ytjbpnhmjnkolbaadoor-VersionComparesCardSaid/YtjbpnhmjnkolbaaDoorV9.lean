/-
  THE VALUE MACHINE, 9: the table of types, as the program itself gives it.
-/
import Derived.Test.YtjbpnhmjnkolbaaDoorV8
set_option linter.unusedVariables false
set_option linter.unusedSimpArgs false
namespace Go.Proofs.YtjbpnhmjnkolbaaDoor
open Go.RowKit

def wholeB (d : TypeDesc) (z : Value) : Bool := match isAggB d, z with
  | true, .agg _ => true
  | true, _ => false
  | false, .agg _ => false
  | false, _ => true
theorem wholeB_ok {d : TypeDesc} {z : Value} (h : wholeB d z = true) : (isAggB d = true → ∃ cs, z = .agg cs) ∧ (isAggB d = false → z.cells = #[z]) := by
  refine ⟨fun ha => ?_, fun ha => ?_⟩ <;> unfold wholeB at h <;> rw [ha] at h <;> cases z <;> first | exact ⟨_, rfl⟩ | rfl | cases h
/-- A type's row, as the program gives it. -/
def tyOf (P : Program) (t : TypeId) : Option TyI :=
  match P.underlying t, P.info? t with
  | some d, some i => match i.zero with
    | some z => match z.cells.toList.mapM ofConst with
      | some zs => if z.cells.size = i.size ∧ wholeB d z = true then some ⟨d, i.size, i.bytes, zs⟩ else none
      | none => none
    | none => none
  | _, _ => none
theorem consts_ok {G : Gh} : ∀ {us : List Value} {ms : List MV}, us.mapM ofConst = some ms → VRs G ms us
  | [], ms, h => by simp at h; subst h; exact VRs.nil
  | u :: us, ms, h => by
    simp only [List.mapM_cons, Option.bind_eq_bind, Option.bind_eq_some_iff] at h
    obtain ⟨m, h1, ms', h2, h3⟩ := h
    injection h3 with h3; subst h3
    exact VRs.cons (ofConst_ok h1) (consts_ok h2)
theorem tyOf_ok (P : Program) : TabOk P (tyOf P) := by
  intro t i h
  unfold tyOf at h
  split at h
  · rename_i d ti hd hi
    split at h
    · rename_i z hz
      split at h
      · rename_i zs hzs
        split at h
        · rename_i hsz
          injection h with h; subst h
          exact ⟨hd, ⟨ti, z, hi, rfl, rfl, hz, hsz.1, fun G => consts_ok hzs⟩, fun ti' z' h1 h2 => by
            rw [hi] at h1; injection h1 with h1; subst h1
            rw [hz] at h2; injection h2 with h2; subst h2
            exact wholeB_ok hsz.2⟩
        · cases h
      · cases h
    · cases h
  · cases h
end Go.Proofs.YtjbpnhmjnkolbaaDoor
