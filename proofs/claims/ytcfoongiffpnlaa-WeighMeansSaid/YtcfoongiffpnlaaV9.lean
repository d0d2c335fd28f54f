/-
  THE VALUE MACHINE, 9: the table of types, as the program itself gives it.
-/
import Derived.Test.YtcfoongiffpnlaaV8
set_option linter.unusedVariables false
set_option linter.unusedSimpArgs false
namespace Go.Proofs.Ytcfoongiffpnlaa
open Go.RowKit

/-- A type's row, as the program gives it. -/
def tyOf (P : Program) (t : TypeId) : Option TyI :=
  match P.underlying t, P.info? t with
  | some d, some i => match i.zero with
    | some z => match z.cells.toList.mapM ofConst with
      | some zs => if z.cells.size = i.size then some ⟨d, i.size, i.bytes, zs⟩ else none
      | none => none
    | none => none
  | _, _ => none
theorem consts_ok {G : Gh} : ∀ {us : List Value} {ms : List MV}, us.mapM ofConst = some ms → VRs G ms us
  | [], ms, h => by simp at h; subst h; exact VRs.nil
  | u :: us, ms, h => by
    simp only [List.mapM_cons, Option.bind_eq_bind, Option.bind_eq_some_iff] at h
    obtain ⟨m, h1, ms', h2, h3⟩ := h
    injection h3 with h3; subst h3
    exact VRs.cons (ofConst_ok h1) (consts_ok h2)
theorem tyOf_ok (P : Program) : TabOk P (tyOf P) := by
  intro t i h
  unfold tyOf at h
  split at h
  · rename_i d ti hd hi
    split at h
    · rename_i z hz
      split at h
      · rename_i zs hzs
        split at h
        · rename_i hsz
          injection h with h; subst h
          exact ⟨hd, ti, z, hi, rfl, rfl, hz, hsz, fun G => consts_ok hzs⟩
        · cases h
      · cases h
    · cases h
  · cases h
end Go.Proofs.Ytcfoongiffpnlaa
