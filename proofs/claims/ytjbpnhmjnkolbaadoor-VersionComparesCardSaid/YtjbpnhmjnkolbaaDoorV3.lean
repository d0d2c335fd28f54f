/-
  THE VALUE MACHINE, 3: more operations: addresses, parts of structs and arrays, literals, slices.
-/
import Derived.Test.YtjbpnhmjnkolbaaDoorV2
set_option linter.unusedVariables false
set_option linter.unusedSimpArgs false
namespace Go.Proofs.YtjbpnhmjnkolbaaDoor
open Go.RowKit

section
variable {G H : Gh} {n : Nat} {D : List Deferred} {e : Env} {a : Act} {P : Program} {tab : Tab} {O O' : VH} {w : World} {m m' : MV} {u v : Value}

def maddr (k : Nat) : MV → Option MV
  | .ptr b off => some (.ptr b (off + k))
  | .cptr cs off => some (.cptr cs (off + k))
  | _ => none
theorem maddr_ok {k : Nat} (h : VR G m u) (hm : maddr k m = some m') : ∃ a : Addr, u = .pointer (some a) ∧ VR G m' (.pointer (some (a.add k))) := by
  cases h with
  | ptr h1 =>
    injection hm with hm; subst hm
    exact ⟨_, rfl, by rw [Addr.add_lit]; exact .ptr h1⟩
  | cptr h1 h2 h3 =>
    injection hm with hm; subst hm
    exact ⟨_, rfl, by rw [Addr.add_lit, Nat.add_assoc]; exact .cptr h1 h2 h3⟩
  | _ => cases hm

def vfieldAddr (tab : Tab) (t : TypeId) (f : Nat) (m : MV) : Option MV :=
  match tab t with
  | some i => match i.under with
    | .struct fs => match fs[f]? with
      | some fd => match tab fd.type with
        | some j => if j.size = 0 then none else maddr fd.offset m
        | none => none
      | none => none
    | _ => none
  | none => none
theorem vfieldAddr_ok (ht : TabOk P tab) {t : TypeId} {f : Nat} (hv : vfieldAddr tab t f m = some m') (hx : VR G m u) : GivesS P (Instr.fieldAt t u f) G m' := by
  unfold vfieldAddr at hv
  split at hv
  · rename_i i hi
    split at hv
    · rename_i fs hu
      split at hv
      · rename_i fd hf
        split at hv
        · rename_i j hj
          split at hv
          · cases hv
          · rename_i hz
            obtain ⟨a, rfl, h2⟩ := maddr_ok hx hv
            have hty := (ht t i hi).under
            rw [hu] at hty
            exact GivesS.of (fun w _ => by simp [Instr.fieldAt, run_underlying hty, hf, Instr.sureAddr, fieldPlace, run_sz (ht _ j hj), hz]) h2
        · cases hv
      · cases hv
    · cases hv
  · cases hv

def vindexAddr (tab : Tab) (t : TypeId) (m : MV) (ix : MV) : Option MV :=
  match ix, tab t with
  | .v (.int _ i), some ti => match ti.under, m with
    | .slice el, .sl n cells _ => match tab el with
      | some te => if 0 ≤ i ∧ i < (n : Int) then some (.cptr cells (i.toNat * te.size)) else none
      | none => none
    | .slice el, .asl k o n _ => match tab el with
      | some te => if 0 ≤ i ∧ i < (n : Int) then some (.ptr k (o + i.toNat * te.size)) else none
      | none => none
    | .array len el, x => match tab el with
      | some te => if 0 ≤ i ∧ i < (len : Int) then maddr (i.toNat * te.size) x else none
      | none => none
    | _, _ => none
  | _, _ => none
theorem vindexAddr_ok (ht : TabOk P tab) {t : TypeId} {ix : MV} (hv : vindexAddr tab t m ix = some m') (hx : VR G m u) (hy : VR G ix v) : GivesS P (Instr.indexAt t u v) G m' := by
  unfold vindexAddr at hv
  split at hv
  · rename_i k i ti hi
    cases hy
    have hty := (ht t ti hi).under
    split at hv
    · rename_i el n' cells tk hu
      rw [hu] at hty
      split at hv
      · rename_i te he
        split at hv
        · rename_i hb
          injection hv with hv; subst hv
          cases hx with
          | slnil => simp at hb; omega
          | sl0 h1 => simp at hb; omega
          | sl0n => simp at hb; omega
          | sl h1 h2 h3 h4 h5 h6 =>
            refine GivesS.of (u := .pointer (some _)) (fun w _ => ?_) (.cptr h1 h2 h3)
            simp [Instr.indexAt, asIntOf, run_underlying hty, hb.1, hb.2, run_sz (ht _ te he), Addr.add_lit]
        · cases hv
      · cases hv
    · rename_i el k' o n' c' hu
      rw [hu] at hty
      split at hv
      · rename_i te he
        split at hv
        · rename_i hb
          injection hv with hv; subst hv
          cases hx with
          | asl h1 h2 h3 =>
            refine GivesS.of (u := .pointer (some _)) (fun w _ => ?_) (.ptr h1)
            simp [Instr.indexAt, asIntOf, run_underlying hty, hb.1, hb.2, run_sz (ht _ te he), Addr.add_lit]
        · cases hv
      · cases hv
    · rename_i len el hu
      rw [hu] at hty
      split at hv
      · rename_i te he
        split at hv
        · rename_i hb
          obtain ⟨a, rfl, h2⟩ := maddr_ok hx hv
          refine GivesS.of (u := .pointer (some _)) (fun w _ => ?_) h2
          simp [Instr.indexAt, asIntOf, run_underlying hty, Instr.sureAddr, hb.1, hb.2, run_sz (ht _ te he)]
        · cases hv
      · cases hv
    · cases hv
  · cases hv

def vpart (tab : Tab) (t : TypeId) (cs : List MV) (off : Nat) : Option MV :=
  match tab t with
  | some i => vcell (isAggB i.under) i.size cs off
  | none => none
theorem vpart_ok (ht : TabOk P tab) {t : TypeId} {cs : List MV} {us : List Value} {off : Nat} (hv : vpart tab t cs off = some m) (hx : VRs G cs us) : ∃ r, (∀ w, (part t us.toArray off).run P w = .ok r w) ∧ VR G m r := by
  unfold vpart at hv
  split at hv
  · rename_i i hi
    have hty := ht t i hi
    unfold vcell at hv
    split at hv
    · rename_i hagg
      split at hv
      · injection hv with hv; subst hv
        have hvs := (hx.drop off).take i.size
        refine ⟨.agg ((us.drop off).take i.size).toArray, fun w => ?_, .agg hvs.1 hvs.2⟩
        simp [part, run_agg hty, hagg, run_sz hty]
      · cases hv
    · rename_i hagg
      obtain ⟨v, hv1, hv2⟩ := hx.get hv
      exact ⟨v, fun w => by simp [part, run_agg hty, hagg, hv1], hv2⟩
  · cases hv

def vfield (tab : Tab) (t : TypeId) (x : MV) (f : Nat) : Option MV :=
  match tab t, x with
  | some i, .agg cs => match i.under with
    | .struct fs => match fs[f]? with
      | some fd => vpart tab fd.type cs fd.offset
      | none => none
    | _ => none
  | _, _ => none
theorem vfield_ok (ht : TabOk P tab) {t : TypeId} {f : Nat} (hv : vfield tab t m f = some m') (hx : VR G m u) : GivesS P (Instr.field t u f) G m' := by
  unfold vfield at hv
  split at hv
  · rename_i i cs hi
    split at hv
    · rename_i fs hu
      have hty := (ht t i hi).under
      rw [hu] at hty
      split at hv
      · rename_i fd hf
        cases hx with
        | agg h1 h2 =>
          obtain ⟨r, h3, h4⟩ := vpart_ok (P := P) ht hv ⟨h1, h2⟩
          exact GivesS.of (fun w _ => by simp [Instr.field, run_underlying hty, hf, asAgg, h3]) h4
      · cases hv
    · cases hv
  · cases hv

def vindex (tab : Tab) (t : TypeId) (x ix : MV) : Option MV :=
  match tab t, x, ix with
  | some i, .agg cs, .v (.int _ k) => match i.under with
    | .array len el => match tab el with
      | some te => if 0 ≤ k ∧ k < (len : Int) then vpart tab el cs (k.toNat * te.size) else none
      | none => none
    | _ => none
  | some i, .str l, .v (.int _ k) => match i.under with
    | .string => if 0 ≤ k then (l[k.toNat]?).map fun b => .v (.int .u8 b.toNat) else none
    | _ => none
  | _, _, _ => none
theorem vindex_ok (ht : TabOk P tab) {t : TypeId} {ix : MV} (hv : vindex tab t m ix = some m') (hx : VR G m u) (hy : VR G ix v) : GivesS P (Instr.index t u v) G m' := by
  unfold vindex at hv
  split at hv
  · rename_i i cs kk k hi
    cases hy
    split at hv
    · rename_i len el hu
      have hty := (ht t i hi).under
      rw [hu] at hty
      split at hv
      · rename_i te he
        split at hv
        · rename_i hb
          cases hx with
          | agg h1 h2 =>
            obtain ⟨r, h3, h4⟩ := vpart_ok (P := P) ht hv ⟨h1, h2⟩
            exact GivesS.of (fun w _ => by simp [Instr.index, asIntOf, run_underlying hty, hb.1, hb.2, run_sz (ht _ te he), h3]) h4
        · cases hv
      · cases hv
    · cases hv
  · rename_i i l kk k hi
    cases hy
    cases hx
    split at hv
    · rename_i hu
      have hty := (ht t i hi).under
      rw [hu] at hty
      split at hv
      · rename_i hb
        obtain ⟨b, h1, h2⟩ := Option.map_eq_some_iff.1 hv
        subst h2
        refine GivesS.of (u := .int .u8 b.toNat) (fun w _ => ?_) (.v rfl)
        have hg : (⟨⟨l⟩⟩ : ByteArray)[k.toNat]? = some b := by
          obtain ⟨hlt, he⟩ := List.getElem?_eq_some_iff.1 h1
          rw [getElem?_pos (⟨⟨l⟩⟩ : ByteArray) k.toNat hlt]
          exact congrArg some he
        simp [Instr.index, asIntOf, run_underlying hty, hb, hg]
      · cases hv
    · cases hv
  · cases hv

def vextract (x : MV) (i : Nat) : Option MV :=
  match x with
  | .tuple vs => vs[i]?
  | _ => none
theorem vextract_ok {i : Nat} (hv : vextract m i = some m') (hx : VR G m u) : GivesS P (Instr.extract u i) G m' := by
  unfold vextract at hv
  split at hv
  · cases hx with
    | tuple h1 h2 =>
      obtain ⟨r, h3, h4⟩ := VRs.get ⟨h1, h2⟩ hv
      exact GivesS.of (fun w _ => by simp [Instr.extract, h3]) h4
  · cases hv
end
end Go.Proofs.YtjbpnhmjnkolbaaDoor
