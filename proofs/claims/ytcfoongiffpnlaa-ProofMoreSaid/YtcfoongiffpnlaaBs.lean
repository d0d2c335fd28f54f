/-
  THE VALUE MACHINE, 16: structs and arrays as a statement's arguments.
-/
import Derived.Test.YtcfoongiffpnlaaBr
set_option linter.unusedVariables false
set_option linter.unusedSimpArgs false
namespace Go.Proofs.Ytcfoongiffpnlaa
open Go.RowKit Go.ChangeShapes

/-- Each cell is as told. -/
def AllP : List (List MV → Prop) → List MV → Prop
  | [], ms => ms = []
  | _ :: _, [] => False
  | Φ :: Φs, m :: ms => Φ [m] ∧ AllP Φs ms
theorem AllP.cons {Φ : List MV → Prop} {Φs : List (List MV → Prop)} : ∀ {ms : List MV}, AllP (Φ :: Φs) ms → ∃ m ms', ms = m :: ms' ∧ Φ [m] ∧ AllP Φs ms'
  | [], h => h.elim
  | m :: ms, h => ⟨m, ms, rfl, h.1, h.2⟩
theorem AllP.nil {ms : List MV} (h : AllP [] ms) : ms = [] := h
theorem cellsAll {w : World} : ∀ (Φs : List (List MV → Prop)) (us : List Value), us.length = Φs.length → (∀ i (h : i < us.length) (h2 : i < Φs.length), ∃ ms, VRs (G0 w) ms [us[i]] ∧ Φs[i] ms) → ∃ ms, VRs (G0 w) ms us ∧ AllP Φs ms
  | [], [], _, _ => ⟨[], VRs.nil, rfl⟩
  | [], _ :: _, h, _ => by simp at h
  | _ :: _, [], h, _ => by simp at h
  | Φ :: Φs, u :: us, h, hall => by
    obtain ⟨ms, h1, h2⟩ := hall 0 (by simp) (by simp)
    obtain ⟨ms', k1, k2⟩ := cellsAll Φs us (by simpa using h) fun i a b => by
      have := hall (i + 1) (by simpa using a) (by simpa using b)
      simpa using this
    match ms, h1, h2 with
    | [m], h1, h2 => exact ⟨m :: ms', VRs.cons h1.head k1, h2, k2⟩
    | [], h1, _ => exact absurd h1.1 (by simp)
    | _ :: _ :: _, h1, _ => exact absurd h1.1 (by simp)
section
variable {H : Type} {enc : TypeId × Value → H} {P : Program} {w : World} {sp : Nat → Bool} {held : Bool} {t e : TypeId}
/-- Fields of one cell each, one behind the other. -/
def Flds (enc : TypeId × Value → H) (P : Program) (w : World) (sp : Nat → Bool) (held : Bool) : List Field → Nat → List (List MV → Prop) → Prop
  | [], _, [] => True
  | f :: fs, k, Φ :: Φs => f.offset = k ∧ P.cellsOf f.type = 1 ∧ El enc P w sp held f.type Φ ∧ Flds enc P w sp held fs (k + 1) Φs
  | [], _, _ :: _ => False
  | _ :: _, _, [] => False
theorem Flds.nil {k : Nat} : Flds enc P w sp held [] k [] := trivial
theorem Flds.cons {f : Field} {fs : List Field} {k : Nat} {Φ : List MV → Prop} {Φs : List (List MV → Prop)} (a : f.offset = k) (b : P.cellsOf f.type = 1) (c : El enc P w sp held f.type Φ) (d : Flds enc P w sp held fs (k + 1) Φs) : Flds enc P w sp held (f :: fs) k (Φ :: Φs) := ⟨a, b, c, d⟩
theorem Flds.get : ∀ {fs : List Field} {k : Nat} {Φs : List (List MV → Prop)}, Flds enc P w sp held fs k Φs → fs.length = Φs.length ∧ ∀ i (h : i < fs.length) (h2 : i < Φs.length), fs[i].offset = k + i ∧ P.cellsOf fs[i].type = 1 ∧ El enc P w sp held fs[i].type Φs[i]
  | [], _, [], _ => ⟨rfl, fun i h => absurd h (by simp)⟩
  | [], _, _ :: _, h => h.elim
  | _ :: _, _, [], h => h.elim
  | f :: fs, k, Φ :: Φs, ⟨a, b, c, d⟩ => by
    obtain ⟨h1, h2⟩ := d.get
    refine ⟨by simp [h1], fun i h h' => ?_⟩
    cases i with
    | zero => exact ⟨a, b, c⟩
    | succ i =>
      obtain ⟨k1, k2, k3⟩ := h2 i (by simpa using h) (by simpa using h')
      exact ⟨by simp only [List.getElem_cons_succ]; omega, k2, k3⟩
theorem drop_take_one {α : Type} {l : List α} {i : Nat} (h : i < l.length) : (l.drop i).take 1 = [l[i]] := by
  rw [List.drop_eq_getElem_cons h]; rfl
theorem El.struct {fs : Array Field} {Φs : List (List MV → Prop)} (ht : P.underlying t = some (.struct fs)) (hsz : P.cellsOf t = Φs.length) (hf : Flds enc P w sp held fs.toList 0 Φs) : El enc P w sp held t (AllP Φs) := by
  intro fuel cs x h
  obtain ⟨xs, n, rfl, rfl, hl, hxl, hfi⟩ := DataW.trod_struct ht h
  obtain ⟨h1, h2⟩ := hf.get
  have hfs : fs.toList.length = fs.size := by simp
  refine cellsAll Φs cs (by omega) fun i a b => ?_
  obtain ⟨e1, e2, e3⟩ := h2 i (by omega) b
  have h5 := hfi i fs.toList[i] (by rw [← Array.getElem?_toList, List.getElem?_eq_getElem])
  rw [e1, e2, Nat.zero_add, drop_take_one a, List.getElem?_eq_getElem (by omega)] at h5
  exact e3 _ _ _ h5
theorem El.array {n : Nat} {Φ : List MV → Prop} {Φs : List (List MV → Prop)} (ht : P.underlying t = some (.array n e)) (hsz : P.cellsOf t = n) (he1 : P.cellsOf e = 1) (he : El enc P w sp held e Φ) (hΦ : Φs = List.replicate n Φ) : El enc P w sp held t (AllP Φs) := by
  intro fuel cs x h
  obtain ⟨xs, m, rfl, rfl, hl, hxl, hfi⟩ := DataW.trod_array ht h
  subst hΦ
  refine cellsAll _ cs (by simp; omega) fun i a b => ?_
  have h5 := hfi i (by omega)
  rw [he1, Nat.mul_one, drop_take_one a, List.getElem?_eq_getElem (by omega)] at h5
  rw [List.getElem_replicate]
  exact he _ _ _ h5
/-- An argument of several cells. -/
theorem El.argA {Φ : List MV → Prop} (h : El enc P w sp held t Φ) {us : Array Value} {d : DataW H} {ps : List MemPlace} (hd : DataW.Trod enc P w 0 sp held t (.agg us) d ps) : ∃ ms, VR (G0 w) (.agg ms) (.agg us) ∧ Φ ms := by
  obtain ⟨fuel, h1⟩ := hd
  obtain ⟨ms, h2, h3⟩ := h _ _ _ h1
  refine ⟨ms, ?_, h3⟩
  have : (Value.agg us) = .agg us.toList.toArray := by simp
  rw [this]
  exact .agg h2.1 h2.2
theorem okWide_array {n : Nat} {r : Reach} {base : Nat} {v : Value} (ht : P.underlying t = some (.array n e)) (h : Value.okWide P w r base t v) : ∃ cs, v = .agg cs ∧ cs.size = P.cellsOf t := by
  simp only [Value.okWide, ht] at h
  obtain ⟨cs, h1, h2, _⟩ := h
  exact ⟨cs, h1, h2⟩
end
end Go.Proofs.Ytcfoongiffpnlaa
