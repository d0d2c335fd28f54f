/-
  THE VALUE MACHINE, 13: from a statement's inputs to the machine's values.
-/
import Derived.Test.YtjbpnhmjnkolbaaDoorVc
import Derived.ProofKit
import Derived.OpenShut
set_option linter.unusedVariables false
set_option linter.unusedSimpArgs false
namespace Go.Proofs.YtjbpnhmjnkolbaaDoor
open Go.RowKit Go.ChangeShapes

/-- The heap at the call: nothing of it is written. -/
def G0 (w : World) : Gh := ⟨w, fun _ => none, fun b o => w.cell? ⟨b, o, none⟩, fun _ => none⟩
def O0 : VH := ⟨0, fun _ => none⟩
theorem wr0 (w : World) : WR (G0 w) O0 w where
  base := Below.refl _ _
  com _ _ _ h := h
  dom _ _ := ⟨rfl, rfl, rfl⟩
  plt _ _ h := by cases h
  inj _ _ _ _ _ h := by cases h
  cells _ _ h := by cases h
  map _ _ _ h := by cases h
  tok _ h := by cases h
  tinj _ _ _ _ _ h := by cases h
  shp _ _ _ _ h := by cases h

/-- What each value of a type is in the machine. -/
def El {H : Type} (enc : TypeId × Value → H) (P : Program) (w : World) (sp : Nat → Bool) (held : Bool) (t : TypeId) (Φ : List MV → Prop) : Prop :=
  ∀ fuel cs x, DataW.trod enc P w 0 sp held fuel t cs = some x → ∃ ms, VRs (G0 w) ms cs ∧ Φ ms
section
variable {H : Type} {enc : TypeId × Value → H} {P : Program} {w : World} {sp : Nat → Bool} {held : Bool} {t e : TypeId}
theorem El.int {k : IntKind} (ht : P.underlying t = some (.int k)) : El enc P w sp held t fun ms => ∃ n, ms = [.v (.int k n)] ∧ (Lit.int k n).wf = true := by
  intro fuel cs x h
  obtain ⟨n, rfl, rfl, hw⟩ := DataW.trod_int ht h
  exact ⟨_, VRs.cons (.v rfl) VRs.nil, n, rfl, hw⟩
theorem El.bool (ht : P.underlying t = some .bool) : El enc P w sp held t fun ms => ∃ b, ms = [.v (.bool b)] := by
  intro fuel cs x h
  obtain ⟨n, rfl, rfl⟩ := DataW.trod_bool ht h
  exact ⟨_, VRs.cons (.v rfl) VRs.nil, n, rfl⟩
theorem El.str (ht : P.underlying t = some .string) : El enc P w sp held t fun ms => ∃ l : List UInt8, ms = [.str l] ∧ l.length ≤ maxLen := by
  intro fuel cs x h
  obtain ⟨s, rfl, rfl, hs⟩ := DataW.trod_string ht h
  exact ⟨[.str s.data.toList], VRs.cons (by cases s with | mk d => cases d with | mk l => exact .str) VRs.nil, _, rfl, hs⟩
theorem cell_spot {w : World} {a : Addr} {v : Value} (h : w.cell? a = some v) : a = ⟨a.block, a.off, none⟩ := by
  unfold World.cell? at h
  split at h
  · split at h
    · cases h
    · rename_i hs
      cases a with
      | mk b o s => cases s with
        | none => rfl
        | some x => exact absurd rfl hs
  · cases h
theorem El.slice (ht : P.underlying t = some (.slice e)) {Φ : List MV → Prop} (he : El enc P w sp held e Φ) (hsz : 0 < P.cellsOf e) :
    El enc P w sp held t fun ms => ∃ (rows : List (List MV)) (tk : Tok), ms = [.sl rows.length rows.flatten tk] ∧ (∀ r ∈ rows, Φ r) ∧ rows.length ≤ maxLen := by
  intro fuel cs x h
  rcases DataW.trod_slice ht h with ⟨rfl, rfl⟩ | ⟨a, len, cap, elems, rest, n, rfl, rfl, rfl, _, hlc, hm, hlen, hel, _, _⟩
  · exact ⟨[.sl 0 [] .nil], VRs.cons .slnil VRs.nil, [], .nil, rfl, by simp, by simp⟩
  by_cases h0 : len = 0
  · subst h0
    exact ⟨[.sl 0 [] .unk], VRs.cons (.sl0 hm) VRs.nil, [], .unk, rfl, by simp, by simp⟩
  have each : ∀ i, i < len → ∃ ms ci, w.cells? 0 (a.add (i * P.cellsOf e)) (P.cellsOf e) = some ci ∧ VRs (G0 w) ms ci ∧ Φ ms := fun i hi => by
    have h1 := hel i hi
    have h2 : elems[i]? = some (elems[i]'(by omega)) := List.getElem?_eq_getElem (by omega)
    rw [h2] at h1
    obtain ⟨ci, h3, h4⟩ := Option.bind_eq_some_iff.1 h1
    obtain ⟨ms, h5, h6⟩ := he _ _ _ h4
    exact ⟨ms, ci, h3, h5, h6⟩
  have hspot : a = ⟨a.block, a.off, none⟩ := by
    obtain ⟨_, ci, h1, _⟩ := each 0 (by omega)
    obtain ⟨_, h2, h3⟩ := World.cells?_some h1
    have h4 := h3 0 hsz
    rw [Nat.zero_mul] at h4
    have h5 : (a.add 0).add 0 = a := by simp [Addr.add]
    rw [h5] at h4
    rw [List.getElem?_eq_getElem (by omega)] at h4
    exact cell_spot h4
  obtain ⟨b, o, s⟩ := a
  obtain rfl : s = none := congrArg Addr.spot hspot
  have build : ∀ m, m ≤ len → ∃ (rows : List (List MV)) (us : List Value), rows.length = m ∧ us.length = m * P.cellsOf e ∧ VRs (G0 w) rows.flatten us ∧ (∀ p u, us[p]? = some u → w.cell? ⟨b, o + p, none⟩ = some u) ∧ ∀ r ∈ rows, Φ r := fun m => by
    induction m with
    | zero => exact fun _ => ⟨[], [], rfl, by simp, VRs.nil, fun p u hu => by simp at hu, by simp⟩
    | succ m ih =>
      intro hm
      obtain ⟨rows, us, h1, h2, h3, h4, h5⟩ := ih (by omega)
      obtain ⟨ms, ci, g1, g2, g3⟩ := each m (by omega)
      obtain ⟨_, g4, g5⟩ := World.cells?_some g1
      refine ⟨rows ++ [ms], us ++ ci, by simp [h1], by rw [List.length_append, h2, g4, Nat.add_mul, Nat.one_mul], ?_, fun p u hu => ?_, fun r hr => ?_⟩
      · rw [List.flatten_append, List.flatten_cons, List.flatten_nil, List.append_nil]; exact VRs.append h3 g2
      · rcases Nat.lt_or_ge p us.length with hp | hp
        · rw [List.getElem?_append_left hp] at hu; exact h4 p u hu
        · rw [List.getElem?_append_right hp] at hu
          have hpl := (List.getElem?_eq_some_iff.1 hu).1
          have := g5 (p - us.length) (by omega)
          rw [hu] at this
          rw [← this, Addr.add_lit, Addr.add_lit, h2, show o + m * P.cellsOf e + (p - m * P.cellsOf e) = o + p by omega]
      · rcases List.mem_append.1 hr with hr | hr
        · exact h5 r hr
        · rw [List.mem_singleton.1 hr]; exact g3
  obtain ⟨rows, us, h1, h2, h3, h4, h5⟩ := build len (Nat.le_refl _)
  refine ⟨[.sl rows.length rows.flatten .unk], VRs.cons ?_ VRs.nil, rows, .unk, rfl, h5, by omega⟩
  rw [h1]
  exact .sl h3.1 (fun p u hu => h4 p u hu) h3.2 hlc hm trivial
theorem El.imp {Φ Ψ : List MV → Prop} (h : El enc P w sp held t Φ) (hi : ∀ ms, Φ ms → Ψ ms) : El enc P w sp held t Ψ := fun fuel cs x hx => by
  obtain ⟨ms, h1, h2⟩ := h fuel cs x hx
  exact ⟨ms, h1, hi _ h2⟩
/-- Rows of one cell each. -/
theorem rows_one {α : Type} {f : α → MV} {p : α → Prop} : ∀ {rows : List (List MV)}, (∀ r ∈ rows, ∃ x, r = [f x] ∧ p x) → ∃ xs : List α, rows.length = xs.length ∧ rows.flatten = xs.map f ∧ ∀ x ∈ xs, p x
  | [], _ => ⟨[], rfl, rfl, by simp⟩
  | r :: rows, h => by
    obtain ⟨xs, h1, h2, h3⟩ := rows_one fun r hr => h r (List.mem_cons_of_mem _ hr)
    obtain ⟨x, h4, h5⟩ := h r (List.mem_cons_self ..)
    exact ⟨x :: xs, by simp [h1], by rw [h4]; simp [h2], fun y hy => by
      rcases List.mem_cons.1 hy with rfl | hy
      · exact h5
      · exact h3 y hy⟩
/-- A row of values of one cell each. -/
theorem El.row {α : Type} {f : α → MV} {p : α → Prop} (ht : P.underlying t = some (.slice e)) (hsz : P.cellsOf e = 1) (he : El enc P w sp held e fun ms => ∃ x, ms = [f x] ∧ p x) :
    El enc P w sp held t fun ms => ∃ y : List α × Tok, ms = [.sl y.1.length (y.1.map f) y.2] ∧ ((∀ x ∈ y.1, p x) ∧ y.1.length ≤ maxLen) :=
  (El.slice ht he (by omega)).imp fun ms ⟨rows, tk, h1, h2, h3⟩ => by
    obtain ⟨xs, h4, h5, h6⟩ := rows_one h2
    exact ⟨(xs, tk), by rw [h1, h4, h5], h6, by show xs.length ≤ maxLen; omega⟩
/-- An argument. -/
theorem El.arg {Φ : List MV → Prop} (h : El enc P w sp held t Φ) {v : Value} {d : DataW H} {ps : List MemPlace} (hd : DataW.Trod enc P w 0 sp held t v d ps) (hc : v.cells = #[v]) : ∃ m, VR (G0 w) m v ∧ Φ [m] := by
  obtain ⟨fuel, h1⟩ := hd
  rw [hc] at h1
  obtain ⟨ms, h2, h3⟩ := h _ _ _ h1
  match ms, h2 with
  | [m], h2 => exact ⟨m, h2.2 0 m v rfl rfl, h3⟩
  | [], h2 => exact absurd h2.1 (by simp)
  | _ :: _ :: _, h2 => exact absurd h2.1 (by simp)
end
/-! ### What a number of a kind may be -/
def InK : IntKind → Int → Prop
  | .i64, n => -9223372036854775808 ≤ n ∧ n ≤ 9223372036854775807
  | .u64, n => 0 ≤ n ∧ n ≤ 18446744073709551615
  | .u8, n => 0 ≤ n ∧ n ≤ 255
  | k, n => k.min ≤ n ∧ n ≤ k.max
theorem inK_of {k : IntKind} {n : Int} (h : (Lit.int k n).wf = true) : InK k n := by
  simp only [Lit.wf, Bool.and_eq_true, decide_eq_true_eq] at h
  cases k <;> exact h
section
variable {H : Type} {enc : TypeId × Value → H} {P : Program} {w : World} {sp : Nat → Bool} {held : Bool} {t e : TypeId}
theorem El.int2 {k : IntKind} (ht : P.underlying t = some (.int k)) : El enc P w sp held t fun ms => ∃ n, ms = [.v (.int k n)] ∧ InK k n :=
  (El.int ht).imp fun _ ⟨n, h, hw⟩ => ⟨n, h, inK_of hw⟩
theorem El.bool2 (ht : P.underlying t = some .bool) : El enc P w sp held t fun ms => ∃ b, ms = [mb b] ∧ True :=
  (El.bool ht).imp fun _ ⟨b, h⟩ => ⟨b, h, trivial⟩
end
/-- A law that answers true: the run, from the machine's word. -/
theorem VF.law {P : Program} {f : FuncId} {w : World} {ms : List MV} {vs : Array Value} (hv : VRs (G0 w) ms vs.toList) (h : VF P f ms O0 (Ret fun m _ => m = mb true)) :
    Calls P f vs w fun e w' => e = .returned (.bool true) ∧ Below w.heap.size w w' := by
  have := h (G0 w) w vs.toList (wr0 w) hv
  refine this.mono ?_
  rintro x w' ⟨r, O', G, h1, h2, h3, h4⟩
  cases r with
  | panic m => exact h4.elim
  | ret m =>
    have h4 : m = mb true := h4
    subst h4
    cases x with
    | returned v =>
      have h5 : v = .bool true := h3.v_inv
      refine ⟨by rw [h5], ?_⟩
      have := h2.base
      rw [h1.w0] at this
      have hB : G.B = w.heap.size := by unfold Gh.B; rw [h1.w0]; rfl
      rw [hB] at this
      exact this
    | panicked c => exact h3.elim
    | outgrown => exact h3.elim
end Go.Proofs.YtjbpnhmjnkolbaaDoor
