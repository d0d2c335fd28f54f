/-
  THE VALUE MACHINE, 4: literals, slices, make, len.
-/
import Derived.Test.YtjbpnhmjnkolbaaDoorV3
set_option linter.unusedVariables false
set_option linter.unusedSimpArgs false
namespace Go.Proofs.YtjbpnhmjnkolbaaDoor
open Go.RowKit

section
variable {G H : Gh} {n : Nat} {D : List Deferred} {e : Env} {a : Act} {P : Program} {tab : Tab} {O O' : VH} {w : World} {m m' m2 : MV} {u v : Value}

/-! ### Literals -/
def vfill (place : Nat → Option (Nat × Nat)) (cells : List MV) : List (Nat × MV) → Option (List MV)
  | [] => some cells
  | (i, x) :: rest => match place i with
    | none => none
    | some (off, size) => if (mcells x).length = size ∧ off + size ≤ cells.length then vfill place (setMany cells off (mcells x)) rest else none
theorem zipIdx_set {us : List Value} : ∀ (vs : List Value) (k off : Nat) (C : Array Value) (cs ms : List MV), VRs G cs C.toList → VRs G ms vs →
    VRs G (setMany cs (off + k) ms) ((vs.zipIdx k).foldl (fun (a : Array Value) x => a.setIfInBounds (off + x.2) x.1) C).toList
  | [], k, off, C, cs, ms, h, hm => by
    have : ms = [] := List.eq_nil_of_length_eq_zero hm.1.symm
    subst this
    exact h
  | v :: vs, k, off, C, cs, ms, h, hm => by
    cases ms with
    | nil => have := hm.1; simp at this
    | cons x xs =>
      simp only [List.zipIdx_cons, List.foldl_cons, setMany]
      have h2 : VRs G (cs.set (off + k) x) (C.setIfInBounds (off + k) v).toList := by rw [Array.toList_setIfInBounds]; exact h.set hm.head
      exact zipIdx_set (us := us) vs (k + 1) off _ _ xs h2 hm.tail
theorem vfill_ok {place : Nat → Option (Nat × Nat)} : ∀ (parts : List (Nat × MV)) (ps : List (Nat × Value)) (cs : List MV) (C : Array Value) (ds : List MV), vfill place cs parts = some ds →
    parts.map (·.1) = ps.map (·.1) → VRs G (parts.map (·.2)) (ps.map (·.2)) → VRs G cs C.toList → ∃ E, Instr.fill place C ps = some E ∧ VRs G ds E.toList
  | [], ps, cs, C, ds, h, h1, h2, h3 => by
    have : ps = [] := by cases ps <;> simp_all
    subst this
    injection h with h; subst h
    exact ⟨C, rfl, h3⟩
  | (i, x) :: parts, ps, cs, C, ds, h, h1, h2, h3 => by
    cases ps with
    | nil => simp at h1
    | cons p ps =>
      obtain ⟨j, y⟩ := p
      simp only [List.map_cons, List.cons.injEq] at h1
      obtain ⟨rfl, h1⟩ := h1
      simp only [List.map_cons] at h2
      simp only [vfill] at h
      cases hp : place i with
      | none => rw [hp] at h; cases h
      | some q =>
        obtain ⟨off, size⟩ := q
        rw [hp] at h
        simp only at h
        split at h
        · rename_i hc
          have hm := mcells_ok h2.head
          have hy : y.cells.size = size := by rw [← Array.length_toList, hm.1]; exact hc.1
          have hC : C.size = cs.length := by rw [← Array.length_toList]; exact h3.1
          have hst := zipIdx_set (us := []) y.cells.toList 0 off C cs (mcells x) h3 hm
          obtain ⟨E, h4, h5⟩ := vfill_ok parts ps _ _ ds h h1 h2.tail hst
          refine ⟨E, ?_, h5⟩
          simp only [Instr.fill, hp]
          rw [if_neg (by rw [hy, hC]; simp; exact hc.2)]
          rw [← h4]
          congr 1
          rw [← Array.foldl_toList, Array.toList_zipIdx]
        · cases h

def placesOf (tab : Tab) (fs : Array Field) : Option (List (Nat × Nat)) := fs.toList.mapM fun f => (tab f.type).map fun i => (f.offset, i.size)
theorem run_places (ht : TabOk P tab) : ∀ (fs : List Field) (l : List (Nat × Nat)) (w : World), (fs.mapM fun f => (tab f.type).map fun i => (f.offset, i.size)) = some l →
    (fs.mapM fun f => (do pure (f.offset, ← sizeOf f.type) : Sem (Nat × Nat))).run P w = .ok l w
  | [], l, w, h => by simp at h; subst h; rfl
  | f :: fs, l, w, h => by
    simp only [List.mapM_cons, Option.bind_eq_bind, Option.bind_eq_some_iff] at h
    obtain ⟨x, h1, l', h2, h3⟩ := h
    injection h3 with h3; subst h3
    obtain ⟨i, hi, rfl⟩ := Option.map_eq_some_iff.1 h1
    have ih := run_places ht fs l' w h2
    simp only [List.mapM_cons, Sem.run_bind, run_sz (ht _ i hi), Result.andThen_ok, Sem.run_pure]
    rw [ih]
    rfl

def vbuild (tab : Tab) (t : TypeId) (parts : List (Nat × MV)) : Option MV :=
  match tab t with
  | some i => match i.under with
    | .struct fs => match placesOf tab fs with
      | some l => (vfill (l[·]?) i.zero parts).map .agg
      | none => none
    | .array _ el => match tab el with
      | some te => (vfill (fun k => some (k * te.size, te.size)) i.zero parts).map .agg
      | none => none
    | _ => none
  | none => none
theorem vbuild_ok (ht : TabOk P tab) {t : TypeId} {parts : List (Nat × MV)} {ps : Array (Nat × Value)} (hv : vbuild tab t parts = some m) (h1 : parts.map (·.1) = ps.toList.map (·.1)) (h2 : VRs G (parts.map (·.2)) (ps.toList.map (·.2))) :
    GivesS P (Instr.build t ps) G m := by
  unfold vbuild at hv
  split at hv
  · rename_i i hi
    have hty := ht t i hi
    obtain ⟨ti, z, hz0, _, _, hz4, hz2, hz3⟩ := hty.info
    have hz1 : ∀ w, (zeroValue t).run P w = .ok z w := fun w => by simp [zeroValue, typeInfo, hz0, hz4]
    split at hv
    · rename_i fs hu
      have hun := hty.under
      rw [hu] at hun
      split at hv
      · rename_i l hl
        obtain ⟨ds, h3, rfl⟩ := Option.map_eq_some_iff.1 hv
        obtain ⟨E, h4, h5⟩ := vfill_ok parts ps.toList i.zero z.cells ds h3 h1 h2 (hz3 G)
        have hr := fun w => run_places ht fs.toList l w hl
        refine GivesS.of (u := .agg E) (fun w _ => ?_) (.agg h5.1 h5.2)
        have hr' : (fs.mapM fun f => (do pure (f.offset, ← sizeOf f.type) : Sem (Nat × Nat))).run P w = .ok l.toArray w := by
          rw [Array.mapM_eq_mapM_toList, ← bind_pure_comp, Sem.run_bind, hr]
          rfl
        simp only [Instr.build, Sem.run_bind, hz1, Result.andThen_ok, run_underlying hun, hr']
        have : Instr.fill (fun x => l.toArray[x]?) z.cells ps.toList = some E := by rw [← h4]; congr 1; funext x; simp
        rw [this]
        rfl
      · cases hv
    · rename_i len el hu
      have hun := hty.under
      rw [hu] at hun
      split at hv
      · rename_i te he
        obtain ⟨ds, h3, rfl⟩ := Option.map_eq_some_iff.1 hv
        obtain ⟨E, h4, h5⟩ := vfill_ok parts ps.toList i.zero z.cells ds h3 h1 h2 (hz3 G)
        refine GivesS.of (u := .agg E) (fun w _ => ?_) (.agg h5.1 h5.2)
        simp only [Instr.build, Sem.run_bind, hz1, Result.andThen_ok, run_underlying hun, run_sz (ht _ te he), h4]
        rfl
      · cases hv
    · cases hv
  · cases hv

/-- As many zero cells. -/
def vzeros (z : List MV) (n : Nat) : List MV := (List.range n).map fun i => z.getD (i % z.length) (.tuple [])
theorem vzeros_ok {z : List MV} {Z : Array Value} (h : VRs G z Z.toList) (hz : 0 < z.length) (n : Nat) : VRs G (vzeros z n) ((Array.range n).map (fun i => Z[i % Z.size]!)).toList := by
  have hl : Z.size = z.length := by rw [← Array.length_toList]; exact h.1
  refine ⟨by simp [vzeros], fun i c u hc hu => ?_⟩
  simp only [vzeros, List.getElem?_map, Option.map_eq_some_iff] at hc
  obtain ⟨j, hj, rfl⟩ := hc
  simp only [Array.toList_map, Array.toList_range, List.getElem?_map, hj, Option.map_some, Option.some.injEq] at hu
  have hm : j % z.length < z.length := Nat.mod_lt _ hz
  have hm' : j % Z.size < Z.size := by rw [hl]; exact hm
  refine h.2 (j % z.length) _ u ?_ ?_
  · rw [List.getElem?_eq_getElem hm, List.getD_eq_getElem?_getD, List.getElem?_eq_getElem hm]; rfl
  · rw [← hu, ← hl, Array.getElem?_toList, Array.getElem?_eq_getElem hm', getElem!_pos Z _ hm']

def vbuildSlice (tab : Tab) (t : TypeId) (len : Nat) (parts : List (Nat × MV)) : Option MV :=
  match (tab t).map TyI.under with
  | some (.slice el) => match tab el with
    | some te => if 0 < len * te.size ∧ len * te.size ≤ 16777216 ∧ 0 < te.zero.length ∧ len ≤ maxLen then
        (vfill (fun k => some (k * te.size, te.size)) (vzeros te.zero (len * te.size)) parts).map fun cs => .sl len cs .full
      else if len = 0 ∧ parts = [] then some (.sl 0 [] .full) else none
    | none => none
  | _ => none
theorem vbuildSlice_ok (ht : TabOk P tab) (h : WR G O w) {t : TypeId} {len : Nat} {parts : List (Nat × MV)} {ps : Array (Nat × Value)} (hv : vbuildSlice tab t len parts = some m) (h1 : parts.map (·.1) = ps.toList.map (·.1)) (h2 : VRs G (parts.map (·.2)) (ps.toList.map (·.2))) :
    Gives P (Instr.buildSlice t len ps) w G O m := by
  unfold vbuildSlice at hv
  split at hv
  · rename_i el hu
    obtain ⟨i, hi, hu⟩ := Option.map_eq_some_iff.1 hu
    have hun := (ht t i hi).under
    rw [hu] at hun
    split at hv
    · rename_i te he
      have hte := ht el te he
      obtain ⟨z, hz1, hz2, hz3⟩ := run_zero hte w
      have fin : ∀ (C : Array Value) (cs : List MV), VRs G cs C.toList → len ≤ maxLen → Gives P (do pure (Value.slice (some (← newRow el C)) len len)) w G O (.sl len cs .full) := fun C cs hc hl => by
        obtain ⟨h3, h4⟩ := h.lit C el
        refine ⟨.slice (some ⟨w.heap.size, 0, none⟩) len len, w.alloc (.cells C el), _, by simp [newRow, newObj, Sem.run], h3, h4, ?_, KeepB.alloc h _⟩
        refine .sl (us := C.toList) hc.1 (fun i u hu => ?_) (fun i c u a b => (hc.2 i c u a b).mono h3) (Nat.le_refl _) hl rfl
        show (if w.heap.size = w.heap.size then C[0 + i]? else _) = some u
        rw [if_pos rfl, Nat.zero_add]
        simpa using hu
      split at hv
      · rename_i hc
        obtain ⟨cs, h3, rfl⟩ := Option.map_eq_some_iff.1 hv
        obtain ⟨E, h4, h5⟩ := vfill_ok parts ps.toList _ _ cs h3 h1 h2 (vzeros_ok (hz3 G) hc.2.2.1 (len * te.size))
        have hne : ¬ (len * te.size = 0) := by omega
        have hng : ¬ (len * te.size > 16777216) := by omega
        obtain ⟨u, w', H, hr, r⟩ := fin E cs h5 hc.2.2.2
        refine ⟨u, w', H, ?_, r⟩
        rw [← hr]
        simp [Instr.buildSlice, run_underlying hun, run_sz hte, hne, hng, hz1, h4]
      · split at hv
        · rename_i hc
          injection hv with hv; subst hv
          obtain ⟨rfl, rfl⟩ := hc
          have hps : ps.toList = [] := by
            have := h1.symm
            simpa using this
          obtain ⟨u, w', H, hr, r⟩ := fin #[] [] VRs.nil (Nat.zero_le _)
          refine ⟨u, w', H, ?_, r⟩
          rw [← hr]
          simp [Instr.buildSlice, run_underlying hun, run_sz hte, hps, Instr.fill]
          rw [show Array.range 0 = #[] from Array.eq_empty_of_size_eq_zero (by simp), Array.map_empty]
        · cases hv
    · cases hv
  · cases hv

/-! ### len, max, min; the unary ones -/
def vlen (tab : Tab) (t : TypeId) (x : MV) : Option MV :=
  match (tab t).map TyI.under, x with
  | some .string, .str l => some (.v (.int .i64 l.length))
  | some (.slice _), .sl n _ _ => some (.v (.int .i64 n))
  | some (.slice _), .asl _ _ n _ => some (.v (.int .i64 n))
  | some (.map _ _), .v (.map none) => some (.v (.int .i64 0))
  | some (.array n _), _ => some (.v (.int .i64 n))
  | _, _ => none
theorem vlen_ok (ht : TabOk P tab) {t ty : TypeId} (hv : vlen tab t m = some m') (hx : VR G m u) : GivesS P (Builtin.len_ #[t] ty #[u]) G m' := by
  unfold vlen at hv
  have un : ∀ d, (tab t).map TyI.under = some d → P.underlying t = some d := fun d hd => by
    obtain ⟨i, hi, hu⟩ := Option.map_eq_some_iff.1 hd
    rw [← hu]; exact (ht t i hi).under
  split at hv
  · injection hv with hv; subst hv
    cases hx
    exact GivesS.of (u := .int .i64 _) (fun w _ => by simp [Builtin.len_, run_underlying (un _ ‹_›), goInt]; rfl) (.v rfl)
  · injection hv with hv; subst hv
    cases hx <;> exact GivesS.of (u := .int .i64 _) (fun w _ => by simp [Builtin.len_, run_underlying (un _ ‹_›), goInt]; try rfl) (.v rfl)
  · injection hv with hv; subst hv
    cases hx
    exact GivesS.of (u := .int .i64 _) (fun w _ => by simp [Builtin.len_, run_underlying (un _ ‹_›), goInt]; try rfl) (.v rfl)
  · injection hv with hv; subst hv
    cases hx
    exact GivesS.of (u := .int .i64 _) (fun w _ => by simp [Builtin.len_, run_underlying (un _ ‹_›), goInt]; try rfl) (.v rfl)
  · injection hv with hv; subst hv
    exact GivesS.of (u := .int .i64 _) (fun w _ => by simp [Builtin.len_, run_underlying (un _ ‹_›), goInt]; try rfl) (.v rfl)
  · cases hv
def vmaplen (tab : Tab) (O : VH) (t : TypeId) (x : MV) : Option MV :=
  match (tab t).map TyI.under, x with
  | some (.map _ _), .map k => match O.hp k with
    | some (.map es _) => some (.v (.int .i64 es.length))
    | _ => none
  | _, _ => none
theorem vmaplen_ok (ht : TabOk P tab) (h : WR G O w) {t ty : TypeId} (hv : vmaplen tab O t m = some m') (hx : VR G m u) : Gives P (Builtin.len_ #[t] ty #[u]) w G O m' := by
  unfold vmaplen at hv
  have un : ∀ d, (tab t).map TyI.under = some d → P.underlying t = some d := fun d hd => by
    obtain ⟨i, hi, hu⟩ := Option.map_eq_some_iff.1 hd
    rw [← hu]; exact (ht t i hi).under
  split at hv
  · split at hv
    · rename_i k es ck hk
      injection hv with hv; subst hv
      cases hx with
      | map h1 =>
        obtain ⟨b, E, e1, e2, e3, _⟩ := h.map _ _ _ hk
        rw [h1] at e1; injection e1 with e1; subst e1
        have hl : E.size = es.length := by
          have := congrArg List.length e3
          simpa using this
        refine Gives.of h (u := .int .i64 es.length) ?_ (.v rfl)
        simp [Builtin.len_, run_underlying (un _ ‹_›), goInt, getObj, Sem.run, e2, hl]
    · cases hv
  · cases hv

def vmax2 (x y : MV) : Option MV :=
  match x, y with
  | .v (.int k a), .v (.int _ b) => some (.v (.int k (if b > a then b else a)))
  | _, _ => none
def vmin2 (x y : MV) : Option MV :=
  match x, y with
  | .v (.int k a), .v (.int _ b) => some (.v (.int k (if b < a then b else a)))
  | _, _ => none
theorem vmax2_ok (hv : vmax2 m m' = some m2) (hx : VR G m u) (hy : VR G m' v) {ts : Array TypeId} {ty : TypeId} : GivesS P (Builtin.max_ ts ty #[u, v]) G m2 := by
  unfold vmax2 at hv
  split at hv
  · injection hv with hv; subst hv; cases hx; cases hy
    exact GivesS.of (u := .int _ _) (fun w _ => by simp [Builtin.max_, Builtin.max2]) (.v rfl)
  · cases hv
theorem vmin2_ok (hv : vmin2 m m' = some m2) (hx : VR G m u) (hy : VR G m' v) {ts : Array TypeId} {ty : TypeId} : GivesS P (Builtin.min_ ts ty #[u, v]) G m2 := by
  unfold vmin2 at hv
  split at hv
  · injection hv with hv; subst hv; cases hx; cases hy
    exact GivesS.of (u := .int _ _) (fun w _ => by simp [Builtin.min_, Builtin.min2]) (.v rfl)
  · cases hv
def vunary (op : UnOp) (x : MV) : Option MV :=
  match op, x with
  | .neg, .v (.int k a) => some (.v (.int k (k.wrap (0 - a))))
  | .not, .v (.bool b) => some (.v (.bool !b))
  | _, _ => none
theorem vunary_ok {op : UnOp} (hv : vunary op m = some m') (hx : VR G m u) : GivesS P (Op.unary op u) G m' := by
  unfold vunary at hv
  split at hv
  · injection hv with hv; subst hv; cases hx
    exact GivesS.of (u := .int _ _) (fun w _ => by simp [Op.unary, Op.intArith]) (.v rfl)
  · injection hv with hv; subst hv; cases hx
    exact GivesS.of (u := .bool _) (fun w _ => by simp [Op.unary]) (.v rfl)
  · cases hv
end
end Go.Proofs.YtjbpnhmjnkolbaaDoor
