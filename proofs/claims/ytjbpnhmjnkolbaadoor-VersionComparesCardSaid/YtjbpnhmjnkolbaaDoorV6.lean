/-
  THE VALUE MACHINE, 6: an operation as a whole. 'vsil': an operation that neither reads nor writes what may be written. 'vloud': one that does, or makes memory.
-/
import Derived.Test.YtjbpnhmjnkolbaaDoorV5
set_option linter.unusedVariables false
set_option linter.unusedSimpArgs false
namespace Go.Proofs.YtjbpnhmjnkolbaaDoor
open Go.RowKit

section
variable {G H : Gh} {n : Nat} {D : List Deferred} {e : Env} {a : Act} {P : Program} {tab : Tab} {O O' : VH} {w : World} {m m' : MV} {u v : Value}

def vconv (tab : Tab) (src dst : TypeId) (x : MV) : Option MV :=
  match (tab src).map TyI.under, (tab dst).map TyI.under, x with
  | some _, some (.int k), .v (.int _ i) => some (.v (.int k (k.wrap i)))
  | some .string, some .string, .str l => some (.str l)
  | _, _, _ => none
theorem vconv_ok (ht : TabOk P tab) {src dst : TypeId} (hv : vconv tab src dst m = some m') (hx : VR G m u) : GivesS P (convert src dst u) G m' := by
  unfold vconv at hv
  split at hv
  · injection hv with hv; subst hv; cases hx
    exact GivesS.of (u := .int _ _) (fun w _ => by simp [convert, run_underlying (under_of ht ‹(tab src).map _ = _›), run_underlying (under_of ht ‹(tab dst).map _ = _›), Conv.intToInt]) (.v rfl)
  · injection hv with hv; subst hv; cases hx
    exact GivesS.of (u := .string _) (fun w _ => by simp [convert, run_underlying (under_of ht ‹(tab src).map _ = _›), run_underlying (under_of ht ‹(tab dst).map _ = _›)]) .str
  · cases hv

theorem _root_.Go.Proofs.YtjbpnhmjnkolbaaDoor.VR.v_inv {x u : Value} (h : VR G (.v x) u) : u = x := by cases h; rfl
def vnil (m : MV) : Option MV :=
  match m with
  | .ptr _ _ | .cptr _ _ => some m
  | .func (.func _) _ _ => some m
  | _ => none

def zipParts {α : Type} (parts : Array (Nat × Operand)) (ms : List α) : List (Nat × α) := (parts.toList.map (·.1)).zip ms

/-- unsafe.SliceData -/
def vsdata : MV → Option MV
  | .asl k o _ c => if c = 0 then none else some (.ptr k o)
  | .sl 0 [] .nil => some (.v (.pointer none))
  | _ => none
theorem vsdata_ok (hv : vsdata m = some m') (hx : VR G m u) {ts : Array TypeId} {ty : TypeId} : GivesS P (Builtin.unsafeSliceData_ ts ty #[u]) G m' := by
  unfold vsdata at hv
  split at hv
  · split at hv
    · cases hv
    · rename_i k o n c hc
      injection hv with hv; subst hv
      cases hx with
      | asl h1 h2 h3 => exact GivesS.of (u := .pointer (some _)) (fun w _ => by
        show Sem.run P (if c ≠ 0 then pure (Value.pointer (some _)) else _) w = _
        rw [if_pos hc]; rfl) (.ptr h1)
  · injection hv with hv; subst hv
    cases hx with
    | slnil => exact GivesS.of (u := .pointer none) (fun w _ => rfl) (.v rfl)
    | sl h1 h2 h3 h4 h5 h6 => exact h6.elim
  · cases hv
def vsil (tab : Tab) (o : Oper) (e : Env) : Option MV :=
  match o.op with
  | .move x | .assign x => ev e x
  | .pick c a b => match ev e c with
    | some (.v (.bool t)) => if t then ev e a else ev e b
    | _ => none
  | .nilCheck x => (ev e x).bind vnil
  | .binOp op t x y _ => match ev e x, ev e y with
    | some p, some q => vbin tab op t p q
    | _, _ => none
  | .unOp op _ x => (ev e x).bind (vunary op)
  | .convert s d x => (ev e x).bind (vconv tab s d)
  | .fieldAddr t x f => (ev e x).bind (vfieldAddr tab t f)
  | .field t x f => (ev e x).bind (vfield tab t · f)
  | .indexAddr t x i => match ev e x, ev e i with
    | some p, some q => vindexAddr tab t p q
    | _, _ => none
  | .index t x i => match ev e x, ev e i with
    | some p, some q => vindex tab t p q
    | _, _ => none
  | .extract x i => (ev e x).bind (vextract · i)
  | .slice t x lo hi mx => match ev e x, evo lo, evo hi, mx with
    | some p, some l, some h, none => vslice tab t p l h
    | some p, some l, some (some h), some y => (ev e y).bind (vslice3 tab t p l h)
    | _, _, _, _ => none
  | .build t parts => match evs e (parts.toList.map (·.2)) with
    | some ms => vbuild tab t (zipParts parts ms)
    | none => none
  | .load t x => match ev e x with
    | some (.cptr cs off) => vload tab ⟨0, fun _ => none⟩ t (.cptr cs off)
    | _ => none
  | .makeFunc fn fs cs => match evs e fs.toList, evs e cs.toList with
    | some p, some q => some (.func fn p q)
    | _, _ => none
  | .makeInterface t x => match (tab t).map TyI.under, ev e x with
    | some (.interface _), _ => none
    | some _, some p => some (.iface t p)
    | _, _ => none
  | .call c => match c.callee, c.args.toList, c.argTypes.toList with
    | .builtin .len, [x], [t] => (ev e x).bind (vlen tab t)
    | .builtin .max, [x, y], _ => match ev e x, ev e y with
      | some p, some q => vmax2 p q
      | _, _ => none
    | .builtin .min, [x, y], _ => match ev e x, ev e y with
      | some p, some q => vmin2 p q
      | _, _ => none
    | .builtin .unsafeSliceData, [x], _ => (ev e x).bind vsdata
    | _, _, _ => none
  | _ => none
where evo : Option Operand → Option (Option MV)
  | none => some none
  | some x => (ev e x).map some

theorem evo_ok (h : FR G n D e a) {x : Option Operand} {y : Option MV} (hx : vsil.evo e x = some y) : VRo G y (x.map a.eval) := by
  cases x with
  | none => injection hx with hx; subst hx; trivial
  | some x =>
    obtain ⟨m, h1, rfl⟩ := Option.map_eq_some_iff.1 hx
    exact h.ev h1
theorem evs_length {l : List Operand} {ms : List MV} (h : evs e l = some ms) : ms.length = l.length := by
  induction l generalizing ms with
  | nil => simp [evs] at h; subst h; rfl
  | cons x l ih =>
    simp only [evs, List.mapM_cons, Option.bind_eq_bind, Option.bind_eq_some_iff] at h
    obtain ⟨m, h1, ms', h2, h3⟩ := h
    injection h3 with h3; subst h3
    simp [ih h2]
theorem zip_fst {α : Type} (parts : Array (Nat × Operand)) (ms : List α) (h : ms.length = parts.toList.length) : (zipParts parts ms).map (·.1) = parts.toList.map (·.1) := by
  unfold zipParts
  rw [show (List.map (fun x : Nat × α => x.1) ((parts.toList.map (·.1)).zip ms)) = List.map Prod.fst ((parts.toList.map (·.1)).zip ms) from rfl, List.map_fst_zip]
  simp [h]
theorem zip_snd {α : Type} (parts : Array (Nat × Operand)) (ms : List α) (h : ms.length = parts.toList.length) : (zipParts parts ms).map (·.2) = ms := by
  unfold zipParts
  rw [show (List.map (fun x : Nat × α => x.2) ((parts.toList.map (·.1)).zip ms)) = List.map Prod.snd ((parts.toList.map (·.1)).zip ms) from rfl, List.map_snd_zip]
  simp [h]
theorem parts_fst (a : Act) (parts : Array (Nat × Operand)) : ((parts.map fun (i, x) => (i, a.eval x)).toList.map (·.1)) = parts.toList.map (·.1) := by simp
theorem parts_snd (a : Act) (parts : Array (Nat × Operand)) : ((parts.map fun (i, x) => (i, a.eval x)).toList.map (·.2)) = (parts.toList.map (·.2)).map a.eval := by simp

/-- An operation's run as a whole: a value, in whatever world. -/
def YieldsS (P : Program) (o : Oper) (a : Act) (G : Gh) (m : MV) : Prop := ∃ u, VR G m u ∧ ∀ w, SS G w → (execOp a.eval o).run P w = .ok (.value u) w
theorem YieldsS.of {o : Oper} {s : Sem Value} (hs : GivesS P s G m) (he : execOp a.eval o = (do pure (.value (← s)))) : YieldsS P o a G m := by
  obtain ⟨u, hu, hr⟩ := hs
  exact ⟨u, hu, fun w hw => by rw [he, Sem.run_bind, hr w hw]; rfl⟩

theorem vsil_ok (ht : TabOk P tab) (h : FR G n D e a) {o : Oper} (hv : vsil tab o e = some m) : YieldsS P o a G m := by
  unfold vsil at hv
  split at hv
  · rename_i x ho; exact ⟨_, h.ev hv, fun w _ => by simp [execOp, ho]⟩
  · rename_i x ho; exact ⟨_, h.ev hv, fun w _ => by simp [execOp, ho]⟩
  · rename_i c x y ho
    split at hv
    · rename_i t hc
      have hc' := h.ev hc
      have hcv : a.eval c = .bool t := hc'.v_inv
      split at hv
      · rename_i hb
        exact ⟨_, h.ev hv, fun w _ => by simp [execOp, ho, asBool, hcv, hb]⟩
      · rename_i hb
        exact ⟨_, h.ev hv, fun w _ => by simp [execOp, ho, asBool, hcv, hb]⟩
    · cases hv
  · rename_i x ho
    obtain ⟨p, h1, h2⟩ := Option.bind_eq_some_iff.1 hv
    have hp := h.ev h1
    generalize hu : a.eval x = u at hp
    unfold vnil at h2
    split at h2
    · injection h2 with h2; subst h2
      exact ⟨u, hp, fun w _ => by simp only [execOp, ho, hu]; cases hp; rfl⟩
    · injection h2 with h2; subst h2
      exact ⟨u, hp, fun w _ => by simp only [execOp, ho, hu]; cases hp; rfl⟩
    · injection h2 with h2; subst h2
      exact ⟨u, hp, fun w _ => by simp only [execOp, ho, hu]; cases hp; rfl⟩
    · cases h2
  · rename_i op t x y yt ho
    split at hv
    · rename_i p q h1 h2
      exact YieldsS.of (vbin_ok (xo := x) (yo := y) ht hv (h.ev h1) (h.ev h2)) (by simp [execOp, ho])
    · cases hv
  · rename_i op t x ho
    obtain ⟨p, h1, h2⟩ := Option.bind_eq_some_iff.1 hv
    exact YieldsS.of (vunary_ok h2 (h.ev h1)) (by simp [execOp, ho])
  · rename_i s d x ho
    obtain ⟨p, h1, h2⟩ := Option.bind_eq_some_iff.1 hv
    exact YieldsS.of (vconv_ok ht h2 (h.ev h1)) (by simp [execOp, ho])
  · rename_i t x f ho
    obtain ⟨p, h1, h2⟩ := Option.bind_eq_some_iff.1 hv
    exact YieldsS.of (vfieldAddr_ok ht h2 (h.ev h1)) (by simp [execOp, ho])
  · rename_i t x f ho
    obtain ⟨p, h1, h2⟩ := Option.bind_eq_some_iff.1 hv
    exact YieldsS.of (vfield_ok ht h2 (h.ev h1)) (by simp [execOp, ho])
  · rename_i t x i ho
    split at hv
    · rename_i p q h1 h2
      exact YieldsS.of (vindexAddr_ok ht hv (h.ev h1) (h.ev h2)) (by simp [execOp, ho])
    · cases hv
  · rename_i t x i ho
    split at hv
    · rename_i p q h1 h2
      exact YieldsS.of (vindex_ok ht hv (h.ev h1) (h.ev h2)) (by simp [execOp, ho])
    · cases hv
  · rename_i x i ho
    obtain ⟨p, h1, h2⟩ := Option.bind_eq_some_iff.1 hv
    exact YieldsS.of (vextract_ok h2 (h.ev h1)) (by simp [execOp, ho])
  · rename_i t x lo hi mx ho
    split at hv
    · rename_i p l hh h1 h2 h3
      exact YieldsS.of (vslice_ok ht hv (h.ev h1) (evo_ok h h2) (evo_ok h h3)) (by simp [execOp, ho])
    · rename_i p l hh y h1 h2 h3
      obtain ⟨q, h4, h5⟩ := Option.bind_eq_some_iff.1 hv
      have h6 := evo_ok h h3
      cases hi with
      | none => cases h3
      | some hi => exact YieldsS.of (vslice3_ok ht h5 (h.ev h1) (evo_ok h h2) h6 (h.ev h4)) (by simp [execOp, ho])
    · cases hv
  · rename_i t parts ho
    split at hv
    · rename_i ms h1
      have hl := evs_length h1
      have hl' : ms.length = parts.toList.length := by simpa using hl
      refine YieldsS.of (vbuild_ok ht hv (ps := parts.map fun (i, x) => (i, a.eval x)) ?_ ?_) (by simp [execOp, ho])
      · rw [zip_fst parts ms hl', parts_fst]
      · rw [zip_snd parts ms hl', parts_snd]; exact h.evs h1
    · cases hv
  · rename_i t x ho
    split at hv
    · rename_i cs off h1
      exact YieldsS.of (vloadc_ok ht hv (h.ev h1)) (by simp [execOp, ho])
    · cases hv
  · rename_i fn fs cs ho
    split at hv
    · rename_i p q h1 h2
      injection hv with hv; subst hv
      have e1 := h.evs h1
      have e2 := h.evs h2
      refine ⟨.func fn (fs.toList.map a.eval).toArray (cs.toList.map a.eval).toArray, .func e1.1 e1.2 e2.1 e2.2, fun w _ => ?_⟩
      have f1 : fs.map a.eval = (fs.toList.map a.eval).toArray := by apply Array.ext'; simp
      have f2 : cs.map a.eval = (cs.toList.map a.eval).toArray := by apply Array.ext'; simp
      simp only [execOp, ho, Instr.makeFunc, f1, f2]; rfl
    · cases hv
  · rename_i t x ho
    split at hv
    · cases hv
    · rename_i d p hne hd h1
      injection hv with hv; subst hv
      have hun := under_of ht hd
      refine YieldsS.of (s := Instr.makeInterface t (a.eval x)) (GivesS.of (u := .iface t (a.eval x)) (fun w _ => ?_) (.iface (h.ev h1))) (by simp [execOp, ho])
      simp only [Instr.makeInterface, Sem.run_bind, run_underlying hun, Result.andThen_ok]
      cases d <;> first
        | rfl
        | (rename_i ms; exact absurd hd (hne ms))
    · cases hv
  · rename_i c ho
    split at hv
    · rename_i x t hc hargs htys
      obtain ⟨p, h1, h2⟩ := Option.bind_eq_some_iff.1 hv
      have ha : c.args = #[x] := by apply Array.ext'; exact hargs
      have hty : c.argTypes = #[t] := by apply Array.ext'; exact htys
      exact YieldsS.of (vlen_ok (ty := o.type) ht h2 (h.ev h1)) (by simp [execOp, ho, resolve, hc, ha, hty, invoke, builtin])
    · rename_i x y hc hargs
      split at hv
      · rename_i p q h1 h2
        have ha : c.args = #[x, y] := by apply Array.ext'; exact hargs
        exact YieldsS.of (vmax2_ok (ts := c.argTypes) (ty := o.type) hv (h.ev h1) (h.ev h2)) (by simp [execOp, ho, resolve, hc, ha, invoke, builtin])
      · cases hv
    · rename_i x y hc hargs
      split at hv
      · rename_i p q h1 h2
        have ha : c.args = #[x, y] := by apply Array.ext'; exact hargs
        exact YieldsS.of (vmin2_ok (ts := c.argTypes) (ty := o.type) hv (h.ev h1) (h.ev h2)) (by simp [execOp, ho, resolve, hc, ha, invoke, builtin])
      · cases hv
    · rename_i x hc hargs
      obtain ⟨p, h1, h2⟩ := Option.bind_eq_some_iff.1 hv
      have ha : c.args = #[x] := by apply Array.ext'; exact hargs
      exact YieldsS.of (vsdata_ok (ts := c.argTypes) (ty := o.type) h2 (h.ev h1)) (by simp [execOp, ho, resolve, hc, ha, invoke, builtin])
    · cases hv
  · cases hv
end
end Go.Proofs.YtjbpnhmjnkolbaaDoor
