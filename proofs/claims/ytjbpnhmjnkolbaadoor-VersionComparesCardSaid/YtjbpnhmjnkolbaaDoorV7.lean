/-
  THE VALUE MACHINE, 7: operations that read or write what may be written; the logic: 'VOps' a row of operations, 'VC' a piece of code, 'VF' a call.
-/
import Derived.Test.YtjbpnhmjnkolbaaDoorVm
import Derived.Scope
set_option linter.unusedVariables false
set_option linter.unusedSimpArgs false
namespace Go.Proofs.YtjbpnhmjnkolbaaDoor
open Go.RowKit

section
variable {G H : Gh} {n : Nat} {D : List Deferred} {e e' : Env} {a : Act} {P : Program} {tab : Tab} {O O' : VH} {w : World} {m m' : MV} {u v : Value}

/-- Of a block laid out as a strings.Builder the type is kept in mind. -/
def isBldB : List MV → Bool
  | [.v (.pointer none), .sl 0 [] .nil] => true
  | _ => false
def allocO (O : VH) (t : TypeId) (n : Nat) (z : List MV) : VH := bif isBldB z then (O.push (.cells z)).push (.shape O.next t n) else O.push (.cells z)
theorem WR.pushShape (h : WR G O w) {k b : Nat} {t : TypeId} {s : Nat} (hp : G.phi k = some b) (hs : w.shape? b = some (t, s)) : WR G (O.push (.shape k t s)) w := by
  have hne : ∀ {j x}, upd O.hp O.next (some (.shape k t s)) j = some x → (∀ k t n, x ≠ .shape k t n) → O.hp j = some x := fun {j x} hj hx => by
    by_cases e : j = O.next
    · subst e; rw [upd_same] at hj; injection hj with hj; exact absurd hj.symm (hx _ _ _)
    · rwa [upd_other _ _ e] at hj
  have hlv : ∀ j b, G.phi j = some b → upd O.hp O.next (some (.shape k t s)) j ≠ none → O.hp j ≠ none := fun j b hj hn => by
    rwa [upd_other _ _ (fun e => by subst e; rw [h.nextfree.1] at hj; cases hj)] at hn
  refine ⟨h.base, h.com, fun j hj => ?_, fun j c hj => ?_, fun i j c li lj hi hj => h.inj i j c (hlv i c hi li) (hlv j c hj lj) hi hj, fun j cs hj => h.cells j cs (hne hj (by simp)), fun j es ck hj => h.map j es ck (hne hj (by simp)), fun t ht => h.tok t (hne ht (by simp)), fun s t c x y hs ht => h.tinj s t c x y (hne hs (by simp)) (hne ht (by simp)), fun j k' t' n' hj => ?_⟩
  · have hj : O.next + 1 ≤ j := hj
    obtain ⟨h1, h2, h3⟩ := h.dom j (by omega)
    exact ⟨h1, h2, by show upd _ _ _ _ = _; rw [upd_other _ _ (by omega)]; exact h3⟩
  · obtain ⟨p1, p2, p3⟩ := h.plt j c hj
    exact ⟨p1, p2, fun hn => p3 (hlv j c hj hn)⟩
  · have hj : upd O.hp O.next (some (.shape k t s)) j = some (.shape k' t' n') := hj
    by_cases e : j = O.next
    · subst e; rw [upd_same] at hj; injection hj with hj; injection hj with e1 e2 e3; subst e1; subst e2; subst e3; exact ⟨b, hp, hs⟩
    · rw [upd_other _ _ e] at hj; exact h.shp j k' t' n' hj
def vloud (tab : Tab) (o : Oper) (e : Env) (O : VH) : Option (MV × VH) :=
  match o.op with
  | .load t x => (ev e x).bind fun p => (vload tab O t p).map (·, O)
  | .store t x y => match ev e x, ev e y with
    | some p, some q => (vstore tab O t p q).map (.tuple [], ·)
    | _, _ => none
  | .box _ x => (ev e x).map fun p => (.ptr O.next 0, O.push (.cells (mcells p)))
  | .alloc t => (tab t).map fun i => (.ptr O.next 0, allocO O t i.size i.zero)
  | .buildSlice t len parts => match evs e (parts.toList.map (·.2)) with
    | some ms => (vbuildSlice tab t len (zipParts parts ms)).map (·, O)
    | none => none
  | .makeSlice t l c => match ev e l, ev e c with
    | some p, some q => vmakeSlice tab O t p q
    | _, _ => none
  | .call c => match c.callee, c.args.toList, c.argTypes.toList with
    | .builtin .append, [x, y], [t, t'] => if t = t' then match ev e x, ev e y with
      | some p, some q => vappend tab O t p q
      | _, _ => none
      else none
    | .builtin .len, [x], [t] => (ev e x).bind fun p => (vmaplen tab O t p).map (·, O)
    | _, _, _ => none
  | .makeMap _ none => some (.map O.next, O.push (.map [] 0))
  | .lookup t x k ok => match ev e x, ev e k with
    | some p, some q => (vlookup tab O t p q ok).map (·, O)
    | _, _ => none
  | .mapUpdate t x k y => match ev e x, ev e k, ev e y with
    | some p, some q, some r => (vmapUpdate tab O t p q r).map (.tuple [], ·)
    | _, _, _ => none
  | .insert t x k y => match ev e x, ev e k, ev e y with
    | some p, some q, some r => (vmapUpdate tab O t p q r).map (.tuple [], ·)
    | _, _, _ => none
  | _ => none

/-- What turns nothing that is known by a number: it makes memory, or reads. -/
def opA : Op → Bool
  | .store .. | .mapUpdate .. | .insert .. => false
  | .call c => match c.callee with
    | .builtin _ => true
    | _ => false
  | _ => true
/-- An operation's run as a whole. -/
def Yields' (P : Program) (o : Oper) (a : Act) (w : World) (G : Gh) (m : MV) (O' : VH) : Prop :=
  ∃ nx w' H u, (execOp a.eval o).run P w = .ok nx w' ∧ (nx = .value u ∨ (nx = .skip ∧ u = undef)) ∧ Gh.Le G H ∧ WR H O' w' ∧ VR H m u ∧ (opA o.op = true → KeepB G w w')
theorem Yields'.of {o : Oper} {s : Sem Value} (hs : Gives P s w G O' m) (he : execOp a.eval o = (do pure (.value (← s)))) : Yields' P o a w G m O' := by
  obtain ⟨u, w', H, hr, h1, h2, h3, h4⟩ := hs
  exact ⟨.value u, w', H, u, by rw [he, Sem.run_bind, hr]; rfl, .inl rfl, h1, h2, h3, fun _ => h4⟩
theorem Yields'.ofU {o : Oper} {s : Sem Unit} (hs : GivesU P s w G O') (hA : opA o.op = false) (he : execOp a.eval o = (do s; pure .skip)) : Yields' P o a w G (.tuple []) O' := by
  obtain ⟨w', H, hr, h1, h2⟩ := hs
  exact ⟨.skip, w', H, undef, by rw [he, Sem.run_bind, hr]; rfl, .inr ⟨rfl, rfl⟩, h1, h2, VR.tuple (us := []) rfl (fun i c u h => by simp at h), fun h => by rw [hA] at h; cases h⟩

theorem vloud_ok (ht : TabOk P tab) (hw : WR G O w) (h : FR G n D e a) {o : Oper} (hv : vloud tab o e O = some (m, O')) : Yields' P o a w G m O' := by
  unfold vloud at hv
  split at hv
  · rename_i t x ho
    obtain ⟨p, h1, h2⟩ := Option.bind_eq_some_iff.1 hv
    obtain ⟨q, h3, h4⟩ := Option.map_eq_some_iff.1 h2
    simp only [Prod.mk.injEq] at h4
    obtain ⟨rfl, rfl⟩ := h4
    exact Yields'.of (vload_ok ht hw h3 (h.ev h1)) (by simp [execOp, ho])
  · rename_i t x y ho
    split at hv
    · rename_i p q h1 h2
      obtain ⟨O2, h3, h4⟩ := Option.map_eq_some_iff.1 hv
      simp only [Prod.mk.injEq] at h4
      obtain ⟨rfl, rfl⟩ := h4
      exact Yields'.ofU (vstore_ok ht hw h3 (h.ev h1) (h.ev h2)) (by rw [ho]; rfl) (by simp [execOp, ho])
    · cases hv
  · rename_i t x ho
    obtain ⟨p, h1, h2⟩ := Option.map_eq_some_iff.1 hv
    simp only [Prod.mk.injEq] at h2
    obtain ⟨rfl, rfl⟩ := h2
    exact Yields'.of (vbox_ok (t := t) hw (h.ev h1)) (by simp [execOp, ho])
  · rename_i t ho
    obtain ⟨i, h1, h2⟩ := Option.map_eq_some_iff.1 hv
    simp only [Prod.mk.injEq] at h2
    obtain ⟨rfl, rfl⟩ := h2
    obtain ⟨z, hz1, hz2, hz3⟩ := run_zero (ht t i h1) w
    have hr : (Instr.alloc t true (.tuple #[])).run P w = .ok (.pointer (some ⟨w.heap.size, 0, none⟩)) (w.alloc (.cells z.cells t)) := by
      simp only [Instr.alloc, Sem.run_bind, hz1, Result.andThen_ok]
      simp [newVar, newRow, newObj, Sem.run]
    obtain ⟨g1, g2⟩ := hw.push t (hz3 G)
    refine Yields'.of (s := Instr.alloc t true (.tuple #[])) ⟨_, _, _, hr, g1, ?_, .ptr (upd_same _ _ _), KeepB.alloc hw _⟩ (by simp [execOp, ho])
    unfold allocO
    cases isBldB i.zero with
    | false => exact g2
    | true =>
      refine g2.pushShape (upd_same _ _ _) ?_
      have : (w.alloc (.cells z.cells t)).heap[w.heap.size]? = some (.cells z.cells t) := by rw [heap_alloc_eq, if_pos rfl]
      simp only [World.shape?, this, hz2]
  · rename_i t len parts ho
    split at hv
    · rename_i ms h1
      obtain ⟨p, h2, h3⟩ := Option.map_eq_some_iff.1 hv
      simp only [Prod.mk.injEq] at h3
      obtain ⟨rfl, rfl⟩ := h3
      have hl' : ms.length = parts.toList.length := by simpa using evs_length h1
      refine Yields'.of (vbuildSlice_ok ht hw h2 (ps := parts.map fun (i, x) => (i, a.eval x)) ?_ ?_) (by simp [execOp, ho])
      · rw [zip_fst parts ms hl', parts_fst]
      · rw [zip_snd parts ms hl', parts_snd]; exact h.evs h1
    · cases hv
  · rename_i t l c ho
    split at hv
    · rename_i p q h1 h2
      exact Yields'.of (vmakeSlice_ok ht hw hv (h.ev h1) (h.ev h2)) (by simp [execOp, ho])
    · cases hv
  · rename_i c ho
    split at hv
    · rename_i x y t t' hc hargs htys
      split at hv
      · rename_i htt
        subst htt
        split at hv
        · rename_i p q h1 h2
          have ha : c.args = #[x, y] := by apply Array.ext'; exact hargs
          have hty : c.argTypes = #[t, t] := by apply Array.ext'; exact htys
          exact Yields'.of (vappend_ok (ty := o.type) ht hw hv (h.ev h1) (h.ev h2)) (by simp [execOp, ho, resolve, hc, ha, hty, invoke, builtin])
        · cases hv
      · cases hv
    · rename_i x t hc hargs htys
      obtain ⟨p, h1, h2⟩ := Option.bind_eq_some_iff.1 hv
      obtain ⟨q, h3, h4⟩ := Option.map_eq_some_iff.1 h2
      simp only [Prod.mk.injEq] at h4
      obtain ⟨rfl, rfl⟩ := h4
      have ha : c.args = #[x] := by apply Array.ext'; exact hargs
      have hty : c.argTypes = #[t] := by apply Array.ext'; exact htys
      exact Yields'.of (vmaplen_ok (ty := o.type) ht hw h3 (h.ev h1)) (by simp [execOp, ho, resolve, hc, ha, hty, invoke, builtin])
    · cases hv
  · rename_i t ho
    simp only [Option.some.injEq, Prod.mk.injEq] at hv
    obtain ⟨rfl, rfl⟩ := hv
    exact Yields'.of (vmakeMap_ok (t := t) hw) (by simp [execOp, ho])
  · rename_i t x k ok ho
    split at hv
    · rename_i p q h1 h2
      obtain ⟨r, h3, h4⟩ := Option.map_eq_some_iff.1 hv
      simp only [Prod.mk.injEq] at h4
      obtain ⟨rfl, rfl⟩ := h4
      obtain ⟨z, g1, g2⟩ := vlookup_ok (P := P) ht hw h3 (h.ev h1) (h.ev h2)
      exact Yields'.of (Gives.of hw g1 g2) (by simp [execOp, ho])
    · cases hv
  · rename_i t x k y ho
    split at hv
    · rename_i p q r h1 h2 h3
      obtain ⟨O2, h4, h5⟩ := Option.map_eq_some_iff.1 hv
      simp only [Prod.mk.injEq] at h5
      obtain ⟨rfl, rfl⟩ := h5
      exact Yields'.ofU (vmapUpdate_ok ht hw h4 (h.ev h1) (h.ev h2) (h.ev h3)) (by rw [ho]; rfl) (by simp [execOp, ho])
    · cases hv
  · rename_i t x k y ho
    split at hv
    · rename_i p q r h1 h2 h3
      obtain ⟨O2, h4, h5⟩ := Option.map_eq_some_iff.1 hv
      simp only [Prod.mk.injEq] at h5
      obtain ⟨rfl, rfl⟩ := h5
      exact Yields'.ofU (vmapUpdate_ok ht hw h4 (h.ev h1) (h.ev h2) (h.ev h3)) (by rw [ho]; rfl) (by simp [execOp, ho])
    · cases hv
  · cases hv

def vop (tab : Tab) (o : Oper) (e : Env) (O : VH) : Option (MV × VH) :=
  match vsil tab o e with
  | some m => some (m, O)
  | none => vloud tab o e O
theorem vop_ok (ht : TabOk P tab) (hw : WR G O w) (h : FR G n D e a) {o : Oper} (hv : vop tab o e O = some (m, O')) : Yields' P o a w G m O' := by
  unfold vop at hv
  split at hv
  · rename_i p hp
    simp only [Option.some.injEq, Prod.mk.injEq] at hv
    obtain ⟨rfl, rfl⟩ := hv
    obtain ⟨u, hu, hr⟩ := vsil_ok (P := P) ht h hp
    exact ⟨.value u, w, G, u, hr w hw.ss, .inl rfl, Gh.Le.refl G, hw, hu, fun _ => KeepB.refl _ _⟩
  · exact vloud_ok ht hw h hv

/-! ### The logic -/
inductive VX where
  | normal | exit (id : Nat) | goto (l : Nat) | ret | panic (m : MV)
def XR (G : Gh) : VX → Exit → Prop
  | .normal, .normal => True
  | .exit i, .exit j => i = j
  | .goto i, .goto j => i = j
  | .ret, .ret => True
  | .panic m, .panic c => ∃ u, c = [{ v := u, recovered := false }] ∧ VR G m u
  | _, _ => False
theorem XR.mono (h : G.Le H) {x : VX} {y : Exit} (r : XR G x y) : XR H x y := by
  cases x <;> cases y <;> simp only [XR] at r ⊢ <;> first
    | exact r
    | (obtain ⟨u, h1, h2⟩ := r; exact ⟨u, h1, h2.mono h⟩)
abbrev VQ := VX → Env → VH → Prop
/-- How the frame stands at an end: behind a panic nothing is known of the slots. -/
def FRX (G : Gh) (n : Nat) (D : List Deferred) : VX → Env → Act → Prop
  | .panic _, e, a => e = [] ∧ FR G n D [] a
  | _, e, a => FR G n D e a
def VPost (G : Gh) (n : Nat) (D : List Deferred) (Q : VQ) : Exit → Act → World → Prop := fun y a w => ∃ x e O H, Gh.Le G H ∧ WR H O w ∧ FRX H n D x e a ∧ XR H x y ∧ Q x e O
theorem VPost.le (h : G.Le H) {Q : VQ} {y : Exit} (hp : VPost H n D Q y a w) : VPost G n D Q y a w := by
  obtain ⟨x, e, O, K, h1, h2⟩ := hp
  exact ⟨x, e, O, K, h.trans h1, h2⟩
theorem VPost.mono {Q Q' : VQ} (hQ : ∀ x e O, Q x e O → Q' x e O) {y : Exit} (hp : VPost G n D Q y a w) : VPost G n D Q' y a w := by
  obtain ⟨x, e, O, K, h1, h2, h3, h4, h5⟩ := hp
  exact ⟨x, e, O, K, h1, h2, h3, h4, hQ _ _ _ h5⟩

/-- A row of operations, by their places. -/
def VOps (P : Program) (n : Nat) (D : List Deferred) (ops : Array Oper) (l : List Nat) (e : Env) (O : VH) (Q : VQ) : Prop :=
  ∀ G a w, WR G O w → FR G n D e a → wpOps P ops (VPost G n D Q) l a w
/-- A piece of code. -/
def VC (P : Program) (n : Nat) (D : List Deferred) (c : Code) (e : Env) (O : VH) (Q : VQ) : Prop :=
  ∀ G a w, WR G O w → FR G n D e a → c.wp P (VPost G n D Q) a w

def putM (d : Option Tmp) (m : MV) (e : Env) : Env := match d with
  | some d => (d, m) :: e
  | none => e
def dstB (n : Nat) (d : Option Tmp) : Bool := match d with
  | some d => decide (d < n)
  | none => true
theorem FR.putM (h : FR G n D e a) {d : Option Tmp} (hd : dstB n d = true) (hu : VR G m u) : FR G n D (putM d m e) (a.put d u) := by
  cases d with
  | none => exact h
  | some d => exact FR.put h (by simpa [dstB] using hd) hu
def vguard (ops : Array Oper) (o : Oper) (e : Env) : Option Bool :=
  match o.guard with
  | none => some true
  | some (j, want) => match (ops[j]?).bind (·.dst) with
    | some d => match look e d with
      | some (.v (.bool b)) => some (b == want)
      | some (.tuple []) => some false
      | _ => none
    | none => none
theorem vguard_ok (h : FR G n D e a) {ops : Array Oper} {o : Oper} {b : Bool} (hv : vguard ops o e = some b) : Region.wanted o (yielded ops a.tmps) = b := by
  unfold vguard at hv
  unfold Region.wanted
  split at hv
  · rename_i hg; injection hv with hv; rw [hg, ← hv]
  · rename_i j want hg
    rw [hg]
    split at hv
    · rename_i d hd
      split at hv
      · rename_i b' hl
        injection hv with hv
        obtain ⟨u, h1, h2⟩ := h.get d _ hl
        have := h2.v_inv
        subst this
        simp only [yielded, hd, Option.bind_some, h1]
        rw [← hv]
        cases b' <;> cases want <;> rfl
      · rename_i hl
        injection hv with hv
        obtain ⟨u, h1, h2⟩ := h.get d _ hl
        cases h2 with
        | tuple _ _ =>
          simp only [yielded, hd, Option.bind_some, h1]
          rw [← hv]
          rfl
      · cases hv
    · cases hv
def undefM : MV := .tuple []
theorem undef_ok : VR G undefM undef := VR.tuple (us := []) rfl fun i c u h => by simp at h

theorem VOps.nil {ops : Array Oper} {Q : VQ} (h : Q .normal e O) : VOps P n D ops [] e O Q := fun G a w hw hf => ⟨.normal, e, O, G, Gh.Le.refl G, hw, hf, trivial, h⟩
theorem wpOps_imp {ops : Array Oper} {Q Q' : Exit → Act → World → Prop} (hQ : ∀ y a w, Q y a w → Q' y a w) : ∀ (l : List Nat) (a : Act) (w : World), wpOps P ops Q l a w → wpOps P ops Q' l a w := by
  intro l
  induction l with
  | nil => intro a w h; exact hQ _ _ _ h
  | cons i rest ih =>
    intro a w h
    rw [wpOps_cons] at h ⊢
    have h1 := wpOp_mono (K' := wpOps P ops Q' rest) ih h
    unfold wpOp at h1 ⊢
    split
    · rename_i ho; simp only [ho] at h1; exact h1
    · rename_i o ho
      simp only [ho] at h1
      split
      · rename_i hwn
        simp only [hwn, if_true] at h1
        refine h1.imp (fun h2 => ?_) (fun ⟨h2, a', w', h3⟩ => ⟨h2, a', w', hQ _ _ _ h3⟩)
        unfold Oper.wp at h2 ⊢
        generalize (execOp a.eval o).run P w = r at *
        cases r with
        | ok nx w' =>
          cases nx <;> simp only [Oper.upon] at h2 ⊢ <;> first
            | exact h2
            | (refine Calls.mono h2 fun x w'' he => ?_
               cases x with
               | returned v => exact he
               | panicked c => exact hQ _ _ _ he
               | outgrown => obtain ⟨a', w', h3⟩ := he; exact ⟨a', w', hQ _ _ _ h3⟩)
        | halt x w' => cases x <;> simp only [Oper.upon] at h2 ⊢ <;> first | exact h2 | exact hQ _ _ _ h2
      · rename_i hwn
        simp only [hwn] at h1; exact h1
theorem VOps.mono {ops : Array Oper} {l : List Nat} {Q Q' : VQ} (hQ : ∀ x e O, Q x e O → Q' x e O) (h : VOps P n D ops l e O Q) : VOps P n D ops l e O Q' :=
  fun G a w hw hf => wpOps_imp (fun _ _ _ => VPost.mono hQ) l a w (h G a w hw hf)

theorem VOps.step (ht : TabOk P tab) {ops : Array Oper} {i : Nat} {l : List Nat} {o : Oper} {Q : VQ} (ho : ops[i]? = some o) (hg : vguard ops o e = some true) (hv : vop tab o e O = some (m, O')) (hd : dstB n o.dst = true)
    (h : VOps P n D ops l (putM o.dst m e) O' Q) : VOps P n D ops (i :: l) e O Q := by
  intro G a w hw hf
  obtain ⟨nx, w', H, u, hr, hnx, h1, h2, h3, _⟩ := vop_ok (P := P) ht hw hf hv
  simp only [wpOps, ho, vguard_ok hf hg, if_true]
  refine .inl ?_
  unfold Oper.wp
  rw [hr]
  have hk : wpOps P ops (VPost G n D Q) l (a.put o.dst u) w' := by
    exact wpOps_imp (fun _ _ _ => VPost.le h1) l _ _ (h H (a.put o.dst u) w' h2 ((hf.mono h1).putM hd h3))
  rcases hnx with rfl | ⟨rfl, rfl⟩
  · exact hk
  · exact hk
theorem VOps.skip {ops : Array Oper} {i : Nat} {l : List Nat} {o : Oper} {Q : VQ} (ho : ops[i]? = some o) (hg : vguard ops o e = some false) (hd : dstB n o.dst = true)
    (h : VOps P n D ops l (putM o.dst undefM e) O Q) : VOps P n D ops (i :: l) e O Q := by
  intro G a w hw hf
  simp only [wpOps, ho, vguard_ok hf hg, Bool.false_eq_true, if_false]
  exact h G _ w hw (hf.putM hd undef_ok)

/-! ### Calls -/
inductive VRes where
  | ret (m : MV) | panic (m : MV)
def ER (G : Gh) : VRes → Ending → Prop
  | .ret m, .returned v => VR G m v
  | .panic m, .panicked c => ∃ u, c = [{ v := u, recovered := false }] ∧ VR G m u
  | _, _ => False
def VF (P : Program) (f : FuncId) (args : List MV) (O : VH) (R : VRes → VH → Prop) : Prop :=
  ∀ G w vs, WR G O w → VRs G args vs → Calls P f vs.toArray w fun x w' => ∃ r O' H, Gh.Le G H ∧ WR H O' w' ∧ ER H r x ∧ R r O'
theorem VF.mono {f : FuncId} {args : List MV} {R R' : VRes → VH → Prop} (hR : ∀ r O, R r O → R' r O) (h : VF P f args O R) : VF P f args O R' :=
  fun G w vs hw hv => (h G w vs hw hv).mono fun _ _ ⟨r, O', H, h1, h2, h3, h4⟩ => ⟨r, O', H, h1, h2, h3, hR _ _ h4⟩
/-- The call of a function with a body. -/
def Enters (P : Program) (f : FuncId) : Prop := ∀ args w, (callFunc f args).run P w = .ok (.enter f args) w
theorem Enters.of {f : FuncId} {fn : Func} (hf : P.funcs[f]? = some fn) (hn : (fn.name == "runtime.NumGoroutine") = false) (hb : fn.body.isNone = false) : Enters P f := by
  intro args w
  have hn' : fn.name ≠ "runtime.NumGoroutine" := by simpa using hn
  have hb' : fn.body ≠ none := by intro h; rw [h] at hb; cases hb
  simp [callFunc, program, Sem.run, hf, hn', hb']

theorem VOps.call {ops : Array Oper} {i : Nat} {l : List Nat} {o : Oper} {Q : VQ} {c : Call} {f : Operand} {id : FuncId} {fs ms cs : List MV} {R : VRes → VH → Prop} (ho : ops[i]? = some o) (hg : vguard ops o e = some true) (hop : o.op = .call c) (hc : c.callee = .value f)
    (hf : ev e f = some (.func (.func id) fs cs)) (hm : evs e c.args.toList = some ms) (hE : Enters P id) (hd : dstB n o.dst = true) (hR : VF P id (fs ++ ms ++ cs) O R)
    (h : ∀ r O', R r O' → match r with
      | .ret m => VOps P n D ops l (putM o.dst m e) O' Q
      | .panic m => Q (.panic m) [] O') : VOps P n D ops (i :: l) e O Q := by
  intro G a w hw hfr
  have hfv := hfr.ev hf
  generalize hfe : a.eval f = fv at hfv
  cases hfv with
  | func h1 h2 h3 h4 =>
    rename_i us vs
    have hargs := hfr.evs hm
    have hall := VRs.append (VRs.append (show VRs G fs us from ⟨h1, h2⟩) hargs) (show VRs G cs vs from ⟨h3, h4⟩)
    have hrun : (execOp a.eval o).run P w = .ok (.enter id (us ++ c.args.toList.map a.eval ++ vs).toArray) w := by
      have ha : c.args.map a.eval = (c.args.toList.map a.eval).toArray := by apply Array.ext'; simp
      have : us.toArray ++ c.args.map a.eval ++ vs.toArray = (us ++ c.args.toList.map a.eval ++ vs).toArray := by apply Array.ext'; simp [ha]
      simp only [execOp, hop, resolve, hc, hfe, Deferred.ofValue, Sem.run_bind, Sem.run_pure, Result.andThen_ok, invoke, hE _ w]
      rw [this]
    simp only [wpOps, ho, vguard_ok hfr hg, if_true]
    refine .inl ?_
    unfold Oper.wp
    rw [hrun]
    show Calls P id _ w _
    refine (hR G w _ hw hall).mono ?_
    rintro x w' ⟨r, O', H, g1, g2, g3, g4⟩
    have hk := h r O' g4
    cases r with
    | ret m =>
      cases x with
      | returned v => exact wpOps_imp (fun _ _ _ => VPost.le g1) l _ _ (hk H _ w' g2 ((hfr.mono g1).putM hd g3))
      | panicked c => exact g3.elim
      | outgrown => exact g3.elim
    | panic m =>
      cases x with
      | returned v => exact g3.elim
      | panicked c => exact ⟨.panic m, [], O', H, g1, g2, ⟨rfl, (hfr.mono g1).less fun t x hx => by cases hx⟩, g3, hk⟩
      | outgrown => exact g3.elim

/-! ### Code -/
theorem VC.mono {c : Code} {Q Q' : VQ} (hQ : ∀ x e O, Q x e O → Q' x e O) (h : VC P n D c e O Q) : VC P n D c e O Q' :=
  fun G a w hw hf => wp_mono (h G a w hw hf) fun _ _ _ => VPost.mono hQ
/-- Less is known of the slots, and of the heap. -/
theorem VC.less {c : Code} {Q : VQ} (h : VC P n D c e' O' Q) (hl : ∀ t x, look e' t = some x → look e t = some x) (hn : O.next ≤ O'.next) (hh : ∀ k, O'.hp k = none ∨ O'.hp k = O.hp k) : VC P n D c e O Q :=
  fun G a w hw hf => h G a w (hw.forget hn hh) (hf.less hl)
theorem VC.env {c : Code} {Q : VQ} (h : VC P n D c e' O Q) (hl : ∀ t x, look e' t = some x → look e t = some x) : VC P n D c e O Q :=
  fun G a w hw hf => h G a w hw (hf.less hl)
theorem VC.skip {Q : VQ} (h : Q .normal e O) : VC P n D .skip e O Q := fun G a w hw hf => wp_skip ⟨.normal, e, O, G, Gh.Le.refl G, hw, hf, trivial, h⟩
theorem VC.exit {Q : VQ} {id : Nat} (h : Q (.exit id) e O) : VC P n D (.exit id) e O Q := fun G a w hw hf => wp_exit ⟨.exit id, e, O, G, Gh.Le.refl G, hw, hf, rfl, h⟩
theorem VC.label {Q : VQ} {l : Nat} (h : Q .normal e O) : VC P n D (.label l) e O Q := fun G a w hw hf => wp_label ⟨.normal, e, O, G, Gh.Le.refl G, hw, hf, trivial, h⟩
/-- A scope out of which nothing jumps. -/
def ScopeQ (Q : VQ) : VQ := fun x e O => match x with
  | .goto _ => False
  | x => Q x e O
theorem VC.scope {c : Code} {Q : VQ} (h : VC P n D c e O (ScopeQ Q)) : VC P n D (.scope c) e O Q := by
  intro G a w hw hf
  refine wp_scope_straight (wp_mono (h G a w hw hf) ?_)
  rintro y a' w' ⟨x, e', O', H, h1, h2, h3, h4, h5⟩
  cases y <;> cases x <;> first
    | exact False.elim h4
    | exact h5.elim
    | exact ⟨_, e', O', H, h1, h2, h3, h4, h5⟩
theorem VC.ret {Q : VQ} (h : Q .ret e O) : VC P n D .ret e O Q := fun G a w hw hf => wp_ret ⟨.ret, e, O, G, Gh.Le.refl G, hw, hf, trivial, h⟩
theorem VC.seq {c d : Code} {Q : VQ} (h : VC P n D c e O fun x e O => match x with
    | .normal => VC P n D d e O Q
    | x => Q x e O) : VC P n D (.seq c d) e O Q := by
  intro G a w hw hf
  refine wp_seq (wp_mono (h G a w hw hf) ?_)
  rintro y a' w' ⟨x, e', O', H, h1, h2, h3, h4, h5⟩
  cases y <;> cases x <;> first
    | exact False.elim h4
    | exact wp_mono (h5 H a' w' h2 h3) fun _ _ _ => VPost.le h1
    | exact ⟨_, e', O', H, h1, h2, h3, h4, h5⟩
theorem VC.cond {c : Operand} {x y : Code} {t : Bool} {Q : VQ} (hc : ev e c = some (.v (.bool t))) (h1 : t = true → VC P n D x e O Q) (h2 : t = false → VC P n D y e O Q) : VC P n D (.cond c x y) e O Q := by
  intro G a w hw hf
  have hcv : a.eval c = .bool t := (hf.ev hc).v_inv
  exact wp_cond_split hcv (fun ht => h1 ht G a w hw hf) (fun ht => h2 ht G a w hw hf)
theorem VC.block {c : Code} {id : Nat} {Q : VQ} (h : VC P n D c e O fun x e O => match x with
    | .exit i => if i = id then Q .normal e O else Q (.exit i) e O
    | x => Q x e O) : VC P n D (.block id c) e O Q := by
  intro G a w hw hf
  refine wp_block (wp_mono (h G a w hw hf) ?_)
  rintro y a' w' ⟨x, e', O', H, h1, h2, h3, h4, h5⟩
  cases y with
  | exit j =>
    cases x with
    | exit i =>
      obtain rfl : i = j := h4
      simp only [Exit.inBlock]
      simp only at h5
      split
      · rename_i hi; rw [if_pos hi] at h5; exact ⟨.normal, e', O', H, h1, h2, h3, trivial, h5⟩
      · rename_i hi; rw [if_neg hi] at h5; exact ⟨.exit i, e', O', H, h1, h2, h3, rfl, h5⟩
    | _ => exact False.elim h4
  | _ => cases x <;> first
    | exact False.elim h4
    | exact ⟨_, e', O', H, h1, h2, h3, h4, h5⟩
theorem rounds_mono {c : Code} {Q Q' : Exit → Act → World → Prop} (hQ : ∀ y a w, Q y a w → Q' y a w) : ∀ (k : Nat) (a : Act) (w : World), Code.rounds P c Q k a w → Code.rounds P c Q' k a w
  | 0, _, _, h => h.elim
  | k + 1, a, w, h => by
    rw [rounds_succ] at h ⊢
    refine wp_mono h fun y a' w' hy => ?_
    cases y <;> first
      | exact rounds_mono hQ k a' w' hy
      | exact hQ _ _ _ hy
theorem rounds_le {c : Code} {Q : Exit → Act → World → Prop} : ∀ (k j : Nat) (a : Act) (w : World), k ≤ j → Code.rounds P c Q k a w → Code.rounds P c Q j a w
  | 0, _, _, _, _, h => h.elim
  | k + 1, 0, _, _, hj, _ => absurd hj (by omega)
  | k + 1, j + 1, a, w, hj, h => by
    rw [rounds_succ] at h ⊢
    refine wp_mono h fun y a' w' hy => ?_
    cases y <;> first
      | exact rounds_le k j a' w' (by omega) hy
      | exact hy
/-- A loop: I, what holds at each round's head, with a number that each round lowers. -/
theorem VC.loop {c : Code} {Q : VQ} (I : Nat → Env → VH → Prop) {k : Nat} (h0 : I k e O) (h : ∀ k e O, I k e O → VC P n D c e O fun x e' O' => match x with
    | .normal => ∃ j, j < k ∧ I j e' O'
    | x => Q x e' O') : VC P n D (.loop c) e O Q := by
  intro G a w hw hf
  refine wp_loop_rounds (k + 1) ?_
  induction k using Nat.strongRecOn generalizing e O G a w with
  | _ k ih =>
    rw [rounds_succ]
    refine wp_mono (h k e O h0 G a w hw hf) ?_
    rintro y a' w' ⟨x, e', O', H, h1, h2, h3, h4, h5⟩
    cases y <;> cases x <;> first
      | exact False.elim h4
      | exact ⟨_, e', O', H, h1, h2, h3, h4, h5⟩
      | (obtain ⟨j, hj, hI⟩ := h5
         exact rounds_le (j + 1) k a' w' (by omega) (rounds_mono (fun _ _ _ => VPost.le h1) _ _ _ (ih j hj hI H a' w' h2 h3)))
theorem VC.region {id : Nat} {ops : Array Oper} {Q : VQ} (h : VOps P n D ops (List.range ops.size) e O Q) : VC P n D (.region id ops false) e O Q :=
  fun G a w hw hf => wp_region (h G a w hw hf)

/-! ### A function -/
def vresult (tab : Tab) (e : Env) (O : VH) : ResultVar → Option MV
  | .tmp t => look e t
  | .cell x t => (look e x).bind (vload tab O t)
def vresults (tab : Tab) (fn : Func) (e : Env) (O : VH) : Option MV :=
  match fn.results.toList.mapM (vresult tab e O) with
  | some [m] => some m
  | some l => some (.tuple l)
  | none => none
def resOne (tmps : Array Value) : ResultVar → Sem Value
  | .tmp t => pure (tmps.getD t undef)
  | .cell x t => do loadVar t (← asAddr (tmps.getD x undef))
theorem results_eq (fn : Func) (tmps : Array Value) : results fn tmps = (do let vs ← fn.results.mapM (resOne tmps); pure (if h : vs.size = 1 then vs[0] else .tuple vs)) := by
  unfold results
  congr 1
theorem vresult_ok (ht : TabOk P tab) (hw : WR G O w) (hf : FR G n D e a) : ∀ (l : List ResultVar) (ms : List MV), l.mapM (vresult tab e O) = some ms →
    ∃ us, (l.mapM (resOne a.tmps)).run P w = .ok us w ∧ VRs G ms us
  | [], ms, h => by simp at h; subst h; exact ⟨[], rfl, VRs.nil⟩
  | r :: l, ms, h => by
    simp only [List.mapM_cons, Option.bind_eq_bind, Option.bind_eq_some_iff] at h
    obtain ⟨m, h1, ms', h2, h3⟩ := h
    injection h3 with h3; subst h3
    obtain ⟨us, h4, h5⟩ := vresult_ok ht hw hf l ms' h2
    have one : ∃ u, (resOne a.tmps r).run P w = .ok u w ∧ VR G m u := by
      cases r with
      | tmp t => exact ⟨_, rfl, hf.ev (x := .tmp t) h1⟩
      | cell x t =>
        obtain ⟨p, h6, h7⟩ := Option.bind_eq_some_iff.1 h1
        have hp : VR G p (a.tmps.getD x undef) := hf.ev (x := .tmp x) h6
        simp only [resOne]
        generalize a.tmps.getD x undef = pv at hp ⊢
        have hshape : ∃ ad, pv = .pointer (some ad) := by
          have hc : ∃ cs off, cellsOf O p = some (cs, off) := by
            unfold vload at h7
            split at h7
            · exact ⟨_, _, ‹_›⟩
            · cases h7
          obtain ⟨cs, off, hc⟩ := hc
          obtain ⟨b, o, _, rfl, _⟩ := cellsOf_ok hw hp hc
          exact ⟨_, rfl⟩
        obtain ⟨ad, rfl⟩ := hshape
        obtain ⟨u, g1, g2⟩ := vload_run (P := P) ht hw h7 hp
        refine ⟨u, ?_, g2⟩
        simp only [asAddr, Sem.run_bind, Sem.run_pure, Result.andThen_ok]
        simpa [Instr.loadAt, Instr.sureAddr] using g1
    obtain ⟨u, g1, g2⟩ := one
    refine ⟨u :: us, ?_, VRs.cons g2 h5⟩
    rw [List.mapM_cons, Sem.run_bind, g1, Result.andThen_ok, Sem.run_bind, h4]
    rfl
theorem vresults_ok (ht : TabOk P tab) (hw : WR G O w) (hf : FR G n D e a) {fn : Func} (h : vresults tab fn e O = some m) : ∃ u, (results fn a.tmps).run P w = .ok u w ∧ VR G m u := by
  have hmap : ∀ ms, fn.results.toList.mapM (vresult tab e O) = some ms → ∃ us, (fn.results.mapM (resOne a.tmps)).run P w = .ok us.toArray w ∧ VRs G ms us := fun ms hm => by
    obtain ⟨us, h1, h2⟩ := vresult_ok (P := P) ht hw hf _ ms hm
    refine ⟨us, ?_, h2⟩
    rw [Array.mapM_eq_mapM_toList, ← bind_pure_comp, Sem.run_bind, h1]
    rfl
  unfold vresults at h
  rw [results_eq]
  split at h
  · rename_i p hp
    injection h with h; subst h
    obtain ⟨us, h1, h2⟩ := hmap _ hp
    obtain ⟨u, us', rfl, h3, h4⟩ := h2.inv_cons
    rw [h4.inv_nil] at h1
    exact ⟨u, by rw [Sem.run_bind, h1]; rfl, h3⟩
  · rename_i l hl hp
    injection h with h; subst h
    obtain ⟨us, h1, h2⟩ := hmap _ hp
    have hne : us.length ≠ 1 := fun h5 => by
      have := h2.1
      rw [h5] at this
      match l, this with
      | [x], _ => exact hl x rfl
    refine ⟨.tuple us.toArray, ?_, .tuple h2.1 h2.2⟩
    rw [Sem.run_bind, h1, Result.andThen_ok]
    simp [hne]
  · cases h

/-- The slots at a function's beginning. -/
def argEnv : Nat → List MV → Env
  | _, [] => []
  | k, m :: l => (k, m) :: argEnv (k + 1) l
theorem look_argEnv : ∀ (l : List MV) (k t : Nat), look (argEnv k l) t = if k ≤ t then l[t - k]? else none
  | [], k, t => by simp [argEnv, look]
  | m :: l, k, t => by
    simp only [argEnv, look]
    by_cases e : t = k
    · subst e; simp
    · have : (t == k) = false := by simpa using e
      rw [this, cond_false, look_argEnv l (k + 1) t]
      by_cases h : k ≤ t
      · rw [if_pos h, if_pos (by omega)]
        obtain ⟨j, hj⟩ : ∃ j, t - k = j + 1 := ⟨t - k - 1, by omega⟩
        rw [hj, show t - (k + 1) = j from by omega]
        rfl
      · rw [if_neg h, if_neg (by omega)]
/-- A call, by its body. -/
theorem VF.enter (ht : TabOk P tab) {f : FuncId} {fn : Func} {c : Code} {args : List MV} {R : VRes → VH → Prop} (hf : P.funcs[f]? = some fn) (hb : fn.body = some c) (hn : args.length ≤ fn.ntmps)
    (h : VC P fn.ntmps [] c (argEnv 0 args) O fun x e O' => match x with
      | .normal => ∃ m, vresults tab fn e O' = some m ∧ R (.ret m) O'
      | .ret => ∃ m, vresults tab fn e O' = some m ∧ R (.ret m) O'
      | .panic m => R (.panic m) O'
      | _ => False) : VF P f args O R := by
  intro G w vs hw hv
  refine calls_of_wp hf hb ?_
  have hfr : FR G fn.ntmps [] (argEnv 0 args) { tmps := vs.toArray ++ Array.replicate (fn.ntmps - vs.toArray.size) undef, defers := [] } := by
    have hl := hv.1
    refine ⟨rfl, by simp; omega, fun t x hx => ?_⟩
    rw [look_argEnv, if_pos (Nat.zero_le _), Nat.sub_zero] at hx
    obtain ⟨u, h1, h2⟩ := hv.get hx
    refine ⟨u, ?_, h2⟩
    have hlt := (List.getElem?_eq_some_iff.1 h1).1
    rw [Array.getElem?_append_left (by simpa using hlt)]
    simpa using h1
  refine wp_mono (h G _ w hw hfr) ?_
  rintro y a' w' ⟨x, e', O', H, h1, h2, h3, h4, h5⟩
  cases y with
  | normal =>
    cases x <;> first
      | exact False.elim h4
      | (obtain ⟨m, h6, h7⟩ := h5
         obtain ⟨u, h8, h9⟩ := vresults_ok (P := P) ht h2 h3 h6
         exact ⟨h3.defers, u, h8, .ret m, O', H, h1, h2, h9, h7⟩)
  | ret =>
    cases x <;> first
      | exact False.elim h4
      | (obtain ⟨m, h6, h7⟩ := h5
         obtain ⟨u, h8, h9⟩ := vresults_ok (P := P) ht h2 h3 h6
         exact ⟨h3.defers, u, h8, .ret m, O', H, h1, h2, h9, h7⟩)
  | panic c =>
    cases x <;> first
      | exact False.elim h4
      | exact ⟨h3.2.defers, .panic _, O', H, h1, h2, h4, h5⟩
  | exit i => cases x <;> first | exact False.elim h4 | exact h5.elim
  | goto i => cases x <;> first | exact False.elim h4 | exact h5.elim
  | outgrown => cases x <;> exact False.elim h4
end
end Go.Proofs.YtjbpnhmjnkolbaaDoor
