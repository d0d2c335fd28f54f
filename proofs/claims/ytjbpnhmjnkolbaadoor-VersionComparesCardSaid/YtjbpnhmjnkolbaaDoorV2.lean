/-
  THE VALUE MACHINE, 2: the operations. 'vop' reckons what an operation gives; 'vop_ok' says that the model's own run gives the like.
-/
import Derived.Test.YtjbpnhmjnkolbaaDoorV1
import Derived.Lib.Builder
set_option linter.unusedVariables false
set_option linter.unusedSimpArgs false
namespace Go.Proofs.YtjbpnhmjnkolbaaDoor
open Go.RowKit

/-- What is used of a type's row of the table. -/
structure TyI where
  under : TypeDesc
  size : Nat
  bytes : Nat
  zero : List MV

def isAggB : TypeDesc → Bool
  | .struct _ | .array _ _ => true
  | _ => false

structure TyOk (P : Program) (t : TypeId) (i : TyI) : Prop where
  under : P.underlying t = some i.under
  info : ∃ ti z, P.info? t = some ti ∧ ti.size = i.size ∧ ti.bytes = i.bytes ∧ ti.zero = some z ∧ z.cells.size = i.size ∧ ∀ G, VRs G i.zero z.cells.toList
  whole : ∀ ti z, P.info? t = some ti → ti.zero = some z → (isAggB i.under = true → ∃ cs, z = .agg cs) ∧ (isAggB i.under = false → z.cells = #[z])
abbrev Tab := TypeId → Option TyI
def TabOk (P : Program) (tab : Tab) : Prop := ∀ t i, tab t = some i → TyOk P t i

/-- A constant. -/
def ofConst : Value → Option MV
  | .string s => some (.str s.data.toList)
  | .slice none 0 0 => some (.sl 0 [] .nil)
  | x => if plain x then some (.v x) else none
theorem ofConst_ok {G : Gh} {x : Value} {m : MV} (h : ofConst x = some m) : VR G m x := by
  unfold ofConst at h
  split at h
  · injection h with h; subst h; rename_i s; obtain ⟨⟨l⟩⟩ := s; exact .str
  · injection h with h; subst h; exact .slnil
  · split at h
    · injection h with h; subst h; exact .v ‹_›
    · cases h

abbrev Env := List (Nat × MV)
def look : Env → Nat → Option MV
  | [], _ => none
  | (k, x) :: r, t => bif t == k then some x else look r t
def ev (e : Env) : Operand → Option MV
  | .tmp t => look e t
  | .const v => ofConst v
  | .global _ => none
  | .func f => some (.func (.func f) [] [])

/-- How a frame stands: n slots, the deferred calls D. -/
structure FR (G : Gh) (n : Nat) (D : List Deferred) (e : Env) (a : Act) : Prop where
  defers : a.defers = D
  size : a.tmps.size = n
  get : ∀ t x, look e t = some x → ∃ u, a.tmps[t]? = some u ∧ VR G x u
section
variable {G H : Gh} {n : Nat} {D : List Deferred} {e : Env} {a : Act} {P : Program} {tab : Tab} {O O' : VH} {w : World} {m : MV}
theorem FR.mono (h : FR G n D e a) (hl : G.Le H) : FR H n D e a := ⟨h.defers, h.size, fun t x hx => by obtain ⟨u, h1, h2⟩ := h.get t x hx; exact ⟨u, h1, h2.mono hl⟩⟩
theorem FR.ev (h : FR G n D e a) {x : Operand} (hx : ev e x = some m) : VR G m (a.eval x) := by
  cases x with
  | tmp t =>
    obtain ⟨u, h1, h2⟩ := h.get t m hx
    have : a.eval (.tmp t) = u := by
      show a.tmps.getD t undef = u
      rw [Array.getD_eq_getD_getElem?, h1]; rfl
    rw [this]; exact h2
  | const v => exact ofConst_ok hx
  | global g => cases hx
  | func f =>
    injection hx with hx; subst hx
    exact VR.func (us := []) (vs := []) rfl (fun i c u h => by simp at h) rfl (fun i c u h => by simp at h)
theorem FR.put (h : FR G n D e a) {d : Nat} {u : Value} (hd : d < n) (hu : VR G m u) : FR G n D ((d, m) :: e) (a.put (some d) u) := by
  refine ⟨h.defers, by simp [Act.put, h.size], fun t x hx => ?_⟩
  simp only [look] at hx
  by_cases e' : t = d
  · subst e'
    simp only [beq_self_eq_true, cond_true, Option.some.injEq] at hx
    subst hx
    exact ⟨u, by simp [Act.put, h.size, hd], hu⟩
  · have : (t == d) = false := by simpa using e'
    rw [this] at hx
    obtain ⟨u', h1, h2⟩ := h.get t x hx
    refine ⟨u', ?_, h2⟩
    simp only [Act.put]
    rw [Array.getElem?_setIfInBounds_ne (Ne.symm e')]; exact h1
/-- Less is known of the slots. -/
theorem FR.less (h : FR G n D e a) {e' : Env} (hl : ∀ t x, look e' t = some x → look e t = some x) : FR G n D e' a := ⟨h.defers, h.size, fun t x hx => h.get t x (hl t x hx)⟩

def evs (e : Env) (l : List Operand) : Option (List MV) := l.mapM (ev e)
theorem FR.evs (h : FR G n D e a) : ∀ {l : List Operand} {ms : List MV}, evs e l = some ms → VRs G ms (l.map a.eval)
  | [], ms, hx => by simp [Go.Proofs.YtjbpnhmjnkolbaaDoor.evs] at hx; subst hx; exact VRs.nil
  | x :: l, ms, hx => by
    simp only [Go.Proofs.YtjbpnhmjnkolbaaDoor.evs, List.mapM_cons, Option.bind_eq_bind, Option.bind_eq_some_iff] at hx
    obtain ⟨m, h1, ms', h2, h3⟩ := hx
    injection h3 with h3; subst h3
    exact VRs.cons (h.ev h1) (FR.evs h h2)

/-! ### The arithmetic -/
def vint (op : BinOp) (k : IntKind) (a b : Int) : Option MV :=
  match op with
  | .add => some (.v (.int k (k.wrap (a + b))))
  | .sub => some (.v (.int k (k.wrap (a - b))))
  | .mul => some (.v (.int k (k.wrap (a * b))))
  | .quo => if b = 0 then none else some (.v (.int k (k.wrap (a.tdiv b))))
  | .rem => if b = 0 then none else some (.v (.int k (a.tmod b)))
  | .eql => some (.v (.bool (a == b)))
  | .neq => some (.v (.bool (a != b)))
  | .lss => some (.v (.bool (decide (a < b))))
  | .leq => some (.v (.bool (decide (a ≤ b))))
  | .gtr => some (.v (.bool (decide (a > b))))
  | .geq => some (.v (.bool (decide (a ≥ b))))
  | .and => some (.v (.int k (k.wrap (BitVec.ofInt k.bits a &&& BitVec.ofInt k.bits b).toNat)))
  | .or => some (.v (.int k (k.wrap (BitVec.ofInt k.bits a ||| BitVec.ofInt k.bits b).toNat)))
  | .xor => some (.v (.int k (k.wrap (BitVec.ofInt k.bits a ^^^ BitVec.ofInt k.bits b).toNat)))
  | _ => none
def vshift (op : BinOp) (k : IntKind) (a b : Int) : Option MV :=
  if b < 0 then none else
  match op with
  | .shl => some (.v (.int k (k.wrap (a * 2 ^ (min b.toNat k.bits)))))
  | .shr => some (.v (.int k (a.fdiv (2 ^ (min b.toNat k.bits)))))
  | _ => none
def bytesLess := Op.bytesLess
def vstr (op : BinOp) (a b : List UInt8) : Option MV :=
  match op with
  | .add => if a.length + b.length ≤ 9223372036854775807 then some (.str (a ++ b)) else none
  | .eql => some (.v (.bool (a == b)))
  | .neq => some (.v (.bool (!(a == b))))
  | .lss => some (.v (.bool (Op.bytesLess a b)))
  | .leq => some (.v (.bool (Op.bytesLess a b || a == b)))
  | .gtr => some (.v (.bool (!(Op.bytesLess a b || a == b))))
  | .geq => some (.v (.bool (!(Op.bytesLess a b))))
  | _ => none
/-- Two pointers, held against one another: are they the same? -/
def vptr (tab : Tab) (op : BinOp) (t : TypeId) (same : Bool) : Option MV :=
  match ((tab t).map TyI.under : Option TypeDesc), op with
  | some (.pointer _), .eql => some (.v (.bool same))
  | some (.pointer _), .neq => some (.v (.bool (!same)))
  | _, _ => none
def vbin (tab : Tab) (op : BinOp) (t : TypeId) (x y : MV) : Option MV :=
  match x, y with
  | .v (.int k a), .v (.int k' b) =>
    match op with
    | .shl => vshift .shl k a b
    | .shr => vshift .shr k a b
    | op => if k = k' then vint op k a b else none
  | .v (.bool a), .v (.bool b) =>
    match ((tab t).map TyI.under : Option TypeDesc), op with
    | some .bool, .eql => some (.v (.bool (a == b)))
    | some .bool, .neq => some (.v (.bool (!(a == b))))
    | _, _ => none
  | .str a, .str b => vstr op a b
  | .v (.pointer none), .v (.pointer none) => vptr tab op t true
  | .ptr _ _, .v (.pointer none) => vptr tab op t false
  | .v (.pointer none), .ptr _ _ => vptr tab op t false
  | .cptr _ _, .v (.pointer none) => vptr tab op t false
  | .v (.pointer none), .cptr _ _ => vptr tab op t false
  | .ptr b o, .ptr b' o' => if b = b' ∧ o = o' then (match ((tab t).map TyI.under : Option TypeDesc) with
    | some (.pointer el) => match tab el with
      | some te => if te.size = 0 then none else vptr tab op t true
      | none => none
    | _ => none) else none
  | _, _ => none

theorem toList_mk (l : List UInt8) : (⟨⟨l⟩⟩ : ByteArray).toList = l := by
  rw [ByteArray.toList_eq]

theorem run_equal_bool {t : TypeId} (h : P.underlying t = some .bool) (a b : Bool) (w : World) : (Op.equal t (.bool a) (.bool b)).run P w = .ok (a == b) w := by
  show (Op.equalIn (9999 + 1) t (.bool a) (.bool b)).run P w = _
  generalize 9999 = d
  simp [Op.equalIn, run_underlying h]
/-- The cells that nobody writes any more hold what they held. -/
def SS (G : Gh) (w : World) : Prop := ∀ b o u, G.com b o = some u → w.cell? ⟨b, o, none⟩ = some u
theorem WR.ss (h : WR G O w) : SS G w := h.com
/-- What an operation gives in whatever world. -/
def GivesS (P : Program) (s : Sem Value) (G : Gh) (m : MV) : Prop := ∃ u, VR G m u ∧ ∀ w, SS G w → s.run P w = .ok u w
theorem GivesS.of {s : Sem Value} {u : Value} (hr : ∀ w, SS G w → s.run P w = .ok u w) (hu : VR G m u) : GivesS P s G m := ⟨u, hu, hr⟩
theorem under_of0 (ht : TabOk P tab) {t : TypeId} {d : TypeDesc} (h : (tab t).map TyI.under = some d) : P.underlying t = some d := by
  obtain ⟨i, hi, hu⟩ := Option.map_eq_some_iff.1 h
  rw [← hu]; exact (ht t i hi).under
theorem run_sz0 {t : TypeId} {i : TyI} (h : TyOk P t i) (w : World) : (sizeOf t).run P w = .ok i.size w := by
  obtain ⟨ti, z, h1, h2, _⟩ := h.info
  simp [sizeOf, typeInfo, h1, h2]
theorem vptr_ok (ht : TabOk P tab) {op : BinOp} {t : TypeId} {same : Bool} {p q : Option Addr} {xo yo : Operand} (h : vptr tab op t same = some m)
    (heq : ∀ el, P.underlying t = some (.pointer el) → ∀ (w : World) (d : Nat), (Op.equalIn (d + 1) t (.pointer p) (.pointer q)).run P w = .ok same w) : GivesS P (do eqGuard op t xo yo (.pointer p) (.pointer q); binOp op t (.pointer p) (.pointer q)) G m := by
  have hg : ∀ w, (eqGuard op t xo yo (.pointer p) (.pointer q)).run P w = .ok () w := fun w => by unfold eqGuard; split <;> simp
  unfold vptr at h
  split at h
  · rename_i el hu
    injection h with h; subst h
    refine GivesS.of (fun w _ => ?_) (.v rfl)
    rw [Sem.run_bind, hg, Result.andThen_ok]
    have := heq el (under_of0 ht hu) w 9999
    simp only [binOp, Op.equal, Op.maxDepth, Sem.run_bind, this, Result.andThen_ok, Sem.run_pure]
  · rename_i el hu
    injection h with h; subst h
    refine GivesS.of (fun w _ => ?_) (.v rfl)
    rw [Sem.run_bind, hg, Result.andThen_ok]
    have := heq el (under_of0 ht hu) w 9999
    simp only [binOp, Op.equal, Op.maxDepth, Sem.run_bind, this, Result.andThen_ok, Sem.run_pure]
  · cases h
theorem vbin_ok (ht : TabOk P tab) {op : BinOp} {t : TypeId} {x y : MV} {u v : Value} {xo yo : Operand} (h : vbin tab op t x y = some m) (hx : VR G x u) (hy : VR G y v) :
    GivesS P (do eqGuard op t xo yo u v; binOp op t u v) G m := by
  unfold vbin at h
  split at h
  · rename_i k a k' b
    cases hx; cases hy
    have hg : ∀ w, (eqGuard op t xo yo (.int k a) (.int k' b)).run P w = .ok () w := fun w => by unfold eqGuard; split <;> simp
    split at h
    · unfold vshift at h
      split at h
      · cases h
      · injection h with h; subst h
        exact GivesS.of (fun w _ => by rw [Sem.run_bind, hg, Result.andThen_ok]; simp [binOp, Op.shift, *]) (.v rfl)
    · unfold vshift at h
      split at h
      · cases h
      · injection h with h; subst h
        exact GivesS.of (fun w _ => by rw [Sem.run_bind, hg, Result.andThen_ok]; simp [binOp, Op.shift, *]) (.v rfl)
    · rename_i h1 h2
      split at h
      · subst k'
        cases op <;> simp only [vint] at h <;> first
          | (exact absurd rfl h1)
          | (exact absurd rfl h2)
          | (cases h; done)
          | (injection h with h; subst h; exact GivesS.of (fun w _ => by rw [Sem.run_bind, hg, Result.andThen_ok]; simp [binOp, Op.intArith, Op.intCmp, Op.intBits]) (.v rfl))
          | (split at h
             · cases h
             · injection h with h; subst h; exact GivesS.of (fun w _ => by rw [Sem.run_bind, hg, Result.andThen_ok]; simp [binOp, Op.intDiv, *]) (.v rfl))
      · cases h
  · rename_i a b
    cases hx; cases hy
    have hg : ∀ w, (eqGuard op t xo yo (.bool a) (.bool b)).run P w = .ok () w := fun w => by unfold eqGuard; split <;> simp
    split at h
    · rename_i hu
      obtain ⟨i, hi, hu⟩ := Option.map_eq_some_iff.1 hu
      have := (ht t i hi).under
      rw [hu] at this
      injection h with h; subst h
      exact GivesS.of (fun w _ => by rw [Sem.run_bind, hg, Result.andThen_ok]; simp only [binOp, Sem.run_bind, run_equal_bool this, Result.andThen_ok, Sem.run_pure]) (.v rfl)
    · rename_i hu
      obtain ⟨i, hi, hu⟩ := Option.map_eq_some_iff.1 hu
      have := (ht t i hi).under
      rw [hu] at this
      injection h with h; subst h
      exact GivesS.of (fun w _ => by rw [Sem.run_bind, hg, Result.andThen_ok]; simp only [binOp, Sem.run_bind, run_equal_bool this, Result.andThen_ok, Sem.run_pure]) (.v rfl)
    · cases h
  · rename_i a b
    cases hx
    rename_i e1; cases hy
    have hg : ∀ w, (eqGuard op t xo yo (.string ⟨⟨a⟩⟩) (.string ⟨⟨b⟩⟩)).run P w = .ok () w := fun w => by unfold eqGuard; split <;> simp
    cases op <;> simp only [vstr] at h <;> first
      | (cases h; done)
      | (injection h with h; subst h; exact GivesS.of (fun w _ => by rw [Sem.run_bind, hg, Result.andThen_ok]; simp [binOp, Op.stringOp, toList_mk]) (.v rfl))
      | (split at h
         · injection h with h; subst h
           refine GivesS.of (u := .string ⟨⟨a ++ b⟩⟩) (fun w _ => ?_) .str
           rw [Sem.run_bind, hg, Result.andThen_ok]
           have e : (⟨⟨a⟩⟩ : ByteArray) ++ ⟨⟨b⟩⟩ = ⟨⟨a ++ b⟩⟩ := ByteArray.ext (by simp)
           have hn : ¬ (((⟨⟨a⟩⟩ : ByteArray).size + (⟨⟨b⟩⟩ : ByteArray).size : Nat) : Int) > IntKind.i64.max := by
             show ¬ ((a.length + b.length : Nat) : Int) > _
             have : IntKind.i64.max = 9223372036854775807 := by decide
             omega
           simp only [binOp, Op.stringOp, if_neg hn, e, Sem.run_pure]
         · cases h)
  · rename_i hx' hy'
    cases hx; cases hy
    exact vptr_ok ht h (fun el hu w d => by simp [Op.equalIn, run_underlying hu])
  · cases hx; cases hy
    exact vptr_ok ht h (fun el hu w d => by simp [Op.equalIn, run_underlying hu])
  · cases hx; cases hy
    exact vptr_ok ht h (fun el hu w d => by simp [Op.equalIn, run_underlying hu])
  · cases hx; cases hy
    exact vptr_ok ht h (fun el hu w d => by simp [Op.equalIn, run_underlying hu])
  · cases hx; cases hy
    exact vptr_ok ht h (fun el hu w d => by simp [Op.equalIn, run_underlying hu])
  · rename_i b o b' o'
    split at h
    · rename_i hb
      obtain ⟨rfl, rfl⟩ := hb
      cases hx with
      | ptr h1 =>
        cases hy with
        | ptr h2 =>
          rw [h1] at h2
          injection h2 with h2
          subst h2
          split at h
          · rename_i el hu
            split at h
            · rename_i te he
              split at h
              · cases h
              · rename_i hz
                refine vptr_ok ht h (fun el' hu' w d => ?_)
                have hu2 := under_of0 ht hu
                rw [hu'] at hu2
                injection hu2 with hu2
                injection hu2 with hu2
                subst hu2
                simp [Op.equalIn, run_underlying hu', run_sz0 (ht _ te he), hz, run_sameAddr_same]
            · cases h
          · cases h
    · cases h
  · cases h

/-! ### What an operation gives -/
/-- Every block that is known by a number stands as it did. -/
def KeepB (G : Gh) (w w' : World) : Prop := ∀ k b, G.phi k = some b → w'.heap[b]? = w.heap[b]?
theorem KeepB.refl (G : Gh) (w : World) : KeepB G w w := fun _ _ _ => rfl
theorem KeepB.alloc (h : WR G O w) (o : Obj) : KeepB G w (w.alloc o) := fun k b hk => by
  have := (h.plt k b hk).2.1
  rw [heap_alloc_eq, if_neg (by omega)]
def Gives (P : Program) (s : Sem Value) (w : World) (G : Gh) (O' : VH) (m : MV) : Prop := ∃ u w' H, s.run P w = .ok u w' ∧ Gh.Le G H ∧ WR H O' w' ∧ VR H m u ∧ KeepB G w w'
def GivesU (P : Program) (s : Sem Unit) (w : World) (G : Gh) (O' : VH) : Prop := ∃ w' H, s.run P w = .ok () w' ∧ Gh.Le G H ∧ WR H O' w'
theorem GivesS.gives {s : Sem Value} (h : WR G O w) (hs : GivesS P s G m) : Gives P s w G O m := by
  obtain ⟨u, hu, hr⟩ := hs
  exact ⟨u, w, G, hr w h.ss, Gh.Le.refl G, h, hu, KeepB.refl _ _⟩
theorem Gives.of {s : Sem Value} {u : Value} (h : WR G O w) (hr : s.run P w = .ok u w) (hu : VR G m u) : Gives P s w G O m := ⟨u, w, G, hr, Gh.Le.refl G, h, hu, KeepB.refl _ _⟩

/-- A value, and the world as it was. -/
def Here (P : Program) (s : Sem Value) (w : World) (G : Gh) (m : MV) : Prop := ∃ u, s.run P w = .ok u w ∧ VR G m u
theorem Here.of {s : Sem Value} {u : Value} (hr : s.run P w = .ok u w) (hu : VR G m u) : Here P s w G m := ⟨u, hr, hu⟩
theorem run_ti {t : TypeId} {i : TyI} (h : TyOk P t i) (w : World) : ∃ ti, (typeInfo t).run P w = .ok ti w ∧ ti.size = i.size ∧ ti.bytes = i.bytes := by
  obtain ⟨ti, z, h1, h2, h3, _⟩ := h.info
  exact ⟨ti, by simp [typeInfo, h1], h2, h3⟩
theorem run_sz {t : TypeId} {i : TyI} (h : TyOk P t i) (w : World) : (sizeOf t).run P w = .ok i.size w := by
  obtain ⟨ti, h1, h2, _⟩ := run_ti h w
  rw [sizeOf, Sem.run_bind, h1, Result.andThen_ok, Sem.run_pure, h2]
theorem run_agg {t : TypeId} {i : TyI} (h : TyOk P t i) (w : World) : (isAgg t).run P w = .ok (isAggB i.under) w := by
  rw [isAgg, Sem.run_bind, run_underlying h.under, Result.andThen_ok]
  cases i.under <;> rfl
theorem run_zero {t : TypeId} {i : TyI} (h : TyOk P t i) (w : World) : ∃ z, (zeroValue t).run P w = .ok z w ∧ z.cells.size = i.size ∧ ∀ G, VRs G i.zero z.cells.toList := by
  obtain ⟨ti, z, h1, _, _, h4, h5, h6⟩ := h.info
  exact ⟨z, by simp [zeroValue, typeInfo, h1, h4], h5, h6⟩

def mcells : MV → List MV
  | .agg cs => cs
  | m => [m]
def leafB : MV → Bool
  | .agg _ | .tuple _ => false
  | _ => true
theorem mcells_ok {u : Value} (h : VR G m u) : VRs G (mcells m) u.cells.toList := by
  cases h with
  | agg h1 h2 => exact ⟨h1, h2⟩
  | v h1 =>
    have : u.cells = #[u] := by cases u <;> first | rfl | (simp [plain] at h1)
    rw [this]; exact VRs.cons (.v h1) VRs.nil
  | str => exact VRs.cons .str VRs.nil
  | ptr h1 => exact VRs.cons (.ptr h1) VRs.nil
  | cptr h1 h2 h3 => exact VRs.cons (.cptr h1 h2 h3) VRs.nil
  | slnil => exact VRs.cons .slnil VRs.nil
  | sl0 h1 => exact VRs.cons (.sl0 h1) VRs.nil
  | sl0n => exact VRs.cons .sl0n VRs.nil
  | sl h1 h2 h3 h4 h5 h6 => exact VRs.cons (.sl h1 h2 h3 h4 h5 h6) VRs.nil
  | asl h1 h2 h3 => exact VRs.cons (.asl h1 h2 h3) VRs.nil
  | map h1 => exact VRs.cons (.map h1) VRs.nil
  | func h1 h2 h3 h4 => exact VRs.cons (.func h1 h2 h3 h4) VRs.nil
  | iface h1 => exact VRs.cons (.iface h1) VRs.nil
  | tuple h1 h2 => exact VRs.cons (.tuple h1 h2) VRs.nil
theorem leaf_one {u : Value} (h : VR G m u) (hl : leafB m = true) : u.oneCell' = true := by
  cases h with
  | v h1 => cases u <;> first | rfl | (simp [plain] at h1)
  | agg h1 h2 => cases hl
  | tuple h1 h2 => cases hl
  | _ => rfl
theorem leafs_one {cs : List MV} {us : List Value} (h : VRs G cs us) (hl : cs.all leafB = true) : ∀ u ∈ us, u.oneCell' = true := by
  intro u hu
  obtain ⟨i, hi, rfl⟩ := List.mem_iff_getElem.1 hu
  have hc : i < cs.length := by rw [← h.1]; exact hi
  exact leaf_one (h.2 i cs[i] us[i] (List.getElem?_eq_getElem hc) (List.getElem?_eq_getElem hi)) (List.all_eq_true.1 hl _ (List.getElem_mem _))

/-- What lies from a cell on: a whole struct or array, or one cell. -/
def vcell (agg : Bool) (size : Nat) (cs : List MV) (off : Nat) : Option MV :=
  if agg then (if off + size ≤ cs.length then some (.agg ((cs.drop off).take size)) else none) else cs[off]?
/-- The cells behind an address. -/
def cellsOf (O : VH) : MV → Option (List MV × Nat)
  | .ptr k off => match O.hp k with
    | some (.cells cs) => some (cs, off)
    | _ => none
  | .cptr cs off => some (cs, off)
  | _ => none
theorem cellsOf_ok (h : WR G O w) {u : Value} {cs : List MV} {off : Nat} (hx : VR G m u) (hc : cellsOf O m = some (cs, off)) :
    ∃ b o us, u = .pointer (some ⟨b, o + off, none⟩) ∧ VRs G cs us ∧ ∀ i v, us[i]? = some v → w.cell? ⟨b, o + i, none⟩ = some v := by
  cases hx with
  | ptr h1 =>
    rename_i k off' b
    simp only [cellsOf] at hc
    split at hc
    · rename_i cs' hk
      injection hc with hc; injection hc with e1 e2; subst e1; subst e2
      obtain ⟨b', C, T, h2, h3, h4⟩ := h.cells k _ hk
      rw [h1] at h2; injection h2 with h2; subst h2
      refine ⟨b, 0, _, by simp, h4, fun i v hv => ?_⟩
      rw [List.getElem?_take] at hv
      split at hv
      · simp only [Nat.zero_add, World.cell?, h3, Option.isSome_none, Bool.false_eq_true, if_false]
        simpa using hv
      · cases hv
    · cases hc
  | cptr h1 h2 h3 =>
    simp only [cellsOf, Option.some.injEq, Prod.mk.injEq] at hc
    obtain ⟨rfl, rfl⟩ := hc
    exact ⟨_, _, _, rfl, ⟨h1, h3⟩, fun i v hv => h.com _ _ _ (h2 i v hv)⟩
  | _ => cases hc

def vload (tab : Tab) (O : VH) (t : TypeId) (m : MV) : Option MV :=
  match tab t, cellsOf O m with
  | some i, some (cs, off) => vcell (isAggB i.under) i.size cs off
  | _, _ => none
/-- The world x holds what w held, in all that is known. -/
def Sx (G : Gh) (w x : World) : Prop := SS G x ∧ KeepB G w x
theorem WR.sx (h : WR G O w) : Sx G w w := ⟨h.ss, KeepB.refl _ _⟩
theorem cellsOf_held (h : WR G O w) {u : Value} {cs : List MV} {off : Nat} (hx : VR G m u) (hc : cellsOf O m = some (cs, off)) :
    ∃ b o us, u = .pointer (some ⟨b, o + off, none⟩) ∧ VRs G cs us ∧ ∀ x, Sx G w x → ∀ i v, us[i]? = some v → x.cell? ⟨b, o + i, none⟩ = some v := by
  cases hx with
  | ptr h1 =>
    rename_i k off' b
    simp only [cellsOf] at hc
    split at hc
    · rename_i cs' hk
      injection hc with hc; injection hc with e1 e2; subst e1; subst e2
      obtain ⟨b', C, T, h2, h3, h4⟩ := h.cells k _ hk
      rw [h1] at h2; injection h2 with h2; subst h2
      refine ⟨b, 0, _, by simp, h4, fun x hs i v hv => ?_⟩
      have h3' := (hs.2 k b h1).trans h3
      rw [List.getElem?_take] at hv
      split at hv
      · simp only [Nat.zero_add, World.cell?, h3', Option.isSome_none, Bool.false_eq_true, if_false]
        simpa using hv
      · cases hv
    · cases hc
  | cptr h1 h2 h3 =>
    simp only [cellsOf, Option.some.injEq, Prod.mk.injEq] at hc
    obtain ⟨rfl, rfl⟩ := hc
    exact ⟨_, _, _, rfl, ⟨h1, h3⟩, fun x hs i v hv => hs.1 _ _ _ (h2 i v hv)⟩
  | _ => cases hc
theorem vload_held (ht : TabOk P tab) (h : WR G O w) {t : TypeId} {x m : MV} {u : Value} (hv : vload tab O t x = some m) (hx : VR G x u) : ∃ r, VR G m r ∧ ∀ y, Sx G w y → (Instr.loadAt t u).run P y = .ok r y := by
  unfold vload at hv
  split at hv
  · rename_i i cs off hi hc
    have hty := ht t i hi
    obtain ⟨b, o, us, rfl, hvs, hcell⟩ := cellsOf_held h hx hc
    simp only [Instr.loadAt, Instr.sureAddr, loadVar]
    unfold vcell at hv
    split at hv
    · rename_i hagg
      split at hv
      · rename_i hle
        injection hv with hv; subst hv
        have hvs' := (hvs.drop off).take i.size
        have hlen : ((us.drop off).take i.size).length = i.size := by simp [hvs.1]; omega
        refine ⟨_, .agg hvs'.1 hvs'.2, fun y hy => ?_⟩
        have hcells : ∀ j v, ((us.drop off).take i.size)[j]? = some v → y.cell? ((⟨b, o + off, none⟩ : Addr).add j) = some v := by
          intro j v hj
          rw [Addr.add_lit, Nat.add_assoc]
          rw [List.getElem?_take] at hj
          split at hj
          · rw [List.getElem?_drop] at hj; exact hcell y hy _ v hj
          · cases hj
        have hload := run_loadCells_list (P := P) y ⟨b, o + off, none⟩ _ hcells
        rw [hlen] at hload
        simp [run_agg hty, hagg, run_sz hty, hload]
      · cases hv
    · rename_i hagg
      obtain ⟨v, hv1, hv2⟩ := hvs.get hv
      exact ⟨v, hv2, fun y hy => by simp [run_agg hty, hagg, hcell y hy _ v hv1]⟩
  · cases hv
theorem vload_run (ht : TabOk P tab) (h : WR G O w) {t : TypeId} {x m : MV} {u : Value} (hv : vload tab O t x = some m) (hx : VR G x u) : Here P (Instr.loadAt t u) w G m := by
  obtain ⟨r, h1, h2⟩ := vload_held (P := P) ht h hv hx
  exact ⟨r, h2 w h.sx, h1⟩
theorem vload_ok (ht : TabOk P tab) (h : WR G O w) {t : TypeId} {x m : MV} {u : Value} (hv : vload tab O t x = some m) (hx : VR G x u) : Gives P (Instr.loadAt t u) w G O m := by
  obtain ⟨r, h1, h2⟩ := vload_run (P := P) ht h hv hx
  exact Gives.of h h1 h2

theorem vloadc_ok (ht : TabOk P tab) {t : TypeId} {cs : List MV} {off : Nat} {m : MV} {u : Value} (hv : vload tab O t (.cptr cs off) = some m) (hx : VR G (.cptr cs off) u) : GivesS P (Instr.loadAt t u) G m := by
  unfold vload at hv
  split at hv
  · rename_i i cs' off' hi hc
    simp only [cellsOf, Option.some.injEq, Prod.mk.injEq] at hc
    obtain ⟨rfl, rfl⟩ := hc
    have hty := ht t i hi
    cases hx with
    | cptr h1 h2 h3 =>
      rename_i us b o
      have hvs : VRs G cs us := ⟨h1, h3⟩
      simp only [Instr.loadAt, Instr.sureAddr, loadVar]
      unfold vcell at hv
      split at hv
      · rename_i hagg
        split at hv
        · rename_i hle
          injection hv with hv; subst hv
          have hvs' := (hvs.drop off).take i.size
          have hlen : ((us.drop off).take i.size).length = i.size := by simp [hvs.1]; omega
          have hcells : ∀ w, SS G w → ∀ j v, ((us.drop off).take i.size)[j]? = some v → w.cell? ((⟨b, o + off, none⟩ : Addr).add j) = some v := by
            intro w hw j v hj
            rw [Addr.add_lit, Nat.add_assoc]
            rw [List.getElem?_take] at hj
            split at hj
            · rw [List.getElem?_drop] at hj; exact hw _ _ _ (h2 _ v hj)
            · cases hj
          have hload : ∀ w, SS G w → (loadCells ⟨b, o + off, none⟩ i.size).run P w = .ok ((us.drop off).take i.size).toArray w := fun w hw => by
            have := run_loadCells_list (P := P) w ⟨b, o + off, none⟩ _ (hcells w hw)
            rwa [hlen] at this
          exact GivesS.of (fun w hw => by simp [run_agg hty, hagg, run_sz hty, hload w hw]) (.agg hvs'.1 hvs'.2)
        · cases hv
      · rename_i hagg
        obtain ⟨v, hv1, hv2⟩ := hvs.get hv
        exact GivesS.of (fun w hw => by simp [run_agg hty, hagg, hw _ _ _ (h2 _ v hv1)]) hv2
  · cases hv

def setMany (cs : List MV) (o : Nat) : List MV → List MV
  | [] => cs
  | x :: xs => setMany (cs.set o x) (o + 1) xs
theorem setMany_length : ∀ (xs : List MV) (cs : List MV) (o : Nat), (setMany cs o xs).length = cs.length
  | [], _, _ => rfl
  | x :: xs, cs, o => by simp [setMany, setMany_length xs]
theorem VH.set_set (O : VH) (k : Nat) (x y : VObj) : (O.set k x).set k y = O.set k y := by
  simp only [VH.set, VH.mk.injEq, true_and]
  funext j
  simp only [upd]
  cases Nat.beq j k <;> rfl
theorem VH.set_get (O : VH) (k : Nat) (x : VObj) : (O.set k x).hp k = some x := upd_same _ _ _
theorem VH.set_self {O : VH} {k : Nat} {x : VObj} (h : O.hp k = some x) : O.set k x = O := by
  obtain ⟨n, f⟩ := O
  simp only [VH.set, VH.mk.injEq, true_and]
  funext j
  by_cases e : j = k
  · subst e; rw [upd_same]; exact h.symm
  · exact upd_other _ _ e
theorem storeMany {k b : Nat} (hp : G.phi k = some b) (off : Nat) : ∀ (xs : List MV) (us : List Value) (i : Nat) (cs : List MV) (O : VH) (w : World), WR G O w → O.hp k = some (.cells cs) → VRs G xs us → xs.all leafB = true → off + i + xs.length ≤ cs.length →
    ∃ w', (storeCells ⟨b, off, none⟩ us i).run P w = .ok () w' ∧ WR G (O.set k (.cells (setMany cs (off + i) xs))) w'
  | [], us, i, cs, O, w, h, hk, hx, _, _ => by
    rw [hx.inv_nil]
    refine ⟨w, rfl, ?_⟩
    simp only [setMany]
    rw [VH.set_self hk]
    exact h
  | x :: xs, us, i, cs, O, w, h, hk, hx, hl, hle => by
    obtain ⟨u, us', rfl, h1, h2⟩ := hx.inv_cons
    simp only [List.all_cons, Bool.and_eq_true] at hl
    simp only [List.length_cons] at hle
    have hst := h.store (i := off + i) hk hp (by omega) h1
    obtain ⟨w', hr, hw⟩ := storeMany hp off xs us' (i + 1) (cs.set (off + i) x) _ _ hst (VH.set_get _ _ _) h2 hl.2 (by simp; omega)
    refine ⟨w', ?_, ?_⟩
    · obtain ⟨b', C, T, e1, e2, e3⟩ := h.cells k cs hk
      rw [hp] at e1; injection e1 with e1; subst e1
      have hlen : off + i < C.size := by have := e3.1; simp at this; omega
      have hcell : w.cell? ⟨b, off + i, none⟩ = some C[off + i] := by
        simp only [World.cell?, e2, Option.isSome_none, Bool.false_eq_true, if_false, Array.getElem?_eq_getElem hlen]
      have hfr : w.frozen? ⟨b, off + i, none⟩ = false := by
        obtain ⟨t', ⟨lo, hi⟩, hok⟩ := T
        dsimp only at e2 hok
        simp only [World.frozen?, e2, Bool.and_eq_false_imp, decide_eq_true_eq, decide_eq_false_iff_not]
        intro; omega
      rw [storeCells, Sem.run_bind]
      have : (store ((⟨b, off, none⟩ : Addr).add i) u).run P w = .ok () (w.setCell ⟨b, off + i, none⟩ u) := by
        rw [Addr.add_lit, run_store P w _ _ _ (leaf_one h1 hl.1), hcell]
        simp [hfr]
      rw [this, Result.andThen_ok]
      exact hr
    · rw [VH.set_set] at hw
      exact hw
def vstore (tab : Tab) (O : VH) (t : TypeId) (x y : MV) : Option VH :=
  match tab t, x with
  | some i, .ptr k off => match O.hp k with
    | some (.cells cs) => if (mcells y).length = i.size ∧ (mcells y).all leafB = true ∧ off + i.size ≤ cs.length then some (O.set k (.cells (setMany cs off (mcells y)))) else none
    | _ => none
  | _, _ => none
theorem vstore_ok (ht : TabOk P tab) (h : WR G O w) {t : TypeId} {x y : MV} {u v : Value} (hv : vstore tab O t x y = some O') (hx : VR G x u) (hy : VR G y v) : GivesU P (Instr.storeAt t u v) w G O' := by
  unfold vstore at hv
  split at hv
  · rename_i i k off hi
    have hty := ht t i hi
    split at hv
    · rename_i cs hk
      split at hv
      · rename_i hc
        injection hv with hv; subst hv
        cases hx with
        | ptr h1 =>
          have hm := mcells_ok hy
          obtain ⟨w', hr, hw⟩ := storeMany (P := P) h1 off (mcells y) v.cells.toList 0 cs O w h hk hm hc.2.1 (by omega)
          refine ⟨w', G, ?_, Gh.Le.refl G, by simpa using hw⟩
          have hs : v.cells.size = i.size := by rw [← Array.length_toList, hm.1]; exact hc.1
          simp [Instr.storeAt, Instr.sureAddr, storeVar, run_sz hty, hs, hr]
      · cases hv
    · cases hv
  · cases hv

/-- A new block. -/
theorem new_ok (h : WR G O w) {cs : List MV} {C : Array Value} {t : TypeId} (hc : VRs G cs C.toList) : Gives P (do pure (Value.pointer (some (← newRow t C)))) w G (O.push (.cells cs)) (.ptr O.next 0) := by
  obtain ⟨h1, h2⟩ := h.push t hc
  exact ⟨_, _, _, by simp [newRow, newObj, Sem.run], h1, h2, .ptr (upd_same _ _ _), KeepB.alloc h _⟩
theorem vbox_ok (h : WR G O w) {t : TypeId} {u : Value} (hu : VR G m u) : Gives P (Instr.box t u) w G (O.push (.cells (mcells m))) (.ptr O.next 0) := new_ok h (mcells_ok hu)
end
end Go.Proofs.YtjbpnhmjnkolbaaDoor
