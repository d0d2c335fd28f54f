/-
  THE VALUE MACHINE, 18: a walk reckoned by rewriting alone. 'WL', 'WC' say what is to be shown of a row of operations, of a piece of code, so that each rewriting step is an equation; what rewriting cannot do stands still under a name (CallW, CondW, a VL, a VC).
-/
import Derived.Test.YtjbpnhmjnkolbaaDoorVf
import Derived.Laws.Externs
set_option linter.unusedVariables false
set_option linter.unusedSimpArgs false
namespace Go.Proofs.YtjbpnhmjnkolbaaDoor
open Go.RowKit

section
variable {n : Nat} {D : List Deferred} {e e' : Env} {P : Program} {tab : Tab} {O O' : VH} {m m' : MV} {ops : Array Oper} {Q : VQ} {md : Md}

/-- Where a run stops whatever is known. -/
def stopB : Op → Bool
  | .call c => match c.callee with
    | .value _ => true
    | .builtin .append => true
    | _ => false
  | _ => false
def fkB : Fl → Bool
  | .fk => true
  | _ => false
/-- A call of a Go function, its arguments reckoned. -/
def CallE (P : Program) (n : Nat) (Q : VQ) (d : Option Tmp) (O : VH) (K : Env → VH → Prop) (e : Env) (fv : Option MV) (ms : Option (List MV)) : Prop :=
  ∃ id fs cs l R, fv = some (.func (.func id) fs cs) ∧ ms = some l ∧ Enters P id ∧ dstB n d = true ∧ VF P id (fs ++ l ++ cs) O R ∧ ∀ r O', R r O' → match r with
    | .ret m => K (putM d m e) O'
    | .panic m => Q (.panic m) [] O'
/-- What a function without a body gives. -/
def ExtOk (P : Program) (id : FuncId) (l : List MV) (O : VH) (M : MV → VH → Prop) : Prop :=
  ∀ G w vs, WR G O w → VRs G l vs → ∃ m O' u w' H, M m O' ∧ (callFunc id vs.toArray).run P w = .ok (.value u) w' ∧ Gh.Le G H ∧ WR H O' w' ∧ VR H m u
def isPlain : Md → Bool
  | .plain => true
  | _ => false
def CallX (P : Program) (n : Nat) (md : Md) (d : Option Tmp) (O : VH) (K : Env → VH → Prop) (e : Env) (fv : Option MV) (ms : Option (List MV)) : Prop :=
  ∃ id l M, isPlain md = true ∧ fv = some (.func (.func id) [] []) ∧ ms = some l ∧ dstB n d = true ∧ ExtOk P id l O M ∧ ∀ m O', M m O' → K (putM d m e) O'
def CallW (P : Program) (n : Nat) (md : Md) (Q : VQ) (d : Option Tmp) (O : VH) (K : Env → VH → Prop) (e : Env) (fv : Option MV) (ms : Option (List MV)) : Prop :=
  CallE P n Q d O K e fv ms ∨ CallX P n md d O K e fv ms
def StopW (P : Program) (n : Nat) (D : List Deferred) (md : Md) (ops : Array Oper) (Q : VQ) (f : Fl) (o : Oper) (L : List (Fl × Oper)) (e : Env) (O : VH) (K : Env → VH → Prop) : Prop :=
  match f, o.op with
  | .one, .call c => match c.callee with
    | .value x => CallW P n md Q o.dst O K e (ev e x) (evs e c.args.toList)
    | _ => VL P n D md ops ((f, o) :: L) e O Q
  | _, _ => VL P n D md ops ((f, o) :: L) e O Q
theorem VL.ext {o : Oper} {c : Call} {x : Operand} {id : FuncId} {ms : List MV} {M : MV → VH → Prop} {L : List (Fl × Oper)} (hg : vguard ops o e = some true) (hop : o.op = .call c) (hc : c.callee = .value x) (hf : ev e x = some (.func (.func id) [] [])) (hm : evs e c.args.toList = some ms) (hd : dstB n o.dst = true)
    (hx : ExtOk P id ms O M) (h : ∀ m O', M m O' → VL P n D .plain ops L (putM o.dst m e) O' Q) : VL P n D .plain ops ((.one, o) :: L) e O Q := by
  intro fuel listed ix hfit hp
  match ix, hfit with
  | (i, g) :: ix, hfit =>
    obtain ⟨rfl, ho, hfit⟩ := hfit
    intro G a w hw hfr
    have hfv := hfr.ev hf
    generalize hfe : a.eval x = fv at hfv
    cases hfv with
    | func h1 h2 h3 h4 =>
      rename_i us vs
      have hus : us = [] := List.eq_nil_of_length_eq_zero h1
      have hvs : vs = [] := List.eq_nil_of_length_eq_zero h3
      subst hus; subst hvs
      have hargs := hfr.evs hm
      obtain ⟨m, O', u, w', H, hM, hr, g1, g2, g3⟩ := hx G w _ hw hargs
      have hrun : (execOp a.eval o).run P w = .ok (.value u) w' := by
        have ha : #[] ++ c.args.map a.eval ++ #[] = (c.args.toList.map a.eval).toArray := by apply Array.ext'; simp
        simp only [execOp, hop, resolve, hc, hfe, Deferred.ofValue, Sem.run_bind, Sem.run_pure, Result.andThen_ok, invoke]
        rw [ha]; exact hr
      simp only [List.map_cons, wpOps, ho, vguard_ok hfr hg, if_true]
      refine .inl ?_
      unfold Oper.wp
      rw [hrun]
      exact wpOps_imp (fun _ _ _ => VPost.le g1) (ix.map (·.1)) _ _ (h m O' hM 0 #[] ix hfit (fun h => absurd rfl h) H (a.put o.dst u) w' g2 ((hfr.mono g1).putM hd g3))
theorem StopW.sound {f : Fl} {o : Oper} {L : List (Fl × Oper)} {K : Env → VH → Prop} (hK : ∀ e O, K e O → VL P n D md ops L e O Q) (hg : vguard ops o e = some true) (h : StopW P n D md ops Q f o L e O K) : VL P n D md ops ((f, o) :: L) e O Q := by
  obtain ⟨d, op, ty, ps, af, g⟩ := o
  cases f with
  | one =>
    cases op with
    | call c =>
      obtain ⟨cl, as, ts⟩ := c
      cases cl with
      | value x =>
        rcases h with h | h
        · obtain ⟨id, fs, cs, l, R, h1, h2, h3, h4, h5, h6⟩ := h
          refine VL.call hg h1 h2 rfl h3 h4 h5 fun r O' hr => ?_
          have := h6 r O' hr
          cases r with
          | ret m => exact hK _ _ this
          | panic m => exact this
        · obtain ⟨id, l, M, hp, h1, h2, h3, h4, h5⟩ := h
          cases md with
          | plain => exact VL.ext hg rfl rfl h1 h2 h3 h4 fun m O' hM => hK _ _ (h5 m O' hM)
          | _ => cases hp
      | _ => exact h
    | _ => exact h
  | _ => exact h
def WL (P : Program) (tab : Tab) (n : Nat) (D : List Deferred) (md : Md) (ops : Array Oper) (Q : VQ) : List (Fl × Oper) → Env → VH → Prop
  | [], e, O => Q .normal e O
  | (f, o) :: L, e, O => match vguard ops o e with
    | none => False
    | some false => (match dstB n o.dst && !fkB f with
      | true => WL P tab n D md ops Q L (putM o.dst undefM e) O
      | false => False)
    | some true => (match stopB o.op || fkB f with
      | true => StopW P n D md ops Q f o L e O (WL P tab n D md ops Q L)
      | false => (match vopF tab f o e O with
        | none => VL P n D md ops ((f, o) :: L) e O Q
        | some (m, O') => (match dstB n o.dst with
          | true => WL P tab n D md ops Q L (putM o.dst m e) O'
          | false => False)))
theorem WL.sound (ht : TabOk P tab) : ∀ {L : List (Fl × Oper)} {e : Env} {O : VH}, WL P tab n D md ops Q L e O → VL P n D md ops L e O Q
  | [], e, O, h => VL.nil h
  | (f, o) :: L, e, O, h => by
    rw [WL] at h
    split at h
    · exact h.elim
    · rename_i hg
      split at h
      · rename_i hd
        simp only [Bool.and_eq_true, Bool.not_eq_true'] at hd
        exact VL.skip (by rintro rfl; exact absurd hd.2 (by decide)) hg hd.1 (WL.sound ht h)
      · exact h.elim
    · rename_i hg
      split at h
      · exact StopW.sound (fun e O h => WL.sound ht h) hg h
      · split at h
        · exact h
        · split at h
          · exact VL.step ht hg ‹_› ‹_› (WL.sound ht h)
          · exact h.elim
/-- What is to be shown of a piece of code. -/
def CondW (P : Program) (n : Nat) (tab : Tab) (D : List Deferred) (A B : Env → VH → VQ → Prop) (e : Env) (O : VH) (Q : VQ) : Option MV → Prop
  | some (.v (.bool true)) => A e O Q
  | some (.v (.bool false)) => B e O Q
  | _ => False
def WC (P : Program) (tab : Tab) (n : Nat) (D : List Deferred) : Code → Env → VH → VQ → Prop
  | .skip, e, O, Q => Q .normal e O
  | .exit i, e, O, Q => Q (.exit i) e O
  | .label _, e, O, Q => Q .normal e O
  | .ret, e, O, Q => Q .ret e O
  | .scope c, e, O, Q => WC P tab n D c e O (ScopeQ Q)
  | .block id c, e, O, Q => WC P tab n D c e O (BlockQ id Q)
  | .seq a b, e, O, Q => WC P tab n D a e O fun x e O => match x with
    | .normal => WC P tab n D b e O Q
    | x => Q x e O
  | .cond c x y, e, O, Q => CondW P n tab D (WC P tab n D x) (WC P tab n D y) e O Q (ev e c)
  | .region id ops false, e, O, Q => WL P tab n D .plain ops Q (ops.toList.map (Fl.one, ·)) e O
  | c, e, O, Q => VC P n D c e O Q
theorem WC.sound (ht : TabOk P tab) : ∀ {c : Code} {e : Env} {O : VH} {Q : VQ}, WC P tab n D c e O Q → VC P n D c e O Q := by
  intro c
  induction c with
  | skip => intro e O Q h; exact VC.skip h
  | exit i => intro e O Q h; exact VC.exit h
  | label l => intro e O Q h; exact VC.label h
  | ret => intro e O Q h; exact VC.ret h
  | scope c ih => intro e O Q h; exact VC.scope (ih h)
  | block id c ih => intro e O Q h; exact VC.block' (ih h)
  | seq a b iha ihb =>
    intro e O Q h
    refine VC.seq (VC.mono ?_ (iha h))
    intro x e O hx
    cases x <;> first | exact ihb hx | exact hx
  | cond c x y ihx ihy =>
    intro e O Q h
    simp only [WC] at h
    unfold CondW at h
    split at h
    · rename_i he; exact VC.condT he (ihx h)
    · rename_i he; exact VC.condF he (ihy h)
    · exact h.elim
  | region id ops dr =>
    intro e O Q h
    cases dr with
    | true => exact h
    | false => obtain ⟨l⟩ := ops; exact VC.plainL (WL.sound ht h)
  | loop c ih => intro e O Q h; exact h
  | _ => intro e O Q h; exact h
def SeqW (K : Env → VH → Prop) (Q : VQ) : VQ := fun x e O => match x with
  | .normal => K e O
  | x => Q x e O
/-- A function's end: which slots or cells hold its results. -/
def vres (tab : Tab) (e : Env) (O : VH) : List ResultVar → Option (List MV)
  | [] => some []
  | r :: rs => (vresult tab e O r).bind fun m => (vres tab e O rs).map (m :: ·)
def RetW (R : VRes → VH → Prop) (O : VH) : Option (List MV) → Prop
  | none => False
  | some [m] => R (.ret m) O
  | some l => R (.ret (.tuple l)) O
def EndW (tab : Tab) (rs : List ResultVar) (R : VRes → VH → Prop) : VQ := fun x e O => match x with
  | .normal => RetW R O (vres tab e O rs)
  | .ret => RetW R O (vres tab e O rs)
  | .panic m => R (.panic m) O
  | _ => False
theorem vres_eq (rs : List ResultVar) : vres tab e O rs = rs.mapM (vresult tab e O) := by
  induction rs with
  | nil => rfl
  | cons r rs ih =>
    rw [vres, ih, List.mapM_cons]
    simp only [Option.bind_eq_bind]
    cases vresult tab e O r with
    | none => rfl
    | some m => simp only [Option.bind_some]; cases List.mapM (vresult tab e O) rs <;> rfl
theorem VF.ofW (ht : TabOk P tab) {f : FuncId} {fn : Func} {c : Code} {args : List MV} {rs : List ResultVar} {R : VRes → VH → Prop} (hf : P.funcs[f]? = some fn) (hb : fn.body = some c) (hk : fn.ntmps = n) (hr : fn.results.toList = rs) (hn : args.length ≤ n)
    (h : WC P tab n [] c (argEnv 0 args) O (EndW tab rs R)) : VF P f args O R := by
  subst hk
  refine VF.enter ht hf hb hn (VC.mono ?_ (WC.sound ht h))
  intro x e O hx
  have key : RetW R O (vres tab e O rs) → ∃ m, vresults tab fn e O = some m ∧ R (.ret m) O := fun h => by
    unfold vresults
    rw [hr, ← vres_eq]
    generalize vres tab e O rs = z at h
    unfold RetW at h
    split at h
    · exact h.elim
    · exact ⟨_, rfl, h⟩
    · rename_i l hl
      refine ⟨.tuple l, ?_, h⟩
      match l, hl with
      | [], _ => rfl
      | [m], hl => exact absurd rfl (hl m)
      | _ :: _ :: _, _ => rfl
  cases x <;> first | exact key hx | exact hx

/-! ### Its equations -/
def W3 (P : Program) (tab : Tab) (n : Nat) (D : List Deferred) (md : Md) (ops : Array Oper) (Q : VQ) (L : List (Fl × Oper)) (e : Env) (O : VH) : Bool → Prop
  | true => WL P tab n D md ops Q L e O
  | false => False
def W2 (P : Program) (tab : Tab) (n : Nat) (D : List Deferred) (md : Md) (ops : Array Oper) (Q : VQ) (f : Fl) (o : Oper) (L : List (Fl × Oper)) (e : Env) (O : VH) : Option (MV × VH) → Prop
  | some (m, O') => W3 P tab n D md ops Q L (putM o.dst m e) O' (dstB n o.dst)
  | none => VL P n D md ops ((f, o) :: L) e O Q
def W1 (P : Program) (tab : Tab) (n : Nat) (D : List Deferred) (md : Md) (ops : Array Oper) (Q : VQ) (f : Fl) (o : Oper) (L : List (Fl × Oper)) (e : Env) (O : VH) : Bool → Option Bool → Prop
  | _, none => False
  | true, some true => StopW P n D md ops Q f o L e O (WL P tab n D md ops Q L)
  | false, some true => W2 P tab n D md ops Q f o L e O (vopF tab f o e O)
  | _, some false => W3 P tab n D md ops Q L (putM o.dst undefM e) O (dstB n o.dst && !fkB f)
section
variable {f : Fl} {o : Oper} {L : List (Fl × Oper)} {d : Option Tmp} {p : Op} {ty : TypeId} {ps : String} {af : Array Edge} {g : Option (Nat × Bool)} {b : Bool}
theorem WL_nil : WL P tab n D md ops Q [] e O = Q .normal e O := rfl
theorem WL_cons : WL P tab n D md ops Q ((f, .mk d p ty ps af g) :: L) e O = W1 P tab n D md ops Q f (.mk d p ty ps af g) L e O (stopB p || fkB f) (vguard ops (.mk d p ty ps af g) e) := by
  rw [WL]
  generalize vguard ops (.mk d p ty ps af g) e = x
  unfold W1
  cases x with
  | none => rfl
  | some b =>
    cases b with
    | false =>
      simp only
      unfold W3
      split <;> simp only
      all_goals (split <;> rename_i h <;> simp_all)
    | true =>
      simp only
      generalize (stopB p || fkB f) = y
      cases y with
      | true => rfl
      | false =>
        simp only
        unfold W2
        cases vopF tab f (.mk d p ty ps af g) e O with
        | none => rfl
        | some r => unfold W3; cases dstB n d <;> rfl
theorem W1_stop : W1 P tab n D md ops Q f o L e O true (some true) = StopW P n D md ops Q f o L e O (WL P tab n D md ops Q L) := rfl
theorem W1_go : W1 P tab n D md ops Q f o L e O false (some true) = W2 P tab n D md ops Q f o L e O (vopF tab f o e O) := rfl
theorem W1_skip : W1 P tab n D md ops Q f (.mk d p ty ps af g) L e O b (some false) = W3 P tab n D md ops Q L (putM d undefM e) O (dstB n d && !fkB f) := by cases b <;> rfl
theorem W2_some : W2 P tab n D md ops Q f (.mk d p ty ps af g) L e O (some (m, O')) = W3 P tab n D md ops Q L (putM d m e) O' (dstB n d) := rfl
theorem W2_none : W2 P tab n D md ops Q f o L e O none = VL P n D md ops ((f, o) :: L) e O Q := rfl
theorem W3_true : W3 P tab n D md ops Q L e O true = WL P tab n D md ops Q L e O := rfl
variable {K : Env → VH → Prop} {x : Operand} {as : Array Operand} {ts : Array TypeId}
theorem StopW_call : StopW P n D md ops Q .one (.mk d (.call { callee := .value x, args := as, argTypes := ts }) ty ps af g) L e O K = CallW P n md Q d O K e (ev e x) (evs e as.toList) := rfl
theorem StopW_append : StopW P n D md ops Q f (.mk d (.call { callee := .builtin .append, args := as, argTypes := ts }) ty ps af g) L e O K = VL P n D md ops ((f, .mk d (.call { callee := .builtin .append, args := as, argTypes := ts }) ty ps af g) :: L) e O Q := by cases f <;> rfl
end
section
variable {c a b : Code} {i id : Nat} {A B : Env → VH → VQ → Prop} {l : List Oper} {K : Env → VH → Prop} {R : VRes → VH → Prop} {rs : List ResultVar} {r : ResultVar} {t : Nat} {m1 m2 m3 : MV} {x : Operand} {y : Code}
theorem WC_skip : WC P tab n D .skip e O Q = Q .normal e O := rfl
theorem WC_exit : WC P tab n D (.exit i) e O Q = Q (.exit i) e O := rfl
theorem WC_label : WC P tab n D (.label i) e O Q = Q .normal e O := rfl
theorem WC_ret : WC P tab n D .ret e O Q = Q .ret e O := rfl
theorem WC_scope : WC P tab n D (.scope c) e O Q = WC P tab n D c e O (ScopeQ Q) := rfl
theorem WC_block : WC P tab n D (.block id c) e O Q = WC P tab n D c e O (BlockQ id Q) := rfl
/-- What comes behind. -/
def NextW (P : Program) (tab : Tab) (n : Nat) (D : List Deferred) (b : Code) (Q : VQ) : Env → VH → Prop := fun e O => WC P tab n D b e O Q
theorem NextW_eq : NextW P tab n D b Q e O = WC P tab n D b e O Q := rfl
theorem WC_seq : WC P tab n D (.seq a b) e O Q = WC P tab n D a e O (SeqW (NextW P tab n D b Q) Q) := rfl
theorem WC_cond : WC P tab n D (.cond x a b) e O Q = CondW P n tab D (WC P tab n D a) (WC P tab n D b) e O Q (ev e x) := rfl
theorem WC_region : WC P tab n D (.region id ⟨l⟩ false) e O Q = WL P tab n D .plain ⟨l⟩ Q (l.map (Fl.one, ·)) e O := rfl
theorem WC_drawn : WC P tab n D (.region id ops true) e O Q = VC P n D (.region id ops true) e O Q := rfl
theorem WC_loop : WC P tab n D (.loop c) e O Q = VC P n D (.loop c) e O Q := rfl
theorem SeqW_normal : SeqW K Q .normal e O = K e O := rfl
theorem SeqW_exit : SeqW K Q (.exit i) e O = Q (.exit i) e O := rfl
theorem SeqW_goto : SeqW K Q (.goto i) e O = Q (.goto i) e O := rfl
theorem SeqW_ret : SeqW K Q .ret e O = Q .ret e O := rfl
theorem SeqW_panic : SeqW K Q (.panic m) e O = Q (.panic m) e O := rfl
theorem CondW_t : CondW P n tab D A B e O Q (some (.v (.bool true))) = A e O Q := rfl
theorem CondW_f : CondW P n tab D A B e O Q (some (.v (.bool false))) = B e O Q := rfl
theorem CondW.two {b : Bool} (h1 : b = true → A e O Q) (h2 : b = false → B e O Q) : CondW P n tab D A B e O Q (some (.v (.bool b))) := by cases b <;> first | exact h1 rfl | exact h2 rfl
theorem vres_nil : vres tab e O [] = some [] := rfl
theorem vres_cons : vres tab e O (r :: rs) = (vresult tab e O r).bind fun m => (vres tab e O rs).map (m :: ·) := rfl
theorem vresult_tmp : vresult tab e O (.tmp t) = look e t := rfl
theorem vresult_cell {ty : TypeId} : vresult tab e O (.cell t ty) = (look e t).bind (vload tab O ty) := rfl
theorem RetW_0 : RetW R O (some []) = R (.ret (.tuple [])) O := rfl
theorem RetW_1 : RetW R O (some [m]) = R (.ret m) O := rfl
theorem RetW_2 : RetW R O (some [m, m1]) = R (.ret (.tuple [m, m1])) O := rfl
theorem RetW_3 : RetW R O (some [m, m1, m2]) = R (.ret (.tuple [m, m1, m2])) O := rfl
theorem RetW_4 : RetW R O (some [m, m1, m2, m3]) = R (.ret (.tuple [m, m1, m2, m3])) O := rfl
theorem EndW_normal : EndW tab rs R .normal e O = RetW R O (vres tab e O rs) := rfl
theorem EndW_ret : EndW tab rs R .ret e O = RetW R O (vres tab e O rs) := rfl
theorem EndW_panic : EndW tab rs R (.panic m) e O = R (.panic m) O := rfl
/-! ### Its rules -/
def callable (P : Program) (f : FuncId) : Bool := match P.funcs[f]? with
  | some fn => !(fn.name == "runtime.NumGoroutine") && fn.body.isSome
  | none => false
theorem Enters.ofB {f : FuncId} (h : callable P f = true) : Enters P f := by
  unfold callable at h
  split at h
  · rename_i fn hf
    simp only [Bool.and_eq_true, Bool.not_eq_true'] at h
    exact Enters.of hf h.1 (by cases hb : fn.body with | none => rw [hb] at h; exact absurd h.2 (by decide) | some c => rfl)
  · cases h
theorem CallW.rt {f : FuncId} {fs cs ms as : List MV} {d : Option Tmp} {Φ : MV → VH → Prop} (hR : VF P f as O (Ret Φ)) (hb : callable P f = true) (ha : fs ++ ms ++ cs = as) (hd : dstB n d = true) (h : ∀ m O', Φ m O' → K (putM d m e) O') :
    CallW P n md Q d O K e (some (.func (.func f) fs cs)) (some ms) := by
  subst ha
  exact .inl ⟨f, fs, cs, ms, _, rfl, rfl, Enters.ofB hb, hd, hR, fun r O' hr => by
    cases r with
    | ret m => exact h m O' hr
    | panic m => exact hr.elim⟩
/-- The same of a call that may panic. -/
theorem CallW.p {f : FuncId} {fs cs ms as : List MV} {d : Option Tmp} {R : VRes → VH → Prop} (hR : VF P f as O R) (hb : callable P f = true) (ha : fs ++ ms ++ cs = as) (hd : dstB n d = true) (h : ∀ m O', R (.ret m) O' → K (putM d m e) O') (h2 : ∀ m O', R (.panic m) O' → Q (.panic m) [] O') :
    CallW P n md Q d O K e (some (.func (.func f) fs cs)) (some ms) := by
  subst ha
  exact .inl ⟨f, fs, cs, ms, R, rfl, rfl, Enters.ofB hb, hd, hR, fun r O' hr => by
    cases r with
    | ret m => exact h m O' hr
    | panic m => exact h2 m O' hr⟩
theorem CallW.ext {f : FuncId} {ms : List MV} {d : Option Tmp} {M : MV → VH → Prop} (hx : ExtOk P f ms O M) (hd : dstB n d = true) (h : ∀ m O', M m O' → K (putM d m e) O') : CallW P n .plain Q d O K e (some (.func (.func f) [] [])) (some ms) :=
  .inr ⟨f, ms, M, rfl, rfl, rfl, hd, hx, h⟩
/-- A function without a body that reckons something of its arguments. -/
theorem ExtOk.of {f : FuncId} {fn : Func} {ex : Array Value → Sem Value} {ms : List MV} (hf : P.funcs[f]? = some fn) (hname : (fn.name == "runtime.NumGoroutine") = false) (hb : fn.body.isNone = true) (hn : Extern.findNext fn = none) (he : Extern.find fn = some ex)
    (hr : ∀ G w vs, WR G O w → VRs G ms vs → ∃ u, (ex vs.toArray).run P w = .ok u w ∧ VR G m u) : ExtOk P f ms O fun m' O' => m' = m ∧ O' = O := by
  intro G w vs hw hv
  obtain ⟨u, h1, h2⟩ := hr G w vs hw hv
  exact ⟨m, O, u, w, G, ⟨rfl, rfl⟩, by rw [run_callFunc_extern hf hname hb hn he, h1]; rfl, Gh.Le.refl G, hw, h2⟩
theorem WC.reads (ht : TabOk P tab) {id : Nat} {l : List Oper} (hm : P.follows .mixedOrders = true) (hs : Region.noSelect ⟨l⟩ = true) (hp : planOk .reads ⟨l⟩ l.length (Array.replicate l.length false) ((List.range' 0 l.length).map (·, Fl.rd)) = true)
    (h : WL P tab n D .reads ⟨l⟩ Q (l.map (Fl.rd, ·)) e O) : VC P n D (.region id ⟨l⟩ true) e O Q := VC.readsL hm hs hp (WL.sound ht h)
theorem WC.plan (ht : TabOk P tab) (md : Md) (ix : List (Nat × Fl)) {id : Nat} {l : List Oper} {L : List (Fl × Oper)} (hne : md ≠ .plain) (hm : P.follows .mixedOrders = true) (hs : Region.noSelect ⟨l⟩ = true) (hp : planOk md ⟨l⟩ l.length (Array.replicate l.length false) ix = true) (hL : pickL l ix = some L)
    (h : WL P tab n D md ⟨l⟩ Q L e O) : VC P n D (.region id ⟨l⟩ true) e O Q := VC.drawnL md ix hne hm hs hp hL (WL.sound ht h)
variable {σ : Type} {ls Ks : List Nat} {ks : List MV} {ms : σ → List MV} {I : σ → VH → Prop} {μ : σ → Nat} {s : σ}
theorem WC.loopK (ht : TabOk P tab) (ls Ks : List Nat) (ms : σ → List MV) (I : σ → VH → Prop) (μ : σ → Nat) (s0 : σ) (h0 : looks e ls = some (ms s0)) (hk : looks e Ks = some ks) (hI : I s0 O)
    (step : ∀ s O, I s O → WC P tab n D c (pairs ls (ms s) (pairs Ks ks [])) O (RoundQ ls Ks ks ms I μ s Q)) : VC P n D (.loop c) e O Q :=
  VC.loopK ls Ks ms I μ s0 h0 hk hI fun s O h => WC.sound ht (step s O h)
end
theorem VL.app (ht : TabOk P tab) {d : Option Tmp} {x y : Operand} {t ty : TypeId} {ps : String} {af : Array Edge} {g : Option (Nat × Bool)} {L : List (Fl × Oper)} {p q : MV} (hv : vappend tab O t p q = some (m, O')) (hx : ev e x = some p) (hy : ev e y = some q)
    (hg : vguard ops (.mk d (.call { callee := .builtin .append, args := #[x, y], argTypes := #[t, t] }) ty ps af g) e = some true) (hd : dstB n d = true) (h : WL P tab n D md ops Q L (putM d m e) O') :
    VL P n D md ops ((.one, .mk d (.call { callee := .builtin .append, args := #[x, y], argTypes := #[t, t] }) ty ps af g) :: L) e O Q :=
  VL.step ht hg (by rw [vopF_one, vop_append, hx, hy]; exact hv) hd (WL.sound ht h)
end
end Go.Proofs.YtjbpnhmjnkolbaaDoor
