/-
  Texts V8 V9 Va Vb, one behind the other.
-/
import Derived.Test.YtjbpnhmjnkolbaaDoorMB
/-
  THE VALUE MACHINE, 8: a region that draws its order.
-/
set_option linter.unusedVariables false
set_option linter.unusedSimpArgs false
namespace Go.Proofs.YtjbpnhmjnkolbaaDoor
open Go.RowKit

section
variable {G H : Gh} {n : Sz} {D : List Deferred} {e e' : Env} {a : Act} {P : Program} {tab : Tab} {O O' : VH} {w : World} {m m' : MV} {u v : Value} {ops : Array Oper} {Q : VQ}

/-- Whatever order is drawn from here on. -/
def VAny (P : Program) (n : Sz) (D : List Deferred) (ops : Array Oper) (fuel : Nat) (listed : Array Bool) (e : Env) (O : VH) (Q : VQ) : Prop :=
  ∀ G a w, WR G O w → FR G n D e a → wpAnyH P .any ops (VPost G n D Q) (SS G) fuel listed a w

theorem VC.draw {id : Nat} (hm : P.follows .mixedOrders = true) (h : VAny P n D ops ops.size (Array.replicate ops.size false) e O Q) : VC P n D (.region id ops true) e O Q :=
  fun G a w hw hf => wp_region_held (S := SS G) hm (h G a _ (hw.drawn _) hf)

theorem panic_put {d : Option Tmp} (hdn : dstB n d = true) {v : Value} (c : List PanicEntry) (a : Act) (w : World) (h : VPost G n D Q (.panic c) (a.put d v) w) : VPost G n D Q (.panic c) a w := by
  obtain ⟨x, e, O, H, h1, h2, h3, h4, h5⟩ := h
  cases x with
  | panic m =>
    obtain ⟨hlo, h3⟩ := h3
    have hd : a.defers = D := by
      have := h3.defers
      cases d <;> exact this
    have hz : a.tmps.size = n.n := by
      have := h3.size
      cases d with
      | none => exact this
      | some d => simpa [Act.put] using this
    refine ⟨.panic m, e, O, H, h1, h2, ⟨hlo, hd, hz, fun t x hx => ?_⟩, h4, h5⟩
    obtain ⟨u, g1, g2⟩ := h3.get t x hx
    refine ⟨u, ?_, g2⟩
    cases d with
    | none => exact g1
    | some d =>
      have ht := hlo t x hx
      have hdl : n.lo ≤ d := by simp [dstB] at hdn; exact hdn.1
      have hne : d ≠ t := fun e => Nat.lt_irrefl _ (Nat.lt_of_lt_of_le ht (e ▸ hdl))
      simpa [Act.put, hne] using g1
  | _ => exact False.elim h4

/-- An operation that is ready and silent may come first. -/
theorem VAny.silent (ht : TabOk P tab) {fuel i : Nat} {listed : Array Bool} {o : Oper} (ho : ops[i]? = some o) (hs : Region.noSelect ops = true) (hf : Region.free .any ops listed i = true) (hr : (Region.ready .any ops listed).contains i = true)
    (hg : vguard ops o e = some true) (hv : vsil tab o e = some m) (hd : dstB n o.dst = true) (h : VAny P n D ops fuel (listed.setIfInBounds i true) (putM o.dst m e) O Q) : VAny P n D ops (fuel + 1) listed e O Q := by
  intro G a w hw hfr
  obtain ⟨u, hu, hrun⟩ := vsil_ok (P := P) ht hfr hv
  exact wpAnyH_take ho hs hf hr (panic_put hd) (.inl ⟨vguard_ok hfr hg, hrun⟩) hw.ss (h G _ w hw (hfr.putM hd hu))
theorem VAny.skipped {fuel i : Nat} {listed : Array Bool} {o : Oper} (ho : ops[i]? = some o) (hs : Region.noSelect ops = true) (hf : Region.free .any ops listed i = true) (hr : (Region.ready .any ops listed).contains i = true)
    (hg : vguard ops o e = some false) (hd : dstB n o.dst = true) (h : VAny P n D ops fuel (listed.setIfInBounds i true) (putM o.dst undefM e) O Q) : VAny P n D ops (fuel + 1) listed e O Q := by
  intro G a w hw hfr
  exact wpAnyH_take ho hs hf hr (panic_put hd) (.inr ⟨vguard_ok hfr hg, rfl⟩) hw.ss (h G _ w hw (hfr.putM hd undef_ok))
theorem VAny.done {fuel : Nat} {listed : Array Bool} (hr : Region.ready .any ops listed = []) (h : Q .normal e O) : VAny P n D ops fuel listed e O Q :=
  fun G a w hw hfr => wpAnyH_done hr ⟨.normal, e, O, G, Gh.Le.refl G, hw, hfr, trivial, h⟩ fuel

theorem wpAnyH_imp {Q Q' : Exit → Act → World → Prop} {S S' : World → Prop} (hQ : ∀ y a w, Q y a w → Q' y a w) (hS : ∀ w, S w → S' w) : ∀ (fuel : Nat) (listed : Array Bool) (a : Act) (w : World), wpAnyH P .any ops Q S fuel listed a w → wpAnyH P .any ops Q' S' fuel listed a w := by
  intro fuel
  induction fuel with
  | zero => intro listed a w h; exact ⟨h.1, hQ _ _ _ h.2⟩
  | succ fuel ih =>
    intro listed a w h
    refine ⟨fun h0 => hQ _ _ _ (h.1 h0), fun i hi => ?_⟩
    have h1 := wpOp_mono (K' := fun a' w' => S' w' ∧ wpAnyH P .any ops Q' S' fuel (listed.setIfInBounds i true) a' w') (fun a' w' h' => ⟨hS _ h'.1, ih _ _ _ h'.2⟩) (h.2 i hi)
    unfold wpOp at h1 ⊢
    split
    · rename_i ho; simp only [ho] at h1; exact h1
    · rename_i o ho
      simp only [ho] at h1
      split
      · rename_i hwn
        simp only [hwn, if_true] at h1
        refine h1.imp (fun h2 => ?_) (fun ⟨h2, a', w', h3⟩ => ⟨h2, a', w', hQ _ _ _ h3⟩)
        unfold Oper.wp at h2 ⊢
        generalize (execOp a.eval o).run P w = r at *
        cases r with
        | ok nx w' =>
          cases nx <;> simp only [Oper.upon] at h2 ⊢ <;> first
            | exact h2
            | (refine Calls.mono h2 fun x w'' he => ?_
               cases x with
               | returned v => exact he
               | panicked c => exact hQ _ _ _ he
               | outgrown => obtain ⟨a', w', h3⟩ := he; exact ⟨a', w', hQ _ _ _ h3⟩)
        | halt x w' => cases x <;> simp only [Oper.upon] at h2 ⊢ <;> first | exact h2 | exact hQ _ _ _ h2
      · rename_i hwn
        simp only [hwn] at h1; exact h1
theorem SS.le (h : G.Le H) {w : World} (hs : SS H w) : SS G w := fun b o u hc => hs b o u (h.com hc)

/-- One operation of a region: what it gives, whichever rule says so. -/
def VOne (P : Program) (n : Sz) (D : List Deferred) (ops : Array Oper) (i : Nat) (e : Env) (O : VH) (Q : VQ) (K : Env → VH → Prop) : Prop :=
  ∀ G a w, WR G O w → FR G n D e a → wpOp P ops (VPost G n D Q) i (fun a' w' => ∃ e' O' H, Gh.Le G H ∧ WR H O' w' ∧ FR H n D e' a' ∧ K e' O') a w
theorem VOne.op (ht : TabOk P tab) {i : Nat} {o : Oper} {K : Env → VH → Prop} (ho : ops[i]? = some o) (hg : vguard ops o e = some true) (hv : vop tab o e O = some (m, O')) (hd : dstB n o.dst = true) (hk : K (putM o.dst m e) O') : VOne P n D ops i e O Q K := by
  intro G a w hw hfr
  obtain ⟨nx, w', H, u, hr, hnx, h1, h2, h3, _⟩ := vop_ok (P := P) ht hw hfr hv
  simp only [wpOp, ho, vguard_ok hfr hg, if_true]
  refine .inl ?_
  unfold Oper.wp
  rw [hr]
  have : ∃ e' O' H, Gh.Le G H ∧ WR H O' w' ∧ FR H n D e' (a.put o.dst u) ∧ K e' O' := ⟨_, _, H, h1, h2, (hfr.mono h1).putM hd h3, hk⟩
  rcases hnx with rfl | ⟨rfl, rfl⟩ <;> exact this
theorem VOne.call {i : Nat} {o : Oper} {c : Call} {f : Operand} {id : FuncId} {fs ms cs : List MV} {R : VRes → VH → Prop} {K : Env → VH → Prop} (ho : ops[i]? = some o) (hg : vguard ops o e = some true) (hop : o.op = .call c) (hc : c.callee = .value f)
    (hf : ev e f = some (.func (.func id) fs cs)) (hm : evs e c.args.toList = some ms) (hE : Enters P id) (hd : dstB n o.dst = true) (hR : VF P id (fs ++ ms ++ cs) O R)
    (h : ∀ r O', R r O' → match r with
      | .ret m => K (putM o.dst m e) O'
      | .panic m => Q (.panic m) (lowE n e) O') : VOne P n D ops i e O Q K := by
  intro G a w hw hfr
  have hfv := hfr.ev hf
  generalize hfe : a.eval f = fv at hfv
  cases hfv with
  | func h1 h2 h3 h4 =>
    rename_i us vs
    have hargs := hfr.evs hm
    have hall := VRs.append (VRs.append (show VRs G fs us from ⟨h1, h2⟩) hargs) (show VRs G cs vs from ⟨h3, h4⟩)
    have hrun : (execOp a.eval o).run P w = .ok (.enter id (us ++ c.args.toList.map a.eval ++ vs).toArray) w := by
      have ha : c.args.map a.eval = (c.args.toList.map a.eval).toArray := by apply Array.ext'; simp
      have : us.toArray ++ c.args.map a.eval ++ vs.toArray = (us ++ c.args.toList.map a.eval ++ vs).toArray := by apply Array.ext'; simp [ha]
      simp only [execOp, hop, resolve, hc, hfe, Deferred.ofValue, Sem.run_bind, Sem.run_pure, Result.andThen_ok, invoke, hE _ w]
      rw [this]
    simp only [wpOp, ho, vguard_ok hfr hg, if_true]
    refine .inl ?_
    unfold Oper.wp
    rw [hrun]
    show Calls P id _ w _
    refine (hR G w _ hw hall).mono ?_
    rintro x w' ⟨r, O', H, g1, g2, g3, g4⟩
    have hk := h r O' g4
    cases r with
    | ret m =>
      cases x with
      | returned v => exact ⟨_, _, H, g1, g2, (hfr.mono g1).putM hd g3, hk⟩
      | panicked c => exact g3.elim
      | outgrown => exact g3.elim
    | panic m =>
      cases x with
      | returned v => exact g3.elim
      | panicked c => exact ⟨.panic m, lowE n e, O', H, g1, g2, ⟨lowE_lt, (hfr.mono g1).less lowE_sub⟩, g3, hk⟩
      | outgrown => exact g3.elim
theorem VOps.one {i : Nat} {l : List Nat} (h : VOne P n D ops i e O Q fun e' O' => VOps P n D ops l e' O' Q) : VOps P n D ops (i :: l) e O Q := by
  intro G a w hw hfr
  rw [wpOps_cons]
  exact wpOp_mono (fun a' w' ⟨e', O', H, h1, h2, h3, h4⟩ => wpOps_imp (fun _ _ _ => VPost.le h1) l _ _ (h4 H a' w' h2 h3)) (h G a w hw hfr)
/-- Whichever of those that are ready comes up. -/
theorem VAny.all {fuel : Nat} {listed : Array Bool} {rs : List Nat} (hr : Region.ready .any ops listed = rs) (hne : rs ≠ [])
    (h : ∀ i ∈ rs, VOne P n D ops i e O Q fun e' O' => VAny P n D ops fuel (listed.setIfInBounds i true) e' O' Q) : VAny P n D ops (fuel + 1) listed e O Q := by
  intro G a w hw hfr
  refine wpAnyH_all hr hne fun i hi => ?_
  exact wpOp_mono (fun a' w' ⟨e', O', H, h1, h2, h3, h4⟩ => ⟨SS.le h1 h2.ss, wpAnyH_imp (fun _ _ _ => VPost.le h1) (fun _ => SS.le h1) fuel _ _ _ (h4 H a' w' h2 h3)⟩) (h i hi G a w hw hfr)
/-! ### Regions in which reads may come ahead of what makes memory -/
/-- Whatever order is picked from here on; behind operation j holds T j. -/
def wpAnyT (P : Program) (md : Region.Mode) (ops : Array Oper) (Q : Exit → Act → World → Prop) (T : Nat → World → Prop) : Nat → Array Bool → Act → World → Prop
  | 0, listed, a, w => Region.ready md ops listed = [] ∧ Q .normal a w
  | fuel + 1, listed, a, w =>
    (Region.ready md ops listed = [] → Q .normal a w) ∧
    ∀ i ∈ Region.ready md ops listed, wpOp P ops Q i (fun a' w' => T i w' ∧ wpAnyT P md ops Q T fuel (listed.setIfInBounds i true) a' w') a w
section
variable {md : Region.Mode} {Q : Exit → Act → World → Prop} {T : Nat → World → Prop}
theorem wpAny_of_T : ∀ (fuel : Nat) (listed : Array Bool) (a : Act) (w : World), wpAnyT P md ops Q T fuel listed a w → wpAny P md ops Q fuel listed a w
  | 0, _, _, _, h => h
  | fuel + 1, _, _, _, h => ⟨h.1, fun i hi => wpOp_mono (fun a' w' h' => wpAny_of_T fuel _ a' w' h'.2) (h.2 i hi)⟩
theorem wpAnyT_first {S : World → Prop} {W : Nat → Prop} {brk : Nat → Bool} {i : Nat} {oi : Oper} {v : Value} (hi : ops[i]? = some oi) (hsel : ∀ (j : Nat) (o : Oper) cs b, ops[j]? = some o → o.op ≠ .select cs b)
    (hQ : ∀ c a w, Q (.panic c) (a.put oi.dst v) w → Q (.panic c) a w) (hT : ∀ j x, brk j = false → T j x → S x) (hTi : ∀ x, S x → T i x) :
    ∀ (fuel : Nat) (listed : Array Bool) (a : Act) (w : World),
      (∀ j oj, ops[j]? = some oj → j ≠ i → listed.getD j true = false → (∀ e ∈ oj.after, Region.binds md e = true → e.on ≠ i) → oi.apart ops oj = true) →
      (∀ j oj, ops[j]? = some oj → W j → ∃ e ∈ oj.after, Region.binds md e = true ∧ (e.on = i ∨ W e.on)) → (∀ j, W j → listed.getD j true = false) → (∀ j, j ≠ i → listed.getD j true = false → brk j = true → W j) →
      i ∈ Region.ready md ops listed → YieldsIf P ops S oi v a → S w →
      wpAnyT P md ops Q T fuel (listed.setIfInBounds i true) (a.put oi.dst v) w → wpAnyT P md ops Q T (fuel + 1) listed a w := by
  intro fuel
  induction fuel with
  | zero =>
    intro listed a w _ _ _ _ hr hy hS H
    refine ⟨fun h => (by rw [h] at hr; cases hr), fun j hj => ?_⟩
    by_cases hji : j = i
    · subst hji; exact hy.wpOp hi hS ⟨hTi _ hS, H⟩
    · have := ready_mono hj hji
      rw [H.1] at this
      cases this
  | succ fuel ih =>
    intro listed a w hfree hW hWu hbrk hr hy hS H
    refine ⟨fun h => (by rw [h] at hr; cases hr), fun j hj => ?_⟩
    by_cases hji : j = i
    · subst hji; exact hy.wpOp hi hS ⟨hTi _ hS, H⟩
    · have h1 := H.2 j (ready_mono hj hji)
      obtain ⟨hjun, oj, hoj, hall⟩ := mem_ready.1 hj
      have hnot : ∀ e ∈ oj.after, Region.binds md e = true → e.on ≠ i := fun e he hb heq => by
        have h1 := hall e he hb
        have h0 := (mem_ready.1 hr).1
        rw [heq] at h1
        rcases Nat.lt_or_ge i listed.size with h' | h'
        · simp [h'] at h0 h1; rw [h0] at h1; cases h1
        · simp [Array.getElem?_eq_none h'] at h1
      have hnW : ¬ W j := fun hw => by
        obtain ⟨e, he, hb1, hb2⟩ := hW j oj hoj hw
        rcases hb2 with hb2 | hb2
        · exact absurd hb2 (hnot e he hb1)
        · have h1 := hall e he hb1
          have h0 := hWu _ hb2
          rcases Nat.lt_or_ge e.on listed.size with h' | h'
          · simp [h'] at h0 h1; rw [h0] at h1; cases h1
          · simp [Array.getElem?_eq_none h'] at h1
      have hjb : brk j = false := by
        cases hb : brk j with
        | false => rfl
        | true => exact absurd (hbrk j hji hjun hb) hnW
      have h2 := wpOp_putIf hoj (hfree j oj hoj hji hjun hnot) (fun cs b => hsel i oi cs b hi) (fun cs b => hsel j oj cs b hoj) hQ hy h1
      have hun' : ∀ k, (listed.setIfInBounds j true).getD k true = false → listed.getD k true = false := fun k hun => by
        by_cases hjk : j = k
        · subst hjk; exact hjun
        · rw [getD_set_ne true hjk] at hun; exact hun
      refine wpOp_mono (fun a' w' h3 => ⟨h3.2.1, ih (listed.setIfInBounds j true) a' w' (fun k ok hk hki hun hno => hfree k ok hk hki (hun' k hun) hno) hW (fun k hk => by
        by_cases hjk : j = k
        · subst hjk; exact absurd hk hnW
        · rw [getD_set_ne true hjk]; exact hWu k hk) (fun k hki hun hb => hbrk k hki (hun' k hun) hb) (ready_mono hr (Ne.symm hji)) h3.1 (hT j _ hjb h3.2.1) ?_⟩) h2
      rw [Array.setIfInBounds_comm _ _ hji]
      exact h3.2.2
theorem wpAnyT_all {rs : List Nat} {fuel : Nat} {listed : Array Bool} {a : Act} {w : World} (hr : Region.ready md ops listed = rs) (hne : rs ≠ [])
    (h : ∀ i ∈ rs, wpOp P ops Q i (fun a' w' => T i w' ∧ wpAnyT P md ops Q T fuel (listed.setIfInBounds i true) a' w') a w) : wpAnyT P md ops Q T (fuel + 1) listed a w :=
  ⟨fun h0 => absurd (hr ▸ h0) hne, hr ▸ h⟩
theorem wpAnyT_done {listed : Array Bool} {a : Act} {w : World} (hr : Region.ready md ops listed = []) (h : Q .normal a w) : ∀ fuel, wpAnyT P md ops Q T fuel listed a w
  | 0 => ⟨hr, h⟩
  | _ + 1 => ⟨fun _ => h, by rw [hr]; simp⟩
theorem wpOp_imp {Q Q' : Exit → Act → World → Prop} (hQ : ∀ y a w, Q y a w → Q' y a w) {i : Nat} {K : Act → World → Prop} {a : Act} {w : World} (h1 : wpOp P ops Q i K a w) : wpOp P ops Q' i K a w := by
  unfold wpOp at h1 ⊢
  split
  · rename_i ho; simp only [ho] at h1; exact h1
  · rename_i o ho
    simp only [ho] at h1
    split
    · rename_i hwn
      simp only [hwn, if_true] at h1
      refine h1.imp (fun h2 => ?_) (fun ⟨h2, a', w', h3⟩ => ⟨h2, a', w', hQ _ _ _ h3⟩)
      unfold Oper.wp at h2 ⊢
      generalize (execOp a.eval o).run P w = r at *
      cases r with
      | ok nx w' =>
        cases nx <;> simp only [Oper.upon] at h2 ⊢ <;> first
          | exact h2
          | (refine Calls.mono h2 fun x w'' he => ?_
             cases x with
             | returned v => exact he
             | panicked c => exact hQ _ _ _ he
             | outgrown => obtain ⟨a', w', h3⟩ := he; exact ⟨a', w', hQ _ _ _ h3⟩)
      | halt x w' => cases x <;> simp only [Oper.upon] at h2 ⊢ <;> first | exact h2 | exact hQ _ _ _ h2
    · rename_i hwn
      simp only [hwn] at h1; exact h1
theorem wpAnyT_imp {Q Q' : Exit → Act → World → Prop} {T T' : Nat → World → Prop} (hQ : ∀ y a w, Q y a w → Q' y a w) : ∀ (fuel : Nat) (listed : Array Bool) (a : Act) (w : World), (∀ j, listed.getD j true = false → ∀ x, T j x → T' j x) →
    wpAnyT P .any ops Q T fuel listed a w → wpAnyT P .any ops Q' T' fuel listed a w := by
  intro fuel
  induction fuel with
  | zero => intro listed a w _ h; exact ⟨h.1, hQ _ _ _ h.2⟩
  | succ fuel ih =>
    intro listed a w hT h
    refine ⟨fun h0 => hQ _ _ _ (h.1 h0), fun i hi => ?_⟩
    have hun := (mem_ready.1 hi).1
    exact wpOp_imp hQ (wpOp_mono (fun a' w' h' => ⟨hT i hun _ h'.1, ih _ _ _ (fun j hj x => hT j (by
      by_cases hij : i = j
      · subst hij; exact hun
      · rw [getD_set_ne true hij] at hj; exact hj) x) h'.2⟩) (h.2 i hi))
end
/-- What holds behind operation j: if it breaks nothing, all that is known is held. -/
def TH (brk : List Nat) (G : Gh) (w : World) (j : Nat) (x : World) : Prop := brk.contains j = false → Sx G w x
/-- Whatever order is drawn from here on, in a region whose reads come ahead of what breaks them. -/
def VAnyT (P : Program) (n : Sz) (D : List Deferred) (ops : Array Oper) (brk : List Nat) (fuel : Nat) (listed : Array Bool) (e : Env) (O : VH) (Q : VQ) : Prop :=
  ∀ G a w, WR G O w → FR G n D e a → wpAnyT P .any ops (VPost G n D Q) (TH brk G w) fuel listed a w
theorem Sx.drawn {w x : World} {k : Nat} (h : Sx G { w with drawn := k } x) : Sx G w x := h
theorem VC.drawT {id : Nat} (brk : List Nat) (hm : P.follows .mixedOrders = true) (h : VAnyT P n D ops brk ops.size (Array.replicate ops.size false) e O Q) : VC P n D (.region id ops true) e O Q :=
  fun G a w hw hf => wp_region_any hm (wpAny_of_T _ _ _ _ (h G a _ (hw.drawn _) hf))
theorem VAnyT.done {brk : List Nat} {fuel : Nat} {listed : Array Bool} (hr : Region.ready .any ops listed = []) (h : Q .normal e O) : VAnyT P n D ops brk fuel listed e O Q :=
  fun G a w hw hfr => wpAnyT_done hr ⟨.normal, e, O, G, Gh.Le.refl G, hw, hfr, trivial, h⟩ fuel
/-- The operations that wait for operation i. -/
def waitsF (ops : Array Oper) (listed : Array Bool) (i : Nat) : Nat → List Nat
  | 0 => []
  | k + 1 => (List.range ops.size).filter fun j => !listed.getD j true && ((ops[j]?).map fun o => o.after.any fun e => Region.binds .any e && (e.on == i || (waitsF ops listed i k).contains e.on)).getD false
/-- The operations that break wait for operation i. -/
def waitB (ops : Array Oper) (brk : List Nat) (listed : Array Bool) (i : Nat) : Bool :=
  brk.all fun j => listed.getD j true || j == i || (waitsF ops listed i ops.size).contains j
theorem waits_edge {listed : Array Bool} {i : Nat} (j : Nat) (oj : Oper) (hj : ops[j]? = some oj) (h : ∃ k, j ∈ waitsF ops listed i k) : ∃ e ∈ oj.after, Region.binds .any e = true ∧ (e.on = i ∨ ∃ k, e.on ∈ waitsF ops listed i k) := by
  obtain ⟨k, hk⟩ := h
  cases k with
  | zero => cases hk
  | succ k =>
    simp only [waitsF, List.mem_filter, hj, Option.map_some, Option.getD_some, Bool.and_eq_true] at hk
    obtain ⟨e, he, h2⟩ := Array.any_eq_true'.1 hk.2.2
    simp only [Bool.and_eq_true, Bool.or_eq_true, beq_iff_eq] at h2
    refine ⟨e, he, h2.1, ?_⟩
    rcases h2.2 with h3 | h3
    · exact .inl h3
    · exact .inr ⟨k, by simpa using h3⟩
theorem waits_un {listed : Array Bool} {i : Nat} (j : Nat) (h : ∃ k, j ∈ waitsF ops listed i k) : listed.getD j true = false := by
  obtain ⟨k, hk⟩ := h
  cases k with
  | zero => cases hk
  | succ k =>
    simp only [waitsF, List.mem_filter, Bool.and_eq_true, Bool.not_eq_true'] at hk
    exact hk.2.1
theorem waitB_ok {brk : List Nat} {listed : Array Bool} {i : Nat} (h : waitB ops brk listed i = true) : ∀ j, j ≠ i → listed.getD j true = false → brk.contains j = true → ∃ k, j ∈ waitsF ops listed i k := by
  intro j hne hun hb
  have := List.all_eq_true.1 h j (by simpa using hb)
  simp only [hun, Bool.false_or, Bool.or_eq_true, beq_iff_eq, hne, false_or] at this
  exact ⟨_, by simpa using this⟩
/-- An operation that yields a value in every world that holds what is known may come first. -/
theorem VAnyT.take {brk : List Nat} {fuel i : Nat} {listed : Array Bool} {o : Oper} (ho : ops[i]? = some o) (hs : Region.noSelect ops = true) (hf : Region.free .any ops listed i = true) (hr : (Region.ready .any ops listed).contains i = true) (hb : waitB ops brk listed i = true)
    (hd : dstB n o.dst = true) (hy : ∀ G a w, WR G O w → FR G n D e a → ∃ u, VR G m u ∧ YieldsIf P ops (Sx G w) o u a) (h : VAnyT P n D ops brk fuel (listed.setIfInBounds i true) (putM o.dst m e) O Q) : VAnyT P n D ops brk (fuel + 1) listed e O Q := by
  intro G a w hw hfr
  obtain ⟨u, hu, hyi⟩ := hy G a w hw hfr
  refine wpAnyT_first (S := Sx G w) (W := fun j => ∃ k, j ∈ waitsF ops listed i k) (brk := fun j => brk.contains j) ho (Region.noSelect_spec hs) (panic_put hd) (fun j x hj hT => hT hj) (fun x hx _ => hx) fuel listed a w (Region.free_spec ho hf) waits_edge waits_un (waitB_ok hb) (by simpa using hr) hyi hw.sx (h G _ w hw (hfr.putM hd hu))
/-- One operation alone. -/
theorem VAnyT.one (ht : TabOk P tab) {brk : List Nat} {fuel i : Nat} {listed : Array Bool} {o : Oper} (ho : ops[i]? = some o) (hr : Region.ready .any ops listed = [i]) (hb : (brk.contains i = false ∧ opA o.op = true) ∨ ∀ j, (listed.setIfInBounds i true).getD j true = false ∨ j = i → brk.contains j = true)
    (hg : vguard ops o e = some true) (hv : vop tab o e O = some (m, O')) (hd : dstB n o.dst = true) (h : VAnyT P n D ops brk fuel (listed.setIfInBounds i true) (putM o.dst m e) O' Q) : VAnyT P n D ops brk (fuel + 1) listed e O Q := by
  intro G a w hw hfr
  refine wpAnyT_all hr (by simp) fun j hj => ?_
  obtain rfl : j = i := by simpa using hj
  obtain ⟨nx, w', H, u, hrun, hnx, h1, h2, h3, h4⟩ := vop_ok (P := P) ht hw hfr hv
  simp only [wpOp, ho, vguard_ok hfr hg, if_true]
  refine .inl ?_
  unfold Oper.wp
  rw [hrun]
  have hk := h H (a.put o.dst u) w' h2 ((hfr.mono h1).putM hd h3)
  have hres : TH brk G w j w' ∧ wpAnyT P .any ops (VPost G n D Q) (TH brk G w) fuel (listed.setIfInBounds j true) (a.put o.dst u) w' := by
    rcases hb with ⟨hb1, hb2⟩ | hb
    · have hkeep := h4 hb2
      have hs : Sx G w w' := ⟨SS.le h1 h2.ss, hkeep⟩
      refine ⟨fun _ => hs, wpAnyT_imp (fun _ _ _ => VPost.le h1) _ _ _ _ (fun k _ x hT hk' => ?_) hk⟩
      obtain ⟨g1, g2⟩ := hT hk'
      exact ⟨SS.le h1 g1, fun k' b hb' => (g2 k' b (h1.phi hb')).trans (hkeep k' b hb')⟩
    · refine ⟨fun hh => ?_, wpAnyT_imp (fun _ _ _ => VPost.le h1) _ _ _ _ (fun k hk' x _ hh => ?_) hk⟩
      · rw [hb j (.inr rfl)] at hh; cases hh
      · rw [hb k (.inl hk')] at hh; cases hh
  rcases hnx with rfl | ⟨rfl, rfl⟩ <;> exact hres
theorem VAnyT.skip1 {brk : List Nat} {fuel i : Nat} {listed : Array Bool} {o : Oper} (ho : ops[i]? = some o) (hr : Region.ready .any ops listed = [i]) (hb : (brk.contains i = false ∧ opA o.op = true) ∨ ∀ j, (listed.setIfInBounds i true).getD j true = false ∨ j = i → brk.contains j = true)
    (hg : vguard ops o e = some false) (hd : dstB n o.dst = true) (h : VAnyT P n D ops brk fuel (listed.setIfInBounds i true) (putM o.dst undefM e) O Q) : VAnyT P n D ops brk (fuel + 1) listed e O Q := by
  intro G a w hw hfr
  refine wpAnyT_all hr (by simp) fun j hj => ?_
  obtain rfl : j = i := by simpa using hj
  simp only [wpOp, ho, vguard_ok hfr hg, Bool.false_eq_true, if_false]
  exact ⟨fun _ => hw.sx, h G _ w hw (hfr.putM hd undef_ok)⟩
theorem VAnyT.oneB {brk : List Nat} {fuel i : Nat} {listed : Array Bool} (hr : Region.ready .any ops listed = [i]) (hb : ∀ j, (listed.setIfInBounds i true).getD j true = false ∨ j = i → brk.contains j = true)
    (h : VOne P n D ops i e O Q fun e' O' => VAnyT P n D ops brk fuel (listed.setIfInBounds i true) e' O' Q) : VAnyT P n D ops brk (fuel + 1) listed e O Q := by
  intro G a w hw hfr
  refine wpAnyT_all hr (by simp) fun j hj => ?_
  obtain rfl : j = i := by simpa using hj
  refine wpOp_mono (fun a' w' ⟨e', O', H, h1, h2, h3, h4⟩ => ⟨fun hh => ?_, wpAnyT_imp (fun _ _ _ => VPost.le h1) _ _ _ _ (fun k hk' x _ hh => ?_) (h4 H a' w' h2 h3)⟩) (h G a w hw hfr)
  · rw [hb j (.inr rfl)] at hh; cases hh
  · rw [hb k (.inl hk')] at hh; cases hh
end
end Go.Proofs.YtjbpnhmjnkolbaaDoor

/-
  THE VALUE MACHINE, 9: the table of types, as the program itself gives it.
-/
set_option linter.unusedVariables false
set_option linter.unusedSimpArgs false
namespace Go.Proofs.YtjbpnhmjnkolbaaDoor
open Go.RowKit

def wholeB (d : TypeDesc) (z : Value) : Bool := match isAggB d, z with
  | true, .agg _ => true
  | true, _ => false
  | false, .agg _ => false
  | false, _ => true
theorem wholeB_ok {d : TypeDesc} {z : Value} (h : wholeB d z = true) : (isAggB d = true → ∃ cs, z = .agg cs) ∧ (isAggB d = false → z.cells = #[z]) := by
  refine ⟨fun ha => ?_, fun ha => ?_⟩ <;> unfold wholeB at h <;> rw [ha] at h <;> cases z <;> first | exact ⟨_, rfl⟩ | rfl | cases h
/-- A type's row, as the program gives it. -/
def tyOf (P : Program) (t : TypeId) : Option TyI :=
  match P.underlying t, P.info? t with
  | some d, some i => match i.zero with
    | some z => match z.cells.toList.mapM ofConst with
      | some zs => if z.cells.size = i.size ∧ wholeB d z = true then some ⟨d, i.size, i.bytes, zs⟩ else none
      | none => none
    | none => none
  | _, _ => none
theorem consts_ok {G : Gh} : ∀ {us : List Value} {ms : List MV}, us.mapM ofConst = some ms → VRs G ms us
  | [], ms, h => by simp at h; subst h; exact VRs.nil
  | u :: us, ms, h => by
    simp only [List.mapM_cons, Option.bind_eq_bind, Option.bind_eq_some_iff] at h
    obtain ⟨m, h1, ms', h2, h3⟩ := h
    injection h3 with h3; subst h3
    exact VRs.cons (ofConst_ok h1) (consts_ok h2)
theorem tyOf_ok (P : Program) : TabOk P (tyOf P) := by
  intro t i h
  unfold tyOf at h
  split at h
  · rename_i d ti hd hi
    split at h
    · rename_i z hz
      split at h
      · rename_i zs hzs
        split at h
        · rename_i hsz
          injection h with h; subst h
          exact ⟨hd, ⟨ti, z, hi, rfl, rfl, hz, hsz.1, fun G => consts_ok hzs⟩, fun ti' z' h1 h2 => by
            rw [hi] at h1; injection h1 with h1; subst h1
            rw [hz] at h2; injection h2 with h2; subst h2
            exact wholeB_ok hsz.2⟩
        · cases h
      · cases h
    · cases h
  · cases h
end Go.Proofs.YtjbpnhmjnkolbaaDoor

/-
  THE VALUE MACHINE, 10: what each operation comes to, for the walk's own rewriting; pruning.
-/
set_option linter.unusedVariables false
set_option linter.unusedSimpArgs false
namespace Go.Proofs.YtjbpnhmjnkolbaaDoor
open Go.RowKit

section
variable {G H : Gh} {n : Sz} {D : List Deferred} {e e' : Env} {a : Act} {P : Program} {tab : Tab} {O O' : VH} {w : World} {m m' : MV} {u v : Value} {ops : Array Oper} {Q : VQ}
variable {d : Option Tmp} {t t' ty : TypeId} {p : String} {af : Array Edge} {g : Option (Nat × Bool)} {x y z : Operand}

theorem ev_tmp (k : Nat) : ev e (.tmp k) = look e k := rfl
theorem ev_int (k : IntKind) (i : Int) : ev e (.const (.int k i)) = some (.v (.int k i)) := rfl
theorem ev_bool (b : Bool) : ev e (.const (.bool b)) = some (.v (.bool b)) := rfl
theorem ev_str (s : ByteArray) : ev e (.const (.string s)) = some (.str s.data.toList) := rfl
theorem ev_nilsl : ev e (.const (.slice none 0 0)) = some (.sl 0 [] .nil) := rfl
theorem ev_nilptr : ev e (.const (.pointer none)) = some (.v (.pointer none)) := rfl
theorem ev_nilmap : ev e (.const (.map none)) = some (.v (.map none)) := rfl
theorem ev_niliface : ev e (.const .nilIface) = some (.v .nilIface) := rfl
theorem ev_nilfunc : ev e (.const .nilFunc) = some (.v .nilFunc) := rfl
theorem ev_func (f : FuncId) : ev e (.func f) = some (.func (.func f) [] []) := rfl
theorem look_same (k : Nat) (m : MV) (r : Env) : look ((k, m) :: r) k = some m := by simp [look]
theorem look_cons (k j : Nat) (m : MV) (r : Env) : look ((k, m) :: r) j = bif j == k then some m else look r j := rfl
theorem evs_nil : evs e [] = some [] := rfl
theorem evs_cons (x : Operand) (l : List Operand) : evs e (x :: l) = (ev e x).bind fun m => (evs e l).map (m :: ·) := by
  simp only [evs, List.mapM_cons, Option.bind_eq_bind]
  cases ev e x with
  | none => rfl
  | some m => cases List.mapM (ev e) l <;> rfl

private theorem sil {o : Oper} {r : Option MV} (h : vsil tab o e = r) (hl : vloud tab o e O = none) : vop tab o e O = r.map (·, O) := by
  unfold vop; rw [h]; cases r <;> simp [hl]
theorem vop_move : vop tab (.mk d (.move x) ty p af g) e O = (ev e x).map (·, O) := sil rfl rfl
theorem vop_assign : vop tab (.mk d (.assign x) ty p af g) e O = (ev e x).map (·, O) := sil rfl rfl
theorem vop_pick {c : Operand} {b : Bool} (h : ev e c = some (.v (.bool b))) : vop tab (.mk d (.pick c x y) ty p af g) e O = (if b then ev e x else ev e y).map (·, O) := by
  refine sil ?_ rfl
  simp [vsil, h]
theorem vop_nilCheck : vop tab (.mk d (.nilCheck x) ty p af g) e O = ((ev e x).bind vnil).map (·, O) := sil rfl rfl
theorem vop_binOp {op : BinOp} : vop tab (.mk d (.binOp op t x y t') ty p af g) e O = ((ev e x).bind fun q => (ev e y).bind fun r => vbin tab op t q r).map (·, O) := by
  refine sil ?_ rfl
  simp only [vsil]
  cases ev e x <;> first | rfl | (cases ev e y <;> rfl)
theorem vop_unOp {op : UnOp} : vop tab (.mk d (.unOp op t x) ty p af g) e O = ((ev e x).bind (vunary op)).map (·, O) := sil rfl rfl
theorem vop_convert : vop tab (.mk d (.convert t t' x) ty p af g) e O = ((ev e x).bind (vconv tab t t')).map (·, O) := sil rfl rfl
theorem vop_fieldAddr {f : Nat} : vop tab (.mk d (.fieldAddr t x f) ty p af g) e O = ((ev e x).bind (vfieldAddr tab t f)).map (·, O) := sil rfl rfl
theorem vop_field {f : Nat} : vop tab (.mk d (.field t x f) ty p af g) e O = ((ev e x).bind (vfield tab t · f)).map (·, O) := sil rfl rfl
theorem vop_indexAddr : vop tab (.mk d (.indexAddr t x y) ty p af g) e O = ((ev e x).bind fun q => (ev e y).bind fun r => vindexAddr tab t q r).map (·, O) := by
  refine sil ?_ rfl
  simp only [vsil]
  cases ev e x <;> first | rfl | (cases ev e y <;> rfl)
theorem vop_index : vop tab (.mk d (.index t x y) ty p af g) e O = ((ev e x).bind fun q => (ev e y).bind fun r => vindex tab t q r).map (·, O) := by
  refine sil ?_ rfl
  simp only [vsil]
  cases ev e x <;> first | rfl | (cases ev e y <;> rfl)
theorem vop_extract {i : Nat} : vop tab (.mk d (.extract x i) ty p af g) e O = ((ev e x).bind (vextract · i)).map (·, O) := sil rfl rfl
theorem vop_build {ps : Array (Nat × Operand)} : vop tab (.mk d (.build t ps) ty p af g) e O = ((evs e (ps.toList.map (·.2))).bind fun ms => vbuild tab t (zipParts ps ms)).map (·, O) := by
  refine sil ?_ rfl
  simp only [vsil]
  cases evs e (ps.toList.map (·.2)) <;> rfl
theorem vop_makeFunc {fn : Fn} {fs cs : Array Operand} : vop tab (.mk d (.makeFunc fn fs cs) ty p af g) e O = ((evs e fs.toList).bind fun q => (evs e cs.toList).map fun r => .func fn q r).map (·, O) := by
  refine sil ?_ rfl
  simp only [vsil]
  cases evs e fs.toList <;> first | rfl | (cases evs e cs.toList <;> rfl)
theorem vop_slice {lo hi : Option Operand} : vop tab (.mk d (.slice t x lo hi none) ty p af g) e O = ((ev e x).bind fun q => (vsil.evo e lo).bind fun l => (vsil.evo e hi).bind fun h => vslice tab t q l h).map (·, O) := by
  refine sil ?_ rfl
  simp only [vsil]
  cases ev e x <;> first | rfl | (cases vsil.evo e lo <;> first | rfl | (cases vsil.evo e hi <;> rfl))
theorem vop_slice3 {lo : Option Operand} {hi mx : Operand} : vop tab (.mk d (.slice t x lo (some hi) (some mx)) ty p af g) e O = ((ev e x).bind fun q => (vsil.evo e lo).bind fun l => (ev e hi).bind fun h => (ev e mx).bind (vslice3 tab t q l h)).map (·, O) := by
  refine sil ?_ rfl
  simp only [vsil, show vsil.evo e (some hi) = (ev e hi).map some from rfl]
  generalize vsil.evo e lo = z
  cases ev e x <;> cases z <;> cases ev e hi <;> rfl
theorem evo_none : vsil.evo e none = some none := rfl
theorem evo_some : vsil.evo e (some x) = (ev e x).map some := rfl
theorem vop_len : vop tab (.mk d (.call { callee := .builtin .len, args := #[x], argTypes := #[t] }) ty p af g) e O = (ev e x).bind fun q => match vlen tab t q with
    | some r => some (r, O)
    | none => (vmaplen tab O t q).map (·, O) := by
  simp only [vop, vsil, vloud]
  cases ev e x with
  | none => rfl
  | some q =>
    simp only [Option.bind_some]
    cases vlen tab t q <;> rfl
theorem vop_max {ts : Array TypeId} : vop tab (.mk d (.call { callee := .builtin .max, args := #[x, y], argTypes := ts }) ty p af g) e O = ((ev e x).bind fun q => (ev e y).bind fun r => vmax2 q r).map (·, O) := by
  refine sil ?_ rfl
  simp only [vsil]
  cases ev e x <;> first | rfl | (cases ev e y <;> rfl)
theorem vop_min {ts : Array TypeId} : vop tab (.mk d (.call { callee := .builtin .min, args := #[x, y], argTypes := ts }) ty p af g) e O = ((ev e x).bind fun q => (ev e y).bind fun r => vmin2 q r).map (·, O) := by
  refine sil ?_ rfl
  simp only [vsil]
  cases ev e x <;> first | rfl | (cases ev e y <;> rfl)
theorem vop_sdata {ts : Array TypeId} : vop tab (.mk d (.call { callee := .builtin .unsafeSliceData, args := #[x], argTypes := ts }) ty p af g) e O = ((ev e x).bind vsdata).map (·, O) := sil rfl (by simp only [vloud] <;> rfl)
theorem vop_append : vop tab (.mk d (.call { callee := .builtin .append, args := #[x, y], argTypes := #[t, t] }) ty p af g) e O = (ev e x).bind fun q => (ev e y).bind fun r => vappend tab O t q r := by
  simp only [vop, vsil, vloud, if_true]
  cases ev e x <;> first | rfl | (cases ev e y <;> rfl)
theorem vload_cptr {cs : List MV} {off : Nat} : vload tab O t (.cptr cs off) = vload tab O' t (.cptr cs off) := rfl
theorem vop_load : vop tab (.mk d (.load t x) ty p af g) e O = (ev e x).bind fun q => (vload tab O t q).map (·, O) := by
  simp only [vop, vsil, vloud]
  cases ev e x with
  | none => rfl
  | some q =>
    cases q <;> try rfl
    rename_i cs off
    simp only [Option.bind_some]
    rw [vload_cptr (O' := O)]
    cases vload tab O t (.cptr cs off) <;> rfl
theorem vop_store : vop tab (.mk d (.store t x y) ty p af g) e O = (ev e x).bind fun q => (ev e y).bind fun r => (vstore tab O t q r).map (.tuple [], ·) := by
  simp only [vop, vsil, vloud]
  cases ev e x <;> first | rfl | (cases ev e y <;> rfl)
theorem vop_box : vop tab (.mk d (.box t x) ty p af g) e O = (ev e x).map fun q => (.ptr O.next 0, O.push (.cells (mcells q))) := rfl
theorem vop_alloc : vop tab (.mk d (.alloc t) ty p af g) e O = (tab t).map fun i => (.ptr O.next 0, allocO O t i.size i.zero) := rfl
theorem vop_buildSlice {k : Nat} {ps : Array (Nat × Operand)} : vop tab (.mk d (.buildSlice t k ps) ty p af g) e O = (evs e (ps.toList.map (·.2))).bind fun ms => (vbuildSlice tab t k (zipParts ps ms)).map (·, O) := by
  simp only [vop, vsil, vloud]
  cases evs e (ps.toList.map (·.2)) <;> rfl
theorem vop_makeSlice : vop tab (.mk d (.makeSlice t x y) ty p af g) e O = (ev e x).bind fun q => (ev e y).bind fun r => vmakeSlice tab O t q r := by
  simp only [vop, vsil, vloud]
  cases ev e x <;> first | rfl | (cases ev e y <;> rfl)

theorem vop_makeMap : vop tab (.mk d (.makeMap t none) ty p af g) e O = some (.map O.next, O.push (.map [] 0)) := rfl
theorem vop_lookup {b : Bool} : vop tab (.mk d (.lookup t x y b) ty p af g) e O = (ev e x).bind fun q => (ev e y).bind fun r => (vlookup tab O t q r b).map (·, O) := by
  simp only [vop, vsil, vloud]
  cases ev e x <;> first | rfl | (cases ev e y <;> rfl)
theorem vop_mapUpdate {z : Operand} : vop tab (.mk d (.mapUpdate t x y z) ty p af g) e O = (ev e x).bind fun q => (ev e y).bind fun r => (ev e z).bind fun s => (vmapUpdate tab O t q r s).map (.tuple [], ·) := by
  simp only [vop, vsil, vloud]
  cases ev e x <;> first | rfl | (cases ev e y <;> first | rfl | (cases ev e z <;> rfl))
theorem vop_insert {z : Operand} : vop tab (.mk d (.insert t x y z) ty p af g) e O = (ev e x).bind fun q => (ev e y).bind fun r => (ev e z).bind fun s => (vmapUpdate tab O t q r s).map (.tuple [], ·) := by
  simp only [vop, vsil, vloud]
  cases ev e x <;> first | rfl | (cases ev e y <;> first | rfl | (cases ev e z <;> rfl))

section
variable {k : IntKind} {i j : Int}
theorem vbin_add : vbin tab .add t (.v (.int k i)) (.v (.int k j)) = some (.v (.int k (k.wrap (i + j)))) := by simp [vbin, vint]
theorem vbin_sub : vbin tab .sub t (.v (.int k i)) (.v (.int k j)) = some (.v (.int k (k.wrap (i - j)))) := by simp [vbin, vint]
theorem vbin_mul : vbin tab .mul t (.v (.int k i)) (.v (.int k j)) = some (.v (.int k (k.wrap (i * j)))) := by simp [vbin, vint]
theorem vbin_quo (h : j ≠ 0) : vbin tab .quo t (.v (.int k i)) (.v (.int k j)) = some (.v (.int k (k.wrap (i.tdiv j)))) := by simp [vbin, vint, h]
theorem vbin_rem (h : j ≠ 0) : vbin tab .rem t (.v (.int k i)) (.v (.int k j)) = some (.v (.int k (i.tmod j))) := by simp [vbin, vint, h]
theorem vbin_eql : vbin tab .eql t (.v (.int k i)) (.v (.int k j)) = some (.v (.bool (i == j))) := by simp [vbin, vint]
theorem vbin_neq : vbin tab .neq t (.v (.int k i)) (.v (.int k j)) = some (.v (.bool (i != j))) := by simp [vbin, vint]
theorem vbin_lss : vbin tab .lss t (.v (.int k i)) (.v (.int k j)) = some (.v (.bool (decide (i < j)))) := by simp [vbin, vint]
theorem vbin_leq : vbin tab .leq t (.v (.int k i)) (.v (.int k j)) = some (.v (.bool (decide (i ≤ j)))) := by simp [vbin, vint]
theorem vbin_gtr : vbin tab .gtr t (.v (.int k i)) (.v (.int k j)) = some (.v (.bool (decide (i > j)))) := by simp [vbin, vint]
theorem vbin_geq : vbin tab .geq t (.v (.int k i)) (.v (.int k j)) = some (.v (.bool (decide (i ≥ j)))) := by simp [vbin, vint]
theorem vun_neg : vunary .neg (.v (.int k i)) = some (.v (.int k (k.wrap (0 - i)))) := rfl
theorem vun_not {b : Bool} : vunary .not (.v (.bool b)) = some (.v (.bool !b)) := rfl
theorem wrap_i64 (h0 : -9223372036854775808 ≤ i) (h1 : i ≤ 9223372036854775807) : IntKind.i64.wrap i = i := by rw [IntKind.wrap_i64]; omega
end

/-- A row of operations one of which follows the other. -/
theorem vguard_none {r : Env} {q : Op} : vguard ops (.mk d q ty p af none) r = some true := rfl

/-- Only some slots are kept in mind. -/
def keep (l : List Nat) (e : Env) : Env := e.filter fun x => l.contains x.1
theorem look_keep (l : List Nat) : ∀ (e : Env) (t : Nat) (m : MV), look (keep l e) t = some m → look e t = some m
  | [], _, _, h => by simp [keep, look] at h
  | (k, x) :: r, t, m, h => by
    have ih := look_keep l r t m
    unfold keep at h ih
    rw [List.filter_cons] at h
    simp only [look_cons]
    split at h
    · simp only [look_cons] at h
      cases hb : t == k <;> rw [hb] at h <;> simp only [cond_true, cond_false] at h ⊢
      · exact ih h
      · exact h
    · rename_i hk
      cases hb : t == k <;> simp only [cond_true, cond_false]
      · exact ih h
      · exfalso
        have : t = k := by simpa using hb
        subst this
        have hn : ∀ (r : Env), look (List.filter (fun x => l.contains x.1) r) t ≠ some m := by
          intro r
          induction r with
          | nil => simp [look]
          | cons y r ih2 =>
            obtain ⟨k', x'⟩ := y
            rw [List.filter_cons]
            split
            · rename_i hk'
              simp only [look_cons]
              have : (t == k') = false := by
                simp only [beq_eq_false_iff_ne]
                rintro rfl
                exact hk hk'
              rw [this]; exact ih2
            · exact ih2
        exact hn r h
theorem VC.keep {c : Code} (l : List Nat) (h : VC P n D c (keep l e) O Q) : VC P n D c e O Q := VC.env h (look_keep l e)

/-- A row of operations, none of them a call of a Go function, reckoned at once. -/
def vrun (tab : Tab) (n : Sz) (ops : Array Oper) : List Nat → Env → VH → Option (Env × VH)
  | [], e, O => some (e, O)
  | i :: l, e, O => match ops[i]? with
    | none => none
    | some o => match vguard ops o e with
      | none => none
      | some true => match vop tab o e O with
        | none => none
        | some (m, O') => if dstB n o.dst then vrun tab n ops l (putM o.dst m e) O' else none
      | some false => if dstB n o.dst then vrun tab n ops l (putM o.dst undefM e) O else none
theorem VOps.run (ht : TabOk P tab) : ∀ {l : List Nat} {e : Env} {O : VH}, vrun tab n ops l e O = some (e', O') → Q .normal e' O' → VOps P n D ops l e O Q
  | [], e, O, h, hQ => by
    simp only [vrun, Option.some.injEq, Prod.mk.injEq] at h
    obtain ⟨rfl, rfl⟩ := h
    exact VOps.nil hQ
  | i :: l, e, O, h, hQ => by
    simp only [vrun] at h
    split at h
    · cases h
    · rename_i o ho
      split at h
      · cases h
      · rename_i hg
        split at h
        · cases h
        · rename_i m O2 hv
          split at h
          · rename_i hd
            exact VOps.step ht ho hg hv hd (VOps.run ht h hQ)
          · cases h
      · rename_i hg
        split at h
        · rename_i hd
          exact VOps.skip ho hg hd (VOps.run ht h hQ)
        · cases h
theorem VOps.runs (ht : TabOk P tab) : ∀ {l : List Nat} {l' : List Nat} {e : Env} {O : VH}, vrun tab n ops l e O = some (e', O') → VOps P n D ops l' e' O' Q → VOps P n D ops (l ++ l') e O Q
  | [], l', e, O, h, hQ => by
    simp only [vrun, Option.some.injEq, Prod.mk.injEq] at h
    obtain ⟨rfl, rfl⟩ := h
    exact hQ
  | i :: l, l', e, O, h, hQ => by
    simp only [vrun] at h
    split at h
    · cases h
    · rename_i o ho
      split at h
      · cases h
      · rename_i hg
        split at h
        · cases h
        · rename_i m O2 hv
          split at h
          · rename_i hd
            exact VOps.step ht ho hg hv hd (VOps.runs ht h hQ)
          · cases h
      · rename_i hg
        split at h
        · rename_i hd
          exact VOps.skip ho hg hd (VOps.runs ht h hQ)
        · cases h

/-- A whole region, reckoned at once. -/
def vrunL (tab : Tab) (n : Sz) (ops : Array Oper) : List Oper → Env → VH → Option (Env × VH)
  | [], e, O => some (e, O)
  | o :: l, e, O => (vguard ops o e).bind fun b => if b then (vop tab o e O).bind fun r => if dstB n o.dst then vrunL tab n ops l (putM o.dst r.1 e) r.2 else none
      else if dstB n o.dst then vrunL tab n ops l (putM o.dst undefM e) O else none
theorem vrunL_nil : vrunL tab n ops [] e O = some (e, O) := rfl
theorem vrunL_cons {o : Oper} {l : List Oper} : vrunL tab n ops (o :: l) e O = (vguard ops o e).bind fun b => if b then (vop tab o e O).bind fun r => if dstB n o.dst then vrunL tab n ops l (putM o.dst r.1 e) r.2 else none
      else if dstB n o.dst then vrunL tab n ops l (putM o.dst undefM e) O else none := rfl
theorem vguard_some {q : Op} {j : Nat} {b : Bool} : vguard ops (.mk d q ty p af (some (j, b))) e = match (ops[j]?).bind (·.dst) with
    | some k => match look e k with
      | some (.v (.bool c)) => some (c == b)
      | some (.tuple []) => some false
      | _ => none
    | none => none := rfl
theorem VOps.runL (ht : TabOk P tab) : ∀ (l : List Oper) (k : Nat) {l' : List Nat} {e : Env} {O : VH}, (∀ j, l[j]? = none ∨ l[j]? = ops[k + j]?) → vrunL tab n ops l e O = some (e', O') → VOps P n D ops l' e' O' Q → VOps P n D ops (List.range' k l.length ++ l') e O Q
  | [], k, l', e, O, hl, h, hQ => by
    simp only [vrunL, Option.some.injEq, Prod.mk.injEq] at h
    obtain ⟨rfl, rfl⟩ := h
    exact hQ
  | o :: l, k, l', e, O, hl, h, hQ => by
    have ho : ops[k]? = some o := by
      rcases hl 0 with h0 | h0
      · cases h0
      · simpa using h0.symm
    have hl' : ∀ j, l[j]? = none ∨ l[j]? = ops[k + 1 + j]? := fun j => by
      rcases hl (j + 1) with h0 | h0
      · exact .inl (by simpa using h0)
      · exact .inr (by rw [show k + 1 + j = k + (j + 1) from by omega]; simpa using h0)
    rw [vrunL_cons] at h
    obtain ⟨b, hg, h⟩ := Option.bind_eq_some_iff.1 h
    rw [List.length_cons, List.range'_succ, List.cons_append]
    cases b with
    | true =>
      rw [if_pos rfl] at h
      obtain ⟨⟨m, O2⟩, hv, h⟩ := Option.bind_eq_some_iff.1 h
      split at h
      · exact VOps.step ht ho hg hv ‹_› (VOps.runL ht l (k + 1) hl' h hQ)
      · cases h
    | false =>
      rw [if_neg (by decide)] at h
      split at h
      · exact VOps.skip ho hg ‹_› (VOps.runL ht l (k + 1) hl' h hQ)
      · cases h
theorem VC.regionRun (ht : TabOk P tab) {id : Nat} {l : List Oper} (h : vrunL tab n ⟨l⟩ l e O = some (e', O')) (hQ : Q .normal e' O') : VC P n D (.region id ⟨l⟩ false) e O Q := by
  refine VC.region ?_
  have := VOps.runL (D := D) (Q := Q) (ops := ⟨l⟩) ht l 0 (l' := []) (fun j => .inr (by simp)) h (VOps.nil hQ)
  rw [List.append_nil] at this
  rw [show (⟨l⟩ : Array Oper).size = l.length from rfl, List.range_eq_range']
  exact this
/-- A region's first operations; then one by itself; then the rest. -/
theorem VC.regionPre (ht : TabOk P tab) {id : Nat} {l : List Oper} (k : Nat) (h : vrunL tab n ⟨l⟩ (l.take k) e O = some (e', O')) (hQ : VOps P n D ⟨l⟩ (List.range' (l.take k).length (l.length - (l.take k).length)) e' O' Q) : VC P n D (.region id ⟨l⟩ false) e O Q := by
  refine VC.region ?_
  have := VOps.runL (D := D) (Q := Q) (ops := ⟨l⟩) ht (l.take k) 0 (fun j => by
    rw [List.getElem?_take, Nat.zero_add]
    split
    · exact .inr (by simp)
    · exact .inl rfl) h hQ
  rw [show (⟨l⟩ : Array Oper).size = l.length from rfl, List.range_eq_range']
  have hr : List.range' 0 l.length = List.range' 0 (l.take k).length ++ List.range' (l.take k).length (l.length - (l.take k).length) := by
    have := List.range'_append_1 (s := 0) (m := (l.take k).length) (n := l.length - (l.take k).length)
    rw [Nat.zero_add] at this
    rw [this]; congr 1; simp; omega
  rw [hr]
  exact this
theorem VOps.more (ht : TabOk P tab) {l : List Oper} {k c : Nat} (j : Nat) (h : vrunL tab n ⟨l⟩ ((l.drop k).take j) e O = some (e', O')) (hc : ((l.drop k).take j).length ≤ c) (hQ : VOps P n D ⟨l⟩ (List.range' (k + ((l.drop k).take j).length) (c - ((l.drop k).take j).length)) e' O' Q) : VOps P n D ⟨l⟩ (List.range' k c) e O Q := by
  have := VOps.runL (D := D) (Q := Q) (ops := ⟨l⟩) ht ((l.drop k).take j) k (fun i => by
    rw [List.getElem?_take]
    split
    · exact .inr (by simp [List.getElem?_drop])
    · exact .inl rfl) h hQ
  have hr := List.range'_append_1 (s := k) (m := ((l.drop k).take j).length) (n := c - ((l.drop k).take j).length)
  rw [hr] at this
  rw [show c = ((l.drop k).take j).length + (c - ((l.drop k).take j).length) from by omega]
  exact this
theorem VC.condT {c : Operand} {x y : Code} (hc : ev e c = some (.v (.bool true))) (h : VC P n D x e O Q) : VC P n D (.cond c x y) e O Q := VC.cond hc (fun _ => h) (fun h => by cases h)
theorem VC.condF {c : Operand} {x y : Code} (hc : ev e c = some (.v (.bool false))) (h : VC P n D y e O Q) : VC P n D (.cond c x y) e O Q := VC.cond hc (fun h => by cases h) (fun _ => h)

/-! ### What is used of types -/
section
variable {el : TypeId} {a b c d : Nat} {z y : List MV} {u : TypeDesc}
theorem vlen_sl {k : Nat} {cs : List MV} {tk : Tok} (h : tab t = some ⟨.slice el, a, b, z⟩) : vlen tab t (.sl k cs tk) = some (.v (.int .i64 k)) := by simp [vlen, h]
theorem vlen_asl {k o i j : Nat} (h : tab t = some ⟨.slice el, a, b, z⟩) : vlen tab t (.asl k o i j) = some (.v (.int .i64 i)) := by simp [vlen, h]
theorem vlen_str {l : List UInt8} (h : tab t = some ⟨.string, a, b, z⟩) : vlen tab t (.str l) = some (.v (.int .i64 l.length)) := by simp [vlen, h]
theorem vix_sl {k : Nat} {cs : List MV} {tk : Tok} {kk : IntKind} {i : Int} (h : tab t = some ⟨.slice el, a, b, z⟩) (h2 : tab el = some ⟨u, c, d, y⟩) (h0 : 0 ≤ i) (h1 : i < (k : Int)) :
    vindexAddr tab t (.sl k cs tk) (.v (.int kk i)) = some (.cptr cs (i.toNat * c)) := by simp [vindexAddr, h, h2, h0, h1]
theorem vix_asl {k o len cap : Nat} {kk : IntKind} {i : Int} (h : tab t = some ⟨.slice el, a, b, z⟩) (h2 : tab el = some ⟨u, c, d, y⟩) (h0 : 0 ≤ i) (h1 : i < (len : Int)) :
    vindexAddr tab t (.asl k o len cap) (.v (.int kk i)) = some (.ptr k (o + i.toNat * c)) := by simp [vindexAddr, h, h2, h0, h1]
theorem vload_c {cs : List MV} {off : Nat} (h : tab t = some ⟨u, c, d, y⟩) (hu : isAggB u = false) : vload tab O t (.cptr cs off) = cs[off]? := by simp [vload, cellsOf, h, vcell, hu]
theorem vload_p {cs : List MV} {k off : Nat} (h : tab t = some ⟨u, c, d, y⟩) (hu : isAggB u = false) (hk : O.hp k = some (.cells cs)) : vload tab O t (.ptr k off) = cs[off]? := by simp [vload, cellsOf, hk, h, vcell, hu]
theorem vload_pa {cs : List MV} {k off : Nat} (h : tab t = some ⟨u, c, d, y⟩) (hu : isAggB u = true) (hk : O.hp k = some (.cells cs)) (hl : off + c ≤ cs.length) : vload tab O t (.ptr k off) = some (.agg ((cs.drop off).take c)) := by simp [vload, cellsOf, hk, h, vcell, hu, hl]
theorem vstore_p {cs : List MV} {k off : Nat} {m : MV} (h : tab t = some ⟨u, 1, d, y⟩) (hm : mcells m = [m]) (hlf : leafB m = true) (hk : O.hp k = some (.cells cs)) (hl : off < cs.length) : vstore tab O t (.ptr k off) m = some (O.set k (.cells (cs.set off m))) := by
  simp [vstore, hk, h, hm, hlf, setMany]; omega
end
end
end Go.Proofs.YtjbpnhmjnkolbaaDoor

/-
  THE VALUE MACHINE, 11: heaps that go on from one another; what may be appended to; small words.
-/
set_option linter.unusedVariables false
set_option linter.unusedSimpArgs false
namespace Go.Proofs.YtjbpnhmjnkolbaaDoor
open Go.RowKit

def mi (x : Int) : MV := .v (.int .i64 x)
def mb (x : Bool) : MV := .v (.bool x)

/-- O' goes on from O: nothing that was there has turned. -/
structure VH.Ge (O O' : VH) : Prop where
  next : O.next ≤ O'.next
  hp : ∀ k, k < O.next → O'.hp k = O.hp k
section
variable {O O1 O2 : VH} {x : VObj} {k : Nat}
theorem VH.Ge.refl (O : VH) : O.Ge O := ⟨Nat.le_refl _, fun _ _ => rfl⟩
theorem VH.Ge.trans (h : O.Ge O1) (h2 : O1.Ge O2) : O.Ge O2 := ⟨Nat.le_trans h.next h2.next, fun k hk => (h2.hp k (Nat.lt_of_lt_of_le hk h.next)).trans (h.hp k hk)⟩
theorem VH.push_new (O : VH) (x : VObj) : (O.push x).hp O.next = some x := upd_same _ _ _
theorem VH.push_old (O : VH) (x : VObj) (h : k < O.next) : (O.push x).hp k = O.hp k := upd_other _ _ (by omega)
theorem VH.push_ne (O : VH) (x : VObj) (h : k ≠ O.next) : (O.push x).hp k = O.hp k := upd_other _ _ h
theorem VH.set_ne (O : VH) (x : VObj) {j : Nat} (h : j ≠ k) : (O.set k x).hp j = O.hp j := upd_other _ _ h
theorem VH.kill_ne (O : VH) {j : Nat} (h : j ≠ k) : (O.kill k).hp j = O.hp j := upd_other _ _ h
theorem VH.Ge.push (h : O.Ge O1) (x : VObj) : O.Ge (O1.push x) := h.trans ⟨Nat.le_succ _, fun _ hk => VH.push_old _ _ hk⟩
theorem VH.Ge.set (h : O.Ge O1) (hk : O.next ≤ k) (x : VObj) : O.Ge (O1.set k x) := ⟨h.next, fun j hj => (VH.set_ne _ _ (by omega)).trans (h.hp j hj)⟩
theorem VH.Ge.kill (h : O.Ge O1) (hk : O.next ≤ k) : O.Ge (O1.kill k) := ⟨h.next, fun j hj => (VH.kill_ne _ (by omega)).trans (h.hp j hj)⟩
theorem VH.next_push (O : VH) (x : VObj) : (O.push x).next = O.next + 1 := rfl
theorem VH.next_set (O : VH) (x : VObj) : (O.set k x).next = O.next := rfl
end

/-- To this slice may be appended; its token, if it has one, is at least B. -/
def App (O : VH) (B sz : Nat) : Tok → Prop
  | .nil => True
  | .full => True
  | .own t k => k = sz ∧ O.hp t = some .tok ∧ B ≤ t ∧ t < O.next
  | .unk => False
/-- What append leaves of the heap. -/
def VH.after (O : VH) : Tok → VH
  | .own t _ => (O.kill t).push .tok
  | _ => O.push .tok
theorem VH.after_next (O : VH) (tk : Tok) : (O.after tk).next = O.next + 1 := by cases tk <;> rfl
theorem VH.after_new (O : VH) (tk : Tok) : (O.after tk).hp O.next = some .tok := by
  cases tk <;> first | exact VH.push_new _ _ | exact VH.push_new (O.kill _) _
theorem App.after {O : VH} {B sz : Nat} {tk : Tok} (hB : B ≤ O.next) : App (O.after tk) B sz (.own O.next sz) := ⟨rfl, O.after_new tk, hB, by rw [O.after_next]; omega⟩
theorem VH.Ge.after {O O1 : VH} {B sz : Nat} {tk : Tok} (h : O.Ge O1) (ha : App O1 B sz tk) (hB : O.next ≤ B) : O.Ge (O1.after tk) := by
  cases tk with
  | own t k => exact (h.kill (Nat.le_trans hB ha.2.2.1)).push _
  | _ => exact h.push _
/-- A block that is no token's stands as it was behind an append. -/
theorem VH.after_hp {O : VH} {B sz : Nat} {tk : Tok} (ha : App O B sz tk) {k : Nat} {x : VObj} (hk : O.hp k = some x) (hx : x ≠ .tok) (hl : k < O.next) : (O.after tk).hp k = some x := by
  cases tk with
  | own t j =>
    refine (VH.push_old (O.kill t) _ hl).trans ?_
    rw [VH.kill_ne _ (fun e => by subst e; rw [ha.2.1] at hk; injection hk with hk; exact hx hk.symm)]
    exact hk
  | _ => exact (VH.push_old _ _ hl).trans hk
theorem vappend_app {tab : Tab} {O : VH} {t el : TypeId} {u : TypeDesc} {a b sz by' : Nat} {z y : List MV} (h : tab t = some ⟨.slice el, a, b, z⟩) (h2 : tab el = some ⟨u, sz, by', y⟩) {B n k : Nat} {cs ds : List MV} {tk tk' : Tok} (ha : App O B sz tk)
    (hc : cs.length = n * sz) (hd : ds.length = k * sz) (hl : ds.all leafB = true) (hs : 0 < sz) (hk : k ≠ 0) (hb : (n + k) * by' ≤ 140737488355328) (hm : n + k ≤ maxLen) :
    vappend tab O t (.sl n cs tk) (.sl k ds tk') = some (.sl (n + k) (cs ++ ds) (.own O.next sz), O.after tk) := by
  simp only [vappend, h, h2, Option.map_some]
  rw [if_pos ⟨hd, hl, hs⟩, if_neg hk, if_pos ⟨hc, hb, hm⟩]
  cases tk with
  | nil => rfl
  | full => rfl
  | own s j =>
    obtain ⟨rfl, h3, _⟩ := ha
    simp only [if_true, h3]
    rfl
  | unk => exact ha.elim

/-! ### Literals of one-cell elements -/
section
variable {tab : Tab} {t el : TypeId} {u : TypeDesc} {a b d : Nat} {z : List MV} {y m0 m1 m2 : MV}
theorem vbs0 (h : tab t = some ⟨.slice el, a, b, z⟩) (h2 : tab el = some ⟨u, 1, d, [y]⟩) : vbuildSlice tab t 0 [] = some (.sl 0 [] .full) := by
  simp [vbuildSlice, h, h2]
theorem vbs1 (h : tab t = some ⟨.slice el, a, b, z⟩) (h2 : tab el = some ⟨u, 1, d, [y]⟩) (e0 : mcells m0 = [m0]) : vbuildSlice tab t 1 [(0, m0)] = some (.sl 1 [m0] .full) := by
  simp [vbuildSlice, h, h2, vfill, vzeros, e0, setMany, maxLen, List.range_succ]
theorem vbs2 (h : tab t = some ⟨.slice el, a, b, z⟩) (h2 : tab el = some ⟨u, 1, d, [y]⟩) (e0 : mcells m0 = [m0]) (e1 : mcells m1 = [m1]) : vbuildSlice tab t 2 [(0, m0), (1, m1)] = some (.sl 2 [m0, m1] .full) := by
  simp [vbuildSlice, h, h2, vfill, vzeros, e0, e1, setMany, maxLen, List.range_succ]
theorem vbs3 (h : tab t = some ⟨.slice el, a, b, z⟩) (h2 : tab el = some ⟨u, 1, d, [y]⟩) (e0 : mcells m0 = [m0]) (e1 : mcells m1 = [m1]) (e2 : mcells m2 = [m2]) : vbuildSlice tab t 3 [(0, m0), (1, m1), (2, m2)] = some (.sl 3 [m0, m1, m2] .full) := by
  simp [vbuildSlice, h, h2, vfill, vzeros, e0, e1, e2, setMany, maxLen, List.range_succ]
end
section
variable {tab : Tab} {t el : TypeId} {u : TypeDesc} {a b d : Nat} {z : List MV} {y : MV} {v0 v1 v2 : Value}
theorem vbs1v (h : tab t = some ⟨.slice el, a, b, z⟩) (h2 : tab el = some ⟨u, 1, d, [y]⟩) : vbuildSlice tab t 1 [(0, .v v0)] = some (.sl 1 [.v v0] .full) := vbs1 h h2 rfl
theorem vbs2v (h : tab t = some ⟨.slice el, a, b, z⟩) (h2 : tab el = some ⟨u, 1, d, [y]⟩) : vbuildSlice tab t 2 [(0, .v v0), (1, .v v1)] = some (.sl 2 [.v v0, .v v1] .full) := vbs2 h h2 rfl rfl
theorem vbs3v (h : tab t = some ⟨.slice el, a, b, z⟩) (h2 : tab el = some ⟨u, 1, d, [y]⟩) : vbuildSlice tab t 3 [(0, .v v0), (1, .v v1), (2, .v v2)] = some (.sl 3 [.v v0, .v v1, .v v2] .full) := vbs3 h h2 rfl rfl rfl
end
theorem zp1 (i : Nat) (x : Operand) (m : MV) : zipParts #[(i, x)] [m] = [(i, m)] := rfl
theorem zp2 (i j : Nat) (x y : Operand) (m q : MV) : zipParts #[(i, x), (j, y)] [m, q] = [(i, m), (j, q)] := rfl
theorem zp3 (i j k : Nat) (x y z : Operand) (m q r : MV) : zipParts #[(i, x), (j, y), (k, z)] [m, q, r] = [(i, m), (j, q), (k, r)] := rfl
theorem mi_def (x : Int) : mi x = .v (.int .i64 x) := rfl
theorem mb_def (x : Bool) : mb x = .v (.bool x) := rfl
/-! ### Loops whose rounds are told by a state: of the slots only those of l are kept in mind -/
def looks (e : Env) : List Nat → Option (List MV)
  | [] => some []
  | t :: l => (look e t).bind fun m => (looks e l).map (m :: ·)
theorem looks_nil (e : Env) : looks e [] = some [] := rfl
theorem looks_cons (e : Env) (t : Nat) (l : List Nat) : looks e (t :: l) = (look e t).bind fun m => (looks e l).map (m :: ·) := rfl
def pair : List Nat → List MV → Env
  | t :: l, m :: ms => (t, m) :: pair l ms
  | _, _ => []
theorem pair_cons (t : Nat) (l : List Nat) (m : MV) (ms : List MV) : pair (t :: l) (m :: ms) = (t, m) :: pair l ms := rfl
theorem pair_nil (ms : List MV) : pair [] ms = [] := rfl
theorem look_pair {e : Env} : ∀ {l : List Nat} {ms : List MV}, looks e l = some ms → ∀ t x, look (pair l ms) t = some x → look e t = some x
  | [], ms, _, t, x, hx => by simp [pair, look] at hx
  | k :: l, ms, h, t, x, hx => by
    rw [looks_cons] at h
    obtain ⟨m, h1, h2⟩ := Option.bind_eq_some_iff.1 h
    obtain ⟨ms', h3, rfl⟩ := Option.map_eq_some_iff.1 h2
    rw [pair_cons, look_cons] at hx
    cases hb : t == k with
    | true =>
      rw [hb, cond_true] at hx
      injection hx with hx; subst hx
      have : t = k := by simpa using hb
      rw [this]; exact h1
    | false => rw [hb, cond_false] at hx; exact look_pair h3 t x hx
section
variable {n : Sz} {D : List Deferred} {e : Env} {P : Program} {O : VH} {Q : VQ} {c : Code}
theorem VC.loopS {σ : Type} (l : List Nat) (ms : σ → List MV) (I : σ → VH → Prop) (μ : σ → Nat) (s0 : σ) (h0 : looks e l = some (ms s0)) (hI : I s0 O)
    (step : ∀ s O, I s O → VC P n D c (pair l (ms s)) O fun x e' O' => match x with
      | .normal => ∃ s', looks e' l = some (ms s') ∧ I s' O' ∧ μ s' < μ s
      | x => Q x e' O') : VC P n D (.loop c) e O Q := by
  refine VC.loop (fun k e O => ∃ s, looks e l = some (ms s) ∧ I s O ∧ μ s = k) (k := μ s0) ⟨s0, h0, hI, rfl⟩ ?_
  rintro k e O ⟨s, h1, h2, rfl⟩
  refine VC.mono ?_ (VC.env (step s O h2) (look_pair h1))
  intro x e' O' h
  cases x <;> first
    | exact h
    | (obtain ⟨s', h3, h4, h5⟩ := h; exact ⟨_, h5, s', h3, h4, rfl⟩)
end
/-! ### The same rules with posts that have names: goals stay small -/
def SeqQ (P : Program) (n : Sz) (D : List Deferred) (d : Code) (Q : VQ) : VQ := fun x e O => match x with
  | .normal => VC P n D d e O Q
  | x => Q x e O
def BlockQ (id : Nat) (Q : VQ) : VQ := fun x e O => match x with
  | .exit i => if i = id then Q .normal e O else Q (.exit i) e O
  | x => Q x e O
def LoopQ {σ : Type} (l : List Nat) (ms : σ → List MV) (I : σ → VH → Prop) (μ : σ → Nat) (s : σ) (Q : VQ) : VQ := fun x e O => match x with
  | .normal => ∃ s', looks e l = some (ms s') ∧ I s' O ∧ μ s' < μ s
  | x => Q x e O
def EndQ (tab : Tab) (fn : Func) (R : VRes → VH → Prop) : VQ := fun x e O => match x with
  | .normal => ∃ m, vresults tab fn e O = some m ∧ R (.ret m) O
  | .ret => ∃ m, vresults tab fn e O = some m ∧ R (.ret m) O
  | .panic m => R (.panic m) O
  | _ => False
section
variable {n : Sz} {D : List Deferred} {e : Env} {P : Program} {O : VH} {Q : VQ} {c d : Code} {id i : Nat} {m : MV} {tab : Tab} {fn : Func} {R : VRes → VH → Prop}
theorem SeqQ_normal : SeqQ P n D d Q .normal e O = VC P n D d e O Q := rfl
theorem SeqQ_exit : SeqQ P n D d Q (.exit i) e O = Q (.exit i) e O := rfl
theorem SeqQ_goto : SeqQ P n D d Q (.goto i) e O = Q (.goto i) e O := rfl
theorem SeqQ_ret : SeqQ P n D d Q .ret e O = Q .ret e O := rfl
theorem SeqQ_panic : SeqQ P n D d Q (.panic m) e O = Q (.panic m) e O := rfl
theorem BlockQ_normal : BlockQ id Q .normal e O = Q .normal e O := rfl
theorem BlockQ_exit : BlockQ id Q (.exit i) e O = if i = id then Q .normal e O else Q (.exit i) e O := rfl
theorem BlockQ_goto : BlockQ id Q (.goto i) e O = Q (.goto i) e O := rfl
theorem BlockQ_ret : BlockQ id Q .ret e O = Q .ret e O := rfl
theorem BlockQ_panic : BlockQ id Q (.panic m) e O = Q (.panic m) e O := rfl
section
variable {σ : Type} {l : List Nat} {ms : σ → List MV} {I : σ → VH → Prop} {μ : σ → Nat} {s : σ}
theorem LoopQ_normal : LoopQ l ms I μ s Q .normal e O = ∃ s', looks e l = some (ms s') ∧ I s' O ∧ μ s' < μ s := rfl
theorem LoopQ_exit : LoopQ l ms I μ s Q (.exit i) e O = Q (.exit i) e O := rfl
theorem LoopQ_goto : LoopQ l ms I μ s Q (.goto i) e O = Q (.goto i) e O := rfl
theorem LoopQ_ret : LoopQ l ms I μ s Q .ret e O = Q .ret e O := rfl
theorem LoopQ_panic : LoopQ l ms I μ s Q (.panic m) e O = Q (.panic m) e O := rfl
end
theorem EndQ_normal : EndQ tab fn R .normal e O = ∃ m, vresults tab fn e O = some m ∧ R (.ret m) O := rfl
theorem EndQ_ret : EndQ tab fn R .ret e O = ∃ m, vresults tab fn e O = some m ∧ R (.ret m) O := rfl
theorem EndQ_panic : EndQ tab fn R (.panic m) e O = R (.panic m) O := rfl
theorem ScopeQ_normal : ScopeQ Q .normal e O = Q .normal e O := rfl
theorem ScopeQ_exit : ScopeQ Q (.exit i) e O = Q (.exit i) e O := rfl
theorem ScopeQ_ret : ScopeQ Q .ret e O = Q .ret e O := rfl
theorem ScopeQ_panic : ScopeQ Q (.panic m) e O = Q (.panic m) e O := rfl
theorem VC.seq' (h : VC P n D c e O (SeqQ P n D d Q)) : VC P n D (.seq c d) e O Q := VC.seq h
theorem VC.block' (h : VC P n D c e O (BlockQ id Q)) : VC P n D (.block id c) e O Q := VC.block h
theorem VC.loopS' {σ : Type} (l : List Nat) (ms : σ → List MV) (I : σ → VH → Prop) (μ : σ → Nat) (s0 : σ) (h0 : looks e l = some (ms s0)) (hI : I s0 O)
    (step : ∀ s O, I s O → VC P n D c (pair l (ms s)) O (LoopQ l ms I μ s Q)) : VC P n D (.loop c) e O Q := VC.loopS l ms I μ s0 h0 hI step
theorem VF.enter' (ht : TabOk P tab) {f : FuncId} {c : Code} {args : List MV} (hf : P.funcs[f]? = some fn) (hb : fn.body = some c) (hn : args.length ≤ fn.ntmps)
    (h : VC P ⟨fn.ntmps, 0⟩ [] c (argEnv 0 args) O (EndQ tab fn R)) : VF P f args O R := VF.enter ht hf hb hn h
end
/-! ### A region's run, told so that rewriting does not look into what is not yet at hand -/
def vk3 (tab : Tab) (n : Sz) (ops : Array Oper) (l : List Oper) (e : Env) (O : VH) : Bool → Option (Env × VH)
  | true => vrunL tab n ops l e O
  | false => none
def vk2 (tab : Tab) (n : Sz) (ops : Array Oper) (d : Option Tmp) (l : List Oper) (e : Env) : Option (MV × VH) → Option (Env × VH)
  | some (m, O') => vk3 tab n ops l (putM d m e) O' (dstB n d)
  | none => none
def vk1 (tab : Tab) (n : Sz) (ops : Array Oper) (o : Oper) (l : List Oper) (e : Env) (O : VH) : Option Bool → Option (Env × VH)
  | some true => vk2 tab n ops o.dst l e (vop tab o e O)
  | some false => vk3 tab n ops l (putM o.dst undefM e) O (dstB n o.dst)
  | none => none
section
variable {tab : Tab} {n : Sz} {ops : Array Oper} {o : Oper} {l : List Oper} {e : Env} {O O' : VH} {d : Option Tmp} {m : MV}
theorem vrunK : vrunL tab n ops (o :: l) e O = vk1 tab n ops o l e O (vguard ops o e) := by
  rw [vrunL_cons]
  unfold vk1
  cases vguard ops o e with
  | none => rfl
  | some b =>
    cases b with
    | false => rw [Option.bind_some, if_neg (by decide)]; unfold vk3; cases dstB n o.dst <;> rfl
    | true =>
      rw [Option.bind_some, if_pos rfl]
      unfold vk2
      cases vop tab o e O with
      | none => rfl
      | some r => rw [Option.bind_some]; unfold vk3; cases dstB n o.dst <;> rfl
theorem vk1_true : vk1 tab n ops o l e O (some true) = vk2 tab n ops o.dst l e (vop tab o e O) := rfl
theorem vk1_false : vk1 tab n ops o l e O (some false) = vk3 tab n ops l (putM o.dst undefM e) O (dstB n o.dst) := rfl
theorem vk2_some : vk2 tab n ops d l e (some (m, O')) = vk3 tab n ops l (putM d m e) O' (dstB n d) := rfl
theorem vk3_true : vk3 tab n ops l e O true = vrunL tab n ops l e O := rfl
theorem putM_some (k : Nat) : putM (some k) m e = (k, m) :: e := rfl
theorem putM_none : putM none m e = e := rfl
theorem dstB_some {k N : Nat} : dstB ⟨N, 0⟩ (some k) = decide (k < N) := by simp [dstB]
theorem dstB_lo {k N l : Nat} : dstB ⟨N, l + 1⟩ (some k) = (decide (l < k) && decide (k < N)) := rfl
theorem dstB_none : dstB n none = true := rfl
end
section
variable {tab : Tab} {fn : Func} {R : VRes → VH → Prop} {e : Env} {O : VH} {m m' : MV} {t t' : Nat}
theorem EndQ.ret0 (hf : fn.results = #[]) (h : R (.ret (.tuple [])) O) : EndQ tab fn R .ret e O := ⟨_, by rw [vresults, hf]; rfl, h⟩
theorem EndQ.ret1 (hf : fn.results = #[.tmp t]) (hl : look e t = some m) (h : R (.ret m) O) : EndQ tab fn R .ret e O := ⟨_, by rw [vresults, hf]; simp [vresult, hl], h⟩
theorem EndQ.ret2 (hf : fn.results = #[.tmp t, .tmp t']) (hl : look e t = some m) (hl' : look e t' = some m') (h : R (.ret (.tuple [m, m'])) O) : EndQ tab fn R .ret e O := ⟨_, by rw [vresults, hf]; simp [vresult, hl, hl'], h⟩
theorem EndQ.nor0 (hf : fn.results = #[]) (h : R (.ret (.tuple [])) O) : EndQ tab fn R .normal e O := ⟨_, by rw [vresults, hf]; rfl, h⟩
end
end Go.Proofs.YtjbpnhmjnkolbaaDoor
