/-
  THE VALUE MACHINE, 8: a region that draws its order.
-/
import Derived.Test.YtjbpnhmjnkolbaaDoorV7
set_option linter.unusedVariables false
set_option linter.unusedSimpArgs false
namespace Go.Proofs.YtjbpnhmjnkolbaaDoor
open Go.RowKit

section
variable {G H : Gh} {n : Nat} {D : List Deferred} {e e' : Env} {a : Act} {P : Program} {tab : Tab} {O O' : VH} {w : World} {m m' : MV} {u v : Value} {ops : Array Oper} {Q : VQ}

/-- Whatever order is drawn from here on. -/
def VAny (P : Program) (n : Nat) (D : List Deferred) (ops : Array Oper) (fuel : Nat) (listed : Array Bool) (e : Env) (O : VH) (Q : VQ) : Prop :=
  ∀ G a w, WR G O w → FR G n D e a → wpAnyH P .any ops (VPost G n D Q) (SS G) fuel listed a w

theorem VC.draw {id : Nat} (hm : P.follows .mixedOrders = true) (h : VAny P n D ops ops.size (Array.replicate ops.size false) e O Q) : VC P n D (.region id ops true) e O Q :=
  fun G a w hw hf => wp_region_held (S := SS G) hm (h G a _ (hw.drawn _) hf)

theorem panic_put {d : Option Tmp} {v : Value} (c : List PanicEntry) (a : Act) (w : World) (h : VPost G n D Q (.panic c) (a.put d v) w) : VPost G n D Q (.panic c) a w := by
  obtain ⟨x, e, O, H, h1, h2, h3, h4, h5⟩ := h
  cases x with
  | panic m =>
    obtain ⟨rfl, h3⟩ := h3
    have hd : a.defers = D := by
      have := h3.defers
      cases d <;> exact this
    have hz : a.tmps.size = n := by
      have := h3.size
      cases d with
      | none => exact this
      | some d => simpa [Act.put] using this
    exact ⟨.panic m, [], O, H, h1, h2, ⟨rfl, hd, hz, fun t x hx => by cases hx⟩, h4, h5⟩
  | _ => exact False.elim h4

/-- An operation that is ready and silent may come first. -/
theorem VAny.silent (ht : TabOk P tab) {fuel i : Nat} {listed : Array Bool} {o : Oper} (ho : ops[i]? = some o) (hs : Region.noSelect ops = true) (hf : Region.free .any ops listed i = true) (hr : (Region.ready .any ops listed).contains i = true)
    (hg : vguard ops o e = some true) (hv : vsil tab o e = some m) (hd : dstB n o.dst = true) (h : VAny P n D ops fuel (listed.setIfInBounds i true) (putM o.dst m e) O Q) : VAny P n D ops (fuel + 1) listed e O Q := by
  intro G a w hw hfr
  obtain ⟨u, hu, hrun⟩ := vsil_ok (P := P) ht hfr hv
  exact wpAnyH_take ho hs hf hr panic_put (.inl ⟨vguard_ok hfr hg, hrun⟩) hw.ss (h G _ w hw (hfr.putM hd hu))
theorem VAny.skipped {fuel i : Nat} {listed : Array Bool} {o : Oper} (ho : ops[i]? = some o) (hs : Region.noSelect ops = true) (hf : Region.free .any ops listed i = true) (hr : (Region.ready .any ops listed).contains i = true)
    (hg : vguard ops o e = some false) (hd : dstB n o.dst = true) (h : VAny P n D ops fuel (listed.setIfInBounds i true) (putM o.dst undefM e) O Q) : VAny P n D ops (fuel + 1) listed e O Q := by
  intro G a w hw hfr
  exact wpAnyH_take ho hs hf hr panic_put (.inr ⟨vguard_ok hfr hg, rfl⟩) hw.ss (h G _ w hw (hfr.putM hd undef_ok))
theorem VAny.done {fuel : Nat} {listed : Array Bool} (hr : Region.ready .any ops listed = []) (h : Q .normal e O) : VAny P n D ops fuel listed e O Q :=
  fun G a w hw hfr => wpAnyH_done hr ⟨.normal, e, O, G, Gh.Le.refl G, hw, hfr, trivial, h⟩ fuel

theorem wpAnyH_imp {Q Q' : Exit → Act → World → Prop} {S S' : World → Prop} (hQ : ∀ y a w, Q y a w → Q' y a w) (hS : ∀ w, S w → S' w) : ∀ (fuel : Nat) (listed : Array Bool) (a : Act) (w : World), wpAnyH P .any ops Q S fuel listed a w → wpAnyH P .any ops Q' S' fuel listed a w := by
  intro fuel
  induction fuel with
  | zero => intro listed a w h; exact ⟨h.1, hQ _ _ _ h.2⟩
  | succ fuel ih =>
    intro listed a w h
    refine ⟨fun h0 => hQ _ _ _ (h.1 h0), fun i hi => ?_⟩
    have h1 := wpOp_mono (K' := fun a' w' => S' w' ∧ wpAnyH P .any ops Q' S' fuel (listed.setIfInBounds i true) a' w') (fun a' w' h' => ⟨hS _ h'.1, ih _ _ _ h'.2⟩) (h.2 i hi)
    unfold wpOp at h1 ⊢
    split
    · rename_i ho; simp only [ho] at h1; exact h1
    · rename_i o ho
      simp only [ho] at h1
      split
      · rename_i hwn
        simp only [hwn, if_true] at h1
        refine h1.imp (fun h2 => ?_) (fun ⟨h2, a', w', h3⟩ => ⟨h2, a', w', hQ _ _ _ h3⟩)
        unfold Oper.wp at h2 ⊢
        generalize (execOp a.eval o).run P w = r at *
        cases r with
        | ok nx w' =>
          cases nx <;> simp only [Oper.upon] at h2 ⊢ <;> first
            | exact h2
            | (refine Calls.mono h2 fun x w'' he => ?_
               cases x with
               | returned v => exact he
               | panicked c => exact hQ _ _ _ he
               | outgrown => obtain ⟨a', w', h3⟩ := he; exact ⟨a', w', hQ _ _ _ h3⟩)
        | halt x w' => cases x <;> simp only [Oper.upon] at h2 ⊢ <;> first | exact h2 | exact hQ _ _ _ h2
      · rename_i hwn
        simp only [hwn] at h1; exact h1
theorem SS.le (h : G.Le H) {w : World} (hs : SS H w) : SS G w := fun b o u hc => hs b o u (h.com hc)

/-- One operation of a region: what it gives, whichever rule says so. -/
def VOne (P : Program) (n : Nat) (D : List Deferred) (ops : Array Oper) (i : Nat) (e : Env) (O : VH) (Q : VQ) (K : Env → VH → Prop) : Prop :=
  ∀ G a w, WR G O w → FR G n D e a → wpOp P ops (VPost G n D Q) i (fun a' w' => ∃ e' O' H, Gh.Le G H ∧ WR H O' w' ∧ FR H n D e' a' ∧ K e' O') a w
theorem VOne.op (ht : TabOk P tab) {i : Nat} {o : Oper} {K : Env → VH → Prop} (ho : ops[i]? = some o) (hg : vguard ops o e = some true) (hv : vop tab o e O = some (m, O')) (hd : dstB n o.dst = true) (hk : K (putM o.dst m e) O') : VOne P n D ops i e O Q K := by
  intro G a w hw hfr
  obtain ⟨nx, w', H, u, hr, hnx, h1, h2, h3, _⟩ := vop_ok (P := P) ht hw hfr hv
  simp only [wpOp, ho, vguard_ok hfr hg, if_true]
  refine .inl ?_
  unfold Oper.wp
  rw [hr]
  have : ∃ e' O' H, Gh.Le G H ∧ WR H O' w' ∧ FR H n D e' (a.put o.dst u) ∧ K e' O' := ⟨_, _, H, h1, h2, (hfr.mono h1).putM hd h3, hk⟩
  rcases hnx with rfl | ⟨rfl, rfl⟩ <;> exact this
theorem VOne.call {i : Nat} {o : Oper} {c : Call} {f : Operand} {id : FuncId} {fs ms cs : List MV} {R : VRes → VH → Prop} {K : Env → VH → Prop} (ho : ops[i]? = some o) (hg : vguard ops o e = some true) (hop : o.op = .call c) (hc : c.callee = .value f)
    (hf : ev e f = some (.func (.func id) fs cs)) (hm : evs e c.args.toList = some ms) (hE : Enters P id) (hd : dstB n o.dst = true) (hR : VF P id (fs ++ ms ++ cs) O R)
    (h : ∀ r O', R r O' → match r with
      | .ret m => K (putM o.dst m e) O'
      | .panic m => Q (.panic m) [] O') : VOne P n D ops i e O Q K := by
  intro G a w hw hfr
  have hfv := hfr.ev hf
  generalize hfe : a.eval f = fv at hfv
  cases hfv with
  | func h1 h2 h3 h4 =>
    rename_i us vs
    have hargs := hfr.evs hm
    have hall := VRs.append (VRs.append (show VRs G fs us from ⟨h1, h2⟩) hargs) (show VRs G cs vs from ⟨h3, h4⟩)
    have hrun : (execOp a.eval o).run P w = .ok (.enter id (us ++ c.args.toList.map a.eval ++ vs).toArray) w := by
      have ha : c.args.map a.eval = (c.args.toList.map a.eval).toArray := by apply Array.ext'; simp
      have : us.toArray ++ c.args.map a.eval ++ vs.toArray = (us ++ c.args.toList.map a.eval ++ vs).toArray := by apply Array.ext'; simp [ha]
      simp only [execOp, hop, resolve, hc, hfe, Deferred.ofValue, Sem.run_bind, Sem.run_pure, Result.andThen_ok, invoke, hE _ w]
      rw [this]
    simp only [wpOp, ho, vguard_ok hfr hg, if_true]
    refine .inl ?_
    unfold Oper.wp
    rw [hrun]
    show Calls P id _ w _
    refine (hR G w _ hw hall).mono ?_
    rintro x w' ⟨r, O', H, g1, g2, g3, g4⟩
    have hk := h r O' g4
    cases r with
    | ret m =>
      cases x with
      | returned v => exact ⟨_, _, H, g1, g2, (hfr.mono g1).putM hd g3, hk⟩
      | panicked c => exact g3.elim
      | outgrown => exact g3.elim
    | panic m =>
      cases x with
      | returned v => exact g3.elim
      | panicked c => exact ⟨.panic m, [], O', H, g1, g2, ⟨rfl, (hfr.mono g1).less fun t x hx => by cases hx⟩, g3, hk⟩
      | outgrown => exact g3.elim
theorem VOps.one {i : Nat} {l : List Nat} (h : VOne P n D ops i e O Q fun e' O' => VOps P n D ops l e' O' Q) : VOps P n D ops (i :: l) e O Q := by
  intro G a w hw hfr
  rw [wpOps_cons]
  exact wpOp_mono (fun a' w' ⟨e', O', H, h1, h2, h3, h4⟩ => wpOps_imp (fun _ _ _ => VPost.le h1) l _ _ (h4 H a' w' h2 h3)) (h G a w hw hfr)
/-- Whichever of those that are ready comes up. -/
theorem VAny.all {fuel : Nat} {listed : Array Bool} {rs : List Nat} (hr : Region.ready .any ops listed = rs) (hne : rs ≠ [])
    (h : ∀ i ∈ rs, VOne P n D ops i e O Q fun e' O' => VAny P n D ops fuel (listed.setIfInBounds i true) e' O' Q) : VAny P n D ops (fuel + 1) listed e O Q := by
  intro G a w hw hfr
  refine wpAnyH_all hr hne fun i hi => ?_
  exact wpOp_mono (fun a' w' ⟨e', O', H, h1, h2, h3, h4⟩ => ⟨SS.le h1 h2.ss, wpAnyH_imp (fun _ _ _ => VPost.le h1) (fun _ => SS.le h1) fuel _ _ _ (h4 H a' w' h2 h3)⟩) (h i hi G a w hw hfr)
/-! ### Regions in which reads may come ahead of what makes memory -/
/-- Whatever order is picked from here on; behind operation j holds T j. -/
def wpAnyT (P : Program) (md : Region.Mode) (ops : Array Oper) (Q : Exit → Act → World → Prop) (T : Nat → World → Prop) : Nat → Array Bool → Act → World → Prop
  | 0, listed, a, w => Region.ready md ops listed = [] ∧ Q .normal a w
  | fuel + 1, listed, a, w =>
    (Region.ready md ops listed = [] → Q .normal a w) ∧
    ∀ i ∈ Region.ready md ops listed, wpOp P ops Q i (fun a' w' => T i w' ∧ wpAnyT P md ops Q T fuel (listed.setIfInBounds i true) a' w') a w
section
variable {md : Region.Mode} {Q : Exit → Act → World → Prop} {T : Nat → World → Prop}
theorem wpAny_of_T : ∀ (fuel : Nat) (listed : Array Bool) (a : Act) (w : World), wpAnyT P md ops Q T fuel listed a w → wpAny P md ops Q fuel listed a w
  | 0, _, _, _, h => h
  | fuel + 1, _, _, _, h => ⟨h.1, fun i hi => wpOp_mono (fun a' w' h' => wpAny_of_T fuel _ a' w' h'.2) (h.2 i hi)⟩
theorem wpAnyT_first {S : World → Prop} {W : Nat → Prop} {brk : Nat → Bool} {i : Nat} {oi : Oper} {v : Value} (hi : ops[i]? = some oi) (hsel : ∀ (j : Nat) (o : Oper) cs b, ops[j]? = some o → o.op ≠ .select cs b)
    (hQ : ∀ c a w, Q (.panic c) (a.put oi.dst v) w → Q (.panic c) a w) (hT : ∀ j x, brk j = false → T j x → S x) (hTi : ∀ x, S x → T i x) :
    ∀ (fuel : Nat) (listed : Array Bool) (a : Act) (w : World),
      (∀ j oj, ops[j]? = some oj → j ≠ i → listed.getD j true = false → (∀ e ∈ oj.after, Region.binds md e = true → e.on ≠ i) → oi.apart ops oj = true) →
      (∀ j oj, ops[j]? = some oj → W j → ∃ e ∈ oj.after, Region.binds md e = true ∧ (e.on = i ∨ W e.on)) → (∀ j, W j → listed.getD j true = false) → (∀ j, j ≠ i → listed.getD j true = false → brk j = true → W j) →
      i ∈ Region.ready md ops listed → YieldsIf P ops S oi v a → S w →
      wpAnyT P md ops Q T fuel (listed.setIfInBounds i true) (a.put oi.dst v) w → wpAnyT P md ops Q T (fuel + 1) listed a w := by
  intro fuel
  induction fuel with
  | zero =>
    intro listed a w _ _ _ _ hr hy hS H
    refine ⟨fun h => (by rw [h] at hr; cases hr), fun j hj => ?_⟩
    by_cases hji : j = i
    · subst hji; exact hy.wpOp hi hS ⟨hTi _ hS, H⟩
    · have := ready_mono hj hji
      rw [H.1] at this
      cases this
  | succ fuel ih =>
    intro listed a w hfree hW hWu hbrk hr hy hS H
    refine ⟨fun h => (by rw [h] at hr; cases hr), fun j hj => ?_⟩
    by_cases hji : j = i
    · subst hji; exact hy.wpOp hi hS ⟨hTi _ hS, H⟩
    · have h1 := H.2 j (ready_mono hj hji)
      obtain ⟨hjun, oj, hoj, hall⟩ := mem_ready.1 hj
      have hnot : ∀ e ∈ oj.after, Region.binds md e = true → e.on ≠ i := fun e he hb heq => by
        have h1 := hall e he hb
        have h0 := (mem_ready.1 hr).1
        rw [heq] at h1
        rcases Nat.lt_or_ge i listed.size with h' | h'
        · simp [h'] at h0 h1; rw [h0] at h1; cases h1
        · simp [Array.getElem?_eq_none h'] at h1
      have hnW : ¬ W j := fun hw => by
        obtain ⟨e, he, hb1, hb2⟩ := hW j oj hoj hw
        rcases hb2 with hb2 | hb2
        · exact absurd hb2 (hnot e he hb1)
        · have h1 := hall e he hb1
          have h0 := hWu _ hb2
          rcases Nat.lt_or_ge e.on listed.size with h' | h'
          · simp [h'] at h0 h1; rw [h0] at h1; cases h1
          · simp [Array.getElem?_eq_none h'] at h1
      have hjb : brk j = false := by
        cases hb : brk j with
        | false => rfl
        | true => exact absurd (hbrk j hji hjun hb) hnW
      have h2 := wpOp_putIf hoj (hfree j oj hoj hji hjun hnot) (fun cs b => hsel i oi cs b hi) (fun cs b => hsel j oj cs b hoj) hQ hy h1
      have hun' : ∀ k, (listed.setIfInBounds j true).getD k true = false → listed.getD k true = false := fun k hun => by
        by_cases hjk : j = k
        · subst hjk; exact hjun
        · rw [getD_set_ne true hjk] at hun; exact hun
      refine wpOp_mono (fun a' w' h3 => ⟨h3.2.1, ih (listed.setIfInBounds j true) a' w' (fun k ok hk hki hun hno => hfree k ok hk hki (hun' k hun) hno) hW (fun k hk => by
        by_cases hjk : j = k
        · subst hjk; exact absurd hk hnW
        · rw [getD_set_ne true hjk]; exact hWu k hk) (fun k hki hun hb => hbrk k hki (hun' k hun) hb) (ready_mono hr (Ne.symm hji)) h3.1 (hT j _ hjb h3.2.1) ?_⟩) h2
      rw [Array.setIfInBounds_comm _ _ hji]
      exact h3.2.2
theorem wpAnyT_all {rs : List Nat} {fuel : Nat} {listed : Array Bool} {a : Act} {w : World} (hr : Region.ready md ops listed = rs) (hne : rs ≠ [])
    (h : ∀ i ∈ rs, wpOp P ops Q i (fun a' w' => T i w' ∧ wpAnyT P md ops Q T fuel (listed.setIfInBounds i true) a' w') a w) : wpAnyT P md ops Q T (fuel + 1) listed a w :=
  ⟨fun h0 => absurd (hr ▸ h0) hne, hr ▸ h⟩
theorem wpAnyT_done {listed : Array Bool} {a : Act} {w : World} (hr : Region.ready md ops listed = []) (h : Q .normal a w) : ∀ fuel, wpAnyT P md ops Q T fuel listed a w
  | 0 => ⟨hr, h⟩
  | _ + 1 => ⟨fun _ => h, by rw [hr]; simp⟩
theorem wpOp_imp {Q Q' : Exit → Act → World → Prop} (hQ : ∀ y a w, Q y a w → Q' y a w) {i : Nat} {K : Act → World → Prop} {a : Act} {w : World} (h1 : wpOp P ops Q i K a w) : wpOp P ops Q' i K a w := by
  unfold wpOp at h1 ⊢
  split
  · rename_i ho; simp only [ho] at h1; exact h1
  · rename_i o ho
    simp only [ho] at h1
    split
    · rename_i hwn
      simp only [hwn, if_true] at h1
      refine h1.imp (fun h2 => ?_) (fun ⟨h2, a', w', h3⟩ => ⟨h2, a', w', hQ _ _ _ h3⟩)
      unfold Oper.wp at h2 ⊢
      generalize (execOp a.eval o).run P w = r at *
      cases r with
      | ok nx w' =>
        cases nx <;> simp only [Oper.upon] at h2 ⊢ <;> first
          | exact h2
          | (refine Calls.mono h2 fun x w'' he => ?_
             cases x with
             | returned v => exact he
             | panicked c => exact hQ _ _ _ he
             | outgrown => obtain ⟨a', w', h3⟩ := he; exact ⟨a', w', hQ _ _ _ h3⟩)
      | halt x w' => cases x <;> simp only [Oper.upon] at h2 ⊢ <;> first | exact h2 | exact hQ _ _ _ h2
    · rename_i hwn
      simp only [hwn] at h1; exact h1
theorem wpAnyT_imp {Q Q' : Exit → Act → World → Prop} {T T' : Nat → World → Prop} (hQ : ∀ y a w, Q y a w → Q' y a w) : ∀ (fuel : Nat) (listed : Array Bool) (a : Act) (w : World), (∀ j, listed.getD j true = false → ∀ x, T j x → T' j x) →
    wpAnyT P .any ops Q T fuel listed a w → wpAnyT P .any ops Q' T' fuel listed a w := by
  intro fuel
  induction fuel with
  | zero => intro listed a w _ h; exact ⟨h.1, hQ _ _ _ h.2⟩
  | succ fuel ih =>
    intro listed a w hT h
    refine ⟨fun h0 => hQ _ _ _ (h.1 h0), fun i hi => ?_⟩
    have hun := (mem_ready.1 hi).1
    exact wpOp_imp hQ (wpOp_mono (fun a' w' h' => ⟨hT i hun _ h'.1, ih _ _ _ (fun j hj x => hT j (by
      by_cases hij : i = j
      · subst hij; exact hun
      · rw [getD_set_ne true hij] at hj; exact hj) x) h'.2⟩) (h.2 i hi))
end
/-- What holds behind operation j: if it breaks nothing, all that is known is held. -/
def TH (brk : List Nat) (G : Gh) (w : World) (j : Nat) (x : World) : Prop := brk.contains j = false → Sx G w x
/-- Whatever order is drawn from here on, in a region whose reads come ahead of what breaks them. -/
def VAnyT (P : Program) (n : Nat) (D : List Deferred) (ops : Array Oper) (brk : List Nat) (fuel : Nat) (listed : Array Bool) (e : Env) (O : VH) (Q : VQ) : Prop :=
  ∀ G a w, WR G O w → FR G n D e a → wpAnyT P .any ops (VPost G n D Q) (TH brk G w) fuel listed a w
theorem Sx.drawn {w x : World} {k : Nat} (h : Sx G { w with drawn := k } x) : Sx G w x := h
theorem VC.drawT {id : Nat} (brk : List Nat) (hm : P.follows .mixedOrders = true) (h : VAnyT P n D ops brk ops.size (Array.replicate ops.size false) e O Q) : VC P n D (.region id ops true) e O Q :=
  fun G a w hw hf => wp_region_any hm (wpAny_of_T _ _ _ _ (h G a _ (hw.drawn _) hf))
theorem VAnyT.done {brk : List Nat} {fuel : Nat} {listed : Array Bool} (hr : Region.ready .any ops listed = []) (h : Q .normal e O) : VAnyT P n D ops brk fuel listed e O Q :=
  fun G a w hw hfr => wpAnyT_done hr ⟨.normal, e, O, G, Gh.Le.refl G, hw, hfr, trivial, h⟩ fuel
/-- The operations that wait for operation i. -/
def waitsF (ops : Array Oper) (listed : Array Bool) (i : Nat) : Nat → List Nat
  | 0 => []
  | k + 1 => (List.range ops.size).filter fun j => !listed.getD j true && ((ops[j]?).map fun o => o.after.any fun e => Region.binds .any e && (e.on == i || (waitsF ops listed i k).contains e.on)).getD false
/-- The operations that break wait for operation i. -/
def waitB (ops : Array Oper) (brk : List Nat) (listed : Array Bool) (i : Nat) : Bool :=
  brk.all fun j => listed.getD j true || j == i || (waitsF ops listed i ops.size).contains j
theorem waits_edge {listed : Array Bool} {i : Nat} (j : Nat) (oj : Oper) (hj : ops[j]? = some oj) (h : ∃ k, j ∈ waitsF ops listed i k) : ∃ e ∈ oj.after, Region.binds .any e = true ∧ (e.on = i ∨ ∃ k, e.on ∈ waitsF ops listed i k) := by
  obtain ⟨k, hk⟩ := h
  cases k with
  | zero => cases hk
  | succ k =>
    simp only [waitsF, List.mem_filter, hj, Option.map_some, Option.getD_some, Bool.and_eq_true] at hk
    obtain ⟨e, he, h2⟩ := Array.any_eq_true'.1 hk.2.2
    simp only [Bool.and_eq_true, Bool.or_eq_true, beq_iff_eq] at h2
    refine ⟨e, he, h2.1, ?_⟩
    rcases h2.2 with h3 | h3
    · exact .inl h3
    · exact .inr ⟨k, by simpa using h3⟩
theorem waits_un {listed : Array Bool} {i : Nat} (j : Nat) (h : ∃ k, j ∈ waitsF ops listed i k) : listed.getD j true = false := by
  obtain ⟨k, hk⟩ := h
  cases k with
  | zero => cases hk
  | succ k =>
    simp only [waitsF, List.mem_filter, Bool.and_eq_true, Bool.not_eq_true'] at hk
    exact hk.2.1
theorem waitB_ok {brk : List Nat} {listed : Array Bool} {i : Nat} (h : waitB ops brk listed i = true) : ∀ j, j ≠ i → listed.getD j true = false → brk.contains j = true → ∃ k, j ∈ waitsF ops listed i k := by
  intro j hne hun hb
  have := List.all_eq_true.1 h j (by simpa using hb)
  simp only [hun, Bool.false_or, Bool.or_eq_true, beq_iff_eq, hne, false_or] at this
  exact ⟨_, by simpa using this⟩
/-- An operation that yields a value in every world that holds what is known may come first. -/
theorem VAnyT.take {brk : List Nat} {fuel i : Nat} {listed : Array Bool} {o : Oper} (ho : ops[i]? = some o) (hs : Region.noSelect ops = true) (hf : Region.free .any ops listed i = true) (hr : (Region.ready .any ops listed).contains i = true) (hb : waitB ops brk listed i = true)
    (hd : dstB n o.dst = true) (hy : ∀ G a w, WR G O w → FR G n D e a → ∃ u, VR G m u ∧ YieldsIf P ops (Sx G w) o u a) (h : VAnyT P n D ops brk fuel (listed.setIfInBounds i true) (putM o.dst m e) O Q) : VAnyT P n D ops brk (fuel + 1) listed e O Q := by
  intro G a w hw hfr
  obtain ⟨u, hu, hyi⟩ := hy G a w hw hfr
  refine wpAnyT_first (S := Sx G w) (W := fun j => ∃ k, j ∈ waitsF ops listed i k) (brk := fun j => brk.contains j) ho (Region.noSelect_spec hs) panic_put (fun j x hj hT => hT hj) (fun x hx _ => hx) fuel listed a w (Region.free_spec ho hf) waits_edge waits_un (waitB_ok hb) (by simpa using hr) hyi hw.sx (h G _ w hw (hfr.putM hd hu))
/-- One operation alone. -/
theorem VAnyT.one (ht : TabOk P tab) {brk : List Nat} {fuel i : Nat} {listed : Array Bool} {o : Oper} (ho : ops[i]? = some o) (hr : Region.ready .any ops listed = [i]) (hb : (brk.contains i = false ∧ opA o.op = true) ∨ ∀ j, (listed.setIfInBounds i true).getD j true = false ∨ j = i → brk.contains j = true)
    (hg : vguard ops o e = some true) (hv : vop tab o e O = some (m, O')) (hd : dstB n o.dst = true) (h : VAnyT P n D ops brk fuel (listed.setIfInBounds i true) (putM o.dst m e) O' Q) : VAnyT P n D ops brk (fuel + 1) listed e O Q := by
  intro G a w hw hfr
  refine wpAnyT_all hr (by simp) fun j hj => ?_
  obtain rfl : j = i := by simpa using hj
  obtain ⟨nx, w', H, u, hrun, hnx, h1, h2, h3, h4⟩ := vop_ok (P := P) ht hw hfr hv
  simp only [wpOp, ho, vguard_ok hfr hg, if_true]
  refine .inl ?_
  unfold Oper.wp
  rw [hrun]
  have hk := h H (a.put o.dst u) w' h2 ((hfr.mono h1).putM hd h3)
  have hres : TH brk G w j w' ∧ wpAnyT P .any ops (VPost G n D Q) (TH brk G w) fuel (listed.setIfInBounds j true) (a.put o.dst u) w' := by
    rcases hb with ⟨hb1, hb2⟩ | hb
    · have hkeep := h4 hb2
      have hs : Sx G w w' := ⟨SS.le h1 h2.ss, hkeep⟩
      refine ⟨fun _ => hs, wpAnyT_imp (fun _ _ _ => VPost.le h1) _ _ _ _ (fun k _ x hT hk' => ?_) hk⟩
      obtain ⟨g1, g2⟩ := hT hk'
      exact ⟨SS.le h1 g1, fun k' b hb' => (g2 k' b (h1.phi hb')).trans (hkeep k' b hb')⟩
    · refine ⟨fun hh => ?_, wpAnyT_imp (fun _ _ _ => VPost.le h1) _ _ _ _ (fun k hk' x _ hh => ?_) hk⟩
      · rw [hb j (.inr rfl)] at hh; cases hh
      · rw [hb k (.inl hk')] at hh; cases hh
  rcases hnx with rfl | ⟨rfl, rfl⟩ <;> exact hres
theorem VAnyT.skip1 {brk : List Nat} {fuel i : Nat} {listed : Array Bool} {o : Oper} (ho : ops[i]? = some o) (hr : Region.ready .any ops listed = [i]) (hb : (brk.contains i = false ∧ opA o.op = true) ∨ ∀ j, (listed.setIfInBounds i true).getD j true = false ∨ j = i → brk.contains j = true)
    (hg : vguard ops o e = some false) (hd : dstB n o.dst = true) (h : VAnyT P n D ops brk fuel (listed.setIfInBounds i true) (putM o.dst undefM e) O Q) : VAnyT P n D ops brk (fuel + 1) listed e O Q := by
  intro G a w hw hfr
  refine wpAnyT_all hr (by simp) fun j hj => ?_
  obtain rfl : j = i := by simpa using hj
  simp only [wpOp, ho, vguard_ok hfr hg, Bool.false_eq_true, if_false]
  exact ⟨fun _ => hw.sx, h G _ w hw (hfr.putM hd undef_ok)⟩
theorem VAnyT.oneB {brk : List Nat} {fuel i : Nat} {listed : Array Bool} (hr : Region.ready .any ops listed = [i]) (hb : ∀ j, (listed.setIfInBounds i true).getD j true = false ∨ j = i → brk.contains j = true)
    (h : VOne P n D ops i e O Q fun e' O' => VAnyT P n D ops brk fuel (listed.setIfInBounds i true) e' O' Q) : VAnyT P n D ops brk (fuel + 1) listed e O Q := by
  intro G a w hw hfr
  refine wpAnyT_all hr (by simp) fun j hj => ?_
  obtain rfl : j = i := by simpa using hj
  refine wpOp_mono (fun a' w' ⟨e', O', H, h1, h2, h3, h4⟩ => ⟨fun hh => ?_, wpAnyT_imp (fun _ _ _ => VPost.le h1) _ _ _ _ (fun k hk' x _ hh => ?_) (h4 H a' w' h2 h3)⟩) (h G a w hw hfr)
  · rw [hb j (.inr rfl)] at hh; cases hh
  · rw [hb k (.inl hk')] at hh; cases hh
end
end Go.Proofs.YtjbpnhmjnkolbaaDoor
