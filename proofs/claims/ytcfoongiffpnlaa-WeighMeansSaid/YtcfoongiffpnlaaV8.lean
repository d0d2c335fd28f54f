/-
  THE VALUE MACHINE, 8: a region that draws its order.
-/
import Derived.Test.YtcfoongiffpnlaaV7
set_option linter.unusedVariables false
set_option linter.unusedSimpArgs false
namespace Go.Proofs.Ytcfoongiffpnlaa
open Go.RowKit

section
variable {G H : Gh} {n : Nat} {D : List Deferred} {e e' : Env} {a : Act} {P : Program} {tab : Tab} {O O' : VH} {w : World} {m m' : MV} {u v : Value} {ops : Array Oper} {Q : VQ}

/-- Whatever order is drawn from here on. -/
def VAny (P : Program) (n : Nat) (D : List Deferred) (ops : Array Oper) (fuel : Nat) (listed : Array Bool) (e : Env) (O : VH) (Q : VQ) : Prop :=
  ∀ G a w, WR G O w → FR G n D e a → wpAnyH P .any ops (VPost G n D Q) (SS G) fuel listed a w

theorem VC.draw {id : Nat} (hm : P.follows .mixedOrders = true) (h : VAny P n D ops ops.size (Array.replicate ops.size false) e O Q) : VC P n D (.region id ops true) e O Q :=
  fun G a w hw hf => wp_region_held (S := SS G) hm (h G a _ (hw.drawn _) hf)

theorem panic_put {d : Option Tmp} {v : Value} (c : List PanicEntry) (a : Act) (w : World) (h : VPost G n D Q (.panic c) (a.put d v) w) : VPost G n D Q (.panic c) a w := by
  obtain ⟨x, e, O, H, h1, h2, h3, h4, h5⟩ := h
  cases x with
  | panic m =>
    obtain ⟨rfl, h3⟩ := h3
    have hd : a.defers = D := by
      have := h3.defers
      cases d <;> exact this
    have hz : a.tmps.size = n := by
      have := h3.size
      cases d with
      | none => exact this
      | some d => simpa [Act.put] using this
    exact ⟨.panic m, [], O, H, h1, h2, ⟨rfl, hd, hz, fun t x hx => by cases hx⟩, h4, h5⟩
  | _ => exact False.elim h4

/-- An operation that is ready and silent may come first. -/
theorem VAny.silent (ht : TabOk P tab) {fuel i : Nat} {listed : Array Bool} {o : Oper} (ho : ops[i]? = some o) (hs : Region.noSelect ops = true) (hf : Region.free .any ops listed i = true) (hr : (Region.ready .any ops listed).contains i = true)
    (hg : vguard ops o e = some true) (hv : vsil tab o e = some m) (hd : dstB n o.dst = true) (h : VAny P n D ops fuel (listed.setIfInBounds i true) (putM o.dst m e) O Q) : VAny P n D ops (fuel + 1) listed e O Q := by
  intro G a w hw hfr
  obtain ⟨u, hu, hrun⟩ := vsil_ok (P := P) ht hfr hv
  exact wpAnyH_take ho hs hf hr panic_put (.inl ⟨vguard_ok hfr hg, hrun⟩) hw.ss (h G _ w hw (hfr.putM hd hu))
theorem VAny.skipped {fuel i : Nat} {listed : Array Bool} {o : Oper} (ho : ops[i]? = some o) (hs : Region.noSelect ops = true) (hf : Region.free .any ops listed i = true) (hr : (Region.ready .any ops listed).contains i = true)
    (hg : vguard ops o e = some false) (hd : dstB n o.dst = true) (h : VAny P n D ops fuel (listed.setIfInBounds i true) (putM o.dst undefM e) O Q) : VAny P n D ops (fuel + 1) listed e O Q := by
  intro G a w hw hfr
  exact wpAnyH_take ho hs hf hr panic_put (.inr ⟨vguard_ok hfr hg, rfl⟩) hw.ss (h G _ w hw (hfr.putM hd undef_ok))
theorem VAny.done {fuel : Nat} {listed : Array Bool} (hr : Region.ready .any ops listed = []) (h : Q .normal e O) : VAny P n D ops fuel listed e O Q :=
  fun G a w hw hfr => wpAnyH_done hr ⟨.normal, e, O, G, Gh.Le.refl G, hw, hfr, trivial, h⟩ fuel

theorem wpAnyH_imp {Q Q' : Exit → Act → World → Prop} {S S' : World → Prop} (hQ : ∀ y a w, Q y a w → Q' y a w) (hS : ∀ w, S w → S' w) : ∀ (fuel : Nat) (listed : Array Bool) (a : Act) (w : World), wpAnyH P .any ops Q S fuel listed a w → wpAnyH P .any ops Q' S' fuel listed a w := by
  intro fuel
  induction fuel with
  | zero => intro listed a w h; exact ⟨h.1, hQ _ _ _ h.2⟩
  | succ fuel ih =>
    intro listed a w h
    refine ⟨fun h0 => hQ _ _ _ (h.1 h0), fun i hi => ?_⟩
    have h1 := wpOp_mono (K' := fun a' w' => S' w' ∧ wpAnyH P .any ops Q' S' fuel (listed.setIfInBounds i true) a' w') (fun a' w' h' => ⟨hS _ h'.1, ih _ _ _ h'.2⟩) (h.2 i hi)
    unfold wpOp at h1 ⊢
    split
    · rename_i ho; simp only [ho] at h1; exact h1
    · rename_i o ho
      simp only [ho] at h1
      split
      · rename_i hwn
        simp only [hwn, if_true] at h1
        refine h1.imp (fun h2 => ?_) (fun ⟨h2, a', w', h3⟩ => ⟨h2, a', w', hQ _ _ _ h3⟩)
        unfold Oper.wp at h2 ⊢
        generalize (execOp a.eval o).run P w = r at *
        cases r with
        | ok nx w' =>
          cases nx <;> simp only [Oper.upon] at h2 ⊢ <;> first
            | exact h2
            | (refine Calls.mono h2 fun x w'' he => ?_
               cases x with
               | returned v => exact he
               | panicked c => exact hQ _ _ _ he
               | outgrown => obtain ⟨a', w', h3⟩ := he; exact ⟨a', w', hQ _ _ _ h3⟩)
        | halt x w' => cases x <;> simp only [Oper.upon] at h2 ⊢ <;> first | exact h2 | exact hQ _ _ _ h2
      · rename_i hwn
        simp only [hwn] at h1; exact h1
theorem SS.le (h : G.Le H) {w : World} (hs : SS H w) : SS G w := fun b o u hc => hs b o u (h.com hc)

/-- One operation of a region: what it gives, whichever rule says so. -/
def VOne (P : Program) (n : Nat) (D : List Deferred) (ops : Array Oper) (i : Nat) (e : Env) (O : VH) (Q : VQ) (K : Env → VH → Prop) : Prop :=
  ∀ G a w, WR G O w → FR G n D e a → wpOp P ops (VPost G n D Q) i (fun a' w' => ∃ e' O' H, Gh.Le G H ∧ WR H O' w' ∧ FR H n D e' a' ∧ K e' O') a w
theorem VOne.op (ht : TabOk P tab) {i : Nat} {o : Oper} {K : Env → VH → Prop} (ho : ops[i]? = some o) (hg : vguard ops o e = some true) (hv : vop tab o e O = some (m, O')) (hd : dstB n o.dst = true) (hk : K (putM o.dst m e) O') : VOne P n D ops i e O Q K := by
  intro G a w hw hfr
  obtain ⟨nx, w', H, u, hr, hnx, h1, h2, h3⟩ := vop_ok (P := P) ht hw hfr hv
  simp only [wpOp, ho, vguard_ok hfr hg, if_true]
  refine .inl ?_
  unfold Oper.wp
  rw [hr]
  have : ∃ e' O' H, Gh.Le G H ∧ WR H O' w' ∧ FR H n D e' (a.put o.dst u) ∧ K e' O' := ⟨_, _, H, h1, h2, (hfr.mono h1).putM hd h3, hk⟩
  rcases hnx with rfl | ⟨rfl, rfl⟩ <;> exact this
theorem VOne.call {i : Nat} {o : Oper} {c : Call} {f : Operand} {id : FuncId} {fs ms cs : List MV} {R : VRes → VH → Prop} {K : Env → VH → Prop} (ho : ops[i]? = some o) (hg : vguard ops o e = some true) (hop : o.op = .call c) (hc : c.callee = .value f)
    (hf : ev e f = some (.func (.func id) fs cs)) (hm : evs e c.args.toList = some ms) (hE : Enters P id) (hd : dstB n o.dst = true) (hR : VF P id (fs ++ ms ++ cs) O R)
    (h : ∀ r O', R r O' → match r with
      | .ret m => K (putM o.dst m e) O'
      | .panic m => Q (.panic m) [] O') : VOne P n D ops i e O Q K := by
  intro G a w hw hfr
  have hfv := hfr.ev hf
  generalize hfe : a.eval f = fv at hfv
  cases hfv with
  | func h1 h2 h3 h4 =>
    rename_i us vs
    have hargs := hfr.evs hm
    have hall := VRs.append (VRs.append (show VRs G fs us from ⟨h1, h2⟩) hargs) (show VRs G cs vs from ⟨h3, h4⟩)
    have hrun : (execOp a.eval o).run P w = .ok (.enter id (us ++ c.args.toList.map a.eval ++ vs).toArray) w := by
      have ha : c.args.map a.eval = (c.args.toList.map a.eval).toArray := by apply Array.ext'; simp
      have : us.toArray ++ c.args.map a.eval ++ vs.toArray = (us ++ c.args.toList.map a.eval ++ vs).toArray := by apply Array.ext'; simp [ha]
      simp only [execOp, hop, resolve, hc, hfe, Deferred.ofValue, Sem.run_bind, Sem.run_pure, Result.andThen_ok, invoke, hE _ w]
      rw [this]
    simp only [wpOp, ho, vguard_ok hfr hg, if_true]
    refine .inl ?_
    unfold Oper.wp
    rw [hrun]
    show Calls P id _ w _
    refine (hR G w _ hw hall).mono ?_
    rintro x w' ⟨r, O', H, g1, g2, g3, g4⟩
    have hk := h r O' g4
    cases r with
    | ret m =>
      cases x with
      | returned v => exact ⟨_, _, H, g1, g2, (hfr.mono g1).putM hd g3, hk⟩
      | panicked c => exact g3.elim
      | outgrown => exact g3.elim
    | panic m =>
      cases x with
      | returned v => exact g3.elim
      | panicked c => exact ⟨.panic m, [], O', H, g1, g2, ⟨rfl, (hfr.mono g1).less fun t x hx => by cases hx⟩, g3, hk⟩
      | outgrown => exact g3.elim
theorem VOps.one {i : Nat} {l : List Nat} (h : VOne P n D ops i e O Q fun e' O' => VOps P n D ops l e' O' Q) : VOps P n D ops (i :: l) e O Q := by
  intro G a w hw hfr
  rw [wpOps_cons]
  exact wpOp_mono (fun a' w' ⟨e', O', H, h1, h2, h3, h4⟩ => wpOps_imp (fun _ _ _ => VPost.le h1) l _ _ (h4 H a' w' h2 h3)) (h G a w hw hfr)
/-- Whichever of those that are ready comes up. -/
theorem VAny.all {fuel : Nat} {listed : Array Bool} {rs : List Nat} (hr : Region.ready .any ops listed = rs) (hne : rs ≠ [])
    (h : ∀ i ∈ rs, VOne P n D ops i e O Q fun e' O' => VAny P n D ops fuel (listed.setIfInBounds i true) e' O' Q) : VAny P n D ops (fuel + 1) listed e O Q := by
  intro G a w hw hfr
  refine wpAnyH_all hr hne fun i hi => ?_
  exact wpOp_mono (fun a' w' ⟨e', O', H, h1, h2, h3, h4⟩ => ⟨SS.le h1 h2.ss, wpAnyH_imp (fun _ _ _ => VPost.le h1) (fun _ => SS.le h1) fuel _ _ _ (h4 H a' w' h2 h3)⟩) (h i hi G a w hw hfr)
end
end Go.Proofs.Ytcfoongiffpnlaa
