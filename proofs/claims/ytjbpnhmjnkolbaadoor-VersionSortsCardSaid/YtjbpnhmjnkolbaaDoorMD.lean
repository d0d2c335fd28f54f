/-
  Texts Vc Vd Ve Vf Vg, one behind the other.
-/
import Derived.Test.YtjbpnhmjnkolbaaDoorMC
import Derived.Lib.ConvBytes
import Derived.Laws.BytesString
import Derived.Laws.Externs
/-
  THE VALUE MACHINE, 12: a region as a row of operations, written out: run as far as the next call of a Go function; drawn regions by a plan.
-/
set_option linter.unusedVariables false
set_option linter.unusedSimpArgs false
namespace Go.Proofs.YtjbpnhmjnkolbaaDoor
open Go.RowKit

section
variable {G H : Gh} {n : Sz} {D : List Deferred} {e e' : Env} {a : Act} {P : Program} {tab : Tab} {O O' : VH} {w : World} {m m' : MV} {u v : Value} {ops : Array Oper} {Q : VQ}

/-- Which kind of operation: 0 a call of a Go function, 1 silent, 2 a load, 4 a length, 3 any other. -/
def opK : Op → Nat
  | .move _ | .assign _ | .pick .. | .nilCheck _ | .binOp .. | .unOp .. | .convert .. | .fieldAddr .. | .field .. | .indexAddr .. | .index .. | .extract .. | .slice .. | .build .. | .makeFunc .. | .makeInterface .. => 1
  | .load .. => 2
  | .lookup .. => 5
  | .call c => match c.callee with
    | .value _ => 0
    | .builtin .len => 4
    | .builtin .max => 1
    | .builtin .min => 1
    | .builtin .unsafeSliceData => 1
    | _ => 3
  | _ => 3
theorem vloud_1 {o : Oper} (h : opK o.op = 1) : vloud tab o e O = none := by
  unfold vloud
  unfold opK at h
  split <;> first
    | rfl
    | (rename_i ho; rw [ho] at h; cases h)
    | (rename_i ho
       rw [ho] at h
       split <;> first
         | rfl
         | (rename_i hc _ _; simp only [hc] at h; cases h))
theorem vop_1 {o : Oper} (h : opK o.op = 1) (hv : vop tab o e O = some (m, O')) : vsil tab o e = some m ∧ O' = O := by
  unfold vop at hv
  rw [vloud_1 h] at hv
  split at hv
  · rename_i p hp
    simp only [Option.some.injEq, Prod.mk.injEq] at hv
    exact ⟨by rw [hp, hv.1], hv.2.symm⟩
  · cases hv

inductive Fl where
  | one | sil | rd | fk
inductive Md where
  | plain | any | reads
  | held (brk : List Nat)

def vloadc (tab : Tab) (t : TypeId) : MV → Option MV
  | .cptr cs off => vload tab ⟨0, fun _ => none⟩ t (.cptr cs off)
  | _ => none
def vopL (tab : Tab) (o : Oper) (e : Env) (O : VH) : Option (MV × VH) :=
  match o.op with
  | .load t x => ((ev e x).bind (vloadc tab t)).map (·, O)
  | _ => none
def vopN (tab : Tab) (o : Oper) (e : Env) (O : VH) : Option (MV × VH) :=
  match o.op with
  | .call c => match c.callee, c.args.toList, c.argTypes.toList with
    | .builtin .len, [x], [t] => ((ev e x).bind (vlen tab t)).map (·, O)
    | _, _, _ => none
  | _ => none
def vopS (tab : Tab) (k : Nat) (o : Oper) (e : Env) (O : VH) : Option (MV × VH) :=
  match k with
  | 1 => vop tab o e O
  | 2 => vopL tab o e O
  | 4 => vopN tab o e O
  | _ => none
def vopR (tab : Tab) (k : Nat) (o : Oper) (e : Env) (O : VH) : Option (MV × VH) :=
  match k with
  | 1 => vop tab o e O
  | 2 => vop tab o e O
  | 4 => vopN tab o e O
  | 5 => vop tab o e O
  | _ => none
def vopF (tab : Tab) (f : Fl) (o : Oper) (e : Env) (O : VH) : Option (MV × VH) :=
  match f with
  | .one => vop tab o e O
  | .fk => none
  | .sil => vopS tab (opK o.op) o e O
  | .rd => vopR tab (opK o.op) o e O

theorem vopL_sil {o : Oper} (hv : vopL tab o e O = some (m, O')) : vsil tab o e = some m ∧ O' = O := by
  unfold vopL at hv
  split at hv
  · rename_i t x ho
    obtain ⟨q, h1, h2⟩ := Option.map_eq_some_iff.1 hv
    obtain ⟨p, h3, h4⟩ := Option.bind_eq_some_iff.1 h1
    simp only [Prod.mk.injEq] at h2
    refine ⟨?_, h2.2.symm⟩
    rw [← h2.1]
    unfold vloadc at h4
    split at h4
    · simp only [vsil, ho, h3]; exact h4
    · cases h4
  · cases hv
theorem vopN_sil {o : Oper} (hv : vopN tab o e O = some (m, O')) : vsil tab o e = some m ∧ O' = O := by
  unfold vopN at hv
  split at hv
  · rename_i c ho
    split at hv
    · rename_i x t hc ha hty
      obtain ⟨q, h1, h2⟩ := Option.map_eq_some_iff.1 hv
      simp only [Prod.mk.injEq] at h2
      refine ⟨?_, h2.2.symm⟩
      rw [← h2.1]
      simp only [vsil, ho, hc, ha, hty]
      exact h1
    · cases hv
  · cases hv
theorem vopS_sil {o : Oper} (hv : vopF tab .sil o e O = some (m, O')) : vsil tab o e = some m ∧ O' = O := by
  simp only [vopF, vopS] at hv
  split at hv
  · exact vop_1 ‹_› hv
  · exact vopL_sil hv
  · exact vopN_sil hv
  · cases hv
theorem vop_of_vsil {o : Oper} (h : vsil tab o e = some m) : vop tab o e O = some (m, O) := by unfold vop; rw [h]
theorem vopF_vop {f : Fl} {o : Oper} (hv : vopF tab f o e O = some (m, O')) : vop tab o e O = some (m, O') := by
  cases f with
  | one => exact hv
  | fk => cases hv
  | sil => obtain ⟨h1, rfl⟩ := vopS_sil hv; exact vop_of_vsil h1
  | rd =>
    simp only [vopF, vopR] at hv
    split at hv
    · exact hv
    · exact hv
    · obtain ⟨h1, rfl⟩ := vopN_sil hv; exact vop_of_vsil h1
    · exact hv
    · cases hv
/-- What only reads yields its value in every world that holds what is known, and leaves that world. -/
theorem vread_ok (ht : TabOk P tab) (hw : WR G O w) (h : FR G n D e a) {f : Fl} {o : Oper} (hf : f ≠ .one) (hv : vopF tab f o e O = some (m, O')) : O' = O ∧ ∃ u, VR G m u ∧ ∀ x, Sx G w x → (execOp a.eval o).run P x = .ok (.value u) x := by
  have sil : ∀ {m}, vsil tab o e = some m → ∃ u, VR G m u ∧ ∀ x, Sx G w x → (execOp a.eval o).run P x = .ok (.value u) x := fun h1 => by
    obtain ⟨u, hu, hr⟩ := vsil_ok (P := P) ht h h1
    exact ⟨u, hu, fun x hx => hr x hx.1⟩
  cases f with
  | one => exact absurd rfl hf
  | fk => cases hv
  | sil => obtain ⟨h1, rfl⟩ := vopS_sil hv; exact ⟨rfl, sil h1⟩
  | rd =>
    simp only [vopF, vopR] at hv
    split at hv
    · obtain ⟨h1, rfl⟩ := vop_1 ‹_› hv; exact ⟨rfl, sil h1⟩
    · rename_i hk
      unfold vop at hv
      split at hv
      · rename_i p hp
        simp only [Option.some.injEq, Prod.mk.injEq] at hv
        obtain ⟨rfl, rfl⟩ := hv
        exact ⟨rfl, sil hp⟩
      · unfold vloud at hv
        split at hv <;> first
          | (rename_i t x ho
             obtain ⟨p, h1, h2⟩ := Option.bind_eq_some_iff.1 hv
             obtain ⟨q, h3, h4⟩ := Option.map_eq_some_iff.1 h2
             simp only [Prod.mk.injEq] at h4
             obtain ⟨rfl, rfl⟩ := h4
             obtain ⟨u, g1, g2⟩ := vload_held (P := P) ht hw h3 (h.ev h1)
             exact ⟨rfl, u, g1, fun x hx => by simp only [execOp, ho, Sem.run_bind, g2 x hx]; rfl⟩)
          | (rename_i ho; rw [ho] at hk; simp only [opK] at hk; cases hk)
          | (rename_i ho _ _ _; rw [ho] at hk; simp only [opK] at hk; cases hk)
          | cases hv
          | (rename_i c ho
             exfalso
             rw [ho] at hk
             simp only [opK] at hk
             split at hk <;> cases hk)
    · obtain ⟨h1, rfl⟩ := vopN_sil hv; exact ⟨rfl, sil h1⟩
    · rename_i hk
      unfold vop at hv
      split at hv
      · rename_i p hp
        simp only [Option.some.injEq, Prod.mk.injEq] at hv
        obtain ⟨rfl, rfl⟩ := hv
        exact ⟨rfl, sil hp⟩
      · unfold vloud at hv
        split at hv <;> first
          | (rename_i t x k ok ho
             split at hv
             · rename_i p q h1 h2
               obtain ⟨r, h3, h4⟩ := Option.map_eq_some_iff.1 hv
               simp only [Prod.mk.injEq] at h4
               obtain ⟨rfl, rfl⟩ := h4
               obtain ⟨u, g1, g2⟩ := vlookup_held (P := P) ht hw h3 (h.ev h1) (h.ev h2)
               exact ⟨rfl, u, g1, fun x hx => by simp only [execOp, ho, Sem.run_bind, g2 x hx]; rfl⟩
             · cases hv)
          | (rename_i ho; rw [ho] at hk; simp only [opK] at hk; cases hk)
          | (rename_i ho _ _ _; rw [ho] at hk; simp only [opK] at hk; cases hk)
          | cases hv
          | (rename_i c ho
             exfalso
             rw [ho] at hk
             simp only [opK] at hk
             split at hk <;> cases hk)
    · cases hv

def planOk (md : Md) (ops : Array Oper) : Nat → Array Bool → List (Nat × Fl) → Bool
  | _, listed, [] => Region.ready .any ops listed == []
  | 0, _, _ :: _ => false
  | k + 1, listed, (i, f) :: r => (match f, md, r with
    | .one, .any, _ => Region.ready .any ops listed == [i]
    | .sil, .any, _ => Region.free .any ops listed i && (Region.ready .any ops listed).contains i
    | .sil, .reads, _ => Region.free .any ops listed i && (Region.ready .any ops listed).contains i
    | .rd, .reads, _ => Region.free .any ops listed i && (Region.ready .any ops listed).contains i
    | .sil, .held brk, _ => Region.free .any ops listed i && (Region.ready .any ops listed).contains i && waitB ops brk listed i
    | .rd, .held brk, _ => Region.free .any ops listed i && (Region.ready .any ops listed).contains i && waitB ops brk listed i
    | .one, .held brk, _ => Region.ready .any ops listed == [i] && ((!brk.contains i && ((ops[i]?).map fun o => opA o.op).getD false) || (brk.contains i && (List.range listed.size).all fun j => (listed.setIfInBounds i true).getD j true || brk.contains j))
    | .fk, .any, (j, .one) :: _ => (Region.ready .any ops listed == [i, j] || Region.ready .any ops listed == [j, i]) && Region.ready .any ops (listed.setIfInBounds i true) == [j] && Region.ready .any ops (listed.setIfInBounds j true) == [i]
    | _, _, _ => false) && planOk md ops k (listed.setIfInBounds i true) r
def Fits (ops : Array Oper) : List (Nat × Fl) → List (Fl × Oper) → Prop
  | [], [] => True
  | (i, f) :: ix, (g, o) :: L => f = g ∧ ops[i]? = some o ∧ Fits ops ix L
  | _, _ => False

/-- A region whose operations only read, whatever order is drawn. -/
def VAnyR (P : Program) (n : Sz) (D : List Deferred) (ops : Array Oper) (fuel : Nat) (listed : Array Bool) (e : Env) (O : VH) (Q : VQ) : Prop :=
  ∀ G a w, WR G O w → FR G n D e a → wpAnyH P .any ops (VPost G n D Q) (fun x => x = w) fuel listed a w
def VRow (P : Program) (n : Sz) (D : List Deferred) (md : Md) (ops : Array Oper) (fuel : Nat) (listed : Array Bool) (ix : List (Nat × Fl)) (e : Env) (O : VH) (Q : VQ) : Prop :=
  match md with
  | .plain => VOps P n D ops (ix.map (·.1)) e O Q
  | .any => VAny P n D ops fuel listed e O Q
  | .reads => VAnyR P n D ops fuel listed e O Q
  | .held brk => VAnyT P n D ops brk fuel listed e O Q
/-- A row of operations, written out. -/
def VL (P : Program) (n : Sz) (D : List Deferred) (md : Md) (ops : Array Oper) (L : List (Fl × Oper)) (e : Env) (O : VH) (Q : VQ) : Prop :=
  ∀ fuel listed ix, Fits ops ix L → (md ≠ .plain → Region.noSelect ops = true ∧ planOk md ops fuel listed ix = true) → VRow P n D md ops fuel listed ix e O Q

theorem VL.nil {md : Md} (h : Q .normal e O) : VL P n D md ops [] e O Q := by
  intro fuel listed ix hf hp
  cases ix with
  | cons x ix => exact hf.elim
  | nil =>
    cases md with
    | plain => exact VOps.nil h
    | any =>
      have := (hp (by simp)).2
      rw [planOk] at this
      exact VAny.done (by simpa using this) h
    | reads =>
      have := (hp (by simp)).2
      rw [planOk] at this
      intro G a w hw hfr
      exact wpAnyH_done (by simpa using this) ⟨.normal, e, O, G, Gh.Le.refl G, hw, hfr, trivial, h⟩ fuel
    | held brk =>
      have := (hp (by simp)).2
      rw [planOk] at this
      exact VAnyT.done (by simpa using this) h

theorem held_one {brk : List Nat} {i : Nat} {listed : Array Bool} {o : Oper} (ho : ops[i]? = some o) (h : ((!brk.contains i && ((ops[i]?).map fun o => opA o.op).getD false) || (brk.contains i && (List.range listed.size).all fun j => (listed.setIfInBounds i true).getD j true || brk.contains j)) = true) :
    (brk.contains i = false ∧ opA o.op = true) ∨ ∀ j, (listed.setIfInBounds i true).getD j true = false ∨ j = i → brk.contains j = true := by
  rw [ho] at h
  simp only [Option.map_some, Option.getD_some, Bool.or_eq_true, Bool.and_eq_true, Bool.not_eq_true'] at h
  rcases h with h | ⟨h1, h2⟩
  · exact .inl h
  · refine .inr fun j hj => ?_
    rcases hj with hj | rfl
    · rcases Nat.lt_or_ge j listed.size with hl | hl
      · have := List.all_eq_true.1 h2 j (List.mem_range.2 hl)
        rw [hj, Bool.false_or] at this
        exact this
      · rw [Array.getD_eq_getD_getElem?, Array.getElem?_eq_none (by simpa using hl)] at hj
        cases hj
    · exact h1

theorem VOne.skip {i : Nat} {o : Oper} {K : Env → VH → Prop} (ho : ops[i]? = some o) (hg : vguard ops o e = some false) (hd : dstB n o.dst = true) (hk : K (putM o.dst undefM e) O) : VOne P n D ops i e O Q K := by
  intro G a w hw hfr
  simp only [wpOp, ho, vguard_ok hfr hg, Bool.false_eq_true, if_false]
  exact ⟨_, _, G, Gh.Le.refl G, hw, hfr.putM hd undef_ok, hk⟩

theorem vread_same {f : Fl} {o : Oper} (hf : f ≠ .one) (hv : vopF tab f o e O = some (m, O')) : O' = O := by
  cases f with
  | one => exact absurd rfl hf
  | fk => cases hv
  | sil => exact (vopS_sil hv).2
  | rd =>
    simp only [vopF, vopR] at hv
    have key : ∀ {k}, opK o.op = k → k ≠ 0 → k ≠ 3 → vop tab o e O = some (m, O') → O' = O := fun {k} hk h0 h3 hv => by
      unfold vop at hv
      split at hv
      · simp only [Option.some.injEq, Prod.mk.injEq] at hv; exact hv.2.symm
      · unfold vloud at hv
        split at hv <;> first
          | (rename_i ho; rw [ho] at hk; simp only [opK] at hk; exact absurd hk.symm h3)
          | (cases hv; done)
          | (rename_i ho _ _ _; rw [ho] at hk; simp only [opK] at hk; exact absurd hk.symm h3)
          | (obtain ⟨p, h1, h2⟩ := Option.bind_eq_some_iff.1 hv
             obtain ⟨q, h3, h4⟩ := Option.map_eq_some_iff.1 h2
             simp only [Prod.mk.injEq] at h4
             exact h4.2.symm)
          | (split at hv
             · obtain ⟨r, h3, h4⟩ := Option.map_eq_some_iff.1 hv
               simp only [Prod.mk.injEq] at h4
               exact h4.2.symm
             · cases hv)
          | (rename_i c ho
             rw [ho] at hk
             simp only [opK] at hk
             split at hv
             · rename_i hc _ _
               simp only [hc] at hk
               exact absurd hk.symm h3
             · obtain ⟨p, h1, h2⟩ := Option.bind_eq_some_iff.1 hv
               obtain ⟨q, h3, h4⟩ := Option.map_eq_some_iff.1 h2
               simp only [Prod.mk.injEq] at h4
               exact h4.2.symm
             · cases hv)
    split at hv
    · exact key ‹_› (by decide) (by decide) hv
    · exact key ‹_› (by decide) (by decide) hv
    · exact (vopN_sil hv).2
    · exact key ‹_› (by decide) (by decide) hv
    · cases hv
theorem VL.step (ht : TabOk P tab) {md : Md} {f : Fl} {o : Oper} {L : List (Fl × Oper)} (hg : vguard ops o e = some true) (hv : vopF tab f o e O = some (m, O')) (hd : dstB n o.dst = true)
    (h : VL P n D md ops L (putM o.dst m e) O' Q) : VL P n D md ops ((f, o) :: L) e O Q := by
  intro fuel listed ix hf hp
  match ix, hf with
  | (i, g) :: ix, hf =>
    obtain ⟨rfl, ho, hf⟩ := hf
    cases md with
    | plain => exact VOps.step ht ho hg (vopF_vop hv) hd (h 0 #[] ix hf (fun h => absurd rfl h))
    | any =>
      obtain ⟨h1, h2⟩ := hp (by simp)
      cases fuel with
      | zero => cases h2
      | succ fuel =>
        simp only [planOk, Bool.and_eq_true] at h2
        have hk := h fuel (listed.setIfInBounds i true) ix hf (fun _ => ⟨h1, h2.2⟩)
        cases g with
        | one =>
          have hr : Region.ready .any ops listed = [i] := by simpa using h2.1
          exact VAny.all hr (by simp) fun j hj => by
            obtain rfl : j = i := by simpa using hj
            exact VOne.op ht ho hg (vopF_vop hv) hd hk
        | sil =>
          obtain ⟨hs, rfl⟩ := vopS_sil hv
          simp only [Bool.and_eq_true] at h2
          exact VAny.silent ht ho h1 h2.1.1 h2.1.2 hg hs hd hk
        | rd => exact absurd h2.1 (by simp)
        | fk => cases hv
    | reads =>
      obtain ⟨h1, h2⟩ := hp (by simp)
      cases fuel with
      | zero => cases h2
      | succ fuel =>
        simp only [planOk, Bool.and_eq_true] at h2
        have hk := h fuel (listed.setIfInBounds i true) ix hf (fun _ => ⟨h1, h2.2⟩)
        have hne : g ≠ .one := by rintro rfl; exact absurd h2.1 (by simp)
        intro G a w hw hfr
        obtain ⟨rfl, u, hu, hrun⟩ := vread_ok (P := P) ht hw hfr hne hv
        have h3 : Region.free .any ops listed i = true ∧ (Region.ready .any ops listed).contains i = true := by cases g <;> simp_all
        exact wpAnyH_take ho h1 h3.1 h3.2 (panic_put hd) (.inl ⟨vguard_ok hfr hg, fun w' hw' => by rw [hw']; exact hrun w hw.sx⟩) rfl (hk G _ w hw (hfr.putM hd hu))
    | held brk =>
      obtain ⟨h1, h2⟩ := hp (by simp)
      cases fuel with
      | zero => cases h2
      | succ fuel =>
        simp only [planOk, Bool.and_eq_true] at h2
        have hk := h fuel (listed.setIfInBounds i true) ix hf (fun _ => ⟨h1, h2.2⟩)
        cases g with
        | one =>
          simp only [Bool.and_eq_true] at h2
          have hr : Region.ready .any ops listed = [i] := by simpa using h2.1.1
          exact VAnyT.one ht ho hr (held_one ho h2.1.2) hg (vopF_vop hv) hd hk
        | fk => exact absurd h2.1 (by simp)
        | sil =>
          simp only [Bool.and_eq_true] at h2
          exact VAnyT.take ho h1 h2.1.1.1 h2.1.1.2 h2.1.2 hd (fun G a w hw hfr => by
            obtain ⟨_, u, hu, hrun⟩ := vread_ok (P := P) ht hw hfr (by simp) hv
            exact ⟨u, hu, .inl ⟨vguard_ok hfr hg, hrun⟩⟩) (by
            obtain rfl := vread_same (by simp) hv
            exact hk)
        | rd =>
          simp only [Bool.and_eq_true] at h2
          exact VAnyT.take ho h1 h2.1.1.1 h2.1.1.2 h2.1.2 hd (fun G a w hw hfr => by
            obtain ⟨_, u, hu, hrun⟩ := vread_ok (P := P) ht hw hfr (by simp) hv
            exact ⟨u, hu, .inl ⟨vguard_ok hfr hg, hrun⟩⟩) (by
            obtain rfl := vread_same (by simp) hv
            exact hk)
theorem VL.skip {md : Md} {f : Fl} {o : Oper} {L : List (Fl × Oper)} (hfk : f ≠ .fk) (hg : vguard ops o e = some false) (hd : dstB n o.dst = true)
    (h : VL P n D md ops L (putM o.dst undefM e) O Q) : VL P n D md ops ((f, o) :: L) e O Q := by
  intro fuel listed ix hf hp
  match ix, hf with
  | (i, g) :: ix, hf =>
    obtain ⟨rfl, ho, hf⟩ := hf
    cases md with
    | plain => exact VOps.skip ho hg hd (h 0 #[] ix hf (fun h => absurd rfl h))
    | any =>
      obtain ⟨h1, h2⟩ := hp (by simp)
      cases fuel with
      | zero => cases h2
      | succ fuel =>
        simp only [planOk, Bool.and_eq_true] at h2
        have hk := h fuel (listed.setIfInBounds i true) ix hf (fun _ => ⟨h1, h2.2⟩)
        cases g with
        | one =>
          have hr : Region.ready .any ops listed = [i] := by simpa using h2.1
          exact VAny.all hr (by simp) fun j hj => by
            obtain rfl : j = i := by simpa using hj
            exact VOne.skip ho hg hd hk
        | sil =>
          simp only [Bool.and_eq_true] at h2
          exact VAny.skipped ho h1 h2.1.1 h2.1.2 hg hd hk
        | rd => exact absurd h2.1 (by simp)
        | fk => exact absurd rfl hfk
    | reads =>
      obtain ⟨h1, h2⟩ := hp (by simp)
      cases fuel with
      | zero => cases h2
      | succ fuel =>
        simp only [planOk, Bool.and_eq_true] at h2
        have hk := h fuel (listed.setIfInBounds i true) ix hf (fun _ => ⟨h1, h2.2⟩)
        have hne : g ≠ .one := by rintro rfl; exact absurd h2.1 (by simp)
        intro G a w hw hfr
        have h3 : Region.free .any ops listed i = true ∧ (Region.ready .any ops listed).contains i = true := by cases g <;> simp_all
        exact wpAnyH_take ho h1 h3.1 h3.2 (panic_put hd) (.inr ⟨vguard_ok hfr hg, rfl⟩) rfl (hk G _ w hw (hfr.putM hd undef_ok))
    | held brk =>
      obtain ⟨h1, h2⟩ := hp (by simp)
      cases fuel with
      | zero => cases h2
      | succ fuel =>
        simp only [planOk, Bool.and_eq_true] at h2
        have hk := h fuel (listed.setIfInBounds i true) ix hf (fun _ => ⟨h1, h2.2⟩)
        cases g with
        | one =>
          simp only [Bool.and_eq_true] at h2
          have hr : Region.ready .any ops listed = [i] := by simpa using h2.1.1
          exact VAnyT.skip1 ho hr (held_one ho h2.1.2) hg hd hk
        | fk => exact absurd h2.1 (by simp)
        | sil =>
          simp only [Bool.and_eq_true] at h2
          exact VAnyT.take ho h1 h2.1.1.1 h2.1.1.2 h2.1.2 hd (fun G a w hw hfr => ⟨undef, undef_ok, .inr ⟨vguard_ok hfr hg, rfl⟩⟩) hk
        | rd =>
          simp only [Bool.and_eq_true] at h2
          exact VAnyT.take ho h1 h2.1.1.1 h2.1.1.2 h2.1.2 hd (fun G a w hw hfr => ⟨undef, undef_ok, .inr ⟨vguard_ok hfr hg, rfl⟩⟩) hk

/-- Two operations of which either may come first. -/
theorem VL.fork (ht : TabOk P tab) {L : List (Fl × Oper)} {oi oj : Oper} {mi mj mi' mj' : MV} {O1 O2 O3 O4 : VH}
    (hgi : vguard ops oi e = some true) (hvi : vop tab oi e O = some (mi, O1)) (hdi : dstB n oi.dst = true) (hgj : vguard ops oj (putM oi.dst mi e) = some true) (hvj : vop tab oj (putM oi.dst mi e) O1 = some (mj, O2)) (hdj : dstB n oj.dst = true)
    (hgj' : vguard ops oj e = some true) (hvj' : vop tab oj e O = some (mj', O3)) (hgi' : vguard ops oi (putM oj.dst mj' e) = some true) (hvi' : vop tab oi (putM oj.dst mj' e) O3 = some (mi', O4))
    (h1 : VL P n D .any ops L (putM oj.dst mj (putM oi.dst mi e)) O2 Q) (h2 : VL P n D .any ops L (putM oi.dst mi' (putM oj.dst mj' e)) O4 Q) : VL P n D .any ops ((.fk, oi) :: (.one, oj) :: L) e O Q := by
  intro fuel listed ix hf hp
  match ix, hf with
  | (i, g) :: (j, g') :: ix, hf =>
    obtain ⟨rfl, hoi, rfl, hoj, hf⟩ := hf
    obtain ⟨q1, q2⟩ := hp (by simp)
    match fuel, q2 with
    | fuel + 1, q2 =>
      simp only [planOk, Bool.and_eq_true, Bool.or_eq_true, beq_iff_eq] at q2
      obtain ⟨⟨⟨r1, r2⟩, r3⟩, q3⟩ := q2
      match fuel, q3 with
      | fuel + 1, q3 =>
        simp only [planOk, Bool.and_eq_true, beq_iff_eq] at q3
        have k1 := h1 fuel ((listed.setIfInBounds i true).setIfInBounds j true) ix hf (fun _ => ⟨q1, q3.2⟩)
        have hne : i ≠ j := by
          rintro rfl
          have hm : i ∈ Region.ready .any ops (listed.setIfInBounds i true) := by rw [r2]; simp
          simp only [Region.ready, List.mem_filter, Bool.and_eq_true] at hm
          have hlt : i < ops.size := by simpa using hm.1
          have h0 := hm.2.1
          rcases Nat.lt_or_ge i listed.size with hl | hl
          · simp [hl] at h0
          · have : listed.setIfInBounds i true = listed := Array.setIfInBounds_eq_of_size_le hl
            rw [Array.getD_eq_getD_getElem?, Array.getElem?_eq_none (by simpa using hl)] at h0
            simp at h0
        have k2 := h2 fuel ((listed.setIfInBounds j true).setIfInBounds i true) ix hf (fun _ => ⟨q1, by
          rw [Array.setIfInBounds_comm _ _ (Ne.symm hne)]; exact q3.2⟩)
        have key : ∀ rs, Region.ready .any ops listed = rs → (∀ x ∈ rs, x = i ∨ x = j) → rs ≠ [] → VAny P n D ops (fuel + 1 + 1) listed e O Q := fun rs hr hmem hne2 =>
          VAny.all hr hne2 fun x hx => by
            rcases hmem x hx with rfl | rfl
            · exact VOne.op ht hoi hgi hvi hdi (VAny.all r2 (by simp) fun y hy => by
                obtain rfl : y = j := by simpa using hy
                exact VOne.op ht hoj hgj hvj hdj k1)
            · exact VOne.op ht hoj hgj' hvj' hdj (VAny.all r3 (by simp) fun y hy => by
                obtain rfl : y = i := by simpa using hy
                exact VOne.op ht hoi hgi' hvi' hdi k2)
        rcases r1 with r1 | r1
        · exact key _ r1 (by simp) (by simp)
        · exact key _ r1 (by intro x hx; simp only [List.mem_cons, List.not_mem_nil, or_false] at hx; exact hx.symm) (by simp)

theorem VL.call {md : Md} {L : List (Fl × Oper)} {d : Option Tmp} {f : Operand} {args : Array Operand} {tys : Array TypeId} {ty : TypeId} {ps : String} {af : Array Edge} {g : Option (Nat × Bool)} {id : FuncId} {fs ms cs as : List MV} {R : VRes → VH → Prop}
    (hg : vguard ops (.mk d (.call { callee := .value f, args := args, argTypes := tys }) ty ps af g) e = some true) (hf : ev e f = some (.func (.func id) fs cs)) (hm : evs e args.toList = some ms) (ha : fs ++ ms ++ cs = as) (hE : Enters P id) (hd : dstB n d = true) (hR : VF P id as O R)
    (h : ∀ r O', R r O' → match r with
      | .ret m => VL P n D md ops L (putM d m e) O' Q
      | .panic m => Q (.panic m) (lowE n e) O') : VL P n D md ops ((.one, .mk d (.call { callee := .value f, args := args, argTypes := tys }) ty ps af g) :: L) e O Q := by
  intro fuel listed ix hfit hp
  subst ha
  match ix, hfit with
  | (i, g') :: ix, hfit =>
    obtain ⟨rfl, ho, hfit⟩ := hfit
    cases md with
    | plain =>
      refine VOps.call ho hg rfl rfl hf hm hE hd hR fun r O' hr => ?_
      have := h r O' hr
      cases r with
      | ret m => exact this 0 #[] ix hfit (fun h => absurd rfl h)
      | panic m => exact this
    | any =>
      obtain ⟨h1, h2⟩ := hp (by simp)
      cases fuel with
      | zero => cases h2
      | succ fuel =>
        simp only [planOk, Bool.and_eq_true] at h2
        have hr : Region.ready .any ops listed = [i] := by simpa using h2.1
        exact VAny.all hr (by simp) fun j hj => by
          obtain rfl : j = i := by simpa using hj
          refine VOne.call ho hg rfl rfl hf hm hE hd hR fun r O' hr => ?_
          have := h r O' hr
          cases r with
          | ret m => exact this fuel (listed.setIfInBounds j true) ix hfit (fun _ => ⟨h1, h2.2⟩)
          | panic m => exact this
    | reads =>
      obtain ⟨h1, h2⟩ := hp (by simp)
      cases fuel with
      | zero => cases h2
      | succ fuel =>
        simp only [planOk, Bool.and_eq_true] at h2
        exact absurd h2.1 (by simp)
    | held brk =>
      obtain ⟨h1, h2⟩ := hp (by simp)
      cases fuel with
      | zero => cases h2
      | succ fuel =>
        simp only [planOk, Bool.and_eq_true] at h2
        have hr : Region.ready .any ops listed = [i] := by simpa using h2.1.1
        have hb : ∀ j, (listed.setIfInBounds i true).getD j true = false ∨ j = i → brk.contains j = true := by
          rcases held_one ho h2.1.2 with ⟨_, h3⟩ | h3
          · cases h3
          · exact h3
        refine VAnyT.oneB hr hb (VOne.call ho hg rfl rfl hf hm hE hd hR fun r O' hr => ?_)
        have := h r O' hr
        cases r with
        | ret m => exact this fuel (listed.setIfInBounds i true) ix hfit (fun _ => ⟨h1, h2.2⟩)
        | panic m => exact this

def vrunC (tab : Tab) (n : Sz) (ops : Array Oper) : List (Fl × Oper) → Env → VH → Option (List (Fl × Oper) × Env × VH)
  | [], e, O => some ([], e, O)
  | (.fk, o) :: L, e, O => some ((.fk, o) :: L, e, O)
  | (f, o) :: L, e, O => match opK o.op == 0, vguard ops o e with
    | _, none => none
    | true, some true => some ((f, o) :: L, e, O)
    | false, some true => match vopF tab f o e O with
      | none => some ((f, o) :: L, e, O)
      | some (m, O') => match dstB n o.dst with
        | true => vrunC tab n ops L (putM o.dst m e) O'
        | false => none
    | _, some false => match dstB n o.dst with
      | true => vrunC tab n ops L (putM o.dst undefM e) O
      | false => none
theorem VL.run (ht : TabOk P tab) {md : Md} : ∀ {L L' : List (Fl × Oper)} {e : Env} {O : VH}, vrunC tab n ops L e O = some (L', e', O') → VL P n D md ops L' e' O' Q → VL P n D md ops L e O Q
  | [], L', e, O, h, hQ => by
    simp only [vrunC, Option.some.injEq, Prod.mk.injEq] at h
    obtain ⟨rfl, rfl, rfl⟩ := h
    exact hQ
  | (.fk, o) :: L, L', e, O, h, hQ => by
    simp only [vrunC, Option.some.injEq, Prod.mk.injEq] at h
    obtain ⟨rfl, rfl, rfl⟩ := h
    exact hQ
  | (.one, o) :: L, L', e, O, h, hQ => by
    simp only [vrunC] at h
    split at h
    · cases h
    · simp only [Option.some.injEq, Prod.mk.injEq] at h
      obtain ⟨rfl, rfl, rfl⟩ := h
      exact hQ
    · split at h
      · simp only [Option.some.injEq, Prod.mk.injEq] at h
        obtain ⟨rfl, rfl, rfl⟩ := h
        exact hQ
      · split at h
        · exact VL.step ht ‹_› ‹_› ‹_› (VL.run ht h hQ)
        · cases h
    · split at h
      · exact VL.skip (by simp) ‹_› ‹_› (VL.run ht h hQ)
      · cases h
  | (.sil, o) :: L, L', e, O, h, hQ => by
    simp only [vrunC] at h
    split at h
    · cases h
    · simp only [Option.some.injEq, Prod.mk.injEq] at h
      obtain ⟨rfl, rfl, rfl⟩ := h
      exact hQ
    · split at h
      · simp only [Option.some.injEq, Prod.mk.injEq] at h
        obtain ⟨rfl, rfl, rfl⟩ := h
        exact hQ
      · split at h
        · exact VL.step ht ‹_› ‹_› ‹_› (VL.run ht h hQ)
        · cases h
    · split at h
      · exact VL.skip (by simp) ‹_› ‹_› (VL.run ht h hQ)
      · cases h
  | (.rd, o) :: L, L', e, O, h, hQ => by
    simp only [vrunC] at h
    split at h
    · cases h
    · simp only [Option.some.injEq, Prod.mk.injEq] at h
      obtain ⟨rfl, rfl, rfl⟩ := h
      exact hQ
    · split at h
      · simp only [Option.some.injEq, Prod.mk.injEq] at h
        obtain ⟨rfl, rfl, rfl⟩ := h
        exact hQ
      · split at h
        · exact VL.step ht ‹_› ‹_› ‹_› (VL.run ht h hQ)
        · cases h
    · split at h
      · exact VL.skip (by simp) ‹_› ‹_› (VL.run ht h hQ)
      · cases h

/-! ### For rewriting -/
def wk3 (tab : Tab) (n : Sz) (ops : Array Oper) (L : List (Fl × Oper)) (e : Env) (O : VH) : Bool → Option (List (Fl × Oper) × Env × VH)
  | true => vrunC tab n ops L e O
  | false => none
def wk2 (tab : Tab) (n : Sz) (ops : Array Oper) (fo : Fl × Oper) (L : List (Fl × Oper)) (e : Env) (O : VH) : Option (MV × VH) → Option (List (Fl × Oper) × Env × VH)
  | some (m, O') => wk3 tab n ops L (putM fo.2.dst m e) O' (dstB n fo.2.dst)
  | none => some (fo :: L, e, O)
def wk1 (tab : Tab) (n : Sz) (ops : Array Oper) (f : Fl) (o : Oper) (L : List (Fl × Oper)) (e : Env) (O : VH) : Bool → Option Bool → Option (List (Fl × Oper) × Env × VH)
  | _, none => none
  | true, some true => some ((f, o) :: L, e, O)
  | false, some true => wk2 tab n ops (f, o) L e O (vopF tab f o e O)
  | _, some false => wk3 tab n ops L (putM o.dst undefM e) O (dstB n o.dst)
section
variable {f : Fl} {o : Oper} {L : List (Fl × Oper)} {d : Option Tmp} {p : Op} {ty : TypeId} {ps : String} {af : Array Edge} {g : Option (Nat × Bool)} {b : Bool}
theorem vrunC_nil : vrunC tab n ops [] e O = some ([], e, O) := rfl
theorem vrunC_cons (hfk : f ≠ .fk) : vrunC tab n ops ((f, .mk d p ty ps af g) :: L) e O = wk1 tab n ops f (.mk d p ty ps af g) L e O (opK p == 0) (vguard ops (.mk d p ty ps af g) e) := by
  have key : vrunC tab n ops ((f, .mk d p ty ps af g) :: L) e O = match opK p == 0, vguard ops (.mk d p ty ps af g) e with
    | _, none => none
    | true, some true => some ((f, .mk d p ty ps af g) :: L, e, O)
    | false, some true => match vopF tab f (.mk d p ty ps af g) e O with
      | none => some ((f, .mk d p ty ps af g) :: L, e, O)
      | some (m, O') => match dstB n d with
        | true => vrunC tab n ops L (putM d m e) O'
        | false => none
    | _, some false => match dstB n d with
      | true => vrunC tab n ops L (putM d undefM e) O
      | false => none := by
    cases f <;> first | exact absurd rfl hfk | rfl
  rw [key]
  generalize vguard ops (.mk d p ty ps af g) e = x
  generalize (opK p == 0) = y
  unfold wk1
  cases x with
  | none => rfl
  | some b =>
    cases b <;> cases y <;> simp only
    · unfold wk3; cases dstB n d <;> rfl
    · unfold wk3; cases dstB n d <;> rfl
    · unfold wk2
      cases vopF tab f (.mk d p ty ps af g) e O with
      | none => rfl
      | some r => unfold wk3; cases dstB n d <;> rfl
theorem vrunC_one : vrunC tab n ops ((.one, .mk d p ty ps af g) :: L) e O = wk1 tab n ops .one (.mk d p ty ps af g) L e O (opK p == 0) (vguard ops (.mk d p ty ps af g) e) := vrunC_cons (by simp)
theorem vrunC_sil : vrunC tab n ops ((.sil, .mk d p ty ps af g) :: L) e O = wk1 tab n ops .sil (.mk d p ty ps af g) L e O (opK p == 0) (vguard ops (.mk d p ty ps af g) e) := vrunC_cons (by simp)
theorem vrunC_rd : vrunC tab n ops ((.rd, .mk d p ty ps af g) :: L) e O = wk1 tab n ops .rd (.mk d p ty ps af g) L e O (opK p == 0) (vguard ops (.mk d p ty ps af g) e) := vrunC_cons (by simp)
theorem vrunC_fk : vrunC tab n ops ((.fk, o) :: L) e O = some ((.fk, o) :: L, e, O) := rfl
theorem wk1_stop : wk1 tab n ops f o L e O true (some true) = some ((f, o) :: L, e, O) := rfl
theorem wk1_go : wk1 tab n ops f (.mk d p ty ps af g) L e O false (some true) = wk2 tab n ops (f, .mk d p ty ps af g) L e O (vopF tab f (.mk d p ty ps af g) e O) := rfl
theorem wk1_skip : wk1 tab n ops f (.mk d p ty ps af g) L e O b (some false) = wk3 tab n ops L (putM d undefM e) O (dstB n d) := by cases b <;> rfl
theorem wk2_some : wk2 tab n ops (f, .mk d p ty ps af g) L e O (some (m, O')) = wk3 tab n ops L (putM d m e) O' (dstB n d) := rfl
theorem wk2_none {fo : Fl × Oper} : wk2 tab n ops fo L e O none = some (fo :: L, e, O) := rfl
theorem wk3_true : wk3 tab n ops L e O true = vrunC tab n ops L e O := rfl
theorem vopF_one : vopF tab .one o e O = vop tab o e O := rfl
theorem vopF_sil : vopF tab .sil (.mk d p ty ps af g) e O = vopS tab (opK p) (.mk d p ty ps af g) e O := rfl
theorem vopF_rd : vopF tab .rd (.mk d p ty ps af g) e O = vopR tab (opK p) (.mk d p ty ps af g) e O := rfl
theorem vopS_1 : vopS tab 1 o e O = vop tab o e O := rfl
theorem vopS_2 {t : TypeId} {x : Operand} : vopS tab 2 (.mk d (.load t x) ty ps af g) e O = ((ev e x).bind (vloadc tab t)).map (·, O) := rfl
theorem vopS_4 {t : TypeId} {x : Operand} : vopS tab 4 (.mk d (.call { callee := .builtin .len, args := #[x], argTypes := #[t] }) ty ps af g) e O = ((ev e x).bind (vlen tab t)).map (·, O) := rfl
theorem vopR_1 : vopR tab 1 o e O = vop tab o e O := rfl
theorem vopR_2 : vopR tab 2 o e O = vop tab o e O := rfl
theorem vopR_5 : vopR tab 5 o e O = vop tab o e O := rfl
theorem vopR_4 {t : TypeId} {x : Operand} : vopR tab 4 (.mk d (.call { callee := .builtin .len, args := #[x], argTypes := #[t] }) ty ps af g) e O = ((ev e x).bind (vlen tab t)).map (·, O) := rfl
theorem vloadc_c {t : TypeId} {cs : List MV} {off : Nat} : vloadc tab t (.cptr cs off) = vload tab ⟨0, fun _ => none⟩ t (.cptr cs off) := rfl
end
section
variable {x y z : Operand} {t t' : TypeId} {f : Nat} {q : BinOp} {r : UnOp} {as : Array Operand} {ts : Array TypeId} {l h k : Option Operand} {fn : Fn} {ps : Array (Nat × Operand)}
theorem opK_move : opK (.move x) = 1 := rfl
theorem opK_assign : opK (.assign x) = 1 := rfl
theorem opK_pick : opK (.pick x y z) = 1 := rfl
theorem opK_nilCheck : opK (.nilCheck x) = 1 := rfl
theorem opK_binOp : opK (.binOp q t x y t') = 1 := rfl
theorem opK_unOp : opK (.unOp r t x) = 1 := rfl
theorem opK_convert : opK (.convert t t' x) = 1 := rfl
theorem opK_fieldAddr : opK (.fieldAddr t x f) = 1 := rfl
theorem opK_field : opK (.field t x f) = 1 := rfl
theorem opK_indexAddr : opK (.indexAddr t x y) = 1 := rfl
theorem opK_index : opK (.index t x y) = 1 := rfl
theorem opK_extract : opK (.extract x f) = 1 := rfl
theorem opK_slice : opK (.slice t x l h k) = 1 := rfl
theorem opK_build : opK (.build t ps) = 1 := rfl
theorem opK_makeFunc {as' : Array Operand} : opK (.makeFunc fn as as') = 1 := rfl
theorem opK_makeInterface : opK (.makeInterface t x) = 1 := rfl
theorem opK_load : opK (.load t x) = 2 := rfl
theorem opK_value : opK (.call { callee := .value x, args := as, argTypes := ts }) = 0 := rfl
theorem opK_len : opK (.call { callee := .builtin .len, args := as, argTypes := ts }) = 4 := rfl
theorem opK_max : opK (.call { callee := .builtin .max, args := as, argTypes := ts }) = 1 := rfl
theorem opK_min : opK (.call { callee := .builtin .min, args := as, argTypes := ts }) = 1 := rfl
theorem opK_sdata : opK (.call { callee := .builtin .unsafeSliceData, args := as, argTypes := ts }) = 1 := rfl
theorem opK_append : opK (.call { callee := .builtin .append, args := as, argTypes := ts }) = 3 := rfl
theorem opK_store : opK (.store t x y) = 3 := rfl
theorem opK_box : opK (.box t x) = 3 := rfl
theorem opK_alloc : opK (.alloc t) = 3 := rfl
theorem opK_buildSlice : opK (.buildSlice t f ps) = 3 := rfl
theorem opK_makeMap {t : TypeId} {r : Option Operand} : opK (.makeMap t r) = 3 := rfl
theorem opK_lookup {t : TypeId} {x y : Operand} {b : Bool} : opK (.lookup t x y b) = 5 := rfl
theorem opK_mapUpdate {t : TypeId} {x y z : Operand} : opK (.mapUpdate t x y z) = 3 := rfl
theorem opK_insert {t : TypeId} {x y z : Operand} : opK (.insert t x y z) = 3 := rfl
theorem opK_makeSlice : opK (.makeSlice t x y) = 3 := rfl
end

/-! ### Regions -/
theorem fits_plain : ∀ (l : List Oper) (k : Nat), (∀ j, l[j]? = none ∨ l[j]? = ops[k + j]?) → Fits ops ((List.range' k l.length).map (·, Fl.one)) (l.map (Fl.one, ·))
  | [], _, _ => trivial
  | o :: l, k, h => by
    rw [List.length_cons, List.range'_succ]
    refine ⟨rfl, ?_, fits_plain l (k + 1) fun j => ?_⟩
    · rcases h 0 with h0 | h0
      · cases h0
      · simpa using h0.symm
    · rcases h (j + 1) with h0 | h0
      · exact .inl (by simpa using h0)
      · exact .inr (by rw [show k + 1 + j = k + (j + 1) from by omega]; simpa using h0)
theorem VC.plainL {id : Nat} {l : List Oper} (h : VL P n D .plain ⟨l⟩ (l.map (Fl.one, ·)) e O Q) : VC P n D (.region id ⟨l⟩ false) e O Q := by
  refine VC.region ?_
  have := h 0 #[] _ (fits_plain l 0 fun j => .inr (by simp)) (fun h => absurd rfl h)
  simp only [VRow, List.map_map] at this
  rw [show (⟨l⟩ : Array Oper).size = l.length from rfl, List.range_eq_range']
  rw [show ((fun x : Nat × Fl => x.1) ∘ fun x => (x, Fl.one)) = _root_.id from rfl, List.map_id] at this
  exact this
def pickL (l : List Oper) : List (Nat × Fl) → Option (List (Fl × Oper))
  | [] => some []
  | (i, f) :: ix => match l[i]?, pickL l ix with
    | some o, some L => some ((f, o) :: L)
    | _, _ => none
theorem fits_pick {l : List Oper} : ∀ {ix : List (Nat × Fl)} {L : List (Fl × Oper)}, pickL l ix = some L → Fits ⟨l⟩ ix L
  | [], L, h => by injection h with h; subst h; trivial
  | (i, f) :: ix, L, h => by
    simp only [pickL] at h
    split at h
    · rename_i o L' h1 h2
      injection h with h
      subst h
      exact ⟨rfl, by simpa using h1, fits_pick h2⟩
    · cases h
theorem VC.drawnL (md : Md) (ix : List (Nat × Fl)) {id : Nat} {l : List Oper} {L : List (Fl × Oper)} (hne : md ≠ .plain) (hm : P.follows .mixedOrders = true) (hs : Region.noSelect ⟨l⟩ = true) (hp : planOk md ⟨l⟩ l.length (Array.replicate l.length false) ix = true) (hL : pickL l ix = some L)
    (h : VL P n D md ⟨l⟩ L e O Q) : VC P n D (.region id ⟨l⟩ true) e O Q := by
  have := h l.length (Array.replicate l.length false) ix (fits_pick hL) (fun _ => ⟨hs, hp⟩)
  cases md with
  | plain => exact absurd rfl hne
  | any => exact VC.draw hm this
  | reads => exact fun G a w hw hf => wp_region_held hm (this G a _ (hw.drawn _) hf)
  | held brk => exact VC.drawT brk hm this
end
theorem beqT (b : Bool) : (b == true) = b := by cases b <;> rfl
theorem beqF (b : Bool) : (b == false) = !b := by cases b <;> rfl
theorem beqI_t {a b : Int} (h : a = b) : (a == b) = true := by simpa using h
theorem beqI_f {a b : Int} (h : ¬ a = b) : (a == b) = false := by simpa using h
theorem bneI_t {a b : Int} (h : ¬ a = b) : (a != b) = true := by simpa using h
theorem bneI_f {a b : Int} (h : a = b) : (a != b) = false := by simpa using h
/-- A call that returns. -/
def Ret (Φ : MV → VH → Prop) : VRes → VH → Prop
  | .ret m, O => Φ m O
  | .panic _, _ => False
section
variable {n : Sz} {D : List Deferred} {e : Env} {P : Program} {tab : Tab} {O : VH} {ops : Array Oper} {Q : VQ} {Φ : MV → VH → Prop}
theorem Ret_ret {m : MV} : Ret Φ (.ret m) O = Φ m O := rfl
theorem VL.callR {md : Md} {L : List (Fl × Oper)} {d : Option Tmp} {f : Operand} {args : Array Operand} {tys : Array TypeId} {ty : TypeId} {ps : String} {af : Array Edge} {g : Option (Nat × Bool)} {id : FuncId} {fs ms cs as : List MV}
    (hg : vguard ops (.mk d (.call { callee := .value f, args := args, argTypes := tys }) ty ps af g) e = some true) (hf : ev e f = some (.func (.func id) fs cs)) (hm : evs e args.toList = some ms) (ha : fs ++ ms ++ cs = as) (hE : Enters P id) (hd : dstB n d = true) (hR : VF P id as O (Ret Φ))
    (h : ∀ m O', Φ m O' → VL P n D md ops L (putM d m e) O' Q) : VL P n D md ops ((.one, .mk d (.call { callee := .value f, args := args, argTypes := tys }) ty ps af g) :: L) e O Q :=
  VL.call hg hf hm ha hE hd hR fun r O' hr => by
    cases r with
    | ret m => exact h m O' hr
    | panic m => exact hr.elim
theorem VF.retMono {f : FuncId} {args : List MV} {Φ' : MV → VH → Prop} (hv : VF P f args O (Ret Φ)) (h : ∀ m O', Φ m O' → Φ' m O') : VF P f args O (Ret Φ') :=
  hv.mono fun r O' hr => by
    cases r with
    | ret m => exact h m O' hr
    | panic m => exact hr
end
theorem pick_range (f : Fl) : ∀ (l pre : List Oper), pickL (pre ++ l) ((List.range' pre.length l.length).map (·, f)) = some (l.map (f, ·))
  | [], _ => rfl
  | o :: l, pre => by
    rw [List.length_cons, List.range'_succ, List.map_cons, List.map_cons, pickL]
    have := pick_range f l (pre ++ [o])
    rw [List.append_assoc, List.length_append] at this
    simp only [List.singleton_append, List.length_cons, List.length_nil, Nat.zero_add] at this
    rw [this]
    simp
theorem VC.readsL {n : Sz} {D : List Deferred} {e : Env} {P : Program} {O : VH} {Q : VQ} {id : Nat} {l : List Oper} (hm : P.follows .mixedOrders = true) (hs : Region.noSelect ⟨l⟩ = true) (hp : planOk .reads ⟨l⟩ l.length (Array.replicate l.length false) ((List.range' 0 l.length).map (·, Fl.rd)) = true)
    (h : VL P n D .reads ⟨l⟩ (l.map (Fl.rd, ·)) e O Q) : VC P n D (.region id ⟨l⟩ true) e O Q :=
  VC.drawnL .reads _ (by simp) hm hs hp (pick_range .rd l []) h
theorem vmax_i {k : IntKind} {a b : Int} : vmax2 (.v (.int k a)) (.v (.int k b)) = some (.v (.int k (max a b))) := by
  simp only [vmax2]
  have : (if b > a then b else a) = max a b := by split <;> omega
  rw [this]
theorem vmin_i {k : IntKind} {a b : Int} : vmin2 (.v (.int k a)) (.v (.int k b)) = some (.v (.int k (min a b))) := by
  simp only [vmin2]
  have : (if b < a then b else a) = min a b := by split <;> omega
  rw [this]
theorem vpick_t {e : Env} {tab : Tab} {O : VH} {d : Option Tmp} {ty : TypeId} {p : String} {af : Array Edge} {g : Option (Nat × Bool)} {c x y : Operand} : vop tab (.mk d (.pick c x y) ty p af g) e O = ((ev e c).bind fun b => match b with
    | .v (.bool true) => ev e x
    | .v (.bool false) => ev e y
    | _ => none).map (·, O) := by
  simp only [vop, vsil, vloud]
  cases ev e c with
  | none => rfl
  | some m =>
    cases m <;> try rfl
    rename_i v
    cases v <;> try rfl
    rename_i b
    cases b
    · simp only [Option.bind_some]; cases ev e y <;> rfl
    · simp only [Option.bind_some]; cases ev e x <;> rfl
theorem zp0 (l : List MV) : zipParts #[] l = [] := rfl
theorem vnil_p (b o : Nat) : vnil (.ptr b o) = some (.ptr b o) := rfl
theorem vnil_c (cs : List MV) (o : Nat) : vnil (.cptr cs o) = some (.cptr cs o) := rfl
theorem mcells_v (x : Value) : mcells (.v x) = [.v x] := rfl
theorem mcells_sl (k : Nat) (cs : List MV) (tk : Tok) : mcells (.sl k cs tk) = [.sl k cs tk] := rfl
theorem mcells_str (l : List UInt8) : mcells (.str l) = [.str l] := rfl
theorem mcells_ptr (b o : Nat) : mcells (.ptr b o) = [.ptr b o] := rfl
theorem mcells_agg (cs : List MV) : mcells (.agg cs) = cs := rfl
section
variable {tab : Tab} {O : VH} {t : TypeId} {u : TypeDesc} {d : Nat} {y cs : List MV} {k off : Nat}
theorem vstore_pv {x : Value} (h : tab t = some ⟨u, 1, d, y⟩) (hk : O.hp k = some (.cells cs)) (hl : off < cs.length) : vstore tab O t (.ptr k off) (.v x) = some (O.set k (.cells (cs.set off (.v x)))) := vstore_p h rfl rfl hk hl
theorem vstore_psl {j : Nat} {ds : List MV} {tk : Tok} (h : tab t = some ⟨u, 1, d, y⟩) (hk : O.hp k = some (.cells cs)) (hl : off < cs.length) : vstore tab O t (.ptr k off) (.sl j ds tk) = some (O.set k (.cells (cs.set off (.sl j ds tk)))) := vstore_p h rfl rfl hk hl
theorem vstore_pstr {l : List UInt8} (h : tab t = some ⟨u, 1, d, y⟩) (hk : O.hp k = some (.cells cs)) (hl : off < cs.length) : vstore tab O t (.ptr k off) (.str l) = some (O.set k (.cells (cs.set off (.str l)))) := vstore_p h rfl rfl hk hl
theorem vstore_pptr {b o : Nat} (h : tab t = some ⟨u, 1, d, y⟩) (hk : O.hp k = some (.cells cs)) (hl : off < cs.length) : vstore tab O t (.ptr k off) (.ptr b o) = some (O.set k (.cells (cs.set off (.ptr b o)))) := vstore_p h rfl rfl hk hl
end
section
variable {tab : Tab} {t el : TypeId} {u : TypeDesc} {a b d : Nat} {z : List MV} {y : MV} {k0 k1 : Nat} {c0 c1 : List MV} {t0 t1 : Tok}
theorem vbs1s (h : tab t = some ⟨.slice el, a, b, z⟩) (h2 : tab el = some ⟨u, 1, d, [y]⟩) : vbuildSlice tab t 1 [(0, .sl k0 c0 t0)] = some (.sl 1 [.sl k0 c0 t0] .full) := vbs1 h h2 rfl
theorem vbs2s (h : tab t = some ⟨.slice el, a, b, z⟩) (h2 : tab el = some ⟨u, 1, d, [y]⟩) : vbuildSlice tab t 2 [(0, .sl k0 c0 t0), (1, .sl k1 c1 t1)] = some (.sl 2 [.sl k0 c0 t0, .sl k1 c1 t1] .full) := vbs2 h h2 rfl rfl
end
/-- From here on nobody writes the row in slot t. -/
theorem VC.freeze {n : Sz} {D : List Deferred} {e : Env} {P : Program} {O : VH} {Q : VQ} {c : Code} (t : Nat) {k o i cp sz : Nat} {cs : List MV} (ht : look e t = some (.asl k o i cp)) (hk : O.hp k = some (.cells cs)) (hs : o + sz ≤ cs.length)
    (h : VC P n D c ((t, .sl i ((cs.drop o).take sz) (if cp = i then .full else .unk)) :: e) (O.kill k) Q) : VC P n D c e O Q := by
  intro G a w hw hf
  obtain ⟨u, hu1, hu2⟩ := hf.get t _ ht
  obtain ⟨H, h1, h2, h3⟩ := hw.freeze hk hu2 hs
  have hf2 : FR H n D ((t, .sl i ((cs.drop o).take sz) (if cp = i then .full else .unk)) :: e) a := by
    have hm := hf.mono h1
    refine ⟨hm.defers, hm.size, fun s x hx => ?_⟩
    rw [look_cons] at hx
    cases hb : s == t with
    | true =>
      rw [hb, cond_true] at hx
      injection hx with hx; subst hx
      have : s = t := by simpa using hb
      subst this
      exact ⟨u, hu1, h3⟩
    | false => rw [hb, cond_false] at hx; exact hm.get s x hx
  exact wp_mono (h H a w h2 hf2) fun _ _ _ => VPost.le h1
end Go.Proofs.YtjbpnhmjnkolbaaDoor

/-
  THE VALUE MACHINE, 14: the rewriting lemmas of a walk, in one.
-/
set_option linter.unusedVariables false
set_option linter.unusedSimpArgs false
namespace Go.Proofs.YtjbpnhmjnkolbaaDoor
open Go.RowKit
set_option linter.defProp false in
def vset := And.intro @vnil_p <| And.intro @vnil_c <| And.intro @mcells_v <| And.intro @mcells_sl <| And.intro @mcells_str <| And.intro @mcells_ptr <| And.intro @mcells_agg <| And.intro @vrunC_nil <| And.intro @vrunC_one <| And.intro @vrunC_sil <| And.intro @vrunC_rd <| And.intro @vrunC_fk <| And.intro @vop_makeMap <| And.intro @vop_lookup <| And.intro @vop_mapUpdate <| And.intro @vop_insert <| And.intro @opK_makeMap <| And.intro @opK_lookup <| And.intro @opK_mapUpdate <| And.intro @opK_insert <| And.intro @wk1_stop <| And.intro @wk1_go <| And.intro @wk1_skip <| And.intro @wk2_some <| And.intro @wk2_none <| And.intro @wk3_true <| And.intro @vopF_one <| And.intro @vopF_sil <| And.intro @vopF_rd <| And.intro @vopS_1 <| And.intro @vopS_2 <| And.intro @vopS_4 <| And.intro @vopR_1 <| And.intro @vopR_2 <| And.intro @vopR_5 <| And.intro @vopR_4 <| And.intro @vloadc_c <| And.intro @opK_move <| And.intro @opK_assign <| And.intro @opK_pick <| And.intro @opK_nilCheck <| And.intro @opK_binOp <| And.intro @opK_unOp <| And.intro @opK_convert <| And.intro @opK_fieldAddr <| And.intro @opK_field <| And.intro @opK_indexAddr <| And.intro @opK_index <| And.intro @opK_extract <| And.intro @opK_slice <| And.intro @opK_build <| And.intro @opK_makeFunc <| And.intro @opK_makeInterface <| And.intro @opK_load <| And.intro @opK_value <| And.intro @opK_len <| And.intro @opK_max <| And.intro @opK_min <| And.intro @opK_append <| And.intro @opK_store <| And.intro @opK_box <| And.intro @opK_alloc <| And.intro @opK_buildSlice <| And.intro @opK_makeSlice <| And.intro @beqT <| And.intro @beqF <| And.intro @beqI_t <| And.intro @beqI_f <| And.intro @bneI_t <| And.intro @bneI_f <| And.intro @vguard_none <| And.intro @vguard_some <| And.intro @dstB_some <| And.intro @dstB_none <| And.intro @putM_some <| And.intro @putM_none <| And.intro @wrap_i64 <| And.intro @vop_move <| And.intro @vop_assign <| And.intro @vpick_t <| And.intro @vmax_i <| And.intro @vmin_i <| And.intro @vop_nilCheck <| And.intro @vop_binOp <| And.intro @vop_unOp <| And.intro @vop_convert <| And.intro @vop_fieldAddr <| And.intro @vop_field <| And.intro @vop_indexAddr <| And.intro @vop_index <| And.intro @vop_extract <| And.intro @vop_build <| And.intro @vop_makeFunc <| And.intro @vop_slice <| And.intro @evo_none <| And.intro @evo_some <| And.intro @vop_len <| And.intro @vop_max <| And.intro @vop_min <| And.intro @vop_append <| And.intro @vop_load <| And.intro @vop_store <| And.intro @vop_box <| And.intro @vop_alloc <| And.intro @vop_buildSlice <| And.intro @vop_makeSlice <| And.intro @ev_tmp <| And.intro @ev_int <| And.intro @ev_bool <| And.intro @ev_str <| And.intro @ev_nilsl <| And.intro @ev_nilptr <| And.intro @ev_nilmap <| And.intro @ev_niliface <| And.intro @ev_nilfunc <| And.intro @ev_func <| And.intro @look_cons <| And.intro @evs_nil <| And.intro @evs_cons <| And.intro @vbin_add <| And.intro @vbin_sub <| And.intro @vbin_mul <| And.intro @vbin_eql <| And.intro @vbin_neq <| And.intro @vbin_lss <| And.intro @vbin_leq <| And.intro @vbin_gtr <| And.intro @vbin_geq <| And.intro @vun_neg <| And.intro @vun_not <| And.intro @mi_def <| And.intro @mb_def <| And.intro @zp0 <| And.intro @zp1 <| And.intro @zp2 <| And.intro @zp3 <| And.intro @VH.next_push <| And.intro @looks_cons <| And.intro @looks_nil <| And.intro @pair_cons @pair_nil
end Go.Proofs.YtjbpnhmjnkolbaaDoor

/-
  THE VALUE MACHINE, 15: loops of which only the slots are told that a round turns; short names for rows of numbers, words, bools.
-/
set_option linter.unusedVariables false
set_option linter.unusedSimpArgs false
namespace Go.Proofs.YtjbpnhmjnkolbaaDoor
open Go.RowKit

def pairs : List Nat → List MV → Env → Env
  | t :: l, m :: ms, e => (t, m) :: pairs l ms e
  | _, _, e => e
theorem pairs_cons (t : Nat) (l : List Nat) (m : MV) (ms : List MV) (e : Env) : pairs (t :: l) (m :: ms) e = (t, m) :: pairs l ms e := rfl
theorem pairs_nil (ms : List MV) (e : Env) : pairs [] ms e = e := rfl
theorem look_pairs {e e0 : Env} (he : ∀ t x, look e0 t = some x → look e t = some x) : ∀ {l : List Nat} {ms : List MV}, looks e l = some ms → ∀ t x, look (pairs l ms e0) t = some x → look e t = some x
  | [], ms, _, t, x, hx => he t x (by simpa [pairs] using hx)
  | k :: l, ms, h, t, x, hx => by
    rw [looks_cons] at h
    obtain ⟨m, h1, h2⟩ := Option.bind_eq_some_iff.1 h
    obtain ⟨ms', h3, rfl⟩ := Option.map_eq_some_iff.1 h2
    rw [pairs_cons, look_cons] at hx
    cases hb : t == k with
    | true =>
      rw [hb, cond_true] at hx
      injection hx with hx; subst hx
      have : t = k := by simpa using hb
      rw [this]; exact h1
    | false => rw [hb, cond_false] at hx; exact look_pairs he h3 t x hx
/-- A round's end. -/
def RoundQ {σ : Type} (l K : List Nat) (ks : List MV) (ms : σ → List MV) (I : σ → VH → Prop) (μ : σ → Nat) (s : σ) (Q : VQ) : VQ := fun x e O => match x with
  | .normal => looks e K = some ks ∧ ∃ s', looks e l = some (ms s') ∧ I s' O ∧ μ s' < μ s
  | x => Q x e O
section
variable {n : Sz} {D : List Deferred} {e : Env} {P : Program} {O : VH} {Q : VQ} {c : Code} {σ : Type} {l K : List Nat} {ks : List MV} {ms : σ → List MV} {I : σ → VH → Prop} {μ : σ → Nat} {s : σ} {i : Nat} {m : MV}
theorem RoundQ_normal : RoundQ l K ks ms I μ s Q .normal e O = (looks e K = some ks ∧ ∃ s', looks e l = some (ms s') ∧ I s' O ∧ μ s' < μ s) := rfl
theorem RoundQ_exit : RoundQ l K ks ms I μ s Q (.exit i) e O = Q (.exit i) e O := rfl
theorem RoundQ_goto : RoundQ l K ks ms I μ s Q (.goto i) e O = Q (.goto i) e O := rfl
theorem RoundQ_ret : RoundQ l K ks ms I μ s Q .ret e O = Q .ret e O := rfl
theorem RoundQ_panic : RoundQ l K ks ms I μ s Q (.panic m) e O = Q (.panic m) e O := rfl
/-- A loop: l, the slots that a round turns; K, those that it reads and leaves. -/
theorem VC.loopK (l K : List Nat) (ms : σ → List MV) (I : σ → VH → Prop) (μ : σ → Nat) (s0 : σ) (h0 : looks e l = some (ms s0)) (hk : looks e K = some ks) (hI : I s0 O)
    (step : ∀ s O, I s O → VC P n D c (pairs l (ms s) (pairs K ks [])) O (RoundQ l K ks ms I μ s Q)) : VC P n D (.loop c) e O Q := by
  refine VC.loop (fun k e O => looks e K = some ks ∧ ∃ s, looks e l = some (ms s) ∧ I s O ∧ μ s = k) (k := μ s0) ⟨hk, s0, h0, hI, rfl⟩ ?_
  rintro k e O ⟨hk, s, h1, h2, rfl⟩
  refine VC.mono ?_ (VC.env (step s O h2) (look_pairs (look_pairs (e0 := []) (fun t x h => by simp [look] at h) hk) h1))
  intro x e' O' h
  cases x <;> first
    | exact h
    | (obtain ⟨h6, s', h3, h4, h5⟩ := h; exact ⟨_, h5, h6, s', h3, h4, rfl⟩)
end
/-- Rows of numbers, of truths, of texts. -/
abbrev ints (xs : List Int) (t : Tok) : MV := .sl xs.length (xs.map mi) t
abbrev bools (xs : List Bool) (t : Tok) : MV := .sl xs.length (xs.map mb) t
abbrev strs (xs : List (List UInt8)) (t : Tok) : MV := .sl xs.length (xs.map .str) t
/-! ### The rewriting lemmas that are not the machine's, and those of the ends, each in one -/
set_option linter.defProp false in
def wset := And.intro @Option.map_none.{0,0} <| And.intro @Option.bind_none.{0,0} <| And.intro @pairs_cons <| And.intro @pairs_nil <| And.intro @Int.zero_sub <| And.intro @Bool.not_true <| And.intro @Bool.not_false <| And.intro @decide_true <| And.intro @decide_eq_true <| And.intro @decide_eq_false <| And.intro @Nat.zero_add <| And.intro @Nat.mul_one <| And.intro @Int.toNat_natCast <| And.intro @Nat.add_zero <| And.intro @List.set_cons_zero.{0} <| And.intro @List.set_cons_succ.{0} <| And.intro @List.take_succ_cons.{0} <| And.intro @List.take_zero.{0} <| And.intro @List.drop_succ_cons.{0} <| And.intro @List.drop_zero.{0} <| And.intro @List.getElem?_eq_getElem.{0} <| And.intro @List.getElem?_toArray.{0} <| And.intro @List.getElem?_cons_zero.{0} <| And.intro @List.getElem?_cons_succ.{0} <| And.intro @Option.bind_some.{0,0} <| And.intro @Option.map_some.{0,0} <| And.intro @List.map_cons.{0,0} <| And.intro @List.map_nil.{0,0} <| And.intro @List.getElem?_map.{0,0} <| And.intro @List.getElem_map.{0,0} <| And.intro @if_true.{1} <| And.intro @cond_true.{1} @cond_false.{1}
set_option linter.defProp false in
def qset := And.intro @ScopeQ_normal <| And.intro @ScopeQ_exit <| And.intro @ScopeQ_ret <| And.intro @ScopeQ_panic <| And.intro @RoundQ_exit <| And.intro @RoundQ_goto <| And.intro @RoundQ_ret <| And.intro @RoundQ_panic <| And.intro @SeqQ_normal <| And.intro @SeqQ_exit <| And.intro @SeqQ_goto <| And.intro @SeqQ_ret <| And.intro @SeqQ_panic <| And.intro @BlockQ_normal <| And.intro @BlockQ_exit <| And.intro @BlockQ_goto <| And.intro @BlockQ_ret <| And.intro @BlockQ_panic <| And.intro @LoopQ_exit <| And.intro @LoopQ_goto <| And.intro @LoopQ_ret <| And.intro @LoopQ_panic <| And.intro @Ret_ret <| And.intro @if_true.{1} @if_false.{1}
end Go.Proofs.YtjbpnhmjnkolbaaDoor

/-
  THE VALUE MACHINE, 17: steps of which the world chooses something; texts and rows of bytes.
-/
set_option linter.unusedVariables false
set_option linter.unusedSimpArgs false
namespace Go.Proofs.YtjbpnhmjnkolbaaDoor
open Go.RowKit

section
variable {G H : Gh} {n : Sz} {D : List Deferred} {e : Env} {a : Act} {P : Program} {tab : Tab} {O O' : VH} {w : World} {m m' : MV} {u v : Value} {ops : Array Oper} {Q : VQ}

/-- What an operation may give, whatever the world chooses. -/
def YieldsN (P : Program) (n : Sz) (D : List Deferred) (o : Oper) (e : Env) (O : VH) (M : MV → VH → Prop) : Prop := ∀ G a w, WR G O w → FR G n D e a → ∃ m O', M m O' ∧ Yields' P o a w G m O'
theorem VOps.stepN {i : Nat} {l : List Nat} {o : Oper} {M : MV → VH → Prop} (ho : ops[i]? = some o) (hg : vguard ops o e = some true) (hd : dstB n o.dst = true) (hy : YieldsN P n D o e O M) (h : ∀ m O', M m O' → VOps P n D ops l (putM o.dst m e) O' Q) :
    VOps P n D ops (i :: l) e O Q := by
  intro G a w hw hfr
  obtain ⟨m, O', hM, nx, w', H, u, hr, hnx, h1, h2, h3, _⟩ := hy G a w hw hfr
  simp only [wpOps, ho, vguard_ok hfr hg, if_true]
  refine .inl ?_
  unfold Oper.wp
  rw [hr]
  have hk : wpOps P ops (VPost G n D Q) l (a.put o.dst u) w' := by
    exact wpOps_imp (fun _ _ _ => VPost.le h1) l _ _ (h m O' hM H (a.put o.dst u) w' h2 ((hfr.mono h1).putM hd h3))
  rcases hnx with rfl | ⟨rfl, rfl⟩
  · exact hk
  · exact hk
theorem VL.stepN {o : Oper} {L : List (Fl × Oper)} {M : MV → VH → Prop} (hg : vguard ops o e = some true) (hd : dstB n o.dst = true) (hy : YieldsN P n D o e O M) (h : ∀ m O', M m O' → VL P n D .plain ops L (putM o.dst m e) O' Q) :
    VL P n D .plain ops ((.one, o) :: L) e O Q := by
  intro fuel listed ix hf hp
  match ix, hf with
  | (i, g) :: ix, hf =>
    obtain ⟨rfl, ho, hf⟩ := hf
    exact VOps.stepN ho hg hd hy fun m O' hM => h m O' hM 0 #[] ix hf (fun h => absurd rfl h)

/-! ### A text's bytes as a row that may be written -/
def byM (b : UInt8) : MV := .v (.int .u8 b.toNat)
theorem modify_push {α : Type} (l : Array α) (x : α) (f : α → α) : (l.push x).modify l.size f = l.push (f x) := by
  apply Array.ext_getElem?
  intro i
  simp only [Array.getElem?_modify, Array.getElem?_push]
  by_cases h : i = l.size
  · subst h; simp
  · rw [if_neg (Ne.symm h), if_neg h, if_neg h]
theorem freeze_alloc (w : World) (C : Array Value) (t : TypeId) : (w.alloc (.cells C t)).freeze ⟨w.heap.size, C.size, none⟩ 1 = w.alloc (.cells C t (C.size, C.size + 1)) := by
  simp [World.freeze, World.alloc, -World.alloc_eq, modify_push]
theorem bytes_VRs (l : List UInt8) : VRs G (l.map byM) (l.map fun b => Value.int .u8 b.toNat) := by
  induction l with
  | nil => exact VRs.nil
  | cons b l ih => exact VRs.cons (.v rfl) ih
/-- A text turned into a row of bytes. -/
theorem bytes_ok (ht : TabOk P tab) (h : WR G O w) {src dst el : TypeId} {l : List UInt8} (hs : (tab src).map TyI.under = some .string) (hd : (tab dst).map TyI.under = some (.slice el)) (he : (tab el).map TyI.under = some (.int .u8)) (hl : l.length ≤ maxLen) :
    ∃ c, l.length ≤ c ∧ c ≤ maxLen ∧ Gives P (convert src dst (.string ⟨⟨l⟩⟩)) w G (O.push (.cells (l.map byM))) (.asl O.next 0 l.length c) := by
  have hrun := Lib.run_convert_string_bytes w src dst el ⟨⟨l⟩⟩ (under_of ht hs) (under_of ht hd) (under_of ht he)
  have hsz : (⟨⟨l⟩⟩ : ByteArray).size = l.length := rfl
  rw [hsz] at hrun
  have hge := grownCap_ge w l.length 0 el
  have hle := grownCap_le_maxLen w l.length 0 el hl
  refine ⟨grownCap w l.length 0 el, hge, hle, ?_⟩
  have hcs : (Lib.bytesCells w el ⟨⟨l⟩⟩).toList.take (l.map byM).length = l.map fun b => Value.int .u8 b.toNat := by
    simp [Lib.bytesCells]
  obtain ⟨h1, h2⟩ := h.drew.pushF (cs := l.map byM) (C := Lib.bytesCells w el ⟨⟨l⟩⟩) ⟨el, ((Lib.bytesCells w el ⟨⟨l⟩⟩).size, (Lib.bytesCells w el ⟨⟨l⟩⟩).size + 1), .inr (Nat.le_refl _)⟩ (by rw [hcs]; exact bytes_VRs l)
  have hW : Lib.bytesWorld w el ⟨⟨l⟩⟩ = w.drew.alloc (.cells (Lib.bytesCells w el ⟨⟨l⟩⟩) el ((Lib.bytesCells w el ⟨⟨l⟩⟩).size, (Lib.bytesCells w el ⟨⟨l⟩⟩).size + 1)) := freeze_alloc w.drew _ _
  rw [hW] at hrun
  exact ⟨_, _, _, hrun, h1, h2, .asl (upd_same _ _ _) hge hle, fun k b hk => KeepB.alloc h.drew _ k b hk⟩
theorem VL.bytes (ht : TabOk P tab) {d : Option Tmp} {src dst el : TypeId} {x : Operand} {ty : TypeId} {ps : String} {af : Array Edge} {g : Option (Nat × Bool)} {L : List (Fl × Oper)} {l : List UInt8}
    (hg : vguard ops (.mk d (.convert src dst x) ty ps af g) e = some true) (hx : ev e x = some (.str l)) (hs : (tab src).map TyI.under = some .string) (hds : (tab dst).map TyI.under = some (.slice el)) (he : (tab el).map TyI.under = some (.int .u8)) (hl : l.length ≤ maxLen) (hd : dstB n d = true)
    (h : ∀ c, l.length ≤ c → c ≤ maxLen → VL P n D .plain ops L (putM d (.asl O.next 0 l.length c) e) (O.push (.cells (l.map byM))) Q) :
    VL P n D .plain ops ((.one, .mk d (.convert src dst x) ty ps af g) :: L) e O Q := by
  refine VL.stepN (M := fun m O' => ∃ c, l.length ≤ c ∧ c ≤ maxLen ∧ m = .asl O.next 0 l.length c ∧ O' = O.push (.cells (l.map byM))) hg hd (fun G a w hw hf => ?_) ?_
  · have h1 := hf.ev hx
    generalize hu : a.eval x = u at h1
    cases h1
    obtain ⟨c, c1, c2, c3⟩ := bytes_ok (P := P) ht hw hs hds he hl
    exact ⟨_, _, ⟨c, c1, c2, rfl, rfl⟩, Yields'.of c3 (by simp [execOp, hu])⟩
  · rintro m O' ⟨c, c1, c2, rfl, rfl⟩
    exact h c c1 c2
/-! ### A row of bytes as a text -/
theorem push_bytes (l : List UInt8) : ∀ s : List UInt8, (l.map fun b => (b.toNat : Int)).foldl (fun (r : ByteArray) (n : Int) => r.push (UInt8.ofNat n.toNat)) ⟨⟨s⟩⟩ = ⟨⟨s ++ l⟩⟩ := by
  induction l with
  | nil => intro s; simp
  | cons b l ih =>
    intro s
    rw [List.map_cons, List.foldl_cons]
    have : (⟨⟨s⟩⟩ : ByteArray).push (UInt8.ofNat (b.toNat : Int).toNat) = ⟨⟨s ++ [b]⟩⟩ := by
      simp [ByteArray.push]
    rw [this, ih, List.append_assoc]; rfl
theorem bytes_run (a : Addr) (l : List UInt8) (c : Nat) (w : World) (h : ∀ j v, (l.map fun b => Value.int .u8 b.toNat)[j]? = some v → w.cell? (a.add j) = some v) :
    (Conv.bytesToString (.slice (some a) l.length c)).run P w = .ok (.string ⟨⟨l⟩⟩) w := by
  have h1 := run_loadCells_list (P := P) w a (l.map fun b => Value.int .u8 b.toNat) h
  rw [List.length_map] at h1
  rw [run_bytesToString (P := P) w a l.length c (l.map fun b => (b.toNat : Int)) (by rw [h1, List.map_map]; rfl)]
  rw [show (ByteArray.empty : ByteArray) = ⟨⟨[]⟩⟩ from rfl, push_bytes]; rfl
theorem byM_inv {l : List UInt8} {us : List Value} (h : VRs G (l.map byM) us) : us = l.map fun b => Value.int .u8 b.toNat := by
  induction l generalizing us with
  | nil => exact h.inv_nil
  | cons b l ih =>
    obtain ⟨u, us', rfl, h1, h2⟩ := h.inv_cons
    rw [ih h2, h1.v_inv]; rfl
theorem textA_ok (ht : TabOk P tab) (h : WR G O w) {src dst el : TypeId} {k o c : Nat} {cs : List MV} {l : List UInt8} (hs : (tab src).map TyI.under = some (.slice el)) (hd : (tab dst).map TyI.under = some .string) (he : (tab el).map TyI.under = some (.int .u8))
    (hk : O.hp k = some (.cells cs)) (hcs : (cs.drop o).take l.length = l.map byM) (hx : VR G (.asl k o l.length c) u) : Gives P (convert src dst u) w G O (.str l) := by
  cases hx with
  | asl hp hn hm =>
    rename_i b
    obtain ⟨b', C, T, h1, h2, h3⟩ := h.cells k cs hk
    rw [hp] at h1; injection h1 with h1; subst h1
    have h4 := (h3.drop o).take l.length
    rw [hcs] at h4
    have h5 := byM_inv h4
    refine ⟨_, w, G, ?_, Gh.Le.refl G, h, .str, KeepB.refl _ _⟩
    rw [run_convert_bytes_string w src dst el _ _ _ (under_of ht hs) (under_of ht he) (under_of ht hd)]
    refine bytes_run _ l c w fun j v hv => ?_
    rw [← h5, List.getElem?_take] at hv
    split at hv
    · rw [List.getElem?_drop, List.getElem?_take] at hv
      split at hv
      · rw [Addr.add_lit]
        simp only [World.cell?, h2, Option.isSome_none, Bool.false_eq_true, if_false]
        simpa using hv
      · cases hv
    · cases hv
theorem textS_ok (ht : TabOk P tab) (h : WR G O w) {src dst el : TypeId} {tk : Tok} {l : List UInt8} (hs : (tab src).map TyI.under = some (.slice el)) (hd : (tab dst).map TyI.under = some .string) (he : (tab el).map TyI.under = some (.int .u8))
    (hx : VR G (.sl l.length (l.map byM) tk) u) : Gives P (convert src dst u) w G O (.str l) := by
  have hc := fun a n c => run_convert_bytes_string (P := P) w src dst el a n c (under_of ht hs) (under_of ht he) (under_of ht hd)
  refine ⟨.string ⟨⟨l⟩⟩, w, G, ?_, Gh.Le.refl G, h, .str, KeepB.refl _ _⟩
  generalize hn : l.length = k at hx
  generalize hm : l.map byM = cs at hx
  cases hx with
  | slnil =>
    obtain rfl : l = [] := List.eq_nil_of_length_eq_zero hn
    rw [hc]; rfl
  | sl0n =>
    obtain rfl : l = [] := List.eq_nil_of_length_eq_zero hn
    rw [hc]; rfl
  | sl0 =>
    obtain rfl : l = [] := List.eq_nil_of_length_eq_zero hn
    rw [hc]
    exact bytes_run _ [] _ w fun j v hv => by simp at hv
  | sl h1 h2 h3 h4 h5 h6 =>
    rename_i us c b o
    subst hn hm
    have h7 := byM_inv (us := us) ⟨h1, h3⟩
    rw [hc]
    refine bytes_run _ l c w fun j v hv => ?_
    rw [← h7] at hv
    rw [Addr.add_lit]
    exact h.com _ _ _ (h2 j v hv)
theorem VL.textA (ht : TabOk P tab) {d : Option Tmp} {src dst el : TypeId} {x : Operand} {ty : TypeId} {ps : String} {af : Array Edge} {g : Option (Nat × Bool)} {L : List (Fl × Oper)} {k o nn c : Nat} {cs : List MV} {l : List UInt8}
    (hg : vguard ops (.mk d (.convert src dst x) ty ps af g) e = some true) (hx : ev e x = some (.asl k o nn c)) (hs : (tab src).map TyI.under = some (.slice el)) (hds : (tab dst).map TyI.under = some .string) (he : (tab el).map TyI.under = some (.int .u8)) (hk : O.hp k = some (.cells cs)) (hn : nn = l.length) (hcs : (cs.drop o).take l.length = l.map byM) (hd : dstB n d = true)
    (h : VL P n D .plain ops L (putM d (.str l) e) O Q) : VL P n D .plain ops ((.one, .mk d (.convert src dst x) ty ps af g) :: L) e O Q := by
  subst hn
  refine VL.stepN (M := fun m O' => m = .str l ∧ O' = O) hg hd (fun G a w hw hf => ?_) ?_
  · exact ⟨_, _, ⟨rfl, rfl⟩, Yields'.of (textA_ok (P := P) ht hw hs hds he hk hcs (hf.ev hx)) (by simp [execOp])⟩
  · rintro m O' ⟨rfl, rfl⟩
    exact h
theorem VL.textS (ht : TabOk P tab) {d : Option Tmp} {src dst el : TypeId} {x : Operand} {ty : TypeId} {ps : String} {af : Array Edge} {g : Option (Nat × Bool)} {L : List (Fl × Oper)} {nn : Nat} {cs : List MV} {tk : Tok} {l : List UInt8}
    (hg : vguard ops (.mk d (.convert src dst x) ty ps af g) e = some true) (hx : ev e x = some (.sl nn cs tk)) (hs : (tab src).map TyI.under = some (.slice el)) (hds : (tab dst).map TyI.under = some .string) (he : (tab el).map TyI.under = some (.int .u8)) (hn : nn = l.length) (hcs : cs = l.map byM) (hd : dstB n d = true)
    (h : VL P n D .plain ops L (putM d (.str l) e) O Q) : VL P n D .plain ops ((.one, .mk d (.convert src dst x) ty ps af g) :: L) e O Q := by
  subst hn hcs
  refine VL.stepN (M := fun m O' => m = .str l ∧ O' = O) hg hd (fun G a w hw hf => ?_) ?_
  · exact ⟨_, _, ⟨rfl, rfl⟩, Yields'.of (textS_ok (P := P) ht hw hs hds he (hf.ev hx)) (by simp [execOp])⟩
  · rintro m O' ⟨rfl, rfl⟩
    exact h
/-! ### Where a run stops -/
theorem cv_sb {src dst el : TypeId} {l : List UInt8} {s1 s2 a1 a2 : Nat} {z1 z2 : List MV} (h1 : tab src = some ⟨.string, s1, a1, z1⟩) (h2 : tab dst = some ⟨.slice el, s2, a2, z2⟩) : vconv tab src dst (.str l) = none := by
  simp [vconv, h1, h2]
theorem cv_bs {src dst el : TypeId} {x : MV} {s1 s2 a1 a2 : Nat} {z1 z2 : List MV} (h1 : tab src = some ⟨.slice el, s1, a1, z1⟩) (h2 : tab dst = some ⟨.string, s2, a2, z2⟩) : vconv tab src dst x = none := by
  simp [vconv, h1, h2]
end
end Go.Proofs.YtjbpnhmjnkolbaaDoor

/-
  THE VALUE MACHINE, 18: a walk reckoned by rewriting alone. 'WL', 'WC' say what is to be shown of a row of operations, of a piece of code, so that each rewriting step is an equation; what rewriting cannot do stands still under a name (CallW, CondW, a VL, a VC).
-/
set_option linter.unusedVariables false
set_option linter.unusedSimpArgs false
namespace Go.Proofs.YtjbpnhmjnkolbaaDoor
open Go.RowKit

section
variable {n : Sz} {D : List Deferred} {e e' : Env} {P : Program} {tab : Tab} {O O' : VH} {m m' : MV} {ops : Array Oper} {Q : VQ} {md : Md}

/-- Where a run stops whatever is known. -/
def stopB : Op → Bool
  | .call c => match c.callee with
    | .value _ => true
    | .builtin .append => true
    | _ => false
  | _ => false
def fkB : Fl → Bool
  | .fk => true
  | _ => false
/-- A call of a Go function, its arguments reckoned. -/
def CallE (P : Program) (n : Sz) (Q : VQ) (d : Option Tmp) (O : VH) (K : Env → VH → Prop) (e : Env) (fv : Option MV) (ms : Option (List MV)) : Prop :=
  ∃ id fs cs l R, fv = some (.func (.func id) fs cs) ∧ ms = some l ∧ Enters P id ∧ dstB n d = true ∧ VF P id (fs ++ l ++ cs) O R ∧ ∀ r O', R r O' → match r with
    | .ret m => K (putM d m e) O'
    | .panic m => Q (.panic m) (lowE n e) O'
/-- What a function without a body gives. -/
def ExtOk (P : Program) (id : FuncId) (l : List MV) (O : VH) (M : MV → VH → Prop) : Prop :=
  ∀ G w vs, WR G O w → VRs G l vs → ∃ m O' u w' H, M m O' ∧ (callFunc id vs.toArray).run P w = .ok (.value u) w' ∧ Gh.Le G H ∧ WR H O' w' ∧ VR H m u
def isPlain : Md → Bool
  | .plain => true
  | _ => false
def CallX (P : Program) (n : Sz) (md : Md) (d : Option Tmp) (O : VH) (K : Env → VH → Prop) (e : Env) (fv : Option MV) (ms : Option (List MV)) : Prop :=
  ∃ id l M, isPlain md = true ∧ fv = some (.func (.func id) [] []) ∧ ms = some l ∧ dstB n d = true ∧ ExtOk P id l O M ∧ ∀ m O', M m O' → K (putM d m e) O'
def CallW (P : Program) (n : Sz) (md : Md) (Q : VQ) (d : Option Tmp) (O : VH) (K : Env → VH → Prop) (e : Env) (fv : Option MV) (ms : Option (List MV)) : Prop :=
  CallE P n Q d O K e fv ms ∨ CallX P n md d O K e fv ms
def StopW (P : Program) (n : Sz) (D : List Deferred) (md : Md) (ops : Array Oper) (Q : VQ) (f : Fl) (o : Oper) (L : List (Fl × Oper)) (e : Env) (O : VH) (K : Env → VH → Prop) : Prop :=
  match f, o.op with
  | .one, .call c => match c.callee with
    | .value x => CallW P n md Q o.dst O K e (ev e x) (evs e c.args.toList)
    | _ => VL P n D md ops ((f, o) :: L) e O Q
  | _, _ => VL P n D md ops ((f, o) :: L) e O Q
theorem VL.ext {o : Oper} {c : Call} {x : Operand} {id : FuncId} {ms : List MV} {M : MV → VH → Prop} {L : List (Fl × Oper)} (hg : vguard ops o e = some true) (hop : o.op = .call c) (hc : c.callee = .value x) (hf : ev e x = some (.func (.func id) [] [])) (hm : evs e c.args.toList = some ms) (hd : dstB n o.dst = true)
    (hx : ExtOk P id ms O M) (h : ∀ m O', M m O' → VL P n D .plain ops L (putM o.dst m e) O' Q) : VL P n D .plain ops ((.one, o) :: L) e O Q := by
  intro fuel listed ix hfit hp
  match ix, hfit with
  | (i, g) :: ix, hfit =>
    obtain ⟨rfl, ho, hfit⟩ := hfit
    intro G a w hw hfr
    have hfv := hfr.ev hf
    generalize hfe : a.eval x = fv at hfv
    cases hfv with
    | func h1 h2 h3 h4 =>
      rename_i us vs
      have hus : us = [] := List.eq_nil_of_length_eq_zero h1
      have hvs : vs = [] := List.eq_nil_of_length_eq_zero h3
      subst hus; subst hvs
      have hargs := hfr.evs hm
      obtain ⟨m, O', u, w', H, hM, hr, g1, g2, g3⟩ := hx G w _ hw hargs
      have hrun : (execOp a.eval o).run P w = .ok (.value u) w' := by
        have ha : #[] ++ c.args.map a.eval ++ #[] = (c.args.toList.map a.eval).toArray := by apply Array.ext'; simp
        simp only [execOp, hop, resolve, hc, hfe, Deferred.ofValue, Sem.run_bind, Sem.run_pure, Result.andThen_ok, invoke]
        rw [ha]; exact hr
      simp only [List.map_cons, wpOps, ho, vguard_ok hfr hg, if_true]
      refine .inl ?_
      unfold Oper.wp
      rw [hrun]
      exact wpOps_imp (fun _ _ _ => VPost.le g1) (ix.map (·.1)) _ _ (h m O' hM 0 #[] ix hfit (fun h => absurd rfl h) H (a.put o.dst u) w' g2 ((hfr.mono g1).putM hd g3))
theorem StopW.sound {f : Fl} {o : Oper} {L : List (Fl × Oper)} {K : Env → VH → Prop} (hK : ∀ e O, K e O → VL P n D md ops L e O Q) (hg : vguard ops o e = some true) (h : StopW P n D md ops Q f o L e O K) : VL P n D md ops ((f, o) :: L) e O Q := by
  obtain ⟨d, op, ty, ps, af, g⟩ := o
  cases f with
  | one =>
    cases op with
    | call c =>
      obtain ⟨cl, as, ts⟩ := c
      cases cl with
      | value x =>
        rcases h with h | h
        · obtain ⟨id, fs, cs, l, R, h1, h2, h3, h4, h5, h6⟩ := h
          refine VL.call hg h1 h2 rfl h3 h4 h5 fun r O' hr => ?_
          have := h6 r O' hr
          cases r with
          | ret m => exact hK _ _ this
          | panic m => exact this
        · obtain ⟨id, l, M, hp, h1, h2, h3, h4, h5⟩ := h
          cases md with
          | plain => exact VL.ext hg rfl rfl h1 h2 h3 h4 fun m O' hM => hK _ _ (h5 m O' hM)
          | _ => cases hp
      | _ => exact h
    | _ => exact h
  | _ => exact h
def WL (P : Program) (tab : Tab) (n : Sz) (D : List Deferred) (md : Md) (ops : Array Oper) (Q : VQ) : List (Fl × Oper) → Env → VH → Prop
  | [], e, O => Q .normal e O
  | (f, o) :: L, e, O => match vguard ops o e with
    | none => False
    | some false => (match dstB n o.dst && !fkB f with
      | true => WL P tab n D md ops Q L (putM o.dst undefM e) O
      | false => False)
    | some true => (match stopB o.op || fkB f with
      | true => StopW P n D md ops Q f o L e O (WL P tab n D md ops Q L)
      | false => (match vopF tab f o e O with
        | none => VL P n D md ops ((f, o) :: L) e O Q
        | some (m, O') => (match dstB n o.dst with
          | true => WL P tab n D md ops Q L (putM o.dst m e) O'
          | false => False)))
theorem WL.sound (ht : TabOk P tab) : ∀ {L : List (Fl × Oper)} {e : Env} {O : VH}, WL P tab n D md ops Q L e O → VL P n D md ops L e O Q
  | [], e, O, h => VL.nil h
  | (f, o) :: L, e, O, h => by
    rw [WL] at h
    split at h
    · exact h.elim
    · rename_i hg
      split at h
      · rename_i hd
        simp only [Bool.and_eq_true, Bool.not_eq_true'] at hd
        exact VL.skip (by rintro rfl; exact absurd hd.2 (by decide)) hg hd.1 (WL.sound ht h)
      · exact h.elim
    · rename_i hg
      split at h
      · exact StopW.sound (fun e O h => WL.sound ht h) hg h
      · split at h
        · exact h
        · split at h
          · exact VL.step ht hg ‹_› ‹_› (WL.sound ht h)
          · exact h.elim
/-- What is to be shown of a piece of code. -/
def CondW (P : Program) (n : Sz) (tab : Tab) (D : List Deferred) (A B : Env → VH → VQ → Prop) (e : Env) (O : VH) (Q : VQ) : Option MV → Prop
  | some (.v (.bool true)) => A e O Q
  | some (.v (.bool false)) => B e O Q
  | _ => False
def WC (P : Program) (tab : Tab) (n : Sz) (D : List Deferred) : Code → Env → VH → VQ → Prop
  | .skip, e, O, Q => Q .normal e O
  | .exit i, e, O, Q => Q (.exit i) e O
  | .label _, e, O, Q => Q .normal e O
  | .ret, e, O, Q => Q .ret e O
  | .scope c, e, O, Q => WC P tab n D c e O (ScopeQ Q)
  | .block id c, e, O, Q => WC P tab n D c e O (BlockQ id Q)
  | .seq a b, e, O, Q => WC P tab n D a e O fun x e O => match x with
    | .normal => WC P tab n D b e O Q
    | x => Q x e O
  | .cond c x y, e, O, Q => CondW P n tab D (WC P tab n D x) (WC P tab n D y) e O Q (ev e c)
  | .region id ops false, e, O, Q => WL P tab n D .plain ops Q (ops.toList.map (Fl.one, ·)) e O
  | c, e, O, Q => VC P n D c e O Q
theorem WC.sound (ht : TabOk P tab) : ∀ {c : Code} {e : Env} {O : VH} {Q : VQ}, WC P tab n D c e O Q → VC P n D c e O Q := by
  intro c
  induction c with
  | skip => intro e O Q h; exact VC.skip h
  | exit i => intro e O Q h; exact VC.exit h
  | label l => intro e O Q h; exact VC.label h
  | ret => intro e O Q h; exact VC.ret h
  | scope c ih => intro e O Q h; exact VC.scope (ih h)
  | block id c ih => intro e O Q h; exact VC.block' (ih h)
  | seq a b iha ihb =>
    intro e O Q h
    refine VC.seq (VC.mono ?_ (iha h))
    intro x e O hx
    cases x <;> first | exact ihb hx | exact hx
  | cond c x y ihx ihy =>
    intro e O Q h
    simp only [WC] at h
    unfold CondW at h
    split at h
    · rename_i he; exact VC.condT he (ihx h)
    · rename_i he; exact VC.condF he (ihy h)
    · exact h.elim
  | region id ops dr =>
    intro e O Q h
    cases dr with
    | true => exact h
    | false => obtain ⟨l⟩ := ops; exact VC.plainL (WL.sound ht h)
  | loop c ih => intro e O Q h; exact h
  | _ => intro e O Q h; exact h
def SeqW (K : Env → VH → Prop) (Q : VQ) : VQ := fun x e O => match x with
  | .normal => K e O
  | x => Q x e O
/-- A function's end: which slots or cells hold its results. -/
def vres (tab : Tab) (e : Env) (O : VH) : List ResultVar → Option (List MV)
  | [] => some []
  | r :: rs => (vresult tab e O r).bind fun m => (vres tab e O rs).map (m :: ·)
def RetW (R : VRes → VH → Prop) (O : VH) : Option (List MV) → Prop
  | none => False
  | some [m] => R (.ret m) O
  | some l => R (.ret (.tuple l)) O
def EndW (tab : Tab) (rs : List ResultVar) (R : VRes → VH → Prop) : VQ := fun x e O => match x with
  | .normal => RetW R O (vres tab e O rs)
  | .ret => RetW R O (vres tab e O rs)
  | .panic m => R (.panic m) O
  | _ => False
theorem vres_eq (rs : List ResultVar) : vres tab e O rs = rs.mapM (vresult tab e O) := by
  induction rs with
  | nil => rfl
  | cons r rs ih =>
    rw [vres, ih, List.mapM_cons]
    simp only [Option.bind_eq_bind]
    cases vresult tab e O r with
    | none => rfl
    | some m => simp only [Option.bind_some]; cases List.mapM (vresult tab e O) rs <;> rfl
theorem VF.ofW (ht : TabOk P tab) {f : FuncId} {fn : Func} {c : Code} {args : List MV} {rs : List ResultVar} {R : VRes → VH → Prop} (hf : P.funcs[f]? = some fn) (hb : fn.body = some c) (hk : (⟨fn.ntmps, 0⟩ : Sz) = n) (hr : fn.results.toList = rs) (hn : args.length ≤ n.n)
    (h : WC P tab n [] c (argEnv 0 args) O (EndW tab rs R)) : VF P f args O R := by
  subst hk
  refine VF.enter ht hf hb hn (VC.mono ?_ (WC.sound ht h))
  intro x e O hx
  have key : RetW R O (vres tab e O rs) → ∃ m, vresults tab fn e O = some m ∧ R (.ret m) O := fun h => by
    unfold vresults
    rw [hr, ← vres_eq]
    generalize vres tab e O rs = z at h
    unfold RetW at h
    split at h
    · exact h.elim
    · exact ⟨_, rfl, h⟩
    · rename_i l hl
      refine ⟨.tuple l, ?_, h⟩
      match l, hl with
      | [], _ => rfl
      | [m], hl => exact absurd rfl (hl m)
      | _ :: _ :: _, _ => rfl
  cases x <;> first | exact key hx | exact hx

/-! ### Its equations -/
def W3 (P : Program) (tab : Tab) (n : Sz) (D : List Deferred) (md : Md) (ops : Array Oper) (Q : VQ) (L : List (Fl × Oper)) (e : Env) (O : VH) : Bool → Prop
  | true => WL P tab n D md ops Q L e O
  | false => False
def W2 (P : Program) (tab : Tab) (n : Sz) (D : List Deferred) (md : Md) (ops : Array Oper) (Q : VQ) (f : Fl) (o : Oper) (L : List (Fl × Oper)) (e : Env) (O : VH) : Option (MV × VH) → Prop
  | some (m, O') => W3 P tab n D md ops Q L (putM o.dst m e) O' (dstB n o.dst)
  | none => VL P n D md ops ((f, o) :: L) e O Q
def W1 (P : Program) (tab : Tab) (n : Sz) (D : List Deferred) (md : Md) (ops : Array Oper) (Q : VQ) (f : Fl) (o : Oper) (L : List (Fl × Oper)) (e : Env) (O : VH) : Bool → Option Bool → Prop
  | _, none => False
  | true, some true => StopW P n D md ops Q f o L e O (WL P tab n D md ops Q L)
  | false, some true => W2 P tab n D md ops Q f o L e O (vopF tab f o e O)
  | _, some false => W3 P tab n D md ops Q L (putM o.dst undefM e) O (dstB n o.dst && !fkB f)
section
variable {f : Fl} {o : Oper} {L : List (Fl × Oper)} {d : Option Tmp} {p : Op} {ty : TypeId} {ps : String} {af : Array Edge} {g : Option (Nat × Bool)} {b : Bool}
theorem WL_nil : WL P tab n D md ops Q [] e O = Q .normal e O := rfl
theorem WL_cons : WL P tab n D md ops Q ((f, .mk d p ty ps af g) :: L) e O = W1 P tab n D md ops Q f (.mk d p ty ps af g) L e O (stopB p || fkB f) (vguard ops (.mk d p ty ps af g) e) := by
  rw [WL]
  generalize vguard ops (.mk d p ty ps af g) e = x
  unfold W1
  cases x with
  | none => rfl
  | some b =>
    cases b with
    | false =>
      simp only
      unfold W3
      split <;> simp only
      all_goals (split <;> rename_i h <;> simp_all)
    | true =>
      simp only
      generalize (stopB p || fkB f) = y
      cases y with
      | true => rfl
      | false =>
        simp only
        unfold W2
        cases vopF tab f (.mk d p ty ps af g) e O with
        | none => rfl
        | some r => unfold W3; cases dstB n d <;> rfl
theorem W1_stop : W1 P tab n D md ops Q f o L e O true (some true) = StopW P n D md ops Q f o L e O (WL P tab n D md ops Q L) := rfl
theorem W1_go : W1 P tab n D md ops Q f o L e O false (some true) = W2 P tab n D md ops Q f o L e O (vopF tab f o e O) := rfl
theorem W1_skip : W1 P tab n D md ops Q f (.mk d p ty ps af g) L e O b (some false) = W3 P tab n D md ops Q L (putM d undefM e) O (dstB n d && !fkB f) := by cases b <;> rfl
theorem W2_some : W2 P tab n D md ops Q f (.mk d p ty ps af g) L e O (some (m, O')) = W3 P tab n D md ops Q L (putM d m e) O' (dstB n d) := rfl
theorem W2_none : W2 P tab n D md ops Q f o L e O none = VL P n D md ops ((f, o) :: L) e O Q := rfl
theorem W3_true : W3 P tab n D md ops Q L e O true = WL P tab n D md ops Q L e O := rfl
variable {K : Env → VH → Prop} {x : Operand} {as : Array Operand} {ts : Array TypeId}
theorem StopW_call : StopW P n D md ops Q .one (.mk d (.call { callee := .value x, args := as, argTypes := ts }) ty ps af g) L e O K = CallW P n md Q d O K e (ev e x) (evs e as.toList) := rfl
theorem StopW_append : StopW P n D md ops Q f (.mk d (.call { callee := .builtin .append, args := as, argTypes := ts }) ty ps af g) L e O K = VL P n D md ops ((f, .mk d (.call { callee := .builtin .append, args := as, argTypes := ts }) ty ps af g) :: L) e O Q := by cases f <;> rfl
end
section
variable {c a b : Code} {i id : Nat} {A B : Env → VH → VQ → Prop} {l : List Oper} {K : Env → VH → Prop} {R : VRes → VH → Prop} {rs : List ResultVar} {r : ResultVar} {t : Nat} {m1 m2 m3 : MV} {x : Operand} {y : Code}
theorem WC_skip : WC P tab n D .skip e O Q = Q .normal e O := rfl
theorem WC_exit : WC P tab n D (.exit i) e O Q = Q (.exit i) e O := rfl
theorem WC_label : WC P tab n D (.label i) e O Q = Q .normal e O := rfl
theorem WC_ret : WC P tab n D .ret e O Q = Q .ret e O := rfl
theorem WC_scope : WC P tab n D (.scope c) e O Q = WC P tab n D c e O (ScopeQ Q) := rfl
theorem WC_block : WC P tab n D (.block id c) e O Q = WC P tab n D c e O (BlockQ id Q) := rfl
/-- What comes behind. -/
def NextW (P : Program) (tab : Tab) (n : Sz) (D : List Deferred) (b : Code) (Q : VQ) : Env → VH → Prop := fun e O => WC P tab n D b e O Q
theorem NextW_eq : NextW P tab n D b Q e O = WC P tab n D b e O Q := rfl
theorem WC_seq : WC P tab n D (.seq a b) e O Q = WC P tab n D a e O (SeqW (NextW P tab n D b Q) Q) := rfl
theorem WC_cond : WC P tab n D (.cond x a b) e O Q = CondW P n tab D (WC P tab n D a) (WC P tab n D b) e O Q (ev e x) := rfl
theorem WC_region : WC P tab n D (.region id ⟨l⟩ false) e O Q = WL P tab n D .plain ⟨l⟩ Q (l.map (Fl.one, ·)) e O := rfl
theorem WC_drawn : WC P tab n D (.region id ops true) e O Q = VC P n D (.region id ops true) e O Q := rfl
theorem WC_loop : WC P tab n D (.loop c) e O Q = VC P n D (.loop c) e O Q := rfl
theorem SeqW_normal : SeqW K Q .normal e O = K e O := rfl
theorem SeqW_exit : SeqW K Q (.exit i) e O = Q (.exit i) e O := rfl
theorem SeqW_goto : SeqW K Q (.goto i) e O = Q (.goto i) e O := rfl
theorem SeqW_ret : SeqW K Q .ret e O = Q .ret e O := rfl
theorem SeqW_panic : SeqW K Q (.panic m) e O = Q (.panic m) e O := rfl
theorem CondW_t : CondW P n tab D A B e O Q (some (.v (.bool true))) = A e O Q := rfl
theorem CondW_f : CondW P n tab D A B e O Q (some (.v (.bool false))) = B e O Q := rfl
theorem CondW.two {b : Bool} (h1 : b = true → A e O Q) (h2 : b = false → B e O Q) : CondW P n tab D A B e O Q (some (.v (.bool b))) := by cases b <;> first | exact h1 rfl | exact h2 rfl
theorem vres_nil : vres tab e O [] = some [] := rfl
theorem vres_cons : vres tab e O (r :: rs) = (vresult tab e O r).bind fun m => (vres tab e O rs).map (m :: ·) := rfl
theorem vresult_tmp : vresult tab e O (.tmp t) = look e t := rfl
theorem vresult_cell {ty : TypeId} : vresult tab e O (.cell t ty) = (look e t).bind (vload tab O ty) := rfl
theorem RetW_0 : RetW R O (some []) = R (.ret (.tuple [])) O := rfl
theorem RetW_1 : RetW R O (some [m]) = R (.ret m) O := rfl
theorem RetW_2 : RetW R O (some [m, m1]) = R (.ret (.tuple [m, m1])) O := rfl
theorem RetW_3 : RetW R O (some [m, m1, m2]) = R (.ret (.tuple [m, m1, m2])) O := rfl
theorem RetW_4 : RetW R O (some [m, m1, m2, m3]) = R (.ret (.tuple [m, m1, m2, m3])) O := rfl
theorem EndW_normal : EndW tab rs R .normal e O = RetW R O (vres tab e O rs) := rfl
theorem EndW_ret : EndW tab rs R .ret e O = RetW R O (vres tab e O rs) := rfl
theorem EndW_panic : EndW tab rs R (.panic m) e O = R (.panic m) O := rfl
/-! ### Its rules -/
def callable (P : Program) (f : FuncId) : Bool := match P.funcs[f]? with
  | some fn => !(fn.name == "runtime.NumGoroutine") && fn.body.isSome
  | none => false
theorem Enters.ofB {f : FuncId} (h : callable P f = true) : Enters P f := by
  unfold callable at h
  split at h
  · rename_i fn hf
    simp only [Bool.and_eq_true, Bool.not_eq_true'] at h
    exact Enters.of hf h.1 (by cases hb : fn.body with | none => rw [hb] at h; exact absurd h.2 (by decide) | some c => rfl)
  · cases h
theorem CallW.rt {f : FuncId} {fs cs ms as : List MV} {d : Option Tmp} {Φ : MV → VH → Prop} (hR : VF P f as O (Ret Φ)) (hb : callable P f = true) (ha : fs ++ ms ++ cs = as) (hd : dstB n d = true) (h : ∀ m O', Φ m O' → K (putM d m e) O') :
    CallW P n md Q d O K e (some (.func (.func f) fs cs)) (some ms) := by
  subst ha
  exact .inl ⟨f, fs, cs, ms, _, rfl, rfl, Enters.ofB hb, hd, hR, fun r O' hr => by
    cases r with
    | ret m => exact h m O' hr
    | panic m => exact hr.elim⟩
/-- The same of a call that may panic. -/
theorem CallW.p {f : FuncId} {fs cs ms as : List MV} {d : Option Tmp} {R : VRes → VH → Prop} (hR : VF P f as O R) (hb : callable P f = true) (ha : fs ++ ms ++ cs = as) (hd : dstB n d = true) (h : ∀ m O', R (.ret m) O' → K (putM d m e) O') (h2 : ∀ m O', R (.panic m) O' → Q (.panic m) (lowE n e) O') :
    CallW P n md Q d O K e (some (.func (.func f) fs cs)) (some ms) := by
  subst ha
  exact .inl ⟨f, fs, cs, ms, R, rfl, rfl, Enters.ofB hb, hd, hR, fun r O' hr => by
    cases r with
    | ret m => exact h m O' hr
    | panic m => exact h2 m O' hr⟩
theorem CallW.ext {f : FuncId} {ms : List MV} {d : Option Tmp} {M : MV → VH → Prop} (hx : ExtOk P f ms O M) (hd : dstB n d = true) (h : ∀ m O', M m O' → K (putM d m e) O') : CallW P n .plain Q d O K e (some (.func (.func f) [] [])) (some ms) :=
  .inr ⟨f, ms, M, rfl, rfl, rfl, hd, hx, h⟩
/-- A function without a body that reckons something of its arguments. -/
theorem ExtOk.of {f : FuncId} {fn : Func} {ex : Array Value → Sem Value} {ms : List MV} (hf : P.funcs[f]? = some fn) (hname : (fn.name == "runtime.NumGoroutine") = false) (hb : fn.body.isNone = true) (hn : Extern.findNext fn = none) (he : Extern.find fn = some ex)
    (hr : ∀ G w vs, WR G O w → VRs G ms vs → ∃ u, (ex vs.toArray).run P w = .ok u w ∧ VR G m u) : ExtOk P f ms O fun m' O' => m' = m ∧ O' = O := by
  intro G w vs hw hv
  obtain ⟨u, h1, h2⟩ := hr G w vs hw hv
  exact ⟨m, O, u, w, G, ⟨rfl, rfl⟩, by rw [run_callFunc_extern hf hname hb hn he, h1]; rfl, Gh.Le.refl G, hw, h2⟩
theorem WC.reads (ht : TabOk P tab) {id : Nat} {l : List Oper} (hm : P.follows .mixedOrders = true) (hs : Region.noSelect ⟨l⟩ = true) (hp : planOk .reads ⟨l⟩ l.length (Array.replicate l.length false) ((List.range' 0 l.length).map (·, Fl.rd)) = true)
    (h : WL P tab n D .reads ⟨l⟩ Q (l.map (Fl.rd, ·)) e O) : VC P n D (.region id ⟨l⟩ true) e O Q := VC.readsL hm hs hp (WL.sound ht h)
theorem WC.plan (ht : TabOk P tab) (md : Md) (ix : List (Nat × Fl)) {id : Nat} {l : List Oper} {L : List (Fl × Oper)} (hne : md ≠ .plain) (hm : P.follows .mixedOrders = true) (hs : Region.noSelect ⟨l⟩ = true) (hp : planOk md ⟨l⟩ l.length (Array.replicate l.length false) ix = true) (hL : pickL l ix = some L)
    (h : WL P tab n D md ⟨l⟩ Q L e O) : VC P n D (.region id ⟨l⟩ true) e O Q := VC.drawnL md ix hne hm hs hp hL (WL.sound ht h)
variable {σ : Type} {ls Ks : List Nat} {ks : List MV} {ms : σ → List MV} {I : σ → VH → Prop} {μ : σ → Nat} {s : σ}
theorem WC.loopK (ht : TabOk P tab) (ls Ks : List Nat) (ms : σ → List MV) (I : σ → VH → Prop) (μ : σ → Nat) (s0 : σ) (h0 : looks e ls = some (ms s0)) (hk : looks e Ks = some ks) (hI : I s0 O)
    (step : ∀ s O, I s O → WC P tab n D c (pairs ls (ms s) (pairs Ks ks [])) O (RoundQ ls Ks ks ms I μ s Q)) : VC P n D (.loop c) e O Q :=
  VC.loopK ls Ks ms I μ s0 h0 hk hI fun s O h => WC.sound ht (step s O h)
end
theorem VL.app (ht : TabOk P tab) {d : Option Tmp} {x y : Operand} {t ty : TypeId} {ps : String} {af : Array Edge} {g : Option (Nat × Bool)} {L : List (Fl × Oper)} {p q : MV} (hv : vappend tab O t p q = some (m, O')) (hx : ev e x = some p) (hy : ev e y = some q)
    (hg : vguard ops (.mk d (.call { callee := .builtin .append, args := #[x, y], argTypes := #[t, t] }) ty ps af g) e = some true) (hd : dstB n d = true) (h : WL P tab n D md ops Q L (putM d m e) O') :
    VL P n D md ops ((.one, .mk d (.call { callee := .builtin .append, args := #[x, y], argTypes := #[t, t] }) ty ps af g) :: L) e O Q :=
  VL.step ht hg (by rw [vopF_one, vop_append, hx, hy]; exact hv) hd (WL.sound ht h)
end
end Go.Proofs.YtjbpnhmjnkolbaaDoor
