/-
  THE VALUE MACHINE, 12: a region as a row of operations, written out: run as far as the next call of a Go function; drawn regions by a plan.
-/
import Derived.Test.YtjbpnhmjnkolbaaDoorVb
set_option linter.unusedVariables false
set_option linter.unusedSimpArgs false
namespace Go.Proofs.YtjbpnhmjnkolbaaDoor
open Go.RowKit

section
variable {G H : Gh} {n : Nat} {D : List Deferred} {e e' : Env} {a : Act} {P : Program} {tab : Tab} {O O' : VH} {w : World} {m m' : MV} {u v : Value} {ops : Array Oper} {Q : VQ}

/-- Which kind of operation: 0 a call of a Go function, 1 silent, 2 a load, 4 a length, 3 any other. -/
def opK : Op → Nat
  | .move _ | .assign _ | .pick .. | .nilCheck _ | .binOp .. | .unOp .. | .convert .. | .fieldAddr .. | .field .. | .indexAddr .. | .index .. | .extract .. | .slice .. | .build .. | .makeFunc .. | .makeInterface .. => 1
  | .load .. => 2
  | .lookup .. => 5
  | .call c => match c.callee with
    | .value _ => 0
    | .builtin .len => 4
    | .builtin .max => 1
    | .builtin .min => 1
    | .builtin .unsafeSliceData => 1
    | _ => 3
  | _ => 3
theorem vloud_1 {o : Oper} (h : opK o.op = 1) : vloud tab o e O = none := by
  unfold vloud
  unfold opK at h
  split <;> first
    | rfl
    | (rename_i ho; rw [ho] at h; cases h)
    | (rename_i ho
       rw [ho] at h
       split <;> first
         | rfl
         | (rename_i hc _ _; simp only [hc] at h; cases h))
theorem vop_1 {o : Oper} (h : opK o.op = 1) (hv : vop tab o e O = some (m, O')) : vsil tab o e = some m ∧ O' = O := by
  unfold vop at hv
  rw [vloud_1 h] at hv
  split at hv
  · rename_i p hp
    simp only [Option.some.injEq, Prod.mk.injEq] at hv
    exact ⟨by rw [hp, hv.1], hv.2.symm⟩
  · cases hv

inductive Fl where
  | one | sil | rd | fk
inductive Md where
  | plain | any | reads
  | held (brk : List Nat)

def vloadc (tab : Tab) (t : TypeId) : MV → Option MV
  | .cptr cs off => vload tab ⟨0, fun _ => none⟩ t (.cptr cs off)
  | _ => none
def vopL (tab : Tab) (o : Oper) (e : Env) (O : VH) : Option (MV × VH) :=
  match o.op with
  | .load t x => ((ev e x).bind (vloadc tab t)).map (·, O)
  | _ => none
def vopN (tab : Tab) (o : Oper) (e : Env) (O : VH) : Option (MV × VH) :=
  match o.op with
  | .call c => match c.callee, c.args.toList, c.argTypes.toList with
    | .builtin .len, [x], [t] => ((ev e x).bind (vlen tab t)).map (·, O)
    | _, _, _ => none
  | _ => none
def vopS (tab : Tab) (k : Nat) (o : Oper) (e : Env) (O : VH) : Option (MV × VH) :=
  match k with
  | 1 => vop tab o e O
  | 2 => vopL tab o e O
  | 4 => vopN tab o e O
  | _ => none
def vopR (tab : Tab) (k : Nat) (o : Oper) (e : Env) (O : VH) : Option (MV × VH) :=
  match k with
  | 1 => vop tab o e O
  | 2 => vop tab o e O
  | 4 => vopN tab o e O
  | 5 => vop tab o e O
  | _ => none
def vopF (tab : Tab) (f : Fl) (o : Oper) (e : Env) (O : VH) : Option (MV × VH) :=
  match f with
  | .one => vop tab o e O
  | .fk => none
  | .sil => vopS tab (opK o.op) o e O
  | .rd => vopR tab (opK o.op) o e O

theorem vopL_sil {o : Oper} (hv : vopL tab o e O = some (m, O')) : vsil tab o e = some m ∧ O' = O := by
  unfold vopL at hv
  split at hv
  · rename_i t x ho
    obtain ⟨q, h1, h2⟩ := Option.map_eq_some_iff.1 hv
    obtain ⟨p, h3, h4⟩ := Option.bind_eq_some_iff.1 h1
    simp only [Prod.mk.injEq] at h2
    refine ⟨?_, h2.2.symm⟩
    rw [← h2.1]
    unfold vloadc at h4
    split at h4
    · simp only [vsil, ho, h3]; exact h4
    · cases h4
  · cases hv
theorem vopN_sil {o : Oper} (hv : vopN tab o e O = some (m, O')) : vsil tab o e = some m ∧ O' = O := by
  unfold vopN at hv
  split at hv
  · rename_i c ho
    split at hv
    · rename_i x t hc ha hty
      obtain ⟨q, h1, h2⟩ := Option.map_eq_some_iff.1 hv
      simp only [Prod.mk.injEq] at h2
      refine ⟨?_, h2.2.symm⟩
      rw [← h2.1]
      simp only [vsil, ho, hc, ha, hty]
      exact h1
    · cases hv
  · cases hv
theorem vopS_sil {o : Oper} (hv : vopF tab .sil o e O = some (m, O')) : vsil tab o e = some m ∧ O' = O := by
  simp only [vopF, vopS] at hv
  split at hv
  · exact vop_1 ‹_› hv
  · exact vopL_sil hv
  · exact vopN_sil hv
  · cases hv
theorem vop_of_vsil {o : Oper} (h : vsil tab o e = some m) : vop tab o e O = some (m, O) := by unfold vop; rw [h]
theorem vopF_vop {f : Fl} {o : Oper} (hv : vopF tab f o e O = some (m, O')) : vop tab o e O = some (m, O') := by
  cases f with
  | one => exact hv
  | fk => cases hv
  | sil => obtain ⟨h1, rfl⟩ := vopS_sil hv; exact vop_of_vsil h1
  | rd =>
    simp only [vopF, vopR] at hv
    split at hv
    · exact hv
    · exact hv
    · obtain ⟨h1, rfl⟩ := vopN_sil hv; exact vop_of_vsil h1
    · exact hv
    · cases hv
/-- What only reads yields its value in every world that holds what is known, and leaves that world. -/
theorem vread_ok (ht : TabOk P tab) (hw : WR G O w) (h : FR G n D e a) {f : Fl} {o : Oper} (hf : f ≠ .one) (hv : vopF tab f o e O = some (m, O')) : O' = O ∧ ∃ u, VR G m u ∧ ∀ x, Sx G w x → (execOp a.eval o).run P x = .ok (.value u) x := by
  have sil : ∀ {m}, vsil tab o e = some m → ∃ u, VR G m u ∧ ∀ x, Sx G w x → (execOp a.eval o).run P x = .ok (.value u) x := fun h1 => by
    obtain ⟨u, hu, hr⟩ := vsil_ok (P := P) ht h h1
    exact ⟨u, hu, fun x hx => hr x hx.1⟩
  cases f with
  | one => exact absurd rfl hf
  | fk => cases hv
  | sil => obtain ⟨h1, rfl⟩ := vopS_sil hv; exact ⟨rfl, sil h1⟩
  | rd =>
    simp only [vopF, vopR] at hv
    split at hv
    · obtain ⟨h1, rfl⟩ := vop_1 ‹_› hv; exact ⟨rfl, sil h1⟩
    · rename_i hk
      unfold vop at hv
      split at hv
      · rename_i p hp
        simp only [Option.some.injEq, Prod.mk.injEq] at hv
        obtain ⟨rfl, rfl⟩ := hv
        exact ⟨rfl, sil hp⟩
      · unfold vloud at hv
        split at hv <;> first
          | (rename_i t x ho
             obtain ⟨p, h1, h2⟩ := Option.bind_eq_some_iff.1 hv
             obtain ⟨q, h3, h4⟩ := Option.map_eq_some_iff.1 h2
             simp only [Prod.mk.injEq] at h4
             obtain ⟨rfl, rfl⟩ := h4
             obtain ⟨u, g1, g2⟩ := vload_held (P := P) ht hw h3 (h.ev h1)
             exact ⟨rfl, u, g1, fun x hx => by simp only [execOp, ho, Sem.run_bind, g2 x hx]; rfl⟩)
          | (rename_i ho; rw [ho] at hk; simp only [opK] at hk; cases hk)
          | (rename_i ho _ _ _; rw [ho] at hk; simp only [opK] at hk; cases hk)
          | cases hv
          | (rename_i c ho
             exfalso
             rw [ho] at hk
             simp only [opK] at hk
             split at hk <;> cases hk)
    · obtain ⟨h1, rfl⟩ := vopN_sil hv; exact ⟨rfl, sil h1⟩
    · rename_i hk
      unfold vop at hv
      split at hv
      · rename_i p hp
        simp only [Option.some.injEq, Prod.mk.injEq] at hv
        obtain ⟨rfl, rfl⟩ := hv
        exact ⟨rfl, sil hp⟩
      · unfold vloud at hv
        split at hv <;> first
          | (rename_i t x k ok ho
             split at hv
             · rename_i p q h1 h2
               obtain ⟨r, h3, h4⟩ := Option.map_eq_some_iff.1 hv
               simp only [Prod.mk.injEq] at h4
               obtain ⟨rfl, rfl⟩ := h4
               obtain ⟨u, g1, g2⟩ := vlookup_held (P := P) ht hw h3 (h.ev h1) (h.ev h2)
               exact ⟨rfl, u, g1, fun x hx => by simp only [execOp, ho, Sem.run_bind, g2 x hx]; rfl⟩
             · cases hv)
          | (rename_i ho; rw [ho] at hk; simp only [opK] at hk; cases hk)
          | (rename_i ho _ _ _; rw [ho] at hk; simp only [opK] at hk; cases hk)
          | cases hv
          | (rename_i c ho
             exfalso
             rw [ho] at hk
             simp only [opK] at hk
             split at hk <;> cases hk)
    · cases hv

def planOk (md : Md) (ops : Array Oper) : Nat → Array Bool → List (Nat × Fl) → Bool
  | _, listed, [] => Region.ready .any ops listed == []
  | 0, _, _ :: _ => false
  | k + 1, listed, (i, f) :: r => (match f, md, r with
    | .one, .any, _ => Region.ready .any ops listed == [i]
    | .sil, .any, _ => Region.free .any ops listed i && (Region.ready .any ops listed).contains i
    | .sil, .reads, _ => Region.free .any ops listed i && (Region.ready .any ops listed).contains i
    | .rd, .reads, _ => Region.free .any ops listed i && (Region.ready .any ops listed).contains i
    | .sil, .held brk, _ => Region.free .any ops listed i && (Region.ready .any ops listed).contains i && waitB ops brk listed i
    | .rd, .held brk, _ => Region.free .any ops listed i && (Region.ready .any ops listed).contains i && waitB ops brk listed i
    | .one, .held brk, _ => Region.ready .any ops listed == [i] && ((!brk.contains i && ((ops[i]?).map fun o => opA o.op).getD false) || (brk.contains i && (List.range listed.size).all fun j => (listed.setIfInBounds i true).getD j true || brk.contains j))
    | .fk, .any, (j, .one) :: _ => (Region.ready .any ops listed == [i, j] || Region.ready .any ops listed == [j, i]) && Region.ready .any ops (listed.setIfInBounds i true) == [j] && Region.ready .any ops (listed.setIfInBounds j true) == [i]
    | _, _, _ => false) && planOk md ops k (listed.setIfInBounds i true) r
def Fits (ops : Array Oper) : List (Nat × Fl) → List (Fl × Oper) → Prop
  | [], [] => True
  | (i, f) :: ix, (g, o) :: L => f = g ∧ ops[i]? = some o ∧ Fits ops ix L
  | _, _ => False

/-- A region whose operations only read, whatever order is drawn. -/
def VAnyR (P : Program) (n : Nat) (D : List Deferred) (ops : Array Oper) (fuel : Nat) (listed : Array Bool) (e : Env) (O : VH) (Q : VQ) : Prop :=
  ∀ G a w, WR G O w → FR G n D e a → wpAnyH P .any ops (VPost G n D Q) (fun x => x = w) fuel listed a w
def VRow (P : Program) (n : Nat) (D : List Deferred) (md : Md) (ops : Array Oper) (fuel : Nat) (listed : Array Bool) (ix : List (Nat × Fl)) (e : Env) (O : VH) (Q : VQ) : Prop :=
  match md with
  | .plain => VOps P n D ops (ix.map (·.1)) e O Q
  | .any => VAny P n D ops fuel listed e O Q
  | .reads => VAnyR P n D ops fuel listed e O Q
  | .held brk => VAnyT P n D ops brk fuel listed e O Q
/-- A row of operations, written out. -/
def VL (P : Program) (n : Nat) (D : List Deferred) (md : Md) (ops : Array Oper) (L : List (Fl × Oper)) (e : Env) (O : VH) (Q : VQ) : Prop :=
  ∀ fuel listed ix, Fits ops ix L → (md ≠ .plain → Region.noSelect ops = true ∧ planOk md ops fuel listed ix = true) → VRow P n D md ops fuel listed ix e O Q

theorem VL.nil {md : Md} (h : Q .normal e O) : VL P n D md ops [] e O Q := by
  intro fuel listed ix hf hp
  cases ix with
  | cons x ix => exact hf.elim
  | nil =>
    cases md with
    | plain => exact VOps.nil h
    | any =>
      have := (hp (by simp)).2
      rw [planOk] at this
      exact VAny.done (by simpa using this) h
    | reads =>
      have := (hp (by simp)).2
      rw [planOk] at this
      intro G a w hw hfr
      exact wpAnyH_done (by simpa using this) ⟨.normal, e, O, G, Gh.Le.refl G, hw, hfr, trivial, h⟩ fuel
    | held brk =>
      have := (hp (by simp)).2
      rw [planOk] at this
      exact VAnyT.done (by simpa using this) h

theorem held_one {brk : List Nat} {i : Nat} {listed : Array Bool} {o : Oper} (ho : ops[i]? = some o) (h : ((!brk.contains i && ((ops[i]?).map fun o => opA o.op).getD false) || (brk.contains i && (List.range listed.size).all fun j => (listed.setIfInBounds i true).getD j true || brk.contains j)) = true) :
    (brk.contains i = false ∧ opA o.op = true) ∨ ∀ j, (listed.setIfInBounds i true).getD j true = false ∨ j = i → brk.contains j = true := by
  rw [ho] at h
  simp only [Option.map_some, Option.getD_some, Bool.or_eq_true, Bool.and_eq_true, Bool.not_eq_true'] at h
  rcases h with h | ⟨h1, h2⟩
  · exact .inl h
  · refine .inr fun j hj => ?_
    rcases hj with hj | rfl
    · rcases Nat.lt_or_ge j listed.size with hl | hl
      · have := List.all_eq_true.1 h2 j (List.mem_range.2 hl)
        rw [hj, Bool.false_or] at this
        exact this
      · rw [Array.getD_eq_getD_getElem?, Array.getElem?_eq_none (by simpa using hl)] at hj
        cases hj
    · exact h1

theorem VOne.skip {i : Nat} {o : Oper} {K : Env → VH → Prop} (ho : ops[i]? = some o) (hg : vguard ops o e = some false) (hd : dstB n o.dst = true) (hk : K (putM o.dst undefM e) O) : VOne P n D ops i e O Q K := by
  intro G a w hw hfr
  simp only [wpOp, ho, vguard_ok hfr hg, Bool.false_eq_true, if_false]
  exact ⟨_, _, G, Gh.Le.refl G, hw, hfr.putM hd undef_ok, hk⟩

theorem vread_same {f : Fl} {o : Oper} (hf : f ≠ .one) (hv : vopF tab f o e O = some (m, O')) : O' = O := by
  cases f with
  | one => exact absurd rfl hf
  | fk => cases hv
  | sil => exact (vopS_sil hv).2
  | rd =>
    simp only [vopF, vopR] at hv
    have key : ∀ {k}, opK o.op = k → k ≠ 0 → k ≠ 3 → vop tab o e O = some (m, O') → O' = O := fun {k} hk h0 h3 hv => by
      unfold vop at hv
      split at hv
      · simp only [Option.some.injEq, Prod.mk.injEq] at hv; exact hv.2.symm
      · unfold vloud at hv
        split at hv <;> first
          | (rename_i ho; rw [ho] at hk; simp only [opK] at hk; exact absurd hk.symm h3)
          | (cases hv; done)
          | (rename_i ho _ _ _; rw [ho] at hk; simp only [opK] at hk; exact absurd hk.symm h3)
          | (obtain ⟨p, h1, h2⟩ := Option.bind_eq_some_iff.1 hv
             obtain ⟨q, h3, h4⟩ := Option.map_eq_some_iff.1 h2
             simp only [Prod.mk.injEq] at h4
             exact h4.2.symm)
          | (split at hv
             · obtain ⟨r, h3, h4⟩ := Option.map_eq_some_iff.1 hv
               simp only [Prod.mk.injEq] at h4
               exact h4.2.symm
             · cases hv)
          | (rename_i c ho
             rw [ho] at hk
             simp only [opK] at hk
             split at hv
             · rename_i hc _ _
               simp only [hc] at hk
               exact absurd hk.symm h3
             · obtain ⟨p, h1, h2⟩ := Option.bind_eq_some_iff.1 hv
               obtain ⟨q, h3, h4⟩ := Option.map_eq_some_iff.1 h2
               simp only [Prod.mk.injEq] at h4
               exact h4.2.symm
             · cases hv)
    split at hv
    · exact key ‹_› (by decide) (by decide) hv
    · exact key ‹_› (by decide) (by decide) hv
    · exact (vopN_sil hv).2
    · exact key ‹_› (by decide) (by decide) hv
    · cases hv
theorem VL.step (ht : TabOk P tab) {md : Md} {f : Fl} {o : Oper} {L : List (Fl × Oper)} (hg : vguard ops o e = some true) (hv : vopF tab f o e O = some (m, O')) (hd : dstB n o.dst = true)
    (h : VL P n D md ops L (putM o.dst m e) O' Q) : VL P n D md ops ((f, o) :: L) e O Q := by
  intro fuel listed ix hf hp
  match ix, hf with
  | (i, g) :: ix, hf =>
    obtain ⟨rfl, ho, hf⟩ := hf
    cases md with
    | plain => exact VOps.step ht ho hg (vopF_vop hv) hd (h 0 #[] ix hf (fun h => absurd rfl h))
    | any =>
      obtain ⟨h1, h2⟩ := hp (by simp)
      cases fuel with
      | zero => cases h2
      | succ fuel =>
        simp only [planOk, Bool.and_eq_true] at h2
        have hk := h fuel (listed.setIfInBounds i true) ix hf (fun _ => ⟨h1, h2.2⟩)
        cases g with
        | one =>
          have hr : Region.ready .any ops listed = [i] := by simpa using h2.1
          exact VAny.all hr (by simp) fun j hj => by
            obtain rfl : j = i := by simpa using hj
            exact VOne.op ht ho hg (vopF_vop hv) hd hk
        | sil =>
          obtain ⟨hs, rfl⟩ := vopS_sil hv
          simp only [Bool.and_eq_true] at h2
          exact VAny.silent ht ho h1 h2.1.1 h2.1.2 hg hs hd hk
        | rd => exact absurd h2.1 (by simp)
        | fk => cases hv
    | reads =>
      obtain ⟨h1, h2⟩ := hp (by simp)
      cases fuel with
      | zero => cases h2
      | succ fuel =>
        simp only [planOk, Bool.and_eq_true] at h2
        have hk := h fuel (listed.setIfInBounds i true) ix hf (fun _ => ⟨h1, h2.2⟩)
        have hne : g ≠ .one := by rintro rfl; exact absurd h2.1 (by simp)
        intro G a w hw hfr
        obtain ⟨rfl, u, hu, hrun⟩ := vread_ok (P := P) ht hw hfr hne hv
        have h3 : Region.free .any ops listed i = true ∧ (Region.ready .any ops listed).contains i = true := by cases g <;> simp_all
        exact wpAnyH_take ho h1 h3.1 h3.2 panic_put (.inl ⟨vguard_ok hfr hg, fun w' hw' => by rw [hw']; exact hrun w hw.sx⟩) rfl (hk G _ w hw (hfr.putM hd hu))
    | held brk =>
      obtain ⟨h1, h2⟩ := hp (by simp)
      cases fuel with
      | zero => cases h2
      | succ fuel =>
        simp only [planOk, Bool.and_eq_true] at h2
        have hk := h fuel (listed.setIfInBounds i true) ix hf (fun _ => ⟨h1, h2.2⟩)
        cases g with
        | one =>
          simp only [Bool.and_eq_true] at h2
          have hr : Region.ready .any ops listed = [i] := by simpa using h2.1.1
          exact VAnyT.one ht ho hr (held_one ho h2.1.2) hg (vopF_vop hv) hd hk
        | fk => exact absurd h2.1 (by simp)
        | sil =>
          simp only [Bool.and_eq_true] at h2
          exact VAnyT.take ho h1 h2.1.1.1 h2.1.1.2 h2.1.2 hd (fun G a w hw hfr => by
            obtain ⟨_, u, hu, hrun⟩ := vread_ok (P := P) ht hw hfr (by simp) hv
            exact ⟨u, hu, .inl ⟨vguard_ok hfr hg, hrun⟩⟩) (by
            obtain rfl := vread_same (by simp) hv
            exact hk)
        | rd =>
          simp only [Bool.and_eq_true] at h2
          exact VAnyT.take ho h1 h2.1.1.1 h2.1.1.2 h2.1.2 hd (fun G a w hw hfr => by
            obtain ⟨_, u, hu, hrun⟩ := vread_ok (P := P) ht hw hfr (by simp) hv
            exact ⟨u, hu, .inl ⟨vguard_ok hfr hg, hrun⟩⟩) (by
            obtain rfl := vread_same (by simp) hv
            exact hk)
theorem VL.skip {md : Md} {f : Fl} {o : Oper} {L : List (Fl × Oper)} (hfk : f ≠ .fk) (hg : vguard ops o e = some false) (hd : dstB n o.dst = true)
    (h : VL P n D md ops L (putM o.dst undefM e) O Q) : VL P n D md ops ((f, o) :: L) e O Q := by
  intro fuel listed ix hf hp
  match ix, hf with
  | (i, g) :: ix, hf =>
    obtain ⟨rfl, ho, hf⟩ := hf
    cases md with
    | plain => exact VOps.skip ho hg hd (h 0 #[] ix hf (fun h => absurd rfl h))
    | any =>
      obtain ⟨h1, h2⟩ := hp (by simp)
      cases fuel with
      | zero => cases h2
      | succ fuel =>
        simp only [planOk, Bool.and_eq_true] at h2
        have hk := h fuel (listed.setIfInBounds i true) ix hf (fun _ => ⟨h1, h2.2⟩)
        cases g with
        | one =>
          have hr : Region.ready .any ops listed = [i] := by simpa using h2.1
          exact VAny.all hr (by simp) fun j hj => by
            obtain rfl : j = i := by simpa using hj
            exact VOne.skip ho hg hd hk
        | sil =>
          simp only [Bool.and_eq_true] at h2
          exact VAny.skipped ho h1 h2.1.1 h2.1.2 hg hd hk
        | rd => exact absurd h2.1 (by simp)
        | fk => exact absurd rfl hfk
    | reads =>
      obtain ⟨h1, h2⟩ := hp (by simp)
      cases fuel with
      | zero => cases h2
      | succ fuel =>
        simp only [planOk, Bool.and_eq_true] at h2
        have hk := h fuel (listed.setIfInBounds i true) ix hf (fun _ => ⟨h1, h2.2⟩)
        have hne : g ≠ .one := by rintro rfl; exact absurd h2.1 (by simp)
        intro G a w hw hfr
        have h3 : Region.free .any ops listed i = true ∧ (Region.ready .any ops listed).contains i = true := by cases g <;> simp_all
        exact wpAnyH_take ho h1 h3.1 h3.2 panic_put (.inr ⟨vguard_ok hfr hg, rfl⟩) rfl (hk G _ w hw (hfr.putM hd undef_ok))
    | held brk =>
      obtain ⟨h1, h2⟩ := hp (by simp)
      cases fuel with
      | zero => cases h2
      | succ fuel =>
        simp only [planOk, Bool.and_eq_true] at h2
        have hk := h fuel (listed.setIfInBounds i true) ix hf (fun _ => ⟨h1, h2.2⟩)
        cases g with
        | one =>
          simp only [Bool.and_eq_true] at h2
          have hr : Region.ready .any ops listed = [i] := by simpa using h2.1.1
          exact VAnyT.skip1 ho hr (held_one ho h2.1.2) hg hd hk
        | fk => exact absurd h2.1 (by simp)
        | sil =>
          simp only [Bool.and_eq_true] at h2
          exact VAnyT.take ho h1 h2.1.1.1 h2.1.1.2 h2.1.2 hd (fun G a w hw hfr => ⟨undef, undef_ok, .inr ⟨vguard_ok hfr hg, rfl⟩⟩) hk
        | rd =>
          simp only [Bool.and_eq_true] at h2
          exact VAnyT.take ho h1 h2.1.1.1 h2.1.1.2 h2.1.2 hd (fun G a w hw hfr => ⟨undef, undef_ok, .inr ⟨vguard_ok hfr hg, rfl⟩⟩) hk

/-- Two operations of which either may come first. -/
theorem VL.fork (ht : TabOk P tab) {L : List (Fl × Oper)} {oi oj : Oper} {mi mj mi' mj' : MV} {O1 O2 O3 O4 : VH}
    (hgi : vguard ops oi e = some true) (hvi : vop tab oi e O = some (mi, O1)) (hdi : dstB n oi.dst = true) (hgj : vguard ops oj (putM oi.dst mi e) = some true) (hvj : vop tab oj (putM oi.dst mi e) O1 = some (mj, O2)) (hdj : dstB n oj.dst = true)
    (hgj' : vguard ops oj e = some true) (hvj' : vop tab oj e O = some (mj', O3)) (hgi' : vguard ops oi (putM oj.dst mj' e) = some true) (hvi' : vop tab oi (putM oj.dst mj' e) O3 = some (mi', O4))
    (h1 : VL P n D .any ops L (putM oj.dst mj (putM oi.dst mi e)) O2 Q) (h2 : VL P n D .any ops L (putM oi.dst mi' (putM oj.dst mj' e)) O4 Q) : VL P n D .any ops ((.fk, oi) :: (.one, oj) :: L) e O Q := by
  intro fuel listed ix hf hp
  match ix, hf with
  | (i, g) :: (j, g') :: ix, hf =>
    obtain ⟨rfl, hoi, rfl, hoj, hf⟩ := hf
    obtain ⟨q1, q2⟩ := hp (by simp)
    match fuel, q2 with
    | fuel + 1, q2 =>
      simp only [planOk, Bool.and_eq_true, Bool.or_eq_true, beq_iff_eq] at q2
      obtain ⟨⟨⟨r1, r2⟩, r3⟩, q3⟩ := q2
      match fuel, q3 with
      | fuel + 1, q3 =>
        simp only [planOk, Bool.and_eq_true, beq_iff_eq] at q3
        have k1 := h1 fuel ((listed.setIfInBounds i true).setIfInBounds j true) ix hf (fun _ => ⟨q1, q3.2⟩)
        have hne : i ≠ j := by
          rintro rfl
          have hm : i ∈ Region.ready .any ops (listed.setIfInBounds i true) := by rw [r2]; simp
          simp only [Region.ready, List.mem_filter, Bool.and_eq_true] at hm
          have hlt : i < ops.size := by simpa using hm.1
          have h0 := hm.2.1
          rcases Nat.lt_or_ge i listed.size with hl | hl
          · simp [hl] at h0
          · have : listed.setIfInBounds i true = listed := Array.setIfInBounds_eq_of_size_le hl
            rw [Array.getD_eq_getD_getElem?, Array.getElem?_eq_none (by simpa using hl)] at h0
            simp at h0
        have k2 := h2 fuel ((listed.setIfInBounds j true).setIfInBounds i true) ix hf (fun _ => ⟨q1, by
          rw [Array.setIfInBounds_comm _ _ (Ne.symm hne)]; exact q3.2⟩)
        have key : ∀ rs, Region.ready .any ops listed = rs → (∀ x ∈ rs, x = i ∨ x = j) → rs ≠ [] → VAny P n D ops (fuel + 1 + 1) listed e O Q := fun rs hr hmem hne2 =>
          VAny.all hr hne2 fun x hx => by
            rcases hmem x hx with rfl | rfl
            · exact VOne.op ht hoi hgi hvi hdi (VAny.all r2 (by simp) fun y hy => by
                obtain rfl : y = j := by simpa using hy
                exact VOne.op ht hoj hgj hvj hdj k1)
            · exact VOne.op ht hoj hgj' hvj' hdj (VAny.all r3 (by simp) fun y hy => by
                obtain rfl : y = i := by simpa using hy
                exact VOne.op ht hoi hgi' hvi' hdi k2)
        rcases r1 with r1 | r1
        · exact key _ r1 (by simp) (by simp)
        · exact key _ r1 (by intro x hx; simp only [List.mem_cons, List.not_mem_nil, or_false] at hx; exact hx.symm) (by simp)

theorem VL.call {md : Md} {L : List (Fl × Oper)} {d : Option Tmp} {f : Operand} {args : Array Operand} {tys : Array TypeId} {ty : TypeId} {ps : String} {af : Array Edge} {g : Option (Nat × Bool)} {id : FuncId} {fs ms cs as : List MV} {R : VRes → VH → Prop}
    (hg : vguard ops (.mk d (.call { callee := .value f, args := args, argTypes := tys }) ty ps af g) e = some true) (hf : ev e f = some (.func (.func id) fs cs)) (hm : evs e args.toList = some ms) (ha : fs ++ ms ++ cs = as) (hE : Enters P id) (hd : dstB n d = true) (hR : VF P id as O R)
    (h : ∀ r O', R r O' → match r with
      | .ret m => VL P n D md ops L (putM d m e) O' Q
      | .panic m => Q (.panic m) [] O') : VL P n D md ops ((.one, .mk d (.call { callee := .value f, args := args, argTypes := tys }) ty ps af g) :: L) e O Q := by
  intro fuel listed ix hfit hp
  subst ha
  match ix, hfit with
  | (i, g') :: ix, hfit =>
    obtain ⟨rfl, ho, hfit⟩ := hfit
    cases md with
    | plain =>
      refine VOps.call ho hg rfl rfl hf hm hE hd hR fun r O' hr => ?_
      have := h r O' hr
      cases r with
      | ret m => exact this 0 #[] ix hfit (fun h => absurd rfl h)
      | panic m => exact this
    | any =>
      obtain ⟨h1, h2⟩ := hp (by simp)
      cases fuel with
      | zero => cases h2
      | succ fuel =>
        simp only [planOk, Bool.and_eq_true] at h2
        have hr : Region.ready .any ops listed = [i] := by simpa using h2.1
        exact VAny.all hr (by simp) fun j hj => by
          obtain rfl : j = i := by simpa using hj
          refine VOne.call ho hg rfl rfl hf hm hE hd hR fun r O' hr => ?_
          have := h r O' hr
          cases r with
          | ret m => exact this fuel (listed.setIfInBounds j true) ix hfit (fun _ => ⟨h1, h2.2⟩)
          | panic m => exact this
    | reads =>
      obtain ⟨h1, h2⟩ := hp (by simp)
      cases fuel with
      | zero => cases h2
      | succ fuel =>
        simp only [planOk, Bool.and_eq_true] at h2
        exact absurd h2.1 (by simp)
    | held brk =>
      obtain ⟨h1, h2⟩ := hp (by simp)
      cases fuel with
      | zero => cases h2
      | succ fuel =>
        simp only [planOk, Bool.and_eq_true] at h2
        have hr : Region.ready .any ops listed = [i] := by simpa using h2.1.1
        have hb : ∀ j, (listed.setIfInBounds i true).getD j true = false ∨ j = i → brk.contains j = true := by
          rcases held_one ho h2.1.2 with ⟨_, h3⟩ | h3
          · cases h3
          · exact h3
        refine VAnyT.oneB hr hb (VOne.call ho hg rfl rfl hf hm hE hd hR fun r O' hr => ?_)
        have := h r O' hr
        cases r with
        | ret m => exact this fuel (listed.setIfInBounds i true) ix hfit (fun _ => ⟨h1, h2.2⟩)
        | panic m => exact this

def vrunC (tab : Tab) (n : Nat) (ops : Array Oper) : List (Fl × Oper) → Env → VH → Option (List (Fl × Oper) × Env × VH)
  | [], e, O => some ([], e, O)
  | (.fk, o) :: L, e, O => some ((.fk, o) :: L, e, O)
  | (f, o) :: L, e, O => match opK o.op == 0, vguard ops o e with
    | _, none => none
    | true, some true => some ((f, o) :: L, e, O)
    | false, some true => match vopF tab f o e O with
      | none => some ((f, o) :: L, e, O)
      | some (m, O') => match dstB n o.dst with
        | true => vrunC tab n ops L (putM o.dst m e) O'
        | false => none
    | _, some false => match dstB n o.dst with
      | true => vrunC tab n ops L (putM o.dst undefM e) O
      | false => none
theorem VL.run (ht : TabOk P tab) {md : Md} : ∀ {L L' : List (Fl × Oper)} {e : Env} {O : VH}, vrunC tab n ops L e O = some (L', e', O') → VL P n D md ops L' e' O' Q → VL P n D md ops L e O Q
  | [], L', e, O, h, hQ => by
    simp only [vrunC, Option.some.injEq, Prod.mk.injEq] at h
    obtain ⟨rfl, rfl, rfl⟩ := h
    exact hQ
  | (.fk, o) :: L, L', e, O, h, hQ => by
    simp only [vrunC, Option.some.injEq, Prod.mk.injEq] at h
    obtain ⟨rfl, rfl, rfl⟩ := h
    exact hQ
  | (.one, o) :: L, L', e, O, h, hQ => by
    simp only [vrunC] at h
    split at h
    · cases h
    · simp only [Option.some.injEq, Prod.mk.injEq] at h
      obtain ⟨rfl, rfl, rfl⟩ := h
      exact hQ
    · split at h
      · simp only [Option.some.injEq, Prod.mk.injEq] at h
        obtain ⟨rfl, rfl, rfl⟩ := h
        exact hQ
      · split at h
        · exact VL.step ht ‹_› ‹_› ‹_› (VL.run ht h hQ)
        · cases h
    · split at h
      · exact VL.skip (by simp) ‹_› ‹_› (VL.run ht h hQ)
      · cases h
  | (.sil, o) :: L, L', e, O, h, hQ => by
    simp only [vrunC] at h
    split at h
    · cases h
    · simp only [Option.some.injEq, Prod.mk.injEq] at h
      obtain ⟨rfl, rfl, rfl⟩ := h
      exact hQ
    · split at h
      · simp only [Option.some.injEq, Prod.mk.injEq] at h
        obtain ⟨rfl, rfl, rfl⟩ := h
        exact hQ
      · split at h
        · exact VL.step ht ‹_› ‹_› ‹_› (VL.run ht h hQ)
        · cases h
    · split at h
      · exact VL.skip (by simp) ‹_› ‹_› (VL.run ht h hQ)
      · cases h
  | (.rd, o) :: L, L', e, O, h, hQ => by
    simp only [vrunC] at h
    split at h
    · cases h
    · simp only [Option.some.injEq, Prod.mk.injEq] at h
      obtain ⟨rfl, rfl, rfl⟩ := h
      exact hQ
    · split at h
      · simp only [Option.some.injEq, Prod.mk.injEq] at h
        obtain ⟨rfl, rfl, rfl⟩ := h
        exact hQ
      · split at h
        · exact VL.step ht ‹_› ‹_› ‹_› (VL.run ht h hQ)
        · cases h
    · split at h
      · exact VL.skip (by simp) ‹_› ‹_› (VL.run ht h hQ)
      · cases h

/-! ### For rewriting -/
def wk3 (tab : Tab) (n : Nat) (ops : Array Oper) (L : List (Fl × Oper)) (e : Env) (O : VH) : Bool → Option (List (Fl × Oper) × Env × VH)
  | true => vrunC tab n ops L e O
  | false => none
def wk2 (tab : Tab) (n : Nat) (ops : Array Oper) (fo : Fl × Oper) (L : List (Fl × Oper)) (e : Env) (O : VH) : Option (MV × VH) → Option (List (Fl × Oper) × Env × VH)
  | some (m, O') => wk3 tab n ops L (putM fo.2.dst m e) O' (dstB n fo.2.dst)
  | none => some (fo :: L, e, O)
def wk1 (tab : Tab) (n : Nat) (ops : Array Oper) (f : Fl) (o : Oper) (L : List (Fl × Oper)) (e : Env) (O : VH) : Bool → Option Bool → Option (List (Fl × Oper) × Env × VH)
  | _, none => none
  | true, some true => some ((f, o) :: L, e, O)
  | false, some true => wk2 tab n ops (f, o) L e O (vopF tab f o e O)
  | _, some false => wk3 tab n ops L (putM o.dst undefM e) O (dstB n o.dst)
section
variable {f : Fl} {o : Oper} {L : List (Fl × Oper)} {d : Option Tmp} {p : Op} {ty : TypeId} {ps : String} {af : Array Edge} {g : Option (Nat × Bool)} {b : Bool}
theorem vrunC_nil : vrunC tab n ops [] e O = some ([], e, O) := rfl
theorem vrunC_cons (hfk : f ≠ .fk) : vrunC tab n ops ((f, .mk d p ty ps af g) :: L) e O = wk1 tab n ops f (.mk d p ty ps af g) L e O (opK p == 0) (vguard ops (.mk d p ty ps af g) e) := by
  have key : vrunC tab n ops ((f, .mk d p ty ps af g) :: L) e O = match opK p == 0, vguard ops (.mk d p ty ps af g) e with
    | _, none => none
    | true, some true => some ((f, .mk d p ty ps af g) :: L, e, O)
    | false, some true => match vopF tab f (.mk d p ty ps af g) e O with
      | none => some ((f, .mk d p ty ps af g) :: L, e, O)
      | some (m, O') => match dstB n d with
        | true => vrunC tab n ops L (putM d m e) O'
        | false => none
    | _, some false => match dstB n d with
      | true => vrunC tab n ops L (putM d undefM e) O
      | false => none := by
    cases f <;> first | exact absurd rfl hfk | rfl
  rw [key]
  generalize vguard ops (.mk d p ty ps af g) e = x
  generalize (opK p == 0) = y
  unfold wk1
  cases x with
  | none => rfl
  | some b =>
    cases b <;> cases y <;> simp only
    · unfold wk3; cases dstB n d <;> rfl
    · unfold wk3; cases dstB n d <;> rfl
    · unfold wk2
      cases vopF tab f (.mk d p ty ps af g) e O with
      | none => rfl
      | some r => unfold wk3; cases dstB n d <;> rfl
theorem vrunC_one : vrunC tab n ops ((.one, .mk d p ty ps af g) :: L) e O = wk1 tab n ops .one (.mk d p ty ps af g) L e O (opK p == 0) (vguard ops (.mk d p ty ps af g) e) := vrunC_cons (by simp)
theorem vrunC_sil : vrunC tab n ops ((.sil, .mk d p ty ps af g) :: L) e O = wk1 tab n ops .sil (.mk d p ty ps af g) L e O (opK p == 0) (vguard ops (.mk d p ty ps af g) e) := vrunC_cons (by simp)
theorem vrunC_rd : vrunC tab n ops ((.rd, .mk d p ty ps af g) :: L) e O = wk1 tab n ops .rd (.mk d p ty ps af g) L e O (opK p == 0) (vguard ops (.mk d p ty ps af g) e) := vrunC_cons (by simp)
theorem vrunC_fk : vrunC tab n ops ((.fk, o) :: L) e O = some ((.fk, o) :: L, e, O) := rfl
theorem wk1_stop : wk1 tab n ops f o L e O true (some true) = some ((f, o) :: L, e, O) := rfl
theorem wk1_go : wk1 tab n ops f (.mk d p ty ps af g) L e O false (some true) = wk2 tab n ops (f, .mk d p ty ps af g) L e O (vopF tab f (.mk d p ty ps af g) e O) := rfl
theorem wk1_skip : wk1 tab n ops f (.mk d p ty ps af g) L e O b (some false) = wk3 tab n ops L (putM d undefM e) O (dstB n d) := by cases b <;> rfl
theorem wk2_some : wk2 tab n ops (f, .mk d p ty ps af g) L e O (some (m, O')) = wk3 tab n ops L (putM d m e) O' (dstB n d) := rfl
theorem wk2_none {fo : Fl × Oper} : wk2 tab n ops fo L e O none = some (fo :: L, e, O) := rfl
theorem wk3_true : wk3 tab n ops L e O true = vrunC tab n ops L e O := rfl
theorem vopF_one : vopF tab .one o e O = vop tab o e O := rfl
theorem vopF_sil : vopF tab .sil (.mk d p ty ps af g) e O = vopS tab (opK p) (.mk d p ty ps af g) e O := rfl
theorem vopF_rd : vopF tab .rd (.mk d p ty ps af g) e O = vopR tab (opK p) (.mk d p ty ps af g) e O := rfl
theorem vopS_1 : vopS tab 1 o e O = vop tab o e O := rfl
theorem vopS_2 {t : TypeId} {x : Operand} : vopS tab 2 (.mk d (.load t x) ty ps af g) e O = ((ev e x).bind (vloadc tab t)).map (·, O) := rfl
theorem vopS_4 {t : TypeId} {x : Operand} : vopS tab 4 (.mk d (.call { callee := .builtin .len, args := #[x], argTypes := #[t] }) ty ps af g) e O = ((ev e x).bind (vlen tab t)).map (·, O) := rfl
theorem vopR_1 : vopR tab 1 o e O = vop tab o e O := rfl
theorem vopR_2 : vopR tab 2 o e O = vop tab o e O := rfl
theorem vopR_5 : vopR tab 5 o e O = vop tab o e O := rfl
theorem vopR_4 {t : TypeId} {x : Operand} : vopR tab 4 (.mk d (.call { callee := .builtin .len, args := #[x], argTypes := #[t] }) ty ps af g) e O = ((ev e x).bind (vlen tab t)).map (·, O) := rfl
theorem vloadc_c {t : TypeId} {cs : List MV} {off : Nat} : vloadc tab t (.cptr cs off) = vload tab ⟨0, fun _ => none⟩ t (.cptr cs off) := rfl
end
section
variable {x y z : Operand} {t t' : TypeId} {f : Nat} {q : BinOp} {r : UnOp} {as : Array Operand} {ts : Array TypeId} {l h k : Option Operand} {fn : Fn} {ps : Array (Nat × Operand)}
theorem opK_move : opK (.move x) = 1 := rfl
theorem opK_assign : opK (.assign x) = 1 := rfl
theorem opK_pick : opK (.pick x y z) = 1 := rfl
theorem opK_nilCheck : opK (.nilCheck x) = 1 := rfl
theorem opK_binOp : opK (.binOp q t x y t') = 1 := rfl
theorem opK_unOp : opK (.unOp r t x) = 1 := rfl
theorem opK_convert : opK (.convert t t' x) = 1 := rfl
theorem opK_fieldAddr : opK (.fieldAddr t x f) = 1 := rfl
theorem opK_field : opK (.field t x f) = 1 := rfl
theorem opK_indexAddr : opK (.indexAddr t x y) = 1 := rfl
theorem opK_index : opK (.index t x y) = 1 := rfl
theorem opK_extract : opK (.extract x f) = 1 := rfl
theorem opK_slice : opK (.slice t x l h k) = 1 := rfl
theorem opK_build : opK (.build t ps) = 1 := rfl
theorem opK_makeFunc {as' : Array Operand} : opK (.makeFunc fn as as') = 1 := rfl
theorem opK_makeInterface : opK (.makeInterface t x) = 1 := rfl
theorem opK_load : opK (.load t x) = 2 := rfl
theorem opK_value : opK (.call { callee := .value x, args := as, argTypes := ts }) = 0 := rfl
theorem opK_len : opK (.call { callee := .builtin .len, args := as, argTypes := ts }) = 4 := rfl
theorem opK_max : opK (.call { callee := .builtin .max, args := as, argTypes := ts }) = 1 := rfl
theorem opK_min : opK (.call { callee := .builtin .min, args := as, argTypes := ts }) = 1 := rfl
theorem opK_sdata : opK (.call { callee := .builtin .unsafeSliceData, args := as, argTypes := ts }) = 1 := rfl
theorem opK_append : opK (.call { callee := .builtin .append, args := as, argTypes := ts }) = 3 := rfl
theorem opK_store : opK (.store t x y) = 3 := rfl
theorem opK_box : opK (.box t x) = 3 := rfl
theorem opK_alloc : opK (.alloc t) = 3 := rfl
theorem opK_buildSlice : opK (.buildSlice t f ps) = 3 := rfl
theorem opK_makeMap {t : TypeId} {r : Option Operand} : opK (.makeMap t r) = 3 := rfl
theorem opK_lookup {t : TypeId} {x y : Operand} {b : Bool} : opK (.lookup t x y b) = 5 := rfl
theorem opK_mapUpdate {t : TypeId} {x y z : Operand} : opK (.mapUpdate t x y z) = 3 := rfl
theorem opK_insert {t : TypeId} {x y z : Operand} : opK (.insert t x y z) = 3 := rfl
theorem opK_makeSlice : opK (.makeSlice t x y) = 3 := rfl
end

/-! ### Regions -/
theorem fits_plain : ∀ (l : List Oper) (k : Nat), (∀ j, l[j]? = none ∨ l[j]? = ops[k + j]?) → Fits ops ((List.range' k l.length).map (·, Fl.one)) (l.map (Fl.one, ·))
  | [], _, _ => trivial
  | o :: l, k, h => by
    rw [List.length_cons, List.range'_succ]
    refine ⟨rfl, ?_, fits_plain l (k + 1) fun j => ?_⟩
    · rcases h 0 with h0 | h0
      · cases h0
      · simpa using h0.symm
    · rcases h (j + 1) with h0 | h0
      · exact .inl (by simpa using h0)
      · exact .inr (by rw [show k + 1 + j = k + (j + 1) from by omega]; simpa using h0)
theorem VC.plainL {id : Nat} {l : List Oper} (h : VL P n D .plain ⟨l⟩ (l.map (Fl.one, ·)) e O Q) : VC P n D (.region id ⟨l⟩ false) e O Q := by
  refine VC.region ?_
  have := h 0 #[] _ (fits_plain l 0 fun j => .inr (by simp)) (fun h => absurd rfl h)
  simp only [VRow, List.map_map] at this
  rw [show (⟨l⟩ : Array Oper).size = l.length from rfl, List.range_eq_range']
  rw [show ((fun x : Nat × Fl => x.1) ∘ fun x => (x, Fl.one)) = _root_.id from rfl, List.map_id] at this
  exact this
def pickL (l : List Oper) : List (Nat × Fl) → Option (List (Fl × Oper))
  | [] => some []
  | (i, f) :: ix => match l[i]?, pickL l ix with
    | some o, some L => some ((f, o) :: L)
    | _, _ => none
theorem fits_pick {l : List Oper} : ∀ {ix : List (Nat × Fl)} {L : List (Fl × Oper)}, pickL l ix = some L → Fits ⟨l⟩ ix L
  | [], L, h => by injection h with h; subst h; trivial
  | (i, f) :: ix, L, h => by
    simp only [pickL] at h
    split at h
    · rename_i o L' h1 h2
      injection h with h
      subst h
      exact ⟨rfl, by simpa using h1, fits_pick h2⟩
    · cases h
theorem VC.drawnL (md : Md) (ix : List (Nat × Fl)) {id : Nat} {l : List Oper} {L : List (Fl × Oper)} (hne : md ≠ .plain) (hm : P.follows .mixedOrders = true) (hs : Region.noSelect ⟨l⟩ = true) (hp : planOk md ⟨l⟩ l.length (Array.replicate l.length false) ix = true) (hL : pickL l ix = some L)
    (h : VL P n D md ⟨l⟩ L e O Q) : VC P n D (.region id ⟨l⟩ true) e O Q := by
  have := h l.length (Array.replicate l.length false) ix (fits_pick hL) (fun _ => ⟨hs, hp⟩)
  cases md with
  | plain => exact absurd rfl hne
  | any => exact VC.draw hm this
  | reads => exact fun G a w hw hf => wp_region_held hm (this G a _ (hw.drawn _) hf)
  | held brk => exact VC.drawT brk hm this
end
theorem beqT (b : Bool) : (b == true) = b := by cases b <;> rfl
theorem beqF (b : Bool) : (b == false) = !b := by cases b <;> rfl
theorem beqI_t {a b : Int} (h : a = b) : (a == b) = true := by simpa using h
theorem beqI_f {a b : Int} (h : ¬ a = b) : (a == b) = false := by simpa using h
theorem bneI_t {a b : Int} (h : ¬ a = b) : (a != b) = true := by simpa using h
theorem bneI_f {a b : Int} (h : a = b) : (a != b) = false := by simpa using h
/-- A call that returns. -/
def Ret (Φ : MV → VH → Prop) : VRes → VH → Prop
  | .ret m, O => Φ m O
  | .panic _, _ => False
section
variable {n : Nat} {D : List Deferred} {e : Env} {P : Program} {tab : Tab} {O : VH} {ops : Array Oper} {Q : VQ} {Φ : MV → VH → Prop}
theorem Ret_ret {m : MV} : Ret Φ (.ret m) O = Φ m O := rfl
theorem VL.callR {md : Md} {L : List (Fl × Oper)} {d : Option Tmp} {f : Operand} {args : Array Operand} {tys : Array TypeId} {ty : TypeId} {ps : String} {af : Array Edge} {g : Option (Nat × Bool)} {id : FuncId} {fs ms cs as : List MV}
    (hg : vguard ops (.mk d (.call { callee := .value f, args := args, argTypes := tys }) ty ps af g) e = some true) (hf : ev e f = some (.func (.func id) fs cs)) (hm : evs e args.toList = some ms) (ha : fs ++ ms ++ cs = as) (hE : Enters P id) (hd : dstB n d = true) (hR : VF P id as O (Ret Φ))
    (h : ∀ m O', Φ m O' → VL P n D md ops L (putM d m e) O' Q) : VL P n D md ops ((.one, .mk d (.call { callee := .value f, args := args, argTypes := tys }) ty ps af g) :: L) e O Q :=
  VL.call hg hf hm ha hE hd hR fun r O' hr => by
    cases r with
    | ret m => exact h m O' hr
    | panic m => exact hr.elim
theorem VF.retMono {f : FuncId} {args : List MV} {Φ' : MV → VH → Prop} (hv : VF P f args O (Ret Φ)) (h : ∀ m O', Φ m O' → Φ' m O') : VF P f args O (Ret Φ') :=
  hv.mono fun r O' hr => by
    cases r with
    | ret m => exact h m O' hr
    | panic m => exact hr
end
theorem pick_range (f : Fl) : ∀ (l pre : List Oper), pickL (pre ++ l) ((List.range' pre.length l.length).map (·, f)) = some (l.map (f, ·))
  | [], _ => rfl
  | o :: l, pre => by
    rw [List.length_cons, List.range'_succ, List.map_cons, List.map_cons, pickL]
    have := pick_range f l (pre ++ [o])
    rw [List.append_assoc, List.length_append] at this
    simp only [List.singleton_append, List.length_cons, List.length_nil, Nat.zero_add] at this
    rw [this]
    simp
theorem VC.readsL {n : Nat} {D : List Deferred} {e : Env} {P : Program} {O : VH} {Q : VQ} {id : Nat} {l : List Oper} (hm : P.follows .mixedOrders = true) (hs : Region.noSelect ⟨l⟩ = true) (hp : planOk .reads ⟨l⟩ l.length (Array.replicate l.length false) ((List.range' 0 l.length).map (·, Fl.rd)) = true)
    (h : VL P n D .reads ⟨l⟩ (l.map (Fl.rd, ·)) e O Q) : VC P n D (.region id ⟨l⟩ true) e O Q :=
  VC.drawnL .reads _ (by simp) hm hs hp (pick_range .rd l []) h
theorem vmax_i {k : IntKind} {a b : Int} : vmax2 (.v (.int k a)) (.v (.int k b)) = some (.v (.int k (max a b))) := by
  simp only [vmax2]
  have : (if b > a then b else a) = max a b := by split <;> omega
  rw [this]
theorem vmin_i {k : IntKind} {a b : Int} : vmin2 (.v (.int k a)) (.v (.int k b)) = some (.v (.int k (min a b))) := by
  simp only [vmin2]
  have : (if b < a then b else a) = min a b := by split <;> omega
  rw [this]
theorem vpick_t {e : Env} {tab : Tab} {O : VH} {d : Option Tmp} {ty : TypeId} {p : String} {af : Array Edge} {g : Option (Nat × Bool)} {c x y : Operand} : vop tab (.mk d (.pick c x y) ty p af g) e O = ((ev e c).bind fun b => match b with
    | .v (.bool true) => ev e x
    | .v (.bool false) => ev e y
    | _ => none).map (·, O) := by
  simp only [vop, vsil, vloud]
  cases ev e c with
  | none => rfl
  | some m =>
    cases m <;> try rfl
    rename_i v
    cases v <;> try rfl
    rename_i b
    cases b
    · simp only [Option.bind_some]; cases ev e y <;> rfl
    · simp only [Option.bind_some]; cases ev e x <;> rfl
theorem zp0 (l : List MV) : zipParts #[] l = [] := rfl
theorem vnil_p (b o : Nat) : vnil (.ptr b o) = some (.ptr b o) := rfl
theorem vnil_c (cs : List MV) (o : Nat) : vnil (.cptr cs o) = some (.cptr cs o) := rfl
theorem mcells_v (x : Value) : mcells (.v x) = [.v x] := rfl
theorem mcells_sl (k : Nat) (cs : List MV) (tk : Tok) : mcells (.sl k cs tk) = [.sl k cs tk] := rfl
theorem mcells_str (l : List UInt8) : mcells (.str l) = [.str l] := rfl
theorem mcells_ptr (b o : Nat) : mcells (.ptr b o) = [.ptr b o] := rfl
theorem mcells_agg (cs : List MV) : mcells (.agg cs) = cs := rfl
section
variable {tab : Tab} {O : VH} {t : TypeId} {u : TypeDesc} {d : Nat} {y cs : List MV} {k off : Nat}
theorem vstore_pv {x : Value} (h : tab t = some ⟨u, 1, d, y⟩) (hk : O.hp k = some (.cells cs)) (hl : off < cs.length) : vstore tab O t (.ptr k off) (.v x) = some (O.set k (.cells (cs.set off (.v x)))) := vstore_p h rfl rfl hk hl
theorem vstore_psl {j : Nat} {ds : List MV} {tk : Tok} (h : tab t = some ⟨u, 1, d, y⟩) (hk : O.hp k = some (.cells cs)) (hl : off < cs.length) : vstore tab O t (.ptr k off) (.sl j ds tk) = some (O.set k (.cells (cs.set off (.sl j ds tk)))) := vstore_p h rfl rfl hk hl
theorem vstore_pstr {l : List UInt8} (h : tab t = some ⟨u, 1, d, y⟩) (hk : O.hp k = some (.cells cs)) (hl : off < cs.length) : vstore tab O t (.ptr k off) (.str l) = some (O.set k (.cells (cs.set off (.str l)))) := vstore_p h rfl rfl hk hl
theorem vstore_pptr {b o : Nat} (h : tab t = some ⟨u, 1, d, y⟩) (hk : O.hp k = some (.cells cs)) (hl : off < cs.length) : vstore tab O t (.ptr k off) (.ptr b o) = some (O.set k (.cells (cs.set off (.ptr b o)))) := vstore_p h rfl rfl hk hl
end
section
variable {tab : Tab} {t el : TypeId} {u : TypeDesc} {a b d : Nat} {z : List MV} {y : MV} {k0 k1 : Nat} {c0 c1 : List MV} {t0 t1 : Tok}
theorem vbs1s (h : tab t = some ⟨.slice el, a, b, z⟩) (h2 : tab el = some ⟨u, 1, d, [y]⟩) : vbuildSlice tab t 1 [(0, .sl k0 c0 t0)] = some (.sl 1 [.sl k0 c0 t0] .full) := vbs1 h h2 rfl
theorem vbs2s (h : tab t = some ⟨.slice el, a, b, z⟩) (h2 : tab el = some ⟨u, 1, d, [y]⟩) : vbuildSlice tab t 2 [(0, .sl k0 c0 t0), (1, .sl k1 c1 t1)] = some (.sl 2 [.sl k0 c0 t0, .sl k1 c1 t1] .full) := vbs2 h h2 rfl rfl
end
/-- From here on nobody writes the row in slot t. -/
theorem VC.freeze {n : Nat} {D : List Deferred} {e : Env} {P : Program} {O : VH} {Q : VQ} {c : Code} (t : Nat) {k o i cp sz : Nat} {cs : List MV} (ht : look e t = some (.asl k o i cp)) (hk : O.hp k = some (.cells cs)) (hs : o + sz ≤ cs.length)
    (h : VC P n D c ((t, .sl i ((cs.drop o).take sz) (if cp = i then .full else .unk)) :: e) (O.kill k) Q) : VC P n D c e O Q := by
  intro G a w hw hf
  obtain ⟨u, hu1, hu2⟩ := hf.get t _ ht
  obtain ⟨H, h1, h2, h3⟩ := hw.freeze hk hu2 hs
  have hf2 : FR H n D ((t, .sl i ((cs.drop o).take sz) (if cp = i then .full else .unk)) :: e) a := by
    have hm := hf.mono h1
    refine ⟨hm.defers, hm.size, fun s x hx => ?_⟩
    rw [look_cons] at hx
    cases hb : s == t with
    | true =>
      rw [hb, cond_true] at hx
      injection hx with hx; subst hx
      have : s = t := by simpa using hb
      subst this
      exact ⟨u, hu1, h3⟩
    | false => rw [hb, cond_false] at hx; exact hm.get s x hx
  exact wp_mono (h H a w h2 hf2) fun _ _ _ => VPost.le h1
end Go.Proofs.YtjbpnhmjnkolbaaDoor
