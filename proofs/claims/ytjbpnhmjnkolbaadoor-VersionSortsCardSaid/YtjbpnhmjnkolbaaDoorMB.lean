/-
  Texts V5 V6 Vm V7, one behind the other.
-/
import Derived.Test.YtjbpnhmjnkolbaaDoorMA
import Derived.MapKept
import Derived.Scope
/-
  THE VALUE MACHINE, 5: slicing, make, append.
-/
set_option linter.unusedVariables false
set_option linter.unusedSimpArgs false
namespace Go.Proofs.YtjbpnhmjnkolbaaDoor
open Go.RowKit

section
variable {G H : Gh} {n : Sz} {D : List Deferred} {e : Env} {a : Act} {P : Program} {tab : Tab} {O O' : VH} {w : World} {m m' : MV} {u v : Value}

/-- A bound of a slice expression: none given, or a number. -/
def vbound (d : Nat) : Option MV → Option Nat
  | none => some d
  | some (.v (.int _ i)) => if 0 ≤ i then some i.toNat else none
  | _ => none
theorem vbound_some {d k : Nat} {x : MV} (h : vbound d (some x) = some k) (hx : VR G x u) : ∃ kk, u = .int kk (k : Int) := by
  unfold vbound at h
  split at h
  · rename_i hh; cases hh
  · rename_i kk i hh
    injection hh with hh; subst hh
    cases hx
    split at h
    · injection h with h
      exact ⟨kk, by rw [← h]; congr 1; omega⟩
    · cases h
  · cases h

/-- The relation of what is optional. -/
def VRo (G : Gh) : Option MV → Option Value → Prop
  | none, none => True
  | some m, some u => VR G m u
  | _, _ => False

theorem run_bounds (isS : Bool) (len cap lo hi : Nat) {l h : Option MV} {lv hv : Option Value} (hl : vbound 0 l = some lo) (hh : vbound len h = some hi) (rl : VRo G l lv) (rh : VRo G h hv) (h1 : lo ≤ hi) (h2 : hi ≤ cap) :
    ∀ w, (Instr.sliceBounds isS len cap lv hv none).run P w = .ok (lo, hi, cap) w := by
  intro w
  cases l <;> cases lv <;> simp only [VRo] at rl <;> cases h <;> cases hv <;> simp only [VRo] at rh
  · simp only [vbound, Option.some.injEq] at hl hh; subst hl; subst hh; simp [Instr.sliceBounds]
  · obtain ⟨k, rfl⟩ := vbound_some hh rh
    simp only [vbound, Option.some.injEq] at hl; subst hl
    have := run_sliceBound (P := P) w k (hi : Int) cap (if isS then .sliceAcap else .sliceAlen) (by omega) (by omega)
    simp [Instr.sliceBounds, this]
  · obtain ⟨k, rfl⟩ := vbound_some hl rl
    simp only [vbound, Option.some.injEq] at hh; subst hh
    have := run_sliceBound (P := P) w k (lo : Int) len .sliceB (by omega) (by omega)
    simp [Instr.sliceBounds, this]
  · obtain ⟨k, rfl⟩ := vbound_some hl rl
    obtain ⟨k', rfl⟩ := vbound_some hh rh
    have h3 := run_sliceBound (P := P) w k (lo : Int) hi .sliceB (by omega) (by omega)
    have h4 := run_sliceBound (P := P) w k' (hi : Int) cap (if isS then .sliceAcap else .sliceAlen) (by omega) (by omega)
    simp [Instr.sliceBounds, h3, h4]

def cutTok (t : Tok) (sz : Nat) (whole : Bool) : Tok := if whole then (match t with
  | .full => .full
  | .own t k => if k = sz then .own t k else .unk
  | _ => .unk) else .unk
def vslice (tab : Tab) (t : TypeId) (x : MV) (l h : Option MV) : Option MV :=
  match (tab t).map TyI.under, x with
  | some .string, .str s => match vbound 0 l, vbound s.length h with
    | some lo, some hi => if lo ≤ hi ∧ hi ≤ s.length then some (.str ((s.drop lo).take (hi - lo))) else none
    | _, _ => none
  | some (.slice el), .sl n cells tk => match tab el, vbound 0 l, vbound n h with
    | some te, some lo, some hi =>
      if lo = 0 ∧ hi = n then some (.sl n cells tk)
      else if lo ≤ hi ∧ hi ≤ n ∧ cells.length = n * te.size then some (.sl (hi - lo) ((cells.drop (lo * te.size)).take ((hi - lo) * te.size)) (cutTok tk te.size (hi == n))) else none
    | _, _, _ => none
  | some (.slice el), .asl k o n c => match tab el, vbound 0 l, vbound n h with
    | some te, some lo, some hi => if lo ≤ hi ∧ hi ≤ c then some (.asl k (if c = lo then o else o + lo * te.size) (hi - lo) (c - lo)) else none
    | _, _, _ => none
  | _, _ => none
theorem under_of (ht : TabOk P tab) {t : TypeId} {d : TypeDesc} (h : (tab t).map TyI.under = some d) : P.underlying t = some d := by
  obtain ⟨i, hi, hu⟩ := Option.map_eq_some_iff.1 h
  rw [← hu]; exact (ht t i hi).under
theorem vslice_ok (ht : TabOk P tab) {t : TypeId} {l hh : Option MV} {lv hv' : Option Value} (hv : vslice tab t m l hh = some m') (hx : VR G m u) (rl : VRo G l lv) (rh : VRo G hh hv') :
    GivesS P (Instr.sliceAt t u lv hv' none) G m' := by
  unfold vslice at hv
  split at hv
  · rename_i s hu
    have hun := under_of ht hu
    split at hv
    · rename_i lo hi h1 h2
      split at hv
      · rename_i hc
        injection hv with hv; subst hv
        cases hx
        refine GivesS.of (u := .string ⟨⟨(s.drop lo).take (hi - lo)⟩⟩) (fun w _ => ?_) .str
        have hb := run_bounds (P := P) false s.length s.length lo hi h1 h2 rl rh hc.1 hc.2
        have hs : (⟨⟨s⟩⟩ : ByteArray).size = s.length := rfl
        simp only [Instr.sliceAt, Instr.slice, Sem.run_bind, run_underlying hun, Result.andThen_ok, hs, hb, Option.isSome_none, Bool.false_eq_true, if_false, Sem.run_pure]
        have : (⟨⟨s⟩⟩ : ByteArray).extract lo hi = ⟨⟨(s.drop lo).take (hi - lo)⟩⟩ := ByteArray.ext (by simp [ByteArray.data_extract])
        rw [this]
      · cases hv
    · cases hv
  · rename_i el n' cells tk hu
    have hun := under_of ht hu
    split at hv
    · rename_i te lo hi he h1 h2
      have run : ∀ (A : Option Addr) (c : Nat), lo ≤ hi → hi ≤ c → ∀ w, (Instr.sliceAt t (.slice A n' c) lv hv' none).run P w = .ok (.slice (if c = lo then A else A.map (·.add (lo * te.size))) (hi - lo) (c - lo)) w := fun A c h3 h4 w => by
        have hb := run_bounds (P := P) true n' c lo hi h1 h2 rl rh h3 h4
        simp only [Instr.sliceAt, Instr.slice, Sem.run_bind, run_underlying hun, Result.andThen_ok, hb, run_sz (ht _ te he), Sem.run_pure]
      split at hv
      · rename_i hc
        injection hv with hv; subst hv
        obtain ⟨rfl, rfl⟩ := hc
        have fin : ∀ (A : Option Addr) (c : Nat), hi ≤ c → VR G (.sl hi cells tk) (.slice A hi c) → GivesS P (Instr.sliceAt t (.slice A hi c) lv hv' none) G (.sl hi cells tk) := fun A c hc hvr => by
          refine GivesS.of (fun w _ => run A c (Nat.zero_le _) hc w) ?_
          have : (if c = 0 then A else A.map (·.add (0 * te.size))) = A := by
            split
            · rfl
            · cases A <;> simp [Addr.add]
          rw [this]; simpa using hvr
        cases hx with
        | slnil => exact fin _ _ (Nat.le_refl _) .slnil
        | sl0 h3 => exact fin _ _ (Nat.zero_le _) (.sl0 h3)
        | sl0n => exact fin _ _ (Nat.le_refl _) .sl0n
        | sl h3 h4 h5 h6 h7 h8 => exact fin _ _ h6 (.sl h3 h4 h5 h6 h7 h8)
      · split at hv
        · rename_i hne hc
          injection hv with hv; subst hv
          cases hx with
          | slnil => exact absurd ⟨by omega, by omega⟩ hne
          | sl0 h3 => exact absurd ⟨by omega, by omega⟩ hne
          | sl0n => exact absurd ⟨by omega, by omega⟩ hne
          | sl h3 h4 h5 h6 h7 h8 =>
            rename_i us c b o
            refine GivesS.of (fun w _ => run _ c hc.1 (by omega) w) ?_
            have hus : ((us.drop (lo * te.size)).take ((hi - lo) * te.size)).length = ((cells.drop (lo * te.size)).take ((hi - lo) * te.size)).length := by simp [h3]
            have hvrs : ∀ (i : Nat) (c : MV) (u : Value), ((cells.drop (lo * te.size)).take ((hi - lo) * te.size))[i]? = some c → ((us.drop (lo * te.size)).take ((hi - lo) * te.size))[i]? = some u → VR G c u := fun i c u ha hb => by
              rw [List.getElem?_take] at ha hb
              split at ha
              · rw [if_pos ‹_›] at hb
                rw [List.getElem?_drop] at ha hb
                exact h5 _ c u ha hb
              · cases ha
            by_cases hcl : c = lo
            · subst hcl
              obtain rfl : hi = c := by omega
              rw [if_pos rfl]
              simp only [Nat.sub_self, Nat.zero_mul, List.take_zero]
              refine .sl (us := []) rfl (fun i u hu => by simp at hu) (fun i c u hu => by simp at hu) (Nat.le_refl _) (Nat.zero_le _) ?_
              unfold cutTok
              split
              · cases tk with
                | nil => exact h8.elim
                | full => rfl
                | own t k =>
                  simp only
                  split
                  · exact .inl rfl
                  · trivial
                | unk => trivial
              · trivial
            · rw [if_neg hcl]
              simp only [Option.map_some, Addr.add_lit]
              refine .sl hus (fun i u hu => ?_) hvrs (by omega) (by omega) ?_
              · rw [List.getElem?_take] at hu
                split at hu
                · rw [List.getElem?_drop] at hu
                  rw [Nat.add_assoc]; exact h4 _ u hu
                · cases hu
              · unfold cutTok
                split
                · rename_i hw
                  have hw : hi = n' := by simpa using hw
                  subst hw
                  have hmul : (hi - lo) * te.size = cells.length - lo * te.size := by rw [hc.2.2, Nat.sub_mul]
                  have hl2 : ((cells.drop (lo * te.size)).take ((hi - lo) * te.size)).length = (hi - lo) * te.size := by simp; omega
                  have hle : lo * te.size ≤ hi * te.size := Nat.mul_le_mul_right _ hc.1
                  cases tk with
                  | nil => exact h8.elim
                  | full => show c - lo = hi - lo; have : c = hi := h8; omega
                  | own t k =>
                    simp only
                    split
                    · rename_i hk
                      subst hk
                      rcases h8 with h8 | ⟨r, h9, h10, h11⟩
                      · exact .inl (by omega)
                      · refine .inr ⟨r, ?_, hl2, by omega⟩
                        rw [h9, hl2]; congr 2; congr 1
                        omega
                    · trivial
                  | unk => trivial
                · trivial
        · cases hv
    · cases hv
  · rename_i el k o n' c hu
    have hun := under_of ht hu
    split at hv
    · rename_i te lo hi he h1 h2
      split at hv
      · rename_i hc
        injection hv with hv; subst hv
        cases hx with
        | asl h3 h4 h5 =>
          rename_i b
          have hb := run_bounds (P := P) true n' c lo hi h1 h2 rl rh hc.1 (by omega)
          refine GivesS.of (u := .slice (if c = lo then some ⟨b, o, none⟩ else (some (⟨b, o, none⟩ : Addr)).map (·.add (lo * te.size))) (hi - lo) (c - lo)) (fun w _ => ?_) ?_
          · simp only [Instr.sliceAt, Instr.slice, Sem.run_bind, run_underlying hun, Result.andThen_ok, hb, run_sz (ht _ te he), Sem.run_pure]
          · split
            · exact .asl h3 (by omega) (by omega)
            · simp only [Option.map_some, Addr.add_lit]; exact .asl h3 (by omega) (by omega)
      · cases hv
    · cases hv
  · cases hv

def cut0 : Tok → Tok
  | .nil => .nil
  | _ => .unk
/-- A slice with its room cut. -/
def vslice3 (tab : Tab) (t : TypeId) (x : MV) (l : Option MV) (h mx : MV) : Option MV :=
  match (tab t).map TyI.under, h, mx with
  | some (.slice el), .v (.int _ hi), .v (.int _ m) => match tab el, vbound 0 l with
    | some te, some lo => if 0 ≤ hi ∧ 0 ≤ m ∧ lo ≤ hi.toNat ∧ hi.toNat ≤ m.toNat then (match x with
      | .asl k o _ c => if m.toNat ≤ c then some (.asl k (if m.toNat = lo then o else o + lo * te.size) (hi.toNat - lo) (m.toNat - lo)) else none
      | .sl n cells tk => if m.toNat ≤ n ∧ cells.length = n * te.size then (if n = 0 then some (.sl 0 [] (cut0 tk)) else if m.toNat = lo then some (.sl 0 [] .full) else some (.sl (hi.toNat - lo) ((cells.drop (lo * te.size)).take ((hi.toNat - lo) * te.size)) (if m.toNat = hi.toNat then .full else .unk))) else none
      | _ => none) else none
    | _, _ => none
  | _, _, _ => none
theorem vslice3_ok (ht : TabOk P tab) {t : TypeId} {l : Option MV} {hh mx : MV} {lv : Option Value} {hv' mv : Value} (hv : vslice3 tab t m l hh mx = some m') (hx : VR G m u) (rl : VRo G l lv) (rh : VR G hh hv') (rm : VR G mx mv) :
    GivesS P (Instr.sliceAt t u lv (some hv') (some mv)) G m' := by
  unfold vslice3 at hv
  split at hv
  · rename_i el k1 hi k2 mi hu
    have hun := under_of ht hu
    cases rh; cases rm
    split at hv
    · rename_i te lo he h1
      split at hv
      · rename_i hc
        obtain ⟨c1, c2, c3, c4⟩ := hc
        have hlo : lv = none ∧ lo = 0 ∨ ∃ kk, lv = some (.int kk (lo : Int)) := by
          cases l <;> cases lv <;> simp only [VRo] at rl
          · simp only [vbound, Option.some.injEq] at h1; exact .inl ⟨rfl, h1.symm⟩
          · obtain ⟨kk, rfl⟩ := vbound_some h1 rl; exact .inr ⟨kk, rfl⟩
        have run : ∀ (A : Option Addr) (n' c : Nat), mi.toNat ≤ c → ∀ w, (Instr.sliceAt t (.slice A n' c) lv (some (.int k1 hi)) (some (.int k2 mi))).run P w = .ok (.slice (if mi.toNat = lo then A else A.map (·.add (lo * te.size))) (hi.toNat - lo) (mi.toNat - lo)) w := fun A n' c h3 w => by
          have e1 := run_sliceBound (P := P) w k2 mi c .slice3Acap c2 (by omega)
          have e2 := run_sliceBound (P := P) w k1 hi mi.toNat .slice3B c1 (by omega)
          have hb : (Instr.sliceBounds true n' c lv (some (.int k1 hi)) (some (.int k2 mi))).run P w = .ok (lo, hi.toNat, mi.toNat) w := by
            rcases hlo with ⟨rfl, rfl⟩ | ⟨kk, rfl⟩
            · simp [Instr.sliceBounds, e1, e2]
            · have e3 := run_sliceBound (P := P) w kk (lo : Int) hi.toNat .slice3C (by omega) (by omega)
              simp [Instr.sliceBounds, e1, e2, e3]
          simp only [Instr.sliceAt, Instr.slice, Sem.run_bind, run_underlying hun, Result.andThen_ok, hb, run_sz (ht _ te he), Sem.run_pure]
        split at hv
        · rename_i k o n' c
          split at hv
          · rename_i hcc
            injection hv with hv; subst hv
            cases hx with
            | asl h3 h4 h5 =>
              rename_i b
              refine GivesS.of (fun w _ => run _ n' c hcc w) ?_
              split
              · exact .asl h3 (by omega) (by omega)
              · simp only [Option.map_some, Addr.add_lit]; exact .asl h3 (by omega) (by omega)
          · cases hv
        · rename_i n' cells tk
          split at hv
          · rename_i hcc
            split at hv
            · rename_i hn
              subst hn
              injection hv with hv; subst hv
              have e0 : mi.toNat = 0 := by omega
              have e1 : hi.toNat = 0 := by omega
              have e2 : lo = 0 := by omega
              have fin : ∀ A c, VR G (.sl 0 [] (cut0 tk)) (.slice A 0 0) → GivesS P (Instr.sliceAt t (.slice A 0 c) lv (some (.int k1 hi)) (some (.int k2 mi))) G (.sl 0 [] (cut0 tk)) := fun A c hr => by
                refine GivesS.of (u := .slice A 0 0) (fun w _ => ?_) hr
                rw [run A 0 c (by omega) w, e0, e1, e2]
                simp
              cases hx with
              | slnil => exact fin _ _ .slnil
              | sl0 h3 => exact fin _ _ (.sl0 (Nat.zero_le _))
              | sl0n => exact fin _ _ .sl0n
              | sl h3 h4 h5 h6 h7 h8 =>
                cases tk with
                | nil => exact h8.elim
                | _ => exact fin _ _ (.sl0 (Nat.zero_le _))
            · rename_i hn
              split at hv
              · rename_i hml
                injection hv with hv; subst hv
                cases hx with
                | slnil => exact absurd rfl hn
                | sl0 h3 => exact absurd rfl hn
                | sl0n => exact absurd rfl hn
                | sl h3 h4 h5 h6 h7 h8 =>
                  refine GivesS.of (fun w _ => run _ n' _ (by omega) w) ?_
                  rw [if_pos hml, show hi.toNat - lo = 0 by omega, show mi.toNat - lo = 0 by omega]
                  exact .sl (us := []) rfl (fun i u h => by simp at h) (fun i c u h => by simp at h) (Nat.le_refl _) (Nat.zero_le _) rfl
              · rename_i hml
                injection hv with hv; subst hv
                cases hx with
                | slnil => exact absurd rfl hn
                | sl0 h3 => exact absurd rfl hn
                | sl0n => exact absurd rfl hn
                | sl h3 h4 h5 h6 h7 h8 =>
                  rename_i us c b o
                  refine GivesS.of (fun w _ => run _ n' c (by omega) w) ?_
                  rw [if_neg hml]
                  simp only [Option.map_some, Addr.add_lit]
                  refine .sl (us := (us.drop (lo * te.size)).take ((hi.toNat - lo) * te.size)) (by simp [h3]) (fun i u hu => ?_) (fun i c u ha hb => ?_) (by omega) (by omega) ?_
                  · rw [List.getElem?_take] at hu
                    split at hu
                    · rw [List.getElem?_drop] at hu
                      rw [Nat.add_assoc]; exact h4 _ u hu
                    · cases hu
                  · rw [List.getElem?_take] at ha hb
                    split at ha
                    · rw [if_pos ‹_›] at hb
                      rw [List.getElem?_drop] at ha hb
                      exact h5 _ c u ha hb
                    · cases ha
                  · split
                    · rename_i e; show mi.toNat - lo = hi.toNat - lo; rw [e]
                    · trivial
          · cases hv
        · cases hv
      · cases hv
    · cases hv
  · cases hv

/-! ### make -/
def vmakeSlice (tab : Tab) (O : VH) (t : TypeId) (l c : MV) : Option (MV × VH) :=
  match (tab t).map TyI.under, l, c with
  | some (.slice el), .v (.int _ i), .v (.int _ j) => match tab el with
    | some te => if 0 ≤ i ∧ i ≤ j ∧ j ≤ 9223372036854775807 ∧ te.bytes * j ≤ 281474976710656 ∧ 0 < te.zero.length then some (.asl O.next 0 i.toNat j.toNat, O.push (.cells (vzeros te.zero (j.toNat * te.size)))) else none
    | none => none
  | _, _, _ => none
theorem wrap_i64_id {i : Int} (h0 : 0 ≤ i) (h1 : i ≤ 9223372036854775807) : IntKind.i64.wrap i = i := by
  rw [IntKind.wrap_i64]
  omega
theorem vmakeSlice_ok (ht : TabOk P tab) (h : WR G O w) {t : TypeId} {l c : MV} {lv cv : Value} (hv : vmakeSlice tab O t l c = some (m, O')) (hl : VR G l lv) (hc : VR G c cv) : Gives P (Instr.makeSlice t lv cv) w G O' m := by
  unfold vmakeSlice at hv
  split at hv
  · rename_i el k i k' j hu
    cases hl; cases hc
    have hun := under_of ht hu
    split at hv
    · rename_i te he
      split at hv
      · rename_i hb
        injection hv with hv
        simp only [Prod.mk.injEq] at hv
        obtain ⟨rfl, rfl⟩ := hv
        have hte := ht _ te he
        obtain ⟨ti, z, h1, h2, h3, h4, h5, h6⟩ := hte.info
        have hr := run_make (P := P) w t el ti z hun h1 h4 k k' i j hb.1 hb.2.1 (by rw [h3]; exact hb.2.2.2.1) hb.2.2.1
        rw [h2] at hr
        have hz := vzeros_ok (h6 G) hb.2.2.2.2 (j.toNat * te.size)
        obtain ⟨h7, h8⟩ := h.push el hz
        exact ⟨_, _, _, hr, h7, h8, .asl (upd_same _ _ _) (by omega) (by simp only [maxLen]; omega), KeepB.alloc h _⟩
      · cases hv
    · cases hv
  · cases hv

/-! ### append -/
def vappend (tab : Tab) (O : VH) (t : TypeId) (x y : MV) : Option (MV × VH) :=
  match (tab t).map TyI.under, y with
  | some (.slice el), .sl k ds _ => match tab el, x with
    | some te, .sl n cells tk =>
      if ds.length = k * te.size ∧ ds.all leafB = true ∧ 0 < te.size then
        if k = 0 then some (.sl n cells tk, O)
        else if cells.length = n * te.size ∧ (n + k) * te.bytes ≤ 140737488355328 ∧ n + k ≤ maxLen then
          match tk with
          | .nil => some (.sl (n + k) (cells ++ ds) (.own O.next te.size), O.push .tok)
          | .full => some (.sl (n + k) (cells ++ ds) (.own O.next te.size), O.push .tok)
          | .own s k' => if k' = te.size then match O.hp s with
            | some .tok => some (.sl (n + k) (cells ++ ds) (.own O.next te.size), (O.kill s).push .tok)
            | _ => none
            else none
          | .unk => none
        else none
      else none
    | _, _ => none
  | _, _ => none

/-- A new row, its first cells for good, room behind them. -/
theorem grown_ok (h : WR G O w) {cs : List MV} {us : List Value} {N k r : Nat} {R : Array Value} {el : TypeId} (hc : VRs G cs us) (hl : cs.length = N * k) (hR : R.size = r * k) (hm : N + r ≤ maxLen) :
    ∃ K, G.Le K ∧ WR K (O.push .tok) (w.alloc (.cells (us.toArray ++ R) el)) ∧ VR K (.sl N cs (.own O.next k)) (.slice (some ⟨w.heap.size, 0, none⟩) N (N + r)) := by
  have hg := h.grow (.cells (us.toArray ++ R) el)
  have hul : us.length = N * k := by rw [hc.1, hl]
  have hcell : ∀ o u, (if o < N * k then us[o]? else none) = some u → (w.alloc (.cells (us.toArray ++ R) el)).cell? ⟨w.heap.size, o, none⟩ = some u := fun o u ho => by
    rw [cell_new]
    split at ho
    · rw [Array.getElem?_append_left (by simp; omega)]; simpa using ho
    · cases ho
  obtain ⟨h1, h2⟩ := hg.commit (b := w.heap.size) (f := fun o => if o < N * k then us[o]? else none) (fun o u hc => by rw [h.com_size] at hc; cases hc) hcell (fun k _ => h.phi_ne_size k)
    fun t c x ht hx e => absurd e (h.tok_ne_size ht hx)
  have hb : (w.alloc (.cells (us.toArray ++ R) el)).heap[w.heap.size]? = some (.cells (us.toArray ++ R) el (0, 0)) := by rw [heap_alloc_eq, if_pos rfl]
  obtain ⟨h3, h4⟩ := h2.addTok (b := w.heap.size) (f := N * k) (k := k) (r := r) (C := us.toArray ++ R) (T := el) h.bsz hb (by simp [hul, hR])
    (fun o ho => by
      show (if w.heap.size = w.heap.size then (if o < N * k then us[o]? else none) else _) = none
      rw [if_pos rfl, if_neg (by omega)])
    h.phi_ne_size (fun t c x ht hx => h.tok_ne_size ht hx)
  refine ⟨_, h1.trans h3, h4, ?_⟩
  refine .sl (us := us) hc.1 (fun i u hu => ?_) (fun i c u a b => (hc.2 i c u a b).mono (h1.trans h3)) (by omega) hm ?_
  · show (if w.heap.size = w.heap.size then (if 0 + i < N * k then us[0 + i]? else none) else _) = some u
    have := (List.getElem?_eq_some_iff.1 hu).1
    rw [if_pos rfl, Nat.zero_add, if_pos (by omega)]; exact hu
  · refine .inr ⟨r, ?_, hl, rfl⟩
    show upd _ _ _ _ = _
    rw [upd_same, Nat.zero_add, hl]

/-- A block of no live one, of no live token, is written behind what is for good. -/
theorem WR.setRow (h : WR G O w) {b : Nat} {C C' : Array Value} {T : TypeId} (hB : G.B ≤ b) (hb : w.heap[b]? = some (.cells C T (0, 0))) (hphi : ∀ j, G.phi j ≠ some b) (htok : ∀ t c x, O.hp t = some .tok → G.tok t = some (c, x) → c ≠ b)
    (hcom : ∀ o u, G.com b o = some u → C'[o]? = some u) : WR G O (w.setRow b C') := by
  have hsame := setRow_heap w b C C' T (0, 0) hb
  have hother : ∀ j, j ≠ b → (w.setRow b C').heap[j]? = w.heap[j]? := fun j hj => setRow_other w b j C' hj
  have hsz : (w.setRow b C').heap.size = w.heap.size := by simp [World.setRow]
  refine ⟨⟨h.base.os, h.base.tape, h.base.output, by rw [hsz]; exact h.base.size, fun j hj => by rw [hother j (by have : j < G.B := hj; omega)]; exact h.base.block j hj⟩, fun b' o u hc => ?_, h.dom, fun k c hk => ?_, h.inj, fun k cs hk => ?_, fun k es ck hk => ?_, fun t ht => ?_, h.tinj, h.shpOf id (fun _ _ _ _ h => h) fun k b' s hk hs => shape_heap (fun x hx => by rw [hother _ (fun e => hphi k (e ▸ hk))]; exact hx) hs, h.objOf id (fun _ _ h => h) fun k x b' hk hb hx => by rw [hother b' (fun e => hphi k (e ▸ hb))]; exact hx⟩
  · by_cases e : b' = b
    · subst e; rw [cell_setRow_same w b' o C C' T (0, 0) hb]; exact hcom o u hc
    · rw [cell_setRow_other w b C' _ e]; exact h.com b' o u hc
  · obtain ⟨h1, h2, h3⟩ := h.plt k c hk
    exact ⟨h1, by rw [hsz]; exact h2, h3⟩
  · obtain ⟨c, D, T', h1, h2, h3⟩ := h.cells k cs hk
    exact ⟨c, D, T', h1, by rw [hother c (fun e => hphi k (e ▸ h1))]; exact h2, h3⟩
  · obtain ⟨c, E, h1, h2, h3⟩ := h.map k es ck hk
    exact ⟨c, E, h1, by rw [hother c (fun e => hphi k (e ▸ h1))]; exact h2, h3⟩
  · obtain ⟨c, f, k, r, D, T', h1, h2, h3, h4⟩ := h.tok t ht
    exact ⟨c, f, k, r, D, T', h1, h2, by rw [hother c (htok t c _ ht h1)]; exact h3, h4⟩

/-- What is appended, read. -/
theorem source_ok (h : WR G O w) {k sz : Nat} {ds : List MV} {tk : Tok} (hy : VR G (.sl k ds tk) v) (hl : ds.length = k * sz) (hk : k ≠ 0) :
    ∃ ad c us, v = .slice (some ad) k c ∧ VRs G ds us ∧ us.length = k * sz ∧ ∀ j u, us[j]? = some u → w.cell? (ad.add j) = some u := by
  cases hy with
  | slnil => exact absurd rfl hk
  | sl0 h1 => exact absurd rfl hk
  | sl0n => exact absurd rfl hk
  | sl h1 h2 h3 h4 h5 h6 => exact ⟨_, _, _, rfl, ⟨h1, h3⟩, by rw [h1, hl], fun j u hu => by rw [Addr.add_lit]; exact h.com _ _ _ (h2 j u hu)⟩
theorem size_zc (z : Array Value) (n : Nat) : (Builtin.zeroCells z n).size = n * z.size := by simp [Builtin.zeroCells]

theorem append_none (h : WR G O w) {t ty el : TypeId} {te : TyI} (ht : P.underlying t = some (.slice el)) (hte : TyOk P el te) {n : Nat} {cells ds : List MV} {tk tk' : Tok} (hx : VR G (.sl n cells tk) u) (hy : VR G (.sl 0 ds tk') v) :
    (Builtin.append_ #[t, t] ty #[u, v]).run P w = .ok u w := by
  obtain ⟨ti, hti, _⟩ := run_ti hte w
  have run : ∀ (A B : Option Addr) (k c c' : Nat), k ≤ c → (A = none → k = 0) → (Builtin.append_ #[t, t] ty #[.slice A k c, .slice B 0 c']).run P w = .ok (.slice A k c) w := fun A B k c c' hc hA => by
    have hf : (Builtin.firstCells te.size 0 (.slice B 0 c')).run P w = .ok #[] w := by
      cases B with
      | none => simp [Builtin.firstCells]
      | some b => simp [Builtin.firstCells, loadCells, loadCellsFrom]
    have hn : ¬ (c < k) := by omega
    cases A with
    | none => simp [Builtin.append_, run_underlying ht, run_sz hte, Builtin.lenOf, hf, hc]
    | some a => simp [Builtin.append_, run_underlying ht, run_sz hte, Builtin.lenOf, hf, hc, storeCells]
  have hu : ∃ A c, u = .slice A n c ∧ n ≤ c ∧ (A = none → n = 0) := by
    cases hx with
    | slnil => exact ⟨_, _, rfl, Nat.le_refl _, fun _ => rfl⟩
    | sl0 h1 => exact ⟨_, _, rfl, Nat.zero_le _, fun _ => rfl⟩
    | sl0n => exact ⟨_, _, rfl, Nat.le_refl _, fun _ => rfl⟩
    | sl h1 h2 h3 h4 h5 h6 => exact ⟨_, _, rfl, h4, fun h => by cases h⟩
  have hv : ∃ B c', v = .slice B 0 c' := by
    cases hy with
    | slnil => exact ⟨_, _, rfl⟩
    | sl0 h1 => exact ⟨_, _, rfl⟩
    | sl0n => exact ⟨_, _, rfl⟩
    | sl h1 h2 h3 h4 h5 h6 => exact ⟨_, _, rfl⟩
  obtain ⟨A, c, rfl, h1, h2⟩ := hu
  obtain ⟨B, c', rfl⟩ := hv
  exact run A B n c c' h1 h2

theorem append_grow (h : WR G O w) {t ty el : TypeId} {te : TyI} (ht : P.underlying t = some (.slice el)) (hte : TyOk P el te) {n k c : Nat} {cells ds : List MV} {tk' : Tok} {A : Option Addr} {us : List Value}
    (hA : A = none → n = 0 ∧ c = 0) (hus : VRs G cells us) (hul : us.length = n * te.size) (hcell : ∀ ad, A = some ad → ∀ j u, us[j]? = some u → w.cell? (ad.add j) = some u) (hy : VR G (.sl k ds tk') v) (hl : ds.length = k * te.size) (hk : k ≠ 0)
    (hc : c < n + k) (hb : (n + k) * te.bytes ≤ 140737488355328) (hm : n + k ≤ maxLen) :
    Gives P (Builtin.append_ #[t, t] ty #[.slice A n c, v]) w G (O.push .tok) (.sl (n + k) (cells ++ ds) (.own O.next te.size)) := by
  obtain ⟨ti, z, h1, h2, h3, h4, h5, h6⟩ := hte.info
  obtain ⟨ad, c', vs, rfl, hvs, hvl, hvc⟩ := source_ok h hy hl hk
  have hsmall : n + k ≤ 9223372036854775807 := by simp only [maxLen] at hm; omega
  have hge := grownCap_ge w (n + k) c el
  have hle := grownCap_le_maxLen w (n + k) c el hm
  have hcl : (cells ++ ds).length = (n + k) * te.size := by rw [List.length_append, ← hus.1, hul, hl, Nat.add_mul]
  obtain ⟨K, g1, g2, g3⟩ := grown_ok (r := grownCap w (n + k) c el - (n + k)) (R := Builtin.zeroCells z.cells (grownCap w (n + k) c el - (n + k))) (el := el) h.drew (hus.append hvs) hcl (by rw [size_zc, h5]) (by omega)
  rw [show n + k + (grownCap w (n + k) c el - (n + k)) = grownCap w (n + k) c el from by omega] at g3
  refine ⟨_, _, K, ?_, g1, g2, g3, KeepB.alloc h.drew _⟩
  cases A with
  | none =>
    obtain ⟨rfl, rfl⟩ := hA rfl
    have : us = [] := List.eq_nil_of_length_eq_zero (by simpa using hul)
    subst this
    have hr := run_append_nil (P := P) w t ty el ti z ht h1 h4 ad k c' vs (by rw [h2, hvl]) hvc (by omega) (by omega) (by rw [h3]; simp only [Nat.zero_add] at hb; omega)
    simpa using hr
  | some a =>
    have hr := run_append_grow (P := P) w t ty el ti z ht h1 h4 a n c us (by rw [h2, hul]) (hcell a rfl) ad k c' vs (by rw [h2, hvl]) hvc hc (by omega) (by rw [h3]; exact growslice_fits (by omega) hb)
    simpa using hr

theorem append_room (h : WR G O w) {t ty el : TypeId} {te : TyI} (ht : P.underlying t = some (.slice el)) (hte : TyOk P el te) {n k s b o r : Nat} {cells ds : List MV} {tk' : Tok} {us : List Value}
    (hs : O.hp s = some .tok) (hg : G.tok s = some (b, o + cells.length, te.size, r)) (hus : VRs G cells us) (hul : cells.length = n * te.size) (hcom : ∀ i u, us[i]? = some u → G.com b (o + i) = some u)
    (hy : VR G (.sl k ds tk') v) (hl : ds.length = k * te.size) (hlf : ds.all leafB = true) (hk : k ≠ 0) (hc : n + k ≤ n + r) (hm : n + r ≤ maxLen) :
    Gives P (Builtin.append_ #[t, t] ty #[.slice (some ⟨b, o, none⟩) n (n + r), v]) w G ((O.kill s).push .tok) (.sl (n + k) (cells ++ ds) (.own O.next te.size)) := by
  obtain ⟨ti, z, i1, i2, i3, i4, i5, i6⟩ := hte.info
  obtain ⟨ad, c', vs, rfl, hvs, hvl, hvc⟩ := source_ok h hy hl hk
  obtain ⟨b', f, k', r', C, T, t1, t2, t3, t4, t5, t6⟩ := h.tok s hs
  rw [hg] at t1
  simp only [Option.some.injEq, Prod.mk.injEq] at t1
  obtain ⟨rfl, rfl, rfl, rfl⟩ := t1
  have hkr : k * te.size ≤ r * te.size := Nat.mul_le_mul_right _ (by omega)
  have hone := leafs_one hvs hlf
  have hfirst := run_firstCells_some (P := P) w te.size k ad k c' vs hvl hvc
  have hst := run_storeCells_at P b (o + cells.length) T vs 0 C w t3 (by rw [Nat.add_zero, hvl]; omega) hone
  have hrun : (Builtin.append_ #[t, t] ty #[.slice (some ⟨b, o, none⟩) n (n + r), .slice (some ad) k c']).run P w =
      .ok (.slice (some ⟨b, o, none⟩) (n + k) (n + r)) (w.setRow b (C.toList.take (o + cells.length + 0) ++ vs ++ C.toList.drop (o + cells.length + 0 + vs.length)).toArray) := by
    have hn : k ≤ r := by omega
    rw [hul] at hst
    simp only [Builtin.append_, run_underlying ht, run_sz hte, Builtin.lenOf, hfirst, Sem.run_bind, Result.andThen_ok, Sem.run_pure, List.getElem?_toArray, Addr.add_lit, hst, hul] <;> simp [run_underlying ht, run_sz hte, Builtin.lenOf, hfirst, hst, hn, hul, Addr.add_lit]
  simp only [Nat.add_zero] at hrun
  generalize hC' : (C.toList.take (o + cells.length) ++ vs ++ C.toList.drop (o + cells.length + vs.length)).toArray = C' at hrun
  have hfs : o + cells.length ≤ C.size := by omega
  have htl : (C.toList.take (o + cells.length)).length = o + cells.length := by simp; omega
  have hC1 : ∀ i, i < o + cells.length → C'[i]? = C[i]? := fun i hi => by
    rw [← hC', List.getElem?_toArray, List.append_assoc, List.getElem?_append_left (by omega), List.getElem?_take, if_pos hi]; simp
  have hC2 : ∀ i u, vs[i]? = some u → C'[o + cells.length + i]? = some u := fun i u hu => by
    have hi := (List.getElem?_eq_some_iff.1 hu).1
    rw [← hC', List.getElem?_toArray, List.append_assoc, List.getElem?_append_right (by omega), htl, Nat.add_sub_cancel_left, List.getElem?_append_left hi]; exact hu
  have hC3 : C'.size = C.size := by rw [← hC']; simp; omega
  have hk1 := h.kill s
  have hnone : ∀ t c x, (O.kill s).hp t = some .tok → G.tok t = some (c, x) → c ≠ b := fun t c x htk htc e => by
    subst e
    have hts : t ≠ s := fun e => by subst e; rw [show (O.kill t).hp t = none from upd_same _ _ _] at htk; cases htk
    rw [show (O.kill s).hp t = O.hp t from upd_other _ _ hts] at htk
    exact hts (h.tinj t s c x _ htk hs htc hg)
  have hrow := hk1.setRow (C' := C') t2 t3 t6 hnone (fun i u hu => by
    have hi : i < o + cells.length := by
      rcases Nat.lt_or_ge i (o + cells.length) with h' | h'
      · exact h'
      · rw [t5 i h'] at hu; cases hu
    rw [hC1 i hi]
    have := h.com b i u hu
    simpa [World.cell?, t3] using this)
  have hb' := setRow_heap w b C C' T (0, 0) t3
  have hcell' : ∀ i u, C'[i]? = some u → (w.setRow b C').cell? ⟨b, i, none⟩ = some u := fun i u hu => by rw [cell_setRow_same w b i C C' T (0, 0) t3]; exact hu
  obtain ⟨g1, g2⟩ := hrow.commit (b := b) (f := fun i => if i < o + cells.length then G.com b i else if i < o + cells.length + vs.length then C'[i]? else none)
    (fun i u hu => by
      have hi : i < o + cells.length := by
        rcases Nat.lt_or_ge i (o + cells.length) with h' | h'
        · exact h'
        · rw [t5 i h'] at hu; cases hu
      rw [if_pos hi]; exact hu)
    (fun i u hu => by
      split at hu
      · exact hrow.com b i u hu
      · split at hu
        · exact hcell' i u hu
        · cases hu)
    (fun k _ => t6 k) (fun t c x htk htc e => absurd e (hnone t c _ htk htc))
  have hkn : (O.kill s).next = O.next := rfl
  obtain ⟨g3, g4⟩ := g2.addTok (b := b) (f := o + cells.length + vs.length) (k := te.size) (r := r - k) (C := C') (T := T) t2 hb'
    (by
      rw [hC3, hvl]
      have : (r - k) * te.size = r * te.size - k * te.size := Nat.sub_mul _ _ _
      omega)
    (fun i hi => by
      show (if b = b then (if i < o + cells.length then G.com b i else if i < o + cells.length + vs.length then C'[i]? else none) else _) = none
      rw [if_pos rfl, if_neg (by omega), if_neg (by omega)])
    t6 (fun t c x htk htc => hnone t c x htk htc)
  refine ⟨_, _, _, hrun, g1.trans g3, g4, ?_, fun k b' hk' => setRow_other w b b' C' (fun e => t6 k (e ▸ hk'))⟩
  have hboth := hus.append hvs
  refine .sl (us := us ++ vs) hboth.1 (fun i u hu => ?_) (fun i c u a b' => (hboth.2 i c u a b').mono (g1.trans g3)) (by omega) hm ?_
  · show (if b = b then (if o + i < o + cells.length then G.com b (o + i) else if o + i < o + cells.length + vs.length then C'[o + i]? else none) else _) = some u
    rw [if_pos rfl]
    rw [List.getElem?_append] at hu
    split at hu
    · rename_i hi
      rw [hus.1] at hi
      rw [if_pos (by omega)]
      exact hcom i u hu
    · rename_i hi
      have hi2 := (List.getElem?_eq_some_iff.1 hu).1
      rw [hus.1] at hi hi2 hu
      rw [if_neg (by omega), if_pos (by omega)]
      have := hC2 _ u hu
      rw [← this]; congr 1; omega
  · refine .inr ⟨r - k, ?_, ?_, by omega⟩
    · show upd _ _ _ _ = _
      rw [hkn, upd_same]
      simp only [List.length_append, hvs.1]
      congr 2; congr 1; omega
    · rw [List.length_append, hul, hl, Nat.add_mul]

theorem vappend_ok (ht : TabOk P tab) (h : WR G O w) {t ty : TypeId} {x y : MV} (hv : vappend tab O t x y = some (m, O')) (hx : VR G x u) (hy : VR G y v) : Gives P (Builtin.append_ #[t, t] ty #[u, v]) w G O' m := by
  unfold vappend at hv
  split at hv
  · rename_i el k ds tk' hu
    have hun := under_of ht hu
    split at hv
    · rename_i te n cells tk he
      have hte := ht _ te he
      split at hv
      · rename_i hc
        split at hv
        · rename_i hk
          simp only [Option.some.injEq, Prod.mk.injEq] at hv
          obtain ⟨rfl, rfl⟩ := hv
          subst hk
          exact Gives.of h (append_none h hun hte hx hy) hx
        · rename_i hk
          split at hv
          · rename_i hc2
            have grow : ∀ (A : Option Addr) (c : Nat) (us : List Value), (A = none → n = 0 ∧ c = 0) → VRs G cells us → (∀ ad, A = some ad → ∀ j u, us[j]? = some u → w.cell? (ad.add j) = some u) → c < n + k →
                Gives P (Builtin.append_ #[t, t] ty #[.slice A n c, v]) w G (O.push .tok) (.sl (n + k) (cells ++ ds) (.own O.next te.size)) := fun A c us a1 a2 a3 a4 =>
              append_grow h hun hte a1 a2 (by rw [a2.1, hc2.1]) a3 hy hc.1 hk a4 hc2.2.1 hc2.2.2
            split at hv
            · simp only [Option.some.injEq, Prod.mk.injEq] at hv
              obtain ⟨rfl, rfl⟩ := hv
              cases hx with
              | slnil => exact grow none 0 [] (fun _ => ⟨rfl, rfl⟩) VRs.nil (fun _ h => by cases h) (by omega)
              | sl h1 h2 h3 h4 h5 h6 => exact h6.elim
            · simp only [Option.some.injEq, Prod.mk.injEq] at hv
              obtain ⟨rfl, rfl⟩ := hv
              cases hx with
              | sl h1 h2 h3 h4 h5 h6 =>
                rename_i us c b o
                have h6 : c = n := h6
                exact grow _ c us (fun h => by cases h) ⟨h1, h3⟩ (fun ad e j u hj => by injection e with e; subst e; rw [Addr.add_lit]; exact h.com _ _ _ (h2 j u hj)) (by omega)
            · rename_i s k'
              split at hv
              · rename_i hkk
                subst hkk
                split at hv
                · rename_i hs
                  simp only [Option.some.injEq, Prod.mk.injEq] at hv
                  obtain ⟨rfl, rfl⟩ := hv
                  cases hx with
                  | sl h1 h2 h3 h4 h5 h6 =>
                    rename_i us c b o
                    have growK : c < n + k → Gives P (Builtin.append_ #[t, t] ty #[.slice (some ⟨b, o, none⟩) n c, v]) w G ((O.kill s).push .tok) (.sl (n + k) (cells ++ ds) (.own O.next te.size)) := fun hlt =>
                      append_grow (O := O.kill s) (h.kill s) hun hte (A := some ⟨b, o, none⟩) (us := us) (fun h => by cases h) ⟨h1, h3⟩ (by rw [h1, hc2.1]) (fun ad e j u hj => by injection e with e; subst e; rw [Addr.add_lit]; exact h.com _ _ _ (h2 j u hj)) hy hc.1 hk hlt hc2.2.1 hc2.2.2
                    rcases h6 with h6 | ⟨r, h7, h8, h9⟩
                    · exact growK (by omega)
                    · by_cases hr : n + k ≤ c
                      · subst h9
                        exact append_room h hun hte hs h7 ⟨h1, h3⟩ hc2.1 (fun i u hi => h2 i u hi) hy hc.1 hc.2.1 hk hr h5
                      · exact growK (by omega)
                · cases hv
              · cases hv
            · cases hv
          · cases hv
      · cases hv
    · cases hv
  · cases hv
end
end Go.Proofs.YtjbpnhmjnkolbaaDoor

/-
  THE VALUE MACHINE, 6: an operation as a whole. 'vsil': an operation that neither reads nor writes what may be written. 'vloud': one that does, or makes memory.
-/
set_option linter.unusedVariables false
set_option linter.unusedSimpArgs false
namespace Go.Proofs.YtjbpnhmjnkolbaaDoor
open Go.RowKit

section
variable {G H : Gh} {n : Sz} {D : List Deferred} {e : Env} {a : Act} {P : Program} {tab : Tab} {O O' : VH} {w : World} {m m' : MV} {u v : Value}

def vconv (tab : Tab) (src dst : TypeId) (x : MV) : Option MV :=
  match (tab src).map TyI.under, (tab dst).map TyI.under, x with
  | some _, some (.int k), .v (.int _ i) => some (.v (.int k (k.wrap i)))
  | some .string, some .string, .str l => some (.str l)
  | _, _, _ => none
theorem vconv_ok (ht : TabOk P tab) {src dst : TypeId} (hv : vconv tab src dst m = some m') (hx : VR G m u) : GivesS P (convert src dst u) G m' := by
  unfold vconv at hv
  split at hv
  · injection hv with hv; subst hv; cases hx
    exact GivesS.of (u := .int _ _) (fun w _ => by simp [convert, run_underlying (under_of ht ‹(tab src).map _ = _›), run_underlying (under_of ht ‹(tab dst).map _ = _›), Conv.intToInt]) (.v rfl)
  · injection hv with hv; subst hv; cases hx
    exact GivesS.of (u := .string _) (fun w _ => by simp [convert, run_underlying (under_of ht ‹(tab src).map _ = _›), run_underlying (under_of ht ‹(tab dst).map _ = _›)]) .str
  · cases hv

theorem _root_.Go.Proofs.YtjbpnhmjnkolbaaDoor.VR.v_inv {x u : Value} (h : VR G (.v x) u) : u = x := by cases h; rfl
def vnil (m : MV) : Option MV :=
  match m with
  | .ptr _ _ | .cptr _ _ => some m
  | .func (.func _) _ _ => some m
  | _ => none

def zipParts {α : Type} (parts : Array (Nat × Operand)) (ms : List α) : List (Nat × α) := (parts.toList.map (·.1)).zip ms

/-- unsafe.SliceData -/
def vsdata : MV → Option MV
  | .asl k o _ c => if c = 0 then none else some (.ptr k o)
  | .sl 0 [] .nil => some (.v (.pointer none))
  | _ => none
theorem vsdata_ok (hv : vsdata m = some m') (hx : VR G m u) {ts : Array TypeId} {ty : TypeId} : GivesS P (Builtin.unsafeSliceData_ ts ty #[u]) G m' := by
  unfold vsdata at hv
  split at hv
  · split at hv
    · cases hv
    · rename_i k o n c hc
      injection hv with hv; subst hv
      cases hx with
      | asl h1 h2 h3 => exact GivesS.of (u := .pointer (some _)) (fun w _ => by
        show Sem.run P (if c ≠ 0 then pure (Value.pointer (some _)) else _) w = _
        rw [if_pos hc]; rfl) (.ptr h1)
  · injection hv with hv; subst hv
    cases hx with
    | slnil => exact GivesS.of (u := .pointer none) (fun w _ => rfl) (.v rfl)
    | sl h1 h2 h3 h4 h5 h6 => exact h6.elim
  · cases hv
def vsil (tab : Tab) (o : Oper) (e : Env) : Option MV :=
  match o.op with
  | .move x | .assign x => ev e x
  | .pick c a b => match ev e c with
    | some (.v (.bool t)) => if t then ev e a else ev e b
    | _ => none
  | .nilCheck x => (ev e x).bind vnil
  | .binOp op t x y _ => match ev e x, ev e y with
    | some p, some q => vbin tab op t p q
    | _, _ => none
  | .unOp op _ x => (ev e x).bind (vunary op)
  | .convert s d x => (ev e x).bind (vconv tab s d)
  | .fieldAddr t x f => (ev e x).bind (vfieldAddr tab t f)
  | .field t x f => (ev e x).bind (vfield tab t · f)
  | .indexAddr t x i => match ev e x, ev e i with
    | some p, some q => vindexAddr tab t p q
    | _, _ => none
  | .index t x i => match ev e x, ev e i with
    | some p, some q => vindex tab t p q
    | _, _ => none
  | .extract x i => (ev e x).bind (vextract · i)
  | .slice t x lo hi mx => match ev e x, evo lo, evo hi, mx with
    | some p, some l, some h, none => vslice tab t p l h
    | some p, some l, some (some h), some y => (ev e y).bind (vslice3 tab t p l h)
    | _, _, _, _ => none
  | .build t parts => match evs e (parts.toList.map (·.2)) with
    | some ms => vbuild tab t (zipParts parts ms)
    | none => none
  | .load t x => match ev e x with
    | some (.cptr cs off) => vload tab ⟨0, fun _ => none⟩ t (.cptr cs off)
    | _ => none
  | .makeFunc fn fs cs => match evs e fs.toList, evs e cs.toList with
    | some p, some q => some (.func fn p q)
    | _, _ => none
  | .makeInterface t x => match (tab t).map TyI.under, ev e x with
    | some (.interface _), _ => none
    | some _, some p => some (.iface t p)
    | _, _ => none
  | .call c => match c.callee, c.args.toList, c.argTypes.toList with
    | .builtin .len, [x], [t] => (ev e x).bind (vlen tab t)
    | .builtin .max, [x, y], _ => match ev e x, ev e y with
      | some p, some q => vmax2 p q
      | _, _ => none
    | .builtin .min, [x, y], _ => match ev e x, ev e y with
      | some p, some q => vmin2 p q
      | _, _ => none
    | .builtin .unsafeSliceData, [x], _ => (ev e x).bind vsdata
    | _, _, _ => none
  | _ => none
where evo : Option Operand → Option (Option MV)
  | none => some none
  | some x => (ev e x).map some

theorem evo_ok (h : FR G n D e a) {x : Option Operand} {y : Option MV} (hx : vsil.evo e x = some y) : VRo G y (x.map a.eval) := by
  cases x with
  | none => injection hx with hx; subst hx; trivial
  | some x =>
    obtain ⟨m, h1, rfl⟩ := Option.map_eq_some_iff.1 hx
    exact h.ev h1
theorem evs_length {l : List Operand} {ms : List MV} (h : evs e l = some ms) : ms.length = l.length := by
  induction l generalizing ms with
  | nil => simp [evs] at h; subst h; rfl
  | cons x l ih =>
    simp only [evs, List.mapM_cons, Option.bind_eq_bind, Option.bind_eq_some_iff] at h
    obtain ⟨m, h1, ms', h2, h3⟩ := h
    injection h3 with h3; subst h3
    simp [ih h2]
theorem zip_fst {α : Type} (parts : Array (Nat × Operand)) (ms : List α) (h : ms.length = parts.toList.length) : (zipParts parts ms).map (·.1) = parts.toList.map (·.1) := by
  unfold zipParts
  rw [show (List.map (fun x : Nat × α => x.1) ((parts.toList.map (·.1)).zip ms)) = List.map Prod.fst ((parts.toList.map (·.1)).zip ms) from rfl, List.map_fst_zip]
  simp [h]
theorem zip_snd {α : Type} (parts : Array (Nat × Operand)) (ms : List α) (h : ms.length = parts.toList.length) : (zipParts parts ms).map (·.2) = ms := by
  unfold zipParts
  rw [show (List.map (fun x : Nat × α => x.2) ((parts.toList.map (·.1)).zip ms)) = List.map Prod.snd ((parts.toList.map (·.1)).zip ms) from rfl, List.map_snd_zip]
  simp [h]
theorem parts_fst (a : Act) (parts : Array (Nat × Operand)) : ((parts.map fun (i, x) => (i, a.eval x)).toList.map (·.1)) = parts.toList.map (·.1) := by simp
theorem parts_snd (a : Act) (parts : Array (Nat × Operand)) : ((parts.map fun (i, x) => (i, a.eval x)).toList.map (·.2)) = (parts.toList.map (·.2)).map a.eval := by simp

/-- An operation's run as a whole: a value, in whatever world. -/
def YieldsS (P : Program) (o : Oper) (a : Act) (G : Gh) (m : MV) : Prop := ∃ u, VR G m u ∧ ∀ w, SS G w → (execOp a.eval o).run P w = .ok (.value u) w
theorem YieldsS.of {o : Oper} {s : Sem Value} (hs : GivesS P s G m) (he : execOp a.eval o = (do pure (.value (← s)))) : YieldsS P o a G m := by
  obtain ⟨u, hu, hr⟩ := hs
  exact ⟨u, hu, fun w hw => by rw [he, Sem.run_bind, hr w hw]; rfl⟩

theorem vsil_ok (ht : TabOk P tab) (h : FR G n D e a) {o : Oper} (hv : vsil tab o e = some m) : YieldsS P o a G m := by
  unfold vsil at hv
  split at hv
  · rename_i x ho; exact ⟨_, h.ev hv, fun w _ => by simp [execOp, ho]⟩
  · rename_i x ho; exact ⟨_, h.ev hv, fun w _ => by simp [execOp, ho]⟩
  · rename_i c x y ho
    split at hv
    · rename_i t hc
      have hc' := h.ev hc
      have hcv : a.eval c = .bool t := hc'.v_inv
      split at hv
      · rename_i hb
        exact ⟨_, h.ev hv, fun w _ => by simp [execOp, ho, asBool, hcv, hb]⟩
      · rename_i hb
        exact ⟨_, h.ev hv, fun w _ => by simp [execOp, ho, asBool, hcv, hb]⟩
    · cases hv
  · rename_i x ho
    obtain ⟨p, h1, h2⟩ := Option.bind_eq_some_iff.1 hv
    have hp := h.ev h1
    generalize hu : a.eval x = u at hp
    unfold vnil at h2
    split at h2
    · injection h2 with h2; subst h2
      exact ⟨u, hp, fun w _ => by simp only [execOp, ho, hu]; cases hp; rfl⟩
    · injection h2 with h2; subst h2
      exact ⟨u, hp, fun w _ => by simp only [execOp, ho, hu]; cases hp; rfl⟩
    · injection h2 with h2; subst h2
      exact ⟨u, hp, fun w _ => by simp only [execOp, ho, hu]; cases hp; rfl⟩
    · cases h2
  · rename_i op t x y yt ho
    split at hv
    · rename_i p q h1 h2
      exact YieldsS.of (vbin_ok (xo := x) (yo := y) ht hv (h.ev h1) (h.ev h2)) (by simp [execOp, ho])
    · cases hv
  · rename_i op t x ho
    obtain ⟨p, h1, h2⟩ := Option.bind_eq_some_iff.1 hv
    exact YieldsS.of (vunary_ok h2 (h.ev h1)) (by simp [execOp, ho])
  · rename_i s d x ho
    obtain ⟨p, h1, h2⟩ := Option.bind_eq_some_iff.1 hv
    exact YieldsS.of (vconv_ok ht h2 (h.ev h1)) (by simp [execOp, ho])
  · rename_i t x f ho
    obtain ⟨p, h1, h2⟩ := Option.bind_eq_some_iff.1 hv
    exact YieldsS.of (vfieldAddr_ok ht h2 (h.ev h1)) (by simp [execOp, ho])
  · rename_i t x f ho
    obtain ⟨p, h1, h2⟩ := Option.bind_eq_some_iff.1 hv
    exact YieldsS.of (vfield_ok ht h2 (h.ev h1)) (by simp [execOp, ho])
  · rename_i t x i ho
    split at hv
    · rename_i p q h1 h2
      exact YieldsS.of (vindexAddr_ok ht hv (h.ev h1) (h.ev h2)) (by simp [execOp, ho])
    · cases hv
  · rename_i t x i ho
    split at hv
    · rename_i p q h1 h2
      exact YieldsS.of (vindex_ok ht hv (h.ev h1) (h.ev h2)) (by simp [execOp, ho])
    · cases hv
  · rename_i x i ho
    obtain ⟨p, h1, h2⟩ := Option.bind_eq_some_iff.1 hv
    exact YieldsS.of (vextract_ok h2 (h.ev h1)) (by simp [execOp, ho])
  · rename_i t x lo hi mx ho
    split at hv
    · rename_i p l hh h1 h2 h3
      exact YieldsS.of (vslice_ok ht hv (h.ev h1) (evo_ok h h2) (evo_ok h h3)) (by simp [execOp, ho])
    · rename_i p l hh y h1 h2 h3
      obtain ⟨q, h4, h5⟩ := Option.bind_eq_some_iff.1 hv
      have h6 := evo_ok h h3
      cases hi with
      | none => cases h3
      | some hi => exact YieldsS.of (vslice3_ok ht h5 (h.ev h1) (evo_ok h h2) h6 (h.ev h4)) (by simp [execOp, ho])
    · cases hv
  · rename_i t parts ho
    split at hv
    · rename_i ms h1
      have hl := evs_length h1
      have hl' : ms.length = parts.toList.length := by simpa using hl
      refine YieldsS.of (vbuild_ok ht hv (ps := parts.map fun (i, x) => (i, a.eval x)) ?_ ?_) (by simp [execOp, ho])
      · rw [zip_fst parts ms hl', parts_fst]
      · rw [zip_snd parts ms hl', parts_snd]; exact h.evs h1
    · cases hv
  · rename_i t x ho
    split at hv
    · rename_i cs off h1
      exact YieldsS.of (vloadc_ok ht hv (h.ev h1)) (by simp [execOp, ho])
    · cases hv
  · rename_i fn fs cs ho
    split at hv
    · rename_i p q h1 h2
      injection hv with hv; subst hv
      have e1 := h.evs h1
      have e2 := h.evs h2
      refine ⟨.func fn (fs.toList.map a.eval).toArray (cs.toList.map a.eval).toArray, .func e1.1 e1.2 e2.1 e2.2, fun w _ => ?_⟩
      have f1 : fs.map a.eval = (fs.toList.map a.eval).toArray := by apply Array.ext'; simp
      have f2 : cs.map a.eval = (cs.toList.map a.eval).toArray := by apply Array.ext'; simp
      simp only [execOp, ho, Instr.makeFunc, f1, f2]; rfl
    · cases hv
  · rename_i t x ho
    split at hv
    · cases hv
    · rename_i d p hne hd h1
      injection hv with hv; subst hv
      have hun := under_of ht hd
      refine YieldsS.of (s := Instr.makeInterface t (a.eval x)) (GivesS.of (u := .iface t (a.eval x)) (fun w _ => ?_) (.iface (h.ev h1))) (by simp [execOp, ho])
      simp only [Instr.makeInterface, Sem.run_bind, run_underlying hun, Result.andThen_ok]
      cases d <;> first
        | rfl
        | (rename_i ms; exact absurd hd (hne ms))
    · cases hv
  · rename_i c ho
    split at hv
    · rename_i x t hc hargs htys
      obtain ⟨p, h1, h2⟩ := Option.bind_eq_some_iff.1 hv
      have ha : c.args = #[x] := by apply Array.ext'; exact hargs
      have hty : c.argTypes = #[t] := by apply Array.ext'; exact htys
      exact YieldsS.of (vlen_ok (ty := o.type) ht h2 (h.ev h1)) (by simp [execOp, ho, resolve, hc, ha, hty, invoke, builtin])
    · rename_i x y hc hargs
      split at hv
      · rename_i p q h1 h2
        have ha : c.args = #[x, y] := by apply Array.ext'; exact hargs
        exact YieldsS.of (vmax2_ok (ts := c.argTypes) (ty := o.type) hv (h.ev h1) (h.ev h2)) (by simp [execOp, ho, resolve, hc, ha, invoke, builtin])
      · cases hv
    · rename_i x y hc hargs
      split at hv
      · rename_i p q h1 h2
        have ha : c.args = #[x, y] := by apply Array.ext'; exact hargs
        exact YieldsS.of (vmin2_ok (ts := c.argTypes) (ty := o.type) hv (h.ev h1) (h.ev h2)) (by simp [execOp, ho, resolve, hc, ha, invoke, builtin])
      · cases hv
    · rename_i x hc hargs
      obtain ⟨p, h1, h2⟩ := Option.bind_eq_some_iff.1 hv
      have ha : c.args = #[x] := by apply Array.ext'; exact hargs
      exact YieldsS.of (vsdata_ok (ts := c.argTypes) (ty := o.type) h2 (h.ev h1)) (by simp [execOp, ho, resolve, hc, ha, invoke, builtin])
    · cases hv
  · cases hv
end
end Go.Proofs.YtjbpnhmjnkolbaaDoor

/-
  THE VALUE MACHINE, 6b: maps whose keys are numbers or texts.
-/
set_option linter.unusedVariables false
set_option linter.unusedSimpArgs false
namespace Go.Proofs.YtjbpnhmjnkolbaaDoor
open Go.RowKit
open Go.MapKept (IsKey run_checkKey run_findKey run_setObj_map)

section
variable {G H : Gh} {n : Sz} {D : List Deferred} {e : Env} {a : Act} {P : Program} {tab : Tab} {O O' : VH} {w : World} {m m' : MV} {u v : Value}

theorem heap_put_other {w : World} {b j : Nat} (o : Obj) (h : j ≠ b) : ({ w with heap := w.heap.setIfInBounds b o } : World).heap[j]? = w.heap[j]? :=
  Array.getElem?_setIfInBounds_ne (Ne.symm h)
theorem heap_put_same {w : World} {b : Nat} {x : Obj} (o : Obj) (h : w.heap[b]? = some x) : ({ w with heap := w.heap.setIfInBounds b o } : World).heap[b]? = some o :=
  Array.getElem?_setIfInBounds_self_of_lt (lt_of_heap h)
theorem cell_put_other {w : World} {b : Nat} (o : Obj) {a : Addr} (h : a.block ≠ b) : ({ w with heap := w.heap.setIfInBounds b o } : World).cell? a = w.cell? a := by
  unfold World.cell?
  rw [heap_put_other o h]

abbrev MEs := List (MV × MV × Nat)
/-- How a map's entries stand. -/
structure MER (G : Gh) (es : MEs) (E : List MapEntry) : Prop where
  born : E.map (·.born) = es.map (·.2.2)
  key : VRs G (es.map (·.1)) (E.map (·.key))
  val : VRs G (es.map (·.2.1)) (E.map (·.val))
theorem MER.nil : MER G [] [] := ⟨rfl, VRs.nil, VRs.nil⟩
theorem MER.cons {x : MV × MV × Nat} {y : MapEntry} {es : MEs} {E : List MapEntry} (h1 : y.born = x.2.2) (h2 : VR G x.1 y.key) (h3 : VR G x.2.1 y.val) (h : MER G es E) : MER G (x :: es) (y :: E) :=
  ⟨by rw [List.map_cons, List.map_cons, h1, h.born], VRs.cons h2 h.key, VRs.cons h3 h.val⟩
theorem MER.inv_cons {x : MV × MV × Nat} {es : MEs} {E : List MapEntry} (h : MER G (x :: es) E) : ∃ y E', E = y :: E' ∧ y.born = x.2.2 ∧ VR G x.1 y.key ∧ VR G x.2.1 y.val ∧ MER G es E' := by
  cases E with
  | nil => have := h.born; simp at this
  | cons y E =>
    have h1 := h.born
    simp only [List.map_cons, List.cons.injEq] at h1
    exact ⟨y, E, rfl, h1.1, h.key.head, h.val.head, ⟨h1.2, h.key.tail, h.val.tail⟩⟩
theorem MER.inv_nil {E : List MapEntry} (h : MER G [] E) : E = [] := by
  cases E with
  | nil => rfl
  | cons y E => have := h.born; simp at this
theorem MER.append {es fs : MEs} {E F : List MapEntry} (h : MER G es E) (k : MER G fs F) : MER G (es ++ fs) (E ++ F) :=
  ⟨by simp [h.born, k.born], by simpa using VRs.append h.key k.key, by simpa using VRs.append h.val k.val⟩
theorem MER.mono (hl : G.Le H) {es : MEs} {E : List MapEntry} (h : MER G es E) : MER H es E := ⟨h.born, h.key.mono hl, h.val.mono hl⟩

theorem WR.setMap (h : WR G O w) {k b ck ck' : Nat} {es es' : MEs} {E' : Array MapEntry} {x : Obj} (hk : O.hp k = some (.map es ck)) (hp : G.phi k = some b) (hb : w.heap[b]? = some x) (hr : MER G es' E'.toList) :
    WR G (O.set k (.map es' ck')) { w with heap := w.heap.setIfInBounds b (.map E' ck') } := by
  have hne : ∀ j b', j ≠ k → O.hp j ≠ none → G.phi j = some b' → b' ≠ b := fun j b' hj lj hb' e => hj (h.inj j k b lj (by rw [hk]; simp) (e ▸ hb') hp)
  have hlv : ∀ j, upd O.hp k (some (.map es' ck')) j ≠ none → O.hp j ≠ none := fun j hn => by
    by_cases e : j = k
    · subst e; rw [hk]; simp
    · rwa [upd_other _ _ e] at hn
  have hsame := heap_put_same (.map E' ck') hb
  have hother : ∀ j, j ≠ b → ({ w with heap := w.heap.setIfInBounds b (.map E' ck') } : World).heap[j]? = w.heap[j]? := fun j hj => heap_put_other _ hj
  have hB := (h.plt k b hp).1
  have hnm : ∀ b' s, w.shape? b' = some s → b' ≠ b := fun b' s hs e => by
    subst e
    obtain ⟨b2, E, g1, g2, _⟩ := h.map k es ck hk
    rw [hp] at g1; injection g1 with g1; subst g1
    simp only [World.shape?, g2] at hs
    cases hs
  refine ⟨⟨h.base.os, h.base.tape, h.base.output, by simpa using h.base.size, fun j hj => ?_⟩, fun b' o u' hc' => ?_, fun j hj => ?_, fun j b' hj => ?_, fun j k' b' lj lk => h.inj j k' b' (hlv j lj) (hlv k' lk), fun j ds hj => ?_, fun j es2 ck2 hj => ?_, fun t ht => ?_, fun s t b' x y hs ht => ?_, h.shpOf id (upd_shape (by simp)) fun j b' s hj hs => shape_heap (fun x hx => by rw [hother _ (hnm b' s hs)]; exact hx) hs, h.objOf id (upd_obj (by simp)) fun j x b' hj hb hx => by rw [hother b' (fun e => by have := h.inj j k b (by rw [hj]; simp) (by rw [hk]; simp) (e ▸ hb) hp; subst this; rw [hk] at hj; cases hj)]; exact hx⟩
  · rw [hother j (by omega)]; exact h.base.block j hj
  · have hbb : b' ≠ b := fun e => by subst e; rw [(h.plt k b' hp).2.2 (by rw [hk]; simp) o] at hc'; cases hc'
    rw [cell_put_other _ (by exact hbb)]
    exact h.com b' o u' hc'
  · obtain ⟨d1, d2, d3⟩ := h.dom j hj
    refine ⟨d1, d2, ?_⟩
    show upd _ _ _ _ = _
    rw [upd_other _ _ (fun e => by subst e; rw [d3] at hk; cases hk)]; exact d3
  · obtain ⟨p1, p2, p3⟩ := h.plt j b' hj
    refine ⟨p1, by simpa using p2, fun hne => p3 ?_⟩
    have hne : upd O.hp k (some (.map es' ck')) j ≠ none := hne
    by_cases e : j = k
    · subst e; rw [hk]; simp
    · rwa [upd_other _ _ e] at hne
  · have hj : upd O.hp k (some (.map es' ck')) j = some (.cells ds) := hj
    by_cases e : j = k
    · subst e; rw [upd_same] at hj; cases hj
    · rw [upd_other _ _ e] at hj
      obtain ⟨b', C, T, d1, d2, d3⟩ := h.cells j ds hj
      exact ⟨b', C, T, d1, by rw [hother _ (hne j b' e (by rw [hj]; simp) d1)]; exact d2, d3⟩
  · have hj : upd O.hp k (some (.map es' ck')) j = some (.map es2 ck2) := hj
    by_cases e : j = k
    · subst e
      rw [upd_same] at hj
      injection hj with hj; injection hj with hj hj2; subst hj; subst hj2
      exact ⟨b, E', hp, hsame, hr.born, hr.key, hr.val⟩
    · rw [upd_other _ _ e] at hj
      obtain ⟨b', D, d1, d2, d3⟩ := h.map j es2 ck2 hj
      exact ⟨b', D, d1, by rw [hother _ (hne j b' e (by rw [hj]; simp) d1)]; exact d2, d3⟩
  · have ht : upd O.hp k (some (.map es' ck')) t = some .tok := ht
    have e : t ≠ k := fun e => by subst e; rw [upd_same] at ht; cases ht
    rw [upd_other _ _ e] at ht
    obtain ⟨b', f, k', r, D, T', d1, d2, d3, d4, d6, d7⟩ := h.tok t ht
    exact ⟨b', f, k', r, D, T', d1, d2, by rw [hother _ (fun e => d7 k (by rw [e]; exact hp))]; exact d3, d4, d6, d7⟩
  · have hs : upd O.hp k (some (.map es' ck')) s = some .tok := hs
    have ht : upd O.hp k (some (.map es' ck')) t = some .tok := ht
    have e : t ≠ k := fun e => by subst e; rw [upd_same] at ht; cases ht
    have e' : s ≠ k := fun e => by subst e; rw [upd_same] at hs; cases hs
    rw [upd_other _ _ e] at ht
    rw [upd_other _ _ e'] at hs
    exact h.tinj s t b' x y hs ht

/-- A new block that may be written: a map. -/
theorem WR.pushMap (h : WR G O w) : G.Le { G with phi := upd G.phi O.next (some w.heap.size) } ∧ WR { G with phi := upd G.phi O.next (some w.heap.size) } (O.push (.map [] 0)) (w.alloc (.map #[] 0)) := by
  have hle := Gh.Le.of_phi h.nextfree.1 w.heap.size
  have hg := h.grow (.map #[] 0)
  have hphi : ∀ k b, upd G.phi O.next (some w.heap.size) k = some b → (k = O.next ∧ b = w.heap.size) ∨ (k ≠ O.next ∧ G.phi k = some b) := fun k b hk => by
    by_cases e : k = O.next
    · subst e; rw [upd_same] at hk; injection hk with hk; exact .inl ⟨rfl, hk.symm⟩
    · rw [upd_other _ _ e] at hk; exact .inr ⟨e, hk⟩
  have hcomn : ∀ o, G.com w.heap.size o = none := h.com_size
  refine ⟨hle, hg.base, hg.com, fun k hk => ?_, fun k b hk => ?_, fun j k b lj lk hj hk => ?_, fun k ds hk => ?_, fun k es ck hk => ?_, fun t ht => ?_, fun s t b x y hs ht h1 h2 => ?_, h.shpOf hle.phi (upd_shape (by simp)) fun _ _ _ _ => shape_heap fun _ => heap_alloc_keep w _, h.objOf hle.phi (upd_obj (by simp)) fun _ _ _ _ _ => heap_alloc_keep w _⟩
  · have hk : O.next + 1 ≤ k := hk
    obtain ⟨h1, h2, h3⟩ := h.dom k (by omega)
    exact ⟨by show upd _ _ _ _ = _; rw [upd_other _ _ (by omega)]; exact h1, h2, by show upd _ _ _ _ = _; rw [upd_other _ _ (by omega)]; exact h3⟩
  · rcases hphi k b hk with ⟨_, rfl⟩ | ⟨hk1, hk⟩
    · exact ⟨h.bsz, by simp, fun _ => hcomn⟩
    · obtain ⟨p1, p2, p3⟩ := hg.plt k b hk
      exact ⟨p1, p2, fun hne => p3 (by have hne : upd O.hp O.next (some (.map [] 0)) k ≠ none := hne; rwa [upd_other _ _ hk1] at hne)⟩
  · rcases hphi j b hj with ⟨rfl, rfl⟩ | ⟨hj1, hj⟩ <;> rcases hphi k _ hk with ⟨rfl, hb⟩ | ⟨hk1, hk⟩
    · rfl
    · have := (h.plt _ _ hk).2.1; omega
    · subst hb; have := (h.plt _ _ hj).2.1; omega
    · exact h.inj j k b (by have lj : upd O.hp O.next (some (.map [] 0)) j ≠ none := lj; rwa [upd_other _ _ hj1] at lj) (by have lk : upd O.hp O.next (some (.map [] 0)) k ≠ none := lk; rwa [upd_other _ _ hk1] at lk) hj hk
  · have hk : upd O.hp O.next (some (.map [] 0)) k = some (.cells ds) := hk
    by_cases e : k = O.next
    · subst e; rw [upd_same] at hk; cases hk
    · rw [upd_other _ _ e] at hk
      obtain ⟨b, C, T, h1, h2, h3⟩ := hg.cells k ds hk
      exact ⟨b, C, T, hle.phi h1, h2, h3.mono hle⟩
  · have hk : upd O.hp O.next (some (.map [] 0)) k = some (.map es ck) := hk
    by_cases e : k = O.next
    · subst e
      rw [upd_same] at hk
      injection hk with hk; injection hk with hk hk2; subst hk; subst hk2
      exact ⟨w.heap.size, #[], upd_same _ _ _, by rw [heap_alloc_eq, if_pos rfl], rfl, VRs.nil, VRs.nil⟩
    · rw [upd_other _ _ e] at hk
      obtain ⟨b, E, h1, h2, h3, h4, h5⟩ := hg.map k es ck hk
      exact ⟨b, E, hle.phi h1, h2, h3, h4.mono hle, h5.mono hle⟩
  · have ht : upd O.hp O.next (some (.map [] 0)) t = some .tok := ht
    by_cases e : t = O.next
    · subst e; rw [upd_same] at ht; cases ht
    · rw [upd_other _ _ e] at ht
      obtain ⟨b, f, k, r, D, T', h1, h2, h3, h4, h6, h7⟩ := hg.tok t ht
      obtain ⟨_, _, _, _, _, _, h1', _, h3', _⟩ := h.tok t ht
      refine ⟨b, f, k, r, D, T', h1, h2, h3, h4, h6, fun j hj => ?_⟩
      rcases hphi j b hj with ⟨_, rfl⟩ | ⟨_, hj⟩
      · rw [h1] at h1'; injection h1' with e1; injection e1 with e1 _; subst e1
        have := lt_of_heap h3'; omega
      · exact h7 j hj
  · have hs : upd O.hp O.next (some (.map [] 0)) s = some .tok := hs
    have ht : upd O.hp O.next (some (.map [] 0)) t = some .tok := ht
    have es : s ≠ O.next := fun e => by subst e; rw [upd_same] at hs; cases hs
    have et : t ≠ O.next := fun e => by subst e; rw [upd_same] at ht; cases ht
    rw [upd_other _ _ es] at hs
    rw [upd_other _ _ et] at ht
    exact h.tinj s t b x y hs ht h1 h2

theorem bytes_beq (a b : List UInt8) : ((⟨⟨a⟩⟩ : ByteArray) == ⟨⟨b⟩⟩) = (a == b) := by
  show ((⟨a⟩ : Array UInt8) == ⟨b⟩) = (a == b)
  rw [Bool.eq_iff_iff, beq_iff_eq, beq_iff_eq, Array.mk.injEq]
/-- Are two keys the same? -/
def sameM (d : TypeDesc) (x y : MV) : Option Bool :=
  match d, x, y with
  | .int _, .v (.int k a), .v (.int k' b) => if k = k' then some (a == b) else none
  | .string, .str a, .str b => some (a == b)
  | _, _, _ => none
theorem sameM_ok {d : TypeDesc} {x y : MV} {u v : Value} {b : Bool} (h : sameM d x y = some b) (hx : VR G x u) (hy : VR G y v) : Instr.sameNow d u v = some b ∧ (b = true → Instr.sameBits 10000 v u = true) := by
  unfold sameM at h
  split at h
  · split at h
    · rename_i he
      subst he
      injection h with h
      cases hx; cases hy
      refine ⟨by simp [Instr.sameNow, h], fun hb => ?_⟩
      rw [hb] at h
      have := eq_of_beq h
      subst this
      simp [Instr.sameBits]
    · cases h
  · injection h with h
    cases hx
    cases hy
    refine ⟨by rw [← h]; exact congrArg some (bytes_beq _ _), fun hb => ?_⟩
    rw [hb] at h
    have := eq_of_beq h
    subst this
    show ((_ : ByteArray) == _) = true
    rw [bytes_beq]; exact h
  · cases h
/-- The first entry of a key: its place, its value. -/
def vfind (d : TypeDesc) (k : MV) : MEs → Nat → Option (Option (Nat × MV))
  | [], _ => some none
  | e :: es, i => match sameM d k e.1 with
    | some true => some (some (i, e.2.1))
    | some false => vfind d k es (i + 1)
    | none => none
theorem vfind_ok {d : TypeDesc} {k : MV} {kv : Value} (hk : VR G k kv) : ∀ {es : MEs} {E : List MapEntry} {i : Nat} {r : Option (Nat × MV)}, vfind d k es i = some r → MER G es E →
    match r with
    | none => Instr.findNow d kv E i = some none
    | some (j, m) => ∃ v, Instr.findNow d kv E i = some (some (j, v)) ∧ VR G m v ∧ i ≤ j ∧ (E[j - i]?).map (fun e => Instr.sameBits 10000 e.key kv) = some true ∧ j - i < E.length
  | [], E, i, r, h, hr => by
    rw [hr.inv_nil]
    injection h with h; subst h
    rfl
  | x :: es, E, i, r, h, hr => by
    obtain ⟨y, E', rfl, h1, h2, h3, h4⟩ := hr.inv_cons
    rw [vfind] at h
    split at h
    · rename_i hs
      injection h with h; subst h
      obtain ⟨g1, g3⟩ := sameM_ok hs hk h2
      exact ⟨y.val, by simp [Instr.findNow, g1], h3, Nat.le_refl _, by simp [g3], by simp⟩
    · rename_i hs
      obtain ⟨g1, _⟩ := sameM_ok hs hk h2
      have ih := vfind_ok hk h h4
      cases r with
      | none => simp only [Instr.findNow, g1]; exact ih
      | some p =>
        obtain ⟨j, m⟩ := p
        obtain ⟨v, i1, i2, i3, i4, i5⟩ := ih
        refine ⟨v, by simp only [Instr.findNow, g1]; exact i1, i2, by omega, ?_, by simp; omega⟩
        rw [show j - i = (j - (i + 1)) + 1 by omega, List.getElem?_cons_succ]; exact i4
    · cases h
/-- Is the key one that we know? -/
def keyB (d : TypeDesc) (k : MV) : Bool :=
  match d, k with
  | .int k, .v (.int k' _) => decide (k' = k)
  | .string, .str _ => true
  | _, _ => false
theorem keyB_ok {d : TypeDesc} {k : MV} {kv : Value} (h : keyB d k = true) (hk : VR G k kv) : IsKey d kv := by
  unfold keyB at h
  split at h
  · cases hk; simpa [IsKey] using h
  · cases hk; simp [IsKey]
  · cases h

def vzeroM (i : TyI) : Option MV := if isAggB i.under then some (.agg i.zero) else i.zero[0]?
theorem run_zeroM {t : TypeId} {i : TyI} (h : TyOk P t i) (hm : vzeroM i = some m) : ∃ z, (∀ w, (zeroValue t).run P w = .ok z w) ∧ ∀ G, VR G m z := by
  obtain ⟨ti, z, h1, _, _, h4, h5, h6⟩ := h.info
  refine ⟨z, fun w => by simp [zeroValue, typeInfo, h1, h4], fun G => ?_⟩
  obtain ⟨w1, w2⟩ := h.whole ti z h1 h4
  have h6 := h6 G
  unfold vzeroM at hm
  split at hm
  · rename_i ha
    injection hm with hm; subst hm
    obtain ⟨cs, rfl⟩ := w1 ha
    exact VR.agg h6.1 h6.2
  · rename_i ha
    have ha : isAggB i.under = false := by simpa using ha
    rw [w2 ha] at h6
    obtain ⟨u, hu, hv⟩ := h6.get hm
    have : i.zero.length = 1 := by have := h6.1; simpa using this.symm
    have h0 : (0 : Nat) < 1 := by omega
    simp only [Array.toList, List.getElem?_cons_zero, Option.some.injEq] at hu
    subst hu
    exact hv

/-- A map's entries. -/
def mapOf (O : VH) : MV → Option MEs
  | .v (.map none) => some []
  | .map b => match O.hp b with
    | some (.map es _) => some es
    | _ => none
  | _ => none
def vlookup (tab : Tab) (O : VH) (t : TypeId) (x k : MV) (ok : Bool) : Option MV :=
  match (tab t).map TyI.under with
  | some (.map kt et) => match (tab kt).map TyI.under, tab et with
    | some kd, some te =>
      match keyB kd k, (mapOf O x).bind (vfind kd k · 0) with
      | true, some (some (_, m)) => some (if ok then .tuple [m, .v (.bool true)] else m)
      | true, some none => (vzeroM te).map fun z => if ok then .tuple [z, .v (.bool false)] else z
      | _, _ => none
    | _, _ => none
  | _ => none
theorem under_of2 (ht : TabOk P tab) {t : TypeId} {d : TypeDesc} (h : (tab t).map TyI.under = some d) : P.underlying t = some d := by
  obtain ⟨i, hi, hu⟩ := Option.map_eq_some_iff.1 h
  rw [← hu]; exact (ht t i hi).under
theorem vlookup_held (ht : TabOk P tab) (h : WR G O w) {t : TypeId} {x k : MV} {ok : Bool} {u kv : Value} (hv : vlookup tab O t x k ok = some m) (hx : VR G x u) (hk : VR G k kv) : ∃ r, VR G m r ∧ ∀ y, Sx G w y → (Instr.lookup t u kv ok).run P y = .ok r y := by
  unfold vlookup at hv
  split at hv
  · rename_i kt et hmt
    have hU := under_of2 ht hmt
    split at hv
    · rename_i kd te hkd hte
      have hK := under_of2 ht hkd
      have hrun : ∀ (es : MEs), mapOf O x = some es → ∃ E : Array MapEntry, MER G es E.toList ∧ ((u = .map none ∧ E = #[]) ∨ ∃ r ck, u = .map (some r) ∧ ∀ y, Sx G w y → y.heap[r]? = some (.map E ck)) := by
        intro es hes
        unfold mapOf at hes
        split at hes
        · injection hes with hes; subst hes
          cases hx
          exact ⟨#[], MER.nil, .inl ⟨rfl, rfl⟩⟩
        · rename_i b
          split at hes
          · rename_i es' ck hb
            injection hes with hes; subst hes
            cases hx with
            | map h1 =>
              obtain ⟨b', E, e1, e2, e3, e4, e5⟩ := h.map _ _ _ hb
              rw [h1] at e1; injection e1 with e1; subst e1
              exact ⟨E, ⟨e3, e4, e5⟩, .inr ⟨_, _, rfl, fun y hy => (hy.2 _ _ h1).trans e2⟩⟩
          · cases hes
        · cases hes
      split at hv
      · rename_i j m2 hkb hf
        injection hv with hv
        obtain ⟨es, h1, h2⟩ := Option.bind_eq_some_iff.1 hf
        obtain ⟨E, hE, hK2⟩ := hrun es h1
        obtain ⟨v, f1, f2, _⟩ := vfind_ok hk h2 hE
        have hkey := keyB_ok hkb hk
        refine ⟨if ok then .tuple #[v, .bool true] else v, ?_, fun y hy => ?_⟩
        rotate_left
        · rcases hK2 with ⟨rfl, rfl⟩ | ⟨r, ck, rfl, hb⟩
          · simp only [Instr.lookup, Sem.run_bind, run_underlying hU, Result.andThen_ok, run_checkKey hK hkey, run_findKey hK f1, Sem.run_pure]
          · simp only [Instr.lookup, Sem.run_bind, run_underlying hU, Result.andThen_ok, MapKept.run_getObj_map (hb y hy), run_checkKey hK hkey, run_findKey hK f1, Sem.run_pure]
        · subst hv
          cases ok
          · exact f2
          · exact VR.tuple (us := [v, .bool true]) rfl (VRs.cons f2 (VRs.cons (.v rfl) VRs.nil)).2
      · rename_i hkb hf
        obtain ⟨z, hz, hzm⟩ := Option.map_eq_some_iff.1 hv
        obtain ⟨es, h1, h2⟩ := Option.bind_eq_some_iff.1 hf
        obtain ⟨E, hE, hK2⟩ := hrun es h1
        have f1 := vfind_ok hk h2 hE
        have hkey := keyB_ok hkb hk
        obtain ⟨zv, z1, z2⟩ := run_zeroM (ht et te hte) hz
        refine ⟨if ok then .tuple #[zv, .bool false] else zv, ?_, fun y hy => ?_⟩
        rotate_left
        · rcases hK2 with ⟨rfl, rfl⟩ | ⟨r, ck, rfl, hb⟩
          · simp only [Instr.lookup, Sem.run_bind, run_underlying hU, Result.andThen_ok, run_checkKey hK hkey, run_findKey hK f1, Sem.run_pure, z1]
          · simp only [Instr.lookup, Sem.run_bind, run_underlying hU, Result.andThen_ok, MapKept.run_getObj_map (hb y hy), run_checkKey hK hkey, run_findKey hK f1, Sem.run_pure, z1]
        · subst hzm
          cases ok
          · exact z2 G
          · exact VR.tuple (us := [zv, .bool false]) rfl (VRs.cons (z2 G) (VRs.cons (.v rfl) VRs.nil)).2
      · cases hv
    · cases hv
  · cases hv

theorem vlookup_ok (ht : TabOk P tab) (h : WR G O w) {t : TypeId} {x k : MV} {ok : Bool} {u kv : Value} (hv : vlookup tab O t x k ok = some m) (hx : VR G x u) (hk : VR G k kv) : Here P (Instr.lookup t u kv ok) w G m := by
  obtain ⟨r, h1, h2⟩ := vlookup_held (P := P) ht h hv hx hk
  exact ⟨r, h2 w h.sx, h1⟩

def setAt (es : MEs) (i : Nat) (k v : MV) : MEs := es.modify i fun e => (k, v, e.2.2)
def vmapUpdate (tab : Tab) (O : VH) (t : TypeId) (x k y : MV) : Option VH :=
  match (tab t).map TyI.under, x with
  | some (.map kt _), .map b => match (tab kt).map TyI.under, O.hp b with
    | some kd, some (.map es ck) => match keyB kd k, vfind kd k es 0 with
      | true, some (some (i, _)) => some (O.set b (.map (setAt es i k y) ck))
      | true, some none => some (O.set b (.map (es ++ [(k, y, ck)]) (ck + 1)))
      | _, _ => none
    | _, _ => none
  | _, _ => none
theorem MER.modify {k y : MV} {kv yv : Value} (hk : VR G k kv) (hy : VR G y yv) : ∀ {es : MEs} {E : List MapEntry} (i : Nat), MER G es E → MER G (setAt es i k y) (E.modify i fun e => { e with key := kv, val := yv })
  | [], E, i, h => by rw [h.inv_nil]; simpa [setAt] using MER.nil
  | x :: es, E, i, h => by
    obtain ⟨z, E', rfl, h1, h2, h3, h4⟩ := h.inv_cons
    cases i with
    | zero => simp only [setAt, List.modify_zero_cons]; exact MER.cons h1 hk hy h4
    | succ i =>
      simp only [setAt, List.modify_succ_cons]
      exact MER.cons h1 h2 h3 (MER.modify hk hy i h4)
theorem vmapUpdate_ok (ht : TabOk P tab) (h : WR G O w) {t : TypeId} {x k y : MV} {u kv yv : Value} (hv : vmapUpdate tab O t x k y = some O') (hx : VR G x u) (hk : VR G k kv) (hy : VR G y yv) : GivesU P (Instr.mapUpdate t u kv yv) w G O' := by
  unfold vmapUpdate at hv
  split at hv
  · rename_i kt et b hmt
    have hU := under_of2 ht hmt
    split at hv
    · rename_i kd es ck hkd hb
      have hK := under_of2 ht hkd
      cases hx with
      | map h1 =>
        obtain ⟨b', E, e1, e2, e3, e4, e5⟩ := h.map _ _ _ hb
        rw [h1] at e1; injection e1 with e1; subst e1
        have hE : MER G es E.toList := ⟨e3, e4, e5⟩
        split at hv
        · rename_i i m hkb hf
          injection hv with hv; subst hv
          obtain ⟨v, f1, f2, f3, f4, f5⟩ := vfind_ok hk hf hE
          have hkey := keyB_ok hkb hk
          simp only [Nat.sub_zero] at f4 f5
          have hsz : i < E.size := by simpa using f5
          have hkk : Instr.sameBits 10000 (((E[i]?).map (·.key)).getD kv) kv = true := by
            rw [Array.getElem?_eq_getElem hsz]
            simp only [Array.getElem?_toList, Array.getElem?_eq_getElem hsz, Option.map_some, Option.some.injEq] at f4
            exact f4
          have hr : MER G (setAt es i k y) (E.modify i fun e => { e with key := kv, val := yv }).toList := by
            have := MER.modify hk hy i hE
            rwa [← Array.toList_modify] at this
          refine ⟨_, G, ?_, Gh.Le.refl G, h.setMap (ck' := ck) hb h1 e2 hr⟩
          simp only [Instr.mapUpdate, Sem.run_bind, run_underlying hU, Result.andThen_ok, MapKept.run_getObj_map e2, run_checkKey hK hkey, run_findKey hK f1]
          rw [Instr.keyThatStays, if_pos hkk]
          simp only [Sem.run_pure, Result.andThen_ok, run_setObj_map _ e2]
        · rename_i hkb hf
          injection hv with hv; subst hv
          have f1 := vfind_ok hk hf hE
          have hkey := keyB_ok hkb hk
          have hr : MER G (es ++ [(k, y, ck)]) (E.push { key := kv, val := yv, born := ck }).toList := by
            rw [Array.toList_push]
            exact hE.append (MER.cons rfl hk hy MER.nil)
          refine ⟨_, G, ?_, Gh.Le.refl G, h.setMap (ck' := ck + 1) hb h1 e2 hr⟩
          simp only [Instr.mapUpdate, Sem.run_bind, run_underlying hU, Result.andThen_ok, MapKept.run_getObj_map e2, run_checkKey hK hkey, run_findKey hK f1, run_setObj_map _ e2]
        · cases hv
    · cases hv
  · cases hv
theorem vmakeMap_ok (h : WR G O w) {t : TypeId} : Gives P (Instr.makeMap t none) w G (O.push (.map [] 0)) (.map O.next) := by
  obtain ⟨h1, h2⟩ := h.pushMap
  exact ⟨_, _, _, by simp [Instr.makeMap, newObj, Sem.run], h1, h2, .map (upd_same _ _ _), KeepB.alloc h _⟩
end
end Go.Proofs.YtjbpnhmjnkolbaaDoor

/-
  THE VALUE MACHINE, 7: operations that read or write what may be written; the logic: 'VOps' a row of operations, 'VC' a piece of code, 'VF' a call.
-/
set_option linter.unusedVariables false
set_option linter.unusedSimpArgs false
namespace Go.Proofs.YtjbpnhmjnkolbaaDoor
open Go.RowKit

section
variable {G H : Gh} {n : Sz} {D : List Deferred} {e e' : Env} {a : Act} {P : Program} {tab : Tab} {O O' : VH} {w : World} {m m' : MV} {u v : Value}

/-- Of a block laid out as a strings.Builder the type is kept in mind. -/
def isBldB : List MV → Bool
  | [.v (.pointer none), .sl 0 [] .nil] => true
  | _ => false
def allocO (O : VH) (t : TypeId) (n : Nat) (z : List MV) : VH := bif isBldB z then (O.push (.cells z)).push (.shape O.next t n) else O.push (.cells z)
theorem WR.pushShape (h : WR G O w) {k b : Nat} {t : TypeId} {s : Nat} (hp : G.phi k = some b) (hs : w.shape? b = some (t, s)) : WR G (O.push (.shape k t s)) w := by
  have hne : ∀ {j x}, upd O.hp O.next (some (.shape k t s)) j = some x → (∀ k t n, x ≠ .shape k t n) → O.hp j = some x := fun {j x} hj hx => by
    by_cases e : j = O.next
    · subst e; rw [upd_same] at hj; injection hj with hj; exact absurd hj.symm (hx _ _ _)
    · rwa [upd_other _ _ e] at hj
  have hlv : ∀ j b, G.phi j = some b → upd O.hp O.next (some (.shape k t s)) j ≠ none → O.hp j ≠ none := fun j b hj hn => by
    rwa [upd_other _ _ (fun e => by subst e; rw [h.nextfree.1] at hj; cases hj)] at hn
  refine ⟨h.base, h.com, fun j hj => ?_, fun j c hj => ?_, fun i j c li lj hi hj => h.inj i j c (hlv i c hi li) (hlv j c hj lj) hi hj, fun j cs hj => h.cells j cs (hne hj (by simp)), fun j es ck hj => h.map j es ck (hne hj (by simp)), fun t ht => h.tok t (hne ht (by simp)), fun s t c x y hs ht => h.tinj s t c x y (hne hs (by simp)) (hne ht (by simp)), fun j k' t' n' hj => ?_, fun j x hj => h.obj j x (hne hj (by simp))⟩
  · have hj : O.next + 1 ≤ j := hj
    obtain ⟨h1, h2, h3⟩ := h.dom j (by omega)
    exact ⟨h1, h2, by show upd _ _ _ _ = _; rw [upd_other _ _ (by omega)]; exact h3⟩
  · obtain ⟨p1, p2, p3⟩ := h.plt j c hj
    exact ⟨p1, p2, fun hn => p3 (hlv j c hj hn)⟩
  · have hj : upd O.hp O.next (some (.shape k t s)) j = some (.shape k' t' n') := hj
    by_cases e : j = O.next
    · subst e; rw [upd_same] at hj; injection hj with hj; injection hj with e1 e2 e3; subst e1; subst e2; subst e3; exact ⟨b, hp, hs⟩
    · rw [upd_other _ _ e] at hj; exact h.shp j k' t' n' hj
def vloud (tab : Tab) (o : Oper) (e : Env) (O : VH) : Option (MV × VH) :=
  match o.op with
  | .load t x => (ev e x).bind fun p => (vload tab O t p).map (·, O)
  | .store t x y => match ev e x, ev e y with
    | some p, some q => (vstore tab O t p q).map (.tuple [], ·)
    | _, _ => none
  | .box _ x => (ev e x).map fun p => (.ptr O.next 0, O.push (.cells (mcells p)))
  | .alloc t => (tab t).map fun i => (.ptr O.next 0, allocO O t i.size i.zero)
  | .buildSlice t len parts => match evs e (parts.toList.map (·.2)) with
    | some ms => (vbuildSlice tab t len (zipParts parts ms)).map (·, O)
    | none => none
  | .makeSlice t l c => match ev e l, ev e c with
    | some p, some q => vmakeSlice tab O t p q
    | _, _ => none
  | .call c => match c.callee, c.args.toList, c.argTypes.toList with
    | .builtin .append, [x, y], [t, t'] => if t = t' then match ev e x, ev e y with
      | some p, some q => vappend tab O t p q
      | _, _ => none
      else none
    | .builtin .len, [x], [t] => (ev e x).bind fun p => (vmaplen tab O t p).map (·, O)
    | _, _, _ => none
  | .makeMap _ none => some (.map O.next, O.push (.map [] 0))
  | .lookup t x k ok => match ev e x, ev e k with
    | some p, some q => (vlookup tab O t p q ok).map (·, O)
    | _, _ => none
  | .mapUpdate t x k y => match ev e x, ev e k, ev e y with
    | some p, some q, some r => (vmapUpdate tab O t p q r).map (.tuple [], ·)
    | _, _, _ => none
  | .insert t x k y => match ev e x, ev e k, ev e y with
    | some p, some q, some r => (vmapUpdate tab O t p q r).map (.tuple [], ·)
    | _, _, _ => none
  | _ => none

/-- What turns nothing that is known by a number: it makes memory, or reads. -/
def opA : Op → Bool
  | .store .. | .mapUpdate .. | .insert .. => false
  | .call c => match c.callee with
    | .builtin _ => true
    | _ => false
  | _ => true
/-- An operation's run as a whole. -/
def Yields' (P : Program) (o : Oper) (a : Act) (w : World) (G : Gh) (m : MV) (O' : VH) : Prop :=
  ∃ nx w' H u, (execOp a.eval o).run P w = .ok nx w' ∧ (nx = .value u ∨ (nx = .skip ∧ u = undef)) ∧ Gh.Le G H ∧ WR H O' w' ∧ VR H m u ∧ (opA o.op = true → KeepB G w w')
theorem Yields'.of {o : Oper} {s : Sem Value} (hs : Gives P s w G O' m) (he : execOp a.eval o = (do pure (.value (← s)))) : Yields' P o a w G m O' := by
  obtain ⟨u, w', H, hr, h1, h2, h3, h4⟩ := hs
  exact ⟨.value u, w', H, u, by rw [he, Sem.run_bind, hr]; rfl, .inl rfl, h1, h2, h3, fun _ => h4⟩
theorem Yields'.ofU {o : Oper} {s : Sem Unit} (hs : GivesU P s w G O') (hA : opA o.op = false) (he : execOp a.eval o = (do s; pure .skip)) : Yields' P o a w G (.tuple []) O' := by
  obtain ⟨w', H, hr, h1, h2⟩ := hs
  exact ⟨.skip, w', H, undef, by rw [he, Sem.run_bind, hr]; rfl, .inr ⟨rfl, rfl⟩, h1, h2, VR.tuple (us := []) rfl (fun i c u h => by simp at h), fun h => by rw [hA] at h; cases h⟩

theorem vloud_ok (ht : TabOk P tab) (hw : WR G O w) (h : FR G n D e a) {o : Oper} (hv : vloud tab o e O = some (m, O')) : Yields' P o a w G m O' := by
  unfold vloud at hv
  split at hv
  · rename_i t x ho
    obtain ⟨p, h1, h2⟩ := Option.bind_eq_some_iff.1 hv
    obtain ⟨q, h3, h4⟩ := Option.map_eq_some_iff.1 h2
    simp only [Prod.mk.injEq] at h4
    obtain ⟨rfl, rfl⟩ := h4
    exact Yields'.of (vload_ok ht hw h3 (h.ev h1)) (by simp [execOp, ho])
  · rename_i t x y ho
    split at hv
    · rename_i p q h1 h2
      obtain ⟨O2, h3, h4⟩ := Option.map_eq_some_iff.1 hv
      simp only [Prod.mk.injEq] at h4
      obtain ⟨rfl, rfl⟩ := h4
      exact Yields'.ofU (vstore_ok ht hw h3 (h.ev h1) (h.ev h2)) (by rw [ho]; rfl) (by simp [execOp, ho])
    · cases hv
  · rename_i t x ho
    obtain ⟨p, h1, h2⟩ := Option.map_eq_some_iff.1 hv
    simp only [Prod.mk.injEq] at h2
    obtain ⟨rfl, rfl⟩ := h2
    exact Yields'.of (vbox_ok (t := t) hw (h.ev h1)) (by simp [execOp, ho])
  · rename_i t ho
    obtain ⟨i, h1, h2⟩ := Option.map_eq_some_iff.1 hv
    simp only [Prod.mk.injEq] at h2
    obtain ⟨rfl, rfl⟩ := h2
    obtain ⟨z, hz1, hz2, hz3⟩ := run_zero (ht t i h1) w
    have hr : (Instr.alloc t true (.tuple #[])).run P w = .ok (.pointer (some ⟨w.heap.size, 0, none⟩)) (w.alloc (.cells z.cells t)) := by
      simp only [Instr.alloc, Sem.run_bind, hz1, Result.andThen_ok]
      simp [newVar, newRow, newObj, Sem.run]
    obtain ⟨g1, g2⟩ := hw.push t (hz3 G)
    refine Yields'.of (s := Instr.alloc t true (.tuple #[])) ⟨_, _, _, hr, g1, ?_, .ptr (upd_same _ _ _), KeepB.alloc hw _⟩ (by simp [execOp, ho])
    unfold allocO
    cases isBldB i.zero with
    | false => exact g2
    | true =>
      refine g2.pushShape (upd_same _ _ _) ?_
      have : (w.alloc (.cells z.cells t)).heap[w.heap.size]? = some (.cells z.cells t) := by rw [heap_alloc_eq, if_pos rfl]
      simp only [World.shape?, this, hz2]
  · rename_i t len parts ho
    split at hv
    · rename_i ms h1
      obtain ⟨p, h2, h3⟩ := Option.map_eq_some_iff.1 hv
      simp only [Prod.mk.injEq] at h3
      obtain ⟨rfl, rfl⟩ := h3
      have hl' : ms.length = parts.toList.length := by simpa using evs_length h1
      refine Yields'.of (vbuildSlice_ok ht hw h2 (ps := parts.map fun (i, x) => (i, a.eval x)) ?_ ?_) (by simp [execOp, ho])
      · rw [zip_fst parts ms hl', parts_fst]
      · rw [zip_snd parts ms hl', parts_snd]; exact h.evs h1
    · cases hv
  · rename_i t l c ho
    split at hv
    · rename_i p q h1 h2
      exact Yields'.of (vmakeSlice_ok ht hw hv (h.ev h1) (h.ev h2)) (by simp [execOp, ho])
    · cases hv
  · rename_i c ho
    split at hv
    · rename_i x y t t' hc hargs htys
      split at hv
      · rename_i htt
        subst htt
        split at hv
        · rename_i p q h1 h2
          have ha : c.args = #[x, y] := by apply Array.ext'; exact hargs
          have hty : c.argTypes = #[t, t] := by apply Array.ext'; exact htys
          exact Yields'.of (vappend_ok (ty := o.type) ht hw hv (h.ev h1) (h.ev h2)) (by simp [execOp, ho, resolve, hc, ha, hty, invoke, builtin])
        · cases hv
      · cases hv
    · rename_i x t hc hargs htys
      obtain ⟨p, h1, h2⟩ := Option.bind_eq_some_iff.1 hv
      obtain ⟨q, h3, h4⟩ := Option.map_eq_some_iff.1 h2
      simp only [Prod.mk.injEq] at h4
      obtain ⟨rfl, rfl⟩ := h4
      have ha : c.args = #[x] := by apply Array.ext'; exact hargs
      have hty : c.argTypes = #[t] := by apply Array.ext'; exact htys
      exact Yields'.of (vmaplen_ok (ty := o.type) ht hw h3 (h.ev h1)) (by simp [execOp, ho, resolve, hc, ha, hty, invoke, builtin])
    · cases hv
  · rename_i t ho
    simp only [Option.some.injEq, Prod.mk.injEq] at hv
    obtain ⟨rfl, rfl⟩ := hv
    exact Yields'.of (vmakeMap_ok (t := t) hw) (by simp [execOp, ho])
  · rename_i t x k ok ho
    split at hv
    · rename_i p q h1 h2
      obtain ⟨r, h3, h4⟩ := Option.map_eq_some_iff.1 hv
      simp only [Prod.mk.injEq] at h4
      obtain ⟨rfl, rfl⟩ := h4
      obtain ⟨z, g1, g2⟩ := vlookup_ok (P := P) ht hw h3 (h.ev h1) (h.ev h2)
      exact Yields'.of (Gives.of hw g1 g2) (by simp [execOp, ho])
    · cases hv
  · rename_i t x k y ho
    split at hv
    · rename_i p q r h1 h2 h3
      obtain ⟨O2, h4, h5⟩ := Option.map_eq_some_iff.1 hv
      simp only [Prod.mk.injEq] at h5
      obtain ⟨rfl, rfl⟩ := h5
      exact Yields'.ofU (vmapUpdate_ok ht hw h4 (h.ev h1) (h.ev h2) (h.ev h3)) (by rw [ho]; rfl) (by simp [execOp, ho])
    · cases hv
  · rename_i t x k y ho
    split at hv
    · rename_i p q r h1 h2 h3
      obtain ⟨O2, h4, h5⟩ := Option.map_eq_some_iff.1 hv
      simp only [Prod.mk.injEq] at h5
      obtain ⟨rfl, rfl⟩ := h5
      exact Yields'.ofU (vmapUpdate_ok ht hw h4 (h.ev h1) (h.ev h2) (h.ev h3)) (by rw [ho]; rfl) (by simp [execOp, ho])
    · cases hv
  · cases hv

def vop (tab : Tab) (o : Oper) (e : Env) (O : VH) : Option (MV × VH) :=
  match vsil tab o e with
  | some m => some (m, O)
  | none => vloud tab o e O
theorem vop_ok (ht : TabOk P tab) (hw : WR G O w) (h : FR G n D e a) {o : Oper} (hv : vop tab o e O = some (m, O')) : Yields' P o a w G m O' := by
  unfold vop at hv
  split at hv
  · rename_i p hp
    simp only [Option.some.injEq, Prod.mk.injEq] at hv
    obtain ⟨rfl, rfl⟩ := hv
    obtain ⟨u, hu, hr⟩ := vsil_ok (P := P) ht h hp
    exact ⟨.value u, w, G, u, hr w hw.ss, .inl rfl, Gh.Le.refl G, hw, hu, fun _ => KeepB.refl _ _⟩
  · exact vloud_ok ht hw h hv

/-! ### The logic -/
inductive VX where
  | normal | exit (id : Nat) | goto (l : Nat) | ret | panic (m : MV)
def XR (G : Gh) : VX → Exit → Prop
  | .normal, .normal => True
  | .exit i, .exit j => i = j
  | .goto i, .goto j => i = j
  | .ret, .ret => True
  | .panic m, .panic c => ∃ u, c = [{ v := u, recovered := false }] ∧ VR G m u
  | _, _ => False
theorem XR.mono (h : G.Le H) {x : VX} {y : Exit} (r : XR G x y) : XR H x y := by
  cases x <;> cases y <;> simp only [XR] at r ⊢ <;> first
    | exact r
    | (obtain ⟨u, h1, h2⟩ := r; exact ⟨u, h1, h2.mono h⟩)
abbrev VQ := VX → Env → VH → Prop
/-- How the frame stands at an end: behind a panic nothing is known of the slots. -/
def FRX (G : Gh) (n : Sz) (D : List Deferred) : VX → Env → Act → Prop
  | .panic _, e, a => (∀ t x, look e t = some x → t < n.lo) ∧ FR G n D e a
  | _, e, a => FR G n D e a
def VPost (G : Gh) (n : Sz) (D : List Deferred) (Q : VQ) : Exit → Act → World → Prop := fun y a w => ∃ x e O H, Gh.Le G H ∧ WR H O w ∧ FRX H n D x e a ∧ XR H x y ∧ Q x e O
theorem VPost.le (h : G.Le H) {Q : VQ} {y : Exit} (hp : VPost H n D Q y a w) : VPost G n D Q y a w := by
  obtain ⟨x, e, O, K, h1, h2⟩ := hp
  exact ⟨x, e, O, K, h.trans h1, h2⟩
theorem VPost.mono {Q Q' : VQ} (hQ : ∀ x e O, Q x e O → Q' x e O) {y : Exit} (hp : VPost G n D Q y a w) : VPost G n D Q' y a w := by
  obtain ⟨x, e, O, K, h1, h2, h3, h4, h5⟩ := hp
  exact ⟨x, e, O, K, h1, h2, h3, h4, hQ _ _ _ h5⟩

theorem lowE_lt : ∀ t x, look (lowE n e) t = some x → t < n.lo := fun t x hx => by
  rw [look_lowE] at hx
  split at hx
  · assumption
  · cases hx
theorem lowE_sub : ∀ t x, look (lowE n e) t = some x → look e t = some x := fun t x hx => by
  rw [look_lowE] at hx
  split at hx
  · exact hx
  · cases hx
/-- A row of operations, by their places. -/
def VOps (P : Program) (n : Sz) (D : List Deferred) (ops : Array Oper) (l : List Nat) (e : Env) (O : VH) (Q : VQ) : Prop :=
  ∀ G a w, WR G O w → FR G n D e a → wpOps P ops (VPost G n D Q) l a w
/-- A piece of code. -/
def VC (P : Program) (n : Sz) (D : List Deferred) (c : Code) (e : Env) (O : VH) (Q : VQ) : Prop :=
  ∀ G a w, WR G O w → FR G n D e a → c.wp P (VPost G n D Q) a w

def putM (d : Option Tmp) (m : MV) (e : Env) : Env := match d with
  | some d => (d, m) :: e
  | none => e
def dstB (n : Sz) (d : Option Tmp) : Bool := match d with
  | some d => decide (n.lo ≤ d) && decide (d < n.n)
  | none => true
theorem FR.putM (h : FR G n D e a) {d : Option Tmp} (hd : dstB n d = true) (hu : VR G m u) : FR G n D (putM d m e) (a.put d u) := by
  cases d with
  | none => exact h
  | some d => exact FR.put h (by simp [dstB] at hd; exact hd.2) hu
def vguard (ops : Array Oper) (o : Oper) (e : Env) : Option Bool :=
  match o.guard with
  | none => some true
  | some (j, want) => match (ops[j]?).bind (·.dst) with
    | some d => match look e d with
      | some (.v (.bool b)) => some (b == want)
      | some (.tuple []) => some false
      | _ => none
    | none => none
theorem vguard_ok (h : FR G n D e a) {ops : Array Oper} {o : Oper} {b : Bool} (hv : vguard ops o e = some b) : Region.wanted o (yielded ops a.tmps) = b := by
  unfold vguard at hv
  unfold Region.wanted
  split at hv
  · rename_i hg; injection hv with hv; rw [hg, ← hv]
  · rename_i j want hg
    rw [hg]
    split at hv
    · rename_i d hd
      split at hv
      · rename_i b' hl
        injection hv with hv
        obtain ⟨u, h1, h2⟩ := h.get d _ hl
        have := h2.v_inv
        subst this
        simp only [yielded, hd, Option.bind_some, h1]
        rw [← hv]
        cases b' <;> cases want <;> rfl
      · rename_i hl
        injection hv with hv
        obtain ⟨u, h1, h2⟩ := h.get d _ hl
        cases h2 with
        | tuple _ _ =>
          simp only [yielded, hd, Option.bind_some, h1]
          rw [← hv]
          rfl
      · cases hv
    · cases hv
def undefM : MV := .tuple []
theorem undef_ok : VR G undefM undef := VR.tuple (us := []) rfl fun i c u h => by simp at h

theorem VOps.nil {ops : Array Oper} {Q : VQ} (h : Q .normal e O) : VOps P n D ops [] e O Q := fun G a w hw hf => ⟨.normal, e, O, G, Gh.Le.refl G, hw, hf, trivial, h⟩
theorem wpOps_imp {ops : Array Oper} {Q Q' : Exit → Act → World → Prop} (hQ : ∀ y a w, Q y a w → Q' y a w) : ∀ (l : List Nat) (a : Act) (w : World), wpOps P ops Q l a w → wpOps P ops Q' l a w := by
  intro l
  induction l with
  | nil => intro a w h; exact hQ _ _ _ h
  | cons i rest ih =>
    intro a w h
    rw [wpOps_cons] at h ⊢
    have h1 := wpOp_mono (K' := wpOps P ops Q' rest) ih h
    unfold wpOp at h1 ⊢
    split
    · rename_i ho; simp only [ho] at h1; exact h1
    · rename_i o ho
      simp only [ho] at h1
      split
      · rename_i hwn
        simp only [hwn, if_true] at h1
        refine h1.imp (fun h2 => ?_) (fun ⟨h2, a', w', h3⟩ => ⟨h2, a', w', hQ _ _ _ h3⟩)
        unfold Oper.wp at h2 ⊢
        generalize (execOp a.eval o).run P w = r at *
        cases r with
        | ok nx w' =>
          cases nx <;> simp only [Oper.upon] at h2 ⊢ <;> first
            | exact h2
            | (refine Calls.mono h2 fun x w'' he => ?_
               cases x with
               | returned v => exact he
               | panicked c => exact hQ _ _ _ he
               | outgrown => obtain ⟨a', w', h3⟩ := he; exact ⟨a', w', hQ _ _ _ h3⟩)
        | halt x w' => cases x <;> simp only [Oper.upon] at h2 ⊢ <;> first | exact h2 | exact hQ _ _ _ h2
      · rename_i hwn
        simp only [hwn] at h1; exact h1
theorem VOps.mono {ops : Array Oper} {l : List Nat} {Q Q' : VQ} (hQ : ∀ x e O, Q x e O → Q' x e O) (h : VOps P n D ops l e O Q) : VOps P n D ops l e O Q' :=
  fun G a w hw hf => wpOps_imp (fun _ _ _ => VPost.mono hQ) l a w (h G a w hw hf)

theorem VOps.step (ht : TabOk P tab) {ops : Array Oper} {i : Nat} {l : List Nat} {o : Oper} {Q : VQ} (ho : ops[i]? = some o) (hg : vguard ops o e = some true) (hv : vop tab o e O = some (m, O')) (hd : dstB n o.dst = true)
    (h : VOps P n D ops l (putM o.dst m e) O' Q) : VOps P n D ops (i :: l) e O Q := by
  intro G a w hw hf
  obtain ⟨nx, w', H, u, hr, hnx, h1, h2, h3, _⟩ := vop_ok (P := P) ht hw hf hv
  simp only [wpOps, ho, vguard_ok hf hg, if_true]
  refine .inl ?_
  unfold Oper.wp
  rw [hr]
  have hk : wpOps P ops (VPost G n D Q) l (a.put o.dst u) w' := by
    exact wpOps_imp (fun _ _ _ => VPost.le h1) l _ _ (h H (a.put o.dst u) w' h2 ((hf.mono h1).putM hd h3))
  rcases hnx with rfl | ⟨rfl, rfl⟩
  · exact hk
  · exact hk
theorem VOps.skip {ops : Array Oper} {i : Nat} {l : List Nat} {o : Oper} {Q : VQ} (ho : ops[i]? = some o) (hg : vguard ops o e = some false) (hd : dstB n o.dst = true)
    (h : VOps P n D ops l (putM o.dst undefM e) O Q) : VOps P n D ops (i :: l) e O Q := by
  intro G a w hw hf
  simp only [wpOps, ho, vguard_ok hf hg, Bool.false_eq_true, if_false]
  exact h G _ w hw (hf.putM hd undef_ok)

/-! ### Calls -/
inductive VRes where
  | ret (m : MV) | panic (m : MV)
def ER (G : Gh) : VRes → Ending → Prop
  | .ret m, .returned v => VR G m v
  | .panic m, .panicked c => ∃ u, c = [{ v := u, recovered := false }] ∧ VR G m u
  | _, _ => False
def VF (P : Program) (f : FuncId) (args : List MV) (O : VH) (R : VRes → VH → Prop) : Prop :=
  ∀ G w vs, WR G O w → VRs G args vs → Calls P f vs.toArray w fun x w' => ∃ r O' H, Gh.Le G H ∧ WR H O' w' ∧ ER H r x ∧ R r O'
theorem VF.mono {f : FuncId} {args : List MV} {R R' : VRes → VH → Prop} (hR : ∀ r O, R r O → R' r O) (h : VF P f args O R) : VF P f args O R' :=
  fun G w vs hw hv => (h G w vs hw hv).mono fun _ _ ⟨r, O', H, h1, h2, h3, h4⟩ => ⟨r, O', H, h1, h2, h3, hR _ _ h4⟩
/-- The call of a function with a body. -/
def Enters (P : Program) (f : FuncId) : Prop := ∀ args w, (callFunc f args).run P w = .ok (.enter f args) w
theorem Enters.of {f : FuncId} {fn : Func} (hf : P.funcs[f]? = some fn) (hn : (fn.name == "runtime.NumGoroutine") = false) (hb : fn.body.isNone = false) : Enters P f := by
  intro args w
  have hn' : fn.name ≠ "runtime.NumGoroutine" := by simpa using hn
  have hb' : fn.body ≠ none := by intro h; rw [h] at hb; cases hb
  simp [callFunc, program, Sem.run, hf, hn', hb']

theorem VOps.call {ops : Array Oper} {i : Nat} {l : List Nat} {o : Oper} {Q : VQ} {c : Call} {f : Operand} {id : FuncId} {fs ms cs : List MV} {R : VRes → VH → Prop} (ho : ops[i]? = some o) (hg : vguard ops o e = some true) (hop : o.op = .call c) (hc : c.callee = .value f)
    (hf : ev e f = some (.func (.func id) fs cs)) (hm : evs e c.args.toList = some ms) (hE : Enters P id) (hd : dstB n o.dst = true) (hR : VF P id (fs ++ ms ++ cs) O R)
    (h : ∀ r O', R r O' → match r with
      | .ret m => VOps P n D ops l (putM o.dst m e) O' Q
      | .panic m => Q (.panic m) (lowE n e) O') : VOps P n D ops (i :: l) e O Q := by
  intro G a w hw hfr
  have hfv := hfr.ev hf
  generalize hfe : a.eval f = fv at hfv
  cases hfv with
  | func h1 h2 h3 h4 =>
    rename_i us vs
    have hargs := hfr.evs hm
    have hall := VRs.append (VRs.append (show VRs G fs us from ⟨h1, h2⟩) hargs) (show VRs G cs vs from ⟨h3, h4⟩)
    have hrun : (execOp a.eval o).run P w = .ok (.enter id (us ++ c.args.toList.map a.eval ++ vs).toArray) w := by
      have ha : c.args.map a.eval = (c.args.toList.map a.eval).toArray := by apply Array.ext'; simp
      have : us.toArray ++ c.args.map a.eval ++ vs.toArray = (us ++ c.args.toList.map a.eval ++ vs).toArray := by apply Array.ext'; simp [ha]
      simp only [execOp, hop, resolve, hc, hfe, Deferred.ofValue, Sem.run_bind, Sem.run_pure, Result.andThen_ok, invoke, hE _ w]
      rw [this]
    simp only [wpOps, ho, vguard_ok hfr hg, if_true]
    refine .inl ?_
    unfold Oper.wp
    rw [hrun]
    show Calls P id _ w _
    refine (hR G w _ hw hall).mono ?_
    rintro x w' ⟨r, O', H, g1, g2, g3, g4⟩
    have hk := h r O' g4
    cases r with
    | ret m =>
      cases x with
      | returned v => exact wpOps_imp (fun _ _ _ => VPost.le g1) l _ _ (hk H _ w' g2 ((hfr.mono g1).putM hd g3))
      | panicked c => exact g3.elim
      | outgrown => exact g3.elim
    | panic m =>
      cases x with
      | returned v => exact g3.elim
      | panicked c => exact ⟨.panic m, lowE n e, O', H, g1, g2, ⟨lowE_lt, (hfr.mono g1).less lowE_sub⟩, g3, hk⟩
      | outgrown => exact g3.elim

/-! ### Code -/
theorem VC.mono {c : Code} {Q Q' : VQ} (hQ : ∀ x e O, Q x e O → Q' x e O) (h : VC P n D c e O Q) : VC P n D c e O Q' :=
  fun G a w hw hf => wp_mono (h G a w hw hf) fun _ _ _ => VPost.mono hQ
/-- Less is known of the slots, and of the heap. -/
theorem VC.less {c : Code} {Q : VQ} (h : VC P n D c e' O' Q) (hl : ∀ t x, look e' t = some x → look e t = some x) (hn : O.next ≤ O'.next) (hh : ∀ k, O'.hp k = none ∨ O'.hp k = O.hp k) : VC P n D c e O Q :=
  fun G a w hw hf => h G a w (hw.forget hn hh) (hf.less hl)
theorem VC.env {c : Code} {Q : VQ} (h : VC P n D c e' O Q) (hl : ∀ t x, look e' t = some x → look e t = some x) : VC P n D c e O Q :=
  fun G a w hw hf => h G a w hw (hf.less hl)
theorem VC.skip {Q : VQ} (h : Q .normal e O) : VC P n D .skip e O Q := fun G a w hw hf => wp_skip ⟨.normal, e, O, G, Gh.Le.refl G, hw, hf, trivial, h⟩
theorem VC.exit {Q : VQ} {id : Nat} (h : Q (.exit id) e O) : VC P n D (.exit id) e O Q := fun G a w hw hf => wp_exit ⟨.exit id, e, O, G, Gh.Le.refl G, hw, hf, rfl, h⟩
theorem VC.label {Q : VQ} {l : Nat} (h : Q .normal e O) : VC P n D (.label l) e O Q := fun G a w hw hf => wp_label ⟨.normal, e, O, G, Gh.Le.refl G, hw, hf, trivial, h⟩
/-- A scope out of which nothing jumps. -/
def ScopeQ (Q : VQ) : VQ := fun x e O => match x with
  | .goto _ => False
  | x => Q x e O
theorem VC.scope {c : Code} {Q : VQ} (h : VC P n D c e O (ScopeQ Q)) : VC P n D (.scope c) e O Q := by
  intro G a w hw hf
  refine wp_scope_straight (wp_mono (h G a w hw hf) ?_)
  rintro y a' w' ⟨x, e', O', H, h1, h2, h3, h4, h5⟩
  cases y <;> cases x <;> first
    | exact False.elim h4
    | exact h5.elim
    | exact ⟨_, e', O', H, h1, h2, h3, h4, h5⟩
theorem VC.ret {Q : VQ} (h : Q .ret e O) : VC P n D .ret e O Q := fun G a w hw hf => wp_ret ⟨.ret, e, O, G, Gh.Le.refl G, hw, hf, trivial, h⟩
theorem VC.seq {c d : Code} {Q : VQ} (h : VC P n D c e O fun x e O => match x with
    | .normal => VC P n D d e O Q
    | x => Q x e O) : VC P n D (.seq c d) e O Q := by
  intro G a w hw hf
  refine wp_seq (wp_mono (h G a w hw hf) ?_)
  rintro y a' w' ⟨x, e', O', H, h1, h2, h3, h4, h5⟩
  cases y <;> cases x <;> first
    | exact False.elim h4
    | exact wp_mono (h5 H a' w' h2 h3) fun _ _ _ => VPost.le h1
    | exact ⟨_, e', O', H, h1, h2, h3, h4, h5⟩
theorem VC.cond {c : Operand} {x y : Code} {t : Bool} {Q : VQ} (hc : ev e c = some (.v (.bool t))) (h1 : t = true → VC P n D x e O Q) (h2 : t = false → VC P n D y e O Q) : VC P n D (.cond c x y) e O Q := by
  intro G a w hw hf
  have hcv : a.eval c = .bool t := (hf.ev hc).v_inv
  exact wp_cond_split hcv (fun ht => h1 ht G a w hw hf) (fun ht => h2 ht G a w hw hf)
theorem VC.block {c : Code} {id : Nat} {Q : VQ} (h : VC P n D c e O fun x e O => match x with
    | .exit i => if i = id then Q .normal e O else Q (.exit i) e O
    | x => Q x e O) : VC P n D (.block id c) e O Q := by
  intro G a w hw hf
  refine wp_block (wp_mono (h G a w hw hf) ?_)
  rintro y a' w' ⟨x, e', O', H, h1, h2, h3, h4, h5⟩
  cases y with
  | exit j =>
    cases x with
    | exit i =>
      obtain rfl : i = j := h4
      simp only [Exit.inBlock]
      simp only at h5
      split
      · rename_i hi; rw [if_pos hi] at h5; exact ⟨.normal, e', O', H, h1, h2, h3, trivial, h5⟩
      · rename_i hi; rw [if_neg hi] at h5; exact ⟨.exit i, e', O', H, h1, h2, h3, rfl, h5⟩
    | _ => exact False.elim h4
  | _ => cases x <;> first
    | exact False.elim h4
    | exact ⟨_, e', O', H, h1, h2, h3, h4, h5⟩
theorem rounds_mono {c : Code} {Q Q' : Exit → Act → World → Prop} (hQ : ∀ y a w, Q y a w → Q' y a w) : ∀ (k : Nat) (a : Act) (w : World), Code.rounds P c Q k a w → Code.rounds P c Q' k a w
  | 0, _, _, h => h.elim
  | k + 1, a, w, h => by
    rw [rounds_succ] at h ⊢
    refine wp_mono h fun y a' w' hy => ?_
    cases y <;> first
      | exact rounds_mono hQ k a' w' hy
      | exact hQ _ _ _ hy
theorem rounds_le {c : Code} {Q : Exit → Act → World → Prop} : ∀ (k j : Nat) (a : Act) (w : World), k ≤ j → Code.rounds P c Q k a w → Code.rounds P c Q j a w
  | 0, _, _, _, _, h => h.elim
  | k + 1, 0, _, _, hj, _ => absurd hj (by omega)
  | k + 1, j + 1, a, w, hj, h => by
    rw [rounds_succ] at h ⊢
    refine wp_mono h fun y a' w' hy => ?_
    cases y <;> first
      | exact rounds_le k j a' w' (by omega) hy
      | exact hy
/-- A loop: I, what holds at each round's head, with a number that each round lowers. -/
theorem VC.loop {c : Code} {Q : VQ} (I : Nat → Env → VH → Prop) {k : Nat} (h0 : I k e O) (h : ∀ k e O, I k e O → VC P n D c e O fun x e' O' => match x with
    | .normal => ∃ j, j < k ∧ I j e' O'
    | x => Q x e' O') : VC P n D (.loop c) e O Q := by
  intro G a w hw hf
  refine wp_loop_rounds (k + 1) ?_
  induction k using Nat.strongRecOn generalizing e O G a w with
  | _ k ih =>
    rw [rounds_succ]
    refine wp_mono (h k e O h0 G a w hw hf) ?_
    rintro y a' w' ⟨x, e', O', H, h1, h2, h3, h4, h5⟩
    cases y <;> cases x <;> first
      | exact False.elim h4
      | exact ⟨_, e', O', H, h1, h2, h3, h4, h5⟩
      | (obtain ⟨j, hj, hI⟩ := h5
         exact rounds_le (j + 1) k a' w' (by omega) (rounds_mono (fun _ _ _ => VPost.le h1) _ _ _ (ih j hj hI H a' w' h2 h3)))
theorem VC.region {id : Nat} {ops : Array Oper} {Q : VQ} (h : VOps P n D ops (List.range ops.size) e O Q) : VC P n D (.region id ops false) e O Q :=
  fun G a w hw hf => wp_region (h G a w hw hf)

/-! ### A function -/
def vresult (tab : Tab) (e : Env) (O : VH) : ResultVar → Option MV
  | .tmp t => look e t
  | .cell x t => (look e x).bind (vload tab O t)
def vresults (tab : Tab) (fn : Func) (e : Env) (O : VH) : Option MV :=
  match fn.results.toList.mapM (vresult tab e O) with
  | some [m] => some m
  | some l => some (.tuple l)
  | none => none
def resOne (tmps : Array Value) : ResultVar → Sem Value
  | .tmp t => pure (tmps.getD t undef)
  | .cell x t => do loadVar t (← asAddr (tmps.getD x undef))
theorem results_eq (fn : Func) (tmps : Array Value) : results fn tmps = (do let vs ← fn.results.mapM (resOne tmps); pure (if h : vs.size = 1 then vs[0] else .tuple vs)) := by
  unfold results
  congr 1
theorem vresult_ok (ht : TabOk P tab) (hw : WR G O w) (hf : FR G n D e a) : ∀ (l : List ResultVar) (ms : List MV), l.mapM (vresult tab e O) = some ms →
    ∃ us, (l.mapM (resOne a.tmps)).run P w = .ok us w ∧ VRs G ms us
  | [], ms, h => by simp at h; subst h; exact ⟨[], rfl, VRs.nil⟩
  | r :: l, ms, h => by
    simp only [List.mapM_cons, Option.bind_eq_bind, Option.bind_eq_some_iff] at h
    obtain ⟨m, h1, ms', h2, h3⟩ := h
    injection h3 with h3; subst h3
    obtain ⟨us, h4, h5⟩ := vresult_ok ht hw hf l ms' h2
    have one : ∃ u, (resOne a.tmps r).run P w = .ok u w ∧ VR G m u := by
      cases r with
      | tmp t => exact ⟨_, rfl, hf.ev (x := .tmp t) h1⟩
      | cell x t =>
        obtain ⟨p, h6, h7⟩ := Option.bind_eq_some_iff.1 h1
        have hp : VR G p (a.tmps.getD x undef) := hf.ev (x := .tmp x) h6
        simp only [resOne]
        generalize a.tmps.getD x undef = pv at hp ⊢
        have hshape : ∃ ad, pv = .pointer (some ad) := by
          have hc : ∃ cs off, cellsOf O p = some (cs, off) := by
            unfold vload at h7
            split at h7
            · exact ⟨_, _, ‹_›⟩
            · cases h7
          obtain ⟨cs, off, hc⟩ := hc
          obtain ⟨b, o, _, rfl, _⟩ := cellsOf_ok hw hp hc
          exact ⟨_, rfl⟩
        obtain ⟨ad, rfl⟩ := hshape
        obtain ⟨u, g1, g2⟩ := vload_run (P := P) ht hw h7 hp
        refine ⟨u, ?_, g2⟩
        simp only [asAddr, Sem.run_bind, Sem.run_pure, Result.andThen_ok]
        simpa [Instr.loadAt, Instr.sureAddr] using g1
    obtain ⟨u, g1, g2⟩ := one
    refine ⟨u :: us, ?_, VRs.cons g2 h5⟩
    rw [List.mapM_cons, Sem.run_bind, g1, Result.andThen_ok, Sem.run_bind, h4]
    rfl
theorem vresults_ok (ht : TabOk P tab) (hw : WR G O w) (hf : FR G n D e a) {fn : Func} (h : vresults tab fn e O = some m) : ∃ u, (results fn a.tmps).run P w = .ok u w ∧ VR G m u := by
  have hmap : ∀ ms, fn.results.toList.mapM (vresult tab e O) = some ms → ∃ us, (fn.results.mapM (resOne a.tmps)).run P w = .ok us.toArray w ∧ VRs G ms us := fun ms hm => by
    obtain ⟨us, h1, h2⟩ := vresult_ok (P := P) ht hw hf _ ms hm
    refine ⟨us, ?_, h2⟩
    rw [Array.mapM_eq_mapM_toList, ← bind_pure_comp, Sem.run_bind, h1]
    rfl
  unfold vresults at h
  rw [results_eq]
  split at h
  · rename_i p hp
    injection h with h; subst h
    obtain ⟨us, h1, h2⟩ := hmap _ hp
    obtain ⟨u, us', rfl, h3, h4⟩ := h2.inv_cons
    rw [h4.inv_nil] at h1
    exact ⟨u, by rw [Sem.run_bind, h1]; rfl, h3⟩
  · rename_i l hl hp
    injection h with h; subst h
    obtain ⟨us, h1, h2⟩ := hmap _ hp
    have hne : us.length ≠ 1 := fun h5 => by
      have := h2.1
      rw [h5] at this
      match l, this with
      | [x], _ => exact hl x rfl
    refine ⟨.tuple us.toArray, ?_, .tuple h2.1 h2.2⟩
    rw [Sem.run_bind, h1, Result.andThen_ok]
    simp [hne]
  · cases h

/-- The slots at a function's beginning. -/
def argEnv : Nat → List MV → Env
  | _, [] => []
  | k, m :: l => (k, m) :: argEnv (k + 1) l
theorem look_argEnv : ∀ (l : List MV) (k t : Nat), look (argEnv k l) t = if k ≤ t then l[t - k]? else none
  | [], k, t => by simp [argEnv, look]
  | m :: l, k, t => by
    simp only [argEnv, look]
    by_cases e : t = k
    · subst e; simp
    · have : (t == k) = false := by simpa using e
      rw [this, cond_false, look_argEnv l (k + 1) t]
      by_cases h : k ≤ t
      · rw [if_pos h, if_pos (by omega)]
        obtain ⟨j, hj⟩ : ∃ j, t - k = j + 1 := ⟨t - k - 1, by omega⟩
        rw [hj, show t - (k + 1) = j from by omega]
        rfl
      · rw [if_neg h, if_neg (by omega)]
/-- A call, by its body. -/
theorem VF.enter (ht : TabOk P tab) {f : FuncId} {fn : Func} {c : Code} {args : List MV} {R : VRes → VH → Prop} (hf : P.funcs[f]? = some fn) (hb : fn.body = some c) (hn : args.length ≤ fn.ntmps)
    (h : VC P ⟨fn.ntmps, 0⟩ [] c (argEnv 0 args) O fun x e O' => match x with
      | .normal => ∃ m, vresults tab fn e O' = some m ∧ R (.ret m) O'
      | .ret => ∃ m, vresults tab fn e O' = some m ∧ R (.ret m) O'
      | .panic m => R (.panic m) O'
      | _ => False) : VF P f args O R := by
  intro G w vs hw hv
  refine calls_of_wp hf hb ?_
  have hfr : FR G ⟨fn.ntmps, 0⟩ [] (argEnv 0 args) { tmps := vs.toArray ++ Array.replicate (fn.ntmps - vs.toArray.size) undef, defers := [] } := by
    have hl := hv.1
    refine ⟨rfl, by simp; omega, fun t x hx => ?_⟩
    rw [look_argEnv, if_pos (Nat.zero_le _), Nat.sub_zero] at hx
    obtain ⟨u, h1, h2⟩ := hv.get hx
    refine ⟨u, ?_, h2⟩
    have hlt := (List.getElem?_eq_some_iff.1 h1).1
    rw [Array.getElem?_append_left (by simpa using hlt)]
    simpa using h1
  refine wp_mono (h G _ w hw hfr) ?_
  rintro y a' w' ⟨x, e', O', H, h1, h2, h3, h4, h5⟩
  cases y with
  | normal =>
    cases x <;> first
      | exact False.elim h4
      | (obtain ⟨m, h6, h7⟩ := h5
         obtain ⟨u, h8, h9⟩ := vresults_ok (P := P) ht h2 h3 h6
         exact ⟨h3.defers, u, h8, .ret m, O', H, h1, h2, h9, h7⟩)
  | ret =>
    cases x <;> first
      | exact False.elim h4
      | (obtain ⟨m, h6, h7⟩ := h5
         obtain ⟨u, h8, h9⟩ := vresults_ok (P := P) ht h2 h3 h6
         exact ⟨h3.defers, u, h8, .ret m, O', H, h1, h2, h9, h7⟩)
  | panic c =>
    cases x <;> first
      | exact False.elim h4
      | exact ⟨h3.2.defers, .panic _, O', H, h1, h2, h4, h5⟩
  | exit i => cases x <;> first | exact False.elim h4 | exact h5.elim
  | goto i => cases x <;> first | exact False.elim h4 | exact h5.elim
  | outgrown => cases x <;> exact False.elim h4
end
end Go.Proofs.YtjbpnhmjnkolbaaDoor
