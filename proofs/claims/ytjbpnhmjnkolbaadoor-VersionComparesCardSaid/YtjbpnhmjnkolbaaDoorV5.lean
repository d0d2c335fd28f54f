/-
  THE VALUE MACHINE, 5: slicing, make, append.
-/
import Derived.Test.YtjbpnhmjnkolbaaDoorV4
set_option linter.unusedVariables false
set_option linter.unusedSimpArgs false
namespace Go.Proofs.YtjbpnhmjnkolbaaDoor
open Go.RowKit

section
variable {G H : Gh} {n : Nat} {D : List Deferred} {e : Env} {a : Act} {P : Program} {tab : Tab} {O O' : VH} {w : World} {m m' : MV} {u v : Value}

/-- A bound of a slice expression: none given, or a number. -/
def vbound (d : Nat) : Option MV → Option Nat
  | none => some d
  | some (.v (.int _ i)) => if 0 ≤ i then some i.toNat else none
  | _ => none
theorem vbound_some {d k : Nat} {x : MV} (h : vbound d (some x) = some k) (hx : VR G x u) : ∃ kk, u = .int kk (k : Int) := by
  unfold vbound at h
  split at h
  · rename_i hh; cases hh
  · rename_i kk i hh
    injection hh with hh; subst hh
    cases hx
    split at h
    · injection h with h
      exact ⟨kk, by rw [← h]; congr 1; omega⟩
    · cases h
  · cases h

/-- The relation of what is optional. -/
def VRo (G : Gh) : Option MV → Option Value → Prop
  | none, none => True
  | some m, some u => VR G m u
  | _, _ => False

theorem run_bounds (isS : Bool) (len cap lo hi : Nat) {l h : Option MV} {lv hv : Option Value} (hl : vbound 0 l = some lo) (hh : vbound len h = some hi) (rl : VRo G l lv) (rh : VRo G h hv) (h1 : lo ≤ hi) (h2 : hi ≤ cap) :
    ∀ w, (Instr.sliceBounds isS len cap lv hv none).run P w = .ok (lo, hi, cap) w := by
  intro w
  cases l <;> cases lv <;> simp only [VRo] at rl <;> cases h <;> cases hv <;> simp only [VRo] at rh
  · simp only [vbound, Option.some.injEq] at hl hh; subst hl; subst hh; simp [Instr.sliceBounds]
  · obtain ⟨k, rfl⟩ := vbound_some hh rh
    simp only [vbound, Option.some.injEq] at hl; subst hl
    have := run_sliceBound (P := P) w k (hi : Int) cap (if isS then .sliceAcap else .sliceAlen) (by omega) (by omega)
    simp [Instr.sliceBounds, this]
  · obtain ⟨k, rfl⟩ := vbound_some hl rl
    simp only [vbound, Option.some.injEq] at hh; subst hh
    have := run_sliceBound (P := P) w k (lo : Int) len .sliceB (by omega) (by omega)
    simp [Instr.sliceBounds, this]
  · obtain ⟨k, rfl⟩ := vbound_some hl rl
    obtain ⟨k', rfl⟩ := vbound_some hh rh
    have h3 := run_sliceBound (P := P) w k (lo : Int) hi .sliceB (by omega) (by omega)
    have h4 := run_sliceBound (P := P) w k' (hi : Int) cap (if isS then .sliceAcap else .sliceAlen) (by omega) (by omega)
    simp [Instr.sliceBounds, h3, h4]

def cutTok (t : Tok) (sz : Nat) (whole : Bool) : Tok := if whole then (match t with
  | .full => .full
  | .own t k => if k = sz then .own t k else .unk
  | _ => .unk) else .unk
def vslice (tab : Tab) (t : TypeId) (x : MV) (l h : Option MV) : Option MV :=
  match (tab t).map TyI.under, x with
  | some .string, .str s => match vbound 0 l, vbound s.length h with
    | some lo, some hi => if lo ≤ hi ∧ hi ≤ s.length then some (.str ((s.drop lo).take (hi - lo))) else none
    | _, _ => none
  | some (.slice el), .sl n cells tk => match tab el, vbound 0 l, vbound n h with
    | some te, some lo, some hi =>
      if lo = 0 ∧ hi = n then some (.sl n cells tk)
      else if lo ≤ hi ∧ hi ≤ n ∧ cells.length = n * te.size then some (.sl (hi - lo) ((cells.drop (lo * te.size)).take ((hi - lo) * te.size)) (cutTok tk te.size (hi == n))) else none
    | _, _, _ => none
  | some (.slice el), .asl k o n c => match tab el, vbound 0 l, vbound n h with
    | some te, some lo, some hi => if lo ≤ hi ∧ hi ≤ c then some (.asl k (if c = lo then o else o + lo * te.size) (hi - lo) (c - lo)) else none
    | _, _, _ => none
  | _, _ => none
theorem under_of (ht : TabOk P tab) {t : TypeId} {d : TypeDesc} (h : (tab t).map TyI.under = some d) : P.underlying t = some d := by
  obtain ⟨i, hi, hu⟩ := Option.map_eq_some_iff.1 h
  rw [← hu]; exact (ht t i hi).under
theorem vslice_ok (ht : TabOk P tab) {t : TypeId} {l hh : Option MV} {lv hv' : Option Value} (hv : vslice tab t m l hh = some m') (hx : VR G m u) (rl : VRo G l lv) (rh : VRo G hh hv') :
    GivesS P (Instr.sliceAt t u lv hv' none) G m' := by
  unfold vslice at hv
  split at hv
  · rename_i s hu
    have hun := under_of ht hu
    split at hv
    · rename_i lo hi h1 h2
      split at hv
      · rename_i hc
        injection hv with hv; subst hv
        cases hx
        refine GivesS.of (u := .string ⟨⟨(s.drop lo).take (hi - lo)⟩⟩) (fun w _ => ?_) .str
        have hb := run_bounds (P := P) false s.length s.length lo hi h1 h2 rl rh hc.1 hc.2
        have hs : (⟨⟨s⟩⟩ : ByteArray).size = s.length := rfl
        simp only [Instr.sliceAt, Instr.slice, Sem.run_bind, run_underlying hun, Result.andThen_ok, hs, hb, Option.isSome_none, Bool.false_eq_true, if_false, Sem.run_pure]
        have : (⟨⟨s⟩⟩ : ByteArray).extract lo hi = ⟨⟨(s.drop lo).take (hi - lo)⟩⟩ := ByteArray.ext (by simp [ByteArray.data_extract])
        rw [this]
      · cases hv
    · cases hv
  · rename_i el n' cells tk hu
    have hun := under_of ht hu
    split at hv
    · rename_i te lo hi he h1 h2
      have run : ∀ (A : Option Addr) (c : Nat), lo ≤ hi → hi ≤ c → ∀ w, (Instr.sliceAt t (.slice A n' c) lv hv' none).run P w = .ok (.slice (if c = lo then A else A.map (·.add (lo * te.size))) (hi - lo) (c - lo)) w := fun A c h3 h4 w => by
        have hb := run_bounds (P := P) true n' c lo hi h1 h2 rl rh h3 h4
        simp only [Instr.sliceAt, Instr.slice, Sem.run_bind, run_underlying hun, Result.andThen_ok, hb, run_sz (ht _ te he), Sem.run_pure]
      split at hv
      · rename_i hc
        injection hv with hv; subst hv
        obtain ⟨rfl, rfl⟩ := hc
        have fin : ∀ (A : Option Addr) (c : Nat), hi ≤ c → VR G (.sl hi cells tk) (.slice A hi c) → GivesS P (Instr.sliceAt t (.slice A hi c) lv hv' none) G (.sl hi cells tk) := fun A c hc hvr => by
          refine GivesS.of (fun w _ => run A c (Nat.zero_le _) hc w) ?_
          have : (if c = 0 then A else A.map (·.add (0 * te.size))) = A := by
            split
            · rfl
            · cases A <;> simp [Addr.add]
          rw [this]; simpa using hvr
        cases hx with
        | slnil => exact fin _ _ (Nat.le_refl _) .slnil
        | sl0 h3 => exact fin _ _ (Nat.zero_le _) (.sl0 h3)
        | sl0n => exact fin _ _ (Nat.le_refl _) .sl0n
        | sl h3 h4 h5 h6 h7 h8 => exact fin _ _ h6 (.sl h3 h4 h5 h6 h7 h8)
      · split at hv
        · rename_i hne hc
          injection hv with hv; subst hv
          cases hx with
          | slnil => exact absurd ⟨by omega, by omega⟩ hne
          | sl0 h3 => exact absurd ⟨by omega, by omega⟩ hne
          | sl0n => exact absurd ⟨by omega, by omega⟩ hne
          | sl h3 h4 h5 h6 h7 h8 =>
            rename_i us c b o
            refine GivesS.of (fun w _ => run _ c hc.1 (by omega) w) ?_
            have hus : ((us.drop (lo * te.size)).take ((hi - lo) * te.size)).length = ((cells.drop (lo * te.size)).take ((hi - lo) * te.size)).length := by simp [h3]
            have hvrs : ∀ (i : Nat) (c : MV) (u : Value), ((cells.drop (lo * te.size)).take ((hi - lo) * te.size))[i]? = some c → ((us.drop (lo * te.size)).take ((hi - lo) * te.size))[i]? = some u → VR G c u := fun i c u ha hb => by
              rw [List.getElem?_take] at ha hb
              split at ha
              · rw [if_pos ‹_›] at hb
                rw [List.getElem?_drop] at ha hb
                exact h5 _ c u ha hb
              · cases ha
            by_cases hcl : c = lo
            · subst hcl
              obtain rfl : hi = c := by omega
              rw [if_pos rfl]
              simp only [Nat.sub_self, Nat.zero_mul, List.take_zero]
              refine .sl (us := []) rfl (fun i u hu => by simp at hu) (fun i c u hu => by simp at hu) (Nat.le_refl _) (Nat.zero_le _) ?_
              unfold cutTok
              split
              · cases tk with
                | nil => exact h8.elim
                | full => rfl
                | own t k =>
                  simp only
                  split
                  · exact .inl rfl
                  · trivial
                | unk => trivial
              · trivial
            · rw [if_neg hcl]
              simp only [Option.map_some, Addr.add_lit]
              refine .sl hus (fun i u hu => ?_) hvrs (by omega) (by omega) ?_
              · rw [List.getElem?_take] at hu
                split at hu
                · rw [List.getElem?_drop] at hu
                  rw [Nat.add_assoc]; exact h4 _ u hu
                · cases hu
              · unfold cutTok
                split
                · rename_i hw
                  have hw : hi = n' := by simpa using hw
                  subst hw
                  have hmul : (hi - lo) * te.size = cells.length - lo * te.size := by rw [hc.2.2, Nat.sub_mul]
                  have hl2 : ((cells.drop (lo * te.size)).take ((hi - lo) * te.size)).length = (hi - lo) * te.size := by simp; omega
                  have hle : lo * te.size ≤ hi * te.size := Nat.mul_le_mul_right _ hc.1
                  cases tk with
                  | nil => exact h8.elim
                  | full => show c - lo = hi - lo; have : c = hi := h8; omega
                  | own t k =>
                    simp only
                    split
                    · rename_i hk
                      subst hk
                      rcases h8 with h8 | ⟨r, h9, h10, h11⟩
                      · exact .inl (by omega)
                      · refine .inr ⟨r, ?_, hl2, by omega⟩
                        rw [h9, hl2]; congr 2; congr 1
                        omega
                    · trivial
                  | unk => trivial
                · trivial
        · cases hv
    · cases hv
  · rename_i el k o n' c hu
    have hun := under_of ht hu
    split at hv
    · rename_i te lo hi he h1 h2
      split at hv
      · rename_i hc
        injection hv with hv; subst hv
        cases hx with
        | asl h3 h4 h5 =>
          rename_i b
          have hb := run_bounds (P := P) true n' c lo hi h1 h2 rl rh hc.1 (by omega)
          refine GivesS.of (u := .slice (if c = lo then some ⟨b, o, none⟩ else (some (⟨b, o, none⟩ : Addr)).map (·.add (lo * te.size))) (hi - lo) (c - lo)) (fun w _ => ?_) ?_
          · simp only [Instr.sliceAt, Instr.slice, Sem.run_bind, run_underlying hun, Result.andThen_ok, hb, run_sz (ht _ te he), Sem.run_pure]
          · split
            · exact .asl h3 (by omega) (by omega)
            · simp only [Option.map_some, Addr.add_lit]; exact .asl h3 (by omega) (by omega)
      · cases hv
    · cases hv
  · cases hv

def cut0 : Tok → Tok
  | .nil => .nil
  | _ => .unk
/-- A slice with its room cut. -/
def vslice3 (tab : Tab) (t : TypeId) (x : MV) (l : Option MV) (h mx : MV) : Option MV :=
  match (tab t).map TyI.under, h, mx with
  | some (.slice el), .v (.int _ hi), .v (.int _ m) => match tab el, vbound 0 l with
    | some te, some lo => if 0 ≤ hi ∧ 0 ≤ m ∧ lo ≤ hi.toNat ∧ hi.toNat ≤ m.toNat then (match x with
      | .asl k o _ c => if m.toNat ≤ c then some (.asl k (if m.toNat = lo then o else o + lo * te.size) (hi.toNat - lo) (m.toNat - lo)) else none
      | .sl n cells tk => if m.toNat ≤ n ∧ cells.length = n * te.size then (if n = 0 then some (.sl 0 [] (cut0 tk)) else if m.toNat = lo then none else some (.sl (hi.toNat - lo) ((cells.drop (lo * te.size)).take ((hi.toNat - lo) * te.size)) (if m.toNat = hi.toNat then .full else .unk))) else none
      | _ => none) else none
    | _, _ => none
  | _, _, _ => none
theorem vslice3_ok (ht : TabOk P tab) {t : TypeId} {l : Option MV} {hh mx : MV} {lv : Option Value} {hv' mv : Value} (hv : vslice3 tab t m l hh mx = some m') (hx : VR G m u) (rl : VRo G l lv) (rh : VR G hh hv') (rm : VR G mx mv) :
    GivesS P (Instr.sliceAt t u lv (some hv') (some mv)) G m' := by
  unfold vslice3 at hv
  split at hv
  · rename_i el k1 hi k2 mi hu
    have hun := under_of ht hu
    cases rh; cases rm
    split at hv
    · rename_i te lo he h1
      split at hv
      · rename_i hc
        obtain ⟨c1, c2, c3, c4⟩ := hc
        have hlo : lv = none ∧ lo = 0 ∨ ∃ kk, lv = some (.int kk (lo : Int)) := by
          cases l <;> cases lv <;> simp only [VRo] at rl
          · simp only [vbound, Option.some.injEq] at h1; exact .inl ⟨rfl, h1.symm⟩
          · obtain ⟨kk, rfl⟩ := vbound_some h1 rl; exact .inr ⟨kk, rfl⟩
        have run : ∀ (A : Option Addr) (n' c : Nat), mi.toNat ≤ c → ∀ w, (Instr.sliceAt t (.slice A n' c) lv (some (.int k1 hi)) (some (.int k2 mi))).run P w = .ok (.slice (if mi.toNat = lo then A else A.map (·.add (lo * te.size))) (hi.toNat - lo) (mi.toNat - lo)) w := fun A n' c h3 w => by
          have e1 := run_sliceBound (P := P) w k2 mi c .slice3Acap c2 (by omega)
          have e2 := run_sliceBound (P := P) w k1 hi mi.toNat .slice3B c1 (by omega)
          have hb : (Instr.sliceBounds true n' c lv (some (.int k1 hi)) (some (.int k2 mi))).run P w = .ok (lo, hi.toNat, mi.toNat) w := by
            rcases hlo with ⟨rfl, rfl⟩ | ⟨kk, rfl⟩
            · simp [Instr.sliceBounds, e1, e2]
            · have e3 := run_sliceBound (P := P) w kk (lo : Int) hi.toNat .slice3C (by omega) (by omega)
              simp [Instr.sliceBounds, e1, e2, e3]
          simp only [Instr.sliceAt, Instr.slice, Sem.run_bind, run_underlying hun, Result.andThen_ok, hb, run_sz (ht _ te he), Sem.run_pure]
        split at hv
        · rename_i k o n' c
          split at hv
          · rename_i hcc
            injection hv with hv; subst hv
            cases hx with
            | asl h3 h4 h5 =>
              rename_i b
              refine GivesS.of (fun w _ => run _ n' c hcc w) ?_
              split
              · exact .asl h3 (by omega) (by omega)
              · simp only [Option.map_some, Addr.add_lit]; exact .asl h3 (by omega) (by omega)
          · cases hv
        · rename_i n' cells tk
          split at hv
          · rename_i hcc
            split at hv
            · rename_i hn
              subst hn
              injection hv with hv; subst hv
              have e0 : mi.toNat = 0 := by omega
              have e1 : hi.toNat = 0 := by omega
              have e2 : lo = 0 := by omega
              have fin : ∀ A c, VR G (.sl 0 [] (cut0 tk)) (.slice A 0 0) → GivesS P (Instr.sliceAt t (.slice A 0 c) lv (some (.int k1 hi)) (some (.int k2 mi))) G (.sl 0 [] (cut0 tk)) := fun A c hr => by
                refine GivesS.of (u := .slice A 0 0) (fun w _ => ?_) hr
                rw [run A 0 c (by omega) w, e0, e1, e2]
                simp
              cases hx with
              | slnil => exact fin _ _ .slnil
              | sl0 h3 => exact fin _ _ (.sl0 (Nat.zero_le _))
              | sl0n => exact fin _ _ .sl0n
              | sl h3 h4 h5 h6 h7 h8 =>
                cases tk with
                | nil => exact h8.elim
                | _ => exact fin _ _ (.sl0 (Nat.zero_le _))
            · rename_i hn
              split at hv
              · cases hv
              · rename_i hml
                injection hv with hv; subst hv
                cases hx with
                | slnil => exact absurd rfl hn
                | sl0 h3 => exact absurd rfl hn
                | sl0n => exact absurd rfl hn
                | sl h3 h4 h5 h6 h7 h8 =>
                  rename_i us c b o
                  refine GivesS.of (fun w _ => run _ n' c (by omega) w) ?_
                  rw [if_neg hml]
                  simp only [Option.map_some, Addr.add_lit]
                  refine .sl (us := (us.drop (lo * te.size)).take ((hi.toNat - lo) * te.size)) (by simp [h3]) (fun i u hu => ?_) (fun i c u ha hb => ?_) (by omega) (by omega) ?_
                  · rw [List.getElem?_take] at hu
                    split at hu
                    · rw [List.getElem?_drop] at hu
                      rw [Nat.add_assoc]; exact h4 _ u hu
                    · cases hu
                  · rw [List.getElem?_take] at ha hb
                    split at ha
                    · rw [if_pos ‹_›] at hb
                      rw [List.getElem?_drop] at ha hb
                      exact h5 _ c u ha hb
                    · cases ha
                  · split
                    · rename_i e; show mi.toNat - lo = hi.toNat - lo; rw [e]
                    · trivial
          · cases hv
        · cases hv
      · cases hv
    · cases hv
  · cases hv

/-! ### make -/
def vmakeSlice (tab : Tab) (O : VH) (t : TypeId) (l c : MV) : Option (MV × VH) :=
  match (tab t).map TyI.under, l, c with
  | some (.slice el), .v (.int _ i), .v (.int _ j) => match tab el with
    | some te => if 0 ≤ i ∧ i ≤ j ∧ j ≤ 9223372036854775807 ∧ te.bytes * j ≤ 281474976710656 ∧ 0 < te.zero.length then some (.asl O.next 0 i.toNat j.toNat, O.push (.cells (vzeros te.zero (j.toNat * te.size)))) else none
    | none => none
  | _, _, _ => none
theorem wrap_i64_id {i : Int} (h0 : 0 ≤ i) (h1 : i ≤ 9223372036854775807) : IntKind.i64.wrap i = i := by
  rw [IntKind.wrap_i64]
  omega
theorem vmakeSlice_ok (ht : TabOk P tab) (h : WR G O w) {t : TypeId} {l c : MV} {lv cv : Value} (hv : vmakeSlice tab O t l c = some (m, O')) (hl : VR G l lv) (hc : VR G c cv) : Gives P (Instr.makeSlice t lv cv) w G O' m := by
  unfold vmakeSlice at hv
  split at hv
  · rename_i el k i k' j hu
    cases hl; cases hc
    have hun := under_of ht hu
    split at hv
    · rename_i te he
      split at hv
      · rename_i hb
        injection hv with hv
        simp only [Prod.mk.injEq] at hv
        obtain ⟨rfl, rfl⟩ := hv
        have hte := ht _ te he
        obtain ⟨ti, z, h1, h2, h3, h4, h5, h6⟩ := hte.info
        have hr := run_make (P := P) w t el ti z hun h1 h4 k k' i j hb.1 hb.2.1 (by rw [h3]; exact hb.2.2.2.1) hb.2.2.1
        rw [h2] at hr
        have hz := vzeros_ok (h6 G) hb.2.2.2.2 (j.toNat * te.size)
        obtain ⟨h7, h8⟩ := h.push el hz
        exact ⟨_, _, _, hr, h7, h8, .asl (upd_same _ _ _) (by omega) (by simp only [maxLen]; omega), KeepB.alloc h _⟩
      · cases hv
    · cases hv
  · cases hv

/-! ### append -/
def vappend (tab : Tab) (O : VH) (t : TypeId) (x y : MV) : Option (MV × VH) :=
  match (tab t).map TyI.under, y with
  | some (.slice el), .sl k ds _ => match tab el, x with
    | some te, .sl n cells tk =>
      if ds.length = k * te.size ∧ ds.all leafB = true ∧ 0 < te.size then
        if k = 0 then some (.sl n cells tk, O)
        else if cells.length = n * te.size ∧ (n + k) * te.bytes ≤ 140737488355328 ∧ n + k ≤ maxLen then
          match tk with
          | .nil => some (.sl (n + k) (cells ++ ds) (.own O.next te.size), O.push .tok)
          | .full => some (.sl (n + k) (cells ++ ds) (.own O.next te.size), O.push .tok)
          | .own s k' => if k' = te.size then match O.hp s with
            | some .tok => some (.sl (n + k) (cells ++ ds) (.own O.next te.size), (O.kill s).push .tok)
            | _ => none
            else none
          | .unk => none
        else none
      else none
    | _, _ => none
  | _, _ => none

/-- A new row, its first cells for good, room behind them. -/
theorem grown_ok (h : WR G O w) {cs : List MV} {us : List Value} {N k r : Nat} {R : Array Value} {el : TypeId} (hc : VRs G cs us) (hl : cs.length = N * k) (hR : R.size = r * k) (hm : N + r ≤ maxLen) :
    ∃ K, G.Le K ∧ WR K (O.push .tok) (w.alloc (.cells (us.toArray ++ R) el)) ∧ VR K (.sl N cs (.own O.next k)) (.slice (some ⟨w.heap.size, 0, none⟩) N (N + r)) := by
  have hg := h.grow (.cells (us.toArray ++ R) el)
  have hul : us.length = N * k := by rw [hc.1, hl]
  have hcell : ∀ o u, (if o < N * k then us[o]? else none) = some u → (w.alloc (.cells (us.toArray ++ R) el)).cell? ⟨w.heap.size, o, none⟩ = some u := fun o u ho => by
    rw [cell_new]
    split at ho
    · rw [Array.getElem?_append_left (by simp; omega)]; simpa using ho
    · cases ho
  obtain ⟨h1, h2⟩ := hg.commit (b := w.heap.size) (f := fun o => if o < N * k then us[o]? else none) (fun o u hc => by rw [h.com_size] at hc; cases hc) hcell (fun k _ => h.phi_ne_size k)
    fun t c x ht hx e => absurd e (h.tok_ne_size ht hx)
  have hb : (w.alloc (.cells (us.toArray ++ R) el)).heap[w.heap.size]? = some (.cells (us.toArray ++ R) el (0, 0)) := by rw [heap_alloc_eq, if_pos rfl]
  obtain ⟨h3, h4⟩ := h2.addTok (b := w.heap.size) (f := N * k) (k := k) (r := r) (C := us.toArray ++ R) (T := el) h.bsz hb (by simp [hul, hR])
    (fun o ho => by
      show (if w.heap.size = w.heap.size then (if o < N * k then us[o]? else none) else _) = none
      rw [if_pos rfl, if_neg (by omega)])
    h.phi_ne_size (fun t c x ht hx => h.tok_ne_size ht hx)
  refine ⟨_, h1.trans h3, h4, ?_⟩
  refine .sl (us := us) hc.1 (fun i u hu => ?_) (fun i c u a b => (hc.2 i c u a b).mono (h1.trans h3)) (by omega) hm ?_
  · show (if w.heap.size = w.heap.size then (if 0 + i < N * k then us[0 + i]? else none) else _) = some u
    have := (List.getElem?_eq_some_iff.1 hu).1
    rw [if_pos rfl, Nat.zero_add, if_pos (by omega)]; exact hu
  · refine .inr ⟨r, ?_, hl, rfl⟩
    show upd _ _ _ _ = _
    rw [upd_same, Nat.zero_add, hl]

/-- A block of no live one, of no live token, is written behind what is for good. -/
theorem WR.setRow (h : WR G O w) {b : Nat} {C C' : Array Value} {T : TypeId} (hB : G.B ≤ b) (hb : w.heap[b]? = some (.cells C T (0, 0))) (hphi : ∀ j, G.phi j ≠ some b) (htok : ∀ t c x, O.hp t = some .tok → G.tok t = some (c, x) → c ≠ b)
    (hcom : ∀ o u, G.com b o = some u → C'[o]? = some u) : WR G O (w.setRow b C') := by
  have hsame := setRow_heap w b C C' T (0, 0) hb
  have hother : ∀ j, j ≠ b → (w.setRow b C').heap[j]? = w.heap[j]? := fun j hj => setRow_other w b j C' hj
  have hsz : (w.setRow b C').heap.size = w.heap.size := by simp [World.setRow]
  refine ⟨⟨h.base.os, h.base.tape, h.base.output, by rw [hsz]; exact h.base.size, fun j hj => by rw [hother j (by have : j < G.B := hj; omega)]; exact h.base.block j hj⟩, fun b' o u hc => ?_, h.dom, fun k c hk => ?_, h.inj, fun k cs hk => ?_, fun k es ck hk => ?_, fun t ht => ?_, h.tinj, h.shpOf id (fun _ _ _ _ h => h) fun k b' s hk hs => shape_heap (fun x hx => by rw [hother _ (fun e => hphi k (e ▸ hk))]; exact hx) hs⟩
  · by_cases e : b' = b
    · subst e; rw [cell_setRow_same w b' o C C' T (0, 0) hb]; exact hcom o u hc
    · rw [cell_setRow_other w b C' _ e]; exact h.com b' o u hc
  · obtain ⟨h1, h2, h3⟩ := h.plt k c hk
    exact ⟨h1, by rw [hsz]; exact h2, h3⟩
  · obtain ⟨c, D, T', h1, h2, h3⟩ := h.cells k cs hk
    exact ⟨c, D, T', h1, by rw [hother c (fun e => hphi k (e ▸ h1))]; exact h2, h3⟩
  · obtain ⟨c, E, h1, h2, h3⟩ := h.map k es ck hk
    exact ⟨c, E, h1, by rw [hother c (fun e => hphi k (e ▸ h1))]; exact h2, h3⟩
  · obtain ⟨c, f, k, r, D, T', h1, h2, h3, h4⟩ := h.tok t ht
    exact ⟨c, f, k, r, D, T', h1, h2, by rw [hother c (htok t c _ ht h1)]; exact h3, h4⟩

/-- What is appended, read. -/
theorem source_ok (h : WR G O w) {k sz : Nat} {ds : List MV} {tk : Tok} (hy : VR G (.sl k ds tk) v) (hl : ds.length = k * sz) (hk : k ≠ 0) :
    ∃ ad c us, v = .slice (some ad) k c ∧ VRs G ds us ∧ us.length = k * sz ∧ ∀ j u, us[j]? = some u → w.cell? (ad.add j) = some u := by
  cases hy with
  | slnil => exact absurd rfl hk
  | sl0 h1 => exact absurd rfl hk
  | sl0n => exact absurd rfl hk
  | sl h1 h2 h3 h4 h5 h6 => exact ⟨_, _, _, rfl, ⟨h1, h3⟩, by rw [h1, hl], fun j u hu => by rw [Addr.add_lit]; exact h.com _ _ _ (h2 j u hu)⟩
theorem size_zc (z : Array Value) (n : Nat) : (Builtin.zeroCells z n).size = n * z.size := by simp [Builtin.zeroCells]

theorem append_none (h : WR G O w) {t ty el : TypeId} {te : TyI} (ht : P.underlying t = some (.slice el)) (hte : TyOk P el te) {n : Nat} {cells ds : List MV} {tk tk' : Tok} (hx : VR G (.sl n cells tk) u) (hy : VR G (.sl 0 ds tk') v) :
    (Builtin.append_ #[t, t] ty #[u, v]).run P w = .ok u w := by
  obtain ⟨ti, hti, _⟩ := run_ti hte w
  have run : ∀ (A B : Option Addr) (k c c' : Nat), k ≤ c → (A = none → k = 0) → (Builtin.append_ #[t, t] ty #[.slice A k c, .slice B 0 c']).run P w = .ok (.slice A k c) w := fun A B k c c' hc hA => by
    have hf : (Builtin.firstCells te.size 0 (.slice B 0 c')).run P w = .ok #[] w := by
      cases B with
      | none => simp [Builtin.firstCells]
      | some b => simp [Builtin.firstCells, loadCells, loadCellsFrom]
    have hn : ¬ (c < k) := by omega
    cases A with
    | none => simp [Builtin.append_, run_underlying ht, run_sz hte, Builtin.lenOf, hf, hc]
    | some a => simp [Builtin.append_, run_underlying ht, run_sz hte, Builtin.lenOf, hf, hc, storeCells]
  have hu : ∃ A c, u = .slice A n c ∧ n ≤ c ∧ (A = none → n = 0) := by
    cases hx with
    | slnil => exact ⟨_, _, rfl, Nat.le_refl _, fun _ => rfl⟩
    | sl0 h1 => exact ⟨_, _, rfl, Nat.zero_le _, fun _ => rfl⟩
    | sl0n => exact ⟨_, _, rfl, Nat.le_refl _, fun _ => rfl⟩
    | sl h1 h2 h3 h4 h5 h6 => exact ⟨_, _, rfl, h4, fun h => by cases h⟩
  have hv : ∃ B c', v = .slice B 0 c' := by
    cases hy with
    | slnil => exact ⟨_, _, rfl⟩
    | sl0 h1 => exact ⟨_, _, rfl⟩
    | sl0n => exact ⟨_, _, rfl⟩
    | sl h1 h2 h3 h4 h5 h6 => exact ⟨_, _, rfl⟩
  obtain ⟨A, c, rfl, h1, h2⟩ := hu
  obtain ⟨B, c', rfl⟩ := hv
  exact run A B n c c' h1 h2

theorem append_grow (h : WR G O w) {t ty el : TypeId} {te : TyI} (ht : P.underlying t = some (.slice el)) (hte : TyOk P el te) {n k c : Nat} {cells ds : List MV} {tk' : Tok} {A : Option Addr} {us : List Value}
    (hA : A = none → n = 0 ∧ c = 0) (hus : VRs G cells us) (hul : us.length = n * te.size) (hcell : ∀ ad, A = some ad → ∀ j u, us[j]? = some u → w.cell? (ad.add j) = some u) (hy : VR G (.sl k ds tk') v) (hl : ds.length = k * te.size) (hk : k ≠ 0)
    (hc : c < n + k) (hb : (n + k) * te.bytes ≤ 140737488355328) (hm : n + k ≤ maxLen) :
    Gives P (Builtin.append_ #[t, t] ty #[.slice A n c, v]) w G (O.push .tok) (.sl (n + k) (cells ++ ds) (.own O.next te.size)) := by
  obtain ⟨ti, z, h1, h2, h3, h4, h5, h6⟩ := hte.info
  obtain ⟨ad, c', vs, rfl, hvs, hvl, hvc⟩ := source_ok h hy hl hk
  have hsmall : n + k ≤ 9223372036854775807 := by simp only [maxLen] at hm; omega
  have hge := grownCap_ge w (n + k) c el
  have hle := grownCap_le_maxLen w (n + k) c el hm
  have hcl : (cells ++ ds).length = (n + k) * te.size := by rw [List.length_append, ← hus.1, hul, hl, Nat.add_mul]
  obtain ⟨K, g1, g2, g3⟩ := grown_ok (r := grownCap w (n + k) c el - (n + k)) (R := Builtin.zeroCells z.cells (grownCap w (n + k) c el - (n + k))) (el := el) h.drew (hus.append hvs) hcl (by rw [size_zc, h5]) (by omega)
  rw [show n + k + (grownCap w (n + k) c el - (n + k)) = grownCap w (n + k) c el from by omega] at g3
  refine ⟨_, _, K, ?_, g1, g2, g3, KeepB.alloc h.drew _⟩
  cases A with
  | none =>
    obtain ⟨rfl, rfl⟩ := hA rfl
    have : us = [] := List.eq_nil_of_length_eq_zero (by simpa using hul)
    subst this
    have hr := run_append_nil (P := P) w t ty el ti z ht h1 h4 ad k c' vs (by rw [h2, hvl]) hvc (by omega) (by omega) (by rw [h3]; simp only [Nat.zero_add] at hb; omega)
    simpa using hr
  | some a =>
    have hr := run_append_grow (P := P) w t ty el ti z ht h1 h4 a n c us (by rw [h2, hul]) (hcell a rfl) ad k c' vs (by rw [h2, hvl]) hvc hc (by omega) (by rw [h3]; exact growslice_fits (by omega) hb)
    simpa using hr

theorem append_room (h : WR G O w) {t ty el : TypeId} {te : TyI} (ht : P.underlying t = some (.slice el)) (hte : TyOk P el te) {n k s b o r : Nat} {cells ds : List MV} {tk' : Tok} {us : List Value}
    (hs : O.hp s = some .tok) (hg : G.tok s = some (b, o + cells.length, te.size, r)) (hus : VRs G cells us) (hul : cells.length = n * te.size) (hcom : ∀ i u, us[i]? = some u → G.com b (o + i) = some u)
    (hy : VR G (.sl k ds tk') v) (hl : ds.length = k * te.size) (hlf : ds.all leafB = true) (hk : k ≠ 0) (hc : n + k ≤ n + r) (hm : n + r ≤ maxLen) :
    Gives P (Builtin.append_ #[t, t] ty #[.slice (some ⟨b, o, none⟩) n (n + r), v]) w G ((O.kill s).push .tok) (.sl (n + k) (cells ++ ds) (.own O.next te.size)) := by
  obtain ⟨ti, z, i1, i2, i3, i4, i5, i6⟩ := hte.info
  obtain ⟨ad, c', vs, rfl, hvs, hvl, hvc⟩ := source_ok h hy hl hk
  obtain ⟨b', f, k', r', C, T, t1, t2, t3, t4, t5, t6⟩ := h.tok s hs
  rw [hg] at t1
  simp only [Option.some.injEq, Prod.mk.injEq] at t1
  obtain ⟨rfl, rfl, rfl, rfl⟩ := t1
  have hkr : k * te.size ≤ r * te.size := Nat.mul_le_mul_right _ (by omega)
  have hone := leafs_one hvs hlf
  have hfirst := run_firstCells_some (P := P) w te.size k ad k c' vs hvl hvc
  have hst := run_storeCells_at P b (o + cells.length) T vs 0 C w t3 (by rw [Nat.add_zero, hvl]; omega) hone
  have hrun : (Builtin.append_ #[t, t] ty #[.slice (some ⟨b, o, none⟩) n (n + r), .slice (some ad) k c']).run P w =
      .ok (.slice (some ⟨b, o, none⟩) (n + k) (n + r)) (w.setRow b (C.toList.take (o + cells.length + 0) ++ vs ++ C.toList.drop (o + cells.length + 0 + vs.length)).toArray) := by
    have hn : k ≤ r := by omega
    rw [hul] at hst
    simp only [Builtin.append_, run_underlying ht, run_sz hte, Builtin.lenOf, hfirst, Sem.run_bind, Result.andThen_ok, Sem.run_pure, List.getElem?_toArray, Addr.add_lit, hst, hul] <;> simp [run_underlying ht, run_sz hte, Builtin.lenOf, hfirst, hst, hn, hul, Addr.add_lit]
  simp only [Nat.add_zero] at hrun
  generalize hC' : (C.toList.take (o + cells.length) ++ vs ++ C.toList.drop (o + cells.length + vs.length)).toArray = C' at hrun
  have hfs : o + cells.length ≤ C.size := by omega
  have htl : (C.toList.take (o + cells.length)).length = o + cells.length := by simp; omega
  have hC1 : ∀ i, i < o + cells.length → C'[i]? = C[i]? := fun i hi => by
    rw [← hC', List.getElem?_toArray, List.append_assoc, List.getElem?_append_left (by omega), List.getElem?_take, if_pos hi]; simp
  have hC2 : ∀ i u, vs[i]? = some u → C'[o + cells.length + i]? = some u := fun i u hu => by
    have hi := (List.getElem?_eq_some_iff.1 hu).1
    rw [← hC', List.getElem?_toArray, List.append_assoc, List.getElem?_append_right (by omega), htl, Nat.add_sub_cancel_left, List.getElem?_append_left hi]; exact hu
  have hC3 : C'.size = C.size := by rw [← hC']; simp; omega
  have hk1 := h.kill s
  have hnone : ∀ t c x, (O.kill s).hp t = some .tok → G.tok t = some (c, x) → c ≠ b := fun t c x htk htc e => by
    subst e
    have hts : t ≠ s := fun e => by subst e; rw [show (O.kill t).hp t = none from upd_same _ _ _] at htk; cases htk
    rw [show (O.kill s).hp t = O.hp t from upd_other _ _ hts] at htk
    exact hts (h.tinj t s c x _ htk hs htc hg)
  have hrow := hk1.setRow (C' := C') t2 t3 t6 hnone (fun i u hu => by
    have hi : i < o + cells.length := by
      rcases Nat.lt_or_ge i (o + cells.length) with h' | h'
      · exact h'
      · rw [t5 i h'] at hu; cases hu
    rw [hC1 i hi]
    have := h.com b i u hu
    simpa [World.cell?, t3] using this)
  have hb' := setRow_heap w b C C' T (0, 0) t3
  have hcell' : ∀ i u, C'[i]? = some u → (w.setRow b C').cell? ⟨b, i, none⟩ = some u := fun i u hu => by rw [cell_setRow_same w b i C C' T (0, 0) t3]; exact hu
  obtain ⟨g1, g2⟩ := hrow.commit (b := b) (f := fun i => if i < o + cells.length then G.com b i else if i < o + cells.length + vs.length then C'[i]? else none)
    (fun i u hu => by
      have hi : i < o + cells.length := by
        rcases Nat.lt_or_ge i (o + cells.length) with h' | h'
        · exact h'
        · rw [t5 i h'] at hu; cases hu
      rw [if_pos hi]; exact hu)
    (fun i u hu => by
      split at hu
      · exact hrow.com b i u hu
      · split at hu
        · exact hcell' i u hu
        · cases hu)
    (fun k _ => t6 k) (fun t c x htk htc e => absurd e (hnone t c _ htk htc))
  have hkn : (O.kill s).next = O.next := rfl
  obtain ⟨g3, g4⟩ := g2.addTok (b := b) (f := o + cells.length + vs.length) (k := te.size) (r := r - k) (C := C') (T := T) t2 hb'
    (by
      rw [hC3, hvl]
      have : (r - k) * te.size = r * te.size - k * te.size := Nat.sub_mul _ _ _
      omega)
    (fun i hi => by
      show (if b = b then (if i < o + cells.length then G.com b i else if i < o + cells.length + vs.length then C'[i]? else none) else _) = none
      rw [if_pos rfl, if_neg (by omega), if_neg (by omega)])
    t6 (fun t c x htk htc => hnone t c x htk htc)
  refine ⟨_, _, _, hrun, g1.trans g3, g4, ?_, fun k b' hk' => setRow_other w b b' C' (fun e => t6 k (e ▸ hk'))⟩
  have hboth := hus.append hvs
  refine .sl (us := us ++ vs) hboth.1 (fun i u hu => ?_) (fun i c u a b' => (hboth.2 i c u a b').mono (g1.trans g3)) (by omega) hm ?_
  · show (if b = b then (if o + i < o + cells.length then G.com b (o + i) else if o + i < o + cells.length + vs.length then C'[o + i]? else none) else _) = some u
    rw [if_pos rfl]
    rw [List.getElem?_append] at hu
    split at hu
    · rename_i hi
      rw [hus.1] at hi
      rw [if_pos (by omega)]
      exact hcom i u hu
    · rename_i hi
      have hi2 := (List.getElem?_eq_some_iff.1 hu).1
      rw [hus.1] at hi hi2 hu
      rw [if_neg (by omega), if_pos (by omega)]
      have := hC2 _ u hu
      rw [← this]; congr 1; omega
  · refine .inr ⟨r - k, ?_, ?_, by omega⟩
    · show upd _ _ _ _ = _
      rw [hkn, upd_same]
      simp only [List.length_append, hvs.1]
      congr 2; congr 1; omega
    · rw [List.length_append, hul, hl, Nat.add_mul]

theorem vappend_ok (ht : TabOk P tab) (h : WR G O w) {t ty : TypeId} {x y : MV} (hv : vappend tab O t x y = some (m, O')) (hx : VR G x u) (hy : VR G y v) : Gives P (Builtin.append_ #[t, t] ty #[u, v]) w G O' m := by
  unfold vappend at hv
  split at hv
  · rename_i el k ds tk' hu
    have hun := under_of ht hu
    split at hv
    · rename_i te n cells tk he
      have hte := ht _ te he
      split at hv
      · rename_i hc
        split at hv
        · rename_i hk
          simp only [Option.some.injEq, Prod.mk.injEq] at hv
          obtain ⟨rfl, rfl⟩ := hv
          subst hk
          exact Gives.of h (append_none h hun hte hx hy) hx
        · rename_i hk
          split at hv
          · rename_i hc2
            have grow : ∀ (A : Option Addr) (c : Nat) (us : List Value), (A = none → n = 0 ∧ c = 0) → VRs G cells us → (∀ ad, A = some ad → ∀ j u, us[j]? = some u → w.cell? (ad.add j) = some u) → c < n + k →
                Gives P (Builtin.append_ #[t, t] ty #[.slice A n c, v]) w G (O.push .tok) (.sl (n + k) (cells ++ ds) (.own O.next te.size)) := fun A c us a1 a2 a3 a4 =>
              append_grow h hun hte a1 a2 (by rw [a2.1, hc2.1]) a3 hy hc.1 hk a4 hc2.2.1 hc2.2.2
            split at hv
            · simp only [Option.some.injEq, Prod.mk.injEq] at hv
              obtain ⟨rfl, rfl⟩ := hv
              cases hx with
              | slnil => exact grow none 0 [] (fun _ => ⟨rfl, rfl⟩) VRs.nil (fun _ h => by cases h) (by omega)
              | sl h1 h2 h3 h4 h5 h6 => exact h6.elim
            · simp only [Option.some.injEq, Prod.mk.injEq] at hv
              obtain ⟨rfl, rfl⟩ := hv
              cases hx with
              | sl h1 h2 h3 h4 h5 h6 =>
                rename_i us c b o
                have h6 : c = n := h6
                exact grow _ c us (fun h => by cases h) ⟨h1, h3⟩ (fun ad e j u hj => by injection e with e; subst e; rw [Addr.add_lit]; exact h.com _ _ _ (h2 j u hj)) (by omega)
            · rename_i s k'
              split at hv
              · rename_i hkk
                subst hkk
                split at hv
                · rename_i hs
                  simp only [Option.some.injEq, Prod.mk.injEq] at hv
                  obtain ⟨rfl, rfl⟩ := hv
                  cases hx with
                  | sl h1 h2 h3 h4 h5 h6 =>
                    rename_i us c b o
                    have growK : c < n + k → Gives P (Builtin.append_ #[t, t] ty #[.slice (some ⟨b, o, none⟩) n c, v]) w G ((O.kill s).push .tok) (.sl (n + k) (cells ++ ds) (.own O.next te.size)) := fun hlt =>
                      append_grow (O := O.kill s) (h.kill s) hun hte (A := some ⟨b, o, none⟩) (us := us) (fun h => by cases h) ⟨h1, h3⟩ (by rw [h1, hc2.1]) (fun ad e j u hj => by injection e with e; subst e; rw [Addr.add_lit]; exact h.com _ _ _ (h2 j u hj)) hy hc.1 hk hlt hc2.2.1 hc2.2.2
                    rcases h6 with h6 | ⟨r, h7, h8, h9⟩
                    · exact growK (by omega)
                    · by_cases hr : n + k ≤ c
                      · subst h9
                        exact append_room h hun hte hs h7 ⟨h1, h3⟩ hc2.1 (fun i u hi => h2 i u hi) hy hc.1 hc.2.1 hk hr h5
                      · exact growK (by omega)
                · cases hv
              · cases hv
            · cases hv
          · cases hv
      · cases hv
    · cases hv
  · cases hv
end
end Go.Proofs.YtjbpnhmjnkolbaaDoor
