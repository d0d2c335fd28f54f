/-
  THE VALUE MACHINE, 17: steps of which the world chooses something; texts and rows of bytes.
-/
import Derived.Test.YtjbpnhmjnkolbaaDoorVe
import Derived.Lib.ConvBytes
import Derived.Laws.BytesString
set_option linter.unusedVariables false
set_option linter.unusedSimpArgs false
namespace Go.Proofs.YtjbpnhmjnkolbaaDoor
open Go.RowKit

section
variable {G H : Gh} {n : Nat} {D : List Deferred} {e : Env} {a : Act} {P : Program} {tab : Tab} {O O' : VH} {w : World} {m m' : MV} {u v : Value} {ops : Array Oper} {Q : VQ}

/-- What an operation may give, whatever the world chooses. -/
def YieldsN (P : Program) (n : Nat) (D : List Deferred) (o : Oper) (e : Env) (O : VH) (M : MV → VH → Prop) : Prop := ∀ G a w, WR G O w → FR G n D e a → ∃ m O', M m O' ∧ Yields' P o a w G m O'
theorem VOps.stepN {i : Nat} {l : List Nat} {o : Oper} {M : MV → VH → Prop} (ho : ops[i]? = some o) (hg : vguard ops o e = some true) (hd : dstB n o.dst = true) (hy : YieldsN P n D o e O M) (h : ∀ m O', M m O' → VOps P n D ops l (putM o.dst m e) O' Q) :
    VOps P n D ops (i :: l) e O Q := by
  intro G a w hw hfr
  obtain ⟨m, O', hM, nx, w', H, u, hr, hnx, h1, h2, h3, _⟩ := hy G a w hw hfr
  simp only [wpOps, ho, vguard_ok hfr hg, if_true]
  refine .inl ?_
  unfold Oper.wp
  rw [hr]
  have hk : wpOps P ops (VPost G n D Q) l (a.put o.dst u) w' := by
    exact wpOps_imp (fun _ _ _ => VPost.le h1) l _ _ (h m O' hM H (a.put o.dst u) w' h2 ((hfr.mono h1).putM hd h3))
  rcases hnx with rfl | ⟨rfl, rfl⟩
  · exact hk
  · exact hk
theorem VL.stepN {o : Oper} {L : List (Fl × Oper)} {M : MV → VH → Prop} (hg : vguard ops o e = some true) (hd : dstB n o.dst = true) (hy : YieldsN P n D o e O M) (h : ∀ m O', M m O' → VL P n D .plain ops L (putM o.dst m e) O' Q) :
    VL P n D .plain ops ((.one, o) :: L) e O Q := by
  intro fuel listed ix hf hp
  match ix, hf with
  | (i, g) :: ix, hf =>
    obtain ⟨rfl, ho, hf⟩ := hf
    exact VOps.stepN ho hg hd hy fun m O' hM => h m O' hM 0 #[] ix hf (fun h => absurd rfl h)

/-! ### A text's bytes as a row that may be written -/
def byM (b : UInt8) : MV := .v (.int .u8 b.toNat)
theorem modify_push {α : Type} (l : Array α) (x : α) (f : α → α) : (l.push x).modify l.size f = l.push (f x) := by
  apply Array.ext_getElem?
  intro i
  simp only [Array.getElem?_modify, Array.getElem?_push]
  by_cases h : i = l.size
  · subst h; simp
  · rw [if_neg (Ne.symm h), if_neg h, if_neg h]
theorem freeze_alloc (w : World) (C : Array Value) (t : TypeId) : (w.alloc (.cells C t)).freeze ⟨w.heap.size, C.size, none⟩ 1 = w.alloc (.cells C t (C.size, C.size + 1)) := by
  simp [World.freeze, World.alloc, -World.alloc_eq, modify_push]
theorem bytes_VRs (l : List UInt8) : VRs G (l.map byM) (l.map fun b => Value.int .u8 b.toNat) := by
  induction l with
  | nil => exact VRs.nil
  | cons b l ih => exact VRs.cons (.v rfl) ih
/-- A text turned into a row of bytes. -/
theorem bytes_ok (ht : TabOk P tab) (h : WR G O w) {src dst el : TypeId} {l : List UInt8} (hs : (tab src).map TyI.under = some .string) (hd : (tab dst).map TyI.under = some (.slice el)) (he : (tab el).map TyI.under = some (.int .u8)) (hl : l.length ≤ maxLen) :
    ∃ c, l.length ≤ c ∧ c ≤ maxLen ∧ Gives P (convert src dst (.string ⟨⟨l⟩⟩)) w G (O.push (.cells (l.map byM))) (.asl O.next 0 l.length c) := by
  have hrun := Lib.run_convert_string_bytes w src dst el ⟨⟨l⟩⟩ (under_of ht hs) (under_of ht hd) (under_of ht he)
  have hsz : (⟨⟨l⟩⟩ : ByteArray).size = l.length := rfl
  rw [hsz] at hrun
  have hge := grownCap_ge w l.length 0 el
  have hle := grownCap_le_maxLen w l.length 0 el hl
  refine ⟨grownCap w l.length 0 el, hge, hle, ?_⟩
  have hcs : (Lib.bytesCells w el ⟨⟨l⟩⟩).toList.take (l.map byM).length = l.map fun b => Value.int .u8 b.toNat := by
    simp [Lib.bytesCells]
  obtain ⟨h1, h2⟩ := h.drew.pushF (cs := l.map byM) (C := Lib.bytesCells w el ⟨⟨l⟩⟩) ⟨el, ((Lib.bytesCells w el ⟨⟨l⟩⟩).size, (Lib.bytesCells w el ⟨⟨l⟩⟩).size + 1), .inr (Nat.le_refl _)⟩ (by rw [hcs]; exact bytes_VRs l)
  have hW : Lib.bytesWorld w el ⟨⟨l⟩⟩ = w.drew.alloc (.cells (Lib.bytesCells w el ⟨⟨l⟩⟩) el ((Lib.bytesCells w el ⟨⟨l⟩⟩).size, (Lib.bytesCells w el ⟨⟨l⟩⟩).size + 1)) := freeze_alloc w.drew _ _
  rw [hW] at hrun
  exact ⟨_, _, _, hrun, h1, h2, .asl (upd_same _ _ _) hge hle, fun k b hk => KeepB.alloc h.drew _ k b hk⟩
theorem VL.bytes (ht : TabOk P tab) {d : Option Tmp} {src dst el : TypeId} {x : Operand} {ty : TypeId} {ps : String} {af : Array Edge} {g : Option (Nat × Bool)} {L : List (Fl × Oper)} {l : List UInt8}
    (hg : vguard ops (.mk d (.convert src dst x) ty ps af g) e = some true) (hx : ev e x = some (.str l)) (hs : (tab src).map TyI.under = some .string) (hds : (tab dst).map TyI.under = some (.slice el)) (he : (tab el).map TyI.under = some (.int .u8)) (hl : l.length ≤ maxLen) (hd : dstB n d = true)
    (h : ∀ c, l.length ≤ c → c ≤ maxLen → VL P n D .plain ops L (putM d (.asl O.next 0 l.length c) e) (O.push (.cells (l.map byM))) Q) :
    VL P n D .plain ops ((.one, .mk d (.convert src dst x) ty ps af g) :: L) e O Q := by
  refine VL.stepN (M := fun m O' => ∃ c, l.length ≤ c ∧ c ≤ maxLen ∧ m = .asl O.next 0 l.length c ∧ O' = O.push (.cells (l.map byM))) hg hd (fun G a w hw hf => ?_) ?_
  · have h1 := hf.ev hx
    generalize hu : a.eval x = u at h1
    cases h1
    obtain ⟨c, c1, c2, c3⟩ := bytes_ok (P := P) ht hw hs hds he hl
    exact ⟨_, _, ⟨c, c1, c2, rfl, rfl⟩, Yields'.of c3 (by simp [execOp, hu])⟩
  · rintro m O' ⟨c, c1, c2, rfl, rfl⟩
    exact h c c1 c2
/-! ### A row of bytes as a text -/
theorem push_bytes (l : List UInt8) : ∀ s : List UInt8, (l.map fun b => (b.toNat : Int)).foldl (fun (r : ByteArray) (n : Int) => r.push (UInt8.ofNat n.toNat)) ⟨⟨s⟩⟩ = ⟨⟨s ++ l⟩⟩ := by
  induction l with
  | nil => intro s; simp
  | cons b l ih =>
    intro s
    rw [List.map_cons, List.foldl_cons]
    have : (⟨⟨s⟩⟩ : ByteArray).push (UInt8.ofNat (b.toNat : Int).toNat) = ⟨⟨s ++ [b]⟩⟩ := by
      simp [ByteArray.push]
    rw [this, ih, List.append_assoc]; rfl
theorem bytes_run (a : Addr) (l : List UInt8) (c : Nat) (w : World) (h : ∀ j v, (l.map fun b => Value.int .u8 b.toNat)[j]? = some v → w.cell? (a.add j) = some v) :
    (Conv.bytesToString (.slice (some a) l.length c)).run P w = .ok (.string ⟨⟨l⟩⟩) w := by
  have h1 := run_loadCells_list (P := P) w a (l.map fun b => Value.int .u8 b.toNat) h
  rw [List.length_map] at h1
  rw [run_bytesToString (P := P) w a l.length c (l.map fun b => (b.toNat : Int)) (by rw [h1, List.map_map]; rfl)]
  rw [show (ByteArray.empty : ByteArray) = ⟨⟨[]⟩⟩ from rfl, push_bytes]; rfl
theorem byM_inv {l : List UInt8} {us : List Value} (h : VRs G (l.map byM) us) : us = l.map fun b => Value.int .u8 b.toNat := by
  induction l generalizing us with
  | nil => exact h.inv_nil
  | cons b l ih =>
    obtain ⟨u, us', rfl, h1, h2⟩ := h.inv_cons
    rw [ih h2, h1.v_inv]; rfl
theorem textA_ok (ht : TabOk P tab) (h : WR G O w) {src dst el : TypeId} {k o c : Nat} {cs : List MV} {l : List UInt8} (hs : (tab src).map TyI.under = some (.slice el)) (hd : (tab dst).map TyI.under = some .string) (he : (tab el).map TyI.under = some (.int .u8))
    (hk : O.hp k = some (.cells cs)) (hcs : (cs.drop o).take l.length = l.map byM) (hx : VR G (.asl k o l.length c) u) : Gives P (convert src dst u) w G O (.str l) := by
  cases hx with
  | asl hp hn hm =>
    rename_i b
    obtain ⟨b', C, T, h1, h2, h3⟩ := h.cells k cs hk
    rw [hp] at h1; injection h1 with h1; subst h1
    have h4 := (h3.drop o).take l.length
    rw [hcs] at h4
    have h5 := byM_inv h4
    refine ⟨_, w, G, ?_, Gh.Le.refl G, h, .str, KeepB.refl _ _⟩
    rw [run_convert_bytes_string w src dst el _ _ _ (under_of ht hs) (under_of ht he) (under_of ht hd)]
    refine bytes_run _ l c w fun j v hv => ?_
    rw [← h5, List.getElem?_take] at hv
    split at hv
    · rw [List.getElem?_drop, List.getElem?_take] at hv
      split at hv
      · rw [Addr.add_lit]
        simp only [World.cell?, h2, Option.isSome_none, Bool.false_eq_true, if_false]
        simpa using hv
      · cases hv
    · cases hv
theorem textS_ok (ht : TabOk P tab) (h : WR G O w) {src dst el : TypeId} {tk : Tok} {l : List UInt8} (hs : (tab src).map TyI.under = some (.slice el)) (hd : (tab dst).map TyI.under = some .string) (he : (tab el).map TyI.under = some (.int .u8))
    (hx : VR G (.sl l.length (l.map byM) tk) u) : Gives P (convert src dst u) w G O (.str l) := by
  have hc := fun a n c => run_convert_bytes_string (P := P) w src dst el a n c (under_of ht hs) (under_of ht he) (under_of ht hd)
  refine ⟨.string ⟨⟨l⟩⟩, w, G, ?_, Gh.Le.refl G, h, .str, KeepB.refl _ _⟩
  generalize hn : l.length = k at hx
  generalize hm : l.map byM = cs at hx
  cases hx with
  | slnil =>
    obtain rfl : l = [] := List.eq_nil_of_length_eq_zero hn
    rw [hc]; rfl
  | sl0n =>
    obtain rfl : l = [] := List.eq_nil_of_length_eq_zero hn
    rw [hc]; rfl
  | sl0 =>
    obtain rfl : l = [] := List.eq_nil_of_length_eq_zero hn
    rw [hc]
    exact bytes_run _ [] _ w fun j v hv => by simp at hv
  | sl h1 h2 h3 h4 h5 h6 =>
    rename_i us c b o
    subst hn hm
    have h7 := byM_inv (us := us) ⟨h1, h3⟩
    rw [hc]
    refine bytes_run _ l c w fun j v hv => ?_
    rw [← h7] at hv
    rw [Addr.add_lit]
    exact h.com _ _ _ (h2 j v hv)
theorem VL.textA (ht : TabOk P tab) {d : Option Tmp} {src dst el : TypeId} {x : Operand} {ty : TypeId} {ps : String} {af : Array Edge} {g : Option (Nat × Bool)} {L : List (Fl × Oper)} {k o nn c : Nat} {cs : List MV} {l : List UInt8}
    (hg : vguard ops (.mk d (.convert src dst x) ty ps af g) e = some true) (hx : ev e x = some (.asl k o nn c)) (hs : (tab src).map TyI.under = some (.slice el)) (hds : (tab dst).map TyI.under = some .string) (he : (tab el).map TyI.under = some (.int .u8)) (hk : O.hp k = some (.cells cs)) (hn : nn = l.length) (hcs : (cs.drop o).take l.length = l.map byM) (hd : dstB n d = true)
    (h : VL P n D .plain ops L (putM d (.str l) e) O Q) : VL P n D .plain ops ((.one, .mk d (.convert src dst x) ty ps af g) :: L) e O Q := by
  subst hn
  refine VL.stepN (M := fun m O' => m = .str l ∧ O' = O) hg hd (fun G a w hw hf => ?_) ?_
  · exact ⟨_, _, ⟨rfl, rfl⟩, Yields'.of (textA_ok (P := P) ht hw hs hds he hk hcs (hf.ev hx)) (by simp [execOp])⟩
  · rintro m O' ⟨rfl, rfl⟩
    exact h
theorem VL.textS (ht : TabOk P tab) {d : Option Tmp} {src dst el : TypeId} {x : Operand} {ty : TypeId} {ps : String} {af : Array Edge} {g : Option (Nat × Bool)} {L : List (Fl × Oper)} {nn : Nat} {cs : List MV} {tk : Tok} {l : List UInt8}
    (hg : vguard ops (.mk d (.convert src dst x) ty ps af g) e = some true) (hx : ev e x = some (.sl nn cs tk)) (hs : (tab src).map TyI.under = some (.slice el)) (hds : (tab dst).map TyI.under = some .string) (he : (tab el).map TyI.under = some (.int .u8)) (hn : nn = l.length) (hcs : cs = l.map byM) (hd : dstB n d = true)
    (h : VL P n D .plain ops L (putM d (.str l) e) O Q) : VL P n D .plain ops ((.one, .mk d (.convert src dst x) ty ps af g) :: L) e O Q := by
  subst hn hcs
  refine VL.stepN (M := fun m O' => m = .str l ∧ O' = O) hg hd (fun G a w hw hf => ?_) ?_
  · exact ⟨_, _, ⟨rfl, rfl⟩, Yields'.of (textS_ok (P := P) ht hw hs hds he (hf.ev hx)) (by simp [execOp])⟩
  · rintro m O' ⟨rfl, rfl⟩
    exact h
/-! ### Where a run stops -/
theorem cv_sb {src dst el : TypeId} {l : List UInt8} {s1 s2 a1 a2 : Nat} {z1 z2 : List MV} (h1 : tab src = some ⟨.string, s1, a1, z1⟩) (h2 : tab dst = some ⟨.slice el, s2, a2, z2⟩) : vconv tab src dst (.str l) = none := by
  simp [vconv, h1, h2]
theorem cv_bs {src dst el : TypeId} {x : MV} {s1 s2 a1 a2 : Nat} {z1 z2 : List MV} (h1 : tab src = some ⟨.slice el, s1, a1, z1⟩) (h2 : tab dst = some ⟨.string, s2, a2, z2⟩) : vconv tab src dst x = none := by
  simp [vconv, h1, h2]
end
end Go.Proofs.YtjbpnhmjnkolbaaDoor
