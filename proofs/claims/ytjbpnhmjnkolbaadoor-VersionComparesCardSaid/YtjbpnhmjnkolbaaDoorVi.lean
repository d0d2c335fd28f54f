/-
  THE VALUE MACHINE, 20: more operations, each as a rule: what only reckons; structs held against one another; clear; a text laid out of bytes for good; unsafe.Pointer.
-/
import Derived.Test.YtjbpnhmjnkolbaaDoorVh
import Derived.Laws.StructEq
set_option linter.unusedVariables false
set_option linter.unusedSimpArgs false
namespace Go.Proofs.YtjbpnhmjnkolbaaDoor
open Go.RowKit

section
variable {G H : Gh} {n : Nat} {D : List Deferred} {e : Env} {a : Act} {P : Program} {tab : Tab} {O O' : VH} {w : World} {m m' : MV} {u v : Value} {ops : Array Oper} {Q : VQ} {md : Md}

/-! ### What only reckons -/
def PureOp (P : Program) (n : Nat) (D : List Deferred) (o : Oper) (e : Env) (m : MV) : Prop := ∀ G a, FR G n D e a → YieldsS P o a G m
theorem VOne.pure {i : Nat} {o : Oper} {K : Env → VH → Prop} (ho : ops[i]? = some o) (hg : vguard ops o e = some true) (hd : dstB n o.dst = true) (hy : PureOp P n D o e m) (h : K (putM o.dst m e) O) : VOne P n D ops i e O Q K := by
  refine VOne.stepM (M := fun m' O' => m' = m ∧ O' = O) ho hg hd (fun G a w hw hf => ?_) (by rintro m' O' ⟨rfl, rfl⟩; exact h)
  obtain ⟨u, hu, hr⟩ := hy G a hf
  exact ⟨m, O, u, w, G, ⟨rfl, rfl⟩, hr w hw.ss, Gh.Le.refl G, hw, hu⟩
theorem VL.pure {f : Fl} {o : Oper} {L : List (Fl × Oper)} (hfk : f ≠ .fk) (hh : f = .one → isPlain md = true ∨ md = .any) (hg : vguard ops o e = some true) (hd : dstB n o.dst = true) (hy : PureOp P n D o e m) (h : VL P n D md ops L (putM o.dst m e) O Q) : VL P n D md ops ((f, o) :: L) e O Q := by
  intro fuel listed ix hf hp
  match ix, hf with
  | (i, g) :: ix, hf =>
    obtain ⟨rfl, ho, hf⟩ := hf
    cases md with
    | plain => exact VOps.one (VOne.pure ho hg hd hy (h 0 #[] ix hf (fun h => absurd rfl h)))
    | any =>
      obtain ⟨h1, h2⟩ := hp (by simp)
      cases fuel with
      | zero => cases h2
      | succ fuel =>
        simp only [planOk, Bool.and_eq_true] at h2
        have hk := h fuel (listed.setIfInBounds i true) ix hf (fun _ => ⟨h1, h2.2⟩)
        cases g with
        | one =>
          have hr : Region.ready .any ops listed = [i] := by simpa using h2.1
          exact VAny.all hr (by simp) fun j hj => by
            obtain rfl : j = i := by simpa using hj
            exact VOne.pure ho hg hd hy hk
        | sil =>
          simp only [Bool.and_eq_true] at h2
          intro G a w hw hfr
          obtain ⟨u, hu, hr⟩ := hy G a hfr
          exact wpAnyH_take ho h1 h2.1.1 h2.1.2 panic_put (.inl ⟨vguard_ok hfr hg, hr⟩) hw.ss (hk G _ w hw (hfr.putM hd hu))
        | rd => exact absurd h2.1 (by simp)
        | fk => exact absurd rfl hfk
    | reads =>
      obtain ⟨h1, h2⟩ := hp (by simp)
      cases fuel with
      | zero => cases h2
      | succ fuel =>
        simp only [planOk, Bool.and_eq_true] at h2
        have hk := h fuel (listed.setIfInBounds i true) ix hf (fun _ => ⟨h1, h2.2⟩)
        intro G a w hw hfr
        obtain ⟨u, hu, hrun⟩ := hy G a hfr
        have h3 : Region.free .any ops listed i = true ∧ (Region.ready .any ops listed).contains i = true := by cases g <;> simp_all
        exact wpAnyH_take ho h1 h3.1 h3.2 panic_put (.inl ⟨vguard_ok hfr hg, fun w' hw' => by rw [hw']; exact hrun w hw.ss⟩) rfl (hk G _ w hw (hfr.putM hd hu))
    | held brk =>
      obtain ⟨h1, h2⟩ := hp (by simp)
      cases fuel with
      | zero => cases h2
      | succ fuel =>
        simp only [planOk, Bool.and_eq_true] at h2
        have hk := h fuel (listed.setIfInBounds i true) ix hf (fun _ => ⟨h1, h2.2⟩)
        have hyy : ∀ G a w, WR G O w → FR G n D e a → ∃ u, VR G m u ∧ YieldsIf P ops (Sx G w) o u a := fun G a w hw hfr => by
          obtain ⟨u, hu, hrun⟩ := hy G a hfr
          exact ⟨u, hu, .inl ⟨vguard_ok hfr hg, fun x hx => hrun x hx.1⟩⟩
        cases g with
        | one => rcases hh rfl with h3 | h3 <;> cases h3
        | fk => exact absurd rfl hfk
        | sil =>
          simp only [Bool.and_eq_true] at h2
          exact VAnyT.take ho h1 h2.1.1.1 h2.1.1.2 h2.1.2 hd hyy hk
        | rd =>
          simp only [Bool.and_eq_true] at h2
          exact VAnyT.take ho h1 h2.1.1.1 h2.1.1.2 h2.1.2 hd hyy hk

/-! ### Structs held against one another -/
def veqF (P : Program) (tab : Tab) : Nat → TypeId → MV → MV → Option Bool
  | 0, _, _, _ => none
  | d + 1, t, x, y => match (tab t).map TyI.under, x, y with
    | some .bool, .v (.bool a), .v (.bool b) => some (a == b)
    | some (.int _), .v (.int k a), .v (.int k' b) => if k = k' then some (a == b) else none
    | some .string, .str a, .str b => some (a == b)
    | some (.struct fs), .agg xs, .agg ys => if P.stoodInHeld t then none else fs.toList.foldr (fun f acc =>
        if f.name ≠ "_" then match vpart tab f.type xs f.offset, vpart tab f.type ys f.offset with
          | some p, some q => match veqF P tab d f.type p q, acc with
            | some b, some c => some (b && c)
            | _, _ => none
          | _, _ => none
        else acc) (some true)
    | _, _, _ => none
theorem veqF_ok (ht : TabOk P tab) : ∀ (d : Nat) {t : TypeId} {x y : MV} {u v : Value} {b : Bool}, veqF P tab d t x y = some b → VR G x u → VR G y v → ∀ (k : Nat) (w : World), (Op.equalIn (d + k) t u v).run P w = .ok b w
  | 0, _, _, _, _, _, _, h, _, _, _, _ => by cases h
  | d + 1, t, x, y, u, v, b, h, hx, hy, k, w => by
    rw [show d + 1 + k = d + k + 1 from by omega]
    simp only [veqF] at h
    split at h
    · rename_i hu
      injection h with h; subst h
      cases hx; cases hy
      exact run_equalIn_bool w _ _ _ _ (under_of ht hu)
    · rename_i k0 k1 a k2 c hu
      split at h
      · subst k1
        injection h with h; subst h
        cases hx; cases hy
        exact run_equalIn_int w _ _ _ _ _ _ (under_of ht hu)
      · cases h
    · rename_i l r hu
      injection h with h; subst h
      cases hx
      rename_i e1
      cases hy
      rw [run_equalIn_string w _ _ _ _ (under_of ht hu), toList_mk, toList_mk]
    · rename_i fs xs ys hu
      split at h
      · cases h
      · rename_i hst
        cases hx with
        | agg a1 a2 =>
          cases hy with
          | agg b1 b2 =>
            rename_i us vs
            have hun := under_of ht hu
            have hfo : P.fieldsOf t = fs := by simp only [Program.fieldsOf, hun]
            rw [run_equalIn_struct w _ _ _ _ (by rw [hfo]; exact hun) (by simpa using hst), hfo]
            have hxs : VRs G xs us := ⟨a1, a2⟩
            have hys : VRs G ys vs := ⟨b1, b2⟩
            generalize fs.toList = l at h
            clear hu hun hfo
            induction l generalizing b with
            | nil =>
              simp only [List.foldr_nil, Option.some.injEq] at h
              subst h; rfl
            | cons f l ih =>
              simp only [List.foldr_cons] at h
              simp only [Op.eqFields]
              split at h
              · rename_i hn
                rw [if_pos hn]
                split at h
                · rename_i p q hp hq
                  split at h
                  · rename_i b1 c1 hb1 hc1
                    injection h with h; subst h
                    obtain ⟨r1, g1, g2⟩ := vpart_ok (P := P) ht hp hxs
                    obtain ⟨r2, g3, g4⟩ := vpart_ok (P := P) ht hq hys
                    have hr := veqF_ok ht d hb1 g2 g4 k w
                    simp only [Sem.run_bind, g1 w, g3 w, hr, Result.andThen_ok]
                    cases b1
                    · simp
                    · simpa using ih _ hc1
                  · cases h
                · cases h
              · rename_i hn
                rw [if_neg hn]
                exact ih _ h
    · cases h
theorem VL.eqS (ht : TabOk P tab) {f : Fl} {op : BinOp} {t t' ty : TypeId} {d : Option Tmp} {x y : Operand} {ps : String} {af : Array Edge} {g : Option (Nat × Bool)} {L : List (Fl × Oper)} {xs ys : List MV} {b : Bool} {bb : Bool} (hfk : f ≠ .fk) (hh : f = .one → isPlain md = true ∨ md = .any)
    (hop : (op = .eql ∧ bb = b) ∨ (op = .neq ∧ bb = !b)) (hq : veqF P tab 9 t (.agg xs) (.agg ys) = some b) (hgt : P.eqGuardType P.depth t = false) (hx : ev e x = some (.agg xs)) (hy : ev e y = some (.agg ys)) (hg : vguard ops (.mk d (.binOp op t x y t') ty ps af g) e = some true) (hd : dstB n d = true)
    (h : WL P tab n D md ops Q L (putM d (.v (.bool bb)) e) O) : VL P n D md ops ((f, .mk d (.binOp op t x y t') ty ps af g) :: L) e O Q := by
  refine VL.pure hfk hh hg hd (fun G a hf => ?_) (WL.sound ht h)
  have h1 := hf.ev hx
  have h2 := hf.ev hy
  have hr := fun w => veqF_ok (P := P) ht 9 hq h1 h2 9991 w
  generalize hu : a.eval x = u at h1 hr
  generalize hv : a.eval y = v at h2 hr
  cases h1 with
  | agg a1 a2 =>
    cases h2 with
    | agg b1 b2 =>
      rename_i us vs
      refine YieldsS.of (s := do eqGuard op t x y (.agg us.toArray) (.agg vs.toArray); binOp op t (.agg us.toArray) (.agg vs.toArray)) (GivesS.of (u := .bool bb) (fun w _ => ?_) (.v rfl)) (by simp [execOp, hu, hv])
      rw [Sem.run_bind, run_eqGuard_agg w op t x y _ _ hgt, Result.andThen_ok]
      rcases hop with ⟨rfl, rfl⟩ | ⟨rfl, rfl⟩
      · rw [run_eql_struct, hr w]; rfl
      · rw [run_neq_struct, hr w]; rfl

/-! ### clear -/
theorem VL.clear (ht : TabOk P tab) {d : Option Tmp} {x : Operand} {t ty el : TypeId} {ps : String} {af : Array Edge} {g : Option (Nat × Bool)} {L : List (Fl × Oper)} {k o n' c : Nat} {cs : List MV} {te : TyI} (hmd : md = .plain ∨ md = .any)
    (hu : (tab t).map TyI.under = some (.slice el)) (he : tab el = some te) (hz : te.zero.all leafB = true) (hz0 : 0 < te.zero.length) (hk : O.hp k = some (.cells cs)) (hle : o + n' * te.size ≤ cs.length) (hx : ev e x = some (.asl k o n' c))
    (hg : vguard ops (.mk d (.call { callee := .builtin .clear, args := #[x], argTypes := #[t] }) ty ps af g) e = some true) (hd : dstB n d = true)
    (h : WL P tab n D md ops Q L (putM d (.tuple []) e) (O.set k (.cells (setMany cs o (vzeros te.zero (n' * te.size)))))) : VL P n D md ops ((.one, .mk d (.call { callee := .builtin .clear, args := #[x], argTypes := #[t] }) ty ps af g) :: L) e O Q := by
  refine VL.stepP (M := fun m O' => m = .tuple [] ∧ O' = O.set k (.cells (setMany cs o (vzeros te.zero (n' * te.size))))) hmd hg hd (fun G a w hw hf => ?_) (by rintro m O' ⟨rfl, rfl⟩; exact WL.sound ht h)
  have hxv := hf.ev hx
  generalize hax : a.eval x = u at hxv
  cases hxv with
  | asl hp hn hm =>
    rename_i b
    obtain ⟨ti, z, i1, i2, i3, i4, i5, i6⟩ := (ht _ te he).info
    have hlf : (vzeros te.zero (n' * te.size)).all leafB = true := by
      rw [List.all_eq_true] at hz ⊢
      intro m hm
      simp only [vzeros, List.mem_map, List.mem_range] at hm
      obtain ⟨i, _, rfl⟩ := hm
      refine hz _ ?_
      rw [List.getD_eq_getElem?_getD, List.getElem?_eq_getElem (Nat.mod_lt _ hz0)]
      exact List.getElem_mem _
    have hzc : VRs G (vzeros te.zero (n' * te.size)) (Builtin.zeroCells z.cells n').toList := by
      have hzz := vzeros_ok (i6 G) hz0 (n' * te.size)
      rw [← i5] at hzz ⊢
      exact hzz
    obtain ⟨w', hr, hw'⟩ := storeMany (P := P) hp o (vzeros te.zero (n' * te.size)) _ 0 cs O w hw hk hzc hlf (by simp [vzeros]; omega)
    have hrun : (Builtin.clear_ #[t] ty #[.slice (some ⟨b, o, none⟩) n' c]).run P w = .ok (.tuple #[]) w' := by
      have hun := under_of ht hu
      rcases Nat.eq_zero_or_pos n' with h0 | h0
      · subst h0
        have : w' = w := by
          simp [Builtin.zeroCells, storeCells] at hr
          exact hr.symm
        subst this
        simp [Builtin.clear_, run_underlying hun]
      · obtain ⟨n1, rfl⟩ : ∃ n1, n' = n1 + 1 := ⟨n' - 1, by omega⟩
        simp [Builtin.clear_, run_underlying hun, zeroValue, typeInfo, i1, i4, hr]
    refine ⟨_, _, .tuple #[], w', G, ⟨rfl, rfl⟩, by simp [execOp, resolve, invoke, builtin, hax, hrun], Gh.Le.refl G, by simpa using hw', VR.tuple (us := []) rfl (fun i c u h => by simp at h)⟩

/-! ### A text laid out of bytes for good -/
theorem WR.refreeze (h : WR G O w) {b : Nat} {C : Array Value} {t : TypeId} {fr fr' : Nat × Nat} {w' : World} (hb : w.heap[b]? = some (.cells C t fr)) (hB : G.B ≤ b) (hb' : w'.heap[b]? = some (.cells C t fr')) (ho : ∀ j, j ≠ b → w'.heap[j]? = w.heap[j]?) (hs : w'.heap.size = w.heap.size)
    (hos : w'.os = w.os) (htape : w'.tape = w.tape) (hout : w'.output = w.output) (hphi : ∀ j, O.hp j ≠ none → G.phi j ≠ some b) (htok : ∀ t c x, O.hp t = some .tok → G.tok t = some (c, x) → c ≠ b) : WR G O w' := by
  have hcell : ∀ p, w'.cell? p = w.cell? p := fun p => by
    by_cases e : p.block = b
    · simp only [World.cell?, e, hb, hb']
    · simp only [World.cell?, ho _ e]
  refine ⟨⟨hos.trans h.base.os, htape.trans h.base.tape, hout.trans h.base.output, by rw [hs]; exact h.base.size, fun j hj => by rw [ho j (by have : j < G.B := hj; omega)]; exact h.base.block j hj⟩, fun b' o u hc => by rw [hcell]; exact h.com b' o u hc, h.dom, fun k c hk => ?_, h.inj, fun k cs hk => ?_, fun k es ck hk => ?_, fun t ht => ?_, h.tinj,
    h.shpOf id (fun _ _ _ _ h => h) fun k b' s _ hs' => ?_⟩
  · obtain ⟨h1, h2, h3⟩ := h.plt k c hk
    exact ⟨h1, by rw [hs]; exact h2, h3⟩
  · obtain ⟨c, D, T', h1, h2, h3⟩ := h.cells k cs hk
    exact ⟨c, D, T', h1, by rw [ho c (fun e => hphi k (by rw [hk]; simp) (e ▸ h1))]; exact h2, h3⟩
  · obtain ⟨c, E, h1, h2, h3⟩ := h.map k es ck hk
    exact ⟨c, E, h1, by rw [ho c (fun e => hphi k (by rw [hk]; simp) (e ▸ h1))]; exact h2, h3⟩
  · obtain ⟨c, f, k, r, D, T', h1, h2, h3, h4⟩ := h.tok t ht
    exact ⟨c, f, k, r, D, T', h1, h2, by rw [ho c (htok t c _ ht h1)]; exact h3, h4⟩
  · by_cases e : b' = b
    · subst e
      simp only [World.shape?, hb] at hs'
      simp only [World.shape?, hb']; exact hs'
    · exact shape_heap (fun x hx => by rw [ho _ e]; exact hx) hs'
def ustrB : Op → Bool
  | .call c => match c.callee with
    | .builtin .unsafeString => true
    | _ => false
  | _ => false
/-- In a held region each unsafe.String stands among what breaks. -/
def ustrOk (md : Md) (ops : Array Oper) : Bool := match md with
  | .held brk => !brk.isEmpty && (List.range ops.size).all fun i => !((ops[i]?).map fun o => ustrB o.op).getD false || brk.contains i
  | _ => true
theorem ustrOk_1 (h : ustrOk md ops = true) : ∀ brk, md = .held brk → brk ≠ [] := by
  rintro brk rfl rfl
  simp [ustrOk] at h
theorem ustrOk_2 (h : ustrOk md ops = true) {o : Oper} (ho : ustrB o.op = true) : ∀ brk, md = .held brk → ∀ i, ops[i]? = some o → brk.contains i = true := by
  rintro brk rfl i hi
  simp only [ustrOk, Bool.and_eq_true] at h
  have := List.all_eq_true.1 h.2 i (List.mem_range.2 (by
    rcases Nat.lt_or_ge i ops.size with h' | h'
    · exact h'
    · rw [Array.getElem?_eq_none h'] at hi; cases hi))
  simpa [hi, ho] using this
theorem VL.ustr (ht : TabOk P tab) {d : Option Tmp} {x y : Operand} {pt it ty el : TypeId} {ps : String} {af : Array Edge} {g : Option (Nat × Bool)} {L : List (Fl × Oper)} {k c : Nat} {l : List UInt8} {B : Nat}
    (hok : ustrOk md ops = true)
    (hp : (tab pt).map TyI.under = some (.pointer el)) (hce : P.cellsOf el = 1) (hrow : Row O el 1 B k c (l.map byM)) (hl0 : l ≠ []) (hl : l.length ≤ maxLen)
    (hx : ev e x = some (.ptr k 0)) (hy : ev e y = some (.v (.int .i64 l.length))) (hg : vguard ops (.mk d (.call { callee := .builtin .unsafeString, args := #[x, y], argTypes := #[pt, it] }) ty ps af g) e = some true) (hd : dstB n d = true)
    (h : WL P tab n D md ops Q L (putM d (.str l) e) (O.kill k)) : VL P n D md ops ((.one, .mk d (.call { callee := .builtin .unsafeString, args := #[x, y], argTypes := #[pt, it] }) ty ps af g) :: L) e O Q := by
  refine VL.stepM (M := fun m O' => m = .str l ∧ O' = O.kill k) hg hd (fun _ => ustrOk_1 hok) (fun brk hb => .inr (ustrOk_1 hok brk hb)) (fun G a w hw hf => ?_) (ustrOk_2 hok rfl) (by rintro m O' ⟨rfl, rfl⟩; exact WL.sound ht h)
  have hxv := hf.ev hx
  have hyv := hf.ev hy
  generalize hax : a.eval x = u at hxv
  generalize hay : a.eval y = v at hyv
  have hyv := hyv.v_inv
  subst hyv
  cases hxv with
  | ptr hph =>
    rename_i b
    obtain ⟨sp, hc1, hc2⟩ := hrow.cells
    obtain ⟨b', C, T, d1, d2, d3⟩ := hw.cells k _ hc1
    rw [hph] at d1; injection d1 with d1; subst d1
    obtain ⟨j, _, _, hj⟩ := hrow.shp
    obtain ⟨b2, s1, s2⟩ := hw.shp j k _ _ hj
    rw [hph] at s1; injection s1 with s1; subst s1
    have hL := d3.take l.length
    have e1 : (l.map byM ++ sp).take l.length = l.map byM := by rw [List.take_append_of_le_length (by simp), List.take_of_length_le (by simp)]
    rw [e1, List.take_take, Nat.min_eq_left (by simp)] at hL
    have hL2 := byM_inv hL
    have hcell : ∀ j x, l[j]? = some x → w.cell? ((⟨b, 0, none⟩ : Addr).add j) = some (.int .u8 x.toNat) := fun i x hx => by
      rw [Addr.add_lit, Nat.zero_add]
      simp only [World.cell?, d2, Option.isSome_none, Bool.false_eq_true, if_false]
      have : (C.toList.take l.length)[i]? = some (Value.int .u8 x.toNat) := by rw [hL2, List.getElem?_map, hx]; rfl
      rw [List.getElem?_take] at this
      split at this
      · simpa using this
      · cases this
    have hrun := Lib.run_unsafeString_row (P := P) w pt it ty el (under_of ht hp) hce b _ s2 l hl0 (by rw [List.length_append, List.length_map] at hc2; omega) hl hcell
    have hll : l.length ≠ 0 := by simpa using hl0
    have hfz : (w.freeze ⟨b, 0, none⟩ l.length).heap[b]? = some (.cells C T.t (if T.fr.1 == T.fr.2 then (0, 0 + l.length) else (min T.fr.1 0, max T.fr.2 (0 + l.length)))) := by
      simp [World.freeze, hll, Array.getElem?_modify, d2]
    have hoth : ∀ j, j ≠ b → (w.freeze ⟨b, 0, none⟩ l.length).heap[j]? = w.heap[j]? := fun j hj => by
      simp [World.freeze, hll, Array.getElem?_modify, Ne.symm hj]
    refine ⟨.str l, O.kill k, .string ⟨⟨l⟩⟩, w.freeze ⟨b, 0, none⟩ l.length, G, ⟨rfl, rfl⟩, ?_, Gh.Le.refl G, ?_, .str⟩
    rotate_left
    · refine (hw.kill k).refreeze d2 (hw.plt k b hph).1 hfz hoth (by simp [World.freeze, hll]) (by simp [World.freeze, hll]) (by simp [World.freeze, hll]) (by simp [World.freeze, hll]) (fun j hj hjb => ?_) fun t c x htk htc e => ?_
      · by_cases e : j = k
        · subst e; exact hj (upd_same _ _ _)
        · have hj' : O.hp j ≠ none := by rwa [show (O.kill k).hp j = O.hp j from upd_other _ _ e] at hj
          exact e (hw.inj j k b hj' (by rw [hc1]; simp) hjb hph)
      · subst e
        have e : t ≠ k := fun e => by subst e; rw [show (O.kill t).hp t = none from upd_same _ _ _] at htk; cases htk
        rw [show (O.kill k).hp t = O.hp t from upd_other _ _ e] at htk
        obtain ⟨_, _, _, _, _, _, q1, _, _, _, _, q7⟩ := hw.tok t htk
        rw [htc] at q1; injection q1 with q1; injection q1 with q1 _; subst q1
        exact q7 k hph
    · simp [execOp, resolve, invoke, builtin, hax, hay, hrun]
theorem VL.ustr0 (ht : TabOk P tab) {d : Option Tmp} {x y : Operand} {pt it ty : TypeId} {ps : String} {af : Array Edge} {g : Option (Nat × Bool)} {L : List (Fl × Oper)} 
    (hok : ustrOk md ops = true)
    (hx : ev e x = some (.v (.pointer none))) (hy : ev e y = some (.v (.int .i64 0))) (hg : vguard ops (.mk d (.call { callee := .builtin .unsafeString, args := #[x, y], argTypes := #[pt, it] }) ty ps af g) e = some true) (hd : dstB n d = true)
    (h : WL P tab n D md ops Q L (putM d (.str []) e) O) : VL P n D md ops ((.one, .mk d (.call { callee := .builtin .unsafeString, args := #[x, y], argTypes := #[pt, it] }) ty ps af g) :: L) e O Q := by
  refine VL.stepM (M := fun m O' => m = .str [] ∧ O' = O) hg hd (fun _ => ustrOk_1 hok) (fun brk hb => .inr (ustrOk_1 hok brk hb)) (fun G a w hw hf => ?_) (ustrOk_2 hok rfl) (by rintro m O' ⟨rfl, rfl⟩; exact WL.sound ht h)
  have hxv := (hf.ev hx).v_inv
  have hyv := (hf.ev hy).v_inv
  have hrun := Lib.run_unsafeString_none (P := P) w pt it ty none
  refine ⟨_, _, _, w, G, ⟨rfl, rfl⟩, ?_, Gh.Le.refl G, hw, .str⟩
  simp [execOp, resolve, invoke, builtin, hxv, hyv, hrun]
  rfl

/-! ### unsafe.Pointer -/
theorem VL.toU (ht : TabOk P tab) {d : Option Tmp} {x : Operand} {src dst ty el t : TypeId} {ps : String} {af : Array Edge} {g : Option (Nat × Bool)} {L : List (Fl × Oper)} {k s j : Nat} {te : TyI} (hmd : md = .plain ∨ md = .any)
    (hs : (tab src).map TyI.under = some (.pointer el)) (hdt : (tab dst).map TyI.under = some .unsafePointer) (he : tab el = some te) (hz : te.size ≠ 0) (hj : O.hp j = some (.shape k t s)) (hs0 : 0 < s)
    (hx : ev e x = some (.ptr k 0)) (hg : vguard ops (.mk d (.convert src dst x) ty ps af g) e = some true) (hd : dstB n d = true) (h : WL P tab n D md ops Q L (putM d (.ptr k 0) e) O) :
    VL P n D md ops ((.one, .mk d (.convert src dst x) ty ps af g) :: L) e O Q := by
  refine VL.stepP (M := fun m O' => m = .ptr k 0 ∧ O' = O) hmd hg hd (fun G a w hw hf => ?_) (by rintro m O' ⟨rfl, rfl⟩; exact WL.sound ht h)
  have hxv := hf.ev hx
  generalize hax : a.eval x = u at hxv
  cases hxv with
  | ptr hp =>
    rename_i b
    obtain ⟨ti, z, i1, i2, _⟩ := (ht _ te he).info
    obtain ⟨b2, s1, s2⟩ := hw.shp j k _ _ hj
    rw [hp] at s1; injection s1 with s1; subst s1
    have hr := Lib.run_to_unsafe (P := P) w ⟨b, 0, none⟩ (under_of ht hs) (under_of ht hdt) i1 (by rw [i2]; exact hz) s2 hs0
    exact ⟨_, _, _, w, G, ⟨rfl, rfl⟩, by simp [execOp, hax, hr], Gh.Le.refl G, hw, .ptr hp⟩
theorem VL.fromU (ht : TabOk P tab) {d : Option Tmp} {x : Operand} {src dst ty el t : TypeId} {ps : String} {af : Array Edge} {g : Option (Nat × Bool)} {L : List (Fl × Oper)} {k s j : Nat} {te : TyI} (hmd : md = .plain ∨ md = .any)
    (hs : (tab src).map TyI.under = some .unsafePointer) (hdt : (tab dst).map TyI.under = some (.pointer el)) (he : tab el = some te) (hj : O.hp j = some (.shape k t s)) (hl : liesAt P P.depth t (s / P.cellsOf t) 0 el 1 = true)
    (hx : ev e x = some (.ptr k 0)) (hg : vguard ops (.mk d (.convert src dst x) ty ps af g) e = some true) (hd : dstB n d = true) (h : WL P tab n D md ops Q L (putM d (.ptr k 0) e) O) :
    VL P n D md ops ((.one, .mk d (.convert src dst x) ty ps af g) :: L) e O Q := by
  refine VL.stepP (M := fun m O' => m = .ptr k 0 ∧ O' = O) hmd hg hd (fun G a w hw hf => ?_) (by rintro m O' ⟨rfl, rfl⟩; exact WL.sound ht h)
  have hxv := hf.ev hx
  generalize hax : a.eval x = u at hxv
  cases hxv with
  | ptr hp =>
    rename_i b
    obtain ⟨ti, z, i1, i2, _⟩ := (ht _ te he).info
    obtain ⟨b2, s1, s2⟩ := hw.shp j k _ _ hj
    rw [hp] at s1; injection s1 with s1; subst s1
    have hr := Lib.run_from_unsafe (P := P) w ⟨b, 0, none⟩ (under_of ht hs) (under_of ht hdt) i1 s2 hl
    exact ⟨_, _, _, w, G, ⟨rfl, rfl⟩, by simp [execOp, hax, hr], Gh.Le.refl G, hw, .ptr hp⟩
end
end Go.Proofs.YtjbpnhmjnkolbaaDoor
