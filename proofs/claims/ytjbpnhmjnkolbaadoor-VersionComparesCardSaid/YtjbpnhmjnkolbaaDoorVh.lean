/-
  THE VALUE MACHINE, 19: rows that may be written and grow; a text laid out of bytes for good; pointers turned to unsafe.Pointer and back; steps of which the world chooses something, in regions of every kind.
-/
import Derived.Test.YtjbpnhmjnkolbaaDoorVg
import Derived.Deep.AppendSrc
import Derived.Lib.UnsafeStr
set_option linter.unusedVariables false
set_option linter.unusedSimpArgs false
namespace Go.Proofs.YtjbpnhmjnkolbaaDoor
open Go.RowKit

section
variable {G H : Gh} {n : Nat} {D : List Deferred} {e : Env} {a : Act} {P : Program} {tab : Tab} {O O' : VH} {w : World} {m m' : MV} {u v : Value} {ops : Array Oper} {Q : VQ} {md : Md}

/-- What an operation may give, whatever the world chooses; what may be written may be turned. -/
def YieldsM (P : Program) (n : Nat) (D : List Deferred) (o : Oper) (e : Env) (O : VH) (M : MV → VH → Prop) : Prop :=
  ∀ G a w, WR G O w → FR G n D e a → ∃ m O' u w' H, M m O' ∧ (execOp a.eval o).run P w = .ok (.value u) w' ∧ Gh.Le G H ∧ WR H O' w' ∧ VR H m u
theorem VOne.stepM {i : Nat} {o : Oper} {M : MV → VH → Prop} {K : Env → VH → Prop} (ho : ops[i]? = some o) (hg : vguard ops o e = some true) (hd : dstB n o.dst = true) (hy : YieldsM P n D o e O M) (h : ∀ m O', M m O' → K (putM o.dst m e) O') : VOne P n D ops i e O Q K := by
  intro G a w hw hfr
  obtain ⟨m, O', u, w', H, hM, hr, h1, h2, h3⟩ := hy G a w hw hfr
  simp only [wpOp, ho, vguard_ok hfr hg, if_true]
  refine .inl ?_
  unfold Oper.wp
  rw [hr]
  exact ⟨_, _, H, h1, h2, (hfr.mono h1).putM hd h3, h _ _ hM⟩
theorem VL.stepM {o : Oper} {L : List (Fl × Oper)} {M : MV → VH → Prop} (hg : vguard ops o e = some true) (hd : dstB n o.dst = true) (hA : opA o.op = true → ∀ brk, md = .held brk → brk ≠ []) (hb : ∀ brk, md = .held brk → opA o.op = false ∨ brk ≠ []) (hy : YieldsM P n D o e O M)
    (hkeep : ∀ brk, md = .held brk → ∀ i, ops[i]? = some o → brk.contains i = true) (h : ∀ m O', M m O' → VL P n D md ops L (putM o.dst m e) O' Q) : VL P n D md ops ((.one, o) :: L) e O Q := by
  intro fuel listed ix hf hp
  match ix, hf with
  | (i, g) :: ix, hf =>
    obtain ⟨rfl, ho, hf⟩ := hf
    cases md with
    | plain => exact VOps.one (VOne.stepM ho hg hd hy fun m O' hM => h m O' hM 0 #[] ix hf (fun h => absurd rfl h))
    | any =>
      obtain ⟨h1, h2⟩ := hp (by simp)
      cases fuel with
      | zero => cases h2
      | succ fuel =>
        simp only [planOk, Bool.and_eq_true] at h2
        have hr : Region.ready .any ops listed = [i] := by simpa using h2.1
        exact VAny.all hr (by simp) fun j hj => by
          obtain rfl : j = i := by simpa using hj
          exact VOne.stepM ho hg hd hy fun m O' hM => h m O' hM fuel (listed.setIfInBounds j true) ix hf (fun _ => ⟨h1, h2.2⟩)
    | reads =>
      obtain ⟨h1, h2⟩ := hp (by simp)
      cases fuel with
      | zero => cases h2
      | succ fuel =>
        simp only [planOk, Bool.and_eq_true] at h2
        exact absurd h2.1 (by simp)
    | held brk =>
      obtain ⟨h1, h2⟩ := hp (by simp)
      cases fuel with
      | zero => cases h2
      | succ fuel =>
        simp only [planOk, Bool.and_eq_true] at h2
        have hr : Region.ready .any ops listed = [i] := by simpa using h2.1.1
        have hbb : ∀ j, (listed.setIfInBounds i true).getD j true = false ∨ j = i → brk.contains j = true := by
          rcases held_one ho h2.1.2 with ⟨h3, _⟩ | h3
          · rw [hkeep brk rfl i ho] at h3; cases h3
          · exact h3
        exact VAnyT.oneB hr hbb (VOne.stepM ho hg hd hy fun m O' hM => h m O' hM fuel (listed.setIfInBounds i true) ix hf (fun _ => ⟨h1, h2.2⟩))
theorem VL.stepP {o : Oper} {L : List (Fl × Oper)} {M : MV → VH → Prop} (hmd : md = .plain ∨ md = .any) (hg : vguard ops o e = some true) (hd : dstB n o.dst = true) (hy : YieldsM P n D o e O M) (h : ∀ m O', M m O' → VL P n D md ops L (putM o.dst m e) O' Q) : VL P n D md ops ((.one, o) :: L) e O Q := by
  rcases hmd with rfl | rfl
  · exact VL.stepM hg hd (fun _ _ h => by cases h) (fun _ h => by cases h) hy (fun _ h => by cases h) h
  · exact VL.stepM hg hd (fun _ _ h => by cases h) (fun _ h => by cases h) hy (fun _ h => by cases h) h

/-! ### What is appended -/
def srcM (O : VH) (sz : Nat) : MV → Option (Nat × List MV)
  | .sl k ds _ => if ds.length = k * sz then some (k, ds) else none
  | .asl k o n _ => match O.hp k with
    | some (.cells cs) => if o + n * sz ≤ cs.length then some (n, (cs.drop o).take (n * sz)) else none
    | _ => none
  | .str l => if sz = 1 then some (l.length, l.map byM) else none
  | _ => none
/-- Of which kind its type is. -/
def srcT : MV → TypeDesc → Prop
  | .str _, .string => True
  | .str _, _ => False
  | _, .slice _ => True
  | _, _ => False
theorem strCells_eq (l : List UInt8) : byteCells (⟨⟨l⟩⟩ : ByteArray) = l.map fun b => Value.int .u8 b.toNat := by simp [byteCells]
theorem srcM_ok (h : WR G O w) {sz k : Nat} {ds : List MV} {tx : TypeId} {d : TypeDesc} (hs : srcM O sz m = some (k, ds)) (hx : VR G m u) (ht : P.underlying tx = some d) (hd : srcT m d) (hlf : ds.all leafB = true) : ∃ us, Src P sz tx u k us w ∧ VRs G ds us := by
  unfold srcM at hs
  split at hs
  · split at hs
    · rename_i k' ds' tk hl
      injection hs with hs; injection hs with e1 e2; subst e1; subst e2
      have hk : ∃ e', P.underlying tx = some (.slice e') := by
        cases d <;> simp only [srcT] at hd
        exact ⟨_, ht⟩
      obtain ⟨e', hk⟩ := hk
      have nil : ∀ A c, k' = 0 → ds' = [] → VR G (.sl k' ds' tk) (.slice A 0 c) → ∃ us, Src P sz tx (.slice A 0 c) k' us w ∧ VRs G ds' us := fun A c e1 e2 _ => by
        subst e1; subst e2
        refine ⟨[], ?_, VRs.nil⟩
        cases A with
        | none => exact Src.ofNil w hk c
        | some A => exact Src.ofSlice w hk A 0 c [] (by simp) (fun j u hu => by simp at hu) (fun u hu => by cases hu)
      cases hx with
      | slnil => exact nil _ _ rfl rfl .slnil
      | sl0 h1 => exact nil _ _ rfl rfl (.sl0 h1)
      | sl0n => exact nil _ _ rfl rfl .sl0n
      | sl h1 h2 h3 h4 h5 h6 =>
        rename_i us c b o
        have hv : VRs G ds' us := ⟨h1, h3⟩
        exact ⟨us, Src.ofSlice w hk _ k' c us (by rw [h1, hl]) (fun j u hu => by rw [Addr.add_lit]; exact h.com _ _ _ (h2 j u hu)) (leafs_one hv hlf), hv⟩
    · cases hs
  · rename_i k' o n' c'
    split at hs
    · rename_i cs hk'
      split at hs
      · rename_i hle
        injection hs with hs; injection hs with e1 e2; subst e1; subst e2
        have hk : ∃ e', P.underlying tx = some (.slice e') := by
          cases d <;> simp only [srcT] at hd
          exact ⟨_, ht⟩
        obtain ⟨e', hk⟩ := hk
        cases hx with
        | asl hp hn hm =>
          rename_i b
          obtain ⟨b', C, T, h1, h2, h3⟩ := h.cells k' cs hk'
          rw [hp] at h1; injection h1 with h1; subst h1
          have hv := (h3.drop o).take (n' * sz)
          refine ⟨_, Src.ofSlice w hk ⟨b, o, none⟩ n' c' _ ?_ (fun j u hu => ?_) (leafs_one hv hlf), hv⟩
          · rw [hv.1]; simp; omega
          · rw [Addr.add_lit]
            rw [List.getElem?_take] at hu
            split at hu
            · rw [List.getElem?_drop, List.getElem?_take] at hu
              split at hu
              · simp only [World.cell?, h2, Option.isSome_none, Bool.false_eq_true, if_false]; simpa using hu
              · cases hu
            · cases hu
      · cases hs
    · cases hs
  · rename_i l
    split at hs
    · rename_i hsz
      subst hsz
      injection hs with hs; injection hs with e1 e2; subst e1; subst e2
      have hk : P.underlying tx = some .string := by
        cases d <;> simp only [srcT] at hd
        exact ht
      cases hx
      refine ⟨_, Src.ofString w hk ⟨⟨l⟩⟩, ?_⟩
      rw [strCells_eq]; exact bytes_VRs l
    · cases hs
  · cases hs

/-! ### There is room -/
theorem run_det {α : Type} {s : Sem α} {x y : α} {w1 w2 : World} (h1 : s.run P w = .ok x w1) (h2 : s.run P w = .ok y w2) : w1 = w2 := by
  rw [h1] at h2; injection h2
theorem live_cell (h : WR G O w) {k b i : Nat} {cs : List MV} (hk : O.hp k = some (.cells cs)) (hp : G.phi k = some b) (hi : i < cs.length) : (w.cell? ⟨b, i, none⟩).isSome = true ∧ w.frozen? ⟨b, i, none⟩ = false := by
  obtain ⟨b', C, T, e1, e2, e3⟩ := h.cells k cs hk
  rw [hp] at e1; injection e1 with e1; subst e1
  have hlen : i < C.size := by have := e3.1; simp at this; omega
  constructor
  · simp only [World.cell?, e2, Option.isSome_none, Bool.false_eq_true, if_false, Array.getElem?_eq_getElem hlen, Option.isSome_some]
  · obtain ⟨t', ⟨lo, hi⟩, hok⟩ := T
    dsimp only at e2 hok
    simp only [World.frozen?, e2, Bool.and_eq_false_imp, decide_eq_true_eq, decide_eq_false_iff_not]
    intro; omega
theorem room_ok (ht : TabOk P tab) (h : WR G O w) {t tx ty el : TypeId} {te : TyI} {d : TypeDesc} {k o n' c j : Nat} {cs ds : List MV} (hu : (tab t).map TyI.under = some (.slice el)) (he : tab el = some te) (htx : P.underlying tx = some d) (hk : O.hp k = some (.cells cs)) (hs : srcM O te.size m = some (j, ds)) (hd : srcT m d) (hlf : ds.all leafB = true)
    (hroom : n' + j ≤ c) (hle : o + n' * te.size + ds.length ≤ cs.length) (hx : VR G (.asl k o n' c) u) (hy : VR G m v) :
    ∃ w' A, (Builtin.append_ #[t, tx] ty #[u, v]).run P w = .ok (.slice A (n' + j) c) w' ∧ WR G (O.set k (.cells (setMany cs (o + n' * te.size) ds))) w' ∧ VR G (.asl k o (n' + j) c) (.slice A (n' + j) c) := by
  obtain ⟨ti, z, i1, i2, i3, i4, i5, i6⟩ := (ht _ te he).info
  obtain ⟨us, hsrc, hv⟩ := srcM_ok (P := P) h hs hy htx hd hlf
  cases hx with
  | asl hp hn hm =>
    rename_i b
    have hlv := fun (q : Nat) (hq : q < us.length) => live_cell h (i := o + n' * te.size + q) hk hp (by have := hv.1; omega)
    rw [← i2] at hsrc hlv
    have hr := run_append_room_src (P := P) w t tx ty el ti (under_of ht hu) i1 b o n' c v j us hsrc hroom (fun q hq => (hlv q hq).1) (fun q hq => (hlv q hq).2)
    obtain ⟨w2, hr2, hw2⟩ := storeMany (P := P) hp (o + n' * te.size) ds us 0 cs O w h hk hv hlf (by omega)
    have hr3 := run_storeCells_cells (P := P) b (o + n' * ti.size) us 0 w (by simpa using fun q hq => (hlv q hq).1) (by simpa using fun q hq => (hlv q hq).2) hsrc.one
    rw [i2] at hr3
    have := run_det hr2 hr3
    subst this
    rw [i2] at hr
    exact ⟨_, _, hr, by simpa using hw2, .asl hp hroom hm⟩

/-! ### There is none -/
/-- A new row, whose type is kept in mind. -/
def VH.pushS (O : VH) (cs : List MV) (t : TypeId) (n : Nat) : VH := (O.push (.cells cs)).push (.shape O.next t n)
theorem grow_ok (ht : TabOk P tab) (h : WR G O w) {t tx ty el : TypeId} {te : TyI} {d : TypeDesc} {n' c j : Nat} {A : Option Addr} {L ds : List MV} {us : List Value} (hu : (tab t).map TyI.under = some (.slice el)) (he : tab el = some te) (htx : P.underlying tx = some d) (hs : srcM O te.size m = some (j, ds)) (hd : srcT m d) (hlf : ds.all leafB = true)
    (hL : VRs G L us) (hLl : L.length = n' * te.size) (hold : (Builtin.firstCells te.size n' (.slice A n' c)).run P w.drew = .ok us.toArray w.drew) (hroom : c < n' + j) (hb : (n' + j) * te.bytes ≤ 140737488355328) (hm : n' + j ≤ maxLen) (hy : VR G m v) :
    ∃ c' w' H zs, n' + j ≤ c' ∧ c' ≤ maxLen ∧ zs.length = (c' - (n' + j)) * te.size ∧ (Builtin.append_ #[t, tx] ty #[.slice A n' c, v]).run P w = .ok (.slice (some ⟨w.heap.size, 0, none⟩) (n' + j) c') w' ∧ Gh.Le G H ∧ WR H (O.pushS (L ++ ds ++ zs) el (c' * te.size)) w' ∧ VR H (.asl O.next 0 (n' + j) c') (.slice (some ⟨w.heap.size, 0, none⟩) (n' + j) c') := by
  obtain ⟨ti, z, i1, i2, i3, i4, i5, i6⟩ := (ht _ te he).info
  obtain ⟨vs, hsrc, hv⟩ := srcM_ok (P := P) h hs hy htx hd hlf
  have hge := grownCap_ge w (n' + j) c el
  have hle := grownCap_le_maxLen w (n' + j) c el hm
  have hsrc' := hsrc
  rw [← i2] at hsrc' hold
  have hr := run_append_grow_src (P := P) w t tx ty el ti z (under_of ht hu) i1 i4 A n' c us hold v j vs hsrc' hroom (by simp only [maxLen] at hm; omega) (by rw [i3]; exact growslice_fits (by omega) hb)
  have hzc : VRs G (vzeros te.zero ((grownCap w (n' + j) c el - (n' + j)) * te.size)) (Builtin.zeroCells z.cells (grownCap w (n' + j) c el - (n' + j))).toList := by
    rcases Nat.eq_zero_or_pos te.zero.length with hz | hz
    · have hz0 : te.size = 0 := by have := (i6 G).1; rw [Array.length_toList, i5] at this; omega
      have : z.cells.size = 0 := by rw [i5, hz0]
      rw [hz0, Nat.mul_zero]
      refine ⟨by simp [vzeros, Builtin.zeroCells, this], fun i c u hc => by simp [vzeros] at hc⟩
    · have hzz := vzeros_ok (i6 G) hz ((grownCap w (n' + j) c el - (n' + j)) * te.size)
      rw [← i5] at hzz ⊢
      exact hzz
  have hall := (hL.append hv).append hzc
  obtain ⟨g1, g2⟩ := h.drew.push (cs := L ++ ds ++ vzeros te.zero ((grownCap w (n' + j) c el - (n' + j)) * te.size)) (C := (us ++ vs).toArray ++ Builtin.zeroCells z.cells (grownCap w (n' + j) c el - (n' + j))) el (by simpa using hall)
  have hvl : (us ++ vs).length = (n' + j) * te.size := by rw [List.length_append, hL.1, hLl, hsrc.newsLen, Nat.add_mul]
  have hsz : ((us ++ vs).toArray ++ Builtin.zeroCells z.cells (grownCap w (n' + j) c el - (n' + j))).size = grownCap w (n' + j) c el * te.size := by
    rw [Array.size_append, size_zc, i5, List.size_toArray, hvl, ← Nat.add_mul]
    congr 1; omega
  refine ⟨grownCap w (n' + j) c el, _, _, vzeros te.zero ((grownCap w (n' + j) c el - (n' + j)) * te.size), hge, hle, by simp [vzeros], hr, g1, g2.pushShape (upd_same _ _ _) ?_, .asl (upd_same _ _ _) hge hle⟩
  have : (w.drew.alloc (.cells ((us ++ vs).toArray ++ Builtin.zeroCells z.cells (grownCap w (n' + j) c el - (n' + j))) el)).heap[w.drew.heap.size]? = some (.cells ((us ++ vs).toArray ++ Builtin.zeroCells z.cells (grownCap w (n' + j) c el - (n' + j))) el) := by
    rw [heap_alloc_eq, if_pos rfl]
  show World.shape? _ w.drew.heap.size = _
  simp only [World.shape?, this, hsz]

/-! ### Rows that grow -/
/-- Block k is a row of elements of type el (of sz cells each), with room for c of them; it begins with the cells L. Nothing of it lies below B. -/
structure Row (O : VH) (el : TypeId) (sz B k c : Nat) (L : List MV) : Prop where
  cells : ∃ sp, O.hp k = some (.cells (L ++ sp)) ∧ (L ++ sp).length = c * sz
  shp : ∃ j, B ≤ j ∧ j < O.next ∧ O.hp j = some (.shape k el (c * sz))
  lo : B ≤ k
  hi : k < O.next
/-- All that was there stands as it did, but for block q. -/
structure Upd (O : VH) (q : Option Nat) (O' : VH) : Prop where
  next : O.next ≤ O'.next
  hp : ∀ i, i < O.next → q ≠ some i → O'.hp i = O.hp i
def gid : MV → Option Nat
  | .asl k _ _ _ => some k
  | .ptr k _ => some k
  | _ => none
/-- A slice that may be written and grow: none yet, or a row of its own. -/
def GR (O : VH) (el : TypeId) (sz B : Nat) (p : MV) (n : Nat) (L : List MV) : Prop :=
  (n = 0 ∧ L = [] ∧ (p = .sl 0 [] .nil ∨ p = .sl 0 [] .full)) ∨ ∃ k c, p = .asl k 0 n c ∧ n ≤ c ∧ L.length = n * sz ∧ Row O el sz B k c L
section
variable {el : TypeId} {sz B B' k c q : Nat} {L : List MV} {O1 : VH} {x : VObj}
theorem Upd.refl (O : VH) (q : Option Nat) : Upd O q O := ⟨Nat.le_refl _, fun _ _ _ => rfl⟩
theorem Upd.ge (h : O.Ge O1) (u : Upd O1 (some q) O') (hq : O.next ≤ q) : O.Ge O' := ⟨Nat.le_trans h.next u.next, fun i hi => (u.hp i (Nat.lt_of_lt_of_le hi h.next) (by intro e; injection e; omega)).trans (h.hp i hi)⟩
theorem Upd.geN (h : O.Ge O1) (u : Upd O1 none O') : O.Ge O' := ⟨Nat.le_trans h.next u.next, fun i hi => (u.hp i (Nat.lt_of_lt_of_le hi h.next) (by simp)).trans (h.hp i hi)⟩
theorem Upd.ofGe (h : O.Ge O') : Upd O none O' := ⟨h.next, fun i hi _ => h.hp i hi⟩
theorem Upd.trans {o : Option Nat} (h : Upd O o O1) (h2 : Upd O1 o O') : Upd O o O' := ⟨Nat.le_trans h.next h2.next, fun i hi hq => (h2.hp i (Nat.lt_of_lt_of_le hi h.next) hq).trans (h.hp i hi hq)⟩
theorem Upd.any {o : Option Nat} (h : Upd O none O') : Upd O o O' := ⟨h.next, fun i hi _ => h.hp i hi (by simp)⟩
/-- What is of a block newer than those that are spoken of. -/
theorem Upd.new (h : Upd O none O1) (h2 : Upd O1 (some q) O') (hq : O.next ≤ q) : Upd O none O' := ⟨Nat.le_trans h.next h2.next, fun i hi _ => (h2.hp i (Nat.lt_of_lt_of_le hi h.next) (by intro e; injection e; omega)).trans (h.hp i hi (by simp))⟩
theorem Upd.set : Upd O (some q) (O.set q x) := ⟨Nat.le_refl _, fun i _ h => VH.set_ne _ _ (fun e => h (by rw [e]))⟩
theorem Upd.push : Upd O none (O.push x) := ⟨Nat.le_succ _, fun i hi _ => VH.push_old _ _ hi⟩
theorem Upd.kill : Upd O (some q) (O.kill q) := ⟨Nat.le_refl _, fun i _ h => VH.kill_ne _ (fun e => h (by rw [e]))⟩
theorem Row.keep (h : Row O el sz B k c L) (u : Upd O (some q) O') (hq : q ≠ k) (hs : ∀ t n, O.hp q ≠ some (.shape k t n)) : Row O' el sz B k c L := by
  obtain ⟨sp, h1, h2⟩ := h.cells
  obtain ⟨j, h3, h4, h5⟩ := h.shp
  refine ⟨⟨sp, (u.hp k h.hi (by simpa using hq)).trans h1, h2⟩, ⟨j, h3, Nat.lt_of_lt_of_le h4 u.next, (u.hp j h4 ?_).trans h5⟩, h.lo, Nat.lt_of_lt_of_le h.hi u.next⟩
  intro e
  injection e with e
  subst e
  exact hs _ _ h5
theorem Row.keepN (h : Row O el sz B k c L) (u : Upd O none O') : Row O' el sz B k c L := by
  obtain ⟨sp, h1, h2⟩ := h.cells
  obtain ⟨j, h3, h4, h5⟩ := h.shp
  exact ⟨⟨sp, (u.hp k h.hi (by simp)).trans h1, h2⟩, ⟨j, h3, Nat.lt_of_lt_of_le h4 u.next, (u.hp j h4 (by simp)).trans h5⟩, h.lo, Nat.lt_of_lt_of_le h.hi u.next⟩
theorem GR.keepN {p : MV} {n : Nat} (h : GR O el sz B p n L) (u : Upd O none O') : GR O' el sz B p n L := by
  rcases h with h | ⟨k, c, h1, h2, h3, h4⟩
  · exact .inl h
  · exact .inr ⟨k, c, h1, h2, h3, h4.keepN u⟩
theorem GR.keep {p : MV} {n : Nat} (h : GR O el sz B p n L) (u : Upd O (some q) O') (hq : gid p ≠ some q) (hs : ∀ k t n, O.hp q ≠ some (.shape k t n)) : GR O' el sz B p n L := by
  rcases h with h | ⟨k, c, h1, h2, h3, h4⟩
  · exact .inl h
  · exact .inr ⟨k, c, h1, h2, h3, h4.keep u (fun e => hq (by rw [h1, e]; rfl)) (hs k)⟩
/-- The row's cells turned, as many as there were. -/
theorem Row.turn {L' : List MV} (h : Row O el sz B k c L) {sp : List MV} (hl : (L' ++ sp).length = c * sz) : Row (O.set k (.cells (L' ++ sp))) el sz B k c L' := by
  obtain ⟨j, h3, h4, h5⟩ := h.shp
  refine ⟨⟨sp, VH.set_get _ _ _, hl⟩, ⟨j, h3, h4, ?_⟩, h.lo, h.hi⟩
  rw [VH.set_ne _ _ (fun e => ?_)]
  · exact h5
  · subst e
    obtain ⟨sp, h1, _⟩ := h.cells
    rw [h1] at h5; cases h5
theorem Row.less {L' : List MV} {R : List MV} (h : Row O el sz B k c L) (hL : L = L' ++ R) : Row O el sz B k c L' := by
  obtain ⟨sp, h1, h2⟩ := h.cells
  exact ⟨⟨R ++ sp, by rw [h1, hL, List.append_assoc], by rw [← h2, hL, List.append_assoc]⟩, h.shp, h.lo, h.hi⟩
theorem Row.wider (h : Row O el sz B k c L) (hB : B' ≤ B) : Row O el sz B' k c L := by
  obtain ⟨j, h3, h4, h5⟩ := h.shp
  exact ⟨h.cells, ⟨j, Nat.le_trans hB h3, h4, h5⟩, Nat.le_trans hB h.lo, h.hi⟩
theorem Row.pushS {cs : List MV} {t : TypeId} {sp : List MV} (hl : (L ++ sp).length = c * sz) (hB : B ≤ O.next) : Row (O.pushS (L ++ sp) el (c * sz)) el sz B O.next c L :=
  ⟨⟨sp, (VH.push_old _ _ (by show O.next < O.next + 1; omega)).trans (VH.push_new _ _), hl⟩, ⟨O.next + 1, by omega, by show O.next + 1 < O.next + 1 + 1; omega, VH.push_new _ _⟩, hB, by show O.next < O.next + 1 + 1; omega⟩
theorem setMany_app (L ds sp : List MV) : setMany (L ++ sp) L.length ds = L ++ ds.take sp.length ++ sp.drop ds.length := by
  induction ds generalizing L sp with
  | nil => simp [setMany]
  | cons d ds ih =>
    cases sp with
    | nil =>
      simp only [List.append_nil, List.length_nil, List.take_zero, List.drop_nil, setMany]
      have : ∀ (ds : List MV) (o : Nat), L.length ≤ o → setMany L o ds = L := by
        intro ds
        induction ds with
        | nil => intro o _; rfl
        | cons x xs ih => intro o ho; rw [setMany, List.set_eq_of_length_le ho]; exact ih (o + 1) (by omega)
      rw [List.set_eq_of_length_le (Nat.le_refl _)]
      exact this ds _ (by omega)
    | cons s sp =>
      have := ih (L ++ [d]) sp
      simp only [setMany]
      rw [List.set_append_right _ _ (Nat.le_refl _), Nat.sub_self, List.set_cons_zero]
      simp only [List.append_assoc, List.singleton_append, List.length_append, List.length_cons, List.length_nil] at this
      rw [this]
      simp
end
theorem VL.grow (ht : TabOk P tab) {el : TypeId} {te : TyI} {B n' j : Nat} {L ds : List MV} {p q : MV} {dx : TypeDesc} {d : Option Tmp} {x y : Operand} {t tx ty : TypeId} {ps : String} {af : Array Edge} {g : Option (Nat × Bool)} {LL : List (Fl × Oper)} (hmd : md = .plain ∨ md = .any)
    (hr : GR O el te.size B p n' L) (hs : srcM O te.size q = some (j, ds)) (hlf : ds.all leafB = true) (hu : (tab t).map TyI.under = some (.slice el)) (he : tab el = some te) (htx : (tab tx).map TyI.under = some dx) (hd' : srcT q dx) (hb : (n' + j) * te.bytes ≤ 140737488355328) (hm : n' + j ≤ maxLen) (hB : B ≤ O.next)
    (hx : ev e x = some p) (hy : ev e y = some q) (hg : vguard ops (.mk d (.call { callee := .builtin .append, args := #[x, y], argTypes := #[t, tx] }) ty ps af g) e = some true) (hd : dstB n d = true)
    (h : ∀ m O', GR O' el te.size B m (n' + j) (L ++ ds) → Upd O (gid p) O' → (gid p = none → O.Ge O') → ((∃ k c, m = .asl k 0 (n' + j) c ∧ (gid p = some k ∨ (O.next ≤ k ∧ j ≠ 0))) ∨ (j = 0 ∧ m = p ∧ O' = O)) → WL P tab n D md ops Q LL (putM d m e) O') :
    VL P n D md ops ((.one, .mk d (.call { callee := .builtin .append, args := #[x, y], argTypes := #[t, tx] }) ty ps af g) :: LL) e O Q := by
  refine VL.stepP (M := fun m O' => GR O' el te.size B m (n' + j) (L ++ ds) ∧ Upd O (gid p) O' ∧ (gid p = none → O.Ge O') ∧ ((∃ k c, m = .asl k 0 (n' + j) c ∧ (gid p = some k ∨ (O.next ≤ k ∧ j ≠ 0))) ∨ (j = 0 ∧ m = p ∧ O' = O))) hmd hg hd (fun G a w hw hf => ?_) fun m O' ⟨h1, h2, h3, h4⟩ => WL.sound ht (h m O' h1 h2 h3 h4)
  have hxv := hf.ev hx
  have hyv := hf.ev hy
  have hty := under_of ht htx
  have fin : ∀ {m O' u w' H}, (GR O' el te.size B m (n' + j) (L ++ ds) ∧ Upd O (gid p) O' ∧ (gid p = none → O.Ge O') ∧ ((∃ k c, m = .asl k 0 (n' + j) c ∧ (gid p = some k ∨ (O.next ≤ k ∧ j ≠ 0))) ∨ (j = 0 ∧ m = p ∧ O' = O))) → (Builtin.append_ #[t, tx] ty #[a.eval x, a.eval y]).run P w = .ok u w' → Gh.Le G H → WR H O' w' → VR H m u →
      ∃ m O' u w' H, (GR O' el te.size B m (n' + j) (L ++ ds) ∧ Upd O (gid p) O' ∧ (gid p = none → O.Ge O') ∧ ((∃ k c, m = .asl k 0 (n' + j) c ∧ (gid p = some k ∨ (O.next ≤ k ∧ j ≠ 0))) ∨ (j = 0 ∧ m = p ∧ O' = O))) ∧ (execOp a.eval (.mk d (.call { callee := .builtin .append, args := #[x, y], argTypes := #[t, tx] }) ty ps af g)).run P w = .ok (.value u) w' ∧ Gh.Le G H ∧ WR H O' w' ∧ VR H m u := fun hM hrun h1 h2 h3 =>
    ⟨_, _, _, _, _, hM, by simp only [execOp, resolve, invoke, builtin, List.map_toArray, List.map_cons, List.map_nil, Sem.run_bind, Sem.run_pure, Result.andThen_ok] <;> simp [hrun], h1, h2, h3⟩
  obtain ⟨vs, hsrc, hv⟩ := srcM_ok (P := P) hw hs hyv hty hd' hlf
  have hdl : ds.length = j * te.size := by rw [← hv.1]; exact hsrc.newsLen
  rcases hr with ⟨rfl, rfl, hp⟩ | ⟨k, c, rfl, hnc, hLl, hrow⟩
  · have hA : ∃ A, a.eval x = .slice A 0 0 ∧ (∀ w', (Builtin.firstCells te.size 0 (.slice A 0 0)).run P w' = .ok #[] w') := by
      generalize a.eval x = u at hxv
      have key : ∀ A : Option Addr, ∀ w', (Builtin.firstCells te.size 0 (.slice A 0 0)).run P w' = .ok #[] w' := fun A w' => by
        cases A <;> simp [Builtin.firstCells, loadCells, loadCellsFrom]
      rcases hp with rfl | rfl
      · cases hxv with
        | slnil => exact ⟨_, rfl, key _⟩
        | sl h1 h2 h3 h4 h5 h6 => exact h6.elim
      · cases hxv with
        | sl h1 h2 h3 h4 h5 h6 =>
          have h6 : _ = 0 := h6
          subst h6
          exact ⟨_, rfl, key _⟩
    obtain ⟨A, hA, hfc⟩ := hA
    have hgid : gid p = none := by rcases hp with rfl | rfl <;> rfl
    by_cases hj : j = 0
    · subst hj
      have hds : ds = [] := List.eq_nil_of_length_eq_zero (by simpa using hdl)
      subst hds
      refine fin (m := p) (O' := O) (u := a.eval x) (w' := w) (H := G) ⟨.inl ⟨rfl, rfl, hp⟩, Upd.refl _ _, fun _ => VH.Ge.refl _, .inr ⟨rfl, rfl, rfl⟩⟩ ?_ (Gh.Le.refl G) hw hxv
      have hus : vs = [] := by have := hv.1; simpa using this
      subst hus
      rw [hA]
      have hun := under_of ht hu
      obtain ⟨ti, z, i1, i2, _⟩ := (ht _ te he).info
      rcases hsrc.kind with ⟨e', hk⟩ | hk <;> cases A <;> simp [Builtin.append_, run_underlying hun, run_underlying hk, run_sz (ht _ te he), hsrc.len, hsrc.cells, storeCells]
    · rw [hA] at fin
      obtain ⟨c', w', H, zs, g1, g2, g3, g4, g5, g6, g7⟩ := grow_ok (P := P) ht hw (n' := 0) (c := 0) (A := A) (L := []) (us := []) (ty := ty) hu he hty hs hd' hlf VRs.nil (by simp) (hfc _) (by omega) hb hm hyv
      refine fin ⟨.inr ⟨O.next, c', rfl, g1, by rw [List.length_append, hdl]; simp, ?_⟩, ?_, fun _ => ?_, .inl ⟨_, _, rfl, .inr ⟨Nat.le_refl _, hj⟩⟩⟩ g4 g5 g6 g7
      · refine Row.pushS (cs := []) (t := el) ?_ hB
        rw [List.length_append, g3, List.length_append, hdl, List.length_nil, Nat.zero_add, ← Nat.add_mul]
        congr 1; omega
      · rw [hgid]; exact Upd.push.trans Upd.push
      · exact ((VH.Ge.refl O).push _).push _
  · obtain ⟨sp, hcs, hcl⟩ := hrow.cells
    generalize hax : a.eval x = u at hxv
    have hxv' := hxv
    cases hxv' with
    | asl hp hn hmx =>
      rename_i b
      rw [hax] at fin
      have hmul : (n' + j) * te.size = n' * te.size + j * te.size := Nat.add_mul _ _ _
      by_cases hroom : n' + j ≤ c
      · have hle : (n' + j) * te.size ≤ c * te.size := Nat.mul_le_mul_right _ hroom
        obtain ⟨w', A, g1, g2, g3⟩ := room_ok (P := P) (ty := ty) ht hw hu he hty hcs hs hd' hlf hroom (by rw [hcl, hdl]; omega) hxv hyv
        rw [Nat.zero_add, ← hLl, setMany_app] at g2
        have hspl : ds.length ≤ sp.length := by
          rw [List.length_append] at hcl; omega
        rw [List.take_of_length_le hspl] at g2
        refine fin ⟨.inr ⟨k, c, rfl, hroom, by rw [List.length_append, hLl, hdl, hmul], hrow.turn ?_⟩, Upd.set, (fun h => by cases h), .inl ⟨_, _, rfl, .inl rfl⟩⟩ g1 (Gh.Le.refl G) g2 g3
        rw [List.length_append, List.length_append, List.length_drop]
        rw [List.length_append] at hcl; omega
      · obtain ⟨b', C, T, d1, d2, d3⟩ := hw.cells k _ hcs
        rw [hp] at d1; injection d1 with d1; subst d1
        have hL := d3.take L.length
        rw [List.take_left, List.take_take, Nat.min_eq_left (by rw [List.length_append]; omega)] at hL
        have hold : (Builtin.firstCells te.size n' (.slice (some ⟨b, 0, none⟩) n' c)).run P w.drew = .ok (C.toList.take L.length).toArray w.drew := by
          refine run_firstCells_some (P := P) w.drew te.size n' ⟨b, 0, none⟩ n' c _ (by rw [hL.1, hLl]) fun i u hu => ?_
          rw [Addr.add_lit, Nat.zero_add]
          rw [List.getElem?_take] at hu
          split at hu
          · have hd2 : w.drew.heap[b]? = some (.cells C T.t T.fr) := d2
            simp only [World.cell?, hd2, Option.isSome_none, Bool.false_eq_true, if_false]; simpa using hu
          · cases hu
        obtain ⟨c', w', H, zs, g1, g2, g3, g4, g5, g6, g7⟩ := grow_ok (P := P) (ty := ty) ht hw (n' := n') (c := c) (A := some ⟨b, 0, none⟩) (L := L) hu he hty hs hd' hlf hL hLl hold (by omega) hb hm hyv
        refine fin ⟨.inr ⟨O.next, c', rfl, g1, by rw [List.length_append, hLl, hdl, hmul], ?_⟩, (Upd.push.trans Upd.push).any, (fun h => by cases h), .inl ⟨_, _, rfl, .inr ⟨Nat.le_refl _, by omega⟩⟩⟩ g4 g5 g6 g7
        refine Row.pushS (cs := []) (t := el) ?_ hB
        rw [List.length_append, g3, List.length_append, hLl, hdl, ← hmul, ← Nat.add_mul]
        congr 1; omega
/-- There is room: the row stays where it is. -/
theorem VL.room (ht : TabOk P tab) {el : TypeId} {te : TyI} {n' j k o c : Nat} {cs ds : List MV} {q : MV} {dx : TypeDesc} {d : Option Tmp} {x y : Operand} {t tx ty : TypeId} {ps : String} {af : Array Edge} {g : Option (Nat × Bool)} {LL : List (Fl × Oper)} (hmd : md = .plain ∨ md = .any)
    (hk : O.hp k = some (.cells cs)) (hs : srcM O te.size q = some (j, ds)) (hlf : ds.all leafB = true) (hu : (tab t).map TyI.under = some (.slice el)) (he : tab el = some te) (htx : (tab tx).map TyI.under = some dx) (hd' : srcT q dx) (hroom : n' + j ≤ c) (hle : o + n' * te.size + ds.length ≤ cs.length)
    (hx : ev e x = some (.asl k o n' c)) (hy : ev e y = some q) (hg : vguard ops (.mk d (.call { callee := .builtin .append, args := #[x, y], argTypes := #[t, tx] }) ty ps af g) e = some true) (hd : dstB n d = true)
    (h : WL P tab n D md ops Q LL (putM d (.asl k o (n' + j) c) e) (O.set k (.cells (setMany cs (o + n' * te.size) ds)))) :
    VL P n D md ops ((.one, .mk d (.call { callee := .builtin .append, args := #[x, y], argTypes := #[t, tx] }) ty ps af g) :: LL) e O Q := by
  refine VL.stepP (M := fun m O' => m = .asl k o (n' + j) c ∧ O' = O.set k (.cells (setMany cs (o + n' * te.size) ds))) hmd hg hd (fun G a w hw hf => ?_) (by rintro m O' ⟨rfl, rfl⟩; exact WL.sound ht h)
  have hxv := hf.ev hx
  have hyv := hf.ev hy
  generalize hax : a.eval x = u at hxv
  obtain ⟨w', A, g1, g2, g3⟩ := room_ok (P := P) (ty := ty) ht hw hu he (under_of ht htx) hk hs hd' hlf hroom hle hxv hyv
  exact ⟨_, _, _, w', G, ⟨rfl, rfl⟩, by simp only [execOp, resolve, invoke, builtin, List.map_toArray, List.map_cons, List.map_nil, Sem.run_bind, Sem.run_pure, Result.andThen_ok] <;> simp [hax, g1], Gh.Le.refl G, g2, g3⟩
end
end Go.Proofs.YtjbpnhmjnkolbaaDoor
