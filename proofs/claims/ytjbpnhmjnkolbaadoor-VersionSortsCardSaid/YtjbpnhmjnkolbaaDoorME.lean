/-
  Texts Vh Vi Vj Vk Vl, one behind the other.
-/
import Derived.Test.YtjbpnhmjnkolbaaDoorMD
import Derived.Deep.AppendSrc
import Derived.Lib.UnsafeStr
import Derived.Laws.StructEq
/-
  THE VALUE MACHINE, 19: rows that may be written and grow; a text laid out of bytes for good; pointers turned to unsafe.Pointer and back; steps of which the world chooses something, in regions of every kind.
-/
set_option linter.unusedVariables false
set_option linter.unusedSimpArgs false
namespace Go.Proofs.YtjbpnhmjnkolbaaDoor
open Go.RowKit

section
variable {G H : Gh} {n : Sz} {D : List Deferred} {e : Env} {a : Act} {P : Program} {tab : Tab} {O O' : VH} {w : World} {m m' : MV} {u v : Value} {ops : Array Oper} {Q : VQ} {md : Md}

/-- What an operation may give, whatever the world chooses; what may be written may be turned. -/
def YieldsM (P : Program) (n : Sz) (D : List Deferred) (o : Oper) (e : Env) (O : VH) (M : MV → VH → Prop) : Prop :=
  ∀ G a w, WR G O w → FR G n D e a → ∃ m O' u w' H, M m O' ∧ (execOp a.eval o).run P w = .ok (.value u) w' ∧ Gh.Le G H ∧ WR H O' w' ∧ VR H m u
theorem VOne.stepM {i : Nat} {o : Oper} {M : MV → VH → Prop} {K : Env → VH → Prop} (ho : ops[i]? = some o) (hg : vguard ops o e = some true) (hd : dstB n o.dst = true) (hy : YieldsM P n D o e O M) (h : ∀ m O', M m O' → K (putM o.dst m e) O') : VOne P n D ops i e O Q K := by
  intro G a w hw hfr
  obtain ⟨m, O', u, w', H, hM, hr, h1, h2, h3⟩ := hy G a w hw hfr
  simp only [wpOp, ho, vguard_ok hfr hg, if_true]
  refine .inl ?_
  unfold Oper.wp
  rw [hr]
  exact ⟨_, _, H, h1, h2, (hfr.mono h1).putM hd h3, h _ _ hM⟩
theorem VL.stepM {o : Oper} {L : List (Fl × Oper)} {M : MV → VH → Prop} (hg : vguard ops o e = some true) (hd : dstB n o.dst = true) (hA : opA o.op = true → ∀ brk, md = .held brk → brk ≠ []) (hb : ∀ brk, md = .held brk → opA o.op = false ∨ brk ≠ []) (hy : YieldsM P n D o e O M)
    (hkeep : ∀ brk, md = .held brk → ∀ i, ops[i]? = some o → brk.contains i = true) (h : ∀ m O', M m O' → VL P n D md ops L (putM o.dst m e) O' Q) : VL P n D md ops ((.one, o) :: L) e O Q := by
  intro fuel listed ix hf hp
  match ix, hf with
  | (i, g) :: ix, hf =>
    obtain ⟨rfl, ho, hf⟩ := hf
    cases md with
    | plain => exact VOps.one (VOne.stepM ho hg hd hy fun m O' hM => h m O' hM 0 #[] ix hf (fun h => absurd rfl h))
    | any =>
      obtain ⟨h1, h2⟩ := hp (by simp)
      cases fuel with
      | zero => cases h2
      | succ fuel =>
        simp only [planOk, Bool.and_eq_true] at h2
        have hr : Region.ready .any ops listed = [i] := by simpa using h2.1
        exact VAny.all hr (by simp) fun j hj => by
          obtain rfl : j = i := by simpa using hj
          exact VOne.stepM ho hg hd hy fun m O' hM => h m O' hM fuel (listed.setIfInBounds j true) ix hf (fun _ => ⟨h1, h2.2⟩)
    | reads =>
      obtain ⟨h1, h2⟩ := hp (by simp)
      cases fuel with
      | zero => cases h2
      | succ fuel =>
        simp only [planOk, Bool.and_eq_true] at h2
        exact absurd h2.1 (by simp)
    | held brk =>
      obtain ⟨h1, h2⟩ := hp (by simp)
      cases fuel with
      | zero => cases h2
      | succ fuel =>
        simp only [planOk, Bool.and_eq_true] at h2
        have hr : Region.ready .any ops listed = [i] := by simpa using h2.1.1
        have hbb : ∀ j, (listed.setIfInBounds i true).getD j true = false ∨ j = i → brk.contains j = true := by
          rcases held_one ho h2.1.2 with ⟨h3, _⟩ | h3
          · rw [hkeep brk rfl i ho] at h3; cases h3
          · exact h3
        exact VAnyT.oneB hr hbb (VOne.stepM ho hg hd hy fun m O' hM => h m O' hM fuel (listed.setIfInBounds i true) ix hf (fun _ => ⟨h1, h2.2⟩))
theorem VL.stepP {o : Oper} {L : List (Fl × Oper)} {M : MV → VH → Prop} (hmd : md = .plain ∨ md = .any) (hg : vguard ops o e = some true) (hd : dstB n o.dst = true) (hy : YieldsM P n D o e O M) (h : ∀ m O', M m O' → VL P n D md ops L (putM o.dst m e) O' Q) : VL P n D md ops ((.one, o) :: L) e O Q := by
  rcases hmd with rfl | rfl
  · exact VL.stepM hg hd (fun _ _ h => by cases h) (fun _ h => by cases h) hy (fun _ h => by cases h) h
  · exact VL.stepM hg hd (fun _ _ h => by cases h) (fun _ h => by cases h) hy (fun _ h => by cases h) h

/-! ### What is appended -/
def srcM (O : VH) (sz : Nat) : MV → Option (Nat × List MV)
  | .sl k ds _ => if ds.length = k * sz then some (k, ds) else none
  | .asl k o n _ => match O.hp k with
    | some (.cells cs) => if o + n * sz ≤ cs.length then some (n, (cs.drop o).take (n * sz)) else none
    | _ => none
  | .str l => if sz = 1 then some (l.length, l.map byM) else none
  | _ => none
/-- Of which kind its type is. -/
def srcT : MV → TypeDesc → Prop
  | .str _, .string => True
  | .str _, _ => False
  | _, .slice _ => True
  | _, _ => False
theorem strCells_eq (l : List UInt8) : byteCells (⟨⟨l⟩⟩ : ByteArray) = l.map fun b => Value.int .u8 b.toNat := by simp [byteCells]
theorem srcM_ok (h : WR G O w) {sz k : Nat} {ds : List MV} {tx : TypeId} {d : TypeDesc} (hs : srcM O sz m = some (k, ds)) (hx : VR G m u) (ht : P.underlying tx = some d) (hd : srcT m d) (hlf : ds.all leafB = true) : ∃ us, Src P sz tx u k us w ∧ VRs G ds us := by
  unfold srcM at hs
  split at hs
  · split at hs
    · rename_i k' ds' tk hl
      injection hs with hs; injection hs with e1 e2; subst e1; subst e2
      have hk : ∃ e', P.underlying tx = some (.slice e') := by
        cases d <;> simp only [srcT] at hd
        exact ⟨_, ht⟩
      obtain ⟨e', hk⟩ := hk
      have nil : ∀ A c, k' = 0 → ds' = [] → VR G (.sl k' ds' tk) (.slice A 0 c) → ∃ us, Src P sz tx (.slice A 0 c) k' us w ∧ VRs G ds' us := fun A c e1 e2 _ => by
        subst e1; subst e2
        refine ⟨[], ?_, VRs.nil⟩
        cases A with
        | none => exact Src.ofNil w hk c
        | some A => exact Src.ofSlice w hk A 0 c [] (by simp) (fun j u hu => by simp at hu) (fun u hu => by cases hu)
      cases hx with
      | slnil => exact nil _ _ rfl rfl .slnil
      | sl0 h1 => exact nil _ _ rfl rfl (.sl0 h1)
      | sl0n => exact nil _ _ rfl rfl .sl0n
      | sl h1 h2 h3 h4 h5 h6 =>
        rename_i us c b o
        have hv : VRs G ds' us := ⟨h1, h3⟩
        exact ⟨us, Src.ofSlice w hk _ k' c us (by rw [h1, hl]) (fun j u hu => by rw [Addr.add_lit]; exact h.com _ _ _ (h2 j u hu)) (leafs_one hv hlf), hv⟩
    · cases hs
  · rename_i k' o n' c'
    split at hs
    · rename_i cs hk'
      split at hs
      · rename_i hle
        injection hs with hs; injection hs with e1 e2; subst e1; subst e2
        have hk : ∃ e', P.underlying tx = some (.slice e') := by
          cases d <;> simp only [srcT] at hd
          exact ⟨_, ht⟩
        obtain ⟨e', hk⟩ := hk
        cases hx with
        | asl hp hn hm =>
          rename_i b
          obtain ⟨b', C, T, h1, h2, h3⟩ := h.cells k' cs hk'
          rw [hp] at h1; injection h1 with h1; subst h1
          have hv := (h3.drop o).take (n' * sz)
          refine ⟨_, Src.ofSlice w hk ⟨b, o, none⟩ n' c' _ ?_ (fun j u hu => ?_) (leafs_one hv hlf), hv⟩
          · rw [hv.1]; simp; omega
          · rw [Addr.add_lit]
            rw [List.getElem?_take] at hu
            split at hu
            · rw [List.getElem?_drop, List.getElem?_take] at hu
              split at hu
              · simp only [World.cell?, h2, Option.isSome_none, Bool.false_eq_true, if_false]; simpa using hu
              · cases hu
            · cases hu
      · cases hs
    · cases hs
  · rename_i l
    split at hs
    · rename_i hsz
      subst hsz
      injection hs with hs; injection hs with e1 e2; subst e1; subst e2
      have hk : P.underlying tx = some .string := by
        cases d <;> simp only [srcT] at hd
        exact ht
      cases hx
      refine ⟨_, Src.ofString w hk ⟨⟨l⟩⟩, ?_⟩
      rw [strCells_eq]; exact bytes_VRs l
    · cases hs
  · cases hs

/-! ### There is room -/
theorem run_det {α : Type} {s : Sem α} {x y : α} {w1 w2 : World} (h1 : s.run P w = .ok x w1) (h2 : s.run P w = .ok y w2) : w1 = w2 := by
  rw [h1] at h2; injection h2
theorem live_cell (h : WR G O w) {k b i : Nat} {cs : List MV} (hk : O.hp k = some (.cells cs)) (hp : G.phi k = some b) (hi : i < cs.length) : (w.cell? ⟨b, i, none⟩).isSome = true ∧ w.frozen? ⟨b, i, none⟩ = false := by
  obtain ⟨b', C, T, e1, e2, e3⟩ := h.cells k cs hk
  rw [hp] at e1; injection e1 with e1; subst e1
  have hlen : i < C.size := by have := e3.1; simp at this; omega
  constructor
  · simp only [World.cell?, e2, Option.isSome_none, Bool.false_eq_true, if_false, Array.getElem?_eq_getElem hlen, Option.isSome_some]
  · obtain ⟨t', ⟨lo, hi⟩, hok⟩ := T
    dsimp only at e2 hok
    simp only [World.frozen?, e2, Bool.and_eq_false_imp, decide_eq_true_eq, decide_eq_false_iff_not]
    intro; omega
theorem room_ok (ht : TabOk P tab) (h : WR G O w) {t tx ty el : TypeId} {te : TyI} {d : TypeDesc} {k o n' c j : Nat} {cs ds : List MV} (hu : (tab t).map TyI.under = some (.slice el)) (he : tab el = some te) (htx : P.underlying tx = some d) (hk : O.hp k = some (.cells cs)) (hs : srcM O te.size m = some (j, ds)) (hd : srcT m d) (hlf : ds.all leafB = true)
    (hroom : n' + j ≤ c) (hle : o + n' * te.size + ds.length ≤ cs.length) (hx : VR G (.asl k o n' c) u) (hy : VR G m v) :
    ∃ w' A, (Builtin.append_ #[t, tx] ty #[u, v]).run P w = .ok (.slice A (n' + j) c) w' ∧ WR G (O.set k (.cells (setMany cs (o + n' * te.size) ds))) w' ∧ VR G (.asl k o (n' + j) c) (.slice A (n' + j) c) := by
  obtain ⟨ti, z, i1, i2, i3, i4, i5, i6⟩ := (ht _ te he).info
  obtain ⟨us, hsrc, hv⟩ := srcM_ok (P := P) h hs hy htx hd hlf
  cases hx with
  | asl hp hn hm =>
    rename_i b
    have hlv := fun (q : Nat) (hq : q < us.length) => live_cell h (i := o + n' * te.size + q) hk hp (by have := hv.1; omega)
    rw [← i2] at hsrc hlv
    have hr := run_append_room_src (P := P) w t tx ty el ti (under_of ht hu) i1 b o n' c v j us hsrc hroom (fun q hq => (hlv q hq).1) (fun q hq => (hlv q hq).2)
    obtain ⟨w2, hr2, hw2⟩ := storeMany (P := P) hp (o + n' * te.size) ds us 0 cs O w h hk hv hlf (by omega)
    have hr3 := run_storeCells_cells (P := P) b (o + n' * ti.size) us 0 w (by simpa using fun q hq => (hlv q hq).1) (by simpa using fun q hq => (hlv q hq).2) hsrc.one
    rw [i2] at hr3
    have := run_det hr2 hr3
    subst this
    rw [i2] at hr
    exact ⟨_, _, hr, by simpa using hw2, .asl hp hroom hm⟩

/-! ### There is none -/
/-- A new row, whose type is kept in mind. -/
def VH.pushS (O : VH) (cs : List MV) (t : TypeId) (n : Nat) : VH := (O.push (.cells cs)).push (.shape O.next t n)
theorem grow_ok (ht : TabOk P tab) (h : WR G O w) {t tx ty el : TypeId} {te : TyI} {d : TypeDesc} {n' c j : Nat} {A : Option Addr} {L ds : List MV} {us : List Value} (hu : (tab t).map TyI.under = some (.slice el)) (he : tab el = some te) (htx : P.underlying tx = some d) (hs : srcM O te.size m = some (j, ds)) (hd : srcT m d) (hlf : ds.all leafB = true)
    (hL : VRs G L us) (hLl : L.length = n' * te.size) (hold : (Builtin.firstCells te.size n' (.slice A n' c)).run P w.drew = .ok us.toArray w.drew) (hroom : c < n' + j) (hb : (n' + j) * te.bytes ≤ 140737488355328) (hm : n' + j ≤ maxLen) (hy : VR G m v) :
    ∃ c' w' H zs, n' + j ≤ c' ∧ c' ≤ maxLen ∧ zs.length = (c' - (n' + j)) * te.size ∧ (Builtin.append_ #[t, tx] ty #[.slice A n' c, v]).run P w = .ok (.slice (some ⟨w.heap.size, 0, none⟩) (n' + j) c') w' ∧ Gh.Le G H ∧ WR H (O.pushS (L ++ ds ++ zs) el (c' * te.size)) w' ∧ VR H (.asl O.next 0 (n' + j) c') (.slice (some ⟨w.heap.size, 0, none⟩) (n' + j) c') := by
  obtain ⟨ti, z, i1, i2, i3, i4, i5, i6⟩ := (ht _ te he).info
  obtain ⟨vs, hsrc, hv⟩ := srcM_ok (P := P) h hs hy htx hd hlf
  have hge := grownCap_ge w (n' + j) c el
  have hle := grownCap_le_maxLen w (n' + j) c el hm
  have hsrc' := hsrc
  rw [← i2] at hsrc' hold
  have hr := run_append_grow_src (P := P) w t tx ty el ti z (under_of ht hu) i1 i4 A n' c us hold v j vs hsrc' hroom (by simp only [maxLen] at hm; omega) (by rw [i3]; exact growslice_fits (by omega) hb)
  have hzc : VRs G (vzeros te.zero ((grownCap w (n' + j) c el - (n' + j)) * te.size)) (Builtin.zeroCells z.cells (grownCap w (n' + j) c el - (n' + j))).toList := by
    rcases Nat.eq_zero_or_pos te.zero.length with hz | hz
    · have hz0 : te.size = 0 := by have := (i6 G).1; rw [Array.length_toList, i5] at this; omega
      have : z.cells.size = 0 := by rw [i5, hz0]
      rw [hz0, Nat.mul_zero]
      refine ⟨by simp [vzeros, Builtin.zeroCells, this], fun i c u hc => by simp [vzeros] at hc⟩
    · have hzz := vzeros_ok (i6 G) hz ((grownCap w (n' + j) c el - (n' + j)) * te.size)
      rw [← i5] at hzz ⊢
      exact hzz
  have hall := (hL.append hv).append hzc
  obtain ⟨g1, g2⟩ := h.drew.push (cs := L ++ ds ++ vzeros te.zero ((grownCap w (n' + j) c el - (n' + j)) * te.size)) (C := (us ++ vs).toArray ++ Builtin.zeroCells z.cells (grownCap w (n' + j) c el - (n' + j))) el (by simpa using hall)
  have hvl : (us ++ vs).length = (n' + j) * te.size := by rw [List.length_append, hL.1, hLl, hsrc.newsLen, Nat.add_mul]
  have hsz : ((us ++ vs).toArray ++ Builtin.zeroCells z.cells (grownCap w (n' + j) c el - (n' + j))).size = grownCap w (n' + j) c el * te.size := by
    rw [Array.size_append, size_zc, i5, List.size_toArray, hvl, ← Nat.add_mul]
    congr 1; omega
  refine ⟨grownCap w (n' + j) c el, _, _, vzeros te.zero ((grownCap w (n' + j) c el - (n' + j)) * te.size), hge, hle, by simp [vzeros], hr, g1, g2.pushShape (upd_same _ _ _) ?_, .asl (upd_same _ _ _) hge hle⟩
  have : (w.drew.alloc (.cells ((us ++ vs).toArray ++ Builtin.zeroCells z.cells (grownCap w (n' + j) c el - (n' + j))) el)).heap[w.drew.heap.size]? = some (.cells ((us ++ vs).toArray ++ Builtin.zeroCells z.cells (grownCap w (n' + j) c el - (n' + j))) el) := by
    rw [heap_alloc_eq, if_pos rfl]
  show World.shape? _ w.drew.heap.size = _
  simp only [World.shape?, this, hsz]

/-! ### Rows that grow -/
/-- Block k is a row of elements of type el (of sz cells each), with room for c of them; it begins with the cells L. Nothing of it lies below B. -/
structure Row (O : VH) (el : TypeId) (sz B k c : Nat) (L : List MV) : Prop where
  cells : ∃ sp, O.hp k = some (.cells (L ++ sp)) ∧ (L ++ sp).length = c * sz
  shp : ∃ j, B ≤ j ∧ j < O.next ∧ O.hp j = some (.shape k el (c * sz))
  lo : B ≤ k
  hi : k < O.next
/-- All that was there stands as it did, but for block q. -/
structure Upd (O : VH) (q : Option Nat) (O' : VH) : Prop where
  next : O.next ≤ O'.next
  hp : ∀ i, i < O.next → q ≠ some i → O'.hp i = O.hp i
def gid : MV → Option Nat
  | .asl k _ _ _ => some k
  | .ptr k _ => some k
  | _ => none
/-- A slice that may be written and grow: none yet, or a row of its own. -/
def GR (O : VH) (el : TypeId) (sz B : Nat) (p : MV) (n : Nat) (L : List MV) : Prop :=
  (n = 0 ∧ L = [] ∧ (p = .sl 0 [] .nil ∨ p = .sl 0 [] .full)) ∨ ∃ k c, p = .asl k 0 n c ∧ n ≤ c ∧ L.length = n * sz ∧ Row O el sz B k c L
section
variable {el : TypeId} {sz B B' k c q : Nat} {L : List MV} {O1 : VH} {x : VObj}
theorem Upd.refl (O : VH) (q : Option Nat) : Upd O q O := ⟨Nat.le_refl _, fun _ _ _ => rfl⟩
theorem Upd.ge (h : O.Ge O1) (u : Upd O1 (some q) O') (hq : O.next ≤ q) : O.Ge O' := ⟨Nat.le_trans h.next u.next, fun i hi => (u.hp i (Nat.lt_of_lt_of_le hi h.next) (by intro e; injection e; omega)).trans (h.hp i hi)⟩
theorem Upd.geN (h : O.Ge O1) (u : Upd O1 none O') : O.Ge O' := ⟨Nat.le_trans h.next u.next, fun i hi => (u.hp i (Nat.lt_of_lt_of_le hi h.next) (by simp)).trans (h.hp i hi)⟩
theorem Upd.ofGe (h : O.Ge O') : Upd O none O' := ⟨h.next, fun i hi _ => h.hp i hi⟩
theorem Upd.trans {o : Option Nat} (h : Upd O o O1) (h2 : Upd O1 o O') : Upd O o O' := ⟨Nat.le_trans h.next h2.next, fun i hi hq => (h2.hp i (Nat.lt_of_lt_of_le hi h.next) hq).trans (h.hp i hi hq)⟩
theorem Upd.any {o : Option Nat} (h : Upd O none O') : Upd O o O' := ⟨h.next, fun i hi _ => h.hp i hi (by simp)⟩
/-- What is of a block newer than those that are spoken of. -/
theorem Upd.new (h : Upd O none O1) (h2 : Upd O1 (some q) O') (hq : O.next ≤ q) : Upd O none O' := ⟨Nat.le_trans h.next h2.next, fun i hi _ => (h2.hp i (Nat.lt_of_lt_of_le hi h.next) (by intro e; injection e; omega)).trans (h.hp i hi (by simp))⟩
theorem Upd.set : Upd O (some q) (O.set q x) := ⟨Nat.le_refl _, fun i _ h => VH.set_ne _ _ (fun e => h (by rw [e]))⟩
theorem Upd.push : Upd O none (O.push x) := ⟨Nat.le_succ _, fun i hi _ => VH.push_old _ _ hi⟩
theorem Upd.kill : Upd O (some q) (O.kill q) := ⟨Nat.le_refl _, fun i _ h => VH.kill_ne _ (fun e => h (by rw [e]))⟩
theorem Row.keep (h : Row O el sz B k c L) (u : Upd O (some q) O') (hq : q ≠ k) (hs : ∀ t n, O.hp q ≠ some (.shape k t n)) : Row O' el sz B k c L := by
  obtain ⟨sp, h1, h2⟩ := h.cells
  obtain ⟨j, h3, h4, h5⟩ := h.shp
  refine ⟨⟨sp, (u.hp k h.hi (by simpa using hq)).trans h1, h2⟩, ⟨j, h3, Nat.lt_of_lt_of_le h4 u.next, (u.hp j h4 ?_).trans h5⟩, h.lo, Nat.lt_of_lt_of_le h.hi u.next⟩
  intro e
  injection e with e
  subst e
  exact hs _ _ h5
theorem Row.keepN (h : Row O el sz B k c L) (u : Upd O none O') : Row O' el sz B k c L := by
  obtain ⟨sp, h1, h2⟩ := h.cells
  obtain ⟨j, h3, h4, h5⟩ := h.shp
  exact ⟨⟨sp, (u.hp k h.hi (by simp)).trans h1, h2⟩, ⟨j, h3, Nat.lt_of_lt_of_le h4 u.next, (u.hp j h4 (by simp)).trans h5⟩, h.lo, Nat.lt_of_lt_of_le h.hi u.next⟩
theorem GR.keepN {p : MV} {n : Nat} (h : GR O el sz B p n L) (u : Upd O none O') : GR O' el sz B p n L := by
  rcases h with h | ⟨k, c, h1, h2, h3, h4⟩
  · exact .inl h
  · exact .inr ⟨k, c, h1, h2, h3, h4.keepN u⟩
theorem GR.keep {p : MV} {n : Nat} (h : GR O el sz B p n L) (u : Upd O (some q) O') (hq : gid p ≠ some q) (hs : ∀ k t n, O.hp q ≠ some (.shape k t n)) : GR O' el sz B p n L := by
  rcases h with h | ⟨k, c, h1, h2, h3, h4⟩
  · exact .inl h
  · exact .inr ⟨k, c, h1, h2, h3, h4.keep u (fun e => hq (by rw [h1, e]; rfl)) (hs k)⟩
/-- The row's cells turned, as many as there were. -/
theorem Row.turn {L' : List MV} (h : Row O el sz B k c L) {sp : List MV} (hl : (L' ++ sp).length = c * sz) : Row (O.set k (.cells (L' ++ sp))) el sz B k c L' := by
  obtain ⟨j, h3, h4, h5⟩ := h.shp
  refine ⟨⟨sp, VH.set_get _ _ _, hl⟩, ⟨j, h3, h4, ?_⟩, h.lo, h.hi⟩
  rw [VH.set_ne _ _ (fun e => ?_)]
  · exact h5
  · subst e
    obtain ⟨sp, h1, _⟩ := h.cells
    rw [h1] at h5; cases h5
theorem Row.less {L' : List MV} {R : List MV} (h : Row O el sz B k c L) (hL : L = L' ++ R) : Row O el sz B k c L' := by
  obtain ⟨sp, h1, h2⟩ := h.cells
  exact ⟨⟨R ++ sp, by rw [h1, hL, List.append_assoc], by rw [← h2, hL, List.append_assoc]⟩, h.shp, h.lo, h.hi⟩
theorem Row.wider (h : Row O el sz B k c L) (hB : B' ≤ B) : Row O el sz B' k c L := by
  obtain ⟨j, h3, h4, h5⟩ := h.shp
  exact ⟨h.cells, ⟨j, Nat.le_trans hB h3, h4, h5⟩, Nat.le_trans hB h.lo, h.hi⟩
theorem Row.pushS {cs : List MV} {t : TypeId} {sp : List MV} (hl : (L ++ sp).length = c * sz) (hB : B ≤ O.next) : Row (O.pushS (L ++ sp) el (c * sz)) el sz B O.next c L :=
  ⟨⟨sp, (VH.push_old _ _ (by show O.next < O.next + 1; omega)).trans (VH.push_new _ _), hl⟩, ⟨O.next + 1, by omega, by show O.next + 1 < O.next + 1 + 1; omega, VH.push_new _ _⟩, hB, by show O.next < O.next + 1 + 1; omega⟩
theorem setMany_app (L ds sp : List MV) : setMany (L ++ sp) L.length ds = L ++ ds.take sp.length ++ sp.drop ds.length := by
  induction ds generalizing L sp with
  | nil => simp [setMany]
  | cons d ds ih =>
    cases sp with
    | nil =>
      simp only [List.append_nil, List.length_nil, List.take_zero, List.drop_nil, setMany]
      have : ∀ (ds : List MV) (o : Nat), L.length ≤ o → setMany L o ds = L := by
        intro ds
        induction ds with
        | nil => intro o _; rfl
        | cons x xs ih => intro o ho; rw [setMany, List.set_eq_of_length_le ho]; exact ih (o + 1) (by omega)
      rw [List.set_eq_of_length_le (Nat.le_refl _)]
      exact this ds _ (by omega)
    | cons s sp =>
      have := ih (L ++ [d]) sp
      simp only [setMany]
      rw [List.set_append_right _ _ (Nat.le_refl _), Nat.sub_self, List.set_cons_zero]
      simp only [List.append_assoc, List.singleton_append, List.length_append, List.length_cons, List.length_nil] at this
      rw [this]
      simp
end
theorem VL.grow (ht : TabOk P tab) {el : TypeId} {te : TyI} {B n' j : Nat} {L ds : List MV} {p q : MV} {dx : TypeDesc} {d : Option Tmp} {x y : Operand} {t tx ty : TypeId} {ps : String} {af : Array Edge} {g : Option (Nat × Bool)} {LL : List (Fl × Oper)} (hmd : md = .plain ∨ md = .any)
    (hr : GR O el te.size B p n' L) (hs : srcM O te.size q = some (j, ds)) (hlf : ds.all leafB = true) (hu : (tab t).map TyI.under = some (.slice el)) (he : tab el = some te) (htx : (tab tx).map TyI.under = some dx) (hd' : srcT q dx) (hb : (n' + j) * te.bytes ≤ 140737488355328) (hm : n' + j ≤ maxLen) (hB : B ≤ O.next)
    (hx : ev e x = some p) (hy : ev e y = some q) (hg : vguard ops (.mk d (.call { callee := .builtin .append, args := #[x, y], argTypes := #[t, tx] }) ty ps af g) e = some true) (hd : dstB n d = true)
    (h : ∀ m O', GR O' el te.size B m (n' + j) (L ++ ds) → Upd O (gid p) O' → (gid p = none → O.Ge O') → ((∃ k c, m = .asl k 0 (n' + j) c ∧ (gid p = some k ∨ (O.next ≤ k ∧ j ≠ 0))) ∨ (j = 0 ∧ m = p ∧ O' = O)) → WL P tab n D md ops Q LL (putM d m e) O') :
    VL P n D md ops ((.one, .mk d (.call { callee := .builtin .append, args := #[x, y], argTypes := #[t, tx] }) ty ps af g) :: LL) e O Q := by
  refine VL.stepP (M := fun m O' => GR O' el te.size B m (n' + j) (L ++ ds) ∧ Upd O (gid p) O' ∧ (gid p = none → O.Ge O') ∧ ((∃ k c, m = .asl k 0 (n' + j) c ∧ (gid p = some k ∨ (O.next ≤ k ∧ j ≠ 0))) ∨ (j = 0 ∧ m = p ∧ O' = O))) hmd hg hd (fun G a w hw hf => ?_) fun m O' ⟨h1, h2, h3, h4⟩ => WL.sound ht (h m O' h1 h2 h3 h4)
  have hxv := hf.ev hx
  have hyv := hf.ev hy
  have hty := under_of ht htx
  have fin : ∀ {m O' u w' H}, (GR O' el te.size B m (n' + j) (L ++ ds) ∧ Upd O (gid p) O' ∧ (gid p = none → O.Ge O') ∧ ((∃ k c, m = .asl k 0 (n' + j) c ∧ (gid p = some k ∨ (O.next ≤ k ∧ j ≠ 0))) ∨ (j = 0 ∧ m = p ∧ O' = O))) → (Builtin.append_ #[t, tx] ty #[a.eval x, a.eval y]).run P w = .ok u w' → Gh.Le G H → WR H O' w' → VR H m u →
      ∃ m O' u w' H, (GR O' el te.size B m (n' + j) (L ++ ds) ∧ Upd O (gid p) O' ∧ (gid p = none → O.Ge O') ∧ ((∃ k c, m = .asl k 0 (n' + j) c ∧ (gid p = some k ∨ (O.next ≤ k ∧ j ≠ 0))) ∨ (j = 0 ∧ m = p ∧ O' = O))) ∧ (execOp a.eval (.mk d (.call { callee := .builtin .append, args := #[x, y], argTypes := #[t, tx] }) ty ps af g)).run P w = .ok (.value u) w' ∧ Gh.Le G H ∧ WR H O' w' ∧ VR H m u := fun hM hrun h1 h2 h3 =>
    ⟨_, _, _, _, _, hM, by simp only [execOp, resolve, invoke, builtin, List.map_toArray, List.map_cons, List.map_nil, Sem.run_bind, Sem.run_pure, Result.andThen_ok] <;> simp [hrun], h1, h2, h3⟩
  obtain ⟨vs, hsrc, hv⟩ := srcM_ok (P := P) hw hs hyv hty hd' hlf
  have hdl : ds.length = j * te.size := by rw [← hv.1]; exact hsrc.newsLen
  rcases hr with ⟨rfl, rfl, hp⟩ | ⟨k, c, rfl, hnc, hLl, hrow⟩
  · have hA : ∃ A, a.eval x = .slice A 0 0 ∧ (∀ w', (Builtin.firstCells te.size 0 (.slice A 0 0)).run P w' = .ok #[] w') := by
      generalize a.eval x = u at hxv
      have key : ∀ A : Option Addr, ∀ w', (Builtin.firstCells te.size 0 (.slice A 0 0)).run P w' = .ok #[] w' := fun A w' => by
        cases A <;> simp [Builtin.firstCells, loadCells, loadCellsFrom]
      rcases hp with rfl | rfl
      · cases hxv with
        | slnil => exact ⟨_, rfl, key _⟩
        | sl h1 h2 h3 h4 h5 h6 => exact h6.elim
      · cases hxv with
        | sl h1 h2 h3 h4 h5 h6 =>
          have h6 : _ = 0 := h6
          subst h6
          exact ⟨_, rfl, key _⟩
    obtain ⟨A, hA, hfc⟩ := hA
    have hgid : gid p = none := by rcases hp with rfl | rfl <;> rfl
    by_cases hj : j = 0
    · subst hj
      have hds : ds = [] := List.eq_nil_of_length_eq_zero (by simpa using hdl)
      subst hds
      refine fin (m := p) (O' := O) (u := a.eval x) (w' := w) (H := G) ⟨.inl ⟨rfl, rfl, hp⟩, Upd.refl _ _, fun _ => VH.Ge.refl _, .inr ⟨rfl, rfl, rfl⟩⟩ ?_ (Gh.Le.refl G) hw hxv
      have hus : vs = [] := by have := hv.1; simpa using this
      subst hus
      rw [hA]
      have hun := under_of ht hu
      obtain ⟨ti, z, i1, i2, _⟩ := (ht _ te he).info
      rcases hsrc.kind with ⟨e', hk⟩ | hk <;> cases A <;> simp [Builtin.append_, run_underlying hun, run_underlying hk, run_sz (ht _ te he), hsrc.len, hsrc.cells, storeCells]
    · rw [hA] at fin
      obtain ⟨c', w', H, zs, g1, g2, g3, g4, g5, g6, g7⟩ := grow_ok (P := P) ht hw (n' := 0) (c := 0) (A := A) (L := []) (us := []) (ty := ty) hu he hty hs hd' hlf VRs.nil (by simp) (hfc _) (by omega) hb hm hyv
      refine fin ⟨.inr ⟨O.next, c', rfl, g1, by rw [List.length_append, hdl]; simp, ?_⟩, ?_, fun _ => ?_, .inl ⟨_, _, rfl, .inr ⟨Nat.le_refl _, hj⟩⟩⟩ g4 g5 g6 g7
      · refine Row.pushS (cs := []) (t := el) ?_ hB
        rw [List.length_append, g3, List.length_append, hdl, List.length_nil, Nat.zero_add, ← Nat.add_mul]
        congr 1; omega
      · rw [hgid]; exact Upd.push.trans Upd.push
      · exact ((VH.Ge.refl O).push _).push _
  · obtain ⟨sp, hcs, hcl⟩ := hrow.cells
    generalize hax : a.eval x = u at hxv
    have hxv' := hxv
    cases hxv' with
    | asl hp hn hmx =>
      rename_i b
      rw [hax] at fin
      have hmul : (n' + j) * te.size = n' * te.size + j * te.size := Nat.add_mul _ _ _
      by_cases hroom : n' + j ≤ c
      · have hle : (n' + j) * te.size ≤ c * te.size := Nat.mul_le_mul_right _ hroom
        obtain ⟨w', A, g1, g2, g3⟩ := room_ok (P := P) (ty := ty) ht hw hu he hty hcs hs hd' hlf hroom (by rw [hcl, hdl]; omega) hxv hyv
        rw [Nat.zero_add, ← hLl, setMany_app] at g2
        have hspl : ds.length ≤ sp.length := by
          rw [List.length_append] at hcl; omega
        rw [List.take_of_length_le hspl] at g2
        refine fin ⟨.inr ⟨k, c, rfl, hroom, by rw [List.length_append, hLl, hdl, hmul], hrow.turn ?_⟩, Upd.set, (fun h => by cases h), .inl ⟨_, _, rfl, .inl rfl⟩⟩ g1 (Gh.Le.refl G) g2 g3
        rw [List.length_append, List.length_append, List.length_drop]
        rw [List.length_append] at hcl; omega
      · obtain ⟨b', C, T, d1, d2, d3⟩ := hw.cells k _ hcs
        rw [hp] at d1; injection d1 with d1; subst d1
        have hL := d3.take L.length
        rw [List.take_left, List.take_take, Nat.min_eq_left (by rw [List.length_append]; omega)] at hL
        have hold : (Builtin.firstCells te.size n' (.slice (some ⟨b, 0, none⟩) n' c)).run P w.drew = .ok (C.toList.take L.length).toArray w.drew := by
          refine run_firstCells_some (P := P) w.drew te.size n' ⟨b, 0, none⟩ n' c _ (by rw [hL.1, hLl]) fun i u hu => ?_
          rw [Addr.add_lit, Nat.zero_add]
          rw [List.getElem?_take] at hu
          split at hu
          · have hd2 : w.drew.heap[b]? = some (.cells C T.t T.fr) := d2
            simp only [World.cell?, hd2, Option.isSome_none, Bool.false_eq_true, if_false]; simpa using hu
          · cases hu
        obtain ⟨c', w', H, zs, g1, g2, g3, g4, g5, g6, g7⟩ := grow_ok (P := P) (ty := ty) ht hw (n' := n') (c := c) (A := some ⟨b, 0, none⟩) (L := L) hu he hty hs hd' hlf hL hLl hold (by omega) hb hm hyv
        refine fin ⟨.inr ⟨O.next, c', rfl, g1, by rw [List.length_append, hLl, hdl, hmul], ?_⟩, (Upd.push.trans Upd.push).any, (fun h => by cases h), .inl ⟨_, _, rfl, .inr ⟨Nat.le_refl _, by omega⟩⟩⟩ g4 g5 g6 g7
        refine Row.pushS (cs := []) (t := el) ?_ hB
        rw [List.length_append, g3, List.length_append, hLl, hdl, ← hmul, ← Nat.add_mul]
        congr 1; omega
/-- There is room: the row stays where it is. -/
theorem VL.room (ht : TabOk P tab) {el : TypeId} {te : TyI} {n' j k o c : Nat} {cs ds : List MV} {q : MV} {dx : TypeDesc} {d : Option Tmp} {x y : Operand} {t tx ty : TypeId} {ps : String} {af : Array Edge} {g : Option (Nat × Bool)} {LL : List (Fl × Oper)} (hmd : md = .plain ∨ md = .any)
    (hk : O.hp k = some (.cells cs)) (hs : srcM O te.size q = some (j, ds)) (hlf : ds.all leafB = true) (hu : (tab t).map TyI.under = some (.slice el)) (he : tab el = some te) (htx : (tab tx).map TyI.under = some dx) (hd' : srcT q dx) (hroom : n' + j ≤ c) (hle : o + n' * te.size + ds.length ≤ cs.length)
    (hx : ev e x = some (.asl k o n' c)) (hy : ev e y = some q) (hg : vguard ops (.mk d (.call { callee := .builtin .append, args := #[x, y], argTypes := #[t, tx] }) ty ps af g) e = some true) (hd : dstB n d = true)
    (h : WL P tab n D md ops Q LL (putM d (.asl k o (n' + j) c) e) (O.set k (.cells (setMany cs (o + n' * te.size) ds)))) :
    VL P n D md ops ((.one, .mk d (.call { callee := .builtin .append, args := #[x, y], argTypes := #[t, tx] }) ty ps af g) :: LL) e O Q := by
  refine VL.stepP (M := fun m O' => m = .asl k o (n' + j) c ∧ O' = O.set k (.cells (setMany cs (o + n' * te.size) ds))) hmd hg hd (fun G a w hw hf => ?_) (by rintro m O' ⟨rfl, rfl⟩; exact WL.sound ht h)
  have hxv := hf.ev hx
  have hyv := hf.ev hy
  generalize hax : a.eval x = u at hxv
  obtain ⟨w', A, g1, g2, g3⟩ := room_ok (P := P) (ty := ty) ht hw hu he (under_of ht htx) hk hs hd' hlf hroom hle hxv hyv
  exact ⟨_, _, _, w', G, ⟨rfl, rfl⟩, by simp only [execOp, resolve, invoke, builtin, List.map_toArray, List.map_cons, List.map_nil, Sem.run_bind, Sem.run_pure, Result.andThen_ok] <;> simp [hax, g1], Gh.Le.refl G, g2, g3⟩
end
end Go.Proofs.YtjbpnhmjnkolbaaDoor

/-
  THE VALUE MACHINE, 20: more operations, each as a rule: what only reckons; structs held against one another; clear; a text laid out of bytes for good; unsafe.Pointer.
-/
set_option linter.unusedVariables false
set_option linter.unusedSimpArgs false
namespace Go.Proofs.YtjbpnhmjnkolbaaDoor
open Go.RowKit

section
variable {G H : Gh} {n : Sz} {D : List Deferred} {e : Env} {a : Act} {P : Program} {tab : Tab} {O O' : VH} {w : World} {m m' : MV} {u v : Value} {ops : Array Oper} {Q : VQ} {md : Md}

/-! ### What only reckons -/
def PureOp (P : Program) (n : Sz) (D : List Deferred) (o : Oper) (e : Env) (m : MV) : Prop := ∀ G a, FR G n D e a → YieldsS P o a G m
theorem VOne.pure {i : Nat} {o : Oper} {K : Env → VH → Prop} (ho : ops[i]? = some o) (hg : vguard ops o e = some true) (hd : dstB n o.dst = true) (hy : PureOp P n D o e m) (h : K (putM o.dst m e) O) : VOne P n D ops i e O Q K := by
  refine VOne.stepM (M := fun m' O' => m' = m ∧ O' = O) ho hg hd (fun G a w hw hf => ?_) (by rintro m' O' ⟨rfl, rfl⟩; exact h)
  obtain ⟨u, hu, hr⟩ := hy G a hf
  exact ⟨m, O, u, w, G, ⟨rfl, rfl⟩, hr w hw.ss, Gh.Le.refl G, hw, hu⟩
theorem VL.pure {f : Fl} {o : Oper} {L : List (Fl × Oper)} (hfk : f ≠ .fk) (hh : f = .one → isPlain md = true ∨ md = .any) (hg : vguard ops o e = some true) (hd : dstB n o.dst = true) (hy : PureOp P n D o e m) (h : VL P n D md ops L (putM o.dst m e) O Q) : VL P n D md ops ((f, o) :: L) e O Q := by
  intro fuel listed ix hf hp
  match ix, hf with
  | (i, g) :: ix, hf =>
    obtain ⟨rfl, ho, hf⟩ := hf
    cases md with
    | plain => exact VOps.one (VOne.pure ho hg hd hy (h 0 #[] ix hf (fun h => absurd rfl h)))
    | any =>
      obtain ⟨h1, h2⟩ := hp (by simp)
      cases fuel with
      | zero => cases h2
      | succ fuel =>
        simp only [planOk, Bool.and_eq_true] at h2
        have hk := h fuel (listed.setIfInBounds i true) ix hf (fun _ => ⟨h1, h2.2⟩)
        cases g with
        | one =>
          have hr : Region.ready .any ops listed = [i] := by simpa using h2.1
          exact VAny.all hr (by simp) fun j hj => by
            obtain rfl : j = i := by simpa using hj
            exact VOne.pure ho hg hd hy hk
        | sil =>
          simp only [Bool.and_eq_true] at h2
          intro G a w hw hfr
          obtain ⟨u, hu, hr⟩ := hy G a hfr
          exact wpAnyH_take ho h1 h2.1.1 h2.1.2 (panic_put hd) (.inl ⟨vguard_ok hfr hg, hr⟩) hw.ss (hk G _ w hw (hfr.putM hd hu))
        | rd => exact absurd h2.1 (by simp)
        | fk => exact absurd rfl hfk
    | reads =>
      obtain ⟨h1, h2⟩ := hp (by simp)
      cases fuel with
      | zero => cases h2
      | succ fuel =>
        simp only [planOk, Bool.and_eq_true] at h2
        have hk := h fuel (listed.setIfInBounds i true) ix hf (fun _ => ⟨h1, h2.2⟩)
        intro G a w hw hfr
        obtain ⟨u, hu, hrun⟩ := hy G a hfr
        have h3 : Region.free .any ops listed i = true ∧ (Region.ready .any ops listed).contains i = true := by cases g <;> simp_all
        exact wpAnyH_take ho h1 h3.1 h3.2 (panic_put hd) (.inl ⟨vguard_ok hfr hg, fun w' hw' => by rw [hw']; exact hrun w hw.ss⟩) rfl (hk G _ w hw (hfr.putM hd hu))
    | held brk =>
      obtain ⟨h1, h2⟩ := hp (by simp)
      cases fuel with
      | zero => cases h2
      | succ fuel =>
        simp only [planOk, Bool.and_eq_true] at h2
        have hk := h fuel (listed.setIfInBounds i true) ix hf (fun _ => ⟨h1, h2.2⟩)
        have hyy : ∀ G a w, WR G O w → FR G n D e a → ∃ u, VR G m u ∧ YieldsIf P ops (Sx G w) o u a := fun G a w hw hfr => by
          obtain ⟨u, hu, hrun⟩ := hy G a hfr
          exact ⟨u, hu, .inl ⟨vguard_ok hfr hg, fun x hx => hrun x hx.1⟩⟩
        cases g with
        | one => rcases hh rfl with h3 | h3 <;> cases h3
        | fk => exact absurd rfl hfk
        | sil =>
          simp only [Bool.and_eq_true] at h2
          exact VAnyT.take ho h1 h2.1.1.1 h2.1.1.2 h2.1.2 hd hyy hk
        | rd =>
          simp only [Bool.and_eq_true] at h2
          exact VAnyT.take ho h1 h2.1.1.1 h2.1.1.2 h2.1.2 hd hyy hk

/-! ### Structs held against one another -/
def veqF (P : Program) (tab : Tab) : Nat → TypeId → MV → MV → Option Bool
  | 0, _, _, _ => none
  | d + 1, t, x, y => match (tab t).map TyI.under, x, y with
    | some .bool, .v (.bool a), .v (.bool b) => some (a == b)
    | some (.int _), .v (.int k a), .v (.int k' b) => if k = k' then some (a == b) else none
    | some .string, .str a, .str b => some (a == b)
    | some (.struct fs), .agg xs, .agg ys => if P.stoodInHeld t then none else fs.toList.foldr (fun f acc =>
        if f.name ≠ "_" then match vpart tab f.type xs f.offset, vpart tab f.type ys f.offset with
          | some p, some q => match veqF P tab d f.type p q, acc with
            | some b, some c => some (b && c)
            | _, _ => none
          | _, _ => none
        else acc) (some true)
    | _, _, _ => none
theorem veqF_ok (ht : TabOk P tab) : ∀ (d : Nat) {t : TypeId} {x y : MV} {u v : Value} {b : Bool}, veqF P tab d t x y = some b → VR G x u → VR G y v → ∀ (k : Nat) (w : World), (Op.equalIn (d + k) t u v).run P w = .ok b w
  | 0, _, _, _, _, _, _, h, _, _, _, _ => by cases h
  | d + 1, t, x, y, u, v, b, h, hx, hy, k, w => by
    rw [show d + 1 + k = d + k + 1 from by omega]
    simp only [veqF] at h
    split at h
    · rename_i hu
      injection h with h; subst h
      cases hx; cases hy
      exact run_equalIn_bool w _ _ _ _ (under_of ht hu)
    · rename_i k0 k1 a k2 c hu
      split at h
      · subst k1
        injection h with h; subst h
        cases hx; cases hy
        exact run_equalIn_int w _ _ _ _ _ _ (under_of ht hu)
      · cases h
    · rename_i l r hu
      injection h with h; subst h
      cases hx
      rename_i e1
      cases hy
      rw [run_equalIn_string w _ _ _ _ (under_of ht hu), toList_mk, toList_mk]
    · rename_i fs xs ys hu
      split at h
      · cases h
      · rename_i hst
        cases hx with
        | agg a1 a2 =>
          cases hy with
          | agg b1 b2 =>
            rename_i us vs
            have hun := under_of ht hu
            have hfo : P.fieldsOf t = fs := by simp only [Program.fieldsOf, hun]
            rw [run_equalIn_struct w _ _ _ _ (by rw [hfo]; exact hun) (by simpa using hst), hfo]
            have hxs : VRs G xs us := ⟨a1, a2⟩
            have hys : VRs G ys vs := ⟨b1, b2⟩
            generalize fs.toList = l at h
            clear hu hun hfo
            induction l generalizing b with
            | nil =>
              simp only [List.foldr_nil, Option.some.injEq] at h
              subst h; rfl
            | cons f l ih =>
              simp only [List.foldr_cons] at h
              simp only [Op.eqFields]
              split at h
              · rename_i hn
                rw [if_pos hn]
                split at h
                · rename_i p q hp hq
                  split at h
                  · rename_i b1 c1 hb1 hc1
                    injection h with h; subst h
                    obtain ⟨r1, g1, g2⟩ := vpart_ok (P := P) ht hp hxs
                    obtain ⟨r2, g3, g4⟩ := vpart_ok (P := P) ht hq hys
                    have hr := veqF_ok ht d hb1 g2 g4 k w
                    simp only [Sem.run_bind, g1 w, g3 w, hr, Result.andThen_ok]
                    cases b1
                    · simp
                    · simpa using ih _ hc1
                  · cases h
                · cases h
              · rename_i hn
                rw [if_neg hn]
                exact ih _ h
    · cases h
theorem VL.eqS (ht : TabOk P tab) {f : Fl} {op : BinOp} {t t' ty : TypeId} {d : Option Tmp} {x y : Operand} {ps : String} {af : Array Edge} {g : Option (Nat × Bool)} {L : List (Fl × Oper)} {xs ys : List MV} {b : Bool} {bb : Bool} (hfk : f ≠ .fk) (hh : f = .one → isPlain md = true ∨ md = .any)
    (hop : (op = .eql ∧ bb = b) ∨ (op = .neq ∧ bb = !b)) (hq : veqF P tab 9 t (.agg xs) (.agg ys) = some b) (hgt : P.eqGuardType P.depth t = false) (hx : ev e x = some (.agg xs)) (hy : ev e y = some (.agg ys)) (hg : vguard ops (.mk d (.binOp op t x y t') ty ps af g) e = some true) (hd : dstB n d = true)
    (h : WL P tab n D md ops Q L (putM d (.v (.bool bb)) e) O) : VL P n D md ops ((f, .mk d (.binOp op t x y t') ty ps af g) :: L) e O Q := by
  refine VL.pure hfk hh hg hd (fun G a hf => ?_) (WL.sound ht h)
  have h1 := hf.ev hx
  have h2 := hf.ev hy
  have hr := fun w => veqF_ok (P := P) ht 9 hq h1 h2 9991 w
  generalize hu : a.eval x = u at h1 hr
  generalize hv : a.eval y = v at h2 hr
  cases h1 with
  | agg a1 a2 =>
    cases h2 with
    | agg b1 b2 =>
      rename_i us vs
      refine YieldsS.of (s := do eqGuard op t x y (.agg us.toArray) (.agg vs.toArray); binOp op t (.agg us.toArray) (.agg vs.toArray)) (GivesS.of (u := .bool bb) (fun w _ => ?_) (.v rfl)) (by simp [execOp, hu, hv])
      rw [Sem.run_bind, run_eqGuard_agg w op t x y _ _ hgt, Result.andThen_ok]
      rcases hop with ⟨rfl, rfl⟩ | ⟨rfl, rfl⟩
      · rw [run_eql_struct, hr w]; rfl
      · rw [run_neq_struct, hr w]; rfl

/-! ### clear -/
theorem VL.clear (ht : TabOk P tab) {d : Option Tmp} {x : Operand} {t ty el : TypeId} {ps : String} {af : Array Edge} {g : Option (Nat × Bool)} {L : List (Fl × Oper)} {k o n' c : Nat} {cs : List MV} {te : TyI} (hmd : md = .plain ∨ md = .any)
    (hu : (tab t).map TyI.under = some (.slice el)) (he : tab el = some te) (hz : te.zero.all leafB = true) (hz0 : 0 < te.zero.length) (hk : O.hp k = some (.cells cs)) (hle : o + n' * te.size ≤ cs.length) (hx : ev e x = some (.asl k o n' c))
    (hg : vguard ops (.mk d (.call { callee := .builtin .clear, args := #[x], argTypes := #[t] }) ty ps af g) e = some true) (hd : dstB n d = true)
    (h : WL P tab n D md ops Q L (putM d (.tuple []) e) (O.set k (.cells (setMany cs o (vzeros te.zero (n' * te.size)))))) : VL P n D md ops ((.one, .mk d (.call { callee := .builtin .clear, args := #[x], argTypes := #[t] }) ty ps af g) :: L) e O Q := by
  refine VL.stepP (M := fun m O' => m = .tuple [] ∧ O' = O.set k (.cells (setMany cs o (vzeros te.zero (n' * te.size))))) hmd hg hd (fun G a w hw hf => ?_) (by rintro m O' ⟨rfl, rfl⟩; exact WL.sound ht h)
  have hxv := hf.ev hx
  generalize hax : a.eval x = u at hxv
  cases hxv with
  | asl hp hn hm =>
    rename_i b
    obtain ⟨ti, z, i1, i2, i3, i4, i5, i6⟩ := (ht _ te he).info
    have hlf : (vzeros te.zero (n' * te.size)).all leafB = true := by
      rw [List.all_eq_true] at hz ⊢
      intro m hm
      simp only [vzeros, List.mem_map, List.mem_range] at hm
      obtain ⟨i, _, rfl⟩ := hm
      refine hz _ ?_
      rw [List.getD_eq_getElem?_getD, List.getElem?_eq_getElem (Nat.mod_lt _ hz0)]
      exact List.getElem_mem _
    have hzc : VRs G (vzeros te.zero (n' * te.size)) (Builtin.zeroCells z.cells n').toList := by
      have hzz := vzeros_ok (i6 G) hz0 (n' * te.size)
      rw [← i5] at hzz ⊢
      exact hzz
    obtain ⟨w', hr, hw'⟩ := storeMany (P := P) hp o (vzeros te.zero (n' * te.size)) _ 0 cs O w hw hk hzc hlf (by simp [vzeros]; omega)
    have hrun : (Builtin.clear_ #[t] ty #[.slice (some ⟨b, o, none⟩) n' c]).run P w = .ok (.tuple #[]) w' := by
      have hun := under_of ht hu
      rcases Nat.eq_zero_or_pos n' with h0 | h0
      · subst h0
        have : w' = w := by
          simp [Builtin.zeroCells, storeCells] at hr
          exact hr.symm
        subst this
        simp [Builtin.clear_, run_underlying hun]
      · obtain ⟨n1, rfl⟩ : ∃ n1, n' = n1 + 1 := ⟨n' - 1, by omega⟩
        simp [Builtin.clear_, run_underlying hun, zeroValue, typeInfo, i1, i4, hr]
    refine ⟨_, _, .tuple #[], w', G, ⟨rfl, rfl⟩, by simp [execOp, resolve, invoke, builtin, hax, hrun], Gh.Le.refl G, by simpa using hw', VR.tuple (us := []) rfl (fun i c u h => by simp at h)⟩

/-! ### A text laid out of bytes for good -/
theorem WR.refreeze (h : WR G O w) {b : Nat} {C : Array Value} {t : TypeId} {fr fr' : Nat × Nat} {w' : World} (hb : w.heap[b]? = some (.cells C t fr)) (hB : G.B ≤ b) (hb' : w'.heap[b]? = some (.cells C t fr')) (ho : ∀ j, j ≠ b → w'.heap[j]? = w.heap[j]?) (hs : w'.heap.size = w.heap.size)
    (hos : w'.os = w.os) (htape : w'.tape = w.tape) (hout : w'.output = w.output) (hphi : ∀ j, O.hp j ≠ none → G.phi j ≠ some b) (htok : ∀ t c x, O.hp t = some .tok → G.tok t = some (c, x) → c ≠ b) : WR G O w' := by
  have hcell : ∀ p, w'.cell? p = w.cell? p := fun p => by
    by_cases e : p.block = b
    · simp only [World.cell?, e, hb, hb']
    · simp only [World.cell?, ho _ e]
  refine ⟨⟨hos.trans h.base.os, htape.trans h.base.tape, hout.trans h.base.output, by rw [hs]; exact h.base.size, fun j hj => by rw [ho j (by have : j < G.B := hj; omega)]; exact h.base.block j hj⟩, fun b' o u hc => by rw [hcell]; exact h.com b' o u hc, h.dom, fun k c hk => ?_, h.inj, fun k cs hk => ?_, fun k es ck hk => ?_, fun t ht => ?_, h.tinj,
    h.shpOf id (fun _ _ _ _ h => h) fun k b' s _ hs' => ?_, h.objOf id (fun _ _ h => h) fun k x b' hk hb hx => by rw [ho b' (fun e => hphi k (by rw [hk]; simp) (e ▸ hb))]; exact hx⟩
  · obtain ⟨h1, h2, h3⟩ := h.plt k c hk
    exact ⟨h1, by rw [hs]; exact h2, h3⟩
  · obtain ⟨c, D, T', h1, h2, h3⟩ := h.cells k cs hk
    exact ⟨c, D, T', h1, by rw [ho c (fun e => hphi k (by rw [hk]; simp) (e ▸ h1))]; exact h2, h3⟩
  · obtain ⟨c, E, h1, h2, h3⟩ := h.map k es ck hk
    exact ⟨c, E, h1, by rw [ho c (fun e => hphi k (by rw [hk]; simp) (e ▸ h1))]; exact h2, h3⟩
  · obtain ⟨c, f, k, r, D, T', h1, h2, h3, h4⟩ := h.tok t ht
    exact ⟨c, f, k, r, D, T', h1, h2, by rw [ho c (htok t c _ ht h1)]; exact h3, h4⟩
  · by_cases e : b' = b
    · subst e
      simp only [World.shape?, hb] at hs'
      simp only [World.shape?, hb']; exact hs'
    · exact shape_heap (fun x hx => by rw [ho _ e]; exact hx) hs'
def ustrB : Op → Bool
  | .call c => match c.callee with
    | .builtin .unsafeString => true
    | _ => false
  | _ => false
/-- In a held region each unsafe.String stands among what breaks. -/
def ustrOk (md : Md) (ops : Array Oper) : Bool := match md with
  | .held brk => !brk.isEmpty && (List.range ops.size).all fun i => !((ops[i]?).map fun o => ustrB o.op).getD false || brk.contains i
  | _ => true
theorem ustrOk_1 (h : ustrOk md ops = true) : ∀ brk, md = .held brk → brk ≠ [] := by
  rintro brk rfl rfl
  simp [ustrOk] at h
theorem ustrOk_2 (h : ustrOk md ops = true) {o : Oper} (ho : ustrB o.op = true) : ∀ brk, md = .held brk → ∀ i, ops[i]? = some o → brk.contains i = true := by
  rintro brk rfl i hi
  simp only [ustrOk, Bool.and_eq_true] at h
  have := List.all_eq_true.1 h.2 i (List.mem_range.2 (by
    rcases Nat.lt_or_ge i ops.size with h' | h'
    · exact h'
    · rw [Array.getElem?_eq_none h'] at hi; cases hi))
  simpa [hi, ho] using this
theorem VL.ustr (ht : TabOk P tab) {d : Option Tmp} {x y : Operand} {pt it ty el : TypeId} {ps : String} {af : Array Edge} {g : Option (Nat × Bool)} {L : List (Fl × Oper)} {k c : Nat} {l : List UInt8} {B : Nat}
    (hok : ustrOk md ops = true)
    (hp : (tab pt).map TyI.under = some (.pointer el)) (hce : P.cellsOf el = 1) (hrow : Row O el 1 B k c (l.map byM)) (hl0 : l ≠ []) (hl : l.length ≤ maxLen)
    (hx : ev e x = some (.ptr k 0)) (hy : ev e y = some (.v (.int .i64 l.length))) (hg : vguard ops (.mk d (.call { callee := .builtin .unsafeString, args := #[x, y], argTypes := #[pt, it] }) ty ps af g) e = some true) (hd : dstB n d = true)
    (h : WL P tab n D md ops Q L (putM d (.str l) e) (O.kill k)) : VL P n D md ops ((.one, .mk d (.call { callee := .builtin .unsafeString, args := #[x, y], argTypes := #[pt, it] }) ty ps af g) :: L) e O Q := by
  refine VL.stepM (M := fun m O' => m = .str l ∧ O' = O.kill k) hg hd (fun _ => ustrOk_1 hok) (fun brk hb => .inr (ustrOk_1 hok brk hb)) (fun G a w hw hf => ?_) (ustrOk_2 hok rfl) (by rintro m O' ⟨rfl, rfl⟩; exact WL.sound ht h)
  have hxv := hf.ev hx
  have hyv := hf.ev hy
  generalize hax : a.eval x = u at hxv
  generalize hay : a.eval y = v at hyv
  have hyv := hyv.v_inv
  subst hyv
  cases hxv with
  | ptr hph =>
    rename_i b
    obtain ⟨sp, hc1, hc2⟩ := hrow.cells
    obtain ⟨b', C, T, d1, d2, d3⟩ := hw.cells k _ hc1
    rw [hph] at d1; injection d1 with d1; subst d1
    obtain ⟨j, _, _, hj⟩ := hrow.shp
    obtain ⟨b2, s1, s2⟩ := hw.shp j k _ _ hj
    rw [hph] at s1; injection s1 with s1; subst s1
    have hL := d3.take l.length
    have e1 : (l.map byM ++ sp).take l.length = l.map byM := by rw [List.take_append_of_le_length (by simp), List.take_of_length_le (by simp)]
    rw [e1, List.take_take, Nat.min_eq_left (by simp)] at hL
    have hL2 := byM_inv hL
    have hcell : ∀ j x, l[j]? = some x → w.cell? ((⟨b, 0, none⟩ : Addr).add j) = some (.int .u8 x.toNat) := fun i x hx => by
      rw [Addr.add_lit, Nat.zero_add]
      simp only [World.cell?, d2, Option.isSome_none, Bool.false_eq_true, if_false]
      have : (C.toList.take l.length)[i]? = some (Value.int .u8 x.toNat) := by rw [hL2, List.getElem?_map, hx]; rfl
      rw [List.getElem?_take] at this
      split at this
      · simpa using this
      · cases this
    have hrun := Lib.run_unsafeString_row (P := P) w pt it ty el (under_of ht hp) hce b _ s2 l hl0 (by rw [List.length_append, List.length_map] at hc2; omega) hl hcell
    have hll : l.length ≠ 0 := by simpa using hl0
    have hfz : (w.freeze ⟨b, 0, none⟩ l.length).heap[b]? = some (.cells C T.t (if T.fr.1 == T.fr.2 then (0, 0 + l.length) else (min T.fr.1 0, max T.fr.2 (0 + l.length)))) := by
      simp [World.freeze, hll, Array.getElem?_modify, d2]
    have hoth : ∀ j, j ≠ b → (w.freeze ⟨b, 0, none⟩ l.length).heap[j]? = w.heap[j]? := fun j hj => by
      simp [World.freeze, hll, Array.getElem?_modify, Ne.symm hj]
    refine ⟨.str l, O.kill k, .string ⟨⟨l⟩⟩, w.freeze ⟨b, 0, none⟩ l.length, G, ⟨rfl, rfl⟩, ?_, Gh.Le.refl G, ?_, .str⟩
    rotate_left
    · refine (hw.kill k).refreeze d2 (hw.plt k b hph).1 hfz hoth (by simp [World.freeze, hll]) (by simp [World.freeze, hll]) (by simp [World.freeze, hll]) (by simp [World.freeze, hll]) (fun j hj hjb => ?_) fun t c x htk htc e => ?_
      · by_cases e : j = k
        · subst e; exact hj (upd_same _ _ _)
        · have hj' : O.hp j ≠ none := by rwa [show (O.kill k).hp j = O.hp j from upd_other _ _ e] at hj
          exact e (hw.inj j k b hj' (by rw [hc1]; simp) hjb hph)
      · subst e
        have e : t ≠ k := fun e => by subst e; rw [show (O.kill t).hp t = none from upd_same _ _ _] at htk; cases htk
        rw [show (O.kill k).hp t = O.hp t from upd_other _ _ e] at htk
        obtain ⟨_, _, _, _, _, _, q1, _, _, _, _, q7⟩ := hw.tok t htk
        rw [htc] at q1; injection q1 with q1; injection q1 with q1 _; subst q1
        exact q7 k hph
    · simp [execOp, resolve, invoke, builtin, hax, hay, hrun]
theorem VL.ustr0 (ht : TabOk P tab) {d : Option Tmp} {x y : Operand} {pt it ty : TypeId} {ps : String} {af : Array Edge} {g : Option (Nat × Bool)} {L : List (Fl × Oper)} 
    (hok : ustrOk md ops = true)
    (hx : ev e x = some (.v (.pointer none))) (hy : ev e y = some (.v (.int .i64 0))) (hg : vguard ops (.mk d (.call { callee := .builtin .unsafeString, args := #[x, y], argTypes := #[pt, it] }) ty ps af g) e = some true) (hd : dstB n d = true)
    (h : WL P tab n D md ops Q L (putM d (.str []) e) O) : VL P n D md ops ((.one, .mk d (.call { callee := .builtin .unsafeString, args := #[x, y], argTypes := #[pt, it] }) ty ps af g) :: L) e O Q := by
  refine VL.stepM (M := fun m O' => m = .str [] ∧ O' = O) hg hd (fun _ => ustrOk_1 hok) (fun brk hb => .inr (ustrOk_1 hok brk hb)) (fun G a w hw hf => ?_) (ustrOk_2 hok rfl) (by rintro m O' ⟨rfl, rfl⟩; exact WL.sound ht h)
  have hxv := (hf.ev hx).v_inv
  have hyv := (hf.ev hy).v_inv
  have hrun := Lib.run_unsafeString_none (P := P) w pt it ty none
  refine ⟨_, _, _, w, G, ⟨rfl, rfl⟩, ?_, Gh.Le.refl G, hw, .str⟩
  simp [execOp, resolve, invoke, builtin, hxv, hyv, hrun]
  rfl

/-! ### unsafe.Pointer -/
theorem VL.toU (ht : TabOk P tab) {d : Option Tmp} {x : Operand} {src dst ty el t : TypeId} {ps : String} {af : Array Edge} {g : Option (Nat × Bool)} {L : List (Fl × Oper)} {k s j : Nat} {te : TyI} (hmd : md = .plain ∨ md = .any)
    (hs : (tab src).map TyI.under = some (.pointer el)) (hdt : (tab dst).map TyI.under = some .unsafePointer) (he : tab el = some te) (hz : te.size ≠ 0) (hj : O.hp j = some (.shape k t s)) (hs0 : 0 < s)
    (hx : ev e x = some (.ptr k 0)) (hg : vguard ops (.mk d (.convert src dst x) ty ps af g) e = some true) (hd : dstB n d = true) (h : WL P tab n D md ops Q L (putM d (.ptr k 0) e) O) :
    VL P n D md ops ((.one, .mk d (.convert src dst x) ty ps af g) :: L) e O Q := by
  refine VL.stepP (M := fun m O' => m = .ptr k 0 ∧ O' = O) hmd hg hd (fun G a w hw hf => ?_) (by rintro m O' ⟨rfl, rfl⟩; exact WL.sound ht h)
  have hxv := hf.ev hx
  generalize hax : a.eval x = u at hxv
  cases hxv with
  | ptr hp =>
    rename_i b
    obtain ⟨ti, z, i1, i2, _⟩ := (ht _ te he).info
    obtain ⟨b2, s1, s2⟩ := hw.shp j k _ _ hj
    rw [hp] at s1; injection s1 with s1; subst s1
    have hr := Lib.run_to_unsafe (P := P) w ⟨b, 0, none⟩ (under_of ht hs) (under_of ht hdt) i1 (by rw [i2]; exact hz) s2 hs0
    exact ⟨_, _, _, w, G, ⟨rfl, rfl⟩, by simp [execOp, hax, hr], Gh.Le.refl G, hw, .ptr hp⟩
theorem VL.fromU (ht : TabOk P tab) {d : Option Tmp} {x : Operand} {src dst ty el t : TypeId} {ps : String} {af : Array Edge} {g : Option (Nat × Bool)} {L : List (Fl × Oper)} {k s j : Nat} {te : TyI} (hmd : md = .plain ∨ md = .any)
    (hs : (tab src).map TyI.under = some .unsafePointer) (hdt : (tab dst).map TyI.under = some (.pointer el)) (he : tab el = some te) (hj : O.hp j = some (.shape k t s)) (hl : liesAt P P.depth t (s / P.cellsOf t) 0 el 1 = true)
    (hx : ev e x = some (.ptr k 0)) (hg : vguard ops (.mk d (.convert src dst x) ty ps af g) e = some true) (hd : dstB n d = true) (h : WL P tab n D md ops Q L (putM d (.ptr k 0) e) O) :
    VL P n D md ops ((.one, .mk d (.convert src dst x) ty ps af g) :: L) e O Q := by
  refine VL.stepP (M := fun m O' => m = .ptr k 0 ∧ O' = O) hmd hg hd (fun G a w hw hf => ?_) (by rintro m O' ⟨rfl, rfl⟩; exact WL.sound ht h)
  have hxv := hf.ev hx
  generalize hax : a.eval x = u at hxv
  cases hxv with
  | ptr hp =>
    rename_i b
    obtain ⟨ti, z, i1, i2, _⟩ := (ht _ te he).info
    obtain ⟨b2, s1, s2⟩ := hw.shp j k _ _ hj
    rw [hp] at s1; injection s1 with s1; subst s1
    have hr := Lib.run_from_unsafe (P := P) w ⟨b, 0, none⟩ (under_of ht hs) (under_of ht hdt) i1 s2 hl
    exact ⟨_, _, _, w, G, ⟨rfl, rfl⟩, by simp [execOp, hax, hr], Gh.Le.refl G, hw, .ptr hp⟩
end
end Go.Proofs.YtjbpnhmjnkolbaaDoor

/-
  THE VALUE MACHINE, 21: what each operation comes to, told by the types' rows alone, for the walk by rewriting.
-/
set_option linter.unusedVariables false
set_option linter.unusedSimpArgs false
namespace Go.Proofs.YtjbpnhmjnkolbaaDoor
open Go.RowKit

section
variable {tab : Tab} {t t' el : TypeId} {O : VH} {a b c d a' b' k o n off : Nat} {z y z' : List MV} {u : TypeDesc} {cs ds : List MV} {tk : Tok} {l : List UInt8} {m q : MV} {i j : Int} {kk kk' : IntKind} {x : Value}

def lenT : Option TyI → MV → Option MV
  | some ⟨.string, _, _, _⟩, .str l => some (.v (.int .i64 l.length))
  | some ⟨.slice _, _, _, _⟩, .sl n _ _ => some (.v (.int .i64 n))
  | some ⟨.slice _, _, _, _⟩, .asl _ _ n _ => some (.v (.int .i64 n))
  | some ⟨.map _ _, _, _, _⟩, .v (.map none) => some (.v (.int .i64 0))
  | some ⟨.array n _, _, _, _⟩, _ => some (.v (.int .i64 n))
  | _, _ => none
theorem vlenT : vlen tab t m = lenT (tab t) m := by
  unfold vlen lenT
  cases tab t with
  | none => rfl
  | some r => obtain ⟨d, _, _, _⟩ := r; cases d <;> cases m <;> first | rfl | (rename_i v; cases v <;> first | rfl | (rename_i q; cases q <;> rfl))
theorem lenT_str : lenT (some ⟨.string, a, b, z⟩) (.str l) = some (.v (.int .i64 l.length)) := rfl
theorem lenT_sl : lenT (some ⟨.slice el, a, b, z⟩) (.sl n cs tk) = some (.v (.int .i64 n)) := rfl
theorem lenT_asl : lenT (some ⟨.slice el, a, b, z⟩) (.asl k o n c) = some (.v (.int .i64 n)) := rfl
theorem lenT_nil : lenT (some ⟨.map t t', a, b, z⟩) (.v (.map none)) = some (.v (.int .i64 0)) := rfl
theorem lenT_map : lenT (some ⟨.map t t', a, b, z⟩) (.map k) = none := rfl
theorem lenT_arr : lenT (some ⟨.array n el, a, b, z⟩) m = some (.v (.int .i64 n)) := by cases m <;> rfl
theorem len_some {m2 : MV} {s : Option (MV × VH)} : (match some m2 with
    | some r => some (r, O)
    | none => s) = some (m2, O) := rfl
def wlen (O : VH) (s : Option (MV × VH)) : Option MV → Option (MV × VH)
  | some r => some (r, O)
  | none => s
theorem wlen_some {s : Option (MV × VH)} : wlen O s (some m) = some (m, O) := rfl
theorem wlen_none {s : Option (MV × VH)} : wlen O s none = s := rfl
theorem vop_lenT {e : Env} {d : Option Tmp} {x : Operand} {ty : TypeId} {p : String} {af : Array Edge} {g : Option (Nat × Bool)} : vop tab (.mk d (.call { callee := .builtin .len, args := #[x], argTypes := #[t] }) ty p af g) e O = (ev e x).bind fun q => wlen O ((vmaplen tab O t q).map (·, O)) (lenT (tab t) q) := by
  rw [vop_len]
  cases ev e x with
  | none => rfl
  | some q =>
    simp only [Option.bind_some, vlenT]
    cases lenT (tab t) q <;> rfl

/-! ### Addresses -/
def ixT (tab : Tab) (m ix : MV) : Option TyI → Option MV
  | some r => match ix, r.under, m with
    | .v (.int _ i), .slice el, .sl n cells _ => match tab el with
      | some te => if 0 ≤ i ∧ i < (n : Int) then some (.cptr cells (i.toNat * te.size)) else none
      | none => none
    | .v (.int _ i), .slice el, .asl k o n _ => match tab el with
      | some te => if 0 ≤ i ∧ i < (n : Int) then some (.ptr k (o + i.toNat * te.size)) else none
      | none => none
    | .v (.int _ i), .array len el, x => match tab el with
      | some te => if 0 ≤ i ∧ i < (len : Int) then maddr (i.toNat * te.size) x else none
      | none => none
    | _, _, _ => none
  | none => none
theorem vixT : vindexAddr tab t m q = ixT tab m q (tab t) := by
  unfold vindexAddr ixT
  cases h : tab t with
  | none => cases q <;> first | rfl | (rename_i v; cases v <;> rfl)
  | some r =>
    obtain ⟨d, _, _, _⟩ := r
    cases q <;> first | rfl | skip
    rename_i v
    cases v <;> first | rfl | skip
    cases d <;> cases m <;> rfl
def ixS (i : Int) (n : Nat) (cs : List MV) : Option TyI → Option MV
  | some te => if 0 ≤ i ∧ i < (n : Int) then some (.cptr cs (i.toNat * te.size)) else none
  | none => none
def ixR (i : Int) (n k o : Nat) : Option TyI → Option MV
  | some te => if 0 ≤ i ∧ i < (n : Int) then some (.ptr k (o + i.toNat * te.size)) else none
  | none => none
def ixA (i : Int) (n : Nat) (m : MV) : Option TyI → Option MV
  | some te => if 0 ≤ i ∧ i < (n : Int) then maddr (i.toNat * te.size) m else none
  | none => none
theorem ixT_sl : ixT tab (.sl n cs tk) (.v (.int kk i)) (some ⟨.slice el, a, b, z⟩) = ixS i n cs (tab el) := by unfold ixT ixS; rfl
theorem ixT_asl : ixT tab (.asl k o n c) (.v (.int kk i)) (some ⟨.slice el, a, b, z⟩) = ixR i n k o (tab el) := by unfold ixT ixR; rfl
theorem ixT_arr : ixT tab m (.v (.int kk i)) (some ⟨.array n el, a, b, z⟩) = ixA i n m (tab el) := by unfold ixT ixA; cases m <;> rfl
theorem ixS_ok (h0 : 0 ≤ i) (h1 : i < (n : Int)) : ixS i n cs (some ⟨u, a, b, z⟩) = some (.cptr cs (i.toNat * a)) := if_pos ⟨h0, h1⟩
theorem ixR_ok (h0 : 0 ≤ i) (h1 : i < (n : Int)) : ixR i n k o (some ⟨u, a, b, z⟩) = some (.ptr k (o + i.toNat * a)) := if_pos ⟨h0, h1⟩
theorem ixA_ok (h0 : 0 ≤ i) (h1 : i < (n : Int)) : ixA i n m (some ⟨u, a, b, z⟩) = maddr (i.toNat * a) m := if_pos ⟨h0, h1⟩
theorem maddr_p : maddr a (.ptr k o) = some (.ptr k (o + a)) := rfl
theorem maddr_c : maddr a (.cptr cs o) = some (.cptr cs (o + a)) := rfl
def inT (l : List UInt8) (i : Int) : Option TyI → Option MV
  | some ⟨.string, _, _, _⟩ => if 0 ≤ i then (l[i.toNat]?).map byM else none
  | _ => none
theorem vinT : vindex tab t (.str l) (.v (.int kk i)) = inT l i (tab t) := by
  unfold vindex inT
  cases tab t with
  | none => rfl
  | some r => obtain ⟨d, _, _, _⟩ := r; cases d <;> rfl
theorem inT_ok (h : 0 ≤ i) : inT l i (some ⟨.string, a, b, z⟩) = (l[i.toNat]?).map byM := if_pos h

/-! ### Loads and stores -/
def ldT (off : Nat) : Option TyI → Option VObj → Option MV
  | some r, some (.cells cs) => vcell (isAggB r.under) r.size cs off
  | _, _ => none
theorem vldP : vload tab O t (.ptr k off) = ldT off (tab t) (O.hp k) := by
  unfold vload ldT
  simp only [cellsOf]
  cases tab t <;> first | rfl | (cases O.hp k <;> first | rfl | (rename_i x; cases x <;> rfl))
theorem vldC : vload tab O t (.cptr cs off) = ldT off (tab t) (some (.cells cs)) := by
  unfold vload ldT cellsOf
  cases tab t <;> rfl
theorem ldT_ok : ldT off (some ⟨u, a, b, z⟩) (some (.cells cs)) = vcell (isAggB u) a cs off := rfl
theorem vcell_f : vcell false a cs off = cs[off]? := rfl
theorem vcell_t (h : off + a ≤ cs.length) : vcell true a cs off = some (.agg ((cs.drop off).take a)) := by simp [vcell, h]
theorem agB_bool : isAggB .bool = false := rfl
theorem agB_int : isAggB (.int kk) = false := rfl
theorem agB_str : isAggB .string = false := rfl
theorem agB_ptr : isAggB (.pointer t) = false := rfl
theorem agB_sl : isAggB (.slice t) = false := rfl
theorem agB_map : isAggB (.map t t') = false := rfl
theorem agB_arr : isAggB (.array n t) = true := rfl
theorem agB_if {ms : Array (String × TypeId)} : isAggB (.interface ms) = false := rfl
theorem agB_fn {ps rs : Array TypeId} {v : Bool} : isAggB (.func ps rs v) = false := rfl
def stT (O : VH) (k off : Nat) (m : MV) : Option TyI → Option VObj → Option VH
  | some r, some (.cells cs) => if (mcells m).length = r.size ∧ (mcells m).all leafB = true ∧ off + r.size ≤ cs.length then some (O.set k (.cells (setMany cs off (mcells m)))) else none
  | _, _ => none
theorem vstT : vstore tab O t (.ptr k off) m = stT O k off m (tab t) (O.hp k) := by
  unfold vstore stT
  cases tab t with
  | none => rfl
  | some r =>
    simp only
    cases O.hp k with
    | none => rfl
    | some x => cases x <;> rfl
theorem stT_1 {m : MV} (hm : mcells m = [m]) (hl : leafB m = true) (h : off < cs.length) : stT O k off m (some ⟨u, 1, b, z⟩) (some (.cells cs)) = some (O.set k (.cells (cs.set off m))) := by
  show (if (mcells m).length = 1 ∧ (mcells m).all leafB = true ∧ off + 1 ≤ cs.length then some (O.set k (.cells (setMany cs off (mcells m)))) else none) = _
  rw [if_pos ⟨by rw [hm]; rfl, by rw [hm]; simpa using hl, by omega⟩, hm]; rfl
theorem stT_v (h : off < cs.length) : stT O k off (.v x) (some ⟨u, 1, b, z⟩) (some (.cells cs)) = some (O.set k (.cells (cs.set off (.v x)))) := stT_1 rfl rfl h
theorem stT_s (h : off < cs.length) : stT O k off (.str l) (some ⟨u, 1, b, z⟩) (some (.cells cs)) = some (O.set k (.cells (cs.set off (.str l)))) := stT_1 rfl rfl h
theorem stT_p (h : off < cs.length) : stT O k off (.ptr c o) (some ⟨u, 1, b, z⟩) (some (.cells cs)) = some (O.set k (.cells (cs.set off (.ptr c o)))) := stT_1 rfl rfl h
theorem stT_c (h : off < cs.length) : stT O k off (.cptr ds o) (some ⟨u, 1, b, z⟩) (some (.cells cs)) = some (O.set k (.cells (cs.set off (.cptr ds o)))) := stT_1 rfl rfl h
theorem stT_sl (h : off < cs.length) : stT O k off (.sl n ds tk) (some ⟨u, 1, b, z⟩) (some (.cells cs)) = some (O.set k (.cells (cs.set off (.sl n ds tk)))) := stT_1 rfl rfl h
theorem stT_asl (h : off < cs.length) : stT O k off (.asl c o n d) (some ⟨u, 1, b, z⟩) (some (.cells cs)) = some (O.set k (.cells (cs.set off (.asl c o n d)))) := stT_1 rfl rfl h
theorem stT_map (h : off < cs.length) : stT O k off (.map c) (some ⟨u, 1, b, z⟩) (some (.cells cs)) = some (O.set k (.cells (cs.set off (.map c)))) := stT_1 rfl rfl h
theorem stT_if (h : off < cs.length) : stT O k off (.iface t m) (some ⟨u, 1, b, z⟩) (some (.cells cs)) = some (O.set k (.cells (cs.set off (.iface t m)))) := stT_1 rfl rfl h
theorem stT_fn {fn : Fn} (h : off < cs.length) : stT O k off (.func fn ds z') (some ⟨u, 1, b, z⟩) (some (.cells cs)) = some (O.set k (.cells (cs.set off (.func fn ds z')))) := stT_1 rfl rfl h
theorem stT_agg (h1 : ds.length = a) (h2 : ds.all leafB = true) (h : off + a ≤ cs.length) : stT O k off (.agg ds) (some ⟨u, a, b, z⟩) (some (.cells cs)) = some (O.set k (.cells (setMany cs off ds))) := if_pos ⟨h1, h2, h⟩
theorem setMany_nil : setMany cs off [] = cs := rfl
theorem setMany_cons : setMany cs off (m :: ds) = setMany (cs.set off m) (off + 1) ds := rfl
theorem leaf_v : leafB (.v x) = true := rfl
theorem leaf_s : leafB (.str l) = true := rfl
theorem leaf_p : leafB (.ptr k o) = true := rfl
theorem leaf_c : leafB (.cptr cs o) = true := rfl
theorem leaf_sl : leafB (.sl n cs tk) = true := rfl
theorem leaf_asl : leafB (.asl k o n c) = true := rfl
theorem leaf_map : leafB (.map k) = true := rfl
theorem leaf_if : leafB (.iface t m) = true := rfl
theorem leaf_fn {fn : Fn} : leafB (.func fn cs ds) = true := rfl
/-! ### The heap -/
section
variable {X : VObj} {k' : Nat} {s : Nat}
theorem hp_set (h : k' = k) : (O.set k X).hp k' = some X := by subst h; exact VH.set_get _ _ _
theorem hp_set_ne (h : k' ≠ k) : (O.set k X).hp k' = O.hp k' := VH.set_ne _ _ h
theorem hp_push (h : k' = O.next) : (O.push X).hp k' = some X := by subst h; exact VH.push_new _ _
theorem hp_push_ne (h : k' ≠ O.next) : (O.push X).hp k' = O.hp k' := VH.push_ne _ _ h
theorem hp_kill_ne (h : k' ≠ k) : (O.kill k).hp k' = O.hp k' := VH.kill_ne _ h
theorem next_set : (O.set k X).next = O.next := rfl
theorem next_push : (O.push X).next = O.next + 1 := rfl
theorem next_kill : (O.kill k).next = O.next := rfl
end
theorem vop_allocT {e : Env} {d : Option Tmp} {ty : TypeId} {p : String} {af : Array Edge} {g : Option (Nat × Bool)} : vop tab (.mk d (.alloc t) ty p af g) e O = (tab t).map fun i => (.ptr O.next 0, allocO O t i.size i.zero) := rfl
def alB (O : VH) (t : TypeId) (n : Nat) (z : List MV) : Bool → VH
  | true => (O.push (.cells z)).push (.shape O.next t n)
  | false => O.push (.cells z)
theorem allocO_eq : allocO O t n z = alB O t n z (isBldB z) := by unfold allocO alB; cases isBldB z <;> rfl
theorem alB_t : alB O t n z true = (O.push (.cells z)).push (.shape O.next t n) := rfl
theorem alB_f : alB O t n z false = O.push (.cells z) := rfl
theorem bld_t : isBldB [.v (.pointer none), .sl 0 [] .nil] = true := rfl
theorem bld_0 : isBldB [] = false := rfl
theorem bld_1 : isBldB [m] = false := by unfold isBldB; split <;> first | rfl | simp_all
theorem bld_3 {m1 m2 m3 : MV} : isBldB (m1 :: m2 :: m3 :: z) = false := by unfold isBldB; split <;> first | rfl | simp_all
theorem bld_int : isBldB [.v (.int kk i), m] = false := by unfold isBldB; split <;> first | rfl | simp_all
theorem bld_bool {b : Bool} : isBldB [.v (.bool b), m] = false := by unfold isBldB; split <;> first | rfl | simp_all
theorem bld_str : isBldB [.str l, m] = false := by unfold isBldB; split <;> first | rfl | simp_all
theorem bld_sl : isBldB [.sl n cs tk, m] = false := by unfold isBldB; split <;> first | rfl | simp_all
theorem bld_s2 : isBldB [m, .str l] = false := by unfold isBldB; split <;> first | rfl | simp_all
theorem bld_v2 : isBldB [m, .v x] = false := by unfold isBldB; split <;> first | rfl | simp_all
/-! ### Slicing -/
def slT (tab : Tab) (x : MV) (l h : Option MV) : Option TyI → Option MV
  | some ⟨.string, _, _, _⟩ => match x with
    | .str s => match vbound 0 l, vbound s.length h with
      | some lo, some hi => if lo ≤ hi ∧ hi ≤ s.length then some (.str ((s.drop lo).take (hi - lo))) else none
      | _, _ => none
    | _ => none
  | some ⟨.slice el, _, _, _⟩ => match x with
    | .sl n cells tk => match tab el, vbound 0 l, vbound n h with
      | some te, some lo, some hi =>
        if lo = 0 ∧ hi = n then some (.sl n cells tk)
        else if lo ≤ hi ∧ hi ≤ n ∧ cells.length = n * te.size then some (.sl (hi - lo) ((cells.drop (lo * te.size)).take ((hi - lo) * te.size)) (cutTok tk te.size (hi == n))) else none
      | _, _, _ => none
    | .asl k o n c => match tab el, vbound 0 l, vbound n h with
      | some te, some lo, some hi => if lo ≤ hi ∧ hi ≤ c then some (.asl k (if c = lo then o else o + lo * te.size) (hi - lo) (c - lo)) else none
      | _, _, _ => none
    | _ => none
  | _ => none
theorem vslT {l h : Option MV} : vslice tab t m l h = slT tab m l h (tab t) := by
  unfold vslice slT
  cases tab t with
  | none => rfl
  | some r => obtain ⟨d, _, _, _⟩ := r; cases d <;> cases m <;> rfl
theorem slT_s (h0 : 0 ≤ i) (h1 : i ≤ j) (h2 : j ≤ (l.length : Int)) : slT tab (.str l) (some (.v (.int kk i))) (some (.v (.int kk' j))) (some ⟨.string, a, b, z⟩) = some (.str ((l.drop i.toNat).take (j.toNat - i.toNat))) := by
  have e1 : 0 ≤ j := by omega
  simp only [slT, vbound, if_pos h0, if_pos e1]
  rw [if_pos ⟨by omega, by omega⟩]
theorem slT_s1 (h0 : 0 ≤ i) (h1 : i ≤ (l.length : Int)) : slT tab (.str l) (some (.v (.int kk i))) none (some ⟨.string, a, b, z⟩) = some (.str (l.drop i.toNat)) := by
  simp only [slT, vbound, if_pos h0]
  rw [if_pos ⟨by omega, by omega⟩, List.take_of_length_le (by simp)]
theorem slT_s2 (h1 : 0 ≤ j) (h2 : j ≤ (l.length : Int)) : slT tab (.str l) none (some (.v (.int kk j))) (some ⟨.string, a, b, z⟩) = some (.str (l.take j.toNat)) := by
  simp only [slT, vbound, if_pos h1]
  rw [if_pos ⟨by omega, by omega⟩]; simp
def slA (k o lo hi c : Nat) : Option TyI → Option MV
  | some te => some (.asl k (if c = lo then o else o + lo * te.size) (hi - lo) (c - lo))
  | none => none
theorem slT_a (h0 : 0 ≤ i) (h1 : i ≤ j) (h2 : j ≤ (c : Int)) : slT tab (.asl k o n c) (some (.v (.int kk i))) (some (.v (.int kk' j))) (some ⟨.slice el, a, b, z⟩) = slA k o i.toNat j.toNat c (tab el) := by
  have e1 : 0 ≤ j := by omega
  simp only [slT, vbound, if_pos h0, if_pos e1, slA]
  cases tab el with
  | none => rfl
  | some te => simp only; rw [if_pos ⟨by omega, by omega⟩]
theorem slT_a1 (h0 : 0 ≤ i) (h1 : i ≤ (n : Int)) (h2 : n ≤ c) : slT tab (.asl k o n c) (some (.v (.int kk i))) none (some ⟨.slice el, a, b, z⟩) = slA k o i.toNat n c (tab el) := by
  simp only [slT, vbound, if_pos h0, slA]
  cases tab el with
  | none => rfl
  | some te => simp only; rw [if_pos ⟨by omega, h2⟩]
theorem slT_a2 (h1 : 0 ≤ j) (h2 : j ≤ (c : Int)) : slT tab (.asl k o n c) none (some (.v (.int kk j))) (some ⟨.slice el, a, b, z⟩) = slA k o 0 j.toNat c (tab el) := by
  simp only [slT, vbound, if_pos h1, slA]
  cases tab el with
  | none => rfl
  | some te => simp only; rw [if_pos ⟨by omega, by omega⟩]
theorem slA_0 : slA k o 0 n c (some ⟨u, a, b, z⟩) = some (.asl k o n c) := by
  simp only [slA]
  congr 2
  split <;> simp
theorem slA_ne {lo hi : Nat} (h : c ≠ lo) : slA k o lo hi c (some ⟨u, a, b, z⟩) = some (.asl k (o + lo * a) (hi - lo) (c - lo)) := by
  simp only [slA, if_neg h]
theorem slA_eq {lo hi : Nat} (h : c = lo) : slA k o lo hi c (some ⟨u, a, b, z⟩) = some (.asl k o (hi - lo) (c - lo)) := by
  simp only [slA, if_pos h]
def slS (n lo hi : Nat) (cs : List MV) (tk : Tok) : Option TyI → Option MV
  | some te => if lo = 0 ∧ hi = n then some (.sl n cs tk)
        else if lo ≤ hi ∧ hi ≤ n ∧ cs.length = n * te.size then some (.sl (hi - lo) ((cs.drop (lo * te.size)).take ((hi - lo) * te.size)) (cutTok tk te.size (hi == n))) else none
  | none => none
theorem slT_gen {l h : Option MV} {lo hi : Nat} (hl : vbound 0 l = some lo) (hh : vbound n h = some hi) : slT tab (.sl n cs tk) l h (some ⟨.slice el, a, b, z⟩) = slS n lo hi cs tk (tab el) := by
  show (match tab el, vbound 0 l, vbound n h with
      | some te, some lo, some hi =>
        if lo = 0 ∧ hi = n then some (MV.sl n cs tk)
        else if lo ≤ hi ∧ hi ≤ n ∧ cs.length = n * te.size then some (.sl (hi - lo) ((cs.drop (lo * te.size)).take ((hi - lo) * te.size)) (cutTok tk te.size (hi == n))) else none
      | _, _, _ => none) = _
  rw [hl, hh]; cases tab el <;> rfl
theorem slT_l (h0 : 0 ≤ i) (h1 : 0 ≤ j) : slT tab (.sl n cs tk) (some (.v (.int kk i))) (some (.v (.int kk' j))) (some ⟨.slice el, a, b, z⟩) = slS n i.toNat j.toNat cs tk (tab el) := slT_gen (if_pos h0) (if_pos h1)
theorem slT_l1 (h0 : 0 ≤ i) : slT tab (.sl n cs tk) (some (.v (.int kk i))) none (some ⟨.slice el, a, b, z⟩) = slS n i.toNat n cs tk (tab el) := slT_gen (if_pos h0) rfl
theorem slT_l2 (h0 : 0 ≤ j) : slT tab (.sl n cs tk) none (some (.v (.int kk j))) (some ⟨.slice el, a, b, z⟩) = slS n 0 j.toNat cs tk (tab el) := slT_gen rfl (if_pos h0)
theorem slT_l0 : slT tab (.sl n cs tk) none none (some ⟨.slice el, a, b, z⟩) = slS n 0 n cs tk (tab el) := slT_gen rfl rfl
theorem slS_all {lo hi : Nat} (h0 : lo = 0) (h1 : hi = n) : slS n lo hi cs tk (some ⟨u, a, b, z⟩) = some (.sl n cs tk) := if_pos ⟨h0, h1⟩
theorem slS_part {lo hi : Nat} (h : lo ≠ 0 ∨ hi ≠ n) (h1 : lo ≤ hi) (h2 : hi ≤ n) (h3 : cs.length = n * a) : slS n lo hi cs tk (some ⟨u, a, b, z⟩) = some (.sl (hi - lo) ((cs.drop (lo * a)).take ((hi - lo) * a)) (cutTok tk a (hi == n))) := by
  simp only [slS]
  rw [if_neg (by omega), if_pos ⟨h1, h2, h3⟩]
def sl3A (k o lo hi m c : Nat) : Option TyI → Option MV
  | some te => some (.asl k (if m = lo then o else o + lo * te.size) (hi - lo) (m - lo))
  | none => none
def sl3T (tab : Tab) (x : MV) (l : Option MV) (h mx : MV) : Option TyI → Option MV
  | some ⟨.slice el, _, _, _⟩ => vslice3 (fun s => if s = 0 then some ⟨.slice 1, 0, 0, []⟩ else tab el) 0 x l h mx
  | _ => none
theorem sl3_a (h : tab t = some ⟨.slice el, a, b, z⟩) (h' : tab el = some ⟨u, a', b', z'⟩) {m : Int} (h0 : 0 ≤ i) (h1 : i ≤ j) (h2 : j ≤ m) (h3 : m ≤ (c : Int)) : vslice3 tab t (.asl k o n c) (some (.v (.int kk i))) (.v (.int kk' j)) (.v (.int kk m)) = some (.asl k (if m.toNat = i.toNat then o else o + i.toNat * a') (j.toNat - i.toNat) (m.toNat - i.toNat)) := by
  simp only [vslice3, h, h', Option.map_some, vbound, if_pos h0]
  rw [if_pos ⟨by omega, by omega, by omega, by omega⟩, if_pos (by omega)]
/-! ### Conversions -/
def cvT (x : MV) : Option TyI → Option TyI → Option MV
  | some _, some ⟨.int k, _, _, _⟩ => match x with
    | .v (.int _ i) => some (.v (.int k (k.wrap i)))
    | _ => none
  | some ⟨.string, _, _, _⟩, some ⟨.string, _, _, _⟩ => match x with
    | .str l => some (.str l)
    | _ => none
  | _, _ => none
theorem vcvT : vconv tab t t' m = cvT m (tab t) (tab t') := by
  unfold vconv cvT
  cases tab t with
  | none => rfl
  | some r =>
    obtain ⟨d, _, _, _⟩ := r
    cases tab t' with
    | none => cases d <;> rfl
    | some r' =>
      obtain ⟨d', _, _, _⟩ := r'
      cases d' <;> first
        | (cases d <;> rfl)
        | (cases m <;> first | (cases d <;> rfl) | (rename_i v; cases v <;> cases d <;> rfl))
theorem cvT_int {k' : IntKind} {r : TyI} : cvT (.v (.int kk i)) (some r) (some ⟨.int k', a, b, z⟩) = some (.v (.int k' (k'.wrap i))) := rfl
theorem cvT_str : cvT (.str l) (some ⟨.string, a, b, z⟩) (some ⟨.string, a', b', z'⟩) = some (.str l) := rfl
theorem cvT_sb : cvT m (some ⟨.string, a, b, z⟩) (some ⟨.slice el, a', b', z'⟩) = none := rfl
theorem cvT_bs : cvT m (some ⟨.slice el, a, b, z⟩) (some ⟨.string, a', b', z'⟩) = none := rfl
theorem cvT_pu : cvT m (some ⟨.pointer el, a, b, z⟩) (some ⟨.unsafePointer, a', b', z'⟩) = none := rfl
theorem cvT_up : cvT m (some ⟨.unsafePointer, a, b, z⟩) (some ⟨.pointer el, a', b', z'⟩) = none := rfl
/-! ### Literals -/
def zipL : List (Nat × Operand) → List MV → List (Nat × MV)
  | (i, _) :: l, m :: ms => (i, m) :: zipL l ms
  | _, _ => []
theorem zipPartsL (l : List (Nat × Operand)) (ms : List MV) : zipParts l.toArray ms = zipL l ms := by
  unfold zipParts
  simp only
  induction l generalizing ms with
  | nil => cases ms <;> rfl
  | cons p l ih => cases ms with
    | nil => rfl
    | cons m ms => obtain ⟨i, x⟩ := p; simp only [List.map_cons, List.zip_cons_cons, zipL]; rw [ih]
theorem zipL_nil {ms : List MV} : zipL [] ms = [] := by cases ms <;> rfl
theorem zipL_cons {x : Operand} {l : List (Nat × Operand)} {ms : List MV} : zipL ((n, x) :: l) (m :: ms) = (n, m) :: zipL l ms := rfl
def flT (pl : Nat → Option (Nat × Nat)) (cs : List MV) (x : MV) (rest : List (Nat × MV)) : Option (Nat × Nat) → Option (List MV)
  | none => none
  | some (off, size) => if (mcells x).length = size ∧ off + size ≤ cs.length then vfill pl (setMany cs off (mcells x)) rest else none
def placeL (l : List (Nat × Nat)) (i : Nat) : Option (Nat × Nat) := l[i]?
theorem placeL_0 {p : Nat × Nat} {l : List (Nat × Nat)} : placeL (p :: l) 0 = some p := rfl
theorem placeL_s {p : Nat × Nat} {l : List (Nat × Nat)} : placeL (p :: l) (n + 1) = placeL l n := rfl
def placeR (a : Nat) (k : Nat) : Option (Nat × Nat) := some (k * a, a)
theorem placeR_eq : placeR a k = some (k * a, a) := rfl
theorem vfill_nil {pl : Nat → Option (Nat × Nat)} : vfill pl cs [] = some cs := rfl
theorem vfill_cons {pl : Nat → Option (Nat × Nat)} {rest : List (Nat × MV)} : vfill pl cs ((n, m) :: rest) = flT pl cs m rest (pl n) := by
  rw [vfill]; cases h : pl n <;> rfl
theorem flT_ok {pl : Nat → Option (Nat × Nat)} {rest : List (Nat × MV)} (h : (mcells m).length = a ∧ off + a ≤ cs.length) : flT pl cs m rest (some (off, a)) = vfill pl (setMany cs off (mcells m)) rest := if_pos h
def bsT (tab : Tab) (len : Nat) (parts : List (Nat × MV)) : Option TyI → Option MV
  | some ⟨.slice el, _, _, _⟩ => match tab el with
    | some te => if 0 < len * te.size ∧ len * te.size ≤ 16777216 ∧ 0 < te.zero.length ∧ len ≤ maxLen then
        (vfill (fun k => some (k * te.size, te.size)) (vzeros te.zero (len * te.size)) parts).map fun cs => .sl len cs .full
      else if len = 0 ∧ parts = [] then some (.sl 0 [] .full) else none
    | none => none
  | _ => none
theorem vbsT {parts : List (Nat × MV)} : vbuildSlice tab t n parts = bsT tab n parts (tab t) := by
  unfold vbuildSlice bsT
  cases tab t with
  | none => rfl
  | some r => obtain ⟨d, _, _, _⟩ := r; cases d <;> rfl
def bsE (n : Nat) (parts : List (Nat × MV)) : Option TyI → Option MV
  | some te => if 0 < n * te.size ∧ n * te.size ≤ 16777216 ∧ 0 < te.zero.length ∧ n ≤ maxLen then
        (vfill (fun k => some (k * te.size, te.size)) (vzeros te.zero (n * te.size)) parts).map fun cs => .sl n cs .full
      else if n = 0 ∧ parts = [] then some (.sl 0 [] .full) else none
  | none => none
theorem bsT_sl {parts : List (Nat × MV)} : bsT tab n parts (some ⟨.slice el, a, b, z⟩) = bsE n parts (tab el) := by unfold bsT bsE; rfl
theorem bsE_0 {r : TyI} : bsE 0 [] (some r) = some (.sl 0 [] .full) := by simp [bsE]
theorem vzeros_rep (h : z.length = a) (h0 : 0 < a) : ∀ n, vzeros z (n * a) = (List.replicate n z).flatten := by
  intro n
  induction n with
  | zero => simp [vzeros]
  | succ n ih =>
    rw [List.replicate_succ', List.flatten_append, ← ih]
    simp only [vzeros, Nat.succ_mul]
    rw [List.range_add, List.map_append]
    congr 1
    subst h
    simp only [List.map_map, List.flatten_cons, List.flatten_nil, List.append_nil]
    apply List.ext_getElem?
    intro i
    simp only [List.getElem?_map, List.getElem?_range]
    by_cases hi : i < z.length
    · simp [hi, Nat.mod_eq_of_lt hi]
    · simp [List.getElem?_eq_none (Nat.le_of_not_lt hi), hi]
def repL : Nat → List MV → List MV
  | 0, _ => []
  | n + 1, z => z ++ repL n z
theorem repL_eq : ∀ n, (List.replicate n z).flatten = repL n z
  | 0 => rfl
  | n + 1 => by rw [List.replicate_succ, List.flatten_cons, repL_eq n]; rfl
theorem repL_1 : repL 1 z = z := by simp [repL]
theorem repL_2 : repL 2 z = z ++ z := by simp [repL]
theorem repL_3 : repL 3 z = z ++ (z ++ z) := by simp [repL]
theorem repL_4 : repL 4 z = z ++ (z ++ (z ++ z)) := by simp [repL]
theorem repL_5 : repL 5 z = z ++ (z ++ (z ++ (z ++ z))) := by simp [repL]
theorem repL_6 : repL 6 z = z ++ (z ++ (z ++ (z ++ (z ++ z)))) := by simp [repL]
theorem repL_7 : repL 7 z = z ++ (z ++ (z ++ (z ++ (z ++ (z ++ z))))) := by simp [repL]
theorem repL_8 : repL 8 z = z ++ (z ++ (z ++ (z ++ (z ++ (z ++ (z ++ z)))))) := by simp [repL]
theorem bsE_ok {parts : List (Nat × MV)} (h : z.length = a) (h0 : 0 < n * a) (h1 : n * a ≤ 16777216) : bsE n parts (some ⟨u, a, b, z⟩) = (vfill (placeR a) (repL n z) parts).map (MV.sl n · .full) := by
  have ha : 0 < a := by rcases Nat.eq_zero_or_pos a with e | e; · subst e; omega
                        · exact e
  have hn : n ≤ maxLen := by
    have : n * 1 ≤ n * a := Nat.mul_le_mul_left _ ha
    simp [maxLen]; omega
  rw [← repL_eq, ← vzeros_rep h ha]
  exact if_pos ⟨h0, h1, by show 0 < z.length; omega, hn⟩
/-! ### Arithmetic -/
def bT (b : Bool) : Option TyI → Option MV
  | some ⟨.bool, _, _, _⟩ => some (.v (.bool b))
  | _ => none
theorem vbin_beq {a b : Bool} : vbin tab .eql t (.v (.bool a)) (.v (.bool b)) = bT (a == b) (tab t) := by
  simp only [vbin, bT]
  cases tab t with
  | none => rfl
  | some r => obtain ⟨d, _, _, _⟩ := r; cases d <;> rfl
theorem vbin_bne {a b : Bool} : vbin tab .neq t (.v (.bool a)) (.v (.bool b)) = bT (!(a == b)) (tab t) := by
  simp only [vbin, bT]
  cases tab t with
  | none => rfl
  | some r => obtain ⟨d, _, _, _⟩ := r; cases d <;> rfl
theorem bT_ok {p : Bool} : bT p (some ⟨.bool, a, b, z⟩) = some (.v (.bool p)) := rfl
def pT (b : Bool) : Option TyI → Option MV
  | some ⟨.pointer _, _, _, _⟩ => some (.v (.bool b))
  | _ => none
theorem pT_ok {p : Bool} : pT p (some ⟨.pointer el, a, b, z⟩) = some (.v (.bool p)) := rfl
theorem vptr_e {p : Bool} : vptr tab .eql t p = pT p (tab t) := by
  simp only [vptr, pT]
  cases tab t with
  | none => rfl
  | some r => obtain ⟨d, _, _, _⟩ := r; cases d <;> rfl
theorem vptr_n {p : Bool} : vptr tab .neq t p = pT (!p) (tab t) := by
  simp only [vptr, pT]
  cases tab t with
  | none => rfl
  | some r => obtain ⟨d, _, _, _⟩ := r; cases d <;> rfl
section
variable {op : BinOp} {la lb : List UInt8}
theorem vbin_pnn : vbin tab op t (.v (.pointer none)) (.v (.pointer none)) = vptr tab op t true := by cases op <;> rfl
theorem vbin_ppn : vbin tab op t (.ptr k o) (.v (.pointer none)) = vptr tab op t false := by cases op <;> rfl
theorem vbin_pnp : vbin tab op t (.v (.pointer none)) (.ptr k o) = vptr tab op t false := by cases op <;> rfl
theorem vbin_pcn : vbin tab op t (.cptr cs o) (.v (.pointer none)) = vptr tab op t false := by cases op <;> rfl
theorem vbin_pnc : vbin tab op t (.v (.pointer none)) (.cptr cs o) = vptr tab op t false := by cases op <;> rfl
theorem vbin_agg : vbin tab op t (.agg cs) (.agg ds) = none := by cases op <;> rfl
theorem vbin_seq : vbin tab .eql t (.str la) (.str lb) = some (.v (.bool (la == lb))) := rfl
theorem vbin_sne : vbin tab .neq t (.str la) (.str lb) = some (.v (.bool (!(la == lb)))) := rfl
theorem vbin_slt : vbin tab .lss t (.str la) (.str lb) = some (.v (.bool (Op.bytesLess la lb))) := rfl
theorem vbin_sle : vbin tab .leq t (.str la) (.str lb) = some (.v (.bool (Op.bytesLess la lb || la == lb))) := rfl
theorem vbin_sgt : vbin tab .gtr t (.str la) (.str lb) = some (.v (.bool (!(Op.bytesLess la lb || la == lb)))) := rfl
theorem vbin_sge : vbin tab .geq t (.str la) (.str lb) = some (.v (.bool (!(Op.bytesLess la lb)))) := rfl
theorem vbin_sadd (h : la.length + lb.length ≤ 9223372036854775807) : vbin tab .add t (.str la) (.str lb) = some (.str (la ++ lb)) := if_pos h
end
theorem vbin_psame (h : tab t = some ⟨.pointer el, a, b, z⟩) {s : Nat} (h' : tab el = some ⟨u, s + 1, b', z'⟩) {op : BinOp} : vbin tab op t (.ptr k o) (.ptr k o) = vptr tab op t true := by
  cases op <;> simp [vbin, h, h', vptr]
theorem byM_def (b : UInt8) : byM b = .v (.int .u8 b.toNat) := rfl
theorem tn_add {n k : Nat} : ((n : Int) + (k : Int)).toNat = n + k := by omega
theorem tn_add1 {n : Nat} : ((n : Int) + 1).toNat = n + 1 := by omega
theorem tn_add2 {n : Nat} : ((n : Int) + 2).toNat = n + 2 := by omega
theorem tn_sub1 {n : Nat} : ((n : Int) - 1).toNat = n - 1 := by omega
theorem cast_dec {n : Nat} : ((n + 1 : Nat) : Int) - 1 = n := by omega
theorem wrap_k {k : IntKind} {i : Int} (h : k.min ≤ i ∧ i ≤ k.max) : k.wrap i = i := by
  cases k <;> simp only [IntKind.min, IntKind.max, IntKind.signed, IntKind.bits] at h <;> simp only [IntKind.wrap, IntKind.signed, IntKind.bits] <;> simp at h ⊢ <;> omega
theorem wrapU8 (h0 : 0 ≤ i) (h1 : i ≤ 255) : IntKind.u8.wrap i = i := by
  simp only [IntKind.wrap, IntKind.signed, IntKind.bits]; simp; omega
theorem wrapU64 (h0 : 0 ≤ i) (h1 : i ≤ 18446744073709551615) : IntKind.u64.wrap i = i := by
  simp only [IntKind.wrap, IntKind.signed, IntKind.bits]; simp; omega
theorem vshr_ok (h : 0 ≤ j) : vbin tab .shr t (.v (.int kk i)) (.v (.int kk' j)) = some (.v (.int kk (i.fdiv (2 ^ (min j.toNat kk.bits))))) := by
  have : ¬ j < 0 := by omega
  simp [vbin, vshift, this]
theorem vand_ok : vbin tab .and t (.v (.int kk i)) (.v (.int kk j)) = some (.v (.int kk (kk.wrap (BitVec.ofInt kk.bits i &&& BitVec.ofInt kk.bits j).toNat))) := by simp [vbin, vint]
theorem vrem_ok (h : j ≠ 0) : vbin tab .rem t (.v (.int kk i)) (.v (.int kk j)) = some (.v (.int kk (i.tmod j))) := vbin_rem h
theorem vquo_ok (h : j ≠ 0) : vbin tab .quo t (.v (.int kk i)) (.v (.int kk j)) = some (.v (.int kk (kk.wrap (i.tdiv j)))) := vbin_quo h
end
end Go.Proofs.YtjbpnhmjnkolbaaDoor

/-
  THE VALUE MACHINE, 22: the rewriting lemmas of a walk by rewriting, in one (ws); those that prove what they ask (ds). Printed by mkVk.py.
-/
set_option linter.unusedVariables false
set_option linter.unusedSimpArgs false
namespace Go.Proofs.YtjbpnhmjnkolbaaDoor
open Go.RowKit
section
variable {x y z : Operand} {t t' : TypeId} {f : Nat} {q : BinOp} {r : UnOp} {as as' : Array Operand} {ts : Array TypeId} {l h k : Option Operand} {fn : Fn} {ps : Array (Nat × Operand)} {bb : Bool}
theorem sB_move : stopB (.move x) = false := rfl
theorem sB_assign : stopB (.assign x) = false := rfl
theorem sB_pick : stopB (.pick x y z) = false := rfl
theorem sB_nilCheck : stopB (.nilCheck x) = false := rfl
theorem sB_binOp : stopB (.binOp q t x y t') = false := rfl
theorem sB_unOp : stopB (.unOp r t x) = false := rfl
theorem sB_convert : stopB (.convert t t' x) = false := rfl
theorem sB_fieldAddr : stopB (.fieldAddr t x f) = false := rfl
theorem sB_field : stopB (.field t x f) = false := rfl
theorem sB_indexAddr : stopB (.indexAddr t x y) = false := rfl
theorem sB_index : stopB (.index t x y) = false := rfl
theorem sB_extract : stopB (.extract x f) = false := rfl
theorem sB_slice : stopB (.slice t x l h k) = false := rfl
theorem sB_build : stopB (.build t ps) = false := rfl
theorem sB_makeFunc : stopB (.makeFunc fn as as') = false := rfl
theorem sB_makeInterface : stopB (.makeInterface t x) = false := rfl
theorem sB_load : stopB (.load t x) = false := rfl
theorem sB_store : stopB (.store t x y) = false := rfl
theorem sB_box : stopB (.box t x) = false := rfl
theorem sB_alloc : stopB (.alloc t) = false := rfl
theorem sB_buildSlice : stopB (.buildSlice t f ps) = false := rfl
theorem sB_makeMap : stopB (.makeMap t l) = false := rfl
theorem sB_lookup : stopB (.lookup t x y bb) = false := rfl
theorem sB_mapUpdate : stopB (.mapUpdate t x y z) = false := rfl
theorem sB_insert : stopB (.insert t x y z) = false := rfl
theorem sB_makeSlice : stopB (.makeSlice t x y) = false := rfl
theorem sB_range : stopB (.range t x) = false := rfl
theorem sB_next : stopB (.next x bb) = false := rfl
theorem sB_entry : stopB (.entry x) = false := rfl
theorem sB_typeAssert : stopB (.typeAssert x t t' bb) = false := rfl
theorem sB_panic : stopB (.panic x) = false := rfl
theorem sB_mapEntry : stopB (.mapEntry t x y) = false := rfl
theorem sB_entryStore : stopB (.entryStore t x y z) = false := rfl
theorem sB_blen : stopB (.call { callee := .builtin .len, args := as, argTypes := ts }) = false := rfl
theorem sB_bmax : stopB (.call { callee := .builtin .max, args := as, argTypes := ts }) = false := rfl
theorem sB_bmin : stopB (.call { callee := .builtin .min, args := as, argTypes := ts }) = false := rfl
theorem sB_bunsafeSliceData : stopB (.call { callee := .builtin .unsafeSliceData, args := as, argTypes := ts }) = false := rfl
theorem sB_bunsafeString : stopB (.call { callee := .builtin .unsafeString, args := as, argTypes := ts }) = false := rfl
theorem sB_bclear : stopB (.call { callee := .builtin .clear, args := as, argTypes := ts }) = false := rfl
theorem sB_bcopy : stopB (.call { callee := .builtin .copy, args := as, argTypes := ts }) = false := rfl
theorem sB_bcap : stopB (.call { callee := .builtin .cap, args := as, argTypes := ts }) = false := rfl
theorem sB_bdelete : stopB (.call { callee := .builtin .delete, args := as, argTypes := ts }) = false := rfl
theorem sB_bprint : stopB (.call { callee := .builtin .print, args := as, argTypes := ts }) = false := rfl
theorem sB_bprintln : stopB (.call { callee := .builtin .println, args := as, argTypes := ts }) = false := rfl
theorem sB_brecover : stopB (.call { callee := .builtin .recover, args := as, argTypes := ts }) = false := rfl
theorem sB_val : stopB (.call { callee := .value x, args := as, argTypes := ts }) = true := rfl
theorem sB_app : stopB (.call { callee := .builtin .append, args := as, argTypes := ts }) = true := rfl
theorem fk_one : fkB .one = false := rfl
theorem fk_sil : fkB .sil = false := rfl
theorem fk_rd : fkB .rd = false := rfl
theorem fk_fk : fkB .fk = true := rfl
end
theorem RoundQ.next {σ : Type} {l K : List Nat} {ks : List MV} {ms : σ → List MV} {I : σ → VH → Prop} {μ : σ → Nat} {s : σ} {Q : VQ} {e : Env} {O : VH} (s' : σ) (hk : looks e K = some ks) (hl : looks e l = some (ms s')) (hI : I s' O) (hm : μ s' < μ s) : RoundQ l K ks ms I μ s Q .normal e O := ⟨hk, s', hl, hI, hm⟩
set_option linter.defProp false in
def ws0 := And.intro @sB_move <| And.intro @sB_assign <| And.intro @sB_pick <| And.intro @sB_nilCheck <| And.intro @sB_binOp <| And.intro @sB_unOp <| And.intro @sB_convert <| And.intro @sB_fieldAddr <| And.intro @sB_field <| And.intro @sB_indexAddr <| And.intro @sB_index <| And.intro @sB_extract <| And.intro @sB_slice <| And.intro @sB_build <| And.intro @sB_makeFunc <| And.intro @sB_makeInterface <| And.intro @sB_load <| And.intro @sB_store <| And.intro @sB_box <| And.intro @sB_alloc <| And.intro @sB_buildSlice <| And.intro @sB_makeMap <| And.intro @sB_lookup <| And.intro @sB_mapUpdate <| And.intro @sB_insert <| And.intro @sB_makeSlice <| And.intro @sB_range <| And.intro @sB_next <| And.intro @sB_entry <| And.intro @sB_typeAssert <| And.intro @sB_panic <| And.intro @sB_mapEntry <| And.intro @sB_entryStore <| And.intro @sB_blen <| And.intro @sB_bmax <| And.intro @sB_bmin <| And.intro @sB_bunsafeSliceData <| And.intro @sB_bunsafeString <| And.intro @sB_bclear <| And.intro @sB_bcopy <| And.intro @sB_bcap <| And.intro @sB_bdelete <| And.intro @sB_bprint <| And.intro @sB_bprintln <| And.intro @sB_brecover <| And.intro @sB_val <| And.intro @sB_app <| And.intro @fk_one <| And.intro @fk_sil <| And.intro @fk_rd <| And.intro @fk_fk <| And.intro @WL_nil <| And.intro @WL_cons <| And.intro @W1_stop <| And.intro @W1_go <| And.intro @W1_skip <| And.intro @W2_some <| And.intro @W2_none <| And.intro @W3_true <| And.intro @StopW_call <| And.intro @StopW_append <| And.intro @WC_skip <| And.intro @WC_exit <| And.intro @WC_label <| And.intro @WC_ret <| And.intro @WC_scope <| And.intro @WC_block <| And.intro @NextW_eq <| And.intro @WC_seq <| And.intro @WC_cond <| And.intro @WC_region <| And.intro @WC_drawn <| And.intro @WC_loop <| And.intro @SeqW_normal <| And.intro @SeqW_exit <| And.intro @SeqW_goto <| And.intro @SeqW_ret <| And.intro @SeqW_panic <| And.intro @CondW_t @CondW_f
set_option linter.defProp false in
def ws1 := And.intro @vres_nil <| And.intro @vres_cons <| And.intro @vresult_tmp <| And.intro @vresult_cell <| And.intro @RetW_0 <| And.intro @RetW_1 <| And.intro @RetW_2 <| And.intro @RetW_3 <| And.intro @RetW_4 <| And.intro @EndW_normal <| And.intro @EndW_ret <| And.intro @EndW_panic <| And.intro @ScopeQ_normal <| And.intro @ScopeQ_exit <| And.intro @ScopeQ_ret <| And.intro @ScopeQ_panic <| And.intro @RoundQ_exit <| And.intro @RoundQ_goto <| And.intro @RoundQ_ret <| And.intro @RoundQ_panic <| And.intro @BlockQ_normal <| And.intro @BlockQ_exit <| And.intro @BlockQ_goto <| And.intro @BlockQ_ret <| And.intro @BlockQ_panic <| And.intro @Ret_ret <| And.intro @vnil_p <| And.intro @vnil_c <| And.intro @mcells_v <| And.intro @mcells_sl <| And.intro @mcells_str <| And.intro @mcells_ptr <| And.intro @mcells_agg <| And.intro @vop_makeMap <| And.intro @vop_lookup <| And.intro @vop_mapUpdate <| And.intro @vop_insert <| And.intro @opK_makeMap <| And.intro @opK_lookup <| And.intro @opK_mapUpdate <| And.intro @opK_insert <| And.intro @vopF_one <| And.intro @vopF_sil <| And.intro @vopF_rd <| And.intro @vopS_1 <| And.intro @vopS_2 <| And.intro @vopS_4 <| And.intro @vopR_1 <| And.intro @vopR_2 <| And.intro @vopR_5 <| And.intro @vopR_4 <| And.intro @vloadc_c <| And.intro @opK_move <| And.intro @opK_assign <| And.intro @opK_pick <| And.intro @opK_nilCheck <| And.intro @opK_binOp <| And.intro @opK_unOp <| And.intro @opK_convert <| And.intro @opK_fieldAddr <| And.intro @opK_field <| And.intro @opK_indexAddr <| And.intro @opK_index <| And.intro @opK_extract <| And.intro @opK_slice <| And.intro @opK_build <| And.intro @opK_makeFunc <| And.intro @opK_makeInterface <| And.intro @opK_load <| And.intro @opK_value <| And.intro @opK_len <| And.intro @opK_max <| And.intro @opK_min <| And.intro @opK_append <| And.intro @opK_sdata <| And.intro @opK_store <| And.intro @opK_box <| And.intro @opK_alloc <| And.intro @opK_buildSlice @opK_makeSlice
set_option linter.defProp false in
def ws2 := And.intro @beqT <| And.intro @beqF <| And.intro @beqI_t <| And.intro @beqI_f <| And.intro @bneI_t <| And.intro @bneI_f <| And.intro @vguard_none <| And.intro @vguard_some <| And.intro @dstB_some <| And.intro @dstB_none <| And.intro @putM_some <| And.intro @putM_none <| And.intro @wrap_i64 <| And.intro @vop_move <| And.intro @vop_assign <| And.intro @vpick_t <| And.intro @vmax_i <| And.intro @vmin_i <| And.intro @vop_nilCheck <| And.intro @vop_binOp <| And.intro @vop_unOp <| And.intro @vop_convert <| And.intro @vop_fieldAddr <| And.intro @vop_field <| And.intro @vop_indexAddr <| And.intro @vop_index <| And.intro @vop_extract <| And.intro @vop_build <| And.intro @vop_makeFunc <| And.intro @vop_slice <| And.intro @vop_slice3 <| And.intro @evo_none <| And.intro @evo_some <| And.intro @vop_lenT <| And.intro @vop_max <| And.intro @vop_min <| And.intro @vop_sdata <| And.intro @vop_load <| And.intro @vop_store <| And.intro @vop_box <| And.intro @vop_allocT <| And.intro @vop_buildSlice <| And.intro @vop_makeSlice <| And.intro @ev_tmp <| And.intro @ev_int <| And.intro @ev_bool <| And.intro @ev_str <| And.intro @ev_nilsl <| And.intro @ev_nilptr <| And.intro @ev_nilmap <| And.intro @ev_niliface <| And.intro @ev_nilfunc <| And.intro @ev_func <| And.intro @look_cons <| And.intro @evs_nil <| And.intro @evs_cons <| And.intro @vbin_add <| And.intro @vbin_sub <| And.intro @vbin_mul <| And.intro @vbin_eql <| And.intro @vbin_neq <| And.intro @vbin_lss <| And.intro @vbin_leq <| And.intro @vbin_gtr <| And.intro @vbin_geq <| And.intro @vun_neg <| And.intro @vun_not <| And.intro @mi_def <| And.intro @mb_def <| And.intro @pairs_cons <| And.intro @pairs_nil <| And.intro @lenT_str <| And.intro @lenT_sl <| And.intro @lenT_asl <| And.intro @lenT_nil <| And.intro @lenT_map <| And.intro @lenT_arr <| And.intro @wlen_some <| And.intro @wlen_none @vixT
set_option linter.defProp false in
def ws3 := And.intro @ixT_sl <| And.intro @ixT_asl <| And.intro @ixT_arr <| And.intro @ixS_ok <| And.intro @ixR_ok <| And.intro @ixA_ok <| And.intro @maddr_p <| And.intro @maddr_c <| And.intro @vinT <| And.intro @inT_ok <| And.intro @vldP <| And.intro @vldC <| And.intro @ldT_ok <| And.intro @vcell_f <| And.intro @vcell_t <| And.intro @agB_bool <| And.intro @agB_int <| And.intro @agB_str <| And.intro @agB_ptr <| And.intro @agB_sl <| And.intro @agB_map <| And.intro @agB_arr <| And.intro @agB_if <| And.intro @agB_fn <| And.intro @vstT <| And.intro @stT_v <| And.intro @stT_s <| And.intro @stT_p <| And.intro @stT_c <| And.intro @stT_sl <| And.intro @stT_asl <| And.intro @stT_map <| And.intro @stT_if <| And.intro @stT_fn <| And.intro @stT_agg <| And.intro @setMany_nil <| And.intro @setMany_cons <| And.intro @hp_set <| And.intro @hp_set_ne <| And.intro @hp_push <| And.intro @hp_push_ne <| And.intro @hp_kill_ne <| And.intro @next_set <| And.intro @next_push <| And.intro @next_kill <| And.intro @allocO_eq <| And.intro @alB_t <| And.intro @alB_f <| And.intro @bld_t <| And.intro @bld_0 <| And.intro @bld_1 <| And.intro @bld_3 <| And.intro @bld_int <| And.intro @bld_bool <| And.intro @bld_str <| And.intro @bld_sl <| And.intro @bld_s2 <| And.intro @bld_v2 <| And.intro @vslT <| And.intro @slT_s <| And.intro @slT_s1 <| And.intro @slT_s2 <| And.intro @slT_a <| And.intro @slT_a1 <| And.intro @slT_a2 <| And.intro @slA_0 <| And.intro @slA_ne <| And.intro @slA_eq <| And.intro @slT_l <| And.intro @slT_l1 <| And.intro @slT_l2 <| And.intro @slT_l0 <| And.intro @slS_all <| And.intro @slS_part <| And.intro @vcvT <| And.intro @cvT_int <| And.intro @cvT_str <| And.intro @cvT_sb <| And.intro @cvT_bs @cvT_pu
set_option linter.defProp false in
def ws4 := And.intro @cvT_up <| And.intro @zipPartsL <| And.intro @zipL_nil <| And.intro @zipL_cons <| And.intro @vfill_nil <| And.intro @vfill_cons <| And.intro @placeL_0 <| And.intro @placeL_s <| And.intro @placeR_eq <| And.intro @flT_ok <| And.intro @vbsT <| And.intro @bsT_sl <| And.intro @bsE_0 <| And.intro @bsE_ok <| And.intro @repL_1 <| And.intro @repL_2 <| And.intro @repL_3 <| And.intro @repL_4 <| And.intro @repL_5 <| And.intro @repL_6 <| And.intro @repL_7 <| And.intro @repL_8 <| And.intro @vbin_beq <| And.intro @vbin_bne <| And.intro @bT_ok <| And.intro @pT_ok <| And.intro @vptr_e <| And.intro @vptr_n <| And.intro @vbin_pnn <| And.intro @vbin_ppn <| And.intro @vbin_pnp <| And.intro @vbin_pcn <| And.intro @vbin_pnc <| And.intro @vbin_agg <| And.intro @vbin_seq <| And.intro @vbin_sne <| And.intro @vbin_slt <| And.intro @vbin_sle <| And.intro @vbin_sgt <| And.intro @vbin_sge <| And.intro @vbin_sadd <| And.intro @tn_add <| And.intro @tn_add1 <| And.intro @tn_add2 <| And.intro @tn_sub1 <| And.intro @cast_dec <| And.intro @wrapU8 <| And.intro @wrapU64 <| And.intro @vrem_ok <| And.intro @vquo_ok <| And.intro @vshr_ok <| And.intro @vand_ok <| And.intro @Option.map_none.{0,0} <| And.intro @Option.bind_none.{0,0} <| And.intro @Int.zero_sub <| And.intro @Bool.not_true <| And.intro @Bool.not_false <| And.intro @Bool.or_false <| And.intro @Bool.or_true <| And.intro @Bool.true_or <| And.intro @Bool.false_or <| And.intro @Bool.and_true <| And.intro @Bool.and_false <| And.intro @Bool.true_and <| And.intro @Bool.false_and <| And.intro @decide_true <| And.intro @decide_eq_true <| And.intro @decide_eq_false <| And.intro @Nat.zero_add <| And.intro @Nat.mul_one <| And.intro @Int.toNat_natCast <| And.intro @Nat.add_zero <| And.intro @Nat.sub_zero <| And.intro @List.set_cons_zero.{0} <| And.intro @List.set_cons_succ.{0} <| And.intro @List.take_succ_cons.{0} <| And.intro @List.take_zero.{0} <| And.intro @List.drop_succ_cons.{0} <| And.intro @List.drop_zero.{0} @List.getElem?_toArray.{0}
set_option linter.defProp false in
def ws5 := And.intro @List.getElem?_cons_zero.{0} <| And.intro @List.getElem?_cons_succ.{0} <| And.intro @Option.bind_some.{0,0} <| And.intro @Option.map_some.{0,0} <| And.intro @List.map_cons.{0,0} <| And.intro @List.map_nil.{0,0} <| And.intro @List.getElem?_map.{0,0} <| And.intro @List.getElem_map.{0,0} <| And.intro @if_true.{1} <| And.intro @if_false.{1} <| And.intro @cond_true.{1} <| And.intro @cond_false.{1} <| And.intro @List.toList_toArray.{0} <| And.intro @List.cons_append.{0} <| And.intro @List.nil_append.{0} <| And.intro @true_and <| And.intro @and_true <| And.intro @eq_self.{1} @Bool.false_eq_true
set_option linter.defProp false in
def ws := And.intro @ws0 <| And.intro @ws1 <| And.intro @ws2 <| And.intro @ws3 <| And.intro @ws4 @ws5
set_option linter.defProp false in
def ds := And.intro @next_set <| And.intro @next_push <| And.intro @next_kill <| And.intro @mcells_v <| And.intro @mcells_sl <| And.intro @mcells_str <| And.intro @mcells_ptr <| And.intro @mcells_agg <| And.intro @leaf_v <| And.intro @leaf_s <| And.intro @leaf_p <| And.intro @leaf_c <| And.intro @leaf_sl <| And.intro @leaf_asl <| And.intro @leaf_map <| And.intro @leaf_if <| And.intro @leaf_fn <| And.intro @List.length_cons.{0} <| And.intro @List.length_nil.{0} <| And.intro @List.all_cons.{0} <| And.intro @List.all_nil.{0} <| And.intro @Bool.and_true <| And.intro @Bool.true_and <| And.intro @Bool.and_self <| And.intro @List.length_set.{0} <| And.intro @List.length_append.{0} <| And.intro @List.length_map.{0,0} <| And.intro @and_true <| And.intro @true_and <| And.intro @eq_self.{1} <| And.intro @Option.some.injEq.{0} <| And.intro @VObj.cells.injEq <| And.intro @ne_eq.{1} @not_false_eq_true
end Go.Proofs.YtjbpnhmjnkolbaaDoor

/-
  THE VALUE MACHINE, 23: two steps of which either may come first, one of them a reading of bytes as a text.
-/
set_option linter.unusedVariables false
set_option linter.unusedSimpArgs false
namespace Go.Proofs.YtjbpnhmjnkolbaaDoor
open Go.RowKit

section
variable {G H : Gh} {n : Sz} {D : List Deferred} {e : Env} {a : Act} {P : Program} {tab : Tab} {O O' : VH} {w : World} {m m' : MV} {u v : Value} {ops : Array Oper} {Q : VQ} {md : Md}

theorem textA_M (ht : TabOk P tab) {d : Option Tmp} {src dst el : TypeId} {x : Operand} {ty : TypeId} {ps : String} {af : Array Edge} {g : Option (Nat × Bool)} {k o nn c : Nat} {cs : List MV} {l : List UInt8}
    (hx : ev e x = some (.asl k o nn c)) (hs : (tab src).map TyI.under = some (.slice el)) (hds : (tab dst).map TyI.under = some .string) (he : (tab el).map TyI.under = some (.int .u8)) (hk : O.hp k = some (.cells cs)) (hn : nn = l.length) (hcs : (cs.drop o).take l.length = l.map byM) :
    YieldsM P n D (.mk d (.convert src dst x) ty ps af g) e O fun m O' => m = .str l ∧ O' = O := by
  subst hn
  intro G a w hw hf
  obtain ⟨u, w', H, hr, h1, h2, h3, _⟩ := textA_ok (P := P) ht hw hs hds he hk hcs (hf.ev hx)
  exact ⟨_, _, u, w', H, ⟨rfl, rfl⟩, by simp only [execOp, Sem.run_bind, hr]; rfl, h1, h2, h3⟩
/-- Two steps of which either may come first; the first one's answer is the same in both orders. -/
theorem VL.forkM (ht : TabOk P tab) {L : List (Fl × Oper)} {oi oj : Oper} {mi mj mj' : MV} {O2 O2' : VH}
    (hgi : vguard ops oi e = some true) (hyi : YieldsM P n D oi e O fun m O' => m = mi ∧ O' = O) (hdi : dstB n oi.dst = true) (hgj : vguard ops oj (putM oi.dst mi e) = some true) (hvj : vop tab oj (putM oi.dst mi e) O = some (mj, O2)) (hdj : dstB n oj.dst = true)
    (hgj' : vguard ops oj e = some true) (hvj' : vop tab oj e O = some (mj', O2')) (hgi' : vguard ops oi (putM oj.dst mj' e) = some true) (hyi' : YieldsM P n D oi (putM oj.dst mj' e) O2' fun m O' => m = mi ∧ O' = O2')
    (h1 : VL P n D .any ops L (putM oj.dst mj (putM oi.dst mi e)) O2 Q) (h2 : VL P n D .any ops L (putM oi.dst mi (putM oj.dst mj' e)) O2' Q) : VL P n D .any ops ((.fk, oi) :: (.one, oj) :: L) e O Q := by
  intro fuel listed ix hf hp
  match ix, hf with
  | (i, g) :: (j, g') :: ix, hf =>
    obtain ⟨rfl, hoi, rfl, hoj, hf⟩ := hf
    obtain ⟨q1, q2⟩ := hp (by simp)
    match fuel, q2 with
    | fuel + 1, q2 =>
      simp only [planOk, Bool.and_eq_true, Bool.or_eq_true, beq_iff_eq] at q2
      obtain ⟨⟨⟨r1, r2⟩, r3⟩, q3⟩ := q2
      match fuel, q3 with
      | fuel + 1, q3 =>
        simp only [planOk, Bool.and_eq_true, beq_iff_eq] at q3
        have k1 := h1 fuel ((listed.setIfInBounds i true).setIfInBounds j true) ix hf (fun _ => ⟨q1, q3.2⟩)
        have hne : i ≠ j := by
          rintro rfl
          have hm : i ∈ Region.ready .any ops (listed.setIfInBounds i true) := by rw [r2]; simp
          simp only [Region.ready, List.mem_filter, Bool.and_eq_true] at hm
          have hlt : i < ops.size := by simpa using hm.1
          have h0 := hm.2.1
          rcases Nat.lt_or_ge i listed.size with hl | hl
          · simp [hl] at h0
          · have : listed.setIfInBounds i true = listed := Array.setIfInBounds_eq_of_size_le hl
            rw [Array.getD_eq_getD_getElem?, Array.getElem?_eq_none (by simpa using hl)] at h0
            simp at h0
        have k2 := h2 fuel ((listed.setIfInBounds j true).setIfInBounds i true) ix hf (fun _ => ⟨q1, by
          rw [Array.setIfInBounds_comm _ _ (Ne.symm hne)]; exact q3.2⟩)
        have key : ∀ rs, Region.ready .any ops listed = rs → (∀ x ∈ rs, x = i ∨ x = j) → rs ≠ [] → VAny P n D ops (fuel + 1 + 1) listed e O Q := fun rs hr hmem hne2 =>
          VAny.all hr hne2 fun x hx => by
            rcases hmem x hx with rfl | rfl
            · refine VOne.stepM hoi hgi hdi hyi ?_
              rintro m O' ⟨rfl, rfl⟩
              exact VAny.all r2 (by simp) fun y hy => by
                obtain rfl : y = j := by simpa using hy
                exact VOne.op ht hoj hgj hvj hdj k1
            · exact VOne.op ht hoj hgj' hvj' hdj (VAny.all r3 (by simp) fun y hy => by
                obtain rfl : y = i := by simpa using hy
                refine VOne.stepM hoi hgi' hdi hyi' ?_
                rintro m O' ⟨rfl, rfl⟩
                exact k2)
        rcases r1 with r1 | r1
        · exact key _ r1 (by simp) (by simp)
        · exact key _ r1 (by intro x hx; simp only [List.mem_cons, List.not_mem_nil, or_false] at hx; exact hx.symm) (by simp)
def PreK (K : MV → VH → Prop) : Option (MV × VH) → Prop
  | some (m, O) => K m O
  | none => False
theorem PreK_some {K : MV → VH → Prop} : PreK K (some (m, O)) = K m O := rfl
theorem VAny.pre1 (ht : TabOk P tab) (i : Nat) {fuel : Nat} {listed : Array Bool} {l : List Oper} {o : Oper} (ho : l[i]? = some o) (hs : Region.noSelect ⟨l⟩ = true) (hf : Region.free .any ⟨l⟩ listed i = true) (hr : (Region.ready .any ⟨l⟩ listed).contains i = true)
    (hg : vguard ⟨l⟩ o e = some true) (hd : dstB n o.dst = true) (h : PreK (fun m O' => VAny P n D ⟨l⟩ fuel (listed.setIfInBounds i true) (putM o.dst m e) O' Q) (vopF tab .sil o e O)) : VAny P n D ⟨l⟩ (fuel + 1) listed e O Q := by
  generalize hv : vopF tab .sil o e O = v at h
  cases v with
  | none => exact h.elim
  | some p =>
    obtain ⟨m, O'⟩ := p
    obtain ⟨h1, rfl⟩ := vopS_sil hv
    exact VAny.silent ht (by simpa using ho) hs hf hr hg h1 hd h
theorem VOne.st {i : Nat} {l : List Oper} {o : Oper} {M : MV → VH → Prop} {K : Env → VH → Prop} (ho : l[i]? = some o) (hg : vguard ⟨l⟩ o e = some true) (hd : dstB n o.dst = true) (hy : YieldsM P n D o e O M) (h : ∀ m O', M m O' → K (putM o.dst m e) O') : VOne P n D ⟨l⟩ i e O Q K :=
  VOne.stepM (by simpa using ho) hg hd hy h
theorem VOne.o1 (ht : TabOk P tab) {i : Nat} {l : List Oper} {o : Oper} {K : Env → VH → Prop} (ho : l[i]? = some o) (hg : vguard ⟨l⟩ o e = some true) (hd : dstB n o.dst = true) (h : PreK (fun m O' => K (putM o.dst m e) O') (vop tab o e O)) : VOne P n D ⟨l⟩ i e O Q K := by
  generalize hv : vop tab o e O = v at h
  cases v with
  | none => exact h.elim
  | some p => exact VOne.op ht (by simpa using ho) hg hv hd h
theorem VAny.plan (ht : TabOk P tab) (ix : List (Nat × Fl)) {fuel : Nat} {listed : Array Bool} {l : List Oper} {L : List (Fl × Oper)} (hs : Region.noSelect ⟨l⟩ = true) (hp : planOk .any ⟨l⟩ fuel listed ix = true) (hL : pickL l ix = some L)
    (h : WL P tab n D .any ⟨l⟩ Q L e O) : VAny P n D ⟨l⟩ fuel listed e O Q := (WL.sound ht h) fuel listed ix (fits_pick hL) (fun _ => ⟨hs, hp⟩)
end
end Go.Proofs.YtjbpnhmjnkolbaaDoor
