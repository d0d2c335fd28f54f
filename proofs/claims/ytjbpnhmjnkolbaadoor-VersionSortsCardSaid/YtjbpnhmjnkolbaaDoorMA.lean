/-
  Texts V1 V2 V3 V4, one behind the other.
-/
import Derived.Below
import Derived.LoopN
import Derived.OrdersHeld
import Derived.Deep.Draws
import Derived.WalkKit
import Derived.WalkSpells
import Derived.KernelRfl
import Derived.Lib.Builder
/-
  THE VALUE MACHINE, 1: Go's memory seen as values. A slice that is never written through reads as the row of its cells; what is written lies in numbered blocks. 'VR' says how such a value stands in the model's memory, 'WR' how a whole world does.
-/
set_option linter.unusedVariables false
set_option linter.unusedSimpArgs false
namespace Go.Proofs.YtjbpnhmjnkolbaaDoor
open Go.RowKit

/-- What may be appended to a slice: it is nil; there is no room behind it; the room behind it is its own, by a token; nothing is known. -/
inductive Tok where
  | nil | full | own (t k : Nat) | unk
  deriving DecidableEq

/-- A value of the machine. v: a plain one (no address in it) · str: a string's bytes · ptr: a cell of a block that may be written · cptr: a cell that nobody writes any more, with its fellows · sl: a slice that nobody writes through: its length, its cells · asl: a slice of a block that may be written. -/
inductive MV where
  | v (x : Value)
  | str (l : List UInt8)
  | ptr (b off : Nat)
  | cptr (cells : List MV) (off : Nat)
  | sl (n : Nat) (cells : List MV) (t : Tok)
  | asl (b off len cap : Nat)
  | map (b : Nat)
  | func (fn : Fn) (first captured : List MV)
  | iface (t : TypeId) (x : MV)
  | agg (cells : List MV)
  | tuple (vs : List MV)

inductive VObj where
  | cells (cs : List MV)
  | map (es : List (MV × MV × Nat)) (clock : Nat)
  | tok
  | shape (k : Nat) (t : TypeId) (n : Nat)
  | obj (x : Obj)

structure VH where
  next : Nat
  hp : Nat → Option VObj

def upd {α : Type} (f : Nat → Option α) (k : Nat) (x : Option α) : Nat → Option α := fun j => bif Nat.beq j k then x else f j
theorem upd_same {α : Type} (f : Nat → Option α) (k : Nat) (x : Option α) : upd f k x k = x := by simp [upd]
theorem upd_other {α : Type} (f : Nat → Option α) {k j : Nat} (x : Option α) (h : j ≠ k) : upd f k x j = f j := by
  have : j.beq k = false := by rw [← Bool.not_eq_true]; intro e; exact h (Nat.eq_of_beq_eq_true e)
  simp [upd, this]

def VH.set (O : VH) (k : Nat) (x : VObj) : VH := { O with hp := upd O.hp k (some x) }
def VH.push (O : VH) (x : VObj) : VH := ⟨O.next + 1, upd O.hp O.next (some x)⟩
def VH.kill (O : VH) (k : Nat) : VH := { O with hp := upd O.hp k none }
def VH.bump (O : VH) (n : Nat) : VH := { O with next := n }

/-- A value without an address in it. -/
def plain : Value → Bool
  | .bool _ | .int _ _ | .float _ _ | .complex _ _ _ | .pointer none | .map none | .chan none | .nilFunc | .nilIface => true
  | _ => false

/-- What holds beside the world: the world at the start and its size; where each block lies; the cells that nobody writes any more; of each token its block, where the room begins, the size of an element, how many have room. -/
structure Gh where
  w0 : World
  phi : Nat → Option Nat
  com : Nat → Nat → Option Value
  tok : Nat → Option (Nat × Nat × Nat × Nat)

abbrev Gh.B (G : Gh) : Nat := G.w0.heap.size
structure Gh.Le (G H : Gh) : Prop where
  w0 : H.w0 = G.w0
  phi : ∀ {k b}, G.phi k = some b → H.phi k = some b
  com : ∀ {b o u}, G.com b o = some u → H.com b o = some u
  tok : ∀ {t x}, G.tok t = some x → H.tok t = some x
theorem Gh.Le.refl (G : Gh) : G.Le G := ⟨rfl, id, id, id⟩
theorem Gh.Le.trans {G H K : Gh} (h : G.Le H) (k : H.Le K) : G.Le K :=
  ⟨k.w0.trans h.w0, fun x => k.phi (h.phi x), fun x => k.com (h.com x), fun x => k.tok (h.tok x)⟩

def Tok.ok (G : Gh) : Tok → (b o n c sz : Nat) → Prop
  | .nil, _, _, _, _, _ => False
  | .full, _, _, n, c, _ => c = n
  | .own t k, b, o, n, c, sz => c = n ∨ ∃ r, G.tok t = some (b, o + sz, k, r) ∧ sz = n * k ∧ c = n + r
  | .unk, _, _, _, _, _ => True

/-- How a value of the machine stands in memory. -/
inductive VR (G : Gh) : MV → Value → Prop
  | v {x : Value} : plain x = true → VR G (.v x) x
  | str {l : List UInt8} : VR G (.str l) (.string ⟨⟨l⟩⟩)
  | ptr {k o b : Nat} : G.phi k = some b → VR G (.ptr k o) (.pointer (some ⟨b, o, none⟩))
  | cptr {cells : List MV} {us : List Value} {off b o : Nat} : us.length = cells.length → (∀ (i : Nat) (u : Value), us[i]? = some u → G.com b (o + i) = some u) →
      (∀ (i : Nat) (c : MV) (u : Value), cells[i]? = some c → us[i]? = some u → VR G c u) → VR G (.cptr cells off) (.pointer (some ⟨b, o + off, none⟩))
  | slnil : VR G (.sl 0 [] .nil) (.slice none 0 0)
  | sl0 {a : Addr} {c : Nat} : c ≤ maxLen → VR G (.sl 0 [] .unk) (.slice (some a) 0 c)
  | sl0n : VR G (.sl 0 [] .unk) (.slice none 0 0)
  | sl {cells : List MV} {us : List Value} {n c b o : Nat} {t : Tok} : us.length = cells.length → (∀ (i : Nat) (u : Value), us[i]? = some u → G.com b (o + i) = some u) →
      (∀ (i : Nat) (c : MV) (u : Value), cells[i]? = some c → us[i]? = some u → VR G c u) → n ≤ c → c ≤ maxLen → t.ok G b o n c cells.length → VR G (.sl n cells t) (.slice (some ⟨b, o, none⟩) n c)
  | asl {k o n c b : Nat} : G.phi k = some b → n ≤ c → c ≤ maxLen → VR G (.asl k o n c) (.slice (some ⟨b, o, none⟩) n c)
  | map {k b : Nat} : G.phi k = some b → VR G (.map k) (.map (some b))
  | func {fn : Fn} {fs cs : List MV} {us vs : List Value} : us.length = fs.length → (∀ (i : Nat) (c : MV) (u : Value), fs[i]? = some c → us[i]? = some u → VR G c u) →
      vs.length = cs.length → (∀ (i : Nat) (c : MV) (u : Value), cs[i]? = some c → vs[i]? = some u → VR G c u) → VR G (.func fn fs cs) (.func fn us.toArray vs.toArray)
  | iface {t : TypeId} {x : MV} {u : Value} : VR G x u → VR G (.iface t x) (.iface t u)
  | agg {cs : List MV} {us : List Value} : us.length = cs.length → (∀ (i : Nat) (c : MV) (u : Value), cs[i]? = some c → us[i]? = some u → VR G c u) → VR G (.agg cs) (.agg us.toArray)
  | tuple {cs : List MV} {us : List Value} : us.length = cs.length → (∀ (i : Nat) (c : MV) (u : Value), cs[i]? = some c → us[i]? = some u → VR G c u) → VR G (.tuple cs) (.tuple us.toArray)

/-- A row of them. -/
def VRs (G : Gh) (cs : List MV) (us : List Value) : Prop := us.length = cs.length ∧ ∀ (i : Nat) (c : MV) (u : Value), cs[i]? = some c → us[i]? = some u → VR G c u

theorem VR.mono {G H : Gh} (h : G.Le H) {m : MV} {u : Value} (r : VR G m u) : VR H m u := by
  induction r with
  | v h1 => exact .v h1
  | str => exact .str
  | ptr h1 => exact .ptr (h.phi h1)
  | cptr h1 h2 h3 ih => exact .cptr h1 (fun i u hu => h.com (h2 i u hu)) (fun i c u h4 h5 => ih i c u h4 h5)
  | slnil => exact .slnil
  | sl0 h1 => exact .sl0 h1
  | sl0n => exact .sl0n
  | sl h1 h2 h3 h4 h5 h6 ih =>
    refine .sl h1 (fun i u hu => h.com (h2 i u hu)) (fun i c u h7 h8 => ih i c u h7 h8) h4 h5 ?_
    rename_i t
    cases t with
    | nil => exact h6
    | full => exact h6
    | own t k =>
      rcases h6 with h6 | ⟨r, h7, h8⟩
      · exact .inl h6
      · exact .inr ⟨r, h.tok h7, h8⟩
    | unk => trivial
  | asl h1 h2 h3 => exact .asl (h.phi h1) h2 h3
  | map h1 => exact .map (h.phi h1)
  | func h1 h2 h3 h4 ih1 ih2 => exact .func h1 (fun i c u a b => ih1 i c u a b) h3 (fun i c u a b => ih2 i c u a b)
  | iface h1 ih => exact .iface ih
  | agg h1 h2 ih => exact .agg h1 fun i c u a b => ih i c u a b
  | tuple h1 h2 ih => exact .tuple h1 fun i c u a b => ih i c u a b

theorem VRs.mono {G H : Gh} (h : G.Le H) {cs : List MV} {us : List Value} (r : VRs G cs us) : VRs H cs us := ⟨r.1, fun i c u a b => (r.2 i c u a b).mono h⟩
theorem VRs.nil {G : Gh} : VRs G [] [] := ⟨rfl, fun i c u h => by simp at h⟩
theorem VRs.cons {G : Gh} {c : MV} {u : Value} {cs : List MV} {us : List Value} (h : VR G c u) (k : VRs G cs us) : VRs G (c :: cs) (u :: us) :=
  ⟨by simp [k.1], fun i c' u' a b => by
    cases i with
    | zero => simp only [List.getElem?_cons_zero, Option.some.injEq] at a b; subst a; subst b; exact h
    | succ i => simp only [List.getElem?_cons_succ] at a b; exact k.2 i c' u' a b⟩
theorem VRs.head {G : Gh} {c : MV} {u : Value} {cs : List MV} {us : List Value} (h : VRs G (c :: cs) (u :: us)) : VR G c u := h.2 0 c u rfl rfl
theorem VRs.tail {G : Gh} {c : MV} {u : Value} {cs : List MV} {us : List Value} (h : VRs G (c :: cs) (u :: us)) : VRs G cs us := ⟨by have := h.1; simp at this; exact this, fun i c u a b => h.2 (i + 1) c u (by simpa using a) (by simpa using b)⟩
theorem VRs.inv_cons {G : Gh} {c : MV} {cs : List MV} {us : List Value} (h : VRs G (c :: cs) us) : ∃ u us', us = u :: us' ∧ VR G c u ∧ VRs G cs us' := by
  cases us with
  | nil => have := h.1; simp at this
  | cons u us => exact ⟨u, us, rfl, h.head, h.tail⟩
theorem VRs.inv_nil {G : Gh} {us : List Value} (h : VRs G [] us) : us = [] := List.eq_nil_of_length_eq_zero h.1
theorem VRs.append {G : Gh} {cs ds : List MV} {us ts : List Value} (h : VRs G cs us) (k : VRs G ds ts) : VRs G (cs ++ ds) (us ++ ts) :=
  ⟨by simp [h.1, k.1], fun i c u a b => by
    rw [List.getElem?_append] at a b
    rw [h.1] at b
    split at a
    · rw [if_pos ‹_›] at b; exact h.2 i c u a b
    · rw [if_neg ‹_›] at b; exact k.2 _ c u a b⟩
theorem VRs.drop {G : Gh} {cs : List MV} {us : List Value} (h : VRs G cs us) (n : Nat) : VRs G (cs.drop n) (us.drop n) :=
  ⟨by simp [h.1], fun i c u a b => by rw [List.getElem?_drop] at a b; exact h.2 _ c u a b⟩
theorem VRs.take {G : Gh} {cs : List MV} {us : List Value} (h : VRs G cs us) (n : Nat) : VRs G (cs.take n) (us.take n) :=
  ⟨by simp [h.1], fun i c u a b => by
    rw [List.getElem?_take] at a b
    split at a
    · rw [if_pos ‹_›] at b; exact h.2 i c u a b
    · cases a⟩
theorem VRs.get {G : Gh} {cs : List MV} {us : List Value} (h : VRs G cs us) {i : Nat} {c : MV} (hc : cs[i]? = some c) : ∃ u, us[i]? = some u ∧ VR G c u := by
  have hl : i < us.length := by rw [h.1]; exact (List.getElem?_eq_some_iff.1 hc).1
  exact ⟨us[i], List.getElem?_eq_getElem hl, h.2 i c _ hc (List.getElem?_eq_getElem hl)⟩
theorem VRs.set {G : Gh} {cs : List MV} {us : List Value} (h : VRs G cs us) {i : Nat} {c : MV} {u : Value} (hc : VR G c u) : VRs G (cs.set i c) (us.set i u) :=
  ⟨by simp [h.1], fun j c' u' a b => by
    rw [List.getElem?_set] at a b
    rw [h.1] at b
    split at a
    · rw [if_pos ‹_›] at b
      split at a
      · rw [if_pos ‹_›] at b; injection a with a; injection b with b; subst a; subst b; exact hc
      · cases a
    · rw [if_neg ‹_›] at b; exact h.2 j c' u' a b⟩

/-- A block's type and what of it is frozen: none of its cells. -/
structure Fz (C : Array Value) where
  t : TypeId
  fr : Nat × Nat
  ok : fr.1 = fr.2 ∨ C.size ≤ fr.1
/-- How a world stands. -/
structure WR (G : Gh) (O : VH) (w : World) : Prop where
  base : Below G.B G.w0 w
  com : ∀ b o u, G.com b o = some u → w.cell? ⟨b, o, none⟩ = some u
  dom : ∀ k, O.next ≤ k → G.phi k = none ∧ G.tok k = none ∧ O.hp k = none
  plt : ∀ k b, G.phi k = some b → G.B ≤ b ∧ b < w.heap.size ∧ (O.hp k ≠ none → ∀ o, G.com b o = none)
  inj : ∀ j k b, O.hp j ≠ none → O.hp k ≠ none → G.phi j = some b → G.phi k = some b → j = k
  cells : ∀ k cs, O.hp k = some (.cells cs) → ∃ b, ∃ C : Array Value, ∃ T : Fz C, G.phi k = some b ∧ w.heap[b]? = some (.cells C T.t T.fr) ∧ VRs G cs (C.toList.take cs.length)
  map : ∀ k es ck, O.hp k = some (.map es ck) → ∃ b E, G.phi k = some b ∧ w.heap[b]? = some (.map E ck) ∧ E.toList.map (·.born) = es.map (·.2.2) ∧ VRs G (es.map (·.1)) (E.toList.map (·.key)) ∧ VRs G (es.map (·.2.1)) (E.toList.map (·.val))
  tok : ∀ t, O.hp t = some .tok → ∃ b f k r C T, G.tok t = some (b, f, k, r) ∧ G.B ≤ b ∧ w.heap[b]? = some (.cells C T (0, 0)) ∧ f + r * k ≤ C.size ∧ (∀ o, f ≤ o → G.com b o = none) ∧ ∀ j, G.phi j ≠ some b
  tinj : ∀ s t b x y, O.hp s = some .tok → O.hp t = some .tok → G.tok s = some (b, x) → G.tok t = some (b, y) → s = t
  shp : ∀ j k t n, O.hp j = some (.shape k t n) → ∃ b, G.phi k = some b ∧ w.shape? b = some (t, n)
  obj : ∀ k x, O.hp k = some (.obj x) → ∃ b, G.phi k = some b ∧ w.heap[b]? = some x

section
variable {G : Gh} {O : VH} {w : World}
theorem WR.comlt (h : WR G O w) {b o : Nat} {u : Value} (hc : G.com b o = some u) : b < w.heap.size := World.block_lt_of_cell? w _ (h.com b o u hc)
theorem WR.nextfree (h : WR G O w) : G.phi O.next = none ∧ G.tok O.next = none ∧ O.hp O.next = none := h.dom _ (Nat.le_refl _)
/-- What is known of blocks' types stays so. -/
theorem WR.shpOf {G' : Gh} {O' : VH} {w' : World} (h : WR G O w) (hl : ∀ {k b}, G.phi k = some b → G'.phi k = some b) (hO : ∀ j k t n, O'.hp j = some (.shape k t n) → O.hp j = some (.shape k t n)) (hw : ∀ k b s, G.phi k = some b → w.shape? b = some s → w'.shape? b = some s) :
    ∀ j k t n, O'.hp j = some (.shape k t n) → ∃ b, G'.phi k = some b ∧ w'.shape? b = some (t, n) := fun j k t n hj => by
  obtain ⟨b, h1, h2⟩ := h.shp j k t n (hO j k t n hj)
  exact ⟨b, hl h1, hw k b _ h1 h2⟩
theorem upd_shape {f : Nat → Option VObj} {q : Nat} {X : VObj} (hX : ∀ k t n, X ≠ .shape k t n) (j k t n : Nat) (h : upd f q (some X) j = some (.shape k t n)) : f j = some (.shape k t n) := by
  by_cases e : j = q
  · subst e; rw [upd_same] at h; injection h with h; exact absurd h (hX _ _ _)
  · rwa [upd_other _ _ e] at h
/-- What is kept as it stands. -/
theorem WR.objOf {G' : Gh} {O' : VH} {w' : World} (h : WR G O w) (hl : ∀ {k b}, G.phi k = some b → G'.phi k = some b) (hO : ∀ k x, O'.hp k = some (.obj x) → O.hp k = some (.obj x)) (hw : ∀ k x b, O.hp k = some (.obj x) → G.phi k = some b → w.heap[b]? = some x → w'.heap[b]? = some x) :
    ∀ k x, O'.hp k = some (.obj x) → ∃ b, G'.phi k = some b ∧ w'.heap[b]? = some x := fun k x hk => by
  obtain ⟨b, h1, h2⟩ := h.obj k x (hO k x hk)
  exact ⟨b, hl h1, hw k x b (hO k x hk) h1 h2⟩
theorem upd_obj {f : Nat → Option VObj} {q : Nat} {X : VObj} (hX : ∀ x, X ≠ .obj x) (j : Nat) (x : Obj) (h : upd f q (some X) j = some (.obj x)) : f j = some (.obj x) := by
  by_cases e : j = q
  · subst e; rw [upd_same] at h; injection h with h; exact absurd h (hX _)
  · rwa [upd_other _ _ e] at h
theorem shape_heap {w w' : World} {b : Nat} {s : TypeId × Nat} (hh : ∀ x, w.heap[b]? = some x → w'.heap[b]? = some x) (h : w.shape? b = some s) : w'.shape? b = some s := by
  unfold World.shape? at h ⊢
  generalize hx : w.heap[b]? = x at h
  cases x with
  | none => cases h
  | some x => rw [hh x hx]; exact h
/-- A draw. -/
theorem WR.drew (h : WR G O w) : WR G O w.drew := ⟨h.base.drew, h.com, h.dom, h.plt, h.inj, h.cells, h.map, h.tok, h.tinj, h.shp, h.obj⟩
theorem WR.drawn (h : WR G O w) (n : Nat) : WR G O { w with drawn := n } :=
  ⟨⟨h.base.os, h.base.tape, h.base.output, h.base.size, h.base.block⟩, h.com, h.dom, h.plt, h.inj, h.cells, h.map, h.tok, h.tinj, h.shp, h.obj⟩

theorem WR.bsz (h : WR G O w) : G.B ≤ w.heap.size := h.base.size
theorem Gh.Le.of_phi {k : Nat} (h : G.phi k = none) (b : Nat) : G.Le { G with phi := upd G.phi k (some b) } :=
  ⟨rfl, fun {j b'} hj => by
    show upd G.phi k (some b) j = some b'
    rw [upd_other _ _ (fun e => by subst e; rw [h] at hj; cases hj)]; exact hj, id, id⟩

theorem heap_alloc_eq (w : World) (o : Obj) (b : Nat) : (w.alloc o).heap[b]? = if b = w.heap.size then some o else w.heap[b]? := by
  show (w.heap.push o)[b]? = _
  rw [Array.getElem?_push]
theorem heap_alloc_keep (w : World) (o : Obj) {b : Nat} {x : Obj} (h : w.heap[b]? = some x) : (w.alloc o).heap[b]? = some x := by
  rw [heap_alloc_eq, if_neg (fun e => by subst e; rw [Array.getElem?_eq_none (Nat.le_refl _)] at h; cases h)]; exact h
theorem lt_of_heap {w : World} {b : Nat} {x : Obj} (h : w.heap[b]? = some x) : b < w.heap.size := (Array.getElem?_eq_some_iff.1 h).1
theorem cell_alloc_keep (w : World) (o : Obj) {a : Addr} {u : Value} (h : w.cell? a = some u) : (w.alloc o).cell? a = some u := by
  rw [World.cell?_alloc_lt w o a (World.block_lt_of_cell? w a h)]; exact h

/-- Whatever is added to the heap's end: all that was there stands as it did. -/
theorem WR.grow (h : WR G O w) (o : Obj) : WR G O (w.alloc o) where
  base := h.base.alloc h.bsz o
  com b p u hc := cell_alloc_keep w o (h.com b p u hc)
  dom := h.dom
  plt k b hk := by
    obtain ⟨h1, h2, h3⟩ := h.plt k b hk
    exact ⟨h1, by simp; omega, h3⟩
  inj := h.inj
  cells k cs hk := by
    obtain ⟨b, C, T, h1, h2, h3⟩ := h.cells k cs hk
    exact ⟨b, C, T, h1, heap_alloc_keep w o h2, h3⟩
  map k es ck hk := by
    obtain ⟨b, E, h1, h2, h3⟩ := h.map k es ck hk
    exact ⟨b, E, h1, heap_alloc_keep w o h2, h3⟩
  tok t ht := by
    obtain ⟨b, f, k, r, C, T, h1, h2, h3, h4⟩ := h.tok t ht
    exact ⟨b, f, k, r, C, T, h1, h2, heap_alloc_keep w o h3, h4⟩
  tinj := h.tinj
  shp := h.shpOf id (fun _ _ _ _ h => h) fun _ _ _ _ => shape_heap fun _ => heap_alloc_keep w o
  obj := h.objOf id (fun _ _ h => h) fun _ _ _ _ _ => heap_alloc_keep w o

theorem size_alloc (w : World) (o : Obj) : (w.alloc o).heap.size = w.heap.size + 1 := by simp

/-- A new block that may be written: cells. -/
theorem WR.pushF (h : WR G O w) {cs : List MV} {C : Array Value} (T : Fz C) (hc : VRs G cs (C.toList.take cs.length)) :
    G.Le { G with phi := upd G.phi O.next (some w.heap.size) } ∧ WR { G with phi := upd G.phi O.next (some w.heap.size) } (O.push (.cells cs)) (w.alloc (.cells C T.t T.fr)) := by
  have hle := Gh.Le.of_phi h.nextfree.1 w.heap.size
  have hg := h.grow (.cells C T.t T.fr)
  have hphi : ∀ k b, upd G.phi O.next (some w.heap.size) k = some b → (k = O.next ∧ b = w.heap.size) ∨ (k ≠ O.next ∧ G.phi k = some b) := fun k b hk => by
    by_cases e : k = O.next
    · subst e; rw [upd_same] at hk; injection hk with hk; exact .inl ⟨rfl, hk.symm⟩
    · rw [upd_other _ _ e] at hk; exact .inr ⟨e, hk⟩
  have hcomn : ∀ o, G.com w.heap.size o = none := fun o => by
    cases hh : G.com w.heap.size o with
    | none => rfl
    | some u => have := h.comlt hh; omega
  refine ⟨hle, hg.base, hg.com, fun k hk => ?_, fun k b hk => ?_, fun j k b lj lk hj hk => ?_, fun k ds hk => ?_, fun k es ck hk => ?_, fun t ht => ?_, fun s t b x y hs ht h1 h2 => ?_, h.shpOf hle.phi (upd_shape (by simp)) fun _ _ _ _ => shape_heap fun _ => heap_alloc_keep w _, h.objOf hle.phi (upd_obj (by simp)) fun _ _ _ _ _ => heap_alloc_keep w _⟩
  · have hk : O.next + 1 ≤ k := hk
    obtain ⟨h1, h2, h3⟩ := h.dom k (by omega)
    exact ⟨by show upd _ _ _ _ = _; rw [upd_other _ _ (by omega)]; exact h1, h2, by show upd _ _ _ _ = _; rw [upd_other _ _ (by omega)]; exact h3⟩
  · rcases hphi k b hk with ⟨_, rfl⟩ | ⟨hk1, hk⟩
    · exact ⟨h.bsz, by simp, fun _ => hcomn⟩
    · obtain ⟨p1, p2, p3⟩ := hg.plt k b hk
      exact ⟨p1, p2, fun hne => p3 (by have hne : upd O.hp O.next (some (.cells cs)) k ≠ none := hne; rwa [upd_other _ _ hk1] at hne)⟩
  · rcases hphi j b hj with ⟨rfl, rfl⟩ | ⟨hj1, hj⟩ <;> rcases hphi k _ hk with ⟨rfl, hb⟩ | ⟨hk1, hk⟩
    · rfl
    · have := (h.plt _ _ hk).2.1; omega
    · subst hb; have := (h.plt _ _ hj).2.1; omega
    · exact h.inj j k b (by have lj : upd O.hp O.next (some (.cells cs)) j ≠ none := lj; rwa [upd_other _ _ hj1] at lj) (by have lk : upd O.hp O.next (some (.cells cs)) k ≠ none := lk; rwa [upd_other _ _ hk1] at lk) hj hk
  · have hk : upd O.hp O.next (some (.cells cs)) k = some (.cells ds) := hk
    by_cases e : k = O.next
    · subst e
      rw [upd_same] at hk
      injection hk with hk; injection hk with hk; subst hk
      refine ⟨w.heap.size, C, T, upd_same _ _ _, by rw [heap_alloc_eq, if_pos rfl], ?_⟩
      exact hc.mono hle
    · rw [upd_other _ _ e] at hk
      obtain ⟨b, D, T', h1, h2, h3⟩ := hg.cells k ds hk
      exact ⟨b, D, T', hle.phi h1, h2, h3.mono hle⟩
  · have hk : upd O.hp O.next (some (.cells cs)) k = some (.map es ck) := hk
    by_cases e : k = O.next
    · subst e; rw [upd_same] at hk; cases hk
    · rw [upd_other _ _ e] at hk
      obtain ⟨b, E, h1, h2, h3, h4, h5⟩ := hg.map k es ck hk
      exact ⟨b, E, hle.phi h1, h2, h3, h4.mono hle, h5.mono hle⟩
  · have ht : upd O.hp O.next (some (.cells cs)) t = some .tok := ht
    by_cases e : t = O.next
    · subst e; rw [upd_same] at ht; cases ht
    · rw [upd_other _ _ e] at ht
      obtain ⟨b, f, k, r, D, T', h1, h2, h3, h4, h6, h7⟩ := hg.tok t ht
      obtain ⟨_, _, _, _, _, _, h1', _, h3', _⟩ := h.tok t ht
      refine ⟨b, f, k, r, D, T', h1, h2, h3, h4, h6, fun j hj => ?_⟩
      rcases hphi j b hj with ⟨_, rfl⟩ | ⟨_, hj⟩
      · rw [h1] at h1'; injection h1' with e1; injection e1 with e1 _; subst e1
        have := lt_of_heap h3'; omega
      · exact h7 j hj
  · have hs : upd O.hp O.next (some (.cells cs)) s = some .tok := hs
    have ht : upd O.hp O.next (some (.cells cs)) t = some .tok := ht
    have es : s ≠ O.next := fun e => by subst e; rw [upd_same] at hs; cases hs
    have et : t ≠ O.next := fun e => by subst e; rw [upd_same] at ht; cases ht
    rw [upd_other _ _ es] at hs
    rw [upd_other _ _ et] at ht
    exact h.tinj s t b x y hs ht h1 h2

theorem WR.push (h : WR G O w) {cs : List MV} {C : Array Value} (T : TypeId) (hc : VRs G cs C.toList) :
    G.Le { G with phi := upd G.phi O.next (some w.heap.size) } ∧ WR { G with phi := upd G.phi O.next (some w.heap.size) } (O.push (.cells cs)) (w.alloc (.cells C T)) :=
  h.pushF ⟨T, (0, 0), .inl rfl⟩ (by rw [List.take_of_length_le (by rw [hc.1]; exact Nat.le_refl _)]; exact hc)

/-- Less is known of the heap: what is forgotten was there. -/
theorem WR.forget (h : WR G O w) {O' : VH} (hn : O.next ≤ O'.next) (hh : ∀ k, O'.hp k = none ∨ O'.hp k = O.hp k) : WR G O' w where
  base := h.base
  com := h.com
  dom k hk := by
    obtain ⟨h1, h2, h3⟩ := h.dom k (by omega)
    exact ⟨h1, h2, by rcases hh k with e | e <;> rw [e]; exact h3⟩
  plt k b hk := by
    obtain ⟨p1, p2, p3⟩ := h.plt k b hk
    exact ⟨p1, p2, fun hne => p3 (by rcases hh k with e | e; · exact absurd e hne
                                     · rwa [e] at hne)⟩
  inj j k b lj lk := h.inj j k b (fun e => (hh j).elim lj (fun e' => lj (e'.trans e))) (fun e => (hh k).elim lk (fun e' => lk (e'.trans e)))
  cells k cs hk := h.cells k cs (by rcases hh k with e | e <;> rw [e] at hk; · cases hk
                                    · exact hk)
  map k es ck hk := h.map k es ck (by rcases hh k with e | e <;> rw [e] at hk; · cases hk
                                      · exact hk)
  tok t ht := h.tok t (by rcases hh t with e | e <;> rw [e] at ht; · cases ht
                          · exact ht)
  tinj s t b x y hs ht h1 h2 := h.tinj s t b x y (by rcases hh s with e | e <;> rw [e] at hs; · cases hs
                                                     · exact hs) (by rcases hh t with e | e <;> rw [e] at ht; · cases ht
                                                                     · exact ht) h1 h2
  shp := h.shpOf id (fun j k t n hj => by rcases hh j with e | e <;> rw [e] at hj; · cases hj
                                          · exact hj) fun _ _ _ _ h => h
  obj := h.objOf id (fun j x hj => by rcases hh j with e | e <;> rw [e] at hj; · cases hj
                                      · exact hj) fun _ _ _ _ _ h => h
theorem WR.kill (h : WR G O w) (k : Nat) : WR G (O.kill k) w := h.forget (Nat.le_refl _) fun j => by
  show upd _ _ _ j = none ∨ upd _ _ _ j = _
  by_cases e : j = k
  · subst e; exact .inl (upd_same _ _ _)
  · exact .inr (upd_other _ _ e)

def comAdd (G : Gh) (b : Nat) (f : Nat → Option Value) : Gh := { G with com := fun b' o => if b' = b then f o else G.com b' o }
theorem comAdd_le {b : Nat} {f : Nat → Option Value} (h : ∀ o u, G.com b o = some u → f o = some u) : G.Le (comAdd G b f) :=
  ⟨rfl, id, fun {b' o u} hc => by
    show (if b' = b then f o else G.com b' o) = some u
    split
    · subst b'; exact h o u hc
    · exact hc, id⟩
theorem VRs.le {G H : Gh} (h : G.Le H) {cs : List MV} {us : List Value} (r : VRs G cs us) : VRs H cs us := r.mono h

/-- More cells that nobody writes any more: in a block in which no live block and no room behind a token lies. -/
theorem WR.commit (h : WR G O w) {b : Nat} {f : Nat → Option Value} (hold : ∀ o u, G.com b o = some u → f o = some u) (hcell : ∀ o u, f o = some u → w.cell? ⟨b, o, none⟩ = some u)
    (hphi : ∀ k, O.hp k ≠ none → G.phi k ≠ some b) (htok : ∀ t c x, O.hp t = some .tok → G.tok t = some (c, x) → c = b → ∀ o, x.1 ≤ o → f o = none) : G.Le (comAdd G b f) ∧ WR (comAdd G b f) O w := by
  have hle := comAdd_le (G := G) hold
  refine ⟨hle, h.base, fun b' o u hc => ?_, h.dom, fun k c hk => ?_, h.inj, fun k cs hk => ?_, fun k es ck hk => ?_, fun t ht => ?_, h.tinj, h.shpOf hle.phi (fun _ _ _ _ h => h) fun _ _ _ _ h => h, h.objOf hle.phi (fun _ _ h => h) fun _ _ _ _ _ h => h⟩
  · have hc2 : (if b' = b then f o else G.com b' o) = some u := hc
    split at hc2
    · subst b'; exact hcell o u hc2
    · exact h.com b' o u hc2
  · obtain ⟨h1, h2, h3⟩ := h.plt k c hk
    refine ⟨h1, h2, fun hne o => ?_⟩
    show (if c = b then f o else G.com c o) = none
    rw [if_neg (fun e => hphi k hne (by rw [← e]; exact hk))]; exact h3 hne o
  · obtain ⟨c, C, T, h1, h2, h3⟩ := h.cells k cs hk
    exact ⟨c, C, T, h1, h2, h3.mono hle⟩
  · obtain ⟨c, E, h1, h2, h3, h4, h5⟩ := h.map k es ck hk
    exact ⟨c, E, h1, h2, h3, h4.mono hle, h5.mono hle⟩
  · obtain ⟨c, g, k, r, C, T, h1, h2, h3, h4, h6, h7⟩ := h.tok t ht
    refine ⟨c, g, k, r, C, T, h1, h2, h3, h4, fun o ho => ?_, h7⟩
    show (if c = b then f o else G.com c o) = none
    split
    · exact htok t c _ ht h1 ‹_› o ho
    · exact h6 o ho

theorem cell_new (w : World) (C : Array Value) (T : TypeId) (fr : Nat × Nat) (o : Nat) : (w.alloc (.cells C T fr)).cell? ⟨w.heap.size, o, none⟩ = C[o]? := by
  have : (w.alloc (.cells C T fr)).heap[w.heap.size]? = some (.cells C T fr) := by rw [heap_alloc_eq, if_pos rfl]
  simp only [World.cell?, this, Option.isSome_none, Bool.false_eq_true, if_false]
theorem WR.phi_ne_size (h : WR G O w) (k : Nat) : G.phi k ≠ some w.heap.size := fun e => by have := (h.plt k _ e).2.1; omega
theorem WR.com_size (h : WR G O w) (o : Nat) : G.com w.heap.size o = none := by
  cases hh : G.com w.heap.size o with
  | none => rfl
  | some u => have := h.comlt hh; omega
theorem WR.tok_ne_size (h : WR G O w) {t c : Nat} {x : Nat × Nat × Nat} (ht : O.hp t = some .tok) (hc : G.tok t = some (c, x)) : c ≠ w.heap.size := fun e => by
  obtain ⟨b, _, _, _, _, _, h1, _, h3, _⟩ := h.tok t ht
  rw [hc] at h1; injection h1 with h1; injection h1 with h1 _
  have := lt_of_heap h3
  omega

/-- A new block that nobody writes any more. -/
theorem WR.lit (h : WR G O w) (C : Array Value) (T : TypeId) : G.Le (comAdd G w.heap.size fun o => C[o]?) ∧ WR (comAdd G w.heap.size fun o => C[o]?) O (w.alloc (.cells C T)) :=
  (h.grow (.cells C T)).commit (fun o u hc => by rw [h.com_size] at hc; cases hc) (fun o u hf => by rw [cell_new]; exact hf) (fun k _ => h.phi_ne_size k)
    fun t c x ht hc e => absurd e (h.tok_ne_size ht hc)

/-- A token's room. -/
theorem WR.addTok (h : WR G O w) {b f k r : Nat} {C : Array Value} {T : TypeId} (hB : G.B ≤ b) (hb : w.heap[b]? = some (.cells C T (0, 0))) (hf : f + r * k ≤ C.size)
    (hcom : ∀ o, f ≤ o → G.com b o = none) (hphi : ∀ j, G.phi j ≠ some b) (htok : ∀ t c x, O.hp t = some .tok → G.tok t = some (c, x) → c ≠ b) :
    G.Le { G with tok := upd G.tok O.next (some (b, f, k, r)) } ∧ WR { G with tok := upd G.tok O.next (some (b, f, k, r)) } (O.push .tok) w := by
  have hle : G.Le { G with tok := upd G.tok O.next (some (b, f, k, r)) } := ⟨rfl, id, id, fun {t x} ht => by
    show upd G.tok O.next _ t = some x
    rw [upd_other _ _ (fun e => by subst e; rw [h.nextfree.2.1] at ht; cases ht)]; exact ht⟩
  have hhp : ∀ j x, upd O.hp O.next (some VObj.tok) j = some x → (j = O.next ∧ x = .tok) ∨ (j ≠ O.next ∧ O.hp j = some x) := fun j x hj => by
    by_cases e : j = O.next
    · subst e; rw [upd_same] at hj; injection hj with hj; exact .inl ⟨rfl, hj.symm⟩
    · rw [upd_other _ _ e] at hj; exact .inr ⟨e, hj⟩
  refine ⟨hle, h.base, h.com, fun j hj => ?_, fun j c hj => ?_, fun j k' c lj lk hj hk => ?_, fun j cs hj => ?_, fun j es ck hj => ?_, fun t ht => ?_, fun s t c x y hs ht h1 h2 => ?_, h.shpOf hle.phi (upd_shape (by simp)) fun _ _ _ _ h => h, h.objOf hle.phi (upd_obj (by simp)) fun _ _ _ _ _ h => h⟩
  · have hj : O.next + 1 ≤ j := hj
    obtain ⟨h1, h2, h3⟩ := h.dom j (by omega)
    exact ⟨h1, by show upd _ _ _ _ = _; rw [upd_other _ _ (by omega)]; exact h2, by show upd _ _ _ _ = _; rw [upd_other _ _ (by omega)]; exact h3⟩
  · obtain ⟨p1, p2, p3⟩ := h.plt j c hj
    refine ⟨p1, p2, fun hne => p3 ?_⟩
    have hne : upd O.hp O.next (some VObj.tok) j ≠ none := hne
    rwa [upd_other _ _ (fun e => by subst e; have hj : G.phi O.next = some c := hj; rw [h.nextfree.1] at hj; cases hj)] at hne
  · have hl : ∀ m, G.phi m = some c → upd O.hp O.next (some VObj.tok) m ≠ none → O.hp m ≠ none := fun m hm hn => by
      rwa [upd_other _ _ (fun e => by subst e; rw [h.nextfree.1] at hm; cases hm)] at hn
    exact h.inj j k' c (hl j hj lj) (hl k' hk lk) hj hk
  · rcases hhp j _ hj with ⟨_, e⟩ | ⟨_, hj⟩
    · cases e
    · obtain ⟨c, D, T', h1, h2, h3⟩ := h.cells j cs hj
      exact ⟨c, D, T', h1, h2, h3.mono hle⟩
  · rcases hhp j _ hj with ⟨_, e⟩ | ⟨_, hj⟩
    · cases e
    · obtain ⟨c, E, h1, h2, h3, h4, h5⟩ := h.map j es ck hj
      exact ⟨c, E, h1, h2, h3, h4.mono hle, h5.mono hle⟩
  · rcases hhp t _ ht with ⟨rfl, _⟩ | ⟨e, ht⟩
    · exact ⟨b, f, k, r, C, T, upd_same _ _ _, hB, hb, hf, hcom, hphi⟩
    · obtain ⟨c, g, k', r', D, T', h1, h2⟩ := h.tok t ht
      exact ⟨c, g, k', r', D, T', by show upd _ _ _ _ = _; rw [upd_other _ _ e]; exact h1, h2⟩
  · have h1 : upd G.tok O.next (some (b, f, k, r)) s = some (c, x) := h1
    have h2 : upd G.tok O.next (some (b, f, k, r)) t = some (c, y) := h2
    rcases hhp s _ hs with ⟨rfl, _⟩ | ⟨es, hs⟩ <;> rcases hhp t _ ht with ⟨rfl, _⟩ | ⟨et, ht⟩
    · rfl
    · rw [upd_same] at h1
      rw [upd_other _ _ et] at h2
      injection h1 with h1; injection h1 with h1 _; subst h1
      exact absurd rfl (htok t _ _ ht h2)
    · rw [upd_same] at h2
      rw [upd_other _ _ es] at h1
      injection h2 with h2; injection h2 with h2 _; subst h2
      exact absurd rfl (htok s _ _ hs h1)
    · rw [upd_other _ _ es] at h1
      rw [upd_other _ _ et] at h2
      exact h.tinj s t c x y hs ht h1 h2

/-- A store into a block that may be written. -/
theorem WR.store (h : WR G O w) {k i b : Nat} {cs : List MV} {c : MV} {u : Value} (hk : O.hp k = some (.cells cs)) (hp : G.phi k = some b) (hi : i < cs.length) (hc : VR G c u) :
    WR G (O.set k (.cells (cs.set i c))) (w.setCell ⟨b, i, none⟩ u) := by
  obtain ⟨b', C, T, h1, h2, h3⟩ := h.cells k cs hk
  rw [hp] at h1; injection h1 with h1; subst h1
  have hne : ∀ j b', j ≠ k → O.hp j ≠ none → G.phi j = some b' → b' ≠ b := fun j b' hj lj hb' e => hj (h.inj j k b lj (by rw [hk]; simp) (e ▸ hb') hp)
  have hlv : ∀ j, upd O.hp k (some (.cells (cs.set i c))) j ≠ none → O.hp j ≠ none := fun j hn => by
    by_cases e : j = k
    · subst e; rw [hk]; simp
    · rwa [upd_other _ _ e] at hn
  have hsame : (w.setCell ⟨b, i, none⟩ u).heap[b]? = some (.cells (C.setIfInBounds i u) T.t T.fr) := by
    simp [World.setCell, Array.getElem?_modify, h2]
  have hother : ∀ j, j ≠ b → (w.setCell ⟨b, i, none⟩ u).heap[j]? = w.heap[j]? := fun j hj => Below.heap_setCell _ _ _ _ (by simpa using hj)
  refine ⟨h.base.setCell (h.plt k b hp).1 u, fun b' o u' hc' => ?_, fun j hj => ?_, fun j b' hj => ?_, fun j k' b' lj lk => h.inj j k' b' (hlv j lj) (hlv k' lk), fun j ds hj => ?_, fun j es ck hj => ?_, fun t ht => ?_, fun s t b' x y hs ht => ?_, h.shpOf id (upd_shape (by simp)) fun j b' s _ hs => ?_, h.objOf id (upd_obj (by simp)) fun j x b' hj hb hx => by rw [hother _ (hne j b' (fun e => by subst e; rw [hk] at hj; cases hj) (by rw [hj]; simp) hb)]; exact hx⟩
  · have hbb : b' ≠ b := fun e => by subst e; rw [(h.plt k b' hp).2.2 (by rw [hk]; simp) o] at hc'; cases hc'
    rw [World.cell?_setCell_other _ _ _ _ (fun e => hbb (by injection e with e; exact e.symm))]
    exact h.com b' o u' hc'
  · obtain ⟨d1, d2, d3⟩ := h.dom j hj
    refine ⟨d1, d2, ?_⟩
    show upd _ _ _ _ = _
    rw [upd_other _ _ (fun e => by subst e; rw [d3] at hk; cases hk)]; exact d3
  · obtain ⟨p1, p2, p3⟩ := h.plt j b' hj
    refine ⟨p1, by simp [World.setCell]; exact p2, fun hne => p3 ?_⟩
    have hne : upd O.hp k (some (.cells (cs.set i c))) j ≠ none := hne
    by_cases e : j = k
    · subst e; rw [hk]; simp
    · rwa [upd_other _ _ e] at hne
  · have hj : upd O.hp k (some (.cells (cs.set i c))) j = some (.cells ds) := hj
    by_cases e : j = k
    · subst e
      rw [upd_same] at hj
      injection hj with hj; injection hj with hj; subst hj
      refine ⟨b, _, ⟨T.t, T.fr, by simpa using T.ok⟩, hp, hsame, ?_⟩
      have := h3.set (i := i) hc
      rw [Array.toList_setIfInBounds, List.length_set, List.take_set]
      exact this
    · rw [upd_other _ _ e] at hj
      obtain ⟨b', D, T', d1, d2, d3⟩ := h.cells j ds hj
      exact ⟨b', D, T', d1, by rw [hother _ (hne j b' e (by rw [hj]; simp) d1)]; exact d2, d3⟩
  · have hj : upd O.hp k (some (.cells (cs.set i c))) j = some (.map es ck) := hj
    by_cases e : j = k
    · subst e; rw [upd_same] at hj; cases hj
    · rw [upd_other _ _ e] at hj
      obtain ⟨b', E, d1, d2, d3⟩ := h.map j es ck hj
      exact ⟨b', E, d1, by rw [hother _ (hne j b' e (by rw [hj]; simp) d1)]; exact d2, d3⟩
  · have ht : upd O.hp k (some (.cells (cs.set i c))) t = some .tok := ht
    have e : t ≠ k := fun e => by subst e; rw [upd_same] at ht; cases ht
    rw [upd_other _ _ e] at ht
    obtain ⟨b', f, k', r, D, T', d1, d2, d3, d4, d6, d7⟩ := h.tok t ht
    exact ⟨b', f, k', r, D, T', d1, d2, by rw [hother _ (fun e => d7 k (by rw [e]; exact hp))]; exact d3, d4, d6, d7⟩
  · have hs : upd O.hp k (some (.cells (cs.set i c))) s = some .tok := hs
    have ht : upd O.hp k (some (.cells (cs.set i c))) t = some .tok := ht
    have e : t ≠ k := fun e => by subst e; rw [upd_same] at ht; cases ht
    have e' : s ≠ k := fun e => by subst e; rw [upd_same] at hs; cases hs
    rw [upd_other _ _ e] at ht
    rw [upd_other _ _ e'] at hs
    exact h.tinj s t b' x y hs ht
  · by_cases e : b' = b
    · subst e
      simp only [World.shape?, h2] at hs
      simp only [World.shape?, hsame, Array.size_setIfInBounds]
      exact hs
    · exact shape_heap (fun x hx => by rw [hother _ e]; exact hx) hs

/-- A row that may be written turns into one that nobody writes any more. -/
theorem WR.freeze (h : WR G O w) {k o n c sz : Nat} {cs : List MV} {u : Value} (hk : O.hp k = some (.cells cs)) (hx : VR G (.asl k o n c) u) (hl : o + sz ≤ cs.length) :
    ∃ H, G.Le H ∧ WR H (O.kill k) w ∧ VR H (.sl n ((cs.drop o).take sz) (if c = n then .full else .unk)) u := by
  cases hx with
  | asl hp hn hm =>
    rename_i b
    obtain ⟨b', C, T, h1, h2, h3⟩ := h.cells k cs hk
    rw [hp] at h1; injection h1 with h1; subst h1
    have hplt := (h.plt k b hp).2.2 (by rw [hk]; simp)
    obtain ⟨hle, hW⟩ := (h.kill k).commit (b := b) (f := fun o => C[o]?) (fun o u hc => by rw [hplt o] at hc; cases hc)
      (fun o u hf => by simp only [World.cell?, h2, Option.isSome_none, Bool.false_eq_true, if_false]; exact hf)
      (fun j hj hjb => by
        have lj : O.hp j ≠ none := fun e => by
          by_cases e2 : j = k
          · subst e2; exact hj (upd_same _ _ _)
          · exact hj ((upd_other _ _ e2).trans e)
        have : j = k := h.inj j k b lj (by rw [hk]; simp) hjb hp
        subst this
        exact hj (upd_same _ _ _))
      (fun t c' x ht hc' e => by
        subst e
        have ht' : O.hp t = some .tok := by
          have ht : upd O.hp k none t = some .tok := ht
          by_cases e : t = k
          · subst e; rw [upd_same] at ht; cases ht
          · rwa [upd_other _ _ e] at ht
        obtain ⟨_, _, _, _, _, _, d1, _, _, _, _, d7⟩ := h.tok t ht'
        rw [hc'] at d1; injection d1 with d1; injection d1 with d1 _; subst d1
        exact absurd hp (d7 k))
    refine ⟨_, hle, hW, ?_⟩
    have h4 : VRs G ((cs.drop o).take sz) (((C.toList.take cs.length).drop o).take sz) := (h3.drop o).take sz
    have h5 : ((C.toList.take cs.length).drop o).take sz = (C.toList.drop o).take sz := by
      rw [List.drop_take, List.take_take, Nat.min_eq_left (by omega)]
    rw [h5] at h4
    refine .sl h4.1 (fun i u hu => ?_) (fun i c u a b => (h4.2 i c u a b).mono hle) hn hm ?_
    · show (if b = b then C[o + i]? else _) = some u
      rw [if_pos rfl]
      rw [List.getElem?_take] at hu
      split at hu
      · rw [List.getElem?_drop] at hu; simpa using hu
      · cases hu
    · split
      · rename_i e; exact e
      · trivial
end
end Go.Proofs.YtjbpnhmjnkolbaaDoor

/-
  THE VALUE MACHINE, 2: the operations. 'vop' reckons what an operation gives; 'vop_ok' says that the model's own run gives the like.
-/
set_option linter.unusedVariables false
set_option linter.unusedSimpArgs false
namespace Go.Proofs.YtjbpnhmjnkolbaaDoor
open Go.RowKit

/-- What is used of a type's row of the table. -/
structure TyI where
  under : TypeDesc
  size : Nat
  bytes : Nat
  zero : List MV

def isAggB : TypeDesc → Bool
  | .struct _ | .array _ _ => true
  | _ => false

structure TyOk (P : Program) (t : TypeId) (i : TyI) : Prop where
  under : P.underlying t = some i.under
  info : ∃ ti z, P.info? t = some ti ∧ ti.size = i.size ∧ ti.bytes = i.bytes ∧ ti.zero = some z ∧ z.cells.size = i.size ∧ ∀ G, VRs G i.zero z.cells.toList
  whole : ∀ ti z, P.info? t = some ti → ti.zero = some z → (isAggB i.under = true → ∃ cs, z = .agg cs) ∧ (isAggB i.under = false → z.cells = #[z])
abbrev Tab := TypeId → Option TyI
def TabOk (P : Program) (tab : Tab) : Prop := ∀ t i, tab t = some i → TyOk P t i

/-- A constant. -/
def ofConst : Value → Option MV
  | .string s => some (.str s.data.toList)
  | .slice none 0 0 => some (.sl 0 [] .nil)
  | x => if plain x then some (.v x) else none
theorem ofConst_ok {G : Gh} {x : Value} {m : MV} (h : ofConst x = some m) : VR G m x := by
  unfold ofConst at h
  split at h
  · injection h with h; subst h; rename_i s; obtain ⟨⟨l⟩⟩ := s; exact .str
  · injection h with h; subst h; exact .slnil
  · split at h
    · injection h with h; subst h; exact .v ‹_›
    · cases h

abbrev Env := List (Nat × MV)
def look : Env → Nat → Option MV
  | [], _ => none
  | (k, x) :: r, t => bif t == k then some x else look r t
def ev (e : Env) : Operand → Option MV
  | .tmp t => look e t
  | .const v => ofConst v
  | .global _ => none
  | .func f => some (.func (.func f) [] [])

/-- A frame's slots: how many there are; those below lo nobody turns. -/
structure Sz where
  n : Nat
  lo : Nat
/-- What is known of the slots that nobody turns. -/
def lowE (n : Sz) : Env → Env
  | [] => []
  | (t, m) :: e => bif decide (t < n.lo) then (t, m) :: lowE n e else lowE n e
theorem look_lowE {n : Sz} : ∀ {e : Env} {t : Nat}, look (lowE n e) t = if t < n.lo then look e t else none
  | [], t => by simp [lowE, look]
  | (k, m) :: e, t => by
    have ih := look_lowE (n := n) (e := e) (t := t)
    simp only [lowE]
    by_cases hk : k < n.lo
    · simp only [hk, decide_true, cond_true, look, ih]
      by_cases ht : t = k
      · subst ht; simp [hk]
      · have : (t == k) = false := by simpa using ht
        simp [this]
    · simp only [hk, decide_false, cond_false, look, ih]
      by_cases ht : t < n.lo
      · have : (t == k) = false := by simp; omega
        simp [this]
      · simp [ht]
/-- How a frame stands: n slots, the deferred calls D. -/
structure FR (G : Gh) (n : Sz) (D : List Deferred) (e : Env) (a : Act) : Prop where
  defers : a.defers = D
  size : a.tmps.size = n.n
  get : ∀ t x, look e t = some x → ∃ u, a.tmps[t]? = some u ∧ VR G x u
section
variable {G H : Gh} {n : Sz} {D : List Deferred} {e : Env} {a : Act} {P : Program} {tab : Tab} {O O' : VH} {w : World} {m : MV}
theorem FR.mono (h : FR G n D e a) (hl : G.Le H) : FR H n D e a := ⟨h.defers, h.size, fun t x hx => by obtain ⟨u, h1, h2⟩ := h.get t x hx; exact ⟨u, h1, h2.mono hl⟩⟩
theorem FR.ev (h : FR G n D e a) {x : Operand} (hx : ev e x = some m) : VR G m (a.eval x) := by
  cases x with
  | tmp t =>
    obtain ⟨u, h1, h2⟩ := h.get t m hx
    have : a.eval (.tmp t) = u := by
      show a.tmps.getD t undef = u
      rw [Array.getD_eq_getD_getElem?, h1]; rfl
    rw [this]; exact h2
  | const v => exact ofConst_ok hx
  | global g => cases hx
  | func f =>
    injection hx with hx; subst hx
    exact VR.func (us := []) (vs := []) rfl (fun i c u h => by simp at h) rfl (fun i c u h => by simp at h)
theorem FR.put (h : FR G n D e a) {d : Nat} {u : Value} (hd : d < n.n) (hu : VR G m u) : FR G n D ((d, m) :: e) (a.put (some d) u) := by
  refine ⟨h.defers, by simp [Act.put, h.size], fun t x hx => ?_⟩
  simp only [look] at hx
  by_cases e' : t = d
  · subst e'
    simp only [beq_self_eq_true, cond_true, Option.some.injEq] at hx
    subst hx
    exact ⟨u, by simp [Act.put, h.size, hd], hu⟩
  · have : (t == d) = false := by simpa using e'
    rw [this] at hx
    obtain ⟨u', h1, h2⟩ := h.get t x hx
    refine ⟨u', ?_, h2⟩
    simp only [Act.put]
    rw [Array.getElem?_setIfInBounds_ne (Ne.symm e')]; exact h1
/-- Less is known of the slots. -/
theorem FR.less (h : FR G n D e a) {e' : Env} (hl : ∀ t x, look e' t = some x → look e t = some x) : FR G n D e' a := ⟨h.defers, h.size, fun t x hx => h.get t x (hl t x hx)⟩

def evs (e : Env) (l : List Operand) : Option (List MV) := l.mapM (ev e)
theorem FR.evs (h : FR G n D e a) : ∀ {l : List Operand} {ms : List MV}, evs e l = some ms → VRs G ms (l.map a.eval)
  | [], ms, hx => by simp [Go.Proofs.YtjbpnhmjnkolbaaDoor.evs] at hx; subst hx; exact VRs.nil
  | x :: l, ms, hx => by
    simp only [Go.Proofs.YtjbpnhmjnkolbaaDoor.evs, List.mapM_cons, Option.bind_eq_bind, Option.bind_eq_some_iff] at hx
    obtain ⟨m, h1, ms', h2, h3⟩ := hx
    injection h3 with h3; subst h3
    exact VRs.cons (h.ev h1) (FR.evs h h2)

/-! ### The arithmetic -/
def vint (op : BinOp) (k : IntKind) (a b : Int) : Option MV :=
  match op with
  | .add => some (.v (.int k (k.wrap (a + b))))
  | .sub => some (.v (.int k (k.wrap (a - b))))
  | .mul => some (.v (.int k (k.wrap (a * b))))
  | .quo => if b = 0 then none else some (.v (.int k (k.wrap (a.tdiv b))))
  | .rem => if b = 0 then none else some (.v (.int k (a.tmod b)))
  | .eql => some (.v (.bool (a == b)))
  | .neq => some (.v (.bool (a != b)))
  | .lss => some (.v (.bool (decide (a < b))))
  | .leq => some (.v (.bool (decide (a ≤ b))))
  | .gtr => some (.v (.bool (decide (a > b))))
  | .geq => some (.v (.bool (decide (a ≥ b))))
  | .and => some (.v (.int k (k.wrap (BitVec.ofInt k.bits a &&& BitVec.ofInt k.bits b).toNat)))
  | .or => some (.v (.int k (k.wrap (BitVec.ofInt k.bits a ||| BitVec.ofInt k.bits b).toNat)))
  | .xor => some (.v (.int k (k.wrap (BitVec.ofInt k.bits a ^^^ BitVec.ofInt k.bits b).toNat)))
  | _ => none
def vshift (op : BinOp) (k : IntKind) (a b : Int) : Option MV :=
  if b < 0 then none else
  match op with
  | .shl => some (.v (.int k (k.wrap (a * 2 ^ (min b.toNat k.bits)))))
  | .shr => some (.v (.int k (a.fdiv (2 ^ (min b.toNat k.bits)))))
  | _ => none
def bytesLess := Op.bytesLess
def vstr (op : BinOp) (a b : List UInt8) : Option MV :=
  match op with
  | .add => if a.length + b.length ≤ 9223372036854775807 then some (.str (a ++ b)) else none
  | .eql => some (.v (.bool (a == b)))
  | .neq => some (.v (.bool (!(a == b))))
  | .lss => some (.v (.bool (Op.bytesLess a b)))
  | .leq => some (.v (.bool (Op.bytesLess a b || a == b)))
  | .gtr => some (.v (.bool (!(Op.bytesLess a b || a == b))))
  | .geq => some (.v (.bool (!(Op.bytesLess a b))))
  | _ => none
/-- Two pointers, held against one another: are they the same? -/
def vptr (tab : Tab) (op : BinOp) (t : TypeId) (same : Bool) : Option MV :=
  match ((tab t).map TyI.under : Option TypeDesc), op with
  | some (.pointer _), .eql => some (.v (.bool same))
  | some (.pointer _), .neq => some (.v (.bool (!same)))
  | _, _ => none
def vbin (tab : Tab) (op : BinOp) (t : TypeId) (x y : MV) : Option MV :=
  match x, y with
  | .v (.int k a), .v (.int k' b) =>
    match op with
    | .shl => vshift .shl k a b
    | .shr => vshift .shr k a b
    | op => if k = k' then vint op k a b else none
  | .v (.bool a), .v (.bool b) =>
    match ((tab t).map TyI.under : Option TypeDesc), op with
    | some .bool, .eql => some (.v (.bool (a == b)))
    | some .bool, .neq => some (.v (.bool (!(a == b))))
    | _, _ => none
  | .str a, .str b => vstr op a b
  | .v (.pointer none), .v (.pointer none) => vptr tab op t true
  | .ptr _ _, .v (.pointer none) => vptr tab op t false
  | .v (.pointer none), .ptr _ _ => vptr tab op t false
  | .cptr _ _, .v (.pointer none) => vptr tab op t false
  | .v (.pointer none), .cptr _ _ => vptr tab op t false
  | .ptr b o, .ptr b' o' => if b = b' ∧ o = o' then (match ((tab t).map TyI.under : Option TypeDesc) with
    | some (.pointer el) => match tab el with
      | some te => if te.size = 0 then none else vptr tab op t true
      | none => none
    | _ => none) else none
  | _, _ => none

theorem toList_mk (l : List UInt8) : (⟨⟨l⟩⟩ : ByteArray).toList = l := by
  rw [ByteArray.toList_eq]

theorem run_equal_bool {t : TypeId} (h : P.underlying t = some .bool) (a b : Bool) (w : World) : (Op.equal t (.bool a) (.bool b)).run P w = .ok (a == b) w := by
  show (Op.equalIn (9999 + 1) t (.bool a) (.bool b)).run P w = _
  generalize 9999 = d
  simp [Op.equalIn, run_underlying h]
/-- The cells that nobody writes any more hold what they held. -/
def SS (G : Gh) (w : World) : Prop := ∀ b o u, G.com b o = some u → w.cell? ⟨b, o, none⟩ = some u
theorem WR.ss (h : WR G O w) : SS G w := h.com
/-- What an operation gives in whatever world. -/
def GivesS (P : Program) (s : Sem Value) (G : Gh) (m : MV) : Prop := ∃ u, VR G m u ∧ ∀ w, SS G w → s.run P w = .ok u w
theorem GivesS.of {s : Sem Value} {u : Value} (hr : ∀ w, SS G w → s.run P w = .ok u w) (hu : VR G m u) : GivesS P s G m := ⟨u, hu, hr⟩
theorem under_of0 (ht : TabOk P tab) {t : TypeId} {d : TypeDesc} (h : (tab t).map TyI.under = some d) : P.underlying t = some d := by
  obtain ⟨i, hi, hu⟩ := Option.map_eq_some_iff.1 h
  rw [← hu]; exact (ht t i hi).under
theorem run_sz0 {t : TypeId} {i : TyI} (h : TyOk P t i) (w : World) : (sizeOf t).run P w = .ok i.size w := by
  obtain ⟨ti, z, h1, h2, _⟩ := h.info
  simp [sizeOf, typeInfo, h1, h2]
theorem vptr_ok (ht : TabOk P tab) {op : BinOp} {t : TypeId} {same : Bool} {p q : Option Addr} {xo yo : Operand} (h : vptr tab op t same = some m)
    (heq : ∀ el, P.underlying t = some (.pointer el) → ∀ (w : World) (d : Nat), (Op.equalIn (d + 1) t (.pointer p) (.pointer q)).run P w = .ok same w) : GivesS P (do eqGuard op t xo yo (.pointer p) (.pointer q); binOp op t (.pointer p) (.pointer q)) G m := by
  have hg : ∀ w, (eqGuard op t xo yo (.pointer p) (.pointer q)).run P w = .ok () w := fun w => by unfold eqGuard; split <;> simp
  unfold vptr at h
  split at h
  · rename_i el hu
    injection h with h; subst h
    refine GivesS.of (fun w _ => ?_) (.v rfl)
    rw [Sem.run_bind, hg, Result.andThen_ok]
    have := heq el (under_of0 ht hu) w 9999
    simp only [binOp, Op.equal, Op.maxDepth, Sem.run_bind, this, Result.andThen_ok, Sem.run_pure]
  · rename_i el hu
    injection h with h; subst h
    refine GivesS.of (fun w _ => ?_) (.v rfl)
    rw [Sem.run_bind, hg, Result.andThen_ok]
    have := heq el (under_of0 ht hu) w 9999
    simp only [binOp, Op.equal, Op.maxDepth, Sem.run_bind, this, Result.andThen_ok, Sem.run_pure]
  · cases h
theorem vbin_ok (ht : TabOk P tab) {op : BinOp} {t : TypeId} {x y : MV} {u v : Value} {xo yo : Operand} (h : vbin tab op t x y = some m) (hx : VR G x u) (hy : VR G y v) :
    GivesS P (do eqGuard op t xo yo u v; binOp op t u v) G m := by
  unfold vbin at h
  split at h
  · rename_i k a k' b
    cases hx; cases hy
    have hg : ∀ w, (eqGuard op t xo yo (.int k a) (.int k' b)).run P w = .ok () w := fun w => by unfold eqGuard; split <;> simp
    split at h
    · unfold vshift at h
      split at h
      · cases h
      · injection h with h; subst h
        exact GivesS.of (fun w _ => by rw [Sem.run_bind, hg, Result.andThen_ok]; simp [binOp, Op.shift, *]) (.v rfl)
    · unfold vshift at h
      split at h
      · cases h
      · injection h with h; subst h
        exact GivesS.of (fun w _ => by rw [Sem.run_bind, hg, Result.andThen_ok]; simp [binOp, Op.shift, *]) (.v rfl)
    · rename_i h1 h2
      split at h
      · subst k'
        cases op <;> simp only [vint] at h <;> first
          | (exact absurd rfl h1)
          | (exact absurd rfl h2)
          | (cases h; done)
          | (injection h with h; subst h; exact GivesS.of (fun w _ => by rw [Sem.run_bind, hg, Result.andThen_ok]; simp [binOp, Op.intArith, Op.intCmp, Op.intBits]) (.v rfl))
          | (split at h
             · cases h
             · injection h with h; subst h; exact GivesS.of (fun w _ => by rw [Sem.run_bind, hg, Result.andThen_ok]; simp [binOp, Op.intDiv, *]) (.v rfl))
      · cases h
  · rename_i a b
    cases hx; cases hy
    have hg : ∀ w, (eqGuard op t xo yo (.bool a) (.bool b)).run P w = .ok () w := fun w => by unfold eqGuard; split <;> simp
    split at h
    · rename_i hu
      obtain ⟨i, hi, hu⟩ := Option.map_eq_some_iff.1 hu
      have := (ht t i hi).under
      rw [hu] at this
      injection h with h; subst h
      exact GivesS.of (fun w _ => by rw [Sem.run_bind, hg, Result.andThen_ok]; simp only [binOp, Sem.run_bind, run_equal_bool this, Result.andThen_ok, Sem.run_pure]) (.v rfl)
    · rename_i hu
      obtain ⟨i, hi, hu⟩ := Option.map_eq_some_iff.1 hu
      have := (ht t i hi).under
      rw [hu] at this
      injection h with h; subst h
      exact GivesS.of (fun w _ => by rw [Sem.run_bind, hg, Result.andThen_ok]; simp only [binOp, Sem.run_bind, run_equal_bool this, Result.andThen_ok, Sem.run_pure]) (.v rfl)
    · cases h
  · rename_i a b
    cases hx
    rename_i e1; cases hy
    have hg : ∀ w, (eqGuard op t xo yo (.string ⟨⟨a⟩⟩) (.string ⟨⟨b⟩⟩)).run P w = .ok () w := fun w => by unfold eqGuard; split <;> simp
    cases op <;> simp only [vstr] at h <;> first
      | (cases h; done)
      | (injection h with h; subst h; exact GivesS.of (fun w _ => by rw [Sem.run_bind, hg, Result.andThen_ok]; simp [binOp, Op.stringOp, toList_mk]) (.v rfl))
      | (split at h
         · injection h with h; subst h
           refine GivesS.of (u := .string ⟨⟨a ++ b⟩⟩) (fun w _ => ?_) .str
           rw [Sem.run_bind, hg, Result.andThen_ok]
           have e : (⟨⟨a⟩⟩ : ByteArray) ++ ⟨⟨b⟩⟩ = ⟨⟨a ++ b⟩⟩ := ByteArray.ext (by simp)
           have hn : ¬ (((⟨⟨a⟩⟩ : ByteArray).size + (⟨⟨b⟩⟩ : ByteArray).size : Nat) : Int) > IntKind.i64.max := by
             show ¬ ((a.length + b.length : Nat) : Int) > _
             have : IntKind.i64.max = 9223372036854775807 := by decide
             omega
           simp only [binOp, Op.stringOp, if_neg hn, e, Sem.run_pure]
         · cases h)
  · rename_i hx' hy'
    cases hx; cases hy
    exact vptr_ok ht h (fun el hu w d => by simp [Op.equalIn, run_underlying hu])
  · cases hx; cases hy
    exact vptr_ok ht h (fun el hu w d => by simp [Op.equalIn, run_underlying hu])
  · cases hx; cases hy
    exact vptr_ok ht h (fun el hu w d => by simp [Op.equalIn, run_underlying hu])
  · cases hx; cases hy
    exact vptr_ok ht h (fun el hu w d => by simp [Op.equalIn, run_underlying hu])
  · cases hx; cases hy
    exact vptr_ok ht h (fun el hu w d => by simp [Op.equalIn, run_underlying hu])
  · rename_i b o b' o'
    split at h
    · rename_i hb
      obtain ⟨rfl, rfl⟩ := hb
      cases hx with
      | ptr h1 =>
        cases hy with
        | ptr h2 =>
          rw [h1] at h2
          injection h2 with h2
          subst h2
          split at h
          · rename_i el hu
            split at h
            · rename_i te he
              split at h
              · cases h
              · rename_i hz
                refine vptr_ok ht h (fun el' hu' w d => ?_)
                have hu2 := under_of0 ht hu
                rw [hu'] at hu2
                injection hu2 with hu2
                injection hu2 with hu2
                subst hu2
                simp [Op.equalIn, run_underlying hu', run_sz0 (ht _ te he), hz, run_sameAddr_same]
            · cases h
          · cases h
    · cases h
  · cases h

/-! ### What an operation gives -/
/-- Every block that is known by a number stands as it did. -/
def KeepB (G : Gh) (w w' : World) : Prop := ∀ k b, G.phi k = some b → w'.heap[b]? = w.heap[b]?
theorem KeepB.refl (G : Gh) (w : World) : KeepB G w w := fun _ _ _ => rfl
theorem KeepB.alloc (h : WR G O w) (o : Obj) : KeepB G w (w.alloc o) := fun k b hk => by
  have := (h.plt k b hk).2.1
  rw [heap_alloc_eq, if_neg (by omega)]
def Gives (P : Program) (s : Sem Value) (w : World) (G : Gh) (O' : VH) (m : MV) : Prop := ∃ u w' H, s.run P w = .ok u w' ∧ Gh.Le G H ∧ WR H O' w' ∧ VR H m u ∧ KeepB G w w'
def GivesU (P : Program) (s : Sem Unit) (w : World) (G : Gh) (O' : VH) : Prop := ∃ w' H, s.run P w = .ok () w' ∧ Gh.Le G H ∧ WR H O' w'
theorem GivesS.gives {s : Sem Value} (h : WR G O w) (hs : GivesS P s G m) : Gives P s w G O m := by
  obtain ⟨u, hu, hr⟩ := hs
  exact ⟨u, w, G, hr w h.ss, Gh.Le.refl G, h, hu, KeepB.refl _ _⟩
theorem Gives.of {s : Sem Value} {u : Value} (h : WR G O w) (hr : s.run P w = .ok u w) (hu : VR G m u) : Gives P s w G O m := ⟨u, w, G, hr, Gh.Le.refl G, h, hu, KeepB.refl _ _⟩

/-- A value, and the world as it was. -/
def Here (P : Program) (s : Sem Value) (w : World) (G : Gh) (m : MV) : Prop := ∃ u, s.run P w = .ok u w ∧ VR G m u
theorem Here.of {s : Sem Value} {u : Value} (hr : s.run P w = .ok u w) (hu : VR G m u) : Here P s w G m := ⟨u, hr, hu⟩
theorem run_ti {t : TypeId} {i : TyI} (h : TyOk P t i) (w : World) : ∃ ti, (typeInfo t).run P w = .ok ti w ∧ ti.size = i.size ∧ ti.bytes = i.bytes := by
  obtain ⟨ti, z, h1, h2, h3, _⟩ := h.info
  exact ⟨ti, by simp [typeInfo, h1], h2, h3⟩
theorem run_sz {t : TypeId} {i : TyI} (h : TyOk P t i) (w : World) : (sizeOf t).run P w = .ok i.size w := by
  obtain ⟨ti, h1, h2, _⟩ := run_ti h w
  rw [sizeOf, Sem.run_bind, h1, Result.andThen_ok, Sem.run_pure, h2]
theorem run_agg {t : TypeId} {i : TyI} (h : TyOk P t i) (w : World) : (isAgg t).run P w = .ok (isAggB i.under) w := by
  rw [isAgg, Sem.run_bind, run_underlying h.under, Result.andThen_ok]
  cases i.under <;> rfl
theorem run_zero {t : TypeId} {i : TyI} (h : TyOk P t i) (w : World) : ∃ z, (zeroValue t).run P w = .ok z w ∧ z.cells.size = i.size ∧ ∀ G, VRs G i.zero z.cells.toList := by
  obtain ⟨ti, z, h1, _, _, h4, h5, h6⟩ := h.info
  exact ⟨z, by simp [zeroValue, typeInfo, h1, h4], h5, h6⟩

def mcells : MV → List MV
  | .agg cs => cs
  | m => [m]
def leafB : MV → Bool
  | .agg _ | .tuple _ => false
  | _ => true
theorem mcells_ok {u : Value} (h : VR G m u) : VRs G (mcells m) u.cells.toList := by
  cases h with
  | agg h1 h2 => exact ⟨h1, h2⟩
  | v h1 =>
    have : u.cells = #[u] := by cases u <;> first | rfl | (simp [plain] at h1)
    rw [this]; exact VRs.cons (.v h1) VRs.nil
  | str => exact VRs.cons .str VRs.nil
  | ptr h1 => exact VRs.cons (.ptr h1) VRs.nil
  | cptr h1 h2 h3 => exact VRs.cons (.cptr h1 h2 h3) VRs.nil
  | slnil => exact VRs.cons .slnil VRs.nil
  | sl0 h1 => exact VRs.cons (.sl0 h1) VRs.nil
  | sl0n => exact VRs.cons .sl0n VRs.nil
  | sl h1 h2 h3 h4 h5 h6 => exact VRs.cons (.sl h1 h2 h3 h4 h5 h6) VRs.nil
  | asl h1 h2 h3 => exact VRs.cons (.asl h1 h2 h3) VRs.nil
  | map h1 => exact VRs.cons (.map h1) VRs.nil
  | func h1 h2 h3 h4 => exact VRs.cons (.func h1 h2 h3 h4) VRs.nil
  | iface h1 => exact VRs.cons (.iface h1) VRs.nil
  | tuple h1 h2 => exact VRs.cons (.tuple h1 h2) VRs.nil
theorem leaf_one {u : Value} (h : VR G m u) (hl : leafB m = true) : u.oneCell' = true := by
  cases h with
  | v h1 => cases u <;> first | rfl | (simp [plain] at h1)
  | agg h1 h2 => cases hl
  | tuple h1 h2 => cases hl
  | _ => rfl
theorem leafs_one {cs : List MV} {us : List Value} (h : VRs G cs us) (hl : cs.all leafB = true) : ∀ u ∈ us, u.oneCell' = true := by
  intro u hu
  obtain ⟨i, hi, rfl⟩ := List.mem_iff_getElem.1 hu
  have hc : i < cs.length := by rw [← h.1]; exact hi
  exact leaf_one (h.2 i cs[i] us[i] (List.getElem?_eq_getElem hc) (List.getElem?_eq_getElem hi)) (List.all_eq_true.1 hl _ (List.getElem_mem _))

/-- What lies from a cell on: a whole struct or array, or one cell. -/
def vcell (agg : Bool) (size : Nat) (cs : List MV) (off : Nat) : Option MV :=
  if agg then (if off + size ≤ cs.length then some (.agg ((cs.drop off).take size)) else none) else cs[off]?
/-- The cells behind an address. -/
def cellsOf (O : VH) : MV → Option (List MV × Nat)
  | .ptr k off => match O.hp k with
    | some (.cells cs) => some (cs, off)
    | _ => none
  | .cptr cs off => some (cs, off)
  | _ => none
theorem cellsOf_ok (h : WR G O w) {u : Value} {cs : List MV} {off : Nat} (hx : VR G m u) (hc : cellsOf O m = some (cs, off)) :
    ∃ b o us, u = .pointer (some ⟨b, o + off, none⟩) ∧ VRs G cs us ∧ ∀ i v, us[i]? = some v → w.cell? ⟨b, o + i, none⟩ = some v := by
  cases hx with
  | ptr h1 =>
    rename_i k off' b
    simp only [cellsOf] at hc
    split at hc
    · rename_i cs' hk
      injection hc with hc; injection hc with e1 e2; subst e1; subst e2
      obtain ⟨b', C, T, h2, h3, h4⟩ := h.cells k _ hk
      rw [h1] at h2; injection h2 with h2; subst h2
      refine ⟨b, 0, _, by simp, h4, fun i v hv => ?_⟩
      rw [List.getElem?_take] at hv
      split at hv
      · simp only [Nat.zero_add, World.cell?, h3, Option.isSome_none, Bool.false_eq_true, if_false]
        simpa using hv
      · cases hv
    · cases hc
  | cptr h1 h2 h3 =>
    simp only [cellsOf, Option.some.injEq, Prod.mk.injEq] at hc
    obtain ⟨rfl, rfl⟩ := hc
    exact ⟨_, _, _, rfl, ⟨h1, h3⟩, fun i v hv => h.com _ _ _ (h2 i v hv)⟩
  | _ => cases hc

def vload (tab : Tab) (O : VH) (t : TypeId) (m : MV) : Option MV :=
  match tab t, cellsOf O m with
  | some i, some (cs, off) => vcell (isAggB i.under) i.size cs off
  | _, _ => none
/-- The world x holds what w held, in all that is known. -/
def Sx (G : Gh) (w x : World) : Prop := SS G x ∧ KeepB G w x
theorem WR.sx (h : WR G O w) : Sx G w w := ⟨h.ss, KeepB.refl _ _⟩
theorem cellsOf_held (h : WR G O w) {u : Value} {cs : List MV} {off : Nat} (hx : VR G m u) (hc : cellsOf O m = some (cs, off)) :
    ∃ b o us, u = .pointer (some ⟨b, o + off, none⟩) ∧ VRs G cs us ∧ ∀ x, Sx G w x → ∀ i v, us[i]? = some v → x.cell? ⟨b, o + i, none⟩ = some v := by
  cases hx with
  | ptr h1 =>
    rename_i k off' b
    simp only [cellsOf] at hc
    split at hc
    · rename_i cs' hk
      injection hc with hc; injection hc with e1 e2; subst e1; subst e2
      obtain ⟨b', C, T, h2, h3, h4⟩ := h.cells k _ hk
      rw [h1] at h2; injection h2 with h2; subst h2
      refine ⟨b, 0, _, by simp, h4, fun x hs i v hv => ?_⟩
      have h3' := (hs.2 k b h1).trans h3
      rw [List.getElem?_take] at hv
      split at hv
      · simp only [Nat.zero_add, World.cell?, h3', Option.isSome_none, Bool.false_eq_true, if_false]
        simpa using hv
      · cases hv
    · cases hc
  | cptr h1 h2 h3 =>
    simp only [cellsOf, Option.some.injEq, Prod.mk.injEq] at hc
    obtain ⟨rfl, rfl⟩ := hc
    exact ⟨_, _, _, rfl, ⟨h1, h3⟩, fun x hs i v hv => hs.1 _ _ _ (h2 i v hv)⟩
  | _ => cases hc
theorem vload_held (ht : TabOk P tab) (h : WR G O w) {t : TypeId} {x m : MV} {u : Value} (hv : vload tab O t x = some m) (hx : VR G x u) : ∃ r, VR G m r ∧ ∀ y, Sx G w y → (Instr.loadAt t u).run P y = .ok r y := by
  unfold vload at hv
  split at hv
  · rename_i i cs off hi hc
    have hty := ht t i hi
    obtain ⟨b, o, us, rfl, hvs, hcell⟩ := cellsOf_held h hx hc
    simp only [Instr.loadAt, Instr.sureAddr, loadVar]
    unfold vcell at hv
    split at hv
    · rename_i hagg
      split at hv
      · rename_i hle
        injection hv with hv; subst hv
        have hvs' := (hvs.drop off).take i.size
        have hlen : ((us.drop off).take i.size).length = i.size := by simp [hvs.1]; omega
        refine ⟨_, .agg hvs'.1 hvs'.2, fun y hy => ?_⟩
        have hcells : ∀ j v, ((us.drop off).take i.size)[j]? = some v → y.cell? ((⟨b, o + off, none⟩ : Addr).add j) = some v := by
          intro j v hj
          rw [Addr.add_lit, Nat.add_assoc]
          rw [List.getElem?_take] at hj
          split at hj
          · rw [List.getElem?_drop] at hj; exact hcell y hy _ v hj
          · cases hj
        have hload := run_loadCells_list (P := P) y ⟨b, o + off, none⟩ _ hcells
        rw [hlen] at hload
        simp [run_agg hty, hagg, run_sz hty, hload]
      · cases hv
    · rename_i hagg
      obtain ⟨v, hv1, hv2⟩ := hvs.get hv
      exact ⟨v, hv2, fun y hy => by simp [run_agg hty, hagg, hcell y hy _ v hv1]⟩
  · cases hv
theorem vload_run (ht : TabOk P tab) (h : WR G O w) {t : TypeId} {x m : MV} {u : Value} (hv : vload tab O t x = some m) (hx : VR G x u) : Here P (Instr.loadAt t u) w G m := by
  obtain ⟨r, h1, h2⟩ := vload_held (P := P) ht h hv hx
  exact ⟨r, h2 w h.sx, h1⟩
theorem vload_ok (ht : TabOk P tab) (h : WR G O w) {t : TypeId} {x m : MV} {u : Value} (hv : vload tab O t x = some m) (hx : VR G x u) : Gives P (Instr.loadAt t u) w G O m := by
  obtain ⟨r, h1, h2⟩ := vload_run (P := P) ht h hv hx
  exact Gives.of h h1 h2

theorem vloadc_ok (ht : TabOk P tab) {t : TypeId} {cs : List MV} {off : Nat} {m : MV} {u : Value} (hv : vload tab O t (.cptr cs off) = some m) (hx : VR G (.cptr cs off) u) : GivesS P (Instr.loadAt t u) G m := by
  unfold vload at hv
  split at hv
  · rename_i i cs' off' hi hc
    simp only [cellsOf, Option.some.injEq, Prod.mk.injEq] at hc
    obtain ⟨rfl, rfl⟩ := hc
    have hty := ht t i hi
    cases hx with
    | cptr h1 h2 h3 =>
      rename_i us b o
      have hvs : VRs G cs us := ⟨h1, h3⟩
      simp only [Instr.loadAt, Instr.sureAddr, loadVar]
      unfold vcell at hv
      split at hv
      · rename_i hagg
        split at hv
        · rename_i hle
          injection hv with hv; subst hv
          have hvs' := (hvs.drop off).take i.size
          have hlen : ((us.drop off).take i.size).length = i.size := by simp [hvs.1]; omega
          have hcells : ∀ w, SS G w → ∀ j v, ((us.drop off).take i.size)[j]? = some v → w.cell? ((⟨b, o + off, none⟩ : Addr).add j) = some v := by
            intro w hw j v hj
            rw [Addr.add_lit, Nat.add_assoc]
            rw [List.getElem?_take] at hj
            split at hj
            · rw [List.getElem?_drop] at hj; exact hw _ _ _ (h2 _ v hj)
            · cases hj
          have hload : ∀ w, SS G w → (loadCells ⟨b, o + off, none⟩ i.size).run P w = .ok ((us.drop off).take i.size).toArray w := fun w hw => by
            have := run_loadCells_list (P := P) w ⟨b, o + off, none⟩ _ (hcells w hw)
            rwa [hlen] at this
          exact GivesS.of (fun w hw => by simp [run_agg hty, hagg, run_sz hty, hload w hw]) (.agg hvs'.1 hvs'.2)
        · cases hv
      · rename_i hagg
        obtain ⟨v, hv1, hv2⟩ := hvs.get hv
        exact GivesS.of (fun w hw => by simp [run_agg hty, hagg, hw _ _ _ (h2 _ v hv1)]) hv2
  · cases hv

def setMany (cs : List MV) (o : Nat) : List MV → List MV
  | [] => cs
  | x :: xs => setMany (cs.set o x) (o + 1) xs
theorem setMany_length : ∀ (xs : List MV) (cs : List MV) (o : Nat), (setMany cs o xs).length = cs.length
  | [], _, _ => rfl
  | x :: xs, cs, o => by simp [setMany, setMany_length xs]
theorem VH.set_set (O : VH) (k : Nat) (x y : VObj) : (O.set k x).set k y = O.set k y := by
  simp only [VH.set, VH.mk.injEq, true_and]
  funext j
  simp only [upd]
  cases Nat.beq j k <;> rfl
theorem VH.set_get (O : VH) (k : Nat) (x : VObj) : (O.set k x).hp k = some x := upd_same _ _ _
theorem VH.set_self {O : VH} {k : Nat} {x : VObj} (h : O.hp k = some x) : O.set k x = O := by
  obtain ⟨n, f⟩ := O
  simp only [VH.set, VH.mk.injEq, true_and]
  funext j
  by_cases e : j = k
  · subst e; rw [upd_same]; exact h.symm
  · exact upd_other _ _ e
theorem storeMany {k b : Nat} (hp : G.phi k = some b) (off : Nat) : ∀ (xs : List MV) (us : List Value) (i : Nat) (cs : List MV) (O : VH) (w : World), WR G O w → O.hp k = some (.cells cs) → VRs G xs us → xs.all leafB = true → off + i + xs.length ≤ cs.length →
    ∃ w', (storeCells ⟨b, off, none⟩ us i).run P w = .ok () w' ∧ WR G (O.set k (.cells (setMany cs (off + i) xs))) w'
  | [], us, i, cs, O, w, h, hk, hx, _, _ => by
    rw [hx.inv_nil]
    refine ⟨w, rfl, ?_⟩
    simp only [setMany]
    rw [VH.set_self hk]
    exact h
  | x :: xs, us, i, cs, O, w, h, hk, hx, hl, hle => by
    obtain ⟨u, us', rfl, h1, h2⟩ := hx.inv_cons
    simp only [List.all_cons, Bool.and_eq_true] at hl
    simp only [List.length_cons] at hle
    have hst := h.store (i := off + i) hk hp (by omega) h1
    obtain ⟨w', hr, hw⟩ := storeMany hp off xs us' (i + 1) (cs.set (off + i) x) _ _ hst (VH.set_get _ _ _) h2 hl.2 (by simp; omega)
    refine ⟨w', ?_, ?_⟩
    · obtain ⟨b', C, T, e1, e2, e3⟩ := h.cells k cs hk
      rw [hp] at e1; injection e1 with e1; subst e1
      have hlen : off + i < C.size := by have := e3.1; simp at this; omega
      have hcell : w.cell? ⟨b, off + i, none⟩ = some C[off + i] := by
        simp only [World.cell?, e2, Option.isSome_none, Bool.false_eq_true, if_false, Array.getElem?_eq_getElem hlen]
      have hfr : w.frozen? ⟨b, off + i, none⟩ = false := by
        obtain ⟨t', ⟨lo, hi⟩, hok⟩ := T
        dsimp only at e2 hok
        simp only [World.frozen?, e2, Bool.and_eq_false_imp, decide_eq_true_eq, decide_eq_false_iff_not]
        intro; omega
      rw [storeCells, Sem.run_bind]
      have : (store ((⟨b, off, none⟩ : Addr).add i) u).run P w = .ok () (w.setCell ⟨b, off + i, none⟩ u) := by
        rw [Addr.add_lit, run_store P w _ _ _ (leaf_one h1 hl.1), hcell]
        simp [hfr]
      rw [this, Result.andThen_ok]
      exact hr
    · rw [VH.set_set] at hw
      exact hw
def vstore (tab : Tab) (O : VH) (t : TypeId) (x y : MV) : Option VH :=
  match tab t, x with
  | some i, .ptr k off => match O.hp k with
    | some (.cells cs) => if (mcells y).length = i.size ∧ (mcells y).all leafB = true ∧ off + i.size ≤ cs.length then some (O.set k (.cells (setMany cs off (mcells y)))) else none
    | _ => none
  | _, _ => none
theorem vstore_ok (ht : TabOk P tab) (h : WR G O w) {t : TypeId} {x y : MV} {u v : Value} (hv : vstore tab O t x y = some O') (hx : VR G x u) (hy : VR G y v) : GivesU P (Instr.storeAt t u v) w G O' := by
  unfold vstore at hv
  split at hv
  · rename_i i k off hi
    have hty := ht t i hi
    split at hv
    · rename_i cs hk
      split at hv
      · rename_i hc
        injection hv with hv; subst hv
        cases hx with
        | ptr h1 =>
          have hm := mcells_ok hy
          obtain ⟨w', hr, hw⟩ := storeMany (P := P) h1 off (mcells y) v.cells.toList 0 cs O w h hk hm hc.2.1 (by omega)
          refine ⟨w', G, ?_, Gh.Le.refl G, by simpa using hw⟩
          have hs : v.cells.size = i.size := by rw [← Array.length_toList, hm.1]; exact hc.1
          simp [Instr.storeAt, Instr.sureAddr, storeVar, run_sz hty, hs, hr]
      · cases hv
    · cases hv
  · cases hv

/-- A new block. -/
theorem new_ok (h : WR G O w) {cs : List MV} {C : Array Value} {t : TypeId} (hc : VRs G cs C.toList) : Gives P (do pure (Value.pointer (some (← newRow t C)))) w G (O.push (.cells cs)) (.ptr O.next 0) := by
  obtain ⟨h1, h2⟩ := h.push t hc
  exact ⟨_, _, _, by simp [newRow, newObj, Sem.run], h1, h2, .ptr (upd_same _ _ _), KeepB.alloc h _⟩
theorem vbox_ok (h : WR G O w) {t : TypeId} {u : Value} (hu : VR G m u) : Gives P (Instr.box t u) w G (O.push (.cells (mcells m))) (.ptr O.next 0) := new_ok h (mcells_ok hu)
end
end Go.Proofs.YtjbpnhmjnkolbaaDoor

/-
  THE VALUE MACHINE, 3: more operations: addresses, parts of structs and arrays, literals, slices.
-/
set_option linter.unusedVariables false
set_option linter.unusedSimpArgs false
namespace Go.Proofs.YtjbpnhmjnkolbaaDoor
open Go.RowKit

section
variable {G H : Gh} {n : Sz} {D : List Deferred} {e : Env} {a : Act} {P : Program} {tab : Tab} {O O' : VH} {w : World} {m m' : MV} {u v : Value}

def maddr (k : Nat) : MV → Option MV
  | .ptr b off => some (.ptr b (off + k))
  | .cptr cs off => some (.cptr cs (off + k))
  | _ => none
theorem maddr_ok {k : Nat} (h : VR G m u) (hm : maddr k m = some m') : ∃ a : Addr, u = .pointer (some a) ∧ VR G m' (.pointer (some (a.add k))) := by
  cases h with
  | ptr h1 =>
    injection hm with hm; subst hm
    exact ⟨_, rfl, by rw [Addr.add_lit]; exact .ptr h1⟩
  | cptr h1 h2 h3 =>
    injection hm with hm; subst hm
    exact ⟨_, rfl, by rw [Addr.add_lit, Nat.add_assoc]; exact .cptr h1 h2 h3⟩
  | _ => cases hm

def vfieldAddr (tab : Tab) (t : TypeId) (f : Nat) (m : MV) : Option MV :=
  match tab t with
  | some i => match i.under with
    | .struct fs => match fs[f]? with
      | some fd => match tab fd.type with
        | some j => if j.size = 0 then none else maddr fd.offset m
        | none => none
      | none => none
    | _ => none
  | none => none
theorem vfieldAddr_ok (ht : TabOk P tab) {t : TypeId} {f : Nat} (hv : vfieldAddr tab t f m = some m') (hx : VR G m u) : GivesS P (Instr.fieldAt t u f) G m' := by
  unfold vfieldAddr at hv
  split at hv
  · rename_i i hi
    split at hv
    · rename_i fs hu
      split at hv
      · rename_i fd hf
        split at hv
        · rename_i j hj
          split at hv
          · cases hv
          · rename_i hz
            obtain ⟨a, rfl, h2⟩ := maddr_ok hx hv
            have hty := (ht t i hi).under
            rw [hu] at hty
            exact GivesS.of (fun w _ => by simp [Instr.fieldAt, run_underlying hty, hf, Instr.sureAddr, fieldPlace, run_sz (ht _ j hj), hz]) h2
        · cases hv
      · cases hv
    · cases hv
  · cases hv

def vindexAddr (tab : Tab) (t : TypeId) (m : MV) (ix : MV) : Option MV :=
  match ix, tab t with
  | .v (.int _ i), some ti => match ti.under, m with
    | .slice el, .sl n cells _ => match tab el with
      | some te => if 0 ≤ i ∧ i < (n : Int) then some (.cptr cells (i.toNat * te.size)) else none
      | none => none
    | .slice el, .asl k o n _ => match tab el with
      | some te => if 0 ≤ i ∧ i < (n : Int) then some (.ptr k (o + i.toNat * te.size)) else none
      | none => none
    | .array len el, x => match tab el with
      | some te => if 0 ≤ i ∧ i < (len : Int) then maddr (i.toNat * te.size) x else none
      | none => none
    | _, _ => none
  | _, _ => none
theorem vindexAddr_ok (ht : TabOk P tab) {t : TypeId} {ix : MV} (hv : vindexAddr tab t m ix = some m') (hx : VR G m u) (hy : VR G ix v) : GivesS P (Instr.indexAt t u v) G m' := by
  unfold vindexAddr at hv
  split at hv
  · rename_i k i ti hi
    cases hy
    have hty := (ht t ti hi).under
    split at hv
    · rename_i el n' cells tk hu
      rw [hu] at hty
      split at hv
      · rename_i te he
        split at hv
        · rename_i hb
          injection hv with hv; subst hv
          cases hx with
          | slnil => simp at hb; omega
          | sl0 h1 => simp at hb; omega
          | sl0n => simp at hb; omega
          | sl h1 h2 h3 h4 h5 h6 =>
            refine GivesS.of (u := .pointer (some _)) (fun w _ => ?_) (.cptr h1 h2 h3)
            simp [Instr.indexAt, asIntOf, run_underlying hty, hb.1, hb.2, run_sz (ht _ te he), Addr.add_lit]
        · cases hv
      · cases hv
    · rename_i el k' o n' c' hu
      rw [hu] at hty
      split at hv
      · rename_i te he
        split at hv
        · rename_i hb
          injection hv with hv; subst hv
          cases hx with
          | asl h1 h2 h3 =>
            refine GivesS.of (u := .pointer (some _)) (fun w _ => ?_) (.ptr h1)
            simp [Instr.indexAt, asIntOf, run_underlying hty, hb.1, hb.2, run_sz (ht _ te he), Addr.add_lit]
        · cases hv
      · cases hv
    · rename_i len el hu
      rw [hu] at hty
      split at hv
      · rename_i te he
        split at hv
        · rename_i hb
          obtain ⟨a, rfl, h2⟩ := maddr_ok hx hv
          refine GivesS.of (u := .pointer (some _)) (fun w _ => ?_) h2
          simp [Instr.indexAt, asIntOf, run_underlying hty, Instr.sureAddr, hb.1, hb.2, run_sz (ht _ te he)]
        · cases hv
      · cases hv
    · cases hv
  · cases hv

def vpart (tab : Tab) (t : TypeId) (cs : List MV) (off : Nat) : Option MV :=
  match tab t with
  | some i => vcell (isAggB i.under) i.size cs off
  | none => none
theorem vpart_ok (ht : TabOk P tab) {t : TypeId} {cs : List MV} {us : List Value} {off : Nat} (hv : vpart tab t cs off = some m) (hx : VRs G cs us) : ∃ r, (∀ w, (part t us.toArray off).run P w = .ok r w) ∧ VR G m r := by
  unfold vpart at hv
  split at hv
  · rename_i i hi
    have hty := ht t i hi
    unfold vcell at hv
    split at hv
    · rename_i hagg
      split at hv
      · injection hv with hv; subst hv
        have hvs := (hx.drop off).take i.size
        refine ⟨.agg ((us.drop off).take i.size).toArray, fun w => ?_, .agg hvs.1 hvs.2⟩
        simp [part, run_agg hty, hagg, run_sz hty]
      · cases hv
    · rename_i hagg
      obtain ⟨v, hv1, hv2⟩ := hx.get hv
      exact ⟨v, fun w => by simp [part, run_agg hty, hagg, hv1], hv2⟩
  · cases hv

def vfield (tab : Tab) (t : TypeId) (x : MV) (f : Nat) : Option MV :=
  match tab t, x with
  | some i, .agg cs => match i.under with
    | .struct fs => match fs[f]? with
      | some fd => vpart tab fd.type cs fd.offset
      | none => none
    | _ => none
  | _, _ => none
theorem vfield_ok (ht : TabOk P tab) {t : TypeId} {f : Nat} (hv : vfield tab t m f = some m') (hx : VR G m u) : GivesS P (Instr.field t u f) G m' := by
  unfold vfield at hv
  split at hv
  · rename_i i cs hi
    split at hv
    · rename_i fs hu
      have hty := (ht t i hi).under
      rw [hu] at hty
      split at hv
      · rename_i fd hf
        cases hx with
        | agg h1 h2 =>
          obtain ⟨r, h3, h4⟩ := vpart_ok (P := P) ht hv ⟨h1, h2⟩
          exact GivesS.of (fun w _ => by simp [Instr.field, run_underlying hty, hf, asAgg, h3]) h4
      · cases hv
    · cases hv
  · cases hv

def vindex (tab : Tab) (t : TypeId) (x ix : MV) : Option MV :=
  match tab t, x, ix with
  | some i, .agg cs, .v (.int _ k) => match i.under with
    | .array len el => match tab el with
      | some te => if 0 ≤ k ∧ k < (len : Int) then vpart tab el cs (k.toNat * te.size) else none
      | none => none
    | _ => none
  | some i, .str l, .v (.int _ k) => match i.under with
    | .string => if 0 ≤ k then (l[k.toNat]?).map fun b => .v (.int .u8 b.toNat) else none
    | _ => none
  | _, _, _ => none
theorem vindex_ok (ht : TabOk P tab) {t : TypeId} {ix : MV} (hv : vindex tab t m ix = some m') (hx : VR G m u) (hy : VR G ix v) : GivesS P (Instr.index t u v) G m' := by
  unfold vindex at hv
  split at hv
  · rename_i i cs kk k hi
    cases hy
    split at hv
    · rename_i len el hu
      have hty := (ht t i hi).under
      rw [hu] at hty
      split at hv
      · rename_i te he
        split at hv
        · rename_i hb
          cases hx with
          | agg h1 h2 =>
            obtain ⟨r, h3, h4⟩ := vpart_ok (P := P) ht hv ⟨h1, h2⟩
            exact GivesS.of (fun w _ => by simp [Instr.index, asIntOf, run_underlying hty, hb.1, hb.2, run_sz (ht _ te he), h3]) h4
        · cases hv
      · cases hv
    · cases hv
  · rename_i i l kk k hi
    cases hy
    cases hx
    split at hv
    · rename_i hu
      have hty := (ht t i hi).under
      rw [hu] at hty
      split at hv
      · rename_i hb
        obtain ⟨b, h1, h2⟩ := Option.map_eq_some_iff.1 hv
        subst h2
        refine GivesS.of (u := .int .u8 b.toNat) (fun w _ => ?_) (.v rfl)
        have hg : (⟨⟨l⟩⟩ : ByteArray)[k.toNat]? = some b := by
          obtain ⟨hlt, he⟩ := List.getElem?_eq_some_iff.1 h1
          rw [getElem?_pos (⟨⟨l⟩⟩ : ByteArray) k.toNat hlt]
          exact congrArg some he
        simp [Instr.index, asIntOf, run_underlying hty, hb, hg]
      · cases hv
    · cases hv
  · cases hv

def vextract (x : MV) (i : Nat) : Option MV :=
  match x with
  | .tuple vs => vs[i]?
  | _ => none
theorem vextract_ok {i : Nat} (hv : vextract m i = some m') (hx : VR G m u) : GivesS P (Instr.extract u i) G m' := by
  unfold vextract at hv
  split at hv
  · cases hx with
    | tuple h1 h2 =>
      obtain ⟨r, h3, h4⟩ := VRs.get ⟨h1, h2⟩ hv
      exact GivesS.of (fun w _ => by simp [Instr.extract, h3]) h4
  · cases hv
end
end Go.Proofs.YtjbpnhmjnkolbaaDoor

/-
  THE VALUE MACHINE, 4: literals, slices, make, len.
-/
set_option linter.unusedVariables false
set_option linter.unusedSimpArgs false
namespace Go.Proofs.YtjbpnhmjnkolbaaDoor
open Go.RowKit

section
variable {G H : Gh} {n : Sz} {D : List Deferred} {e : Env} {a : Act} {P : Program} {tab : Tab} {O O' : VH} {w : World} {m m' m2 : MV} {u v : Value}

/-! ### Literals -/
def vfill (place : Nat → Option (Nat × Nat)) (cells : List MV) : List (Nat × MV) → Option (List MV)
  | [] => some cells
  | (i, x) :: rest => match place i with
    | none => none
    | some (off, size) => if (mcells x).length = size ∧ off + size ≤ cells.length then vfill place (setMany cells off (mcells x)) rest else none
theorem zipIdx_set {us : List Value} : ∀ (vs : List Value) (k off : Nat) (C : Array Value) (cs ms : List MV), VRs G cs C.toList → VRs G ms vs →
    VRs G (setMany cs (off + k) ms) ((vs.zipIdx k).foldl (fun (a : Array Value) x => a.setIfInBounds (off + x.2) x.1) C).toList
  | [], k, off, C, cs, ms, h, hm => by
    have : ms = [] := List.eq_nil_of_length_eq_zero hm.1.symm
    subst this
    exact h
  | v :: vs, k, off, C, cs, ms, h, hm => by
    cases ms with
    | nil => have := hm.1; simp at this
    | cons x xs =>
      simp only [List.zipIdx_cons, List.foldl_cons, setMany]
      have h2 : VRs G (cs.set (off + k) x) (C.setIfInBounds (off + k) v).toList := by rw [Array.toList_setIfInBounds]; exact h.set hm.head
      exact zipIdx_set (us := us) vs (k + 1) off _ _ xs h2 hm.tail
theorem vfill_ok {place : Nat → Option (Nat × Nat)} : ∀ (parts : List (Nat × MV)) (ps : List (Nat × Value)) (cs : List MV) (C : Array Value) (ds : List MV), vfill place cs parts = some ds →
    parts.map (·.1) = ps.map (·.1) → VRs G (parts.map (·.2)) (ps.map (·.2)) → VRs G cs C.toList → ∃ E, Instr.fill place C ps = some E ∧ VRs G ds E.toList
  | [], ps, cs, C, ds, h, h1, h2, h3 => by
    have : ps = [] := by cases ps <;> simp_all
    subst this
    injection h with h; subst h
    exact ⟨C, rfl, h3⟩
  | (i, x) :: parts, ps, cs, C, ds, h, h1, h2, h3 => by
    cases ps with
    | nil => simp at h1
    | cons p ps =>
      obtain ⟨j, y⟩ := p
      simp only [List.map_cons, List.cons.injEq] at h1
      obtain ⟨rfl, h1⟩ := h1
      simp only [List.map_cons] at h2
      simp only [vfill] at h
      cases hp : place i with
      | none => rw [hp] at h; cases h
      | some q =>
        obtain ⟨off, size⟩ := q
        rw [hp] at h
        simp only at h
        split at h
        · rename_i hc
          have hm := mcells_ok h2.head
          have hy : y.cells.size = size := by rw [← Array.length_toList, hm.1]; exact hc.1
          have hC : C.size = cs.length := by rw [← Array.length_toList]; exact h3.1
          have hst := zipIdx_set (us := []) y.cells.toList 0 off C cs (mcells x) h3 hm
          obtain ⟨E, h4, h5⟩ := vfill_ok parts ps _ _ ds h h1 h2.tail hst
          refine ⟨E, ?_, h5⟩
          simp only [Instr.fill, hp]
          rw [if_neg (by rw [hy, hC]; simp; exact hc.2)]
          rw [← h4]
          congr 1
          rw [← Array.foldl_toList, Array.toList_zipIdx]
        · cases h

def placesOf (tab : Tab) (fs : Array Field) : Option (List (Nat × Nat)) := fs.toList.mapM fun f => (tab f.type).map fun i => (f.offset, i.size)
theorem run_places (ht : TabOk P tab) : ∀ (fs : List Field) (l : List (Nat × Nat)) (w : World), (fs.mapM fun f => (tab f.type).map fun i => (f.offset, i.size)) = some l →
    (fs.mapM fun f => (do pure (f.offset, ← sizeOf f.type) : Sem (Nat × Nat))).run P w = .ok l w
  | [], l, w, h => by simp at h; subst h; rfl
  | f :: fs, l, w, h => by
    simp only [List.mapM_cons, Option.bind_eq_bind, Option.bind_eq_some_iff] at h
    obtain ⟨x, h1, l', h2, h3⟩ := h
    injection h3 with h3; subst h3
    obtain ⟨i, hi, rfl⟩ := Option.map_eq_some_iff.1 h1
    have ih := run_places ht fs l' w h2
    simp only [List.mapM_cons, Sem.run_bind, run_sz (ht _ i hi), Result.andThen_ok, Sem.run_pure]
    rw [ih]
    rfl

def vbuild (tab : Tab) (t : TypeId) (parts : List (Nat × MV)) : Option MV :=
  match tab t with
  | some i => match i.under with
    | .struct fs => match placesOf tab fs with
      | some l => (vfill (l[·]?) i.zero parts).map .agg
      | none => none
    | .array _ el => match tab el with
      | some te => (vfill (fun k => some (k * te.size, te.size)) i.zero parts).map .agg
      | none => none
    | _ => none
  | none => none
theorem vbuild_ok (ht : TabOk P tab) {t : TypeId} {parts : List (Nat × MV)} {ps : Array (Nat × Value)} (hv : vbuild tab t parts = some m) (h1 : parts.map (·.1) = ps.toList.map (·.1)) (h2 : VRs G (parts.map (·.2)) (ps.toList.map (·.2))) :
    GivesS P (Instr.build t ps) G m := by
  unfold vbuild at hv
  split at hv
  · rename_i i hi
    have hty := ht t i hi
    obtain ⟨ti, z, hz0, _, _, hz4, hz2, hz3⟩ := hty.info
    have hz1 : ∀ w, (zeroValue t).run P w = .ok z w := fun w => by simp [zeroValue, typeInfo, hz0, hz4]
    split at hv
    · rename_i fs hu
      have hun := hty.under
      rw [hu] at hun
      split at hv
      · rename_i l hl
        obtain ⟨ds, h3, rfl⟩ := Option.map_eq_some_iff.1 hv
        obtain ⟨E, h4, h5⟩ := vfill_ok parts ps.toList i.zero z.cells ds h3 h1 h2 (hz3 G)
        have hr := fun w => run_places ht fs.toList l w hl
        refine GivesS.of (u := .agg E) (fun w _ => ?_) (.agg h5.1 h5.2)
        have hr' : (fs.mapM fun f => (do pure (f.offset, ← sizeOf f.type) : Sem (Nat × Nat))).run P w = .ok l.toArray w := by
          rw [Array.mapM_eq_mapM_toList, ← bind_pure_comp, Sem.run_bind, hr]
          rfl
        simp only [Instr.build, Sem.run_bind, hz1, Result.andThen_ok, run_underlying hun, hr']
        have : Instr.fill (fun x => l.toArray[x]?) z.cells ps.toList = some E := by rw [← h4]; congr 1; funext x; simp
        rw [this]
        rfl
      · cases hv
    · rename_i len el hu
      have hun := hty.under
      rw [hu] at hun
      split at hv
      · rename_i te he
        obtain ⟨ds, h3, rfl⟩ := Option.map_eq_some_iff.1 hv
        obtain ⟨E, h4, h5⟩ := vfill_ok parts ps.toList i.zero z.cells ds h3 h1 h2 (hz3 G)
        refine GivesS.of (u := .agg E) (fun w _ => ?_) (.agg h5.1 h5.2)
        simp only [Instr.build, Sem.run_bind, hz1, Result.andThen_ok, run_underlying hun, run_sz (ht _ te he), h4]
        rfl
      · cases hv
    · cases hv
  · cases hv

/-- As many zero cells. -/
def vzeros (z : List MV) (n : Nat) : List MV := (List.range n).map fun i => z.getD (i % z.length) (.tuple [])
theorem vzeros_ok {z : List MV} {Z : Array Value} (h : VRs G z Z.toList) (hz : 0 < z.length) (n : Nat) : VRs G (vzeros z n) ((Array.range n).map (fun i => Z[i % Z.size]!)).toList := by
  have hl : Z.size = z.length := by rw [← Array.length_toList]; exact h.1
  refine ⟨by simp [vzeros], fun i c u hc hu => ?_⟩
  simp only [vzeros, List.getElem?_map, Option.map_eq_some_iff] at hc
  obtain ⟨j, hj, rfl⟩ := hc
  simp only [Array.toList_map, Array.toList_range, List.getElem?_map, hj, Option.map_some, Option.some.injEq] at hu
  have hm : j % z.length < z.length := Nat.mod_lt _ hz
  have hm' : j % Z.size < Z.size := by rw [hl]; exact hm
  refine h.2 (j % z.length) _ u ?_ ?_
  · rw [List.getElem?_eq_getElem hm, List.getD_eq_getElem?_getD, List.getElem?_eq_getElem hm]; rfl
  · rw [← hu, ← hl, Array.getElem?_toList, Array.getElem?_eq_getElem hm', getElem!_pos Z _ hm']

def vbuildSlice (tab : Tab) (t : TypeId) (len : Nat) (parts : List (Nat × MV)) : Option MV :=
  match (tab t).map TyI.under with
  | some (.slice el) => match tab el with
    | some te => if 0 < len * te.size ∧ len * te.size ≤ 16777216 ∧ 0 < te.zero.length ∧ len ≤ maxLen then
        (vfill (fun k => some (k * te.size, te.size)) (vzeros te.zero (len * te.size)) parts).map fun cs => .sl len cs .full
      else if len = 0 ∧ parts = [] then some (.sl 0 [] .full) else none
    | none => none
  | _ => none
theorem vbuildSlice_ok (ht : TabOk P tab) (h : WR G O w) {t : TypeId} {len : Nat} {parts : List (Nat × MV)} {ps : Array (Nat × Value)} (hv : vbuildSlice tab t len parts = some m) (h1 : parts.map (·.1) = ps.toList.map (·.1)) (h2 : VRs G (parts.map (·.2)) (ps.toList.map (·.2))) :
    Gives P (Instr.buildSlice t len ps) w G O m := by
  unfold vbuildSlice at hv
  split at hv
  · rename_i el hu
    obtain ⟨i, hi, hu⟩ := Option.map_eq_some_iff.1 hu
    have hun := (ht t i hi).under
    rw [hu] at hun
    split at hv
    · rename_i te he
      have hte := ht el te he
      obtain ⟨z, hz1, hz2, hz3⟩ := run_zero hte w
      have fin : ∀ (C : Array Value) (cs : List MV), VRs G cs C.toList → len ≤ maxLen → Gives P (do pure (Value.slice (some (← newRow el C)) len len)) w G O (.sl len cs .full) := fun C cs hc hl => by
        obtain ⟨h3, h4⟩ := h.lit C el
        refine ⟨.slice (some ⟨w.heap.size, 0, none⟩) len len, w.alloc (.cells C el), _, by simp [newRow, newObj, Sem.run], h3, h4, ?_, KeepB.alloc h _⟩
        refine .sl (us := C.toList) hc.1 (fun i u hu => ?_) (fun i c u a b => (hc.2 i c u a b).mono h3) (Nat.le_refl _) hl rfl
        show (if w.heap.size = w.heap.size then C[0 + i]? else _) = some u
        rw [if_pos rfl, Nat.zero_add]
        simpa using hu
      split at hv
      · rename_i hc
        obtain ⟨cs, h3, rfl⟩ := Option.map_eq_some_iff.1 hv
        obtain ⟨E, h4, h5⟩ := vfill_ok parts ps.toList _ _ cs h3 h1 h2 (vzeros_ok (hz3 G) hc.2.2.1 (len * te.size))
        have hne : ¬ (len * te.size = 0) := by omega
        have hng : ¬ (len * te.size > 16777216) := by omega
        obtain ⟨u, w', H, hr, r⟩ := fin E cs h5 hc.2.2.2
        refine ⟨u, w', H, ?_, r⟩
        rw [← hr]
        simp [Instr.buildSlice, run_underlying hun, run_sz hte, hne, hng, hz1, h4]
      · split at hv
        · rename_i hc
          injection hv with hv; subst hv
          obtain ⟨rfl, rfl⟩ := hc
          have hps : ps.toList = [] := by
            have := h1.symm
            simpa using this
          obtain ⟨u, w', H, hr, r⟩ := fin #[] [] VRs.nil (Nat.zero_le _)
          refine ⟨u, w', H, ?_, r⟩
          rw [← hr]
          simp [Instr.buildSlice, run_underlying hun, run_sz hte, hps, Instr.fill]
          rw [show Array.range 0 = #[] from Array.eq_empty_of_size_eq_zero (by simp), Array.map_empty]
        · cases hv
    · cases hv
  · cases hv

/-! ### len, max, min; the unary ones -/
def vlen (tab : Tab) (t : TypeId) (x : MV) : Option MV :=
  match (tab t).map TyI.under, x with
  | some .string, .str l => some (.v (.int .i64 l.length))
  | some (.slice _), .sl n _ _ => some (.v (.int .i64 n))
  | some (.slice _), .asl _ _ n _ => some (.v (.int .i64 n))
  | some (.map _ _), .v (.map none) => some (.v (.int .i64 0))
  | some (.array n _), _ => some (.v (.int .i64 n))
  | _, _ => none
theorem vlen_ok (ht : TabOk P tab) {t ty : TypeId} (hv : vlen tab t m = some m') (hx : VR G m u) : GivesS P (Builtin.len_ #[t] ty #[u]) G m' := by
  unfold vlen at hv
  have un : ∀ d, (tab t).map TyI.under = some d → P.underlying t = some d := fun d hd => by
    obtain ⟨i, hi, hu⟩ := Option.map_eq_some_iff.1 hd
    rw [← hu]; exact (ht t i hi).under
  split at hv
  · injection hv with hv; subst hv
    cases hx
    exact GivesS.of (u := .int .i64 _) (fun w _ => by simp [Builtin.len_, run_underlying (un _ ‹_›), goInt]; rfl) (.v rfl)
  · injection hv with hv; subst hv
    cases hx <;> exact GivesS.of (u := .int .i64 _) (fun w _ => by simp [Builtin.len_, run_underlying (un _ ‹_›), goInt]; try rfl) (.v rfl)
  · injection hv with hv; subst hv
    cases hx
    exact GivesS.of (u := .int .i64 _) (fun w _ => by simp [Builtin.len_, run_underlying (un _ ‹_›), goInt]; try rfl) (.v rfl)
  · injection hv with hv; subst hv
    cases hx
    exact GivesS.of (u := .int .i64 _) (fun w _ => by simp [Builtin.len_, run_underlying (un _ ‹_›), goInt]; try rfl) (.v rfl)
  · injection hv with hv; subst hv
    exact GivesS.of (u := .int .i64 _) (fun w _ => by simp [Builtin.len_, run_underlying (un _ ‹_›), goInt]; try rfl) (.v rfl)
  · cases hv
def vmaplen (tab : Tab) (O : VH) (t : TypeId) (x : MV) : Option MV :=
  match (tab t).map TyI.under, x with
  | some (.map _ _), .map k => match O.hp k with
    | some (.map es _) => some (.v (.int .i64 es.length))
    | _ => none
  | _, _ => none
theorem vmaplen_ok (ht : TabOk P tab) (h : WR G O w) {t ty : TypeId} (hv : vmaplen tab O t m = some m') (hx : VR G m u) : Gives P (Builtin.len_ #[t] ty #[u]) w G O m' := by
  unfold vmaplen at hv
  have un : ∀ d, (tab t).map TyI.under = some d → P.underlying t = some d := fun d hd => by
    obtain ⟨i, hi, hu⟩ := Option.map_eq_some_iff.1 hd
    rw [← hu]; exact (ht t i hi).under
  split at hv
  · split at hv
    · rename_i k es ck hk
      injection hv with hv; subst hv
      cases hx with
      | map h1 =>
        obtain ⟨b, E, e1, e2, e3, _⟩ := h.map _ _ _ hk
        rw [h1] at e1; injection e1 with e1; subst e1
        have hl : E.size = es.length := by
          have := congrArg List.length e3
          simpa using this
        refine Gives.of h (u := .int .i64 es.length) ?_ (.v rfl)
        simp [Builtin.len_, run_underlying (un _ ‹_›), goInt, getObj, Sem.run, e2, hl]
    · cases hv
  · cases hv

def vmax2 (x y : MV) : Option MV :=
  match x, y with
  | .v (.int k a), .v (.int _ b) => some (.v (.int k (if b > a then b else a)))
  | _, _ => none
def vmin2 (x y : MV) : Option MV :=
  match x, y with
  | .v (.int k a), .v (.int _ b) => some (.v (.int k (if b < a then b else a)))
  | _, _ => none
theorem vmax2_ok (hv : vmax2 m m' = some m2) (hx : VR G m u) (hy : VR G m' v) {ts : Array TypeId} {ty : TypeId} : GivesS P (Builtin.max_ ts ty #[u, v]) G m2 := by
  unfold vmax2 at hv
  split at hv
  · injection hv with hv; subst hv; cases hx; cases hy
    exact GivesS.of (u := .int _ _) (fun w _ => by simp [Builtin.max_, Builtin.max2]) (.v rfl)
  · cases hv
theorem vmin2_ok (hv : vmin2 m m' = some m2) (hx : VR G m u) (hy : VR G m' v) {ts : Array TypeId} {ty : TypeId} : GivesS P (Builtin.min_ ts ty #[u, v]) G m2 := by
  unfold vmin2 at hv
  split at hv
  · injection hv with hv; subst hv; cases hx; cases hy
    exact GivesS.of (u := .int _ _) (fun w _ => by simp [Builtin.min_, Builtin.min2]) (.v rfl)
  · cases hv
def vunary (op : UnOp) (x : MV) : Option MV :=
  match op, x with
  | .neg, .v (.int k a) => some (.v (.int k (k.wrap (0 - a))))
  | .not, .v (.bool b) => some (.v (.bool !b))
  | _, _ => none
theorem vunary_ok {op : UnOp} (hv : vunary op m = some m') (hx : VR G m u) : GivesS P (Op.unary op u) G m' := by
  unfold vunary at hv
  split at hv
  · injection hv with hv; subst hv; cases hx
    exact GivesS.of (u := .int _ _) (fun w _ => by simp [Op.unary, Op.intArith]) (.v rfl)
  · injection hv with hv; subst hv; cases hx
    exact GivesS.of (u := .bool _) (fun w _ => by simp [Op.unary]) (.v rfl)
  · cases hv
end
end Go.Proofs.YtjbpnhmjnkolbaaDoor
