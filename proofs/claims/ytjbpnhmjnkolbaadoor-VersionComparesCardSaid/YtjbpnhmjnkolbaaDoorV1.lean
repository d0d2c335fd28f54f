/-
  THE VALUE MACHINE, 1: Go's memory seen as values. A slice that is never written through reads as the row of its cells; what is written lies in numbered blocks. 'VR' says how such a value stands in the model's memory, 'WR' how a whole world does.
-/
import Derived.Below
import Derived.LoopN
import Derived.OrdersHeld
import Derived.Deep.Draws
import Derived.WalkKit
import Derived.WalkSpells
import Derived.KernelRfl
set_option linter.unusedVariables false
set_option linter.unusedSimpArgs false
namespace Go.Proofs.YtjbpnhmjnkolbaaDoor
open Go.RowKit

/-- What may be appended to a slice: it is nil; there is no room behind it; the room behind it is its own, by a token; nothing is known. -/
inductive Tok where
  | nil | full | own (t k : Nat) | unk
  deriving DecidableEq

/-- A value of the machine. v: a plain one (no address in it) · str: a string's bytes · ptr: a cell of a block that may be written · cptr: a cell that nobody writes any more, with its fellows · sl: a slice that nobody writes through: its length, its cells · asl: a slice of a block that may be written. -/
inductive MV where
  | v (x : Value)
  | str (l : List UInt8)
  | ptr (b off : Nat)
  | cptr (cells : List MV) (off : Nat)
  | sl (n : Nat) (cells : List MV) (t : Tok)
  | asl (b off len cap : Nat)
  | map (b : Nat)
  | func (fn : Fn) (first captured : List MV)
  | iface (t : TypeId) (x : MV)
  | agg (cells : List MV)
  | tuple (vs : List MV)

inductive VObj where
  | cells (cs : List MV)
  | map (es : List (MV × MV × Nat)) (clock : Nat)
  | tok
  | shape (k : Nat) (t : TypeId) (n : Nat)

structure VH where
  next : Nat
  hp : Nat → Option VObj

def upd {α : Type} (f : Nat → Option α) (k : Nat) (x : Option α) : Nat → Option α := fun j => bif Nat.beq j k then x else f j
theorem upd_same {α : Type} (f : Nat → Option α) (k : Nat) (x : Option α) : upd f k x k = x := by simp [upd]
theorem upd_other {α : Type} (f : Nat → Option α) {k j : Nat} (x : Option α) (h : j ≠ k) : upd f k x j = f j := by
  have : j.beq k = false := by rw [← Bool.not_eq_true]; intro e; exact h (Nat.eq_of_beq_eq_true e)
  simp [upd, this]

def VH.set (O : VH) (k : Nat) (x : VObj) : VH := { O with hp := upd O.hp k (some x) }
def VH.push (O : VH) (x : VObj) : VH := ⟨O.next + 1, upd O.hp O.next (some x)⟩
def VH.kill (O : VH) (k : Nat) : VH := { O with hp := upd O.hp k none }
def VH.bump (O : VH) (n : Nat) : VH := { O with next := n }

/-- A value without an address in it. -/
def plain : Value → Bool
  | .bool _ | .int _ _ | .float _ _ | .complex _ _ _ | .pointer none | .map none | .chan none | .nilFunc | .nilIface => true
  | _ => false

/-- What holds beside the world: the world at the start and its size; where each block lies; the cells that nobody writes any more; of each token its block, where the room begins, the size of an element, how many have room. -/
structure Gh where
  w0 : World
  phi : Nat → Option Nat
  com : Nat → Nat → Option Value
  tok : Nat → Option (Nat × Nat × Nat × Nat)

abbrev Gh.B (G : Gh) : Nat := G.w0.heap.size
structure Gh.Le (G H : Gh) : Prop where
  w0 : H.w0 = G.w0
  phi : ∀ {k b}, G.phi k = some b → H.phi k = some b
  com : ∀ {b o u}, G.com b o = some u → H.com b o = some u
  tok : ∀ {t x}, G.tok t = some x → H.tok t = some x
theorem Gh.Le.refl (G : Gh) : G.Le G := ⟨rfl, id, id, id⟩
theorem Gh.Le.trans {G H K : Gh} (h : G.Le H) (k : H.Le K) : G.Le K :=
  ⟨k.w0.trans h.w0, fun x => k.phi (h.phi x), fun x => k.com (h.com x), fun x => k.tok (h.tok x)⟩

def Tok.ok (G : Gh) : Tok → (b o n c sz : Nat) → Prop
  | .nil, _, _, _, _, _ => False
  | .full, _, _, n, c, _ => c = n
  | .own t k, b, o, n, c, sz => c = n ∨ ∃ r, G.tok t = some (b, o + sz, k, r) ∧ sz = n * k ∧ c = n + r
  | .unk, _, _, _, _, _ => True

/-- How a value of the machine stands in memory. -/
inductive VR (G : Gh) : MV → Value → Prop
  | v {x : Value} : plain x = true → VR G (.v x) x
  | str {l : List UInt8} : VR G (.str l) (.string ⟨⟨l⟩⟩)
  | ptr {k o b : Nat} : G.phi k = some b → VR G (.ptr k o) (.pointer (some ⟨b, o, none⟩))
  | cptr {cells : List MV} {us : List Value} {off b o : Nat} : us.length = cells.length → (∀ (i : Nat) (u : Value), us[i]? = some u → G.com b (o + i) = some u) →
      (∀ (i : Nat) (c : MV) (u : Value), cells[i]? = some c → us[i]? = some u → VR G c u) → VR G (.cptr cells off) (.pointer (some ⟨b, o + off, none⟩))
  | slnil : VR G (.sl 0 [] .nil) (.slice none 0 0)
  | sl0 {a : Addr} {c : Nat} : c ≤ maxLen → VR G (.sl 0 [] .unk) (.slice (some a) 0 c)
  | sl0n : VR G (.sl 0 [] .unk) (.slice none 0 0)
  | sl {cells : List MV} {us : List Value} {n c b o : Nat} {t : Tok} : us.length = cells.length → (∀ (i : Nat) (u : Value), us[i]? = some u → G.com b (o + i) = some u) →
      (∀ (i : Nat) (c : MV) (u : Value), cells[i]? = some c → us[i]? = some u → VR G c u) → n ≤ c → c ≤ maxLen → t.ok G b o n c cells.length → VR G (.sl n cells t) (.slice (some ⟨b, o, none⟩) n c)
  | asl {k o n c b : Nat} : G.phi k = some b → n ≤ c → c ≤ maxLen → VR G (.asl k o n c) (.slice (some ⟨b, o, none⟩) n c)
  | map {k b : Nat} : G.phi k = some b → VR G (.map k) (.map (some b))
  | func {fn : Fn} {fs cs : List MV} {us vs : List Value} : us.length = fs.length → (∀ (i : Nat) (c : MV) (u : Value), fs[i]? = some c → us[i]? = some u → VR G c u) →
      vs.length = cs.length → (∀ (i : Nat) (c : MV) (u : Value), cs[i]? = some c → vs[i]? = some u → VR G c u) → VR G (.func fn fs cs) (.func fn us.toArray vs.toArray)
  | iface {t : TypeId} {x : MV} {u : Value} : VR G x u → VR G (.iface t x) (.iface t u)
  | agg {cs : List MV} {us : List Value} : us.length = cs.length → (∀ (i : Nat) (c : MV) (u : Value), cs[i]? = some c → us[i]? = some u → VR G c u) → VR G (.agg cs) (.agg us.toArray)
  | tuple {cs : List MV} {us : List Value} : us.length = cs.length → (∀ (i : Nat) (c : MV) (u : Value), cs[i]? = some c → us[i]? = some u → VR G c u) → VR G (.tuple cs) (.tuple us.toArray)

/-- A row of them. -/
def VRs (G : Gh) (cs : List MV) (us : List Value) : Prop := us.length = cs.length ∧ ∀ (i : Nat) (c : MV) (u : Value), cs[i]? = some c → us[i]? = some u → VR G c u

theorem VR.mono {G H : Gh} (h : G.Le H) {m : MV} {u : Value} (r : VR G m u) : VR H m u := by
  induction r with
  | v h1 => exact .v h1
  | str => exact .str
  | ptr h1 => exact .ptr (h.phi h1)
  | cptr h1 h2 h3 ih => exact .cptr h1 (fun i u hu => h.com (h2 i u hu)) (fun i c u h4 h5 => ih i c u h4 h5)
  | slnil => exact .slnil
  | sl0 h1 => exact .sl0 h1
  | sl0n => exact .sl0n
  | sl h1 h2 h3 h4 h5 h6 ih =>
    refine .sl h1 (fun i u hu => h.com (h2 i u hu)) (fun i c u h7 h8 => ih i c u h7 h8) h4 h5 ?_
    rename_i t
    cases t with
    | nil => exact h6
    | full => exact h6
    | own t k =>
      rcases h6 with h6 | ⟨r, h7, h8⟩
      · exact .inl h6
      · exact .inr ⟨r, h.tok h7, h8⟩
    | unk => trivial
  | asl h1 h2 h3 => exact .asl (h.phi h1) h2 h3
  | map h1 => exact .map (h.phi h1)
  | func h1 h2 h3 h4 ih1 ih2 => exact .func h1 (fun i c u a b => ih1 i c u a b) h3 (fun i c u a b => ih2 i c u a b)
  | iface h1 ih => exact .iface ih
  | agg h1 h2 ih => exact .agg h1 fun i c u a b => ih i c u a b
  | tuple h1 h2 ih => exact .tuple h1 fun i c u a b => ih i c u a b

theorem VRs.mono {G H : Gh} (h : G.Le H) {cs : List MV} {us : List Value} (r : VRs G cs us) : VRs H cs us := ⟨r.1, fun i c u a b => (r.2 i c u a b).mono h⟩
theorem VRs.nil {G : Gh} : VRs G [] [] := ⟨rfl, fun i c u h => by simp at h⟩
theorem VRs.cons {G : Gh} {c : MV} {u : Value} {cs : List MV} {us : List Value} (h : VR G c u) (k : VRs G cs us) : VRs G (c :: cs) (u :: us) :=
  ⟨by simp [k.1], fun i c' u' a b => by
    cases i with
    | zero => simp only [List.getElem?_cons_zero, Option.some.injEq] at a b; subst a; subst b; exact h
    | succ i => simp only [List.getElem?_cons_succ] at a b; exact k.2 i c' u' a b⟩
theorem VRs.head {G : Gh} {c : MV} {u : Value} {cs : List MV} {us : List Value} (h : VRs G (c :: cs) (u :: us)) : VR G c u := h.2 0 c u rfl rfl
theorem VRs.tail {G : Gh} {c : MV} {u : Value} {cs : List MV} {us : List Value} (h : VRs G (c :: cs) (u :: us)) : VRs G cs us := ⟨by have := h.1; simp at this; exact this, fun i c u a b => h.2 (i + 1) c u (by simpa using a) (by simpa using b)⟩
theorem VRs.inv_cons {G : Gh} {c : MV} {cs : List MV} {us : List Value} (h : VRs G (c :: cs) us) : ∃ u us', us = u :: us' ∧ VR G c u ∧ VRs G cs us' := by
  cases us with
  | nil => have := h.1; simp at this
  | cons u us => exact ⟨u, us, rfl, h.head, h.tail⟩
theorem VRs.inv_nil {G : Gh} {us : List Value} (h : VRs G [] us) : us = [] := List.eq_nil_of_length_eq_zero h.1
theorem VRs.append {G : Gh} {cs ds : List MV} {us ts : List Value} (h : VRs G cs us) (k : VRs G ds ts) : VRs G (cs ++ ds) (us ++ ts) :=
  ⟨by simp [h.1, k.1], fun i c u a b => by
    rw [List.getElem?_append] at a b
    rw [h.1] at b
    split at a
    · rw [if_pos ‹_›] at b; exact h.2 i c u a b
    · rw [if_neg ‹_›] at b; exact k.2 _ c u a b⟩
theorem VRs.drop {G : Gh} {cs : List MV} {us : List Value} (h : VRs G cs us) (n : Nat) : VRs G (cs.drop n) (us.drop n) :=
  ⟨by simp [h.1], fun i c u a b => by rw [List.getElem?_drop] at a b; exact h.2 _ c u a b⟩
theorem VRs.take {G : Gh} {cs : List MV} {us : List Value} (h : VRs G cs us) (n : Nat) : VRs G (cs.take n) (us.take n) :=
  ⟨by simp [h.1], fun i c u a b => by
    rw [List.getElem?_take] at a b
    split at a
    · rw [if_pos ‹_›] at b; exact h.2 i c u a b
    · cases a⟩
theorem VRs.get {G : Gh} {cs : List MV} {us : List Value} (h : VRs G cs us) {i : Nat} {c : MV} (hc : cs[i]? = some c) : ∃ u, us[i]? = some u ∧ VR G c u := by
  have hl : i < us.length := by rw [h.1]; exact (List.getElem?_eq_some_iff.1 hc).1
  exact ⟨us[i], List.getElem?_eq_getElem hl, h.2 i c _ hc (List.getElem?_eq_getElem hl)⟩
theorem VRs.set {G : Gh} {cs : List MV} {us : List Value} (h : VRs G cs us) {i : Nat} {c : MV} {u : Value} (hc : VR G c u) : VRs G (cs.set i c) (us.set i u) :=
  ⟨by simp [h.1], fun j c' u' a b => by
    rw [List.getElem?_set] at a b
    rw [h.1] at b
    split at a
    · rw [if_pos ‹_›] at b
      split at a
      · rw [if_pos ‹_›] at b; injection a with a; injection b with b; subst a; subst b; exact hc
      · cases a
    · rw [if_neg ‹_›] at b; exact h.2 j c' u' a b⟩

/-- A block's type and what of it is frozen: none of its cells. -/
structure Fz (C : Array Value) where
  t : TypeId
  fr : Nat × Nat
  ok : fr.1 = fr.2 ∨ C.size ≤ fr.1
/-- How a world stands. -/
structure WR (G : Gh) (O : VH) (w : World) : Prop where
  base : Below G.B G.w0 w
  com : ∀ b o u, G.com b o = some u → w.cell? ⟨b, o, none⟩ = some u
  dom : ∀ k, O.next ≤ k → G.phi k = none ∧ G.tok k = none ∧ O.hp k = none
  plt : ∀ k b, G.phi k = some b → G.B ≤ b ∧ b < w.heap.size ∧ (O.hp k ≠ none → ∀ o, G.com b o = none)
  inj : ∀ j k b, O.hp j ≠ none → O.hp k ≠ none → G.phi j = some b → G.phi k = some b → j = k
  cells : ∀ k cs, O.hp k = some (.cells cs) → ∃ b, ∃ C : Array Value, ∃ T : Fz C, G.phi k = some b ∧ w.heap[b]? = some (.cells C T.t T.fr) ∧ VRs G cs (C.toList.take cs.length)
  map : ∀ k es ck, O.hp k = some (.map es ck) → ∃ b E, G.phi k = some b ∧ w.heap[b]? = some (.map E ck) ∧ E.toList.map (·.born) = es.map (·.2.2) ∧ VRs G (es.map (·.1)) (E.toList.map (·.key)) ∧ VRs G (es.map (·.2.1)) (E.toList.map (·.val))
  tok : ∀ t, O.hp t = some .tok → ∃ b f k r C T, G.tok t = some (b, f, k, r) ∧ G.B ≤ b ∧ w.heap[b]? = some (.cells C T (0, 0)) ∧ f + r * k ≤ C.size ∧ (∀ o, f ≤ o → G.com b o = none) ∧ ∀ j, G.phi j ≠ some b
  tinj : ∀ s t b x y, O.hp s = some .tok → O.hp t = some .tok → G.tok s = some (b, x) → G.tok t = some (b, y) → s = t
  shp : ∀ j k t n, O.hp j = some (.shape k t n) → ∃ b, G.phi k = some b ∧ w.shape? b = some (t, n)

section
variable {G : Gh} {O : VH} {w : World}
theorem WR.comlt (h : WR G O w) {b o : Nat} {u : Value} (hc : G.com b o = some u) : b < w.heap.size := World.block_lt_of_cell? w _ (h.com b o u hc)
theorem WR.nextfree (h : WR G O w) : G.phi O.next = none ∧ G.tok O.next = none ∧ O.hp O.next = none := h.dom _ (Nat.le_refl _)
/-- What is known of blocks' types stays so. -/
theorem WR.shpOf {G' : Gh} {O' : VH} {w' : World} (h : WR G O w) (hl : ∀ {k b}, G.phi k = some b → G'.phi k = some b) (hO : ∀ j k t n, O'.hp j = some (.shape k t n) → O.hp j = some (.shape k t n)) (hw : ∀ k b s, G.phi k = some b → w.shape? b = some s → w'.shape? b = some s) :
    ∀ j k t n, O'.hp j = some (.shape k t n) → ∃ b, G'.phi k = some b ∧ w'.shape? b = some (t, n) := fun j k t n hj => by
  obtain ⟨b, h1, h2⟩ := h.shp j k t n (hO j k t n hj)
  exact ⟨b, hl h1, hw k b _ h1 h2⟩
theorem upd_shape {f : Nat → Option VObj} {q : Nat} {X : VObj} (hX : ∀ k t n, X ≠ .shape k t n) (j k t n : Nat) (h : upd f q (some X) j = some (.shape k t n)) : f j = some (.shape k t n) := by
  by_cases e : j = q
  · subst e; rw [upd_same] at h; injection h with h; exact absurd h (hX _ _ _)
  · rwa [upd_other _ _ e] at h
theorem shape_heap {w w' : World} {b : Nat} {s : TypeId × Nat} (hh : ∀ x, w.heap[b]? = some x → w'.heap[b]? = some x) (h : w.shape? b = some s) : w'.shape? b = some s := by
  unfold World.shape? at h ⊢
  generalize hx : w.heap[b]? = x at h
  cases x with
  | none => cases h
  | some x => rw [hh x hx]; exact h
/-- A draw. -/
theorem WR.drew (h : WR G O w) : WR G O w.drew := ⟨h.base.drew, h.com, h.dom, h.plt, h.inj, h.cells, h.map, h.tok, h.tinj, h.shp⟩
theorem WR.drawn (h : WR G O w) (n : Nat) : WR G O { w with drawn := n } :=
  ⟨⟨h.base.os, h.base.tape, h.base.output, h.base.size, h.base.block⟩, h.com, h.dom, h.plt, h.inj, h.cells, h.map, h.tok, h.tinj, h.shp⟩

theorem WR.bsz (h : WR G O w) : G.B ≤ w.heap.size := h.base.size
theorem Gh.Le.of_phi {k : Nat} (h : G.phi k = none) (b : Nat) : G.Le { G with phi := upd G.phi k (some b) } :=
  ⟨rfl, fun {j b'} hj => by
    show upd G.phi k (some b) j = some b'
    rw [upd_other _ _ (fun e => by subst e; rw [h] at hj; cases hj)]; exact hj, id, id⟩

theorem heap_alloc_eq (w : World) (o : Obj) (b : Nat) : (w.alloc o).heap[b]? = if b = w.heap.size then some o else w.heap[b]? := by
  show (w.heap.push o)[b]? = _
  rw [Array.getElem?_push]
theorem heap_alloc_keep (w : World) (o : Obj) {b : Nat} {x : Obj} (h : w.heap[b]? = some x) : (w.alloc o).heap[b]? = some x := by
  rw [heap_alloc_eq, if_neg (fun e => by subst e; rw [Array.getElem?_eq_none (Nat.le_refl _)] at h; cases h)]; exact h
theorem lt_of_heap {w : World} {b : Nat} {x : Obj} (h : w.heap[b]? = some x) : b < w.heap.size := (Array.getElem?_eq_some_iff.1 h).1
theorem cell_alloc_keep (w : World) (o : Obj) {a : Addr} {u : Value} (h : w.cell? a = some u) : (w.alloc o).cell? a = some u := by
  rw [World.cell?_alloc_lt w o a (World.block_lt_of_cell? w a h)]; exact h

/-- Whatever is added to the heap's end: all that was there stands as it did. -/
theorem WR.grow (h : WR G O w) (o : Obj) : WR G O (w.alloc o) where
  base := h.base.alloc h.bsz o
  com b p u hc := cell_alloc_keep w o (h.com b p u hc)
  dom := h.dom
  plt k b hk := by
    obtain ⟨h1, h2, h3⟩ := h.plt k b hk
    exact ⟨h1, by simp; omega, h3⟩
  inj := h.inj
  cells k cs hk := by
    obtain ⟨b, C, T, h1, h2, h3⟩ := h.cells k cs hk
    exact ⟨b, C, T, h1, heap_alloc_keep w o h2, h3⟩
  map k es ck hk := by
    obtain ⟨b, E, h1, h2, h3⟩ := h.map k es ck hk
    exact ⟨b, E, h1, heap_alloc_keep w o h2, h3⟩
  tok t ht := by
    obtain ⟨b, f, k, r, C, T, h1, h2, h3, h4⟩ := h.tok t ht
    exact ⟨b, f, k, r, C, T, h1, h2, heap_alloc_keep w o h3, h4⟩
  tinj := h.tinj
  shp := h.shpOf id (fun _ _ _ _ h => h) fun _ _ _ _ => shape_heap fun _ => heap_alloc_keep w o

theorem size_alloc (w : World) (o : Obj) : (w.alloc o).heap.size = w.heap.size + 1 := by simp

/-- A new block that may be written: cells. -/
theorem WR.pushF (h : WR G O w) {cs : List MV} {C : Array Value} (T : Fz C) (hc : VRs G cs (C.toList.take cs.length)) :
    G.Le { G with phi := upd G.phi O.next (some w.heap.size) } ∧ WR { G with phi := upd G.phi O.next (some w.heap.size) } (O.push (.cells cs)) (w.alloc (.cells C T.t T.fr)) := by
  have hle := Gh.Le.of_phi h.nextfree.1 w.heap.size
  have hg := h.grow (.cells C T.t T.fr)
  have hphi : ∀ k b, upd G.phi O.next (some w.heap.size) k = some b → (k = O.next ∧ b = w.heap.size) ∨ (k ≠ O.next ∧ G.phi k = some b) := fun k b hk => by
    by_cases e : k = O.next
    · subst e; rw [upd_same] at hk; injection hk with hk; exact .inl ⟨rfl, hk.symm⟩
    · rw [upd_other _ _ e] at hk; exact .inr ⟨e, hk⟩
  have hcomn : ∀ o, G.com w.heap.size o = none := fun o => by
    cases hh : G.com w.heap.size o with
    | none => rfl
    | some u => have := h.comlt hh; omega
  refine ⟨hle, hg.base, hg.com, fun k hk => ?_, fun k b hk => ?_, fun j k b lj lk hj hk => ?_, fun k ds hk => ?_, fun k es ck hk => ?_, fun t ht => ?_, fun s t b x y hs ht h1 h2 => ?_, h.shpOf hle.phi (upd_shape (by simp)) fun _ _ _ _ => shape_heap fun _ => heap_alloc_keep w _⟩
  · have hk : O.next + 1 ≤ k := hk
    obtain ⟨h1, h2, h3⟩ := h.dom k (by omega)
    exact ⟨by show upd _ _ _ _ = _; rw [upd_other _ _ (by omega)]; exact h1, h2, by show upd _ _ _ _ = _; rw [upd_other _ _ (by omega)]; exact h3⟩
  · rcases hphi k b hk with ⟨_, rfl⟩ | ⟨hk1, hk⟩
    · exact ⟨h.bsz, by simp, fun _ => hcomn⟩
    · obtain ⟨p1, p2, p3⟩ := hg.plt k b hk
      exact ⟨p1, p2, fun hne => p3 (by have hne : upd O.hp O.next (some (.cells cs)) k ≠ none := hne; rwa [upd_other _ _ hk1] at hne)⟩
  · rcases hphi j b hj with ⟨rfl, rfl⟩ | ⟨hj1, hj⟩ <;> rcases hphi k _ hk with ⟨rfl, hb⟩ | ⟨hk1, hk⟩
    · rfl
    · have := (h.plt _ _ hk).2.1; omega
    · subst hb; have := (h.plt _ _ hj).2.1; omega
    · exact h.inj j k b (by have lj : upd O.hp O.next (some (.cells cs)) j ≠ none := lj; rwa [upd_other _ _ hj1] at lj) (by have lk : upd O.hp O.next (some (.cells cs)) k ≠ none := lk; rwa [upd_other _ _ hk1] at lk) hj hk
  · have hk : upd O.hp O.next (some (.cells cs)) k = some (.cells ds) := hk
    by_cases e : k = O.next
    · subst e
      rw [upd_same] at hk
      injection hk with hk; injection hk with hk; subst hk
      refine ⟨w.heap.size, C, T, upd_same _ _ _, by rw [heap_alloc_eq, if_pos rfl], ?_⟩
      exact hc.mono hle
    · rw [upd_other _ _ e] at hk
      obtain ⟨b, D, T', h1, h2, h3⟩ := hg.cells k ds hk
      exact ⟨b, D, T', hle.phi h1, h2, h3.mono hle⟩
  · have hk : upd O.hp O.next (some (.cells cs)) k = some (.map es ck) := hk
    by_cases e : k = O.next
    · subst e; rw [upd_same] at hk; cases hk
    · rw [upd_other _ _ e] at hk
      obtain ⟨b, E, h1, h2, h3, h4, h5⟩ := hg.map k es ck hk
      exact ⟨b, E, hle.phi h1, h2, h3, h4.mono hle, h5.mono hle⟩
  · have ht : upd O.hp O.next (some (.cells cs)) t = some .tok := ht
    by_cases e : t = O.next
    · subst e; rw [upd_same] at ht; cases ht
    · rw [upd_other _ _ e] at ht
      obtain ⟨b, f, k, r, D, T', h1, h2, h3, h4, h6, h7⟩ := hg.tok t ht
      obtain ⟨_, _, _, _, _, _, h1', _, h3', _⟩ := h.tok t ht
      refine ⟨b, f, k, r, D, T', h1, h2, h3, h4, h6, fun j hj => ?_⟩
      rcases hphi j b hj with ⟨_, rfl⟩ | ⟨_, hj⟩
      · rw [h1] at h1'; injection h1' with e1; injection e1 with e1 _; subst e1
        have := lt_of_heap h3'; omega
      · exact h7 j hj
  · have hs : upd O.hp O.next (some (.cells cs)) s = some .tok := hs
    have ht : upd O.hp O.next (some (.cells cs)) t = some .tok := ht
    have es : s ≠ O.next := fun e => by subst e; rw [upd_same] at hs; cases hs
    have et : t ≠ O.next := fun e => by subst e; rw [upd_same] at ht; cases ht
    rw [upd_other _ _ es] at hs
    rw [upd_other _ _ et] at ht
    exact h.tinj s t b x y hs ht h1 h2

theorem WR.push (h : WR G O w) {cs : List MV} {C : Array Value} (T : TypeId) (hc : VRs G cs C.toList) :
    G.Le { G with phi := upd G.phi O.next (some w.heap.size) } ∧ WR { G with phi := upd G.phi O.next (some w.heap.size) } (O.push (.cells cs)) (w.alloc (.cells C T)) :=
  h.pushF ⟨T, (0, 0), .inl rfl⟩ (by rw [List.take_of_length_le (by rw [hc.1]; exact Nat.le_refl _)]; exact hc)

/-- Less is known of the heap: what is forgotten was there. -/
theorem WR.forget (h : WR G O w) {O' : VH} (hn : O.next ≤ O'.next) (hh : ∀ k, O'.hp k = none ∨ O'.hp k = O.hp k) : WR G O' w where
  base := h.base
  com := h.com
  dom k hk := by
    obtain ⟨h1, h2, h3⟩ := h.dom k (by omega)
    exact ⟨h1, h2, by rcases hh k with e | e <;> rw [e]; exact h3⟩
  plt k b hk := by
    obtain ⟨p1, p2, p3⟩ := h.plt k b hk
    exact ⟨p1, p2, fun hne => p3 (by rcases hh k with e | e; · exact absurd e hne
                                     · rwa [e] at hne)⟩
  inj j k b lj lk := h.inj j k b (fun e => (hh j).elim lj (fun e' => lj (e'.trans e))) (fun e => (hh k).elim lk (fun e' => lk (e'.trans e)))
  cells k cs hk := h.cells k cs (by rcases hh k with e | e <;> rw [e] at hk; · cases hk
                                    · exact hk)
  map k es ck hk := h.map k es ck (by rcases hh k with e | e <;> rw [e] at hk; · cases hk
                                      · exact hk)
  tok t ht := h.tok t (by rcases hh t with e | e <;> rw [e] at ht; · cases ht
                          · exact ht)
  tinj s t b x y hs ht h1 h2 := h.tinj s t b x y (by rcases hh s with e | e <;> rw [e] at hs; · cases hs
                                                     · exact hs) (by rcases hh t with e | e <;> rw [e] at ht; · cases ht
                                                                     · exact ht) h1 h2
  shp := h.shpOf id (fun j k t n hj => by rcases hh j with e | e <;> rw [e] at hj; · cases hj
                                          · exact hj) fun _ _ _ _ h => h
theorem WR.kill (h : WR G O w) (k : Nat) : WR G (O.kill k) w := h.forget (Nat.le_refl _) fun j => by
  show upd _ _ _ j = none ∨ upd _ _ _ j = _
  by_cases e : j = k
  · subst e; exact .inl (upd_same _ _ _)
  · exact .inr (upd_other _ _ e)

def comAdd (G : Gh) (b : Nat) (f : Nat → Option Value) : Gh := { G with com := fun b' o => if b' = b then f o else G.com b' o }
theorem comAdd_le {b : Nat} {f : Nat → Option Value} (h : ∀ o u, G.com b o = some u → f o = some u) : G.Le (comAdd G b f) :=
  ⟨rfl, id, fun {b' o u} hc => by
    show (if b' = b then f o else G.com b' o) = some u
    split
    · subst b'; exact h o u hc
    · exact hc, id⟩
theorem VRs.le {G H : Gh} (h : G.Le H) {cs : List MV} {us : List Value} (r : VRs G cs us) : VRs H cs us := r.mono h

/-- More cells that nobody writes any more: in a block in which no live block and no room behind a token lies. -/
theorem WR.commit (h : WR G O w) {b : Nat} {f : Nat → Option Value} (hold : ∀ o u, G.com b o = some u → f o = some u) (hcell : ∀ o u, f o = some u → w.cell? ⟨b, o, none⟩ = some u)
    (hphi : ∀ k, O.hp k ≠ none → G.phi k ≠ some b) (htok : ∀ t c x, O.hp t = some .tok → G.tok t = some (c, x) → c = b → ∀ o, x.1 ≤ o → f o = none) : G.Le (comAdd G b f) ∧ WR (comAdd G b f) O w := by
  have hle := comAdd_le (G := G) hold
  refine ⟨hle, h.base, fun b' o u hc => ?_, h.dom, fun k c hk => ?_, h.inj, fun k cs hk => ?_, fun k es ck hk => ?_, fun t ht => ?_, h.tinj, h.shpOf hle.phi (fun _ _ _ _ h => h) fun _ _ _ _ h => h⟩
  · have hc2 : (if b' = b then f o else G.com b' o) = some u := hc
    split at hc2
    · subst b'; exact hcell o u hc2
    · exact h.com b' o u hc2
  · obtain ⟨h1, h2, h3⟩ := h.plt k c hk
    refine ⟨h1, h2, fun hne o => ?_⟩
    show (if c = b then f o else G.com c o) = none
    rw [if_neg (fun e => hphi k hne (by rw [← e]; exact hk))]; exact h3 hne o
  · obtain ⟨c, C, T, h1, h2, h3⟩ := h.cells k cs hk
    exact ⟨c, C, T, h1, h2, h3.mono hle⟩
  · obtain ⟨c, E, h1, h2, h3, h4, h5⟩ := h.map k es ck hk
    exact ⟨c, E, h1, h2, h3, h4.mono hle, h5.mono hle⟩
  · obtain ⟨c, g, k, r, C, T, h1, h2, h3, h4, h6, h7⟩ := h.tok t ht
    refine ⟨c, g, k, r, C, T, h1, h2, h3, h4, fun o ho => ?_, h7⟩
    show (if c = b then f o else G.com c o) = none
    split
    · exact htok t c _ ht h1 ‹_› o ho
    · exact h6 o ho

theorem cell_new (w : World) (C : Array Value) (T : TypeId) (fr : Nat × Nat) (o : Nat) : (w.alloc (.cells C T fr)).cell? ⟨w.heap.size, o, none⟩ = C[o]? := by
  have : (w.alloc (.cells C T fr)).heap[w.heap.size]? = some (.cells C T fr) := by rw [heap_alloc_eq, if_pos rfl]
  simp only [World.cell?, this, Option.isSome_none, Bool.false_eq_true, if_false]
theorem WR.phi_ne_size (h : WR G O w) (k : Nat) : G.phi k ≠ some w.heap.size := fun e => by have := (h.plt k _ e).2.1; omega
theorem WR.com_size (h : WR G O w) (o : Nat) : G.com w.heap.size o = none := by
  cases hh : G.com w.heap.size o with
  | none => rfl
  | some u => have := h.comlt hh; omega
theorem WR.tok_ne_size (h : WR G O w) {t c : Nat} {x : Nat × Nat × Nat} (ht : O.hp t = some .tok) (hc : G.tok t = some (c, x)) : c ≠ w.heap.size := fun e => by
  obtain ⟨b, _, _, _, _, _, h1, _, h3, _⟩ := h.tok t ht
  rw [hc] at h1; injection h1 with h1; injection h1 with h1 _
  have := lt_of_heap h3
  omega

/-- A new block that nobody writes any more. -/
theorem WR.lit (h : WR G O w) (C : Array Value) (T : TypeId) : G.Le (comAdd G w.heap.size fun o => C[o]?) ∧ WR (comAdd G w.heap.size fun o => C[o]?) O (w.alloc (.cells C T)) :=
  (h.grow (.cells C T)).commit (fun o u hc => by rw [h.com_size] at hc; cases hc) (fun o u hf => by rw [cell_new]; exact hf) (fun k _ => h.phi_ne_size k)
    fun t c x ht hc e => absurd e (h.tok_ne_size ht hc)

/-- A token's room. -/
theorem WR.addTok (h : WR G O w) {b f k r : Nat} {C : Array Value} {T : TypeId} (hB : G.B ≤ b) (hb : w.heap[b]? = some (.cells C T (0, 0))) (hf : f + r * k ≤ C.size)
    (hcom : ∀ o, f ≤ o → G.com b o = none) (hphi : ∀ j, G.phi j ≠ some b) (htok : ∀ t c x, O.hp t = some .tok → G.tok t = some (c, x) → c ≠ b) :
    G.Le { G with tok := upd G.tok O.next (some (b, f, k, r)) } ∧ WR { G with tok := upd G.tok O.next (some (b, f, k, r)) } (O.push .tok) w := by
  have hle : G.Le { G with tok := upd G.tok O.next (some (b, f, k, r)) } := ⟨rfl, id, id, fun {t x} ht => by
    show upd G.tok O.next _ t = some x
    rw [upd_other _ _ (fun e => by subst e; rw [h.nextfree.2.1] at ht; cases ht)]; exact ht⟩
  have hhp : ∀ j x, upd O.hp O.next (some VObj.tok) j = some x → (j = O.next ∧ x = .tok) ∨ (j ≠ O.next ∧ O.hp j = some x) := fun j x hj => by
    by_cases e : j = O.next
    · subst e; rw [upd_same] at hj; injection hj with hj; exact .inl ⟨rfl, hj.symm⟩
    · rw [upd_other _ _ e] at hj; exact .inr ⟨e, hj⟩
  refine ⟨hle, h.base, h.com, fun j hj => ?_, fun j c hj => ?_, fun j k' c lj lk hj hk => ?_, fun j cs hj => ?_, fun j es ck hj => ?_, fun t ht => ?_, fun s t c x y hs ht h1 h2 => ?_, h.shpOf hle.phi (upd_shape (by simp)) fun _ _ _ _ h => h⟩
  · have hj : O.next + 1 ≤ j := hj
    obtain ⟨h1, h2, h3⟩ := h.dom j (by omega)
    exact ⟨h1, by show upd _ _ _ _ = _; rw [upd_other _ _ (by omega)]; exact h2, by show upd _ _ _ _ = _; rw [upd_other _ _ (by omega)]; exact h3⟩
  · obtain ⟨p1, p2, p3⟩ := h.plt j c hj
    refine ⟨p1, p2, fun hne => p3 ?_⟩
    have hne : upd O.hp O.next (some VObj.tok) j ≠ none := hne
    rwa [upd_other _ _ (fun e => by subst e; have hj : G.phi O.next = some c := hj; rw [h.nextfree.1] at hj; cases hj)] at hne
  · have hl : ∀ m, G.phi m = some c → upd O.hp O.next (some VObj.tok) m ≠ none → O.hp m ≠ none := fun m hm hn => by
      rwa [upd_other _ _ (fun e => by subst e; rw [h.nextfree.1] at hm; cases hm)] at hn
    exact h.inj j k' c (hl j hj lj) (hl k' hk lk) hj hk
  · rcases hhp j _ hj with ⟨_, e⟩ | ⟨_, hj⟩
    · cases e
    · obtain ⟨c, D, T', h1, h2, h3⟩ := h.cells j cs hj
      exact ⟨c, D, T', h1, h2, h3.mono hle⟩
  · rcases hhp j _ hj with ⟨_, e⟩ | ⟨_, hj⟩
    · cases e
    · obtain ⟨c, E, h1, h2, h3, h4, h5⟩ := h.map j es ck hj
      exact ⟨c, E, h1, h2, h3, h4.mono hle, h5.mono hle⟩
  · rcases hhp t _ ht with ⟨rfl, _⟩ | ⟨e, ht⟩
    · exact ⟨b, f, k, r, C, T, upd_same _ _ _, hB, hb, hf, hcom, hphi⟩
    · obtain ⟨c, g, k', r', D, T', h1, h2⟩ := h.tok t ht
      exact ⟨c, g, k', r', D, T', by show upd _ _ _ _ = _; rw [upd_other _ _ e]; exact h1, h2⟩
  · have h1 : upd G.tok O.next (some (b, f, k, r)) s = some (c, x) := h1
    have h2 : upd G.tok O.next (some (b, f, k, r)) t = some (c, y) := h2
    rcases hhp s _ hs with ⟨rfl, _⟩ | ⟨es, hs⟩ <;> rcases hhp t _ ht with ⟨rfl, _⟩ | ⟨et, ht⟩
    · rfl
    · rw [upd_same] at h1
      rw [upd_other _ _ et] at h2
      injection h1 with h1; injection h1 with h1 _; subst h1
      exact absurd rfl (htok t _ _ ht h2)
    · rw [upd_same] at h2
      rw [upd_other _ _ es] at h1
      injection h2 with h2; injection h2 with h2 _; subst h2
      exact absurd rfl (htok s _ _ hs h1)
    · rw [upd_other _ _ es] at h1
      rw [upd_other _ _ et] at h2
      exact h.tinj s t c x y hs ht h1 h2

/-- A store into a block that may be written. -/
theorem WR.store (h : WR G O w) {k i b : Nat} {cs : List MV} {c : MV} {u : Value} (hk : O.hp k = some (.cells cs)) (hp : G.phi k = some b) (hi : i < cs.length) (hc : VR G c u) :
    WR G (O.set k (.cells (cs.set i c))) (w.setCell ⟨b, i, none⟩ u) := by
  obtain ⟨b', C, T, h1, h2, h3⟩ := h.cells k cs hk
  rw [hp] at h1; injection h1 with h1; subst h1
  have hne : ∀ j b', j ≠ k → O.hp j ≠ none → G.phi j = some b' → b' ≠ b := fun j b' hj lj hb' e => hj (h.inj j k b lj (by rw [hk]; simp) (e ▸ hb') hp)
  have hlv : ∀ j, upd O.hp k (some (.cells (cs.set i c))) j ≠ none → O.hp j ≠ none := fun j hn => by
    by_cases e : j = k
    · subst e; rw [hk]; simp
    · rwa [upd_other _ _ e] at hn
  have hsame : (w.setCell ⟨b, i, none⟩ u).heap[b]? = some (.cells (C.setIfInBounds i u) T.t T.fr) := by
    simp [World.setCell, Array.getElem?_modify, h2]
  have hother : ∀ j, j ≠ b → (w.setCell ⟨b, i, none⟩ u).heap[j]? = w.heap[j]? := fun j hj => Below.heap_setCell _ _ _ _ (by simpa using hj)
  refine ⟨h.base.setCell (h.plt k b hp).1 u, fun b' o u' hc' => ?_, fun j hj => ?_, fun j b' hj => ?_, fun j k' b' lj lk => h.inj j k' b' (hlv j lj) (hlv k' lk), fun j ds hj => ?_, fun j es ck hj => ?_, fun t ht => ?_, fun s t b' x y hs ht => ?_, h.shpOf id (upd_shape (by simp)) fun j b' s _ hs => ?_⟩
  · have hbb : b' ≠ b := fun e => by subst e; rw [(h.plt k b' hp).2.2 (by rw [hk]; simp) o] at hc'; cases hc'
    rw [World.cell?_setCell_other _ _ _ _ (fun e => hbb (by injection e with e; exact e.symm))]
    exact h.com b' o u' hc'
  · obtain ⟨d1, d2, d3⟩ := h.dom j hj
    refine ⟨d1, d2, ?_⟩
    show upd _ _ _ _ = _
    rw [upd_other _ _ (fun e => by subst e; rw [d3] at hk; cases hk)]; exact d3
  · obtain ⟨p1, p2, p3⟩ := h.plt j b' hj
    refine ⟨p1, by simp [World.setCell]; exact p2, fun hne => p3 ?_⟩
    have hne : upd O.hp k (some (.cells (cs.set i c))) j ≠ none := hne
    by_cases e : j = k
    · subst e; rw [hk]; simp
    · rwa [upd_other _ _ e] at hne
  · have hj : upd O.hp k (some (.cells (cs.set i c))) j = some (.cells ds) := hj
    by_cases e : j = k
    · subst e
      rw [upd_same] at hj
      injection hj with hj; injection hj with hj; subst hj
      refine ⟨b, _, ⟨T.t, T.fr, by simpa using T.ok⟩, hp, hsame, ?_⟩
      have := h3.set (i := i) hc
      rw [Array.toList_setIfInBounds, List.length_set, List.take_set]
      exact this
    · rw [upd_other _ _ e] at hj
      obtain ⟨b', D, T', d1, d2, d3⟩ := h.cells j ds hj
      exact ⟨b', D, T', d1, by rw [hother _ (hne j b' e (by rw [hj]; simp) d1)]; exact d2, d3⟩
  · have hj : upd O.hp k (some (.cells (cs.set i c))) j = some (.map es ck) := hj
    by_cases e : j = k
    · subst e; rw [upd_same] at hj; cases hj
    · rw [upd_other _ _ e] at hj
      obtain ⟨b', E, d1, d2, d3⟩ := h.map j es ck hj
      exact ⟨b', E, d1, by rw [hother _ (hne j b' e (by rw [hj]; simp) d1)]; exact d2, d3⟩
  · have ht : upd O.hp k (some (.cells (cs.set i c))) t = some .tok := ht
    have e : t ≠ k := fun e => by subst e; rw [upd_same] at ht; cases ht
    rw [upd_other _ _ e] at ht
    obtain ⟨b', f, k', r, D, T', d1, d2, d3, d4, d6, d7⟩ := h.tok t ht
    exact ⟨b', f, k', r, D, T', d1, d2, by rw [hother _ (fun e => d7 k (by rw [e]; exact hp))]; exact d3, d4, d6, d7⟩
  · have hs : upd O.hp k (some (.cells (cs.set i c))) s = some .tok := hs
    have ht : upd O.hp k (some (.cells (cs.set i c))) t = some .tok := ht
    have e : t ≠ k := fun e => by subst e; rw [upd_same] at ht; cases ht
    have e' : s ≠ k := fun e => by subst e; rw [upd_same] at hs; cases hs
    rw [upd_other _ _ e] at ht
    rw [upd_other _ _ e'] at hs
    exact h.tinj s t b' x y hs ht
  · by_cases e : b' = b
    · subst e
      simp only [World.shape?, h2] at hs
      simp only [World.shape?, hsame, Array.size_setIfInBounds]
      exact hs
    · exact shape_heap (fun x hx => by rw [hother _ e]; exact hx) hs

/-- A row that may be written turns into one that nobody writes any more. -/
theorem WR.freeze (h : WR G O w) {k o n c sz : Nat} {cs : List MV} {u : Value} (hk : O.hp k = some (.cells cs)) (hx : VR G (.asl k o n c) u) (hl : o + sz ≤ cs.length) :
    ∃ H, G.Le H ∧ WR H (O.kill k) w ∧ VR H (.sl n ((cs.drop o).take sz) (if c = n then .full else .unk)) u := by
  cases hx with
  | asl hp hn hm =>
    rename_i b
    obtain ⟨b', C, T, h1, h2, h3⟩ := h.cells k cs hk
    rw [hp] at h1; injection h1 with h1; subst h1
    have hplt := (h.plt k b hp).2.2 (by rw [hk]; simp)
    obtain ⟨hle, hW⟩ := (h.kill k).commit (b := b) (f := fun o => C[o]?) (fun o u hc => by rw [hplt o] at hc; cases hc)
      (fun o u hf => by simp only [World.cell?, h2, Option.isSome_none, Bool.false_eq_true, if_false]; exact hf)
      (fun j hj hjb => by
        have lj : O.hp j ≠ none := fun e => by
          by_cases e2 : j = k
          · subst e2; exact hj (upd_same _ _ _)
          · exact hj ((upd_other _ _ e2).trans e)
        have : j = k := h.inj j k b lj (by rw [hk]; simp) hjb hp
        subst this
        exact hj (upd_same _ _ _))
      (fun t c' x ht hc' e => by
        subst e
        have ht' : O.hp t = some .tok := by
          have ht : upd O.hp k none t = some .tok := ht
          by_cases e : t = k
          · subst e; rw [upd_same] at ht; cases ht
          · rwa [upd_other _ _ e] at ht
        obtain ⟨_, _, _, _, _, _, d1, _, _, _, _, d7⟩ := h.tok t ht'
        rw [hc'] at d1; injection d1 with d1; injection d1 with d1 _; subst d1
        exact absurd hp (d7 k))
    refine ⟨_, hle, hW, ?_⟩
    have h4 : VRs G ((cs.drop o).take sz) (((C.toList.take cs.length).drop o).take sz) := (h3.drop o).take sz
    have h5 : ((C.toList.take cs.length).drop o).take sz = (C.toList.drop o).take sz := by
      rw [List.drop_take, List.take_take, Nat.min_eq_left (by omega)]
    rw [h5] at h4
    refine .sl h4.1 (fun i u hu => ?_) (fun i c u a b => (h4.2 i c u a b).mono hle) hn hm ?_
    · show (if b = b then C[o + i]? else _) = some u
      rw [if_pos rfl]
      rw [List.getElem?_take] at hu
      split at hu
      · rw [List.getElem?_drop] at hu; simpa using hu
      · cases hu
    · split
      · rename_i e; exact e
      · trivial
end
end Go.Proofs.YtjbpnhmjnkolbaaDoor
