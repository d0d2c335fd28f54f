import Derived.Below
import Derived.LoopN
import Derived.OrdersHeld
import Derived.Deep.Draws
import Derived.WalkKit
import Derived.WalkSpells
import Derived.KernelRfl
import Derived.Lib.Builder
import Derived.MapKept
import Derived.Scope
set_option linter.unusedVariables false
set_option linter.unusedSimpArgs false
namespace Go.Proofs.YtjpadehgejlebaaGreatDoor
open Go.RowKit
open _root_.List renaming getElem?_take → VI, getElem?_eq_some_iff → aeb, getElem?_eq_getElem → aec, getElem?_drop → aed, mapM_cons → ahX, eq_nil_of_length_eq_zero → ajw, map_cons → ajy, length_append → ajB, length_cons → ana, getElem?_toArray → anb, append_assoc → ani, getElem?_append_left → anj, all_eq_true → ank, getElem?_cons_zero → anl, getElem?_cons_succ → anm
open _root_.Nat renaming le_refl → agu, zero_le → ah0, zero_add → ajz, add_assoc → am_, lt_or_ge → anc
open _root_.And renaming intro → zW
open _root_.Option renaming map_eq_some_iff → Ml, bind_eq_some_iff → Mm, map_some → ahV, bind_eq_bind → ahW, isSome_none → ahY, bind_some → ajv
open _root_.Bool renaming and_eq_true → Mn, false_eq_true → ZA, or_eq_true → ann
open _root_.Array renaming ext' → aee, getElem?_eq_getElem → ahZ, getElem?_eq_none → ajx, length_toList → ajA, getElem?_setIfInBounds_ne → ame, getD_eq_getD_getElem? → ane, toList_setIfInBounds → anf, getElem?_append_left → ang, mapM_eq_mapM_toList → anh
inductive Tok where
 | nil | full | own (t k:Nat) | ar
 deriving DecidableEq
inductive MV where
 | v (x:Value)
 | str (l:List UInt8)
 | ptr (b off:Nat)
 | dG (cells:List MV) (off:Nat)
 | sl (n:Nat) (cells:List MV) (t:Tok)
 | bz (b off len cap:Nat)
 | map (b:Nat)
 | func (fn:Fn) (first captured:List MV)
 | iface (t:TypeId) (x:MV)
 | agg (cells:List MV)
 | tuple (vs:List MV)
structure Gh where
 w0:World
 bV:Nat->Option Nat
 eN:Nat->Nat->Option Value
 tok:Nat->Option (Nat×Nat×Nat×Nat)
abbrev Gh.B (G:Gh):Nat:=G.w0.heap.size
structure Gh.Le (G H:Gh):Prop where
 w0:H.w0=G.w0
 bV:∀{k b},G.bV k=some b->H.bV k=some b
 eN:∀{b o u},G.eN b o=some u->H.eN b o=some u
 tok:∀{t x},G.tok t=some x->H.tok t=some x
theorem Gh.Le.refl (G:Gh):G.Le G:=⟨rfl,id,id,id⟩
theorem Gh.Le.trans {G H K:Gh} (h:G.Le H) (k:H.Le K):G.Le K:=
 ⟨k.w0.trans h.w0,fun x=>k.bV (h.bV x),fun x=>k.eN (h.eN x),fun x=>k.tok (h.tok x)⟩
structure GP where
 p:Gh->Prop
 mono:∀{G H:Gh},G.Le H->p G->p H
inductive cf where
 | cells (cs:List MV)
 | map (es:List (MV×MV×Nat)) (clock:Nat)
 | tok
 | shape (k:Nat) (t:TypeId) (n:Nat)
 | obj (x:Obj)
 | fact (p:GP)
structure VH where
 N:Nat
 hp:Nat->Option cf
def bH {α :Type} (f:Nat->Option α) (k:Nat) (x:Option α):Nat->Option α :=fun j=>bif Nat.beq j k then x else f j
theorem aK {α :Type} (f:Nat->Option α) (k:Nat) (x:Option α):bH f k x k=x:=by simp[bH]
theorem ay {α :Type} (f:Nat->Option α) {k j:Nat} (x:Option α) (h:j≠k):bH f k x j=f j:=by
 have:j.beq k=false:=by rw[<-Bool.not_eq_true];intro e;exact h (Nat.eq_of_beq_eq_true e)
 simp[bH,this]
def VH.set (O:VH) (k:Nat) (x:cf):VH:={O with hp:=bH O.hp k (some x)}
def VH.push (O:VH) (x:cf):VH:=⟨O.N+1,bH O.hp O.N (some x)⟩
def VH.kill (O:VH) (k:Nat):VH:={O with hp:=bH O.hp k none}
def plain:Value->Bool
 | .bool _ | .int _ _ | .float _ _ | .complex _ _ _ | .pointer none | .map none | .chan none | .nilFunc | .nilIface=>true
 | _=>false
def Tok.ok (G:Gh):Tok->(b o n c sz:Nat)->Prop
 | .nil,_,_,_,_,_=>False
 | .full,_,_,n,c,_=>c=n
 | .own t k,b,o,n,c,sz=>c=n\/∃r,G.tok t=some (b,o+sz,k,r)/\sz=n*k/\c=n+r
 | .ar,_,_,_,_,_=>True
inductive VR (G:Gh):MV->Value->Prop
 | v {x:Value}:plain x=true->VR G (.v x) x
 | str {l:List UInt8}:VR G (.str l) (.string ⟨⟨l⟩⟩)
 | ptr {k o b:Nat}:G.bV k=some b->VR G (.ptr k o) (.pointer (some ⟨b,o,none⟩))
 | dG {cells:List MV} {us:List Value} {off b o:Nat}:us.length=cells.length->(∀(i:Nat) (u:Value),us[i]?=some u->G.eN b (o+i)=some u)->
   (∀(i:Nat) (c:MV) (u:Value),cells[i]?=some c->us[i]?=some u->VR G c u)->VR G (.dG cells off) (.pointer (some ⟨b,o+off,none⟩))
 | slnil:VR G (.sl 0 [] .nil) (.slice none 0 0)
 | px {a:Addr} {c:Nat}:c<=maxLen->VR G (.sl 0 [] .ar) (.slice (some a) 0 c)
 | kQ:VR G (.sl 0 [] .ar) (.slice none 0 0)
 | sl {cells:List MV} {us:List Value} {n c b o:Nat} {t:Tok}:us.length=cells.length->(∀(i:Nat) (u:Value),us[i]?=some u->G.eN b (o+i)=some u)->
   (∀(i:Nat) (c:MV) (u:Value),cells[i]?=some c->us[i]?=some u->VR G c u)->n<=c->c<=maxLen->t.ok G b o n c cells.length->VR G (.sl n cells t) (.slice (some ⟨b,o,none⟩) n c)
 | bz {k o n c b:Nat}:G.bV k=some b->n<=c->c<=maxLen->VR G (.bz k o n c) (.slice (some ⟨b,o,none⟩) n c)
 | map {k b:Nat}:G.bV k=some b->VR G (.map k) (.map (some b))
 | func {fn:Fn} {fs cs:List MV} {us vs:List Value}:us.length=fs.length->(∀(i:Nat) (c:MV) (u:Value),fs[i]?=some c->us[i]?=some u->VR G c u)->
   vs.length=cs.length->(∀(i:Nat) (c:MV) (u:Value),cs[i]?=some c->vs[i]?=some u->VR G c u)->VR G (.func fn fs cs) (.func fn us.toArray vs.toArray)
 | iface {t:TypeId} {x:MV} {u:Value}:VR G x u->VR G (.iface t x) (.iface t u)
 | agg {cs:List MV} {us:List Value}:us.length=cs.length->(∀(i:Nat) (c:MV) (u:Value),cs[i]?=some c->us[i]?=some u->VR G c u)->VR G (.agg cs) (.agg us.toArray)
 | tuple {cs:List MV} {us:List Value}:us.length=cs.length->(∀(i:Nat) (c:MV) (u:Value),cs[i]?=some c->us[i]?=some u->VR G c u)->VR G (.tuple cs) (.tuple us.toArray)
def aS (G:Gh) (cs:List MV) (us:List Value):Prop:=us.length=cs.length/\∀(i:Nat) (c:MV) (u:Value),cs[i]?=some c->us[i]?=some u->VR G c u
theorem VR.mono {G H:Gh} (h:G.Le H) {m:MV} {u:Value} (r:VR G m u):VR H m u:=by
 induction r with
 | v h1=>exact .v h1
 | str=>exact .str
 | ptr h1=>exact .ptr (h.bV h1)
 | dG h1 h2 h3 ih=>exact .dG h1 (fun i u hu=>h.eN (h2 i u hu)) (fun i c u h4 h5=>ih i c u h4 h5)
 | slnil=>exact .slnil
 | px h1=>exact .px h1
 | kQ=>exact .kQ
 | sl h1 h2 h3 h4 h5 h6 ih=>
   refine .sl h1 (fun i u hu=>h.eN (h2 i u hu)) (fun i c u h7 h8=>ih i c u h7 h8) h4 h5 ?_;rename_i t;cases t with
   | nil=>exact h6
   | full=>exact h6
   | own t k=>
     rcases h6 with h6 | ⟨r,h7,h8⟩
     ·exact .inl h6
     ·exact .inr ⟨r,h.tok h7,h8⟩
   | ar=>trivial
 | bz h1 h2 h3=>exact .bz (h.bV h1) h2 h3
 | map h1=>exact .map (h.bV h1)
 | func h1 h2 h3 h4 ih1 ih2=>exact .func h1 (fun i c u a b=>ih1 i c u a b) h3 (fun i c u a b=>ih2 i c u a b)
 | iface h1 ih=>exact .iface ih
 | agg h1 h2 ih=>exact .agg h1 fun i c u a b=>ih i c u a b
 | tuple h1 h2 ih=>exact .tuple h1 fun i c u a b=>ih i c u a b
theorem aS.mono {G H:Gh} (h:G.Le H) {cs:List MV} {us:List Value} (r:aS G cs us):aS H cs us:=⟨r.1,fun i c u a b=>(r.2 i c u a b).mono h⟩
theorem aS.nil {G:Gh}:aS G [] []:=⟨rfl,fun i c u h=>by simp at h⟩
theorem aS.cons {G:Gh} {c:MV} {u:Value} {cs:List MV} {us:List Value} (h:VR G c u) (k:aS G cs us):aS G (c::cs) (u::us):=
 ⟨by simp[k.1],fun i c' u' a b=>by
  cases i with
  | zero=>simp only[anl,Option.some.injEq]at a b;subst a;subst b;exact h
  | succ i=>simp only[anm]at a b;exact k.2 i c' u' a b⟩
theorem aS.head {G:Gh} {c:MV} {u:Value} {cs:List MV} {us:List Value} (h:aS G (c::cs) (u::us)):VR G c u:=h.2 0 c u rfl rfl
theorem aS.tail {G:Gh} {c:MV} {u:Value} {cs:List MV} {us:List Value} (h:aS G (c::cs) (u::us)):aS G cs us:=⟨by have:=h.1;simp at this;exact this,fun i c u a b=>h.2 (i+1) c u (by simpa using a) (by simpa using b)⟩
theorem aS.eW {G:Gh} {c:MV} {cs:List MV} {us:List Value} (h:aS G (c::cs) us):∃u VK,us=u::VK/\VR G c u/\aS G cs VK:=by
 cases us with
 | nil=>have:=h.1;simp at this
 | cons u us=>exact⟨u,us,rfl,h.head,h.tail⟩
theorem aS.iP {G:Gh} {us:List Value} (h:aS G [] us):us=[]:=ajw h.1
theorem aS.append {G:Gh} {cs ds:List MV} {us ts:List Value} (h:aS G cs us) (k:aS G ds ts):aS G (cs++ds) (us++ts):=
 ⟨by simp[h.1,k.1],fun i c u a b=>by
  rw[List.getElem?_append]at a b;rw[h.1]at b;split at a
  ·rw[if_pos ‹_›]at b;exact h.2 i c u a b
  ·rw[if_neg ‹_›]at b;exact k.2 _ c u a b⟩
theorem aS.drop {G:Gh} {cs:List MV} {us:List Value} (h:aS G cs us) (n:Nat):aS G (cs.drop n) (us.drop n):=
 ⟨by simp[h.1],fun i c u a b=>by rw[aed]at a b;exact h.2 _ c u a b⟩
theorem aS.take {G:Gh} {cs:List MV} {us:List Value} (h:aS G cs us) (n:Nat):aS G (cs.take n) (us.take n):=
 ⟨by simp[h.1],fun i c u a b=>by
  rw[VI]at a b;split at a
  ·rw[if_pos ‹_›]at b;exact h.2 i c u a b
  ·cases a⟩
theorem aS.get {G:Gh} {cs:List MV} {us:List Value} (h:aS G cs us) {i:Nat} {c:MV} (hc:cs[i]?=some c):∃u,us[i]?=some u/\VR G c u:=by
 have hl:i<us.length:=by rw[h.1];exact(aeb.1 hc).1
 exact⟨us[i],aec hl,h.2 i c _ hc (aec hl)⟩
theorem aS.set {G:Gh} {cs:List MV} {us:List Value} (h:aS G cs us) {i:Nat} {c:MV} {u:Value} (hc:VR G c u):aS G (cs.set i c) (us.set i u):=
 ⟨by simp[h.1],fun j c' u' a b=>by
  rw[List.getElem?_set]at a b;rw[h.1]at b;split at a
  ·rw[if_pos ‹_›]at b;split at a
   ·rw[if_pos ‹_›]at b;injection a with a;injection b with b;subst a;subst b;exact hc
   ·cases a
  ·rw[if_neg ‹_›]at b;exact h.2 j c' u' a b⟩
structure Fz (C:Array Value) where
 t:TypeId
 fr:Nat×Nat
 ok:fr.1=fr.2\/C.size<=fr.1
def QB:List Nat:=[0]
def Mk (w:World):Prop:=∀g∈QB,∃m,w.cell? ⟨g,0,none⟩=some (.int .i64 m)
structure WR (G:Gh) (O:VH) (w:World):Prop where
 base:Below G.B G.w0 w
 eN:∀b o u,G.eN b o=some u->w.cell? ⟨b,o,none⟩=some u
 ql:∀k,O.N<=k->G.bV k=none/\G.tok k=none/\O.hp k=none
 kH:∀k b,G.bV k=some b->G.B<=b/\b<w.heap.size/\(O.hp k≠none->∀o,G.eN b o=none)
 inj:∀j k b,O.hp j≠none->O.hp k≠none->G.bV j=some b->G.bV k=some b->j=k
 cells:∀k cs,O.hp k=some (.cells cs)->∃b,∃C:Array Value,∃T:Fz C,G.bV k=some b/\w.heap[b]?=some (.cells C T.t T.fr)/\aS G cs (C.toList.take cs.length)
 map:∀k es ck,O.hp k=some (.map es ck)->∃b E,G.bV k=some b/\w.heap[b]?=some (.map E ck)/\E.toList.map (·.born)=es.map (·.2.2)/\aS G (es.map (·.1)) (E.toList.map (·.key))/\aS G (es.map (·.2.1)) (E.toList.map (·.val))
 tok:∀t,O.hp t=some .tok->∃b f k r C T,G.tok t=some (b,f,k,r)/\G.B<=b/\w.heap[b]?=some (.cells C T (0,0))/\f+r*k<=C.size/\(∀o,f<=o->G.eN b o=none)/\∀j,G.bV j≠some b
 me:∀s t b x y,O.hp s=some .tok->O.hp t=some .tok->G.tok s=some (b,x)->G.tok t=some (b,y)->s=t
 oV:∀j k t n,O.hp j=some (.shape k t n)->∃b,G.bV k=some b/\w.shape? b=some (t,n)
 obj:∀k x,O.hp k=some (.obj x)->∃b,G.bV k=some b/\w.heap[b]?=some x
 rA:Mk G.w0
 B0:∀k p,O.hp k=some (.fact p)->p.p G
section
variable {G:Gh} {O:VH} {w:World}
theorem WR.ZB (h:WR G O w) {b o:Nat} {u:Value} (hc:G.eN b o=some u):b<w.heap.size:=World.block_lt_of_cell? w _ (h.eN b o u hc)
theorem WR.ng (h:WR G O w):G.bV O.N=none/\G.tok O.N=none/\O.hp O.N=none:=h.ql _ (agu _)
theorem WR.py {G':Gh} {O':VH} {w':World} (h:WR G O w) (hl:∀{k b},G.bV k=some b->G'.bV k=some b) (hO:∀j k t n,O'.hp j=some (.shape k t n)->O.hp j=some (.shape k t n)) (hw:∀k b s,G.bV k=some b->w.shape? b=some s->w'.shape? b=some s):
  ∀j k t n,O'.hp j=some (.shape k t n)->∃b,G'.bV k=some b/\w'.shape? b=some (t,n):=fun j k t n hj=>by
 obtain⟨b,h1,h2⟩:=h.oV j k t n (hO j k t n hj);exact⟨b,hl h1,hw k b _ h1 h2⟩
theorem mU {f:Nat->Option cf} {q:Nat} {X:cf} (hX:∀k t n,X≠ .shape k t n) (j k t n:Nat) (h:bH f q (some X) j=some (.shape k t n)):f j=some (.shape k t n):=by
 by_cases e:j=q
 ·subst e;rw[aK]at h;injection h with h;exact absurd h (hX _ _ _)
 ·rwa [ay _ _ e]at h
theorem WR.r5 {G':Gh} {O':VH} {w':World} (h:WR G O w) (hl:∀{k b},G.bV k=some b->G'.bV k=some b) (hO:∀k x,O'.hp k=some (.obj x)->O.hp k=some (.obj x)) (hw:∀k x b,O.hp k=some (.obj x)->G.bV k=some b->w.heap[b]?=some x->w'.heap[b]?=some x):
  ∀k x,O'.hp k=some (.obj x)->∃b,G'.bV k=some b/\w'.heap[b]?=some x:=fun k x hk=>by
 obtain⟨b,h1,h2⟩:=h.obj k x (hO k x hk);exact⟨b,hl h1,hw k x b (hO k x hk) h1 h2⟩
theorem vy {f:Nat->Option cf} {q:Nat} {X:cf} (hX:∀x,X≠ .obj x) (j:Nat) (x:Obj) (h:bH f q (some X) j=some (.obj x)):f j=some (.obj x):=by
 by_cases e:j=q
 ·subst e;rw[aK]at h;injection h with h;exact absurd h (hX _)
 ·rwa [ay _ _ e]at h
theorem WR.r6 {G':Gh} {O':VH} (h:WR G O w) (hl:G.Le G') (hO:∀k p,O'.hp k=some (.fact p)->O.hp k=some (.fact p)):∀k p,O'.hp k=some (.fact p)->p.p G':=fun k p hk=>p.mono hl (h.B0 k p (hO k p hk))
theorem nh {f:Nat->Option cf} {q:Nat} {X:cf} (hX:∀x,X≠ .fact x) (j:Nat) (x:GP) (h:bH f q (some X) j=some (.fact x)):f j=some (.fact x):=by
 by_cases e:j=q
 ·subst e;rw[aK]at h;injection h with h;exact absurd h (hX _)
 ·rwa [ay _ _ e]at h
theorem iQ {w w':World} {b:Nat} {s:TypeId×Nat} (hh:∀x,w.heap[b]?=some x->w'.heap[b]?=some x) (h:w.shape? b=some s):w'.shape? b=some s:=by
 unfold World.shape? at h ⊢;generalize hx:w.heap[b]?=x at h;cases x with
 | none=>cases h
 | some x=>rw[hh x hx];exact h
theorem WR.drew (h:WR G O w):WR G O w.drew:=⟨h.base.drew,h.eN,h.ql,h.kH,h.inj,h.cells,h.map,h.tok,h.me,h.oV,h.obj,h.rA,h.B0⟩
theorem WR.drawn (h:WR G O w) (n:Nat):WR G O {w with drawn:=n}:=
 ⟨⟨h.base.os,h.base.tape,h.base.output,h.base.size,h.base.block⟩,h.eN,h.ql,h.kH,h.inj,h.cells,h.map,h.tok,h.me,h.oV,h.obj,h.rA,h.B0⟩
theorem WR.ZC (h:WR G O w):G.B<=w.heap.size:=h.base.size
theorem WR.ajC (h:WR G O w) {g:Nat} (hg:g∈QB):∃m,w.cell? ⟨g,0,none⟩=some (.int .i64 m):=by
 obtain⟨m,hm⟩:=h.rA g hg;refine⟨m,?_⟩;have hb:=h.base.block g (World.block_lt_of_cell? _ _ hm);unfold World.cell? at hm ⊢;rw[hb];exact hm
theorem Gh.Le.J7 {k:Nat} (h:G.bV k=none) (b:Nat):G.Le {G with bV:=bH G.bV k (some b)}:=
 ⟨rfl,fun{j b'} hj=>by
  show bH G.bV k (some b) j=some b';rw[ay _ _ (fun e=>by subst e;rw[h]at hj;cases hj)];exact hj,id,id⟩
theorem fG (w:World) (o:Obj) (b:Nat):(w.alloc o).heap[b]?=if b=w.heap.size then some o else w.heap[b]?:=by
 show(w.heap.push o)[b]?=_;rw[Array.getElem?_push]
theorem dV (w:World) (o:Obj) {b:Nat} {x:Obj} (h:w.heap[b]?=some x):(w.alloc o).heap[b]?=some x:=by
 rw[fG,if_neg (fun e=>by subst e;rw[ajx (agu _)]at h;cases h)];exact h
theorem rH {w:World} {b:Nat} {x:Obj} (h:w.heap[b]?=some x):b<w.heap.size:=(Array.getElem?_eq_some_iff.1 h).1
theorem B1 (w:World) (o:Obj) {a:Addr} {u:Value} (h:w.cell? a=some u):(w.alloc o).cell? a=some u:=by
 rw[World.cell?_alloc_lt w o a (World.block_lt_of_cell? w a h)];exact h
theorem WR.grow (h:WR G O w) (o:Obj):WR G O (w.alloc o) where
 base:=h.base.alloc h.ZC o
 eN b p u hc:=B1 w o (h.eN b p u hc)
 ql:=h.ql
 kH k b hk:=by
  obtain⟨h1,h2,h3⟩:=h.kH k b hk;exact⟨h1,by simp;omega,h3⟩
 inj:=h.inj
 cells k cs hk:=by
  obtain⟨b,C,T,h1,h2,h3⟩:=h.cells k cs hk;exact⟨b,C,T,h1,dV w o h2,h3⟩
 map k es ck hk:=by
  obtain⟨b,E,h1,h2,h3⟩:=h.map k es ck hk;exact⟨b,E,h1,dV w o h2,h3⟩
 tok t ht:=by
  obtain⟨b,f,k,r,C,T,h1,h2,h3,h4⟩:=h.tok t ht;exact⟨b,f,k,r,C,T,h1,h2,dV w o h3,h4⟩
 me:=h.me
 oV:=h.py id (fun _ _ _ _ h=>h) fun _ _ _ _=>iQ fun _=>dV w o
 obj:=h.r5 id (fun _ _ h=>h) fun _ _ _ _ _=>dV w o
 rA:=h.rA
 B0:=h.B0
theorem size_alloc (w:World) (o:Obj):(w.alloc o).heap.size=w.heap.size+1:=by simp
theorem WR.ZD (h:WR G O w) {cs:List MV} {C:Array Value} (T:Fz C) (hc:aS G cs (C.toList.take cs.length)):
  G.Le {G with bV:=bH G.bV O.N (some w.heap.size)}/\WR {G with bV:=bH G.bV O.N (some w.heap.size)} (O.push (.cells cs)) (w.alloc (.cells C T.t T.fr)):=by
 have hle:=Gh.Le.J7 h.ng.1 w.heap.size;have hg:=h.grow (.cells C T.t T.fr)
 have eS:∀k b,bH G.bV O.N (some w.heap.size) k=some b->(k=O.N/\b=w.heap.size)\/(k≠O.N/\G.bV k=some b):=fun k b hk=>by
  by_cases e:k=O.N
  ·subst e;rw[aK]at hk;injection hk with hk;exact .inl ⟨rfl,hk.symm⟩
  ·rw[ay _ _ e]at hk;exact .inr ⟨e,hk⟩
 have QC:∀o,G.eN w.heap.size o=none:=fun o=>by
  cases hh:G.eN w.heap.size o with
  | none=>rfl
  | some u=>have:=h.ZB hh;omega
 refine⟨hle,hg.base,hg.eN,fun k hk=>?_,fun k b hk=>?_,fun j k b lj lk hj hk=>?_,fun k ds hk=>?_,fun k es ck hk=>?_,fun t ht=>?_,fun s t b x y hs ht h1 h2=>?_,h.py hle.bV (mU (by simp)) fun _ _ _ _=>iQ fun _=>dV w _,h.r5 hle.bV (vy (by simp)) fun _ _ _ _ _=>dV w _,h.rA,h.r6 hle (nh (by simp))⟩
 ·have hk:O.N+1<=k:=hk;obtain⟨h1,h2,h3⟩:=h.ql k (by omega);exact⟨by show bH _ _ _ _=_;rw[ay _ _ (by omega)];exact h1,h2,by show bH _ _ _ _=_;rw[ay _ _ (by omega)];exact h3⟩
 ·rcases eS k b hk with⟨_,rfl⟩ | ⟨cA,hk⟩
  ·exact⟨h.ZC,by simp,fun _=>QC⟩
  ·obtain⟨p1,p2,p3⟩:=hg.kH k b hk;exact⟨p1,p2,fun hne=>p3 (by have hne:bH O.hp O.N (some (.cells cs)) k≠none:=hne;rwa [ay _ _ cA]at hne)⟩
 ·rcases eS j b hj with⟨rfl,rfl⟩ | ⟨cB,hj⟩<;>rcases eS k _ hk with⟨rfl,hb⟩ | ⟨cA,hk⟩
  ·rfl
  ·have:=(h.kH _ _ hk).2.1;omega
  ·subst hb;have:=(h.kH _ _ hj).2.1;omega
  ·exact h.inj j k b (by have lj:bH O.hp O.N (some (.cells cs)) j≠none:=lj;rwa [ay _ _ cB]at lj) (by have lk:bH O.hp O.N (some (.cells cs)) k≠none:=lk;rwa [ay _ _ cA]at lk) hj hk
 ·have hk:bH O.hp O.N (some (.cells cs)) k=some (.cells ds):=hk;by_cases e:k=O.N
  ·subst e;rw[aK]at hk;injection hk with hk;injection hk with hk;subst hk
   refine⟨w.heap.size,C,T,aK _ _ _,by rw[fG,if_pos rfl],?_⟩;exact hc.mono hle
  ·rw[ay _ _ e]at hk;obtain⟨b,D,T',h1,h2,h3⟩:=hg.cells k ds hk;exact⟨b,D,T',hle.bV h1,h2,h3.mono hle⟩
 ·have hk:bH O.hp O.N (some (.cells cs)) k=some (.map es ck):=hk;by_cases e:k=O.N
  ·subst e;rw[aK]at hk;cases hk
  ·rw[ay _ _ e]at hk;obtain⟨b,E,h1,h2,h3,h4,h5⟩:=hg.map k es ck hk;exact⟨b,E,hle.bV h1,h2,h3,h4.mono hle,h5.mono hle⟩
 ·have ht:bH O.hp O.N (some (.cells cs)) t=some .tok:=ht;by_cases e:t=O.N
  ·subst e;rw[aK]at ht;cases ht
  ·rw[ay _ _ e]at ht;obtain⟨b,f,k,r,D,T',h1,h2,h3,h4,h6,h7⟩:=hg.tok t ht;obtain⟨_,_,_,_,_,_,ZE,_,ZF,_⟩:=h.tok t ht;refine⟨b,f,k,r,D,T',h1,h2,h3,h4,h6,fun j hj=>?_⟩;rcases eS j b hj with⟨_,rfl⟩ | ⟨_,hj⟩
   ·rw[h1]at ZE;injection ZE with e1;injection e1 with e1 _;subst e1
    have:=rH ZF;omega
   ·exact h7 j hj
 ·have hs:bH O.hp O.N (some (.cells cs)) s=some .tok:=hs;have ht:bH O.hp O.N (some (.cells cs)) t=some .tok:=ht;have es:s≠O.N:=fun e=>by subst e;rw[aK]at hs;cases hs
  have et:t≠O.N:=fun e=>by subst e;rw[aK]at ht;cases ht
  rw[ay _ _ es]at hs;rw[ay _ _ et]at ht;exact h.me s t b x y hs ht h1 h2
theorem WR.push (h:WR G O w) {cs:List MV} {C:Array Value} (T:TypeId) (hc:aS G cs C.toList):
  G.Le {G with bV:=bH G.bV O.N (some w.heap.size)}/\WR {G with bV:=bH G.bV O.N (some w.heap.size)} (O.push (.cells cs)) (w.alloc (.cells C T)):=
 h.ZD ⟨T,(0,0),.inl rfl⟩ (by rw[List.take_of_length_le (by rw[hc.1];exact agu _)];exact hc)
theorem WR.forget (h:WR G O w) {O':VH} (hn:O.N<=O'.N) (hh:∀k,O'.hp k=none\/O'.hp k=O.hp k):WR G O' w where
 base:=h.base
 eN:=h.eN
 ql k hk:=by
  obtain⟨h1,h2,h3⟩:=h.ql k (by omega);exact⟨h1,h2,by rcases hh k with e | e<;>rw[e];exact h3⟩
 kH k b hk:=by
  obtain⟨p1,p2,p3⟩:=h.kH k b hk
  exact⟨p1,p2,fun hne=>p3 (by rcases hh k with e | e; · exact absurd e hne
                              ·rwa [e]at hne)⟩
 inj j k b lj lk:=h.inj j k b (fun e=>(hh j).elim lj (fun e'=>lj (e'.trans e))) (fun e=>(hh k).elim lk (fun e'=>lk (e'.trans e)))
 cells k cs hk:=h.cells k cs (by rcases hh k with e | e<;>rw[e]at hk; · cases hk
                                 ·exact hk)
 map k es ck hk:=h.map k es ck (by rcases hh k with e | e<;>rw[e]at hk; · cases hk
                                   ·exact hk)
 tok t ht:=h.tok t (by rcases hh t with e | e<;>rw[e]at ht; · cases ht
                       ·exact ht)
 me s t b x y hs ht h1 h2:=h.me s t b x y (by rcases hh s with e | e<;>rw[e]at hs; · cases hs
                                              ·exact hs) (by rcases hh t with e | e<;>rw[e]at ht; · cases ht
                                                             ·exact ht) h1 h2
 oV:=h.py id (fun j k t n hj=>by rcases hh j with e | e<;>rw[e]at hj; · cases hj
                                 ·exact hj) fun _ _ _ _ h=>h
 obj:=h.r5 id (fun j x hj=>by rcases hh j with e | e<;>rw[e]at hj; · cases hj
                              ·exact hj) fun _ _ _ _ _ h=>h
 rA:=h.rA
 B0:=h.r6 (Gh.Le.refl _) fun j x hj=>by
  rcases hh j with e | e
  ·rw[e]at hj;cases hj
  ·rw[e]at hj;exact hj
theorem WR.kill (h:WR G O w) (k:Nat):WR G (O.kill k) w:=h.forget (agu _) fun j=>by
 show bH _ _ _ j=none\/bH _ _ _ j=_;by_cases e:j=k
 ·subst e;exact .inl (aK _ _ _)
 ·exact .inr (ay _ _ e)
def Af (G:Gh) (b:Nat) (f:Nat->Option Value):Gh:={G with eN:=fun b' o=>if b'=b then f o else G.eN b' o}
theorem QD {b:Nat} {f:Nat->Option Value} (h:∀o u,G.eN b o=some u->f o=some u):G.Le (Af G b f):=
 ⟨rfl,id,fun{b' o u} hc=>by
  show(if b'=b then f o else G.eN b' o)=some u;split
  ·subst b';exact h o u hc
  ·exact hc,id⟩
theorem WR.Ei (h:WR G O w) {b:Nat} {f:Nat->Option Value} (hold:∀o u,G.eN b o=some u->f o=some u) (k8:∀o u,f o=some u->w.cell? ⟨b,o,none⟩=some u)
  (eS:∀k,O.hp k≠none->G.bV k≠some b) (vz:∀t c x,O.hp t=some .tok->G.tok t=some (c,x)->c=b->∀o,x.1<=o->f o=none):G.Le (Af G b f)/\WR (Af G b f) O w:=by
 have hle:=QD (G:=G) hold;refine⟨hle,h.base,fun b' o u hc=>?_,h.ql,fun k c hk=>?_,h.inj,fun k cs hk=>?_,fun k es ck hk=>?_,fun t ht=>?_,h.me,h.py hle.bV (fun _ _ _ _ h=>h) fun _ _ _ _ h=>h,h.r5 hle.bV (fun _ _ h=>h) fun _ _ _ _ _ h=>h,h.rA,h.r6 hle fun _ _ h=>h⟩
 ·have iL:(if b'=b then f o else G.eN b' o)=some u:=hc;split at iL
  ·subst b';exact k8 o u iL
  ·exact h.eN b' o u iL
 ·obtain⟨h1,h2,h3⟩:=h.kH k c hk;refine⟨h1,h2,fun hne o=>?_⟩;show(if c=b then f o else G.eN c o)=none;rw[if_neg (fun e=>eS k hne (by rw[<-e];exact hk))];exact h3 hne o
 ·obtain⟨c,C,T,h1,h2,h3⟩:=h.cells k cs hk;exact⟨c,C,T,h1,h2,h3.mono hle⟩
 ·obtain⟨c,E,h1,h2,h3,h4,h5⟩:=h.map k es ck hk;exact⟨c,E,h1,h2,h3,h4.mono hle,h5.mono hle⟩
 ·obtain⟨c,g,k,r,C,T,h1,h2,h3,h4,h6,h7⟩:=h.tok t ht;refine⟨c,g,k,r,C,T,h1,h2,h3,h4,fun o ho=>?_,h7⟩;show(if c=b then f o else G.eN c o)=none;split
  ·exact vz t c _ ht h1 ‹_› o ho
  ·exact h6 o ho
theorem Im (w:World) (C:Array Value) (T:TypeId) (fr:Nat×Nat) (o:Nat):(w.alloc (.cells C T fr)).cell? ⟨w.heap.size,o,none⟩=C[o]?:=by
 have:(w.alloc (.cells C T fr)).heap[w.heap.size]?=some (.cells C T fr):=by rw[fG,if_pos rfl]
 simp only[World.cell?,this,ahY,ZA,if_false]
theorem WR.tJ (h:WR G O w) (k:Nat):G.bV k≠some w.heap.size:=fun e=>by have:=(h.kH k _ e).2.1;omega
theorem WR.xk (h:WR G O w) (o:Nat):G.eN w.heap.size o=none:=by
 cases hh:G.eN w.heap.size o with
 | none=>rfl
 | some u=>have:=h.ZB hh;omega
theorem WR.p6 (h:WR G O w) {t c:Nat} {x:Nat×Nat×Nat} (ht:O.hp t=some .tok) (hc:G.tok t=some (c,x)):c≠w.heap.size:=fun e=>by
 obtain⟨b,_,_,_,_,_,h1,_,h3,_⟩:=h.tok t ht;rw[hc]at h1;injection h1 with h1;injection h1 with h1 _
 have:=rH h3;omega
theorem WR.lit (h:WR G O w) (C:Array Value) (T:TypeId):G.Le (Af G w.heap.size fun o=>C[o]?)/\WR (Af G w.heap.size fun o=>C[o]?) O (w.alloc (.cells C T)):=
 (h.grow (.cells C T)).Ei (fun o u hc=>by rw[h.xk]at hc;cases hc) (fun o u hf=>by rw[Im];exact hf) (fun k _=>h.tJ k)
  fun t c x ht hc e=>absurd e (h.p6 ht hc)
theorem WR.TN (h:WR G O w) {b f k r:Nat} {C:Array Value} {T:TypeId} (hB:G.B<=b) (hb:w.heap[b]?=some (.cells C T (0,0))) (hf:f+r*k<=C.size)
  (Mo:∀o,f<=o->G.eN b o=none) (eS:∀j,G.bV j≠some b) (vz:∀t c x,O.hp t=some .tok->G.tok t=some (c,x)->c≠b):
  G.Le {G with tok:=bH G.tok O.N (some (b,f,k,r))}/\WR {G with tok:=bH G.tok O.N (some (b,f,k,r))} (O.push .tok) w:=by
 have hle:G.Le {G with tok:=bH G.tok O.N (some (b,f,k,r))}:=⟨rfl,id,id,fun{t x} ht=>by
  show bH G.tok O.N _ t=some x;rw[ay _ _ (fun e=>by subst e;rw[h.ng.2.1]at ht;cases ht)];exact ht⟩
 have oy:∀j x,bH O.hp O.N (some cf.tok) j=some x->(j=O.N/\x= .tok)\/(j≠O.N/\O.hp j=some x):=fun j x hj=>by
  by_cases e:j=O.N
  ·subst e;rw[aK]at hj;injection hj with hj;exact .inl ⟨rfl,hj.symm⟩
  ·rw[ay _ _ e]at hj;exact .inr ⟨e,hj⟩
 refine⟨hle,h.base,h.eN,fun j hj=>?_,fun j c hj=>?_,fun j k' c lj lk hj hk=>?_,fun j cs hj=>?_,fun j es ck hj=>?_,fun t ht=>?_,fun s t c x y hs ht h1 h2=>?_,h.py hle.bV (mU (by simp)) fun _ _ _ _ h=>h,h.r5 hle.bV (vy (by simp)) fun _ _ _ _ _ h=>h,h.rA,h.r6 hle (nh (by simp))⟩
 ·have hj:O.N+1<=j:=hj;obtain⟨h1,h2,h3⟩:=h.ql j (by omega);exact⟨h1,by show bH _ _ _ _=_;rw[ay _ _ (by omega)];exact h2,by show bH _ _ _ _=_;rw[ay _ _ (by omega)];exact h3⟩
 ·obtain⟨p1,p2,p3⟩:=h.kH j c hj;refine⟨p1,p2,fun hne=>p3 ?_⟩;have hne:bH O.hp O.N (some cf.tok) j≠none:=hne
  rwa [ay _ _ (fun e=>by subst e;have hj:G.bV O.N=some c:=hj;rw[h.ng.1]at hj;cases hj)]at hne
 ·have hl:∀m,G.bV m=some c->bH O.hp O.N (some cf.tok) m≠none->O.hp m≠none:=fun m hm hn=>by
   rwa [ay _ _ (fun e=>by subst e;rw[h.ng.1]at hm;cases hm)]at hn
  exact h.inj j k' c (hl j hj lj) (hl k' hk lk) hj hk
 ·rcases oy j _ hj with⟨_,e⟩ | ⟨_,hj⟩
  ·cases e
  ·obtain⟨c,D,T',h1,h2,h3⟩:=h.cells j cs hj;exact⟨c,D,T',h1,h2,h3.mono hle⟩
 ·rcases oy j _ hj with⟨_,e⟩ | ⟨_,hj⟩
  ·cases e
  ·obtain⟨c,E,h1,h2,h3,h4,h5⟩:=h.map j es ck hj;exact⟨c,E,h1,h2,h3,h4.mono hle,h5.mono hle⟩
 ·rcases oy t _ ht with⟨rfl,_⟩ | ⟨e,ht⟩
  ·exact⟨b,f,k,r,C,T,aK _ _ _,hB,hb,hf,Mo,eS⟩
  ·obtain⟨c,g,k',r',D,T',h1,h2⟩:=h.tok t ht;exact⟨c,g,k',r',D,T',by show bH _ _ _ _=_;rw[ay _ _ e];exact h1,h2⟩
 ·have h1:bH G.tok O.N (some (b,f,k,r)) s=some (c,x):=h1;have h2:bH G.tok O.N (some (b,f,k,r)) t=some (c,y):=h2;rcases oy s _ hs with⟨rfl,_⟩ | ⟨es,hs⟩<;>rcases oy t _ ht with⟨rfl,_⟩ | ⟨et,ht⟩
  ·rfl
  ·rw[aK]at h1;rw[ay _ _ et]at h2;injection h1 with h1;injection h1 with h1 _;subst h1
   exact absurd rfl (vz t _ _ ht h2)
  ·rw[aK]at h2;rw[ay _ _ es]at h1;injection h2 with h2;injection h2 with h2 _;subst h2
   exact absurd rfl (vz s _ _ hs h1)
  ·rw[ay _ _ es]at h1;rw[ay _ _ et]at h2;exact h.me s t c x y hs ht h1 h2
theorem WR.store (h:WR G O w) {k i b:Nat} {cs:List MV} {c:MV} {u:Value} (hk:O.hp k=some (.cells cs)) (hp:G.bV k=some b) (hi:i<cs.length) (hc:VR G c u):
  WR G (O.set k (.cells (cs.set i c))) (w.setCell ⟨b,i,none⟩ u):=by
 obtain⟨b',C,T,h1,h2,h3⟩:=h.cells k cs hk;rw[hp]at h1;injection h1 with h1;subst h1
 have hne:∀j b',j≠k->O.hp j≠none->G.bV j=some b'->b'≠b:=fun j b' hj lj lK e=>hj (h.inj j k b lj (by rw[hk];simp) (e▸lK) hp)
 have j6:∀j,bH O.hp k (some (.cells (cs.set i c))) j≠none->O.hp j≠none:=fun j hn=>by
  by_cases e:j=k
  ·subst e;rw[hk];simp
  ·rwa [ay _ _ e]at hn
 have nJ:(w.setCell ⟨b,i,none⟩ u).heap[b]?=some (.cells (C.setIfInBounds i u) T.t T.fr):=by
  simp[World.setCell,Array.getElem?_modify,h2]
 have eT:∀j,j≠b->(w.setCell ⟨b,i,none⟩ u).heap[j]?=w.heap[j]?:=fun j hj=>Below.heap_setCell _ _ _ _ (by simpa using hj)
 refine⟨h.base.setCell (h.kH k b hp).1 u,fun b' o u' pB=>?_,fun j hj=>?_,fun j b' hj=>?_,fun j k' b' lj lk=>h.inj j k' b' (j6 j lj) (j6 k' lk),fun j ds hj=>?_,fun j es ck hj=>?_,fun t ht=>?_,fun s t b' x y hs ht=>?_,h.py id (mU (by simp)) fun j b' s _ hs=>?_,h.r5 id (vy (by simp)) fun j x b' hj hb hx=>by rw[eT _ (hne j b' (fun e=>by subst e;rw[hk]at hj;cases hj) (by rw[hj];simp) hb)];exact hx,h.rA,h.r6 (Gh.Le.refl _) (nh (by simp))⟩
 ·have yZ:b'≠b:=fun e=>by subst e;rw[(h.kH k b' hp).2.2 (by rw[hk];simp) o]at pB;cases pB
  rw[World.cell?_setCell_other _ _ _ _ (fun e=>yZ (by injection e with e;exact e.symm))];exact h.eN b' o u' pB
 ·obtain⟨d1,d2,d3⟩:=h.ql j hj;refine⟨d1,d2,?_⟩;show bH _ _ _ _=_;rw[ay _ _ (fun e=>by subst e;rw[d3]at hk;cases hk)];exact d3
 ·obtain⟨p1,p2,p3⟩:=h.kH j b' hj;refine⟨p1,by simp[World.setCell];exact p2,fun hne=>p3 ?_⟩;have hne:bH O.hp k (some (.cells (cs.set i c))) j≠none:=hne;by_cases e:j=k
  ·subst e;rw[hk];simp
  ·rwa [ay _ _ e]at hne
 ·have hj:bH O.hp k (some (.cells (cs.set i c))) j=some (.cells ds):=hj;by_cases e:j=k
  ·subst e;rw[aK]at hj;injection hj with hj;injection hj with hj;subst hj
   refine⟨b,_,⟨T.t,T.fr,by simpa using T.ok⟩,hp,nJ,?_⟩;have:=h3.set (i:=i) hc;rw[anf,List.length_set,List.take_set];exact this
  ·rw[ay _ _ e]at hj;obtain⟨b',D,T',d1,d2,d3⟩:=h.cells j ds hj;exact⟨b',D,T',d1,by rw[eT _ (hne j b' e (by rw[hj];simp) d1)];exact d2,d3⟩
 ·have hj:bH O.hp k (some (.cells (cs.set i c))) j=some (.map es ck):=hj;by_cases e:j=k
  ·subst e;rw[aK]at hj;cases hj
  ·rw[ay _ _ e]at hj;obtain⟨b',E,d1,d2,d3⟩:=h.map j es ck hj;exact⟨b',E,d1,by rw[eT _ (hne j b' e (by rw[hj];simp) d1)];exact d2,d3⟩
 ·have ht:bH O.hp k (some (.cells (cs.set i c))) t=some .tok:=ht;have e:t≠k:=fun e=>by subst e;rw[aK]at ht;cases ht
  rw[ay _ _ e]at ht;obtain⟨b',f,k',r,D,T',d1,d2,d3,d4,d6,d7⟩:=h.tok t ht;exact⟨b',f,k',r,D,T',d1,d2,by rw[eT _ (fun e=>d7 k (by rw[e];exact hp))];exact d3,d4,d6,d7⟩
 ·have hs:bH O.hp k (some (.cells (cs.set i c))) s=some .tok:=hs;have ht:bH O.hp k (some (.cells (cs.set i c))) t=some .tok:=ht;have e:t≠k:=fun e=>by subst e;rw[aK]at ht;cases ht
  have e':s≠k:=fun e=>by subst e;rw[aK]at hs;cases hs
  rw[ay _ _ e]at ht;rw[ay _ _ e']at hs;exact h.me s t b' x y hs ht
 ·by_cases e:b'=b
  ·subst e;simp only[World.shape?,h2]at hs;simp only[World.shape?,nJ,Array.size_setIfInBounds];exact hs
  ·exact iQ (fun x hx=>by rw[eT _ e];exact hx) hs
theorem WR.freeze (h:WR G O w) {k o n c sz:Nat} {cs:List MV} {u:Value} (hk:O.hp k=some (.cells cs)) (hx:VR G (.bz k o n c) u) (hl:o+sz<=cs.length):
  ∃H,G.Le H/\WR H (O.kill k) w/\VR H (.sl n ((cs.drop o).take sz) (if c=n then .full else .ar)) u:=by
 cases hx with
 | bz hp hn hm=>
   rename_i b;obtain⟨b',C,T,h1,h2,h3⟩:=h.cells k cs hk;rw[hp]at h1;injection h1 with h1;subst h1
   have ajD:=(h.kH k b hp).2.2 (by rw[hk];simp)
   obtain⟨hle,hW⟩:=(h.kill k).Ei (b:=b) (f:=fun o=>C[o]?) (fun o u hc=>by rw[ajD o]at hc;cases hc)
    (fun o u hf=>by simp only[World.cell?,h2,ahY,ZA,if_false];exact hf)
    (fun j hj ZG=>by
     have lj:O.hp j≠none:=fun e=>by
      by_cases e2:j=k
      ·subst e2;exact hj (aK _ _ _)
      ·exact hj ((ay _ _ e2).trans e)
     have:j=k:=h.inj j k b lj (by rw[hk];simp) ZG hp;subst this;exact hj (aK _ _ _))
    (fun t c' x ht pB e=>by
     subst e
     have ht':O.hp t=some .tok:=by
      have ht:bH O.hp k none t=some .tok:=ht;by_cases e:t=k
      ·subst e;rw[aK]at ht;cases ht
      ·rwa [ay _ _ e]at ht
     obtain⟨_,_,_,_,_,_,d1,_,_,_,_,d7⟩:=h.tok t ht';rw[pB]at d1;injection d1 with d1;injection d1 with d1 _;subst d1
     exact absurd hp (d7 k))
   refine⟨_,hle,hW,?_⟩;have h4:aS G ((cs.drop o).take sz) (((C.toList.take cs.length).drop o).take sz):=(h3.drop o).take sz
   have h5:((C.toList.take cs.length).drop o).take sz=(C.toList.drop o).take sz:=by
    rw[List.drop_take,List.take_take,Nat.min_eq_left (by omega)]
   rw[h5]at h4;refine .sl h4.1 (fun i u hu=>?_) (fun i c u a b=>(h4.2 i c u a b).mono hle) hn hm ?_
   ·show(if b=b then C[o+i]? else _)=some u;rw[if_pos rfl];rw[VI]at hu;split at hu
    ·rw[aed]at hu;simpa using hu
    ·cases hu
   ·split
    ·rename_i e;exact e
    ·trivial
end
structure cM where
 under:TypeDesc
 size:Nat
 bytes:Nat
 zero:List MV
def eg:TypeDesc->Bool
 | .struct _ | .array _ _=>true
 | _=>false
structure yx (P:Program) (t:TypeId) (i:cM):Prop where
 under:P.underlying t=some i.under
 info:∃ti z,P.info? t=some ti/\ti.size=i.size/\ti.bytes=i.bytes/\ti.zero=some z/\z.cells.size=i.size/\∀G,aS G i.zero z.cells.toList
 whole:∀ti z,P.info? t=some ti->ti.zero=some z->(eg i.under=true->∃cs,z= .agg cs)/\(eg i.under=false->z.cells= #[z])
abbrev cg:=TypeId->Option cM
def aP (P:Program) (tab:cg):Prop:=∀t i,tab t=some i->yx P t i
def ofConst:Value->Option MV
 | .string s=>some (.str s.data.toList)
 | .slice none 0 0=>some (.sl 0 [] .nil)
 | x=>if plain x then some (.v x)else none
theorem CT {G:Gh} {x:Value} {m:MV} (h:ofConst x=some m):VR G m x:=by
 unfold ofConst at h;split at h
 ·injection h with h;subst h;rename_i s;obtain⟨⟨l⟩⟩:=s;exact .str
 ·injection h with h;subst h;exact .slnil
 ·split at h
  ·injection h with h;subst h;exact .v ‹_›
  ·cases h
abbrev Env:=List (Nat×MV)
def look:Env->Nat->Option MV
 | [],_=>none
 | (k,x)::r,t=>bif t==k then some x else look r t
def ev (e:Env):Operand->Option MV
 | .tmp t=>look e t
 | .const v=>ofConst v
 | .global _=>none
 | .func f=>some (.func (.func f) [] [])
structure Sz where
 n:Nat
 lo:Nat
def k9 (n:Sz):Env->Env
 | []=>[]
 | (t,m)::e=>bif decide (t<n.lo)then(t,m)::k9 n e else k9 n e
theorem y_ {n:Sz}:∀{e:Env} {t:Nat},look (k9 n e) t=if t<n.lo then look e t else none
 | [],t=>by simp[k9,look]
 | (k,m)::e,t=>by
   have ih:=y_ (n:=n) (e:=e) (t:=t);simp only[k9];by_cases hk:k<n.lo
   ·simp only[hk,decide_true,cond_true,look,ih];by_cases ht:t=k
    ·subst ht;simp[hk]
    ·have:(t==k)=false:=by simpa using ht
     simp[this]
   ·simp only[hk,decide_false,cond_false,look,ih];by_cases ht:t<n.lo
    ·have:(t==k)=false:=by simp;omega
     simp[this]
    ·simp[ht]
structure FR (G:Gh) (n:Sz) (D:List Deferred) (e:Env) (a:Act):Prop where
 defers:a.defers=D
 size:a.tmps.size=n.n
 get:∀t x,look e t=some x->∃u,a.tmps[t]?=some u/\VR G x u
section
variable {G H:Gh} {n:Sz} {D:List Deferred} {e:Env} {a:Act} {P:Program} {tab:cg} {O O':VH} {w:World} {m:MV}
theorem FR.mono (h:FR G n D e a) (hl:G.Le H):FR H n D e a:=⟨h.defers,h.size,fun t x hx=>by obtain⟨u,h1,h2⟩:=h.get t x hx;exact⟨u,h1,h2.mono hl⟩⟩
theorem FR.ev (h:FR G n D e a) {x:Operand} (hx:ev e x=some m):VR G m (a.eval x):=by
 cases x with
 | tmp t=>
   obtain⟨u,h1,h2⟩:=h.get t m hx
   have:a.eval (.tmp t)=u:=by
    show a.tmps.getD t undef=u;rw[ane,h1];rfl
   rw[this];exact h2
 | const v=>exact CT hx
 | global g=>cases hx
 | func f=>
   injection hx with hx;subst hx
   exact VR.func (us:=[]) (vs:=[]) rfl (fun i c u h=>by simp at h) rfl (fun i c u h=>by simp at h)
theorem FR.put (h:FR G n D e a) {d:Nat} {u:Value} (hd:d<n.n) (hu:VR G m u):FR G n D ((d,m)::e) (a.put (some d) u):=by
 refine⟨h.defers,by simp[Act.put,h.size],fun t x hx=>?_⟩;simp only[look]at hx;by_cases e':t=d
 ·subst e';simp only[beq_self_eq_true,cond_true,Option.some.injEq]at hx;subst hx;exact⟨u,by simp[Act.put,h.size,hd],hu⟩
 ·have:(t==d)=false:=by simpa using e'
  rw[this]at hx;obtain⟨u',h1,h2⟩:=h.get t x hx;refine⟨u',?_,h2⟩;simp only[Act.put];rw[ame (Ne.symm e')];exact h1
theorem FR.less (h:FR G n D e a) {e':Env} (hl:∀t x,look e' t=some x->look e t=some x):FR G n D e' a:=⟨h.defers,h.size,fun t x hx=>h.get t x (hl t x hx)⟩
def gh (e:Env) (l:List Operand):Option (List MV):=l.mapM (ev e)
theorem FR.gh (h:FR G n D e a):∀{l:List Operand} {ms:List MV},gh e l=some ms->aS G ms (l.map a.eval)
 | [],ms,hx=>by simp[Go.Proofs.YtjpadehgejlebaaGreatDoor.gh]at hx;subst hx;exact aS.nil
 | x::l,ms,hx=>by
   simp only[Go.Proofs.YtjpadehgejlebaaGreatDoor.gh,ahX,ahW,Mm]at hx;obtain⟨m,h1,ZH,h2,h3⟩:=hx;injection h3 with h3;subst h3
   exact aS.cons (h.ev h1) (FR.gh h h2)
def rI (op:BinOp) (k:IntKind) (a b:Int):Option MV:=
 match op with
 | .add=>some (.v (.int k (k.wrap (a+b))))
 | .sub=>some (.v (.int k (k.wrap (a - b))))
 | .mul=>some (.v (.int k (k.wrap (a*b))))
 | .quo=>if b=0 then none else some (.v (.int k (k.wrap (a.tdiv b))))
 | .rem=>if b=0 then none else some (.v (.int k (a.tmod b)))
 | .eql=>some (.v (.bool (a==b)))
 | .neq=>some (.v (.bool (a != b)))
 | .lss=>some (.v (.bool (decide (a<b))))
 | .leq=>some (.v (.bool (decide (a<=b))))
 | .gtr=>some (.v (.bool (decide (a>b))))
 | .geq=>some (.v (.bool (decide (a>=b))))
 | .and=>some (.v (.int k (k.wrap (BitVec.ofInt k.bits a&&& BitVec.ofInt k.bits b).toNat)))
 | .or=>some (.v (.int k (k.wrap (BitVec.ofInt k.bits a||| BitVec.ofInt k.bits b).toNat)))
 | .xor=>some (.v (.int k (k.wrap (BitVec.ofInt k.bits a ^^^ BitVec.ofInt k.bits b).toNat)))
 | _=>none
def Ag (op:BinOp) (k:IntKind) (a b:Int):Option MV:=
 if b<0 then none else
 match op with
 | .shl=>some (.v (.int k (k.wrap (a*2 ^ (min b.toNat k.bits)))))
 | .shr=>some (.v (.int k (a.fdiv (2 ^ (min b.toNat k.bits)))))
 | _=>none
def agv (op:BinOp) (a b:List UInt8):Option MV:=
 match op with
 | .add=>if a.length+b.length<=9223372036854775807 then some (.str (a++b))else none
 | .eql=>some (.v (.bool (a==b)))
 | .neq=>some (.v (.bool (!(a==b))))
 | .lss=>some (.v (.bool (Op.bytesLess a b)))
 | .leq=>some (.v (.bool (Op.bytesLess a b||a==b)))
 | .gtr=>some (.v (.bool (!(Op.bytesLess a b||a==b))))
 | .geq=>some (.v (.bool (!(Op.bytesLess a b))))
 | _=>none
def nK (tab:cg) (op:BinOp) (t:TypeId) (same:Bool):Option MV:=
 match((tab t).map cM.under:Option TypeDesc),op with
 | some (.pointer _),.eql=>some (.v (.bool same))
 | some (.pointer _),.neq=>some (.v (.bool (!same)))
 | _,_=>none
def dz (tab:cg) (op:BinOp) (t:TypeId) (x y:MV):Option MV:=
 match x,y with
 | .v (.int k a),.v (.int k' b)=>
   match op with
   | .shl=>Ag .shl k a b
   | .shr=>Ag .shr k a b
   | op=>if k=k' then rI op k a b else none
 | .v (.bool a),.v (.bool b)=>
   match((tab t).map cM.under:Option TypeDesc),op with
   | some .bool,.eql=>some (.v (.bool (a==b)))
   | some .bool,.neq=>some (.v (.bool (!(a==b))))
   | _,_=>none
 | .str a,.str b=>agv op a b
 | .v (.pointer none),.v (.pointer none)=>nK tab op t true
 | .ptr _ _,.v (.pointer none)=>nK tab op t false
 | .v (.pointer none),.ptr _ _=>nK tab op t false
 | .dG _ _,.v (.pointer none)=>nK tab op t false
 | .v (.pointer none),.dG _ _=>nK tab op t false
 | .ptr b o,.ptr b' o'=>if b=b'/\o=o' then(match((tab t).map cM.under:Option TypeDesc)with
   | some (.pointer el)=>match tab el with
     | some te=>if te.size=0 then none else nK tab op t true
     | none=>none
   | _=>none)else none
 | _,_=>none
theorem toList_mk (l:List UInt8):(⟨⟨l⟩⟩:ByteArray).toList=l:=by
 rw[ByteArray.toList_eq]
theorem run_equal_bool {t:TypeId} (h:P.underlying t=some .bool) (a b:Bool) (w:World):(Op.equal t (.bool a) (.bool b)).run P w= .ok (a==b) w:=by
 show(Op.equalIn (9999+1) t (.bool a) (.bool b)).run P w=_;generalize 9999=d;simp[Op.equalIn,run_underlying h]
def SS (G:Gh) (w:World):Prop:=∀b o u,G.eN b o=some u->w.cell? ⟨b,o,none⟩=some u
theorem WR.ss (h:WR G O w):SS G w:=h.eN
def bf (P:Program) (s:Sem Value) (G:Gh) (m:MV):Prop:=∃u,VR G m u/\∀w,SS G w->s.run P w= .ok u w
theorem bf.of {s:Sem Value} {u:Value} (hr:∀w,SS G w->s.run P w= .ok u w) (hu:VR G m u):bf P s G m:=⟨u,hu,hr⟩
theorem zb (ht:aP P tab) {t:TypeId} {d:TypeDesc} (h:(tab t).map cM.under=some d):P.underlying t=some d:=by
 obtain⟨i,hi,hu⟩:=Ml.1 h;rw[<-hu];exact(ht t i hi).under
theorem ZI {t:TypeId} {i:cM} (h:yx P t i) (w:World):(sizeOf t).run P w= .ok i.size w:=by
 obtain⟨ti,z,h1,h2,_⟩:=h.info;simp[sizeOf,typeInfo,h1,h2]
theorem sA (ht:aP P tab) {op:BinOp} {t:TypeId} {same:Bool} {p q:Option Addr} {xo yo:Operand} (h:nK tab op t same=some m)
  (heq:∀el,P.underlying t=some (.pointer el)->∀(w:World) (d:Nat),(Op.equalIn (d+1) t (.pointer p) (.pointer q)).run P w= .ok same w):bf P (do eqGuard op t xo yo (.pointer p) (.pointer q);binOp op t (.pointer p) (.pointer q)) G m:=by
 have hg:∀w,(eqGuard op t xo yo (.pointer p) (.pointer q)).run P w= .ok () w:=fun w=>by unfold eqGuard;split<;>simp
 unfold nK at h;split at h
 ·rename_i el hu;injection h with h;subst h
  refine bf.of (fun w _=>?_) (.v rfl);rw[Sem.run_bind,hg,Result.andThen_ok];have:=heq el (zb ht hu) w 9999;simp only[binOp,Op.equal,Op.maxDepth,Sem.run_bind,this,Result.andThen_ok,Sem.run_pure]
 ·rename_i el hu;injection h with h;subst h
  refine bf.of (fun w _=>?_) (.v rfl);rw[Sem.run_bind,hg,Result.andThen_ok];have:=heq el (zb ht hu) w 9999;simp only[binOp,Op.equal,Op.maxDepth,Sem.run_bind,this,Result.andThen_ok,Sem.run_pure]
 ·cases h
theorem ZJ (ht:aP P tab) {op:BinOp} {t:TypeId} {x y:MV} {u v:Value} {xo yo:Operand} (h:dz tab op t x y=some m) (hx:VR G x u) (hy:VR G y v):
  bf P (do eqGuard op t xo yo u v;binOp op t u v) G m:=by
 unfold dz at h;split at h
 ·rename_i k a k' b;cases hx;cases hy
  have hg:∀w,(eqGuard op t xo yo (.int k a) (.int k' b)).run P w= .ok () w:=fun w=>by unfold eqGuard;split<;>simp
  split at h
  ·unfold Ag at h;split at h
   ·cases h
   ·injection h with h;subst h
    exact bf.of (fun w _=>by rw[Sem.run_bind,hg,Result.andThen_ok];simp[binOp,Op.shift, *]) (.v rfl)
  ·unfold Ag at h;split at h
   ·cases h
   ·injection h with h;subst h
    exact bf.of (fun w _=>by rw[Sem.run_bind,hg,Result.andThen_ok];simp[binOp,Op.shift, *]) (.v rfl)
  ·rename_i h1 h2;split at h
   ·subst k'
    cases op<;>simp only[rI]at h<;>first
     | (exact absurd rfl h1)
     | (exact absurd rfl h2)
     | (cases h;done)
     | (injection h with h;subst h;exact bf.of (fun w _=>by rw[Sem.run_bind,hg,Result.andThen_ok];simp[binOp,Op.intArith,Op.intCmp,Op.intBits]) (.v rfl))
     | (split at h
        ·cases h
        ·injection h with h;subst h;exact bf.of (fun w _=>by rw[Sem.run_bind,hg,Result.andThen_ok];simp[binOp,Op.intDiv, *]) (.v rfl))
   ·cases h
 ·rename_i a b;cases hx;cases hy
  have hg:∀w,(eqGuard op t xo yo (.bool a) (.bool b)).run P w= .ok () w:=fun w=>by unfold eqGuard;split<;>simp
  split at h
  ·rename_i hu;obtain⟨i,hi,hu⟩:=Ml.1 hu;have:=(ht t i hi).under;rw[hu]at this;injection h with h;subst h
   exact bf.of (fun w _=>by rw[Sem.run_bind,hg,Result.andThen_ok];simp only[binOp,Sem.run_bind,run_equal_bool this,Result.andThen_ok,Sem.run_pure]) (.v rfl)
  ·rename_i hu;obtain⟨i,hi,hu⟩:=Ml.1 hu;have:=(ht t i hi).under;rw[hu]at this;injection h with h;subst h
   exact bf.of (fun w _=>by rw[Sem.run_bind,hg,Result.andThen_ok];simp only[binOp,Sem.run_bind,run_equal_bool this,Result.andThen_ok,Sem.run_pure]) (.v rfl)
  ·cases h
 ·rename_i a b;cases hx;rename_i e1;cases hy
  have hg:∀w,(eqGuard op t xo yo (.string ⟨⟨a⟩⟩) (.string ⟨⟨b⟩⟩)).run P w= .ok () w:=fun w=>by unfold eqGuard;split<;>simp
  cases op<;>simp only[agv]at h<;>first
   | (cases h;done)
   | (injection h with h;subst h;exact bf.of (fun w _=>by rw[Sem.run_bind,hg,Result.andThen_ok];simp[binOp,Op.stringOp,toList_mk]) (.v rfl))
   | (split at h
      ·injection h with h;subst h
       refine bf.of (u:=.string ⟨⟨a++b⟩⟩) (fun w _=>?_) .str;rw[Sem.run_bind,hg,Result.andThen_ok];have e:(⟨⟨a⟩⟩:ByteArray)++⟨⟨b⟩⟩=⟨⟨a++b⟩⟩:=ByteArray.ext (by simp)
       have hn:¬(((⟨⟨a⟩⟩:ByteArray).size+(⟨⟨b⟩⟩:ByteArray).size:Nat):Int)>IntKind.i64.max:=by
        show ¬((a.length+b.length:Nat):Int)>_;have:IntKind.i64.max=9223372036854775807:=by decide
        omega
       simp only[binOp,Op.stringOp,if_neg hn,e,Sem.run_pure]
      ·cases h)
 ·rename_i hx' hy';cases hx;cases hy
  exact sA ht h (fun el hu w d=>by simp[Op.equalIn,run_underlying hu])
 ·cases hx;cases hy
  exact sA ht h (fun el hu w d=>by simp[Op.equalIn,run_underlying hu])
 ·cases hx;cases hy
  exact sA ht h (fun el hu w d=>by simp[Op.equalIn,run_underlying hu])
 ·cases hx;cases hy
  exact sA ht h (fun el hu w d=>by simp[Op.equalIn,run_underlying hu])
 ·cases hx;cases hy
  exact sA ht h (fun el hu w d=>by simp[Op.equalIn,run_underlying hu])
 ·rename_i b o b' o';split at h
  ·rename_i hb;obtain⟨rfl,rfl⟩:=hb;cases hx with
   | ptr h1=>
     cases hy with
     | ptr h2=>
       rw[h1]at h2;injection h2 with h2;subst h2;split at h
       ·rename_i el hu;split at h
        ·rename_i te he;split at h
         ·cases h
         ·rename_i hz;refine sA ht h (fun el' ED w d=>?_);have c9:=zb ht hu;rw[ED]at c9;injection c9 with c9;injection c9 with c9;subst c9;simp[Op.equalIn,run_underlying ED,ZI (ht _ te he),hz,run_sameAddr_same]
        ·cases h
       ·cases h
  ·cases h
 ·cases h
def j7 (G:Gh) (w w':World):Prop:=∀k b,G.bV k=some b->w'.heap[b]?=w.heap[b]?
theorem j7.refl (G:Gh) (w:World):j7 G w w:=fun _ _ _=>rfl
theorem j7.alloc (h:WR G O w) (o:Obj):j7 G w (w.alloc o):=fun k b hk=>by
 have:=(h.kH k b hk).2.1;rw[fG,if_neg (by omega)]
def iz (P:Program) (s:Sem Value) (w:World) (G:Gh) (O':VH) (m:MV):Prop:=∃u w' H,s.run P w= .ok u w'/\Gh.Le G H/\WR H O' w'/\VR H m u/\j7 G w w'
def J8 (P:Program) (s:Sem Unit) (w:World) (G:Gh) (O':VH):Prop:=∃w' H,s.run P w= .ok () w'/\Gh.Le G H/\WR H O' w'
theorem iz.of {s:Sem Value} {u:Value} (h:WR G O w) (hr:s.run P w= .ok u w) (hu:VR G m u):iz P s w G O m:=⟨u,w,G,hr,Gh.Le.refl G,h,hu,j7.refl _ _⟩
def agw (P:Program) (s:Sem Value) (w:World) (G:Gh) (m:MV):Prop:=∃u,s.run P w= .ok u w/\VR G m u
theorem TO {t:TypeId} {i:cM} (h:yx P t i) (w:World):∃ti,(typeInfo t).run P w= .ok ti w/\ti.size=i.size/\ti.bytes=i.bytes:=by
 obtain⟨ti,z,h1,h2,h3,_⟩:=h.info;exact⟨ti,by simp[typeInfo,h1],h2,h3⟩
theorem fH {t:TypeId} {i:cM} (h:yx P t i) (w:World):(sizeOf t).run P w= .ok i.size w:=by
 obtain⟨ti,h1,h2,_⟩:=TO h w;rw[sizeOf,Sem.run_bind,h1,Result.andThen_ok,Sem.run_pure,h2]
theorem oW {t:TypeId} {i:cM} (h:yx P t i) (w:World):(isAgg t).run P w= .ok (eg i.under) w:=by
 rw[isAgg,Sem.run_bind,run_underlying h.under,Result.andThen_ok];cases i.under<;>rfl
theorem Io {t:TypeId} {i:cM} (h:yx P t i) (w:World):∃z,(zeroValue t).run P w= .ok z w/\z.cells.size=i.size/\∀G,aS G i.zero z.cells.toList:=by
 obtain⟨ti,z,h1,_,_,h4,h5,h6⟩:=h.info;exact⟨z,by simp[zeroValue,typeInfo,h1,h4],h5,h6⟩
def eh:MV->List MV
 | .agg cs=>cs
 | m=>[m]
def eb:MV->Bool
 | .agg _ | .tuple _=>false
 | _=>true
theorem zc {u:Value} (h:VR G m u):aS G (eh m) u.cells.toList:=by
 cases h with
 | agg h1 h2=>exact⟨h1,h2⟩
 | v h1=>
   have:u.cells= #[u]:=by cases u<;>first | rfl | (simp[plain]at h1)
   rw[this];exact aS.cons (.v h1) aS.nil
 | str=>exact aS.cons .str aS.nil
 | ptr h1=>exact aS.cons (.ptr h1) aS.nil
 | dG h1 h2 h3=>exact aS.cons (.dG h1 h2 h3) aS.nil
 | slnil=>exact aS.cons .slnil aS.nil
 | px h1=>exact aS.cons (.px h1) aS.nil
 | kQ=>exact aS.cons .kQ aS.nil
 | sl h1 h2 h3 h4 h5 h6=>exact aS.cons (.sl h1 h2 h3 h4 h5 h6) aS.nil
 | bz h1 h2 h3=>exact aS.cons (.bz h1 h2 h3) aS.nil
 | map h1=>exact aS.cons (.map h1) aS.nil
 | func h1 h2 h3 h4=>exact aS.cons (.func h1 h2 h3 h4) aS.nil
 | iface h1=>exact aS.cons (.iface h1) aS.nil
 | tuple h1 h2=>exact aS.cons (.tuple h1 h2) aS.nil
theorem Ip {u:Value} (h:VR G m u) (hl:eb m=true):u.oneCell'=true:=by
 cases h with
 | v h1=>cases u<;>first | rfl | (simp[plain]at h1)
 | agg h1 h2=>cases hl
 | tuple h1 h2=>cases hl
 | _=>rfl
theorem ze {cs:List MV} {us:List Value} (h:aS G cs us) (hl:cs.all eb=true):∀u∈us,u.oneCell'=true:=by
 intro u hu;obtain⟨i,hi,rfl⟩:=List.mem_iff_getElem.1 hu;have hc:i<cs.length:=by rw[<-h.1];exact hi
 exact Ip (h.2 i cs[i] us[i] (aec hc) (aec hi)) (ank.1 hl _ (List.getElem_mem _))
def nL (agg:Bool) (size:Nat) (cs:List MV) (off:Nat):Option MV:=
 if agg then(if off+size<=cs.length then some (.agg ((cs.drop off).take size))else none)else cs[off]?
def cellsOf (O:VH):MV->Option (List MV×Nat)
 | .ptr k off=>match O.hp k with
   | some (.cells cs)=>some (cs,off)
   | _=>none
 | .dG cs off=>some (cs,off)
 | _=>none
theorem Mp (h:WR G O w) {u:Value} {cs:List MV} {off:Nat} (hx:VR G m u) (hc:cellsOf O m=some (cs,off)):
  ∃b o us,u= .pointer (some ⟨b,o+off,none⟩)/\aS G cs us/\∀i v,us[i]?=some v->w.cell? ⟨b,o+i,none⟩=some v:=by
 cases hx with
 | ptr h1=>
   rename_i k off' b;simp only[cellsOf]at hc;split at hc
   ·rename_i cs' hk;injection hc with hc;injection hc with e1 e2;subst e1;subst e2
    obtain⟨b',C,T,h2,h3,h4⟩:=h.cells k _ hk;rw[h1]at h2;injection h2 with h2;subst h2
    refine⟨b,0,_,by simp,h4,fun i v hv=>?_⟩;rw[VI]at hv;split at hv
    ·simp only[ajz,World.cell?,h3,ahY,ZA,if_false];simpa using hv
    ·cases hv
   ·cases hc
 | dG h1 h2 h3=>
   simp only[cellsOf,Option.some.injEq,Prod.mk.injEq]at hc;obtain⟨rfl,rfl⟩:=hc;exact⟨_,_,_,rfl,⟨h1,h3⟩,fun i v hv=>h.eN _ _ _ (h2 i v hv)⟩
 | _=>cases hc
def fw (tab:cg) (O:VH) (t:TypeId) (m:MV):Option MV:=
 match tab t,cellsOf O m with
 | some i,some (cs,off)=>nL (eg i.under) i.size cs off
 | _,_=>none
def Sx (G:Gh) (w x:World):Prop:=SS G x/\j7 G w x
theorem WR.sx (h:WR G O w):Sx G w w:=⟨h.ss,j7.refl _ _⟩
theorem Hy (h:WR G O w) {u:Value} {cs:List MV} {off:Nat} (hx:VR G m u) (hc:cellsOf O m=some (cs,off)):
  ∃b o us,u= .pointer (some ⟨b,o+off,none⟩)/\aS G cs us/\∀x,Sx G w x->∀i v,us[i]?=some v->x.cell? ⟨b,o+i,none⟩=some v:=by
 cases hx with
 | ptr h1=>
   rename_i k off' b;simp only[cellsOf]at hc;split at hc
   ·rename_i cs' hk;injection hc with hc;injection hc with e1 e2;subst e1;subst e2
    obtain⟨b',C,T,h2,h3,h4⟩:=h.cells k _ hk;rw[h1]at h2;injection h2 with h2;subst h2
    refine⟨b,0,_,by simp,h4,fun x hs i v hv=>?_⟩;have ZF:=(hs.2 k b h1).trans h3;rw[VI]at hv;split at hv
    ·simp only[ajz,World.cell?,ZF,ahY,ZA,if_false];simpa using hv
    ·cases hv
   ·cases hc
 | dG h1 h2 h3=>
   simp only[cellsOf,Option.some.injEq,Prod.mk.injEq]at hc;obtain⟨rfl,rfl⟩:=hc;exact⟨_,_,_,rfl,⟨h1,h3⟩,fun x hs i v hv=>hs.1 _ _ _ (h2 i v hv)⟩
 | _=>cases hc
theorem oX (ht:aP P tab) (h:WR G O w) {t:TypeId} {x m:MV} {u:Value} (hv:fw tab O t x=some m) (hx:VR G x u):∃r,VR G m r/\∀y,Sx G w y->(Instr.loadAt t u).run P y= .ok r y:=by
 unfold fw at hv;split at hv
 ·rename_i i cs off hi hc;have fQ:=ht t i hi;obtain⟨b,o,us,rfl,oY,k8⟩:=Hy h hx hc;simp only[Instr.loadAt,Instr.sureAddr,loadVar];unfold nL at hv;split at hv
  ·rename_i qm;split at hv
   ·rename_i hle;injection hv with hv;subst hv
    have CU:=(oY.drop off).take i.size;have hlen:((us.drop off).take i.size).length=i.size:=by simp[oY.1];omega
    refine⟨_,.agg CU.1 CU.2,fun y hy=>?_⟩
    have Ah:∀j v,((us.drop off).take i.size)[j]?=some v->y.cell? ((⟨b,o+off,none⟩:Addr).add j)=some v:=by
     intro j v hj;rw[Addr.add_lit,am_];rw[VI]at hj;split at hj
     ·rw[aed]at hj;exact k8 y hy _ v hj
     ·cases hj
    have zf:=run_loadCells_list (P:=P) y ⟨b,o+off,none⟩ _ Ah;rw[hlen]at zf;simp[oW fQ,qm,fH fQ,zf]
   ·cases hv
  ·rename_i qm;obtain⟨v,jB,DL⟩:=oY.get hv;exact⟨v,DL,fun y hy=>by simp[oW fQ,qm,k8 y hy _ v jB]⟩
 ·cases hv
theorem EE (ht:aP P tab) (h:WR G O w) {t:TypeId} {x m:MV} {u:Value} (hv:fw tab O t x=some m) (hx:VR G x u):agw P (Instr.loadAt t u) w G m:=by
 obtain⟨r,h1,h2⟩:=oX (P:=P) ht h hv hx;exact⟨r,h2 w h.sx,h1⟩
theorem Iq (ht:aP P tab) (h:WR G O w) {t:TypeId} {x m:MV} {u:Value} (hv:fw tab O t x=some m) (hx:VR G x u):iz P (Instr.loadAt t u) w G O m:=by
 obtain⟨r,h1,h2⟩:=EE (P:=P) ht h hv hx;exact iz.of h h1 h2
theorem QF (ht:aP P tab) {t:TypeId} {cs:List MV} {off:Nat} {m:MV} {u:Value} (hv:fw tab O t (.dG cs off)=some m) (hx:VR G (.dG cs off) u):bf P (Instr.loadAt t u) G m:=by
 unfold fw at hv;split at hv
 ·rename_i i cs' off' hi hc;simp only[cellsOf,Option.some.injEq,Prod.mk.injEq]at hc;obtain⟨rfl,rfl⟩:=hc;have fQ:=ht t i hi;cases hx with
  | dG h1 h2 h3=>
    rename_i us b o;have oY:aS G cs us:=⟨h1,h3⟩;simp only[Instr.loadAt,Instr.sureAddr,loadVar];unfold nL at hv;split at hv
    ·rename_i qm;split at hv
     ·rename_i hle;injection hv with hv;subst hv
      have CU:=(oY.drop off).take i.size;have hlen:((us.drop off).take i.size).length=i.size:=by simp[oY.1];omega
      have Ah:∀w,SS G w->∀j v,((us.drop off).take i.size)[j]?=some v->w.cell? ((⟨b,o+off,none⟩:Addr).add j)=some v:=by
       intro w hw j v hj;rw[Addr.add_lit,am_];rw[VI]at hj;split at hj
       ·rw[aed]at hj;exact hw _ _ _ (h2 _ v hj)
       ·cases hj
      have zf:∀w,SS G w->(loadCells ⟨b,o+off,none⟩ i.size).run P w= .ok ((us.drop off).take i.size).toArray w:=fun w hw=>by
       have:=run_loadCells_list (P:=P) w ⟨b,o+off,none⟩ _ (Ah w hw)
       rwa [hlen]at this
      exact bf.of (fun w hw=>by simp[oW fQ,qm,fH fQ,zf w hw]) (.agg CU.1 CU.2)
     ·cases hv
    ·rename_i qm;obtain⟨v,jB,DL⟩:=oY.get hv;exact bf.of (fun w hw=>by simp[oW fQ,qm,hw _ _ _ (h2 _ v jB)]) DL
 ·cases hv
def eI (cs:List MV) (o:Nat):List MV->List MV
 | []=>cs
 | x::xs=>eI (cs.set o x) (o+1) xs
theorem VH.set_set (O:VH) (k:Nat) (x y:cf):(O.set k x).set k y=O.set k y:=by
 simp only[VH.set,VH.mk.injEq,true_and]
 funext j
 simp only[bH];cases Nat.beq j k<;>rfl
theorem τ (O:VH) (k:Nat) (x:cf):(O.set k x).hp k=some x:=aK _ _ _
theorem VH.xm {O:VH} {k:Nat} {x:cf} (h:O.hp k=some x):O.set k x=O:=by
 obtain⟨n,f⟩:=O;simp only[VH.set,VH.mk.injEq,true_and]
 funext j
 by_cases e:j=k
 ·subst e;rw[aK];exact h.symm
 ·exact ay _ _ e
theorem zg {k b:Nat} (hp:G.bV k=some b) (off:Nat):∀(xs:List MV) (us:List Value) (i:Nat) (cs:List MV) (O:VH) (w:World),WR G O w->O.hp k=some (.cells cs)->aS G xs us->xs.all eb=true->off+i+xs.length<=cs.length->
  ∃w',(storeCells ⟨b,off,none⟩ us i).run P w= .ok () w'/\WR G (O.set k (.cells (eI cs (off+i) xs))) w'
 | [],us,i,cs,O,w,h,hk,hx,_,_=>by
   rw[hx.iP];refine⟨w,rfl,?_⟩;simp only[eI];rw[VH.xm hk];exact h
 | x::xs,us,i,cs,O,w,h,hk,hx,hl,hle=>by
   obtain⟨u,VK,rfl,h1,h2⟩:=hx.eW;simp only[List.all_cons,Mn]at hl;simp only[ana]at hle;have cY:=h.store (i:=off+i) hk hp (by omega) h1;obtain⟨w',hr,hw⟩:=zg hp off xs VK (i+1) (cs.set (off+i) x) _ _ cY (τ _ _ _) h2 hl.2 (by simp;omega);refine⟨w',?_,?_⟩
   ·obtain⟨b',C,T,e1,e2,e3⟩:=h.cells k cs hk;rw[hp]at e1;injection e1 with e1;subst e1
    have hlen:off+i<C.size:=by have:=e3.1;simp at this;omega
    have k8:w.cell? ⟨b,off+i,none⟩=some C[off+i]:=by
     simp only[World.cell?,e2,ahY,ZA,if_false,ahZ hlen]
    have aV:w.frozen? ⟨b,off+i,none⟩=false:=by
     obtain⟨t',⟨lo,hi⟩,dh⟩:=T;dsimp only at e2 dh;simp only[World.frozen?,e2,Bool.and_eq_false_imp,decide_eq_true_eq,decide_eq_false_iff_not];intro;omega
    rw[storeCells,Sem.run_bind]
    have:(store ((⟨b,off,none⟩:Addr).add i) u).run P w= .ok () (w.setCell ⟨b,off+i,none⟩ u):=by
     rw[Addr.add_lit,run_store P w _ _ _ (Ip h1 hl.1),k8];simp[aV]
    rw[this,Result.andThen_ok];exact hr
   ·rw[VH.set_set]at hw;exact hw
def xn (tab:cg) (O:VH) (t:TypeId) (x y:MV):Option VH:=
 match tab t,x with
 | some i,.ptr k off=>match O.hp k with
   | some (.cells cs)=>if(eh y).length=i.size/\(eh y).all eb=true/\off+i.size<=cs.length then some (O.set k (.cells (eI cs off (eh y))))else none
   | _=>none
 | _,_=>none
theorem QG (ht:aP P tab) (h:WR G O w) {t:TypeId} {x y:MV} {u v:Value} (hv:xn tab O t x y=some O') (hx:VR G x u) (hy:VR G y v):J8 P (Instr.storeAt t u v) w G O':=by
 unfold xn at hv;split at hv
 ·rename_i i k off hi;have fQ:=ht t i hi;split at hv
  ·rename_i cs hk;split at hv
   ·rename_i hc;injection hv with hv;subst hv
    cases hx with
    | ptr h1=>
      have hm:=zc hy;obtain⟨w',hr,hw⟩:=zg (P:=P) h1 off (eh y) v.cells.toList 0 cs O w h hk hm hc.2.1 (by omega);refine⟨w',G,?_,Gh.Le.refl G,by simpa using hw⟩;have hs:v.cells.size=i.size:=by rw[<-ajA,hm.1];exact hc.1
      simp[Instr.storeAt,Instr.sureAddr,storeVar,fH fQ,hs,hr]
   ·cases hv
  ·cases hv
 ·cases hv
theorem aef (h:WR G O w) {cs:List MV} {C:Array Value} {t:TypeId} (hc:aS G cs C.toList):iz P (do pure (Value.pointer (some (<-newRow t C)))) w G (O.push (.cells cs)) (.ptr O.N 0):=by
 obtain⟨h1,h2⟩:=h.push t hc;exact⟨_,_,_,by simp[newRow,newObj,Sem.run],h1,h2,.ptr (aK _ _ _),j7.alloc h _⟩
theorem ZK (h:WR G O w) {t:TypeId} {u:Value} (hu:VR G m u):iz P (Instr.box t u) w G (O.push (.cells (eh m))) (.ptr O.N 0):=aef h (zc hu)
end
section
variable {G H:Gh} {n:Sz} {D:List Deferred} {e:Env} {a:Act} {P:Program} {tab:cg} {O O':VH} {w:World} {m m':MV} {u v:Value}
def vA (k:Nat):MV->Option MV
 | .ptr b off=>some (.ptr b (off+k))
 | .dG cs off=>some (.dG cs (off+k))
 | _=>none
theorem Ir {k:Nat} (h:VR G m u) (hm:vA k m=some m'):∃a:Addr,u= .pointer (some a)/\VR G m' (.pointer (some (a.add k))):=by
 cases h with
 | ptr h1=>
   injection hm with hm;subst hm
   exact⟨_,rfl,by rw[Addr.add_lit];exact .ptr h1⟩
 | dG h1 h2 h3=>
   injection hm with hm;subst hm
   exact⟨_,rfl,by rw[Addr.add_lit,am_];exact .dG h1 h2 h3⟩
 | _=>cases hm
def jU (tab:cg) (t:TypeId) (f:Nat) (m:MV):Option MV:=
 match tab t with
 | some i=>match i.under with
   | .struct fs=>match fs[f]? with
     | some fd=>match tab fd.type with
       | some j=>if j.size=0 then none else vA fd.offset m
       | none=>none
     | none=>none
   | _=>none
 | none=>none
theorem EF (ht:aP P tab) {t:TypeId} {f:Nat} (hv:jU tab t f m=some m') (hx:VR G m u):bf P (Instr.fieldAt t u f) G m':=by
 unfold jU at hv;split at hv
 ·rename_i i hi;split at hv
  ·rename_i fs hu;split at hv
   ·rename_i fd hf;split at hv
    ·rename_i j hj;split at hv
     ·cases hv
     ·rename_i hz;obtain⟨a,rfl,h2⟩:=Ir hx hv;have fQ:=(ht t i hi).under;rw[hu]at fQ;exact bf.of (fun w _=>by simp[Instr.fieldAt,run_underlying fQ,hf,Instr.sureAddr,fieldPlace,fH (ht _ j hj),hz]) h2
    ·cases hv
   ·cases hv
  ·cases hv
 ·cases hv
def ni (tab:cg) (t:TypeId) (m:MV) (ix:MV):Option MV:=
 match ix,tab t with
 | .v (.int _ i),some ti=>match ti.under,m with
   | .slice el,.sl n cells _=>match tab el with
     | some te=>if 0<=i/\i<(n:Int)then some (.dG cells (i.toNat*te.size))else none
     | none=>none
   | .slice el,.bz k o n _=>match tab el with
     | some te=>if 0<=i/\i<(n:Int)then some (.ptr k (o+i.toNat*te.size))else none
     | none=>none
   | .array len el,x=>match tab el with
     | some te=>if 0<=i/\i<(len:Int)then vA (i.toNat*te.size) x else none
     | none=>none
   | _,_=>none
 | _,_=>none
theorem EG (ht:aP P tab) {t:TypeId} {ix:MV} (hv:ni tab t m ix=some m') (hx:VR G m u) (hy:VR G ix v):bf P (Instr.indexAt t u v) G m':=by
 unfold ni at hv;split at hv
 ·rename_i k i ti hi;cases hy;have fQ:=(ht t ti hi).under;split at hv
  ·rename_i el n' cells tk hu;rw[hu]at fQ;split at hv
   ·rename_i te he;split at hv
    ·rename_i hb;injection hv with hv;subst hv
     cases hx with
     | slnil=>simp at hb;omega
     | px h1=>simp at hb;omega
     | kQ=>simp at hb;omega
     | sl h1 h2 h3 h4 h5 h6=>
       refine bf.of (u:=.pointer (some _)) (fun w _=>?_) (.dG h1 h2 h3);simp[Instr.indexAt,asIntOf,run_underlying fQ,hb.1,hb.2,fH (ht _ te he),Addr.add_lit]
    ·cases hv
   ·cases hv
  ·rename_i el k' o n' c' hu;rw[hu]at fQ;split at hv
   ·rename_i te he;split at hv
    ·rename_i hb;injection hv with hv;subst hv
     cases hx with
     | bz h1 h2 h3=>
       refine bf.of (u:=.pointer (some _)) (fun w _=>?_) (.ptr h1);simp[Instr.indexAt,asIntOf,run_underlying fQ,hb.1,hb.2,fH (ht _ te he),Addr.add_lit]
    ·cases hv
   ·cases hv
  ·rename_i len el hu;rw[hu]at fQ;split at hv
   ·rename_i te he;split at hv
    ·rename_i hb;obtain⟨a,rfl,h2⟩:=Ir hx hv;refine bf.of (u:=.pointer (some _)) (fun w _=>?_) h2;simp[Instr.indexAt,asIntOf,run_underlying fQ,Instr.sureAddr,hb.1,hb.2,fH (ht _ te he)]
    ·cases hv
   ·cases hv
  ·cases hv
 ·cases hv
def B2 (tab:cg) (t:TypeId) (cs:List MV) (off:Nat):Option MV:=
 match tab t with
 | some i=>nL (eg i.under) i.size cs off
 | none=>none
theorem xp (ht:aP P tab) {t:TypeId} {cs:List MV} {us:List Value} {off:Nat} (hv:B2 tab t cs off=some m) (hx:aS G cs us):∃r,(∀w,(part t us.toArray off).run P w= .ok r w)/\VR G m r:=by
 unfold B2 at hv;split at hv
 ·rename_i i hi;have fQ:=ht t i hi;unfold nL at hv;split at hv
  ·rename_i qm;split at hv
   ·injection hv with hv;subst hv
    have oY:=(hx.drop off).take i.size;refine⟨.agg ((us.drop off).take i.size).toArray,fun w=>?_,.agg oY.1 oY.2⟩;simp[part,oW fQ,qm,fH fQ]
   ·cases hv
  ·rename_i qm;obtain⟨v,jB,DL⟩:=hx.get hv;exact⟨v,fun w=>by simp[part,oW fQ,qm,jB],DL⟩
 ·cases hv
def xq (tab:cg) (t:TypeId) (x:MV) (f:Nat):Option MV:=
 match tab t,x with
 | some i,.agg cs=>match i.under with
   | .struct fs=>match fs[f]? with
     | some fd=>B2 tab fd.type cs fd.offset
     | none=>none
   | _=>none
 | _,_=>none
theorem QH (ht:aP P tab) {t:TypeId} {f:Nat} (hv:xq tab t m f=some m') (hx:VR G m u):bf P (Instr.field t u f) G m':=by
 unfold xq at hv;split at hv
 ·rename_i i cs hi;split at hv
  ·rename_i fs hu;have fQ:=(ht t i hi).under;rw[hu]at fQ;split at hv
   ·rename_i fd hf;cases hx with
    | agg h1 h2=>
      obtain⟨r,h3,h4⟩:=xp (P:=P) ht hv ⟨h1,h2⟩;exact bf.of (fun w _=>by simp[Instr.field,run_underlying fQ,hf,asAgg,h3]) h4
   ·cases hv
  ·cases hv
 ·cases hv
def xr (tab:cg) (t:TypeId) (x ix:MV):Option MV:=
 match tab t,x,ix with
 | some i,.agg cs,.v (.int _ k)=>match i.under with
   | .array len el=>match tab el with
     | some te=>if 0<=k/\k<(len:Int)then B2 tab el cs (k.toNat*te.size)else none
     | none=>none
   | _=>none
 | some i,.str l,.v (.int _ k)=>match i.under with
   | .string=>if 0<=k then(l[k.toNat]?).map fun b=>.v (.int .u8 b.toNat)else none
   | _=>none
 | _,_,_=>none
theorem QI (ht:aP P tab) {t:TypeId} {ix:MV} (hv:xr tab t m ix=some m') (hx:VR G m u) (hy:VR G ix v):bf P (Instr.index t u v) G m':=by
 unfold xr at hv;split at hv
 ·rename_i i cs kk k hi;cases hy;split at hv
  ·rename_i len el hu;have fQ:=(ht t i hi).under;rw[hu]at fQ;split at hv
   ·rename_i te he;split at hv
    ·rename_i hb;cases hx with
     | agg h1 h2=>
       obtain⟨r,h3,h4⟩:=xp (P:=P) ht hv ⟨h1,h2⟩;exact bf.of (fun w _=>by simp[Instr.index,asIntOf,run_underlying fQ,hb.1,hb.2,fH (ht _ te he),h3]) h4
    ·cases hv
   ·cases hv
  ·cases hv
 ·rename_i i l kk k hi;cases hy;cases hx;split at hv
  ·rename_i hu;have fQ:=(ht t i hi).under;rw[hu]at fQ;split at hv
   ·rename_i hb;obtain⟨b,h1,h2⟩:=Ml.1 hv;subst h2;refine bf.of (u:=.int .u8 b.toNat) (fun w _=>?_) (.v rfl)
    have hg:(⟨⟨l⟩⟩:ByteArray)[k.toNat]?=some b:=by
     obtain⟨ei,he⟩:=aeb.1 h1;rw[getElem?_pos (⟨⟨l⟩⟩:ByteArray) k.toNat ei];exact congrArg some he
    simp[Instr.index,asIntOf,run_underlying fQ,hb,hg]
   ·cases hv
  ·cases hv
 ·cases hv
def sB (x:MV) (i:Nat):Option MV:=
 match x with
 | .tuple vs=>vs[i]?
 | _=>none
theorem J9 {i:Nat} (hv:sB m i=some m') (hx:VR G m u):bf P (Instr.extract u i) G m':=by
 unfold sB at hv;split at hv
 ·cases hx with
  | tuple h1 h2=>
    obtain⟨r,h3,h4⟩:=aS.get ⟨h1,h2⟩ hv;exact bf.of (fun w _=>by simp[Instr.extract,h3]) h4
 ·cases hv
end
section
variable {G H:Gh} {n:Sz} {D:List Deferred} {e:Env} {a:Act} {P:Program} {tab:cg} {O O':VH} {w:World} {m m' m2:MV} {u v:Value}
def mw (place:Nat->Option (Nat×Nat)) (cells:List MV):List (Nat×MV)->Option (List MV)
 | []=>some cells
 | (i,x)::rest=>match place i with
   | none=>none
   | some (off,size)=>if(eh x).length=size/\off+size<=cells.length then mw place (eI cells off (eh x)) rest else none
theorem CV {us:List Value}:∀(vs:List Value) (k off:Nat) (C:Array Value) (cs ms:List MV),aS G cs C.toList->aS G ms vs->
  aS G (eI cs (off+k) ms) ((vs.zipIdx k).foldl (fun(a:Array Value) x=>a.setIfInBounds (off+x.2) x.1) C).toList
 | [],k,off,C,cs,ms,h,hm=>by
   have:ms=[]:=ajw hm.1.symm;subst this;exact h
 | v::vs,k,off,C,cs,ms,h,hm=>by
   cases ms with
   | nil=>have:=hm.1;simp at this
   | cons x xs=>
     simp only[List.zipIdx_cons,List.foldl_cons,eI];have h2:aS G (cs.set (off+k) x) (C.setIfInBounds (off+k) v).toList:=by rw[anf];exact h.set hm.head
     exact CV (us:=us) vs (k+1) off _ _ xs h2 hm.tail
theorem xt {place:Nat->Option (Nat×Nat)}:∀(parts:List (Nat×MV)) (ps:List (Nat×Value)) (cs:List MV) (C:Array Value) (ds:List MV),mw place cs parts=some ds->
  parts.map (·.1)=ps.map (·.1)->aS G (parts.map (·.2)) (ps.map (·.2))->aS G cs C.toList->∃E,Instr.fill place C ps=some E/\aS G ds E.toList
 | [],ps,cs,C,ds,h,h1,h2,h3=>by
   have:ps=[]:=by cases ps<;>simp_all
   subst this;injection h with h;subst h
   exact⟨C,rfl,h3⟩
 | (i,x)::parts,ps,cs,C,ds,h,h1,h2,h3=>by
   cases ps with
   | nil=>simp at h1
   | cons p ps=>
     obtain⟨j,y⟩:=p;simp only[ajy,List.cons.injEq]at h1;obtain⟨rfl,h1⟩:=h1;simp only[ajy]at h2;simp only[mw]at h;cases hp:place i with
     | none=>rw[hp]at h;cases h
     | some q=>
       obtain⟨off,size⟩:=q;rw[hp]at h;simp only at h;split at h
       ·rename_i hc;have hm:=zc h2.head;have hy:y.cells.size=size:=by rw[<-ajA,hm.1];exact hc.1
        have hC:C.size=cs.length:=by rw[<-ajA];exact h3.1
        have cY:=CV (us:=[]) y.cells.toList 0 off C cs (eh x) h3 hm;obtain⟨E,h4,h5⟩:=xt parts ps _ _ ds h h1 h2.tail cY;refine⟨E,?_,h5⟩;simp only[Instr.fill,hp];rw[if_neg (by rw[hy,hC];simp;exact hc.2)];rw[<-h4]
        congr 1
        rw[<-Array.foldl_toList,Array.toList_zipIdx]
       ·cases h
def placesOf (tab:cg) (fs:Array Field):Option (List (Nat×Nat)):=fs.toList.mapM fun f=>(tab f.type).map fun i=>(f.offset,i.size)
theorem run_places (ht:aP P tab):∀(fs:List Field) (l:List (Nat×Nat)) (w:World),(fs.mapM fun f=>(tab f.type).map fun i=>(f.offset,i.size))=some l->
  (fs.mapM fun f=>(do pure (f.offset, <-sizeOf f.type):Sem (Nat×Nat))).run P w= .ok l w
 | [],l,w,h=>by simp at h;subst h;rfl
 | f::fs,l,w,h=>by
   simp only[ahX,ahW,Mm]at h;obtain⟨x,h1,l',h2,h3⟩:=h;injection h3 with h3;subst h3
   obtain⟨i,hi,rfl⟩:=Ml.1 h1;have ih:=run_places ht fs l' w h2;simp only[ahX,Sem.run_bind,fH (ht _ i hi),Result.andThen_ok,Sem.run_pure];rw[ih];rfl
def xw (tab:cg) (t:TypeId) (parts:List (Nat×MV)):Option MV:=
 match tab t with
 | some i=>match i.under with
   | .struct fs=>match placesOf tab fs with
     | some l=>(mw (l[·]?) i.zero parts).map .agg
     | none=>none
   | .array _ el=>match tab el with
     | some te=>(mw (fun k=>some (k*te.size,te.size)) i.zero parts).map .agg
     | none=>none
   | _=>none
 | none=>none
theorem QJ (ht:aP P tab) {t:TypeId} {parts:List (Nat×MV)} {ps:Array (Nat×Value)} (hv:xw tab t parts=some m) (h1:parts.map (·.1)=ps.toList.map (·.1)) (h2:aS G (parts.map (·.2)) (ps.toList.map (·.2))):
  bf P (Instr.build t ps) G m:=by
 unfold xw at hv;split at hv
 ·rename_i i hi;have fQ:=ht t i hi;obtain⟨ti,z,hz0,_,_,J_,tO,Hz⟩:=fQ.info;have DN:∀w,(zeroValue t).run P w= .ok z w:=fun w=>by simp[zeroValue,typeInfo,hz0,J_]
  split at hv
  ·rename_i fs hu;have fx:=fQ.under;rw[hu]at fx;split at hv
   ·rename_i l hl;obtain⟨ds,h3,rfl⟩:=Ml.1 hv;obtain⟨E,h4,h5⟩:=xt parts ps.toList i.zero z.cells ds h3 h1 h2 (Hz G);have hr:=fun w=>run_places ht fs.toList l w hl
    refine bf.of (u:=.agg E) (fun w _=>?_) (.agg h5.1 h5.2)
    have hr':(fs.mapM fun f=>(do pure (f.offset, <-sizeOf f.type):Sem (Nat×Nat))).run P w= .ok l.toArray w:=by
     rw[anh, <-bind_pure_comp,Sem.run_bind,hr];rfl
    simp only[Instr.build,Sem.run_bind,DN,Result.andThen_ok,run_underlying fx,hr'];have:Instr.fill (fun x=>l.toArray[x]?) z.cells ps.toList=some E:=by rw[<-h4];congr 1;funext x;simp
    rw[this];rfl
   ·cases hv
  ·rename_i len el hu;have fx:=fQ.under;rw[hu]at fx;split at hv
   ·rename_i te he;obtain⟨ds,h3,rfl⟩:=Ml.1 hv;obtain⟨E,h4,h5⟩:=xt parts ps.toList i.zero z.cells ds h3 h1 h2 (Hz G);refine bf.of (u:=.agg E) (fun w _=>?_) (.agg h5.1 h5.2);simp only[Instr.build,Sem.run_bind,DN,Result.andThen_ok,run_underlying fx,fH (ht _ te he),h4];rfl
   ·cases hv
  ·cases hv
 ·cases hv
def iR (z:List MV) (n:Nat):List MV:=(List.range n).map fun i=>z.getD (i % z.length) (.tuple [])
theorem zj {z:List MV} {Z:Array Value} (h:aS G z Z.toList) (hz:0<z.length) (n:Nat):aS G (iR z n) ((Array.range n).map (fun i=>Z[i % Z.size]!)).toList:=by
 have hl:Z.size=z.length:=by rw[<-ajA];exact h.1
 refine⟨by simp[iR],fun i c u hc hu=>?_⟩;simp only[iR,List.getElem?_map,Ml]at hc;obtain⟨j,hj,rfl⟩:=hc;simp only[Array.toList_map,Array.toList_range,List.getElem?_map,hj,ahV,Option.some.injEq]at hu;have hm:j % z.length<z.length:=Nat.mod_lt _ hz;have hm':j % Z.size<Z.size:=by rw[hl];exact hm
 refine h.2 (j % z.length) _ u ?_ ?_
 ·rw[aec hm,List.getD_eq_getElem?_getD,aec hm];rfl
 ·rw[<-hu, <-hl,Array.getElem?_toList,ahZ hm',getElem!_pos Z _ hm']
def lL (tab:cg) (t:TypeId) (len:Nat) (parts:List (Nat×MV)):Option MV:=
 match(tab t).map cM.under with
 | some (.slice el)=>match tab el with
   | some te=>if 0<len*te.size/\len*te.size<=16777216/\0<te.zero.length/\len<=maxLen then
     (mw (fun k=>some (k*te.size,te.size)) (iR te.zero (len*te.size)) parts).map fun cs=>.sl len cs .full
     else if len=0/\parts=[]then some (.sl 0 [] .full)else none
   | none=>none
 | _=>none
theorem uO (ht:aP P tab) (h:WR G O w) {t:TypeId} {len:Nat} {parts:List (Nat×MV)} {ps:Array (Nat×Value)} (hv:lL tab t len parts=some m) (h1:parts.map (·.1)=ps.toList.map (·.1)) (h2:aS G (parts.map (·.2)) (ps.toList.map (·.2))):
  iz P (Instr.buildSlice t len ps) w G O m:=by
 unfold lL at hv;split at hv
 ·rename_i el hu;obtain⟨i,hi,hu⟩:=Ml.1 hu;have fx:=(ht t i hi).under;rw[hu]at fx;split at hv
  ·rename_i te he;have oo:=ht el te he;obtain⟨z,DN,tO,Hz⟩:=Io oo w
   have fin:∀(C:Array Value) (cs:List MV),aS G cs C.toList->len<=maxLen->iz P (do pure (Value.slice (some (<-newRow el C)) len len)) w G O (.sl len cs .full):=fun C cs hc hl=>by
    obtain⟨h3,h4⟩:=h.lit C el;refine⟨.slice (some ⟨w.heap.size,0,none⟩) len len,w.alloc (.cells C el),_,by simp[newRow,newObj,Sem.run],h3,h4,?_,j7.alloc h _⟩;refine .sl (us:=C.toList) hc.1 (fun i u hu=>?_) (fun i c u a b=>(hc.2 i c u a b).mono h3) (agu _) hl rfl;show(if w.heap.size=w.heap.size then C[0+i]? else _)=some u;rw[if_pos rfl,ajz];simpa using hu
   split at hv
   ·rename_i hc;obtain⟨cs,h3,rfl⟩:=Ml.1 hv;obtain⟨E,h4,h5⟩:=xt parts ps.toList _ _ cs h3 h1 h2 (zj (Hz G) hc.2.2.1 (len*te.size));have hne:¬(len*te.size=0):=by omega
    have hng:¬(len*te.size>16777216):=by omega
    obtain⟨u,w',H,hr,r⟩:=fin E cs h5 hc.2.2.2;refine⟨u,w',H,?_,r⟩;rw[<-hr];simp[Instr.buildSlice,run_underlying fx,fH oo,hne,hng,DN,h4]
   ·split at hv
    ·rename_i hc;injection hv with hv;subst hv
     obtain⟨rfl,rfl⟩:=hc
     have hps:ps.toList=[]:=by
      have:=h1.symm;simpa using this
     obtain⟨u,w',H,hr,r⟩:=fin #[] [] aS.nil (ah0 _);refine⟨u,w',H,?_,r⟩;rw[<-hr];simp[Instr.buildSlice,run_underlying fx,fH oo,hps,Instr.fill];rw[show Array.range 0= #[]from Array.eq_empty_of_size_eq_zero (by simp),Array.map_empty]
    ·cases hv
  ·cases hv
 ·cases hv
def de (tab:cg) (t:TypeId) (x:MV):Option MV:=
 match(tab t).map cM.under,x with
 | some .string,.str l=>some (.v (.int .i64 l.length))
 | some (.slice _),.sl n _ _=>some (.v (.int .i64 n))
 | some (.slice _),.bz _ _ n _=>some (.v (.int .i64 n))
 | some (.map _ _),.v (.map none)=>some (.v (.int .i64 0))
 | some (.array n _),_=>some (.v (.int .i64 n))
 | _,_=>none
theorem ZL (ht:aP P tab) {t ty:TypeId} (hv:de tab t m=some m') (hx:VR G m u):bf P (Builtin.len_ #[t] ty #[u]) G m':=by
 unfold de at hv
 have un:∀d,(tab t).map cM.under=some d->P.underlying t=some d:=fun d hd=>by
  obtain⟨i,hi,hu⟩:=Ml.1 hd;rw[<-hu];exact(ht t i hi).under
 split at hv
 ·injection hv with hv;subst hv
  cases hx;exact bf.of (u:=.int .i64 _) (fun w _=>by simp[Builtin.len_,run_underlying (un _ ‹_›),goInt];rfl) (.v rfl)
 ·injection hv with hv;subst hv
  cases hx<;>exact bf.of (u:=.int .i64 _) (fun w _=>by simp[Builtin.len_,run_underlying (un _ ‹_›),goInt];try rfl) (.v rfl)
 ·injection hv with hv;subst hv
  cases hx;exact bf.of (u:=.int .i64 _) (fun w _=>by simp[Builtin.len_,run_underlying (un _ ‹_›),goInt];try rfl) (.v rfl)
 ·injection hv with hv;subst hv
  cases hx;exact bf.of (u:=.int .i64 _) (fun w _=>by simp[Builtin.len_,run_underlying (un _ ‹_›),goInt];try rfl) (.v rfl)
 ·injection hv with hv;subst hv
  exact bf.of (u:=.int .i64 _) (fun w _=>by simp[Builtin.len_,run_underlying (un _ ‹_›),goInt];try rfl) (.v rfl)
 ·cases hv
def qo (tab:cg) (O:VH) (t:TypeId) (x:MV):Option MV:=
 match(tab t).map cM.under,x with
 | some (.map _ _),.map k=>match O.hp k with
   | some (.map es _)=>some (.v (.int .i64 es.length))
   | _=>none
 | _,_=>none
theorem Mq (ht:aP P tab) (h:WR G O w) {t ty:TypeId} (hv:qo tab O t m=some m') (hx:VR G m u):iz P (Builtin.len_ #[t] ty #[u]) w G O m':=by
 unfold qo at hv
 have un:∀d,(tab t).map cM.under=some d->P.underlying t=some d:=fun d hd=>by
  obtain⟨i,hi,hu⟩:=Ml.1 hd;rw[<-hu];exact(ht t i hi).under
 split at hv
 ·split at hv
  ·rename_i k es ck hk;injection hv with hv;subst hv
   cases hx with
   | map h1=>
     obtain⟨b,E,e1,e2,e3,_⟩:=h.map _ _ _ hk;rw[h1]at e1;injection e1 with e1;subst e1
     have hl:E.size=es.length:=by
      have:=congrArg List.length e3;simpa using this
     refine iz.of h (u:=.int .i64 es.length) ?_ (.v rfl);simp[Builtin.len_,run_underlying (un _ ‹_›),goInt,getObj,Sem.run,e2,hl]
  ·cases hv
 ·cases hv
def B3 (x y:MV):Option MV:=
 match x,y with
 | .v (.int k a),.v (.int _ b)=>some (.v (.int k (if b>a then b else a)))
 | _,_=>none
def B4 (x y:MV):Option MV:=
 match x,y with
 | .v (.int k a),.v (.int _ b)=>some (.v (.int k (if b<a then b else a)))
 | _,_=>none
theorem VN (hv:B3 m m'=some m2) (hx:VR G m u) (hy:VR G m' v) {ts:Array TypeId} {ty:TypeId}:bf P (Builtin.max_ ts ty #[u,v]) G m2:=by
 unfold B3 at hv;split at hv
 ·injection hv with hv;subst hv;cases hx;cases hy
  exact bf.of (u:=.int _ _) (fun w _=>by simp[Builtin.max_,Builtin.max2]) (.v rfl)
 ·cases hv
theorem VO (hv:B4 m m'=some m2) (hx:VR G m u) (hy:VR G m' v) {ts:Array TypeId} {ty:TypeId}:bf P (Builtin.min_ ts ty #[u,v]) G m2:=by
 unfold B4 at hv;split at hv
 ·injection hv with hv;subst hv;cases hx;cases hy
  exact bf.of (u:=.int _ _) (fun w _=>by simp[Builtin.min_,Builtin.min2]) (.v rfl)
 ·cases hv
def xx (op:UnOp) (x:MV):Option MV:=
 match op,x with
 | .neg,.v (.int k a)=>some (.v (.int k (k.wrap (0 - a))))
 | .not,.v (.bool b)=>some (.v (.bool !b))
 | _,_=>none
theorem QK {op:UnOp} (hv:xx op m=some m') (hx:VR G m u):bf P (Op.unary op u) G m':=by
 unfold xx at hv;split at hv
 ·injection hv with hv;subst hv;cases hx
  exact bf.of (u:=.int _ _) (fun w _=>by simp[Op.unary,Op.intArith]) (.v rfl)
 ·injection hv with hv;subst hv;cases hx
  exact bf.of (u:=.bool _) (fun w _=>by simp[Op.unary]) (.v rfl)
 ·cases hv
end
section
variable {G H:Gh} {n:Sz} {D:List Deferred} {e:Env} {a:Act} {P:Program} {tab:cg} {O O':VH} {w:World} {m m':MV} {u v:Value}
def dw (d:Nat):Option MV->Option Nat
 | none=>some d
 | some (.v (.int _ i))=>if 0<=i then some i.toNat else none
 | _=>none
theorem nM {d k:Nat} {x:MV} (h:dw d (some x)=some k) (hx:VR G x u):∃kk,u= .int kk (k:Int):=by
 unfold dw at h;split at h
 ·rename_i hh;cases hh
 ·rename_i kk i hh;injection hh with hh;subst hh
  cases hx;split at h
  ·injection h with h;exact⟨kk,by rw[<-h];congr 1;omega⟩
  ·cases h
 ·cases h
def Ka (G:Gh):Option MV->Option Value->Prop
 | none,none=>True
 | some m,some u=>VR G m u
 | _,_=>False
theorem vB (isS:Bool) (len cap lo hi:Nat) {l h:Option MV} {lv hv:Option Value} (hl:dw 0 l=some lo) (hh:dw len h=some hi) (rl:Ka G l lv) (rh:Ka G h hv) (h1:lo<=hi) (h2:hi<=cap):
  ∀w,(Instr.sliceBounds isS len cap lv hv none).run P w= .ok (lo,hi,cap) w:=by
 intro w;cases l<;>cases lv<;>simp only[Ka]at rl<;>cases h<;>cases hv<;>simp only[Ka]at rh
 ·simp only[dw,Option.some.injEq]at hl hh;subst hl;subst hh;simp[Instr.sliceBounds]
 ·obtain⟨k,rfl⟩:=nM hh rh;simp only[dw,Option.some.injEq]at hl;subst hl
  have:=run_sliceBound (P:=P) w k (hi:Int) cap (if isS then .sliceAcap else .sliceAlen) (by omega) (by omega);simp[Instr.sliceBounds,this]
 ·obtain⟨k,rfl⟩:=nM hl rl;simp only[dw,Option.some.injEq]at hh;subst hh
  have:=run_sliceBound (P:=P) w k (lo:Int) len .sliceB (by omega) (by omega);simp[Instr.sliceBounds,this]
 ·obtain⟨k,rfl⟩:=nM hl rl;obtain⟨k',rfl⟩:=nM hh rh;have h3:=run_sliceBound (P:=P) w k (lo:Int) hi .sliceB (by omega) (by omega);have h4:=run_sliceBound (P:=P) w k' (hi:Int) cap (if isS then .sliceAcap else .sliceAlen) (by omega) (by omega);simp[Instr.sliceBounds,h3,h4]
def tQ (t:Tok) (sz:Nat) (whole:Bool):Tok:=if whole then(match t with
 | .full=>.full
 | .own t k=>if k=sz then .own t k else .ar
 | _=>.ar)else .ar
def xy (tab:cg) (t:TypeId) (x:MV) (l h:Option MV):Option MV:=
 match(tab t).map cM.under,x with
 | some .string,.str s=>match dw 0 l,dw s.length h with
   | some lo,some hi=>if lo<=hi/\hi<=s.length then some (.str ((s.drop lo).take (hi - lo)))else none
   | _,_=>none
 | some (.slice el),.sl n cells tk=>match tab el,dw 0 l,dw n h with
   | some te,some lo,some hi=>
     if lo=0/\hi=n then some (.sl n cells tk)
     else if lo<=hi/\hi<=n/\cells.length=n*te.size then some (.sl (hi - lo) ((cells.drop (lo*te.size)).take ((hi - lo)*te.size)) (tQ tk te.size (hi==n)))else none
   | _,_,_=>none
 | some (.slice el),.bz k o n c=>match tab el,dw 0 l,dw n h with
   | some te,some lo,some hi=>if lo<=hi/\hi<=c then some (.bz k (if c=lo then o else o+lo*te.size) (hi - lo) (c - lo))else none
   | _,_,_=>none
 | _,_=>none
theorem bM (ht:aP P tab) {t:TypeId} {d:TypeDesc} (h:(tab t).map cM.under=some d):P.underlying t=some d:=by
 obtain⟨i,hi,hu⟩:=Ml.1 h;rw[<-hu];exact(ht t i hi).under
theorem QL (ht:aP P tab) {t:TypeId} {l hh:Option MV} {lv QM:Option Value} (hv:xy tab t m l hh=some m') (hx:VR G m u) (rl:Ka G l lv) (rh:Ka G hh QM):
  bf P (Instr.sliceAt t u lv QM none) G m':=by
 unfold xy at hv;split at hv
 ·rename_i s hu;have fx:=bM ht hu;split at hv
  ·rename_i lo hi h1 h2;split at hv
   ·rename_i hc;injection hv with hv;subst hv
    cases hx;refine bf.of (u:=.string ⟨⟨(s.drop lo).take (hi - lo)⟩⟩) (fun w _=>?_) .str;have hb:=vB (P:=P) false s.length s.length lo hi h1 h2 rl rh hc.1 hc.2;have hs:(⟨⟨s⟩⟩:ByteArray).size=s.length:=rfl;simp only[Instr.sliceAt,Instr.slice,Sem.run_bind,run_underlying fx,Result.andThen_ok,hs,hb,ahY,ZA,if_false,Sem.run_pure];have:(⟨⟨s⟩⟩:ByteArray).extract lo hi=⟨⟨(s.drop lo).take (hi - lo)⟩⟩:=ByteArray.ext (by simp[ByteArray.data_extract]);rw[this]
   ·cases hv
  ·cases hv
 ·rename_i el n' cells tk hu;have fx:=bM ht hu;split at hv
  ·rename_i te lo hi he h1 h2
   have run:∀(A:Option Addr) (c:Nat),lo<=hi->hi<=c->∀w,(Instr.sliceAt t (.slice A n' c) lv QM none).run P w= .ok (.slice (if c=lo then A else A.map (·.add (lo*te.size))) (hi - lo) (c - lo)) w:=fun A c h3 h4 w=>by
    have hb:=vB (P:=P) true n' c lo hi h1 h2 rl rh h3 h4;simp only[Instr.sliceAt,Instr.slice,Sem.run_bind,run_underlying fx,Result.andThen_ok,hb,fH (ht _ te he),Sem.run_pure]
   split at hv
   ·rename_i hc;injection hv with hv;subst hv
    obtain⟨rfl,rfl⟩:=hc
    have fin:∀(A:Option Addr) (c:Nat),hi<=c->VR G (.sl hi cells tk) (.slice A hi c)->bf P (Instr.sliceAt t (.slice A hi c) lv QM none) G (.sl hi cells tk):=fun A c hc ve=>by
     refine bf.of (fun w _=>run A c (ah0 _) hc w) ?_
     have:(if c=0 then A else A.map (·.add (0*te.size)))=A:=by
      split
      ·rfl
      ·cases A<;>simp[Addr.add]
     rw[this];simpa using ve
    cases hx with
    | slnil=>exact fin _ _ (agu _) .slnil
    | px h3=>exact fin _ _ (ah0 _) (.px h3)
    | kQ=>exact fin _ _ (agu _) .kQ
    | sl h3 h4 h5 h6 h7 h8=>exact fin _ _ h6 (.sl h3 h4 h5 h6 h7 h8)
   ·split at hv
    ·rename_i hne hc;injection hv with hv;subst hv
     cases hx with
     | slnil=>exact absurd ⟨by omega,by omega⟩ hne
     | px h3=>exact absurd ⟨by omega,by omega⟩ hne
     | kQ=>exact absurd ⟨by omega,by omega⟩ hne
     | sl h3 h4 h5 h6 h7 h8=>
       rename_i us c b o;refine bf.of (fun w _=>run _ c hc.1 (by omega) w) ?_;have jC:((us.drop (lo*te.size)).take ((hi - lo)*te.size)).length=((cells.drop (lo*te.size)).take ((hi - lo)*te.size)).length:=by simp[h3]
       have ajE:∀(i:Nat) (c:MV) (u:Value),((cells.drop (lo*te.size)).take ((hi - lo)*te.size))[i]?=some c->((us.drop (lo*te.size)).take ((hi - lo)*te.size))[i]?=some u->VR G c u:=fun i c u ha hb=>by
        rw[VI]at ha hb;split at ha
        ·rw[if_pos ‹_›]at hb;rw[aed]at ha hb;exact h5 _ c u ha hb
        ·cases ha
       by_cases fY:c=lo
       ·subst fY;obtain rfl:hi=c:=by omega
        rw[if_pos rfl];simp only[Nat.sub_self,Nat.zero_mul,List.take_zero];refine .sl (us:=[]) rfl (fun i u hu=>by simp at hu) (fun i c u hu=>by simp at hu) (agu _) (ah0 _) ?_;unfold tQ;split
        ·cases tk with
         | nil=>exact h8.elim
         | full=>rfl
         | own t k=>
           simp only;split
           ·exact .inl rfl
           ·trivial
         | ar=>trivial
        ·trivial
       ·rw[if_neg fY];simp only[ahV,Addr.add_lit];refine .sl jC (fun i u hu=>?_) ajE (by omega) (by omega) ?_
        ·rw[VI]at hu;split at hu
         ·rw[aed]at hu;rw[am_];exact h4 _ u hu
         ·cases hu
        ·unfold tQ;split
         ·rename_i hw;have hw:hi=n':=by simpa using hw
          subst hw;have hmul:(hi - lo)*te.size=cells.length - lo*te.size:=by rw[hc.2.2,Nat.sub_mul]
          have qp:((cells.drop (lo*te.size)).take ((hi - lo)*te.size)).length=(hi - lo)*te.size:=by simp;omega
          have hle:lo*te.size<=hi*te.size:=Nat.mul_le_mul_right _ hc.1;cases tk with
          | nil=>exact h8.elim
          | full=>show c - lo=hi - lo;have:c=hi:=h8;omega
          | own t k=>
            simp only;split
            ·rename_i hk;subst hk;rcases h8 with h8 | ⟨r,h9,zm,h11⟩
             ·exact .inl (by omega)
             ·refine .inr ⟨r,?_,qp,by omega⟩;rw[h9,qp];congr 2;congr 1
              omega
            ·trivial
          | ar=>trivial
         ·trivial
    ·cases hv
  ·cases hv
 ·rename_i el k o n' c hu;have fx:=bM ht hu;split at hv
  ·rename_i te lo hi he h1 h2;split at hv
   ·rename_i hc;injection hv with hv;subst hv
    cases hx with
    | bz h3 h4 h5=>
      rename_i b;have hb:=vB (P:=P) true n' c lo hi h1 h2 rl rh hc.1 (by omega);refine bf.of (u:=.slice (if c=lo then some ⟨b,o,none⟩else(some (⟨b,o,none⟩:Addr)).map (·.add (lo*te.size))) (hi - lo) (c - lo)) (fun w _=>?_) ?_
      ·simp only[Instr.sliceAt,Instr.slice,Sem.run_bind,run_underlying fx,Result.andThen_ok,hb,fH (ht _ te he),Sem.run_pure]
      ·split
       ·exact .bz h3 (by omega) (by omega)
       ·simp only[ahV,Addr.add_lit];exact .bz h3 (by omega) (by omega)
   ·cases hv
  ·cases hv
 ·cases hv
def ZM:Tok->Tok
 | .nil=>.nil
 | _=>.ar
def oZ (tab:cg) (t:TypeId) (x:MV) (l:Option MV) (h mx:MV):Option MV:=
 match(tab t).map cM.under,h,mx with
 | some (.slice el),.v (.int _ hi),.v (.int _ m)=>match tab el,dw 0 l with
   | some te,some lo=>if 0<=hi/\0<=m/\lo<=hi.toNat/\hi.toNat<=m.toNat then(match x with
     | .bz k o _ c=>if m.toNat<=c then some (.bz k (if m.toNat=lo then o else o+lo*te.size) (hi.toNat - lo) (m.toNat - lo))else none
     | .sl n cells tk=>if m.toNat<=n/\cells.length=n*te.size then(if n=0 then some (.sl 0 [] (ZM tk))else if m.toNat=lo then some (.sl 0 [] .full)else some (.sl (hi.toNat - lo) ((cells.drop (lo*te.size)).take ((hi.toNat - lo)*te.size)) (if m.toNat=hi.toNat then .full else .ar)))else none
     | _=>none)else none
   | _,_=>none
 | _,_,_=>none
theorem Mr (ht:aP P tab) {t:TypeId} {l:Option MV} {hh mx:MV} {lv:Option Value} {QM mv:Value} (hv:oZ tab t m l hh mx=some m') (hx:VR G m u) (rl:Ka G l lv) (rh:VR G hh QM) (rm:VR G mx mv):
  bf P (Instr.sliceAt t u lv (some QM) (some mv)) G m':=by
 unfold oZ at hv;split at hv
 ·rename_i el k1 hi k2 mi hu;have fx:=bM ht hu;cases rh;cases rm
  split at hv
  ·rename_i te lo he h1;split at hv
   ·rename_i hc;obtain⟨c1,c2,c3,c4⟩:=hc
    have zp:lv=none/\lo=0\/∃kk,lv=some (.int kk (lo:Int)):=by
     cases l<;>cases lv<;>simp only[Ka]at rl
     ·simp only[dw,Option.some.injEq]at h1;exact .inl ⟨rfl,h1.symm⟩
     ·obtain⟨kk,rfl⟩:=nM h1 rl;exact .inr ⟨kk,rfl⟩
    have run:∀(A:Option Addr) (n' c:Nat),mi.toNat<=c->∀w,(Instr.sliceAt t (.slice A n' c) lv (some (.int k1 hi)) (some (.int k2 mi))).run P w= .ok (.slice (if mi.toNat=lo then A else A.map (·.add (lo*te.size))) (hi.toNat - lo) (mi.toNat - lo)) w:=fun A n' c h3 w=>by
     have e1:=run_sliceBound (P:=P) w k2 mi c .slice3Acap c2 (by omega);have e2:=run_sliceBound (P:=P) w k1 hi mi.toNat .slice3B c1 (by omega)
     have hb:(Instr.sliceBounds true n' c lv (some (.int k1 hi)) (some (.int k2 mi))).run P w= .ok (lo,hi.toNat,mi.toNat) w:=by
      rcases zp with⟨rfl,rfl⟩ | ⟨kk,rfl⟩
      ·simp[Instr.sliceBounds,e1,e2]
      ·have e3:=run_sliceBound (P:=P) w kk (lo:Int) hi.toNat .slice3C (by omega) (by omega);simp[Instr.sliceBounds,e1,e2,e3]
     simp only[Instr.sliceAt,Instr.slice,Sem.run_bind,run_underlying fx,Result.andThen_ok,hb,fH (ht _ te he),Sem.run_pure]
    split at hv
    ·rename_i k o n' c;split at hv
     ·rename_i Kb;injection hv with hv;subst hv
      cases hx with
      | bz h3 h4 h5=>
        rename_i b;refine bf.of (fun w _=>run _ n' c Kb w) ?_;split
        ·exact .bz h3 (by omega) (by omega)
        ·simp only[ahV,Addr.add_lit];exact .bz h3 (by omega) (by omega)
     ·cases hv
    ·rename_i n' cells tk;split at hv
     ·rename_i Kb;split at hv
      ·rename_i hn;subst hn;injection hv with hv;subst hv
       have e0:mi.toNat=0:=by omega
       have e1:hi.toNat=0:=by omega
       have e2:lo=0:=by omega
       have fin:∀A c,VR G (.sl 0 [] (ZM tk)) (.slice A 0 0)->bf P (Instr.sliceAt t (.slice A 0 c) lv (some (.int k1 hi)) (some (.int k2 mi))) G (.sl 0 [] (ZM tk)):=fun A c hr=>by
        refine bf.of (u:=.slice A 0 0) (fun w _=>?_) hr;rw[run A 0 c (by omega) w,e0,e1,e2];simp
       cases hx with
       | slnil=>exact fin _ _ .slnil
       | px h3=>exact fin _ _ (.px (ah0 _))
       | kQ=>exact fin _ _ .kQ
       | sl h3 h4 h5 h6 h7 h8=>
         cases tk with
         | nil=>exact h8.elim
         | _=>exact fin _ _ (.px (ah0 _))
      ·rename_i hn;split at hv
       ·rename_i qq;injection hv with hv;subst hv
        cases hx with
        | slnil=>exact absurd rfl hn
        | px h3=>exact absurd rfl hn
        | kQ=>exact absurd rfl hn
        | sl h3 h4 h5 h6 h7 h8=>
          refine bf.of (fun w _=>run _ n' _ (by omega) w) ?_;rw[if_pos qq,show hi.toNat - lo=0 by omega,show mi.toNat - lo=0 by omega];exact .sl (us:=[]) rfl (fun i u h=>by simp at h) (fun i c u h=>by simp at h) (agu _) (ah0 _) rfl
       ·rename_i qq;injection hv with hv;subst hv
        cases hx with
        | slnil=>exact absurd rfl hn
        | px h3=>exact absurd rfl hn
        | kQ=>exact absurd rfl hn
        | sl h3 h4 h5 h6 h7 h8=>
          rename_i us c b o;refine bf.of (fun w _=>run _ n' c (by omega) w) ?_;rw[if_neg qq];simp only[ahV,Addr.add_lit];refine .sl (us:=(us.drop (lo*te.size)).take ((hi.toNat - lo)*te.size)) (by simp[h3]) (fun i u hu=>?_) (fun i c u ha hb=>?_) (by omega) (by omega) ?_
          ·rw[VI]at hu;split at hu
           ·rw[aed]at hu;rw[am_];exact h4 _ u hu
           ·cases hu
          ·rw[VI]at ha hb;split at ha
           ·rw[if_pos ‹_›]at hb;rw[aed]at ha hb;exact h5 _ c u ha hb
           ·cases ha
          ·split
           ·rename_i e;show mi.toNat - lo=hi.toNat - lo;rw[e]
           ·trivial
     ·cases hv
    ·cases hv
   ·cases hv
  ·cases hv
 ·cases hv
def nj (tab:cg) (O:VH) (t:TypeId) (l c:MV):Option (MV×VH):=
 match(tab t).map cM.under,l,c with
 | some (.slice el),.v (.int _ i),.v (.int _ j)=>match tab el with
   | some te=>if 0<=i/\i<=j/\j<=9223372036854775807/\te.bytes*j<=281474976710656/\0<te.zero.length then some (.bz O.N 0 i.toNat j.toNat,O.push (.cells (iR te.zero (j.toNat*te.size))))else none
   | none=>none
 | _,_,_=>none
theorem EH (ht:aP P tab) (h:WR G O w) {t:TypeId} {l c:MV} {lv cv:Value} (hv:nj tab O t l c=some (m,O')) (hl:VR G l lv) (hc:VR G c cv):iz P (Instr.makeSlice t lv cv) w G O' m:=by
 unfold nj at hv;split at hv
 ·rename_i el k i k' j hu;cases hl;cases hc
  have fx:=bM ht hu;split at hv
  ·rename_i te he;split at hv
   ·rename_i hb;injection hv with hv;simp only[Prod.mk.injEq]at hv;obtain⟨rfl,rfl⟩:=hv;have oo:=ht _ te he;obtain⟨ti,z,h1,h2,h3,h4,h5,h6⟩:=oo.info;have hr:=run_make (P:=P) w t el ti z fx h1 h4 k k' i j hb.1 hb.2.1 (by rw[h3];exact hb.2.2.2.1) hb.2.2.1;rw[h2]at hr;have hz:=zj (h6 G) hb.2.2.2.2 (j.toNat*te.size);obtain⟨h7,h8⟩:=h.push el hz;exact⟨_,_,_,hr,h7,h8,.bz (aK _ _ _) (by omega) (by simp only[maxLen];omega),j7.alloc h _⟩
   ·cases hv
  ·cases hv
 ·cases hv
def iA (tab:cg) (O:VH) (t:TypeId) (x y:MV):Option (MV×VH):=
 match(tab t).map cM.under,y with
 | some (.slice el),.sl k ds _=>match tab el,x with
   | some te,.sl n cells tk=>
     if ds.length=k*te.size/\ds.all eb=true/\0<te.size then
      if k=0 then some (.sl n cells tk,O)
      else if cells.length=n*te.size/\(n+k)*te.bytes<=140737488355328/\n+k<=maxLen then
       match tk with
       | .nil=>some (.sl (n+k) (cells++ds) (.own O.N te.size),O.push .tok)
       | .full=>some (.sl (n+k) (cells++ds) (.own O.N te.size),O.push .tok)
       | .own s k'=>if k'=te.size then match O.hp s with
         | some .tok=>some (.sl (n+k) (cells++ds) (.own O.N te.size),(O.kill s).push .tok)
         | _=>none
         else none
       | .ar=>none
      else none
     else none
   | _,_=>none
 | _,_=>none
theorem VP (h:WR G O w) {cs:List MV} {us:List Value} {N k r:Nat} {R:Array Value} {el:TypeId} (hc:aS G cs us) (hl:cs.length=N*k) (hR:R.size=r*k) (hm:N+r<=maxLen):
  ∃K,G.Le K/\WR K (O.push .tok) (w.alloc (.cells (us.toArray++R) el))/\VR K (.sl N cs (.own O.N k)) (.slice (some ⟨w.heap.size,0,none⟩) N (N+r)):=by
 have hg:=h.grow (.cells (us.toArray++R) el);have zw:us.length=N*k:=by rw[hc.1,hl]
 have k8:∀o u,(if o<N*k then us[o]? else none)=some u->(w.alloc (.cells (us.toArray++R) el)).cell? ⟨w.heap.size,o,none⟩=some u:=fun o u ho=>by
  rw[Im];split at ho
  ·rw[ang (by simp;omega)];simpa using ho
  ·cases ho
 obtain⟨h1,h2⟩:=hg.Ei (b:=w.heap.size) (f:=fun o=>if o<N*k then us[o]? else none) (fun o u hc=>by rw[h.xk]at hc;cases hc) k8 (fun k _=>h.tJ k)
  fun t c x ht hx e=>absurd e (h.p6 ht hx)
 have hb:(w.alloc (.cells (us.toArray++R) el)).heap[w.heap.size]?=some (.cells (us.toArray++R) el (0,0)):=by rw[fG,if_pos rfl]
 obtain⟨h3,h4⟩:=h2.TN (b:=w.heap.size) (f:=N*k) (k:=k) (r:=r) (C:=us.toArray++R) (T:=el) h.ZC hb (by simp[zw,hR])
  (fun o ho=>by
   show(if w.heap.size=w.heap.size then(if o<N*k then us[o]? else none)else _)=none;rw[if_pos rfl,if_neg (by omega)])
  h.tJ (fun t c x ht hx=>h.p6 ht hx)
 refine⟨_,h1.trans h3,h4,?_⟩;refine .sl (us:=us) hc.1 (fun i u hu=>?_) (fun i c u a b=>(hc.2 i c u a b).mono (h1.trans h3)) (by omega) hm ?_
 ·show(if w.heap.size=w.heap.size then(if 0+i<N*k then us[0+i]? else none)else _)=some u;have:=(aeb.1 hu).1;rw[if_pos rfl,ajz,if_pos (by omega)];exact hu
 ·refine .inr ⟨r,?_,hl,rfl⟩;show bH _ _ _ _=_;rw[aK,ajz,hl]
theorem WR.setRow (h:WR G O w) {b:Nat} {C C':Array Value} {T:TypeId} (hB:G.B<=b) (hb:w.heap[b]?=some (.cells C T (0,0))) (eS:∀j,G.bV j≠some b) (vz:∀t c x,O.hp t=some .tok->G.tok t=some (c,x)->c≠b)
  (Mo:∀o u,G.eN b o=some u->C'[o]?=some u):WR G O (w.setRow b C'):=by
 have nJ:=setRow_heap w b C C' T (0,0) hb;have eT:∀j,j≠b->(w.setRow b C').heap[j]?=w.heap[j]?:=fun j hj=>setRow_other w b j C' hj
 have p7:(w.setRow b C').heap.size=w.heap.size:=by simp[World.setRow]
 refine⟨⟨h.base.os,h.base.tape,h.base.output,by rw[p7];exact h.base.size,fun j hj=>by rw[eT j (by have:j<G.B:=hj;omega)];exact h.base.block j hj⟩,fun b' o u hc=>?_,h.ql,fun k c hk=>?_,h.inj,fun k cs hk=>?_,fun k es ck hk=>?_,fun t ht=>?_,h.me,h.py id (fun _ _ _ _ h=>h) fun k b' s hk hs=>iQ (fun x hx=>by rw[eT _ (fun e=>eS k (e▸hk))];exact hx) hs,h.r5 id (fun _ _ h=>h) fun k x b' hk hb hx=>by rw[eT b' (fun e=>eS k (e▸hb))];exact hx,h.rA,h.B0⟩
 ·by_cases e:b'=b
  ·subst e;rw[cell_setRow_same w b' o C C' T (0,0) hb];exact Mo o u hc
  ·rw[cell_setRow_other w b C' _ e];exact h.eN b' o u hc
 ·obtain⟨h1,h2,h3⟩:=h.kH k c hk;exact⟨h1,by rw[p7];exact h2,h3⟩
 ·obtain⟨c,D,T',h1,h2,h3⟩:=h.cells k cs hk;exact⟨c,D,T',h1,by rw[eT c (fun e=>eS k (e▸h1))];exact h2,h3⟩
 ·obtain⟨c,E,h1,h2,h3⟩:=h.map k es ck hk;exact⟨c,E,h1,by rw[eT c (fun e=>eS k (e▸h1))];exact h2,h3⟩
 ·obtain⟨c,f,k,r,D,T',h1,h2,h3,h4⟩:=h.tok t ht;exact⟨c,f,k,r,D,T',h1,h2,by rw[eT c (vz t c _ ht h1)];exact h3,h4⟩
theorem EI (h:WR G O w) {k sz:Nat} {ds:List MV} {tk:Tok} (hy:VR G (.sl k ds tk) v) (hl:ds.length=k*sz) (hk:k≠0):
  ∃ad c us,v= .slice (some ad) k c/\aS G ds us/\us.length=k*sz/\∀j u,us[j]?=some u->w.cell? (ad.add j)=some u:=by
 cases hy with
 | slnil=>exact absurd rfl hk
 | px h1=>exact absurd rfl hk
 | kQ=>exact absurd rfl hk
 | sl h1 h2 h3 h4 h5 h6=>exact⟨_,_,_,rfl,⟨h1,h3⟩,by rw[h1,hl],fun j u hu=>by rw[Addr.add_lit];exact h.eN _ _ _ (h2 j u hu)⟩
theorem Ms (z:Array Value) (n:Nat):(Builtin.zeroCells z n).size=n*z.size:=by simp[Builtin.zeroCells]
theorem Kc (h:WR G O w) {t ty el:TypeId} {te:cM} (ht:P.underlying t=some (.slice el)) (oo:yx P el te) {n:Nat} {cells ds:List MV} {tk tk':Tok} (hx:VR G (.sl n cells tk) u) (hy:VR G (.sl 0 ds tk') v):
  (Builtin.append_ #[t,t] ty #[u,v]).run P w= .ok u w:=by
 obtain⟨ti,QN,_⟩:=TO oo w
 have run:∀(A B:Option Addr) (k c c':Nat),k<=c->(A=none->k=0)->(Builtin.append_ #[t,t] ty #[.slice A k c,.slice B 0 c']).run P w= .ok (.slice A k c) w:=fun A B k c c' hc hA=>by
  have hf:(Builtin.firstCells te.size 0 (.slice B 0 c')).run P w= .ok #[] w:=by
   cases B with
   | none=>simp[Builtin.firstCells]
   | some b=>simp[Builtin.firstCells,loadCells,loadCellsFrom]
  have hn:¬(c<k):=by omega
  cases A with
  | none=>simp[Builtin.append_,run_underlying ht,fH oo,Builtin.lenOf,hf,hc]
  | some a=>simp[Builtin.append_,run_underlying ht,fH oo,Builtin.lenOf,hf,hc,storeCells]
 have hu:∃A c,u= .slice A n c/\n<=c/\(A=none->n=0):=by
  cases hx with
  | slnil=>exact⟨_,_,rfl,agu _,fun _=>rfl⟩
  | px h1=>exact⟨_,_,rfl,ah0 _,fun _=>rfl⟩
  | kQ=>exact⟨_,_,rfl,agu _,fun _=>rfl⟩
  | sl h1 h2 h3 h4 h5 h6=>exact⟨_,_,rfl,h4,fun h=>by cases h⟩
 have hv:∃B c',v= .slice B 0 c':=by
  cases hy with
  | slnil=>exact⟨_,_,rfl⟩
  | px h1=>exact⟨_,_,rfl⟩
  | kQ=>exact⟨_,_,rfl⟩
  | sl h1 h2 h3 h4 h5 h6=>exact⟨_,_,rfl⟩
 obtain⟨A,c,rfl,h1,h2⟩:=hu;obtain⟨B,c',rfl⟩:=hv;exact run A B n c c' h1 h2
theorem Ai (h:WR G O w) {t ty el:TypeId} {te:cM} (ht:P.underlying t=some (.slice el)) (oo:yx P el te) {n k c:Nat} {cells ds:List MV} {tk':Tok} {A:Option Addr} {us:List Value}
  (hA:A=none->n=0/\c=0) (jC:aS G cells us) (zw:us.length=n*te.size) (k8:∀ad,A=some ad->∀j u,us[j]?=some u->w.cell? (ad.add j)=some u) (hy:VR G (.sl k ds tk') v) (hl:ds.length=k*te.size) (hk:k≠0)
  (hc:c<n+k) (hb:(n+k)*te.bytes<=140737488355328) (hm:n+k<=maxLen):
  iz P (Builtin.append_ #[t,t] ty #[.slice A n c,v]) w G (O.push .tok) (.sl (n+k) (cells++ds) (.own O.N te.size)):=by
 obtain⟨ti,z,h1,h2,h3,h4,h5,h6⟩:=oo.info;obtain⟨ad,c',vs,rfl,oY,eP,hvc⟩:=EI h hy hl hk;have amf:n+k<=9223372036854775807:=by simp only[maxLen]at hm;omega
 have iS:=grownCap_ge w (n+k) c el;have hle:=grownCap_le_maxLen w (n+k) c el hm;have fY:(cells++ds).length=(n+k)*te.size:=by rw[ajB, <-jC.1,zw,hl,Nat.add_mul]
 obtain⟨K,g1,g2,g3⟩:=VP (r:=grownCap w (n+k) c el - (n+k)) (R:=Builtin.zeroCells z.cells (grownCap w (n+k) c el - (n+k))) (el:=el) h.drew (jC.append oY) fY (by rw[Ms,h5]) (by omega);rw[show n+k+(grownCap w (n+k) c el - (n+k))=grownCap w (n+k) c el from by omega]at g3;refine⟨_,_,K,?_,g1,g2,g3,j7.alloc h.drew _⟩;cases A with
 | none=>
   obtain⟨rfl,rfl⟩:=hA rfl;have:us=[]:=ajw (by simpa using zw);subst this;have hr:=run_append_nil (P:=P) w t ty el ti z ht h1 h4 ad k c' vs (by rw[h2,eP]) hvc (by omega) (by omega) (by rw[h3];simp only[ajz]at hb;omega);simpa using hr
 | some a=>
   have hr:=run_append_grow (P:=P) w t ty el ti z ht h1 h4 a n c us (by rw[h2,zw]) (k8 a rfl) ad k c' vs (by rw[h2,eP]) hvc hc (by omega) (by rw[h3];exact growslice_fits (by omega) hb);simpa using hr
theorem Kd (h:WR G O w) {t ty el:TypeId} {te:cM} (ht:P.underlying t=some (.slice el)) (oo:yx P el te) {n k s b o r:Nat} {cells ds:List MV} {tk':Tok} {us:List Value}
  (hs:O.hp s=some .tok) (hg:G.tok s=some (b,o+cells.length,te.size,r)) (jC:aS G cells us) (zw:cells.length=n*te.size) (Mo:∀i u,us[i]?=some u->G.eN b (o+i)=some u)
  (hy:VR G (.sl k ds tk') v) (hl:ds.length=k*te.size) (iB:ds.all eb=true) (hk:k≠0) (hc:n+k<=n+r) (hm:n+r<=maxLen):
  iz P (Builtin.append_ #[t,t] ty #[.slice (some ⟨b,o,none⟩) n (n+r),v]) w G ((O.kill s).push .tok) (.sl (n+k) (cells++ds) (.own O.N te.size)):=by
 obtain⟨ti,z,i1,i2,i3,i4,i5,i6⟩:=oo.info;obtain⟨ad,c',vs,rfl,oY,eP,hvc⟩:=EI h hy hl hk;obtain⟨b',f,k',r',C,T,t1,t2,t3,t4,t5,t6⟩:=h.tok s hs;rw[hg]at t1;simp only[Option.some.injEq,Prod.mk.injEq]at t1;obtain⟨rfl,rfl,rfl,rfl⟩:=t1;have hkr:k*te.size<=r*te.size:=Nat.mul_le_mul_right _ (by omega);have ajF:=ze oY iB;have TP:=run_firstCells_some (P:=P) w te.size k ad k c' vs eP hvc;have cY:=run_storeCells_at P b (o+cells.length) T vs 0 C w t3 (by rw[Nat.add_zero,eP];omega) ajF
 have cD:(Builtin.append_ #[t,t] ty #[.slice (some ⟨b,o,none⟩) n (n+r),.slice (some ad) k c']).run P w=
   .ok (.slice (some ⟨b,o,none⟩) (n+k) (n+r)) (w.setRow b (C.toList.take (o+cells.length+0)++vs++C.toList.drop (o+cells.length+0+vs.length)).toArray):=by
  have hn:k<=r:=by omega
  rw[zw]at cY;simp only[Builtin.append_,run_underlying ht,fH oo,Builtin.lenOf,TP,Sem.run_bind,Result.andThen_ok,Sem.run_pure,anb,Addr.add_lit,cY,zw]<;>simp[run_underlying ht,fH oo,Builtin.lenOf,TP,cY,hn,zw,Addr.add_lit]
 simp only[Nat.add_zero]at cD;generalize hC':(C.toList.take (o+cells.length)++vs++C.toList.drop (o+cells.length+vs.length)).toArray=C' at cD;have hfs:o+cells.length<=C.size:=by omega
 have QO:(C.toList.take (o+cells.length)).length=o+cells.length:=by simp;omega
 have hC1:∀i,i<o+cells.length->C'[i]?=C[i]?:=fun i hi=>by
  rw[<-hC',anb,ani,anj (by omega),VI,if_pos hi];simp
 have EJ:∀i u,vs[i]?=some u->C'[o+cells.length+i]?=some u:=fun i u hu=>by
  have hi:=(aeb.1 hu).1;rw[<-hC',anb,ani,List.getElem?_append_right (by omega),QO,Nat.add_sub_cancel_left,anj hi];exact hu
 have hC3:C'.size=C.size:=by rw[<-hC'];simp;omega
 have cA:=h.kill s
 have EK:∀t c x,(O.kill s).hp t=some .tok->G.tok t=some (c,x)->c≠b:=fun t c x cT QP e=>by
  subst e;have hts:t≠s:=fun e=>by subst e;rw[show(O.kill t).hp t=none from aK _ _ _]at cT;cases cT
  rw[show(O.kill s).hp t=O.hp t from ay _ _ hts]at cT;exact hts (h.me t s c x _ cT hs QP hg)
 have c7:=cA.setRow (C':=C') t2 t3 t6 EK (fun i u hu=>by
  have hi:i<o+cells.length:=by
   rcases anc i (o+cells.length)with h' | h'
   ·exact h'
   ·rw[t5 i h']at hu;cases hu
  rw[hC1 i hi];have:=h.eN b i u hu;simpa[World.cell?,t3]using this)
 have lK:=setRow_heap w b C C' T (0,0) t3;have aeg:∀i u,C'[i]?=some u->(w.setRow b C').cell? ⟨b,i,none⟩=some u:=fun i u hu=>by rw[cell_setRow_same w b i C C' T (0,0) t3];exact hu
 obtain⟨g1,g2⟩:=c7.Ei (b:=b) (f:=fun i=>if i<o+cells.length then G.eN b i else if i<o+cells.length+vs.length then C'[i]? else none)
  (fun i u hu=>by
   have hi:i<o+cells.length:=by
    rcases anc i (o+cells.length)with h' | h'
    ·exact h'
    ·rw[t5 i h']at hu;cases hu
   rw[if_pos hi];exact hu)
  (fun i u hu=>by
   split at hu
   ·exact c7.eN b i u hu
   ·split at hu
    ·exact aeg i u hu
    ·cases hu)
  (fun k _=>t6 k) (fun t c x cT QP e=>absurd e (EK t c _ cT QP))
 have zx:(O.kill s).N=O.N:=rfl
 obtain⟨g3,g4⟩:=g2.TN (b:=b) (f:=o+cells.length+vs.length) (k:=te.size) (r:=r - k) (C:=C') (T:=T) t2 lK
  (by
   rw[hC3,eP];have:(r - k)*te.size=r*te.size - k*te.size:=Nat.sub_mul _ _ _;omega)
  (fun i hi=>by
   show(if b=b then(if i<o+cells.length then G.eN b i else if i<o+cells.length+vs.length then C'[i]? else none)else _)=none;rw[if_pos rfl,if_neg (by omega),if_neg (by omega)])
  t6 (fun t c x cT QP=>EK t c x cT QP)
 refine⟨_,_,_,cD,g1.trans g3,g4,?_,fun k b' qs=>setRow_other w b b' C' (fun e=>t6 k (e▸qs))⟩;have ZN:=jC.append oY;refine .sl (us:=us++vs) ZN.1 (fun i u hu=>?_) (fun i c u a b'=>(ZN.2 i c u a b').mono (g1.trans g3)) (by omega) hm ?_
 ·show(if b=b then(if o+i<o+cells.length then G.eN b (o+i)else if o+i<o+cells.length+vs.length then C'[o+i]? else none)else _)=some u;rw[if_pos rfl];rw[List.getElem?_append]at hu;split at hu
  ·rename_i hi;rw[jC.1]at hi;rw[if_pos (by omega)];exact Mo i u hu
  ·rename_i hi;have dA:=(aeb.1 hu).1;rw[jC.1]at hi dA hu;rw[if_neg (by omega),if_pos (by omega)];have:=EJ _ u hu;rw[<-this];congr 1;omega
 ·refine .inr ⟨r - k,?_,?_,by omega⟩
  ·show bH _ _ _ _=_;rw[zx,aK];simp only[ajB,oY.1]
   congr 2;congr 1;omega
  ·rw[ajB,zw,hl,Nat.add_mul]
theorem Mt (ht:aP P tab) (h:WR G O w) {t ty:TypeId} {x y:MV} (hv:iA tab O t x y=some (m,O')) (hx:VR G x u) (hy:VR G y v):iz P (Builtin.append_ #[t,t] ty #[u,v]) w G O' m:=by
 unfold iA at hv;split at hv
 ·rename_i el k ds tk' hu;have fx:=bM ht hu;split at hv
  ·rename_i te n cells tk he;have oo:=ht _ te he;split at hv
   ·rename_i hc;split at hv
    ·rename_i hk;simp only[Option.some.injEq,Prod.mk.injEq]at hv;obtain⟨rfl,rfl⟩:=hv;subst hk;exact iz.of h (Kc h fx oo hx hy) hx
    ·rename_i hk;split at hv
     ·rename_i iL
      have grow:∀(A:Option Addr) (c:Nat) (us:List Value),(A=none->n=0/\c=0)->aS G cells us->(∀ad,A=some ad->∀j u,us[j]?=some u->w.cell? (ad.add j)=some u)->c<n+k->
        iz P (Builtin.append_ #[t,t] ty #[.slice A n c,v]) w G (O.push .tok) (.sl (n+k) (cells++ds) (.own O.N te.size)):=fun A c us a1 a2 a3 a4=>
       Ai h fx oo a1 a2 (by rw[a2.1,iL.1]) a3 hy hc.1 hk a4 iL.2.1 iL.2.2
      split at hv
      ·simp only[Option.some.injEq,Prod.mk.injEq]at hv;obtain⟨rfl,rfl⟩:=hv;cases hx with
       | slnil=>exact grow none 0 [] (fun _=>⟨rfl,rfl⟩) aS.nil (fun _ h=>by cases h) (by omega)
       | sl h1 h2 h3 h4 h5 h6=>exact h6.elim
      ·simp only[Option.some.injEq,Prod.mk.injEq]at hv;obtain⟨rfl,rfl⟩:=hv;cases hx with
       | sl h1 h2 h3 h4 h5 h6=>
         rename_i us c b o;have h6:c=n:=h6;exact grow _ c us (fun h=>by cases h) ⟨h1,h3⟩ (fun ad e j u hj=>by injection e with e;subst e;rw[Addr.add_lit];exact h.eN _ _ _ (h2 j u hj)) (by omega)
      ·rename_i s k';split at hv
       ·rename_i yd;subst yd;split at hv
        ·rename_i hs;simp only[Option.some.injEq,Prod.mk.injEq]at hv;obtain⟨rfl,rfl⟩:=hv;cases hx with
         | sl h1 h2 h3 h4 h5 h6=>
           rename_i us c b o
           have ZO:c<n+k->iz P (Builtin.append_ #[t,t] ty #[.slice (some ⟨b,o,none⟩) n c,v]) w G ((O.kill s).push .tok) (.sl (n+k) (cells++ds) (.own O.N te.size)):=fun ei=>
            Ai (O:=O.kill s) (h.kill s) fx oo (A:=some ⟨b,o,none⟩) (us:=us) (fun h=>by cases h) ⟨h1,h3⟩ (by rw[h1,iL.1]) (fun ad e j u hj=>by injection e with e;subst e;rw[Addr.add_lit];exact h.eN _ _ _ (h2 j u hj)) hy hc.1 hk ei iL.2.1 iL.2.2
           rcases h6 with h6 | ⟨r,h7,h8,h9⟩
           ·exact ZO (by omega)
           ·by_cases hr:n+k<=c
            ·subst h9;exact Kd h fx oo hs h7 ⟨h1,h3⟩ iL.1 (fun i u hi=>h2 i u hi) hy hc.1 hc.2.1 hk hr h5
            ·exact ZO (by omega)
        ·cases hv
       ·cases hv
      ·cases hv
     ·cases hv
   ·cases hv
  ·cases hv
 ·cases hv
end
section
variable {G H:Gh} {n:Sz} {D:List Deferred} {e:Env} {a:Act} {P:Program} {tab:cg} {O O':VH} {w:World} {m m':MV} {u v:Value}
def B5 (tab:cg) (src dst:TypeId) (x:MV):Option MV:=
 match(tab src).map cM.under,(tab dst).map cM.under,x with
 | some _,some (.int k),.v (.int _ i)=>some (.v (.int k (k.wrap i)))
 | some .string,some .string,.str l=>some (.str l)
 | _,_,_=>none
theorem VS (ht:aP P tab) {src dst:TypeId} (hv:B5 tab src dst m=some m') (hx:VR G m u):bf P (convert src dst u) G m':=by
 unfold B5 at hv;split at hv
 ·injection hv with hv;subst hv;cases hx
  exact bf.of (u:=.int _ _) (fun w _=>by simp[convert,run_underlying (bM ht ‹(tab src).map _=_›),run_underlying (bM ht ‹(tab dst).map _=_›),Conv.intToInt]) (.v rfl)
 ·injection hv with hv;subst hv;cases hx
  exact bf.of (u:=.string _) (fun w _=>by simp[convert,run_underlying (bM ht ‹(tab src).map _=_›),run_underlying (bM ht ‹(tab dst).map _=_›)]) .str
 ·cases hv
theorem _root_.Go.Proofs.YtjpadehgejlebaaGreatDoor.VR.je {x u:Value} (h:VR G (.v x) u):u=x:=by cases h;rfl
def Mu (m:MV):Option MV:=
 match m with
 | .ptr _ _ | .dG _ _=>some m
 | .func (.func _) _ _=>some m
 | _=>none
def gT {α :Type} (parts:Array (Nat×Operand)) (ms:List α):List (Nat× α):=(parts.toList.map (·.1)).zip ms
def xz:MV->Option MV
 | .bz k o _ c=>if c=0 then none else some (.ptr k o)
 | .sl 0 [] .nil=>some (.v (.pointer none))
 | _=>none
theorem QQ (hv:xz m=some m') (hx:VR G m u) {ts:Array TypeId} {ty:TypeId}:bf P (Builtin.unsafeSliceData_ ts ty #[u]) G m':=by
 unfold xz at hv;split at hv
 ·split at hv
  ·cases hv
  ·rename_i k o n c hc;injection hv with hv;subst hv
   cases hx with
   | bz h1 h2 h3=>exact bf.of (u:=.pointer (some _)) (fun w _=>by
     show Sem.run P (if c≠0 then pure (Value.pointer (some _))else _) w=_;rw[if_pos hc];rfl) (.ptr h1)
 ·injection hv with hv;subst hv
  cases hx with
  | slnil=>exact bf.of (u:=.pointer none) (fun w _=>rfl) (.v rfl)
  | sl h1 h2 h3 h4 h5 h6=>exact h6.elim
 ·cases hv
def eX (tab:cg) (o:Oper) (e:Env):Option MV:=
 match o.op with
 | .move x | .assign x=>ev e x
 | .pick c a b=>match ev e c with
   | some (.v (.bool t))=>if t then ev e a else ev e b
   | _=>none
 | .nilCheck x=>(ev e x).bind Mu
 | .binOp op t x y _=>match ev e x,ev e y with
   | some p,some q=>dz tab op t p q
   | _,_=>none
 | .unOp op _ x=>(ev e x).bind (xx op)
 | .convert s d x=>(ev e x).bind (B5 tab s d)
 | .fieldAddr t x f=>(ev e x).bind (jU tab t f)
 | .field t x f=>(ev e x).bind (xq tab t · f)
 | .indexAddr t x i=>match ev e x,ev e i with
   | some p,some q=>ni tab t p q
   | _,_=>none
 | .index t x i=>match ev e x,ev e i with
   | some p,some q=>xr tab t p q
   | _,_=>none
 | .extract x i=>(ev e x).bind (sB · i)
 | .slice t x lo hi mx=>match ev e x,DO lo,DO hi,mx with
   | some p,some l,some h,none=>xy tab t p l h
   | some p,some l,some (some h),some y=>(ev e y).bind (oZ tab t p l h)
   | _,_,_,_=>none
 | .build t parts=>match gh e (parts.toList.map (·.2))with
   | some ms=>xw tab t (gT parts ms)
   | none=>none
 | .load t x=>match ev e x with
   | some (.dG cs off)=>fw tab ⟨0,fun _=>none⟩ t (.dG cs off)
   | _=>none
 | .makeFunc fn fs cs=>match gh e fs.toList,gh e cs.toList with
   | some p,some q=>some (.func fn p q)
   | _,_=>none
 | .makeInterface t x=>match(tab t).map cM.under,ev e x with
   | some (.interface _),_=>none
   | some _,some p=>some (.iface t p)
   | _,_=>none
 | .call c=>match c.callee,c.args.toList,c.argTypes.toList with
   | .builtin .len,[x],[t]=>(ev e x).bind (de tab t)
   | .builtin .max,[x,y],_=>match ev e x,ev e y with
     | some p,some q=>B3 p q
     | _,_=>none
   | .builtin .min,[x,y],_=>match ev e x,ev e y with
     | some p,some q=>B4 p q
     | _,_=>none
   | .builtin .unsafeSliceData,[x],_=>(ev e x).bind xz
   | _,_,_=>none
 | _=>none
where DO:Option Operand->Option (Option MV)
 | none=>some none
 | some x=>(ev e x).map some
theorem Ej (h:FR G n D e a) {x:Option Operand} {y:Option MV} (hx:eX.DO e x=some y):Ka G y (x.map a.eval):=by
 cases x with
 | none=>injection hx with hx;subst hx;trivial
 | some x=>
   obtain⟨m,h1,rfl⟩:=Ml.1 hx;exact h.ev h1
theorem CW {l:List Operand} {ms:List MV} (h:gh e l=some ms):ms.length=l.length:=by
 induction l generalizing ms with
 | nil=>simp[gh]at h;subst h;rfl
 | cons x l ih=>
   simp only[gh,ahX,ahW,Mm]at h;obtain⟨m,h1,ZH,h2,h3⟩:=h;injection h3 with h3;subst h3
   simp[ih h2]
theorem zip_fst {α :Type} (parts:Array (Nat×Operand)) (ms:List α) (h:ms.length=parts.toList.length):(gT parts ms).map (·.1)=parts.toList.map (·.1):=by
 unfold gT;rw[show(List.map (fun x:Nat× α =>x.1) ((parts.toList.map (·.1)).zip ms))=List.map Prod.fst ((parts.toList.map (·.1)).zip ms)from rfl,List.map_fst_zip];simp[h]
theorem Mv {α :Type} (parts:Array (Nat×Operand)) (ms:List α) (h:ms.length=parts.toList.length):(gT parts ms).map (·.2)=ms:=by
 unfold gT;rw[show(List.map (fun x:Nat× α =>x.2) ((parts.toList.map (·.1)).zip ms))=List.map Prod.snd ((parts.toList.map (·.1)).zip ms)from rfl,List.map_snd_zip];simp[h]
theorem EL (a:Act) (parts:Array (Nat×Operand)):((parts.map fun(i,x)=>(i,a.eval x)).toList.map (·.1))=parts.toList.map (·.1):=by simp
theorem EM (a:Act) (parts:Array (Nat×Operand)):((parts.map fun(i,x)=>(i,a.eval x)).toList.map (·.2))=(parts.toList.map (·.2)).map a.eval:=by simp
def dS (P:Program) (o:Oper) (a:Act) (G:Gh) (m:MV):Prop:=∃u,VR G m u/\∀w,SS G w->(execOp a.eval o).run P w= .ok (.value u) w
theorem dS.of {o:Oper} {s:Sem Value} (hs:bf P s G m) (he:execOp a.eval o=(do pure (.value (<-s)))):dS P o a G m:=by
 obtain⟨u,hu,hr⟩:=hs;exact⟨u,hu,fun w hw=>by rw[he,Sem.run_bind,hr w hw];rfl⟩
theorem vC (ht:aP P tab) (h:FR G n D e a) {o:Oper} (hv:eX tab o e=some m):dS P o a G m:=by
 unfold eX at hv;split at hv
 ·rename_i x ho;exact⟨_,h.ev hv,fun w _=>by simp[execOp,ho]⟩
 ·rename_i x ho;exact⟨_,h.ev hv,fun w _=>by simp[execOp,ho]⟩
 ·rename_i c x y ho;split at hv
  ·rename_i t hc;have pB:=h.ev hc;have HA:a.eval c= .bool t:=pB.je;split at hv
   ·rename_i hb;exact⟨_,h.ev hv,fun w _=>by simp[execOp,ho,asBool,HA,hb]⟩
   ·rename_i hb;exact⟨_,h.ev hv,fun w _=>by simp[execOp,ho,asBool,HA,hb]⟩
  ·cases hv
 ·rename_i x ho;obtain⟨p,h1,h2⟩:=Mm.1 hv;have hp:=h.ev h1;generalize hu:a.eval x=u at hp;unfold Mu at h2;split at h2
  ·injection h2 with h2;subst h2
   exact⟨u,hp,fun w _=>by simp only[execOp,ho,hu];cases hp;rfl⟩
  ·injection h2 with h2;subst h2
   exact⟨u,hp,fun w _=>by simp only[execOp,ho,hu];cases hp;rfl⟩
  ·injection h2 with h2;subst h2
   exact⟨u,hp,fun w _=>by simp only[execOp,ho,hu];cases hp;rfl⟩
  ·cases h2
 ·rename_i op t x y yt ho;split at hv
  ·rename_i p q h1 h2;exact dS.of (ZJ (xo:=x) (yo:=y) ht hv (h.ev h1) (h.ev h2)) (by simp[execOp,ho])
  ·cases hv
 ·rename_i op t x ho;obtain⟨p,h1,h2⟩:=Mm.1 hv;exact dS.of (QK h2 (h.ev h1)) (by simp[execOp,ho])
 ·rename_i s d x ho;obtain⟨p,h1,h2⟩:=Mm.1 hv;exact dS.of (VS ht h2 (h.ev h1)) (by simp[execOp,ho])
 ·rename_i t x f ho;obtain⟨p,h1,h2⟩:=Mm.1 hv;exact dS.of (EF ht h2 (h.ev h1)) (by simp[execOp,ho])
 ·rename_i t x f ho;obtain⟨p,h1,h2⟩:=Mm.1 hv;exact dS.of (QH ht h2 (h.ev h1)) (by simp[execOp,ho])
 ·rename_i t x i ho;split at hv
  ·rename_i p q h1 h2;exact dS.of (EG ht hv (h.ev h1) (h.ev h2)) (by simp[execOp,ho])
  ·cases hv
 ·rename_i t x i ho;split at hv
  ·rename_i p q h1 h2;exact dS.of (QI ht hv (h.ev h1) (h.ev h2)) (by simp[execOp,ho])
  ·cases hv
 ·rename_i x i ho;obtain⟨p,h1,h2⟩:=Mm.1 hv;exact dS.of (J9 h2 (h.ev h1)) (by simp[execOp,ho])
 ·rename_i t x lo hi mx ho;split at hv
  ·rename_i p l hh h1 h2 h3;exact dS.of (QL ht hv (h.ev h1) (Ej h h2) (Ej h h3)) (by simp[execOp,ho])
  ·rename_i p l hh y h1 h2 h3;obtain⟨q,h4,h5⟩:=Mm.1 hv;have h6:=Ej h h3;cases hi with
   | none=>cases h3
   | some hi=>exact dS.of (Mr ht h5 (h.ev h1) (Ej h h2) h6 (h.ev h4)) (by simp[execOp,ho])
  ·cases hv
 ·rename_i t parts ho;split at hv
  ·rename_i ms h1;have hl:=CW h1;have oz:ms.length=parts.toList.length:=by simpa using hl
   refine dS.of (QJ ht hv (ps:=parts.map fun(i,x)=>(i,a.eval x)) ?_ ?_) (by simp[execOp,ho])
   ·rw[zip_fst parts ms oz,EL]
   ·rw[Mv parts ms oz,EM];exact h.gh h1
  ·cases hv
 ·rename_i t x ho;split at hv
  ·rename_i cs off h1;exact dS.of (QF ht hv (h.ev h1)) (by simp[execOp,ho])
  ·cases hv
 ·rename_i fn fs cs ho;split at hv
  ·rename_i p q h1 h2;injection hv with hv;subst hv
   have e1:=h.gh h1;have e2:=h.gh h2;refine⟨.func fn (fs.toList.map a.eval).toArray (cs.toList.map a.eval).toArray,.func e1.1 e1.2 e2.1 e2.2,fun w _=>?_⟩;have f1:fs.map a.eval=(fs.toList.map a.eval).toArray:=by apply aee;simp
   have f2:cs.map a.eval=(cs.toList.map a.eval).toArray:=by apply aee;simp
   simp only[execOp,ho,Instr.makeFunc,f1,f2];rfl
  ·cases hv
 ·rename_i t x ho;split at hv
  ·cases hv
  ·rename_i d p hne hd h1;injection hv with hv;subst hv
   have fx:=bM ht hd;refine dS.of (s:=Instr.makeInterface t (a.eval x)) (bf.of (u:=.iface t (a.eval x)) (fun w _=>?_) (.iface (h.ev h1))) (by simp[execOp,ho]);simp only[Instr.makeInterface,Sem.run_bind,run_underlying fx,Result.andThen_ok]
   cases d<;>first
    | rfl
    | (rename_i ms;exact absurd hd (hne ms))
  ·cases hv
 ·rename_i c ho;split at hv
  ·rename_i x t hc iN Mw;obtain⟨p,h1,h2⟩:=Mm.1 hv;have ha:c.args= #[x]:=by apply aee;exact iN
   have fQ:c.argTypes= #[t]:=by apply aee;exact Mw
   exact dS.of (ZL (ty:=o.type) ht h2 (h.ev h1)) (by simp[execOp,ho,resolve,hc,ha,fQ,invoke,builtin])
  ·rename_i x y hc iN;split at hv
   ·rename_i p q h1 h2;have ha:c.args= #[x,y]:=by apply aee;exact iN
    exact dS.of (VN (ts:=c.argTypes) (ty:=o.type) hv (h.ev h1) (h.ev h2)) (by simp[execOp,ho,resolve,hc,ha,invoke,builtin])
   ·cases hv
  ·rename_i x y hc iN;split at hv
   ·rename_i p q h1 h2;have ha:c.args= #[x,y]:=by apply aee;exact iN
    exact dS.of (VO (ts:=c.argTypes) (ty:=o.type) hv (h.ev h1) (h.ev h2)) (by simp[execOp,ho,resolve,hc,ha,invoke,builtin])
   ·cases hv
  ·rename_i x hc iN;obtain⟨p,h1,h2⟩:=Mm.1 hv;have ha:c.args= #[x]:=by apply aee;exact iN
   exact dS.of (QQ (ts:=c.argTypes) (ty:=o.type) h2 (h.ev h1)) (by simp[execOp,ho,resolve,hc,ha,invoke,builtin])
  ·cases hv
 ·cases hv
end
open Go.MapKept (IsKey run_checkKey run_findKey run_setObj_map)
section
variable {G H:Gh} {n:Sz} {D:List Deferred} {e:Env} {a:Act} {P:Program} {tab:cg} {O O':VH} {w:World} {m m':MV} {u v:Value}
theorem pC {w:World} {b j:Nat} (o:Obj) (h:j≠b):({w with heap:=w.heap.setIfInBounds b o}:World).heap[j]?=w.heap[j]?:=
 ame (Ne.symm h)
theorem vD {w:World} {b:Nat} {x:Obj} (o:Obj) (h:w.heap[b]?=some x):({w with heap:=w.heap.setIfInBounds b o}:World).heap[b]?=some o:=
 Array.getElem?_setIfInBounds_self_of_lt (rH h)
theorem uP {w:World} {b:Nat} (o:Obj) {a:Addr} (h:a.block≠b):({w with heap:=w.heap.setIfInBounds b o}:World).cell? a=w.cell? a:=by
 unfold World.cell?;rw[pC o h]
abbrev vE:=List (MV×MV×Nat)
structure ie (G:Gh) (es:vE) (E:List MapEntry):Prop where
 born:E.map (·.born)=es.map (·.2.2)
 key:aS G (es.map (·.1)) (E.map (·.key))
 val:aS G (es.map (·.2.1)) (E.map (·.val))
theorem ie.nil:ie G [] []:=⟨rfl,aS.nil,aS.nil⟩
theorem ie.cons {x:MV×MV×Nat} {y:MapEntry} {es:vE} {E:List MapEntry} (h1:y.born=x.2.2) (h2:VR G x.1 y.key) (h3:VR G x.2.1 y.val) (h:ie G es E):ie G (x::es) (y::E):=
 ⟨by rw[ajy,ajy,h1,h.born],aS.cons h2 h.key,aS.cons h3 h.val⟩
theorem ie.eW {x:MV×MV×Nat} {es:vE} {E:List MapEntry} (h:ie G (x::es) E):∃y E',E=y::E'/\y.born=x.2.2/\VR G x.1 y.key/\VR G x.2.1 y.val/\ie G es E':=by
 cases E with
 | nil=>have:=h.born;simp at this
 | cons y E=>
   have h1:=h.born;simp only[ajy,List.cons.injEq]at h1;exact⟨y,E,rfl,h1.1,h.key.head,h.val.head,⟨h1.2,h.key.tail,h.val.tail⟩⟩
theorem ie.iP {E:List MapEntry} (h:ie G [] E):E=[]:=by
 cases E with
 | nil=>rfl
 | cons y E=>have:=h.born;simp at this
theorem ie.append {es fs:vE} {E F:List MapEntry} (h:ie G es E) (k:ie G fs F):ie G (es++fs) (E++F):=
 ⟨by simp[h.born,k.born],by simpa using aS.append h.key k.key,by simpa using aS.append h.val k.val⟩
theorem WR.tR (h:WR G O w) {k b ck ck':Nat} {es HB:vE} {E':Array MapEntry} {x:Obj} (hk:O.hp k=some (.map es ck)) (hp:G.bV k=some b) (hb:w.heap[b]?=some x) (hr:ie G HB E'.toList):
  WR G (O.set k (.map HB ck')) {w with heap:=w.heap.setIfInBounds b (.map E' ck')}:=by
 have hne:∀j b',j≠k->O.hp j≠none->G.bV j=some b'->b'≠b:=fun j b' hj lj lK e=>hj (h.inj j k b lj (by rw[hk];simp) (e▸lK) hp)
 have j6:∀j,bH O.hp k (some (.map HB ck')) j≠none->O.hp j≠none:=fun j hn=>by
  by_cases e:j=k
  ·subst e;rw[hk];simp
  ·rwa [ay _ _ e]at hn
 have nJ:=vD (.map E' ck') hb;have eT:∀j,j≠b->({w with heap:=w.heap.setIfInBounds b (.map E' ck')}:World).heap[j]?=w.heap[j]?:=fun j hj=>pC _ hj
 have hB:=(h.kH k b hp).1
 have QR:∀b' s,w.shape? b'=some s->b'≠b:=fun b' s hs e=>by
  subst e;obtain⟨b2,E,g1,g2,_⟩:=h.map k es ck hk;rw[hp]at g1;injection g1 with g1;subst g1
  simp only[World.shape?,g2]at hs;cases hs
 refine⟨⟨h.base.os,h.base.tape,h.base.output,by simpa using h.base.size,fun j hj=>?_⟩,fun b' o u' pB=>?_,fun j hj=>?_,fun j b' hj=>?_,fun j k' b' lj lk=>h.inj j k' b' (j6 j lj) (j6 k' lk),fun j ds hj=>?_,fun j es2 ck2 hj=>?_,fun t ht=>?_,fun s t b' x y hs ht=>?_,h.py id (mU (by simp)) fun j b' s hj hs=>iQ (fun x hx=>by rw[eT _ (QR b' s hs)];exact hx) hs,h.r5 id (vy (by simp)) fun j x b' hj hb hx=>by rw[eT b' (fun e=>by have:=h.inj j k b (by rw[hj];simp) (by rw[hk];simp) (e▸hb) hp;subst this;rw[hk]at hj;cases hj)];exact hx,h.rA,h.r6 (Gh.Le.refl _) (nh (by simp))⟩
 ·rw[eT j (by omega)];exact h.base.block j hj
 ·have yZ:b'≠b:=fun e=>by subst e;rw[(h.kH k b' hp).2.2 (by rw[hk];simp) o]at pB;cases pB
  rw[uP _ (by exact yZ)];exact h.eN b' o u' pB
 ·obtain⟨d1,d2,d3⟩:=h.ql j hj;refine⟨d1,d2,?_⟩;show bH _ _ _ _=_;rw[ay _ _ (fun e=>by subst e;rw[d3]at hk;cases hk)];exact d3
 ·obtain⟨p1,p2,p3⟩:=h.kH j b' hj;refine⟨p1,by simpa using p2,fun hne=>p3 ?_⟩;have hne:bH O.hp k (some (.map HB ck')) j≠none:=hne;by_cases e:j=k
  ·subst e;rw[hk];simp
  ·rwa [ay _ _ e]at hne
 ·have hj:bH O.hp k (some (.map HB ck')) j=some (.cells ds):=hj;by_cases e:j=k
  ·subst e;rw[aK]at hj;cases hj
  ·rw[ay _ _ e]at hj;obtain⟨b',C,T,d1,d2,d3⟩:=h.cells j ds hj;exact⟨b',C,T,d1,by rw[eT _ (hne j b' e (by rw[hj];simp) d1)];exact d2,d3⟩
 ·have hj:bH O.hp k (some (.map HB ck')) j=some (.map es2 ck2):=hj;by_cases e:j=k
  ·subst e;rw[aK]at hj;injection hj with hj;injection hj with hj aM;subst hj;subst aM
   exact⟨b,E',hp,nJ,hr.born,hr.key,hr.val⟩
  ·rw[ay _ _ e]at hj;obtain⟨b',D,d1,d2,d3⟩:=h.map j es2 ck2 hj;exact⟨b',D,d1,by rw[eT _ (hne j b' e (by rw[hj];simp) d1)];exact d2,d3⟩
 ·have ht:bH O.hp k (some (.map HB ck')) t=some .tok:=ht;have e:t≠k:=fun e=>by subst e;rw[aK]at ht;cases ht
  rw[ay _ _ e]at ht;obtain⟨b',f,k',r,D,T',d1,d2,d3,d4,d6,d7⟩:=h.tok t ht;exact⟨b',f,k',r,D,T',d1,d2,by rw[eT _ (fun e=>d7 k (by rw[e];exact hp))];exact d3,d4,d6,d7⟩
 ·have hs:bH O.hp k (some (.map HB ck')) s=some .tok:=hs;have ht:bH O.hp k (some (.map HB ck')) t=some .tok:=ht;have e:t≠k:=fun e=>by subst e;rw[aK]at ht;cases ht
  have e':s≠k:=fun e=>by subst e;rw[aK]at hs;cases hs
  rw[ay _ _ e]at ht;rw[ay _ _ e']at hs;exact h.me s t b' x y hs ht
theorem WR.ZP (h:WR G O w):G.Le {G with bV:=bH G.bV O.N (some w.heap.size)}/\WR {G with bV:=bH G.bV O.N (some w.heap.size)} (O.push (.map [] 0)) (w.alloc (.map #[] 0)):=by
 have hle:=Gh.Le.J7 h.ng.1 w.heap.size;have hg:=h.grow (.map #[] 0)
 have eS:∀k b,bH G.bV O.N (some w.heap.size) k=some b->(k=O.N/\b=w.heap.size)\/(k≠O.N/\G.bV k=some b):=fun k b hk=>by
  by_cases e:k=O.N
  ·subst e;rw[aK]at hk;injection hk with hk;exact .inl ⟨rfl,hk.symm⟩
  ·rw[ay _ _ e]at hk;exact .inr ⟨e,hk⟩
 have QC:∀o,G.eN w.heap.size o=none:=h.xk
 refine⟨hle,hg.base,hg.eN,fun k hk=>?_,fun k b hk=>?_,fun j k b lj lk hj hk=>?_,fun k ds hk=>?_,fun k es ck hk=>?_,fun t ht=>?_,fun s t b x y hs ht h1 h2=>?_,h.py hle.bV (mU (by simp)) fun _ _ _ _=>iQ fun _=>dV w _,h.r5 hle.bV (vy (by simp)) fun _ _ _ _ _=>dV w _,h.rA,h.r6 hle (nh (by simp))⟩
 ·have hk:O.N+1<=k:=hk;obtain⟨h1,h2,h3⟩:=h.ql k (by omega);exact⟨by show bH _ _ _ _=_;rw[ay _ _ (by omega)];exact h1,h2,by show bH _ _ _ _=_;rw[ay _ _ (by omega)];exact h3⟩
 ·rcases eS k b hk with⟨_,rfl⟩ | ⟨cA,hk⟩
  ·exact⟨h.ZC,by simp,fun _=>QC⟩
  ·obtain⟨p1,p2,p3⟩:=hg.kH k b hk;exact⟨p1,p2,fun hne=>p3 (by have hne:bH O.hp O.N (some (.map [] 0)) k≠none:=hne;rwa [ay _ _ cA]at hne)⟩
 ·rcases eS j b hj with⟨rfl,rfl⟩ | ⟨cB,hj⟩<;>rcases eS k _ hk with⟨rfl,hb⟩ | ⟨cA,hk⟩
  ·rfl
  ·have:=(h.kH _ _ hk).2.1;omega
  ·subst hb;have:=(h.kH _ _ hj).2.1;omega
  ·exact h.inj j k b (by have lj:bH O.hp O.N (some (.map [] 0)) j≠none:=lj;rwa [ay _ _ cB]at lj) (by have lk:bH O.hp O.N (some (.map [] 0)) k≠none:=lk;rwa [ay _ _ cA]at lk) hj hk
 ·have hk:bH O.hp O.N (some (.map [] 0)) k=some (.cells ds):=hk;by_cases e:k=O.N
  ·subst e;rw[aK]at hk;cases hk
  ·rw[ay _ _ e]at hk;obtain⟨b,C,T,h1,h2,h3⟩:=hg.cells k ds hk;exact⟨b,C,T,hle.bV h1,h2,h3.mono hle⟩
 ·have hk:bH O.hp O.N (some (.map [] 0)) k=some (.map es ck):=hk;by_cases e:k=O.N
  ·subst e;rw[aK]at hk;injection hk with hk;injection hk with hk bN;subst hk;subst bN
   exact⟨w.heap.size, #[],aK _ _ _,by rw[fG,if_pos rfl],rfl,aS.nil,aS.nil⟩
  ·rw[ay _ _ e]at hk;obtain⟨b,E,h1,h2,h3,h4,h5⟩:=hg.map k es ck hk;exact⟨b,E,hle.bV h1,h2,h3,h4.mono hle,h5.mono hle⟩
 ·have ht:bH O.hp O.N (some (.map [] 0)) t=some .tok:=ht;by_cases e:t=O.N
  ·subst e;rw[aK]at ht;cases ht
  ·rw[ay _ _ e]at ht;obtain⟨b,f,k,r,D,T',h1,h2,h3,h4,h6,h7⟩:=hg.tok t ht;obtain⟨_,_,_,_,_,_,ZE,_,ZF,_⟩:=h.tok t ht;refine⟨b,f,k,r,D,T',h1,h2,h3,h4,h6,fun j hj=>?_⟩;rcases eS j b hj with⟨_,rfl⟩ | ⟨_,hj⟩
   ·rw[h1]at ZE;injection ZE with e1;injection e1 with e1 _;subst e1
    have:=rH ZF;omega
   ·exact h7 j hj
 ·have hs:bH O.hp O.N (some (.map [] 0)) s=some .tok:=hs;have ht:bH O.hp O.N (some (.map [] 0)) t=some .tok:=ht;have es:s≠O.N:=fun e=>by subst e;rw[aK]at hs;cases hs
  have et:t≠O.N:=fun e=>by subst e;rw[aK]at ht;cases ht
  rw[ay _ _ es]at hs;rw[ay _ _ et]at ht;exact h.me s t b x y hs ht h1 h2
theorem bytes_beq (a b:List UInt8):((⟨⟨a⟩⟩:ByteArray)==⟨⟨b⟩⟩)=(a==b):=by
 show((⟨a⟩:Array UInt8)==⟨b⟩)=(a==b);rw[Bool.eq_iff_iff,beq_iff_eq,beq_iff_eq,Array.mk.injEq]
def Ke (d:TypeDesc) (x y:MV):Option Bool:=
 match d,x,y with
 | .int _,.v (.int k a),.v (.int k' b)=>if k=k' then some (a==b)else none
 | .string,.str a,.str b=>some (a==b)
 | _,_,_=>none
theorem Is {d:TypeDesc} {x y:MV} {u v:Value} {b:Bool} (h:Ke d x y=some b) (hx:VR G x u) (hy:VR G y v):Instr.sameNow d u v=some b/\(b=true->Instr.sameBits 10000 v u=true):=by
 unfold Ke at h;split at h
 ·split at h
  ·rename_i he;subst he;injection h with h;cases hx;cases hy
   refine⟨by simp[Instr.sameNow,h],fun hb=>?_⟩;rw[hb]at h;have:=eq_of_beq h;subst this;simp[Instr.sameBits]
  ·cases h
 ·injection h with h;cases hx;cases hy;refine⟨by rw[<-h];exact congrArg some (bytes_beq _ _),fun hb=>?_⟩;rw[hb]at h;have:=eq_of_beq h;subst this;show((_:ByteArray)==_)=true;rw[bytes_beq];exact h
 ·cases h
def qt (d:TypeDesc) (k:MV):vE->Nat->Option (Option (Nat×MV))
 | [],_=>some none
 | e::es,i=>match Ke d k e.1 with
   | some true=>some (some (i,e.2.1))
   | some false=>qt d k es (i+1)
   | none=>none
theorem sC {d:TypeDesc} {k:MV} {kv:Value} (hk:VR G k kv):∀{es:vE} {E:List MapEntry} {i:Nat} {r:Option (Nat×MV)},qt d k es i=some r->ie G es E->
  match r with
  | none=>Instr.findNow d kv E i=some none
  | some (j,m)=>∃v,Instr.findNow d kv E i=some (some (j,v))/\VR G m v/\i<=j/\(E[j - i]?).map (fun e=>Instr.sameBits 10000 e.key kv)=some true/\j - i<E.length
 | [],E,i,r,h,hr=>by
   rw[hr.iP];injection h with h;subst h
   rfl
 | x::es,E,i,r,h,hr=>by
   obtain⟨y,E',rfl,h1,h2,h3,h4⟩:=hr.eW;rw[qt]at h;split at h
   ·rename_i hs;injection h with h;subst h
    obtain⟨g1,g3⟩:=Is hs hk h2;exact⟨y.val,by simp[Instr.findNow,g1],h3,agu _,by simp[g3],by simp⟩
   ·rename_i hs;obtain⟨g1,_⟩:=Is hs hk h2;have ih:=sC hk h h4;cases r with
    | none=>simp only[Instr.findNow,g1];exact ih
    | some p=>
      obtain⟨j,m⟩:=p;obtain⟨v,i1,i2,i3,i4,i5⟩:=ih;refine⟨v,by simp only[Instr.findNow,g1];exact i1,i2,by omega,?_,by simp;omega⟩;rw[show j - i=(j - (i+1))+1 by omega,anm];exact i4
   ·cases h
def yy (d:TypeDesc) (k:MV):Bool:=
 match d,k with
 | .int k,.v (.int k' _)=>decide (k'=k)
 | .string,.str _=>true
 | _,_=>false
theorem Aj {d:TypeDesc} {k:MV} {kv:Value} (h:yy d k=true) (hk:VR G k kv):IsKey d kv:=by
 unfold yy at h;split at h
 ·cases hk;simpa[IsKey]using h
 ·cases hk;simp[IsKey]
 ·cases h
def xA (i:cM):Option MV:=if eg i.under then some (.agg i.zero)else i.zero[0]?
theorem zy {t:TypeId} {i:cM} (h:yx P t i) (hm:xA i=some m):∃z,(∀w,(zeroValue t).run P w= .ok z w)/\∀G,VR G m z:=by
 obtain⟨ti,z,h1,_,_,h4,h5,h6⟩:=h.info;refine⟨z,fun w=>by simp[zeroValue,typeInfo,h1,h4],fun G=>?_⟩;obtain⟨w1,w2⟩:=h.whole ti z h1 h4;have h6:=h6 G;unfold xA at hm;split at hm
 ·rename_i ha;injection hm with hm;subst hm
  obtain⟨cs,rfl⟩:=w1 ha;exact VR.agg h6.1 h6.2
 ·rename_i ha;have ha:eg i.under=false:=by simpa using ha
  rw[w2 ha]at h6;obtain⟨u,hu,hv⟩:=h6.get hm;have:i.zero.length=1:=by have:=h6.1;simpa using this.symm
  have h0:(0:Nat)<1:=by omega
  simp only[Array.toList,anl,Option.some.injEq]at hu;subst hu;exact hv
def mapOf (O:VH):MV->Option vE
 | .v (.map none)=>some []
 | .map b=>match O.hp b with
   | some (.map es _)=>some es
   | _=>none
 | _=>none
def ig (tab:cg) (O:VH) (t:TypeId) (x k:MV) (ok:Bool):Option MV:=
 match(tab t).map cM.under with
 | some (.map kt et)=>match(tab kt).map cM.under,tab et with
   | some kd,some te=>
     match yy kd k,(mapOf O x).bind (qt kd k · 0)with
     | true,some (some (_,m))=>some (if ok then .tuple [m,.v (.bool true)]else m)
     | true,some none=>(xA te).map fun z=>if ok then .tuple [z,.v (.bool false)]else z
     | _,_=>none
   | _,_=>none
 | _=>none
theorem tS (ht:aP P tab) {t:TypeId} {d:TypeDesc} (h:(tab t).map cM.under=some d):P.underlying t=some d:=by
 obtain⟨i,hi,hu⟩:=Ml.1 h;rw[<-hu];exact(ht t i hi).under
theorem yz (ht:aP P tab) (h:WR G O w) {t:TypeId} {x k:MV} {ok:Bool} {u kv:Value} (hv:ig tab O t x k ok=some m) (hx:VR G x u) (hk:VR G k kv):∃r,VR G m r/\∀y,Sx G w y->(Instr.lookup t u kv ok).run P y= .ok r y:=by
 unfold ig at hv;split at hv
 ·rename_i kt et ZQ;have hU:=tS ht ZQ;split at hv
  ·rename_i kd te vF oo;have hK:=tS ht vF
   have cD:∀(es:vE),mapOf O x=some es->∃E:Array MapEntry,ie G es E.toList/\((u= .map none/\E= #[])\/∃r ck,u= .map (some r)/\∀y,Sx G w y->y.heap[r]?=some (.map E ck)):=by
    intro es EN;unfold mapOf at EN;split at EN
    ·injection EN with EN;subst EN
     cases hx;exact⟨#[],ie.nil,.inl ⟨rfl,rfl⟩⟩
    ·rename_i b;split at EN
     ·rename_i HB ck hb;injection EN with EN;subst EN
      cases hx with
      | map h1=>
        obtain⟨b',E,e1,e2,e3,e4,e5⟩:=h.map _ _ _ hb;rw[h1]at e1;injection e1 with e1;subst e1
        exact⟨E,⟨e3,e4,e5⟩,.inr ⟨_,_,rfl,fun y hy=>(hy.2 _ _ h1).trans e2⟩⟩
     ·cases EN
    ·cases EN
   split at hv
   ·rename_i j m2 tT hf;injection hv with hv;obtain⟨es,h1,h2⟩:=Mm.1 hf;obtain⟨E,hE,ZR⟩:=cD es h1;obtain⟨v,f1,f2,_⟩:=sC hk h2 hE;have uQ:=Aj tT hk;refine⟨if ok then .tuple #[v,.bool true]else v,?_,fun y hy=>?_⟩;rotate_left
    ·rcases ZR with⟨rfl,rfl⟩ | ⟨r,ck,rfl,hb⟩
     ·simp only[Instr.lookup,Sem.run_bind,run_underlying hU,Result.andThen_ok,run_checkKey hK uQ,run_findKey hK f1,Sem.run_pure]
     ·simp only[Instr.lookup,Sem.run_bind,run_underlying hU,Result.andThen_ok,MapKept.run_getObj_map (hb y hy),run_checkKey hK uQ,run_findKey hK f1,Sem.run_pure]
    ·subst hv;cases ok
     ·exact f2
     ·exact VR.tuple (us:=[v,.bool true]) rfl (aS.cons f2 (aS.cons (.v rfl) aS.nil)).2
   ·rename_i tT hf;obtain⟨z,hz,hzm⟩:=Ml.1 hv;obtain⟨es,h1,h2⟩:=Mm.1 hf;obtain⟨E,hE,ZR⟩:=cD es h1;have f1:=sC hk h2 hE;have uQ:=Aj tT hk;obtain⟨zv,z1,z2⟩:=zy (ht et te oo) hz;refine⟨if ok then .tuple #[zv,.bool false]else zv,?_,fun y hy=>?_⟩;rotate_left
    ·rcases ZR with⟨rfl,rfl⟩ | ⟨r,ck,rfl,hb⟩
     ·simp only[Instr.lookup,Sem.run_bind,run_underlying hU,Result.andThen_ok,run_checkKey hK uQ,run_findKey hK f1,Sem.run_pure,z1]
     ·simp only[Instr.lookup,Sem.run_bind,run_underlying hU,Result.andThen_ok,MapKept.run_getObj_map (hb y hy),run_checkKey hK uQ,run_findKey hK f1,Sem.run_pure,z1]
    ·subst hzm;cases ok
     ·exact z2 G
     ·exact VR.tuple (us:=[zv,.bool false]) rfl (aS.cons (z2 G) (aS.cons (.v rfl) aS.nil)).2
   ·cases hv
  ·cases hv
 ·cases hv
theorem Mx (ht:aP P tab) (h:WR G O w) {t:TypeId} {x k:MV} {ok:Bool} {u kv:Value} (hv:ig tab O t x k ok=some m) (hx:VR G x u) (hk:VR G k kv):agw P (Instr.lookup t u kv ok) w G m:=by
 obtain⟨r,h1,h2⟩:=yz (P:=P) ht h hv hx hk;exact⟨r,h2 w h.sx,h1⟩
def setAt (es:vE) (i:Nat) (k v:MV):vE:=es.modify i fun e=>(k,v,e.2.2)
def eB (tab:cg) (O:VH) (t:TypeId) (x k y:MV):Option VH:=
 match(tab t).map cM.under,x with
 | some (.map kt _),.map b=>match(tab kt).map cM.under,O.hp b with
   | some kd,some (.map es ck)=>match yy kd k,qt kd k es 0 with
     | true,some (some (i,_))=>some (O.set b (.map (setAt es i k y) ck))
     | true,some none=>some (O.set b (.map (es++[(k,y,ck)]) (ck+1)))
     | _,_=>none
   | _,_=>none
 | _,_=>none
theorem ie.modify {k y:MV} {kv yv:Value} (hk:VR G k kv) (hy:VR G y yv):∀{es:vE} {E:List MapEntry} (i:Nat),ie G es E->ie G (setAt es i k y) (E.modify i fun e=>{e with key:=kv,val:=yv})
 | [],E,i,h=>by rw[h.iP];simpa[setAt]using ie.nil
 | x::es,E,i,h=>by
   obtain⟨z,E',rfl,h1,h2,h3,h4⟩:=h.eW;cases i with
   | zero=>simp only[setAt,List.modify_zero_cons];exact ie.cons h1 hk hy h4
   | succ i=>
     simp only[setAt,List.modify_succ_cons];exact ie.cons h1 h2 h3 (ie.modify hk hy i h4)
theorem vG (ht:aP P tab) (h:WR G O w) {t:TypeId} {x k y:MV} {u kv yv:Value} (hv:eB tab O t x k y=some O') (hx:VR G x u) (hk:VR G k kv) (hy:VR G y yv):J8 P (Instr.mapUpdate t u kv yv) w G O':=by
 unfold eB at hv;split at hv
 ·rename_i kt et b ZQ;have hU:=tS ht ZQ;split at hv
  ·rename_i kd es ck vF hb;have hK:=tS ht vF;cases hx with
   | map h1=>
     obtain⟨b',E,e1,e2,e3,e4,e5⟩:=h.map _ _ _ hb;rw[h1]at e1;injection e1 with e1;subst e1
     have hE:ie G es E.toList:=⟨e3,e4,e5⟩;split at hv
     ·rename_i i m tT hf;injection hv with hv;subst hv
      obtain⟨v,f1,f2,f3,f4,f5⟩:=sC hk hf hE;have uQ:=Aj tT hk;simp only[Nat.sub_zero]at f4 f5;have p7:i<E.size:=by simpa using f5
      have yd:Instr.sameBits 10000 (((E[i]?).map (·.key)).getD kv) kv=true:=by
       rw[ahZ p7];simp only[Array.getElem?_toList,ahZ p7,ahV,Option.some.injEq]at f4;exact f4
      have hr:ie G (setAt es i k y) (E.modify i fun e=>{e with key:=kv,val:=yv}).toList:=by
       have:=ie.modify hk hy i hE
       rwa [<-Array.toList_modify]at this
      refine⟨_,G,?_,Gh.Le.refl G,h.tR (ck':=ck) hb h1 e2 hr⟩;simp only[Instr.mapUpdate,Sem.run_bind,run_underlying hU,Result.andThen_ok,MapKept.run_getObj_map e2,run_checkKey hK uQ,run_findKey hK f1];rw[Instr.keyThatStays,if_pos yd];simp only[Sem.run_pure,Result.andThen_ok,run_setObj_map _ e2]
     ·rename_i tT hf;injection hv with hv;subst hv
      have f1:=sC hk hf hE;have uQ:=Aj tT hk
      have hr:ie G (es++[(k,y,ck)]) (E.push {key:=kv,val:=yv,born:=ck}).toList:=by
       rw[Array.toList_push];exact hE.append (ie.cons rfl hk hy ie.nil)
      refine⟨_,G,?_,Gh.Le.refl G,h.tR (ck':=ck+1) hb h1 e2 hr⟩;simp only[Instr.mapUpdate,Sem.run_bind,run_underlying hU,Result.andThen_ok,MapKept.run_getObj_map e2,run_checkKey hK uQ,run_findKey hK f1,run_setObj_map _ e2]
     ·cases hv
  ·cases hv
 ·cases hv
theorem Kf (h:WR G O w) {t:TypeId}:iz P (Instr.makeMap t none) w G (O.push (.map [] 0)) (.map O.N):=by
 obtain⟨h1,h2⟩:=h.ZP;exact⟨_,_,_,by simp[Instr.makeMap,newObj,Sem.run],h1,h2,.map (aK _ _ _),j7.alloc h _⟩
end
section
variable {G H:Gh} {n:Sz} {D:List Deferred} {e e':Env} {a:Act} {P:Program} {tab:cg} {O O':VH} {w:World} {m m':MV} {u v:Value}
def fV:List MV->Bool
 | [.v (.pointer none),.sl 0 [] .nil]=>true
 | _=>false
def xB (O:VH) (t:TypeId) (n:Nat) (z:List MV):VH:=bif fV z then(O.push (.cells z)).push (.shape O.N t n)else O.push (.cells z)
theorem WR.EO (h:WR G O w) {k b:Nat} {t:TypeId} {s:Nat} (hp:G.bV k=some b) (hs:w.shape? b=some (t,s)):WR G (O.push (.shape k t s)) w:=by
 have hne:∀{j x},bH O.hp O.N (some (.shape k t s)) j=some x->(∀k t n,x≠ .shape k t n)->O.hp j=some x:=fun{j x} hj hx=>by
  by_cases e:j=O.N
  ·subst e;rw[aK]at hj;injection hj with hj;exact absurd hj.symm (hx _ _ _)
  ·rwa [ay _ _ e]at hj
 have j6:∀j b,G.bV j=some b->bH O.hp O.N (some (.shape k t s)) j≠none->O.hp j≠none:=fun j b hj hn=>by
  rwa [ay _ _ (fun e=>by subst e;rw[h.ng.1]at hj;cases hj)]at hn
 refine⟨h.base,h.eN,fun j hj=>?_,fun j c hj=>?_,fun i j c li lj hi hj=>h.inj i j c (j6 i c hi li) (j6 j c hj lj) hi hj,fun j cs hj=>h.cells j cs (hne hj (by simp)),fun j es ck hj=>h.map j es ck (hne hj (by simp)),fun t ht=>h.tok t (hne ht (by simp)),fun s t c x y hs ht=>h.me s t c x y (hne hs (by simp)) (hne ht (by simp)),fun j k' t' n' hj=>?_,fun j x hj=>h.obj j x (hne hj (by simp)),h.rA,fun k p hk=>h.B0 k p (hne hk (by simp))⟩
 ·have hj:O.N+1<=j:=hj;obtain⟨h1,h2,h3⟩:=h.ql j (by omega);exact⟨h1,h2,by show bH _ _ _ _=_;rw[ay _ _ (by omega)];exact h3⟩
 ·obtain⟨p1,p2,p3⟩:=h.kH j c hj;exact⟨p1,p2,fun hn=>p3 (j6 j c hj hn)⟩
 ·have hj:bH O.hp O.N (some (.shape k t s)) j=some (.shape k' t' n'):=hj;by_cases e:j=O.N
  ·subst e;rw[aK]at hj;injection hj with hj;injection hj with e1 e2 e3;subst e1;subst e2;subst e3;exact⟨b,hp,hs⟩
  ·rw[ay _ _ e]at hj;exact h.oV j k' t' n' hj
def jf (tab:cg) (o:Oper) (e:Env) (O:VH):Option (MV×VH):=
 match o.op with
 | .load t x=>(ev e x).bind fun p=>(fw tab O t p).map (·,O)
 | .store t x y=>match ev e x,ev e y with
   | some p,some q=>(xn tab O t p q).map (.tuple [], ·)
   | _,_=>none
 | .box _ x=>(ev e x).map fun p=>(.ptr O.N 0,O.push (.cells (eh p)))
 | .alloc t=>(tab t).map fun i=>(.ptr O.N 0,xB O t i.size i.zero)
 | .buildSlice t len parts=>match gh e (parts.toList.map (·.2))with
   | some ms=>(lL tab t len (gT parts ms)).map (·,O)
   | none=>none
 | .makeSlice t l c=>match ev e l,ev e c with
   | some p,some q=>nj tab O t p q
   | _,_=>none
 | .call c=>match c.callee,c.args.toList,c.argTypes.toList with
   | .builtin .append,[x,y],[t,t']=>if t=t' then match ev e x,ev e y with
     | some p,some q=>iA tab O t p q
     | _,_=>none
     else none
   | .builtin .len,[x],[t]=>(ev e x).bind fun p=>(qo tab O t p).map (·,O)
   | _,_,_=>none
 | .makeMap _ none=>some (.map O.N,O.push (.map [] 0))
 | .lookup t x k ok=>match ev e x,ev e k with
   | some p,some q=>(ig tab O t p q ok).map (·,O)
   | _,_=>none
 | .mapUpdate t x k y=>match ev e x,ev e k,ev e y with
   | some p,some q,some r=>(eB tab O t p q r).map (.tuple [], ·)
   | _,_,_=>none
 | .insert t x k y=>match ev e x,ev e k,ev e y with
   | some p,some q,some r=>(eB tab O t p q r).map (.tuple [], ·)
   | _,_,_=>none
 | _=>none
def HC:Op->Bool
 | .store .. | .mapUpdate .. | .insert .. =>false
 | .call c=>match c.callee with
   | .builtin _=>true
   | _=>false
 | _=>true
def dT (P:Program) (o:Oper) (a:Act) (w:World) (G:Gh) (m:MV) (O':VH):Prop:=
 ∃nx w' H u,(execOp a.eval o).run P w= .ok nx w'/\(nx= .value u\/(nx= .skip/\u=undef))/\Gh.Le G H/\WR H O' w'/\VR H m u/\(HC o.op=true->j7 G w w')
theorem dT.of {o:Oper} {s:Sem Value} (hs:iz P s w G O' m) (he:execOp a.eval o=(do pure (.value (<-s)))):dT P o a w G m O':=by
 obtain⟨u,w',H,hr,h1,h2,h3,h4⟩:=hs;exact⟨.value u,w',H,u,by rw[he,Sem.run_bind,hr];rfl,.inl rfl,h1,h2,h3,fun _=>h4⟩
theorem dT.ofU {o:Oper} {s:Sem Unit} (hs:J8 P s w G O') (hA:HC o.op=false) (he:execOp a.eval o=(do s;pure .skip)):dT P o a w G (.tuple []) O':=by
 obtain⟨w',H,hr,h1,h2⟩:=hs;exact⟨.skip,w',H,undef,by rw[he,Sem.run_bind,hr];rfl,.inr ⟨rfl,rfl⟩,h1,h2,VR.tuple (us:=[]) rfl (fun i c u h=>by simp at h),fun h=>by rw[hA]at h;cases h⟩
theorem VT (ht:aP P tab) (hw:WR G O w) (h:FR G n D e a) {o:Oper} (hv:jf tab o e O=some (m,O')):dT P o a w G m O':=by
 unfold jf at hv;split at hv
 ·rename_i t x ho;obtain⟨p,h1,h2⟩:=Mm.1 hv;obtain⟨q,h3,h4⟩:=Ml.1 h2;simp only[Prod.mk.injEq]at h4;obtain⟨rfl,rfl⟩:=h4;exact dT.of (Iq ht hw h3 (h.ev h1)) (by simp[execOp,ho])
 ·rename_i t x y ho;split at hv
  ·rename_i p q h1 h2;obtain⟨O2,h3,h4⟩:=Ml.1 hv;simp only[Prod.mk.injEq]at h4;obtain⟨rfl,rfl⟩:=h4;exact dT.ofU (QG ht hw h3 (h.ev h1) (h.ev h2)) (by rw[ho];rfl) (by simp[execOp,ho])
  ·cases hv
 ·rename_i t x ho;obtain⟨p,h1,h2⟩:=Ml.1 hv;simp only[Prod.mk.injEq]at h2;obtain⟨rfl,rfl⟩:=h2;exact dT.of (ZK (t:=t) hw (h.ev h1)) (by simp[execOp,ho])
 ·rename_i t ho;obtain⟨i,h1,h2⟩:=Ml.1 hv;simp only[Prod.mk.injEq]at h2;obtain⟨rfl,rfl⟩:=h2;obtain⟨z,DN,tO,Hz⟩:=Io (ht t i h1) w
  have hr:(Instr.alloc t true (.tuple #[])).run P w= .ok (.pointer (some ⟨w.heap.size,0,none⟩)) (w.alloc (.cells z.cells t)):=by
   simp only[Instr.alloc,Sem.run_bind,DN,Result.andThen_ok];simp[newVar,newRow,newObj,Sem.run]
  obtain⟨g1,g2⟩:=hw.push t (Hz G);refine dT.of (s:=Instr.alloc t true (.tuple #[])) ⟨_,_,_,hr,g1,?_,.ptr (aK _ _ _),j7.alloc hw _⟩ (by simp[execOp,ho]);unfold xB;cases fV i.zero with
  | false=>exact g2
  | true=>
    refine g2.EO (aK _ _ _) ?_;have:(w.alloc (.cells z.cells t)).heap[w.heap.size]?=some (.cells z.cells t):=by rw[fG,if_pos rfl]
    simp only[World.shape?,this,tO]
 ·rename_i t len parts ho;split at hv
  ·rename_i ms h1;obtain⟨p,h2,h3⟩:=Ml.1 hv;simp only[Prod.mk.injEq]at h3;obtain⟨rfl,rfl⟩:=h3;have oz:ms.length=parts.toList.length:=by simpa using CW h1
   refine dT.of (uO ht hw h2 (ps:=parts.map fun(i,x)=>(i,a.eval x)) ?_ ?_) (by simp[execOp,ho])
   ·rw[zip_fst parts ms oz,EL]
   ·rw[Mv parts ms oz,EM];exact h.gh h1
  ·cases hv
 ·rename_i t l c ho;split at hv
  ·rename_i p q h1 h2;exact dT.of (EH ht hw hv (h.ev h1) (h.ev h2)) (by simp[execOp,ho])
  ·cases hv
 ·rename_i c ho;split at hv
  ·rename_i x y t t' hc iN Mw;split at hv
   ·rename_i HD;subst HD;split at hv
    ·rename_i p q h1 h2;have ha:c.args= #[x,y]:=by apply aee;exact iN
     have fQ:c.argTypes= #[t,t]:=by apply aee;exact Mw
     exact dT.of (Mt (ty:=o.type) ht hw hv (h.ev h1) (h.ev h2)) (by simp[execOp,ho,resolve,hc,ha,fQ,invoke,builtin])
    ·cases hv
   ·cases hv
  ·rename_i x t hc iN Mw;obtain⟨p,h1,h2⟩:=Mm.1 hv;obtain⟨q,h3,h4⟩:=Ml.1 h2;simp only[Prod.mk.injEq]at h4;obtain⟨rfl,rfl⟩:=h4;have ha:c.args= #[x]:=by apply aee;exact iN
   have fQ:c.argTypes= #[t]:=by apply aee;exact Mw
   exact dT.of (Mq (ty:=o.type) ht hw h3 (h.ev h1)) (by simp[execOp,ho,resolve,hc,ha,fQ,invoke,builtin])
  ·cases hv
 ·rename_i t ho;simp only[Option.some.injEq,Prod.mk.injEq]at hv;obtain⟨rfl,rfl⟩:=hv;exact dT.of (Kf (t:=t) hw) (by simp[execOp,ho])
 ·rename_i t x k ok ho;split at hv
  ·rename_i p q h1 h2;obtain⟨r,h3,h4⟩:=Ml.1 hv;simp only[Prod.mk.injEq]at h4;obtain⟨rfl,rfl⟩:=h4;obtain⟨z,g1,g2⟩:=Mx (P:=P) ht hw h3 (h.ev h1) (h.ev h2);exact dT.of (iz.of hw g1 g2) (by simp[execOp,ho])
  ·cases hv
 ·rename_i t x k y ho;split at hv
  ·rename_i p q r h1 h2 h3;obtain⟨O2,h4,h5⟩:=Ml.1 hv;simp only[Prod.mk.injEq]at h5;obtain⟨rfl,rfl⟩:=h5;exact dT.ofU (vG ht hw h4 (h.ev h1) (h.ev h2) (h.ev h3)) (by rw[ho];rfl) (by simp[execOp,ho])
  ·cases hv
 ·rename_i t x k y ho;split at hv
  ·rename_i p q r h1 h2 h3;obtain⟨O2,h4,h5⟩:=Ml.1 hv;simp only[Prod.mk.injEq]at h5;obtain⟨rfl,rfl⟩:=h5;exact dT.ofU (vG ht hw h4 (h.ev h1) (h.ev h2) (h.ev h3)) (by rw[ho];rfl) (by simp[execOp,ho])
  ·cases hv
 ·cases hv
def dF (tab:cg) (o:Oper) (e:Env) (O:VH):Option (MV×VH):=
 match eX tab o e with
 | some m=>some (m,O)
 | none=>jf tab o e O
theorem Ek (ht:aP P tab) (hw:WR G O w) (h:FR G n D e a) {o:Oper} (hv:dF tab o e O=some (m,O')):dT P o a w G m O':=by
 unfold dF at hv;split at hv
 ·rename_i p hp;simp only[Option.some.injEq,Prod.mk.injEq]at hv;obtain⟨rfl,rfl⟩:=hv;obtain⟨u,hu,hr⟩:=vC (P:=P) ht h hp;exact⟨.value u,w,G,u,hr w hw.ss,.inl rfl,Gh.Le.refl G,hw,hu,fun _=>j7.refl _ _⟩
 ·exact VT ht hw h hv
inductive VX where
 | normal | exit (id:Nat) | goto (l:Nat) | ret | panic (m:MV)
def XR (G:Gh):VX->Exit->Prop
 | .normal,.normal=>True
 | .exit i,.exit j=>i=j
 | .goto i,.goto j=>i=j
 | .ret,.ret=>True
 | .panic m,.panic c=>∃u,c=[{v:=u,recovered:=false}]/\VR G m u
 | _,_=>False
abbrev VQ:=VX->Env->VH->Prop
def FRX (G:Gh) (n:Sz) (D:List Deferred):VX->Env->Act->Prop
 | .panic _,e,a=>(∀t x,look e t=some x->t<n.lo)/\FR G n D e a
 | _,e,a=>FR G n D e a
def cN (G:Gh) (n:Sz) (D:List Deferred) (Q:VQ):Exit->Act->World->Prop:=fun y a w=>∃x e O H,Gh.Le G H/\WR H O w/\FRX H n D x e a/\XR H x y/\Q x e O
theorem cN.le (h:G.Le H) {Q:VQ} {y:Exit} (hp:cN H n D Q y a w):cN G n D Q y a w:=by
 obtain⟨x,e,O,K,h1,h2⟩:=hp;exact⟨x,e,O,K,h.trans h1,h2⟩
theorem cN.mono {Q Q':VQ} (hQ:∀x e O,Q x e O->Q' x e O) {y:Exit} (hp:cN G n D Q y a w):cN G n D Q' y a w:=by
 obtain⟨x,e,O,K,h1,h2,h3,h4,h5⟩:=hp;exact⟨x,e,O,K,h1,h2,h3,h4,hQ _ _ _ h5⟩
theorem EP:∀t x,look (k9 n e) t=some x->t<n.lo:=fun t x hx=>by
 rw[y_]at hx;split at hx
 ·assumption
 ·cases hx
theorem B6:∀t x,look (k9 n e) t=some x->look e t=some x:=fun t x hx=>by
 rw[y_]at hx;split at hx
 ·exact hx
 ·cases hx
def iT (P:Program) (n:Sz) (D:List Deferred) (ops:Array Oper) (l:List Nat) (e:Env) (O:VH) (Q:VQ):Prop:=
 ∀G a w,WR G O w->FR G n D e a->wpOps P ops (cN G n D Q) l a w
def VC (P:Program) (n:Sz) (D:List Deferred) (c:Code) (e:Env) (O:VH) (Q:VQ):Prop:=
 ∀G a w,WR G O w->FR G n D e a->c.wp P (cN G n D Q) a w
def aZ (d:Option Tmp) (m:MV) (e:Env):Env:=match d with
 | some d=>(d,m)::e
 | none=>e
def bD (n:Sz) (d:Option Tmp):Bool:=match d with
 | some d=>decide (n.lo<=d)&&decide (d<n.n)
 | none=>true
theorem FR.aZ (h:FR G n D e a) {d:Option Tmp} (hd:bD n d=true) (hu:VR G m u):FR G n D (aZ d m e) (a.put d u):=by
 cases d with
 | none=>exact h
 | some d=>exact FR.put h (by simp[bD]at hd;exact hd.2) hu
def aO (ops:Array Oper) (o:Oper) (e:Env):Option Bool:=
 match o.guard with
 | none=>some true
 | some (j,want)=>match(ops[j]?).bind (·.dst)with
   | some d=>match look e d with
     | some (.v (.bool b))=>some (b==want)
     | some (.tuple [])=>some false
     | _=>none
   | none=>none
theorem bC (h:FR G n D e a) {ops:Array Oper} {o:Oper} {b:Bool} (hv:aO ops o e=some b):Region.wanted o (yielded ops a.tmps)=b:=by
 unfold aO at hv;unfold Region.wanted;split at hv
 ·rename_i hg;injection hv with hv;rw[hg, <-hv]
 ·rename_i j want hg;rw[hg];split at hv
  ·rename_i d hd;split at hv
   ·rename_i b' hl;injection hv with hv;obtain⟨u,h1,h2⟩:=h.get d _ hl;have:=h2.je;subst this;simp only[yielded,hd,ajv,h1];rw[<-hv];cases b'<;>cases want<;>rfl
   ·rename_i hl;injection hv with hv;obtain⟨u,h1,h2⟩:=h.get d _ hl;cases h2 with
    | tuple _ _=>
      simp only[yielded,hd,ajv,h1];rw[<-hv];rfl
   ·cases hv
  ·cases hv
def cV:MV:=.tuple []
theorem lM:VR G cV undef:=VR.tuple (us:=[]) rfl fun i c u h=>by simp at h
theorem iT.nil {ops:Array Oper} {Q:VQ} (h:Q .normal e O):iT P n D ops [] e O Q:=fun G a w hw hf=>⟨.normal,e,O,G,Gh.Le.refl G,hw,hf,trivial,h⟩
theorem mV {ops:Array Oper} {Q Q':Exit->Act->World->Prop} (hQ:∀y a w,Q y a w->Q' y a w):∀(l:List Nat) (a:Act) (w:World),wpOps P ops Q l a w->wpOps P ops Q' l a w:=by
 intro l;induction l with
 | nil=>intro a w h;exact hQ _ _ _ h
 | cons i rest ih=>
   intro a w h;rw[wpOps_cons]at h ⊢;have h1:=wpOp_mono (K':=wpOps P ops Q' rest) ih h;unfold wpOp at h1 ⊢;split
   ·rename_i ho;simp only[ho]at h1;exact h1
   ·rename_i o ho;simp only[ho]at h1;split
    ·rename_i sD;simp only[sD,if_true]at h1;refine h1.imp (fun h2=>?_) (fun⟨h2,a',w',h3⟩=>⟨h2,a',w',hQ _ _ _ h3⟩);unfold Oper.wp at h2 ⊢;generalize (execOp a.eval o).run P w=r at*;cases r with
     | ok nx w'=>
       cases nx<;>simp only[Oper.upon]at h2 ⊢ <;>first
        | exact h2
        | (refine Calls.mono h2 fun x HE he=>?_
           cases x with
           | returned v=>exact he
           | panicked c=>exact hQ _ _ _ he
           | outgrown=>obtain⟨a',w',h3⟩:=he;exact⟨a',w',hQ _ _ _ h3⟩)
     | halt x w'=>cases x<;>simp only[Oper.upon]at h2 ⊢ <;>first | exact h2 | exact hQ _ _ _ h2
    ·rename_i sD;simp only[sD]at h1;exact h1
theorem iT.step (ht:aP P tab) {ops:Array Oper} {i:Nat} {l:List Nat} {o:Oper} {Q:VQ} (ho:ops[i]?=some o) (hg:aO ops o e=some true) (hv:dF tab o e O=some (m,O')) (hd:bD n o.dst=true)
  (h:iT P n D ops l (aZ o.dst m e) O' Q):iT P n D ops (i::l) e O Q:=by
 intro G a w hw hf;obtain⟨nx,w',H,u,hr,tU,h1,h2,h3,_⟩:=Ek (P:=P) ht hw hf hv;simp only[wpOps,ho,bC hf hg,if_true];refine .inl ?_;unfold Oper.wp;rw[hr]
 have hk:wpOps P ops (cN G n D Q) l (a.put o.dst u) w':=by
  exact mV (fun _ _ _=>cN.le h1) l _ _ (h H (a.put o.dst u) w' h2 ((hf.mono h1).aZ hd h3))
 rcases tU with rfl | ⟨rfl,rfl⟩
 ·exact hk
 ·exact hk
theorem iT.skip {ops:Array Oper} {i:Nat} {l:List Nat} {o:Oper} {Q:VQ} (ho:ops[i]?=some o) (hg:aO ops o e=some false) (hd:bD n o.dst=true)
  (h:iT P n D ops l (aZ o.dst cV e) O Q):iT P n D ops (i::l) e O Q:=by
 intro G a w hw hf;simp only[wpOps,ho,bC hf hg,ZA,if_false];exact h G _ w hw (hf.aZ hd lM)
inductive gB where
 | ret (m:MV) | panic (m:MV)
def ER (G:Gh):gB->Ending->Prop
 | .ret m,.returned v=>VR G m v
 | .panic m,.panicked c=>∃u,c=[{v:=u,recovered:=false}]/\VR G m u
 | _,_=>False
def VF (P:Program) (f:FuncId) (args:List MV) (O:VH) (R:gB->VH->Prop):Prop:=
 ∀G w vs,WR G O w->aS G args vs->Calls P f vs.toArray w fun x w'=>∃r O' H,Gh.Le G H/\WR H O' w'/\ER H r x/\R r O'
theorem VF.mono {f:FuncId} {args:List MV} {R R':gB->VH->Prop} (hR:∀r O,R r O->R' r O) (h:VF P f args O R):VF P f args O R':=
 fun G w vs hw hv=>(h G w vs hw hv).mono fun _ _ ⟨r,O',H,h1,h2,h3,h4⟩=>⟨r,O',H,h1,h2,h3,hR _ _ h4⟩
def Enters (P:Program) (f:FuncId):Prop:=∀args w,(callFunc f args).run P w= .ok (.enter f args) w
theorem Enters.of {f:FuncId} {fn:Func} (hf:P.funcs[f]?=some fn) (hn:(fn.name== "runtime.NumGoroutine")=false) (hb:fn.body.isNone=false):Enters P f:=by
 intro args w;have ZS:fn.name≠ "runtime.NumGoroutine" :=by simpa using hn
 have lK:fn.body≠none:=by intro h;rw[h]at hb;cases hb
 simp[callFunc,program,Sem.run,hf,ZS,lK]
theorem iT.call {ops:Array Oper} {i:Nat} {l:List Nat} {o:Oper} {Q:VQ} {c:Call} {f:Operand} {id:FuncId} {fs ms cs:List MV} {R:gB->VH->Prop} (ho:ops[i]?=some o) (hg:aO ops o e=some true) (vH:o.op= .call c) (hc:c.callee= .value f)
  (hf:ev e f=some (.func (.func id) fs cs)) (hm:gh e c.args.toList=some ms) (hE:Enters P id) (hd:bD n o.dst=true) (hR:VF P id (fs++ms++cs) O R)
  (h:∀r O',R r O'->match r with
   | .ret m=>iT P n D ops l (aZ o.dst m e) O' Q
   | .panic m=>Q (.panic m) (k9 n e) O'):iT P n D ops (i::l) e O Q:=by
 intro G a w hw aV;have vI:=aV.ev hf;generalize Ak:a.eval f=fv at vI;cases vI with
 | func h1 h2 h3 h4=>
   rename_i us vs;have iN:=aV.gh hm;have kR:=aS.append (aS.append (show aS G fs us from⟨h1,h2⟩) iN) (show aS G cs vs from⟨h3,h4⟩)
   have cD:(execOp a.eval o).run P w= .ok (.enter id (us++c.args.toList.map a.eval++vs).toArray) w:=by
    have ha:c.args.map a.eval=(c.args.toList.map a.eval).toArray:=by apply aee;simp
    have:us.toArray++c.args.map a.eval++vs.toArray=(us++c.args.toList.map a.eval++vs).toArray:=by apply aee;simp[ha]
    simp only[execOp,vH,resolve,hc,Ak,Deferred.ofValue,Sem.run_bind,Sem.run_pure,Result.andThen_ok,invoke,hE _ w];rw[this]
   simp only[wpOps,ho,bC aV hg,if_true];refine .inl ?_;unfold Oper.wp;rw[cD];show Calls P id _ w _;refine(hR G w _ hw kR).mono ?_;rintro x w' ⟨r,O',H,g1,g2,g3,g4⟩;have hk:=h r O' g4;cases r with
   | ret m=>
     cases x with
     | returned v=>exact mV (fun _ _ _=>cN.le g1) l _ _ (hk H _ w' g2 ((aV.mono g1).aZ hd g3))
     | panicked c=>exact g3.elim
     | outgrown=>exact g3.elim
   | panic m=>
     cases x with
     | returned v=>exact g3.elim
     | panicked c=>exact⟨.panic m,k9 n e,O',H,g1,g2,⟨EP,(aV.mono g1).less B6⟩,g3,hk⟩
     | outgrown=>exact g3.elim
theorem VC.mono {c:Code} {Q Q':VQ} (hQ:∀x e O,Q x e O->Q' x e O) (h:VC P n D c e O Q):VC P n D c e O Q':=
 fun G a w hw hf=>wp_mono (h G a w hw hf) fun _ _ _=>cN.mono hQ
theorem VC.env {c:Code} {Q:VQ} (h:VC P n D c e' O Q) (hl:∀t x,look e' t=some x->look e t=some x):VC P n D c e O Q:=
 fun G a w hw hf=>h G a w hw (hf.less hl)
theorem VC.skip {Q:VQ} (h:Q .normal e O):VC P n D .skip e O Q:=fun G a w hw hf=>wp_skip ⟨.normal,e,O,G,Gh.Le.refl G,hw,hf,trivial,h⟩
theorem VC.exit {Q:VQ} {id:Nat} (h:Q (.exit id) e O):VC P n D (.exit id) e O Q:=fun G a w hw hf=>wp_exit ⟨.exit id,e,O,G,Gh.Le.refl G,hw,hf,rfl,h⟩
theorem VC.label {Q:VQ} {l:Nat} (h:Q .normal e O):VC P n D (.label l) e O Q:=fun G a w hw hf=>wp_label ⟨.normal,e,O,G,Gh.Le.refl G,hw,hf,trivial,h⟩
def tV (Q:VQ):VQ:=fun x e O=>match x with
 | .goto _=>False
 | x=>Q x e O
theorem VC.scope {c:Code} {Q:VQ} (h:VC P n D c e O (tV Q)):VC P n D (.scope c) e O Q:=by
 intro G a w hw hf;refine wp_scope_straight (wp_mono (h G a w hw hf) ?_);rintro y a' w' ⟨x,e',O',H,h1,h2,h3,h4,h5⟩
 cases y<;>cases x<;>first
  | exact False.elim h4
  | exact h5.elim
  | exact⟨_,e',O',H,h1,h2,h3,h4,h5⟩
theorem VC.ret {Q:VQ} (h:Q .ret e O):VC P n D .ret e O Q:=fun G a w hw hf=>wp_ret ⟨.ret,e,O,G,Gh.Le.refl G,hw,hf,trivial,h⟩
theorem VC.seq {c d:Code} {Q:VQ} (h:VC P n D c e O fun x e O=>match x with
  | .normal=>VC P n D d e O Q
  | x=>Q x e O):VC P n D (.seq c d) e O Q:=by
 intro G a w hw hf;refine wp_seq (wp_mono (h G a w hw hf) ?_);rintro y a' w' ⟨x,e',O',H,h1,h2,h3,h4,h5⟩
 cases y<;>cases x<;>first
  | exact False.elim h4
  | exact wp_mono (h5 H a' w' h2 h3) fun _ _ _=>cN.le h1
  | exact⟨_,e',O',H,h1,h2,h3,h4,h5⟩
theorem VC.cond {c:Operand} {x y:Code} {t:Bool} {Q:VQ} (hc:ev e c=some (.v (.bool t))) (h1:t=true->VC P n D x e O Q) (h2:t=false->VC P n D y e O Q):VC P n D (.cond c x y) e O Q:=by
 intro G a w hw hf;have HA:a.eval c= .bool t:=(hf.ev hc).je;exact wp_cond_split HA (fun ht=>h1 ht G a w hw hf) (fun ht=>h2 ht G a w hw hf)
theorem VC.block {c:Code} {id:Nat} {Q:VQ} (h:VC P n D c e O fun x e O=>match x with
  | .exit i=>if i=id then Q .normal e O else Q (.exit i) e O
  | x=>Q x e O):VC P n D (.block id c) e O Q:=by
 intro G a w hw hf;refine wp_block (wp_mono (h G a w hw hf) ?_);rintro y a' w' ⟨x,e',O',H,h1,h2,h3,h4,h5⟩;cases y with
 | exit j=>
   cases x with
   | exit i=>
     obtain rfl:i=j:=h4;simp only[Exit.inBlock];simp only at h5;split
     ·rename_i hi;rw[if_pos hi]at h5;exact⟨.normal,e',O',H,h1,h2,h3,trivial,h5⟩
     ·rename_i hi;rw[if_neg hi]at h5;exact⟨.exit i,e',O',H,h1,h2,h3,rfl,h5⟩
   | _=>exact False.elim h4
 | _=>cases x<;>first
   | exact False.elim h4
   | exact⟨_,e',O',H,h1,h2,h3,h4,h5⟩
theorem tW {c:Code} {Q Q':Exit->Act->World->Prop} (hQ:∀y a w,Q y a w->Q' y a w):∀(k:Nat) (a:Act) (w:World),Code.rounds P c Q k a w->Code.rounds P c Q' k a w
 | 0,_,_,h=>h.elim
 | k+1,a,w,h=>by
   rw[rounds_succ]at h ⊢;refine wp_mono h fun y a' w' hy=>?_
   cases y<;>first
    | exact tW hQ k a' w' hy
    | exact hQ _ _ _ hy
theorem zA {c:Code} {Q:Exit->Act->World->Prop}:∀(k j:Nat) (a:Act) (w:World),k<=j->Code.rounds P c Q k a w->Code.rounds P c Q j a w
 | 0,_,_,_,_,h=>h.elim
 | k+1,0,_,_,hj,_=>absurd hj (by omega)
 | k+1,j+1,a,w,hj,h=>by
   rw[rounds_succ]at h ⊢;refine wp_mono h fun y a' w' hy=>?_
   cases y<;>first
    | exact zA k j a' w' (by omega) hy
    | exact hy
theorem VC.loop {c:Code} {Q:VQ} (I:Nat->Env->VH->Prop) {k:Nat} (h0:I k e O) (h:∀k e O,I k e O->VC P n D c e O fun x e' O'=>match x with
  | .normal=>∃j,j<k/\I j e' O'
  | x=>Q x e' O'):VC P n D (.loop c) e O Q:=by
 intro G a w hw hf;refine wp_loop_rounds (k+1) ?_;induction k using Nat.strongRecOn generalizing e O G a w with
 | _ k ih=>
   rw[rounds_succ];refine wp_mono (h k e O h0 G a w hw hf) ?_;rintro y a' w' ⟨x,e',O',H,h1,h2,h3,h4,h5⟩
   cases y<;>cases x<;>first
    | exact False.elim h4
    | exact⟨_,e',O',H,h1,h2,h3,h4,h5⟩
    | (obtain⟨j,hj,hI⟩:=h5
       exact zA (j+1) k a' w' (by omega) (tW (fun _ _ _=>cN.le h1) _ _ _ (ih j hj hI H a' w' h2 h3)))
theorem VC.region {id:Nat} {ops:Array Oper} {Q:VQ} (h:iT P n D ops (List.range ops.size) e O Q):VC P n D (.region id ops false) e O Q:=
 fun G a w hw hf=>wp_region (h G a w hw hf)
def ky (tab:cg) (e:Env) (O:VH):ResultVar->Option MV
 | .tmp t=>look e t
 | .cell x t=>(look e x).bind (fw tab O t)
def dK (tab:cg) (fn:Func) (e:Env) (O:VH):Option MV:=
 match fn.results.toList.mapM (ky tab e O)with
 | some [m]=>some m
 | some l=>some (.tuple l)
 | none=>none
def Al (tmps:Array Value):ResultVar->Sem Value
 | .tmp t=>pure (tmps.getD t undef)
 | .cell x t=>do loadVar t (<-asAddr (tmps.getD x undef))
theorem My (fn:Func) (tmps:Array Value):results fn tmps=(do let vs<-fn.results.mapM (Al tmps);pure (if h:vs.size=1 then vs[0]else .tuple vs)):=by
 unfold results
 congr 1
theorem CY (ht:aP P tab) (hw:WR G O w) (hf:FR G n D e a):∀(l:List ResultVar) (ms:List MV),l.mapM (ky tab e O)=some ms->
  ∃us,(l.mapM (Al a.tmps)).run P w= .ok us w/\aS G ms us
 | [],ms,h=>by simp at h;subst h;exact⟨[],rfl,aS.nil⟩
 | r::l,ms,h=>by
   simp only[ahX,ahW,Mm]at h;obtain⟨m,h1,ZH,h2,h3⟩:=h;injection h3 with h3;subst h3
   obtain⟨us,h4,h5⟩:=CY ht hw hf l ZH h2
   have one:∃u,(Al a.tmps r).run P w= .ok u w/\VR G m u:=by
    cases r with
    | tmp t=>exact⟨_,rfl,hf.ev (x:=.tmp t) h1⟩
    | cell x t=>
      obtain⟨p,h6,h7⟩:=Mm.1 h1;have hp:VR G p (a.tmps.getD x undef):=hf.ev (x:=.tmp x) h6;simp only[Al];generalize a.tmps.getD x undef=pv at hp ⊢
      have aeh:∃ad,pv= .pointer (some ad):=by
       have hc:∃cs off,cellsOf O p=some (cs,off):=by
        unfold fw at h7;split at h7
        ·exact⟨_,_, ‹_›⟩
        ·cases h7
       obtain⟨cs,off,hc⟩:=hc;obtain⟨b,o,_,rfl,_⟩:=Mp hw hp hc;exact⟨_,rfl⟩
      obtain⟨ad,rfl⟩:=aeh;obtain⟨u,g1,g2⟩:=EE (P:=P) ht hw h7 hp;refine⟨u,?_,g2⟩;simp only[asAddr,Sem.run_bind,Sem.run_pure,Result.andThen_ok];simpa[Instr.loadAt,Instr.sureAddr]using g1
   obtain⟨u,g1,g2⟩:=one;refine⟨u::us,?_,aS.cons g2 h5⟩;rw[ahX,Sem.run_bind,g1,Result.andThen_ok,Sem.run_bind,h4];rfl
theorem lN (ht:aP P tab) (hw:WR G O w) (hf:FR G n D e a) {fn:Func} (h:dK tab fn e O=some m):∃u,(results fn a.tmps).run P w= .ok u w/\VR G m u:=by
 have It:∀ms,fn.results.toList.mapM (ky tab e O)=some ms->∃us,(fn.results.mapM (Al a.tmps)).run P w= .ok us.toArray w/\aS G ms us:=fun ms hm=>by
  obtain⟨us,h1,h2⟩:=CY (P:=P) ht hw hf _ ms hm;refine⟨us,?_,h2⟩;rw[anh, <-bind_pure_comp,Sem.run_bind,h1];rfl
 unfold dK at h;rw[My];split at h
 ·rename_i p hp;injection h with h;subst h
  obtain⟨us,h1,h2⟩:=It _ hp;obtain⟨u,VK,rfl,h3,h4⟩:=h2.eW;rw[h4.iP]at h1;exact⟨u,by rw[Sem.run_bind,h1];rfl,h3⟩
 ·rename_i l hl hp;injection h with h;subst h
  obtain⟨us,h1,h2⟩:=It _ hp
  have hne:us.length≠1:=fun h5=>by
   have:=h2.1;rw[h5]at this
   match l,this with
   | [x],_=>exact hl x rfl
  refine⟨.tuple us.toArray,?_,.tuple h2.1 h2.2⟩;rw[Sem.run_bind,h1,Result.andThen_ok];simp[hne]
 ·cases h
def cL:Nat->List MV->Env
 | _,[]=>[]
 | k,m::l=>(k,m)::cL (k+1) l
theorem iU:∀(l:List MV) (k t:Nat),look (cL k l) t=if k<=t then l[t - k]? else none
 | [],k,t=>by simp[cL,look]
 | m::l,k,t=>by
   simp only[cL,look];by_cases e:t=k
   ·subst e;simp
   ·have:(t==k)=false:=by simpa using e
    rw[this,cond_false,iU l (k+1) t];by_cases h:k<=t
    ·rw[if_pos h,if_pos (by omega)];obtain⟨j,hj⟩:∃j,t - k=j+1:=⟨t - k - 1,by omega⟩
     rw[hj,show t - (k+1)=j from by omega];rfl
    ·rw[if_neg h,if_neg (by omega)]
theorem VF.enter (ht:aP P tab) {f:FuncId} {fn:Func} {c:Code} {args:List MV} {R:gB->VH->Prop} (hf:P.funcs[f]?=some fn) (hb:fn.body=some c) (hn:args.length<=fn.ntmps)
  (h:VC P ⟨fn.ntmps,0⟩ [] c (cL 0 args) O fun x e O'=>match x with
   | .normal=>∃m,dK tab fn e O'=some m/\R (.ret m) O'
   | .ret=>∃m,dK tab fn e O'=some m/\R (.ret m) O'
   | .panic m=>R (.panic m) O'
   | _=>False):VF P f args O R:=by
 intro G w vs hw hv;refine calls_of_wp hf hb ?_
 have aV:FR G ⟨fn.ntmps,0⟩ [] (cL 0 args) {tmps:=vs.toArray++Array.replicate (fn.ntmps - vs.toArray.size) undef,defers:=[]}:=by
  have hl:=hv.1;refine⟨rfl,by simp;omega,fun t x hx=>?_⟩;rw[iU,if_pos (ah0 _),Nat.sub_zero]at hx;obtain⟨u,h1,h2⟩:=hv.get hx;refine⟨u,?_,h2⟩;have ei:=(aeb.1 h1).1;rw[ang (by simpa using ei)];simpa using h1
 refine wp_mono (h G _ w hw aV) ?_;rintro y a' w' ⟨x,e',O',H,h1,h2,h3,h4,h5⟩;cases y with
 | normal=>
   cases x<;>first
    | exact False.elim h4
    | (obtain⟨m,h6,h7⟩:=h5
       obtain⟨u,h8,h9⟩:=lN (P:=P) ht h2 h3 h6;exact⟨h3.defers,u,h8,.ret m,O',H,h1,h2,h9,h7⟩)
 | ret=>
   cases x<;>first
    | exact False.elim h4
    | (obtain⟨m,h6,h7⟩:=h5
       obtain⟨u,h8,h9⟩:=lN (P:=P) ht h2 h3 h6;exact⟨h3.defers,u,h8,.ret m,O',H,h1,h2,h9,h7⟩)
 | panic c=>
   cases x<;>first
    | exact False.elim h4
    | exact⟨h3.2.defers,.panic _,O',H,h1,h2,h4,h5⟩
 | exit i=>cases x<;>first | exact False.elim h4 | exact h5.elim
 | goto i=>cases x<;>first | exact False.elim h4 | exact h5.elim
 | outgrown=>cases x<;>exact False.elim h4
end
section
variable {G H:Gh} {n:Sz} {D:List Deferred} {e e':Env} {a:Act} {P:Program} {tab:cg} {O O':VH} {w:World} {m m':MV} {u v:Value} {ops:Array Oper} {Q:VQ}
def cG (P:Program) (n:Sz) (D:List Deferred) (ops:Array Oper) (fuel:Nat) (listed:Array Bool) (e:Env) (O:VH) (Q:VQ):Prop:=
 ∀G a w,WR G O w->FR G n D e a->wpAnyH P .any ops (cN G n D Q) (SS G) fuel listed a w
theorem VC.draw {id:Nat} (hm:P.follows .mixedOrders=true) (h:cG P n D ops ops.size (Array.replicate ops.size false) e O Q):VC P n D (.region id ops true) e O Q:=
 fun G a w hw hf=>wp_region_held (S:=SS G) hm (h G a _ (hw.drawn _) hf)
theorem iC {d:Option Tmp} (tY:bD n d=true) {v:Value} (c:List PanicEntry) (a:Act) (w:World) (h:cN G n D Q (.panic c) (a.put d v) w):cN G n D Q (.panic c) a w:=by
 obtain⟨x,e,O,H,h1,h2,h3,h4,h5⟩:=h;cases x with
 | panic m=>
   obtain⟨zp,h3⟩:=h3
   have hd:a.defers=D:=by
    have:=h3.defers;cases d<;>exact this
   have hz:a.tmps.size=n.n:=by
    have:=h3.size;cases d with
    | none=>exact this
    | some d=>simpa[Act.put]using this
   refine⟨.panic m,e,O,H,h1,h2,⟨zp,hd,hz,fun t x hx=>?_⟩,h4,h5⟩;obtain⟨u,g1,g2⟩:=h3.get t x hx;refine⟨u,?_,g2⟩;cases d with
   | none=>exact g1
   | some d=>
     have ht:=zp t x hx;have mW:n.lo<=d:=by simp[bD]at tY;exact tY.1
     have hne:d≠t:=fun e=>Nat.lt_irrefl _ (Nat.lt_of_lt_of_le ht (e▸mW))
     simpa[Act.put,hne]using g1
 | _=>exact False.elim h4
theorem cG.TR (ht:aP P tab) {fuel i:Nat} {listed:Array Bool} {o:Oper} (ho:ops[i]?=some o) (hs:Region.noSelect ops=true) (hf:Region.free .any ops listed i=true) (hr:(Region.ready .any ops listed).contains i=true)
  (hg:aO ops o e=some true) (hv:eX tab o e=some m) (hd:bD n o.dst=true) (h:cG P n D ops fuel (listed.setIfInBounds i true) (aZ o.dst m e) O Q):cG P n D ops (fuel+1) listed e O Q:=by
 intro G a w hw aV;obtain⟨u,hu,cD⟩:=vC (P:=P) ht aV hv;exact wpAnyH_take ho hs hf hr (iC hd) (.inl ⟨bC aV hg,cD⟩) hw.ss (h G _ w hw (aV.aZ hd hu))
theorem cG.ZT {fuel i:Nat} {listed:Array Bool} {o:Oper} (ho:ops[i]?=some o) (hs:Region.noSelect ops=true) (hf:Region.free .any ops listed i=true) (hr:(Region.ready .any ops listed).contains i=true)
  (hg:aO ops o e=some false) (hd:bD n o.dst=true) (h:cG P n D ops fuel (listed.setIfInBounds i true) (aZ o.dst cV e) O Q):cG P n D ops (fuel+1) listed e O Q:=by
 intro G a w hw aV;exact wpAnyH_take ho hs hf hr (iC hd) (.inr ⟨bC aV hg,rfl⟩) hw.ss (h G _ w hw (aV.aZ hd lM))
theorem cG.done {fuel:Nat} {listed:Array Bool} (hr:Region.ready .any ops listed=[]) (h:Q .normal e O):cG P n D ops fuel listed e O Q:=
 fun G a w hw aV=>wpAnyH_done hr ⟨.normal,e,O,G,Gh.Le.refl G,hw,aV,trivial,h⟩ fuel
theorem Mz {Q Q':Exit->Act->World->Prop} {S S':World->Prop} (hQ:∀y a w,Q y a w->Q' y a w) (hS:∀w,S w->S' w):∀(fuel:Nat) (listed:Array Bool) (a:Act) (w:World),wpAnyH P .any ops Q S fuel listed a w->wpAnyH P .any ops Q' S' fuel listed a w:=by
 intro fuel;induction fuel with
 | zero=>intro listed a w h;exact⟨h.1,hQ _ _ _ h.2⟩
 | succ fuel ih=>
   intro listed a w h;refine⟨fun h0=>hQ _ _ _ (h.1 h0),fun i hi=>?_⟩;have h1:=wpOp_mono (K':=fun a' w'=>S' w'/\wpAnyH P .any ops Q' S' fuel (listed.setIfInBounds i true) a' w') (fun a' w' h'=>⟨hS _ h'.1,ih _ _ _ h'.2⟩) (h.2 i hi);unfold wpOp at h1 ⊢;split
   ·rename_i ho;simp only[ho]at h1;exact h1
   ·rename_i o ho;simp only[ho]at h1;split
    ·rename_i sD;simp only[sD,if_true]at h1;refine h1.imp (fun h2=>?_) (fun⟨h2,a',w',h3⟩=>⟨h2,a',w',hQ _ _ _ h3⟩);unfold Oper.wp at h2 ⊢;generalize (execOp a.eval o).run P w=r at*;cases r with
     | ok nx w'=>
       cases nx<;>simp only[Oper.upon]at h2 ⊢ <;>first
        | exact h2
        | (refine Calls.mono h2 fun x HE he=>?_
           cases x with
           | returned v=>exact he
           | panicked c=>exact hQ _ _ _ he
           | outgrown=>obtain⟨a',w',h3⟩:=he;exact⟨a',w',hQ _ _ _ h3⟩)
     | halt x w'=>cases x<;>simp only[Oper.upon]at h2 ⊢ <;>first | exact h2 | exact hQ _ _ _ h2
    ·rename_i sD;simp only[sD]at h1;exact h1
theorem SS.le (h:G.Le H) {w:World} (hs:SS H w):SS G w:=fun b o u hc=>hs b o u (h.eN hc)
def aN (P:Program) (n:Sz) (D:List Deferred) (ops:Array Oper) (i:Nat) (e:Env) (O:VH) (Q:VQ) (K:Env->VH->Prop):Prop:=
 ∀G a w,WR G O w->FR G n D e a->wpOp P ops (cN G n D Q) i (fun a' w'=>∃e' O' H,Gh.Le G H/\WR H O' w'/\FR H n D e' a'/\K e' O') a w
theorem aN.op (ht:aP P tab) {i:Nat} {o:Oper} {K:Env->VH->Prop} (ho:ops[i]?=some o) (hg:aO ops o e=some true) (hv:dF tab o e O=some (m,O')) (hd:bD n o.dst=true) (hk:K (aZ o.dst m e) O'):aN P n D ops i e O Q K:=by
 intro G a w hw aV;obtain⟨nx,w',H,u,hr,tU,h1,h2,h3,_⟩:=Ek (P:=P) ht hw aV hv;simp only[wpOp,ho,bC aV hg,if_true];refine .inl ?_;unfold Oper.wp;rw[hr];have:∃e' O' H,Gh.Le G H/\WR H O' w'/\FR H n D e' (a.put o.dst u)/\K e' O':=⟨_,_,H,h1,h2,(aV.mono h1).aZ hd h3,hk⟩
 rcases tU with rfl | ⟨rfl,rfl⟩<;>exact this
theorem aN.call {i:Nat} {o:Oper} {c:Call} {f:Operand} {id:FuncId} {fs ms cs:List MV} {R:gB->VH->Prop} {K:Env->VH->Prop} (ho:ops[i]?=some o) (hg:aO ops o e=some true) (vH:o.op= .call c) (hc:c.callee= .value f)
  (hf:ev e f=some (.func (.func id) fs cs)) (hm:gh e c.args.toList=some ms) (hE:Enters P id) (hd:bD n o.dst=true) (hR:VF P id (fs++ms++cs) O R)
  (h:∀r O',R r O'->match r with
   | .ret m=>K (aZ o.dst m e) O'
   | .panic m=>Q (.panic m) (k9 n e) O'):aN P n D ops i e O Q K:=by
 intro G a w hw aV;have vI:=aV.ev hf;generalize Ak:a.eval f=fv at vI;cases vI with
 | func h1 h2 h3 h4=>
   rename_i us vs;have iN:=aV.gh hm;have kR:=aS.append (aS.append (show aS G fs us from⟨h1,h2⟩) iN) (show aS G cs vs from⟨h3,h4⟩)
   have cD:(execOp a.eval o).run P w= .ok (.enter id (us++c.args.toList.map a.eval++vs).toArray) w:=by
    have ha:c.args.map a.eval=(c.args.toList.map a.eval).toArray:=by apply aee;simp
    have:us.toArray++c.args.map a.eval++vs.toArray=(us++c.args.toList.map a.eval++vs).toArray:=by apply aee;simp[ha]
    simp only[execOp,vH,resolve,hc,Ak,Deferred.ofValue,Sem.run_bind,Sem.run_pure,Result.andThen_ok,invoke,hE _ w];rw[this]
   simp only[wpOp,ho,bC aV hg,if_true];refine .inl ?_;unfold Oper.wp;rw[cD];show Calls P id _ w _;refine(hR G w _ hw kR).mono ?_;rintro x w' ⟨r,O',H,g1,g2,g3,g4⟩;have hk:=h r O' g4;cases r with
   | ret m=>
     cases x with
     | returned v=>exact⟨_,_,H,g1,g2,(aV.mono g1).aZ hd g3,hk⟩
     | panicked c=>exact g3.elim
     | outgrown=>exact g3.elim
   | panic m=>
     cases x with
     | returned v=>exact g3.elim
     | panicked c=>exact⟨.panic m,k9 n e,O',H,g1,g2,⟨EP,(aV.mono g1).less B6⟩,g3,hk⟩
     | outgrown=>exact g3.elim
theorem iT.one {i:Nat} {l:List Nat} (h:aN P n D ops i e O Q fun e' O'=>iT P n D ops l e' O' Q):iT P n D ops (i::l) e O Q:=by
 intro G a w hw aV;rw[wpOps_cons];exact wpOp_mono (fun a' w' ⟨e',O',H,h1,h2,h3,h4⟩=>mV (fun _ _ _=>cN.le h1) l _ _ (h4 H a' w' h2 h3)) (h G a w hw aV)
theorem cG.all {fuel:Nat} {listed:Array Bool} {rs:List Nat} (hr:Region.ready .any ops listed=rs) (hne:rs≠[])
  (h:∀i∈rs,aN P n D ops i e O Q fun e' O'=>cG P n D ops fuel (listed.setIfInBounds i true) e' O' Q):cG P n D ops (fuel+1) listed e O Q:=by
 intro G a w hw aV;refine wpAnyH_all hr hne fun i hi=>?_
 exact wpOp_mono (fun a' w' ⟨e',O',H,h1,h2,h3,h4⟩=>⟨SS.le h1 h2.ss,Mz (fun _ _ _=>cN.le h1) (fun _=>SS.le h1) fuel _ _ _ (h4 H a' w' h2 h3)⟩) (h i hi G a w hw aV)
def jy (P:Program) (md:Region.Mode) (ops:Array Oper) (Q:Exit->Act->World->Prop) (T:Nat->World->Prop):Nat->Array Bool->Act->World->Prop
 | 0,listed,a,w=>Region.ready md ops listed=[]/\Q .normal a w
 | fuel+1,listed,a,w=>
   (Region.ready md ops listed=[]->Q .normal a w)/\
   ∀i∈Region.ready md ops listed,wpOp P ops Q i (fun a' w'=>T i w'/\jy P md ops Q T fuel (listed.setIfInBounds i true) a' w') a w
section
variable {md:Region.Mode} {Q:Exit->Act->World->Prop} {T:Nat->World->Prop}
theorem k_:∀(fuel:Nat) (listed:Array Bool) (a:Act) (w:World),jy P md ops Q T fuel listed a w->wpAny P md ops Q fuel listed a w
 | 0,_,_,_,h=>h
 | fuel+1,_,_,_,h=>⟨h.1,fun i hi=>wpOp_mono (fun a' w' h'=>k_ fuel _ a' w' h'.2) (h.2 i hi)⟩
theorem oS {S:World->Prop} {W:Nat->Prop} {brk:Nat->Bool} {i:Nat} {oi:Oper} {v:Value} (hi:ops[i]?=some oi) (ES:∀(j:Nat) (o:Oper) cs b,ops[j]?=some o->o.op≠ .select cs b)
  (hQ:∀c a w,Q (.panic c) (a.put oi.dst v) w->Q (.panic c) a w) (hT:∀j x,brk j=false->T j x->S x) (hTi:∀x,S x->T i x):
  ∀(fuel:Nat) (listed:Array Bool) (a:Act) (w:World),
   (∀j oj,ops[j]?=some oj->j≠i->listed.getD j true=false->(∀e∈oj.after,Region.binds md e=true->e.on≠i)->oi.apart ops oj=true)->
   (∀j oj,ops[j]?=some oj->W j->∃e∈oj.after,Region.binds md e=true/\(e.on=i\/W e.on))->(∀j,W j->listed.getD j true=false)->(∀j,j≠i->listed.getD j true=false->brk j=true->W j)->
   i∈Region.ready md ops listed->YieldsIf P ops S oi v a->S w->
   jy P md ops Q T fuel (listed.setIfInBounds i true) (a.put oi.dst v) w->jy P md ops Q T (fuel+1) listed a w:=by
 intro fuel;induction fuel with
 | zero=>
   intro listed a w _ _ _ _ hr hy hS H;refine⟨fun h=>(by rw[h]at hr;cases hr),fun j hj=>?_⟩;by_cases Kg:j=i
   ·subst Kg;exact hy.wpOp hi hS ⟨hTi _ hS,H⟩
   ·have:=ready_mono hj Kg;rw[H.1]at this;cases this
 | succ fuel ih=>
   intro listed a w ZU hW hWu agx hr hy hS H;refine⟨fun h=>(by rw[h]at hr;cases hr),fun j hj=>?_⟩;by_cases Kg:j=i
   ·subst Kg;exact hy.wpOp hi hS ⟨hTi _ hS,H⟩
   ·have h1:=H.2 j (ready_mono hj Kg);obtain⟨ZV,oj,hoj,kR⟩:=mem_ready.1 hj
    have agy:∀e∈oj.after,Region.binds md e=true->e.on≠i:=fun e he hb heq=>by
     have h1:=kR e he hb;have h0:=(mem_ready.1 hr).1;rw[heq]at h1;rcases anc i listed.size with h' | h'
     ·simp[h']at h0 h1;rw[h0]at h1;cases h1
     ·simp[ajx h']at h1
    have hnW:¬W j:=fun hw=>by
     obtain⟨e,he,cE,cK⟩:=hW j oj hoj hw;rcases cK with cK | cK
     ·exact absurd cK (agy e he cE)
     ·have h1:=kR e he cE;have h0:=hWu _ cK;rcases anc e.on listed.size with h' | h'
      ·simp[h']at h0 h1;rw[h0]at h1;cases h1
      ·simp[ajx h']at h1
    have ZG:brk j=false:=by
     cases hb:brk j with
     | false=>rfl
     | true=>exact absurd (agx j Kg ZV hb) hnW
    have h2:=wpOp_putIf hoj (ZU j oj hoj Kg ZV agy) (fun cs b=>ES i oi cs b hi) (fun cs b=>ES j oj cs b hoj) hQ hy h1
    have agz:∀k,(listed.setIfInBounds j true).getD k true=false->listed.getD k true=false:=fun k fx=>by
     by_cases ZW:j=k
     ·subst ZW;exact ZV
     ·rw[getD_set_ne true ZW]at fx;exact fx
    refine wpOp_mono (fun a' w' h3=>⟨h3.2.1,ih (listed.setIfInBounds j true) a' w' (fun k ok hk hki fx ec=>ZU k ok hk hki (agz k fx) ec) hW (fun k hk=>by
     by_cases ZW:j=k
     ·subst ZW;exact absurd hk hnW
     ·rw[getD_set_ne true ZW];exact hWu k hk) (fun k hki fx hb=>agx k hki (agz k fx) hb) (ready_mono hr (Ne.symm Kg)) h3.1 (hT j _ ZG h3.2.1) ?_⟩) h2
    rw[Array.setIfInBounds_comm _ _ Kg];exact h3.2.2
theorem jV {rs:List Nat} {fuel:Nat} {listed:Array Bool} {a:Act} {w:World} (hr:Region.ready md ops listed=rs) (hne:rs≠[])
  (h:∀i∈rs,wpOp P ops Q i (fun a' w'=>T i w'/\jy P md ops Q T fuel (listed.setIfInBounds i true) a' w') a w):jy P md ops Q T (fuel+1) listed a w:=
 ⟨fun h0=>absurd (hr▸h0) hne,hr▸h⟩
theorem Kh {listed:Array Bool} {a:Act} {w:World} (hr:Region.ready md ops listed=[]) (h:Q .normal a w):∀fuel,jy P md ops Q T fuel listed a w
 | 0=>⟨hr,h⟩
 | _+1=>⟨fun _=>h,by rw[hr];simp⟩
theorem VU {Q Q':Exit->Act->World->Prop} (hQ:∀y a w,Q y a w->Q' y a w) {i:Nat} {K:Act->World->Prop} {a:Act} {w:World} (h1:wpOp P ops Q i K a w):wpOp P ops Q' i K a w:=by
 unfold wpOp at h1 ⊢;split
 ·rename_i ho;simp only[ho]at h1;exact h1
 ·rename_i o ho;simp only[ho]at h1;split
  ·rename_i sD;simp only[sD,if_true]at h1;refine h1.imp (fun h2=>?_) (fun⟨h2,a',w',h3⟩=>⟨h2,a',w',hQ _ _ _ h3⟩);unfold Oper.wp at h2 ⊢;generalize (execOp a.eval o).run P w=r at*;cases r with
   | ok nx w'=>
     cases nx<;>simp only[Oper.upon]at h2 ⊢ <;>first
      | exact h2
      | (refine Calls.mono h2 fun x HE he=>?_
         cases x with
         | returned v=>exact he
         | panicked c=>exact hQ _ _ _ he
         | outgrown=>obtain⟨a',w',h3⟩:=he;exact⟨a',w',hQ _ _ _ h3⟩)
   | halt x w'=>cases x<;>simp only[Oper.upon]at h2 ⊢ <;>first | exact h2 | exact hQ _ _ _ h2
  ·rename_i sD;simp only[sD]at h1;exact h1
theorem jW {Q Q':Exit->Act->World->Prop} {T T':Nat->World->Prop} (hQ:∀y a w,Q y a w->Q' y a w):∀(fuel:Nat) (listed:Array Bool) (a:Act) (w:World),(∀j,listed.getD j true=false->∀x,T j x->T' j x)->
  jy P .any ops Q T fuel listed a w->jy P .any ops Q' T' fuel listed a w:=by
 intro fuel;induction fuel with
 | zero=>intro listed a w _ h;exact⟨h.1,hQ _ _ _ h.2⟩
 | succ fuel ih=>
   intro listed a w hT h;refine⟨fun h0=>hQ _ _ _ (h.1 h0),fun i hi=>?_⟩;have fx:=(mem_ready.1 hi).1
   exact VU hQ (wpOp_mono (fun a' w' h'=>⟨hT i fx _ h'.1,ih _ _ _ (fun j hj x=>hT j (by
    by_cases HF:i=j
    ·subst HF;exact fx
    ·rw[getD_set_ne true HF]at hj;exact hj) x) h'.2⟩) (h.2 i hi))
end
def TH (brk:List Nat) (G:Gh) (w:World) (j:Nat) (x:World):Prop:=brk.contains j=false->Sx G w x
def bP (P:Program) (n:Sz) (D:List Deferred) (ops:Array Oper) (brk:List Nat) (fuel:Nat) (listed:Array Bool) (e:Env) (O:VH) (Q:VQ):Prop:=
 ∀G a w,WR G O w->FR G n D e a->jy P .any ops (cN G n D Q) (TH brk G w) fuel listed a w
theorem VC.Ki {id:Nat} (brk:List Nat) (hm:P.follows .mixedOrders=true) (h:bP P n D ops brk ops.size (Array.replicate ops.size false) e O Q):VC P n D (.region id ops true) e O Q:=
 fun G a w hw hf=>wp_region_any hm (k_ _ _ _ _ (h G a _ (hw.drawn _) hf))
theorem bP.done {brk:List Nat} {fuel:Nat} {listed:Array Bool} (hr:Region.ready .any ops listed=[]) (h:Q .normal e O):bP P n D ops brk fuel listed e O Q:=
 fun G a w hw aV=>Kh hr ⟨.normal,e,O,G,Gh.Le.refl G,hw,aV,trivial,h⟩ fuel
def kS (ops:Array Oper) (listed:Array Bool) (i:Nat):Nat->List Nat
 | 0=>[]
 | k+1=>(List.range ops.size).filter fun j=> !listed.getD j true&&((ops[j]?).map fun o=>o.after.any fun e=>Region.binds .any e&&(e.on==i||(kS ops listed i k).contains e.on)).getD false
def oA (ops:Array Oper) (brk:List Nat) (listed:Array Bool) (i:Nat):Bool:=
 brk.all fun j=>listed.getD j true||j==i||(kS ops listed i ops.size).contains j
theorem CZ {listed:Array Bool} {i:Nat} (j:Nat) (oj:Oper) (hj:ops[j]?=some oj) (h:∃k,j∈kS ops listed i k):∃e∈oj.after,Region.binds .any e=true/\(e.on=i\/∃k,e.on∈kS ops listed i k):=by
 obtain⟨k,hk⟩:=h;cases k with
 | zero=>cases hk
 | succ k=>
   simp only[kS,List.mem_filter,hj,ahV,Option.getD_some,Mn]at hk;obtain⟨e,he,h2⟩:=Array.any_eq_true'.1 hk.2.2;simp only[Mn,ann,beq_iff_eq]at h2;refine⟨e,he,h2.1,?_⟩;rcases h2.2 with h3 | h3
   ·exact .inl h3
   ·exact .inr ⟨k,by simpa using h3⟩
theorem Iu {listed:Array Bool} {i:Nat} (j:Nat) (h:∃k,j∈kS ops listed i k):listed.getD j true=false:=by
 obtain⟨k,hk⟩:=h;cases k with
 | zero=>cases hk
 | succ k=>
   simp only[kS,List.mem_filter,Mn,Bool.not_eq_true']at hk;exact hk.2.1
theorem Iv {brk:List Nat} {listed:Array Bool} {i:Nat} (h:oA ops brk listed i=true):∀j,j≠i->listed.getD j true=false->brk.contains j=true->∃k,j∈kS ops listed i k:=by
 intro j hne fx hb;have:=ank.1 h j (by simpa using hb);simp only[fx,Bool.false_or,ann,beq_iff_eq,hne,false_or]at this;exact⟨_,by simpa using this⟩
theorem bP.take {brk:List Nat} {fuel i:Nat} {listed:Array Bool} {o:Oper} (ho:ops[i]?=some o) (hs:Region.noSelect ops=true) (hf:Region.free .any ops listed i=true) (hr:(Region.ready .any ops listed).contains i=true) (hb:oA ops brk listed i=true)
  (hd:bD n o.dst=true) (hy:∀G a w,WR G O w->FR G n D e a->∃u,VR G m u/\YieldsIf P ops (Sx G w) o u a) (h:bP P n D ops brk fuel (listed.setIfInBounds i true) (aZ o.dst m e) O Q):bP P n D ops brk (fuel+1) listed e O Q:=by
 intro G a w hw aV;obtain⟨u,hu,hyi⟩:=hy G a w hw aV;refine oS (S:=Sx G w) (W:=fun j=>∃k,j∈kS ops listed i k) (brk:=fun j=>brk.contains j) ho (Region.noSelect_spec hs) (iC hd) (fun j x hj hT=>hT hj) (fun x hx _=>hx) fuel listed a w (Region.free_spec ho hf) CZ Iu (Iv hb) (by simpa using hr) hyi hw.sx (h G _ w hw (aV.aZ hd hu))
theorem bP.one (ht:aP P tab) {brk:List Nat} {fuel i:Nat} {listed:Array Bool} {o:Oper} (ho:ops[i]?=some o) (hr:Region.ready .any ops listed=[i]) (hb:(brk.contains i=false/\HC o.op=true)\/∀j,(listed.setIfInBounds i true).getD j true=false\/j=i->brk.contains j=true)
  (hg:aO ops o e=some true) (hv:dF tab o e O=some (m,O')) (hd:bD n o.dst=true) (h:bP P n D ops brk fuel (listed.setIfInBounds i true) (aZ o.dst m e) O' Q):bP P n D ops brk (fuel+1) listed e O Q:=by
 intro G a w hw aV;refine jV hr (by simp) fun j hj=>?_
 obtain rfl:j=i:=by simpa using hj
 obtain⟨nx,w',H,u,cD,tU,h1,h2,h3,h4⟩:=Ek (P:=P) ht hw aV hv;simp only[wpOp,ho,bC aV hg,if_true];refine .inl ?_;unfold Oper.wp;rw[cD];have hk:=h H (a.put o.dst u) w' h2 ((aV.mono h1).aZ hd h3)
 have ZX:TH brk G w j w'/\jy P .any ops (cN G n D Q) (TH brk G w) fuel (listed.setIfInBounds j true) (a.put o.dst u) w':=by
  rcases hb with⟨cE,cK⟩ | hb
  ·have qu:=h4 cK;have hs:Sx G w w':=⟨SS.le h1 h2.ss,qu⟩;refine⟨fun _=>hs,jW (fun _ _ _=>cN.le h1) _ _ _ _ (fun k _ x hT qs=>?_) hk⟩;obtain⟨g1,g2⟩:=hT qs;exact⟨SS.le h1 g1,fun k' b lK=>(g2 k' b (h1.bV lK)).trans (qu k' b lK)⟩
  ·refine⟨fun hh=>?_,jW (fun _ _ _=>cN.le h1) _ _ _ _ (fun k qs x _ hh=>?_) hk⟩
   ·rw[hb j (.inr rfl)]at hh;cases hh
   ·rw[hb k (.inl qs)]at hh;cases hh
 rcases tU with rfl | ⟨rfl,rfl⟩<;>exact ZX
theorem bP.ah1 {brk:List Nat} {fuel i:Nat} {listed:Array Bool} {o:Oper} (ho:ops[i]?=some o) (hr:Region.ready .any ops listed=[i]) (hb:(brk.contains i=false/\HC o.op=true)\/∀j,(listed.setIfInBounds i true).getD j true=false\/j=i->brk.contains j=true)
  (hg:aO ops o e=some false) (hd:bD n o.dst=true) (h:bP P n D ops brk fuel (listed.setIfInBounds i true) (aZ o.dst cV e) O Q):bP P n D ops brk (fuel+1) listed e O Q:=by
 intro G a w hw aV;refine jV hr (by simp) fun j hj=>?_
 obtain rfl:j=i:=by simpa using hj
 simp only[wpOp,ho,bC aV hg,ZA,if_false];exact⟨fun _=>hw.sx,h G _ w hw (aV.aZ hd lM)⟩
theorem bP.ZY {brk:List Nat} {fuel i:Nat} {listed:Array Bool} (hr:Region.ready .any ops listed=[i]) (hb:∀j,(listed.setIfInBounds i true).getD j true=false\/j=i->brk.contains j=true)
  (h:aN P n D ops i e O Q fun e' O'=>bP P n D ops brk fuel (listed.setIfInBounds i true) e' O' Q):bP P n D ops brk (fuel+1) listed e O Q:=by
 intro G a w hw aV;refine jV hr (by simp) fun j hj=>?_
 obtain rfl:j=i:=by simpa using hj
 refine wpOp_mono (fun a' w' ⟨e',O',H,h1,h2,h3,h4⟩=>⟨fun hh=>?_,jW (fun _ _ _=>cN.le h1) _ _ _ _ (fun k qs x _ hh=>?_) (h4 H a' w' h2 h3)⟩) (h G a w hw aV)
 ·rw[hb j (.inr rfl)]at hh;cases hh
 ·rw[hb k (.inl qs)]at hh;cases hh
end
def Kj (d:TypeDesc) (z:Value):Bool:=match eg d,z with
 | true,.agg _=>true
 | true,_=>false
 | false,.agg _=>false
 | false,_=>true
theorem QS {d:TypeDesc} {z:Value} (h:Kj d z=true):(eg d=true->∃cs,z= .agg cs)/\(eg d=false->z.cells= #[z]):=by
 refine⟨fun ha=>?_,fun ha=>?_⟩<;>unfold Kj at h<;>rw[ha]at h<;>cases z<;>first | exact⟨_,rfl⟩ | rfl | cases h
def bX (P:Program) (t:TypeId):Option cM:=
 match P.underlying t,P.info? t with
 | some d,some i=>match i.zero with
   | some z=>match z.cells.toList.mapM ofConst with
     | some zs=>if z.cells.size=i.size/\Kj d z=true then some ⟨d,i.size,i.bytes,zs⟩else none
     | none=>none
   | none=>none
 | _,_=>none
theorem ET {G:Gh}:∀{us:List Value} {ms:List MV},us.mapM ofConst=some ms->aS G ms us
 | [],ms,h=>by simp at h;subst h;exact aS.nil
 | u::us,ms,h=>by
   simp only[ahX,ahW,Mm]at h;obtain⟨m,h1,ZH,h2,h3⟩:=h;injection h3 with h3;subst h3
   exact aS.cons (CT h1) (ET h2)
theorem ZZ (P:Program):aP P (bX P):=by
 intro t i h;unfold bX at h;split at h
 ·rename_i d ti hd hi;split at h
  ·rename_i z hz;split at h
   ·rename_i zs hzs;split at h
    ·rename_i p7;injection h with h;subst h
     exact⟨hd,⟨ti,z,hi,rfl,rfl,hz,p7.1,fun G=>ET hzs⟩,fun ti' z' h1 h2=>by
      rw[hi]at h1;injection h1 with h1;subst h1
      rw[hz]at h2;injection h2 with h2;subst h2
      exact QS p7.2⟩
    ·cases h
   ·cases h
  ·cases h
 ·cases h
section
variable {G H:Gh} {n:Sz} {D:List Deferred} {e e':Env} {a:Act} {P:Program} {tab:cg} {O O':VH} {w:World} {m m':MV} {u v:Value} {ops:Array Oper} {Q:VQ}
variable {d:Option Tmp} {t t' ty:TypeId} {p:String} {af:Array Edge} {g:Option (Nat×Bool)} {x y z:Operand}
theorem TT (k:Nat):ev e (.tmp k)=look e k:=rfl
theorem TU (k:IntKind) (i:Int):ev e (.const (.int k i))=some (.v (.int k i)):=rfl
theorem MA (b:Bool):ev e (.const (.bool b))=some (.v (.bool b)):=rfl
theorem TV (s:ByteArray):ev e (.const (.string s))=some (.str s.data.toList):=rfl
theorem Iw:ev e (.const (.slice none 0 0))=some (.sl 0 [] .nil):=rfl
theorem EU:ev e (.const (.pointer none))=some (.v (.pointer none)):=rfl
theorem EV:ev e (.const (.map none))=some (.v (.map none)):=rfl
theorem Am:ev e (.const .nilIface)=some (.v .nilIface):=rfl
theorem C0:ev e (.const .nilFunc)=some (.v .nilFunc):=rfl
theorem MB (f:FuncId):ev e (.func f)=some (.func (.func f) [] []):=rfl
theorem mX (k j:Nat) (m:MV) (r:Env):look ((k,m)::r) j=bif j==k then some m else look r j:=rfl
theorem MC:gh e []=some []:=rfl
theorem Ix (x:Operand) (l:List Operand):gh e (x::l)=(ev e x).bind fun m=>(gh e l).map (m:: ·):=by
 simp only[gh,ahX,ahW];cases ev e x with
 | none=>rfl
 | some m=>cases List.mapM (ev e) l<;>rfl
private theorem au {o:Oper} {r:Option MV} (h:eX tab o e=r) (hl:jf tab o e O=none):dF tab o e O=r.map (·,O):=by
 unfold dF;rw[h];cases r<;>simp[hl]
theorem Iy:dF tab (.mk d (.move x) ty p af g) e O=(ev e x).map (·,O):=au rfl rfl
theorem C1:dF tab (.mk d (.assign x) ty p af g) e O=(ev e x).map (·,O):=au rfl rfl
theorem yA:dF tab (.mk d (.nilCheck x) ty p af g) e O=((ev e x).bind Mu).map (·,O):=au rfl rfl
theorem EX {op:BinOp}:dF tab (.mk d (.binOp op t x y t') ty p af g) e O=((ev e x).bind fun q=>(ev e y).bind fun r=>dz tab op t q r).map (·,O):=by
 refine au ?_ rfl;simp only[eX];cases ev e x<;>first | rfl | (cases ev e y<;>rfl)
theorem Iz {op:UnOp}:dF tab (.mk d (.unOp op t x) ty p af g) e O=((ev e x).bind (xx op)).map (·,O):=au rfl rfl
theorem An:dF tab (.mk d (.convert t t' x) ty p af g) e O=((ev e x).bind (B5 tab t t')).map (·,O):=au rfl rfl
theorem vJ {f:Nat}:dF tab (.mk d (.fieldAddr t x f) ty p af g) e O=((ev e x).bind (jU tab t f)).map (·,O):=au rfl rfl
theorem EY {f:Nat}:dF tab (.mk d (.field t x f) ty p af g) e O=((ev e x).bind (xq tab t · f)).map (·,O):=au rfl rfl
theorem vK:dF tab (.mk d (.indexAddr t x y) ty p af g) e O=((ev e x).bind fun q=>(ev e y).bind fun r=>ni tab t q r).map (·,O):=by
 refine au ?_ rfl;simp only[eX];cases ev e x<;>first | rfl | (cases ev e y<;>rfl)
theorem EZ:dF tab (.mk d (.index t x y) ty p af g) e O=((ev e x).bind fun q=>(ev e y).bind fun r=>xr tab t q r).map (·,O):=by
 refine au ?_ rfl;simp only[eX];cases ev e x<;>first | rfl | (cases ev e y<;>rfl)
theorem Ao {i:Nat}:dF tab (.mk d (.extract x i) ty p af g) e O=((ev e x).bind (sB · i)).map (·,O):=au rfl rfl
theorem E0 {ps:Array (Nat×Operand)}:dF tab (.mk d (.build t ps) ty p af g) e O=((gh e (ps.toList.map (·.2))).bind fun ms=>xw tab t (gT ps ms)).map (·,O):=by
 refine au ?_ rfl;simp only[eX];cases gh e (ps.toList.map (·.2))<;>rfl
theorem yB {fn:Fn} {fs cs:Array Operand}:dF tab (.mk d (.makeFunc fn fs cs) ty p af g) e O=((gh e fs.toList).bind fun q=>(gh e cs.toList).map fun r=>.func fn q r).map (·,O):=by
 refine au ?_ rfl;simp only[eX];cases gh e fs.toList<;>first | rfl | (cases gh e cs.toList<;>rfl)
theorem E5 {lo hi:Option Operand}:dF tab (.mk d (.slice t x lo hi none) ty p af g) e O=((ev e x).bind fun q=>(eX.DO e lo).bind fun l=>(eX.DO e hi).bind fun h=>xy tab t q l h).map (·,O):=by
 refine au ?_ rfl;simp only[eX];cases ev e x<;>first | rfl | (cases eX.DO e lo<;>first | rfl | (cases eX.DO e hi<;>rfl))
theorem ME {lo:Option Operand} {hi mx:Operand}:dF tab (.mk d (.slice t x lo (some hi) (some mx)) ty p af g) e O=((ev e x).bind fun q=>(eX.DO e lo).bind fun l=>(ev e hi).bind fun h=>(ev e mx).bind (oZ tab t q l h)).map (·,O):=by
 refine au ?_ rfl;simp only[eX,show eX.DO e (some hi)=(ev e hi).map some from rfl];generalize eX.DO e lo=z;cases ev e x<;>cases z<;>cases ev e hi<;>rfl
theorem IA:eX.DO e none=some none:=rfl
theorem IB:eX.DO e (some x)=(ev e x).map some:=rfl
theorem MF:dF tab (.mk d (.call {callee:=.builtin .len,args:= #[x],argTypes:= #[t]}) ty p af g) e O=(ev e x).bind fun q=>match de tab t q with
  | some r=>some (r,O)
  | none=>(qo tab O t q).map (·,O):=by
 simp only[dF,eX,jf];cases ev e x with
 | none=>rfl
 | some q=>
   simp only[ajv]<;>cases de tab t q<;>rfl
theorem MG {ts:Array TypeId}:dF tab (.mk d (.call {callee:=.builtin .max,args:= #[x,y],argTypes:=ts}) ty p af g) e O=((ev e x).bind fun q=>(ev e y).bind fun r=>B3 q r).map (·,O):=by
 refine au ?_ rfl;simp only[eX];cases ev e x<;>first | rfl | (cases ev e y<;>rfl)
theorem MH {ts:Array TypeId}:dF tab (.mk d (.call {callee:=.builtin .min,args:= #[x,y],argTypes:=ts}) ty p af g) e O=((ev e x).bind fun q=>(ev e y).bind fun r=>B4 q r).map (·,O):=by
 refine au ?_ rfl;simp only[eX];cases ev e x<;>first | rfl | (cases ev e y<;>rfl)
theorem QT {ts:Array TypeId}:dF tab (.mk d (.call {callee:=.builtin .unsafeSliceData,args:= #[x],argTypes:=ts}) ty p af g) e O=((ev e x).bind xz).map (·,O):=au rfl (by simp only[jf]<;>rfl)
theorem dq:dF tab (.mk d (.call {callee:=.builtin .append,args:= #[x,y],argTypes:= #[t,t]}) ty p af g) e O=(ev e x).bind fun q=>(ev e y).bind fun r=>iA tab O t q r:=by
 simp only[dF,eX,jf,if_true];cases ev e x<;>first | rfl | (cases ev e y<;>rfl)
theorem MI {cs:List MV} {off:Nat}:fw tab O t (.dG cs off)=fw tab O' t (.dG cs off):=rfl
theorem IC:dF tab (.mk d (.load t x) ty p af g) e O=(ev e x).bind fun q=>(fw tab O t q).map (·,O):=by
 simp only[dF,eX,jf];cases ev e x with
 | none=>rfl
 | some q=>
   cases q<;>try rfl
   rename_i cs off;simp only[ajv];rw[MI (O':=O)];cases fw tab O t (.dG cs off)<;>rfl
theorem E8:dF tab (.mk d (.store t x y) ty p af g) e O=(ev e x).bind fun q=>(ev e y).bind fun r=>(xn tab O t q r).map (.tuple [], ·):=by
 simp only[dF,eX,jf];cases ev e x<;>first | rfl | (cases ev e y<;>rfl)
theorem MJ:dF tab (.mk d (.box t x) ty p af g) e O=(ev e x).map fun q=>(.ptr O.N 0,O.push (.cells (eh q))):=rfl
theorem QU:dF tab (.mk d (.alloc t) ty p af g) e O=(tab t).map fun i=>(.ptr O.N 0,xB O t i.size i.zero):=rfl
theorem uR {k:Nat} {ps:Array (Nat×Operand)}:dF tab (.mk d (.buildSlice t k ps) ty p af g) e O=(gh e (ps.toList.map (·.2))).bind fun ms=>(lL tab t k (gT ps ms)).map (·,O):=by
 simp only[dF,eX,jf];cases gh e (ps.toList.map (·.2))<;>rfl
theorem vL:dF tab (.mk d (.makeSlice t x y) ty p af g) e O=(ev e x).bind fun q=>(ev e y).bind fun r=>nj tab O t q r:=by
 simp only[dF,eX,jf];cases ev e x<;>first | rfl | (cases ev e y<;>rfl)
theorem Ap:dF tab (.mk d (.makeMap t none) ty p af g) e O=some (.map O.N,O.push (.map [] 0)):=rfl
theorem C3 {b:Bool}:dF tab (.mk d (.lookup t x y b) ty p af g) e O=(ev e x).bind fun q=>(ev e y).bind fun r=>(ig tab O t q r b).map (·,O):=by
 simp only[dF,eX,jf];cases ev e x<;>first | rfl | (cases ev e y<;>rfl)
theorem vM {z:Operand}:dF tab (.mk d (.mapUpdate t x y z) ty p af g) e O=(ev e x).bind fun q=>(ev e y).bind fun r=>(ev e z).bind fun s=>(eB tab O t q r s).map (.tuple [], ·):=by
 simp only[dF,eX,jf];cases ev e x<;>first | rfl | (cases ev e y<;>first | rfl | (cases ev e z<;>rfl))
theorem C4 {z:Operand}:dF tab (.mk d (.insert t x y z) ty p af g) e O=(ev e x).bind fun q=>(ev e y).bind fun r=>(ev e z).bind fun s=>(eB tab O t q r s).map (.tuple [], ·):=by
 simp only[dF,eX,jf];cases ev e x<;>first | rfl | (cases ev e y<;>first | rfl | (cases ev e z<;>rfl))
section
variable {k:IntKind} {i j:Int}
theorem ID:dz tab .add t (.v (.int k i)) (.v (.int k j))=some (.v (.int k (k.wrap (i+j)))):=by simp[dz,rI]
theorem IE:dz tab .sub t (.v (.int k i)) (.v (.int k j))=some (.v (.int k (k.wrap (i - j)))):=by simp[dz,rI]
theorem IF:dz tab .mul t (.v (.int k i)) (.v (.int k j))=some (.v (.int k (k.wrap (i*j)))):=by simp[dz,rI]
theorem VV (h:j≠0):dz tab .quo t (.v (.int k i)) (.v (.int k j))=some (.v (.int k (k.wrap (i.tdiv j)))):=by simp[dz,rI,h]
theorem VW (h:j≠0):dz tab .rem t (.v (.int k i)) (.v (.int k j))=some (.v (.int k (i.tmod j))):=by simp[dz,rI,h]
theorem IG:dz tab .eql t (.v (.int k i)) (.v (.int k j))=some (.v (.bool (i==j))):=by simp[dz,rI]
theorem IH:dz tab .neq t (.v (.int k i)) (.v (.int k j))=some (.v (.bool (i != j))):=by simp[dz,rI]
theorem II:dz tab .lss t (.v (.int k i)) (.v (.int k j))=some (.v (.bool (decide (i<j)))):=by simp[dz,rI]
theorem IJ:dz tab .leq t (.v (.int k i)) (.v (.int k j))=some (.v (.bool (decide (i<=j)))):=by simp[dz,rI]
theorem IK:dz tab .gtr t (.v (.int k i)) (.v (.int k j))=some (.v (.bool (decide (i>j)))):=by simp[dz,rI]
theorem IL:dz tab .geq t (.v (.int k i)) (.v (.int k j))=some (.v (.bool (decide (i>=j)))):=by simp[dz,rI]
theorem MK:xx .neg (.v (.int k i))=some (.v (.int k (k.wrap (0 - i)))):=rfl
theorem ML {b:Bool}:xx .not (.v (.bool b))=some (.v (.bool !b)):=rfl
theorem wrap_i64 (h0: -9223372036854775808<=i) (h1:i<=9223372036854775807):IntKind.i64.wrap i=i:=by rw[IntKind.wrap_i64];omega
end
theorem Aq {r:Env} {q:Op}:aO ops (.mk d q ty p af none) r=some true:=rfl
theorem Ar {q:Op} {j:Nat} {b:Bool}:aO ops (.mk d q ty p af (some (j,b))) e=match(ops[j]?).bind (·.dst)with
  | some k=>match look e k with
    | some (.v (.bool c))=>some (c==b)
    | some (.tuple [])=>some false
    | _=>none
  | none=>none:=rfl
theorem VC.Kk {c:Operand} {x y:Code} (hc:ev e c=some (.v (.bool true))) (h:VC P n D x e O Q):VC P n D (.cond c x y) e O Q:=VC.cond hc (fun _=>h) (fun h=>by cases h)
theorem VC.ah2 {c:Operand} {x y:Code} (hc:ev e c=some (.v (.bool false))) (h:VC P n D y e O Q):VC P n D (.cond c x y) e O Q:=VC.cond hc (fun h=>by cases h) (fun _=>h)
section
variable {el:TypeId} {a b c d:Nat} {z y:List MV} {u:TypeDesc}
theorem bL {k:Nat} {cs:List MV} {tk:Tok} (h:tab t=some ⟨.slice el,a,b,z⟩):de tab t (.sl k cs tk)=some (.v (.int .i64 k)):=by simp[de,h]
theorem IN {k o i j:Nat} (h:tab t=some ⟨.slice el,a,b,z⟩):de tab t (.bz k o i j)=some (.v (.int .i64 i)):=by simp[de,h]
end
end
def mi (x:Int):MV:=.v (.int .i64 x)
def mb (x:Bool):MV:=.v (.bool x)
structure VH.Ge (O O':VH):Prop where
 N:O.N<=O'.N
 hp:∀k,k<O.N->O'.hp k=O.hp k
section
variable {O O1 O2:VH} {x:cf} {k:Nat}
theorem VH.Ge.at {y:Option cf} (g:O.Ge O1) (h:O.hp k=y) (hk:k<O.N:=by omega):O1.hp k=y:=(g.hp k hk).trans h
theorem VH.Ge.refl (O:VH):O.Ge O:=⟨agu _,fun _ _=>rfl⟩
theorem VH.Ge.trans (h:O.Ge O1) (h2:O1.Ge O2):O.Ge O2:=⟨Nat.le_trans h.N h2.N,fun k hk=>(h2.hp k (Nat.lt_of_lt_of_le hk h.N)).trans (h.hp k hk)⟩
theorem Υ (O:VH) (x:cf):(O.push x).hp O.N=some x:=aK _ _ _
theorem Ω (O:VH) (x:cf) (h:k<O.N):(O.push x).hp k=O.hp k:=ay _ _ (by omega)
theorem VH.o0 (O:VH) (x:cf) (h:k≠O.N):(O.push x).hp k=O.hp k:=ay _ _ h
theorem ρ (O:VH) (x:cf) {j:Nat} (h:j≠k):(O.set k x).hp j=O.hp j:=ay _ _ h
theorem Γ {j:Nat} {y:Option cf} (h:O.hp j=y) (hj:j≠k:=by omega):(O.set k x).hp j=y:=(ρ O x hj).trans h
theorem VH.lg (O:VH) {j:Nat} (h:j≠k):(O.kill k).hp j=O.hp j:=ay _ _ h
theorem VH.Ge.push (h:O.Ge O1) (x:cf):O.Ge (O1.push x):=h.trans ⟨Nat.le_succ _,fun _ hk=>Ω _ _ hk⟩
theorem VH.Ge.set (h:O.Ge O1) (hk:O.N<=k) (x:cf):O.Ge (O1.set k x):=⟨h.N,fun j hj=>Γ (h.hp j hj)⟩
theorem VH.Ge.kill (h:O.Ge O1) (hk:O.N<=k):O.Ge (O1.kill k):=⟨h.N,fun j hj=>(VH.lg _ (by omega)).trans (h.hp j hj)⟩
theorem VH.tZ (O:VH) (x:cf):(O.push x).N=O.N+1:=rfl
theorem VH.ft (O:VH) (x:cf):(O.set k x).N=O.N:=rfl
end
def App (O:VH) (B sz:Nat):Tok->Prop
 | .nil=>True
 | .full=>True
 | .own t k=>k=sz/\O.hp t=some .tok/\B<=t/\t<O.N
 | .ar=>False
def VH.after (O:VH):Tok->VH
 | .own t _=>(O.kill t).push .tok
 | _=>O.push .tok
theorem VH.dY (O:VH) (tk:Tok):(O.after tk).N=O.N+1:=by cases tk<;>rfl
theorem VH.QV (O:VH) (tk:Tok):(O.after tk).hp O.N=some .tok:=by
 cases tk<;>first | exact Υ _ _ | exact Υ (O.kill _) _
theorem App.after {O:VH} {B sz:Nat} {tk:Tok} (hB:B<=O.N):App (O.after tk) B sz (.own O.N sz):=⟨rfl,O.QV tk,hB,by rw[O.dY];omega⟩
theorem VH.Ge.after {O O1:VH} {B sz:Nat} {tk:Tok} (h:O.Ge O1) (ha:App O1 B sz tk) (hB:O.N<=B):O.Ge (O1.after tk):=by
 cases tk with
 | own t k=>exact(h.kill (Nat.le_trans hB ha.2.2.1)).push _
 | _=>exact h.push _
theorem VH.jD {O:VH} {B sz:Nat} {tk:Tok} (ha:App O B sz tk) {k:Nat} {x:cf} (hk:O.hp k=some x) (hx:x≠ .tok) (hl:k<O.N):(O.after tk).hp k=some x:=by
 cases tk with
 | own t j=>
   refine(Ω (O.kill t) _ hl).trans ?_;rw[VH.lg _ (fun e=>by subst e;rw[ha.2.1]at hk;injection hk with hk;exact hx hk.symm)];exact hk
 | _=>exact(Ω _ _ hl).trans hk
theorem aT {tab:cg} {O:VH} {t el:TypeId} {u:TypeDesc} {a b sz Z0:Nat} {z y:List MV} (h:tab t=some ⟨.slice el,a,b,z⟩) (h2:tab el=some ⟨u,sz,Z0,y⟩) {B n k:Nat} {cs ds:List MV} {tk tk':Tok} (ha:App O B sz tk)
  (hc:cs.length=n*sz) (hd:ds.length=k*sz) (hl:ds.all eb=true) (hs:0<sz) (hk:k≠0) (hb:(n+k)*Z0<=140737488355328) (hm:n+k<=maxLen):
  iA tab O t (.sl n cs tk) (.sl k ds tk')=some (.sl (n+k) (cs++ds) (.own O.N sz),O.after tk):=by
 simp only[iA,h,h2,ahV];rw[if_pos ⟨hd,hl,hs⟩,if_neg hk,if_pos ⟨hc,hb,hm⟩];cases tk with
 | nil=>rfl
 | full=>rfl
 | own s j=>
   obtain⟨rfl,h3,_⟩:=ha;simp only[if_true,h3];rfl
 | ar=>exact ha.elim
section
variable {tab:cg} {t el:TypeId} {u:TypeDesc} {a b d:Nat} {z:List MV} {y m0 m1 m2:MV}
end
section
variable {tab:cg} {t el:TypeId} {u:TypeDesc} {a b d:Nat} {z:List MV} {y:MV} {v0 v1 v2:Value}
end
theorem zp1 (i:Nat) (x:Operand) (m:MV):gT #[(i,x)] [m]=[(i,m)]:=rfl
theorem zp2 (i j:Nat) (x y:Operand) (m q:MV):gT #[(i,x),(j,y)] [m,q]=[(i,m),(j,q)]:=rfl
theorem zp3 (i j k:Nat) (x y z:Operand) (m q r:MV):gT #[(i,x),(j,y),(k,z)] [m,q,r]=[(i,m),(j,q),(k,r)]:=rfl
theorem aq (x:Int):mi x= .v (.int .i64 x):=rfl
theorem bu (x:Bool):mb x= .v (.bool x):=rfl
def looks (e:Env):List Nat->Option (List MV)
 | []=>some []
 | t::l=>(look e t).bind fun m=>(looks e l).map (m:: ·)
theorem QW (e:Env):looks e []=some []:=rfl
theorem C6 (e:Env) (t:Nat) (l:List Nat):looks e (t::l)=(look e t).bind fun m=>(looks e l).map (m:: ·):=rfl
def pair:List Nat->List MV->Env
 | t::l,m::ms=>(t,m)::pair l ms
 | _,_=>[]
theorem QX (t:Nat) (l:List Nat) (m:MV) (ms:List MV):pair (t::l) (m::ms)=(t,m)::pair l ms:=rfl
theorem VZ (ms:List MV):pair [] ms=[]:=rfl
section
variable {n:Sz} {D:List Deferred} {e:Env} {P:Program} {O:VH} {Q:VQ} {c:Code}
end
def IP (P:Program) (n:Sz) (D:List Deferred) (d:Code) (Q:VQ):VQ:=fun x e O=>match x with
 | .normal=>VC P n D d e O Q
 | x=>Q x e O
def iV (id:Nat) (Q:VQ):VQ:=fun x e O=>match x with
 | .exit i=>if i=id then Q .normal e O else Q (.exit i) e O
 | x=>Q x e O
def Kl {σ :Type} (l:List Nat) (ms: σ ->List MV) (I: σ ->VH->Prop) (μ : σ ->Nat) (s: σ) (Q:VQ):VQ:=fun x e O=>match x with
 | .normal=>∃s',looks e l=some (ms s')/\I s' O/\ μ s'< μ s
 | x=>Q x e O
def nN (tab:cg) (fn:Func) (R:gB->VH->Prop):VQ:=fun x e O=>match x with
 | .normal=>∃m,dK tab fn e O=some m/\R (.ret m) O
 | .ret=>∃m,dK tab fn e O=some m/\R (.ret m) O
 | .panic m=>R (.panic m) O
 | _=>False
section
variable {n:Sz} {D:List Deferred} {e:Env} {P:Program} {O:VH} {Q:VQ} {c d:Code} {id i:Nat} {m:MV} {tab:cg} {fn:Func} {R:gB->VH->Prop}
theorem Km:IP P n D d Q .normal e O=VC P n D d e O Q:=rfl
theorem QY:IP P n D d Q (.exit i) e O=Q (.exit i) e O:=rfl
theorem QZ:IP P n D d Q (.goto i) e O=Q (.goto i) e O:=rfl
theorem V0:IP P n D d Q .ret e O=Q .ret e O:=rfl
theorem MM:IP P n D d Q (.panic m) e O=Q (.panic m) e O:=rfl
theorem vN:iV id Q .normal e O=Q .normal e O:=rfl
theorem As:iV id Q (.exit i) e O=if i=id then Q .normal e O else Q (.exit i) e O:=rfl
theorem At:iV id Q (.goto i) e O=Q (.goto i) e O:=rfl
theorem C7:iV id Q .ret e O=Q .ret e O:=rfl
theorem r7:iV id Q (.panic m) e O=Q (.panic m) e O:=rfl
section
variable {σ :Type} {l:List Nat} {ms: σ ->List MV} {I: σ ->VH->Prop} {μ : σ ->Nat} {s: σ}
theorem MN:Kl l ms I μ s Q (.exit i) e O=Q (.exit i) e O:=rfl
theorem MO:Kl l ms I μ s Q (.goto i) e O=Q (.goto i) e O:=rfl
theorem Q0:Kl l ms I μ s Q .ret e O=Q .ret e O:=rfl
theorem Kn:Kl l ms I μ s Q (.panic m) e O=Q (.panic m) e O:=rfl
end
theorem vO:tV Q .normal e O=Q .normal e O:=rfl
theorem Au:tV Q (.exit i) e O=Q (.exit i) e O:=rfl
theorem C8:tV Q .ret e O=Q .ret e O:=rfl
theorem yC:tV Q (.panic m) e O=Q (.panic m) e O:=rfl
theorem VC.seq' (h:VC P n D c e O (IP P n D d Q)):VC P n D (.seq c d) e O Q:=VC.seq h
theorem υ (h:VC P n D c e O (iV id Q)):VC P n D (.block id c) e O Q:=VC.block h
theorem VF.aei (ht:aP P tab) {f:FuncId} {c:Code} {args:List MV} (hf:P.funcs[f]?=some fn) (hb:fn.body=some c) (hn:args.length<=fn.ntmps)
  (h:VC P ⟨fn.ntmps,0⟩ [] c (cL 0 args) O (nN tab fn R)):VF P f args O R:=VF.enter ht hf hb hn h
end
section
variable {tab:cg} {n:Sz} {ops:Array Oper} {o:Oper} {l:List Oper} {e:Env} {O O':VH} {d:Option Tmp} {m:MV}
theorem ak (k:Nat):aZ (some k) m e=(k,m)::e:=rfl
theorem E9:aZ none m e=e:=rfl
theorem E_ {k N:Nat}:bD ⟨N,0⟩ (some k)=decide (k<N):=by simp[bD]
theorem Z1 {k N l:Nat}:bD ⟨N,l+1⟩ (some k)=(decide (l<k)&&decide (k<N)):=rfl
theorem Fa:bD n none=true:=rfl
end
section
variable {tab:cg} {fn:Func} {R:gB->VH->Prop} {e:Env} {O:VH} {m m':MV} {t t':Nat}
theorem nN.Z2 (hf:fn.results= #[]) (h:R (.ret (.tuple [])) O):nN tab fn R .ret e O:=⟨_,by rw[dK,hf];rfl,h⟩
theorem nN.ajG (hf:fn.results= #[.tmp t]) (hl:look e t=some m) (h:R (.ret m) O):nN tab fn R .ret e O:=⟨_,by rw[dK,hf];simp[ky,hl],h⟩
theorem nN.ajH (hf:fn.results= #[.tmp t,.tmp t']) (hl:look e t=some m) (oz:look e t'=some m') (h:R (.ret (.tuple [m,m'])) O):nN tab fn R .ret e O:=⟨_,by rw[dK,hf];simp[ky,hl,oz],h⟩
theorem nN.Z3 (hf:fn.results= #[]) (h:R (.ret (.tuple [])) O):nN tab fn R .normal e O:=⟨_,by rw[dK,hf];rfl,h⟩
end
section
variable {G H:Gh} {n:Sz} {D:List Deferred} {e e':Env} {a:Act} {P:Program} {tab:cg} {O O':VH} {w:World} {m m':MV} {u v:Value} {ops:Array Oper} {Q:VQ}
def fZ:Op->Nat
 | .move _ | .assign _ | .pick .. | .nilCheck _ | .binOp .. | .unOp .. | .convert .. | .fieldAddr .. | .field .. | .indexAddr .. | .index .. | .extract .. | .slice .. | .build .. | .makeFunc .. | .makeInterface .. =>1
 | .load .. =>2
 | .lookup .. =>5
 | .call c=>match c.callee with
   | .value _=>0
   | .builtin .len=>4
   | .builtin .max=>1
   | .builtin .min=>1
   | .builtin .unsafeSliceData=>1
   | _=>3
 | _=>3
theorem Z4 {o:Oper} (h:fZ o.op=1):jf tab o e O=none:=by
 unfold jf;unfold fZ at h
 split<;>first
  | rfl
  | (rename_i ho;rw[ho]at h;cases h)
  | (rename_i ho
     rw[ho]at h
     split<;>first
      | rfl
      | (rename_i hc _ _;simp only[hc]at h;cases h))
theorem Z5 {o:Oper} (h:fZ o.op=1) (hv:dF tab o e O=some (m,O')):eX tab o e=some m/\O'=O:=by
 unfold dF at hv;rw[Z4 h]at hv;split at hv
 ·rename_i p hp;simp only[Option.some.injEq,Prod.mk.injEq]at hv;exact⟨by rw[hp,hv.1],hv.2.symm⟩
 ·cases hv
inductive Fl where
 | one | au | rd | fk
inductive Md where
 | plain | any | reads
 | held (brk:List Nat)
def Em (tab:cg) (t:TypeId):MV->Option MV
 | .dG cs off=>fw tab ⟨0,fun _=>none⟩ t (.dG cs off)
 | _=>none
def Z6 (tab:cg) (o:Oper) (e:Env) (O:VH):Option (MV×VH):=
 match o.op with
 | .load t x=>((ev e x).bind (Em tab t)).map (·,O)
 | _=>none
def TW (tab:cg) (o:Oper) (e:Env) (O:VH):Option (MV×VH):=
 match o.op with
 | .call c=>match c.callee,c.args.toList,c.argTypes.toList with
   | .builtin .len,[x],[t]=>((ev e x).bind (de tab t)).map (·,O)
   | _,_,_=>none
 | _=>none
def IQ (tab:cg) (k:Nat) (o:Oper) (e:Env) (O:VH):Option (MV×VH):=
 match k with
 | 1=>dF tab o e O
 | 2=>Z6 tab o e O
 | 4=>TW tab o e O
 | _=>none
def Av (tab:cg) (k:Nat) (o:Oper) (e:Env) (O:VH):Option (MV×VH):=
 match k with
 | 1=>dF tab o e O
 | 2=>dF tab o e O
 | 4=>TW tab o e O
 | 5=>dF tab o e O
 | _=>none
def iW (tab:cg) (f:Fl) (o:Oper) (e:Env) (O:VH):Option (MV×VH):=
 match f with
 | .one=>dF tab o e O
 | .fk=>none
 | .au=>IQ tab (fZ o.op) o e O
 | .rd=>Av tab (fZ o.op) o e O
theorem V1 {o:Oper} (hv:Z6 tab o e O=some (m,O')):eX tab o e=some m/\O'=O:=by
 unfold Z6 at hv;split at hv
 ·rename_i t x ho;obtain⟨q,h1,h2⟩:=Ml.1 hv;obtain⟨p,h3,h4⟩:=Mm.1 h1;simp only[Prod.mk.injEq]at h2;refine⟨?_,h2.2.symm⟩;rw[<-h2.1];unfold Em at h4;split at h4
  ·simp only[eX,ho,h3];exact h4
  ·cases h4
 ·cases hv
theorem xC {o:Oper} (hv:TW tab o e O=some (m,O')):eX tab o e=some m/\O'=O:=by
 unfold TW at hv;split at hv
 ·rename_i c ho;split at hv
  ·rename_i x t hc ha fQ;obtain⟨q,h1,h2⟩:=Ml.1 hv;simp only[Prod.mk.injEq]at h2;refine⟨?_,h2.2.symm⟩;rw[<-h2.1];simp only[eX,ho,hc,ha,fQ];exact h1
  ·cases hv
 ·cases hv
theorem oB {o:Oper} (hv:iW tab .au o e O=some (m,O')):eX tab o e=some m/\O'=O:=by
 simp only[iW,IQ]at hv;split at hv
 ·exact Z5 ‹_› hv
 ·exact V1 hv
 ·exact xC hv
 ·cases hv
theorem Aw {o:Oper} (h:eX tab o e=some m):dF tab o e O=some (m,O):=by unfold dF;rw[h]
theorem B7 {f:Fl} {o:Oper} (hv:iW tab f o e O=some (m,O')):dF tab o e O=some (m,O'):=by
 cases f with
 | one=>exact hv
 | fk=>cases hv
 | au=>obtain⟨h1,rfl⟩:=oB hv;exact Aw h1
 | rd=>
   simp only[iW,Av]at hv;split at hv
   ·exact hv
   ·exact hv
   ·obtain⟨h1,rfl⟩:=xC hv;exact Aw h1
   ·exact hv
   ·cases hv
theorem xD (ht:aP P tab) (hw:WR G O w) (h:FR G n D e a) {f:Fl} {o:Oper} (hf:f≠ .one) (hv:iW tab f o e O=some (m,O')):O'=O/\∃u,VR G m u/\∀x,Sx G w x->(execOp a.eval o).run P x= .ok (.value u) x:=by
 have au:∀{m},eX tab o e=some m->∃u,VR G m u/\∀x,Sx G w x->(execOp a.eval o).run P x= .ok (.value u) x:=fun h1=>by
  obtain⟨u,hu,hr⟩:=vC (P:=P) ht h h1;exact⟨u,hu,fun x hx=>hr x hx.1⟩
 cases f with
 | one=>exact absurd rfl hf
 | fk=>cases hv
 | au=>obtain⟨h1,rfl⟩:=oB hv;exact⟨rfl,au h1⟩
 | rd=>
   simp only[iW,Av]at hv;split at hv
   ·obtain⟨h1,rfl⟩:=Z5 ‹_› hv;exact⟨rfl,au h1⟩
   ·rename_i hk;unfold dF at hv;split at hv
    ·rename_i p hp;simp only[Option.some.injEq,Prod.mk.injEq]at hv;obtain⟨rfl,rfl⟩:=hv;exact⟨rfl,au hp⟩
    ·unfold jf at hv
     split at hv<;>first
      | (rename_i t x ho
         obtain⟨p,h1,h2⟩:=Mm.1 hv;obtain⟨q,h3,h4⟩:=Ml.1 h2;simp only[Prod.mk.injEq]at h4;obtain⟨rfl,rfl⟩:=h4;obtain⟨u,g1,g2⟩:=oX (P:=P) ht hw h3 (h.ev h1);exact⟨rfl,u,g1,fun x hx=>by simp only[execOp,ho,Sem.run_bind,g2 x hx];rfl⟩)
      | (rename_i ho;rw[ho]at hk;simp only[fZ]at hk;cases hk)
      | (rename_i ho _ _ _;rw[ho]at hk;simp only[fZ]at hk;cases hk)
      | cases hv
      | (rename_i c ho
         exfalso;rw[ho]at hk;simp only[fZ]at hk;split at hk<;>cases hk)
   ·obtain⟨h1,rfl⟩:=xC hv;exact⟨rfl,au h1⟩
   ·rename_i hk;unfold dF at hv;split at hv
    ·rename_i p hp;simp only[Option.some.injEq,Prod.mk.injEq]at hv;obtain⟨rfl,rfl⟩:=hv;exact⟨rfl,au hp⟩
    ·unfold jf at hv
     split at hv<;>first
      | (rename_i t x k ok ho
         split at hv
         ·rename_i p q h1 h2;obtain⟨r,h3,h4⟩:=Ml.1 hv;simp only[Prod.mk.injEq]at h4;obtain⟨rfl,rfl⟩:=h4;obtain⟨u,g1,g2⟩:=yz (P:=P) ht hw h3 (h.ev h1) (h.ev h2);exact⟨rfl,u,g1,fun x hx=>by simp only[execOp,ho,Sem.run_bind,g2 x hx];rfl⟩
         ·cases hv)
      | (rename_i ho;rw[ho]at hk;simp only[fZ]at hk;cases hk)
      | (rename_i ho _ _ _;rw[ho]at hk;simp only[fZ]at hk;cases hk)
      | cases hv
      | (rename_i c ho
         exfalso;rw[ho]at hk;simp only[fZ]at hk;split at hk<;>cases hk)
   ·cases hv
def cZ (md:Md) (ops:Array Oper):Nat->Array Bool->List (Nat×Fl)->Bool
 | _,listed,[]=>Region.ready .any ops listed==[]
 | 0,_,_::_=>false
 | k+1,listed,(i,f)::r=>(match f,md,r with
   | .one,.any,_=>Region.ready .any ops listed==[i]
   | .au,.any,_=>Region.free .any ops listed i&&(Region.ready .any ops listed).contains i
   | .au,.reads,_=>Region.free .any ops listed i&&(Region.ready .any ops listed).contains i
   | .rd,.reads,_=>Region.free .any ops listed i&&(Region.ready .any ops listed).contains i
   | .au,.held brk,_=>Region.free .any ops listed i&&(Region.ready .any ops listed).contains i&&oA ops brk listed i
   | .rd,.held brk,_=>Region.free .any ops listed i&&(Region.ready .any ops listed).contains i&&oA ops brk listed i
   | .one,.held brk,_=>Region.ready .any ops listed==[i]&&((!brk.contains i&&((ops[i]?).map fun o=>HC o.op).getD false)||(brk.contains i&&(List.range listed.size).all fun j=>(listed.setIfInBounds i true).getD j true||brk.contains j))
   | .fk,.any,(j,.one)::_=>(Region.ready .any ops listed==[i,j]||Region.ready .any ops listed==[j,i])&&Region.ready .any ops (listed.setIfInBounds i true)==[j]&&Region.ready .any ops (listed.setIfInBounds j true)==[i]
   | _,_,_=>false)&&cZ md ops k (listed.setIfInBounds i true) r
def Fits (ops:Array Oper):List (Nat×Fl)->List (Fl×Oper)->Prop
 | [],[]=>True
 | (i,f)::ix,(g,o)::L=>f=g/\ops[i]?=some o/\Fits ops ix L
 | _,_=>False
def ah3 (P:Program) (n:Sz) (D:List Deferred) (ops:Array Oper) (fuel:Nat) (listed:Array Bool) (e:Env) (O:VH) (Q:VQ):Prop:=
 ∀G a w,WR G O w->FR G n D e a->wpAnyH P .any ops (cN G n D Q) (fun x=>x=w) fuel listed a w
def Z7 (P:Program) (n:Sz) (D:List Deferred) (md:Md) (ops:Array Oper) (fuel:Nat) (listed:Array Bool) (ix:List (Nat×Fl)) (e:Env) (O:VH) (Q:VQ):Prop:=
 match md with
 | .plain=>iT P n D ops (ix.map (·.1)) e O Q
 | .any=>cG P n D ops fuel listed e O Q
 | .reads=>ah3 P n D ops fuel listed e O Q
 | .held brk=>bP P n D ops brk fuel listed e O Q
def VL (P:Program) (n:Sz) (D:List Deferred) (md:Md) (ops:Array Oper) (L:List (Fl×Oper)) (e:Env) (O:VH) (Q:VQ):Prop:=
 ∀fuel listed ix,Fits ops ix L->(md≠ .plain->Region.noSelect ops=true/\cZ md ops fuel listed ix=true)->Z7 P n D md ops fuel listed ix e O Q
theorem VL.nil {md:Md} (h:Q .normal e O):VL P n D md ops [] e O Q:=by
 intro fuel listed ix hf hp;cases ix with
 | cons x ix=>exact hf.elim
 | nil=>
   cases md with
   | plain=>exact iT.nil h
   | any=>
     have:=(hp (by simp)).2;rw[cZ]at this;exact cG.done (by simpa using this) h
   | reads=>
     have:=(hp (by simp)).2;rw[cZ]at this;intro G a w hw aV;exact wpAnyH_done (by simpa using this) ⟨.normal,e,O,G,Gh.Le.refl G,hw,aV,trivial,h⟩ fuel
   | held brk=>
     have:=(hp (by simp)).2;rw[cZ]at this;exact bP.done (by simpa using this) h
theorem sE {brk:List Nat} {i:Nat} {listed:Array Bool} {o:Oper} (ho:ops[i]?=some o) (h:((!brk.contains i&&((ops[i]?).map fun o=>HC o.op).getD false)||(brk.contains i&&(List.range listed.size).all fun j=>(listed.setIfInBounds i true).getD j true||brk.contains j))=true):
  (brk.contains i=false/\HC o.op=true)\/∀j,(listed.setIfInBounds i true).getD j true=false\/j=i->brk.contains j=true:=by
 rw[ho]at h;simp only[ahV,Option.getD_some,ann,Mn,Bool.not_eq_true']at h;rcases h with h | ⟨h1,h2⟩
 ·exact .inl h
 ·refine .inr fun j hj=>?_
  rcases hj with hj | rfl
  ·rcases anc j listed.size with hl | hl
   ·have:=ank.1 h2 j (List.mem_range.2 hl);rw[hj,Bool.false_or]at this;exact this
   ·rw[ane,ajx (by simpa using hl)]at hj;cases hj
  ·exact h1
theorem aN.skip {i:Nat} {o:Oper} {K:Env->VH->Prop} (ho:ops[i]?=some o) (hg:aO ops o e=some false) (hd:bD n o.dst=true) (hk:K (aZ o.dst cV e) O):aN P n D ops i e O Q K:=by
 intro G a w hw aV;simp only[wpOp,ho,bC aV hg,ZA,if_false];exact⟨_,_,G,Gh.Le.refl G,hw,aV.aZ hd lM,hk⟩
theorem vP {f:Fl} {o:Oper} (hf:f≠ .one) (hv:iW tab f o e O=some (m,O')):O'=O:=by
 cases f with
 | one=>exact absurd rfl hf
 | fk=>cases hv
 | au=>exact(oB hv).2
 | rd=>
   simp only[iW,Av]at hv
   have key:∀{k},fZ o.op=k->k≠0->k≠3->dF tab o e O=some (m,O')->O'=O:=fun{k} hk h0 h3 hv=>by
    unfold dF at hv;split at hv
    ·simp only[Option.some.injEq,Prod.mk.injEq]at hv;exact hv.2.symm
    ·unfold jf at hv
     split at hv<;>first
      | (rename_i ho;rw[ho]at hk;simp only[fZ]at hk;exact absurd hk.symm h3)
      | (cases hv;done)
      | (rename_i ho _ _ _;rw[ho]at hk;simp only[fZ]at hk;exact absurd hk.symm h3)
      | (obtain⟨p,h1,h2⟩:=Mm.1 hv
         obtain⟨q,h3,h4⟩:=Ml.1 h2;simp only[Prod.mk.injEq]at h4;exact h4.2.symm)
      | (split at hv
         ·obtain⟨r,h3,h4⟩:=Ml.1 hv;simp only[Prod.mk.injEq]at h4;exact h4.2.symm
         ·cases hv)
      | (rename_i c ho
         rw[ho]at hk;simp only[fZ]at hk;split at hv
         ·rename_i hc _ _;simp only[hc]at hk;exact absurd hk.symm h3
         ·obtain⟨p,h1,h2⟩:=Mm.1 hv;obtain⟨q,h3,h4⟩:=Ml.1 h2;simp only[Prod.mk.injEq]at h4;exact h4.2.symm
         ·cases hv)
   split at hv
   ·exact key ‹_› (by decide) (by decide) hv
   ·exact key ‹_› (by decide) (by decide) hv
   ·exact(xC hv).2
   ·exact key ‹_› (by decide) (by decide) hv
   ·cases hv
theorem VL.step (ht:aP P tab) {md:Md} {f:Fl} {o:Oper} {L:List (Fl×Oper)} (hg:aO ops o e=some true) (hv:iW tab f o e O=some (m,O')) (hd:bD n o.dst=true)
  (h:VL P n D md ops L (aZ o.dst m e) O' Q):VL P n D md ops ((f,o)::L) e O Q:=by
 intro fuel listed ix hf hp
 match ix,hf with
 | (i,g)::ix,hf=>
   obtain⟨rfl,ho,hf⟩:=hf;cases md with
   | plain=>exact iT.step ht ho hg (B7 hv) hd (h 0 #[] ix hf (fun h=>absurd rfl h))
   | any=>
     obtain⟨h1,h2⟩:=hp (by simp);cases fuel with
     | zero=>cases h2
     | succ fuel=>
       simp only[cZ,Mn]at h2;have hk:=h fuel (listed.setIfInBounds i true) ix hf (fun _=>⟨h1,h2.2⟩);cases g with
       | one=>
         have hr:Region.ready .any ops listed=[i]:=by simpa using h2.1
         exact cG.all hr (by simp) fun j hj=>by
          obtain rfl:j=i:=by simpa using hj
          exact aN.op ht ho hg (B7 hv) hd hk
       | au=>
         obtain⟨hs,rfl⟩:=oB hv;simp only[Mn]at h2;exact cG.TR ht ho h1 h2.1.1 h2.1.2 hg hs hd hk
       | rd=>exact absurd h2.1 (by simp)
       | fk=>cases hv
   | reads=>
     obtain⟨h1,h2⟩:=hp (by simp);cases fuel with
     | zero=>cases h2
     | succ fuel=>
       simp only[cZ,Mn]at h2;have hk:=h fuel (listed.setIfInBounds i true) ix hf (fun _=>⟨h1,h2.2⟩);have hne:g≠ .one:=by rintro rfl;exact absurd h2.1 (by simp)
       intro G a w hw aV;obtain⟨rfl,u,hu,cD⟩:=xD (P:=P) ht hw aV hne hv;have h3:Region.free .any ops listed i=true/\(Region.ready .any ops listed).contains i=true:=by cases g<;>simp_all
       exact wpAnyH_take ho h1 h3.1 h3.2 (iC hd) (.inl ⟨bC aV hg,fun w' EC=>by rw[EC];exact cD w hw.sx⟩) rfl (hk G _ w hw (aV.aZ hd hu))
   | held brk=>
     obtain⟨h1,h2⟩:=hp (by simp);cases fuel with
     | zero=>cases h2
     | succ fuel=>
       simp only[cZ,Mn]at h2;have hk:=h fuel (listed.setIfInBounds i true) ix hf (fun _=>⟨h1,h2.2⟩);cases g with
       | one=>
         simp only[Mn]at h2;have hr:Region.ready .any ops listed=[i]:=by simpa using h2.1.1
         exact bP.one ht ho hr (sE ho h2.1.2) hg (B7 hv) hd hk
       | fk=>exact absurd h2.1 (by simp)
       | au=>
         simp only[Mn]at h2
         exact bP.take ho h1 h2.1.1.1 h2.1.1.2 h2.1.2 hd (fun G a w hw aV=>by
          obtain⟨_,u,hu,cD⟩:=xD (P:=P) ht hw aV (by simp) hv;exact⟨u,hu,.inl ⟨bC aV hg,cD⟩⟩) (by
          obtain rfl:=vP (by simp) hv;exact hk)
       | rd=>
         simp only[Mn]at h2
         exact bP.take ho h1 h2.1.1.1 h2.1.1.2 h2.1.2 hd (fun G a w hw aV=>by
          obtain⟨_,u,hu,cD⟩:=xD (P:=P) ht hw aV (by simp) hv;exact⟨u,hu,.inl ⟨bC aV hg,cD⟩⟩) (by
          obtain rfl:=vP (by simp) hv;exact hk)
theorem VL.skip {md:Md} {f:Fl} {o:Oper} {L:List (Fl×Oper)} (MP:f≠ .fk) (hg:aO ops o e=some false) (hd:bD n o.dst=true)
  (h:VL P n D md ops L (aZ o.dst cV e) O Q):VL P n D md ops ((f,o)::L) e O Q:=by
 intro fuel listed ix hf hp
 match ix,hf with
 | (i,g)::ix,hf=>
   obtain⟨rfl,ho,hf⟩:=hf;cases md with
   | plain=>exact iT.skip ho hg hd (h 0 #[] ix hf (fun h=>absurd rfl h))
   | any=>
     obtain⟨h1,h2⟩:=hp (by simp);cases fuel with
     | zero=>cases h2
     | succ fuel=>
       simp only[cZ,Mn]at h2;have hk:=h fuel (listed.setIfInBounds i true) ix hf (fun _=>⟨h1,h2.2⟩);cases g with
       | one=>
         have hr:Region.ready .any ops listed=[i]:=by simpa using h2.1
         exact cG.all hr (by simp) fun j hj=>by
          obtain rfl:j=i:=by simpa using hj
          exact aN.skip ho hg hd hk
       | au=>
         simp only[Mn]at h2;exact cG.ZT ho h1 h2.1.1 h2.1.2 hg hd hk
       | rd=>exact absurd h2.1 (by simp)
       | fk=>exact absurd rfl MP
   | reads=>
     obtain⟨h1,h2⟩:=hp (by simp);cases fuel with
     | zero=>cases h2
     | succ fuel=>
       simp only[cZ,Mn]at h2;have hk:=h fuel (listed.setIfInBounds i true) ix hf (fun _=>⟨h1,h2.2⟩);have hne:g≠ .one:=by rintro rfl;exact absurd h2.1 (by simp)
       intro G a w hw aV;have h3:Region.free .any ops listed i=true/\(Region.ready .any ops listed).contains i=true:=by cases g<;>simp_all
       exact wpAnyH_take ho h1 h3.1 h3.2 (iC hd) (.inr ⟨bC aV hg,rfl⟩) rfl (hk G _ w hw (aV.aZ hd lM))
   | held brk=>
     obtain⟨h1,h2⟩:=hp (by simp);cases fuel with
     | zero=>cases h2
     | succ fuel=>
       simp only[cZ,Mn]at h2;have hk:=h fuel (listed.setIfInBounds i true) ix hf (fun _=>⟨h1,h2.2⟩);cases g with
       | one=>
         simp only[Mn]at h2;have hr:Region.ready .any ops listed=[i]:=by simpa using h2.1.1
         exact bP.ah1 ho hr (sE ho h2.1.2) hg hd hk
       | fk=>exact absurd h2.1 (by simp)
       | au=>
         simp only[Mn]at h2;exact bP.take ho h1 h2.1.1.1 h2.1.1.2 h2.1.2 hd (fun G a w hw aV=>⟨undef,lM,.inr ⟨bC aV hg,rfl⟩⟩) hk
       | rd=>
         simp only[Mn]at h2;exact bP.take ho h1 h2.1.1.1 h2.1.1.2 h2.1.2 hd (fun G a w hw aV=>⟨undef,lM,.inr ⟨bC aV hg,rfl⟩⟩) hk
theorem VL.call {md:Md} {L:List (Fl×Oper)} {d:Option Tmp} {f:Operand} {args:Array Operand} {tys:Array TypeId} {ty:TypeId} {ps:String} {af:Array Edge} {g:Option (Nat×Bool)} {id:FuncId} {fs ms cs as_:List MV} {R:gB->VH->Prop}
  (hg:aO ops (.mk d (.call {callee:=.value f,args:=args,argTypes:=tys}) ty ps af g) e=some true) (hf:ev e f=some (.func (.func id) fs cs)) (hm:gh e args.toList=some ms) (ha:fs++ms++cs=as_) (hE:Enters P id) (hd:bD n d=true) (hR:VF P id as_ O R)
  (h:∀r O',R r O'->match r with
   | .ret m=>VL P n D md ops L (aZ d m e) O' Q
   | .panic m=>Q (.panic m) (k9 n e) O'):VL P n D md ops ((.one,.mk d (.call {callee:=.value f,args:=args,argTypes:=tys}) ty ps af g)::L) e O Q:=by
 intro fuel listed ix sF hp;subst ha
 match ix,sF with
 | (i,g')::ix,sF=>
   obtain⟨rfl,ho,sF⟩:=sF;cases md with
   | plain=>
     refine iT.call ho hg rfl rfl hf hm hE hd hR fun r O' hr=>?_
     have:=h r O' hr;cases r with
     | ret m=>exact this 0 #[] ix sF (fun h=>absurd rfl h)
     | panic m=>exact this
   | any=>
     obtain⟨h1,h2⟩:=hp (by simp);cases fuel with
     | zero=>cases h2
     | succ fuel=>
       simp only[cZ,Mn]at h2;have hr:Region.ready .any ops listed=[i]:=by simpa using h2.1
       exact cG.all hr (by simp) fun j hj=>by
        obtain rfl:j=i:=by simpa using hj
        refine aN.call ho hg rfl rfl hf hm hE hd hR fun r O' hr=>?_
        have:=h r O' hr;cases r with
        | ret m=>exact this fuel (listed.setIfInBounds j true) ix sF (fun _=>⟨h1,h2.2⟩)
        | panic m=>exact this
   | reads=>
     obtain⟨h1,h2⟩:=hp (by simp);cases fuel with
     | zero=>cases h2
     | succ fuel=>
       simp only[cZ,Mn]at h2;exact absurd h2.1 (by simp)
   | held brk=>
     obtain⟨h1,h2⟩:=hp (by simp);cases fuel with
     | zero=>cases h2
     | succ fuel=>
       simp only[cZ,Mn]at h2;have hr:Region.ready .any ops listed=[i]:=by simpa using h2.1.1
       have hb:∀j,(listed.setIfInBounds i true).getD j true=false\/j=i->brk.contains j=true:=by
        rcases sE ho h2.1.2 with⟨_,h3⟩ | h3
        ·cases h3
        ·exact h3
       refine bP.ZY hr hb (aN.call ho hg rfl rfl hf hm hE hd hR fun r O' hr=>?_);have:=h r O' hr;cases r with
       | ret m=>exact this fuel (listed.setIfInBounds i true) ix sF (fun _=>⟨h1,h2.2⟩)
       | panic m=>exact this
def jg (tab:cg) (n:Sz) (ops:Array Oper):List (Fl×Oper)->Env->VH->Option (List (Fl×Oper)×Env×VH)
 | [],e,O=>some ([],e,O)
 | (.fk,o)::L,e,O=>some ((.fk,o)::L,e,O)
 | (f,o)::L,e,O=>match fZ o.op==0,aO ops o e with
   | _,none=>none
   | true,some true=>some ((f,o)::L,e,O)
   | false,some true=>match iW tab f o e O with
     | none=>some ((f,o)::L,e,O)
     | some (m,O')=>match bD n o.dst with
       | true=>jg tab n ops L (aZ o.dst m e) O'
       | false=>none
   | _,some false=>match bD n o.dst with
     | true=>jg tab n ops L (aZ o.dst cV e) O
     | false=>none
theorem VL.run (ht:aP P tab) {md:Md}:∀{L L':List (Fl×Oper)} {e:Env} {O:VH},jg tab n ops L e O=some (L',e',O')->VL P n D md ops L' e' O' Q->VL P n D md ops L e O Q
 | [],L',e,O,h,hQ=>by
   simp only[jg,Option.some.injEq,Prod.mk.injEq]at h;obtain⟨rfl,rfl,rfl⟩:=h;exact hQ
 | (.fk,o)::L,L',e,O,h,hQ=>by
   simp only[jg,Option.some.injEq,Prod.mk.injEq]at h;obtain⟨rfl,rfl,rfl⟩:=h;exact hQ
 | (.one,o)::L,L',e,O,h,hQ=>by
   simp only[jg]at h;split at h
   ·cases h
   ·simp only[Option.some.injEq,Prod.mk.injEq]at h;obtain⟨rfl,rfl,rfl⟩:=h;exact hQ
   ·split at h
    ·simp only[Option.some.injEq,Prod.mk.injEq]at h;obtain⟨rfl,rfl,rfl⟩:=h;exact hQ
    ·split at h
     ·exact VL.step ht ‹_› ‹_› ‹_› (VL.run ht h hQ)
     ·cases h
   ·split at h
    ·exact VL.skip (by simp) ‹_› ‹_› (VL.run ht h hQ)
    ·cases h
 | (.au,o)::L,L',e,O,h,hQ=>by
   simp only[jg]at h;split at h
   ·cases h
   ·simp only[Option.some.injEq,Prod.mk.injEq]at h;obtain⟨rfl,rfl,rfl⟩:=h;exact hQ
   ·split at h
    ·simp only[Option.some.injEq,Prod.mk.injEq]at h;obtain⟨rfl,rfl,rfl⟩:=h;exact hQ
    ·split at h
     ·exact VL.step ht ‹_› ‹_› ‹_› (VL.run ht h hQ)
     ·cases h
   ·split at h
    ·exact VL.skip (by simp) ‹_› ‹_› (VL.run ht h hQ)
    ·cases h
 | (.rd,o)::L,L',e,O,h,hQ=>by
   simp only[jg]at h;split at h
   ·cases h
   ·simp only[Option.some.injEq,Prod.mk.injEq]at h;obtain⟨rfl,rfl,rfl⟩:=h;exact hQ
   ·split at h
    ·simp only[Option.some.injEq,Prod.mk.injEq]at h;obtain⟨rfl,rfl,rfl⟩:=h;exact hQ
    ·split at h
     ·exact VL.step ht ‹_› ‹_› ‹_› (VL.run ht h hQ)
     ·cases h
   ·split at h
    ·exact VL.skip (by simp) ‹_› ‹_› (VL.run ht h hQ)
    ·cases h
def MQ (tab:cg) (n:Sz) (ops:Array Oper) (L:List (Fl×Oper)) (e:Env) (O:VH):Bool->Option (List (Fl×Oper)×Env×VH)
 | true=>jg tab n ops L e O
 | false=>none
def Z8 (tab:cg) (n:Sz) (ops:Array Oper) (fo:Fl×Oper) (L:List (Fl×Oper)) (e:Env) (O:VH):Option (MV×VH)->Option (List (Fl×Oper)×Env×VH)
 | some (m,O')=>MQ tab n ops L (aZ fo.2.dst m e) O' (bD n fo.2.dst)
 | none=>some (fo::L,e,O)
def MT (tab:cg) (n:Sz) (ops:Array Oper) (f:Fl) (o:Oper) (L:List (Fl×Oper)) (e:Env) (O:VH):Bool->Option Bool->Option (List (Fl×Oper)×Env×VH)
 | _,none=>none
 | true,some true=>some ((f,o)::L,e,O)
 | false,some true=>Z8 tab n ops (f,o) L e O (iW tab f o e O)
 | _,some false=>MQ tab n ops L (aZ o.dst cV e) O (bD n o.dst)
section
variable {f:Fl} {o:Oper} {L:List (Fl×Oper)} {d:Option Tmp} {p:Op} {ty:TypeId} {ps:String} {af:Array Edge} {g:Option (Nat×Bool)} {b:Bool}
theorem Q2:jg tab n ops [] e O=some ([],e,O):=rfl
theorem vQ (MP:f≠ .fk):jg tab n ops ((f,.mk d p ty ps af g)::L) e O=MT tab n ops f (.mk d p ty ps af g) L e O (fZ p==0) (aO ops (.mk d p ty ps af g) e):=by
 have key:jg tab n ops ((f,.mk d p ty ps af g)::L) e O=match fZ p==0,aO ops (.mk d p ty ps af g) e with
  | _,none=>none
  | true,some true=>some ((f,.mk d p ty ps af g)::L,e,O)
  | false,some true=>match iW tab f (.mk d p ty ps af g) e O with
    | none=>some ((f,.mk d p ty ps af g)::L,e,O)
    | some (m,O')=>match bD n d with
      | true=>jg tab n ops L (aZ d m e) O'
      | false=>none
  | _,some false=>match bD n d with
    | true=>jg tab n ops L (aZ d cV e) O
    | false=>none:=by
  cases f<;>first | exact absurd rfl MP | rfl
 rw[key];generalize aO ops (.mk d p ty ps af g) e=x;generalize (fZ p==0)=y;unfold MT;cases x with
 | none=>rfl
 | some b=>
   cases b<;>cases y<;>simp only
   ·unfold MQ;cases bD n d<;>rfl
   ·unfold MQ;cases bD n d<;>rfl
   ·unfold Z8;cases iW tab f (.mk d p ty ps af g) e O with
    | none=>rfl
    | some r=>unfold MQ;cases bD n d<;>rfl
theorem Q3:jg tab n ops ((.one,.mk d p ty ps af g)::L) e O=MT tab n ops .one (.mk d p ty ps af g) L e O (fZ p==0) (aO ops (.mk d p ty ps af g) e):=vQ (by simp)
theorem Q4:jg tab n ops ((.au,.mk d p ty ps af g)::L) e O=MT tab n ops .au (.mk d p ty ps af g) L e O (fZ p==0) (aO ops (.mk d p ty ps af g) e):=vQ (by simp)
theorem V2:jg tab n ops ((.rd,.mk d p ty ps af g)::L) e O=MT tab n ops .rd (.mk d p ty ps af g) L e O (fZ p==0) (aO ops (.mk d p ty ps af g) e):=vQ (by simp)
theorem V3:jg tab n ops ((.fk,o)::L) e O=some ((.fk,o)::L,e,O):=rfl
theorem V5:MT tab n ops f o L e O true (some true)=some ((f,o)::L,e,O):=rfl
theorem aej:MT tab n ops f (.mk d p ty ps af g) L e O false (some true)=Z8 tab n ops (f,.mk d p ty ps af g) L e O (iW tab f (.mk d p ty ps af g) e O):=rfl
theorem V8:MT tab n ops f (.mk d p ty ps af g) L e O b (some false)=MQ tab n ops L (aZ d cV e) O (bD n d):=by cases b<;>rfl
theorem V9:Z8 tab n ops (f,.mk d p ty ps af g) L e O (some (m,O'))=MQ tab n ops L (aZ d m e) O' (bD n d):=rfl
theorem V_ {fo:Fl×Oper}:Z8 tab n ops fo L e O none=some (fo::L,e,O):=rfl
theorem Wa:MQ tab n ops L e O true=jg tab n ops L e O:=rfl
theorem xE:iW tab .one o e O=dF tab o e O:=rfl
theorem IS:iW tab .au (.mk d p ty ps af g) e O=IQ tab (fZ p) (.mk d p ty ps af g) e O:=rfl
theorem MU:iW tab .rd (.mk d p ty ps af g) e O=Av tab (fZ p) (.mk d p ty ps af g) e O:=rfl
theorem TZ:IQ tab 1 o e O=dF tab o e O:=rfl
theorem T0 {t:TypeId} {x:Operand}:IQ tab 2 (.mk d (.load t x) ty ps af g) e O=((ev e x).bind (Em tab t)).map (·,O):=rfl
theorem T_ {t:TypeId} {x:Operand}:IQ tab 4 (.mk d (.call {callee:=.builtin .len,args:= #[x],argTypes:= #[t]}) ty ps af g) e O=((ev e x).bind (de tab t)).map (·,O):=rfl
theorem Ua:Av tab 1 o e O=dF tab o e O:=rfl
theorem Ub:Av tab 2 o e O=dF tab o e O:=rfl
theorem Uc:Av tab 5 o e O=dF tab o e O:=rfl
theorem Ud {t:TypeId} {x:Operand}:Av tab 4 (.mk d (.call {callee:=.builtin .len,args:= #[x],argTypes:= #[t]}) ty ps af g) e O=((ev e x).bind (de tab t)).map (·,O):=rfl
theorem IT {t:TypeId} {cs:List MV} {off:Nat}:Em tab t (.dG cs off)=fw tab ⟨0,fun _=>none⟩ t (.dG cs off):=rfl
end
section
variable {x y z:Operand} {t t':TypeId} {f:Nat} {q:BinOp} {r:UnOp} {as_:Array Operand} {ts:Array TypeId} {l h k:Option Operand} {fn:Fn} {ps:Array (Nat×Operand)}
theorem IU:fZ (.move x)=1:=rfl
theorem C9:fZ (.assign x)=1:=rfl
theorem IV:fZ (.pick x y z)=1:=rfl
theorem yD:fZ (.nilCheck x)=1:=rfl
theorem Fb:fZ (.binOp q t x y t')=1:=rfl
theorem IW:fZ (.unOp r t x)=1:=rfl
theorem Ax:fZ (.convert t t' x)=1:=rfl
theorem vR:fZ (.fieldAddr t x f)=1:=rfl
theorem Fc:fZ (.field t x f)=1:=rfl
theorem vS:fZ (.indexAddr t x y)=1:=rfl
theorem Fe:fZ (.index t x y)=1:=rfl
theorem Ay:fZ (.extract x f)=1:=rfl
theorem Ff:fZ (.slice t x l h k)=1:=rfl
theorem Fg:fZ (.build t ps)=1:=rfl
theorem yE {Wb:Array Operand}:fZ (.makeFunc fn as_ Wb)=1:=rfl
theorem qv:fZ (.makeInterface t x)=1:=rfl
theorem IX:fZ (.load t x)=2:=rfl
theorem Fh:fZ (.call {callee:=.value x,args:=as_,argTypes:=ts})=0:=rfl
theorem MW:fZ (.call {callee:=.builtin .len,args:=as_,argTypes:=ts})=4:=rfl
theorem MX:fZ (.call {callee:=.builtin .max,args:=as_,argTypes:=ts})=1:=rfl
theorem MY:fZ (.call {callee:=.builtin .min,args:=as_,argTypes:=ts})=1:=rfl
theorem Q5:fZ (.call {callee:=.builtin .unsafeSliceData,args:=as_,argTypes:=ts})=1:=rfl
theorem C_:fZ (.call {callee:=.builtin .append,args:=as_,argTypes:=ts})=3:=rfl
theorem Fi:fZ (.store t x y)=3:=rfl
theorem MZ:fZ (.box t x)=3:=rfl
theorem Fj:fZ (.alloc t)=3:=rfl
theorem uS:fZ (.buildSlice t f ps)=3:=rfl
theorem Az {t:TypeId} {r:Option Operand}:fZ (.makeMap t r)=3:=rfl
theorem Da {t:TypeId} {x y:Operand} {b:Bool}:fZ (.lookup t x y b)=5:=rfl
theorem vT {t:TypeId} {x y z:Operand}:fZ (.mapUpdate t x y z)=3:=rfl
theorem Db {t:TypeId} {x y z:Operand}:fZ (.insert t x y z)=3:=rfl
theorem vU:fZ (.makeSlice t x y)=3:=rfl
end
theorem vV:∀(l:List Oper) (k:Nat),(∀j,l[j]?=none\/l[j]?=ops[k+j]?)->Fits ops ((List.range' k l.length).map (·,Fl.one)) (l.map (Fl.one, ·))
 | [],_,_=>trivial
 | o::l,k,h=>by
   rw[ana,List.range'_succ];refine⟨rfl,?_,vV l (k+1) fun j=>?_⟩
   ·rcases h 0 with h0 | h0
    ·cases h0
    ·simpa using h0.symm
   ·rcases h (j+1)with h0 | h0
    ·exact .inl (by simpa using h0)
    ·exact .inr (by rw[show k+1+j=k+(j+1)from by omega];simpa using h0)
theorem VC.Ue {id:Nat} {l:List Oper} (h:VL P n D .plain ⟨l⟩ (l.map (Fl.one, ·)) e O Q):VC P n D (.region id ⟨l⟩ false) e O Q:=by
 refine VC.region ?_;have:=h 0 #[] _ (vV l 0 fun j=>.inr (by simp)) (fun h=>absurd rfl h);simp only[Z7,List.map_map]at this;rw[show(⟨l⟩:Array Oper).size=l.length from rfl,List.range_eq_range'];rw[show((fun x:Nat×Fl=>x.1) ∘ fun x=>(x,Fl.one))=_root_.id from rfl,List.map_id]at this;exact this
def oC (l:List Oper):List (Nat×Fl)->Option (List (Fl×Oper))
 | []=>some []
 | (i,f)::ix=>match l[i]?,oC l ix with
   | some o,some L=>some ((f,o)::L)
   | _,_=>none
theorem t_ {l:List Oper}:∀{ix:List (Nat×Fl)} {L:List (Fl×Oper)},oC l ix=some L->Fits ⟨l⟩ ix L
 | [],L,h=>by injection h with h;subst h;trivial
 | (i,f)::ix,L,h=>by
   simp only[oC]at h;split at h
   ·rename_i o L' h1 h2;injection h with h;subst h;exact⟨rfl,by simpa using h1,t_ h2⟩
   ·cases h
theorem VC.Uf (md:Md) (ix:List (Nat×Fl)) {id:Nat} {l:List Oper} {L:List (Fl×Oper)} (hne:md≠ .plain) (hm:P.follows .mixedOrders=true) (hs:Region.noSelect ⟨l⟩=true) (hp:cZ md ⟨l⟩ l.length (Array.replicate l.length false) ix=true) (hL:oC l ix=some L)
  (h:VL P n D md ⟨l⟩ L e O Q):VC P n D (.region id ⟨l⟩ true) e O Q:=by
 have:=h l.length (Array.replicate l.length false) ix (t_ hL) (fun _=>⟨hs,hp⟩);cases md with
 | plain=>exact absurd rfl hne
 | any=>exact VC.draw hm this
 | reads=>exact fun G a w hw hf=>wp_region_held hm (this G a _ (hw.drawn _) hf)
 | held brk=>exact VC.Ki brk hm this
end
theorem agA (b:Bool):(b==true)=b:=by cases b<;>rfl
theorem agB (b:Bool):(b==false)= !b:=by cases b<;>rfl
theorem Ug {a b:Int} (h:a=b):(a==b)=true:=by simpa using h
theorem Uh {a b:Int} (h:¬a=b):(a==b)=false:=by simpa using h
theorem Ui {a b:Int} (h:¬a=b):(a != b)=true:=by simpa using h
theorem Uj {a b:Int} (h:a=b):(a != b)=false:=by simpa using h
def aE (Φ :MV->VH->Prop):gB->VH->Prop
 | .ret m,O=> Φ m O
 | .panic _,_=>False
section
variable {n:Sz} {D:List Deferred} {e:Env} {P:Program} {tab:cg} {O:VH} {ops:Array Oper} {Q:VQ} {Φ :MV->VH->Prop}
theorem M0 {m:MV}:aE Φ (.ret m) O= Φ m O:=rfl
end
theorem Dc (f:Fl):∀(l pre:List Oper),oC (pre++l) ((List.range' pre.length l.length).map (·,f))=some (l.map (f, ·))
 | [],_=>rfl
 | o::l,pre=>by
   rw[ana,List.range'_succ,ajy,ajy,oC];have:=Dc f l (pre++[o]);rw[ani,ajB]at this;simp only[List.singleton_append,ana,List.length_nil,ajz]at this;rw[this];simp
theorem VC.Uk {n:Sz} {D:List Deferred} {e:Env} {P:Program} {O:VH} {Q:VQ} {id:Nat} {l:List Oper} (hm:P.follows .mixedOrders=true) (hs:Region.noSelect ⟨l⟩=true) (hp:cZ .reads ⟨l⟩ l.length (Array.replicate l.length false) ((List.range' 0 l.length).map (·,Fl.rd))=true)
  (h:VL P n D .reads ⟨l⟩ (l.map (Fl.rd, ·)) e O Q):VC P n D (.region id ⟨l⟩ true) e O Q:=
 VC.Uf .reads _ (by simp) hm hs hp (Dc .rd l []) h
theorem Ul {k:IntKind} {a b:Int}:B3 (.v (.int k a)) (.v (.int k b))=some (.v (.int k (max a b))):=by
 simp only[B3];have:(if b>a then b else a)=max a b:=by split<;>omega
 rw[this]
theorem Um {k:IntKind} {a b:Int}:B4 (.v (.int k a)) (.v (.int k b))=some (.v (.int k (min a b))):=by
 simp only[B4];have:(if b<a then b else a)=min a b:=by split<;>omega
 rw[this]
theorem M3 {e:Env} {tab:cg} {O:VH} {d:Option Tmp} {ty:TypeId} {p:String} {af:Array Edge} {g:Option (Nat×Bool)} {c x y:Operand}:dF tab (.mk d (.pick c x y) ty p af g) e O=((ev e c).bind fun b=>match b with
  | .v (.bool true)=>ev e x
  | .v (.bool false)=>ev e y
  | _=>none).map (·,O):=by
 simp only[dF,eX,jf];cases ev e c with
 | none=>rfl
 | some m=>
   cases m<;>try rfl
   rename_i v;cases v<;>try rfl
   rename_i b;cases b
   ·simp only[ajv];cases ev e y<;>rfl
   ·simp only[ajv];cases ev e x<;>rfl
theorem zp0 (l:List MV):gT #[] l=[]:=rfl
theorem Un (b o:Nat):Mu (.ptr b o)=some (.ptr b o):=rfl
theorem Uo (cs:List MV) (o:Nat):Mu (.dG cs o)=some (.dG cs o):=rfl
theorem B8 (x:Value):eh (.v x)=[.v x]:=rfl
theorem zB (k:Nat) (cs:List MV) (tk:Tok):eh (.sl k cs tk)=[.sl k cs tk]:=rfl
theorem vW (l:List UInt8):eh (.str l)=[.str l]:=rfl
theorem vX (b o:Nat):eh (.ptr b o)=[.ptr b o]:=rfl
theorem vY (cs:List MV):eh (.agg cs)=cs:=rfl
section
variable {tab:cg} {O:VH} {t:TypeId} {u:TypeDesc} {d:Nat} {y cs:List MV} {k off:Nat}
end
section
variable {tab:cg} {t el:TypeId} {u:TypeDesc} {a b d:Nat} {z:List MV} {y:MV} {k0 k1:Nat} {c0 c1:List MV} {t0 t1:Tok}
end
theorem VC.freeze {n:Sz} {D:List Deferred} {e:Env} {P:Program} {O:VH} {Q:VQ} {c:Code} (t:Nat) {k o i cp sz:Nat} {cs:List MV} (ht:look e t=some (.bz k o i cp)) (hk:O.hp k=some (.cells cs)) (hs:o+sz<=cs.length)
  (h:VC P n D c ((t,.sl i ((cs.drop o).take sz) (if cp=i then .full else .ar))::e) (O.kill k) Q):VC P n D c e O Q:=by
 intro G a w hw hf;obtain⟨u,sG,c9⟩:=hf.get t _ ht;obtain⟨H,h1,h2,h3⟩:=hw.freeze hk c9 hs
 have kX:FR H n D ((t,.sl i ((cs.drop o).take sz) (if cp=i then .full else .ar))::e) a:=by
  have hm:=hf.mono h1;refine⟨hm.defers,hm.size,fun s x hx=>?_⟩;rw[mX]at hx;cases hb:s==t with
  | true=>
    rw[hb,cond_true]at hx;injection hx with hx;subst hx
    have:s=t:=by simpa using hb
    subst this;exact⟨u,sG,h3⟩
  | false=>rw[hb,cond_false]at hx;exact hm.get s x hx
 exact wp_mono (h H a w h2 kX) fun _ _ _=>cN.le h1
set_option linter.defProp false in
def Z9:=zW @Un<|zW @Uo<|zW @B8<|zW @zB<|zW @vW<|zW @vX<|zW @vY<|zW @Q2<|zW @Q3<|zW @Q4<|zW @V2<|zW @V3<|zW @Ap<|zW @C3<|zW @vM<|zW @C4<|zW @Az<|zW @Da<|zW @vT<|zW @Db<|zW @V5<|zW @aej<|zW @V8<|zW @V9<|zW @V_<|zW @Wa<|zW @xE<|zW @IS<|zW @MU<|zW @TZ<|zW @T0<|zW @T_<|zW @Ua<|zW @Ub<|zW @Uc<|zW @Ud<|zW @IT<|zW @IU<|zW @C9<|zW @IV<|zW @yD<|zW @Fb<|zW @IW<|zW @Ax<|zW @vR<|zW @Fc<|zW @vS<|zW @Fe<|zW @Ay<|zW @Ff<|zW @Fg<|zW @yE<|zW @qv<|zW @IX<|zW @Fh<|zW @MW<|zW @MX<|zW @MY<|zW @C_<|zW @Fi<|zW @MZ<|zW @Fj<|zW @uS<|zW @vU<|zW @agA<|zW @agB<|zW @Ug<|zW @Uh<|zW @Ui<|zW @Uj<|zW @Aq<|zW @Ar<|zW @E_<|zW @Fa<|zW @ak<|zW @E9<|zW @wrap_i64<|zW @Iy<|zW @C1<|zW @M3<|zW @Ul<|zW @Um<|zW @yA<|zW @EX<|zW @Iz<|zW @An<|zW @vJ<|zW @EY<|zW @vK<|zW @EZ<|zW @Ao<|zW @E0<|zW @yB<|zW @E5<|zW @IA<|zW @IB<|zW @MF<|zW @MG<|zW @MH<|zW @dq<|zW @IC<|zW @E8<|zW @MJ<|zW @QU<|zW @uR<|zW @vL<|zW @TT<|zW @TU<|zW @MA<|zW @TV<|zW @Iw<|zW @EU<|zW @EV<|zW @Am<|zW @C0<|zW @MB<|zW @mX<|zW @MC<|zW @Ix<|zW @ID<|zW @IE<|zW @IF<|zW @IG<|zW @IH<|zW @II<|zW @IJ<|zW @IK<|zW @IL<|zW @MK<|zW @ML<|zW @aq<|zW @bu<|zW @zp0<|zW @zp1<|zW @zp2<|zW @zp3<|zW @VH.tZ<|zW @C6<|zW @QW<|zW @QX @VZ
end Go.Proofs.YtjpadehgejlebaaGreatDoor
