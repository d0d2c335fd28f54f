import Derived.Below
import Derived.LoopN
import Derived.OrdersHeld
import Derived.Deep.Draws
import Derived.WalkKit
import Derived.WalkSpells
import Derived.KernelRfl
import Derived.Lib.Builder
import Derived.MapKept
import Derived.Scope
set_option linter.unusedVariables false
set_option linter.unusedSimpArgs false
namespace Go.Proofs.YtoclnkfdahmnhaaGreatDoor
open Go.RowKit
inductive Tok where
 | nil | full | own (t k:Nat) | aq
 deriving DecidableEq
inductive MV where
 | v (x:Value)
 | str (l:List UInt8)
 | ptr (b off:Nat)
 | c8 (cells:List MV) (off:Nat)
 | sl (n:Nat) (cells:List MV) (t:Tok)
 | bp (b off len cap:Nat)
 | map (b:Nat)
 | func (fn:Fn) (first captured:List MV)
 | iface (t:TypeId) (x:MV)
 | agg (cells:List MV)
 | tuple (vs:List MV)
structure Gh where
 w0:World
 bL:Nat->Option Nat
 dX:Nat->Nat->Option Value
 tok:Nat->Option (Nat×Nat×Nat×Nat)
abbrev Gh.B (G:Gh):Nat:=G.w0.heap.size
structure Gh.Le (G H:Gh):Prop where
 w0:H.w0=G.w0
 bL:∀{k b},G.bL k=some b->H.bL k=some b
 dX:∀{b o u},G.dX b o=some u->H.dX b o=some u
 tok:∀{t x},G.tok t=some x->H.tok t=some x
theorem Gh.Le.refl (G:Gh):G.Le G:=⟨rfl,id,id,id⟩
theorem Gh.Le.trans {G H K:Gh} (h:G.Le H) (k:H.Le K):G.Le K:=
 ⟨k.w0.trans h.w0,fun x=>k.bL (h.bL x),fun x=>k.dX (h.dX x),fun x=>k.tok (h.tok x)⟩
structure GP where
 p:Gh->Prop
 mono:∀{G H:Gh},G.Le H->p G->p H
inductive b_ where
 | cells (cs:List MV)
 | map (es:List (MV×MV×Nat)) (clock:Nat)
 | tok
 | shape (k:Nat) (t:TypeId) (n:Nat)
 | obj (x:Obj)
 | fact (p:GP)
structure VH where
 next:Nat
 hp:Nat->Option b_
def br {α :Type} (f:Nat->Option α) (k:Nat) (x:Option α):Nat->Option α :=fun j=>bif Nat.beq j k then x else f j
theorem aG {α :Type} (f:Nat->Option α) (k:Nat) (x:Option α):br f k x k=x:=by simp[br]
theorem aw {α :Type} (f:Nat->Option α) {k j:Nat} (x:Option α) (h:j≠k):br f k x j=f j:=by
 have:j.beq k=false:=by rw[<-Bool.not_eq_true];intro e;exact h (Nat.eq_of_beq_eq_true e)
 simp[br,this]
def VH.set (O:VH) (k:Nat) (x:b_):VH:={O with hp:=br O.hp k (some x)}
def VH.push (O:VH) (x:b_):VH:=⟨O.next+1,br O.hp O.next (some x)⟩
def VH.kill (O:VH) (k:Nat):VH:={O with hp:=br O.hp k none}
def plain:Value->Bool
 | .bool _ | .int _ _ | .float _ _ | .complex _ _ _ | .pointer none | .map none | .chan none | .nilFunc | .nilIface=>true
 | _=>false
def Tok.ok (G:Gh):Tok->(b o n c sz:Nat)->Prop
 | .nil,_,_,_,_,_=>False
 | .full,_,_,n,c,_=>c=n
 | .own t k,b,o,n,c,sz=>c=n\/∃r,G.tok t=some (b,o+sz,k,r)/\sz=n*k/\c=n+r
 | .aq,_,_,_,_,_=>True
inductive VR (G:Gh):MV->Value->Prop
 | v {x:Value}:plain x=true->VR G (.v x) x
 | str {l:List UInt8}:VR G (.str l) (.string ⟨⟨l⟩⟩)
 | ptr {k o b:Nat}:G.bL k=some b->VR G (.ptr k o) (.pointer (some ⟨b,o,none⟩))
 | c8 {cells:List MV} {us:List Value} {off b o:Nat}:us.length=cells.length->(∀(i:Nat) (u:Value),us[i]?=some u->G.dX b (o+i)=some u)->
   (∀(i:Nat) (c:MV) (u:Value),cells[i]?=some c->us[i]?=some u->VR G c u)->VR G (.c8 cells off) (.pointer (some ⟨b,o+off,none⟩))
 | slnil:VR G (.sl 0 [] .nil) (.slice none 0 0)
 | nP {a:Addr} {c:Nat}:c<=maxLen->VR G (.sl 0 [] .aq) (.slice (some a) 0 c)
 | jH:VR G (.sl 0 [] .aq) (.slice none 0 0)
 | sl {cells:List MV} {us:List Value} {n c b o:Nat} {t:Tok}:us.length=cells.length->(∀(i:Nat) (u:Value),us[i]?=some u->G.dX b (o+i)=some u)->
   (∀(i:Nat) (c:MV) (u:Value),cells[i]?=some c->us[i]?=some u->VR G c u)->n<=c->c<=maxLen->t.ok G b o n c cells.length->VR G (.sl n cells t) (.slice (some ⟨b,o,none⟩) n c)
 | bp {k o n c b:Nat}:G.bL k=some b->n<=c->c<=maxLen->VR G (.bp k o n c) (.slice (some ⟨b,o,none⟩) n c)
 | map {k b:Nat}:G.bL k=some b->VR G (.map k) (.map (some b))
 | func {fn:Fn} {fs cs:List MV} {us vs:List Value}:us.length=fs.length->(∀(i:Nat) (c:MV) (u:Value),fs[i]?=some c->us[i]?=some u->VR G c u)->
   vs.length=cs.length->(∀(i:Nat) (c:MV) (u:Value),cs[i]?=some c->vs[i]?=some u->VR G c u)->VR G (.func fn fs cs) (.func fn us.toArray vs.toArray)
 | iface {t:TypeId} {x:MV} {u:Value}:VR G x u->VR G (.iface t x) (.iface t u)
 | agg {cs:List MV} {us:List Value}:us.length=cs.length->(∀(i:Nat) (c:MV) (u:Value),cs[i]?=some c->us[i]?=some u->VR G c u)->VR G (.agg cs) (.agg us.toArray)
 | tuple {cs:List MV} {us:List Value}:us.length=cs.length->(∀(i:Nat) (c:MV) (u:Value),cs[i]?=some c->us[i]?=some u->VR G c u)->VR G (.tuple cs) (.tuple us.toArray)
def aO (G:Gh) (cs:List MV) (us:List Value):Prop:=us.length=cs.length/\∀(i:Nat) (c:MV) (u:Value),cs[i]?=some c->us[i]?=some u->VR G c u
theorem VR.mono {G H:Gh} (h:G.Le H) {m:MV} {u:Value} (r:VR G m u):VR H m u:=by
 induction r with
 | v h1=>exact .v h1
 | str=>exact .str
 | ptr h1=>exact .ptr (h.bL h1)
 | c8 h1 h2 h3 ih=>exact .c8 h1 (fun i u hu=>h.dX (h2 i u hu)) (fun i c u h4 h5=>ih i c u h4 h5)
 | slnil=>exact .slnil
 | nP h1=>exact .nP h1
 | jH=>exact .jH
 | sl h1 h2 h3 h4 h5 h6 ih=>
   refine .sl h1 (fun i u hu=>h.dX (h2 i u hu)) (fun i c u h7 h8=>ih i c u h7 h8) h4 h5 ?_;rename_i t;cases t with
   | nil=>exact h6
   | full=>exact h6
   | own t k=>
     rcases h6 with h6 | ⟨r,h7,h8⟩
     ·exact .inl h6
     ·exact .inr ⟨r,h.tok h7,h8⟩
   | aq=>trivial
 | bp h1 h2 h3=>exact .bp (h.bL h1) h2 h3
 | map h1=>exact .map (h.bL h1)
 | func h1 h2 h3 h4 ih1 ih2=>exact .func h1 (fun i c u a b=>ih1 i c u a b) h3 (fun i c u a b=>ih2 i c u a b)
 | iface h1 ih=>exact .iface ih
 | agg h1 h2 ih=>exact .agg h1 fun i c u a b=>ih i c u a b
 | tuple h1 h2 ih=>exact .tuple h1 fun i c u a b=>ih i c u a b
theorem aO.mono {G H:Gh} (h:G.Le H) {cs:List MV} {us:List Value} (r:aO G cs us):aO H cs us:=⟨r.1,fun i c u a b=>(r.2 i c u a b).mono h⟩
theorem aO.nil {G:Gh}:aO G [] []:=⟨rfl,fun i c u h=>by simp at h⟩
theorem aO.cons {G:Gh} {c:MV} {u:Value} {cs:List MV} {us:List Value} (h:VR G c u) (k:aO G cs us):aO G (c::cs) (u::us):=
 ⟨by simp[k.1],fun i c' u' a b=>by
  cases i with
  | zero=>simp only[List.getElem?_cons_zero,Option.some.injEq]at a b;subst a;subst b;exact h
  | succ i=>simp only[List.getElem?_cons_succ]at a b;exact k.2 i c' u' a b⟩
theorem aO.head {G:Gh} {c:MV} {u:Value} {cs:List MV} {us:List Value} (h:aO G (c::cs) (u::us)):VR G c u:=h.2 0 c u rfl rfl
theorem aO.tail {G:Gh} {c:MV} {u:Value} {cs:List MV} {us:List Value} (h:aO G (c::cs) (u::us)):aO G cs us:=⟨by have:=h.1;simp at this;exact this,fun i c u a b=>h.2 (i+1) c u (by simpa using a) (by simpa using b)⟩
theorem aO.cB {G:Gh} {c:MV} {cs:List MV} {us:List Value} (h:aO G (c::cs) us):∃u S1,us=u::S1/\VR G c u/\aO G cs S1:=by
 cases us with
 | nil=>have:=h.1;simp at this
 | cons u us=>exact⟨u,us,rfl,h.head,h.tail⟩
theorem aO.fw {G:Gh} {us:List Value} (h:aO G [] us):us=[]:=List.eq_nil_of_length_eq_zero h.1
theorem aO.append {G:Gh} {cs ds:List MV} {us ts:List Value} (h:aO G cs us) (k:aO G ds ts):aO G (cs++ds) (us++ts):=
 ⟨by simp[h.1,k.1],fun i c u a b=>by
  rw[List.getElem?_append]at a b;rw[h.1]at b;split at a
  ·rw[if_pos ‹_›]at b;exact h.2 i c u a b
  ·rw[if_neg ‹_›]at b;exact k.2 _ c u a b⟩
theorem aO.drop {G:Gh} {cs:List MV} {us:List Value} (h:aO G cs us) (n:Nat):aO G (cs.drop n) (us.drop n):=
 ⟨by simp[h.1],fun i c u a b=>by rw[List.getElem?_drop]at a b;exact h.2 _ c u a b⟩
theorem aO.take {G:Gh} {cs:List MV} {us:List Value} (h:aO G cs us) (n:Nat):aO G (cs.take n) (us.take n):=
 ⟨by simp[h.1],fun i c u a b=>by
  rw[List.getElem?_take]at a b;split at a
  ·rw[if_pos ‹_›]at b;exact h.2 i c u a b
  ·cases a⟩
theorem aO.get {G:Gh} {cs:List MV} {us:List Value} (h:aO G cs us) {i:Nat} {c:MV} (hc:cs[i]?=some c):∃u,us[i]?=some u/\VR G c u:=by
 have hl:i<us.length:=by rw[h.1];exact(List.getElem?_eq_some_iff.1 hc).1
 exact⟨us[i],List.getElem?_eq_getElem hl,h.2 i c _ hc (List.getElem?_eq_getElem hl)⟩
theorem aO.set {G:Gh} {cs:List MV} {us:List Value} (h:aO G cs us) {i:Nat} {c:MV} {u:Value} (hc:VR G c u):aO G (cs.set i c) (us.set i u):=
 ⟨by simp[h.1],fun j c' u' a b=>by
  rw[List.getElem?_set]at a b;rw[h.1]at b;split at a
  ·rw[if_pos ‹_›]at b;split at a
   ·rw[if_pos ‹_›]at b;injection a with a;injection b with b;subst a;subst b;exact hc
   ·cases a
  ·rw[if_neg ‹_›]at b;exact h.2 j c' u' a b⟩
structure Fz (C:Array Value) where
 t:TypeId
 fr:Nat×Nat
 ok:fr.1=fr.2\/C.size<=fr.1
def NI:List Nat:=[0]
def JK (w:World):Prop:=∀g∈NI,∃m,w.cell? ⟨g,0,none⟩=some (.int .i64 m)
structure WR (G:Gh) (O:VH) (w:World):Prop where
 base:Below G.B G.w0 w
 dX:∀b o u,G.dX b o=some u->w.cell? ⟨b,o,none⟩=some u
 oN:∀k,O.next<=k->G.bL k=none/\G.tok k=none/\O.hp k=none
 jI:∀k b,G.bL k=some b->G.B<=b/\b<w.heap.size/\(O.hp k≠none->∀o,G.dX b o=none)
 inj:∀j k b,O.hp j≠none->O.hp k≠none->G.bL j=some b->G.bL k=some b->j=k
 cells:∀k cs,O.hp k=some (.cells cs)->∃b,∃C:Array Value,∃T:Fz C,G.bL k=some b/\w.heap[b]?=some (.cells C T.t T.fr)/\aO G cs (C.toList.take cs.length)
 map:∀k es ck,O.hp k=some (.map es ck)->∃b E,G.bL k=some b/\w.heap[b]?=some (.map E ck)/\E.toList.map (·.born)=es.map (·.2.2)/\aO G (es.map (·.1)) (E.toList.map (·.key))/\aO G (es.map (·.2.1)) (E.toList.map (·.val))
 tok:∀t,O.hp t=some .tok->∃b f k r C T,G.tok t=some (b,f,k,r)/\G.B<=b/\w.heap[b]?=some (.cells C T (0,0))/\f+r*k<=C.size/\(∀o,f<=o->G.dX b o=none)/\∀j,G.bL j≠some b
 kA:∀s t b x y,O.hp s=some .tok->O.hp t=some .tok->G.tok s=some (b,x)->G.tok t=some (b,y)->s=t
 nw:∀j k t n,O.hp j=some (.shape k t n)->∃b,G.bL k=some b/\w.shape? b=some (t,n)
 obj:∀k x,O.hp k=some (.obj x)->∃b,G.bL k=some b/\w.heap[b]?=some x
 pd:JK G.w0
 yz:∀k p,O.hp k=some (.fact p)->p.p G
section
variable {G:Gh} {O:VH} {w:World}
theorem WR.WU (h:WR G O w) {b o:Nat} {u:Value} (hc:G.dX b o=some u):b<w.heap.size:=World.block_lt_of_cell? w _ (h.dX b o u hc)
theorem WR.mc (h:WR G O w):G.bL O.next=none/\G.tok O.next=none/\O.hp O.next=none:=h.oN _ (Nat.le_refl _)
theorem WR.n_ {G':Gh} {O':VH} {w':World} (h:WR G O w) (hl:∀{k b},G.bL k=some b->G'.bL k=some b) (hO:∀j k t n,O'.hp j=some (.shape k t n)->O.hp j=some (.shape k t n)) (hw:∀k b s,G.bL k=some b->w.shape? b=some s->w'.shape? b=some s):
  ∀j k t n,O'.hp j=some (.shape k t n)->∃b,G'.bL k=some b/\w'.shape? b=some (t,n):=fun j k t n hj=>by
 obtain⟨b,h1,h2⟩:=h.nw j k t n (hO j k t n hj);exact⟨b,hl h1,hw k b _ h1 h2⟩
theorem lU {f:Nat->Option b_} {q:Nat} {X:b_} (hX:∀k t n,X≠ .shape k t n) (j k t n:Nat) (h:br f q (some X) j=some (.shape k t n)):f j=some (.shape k t n):=by
 by_cases e:j=q
 ·subst e;rw[aG]at h;injection h with h;exact absurd h (hX _ _ _)
 ·rwa [aw _ _ e]at h
theorem WR.qN {G':Gh} {O':VH} {w':World} (h:WR G O w) (hl:∀{k b},G.bL k=some b->G'.bL k=some b) (hO:∀k x,O'.hp k=some (.obj x)->O.hp k=some (.obj x)) (hw:∀k x b,O.hp k=some (.obj x)->G.bL k=some b->w.heap[b]?=some x->w'.heap[b]?=some x):
  ∀k x,O'.hp k=some (.obj x)->∃b,G'.bL k=some b/\w'.heap[b]?=some x:=fun k x hk=>by
 obtain⟨b,h1,h2⟩:=h.obj k x (hO k x hk);exact⟨b,hl h1,hw k x b (hO k x hk) h1 h2⟩
theorem ud {f:Nat->Option b_} {q:Nat} {X:b_} (hX:∀x,X≠ .obj x) (j:Nat) (x:Obj) (h:br f q (some X) j=some (.obj x)):f j=some (.obj x):=by
 by_cases e:j=q
 ·subst e;rw[aG]at h;injection h with h;exact absurd h (hX _)
 ·rwa [aw _ _ e]at h
theorem WR.qO {G':Gh} {O':VH} (h:WR G O w) (hl:G.Le G') (hO:∀k p,O'.hp k=some (.fact p)->O.hp k=some (.fact p)):∀k p,O'.hp k=some (.fact p)->p.p G':=fun k p hk=>p.mono hl (h.yz k p (hO k p hk))
theorem me {f:Nat->Option b_} {q:Nat} {X:b_} (hX:∀x,X≠ .fact x) (j:Nat) (x:GP) (h:br f q (some X) j=some (.fact x)):f j=some (.fact x):=by
 by_cases e:j=q
 ·subst e;rw[aG]at h;injection h with h;exact absurd h (hX _)
 ·rwa [aw _ _ e]at h
theorem gG {w w':World} {b:Nat} {s:TypeId×Nat} (hh:∀x,w.heap[b]?=some x->w'.heap[b]?=some x) (h:w.shape? b=some s):w'.shape? b=some s:=by
 unfold World.shape? at h ⊢;generalize hx:w.heap[b]?=x at h;cases x with
 | none=>cases h
 | some x=>rw[hh x hx];exact h
theorem WR.drew (h:WR G O w):WR G O w.drew:=⟨h.base.drew,h.dX,h.oN,h.jI,h.inj,h.cells,h.map,h.tok,h.kA,h.nw,h.obj,h.pd,h.yz⟩
theorem WR.drawn (h:WR G O w) (n:Nat):WR G O {w with drawn:=n}:=
 ⟨⟨h.base.os,h.base.tape,h.base.output,h.base.size,h.base.block⟩,h.dX,h.oN,h.jI,h.inj,h.cells,h.map,h.tok,h.kA,h.nw,h.obj,h.pd,h.yz⟩
theorem WR.S4 (h:WR G O w):G.B<=w.heap.size:=h.base.size
theorem WR.ad6 (h:WR G O w) {g:Nat} (hg:g∈NI):∃m,w.cell? ⟨g,0,none⟩=some (.int .i64 m):=by
 obtain⟨m,hm⟩:=h.pd g hg;refine⟨m,?_⟩;have hb:=h.base.block g (World.block_lt_of_cell? _ _ hm);unfold World.cell? at hm ⊢;rw[hb];exact hm
theorem Gh.Le.HT {k:Nat} (h:G.bL k=none) (b:Nat):G.Le {G with bL:=br G.bL k (some b)}:=
 ⟨rfl,fun{j b'} hj=>by
  show br G.bL k (some b) j=some b';rw[aw _ _ (fun e=>by subst e;rw[h]at hj;cases hj)];exact hj,id,id⟩
theorem eY (w:World) (o:Obj) (b:Nat):(w.alloc o).heap[b]?=if b=w.heap.size then some o else w.heap[b]?:=by
 show(w.heap.push o)[b]?=_;rw[Array.getElem?_push]
theorem dA (w:World) (o:Obj) {b:Nat} {x:Obj} (h:w.heap[b]?=some x):(w.alloc o).heap[b]?=some x:=by
 rw[eY,if_neg (fun e=>by subst e;rw[Array.getElem?_eq_none (Nat.le_refl _)]at h;cases h)];exact h
theorem nQ {w:World} {b:Nat} {x:Obj} (h:w.heap[b]?=some x):b<w.heap.size:=(Array.getElem?_eq_some_iff.1 h).1
theorem At (w:World) (o:Obj) {a:Addr} {u:Value} (h:w.cell? a=some u):(w.alloc o).cell? a=some u:=by
 rw[World.cell?_alloc_lt w o a (World.block_lt_of_cell? w a h)];exact h
theorem WR.grow (h:WR G O w) (o:Obj):WR G O (w.alloc o) where
 base:=h.base.alloc h.S4 o
 dX b p u hc:=At w o (h.dX b p u hc)
 oN:=h.oN
 jI k b hk:=by
  obtain⟨h1,h2,h3⟩:=h.jI k b hk;exact⟨h1,by simp;omega,h3⟩
 inj:=h.inj
 cells k cs hk:=by
  obtain⟨b,C,T,h1,h2,h3⟩:=h.cells k cs hk;exact⟨b,C,T,h1,dA w o h2,h3⟩
 map k es ck hk:=by
  obtain⟨b,E,h1,h2,h3⟩:=h.map k es ck hk;exact⟨b,E,h1,dA w o h2,h3⟩
 tok t ht:=by
  obtain⟨b,f,k,r,C,T,h1,h2,h3,h4⟩:=h.tok t ht;exact⟨b,f,k,r,C,T,h1,h2,dA w o h3,h4⟩
 kA:=h.kA
 nw:=h.n_ id (fun _ _ _ _ h=>h) fun _ _ _ _=>gG fun _=>dA w o
 obj:=h.qN id (fun _ _ h=>h) fun _ _ _ _ _=>dA w o
 pd:=h.pd
 yz:=h.yz
theorem size_alloc (w:World) (o:Obj):(w.alloc o).heap.size=w.heap.size+1:=by simp
theorem WR.WV (h:WR G O w) {cs:List MV} {C:Array Value} (T:Fz C) (hc:aO G cs (C.toList.take cs.length)):
  G.Le {G with bL:=br G.bL O.next (some w.heap.size)}/\WR {G with bL:=br G.bL O.next (some w.heap.size)} (O.push (.cells cs)) (w.alloc (.cells C T.t T.fr)):=by
 have hle:=Gh.Le.HT h.mc.1 w.heap.size;have hg:=h.grow (.cells C T.t T.fr)
 have eh:∀k b,br G.bL O.next (some w.heap.size) k=some b->(k=O.next/\b=w.heap.size)\/(k≠O.next/\G.bL k=some b):=fun k b hk=>by
  by_cases e:k=O.next
  ·subst e;rw[aG]at hk;injection hk with hk;exact .inl ⟨rfl,hk.symm⟩
  ·rw[aw _ _ e]at hk;exact .inr ⟨e,hk⟩
 have NJ:∀o,G.dX w.heap.size o=none:=fun o=>by
  cases hh:G.dX w.heap.size o with
  | none=>rfl
  | some u=>have:=h.WU hh;omega
 refine⟨hle,hg.base,hg.dX,fun k hk=>?_,fun k b hk=>?_,fun j k b lj lk hj hk=>?_,fun k ds hk=>?_,fun k es ck hk=>?_,fun t ht=>?_,fun s t b x y hs ht h1 h2=>?_,h.n_ hle.bL (lU (by simp)) fun _ _ _ _=>gG fun _=>dA w _,h.qN hle.bL (ud (by simp)) fun _ _ _ _ _=>dA w _,h.pd,h.qO hle (me (by simp))⟩
 ·have hk:O.next+1<=k:=hk;obtain⟨h1,h2,h3⟩:=h.oN k (by omega);exact⟨by show br _ _ _ _=_;rw[aw _ _ (by omega)];exact h1,h2,by show br _ _ _ _=_;rw[aw _ _ (by omega)];exact h3⟩
 ·rcases eh k b hk with⟨_,rfl⟩ | ⟨dT,hk⟩
  ·exact⟨h.S4,by simp,fun _=>NJ⟩
  ·obtain⟨p1,p2,p3⟩:=hg.jI k b hk;exact⟨p1,p2,fun hne=>p3 (by have hne:br O.hp O.next (some (.cells cs)) k≠none:=hne;rwa [aw _ _ dT]at hne)⟩
 ·rcases eh j b hj with⟨rfl,rfl⟩ | ⟨dd,hj⟩<;>rcases eh k _ hk with⟨rfl,hb⟩ | ⟨dT,hk⟩
  ·rfl
  ·have:=(h.jI _ _ hk).2.1;omega
  ·subst hb;have:=(h.jI _ _ hj).2.1;omega
  ·exact h.inj j k b (by have lj:br O.hp O.next (some (.cells cs)) j≠none:=lj;rwa [aw _ _ dd]at lj) (by have lk:br O.hp O.next (some (.cells cs)) k≠none:=lk;rwa [aw _ _ dT]at lk) hj hk
 ·have hk:br O.hp O.next (some (.cells cs)) k=some (.cells ds):=hk;by_cases e:k=O.next
  ·subst e;rw[aG]at hk;injection hk with hk;injection hk with hk;subst hk
   refine⟨w.heap.size,C,T,aG _ _ _,by rw[eY,if_pos rfl],?_⟩;exact hc.mono hle
  ·rw[aw _ _ e]at hk;obtain⟨b,D,T',h1,h2,h3⟩:=hg.cells k ds hk;exact⟨b,D,T',hle.bL h1,h2,h3.mono hle⟩
 ·have hk:br O.hp O.next (some (.cells cs)) k=some (.map es ck):=hk;by_cases e:k=O.next
  ·subst e;rw[aG]at hk;cases hk
  ·rw[aw _ _ e]at hk;obtain⟨b,E,h1,h2,h3,h4,h5⟩:=hg.map k es ck hk;exact⟨b,E,hle.bL h1,h2,h3,h4.mono hle,h5.mono hle⟩
 ·have ht:br O.hp O.next (some (.cells cs)) t=some .tok:=ht;by_cases e:t=O.next
  ·subst e;rw[aG]at ht;cases ht
  ·rw[aw _ _ e]at ht;obtain⟨b,f,k,r,D,T',h1,h2,h3,h4,h6,h7⟩:=hg.tok t ht;obtain⟨_,_,_,_,_,_,WW,_,WX,_⟩:=h.tok t ht;refine⟨b,f,k,r,D,T',h1,h2,h3,h4,h6,fun j hj=>?_⟩;rcases eh j b hj with⟨_,rfl⟩ | ⟨_,hj⟩
   ·rw[h1]at WW;injection WW with e1;injection e1 with e1 _;subst e1
    have:=nQ WX;omega
   ·exact h7 j hj
 ·have hs:br O.hp O.next (some (.cells cs)) s=some .tok:=hs;have ht:br O.hp O.next (some (.cells cs)) t=some .tok:=ht;have es:s≠O.next:=fun e=>by subst e;rw[aG]at hs;cases hs
  have et:t≠O.next:=fun e=>by subst e;rw[aG]at ht;cases ht
  rw[aw _ _ es]at hs;rw[aw _ _ et]at ht;exact h.kA s t b x y hs ht h1 h2
theorem WR.push (h:WR G O w) {cs:List MV} {C:Array Value} (T:TypeId) (hc:aO G cs C.toList):
  G.Le {G with bL:=br G.bL O.next (some w.heap.size)}/\WR {G with bL:=br G.bL O.next (some w.heap.size)} (O.push (.cells cs)) (w.alloc (.cells C T)):=
 h.WV ⟨T,(0,0),.inl rfl⟩ (by rw[List.take_of_length_le (by rw[hc.1];exact Nat.le_refl _)];exact hc)
theorem WR.forget (h:WR G O w) {O':VH} (hn:O.next<=O'.next) (hh:∀k,O'.hp k=none\/O'.hp k=O.hp k):WR G O' w where
 base:=h.base
 dX:=h.dX
 oN k hk:=by
  obtain⟨h1,h2,h3⟩:=h.oN k (by omega);exact⟨h1,h2,by rcases hh k with e | e<;>rw[e];exact h3⟩
 jI k b hk:=by
  obtain⟨p1,p2,p3⟩:=h.jI k b hk
  exact⟨p1,p2,fun hne=>p3 (by rcases hh k with e | e; · exact absurd e hne
                              ·rwa [e]at hne)⟩
 inj j k b lj lk:=h.inj j k b (fun e=>(hh j).elim lj (fun e'=>lj (e'.trans e))) (fun e=>(hh k).elim lk (fun e'=>lk (e'.trans e)))
 cells k cs hk:=h.cells k cs (by rcases hh k with e | e<;>rw[e]at hk; · cases hk
                                 ·exact hk)
 map k es ck hk:=h.map k es ck (by rcases hh k with e | e<;>rw[e]at hk; · cases hk
                                   ·exact hk)
 tok t ht:=h.tok t (by rcases hh t with e | e<;>rw[e]at ht; · cases ht
                       ·exact ht)
 kA s t b x y hs ht h1 h2:=h.kA s t b x y (by rcases hh s with e | e<;>rw[e]at hs; · cases hs
                                              ·exact hs) (by rcases hh t with e | e<;>rw[e]at ht; · cases ht
                                                             ·exact ht) h1 h2
 nw:=h.n_ id (fun j k t n hj=>by rcases hh j with e | e<;>rw[e]at hj; · cases hj
                                 ·exact hj) fun _ _ _ _ h=>h
 obj:=h.qN id (fun j x hj=>by rcases hh j with e | e<;>rw[e]at hj; · cases hj
                              ·exact hj) fun _ _ _ _ _ h=>h
 pd:=h.pd
 yz:=h.qO (Gh.Le.refl _) fun j x hj=>by
  rcases hh j with e | e
  ·rw[e]at hj;cases hj
  ·rw[e]at hj;exact hj
theorem WR.kill (h:WR G O w) (k:Nat):WR G (O.kill k) w:=h.forget (Nat.le_refl _) fun j=>by
 show br _ _ _ j=none\/br _ _ _ j=_;by_cases e:j=k
 ·subst e;exact .inl (aG _ _ _)
 ·exact .inr (aw _ _ e)
def yA (G:Gh) (b:Nat) (f:Nat->Option Value):Gh:={G with dX:=fun b' o=>if b'=b then f o else G.dX b' o}
theorem NK {b:Nat} {f:Nat->Option Value} (h:∀o u,G.dX b o=some u->f o=some u):G.Le (yA G b f):=
 ⟨rfl,id,fun{b' o u} hc=>by
  show(if b'=b then f o else G.dX b' o)=some u;split
  ·subst b';exact h o u hc
  ·exact hc,id⟩
theorem WR.CI (h:WR G O w) {b:Nat} {f:Nat->Option Value} (hold:∀o u,G.dX b o=some u->f o=some u) (iQ:∀o u,f o=some u->w.cell? ⟨b,o,none⟩=some u)
  (eh:∀k,O.hp k≠none->G.bL k≠some b) (ue:∀t c x,O.hp t=some .tok->G.tok t=some (c,x)->c=b->∀o,x.1<=o->f o=none):G.Le (yA G b f)/\WR (yA G b f) O w:=by
 have hle:=NK (G:=G) hold;refine⟨hle,h.base,fun b' o u hc=>?_,h.oN,fun k c hk=>?_,h.inj,fun k cs hk=>?_,fun k es ck hk=>?_,fun t ht=>?_,h.kA,h.n_ hle.bL (fun _ _ _ _ h=>h) fun _ _ _ _ h=>h,h.qN hle.bL (fun _ _ h=>h) fun _ _ _ _ _ h=>h,h.pd,h.qO hle fun _ _ h=>h⟩
 ·have jj:(if b'=b then f o else G.dX b' o)=some u:=hc;split at jj
  ·subst b';exact iQ o u jj
  ·exact h.dX b' o u jj
 ·obtain⟨h1,h2,h3⟩:=h.jI k c hk;refine⟨h1,h2,fun hne o=>?_⟩;show(if c=b then f o else G.dX c o)=none;rw[if_neg (fun e=>eh k hne (by rw[<-e];exact hk))];exact h3 hne o
 ·obtain⟨c,C,T,h1,h2,h3⟩:=h.cells k cs hk;exact⟨c,C,T,h1,h2,h3.mono hle⟩
 ·obtain⟨c,E,h1,h2,h3,h4,h5⟩:=h.map k es ck hk;exact⟨c,E,h1,h2,h3,h4.mono hle,h5.mono hle⟩
 ·obtain⟨c,g,k,r,C,T,h1,h2,h3,h4,h6,h7⟩:=h.tok t ht;refine⟨c,g,k,r,C,T,h1,h2,h3,h4,fun o ho=>?_,h7⟩;show(if c=b then f o else G.dX c o)=none;split
  ·exact ue t c _ ht h1 ‹_› o ho
  ·exact h6 o ho
theorem Gi (w:World) (C:Array Value) (T:TypeId) (fr:Nat×Nat) (o:Nat):(w.alloc (.cells C T fr)).cell? ⟨w.heap.size,o,none⟩=C[o]?:=by
 have:(w.alloc (.cells C T fr)).heap[w.heap.size]?=some (.cells C T fr):=by rw[eY,if_pos rfl]
 simp only[World.cell?,this,Option.isSome_none,Bool.false_eq_true,if_false]
theorem WR.si (h:WR G O w) (k:Nat):G.bL k≠some w.heap.size:=fun e=>by have:=(h.jI k _ e).2.1;omega
theorem WR.vN (h:WR G O w) (o:Nat):G.dX w.heap.size o=none:=by
 cases hh:G.dX w.heap.size o with
 | none=>rfl
 | some u=>have:=h.WU hh;omega
theorem WR.oO (h:WR G O w) {t c:Nat} {x:Nat×Nat×Nat} (ht:O.hp t=some .tok) (hc:G.tok t=some (c,x)):c≠w.heap.size:=fun e=>by
 obtain⟨b,_,_,_,_,_,h1,_,h3,_⟩:=h.tok t ht;rw[hc]at h1;injection h1 with h1;injection h1 with h1 _
 have:=nQ h3;omega
theorem WR.lit (h:WR G O w) (C:Array Value) (T:TypeId):G.Le (yA G w.heap.size fun o=>C[o]?)/\WR (yA G w.heap.size fun o=>C[o]?) O (w.alloc (.cells C T)):=
 (h.grow (.cells C T)).CI (fun o u hc=>by rw[h.vN]at hc;cases hc) (fun o u hf=>by rw[Gi];exact hf) (fun k _=>h.si k)
  fun t c x ht hc e=>absurd e (h.oO ht hc)
theorem WR.Rc (h:WR G O w) {b f k r:Nat} {C:Array Value} {T:TypeId} (hB:G.B<=b) (hb:w.heap[b]?=some (.cells C T (0,0))) (hf:f+r*k<=C.size)
  (JL:∀o,f<=o->G.dX b o=none) (eh:∀j,G.bL j≠some b) (ue:∀t c x,O.hp t=some .tok->G.tok t=some (c,x)->c≠b):
  G.Le {G with tok:=br G.tok O.next (some (b,f,k,r))}/\WR {G with tok:=br G.tok O.next (some (b,f,k,r))} (O.push .tok) w:=by
 have hle:G.Le {G with tok:=br G.tok O.next (some (b,f,k,r))}:=⟨rfl,id,id,fun{t x} ht=>by
  show br G.tok O.next _ t=some x;rw[aw _ _ (fun e=>by subst e;rw[h.mc.2.1]at ht;cases ht)];exact ht⟩
 have ny:∀j x,br O.hp O.next (some b_.tok) j=some x->(j=O.next/\x= .tok)\/(j≠O.next/\O.hp j=some x):=fun j x hj=>by
  by_cases e:j=O.next
  ·subst e;rw[aG]at hj;injection hj with hj;exact .inl ⟨rfl,hj.symm⟩
  ·rw[aw _ _ e]at hj;exact .inr ⟨e,hj⟩
 refine⟨hle,h.base,h.dX,fun j hj=>?_,fun j c hj=>?_,fun j k' c lj lk hj hk=>?_,fun j cs hj=>?_,fun j es ck hj=>?_,fun t ht=>?_,fun s t c x y hs ht h1 h2=>?_,h.n_ hle.bL (lU (by simp)) fun _ _ _ _ h=>h,h.qN hle.bL (ud (by simp)) fun _ _ _ _ _ h=>h,h.pd,h.qO hle (me (by simp))⟩
 ·have hj:O.next+1<=j:=hj;obtain⟨h1,h2,h3⟩:=h.oN j (by omega);exact⟨h1,by show br _ _ _ _=_;rw[aw _ _ (by omega)];exact h2,by show br _ _ _ _=_;rw[aw _ _ (by omega)];exact h3⟩
 ·obtain⟨p1,p2,p3⟩:=h.jI j c hj;refine⟨p1,p2,fun hne=>p3 ?_⟩;have hne:br O.hp O.next (some b_.tok) j≠none:=hne
  rwa [aw _ _ (fun e=>by subst e;have hj:G.bL O.next=some c:=hj;rw[h.mc.1]at hj;cases hj)]at hne
 ·have hl:∀m,G.bL m=some c->br O.hp O.next (some b_.tok) m≠none->O.hp m≠none:=fun m hm hn=>by
   rwa [aw _ _ (fun e=>by subst e;rw[h.mc.1]at hm;cases hm)]at hn
  exact h.inj j k' c (hl j hj lj) (hl k' hk lk) hj hk
 ·rcases ny j _ hj with⟨_,e⟩ | ⟨_,hj⟩
  ·cases e
  ·obtain⟨c,D,T',h1,h2,h3⟩:=h.cells j cs hj;exact⟨c,D,T',h1,h2,h3.mono hle⟩
 ·rcases ny j _ hj with⟨_,e⟩ | ⟨_,hj⟩
  ·cases e
  ·obtain⟨c,E,h1,h2,h3,h4,h5⟩:=h.map j es ck hj;exact⟨c,E,h1,h2,h3,h4.mono hle,h5.mono hle⟩
 ·rcases ny t _ ht with⟨rfl,_⟩ | ⟨e,ht⟩
  ·exact⟨b,f,k,r,C,T,aG _ _ _,hB,hb,hf,JL,eh⟩
  ·obtain⟨c,g,k',r',D,T',h1,h2⟩:=h.tok t ht;exact⟨c,g,k',r',D,T',by show br _ _ _ _=_;rw[aw _ _ e];exact h1,h2⟩
 ·have h1:br G.tok O.next (some (b,f,k,r)) s=some (c,x):=h1;have h2:br G.tok O.next (some (b,f,k,r)) t=some (c,y):=h2;rcases ny s _ hs with⟨rfl,_⟩ | ⟨es,hs⟩<;>rcases ny t _ ht with⟨rfl,_⟩ | ⟨et,ht⟩
  ·rfl
  ·rw[aG]at h1;rw[aw _ _ et]at h2;injection h1 with h1;injection h1 with h1 _;subst h1
   exact absurd rfl (ue t _ _ ht h2)
  ·rw[aG]at h2;rw[aw _ _ es]at h1;injection h2 with h2;injection h2 with h2 _;subst h2
   exact absurd rfl (ue s _ _ hs h1)
  ·rw[aw _ _ es]at h1;rw[aw _ _ et]at h2;exact h.kA s t c x y hs ht h1 h2
theorem WR.store (h:WR G O w) {k i b:Nat} {cs:List MV} {c:MV} {u:Value} (hk:O.hp k=some (.cells cs)) (hp:G.bL k=some b) (hi:i<cs.length) (hc:VR G c u):
  WR G (O.set k (.cells (cs.set i c))) (w.setCell ⟨b,i,none⟩ u):=by
 obtain⟨b',C,T,h1,h2,h3⟩:=h.cells k cs hk;rw[hp]at h1;injection h1 with h1;subst h1
 have hne:∀j b',j≠k->O.hp j≠none->G.bL j=some b'->b'≠b:=fun j b' hj lj mF e=>hj (h.inj j k b lj (by rw[hk];simp) (e▸mF) hp)
 have iR:∀j,br O.hp k (some (.cells (cs.set i c))) j≠none->O.hp j≠none:=fun j hn=>by
  by_cases e:j=k
  ·subst e;rw[hk];simp
  ·rwa [aw _ _ e]at hn
 have xA:(w.setCell ⟨b,i,none⟩ u).heap[b]?=some (.cells (C.setIfInBounds i u) T.t T.fr):=by
  simp[World.setCell,Array.getElem?_modify,h2]
 have ei:∀j,j≠b->(w.setCell ⟨b,i,none⟩ u).heap[j]?=w.heap[j]?:=fun j hj=>Below.heap_setCell _ _ _ _ (by simpa using hj)
 refine⟨h.base.setCell (h.jI k b hp).1 u,fun b' o u' oa=>?_,fun j hj=>?_,fun j b' hj=>?_,fun j k' b' lj lk=>h.inj j k' b' (iR j lj) (iR k' lk),fun j ds hj=>?_,fun j es ck hj=>?_,fun t ht=>?_,fun s t b' x y hs ht=>?_,h.n_ id (lU (by simp)) fun j b' s _ hs=>?_,h.qN id (ud (by simp)) fun j x b' hj hb hx=>by rw[ei _ (hne j b' (fun e=>by subst e;rw[hk]at hj;cases hj) (by rw[hj];simp) hb)];exact hx,h.pd,h.qO (Gh.Le.refl _) (me (by simp))⟩
 ·have yB:b'≠b:=fun e=>by subst e;rw[(h.jI k b' hp).2.2 (by rw[hk];simp) o]at oa;cases oa
  rw[World.cell?_setCell_other _ _ _ _ (fun e=>yB (by injection e with e;exact e.symm))];exact h.dX b' o u' oa
 ·obtain⟨d1,d2,d3⟩:=h.oN j hj;refine⟨d1,d2,?_⟩;show br _ _ _ _=_;rw[aw _ _ (fun e=>by subst e;rw[d3]at hk;cases hk)];exact d3
 ·obtain⟨p1,p2,p3⟩:=h.jI j b' hj;refine⟨p1,by simp[World.setCell];exact p2,fun hne=>p3 ?_⟩;have hne:br O.hp k (some (.cells (cs.set i c))) j≠none:=hne;by_cases e:j=k
  ·subst e;rw[hk];simp
  ·rwa [aw _ _ e]at hne
 ·have hj:br O.hp k (some (.cells (cs.set i c))) j=some (.cells ds):=hj;by_cases e:j=k
  ·subst e;rw[aG]at hj;injection hj with hj;injection hj with hj;subst hj
   refine⟨b,_,⟨T.t,T.fr,by simpa using T.ok⟩,hp,xA,?_⟩;have:=h3.set (i:=i) hc;rw[Array.toList_setIfInBounds,List.length_set,List.take_set];exact this
  ·rw[aw _ _ e]at hj;obtain⟨b',D,T',d1,d2,d3⟩:=h.cells j ds hj;exact⟨b',D,T',d1,by rw[ei _ (hne j b' e (by rw[hj];simp) d1)];exact d2,d3⟩
 ·have hj:br O.hp k (some (.cells (cs.set i c))) j=some (.map es ck):=hj;by_cases e:j=k
  ·subst e;rw[aG]at hj;cases hj
  ·rw[aw _ _ e]at hj;obtain⟨b',E,d1,d2,d3⟩:=h.map j es ck hj;exact⟨b',E,d1,by rw[ei _ (hne j b' e (by rw[hj];simp) d1)];exact d2,d3⟩
 ·have ht:br O.hp k (some (.cells (cs.set i c))) t=some .tok:=ht;have e:t≠k:=fun e=>by subst e;rw[aG]at ht;cases ht
  rw[aw _ _ e]at ht;obtain⟨b',f,k',r,D,T',d1,d2,d3,d4,d6,d7⟩:=h.tok t ht;exact⟨b',f,k',r,D,T',d1,d2,by rw[ei _ (fun e=>d7 k (by rw[e];exact hp))];exact d3,d4,d6,d7⟩
 ·have hs:br O.hp k (some (.cells (cs.set i c))) s=some .tok:=hs;have ht:br O.hp k (some (.cells (cs.set i c))) t=some .tok:=ht;have e:t≠k:=fun e=>by subst e;rw[aG]at ht;cases ht
  have e':s≠k:=fun e=>by subst e;rw[aG]at hs;cases hs
  rw[aw _ _ e]at ht;rw[aw _ _ e']at hs;exact h.kA s t b' x y hs ht
 ·by_cases e:b'=b
  ·subst e;simp only[World.shape?,h2]at hs;simp only[World.shape?,xA,Array.size_setIfInBounds];exact hs
  ·exact gG (fun x hx=>by rw[ei _ e];exact hx) hs
theorem WR.freeze (h:WR G O w) {k o n c sz:Nat} {cs:List MV} {u:Value} (hk:O.hp k=some (.cells cs)) (hx:VR G (.bp k o n c) u) (hl:o+sz<=cs.length):
  ∃H,G.Le H/\WR H (O.kill k) w/\VR H (.sl n ((cs.drop o).take sz) (if c=n then .full else .aq)) u:=by
 cases hx with
 | bp hp hn hm=>
   rename_i b;obtain⟨b',C,T,h1,h2,h3⟩:=h.cells k cs hk;rw[hp]at h1;injection h1 with h1;subst h1
   have ahg:=(h.jI k b hp).2.2 (by rw[hk];simp)
   obtain⟨hle,hW⟩:=(h.kill k).CI (b:=b) (f:=fun o=>C[o]?) (fun o u hc=>by rw[ahg o]at hc;cases hc)
    (fun o u hf=>by simp only[World.cell?,h2,Option.isSome_none,Bool.false_eq_true,if_false];exact hf)
    (fun j hj WY=>by
     have lj:O.hp j≠none:=fun e=>by
      by_cases e2:j=k
      ·subst e2;exact hj (aG _ _ _)
      ·exact hj ((aw _ _ e2).trans e)
     have:j=k:=h.inj j k b lj (by rw[hk];simp) WY hp;subst this;exact hj (aG _ _ _))
    (fun t c' x ht oa e=>by
     subst e
     have ht':O.hp t=some .tok:=by
      have ht:br O.hp k none t=some .tok:=ht;by_cases e:t=k
      ·subst e;rw[aG]at ht;cases ht
      ·rwa [aw _ _ e]at ht
     obtain⟨_,_,_,_,_,_,d1,_,_,_,_,d7⟩:=h.tok t ht';rw[oa]at d1;injection d1 with d1;injection d1 with d1 _;subst d1
     exact absurd hp (d7 k))
   refine⟨_,hle,hW,?_⟩;have h4:aO G ((cs.drop o).take sz) (((C.toList.take cs.length).drop o).take sz):=(h3.drop o).take sz
   have h5:((C.toList.take cs.length).drop o).take sz=(C.toList.drop o).take sz:=by
    rw[List.drop_take,List.take_take,Nat.min_eq_left (by omega)]
   rw[h5]at h4;refine .sl h4.1 (fun i u hu=>?_) (fun i c u a b=>(h4.2 i c u a b).mono hle) hn hm ?_
   ·show(if b=b then C[o+i]? else _)=some u;rw[if_pos rfl];rw[List.getElem?_take]at hu;split at hu
    ·rw[List.getElem?_drop]at hu;simpa using hu
    ·cases hu
   ·split
    ·rename_i e;exact e
    ·trivial
end
structure cz where
 under:TypeDesc
 size:Nat
 bytes:Nat
 zero:List MV
def eC:TypeDesc->Bool
 | .struct _ | .array _ _=>true
 | _=>false
structure wZ (P:Program) (t:TypeId) (i:cz):Prop where
 under:P.underlying t=some i.under
 info:∃ti z,P.info? t=some ti/\ti.size=i.size/\ti.bytes=i.bytes/\ti.zero=some z/\z.cells.size=i.size/\∀G,aO G i.zero z.cells.toList
 whole:∀ti z,P.info? t=some ti->ti.zero=some z->(eC i.under=true->∃cs,z= .agg cs)/\(eC i.under=false->z.cells= #[z])
abbrev b9:=TypeId->Option cz
def aK (P:Program) (tab:b9):Prop:=∀t i,tab t=some i->wZ P t i
def ofConst:Value->Option MV
 | .string s=>some (.str s.data.toList)
 | .slice none 0 0=>some (.sl 0 [] .nil)
 | x=>if plain x then some (.v x)else none
theorem Bt {G:Gh} {x:Value} {m:MV} (h:ofConst x=some m):VR G m x:=by
 unfold ofConst at h;split at h
 ·injection h with h;subst h;rename_i s;obtain⟨⟨l⟩⟩:=s;exact .str
 ·injection h with h;subst h;exact .slnil
 ·split at h
  ·injection h with h;subst h;exact .v ‹_›
  ·cases h
abbrev Env:=List (Nat×MV)
def look:Env->Nat->Option MV
 | [],_=>none
 | (k,x)::r,t=>bif t==k then some x else look r t
def ev (e:Env):Operand->Option MV
 | .tmp t=>look e t
 | .const v=>ofConst v
 | .global _=>none
 | .func f=>some (.func (.func f) [] [])
structure Sz where
 n:Nat
 lo:Nat
def kB (n:Sz):Env->Env
 | []=>[]
 | (t,m)::e=>bif decide (t<n.lo)then(t,m)::kB n e else kB n e
theorem xB {n:Sz}:∀{e:Env} {t:Nat},look (kB n e) t=if t<n.lo then look e t else none
 | [],t=>by simp[kB,look]
 | (k,m)::e,t=>by
   have ih:=xB (n:=n) (e:=e) (t:=t);simp only[kB];by_cases hk:k<n.lo
   ·simp only[hk,decide_true,cond_true,look,ih];by_cases ht:t=k
    ·subst ht;simp[hk]
    ·have:(t==k)=false:=by simpa using ht
     simp[this]
   ·simp only[hk,decide_false,cond_false,look,ih];by_cases ht:t<n.lo
    ·have:(t==k)=false:=by simp;omega
     simp[this]
    ·simp[ht]
structure FR (G:Gh) (n:Sz) (D:List Deferred) (e:Env) (a:Act):Prop where
 defers:a.defers=D
 size:a.tmps.size=n.n
 get:∀t x,look e t=some x->∃u,a.tmps[t]?=some u/\VR G x u
section
variable {G H:Gh} {n:Sz} {D:List Deferred} {e:Env} {a:Act} {P:Program} {tab:b9} {O O':VH} {w:World} {m:MV}
theorem FR.mono (h:FR G n D e a) (hl:G.Le H):FR H n D e a:=⟨h.defers,h.size,fun t x hx=>by obtain⟨u,h1,h2⟩:=h.get t x hx;exact⟨u,h1,h2.mono hl⟩⟩
theorem FR.ev (h:FR G n D e a) {x:Operand} (hx:ev e x=some m):VR G m (a.eval x):=by
 cases x with
 | tmp t=>
   obtain⟨u,h1,h2⟩:=h.get t m hx
   have:a.eval (.tmp t)=u:=by
    show a.tmps.getD t undef=u;rw[Array.getD_eq_getD_getElem?,h1];rfl
   rw[this];exact h2
 | const v=>exact Bt hx
 | global g=>cases hx
 | func f=>
   injection hx with hx;subst hx
   exact VR.func (us:=[]) (vs:=[]) rfl (fun i c u h=>by simp at h) rfl (fun i c u h=>by simp at h)
theorem FR.put (h:FR G n D e a) {d:Nat} {u:Value} (hd:d<n.n) (hu:VR G m u):FR G n D ((d,m)::e) (a.put (some d) u):=by
 refine⟨h.defers,by simp[Act.put,h.size],fun t x hx=>?_⟩;simp only[look]at hx;by_cases e':t=d
 ·subst e';simp only[beq_self_eq_true,cond_true,Option.some.injEq]at hx;subst hx;exact⟨u,by simp[Act.put,h.size,hd],hu⟩
 ·have:(t==d)=false:=by simpa using e'
  rw[this]at hx;obtain⟨u',h1,h2⟩:=h.get t x hx;refine⟨u',?_,h2⟩;simp only[Act.put];rw[Array.getElem?_setIfInBounds_ne (Ne.symm e')];exact h1
theorem FR.less (h:FR G n D e a) {e':Env} (hl:∀t x,look e' t=some x->look e t=some x):FR G n D e' a:=⟨h.defers,h.size,fun t x hx=>h.get t x (hl t x hx)⟩
def fG (e:Env) (l:List Operand):Option (List MV):=l.mapM (ev e)
theorem FR.fG (h:FR G n D e a):∀{l:List Operand} {ms:List MV},fG e l=some ms->aO G ms (l.map a.eval)
 | [],ms,hx=>by simp[Go.Proofs.YtoclnkfdahmnhaaGreatDoor.fG]at hx;subst hx;exact aO.nil
 | x::l,ms,hx=>by
   simp only[Go.Proofs.YtoclnkfdahmnhaaGreatDoor.fG,List.mapM_cons,Option.bind_eq_bind,Option.bind_eq_some_iff]at hx;obtain⟨m,h1,WZ,h2,h3⟩:=hx;injection h3 with h3;subst h3
   exact aO.cons (h.ev h1) (FR.fG h h2)
def qq (op:BinOp) (k:IntKind) (a b:Int):Option MV:=
 match op with
 | .add=>some (.v (.int k (k.wrap (a+b))))
 | .sub=>some (.v (.int k (k.wrap (a - b))))
 | .mul=>some (.v (.int k (k.wrap (a*b))))
 | .quo=>if b=0 then none else some (.v (.int k (k.wrap (a.tdiv b))))
 | .rem=>if b=0 then none else some (.v (.int k (a.tmod b)))
 | .eql=>some (.v (.bool (a==b)))
 | .neq=>some (.v (.bool (a != b)))
 | .lss=>some (.v (.bool (decide (a<b))))
 | .leq=>some (.v (.bool (decide (a<=b))))
 | .gtr=>some (.v (.bool (decide (a>b))))
 | .geq=>some (.v (.bool (decide (a>=b))))
 | .and=>some (.v (.int k (k.wrap (BitVec.ofInt k.bits a&&& BitVec.ofInt k.bits b).toNat)))
 | .or=>some (.v (.int k (k.wrap (BitVec.ofInt k.bits a||| BitVec.ofInt k.bits b).toNat)))
 | .xor=>some (.v (.int k (k.wrap (BitVec.ofInt k.bits a ^^^ BitVec.ofInt k.bits b).toNat)))
 | _=>none
def yC (op:BinOp) (k:IntKind) (a b:Int):Option MV:=
 if b<0 then none else
 match op with
 | .shl=>some (.v (.int k (k.wrap (a*2 ^ (min b.toNat k.bits)))))
 | .shr=>some (.v (.int k (a.fdiv (2 ^ (min b.toNat k.bits)))))
 | _=>none
def ad7 (op:BinOp) (a b:List UInt8):Option MV:=
 match op with
 | .add=>if a.length+b.length<=9223372036854775807 then some (.str (a++b))else none
 | .eql=>some (.v (.bool (a==b)))
 | .neq=>some (.v (.bool (!(a==b))))
 | .lss=>some (.v (.bool (Op.bytesLess a b)))
 | .leq=>some (.v (.bool (Op.bytesLess a b||a==b)))
 | .gtr=>some (.v (.bool (!(Op.bytesLess a b||a==b))))
 | .geq=>some (.v (.bool (!(Op.bytesLess a b))))
 | _=>none
def mJ (tab:b9) (op:BinOp) (t:TypeId) (same:Bool):Option MV:=
 match((tab t).map cz.under:Option TypeDesc),op with
 | some (.pointer _),.eql=>some (.v (.bool same))
 | some (.pointer _),.neq=>some (.v (.bool (!same)))
 | _,_=>none
def cX (tab:b9) (op:BinOp) (t:TypeId) (x y:MV):Option MV:=
 match x,y with
 | .v (.int k a),.v (.int k' b)=>
   match op with
   | .shl=>yC .shl k a b
   | .shr=>yC .shr k a b
   | op=>if k=k' then qq op k a b else none
 | .v (.bool a),.v (.bool b)=>
   match((tab t).map cz.under:Option TypeDesc),op with
   | some .bool,.eql=>some (.v (.bool (a==b)))
   | some .bool,.neq=>some (.v (.bool (!(a==b))))
   | _,_=>none
 | .str a,.str b=>ad7 op a b
 | .v (.pointer none),.v (.pointer none)=>mJ tab op t true
 | .ptr _ _,.v (.pointer none)=>mJ tab op t false
 | .v (.pointer none),.ptr _ _=>mJ tab op t false
 | .c8 _ _,.v (.pointer none)=>mJ tab op t false
 | .v (.pointer none),.c8 _ _=>mJ tab op t false
 | .ptr b o,.ptr b' o'=>if b=b'/\o=o' then(match((tab t).map cz.under:Option TypeDesc)with
   | some (.pointer el)=>match tab el with
     | some te=>if te.size=0 then none else mJ tab op t true
     | none=>none
   | _=>none)else none
 | _,_=>none
theorem toList_mk (l:List UInt8):(⟨⟨l⟩⟩:ByteArray).toList=l:=by
 rw[ByteArray.toList_eq]
theorem run_equal_bool {t:TypeId} (h:P.underlying t=some .bool) (a b:Bool) (w:World):(Op.equal t (.bool a) (.bool b)).run P w= .ok (a==b) w:=by
 show(Op.equalIn (9999+1) t (.bool a) (.bool b)).run P w=_;generalize 9999=d;simp[Op.equalIn,run_underlying h]
def SS (G:Gh) (w:World):Prop:=∀b o u,G.dX b o=some u->w.cell? ⟨b,o,none⟩=some u
theorem WR.ss (h:WR G O w):SS G w:=h.dX
def aW (P:Program) (s:Sem Value) (G:Gh) (m:MV):Prop:=∃u,VR G m u/\∀w,SS G w->s.run P w= .ok u w
theorem aW.of {s:Sem Value} {u:Value} (hr:∀w,SS G w->s.run P w= .ok u w) (hu:VR G m u):aW P s G m:=⟨u,hu,hr⟩
theorem xC (ht:aK P tab) {t:TypeId} {d:TypeDesc} (h:(tab t).map cz.under=some d):P.underlying t=some d:=by
 obtain⟨i,hi,hu⟩:=Option.map_eq_some_iff.1 h;rw[<-hu];exact(ht t i hi).under
theorem W0 {t:TypeId} {i:cz} (h:wZ P t i) (w:World):(sizeOf t).run P w= .ok i.size w:=by
 obtain⟨ti,z,h1,h2,_⟩:=h.info;simp[sizeOf,typeInfo,h1,h2]
theorem rq (ht:aK P tab) {op:BinOp} {t:TypeId} {same:Bool} {p q:Option Addr} {xo yo:Operand} (h:mJ tab op t same=some m)
  (heq:∀el,P.underlying t=some (.pointer el)->∀(w:World) (d:Nat),(Op.equalIn (d+1) t (.pointer p) (.pointer q)).run P w= .ok same w):aW P (do eqGuard op t xo yo (.pointer p) (.pointer q);binOp op t (.pointer p) (.pointer q)) G m:=by
 have hg:∀w,(eqGuard op t xo yo (.pointer p) (.pointer q)).run P w= .ok () w:=fun w=>by unfold eqGuard;split<;>simp
 unfold mJ at h;split at h
 ·rename_i el hu;injection h with h;subst h
  refine aW.of (fun w _=>?_) (.v rfl);rw[Sem.run_bind,hg,Result.andThen_ok];have:=heq el (xC ht hu) w 9999;simp only[binOp,Op.equal,Op.maxDepth,Sem.run_bind,this,Result.andThen_ok,Sem.run_pure]
 ·rename_i el hu;injection h with h;subst h
  refine aW.of (fun w _=>?_) (.v rfl);rw[Sem.run_bind,hg,Result.andThen_ok];have:=heq el (xC ht hu) w 9999;simp only[binOp,Op.equal,Op.maxDepth,Sem.run_bind,this,Result.andThen_ok,Sem.run_pure]
 ·cases h
theorem W4 (ht:aK P tab) {op:BinOp} {t:TypeId} {x y:MV} {u v:Value} {xo yo:Operand} (h:cX tab op t x y=some m) (hx:VR G x u) (hy:VR G y v):
  aW P (do eqGuard op t xo yo u v;binOp op t u v) G m:=by
 unfold cX at h;split at h
 ·rename_i k a k' b;cases hx;cases hy
  have hg:∀w,(eqGuard op t xo yo (.int k a) (.int k' b)).run P w= .ok () w:=fun w=>by unfold eqGuard;split<;>simp
  split at h
  ·unfold yC at h;split at h
   ·cases h
   ·injection h with h;subst h
    exact aW.of (fun w _=>by rw[Sem.run_bind,hg,Result.andThen_ok];simp[binOp,Op.shift, *]) (.v rfl)
  ·unfold yC at h;split at h
   ·cases h
   ·injection h with h;subst h
    exact aW.of (fun w _=>by rw[Sem.run_bind,hg,Result.andThen_ok];simp[binOp,Op.shift, *]) (.v rfl)
  ·rename_i h1 h2;split at h
   ·subst k'
    cases op<;>simp only[qq]at h<;>first
     | (exact absurd rfl h1)
     | (exact absurd rfl h2)
     | (cases h;done)
     | (injection h with h;subst h;exact aW.of (fun w _=>by rw[Sem.run_bind,hg,Result.andThen_ok];simp[binOp,Op.intArith,Op.intCmp,Op.intBits]) (.v rfl))
     | (split at h
        ·cases h
        ·injection h with h;subst h;exact aW.of (fun w _=>by rw[Sem.run_bind,hg,Result.andThen_ok];simp[binOp,Op.intDiv, *]) (.v rfl))
   ·cases h
 ·rename_i a b;cases hx;cases hy
  have hg:∀w,(eqGuard op t xo yo (.bool a) (.bool b)).run P w= .ok () w:=fun w=>by unfold eqGuard;split<;>simp
  split at h
  ·rename_i hu;obtain⟨i,hi,hu⟩:=Option.map_eq_some_iff.1 hu;have:=(ht t i hi).under;rw[hu]at this;injection h with h;subst h
   exact aW.of (fun w _=>by rw[Sem.run_bind,hg,Result.andThen_ok];simp only[binOp,Sem.run_bind,run_equal_bool this,Result.andThen_ok,Sem.run_pure]) (.v rfl)
  ·rename_i hu;obtain⟨i,hi,hu⟩:=Option.map_eq_some_iff.1 hu;have:=(ht t i hi).under;rw[hu]at this;injection h with h;subst h
   exact aW.of (fun w _=>by rw[Sem.run_bind,hg,Result.andThen_ok];simp only[binOp,Sem.run_bind,run_equal_bool this,Result.andThen_ok,Sem.run_pure]) (.v rfl)
  ·cases h
 ·rename_i a b;cases hx;rename_i e1;cases hy
  have hg:∀w,(eqGuard op t xo yo (.string ⟨⟨a⟩⟩) (.string ⟨⟨b⟩⟩)).run P w= .ok () w:=fun w=>by unfold eqGuard;split<;>simp
  cases op<;>simp only[ad7]at h<;>first
   | (cases h;done)
   | (injection h with h;subst h;exact aW.of (fun w _=>by rw[Sem.run_bind,hg,Result.andThen_ok];simp[binOp,Op.stringOp,toList_mk]) (.v rfl))
   | (split at h
      ·injection h with h;subst h
       refine aW.of (u:=.string ⟨⟨a++b⟩⟩) (fun w _=>?_) .str;rw[Sem.run_bind,hg,Result.andThen_ok];have e:(⟨⟨a⟩⟩:ByteArray)++⟨⟨b⟩⟩=⟨⟨a++b⟩⟩:=ByteArray.ext (by simp)
       have hn:¬(((⟨⟨a⟩⟩:ByteArray).size+(⟨⟨b⟩⟩:ByteArray).size:Nat):Int)>IntKind.i64.max:=by
        show ¬((a.length+b.length:Nat):Int)>_;have:IntKind.i64.max=9223372036854775807:=by decide
        omega
       simp only[binOp,Op.stringOp,if_neg hn,e,Sem.run_pure]
      ·cases h)
 ·rename_i hx' hy';cases hx;cases hy
  exact rq ht h (fun el hu w d=>by simp[Op.equalIn,run_underlying hu])
 ·cases hx;cases hy
  exact rq ht h (fun el hu w d=>by simp[Op.equalIn,run_underlying hu])
 ·cases hx;cases hy
  exact rq ht h (fun el hu w d=>by simp[Op.equalIn,run_underlying hu])
 ·cases hx;cases hy
  exact rq ht h (fun el hu w d=>by simp[Op.equalIn,run_underlying hu])
 ·cases hx;cases hy
  exact rq ht h (fun el hu w d=>by simp[Op.equalIn,run_underlying hu])
 ·rename_i b o b' o';split at h
  ·rename_i hb;obtain⟨rfl,rfl⟩:=hb;cases hx with
   | ptr h1=>
     cases hy with
     | ptr h2=>
       rw[h1]at h2;injection h2 with h2;subst h2;split at h
       ·rename_i el hu;split at h
        ·rename_i te he;split at h
         ·cases h
         ·rename_i hz;refine rq ht h (fun el' C0 w d=>?_);have dk:=xC ht hu;rw[C0]at dk;injection dk with dk;injection dk with dk;subst dk;simp[Op.equalIn,run_underlying C0,W0 (ht _ te he),hz,run_sameAddr_same]
        ·cases h
       ·cases h
  ·cases h
 ·cases h
def jz (G:Gh) (w w':World):Prop:=∀k b,G.bL k=some b->w'.heap[b]?=w.heap[b]?
theorem jz.refl (G:Gh) (w:World):jz G w w:=fun _ _ _=>rfl
theorem jz.alloc (h:WR G O w) (o:Obj):jz G w (w.alloc o):=fun k b hk=>by
 have:=(h.jI k b hk).2.1;rw[eY,if_neg (by omega)]
def gJ (P:Program) (s:Sem Value) (w:World) (G:Gh) (O':VH) (m:MV):Prop:=∃u w' H,s.run P w= .ok u w'/\Gh.Le G H/\WR H O' w'/\VR H m u/\jz G w w'
def HU (P:Program) (s:Sem Unit) (w:World) (G:Gh) (O':VH):Prop:=∃w' H,s.run P w= .ok () w'/\Gh.Le G H/\WR H O' w'
theorem gJ.of {s:Sem Value} {u:Value} (h:WR G O w) (hr:s.run P w= .ok u w) (hu:VR G m u):gJ P s w G O m:=⟨u,w,G,hr,Gh.Le.refl G,h,hu,jz.refl _ _⟩
def ad8 (P:Program) (s:Sem Value) (w:World) (G:Gh) (m:MV):Prop:=∃u,s.run P w= .ok u w/\VR G m u
theorem Re {t:TypeId} {i:cz} (h:wZ P t i) (w:World):∃ti,(typeInfo t).run P w= .ok ti w/\ti.size=i.size/\ti.bytes=i.bytes:=by
 obtain⟨ti,z,h1,h2,h3,_⟩:=h.info;exact⟨ti,by simp[typeInfo,h1],h2,h3⟩
theorem eZ {t:TypeId} {i:cz} (h:wZ P t i) (w:World):(sizeOf t).run P w= .ok i.size w:=by
 obtain⟨ti,h1,h2,_⟩:=Re h w;rw[sizeOf,Sem.run_bind,h1,Result.andThen_ok,Sem.run_pure,h2]
theorem nR {t:TypeId} {i:cz} (h:wZ P t i) (w:World):(isAgg t).run P w= .ok (eC i.under) w:=by
 rw[isAgg,Sem.run_bind,run_underlying h.under,Result.andThen_ok];cases i.under<;>rfl
theorem Gj {t:TypeId} {i:cz} (h:wZ P t i) (w:World):∃z,(zeroValue t).run P w= .ok z w/\z.cells.size=i.size/\∀G,aO G i.zero z.cells.toList:=by
 obtain⟨ti,z,h1,_,_,h4,h5,h6⟩:=h.info;exact⟨z,by simp[zeroValue,typeInfo,h1,h4],h5,h6⟩
def dI:MV->List MV
 | .agg cs=>cs
 | m=>[m]
def dJ:MV->Bool
 | .agg _ | .tuple _=>false
 | _=>true
theorem xD {u:Value} (h:VR G m u):aO G (dI m) u.cells.toList:=by
 cases h with
 | agg h1 h2=>exact⟨h1,h2⟩
 | v h1=>
   have:u.cells= #[u]:=by cases u<;>first | rfl | (simp[plain]at h1)
   rw[this];exact aO.cons (.v h1) aO.nil
 | str=>exact aO.cons .str aO.nil
 | ptr h1=>exact aO.cons (.ptr h1) aO.nil
 | c8 h1 h2 h3=>exact aO.cons (.c8 h1 h2 h3) aO.nil
 | slnil=>exact aO.cons .slnil aO.nil
 | nP h1=>exact aO.cons (.nP h1) aO.nil
 | jH=>exact aO.cons .jH aO.nil
 | sl h1 h2 h3 h4 h5 h6=>exact aO.cons (.sl h1 h2 h3 h4 h5 h6) aO.nil
 | bp h1 h2 h3=>exact aO.cons (.bp h1 h2 h3) aO.nil
 | map h1=>exact aO.cons (.map h1) aO.nil
 | func h1 h2 h3 h4=>exact aO.cons (.func h1 h2 h3 h4) aO.nil
 | iface h1=>exact aO.cons (.iface h1) aO.nil
 | tuple h1 h2=>exact aO.cons (.tuple h1 h2) aO.nil
theorem Gk {u:Value} (h:VR G m u) (hl:dJ m=true):u.oneCell'=true:=by
 cases h with
 | v h1=>cases u<;>first | rfl | (simp[plain]at h1)
 | agg h1 h2=>cases hl
 | tuple h1 h2=>cases hl
 | _=>rfl
theorem xE {cs:List MV} {us:List Value} (h:aO G cs us) (hl:cs.all dJ=true):∀u∈us,u.oneCell'=true:=by
 intro u hu;obtain⟨i,hi,rfl⟩:=List.mem_iff_getElem.1 hu;have hc:i<cs.length:=by rw[<-h.1];exact hi
 exact Gk (h.2 i cs[i] us[i] (List.getElem?_eq_getElem hc) (List.getElem?_eq_getElem hi)) (List.all_eq_true.1 hl _ (List.getElem_mem _))
def mK (agg:Bool) (size:Nat) (cs:List MV) (off:Nat):Option MV:=
 if agg then(if off+size<=cs.length then some (.agg ((cs.drop off).take size))else none)else cs[off]?
def cellsOf (O:VH):MV->Option (List MV×Nat)
 | .ptr k off=>match O.hp k with
   | some (.cells cs)=>some (cs,off)
   | _=>none
 | .c8 cs off=>some (cs,off)
 | _=>none
theorem JM (h:WR G O w) {u:Value} {cs:List MV} {off:Nat} (hx:VR G m u) (hc:cellsOf O m=some (cs,off)):
  ∃b o us,u= .pointer (some ⟨b,o+off,none⟩)/\aO G cs us/\∀i v,us[i]?=some v->w.cell? ⟨b,o+i,none⟩=some v:=by
 cases hx with
 | ptr h1=>
   rename_i k off' b;simp only[cellsOf]at hc;split at hc
   ·rename_i cs' hk;injection hc with hc;injection hc with e1 e2;subst e1;subst e2
    obtain⟨b',C,T,h2,h3,h4⟩:=h.cells k _ hk;rw[h1]at h2;injection h2 with h2;subst h2
    refine⟨b,0,_,by simp,h4,fun i v hv=>?_⟩;rw[List.getElem?_take]at hv;split at hv
    ·simp only[Nat.zero_add,World.cell?,h3,Option.isSome_none,Bool.false_eq_true,if_false];simpa using hv
    ·cases hv
   ·cases hc
 | c8 h1 h2 h3=>
   simp only[cellsOf,Option.some.injEq,Prod.mk.injEq]at hc;obtain⟨rfl,rfl⟩:=hc;exact⟨_,_,_,rfl,⟨h1,h3⟩,fun i v hv=>h.dX _ _ _ (h2 i v hv)⟩
 | _=>cases hc
def eQ (tab:b9) (O:VH) (t:TypeId) (m:MV):Option MV:=
 match tab t,cellsOf O m with
 | some i,some (cs,off)=>mK (eC i.under) i.size cs off
 | _,_=>none
def Sx (G:Gh) (w x:World):Prop:=SS G x/\jz G w x
theorem WR.sx (h:WR G O w):Sx G w w:=⟨h.ss,jz.refl _ _⟩
theorem Fp (h:WR G O w) {u:Value} {cs:List MV} {off:Nat} (hx:VR G m u) (hc:cellsOf O m=some (cs,off)):
  ∃b o us,u= .pointer (some ⟨b,o+off,none⟩)/\aO G cs us/\∀x,Sx G w x->∀i v,us[i]?=some v->x.cell? ⟨b,o+i,none⟩=some v:=by
 cases hx with
 | ptr h1=>
   rename_i k off' b;simp only[cellsOf]at hc;split at hc
   ·rename_i cs' hk;injection hc with hc;injection hc with e1 e2;subst e1;subst e2
    obtain⟨b',C,T,h2,h3,h4⟩:=h.cells k _ hk;rw[h1]at h2;injection h2 with h2;subst h2
    refine⟨b,0,_,by simp,h4,fun x hs i v hv=>?_⟩;have WX:=(hs.2 k b h1).trans h3;rw[List.getElem?_take]at hv;split at hv
    ·simp only[Nat.zero_add,World.cell?,WX,Option.isSome_none,Bool.false_eq_true,if_false];simpa using hv
    ·cases hv
   ·cases hc
 | c8 h1 h2 h3=>
   simp only[cellsOf,Option.some.injEq,Prod.mk.injEq]at hc;obtain⟨rfl,rfl⟩:=hc;exact⟨_,_,_,rfl,⟨h1,h3⟩,fun x hs i v hv=>hs.1 _ _ _ (h2 i v hv)⟩
 | _=>cases hc
theorem nS (ht:aK P tab) (h:WR G O w) {t:TypeId} {x m:MV} {u:Value} (hv:eQ tab O t x=some m) (hx:VR G x u):∃r,VR G m r/\∀y,Sx G w y->(Instr.loadAt t u).run P y= .ok r y:=by
 unfold eQ at hv;split at hv
 ·rename_i i cs off hi hc;have fh:=ht t i hi;obtain⟨b,o,us,rfl,nT,iQ⟩:=Fp h hx hc;simp only[Instr.loadAt,Instr.sureAddr,loadVar];unfold mK at hv;split at hv
  ·rename_i pe;split at hv
   ·rename_i hle;injection hv with hv;subst hv
    have Bu:=(nT.drop off).take i.size;have hlen:((us.drop off).take i.size).length=i.size:=by simp[nT.1];omega
    refine⟨_,.agg Bu.1 Bu.2,fun y hy=>?_⟩
    have sj:∀j v,((us.drop off).take i.size)[j]?=some v->y.cell? ((⟨b,o+off,none⟩:Addr).add j)=some v:=by
     intro j v hj;rw[Addr.add_lit,Nat.add_assoc];rw[List.getElem?_take]at hj;split at hj
     ·rw[List.getElem?_drop]at hj;exact iQ y hy _ v hj
     ·cases hj
    have xF:=run_loadCells_list (P:=P) y ⟨b,o+off,none⟩ _ sj;rw[hlen]at xF;simp[nR fh,pe,eZ fh,xF]
   ·cases hv
  ·rename_i pe;obtain⟨v,oP,Fq⟩:=nT.get hv;exact⟨v,Fq,fun y hy=>by simp[nR fh,pe,iQ y hy _ v oP]⟩
 ·cases hv
theorem C3 (ht:aK P tab) (h:WR G O w) {t:TypeId} {x m:MV} {u:Value} (hv:eQ tab O t x=some m) (hx:VR G x u):ad8 P (Instr.loadAt t u) w G m:=by
 obtain⟨r,h1,h2⟩:=nS (P:=P) ht h hv hx;exact⟨r,h2 w h.sx,h1⟩
theorem Gl (ht:aK P tab) (h:WR G O w) {t:TypeId} {x m:MV} {u:Value} (hv:eQ tab O t x=some m) (hx:VR G x u):gJ P (Instr.loadAt t u) w G O m:=by
 obtain⟨r,h1,h2⟩:=C3 (P:=P) ht h hv hx;exact gJ.of h h1 h2
theorem NL (ht:aK P tab) {t:TypeId} {cs:List MV} {off:Nat} {m:MV} {u:Value} (hv:eQ tab O t (.c8 cs off)=some m) (hx:VR G (.c8 cs off) u):aW P (Instr.loadAt t u) G m:=by
 unfold eQ at hv;split at hv
 ·rename_i i cs' off' hi hc;simp only[cellsOf,Option.some.injEq,Prod.mk.injEq]at hc;obtain⟨rfl,rfl⟩:=hc;have fh:=ht t i hi;cases hx with
  | c8 h1 h2 h3=>
    rename_i us b o;have nT:aO G cs us:=⟨h1,h3⟩;simp only[Instr.loadAt,Instr.sureAddr,loadVar];unfold mK at hv;split at hv
    ·rename_i pe;split at hv
     ·rename_i hle;injection hv with hv;subst hv
      have Bu:=(nT.drop off).take i.size;have hlen:((us.drop off).take i.size).length=i.size:=by simp[nT.1];omega
      have sj:∀w,SS G w->∀j v,((us.drop off).take i.size)[j]?=some v->w.cell? ((⟨b,o+off,none⟩:Addr).add j)=some v:=by
       intro w hw j v hj;rw[Addr.add_lit,Nat.add_assoc];rw[List.getElem?_take]at hj;split at hj
       ·rw[List.getElem?_drop]at hj;exact hw _ _ _ (h2 _ v hj)
       ·cases hj
      have xF:∀w,SS G w->(loadCells ⟨b,o+off,none⟩ i.size).run P w= .ok ((us.drop off).take i.size).toArray w:=fun w hw=>by
       have:=run_loadCells_list (P:=P) w ⟨b,o+off,none⟩ _ (sj w hw)
       rwa [hlen]at this
      exact aW.of (fun w hw=>by simp[nR fh,pe,eZ fh,xF w hw]) (.agg Bu.1 Bu.2)
     ·cases hv
    ·rename_i pe;obtain⟨v,oP,Fq⟩:=nT.get hv;exact aW.of (fun w hw=>by simp[nR fh,pe,hw _ _ _ (h2 _ v oP)]) Fq
 ·cases hv
def d_ (cs:List MV) (o:Nat):List MV->List MV
 | []=>cs
 | x::xs=>d_ (cs.set o x) (o+1) xs
theorem VH.set_set (O:VH) (k:Nat) (x y:b_):(O.set k x).set k y=O.set k y:=by
 simp only[VH.set,VH.mk.injEq,true_and]
 funext j
 simp only[br];cases Nat.beq j k<;>rfl
theorem VH.an (O:VH) (k:Nat) (x:b_):(O.set k x).hp k=some x:=aG _ _ _
theorem VH.vO {O:VH} {k:Nat} {x:b_} (h:O.hp k=some x):O.set k x=O:=by
 obtain⟨n,f⟩:=O;simp only[VH.set,VH.mk.injEq,true_and]
 funext j
 by_cases e:j=k
 ·subst e;rw[aG];exact h.symm
 ·exact aw _ _ e
theorem xG {k b:Nat} (hp:G.bL k=some b) (off:Nat):∀(xs:List MV) (us:List Value) (i:Nat) (cs:List MV) (O:VH) (w:World),WR G O w->O.hp k=some (.cells cs)->aO G xs us->xs.all dJ=true->off+i+xs.length<=cs.length->
  ∃w',(storeCells ⟨b,off,none⟩ us i).run P w= .ok () w'/\WR G (O.set k (.cells (d_ cs (off+i) xs))) w'
 | [],us,i,cs,O,w,h,hk,hx,_,_=>by
   rw[hx.fw];refine⟨w,rfl,?_⟩;simp only[d_];rw[VH.vO hk];exact h
 | x::xs,us,i,cs,O,w,h,hk,hx,hl,hle=>by
   obtain⟨u,S1,rfl,h1,h2⟩:=hx.cB;simp only[List.all_cons,Bool.and_eq_true]at hl;simp only[List.length_cons]at hle;have dB:=h.store (i:=off+i) hk hp (by omega) h1;obtain⟨w',hr,hw⟩:=xG hp off xs S1 (i+1) (cs.set (off+i) x) _ _ dB (VH.an _ _ _) h2 hl.2 (by simp;omega);refine⟨w',?_,?_⟩
   ·obtain⟨b',C,T,e1,e2,e3⟩:=h.cells k cs hk;rw[hp]at e1;injection e1 with e1;subst e1
    have hlen:off+i<C.size:=by have:=e3.1;simp at this;omega
    have iQ:w.cell? ⟨b,off+i,none⟩=some C[off+i]:=by
     simp only[World.cell?,e2,Option.isSome_none,Bool.false_eq_true,if_false,Array.getElem?_eq_getElem hlen]
    have aS:w.frozen? ⟨b,off+i,none⟩=false:=by
     obtain⟨t',⟨lo,hi⟩,cW⟩:=T;dsimp only at e2 cW;simp only[World.frozen?,e2,Bool.and_eq_false_imp,decide_eq_true_eq,decide_eq_false_iff_not];intro;omega
    rw[storeCells,Sem.run_bind]
    have:(store ((⟨b,off,none⟩:Addr).add i) u).run P w= .ok () (w.setCell ⟨b,off+i,none⟩ u):=by
     rw[Addr.add_lit,run_store P w _ _ _ (Gk h1 hl.1),iQ];simp[aS]
    rw[this,Result.andThen_ok];exact hr
   ·rw[VH.set_set]at hw;exact hw
def vP (tab:b9) (O:VH) (t:TypeId) (x y:MV):Option VH:=
 match tab t,x with
 | some i,.ptr k off=>match O.hp k with
   | some (.cells cs)=>if(dI y).length=i.size/\(dI y).all dJ=true/\off+i.size<=cs.length then some (O.set k (.cells (d_ cs off (dI y))))else none
   | _=>none
 | _,_=>none
theorem NM (ht:aK P tab) (h:WR G O w) {t:TypeId} {x y:MV} {u v:Value} (hv:vP tab O t x y=some O') (hx:VR G x u) (hy:VR G y v):HU P (Instr.storeAt t u v) w G O':=by
 unfold vP at hv;split at hv
 ·rename_i i k off hi;have fh:=ht t i hi;split at hv
  ·rename_i cs hk;split at hv
   ·rename_i hc;injection hv with hv;subst hv
    cases hx with
    | ptr h1=>
      have hm:=xD hy;obtain⟨w',hr,hw⟩:=xG (P:=P) h1 off (dI y) v.cells.toList 0 cs O w h hk hm hc.2.1 (by omega);refine⟨w',G,?_,Gh.Le.refl G,by simpa using hw⟩;have hs:v.cells.size=i.size:=by rw[<-Array.length_toList,hm.1];exact hc.1
      simp[Instr.storeAt,Instr.sureAddr,storeVar,eZ fh,hs,hr]
   ·cases hv
  ·cases hv
 ·cases hv
theorem abO (h:WR G O w) {cs:List MV} {C:Array Value} {t:TypeId} (hc:aO G cs C.toList):gJ P (do pure (Value.pointer (some (<-newRow t C)))) w G (O.push (.cells cs)) (.ptr O.next 0):=by
 obtain⟨h1,h2⟩:=h.push t hc;exact⟨_,_,_,by simp[newRow,newObj,Sem.run],h1,h2,.ptr (aG _ _ _),jz.alloc h _⟩
theorem W5 (h:WR G O w) {t:TypeId} {u:Value} (hu:VR G m u):gJ P (Instr.box t u) w G (O.push (.cells (dI m))) (.ptr O.next 0):=abO h (xD hu)
end
section
variable {G H:Gh} {n:Sz} {D:List Deferred} {e:Env} {a:Act} {P:Program} {tab:b9} {O O':VH} {w:World} {m m':MV} {u v:Value}
def uf (k:Nat):MV->Option MV
 | .ptr b off=>some (.ptr b (off+k))
 | .c8 cs off=>some (.c8 cs (off+k))
 | _=>none
theorem Gm {k:Nat} (h:VR G m u) (hm:uf k m=some m'):∃a:Addr,u= .pointer (some a)/\VR G m' (.pointer (some (a.add k))):=by
 cases h with
 | ptr h1=>
   injection hm with hm;subst hm
   exact⟨_,rfl,by rw[Addr.add_lit];exact .ptr h1⟩
 | c8 h1 h2 h3=>
   injection hm with hm;subst hm
   exact⟨_,rfl,by rw[Addr.add_lit,Nat.add_assoc];exact .c8 h1 h2 h3⟩
 | _=>cases hm
def jn (tab:b9) (t:TypeId) (f:Nat) (m:MV):Option MV:=
 match tab t with
 | some i=>match i.under with
   | .struct fs=>match fs[f]? with
     | some fd=>match tab fd.type with
       | some j=>if j.size=0 then none else uf fd.offset m
       | none=>none
     | none=>none
   | _=>none
 | none=>none
theorem C4 (ht:aK P tab) {t:TypeId} {f:Nat} (hv:jn tab t f m=some m') (hx:VR G m u):aW P (Instr.fieldAt t u f) G m':=by
 unfold jn at hv;split at hv
 ·rename_i i hi;split at hv
  ·rename_i fs hu;split at hv
   ·rename_i fd hf;split at hv
    ·rename_i j hj;split at hv
     ·cases hv
     ·rename_i hz;obtain⟨a,rfl,h2⟩:=Gm hx hv;have fh:=(ht t i hi).under;rw[hu]at fh;exact aW.of (fun w _=>by simp[Instr.fieldAt,run_underlying fh,hf,Instr.sureAddr,fieldPlace,eZ (ht _ j hj),hz]) h2
    ·cases hv
   ·cases hv
  ·cases hv
 ·cases hv
def mf (tab:b9) (t:TypeId) (m:MV) (ix:MV):Option MV:=
 match ix,tab t with
 | .v (.int _ i),some ti=>match ti.under,m with
   | .slice el,.sl n cells _=>match tab el with
     | some te=>if 0<=i/\i<(n:Int)then some (.c8 cells (i.toNat*te.size))else none
     | none=>none
   | .slice el,.bp k o n _=>match tab el with
     | some te=>if 0<=i/\i<(n:Int)then some (.ptr k (o+i.toNat*te.size))else none
     | none=>none
   | .array len el,x=>match tab el with
     | some te=>if 0<=i/\i<(len:Int)then uf (i.toNat*te.size) x else none
     | none=>none
   | _,_=>none
 | _,_=>none
theorem C6 (ht:aK P tab) {t:TypeId} {ix:MV} (hv:mf tab t m ix=some m') (hx:VR G m u) (hy:VR G ix v):aW P (Instr.indexAt t u v) G m':=by
 unfold mf at hv;split at hv
 ·rename_i k i ti hi;cases hy;have fh:=(ht t ti hi).under;split at hv
  ·rename_i el n' cells tk hu;rw[hu]at fh;split at hv
   ·rename_i te he;split at hv
    ·rename_i hb;injection hv with hv;subst hv
     cases hx with
     | slnil=>simp at hb;omega
     | nP h1=>simp at hb;omega
     | jH=>simp at hb;omega
     | sl h1 h2 h3 h4 h5 h6=>
       refine aW.of (u:=.pointer (some _)) (fun w _=>?_) (.c8 h1 h2 h3);simp[Instr.indexAt,asIntOf,run_underlying fh,hb.1,hb.2,eZ (ht _ te he),Addr.add_lit]
    ·cases hv
   ·cases hv
  ·rename_i el k' o n' c' hu;rw[hu]at fh;split at hv
   ·rename_i te he;split at hv
    ·rename_i hb;injection hv with hv;subst hv
     cases hx with
     | bp h1 h2 h3=>
       refine aW.of (u:=.pointer (some _)) (fun w _=>?_) (.ptr h1);simp[Instr.indexAt,asIntOf,run_underlying fh,hb.1,hb.2,eZ (ht _ te he),Addr.add_lit]
    ·cases hv
   ·cases hv
  ·rename_i len el hu;rw[hu]at fh;split at hv
   ·rename_i te he;split at hv
    ·rename_i hb;obtain⟨a,rfl,h2⟩:=Gm hx hv;refine aW.of (u:=.pointer (some _)) (fun w _=>?_) h2;simp[Instr.indexAt,asIntOf,run_underlying fh,Instr.sureAddr,hb.1,hb.2,eZ (ht _ te he)]
    ·cases hv
   ·cases hv
  ·cases hv
 ·cases hv
def Au (tab:b9) (t:TypeId) (cs:List MV) (off:Nat):Option MV:=
 match tab t with
 | some i=>mK (eC i.under) i.size cs off
 | none=>none
theorem vQ (ht:aK P tab) {t:TypeId} {cs:List MV} {us:List Value} {off:Nat} (hv:Au tab t cs off=some m) (hx:aO G cs us):∃r,(∀w,(part t us.toArray off).run P w= .ok r w)/\VR G m r:=by
 unfold Au at hv;split at hv
 ·rename_i i hi;have fh:=ht t i hi;unfold mK at hv;split at hv
  ·rename_i pe;split at hv
   ·injection hv with hv;subst hv
    have nT:=(hx.drop off).take i.size;refine⟨.agg ((us.drop off).take i.size).toArray,fun w=>?_,.agg nT.1 nT.2⟩;simp[part,nR fh,pe,eZ fh]
   ·cases hv
  ·rename_i pe;obtain⟨v,oP,Fq⟩:=hx.get hv;exact⟨v,fun w=>by simp[part,nR fh,pe,oP],Fq⟩
 ·cases hv
def vR (tab:b9) (t:TypeId) (x:MV) (f:Nat):Option MV:=
 match tab t,x with
 | some i,.agg cs=>match i.under with
   | .struct fs=>match fs[f]? with
     | some fd=>Au tab fd.type cs fd.offset
     | none=>none
   | _=>none
 | _,_=>none
theorem NN (ht:aK P tab) {t:TypeId} {f:Nat} (hv:vR tab t m f=some m') (hx:VR G m u):aW P (Instr.field t u f) G m':=by
 unfold vR at hv;split at hv
 ·rename_i i cs hi;split at hv
  ·rename_i fs hu;have fh:=(ht t i hi).under;rw[hu]at fh;split at hv
   ·rename_i fd hf;cases hx with
    | agg h1 h2=>
      obtain⟨r,h3,h4⟩:=vQ (P:=P) ht hv ⟨h1,h2⟩;exact aW.of (fun w _=>by simp[Instr.field,run_underlying fh,hf,asAgg,h3]) h4
   ·cases hv
  ·cases hv
 ·cases hv
def vS (tab:b9) (t:TypeId) (x ix:MV):Option MV:=
 match tab t,x,ix with
 | some i,.agg cs,.v (.int _ k)=>match i.under with
   | .array len el=>match tab el with
     | some te=>if 0<=k/\k<(len:Int)then Au tab el cs (k.toNat*te.size)else none
     | none=>none
   | _=>none
 | some i,.str l,.v (.int _ k)=>match i.under with
   | .string=>if 0<=k then(l[k.toNat]?).map fun b=>.v (.int .u8 b.toNat)else none
   | _=>none
 | _,_,_=>none
theorem NO (ht:aK P tab) {t:TypeId} {ix:MV} (hv:vS tab t m ix=some m') (hx:VR G m u) (hy:VR G ix v):aW P (Instr.index t u v) G m':=by
 unfold vS at hv;split at hv
 ·rename_i i cs kk k hi;cases hy;split at hv
  ·rename_i len el hu;have fh:=(ht t i hi).under;rw[hu]at fh;split at hv
   ·rename_i te he;split at hv
    ·rename_i hb;cases hx with
     | agg h1 h2=>
       obtain⟨r,h3,h4⟩:=vQ (P:=P) ht hv ⟨h1,h2⟩;exact aW.of (fun w _=>by simp[Instr.index,asIntOf,run_underlying fh,hb.1,hb.2,eZ (ht _ te he),h3]) h4
    ·cases hv
   ·cases hv
  ·cases hv
 ·rename_i i l kk k hi;cases hy;cases hx;split at hv
  ·rename_i hu;have fh:=(ht t i hi).under;rw[hu]at fh;split at hv
   ·rename_i hb;obtain⟨b,h1,h2⟩:=Option.map_eq_some_iff.1 hv;subst h2;refine aW.of (u:=.int .u8 b.toNat) (fun w _=>?_) (.v rfl)
    have hg:(⟨⟨l⟩⟩:ByteArray)[k.toNat]?=some b:=by
     obtain⟨eg,he⟩:=List.getElem?_eq_some_iff.1 h1;rw[getElem?_pos (⟨⟨l⟩⟩:ByteArray) k.toNat eg];exact congrArg some he
    simp[Instr.index,asIntOf,run_underlying fh,hb,hg]
   ·cases hv
  ·cases hv
 ·cases hv
def ru (x:MV) (i:Nat):Option MV:=
 match x with
 | .tuple vs=>vs[i]?
 | _=>none
theorem HV {i:Nat} (hv:ru m i=some m') (hx:VR G m u):aW P (Instr.extract u i) G m':=by
 unfold ru at hv;split at hv
 ·cases hx with
  | tuple h1 h2=>
    obtain⟨r,h3,h4⟩:=aO.get ⟨h1,h2⟩ hv;exact aW.of (fun w _=>by simp[Instr.extract,h3]) h4
 ·cases hv
end
section
variable {G H:Gh} {n:Sz} {D:List Deferred} {e:Env} {a:Act} {P:Program} {tab:b9} {O O':VH} {w:World} {m m' m2:MV} {u v:Value}
def lz (place:Nat->Option (Nat×Nat)) (cells:List MV):List (Nat×MV)->Option (List MV)
 | []=>some cells
 | (i,x)::rest=>match place i with
   | none=>none
   | some (off,size)=>if(dI x).length=size/\off+size<=cells.length then lz place (d_ cells off (dI x)) rest else none
theorem Bv {us:List Value}:∀(vs:List Value) (k off:Nat) (C:Array Value) (cs ms:List MV),aO G cs C.toList->aO G ms vs->
  aO G (d_ cs (off+k) ms) ((vs.zipIdx k).foldl (fun(a:Array Value) x=>a.setIfInBounds (off+x.2) x.1) C).toList
 | [],k,off,C,cs,ms,h,hm=>by
   have:ms=[]:=List.eq_nil_of_length_eq_zero hm.1.symm;subst this;exact h
 | v::vs,k,off,C,cs,ms,h,hm=>by
   cases ms with
   | nil=>have:=hm.1;simp at this
   | cons x xs=>
     simp only[List.zipIdx_cons,List.foldl_cons,d_];have h2:aO G (cs.set (off+k) x) (C.setIfInBounds (off+k) v).toList:=by rw[Array.toList_setIfInBounds];exact h.set hm.head
     exact Bv (us:=us) vs (k+1) off _ _ xs h2 hm.tail
theorem vT {place:Nat->Option (Nat×Nat)}:∀(parts:List (Nat×MV)) (ps:List (Nat×Value)) (cs:List MV) (C:Array Value) (ds:List MV),lz place cs parts=some ds->
  parts.map (·.1)=ps.map (·.1)->aO G (parts.map (·.2)) (ps.map (·.2))->aO G cs C.toList->∃E,Instr.fill place C ps=some E/\aO G ds E.toList
 | [],ps,cs,C,ds,h,h1,h2,h3=>by
   have:ps=[]:=by cases ps<;>simp_all
   subst this;injection h with h;subst h
   exact⟨C,rfl,h3⟩
 | (i,x)::parts,ps,cs,C,ds,h,h1,h2,h3=>by
   cases ps with
   | nil=>simp at h1
   | cons p ps=>
     obtain⟨j,y⟩:=p;simp only[List.map_cons,List.cons.injEq]at h1;obtain⟨rfl,h1⟩:=h1;simp only[List.map_cons]at h2;simp only[lz]at h;cases hp:place i with
     | none=>rw[hp]at h;cases h
     | some q=>
       obtain⟨off,size⟩:=q;rw[hp]at h;simp only at h;split at h
       ·rename_i hc;have hm:=xD h2.head;have hy:y.cells.size=size:=by rw[<-Array.length_toList,hm.1];exact hc.1
        have hC:C.size=cs.length:=by rw[<-Array.length_toList];exact h3.1
        have dB:=Bv (us:=[]) y.cells.toList 0 off C cs (dI x) h3 hm;obtain⟨E,h4,h5⟩:=vT parts ps _ _ ds h h1 h2.tail dB;refine⟨E,?_,h5⟩;simp only[Instr.fill,hp];rw[if_neg (by rw[hy,hC];simp;exact hc.2)];rw[<-h4]
        congr 1
        rw[<-Array.foldl_toList,Array.toList_zipIdx]
       ·cases h
def placesOf (tab:b9) (fs:Array Field):Option (List (Nat×Nat)):=fs.toList.mapM fun f=>(tab f.type).map fun i=>(f.offset,i.size)
theorem run_places (ht:aK P tab):∀(fs:List Field) (l:List (Nat×Nat)) (w:World),(fs.mapM fun f=>(tab f.type).map fun i=>(f.offset,i.size))=some l->
  (fs.mapM fun f=>(do pure (f.offset, <-sizeOf f.type):Sem (Nat×Nat))).run P w= .ok l w
 | [],l,w,h=>by simp at h;subst h;rfl
 | f::fs,l,w,h=>by
   simp only[List.mapM_cons,Option.bind_eq_bind,Option.bind_eq_some_iff]at h;obtain⟨x,h1,l',h2,h3⟩:=h;injection h3 with h3;subst h3
   obtain⟨i,hi,rfl⟩:=Option.map_eq_some_iff.1 h1;have ih:=run_places ht fs l' w h2;simp only[List.mapM_cons,Sem.run_bind,eZ (ht _ i hi),Result.andThen_ok,Sem.run_pure];rw[ih];rfl
def vU (tab:b9) (t:TypeId) (parts:List (Nat×MV)):Option MV:=
 match tab t with
 | some i=>match i.under with
   | .struct fs=>match placesOf tab fs with
     | some l=>(lz (l[·]?) i.zero parts).map .agg
     | none=>none
   | .array _ el=>match tab el with
     | some te=>(lz (fun k=>some (k*te.size,te.size)) i.zero parts).map .agg
     | none=>none
   | _=>none
 | none=>none
theorem NP (ht:aK P tab) {t:TypeId} {parts:List (Nat×MV)} {ps:Array (Nat×Value)} (hv:vU tab t parts=some m) (h1:parts.map (·.1)=ps.toList.map (·.1)) (h2:aO G (parts.map (·.2)) (ps.toList.map (·.2))):
  aW P (Instr.build t ps) G m:=by
 unfold vU at hv;split at hv
 ·rename_i i hi;have fh:=ht t i hi;obtain⟨ti,z,hz0,_,_,HW,sk,Fs⟩:=fh.info;have Cc:∀w,(zeroValue t).run P w= .ok z w:=fun w=>by simp[zeroValue,typeInfo,hz0,HW]
  split at hv
  ·rename_i fs hu;have eR:=fh.under;rw[hu]at eR;split at hv
   ·rename_i l hl;obtain⟨ds,h3,rfl⟩:=Option.map_eq_some_iff.1 hv;obtain⟨E,h4,h5⟩:=vT parts ps.toList i.zero z.cells ds h3 h1 h2 (Fs G);have hr:=fun w=>run_places ht fs.toList l w hl
    refine aW.of (u:=.agg E) (fun w _=>?_) (.agg h5.1 h5.2)
    have hr':(fs.mapM fun f=>(do pure (f.offset, <-sizeOf f.type):Sem (Nat×Nat))).run P w= .ok l.toArray w:=by
     rw[Array.mapM_eq_mapM_toList, <-bind_pure_comp,Sem.run_bind,hr];rfl
    simp only[Instr.build,Sem.run_bind,Cc,Result.andThen_ok,run_underlying eR,hr'];have:Instr.fill (fun x=>l.toArray[x]?) z.cells ps.toList=some E:=by rw[<-h4];congr 1;funext x;simp
    rw[this];rfl
   ·cases hv
  ·rename_i len el hu;have eR:=fh.under;rw[hu]at eR;split at hv
   ·rename_i te he;obtain⟨ds,h3,rfl⟩:=Option.map_eq_some_iff.1 hv;obtain⟨E,h4,h5⟩:=vT parts ps.toList i.zero z.cells ds h3 h1 h2 (Fs G);refine aW.of (u:=.agg E) (fun w _=>?_) (.agg h5.1 h5.2);simp only[Instr.build,Sem.run_bind,Cc,Result.andThen_ok,run_underlying eR,eZ (ht _ te he),h4];rfl
   ·cases hv
  ·cases hv
 ·cases hv
def gX (z:List MV) (n:Nat):List MV:=(List.range n).map fun i=>z.getD (i % z.length) (.tuple [])
theorem xH {z:List MV} {Z:Array Value} (h:aO G z Z.toList) (hz:0<z.length) (n:Nat):aO G (gX z n) ((Array.range n).map (fun i=>Z[i % Z.size]!)).toList:=by
 have hl:Z.size=z.length:=by rw[<-Array.length_toList];exact h.1
 refine⟨by simp[gX],fun i c u hc hu=>?_⟩;simp only[gX,List.getElem?_map,Option.map_eq_some_iff]at hc;obtain⟨j,hj,rfl⟩:=hc;simp only[Array.toList_map,Array.toList_range,List.getElem?_map,hj,Option.map_some,Option.some.injEq]at hu;have hm:j % z.length<z.length:=Nat.mod_lt _ hz;have hm':j % Z.size<Z.size:=by rw[hl];exact hm
 refine h.2 (j % z.length) _ u ?_ ?_
 ·rw[List.getElem?_eq_getElem hm,List.getD_eq_getElem?_getD,List.getElem?_eq_getElem hm];rfl
 ·rw[<-hu, <-hl,Array.getElem?_toList,Array.getElem?_eq_getElem hm',getElem!_pos Z _ hm']
def kP (tab:b9) (t:TypeId) (len:Nat) (parts:List (Nat×MV)):Option MV:=
 match(tab t).map cz.under with
 | some (.slice el)=>match tab el with
   | some te=>if 0<len*te.size/\len*te.size<=16777216/\0<te.zero.length/\len<=maxLen then
     (lz (fun k=>some (k*te.size,te.size)) (gX te.zero (len*te.size)) parts).map fun cs=>.sl len cs .full
     else if len=0/\parts=[]then some (.sl 0 [] .full)else none
   | none=>none
 | _=>none
theorem td (ht:aK P tab) (h:WR G O w) {t:TypeId} {len:Nat} {parts:List (Nat×MV)} {ps:Array (Nat×Value)} (hv:kP tab t len parts=some m) (h1:parts.map (·.1)=ps.toList.map (·.1)) (h2:aO G (parts.map (·.2)) (ps.toList.map (·.2))):
  gJ P (Instr.buildSlice t len ps) w G O m:=by
 unfold kP at hv;split at hv
 ·rename_i el hu;obtain⟨i,hi,hu⟩:=Option.map_eq_some_iff.1 hu;have eR:=(ht t i hi).under;rw[hu]at eR;split at hv
  ·rename_i te he;have ni:=ht el te he;obtain⟨z,Cc,sk,Fs⟩:=Gj ni w
   have fin:∀(C:Array Value) (cs:List MV),aO G cs C.toList->len<=maxLen->gJ P (do pure (Value.slice (some (<-newRow el C)) len len)) w G O (.sl len cs .full):=fun C cs hc hl=>by
    obtain⟨h3,h4⟩:=h.lit C el;refine⟨.slice (some ⟨w.heap.size,0,none⟩) len len,w.alloc (.cells C el),_,by simp[newRow,newObj,Sem.run],h3,h4,?_,jz.alloc h _⟩;refine .sl (us:=C.toList) hc.1 (fun i u hu=>?_) (fun i c u a b=>(hc.2 i c u a b).mono h3) (Nat.le_refl _) hl rfl;show(if w.heap.size=w.heap.size then C[0+i]? else _)=some u;rw[if_pos rfl,Nat.zero_add];simpa using hu
   split at hv
   ·rename_i hc;obtain⟨cs,h3,rfl⟩:=Option.map_eq_some_iff.1 hv;obtain⟨E,h4,h5⟩:=vT parts ps.toList _ _ cs h3 h1 h2 (xH (Fs G) hc.2.2.1 (len*te.size));have hne:¬(len*te.size=0):=by omega
    have hng:¬(len*te.size>16777216):=by omega
    obtain⟨u,w',H,hr,r⟩:=fin E cs h5 hc.2.2.2;refine⟨u,w',H,?_,r⟩;rw[<-hr];simp[Instr.buildSlice,run_underlying eR,eZ ni,hne,hng,Cc,h4]
   ·split at hv
    ·rename_i hc;injection hv with hv;subst hv
     obtain⟨rfl,rfl⟩:=hc
     have hps:ps.toList=[]:=by
      have:=h1.symm;simpa using this
     obtain⟨u,w',H,hr,r⟩:=fin #[] [] aO.nil (Nat.zero_le _);refine⟨u,w',H,?_,r⟩;rw[<-hr];simp[Instr.buildSlice,run_underlying eR,eZ ni,hps,Instr.fill];rw[show Array.range 0= #[]from Array.eq_empty_of_size_eq_zero (by simp),Array.map_empty]
    ·cases hv
  ·cases hv
 ·cases hv
def jJ (tab:b9) (t:TypeId) (x:MV):Option MV:=
 match(tab t).map cz.under,x with
 | some .string,.str l=>some (.v (.int .i64 l.length))
 | some (.slice _),.sl n _ _=>some (.v (.int .i64 n))
 | some (.slice _),.bp _ _ n _=>some (.v (.int .i64 n))
 | some (.map _ _),.v (.map none)=>some (.v (.int .i64 0))
 | some (.array n _),_=>some (.v (.int .i64 n))
 | _,_=>none
theorem W6 (ht:aK P tab) {t ty:TypeId} (hv:jJ tab t m=some m') (hx:VR G m u):aW P (Builtin.len_ #[t] ty #[u]) G m':=by
 unfold jJ at hv
 have un:∀d,(tab t).map cz.under=some d->P.underlying t=some d:=fun d hd=>by
  obtain⟨i,hi,hu⟩:=Option.map_eq_some_iff.1 hd;rw[<-hu];exact(ht t i hi).under
 split at hv
 ·injection hv with hv;subst hv
  cases hx;exact aW.of (u:=.int .i64 _) (fun w _=>by simp[Builtin.len_,run_underlying (un _ ‹_›),goInt];rfl) (.v rfl)
 ·injection hv with hv;subst hv
  cases hx<;>exact aW.of (u:=.int .i64 _) (fun w _=>by simp[Builtin.len_,run_underlying (un _ ‹_›),goInt];try rfl) (.v rfl)
 ·injection hv with hv;subst hv
  cases hx;exact aW.of (u:=.int .i64 _) (fun w _=>by simp[Builtin.len_,run_underlying (un _ ‹_›),goInt];try rfl) (.v rfl)
 ·injection hv with hv;subst hv
  cases hx;exact aW.of (u:=.int .i64 _) (fun w _=>by simp[Builtin.len_,run_underlying (un _ ‹_›),goInt];try rfl) (.v rfl)
 ·injection hv with hv;subst hv
  exact aW.of (u:=.int .i64 _) (fun w _=>by simp[Builtin.len_,run_underlying (un _ ‹_›),goInt];try rfl) (.v rfl)
 ·cases hv
def pf (tab:b9) (O:VH) (t:TypeId) (x:MV):Option MV:=
 match(tab t).map cz.under,x with
 | some (.map _ _),.map k=>match O.hp k with
   | some (.map es _)=>some (.v (.int .i64 es.length))
   | _=>none
 | _,_=>none
theorem JN (ht:aK P tab) (h:WR G O w) {t ty:TypeId} (hv:pf tab O t m=some m') (hx:VR G m u):gJ P (Builtin.len_ #[t] ty #[u]) w G O m':=by
 unfold pf at hv
 have un:∀d,(tab t).map cz.under=some d->P.underlying t=some d:=fun d hd=>by
  obtain⟨i,hi,hu⟩:=Option.map_eq_some_iff.1 hd;rw[<-hu];exact(ht t i hi).under
 split at hv
 ·split at hv
  ·rename_i k es ck hk;injection hv with hv;subst hv
   cases hx with
   | map h1=>
     obtain⟨b,E,e1,e2,e3,_⟩:=h.map _ _ _ hk;rw[h1]at e1;injection e1 with e1;subst e1
     have hl:E.size=es.length:=by
      have:=congrArg List.length e3;simpa using this
     refine gJ.of h (u:=.int .i64 es.length) ?_ (.v rfl);simp[Builtin.len_,run_underlying (un _ ‹_›),goInt,getObj,Sem.run,e2,hl]
  ·cases hv
 ·cases hv
def Av (x y:MV):Option MV:=
 match x,y with
 | .v (.int k a),.v (.int _ b)=>some (.v (.int k (if b>a then b else a)))
 | _,_=>none
def Aw (x y:MV):Option MV:=
 match x,y with
 | .v (.int k a),.v (.int _ b)=>some (.v (.int k (if b<a then b else a)))
 | _,_=>none
theorem S5 (hv:Av m m'=some m2) (hx:VR G m u) (hy:VR G m' v) {ts:Array TypeId} {ty:TypeId}:aW P (Builtin.max_ ts ty #[u,v]) G m2:=by
 unfold Av at hv;split at hv
 ·injection hv with hv;subst hv;cases hx;cases hy
  exact aW.of (u:=.int _ _) (fun w _=>by simp[Builtin.max_,Builtin.max2]) (.v rfl)
 ·cases hv
theorem S6 (hv:Aw m m'=some m2) (hx:VR G m u) (hy:VR G m' v) {ts:Array TypeId} {ty:TypeId}:aW P (Builtin.min_ ts ty #[u,v]) G m2:=by
 unfold Aw at hv;split at hv
 ·injection hv with hv;subst hv;cases hx;cases hy
  exact aW.of (u:=.int _ _) (fun w _=>by simp[Builtin.min_,Builtin.min2]) (.v rfl)
 ·cases hv
def vV (op:UnOp) (x:MV):Option MV:=
 match op,x with
 | .neg,.v (.int k a)=>some (.v (.int k (k.wrap (0 - a))))
 | .not,.v (.bool b)=>some (.v (.bool !b))
 | _,_=>none
theorem NQ {op:UnOp} (hv:vV op m=some m') (hx:VR G m u):aW P (Op.unary op u) G m':=by
 unfold vV at hv;split at hv
 ·injection hv with hv;subst hv;cases hx
  exact aW.of (u:=.int _ _) (fun w _=>by simp[Op.unary,Op.intArith]) (.v rfl)
 ·injection hv with hv;subst hv;cases hx
  exact aW.of (u:=.bool _) (fun w _=>by simp[Op.unary]) (.v rfl)
 ·cases hv
end
section
variable {G H:Gh} {n:Sz} {D:List Deferred} {e:Env} {a:Act} {P:Program} {tab:b9} {O O':VH} {w:World} {m m':MV} {u v:Value}
def c7 (d:Nat):Option MV->Option Nat
 | none=>some d
 | some (.v (.int _ i))=>if 0<=i then some i.toNat else none
 | _=>none
theorem mM {d k:Nat} {x:MV} (h:c7 d (some x)=some k) (hx:VR G x u):∃kk,u= .int kk (k:Int):=by
 unfold c7 at h;split at h
 ·rename_i hh;cases hh
 ·rename_i kk i hh;injection hh with hh;subst hh
  cases hx;split at h
  ·injection h with h;exact⟨kk,by rw[<-h];congr 1;omega⟩
  ·cases h
 ·cases h
def HX (G:Gh):Option MV->Option Value->Prop
 | none,none=>True
 | some m,some u=>VR G m u
 | _,_=>False
theorem ug (isS:Bool) (len cap lo hi:Nat) {l h:Option MV} {lv hv:Option Value} (hl:c7 0 l=some lo) (hh:c7 len h=some hi) (rl:HX G l lv) (rh:HX G h hv) (h1:lo<=hi) (h2:hi<=cap):
  ∀w,(Instr.sliceBounds isS len cap lv hv none).run P w= .ok (lo,hi,cap) w:=by
 intro w;cases l<;>cases lv<;>simp only[HX]at rl<;>cases h<;>cases hv<;>simp only[HX]at rh
 ·simp only[c7,Option.some.injEq]at hl hh;subst hl;subst hh;simp[Instr.sliceBounds]
 ·obtain⟨k,rfl⟩:=mM hh rh;simp only[c7,Option.some.injEq]at hl;subst hl
  have:=run_sliceBound (P:=P) w k (hi:Int) cap (if isS then .sliceAcap else .sliceAlen) (by omega) (by omega);simp[Instr.sliceBounds,this]
 ·obtain⟨k,rfl⟩:=mM hl rl;simp only[c7,Option.some.injEq]at hh;subst hh
  have:=run_sliceBound (P:=P) w k (lo:Int) len .sliceB (by omega) (by omega);simp[Instr.sliceBounds,this]
 ·obtain⟨k,rfl⟩:=mM hl rl;obtain⟨k',rfl⟩:=mM hh rh;have h3:=run_sliceBound (P:=P) w k (lo:Int) hi .sliceB (by omega) (by omega);have h4:=run_sliceBound (P:=P) w k' (hi:Int) cap (if isS then .sliceAcap else .sliceAlen) (by omega) (by omega);simp[Instr.sliceBounds,h3,h4]
def qs (t:Tok) (sz:Nat) (whole:Bool):Tok:=if whole then(match t with
 | .full=>.full
 | .own t k=>if k=sz then .own t k else .aq
 | _=>.aq)else .aq
def vW (tab:b9) (t:TypeId) (x:MV) (l h:Option MV):Option MV:=
 match(tab t).map cz.under,x with
 | some .string,.str s=>match c7 0 l,c7 s.length h with
   | some lo,some hi=>if lo<=hi/\hi<=s.length then some (.str ((s.drop lo).take (hi - lo)))else none
   | _,_=>none
 | some (.slice el),.sl n cells tk=>match tab el,c7 0 l,c7 n h with
   | some te,some lo,some hi=>
     if lo=0/\hi=n then some (.sl n cells tk)
     else if lo<=hi/\hi<=n/\cells.length=n*te.size then some (.sl (hi - lo) ((cells.drop (lo*te.size)).take ((hi - lo)*te.size)) (qs tk te.size (hi==n)))else none
   | _,_,_=>none
 | some (.slice el),.bp k o n c=>match tab el,c7 0 l,c7 n h with
   | some te,some lo,some hi=>if lo<=hi/\hi<=c then some (.bp k (if c=lo then o else o+lo*te.size) (hi - lo) (c - lo))else none
   | _,_,_=>none
 | _,_=>none
theorem bB (ht:aK P tab) {t:TypeId} {d:TypeDesc} (h:(tab t).map cz.under=some d):P.underlying t=some d:=by
 obtain⟨i,hi,hu⟩:=Option.map_eq_some_iff.1 h;rw[<-hu];exact(ht t i hi).under
theorem NR (ht:aK P tab) {t:TypeId} {l hh:Option MV} {lv NS:Option Value} (hv:vW tab t m l hh=some m') (hx:VR G m u) (rl:HX G l lv) (rh:HX G hh NS):
  aW P (Instr.sliceAt t u lv NS none) G m':=by
 unfold vW at hv;split at hv
 ·rename_i s hu;have eR:=bB ht hu;split at hv
  ·rename_i lo hi h1 h2;split at hv
   ·rename_i hc;injection hv with hv;subst hv
    cases hx;refine aW.of (u:=.string ⟨⟨(s.drop lo).take (hi - lo)⟩⟩) (fun w _=>?_) .str;have hb:=ug (P:=P) false s.length s.length lo hi h1 h2 rl rh hc.1 hc.2;have hs:(⟨⟨s⟩⟩:ByteArray).size=s.length:=rfl;simp only[Instr.sliceAt,Instr.slice,Sem.run_bind,run_underlying eR,Result.andThen_ok,hs,hb,Option.isSome_none,Bool.false_eq_true,if_false,Sem.run_pure];have:(⟨⟨s⟩⟩:ByteArray).extract lo hi=⟨⟨(s.drop lo).take (hi - lo)⟩⟩:=ByteArray.ext (by simp[ByteArray.data_extract]);rw[this]
   ·cases hv
  ·cases hv
 ·rename_i el n' cells tk hu;have eR:=bB ht hu;split at hv
  ·rename_i te lo hi he h1 h2
   have run:∀(A:Option Addr) (c:Nat),lo<=hi->hi<=c->∀w,(Instr.sliceAt t (.slice A n' c) lv NS none).run P w= .ok (.slice (if c=lo then A else A.map (·.add (lo*te.size))) (hi - lo) (c - lo)) w:=fun A c h3 h4 w=>by
    have hb:=ug (P:=P) true n' c lo hi h1 h2 rl rh h3 h4;simp only[Instr.sliceAt,Instr.slice,Sem.run_bind,run_underlying eR,Result.andThen_ok,hb,eZ (ht _ te he),Sem.run_pure]
   split at hv
   ·rename_i hc;injection hv with hv;subst hv
    obtain⟨rfl,rfl⟩:=hc
    have fin:∀(A:Option Addr) (c:Nat),hi<=c->VR G (.sl hi cells tk) (.slice A hi c)->aW P (Instr.sliceAt t (.slice A hi c) lv NS none) G (.sl hi cells tk):=fun A c hc W7=>by
     refine aW.of (fun w _=>run A c (Nat.zero_le _) hc w) ?_
     have:(if c=0 then A else A.map (·.add (0*te.size)))=A:=by
      split
      ·rfl
      ·cases A<;>simp[Addr.add]
     rw[this];simpa using W7
    cases hx with
    | slnil=>exact fin _ _ (Nat.le_refl _) .slnil
    | nP h3=>exact fin _ _ (Nat.zero_le _) (.nP h3)
    | jH=>exact fin _ _ (Nat.le_refl _) .jH
    | sl h3 h4 h5 h6 h7 h8=>exact fin _ _ h6 (.sl h3 h4 h5 h6 h7 h8)
   ·split at hv
    ·rename_i hne hc;injection hv with hv;subst hv
     cases hx with
     | slnil=>exact absurd ⟨by omega,by omega⟩ hne
     | nP h3=>exact absurd ⟨by omega,by omega⟩ hne
     | jH=>exact absurd ⟨by omega,by omega⟩ hne
     | sl h3 h4 h5 h6 h7 h8=>
       rename_i us c b o;refine aW.of (fun w _=>run _ c hc.1 (by omega) w) ?_;have iu:((us.drop (lo*te.size)).take ((hi - lo)*te.size)).length=((cells.drop (lo*te.size)).take ((hi - lo)*te.size)).length:=by simp[h3]
       have ahh:∀(i:Nat) (c:MV) (u:Value),((cells.drop (lo*te.size)).take ((hi - lo)*te.size))[i]?=some c->((us.drop (lo*te.size)).take ((hi - lo)*te.size))[i]?=some u->VR G c u:=fun i c u ha hb=>by
        rw[List.getElem?_take]at ha hb;split at ha
        ·rw[if_pos ‹_›]at hb;rw[List.getElem?_drop]at ha hb;exact h5 _ c u ha hb
        ·cases ha
       by_cases mO:c=lo
       ·subst mO;obtain rfl:hi=c:=by omega
        rw[if_pos rfl];simp only[Nat.sub_self,Nat.zero_mul,List.take_zero];refine .sl (us:=[]) rfl (fun i u hu=>by simp at hu) (fun i c u hu=>by simp at hu) (Nat.le_refl _) (Nat.zero_le _) ?_;unfold qs;split
        ·cases tk with
         | nil=>exact h8.elim
         | full=>rfl
         | own t k=>
           simp only;split
           ·exact .inl rfl
           ·trivial
         | aq=>trivial
        ·trivial
       ·rw[if_neg mO];simp only[Option.map_some,Addr.add_lit];refine .sl iu (fun i u hu=>?_) ahh (by omega) (by omega) ?_
        ·rw[List.getElem?_take]at hu;split at hu
         ·rw[List.getElem?_drop]at hu;rw[Nat.add_assoc];exact h4 _ u hu
         ·cases hu
        ·unfold qs;split
         ·rename_i hw;have hw:hi=n':=by simpa using hw
          subst hw;have hmul:(hi - lo)*te.size=cells.length - lo*te.size:=by rw[hc.2.2,Nat.sub_mul]
          have qP:((cells.drop (lo*te.size)).take ((hi - lo)*te.size)).length=(hi - lo)*te.size:=by simp;omega
          have hle:lo*te.size<=hi*te.size:=Nat.mul_le_mul_right _ hc.1;cases tk with
          | nil=>exact h8.elim
          | full=>show c - lo=hi - lo;have:c=hi:=h8;omega
          | own t k=>
            simp only;split
            ·rename_i hk;subst hk;rcases h8 with h8 | ⟨r,h9,xI,h11⟩
             ·exact .inl (by omega)
             ·refine .inr ⟨r,?_,qP,by omega⟩;rw[h9,qP];congr 2;congr 1
              omega
            ·trivial
          | aq=>trivial
         ·trivial
    ·cases hv
  ·cases hv
 ·rename_i el k o n' c hu;have eR:=bB ht hu;split at hv
  ·rename_i te lo hi he h1 h2;split at hv
   ·rename_i hc;injection hv with hv;subst hv
    cases hx with
    | bp h3 h4 h5=>
      rename_i b;have hb:=ug (P:=P) true n' c lo hi h1 h2 rl rh hc.1 (by omega);refine aW.of (u:=.slice (if c=lo then some ⟨b,o,none⟩else(some (⟨b,o,none⟩:Addr)).map (·.add (lo*te.size))) (hi - lo) (c - lo)) (fun w _=>?_) ?_
      ·simp only[Instr.sliceAt,Instr.slice,Sem.run_bind,run_underlying eR,Result.andThen_ok,hb,eZ (ht _ te he),Sem.run_pure]
      ·split
       ·exact .bp h3 (by omega) (by omega)
       ·simp only[Option.map_some,Addr.add_lit];exact .bp h3 (by omega) (by omega)
   ·cases hv
  ·cases hv
 ·cases hv
def W8:Tok->Tok
 | .nil=>.nil
 | _=>.aq
def ry (tab:b9) (t:TypeId) (x:MV) (l:Option MV) (h mx:MV):Option MV:=
 match(tab t).map cz.under,h,mx with
 | some (.slice el),.v (.int _ hi),.v (.int _ m)=>match tab el,c7 0 l with
   | some te,some lo=>if 0<=hi/\0<=m/\lo<=hi.toNat/\hi.toNat<=m.toNat then(match x with
     | .bp k o _ c=>if m.toNat<=c then some (.bp k (if m.toNat=lo then o else o+lo*te.size) (hi.toNat - lo) (m.toNat - lo))else none
     | .sl n cells tk=>if m.toNat<=n/\cells.length=n*te.size then(if n=0 then some (.sl 0 [] (W8 tk))else if m.toNat=lo then some (.sl 0 [] .full)else some (.sl (hi.toNat - lo) ((cells.drop (lo*te.size)).take ((hi.toNat - lo)*te.size)) (if m.toNat=hi.toNat then .full else .aq)))else none
     | _=>none)else none
   | _,_=>none
 | _,_,_=>none
theorem JO (ht:aK P tab) {t:TypeId} {l:Option MV} {hh mx:MV} {lv:Option Value} {NS mv:Value} (hv:ry tab t m l hh mx=some m') (hx:VR G m u) (rl:HX G l lv) (rh:VR G hh NS) (rm:VR G mx mv):
  aW P (Instr.sliceAt t u lv (some NS) (some mv)) G m':=by
 unfold ry at hv;split at hv
 ·rename_i el k1 hi k2 mi hu;have eR:=bB ht hu;cases rh;cases rm
  split at hv
  ·rename_i te lo he h1;split at hv
   ·rename_i hc;obtain⟨c1,c2,c3,c4⟩:=hc
    have wN:lv=none/\lo=0\/∃kk,lv=some (.int kk (lo:Int)):=by
     cases l<;>cases lv<;>simp only[HX]at rl
     ·simp only[c7,Option.some.injEq]at h1;exact .inl ⟨rfl,h1.symm⟩
     ·obtain⟨kk,rfl⟩:=mM h1 rl;exact .inr ⟨kk,rfl⟩
    have run:∀(A:Option Addr) (n' c:Nat),mi.toNat<=c->∀w,(Instr.sliceAt t (.slice A n' c) lv (some (.int k1 hi)) (some (.int k2 mi))).run P w= .ok (.slice (if mi.toNat=lo then A else A.map (·.add (lo*te.size))) (hi.toNat - lo) (mi.toNat - lo)) w:=fun A n' c h3 w=>by
     have e1:=run_sliceBound (P:=P) w k2 mi c .slice3Acap c2 (by omega);have e2:=run_sliceBound (P:=P) w k1 hi mi.toNat .slice3B c1 (by omega)
     have hb:(Instr.sliceBounds true n' c lv (some (.int k1 hi)) (some (.int k2 mi))).run P w= .ok (lo,hi.toNat,mi.toNat) w:=by
      rcases wN with⟨rfl,rfl⟩ | ⟨kk,rfl⟩
      ·simp[Instr.sliceBounds,e1,e2]
      ·have e3:=run_sliceBound (P:=P) w kk (lo:Int) hi.toNat .slice3C (by omega) (by omega);simp[Instr.sliceBounds,e1,e2,e3]
     simp only[Instr.sliceAt,Instr.slice,Sem.run_bind,run_underlying eR,Result.andThen_ok,hb,eZ (ht _ te he),Sem.run_pure]
    split at hv
    ·rename_i k o n' c;split at hv
     ·rename_i S7;injection hv with hv;subst hv
      cases hx with
      | bp h3 h4 h5=>
        rename_i b;refine aW.of (fun w _=>run _ n' c S7 w) ?_;split
        ·exact .bp h3 (by omega) (by omega)
        ·simp only[Option.map_some,Addr.add_lit];exact .bp h3 (by omega) (by omega)
     ·cases hv
    ·rename_i n' cells tk;split at hv
     ·rename_i S7;split at hv
      ·rename_i hn;subst hn;injection hv with hv;subst hv
       have e0:mi.toNat=0:=by omega
       have e1:hi.toNat=0:=by omega
       have e2:lo=0:=by omega
       have fin:∀A c,VR G (.sl 0 [] (W8 tk)) (.slice A 0 0)->aW P (Instr.sliceAt t (.slice A 0 c) lv (some (.int k1 hi)) (some (.int k2 mi))) G (.sl 0 [] (W8 tk)):=fun A c hr=>by
        refine aW.of (u:=.slice A 0 0) (fun w _=>?_) hr;rw[run A 0 c (by omega) w,e0,e1,e2];simp
       cases hx with
       | slnil=>exact fin _ _ .slnil
       | nP h3=>exact fin _ _ (.nP (Nat.zero_le _))
       | jH=>exact fin _ _ .jH
       | sl h3 h4 h5 h6 h7 h8=>
         cases tk with
         | nil=>exact h8.elim
         | _=>exact fin _ _ (.nP (Nat.zero_le _))
      ·rename_i hn;split at hv
       ·rename_i Ax;injection hv with hv;subst hv
        cases hx with
        | slnil=>exact absurd rfl hn
        | nP h3=>exact absurd rfl hn
        | jH=>exact absurd rfl hn
        | sl h3 h4 h5 h6 h7 h8=>
          refine aW.of (fun w _=>run _ n' _ (by omega) w) ?_;rw[if_pos Ax,show hi.toNat - lo=0 by omega,show mi.toNat - lo=0 by omega];exact .sl (us:=[]) rfl (fun i u h=>by simp at h) (fun i c u h=>by simp at h) (Nat.le_refl _) (Nat.zero_le _) rfl
       ·rename_i Ax;injection hv with hv;subst hv
        cases hx with
        | slnil=>exact absurd rfl hn
        | nP h3=>exact absurd rfl hn
        | jH=>exact absurd rfl hn
        | sl h3 h4 h5 h6 h7 h8=>
          rename_i us c b o;refine aW.of (fun w _=>run _ n' c (by omega) w) ?_;rw[if_neg Ax];simp only[Option.map_some,Addr.add_lit];refine .sl (us:=(us.drop (lo*te.size)).take ((hi.toNat - lo)*te.size)) (by simp[h3]) (fun i u hu=>?_) (fun i c u ha hb=>?_) (by omega) (by omega) ?_
          ·rw[List.getElem?_take]at hu;split at hu
           ·rw[List.getElem?_drop]at hu;rw[Nat.add_assoc];exact h4 _ u hu
           ·cases hu
          ·rw[List.getElem?_take]at ha hb;split at ha
           ·rw[if_pos ‹_›]at hb;rw[List.getElem?_drop]at ha hb;exact h5 _ c u ha hb
           ·cases ha
          ·split
           ·rename_i e;show mi.toNat - lo=hi.toNat - lo;rw[e]
           ·trivial
     ·cases hv
    ·cases hv
   ·cases hv
  ·cases hv
 ·cases hv
def mg (tab:b9) (O:VH) (t:TypeId) (l c:MV):Option (MV×VH):=
 match(tab t).map cz.under,l,c with
 | some (.slice el),.v (.int _ i),.v (.int _ j)=>match tab el with
   | some te=>if 0<=i/\i<=j/\j<=9223372036854775807/\te.bytes*j<=281474976710656/\0<te.zero.length then some (.bp O.next 0 i.toNat j.toNat,O.push (.cells (gX te.zero (j.toNat*te.size))))else none
   | none=>none
 | _,_,_=>none
theorem C7 (ht:aK P tab) (h:WR G O w) {t:TypeId} {l c:MV} {lv cv:Value} (hv:mg tab O t l c=some (m,O')) (hl:VR G l lv) (hc:VR G c cv):gJ P (Instr.makeSlice t lv cv) w G O' m:=by
 unfold mg at hv;split at hv
 ·rename_i el k i k' j hu;cases hl;cases hc
  have eR:=bB ht hu;split at hv
  ·rename_i te he;split at hv
   ·rename_i hb;injection hv with hv;simp only[Prod.mk.injEq]at hv;obtain⟨rfl,rfl⟩:=hv;have ni:=ht _ te he;obtain⟨ti,z,h1,h2,h3,h4,h5,h6⟩:=ni.info;have hr:=run_make (P:=P) w t el ti z eR h1 h4 k k' i j hb.1 hb.2.1 (by rw[h3];exact hb.2.2.2.1) hb.2.2.1;rw[h2]at hr;have hz:=xH (h6 G) hb.2.2.2.2 (j.toNat*te.size);obtain⟨h7,h8⟩:=h.push el hz;exact⟨_,_,_,hr,h7,h8,.bp (aG _ _ _) (by omega) (by simp only[maxLen];omega),jz.alloc h _⟩
   ·cases hv
  ·cases hv
 ·cases hv
def gY (tab:b9) (O:VH) (t:TypeId) (x y:MV):Option (MV×VH):=
 match(tab t).map cz.under,y with
 | some (.slice el),.sl k ds _=>match tab el,x with
   | some te,.sl n cells tk=>
     if ds.length=k*te.size/\ds.all dJ=true/\0<te.size then
      if k=0 then some (.sl n cells tk,O)
      else if cells.length=n*te.size/\(n+k)*te.bytes<=140737488355328/\n+k<=maxLen then
       match tk with
       | .nil=>some (.sl (n+k) (cells++ds) (.own O.next te.size),O.push .tok)
       | .full=>some (.sl (n+k) (cells++ds) (.own O.next te.size),O.push .tok)
       | .own s k'=>if k'=te.size then match O.hp s with
         | some .tok=>some (.sl (n+k) (cells++ds) (.own O.next te.size),(O.kill s).push .tok)
         | _=>none
         else none
       | .aq=>none
      else none
     else none
   | _,_=>none
 | _,_=>none
theorem S8 (h:WR G O w) {cs:List MV} {us:List Value} {N k r:Nat} {R:Array Value} {el:TypeId} (hc:aO G cs us) (hl:cs.length=N*k) (hR:R.size=r*k) (hm:N+r<=maxLen):
  ∃K,G.Le K/\WR K (O.push .tok) (w.alloc (.cells (us.toArray++R) el))/\VR K (.sl N cs (.own O.next k)) (.slice (some ⟨w.heap.size,0,none⟩) N (N+r)):=by
 have hg:=h.grow (.cells (us.toArray++R) el);have xJ:us.length=N*k:=by rw[hc.1,hl]
 have iQ:∀o u,(if o<N*k then us[o]? else none)=some u->(w.alloc (.cells (us.toArray++R) el)).cell? ⟨w.heap.size,o,none⟩=some u:=fun o u ho=>by
  rw[Gi];split at ho
  ·rw[Array.getElem?_append_left (by simp;omega)];simpa using ho
  ·cases ho
 obtain⟨h1,h2⟩:=hg.CI (b:=w.heap.size) (f:=fun o=>if o<N*k then us[o]? else none) (fun o u hc=>by rw[h.vN]at hc;cases hc) iQ (fun k _=>h.si k)
  fun t c x ht hx e=>absurd e (h.oO ht hx)
 have hb:(w.alloc (.cells (us.toArray++R) el)).heap[w.heap.size]?=some (.cells (us.toArray++R) el (0,0)):=by rw[eY,if_pos rfl]
 obtain⟨h3,h4⟩:=h2.Rc (b:=w.heap.size) (f:=N*k) (k:=k) (r:=r) (C:=us.toArray++R) (T:=el) h.S4 hb (by simp[xJ,hR])
  (fun o ho=>by
   show(if w.heap.size=w.heap.size then(if o<N*k then us[o]? else none)else _)=none;rw[if_pos rfl,if_neg (by omega)])
  h.si (fun t c x ht hx=>h.oO ht hx)
 refine⟨_,h1.trans h3,h4,?_⟩;refine .sl (us:=us) hc.1 (fun i u hu=>?_) (fun i c u a b=>(hc.2 i c u a b).mono (h1.trans h3)) (by omega) hm ?_
 ·show(if w.heap.size=w.heap.size then(if 0+i<N*k then us[0+i]? else none)else _)=some u;have:=(List.getElem?_eq_some_iff.1 hu).1;rw[if_pos rfl,Nat.zero_add,if_pos (by omega)];exact hu
 ·refine .inr ⟨r,?_,hl,rfl⟩;show br _ _ _ _=_;rw[aG,Nat.zero_add,hl]
theorem WR.setRow (h:WR G O w) {b:Nat} {C C':Array Value} {T:TypeId} (hB:G.B<=b) (hb:w.heap[b]?=some (.cells C T (0,0))) (eh:∀j,G.bL j≠some b) (ue:∀t c x,O.hp t=some .tok->G.tok t=some (c,x)->c≠b)
  (JL:∀o u,G.dX b o=some u->C'[o]?=some u):WR G O (w.setRow b C'):=by
 have xA:=setRow_heap w b C C' T (0,0) hb;have ei:∀j,j≠b->(w.setRow b C').heap[j]?=w.heap[j]?:=fun j hj=>setRow_other w b j C' hj
 have oc:(w.setRow b C').heap.size=w.heap.size:=by simp[World.setRow]
 refine⟨⟨h.base.os,h.base.tape,h.base.output,by rw[oc];exact h.base.size,fun j hj=>by rw[ei j (by have:j<G.B:=hj;omega)];exact h.base.block j hj⟩,fun b' o u hc=>?_,h.oN,fun k c hk=>?_,h.inj,fun k cs hk=>?_,fun k es ck hk=>?_,fun t ht=>?_,h.kA,h.n_ id (fun _ _ _ _ h=>h) fun k b' s hk hs=>gG (fun x hx=>by rw[ei _ (fun e=>eh k (e▸hk))];exact hx) hs,h.qN id (fun _ _ h=>h) fun k x b' hk hb hx=>by rw[ei b' (fun e=>eh k (e▸hb))];exact hx,h.pd,h.yz⟩
 ·by_cases e:b'=b
  ·subst e;rw[cell_setRow_same w b' o C C' T (0,0) hb];exact JL o u hc
  ·rw[cell_setRow_other w b C' _ e];exact h.dX b' o u hc
 ·obtain⟨h1,h2,h3⟩:=h.jI k c hk;exact⟨h1,by rw[oc];exact h2,h3⟩
 ·obtain⟨c,D,T',h1,h2,h3⟩:=h.cells k cs hk;exact⟨c,D,T',h1,by rw[ei c (fun e=>eh k (e▸h1))];exact h2,h3⟩
 ·obtain⟨c,E,h1,h2,h3⟩:=h.map k es ck hk;exact⟨c,E,h1,by rw[ei c (fun e=>eh k (e▸h1))];exact h2,h3⟩
 ·obtain⟨c,f,k,r,D,T',h1,h2,h3,h4⟩:=h.tok t ht;exact⟨c,f,k,r,D,T',h1,h2,by rw[ei c (ue t c _ ht h1)];exact h3,h4⟩
theorem C8 (h:WR G O w) {k sz:Nat} {ds:List MV} {tk:Tok} (hy:VR G (.sl k ds tk) v) (hl:ds.length=k*sz) (hk:k≠0):
  ∃ad c us,v= .slice (some ad) k c/\aO G ds us/\us.length=k*sz/\∀j u,us[j]?=some u->w.cell? (ad.add j)=some u:=by
 cases hy with
 | slnil=>exact absurd rfl hk
 | nP h1=>exact absurd rfl hk
 | jH=>exact absurd rfl hk
 | sl h1 h2 h3 h4 h5 h6=>exact⟨_,_,_,rfl,⟨h1,h3⟩,by rw[h1,hl],fun j u hu=>by rw[Addr.add_lit];exact h.dX _ _ _ (h2 j u hu)⟩
theorem JP (z:Array Value) (n:Nat):(Builtin.zeroCells z n).size=n*z.size:=by simp[Builtin.zeroCells]
theorem HY (h:WR G O w) {t ty el:TypeId} {te:cz} (ht:P.underlying t=some (.slice el)) (ni:wZ P el te) {n:Nat} {cells ds:List MV} {tk tk':Tok} (hx:VR G (.sl n cells tk) u) (hy:VR G (.sl 0 ds tk') v):
  (Builtin.append_ #[t,t] ty #[u,v]).run P w= .ok u w:=by
 obtain⟨ti,NT,_⟩:=Re ni w
 have run:∀(A B:Option Addr) (k c c':Nat),k<=c->(A=none->k=0)->(Builtin.append_ #[t,t] ty #[.slice A k c,.slice B 0 c']).run P w= .ok (.slice A k c) w:=fun A B k c c' hc hA=>by
  have hf:(Builtin.firstCells te.size 0 (.slice B 0 c')).run P w= .ok #[] w:=by
   cases B with
   | none=>simp[Builtin.firstCells]
   | some b=>simp[Builtin.firstCells,loadCells,loadCellsFrom]
  have hn:¬(c<k):=by omega
  cases A with
  | none=>simp[Builtin.append_,run_underlying ht,eZ ni,Builtin.lenOf,hf,hc]
  | some a=>simp[Builtin.append_,run_underlying ht,eZ ni,Builtin.lenOf,hf,hc,storeCells]
 have hu:∃A c,u= .slice A n c/\n<=c/\(A=none->n=0):=by
  cases hx with
  | slnil=>exact⟨_,_,rfl,Nat.le_refl _,fun _=>rfl⟩
  | nP h1=>exact⟨_,_,rfl,Nat.zero_le _,fun _=>rfl⟩
  | jH=>exact⟨_,_,rfl,Nat.le_refl _,fun _=>rfl⟩
  | sl h1 h2 h3 h4 h5 h6=>exact⟨_,_,rfl,h4,fun h=>by cases h⟩
 have hv:∃B c',v= .slice B 0 c':=by
  cases hy with
  | slnil=>exact⟨_,_,rfl⟩
  | nP h1=>exact⟨_,_,rfl⟩
  | jH=>exact⟨_,_,rfl⟩
  | sl h1 h2 h3 h4 h5 h6=>exact⟨_,_,rfl⟩
 obtain⟨A,c,rfl,h1,h2⟩:=hu;obtain⟨B,c',rfl⟩:=hv;exact run A B n c c' h1 h2
theorem yD (h:WR G O w) {t ty el:TypeId} {te:cz} (ht:P.underlying t=some (.slice el)) (ni:wZ P el te) {n k c:Nat} {cells ds:List MV} {tk':Tok} {A:Option Addr} {us:List Value}
  (hA:A=none->n=0/\c=0) (iu:aO G cells us) (xJ:us.length=n*te.size) (iQ:∀ad,A=some ad->∀j u,us[j]?=some u->w.cell? (ad.add j)=some u) (hy:VR G (.sl k ds tk') v) (hl:ds.length=k*te.size) (hk:k≠0)
  (hc:c<n+k) (hb:(n+k)*te.bytes<=140737488355328) (hm:n+k<=maxLen):
  gJ P (Builtin.append_ #[t,t] ty #[.slice A n c,v]) w G (O.push .tok) (.sl (n+k) (cells++ds) (.own O.next te.size)):=by
 obtain⟨ti,z,h1,h2,h3,h4,h5,h6⟩:=ni.info;obtain⟨ad,c',vs,rfl,nT,jk,hvc⟩:=C8 h hy hl hk;have ajI:n+k<=9223372036854775807:=by simp only[maxLen]at hm;omega
 have gZ:=grownCap_ge w (n+k) c el;have hle:=grownCap_le_maxLen w (n+k) c el hm;have mO:(cells++ds).length=(n+k)*te.size:=by rw[List.length_append, <-iu.1,xJ,hl,Nat.add_mul]
 obtain⟨K,g1,g2,g3⟩:=S8 (r:=grownCap w (n+k) c el - (n+k)) (R:=Builtin.zeroCells z.cells (grownCap w (n+k) c el - (n+k))) (el:=el) h.drew (iu.append nT) mO (by rw[JP,h5]) (by omega);rw[show n+k+(grownCap w (n+k) c el - (n+k))=grownCap w (n+k) c el from by omega]at g3;refine⟨_,_,K,?_,g1,g2,g3,jz.alloc h.drew _⟩;cases A with
 | none=>
   obtain⟨rfl,rfl⟩:=hA rfl;have:us=[]:=List.eq_nil_of_length_eq_zero (by simpa using xJ);subst this;have hr:=run_append_nil (P:=P) w t ty el ti z ht h1 h4 ad k c' vs (by rw[h2,jk]) hvc (by omega) (by omega) (by rw[h3];simp only[Nat.zero_add]at hb;omega);simpa using hr
 | some a=>
   have hr:=run_append_grow (P:=P) w t ty el ti z ht h1 h4 a n c us (by rw[h2,xJ]) (iQ a rfl) ad k c' vs (by rw[h2,jk]) hvc hc (by omega) (by rw[h3];exact growslice_fits (by omega) hb);simpa using hr
theorem HZ (h:WR G O w) {t ty el:TypeId} {te:cz} (ht:P.underlying t=some (.slice el)) (ni:wZ P el te) {n k s b o r:Nat} {cells ds:List MV} {tk':Tok} {us:List Value}
  (hs:O.hp s=some .tok) (hg:G.tok s=some (b,o+cells.length,te.size,r)) (iu:aO G cells us) (xJ:cells.length=n*te.size) (JL:∀i u,us[i]?=some u->G.dX b (o+i)=some u)
  (hy:VR G (.sl k ds tk') v) (hl:ds.length=k*te.size) (gV:ds.all dJ=true) (hk:k≠0) (hc:n+k<=n+r) (hm:n+r<=maxLen):
  gJ P (Builtin.append_ #[t,t] ty #[.slice (some ⟨b,o,none⟩) n (n+r),v]) w G ((O.kill s).push .tok) (.sl (n+k) (cells++ds) (.own O.next te.size)):=by
 obtain⟨ti,z,i1,i2,i3,i4,i5,i6⟩:=ni.info;obtain⟨ad,c',vs,rfl,nT,jk,hvc⟩:=C8 h hy hl hk;obtain⟨b',f,k',r',C,T,t1,t2,t3,t4,t5,t6⟩:=h.tok s hs;rw[hg]at t1;simp only[Option.some.injEq,Prod.mk.injEq]at t1;obtain⟨rfl,rfl,rfl,rfl⟩:=t1;have hkr:k*te.size<=r*te.size:=Nat.mul_le_mul_right _ (by omega);have ahi:=xE nT gV;have Rf:=run_firstCells_some (P:=P) w te.size k ad k c' vs jk hvc;have dB:=run_storeCells_at P b (o+cells.length) T vs 0 C w t3 (by rw[Nat.add_zero,jk];omega) ahi
 have cc:(Builtin.append_ #[t,t] ty #[.slice (some ⟨b,o,none⟩) n (n+r),.slice (some ad) k c']).run P w=
   .ok (.slice (some ⟨b,o,none⟩) (n+k) (n+r)) (w.setRow b (C.toList.take (o+cells.length+0)++vs++C.toList.drop (o+cells.length+0+vs.length)).toArray):=by
  have hn:k<=r:=by omega
  rw[xJ]at dB;simp only[Builtin.append_,run_underlying ht,eZ ni,Builtin.lenOf,Rf,Sem.run_bind,Result.andThen_ok,Sem.run_pure,List.getElem?_toArray,Addr.add_lit,dB,xJ]<;>simp[run_underlying ht,eZ ni,Builtin.lenOf,Rf,dB,hn,xJ,Addr.add_lit]
 simp only[Nat.add_zero]at cc;generalize hC':(C.toList.take (o+cells.length)++vs++C.toList.drop (o+cells.length+vs.length)).toArray=C' at cc;have hfs:o+cells.length<=C.size:=by omega
 have NU:(C.toList.take (o+cells.length)).length=o+cells.length:=by simp;omega
 have hC1:∀i,i<o+cells.length->C'[i]?=C[i]?:=fun i hi=>by
  rw[<-hC',List.getElem?_toArray,List.append_assoc,List.getElem?_append_left (by omega),List.getElem?_take,if_pos hi];simp
 have C9:∀i u,vs[i]?=some u->C'[o+cells.length+i]?=some u:=fun i u hu=>by
  have hi:=(List.getElem?_eq_some_iff.1 hu).1;rw[<-hC',List.getElem?_toArray,List.append_assoc,List.getElem?_append_right (by omega),NU,Nat.add_sub_cancel_left,List.getElem?_append_left hi];exact hu
 have hC3:C'.size=C.size:=by rw[<-hC'];simp;omega
 have dT:=h.kill s
 have C_:∀t c x,(O.kill s).hp t=some .tok->G.tok t=some (c,x)->c≠b:=fun t c x eb NV e=>by
  subst e;have hts:t≠s:=fun e=>by subst e;rw[show(O.kill t).hp t=none from aG _ _ _]at eb;cases eb
  rw[show(O.kill s).hp t=O.hp t from aw _ _ hts]at eb;exact hts (h.kA t s c x _ eb hs NV hg)
 have cL:=dT.setRow (C':=C') t2 t3 t6 C_ (fun i u hu=>by
  have hi:i<o+cells.length:=by
   rcases Nat.lt_or_ge i (o+cells.length)with h' | h'
   ·exact h'
   ·rw[t5 i h']at hu;cases hu
  rw[hC1 i hi];have:=h.dX b i u hu;simpa[World.cell?,t3]using this)
 have mF:=setRow_heap w b C C' T (0,0) t3;have abP:∀i u,C'[i]?=some u->(w.setRow b C').cell? ⟨b,i,none⟩=some u:=fun i u hu=>by rw[cell_setRow_same w b i C C' T (0,0) t3];exact hu
 obtain⟨g1,g2⟩:=cL.CI (b:=b) (f:=fun i=>if i<o+cells.length then G.dX b i else if i<o+cells.length+vs.length then C'[i]? else none)
  (fun i u hu=>by
   have hi:i<o+cells.length:=by
    rcases Nat.lt_or_ge i (o+cells.length)with h' | h'
    ·exact h'
    ·rw[t5 i h']at hu;cases hu
   rw[if_pos hi];exact hu)
  (fun i u hu=>by
   split at hu
   ·exact cL.dX b i u hu
   ·split at hu
    ·exact abP i u hu
    ·cases hu)
  (fun k _=>t6 k) (fun t c x eb NV e=>absurd e (C_ t c _ eb NV))
 have xK:(O.kill s).next=O.next:=rfl
 obtain⟨g3,g4⟩:=g2.Rc (b:=b) (f:=o+cells.length+vs.length) (k:=te.size) (r:=r - k) (C:=C') (T:=T) t2 mF
  (by
   rw[hC3,jk];have:(r - k)*te.size=r*te.size - k*te.size:=Nat.sub_mul _ _ _;omega)
  (fun i hi=>by
   show(if b=b then(if i<o+cells.length then G.dX b i else if i<o+cells.length+vs.length then C'[i]? else none)else _)=none;rw[if_pos rfl,if_neg (by omega),if_neg (by omega)])
  t6 (fun t c x eb NV=>C_ t c x eb NV)
 refine⟨_,_,_,cc,g1.trans g3,g4,?_,fun k b' Da=>setRow_other w b b' C' (fun e=>t6 k (e▸Da))⟩;have W9:=iu.append nT;refine .sl (us:=us++vs) W9.1 (fun i u hu=>?_) (fun i c u a b'=>(W9.2 i c u a b').mono (g1.trans g3)) (by omega) hm ?_
 ·show(if b=b then(if o+i<o+cells.length then G.dX b (o+i)else if o+i<o+cells.length+vs.length then C'[o+i]? else none)else _)=some u;rw[if_pos rfl];rw[List.getElem?_append]at hu;split at hu
  ·rename_i hi;rw[iu.1]at hi;rw[if_pos (by omega)];exact JL i u hu
  ·rename_i hi;have gd:=(List.getElem?_eq_some_iff.1 hu).1;rw[iu.1]at hi gd hu;rw[if_neg (by omega),if_pos (by omega)];have:=C9 _ u hu;rw[<-this];congr 1;omega
 ·refine .inr ⟨r - k,?_,?_,by omega⟩
  ·show br _ _ _ _=_;rw[xK,aG];simp only[List.length_append,nT.1]
   congr 2;congr 1;omega
  ·rw[List.length_append,xJ,hl,Nat.add_mul]
theorem JQ (ht:aK P tab) (h:WR G O w) {t ty:TypeId} {x y:MV} (hv:gY tab O t x y=some (m,O')) (hx:VR G x u) (hy:VR G y v):gJ P (Builtin.append_ #[t,t] ty #[u,v]) w G O' m:=by
 unfold gY at hv;split at hv
 ·rename_i el k ds tk' hu;have eR:=bB ht hu;split at hv
  ·rename_i te n cells tk he;have ni:=ht _ te he;split at hv
   ·rename_i hc;split at hv
    ·rename_i hk;simp only[Option.some.injEq,Prod.mk.injEq]at hv;obtain⟨rfl,rfl⟩:=hv;subst hk;exact gJ.of h (HY h eR ni hx hy) hx
    ·rename_i hk;split at hv
     ·rename_i jj
      have grow:∀(A:Option Addr) (c:Nat) (us:List Value),(A=none->n=0/\c=0)->aO G cells us->(∀ad,A=some ad->∀j u,us[j]?=some u->w.cell? (ad.add j)=some u)->c<n+k->
        gJ P (Builtin.append_ #[t,t] ty #[.slice A n c,v]) w G (O.push .tok) (.sl (n+k) (cells++ds) (.own O.next te.size)):=fun A c us a1 a2 a3 a4=>
       yD h eR ni a1 a2 (by rw[a2.1,jj.1]) a3 hy hc.1 hk a4 jj.2.1 jj.2.2
      split at hv
      ·simp only[Option.some.injEq,Prod.mk.injEq]at hv;obtain⟨rfl,rfl⟩:=hv;cases hx with
       | slnil=>exact grow none 0 [] (fun _=>⟨rfl,rfl⟩) aO.nil (fun _ h=>by cases h) (by omega)
       | sl h1 h2 h3 h4 h5 h6=>exact h6.elim
      ·simp only[Option.some.injEq,Prod.mk.injEq]at hv;obtain⟨rfl,rfl⟩:=hv;cases hx with
       | sl h1 h2 h3 h4 h5 h6=>
         rename_i us c b o;have h6:c=n:=h6;exact grow _ c us (fun h=>by cases h) ⟨h1,h3⟩ (fun ad e j u hj=>by injection e with e;subst e;rw[Addr.add_lit];exact h.dX _ _ _ (h2 j u hj)) (by omega)
      ·rename_i s k';split at hv
       ·rename_i sm;subst sm;split at hv
        ·rename_i hs;simp only[Option.some.injEq,Prod.mk.injEq]at hv;obtain⟨rfl,rfl⟩:=hv;cases hx with
         | sl h1 h2 h3 h4 h5 h6=>
           rename_i us c b o
           have W_:c<n+k->gJ P (Builtin.append_ #[t,t] ty #[.slice (some ⟨b,o,none⟩) n c,v]) w G ((O.kill s).push .tok) (.sl (n+k) (cells++ds) (.own O.next te.size)):=fun eg=>
            yD (O:=O.kill s) (h.kill s) eR ni (A:=some ⟨b,o,none⟩) (us:=us) (fun h=>by cases h) ⟨h1,h3⟩ (by rw[h1,jj.1]) (fun ad e j u hj=>by injection e with e;subst e;rw[Addr.add_lit];exact h.dX _ _ _ (h2 j u hj)) hy hc.1 hk eg jj.2.1 jj.2.2
           rcases h6 with h6 | ⟨r,h7,h8,h9⟩
           ·exact W_ (by omega)
           ·by_cases hr:n+k<=c
            ·subst h9;exact HZ h eR ni hs h7 ⟨h1,h3⟩ jj.1 (fun i u hi=>h2 i u hi) hy hc.1 hc.2.1 hk hr h5
            ·exact W_ (by omega)
        ·cases hv
       ·cases hv
      ·cases hv
     ·cases hv
   ·cases hv
  ·cases hv
 ·cases hv
end
section
variable {G H:Gh} {n:Sz} {D:List Deferred} {e:Env} {a:Act} {P:Program} {tab:b9} {O O':VH} {w:World} {m m':MV} {u v:Value}
def Ay (tab:b9) (src dst:TypeId) (x:MV):Option MV:=
 match(tab src).map cz.under,(tab dst).map cz.under,x with
 | some _,some (.int k),.v (.int _ i)=>some (.v (.int k (k.wrap i)))
 | some .string,some .string,.str l=>some (.str l)
 | _,_,_=>none
theorem S9 (ht:aK P tab) {src dst:TypeId} (hv:Ay tab src dst m=some m') (hx:VR G m u):aW P (convert src dst u) G m':=by
 unfold Ay at hv;split at hv
 ·injection hv with hv;subst hv;cases hx
  exact aW.of (u:=.int _ _) (fun w _=>by simp[convert,run_underlying (bB ht ‹(tab src).map _=_›),run_underlying (bB ht ‹(tab dst).map _=_›),Conv.intToInt]) (.v rfl)
 ·injection hv with hv;subst hv;cases hx
  exact aW.of (u:=.string _) (fun w _=>by simp[convert,run_underlying (bB ht ‹(tab src).map _=_›),run_underlying (bB ht ‹(tab dst).map _=_›)]) .str
 ·cases hv
theorem _root_.Go.Proofs.YtoclnkfdahmnhaaGreatDoor.VR.iw {x u:Value} (h:VR G (.v x) u):u=x:=by cases h;rfl
def JR (m:MV):Option MV:=
 match m with
 | .ptr _ _ | .c8 _ _=>some m
 | .func (.func _) _ _=>some m
 | _=>none
def fV {α :Type} (parts:Array (Nat×Operand)) (ms:List α):List (Nat× α):=(parts.toList.map (·.1)).zip ms
def vX:MV->Option MV
 | .bp k o _ c=>if c=0 then none else some (.ptr k o)
 | .sl 0 [] .nil=>some (.v (.pointer none))
 | _=>none
theorem NW (hv:vX m=some m') (hx:VR G m u) {ts:Array TypeId} {ty:TypeId}:aW P (Builtin.unsafeSliceData_ ts ty #[u]) G m':=by
 unfold vX at hv;split at hv
 ·split at hv
  ·cases hv
  ·rename_i k o n c hc;injection hv with hv;subst hv
   cases hx with
   | bp h1 h2 h3=>exact aW.of (u:=.pointer (some _)) (fun w _=>by
     show Sem.run P (if c≠0 then pure (Value.pointer (some _))else _) w=_;rw[if_pos hc];rfl) (.ptr h1)
 ·injection hv with hv;subst hv
  cases hx with
  | slnil=>exact aW.of (u:=.pointer none) (fun w _=>rfl) (.v rfl)
  | sl h1 h2 h3 h4 h5 h6=>exact h6.elim
 ·cases hv
def ew (tab:b9) (o:Oper) (e:Env):Option MV:=
 match o.op with
 | .move x | .assign x=>ev e x
 | .pick c a b=>match ev e c with
   | some (.v (.bool t))=>if t then ev e a else ev e b
   | _=>none
 | .nilCheck x=>(ev e x).bind JR
 | .binOp op t x y _=>match ev e x,ev e y with
   | some p,some q=>cX tab op t p q
   | _,_=>none
 | .unOp op _ x=>(ev e x).bind (vV op)
 | .convert s d x=>(ev e x).bind (Ay tab s d)
 | .fieldAddr t x f=>(ev e x).bind (jn tab t f)
 | .field t x f=>(ev e x).bind (vR tab t · f)
 | .indexAddr t x i=>match ev e x,ev e i with
   | some p,some q=>mf tab t p q
   | _,_=>none
 | .index t x i=>match ev e x,ev e i with
   | some p,some q=>vS tab t p q
   | _,_=>none
 | .extract x i=>(ev e x).bind (ru · i)
 | .slice t x lo hi mx=>match ev e x,Cd lo,Cd hi,mx with
   | some p,some l,some h,none=>vW tab t p l h
   | some p,some l,some (some h),some y=>(ev e y).bind (ry tab t p l h)
   | _,_,_,_=>none
 | .build t parts=>match fG e (parts.toList.map (·.2))with
   | some ms=>vU tab t (fV parts ms)
   | none=>none
 | .load t x=>match ev e x with
   | some (.c8 cs off)=>eQ tab ⟨0,fun _=>none⟩ t (.c8 cs off)
   | _=>none
 | .makeFunc fn fs cs=>match fG e fs.toList,fG e cs.toList with
   | some p,some q=>some (.func fn p q)
   | _,_=>none
 | .makeInterface t x=>match(tab t).map cz.under,ev e x with
   | some (.interface _),_=>none
   | some _,some p=>some (.iface t p)
   | _,_=>none
 | .call c=>match c.callee,c.args.toList,c.argTypes.toList with
   | .builtin .len,[x],[t]=>(ev e x).bind (jJ tab t)
   | .builtin .max,[x,y],_=>match ev e x,ev e y with
     | some p,some q=>Av p q
     | _,_=>none
   | .builtin .min,[x,y],_=>match ev e x,ev e y with
     | some p,some q=>Aw p q
     | _,_=>none
   | .builtin .unsafeSliceData,[x],_=>(ev e x).bind vX
   | _,_,_=>none
 | _=>none
where Cd:Option Operand->Option (Option MV)
 | none=>some none
 | some x=>(ev e x).map some
theorem CJ (h:FR G n D e a) {x:Option Operand} {y:Option MV} (hx:ew.Cd e x=some y):HX G y (x.map a.eval):=by
 cases x with
 | none=>injection hx with hx;subst hx;trivial
 | some x=>
   obtain⟨m,h1,rfl⟩:=Option.map_eq_some_iff.1 hx;exact h.ev h1
theorem Bw {l:List Operand} {ms:List MV} (h:fG e l=some ms):ms.length=l.length:=by
 induction l generalizing ms with
 | nil=>simp[fG]at h;subst h;rfl
 | cons x l ih=>
   simp only[fG,List.mapM_cons,Option.bind_eq_bind,Option.bind_eq_some_iff]at h;obtain⟨m,h1,WZ,h2,h3⟩:=h;injection h3 with h3;subst h3
   simp[ih h2]
theorem zip_fst {α :Type} (parts:Array (Nat×Operand)) (ms:List α) (h:ms.length=parts.toList.length):(fV parts ms).map (·.1)=parts.toList.map (·.1):=by
 unfold fV;rw[show(List.map (fun x:Nat× α =>x.1) ((parts.toList.map (·.1)).zip ms))=List.map Prod.fst ((parts.toList.map (·.1)).zip ms)from rfl,List.map_fst_zip];simp[h]
theorem JS {α :Type} (parts:Array (Nat×Operand)) (ms:List α) (h:ms.length=parts.toList.length):(fV parts ms).map (·.2)=ms:=by
 unfold fV;rw[show(List.map (fun x:Nat× α =>x.2) ((parts.toList.map (·.1)).zip ms))=List.map Prod.snd ((parts.toList.map (·.1)).zip ms)from rfl,List.map_snd_zip];simp[h]
theorem Db (a:Act) (parts:Array (Nat×Operand)):((parts.map fun(i,x)=>(i,a.eval x)).toList.map (·.1))=parts.toList.map (·.1):=by simp
theorem Dc (a:Act) (parts:Array (Nat×Operand)):((parts.map fun(i,x)=>(i,a.eval x)).toList.map (·.2))=(parts.toList.map (·.2)).map a.eval:=by simp
def dm (P:Program) (o:Oper) (a:Act) (G:Gh) (m:MV):Prop:=∃u,VR G m u/\∀w,SS G w->(execOp a.eval o).run P w= .ok (.value u) w
theorem dm.of {o:Oper} {s:Sem Value} (hs:aW P s G m) (he:execOp a.eval o=(do pure (.value (<-s)))):dm P o a G m:=by
 obtain⟨u,hu,hr⟩:=hs;exact⟨u,hu,fun w hw=>by rw[he,Sem.run_bind,hr w hw];rfl⟩
theorem uh (ht:aK P tab) (h:FR G n D e a) {o:Oper} (hv:ew tab o e=some m):dm P o a G m:=by
 unfold ew at hv;split at hv
 ·rename_i x ho;exact⟨_,h.ev hv,fun w _=>by simp[execOp,ho]⟩
 ·rename_i x ho;exact⟨_,h.ev hv,fun w _=>by simp[execOp,ho]⟩
 ·rename_i c x y ho;split at hv
  ·rename_i t hc;have oa:=h.ev hc;have Ft:a.eval c= .bool t:=oa.iw;split at hv
   ·rename_i hb;exact⟨_,h.ev hv,fun w _=>by simp[execOp,ho,asBool,Ft,hb]⟩
   ·rename_i hb;exact⟨_,h.ev hv,fun w _=>by simp[execOp,ho,asBool,Ft,hb]⟩
  ·cases hv
 ·rename_i x ho;obtain⟨p,h1,h2⟩:=Option.bind_eq_some_iff.1 hv;have hp:=h.ev h1;generalize hu:a.eval x=u at hp;unfold JR at h2;split at h2
  ·injection h2 with h2;subst h2
   exact⟨u,hp,fun w _=>by simp only[execOp,ho,hu];cases hp;rfl⟩
  ·injection h2 with h2;subst h2
   exact⟨u,hp,fun w _=>by simp only[execOp,ho,hu];cases hp;rfl⟩
  ·injection h2 with h2;subst h2
   exact⟨u,hp,fun w _=>by simp only[execOp,ho,hu];cases hp;rfl⟩
  ·cases h2
 ·rename_i op t x y yt ho;split at hv
  ·rename_i p q h1 h2;exact dm.of (W4 (xo:=x) (yo:=y) ht hv (h.ev h1) (h.ev h2)) (by simp[execOp,ho])
  ·cases hv
 ·rename_i op t x ho;obtain⟨p,h1,h2⟩:=Option.bind_eq_some_iff.1 hv;exact dm.of (NQ h2 (h.ev h1)) (by simp[execOp,ho])
 ·rename_i s d x ho;obtain⟨p,h1,h2⟩:=Option.bind_eq_some_iff.1 hv;exact dm.of (S9 ht h2 (h.ev h1)) (by simp[execOp,ho])
 ·rename_i t x f ho;obtain⟨p,h1,h2⟩:=Option.bind_eq_some_iff.1 hv;exact dm.of (C4 ht h2 (h.ev h1)) (by simp[execOp,ho])
 ·rename_i t x f ho;obtain⟨p,h1,h2⟩:=Option.bind_eq_some_iff.1 hv;exact dm.of (NN ht h2 (h.ev h1)) (by simp[execOp,ho])
 ·rename_i t x i ho;split at hv
  ·rename_i p q h1 h2;exact dm.of (C6 ht hv (h.ev h1) (h.ev h2)) (by simp[execOp,ho])
  ·cases hv
 ·rename_i t x i ho;split at hv
  ·rename_i p q h1 h2;exact dm.of (NO ht hv (h.ev h1) (h.ev h2)) (by simp[execOp,ho])
  ·cases hv
 ·rename_i x i ho;obtain⟨p,h1,h2⟩:=Option.bind_eq_some_iff.1 hv;exact dm.of (HV h2 (h.ev h1)) (by simp[execOp,ho])
 ·rename_i t x lo hi mx ho;split at hv
  ·rename_i p l hh h1 h2 h3;exact dm.of (NR ht hv (h.ev h1) (CJ h h2) (CJ h h3)) (by simp[execOp,ho])
  ·rename_i p l hh y h1 h2 h3;obtain⟨q,h4,h5⟩:=Option.bind_eq_some_iff.1 hv;have h6:=CJ h h3;cases hi with
   | none=>cases h3
   | some hi=>exact dm.of (JO ht h5 (h.ev h1) (CJ h h2) h6 (h.ev h4)) (by simp[execOp,ho])
  ·cases hv
 ·rename_i t parts ho;split at hv
  ·rename_i ms h1;have hl:=Bw h1;have NX:ms.length=parts.toList.length:=by simpa using hl
   refine dm.of (NP ht hv (ps:=parts.map fun(i,x)=>(i,a.eval x)) ?_ ?_) (by simp[execOp,ho])
   ·rw[zip_fst parts ms NX,Db]
   ·rw[JS parts ms NX,Dc];exact h.fG h1
  ·cases hv
 ·rename_i t x ho;split at hv
  ·rename_i cs off h1;exact dm.of (NL ht hv (h.ev h1)) (by simp[execOp,ho])
  ·cases hv
 ·rename_i fn fs cs ho;split at hv
  ·rename_i p q h1 h2;injection hv with hv;subst hv
   have e1:=h.fG h1;have e2:=h.fG h2;refine⟨.func fn (fs.toList.map a.eval).toArray (cs.toList.map a.eval).toArray,.func e1.1 e1.2 e2.1 e2.2,fun w _=>?_⟩;have f1:fs.map a.eval=(fs.toList.map a.eval).toArray:=by apply Array.ext';simp
   have f2:cs.map a.eval=(cs.toList.map a.eval).toArray:=by apply Array.ext';simp
   simp only[execOp,ho,Instr.makeFunc,f1,f2];rfl
  ·cases hv
 ·rename_i t x ho;split at hv
  ·cases hv
  ·rename_i d p hne hd h1;injection hv with hv;subst hv
   have eR:=bB ht hd;refine dm.of (s:=Instr.makeInterface t (a.eval x)) (aW.of (u:=.iface t (a.eval x)) (fun w _=>?_) (.iface (h.ev h1))) (by simp[execOp,ho]);simp only[Instr.makeInterface,Sem.run_bind,run_underlying eR,Result.andThen_ok]
   cases d<;>first
    | rfl
    | (rename_i ms;exact absurd hd (hne ms))
  ·cases hv
 ·rename_i c ho;split at hv
  ·rename_i x t hc gU JT;obtain⟨p,h1,h2⟩:=Option.bind_eq_some_iff.1 hv;have ha:c.args= #[x]:=by apply Array.ext';exact gU
   have fh:c.argTypes= #[t]:=by apply Array.ext';exact JT
   exact dm.of (W6 (ty:=o.type) ht h2 (h.ev h1)) (by simp[execOp,ho,resolve,hc,ha,fh,invoke,builtin])
  ·rename_i x y hc gU;split at hv
   ·rename_i p q h1 h2;have ha:c.args= #[x,y]:=by apply Array.ext';exact gU
    exact dm.of (S5 (ts:=c.argTypes) (ty:=o.type) hv (h.ev h1) (h.ev h2)) (by simp[execOp,ho,resolve,hc,ha,invoke,builtin])
   ·cases hv
  ·rename_i x y hc gU;split at hv
   ·rename_i p q h1 h2;have ha:c.args= #[x,y]:=by apply Array.ext';exact gU
    exact dm.of (S6 (ts:=c.argTypes) (ty:=o.type) hv (h.ev h1) (h.ev h2)) (by simp[execOp,ho,resolve,hc,ha,invoke,builtin])
   ·cases hv
  ·rename_i x hc gU;obtain⟨p,h1,h2⟩:=Option.bind_eq_some_iff.1 hv;have ha:c.args= #[x]:=by apply Array.ext';exact gU
   exact dm.of (NW (ts:=c.argTypes) (ty:=o.type) h2 (h.ev h1)) (by simp[execOp,ho,resolve,hc,ha,invoke,builtin])
  ·cases hv
 ·cases hv
end
open Go.MapKept (IsKey run_checkKey run_findKey run_setObj_map)
section
variable {G H:Gh} {n:Sz} {D:List Deferred} {e:Env} {a:Act} {P:Program} {tab:b9} {O O':VH} {w:World} {m m':MV} {u v:Value}
theorem oe {w:World} {b j:Nat} (o:Obj) (h:j≠b):({w with heap:=w.heap.setIfInBounds b o}:World).heap[j]?=w.heap[j]?:=
 Array.getElem?_setIfInBounds_ne (Ne.symm h)
theorem ui {w:World} {b:Nat} {x:Obj} (o:Obj) (h:w.heap[b]?=some x):({w with heap:=w.heap.setIfInBounds b o}:World).heap[b]?=some o:=
 Array.getElem?_setIfInBounds_self_of_lt (nQ h)
theorem tf {w:World} {b:Nat} (o:Obj) {a:Addr} (h:a.block≠b):({w with heap:=w.heap.setIfInBounds b o}:World).cell? a=w.cell? a:=by
 unfold World.cell?;rw[oe o h]
abbrev wO:=List (MV×MV×Nat)
structure gn (G:Gh) (es:wO) (E:List MapEntry):Prop where
 born:E.map (·.born)=es.map (·.2.2)
 key:aO G (es.map (·.1)) (E.map (·.key))
 val:aO G (es.map (·.2.1)) (E.map (·.val))
theorem gn.nil:gn G [] []:=⟨rfl,aO.nil,aO.nil⟩
theorem gn.cons {x:MV×MV×Nat} {y:MapEntry} {es:wO} {E:List MapEntry} (h1:y.born=x.2.2) (h2:VR G x.1 y.key) (h3:VR G x.2.1 y.val) (h:gn G es E):gn G (x::es) (y::E):=
 ⟨by rw[List.map_cons,List.map_cons,h1,h.born],aO.cons h2 h.key,aO.cons h3 h.val⟩
theorem gn.cB {x:MV×MV×Nat} {es:wO} {E:List MapEntry} (h:gn G (x::es) E):∃y E',E=y::E'/\y.born=x.2.2/\VR G x.1 y.key/\VR G x.2.1 y.val/\gn G es E':=by
 cases E with
 | nil=>have:=h.born;simp at this
 | cons y E=>
   have h1:=h.born;simp only[List.map_cons,List.cons.injEq]at h1;exact⟨y,E,rfl,h1.1,h.key.head,h.val.head,⟨h1.2,h.key.tail,h.val.tail⟩⟩
theorem gn.fw {E:List MapEntry} (h:gn G [] E):E=[]:=by
 cases E with
 | nil=>rfl
 | cons y E=>have:=h.born;simp at this
theorem gn.append {es fs:wO} {E F:List MapEntry} (h:gn G es E) (k:gn G fs F):gn G (es++fs) (E++F):=
 ⟨by simp[h.born,k.born],by simpa using aO.append h.key k.key,by simpa using aO.append h.val k.val⟩
theorem WR.so (h:WR G O w) {k b ck ck':Nat} {es Fu:wO} {E':Array MapEntry} {x:Obj} (hk:O.hp k=some (.map es ck)) (hp:G.bL k=some b) (hb:w.heap[b]?=some x) (hr:gn G Fu E'.toList):
  WR G (O.set k (.map Fu ck')) {w with heap:=w.heap.setIfInBounds b (.map E' ck')}:=by
 have hne:∀j b',j≠k->O.hp j≠none->G.bL j=some b'->b'≠b:=fun j b' hj lj mF e=>hj (h.inj j k b lj (by rw[hk];simp) (e▸mF) hp)
 have iR:∀j,br O.hp k (some (.map Fu ck')) j≠none->O.hp j≠none:=fun j hn=>by
  by_cases e:j=k
  ·subst e;rw[hk];simp
  ·rwa [aw _ _ e]at hn
 have xA:=ui (.map E' ck') hb;have ei:∀j,j≠b->({w with heap:=w.heap.setIfInBounds b (.map E' ck')}:World).heap[j]?=w.heap[j]?:=fun j hj=>oe _ hj
 have hB:=(h.jI k b hp).1
 have NY:∀b' s,w.shape? b'=some s->b'≠b:=fun b' s hs e=>by
  subst e;obtain⟨b2,E,g1,g2,_⟩:=h.map k es ck hk;rw[hp]at g1;injection g1 with g1;subst g1
  simp only[World.shape?,g2]at hs;cases hs
 refine⟨⟨h.base.os,h.base.tape,h.base.output,by simpa using h.base.size,fun j hj=>?_⟩,fun b' o u' oa=>?_,fun j hj=>?_,fun j b' hj=>?_,fun j k' b' lj lk=>h.inj j k' b' (iR j lj) (iR k' lk),fun j ds hj=>?_,fun j es2 ck2 hj=>?_,fun t ht=>?_,fun s t b' x y hs ht=>?_,h.n_ id (lU (by simp)) fun j b' s hj hs=>gG (fun x hx=>by rw[ei _ (NY b' s hs)];exact hx) hs,h.qN id (ud (by simp)) fun j x b' hj hb hx=>by rw[ei b' (fun e=>by have:=h.inj j k b (by rw[hj];simp) (by rw[hk];simp) (e▸hb) hp;subst this;rw[hk]at hj;cases hj)];exact hx,h.pd,h.qO (Gh.Le.refl _) (me (by simp))⟩
 ·rw[ei j (by omega)];exact h.base.block j hj
 ·have yB:b'≠b:=fun e=>by subst e;rw[(h.jI k b' hp).2.2 (by rw[hk];simp) o]at oa;cases oa
  rw[tf _ (by exact yB)];exact h.dX b' o u' oa
 ·obtain⟨d1,d2,d3⟩:=h.oN j hj;refine⟨d1,d2,?_⟩;show br _ _ _ _=_;rw[aw _ _ (fun e=>by subst e;rw[d3]at hk;cases hk)];exact d3
 ·obtain⟨p1,p2,p3⟩:=h.jI j b' hj;refine⟨p1,by simpa using p2,fun hne=>p3 ?_⟩;have hne:br O.hp k (some (.map Fu ck')) j≠none:=hne;by_cases e:j=k
  ·subst e;rw[hk];simp
  ·rwa [aw _ _ e]at hne
 ·have hj:br O.hp k (some (.map Fu ck')) j=some (.cells ds):=hj;by_cases e:j=k
  ·subst e;rw[aG]at hj;cases hj
  ·rw[aw _ _ e]at hj;obtain⟨b',C,T,d1,d2,d3⟩:=h.cells j ds hj;exact⟨b',C,T,d1,by rw[ei _ (hne j b' e (by rw[hj];simp) d1)];exact d2,d3⟩
 ·have hj:br O.hp k (some (.map Fu ck')) j=some (.map es2 ck2):=hj;by_cases e:j=k
  ·subst e;rw[aG]at hj;injection hj with hj;injection hj with hj aX;subst hj;subst aX
   exact⟨b,E',hp,xA,hr.born,hr.key,hr.val⟩
  ·rw[aw _ _ e]at hj;obtain⟨b',D,d1,d2,d3⟩:=h.map j es2 ck2 hj;exact⟨b',D,d1,by rw[ei _ (hne j b' e (by rw[hj];simp) d1)];exact d2,d3⟩
 ·have ht:br O.hp k (some (.map Fu ck')) t=some .tok:=ht;have e:t≠k:=fun e=>by subst e;rw[aG]at ht;cases ht
  rw[aw _ _ e]at ht;obtain⟨b',f,k',r,D,T',d1,d2,d3,d4,d6,d7⟩:=h.tok t ht;exact⟨b',f,k',r,D,T',d1,d2,by rw[ei _ (fun e=>d7 k (by rw[e];exact hp))];exact d3,d4,d6,d7⟩
 ·have hs:br O.hp k (some (.map Fu ck')) s=some .tok:=hs;have ht:br O.hp k (some (.map Fu ck')) t=some .tok:=ht;have e:t≠k:=fun e=>by subst e;rw[aG]at ht;cases ht
  have e':s≠k:=fun e=>by subst e;rw[aG]at hs;cases hs
  rw[aw _ _ e]at ht;rw[aw _ _ e']at hs;exact h.kA s t b' x y hs ht
theorem WR.Xa (h:WR G O w):G.Le {G with bL:=br G.bL O.next (some w.heap.size)}/\WR {G with bL:=br G.bL O.next (some w.heap.size)} (O.push (.map [] 0)) (w.alloc (.map #[] 0)):=by
 have hle:=Gh.Le.HT h.mc.1 w.heap.size;have hg:=h.grow (.map #[] 0)
 have eh:∀k b,br G.bL O.next (some w.heap.size) k=some b->(k=O.next/\b=w.heap.size)\/(k≠O.next/\G.bL k=some b):=fun k b hk=>by
  by_cases e:k=O.next
  ·subst e;rw[aG]at hk;injection hk with hk;exact .inl ⟨rfl,hk.symm⟩
  ·rw[aw _ _ e]at hk;exact .inr ⟨e,hk⟩
 have NJ:∀o,G.dX w.heap.size o=none:=h.vN
 refine⟨hle,hg.base,hg.dX,fun k hk=>?_,fun k b hk=>?_,fun j k b lj lk hj hk=>?_,fun k ds hk=>?_,fun k es ck hk=>?_,fun t ht=>?_,fun s t b x y hs ht h1 h2=>?_,h.n_ hle.bL (lU (by simp)) fun _ _ _ _=>gG fun _=>dA w _,h.qN hle.bL (ud (by simp)) fun _ _ _ _ _=>dA w _,h.pd,h.qO hle (me (by simp))⟩
 ·have hk:O.next+1<=k:=hk;obtain⟨h1,h2,h3⟩:=h.oN k (by omega);exact⟨by show br _ _ _ _=_;rw[aw _ _ (by omega)];exact h1,h2,by show br _ _ _ _=_;rw[aw _ _ (by omega)];exact h3⟩
 ·rcases eh k b hk with⟨_,rfl⟩ | ⟨dT,hk⟩
  ·exact⟨h.S4,by simp,fun _=>NJ⟩
  ·obtain⟨p1,p2,p3⟩:=hg.jI k b hk;exact⟨p1,p2,fun hne=>p3 (by have hne:br O.hp O.next (some (.map [] 0)) k≠none:=hne;rwa [aw _ _ dT]at hne)⟩
 ·rcases eh j b hj with⟨rfl,rfl⟩ | ⟨dd,hj⟩<;>rcases eh k _ hk with⟨rfl,hb⟩ | ⟨dT,hk⟩
  ·rfl
  ·have:=(h.jI _ _ hk).2.1;omega
  ·subst hb;have:=(h.jI _ _ hj).2.1;omega
  ·exact h.inj j k b (by have lj:br O.hp O.next (some (.map [] 0)) j≠none:=lj;rwa [aw _ _ dd]at lj) (by have lk:br O.hp O.next (some (.map [] 0)) k≠none:=lk;rwa [aw _ _ dT]at lk) hj hk
 ·have hk:br O.hp O.next (some (.map [] 0)) k=some (.cells ds):=hk;by_cases e:k=O.next
  ·subst e;rw[aG]at hk;cases hk
  ·rw[aw _ _ e]at hk;obtain⟨b,C,T,h1,h2,h3⟩:=hg.cells k ds hk;exact⟨b,C,T,hle.bL h1,h2,h3.mono hle⟩
 ·have hk:br O.hp O.next (some (.map [] 0)) k=some (.map es ck):=hk;by_cases e:k=O.next
  ·subst e;rw[aG]at hk;injection hk with hk;injection hk with hk bR;subst hk;subst bR
   exact⟨w.heap.size, #[],aG _ _ _,by rw[eY,if_pos rfl],rfl,aO.nil,aO.nil⟩
  ·rw[aw _ _ e]at hk;obtain⟨b,E,h1,h2,h3,h4,h5⟩:=hg.map k es ck hk;exact⟨b,E,hle.bL h1,h2,h3,h4.mono hle,h5.mono hle⟩
 ·have ht:br O.hp O.next (some (.map [] 0)) t=some .tok:=ht;by_cases e:t=O.next
  ·subst e;rw[aG]at ht;cases ht
  ·rw[aw _ _ e]at ht;obtain⟨b,f,k,r,D,T',h1,h2,h3,h4,h6,h7⟩:=hg.tok t ht;obtain⟨_,_,_,_,_,_,WW,_,WX,_⟩:=h.tok t ht;refine⟨b,f,k,r,D,T',h1,h2,h3,h4,h6,fun j hj=>?_⟩;rcases eh j b hj with⟨_,rfl⟩ | ⟨_,hj⟩
   ·rw[h1]at WW;injection WW with e1;injection e1 with e1 _;subst e1
    have:=nQ WX;omega
   ·exact h7 j hj
 ·have hs:br O.hp O.next (some (.map [] 0)) s=some .tok:=hs;have ht:br O.hp O.next (some (.map [] 0)) t=some .tok:=ht;have es:s≠O.next:=fun e=>by subst e;rw[aG]at hs;cases hs
  have et:t≠O.next:=fun e=>by subst e;rw[aG]at ht;cases ht
  rw[aw _ _ es]at hs;rw[aw _ _ et]at ht;exact h.kA s t b x y hs ht h1 h2
theorem bytes_beq (a b:List UInt8):((⟨⟨a⟩⟩:ByteArray)==⟨⟨b⟩⟩)=(a==b):=by
 show((⟨a⟩:Array UInt8)==⟨b⟩)=(a==b);rw[Bool.eq_iff_iff,beq_iff_eq,beq_iff_eq,Array.mk.injEq]
def H0 (d:TypeDesc) (x y:MV):Option Bool:=
 match d,x,y with
 | .int _,.v (.int k a),.v (.int k' b)=>if k=k' then some (a==b)else none
 | .string,.str a,.str b=>some (a==b)
 | _,_,_=>none
theorem Gn {d:TypeDesc} {x y:MV} {u v:Value} {b:Bool} (h:H0 d x y=some b) (hx:VR G x u) (hy:VR G y v):Instr.sameNow d u v=some b/\(b=true->Instr.sameBits 10000 v u=true):=by
 unfold H0 at h;split at h
 ·split at h
  ·rename_i he;subst he;injection h with h;cases hx;cases hy
   refine⟨by simp[Instr.sameNow,h],fun hb=>?_⟩;rw[hb]at h;have:=eq_of_beq h;subst this;simp[Instr.sameBits]
  ·cases h
 ·injection h with h;cases hx;cases hy;refine⟨by rw[<-h];exact congrArg some (bytes_beq _ _),fun hb=>?_⟩;rw[hb]at h;have:=eq_of_beq h;subst this;show((_:ByteArray)==_)=true;rw[bytes_beq];exact h
 ·cases h
def uj (d:TypeDesc) (k:MV):wO->Nat->Option (Option (Nat×MV))
 | [],_=>some none
 | e::es,i=>match H0 d k e.1 with
   | some true=>some (some (i,e.2.1))
   | some false=>uj d k es (i+1)
   | none=>none
theorem rz {d:TypeDesc} {k:MV} {kv:Value} (hk:VR G k kv):∀{es:wO} {E:List MapEntry} {i:Nat} {r:Option (Nat×MV)},uj d k es i=some r->gn G es E->
  match r with
  | none=>Instr.findNow d kv E i=some none
  | some (j,m)=>∃v,Instr.findNow d kv E i=some (some (j,v))/\VR G m v/\i<=j/\(E[j - i]?).map (fun e=>Instr.sameBits 10000 e.key kv)=some true/\j - i<E.length
 | [],E,i,r,h,hr=>by
   rw[hr.fw];injection h with h;subst h
   rfl
 | x::es,E,i,r,h,hr=>by
   obtain⟨y,E',rfl,h1,h2,h3,h4⟩:=hr.cB;rw[uj]at h;split at h
   ·rename_i hs;injection h with h;subst h
    obtain⟨g1,g3⟩:=Gn hs hk h2;exact⟨y.val,by simp[Instr.findNow,g1],h3,Nat.le_refl _,by simp[g3],by simp⟩
   ·rename_i hs;obtain⟨g1,_⟩:=Gn hs hk h2;have ih:=rz hk h h4;cases r with
    | none=>simp only[Instr.findNow,g1];exact ih
    | some p=>
      obtain⟨j,m⟩:=p;obtain⟨v,i1,i2,i3,i4,i5⟩:=ih;refine⟨v,by simp only[Instr.findNow,g1];exact i1,i2,by omega,?_,by simp;omega⟩;rw[show j - i=(j - (i+1))+1 by omega,List.getElem?_cons_succ];exact i4
   ·cases h
def Bx (d:TypeDesc) (k:MV):Bool:=
 match d,k with
 | .int k,.v (.int k' _)=>decide (k'=k)
 | .string,.str _=>true
 | _,_=>false
theorem yE {d:TypeDesc} {k:MV} {kv:Value} (h:Bx d k=true) (hk:VR G k kv):IsKey d kv:=by
 unfold Bx at h;split at h
 ·cases hk;simpa[IsKey]using h
 ·cases hk;simp[IsKey]
 ·cases h
def yF (i:cz):Option MV:=if eC i.under then some (.agg i.zero)else i.zero[0]?
theorem xL {t:TypeId} {i:cz} (h:wZ P t i) (hm:yF i=some m):∃z,(∀w,(zeroValue t).run P w= .ok z w)/\∀G,VR G m z:=by
 obtain⟨ti,z,h1,_,_,h4,h5,h6⟩:=h.info;refine⟨z,fun w=>by simp[zeroValue,typeInfo,h1,h4],fun G=>?_⟩;obtain⟨w1,w2⟩:=h.whole ti z h1 h4;have h6:=h6 G;unfold yF at hm;split at hm
 ·rename_i ha;injection hm with hm;subst hm
  obtain⟨cs,rfl⟩:=w1 ha;exact VR.agg h6.1 h6.2
 ·rename_i ha;have ha:eC i.under=false:=by simpa using ha
  rw[w2 ha]at h6;obtain⟨u,hu,hv⟩:=h6.get hm;have:i.zero.length=1:=by have:=h6.1;simpa using this.symm
  have h0:(0:Nat)<1:=by omega
  simp only[Array.toList,List.getElem?_cons_zero,Option.some.injEq]at hu;subst hu;exact hv
def mapOf (O:VH):MV->Option wO
 | .v (.map none)=>some []
 | .map b=>match O.hp b with
   | some (.map es _)=>some es
   | _=>none
 | _=>none
def jL (tab:b9) (O:VH) (t:TypeId) (x k:MV) (ok:Bool):Option MV:=
 match(tab t).map cz.under with
 | some (.map kt et)=>match(tab kt).map cz.under,tab et with
   | some kd,some te=>
     match Bx kd k,(mapOf O x).bind (uj kd k · 0)with
     | true,some (some (_,m))=>some (if ok then .tuple [m,.v (.bool true)]else m)
     | true,some none=>(yF te).map fun z=>if ok then .tuple [z,.v (.bool false)]else z
     | _,_=>none
   | _,_=>none
 | _=>none
theorem sq (ht:aK P tab) {t:TypeId} {d:TypeDesc} (h:(tab t).map cz.under=some d):P.underlying t=some d:=by
 obtain⟨i,hi,hu⟩:=Option.map_eq_some_iff.1 h;rw[<-hu];exact(ht t i hi).under
theorem w6 (ht:aK P tab) (h:WR G O w) {t:TypeId} {x k:MV} {ok:Bool} {u kv:Value} (hv:jL tab O t x k ok=some m) (hx:VR G x u) (hk:VR G k kv):∃r,VR G m r/\∀y,Sx G w y->(Instr.lookup t u kv ok).run P y= .ok r y:=by
 unfold jL at hv;split at hv
 ·rename_i kt et hmt;have hU:=sq ht hmt;split at hv
  ·rename_i kd te uk ni;have hK:=sq ht uk
   have cc:∀(es:wO),mapOf O x=some es->∃E:Array MapEntry,gn G es E.toList/\((u= .map none/\E= #[])\/∃r ck,u= .map (some r)/\∀y,Sx G w y->y.heap[r]?=some (.map E ck)):=by
    intro es Dd;unfold mapOf at Dd;split at Dd
    ·injection Dd with Dd;subst Dd
     cases hx;exact⟨#[],gn.nil,.inl ⟨rfl,rfl⟩⟩
    ·rename_i b;split at Dd
     ·rename_i Fu ck hb;injection Dd with Dd;subst Dd
      cases hx with
      | map h1=>
        obtain⟨b',E,e1,e2,e3,e4,e5⟩:=h.map _ _ _ hb;rw[h1]at e1;injection e1 with e1;subst e1
        exact⟨E,⟨e3,e4,e5⟩,.inr ⟨_,_,rfl,fun y hy=>(hy.2 _ _ h1).trans e2⟩⟩
     ·cases Dd
    ·cases Dd
   split at hv
   ·rename_i j m2 um hf;injection hv with hv;obtain⟨es,h1,h2⟩:=Option.bind_eq_some_iff.1 hf;obtain⟨E,hE,Xb⟩:=cc es h1;obtain⟨v,f1,f2,_⟩:=rz hk h2 hE;have th:=yE um hk;refine⟨if ok then .tuple #[v,.bool true]else v,?_,fun y hy=>?_⟩;rotate_left
    ·rcases Xb with⟨rfl,rfl⟩ | ⟨r,ck,rfl,hb⟩
     ·simp only[Instr.lookup,Sem.run_bind,run_underlying hU,Result.andThen_ok,run_checkKey hK th,run_findKey hK f1,Sem.run_pure]
     ·simp only[Instr.lookup,Sem.run_bind,run_underlying hU,Result.andThen_ok,MapKept.run_getObj_map (hb y hy),run_checkKey hK th,run_findKey hK f1,Sem.run_pure]
    ·subst hv;cases ok
     ·exact f2
     ·exact VR.tuple (us:=[v,.bool true]) rfl (aO.cons f2 (aO.cons (.v rfl) aO.nil)).2
   ·rename_i um hf;obtain⟨z,hz,hzm⟩:=Option.map_eq_some_iff.1 hv;obtain⟨es,h1,h2⟩:=Option.bind_eq_some_iff.1 hf;obtain⟨E,hE,Xb⟩:=cc es h1;have f1:=rz hk h2 hE;have th:=yE um hk;obtain⟨zv,z1,z2⟩:=xL (ht et te ni) hz;refine⟨if ok then .tuple #[zv,.bool false]else zv,?_,fun y hy=>?_⟩;rotate_left
    ·rcases Xb with⟨rfl,rfl⟩ | ⟨r,ck,rfl,hb⟩
     ·simp only[Instr.lookup,Sem.run_bind,run_underlying hU,Result.andThen_ok,run_checkKey hK th,run_findKey hK f1,Sem.run_pure,z1]
     ·simp only[Instr.lookup,Sem.run_bind,run_underlying hU,Result.andThen_ok,MapKept.run_getObj_map (hb y hy),run_checkKey hK th,run_findKey hK f1,Sem.run_pure,z1]
    ·subst hzm;cases ok
     ·exact z2 G
     ·exact VR.tuple (us:=[zv,.bool false]) rfl (aO.cons (z2 G) (aO.cons (.v rfl) aO.nil)).2
   ·cases hv
  ·cases hv
 ·cases hv
theorem JU (ht:aK P tab) (h:WR G O w) {t:TypeId} {x k:MV} {ok:Bool} {u kv:Value} (hv:jL tab O t x k ok=some m) (hx:VR G x u) (hk:VR G k kv):ad8 P (Instr.lookup t u kv ok) w G m:=by
 obtain⟨r,h1,h2⟩:=w6 (P:=P) ht h hv hx hk;exact⟨r,h2 w h.sx,h1⟩
def setAt (es:wO) (i:Nat) (k v:MV):wO:=es.modify i fun e=>(k,v,e.2.2)
def fm (tab:b9) (O:VH) (t:TypeId) (x k y:MV):Option VH:=
 match(tab t).map cz.under,x with
 | some (.map kt _),.map b=>match(tab kt).map cz.under,O.hp b with
   | some kd,some (.map es ck)=>match Bx kd k,uj kd k es 0 with
     | true,some (some (i,_))=>some (O.set b (.map (setAt es i k y) ck))
     | true,some none=>some (O.set b (.map (es++[(k,y,ck)]) (ck+1)))
     | _,_=>none
   | _,_=>none
 | _,_=>none
theorem gn.modify {k y:MV} {kv yv:Value} (hk:VR G k kv) (hy:VR G y yv):∀{es:wO} {E:List MapEntry} (i:Nat),gn G es E->gn G (setAt es i k y) (E.modify i fun e=>{e with key:=kv,val:=yv})
 | [],E,i,h=>by rw[h.fw];simpa[setAt]using gn.nil
 | x::es,E,i,h=>by
   obtain⟨z,E',rfl,h1,h2,h3,h4⟩:=h.cB;cases i with
   | zero=>simp only[setAt,List.modify_zero_cons];exact gn.cons h1 hk hy h4
   | succ i=>
     simp only[setAt,List.modify_succ_cons];exact gn.cons h1 h2 h3 (gn.modify hk hy i h4)
theorem uo (ht:aK P tab) (h:WR G O w) {t:TypeId} {x k y:MV} {u kv yv:Value} (hv:fm tab O t x k y=some O') (hx:VR G x u) (hk:VR G k kv) (hy:VR G y yv):HU P (Instr.mapUpdate t u kv yv) w G O':=by
 unfold fm at hv;split at hv
 ·rename_i kt et b hmt;have hU:=sq ht hmt;split at hv
  ·rename_i kd es ck uk hb;have hK:=sq ht uk;cases hx with
   | map h1=>
     obtain⟨b',E,e1,e2,e3,e4,e5⟩:=h.map _ _ _ hb;rw[h1]at e1;injection e1 with e1;subst e1
     have hE:gn G es E.toList:=⟨e3,e4,e5⟩;split at hv
     ·rename_i i m um hf;injection hv with hv;subst hv
      obtain⟨v,f1,f2,f3,f4,f5⟩:=rz hk hf hE;have th:=yE um hk;simp only[Nat.sub_zero]at f4 f5;have oc:i<E.size:=by simpa using f5
      have sm:Instr.sameBits 10000 (((E[i]?).map (·.key)).getD kv) kv=true:=by
       rw[Array.getElem?_eq_getElem oc];simp only[Array.getElem?_toList,Array.getElem?_eq_getElem oc,Option.map_some,Option.some.injEq]at f4;exact f4
      have hr:gn G (setAt es i k y) (E.modify i fun e=>{e with key:=kv,val:=yv}).toList:=by
       have:=gn.modify hk hy i hE
       rwa [<-Array.toList_modify]at this
      refine⟨_,G,?_,Gh.Le.refl G,h.so (ck':=ck) hb h1 e2 hr⟩;simp only[Instr.mapUpdate,Sem.run_bind,run_underlying hU,Result.andThen_ok,MapKept.run_getObj_map e2,run_checkKey hK th,run_findKey hK f1];rw[Instr.keyThatStays,if_pos sm];simp only[Sem.run_pure,Result.andThen_ok,run_setObj_map _ e2]
     ·rename_i um hf;injection hv with hv;subst hv
      have f1:=rz hk hf hE;have th:=yE um hk
      have hr:gn G (es++[(k,y,ck)]) (E.push {key:=kv,val:=yv,born:=ck}).toList:=by
       rw[Array.toList_push];exact hE.append (gn.cons rfl hk hy gn.nil)
      refine⟨_,G,?_,Gh.Le.refl G,h.so (ck':=ck+1) hb h1 e2 hr⟩;simp only[Instr.mapUpdate,Sem.run_bind,run_underlying hU,Result.andThen_ok,MapKept.run_getObj_map e2,run_checkKey hK th,run_findKey hK f1,run_setObj_map _ e2]
     ·cases hv
  ·cases hv
 ·cases hv
theorem H3 (h:WR G O w) {t:TypeId}:gJ P (Instr.makeMap t none) w G (O.push (.map [] 0)) (.map O.next):=by
 obtain⟨h1,h2⟩:=h.Xa;exact⟨_,_,_,by simp[Instr.makeMap,newObj,Sem.run],h1,h2,.map (aG _ _ _),jz.alloc h _⟩
end
section
variable {G H:Gh} {n:Sz} {D:List Deferred} {e e':Env} {a:Act} {P:Program} {tab:b9} {O O':VH} {w:World} {m m':MV} {u v:Value}
def ft:List MV->Bool
 | [.v (.pointer none),.sl 0 [] .nil]=>true
 | _=>false
def vY (O:VH) (t:TypeId) (n:Nat) (z:List MV):VH:=bif ft z then(O.push (.cells z)).push (.shape O.next t n)else O.push (.cells z)
theorem WR.De (h:WR G O w) {k b:Nat} {t:TypeId} {s:Nat} (hp:G.bL k=some b) (hs:w.shape? b=some (t,s)):WR G (O.push (.shape k t s)) w:=by
 have hne:∀{j x},br O.hp O.next (some (.shape k t s)) j=some x->(∀k t n,x≠ .shape k t n)->O.hp j=some x:=fun{j x} hj hx=>by
  by_cases e:j=O.next
  ·subst e;rw[aG]at hj;injection hj with hj;exact absurd hj.symm (hx _ _ _)
  ·rwa [aw _ _ e]at hj
 have iR:∀j b,G.bL j=some b->br O.hp O.next (some (.shape k t s)) j≠none->O.hp j≠none:=fun j b hj hn=>by
  rwa [aw _ _ (fun e=>by subst e;rw[h.mc.1]at hj;cases hj)]at hn
 refine⟨h.base,h.dX,fun j hj=>?_,fun j c hj=>?_,fun i j c li lj hi hj=>h.inj i j c (iR i c hi li) (iR j c hj lj) hi hj,fun j cs hj=>h.cells j cs (hne hj (by simp)),fun j es ck hj=>h.map j es ck (hne hj (by simp)),fun t ht=>h.tok t (hne ht (by simp)),fun s t c x y hs ht=>h.kA s t c x y (hne hs (by simp)) (hne ht (by simp)),fun j k' t' n' hj=>?_,fun j x hj=>h.obj j x (hne hj (by simp)),h.pd,fun k p hk=>h.yz k p (hne hk (by simp))⟩
 ·have hj:O.next+1<=j:=hj;obtain⟨h1,h2,h3⟩:=h.oN j (by omega);exact⟨h1,h2,by show br _ _ _ _=_;rw[aw _ _ (by omega)];exact h3⟩
 ·obtain⟨p1,p2,p3⟩:=h.jI j c hj;exact⟨p1,p2,fun hn=>p3 (iR j c hj hn)⟩
 ·have hj:br O.hp O.next (some (.shape k t s)) j=some (.shape k' t' n'):=hj;by_cases e:j=O.next
  ·subst e;rw[aG]at hj;injection hj with hj;injection hj with e1 e2 e3;subst e1;subst e2;subst e3;exact⟨b,hp,hs⟩
  ·rw[aw _ _ e]at hj;exact h.nw j k' t' n' hj
def iy (tab:b9) (o:Oper) (e:Env) (O:VH):Option (MV×VH):=
 match o.op with
 | .load t x=>(ev e x).bind fun p=>(eQ tab O t p).map (·,O)
 | .store t x y=>match ev e x,ev e y with
   | some p,some q=>(vP tab O t p q).map (.tuple [], ·)
   | _,_=>none
 | .box _ x=>(ev e x).map fun p=>(.ptr O.next 0,O.push (.cells (dI p)))
 | .alloc t=>(tab t).map fun i=>(.ptr O.next 0,vY O t i.size i.zero)
 | .buildSlice t len parts=>match fG e (parts.toList.map (·.2))with
   | some ms=>(kP tab t len (fV parts ms)).map (·,O)
   | none=>none
 | .makeSlice t l c=>match ev e l,ev e c with
   | some p,some q=>mg tab O t p q
   | _,_=>none
 | .call c=>match c.callee,c.args.toList,c.argTypes.toList with
   | .builtin .append,[x,y],[t,t']=>if t=t' then match ev e x,ev e y with
     | some p,some q=>gY tab O t p q
     | _,_=>none
     else none
   | .builtin .len,[x],[t]=>(ev e x).bind fun p=>(pf tab O t p).map (·,O)
   | _,_,_=>none
 | .makeMap _ none=>some (.map O.next,O.push (.map [] 0))
 | .lookup t x k ok=>match ev e x,ev e k with
   | some p,some q=>(jL tab O t p q ok).map (·,O)
   | _,_=>none
 | .mapUpdate t x k y=>match ev e x,ev e k,ev e y with
   | some p,some q,some r=>(fm tab O t p q r).map (.tuple [], ·)
   | _,_,_=>none
 | .insert t x k y=>match ev e x,ev e k,ev e y with
   | some p,some q,some r=>(fm tab O t p q r).map (.tuple [], ·)
   | _,_,_=>none
 | _=>none
def Fv:Op->Bool
 | .store .. | .mapUpdate .. | .insert .. =>false
 | .call c=>match c.callee with
   | .builtin _=>true
   | _=>false
 | _=>true
def dq (P:Program) (o:Oper) (a:Act) (w:World) (G:Gh) (m:MV) (O':VH):Prop:=
 ∃nx w' H u,(execOp a.eval o).run P w= .ok nx w'/\(nx= .value u\/(nx= .skip/\u=undef))/\Gh.Le G H/\WR H O' w'/\VR H m u/\(Fv o.op=true->jz G w w')
theorem dq.of {o:Oper} {s:Sem Value} (hs:gJ P s w G O' m) (he:execOp a.eval o=(do pure (.value (<-s)))):dq P o a w G m O':=by
 obtain⟨u,w',H,hr,h1,h2,h3,h4⟩:=hs;exact⟨.value u,w',H,u,by rw[he,Sem.run_bind,hr];rfl,.inl rfl,h1,h2,h3,fun _=>h4⟩
theorem dq.ofU {o:Oper} {s:Sem Unit} (hs:HU P s w G O') (hA:Fv o.op=false) (he:execOp a.eval o=(do s;pure .skip)):dq P o a w G (.tuple []) O':=by
 obtain⟨w',H,hr,h1,h2⟩:=hs;exact⟨.skip,w',H,undef,by rw[he,Sem.run_bind,hr];rfl,.inr ⟨rfl,rfl⟩,h1,h2,VR.tuple (us:=[]) rfl (fun i c u h=>by simp at h),fun h=>by rw[hA]at h;cases h⟩
theorem S_ (ht:aK P tab) (hw:WR G O w) (h:FR G n D e a) {o:Oper} (hv:iy tab o e O=some (m,O')):dq P o a w G m O':=by
 unfold iy at hv;split at hv
 ·rename_i t x ho;obtain⟨p,h1,h2⟩:=Option.bind_eq_some_iff.1 hv;obtain⟨q,h3,h4⟩:=Option.map_eq_some_iff.1 h2;simp only[Prod.mk.injEq]at h4;obtain⟨rfl,rfl⟩:=h4;exact dq.of (Gl ht hw h3 (h.ev h1)) (by simp[execOp,ho])
 ·rename_i t x y ho;split at hv
  ·rename_i p q h1 h2;obtain⟨O2,h3,h4⟩:=Option.map_eq_some_iff.1 hv;simp only[Prod.mk.injEq]at h4;obtain⟨rfl,rfl⟩:=h4;exact dq.ofU (NM ht hw h3 (h.ev h1) (h.ev h2)) (by rw[ho];rfl) (by simp[execOp,ho])
  ·cases hv
 ·rename_i t x ho;obtain⟨p,h1,h2⟩:=Option.map_eq_some_iff.1 hv;simp only[Prod.mk.injEq]at h2;obtain⟨rfl,rfl⟩:=h2;exact dq.of (W5 (t:=t) hw (h.ev h1)) (by simp[execOp,ho])
 ·rename_i t ho;obtain⟨i,h1,h2⟩:=Option.map_eq_some_iff.1 hv;simp only[Prod.mk.injEq]at h2;obtain⟨rfl,rfl⟩:=h2;obtain⟨z,Cc,sk,Fs⟩:=Gj (ht t i h1) w
  have hr:(Instr.alloc t true (.tuple #[])).run P w= .ok (.pointer (some ⟨w.heap.size,0,none⟩)) (w.alloc (.cells z.cells t)):=by
   simp only[Instr.alloc,Sem.run_bind,Cc,Result.andThen_ok];simp[newVar,newRow,newObj,Sem.run]
  obtain⟨g1,g2⟩:=hw.push t (Fs G);refine dq.of (s:=Instr.alloc t true (.tuple #[])) ⟨_,_,_,hr,g1,?_,.ptr (aG _ _ _),jz.alloc hw _⟩ (by simp[execOp,ho]);unfold vY;cases ft i.zero with
  | false=>exact g2
  | true=>
    refine g2.De (aG _ _ _) ?_;have:(w.alloc (.cells z.cells t)).heap[w.heap.size]?=some (.cells z.cells t):=by rw[eY,if_pos rfl]
    simp only[World.shape?,this,sk]
 ·rename_i t len parts ho;split at hv
  ·rename_i ms h1;obtain⟨p,h2,h3⟩:=Option.map_eq_some_iff.1 hv;simp only[Prod.mk.injEq]at h3;obtain⟨rfl,rfl⟩:=h3;have NX:ms.length=parts.toList.length:=by simpa using Bw h1
   refine dq.of (td ht hw h2 (ps:=parts.map fun(i,x)=>(i,a.eval x)) ?_ ?_) (by simp[execOp,ho])
   ·rw[zip_fst parts ms NX,Db]
   ·rw[JS parts ms NX,Dc];exact h.fG h1
  ·cases hv
 ·rename_i t l c ho;split at hv
  ·rename_i p q h1 h2;exact dq.of (C7 ht hw hv (h.ev h1) (h.ev h2)) (by simp[execOp,ho])
  ·cases hv
 ·rename_i c ho;split at hv
  ·rename_i x y t t' hc gU JT;split at hv
   ·rename_i Fw;subst Fw;split at hv
    ·rename_i p q h1 h2;have ha:c.args= #[x,y]:=by apply Array.ext';exact gU
     have fh:c.argTypes= #[t,t]:=by apply Array.ext';exact JT
     exact dq.of (JQ (ty:=o.type) ht hw hv (h.ev h1) (h.ev h2)) (by simp[execOp,ho,resolve,hc,ha,fh,invoke,builtin])
    ·cases hv
   ·cases hv
  ·rename_i x t hc gU JT;obtain⟨p,h1,h2⟩:=Option.bind_eq_some_iff.1 hv;obtain⟨q,h3,h4⟩:=Option.map_eq_some_iff.1 h2;simp only[Prod.mk.injEq]at h4;obtain⟨rfl,rfl⟩:=h4;have ha:c.args= #[x]:=by apply Array.ext';exact gU
   have fh:c.argTypes= #[t]:=by apply Array.ext';exact JT
   exact dq.of (JN (ty:=o.type) ht hw h3 (h.ev h1)) (by simp[execOp,ho,resolve,hc,ha,fh,invoke,builtin])
  ·cases hv
 ·rename_i t ho;simp only[Option.some.injEq,Prod.mk.injEq]at hv;obtain⟨rfl,rfl⟩:=hv;exact dq.of (H3 (t:=t) hw) (by simp[execOp,ho])
 ·rename_i t x k ok ho;split at hv
  ·rename_i p q h1 h2;obtain⟨r,h3,h4⟩:=Option.map_eq_some_iff.1 hv;simp only[Prod.mk.injEq]at h4;obtain⟨rfl,rfl⟩:=h4;obtain⟨z,g1,g2⟩:=JU (P:=P) ht hw h3 (h.ev h1) (h.ev h2);exact dq.of (gJ.of hw g1 g2) (by simp[execOp,ho])
  ·cases hv
 ·rename_i t x k y ho;split at hv
  ·rename_i p q r h1 h2 h3;obtain⟨O2,h4,h5⟩:=Option.map_eq_some_iff.1 hv;simp only[Prod.mk.injEq]at h5;obtain⟨rfl,rfl⟩:=h5;exact dq.ofU (uo ht hw h4 (h.ev h1) (h.ev h2) (h.ev h3)) (by rw[ho];rfl) (by simp[execOp,ho])
  ·cases hv
 ·rename_i t x k y ho;split at hv
  ·rename_i p q r h1 h2 h3;obtain⟨O2,h4,h5⟩:=Option.map_eq_some_iff.1 hv;simp only[Prod.mk.injEq]at h5;obtain⟨rfl,rfl⟩:=h5;exact dq.ofU (uo ht hw h4 (h.ev h1) (h.ev h2) (h.ev h3)) (by rw[ho];rfl) (by simp[execOp,ho])
  ·cases hv
 ·cases hv
def c6 (tab:b9) (o:Oper) (e:Env) (O:VH):Option (MV×VH):=
 match ew tab o e with
 | some m=>some (m,O)
 | none=>iy tab o e O
theorem CK (ht:aK P tab) (hw:WR G O w) (h:FR G n D e a) {o:Oper} (hv:c6 tab o e O=some (m,O')):dq P o a w G m O':=by
 unfold c6 at hv;split at hv
 ·rename_i p hp;simp only[Option.some.injEq,Prod.mk.injEq]at hv;obtain⟨rfl,rfl⟩:=hv;obtain⟨u,hu,hr⟩:=uh (P:=P) ht h hp;exact⟨.value u,w,G,u,hr w hw.ss,.inl rfl,Gh.Le.refl G,hw,hu,fun _=>jz.refl _ _⟩
 ·exact S_ ht hw h hv
inductive VX where
 | normal | exit (id:Nat) | goto (l:Nat) | ret | panic (m:MV)
def XR (G:Gh):VX->Exit->Prop
 | .normal,.normal=>True
 | .exit i,.exit j=>i=j
 | .goto i,.goto j=>i=j
 | .ret,.ret=>True
 | .panic m,.panic c=>∃u,c=[{v:=u,recovered:=false}]/\VR G m u
 | _,_=>False
abbrev VQ:=VX->Env->VH->Prop
def FRX (G:Gh) (n:Sz) (D:List Deferred):VX->Env->Act->Prop
 | .panic _,e,a=>(∀t x,look e t=some x->t<n.lo)/\FR G n D e a
 | _,e,a=>FR G n D e a
def cx (G:Gh) (n:Sz) (D:List Deferred) (Q:VQ):Exit->Act->World->Prop:=fun y a w=>∃x e O H,Gh.Le G H/\WR H O w/\FRX H n D x e a/\XR H x y/\Q x e O
theorem cx.le (h:G.Le H) {Q:VQ} {y:Exit} (hp:cx H n D Q y a w):cx G n D Q y a w:=by
 obtain⟨x,e,O,K,h1,h2⟩:=hp;exact⟨x,e,O,K,h.trans h1,h2⟩
theorem cx.mono {Q Q':VQ} (hQ:∀x e O,Q x e O->Q' x e O) {y:Exit} (hp:cx G n D Q y a w):cx G n D Q' y a w:=by
 obtain⟨x,e,O,K,h1,h2,h3,h4,h5⟩:=hp;exact⟨x,e,O,K,h1,h2,h3,h4,hQ _ _ _ h5⟩
theorem Df:∀t x,look (kB n e) t=some x->t<n.lo:=fun t x hx=>by
 rw[xB]at hx;split at hx
 ·assumption
 ·cases hx
theorem Az:∀t x,look (kB n e) t=some x->look e t=some x:=fun t x hx=>by
 rw[xB]at hx;split at hx
 ·exact hx
 ·cases hx
def g_ (P:Program) (n:Sz) (D:List Deferred) (ops:Array Oper) (l:List Nat) (e:Env) (O:VH) (Q:VQ):Prop:=
 ∀G a w,WR G O w->FR G n D e a->wpOps P ops (cx G n D Q) l a w
def VC (P:Program) (n:Sz) (D:List Deferred) (c:Code) (e:Env) (O:VH) (Q:VQ):Prop:=
 ∀G a w,WR G O w->FR G n D e a->c.wp P (cx G n D Q) a w
def aU (d:Option Tmp) (m:MV) (e:Env):Env:=match d with
 | some d=>(d,m)::e
 | none=>e
def bm (n:Sz) (d:Option Tmp):Bool:=match d with
 | some d=>decide (n.lo<=d)&&decide (d<n.n)
 | none=>true
theorem FR.aU (h:FR G n D e a) {d:Option Tmp} (hd:bm n d=true) (hu:VR G m u):FR G n D (aU d m e) (a.put d u):=by
 cases d with
 | none=>exact h
 | some d=>exact FR.put h (by simp[bm]at hd;exact hd.2) hu
def aL (ops:Array Oper) (o:Oper) (e:Env):Option Bool:=
 match o.guard with
 | none=>some true
 | some (j,want)=>match(ops[j]?).bind (·.dst)with
   | some d=>match look e d with
     | some (.v (.bool b))=>some (b==want)
     | some (.tuple [])=>some false
     | _=>none
   | none=>none
theorem bj (h:FR G n D e a) {ops:Array Oper} {o:Oper} {b:Bool} (hv:aL ops o e=some b):Region.wanted o (yielded ops a.tmps)=b:=by
 unfold aL at hv;unfold Region.wanted;split at hv
 ·rename_i hg;injection hv with hv;rw[hg, <-hv]
 ·rename_i j want hg;rw[hg];split at hv
  ·rename_i d hd;split at hv
   ·rename_i b' hl;injection hv with hv;obtain⟨u,h1,h2⟩:=h.get d _ hl;have:=h2.iw;subst this;simp only[yielded,hd,Option.bind_some,h1];rw[<-hv];cases b'<;>cases want<;>rfl
   ·rename_i hl;injection hv with hv;obtain⟨u,h1,h2⟩:=h.get d _ hl;cases h2 with
    | tuple _ _=>
      simp only[yielded,hd,Option.bind_some,h1];rw[<-hv];rfl
   ·cases hv
  ·cases hv
def cD:MV:=.tuple []
theorem kQ:VR G cD undef:=VR.tuple (us:=[]) rfl fun i c u h=>by simp at h
theorem g_.nil {ops:Array Oper} {Q:VQ} (h:Q .normal e O):g_ P n D ops [] e O Q:=fun G a w hw hf=>⟨.normal,e,O,G,Gh.Le.refl G,hw,hf,trivial,h⟩
theorem lV {ops:Array Oper} {Q Q':Exit->Act->World->Prop} (hQ:∀y a w,Q y a w->Q' y a w):∀(l:List Nat) (a:Act) (w:World),wpOps P ops Q l a w->wpOps P ops Q' l a w:=by
 intro l;induction l with
 | nil=>intro a w h;exact hQ _ _ _ h
 | cons i rest ih=>
   intro a w h;rw[wpOps_cons]at h ⊢;have h1:=wpOp_mono (K':=wpOps P ops Q' rest) ih h;unfold wpOp at h1 ⊢;split
   ·rename_i ho;simp only[ho]at h1;exact h1
   ·rename_i o ho;simp only[ho]at h1;split
    ·rename_i rA;simp only[rA,if_true]at h1;refine h1.imp (fun h2=>?_) (fun⟨h2,a',w',h3⟩=>⟨h2,a',w',hQ _ _ _ h3⟩);unfold Oper.wp at h2 ⊢;generalize (execOp a.eval o).run P w=r at*;cases r with
     | ok nx w'=>
       cases nx<;>simp only[Oper.upon]at h2 ⊢ <;>first
        | exact h2
        | (refine Calls.mono h2 fun x Fx he=>?_
           cases x with
           | returned v=>exact he
           | panicked c=>exact hQ _ _ _ he
           | outgrown=>obtain⟨a',w',h3⟩:=he;exact⟨a',w',hQ _ _ _ h3⟩)
     | halt x w'=>cases x<;>simp only[Oper.upon]at h2 ⊢ <;>first | exact h2 | exact hQ _ _ _ h2
    ·rename_i rA;simp only[rA]at h1;exact h1
theorem g_.step (ht:aK P tab) {ops:Array Oper} {i:Nat} {l:List Nat} {o:Oper} {Q:VQ} (ho:ops[i]?=some o) (hg:aL ops o e=some true) (hv:c6 tab o e O=some (m,O')) (hd:bm n o.dst=true)
  (h:g_ P n D ops l (aU o.dst m e) O' Q):g_ P n D ops (i::l) e O Q:=by
 intro G a w hw hf;obtain⟨nx,w',H,u,hr,wP,h1,h2,h3,_⟩:=CK (P:=P) ht hw hf hv;simp only[wpOps,ho,bj hf hg,if_true];refine .inl ?_;unfold Oper.wp;rw[hr]
 have hk:wpOps P ops (cx G n D Q) l (a.put o.dst u) w':=by
  exact lV (fun _ _ _=>cx.le h1) l _ _ (h H (a.put o.dst u) w' h2 ((hf.mono h1).aU hd h3))
 rcases wP with rfl | ⟨rfl,rfl⟩
 ·exact hk
 ·exact hk
theorem g_.skip {ops:Array Oper} {i:Nat} {l:List Nat} {o:Oper} {Q:VQ} (ho:ops[i]?=some o) (hg:aL ops o e=some false) (hd:bm n o.dst=true)
  (h:g_ P n D ops l (aU o.dst cD e) O Q):g_ P n D ops (i::l) e O Q:=by
 intro G a w hw hf;simp only[wpOps,ho,bj hf hg,Bool.false_eq_true,if_false];exact h G _ w hw (hf.aU hd kQ)
inductive fL where
 | ret (m:MV) | panic (m:MV)
def ER (G:Gh):fL->Ending->Prop
 | .ret m,.returned v=>VR G m v
 | .panic m,.panicked c=>∃u,c=[{v:=u,recovered:=false}]/\VR G m u
 | _,_=>False
def VF (P:Program) (f:FuncId) (args:List MV) (O:VH) (R:fL->VH->Prop):Prop:=
 ∀G w vs,WR G O w->aO G args vs->Calls P f vs.toArray w fun x w'=>∃r O' H,Gh.Le G H/\WR H O' w'/\ER H r x/\R r O'
theorem VF.mono {f:FuncId} {args:List MV} {R R':fL->VH->Prop} (hR:∀r O,R r O->R' r O) (h:VF P f args O R):VF P f args O R':=
 fun G w vs hw hv=>(h G w vs hw hv).mono fun _ _ ⟨r,O',H,h1,h2,h3,h4⟩=>⟨r,O',H,h1,h2,h3,hR _ _ h4⟩
def Enters (P:Program) (f:FuncId):Prop:=∀args w,(callFunc f args).run P w= .ok (.enter f args) w
theorem Enters.of {f:FuncId} {fn:Func} (hf:P.funcs[f]?=some fn) (hn:(fn.name== "runtime.NumGoroutine")=false) (hb:fn.body.isNone=false):Enters P f:=by
 intro args w;have Xc:fn.name≠ "runtime.NumGoroutine" :=by simpa using hn
 have mF:fn.body≠none:=by intro h;rw[h]at hb;cases hb
 simp[callFunc,program,Sem.run,hf,Xc,mF]
theorem g_.call {ops:Array Oper} {i:Nat} {l:List Nat} {o:Oper} {Q:VQ} {c:Call} {f:Operand} {id:FuncId} {fs ms cs:List MV} {R:fL->VH->Prop} (ho:ops[i]?=some o) (hg:aL ops o e=some true) (uq:o.op= .call c) (hc:c.callee= .value f)
  (hf:ev e f=some (.func (.func id) fs cs)) (hm:fG e c.args.toList=some ms) (hE:Enters P id) (hd:bm n o.dst=true) (hR:VF P id (fs++ms++cs) O R)
  (h:∀r O',R r O'->match r with
   | .ret m=>g_ P n D ops l (aU o.dst m e) O' Q
   | .panic m=>Q (.panic m) (kB n e) O'):g_ P n D ops (i::l) e O Q:=by
 intro G a w hw aS;have rB:=aS.ev hf;generalize wQ:a.eval f=fv at rB;cases rB with
 | func h1 h2 h3 h4=>
   rename_i us vs;have gU:=aS.fG hm;have j9:=aO.append (aO.append (show aO G fs us from⟨h1,h2⟩) gU) (show aO G cs vs from⟨h3,h4⟩)
   have cc:(execOp a.eval o).run P w= .ok (.enter id (us++c.args.toList.map a.eval++vs).toArray) w:=by
    have ha:c.args.map a.eval=(c.args.toList.map a.eval).toArray:=by apply Array.ext';simp
    have:us.toArray++c.args.map a.eval++vs.toArray=(us++c.args.toList.map a.eval++vs).toArray:=by apply Array.ext';simp[ha]
    simp only[execOp,uq,resolve,hc,wQ,Deferred.ofValue,Sem.run_bind,Sem.run_pure,Result.andThen_ok,invoke,hE _ w];rw[this]
   simp only[wpOps,ho,bj aS hg,if_true];refine .inl ?_;unfold Oper.wp;rw[cc];show Calls P id _ w _;refine(hR G w _ hw j9).mono ?_;rintro x w' ⟨r,O',H,g1,g2,g3,g4⟩;have hk:=h r O' g4;cases r with
   | ret m=>
     cases x with
     | returned v=>exact lV (fun _ _ _=>cx.le g1) l _ _ (hk H _ w' g2 ((aS.mono g1).aU hd g3))
     | panicked c=>exact g3.elim
     | outgrown=>exact g3.elim
   | panic m=>
     cases x with
     | returned v=>exact g3.elim
     | panicked c=>exact⟨.panic m,kB n e,O',H,g1,g2,⟨Df,(aS.mono g1).less Az⟩,g3,hk⟩
     | outgrown=>exact g3.elim
theorem VC.mono {c:Code} {Q Q':VQ} (hQ:∀x e O,Q x e O->Q' x e O) (h:VC P n D c e O Q):VC P n D c e O Q':=
 fun G a w hw hf=>wp_mono (h G a w hw hf) fun _ _ _=>cx.mono hQ
theorem VC.env {c:Code} {Q:VQ} (h:VC P n D c e' O Q) (hl:∀t x,look e' t=some x->look e t=some x):VC P n D c e O Q:=
 fun G a w hw hf=>h G a w hw (hf.less hl)
theorem VC.skip {Q:VQ} (h:Q .normal e O):VC P n D .skip e O Q:=fun G a w hw hf=>wp_skip ⟨.normal,e,O,G,Gh.Le.refl G,hw,hf,trivial,h⟩
theorem VC.exit {Q:VQ} {id:Nat} (h:Q (.exit id) e O):VC P n D (.exit id) e O Q:=fun G a w hw hf=>wp_exit ⟨.exit id,e,O,G,Gh.Le.refl G,hw,hf,rfl,h⟩
theorem VC.label {Q:VQ} {l:Nat} (h:Q .normal e O):VC P n D (.label l) e O Q:=fun G a w hw hf=>wp_label ⟨.normal,e,O,G,Gh.Le.refl G,hw,hf,trivial,h⟩
def sr (Q:VQ):VQ:=fun x e O=>match x with
 | .goto _=>False
 | x=>Q x e O
theorem VC.scope {c:Code} {Q:VQ} (h:VC P n D c e O (sr Q)):VC P n D (.scope c) e O Q:=by
 intro G a w hw hf;refine wp_scope_straight (wp_mono (h G a w hw hf) ?_);rintro y a' w' ⟨x,e',O',H,h1,h2,h3,h4,h5⟩
 cases y<;>cases x<;>first
  | exact False.elim h4
  | exact h5.elim
  | exact⟨_,e',O',H,h1,h2,h3,h4,h5⟩
theorem VC.ret {Q:VQ} (h:Q .ret e O):VC P n D .ret e O Q:=fun G a w hw hf=>wp_ret ⟨.ret,e,O,G,Gh.Le.refl G,hw,hf,trivial,h⟩
theorem VC.seq {c d:Code} {Q:VQ} (h:VC P n D c e O fun x e O=>match x with
  | .normal=>VC P n D d e O Q
  | x=>Q x e O):VC P n D (.seq c d) e O Q:=by
 intro G a w hw hf;refine wp_seq (wp_mono (h G a w hw hf) ?_);rintro y a' w' ⟨x,e',O',H,h1,h2,h3,h4,h5⟩
 cases y<;>cases x<;>first
  | exact False.elim h4
  | exact wp_mono (h5 H a' w' h2 h3) fun _ _ _=>cx.le h1
  | exact⟨_,e',O',H,h1,h2,h3,h4,h5⟩
theorem VC.cond {c:Operand} {x y:Code} {t:Bool} {Q:VQ} (hc:ev e c=some (.v (.bool t))) (h1:t=true->VC P n D x e O Q) (h2:t=false->VC P n D y e O Q):VC P n D (.cond c x y) e O Q:=by
 intro G a w hw hf;have Ft:a.eval c= .bool t:=(hf.ev hc).iw;exact wp_cond_split Ft (fun ht=>h1 ht G a w hw hf) (fun ht=>h2 ht G a w hw hf)
theorem VC.block {c:Code} {id:Nat} {Q:VQ} (h:VC P n D c e O fun x e O=>match x with
  | .exit i=>if i=id then Q .normal e O else Q (.exit i) e O
  | x=>Q x e O):VC P n D (.block id c) e O Q:=by
 intro G a w hw hf;refine wp_block (wp_mono (h G a w hw hf) ?_);rintro y a' w' ⟨x,e',O',H,h1,h2,h3,h4,h5⟩;cases y with
 | exit j=>
   cases x with
   | exit i=>
     obtain rfl:i=j:=h4;simp only[Exit.inBlock];simp only at h5;split
     ·rename_i hi;rw[if_pos hi]at h5;exact⟨.normal,e',O',H,h1,h2,h3,trivial,h5⟩
     ·rename_i hi;rw[if_neg hi]at h5;exact⟨.exit i,e',O',H,h1,h2,h3,rfl,h5⟩
   | _=>exact False.elim h4
 | _=>cases x<;>first
   | exact False.elim h4
   | exact⟨_,e',O',H,h1,h2,h3,h4,h5⟩
theorem su {c:Code} {Q Q':Exit->Act->World->Prop} (hQ:∀y a w,Q y a w->Q' y a w):∀(k:Nat) (a:Act) (w:World),Code.rounds P c Q k a w->Code.rounds P c Q' k a w
 | 0,_,_,h=>h.elim
 | k+1,a,w,h=>by
   rw[rounds_succ]at h ⊢;refine wp_mono h fun y a' w' hy=>?_
   cases y<;>first
    | exact su hQ k a' w' hy
    | exact hQ _ _ _ hy
theorem xM {c:Code} {Q:Exit->Act->World->Prop}:∀(k j:Nat) (a:Act) (w:World),k<=j->Code.rounds P c Q k a w->Code.rounds P c Q j a w
 | 0,_,_,_,_,h=>h.elim
 | k+1,0,_,_,hj,_=>absurd hj (by omega)
 | k+1,j+1,a,w,hj,h=>by
   rw[rounds_succ]at h ⊢;refine wp_mono h fun y a' w' hy=>?_
   cases y<;>first
    | exact xM k j a' w' (by omega) hy
    | exact hy
theorem VC.loop {c:Code} {Q:VQ} (I:Nat->Env->VH->Prop) {k:Nat} (h0:I k e O) (h:∀k e O,I k e O->VC P n D c e O fun x e' O'=>match x with
  | .normal=>∃j,j<k/\I j e' O'
  | x=>Q x e' O'):VC P n D (.loop c) e O Q:=by
 intro G a w hw hf;refine wp_loop_rounds (k+1) ?_;induction k using Nat.strongRecOn generalizing e O G a w with
 | _ k ih=>
   rw[rounds_succ];refine wp_mono (h k e O h0 G a w hw hf) ?_;rintro y a' w' ⟨x,e',O',H,h1,h2,h3,h4,h5⟩
   cases y<;>cases x<;>first
    | exact False.elim h4
    | exact⟨_,e',O',H,h1,h2,h3,h4,h5⟩
    | (obtain⟨j,hj,hI⟩:=h5
       exact xM (j+1) k a' w' (by omega) (su (fun _ _ _=>cx.le h1) _ _ _ (ih j hj hI H a' w' h2 h3)))
theorem VC.region {id:Nat} {ops:Array Oper} {Q:VQ} (h:g_ P n D ops (List.range ops.size) e O Q):VC P n D (.region id ops false) e O Q:=
 fun G a w hw hf=>wp_region (h G a w hw hf)
def jM (tab:b9) (e:Env) (O:VH):ResultVar->Option MV
 | .tmp t=>look e t
 | .cell x t=>(look e x).bind (eQ tab O t)
def db (tab:b9) (fn:Func) (e:Env) (O:VH):Option MV:=
 match fn.results.toList.mapM (jM tab e O)with
 | some [m]=>some m
 | some l=>some (.tuple l)
 | none=>none
def yG (tmps:Array Value):ResultVar->Sem Value
 | .tmp t=>pure (tmps.getD t undef)
 | .cell x t=>do loadVar t (<-asAddr (tmps.getD x undef))
theorem JV (fn:Func) (tmps:Array Value):results fn tmps=(do let vs<-fn.results.mapM (yG tmps);pure (if h:vs.size=1 then vs[0]else .tuple vs)):=by
 unfold results
 congr 1
theorem By (ht:aK P tab) (hw:WR G O w) (hf:FR G n D e a):∀(l:List ResultVar) (ms:List MV),l.mapM (jM tab e O)=some ms->
  ∃us,(l.mapM (yG a.tmps)).run P w= .ok us w/\aO G ms us
 | [],ms,h=>by simp at h;subst h;exact⟨[],rfl,aO.nil⟩
 | r::l,ms,h=>by
   simp only[List.mapM_cons,Option.bind_eq_bind,Option.bind_eq_some_iff]at h;obtain⟨m,h1,WZ,h2,h3⟩:=h;injection h3 with h3;subst h3
   obtain⟨us,h4,h5⟩:=By ht hw hf l WZ h2
   have one:∃u,(yG a.tmps r).run P w= .ok u w/\VR G m u:=by
    cases r with
    | tmp t=>exact⟨_,rfl,hf.ev (x:=.tmp t) h1⟩
    | cell x t=>
      obtain⟨p,h6,h7⟩:=Option.bind_eq_some_iff.1 h1;have hp:VR G p (a.tmps.getD x undef):=hf.ev (x:=.tmp x) h6;simp only[yG];generalize a.tmps.getD x undef=pv at hp ⊢
      have abQ:∃ad,pv= .pointer (some ad):=by
       have hc:∃cs off,cellsOf O p=some (cs,off):=by
        unfold eQ at h7;split at h7
        ·exact⟨_,_, ‹_›⟩
        ·cases h7
       obtain⟨cs,off,hc⟩:=hc;obtain⟨b,o,_,rfl,_⟩:=JM hw hp hc;exact⟨_,rfl⟩
      obtain⟨ad,rfl⟩:=abQ;obtain⟨u,g1,g2⟩:=C3 (P:=P) ht hw h7 hp;refine⟨u,?_,g2⟩;simp only[asAddr,Sem.run_bind,Sem.run_pure,Result.andThen_ok];simpa[Instr.loadAt,Instr.sureAddr]using g1
   obtain⟨u,g1,g2⟩:=one;refine⟨u::us,?_,aO.cons g2 h5⟩;rw[List.mapM_cons,Sem.run_bind,g1,Result.andThen_ok,Sem.run_bind,h4];rfl
theorem kR (ht:aK P tab) (hw:WR G O w) (hf:FR G n D e a) {fn:Func} (h:db tab fn e O=some m):∃u,(results fn a.tmps).run P w= .ok u w/\VR G m u:=by
 have Gp:∀ms,fn.results.toList.mapM (jM tab e O)=some ms->∃us,(fn.results.mapM (yG a.tmps)).run P w= .ok us.toArray w/\aO G ms us:=fun ms hm=>by
  obtain⟨us,h1,h2⟩:=By (P:=P) ht hw hf _ ms hm;refine⟨us,?_,h2⟩;rw[Array.mapM_eq_mapM_toList, <-bind_pure_comp,Sem.run_bind,h1];rfl
 unfold db at h;rw[JV];split at h
 ·rename_i p hp;injection h with h;subst h
  obtain⟨us,h1,h2⟩:=Gp _ hp;obtain⟨u,S1,rfl,h3,h4⟩:=h2.cB;rw[h4.fw]at h1;exact⟨u,by rw[Sem.run_bind,h1];rfl,h3⟩
 ·rename_i l hl hp;injection h with h;subst h
  obtain⟨us,h1,h2⟩:=Gp _ hp
  have hne:us.length≠1:=fun h5=>by
   have:=h2.1;rw[h5]at this
   match l,this with
   | [x],_=>exact hl x rfl
  refine⟨.tuple us.toArray,?_,.tuple h2.1 h2.2⟩;rw[Sem.run_bind,h1,Result.andThen_ok];simp[hne]
 ·cases h
def cw:Nat->List MV->Env
 | _,[]=>[]
 | k,m::l=>(k,m)::cw (k+1) l
theorem hY:∀(l:List MV) (k t:Nat),look (cw k l) t=if k<=t then l[t - k]? else none
 | [],k,t=>by simp[cw,look]
 | m::l,k,t=>by
   simp only[cw,look];by_cases e:t=k
   ·subst e;simp
   ·have:(t==k)=false:=by simpa using e
    rw[this,cond_false,hY l (k+1) t];by_cases h:k<=t
    ·rw[if_pos h,if_pos (by omega)];obtain⟨j,hj⟩:∃j,t - k=j+1:=⟨t - k - 1,by omega⟩
     rw[hj,show t - (k+1)=j from by omega];rfl
    ·rw[if_neg h,if_neg (by omega)]
theorem VF.enter (ht:aK P tab) {f:FuncId} {fn:Func} {c:Code} {args:List MV} {R:fL->VH->Prop} (hf:P.funcs[f]?=some fn) (hb:fn.body=some c) (hn:args.length<=fn.ntmps)
  (h:VC P ⟨fn.ntmps,0⟩ [] c (cw 0 args) O fun x e O'=>match x with
   | .normal=>∃m,db tab fn e O'=some m/\R (.ret m) O'
   | .ret=>∃m,db tab fn e O'=some m/\R (.ret m) O'
   | .panic m=>R (.panic m) O'
   | _=>False):VF P f args O R:=by
 intro G w vs hw hv;refine calls_of_wp hf hb ?_
 have aS:FR G ⟨fn.ntmps,0⟩ [] (cw 0 args) {tmps:=vs.toArray++Array.replicate (fn.ntmps - vs.toArray.size) undef,defers:=[]}:=by
  have hl:=hv.1;refine⟨rfl,by simp;omega,fun t x hx=>?_⟩;rw[hY,if_pos (Nat.zero_le _),Nat.sub_zero]at hx;obtain⟨u,h1,h2⟩:=hv.get hx;refine⟨u,?_,h2⟩;have eg:=(List.getElem?_eq_some_iff.1 h1).1;rw[Array.getElem?_append_left (by simpa using eg)];simpa using h1
 refine wp_mono (h G _ w hw aS) ?_;rintro y a' w' ⟨x,e',O',H,h1,h2,h3,h4,h5⟩;cases y with
 | normal=>
   cases x<;>first
    | exact False.elim h4
    | (obtain⟨m,h6,h7⟩:=h5
       obtain⟨u,h8,h9⟩:=kR (P:=P) ht h2 h3 h6;exact⟨h3.defers,u,h8,.ret m,O',H,h1,h2,h9,h7⟩)
 | ret=>
   cases x<;>first
    | exact False.elim h4
    | (obtain⟨m,h6,h7⟩:=h5
       obtain⟨u,h8,h9⟩:=kR (P:=P) ht h2 h3 h6;exact⟨h3.defers,u,h8,.ret m,O',H,h1,h2,h9,h7⟩)
 | panic c=>
   cases x<;>first
    | exact False.elim h4
    | exact⟨h3.2.defers,.panic _,O',H,h1,h2,h4,h5⟩
 | exit i=>cases x<;>first | exact False.elim h4 | exact h5.elim
 | goto i=>cases x<;>first | exact False.elim h4 | exact h5.elim
 | outgrown=>cases x<;>exact False.elim h4
end
section
variable {G H:Gh} {n:Sz} {D:List Deferred} {e e':Env} {a:Act} {P:Program} {tab:b9} {O O':VH} {w:World} {m m':MV} {u v:Value} {ops:Array Oper} {Q:VQ}
def cf (P:Program) (n:Sz) (D:List Deferred) (ops:Array Oper) (fuel:Nat) (listed:Array Bool) (e:Env) (O:VH) (Q:VQ):Prop:=
 ∀G a w,WR G O w->FR G n D e a->wpAnyH P .any ops (cx G n D Q) (SS G) fuel listed a w
theorem VC.draw {id:Nat} (hm:P.follows .mixedOrders=true) (h:cf P n D ops ops.size (Array.replicate ops.size false) e O Q):VC P n D (.region id ops true) e O Q:=
 fun G a w hw hf=>wp_region_held (S:=SS G) hm (h G a _ (hw.drawn _) hf)
theorem gK {d:Option Tmp} (Fy:bm n d=true) {v:Value} (c:List PanicEntry) (a:Act) (w:World) (h:cx G n D Q (.panic c) (a.put d v) w):cx G n D Q (.panic c) a w:=by
 obtain⟨x,e,O,H,h1,h2,h3,h4,h5⟩:=h;cases x with
 | panic m=>
   obtain⟨wN,h3⟩:=h3
   have hd:a.defers=D:=by
    have:=h3.defers;cases d<;>exact this
   have hz:a.tmps.size=n.n:=by
    have:=h3.size;cases d with
    | none=>exact this
    | some d=>simpa[Act.put]using this
   refine⟨.panic m,e,O,H,h1,h2,⟨wN,hd,hz,fun t x hx=>?_⟩,h4,h5⟩;obtain⟨u,g1,g2⟩:=h3.get t x hx;refine⟨u,?_,g2⟩;cases d with
   | none=>exact g1
   | some d=>
     have ht:=wN t x hx;have lW:n.lo<=d:=by simp[bm]at Fy;exact Fy.1
     have hne:d≠t:=fun e=>Nat.lt_irrefl _ (Nat.lt_of_lt_of_le ht (e▸lW))
     simpa[Act.put,hne]using g1
 | _=>exact False.elim h4
theorem cf.Rg (ht:aK P tab) {fuel i:Nat} {listed:Array Bool} {o:Oper} (ho:ops[i]?=some o) (hs:Region.noSelect ops=true) (hf:Region.free .any ops listed i=true) (hr:(Region.ready .any ops listed).contains i=true)
  (hg:aL ops o e=some true) (hv:ew tab o e=some m) (hd:bm n o.dst=true) (h:cf P n D ops fuel (listed.setIfInBounds i true) (aU o.dst m e) O Q):cf P n D ops (fuel+1) listed e O Q:=by
 intro G a w hw aS;obtain⟨u,hu,cc⟩:=uh (P:=P) ht aS hv;exact wpAnyH_take ho hs hf hr (gK hd) (.inl ⟨bj aS hg,cc⟩) hw.ss (h G _ w hw (aS.aU hd hu))
theorem cf.Xd {fuel i:Nat} {listed:Array Bool} {o:Oper} (ho:ops[i]?=some o) (hs:Region.noSelect ops=true) (hf:Region.free .any ops listed i=true) (hr:(Region.ready .any ops listed).contains i=true)
  (hg:aL ops o e=some false) (hd:bm n o.dst=true) (h:cf P n D ops fuel (listed.setIfInBounds i true) (aU o.dst cD e) O Q):cf P n D ops (fuel+1) listed e O Q:=by
 intro G a w hw aS;exact wpAnyH_take ho hs hf hr (gK hd) (.inr ⟨bj aS hg,rfl⟩) hw.ss (h G _ w hw (aS.aU hd kQ))
theorem cf.done {fuel:Nat} {listed:Array Bool} (hr:Region.ready .any ops listed=[]) (h:Q .normal e O):cf P n D ops fuel listed e O Q:=
 fun G a w hw aS=>wpAnyH_done hr ⟨.normal,e,O,G,Gh.Le.refl G,hw,aS,trivial,h⟩ fuel
theorem JW {Q Q':Exit->Act->World->Prop} {S S':World->Prop} (hQ:∀y a w,Q y a w->Q' y a w) (hS:∀w,S w->S' w):∀(fuel:Nat) (listed:Array Bool) (a:Act) (w:World),wpAnyH P .any ops Q S fuel listed a w->wpAnyH P .any ops Q' S' fuel listed a w:=by
 intro fuel;induction fuel with
 | zero=>intro listed a w h;exact⟨h.1,hQ _ _ _ h.2⟩
 | succ fuel ih=>
   intro listed a w h;refine⟨fun h0=>hQ _ _ _ (h.1 h0),fun i hi=>?_⟩;have h1:=wpOp_mono (K':=fun a' w'=>S' w'/\wpAnyH P .any ops Q' S' fuel (listed.setIfInBounds i true) a' w') (fun a' w' h'=>⟨hS _ h'.1,ih _ _ _ h'.2⟩) (h.2 i hi);unfold wpOp at h1 ⊢;split
   ·rename_i ho;simp only[ho]at h1;exact h1
   ·rename_i o ho;simp only[ho]at h1;split
    ·rename_i rA;simp only[rA,if_true]at h1;refine h1.imp (fun h2=>?_) (fun⟨h2,a',w',h3⟩=>⟨h2,a',w',hQ _ _ _ h3⟩);unfold Oper.wp at h2 ⊢;generalize (execOp a.eval o).run P w=r at*;cases r with
     | ok nx w'=>
       cases nx<;>simp only[Oper.upon]at h2 ⊢ <;>first
        | exact h2
        | (refine Calls.mono h2 fun x Fx he=>?_
           cases x with
           | returned v=>exact he
           | panicked c=>exact hQ _ _ _ he
           | outgrown=>obtain⟨a',w',h3⟩:=he;exact⟨a',w',hQ _ _ _ h3⟩)
     | halt x w'=>cases x<;>simp only[Oper.upon]at h2 ⊢ <;>first | exact h2 | exact hQ _ _ _ h2
    ·rename_i rA;simp only[rA]at h1;exact h1
theorem SS.le (h:G.Le H) {w:World} (hs:SS H w):SS G w:=fun b o u hc=>hs b o u (h.dX hc)
def aH (P:Program) (n:Sz) (D:List Deferred) (ops:Array Oper) (i:Nat) (e:Env) (O:VH) (Q:VQ) (K:Env->VH->Prop):Prop:=
 ∀G a w,WR G O w->FR G n D e a->wpOp P ops (cx G n D Q) i (fun a' w'=>∃e' O' H,Gh.Le G H/\WR H O' w'/\FR H n D e' a'/\K e' O') a w
theorem aH.op (ht:aK P tab) {i:Nat} {o:Oper} {K:Env->VH->Prop} (ho:ops[i]?=some o) (hg:aL ops o e=some true) (hv:c6 tab o e O=some (m,O')) (hd:bm n o.dst=true) (hk:K (aU o.dst m e) O'):aH P n D ops i e O Q K:=by
 intro G a w hw aS;obtain⟨nx,w',H,u,hr,wP,h1,h2,h3,_⟩:=CK (P:=P) ht hw aS hv;simp only[wpOp,ho,bj aS hg,if_true];refine .inl ?_;unfold Oper.wp;rw[hr];have:∃e' O' H,Gh.Le G H/\WR H O' w'/\FR H n D e' (a.put o.dst u)/\K e' O':=⟨_,_,H,h1,h2,(aS.mono h1).aU hd h3,hk⟩
 rcases wP with rfl | ⟨rfl,rfl⟩<;>exact this
theorem aH.call {i:Nat} {o:Oper} {c:Call} {f:Operand} {id:FuncId} {fs ms cs:List MV} {R:fL->VH->Prop} {K:Env->VH->Prop} (ho:ops[i]?=some o) (hg:aL ops o e=some true) (uq:o.op= .call c) (hc:c.callee= .value f)
  (hf:ev e f=some (.func (.func id) fs cs)) (hm:fG e c.args.toList=some ms) (hE:Enters P id) (hd:bm n o.dst=true) (hR:VF P id (fs++ms++cs) O R)
  (h:∀r O',R r O'->match r with
   | .ret m=>K (aU o.dst m e) O'
   | .panic m=>Q (.panic m) (kB n e) O'):aH P n D ops i e O Q K:=by
 intro G a w hw aS;have rB:=aS.ev hf;generalize wQ:a.eval f=fv at rB;cases rB with
 | func h1 h2 h3 h4=>
   rename_i us vs;have gU:=aS.fG hm;have j9:=aO.append (aO.append (show aO G fs us from⟨h1,h2⟩) gU) (show aO G cs vs from⟨h3,h4⟩)
   have cc:(execOp a.eval o).run P w= .ok (.enter id (us++c.args.toList.map a.eval++vs).toArray) w:=by
    have ha:c.args.map a.eval=(c.args.toList.map a.eval).toArray:=by apply Array.ext';simp
    have:us.toArray++c.args.map a.eval++vs.toArray=(us++c.args.toList.map a.eval++vs).toArray:=by apply Array.ext';simp[ha]
    simp only[execOp,uq,resolve,hc,wQ,Deferred.ofValue,Sem.run_bind,Sem.run_pure,Result.andThen_ok,invoke,hE _ w];rw[this]
   simp only[wpOp,ho,bj aS hg,if_true];refine .inl ?_;unfold Oper.wp;rw[cc];show Calls P id _ w _;refine(hR G w _ hw j9).mono ?_;rintro x w' ⟨r,O',H,g1,g2,g3,g4⟩;have hk:=h r O' g4;cases r with
   | ret m=>
     cases x with
     | returned v=>exact⟨_,_,H,g1,g2,(aS.mono g1).aU hd g3,hk⟩
     | panicked c=>exact g3.elim
     | outgrown=>exact g3.elim
   | panic m=>
     cases x with
     | returned v=>exact g3.elim
     | panicked c=>exact⟨.panic m,kB n e,O',H,g1,g2,⟨Df,(aS.mono g1).less Az⟩,g3,hk⟩
     | outgrown=>exact g3.elim
theorem g_.one {i:Nat} {l:List Nat} (h:aH P n D ops i e O Q fun e' O'=>g_ P n D ops l e' O' Q):g_ P n D ops (i::l) e O Q:=by
 intro G a w hw aS;rw[wpOps_cons];exact wpOp_mono (fun a' w' ⟨e',O',H,h1,h2,h3,h4⟩=>lV (fun _ _ _=>cx.le h1) l _ _ (h4 H a' w' h2 h3)) (h G a w hw aS)
theorem cf.all {fuel:Nat} {listed:Array Bool} {rs:List Nat} (hr:Region.ready .any ops listed=rs) (hne:rs≠[])
  (h:∀i∈rs,aH P n D ops i e O Q fun e' O'=>cf P n D ops fuel (listed.setIfInBounds i true) e' O' Q):cf P n D ops (fuel+1) listed e O Q:=by
 intro G a w hw aS;refine wpAnyH_all hr hne fun i hi=>?_
 exact wpOp_mono (fun a' w' ⟨e',O',H,h1,h2,h3,h4⟩=>⟨SS.le h1 h2.ss,JW (fun _ _ _=>cx.le h1) (fun _=>SS.le h1) fuel _ _ _ (h4 H a' w' h2 h3)⟩) (h i hi G a w hw aS)
def iN (P:Program) (md:Region.Mode) (ops:Array Oper) (Q:Exit->Act->World->Prop) (T:Nat->World->Prop):Nat->Array Bool->Act->World->Prop
 | 0,listed,a,w=>Region.ready md ops listed=[]/\Q .normal a w
 | fuel+1,listed,a,w=>
   (Region.ready md ops listed=[]->Q .normal a w)/\
   ∀i∈Region.ready md ops listed,wpOp P ops Q i (fun a' w'=>T i w'/\iN P md ops Q T fuel (listed.setIfInBounds i true) a' w') a w
section
variable {md:Region.Mode} {Q:Exit->Act->World->Prop} {T:Nat->World->Prop}
theorem jo:∀(fuel:Nat) (listed:Array Bool) (a:Act) (w:World),iN P md ops Q T fuel listed a w->wpAny P md ops Q fuel listed a w
 | 0,_,_,_,h=>h
 | fuel+1,_,_,_,h=>⟨h.1,fun i hi=>wpOp_mono (fun a' w' h'=>jo fuel _ a' w' h'.2) (h.2 i hi)⟩
theorem nM {S:World->Prop} {W:Nat->Prop} {brk:Nat->Bool} {i:Nat} {oi:Oper} {v:Value} (hi:ops[i]?=some oi) (Dg:∀(j:Nat) (o:Oper) cs b,ops[j]?=some o->o.op≠ .select cs b)
  (hQ:∀c a w,Q (.panic c) (a.put oi.dst v) w->Q (.panic c) a w) (hT:∀j x,brk j=false->T j x->S x) (hTi:∀x,S x->T i x):
  ∀(fuel:Nat) (listed:Array Bool) (a:Act) (w:World),
   (∀j oj,ops[j]?=some oj->j≠i->listed.getD j true=false->(∀e∈oj.after,Region.binds md e=true->e.on≠i)->oi.apart ops oj=true)->
   (∀j oj,ops[j]?=some oj->W j->∃e∈oj.after,Region.binds md e=true/\(e.on=i\/W e.on))->(∀j,W j->listed.getD j true=false)->(∀j,j≠i->listed.getD j true=false->brk j=true->W j)->
   i∈Region.ready md ops listed->YieldsIf P ops S oi v a->S w->
   iN P md ops Q T fuel (listed.setIfInBounds i true) (a.put oi.dst v) w->iN P md ops Q T (fuel+1) listed a w:=by
 intro fuel;induction fuel with
 | zero=>
   intro listed a w _ _ _ _ hr hy hS H;refine⟨fun h=>(by rw[h]at hr;cases hr),fun j hj=>?_⟩;by_cases H4:j=i
   ·subst H4;exact hy.wpOp hi hS ⟨hTi _ hS,H⟩
   ·have:=ready_mono hj H4;rw[H.1]at this;cases this
 | succ fuel ih=>
   intro listed a w Xe hW hWu ad9 hr hy hS H;refine⟨fun h=>(by rw[h]at hr;cases hr),fun j hj=>?_⟩;by_cases H4:j=i
   ·subst H4;exact hy.wpOp hi hS ⟨hTi _ hS,H⟩
   ·have h1:=H.2 j (ready_mono hj H4);obtain⟨Xf,oj,hoj,j9⟩:=mem_ready.1 hj
    have ad_:∀e∈oj.after,Region.binds md e=true->e.on≠i:=fun e he hb heq=>by
     have h1:=j9 e he hb;have h0:=(mem_ready.1 hr).1;rw[heq]at h1;rcases Nat.lt_or_ge i listed.size with h' | h'
     ·simp[h']at h0 h1;rw[h0]at h1;cases h1
     ·simp[Array.getElem?_eq_none h']at h1
    have hnW:¬W j:=fun hw=>by
     obtain⟨e,he,cA,ct⟩:=hW j oj hoj hw;rcases ct with ct | ct
     ·exact absurd ct (ad_ e he cA)
     ·have h1:=j9 e he cA;have h0:=hWu _ ct;rcases Nat.lt_or_ge e.on listed.size with h' | h'
      ·simp[h']at h0 h1;rw[h0]at h1;cases h1
      ·simp[Array.getElem?_eq_none h']at h1
    have WY:brk j=false:=by
     cases hb:brk j with
     | false=>rfl
     | true=>exact absurd (ad9 j H4 Xf hb) hnW
    have h2:=wpOp_putIf hoj (Xe j oj hoj H4 Xf ad_) (fun cs b=>Dg i oi cs b hi) (fun cs b=>Dg j oj cs b hoj) hQ hy h1
    have aea:∀k,(listed.setIfInBounds j true).getD k true=false->listed.getD k true=false:=fun k eR=>by
     by_cases Xg:j=k
     ·subst Xg;exact Xf
     ·rw[getD_set_ne true Xg]at eR;exact eR
    refine wpOp_mono (fun a' w' h3=>⟨h3.2.1,ih (listed.setIfInBounds j true) a' w' (fun k ok hk hki eR fH=>Xe k ok hk hki (aea k eR) fH) hW (fun k hk=>by
     by_cases Xg:j=k
     ·subst Xg;exact absurd hk hnW
     ·rw[getD_set_ne true Xg];exact hWu k hk) (fun k hki eR hb=>ad9 k hki (aea k eR) hb) (ready_mono hr (Ne.symm H4)) h3.1 (hT j _ WY h3.2.1) ?_⟩) h2
    rw[Array.setIfInBounds_comm _ _ H4];exact h3.2.2
theorem jq {rs:List Nat} {fuel:Nat} {listed:Array Bool} {a:Act} {w:World} (hr:Region.ready md ops listed=rs) (hne:rs≠[])
  (h:∀i∈rs,wpOp P ops Q i (fun a' w'=>T i w'/\iN P md ops Q T fuel (listed.setIfInBounds i true) a' w') a w):iN P md ops Q T (fuel+1) listed a w:=
 ⟨fun h0=>absurd (hr▸h0) hne,hr▸h⟩
theorem H5 {listed:Array Bool} {a:Act} {w:World} (hr:Region.ready md ops listed=[]) (h:Q .normal a w):∀fuel,iN P md ops Q T fuel listed a w
 | 0=>⟨hr,h⟩
 | _+1=>⟨fun _=>h,by rw[hr];simp⟩
theorem Ta {Q Q':Exit->Act->World->Prop} (hQ:∀y a w,Q y a w->Q' y a w) {i:Nat} {K:Act->World->Prop} {a:Act} {w:World} (h1:wpOp P ops Q i K a w):wpOp P ops Q' i K a w:=by
 unfold wpOp at h1 ⊢;split
 ·rename_i ho;simp only[ho]at h1;exact h1
 ·rename_i o ho;simp only[ho]at h1;split
  ·rename_i rA;simp only[rA,if_true]at h1;refine h1.imp (fun h2=>?_) (fun⟨h2,a',w',h3⟩=>⟨h2,a',w',hQ _ _ _ h3⟩);unfold Oper.wp at h2 ⊢;generalize (execOp a.eval o).run P w=r at*;cases r with
   | ok nx w'=>
     cases nx<;>simp only[Oper.upon]at h2 ⊢ <;>first
      | exact h2
      | (refine Calls.mono h2 fun x Fx he=>?_
         cases x with
         | returned v=>exact he
         | panicked c=>exact hQ _ _ _ he
         | outgrown=>obtain⟨a',w',h3⟩:=he;exact⟨a',w',hQ _ _ _ h3⟩)
   | halt x w'=>cases x<;>simp only[Oper.upon]at h2 ⊢ <;>first | exact h2 | exact hQ _ _ _ h2
  ·rename_i rA;simp only[rA]at h1;exact h1
theorem jr {Q Q':Exit->Act->World->Prop} {T T':Nat->World->Prop} (hQ:∀y a w,Q y a w->Q' y a w):∀(fuel:Nat) (listed:Array Bool) (a:Act) (w:World),(∀j,listed.getD j true=false->∀x,T j x->T' j x)->
  iN P .any ops Q T fuel listed a w->iN P .any ops Q' T' fuel listed a w:=by
 intro fuel;induction fuel with
 | zero=>intro listed a w _ h;exact⟨h.1,hQ _ _ _ h.2⟩
 | succ fuel ih=>
   intro listed a w hT h;refine⟨fun h0=>hQ _ _ _ (h.1 h0),fun i hi=>?_⟩;have eR:=(mem_ready.1 hi).1
   exact Ta hQ (wpOp_mono (fun a' w' h'=>⟨hT i eR _ h'.1,ih _ _ _ (fun j hj x=>hT j (by
    by_cases FB:i=j
    ·subst FB;exact eR
    ·rw[getD_set_ne true FB]at hj;exact hj) x) h'.2⟩) (h.2 i hi))
end
def TH (brk:List Nat) (G:Gh) (w:World) (j:Nat) (x:World):Prop:=brk.contains j=false->Sx G w x
def bE (P:Program) (n:Sz) (D:List Deferred) (ops:Array Oper) (brk:List Nat) (fuel:Nat) (listed:Array Bool) (e:Env) (O:VH) (Q:VQ):Prop:=
 ∀G a w,WR G O w->FR G n D e a->iN P .any ops (cx G n D Q) (TH brk G w) fuel listed a w
theorem VC.H6 {id:Nat} (brk:List Nat) (hm:P.follows .mixedOrders=true) (h:bE P n D ops brk ops.size (Array.replicate ops.size false) e O Q):VC P n D (.region id ops true) e O Q:=
 fun G a w hw hf=>wp_region_any hm (jo _ _ _ _ (h G a _ (hw.drawn _) hf))
theorem bE.done {brk:List Nat} {fuel:Nat} {listed:Array Bool} (hr:Region.ready .any ops listed=[]) (h:Q .normal e O):bE P n D ops brk fuel listed e O Q:=
 fun G a w hw aS=>H5 hr ⟨.normal,e,O,G,Gh.Le.refl G,hw,aS,trivial,h⟩ fuel
def j_ (ops:Array Oper) (listed:Array Bool) (i:Nat):Nat->List Nat
 | 0=>[]
 | k+1=>(List.range ops.size).filter fun j=> !listed.getD j true&&((ops[j]?).map fun o=>o.after.any fun e=>Region.binds .any e&&(e.on==i||(j_ ops listed i k).contains e.on)).getD false
def nA (ops:Array Oper) (brk:List Nat) (listed:Array Bool) (i:Nat):Bool:=
 brk.all fun j=>listed.getD j true||j==i||(j_ ops listed i ops.size).contains j
theorem Bz {listed:Array Bool} {i:Nat} (j:Nat) (oj:Oper) (hj:ops[j]?=some oj) (h:∃k,j∈j_ ops listed i k):∃e∈oj.after,Region.binds .any e=true/\(e.on=i\/∃k,e.on∈j_ ops listed i k):=by
 obtain⟨k,hk⟩:=h;cases k with
 | zero=>cases hk
 | succ k=>
   simp only[j_,List.mem_filter,hj,Option.map_some,Option.getD_some,Bool.and_eq_true]at hk;obtain⟨e,he,h2⟩:=Array.any_eq_true'.1 hk.2.2;simp only[Bool.and_eq_true,Bool.or_eq_true,beq_iff_eq]at h2;refine⟨e,he,h2.1,?_⟩;rcases h2.2 with h3 | h3
   ·exact .inl h3
   ·exact .inr ⟨k,by simpa using h3⟩
theorem Gq {listed:Array Bool} {i:Nat} (j:Nat) (h:∃k,j∈j_ ops listed i k):listed.getD j true=false:=by
 obtain⟨k,hk⟩:=h;cases k with
 | zero=>cases hk
 | succ k=>
   simp only[j_,List.mem_filter,Bool.and_eq_true,Bool.not_eq_true']at hk;exact hk.2.1
theorem Gr {brk:List Nat} {listed:Array Bool} {i:Nat} (h:nA ops brk listed i=true):∀j,j≠i->listed.getD j true=false->brk.contains j=true->∃k,j∈j_ ops listed i k:=by
 intro j hne eR hb;have:=List.all_eq_true.1 h j (by simpa using hb);simp only[eR,Bool.false_or,Bool.or_eq_true,beq_iff_eq,hne,false_or]at this;exact⟨_,by simpa using this⟩
theorem bE.take {brk:List Nat} {fuel i:Nat} {listed:Array Bool} {o:Oper} (ho:ops[i]?=some o) (hs:Region.noSelect ops=true) (hf:Region.free .any ops listed i=true) (hr:(Region.ready .any ops listed).contains i=true) (hb:nA ops brk listed i=true)
  (hd:bm n o.dst=true) (hy:∀G a w,WR G O w->FR G n D e a->∃u,VR G m u/\YieldsIf P ops (Sx G w) o u a) (h:bE P n D ops brk fuel (listed.setIfInBounds i true) (aU o.dst m e) O Q):bE P n D ops brk (fuel+1) listed e O Q:=by
 intro G a w hw aS;obtain⟨u,hu,hyi⟩:=hy G a w hw aS;refine nM (S:=Sx G w) (W:=fun j=>∃k,j∈j_ ops listed i k) (brk:=fun j=>brk.contains j) ho (Region.noSelect_spec hs) (gK hd) (fun j x hj hT=>hT hj) (fun x hx _=>hx) fuel listed a w (Region.free_spec ho hf) Bz Gq (Gr hb) (by simpa using hr) hyi hw.sx (h G _ w hw (aS.aU hd hu))
theorem bE.one (ht:aK P tab) {brk:List Nat} {fuel i:Nat} {listed:Array Bool} {o:Oper} (ho:ops[i]?=some o) (hr:Region.ready .any ops listed=[i]) (hb:(brk.contains i=false/\Fv o.op=true)\/∀j,(listed.setIfInBounds i true).getD j true=false\/j=i->brk.contains j=true)
  (hg:aL ops o e=some true) (hv:c6 tab o e O=some (m,O')) (hd:bm n o.dst=true) (h:bE P n D ops brk fuel (listed.setIfInBounds i true) (aU o.dst m e) O' Q):bE P n D ops brk (fuel+1) listed e O Q:=by
 intro G a w hw aS;refine jq hr (by simp) fun j hj=>?_
 obtain rfl:j=i:=by simpa using hj
 obtain⟨nx,w',H,u,cc,wP,h1,h2,h3,h4⟩:=CK (P:=P) ht hw aS hv;simp only[wpOp,ho,bj aS hg,if_true];refine .inl ?_;unfold Oper.wp;rw[cc];have hk:=h H (a.put o.dst u) w' h2 ((aS.mono h1).aU hd h3)
 have Xh:TH brk G w j w'/\iN P .any ops (cx G n D Q) (TH brk G w) fuel (listed.setIfInBounds j true) (a.put o.dst u) w':=by
  rcases hb with⟨cA,ct⟩ | hb
  ·have ph:=h4 ct;have hs:Sx G w w':=⟨SS.le h1 h2.ss,ph⟩;refine⟨fun _=>hs,jr (fun _ _ _=>cx.le h1) _ _ _ _ (fun k _ x hT Da=>?_) hk⟩;obtain⟨g1,g2⟩:=hT Da;exact⟨SS.le h1 g1,fun k' b mF=>(g2 k' b (h1.bL mF)).trans (ph k' b mF)⟩
  ·refine⟨fun hh=>?_,jr (fun _ _ _=>cx.le h1) _ _ _ _ (fun k Da x _ hh=>?_) hk⟩
   ·rw[hb j (.inr rfl)]at hh;cases hh
   ·rw[hb k (.inl Da)]at hh;cases hh
 rcases wP with rfl | ⟨rfl,rfl⟩<;>exact Xh
theorem bE.afM {brk:List Nat} {fuel i:Nat} {listed:Array Bool} {o:Oper} (ho:ops[i]?=some o) (hr:Region.ready .any ops listed=[i]) (hb:(brk.contains i=false/\Fv o.op=true)\/∀j,(listed.setIfInBounds i true).getD j true=false\/j=i->brk.contains j=true)
  (hg:aL ops o e=some false) (hd:bm n o.dst=true) (h:bE P n D ops brk fuel (listed.setIfInBounds i true) (aU o.dst cD e) O Q):bE P n D ops brk (fuel+1) listed e O Q:=by
 intro G a w hw aS;refine jq hr (by simp) fun j hj=>?_
 obtain rfl:j=i:=by simpa using hj
 simp only[wpOp,ho,bj aS hg,Bool.false_eq_true,if_false];exact⟨fun _=>hw.sx,h G _ w hw (aS.aU hd kQ)⟩
theorem bE.Xi {brk:List Nat} {fuel i:Nat} {listed:Array Bool} (hr:Region.ready .any ops listed=[i]) (hb:∀j,(listed.setIfInBounds i true).getD j true=false\/j=i->brk.contains j=true)
  (h:aH P n D ops i e O Q fun e' O'=>bE P n D ops brk fuel (listed.setIfInBounds i true) e' O' Q):bE P n D ops brk (fuel+1) listed e O Q:=by
 intro G a w hw aS;refine jq hr (by simp) fun j hj=>?_
 obtain rfl:j=i:=by simpa using hj
 refine wpOp_mono (fun a' w' ⟨e',O',H,h1,h2,h3,h4⟩=>⟨fun hh=>?_,jr (fun _ _ _=>cx.le h1) _ _ _ _ (fun k Da x _ hh=>?_) (h4 H a' w' h2 h3)⟩) (h G a w hw aS)
 ·rw[hb j (.inr rfl)]at hh;cases hh
 ·rw[hb k (.inl Da)]at hh;cases hh
end
def H7 (d:TypeDesc) (z:Value):Bool:=match eC d,z with
 | true,.agg _=>true
 | true,_=>false
 | false,.agg _=>false
 | false,_=>true
theorem NZ {d:TypeDesc} {z:Value} (h:H7 d z=true):(eC d=true->∃cs,z= .agg cs)/\(eC d=false->z.cells= #[z]):=by
 refine⟨fun ha=>?_,fun ha=>?_⟩<;>unfold H7 at h<;>rw[ha]at h<;>cases z<;>first | exact⟨_,rfl⟩ | rfl | cases h
def fF (P:Program) (t:TypeId):Option cz:=
 match P.underlying t,P.info? t with
 | some d,some i=>match i.zero with
   | some z=>match z.cells.toList.mapM ofConst with
     | some zs=>if z.cells.size=i.size/\H7 d z=true then some ⟨d,i.size,i.bytes,zs⟩else none
     | none=>none
   | none=>none
 | _,_=>none
theorem Dh {G:Gh}:∀{us:List Value} {ms:List MV},us.mapM ofConst=some ms->aO G ms us
 | [],ms,h=>by simp at h;subst h;exact aO.nil
 | u::us,ms,h=>by
   simp only[List.mapM_cons,Option.bind_eq_bind,Option.bind_eq_some_iff]at h;obtain⟨m,h1,WZ,h2,h3⟩:=h;injection h3 with h3;subst h3
   exact aO.cons (Bt h1) (Dh h2)
theorem Xj (P:Program):aK P (fF P):=by
 intro t i h;unfold fF at h;split at h
 ·rename_i d ti hd hi;split at h
  ·rename_i z hz;split at h
   ·rename_i zs hzs;split at h
    ·rename_i oc;injection h with h;subst h
     exact⟨hd,⟨ti,z,hi,rfl,rfl,hz,oc.1,fun G=>Dh hzs⟩,fun ti' z' h1 h2=>by
      rw[hi]at h1;injection h1 with h1;subst h1
      rw[hz]at h2;injection h2 with h2;subst h2
      exact NZ oc.2⟩
    ·cases h
   ·cases h
  ·cases h
 ·cases h
section
variable {G H:Gh} {n:Sz} {D:List Deferred} {e e':Env} {a:Act} {P:Program} {tab:b9} {O O':VH} {w:World} {m m':MV} {u v:Value} {ops:Array Oper} {Q:VQ}
variable {d:Option Tmp} {t t' ty:TypeId} {p:String} {af:Array Edge} {g:Option (Nat×Bool)} {x y z:Operand}
theorem Rh (k:Nat):ev e (.tmp k)=look e k:=rfl
theorem Ri (k:IntKind) (i:Int):ev e (.const (.int k i))=some (.v (.int k i)):=rfl
theorem JX (b:Bool):ev e (.const (.bool b))=some (.v (.bool b)):=rfl
theorem Rj (s:ByteArray):ev e (.const (.string s))=some (.str s.data.toList):=rfl
theorem Gs:ev e (.const (.slice none 0 0))=some (.sl 0 [] .nil):=rfl
theorem Di:ev e (.const (.pointer none))=some (.v (.pointer none)):=rfl
theorem Dj:ev e (.const (.map none))=some (.v (.map none)):=rfl
theorem yH:ev e (.const .nilIface)=some (.v .nilIface):=rfl
theorem BA:ev e (.const .nilFunc)=some (.v .nilFunc):=rfl
theorem JY (f:FuncId):ev e (.func f)=some (.func (.func f) [] []):=rfl
theorem lX (k j:Nat) (m:MV) (r:Env):look ((k,m)::r) j=bif j==k then some m else look r j:=rfl
theorem JZ:fG e []=some []:=rfl
theorem Gt (x:Operand) (l:List Operand):fG e (x::l)=(ev e x).bind fun m=>(fG e l).map (m:: ·):=by
 simp only[fG,List.mapM_cons,Option.bind_eq_bind];cases ev e x with
 | none=>rfl
 | some m=>cases List.mapM (ev e) l<;>rfl
private theorem av {o:Oper} {r:Option MV} (h:ew tab o e=r) (hl:iy tab o e O=none):c6 tab o e O=r.map (·,O):=by
 unfold c6;rw[h];cases r<;>simp[hl]
theorem Gu:c6 tab (.mk d (.move x) ty p af g) e O=(ev e x).map (·,O):=av rfl rfl
theorem BB:c6 tab (.mk d (.assign x) ty p af g) e O=(ev e x).map (·,O):=av rfl rfl
theorem w7:c6 tab (.mk d (.nilCheck x) ty p af g) e O=((ev e x).bind JR).map (·,O):=av rfl rfl
theorem Dk {op:BinOp}:c6 tab (.mk d (.binOp op t x y t') ty p af g) e O=((ev e x).bind fun q=>(ev e y).bind fun r=>cX tab op t q r).map (·,O):=by
 refine av ?_ rfl;simp only[ew];cases ev e x<;>first | rfl | (cases ev e y<;>rfl)
theorem Gw {op:UnOp}:c6 tab (.mk d (.unOp op t x) ty p af g) e O=((ev e x).bind (vV op)).map (·,O):=av rfl rfl
theorem yI:c6 tab (.mk d (.convert t t' x) ty p af g) e O=((ev e x).bind (Ay tab t t')).map (·,O):=av rfl rfl
theorem ur {f:Nat}:c6 tab (.mk d (.fieldAddr t x f) ty p af g) e O=((ev e x).bind (jn tab t f)).map (·,O):=av rfl rfl
theorem Dl {f:Nat}:c6 tab (.mk d (.field t x f) ty p af g) e O=((ev e x).bind (vR tab t · f)).map (·,O):=av rfl rfl
theorem uu:c6 tab (.mk d (.indexAddr t x y) ty p af g) e O=((ev e x).bind fun q=>(ev e y).bind fun r=>mf tab t q r).map (·,O):=by
 refine av ?_ rfl;simp only[ew];cases ev e x<;>first | rfl | (cases ev e y<;>rfl)
theorem Dm:c6 tab (.mk d (.index t x y) ty p af g) e O=((ev e x).bind fun q=>(ev e y).bind fun r=>vS tab t q r).map (·,O):=by
 refine av ?_ rfl;simp only[ew];cases ev e x<;>first | rfl | (cases ev e y<;>rfl)
theorem yJ {i:Nat}:c6 tab (.mk d (.extract x i) ty p af g) e O=((ev e x).bind (ru · i)).map (·,O):=av rfl rfl
theorem Dn {ps:Array (Nat×Operand)}:c6 tab (.mk d (.build t ps) ty p af g) e O=((fG e (ps.toList.map (·.2))).bind fun ms=>vU tab t (fV ps ms)).map (·,O):=by
 refine av ?_ rfl;simp only[ew];cases fG e (ps.toList.map (·.2))<;>rfl
theorem w8 {fn:Fn} {fs cs:Array Operand}:c6 tab (.mk d (.makeFunc fn fs cs) ty p af g) e O=((fG e fs.toList).bind fun q=>(fG e cs.toList).map fun r=>.func fn q r).map (·,O):=by
 refine av ?_ rfl;simp only[ew];cases fG e fs.toList<;>first | rfl | (cases fG e cs.toList<;>rfl)
theorem Dq {lo hi:Option Operand}:c6 tab (.mk d (.slice t x lo hi none) ty p af g) e O=((ev e x).bind fun q=>(ew.Cd e lo).bind fun l=>(ew.Cd e hi).bind fun h=>vW tab t q l h).map (·,O):=by
 refine av ?_ rfl;simp only[ew];cases ev e x<;>first | rfl | (cases ew.Cd e lo<;>first | rfl | (cases ew.Cd e hi<;>rfl))
theorem J1 {lo:Option Operand} {hi mx:Operand}:c6 tab (.mk d (.slice t x lo (some hi) (some mx)) ty p af g) e O=((ev e x).bind fun q=>(ew.Cd e lo).bind fun l=>(ev e hi).bind fun h=>(ev e mx).bind (ry tab t q l h)).map (·,O):=by
 refine av ?_ rfl;simp only[ew,show ew.Cd e (some hi)=(ev e hi).map some from rfl];generalize ew.Cd e lo=z;cases ev e x<;>cases z<;>cases ev e hi<;>rfl
theorem Gx:ew.Cd e none=some none:=rfl
theorem Gy:ew.Cd e (some x)=(ev e x).map some:=rfl
theorem J2:c6 tab (.mk d (.call {callee:=.builtin .len,args:= #[x],argTypes:= #[t]}) ty p af g) e O=(ev e x).bind fun q=>match jJ tab t q with
  | some r=>some (r,O)
  | none=>(pf tab O t q).map (·,O):=by
 simp only[c6,ew,iy];cases ev e x with
 | none=>rfl
 | some q=>
   simp only[Option.bind_some]<;>cases jJ tab t q<;>rfl
theorem J3 {ts:Array TypeId}:c6 tab (.mk d (.call {callee:=.builtin .max,args:= #[x,y],argTypes:=ts}) ty p af g) e O=((ev e x).bind fun q=>(ev e y).bind fun r=>Av q r).map (·,O):=by
 refine av ?_ rfl;simp only[ew];cases ev e x<;>first | rfl | (cases ev e y<;>rfl)
theorem J4 {ts:Array TypeId}:c6 tab (.mk d (.call {callee:=.builtin .min,args:= #[x,y],argTypes:=ts}) ty p af g) e O=((ev e x).bind fun q=>(ev e y).bind fun r=>Aw q r).map (·,O):=by
 refine av ?_ rfl;simp only[ew];cases ev e x<;>first | rfl | (cases ev e y<;>rfl)
theorem N0 {ts:Array TypeId}:c6 tab (.mk d (.call {callee:=.builtin .unsafeSliceData,args:= #[x],argTypes:=ts}) ty p af g) e O=((ev e x).bind vX).map (·,O):=av rfl (by simp only[iy]<;>rfl)
theorem cT:c6 tab (.mk d (.call {callee:=.builtin .append,args:= #[x,y],argTypes:= #[t,t]}) ty p af g) e O=(ev e x).bind fun q=>(ev e y).bind fun r=>gY tab O t q r:=by
 simp only[c6,ew,iy,if_true];cases ev e x<;>first | rfl | (cases ev e y<;>rfl)
theorem J5 {cs:List MV} {off:Nat}:eQ tab O t (.c8 cs off)=eQ tab O' t (.c8 cs off):=rfl
theorem Gz:c6 tab (.mk d (.load t x) ty p af g) e O=(ev e x).bind fun q=>(eQ tab O t q).map (·,O):=by
 simp only[c6,ew,iy];cases ev e x with
 | none=>rfl
 | some q=>
   cases q<;>try rfl
   rename_i cs off;simp only[Option.bind_some];rw[J5 (O':=O)];cases eQ tab O t (.c8 cs off)<;>rfl
theorem Dr:c6 tab (.mk d (.store t x y) ty p af g) e O=(ev e x).bind fun q=>(ev e y).bind fun r=>(vP tab O t q r).map (.tuple [], ·):=by
 simp only[c6,ew,iy];cases ev e x<;>first | rfl | (cases ev e y<;>rfl)
theorem J6:c6 tab (.mk d (.box t x) ty p af g) e O=(ev e x).map fun q=>(.ptr O.next 0,O.push (.cells (dI q))):=rfl
theorem N1:c6 tab (.mk d (.alloc t) ty p af g) e O=(tab t).map fun i=>(.ptr O.next 0,vY O t i.size i.zero):=rfl
theorem tj {k:Nat} {ps:Array (Nat×Operand)}:c6 tab (.mk d (.buildSlice t k ps) ty p af g) e O=(fG e (ps.toList.map (·.2))).bind fun ms=>(kP tab t k (fV ps ms)).map (·,O):=by
 simp only[c6,ew,iy];cases fG e (ps.toList.map (·.2))<;>rfl
theorem uv:c6 tab (.mk d (.makeSlice t x y) ty p af g) e O=(ev e x).bind fun q=>(ev e y).bind fun r=>mg tab O t q r:=by
 simp only[c6,ew,iy];cases ev e x<;>first | rfl | (cases ev e y<;>rfl)
theorem yK:c6 tab (.mk d (.makeMap t none) ty p af g) e O=some (.map O.next,O.push (.map [] 0)):=rfl
theorem BD {b:Bool}:c6 tab (.mk d (.lookup t x y b) ty p af g) e O=(ev e x).bind fun q=>(ev e y).bind fun r=>(jL tab O t q r b).map (·,O):=by
 simp only[c6,ew,iy];cases ev e x<;>first | rfl | (cases ev e y<;>rfl)
theorem uw {z:Operand}:c6 tab (.mk d (.mapUpdate t x y z) ty p af g) e O=(ev e x).bind fun q=>(ev e y).bind fun r=>(ev e z).bind fun s=>(fm tab O t q r s).map (.tuple [], ·):=by
 simp only[c6,ew,iy];cases ev e x<;>first | rfl | (cases ev e y<;>first | rfl | (cases ev e z<;>rfl))
theorem BE {z:Operand}:c6 tab (.mk d (.insert t x y z) ty p af g) e O=(ev e x).bind fun q=>(ev e y).bind fun r=>(ev e z).bind fun s=>(fm tab O t q r s).map (.tuple [], ·):=by
 simp only[c6,ew,iy];cases ev e x<;>first | rfl | (cases ev e y<;>first | rfl | (cases ev e z<;>rfl))
section
variable {k:IntKind} {i j:Int}
theorem GA:cX tab .add t (.v (.int k i)) (.v (.int k j))=some (.v (.int k (k.wrap (i+j)))):=by simp[cX,qq]
theorem GB:cX tab .sub t (.v (.int k i)) (.v (.int k j))=some (.v (.int k (k.wrap (i - j)))):=by simp[cX,qq]
theorem GC:cX tab .mul t (.v (.int k i)) (.v (.int k j))=some (.v (.int k (k.wrap (i*j)))):=by simp[cX,qq]
theorem Tb (h:j≠0):cX tab .quo t (.v (.int k i)) (.v (.int k j))=some (.v (.int k (k.wrap (i.tdiv j)))):=by simp[cX,qq,h]
theorem Tc (h:j≠0):cX tab .rem t (.v (.int k i)) (.v (.int k j))=some (.v (.int k (i.tmod j))):=by simp[cX,qq,h]
theorem GD:cX tab .eql t (.v (.int k i)) (.v (.int k j))=some (.v (.bool (i==j))):=by simp[cX,qq]
theorem GF:cX tab .neq t (.v (.int k i)) (.v (.int k j))=some (.v (.bool (i != j))):=by simp[cX,qq]
theorem GG:cX tab .lss t (.v (.int k i)) (.v (.int k j))=some (.v (.bool (decide (i<j)))):=by simp[cX,qq]
theorem GH:cX tab .leq t (.v (.int k i)) (.v (.int k j))=some (.v (.bool (decide (i<=j)))):=by simp[cX,qq]
theorem GI:cX tab .gtr t (.v (.int k i)) (.v (.int k j))=some (.v (.bool (decide (i>j)))):=by simp[cX,qq]
theorem GJ:cX tab .geq t (.v (.int k i)) (.v (.int k j))=some (.v (.bool (decide (i>=j)))):=by simp[cX,qq]
theorem J7:vV .neg (.v (.int k i))=some (.v (.int k (k.wrap (0 - i)))):=rfl
theorem J8 {b:Bool}:vV .not (.v (.bool b))=some (.v (.bool !b)):=rfl
theorem wrap_i64 (h0: -9223372036854775808<=i) (h1:i<=9223372036854775807):IntKind.i64.wrap i=i:=by rw[IntKind.wrap_i64];omega
end
theorem yL {r:Env} {q:Op}:aL ops (.mk d q ty p af none) r=some true:=rfl
theorem yM {q:Op} {j:Nat} {b:Bool}:aL ops (.mk d q ty p af (some (j,b))) e=match(ops[j]?).bind (·.dst)with
  | some k=>match look e k with
    | some (.v (.bool c))=>some (c==b)
    | some (.tuple [])=>some false
    | _=>none
  | none=>none:=rfl
theorem VC.AA {c:Operand} {x y:Code} (hc:ev e c=some (.v (.bool true))) (h:VC P n D x e O Q):VC P n D (.cond c x y) e O Q:=VC.cond hc (fun _=>h) (fun h=>by cases h)
theorem VC.afN {c:Operand} {x y:Code} (hc:ev e c=some (.v (.bool false))) (h:VC P n D y e O Q):VC P n D (.cond c x y) e O Q:=VC.cond hc (fun h=>by cases h) (fun _=>h)
section
variable {el:TypeId} {a b c d:Nat} {z y:List MV} {u:TypeDesc}
theorem iS {k:Nat} {cs:List MV} {tk:Tok} (h:tab t=some ⟨.slice el,a,b,z⟩):jJ tab t (.sl k cs tk)=some (.v (.int .i64 k)):=by simp[jJ,h]
theorem GK {k o i j:Nat} (h:tab t=some ⟨.slice el,a,b,z⟩):jJ tab t (.bp k o i j)=some (.v (.int .i64 i)):=by simp[jJ,h]
end
end
def mi (x:Int):MV:=.v (.int .i64 x)
def mb (x:Bool):MV:=.v (.bool x)
structure VH.Ge (O O':VH):Prop where
 next:O.next<=O'.next
 hp:∀k,k<O.next->O'.hp k=O.hp k
section
variable {O O1 O2:VH} {x:b_} {k:Nat}
theorem VH.Ge.at {y:Option b_} (g:O.Ge O1) (h:O.hp k=y) (hk:k<O.next:=by omega):O1.hp k=y:=(g.hp k hk).trans h
theorem VH.Ge.refl (O:VH):O.Ge O:=⟨Nat.le_refl _,fun _ _=>rfl⟩
theorem VH.Ge.trans (h:O.Ge O1) (h2:O1.Ge O2):O.Ge O2:=⟨Nat.le_trans h.next h2.next,fun k hk=>(h2.hp k (Nat.lt_of_lt_of_le hk h.next)).trans (h.hp k hk)⟩
theorem VH.aV (O:VH) (x:b_):(O.push x).hp O.next=some x:=aG _ _ _
theorem VH.bw (O:VH) (x:b_) (h:k<O.next):(O.push x).hp k=O.hp k:=aw _ _ (by omega)
theorem VH.pj (O:VH) (x:b_) (h:k≠O.next):(O.push x).hp k=O.hp k:=aw _ _ h
theorem VH.ak (O:VH) (x:b_) {j:Nat} (h:j≠k):(O.set k x).hp j=O.hp j:=aw _ _ h
theorem VH.sn {j:Nat} {y:Option b_} (h:O.hp j=y) (hj:j≠k:=by omega):(O.set k x).hp j=y:=(VH.ak O x hj).trans h
theorem VH.kC (O:VH) {j:Nat} (h:j≠k):(O.kill k).hp j=O.hp j:=aw _ _ h
theorem VH.Ge.push (h:O.Ge O1) (x:b_):O.Ge (O1.push x):=h.trans ⟨Nat.le_succ _,fun _ hk=>VH.bw _ _ hk⟩
theorem VH.Ge.set (h:O.Ge O1) (hk:O.next<=k) (x:b_):O.Ge (O1.set k x):=⟨h.next,fun j hj=>VH.sn (h.hp j hj)⟩
theorem VH.Ge.kill (h:O.Ge O1) (hk:O.next<=k):O.Ge (O1.kill k):=⟨h.next,fun j hj=>(VH.kC _ (by omega)).trans (h.hp j hj)⟩
theorem VH.sw (O:VH) (x:b_):(O.push x).next=O.next+1:=rfl
theorem VH.eM (O:VH) (x:b_):(O.set k x).next=O.next:=rfl
end
def App (O:VH) (B sz:Nat):Tok->Prop
 | .nil=>True
 | .full=>True
 | .own t k=>k=sz/\O.hp t=some .tok/\B<=t/\t<O.next
 | .aq=>False
def VH.after (O:VH):Tok->VH
 | .own t _=>(O.kill t).push .tok
 | _=>O.push .tok
theorem VH.eN (O:VH) (tk:Tok):(O.after tk).next=O.next+1:=by cases tk<;>rfl
theorem VH.N2 (O:VH) (tk:Tok):(O.after tk).hp O.next=some .tok:=by
 cases tk<;>first | exact VH.aV _ _ | exact VH.aV (O.kill _) _
theorem App.after {O:VH} {B sz:Nat} {tk:Tok} (hB:B<=O.next):App (O.after tk) B sz (.own O.next sz):=⟨rfl,O.N2 tk,hB,by rw[O.eN];omega⟩
theorem VH.o_ {O:VH} {B sz:Nat} {tk:Tok} (ha:App O B sz tk) {k:Nat} {x:b_} (hk:O.hp k=some x) (hx:x≠ .tok) (hl:k<O.next):(O.after tk).hp k=some x:=by
 cases tk with
 | own t j=>
   refine(VH.bw (O.kill t) _ hl).trans ?_;rw[VH.kC _ (fun e=>by subst e;rw[ha.2.1]at hk;injection hk with hk;exact hx hk.symm)];exact hk
 | _=>exact(VH.bw _ _ hl).trans hk
theorem bo {tab:b9} {O:VH} {t el:TypeId} {u:TypeDesc} {a b sz Xk:Nat} {z y:List MV} (h:tab t=some ⟨.slice el,a,b,z⟩) (h2:tab el=some ⟨u,sz,Xk,y⟩) {B n k:Nat} {cs ds:List MV} {tk tk':Tok} (ha:App O B sz tk)
  (hc:cs.length=n*sz) (hd:ds.length=k*sz) (hl:ds.all dJ=true) (hs:0<sz) (hk:k≠0) (hb:(n+k)*Xk<=140737488355328) (hm:n+k<=maxLen):
  gY tab O t (.sl n cs tk) (.sl k ds tk')=some (.sl (n+k) (cs++ds) (.own O.next sz),O.after tk):=by
 simp only[gY,h,h2,Option.map_some];rw[if_pos ⟨hd,hl,hs⟩,if_neg hk,if_pos ⟨hc,hb,hm⟩];cases tk with
 | nil=>rfl
 | full=>rfl
 | own s j=>
   obtain⟨rfl,h3,_⟩:=ha;simp only[if_true,h3];rfl
 | aq=>exact ha.elim
section
variable {tab:b9} {t el:TypeId} {u:TypeDesc} {a b d:Nat} {z:List MV} {y m0 m1 m2:MV}
end
section
variable {tab:b9} {t el:TypeId} {u:TypeDesc} {a b d:Nat} {z:List MV} {y:MV} {v0 v1 v2:Value}
end
theorem zp1 (i:Nat) (x:Operand) (m:MV):fV #[(i,x)] [m]=[(i,m)]:=rfl
theorem zp2 (i j:Nat) (x y:Operand) (m q:MV):fV #[(i,x),(j,y)] [m,q]=[(i,m),(j,q)]:=rfl
theorem zp3 (i j k:Nat) (x y z:Operand) (m q r:MV):fV #[(i,x),(j,y),(k,z)] [m,q,r]=[(i,m),(j,q),(k,r)]:=rfl
theorem ar (x:Int):mi x= .v (.int .i64 x):=rfl
theorem a_ (x:Bool):mb x= .v (.bool x):=rfl
def looks (e:Env):List Nat->Option (List MV)
 | []=>some []
 | t::l=>(look e t).bind fun m=>(looks e l).map (m:: ·)
theorem N3 (e:Env):looks e []=some []:=rfl
theorem BF (e:Env) (t:Nat) (l:List Nat):looks e (t::l)=(look e t).bind fun m=>(looks e l).map (m:: ·):=rfl
def pair:List Nat->List MV->Env
 | t::l,m::ms=>(t,m)::pair l ms
 | _,_=>[]
theorem N4 (t:Nat) (l:List Nat) (m:MV) (ms:List MV):pair (t::l) (m::ms)=(t,m)::pair l ms:=rfl
theorem Td (ms:List MV):pair [] ms=[]:=rfl
section
variable {n:Sz} {D:List Deferred} {e:Env} {P:Program} {O:VH} {Q:VQ} {c:Code}
end
def GL (P:Program) (n:Sz) (D:List Deferred) (d:Code) (Q:VQ):VQ:=fun x e O=>match x with
 | .normal=>VC P n D d e O Q
 | x=>Q x e O
def h_ (id:Nat) (Q:VQ):VQ:=fun x e O=>match x with
 | .exit i=>if i=id then Q .normal e O else Q (.exit i) e O
 | x=>Q x e O
def H8 {σ :Type} (l:List Nat) (ms: σ ->List MV) (I: σ ->VH->Prop) (μ : σ ->Nat) (s: σ) (Q:VQ):VQ:=fun x e O=>match x with
 | .normal=>∃s',looks e l=some (ms s')/\I s' O/\ μ s'< μ s
 | x=>Q x e O
def mP (tab:b9) (fn:Func) (R:fL->VH->Prop):VQ:=fun x e O=>match x with
 | .normal=>∃m,db tab fn e O=some m/\R (.ret m) O
 | .ret=>∃m,db tab fn e O=some m/\R (.ret m) O
 | .panic m=>R (.panic m) O
 | _=>False
section
variable {n:Sz} {D:List Deferred} {e:Env} {P:Program} {O:VH} {Q:VQ} {c d:Code} {id i:Nat} {m:MV} {tab:b9} {fn:Func} {R:fL->VH->Prop}
theorem H9:GL P n D d Q .normal e O=VC P n D d e O Q:=rfl
theorem N5:GL P n D d Q (.exit i) e O=Q (.exit i) e O:=rfl
theorem N6:GL P n D d Q (.goto i) e O=Q (.goto i) e O:=rfl
theorem Te:GL P n D d Q .ret e O=Q .ret e O:=rfl
theorem J9:GL P n D d Q (.panic m) e O=Q (.panic m) e O:=rfl
theorem ux:h_ id Q .normal e O=Q .normal e O:=rfl
theorem yN:h_ id Q (.exit i) e O=if i=id then Q .normal e O else Q (.exit i) e O:=rfl
theorem yO:h_ id Q (.goto i) e O=Q (.goto i) e O:=rfl
theorem BG:h_ id Q .ret e O=Q .ret e O:=rfl
theorem qQ:h_ id Q (.panic m) e O=Q (.panic m) e O:=rfl
section
variable {σ :Type} {l:List Nat} {ms: σ ->List MV} {I: σ ->VH->Prop} {μ : σ ->Nat} {s: σ}
theorem J_:H8 l ms I μ s Q (.exit i) e O=Q (.exit i) e O:=rfl
theorem Ka:H8 l ms I μ s Q (.goto i) e O=Q (.goto i) e O:=rfl
theorem N7:H8 l ms I μ s Q .ret e O=Q .ret e O:=rfl
theorem H_:H8 l ms I μ s Q (.panic m) e O=Q (.panic m) e O:=rfl
end
theorem uy:sr Q .normal e O=Q .normal e O:=rfl
theorem yP:sr Q (.exit i) e O=Q (.exit i) e O:=rfl
theorem BH:sr Q .ret e O=Q .ret e O:=rfl
theorem w9:sr Q (.panic m) e O=Q (.panic m) e O:=rfl
theorem VC.seq' (h:VC P n D c e O (GL P n D d Q)):VC P n D (.seq c d) e O Q:=VC.seq h
theorem VC.aB (h:VC P n D c e O (h_ id Q)):VC P n D (.block id c) e O Q:=VC.block h
theorem VF.abR (ht:aK P tab) {f:FuncId} {c:Code} {args:List MV} (hf:P.funcs[f]?=some fn) (hb:fn.body=some c) (hn:args.length<=fn.ntmps)
  (h:VC P ⟨fn.ntmps,0⟩ [] c (cw 0 args) O (mP tab fn R)):VF P f args O R:=VF.enter ht hf hb hn h
end
section
variable {tab:b9} {n:Sz} {ops:Array Oper} {o:Oper} {l:List Oper} {e:Env} {O O':VH} {d:Option Tmp} {m:MV}
theorem aj (k:Nat):aU (some k) m e=(k,m)::e:=rfl
theorem Ds:aU none m e=e:=rfl
theorem Dt {k N:Nat}:bm ⟨N,0⟩ (some k)=decide (k<N):=by simp[bm]
theorem Xl {k N l:Nat}:bm ⟨N,l+1⟩ (some k)=(decide (l<k)&&decide (k<N)):=rfl
theorem Du:bm n none=true:=rfl
end
section
variable {tab:b9} {fn:Func} {R:fL->VH->Prop} {e:Env} {O:VH} {m m':MV} {t t':Nat}
theorem mP.Xm (hf:fn.results= #[]) (h:R (.ret (.tuple [])) O):mP tab fn R .ret e O:=⟨_,by rw[db,hf];rfl,h⟩
theorem mP.ahj (hf:fn.results= #[.tmp t]) (hl:look e t=some m) (h:R (.ret m) O):mP tab fn R .ret e O:=⟨_,by rw[db,hf];simp[jM,hl],h⟩
theorem mP.ahk (hf:fn.results= #[.tmp t,.tmp t']) (hl:look e t=some m) (NX:look e t'=some m') (h:R (.ret (.tuple [m,m'])) O):mP tab fn R .ret e O:=⟨_,by rw[db,hf];simp[jM,hl,NX],h⟩
theorem mP.Xn (hf:fn.results= #[]) (h:R (.ret (.tuple [])) O):mP tab fn R .normal e O:=⟨_,by rw[db,hf];rfl,h⟩
end
section
variable {G H:Gh} {n:Sz} {D:List Deferred} {e e':Env} {a:Act} {P:Program} {tab:b9} {O O':VH} {w:World} {m m':MV} {u v:Value} {ops:Array Oper} {Q:VQ}
def fy:Op->Nat
 | .move _ | .assign _ | .pick .. | .nilCheck _ | .binOp .. | .unOp .. | .convert .. | .fieldAddr .. | .field .. | .indexAddr .. | .index .. | .extract .. | .slice .. | .build .. | .makeFunc .. | .makeInterface .. =>1
 | .load .. =>2
 | .lookup .. =>5
 | .call c=>match c.callee with
   | .value _=>0
   | .builtin .len=>4
   | .builtin .max=>1
   | .builtin .min=>1
   | .builtin .unsafeSliceData=>1
   | _=>3
 | _=>3
theorem Xo {o:Oper} (h:fy o.op=1):iy tab o e O=none:=by
 unfold iy;unfold fy at h
 split<;>first
  | rfl
  | (rename_i ho;rw[ho]at h;cases h)
  | (rename_i ho
     rw[ho]at h
     split<;>first
      | rfl
      | (rename_i hc _ _;simp only[hc]at h;cases h))
theorem Xp {o:Oper} (h:fy o.op=1) (hv:c6 tab o e O=some (m,O')):ew tab o e=some m/\O'=O:=by
 unfold c6 at hv;rw[Xo h]at hv;split at hv
 ·rename_i p hp;simp only[Option.some.injEq,Prod.mk.injEq]at hv;exact⟨by rw[hp,hv.1],hv.2.symm⟩
 ·cases hv
inductive Fl where
 | one | av | rd | fk
inductive Md where
 | plain | any | reads
 | held (brk:List Nat)
def CL (tab:b9) (t:TypeId):MV->Option MV
 | .c8 cs off=>eQ tab ⟨0,fun _=>none⟩ t (.c8 cs off)
 | _=>none
def Xq (tab:b9) (o:Oper) (e:Env) (O:VH):Option (MV×VH):=
 match o.op with
 | .load t x=>((ev e x).bind (CL tab t)).map (·,O)
 | _=>none
def Rk (tab:b9) (o:Oper) (e:Env) (O:VH):Option (MV×VH):=
 match o.op with
 | .call c=>match c.callee,c.args.toList,c.argTypes.toList with
   | .builtin .len,[x],[t]=>((ev e x).bind (jJ tab t)).map (·,O)
   | _,_,_=>none
 | _=>none
def GM (tab:b9) (k:Nat) (o:Oper) (e:Env) (O:VH):Option (MV×VH):=
 match k with
 | 1=>c6 tab o e O
 | 2=>Xq tab o e O
 | 4=>Rk tab o e O
 | _=>none
def yQ (tab:b9) (k:Nat) (o:Oper) (e:Env) (O:VH):Option (MV×VH):=
 match k with
 | 1=>c6 tab o e O
 | 2=>c6 tab o e O
 | 4=>Rk tab o e O
 | 5=>c6 tab o e O
 | _=>none
def ia (tab:b9) (f:Fl) (o:Oper) (e:Env) (O:VH):Option (MV×VH):=
 match f with
 | .one=>c6 tab o e O
 | .fk=>none
 | .av=>GM tab (fy o.op) o e O
 | .rd=>yQ tab (fy o.op) o e O
theorem Tf {o:Oper} (hv:Xq tab o e O=some (m,O')):ew tab o e=some m/\O'=O:=by
 unfold Xq at hv;split at hv
 ·rename_i t x ho;obtain⟨q,h1,h2⟩:=Option.map_eq_some_iff.1 hv;obtain⟨p,h3,h4⟩:=Option.bind_eq_some_iff.1 h1;simp only[Prod.mk.injEq]at h2;refine⟨?_,h2.2.symm⟩;rw[<-h2.1];unfold CL at h4;split at h4
  ·simp only[ew,ho,h3];exact h4
  ·cases h4
 ·cases hv
theorem vZ {o:Oper} (hv:Rk tab o e O=some (m,O')):ew tab o e=some m/\O'=O:=by
 unfold Rk at hv;split at hv
 ·rename_i c ho;split at hv
  ·rename_i x t hc ha fh;obtain⟨q,h1,h2⟩:=Option.map_eq_some_iff.1 hv;simp only[Prod.mk.injEq]at h2;refine⟨?_,h2.2.symm⟩;rw[<-h2.1];simp only[ew,ho,hc,ha,fh];exact h1
  ·cases hv
 ·cases hv
theorem nB {o:Oper} (hv:ia tab .av o e O=some (m,O')):ew tab o e=some m/\O'=O:=by
 simp only[ia,GM]at hv;split at hv
 ·exact Xp ‹_› hv
 ·exact Tf hv
 ·exact vZ hv
 ·cases hv
theorem yR {o:Oper} (h:ew tab o e=some m):c6 tab o e O=some (m,O):=by unfold c6;rw[h]
theorem AB {f:Fl} {o:Oper} (hv:ia tab f o e O=some (m,O')):c6 tab o e O=some (m,O'):=by
 cases f with
 | one=>exact hv
 | fk=>cases hv
 | av=>obtain⟨h1,rfl⟩:=nB hv;exact yR h1
 | rd=>
   simp only[ia,yQ]at hv;split at hv
   ·exact hv
   ·exact hv
   ·obtain⟨h1,rfl⟩:=vZ hv;exact yR h1
   ·exact hv
   ·cases hv
theorem v7 (ht:aK P tab) (hw:WR G O w) (h:FR G n D e a) {f:Fl} {o:Oper} (hf:f≠ .one) (hv:ia tab f o e O=some (m,O')):O'=O/\∃u,VR G m u/\∀x,Sx G w x->(execOp a.eval o).run P x= .ok (.value u) x:=by
 have av:∀{m},ew tab o e=some m->∃u,VR G m u/\∀x,Sx G w x->(execOp a.eval o).run P x= .ok (.value u) x:=fun h1=>by
  obtain⟨u,hu,hr⟩:=uh (P:=P) ht h h1;exact⟨u,hu,fun x hx=>hr x hx.1⟩
 cases f with
 | one=>exact absurd rfl hf
 | fk=>cases hv
 | av=>obtain⟨h1,rfl⟩:=nB hv;exact⟨rfl,av h1⟩
 | rd=>
   simp only[ia,yQ]at hv;split at hv
   ·obtain⟨h1,rfl⟩:=Xp ‹_› hv;exact⟨rfl,av h1⟩
   ·rename_i hk;unfold c6 at hv;split at hv
    ·rename_i p hp;simp only[Option.some.injEq,Prod.mk.injEq]at hv;obtain⟨rfl,rfl⟩:=hv;exact⟨rfl,av hp⟩
    ·unfold iy at hv
     split at hv<;>first
      | (rename_i t x ho
         obtain⟨p,h1,h2⟩:=Option.bind_eq_some_iff.1 hv;obtain⟨q,h3,h4⟩:=Option.map_eq_some_iff.1 h2;simp only[Prod.mk.injEq]at h4;obtain⟨rfl,rfl⟩:=h4;obtain⟨u,g1,g2⟩:=nS (P:=P) ht hw h3 (h.ev h1);exact⟨rfl,u,g1,fun x hx=>by simp only[execOp,ho,Sem.run_bind,g2 x hx];rfl⟩)
      | (rename_i ho;rw[ho]at hk;simp only[fy]at hk;cases hk)
      | (rename_i ho _ _ _;rw[ho]at hk;simp only[fy]at hk;cases hk)
      | cases hv
      | (rename_i c ho
         exfalso;rw[ho]at hk;simp only[fy]at hk;split at hk<;>cases hk)
   ·obtain⟨h1,rfl⟩:=vZ hv;exact⟨rfl,av h1⟩
   ·rename_i hk;unfold c6 at hv;split at hv
    ·rename_i p hp;simp only[Option.some.injEq,Prod.mk.injEq]at hv;obtain⟨rfl,rfl⟩:=hv;exact⟨rfl,av hp⟩
    ·unfold iy at hv
     split at hv<;>first
      | (rename_i t x k ok ho
         split at hv
         ·rename_i p q h1 h2;obtain⟨r,h3,h4⟩:=Option.map_eq_some_iff.1 hv;simp only[Prod.mk.injEq]at h4;obtain⟨rfl,rfl⟩:=h4;obtain⟨u,g1,g2⟩:=w6 (P:=P) ht hw h3 (h.ev h1) (h.ev h2);exact⟨rfl,u,g1,fun x hx=>by simp only[execOp,ho,Sem.run_bind,g2 x hx];rfl⟩
         ·cases hv)
      | (rename_i ho;rw[ho]at hk;simp only[fy]at hk;cases hk)
      | (rename_i ho _ _ _;rw[ho]at hk;simp only[fy]at hk;cases hk)
      | cases hv
      | (rename_i c ho
         exfalso;rw[ho]at hk;simp only[fy]at hk;split at hk<;>cases hk)
   ·cases hv
def cE (md:Md) (ops:Array Oper):Nat->Array Bool->List (Nat×Fl)->Bool
 | _,listed,[]=>Region.ready .any ops listed==[]
 | 0,_,_::_=>false
 | k+1,listed,(i,f)::r=>(match f,md,r with
   | .one,.any,_=>Region.ready .any ops listed==[i]
   | .av,.any,_=>Region.free .any ops listed i&&(Region.ready .any ops listed).contains i
   | .av,.reads,_=>Region.free .any ops listed i&&(Region.ready .any ops listed).contains i
   | .rd,.reads,_=>Region.free .any ops listed i&&(Region.ready .any ops listed).contains i
   | .av,.held brk,_=>Region.free .any ops listed i&&(Region.ready .any ops listed).contains i&&nA ops brk listed i
   | .rd,.held brk,_=>Region.free .any ops listed i&&(Region.ready .any ops listed).contains i&&nA ops brk listed i
   | .one,.held brk,_=>Region.ready .any ops listed==[i]&&((!brk.contains i&&((ops[i]?).map fun o=>Fv o.op).getD false)||(brk.contains i&&(List.range listed.size).all fun j=>(listed.setIfInBounds i true).getD j true||brk.contains j))
   | .fk,.any,(j,.one)::_=>(Region.ready .any ops listed==[i,j]||Region.ready .any ops listed==[j,i])&&Region.ready .any ops (listed.setIfInBounds i true)==[j]&&Region.ready .any ops (listed.setIfInBounds j true)==[i]
   | _,_,_=>false)&&cE md ops k (listed.setIfInBounds i true) r
def Fits (ops:Array Oper):List (Nat×Fl)->List (Fl×Oper)->Prop
 | [],[]=>True
 | (i,f)::ix,(g,o)::L=>f=g/\ops[i]?=some o/\Fits ops ix L
 | _,_=>False
def afO (P:Program) (n:Sz) (D:List Deferred) (ops:Array Oper) (fuel:Nat) (listed:Array Bool) (e:Env) (O:VH) (Q:VQ):Prop:=
 ∀G a w,WR G O w->FR G n D e a->wpAnyH P .any ops (cx G n D Q) (fun x=>x=w) fuel listed a w
def Xr (P:Program) (n:Sz) (D:List Deferred) (md:Md) (ops:Array Oper) (fuel:Nat) (listed:Array Bool) (ix:List (Nat×Fl)) (e:Env) (O:VH) (Q:VQ):Prop:=
 match md with
 | .plain=>g_ P n D ops (ix.map (·.1)) e O Q
 | .any=>cf P n D ops fuel listed e O Q
 | .reads=>afO P n D ops fuel listed e O Q
 | .held brk=>bE P n D ops brk fuel listed e O Q
def VL (P:Program) (n:Sz) (D:List Deferred) (md:Md) (ops:Array Oper) (L:List (Fl×Oper)) (e:Env) (O:VH) (Q:VQ):Prop:=
 ∀fuel listed ix,Fits ops ix L->(md≠ .plain->Region.noSelect ops=true/\cE md ops fuel listed ix=true)->Xr P n D md ops fuel listed ix e O Q
theorem VL.nil {md:Md} (h:Q .normal e O):VL P n D md ops [] e O Q:=by
 intro fuel listed ix hf hp;cases ix with
 | cons x ix=>exact hf.elim
 | nil=>
   cases md with
   | plain=>exact g_.nil h
   | any=>
     have:=(hp (by simp)).2;rw[cE]at this;exact cf.done (by simpa using this) h
   | reads=>
     have:=(hp (by simp)).2;rw[cE]at this;intro G a w hw aS;exact wpAnyH_done (by simpa using this) ⟨.normal,e,O,G,Gh.Le.refl G,hw,aS,trivial,h⟩ fuel
   | held brk=>
     have:=(hp (by simp)).2;rw[cE]at this;exact bE.done (by simpa using this) h
theorem rC {brk:List Nat} {i:Nat} {listed:Array Bool} {o:Oper} (ho:ops[i]?=some o) (h:((!brk.contains i&&((ops[i]?).map fun o=>Fv o.op).getD false)||(brk.contains i&&(List.range listed.size).all fun j=>(listed.setIfInBounds i true).getD j true||brk.contains j))=true):
  (brk.contains i=false/\Fv o.op=true)\/∀j,(listed.setIfInBounds i true).getD j true=false\/j=i->brk.contains j=true:=by
 rw[ho]at h;simp only[Option.map_some,Option.getD_some,Bool.or_eq_true,Bool.and_eq_true,Bool.not_eq_true']at h;rcases h with h | ⟨h1,h2⟩
 ·exact .inl h
 ·refine .inr fun j hj=>?_
  rcases hj with hj | rfl
  ·rcases Nat.lt_or_ge j listed.size with hl | hl
   ·have:=List.all_eq_true.1 h2 j (List.mem_range.2 hl);rw[hj,Bool.false_or]at this;exact this
   ·rw[Array.getD_eq_getD_getElem?,Array.getElem?_eq_none (by simpa using hl)]at hj;cases hj
  ·exact h1
theorem aH.skip {i:Nat} {o:Oper} {K:Env->VH->Prop} (ho:ops[i]?=some o) (hg:aL ops o e=some false) (hd:bm n o.dst=true) (hk:K (aU o.dst cD e) O):aH P n D ops i e O Q K:=by
 intro G a w hw aS;simp only[wpOp,ho,bj aS hg,Bool.false_eq_true,if_false];exact⟨_,_,G,Gh.Le.refl G,hw,aS.aU hd kQ,hk⟩
theorem uz {f:Fl} {o:Oper} (hf:f≠ .one) (hv:ia tab f o e O=some (m,O')):O'=O:=by
 cases f with
 | one=>exact absurd rfl hf
 | fk=>cases hv
 | av=>exact(nB hv).2
 | rd=>
   simp only[ia,yQ]at hv
   have key:∀{k},fy o.op=k->k≠0->k≠3->c6 tab o e O=some (m,O')->O'=O:=fun{k} hk h0 h3 hv=>by
    unfold c6 at hv;split at hv
    ·simp only[Option.some.injEq,Prod.mk.injEq]at hv;exact hv.2.symm
    ·unfold iy at hv
     split at hv<;>first
      | (rename_i ho;rw[ho]at hk;simp only[fy]at hk;exact absurd hk.symm h3)
      | (cases hv;done)
      | (rename_i ho _ _ _;rw[ho]at hk;simp only[fy]at hk;exact absurd hk.symm h3)
      | (obtain⟨p,h1,h2⟩:=Option.bind_eq_some_iff.1 hv
         obtain⟨q,h3,h4⟩:=Option.map_eq_some_iff.1 h2;simp only[Prod.mk.injEq]at h4;exact h4.2.symm)
      | (split at hv
         ·obtain⟨r,h3,h4⟩:=Option.map_eq_some_iff.1 hv;simp only[Prod.mk.injEq]at h4;exact h4.2.symm
         ·cases hv)
      | (rename_i c ho
         rw[ho]at hk;simp only[fy]at hk;split at hv
         ·rename_i hc _ _;simp only[hc]at hk;exact absurd hk.symm h3
         ·obtain⟨p,h1,h2⟩:=Option.bind_eq_some_iff.1 hv;obtain⟨q,h3,h4⟩:=Option.map_eq_some_iff.1 h2;simp only[Prod.mk.injEq]at h4;exact h4.2.symm
         ·cases hv)
   split at hv
   ·exact key ‹_› (by decide) (by decide) hv
   ·exact key ‹_› (by decide) (by decide) hv
   ·exact(vZ hv).2
   ·exact key ‹_› (by decide) (by decide) hv
   ·cases hv
theorem VL.step (ht:aK P tab) {md:Md} {f:Fl} {o:Oper} {L:List (Fl×Oper)} (hg:aL ops o e=some true) (hv:ia tab f o e O=some (m,O')) (hd:bm n o.dst=true)
  (h:VL P n D md ops L (aU o.dst m e) O' Q):VL P n D md ops ((f,o)::L) e O Q:=by
 intro fuel listed ix hf hp
 match ix,hf with
 | (i,g)::ix,hf=>
   obtain⟨rfl,ho,hf⟩:=hf;cases md with
   | plain=>exact g_.step ht ho hg (AB hv) hd (h 0 #[] ix hf (fun h=>absurd rfl h))
   | any=>
     obtain⟨h1,h2⟩:=hp (by simp);cases fuel with
     | zero=>cases h2
     | succ fuel=>
       simp only[cE,Bool.and_eq_true]at h2;have hk:=h fuel (listed.setIfInBounds i true) ix hf (fun _=>⟨h1,h2.2⟩);cases g with
       | one=>
         have hr:Region.ready .any ops listed=[i]:=by simpa using h2.1
         exact cf.all hr (by simp) fun j hj=>by
          obtain rfl:j=i:=by simpa using hj
          exact aH.op ht ho hg (AB hv) hd hk
       | av=>
         obtain⟨hs,rfl⟩:=nB hv;simp only[Bool.and_eq_true]at h2;exact cf.Rg ht ho h1 h2.1.1 h2.1.2 hg hs hd hk
       | rd=>exact absurd h2.1 (by simp)
       | fk=>cases hv
   | reads=>
     obtain⟨h1,h2⟩:=hp (by simp);cases fuel with
     | zero=>cases h2
     | succ fuel=>
       simp only[cE,Bool.and_eq_true]at h2;have hk:=h fuel (listed.setIfInBounds i true) ix hf (fun _=>⟨h1,h2.2⟩);have hne:g≠ .one:=by rintro rfl;exact absurd h2.1 (by simp)
       intro G a w hw aS;obtain⟨rfl,u,hu,cc⟩:=v7 (P:=P) ht hw aS hne hv;have h3:Region.free .any ops listed i=true/\(Region.ready .any ops listed).contains i=true:=by cases g<;>simp_all
       exact wpAnyH_take ho h1 h3.1 h3.2 (gK hd) (.inl ⟨bj aS hg,fun w' qM=>by rw[qM];exact cc w hw.sx⟩) rfl (hk G _ w hw (aS.aU hd hu))
   | held brk=>
     obtain⟨h1,h2⟩:=hp (by simp);cases fuel with
     | zero=>cases h2
     | succ fuel=>
       simp only[cE,Bool.and_eq_true]at h2;have hk:=h fuel (listed.setIfInBounds i true) ix hf (fun _=>⟨h1,h2.2⟩);cases g with
       | one=>
         simp only[Bool.and_eq_true]at h2;have hr:Region.ready .any ops listed=[i]:=by simpa using h2.1.1
         exact bE.one ht ho hr (rC ho h2.1.2) hg (AB hv) hd hk
       | fk=>exact absurd h2.1 (by simp)
       | av=>
         simp only[Bool.and_eq_true]at h2
         exact bE.take ho h1 h2.1.1.1 h2.1.1.2 h2.1.2 hd (fun G a w hw aS=>by
          obtain⟨_,u,hu,cc⟩:=v7 (P:=P) ht hw aS (by simp) hv;exact⟨u,hu,.inl ⟨bj aS hg,cc⟩⟩) (by
          obtain rfl:=uz (by simp) hv;exact hk)
       | rd=>
         simp only[Bool.and_eq_true]at h2
         exact bE.take ho h1 h2.1.1.1 h2.1.1.2 h2.1.2 hd (fun G a w hw aS=>by
          obtain⟨_,u,hu,cc⟩:=v7 (P:=P) ht hw aS (by simp) hv;exact⟨u,hu,.inl ⟨bj aS hg,cc⟩⟩) (by
          obtain rfl:=uz (by simp) hv;exact hk)
theorem VL.skip {md:Md} {f:Fl} {o:Oper} {L:List (Fl×Oper)} (Kb:f≠ .fk) (hg:aL ops o e=some false) (hd:bm n o.dst=true)
  (h:VL P n D md ops L (aU o.dst cD e) O Q):VL P n D md ops ((f,o)::L) e O Q:=by
 intro fuel listed ix hf hp
 match ix,hf with
 | (i,g)::ix,hf=>
   obtain⟨rfl,ho,hf⟩:=hf;cases md with
   | plain=>exact g_.skip ho hg hd (h 0 #[] ix hf (fun h=>absurd rfl h))
   | any=>
     obtain⟨h1,h2⟩:=hp (by simp);cases fuel with
     | zero=>cases h2
     | succ fuel=>
       simp only[cE,Bool.and_eq_true]at h2;have hk:=h fuel (listed.setIfInBounds i true) ix hf (fun _=>⟨h1,h2.2⟩);cases g with
       | one=>
         have hr:Region.ready .any ops listed=[i]:=by simpa using h2.1
         exact cf.all hr (by simp) fun j hj=>by
          obtain rfl:j=i:=by simpa using hj
          exact aH.skip ho hg hd hk
       | av=>
         simp only[Bool.and_eq_true]at h2;exact cf.Xd ho h1 h2.1.1 h2.1.2 hg hd hk
       | rd=>exact absurd h2.1 (by simp)
       | fk=>exact absurd rfl Kb
   | reads=>
     obtain⟨h1,h2⟩:=hp (by simp);cases fuel with
     | zero=>cases h2
     | succ fuel=>
       simp only[cE,Bool.and_eq_true]at h2;have hk:=h fuel (listed.setIfInBounds i true) ix hf (fun _=>⟨h1,h2.2⟩);have hne:g≠ .one:=by rintro rfl;exact absurd h2.1 (by simp)
       intro G a w hw aS;have h3:Region.free .any ops listed i=true/\(Region.ready .any ops listed).contains i=true:=by cases g<;>simp_all
       exact wpAnyH_take ho h1 h3.1 h3.2 (gK hd) (.inr ⟨bj aS hg,rfl⟩) rfl (hk G _ w hw (aS.aU hd kQ))
   | held brk=>
     obtain⟨h1,h2⟩:=hp (by simp);cases fuel with
     | zero=>cases h2
     | succ fuel=>
       simp only[cE,Bool.and_eq_true]at h2;have hk:=h fuel (listed.setIfInBounds i true) ix hf (fun _=>⟨h1,h2.2⟩);cases g with
       | one=>
         simp only[Bool.and_eq_true]at h2;have hr:Region.ready .any ops listed=[i]:=by simpa using h2.1.1
         exact bE.afM ho hr (rC ho h2.1.2) hg hd hk
       | fk=>exact absurd h2.1 (by simp)
       | av=>
         simp only[Bool.and_eq_true]at h2;exact bE.take ho h1 h2.1.1.1 h2.1.1.2 h2.1.2 hd (fun G a w hw aS=>⟨undef,kQ,.inr ⟨bj aS hg,rfl⟩⟩) hk
       | rd=>
         simp only[Bool.and_eq_true]at h2;exact bE.take ho h1 h2.1.1.1 h2.1.1.2 h2.1.2 hd (fun G a w hw aS=>⟨undef,kQ,.inr ⟨bj aS hg,rfl⟩⟩) hk
theorem VL.call {md:Md} {L:List (Fl×Oper)} {d:Option Tmp} {f:Operand} {args:Array Operand} {tys:Array TypeId} {ty:TypeId} {ps:String} {af:Array Edge} {g:Option (Nat×Bool)} {id:FuncId} {fs ms cs as_:List MV} {R:fL->VH->Prop}
  (hg:aL ops (.mk d (.call {callee:=.value f,args:=args,argTypes:=tys}) ty ps af g) e=some true) (hf:ev e f=some (.func (.func id) fs cs)) (hm:fG e args.toList=some ms) (ha:fs++ms++cs=as_) (hE:Enters P id) (hd:bm n d=true) (hR:VF P id as_ O R)
  (h:∀r O',R r O'->match r with
   | .ret m=>VL P n D md ops L (aU d m e) O' Q
   | .panic m=>Q (.panic m) (kB n e) O'):VL P n D md ops ((.one,.mk d (.call {callee:=.value f,args:=args,argTypes:=tys}) ty ps af g)::L) e O Q:=by
 intro fuel listed ix rD hp;subst ha
 match ix,rD with
 | (i,g')::ix,rD=>
   obtain⟨rfl,ho,rD⟩:=rD;cases md with
   | plain=>
     refine g_.call ho hg rfl rfl hf hm hE hd hR fun r O' hr=>?_
     have:=h r O' hr;cases r with
     | ret m=>exact this 0 #[] ix rD (fun h=>absurd rfl h)
     | panic m=>exact this
   | any=>
     obtain⟨h1,h2⟩:=hp (by simp);cases fuel with
     | zero=>cases h2
     | succ fuel=>
       simp only[cE,Bool.and_eq_true]at h2;have hr:Region.ready .any ops listed=[i]:=by simpa using h2.1
       exact cf.all hr (by simp) fun j hj=>by
        obtain rfl:j=i:=by simpa using hj
        refine aH.call ho hg rfl rfl hf hm hE hd hR fun r O' hr=>?_
        have:=h r O' hr;cases r with
        | ret m=>exact this fuel (listed.setIfInBounds j true) ix rD (fun _=>⟨h1,h2.2⟩)
        | panic m=>exact this
   | reads=>
     obtain⟨h1,h2⟩:=hp (by simp);cases fuel with
     | zero=>cases h2
     | succ fuel=>
       simp only[cE,Bool.and_eq_true]at h2;exact absurd h2.1 (by simp)
   | held brk=>
     obtain⟨h1,h2⟩:=hp (by simp);cases fuel with
     | zero=>cases h2
     | succ fuel=>
       simp only[cE,Bool.and_eq_true]at h2;have hr:Region.ready .any ops listed=[i]:=by simpa using h2.1.1
       have hb:∀j,(listed.setIfInBounds i true).getD j true=false\/j=i->brk.contains j=true:=by
        rcases rC ho h2.1.2 with⟨_,h3⟩ | h3
        ·cases h3
        ·exact h3
       refine bE.Xi hr hb (aH.call ho hg rfl rfl hf hm hE hd hR fun r O' hr=>?_);have:=h r O' hr;cases r with
       | ret m=>exact this fuel (listed.setIfInBounds i true) ix rD (fun _=>⟨h1,h2.2⟩)
       | panic m=>exact this
def iz (tab:b9) (n:Sz) (ops:Array Oper):List (Fl×Oper)->Env->VH->Option (List (Fl×Oper)×Env×VH)
 | [],e,O=>some ([],e,O)
 | (.fk,o)::L,e,O=>some ((.fk,o)::L,e,O)
 | (f,o)::L,e,O=>match fy o.op==0,aL ops o e with
   | _,none=>none
   | true,some true=>some ((f,o)::L,e,O)
   | false,some true=>match ia tab f o e O with
     | none=>some ((f,o)::L,e,O)
     | some (m,O')=>match bm n o.dst with
       | true=>iz tab n ops L (aU o.dst m e) O'
       | false=>none
   | _,some false=>match bm n o.dst with
     | true=>iz tab n ops L (aU o.dst cD e) O
     | false=>none
theorem VL.run (ht:aK P tab) {md:Md}:∀{L L':List (Fl×Oper)} {e:Env} {O:VH},iz tab n ops L e O=some (L',e',O')->VL P n D md ops L' e' O' Q->VL P n D md ops L e O Q
 | [],L',e,O,h,hQ=>by
   simp only[iz,Option.some.injEq,Prod.mk.injEq]at h;obtain⟨rfl,rfl,rfl⟩:=h;exact hQ
 | (.fk,o)::L,L',e,O,h,hQ=>by
   simp only[iz,Option.some.injEq,Prod.mk.injEq]at h;obtain⟨rfl,rfl,rfl⟩:=h;exact hQ
 | (.one,o)::L,L',e,O,h,hQ=>by
   simp only[iz]at h;split at h
   ·cases h
   ·simp only[Option.some.injEq,Prod.mk.injEq]at h;obtain⟨rfl,rfl,rfl⟩:=h;exact hQ
   ·split at h
    ·simp only[Option.some.injEq,Prod.mk.injEq]at h;obtain⟨rfl,rfl,rfl⟩:=h;exact hQ
    ·split at h
     ·exact VL.step ht ‹_› ‹_› ‹_› (VL.run ht h hQ)
     ·cases h
   ·split at h
    ·exact VL.skip (by simp) ‹_› ‹_› (VL.run ht h hQ)
    ·cases h
 | (.av,o)::L,L',e,O,h,hQ=>by
   simp only[iz]at h;split at h
   ·cases h
   ·simp only[Option.some.injEq,Prod.mk.injEq]at h;obtain⟨rfl,rfl,rfl⟩:=h;exact hQ
   ·split at h
    ·simp only[Option.some.injEq,Prod.mk.injEq]at h;obtain⟨rfl,rfl,rfl⟩:=h;exact hQ
    ·split at h
     ·exact VL.step ht ‹_› ‹_› ‹_› (VL.run ht h hQ)
     ·cases h
   ·split at h
    ·exact VL.skip (by simp) ‹_› ‹_› (VL.run ht h hQ)
    ·cases h
 | (.rd,o)::L,L',e,O,h,hQ=>by
   simp only[iz]at h;split at h
   ·cases h
   ·simp only[Option.some.injEq,Prod.mk.injEq]at h;obtain⟨rfl,rfl,rfl⟩:=h;exact hQ
   ·split at h
    ·simp only[Option.some.injEq,Prod.mk.injEq]at h;obtain⟨rfl,rfl,rfl⟩:=h;exact hQ
    ·split at h
     ·exact VL.step ht ‹_› ‹_› ‹_› (VL.run ht h hQ)
     ·cases h
   ·split at h
    ·exact VL.skip (by simp) ‹_› ‹_› (VL.run ht h hQ)
    ·cases h
def Kc (tab:b9) (n:Sz) (ops:Array Oper) (L:List (Fl×Oper)) (e:Env) (O:VH):Bool->Option (List (Fl×Oper)×Env×VH)
 | true=>iz tab n ops L e O
 | false=>none
def Xs (tab:b9) (n:Sz) (ops:Array Oper) (fo:Fl×Oper) (L:List (Fl×Oper)) (e:Env) (O:VH):Option (MV×VH)->Option (List (Fl×Oper)×Env×VH)
 | some (m,O')=>Kc tab n ops L (aU fo.2.dst m e) O' (bm n fo.2.dst)
 | none=>some (fo::L,e,O)
def Kd (tab:b9) (n:Sz) (ops:Array Oper) (f:Fl) (o:Oper) (L:List (Fl×Oper)) (e:Env) (O:VH):Bool->Option Bool->Option (List (Fl×Oper)×Env×VH)
 | _,none=>none
 | true,some true=>some ((f,o)::L,e,O)
 | false,some true=>Xs tab n ops (f,o) L e O (ia tab f o e O)
 | _,some false=>Kc tab n ops L (aU o.dst cD e) O (bm n o.dst)
section
variable {f:Fl} {o:Oper} {L:List (Fl×Oper)} {d:Option Tmp} {p:Op} {ty:TypeId} {ps:String} {af:Array Edge} {g:Option (Nat×Bool)} {b:Bool}
theorem N8:iz tab n ops [] e O=some ([],e,O):=rfl
theorem uA (Kb:f≠ .fk):iz tab n ops ((f,.mk d p ty ps af g)::L) e O=Kd tab n ops f (.mk d p ty ps af g) L e O (fy p==0) (aL ops (.mk d p ty ps af g) e):=by
 have key:iz tab n ops ((f,.mk d p ty ps af g)::L) e O=match fy p==0,aL ops (.mk d p ty ps af g) e with
  | _,none=>none
  | true,some true=>some ((f,.mk d p ty ps af g)::L,e,O)
  | false,some true=>match ia tab f (.mk d p ty ps af g) e O with
    | none=>some ((f,.mk d p ty ps af g)::L,e,O)
    | some (m,O')=>match bm n d with
      | true=>iz tab n ops L (aU d m e) O'
      | false=>none
  | _,some false=>match bm n d with
    | true=>iz tab n ops L (aU d cD e) O
    | false=>none:=by
  cases f<;>first | exact absurd rfl Kb | rfl
 rw[key];generalize aL ops (.mk d p ty ps af g) e=x;generalize (fy p==0)=y;unfold Kd;cases x with
 | none=>rfl
 | some b=>
   cases b<;>cases y<;>simp only
   ·unfold Kc;cases bm n d<;>rfl
   ·unfold Kc;cases bm n d<;>rfl
   ·unfold Xs;cases ia tab f (.mk d p ty ps af g) e O with
    | none=>rfl
    | some r=>unfold Kc;cases bm n d<;>rfl
theorem N9:iz tab n ops ((.one,.mk d p ty ps af g)::L) e O=Kd tab n ops .one (.mk d p ty ps af g) L e O (fy p==0) (aL ops (.mk d p ty ps af g) e):=uA (by simp)
theorem N_:iz tab n ops ((.av,.mk d p ty ps af g)::L) e O=Kd tab n ops .av (.mk d p ty ps af g) L e O (fy p==0) (aL ops (.mk d p ty ps af g) e):=uA (by simp)
theorem Tg:iz tab n ops ((.rd,.mk d p ty ps af g)::L) e O=Kd tab n ops .rd (.mk d p ty ps af g) L e O (fy p==0) (aL ops (.mk d p ty ps af g) e):=uA (by simp)
theorem Th:iz tab n ops ((.fk,o)::L) e O=some ((.fk,o)::L,e,O):=rfl
theorem Ti:Kd tab n ops f o L e O true (some true)=some ((f,o)::L,e,O):=rfl
theorem abS:Kd tab n ops f (.mk d p ty ps af g) L e O false (some true)=Xs tab n ops (f,.mk d p ty ps af g) L e O (ia tab f (.mk d p ty ps af g) e O):=rfl
theorem Tj:Kd tab n ops f (.mk d p ty ps af g) L e O b (some false)=Kc tab n ops L (aU d cD e) O (bm n d):=by cases b<;>rfl
theorem Tl:Xs tab n ops (f,.mk d p ty ps af g) L e O (some (m,O'))=Kc tab n ops L (aU d m e) O' (bm n d):=rfl
theorem Tm {fo:Fl×Oper}:Xs tab n ops fo L e O none=some (fo::L,e,O):=rfl
theorem Tn:Kc tab n ops L e O true=iz tab n ops L e O:=rfl
theorem v8:ia tab .one o e O=c6 tab o e O:=rfl
theorem GN:ia tab .av (.mk d p ty ps af g) e O=GM tab (fy p) (.mk d p ty ps af g) e O:=rfl
theorem Ke:ia tab .rd (.mk d p ty ps af g) e O=yQ tab (fy p) (.mk d p ty ps af g) e O:=rfl
theorem Rl:GM tab 1 o e O=c6 tab o e O:=rfl
theorem Rm {t:TypeId} {x:Operand}:GM tab 2 (.mk d (.load t x) ty ps af g) e O=((ev e x).bind (CL tab t)).map (·,O):=rfl
theorem Rn {t:TypeId} {x:Operand}:GM tab 4 (.mk d (.call {callee:=.builtin .len,args:= #[x],argTypes:= #[t]}) ty ps af g) e O=((ev e x).bind (jJ tab t)).map (·,O):=rfl
theorem Ro:yQ tab 1 o e O=c6 tab o e O:=rfl
theorem Rp:yQ tab 2 o e O=c6 tab o e O:=rfl
theorem Rq:yQ tab 5 o e O=c6 tab o e O:=rfl
theorem Rr {t:TypeId} {x:Operand}:yQ tab 4 (.mk d (.call {callee:=.builtin .len,args:= #[x],argTypes:= #[t]}) ty ps af g) e O=((ev e x).bind (jJ tab t)).map (·,O):=rfl
theorem GO {t:TypeId} {cs:List MV} {off:Nat}:CL tab t (.c8 cs off)=eQ tab ⟨0,fun _=>none⟩ t (.c8 cs off):=rfl
end
section
variable {x y z:Operand} {t t':TypeId} {f:Nat} {q:BinOp} {r:UnOp} {as_:Array Operand} {ts:Array TypeId} {l h k:Option Operand} {fn:Fn} {ps:Array (Nat×Operand)}
theorem GQ:fy (.move x)=1:=rfl
theorem BI:fy (.assign x)=1:=rfl
theorem GS:fy (.pick x y z)=1:=rfl
theorem w_:fy (.nilCheck x)=1:=rfl
theorem Dv:fy (.binOp q t x y t')=1:=rfl
theorem GU:fy (.unOp r t x)=1:=rfl
theorem yS:fy (.convert t t' x)=1:=rfl
theorem uB:fy (.fieldAddr t x f)=1:=rfl
theorem Dw:fy (.field t x f)=1:=rfl
theorem uC:fy (.indexAddr t x y)=1:=rfl
theorem Dx:fy (.index t x y)=1:=rfl
theorem yT:fy (.extract x f)=1:=rfl
theorem Dy:fy (.slice t x l h k)=1:=rfl
theorem Dz:fy (.build t ps)=1:=rfl
theorem xc {To:Array Operand}:fy (.makeFunc fn as_ To)=1:=rfl
theorem po:fy (.makeInterface t x)=1:=rfl
theorem GV:fy (.load t x)=2:=rfl
theorem DA:fy (.call {callee:=.value x,args:=as_,argTypes:=ts})=0:=rfl
theorem Kf:fy (.call {callee:=.builtin .len,args:=as_,argTypes:=ts})=4:=rfl
theorem Kg:fy (.call {callee:=.builtin .max,args:=as_,argTypes:=ts})=1:=rfl
theorem Kh:fy (.call {callee:=.builtin .min,args:=as_,argTypes:=ts})=1:=rfl
theorem Oa:fy (.call {callee:=.builtin .unsafeSliceData,args:=as_,argTypes:=ts})=1:=rfl
theorem BJ:fy (.call {callee:=.builtin .append,args:=as_,argTypes:=ts})=3:=rfl
theorem DB:fy (.store t x y)=3:=rfl
theorem Ki:fy (.box t x)=3:=rfl
theorem DC:fy (.alloc t)=3:=rfl
theorem tn:fy (.buildSlice t f ps)=3:=rfl
theorem yU {t:TypeId} {r:Option Operand}:fy (.makeMap t r)=3:=rfl
theorem BK {t:TypeId} {x y:Operand} {b:Bool}:fy (.lookup t x y b)=5:=rfl
theorem uD {t:TypeId} {x y z:Operand}:fy (.mapUpdate t x y z)=3:=rfl
theorem BL {t:TypeId} {x y z:Operand}:fy (.insert t x y z)=3:=rfl
theorem uE:fy (.makeSlice t x y)=3:=rfl
end
theorem uF:∀(l:List Oper) (k:Nat),(∀j,l[j]?=none\/l[j]?=ops[k+j]?)->Fits ops ((List.range' k l.length).map (·,Fl.one)) (l.map (Fl.one, ·))
 | [],_,_=>trivial
 | o::l,k,h=>by
   rw[List.length_cons,List.range'_succ];refine⟨rfl,?_,uF l (k+1) fun j=>?_⟩
   ·rcases h 0 with h0 | h0
    ·cases h0
    ·simpa using h0.symm
   ·rcases h (j+1)with h0 | h0
    ·exact .inl (by simpa using h0)
    ·exact .inr (by rw[show k+1+j=k+(j+1)from by omega];simpa using h0)
theorem VC.Rs {id:Nat} {l:List Oper} (h:VL P n D .plain ⟨l⟩ (l.map (Fl.one, ·)) e O Q):VC P n D (.region id ⟨l⟩ false) e O Q:=by
 refine VC.region ?_;have:=h 0 #[] _ (uF l 0 fun j=>.inr (by simp)) (fun h=>absurd rfl h);simp only[Xr,List.map_map]at this;rw[show(⟨l⟩:Array Oper).size=l.length from rfl,List.range_eq_range'];rw[show((fun x:Nat×Fl=>x.1) ∘ fun x=>(x,Fl.one))=_root_.id from rfl,List.map_id]at this;exact this
def mQ (l:List Oper):List (Nat×Fl)->Option (List (Fl×Oper))
 | []=>some []
 | (i,f)::ix=>match l[i]?,mQ l ix with
   | some o,some L=>some ((f,o)::L)
   | _,_=>none
theorem sy {l:List Oper}:∀{ix:List (Nat×Fl)} {L:List (Fl×Oper)},mQ l ix=some L->Fits ⟨l⟩ ix L
 | [],L,h=>by injection h with h;subst h;trivial
 | (i,f)::ix,L,h=>by
   simp only[mQ]at h;split at h
   ·rename_i o L' h1 h2;injection h with h;subst h;exact⟨rfl,by simpa using h1,sy h2⟩
   ·cases h
theorem VC.Ru (md:Md) (ix:List (Nat×Fl)) {id:Nat} {l:List Oper} {L:List (Fl×Oper)} (hne:md≠ .plain) (hm:P.follows .mixedOrders=true) (hs:Region.noSelect ⟨l⟩=true) (hp:cE md ⟨l⟩ l.length (Array.replicate l.length false) ix=true) (hL:mQ l ix=some L)
  (h:VL P n D md ⟨l⟩ L e O Q):VC P n D (.region id ⟨l⟩ true) e O Q:=by
 have:=h l.length (Array.replicate l.length false) ix (sy hL) (fun _=>⟨hs,hp⟩);cases md with
 | plain=>exact absurd rfl hne
 | any=>exact VC.draw hm this
 | reads=>exact fun G a w hw hf=>wp_region_held hm (this G a _ (hw.drawn _) hf)
 | held brk=>exact VC.H6 brk hm this
end
theorem aeb (b:Bool):(b==true)=b:=by cases b<;>rfl
theorem aec (b:Bool):(b==false)= !b:=by cases b<;>rfl
theorem Rv {a b:Int} (h:a=b):(a==b)=true:=by simpa using h
theorem Rw {a b:Int} (h:¬a=b):(a==b)=false:=by simpa using h
theorem Rx {a b:Int} (h:¬a=b):(a != b)=true:=by simpa using h
theorem Ry {a b:Int} (h:a=b):(a != b)=false:=by simpa using h
def aD (Φ :MV->VH->Prop):fL->VH->Prop
 | .ret m,O=> Φ m O
 | .panic _,_=>False
section
variable {n:Sz} {D:List Deferred} {e:Env} {P:Program} {tab:b9} {O:VH} {ops:Array Oper} {Q:VQ} {Φ :MV->VH->Prop}
theorem Kj {m:MV}:aD Φ (.ret m) O= Φ m O:=rfl
end
theorem BM (f:Fl):∀(l pre:List Oper),mQ (pre++l) ((List.range' pre.length l.length).map (·,f))=some (l.map (f, ·))
 | [],_=>rfl
 | o::l,pre=>by
   rw[List.length_cons,List.range'_succ,List.map_cons,List.map_cons,mQ];have:=BM f l (pre++[o]);rw[List.append_assoc,List.length_append]at this;simp only[List.singleton_append,List.length_cons,List.length_nil,Nat.zero_add]at this;rw[this];simp
theorem VC.Rz {n:Sz} {D:List Deferred} {e:Env} {P:Program} {O:VH} {Q:VQ} {id:Nat} {l:List Oper} (hm:P.follows .mixedOrders=true) (hs:Region.noSelect ⟨l⟩=true) (hp:cE .reads ⟨l⟩ l.length (Array.replicate l.length false) ((List.range' 0 l.length).map (·,Fl.rd))=true)
  (h:VL P n D .reads ⟨l⟩ (l.map (Fl.rd, ·)) e O Q):VC P n D (.region id ⟨l⟩ true) e O Q:=
 VC.Ru .reads _ (by simp) hm hs hp (BM .rd l []) h
theorem RA {k:IntKind} {a b:Int}:Av (.v (.int k a)) (.v (.int k b))=some (.v (.int k (max a b))):=by
 simp only[Av];have:(if b>a then b else a)=max a b:=by split<;>omega
 rw[this]
theorem RB {k:IntKind} {a b:Int}:Aw (.v (.int k a)) (.v (.int k b))=some (.v (.int k (min a b))):=by
 simp only[Aw];have:(if b<a then b else a)=min a b:=by split<;>omega
 rw[this]
theorem Kk {e:Env} {tab:b9} {O:VH} {d:Option Tmp} {ty:TypeId} {p:String} {af:Array Edge} {g:Option (Nat×Bool)} {c x y:Operand}:c6 tab (.mk d (.pick c x y) ty p af g) e O=((ev e c).bind fun b=>match b with
  | .v (.bool true)=>ev e x
  | .v (.bool false)=>ev e y
  | _=>none).map (·,O):=by
 simp only[c6,ew,iy];cases ev e c with
 | none=>rfl
 | some m=>
   cases m<;>try rfl
   rename_i v;cases v<;>try rfl
   rename_i b;cases b
   ·simp only[Option.bind_some];cases ev e y<;>rfl
   ·simp only[Option.bind_some];cases ev e x<;>rfl
theorem zp0 (l:List MV):fV #[] l=[]:=rfl
theorem RD (b o:Nat):JR (.ptr b o)=some (.ptr b o):=rfl
theorem RE (cs:List MV) (o:Nat):JR (.c8 cs o)=some (.c8 cs o):=rfl
theorem AD (x:Value):dI (.v x)=[.v x]:=rfl
theorem xN (k:Nat) (cs:List MV) (tk:Tok):dI (.sl k cs tk)=[.sl k cs tk]:=rfl
theorem uG (l:List UInt8):dI (.str l)=[.str l]:=rfl
theorem uH (b o:Nat):dI (.ptr b o)=[.ptr b o]:=rfl
theorem uI (cs:List MV):dI (.agg cs)=cs:=rfl
section
variable {tab:b9} {O:VH} {t:TypeId} {u:TypeDesc} {d:Nat} {y cs:List MV} {k off:Nat}
end
section
variable {tab:b9} {t el:TypeId} {u:TypeDesc} {a b d:Nat} {z:List MV} {y:MV} {k0 k1:Nat} {c0 c1:List MV} {t0 t1:Tok}
end
theorem VC.freeze {n:Sz} {D:List Deferred} {e:Env} {P:Program} {O:VH} {Q:VQ} {c:Code} (t:Nat) {k o i cp sz:Nat} {cs:List MV} (ht:look e t=some (.bp k o i cp)) (hk:O.hp k=some (.cells cs)) (hs:o+sz<=cs.length)
  (h:VC P n D c ((t,.sl i ((cs.drop o).take sz) (if cp=i then .full else .aq))::e) (O.kill k) Q):VC P n D c e O Q:=by
 intro G a w hw hf;obtain⟨u,tR,dk⟩:=hf.get t _ ht;obtain⟨H,h1,h2,h3⟩:=hw.freeze hk dk hs
 have tS:FR H n D ((t,.sl i ((cs.drop o).take sz) (if cp=i then .full else .aq))::e) a:=by
  have hm:=hf.mono h1;refine⟨hm.defers,hm.size,fun s x hx=>?_⟩;rw[lX]at hx;cases hb:s==t with
  | true=>
    rw[hb,cond_true]at hx;injection hx with hx;subst hx
    have:s=t:=by simpa using hb
    subst this;exact⟨u,tR,h3⟩
  | false=>rw[hb,cond_false]at hx;exact hm.get s x hx
 exact wp_mono (h H a w h2 tS) fun _ _ _=>cx.le h1
set_option linter.defProp false in
def Xt:=And.intro @RD<|And.intro @RE<|And.intro @AD<|And.intro @xN<|And.intro @uG<|And.intro @uH<|And.intro @uI<|And.intro @N8<|And.intro @N9<|And.intro @N_<|And.intro @Tg<|And.intro @Th<|And.intro @yK<|And.intro @BD<|And.intro @uw<|And.intro @BE<|And.intro @yU<|And.intro @BK<|And.intro @uD<|And.intro @BL<|And.intro @Ti<|And.intro @abS<|And.intro @Tj<|And.intro @Tl<|And.intro @Tm<|And.intro @Tn<|And.intro @v8<|And.intro @GN<|And.intro @Ke<|And.intro @Rl<|And.intro @Rm<|And.intro @Rn<|And.intro @Ro<|And.intro @Rp<|And.intro @Rq<|And.intro @Rr<|And.intro @GO<|And.intro @GQ<|And.intro @BI<|And.intro @GS<|And.intro @w_<|And.intro @Dv<|And.intro @GU<|And.intro @yS<|And.intro @uB<|And.intro @Dw<|And.intro @uC<|And.intro @Dx<|And.intro @yT<|And.intro @Dy<|And.intro @Dz<|And.intro @xc<|And.intro @po<|And.intro @GV<|And.intro @DA<|And.intro @Kf<|And.intro @Kg<|And.intro @Kh<|And.intro @BJ<|And.intro @DB<|And.intro @Ki<|And.intro @DC<|And.intro @tn<|And.intro @uE<|And.intro @aeb<|And.intro @aec<|And.intro @Rv<|And.intro @Rw<|And.intro @Rx<|And.intro @Ry<|And.intro @yL<|And.intro @yM<|And.intro @Dt<|And.intro @Du<|And.intro @aj<|And.intro @Ds<|And.intro @wrap_i64<|And.intro @Gu<|And.intro @BB<|And.intro @Kk<|And.intro @RA<|And.intro @RB<|And.intro @w7<|And.intro @Dk<|And.intro @Gw<|And.intro @yI<|And.intro @ur<|And.intro @Dl<|And.intro @uu<|And.intro @Dm<|And.intro @yJ<|And.intro @Dn<|And.intro @w8<|And.intro @Dq<|And.intro @Gx<|And.intro @Gy<|And.intro @J2<|And.intro @J3<|And.intro @J4<|And.intro @cT<|And.intro @Gz<|And.intro @Dr<|And.intro @J6<|And.intro @N1<|And.intro @tj<|And.intro @uv<|And.intro @Rh<|And.intro @Ri<|And.intro @JX<|And.intro @Rj<|And.intro @Gs<|And.intro @Di<|And.intro @Dj<|And.intro @yH<|And.intro @BA<|And.intro @JY<|And.intro @lX<|And.intro @JZ<|And.intro @Gt<|And.intro @GA<|And.intro @GB<|And.intro @GC<|And.intro @GD<|And.intro @GF<|And.intro @GG<|And.intro @GH<|And.intro @GI<|And.intro @GJ<|And.intro @J7<|And.intro @J8<|And.intro @ar<|And.intro @a_<|And.intro @zp0<|And.intro @zp1<|And.intro @zp2<|And.intro @zp3<|And.intro @VH.sw<|And.intro @BF<|And.intro @N3<|And.intro @N4 @Td
end Go.Proofs.YtoclnkfdahmnhaaGreatDoor
