import Derived.Below
import Derived.LoopN
import Derived.OrdersHeld
import Derived.Deep.Draws
import Derived.WalkKit
import Derived.WalkSpells
import Derived.KernelRfl
import Derived.Lib.Builder
import Derived.MapKept
import Derived.Scope
set_option linter.unusedVariables false
set_option linter.unusedSimpArgs false
namespace Go.Proofs.YtoclnkfdahmnhaaGreatDoor
open Go.RowKit
inductive Tok where
 | nil | full | own (t k:Nat) | au
 deriving DecidableEq
inductive MV where
 | v (x:Value)
 | str (l:List UInt8)
 | ptr (b off:Nat)
 | cX (cells:List MV) (off:Nat)
 | sl (n:Nat) (cells:List MV) (t:Tok)
 | bm (b off len cap:Nat)
 | map (b:Nat)
 | func (fn:Fn) (first captured:List MV)
 | iface (t:TypeId) (x:MV)
 | agg (cells:List MV)
 | tuple (vs:List MV)
structure Gh where
 w0:World
 bJ:Nat->Option Nat
 d_:Nat->Nat->Option Value
 tok:Nat->Option (Nat×Nat×Nat×Nat)
abbrev Gh.B (G:Gh):Nat:=G.w0.heap.size
structure Gh.Le (G H:Gh):Prop where
 w0:H.w0=G.w0
 bJ:∀{k b},G.bJ k=some b->H.bJ k=some b
 d_:∀{b o u},G.d_ b o=some u->H.d_ b o=some u
 tok:∀{t x},G.tok t=some x->H.tok t=some x
theorem Gh.Le.refl (G:Gh):G.Le G:=⟨rfl,id,id,id⟩
theorem Gh.Le.trans {G H K:Gh} (h:G.Le H) (k:H.Le K):G.Le K:=
 ⟨k.w0.trans h.w0,fun x=>k.bJ (h.bJ x),fun x=>k.d_ (h.d_ x),fun x=>k.tok (h.tok x)⟩
structure GP where
 p:Gh->Prop
 mono:∀{G H:Gh},G.Le H->p G->p H
inductive bW where
 | cells (cs:List MV)
 | map (es:List (MV×MV×Nat)) (clock:Nat)
 | tok
 | shape (k:Nat) (t:TypeId) (n:Nat)
 | obj (x:Obj)
 | fact (p:GP)
structure VH where
 next:Nat
 hp:Nat->Option bW
def bn {α :Type} (f:Nat->Option α) (k:Nat) (x:Option α):Nat->Option α :=fun j=>bif Nat.beq j k then x else f j
theorem aE {α :Type} (f:Nat->Option α) (k:Nat) (x:Option α):bn f k x k=x:=by simp[bn]
theorem ax {α :Type} (f:Nat->Option α) {k j:Nat} (x:Option α) (h:j≠k):bn f k x j=f j:=by
 have:j.beq k=false:=by rw[<-Bool.not_eq_true];intro e;exact h (Nat.eq_of_beq_eq_true e)
 simp[bn,this]
def VH.set (O:VH) (k:Nat) (x:bW):VH:={O with hp:=bn O.hp k (some x)}
def VH.push (O:VH) (x:bW):VH:=⟨O.next+1,bn O.hp O.next (some x)⟩
def VH.kill (O:VH) (k:Nat):VH:={O with hp:=bn O.hp k none}
def plain:Value->Bool
 | .bool _ | .int _ _ | .float _ _ | .complex _ _ _ | .pointer none | .map none | .chan none | .nilFunc | .nilIface=>true
 | _=>false
def Tok.ok (G:Gh):Tok->(b o n c sz:Nat)->Prop
 | .nil,_,_,_,_,_=>False
 | .full,_,_,n,c,_=>c=n
 | .own t k,b,o,n,c,sz=>c=n\/∃r,G.tok t=some (b,o+sz,k,r)/\sz=n*k/\c=n+r
 | .au,_,_,_,_,_=>True
inductive VR (G:Gh):MV->Value->Prop
 | v {x:Value}:plain x=true->VR G (.v x) x
 | str {l:List UInt8}:VR G (.str l) (.string ⟨⟨l⟩⟩)
 | ptr {k o b:Nat}:G.bJ k=some b->VR G (.ptr k o) (.pointer (some ⟨b,o,none⟩))
 | cX {cells:List MV} {us:List Value} {off b o:Nat}:us.length=cells.length->(∀(i:Nat) (u:Value),us[i]?=some u->G.d_ b (o+i)=some u)->
   (∀(i:Nat) (c:MV) (u:Value),cells[i]?=some c->us[i]?=some u->VR G c u)->VR G (.cX cells off) (.pointer (some ⟨b,o+off,none⟩))
 | slnil:VR G (.sl 0 [] .nil) (.slice none 0 0)
 | n9 {a:Addr} {c:Nat}:c<=maxLen->VR G (.sl 0 [] .au) (.slice (some a) 0 c)
 | j7:VR G (.sl 0 [] .au) (.slice none 0 0)
 | sl {cells:List MV} {us:List Value} {n c b o:Nat} {t:Tok}:us.length=cells.length->(∀(i:Nat) (u:Value),us[i]?=some u->G.d_ b (o+i)=some u)->
   (∀(i:Nat) (c:MV) (u:Value),cells[i]?=some c->us[i]?=some u->VR G c u)->n<=c->c<=maxLen->t.ok G b o n c cells.length->VR G (.sl n cells t) (.slice (some ⟨b,o,none⟩) n c)
 | bm {k o n c b:Nat}:G.bJ k=some b->n<=c->c<=maxLen->VR G (.bm k o n c) (.slice (some ⟨b,o,none⟩) n c)
 | map {k b:Nat}:G.bJ k=some b->VR G (.map k) (.map (some b))
 | func {fn:Fn} {fs cs:List MV} {us vs:List Value}:us.length=fs.length->(∀(i:Nat) (c:MV) (u:Value),fs[i]?=some c->us[i]?=some u->VR G c u)->
   vs.length=cs.length->(∀(i:Nat) (c:MV) (u:Value),cs[i]?=some c->vs[i]?=some u->VR G c u)->VR G (.func fn fs cs) (.func fn us.toArray vs.toArray)
 | iface {t:TypeId} {x:MV} {u:Value}:VR G x u->VR G (.iface t x) (.iface t u)
 | agg {cs:List MV} {us:List Value}:us.length=cs.length->(∀(i:Nat) (c:MV) (u:Value),cs[i]?=some c->us[i]?=some u->VR G c u)->VR G (.agg cs) (.agg us.toArray)
 | tuple {cs:List MV} {us:List Value}:us.length=cs.length->(∀(i:Nat) (c:MV) (u:Value),cs[i]?=some c->us[i]?=some u->VR G c u)->VR G (.tuple cs) (.tuple us.toArray)
def aO (G:Gh) (cs:List MV) (us:List Value):Prop:=us.length=cs.length/\∀(i:Nat) (c:MV) (u:Value),cs[i]?=some c->us[i]?=some u->VR G c u
theorem VR.mono {G H:Gh} (h:G.Le H) {m:MV} {u:Value} (r:VR G m u):VR H m u:=by
 induction r with
 | v h1=>exact .v h1
 | str=>exact .str
 | ptr h1=>exact .ptr (h.bJ h1)
 | cX h1 h2 h3 ih=>exact .cX h1 (fun i u hu=>h.d_ (h2 i u hu)) (fun i c u h4 h5=>ih i c u h4 h5)
 | slnil=>exact .slnil
 | n9 h1=>exact .n9 h1
 | j7=>exact .j7
 | sl h1 h2 h3 h4 h5 h6 ih=>
   refine .sl h1 (fun i u hu=>h.d_ (h2 i u hu)) (fun i c u h7 h8=>ih i c u h7 h8) h4 h5 ?_;rename_i t;cases t with
   | nil=>exact h6
   | full=>exact h6
   | own t k=>
     rcases h6 with h6 | ⟨r,h7,h8⟩
     ·exact .inl h6
     ·exact .inr ⟨r,h.tok h7,h8⟩
   | au=>trivial
 | bm h1 h2 h3=>exact .bm (h.bJ h1) h2 h3
 | map h1=>exact .map (h.bJ h1)
 | func h1 h2 h3 h4 ih1 ih2=>exact .func h1 (fun i c u a b=>ih1 i c u a b) h3 (fun i c u a b=>ih2 i c u a b)
 | iface h1 ih=>exact .iface ih
 | agg h1 h2 ih=>exact .agg h1 fun i c u a b=>ih i c u a b
 | tuple h1 h2 ih=>exact .tuple h1 fun i c u a b=>ih i c u a b
theorem aO.mono {G H:Gh} (h:G.Le H) {cs:List MV} {us:List Value} (r:aO G cs us):aO H cs us:=⟨r.1,fun i c u a b=>(r.2 i c u a b).mono h⟩
theorem aO.nil {G:Gh}:aO G [] []:=⟨rfl,fun i c u h=>by simp at h⟩
theorem aO.cons {G:Gh} {c:MV} {u:Value} {cs:List MV} {us:List Value} (h:VR G c u) (k:aO G cs us):aO G (c::cs) (u::us):=
 ⟨by simp[k.1],fun i c' u' a b=>by
  cases i with
  | zero=>simp only[List.getElem?_cons_zero,Option.some.injEq]at a b;subst a;subst b;exact h
  | succ i=>simp only[List.getElem?_cons_succ]at a b;exact k.2 i c' u' a b⟩
theorem aO.head {G:Gh} {c:MV} {u:Value} {cs:List MV} {us:List Value} (h:aO G (c::cs) (u::us)):VR G c u:=h.2 0 c u rfl rfl
theorem aO.tail {G:Gh} {c:MV} {u:Value} {cs:List MV} {us:List Value} (h:aO G (c::cs) (u::us)):aO G cs us:=⟨by have:=h.1;simp at this;exact this,fun i c u a b=>h.2 (i+1) c u (by simpa using a) (by simpa using b)⟩
theorem aO.eh {G:Gh} {c:MV} {cs:List MV} {us:List Value} (h:aO G (c::cs) us):∃u TO,us=u::TO/\VR G c u/\aO G cs TO:=by
 cases us with
 | nil=>have:=h.1;simp at this
 | cons u us=>exact⟨u,us,rfl,h.head,h.tail⟩
theorem aO.ic {G:Gh} {us:List Value} (h:aO G [] us):us=[]:=List.eq_nil_of_length_eq_zero h.1
theorem aO.append {G:Gh} {cs ds:List MV} {us ts:List Value} (h:aO G cs us) (k:aO G ds ts):aO G (cs++ds) (us++ts):=
 ⟨by simp[h.1,k.1],fun i c u a b=>by
  rw[List.getElem?_append]at a b;rw[h.1]at b;split at a
  ·rw[if_pos ‹_›]at b;exact h.2 i c u a b
  ·rw[if_neg ‹_›]at b;exact k.2 _ c u a b⟩
theorem aO.drop {G:Gh} {cs:List MV} {us:List Value} (h:aO G cs us) (n:Nat):aO G (cs.drop n) (us.drop n):=
 ⟨by simp[h.1],fun i c u a b=>by rw[List.getElem?_drop]at a b;exact h.2 _ c u a b⟩
theorem aO.take {G:Gh} {cs:List MV} {us:List Value} (h:aO G cs us) (n:Nat):aO G (cs.take n) (us.take n):=
 ⟨by simp[h.1],fun i c u a b=>by
  rw[List.getElem?_take]at a b;split at a
  ·rw[if_pos ‹_›]at b;exact h.2 i c u a b
  ·cases a⟩
theorem aO.get {G:Gh} {cs:List MV} {us:List Value} (h:aO G cs us) {i:Nat} {c:MV} (hc:cs[i]?=some c):∃u,us[i]?=some u/\VR G c u:=by
 have hl:i<us.length:=by rw[h.1];exact(List.getElem?_eq_some_iff.1 hc).1
 exact⟨us[i],List.getElem?_eq_getElem hl,h.2 i c _ hc (List.getElem?_eq_getElem hl)⟩
theorem aO.set {G:Gh} {cs:List MV} {us:List Value} (h:aO G cs us) {i:Nat} {c:MV} {u:Value} (hc:VR G c u):aO G (cs.set i c) (us.set i u):=
 ⟨by simp[h.1],fun j c' u' a b=>by
  rw[List.getElem?_set]at a b;rw[h.1]at b;split at a
  ·rw[if_pos ‹_›]at b;split at a
   ·rw[if_pos ‹_›]at b;injection a with a;injection b with b;subst a;subst b;exact hc
   ·cases a
  ·rw[if_neg ‹_›]at b;exact h.2 j c' u' a b⟩
structure Fz (C:Array Value) where
 t:TypeId
 fr:Nat×Nat
 ok:fr.1=fr.2\/C.size<=fr.1
def Dg:List Nat:=[0]
def yK (w:World):Prop:=∀g∈Dg,∃m,w.cell? ⟨g,0,none⟩=some (.int .i64 m)
structure WR (G:Gh) (O:VH) (w:World):Prop where
 base:Below G.B G.w0 w
 d_:∀b o u,G.d_ b o=some u->w.cell? ⟨b,o,none⟩=some u
 o8:∀k,O.next<=k->G.bJ k=none/\G.tok k=none/\O.hp k=none
 jX:∀k b,G.bJ k=some b->G.B<=b/\b<w.heap.size/\(O.hp k≠none->∀o,G.d_ b o=none)
 inj:∀j k b,O.hp j≠none->O.hp k≠none->G.bJ j=some b->G.bJ k=some b->j=k
 cells:∀k cs,O.hp k=some (.cells cs)->∃b,∃C:Array Value,∃T:Fz C,G.bJ k=some b/\w.heap[b]?=some (.cells C T.t T.fr)/\aO G cs (C.toList.take cs.length)
 map:∀k es ck,O.hp k=some (.map es ck)->∃b E,G.bJ k=some b/\w.heap[b]?=some (.map E ck)/\E.toList.map (·.born)=es.map (·.2.2)/\aO G (es.map (·.1)) (E.toList.map (·.key))/\aO G (es.map (·.2.1)) (E.toList.map (·.val))
 tok:∀t,O.hp t=some .tok->∃b f k r C T,G.tok t=some (b,f,k,r)/\G.B<=b/\w.heap[b]?=some (.cells C T (0,0))/\f+r*k<=C.size/\(∀o,f<=o->G.d_ b o=none)/\∀j,G.bJ j≠some b
 k9:∀s t b x y,O.hp s=some .tok->O.hp t=some .tok->G.tok s=some (b,x)->G.tok t=some (b,y)->s=t
 nP:∀j k t n,O.hp j=some (.shape k t n)->∃b,G.bJ k=some b/\w.shape? b=some (t,n)
 obj:∀k x,O.hp k=some (.obj x)->∃b,G.bJ k=some b/\w.heap[b]?=some x
 qf:yK G.w0
 AG:∀k p,O.hp k=some (.fact p)->p.p G
section
variable {G:Gh} {O:VH} {w:World}
theorem WR.XF (h:WR G O w) {b o:Nat} {u:Value} (hc:G.d_ b o=some u):b<w.heap.size:=World.block_lt_of_cell? w _ (h.d_ b o u hc)
theorem WR.l0 (h:WR G O w):G.bJ O.next=none/\G.tok O.next=none/\O.hp O.next=none:=h.o8 _ (Nat.le_refl _)
theorem WR.n_ {G':Gh} {O':VH} {w':World} (h:WR G O w) (hl:∀{k b},G.bJ k=some b->G'.bJ k=some b) (hO:∀j k t n,O'.hp j=some (.shape k t n)->O.hp j=some (.shape k t n)) (hw:∀k b s,G.bJ k=some b->w.shape? b=some s->w'.shape? b=some s):
  ∀j k t n,O'.hp j=some (.shape k t n)->∃b,G'.bJ k=some b/\w'.shape? b=some (t,n):=fun j k t n hj=>by
 obtain⟨b,h1,h2⟩:=h.nP j k t n (hO j k t n hj);exact⟨b,hl h1,hw k b _ h1 h2⟩
theorem lO {f:Nat->Option bW} {q:Nat} {X:bW} (hX:∀k t n,X≠ .shape k t n) (j k t n:Nat) (h:bn f q (some X) j=some (.shape k t n)):f j=some (.shape k t n):=by
 by_cases e:j=q
 ·subst e;rw[aE]at h;injection h with h;exact absurd h (hX _ _ _)
 ·rwa [ax _ _ e]at h
theorem WR.qJ {G':Gh} {O':VH} {w':World} (h:WR G O w) (hl:∀{k b},G.bJ k=some b->G'.bJ k=some b) (hO:∀k x,O'.hp k=some (.obj x)->O.hp k=some (.obj x)) (hw:∀k x b,O.hp k=some (.obj x)->G.bJ k=some b->w.heap[b]?=some x->w'.heap[b]?=some x):
  ∀k x,O'.hp k=some (.obj x)->∃b,G'.bJ k=some b/\w'.heap[b]?=some x:=fun k x hk=>by
 obtain⟨b,h1,h2⟩:=h.obj k x (hO k x hk);exact⟨b,hl h1,hw k x b (hO k x hk) h1 h2⟩
theorem ue {f:Nat->Option bW} {q:Nat} {X:bW} (hX:∀x,X≠ .obj x) (j:Nat) (x:Obj) (h:bn f q (some X) j=some (.obj x)):f j=some (.obj x):=by
 by_cases e:j=q
 ·subst e;rw[aE]at h;injection h with h;exact absurd h (hX _)
 ·rwa [ax _ _ e]at h
theorem WR.qK {G':Gh} {O':VH} (h:WR G O w) (hl:G.Le G') (hO:∀k p,O'.hp k=some (.fact p)->O.hp k=some (.fact p)):∀k p,O'.hp k=some (.fact p)->p.p G':=fun k p hk=>p.mono hl (h.AG k p (hO k p hk))
theorem l9 {f:Nat->Option bW} {q:Nat} {X:bW} (hX:∀x,X≠ .fact x) (j:Nat) (x:GP) (h:bn f q (some X) j=some (.fact x)):f j=some (.fact x):=by
 by_cases e:j=q
 ·subst e;rw[aE]at h;injection h with h;exact absurd h (hX _)
 ·rwa [ax _ _ e]at h
theorem ie {w w':World} {b:Nat} {s:TypeId×Nat} (hh:∀x,w.heap[b]?=some x->w'.heap[b]?=some x) (h:w.shape? b=some s):w'.shape? b=some s:=by
 unfold World.shape? at h ⊢;generalize hx:w.heap[b]?=x at h;cases x with
 | none=>cases h
 | some x=>rw[hh x hx];exact h
theorem WR.drew (h:WR G O w):WR G O w.drew:=⟨h.base.drew,h.d_,h.o8,h.jX,h.inj,h.cells,h.map,h.tok,h.k9,h.nP,h.obj,h.qf,h.AG⟩
theorem WR.drawn (h:WR G O w) (n:Nat):WR G O {w with drawn:=n}:=
 ⟨⟨h.base.os,h.base.tape,h.base.output,h.base.size,h.base.block⟩,h.d_,h.o8,h.jX,h.inj,h.cells,h.map,h.tok,h.k9,h.nP,h.obj,h.qf,h.AG⟩
theorem WR.XG (h:WR G O w):G.B<=w.heap.size:=h.base.size
theorem WR.ahu (h:WR G O w) {g:Nat} (hg:g∈Dg):∃m,w.cell? ⟨g,0,none⟩=some (.int .i64 m):=by
 obtain⟨m,hm⟩:=h.qf g hg;refine⟨m,?_⟩;have hb:=h.base.block g (World.block_lt_of_cell? _ _ hm);unfold World.cell? at hm ⊢;rw[hb];exact hm
theorem Gh.Le.Iv {k:Nat} (h:G.bJ k=none) (b:Nat):G.Le {G with bJ:=bn G.bJ k (some b)}:=
 ⟨rfl,fun{j b'} hj=>by
  show bn G.bJ k (some b) j=some b';rw[ax _ _ (fun e=>by subst e;rw[h]at hj;cases hj)];exact hj,id,id⟩
theorem eU (w:World) (o:Obj) (b:Nat):(w.alloc o).heap[b]?=if b=w.heap.size then some o else w.heap[b]?:=by
 show(w.heap.push o)[b]?=_;rw[Array.getElem?_push]
theorem dm (w:World) (o:Obj) {b:Nat} {x:Obj} (h:w.heap[b]?=some x):(w.alloc o).heap[b]?=some x:=by
 rw[eU,if_neg (fun e=>by subst e;rw[Array.getElem?_eq_none (Nat.le_refl _)]at h;cases h)];exact h
theorem qn {w:World} {b:Nat} {x:Obj} (h:w.heap[b]?=some x):b<w.heap.size:=(Array.getElem?_eq_some_iff.1 h).1
theorem AH (w:World) (o:Obj) {a:Addr} {u:Value} (h:w.cell? a=some u):(w.alloc o).cell? a=some u:=by
 rw[World.cell?_alloc_lt w o a (World.block_lt_of_cell? w a h)];exact h
theorem WR.grow (h:WR G O w) (o:Obj):WR G O (w.alloc o) where
 base:=h.base.alloc h.XG o
 d_ b p u hc:=AH w o (h.d_ b p u hc)
 o8:=h.o8
 jX k b hk:=by
  obtain⟨h1,h2,h3⟩:=h.jX k b hk;exact⟨h1,by simp;omega,h3⟩
 inj:=h.inj
 cells k cs hk:=by
  obtain⟨b,C,T,h1,h2,h3⟩:=h.cells k cs hk;exact⟨b,C,T,h1,dm w o h2,h3⟩
 map k es ck hk:=by
  obtain⟨b,E,h1,h2,h3⟩:=h.map k es ck hk;exact⟨b,E,h1,dm w o h2,h3⟩
 tok t ht:=by
  obtain⟨b,f,k,r,C,T,h1,h2,h3,h4⟩:=h.tok t ht;exact⟨b,f,k,r,C,T,h1,h2,dm w o h3,h4⟩
 k9:=h.k9
 nP:=h.n_ id (fun _ _ _ _ h=>h) fun _ _ _ _=>ie fun _=>dm w o
 obj:=h.qJ id (fun _ _ h=>h) fun _ _ _ _ _=>dm w o
 qf:=h.qf
 AG:=h.AG
theorem size_alloc (w:World) (o:Obj):(w.alloc o).heap.size=w.heap.size+1:=by simp
theorem WR.XH (h:WR G O w) {cs:List MV} {C:Array Value} (T:Fz C) (hc:aO G cs (C.toList.take cs.length)):
  G.Le {G with bJ:=bn G.bJ O.next (some w.heap.size)}/\WR {G with bJ:=bn G.bJ O.next (some w.heap.size)} (O.push (.cells cs)) (w.alloc (.cells C T.t T.fr)):=by
 have hle:=Gh.Le.Iv h.l0.1 w.heap.size;have hg:=h.grow (.cells C T.t T.fr)
 have ee:∀k b,bn G.bJ O.next (some w.heap.size) k=some b->(k=O.next/\b=w.heap.size)\/(k≠O.next/\G.bJ k=some b):=fun k b hk=>by
  by_cases e:k=O.next
  ·subst e;rw[aE]at hk;injection hk with hk;exact .inl ⟨rfl,hk.symm⟩
  ·rw[ax _ _ e]at hk;exact .inr ⟨e,hk⟩
 have OZ:∀o,G.d_ w.heap.size o=none:=fun o=>by
  cases hh:G.d_ w.heap.size o with
  | none=>rfl
  | some u=>have:=h.XF hh;omega
 refine⟨hle,hg.base,hg.d_,fun k hk=>?_,fun k b hk=>?_,fun j k b lj lk hj hk=>?_,fun k ds hk=>?_,fun k es ck hk=>?_,fun t ht=>?_,fun s t b x y hs ht h1 h2=>?_,h.n_ hle.bJ (lO (by simp)) fun _ _ _ _=>ie fun _=>dm w _,h.qJ hle.bJ (ue (by simp)) fun _ _ _ _ _=>dm w _,h.qf,h.qK hle (l9 (by simp))⟩
 ·have hk:O.next+1<=k:=hk;obtain⟨h1,h2,h3⟩:=h.o8 k (by omega);exact⟨by show bn _ _ _ _=_;rw[ax _ _ (by omega)];exact h1,h2,by show bn _ _ _ _=_;rw[ax _ _ (by omega)];exact h3⟩
 ·rcases ee k b hk with⟨_,rfl⟩ | ⟨dN,hk⟩
  ·exact⟨h.XG,by simp,fun _=>OZ⟩
  ·obtain⟨p1,p2,p3⟩:=hg.jX k b hk;exact⟨p1,p2,fun hne=>p3 (by have hne:bn O.hp O.next (some (.cells cs)) k≠none:=hne;rwa [ax _ _ dN]at hne)⟩
 ·rcases ee j b hj with⟨rfl,rfl⟩ | ⟨cY,hj⟩<;>rcases ee k _ hk with⟨rfl,hb⟩ | ⟨dN,hk⟩
  ·rfl
  ·have:=(h.jX _ _ hk).2.1;omega
  ·subst hb;have:=(h.jX _ _ hj).2.1;omega
  ·exact h.inj j k b (by have lj:bn O.hp O.next (some (.cells cs)) j≠none:=lj;rwa [ax _ _ cY]at lj) (by have lk:bn O.hp O.next (some (.cells cs)) k≠none:=lk;rwa [ax _ _ dN]at lk) hj hk
 ·have hk:bn O.hp O.next (some (.cells cs)) k=some (.cells ds):=hk;by_cases e:k=O.next
  ·subst e;rw[aE]at hk;injection hk with hk;injection hk with hk;subst hk
   refine⟨w.heap.size,C,T,aE _ _ _,by rw[eU,if_pos rfl],?_⟩;exact hc.mono hle
  ·rw[ax _ _ e]at hk;obtain⟨b,D,T',h1,h2,h3⟩:=hg.cells k ds hk;exact⟨b,D,T',hle.bJ h1,h2,h3.mono hle⟩
 ·have hk:bn O.hp O.next (some (.cells cs)) k=some (.map es ck):=hk;by_cases e:k=O.next
  ·subst e;rw[aE]at hk;cases hk
  ·rw[ax _ _ e]at hk;obtain⟨b,E,h1,h2,h3,h4,h5⟩:=hg.map k es ck hk;exact⟨b,E,hle.bJ h1,h2,h3,h4.mono hle,h5.mono hle⟩
 ·have ht:bn O.hp O.next (some (.cells cs)) t=some .tok:=ht;by_cases e:t=O.next
  ·subst e;rw[aE]at ht;cases ht
  ·rw[ax _ _ e]at ht;obtain⟨b,f,k,r,D,T',h1,h2,h3,h4,h6,h7⟩:=hg.tok t ht;obtain⟨_,_,_,_,_,_,XI,_,XJ,_⟩:=h.tok t ht;refine⟨b,f,k,r,D,T',h1,h2,h3,h4,h6,fun j hj=>?_⟩;rcases ee j b hj with⟨_,rfl⟩ | ⟨_,hj⟩
   ·rw[h1]at XI;injection XI with e1;injection e1 with e1 _;subst e1
    have:=qn XJ;omega
   ·exact h7 j hj
 ·have hs:bn O.hp O.next (some (.cells cs)) s=some .tok:=hs;have ht:bn O.hp O.next (some (.cells cs)) t=some .tok:=ht;have es:s≠O.next:=fun e=>by subst e;rw[aE]at hs;cases hs
  have et:t≠O.next:=fun e=>by subst e;rw[aE]at ht;cases ht
  rw[ax _ _ es]at hs;rw[ax _ _ et]at ht;exact h.k9 s t b x y hs ht h1 h2
theorem WR.push (h:WR G O w) {cs:List MV} {C:Array Value} (T:TypeId) (hc:aO G cs C.toList):
  G.Le {G with bJ:=bn G.bJ O.next (some w.heap.size)}/\WR {G with bJ:=bn G.bJ O.next (some w.heap.size)} (O.push (.cells cs)) (w.alloc (.cells C T)):=
 h.XH ⟨T,(0,0),.inl rfl⟩ (by rw[List.take_of_length_le (by rw[hc.1];exact Nat.le_refl _)];exact hc)
theorem WR.forget (h:WR G O w) {O':VH} (hn:O.next<=O'.next) (hh:∀k,O'.hp k=none\/O'.hp k=O.hp k):WR G O' w where
 base:=h.base
 d_:=h.d_
 o8 k hk:=by
  obtain⟨h1,h2,h3⟩:=h.o8 k (by omega);exact⟨h1,h2,by rcases hh k with e | e<;>rw[e];exact h3⟩
 jX k b hk:=by
  obtain⟨p1,p2,p3⟩:=h.jX k b hk
  exact⟨p1,p2,fun hne=>p3 (by rcases hh k with e | e; · exact absurd e hne
                              ·rwa [e]at hne)⟩
 inj j k b lj lk:=h.inj j k b (fun e=>(hh j).elim lj (fun e'=>lj (e'.trans e))) (fun e=>(hh k).elim lk (fun e'=>lk (e'.trans e)))
 cells k cs hk:=h.cells k cs (by rcases hh k with e | e<;>rw[e]at hk; · cases hk
                                 ·exact hk)
 map k es ck hk:=h.map k es ck (by rcases hh k with e | e<;>rw[e]at hk; · cases hk
                                   ·exact hk)
 tok t ht:=h.tok t (by rcases hh t with e | e<;>rw[e]at ht; · cases ht
                       ·exact ht)
 k9 s t b x y hs ht h1 h2:=h.k9 s t b x y (by rcases hh s with e | e<;>rw[e]at hs; · cases hs
                                              ·exact hs) (by rcases hh t with e | e<;>rw[e]at ht; · cases ht
                                                             ·exact ht) h1 h2
 nP:=h.n_ id (fun j k t n hj=>by rcases hh j with e | e<;>rw[e]at hj; · cases hj
                                 ·exact hj) fun _ _ _ _ h=>h
 obj:=h.qJ id (fun j x hj=>by rcases hh j with e | e<;>rw[e]at hj; · cases hj
                              ·exact hj) fun _ _ _ _ _ h=>h
 qf:=h.qf
 AG:=h.qK (Gh.Le.refl _) fun j x hj=>by
  rcases hh j with e | e
  ·rw[e]at hj;cases hj
  ·rw[e]at hj;exact hj
theorem WR.kill (h:WR G O w) (k:Nat):WR G (O.kill k) w:=h.forget (Nat.le_refl _) fun j=>by
 show bn _ _ _ j=none\/bn _ _ _ j=_;by_cases e:j=k
 ·subst e;exact .inl (aE _ _ _)
 ·exact .inr (ax _ _ e)
def yP (G:Gh) (b:Nat) (f:Nat->Option Value):Gh:={G with d_:=fun b' o=>if b'=b then f o else G.d_ b' o}
theorem O_ {b:Nat} {f:Nat->Option Value} (h:∀o u,G.d_ b o=some u->f o=some u):G.Le (yP G b f):=
 ⟨rfl,id,fun{b' o u} hc=>by
  show(if b'=b then f o else G.d_ b' o)=some u;split
  ·subst b';exact h o u hc
  ·exact hc,id⟩
theorem WR.CU (h:WR G O w) {b:Nat} {f:Nat->Option Value} (hold:∀o u,G.d_ b o=some u->f o=some u) (kx:∀o u,f o=some u->w.cell? ⟨b,o,none⟩=some u)
  (ee:∀k,O.hp k≠none->G.bJ k≠some b) (uf:∀t c x,O.hp t=some .tok->G.tok t=some (c,x)->c=b->∀o,x.1<=o->f o=none):G.Le (yP G b f)/\WR (yP G b f) O w:=by
 have hle:=O_ (G:=G) hold;refine⟨hle,h.base,fun b' o u hc=>?_,h.o8,fun k c hk=>?_,h.inj,fun k cs hk=>?_,fun k es ck hk=>?_,fun t ht=>?_,h.k9,h.n_ hle.bJ (fun _ _ _ _ h=>h) fun _ _ _ _ h=>h,h.qJ hle.bJ (fun _ _ h=>h) fun _ _ _ _ _ h=>h,h.qf,h.qK hle fun _ _ h=>h⟩
 ·have jj:(if b'=b then f o else G.d_ b' o)=some u:=hc;split at jj
  ·subst b';exact kx o u jj
  ·exact h.d_ b' o u jj
 ·obtain⟨h1,h2,h3⟩:=h.jX k c hk;refine⟨h1,h2,fun hne o=>?_⟩;show(if c=b then f o else G.d_ c o)=none;rw[if_neg (fun e=>ee k hne (by rw[<-e];exact hk))];exact h3 hne o
 ·obtain⟨c,C,T,h1,h2,h3⟩:=h.cells k cs hk;exact⟨c,C,T,h1,h2,h3.mono hle⟩
 ·obtain⟨c,E,h1,h2,h3,h4,h5⟩:=h.map k es ck hk;exact⟨c,E,h1,h2,h3,h4.mono hle,h5.mono hle⟩
 ·obtain⟨c,g,k,r,C,T,h1,h2,h3,h4,h6,h7⟩:=h.tok t ht;refine⟨c,g,k,r,C,T,h1,h2,h3,h4,fun o ho=>?_,h7⟩;show(if c=b then f o else G.d_ c o)=none;split
  ·exact uf t c _ ht h1 ‹_› o ho
  ·exact h6 o ho
theorem GS (w:World) (C:Array Value) (T:TypeId) (fr:Nat×Nat) (o:Nat):(w.alloc (.cells C T fr)).cell? ⟨w.heap.size,o,none⟩=C[o]?:=by
 have:(w.alloc (.cells C T fr)).heap[w.heap.size]?=some (.cells C T fr):=by rw[eU,if_pos rfl]
 simp only[World.cell?,this,Option.isSome_none,Bool.false_eq_true,if_false]
theorem WR.sd (h:WR G O w) (k:Nat):G.bJ k≠some w.heap.size:=fun e=>by have:=(h.jX k _ e).2.1;omega
theorem WR.vM (h:WR G O w) (o:Nat):G.d_ w.heap.size o=none:=by
 cases hh:G.d_ w.heap.size o with
 | none=>rfl
 | some u=>have:=h.XF hh;omega
theorem WR.oN (h:WR G O w) {t c:Nat} {x:Nat×Nat×Nat} (ht:O.hp t=some .tok) (hc:G.tok t=some (c,x)):c≠w.heap.size:=fun e=>by
 obtain⟨b,_,_,_,_,_,h1,_,h3,_⟩:=h.tok t ht;rw[hc]at h1;injection h1 with h1;injection h1 with h1 _
 have:=qn h3;omega
theorem WR.lit (h:WR G O w) (C:Array Value) (T:TypeId):G.Le (yP G w.heap.size fun o=>C[o]?)/\WR (yP G w.heap.size fun o=>C[o]?) O (w.alloc (.cells C T)):=
 (h.grow (.cells C T)).CU (fun o u hc=>by rw[h.vM]at hc;cases hc) (fun o u hf=>by rw[GS];exact hf) (fun k _=>h.sd k)
  fun t c x ht hc e=>absurd e (h.oN ht hc)
theorem WR.R1 (h:WR G O w) {b f k r:Nat} {C:Array Value} {T:TypeId} (hB:G.B<=b) (hb:w.heap[b]?=some (.cells C T (0,0))) (hf:f+r*k<=C.size)
  (KA:∀o,f<=o->G.d_ b o=none) (ee:∀j,G.bJ j≠some b) (uf:∀t c x,O.hp t=some .tok->G.tok t=some (c,x)->c≠b):
  G.Le {G with tok:=bn G.tok O.next (some (b,f,k,r))}/\WR {G with tok:=bn G.tok O.next (some (b,f,k,r))} (O.push .tok) w:=by
 have hle:G.Le {G with tok:=bn G.tok O.next (some (b,f,k,r))}:=⟨rfl,id,id,fun{t x} ht=>by
  show bn G.tok O.next _ t=some x;rw[ax _ _ (fun e=>by subst e;rw[h.l0.2.1]at ht;cases ht)];exact ht⟩
 have nw:∀j x,bn O.hp O.next (some bW.tok) j=some x->(j=O.next/\x= .tok)\/(j≠O.next/\O.hp j=some x):=fun j x hj=>by
  by_cases e:j=O.next
  ·subst e;rw[aE]at hj;injection hj with hj;exact .inl ⟨rfl,hj.symm⟩
  ·rw[ax _ _ e]at hj;exact .inr ⟨e,hj⟩
 refine⟨hle,h.base,h.d_,fun j hj=>?_,fun j c hj=>?_,fun j k' c lj lk hj hk=>?_,fun j cs hj=>?_,fun j es ck hj=>?_,fun t ht=>?_,fun s t c x y hs ht h1 h2=>?_,h.n_ hle.bJ (lO (by simp)) fun _ _ _ _ h=>h,h.qJ hle.bJ (ue (by simp)) fun _ _ _ _ _ h=>h,h.qf,h.qK hle (l9 (by simp))⟩
 ·have hj:O.next+1<=j:=hj;obtain⟨h1,h2,h3⟩:=h.o8 j (by omega);exact⟨h1,by show bn _ _ _ _=_;rw[ax _ _ (by omega)];exact h2,by show bn _ _ _ _=_;rw[ax _ _ (by omega)];exact h3⟩
 ·obtain⟨p1,p2,p3⟩:=h.jX j c hj;refine⟨p1,p2,fun hne=>p3 ?_⟩;have hne:bn O.hp O.next (some bW.tok) j≠none:=hne
  rwa [ax _ _ (fun e=>by subst e;have hj:G.bJ O.next=some c:=hj;rw[h.l0.1]at hj;cases hj)]at hne
 ·have hl:∀m,G.bJ m=some c->bn O.hp O.next (some bW.tok) m≠none->O.hp m≠none:=fun m hm hn=>by
   rwa [ax _ _ (fun e=>by subst e;rw[h.l0.1]at hm;cases hm)]at hn
  exact h.inj j k' c (hl j hj lj) (hl k' hk lk) hj hk
 ·rcases nw j _ hj with⟨_,e⟩ | ⟨_,hj⟩
  ·cases e
  ·obtain⟨c,D,T',h1,h2,h3⟩:=h.cells j cs hj;exact⟨c,D,T',h1,h2,h3.mono hle⟩
 ·rcases nw j _ hj with⟨_,e⟩ | ⟨_,hj⟩
  ·cases e
  ·obtain⟨c,E,h1,h2,h3,h4,h5⟩:=h.map j es ck hj;exact⟨c,E,h1,h2,h3,h4.mono hle,h5.mono hle⟩
 ·rcases nw t _ ht with⟨rfl,_⟩ | ⟨e,ht⟩
  ·exact⟨b,f,k,r,C,T,aE _ _ _,hB,hb,hf,KA,ee⟩
  ·obtain⟨c,g,k',r',D,T',h1,h2⟩:=h.tok t ht;exact⟨c,g,k',r',D,T',by show bn _ _ _ _=_;rw[ax _ _ e];exact h1,h2⟩
 ·have h1:bn G.tok O.next (some (b,f,k,r)) s=some (c,x):=h1;have h2:bn G.tok O.next (some (b,f,k,r)) t=some (c,y):=h2;rcases nw s _ hs with⟨rfl,_⟩ | ⟨es,hs⟩<;>rcases nw t _ ht with⟨rfl,_⟩ | ⟨et,ht⟩
  ·rfl
  ·rw[aE]at h1;rw[ax _ _ et]at h2;injection h1 with h1;injection h1 with h1 _;subst h1
   exact absurd rfl (uf t _ _ ht h2)
  ·rw[aE]at h2;rw[ax _ _ es]at h1;injection h2 with h2;injection h2 with h2 _;subst h2
   exact absurd rfl (uf s _ _ hs h1)
  ·rw[ax _ _ es]at h1;rw[ax _ _ et]at h2;exact h.k9 s t c x y hs ht h1 h2
theorem WR.store (h:WR G O w) {k i b:Nat} {cs:List MV} {c:MV} {u:Value} (hk:O.hp k=some (.cells cs)) (hp:G.bJ k=some b) (hi:i<cs.length) (hc:VR G c u):
  WR G (O.set k (.cells (cs.set i c))) (w.setCell ⟨b,i,none⟩ u):=by
 obtain⟨b',C,T,h1,h2,h3⟩:=h.cells k cs hk;rw[hp]at h1;injection h1 with h1;subst h1
 have hne:∀j b',j≠k->O.hp j≠none->G.bJ j=some b'->b'≠b:=fun j b' hj lj mz e=>hj (h.inj j k b lj (by rw[hk];simp) (e▸mz) hp)
 have gI:∀j,bn O.hp k (some (.cells (cs.set i c))) j≠none->O.hp j≠none:=fun j hn=>by
  by_cases e:j=k
  ·subst e;rw[hk];simp
  ·rwa [ax _ _ e]at hn
 have xz:(w.setCell ⟨b,i,none⟩ u).heap[b]?=some (.cells (C.setIfInBounds i u) T.t T.fr):=by
  simp[World.setCell,Array.getElem?_modify,h2]
 have ef:∀j,j≠b->(w.setCell ⟨b,i,none⟩ u).heap[j]?=w.heap[j]?:=fun j hj=>Below.heap_setCell _ _ _ _ (by simpa using hj)
 refine⟨h.base.setCell (h.jX k b hp).1 u,fun b' o u' oa=>?_,fun j hj=>?_,fun j b' hj=>?_,fun j k' b' lj lk=>h.inj j k' b' (gI j lj) (gI k' lk),fun j ds hj=>?_,fun j es ck hj=>?_,fun t ht=>?_,fun s t b' x y hs ht=>?_,h.n_ id (lO (by simp)) fun j b' s _ hs=>?_,h.qJ id (ue (by simp)) fun j x b' hj hb hx=>by rw[ef _ (hne j b' (fun e=>by subst e;rw[hk]at hj;cases hj) (by rw[hj];simp) hb)];exact hx,h.qf,h.qK (Gh.Le.refl _) (l9 (by simp))⟩
 ·have tQ:b'≠b:=fun e=>by subst e;rw[(h.jX k b' hp).2.2 (by rw[hk];simp) o]at oa;cases oa
  rw[World.cell?_setCell_other _ _ _ _ (fun e=>tQ (by injection e with e;exact e.symm))];exact h.d_ b' o u' oa
 ·obtain⟨d1,d2,d3⟩:=h.o8 j hj;refine⟨d1,d2,?_⟩;show bn _ _ _ _=_;rw[ax _ _ (fun e=>by subst e;rw[d3]at hk;cases hk)];exact d3
 ·obtain⟨p1,p2,p3⟩:=h.jX j b' hj;refine⟨p1,by simp[World.setCell];exact p2,fun hne=>p3 ?_⟩;have hne:bn O.hp k (some (.cells (cs.set i c))) j≠none:=hne;by_cases e:j=k
  ·subst e;rw[hk];simp
  ·rwa [ax _ _ e]at hne
 ·have hj:bn O.hp k (some (.cells (cs.set i c))) j=some (.cells ds):=hj;by_cases e:j=k
  ·subst e;rw[aE]at hj;injection hj with hj;injection hj with hj;subst hj
   refine⟨b,_,⟨T.t,T.fr,by simpa using T.ok⟩,hp,xz,?_⟩;have:=h3.set (i:=i) hc;rw[Array.toList_setIfInBounds,List.length_set,List.take_set];exact this
  ·rw[ax _ _ e]at hj;obtain⟨b',D,T',d1,d2,d3⟩:=h.cells j ds hj;exact⟨b',D,T',d1,by rw[ef _ (hne j b' e (by rw[hj];simp) d1)];exact d2,d3⟩
 ·have hj:bn O.hp k (some (.cells (cs.set i c))) j=some (.map es ck):=hj;by_cases e:j=k
  ·subst e;rw[aE]at hj;cases hj
  ·rw[ax _ _ e]at hj;obtain⟨b',E,d1,d2,d3⟩:=h.map j es ck hj;exact⟨b',E,d1,by rw[ef _ (hne j b' e (by rw[hj];simp) d1)];exact d2,d3⟩
 ·have ht:bn O.hp k (some (.cells (cs.set i c))) t=some .tok:=ht;have e:t≠k:=fun e=>by subst e;rw[aE]at ht;cases ht
  rw[ax _ _ e]at ht;obtain⟨b',f,k',r,D,T',d1,d2,d3,d4,d6,d7⟩:=h.tok t ht;exact⟨b',f,k',r,D,T',d1,d2,by rw[ef _ (fun e=>d7 k (by rw[e];exact hp))];exact d3,d4,d6,d7⟩
 ·have hs:bn O.hp k (some (.cells (cs.set i c))) s=some .tok:=hs;have ht:bn O.hp k (some (.cells (cs.set i c))) t=some .tok:=ht;have e:t≠k:=fun e=>by subst e;rw[aE]at ht;cases ht
  have e':s≠k:=fun e=>by subst e;rw[aE]at hs;cases hs
  rw[ax _ _ e]at ht;rw[ax _ _ e']at hs;exact h.k9 s t b' x y hs ht
 ·by_cases e:b'=b
  ·subst e;simp only[World.shape?,h2]at hs;simp only[World.shape?,xz,Array.size_setIfInBounds];exact hs
  ·exact ie (fun x hx=>by rw[ef _ e];exact hx) hs
theorem WR.freeze (h:WR G O w) {k o n c sz:Nat} {cs:List MV} {u:Value} (hk:O.hp k=some (.cells cs)) (hx:VR G (.bm k o n c) u) (hl:o+sz<=cs.length):
  ∃H,G.Le H/\WR H (O.kill k) w/\VR H (.sl n ((cs.drop o).take sz) (if c=n then .full else .au)) u:=by
 cases hx with
 | bm hp hn hm=>
   rename_i b;obtain⟨b',C,T,h1,h2,h3⟩:=h.cells k cs hk;rw[hp]at h1;injection h1 with h1;subst h1
   have ahv:=(h.jX k b hp).2.2 (by rw[hk];simp)
   obtain⟨hle,hW⟩:=(h.kill k).CU (b:=b) (f:=fun o=>C[o]?) (fun o u hc=>by rw[ahv o]at hc;cases hc)
    (fun o u hf=>by simp only[World.cell?,h2,Option.isSome_none,Bool.false_eq_true,if_false];exact hf)
    (fun j hj XK=>by
     have lj:O.hp j≠none:=fun e=>by
      by_cases e2:j=k
      ·subst e2;exact hj (aE _ _ _)
      ·exact hj ((ax _ _ e2).trans e)
     have:j=k:=h.inj j k b lj (by rw[hk];simp) XK hp;subst this;exact hj (aE _ _ _))
    (fun t c' x ht oa e=>by
     subst e
     have ht':O.hp t=some .tok:=by
      have ht:bn O.hp k none t=some .tok:=ht;by_cases e:t=k
      ·subst e;rw[aE]at ht;cases ht
      ·rwa [ax _ _ e]at ht
     obtain⟨_,_,_,_,_,_,d1,_,_,_,_,d7⟩:=h.tok t ht';rw[oa]at d1;injection d1 with d1;injection d1 with d1 _;subst d1
     exact absurd hp (d7 k))
   refine⟨_,hle,hW,?_⟩;have h4:aO G ((cs.drop o).take sz) (((C.toList.take cs.length).drop o).take sz):=(h3.drop o).take sz
   have h5:((C.toList.take cs.length).drop o).take sz=(C.toList.drop o).take sz:=by
    rw[List.drop_take,List.take_take,Nat.min_eq_left (by omega)]
   rw[h5]at h4;refine .sl h4.1 (fun i u hu=>?_) (fun i c u a b=>(h4.2 i c u a b).mono hle) hn hm ?_
   ·show(if b=b then C[o+i]? else _)=some u;rw[if_pos rfl];rw[List.getElem?_take]at hu;split at hu
    ·rw[List.getElem?_drop]at hu;simpa using hu
    ·cases hu
   ·split
    ·rename_i e;exact e
    ·trivial
end
structure cn where
 under:TypeDesc
 size:Nat
 bytes:Nat
 zero:List MV
def ey:TypeDesc->Bool
 | .struct _ | .array _ _=>true
 | _=>false
structure wW (P:Program) (t:TypeId) (i:cn):Prop where
 under:P.underlying t=some i.under
 info:∃ti z,P.info? t=some ti/\ti.size=i.size/\ti.bytes=i.bytes/\ti.zero=some z/\z.cells.size=i.size/\∀G,aO G i.zero z.cells.toList
 whole:∀ti z,P.info? t=some ti->ti.zero=some z->(ey i.under=true->∃cs,z= .agg cs)/\(ey i.under=false->z.cells= #[z])
abbrev bV:=TypeId->Option cn
def aM (P:Program) (tab:bV):Prop:=∀t i,tab t=some i->wW P t i
def ofConst:Value->Option MV
 | .string s=>some (.str s.data.toList)
 | .slice none 0 0=>some (.sl 0 [] .nil)
 | x=>if plain x then some (.v x)else none
theorem BH {G:Gh} {x:Value} {m:MV} (h:ofConst x=some m):VR G m x:=by
 unfold ofConst at h;split at h
 ·injection h with h;subst h;rename_i s;obtain⟨⟨l⟩⟩:=s;exact .str
 ·injection h with h;subst h;exact .slnil
 ·split at h
  ·injection h with h;subst h;exact .v ‹_›
  ·cases h
abbrev Env:=List (Nat×MV)
def look:Env->Nat->Option MV
 | [],_=>none
 | (k,x)::r,t=>bif t==k then some x else look r t
def ev (e:Env):Operand->Option MV
 | .tmp t=>look e t
 | .const v=>ofConst v
 | .global _=>none
 | .func f=>some (.func (.func f) [] [])
structure Sz where
 n:Nat
 lo:Nat
def ky (n:Sz):Env->Env
 | []=>[]
 | (t,m)::e=>bif decide (t<n.lo)then(t,m)::ky n e else ky n e
theorem xA {n:Sz}:∀{e:Env} {t:Nat},look (ky n e) t=if t<n.lo then look e t else none
 | [],t=>by simp[ky,look]
 | (k,m)::e,t=>by
   have ih:=xA (n:=n) (e:=e) (t:=t);simp only[ky];by_cases hk:k<n.lo
   ·simp only[hk,decide_true,cond_true,look,ih];by_cases ht:t=k
    ·subst ht;simp[hk]
    ·have:(t==k)=false:=by simpa using ht
     simp[this]
   ·simp only[hk,decide_false,cond_false,look,ih];by_cases ht:t<n.lo
    ·have:(t==k)=false:=by simp;omega
     simp[this]
    ·simp[ht]
structure FR (G:Gh) (n:Sz) (D:List Deferred) (e:Env) (a:Act):Prop where
 defers:a.defers=D
 size:a.tmps.size=n.n
 get:∀t x,look e t=some x->∃u,a.tmps[t]?=some u/\VR G x u
section
variable {G H:Gh} {n:Sz} {D:List Deferred} {e:Env} {a:Act} {P:Program} {tab:bV} {O O':VH} {w:World} {m:MV}
theorem FR.mono (h:FR G n D e a) (hl:G.Le H):FR H n D e a:=⟨h.defers,h.size,fun t x hx=>by obtain⟨u,h1,h2⟩:=h.get t x hx;exact⟨u,h1,h2.mono hl⟩⟩
theorem FR.ev (h:FR G n D e a) {x:Operand} (hx:ev e x=some m):VR G m (a.eval x):=by
 cases x with
 | tmp t=>
   obtain⟨u,h1,h2⟩:=h.get t m hx
   have:a.eval (.tmp t)=u:=by
    show a.tmps.getD t undef=u;rw[Array.getD_eq_getD_getElem?,h1];rfl
   rw[this];exact h2
 | const v=>exact BH hx
 | global g=>cases hx
 | func f=>
   injection hx with hx;subst hx
   exact VR.func (us:=[]) (vs:=[]) rfl (fun i c u h=>by simp at h) rfl (fun i c u h=>by simp at h)
theorem FR.put (h:FR G n D e a) {d:Nat} {u:Value} (hd:d<n.n) (hu:VR G m u):FR G n D ((d,m)::e) (a.put (some d) u):=by
 refine⟨h.defers,by simp[Act.put,h.size],fun t x hx=>?_⟩;simp only[look]at hx;by_cases e':t=d
 ·subst e';simp only[beq_self_eq_true,cond_true,Option.some.injEq]at hx;subst hx;exact⟨u,by simp[Act.put,h.size,hd],hu⟩
 ·have:(t==d)=false:=by simpa using e'
  rw[this]at hx;obtain⟨u',h1,h2⟩:=h.get t x hx;refine⟨u',?_,h2⟩;simp only[Act.put];rw[Array.getElem?_setIfInBounds_ne (Ne.symm e')];exact h1
theorem FR.less (h:FR G n D e a) {e':Env} (hl:∀t x,look e' t=some x->look e t=some x):FR G n D e' a:=⟨h.defers,h.size,fun t x hx=>h.get t x (hl t x hx)⟩
def fE (e:Env) (l:List Operand):Option (List MV):=l.mapM (ev e)
theorem FR.fE (h:FR G n D e a):∀{l:List Operand} {ms:List MV},fE e l=some ms->aO G ms (l.map a.eval)
 | [],ms,hx=>by simp[Go.Proofs.YtoclnkfdahmnhaaGreatDoor.fE]at hx;subst hx;exact aO.nil
 | x::l,ms,hx=>by
   simp only[Go.Proofs.YtoclnkfdahmnhaaGreatDoor.fE,List.mapM_cons,Option.bind_eq_bind,Option.bind_eq_some_iff]at hx;obtain⟨m,h1,XL,h2,h3⟩:=hx;injection h3 with h3;subst h3
   exact aO.cons (h.ev h1) (FR.fE h h2)
def qo (op:BinOp) (k:IntKind) (a b:Int):Option MV:=
 match op with
 | .add=>some (.v (.int k (k.wrap (a+b))))
 | .sub=>some (.v (.int k (k.wrap (a - b))))
 | .mul=>some (.v (.int k (k.wrap (a*b))))
 | .quo=>if b=0 then none else some (.v (.int k (k.wrap (a.tdiv b))))
 | .rem=>if b=0 then none else some (.v (.int k (a.tmod b)))
 | .eql=>some (.v (.bool (a==b)))
 | .neq=>some (.v (.bool (a != b)))
 | .lss=>some (.v (.bool (decide (a<b))))
 | .leq=>some (.v (.bool (decide (a<=b))))
 | .gtr=>some (.v (.bool (decide (a>b))))
 | .geq=>some (.v (.bool (decide (a>=b))))
 | .and=>some (.v (.int k (k.wrap (BitVec.ofInt k.bits a&&& BitVec.ofInt k.bits b).toNat)))
 | .or=>some (.v (.int k (k.wrap (BitVec.ofInt k.bits a||| BitVec.ofInt k.bits b).toNat)))
 | .xor=>some (.v (.int k (k.wrap (BitVec.ofInt k.bits a ^^^ BitVec.ofInt k.bits b).toNat)))
 | _=>none
def yQ (op:BinOp) (k:IntKind) (a b:Int):Option MV:=
 if b<0 then none else
 match op with
 | .shl=>some (.v (.int k (k.wrap (a*2 ^ (min b.toNat k.bits)))))
 | .shr=>some (.v (.int k (a.fdiv (2 ^ (min b.toNat k.bits)))))
 | _=>none
def aey (op:BinOp) (a b:List UInt8):Option MV:=
 match op with
 | .add=>if a.length+b.length<=9223372036854775807 then some (.str (a++b))else none
 | .eql=>some (.v (.bool (a==b)))
 | .neq=>some (.v (.bool (!(a==b))))
 | .lss=>some (.v (.bool (Op.bytesLess a b)))
 | .leq=>some (.v (.bool (Op.bytesLess a b||a==b)))
 | .gtr=>some (.v (.bool (!(Op.bytesLess a b||a==b))))
 | .geq=>some (.v (.bool (!(Op.bytesLess a b))))
 | _=>none
def mF (tab:bV) (op:BinOp) (t:TypeId) (same:Bool):Option MV:=
 match((tab t).map cn.under:Option TypeDesc),op with
 | some (.pointer _),.eql=>some (.v (.bool same))
 | some (.pointer _),.neq=>some (.v (.bool (!same)))
 | _,_=>none
def cP (tab:bV) (op:BinOp) (t:TypeId) (x y:MV):Option MV:=
 match x,y with
 | .v (.int k a),.v (.int k' b)=>
   match op with
   | .shl=>yQ .shl k a b
   | .shr=>yQ .shr k a b
   | op=>if k=k' then qo op k a b else none
 | .v (.bool a),.v (.bool b)=>
   match((tab t).map cn.under:Option TypeDesc),op with
   | some .bool,.eql=>some (.v (.bool (a==b)))
   | some .bool,.neq=>some (.v (.bool (!(a==b))))
   | _,_=>none
 | .str a,.str b=>aey op a b
 | .v (.pointer none),.v (.pointer none)=>mF tab op t true
 | .ptr _ _,.v (.pointer none)=>mF tab op t false
 | .v (.pointer none),.ptr _ _=>mF tab op t false
 | .cX _ _,.v (.pointer none)=>mF tab op t false
 | .v (.pointer none),.cX _ _=>mF tab op t false
 | .ptr b o,.ptr b' o'=>if b=b'/\o=o' then(match((tab t).map cn.under:Option TypeDesc)with
   | some (.pointer el)=>match tab el with
     | some te=>if te.size=0 then none else mF tab op t true
     | none=>none
   | _=>none)else none
 | _,_=>none
theorem toList_mk (l:List UInt8):(⟨⟨l⟩⟩:ByteArray).toList=l:=by
 rw[ByteArray.toList_eq]
theorem run_equal_bool {t:TypeId} (h:P.underlying t=some .bool) (a b:Bool) (w:World):(Op.equal t (.bool a) (.bool b)).run P w= .ok (a==b) w:=by
 show(Op.equalIn (9999+1) t (.bool a) (.bool b)).run P w=_;generalize 9999=d;simp[Op.equalIn,run_underlying h]
def SS (G:Gh) (w:World):Prop:=∀b o u,G.d_ b o=some u->w.cell? ⟨b,o,none⟩=some u
theorem WR.ss (h:WR G O w):SS G w:=h.d_
def aW (P:Program) (s:Sem Value) (G:Gh) (m:MV):Prop:=∃u,VR G m u/\∀w,SS G w->s.run P w= .ok u w
theorem aW.of {s:Sem Value} {u:Value} (hr:∀w,SS G w->s.run P w= .ok u w) (hu:VR G m u):aW P s G m:=⟨u,hu,hr⟩
theorem xB (ht:aM P tab) {t:TypeId} {d:TypeDesc} (h:(tab t).map cn.under=some d):P.underlying t=some d:=by
 obtain⟨i,hi,hu⟩:=Option.map_eq_some_iff.1 h;rw[<-hu];exact(ht t i hi).under
theorem XM {t:TypeId} {i:cn} (h:wW P t i) (w:World):(sizeOf t).run P w= .ok i.size w:=by
 obtain⟨ti,z,h1,h2,_⟩:=h.info;simp[sizeOf,typeInfo,h1,h2]
theorem rp (ht:aM P tab) {op:BinOp} {t:TypeId} {same:Bool} {p q:Option Addr} {xo yo:Operand} (h:mF tab op t same=some m)
  (heq:∀el,P.underlying t=some (.pointer el)->∀(w:World) (d:Nat),(Op.equalIn (d+1) t (.pointer p) (.pointer q)).run P w= .ok same w):aW P (do eqGuard op t xo yo (.pointer p) (.pointer q);binOp op t (.pointer p) (.pointer q)) G m:=by
 have hg:∀w,(eqGuard op t xo yo (.pointer p) (.pointer q)).run P w= .ok () w:=fun w=>by unfold eqGuard;split<;>simp
 unfold mF at h;split at h
 ·rename_i el hu;injection h with h;subst h
  refine aW.of (fun w _=>?_) (.v rfl);rw[Sem.run_bind,hg,Result.andThen_ok];have:=heq el (xB ht hu) w 9999;simp only[binOp,Op.equal,Op.maxDepth,Sem.run_bind,this,Result.andThen_ok,Sem.run_pure]
 ·rename_i el hu;injection h with h;subst h
  refine aW.of (fun w _=>?_) (.v rfl);rw[Sem.run_bind,hg,Result.andThen_ok];have:=heq el (xB ht hu) w 9999;simp only[binOp,Op.equal,Op.maxDepth,Sem.run_bind,this,Result.andThen_ok,Sem.run_pure]
 ·cases h
theorem XN (ht:aM P tab) {op:BinOp} {t:TypeId} {x y:MV} {u v:Value} {xo yo:Operand} (h:cP tab op t x y=some m) (hx:VR G x u) (hy:VR G y v):
  aW P (do eqGuard op t xo yo u v;binOp op t u v) G m:=by
 unfold cP at h;split at h
 ·rename_i k a k' b;cases hx;cases hy
  have hg:∀w,(eqGuard op t xo yo (.int k a) (.int k' b)).run P w= .ok () w:=fun w=>by unfold eqGuard;split<;>simp
  split at h
  ·unfold yQ at h;split at h
   ·cases h
   ·injection h with h;subst h
    exact aW.of (fun w _=>by rw[Sem.run_bind,hg,Result.andThen_ok];simp[binOp,Op.shift, *]) (.v rfl)
  ·unfold yQ at h;split at h
   ·cases h
   ·injection h with h;subst h
    exact aW.of (fun w _=>by rw[Sem.run_bind,hg,Result.andThen_ok];simp[binOp,Op.shift, *]) (.v rfl)
  ·rename_i h1 h2;split at h
   ·subst k'
    cases op<;>simp only[qo]at h<;>first
     | (exact absurd rfl h1)
     | (exact absurd rfl h2)
     | (cases h;done)
     | (injection h with h;subst h;exact aW.of (fun w _=>by rw[Sem.run_bind,hg,Result.andThen_ok];simp[binOp,Op.intArith,Op.intCmp,Op.intBits]) (.v rfl))
     | (split at h
        ·cases h
        ·injection h with h;subst h;exact aW.of (fun w _=>by rw[Sem.run_bind,hg,Result.andThen_ok];simp[binOp,Op.intDiv, *]) (.v rfl))
   ·cases h
 ·rename_i a b;cases hx;cases hy
  have hg:∀w,(eqGuard op t xo yo (.bool a) (.bool b)).run P w= .ok () w:=fun w=>by unfold eqGuard;split<;>simp
  split at h
  ·rename_i hu;obtain⟨i,hi,hu⟩:=Option.map_eq_some_iff.1 hu;have:=(ht t i hi).under;rw[hu]at this;injection h with h;subst h
   exact aW.of (fun w _=>by rw[Sem.run_bind,hg,Result.andThen_ok];simp only[binOp,Sem.run_bind,run_equal_bool this,Result.andThen_ok,Sem.run_pure]) (.v rfl)
  ·rename_i hu;obtain⟨i,hi,hu⟩:=Option.map_eq_some_iff.1 hu;have:=(ht t i hi).under;rw[hu]at this;injection h with h;subst h
   exact aW.of (fun w _=>by rw[Sem.run_bind,hg,Result.andThen_ok];simp only[binOp,Sem.run_bind,run_equal_bool this,Result.andThen_ok,Sem.run_pure]) (.v rfl)
  ·cases h
 ·rename_i a b;cases hx;rename_i e1;cases hy
  have hg:∀w,(eqGuard op t xo yo (.string ⟨⟨a⟩⟩) (.string ⟨⟨b⟩⟩)).run P w= .ok () w:=fun w=>by unfold eqGuard;split<;>simp
  cases op<;>simp only[aey]at h<;>first
   | (cases h;done)
   | (injection h with h;subst h;exact aW.of (fun w _=>by rw[Sem.run_bind,hg,Result.andThen_ok];simp[binOp,Op.stringOp,toList_mk]) (.v rfl))
   | (split at h
      ·injection h with h;subst h
       refine aW.of (u:=.string ⟨⟨a++b⟩⟩) (fun w _=>?_) .str;rw[Sem.run_bind,hg,Result.andThen_ok];have e:(⟨⟨a⟩⟩:ByteArray)++⟨⟨b⟩⟩=⟨⟨a++b⟩⟩:=ByteArray.ext (by simp)
       have hn:¬(((⟨⟨a⟩⟩:ByteArray).size+(⟨⟨b⟩⟩:ByteArray).size:Nat):Int)>IntKind.i64.max:=by
        show ¬((a.length+b.length:Nat):Int)>_;have:IntKind.i64.max=9223372036854775807:=by decide
        omega
       simp only[binOp,Op.stringOp,if_neg hn,e,Sem.run_pure]
      ·cases h)
 ·rename_i hx' hy';cases hx;cases hy
  exact rp ht h (fun el hu w d=>by simp[Op.equalIn,run_underlying hu])
 ·cases hx;cases hy
  exact rp ht h (fun el hu w d=>by simp[Op.equalIn,run_underlying hu])
 ·cases hx;cases hy
  exact rp ht h (fun el hu w d=>by simp[Op.equalIn,run_underlying hu])
 ·cases hx;cases hy
  exact rp ht h (fun el hu w d=>by simp[Op.equalIn,run_underlying hu])
 ·cases hx;cases hy
  exact rp ht h (fun el hu w d=>by simp[Op.equalIn,run_underlying hu])
 ·rename_i b o b' o';split at h
  ·rename_i hb;obtain⟨rfl,rfl⟩:=hb;cases hx with
   | ptr h1=>
     cases hy with
     | ptr h2=>
       rw[h1]at h2;injection h2 with h2;subst h2;split at h
       ·rename_i el hu;split at h
        ·rename_i te he;split at h
         ·cases h
         ·rename_i hz;refine rp ht h (fun el' Dn w d=>?_);have cZ:=xB ht hu;rw[Dn]at cZ;injection cZ with cZ;injection cZ with cZ;subst cZ;simp[Op.equalIn,run_underlying Dn,XM (ht _ te he),hz,run_sameAddr_same]
        ·cases h
       ·cases h
  ·cases h
 ·cases h
def jx (G:Gh) (w w':World):Prop:=∀k b,G.bJ k=some b->w'.heap[b]?=w.heap[b]?
theorem jx.refl (G:Gh) (w:World):jx G w w:=fun _ _ _=>rfl
theorem jx.alloc (h:WR G O w) (o:Obj):jx G w (w.alloc o):=fun k b hk=>by
 have:=(h.jX k b hk).2.1;rw[eU,if_neg (by omega)]
def gP (P:Program) (s:Sem Value) (w:World) (G:Gh) (O':VH) (m:MV):Prop:=∃u w' H,s.run P w= .ok u w'/\Gh.Le G H/\WR H O' w'/\VR H m u/\jx G w w'
def Iw (P:Program) (s:Sem Unit) (w:World) (G:Gh) (O':VH):Prop:=∃w' H,s.run P w= .ok () w'/\Gh.Le G H/\WR H O' w'
theorem gP.of {s:Sem Value} {u:Value} (h:WR G O w) (hr:s.run P w= .ok u w) (hu:VR G m u):gP P s w G O m:=⟨u,w,G,hr,Gh.Le.refl G,h,hu,jx.refl _ _⟩
def aez (P:Program) (s:Sem Value) (w:World) (G:Gh) (m:MV):Prop:=∃u,s.run P w= .ok u w/\VR G m u
theorem R3 {t:TypeId} {i:cn} (h:wW P t i) (w:World):∃ti,(typeInfo t).run P w= .ok ti w/\ti.size=i.size/\ti.bytes=i.bytes:=by
 obtain⟨ti,z,h1,h2,h3,_⟩:=h.info;exact⟨ti,by simp[typeInfo,h1],h2,h3⟩
theorem eV {t:TypeId} {i:cn} (h:wW P t i) (w:World):(sizeOf t).run P w= .ok i.size w:=by
 obtain⟨ti,h1,h2,_⟩:=R3 h w;rw[sizeOf,Sem.run_bind,h1,Result.andThen_ok,Sem.run_pure,h2]
theorem nQ {t:TypeId} {i:cn} (h:wW P t i) (w:World):(isAgg t).run P w= .ok (ey i.under) w:=by
 rw[isAgg,Sem.run_bind,run_underlying h.under,Result.andThen_ok];cases i.under<;>rfl
theorem GU {t:TypeId} {i:cn} (h:wW P t i) (w:World):∃z,(zeroValue t).run P w= .ok z w/\z.cells.size=i.size/\∀G,aO G i.zero z.cells.toList:=by
 obtain⟨ti,z,h1,_,_,h4,h5,h6⟩:=h.info;exact⟨z,by simp[zeroValue,typeInfo,h1,h4],h5,h6⟩
def dD:MV->List MV
 | .agg cs=>cs
 | m=>[m]
def dE:MV->Bool
 | .agg _ | .tuple _=>false
 | _=>true
theorem xC {u:Value} (h:VR G m u):aO G (dD m) u.cells.toList:=by
 cases h with
 | agg h1 h2=>exact⟨h1,h2⟩
 | v h1=>
   have:u.cells= #[u]:=by cases u<;>first | rfl | (simp[plain]at h1)
   rw[this];exact aO.cons (.v h1) aO.nil
 | str=>exact aO.cons .str aO.nil
 | ptr h1=>exact aO.cons (.ptr h1) aO.nil
 | cX h1 h2 h3=>exact aO.cons (.cX h1 h2 h3) aO.nil
 | slnil=>exact aO.cons .slnil aO.nil
 | n9 h1=>exact aO.cons (.n9 h1) aO.nil
 | j7=>exact aO.cons .j7 aO.nil
 | sl h1 h2 h3 h4 h5 h6=>exact aO.cons (.sl h1 h2 h3 h4 h5 h6) aO.nil
 | bm h1 h2 h3=>exact aO.cons (.bm h1 h2 h3) aO.nil
 | map h1=>exact aO.cons (.map h1) aO.nil
 | func h1 h2 h3 h4=>exact aO.cons (.func h1 h2 h3 h4) aO.nil
 | iface h1=>exact aO.cons (.iface h1) aO.nil
 | tuple h1 h2=>exact aO.cons (.tuple h1 h2) aO.nil
theorem GV {u:Value} (h:VR G m u) (hl:dE m=true):u.oneCell'=true:=by
 cases h with
 | v h1=>cases u<;>first | rfl | (simp[plain]at h1)
 | agg h1 h2=>cases hl
 | tuple h1 h2=>cases hl
 | _=>rfl
theorem xD {cs:List MV} {us:List Value} (h:aO G cs us) (hl:cs.all dE=true):∀u∈us,u.oneCell'=true:=by
 intro u hu;obtain⟨i,hi,rfl⟩:=List.mem_iff_getElem.1 hu;have hc:i<cs.length:=by rw[<-h.1];exact hi
 exact GV (h.2 i cs[i] us[i] (List.getElem?_eq_getElem hc) (List.getElem?_eq_getElem hi)) (List.all_eq_true.1 hl _ (List.getElem_mem _))
def mG (agg:Bool) (size:Nat) (cs:List MV) (off:Nat):Option MV:=
 if agg then(if off+size<=cs.length then some (.agg ((cs.drop off).take size))else none)else cs[off]?
def cellsOf (O:VH):MV->Option (List MV×Nat)
 | .ptr k off=>match O.hp k with
   | some (.cells cs)=>some (cs,off)
   | _=>none
 | .cX cs off=>some (cs,off)
 | _=>none
theorem KB (h:WR G O w) {u:Value} {cs:List MV} {off:Nat} (hx:VR G m u) (hc:cellsOf O m=some (cs,off)):
  ∃b o us,u= .pointer (some ⟨b,o+off,none⟩)/\aO G cs us/\∀i v,us[i]?=some v->w.cell? ⟨b,o+i,none⟩=some v:=by
 cases hx with
 | ptr h1=>
   rename_i k off' b;simp only[cellsOf]at hc;split at hc
   ·rename_i cs' hk;injection hc with hc;injection hc with e1 e2;subst e1;subst e2
    obtain⟨b',C,T,h2,h3,h4⟩:=h.cells k _ hk;rw[h1]at h2;injection h2 with h2;subst h2
    refine⟨b,0,_,by simp,h4,fun i v hv=>?_⟩;rw[List.getElem?_take]at hv;split at hv
    ·simp only[Nat.zero_add,World.cell?,h3,Option.isSome_none,Bool.false_eq_true,if_false];simpa using hv
    ·cases hv
   ·cases hc
 | cX h1 h2 h3=>
   simp only[cellsOf,Option.some.injEq,Prod.mk.injEq]at hc;obtain⟨rfl,rfl⟩:=hc;exact⟨_,_,_,rfl,⟨h1,h3⟩,fun i v hv=>h.d_ _ _ _ (h2 i v hv)⟩
 | _=>cases hc
def eM (tab:bV) (O:VH) (t:TypeId) (m:MV):Option MV:=
 match tab t,cellsOf O m with
 | some i,some (cs,off)=>mG (ey i.under) i.size cs off
 | _,_=>none
def Sx (G:Gh) (w x:World):Prop:=SS G x/\jx G w x
theorem WR.sx (h:WR G O w):Sx G w w:=⟨h.ss,jx.refl _ _⟩
theorem FX (h:WR G O w) {u:Value} {cs:List MV} {off:Nat} (hx:VR G m u) (hc:cellsOf O m=some (cs,off)):
  ∃b o us,u= .pointer (some ⟨b,o+off,none⟩)/\aO G cs us/\∀x,Sx G w x->∀i v,us[i]?=some v->x.cell? ⟨b,o+i,none⟩=some v:=by
 cases hx with
 | ptr h1=>
   rename_i k off' b;simp only[cellsOf]at hc;split at hc
   ·rename_i cs' hk;injection hc with hc;injection hc with e1 e2;subst e1;subst e2
    obtain⟨b',C,T,h2,h3,h4⟩:=h.cells k _ hk;rw[h1]at h2;injection h2 with h2;subst h2
    refine⟨b,0,_,by simp,h4,fun x hs i v hv=>?_⟩;have XJ:=(hs.2 k b h1).trans h3;rw[List.getElem?_take]at hv;split at hv
    ·simp only[Nat.zero_add,World.cell?,XJ,Option.isSome_none,Bool.false_eq_true,if_false];simpa using hv
    ·cases hv
   ·cases hc
 | cX h1 h2 h3=>
   simp only[cellsOf,Option.some.injEq,Prod.mk.injEq]at hc;obtain⟨rfl,rfl⟩:=hc;exact⟨_,_,_,rfl,⟨h1,h3⟩,fun x hs i v hv=>hs.1 _ _ _ (h2 i v hv)⟩
 | _=>cases hc
theorem nR (ht:aM P tab) (h:WR G O w) {t:TypeId} {x m:MV} {u:Value} (hv:eM tab O t x=some m) (hx:VR G x u):∃r,VR G m r/\∀y,Sx G w y->(Instr.loadAt t u).run P y= .ok r y:=by
 unfold eM at hv;split at hv
 ·rename_i i cs off hi hc;have fc:=ht t i hi;obtain⟨b,o,us,rfl,nS,kx⟩:=FX h hx hc;simp only[Instr.loadAt,Instr.sureAddr,loadVar];unfold mG at hv;split at hv
  ·rename_i o9;split at hv
   ·rename_i hle;injection hv with hv;subst hv
    have BI:=(nS.drop off).take i.size;have hlen:((us.drop off).take i.size).length=i.size:=by simp[nS.1];omega
    refine⟨_,.agg BI.1 BI.2,fun y hy=>?_⟩
    have yR:∀j v,((us.drop off).take i.size)[j]?=some v->y.cell? ((⟨b,o+off,none⟩:Addr).add j)=some v:=by
     intro j v hj;rw[Addr.add_lit,Nat.add_assoc];rw[List.getElem?_take]at hj;split at hj
     ·rw[List.getElem?_drop]at hj;exact kx y hy _ v hj
     ·cases hj
    have xE:=run_loadCells_list (P:=P) y ⟨b,o+off,none⟩ _ yR;rw[hlen]at xE;simp[nQ fc,o9,eV fc,xE]
   ·cases hv
  ·rename_i o9;obtain⟨v,ob,Cq⟩:=nS.get hv;exact⟨v,Cq,fun y hy=>by simp[nQ fc,o9,kx y hy _ v ob]⟩
 ·cases hv
theorem Dq (ht:aM P tab) (h:WR G O w) {t:TypeId} {x m:MV} {u:Value} (hv:eM tab O t x=some m) (hx:VR G x u):aez P (Instr.loadAt t u) w G m:=by
 obtain⟨r,h1,h2⟩:=nR (P:=P) ht h hv hx;exact⟨r,h2 w h.sx,h1⟩
theorem GW (ht:aM P tab) (h:WR G O w) {t:TypeId} {x m:MV} {u:Value} (hv:eM tab O t x=some m) (hx:VR G x u):gP P (Instr.loadAt t u) w G O m:=by
 obtain⟨r,h1,h2⟩:=Dq (P:=P) ht h hv hx;exact gP.of h h1 h2
theorem Pb (ht:aM P tab) {t:TypeId} {cs:List MV} {off:Nat} {m:MV} {u:Value} (hv:eM tab O t (.cX cs off)=some m) (hx:VR G (.cX cs off) u):aW P (Instr.loadAt t u) G m:=by
 unfold eM at hv;split at hv
 ·rename_i i cs' off' hi hc;simp only[cellsOf,Option.some.injEq,Prod.mk.injEq]at hc;obtain⟨rfl,rfl⟩:=hc;have fc:=ht t i hi;cases hx with
  | cX h1 h2 h3=>
    rename_i us b o;have nS:aO G cs us:=⟨h1,h3⟩;simp only[Instr.loadAt,Instr.sureAddr,loadVar];unfold mG at hv;split at hv
    ·rename_i o9;split at hv
     ·rename_i hle;injection hv with hv;subst hv
      have BI:=(nS.drop off).take i.size;have hlen:((us.drop off).take i.size).length=i.size:=by simp[nS.1];omega
      have yR:∀w,SS G w->∀j v,((us.drop off).take i.size)[j]?=some v->w.cell? ((⟨b,o+off,none⟩:Addr).add j)=some v:=by
       intro w hw j v hj;rw[Addr.add_lit,Nat.add_assoc];rw[List.getElem?_take]at hj;split at hj
       ·rw[List.getElem?_drop]at hj;exact hw _ _ _ (h2 _ v hj)
       ·cases hj
      have xE:∀w,SS G w->(loadCells ⟨b,o+off,none⟩ i.size).run P w= .ok ((us.drop off).take i.size).toArray w:=fun w hw=>by
       have:=run_loadCells_list (P:=P) w ⟨b,o+off,none⟩ _ (yR w hw)
       rwa [hlen]at this
      exact aW.of (fun w hw=>by simp[nQ fc,o9,eV fc,xE w hw]) (.agg BI.1 BI.2)
     ·cases hv
    ·rename_i o9;obtain⟨v,ob,Cq⟩:=nS.get hv;exact aW.of (fun w hw=>by simp[nQ fc,o9,hw _ _ _ (h2 _ v ob)]) Cq
 ·cases hv
def dW (cs:List MV) (o:Nat):List MV->List MV
 | []=>cs
 | x::xs=>dW (cs.set o x) (o+1) xs
theorem VH.set_set (O:VH) (k:Nat) (x y:bW):(O.set k x).set k y=O.set k y:=by
 simp only[VH.set,VH.mk.injEq,true_and]
 funext j
 simp only[bn];cases Nat.beq j k<;>rfl
theorem VH.an (O:VH) (k:Nat) (x:bW):(O.set k x).hp k=some x:=aE _ _ _
theorem VH.vN {O:VH} {k:Nat} {x:bW} (h:O.hp k=some x):O.set k x=O:=by
 obtain⟨n,f⟩:=O;simp only[VH.set,VH.mk.injEq,true_and]
 funext j
 by_cases e:j=k
 ·subst e;rw[aE];exact h.symm
 ·exact ax _ _ e
theorem xF {k b:Nat} (hp:G.bJ k=some b) (off:Nat):∀(xs:List MV) (us:List Value) (i:Nat) (cs:List MV) (O:VH) (w:World),WR G O w->O.hp k=some (.cells cs)->aO G xs us->xs.all dE=true->off+i+xs.length<=cs.length->
  ∃w',(storeCells ⟨b,off,none⟩ us i).run P w= .ok () w'/\WR G (O.set k (.cells (dW cs (off+i) xs))) w'
 | [],us,i,cs,O,w,h,hk,hx,_,_=>by
   rw[hx.ic];refine⟨w,rfl,?_⟩;simp only[dW];rw[VH.vN hk];exact h
 | x::xs,us,i,cs,O,w,h,hk,hx,hl,hle=>by
   obtain⟨u,TO,rfl,h1,h2⟩:=hx.eh;simp only[List.all_cons,Bool.and_eq_true]at hl;simp only[List.length_cons]at hle;have c5:=h.store (i:=off+i) hk hp (by omega) h1;obtain⟨w',hr,hw⟩:=xF hp off xs TO (i+1) (cs.set (off+i) x) _ _ c5 (VH.an _ _ _) h2 hl.2 (by simp;omega);refine⟨w',?_,?_⟩
   ·obtain⟨b',C,T,e1,e2,e3⟩:=h.cells k cs hk;rw[hp]at e1;injection e1 with e1;subst e1
    have hlen:off+i<C.size:=by have:=e3.1;simp at this;omega
    have kx:w.cell? ⟨b,off+i,none⟩=some C[off+i]:=by
     simp only[World.cell?,e2,Option.isSome_none,Bool.false_eq_true,if_false,Array.getElem?_eq_getElem hlen]
    have aS:w.frozen? ⟨b,off+i,none⟩=false:=by
     obtain⟨t',⟨lo,hi⟩,cu⟩:=T;dsimp only at e2 cu;simp only[World.frozen?,e2,Bool.and_eq_false_imp,decide_eq_true_eq,decide_eq_false_iff_not];intro;omega
    rw[storeCells,Sem.run_bind]
    have:(store ((⟨b,off,none⟩:Addr).add i) u).run P w= .ok () (w.setCell ⟨b,off+i,none⟩ u):=by
     rw[Addr.add_lit,run_store P w _ _ _ (GV h1 hl.1),kx];simp[aS]
    rw[this,Result.andThen_ok];exact hr
   ·rw[VH.set_set]at hw;exact hw
def vO (tab:bV) (O:VH) (t:TypeId) (x y:MV):Option VH:=
 match tab t,x with
 | some i,.ptr k off=>match O.hp k with
   | some (.cells cs)=>if(dD y).length=i.size/\(dD y).all dE=true/\off+i.size<=cs.length then some (O.set k (.cells (dW cs off (dD y))))else none
   | _=>none
 | _,_=>none
theorem Pc (ht:aM P tab) (h:WR G O w) {t:TypeId} {x y:MV} {u v:Value} (hv:vO tab O t x y=some O') (hx:VR G x u) (hy:VR G y v):Iw P (Instr.storeAt t u v) w G O':=by
 unfold vO at hv;split at hv
 ·rename_i i k off hi;have fc:=ht t i hi;split at hv
  ·rename_i cs hk;split at hv
   ·rename_i hc;injection hv with hv;subst hv
    cases hx with
    | ptr h1=>
      have hm:=xC hy;obtain⟨w',hr,hw⟩:=xF (P:=P) h1 off (dD y) v.cells.toList 0 cs O w h hk hm hc.2.1 (by omega);refine⟨w',G,?_,Gh.Le.refl G,by simpa using hw⟩;have hs:v.cells.size=i.size:=by rw[<-Array.length_toList,hm.1];exact hc.1
      simp[Instr.storeAt,Instr.sureAddr,storeVar,eV fc,hs,hr]
   ·cases hv
  ·cases hv
 ·cases hv
theorem aco (h:WR G O w) {cs:List MV} {C:Array Value} {t:TypeId} (hc:aO G cs C.toList):gP P (do pure (Value.pointer (some (<-newRow t C)))) w G (O.push (.cells cs)) (.ptr O.next 0):=by
 obtain⟨h1,h2⟩:=h.push t hc;exact⟨_,_,_,by simp[newRow,newObj,Sem.run],h1,h2,.ptr (aE _ _ _),jx.alloc h _⟩
theorem XO (h:WR G O w) {t:TypeId} {u:Value} (hu:VR G m u):gP P (Instr.box t u) w G (O.push (.cells (dD m))) (.ptr O.next 0):=aco h (xC hu)
end
section
variable {G H:Gh} {n:Sz} {D:List Deferred} {e:Env} {a:Act} {P:Program} {tab:bV} {O O':VH} {w:World} {m m':MV} {u v:Value}
def ug (k:Nat):MV->Option MV
 | .ptr b off=>some (.ptr b (off+k))
 | .cX cs off=>some (.cX cs (off+k))
 | _=>none
theorem GX {k:Nat} (h:VR G m u) (hm:ug k m=some m'):∃a:Addr,u= .pointer (some a)/\VR G m' (.pointer (some (a.add k))):=by
 cases h with
 | ptr h1=>
   injection hm with hm;subst hm
   exact⟨_,rfl,by rw[Addr.add_lit];exact .ptr h1⟩
 | cX h1 h2 h3=>
   injection hm with hm;subst hm
   exact⟨_,rfl,by rw[Addr.add_lit,Nat.add_assoc];exact .cX h1 h2 h3⟩
 | _=>cases hm
def jm (tab:bV) (t:TypeId) (f:Nat) (m:MV):Option MV:=
 match tab t with
 | some i=>match i.under with
   | .struct fs=>match fs[f]? with
     | some fd=>match tab fd.type with
       | some j=>if j.size=0 then none else ug fd.offset m
       | none=>none
     | none=>none
   | _=>none
 | none=>none
theorem Dr (ht:aM P tab) {t:TypeId} {f:Nat} (hv:jm tab t f m=some m') (hx:VR G m u):aW P (Instr.fieldAt t u f) G m':=by
 unfold jm at hv;split at hv
 ·rename_i i hi;split at hv
  ·rename_i fs hu;split at hv
   ·rename_i fd hf;split at hv
    ·rename_i j hj;split at hv
     ·cases hv
     ·rename_i hz;obtain⟨a,rfl,h2⟩:=GX hx hv;have fc:=(ht t i hi).under;rw[hu]at fc;exact aW.of (fun w _=>by simp[Instr.fieldAt,run_underlying fc,hf,Instr.sureAddr,fieldPlace,eV (ht _ j hj),hz]) h2
    ·cases hv
   ·cases hv
  ·cases hv
 ·cases hv
def l_ (tab:bV) (t:TypeId) (m:MV) (ix:MV):Option MV:=
 match ix,tab t with
 | .v (.int _ i),some ti=>match ti.under,m with
   | .slice el,.sl n cells _=>match tab el with
     | some te=>if 0<=i/\i<(n:Int)then some (.cX cells (i.toNat*te.size))else none
     | none=>none
   | .slice el,.bm k o n _=>match tab el with
     | some te=>if 0<=i/\i<(n:Int)then some (.ptr k (o+i.toNat*te.size))else none
     | none=>none
   | .array len el,x=>match tab el with
     | some te=>if 0<=i/\i<(len:Int)then ug (i.toNat*te.size) x else none
     | none=>none
   | _,_=>none
 | _,_=>none
theorem Ds (ht:aM P tab) {t:TypeId} {ix:MV} (hv:l_ tab t m ix=some m') (hx:VR G m u) (hy:VR G ix v):aW P (Instr.indexAt t u v) G m':=by
 unfold l_ at hv;split at hv
 ·rename_i k i ti hi;cases hy;have fc:=(ht t ti hi).under;split at hv
  ·rename_i el n' cells tk hu;rw[hu]at fc;split at hv
   ·rename_i te he;split at hv
    ·rename_i hb;injection hv with hv;subst hv
     cases hx with
     | slnil=>simp at hb;omega
     | n9 h1=>simp at hb;omega
     | j7=>simp at hb;omega
     | sl h1 h2 h3 h4 h5 h6=>
       refine aW.of (u:=.pointer (some _)) (fun w _=>?_) (.cX h1 h2 h3);simp[Instr.indexAt,asIntOf,run_underlying fc,hb.1,hb.2,eV (ht _ te he),Addr.add_lit]
    ·cases hv
   ·cases hv
  ·rename_i el k' o n' c' hu;rw[hu]at fc;split at hv
   ·rename_i te he;split at hv
    ·rename_i hb;injection hv with hv;subst hv
     cases hx with
     | bm h1 h2 h3=>
       refine aW.of (u:=.pointer (some _)) (fun w _=>?_) (.ptr h1);simp[Instr.indexAt,asIntOf,run_underlying fc,hb.1,hb.2,eV (ht _ te he),Addr.add_lit]
    ·cases hv
   ·cases hv
  ·rename_i len el hu;rw[hu]at fc;split at hv
   ·rename_i te he;split at hv
    ·rename_i hb;obtain⟨a,rfl,h2⟩:=GX hx hv;refine aW.of (u:=.pointer (some _)) (fun w _=>?_) h2;simp[Instr.indexAt,asIntOf,run_underlying fc,Instr.sureAddr,hb.1,hb.2,eV (ht _ te he)]
    ·cases hv
   ·cases hv
  ·cases hv
 ·cases hv
def AI (tab:bV) (t:TypeId) (cs:List MV) (off:Nat):Option MV:=
 match tab t with
 | some i=>mG (ey i.under) i.size cs off
 | none=>none
theorem vP (ht:aM P tab) {t:TypeId} {cs:List MV} {us:List Value} {off:Nat} (hv:AI tab t cs off=some m) (hx:aO G cs us):∃r,(∀w,(part t us.toArray off).run P w= .ok r w)/\VR G m r:=by
 unfold AI at hv;split at hv
 ·rename_i i hi;have fc:=ht t i hi;unfold mG at hv;split at hv
  ·rename_i o9;split at hv
   ·injection hv with hv;subst hv
    have nS:=(hx.drop off).take i.size;refine⟨.agg ((us.drop off).take i.size).toArray,fun w=>?_,.agg nS.1 nS.2⟩;simp[part,nQ fc,o9,eV fc]
   ·cases hv
  ·rename_i o9;obtain⟨v,ob,Cq⟩:=hx.get hv;exact⟨v,fun w=>by simp[part,nQ fc,o9,ob],Cq⟩
 ·cases hv
def vQ (tab:bV) (t:TypeId) (x:MV) (f:Nat):Option MV:=
 match tab t,x with
 | some i,.agg cs=>match i.under with
   | .struct fs=>match fs[f]? with
     | some fd=>AI tab fd.type cs fd.offset
     | none=>none
   | _=>none
 | _,_=>none
theorem Pd (ht:aM P tab) {t:TypeId} {f:Nat} (hv:vQ tab t m f=some m') (hx:VR G m u):aW P (Instr.field t u f) G m':=by
 unfold vQ at hv;split at hv
 ·rename_i i cs hi;split at hv
  ·rename_i fs hu;have fc:=(ht t i hi).under;rw[hu]at fc;split at hv
   ·rename_i fd hf;cases hx with
    | agg h1 h2=>
      obtain⟨r,h3,h4⟩:=vP (P:=P) ht hv ⟨h1,h2⟩;exact aW.of (fun w _=>by simp[Instr.field,run_underlying fc,hf,asAgg,h3]) h4
   ·cases hv
  ·cases hv
 ·cases hv
def vR (tab:bV) (t:TypeId) (x ix:MV):Option MV:=
 match tab t,x,ix with
 | some i,.agg cs,.v (.int _ k)=>match i.under with
   | .array len el=>match tab el with
     | some te=>if 0<=k/\k<(len:Int)then AI tab el cs (k.toNat*te.size)else none
     | none=>none
   | _=>none
 | some i,.str l,.v (.int _ k)=>match i.under with
   | .string=>if 0<=k then(l[k.toNat]?).map fun b=>.v (.int .u8 b.toNat)else none
   | _=>none
 | _,_,_=>none
theorem Pe (ht:aM P tab) {t:TypeId} {ix:MV} (hv:vR tab t m ix=some m') (hx:VR G m u) (hy:VR G ix v):aW P (Instr.index t u v) G m':=by
 unfold vR at hv;split at hv
 ·rename_i i cs kk k hi;cases hy;split at hv
  ·rename_i len el hu;have fc:=(ht t i hi).under;rw[hu]at fc;split at hv
   ·rename_i te he;split at hv
    ·rename_i hb;cases hx with
     | agg h1 h2=>
       obtain⟨r,h3,h4⟩:=vP (P:=P) ht hv ⟨h1,h2⟩;exact aW.of (fun w _=>by simp[Instr.index,asIntOf,run_underlying fc,hb.1,hb.2,eV (ht _ te he),h3]) h4
    ·cases hv
   ·cases hv
  ·cases hv
 ·rename_i i l kk k hi;cases hy;cases hx;split at hv
  ·rename_i hu;have fc:=(ht t i hi).under;rw[hu]at fc;split at hv
   ·rename_i hb;obtain⟨b,h1,h2⟩:=Option.map_eq_some_iff.1 hv;subst h2;refine aW.of (u:=.int .u8 b.toNat) (fun w _=>?_) (.v rfl)
    have hg:(⟨⟨l⟩⟩:ByteArray)[k.toNat]?=some b:=by
     obtain⟨eb,he⟩:=List.getElem?_eq_some_iff.1 h1;rw[getElem?_pos (⟨⟨l⟩⟩:ByteArray) k.toNat eb];exact congrArg some he
    simp[Instr.index,asIntOf,run_underlying fc,hb,hg]
   ·cases hv
  ·cases hv
 ·cases hv
def rq (x:MV) (i:Nat):Option MV:=
 match x with
 | .tuple vs=>vs[i]?
 | _=>none
theorem Ix {i:Nat} (hv:rq m i=some m') (hx:VR G m u):aW P (Instr.extract u i) G m':=by
 unfold rq at hv;split at hv
 ·cases hx with
  | tuple h1 h2=>
    obtain⟨r,h3,h4⟩:=aO.get ⟨h1,h2⟩ hv;exact aW.of (fun w _=>by simp[Instr.extract,h3]) h4
 ·cases hv
end
section
variable {G H:Gh} {n:Sz} {D:List Deferred} {e:Env} {a:Act} {P:Program} {tab:bV} {O O':VH} {w:World} {m m' m2:MV} {u v:Value}
def lx (place:Nat->Option (Nat×Nat)) (cells:List MV):List (Nat×MV)->Option (List MV)
 | []=>some cells
 | (i,x)::rest=>match place i with
   | none=>none
   | some (off,size)=>if(dD x).length=size/\off+size<=cells.length then lx place (dW cells off (dD x)) rest else none
theorem BJ {us:List Value}:∀(vs:List Value) (k off:Nat) (C:Array Value) (cs ms:List MV),aO G cs C.toList->aO G ms vs->
  aO G (dW cs (off+k) ms) ((vs.zipIdx k).foldl (fun(a:Array Value) x=>a.setIfInBounds (off+x.2) x.1) C).toList
 | [],k,off,C,cs,ms,h,hm=>by
   have:ms=[]:=List.eq_nil_of_length_eq_zero hm.1.symm;subst this;exact h
 | v::vs,k,off,C,cs,ms,h,hm=>by
   cases ms with
   | nil=>have:=hm.1;simp at this
   | cons x xs=>
     simp only[List.zipIdx_cons,List.foldl_cons,dW];have h2:aO G (cs.set (off+k) x) (C.setIfInBounds (off+k) v).toList:=by rw[Array.toList_setIfInBounds];exact h.set hm.head
     exact BJ (us:=us) vs (k+1) off _ _ xs h2 hm.tail
theorem vS {place:Nat->Option (Nat×Nat)}:∀(parts:List (Nat×MV)) (ps:List (Nat×Value)) (cs:List MV) (C:Array Value) (ds:List MV),lx place cs parts=some ds->
  parts.map (·.1)=ps.map (·.1)->aO G (parts.map (·.2)) (ps.map (·.2))->aO G cs C.toList->∃E,Instr.fill place C ps=some E/\aO G ds E.toList
 | [],ps,cs,C,ds,h,h1,h2,h3=>by
   have:ps=[]:=by cases ps<;>simp_all
   subst this;injection h with h;subst h
   exact⟨C,rfl,h3⟩
 | (i,x)::parts,ps,cs,C,ds,h,h1,h2,h3=>by
   cases ps with
   | nil=>simp at h1
   | cons p ps=>
     obtain⟨j,y⟩:=p;simp only[List.map_cons,List.cons.injEq]at h1;obtain⟨rfl,h1⟩:=h1;simp only[List.map_cons]at h2;simp only[lx]at h;cases hp:place i with
     | none=>rw[hp]at h;cases h
     | some q=>
       obtain⟨off,size⟩:=q;rw[hp]at h;simp only at h;split at h
       ·rename_i hc;have hm:=xC h2.head;have hy:y.cells.size=size:=by rw[<-Array.length_toList,hm.1];exact hc.1
        have hC:C.size=cs.length:=by rw[<-Array.length_toList];exact h3.1
        have c5:=BJ (us:=[]) y.cells.toList 0 off C cs (dD x) h3 hm;obtain⟨E,h4,h5⟩:=vS parts ps _ _ ds h h1 h2.tail c5;refine⟨E,?_,h5⟩;simp only[Instr.fill,hp];rw[if_neg (by rw[hy,hC];simp;exact hc.2)];rw[<-h4]
        congr 1
        rw[<-Array.foldl_toList,Array.toList_zipIdx]
       ·cases h
def placesOf (tab:bV) (fs:Array Field):Option (List (Nat×Nat)):=fs.toList.mapM fun f=>(tab f.type).map fun i=>(f.offset,i.size)
theorem run_places (ht:aM P tab):∀(fs:List Field) (l:List (Nat×Nat)) (w:World),(fs.mapM fun f=>(tab f.type).map fun i=>(f.offset,i.size))=some l->
  (fs.mapM fun f=>(do pure (f.offset, <-sizeOf f.type):Sem (Nat×Nat))).run P w= .ok l w
 | [],l,w,h=>by simp at h;subst h;rfl
 | f::fs,l,w,h=>by
   simp only[List.mapM_cons,Option.bind_eq_bind,Option.bind_eq_some_iff]at h;obtain⟨x,h1,l',h2,h3⟩:=h;injection h3 with h3;subst h3
   obtain⟨i,hi,rfl⟩:=Option.map_eq_some_iff.1 h1;have ih:=run_places ht fs l' w h2;simp only[List.mapM_cons,Sem.run_bind,eV (ht _ i hi),Result.andThen_ok,Sem.run_pure];rw[ih];rfl
def vT (tab:bV) (t:TypeId) (parts:List (Nat×MV)):Option MV:=
 match tab t with
 | some i=>match i.under with
   | .struct fs=>match placesOf tab fs with
     | some l=>(lx (l[·]?) i.zero parts).map .agg
     | none=>none
   | .array _ el=>match tab el with
     | some te=>(lx (fun k=>some (k*te.size,te.size)) i.zero parts).map .agg
     | none=>none
   | _=>none
 | none=>none
theorem Pf (ht:aM P tab) {t:TypeId} {parts:List (Nat×MV)} {ps:Array (Nat×Value)} (hv:vT tab t parts=some m) (h1:parts.map (·.1)=ps.toList.map (·.1)) (h2:aO G (parts.map (·.2)) (ps.toList.map (·.2))):
  aW P (Instr.build t ps) G m:=by
 unfold vT at hv;split at hv
 ·rename_i i hi;have fc:=ht t i hi;obtain⟨ti,z,hz0,_,_,Iy,se,FY⟩:=fc.info;have Cr:∀w,(zeroValue t).run P w= .ok z w:=fun w=>by simp[zeroValue,typeInfo,hz0,Iy]
  split at hv
  ·rename_i fs hu;have eN:=fc.under;rw[hu]at eN;split at hv
   ·rename_i l hl;obtain⟨ds,h3,rfl⟩:=Option.map_eq_some_iff.1 hv;obtain⟨E,h4,h5⟩:=vS parts ps.toList i.zero z.cells ds h3 h1 h2 (FY G);have hr:=fun w=>run_places ht fs.toList l w hl
    refine aW.of (u:=.agg E) (fun w _=>?_) (.agg h5.1 h5.2)
    have hr':(fs.mapM fun f=>(do pure (f.offset, <-sizeOf f.type):Sem (Nat×Nat))).run P w= .ok l.toArray w:=by
     rw[Array.mapM_eq_mapM_toList, <-bind_pure_comp,Sem.run_bind,hr];rfl
    simp only[Instr.build,Sem.run_bind,Cr,Result.andThen_ok,run_underlying eN,hr'];have:Instr.fill (fun x=>l.toArray[x]?) z.cells ps.toList=some E:=by rw[<-h4];congr 1;funext x;simp
    rw[this];rfl
   ·cases hv
  ·rename_i len el hu;have eN:=fc.under;rw[hu]at eN;split at hv
   ·rename_i te he;obtain⟨ds,h3,rfl⟩:=Option.map_eq_some_iff.1 hv;obtain⟨E,h4,h5⟩:=vS parts ps.toList i.zero z.cells ds h3 h1 h2 (FY G);refine aW.of (u:=.agg E) (fun w _=>?_) (.agg h5.1 h5.2);simp only[Instr.build,Sem.run_bind,Cr,Result.andThen_ok,run_underlying eN,eV (ht _ te he),h4];rfl
   ·cases hv
  ·cases hv
 ·cases hv
def ig (z:List MV) (n:Nat):List MV:=(List.range n).map fun i=>z.getD (i % z.length) (.tuple [])
theorem xG {z:List MV} {Z:Array Value} (h:aO G z Z.toList) (hz:0<z.length) (n:Nat):aO G (ig z n) ((Array.range n).map (fun i=>Z[i % Z.size]!)).toList:=by
 have hl:Z.size=z.length:=by rw[<-Array.length_toList];exact h.1
 refine⟨by simp[ig],fun i c u hc hu=>?_⟩;simp only[ig,List.getElem?_map,Option.map_eq_some_iff]at hc;obtain⟨j,hj,rfl⟩:=hc;simp only[Array.toList_map,Array.toList_range,List.getElem?_map,hj,Option.map_some,Option.some.injEq]at hu;have hm:j % z.length<z.length:=Nat.mod_lt _ hz;have hm':j % Z.size<Z.size:=by rw[hl];exact hm
 refine h.2 (j % z.length) _ u ?_ ?_
 ·rw[List.getElem?_eq_getElem hm,List.getD_eq_getElem?_getD,List.getElem?_eq_getElem hm];rfl
 ·rw[<-hu, <-hl,Array.getElem?_toList,Array.getElem?_eq_getElem hm',getElem!_pos Z _ hm']
def kM (tab:bV) (t:TypeId) (len:Nat) (parts:List (Nat×MV)):Option MV:=
 match(tab t).map cn.under with
 | some (.slice el)=>match tab el with
   | some te=>if 0<len*te.size/\len*te.size<=16777216/\0<te.zero.length/\len<=maxLen then
     (lx (fun k=>some (k*te.size,te.size)) (ig te.zero (len*te.size)) parts).map fun cs=>.sl len cs .full
     else if len=0/\parts=[]then some (.sl 0 [] .full)else none
   | none=>none
 | _=>none
theorem s_ (ht:aM P tab) (h:WR G O w) {t:TypeId} {len:Nat} {parts:List (Nat×MV)} {ps:Array (Nat×Value)} (hv:kM tab t len parts=some m) (h1:parts.map (·.1)=ps.toList.map (·.1)) (h2:aO G (parts.map (·.2)) (ps.toList.map (·.2))):
  gP P (Instr.buildSlice t len ps) w G O m:=by
 unfold kM at hv;split at hv
 ·rename_i el hu;obtain⟨i,hi,hu⟩:=Option.map_eq_some_iff.1 hu;have eN:=(ht t i hi).under;rw[hu]at eN;split at hv
  ·rename_i te he;have nh:=ht el te he;obtain⟨z,Cr,se,FY⟩:=GU nh w
   have fin:∀(C:Array Value) (cs:List MV),aO G cs C.toList->len<=maxLen->gP P (do pure (Value.slice (some (<-newRow el C)) len len)) w G O (.sl len cs .full):=fun C cs hc hl=>by
    obtain⟨h3,h4⟩:=h.lit C el;refine⟨.slice (some ⟨w.heap.size,0,none⟩) len len,w.alloc (.cells C el),_,by simp[newRow,newObj,Sem.run],h3,h4,?_,jx.alloc h _⟩;refine .sl (us:=C.toList) hc.1 (fun i u hu=>?_) (fun i c u a b=>(hc.2 i c u a b).mono h3) (Nat.le_refl _) hl rfl;show(if w.heap.size=w.heap.size then C[0+i]? else _)=some u;rw[if_pos rfl,Nat.zero_add];simpa using hu
   split at hv
   ·rename_i hc;obtain⟨cs,h3,rfl⟩:=Option.map_eq_some_iff.1 hv;obtain⟨E,h4,h5⟩:=vS parts ps.toList _ _ cs h3 h1 h2 (xG (FY G) hc.2.2.1 (len*te.size));have hne:¬(len*te.size=0):=by omega
    have hng:¬(len*te.size>16777216):=by omega
    obtain⟨u,w',H,hr,r⟩:=fin E cs h5 hc.2.2.2;refine⟨u,w',H,?_,r⟩;rw[<-hr];simp[Instr.buildSlice,run_underlying eN,eV nh,hne,hng,Cr,h4]
   ·split at hv
    ·rename_i hc;injection hv with hv;subst hv
     obtain⟨rfl,rfl⟩:=hc
     have hps:ps.toList=[]:=by
      have:=h1.symm;simpa using this
     obtain⟨u,w',H,hr,r⟩:=fin #[] [] aO.nil (Nat.zero_le _);refine⟨u,w',H,?_,r⟩;rw[<-hr];simp[Instr.buildSlice,run_underlying eN,eV nh,hps,Instr.fill];rw[show Array.range 0= #[]from Array.eq_empty_of_size_eq_zero (by simp),Array.map_empty]
    ·cases hv
  ·cases hv
 ·cases hv
def iW (tab:bV) (t:TypeId) (x:MV):Option MV:=
 match(tab t).map cn.under,x with
 | some .string,.str l=>some (.v (.int .i64 l.length))
 | some (.slice _),.sl n _ _=>some (.v (.int .i64 n))
 | some (.slice _),.bm _ _ n _=>some (.v (.int .i64 n))
 | some (.map _ _),.v (.map none)=>some (.v (.int .i64 0))
 | some (.array n _),_=>some (.v (.int .i64 n))
 | _,_=>none
theorem XP (ht:aM P tab) {t ty:TypeId} (hv:iW tab t m=some m') (hx:VR G m u):aW P (Builtin.len_ #[t] ty #[u]) G m':=by
 unfold iW at hv
 have un:∀d,(tab t).map cn.under=some d->P.underlying t=some d:=fun d hd=>by
  obtain⟨i,hi,hu⟩:=Option.map_eq_some_iff.1 hd;rw[<-hu];exact(ht t i hi).under
 split at hv
 ·injection hv with hv;subst hv
  cases hx;exact aW.of (u:=.int .i64 _) (fun w _=>by simp[Builtin.len_,run_underlying (un _ ‹_›),goInt];rfl) (.v rfl)
 ·injection hv with hv;subst hv
  cases hx<;>exact aW.of (u:=.int .i64 _) (fun w _=>by simp[Builtin.len_,run_underlying (un _ ‹_›),goInt];try rfl) (.v rfl)
 ·injection hv with hv;subst hv
  cases hx;exact aW.of (u:=.int .i64 _) (fun w _=>by simp[Builtin.len_,run_underlying (un _ ‹_›),goInt];try rfl) (.v rfl)
 ·injection hv with hv;subst hv
  cases hx;exact aW.of (u:=.int .i64 _) (fun w _=>by simp[Builtin.len_,run_underlying (un _ ‹_›),goInt];try rfl) (.v rfl)
 ·injection hv with hv;subst hv
  exact aW.of (u:=.int .i64 _) (fun w _=>by simp[Builtin.len_,run_underlying (un _ ‹_›),goInt];try rfl) (.v rfl)
 ·cases hv
def o_ (tab:bV) (O:VH) (t:TypeId) (x:MV):Option MV:=
 match(tab t).map cn.under,x with
 | some (.map _ _),.map k=>match O.hp k with
   | some (.map es _)=>some (.v (.int .i64 es.length))
   | _=>none
 | _,_=>none
theorem KC (ht:aM P tab) (h:WR G O w) {t ty:TypeId} (hv:o_ tab O t m=some m') (hx:VR G m u):gP P (Builtin.len_ #[t] ty #[u]) w G O m':=by
 unfold o_ at hv
 have un:∀d,(tab t).map cn.under=some d->P.underlying t=some d:=fun d hd=>by
  obtain⟨i,hi,hu⟩:=Option.map_eq_some_iff.1 hd;rw[<-hu];exact(ht t i hi).under
 split at hv
 ·split at hv
  ·rename_i k es ck hk;injection hv with hv;subst hv
   cases hx with
   | map h1=>
     obtain⟨b,E,e1,e2,e3,_⟩:=h.map _ _ _ hk;rw[h1]at e1;injection e1 with e1;subst e1
     have hl:E.size=es.length:=by
      have:=congrArg List.length e3;simpa using this
     refine gP.of h (u:=.int .i64 es.length) ?_ (.v rfl);simp[Builtin.len_,run_underlying (un _ ‹_›),goInt,getObj,Sem.run,e2,hl]
  ·cases hv
 ·cases hv
def AJ (x y:MV):Option MV:=
 match x,y with
 | .v (.int k a),.v (.int _ b)=>some (.v (.int k (if b>a then b else a)))
 | _,_=>none
def AK (x y:MV):Option MV:=
 match x,y with
 | .v (.int k a),.v (.int _ b)=>some (.v (.int k (if b<a then b else a)))
 | _,_=>none
theorem TP (hv:AJ m m'=some m2) (hx:VR G m u) (hy:VR G m' v) {ts:Array TypeId} {ty:TypeId}:aW P (Builtin.max_ ts ty #[u,v]) G m2:=by
 unfold AJ at hv;split at hv
 ·injection hv with hv;subst hv;cases hx;cases hy
  exact aW.of (u:=.int _ _) (fun w _=>by simp[Builtin.max_,Builtin.max2]) (.v rfl)
 ·cases hv
theorem TR (hv:AK m m'=some m2) (hx:VR G m u) (hy:VR G m' v) {ts:Array TypeId} {ty:TypeId}:aW P (Builtin.min_ ts ty #[u,v]) G m2:=by
 unfold AK at hv;split at hv
 ·injection hv with hv;subst hv;cases hx;cases hy
  exact aW.of (u:=.int _ _) (fun w _=>by simp[Builtin.min_,Builtin.min2]) (.v rfl)
 ·cases hv
def vU (op:UnOp) (x:MV):Option MV:=
 match op,x with
 | .neg,.v (.int k a)=>some (.v (.int k (k.wrap (0 - a))))
 | .not,.v (.bool b)=>some (.v (.bool !b))
 | _,_=>none
theorem Pg {op:UnOp} (hv:vU op m=some m') (hx:VR G m u):aW P (Op.unary op u) G m':=by
 unfold vU at hv;split at hv
 ·injection hv with hv;subst hv;cases hx
  exact aW.of (u:=.int _ _) (fun w _=>by simp[Op.unary,Op.intArith]) (.v rfl)
 ·injection hv with hv;subst hv;cases hx
  exact aW.of (u:=.bool _) (fun w _=>by simp[Op.unary]) (.v rfl)
 ·cases hv
end
section
variable {G H:Gh} {n:Sz} {D:List Deferred} {e:Env} {a:Act} {P:Program} {tab:bV} {O O':VH} {w:World} {m m':MV} {u v:Value}
def cW (d:Nat):Option MV->Option Nat
 | none=>some d
 | some (.v (.int _ i))=>if 0<=i then some i.toNat else none
 | _=>none
theorem mH {d k:Nat} {x:MV} (h:cW d (some x)=some k) (hx:VR G x u):∃kk,u= .int kk (k:Int):=by
 unfold cW at h;split at h
 ·rename_i hh;cases hh
 ·rename_i kk i hh;injection hh with hh;subst hh
  cases hx;split at h
  ·injection h with h;exact⟨kk,by rw[<-h];congr 1;omega⟩
  ·cases h
 ·cases h
def Iz (G:Gh):Option MV->Option Value->Prop
 | none,none=>True
 | some m,some u=>VR G m u
 | _,_=>False
theorem uh (isS:Bool) (len cap lo hi:Nat) {l h:Option MV} {lv hv:Option Value} (hl:cW 0 l=some lo) (hh:cW len h=some hi) (rl:Iz G l lv) (rh:Iz G h hv) (h1:lo<=hi) (h2:hi<=cap):
  ∀w,(Instr.sliceBounds isS len cap lv hv none).run P w= .ok (lo,hi,cap) w:=by
 intro w;cases l<;>cases lv<;>simp only[Iz]at rl<;>cases h<;>cases hv<;>simp only[Iz]at rh
 ·simp only[cW,Option.some.injEq]at hl hh;subst hl;subst hh;simp[Instr.sliceBounds]
 ·obtain⟨k,rfl⟩:=mH hh rh;simp only[cW,Option.some.injEq]at hl;subst hl
  have:=run_sliceBound (P:=P) w k (hi:Int) cap (if isS then .sliceAcap else .sliceAlen) (by omega) (by omega);simp[Instr.sliceBounds,this]
 ·obtain⟨k,rfl⟩:=mH hl rl;simp only[cW,Option.some.injEq]at hh;subst hh
  have:=run_sliceBound (P:=P) w k (lo:Int) len .sliceB (by omega) (by omega);simp[Instr.sliceBounds,this]
 ·obtain⟨k,rfl⟩:=mH hl rl;obtain⟨k',rfl⟩:=mH hh rh;have h3:=run_sliceBound (P:=P) w k (lo:Int) hi .sliceB (by omega) (by omega);have h4:=run_sliceBound (P:=P) w k' (hi:Int) cap (if isS then .sliceAcap else .sliceAlen) (by omega) (by omega);simp[Instr.sliceBounds,h3,h4]
def oO (t:Tok) (sz:Nat) (whole:Bool):Tok:=if whole then(match t with
 | .full=>.full
 | .own t k=>if k=sz then .own t k else .au
 | _=>.au)else .au
def vV (tab:bV) (t:TypeId) (x:MV) (l h:Option MV):Option MV:=
 match(tab t).map cn.under,x with
 | some .string,.str s=>match cW 0 l,cW s.length h with
   | some lo,some hi=>if lo<=hi/\hi<=s.length then some (.str ((s.drop lo).take (hi - lo)))else none
   | _,_=>none
 | some (.slice el),.sl n cells tk=>match tab el,cW 0 l,cW n h with
   | some te,some lo,some hi=>
     if lo=0/\hi=n then some (.sl n cells tk)
     else if lo<=hi/\hi<=n/\cells.length=n*te.size then some (.sl (hi - lo) ((cells.drop (lo*te.size)).take ((hi - lo)*te.size)) (oO tk te.size (hi==n)))else none
   | _,_,_=>none
 | some (.slice el),.bm k o n c=>match tab el,cW 0 l,cW n h with
   | some te,some lo,some hi=>if lo<=hi/\hi<=c then some (.bm k (if c=lo then o else o+lo*te.size) (hi - lo) (c - lo))else none
   | _,_,_=>none
 | _,_=>none
theorem bA (ht:aM P tab) {t:TypeId} {d:TypeDesc} (h:(tab t).map cn.under=some d):P.underlying t=some d:=by
 obtain⟨i,hi,hu⟩:=Option.map_eq_some_iff.1 h;rw[<-hu];exact(ht t i hi).under
theorem Ph (ht:aM P tab) {t:TypeId} {l hh:Option MV} {lv Pj:Option Value} (hv:vV tab t m l hh=some m') (hx:VR G m u) (rl:Iz G l lv) (rh:Iz G hh Pj):
  aW P (Instr.sliceAt t u lv Pj none) G m':=by
 unfold vV at hv;split at hv
 ·rename_i s hu;have eN:=bA ht hu;split at hv
  ·rename_i lo hi h1 h2;split at hv
   ·rename_i hc;injection hv with hv;subst hv
    cases hx;refine aW.of (u:=.string ⟨⟨(s.drop lo).take (hi - lo)⟩⟩) (fun w _=>?_) .str;have hb:=uh (P:=P) false s.length s.length lo hi h1 h2 rl rh hc.1 hc.2;have hs:(⟨⟨s⟩⟩:ByteArray).size=s.length:=rfl;simp only[Instr.sliceAt,Instr.slice,Sem.run_bind,run_underlying eN,Result.andThen_ok,hs,hb,Option.isSome_none,Bool.false_eq_true,if_false,Sem.run_pure];have:(⟨⟨s⟩⟩:ByteArray).extract lo hi=⟨⟨(s.drop lo).take (hi - lo)⟩⟩:=ByteArray.ext (by simp[ByteArray.data_extract]);rw[this]
   ·cases hv
  ·cases hv
 ·rename_i el n' cells tk hu;have eN:=bA ht hu;split at hv
  ·rename_i te lo hi he h1 h2
   have run:∀(A:Option Addr) (c:Nat),lo<=hi->hi<=c->∀w,(Instr.sliceAt t (.slice A n' c) lv Pj none).run P w= .ok (.slice (if c=lo then A else A.map (·.add (lo*te.size))) (hi - lo) (c - lo)) w:=fun A c h3 h4 w=>by
    have hb:=uh (P:=P) true n' c lo hi h1 h2 rl rh h3 h4;simp only[Instr.sliceAt,Instr.slice,Sem.run_bind,run_underlying eN,Result.andThen_ok,hb,eV (ht _ te he),Sem.run_pure]
   split at hv
   ·rename_i hc;injection hv with hv;subst hv
    obtain⟨rfl,rfl⟩:=hc
    have fin:∀(A:Option Addr) (c:Nat),hi<=c->VR G (.sl hi cells tk) (.slice A hi c)->aW P (Instr.sliceAt t (.slice A hi c) lv Pj none) G (.sl hi cells tk):=fun A c hc XQ=>by
     refine aW.of (fun w _=>run A c (Nat.zero_le _) hc w) ?_
     have:(if c=0 then A else A.map (·.add (0*te.size)))=A:=by
      split
      ·rfl
      ·cases A<;>simp[Addr.add]
     rw[this];simpa using XQ
    cases hx with
    | slnil=>exact fin _ _ (Nat.le_refl _) .slnil
    | n9 h3=>exact fin _ _ (Nat.zero_le _) (.n9 h3)
    | j7=>exact fin _ _ (Nat.le_refl _) .j7
    | sl h3 h4 h5 h6 h7 h8=>exact fin _ _ h6 (.sl h3 h4 h5 h6 h7 h8)
   ·split at hv
    ·rename_i hne hc;injection hv with hv;subst hv
     cases hx with
     | slnil=>exact absurd ⟨by omega,by omega⟩ hne
     | n9 h3=>exact absurd ⟨by omega,by omega⟩ hne
     | j7=>exact absurd ⟨by omega,by omega⟩ hne
     | sl h3 h4 h5 h6 h7 h8=>
       rename_i us c b o;refine aW.of (fun w _=>run _ c hc.1 (by omega) w) ?_;have iX:((us.drop (lo*te.size)).take ((hi - lo)*te.size)).length=((cells.drop (lo*te.size)).take ((hi - lo)*te.size)).length:=by simp[h3]
       have ahw:∀(i:Nat) (c:MV) (u:Value),((cells.drop (lo*te.size)).take ((hi - lo)*te.size))[i]?=some c->((us.drop (lo*te.size)).take ((hi - lo)*te.size))[i]?=some u->VR G c u:=fun i c u ha hb=>by
        rw[List.getElem?_take]at ha hb;split at ha
        ·rw[if_pos ‹_›]at hb;rw[List.getElem?_drop]at ha hb;exact h5 _ c u ha hb
        ·cases ha
       by_cases gN:c=lo
       ·subst gN;obtain rfl:hi=c:=by omega
        rw[if_pos rfl];simp only[Nat.sub_self,Nat.zero_mul,List.take_zero];refine .sl (us:=[]) rfl (fun i u hu=>by simp at hu) (fun i c u hu=>by simp at hu) (Nat.le_refl _) (Nat.zero_le _) ?_;unfold oO;split
        ·cases tk with
         | nil=>exact h8.elim
         | full=>rfl
         | own t k=>
           simp only;split
           ·exact .inl rfl
           ·trivial
         | au=>trivial
        ·trivial
       ·rw[if_neg gN];simp only[Option.map_some,Addr.add_lit];refine .sl iX (fun i u hu=>?_) ahw (by omega) (by omega) ?_
        ·rw[List.getElem?_take]at hu;split at hu
         ·rw[List.getElem?_drop]at hu;rw[Nat.add_assoc];exact h4 _ u hu
         ·cases hu
        ·unfold oO;split
         ·rename_i hw;have hw:hi=n':=by simpa using hw
          subst hw;have hmul:(hi - lo)*te.size=cells.length - lo*te.size:=by rw[hc.2.2,Nat.sub_mul]
          have qL:((cells.drop (lo*te.size)).take ((hi - lo)*te.size)).length=(hi - lo)*te.size:=by simp;omega
          have hle:lo*te.size<=hi*te.size:=Nat.mul_le_mul_right _ hc.1;cases tk with
          | nil=>exact h8.elim
          | full=>show c - lo=hi - lo;have:c=hi:=h8;omega
          | own t k=>
            simp only;split
            ·rename_i hk;subst hk;rcases h8 with h8 | ⟨r,h9,xH,h11⟩
             ·exact .inl (by omega)
             ·refine .inr ⟨r,?_,qL,by omega⟩;rw[h9,qL];congr 2;congr 1
              omega
            ·trivial
          | au=>trivial
         ·trivial
    ·cases hv
  ·cases hv
 ·rename_i el k o n' c hu;have eN:=bA ht hu;split at hv
  ·rename_i te lo hi he h1 h2;split at hv
   ·rename_i hc;injection hv with hv;subst hv
    cases hx with
    | bm h3 h4 h5=>
      rename_i b;have hb:=uh (P:=P) true n' c lo hi h1 h2 rl rh hc.1 (by omega);refine aW.of (u:=.slice (if c=lo then some ⟨b,o,none⟩else(some (⟨b,o,none⟩:Addr)).map (·.add (lo*te.size))) (hi - lo) (c - lo)) (fun w _=>?_) ?_
      ·simp only[Instr.sliceAt,Instr.slice,Sem.run_bind,run_underlying eN,Result.andThen_ok,hb,eV (ht _ te he),Sem.run_pure]
      ·split
       ·exact .bm h3 (by omega) (by omega)
       ·simp only[Option.map_some,Addr.add_lit];exact .bm h3 (by omega) (by omega)
   ·cases hv
  ·cases hv
 ·cases hv
def XS:Tok->Tok
 | .nil=>.nil
 | _=>.au
def ru (tab:bV) (t:TypeId) (x:MV) (l:Option MV) (h mx:MV):Option MV:=
 match(tab t).map cn.under,h,mx with
 | some (.slice el),.v (.int _ hi),.v (.int _ m)=>match tab el,cW 0 l with
   | some te,some lo=>if 0<=hi/\0<=m/\lo<=hi.toNat/\hi.toNat<=m.toNat then(match x with
     | .bm k o _ c=>if m.toNat<=c then some (.bm k (if m.toNat=lo then o else o+lo*te.size) (hi.toNat - lo) (m.toNat - lo))else none
     | .sl n cells tk=>if m.toNat<=n/\cells.length=n*te.size then(if n=0 then some (.sl 0 [] (XS tk))else if m.toNat=lo then some (.sl 0 [] .full)else some (.sl (hi.toNat - lo) ((cells.drop (lo*te.size)).take ((hi.toNat - lo)*te.size)) (if m.toNat=hi.toNat then .full else .au)))else none
     | _=>none)else none
   | _,_=>none
 | _,_,_=>none
theorem KD (ht:aM P tab) {t:TypeId} {l:Option MV} {hh mx:MV} {lv:Option Value} {Pj mv:Value} (hv:ru tab t m l hh mx=some m') (hx:VR G m u) (rl:Iz G l lv) (rh:VR G hh Pj) (rm:VR G mx mv):
  aW P (Instr.sliceAt t u lv (some Pj) (some mv)) G m':=by
 unfold ru at hv;split at hv
 ·rename_i el k1 hi k2 mi hu;have eN:=bA ht hu;cases rh;cases rm
  split at hv
  ·rename_i te lo he h1;split at hv
   ·rename_i hc;obtain⟨c1,c2,c3,c4⟩:=hc
    have tR:lv=none/\lo=0\/∃kk,lv=some (.int kk (lo:Int)):=by
     cases l<;>cases lv<;>simp only[Iz]at rl
     ·simp only[cW,Option.some.injEq]at h1;exact .inl ⟨rfl,h1.symm⟩
     ·obtain⟨kk,rfl⟩:=mH h1 rl;exact .inr ⟨kk,rfl⟩
    have run:∀(A:Option Addr) (n' c:Nat),mi.toNat<=c->∀w,(Instr.sliceAt t (.slice A n' c) lv (some (.int k1 hi)) (some (.int k2 mi))).run P w= .ok (.slice (if mi.toNat=lo then A else A.map (·.add (lo*te.size))) (hi.toNat - lo) (mi.toNat - lo)) w:=fun A n' c h3 w=>by
     have e1:=run_sliceBound (P:=P) w k2 mi c .slice3Acap c2 (by omega);have e2:=run_sliceBound (P:=P) w k1 hi mi.toNat .slice3B c1 (by omega)
     have hb:(Instr.sliceBounds true n' c lv (some (.int k1 hi)) (some (.int k2 mi))).run P w= .ok (lo,hi.toNat,mi.toNat) w:=by
      rcases tR with⟨rfl,rfl⟩ | ⟨kk,rfl⟩
      ·simp[Instr.sliceBounds,e1,e2]
      ·have e3:=run_sliceBound (P:=P) w kk (lo:Int) hi.toNat .slice3C (by omega) (by omega);simp[Instr.sliceBounds,e1,e2,e3]
     simp only[Instr.sliceAt,Instr.slice,Sem.run_bind,run_underlying eN,Result.andThen_ok,hb,eV (ht _ te he),Sem.run_pure]
    split at hv
    ·rename_i k o n' c;split at hv
     ·rename_i TT;injection hv with hv;subst hv
      cases hx with
      | bm h3 h4 h5=>
        rename_i b;refine aW.of (fun w _=>run _ n' c TT w) ?_;split
        ·exact .bm h3 (by omega) (by omega)
        ·simp only[Option.map_some,Addr.add_lit];exact .bm h3 (by omega) (by omega)
     ·cases hv
    ·rename_i n' cells tk;split at hv
     ·rename_i TT;split at hv
      ·rename_i hn;subst hn;injection hv with hv;subst hv
       have e0:mi.toNat=0:=by omega
       have e1:hi.toNat=0:=by omega
       have e2:lo=0:=by omega
       have fin:∀A c,VR G (.sl 0 [] (XS tk)) (.slice A 0 0)->aW P (Instr.sliceAt t (.slice A 0 c) lv (some (.int k1 hi)) (some (.int k2 mi))) G (.sl 0 [] (XS tk)):=fun A c hr=>by
        refine aW.of (u:=.slice A 0 0) (fun w _=>?_) hr;rw[run A 0 c (by omega) w,e0,e1,e2];simp
       cases hx with
       | slnil=>exact fin _ _ .slnil
       | n9 h3=>exact fin _ _ (.n9 (Nat.zero_le _))
       | j7=>exact fin _ _ .j7
       | sl h3 h4 h5 h6 h7 h8=>
         cases tk with
         | nil=>exact h8.elim
         | _=>exact fin _ _ (.n9 (Nat.zero_le _))
      ·rename_i hn;split at hv
       ·rename_i AL;injection hv with hv;subst hv
        cases hx with
        | slnil=>exact absurd rfl hn
        | n9 h3=>exact absurd rfl hn
        | j7=>exact absurd rfl hn
        | sl h3 h4 h5 h6 h7 h8=>
          refine aW.of (fun w _=>run _ n' _ (by omega) w) ?_;rw[if_pos AL,show hi.toNat - lo=0 by omega,show mi.toNat - lo=0 by omega];exact .sl (us:=[]) rfl (fun i u h=>by simp at h) (fun i c u h=>by simp at h) (Nat.le_refl _) (Nat.zero_le _) rfl
       ·rename_i AL;injection hv with hv;subst hv
        cases hx with
        | slnil=>exact absurd rfl hn
        | n9 h3=>exact absurd rfl hn
        | j7=>exact absurd rfl hn
        | sl h3 h4 h5 h6 h7 h8=>
          rename_i us c b o;refine aW.of (fun w _=>run _ n' c (by omega) w) ?_;rw[if_neg AL];simp only[Option.map_some,Addr.add_lit];refine .sl (us:=(us.drop (lo*te.size)).take ((hi.toNat - lo)*te.size)) (by simp[h3]) (fun i u hu=>?_) (fun i c u ha hb=>?_) (by omega) (by omega) ?_
          ·rw[List.getElem?_take]at hu;split at hu
           ·rw[List.getElem?_drop]at hu;rw[Nat.add_assoc];exact h4 _ u hu
           ·cases hu
          ·rw[List.getElem?_take]at ha hb;split at ha
           ·rw[if_pos ‹_›]at hb;rw[List.getElem?_drop]at ha hb;exact h5 _ c u ha hb
           ·cases ha
          ·split
           ·rename_i e;show mi.toNat - lo=hi.toNat - lo;rw[e]
           ·trivial
     ·cases hv
    ·cases hv
   ·cases hv
  ·cases hv
 ·cases hv
def ma (tab:bV) (O:VH) (t:TypeId) (l c:MV):Option (MV×VH):=
 match(tab t).map cn.under,l,c with
 | some (.slice el),.v (.int _ i),.v (.int _ j)=>match tab el with
   | some te=>if 0<=i/\i<=j/\j<=9223372036854775807/\te.bytes*j<=281474976710656/\0<te.zero.length then some (.bm O.next 0 i.toNat j.toNat,O.push (.cells (ig te.zero (j.toNat*te.size))))else none
   | none=>none
 | _,_,_=>none
theorem Dt (ht:aM P tab) (h:WR G O w) {t:TypeId} {l c:MV} {lv cv:Value} (hv:ma tab O t l c=some (m,O')) (hl:VR G l lv) (hc:VR G c cv):gP P (Instr.makeSlice t lv cv) w G O' m:=by
 unfold ma at hv;split at hv
 ·rename_i el k i k' j hu;cases hl;cases hc
  have eN:=bA ht hu;split at hv
  ·rename_i te he;split at hv
   ·rename_i hb;injection hv with hv;simp only[Prod.mk.injEq]at hv;obtain⟨rfl,rfl⟩:=hv;have nh:=ht _ te he;obtain⟨ti,z,h1,h2,h3,h4,h5,h6⟩:=nh.info;have hr:=run_make (P:=P) w t el ti z eN h1 h4 k k' i j hb.1 hb.2.1 (by rw[h3];exact hb.2.2.2.1) hb.2.2.1;rw[h2]at hr;have hz:=xG (h6 G) hb.2.2.2.2 (j.toNat*te.size);obtain⟨h7,h8⟩:=h.push el hz;exact⟨_,_,_,hr,h7,h8,.bm (aE _ _ _) (by omega) (by simp only[maxLen];omega),jx.alloc h _⟩
   ·cases hv
  ·cases hv
 ·cases hv
def ij (tab:bV) (O:VH) (t:TypeId) (x y:MV):Option (MV×VH):=
 match(tab t).map cn.under,y with
 | some (.slice el),.sl k ds _=>match tab el,x with
   | some te,.sl n cells tk=>
     if ds.length=k*te.size/\ds.all dE=true/\0<te.size then
      if k=0 then some (.sl n cells tk,O)
      else if cells.length=n*te.size/\(n+k)*te.bytes<=140737488355328/\n+k<=maxLen then
       match tk with
       | .nil=>some (.sl (n+k) (cells++ds) (.own O.next te.size),O.push .tok)
       | .full=>some (.sl (n+k) (cells++ds) (.own O.next te.size),O.push .tok)
       | .own s k'=>if k'=te.size then match O.hp s with
         | some .tok=>some (.sl (n+k) (cells++ds) (.own O.next te.size),(O.kill s).push .tok)
         | _=>none
         else none
       | .au=>none
      else none
     else none
   | _,_=>none
 | _,_=>none
theorem TU (h:WR G O w) {cs:List MV} {us:List Value} {N k r:Nat} {R:Array Value} {el:TypeId} (hc:aO G cs us) (hl:cs.length=N*k) (hR:R.size=r*k) (hm:N+r<=maxLen):
  ∃K,G.Le K/\WR K (O.push .tok) (w.alloc (.cells (us.toArray++R) el))/\VR K (.sl N cs (.own O.next k)) (.slice (some ⟨w.heap.size,0,none⟩) N (N+r)):=by
 have hg:=h.grow (.cells (us.toArray++R) el);have xI:us.length=N*k:=by rw[hc.1,hl]
 have kx:∀o u,(if o<N*k then us[o]? else none)=some u->(w.alloc (.cells (us.toArray++R) el)).cell? ⟨w.heap.size,o,none⟩=some u:=fun o u ho=>by
  rw[GS];split at ho
  ·rw[Array.getElem?_append_left (by simp;omega)];simpa using ho
  ·cases ho
 obtain⟨h1,h2⟩:=hg.CU (b:=w.heap.size) (f:=fun o=>if o<N*k then us[o]? else none) (fun o u hc=>by rw[h.vM]at hc;cases hc) kx (fun k _=>h.sd k)
  fun t c x ht hx e=>absurd e (h.oN ht hx)
 have hb:(w.alloc (.cells (us.toArray++R) el)).heap[w.heap.size]?=some (.cells (us.toArray++R) el (0,0)):=by rw[eU,if_pos rfl]
 obtain⟨h3,h4⟩:=h2.R1 (b:=w.heap.size) (f:=N*k) (k:=k) (r:=r) (C:=us.toArray++R) (T:=el) h.XG hb (by simp[xI,hR])
  (fun o ho=>by
   show(if w.heap.size=w.heap.size then(if o<N*k then us[o]? else none)else _)=none;rw[if_pos rfl,if_neg (by omega)])
  h.sd (fun t c x ht hx=>h.oN ht hx)
 refine⟨_,h1.trans h3,h4,?_⟩;refine .sl (us:=us) hc.1 (fun i u hu=>?_) (fun i c u a b=>(hc.2 i c u a b).mono (h1.trans h3)) (by omega) hm ?_
 ·show(if w.heap.size=w.heap.size then(if 0+i<N*k then us[0+i]? else none)else _)=some u;have:=(List.getElem?_eq_some_iff.1 hu).1;rw[if_pos rfl,Nat.zero_add,if_pos (by omega)];exact hu
 ·refine .inr ⟨r,?_,hl,rfl⟩;show bn _ _ _ _=_;rw[aE,Nat.zero_add,hl]
theorem WR.setRow (h:WR G O w) {b:Nat} {C C':Array Value} {T:TypeId} (hB:G.B<=b) (hb:w.heap[b]?=some (.cells C T (0,0))) (ee:∀j,G.bJ j≠some b) (uf:∀t c x,O.hp t=some .tok->G.tok t=some (c,x)->c≠b)
  (KA:∀o u,G.d_ b o=some u->C'[o]?=some u):WR G O (w.setRow b C'):=by
 have xz:=setRow_heap w b C C' T (0,0) hb;have ef:∀j,j≠b->(w.setRow b C').heap[j]?=w.heap[j]?:=fun j hj=>setRow_other w b j C' hj
 have oc:(w.setRow b C').heap.size=w.heap.size:=by simp[World.setRow]
 refine⟨⟨h.base.os,h.base.tape,h.base.output,by rw[oc];exact h.base.size,fun j hj=>by rw[ef j (by have:j<G.B:=hj;omega)];exact h.base.block j hj⟩,fun b' o u hc=>?_,h.o8,fun k c hk=>?_,h.inj,fun k cs hk=>?_,fun k es ck hk=>?_,fun t ht=>?_,h.k9,h.n_ id (fun _ _ _ _ h=>h) fun k b' s hk hs=>ie (fun x hx=>by rw[ef _ (fun e=>ee k (e▸hk))];exact hx) hs,h.qJ id (fun _ _ h=>h) fun k x b' hk hb hx=>by rw[ef b' (fun e=>ee k (e▸hb))];exact hx,h.qf,h.AG⟩
 ·by_cases e:b'=b
  ·subst e;rw[cell_setRow_same w b' o C C' T (0,0) hb];exact KA o u hc
  ·rw[cell_setRow_other w b C' _ e];exact h.d_ b' o u hc
 ·obtain⟨h1,h2,h3⟩:=h.jX k c hk;exact⟨h1,by rw[oc];exact h2,h3⟩
 ·obtain⟨c,D,T',h1,h2,h3⟩:=h.cells k cs hk;exact⟨c,D,T',h1,by rw[ef c (fun e=>ee k (e▸h1))];exact h2,h3⟩
 ·obtain⟨c,E,h1,h2,h3⟩:=h.map k es ck hk;exact⟨c,E,h1,by rw[ef c (fun e=>ee k (e▸h1))];exact h2,h3⟩
 ·obtain⟨c,f,k,r,D,T',h1,h2,h3,h4⟩:=h.tok t ht;exact⟨c,f,k,r,D,T',h1,h2,by rw[ef c (uf t c _ ht h1)];exact h3,h4⟩
theorem Du (h:WR G O w) {k sz:Nat} {ds:List MV} {tk:Tok} (hy:VR G (.sl k ds tk) v) (hl:ds.length=k*sz) (hk:k≠0):
  ∃ad c us,v= .slice (some ad) k c/\aO G ds us/\us.length=k*sz/\∀j u,us[j]?=some u->w.cell? (ad.add j)=some u:=by
 cases hy with
 | slnil=>exact absurd rfl hk
 | n9 h1=>exact absurd rfl hk
 | j7=>exact absurd rfl hk
 | sl h1 h2 h3 h4 h5 h6=>exact⟨_,_,_,rfl,⟨h1,h3⟩,by rw[h1,hl],fun j u hu=>by rw[Addr.add_lit];exact h.d_ _ _ _ (h2 j u hu)⟩
theorem KE (z:Array Value) (n:Nat):(Builtin.zeroCells z n).size=n*z.size:=by simp[Builtin.zeroCells]
theorem IA (h:WR G O w) {t ty el:TypeId} {te:cn} (ht:P.underlying t=some (.slice el)) (nh:wW P el te) {n:Nat} {cells ds:List MV} {tk tk':Tok} (hx:VR G (.sl n cells tk) u) (hy:VR G (.sl 0 ds tk') v):
  (Builtin.append_ #[t,t] ty #[u,v]).run P w= .ok u w:=by
 obtain⟨ti,Pk,_⟩:=R3 nh w
 have run:∀(A B:Option Addr) (k c c':Nat),k<=c->(A=none->k=0)->(Builtin.append_ #[t,t] ty #[.slice A k c,.slice B 0 c']).run P w= .ok (.slice A k c) w:=fun A B k c c' hc hA=>by
  have hf:(Builtin.firstCells te.size 0 (.slice B 0 c')).run P w= .ok #[] w:=by
   cases B with
   | none=>simp[Builtin.firstCells]
   | some b=>simp[Builtin.firstCells,loadCells,loadCellsFrom]
  have hn:¬(c<k):=by omega
  cases A with
  | none=>simp[Builtin.append_,run_underlying ht,eV nh,Builtin.lenOf,hf,hc]
  | some a=>simp[Builtin.append_,run_underlying ht,eV nh,Builtin.lenOf,hf,hc,storeCells]
 have hu:∃A c,u= .slice A n c/\n<=c/\(A=none->n=0):=by
  cases hx with
  | slnil=>exact⟨_,_,rfl,Nat.le_refl _,fun _=>rfl⟩
  | n9 h1=>exact⟨_,_,rfl,Nat.zero_le _,fun _=>rfl⟩
  | j7=>exact⟨_,_,rfl,Nat.le_refl _,fun _=>rfl⟩
  | sl h1 h2 h3 h4 h5 h6=>exact⟨_,_,rfl,h4,fun h=>by cases h⟩
 have hv:∃B c',v= .slice B 0 c':=by
  cases hy with
  | slnil=>exact⟨_,_,rfl⟩
  | n9 h1=>exact⟨_,_,rfl⟩
  | j7=>exact⟨_,_,rfl⟩
  | sl h1 h2 h3 h4 h5 h6=>exact⟨_,_,rfl⟩
 obtain⟨A,c,rfl,h1,h2⟩:=hu;obtain⟨B,c',rfl⟩:=hv;exact run A B n c c' h1 h2
theorem yS (h:WR G O w) {t ty el:TypeId} {te:cn} (ht:P.underlying t=some (.slice el)) (nh:wW P el te) {n k c:Nat} {cells ds:List MV} {tk':Tok} {A:Option Addr} {us:List Value}
  (hA:A=none->n=0/\c=0) (iX:aO G cells us) (xI:us.length=n*te.size) (kx:∀ad,A=some ad->∀j u,us[j]?=some u->w.cell? (ad.add j)=some u) (hy:VR G (.sl k ds tk') v) (hl:ds.length=k*te.size) (hk:k≠0)
  (hc:c<n+k) (hb:(n+k)*te.bytes<=140737488355328) (hm:n+k<=maxLen):
  gP P (Builtin.append_ #[t,t] ty #[.slice A n c,v]) w G (O.push .tok) (.sl (n+k) (cells++ds) (.own O.next te.size)):=by
 obtain⟨ti,z,h1,h2,h3,h4,h5,h6⟩:=nh.info;obtain⟨ad,c',vs,rfl,nS,jy,hvc⟩:=Du h hy hl hk;have ajT:n+k<=9223372036854775807:=by simp only[maxLen]at hm;omega
 have ik:=grownCap_ge w (n+k) c el;have hle:=grownCap_le_maxLen w (n+k) c el hm;have gN:(cells++ds).length=(n+k)*te.size:=by rw[List.length_append, <-iX.1,xI,hl,Nat.add_mul]
 obtain⟨K,g1,g2,g3⟩:=TU (r:=grownCap w (n+k) c el - (n+k)) (R:=Builtin.zeroCells z.cells (grownCap w (n+k) c el - (n+k))) (el:=el) h.drew (iX.append nS) gN (by rw[KE,h5]) (by omega);rw[show n+k+(grownCap w (n+k) c el - (n+k))=grownCap w (n+k) c el from by omega]at g3;refine⟨_,_,K,?_,g1,g2,g3,jx.alloc h.drew _⟩;cases A with
 | none=>
   obtain⟨rfl,rfl⟩:=hA rfl;have:us=[]:=List.eq_nil_of_length_eq_zero (by simpa using xI);subst this;have hr:=run_append_nil (P:=P) w t ty el ti z ht h1 h4 ad k c' vs (by rw[h2,jy]) hvc (by omega) (by omega) (by rw[h3];simp only[Nat.zero_add]at hb;omega);simpa using hr
 | some a=>
   have hr:=run_append_grow (P:=P) w t ty el ti z ht h1 h4 a n c us (by rw[h2,xI]) (kx a rfl) ad k c' vs (by rw[h2,jy]) hvc hc (by omega) (by rw[h3];exact growslice_fits (by omega) hb);simpa using hr
theorem IB (h:WR G O w) {t ty el:TypeId} {te:cn} (ht:P.underlying t=some (.slice el)) (nh:wW P el te) {n k s b o r:Nat} {cells ds:List MV} {tk':Tok} {us:List Value}
  (hs:O.hp s=some .tok) (hg:G.tok s=some (b,o+cells.length,te.size,r)) (iX:aO G cells us) (xI:cells.length=n*te.size) (KA:∀i u,us[i]?=some u->G.d_ b (o+i)=some u)
  (hy:VR G (.sl k ds tk') v) (hl:ds.length=k*te.size) (hY:ds.all dE=true) (hk:k≠0) (hc:n+k<=n+r) (hm:n+r<=maxLen):
  gP P (Builtin.append_ #[t,t] ty #[.slice (some ⟨b,o,none⟩) n (n+r),v]) w G ((O.kill s).push .tok) (.sl (n+k) (cells++ds) (.own O.next te.size)):=by
 obtain⟨ti,z,i1,i2,i3,i4,i5,i6⟩:=nh.info;obtain⟨ad,c',vs,rfl,nS,jy,hvc⟩:=Du h hy hl hk;obtain⟨b',f,k',r',C,T,t1,t2,t3,t4,t5,t6⟩:=h.tok s hs;rw[hg]at t1;simp only[Option.some.injEq,Prod.mk.injEq]at t1;obtain⟨rfl,rfl,rfl,rfl⟩:=t1;have hkr:k*te.size<=r*te.size:=Nat.mul_le_mul_right _ (by omega);have ahx:=xD nS hY;have R4:=run_firstCells_some (P:=P) w te.size k ad k c' vs jy hvc;have c5:=run_storeCells_at P b (o+cells.length) T vs 0 C w t3 (by rw[Nat.add_zero,jy];omega) ahx
 have bU:(Builtin.append_ #[t,t] ty #[.slice (some ⟨b,o,none⟩) n (n+r),.slice (some ad) k c']).run P w=
   .ok (.slice (some ⟨b,o,none⟩) (n+k) (n+r)) (w.setRow b (C.toList.take (o+cells.length+0)++vs++C.toList.drop (o+cells.length+0+vs.length)).toArray):=by
  have hn:k<=r:=by omega
  rw[xI]at c5;simp only[Builtin.append_,run_underlying ht,eV nh,Builtin.lenOf,R4,Sem.run_bind,Result.andThen_ok,Sem.run_pure,List.getElem?_toArray,Addr.add_lit,c5,xI]<;>simp[run_underlying ht,eV nh,Builtin.lenOf,R4,c5,hn,xI,Addr.add_lit]
 simp only[Nat.add_zero]at bU;generalize hC':(C.toList.take (o+cells.length)++vs++C.toList.drop (o+cells.length+vs.length)).toArray=C' at bU;have hfs:o+cells.length<=C.size:=by omega
 have Pl:(C.toList.take (o+cells.length)).length=o+cells.length:=by simp;omega
 have hC1:∀i,i<o+cells.length->C'[i]?=C[i]?:=fun i hi=>by
  rw[<-hC',List.getElem?_toArray,List.append_assoc,List.getElem?_append_left (by omega),List.getElem?_take,if_pos hi];simp
 have Dv:∀i u,vs[i]?=some u->C'[o+cells.length+i]?=some u:=fun i u hu=>by
  have hi:=(List.getElem?_eq_some_iff.1 hu).1;rw[<-hC',List.getElem?_toArray,List.append_assoc,List.getElem?_append_right (by omega),Pl,Nat.add_sub_cancel_left,List.getElem?_append_left hi];exact hu
 have hC3:C'.size=C.size:=by rw[<-hC'];simp;omega
 have dN:=h.kill s
 have Dw:∀t c x,(O.kill s).hp t=some .tok->G.tok t=some (c,x)->c≠b:=fun t c x fl Pn e=>by
  subst e;have hts:t≠s:=fun e=>by subst e;rw[show(O.kill t).hp t=none from aE _ _ _]at fl;cases fl
  rw[show(O.kill s).hp t=O.hp t from ax _ _ hts]at fl;exact hts (h.k9 t s c x _ fl hs Pn hg)
 have cH:=dN.setRow (C':=C') t2 t3 t6 Dw (fun i u hu=>by
  have hi:i<o+cells.length:=by
   rcases Nat.lt_or_ge i (o+cells.length)with h' | h'
   ·exact h'
   ·rw[t5 i h']at hu;cases hu
  rw[hC1 i hi];have:=h.d_ b i u hu;simpa[World.cell?,t3]using this)
 have mz:=setRow_heap w b C C' T (0,0) t3;have acp:∀i u,C'[i]?=some u->(w.setRow b C').cell? ⟨b,i,none⟩=some u:=fun i u hu=>by rw[cell_setRow_same w b i C C' T (0,0) t3];exact hu
 obtain⟨g1,g2⟩:=cH.CU (b:=b) (f:=fun i=>if i<o+cells.length then G.d_ b i else if i<o+cells.length+vs.length then C'[i]? else none)
  (fun i u hu=>by
   have hi:i<o+cells.length:=by
    rcases Nat.lt_or_ge i (o+cells.length)with h' | h'
    ·exact h'
    ·rw[t5 i h']at hu;cases hu
   rw[if_pos hi];exact hu)
  (fun i u hu=>by
   split at hu
   ·exact cH.d_ b i u hu
   ·split at hu
    ·exact acp i u hu
    ·cases hu)
  (fun k _=>t6 k) (fun t c x fl Pn e=>absurd e (Dw t c _ fl Pn))
 have xJ:(O.kill s).next=O.next:=rfl
 obtain⟨g3,g4⟩:=g2.R1 (b:=b) (f:=o+cells.length+vs.length) (k:=te.size) (r:=r - k) (C:=C') (T:=T) t2 mz
  (by
   rw[hC3,jy];have:(r - k)*te.size=r*te.size - k*te.size:=Nat.sub_mul _ _ _;omega)
  (fun i hi=>by
   show(if b=b then(if i<o+cells.length then G.d_ b i else if i<o+cells.length+vs.length then C'[i]? else none)else _)=none;rw[if_pos rfl,if_neg (by omega),if_neg (by omega)])
  t6 (fun t c x fl Pn=>Dw t c x fl Pn)
 refine⟨_,_,_,bU,g1.trans g3,g4,?_,fun k b' Dx=>setRow_other w b b' C' (fun e=>t6 k (e▸Dx))⟩;have XT:=iX.append nS;refine .sl (us:=us++vs) XT.1 (fun i u hu=>?_) (fun i c u a b'=>(XT.2 i c u a b').mono (g1.trans g3)) (by omega) hm ?_
 ·show(if b=b then(if o+i<o+cells.length then G.d_ b (o+i)else if o+i<o+cells.length+vs.length then C'[o+i]? else none)else _)=some u;rw[if_pos rfl];rw[List.getElem?_append]at hu;split at hu
  ·rename_i hi;rw[iX.1]at hi;rw[if_pos (by omega)];exact KA i u hu
  ·rename_i hi;have jJ:=(List.getElem?_eq_some_iff.1 hu).1;rw[iX.1]at hi jJ hu;rw[if_neg (by omega),if_pos (by omega)];have:=Dv _ u hu;rw[<-this];congr 1;omega
 ·refine .inr ⟨r - k,?_,?_,by omega⟩
  ·show bn _ _ _ _=_;rw[xJ,aE];simp only[List.length_append,nS.1]
   congr 2;congr 1;omega
  ·rw[List.length_append,xI,hl,Nat.add_mul]
theorem KF (ht:aM P tab) (h:WR G O w) {t ty:TypeId} {x y:MV} (hv:ij tab O t x y=some (m,O')) (hx:VR G x u) (hy:VR G y v):gP P (Builtin.append_ #[t,t] ty #[u,v]) w G O' m:=by
 unfold ij at hv;split at hv
 ·rename_i el k ds tk' hu;have eN:=bA ht hu;split at hv
  ·rename_i te n cells tk he;have nh:=ht _ te he;split at hv
   ·rename_i hc;split at hv
    ·rename_i hk;simp only[Option.some.injEq,Prod.mk.injEq]at hv;obtain⟨rfl,rfl⟩:=hv;subst hk;exact gP.of h (IA h eN nh hx hy) hx
    ·rename_i hk;split at hv
     ·rename_i jj
      have grow:∀(A:Option Addr) (c:Nat) (us:List Value),(A=none->n=0/\c=0)->aO G cells us->(∀ad,A=some ad->∀j u,us[j]?=some u->w.cell? (ad.add j)=some u)->c<n+k->
        gP P (Builtin.append_ #[t,t] ty #[.slice A n c,v]) w G (O.push .tok) (.sl (n+k) (cells++ds) (.own O.next te.size)):=fun A c us a1 a2 a3 a4=>
       yS h eN nh a1 a2 (by rw[a2.1,jj.1]) a3 hy hc.1 hk a4 jj.2.1 jj.2.2
      split at hv
      ·simp only[Option.some.injEq,Prod.mk.injEq]at hv;obtain⟨rfl,rfl⟩:=hv;cases hx with
       | slnil=>exact grow none 0 [] (fun _=>⟨rfl,rfl⟩) aO.nil (fun _ h=>by cases h) (by omega)
       | sl h1 h2 h3 h4 h5 h6=>exact h6.elim
      ·simp only[Option.some.injEq,Prod.mk.injEq]at hv;obtain⟨rfl,rfl⟩:=hv;cases hx with
       | sl h1 h2 h3 h4 h5 h6=>
         rename_i us c b o;have h6:c=n:=h6;exact grow _ c us (fun h=>by cases h) ⟨h1,h3⟩ (fun ad e j u hj=>by injection e with e;subst e;rw[Addr.add_lit];exact h.d_ _ _ _ (h2 j u hj)) (by omega)
      ·rename_i s k';split at hv
       ·rename_i qg;subst qg;split at hv
        ·rename_i hs;simp only[Option.some.injEq,Prod.mk.injEq]at hv;obtain⟨rfl,rfl⟩:=hv;cases hx with
         | sl h1 h2 h3 h4 h5 h6=>
           rename_i us c b o
           have XU:c<n+k->gP P (Builtin.append_ #[t,t] ty #[.slice (some ⟨b,o,none⟩) n c,v]) w G ((O.kill s).push .tok) (.sl (n+k) (cells++ds) (.own O.next te.size)):=fun eb=>
            yS (O:=O.kill s) (h.kill s) eN nh (A:=some ⟨b,o,none⟩) (us:=us) (fun h=>by cases h) ⟨h1,h3⟩ (by rw[h1,jj.1]) (fun ad e j u hj=>by injection e with e;subst e;rw[Addr.add_lit];exact h.d_ _ _ _ (h2 j u hj)) hy hc.1 hk eb jj.2.1 jj.2.2
           rcases h6 with h6 | ⟨r,h7,h8,h9⟩
           ·exact XU (by omega)
           ·by_cases hr:n+k<=c
            ·subst h9;exact IB h eN nh hs h7 ⟨h1,h3⟩ jj.1 (fun i u hi=>h2 i u hi) hy hc.1 hc.2.1 hk hr h5
            ·exact XU (by omega)
        ·cases hv
       ·cases hv
      ·cases hv
     ·cases hv
   ·cases hv
  ·cases hv
 ·cases hv
end
section
variable {G H:Gh} {n:Sz} {D:List Deferred} {e:Env} {a:Act} {P:Program} {tab:bV} {O O':VH} {w:World} {m m':MV} {u v:Value}
def AM (tab:bV) (src dst:TypeId) (x:MV):Option MV:=
 match(tab src).map cn.under,(tab dst).map cn.under,x with
 | some _,some (.int k),.v (.int _ i)=>some (.v (.int k (k.wrap i)))
 | some .string,some .string,.str l=>some (.str l)
 | _,_,_=>none
theorem TV (ht:aM P tab) {src dst:TypeId} (hv:AM tab src dst m=some m') (hx:VR G m u):aW P (convert src dst u) G m':=by
 unfold AM at hv;split at hv
 ·injection hv with hv;subst hv;cases hx
  exact aW.of (u:=.int _ _) (fun w _=>by simp[convert,run_underlying (bA ht ‹(tab src).map _=_›),run_underlying (bA ht ‹(tab dst).map _=_›),Conv.intToInt]) (.v rfl)
 ·injection hv with hv;subst hv;cases hx
  exact aW.of (u:=.string _) (fun w _=>by simp[convert,run_underlying (bA ht ‹(tab src).map _=_›),run_underlying (bA ht ‹(tab dst).map _=_›)]) .str
 ·cases hv
theorem _root_.Go.Proofs.YtoclnkfdahmnhaaGreatDoor.VR.iD {x u:Value} (h:VR G (.v x) u):u=x:=by cases h;rfl
def KG (m:MV):Option MV:=
 match m with
 | .ptr _ _ | .cX _ _=>some m
 | .func (.func _) _ _=>some m
 | _=>none
def fY {α :Type} (parts:Array (Nat×Operand)) (ms:List α):List (Nat× α):=(parts.toList.map (·.1)).zip ms
def vW:MV->Option MV
 | .bm k o _ c=>if c=0 then none else some (.ptr k o)
 | .sl 0 [] .nil=>some (.v (.pointer none))
 | _=>none
theorem Po (hv:vW m=some m') (hx:VR G m u) {ts:Array TypeId} {ty:TypeId}:aW P (Builtin.unsafeSliceData_ ts ty #[u]) G m':=by
 unfold vW at hv;split at hv
 ·split at hv
  ·cases hv
  ·rename_i k o n c hc;injection hv with hv;subst hv
   cases hx with
   | bm h1 h2 h3=>exact aW.of (u:=.pointer (some _)) (fun w _=>by
     show Sem.run P (if c≠0 then pure (Value.pointer (some _))else _) w=_;rw[if_pos hc];rfl) (.ptr h1)
 ·injection hv with hv;subst hv
  cases hx with
  | slnil=>exact aW.of (u:=.pointer none) (fun w _=>rfl) (.v rfl)
  | sl h1 h2 h3 h4 h5 h6=>exact h6.elim
 ·cases hv
def ei (tab:bV) (o:Oper) (e:Env):Option MV:=
 match o.op with
 | .move x | .assign x=>ev e x
 | .pick c a b=>match ev e c with
   | some (.v (.bool t))=>if t then ev e a else ev e b
   | _=>none
 | .nilCheck x=>(ev e x).bind KG
 | .binOp op t x y _=>match ev e x,ev e y with
   | some p,some q=>cP tab op t p q
   | _,_=>none
 | .unOp op _ x=>(ev e x).bind (vU op)
 | .convert s d x=>(ev e x).bind (AM tab s d)
 | .fieldAddr t x f=>(ev e x).bind (jm tab t f)
 | .field t x f=>(ev e x).bind (vQ tab t · f)
 | .indexAddr t x i=>match ev e x,ev e i with
   | some p,some q=>l_ tab t p q
   | _,_=>none
 | .index t x i=>match ev e x,ev e i with
   | some p,some q=>vR tab t p q
   | _,_=>none
 | .extract x i=>(ev e x).bind (rq · i)
 | .slice t x lo hi mx=>match ev e x,Cs lo,Cs hi,mx with
   | some p,some l,some h,none=>vV tab t p l h
   | some p,some l,some (some h),some y=>(ev e y).bind (ru tab t p l h)
   | _,_,_,_=>none
 | .build t parts=>match fE e (parts.toList.map (·.2))with
   | some ms=>vT tab t (fY parts ms)
   | none=>none
 | .load t x=>match ev e x with
   | some (.cX cs off)=>eM tab ⟨0,fun _=>none⟩ t (.cX cs off)
   | _=>none
 | .makeFunc fn fs cs=>match fE e fs.toList,fE e cs.toList with
   | some p,some q=>some (.func fn p q)
   | _,_=>none
 | .makeInterface t x=>match(tab t).map cn.under,ev e x with
   | some (.interface _),_=>none
   | some _,some p=>some (.iface t p)
   | _,_=>none
 | .call c=>match c.callee,c.args.toList,c.argTypes.toList with
   | .builtin .len,[x],[t]=>(ev e x).bind (iW tab t)
   | .builtin .max,[x,y],_=>match ev e x,ev e y with
     | some p,some q=>AJ p q
     | _,_=>none
   | .builtin .min,[x,y],_=>match ev e x,ev e y with
     | some p,some q=>AK p q
     | _,_=>none
   | .builtin .unsafeSliceData,[x],_=>(ev e x).bind vW
   | _,_,_=>none
 | _=>none
where Cs:Option Operand->Option (Option MV)
 | none=>some none
 | some x=>(ev e x).map some
theorem CV (h:FR G n D e a) {x:Option Operand} {y:Option MV} (hx:ei.Cs e x=some y):Iz G y (x.map a.eval):=by
 cases x with
 | none=>injection hx with hx;subst hx;trivial
 | some x=>
   obtain⟨m,h1,rfl⟩:=Option.map_eq_some_iff.1 hx;exact h.ev h1
theorem BK {l:List Operand} {ms:List MV} (h:fE e l=some ms):ms.length=l.length:=by
 induction l generalizing ms with
 | nil=>simp[fE]at h;subst h;rfl
 | cons x l ih=>
   simp only[fE,List.mapM_cons,Option.bind_eq_bind,Option.bind_eq_some_iff]at h;obtain⟨m,h1,XL,h2,h3⟩:=h;injection h3 with h3;subst h3
   simp[ih h2]
theorem zip_fst {α :Type} (parts:Array (Nat×Operand)) (ms:List α) (h:ms.length=parts.toList.length):(fY parts ms).map (·.1)=parts.toList.map (·.1):=by
 unfold fY;rw[show(List.map (fun x:Nat× α =>x.1) ((parts.toList.map (·.1)).zip ms))=List.map Prod.fst ((parts.toList.map (·.1)).zip ms)from rfl,List.map_fst_zip];simp[h]
theorem KH {α :Type} (parts:Array (Nat×Operand)) (ms:List α) (h:ms.length=parts.toList.length):(fY parts ms).map (·.2)=ms:=by
 unfold fY;rw[show(List.map (fun x:Nat× α =>x.2) ((parts.toList.map (·.1)).zip ms))=List.map Prod.snd ((parts.toList.map (·.1)).zip ms)from rfl,List.map_snd_zip];simp[h]
theorem Dy (a:Act) (parts:Array (Nat×Operand)):((parts.map fun(i,x)=>(i,a.eval x)).toList.map (·.1))=parts.toList.map (·.1):=by simp
theorem Dz (a:Act) (parts:Array (Nat×Operand)):((parts.map fun(i,x)=>(i,a.eval x)).toList.map (·.2))=(parts.toList.map (·.2)).map a.eval:=by simp
def c6 (P:Program) (o:Oper) (a:Act) (G:Gh) (m:MV):Prop:=∃u,VR G m u/\∀w,SS G w->(execOp a.eval o).run P w= .ok (.value u) w
theorem c6.of {o:Oper} {s:Sem Value} (hs:aW P s G m) (he:execOp a.eval o=(do pure (.value (<-s)))):c6 P o a G m:=by
 obtain⟨u,hu,hr⟩:=hs;exact⟨u,hu,fun w hw=>by rw[he,Sem.run_bind,hr w hw];rfl⟩
theorem ui (ht:aM P tab) (h:FR G n D e a) {o:Oper} (hv:ei tab o e=some m):c6 P o a G m:=by
 unfold ei at hv;split at hv
 ·rename_i x ho;exact⟨_,h.ev hv,fun w _=>by simp[execOp,ho]⟩
 ·rename_i x ho;exact⟨_,h.ev hv,fun w _=>by simp[execOp,ho]⟩
 ·rename_i c x y ho;split at hv
  ·rename_i t hc;have oa:=h.ev hc;have FZ:a.eval c= .bool t:=oa.iD;split at hv
   ·rename_i hb;exact⟨_,h.ev hv,fun w _=>by simp[execOp,ho,asBool,FZ,hb]⟩
   ·rename_i hb;exact⟨_,h.ev hv,fun w _=>by simp[execOp,ho,asBool,FZ,hb]⟩
  ·cases hv
 ·rename_i x ho;obtain⟨p,h1,h2⟩:=Option.bind_eq_some_iff.1 hv;have hp:=h.ev h1;generalize hu:a.eval x=u at hp;unfold KG at h2;split at h2
  ·injection h2 with h2;subst h2
   exact⟨u,hp,fun w _=>by simp only[execOp,ho,hu];cases hp;rfl⟩
  ·injection h2 with h2;subst h2
   exact⟨u,hp,fun w _=>by simp only[execOp,ho,hu];cases hp;rfl⟩
  ·injection h2 with h2;subst h2
   exact⟨u,hp,fun w _=>by simp only[execOp,ho,hu];cases hp;rfl⟩
  ·cases h2
 ·rename_i op t x y yt ho;split at hv
  ·rename_i p q h1 h2;exact c6.of (XN (xo:=x) (yo:=y) ht hv (h.ev h1) (h.ev h2)) (by simp[execOp,ho])
  ·cases hv
 ·rename_i op t x ho;obtain⟨p,h1,h2⟩:=Option.bind_eq_some_iff.1 hv;exact c6.of (Pg h2 (h.ev h1)) (by simp[execOp,ho])
 ·rename_i s d x ho;obtain⟨p,h1,h2⟩:=Option.bind_eq_some_iff.1 hv;exact c6.of (TV ht h2 (h.ev h1)) (by simp[execOp,ho])
 ·rename_i t x f ho;obtain⟨p,h1,h2⟩:=Option.bind_eq_some_iff.1 hv;exact c6.of (Dr ht h2 (h.ev h1)) (by simp[execOp,ho])
 ·rename_i t x f ho;obtain⟨p,h1,h2⟩:=Option.bind_eq_some_iff.1 hv;exact c6.of (Pd ht h2 (h.ev h1)) (by simp[execOp,ho])
 ·rename_i t x i ho;split at hv
  ·rename_i p q h1 h2;exact c6.of (Ds ht hv (h.ev h1) (h.ev h2)) (by simp[execOp,ho])
  ·cases hv
 ·rename_i t x i ho;split at hv
  ·rename_i p q h1 h2;exact c6.of (Pe ht hv (h.ev h1) (h.ev h2)) (by simp[execOp,ho])
  ·cases hv
 ·rename_i x i ho;obtain⟨p,h1,h2⟩:=Option.bind_eq_some_iff.1 hv;exact c6.of (Ix h2 (h.ev h1)) (by simp[execOp,ho])
 ·rename_i t x lo hi mx ho;split at hv
  ·rename_i p l hh h1 h2 h3;exact c6.of (Ph ht hv (h.ev h1) (CV h h2) (CV h h3)) (by simp[execOp,ho])
  ·rename_i p l hh y h1 h2 h3;obtain⟨q,h4,h5⟩:=Option.bind_eq_some_iff.1 hv;have h6:=CV h h3;cases hi with
   | none=>cases h3
   | some hi=>exact c6.of (KD ht h5 (h.ev h1) (CV h h2) h6 (h.ev h4)) (by simp[execOp,ho])
  ·cases hv
 ·rename_i t parts ho;split at hv
  ·rename_i ms h1;have hl:=BK h1;have Pp:ms.length=parts.toList.length:=by simpa using hl
   refine c6.of (Pf ht hv (ps:=parts.map fun(i,x)=>(i,a.eval x)) ?_ ?_) (by simp[execOp,ho])
   ·rw[zip_fst parts ms Pp,Dy]
   ·rw[KH parts ms Pp,Dz];exact h.fE h1
  ·cases hv
 ·rename_i t x ho;split at hv
  ·rename_i cs off h1;exact c6.of (Pb ht hv (h.ev h1)) (by simp[execOp,ho])
  ·cases hv
 ·rename_i fn fs cs ho;split at hv
  ·rename_i p q h1 h2;injection hv with hv;subst hv
   have e1:=h.fE h1;have e2:=h.fE h2;refine⟨.func fn (fs.toList.map a.eval).toArray (cs.toList.map a.eval).toArray,.func e1.1 e1.2 e2.1 e2.2,fun w _=>?_⟩;have f1:fs.map a.eval=(fs.toList.map a.eval).toArray:=by apply Array.ext';simp
   have f2:cs.map a.eval=(cs.toList.map a.eval).toArray:=by apply Array.ext';simp
   simp only[execOp,ho,Instr.makeFunc,f1,f2];rfl
  ·cases hv
 ·rename_i t x ho;split at hv
  ·cases hv
  ·rename_i d p hne hd h1;injection hv with hv;subst hv
   have eN:=bA ht hd;refine c6.of (s:=Instr.makeInterface t (a.eval x)) (aW.of (u:=.iface t (a.eval x)) (fun w _=>?_) (.iface (h.ev h1))) (by simp[execOp,ho]);simp only[Instr.makeInterface,Sem.run_bind,run_underlying eN,Result.andThen_ok]
   cases d<;>first
    | rfl
    | (rename_i ms;exact absurd hd (hne ms))
  ·cases hv
 ·rename_i c ho;split at hv
  ·rename_i x t hc gH KI;obtain⟨p,h1,h2⟩:=Option.bind_eq_some_iff.1 hv;have ha:c.args= #[x]:=by apply Array.ext';exact gH
   have fc:c.argTypes= #[t]:=by apply Array.ext';exact KI
   exact c6.of (XP (ty:=o.type) ht h2 (h.ev h1)) (by simp[execOp,ho,resolve,hc,ha,fc,invoke,builtin])
  ·rename_i x y hc gH;split at hv
   ·rename_i p q h1 h2;have ha:c.args= #[x,y]:=by apply Array.ext';exact gH
    exact c6.of (TP (ts:=c.argTypes) (ty:=o.type) hv (h.ev h1) (h.ev h2)) (by simp[execOp,ho,resolve,hc,ha,invoke,builtin])
   ·cases hv
  ·rename_i x y hc gH;split at hv
   ·rename_i p q h1 h2;have ha:c.args= #[x,y]:=by apply Array.ext';exact gH
    exact c6.of (TR (ts:=c.argTypes) (ty:=o.type) hv (h.ev h1) (h.ev h2)) (by simp[execOp,ho,resolve,hc,ha,invoke,builtin])
   ·cases hv
  ·rename_i x hc gH;obtain⟨p,h1,h2⟩:=Option.bind_eq_some_iff.1 hv;have ha:c.args= #[x]:=by apply Array.ext';exact gH
   exact c6.of (Po (ts:=c.argTypes) (ty:=o.type) h2 (h.ev h1)) (by simp[execOp,ho,resolve,hc,ha,invoke,builtin])
  ·cases hv
 ·cases hv
end
open Go.MapKept (IsKey run_checkKey run_findKey run_setObj_map)
section
variable {G H:Gh} {n:Sz} {D:List Deferred} {e:Env} {a:Act} {P:Program} {tab:bV} {O O':VH} {w:World} {m m':MV} {u v:Value}
theorem oe {w:World} {b j:Nat} (o:Obj) (h:j≠b):({w with heap:=w.heap.setIfInBounds b o}:World).heap[j]?=w.heap[j]?:=
 Array.getElem?_setIfInBounds_ne (Ne.symm h)
theorem uj {w:World} {b:Nat} {x:Obj} (o:Obj) (h:w.heap[b]?=some x):({w with heap:=w.heap.setIfInBounds b o}:World).heap[b]?=some o:=
 Array.getElem?_setIfInBounds_self_of_lt (qn h)
theorem tc {w:World} {b:Nat} (o:Obj) {a:Addr} (h:a.block≠b):({w with heap:=w.heap.setIfInBounds b o}:World).cell? a=w.cell? a:=by
 unfold World.cell?;rw[oe o h]
abbrev wN:=List (MV×MV×Nat)
structure gB (G:Gh) (es:wN) (E:List MapEntry):Prop where
 born:E.map (·.born)=es.map (·.2.2)
 key:aO G (es.map (·.1)) (E.map (·.key))
 val:aO G (es.map (·.2.1)) (E.map (·.val))
theorem gB.nil:gB G [] []:=⟨rfl,aO.nil,aO.nil⟩
theorem gB.cons {x:MV×MV×Nat} {y:MapEntry} {es:wN} {E:List MapEntry} (h1:y.born=x.2.2) (h2:VR G x.1 y.key) (h3:VR G x.2.1 y.val) (h:gB G es E):gB G (x::es) (y::E):=
 ⟨by rw[List.map_cons,List.map_cons,h1,h.born],aO.cons h2 h.key,aO.cons h3 h.val⟩
theorem gB.eh {x:MV×MV×Nat} {es:wN} {E:List MapEntry} (h:gB G (x::es) E):∃y E',E=y::E'/\y.born=x.2.2/\VR G x.1 y.key/\VR G x.2.1 y.val/\gB G es E':=by
 cases E with
 | nil=>have:=h.born;simp at this
 | cons y E=>
   have h1:=h.born;simp only[List.map_cons,List.cons.injEq]at h1;exact⟨y,E,rfl,h1.1,h.key.head,h.val.head,⟨h1.2,h.key.tail,h.val.tail⟩⟩
theorem gB.ic {E:List MapEntry} (h:gB G [] E):E=[]:=by
 cases E with
 | nil=>rfl
 | cons y E=>have:=h.born;simp at this
theorem gB.append {es fs:wN} {E F:List MapEntry} (h:gB G es E) (k:gB G fs F):gB G (es++fs) (E++F):=
 ⟨by simp[h.born,k.born],by simpa using aO.append h.key k.key,by simpa using aO.append h.val k.val⟩
theorem WR.sf (h:WR G O w) {k b ck ck':Nat} {es F0:wN} {E':Array MapEntry} {x:Obj} (hk:O.hp k=some (.map es ck)) (hp:G.bJ k=some b) (hb:w.heap[b]?=some x) (hr:gB G F0 E'.toList):
  WR G (O.set k (.map F0 ck')) {w with heap:=w.heap.setIfInBounds b (.map E' ck')}:=by
 have hne:∀j b',j≠k->O.hp j≠none->G.bJ j=some b'->b'≠b:=fun j b' hj lj mz e=>hj (h.inj j k b lj (by rw[hk];simp) (e▸mz) hp)
 have gI:∀j,bn O.hp k (some (.map F0 ck')) j≠none->O.hp j≠none:=fun j hn=>by
  by_cases e:j=k
  ·subst e;rw[hk];simp
  ·rwa [ax _ _ e]at hn
 have xz:=uj (.map E' ck') hb;have ef:∀j,j≠b->({w with heap:=w.heap.setIfInBounds b (.map E' ck')}:World).heap[j]?=w.heap[j]?:=fun j hj=>oe _ hj
 have hB:=(h.jX k b hp).1
 have Pq:∀b' s,w.shape? b'=some s->b'≠b:=fun b' s hs e=>by
  subst e;obtain⟨b2,E,g1,g2,_⟩:=h.map k es ck hk;rw[hp]at g1;injection g1 with g1;subst g1
  simp only[World.shape?,g2]at hs;cases hs
 refine⟨⟨h.base.os,h.base.tape,h.base.output,by simpa using h.base.size,fun j hj=>?_⟩,fun b' o u' oa=>?_,fun j hj=>?_,fun j b' hj=>?_,fun j k' b' lj lk=>h.inj j k' b' (gI j lj) (gI k' lk),fun j ds hj=>?_,fun j es2 ck2 hj=>?_,fun t ht=>?_,fun s t b' x y hs ht=>?_,h.n_ id (lO (by simp)) fun j b' s hj hs=>ie (fun x hx=>by rw[ef _ (Pq b' s hs)];exact hx) hs,h.qJ id (ue (by simp)) fun j x b' hj hb hx=>by rw[ef b' (fun e=>by have:=h.inj j k b (by rw[hj];simp) (by rw[hk];simp) (e▸hb) hp;subst this;rw[hk]at hj;cases hj)];exact hx,h.qf,h.qK (Gh.Le.refl _) (l9 (by simp))⟩
 ·rw[ef j (by omega)];exact h.base.block j hj
 ·have tQ:b'≠b:=fun e=>by subst e;rw[(h.jX k b' hp).2.2 (by rw[hk];simp) o]at oa;cases oa
  rw[tc _ (by exact tQ)];exact h.d_ b' o u' oa
 ·obtain⟨d1,d2,d3⟩:=h.o8 j hj;refine⟨d1,d2,?_⟩;show bn _ _ _ _=_;rw[ax _ _ (fun e=>by subst e;rw[d3]at hk;cases hk)];exact d3
 ·obtain⟨p1,p2,p3⟩:=h.jX j b' hj;refine⟨p1,by simpa using p2,fun hne=>p3 ?_⟩;have hne:bn O.hp k (some (.map F0 ck')) j≠none:=hne;by_cases e:j=k
  ·subst e;rw[hk];simp
  ·rwa [ax _ _ e]at hne
 ·have hj:bn O.hp k (some (.map F0 ck')) j=some (.cells ds):=hj;by_cases e:j=k
  ·subst e;rw[aE]at hj;cases hj
  ·rw[ax _ _ e]at hj;obtain⟨b',C,T,d1,d2,d3⟩:=h.cells j ds hj;exact⟨b',C,T,d1,by rw[ef _ (hne j b' e (by rw[hj];simp) d1)];exact d2,d3⟩
 ·have hj:bn O.hp k (some (.map F0 ck')) j=some (.map es2 ck2):=hj;by_cases e:j=k
  ·subst e;rw[aE]at hj;injection hj with hj;injection hj with hj bf;subst hj;subst bf
   exact⟨b,E',hp,xz,hr.born,hr.key,hr.val⟩
  ·rw[ax _ _ e]at hj;obtain⟨b',D,d1,d2,d3⟩:=h.map j es2 ck2 hj;exact⟨b',D,d1,by rw[ef _ (hne j b' e (by rw[hj];simp) d1)];exact d2,d3⟩
 ·have ht:bn O.hp k (some (.map F0 ck')) t=some .tok:=ht;have e:t≠k:=fun e=>by subst e;rw[aE]at ht;cases ht
  rw[ax _ _ e]at ht;obtain⟨b',f,k',r,D,T',d1,d2,d3,d4,d6,d7⟩:=h.tok t ht;exact⟨b',f,k',r,D,T',d1,d2,by rw[ef _ (fun e=>d7 k (by rw[e];exact hp))];exact d3,d4,d6,d7⟩
 ·have hs:bn O.hp k (some (.map F0 ck')) s=some .tok:=hs;have ht:bn O.hp k (some (.map F0 ck')) t=some .tok:=ht;have e:t≠k:=fun e=>by subst e;rw[aE]at ht;cases ht
  have e':s≠k:=fun e=>by subst e;rw[aE]at hs;cases hs
  rw[ax _ _ e]at ht;rw[ax _ _ e']at hs;exact h.k9 s t b' x y hs ht
theorem WR.XV (h:WR G O w):G.Le {G with bJ:=bn G.bJ O.next (some w.heap.size)}/\WR {G with bJ:=bn G.bJ O.next (some w.heap.size)} (O.push (.map [] 0)) (w.alloc (.map #[] 0)):=by
 have hle:=Gh.Le.Iv h.l0.1 w.heap.size;have hg:=h.grow (.map #[] 0)
 have ee:∀k b,bn G.bJ O.next (some w.heap.size) k=some b->(k=O.next/\b=w.heap.size)\/(k≠O.next/\G.bJ k=some b):=fun k b hk=>by
  by_cases e:k=O.next
  ·subst e;rw[aE]at hk;injection hk with hk;exact .inl ⟨rfl,hk.symm⟩
  ·rw[ax _ _ e]at hk;exact .inr ⟨e,hk⟩
 have OZ:∀o,G.d_ w.heap.size o=none:=h.vM
 refine⟨hle,hg.base,hg.d_,fun k hk=>?_,fun k b hk=>?_,fun j k b lj lk hj hk=>?_,fun k ds hk=>?_,fun k es ck hk=>?_,fun t ht=>?_,fun s t b x y hs ht h1 h2=>?_,h.n_ hle.bJ (lO (by simp)) fun _ _ _ _=>ie fun _=>dm w _,h.qJ hle.bJ (ue (by simp)) fun _ _ _ _ _=>dm w _,h.qf,h.qK hle (l9 (by simp))⟩
 ·have hk:O.next+1<=k:=hk;obtain⟨h1,h2,h3⟩:=h.o8 k (by omega);exact⟨by show bn _ _ _ _=_;rw[ax _ _ (by omega)];exact h1,h2,by show bn _ _ _ _=_;rw[ax _ _ (by omega)];exact h3⟩
 ·rcases ee k b hk with⟨_,rfl⟩ | ⟨dN,hk⟩
  ·exact⟨h.XG,by simp,fun _=>OZ⟩
  ·obtain⟨p1,p2,p3⟩:=hg.jX k b hk;exact⟨p1,p2,fun hne=>p3 (by have hne:bn O.hp O.next (some (.map [] 0)) k≠none:=hne;rwa [ax _ _ dN]at hne)⟩
 ·rcases ee j b hj with⟨rfl,rfl⟩ | ⟨cY,hj⟩<;>rcases ee k _ hk with⟨rfl,hb⟩ | ⟨dN,hk⟩
  ·rfl
  ·have:=(h.jX _ _ hk).2.1;omega
  ·subst hb;have:=(h.jX _ _ hj).2.1;omega
  ·exact h.inj j k b (by have lj:bn O.hp O.next (some (.map [] 0)) j≠none:=lj;rwa [ax _ _ cY]at lj) (by have lk:bn O.hp O.next (some (.map [] 0)) k≠none:=lk;rwa [ax _ _ dN]at lk) hj hk
 ·have hk:bn O.hp O.next (some (.map [] 0)) k=some (.cells ds):=hk;by_cases e:k=O.next
  ·subst e;rw[aE]at hk;cases hk
  ·rw[ax _ _ e]at hk;obtain⟨b,C,T,h1,h2,h3⟩:=hg.cells k ds hk;exact⟨b,C,T,hle.bJ h1,h2,h3.mono hle⟩
 ·have hk:bn O.hp O.next (some (.map [] 0)) k=some (.map es ck):=hk;by_cases e:k=O.next
  ·subst e;rw[aE]at hk;injection hk with hk;injection hk with hk bt;subst hk;subst bt
   exact⟨w.heap.size, #[],aE _ _ _,by rw[eU,if_pos rfl],rfl,aO.nil,aO.nil⟩
  ·rw[ax _ _ e]at hk;obtain⟨b,E,h1,h2,h3,h4,h5⟩:=hg.map k es ck hk;exact⟨b,E,hle.bJ h1,h2,h3,h4.mono hle,h5.mono hle⟩
 ·have ht:bn O.hp O.next (some (.map [] 0)) t=some .tok:=ht;by_cases e:t=O.next
  ·subst e;rw[aE]at ht;cases ht
  ·rw[ax _ _ e]at ht;obtain⟨b,f,k,r,D,T',h1,h2,h3,h4,h6,h7⟩:=hg.tok t ht;obtain⟨_,_,_,_,_,_,XI,_,XJ,_⟩:=h.tok t ht;refine⟨b,f,k,r,D,T',h1,h2,h3,h4,h6,fun j hj=>?_⟩;rcases ee j b hj with⟨_,rfl⟩ | ⟨_,hj⟩
   ·rw[h1]at XI;injection XI with e1;injection e1 with e1 _;subst e1
    have:=qn XJ;omega
   ·exact h7 j hj
 ·have hs:bn O.hp O.next (some (.map [] 0)) s=some .tok:=hs;have ht:bn O.hp O.next (some (.map [] 0)) t=some .tok:=ht;have es:s≠O.next:=fun e=>by subst e;rw[aE]at hs;cases hs
  have et:t≠O.next:=fun e=>by subst e;rw[aE]at ht;cases ht
  rw[ax _ _ es]at hs;rw[ax _ _ et]at ht;exact h.k9 s t b x y hs ht h1 h2
theorem bytes_beq (a b:List UInt8):((⟨⟨a⟩⟩:ByteArray)==⟨⟨b⟩⟩)=(a==b):=by
 show((⟨a⟩:Array UInt8)==⟨b⟩)=(a==b);rw[Bool.eq_iff_iff,beq_iff_eq,beq_iff_eq,Array.mk.injEq]
def IC (d:TypeDesc) (x y:MV):Option Bool:=
 match d,x,y with
 | .int _,.v (.int k a),.v (.int k' b)=>if k=k' then some (a==b)else none
 | .string,.str a,.str b=>some (a==b)
 | _,_,_=>none
theorem GY {d:TypeDesc} {x y:MV} {u v:Value} {b:Bool} (h:IC d x y=some b) (hx:VR G x u) (hy:VR G y v):Instr.sameNow d u v=some b/\(b=true->Instr.sameBits 10000 v u=true):=by
 unfold IC at h;split at h
 ·split at h
  ·rename_i he;subst he;injection h with h;cases hx;cases hy
   refine⟨by simp[Instr.sameNow,h],fun hb=>?_⟩;rw[hb]at h;have:=eq_of_beq h;subst this;simp[Instr.sameBits]
  ·cases h
 ·injection h with h;cases hx;cases hy;refine⟨by rw[<-h];exact congrArg some (bytes_beq _ _),fun hb=>?_⟩;rw[hb]at h;have:=eq_of_beq h;subst this;show((_:ByteArray)==_)=true;rw[bytes_beq];exact h
 ·cases h
def uk (d:TypeDesc) (k:MV):wN->Nat->Option (Option (Nat×MV))
 | [],_=>some none
 | e::es,i=>match IC d k e.1 with
   | some true=>some (some (i,e.2.1))
   | some false=>uk d k es (i+1)
   | none=>none
theorem ry {d:TypeDesc} {k:MV} {kv:Value} (hk:VR G k kv):∀{es:wN} {E:List MapEntry} {i:Nat} {r:Option (Nat×MV)},uk d k es i=some r->gB G es E->
  match r with
  | none=>Instr.findNow d kv E i=some none
  | some (j,m)=>∃v,Instr.findNow d kv E i=some (some (j,v))/\VR G m v/\i<=j/\(E[j - i]?).map (fun e=>Instr.sameBits 10000 e.key kv)=some true/\j - i<E.length
 | [],E,i,r,h,hr=>by
   rw[hr.ic];injection h with h;subst h
   rfl
 | x::es,E,i,r,h,hr=>by
   obtain⟨y,E',rfl,h1,h2,h3,h4⟩:=hr.eh;rw[uk]at h;split at h
   ·rename_i hs;injection h with h;subst h
    obtain⟨g1,g3⟩:=GY hs hk h2;exact⟨y.val,by simp[Instr.findNow,g1],h3,Nat.le_refl _,by simp[g3],by simp⟩
   ·rename_i hs;obtain⟨g1,_⟩:=GY hs hk h2;have ih:=ry hk h h4;cases r with
    | none=>simp only[Instr.findNow,g1];exact ih
    | some p=>
      obtain⟨j,m⟩:=p;obtain⟨v,i1,i2,i3,i4,i5⟩:=ih;refine⟨v,by simp only[Instr.findNow,g1];exact i1,i2,by omega,?_,by simp;omega⟩;rw[show j - i=(j - (i+1))+1 by omega,List.getElem?_cons_succ];exact i4
   ·cases h
def BL (d:TypeDesc) (k:MV):Bool:=
 match d,k with
 | .int k,.v (.int k' _)=>decide (k'=k)
 | .string,.str _=>true
 | _,_=>false
theorem yT {d:TypeDesc} {k:MV} {kv:Value} (h:BL d k=true) (hk:VR G k kv):IsKey d kv:=by
 unfold BL at h;split at h
 ·cases hk;simpa[IsKey]using h
 ·cases hk;simp[IsKey]
 ·cases h
def yU (i:cn):Option MV:=if ey i.under then some (.agg i.zero)else i.zero[0]?
theorem xK {t:TypeId} {i:cn} (h:wW P t i) (hm:yU i=some m):∃z,(∀w,(zeroValue t).run P w= .ok z w)/\∀G,VR G m z:=by
 obtain⟨ti,z,h1,_,_,h4,h5,h6⟩:=h.info;refine⟨z,fun w=>by simp[zeroValue,typeInfo,h1,h4],fun G=>?_⟩;obtain⟨w1,w2⟩:=h.whole ti z h1 h4;have h6:=h6 G;unfold yU at hm;split at hm
 ·rename_i ha;injection hm with hm;subst hm
  obtain⟨cs,rfl⟩:=w1 ha;exact VR.agg h6.1 h6.2
 ·rename_i ha;have ha:ey i.under=false:=by simpa using ha
  rw[w2 ha]at h6;obtain⟨u,hu,hv⟩:=h6.get hm;have:i.zero.length=1:=by have:=h6.1;simpa using this.symm
  have h0:(0:Nat)<1:=by omega
  simp only[Array.toList,List.getElem?_cons_zero,Option.some.injEq]at hu;subst hu;exact hv
def mapOf (O:VH):MV->Option wN
 | .v (.map none)=>some []
 | .map b=>match O.hp b with
   | some (.map es _)=>some es
   | _=>none
 | _=>none
def jL (tab:bV) (O:VH) (t:TypeId) (x k:MV) (ok:Bool):Option MV:=
 match(tab t).map cn.under with
 | some (.map kt et)=>match(tab kt).map cn.under,tab et with
   | some kd,some te=>
     match BL kd k,(mapOf O x).bind (uk kd k · 0)with
     | true,some (some (_,m))=>some (if ok then .tuple [m,.v (.bool true)]else m)
     | true,some none=>(yU te).map fun z=>if ok then .tuple [z,.v (.bool false)]else z
     | _,_=>none
   | _,_=>none
 | _=>none
theorem sh (ht:aM P tab) {t:TypeId} {d:TypeDesc} (h:(tab t).map cn.under=some d):P.underlying t=some d:=by
 obtain⟨i,hi,hu⟩:=Option.map_eq_some_iff.1 h;rw[<-hu];exact(ht t i hi).under
theorem wX (ht:aM P tab) (h:WR G O w) {t:TypeId} {x k:MV} {ok:Bool} {u kv:Value} (hv:jL tab O t x k ok=some m) (hx:VR G x u) (hk:VR G k kv):∃r,VR G m r/\∀y,Sx G w y->(Instr.lookup t u kv ok).run P y= .ok r y:=by
 unfold jL at hv;split at hv
 ·rename_i kt et hmt;have hU:=sh ht hmt;split at hv
  ·rename_i kd te rz nh;have hK:=sh ht rz
   have bU:∀(es:wN),mapOf O x=some es->∃E:Array MapEntry,gB G es E.toList/\((u= .map none/\E= #[])\/∃r ck,u= .map (some r)/\∀y,Sx G w y->y.heap[r]?=some (.map E ck)):=by
    intro es DA;unfold mapOf at DA;split at DA
    ·injection DA with DA;subst DA
     cases hx;exact⟨#[],gB.nil,.inl ⟨rfl,rfl⟩⟩
    ·rename_i b;split at DA
     ·rename_i F0 ck hb;injection DA with DA;subst DA
      cases hx with
      | map h1=>
        obtain⟨b',E,e1,e2,e3,e4,e5⟩:=h.map _ _ _ hb;rw[h1]at e1;injection e1 with e1;subst e1
        exact⟨E,⟨e3,e4,e5⟩,.inr ⟨_,_,rfl,fun y hy=>(hy.2 _ _ h1).trans e2⟩⟩
     ·cases DA
    ·cases DA
   split at hv
   ·rename_i j m2 um hf;injection hv with hv;obtain⟨es,h1,h2⟩:=Option.bind_eq_some_iff.1 hf;obtain⟨E,hE,XW⟩:=bU es h1;obtain⟨v,f1,f2,_⟩:=ry hk h2 hE;have td:=yT um hk;refine⟨if ok then .tuple #[v,.bool true]else v,?_,fun y hy=>?_⟩;rotate_left
    ·rcases XW with⟨rfl,rfl⟩ | ⟨r,ck,rfl,hb⟩
     ·simp only[Instr.lookup,Sem.run_bind,run_underlying hU,Result.andThen_ok,run_checkKey hK td,run_findKey hK f1,Sem.run_pure]
     ·simp only[Instr.lookup,Sem.run_bind,run_underlying hU,Result.andThen_ok,MapKept.run_getObj_map (hb y hy),run_checkKey hK td,run_findKey hK f1,Sem.run_pure]
    ·subst hv;cases ok
     ·exact f2
     ·exact VR.tuple (us:=[v,.bool true]) rfl (aO.cons f2 (aO.cons (.v rfl) aO.nil)).2
   ·rename_i um hf;obtain⟨z,hz,hzm⟩:=Option.map_eq_some_iff.1 hv;obtain⟨es,h1,h2⟩:=Option.bind_eq_some_iff.1 hf;obtain⟨E,hE,XW⟩:=bU es h1;have f1:=ry hk h2 hE;have td:=yT um hk;obtain⟨zv,z1,z2⟩:=xK (ht et te nh) hz;refine⟨if ok then .tuple #[zv,.bool false]else zv,?_,fun y hy=>?_⟩;rotate_left
    ·rcases XW with⟨rfl,rfl⟩ | ⟨r,ck,rfl,hb⟩
     ·simp only[Instr.lookup,Sem.run_bind,run_underlying hU,Result.andThen_ok,run_checkKey hK td,run_findKey hK f1,Sem.run_pure,z1]
     ·simp only[Instr.lookup,Sem.run_bind,run_underlying hU,Result.andThen_ok,MapKept.run_getObj_map (hb y hy),run_checkKey hK td,run_findKey hK f1,Sem.run_pure,z1]
    ·subst hzm;cases ok
     ·exact z2 G
     ·exact VR.tuple (us:=[zv,.bool false]) rfl (aO.cons (z2 G) (aO.cons (.v rfl) aO.nil)).2
   ·cases hv
  ·cases hv
 ·cases hv
theorem KJ (ht:aM P tab) (h:WR G O w) {t:TypeId} {x k:MV} {ok:Bool} {u kv:Value} (hv:jL tab O t x k ok=some m) (hx:VR G x u) (hk:VR G k kv):aez P (Instr.lookup t u kv ok) w G m:=by
 obtain⟨r,h1,h2⟩:=wX (P:=P) ht h hv hx hk;exact⟨r,h2 w h.sx,h1⟩
def setAt (es:wN) (i:Nat) (k v:MV):wN:=es.modify i fun e=>(k,v,e.2.2)
def fh (tab:bV) (O:VH) (t:TypeId) (x k y:MV):Option VH:=
 match(tab t).map cn.under,x with
 | some (.map kt _),.map b=>match(tab kt).map cn.under,O.hp b with
   | some kd,some (.map es ck)=>match BL kd k,uk kd k es 0 with
     | true,some (some (i,_))=>some (O.set b (.map (setAt es i k y) ck))
     | true,some none=>some (O.set b (.map (es++[(k,y,ck)]) (ck+1)))
     | _,_=>none
   | _,_=>none
 | _,_=>none
theorem gB.modify {k y:MV} {kv yv:Value} (hk:VR G k kv) (hy:VR G y yv):∀{es:wN} {E:List MapEntry} (i:Nat),gB G es E->gB G (setAt es i k y) (E.modify i fun e=>{e with key:=kv,val:=yv})
 | [],E,i,h=>by rw[h.ic];simpa[setAt]using gB.nil
 | x::es,E,i,h=>by
   obtain⟨z,E',rfl,h1,h2,h3,h4⟩:=h.eh;cases i with
   | zero=>simp only[setAt,List.modify_zero_cons];exact gB.cons h1 hk hy h4
   | succ i=>
     simp only[setAt,List.modify_succ_cons];exact gB.cons h1 h2 h3 (gB.modify hk hy i h4)
theorem uo (ht:aM P tab) (h:WR G O w) {t:TypeId} {x k y:MV} {u kv yv:Value} (hv:fh tab O t x k y=some O') (hx:VR G x u) (hk:VR G k kv) (hy:VR G y yv):Iw P (Instr.mapUpdate t u kv yv) w G O':=by
 unfold fh at hv;split at hv
 ·rename_i kt et b hmt;have hU:=sh ht hmt;split at hv
  ·rename_i kd es ck rz hb;have hK:=sh ht rz;cases hx with
   | map h1=>
     obtain⟨b',E,e1,e2,e3,e4,e5⟩:=h.map _ _ _ hb;rw[h1]at e1;injection e1 with e1;subst e1
     have hE:gB G es E.toList:=⟨e3,e4,e5⟩;split at hv
     ·rename_i i m um hf;injection hv with hv;subst hv
      obtain⟨v,f1,f2,f3,f4,f5⟩:=ry hk hf hE;have td:=yT um hk;simp only[Nat.sub_zero]at f4 f5;have oc:i<E.size:=by simpa using f5
      have qg:Instr.sameBits 10000 (((E[i]?).map (·.key)).getD kv) kv=true:=by
       rw[Array.getElem?_eq_getElem oc];simp only[Array.getElem?_toList,Array.getElem?_eq_getElem oc,Option.map_some,Option.some.injEq]at f4;exact f4
      have hr:gB G (setAt es i k y) (E.modify i fun e=>{e with key:=kv,val:=yv}).toList:=by
       have:=gB.modify hk hy i hE
       rwa [<-Array.toList_modify]at this
      refine⟨_,G,?_,Gh.Le.refl G,h.sf (ck':=ck) hb h1 e2 hr⟩;simp only[Instr.mapUpdate,Sem.run_bind,run_underlying hU,Result.andThen_ok,MapKept.run_getObj_map e2,run_checkKey hK td,run_findKey hK f1];rw[Instr.keyThatStays,if_pos qg];simp only[Sem.run_pure,Result.andThen_ok,run_setObj_map _ e2]
     ·rename_i um hf;injection hv with hv;subst hv
      have f1:=ry hk hf hE;have td:=yT um hk
      have hr:gB G (es++[(k,y,ck)]) (E.push {key:=kv,val:=yv,born:=ck}).toList:=by
       rw[Array.toList_push];exact hE.append (gB.cons rfl hk hy gB.nil)
      refine⟨_,G,?_,Gh.Le.refl G,h.sf (ck':=ck+1) hb h1 e2 hr⟩;simp only[Instr.mapUpdate,Sem.run_bind,run_underlying hU,Result.andThen_ok,MapKept.run_getObj_map e2,run_checkKey hK td,run_findKey hK f1,run_setObj_map _ e2]
     ·cases hv
  ·cases hv
 ·cases hv
theorem ID (h:WR G O w) {t:TypeId}:gP P (Instr.makeMap t none) w G (O.push (.map [] 0)) (.map O.next):=by
 obtain⟨h1,h2⟩:=h.XV;exact⟨_,_,_,by simp[Instr.makeMap,newObj,Sem.run],h1,h2,.map (aE _ _ _),jx.alloc h _⟩
end
section
variable {G H:Gh} {n:Sz} {D:List Deferred} {e e':Env} {a:Act} {P:Program} {tab:bV} {O O':VH} {w:World} {m m':MV} {u v:Value}
def fu:List MV->Bool
 | [.v (.pointer none),.sl 0 [] .nil]=>true
 | _=>false
def vX (O:VH) (t:TypeId) (n:Nat) (z:List MV):VH:=bif fu z then(O.push (.cells z)).push (.shape O.next t n)else O.push (.cells z)
theorem WR.DB (h:WR G O w) {k b:Nat} {t:TypeId} {s:Nat} (hp:G.bJ k=some b) (hs:w.shape? b=some (t,s)):WR G (O.push (.shape k t s)) w:=by
 have hne:∀{j x},bn O.hp O.next (some (.shape k t s)) j=some x->(∀k t n,x≠ .shape k t n)->O.hp j=some x:=fun{j x} hj hx=>by
  by_cases e:j=O.next
  ·subst e;rw[aE]at hj;injection hj with hj;exact absurd hj.symm (hx _ _ _)
  ·rwa [ax _ _ e]at hj
 have gI:∀j b,G.bJ j=some b->bn O.hp O.next (some (.shape k t s)) j≠none->O.hp j≠none:=fun j b hj hn=>by
  rwa [ax _ _ (fun e=>by subst e;rw[h.l0.1]at hj;cases hj)]at hn
 refine⟨h.base,h.d_,fun j hj=>?_,fun j c hj=>?_,fun i j c li lj hi hj=>h.inj i j c (gI i c hi li) (gI j c hj lj) hi hj,fun j cs hj=>h.cells j cs (hne hj (by simp)),fun j es ck hj=>h.map j es ck (hne hj (by simp)),fun t ht=>h.tok t (hne ht (by simp)),fun s t c x y hs ht=>h.k9 s t c x y (hne hs (by simp)) (hne ht (by simp)),fun j k' t' n' hj=>?_,fun j x hj=>h.obj j x (hne hj (by simp)),h.qf,fun k p hk=>h.AG k p (hne hk (by simp))⟩
 ·have hj:O.next+1<=j:=hj;obtain⟨h1,h2,h3⟩:=h.o8 j (by omega);exact⟨h1,h2,by show bn _ _ _ _=_;rw[ax _ _ (by omega)];exact h3⟩
 ·obtain⟨p1,p2,p3⟩:=h.jX j c hj;exact⟨p1,p2,fun hn=>p3 (gI j c hj hn)⟩
 ·have hj:bn O.hp O.next (some (.shape k t s)) j=some (.shape k' t' n'):=hj;by_cases e:j=O.next
  ·subst e;rw[aE]at hj;injection hj with hj;injection hj with e1 e2 e3;subst e1;subst e2;subst e3;exact⟨b,hp,hs⟩
  ·rw[ax _ _ e]at hj;exact h.nP j k' t' n' hj
def iE (tab:bV) (o:Oper) (e:Env) (O:VH):Option (MV×VH):=
 match o.op with
 | .load t x=>(ev e x).bind fun p=>(eM tab O t p).map (·,O)
 | .store t x y=>match ev e x,ev e y with
   | some p,some q=>(vO tab O t p q).map (.tuple [], ·)
   | _,_=>none
 | .box _ x=>(ev e x).map fun p=>(.ptr O.next 0,O.push (.cells (dD p)))
 | .alloc t=>(tab t).map fun i=>(.ptr O.next 0,vX O t i.size i.zero)
 | .buildSlice t len parts=>match fE e (parts.toList.map (·.2))with
   | some ms=>(kM tab t len (fY parts ms)).map (·,O)
   | none=>none
 | .makeSlice t l c=>match ev e l,ev e c with
   | some p,some q=>ma tab O t p q
   | _,_=>none
 | .call c=>match c.callee,c.args.toList,c.argTypes.toList with
   | .builtin .append,[x,y],[t,t']=>if t=t' then match ev e x,ev e y with
     | some p,some q=>ij tab O t p q
     | _,_=>none
     else none
   | .builtin .len,[x],[t]=>(ev e x).bind fun p=>(o_ tab O t p).map (·,O)
   | _,_,_=>none
 | .makeMap _ none=>some (.map O.next,O.push (.map [] 0))
 | .lookup t x k ok=>match ev e x,ev e k with
   | some p,some q=>(jL tab O t p q ok).map (·,O)
   | _,_=>none
 | .mapUpdate t x k y=>match ev e x,ev e k,ev e y with
   | some p,some q,some r=>(fh tab O t p q r).map (.tuple [], ·)
   | _,_,_=>none
 | .insert t x k y=>match ev e x,ev e k,ev e y with
   | some p,some q,some r=>(fh tab O t p q r).map (.tuple [], ·)
   | _,_,_=>none
 | _=>none
def F1:Op->Bool
 | .store .. | .mapUpdate .. | .insert .. =>false
 | .call c=>match c.callee with
   | .builtin _=>true
   | _=>false
 | _=>true
def df (P:Program) (o:Oper) (a:Act) (w:World) (G:Gh) (m:MV) (O':VH):Prop:=
 ∃nx w' H u,(execOp a.eval o).run P w= .ok nx w'/\(nx= .value u\/(nx= .skip/\u=undef))/\Gh.Le G H/\WR H O' w'/\VR H m u/\(F1 o.op=true->jx G w w')
theorem df.of {o:Oper} {s:Sem Value} (hs:gP P s w G O' m) (he:execOp a.eval o=(do pure (.value (<-s)))):df P o a w G m O':=by
 obtain⟨u,w',H,hr,h1,h2,h3,h4⟩:=hs;exact⟨.value u,w',H,u,by rw[he,Sem.run_bind,hr];rfl,.inl rfl,h1,h2,h3,fun _=>h4⟩
theorem df.ofU {o:Oper} {s:Sem Unit} (hs:Iw P s w G O') (hA:F1 o.op=false) (he:execOp a.eval o=(do s;pure .skip)):df P o a w G (.tuple []) O':=by
 obtain⟨w',H,hr,h1,h2⟩:=hs;exact⟨.skip,w',H,undef,by rw[he,Sem.run_bind,hr];rfl,.inr ⟨rfl,rfl⟩,h1,h2,VR.tuple (us:=[]) rfl (fun i c u h=>by simp at h),fun h=>by rw[hA]at h;cases h⟩
theorem TW (ht:aM P tab) (hw:WR G O w) (h:FR G n D e a) {o:Oper} (hv:iE tab o e O=some (m,O')):df P o a w G m O':=by
 unfold iE at hv;split at hv
 ·rename_i t x ho;obtain⟨p,h1,h2⟩:=Option.bind_eq_some_iff.1 hv;obtain⟨q,h3,h4⟩:=Option.map_eq_some_iff.1 h2;simp only[Prod.mk.injEq]at h4;obtain⟨rfl,rfl⟩:=h4;exact df.of (GW ht hw h3 (h.ev h1)) (by simp[execOp,ho])
 ·rename_i t x y ho;split at hv
  ·rename_i p q h1 h2;obtain⟨O2,h3,h4⟩:=Option.map_eq_some_iff.1 hv;simp only[Prod.mk.injEq]at h4;obtain⟨rfl,rfl⟩:=h4;exact df.ofU (Pc ht hw h3 (h.ev h1) (h.ev h2)) (by rw[ho];rfl) (by simp[execOp,ho])
  ·cases hv
 ·rename_i t x ho;obtain⟨p,h1,h2⟩:=Option.map_eq_some_iff.1 hv;simp only[Prod.mk.injEq]at h2;obtain⟨rfl,rfl⟩:=h2;exact df.of (XO (t:=t) hw (h.ev h1)) (by simp[execOp,ho])
 ·rename_i t ho;obtain⟨i,h1,h2⟩:=Option.map_eq_some_iff.1 hv;simp only[Prod.mk.injEq]at h2;obtain⟨rfl,rfl⟩:=h2;obtain⟨z,Cr,se,FY⟩:=GU (ht t i h1) w
  have hr:(Instr.alloc t true (.tuple #[])).run P w= .ok (.pointer (some ⟨w.heap.size,0,none⟩)) (w.alloc (.cells z.cells t)):=by
   simp only[Instr.alloc,Sem.run_bind,Cr,Result.andThen_ok];simp[newVar,newRow,newObj,Sem.run]
  obtain⟨g1,g2⟩:=hw.push t (FY G);refine df.of (s:=Instr.alloc t true (.tuple #[])) ⟨_,_,_,hr,g1,?_,.ptr (aE _ _ _),jx.alloc hw _⟩ (by simp[execOp,ho]);unfold vX;cases fu i.zero with
  | false=>exact g2
  | true=>
    refine g2.DB (aE _ _ _) ?_;have:(w.alloc (.cells z.cells t)).heap[w.heap.size]?=some (.cells z.cells t):=by rw[eU,if_pos rfl]
    simp only[World.shape?,this,se]
 ·rename_i t len parts ho;split at hv
  ·rename_i ms h1;obtain⟨p,h2,h3⟩:=Option.map_eq_some_iff.1 hv;simp only[Prod.mk.injEq]at h3;obtain⟨rfl,rfl⟩:=h3;have Pp:ms.length=parts.toList.length:=by simpa using BK h1
   refine df.of (s_ ht hw h2 (ps:=parts.map fun(i,x)=>(i,a.eval x)) ?_ ?_) (by simp[execOp,ho])
   ·rw[zip_fst parts ms Pp,Dy]
   ·rw[KH parts ms Pp,Dz];exact h.fE h1
  ·cases hv
 ·rename_i t l c ho;split at hv
  ·rename_i p q h1 h2;exact df.of (Dt ht hw hv (h.ev h1) (h.ev h2)) (by simp[execOp,ho])
  ·cases hv
 ·rename_i c ho;split at hv
  ·rename_i x y t t' hc gH KI;split at hv
   ·rename_i F2;subst F2;split at hv
    ·rename_i p q h1 h2;have ha:c.args= #[x,y]:=by apply Array.ext';exact gH
     have fc:c.argTypes= #[t,t]:=by apply Array.ext';exact KI
     exact df.of (KF (ty:=o.type) ht hw hv (h.ev h1) (h.ev h2)) (by simp[execOp,ho,resolve,hc,ha,fc,invoke,builtin])
    ·cases hv
   ·cases hv
  ·rename_i x t hc gH KI;obtain⟨p,h1,h2⟩:=Option.bind_eq_some_iff.1 hv;obtain⟨q,h3,h4⟩:=Option.map_eq_some_iff.1 h2;simp only[Prod.mk.injEq]at h4;obtain⟨rfl,rfl⟩:=h4;have ha:c.args= #[x]:=by apply Array.ext';exact gH
   have fc:c.argTypes= #[t]:=by apply Array.ext';exact KI
   exact df.of (KC (ty:=o.type) ht hw h3 (h.ev h1)) (by simp[execOp,ho,resolve,hc,ha,fc,invoke,builtin])
  ·cases hv
 ·rename_i t ho;simp only[Option.some.injEq,Prod.mk.injEq]at hv;obtain⟨rfl,rfl⟩:=hv;exact df.of (ID (t:=t) hw) (by simp[execOp,ho])
 ·rename_i t x k ok ho;split at hv
  ·rename_i p q h1 h2;obtain⟨r,h3,h4⟩:=Option.map_eq_some_iff.1 hv;simp only[Prod.mk.injEq]at h4;obtain⟨rfl,rfl⟩:=h4;obtain⟨z,g1,g2⟩:=KJ (P:=P) ht hw h3 (h.ev h1) (h.ev h2);exact df.of (gP.of hw g1 g2) (by simp[execOp,ho])
  ·cases hv
 ·rename_i t x k y ho;split at hv
  ·rename_i p q r h1 h2 h3;obtain⟨O2,h4,h5⟩:=Option.map_eq_some_iff.1 hv;simp only[Prod.mk.injEq]at h5;obtain⟨rfl,rfl⟩:=h5;exact df.ofU (uo ht hw h4 (h.ev h1) (h.ev h2) (h.ev h3)) (by rw[ho];rfl) (by simp[execOp,ho])
  ·cases hv
 ·rename_i t x k y ho;split at hv
  ·rename_i p q r h1 h2 h3;obtain⟨O2,h4,h5⟩:=Option.map_eq_some_iff.1 hv;simp only[Prod.mk.injEq]at h5;obtain⟨rfl,rfl⟩:=h5;exact df.ofU (uo ht hw h4 (h.ev h1) (h.ev h2) (h.ev h3)) (by rw[ho];rfl) (by simp[execOp,ho])
  ·cases hv
 ·cases hv
def cT (tab:bV) (o:Oper) (e:Env) (O:VH):Option (MV×VH):=
 match ei tab o e with
 | some m=>some (m,O)
 | none=>iE tab o e O
theorem CW (ht:aM P tab) (hw:WR G O w) (h:FR G n D e a) {o:Oper} (hv:cT tab o e O=some (m,O')):df P o a w G m O':=by
 unfold cT at hv;split at hv
 ·rename_i p hp;simp only[Option.some.injEq,Prod.mk.injEq]at hv;obtain⟨rfl,rfl⟩:=hv;obtain⟨u,hu,hr⟩:=ui (P:=P) ht h hp;exact⟨.value u,w,G,u,hr w hw.ss,.inl rfl,Gh.Le.refl G,hw,hu,fun _=>jx.refl _ _⟩
 ·exact TW ht hw h hv
inductive VX where
 | normal | exit (id:Nat) | goto (l:Nat) | ret | panic (m:MV)
def XR (G:Gh):VX->Exit->Prop
 | .normal,.normal=>True
 | .exit i,.exit j=>i=j
 | .goto i,.goto j=>i=j
 | .ret,.ret=>True
 | .panic m,.panic c=>∃u,c=[{v:=u,recovered:=false}]/\VR G m u
 | _,_=>False
abbrev VQ:=VX->Env->VH->Prop
def FRX (G:Gh) (n:Sz) (D:List Deferred):VX->Env->Act->Prop
 | .panic _,e,a=>(∀t x,look e t=some x->t<n.lo)/\FR G n D e a
 | _,e,a=>FR G n D e a
def cg (G:Gh) (n:Sz) (D:List Deferred) (Q:VQ):Exit->Act->World->Prop:=fun y a w=>∃x e O H,Gh.Le G H/\WR H O w/\FRX H n D x e a/\XR H x y/\Q x e O
theorem cg.le (h:G.Le H) {Q:VQ} {y:Exit} (hp:cg H n D Q y a w):cg G n D Q y a w:=by
 obtain⟨x,e,O,K,h1,h2⟩:=hp;exact⟨x,e,O,K,h.trans h1,h2⟩
theorem cg.mono {Q Q':VQ} (hQ:∀x e O,Q x e O->Q' x e O) {y:Exit} (hp:cg G n D Q y a w):cg G n D Q' y a w:=by
 obtain⟨x,e,O,K,h1,h2,h3,h4,h5⟩:=hp;exact⟨x,e,O,K,h1,h2,h3,h4,hQ _ _ _ h5⟩
theorem DC:∀t x,look (ky n e) t=some x->t<n.lo:=fun t x hx=>by
 rw[xA]at hx;split at hx
 ·assumption
 ·cases hx
theorem AN:∀t x,look (ky n e) t=some x->look e t=some x:=fun t x hx=>by
 rw[xA]at hx;split at hx
 ·exact hx
 ·cases hx
def il (P:Program) (n:Sz) (D:List Deferred) (ops:Array Oper) (l:List Nat) (e:Env) (O:VH) (Q:VQ):Prop:=
 ∀G a w,WR G O w->FR G n D e a->wpOps P ops (cg G n D Q) l a w
def VC (P:Program) (n:Sz) (D:List Deferred) (c:Code) (e:Env) (O:VH) (Q:VQ):Prop:=
 ∀G a w,WR G O w->FR G n D e a->c.wp P (cg G n D Q) a w
def aV (d:Option Tmp) (m:MV) (e:Env):Env:=match d with
 | some d=>(d,m)::e
 | none=>e
def bh (n:Sz) (d:Option Tmp):Bool:=match d with
 | some d=>decide (n.lo<=d)&&decide (d<n.n)
 | none=>true
theorem FR.aV (h:FR G n D e a) {d:Option Tmp} (hd:bh n d=true) (hu:VR G m u):FR G n D (aV d m e) (a.put d u):=by
 cases d with
 | none=>exact h
 | some d=>exact FR.put h (by simp[bh]at hd;exact hd.2) hu
def aK (ops:Array Oper) (o:Oper) (e:Env):Option Bool:=
 match o.guard with
 | none=>some true
 | some (j,want)=>match(ops[j]?).bind (·.dst)with
   | some d=>match look e d with
     | some (.v (.bool b))=>some (b==want)
     | some (.tuple [])=>some false
     | _=>none
   | none=>none
theorem bd (h:FR G n D e a) {ops:Array Oper} {o:Oper} {b:Bool} (hv:aK ops o e=some b):Region.wanted o (yielded ops a.tmps)=b:=by
 unfold aK at hv;unfold Region.wanted;split at hv
 ·rename_i hg;injection hv with hv;rw[hg, <-hv]
 ·rename_i j want hg;rw[hg];split at hv
  ·rename_i d hd;split at hv
   ·rename_i b' hl;injection hv with hv;obtain⟨u,h1,h2⟩:=h.get d _ hl;have:=h2.iD;subst this;simp only[yielded,hd,Option.bind_some,h1];rw[<-hv];cases b'<;>cases want<;>rfl
   ·rename_i hl;injection hv with hv;obtain⟨u,h1,h2⟩:=h.get d _ hl;cases h2 with
    | tuple _ _=>
      simp only[yielded,hd,Option.bind_some,h1];rw[<-hv];rfl
   ·cases hv
  ·cases hv
def cw:MV:=.tuple []
theorem jT:VR G cw undef:=VR.tuple (us:=[]) rfl fun i c u h=>by simp at h
theorem il.nil {ops:Array Oper} {Q:VQ} (h:Q .normal e O):il P n D ops [] e O Q:=fun G a w hw hf=>⟨.normal,e,O,G,Gh.Le.refl G,hw,hf,trivial,h⟩
theorem lP {ops:Array Oper} {Q Q':Exit->Act->World->Prop} (hQ:∀y a w,Q y a w->Q' y a w):∀(l:List Nat) (a:Act) (w:World),wpOps P ops Q l a w->wpOps P ops Q' l a w:=by
 intro l;induction l with
 | nil=>intro a w h;exact hQ _ _ _ h
 | cons i rest ih=>
   intro a w h;rw[wpOps_cons]at h ⊢;have h1:=wpOp_mono (K':=wpOps P ops Q' rest) ih h;unfold wpOp at h1 ⊢;split
   ·rename_i ho;simp only[ho]at h1;exact h1
   ·rename_i o ho;simp only[ho]at h1;split
    ·rename_i rA;simp only[rA,if_true]at h1;refine h1.imp (fun h2=>?_) (fun⟨h2,a',w',h3⟩=>⟨h2,a',w',hQ _ _ _ h3⟩);unfold Oper.wp at h2 ⊢;generalize (execOp a.eval o).run P w=r at*;cases r with
     | ok nx w'=>
       cases nx<;>simp only[Oper.upon]at h2 ⊢ <;>first
        | exact h2
        | (refine Calls.mono h2 fun x F3 he=>?_
           cases x with
           | returned v=>exact he
           | panicked c=>exact hQ _ _ _ he
           | outgrown=>obtain⟨a',w',h3⟩:=he;exact⟨a',w',hQ _ _ _ h3⟩)
     | halt x w'=>cases x<;>simp only[Oper.upon]at h2 ⊢ <;>first | exact h2 | exact hQ _ _ _ h2
    ·rename_i rA;simp only[rA]at h1;exact h1
theorem il.step (ht:aM P tab) {ops:Array Oper} {i:Nat} {l:List Nat} {o:Oper} {Q:VQ} (ho:ops[i]?=some o) (hg:aK ops o e=some true) (hv:cT tab o e O=some (m,O')) (hd:bh n o.dst=true)
  (h:il P n D ops l (aV o.dst m e) O' Q):il P n D ops (i::l) e O Q:=by
 intro G a w hw hf;obtain⟨nx,w',H,u,hr,qh,h1,h2,h3,_⟩:=CW (P:=P) ht hw hf hv;simp only[wpOps,ho,bd hf hg,if_true];refine .inl ?_;unfold Oper.wp;rw[hr]
 have hk:wpOps P ops (cg G n D Q) l (a.put o.dst u) w':=by
  exact lP (fun _ _ _=>cg.le h1) l _ _ (h H (a.put o.dst u) w' h2 ((hf.mono h1).aV hd h3))
 rcases qh with rfl | ⟨rfl,rfl⟩
 ·exact hk
 ·exact hk
theorem il.skip {ops:Array Oper} {i:Nat} {l:List Nat} {o:Oper} {Q:VQ} (ho:ops[i]?=some o) (hg:aK ops o e=some false) (hd:bh n o.dst=true)
  (h:il P n D ops l (aV o.dst cw e) O Q):il P n D ops (i::l) e O Q:=by
 intro G a w hw hf;simp only[wpOps,ho,bd hf hg,Bool.false_eq_true,if_false];exact h G _ w hw (hf.aV hd jT)
inductive fO where
 | ret (m:MV) | panic (m:MV)
def ER (G:Gh):fO->Ending->Prop
 | .ret m,.returned v=>VR G m v
 | .panic m,.panicked c=>∃u,c=[{v:=u,recovered:=false}]/\VR G m u
 | _,_=>False
def VF (P:Program) (f:FuncId) (args:List MV) (O:VH) (R:fO->VH->Prop):Prop:=
 ∀G w vs,WR G O w->aO G args vs->Calls P f vs.toArray w fun x w'=>∃r O' H,Gh.Le G H/\WR H O' w'/\ER H r x/\R r O'
theorem VF.mono {f:FuncId} {args:List MV} {R R':fO->VH->Prop} (hR:∀r O,R r O->R' r O) (h:VF P f args O R):VF P f args O R':=
 fun G w vs hw hv=>(h G w vs hw hv).mono fun _ _ ⟨r,O',H,h1,h2,h3,h4⟩=>⟨r,O',H,h1,h2,h3,hR _ _ h4⟩
def Enters (P:Program) (f:FuncId):Prop:=∀args w,(callFunc f args).run P w= .ok (.enter f args) w
theorem Enters.of {f:FuncId} {fn:Func} (hf:P.funcs[f]?=some fn) (hn:(fn.name== "runtime.NumGoroutine")=false) (hb:fn.body.isNone=false):Enters P f:=by
 intro args w;have XY:fn.name≠ "runtime.NumGoroutine" :=by simpa using hn
 have mz:fn.body≠none:=by intro h;rw[h]at hb;cases hb
 simp[callFunc,program,Sem.run,hf,XY,mz]
theorem il.call {ops:Array Oper} {i:Nat} {l:List Nat} {o:Oper} {Q:VQ} {c:Call} {f:Operand} {id:FuncId} {fs ms cs:List MV} {R:fO->VH->Prop} (ho:ops[i]?=some o) (hg:aK ops o e=some true) (si:o.op= .call c) (hc:c.callee= .value f)
  (hf:ev e f=some (.func (.func id) fs cs)) (hm:fE e c.args.toList=some ms) (hE:Enters P id) (hd:bh n o.dst=true) (hR:VF P id (fs++ms++cs) O R)
  (h:∀r O',R r O'->match r with
   | .ret m=>il P n D ops l (aV o.dst m e) O' Q
   | .panic m=>Q (.panic m) (ky n e) O'):il P n D ops (i::l) e O Q:=by
 intro G a w hw aS;have rB:=aS.ev hf;generalize AO:a.eval f=fv at rB;cases rB with
 | func h1 h2 h3 h4=>
   rename_i us vs;have gH:=aS.fE hm;have j8:=aO.append (aO.append (show aO G fs us from⟨h1,h2⟩) gH) (show aO G cs vs from⟨h3,h4⟩)
   have bU:(execOp a.eval o).run P w= .ok (.enter id (us++c.args.toList.map a.eval++vs).toArray) w:=by
    have ha:c.args.map a.eval=(c.args.toList.map a.eval).toArray:=by apply Array.ext';simp
    have:us.toArray++c.args.map a.eval++vs.toArray=(us++c.args.toList.map a.eval++vs).toArray:=by apply Array.ext';simp[ha]
    simp only[execOp,si,resolve,hc,AO,Deferred.ofValue,Sem.run_bind,Sem.run_pure,Result.andThen_ok,invoke,hE _ w];rw[this]
   simp only[wpOps,ho,bd aS hg,if_true];refine .inl ?_;unfold Oper.wp;rw[bU];show Calls P id _ w _;refine(hR G w _ hw j8).mono ?_;rintro x w' ⟨r,O',H,g1,g2,g3,g4⟩;have hk:=h r O' g4;cases r with
   | ret m=>
     cases x with
     | returned v=>exact lP (fun _ _ _=>cg.le g1) l _ _ (hk H _ w' g2 ((aS.mono g1).aV hd g3))
     | panicked c=>exact g3.elim
     | outgrown=>exact g3.elim
   | panic m=>
     cases x with
     | returned v=>exact g3.elim
     | panicked c=>exact⟨.panic m,ky n e,O',H,g1,g2,⟨DC,(aS.mono g1).less AN⟩,g3,hk⟩
     | outgrown=>exact g3.elim
theorem VC.mono {c:Code} {Q Q':VQ} (hQ:∀x e O,Q x e O->Q' x e O) (h:VC P n D c e O Q):VC P n D c e O Q':=
 fun G a w hw hf=>wp_mono (h G a w hw hf) fun _ _ _=>cg.mono hQ
theorem VC.env {c:Code} {Q:VQ} (h:VC P n D c e' O Q) (hl:∀t x,look e' t=some x->look e t=some x):VC P n D c e O Q:=
 fun G a w hw hf=>h G a w hw (hf.less hl)
theorem VC.skip {Q:VQ} (h:Q .normal e O):VC P n D .skip e O Q:=fun G a w hw hf=>wp_skip ⟨.normal,e,O,G,Gh.Le.refl G,hw,hf,trivial,h⟩
theorem VC.exit {Q:VQ} {id:Nat} (h:Q (.exit id) e O):VC P n D (.exit id) e O Q:=fun G a w hw hf=>wp_exit ⟨.exit id,e,O,G,Gh.Le.refl G,hw,hf,rfl,h⟩
theorem VC.label {Q:VQ} {l:Nat} (h:Q .normal e O):VC P n D (.label l) e O Q:=fun G a w hw hf=>wp_label ⟨.normal,e,O,G,Gh.Le.refl G,hw,hf,trivial,h⟩
def sj (Q:VQ):VQ:=fun x e O=>match x with
 | .goto _=>False
 | x=>Q x e O
theorem VC.scope {c:Code} {Q:VQ} (h:VC P n D c e O (sj Q)):VC P n D (.scope c) e O Q:=by
 intro G a w hw hf;refine wp_scope_straight (wp_mono (h G a w hw hf) ?_);rintro y a' w' ⟨x,e',O',H,h1,h2,h3,h4,h5⟩
 cases y<;>cases x<;>first
  | exact False.elim h4
  | exact h5.elim
  | exact⟨_,e',O',H,h1,h2,h3,h4,h5⟩
theorem VC.ret {Q:VQ} (h:Q .ret e O):VC P n D .ret e O Q:=fun G a w hw hf=>wp_ret ⟨.ret,e,O,G,Gh.Le.refl G,hw,hf,trivial,h⟩
theorem VC.seq {c d:Code} {Q:VQ} (h:VC P n D c e O fun x e O=>match x with
  | .normal=>VC P n D d e O Q
  | x=>Q x e O):VC P n D (.seq c d) e O Q:=by
 intro G a w hw hf;refine wp_seq (wp_mono (h G a w hw hf) ?_);rintro y a' w' ⟨x,e',O',H,h1,h2,h3,h4,h5⟩
 cases y<;>cases x<;>first
  | exact False.elim h4
  | exact wp_mono (h5 H a' w' h2 h3) fun _ _ _=>cg.le h1
  | exact⟨_,e',O',H,h1,h2,h3,h4,h5⟩
theorem VC.cond {c:Operand} {x y:Code} {t:Bool} {Q:VQ} (hc:ev e c=some (.v (.bool t))) (h1:t=true->VC P n D x e O Q) (h2:t=false->VC P n D y e O Q):VC P n D (.cond c x y) e O Q:=by
 intro G a w hw hf;have FZ:a.eval c= .bool t:=(hf.ev hc).iD;exact wp_cond_split FZ (fun ht=>h1 ht G a w hw hf) (fun ht=>h2 ht G a w hw hf)
theorem VC.block {c:Code} {id:Nat} {Q:VQ} (h:VC P n D c e O fun x e O=>match x with
  | .exit i=>if i=id then Q .normal e O else Q (.exit i) e O
  | x=>Q x e O):VC P n D (.block id c) e O Q:=by
 intro G a w hw hf;refine wp_block (wp_mono (h G a w hw hf) ?_);rintro y a' w' ⟨x,e',O',H,h1,h2,h3,h4,h5⟩;cases y with
 | exit j=>
   cases x with
   | exit i=>
     obtain rfl:i=j:=h4;simp only[Exit.inBlock];simp only at h5;split
     ·rename_i hi;rw[if_pos hi]at h5;exact⟨.normal,e',O',H,h1,h2,h3,trivial,h5⟩
     ·rename_i hi;rw[if_neg hi]at h5;exact⟨.exit i,e',O',H,h1,h2,h3,rfl,h5⟩
   | _=>exact False.elim h4
 | _=>cases x<;>first
   | exact False.elim h4
   | exact⟨_,e',O',H,h1,h2,h3,h4,h5⟩
theorem sk {c:Code} {Q Q':Exit->Act->World->Prop} (hQ:∀y a w,Q y a w->Q' y a w):∀(k:Nat) (a:Act) (w:World),Code.rounds P c Q k a w->Code.rounds P c Q' k a w
 | 0,_,_,h=>h.elim
 | k+1,a,w,h=>by
   rw[rounds_succ]at h ⊢;refine wp_mono h fun y a' w' hy=>?_
   cases y<;>first
    | exact sk hQ k a' w' hy
    | exact hQ _ _ _ hy
theorem xL {c:Code} {Q:Exit->Act->World->Prop}:∀(k j:Nat) (a:Act) (w:World),k<=j->Code.rounds P c Q k a w->Code.rounds P c Q j a w
 | 0,_,_,_,_,h=>h.elim
 | k+1,0,_,_,hj,_=>absurd hj (by omega)
 | k+1,j+1,a,w,hj,h=>by
   rw[rounds_succ]at h ⊢;refine wp_mono h fun y a' w' hy=>?_
   cases y<;>first
    | exact xL k j a' w' (by omega) hy
    | exact hy
theorem VC.loop {c:Code} {Q:VQ} (I:Nat->Env->VH->Prop) {k:Nat} (h0:I k e O) (h:∀k e O,I k e O->VC P n D c e O fun x e' O'=>match x with
  | .normal=>∃j,j<k/\I j e' O'
  | x=>Q x e' O'):VC P n D (.loop c) e O Q:=by
 intro G a w hw hf;refine wp_loop_rounds (k+1) ?_;induction k using Nat.strongRecOn generalizing e O G a w with
 | _ k ih=>
   rw[rounds_succ];refine wp_mono (h k e O h0 G a w hw hf) ?_;rintro y a' w' ⟨x,e',O',H,h1,h2,h3,h4,h5⟩
   cases y<;>cases x<;>first
    | exact False.elim h4
    | exact⟨_,e',O',H,h1,h2,h3,h4,h5⟩
    | (obtain⟨j,hj,hI⟩:=h5
       exact xL (j+1) k a' w' (by omega) (sk (fun _ _ _=>cg.le h1) _ _ _ (ih j hj hI H a' w' h2 h3)))
theorem VC.region {id:Nat} {ops:Array Oper} {Q:VQ} (h:il P n D ops (List.range ops.size) e O Q):VC P n D (.region id ops false) e O Q:=
 fun G a w hw hf=>wp_region (h G a w hw hf)
def jM (tab:bV) (e:Env) (O:VH):ResultVar->Option MV
 | .tmp t=>look e t
 | .cell x t=>(look e x).bind (eM tab O t)
def c8 (tab:bV) (fn:Func) (e:Env) (O:VH):Option MV:=
 match fn.results.toList.mapM (jM tab e O)with
 | some [m]=>some m
 | some l=>some (.tuple l)
 | none=>none
def yV (tmps:Array Value):ResultVar->Sem Value
 | .tmp t=>pure (tmps.getD t undef)
 | .cell x t=>do loadVar t (<-asAddr (tmps.getD x undef))
theorem KK (fn:Func) (tmps:Array Value):results fn tmps=(do let vs<-fn.results.mapM (yV tmps);pure (if h:vs.size=1 then vs[0]else .tuple vs)):=by
 unfold results
 congr 1
theorem BM (ht:aM P tab) (hw:WR G O w) (hf:FR G n D e a):∀(l:List ResultVar) (ms:List MV),l.mapM (jM tab e O)=some ms->
  ∃us,(l.mapM (yV a.tmps)).run P w= .ok us w/\aO G ms us
 | [],ms,h=>by simp at h;subst h;exact⟨[],rfl,aO.nil⟩
 | r::l,ms,h=>by
   simp only[List.mapM_cons,Option.bind_eq_bind,Option.bind_eq_some_iff]at h;obtain⟨m,h1,XL,h2,h3⟩:=h;injection h3 with h3;subst h3
   obtain⟨us,h4,h5⟩:=BM ht hw hf l XL h2
   have one:∃u,(yV a.tmps r).run P w= .ok u w/\VR G m u:=by
    cases r with
    | tmp t=>exact⟨_,rfl,hf.ev (x:=.tmp t) h1⟩
    | cell x t=>
      obtain⟨p,h6,h7⟩:=Option.bind_eq_some_iff.1 h1;have hp:VR G p (a.tmps.getD x undef):=hf.ev (x:=.tmp x) h6;simp only[yV];generalize a.tmps.getD x undef=pv at hp ⊢
      have acq:∃ad,pv= .pointer (some ad):=by
       have hc:∃cs off,cellsOf O p=some (cs,off):=by
        unfold eM at h7;split at h7
        ·exact⟨_,_, ‹_›⟩
        ·cases h7
       obtain⟨cs,off,hc⟩:=hc;obtain⟨b,o,_,rfl,_⟩:=KB hw hp hc;exact⟨_,rfl⟩
      obtain⟨ad,rfl⟩:=acq;obtain⟨u,g1,g2⟩:=Dq (P:=P) ht hw h7 hp;refine⟨u,?_,g2⟩;simp only[asAddr,Sem.run_bind,Sem.run_pure,Result.andThen_ok];simpa[Instr.loadAt,Instr.sureAddr]using g1
   obtain⟨u,g1,g2⟩:=one;refine⟨u::us,?_,aO.cons g2 h5⟩;rw[List.mapM_cons,Sem.run_bind,g1,Result.andThen_ok,Sem.run_bind,h4];rfl
theorem kN (ht:aM P tab) (hw:WR G O w) (hf:FR G n D e a) {fn:Func} (h:c8 tab fn e O=some m):∃u,(results fn a.tmps).run P w= .ok u w/\VR G m u:=by
 have GZ:∀ms,fn.results.toList.mapM (jM tab e O)=some ms->∃us,(fn.results.mapM (yV a.tmps)).run P w= .ok us.toArray w/\aO G ms us:=fun ms hm=>by
  obtain⟨us,h1,h2⟩:=BM (P:=P) ht hw hf _ ms hm;refine⟨us,?_,h2⟩;rw[Array.mapM_eq_mapM_toList, <-bind_pure_comp,Sem.run_bind,h1];rfl
 unfold c8 at h;rw[KK];split at h
 ·rename_i p hp;injection h with h;subst h
  obtain⟨us,h1,h2⟩:=GZ _ hp;obtain⟨u,TO,rfl,h3,h4⟩:=h2.eh;rw[h4.ic]at h1;exact⟨u,by rw[Sem.run_bind,h1];rfl,h3⟩
 ·rename_i l hl hp;injection h with h;subst h
  obtain⟨us,h1,h2⟩:=GZ _ hp
  have hne:us.length≠1:=fun h5=>by
   have:=h2.1;rw[h5]at this
   match l,this with
   | [x],_=>exact hl x rfl
  refine⟨.tuple us.toArray,?_,.tuple h2.1 h2.2⟩;rw[Sem.run_bind,h1,Result.andThen_ok];simp[hne]
 ·cases h
def cf:Nat->List MV->Env
 | _,[]=>[]
 | k,m::l=>(k,m)::cf (k+1) l
theorem im:∀(l:List MV) (k t:Nat),look (cf k l) t=if k<=t then l[t - k]? else none
 | [],k,t=>by simp[cf,look]
 | m::l,k,t=>by
   simp only[cf,look];by_cases e:t=k
   ·subst e;simp
   ·have:(t==k)=false:=by simpa using e
    rw[this,cond_false,im l (k+1) t];by_cases h:k<=t
    ·rw[if_pos h,if_pos (by omega)];obtain⟨j,hj⟩:∃j,t - k=j+1:=⟨t - k - 1,by omega⟩
     rw[hj,show t - (k+1)=j from by omega];rfl
    ·rw[if_neg h,if_neg (by omega)]
theorem VF.enter (ht:aM P tab) {f:FuncId} {fn:Func} {c:Code} {args:List MV} {R:fO->VH->Prop} (hf:P.funcs[f]?=some fn) (hb:fn.body=some c) (hn:args.length<=fn.ntmps)
  (h:VC P ⟨fn.ntmps,0⟩ [] c (cf 0 args) O fun x e O'=>match x with
   | .normal=>∃m,c8 tab fn e O'=some m/\R (.ret m) O'
   | .ret=>∃m,c8 tab fn e O'=some m/\R (.ret m) O'
   | .panic m=>R (.panic m) O'
   | _=>False):VF P f args O R:=by
 intro G w vs hw hv;refine calls_of_wp hf hb ?_
 have aS:FR G ⟨fn.ntmps,0⟩ [] (cf 0 args) {tmps:=vs.toArray++Array.replicate (fn.ntmps - vs.toArray.size) undef,defers:=[]}:=by
  have hl:=hv.1;refine⟨rfl,by simp;omega,fun t x hx=>?_⟩;rw[im,if_pos (Nat.zero_le _),Nat.sub_zero]at hx;obtain⟨u,h1,h2⟩:=hv.get hx;refine⟨u,?_,h2⟩;have eb:=(List.getElem?_eq_some_iff.1 h1).1;rw[Array.getElem?_append_left (by simpa using eb)];simpa using h1
 refine wp_mono (h G _ w hw aS) ?_;rintro y a' w' ⟨x,e',O',H,h1,h2,h3,h4,h5⟩;cases y with
 | normal=>
   cases x<;>first
    | exact False.elim h4
    | (obtain⟨m,h6,h7⟩:=h5
       obtain⟨u,h8,h9⟩:=kN (P:=P) ht h2 h3 h6;exact⟨h3.defers,u,h8,.ret m,O',H,h1,h2,h9,h7⟩)
 | ret=>
   cases x<;>first
    | exact False.elim h4
    | (obtain⟨m,h6,h7⟩:=h5
       obtain⟨u,h8,h9⟩:=kN (P:=P) ht h2 h3 h6;exact⟨h3.defers,u,h8,.ret m,O',H,h1,h2,h9,h7⟩)
 | panic c=>
   cases x<;>first
    | exact False.elim h4
    | exact⟨h3.2.defers,.panic _,O',H,h1,h2,h4,h5⟩
 | exit i=>cases x<;>first | exact False.elim h4 | exact h5.elim
 | goto i=>cases x<;>first | exact False.elim h4 | exact h5.elim
 | outgrown=>cases x<;>exact False.elim h4
end
section
variable {G H:Gh} {n:Sz} {D:List Deferred} {e e':Env} {a:Act} {P:Program} {tab:bV} {O O':VH} {w:World} {m m':MV} {u v:Value} {ops:Array Oper} {Q:VQ}
def bY (P:Program) (n:Sz) (D:List Deferred) (ops:Array Oper) (fuel:Nat) (listed:Array Bool) (e:Env) (O:VH) (Q:VQ):Prop:=
 ∀G a w,WR G O w->FR G n D e a->wpAnyH P .any ops (cg G n D Q) (SS G) fuel listed a w
theorem VC.draw {id:Nat} (hm:P.follows .mixedOrders=true) (h:bY P n D ops ops.size (Array.replicate ops.size false) e O Q):VC P n D (.region id ops true) e O Q:=
 fun G a w hw hf=>wp_region_held (S:=SS G) hm (h G a _ (hw.drawn _) hf)
theorem gQ {d:Option Tmp} (F4:bh n d=true) {v:Value} (c:List PanicEntry) (a:Act) (w:World) (h:cg G n D Q (.panic c) (a.put d v) w):cg G n D Q (.panic c) a w:=by
 obtain⟨x,e,O,H,h1,h2,h3,h4,h5⟩:=h;cases x with
 | panic m=>
   obtain⟨tR,h3⟩:=h3
   have hd:a.defers=D:=by
    have:=h3.defers;cases d<;>exact this
   have hz:a.tmps.size=n.n:=by
    have:=h3.size;cases d with
    | none=>exact this
    | some d=>simpa[Act.put]using this
   refine⟨.panic m,e,O,H,h1,h2,⟨tR,hd,hz,fun t x hx=>?_⟩,h4,h5⟩;obtain⟨u,g1,g2⟩:=h3.get t x hx;refine⟨u,?_,g2⟩;cases d with
   | none=>exact g1
   | some d=>
     have ht:=tR t x hx;have fP:n.lo<=d:=by simp[bh]at F4;exact F4.1
     have hne:d≠t:=fun e=>Nat.lt_irrefl _ (Nat.lt_of_lt_of_le ht (e▸fP))
     simpa[Act.put,hne]using g1
 | _=>exact False.elim h4
theorem bY.R5 (ht:aM P tab) {fuel i:Nat} {listed:Array Bool} {o:Oper} (ho:ops[i]?=some o) (hs:Region.noSelect ops=true) (hf:Region.free .any ops listed i=true) (hr:(Region.ready .any ops listed).contains i=true)
  (hg:aK ops o e=some true) (hv:ei tab o e=some m) (hd:bh n o.dst=true) (h:bY P n D ops fuel (listed.setIfInBounds i true) (aV o.dst m e) O Q):bY P n D ops (fuel+1) listed e O Q:=by
 intro G a w hw aS;obtain⟨u,hu,bU⟩:=ui (P:=P) ht aS hv;exact wpAnyH_take ho hs hf hr (gQ hd) (.inl ⟨bd aS hg,bU⟩) hw.ss (h G _ w hw (aS.aV hd hu))
theorem bY.XZ {fuel i:Nat} {listed:Array Bool} {o:Oper} (ho:ops[i]?=some o) (hs:Region.noSelect ops=true) (hf:Region.free .any ops listed i=true) (hr:(Region.ready .any ops listed).contains i=true)
  (hg:aK ops o e=some false) (hd:bh n o.dst=true) (h:bY P n D ops fuel (listed.setIfInBounds i true) (aV o.dst cw e) O Q):bY P n D ops (fuel+1) listed e O Q:=by
 intro G a w hw aS;exact wpAnyH_take ho hs hf hr (gQ hd) (.inr ⟨bd aS hg,rfl⟩) hw.ss (h G _ w hw (aS.aV hd jT))
theorem bY.done {fuel:Nat} {listed:Array Bool} (hr:Region.ready .any ops listed=[]) (h:Q .normal e O):bY P n D ops fuel listed e O Q:=
 fun G a w hw aS=>wpAnyH_done hr ⟨.normal,e,O,G,Gh.Le.refl G,hw,aS,trivial,h⟩ fuel
theorem KL {Q Q':Exit->Act->World->Prop} {S S':World->Prop} (hQ:∀y a w,Q y a w->Q' y a w) (hS:∀w,S w->S' w):∀(fuel:Nat) (listed:Array Bool) (a:Act) (w:World),wpAnyH P .any ops Q S fuel listed a w->wpAnyH P .any ops Q' S' fuel listed a w:=by
 intro fuel;induction fuel with
 | zero=>intro listed a w h;exact⟨h.1,hQ _ _ _ h.2⟩
 | succ fuel ih=>
   intro listed a w h;refine⟨fun h0=>hQ _ _ _ (h.1 h0),fun i hi=>?_⟩;have h1:=wpOp_mono (K':=fun a' w'=>S' w'/\wpAnyH P .any ops Q' S' fuel (listed.setIfInBounds i true) a' w') (fun a' w' h'=>⟨hS _ h'.1,ih _ _ _ h'.2⟩) (h.2 i hi);unfold wpOp at h1 ⊢;split
   ·rename_i ho;simp only[ho]at h1;exact h1
   ·rename_i o ho;simp only[ho]at h1;split
    ·rename_i rA;simp only[rA,if_true]at h1;refine h1.imp (fun h2=>?_) (fun⟨h2,a',w',h3⟩=>⟨h2,a',w',hQ _ _ _ h3⟩);unfold Oper.wp at h2 ⊢;generalize (execOp a.eval o).run P w=r at*;cases r with
     | ok nx w'=>
       cases nx<;>simp only[Oper.upon]at h2 ⊢ <;>first
        | exact h2
        | (refine Calls.mono h2 fun x F3 he=>?_
           cases x with
           | returned v=>exact he
           | panicked c=>exact hQ _ _ _ he
           | outgrown=>obtain⟨a',w',h3⟩:=he;exact⟨a',w',hQ _ _ _ h3⟩)
     | halt x w'=>cases x<;>simp only[Oper.upon]at h2 ⊢ <;>first | exact h2 | exact hQ _ _ _ h2
    ·rename_i rA;simp only[rA]at h1;exact h1
theorem SS.le (h:G.Le H) {w:World} (hs:SS H w):SS G w:=fun b o u hc=>hs b o u (h.d_ hc)
def aI (P:Program) (n:Sz) (D:List Deferred) (ops:Array Oper) (i:Nat) (e:Env) (O:VH) (Q:VQ) (K:Env->VH->Prop):Prop:=
 ∀G a w,WR G O w->FR G n D e a->wpOp P ops (cg G n D Q) i (fun a' w'=>∃e' O' H,Gh.Le G H/\WR H O' w'/\FR H n D e' a'/\K e' O') a w
theorem aI.op (ht:aM P tab) {i:Nat} {o:Oper} {K:Env->VH->Prop} (ho:ops[i]?=some o) (hg:aK ops o e=some true) (hv:cT tab o e O=some (m,O')) (hd:bh n o.dst=true) (hk:K (aV o.dst m e) O'):aI P n D ops i e O Q K:=by
 intro G a w hw aS;obtain⟨nx,w',H,u,hr,qh,h1,h2,h3,_⟩:=CW (P:=P) ht hw aS hv;simp only[wpOp,ho,bd aS hg,if_true];refine .inl ?_;unfold Oper.wp;rw[hr];have:∃e' O' H,Gh.Le G H/\WR H O' w'/\FR H n D e' (a.put o.dst u)/\K e' O':=⟨_,_,H,h1,h2,(aS.mono h1).aV hd h3,hk⟩
 rcases qh with rfl | ⟨rfl,rfl⟩<;>exact this
theorem aI.call {i:Nat} {o:Oper} {c:Call} {f:Operand} {id:FuncId} {fs ms cs:List MV} {R:fO->VH->Prop} {K:Env->VH->Prop} (ho:ops[i]?=some o) (hg:aK ops o e=some true) (si:o.op= .call c) (hc:c.callee= .value f)
  (hf:ev e f=some (.func (.func id) fs cs)) (hm:fE e c.args.toList=some ms) (hE:Enters P id) (hd:bh n o.dst=true) (hR:VF P id (fs++ms++cs) O R)
  (h:∀r O',R r O'->match r with
   | .ret m=>K (aV o.dst m e) O'
   | .panic m=>Q (.panic m) (ky n e) O'):aI P n D ops i e O Q K:=by
 intro G a w hw aS;have rB:=aS.ev hf;generalize AO:a.eval f=fv at rB;cases rB with
 | func h1 h2 h3 h4=>
   rename_i us vs;have gH:=aS.fE hm;have j8:=aO.append (aO.append (show aO G fs us from⟨h1,h2⟩) gH) (show aO G cs vs from⟨h3,h4⟩)
   have bU:(execOp a.eval o).run P w= .ok (.enter id (us++c.args.toList.map a.eval++vs).toArray) w:=by
    have ha:c.args.map a.eval=(c.args.toList.map a.eval).toArray:=by apply Array.ext';simp
    have:us.toArray++c.args.map a.eval++vs.toArray=(us++c.args.toList.map a.eval++vs).toArray:=by apply Array.ext';simp[ha]
    simp only[execOp,si,resolve,hc,AO,Deferred.ofValue,Sem.run_bind,Sem.run_pure,Result.andThen_ok,invoke,hE _ w];rw[this]
   simp only[wpOp,ho,bd aS hg,if_true];refine .inl ?_;unfold Oper.wp;rw[bU];show Calls P id _ w _;refine(hR G w _ hw j8).mono ?_;rintro x w' ⟨r,O',H,g1,g2,g3,g4⟩;have hk:=h r O' g4;cases r with
   | ret m=>
     cases x with
     | returned v=>exact⟨_,_,H,g1,g2,(aS.mono g1).aV hd g3,hk⟩
     | panicked c=>exact g3.elim
     | outgrown=>exact g3.elim
   | panic m=>
     cases x with
     | returned v=>exact g3.elim
     | panicked c=>exact⟨.panic m,ky n e,O',H,g1,g2,⟨DC,(aS.mono g1).less AN⟩,g3,hk⟩
     | outgrown=>exact g3.elim
theorem il.one {i:Nat} {l:List Nat} (h:aI P n D ops i e O Q fun e' O'=>il P n D ops l e' O' Q):il P n D ops (i::l) e O Q:=by
 intro G a w hw aS;rw[wpOps_cons];exact wpOp_mono (fun a' w' ⟨e',O',H,h1,h2,h3,h4⟩=>lP (fun _ _ _=>cg.le h1) l _ _ (h4 H a' w' h2 h3)) (h G a w hw aS)
theorem bY.all {fuel:Nat} {listed:Array Bool} {rs:List Nat} (hr:Region.ready .any ops listed=rs) (hne:rs≠[])
  (h:∀i∈rs,aI P n D ops i e O Q fun e' O'=>bY P n D ops fuel (listed.setIfInBounds i true) e' O' Q):bY P n D ops (fuel+1) listed e O Q:=by
 intro G a w hw aS;refine wpAnyH_all hr hne fun i hi=>?_
 exact wpOp_mono (fun a' w' ⟨e',O',H,h1,h2,h3,h4⟩=>⟨SS.le h1 h2.ss,KL (fun _ _ _=>cg.le h1) (fun _=>SS.le h1) fuel _ _ _ (h4 H a' w' h2 h3)⟩) (h i hi G a w hw aS)
def iT (P:Program) (md:Region.Mode) (ops:Array Oper) (Q:Exit->Act->World->Prop) (T:Nat->World->Prop):Nat->Array Bool->Act->World->Prop
 | 0,listed,a,w=>Region.ready md ops listed=[]/\Q .normal a w
 | fuel+1,listed,a,w=>
   (Region.ready md ops listed=[]->Q .normal a w)/\
   ∀i∈Region.ready md ops listed,wpOp P ops Q i (fun a' w'=>T i w'/\iT P md ops Q T fuel (listed.setIfInBounds i true) a' w') a w
section
variable {md:Region.Mode} {Q:Exit->Act->World->Prop} {T:Nat->World->Prop}
theorem kz:∀(fuel:Nat) (listed:Array Bool) (a:Act) (w:World),iT P md ops Q T fuel listed a w->wpAny P md ops Q fuel listed a w
 | 0,_,_,_,h=>h
 | fuel+1,_,_,_,h=>⟨h.1,fun i hi=>wpOp_mono (fun a' w' h'=>kz fuel _ a' w' h'.2) (h.2 i hi)⟩
theorem nM {S:World->Prop} {W:Nat->Prop} {brk:Nat->Bool} {i:Nat} {oi:Oper} {v:Value} (hi:ops[i]?=some oi) (DE:∀(j:Nat) (o:Oper) cs b,ops[j]?=some o->o.op≠ .select cs b)
  (hQ:∀c a w,Q (.panic c) (a.put oi.dst v) w->Q (.panic c) a w) (hT:∀j x,brk j=false->T j x->S x) (hTi:∀x,S x->T i x):
  ∀(fuel:Nat) (listed:Array Bool) (a:Act) (w:World),
   (∀j oj,ops[j]?=some oj->j≠i->listed.getD j true=false->(∀e∈oj.after,Region.binds md e=true->e.on≠i)->oi.apart ops oj=true)->
   (∀j oj,ops[j]?=some oj->W j->∃e∈oj.after,Region.binds md e=true/\(e.on=i\/W e.on))->(∀j,W j->listed.getD j true=false)->(∀j,j≠i->listed.getD j true=false->brk j=true->W j)->
   i∈Region.ready md ops listed->YieldsIf P ops S oi v a->S w->
   iT P md ops Q T fuel (listed.setIfInBounds i true) (a.put oi.dst v) w->iT P md ops Q T (fuel+1) listed a w:=by
 intro fuel;induction fuel with
 | zero=>
   intro listed a w _ _ _ _ hr hy hS H;refine⟨fun h=>(by rw[h]at hr;cases hr),fun j hj=>?_⟩;by_cases IE:j=i
   ·subst IE;exact hy.wpOp hi hS ⟨hTi _ hS,H⟩
   ·have:=ready_mono hj IE;rw[H.1]at this;cases this
 | succ fuel ih=>
   intro listed a w X0 hW hWu aeA hr hy hS H;refine⟨fun h=>(by rw[h]at hr;cases hr),fun j hj=>?_⟩;by_cases IE:j=i
   ·subst IE;exact hy.wpOp hi hS ⟨hTi _ hS,H⟩
   ·have h1:=H.2 j (ready_mono hj IE);obtain⟨X5,oj,hoj,j8⟩:=mem_ready.1 hj
    have aeB:∀e∈oj.after,Region.binds md e=true->e.on≠i:=fun e he hb heq=>by
     have h1:=j8 e he hb;have h0:=(mem_ready.1 hr).1;rw[heq]at h1;rcases Nat.lt_or_ge i listed.size with h' | h'
     ·simp[h']at h0 h1;rw[h0]at h1;cases h1
     ·simp[Array.getElem?_eq_none h']at h1
    have hnW:¬W j:=fun hw=>by
     obtain⟨e,he,ct,bZ⟩:=hW j oj hoj hw;rcases bZ with bZ | bZ
     ·exact absurd bZ (aeB e he ct)
     ·have h1:=j8 e he ct;have h0:=hWu _ bZ;rcases Nat.lt_or_ge e.on listed.size with h' | h'
      ·simp[h']at h0 h1;rw[h0]at h1;cases h1
      ·simp[Array.getElem?_eq_none h']at h1
    have XK:brk j=false:=by
     cases hb:brk j with
     | false=>rfl
     | true=>exact absurd (aeA j IE X5 hb) hnW
    have h2:=wpOp_putIf hoj (X0 j oj hoj IE X5 aeB) (fun cs b=>DE i oi cs b hi) (fun cs b=>DE j oj cs b hoj) hQ hy h1
    have aeC:∀k,(listed.setIfInBounds j true).getD k true=false->listed.getD k true=false:=fun k eN=>by
     by_cases X6:j=k
     ·subst X6;exact X5
     ·rw[getD_set_ne true X6]at eN;exact eN
    refine wpOp_mono (fun a' w' h3=>⟨h3.2.1,ih (listed.setIfInBounds j true) a' w' (fun k ok hk hki eN fF=>X0 k ok hk hki (aeC k eN) fF) hW (fun k hk=>by
     by_cases X6:j=k
     ·subst X6;exact absurd hk hnW
     ·rw[getD_set_ne true X6];exact hWu k hk) (fun k hki eN hb=>aeA k hki (aeC k eN) hb) (ready_mono hr (Ne.symm IE)) h3.1 (hT j _ XK h3.2.1) ?_⟩) h2
    rw[Array.setIfInBounds_comm _ _ IE];exact h3.2.2
theorem jn {rs:List Nat} {fuel:Nat} {listed:Array Bool} {a:Act} {w:World} (hr:Region.ready md ops listed=rs) (hne:rs≠[])
  (h:∀i∈rs,wpOp P ops Q i (fun a' w'=>T i w'/\iT P md ops Q T fuel (listed.setIfInBounds i true) a' w') a w):iT P md ops Q T (fuel+1) listed a w:=
 ⟨fun h0=>absurd (hr▸h0) hne,hr▸h⟩
theorem IF {listed:Array Bool} {a:Act} {w:World} (hr:Region.ready md ops listed=[]) (h:Q .normal a w):∀fuel,iT P md ops Q T fuel listed a w
 | 0=>⟨hr,h⟩
 | _+1=>⟨fun _=>h,by rw[hr];simp⟩
theorem TX {Q Q':Exit->Act->World->Prop} (hQ:∀y a w,Q y a w->Q' y a w) {i:Nat} {K:Act->World->Prop} {a:Act} {w:World} (h1:wpOp P ops Q i K a w):wpOp P ops Q' i K a w:=by
 unfold wpOp at h1 ⊢;split
 ·rename_i ho;simp only[ho]at h1;exact h1
 ·rename_i o ho;simp only[ho]at h1;split
  ·rename_i rA;simp only[rA,if_true]at h1;refine h1.imp (fun h2=>?_) (fun⟨h2,a',w',h3⟩=>⟨h2,a',w',hQ _ _ _ h3⟩);unfold Oper.wp at h2 ⊢;generalize (execOp a.eval o).run P w=r at*;cases r with
   | ok nx w'=>
     cases nx<;>simp only[Oper.upon]at h2 ⊢ <;>first
      | exact h2
      | (refine Calls.mono h2 fun x F3 he=>?_
         cases x with
         | returned v=>exact he
         | panicked c=>exact hQ _ _ _ he
         | outgrown=>obtain⟨a',w',h3⟩:=he;exact⟨a',w',hQ _ _ _ h3⟩)
   | halt x w'=>cases x<;>simp only[Oper.upon]at h2 ⊢ <;>first | exact h2 | exact hQ _ _ _ h2
  ·rename_i rA;simp only[rA]at h1;exact h1
theorem jo {Q Q':Exit->Act->World->Prop} {T T':Nat->World->Prop} (hQ:∀y a w,Q y a w->Q' y a w):∀(fuel:Nat) (listed:Array Bool) (a:Act) (w:World),(∀j,listed.getD j true=false->∀x,T j x->T' j x)->
  iT P .any ops Q T fuel listed a w->iT P .any ops Q' T' fuel listed a w:=by
 intro fuel;induction fuel with
 | zero=>intro listed a w _ h;exact⟨h.1,hQ _ _ _ h.2⟩
 | succ fuel ih=>
   intro listed a w hT h;refine⟨fun h0=>hQ _ _ _ (h.1 h0),fun i hi=>?_⟩;have eN:=(mem_ready.1 hi).1
   exact TX hQ (wpOp_mono (fun a' w' h'=>⟨hT i eN _ h'.1,ih _ _ _ (fun j hj x=>hT j (by
    by_cases F5:i=j
    ·subst F5;exact eN
    ·rw[getD_set_ne true F5]at hj;exact hj) x) h'.2⟩) (h.2 i hi))
end
def TH (brk:List Nat) (G:Gh) (w:World) (j:Nat) (x:World):Prop:=brk.contains j=false->Sx G w x
def bD (P:Program) (n:Sz) (D:List Deferred) (ops:Array Oper) (brk:List Nat) (fuel:Nat) (listed:Array Bool) (e:Env) (O:VH) (Q:VQ):Prop:=
 ∀G a w,WR G O w->FR G n D e a->iT P .any ops (cg G n D Q) (TH brk G w) fuel listed a w
theorem VC.IG {id:Nat} (brk:List Nat) (hm:P.follows .mixedOrders=true) (h:bD P n D ops brk ops.size (Array.replicate ops.size false) e O Q):VC P n D (.region id ops true) e O Q:=
 fun G a w hw hf=>wp_region_any hm (kz _ _ _ _ (h G a _ (hw.drawn _) hf))
theorem bD.done {brk:List Nat} {fuel:Nat} {listed:Array Bool} (hr:Region.ready .any ops listed=[]) (h:Q .normal e O):bD P n D ops brk fuel listed e O Q:=
 fun G a w hw aS=>IF hr ⟨.normal,e,O,G,Gh.Le.refl G,hw,aS,trivial,h⟩ fuel
def j9 (ops:Array Oper) (listed:Array Bool) (i:Nat):Nat->List Nat
 | 0=>[]
 | k+1=>(List.range ops.size).filter fun j=> !listed.getD j true&&((ops[j]?).map fun o=>o.after.any fun e=>Region.binds .any e&&(e.on==i||(j9 ops listed i k).contains e.on)).getD false
def lQ (ops:Array Oper) (brk:List Nat) (listed:Array Bool) (i:Nat):Bool:=
 brk.all fun j=>listed.getD j true||j==i||(j9 ops listed i ops.size).contains j
theorem BN {listed:Array Bool} {i:Nat} (j:Nat) (oj:Oper) (hj:ops[j]?=some oj) (h:∃k,j∈j9 ops listed i k):∃e∈oj.after,Region.binds .any e=true/\(e.on=i\/∃k,e.on∈j9 ops listed i k):=by
 obtain⟨k,hk⟩:=h;cases k with
 | zero=>cases hk
 | succ k=>
   simp only[j9,List.mem_filter,hj,Option.map_some,Option.getD_some,Bool.and_eq_true]at hk;obtain⟨e,he,h2⟩:=Array.any_eq_true'.1 hk.2.2;simp only[Bool.and_eq_true,Bool.or_eq_true,beq_iff_eq]at h2;refine⟨e,he,h2.1,?_⟩;rcases h2.2 with h3 | h3
   ·exact .inl h3
   ·exact .inr ⟨k,by simpa using h3⟩
theorem G3 {listed:Array Bool} {i:Nat} (j:Nat) (h:∃k,j∈j9 ops listed i k):listed.getD j true=false:=by
 obtain⟨k,hk⟩:=h;cases k with
 | zero=>cases hk
 | succ k=>
   simp only[j9,List.mem_filter,Bool.and_eq_true,Bool.not_eq_true']at hk;exact hk.2.1
theorem G4 {brk:List Nat} {listed:Array Bool} {i:Nat} (h:lQ ops brk listed i=true):∀j,j≠i->listed.getD j true=false->brk.contains j=true->∃k,j∈j9 ops listed i k:=by
 intro j hne eN hb;have:=List.all_eq_true.1 h j (by simpa using hb);simp only[eN,Bool.false_or,Bool.or_eq_true,beq_iff_eq,hne,false_or]at this;exact⟨_,by simpa using this⟩
theorem bD.take {brk:List Nat} {fuel i:Nat} {listed:Array Bool} {o:Oper} (ho:ops[i]?=some o) (hs:Region.noSelect ops=true) (hf:Region.free .any ops listed i=true) (hr:(Region.ready .any ops listed).contains i=true) (hb:lQ ops brk listed i=true)
  (hd:bh n o.dst=true) (hy:∀G a w,WR G O w->FR G n D e a->∃u,VR G m u/\YieldsIf P ops (Sx G w) o u a) (h:bD P n D ops brk fuel (listed.setIfInBounds i true) (aV o.dst m e) O Q):bD P n D ops brk (fuel+1) listed e O Q:=by
 intro G a w hw aS;obtain⟨u,hu,hyi⟩:=hy G a w hw aS;refine nM (S:=Sx G w) (W:=fun j=>∃k,j∈j9 ops listed i k) (brk:=fun j=>brk.contains j) ho (Region.noSelect_spec hs) (gQ hd) (fun j x hj hT=>hT hj) (fun x hx _=>hx) fuel listed a w (Region.free_spec ho hf) BN G3 (G4 hb) (by simpa using hr) hyi hw.sx (h G _ w hw (aS.aV hd hu))
theorem bD.one (ht:aM P tab) {brk:List Nat} {fuel i:Nat} {listed:Array Bool} {o:Oper} (ho:ops[i]?=some o) (hr:Region.ready .any ops listed=[i]) (hb:(brk.contains i=false/\F1 o.op=true)\/∀j,(listed.setIfInBounds i true).getD j true=false\/j=i->brk.contains j=true)
  (hg:aK ops o e=some true) (hv:cT tab o e O=some (m,O')) (hd:bh n o.dst=true) (h:bD P n D ops brk fuel (listed.setIfInBounds i true) (aV o.dst m e) O' Q):bD P n D ops brk (fuel+1) listed e O Q:=by
 intro G a w hw aS;refine jn hr (by simp) fun j hj=>?_
 obtain rfl:j=i:=by simpa using hj
 obtain⟨nx,w',H,u,bU,qh,h1,h2,h3,h4⟩:=CW (P:=P) ht hw aS hv;simp only[wpOp,ho,bd aS hg,if_true];refine .inl ?_;unfold Oper.wp;rw[bU];have hk:=h H (a.put o.dst u) w' h2 ((aS.mono h1).aV hd h3)
 have X7:TH brk G w j w'/\iT P .any ops (cg G n D Q) (TH brk G w) fuel (listed.setIfInBounds j true) (a.put o.dst u) w':=by
  rcases hb with⟨ct,bZ⟩ | hb
  ·have pc:=h4 bZ;have hs:Sx G w w':=⟨SS.le h1 h2.ss,pc⟩;refine⟨fun _=>hs,jo (fun _ _ _=>cg.le h1) _ _ _ _ (fun k _ x hT Dx=>?_) hk⟩;obtain⟨g1,g2⟩:=hT Dx;exact⟨SS.le h1 g1,fun k' b mz=>(g2 k' b (h1.bJ mz)).trans (pc k' b mz)⟩
  ·refine⟨fun hh=>?_,jo (fun _ _ _=>cg.le h1) _ _ _ _ (fun k Dx x _ hh=>?_) hk⟩
   ·rw[hb j (.inr rfl)]at hh;cases hh
   ·rw[hb k (.inl Dx)]at hh;cases hh
 rcases qh with rfl | ⟨rfl,rfl⟩<;>exact X7
theorem bD.af8 {brk:List Nat} {fuel i:Nat} {listed:Array Bool} {o:Oper} (ho:ops[i]?=some o) (hr:Region.ready .any ops listed=[i]) (hb:(brk.contains i=false/\F1 o.op=true)\/∀j,(listed.setIfInBounds i true).getD j true=false\/j=i->brk.contains j=true)
  (hg:aK ops o e=some false) (hd:bh n o.dst=true) (h:bD P n D ops brk fuel (listed.setIfInBounds i true) (aV o.dst cw e) O Q):bD P n D ops brk (fuel+1) listed e O Q:=by
 intro G a w hw aS;refine jn hr (by simp) fun j hj=>?_
 obtain rfl:j=i:=by simpa using hj
 simp only[wpOp,ho,bd aS hg,Bool.false_eq_true,if_false];exact⟨fun _=>hw.sx,h G _ w hw (aS.aV hd jT)⟩
theorem bD.X8 {brk:List Nat} {fuel i:Nat} {listed:Array Bool} (hr:Region.ready .any ops listed=[i]) (hb:∀j,(listed.setIfInBounds i true).getD j true=false\/j=i->brk.contains j=true)
  (h:aI P n D ops i e O Q fun e' O'=>bD P n D ops brk fuel (listed.setIfInBounds i true) e' O' Q):bD P n D ops brk (fuel+1) listed e O Q:=by
 intro G a w hw aS;refine jn hr (by simp) fun j hj=>?_
 obtain rfl:j=i:=by simpa using hj
 refine wpOp_mono (fun a' w' ⟨e',O',H,h1,h2,h3,h4⟩=>⟨fun hh=>?_,jo (fun _ _ _=>cg.le h1) _ _ _ _ (fun k Dx x _ hh=>?_) (h4 H a' w' h2 h3)⟩) (h G a w hw aS)
 ·rw[hb j (.inr rfl)]at hh;cases hh
 ·rw[hb k (.inl Dx)]at hh;cases hh
end
def IH (d:TypeDesc) (z:Value):Bool:=match ey d,z with
 | true,.agg _=>true
 | true,_=>false
 | false,.agg _=>false
 | false,_=>true
theorem Pr {d:TypeDesc} {z:Value} (h:IH d z=true):(ey d=true->∃cs,z= .agg cs)/\(ey d=false->z.cells= #[z]):=by
 refine⟨fun ha=>?_,fun ha=>?_⟩<;>unfold IH at h<;>rw[ha]at h<;>cases z<;>first | exact⟨_,rfl⟩ | rfl | cases h
def eA (P:Program) (t:TypeId):Option cn:=
 match P.underlying t,P.info? t with
 | some d,some i=>match i.zero with
   | some z=>match z.cells.toList.mapM ofConst with
     | some zs=>if z.cells.size=i.size/\IH d z=true then some ⟨d,i.size,i.bytes,zs⟩else none
     | none=>none
   | none=>none
 | _,_=>none
theorem DF {G:Gh}:∀{us:List Value} {ms:List MV},us.mapM ofConst=some ms->aO G ms us
 | [],ms,h=>by simp at h;subst h;exact aO.nil
 | u::us,ms,h=>by
   simp only[List.mapM_cons,Option.bind_eq_bind,Option.bind_eq_some_iff]at h;obtain⟨m,h1,XL,h2,h3⟩:=h;injection h3 with h3;subst h3
   exact aO.cons (BH h1) (DF h2)
theorem X9 (P:Program):aM P (eA P):=by
 intro t i h;unfold eA at h;split at h
 ·rename_i d ti hd hi;split at h
  ·rename_i z hz;split at h
   ·rename_i zs hzs;split at h
    ·rename_i oc;injection h with h;subst h
     exact⟨hd,⟨ti,z,hi,rfl,rfl,hz,oc.1,fun G=>DF hzs⟩,fun ti' z' h1 h2=>by
      rw[hi]at h1;injection h1 with h1;subst h1
      rw[hz]at h2;injection h2 with h2;subst h2
      exact Pr oc.2⟩
    ·cases h
   ·cases h
  ·cases h
 ·cases h
section
variable {G H:Gh} {n:Sz} {D:List Deferred} {e e':Env} {a:Act} {P:Program} {tab:bV} {O O':VH} {w:World} {m m':MV} {u v:Value} {ops:Array Oper} {Q:VQ}
variable {d:Option Tmp} {t t' ty:TypeId} {p:String} {af:Array Edge} {g:Option (Nat×Bool)} {x y z:Operand}
theorem R6 (k:Nat):ev e (.tmp k)=look e k:=rfl
theorem R7 (k:IntKind) (i:Int):ev e (.const (.int k i))=some (.v (.int k i)):=rfl
theorem KM (b:Bool):ev e (.const (.bool b))=some (.v (.bool b)):=rfl
theorem R8 (s:ByteArray):ev e (.const (.string s))=some (.str s.data.toList):=rfl
theorem G5:ev e (.const (.slice none 0 0))=some (.sl 0 [] .nil):=rfl
theorem DG:ev e (.const (.pointer none))=some (.v (.pointer none)):=rfl
theorem DH:ev e (.const (.map none))=some (.v (.map none)):=rfl
theorem yW:ev e (.const .nilIface)=some (.v .nilIface):=rfl
theorem BO:ev e (.const .nilFunc)=some (.v .nilFunc):=rfl
theorem KN (f:FuncId):ev e (.func f)=some (.func (.func f) [] []):=rfl
theorem lR (k j:Nat) (m:MV) (r:Env):look ((k,m)::r) j=bif j==k then some m else look r j:=rfl
theorem KO:fE e []=some []:=rfl
theorem G6 (x:Operand) (l:List Operand):fE e (x::l)=(ev e x).bind fun m=>(fE e l).map (m:: ·):=by
 simp only[fE,List.mapM_cons,Option.bind_eq_bind];cases ev e x with
 | none=>rfl
 | some m=>cases List.mapM (ev e) l<;>rfl
private theorem aw {o:Oper} {r:Option MV} (h:ei tab o e=r) (hl:iE tab o e O=none):cT tab o e O=r.map (·,O):=by
 unfold cT;rw[h];cases r<;>simp[hl]
theorem G7:cT tab (.mk d (.move x) ty p af g) e O=(ev e x).map (·,O):=aw rfl rfl
theorem BQ:cT tab (.mk d (.assign x) ty p af g) e O=(ev e x).map (·,O):=aw rfl rfl
theorem wY:cT tab (.mk d (.nilCheck x) ty p af g) e O=((ev e x).bind KG).map (·,O):=aw rfl rfl
theorem DI {op:BinOp}:cT tab (.mk d (.binOp op t x y t') ty p af g) e O=((ev e x).bind fun q=>(ev e y).bind fun r=>cP tab op t q r).map (·,O):=by
 refine aw ?_ rfl;simp only[ei];cases ev e x<;>first | rfl | (cases ev e y<;>rfl)
theorem G8 {op:UnOp}:cT tab (.mk d (.unOp op t x) ty p af g) e O=((ev e x).bind (vU op)).map (·,O):=aw rfl rfl
theorem yX:cT tab (.mk d (.convert t t' x) ty p af g) e O=((ev e x).bind (AM tab t t')).map (·,O):=aw rfl rfl
theorem uq {f:Nat}:cT tab (.mk d (.fieldAddr t x f) ty p af g) e O=((ev e x).bind (jm tab t f)).map (·,O):=aw rfl rfl
theorem DJ {f:Nat}:cT tab (.mk d (.field t x f) ty p af g) e O=((ev e x).bind (vQ tab t · f)).map (·,O):=aw rfl rfl
theorem ur:cT tab (.mk d (.indexAddr t x y) ty p af g) e O=((ev e x).bind fun q=>(ev e y).bind fun r=>l_ tab t q r).map (·,O):=by
 refine aw ?_ rfl;simp only[ei];cases ev e x<;>first | rfl | (cases ev e y<;>rfl)
theorem DK:cT tab (.mk d (.index t x y) ty p af g) e O=((ev e x).bind fun q=>(ev e y).bind fun r=>vR tab t q r).map (·,O):=by
 refine aw ?_ rfl;simp only[ei];cases ev e x<;>first | rfl | (cases ev e y<;>rfl)
theorem yY {i:Nat}:cT tab (.mk d (.extract x i) ty p af g) e O=((ev e x).bind (rq · i)).map (·,O):=aw rfl rfl
theorem DL {ps:Array (Nat×Operand)}:cT tab (.mk d (.build t ps) ty p af g) e O=((fE e (ps.toList.map (·.2))).bind fun ms=>vT tab t (fY ps ms)).map (·,O):=by
 refine aw ?_ rfl;simp only[ei];cases fE e (ps.toList.map (·.2))<;>rfl
theorem wZ {fn:Fn} {fs cs:Array Operand}:cT tab (.mk d (.makeFunc fn fs cs) ty p af g) e O=((fE e fs.toList).bind fun q=>(fE e cs.toList).map fun r=>.func fn q r).map (·,O):=by
 refine aw ?_ rfl;simp only[ei];cases fE e fs.toList<;>first | rfl | (cases fE e cs.toList<;>rfl)
theorem DM {lo hi:Option Operand}:cT tab (.mk d (.slice t x lo hi none) ty p af g) e O=((ev e x).bind fun q=>(ei.Cs e lo).bind fun l=>(ei.Cs e hi).bind fun h=>vV tab t q l h).map (·,O):=by
 refine aw ?_ rfl;simp only[ei];cases ev e x<;>first | rfl | (cases ei.Cs e lo<;>first | rfl | (cases ei.Cs e hi<;>rfl))
theorem KP {lo:Option Operand} {hi mx:Operand}:cT tab (.mk d (.slice t x lo (some hi) (some mx)) ty p af g) e O=((ev e x).bind fun q=>(ei.Cs e lo).bind fun l=>(ev e hi).bind fun h=>(ev e mx).bind (ru tab t q l h)).map (·,O):=by
 refine aw ?_ rfl;simp only[ei,show ei.Cs e (some hi)=(ev e hi).map some from rfl];generalize ei.Cs e lo=z;cases ev e x<;>cases z<;>cases ev e hi<;>rfl
theorem G9:ei.Cs e none=some none:=rfl
theorem G_:ei.Cs e (some x)=(ev e x).map some:=rfl
theorem KQ:cT tab (.mk d (.call {callee:=.builtin .len,args:= #[x],argTypes:= #[t]}) ty p af g) e O=(ev e x).bind fun q=>match iW tab t q with
  | some r=>some (r,O)
  | none=>(o_ tab O t q).map (·,O):=by
 simp only[cT,ei,iE];cases ev e x with
 | none=>rfl
 | some q=>
   simp only[Option.bind_some]<;>cases iW tab t q<;>rfl
theorem KR {ts:Array TypeId}:cT tab (.mk d (.call {callee:=.builtin .max,args:= #[x,y],argTypes:=ts}) ty p af g) e O=((ev e x).bind fun q=>(ev e y).bind fun r=>AJ q r).map (·,O):=by
 refine aw ?_ rfl;simp only[ei];cases ev e x<;>first | rfl | (cases ev e y<;>rfl)
theorem KS {ts:Array TypeId}:cT tab (.mk d (.call {callee:=.builtin .min,args:= #[x,y],argTypes:=ts}) ty p af g) e O=((ev e x).bind fun q=>(ev e y).bind fun r=>AK q r).map (·,O):=by
 refine aw ?_ rfl;simp only[ei];cases ev e x<;>first | rfl | (cases ev e y<;>rfl)
theorem Ps {ts:Array TypeId}:cT tab (.mk d (.call {callee:=.builtin .unsafeSliceData,args:= #[x],argTypes:=ts}) ty p af g) e O=((ev e x).bind vW).map (·,O):=aw rfl (by simp only[iE]<;>rfl)
theorem cN:cT tab (.mk d (.call {callee:=.builtin .append,args:= #[x,y],argTypes:= #[t,t]}) ty p af g) e O=(ev e x).bind fun q=>(ev e y).bind fun r=>ij tab O t q r:=by
 simp only[cT,ei,iE,if_true];cases ev e x<;>first | rfl | (cases ev e y<;>rfl)
theorem KT {cs:List MV} {off:Nat}:eM tab O t (.cX cs off)=eM tab O' t (.cX cs off):=rfl
theorem Ha:cT tab (.mk d (.load t x) ty p af g) e O=(ev e x).bind fun q=>(eM tab O t q).map (·,O):=by
 simp only[cT,ei,iE];cases ev e x with
 | none=>rfl
 | some q=>
   cases q<;>try rfl
   rename_i cs off;simp only[Option.bind_some];rw[KT (O':=O)];cases eM tab O t (.cX cs off)<;>rfl
theorem DN:cT tab (.mk d (.store t x y) ty p af g) e O=(ev e x).bind fun q=>(ev e y).bind fun r=>(vO tab O t q r).map (.tuple [], ·):=by
 simp only[cT,ei,iE];cases ev e x<;>first | rfl | (cases ev e y<;>rfl)
theorem KU:cT tab (.mk d (.box t x) ty p af g) e O=(ev e x).map fun q=>(.ptr O.next 0,O.push (.cells (dD q))):=rfl
theorem Pt:cT tab (.mk d (.alloc t) ty p af g) e O=(tab t).map fun i=>(.ptr O.next 0,vX O t i.size i.zero):=rfl
theorem tf {k:Nat} {ps:Array (Nat×Operand)}:cT tab (.mk d (.buildSlice t k ps) ty p af g) e O=(fE e (ps.toList.map (·.2))).bind fun ms=>(kM tab t k (fY ps ms)).map (·,O):=by
 simp only[cT,ei,iE];cases fE e (ps.toList.map (·.2))<;>rfl
theorem uu:cT tab (.mk d (.makeSlice t x y) ty p af g) e O=(ev e x).bind fun q=>(ev e y).bind fun r=>ma tab O t q r:=by
 simp only[cT,ei,iE];cases ev e x<;>first | rfl | (cases ev e y<;>rfl)
theorem yZ:cT tab (.mk d (.makeMap t none) ty p af g) e O=some (.map O.next,O.push (.map [] 0)):=rfl
theorem BR {b:Bool}:cT tab (.mk d (.lookup t x y b) ty p af g) e O=(ev e x).bind fun q=>(ev e y).bind fun r=>(jL tab O t q r b).map (·,O):=by
 simp only[cT,ei,iE];cases ev e x<;>first | rfl | (cases ev e y<;>rfl)
theorem uv {z:Operand}:cT tab (.mk d (.mapUpdate t x y z) ty p af g) e O=(ev e x).bind fun q=>(ev e y).bind fun r=>(ev e z).bind fun s=>(fh tab O t q r s).map (.tuple [], ·):=by
 simp only[cT,ei,iE];cases ev e x<;>first | rfl | (cases ev e y<;>first | rfl | (cases ev e z<;>rfl))
theorem BT {z:Operand}:cT tab (.mk d (.insert t x y z) ty p af g) e O=(ev e x).bind fun q=>(ev e y).bind fun r=>(ev e z).bind fun s=>(fh tab O t q r s).map (.tuple [], ·):=by
 simp only[cT,ei,iE];cases ev e x<;>first | rfl | (cases ev e y<;>first | rfl | (cases ev e z<;>rfl))
section
variable {k:IntKind} {i j:Int}
theorem Hb:cP tab .add t (.v (.int k i)) (.v (.int k j))=some (.v (.int k (k.wrap (i+j)))):=by simp[cP,qo]
theorem Hc:cP tab .sub t (.v (.int k i)) (.v (.int k j))=some (.v (.int k (k.wrap (i - j)))):=by simp[cP,qo]
theorem Hd:cP tab .mul t (.v (.int k i)) (.v (.int k j))=some (.v (.int k (k.wrap (i*j)))):=by simp[cP,qo]
theorem TZ (h:j≠0):cP tab .quo t (.v (.int k i)) (.v (.int k j))=some (.v (.int k (k.wrap (i.tdiv j)))):=by simp[cP,qo,h]
theorem T0 (h:j≠0):cP tab .rem t (.v (.int k i)) (.v (.int k j))=some (.v (.int k (i.tmod j))):=by simp[cP,qo,h]
theorem He:cP tab .eql t (.v (.int k i)) (.v (.int k j))=some (.v (.bool (i==j))):=by simp[cP,qo]
theorem Hf:cP tab .neq t (.v (.int k i)) (.v (.int k j))=some (.v (.bool (i != j))):=by simp[cP,qo]
theorem Hg:cP tab .lss t (.v (.int k i)) (.v (.int k j))=some (.v (.bool (decide (i<j)))):=by simp[cP,qo]
theorem Hh:cP tab .leq t (.v (.int k i)) (.v (.int k j))=some (.v (.bool (decide (i<=j)))):=by simp[cP,qo]
theorem Hi:cP tab .gtr t (.v (.int k i)) (.v (.int k j))=some (.v (.bool (decide (i>j)))):=by simp[cP,qo]
theorem Hj:cP tab .geq t (.v (.int k i)) (.v (.int k j))=some (.v (.bool (decide (i>=j)))):=by simp[cP,qo]
theorem KV:vU .neg (.v (.int k i))=some (.v (.int k (k.wrap (0 - i)))):=rfl
theorem KW {b:Bool}:vU .not (.v (.bool b))=some (.v (.bool !b)):=rfl
theorem wrap_i64 (h0: -9223372036854775808<=i) (h1:i<=9223372036854775807):IntKind.i64.wrap i=i:=by rw[IntKind.wrap_i64];omega
end
theorem y_ {r:Env} {q:Op}:aK ops (.mk d q ty p af none) r=some true:=rfl
theorem zb {q:Op} {j:Nat} {b:Bool}:aK ops (.mk d q ty p af (some (j,b))) e=match(ops[j]?).bind (·.dst)with
  | some k=>match look e k with
    | some (.v (.bool c))=>some (c==b)
    | some (.tuple [])=>some false
    | _=>none
  | none=>none:=rfl
theorem VC.DO {c:Operand} {x y:Code} (hc:ev e c=some (.v (.bool true))) (h:VC P n D x e O Q):VC P n D (.cond c x y) e O Q:=VC.cond hc (fun _=>h) (fun h=>by cases h)
theorem VC.af9 {c:Operand} {x y:Code} (hc:ev e c=some (.v (.bool false))) (h:VC P n D y e O Q):VC P n D (.cond c x y) e O Q:=VC.cond hc (fun h=>by cases h) (fun _=>h)
section
variable {el:TypeId} {a b c d:Nat} {z y:List MV} {u:TypeDesc}
theorem gR {k:Nat} {cs:List MV} {tk:Tok} (h:tab t=some ⟨.slice el,a,b,z⟩):iW tab t (.sl k cs tk)=some (.v (.int .i64 k)):=by simp[iW,h]
theorem Hk {k o i j:Nat} (h:tab t=some ⟨.slice el,a,b,z⟩):iW tab t (.bm k o i j)=some (.v (.int .i64 i)):=by simp[iW,h]
end
end
def mi (x:Int):MV:=.v (.int .i64 x)
def mb (x:Bool):MV:=.v (.bool x)
structure VH.Ge (O O':VH):Prop where
 next:O.next<=O'.next
 hp:∀k,k<O.next->O'.hp k=O.hp k
section
variable {O O1 O2:VH} {x:bW} {k:Nat}
theorem VH.Ge.at {y:Option bW} (g:O.Ge O1) (h:O.hp k=y) (hk:k<O.next:=by omega):O1.hp k=y:=(g.hp k hk).trans h
theorem VH.Ge.refl (O:VH):O.Ge O:=⟨Nat.le_refl _,fun _ _=>rfl⟩
theorem VH.Ge.trans (h:O.Ge O1) (h2:O1.Ge O2):O.Ge O2:=⟨Nat.le_trans h.next h2.next,fun k hk=>(h2.hp k (Nat.lt_of_lt_of_le hk h.next)).trans (h.hp k hk)⟩
theorem VH.aX (O:VH) (x:bW):(O.push x).hp O.next=some x:=aE _ _ _
theorem VH.bp (O:VH) (x:bW) (h:k<O.next):(O.push x).hp k=O.hp k:=ax _ _ (by omega)
theorem VH.pd (O:VH) (x:bW) (h:k≠O.next):(O.push x).hp k=O.hp k:=ax _ _ h
theorem VH.ak (O:VH) (x:bW) {j:Nat} (h:j≠k):(O.set k x).hp j=O.hp j:=ax _ _ h
theorem VH.sn {j:Nat} {y:Option bW} (h:O.hp j=y) (hj:j≠k:=by omega):(O.set k x).hp j=y:=(VH.ak O x hj).trans h
theorem VH.kA (O:VH) {j:Nat} (h:j≠k):(O.kill k).hp j=O.hp j:=ax _ _ h
theorem VH.Ge.push (h:O.Ge O1) (x:bW):O.Ge (O1.push x):=h.trans ⟨Nat.le_succ _,fun _ hk=>VH.bp _ _ hk⟩
theorem VH.Ge.set (h:O.Ge O1) (hk:O.next<=k) (x:bW):O.Ge (O1.set k x):=⟨h.next,fun j hj=>VH.sn (h.hp j hj)⟩
theorem VH.Ge.kill (h:O.Ge O1) (hk:O.next<=k):O.Ge (O1.kill k):=⟨h.next,fun j hj=>(VH.kA _ (by omega)).trans (h.hp j hj)⟩
theorem VH.so (O:VH) (x:bW):(O.push x).next=O.next+1:=rfl
theorem VH.eJ (O:VH) (x:bW):(O.set k x).next=O.next:=rfl
end
def App (O:VH) (B sz:Nat):Tok->Prop
 | .nil=>True
 | .full=>True
 | .own t k=>k=sz/\O.hp t=some .tok/\B<=t/\t<O.next
 | .au=>False
def VH.after (O:VH):Tok->VH
 | .own t _=>(O.kill t).push .tok
 | _=>O.push .tok
theorem VH.fi (O:VH) (tk:Tok):(O.after tk).next=O.next+1:=by cases tk<;>rfl
theorem VH.Pu (O:VH) (tk:Tok):(O.after tk).hp O.next=some .tok:=by
 cases tk<;>first | exact VH.aX _ _ | exact VH.aX (O.kill _) _
theorem App.after {O:VH} {B sz:Nat} {tk:Tok} (hB:B<=O.next):App (O.after tk) B sz (.own O.next sz):=⟨rfl,O.Pu tk,hB,by rw[O.fi];omega⟩
theorem VH.AP {O:VH} {B sz:Nat} {tk:Tok} (ha:App O B sz tk) {k:Nat} {x:bW} (hk:O.hp k=some x) (hx:x≠ .tok) (hl:k<O.next):(O.after tk).hp k=some x:=by
 cases tk with
 | own t j=>
   refine(VH.bp (O.kill t) _ hl).trans ?_;rw[VH.kA _ (fun e=>by subst e;rw[ha.2.1]at hk;injection hk with hk;exact hx hk.symm)];exact hk
 | _=>exact(VH.bp _ _ hl).trans hk
theorem bg {tab:bV} {O:VH} {t el:TypeId} {u:TypeDesc} {a b sz X_:Nat} {z y:List MV} (h:tab t=some ⟨.slice el,a,b,z⟩) (h2:tab el=some ⟨u,sz,X_,y⟩) {B n k:Nat} {cs ds:List MV} {tk tk':Tok} (ha:App O B sz tk)
  (hc:cs.length=n*sz) (hd:ds.length=k*sz) (hl:ds.all dE=true) (hs:0<sz) (hk:k≠0) (hb:(n+k)*X_<=140737488355328) (hm:n+k<=maxLen):
  ij tab O t (.sl n cs tk) (.sl k ds tk')=some (.sl (n+k) (cs++ds) (.own O.next sz),O.after tk):=by
 simp only[ij,h,h2,Option.map_some];rw[if_pos ⟨hd,hl,hs⟩,if_neg hk,if_pos ⟨hc,hb,hm⟩];cases tk with
 | nil=>rfl
 | full=>rfl
 | own s j=>
   obtain⟨rfl,h3,_⟩:=ha;simp only[if_true,h3];rfl
 | au=>exact ha.elim
section
variable {tab:bV} {t el:TypeId} {u:TypeDesc} {a b d:Nat} {z:List MV} {y m0 m1 m2:MV}
end
section
variable {tab:bV} {t el:TypeId} {u:TypeDesc} {a b d:Nat} {z:List MV} {y:MV} {v0 v1 v2:Value}
end
theorem zp1 (i:Nat) (x:Operand) (m:MV):fY #[(i,x)] [m]=[(i,m)]:=rfl
theorem zp2 (i j:Nat) (x y:Operand) (m q:MV):fY #[(i,x),(j,y)] [m,q]=[(i,m),(j,q)]:=rfl
theorem zp3 (i j k:Nat) (x y z:Operand) (m q r:MV):fY #[(i,x),(j,y),(k,z)] [m,q,r]=[(i,m),(j,q),(k,r)]:=rfl
theorem ar (x:Int):mi x= .v (.int .i64 x):=rfl
theorem aY (x:Bool):mb x= .v (.bool x):=rfl
def looks (e:Env):List Nat->Option (List MV)
 | []=>some []
 | t::l=>(look e t).bind fun m=>(looks e l).map (m:: ·)
theorem Pv (e:Env):looks e []=some []:=rfl
theorem BU (e:Env) (t:Nat) (l:List Nat):looks e (t::l)=(look e t).bind fun m=>(looks e l).map (m:: ·):=rfl
def pair:List Nat->List MV->Env
 | t::l,m::ms=>(t,m)::pair l ms
 | _,_=>[]
theorem Pw (t:Nat) (l:List Nat) (m:MV) (ms:List MV):pair (t::l) (m::ms)=(t,m)::pair l ms:=rfl
theorem T1 (ms:List MV):pair [] ms=[]:=rfl
section
variable {n:Sz} {D:List Deferred} {e:Env} {P:Program} {O:VH} {Q:VQ} {c:Code}
end
def Hl (P:Program) (n:Sz) (D:List Deferred) (d:Code) (Q:VQ):VQ:=fun x e O=>match x with
 | .normal=>VC P n D d e O Q
 | x=>Q x e O
def iq (id:Nat) (Q:VQ):VQ:=fun x e O=>match x with
 | .exit i=>if i=id then Q .normal e O else Q (.exit i) e O
 | x=>Q x e O
def II {σ :Type} (l:List Nat) (ms: σ ->List MV) (I: σ ->VH->Prop) (μ : σ ->Nat) (s: σ) (Q:VQ):VQ:=fun x e O=>match x with
 | .normal=>∃s',looks e l=some (ms s')/\I s' O/\ μ s'< μ s
 | x=>Q x e O
def mI (tab:bV) (fn:Func) (R:fO->VH->Prop):VQ:=fun x e O=>match x with
 | .normal=>∃m,c8 tab fn e O=some m/\R (.ret m) O
 | .ret=>∃m,c8 tab fn e O=some m/\R (.ret m) O
 | .panic m=>R (.panic m) O
 | _=>False
section
variable {n:Sz} {D:List Deferred} {e:Env} {P:Program} {O:VH} {Q:VQ} {c d:Code} {id i:Nat} {m:MV} {tab:bV} {fn:Func} {R:fO->VH->Prop}
theorem IJ:Hl P n D d Q .normal e O=VC P n D d e O Q:=rfl
theorem Px:Hl P n D d Q (.exit i) e O=Q (.exit i) e O:=rfl
theorem Py:Hl P n D d Q (.goto i) e O=Q (.goto i) e O:=rfl
theorem T6:Hl P n D d Q .ret e O=Q .ret e O:=rfl
theorem KX:Hl P n D d Q (.panic m) e O=Q (.panic m) e O:=rfl
theorem uw:iq id Q .normal e O=Q .normal e O:=rfl
theorem zc:iq id Q (.exit i) e O=if i=id then Q .normal e O else Q (.exit i) e O:=rfl
theorem ze:iq id Q (.goto i) e O=Q (.goto i) e O:=rfl
theorem BV:iq id Q .ret e O=Q .ret e O:=rfl
theorem qM:iq id Q (.panic m) e O=Q (.panic m) e O:=rfl
section
variable {σ :Type} {l:List Nat} {ms: σ ->List MV} {I: σ ->VH->Prop} {μ : σ ->Nat} {s: σ}
theorem KY:II l ms I μ s Q (.exit i) e O=Q (.exit i) e O:=rfl
theorem KZ:II l ms I μ s Q (.goto i) e O=Q (.goto i) e O:=rfl
theorem Pz:II l ms I μ s Q .ret e O=Q .ret e O:=rfl
theorem IK:II l ms I μ s Q (.panic m) e O=Q (.panic m) e O:=rfl
end
theorem ux:sj Q .normal e O=Q .normal e O:=rfl
theorem zf:sj Q (.exit i) e O=Q (.exit i) e O:=rfl
theorem BW:sj Q .ret e O=Q .ret e O:=rfl
theorem w6:sj Q (.panic m) e O=Q (.panic m) e O:=rfl
theorem VC.seq' (h:VC P n D c e O (Hl P n D d Q)):VC P n D (.seq c d) e O Q:=VC.seq h
theorem VC.az (h:VC P n D c e O (iq id Q)):VC P n D (.block id c) e O Q:=VC.block h
theorem VF.acr (ht:aM P tab) {f:FuncId} {c:Code} {args:List MV} (hf:P.funcs[f]?=some fn) (hb:fn.body=some c) (hn:args.length<=fn.ntmps)
  (h:VC P ⟨fn.ntmps,0⟩ [] c (cf 0 args) O (mI tab fn R)):VF P f args O R:=VF.enter ht hf hb hn h
end
section
variable {tab:bV} {n:Sz} {ops:Array Oper} {o:Oper} {l:List Oper} {e:Env} {O O':VH} {d:Option Tmp} {m:MV}
theorem aj (k:Nat):aV (some k) m e=(k,m)::e:=rfl
theorem DP:aV none m e=e:=rfl
theorem DQ {k N:Nat}:bh ⟨N,0⟩ (some k)=decide (k<N):=by simp[bh]
theorem Ya {k N l:Nat}:bh ⟨N,l+1⟩ (some k)=(decide (l<k)&&decide (k<N)):=rfl
theorem DR:bh n none=true:=rfl
end
section
variable {tab:bV} {fn:Func} {R:fO->VH->Prop} {e:Env} {O:VH} {m m':MV} {t t':Nat}
theorem mI.Yb (hf:fn.results= #[]) (h:R (.ret (.tuple [])) O):mI tab fn R .ret e O:=⟨_,by rw[c8,hf];rfl,h⟩
theorem mI.ahy (hf:fn.results= #[.tmp t]) (hl:look e t=some m) (h:R (.ret m) O):mI tab fn R .ret e O:=⟨_,by rw[c8,hf];simp[jM,hl],h⟩
theorem mI.ahz (hf:fn.results= #[.tmp t,.tmp t']) (hl:look e t=some m) (Pp:look e t'=some m') (h:R (.ret (.tuple [m,m'])) O):mI tab fn R .ret e O:=⟨_,by rw[c8,hf];simp[jM,hl,Pp],h⟩
theorem mI.Yc (hf:fn.results= #[]) (h:R (.ret (.tuple [])) O):mI tab fn R .normal e O:=⟨_,by rw[c8,hf];rfl,h⟩
end
section
variable {G H:Gh} {n:Sz} {D:List Deferred} {e e':Env} {a:Act} {P:Program} {tab:bV} {O O':VH} {w:World} {m m':MV} {u v:Value} {ops:Array Oper} {Q:VQ}
def fx:Op->Nat
 | .move _ | .assign _ | .pick .. | .nilCheck _ | .binOp .. | .unOp .. | .convert .. | .fieldAddr .. | .field .. | .indexAddr .. | .index .. | .extract .. | .slice .. | .build .. | .makeFunc .. | .makeInterface .. =>1
 | .load .. =>2
 | .lookup .. =>5
 | .call c=>match c.callee with
   | .value _=>0
   | .builtin .len=>4
   | .builtin .max=>1
   | .builtin .min=>1
   | .builtin .unsafeSliceData=>1
   | _=>3
 | _=>3
theorem Yd {o:Oper} (h:fx o.op=1):iE tab o e O=none:=by
 unfold iE;unfold fx at h
 split<;>first
  | rfl
  | (rename_i ho;rw[ho]at h;cases h)
  | (rename_i ho
     rw[ho]at h
     split<;>first
      | rfl
      | (rename_i hc _ _;simp only[hc]at h;cases h))
theorem Ye {o:Oper} (h:fx o.op=1) (hv:cT tab o e O=some (m,O')):ei tab o e=some m/\O'=O:=by
 unfold cT at hv;rw[Yd h]at hv;split at hv
 ·rename_i p hp;simp only[Option.some.injEq,Prod.mk.injEq]at hv;exact⟨by rw[hp,hv.1],hv.2.symm⟩
 ·cases hv
inductive Fl where
 | one | aw | rd | fk
inductive Md where
 | plain | any | reads
 | held (brk:List Nat)
def CX (tab:bV) (t:TypeId):MV->Option MV
 | .cX cs off=>eM tab ⟨0,fun _=>none⟩ t (.cX cs off)
 | _=>none
def Yf (tab:bV) (o:Oper) (e:Env) (O:VH):Option (MV×VH):=
 match o.op with
 | .load t x=>((ev e x).bind (CX tab t)).map (·,O)
 | _=>none
def R9 (tab:bV) (o:Oper) (e:Env) (O:VH):Option (MV×VH):=
 match o.op with
 | .call c=>match c.callee,c.args.toList,c.argTypes.toList with
   | .builtin .len,[x],[t]=>((ev e x).bind (iW tab t)).map (·,O)
   | _,_,_=>none
 | _=>none
def Hm (tab:bV) (k:Nat) (o:Oper) (e:Env) (O:VH):Option (MV×VH):=
 match k with
 | 1=>cT tab o e O
 | 2=>Yf tab o e O
 | 4=>R9 tab o e O
 | _=>none
def zg (tab:bV) (k:Nat) (o:Oper) (e:Env) (O:VH):Option (MV×VH):=
 match k with
 | 1=>cT tab o e O
 | 2=>cT tab o e O
 | 4=>R9 tab o e O
 | 5=>cT tab o e O
 | _=>none
def ir (tab:bV) (f:Fl) (o:Oper) (e:Env) (O:VH):Option (MV×VH):=
 match f with
 | .one=>cT tab o e O
 | .fk=>none
 | .aw=>Hm tab (fx o.op) o e O
 | .rd=>zg tab (fx o.op) o e O
theorem T7 {o:Oper} (hv:Yf tab o e O=some (m,O')):ei tab o e=some m/\O'=O:=by
 unfold Yf at hv;split at hv
 ·rename_i t x ho;obtain⟨q,h1,h2⟩:=Option.map_eq_some_iff.1 hv;obtain⟨p,h3,h4⟩:=Option.bind_eq_some_iff.1 h1;simp only[Prod.mk.injEq]at h2;refine⟨?_,h2.2.symm⟩;rw[<-h2.1];unfold CX at h4;split at h4
  ·simp only[ei,ho,h3];exact h4
  ·cases h4
 ·cases hv
theorem vY {o:Oper} (hv:R9 tab o e O=some (m,O')):ei tab o e=some m/\O'=O:=by
 unfold R9 at hv;split at hv
 ·rename_i c ho;split at hv
  ·rename_i x t hc ha fc;obtain⟨q,h1,h2⟩:=Option.map_eq_some_iff.1 hv;simp only[Prod.mk.injEq]at h2;refine⟨?_,h2.2.symm⟩;rw[<-h2.1];simp only[ei,ho,hc,ha,fc];exact h1
  ·cases hv
 ·cases hv
theorem ny {o:Oper} (hv:ir tab .aw o e O=some (m,O')):ei tab o e=some m/\O'=O:=by
 simp only[ir,Hm]at hv;split at hv
 ·exact Ye ‹_› hv
 ·exact T7 hv
 ·exact vY hv
 ·cases hv
theorem zj {o:Oper} (h:ei tab o e=some m):cT tab o e O=some (m,O):=by unfold cT;rw[h]
theorem AQ {f:Fl} {o:Oper} (hv:ir tab f o e O=some (m,O')):cT tab o e O=some (m,O'):=by
 cases f with
 | one=>exact hv
 | fk=>cases hv
 | aw=>obtain⟨h1,rfl⟩:=ny hv;exact zj h1
 | rd=>
   simp only[ir,zg]at hv;split at hv
   ·exact hv
   ·exact hv
   ·obtain⟨h1,rfl⟩:=vY hv;exact zj h1
   ·exact hv
   ·cases hv
theorem vZ (ht:aM P tab) (hw:WR G O w) (h:FR G n D e a) {f:Fl} {o:Oper} (hf:f≠ .one) (hv:ir tab f o e O=some (m,O')):O'=O/\∃u,VR G m u/\∀x,Sx G w x->(execOp a.eval o).run P x= .ok (.value u) x:=by
 have aw:∀{m},ei tab o e=some m->∃u,VR G m u/\∀x,Sx G w x->(execOp a.eval o).run P x= .ok (.value u) x:=fun h1=>by
  obtain⟨u,hu,hr⟩:=ui (P:=P) ht h h1;exact⟨u,hu,fun x hx=>hr x hx.1⟩
 cases f with
 | one=>exact absurd rfl hf
 | fk=>cases hv
 | aw=>obtain⟨h1,rfl⟩:=ny hv;exact⟨rfl,aw h1⟩
 | rd=>
   simp only[ir,zg]at hv;split at hv
   ·obtain⟨h1,rfl⟩:=Ye ‹_› hv;exact⟨rfl,aw h1⟩
   ·rename_i hk;unfold cT at hv;split at hv
    ·rename_i p hp;simp only[Option.some.injEq,Prod.mk.injEq]at hv;obtain⟨rfl,rfl⟩:=hv;exact⟨rfl,aw hp⟩
    ·unfold iE at hv
     split at hv<;>first
      | (rename_i t x ho
         obtain⟨p,h1,h2⟩:=Option.bind_eq_some_iff.1 hv;obtain⟨q,h3,h4⟩:=Option.map_eq_some_iff.1 h2;simp only[Prod.mk.injEq]at h4;obtain⟨rfl,rfl⟩:=h4;obtain⟨u,g1,g2⟩:=nR (P:=P) ht hw h3 (h.ev h1);exact⟨rfl,u,g1,fun x hx=>by simp only[execOp,ho,Sem.run_bind,g2 x hx];rfl⟩)
      | (rename_i ho;rw[ho]at hk;simp only[fx]at hk;cases hk)
      | (rename_i ho _ _ _;rw[ho]at hk;simp only[fx]at hk;cases hk)
      | cases hv
      | (rename_i c ho
         exfalso;rw[ho]at hk;simp only[fx]at hk;split at hk<;>cases hk)
   ·obtain⟨h1,rfl⟩:=vY hv;exact⟨rfl,aw h1⟩
   ·rename_i hk;unfold cT at hv;split at hv
    ·rename_i p hp;simp only[Option.some.injEq,Prod.mk.injEq]at hv;obtain⟨rfl,rfl⟩:=hv;exact⟨rfl,aw hp⟩
    ·unfold iE at hv
     split at hv<;>first
      | (rename_i t x k ok ho
         split at hv
         ·rename_i p q h1 h2;obtain⟨r,h3,h4⟩:=Option.map_eq_some_iff.1 hv;simp only[Prod.mk.injEq]at h4;obtain⟨rfl,rfl⟩:=h4;obtain⟨u,g1,g2⟩:=wX (P:=P) ht hw h3 (h.ev h1) (h.ev h2);exact⟨rfl,u,g1,fun x hx=>by simp only[execOp,ho,Sem.run_bind,g2 x hx];rfl⟩
         ·cases hv)
      | (rename_i ho;rw[ho]at hk;simp only[fx]at hk;cases hk)
      | (rename_i ho _ _ _;rw[ho]at hk;simp only[fx]at hk;cases hk)
      | cases hv
      | (rename_i c ho
         exfalso;rw[ho]at hk;simp only[fx]at hk;split at hk<;>cases hk)
   ·cases hv
def cz (md:Md) (ops:Array Oper):Nat->Array Bool->List (Nat×Fl)->Bool
 | _,listed,[]=>Region.ready .any ops listed==[]
 | 0,_,_::_=>false
 | k+1,listed,(i,f)::r=>(match f,md,r with
   | .one,.any,_=>Region.ready .any ops listed==[i]
   | .aw,.any,_=>Region.free .any ops listed i&&(Region.ready .any ops listed).contains i
   | .aw,.reads,_=>Region.free .any ops listed i&&(Region.ready .any ops listed).contains i
   | .rd,.reads,_=>Region.free .any ops listed i&&(Region.ready .any ops listed).contains i
   | .aw,.held brk,_=>Region.free .any ops listed i&&(Region.ready .any ops listed).contains i&&lQ ops brk listed i
   | .rd,.held brk,_=>Region.free .any ops listed i&&(Region.ready .any ops listed).contains i&&lQ ops brk listed i
   | .one,.held brk,_=>Region.ready .any ops listed==[i]&&((!brk.contains i&&((ops[i]?).map fun o=>F1 o.op).getD false)||(brk.contains i&&(List.range listed.size).all fun j=>(listed.setIfInBounds i true).getD j true||brk.contains j))
   | .fk,.any,(j,.one)::_=>(Region.ready .any ops listed==[i,j]||Region.ready .any ops listed==[j,i])&&Region.ready .any ops (listed.setIfInBounds i true)==[j]&&Region.ready .any ops (listed.setIfInBounds j true)==[i]
   | _,_,_=>false)&&cz md ops k (listed.setIfInBounds i true) r
def Fits (ops:Array Oper):List (Nat×Fl)->List (Fl×Oper)->Prop
 | [],[]=>True
 | (i,f)::ix,(g,o)::L=>f=g/\ops[i]?=some o/\Fits ops ix L
 | _,_=>False
def af_ (P:Program) (n:Sz) (D:List Deferred) (ops:Array Oper) (fuel:Nat) (listed:Array Bool) (e:Env) (O:VH) (Q:VQ):Prop:=
 ∀G a w,WR G O w->FR G n D e a->wpAnyH P .any ops (cg G n D Q) (fun x=>x=w) fuel listed a w
def Yg (P:Program) (n:Sz) (D:List Deferred) (md:Md) (ops:Array Oper) (fuel:Nat) (listed:Array Bool) (ix:List (Nat×Fl)) (e:Env) (O:VH) (Q:VQ):Prop:=
 match md with
 | .plain=>il P n D ops (ix.map (·.1)) e O Q
 | .any=>bY P n D ops fuel listed e O Q
 | .reads=>af_ P n D ops fuel listed e O Q
 | .held brk=>bD P n D ops brk fuel listed e O Q
def VL (P:Program) (n:Sz) (D:List Deferred) (md:Md) (ops:Array Oper) (L:List (Fl×Oper)) (e:Env) (O:VH) (Q:VQ):Prop:=
 ∀fuel listed ix,Fits ops ix L->(md≠ .plain->Region.noSelect ops=true/\cz md ops fuel listed ix=true)->Yg P n D md ops fuel listed ix e O Q
theorem VL.nil {md:Md} (h:Q .normal e O):VL P n D md ops [] e O Q:=by
 intro fuel listed ix hf hp;cases ix with
 | cons x ix=>exact hf.elim
 | nil=>
   cases md with
   | plain=>exact il.nil h
   | any=>
     have:=(hp (by simp)).2;rw[cz]at this;exact bY.done (by simpa using this) h
   | reads=>
     have:=(hp (by simp)).2;rw[cz]at this;intro G a w hw aS;exact wpAnyH_done (by simpa using this) ⟨.normal,e,O,G,Gh.Le.refl G,hw,aS,trivial,h⟩ fuel
   | held brk=>
     have:=(hp (by simp)).2;rw[cz]at this;exact bD.done (by simpa using this) h
theorem rC {brk:List Nat} {i:Nat} {listed:Array Bool} {o:Oper} (ho:ops[i]?=some o) (h:((!brk.contains i&&((ops[i]?).map fun o=>F1 o.op).getD false)||(brk.contains i&&(List.range listed.size).all fun j=>(listed.setIfInBounds i true).getD j true||brk.contains j))=true):
  (brk.contains i=false/\F1 o.op=true)\/∀j,(listed.setIfInBounds i true).getD j true=false\/j=i->brk.contains j=true:=by
 rw[ho]at h;simp only[Option.map_some,Option.getD_some,Bool.or_eq_true,Bool.and_eq_true,Bool.not_eq_true']at h;rcases h with h | ⟨h1,h2⟩
 ·exact .inl h
 ·refine .inr fun j hj=>?_
  rcases hj with hj | rfl
  ·rcases Nat.lt_or_ge j listed.size with hl | hl
   ·have:=List.all_eq_true.1 h2 j (List.mem_range.2 hl);rw[hj,Bool.false_or]at this;exact this
   ·rw[Array.getD_eq_getD_getElem?,Array.getElem?_eq_none (by simpa using hl)]at hj;cases hj
  ·exact h1
theorem aI.skip {i:Nat} {o:Oper} {K:Env->VH->Prop} (ho:ops[i]?=some o) (hg:aK ops o e=some false) (hd:bh n o.dst=true) (hk:K (aV o.dst cw e) O):aI P n D ops i e O Q K:=by
 intro G a w hw aS;simp only[wpOp,ho,bd aS hg,Bool.false_eq_true,if_false];exact⟨_,_,G,Gh.Le.refl G,hw,aS.aV hd jT,hk⟩
theorem uy {f:Fl} {o:Oper} (hf:f≠ .one) (hv:ir tab f o e O=some (m,O')):O'=O:=by
 cases f with
 | one=>exact absurd rfl hf
 | fk=>cases hv
 | aw=>exact(ny hv).2
 | rd=>
   simp only[ir,zg]at hv
   have key:∀{k},fx o.op=k->k≠0->k≠3->cT tab o e O=some (m,O')->O'=O:=fun{k} hk h0 h3 hv=>by
    unfold cT at hv;split at hv
    ·simp only[Option.some.injEq,Prod.mk.injEq]at hv;exact hv.2.symm
    ·unfold iE at hv
     split at hv<;>first
      | (rename_i ho;rw[ho]at hk;simp only[fx]at hk;exact absurd hk.symm h3)
      | (cases hv;done)
      | (rename_i ho _ _ _;rw[ho]at hk;simp only[fx]at hk;exact absurd hk.symm h3)
      | (obtain⟨p,h1,h2⟩:=Option.bind_eq_some_iff.1 hv
         obtain⟨q,h3,h4⟩:=Option.map_eq_some_iff.1 h2;simp only[Prod.mk.injEq]at h4;exact h4.2.symm)
      | (split at hv
         ·obtain⟨r,h3,h4⟩:=Option.map_eq_some_iff.1 hv;simp only[Prod.mk.injEq]at h4;exact h4.2.symm
         ·cases hv)
      | (rename_i c ho
         rw[ho]at hk;simp only[fx]at hk;split at hv
         ·rename_i hc _ _;simp only[hc]at hk;exact absurd hk.symm h3
         ·obtain⟨p,h1,h2⟩:=Option.bind_eq_some_iff.1 hv;obtain⟨q,h3,h4⟩:=Option.map_eq_some_iff.1 h2;simp only[Prod.mk.injEq]at h4;exact h4.2.symm
         ·cases hv)
   split at hv
   ·exact key ‹_› (by decide) (by decide) hv
   ·exact key ‹_› (by decide) (by decide) hv
   ·exact(vY hv).2
   ·exact key ‹_› (by decide) (by decide) hv
   ·cases hv
theorem VL.step (ht:aM P tab) {md:Md} {f:Fl} {o:Oper} {L:List (Fl×Oper)} (hg:aK ops o e=some true) (hv:ir tab f o e O=some (m,O')) (hd:bh n o.dst=true)
  (h:VL P n D md ops L (aV o.dst m e) O' Q):VL P n D md ops ((f,o)::L) e O Q:=by
 intro fuel listed ix hf hp
 match ix,hf with
 | (i,g)::ix,hf=>
   obtain⟨rfl,ho,hf⟩:=hf;cases md with
   | plain=>exact il.step ht ho hg (AQ hv) hd (h 0 #[] ix hf (fun h=>absurd rfl h))
   | any=>
     obtain⟨h1,h2⟩:=hp (by simp);cases fuel with
     | zero=>cases h2
     | succ fuel=>
       simp only[cz,Bool.and_eq_true]at h2;have hk:=h fuel (listed.setIfInBounds i true) ix hf (fun _=>⟨h1,h2.2⟩);cases g with
       | one=>
         have hr:Region.ready .any ops listed=[i]:=by simpa using h2.1
         exact bY.all hr (by simp) fun j hj=>by
          obtain rfl:j=i:=by simpa using hj
          exact aI.op ht ho hg (AQ hv) hd hk
       | aw=>
         obtain⟨hs,rfl⟩:=ny hv;simp only[Bool.and_eq_true]at h2;exact bY.R5 ht ho h1 h2.1.1 h2.1.2 hg hs hd hk
       | rd=>exact absurd h2.1 (by simp)
       | fk=>cases hv
   | reads=>
     obtain⟨h1,h2⟩:=hp (by simp);cases fuel with
     | zero=>cases h2
     | succ fuel=>
       simp only[cz,Bool.and_eq_true]at h2;have hk:=h fuel (listed.setIfInBounds i true) ix hf (fun _=>⟨h1,h2.2⟩);have hne:g≠ .one:=by rintro rfl;exact absurd h2.1 (by simp)
       intro G a w hw aS;obtain⟨rfl,u,hu,bU⟩:=vZ (P:=P) ht hw aS hne hv;have h3:Region.free .any ops listed i=true/\(Region.ready .any ops listed).contains i=true:=by cases g<;>simp_all
       exact wpAnyH_take ho h1 h3.1 h3.2 (gQ hd) (.inl ⟨bd aS hg,fun w' xy=>by rw[xy];exact bU w hw.sx⟩) rfl (hk G _ w hw (aS.aV hd hu))
   | held brk=>
     obtain⟨h1,h2⟩:=hp (by simp);cases fuel with
     | zero=>cases h2
     | succ fuel=>
       simp only[cz,Bool.and_eq_true]at h2;have hk:=h fuel (listed.setIfInBounds i true) ix hf (fun _=>⟨h1,h2.2⟩);cases g with
       | one=>
         simp only[Bool.and_eq_true]at h2;have hr:Region.ready .any ops listed=[i]:=by simpa using h2.1.1
         exact bD.one ht ho hr (rC ho h2.1.2) hg (AQ hv) hd hk
       | fk=>exact absurd h2.1 (by simp)
       | aw=>
         simp only[Bool.and_eq_true]at h2
         exact bD.take ho h1 h2.1.1.1 h2.1.1.2 h2.1.2 hd (fun G a w hw aS=>by
          obtain⟨_,u,hu,bU⟩:=vZ (P:=P) ht hw aS (by simp) hv;exact⟨u,hu,.inl ⟨bd aS hg,bU⟩⟩) (by
          obtain rfl:=uy (by simp) hv;exact hk)
       | rd=>
         simp only[Bool.and_eq_true]at h2
         exact bD.take ho h1 h2.1.1.1 h2.1.1.2 h2.1.2 hd (fun G a w hw aS=>by
          obtain⟨_,u,hu,bU⟩:=vZ (P:=P) ht hw aS (by simp) hv;exact⟨u,hu,.inl ⟨bd aS hg,bU⟩⟩) (by
          obtain rfl:=uy (by simp) hv;exact hk)
theorem VL.skip {md:Md} {f:Fl} {o:Oper} {L:List (Fl×Oper)} (qi:f≠ .fk) (hg:aK ops o e=some false) (hd:bh n o.dst=true)
  (h:VL P n D md ops L (aV o.dst cw e) O Q):VL P n D md ops ((f,o)::L) e O Q:=by
 intro fuel listed ix hf hp
 match ix,hf with
 | (i,g)::ix,hf=>
   obtain⟨rfl,ho,hf⟩:=hf;cases md with
   | plain=>exact il.skip ho hg hd (h 0 #[] ix hf (fun h=>absurd rfl h))
   | any=>
     obtain⟨h1,h2⟩:=hp (by simp);cases fuel with
     | zero=>cases h2
     | succ fuel=>
       simp only[cz,Bool.and_eq_true]at h2;have hk:=h fuel (listed.setIfInBounds i true) ix hf (fun _=>⟨h1,h2.2⟩);cases g with
       | one=>
         have hr:Region.ready .any ops listed=[i]:=by simpa using h2.1
         exact bY.all hr (by simp) fun j hj=>by
          obtain rfl:j=i:=by simpa using hj
          exact aI.skip ho hg hd hk
       | aw=>
         simp only[Bool.and_eq_true]at h2;exact bY.XZ ho h1 h2.1.1 h2.1.2 hg hd hk
       | rd=>exact absurd h2.1 (by simp)
       | fk=>exact absurd rfl qi
   | reads=>
     obtain⟨h1,h2⟩:=hp (by simp);cases fuel with
     | zero=>cases h2
     | succ fuel=>
       simp only[cz,Bool.and_eq_true]at h2;have hk:=h fuel (listed.setIfInBounds i true) ix hf (fun _=>⟨h1,h2.2⟩);have hne:g≠ .one:=by rintro rfl;exact absurd h2.1 (by simp)
       intro G a w hw aS;have h3:Region.free .any ops listed i=true/\(Region.ready .any ops listed).contains i=true:=by cases g<;>simp_all
       exact wpAnyH_take ho h1 h3.1 h3.2 (gQ hd) (.inr ⟨bd aS hg,rfl⟩) rfl (hk G _ w hw (aS.aV hd jT))
   | held brk=>
     obtain⟨h1,h2⟩:=hp (by simp);cases fuel with
     | zero=>cases h2
     | succ fuel=>
       simp only[cz,Bool.and_eq_true]at h2;have hk:=h fuel (listed.setIfInBounds i true) ix hf (fun _=>⟨h1,h2.2⟩);cases g with
       | one=>
         simp only[Bool.and_eq_true]at h2;have hr:Region.ready .any ops listed=[i]:=by simpa using h2.1.1
         exact bD.af8 ho hr (rC ho h2.1.2) hg hd hk
       | fk=>exact absurd h2.1 (by simp)
       | aw=>
         simp only[Bool.and_eq_true]at h2;exact bD.take ho h1 h2.1.1.1 h2.1.1.2 h2.1.2 hd (fun G a w hw aS=>⟨undef,jT,.inr ⟨bd aS hg,rfl⟩⟩) hk
       | rd=>
         simp only[Bool.and_eq_true]at h2;exact bD.take ho h1 h2.1.1.1 h2.1.1.2 h2.1.2 hd (fun G a w hw aS=>⟨undef,jT,.inr ⟨bd aS hg,rfl⟩⟩) hk
theorem VL.call {md:Md} {L:List (Fl×Oper)} {d:Option Tmp} {f:Operand} {args:Array Operand} {tys:Array TypeId} {ty:TypeId} {ps:String} {af:Array Edge} {g:Option (Nat×Bool)} {id:FuncId} {fs ms cs as_:List MV} {R:fO->VH->Prop}
  (hg:aK ops (.mk d (.call {callee:=.value f,args:=args,argTypes:=tys}) ty ps af g) e=some true) (hf:ev e f=some (.func (.func id) fs cs)) (hm:fE e args.toList=some ms) (ha:fs++ms++cs=as_) (hE:Enters P id) (hd:bh n d=true) (hR:VF P id as_ O R)
  (h:∀r O',R r O'->match r with
   | .ret m=>VL P n D md ops L (aV d m e) O' Q
   | .panic m=>Q (.panic m) (ky n e) O'):VL P n D md ops ((.one,.mk d (.call {callee:=.value f,args:=args,argTypes:=tys}) ty ps af g)::L) e O Q:=by
 intro fuel listed ix rD hp;subst ha
 match ix,rD with
 | (i,g')::ix,rD=>
   obtain⟨rfl,ho,rD⟩:=rD;cases md with
   | plain=>
     refine il.call ho hg rfl rfl hf hm hE hd hR fun r O' hr=>?_
     have:=h r O' hr;cases r with
     | ret m=>exact this 0 #[] ix rD (fun h=>absurd rfl h)
     | panic m=>exact this
   | any=>
     obtain⟨h1,h2⟩:=hp (by simp);cases fuel with
     | zero=>cases h2
     | succ fuel=>
       simp only[cz,Bool.and_eq_true]at h2;have hr:Region.ready .any ops listed=[i]:=by simpa using h2.1
       exact bY.all hr (by simp) fun j hj=>by
        obtain rfl:j=i:=by simpa using hj
        refine aI.call ho hg rfl rfl hf hm hE hd hR fun r O' hr=>?_
        have:=h r O' hr;cases r with
        | ret m=>exact this fuel (listed.setIfInBounds j true) ix rD (fun _=>⟨h1,h2.2⟩)
        | panic m=>exact this
   | reads=>
     obtain⟨h1,h2⟩:=hp (by simp);cases fuel with
     | zero=>cases h2
     | succ fuel=>
       simp only[cz,Bool.and_eq_true]at h2;exact absurd h2.1 (by simp)
   | held brk=>
     obtain⟨h1,h2⟩:=hp (by simp);cases fuel with
     | zero=>cases h2
     | succ fuel=>
       simp only[cz,Bool.and_eq_true]at h2;have hr:Region.ready .any ops listed=[i]:=by simpa using h2.1.1
       have hb:∀j,(listed.setIfInBounds i true).getD j true=false\/j=i->brk.contains j=true:=by
        rcases rC ho h2.1.2 with⟨_,h3⟩ | h3
        ·cases h3
        ·exact h3
       refine bD.X8 hr hb (aI.call ho hg rfl rfl hf hm hE hd hR fun r O' hr=>?_);have:=h r O' hr;cases r with
       | ret m=>exact this fuel (listed.setIfInBounds i true) ix rD (fun _=>⟨h1,h2.2⟩)
       | panic m=>exact this
def iF (tab:bV) (n:Sz) (ops:Array Oper):List (Fl×Oper)->Env->VH->Option (List (Fl×Oper)×Env×VH)
 | [],e,O=>some ([],e,O)
 | (.fk,o)::L,e,O=>some ((.fk,o)::L,e,O)
 | (f,o)::L,e,O=>match fx o.op==0,aK ops o e with
   | _,none=>none
   | true,some true=>some ((f,o)::L,e,O)
   | false,some true=>match ir tab f o e O with
     | none=>some ((f,o)::L,e,O)
     | some (m,O')=>match bh n o.dst with
       | true=>iF tab n ops L (aV o.dst m e) O'
       | false=>none
   | _,some false=>match bh n o.dst with
     | true=>iF tab n ops L (aV o.dst cw e) O
     | false=>none
theorem VL.run (ht:aM P tab) {md:Md}:∀{L L':List (Fl×Oper)} {e:Env} {O:VH},iF tab n ops L e O=some (L',e',O')->VL P n D md ops L' e' O' Q->VL P n D md ops L e O Q
 | [],L',e,O,h,hQ=>by
   simp only[iF,Option.some.injEq,Prod.mk.injEq]at h;obtain⟨rfl,rfl,rfl⟩:=h;exact hQ
 | (.fk,o)::L,L',e,O,h,hQ=>by
   simp only[iF,Option.some.injEq,Prod.mk.injEq]at h;obtain⟨rfl,rfl,rfl⟩:=h;exact hQ
 | (.one,o)::L,L',e,O,h,hQ=>by
   simp only[iF]at h;split at h
   ·cases h
   ·simp only[Option.some.injEq,Prod.mk.injEq]at h;obtain⟨rfl,rfl,rfl⟩:=h;exact hQ
   ·split at h
    ·simp only[Option.some.injEq,Prod.mk.injEq]at h;obtain⟨rfl,rfl,rfl⟩:=h;exact hQ
    ·split at h
     ·exact VL.step ht ‹_› ‹_› ‹_› (VL.run ht h hQ)
     ·cases h
   ·split at h
    ·exact VL.skip (by simp) ‹_› ‹_› (VL.run ht h hQ)
    ·cases h
 | (.aw,o)::L,L',e,O,h,hQ=>by
   simp only[iF]at h;split at h
   ·cases h
   ·simp only[Option.some.injEq,Prod.mk.injEq]at h;obtain⟨rfl,rfl,rfl⟩:=h;exact hQ
   ·split at h
    ·simp only[Option.some.injEq,Prod.mk.injEq]at h;obtain⟨rfl,rfl,rfl⟩:=h;exact hQ
    ·split at h
     ·exact VL.step ht ‹_› ‹_› ‹_› (VL.run ht h hQ)
     ·cases h
   ·split at h
    ·exact VL.skip (by simp) ‹_› ‹_› (VL.run ht h hQ)
    ·cases h
 | (.rd,o)::L,L',e,O,h,hQ=>by
   simp only[iF]at h;split at h
   ·cases h
   ·simp only[Option.some.injEq,Prod.mk.injEq]at h;obtain⟨rfl,rfl,rfl⟩:=h;exact hQ
   ·split at h
    ·simp only[Option.some.injEq,Prod.mk.injEq]at h;obtain⟨rfl,rfl,rfl⟩:=h;exact hQ
    ·split at h
     ·exact VL.step ht ‹_› ‹_› ‹_› (VL.run ht h hQ)
     ·cases h
   ·split at h
    ·exact VL.skip (by simp) ‹_› ‹_› (VL.run ht h hQ)
    ·cases h
def K_ (tab:bV) (n:Sz) (ops:Array Oper) (L:List (Fl×Oper)) (e:Env) (O:VH):Bool->Option (List (Fl×Oper)×Env×VH)
 | true=>iF tab n ops L e O
 | false=>none
def Yh (tab:bV) (n:Sz) (ops:Array Oper) (fo:Fl×Oper) (L:List (Fl×Oper)) (e:Env) (O:VH):Option (MV×VH)->Option (List (Fl×Oper)×Env×VH)
 | some (m,O')=>K_ tab n ops L (aV fo.2.dst m e) O' (bh n fo.2.dst)
 | none=>some (fo::L,e,O)
def La (tab:bV) (n:Sz) (ops:Array Oper) (f:Fl) (o:Oper) (L:List (Fl×Oper)) (e:Env) (O:VH):Bool->Option Bool->Option (List (Fl×Oper)×Env×VH)
 | _,none=>none
 | true,some true=>some ((f,o)::L,e,O)
 | false,some true=>Yh tab n ops (f,o) L e O (ir tab f o e O)
 | _,some false=>K_ tab n ops L (aV o.dst cw e) O (bh n o.dst)
section
variable {f:Fl} {o:Oper} {L:List (Fl×Oper)} {d:Option Tmp} {p:Op} {ty:TypeId} {ps:String} {af:Array Edge} {g:Option (Nat×Bool)} {b:Bool}
theorem PA:iF tab n ops [] e O=some ([],e,O):=rfl
theorem uz (qi:f≠ .fk):iF tab n ops ((f,.mk d p ty ps af g)::L) e O=La tab n ops f (.mk d p ty ps af g) L e O (fx p==0) (aK ops (.mk d p ty ps af g) e):=by
 have key:iF tab n ops ((f,.mk d p ty ps af g)::L) e O=match fx p==0,aK ops (.mk d p ty ps af g) e with
  | _,none=>none
  | true,some true=>some ((f,.mk d p ty ps af g)::L,e,O)
  | false,some true=>match ir tab f (.mk d p ty ps af g) e O with
    | none=>some ((f,.mk d p ty ps af g)::L,e,O)
    | some (m,O')=>match bh n d with
      | true=>iF tab n ops L (aV d m e) O'
      | false=>none
  | _,some false=>match bh n d with
    | true=>iF tab n ops L (aV d cw e) O
    | false=>none:=by
  cases f<;>first | exact absurd rfl qi | rfl
 rw[key];generalize aK ops (.mk d p ty ps af g) e=x;generalize (fx p==0)=y;unfold La;cases x with
 | none=>rfl
 | some b=>
   cases b<;>cases y<;>simp only
   ·unfold K_;cases bh n d<;>rfl
   ·unfold K_;cases bh n d<;>rfl
   ·unfold Yh;cases ir tab f (.mk d p ty ps af g) e O with
    | none=>rfl
    | some r=>unfold K_;cases bh n d<;>rfl
theorem PB:iF tab n ops ((.one,.mk d p ty ps af g)::L) e O=La tab n ops .one (.mk d p ty ps af g) L e O (fx p==0) (aK ops (.mk d p ty ps af g) e):=uz (by simp)
theorem PC:iF tab n ops ((.aw,.mk d p ty ps af g)::L) e O=La tab n ops .aw (.mk d p ty ps af g) L e O (fx p==0) (aK ops (.mk d p ty ps af g) e):=uz (by simp)
theorem T8:iF tab n ops ((.rd,.mk d p ty ps af g)::L) e O=La tab n ops .rd (.mk d p ty ps af g) L e O (fx p==0) (aK ops (.mk d p ty ps af g) e):=uz (by simp)
theorem T_:iF tab n ops ((.fk,o)::L) e O=some ((.fk,o)::L,e,O):=rfl
theorem Ua:La tab n ops f o L e O true (some true)=some ((f,o)::L,e,O):=rfl
theorem acs:La tab n ops f (.mk d p ty ps af g) L e O false (some true)=Yh tab n ops (f,.mk d p ty ps af g) L e O (ir tab f (.mk d p ty ps af g) e O):=rfl
theorem Ub:La tab n ops f (.mk d p ty ps af g) L e O b (some false)=K_ tab n ops L (aV d cw e) O (bh n d):=by cases b<;>rfl
theorem Uc:Yh tab n ops (f,.mk d p ty ps af g) L e O (some (m,O'))=K_ tab n ops L (aV d m e) O' (bh n d):=rfl
theorem Ud {fo:Fl×Oper}:Yh tab n ops fo L e O none=some (fo::L,e,O):=rfl
theorem Ue:K_ tab n ops L e O true=iF tab n ops L e O:=rfl
theorem v7:ir tab .one o e O=cT tab o e O:=rfl
theorem Hn:ir tab .aw (.mk d p ty ps af g) e O=Hm tab (fx p) (.mk d p ty ps af g) e O:=rfl
theorem Lb:ir tab .rd (.mk d p ty ps af g) e O=zg tab (fx p) (.mk d p ty ps af g) e O:=rfl
theorem R_:Hm tab 1 o e O=cT tab o e O:=rfl
theorem Sa {t:TypeId} {x:Operand}:Hm tab 2 (.mk d (.load t x) ty ps af g) e O=((ev e x).bind (CX tab t)).map (·,O):=rfl
theorem Sb {t:TypeId} {x:Operand}:Hm tab 4 (.mk d (.call {callee:=.builtin .len,args:= #[x],argTypes:= #[t]}) ty ps af g) e O=((ev e x).bind (iW tab t)).map (·,O):=rfl
theorem Sc:zg tab 1 o e O=cT tab o e O:=rfl
theorem Sd:zg tab 2 o e O=cT tab o e O:=rfl
theorem Se:zg tab 5 o e O=cT tab o e O:=rfl
theorem Sf {t:TypeId} {x:Operand}:zg tab 4 (.mk d (.call {callee:=.builtin .len,args:= #[x],argTypes:= #[t]}) ty ps af g) e O=((ev e x).bind (iW tab t)).map (·,O):=rfl
theorem Ho {t:TypeId} {cs:List MV} {off:Nat}:CX tab t (.cX cs off)=eM tab ⟨0,fun _=>none⟩ t (.cX cs off):=rfl
end
section
variable {x y z:Operand} {t t':TypeId} {f:Nat} {q:BinOp} {r:UnOp} {as_:Array Operand} {ts:Array TypeId} {l h k:Option Operand} {fn:Fn} {ps:Array (Nat×Operand)}
theorem Hp:fx (.move x)=1:=rfl
theorem BX:fx (.assign x)=1:=rfl
theorem Hq:fx (.pick x y z)=1:=rfl
theorem w7:fx (.nilCheck x)=1:=rfl
theorem DT:fx (.binOp q t x y t')=1:=rfl
theorem Hr:fx (.unOp r t x)=1:=rfl
theorem zm:fx (.convert t t' x)=1:=rfl
theorem uA:fx (.fieldAddr t x f)=1:=rfl
theorem DU:fx (.field t x f)=1:=rfl
theorem uB:fx (.indexAddr t x y)=1:=rfl
theorem DV:fx (.index t x y)=1:=rfl
theorem zp:fx (.extract x f)=1:=rfl
theorem DW:fx (.slice t x l h k)=1:=rfl
theorem DY:fx (.build t ps)=1:=rfl
theorem w8 {Uf:Array Operand}:fx (.makeFunc fn as_ Uf)=1:=rfl
theorem pe:fx (.makeInterface t x)=1:=rfl
theorem Hs:fx (.load t x)=2:=rfl
theorem DZ:fx (.call {callee:=.value x,args:=as_,argTypes:=ts})=0:=rfl
theorem Lc:fx (.call {callee:=.builtin .len,args:=as_,argTypes:=ts})=4:=rfl
theorem Ld:fx (.call {callee:=.builtin .max,args:=as_,argTypes:=ts})=1:=rfl
theorem Lf:fx (.call {callee:=.builtin .min,args:=as_,argTypes:=ts})=1:=rfl
theorem PD:fx (.call {callee:=.builtin .unsafeSliceData,args:=as_,argTypes:=ts})=1:=rfl
theorem BY:fx (.call {callee:=.builtin .append,args:=as_,argTypes:=ts})=3:=rfl
theorem D0:fx (.store t x y)=3:=rfl
theorem Lg:fx (.box t x)=3:=rfl
theorem D1:fx (.alloc t)=3:=rfl
theorem th:fx (.buildSlice t f ps)=3:=rfl
theorem zw {t:TypeId} {r:Option Operand}:fx (.makeMap t r)=3:=rfl
theorem BZ {t:TypeId} {x y:Operand} {b:Bool}:fx (.lookup t x y b)=5:=rfl
theorem uC {t:TypeId} {x y z:Operand}:fx (.mapUpdate t x y z)=3:=rfl
theorem B1 {t:TypeId} {x y z:Operand}:fx (.insert t x y z)=3:=rfl
theorem uD:fx (.makeSlice t x y)=3:=rfl
end
theorem uE:∀(l:List Oper) (k:Nat),(∀j,l[j]?=none\/l[j]?=ops[k+j]?)->Fits ops ((List.range' k l.length).map (·,Fl.one)) (l.map (Fl.one, ·))
 | [],_,_=>trivial
 | o::l,k,h=>by
   rw[List.length_cons,List.range'_succ];refine⟨rfl,?_,uE l (k+1) fun j=>?_⟩
   ·rcases h 0 with h0 | h0
    ·cases h0
    ·simpa using h0.symm
   ·rcases h (j+1)with h0 | h0
    ·exact .inl (by simpa using h0)
    ·exact .inr (by rw[show k+1+j=k+(j+1)from by omega];simpa using h0)
theorem VC.Sg {id:Nat} {l:List Oper} (h:VL P n D .plain ⟨l⟩ (l.map (Fl.one, ·)) e O Q):VC P n D (.region id ⟨l⟩ false) e O Q:=by
 refine VC.region ?_;have:=h 0 #[] _ (uE l 0 fun j=>.inr (by simp)) (fun h=>absurd rfl h);simp only[Yg,List.map_map]at this;rw[show(⟨l⟩:Array Oper).size=l.length from rfl,List.range_eq_range'];rw[show((fun x:Nat×Fl=>x.1) ∘ fun x=>(x,Fl.one))=_root_.id from rfl,List.map_id]at this;exact this
def nA (l:List Oper):List (Nat×Fl)->Option (List (Fl×Oper))
 | []=>some []
 | (i,f)::ix=>match l[i]?,nA l ix with
   | some o,some L=>some ((f,o)::L)
   | _,_=>none
theorem sq {l:List Oper}:∀{ix:List (Nat×Fl)} {L:List (Fl×Oper)},nA l ix=some L->Fits ⟨l⟩ ix L
 | [],L,h=>by injection h with h;subst h;trivial
 | (i,f)::ix,L,h=>by
   simp only[nA]at h;split at h
   ·rename_i o L' h1 h2;injection h with h;subst h;exact⟨rfl,by simpa using h1,sq h2⟩
   ·cases h
theorem VC.Sh (md:Md) (ix:List (Nat×Fl)) {id:Nat} {l:List Oper} {L:List (Fl×Oper)} (hne:md≠ .plain) (hm:P.follows .mixedOrders=true) (hs:Region.noSelect ⟨l⟩=true) (hp:cz md ⟨l⟩ l.length (Array.replicate l.length false) ix=true) (hL:nA l ix=some L)
  (h:VL P n D md ⟨l⟩ L e O Q):VC P n D (.region id ⟨l⟩ true) e O Q:=by
 have:=h l.length (Array.replicate l.length false) ix (sq hL) (fun _=>⟨hs,hp⟩);cases md with
 | plain=>exact absurd rfl hne
 | any=>exact VC.draw hm this
 | reads=>exact fun G a w hw hf=>wp_region_held hm (this G a _ (hw.drawn _) hf)
 | held brk=>exact VC.IG brk hm this
end
theorem aeD (b:Bool):(b==true)=b:=by cases b<;>rfl
theorem aeE (b:Bool):(b==false)= !b:=by cases b<;>rfl
theorem Si {a b:Int} (h:a=b):(a==b)=true:=by simpa using h
theorem Sj {a b:Int} (h:¬a=b):(a==b)=false:=by simpa using h
theorem Sk {a b:Int} (h:¬a=b):(a != b)=true:=by simpa using h
theorem Sl {a b:Int} (h:a=b):(a != b)=false:=by simpa using h
def aH (Φ :MV->VH->Prop):fO->VH->Prop
 | .ret m,O=> Φ m O
 | .panic _,_=>False
section
variable {n:Sz} {D:List Deferred} {e:Env} {P:Program} {tab:bV} {O:VH} {ops:Array Oper} {Q:VQ} {Φ :MV->VH->Prop}
theorem Lh {m:MV}:aH Φ (.ret m) O= Φ m O:=rfl
end
theorem B2 (f:Fl):∀(l pre:List Oper),nA (pre++l) ((List.range' pre.length l.length).map (·,f))=some (l.map (f, ·))
 | [],_=>rfl
 | o::l,pre=>by
   rw[List.length_cons,List.range'_succ,List.map_cons,List.map_cons,nA];have:=B2 f l (pre++[o]);rw[List.append_assoc,List.length_append]at this;simp only[List.singleton_append,List.length_cons,List.length_nil,Nat.zero_add]at this;rw[this];simp
theorem VC.Sm {n:Sz} {D:List Deferred} {e:Env} {P:Program} {O:VH} {Q:VQ} {id:Nat} {l:List Oper} (hm:P.follows .mixedOrders=true) (hs:Region.noSelect ⟨l⟩=true) (hp:cz .reads ⟨l⟩ l.length (Array.replicate l.length false) ((List.range' 0 l.length).map (·,Fl.rd))=true)
  (h:VL P n D .reads ⟨l⟩ (l.map (Fl.rd, ·)) e O Q):VC P n D (.region id ⟨l⟩ true) e O Q:=
 VC.Sh .reads _ (by simp) hm hs hp (B2 .rd l []) h
theorem Sn {k:IntKind} {a b:Int}:AJ (.v (.int k a)) (.v (.int k b))=some (.v (.int k (max a b))):=by
 simp only[AJ];have:(if b>a then b else a)=max a b:=by split<;>omega
 rw[this]
theorem So {k:IntKind} {a b:Int}:AK (.v (.int k a)) (.v (.int k b))=some (.v (.int k (min a b))):=by
 simp only[AK];have:(if b<a then b else a)=min a b:=by split<;>omega
 rw[this]
theorem Li {e:Env} {tab:bV} {O:VH} {d:Option Tmp} {ty:TypeId} {p:String} {af:Array Edge} {g:Option (Nat×Bool)} {c x y:Operand}:cT tab (.mk d (.pick c x y) ty p af g) e O=((ev e c).bind fun b=>match b with
  | .v (.bool true)=>ev e x
  | .v (.bool false)=>ev e y
  | _=>none).map (·,O):=by
 simp only[cT,ei,iE];cases ev e c with
 | none=>rfl
 | some m=>
   cases m<;>try rfl
   rename_i v;cases v<;>try rfl
   rename_i b;cases b
   ·simp only[Option.bind_some];cases ev e y<;>rfl
   ·simp only[Option.bind_some];cases ev e x<;>rfl
theorem zp0 (l:List MV):fY #[] l=[]:=rfl
theorem Sq (b o:Nat):KG (.ptr b o)=some (.ptr b o):=rfl
theorem Sr (cs:List MV) (o:Nat):KG (.cX cs o)=some (.cX cs o):=rfl
theorem AR (x:Value):dD (.v x)=[.v x]:=rfl
theorem xM (k:Nat) (cs:List MV) (tk:Tok):dD (.sl k cs tk)=[.sl k cs tk]:=rfl
theorem uF (l:List UInt8):dD (.str l)=[.str l]:=rfl
theorem uG (b o:Nat):dD (.ptr b o)=[.ptr b o]:=rfl
theorem uH (cs:List MV):dD (.agg cs)=cs:=rfl
section
variable {tab:bV} {O:VH} {t:TypeId} {u:TypeDesc} {d:Nat} {y cs:List MV} {k off:Nat}
end
section
variable {tab:bV} {t el:TypeId} {u:TypeDesc} {a b d:Nat} {z:List MV} {y:MV} {k0 k1:Nat} {c0 c1:List MV} {t0 t1:Tok}
end
theorem VC.freeze {n:Sz} {D:List Deferred} {e:Env} {P:Program} {O:VH} {Q:VQ} {c:Code} (t:Nat) {k o i cp sz:Nat} {cs:List MV} (ht:look e t=some (.bm k o i cp)) (hk:O.hp k=some (.cells cs)) (hs:o+sz<=cs.length)
  (h:VC P n D c ((t,.sl i ((cs.drop o).take sz) (if cp=i then .full else .au))::e) (O.kill k) Q):VC P n D c e O Q:=by
 intro G a w hw hf;obtain⟨u,rE,cZ⟩:=hf.get t _ ht;obtain⟨H,h1,h2,h3⟩:=hw.freeze hk cZ hs
 have xN:FR H n D ((t,.sl i ((cs.drop o).take sz) (if cp=i then .full else .au))::e) a:=by
  have hm:=hf.mono h1;refine⟨hm.defers,hm.size,fun s x hx=>?_⟩;rw[lR]at hx;cases hb:s==t with
  | true=>
    rw[hb,cond_true]at hx;injection hx with hx;subst hx
    have:s=t:=by simpa using hb
    subst this;exact⟨u,rE,h3⟩
  | false=>rw[hb,cond_false]at hx;exact hm.get s x hx
 exact wp_mono (h H a w h2 xN) fun _ _ _=>cg.le h1
set_option linter.defProp false in
def Yi:=And.intro @Sq<|And.intro @Sr<|And.intro @AR<|And.intro @xM<|And.intro @uF<|And.intro @uG<|And.intro @uH<|And.intro @PA<|And.intro @PB<|And.intro @PC<|And.intro @T8<|And.intro @T_<|And.intro @yZ<|And.intro @BR<|And.intro @uv<|And.intro @BT<|And.intro @zw<|And.intro @BZ<|And.intro @uC<|And.intro @B1<|And.intro @Ua<|And.intro @acs<|And.intro @Ub<|And.intro @Uc<|And.intro @Ud<|And.intro @Ue<|And.intro @v7<|And.intro @Hn<|And.intro @Lb<|And.intro @R_<|And.intro @Sa<|And.intro @Sb<|And.intro @Sc<|And.intro @Sd<|And.intro @Se<|And.intro @Sf<|And.intro @Ho<|And.intro @Hp<|And.intro @BX<|And.intro @Hq<|And.intro @w7<|And.intro @DT<|And.intro @Hr<|And.intro @zm<|And.intro @uA<|And.intro @DU<|And.intro @uB<|And.intro @DV<|And.intro @zp<|And.intro @DW<|And.intro @DY<|And.intro @w8<|And.intro @pe<|And.intro @Hs<|And.intro @DZ<|And.intro @Lc<|And.intro @Ld<|And.intro @Lf<|And.intro @BY<|And.intro @D0<|And.intro @Lg<|And.intro @D1<|And.intro @th<|And.intro @uD<|And.intro @aeD<|And.intro @aeE<|And.intro @Si<|And.intro @Sj<|And.intro @Sk<|And.intro @Sl<|And.intro @y_<|And.intro @zb<|And.intro @DQ<|And.intro @DR<|And.intro @aj<|And.intro @DP<|And.intro @wrap_i64<|And.intro @G7<|And.intro @BQ<|And.intro @Li<|And.intro @Sn<|And.intro @So<|And.intro @wY<|And.intro @DI<|And.intro @G8<|And.intro @yX<|And.intro @uq<|And.intro @DJ<|And.intro @ur<|And.intro @DK<|And.intro @yY<|And.intro @DL<|And.intro @wZ<|And.intro @DM<|And.intro @G9<|And.intro @G_<|And.intro @KQ<|And.intro @KR<|And.intro @KS<|And.intro @cN<|And.intro @Ha<|And.intro @DN<|And.intro @KU<|And.intro @Pt<|And.intro @tf<|And.intro @uu<|And.intro @R6<|And.intro @R7<|And.intro @KM<|And.intro @R8<|And.intro @G5<|And.intro @DG<|And.intro @DH<|And.intro @yW<|And.intro @BO<|And.intro @KN<|And.intro @lR<|And.intro @KO<|And.intro @G6<|And.intro @Hb<|And.intro @Hc<|And.intro @Hd<|And.intro @He<|And.intro @Hf<|And.intro @Hg<|And.intro @Hh<|And.intro @Hi<|And.intro @Hj<|And.intro @KV<|And.intro @KW<|And.intro @ar<|And.intro @aY<|And.intro @zp0<|And.intro @zp1<|And.intro @zp2<|And.intro @zp3<|And.intro @VH.so<|And.intro @BU<|And.intro @Pv<|And.intro @Pw @T1
end Go.Proofs.YtoclnkfdahmnhaaGreatDoor
