import Derived.Below
import Derived.LoopN
import Derived.OrdersHeld
import Derived.Deep.Draws
import Derived.WalkKit
import Derived.WalkSpells
import Derived.KernelRfl
import Derived.Lib.Builder
import Derived.MapKept
import Derived.Scope
set_option linter.unusedVariables false
set_option linter.unusedSimpArgs false
namespace Go.Proofs.YtjpadehgejlebaaGreatDoor
open Go.RowKit
open _root_.List renaming getElem?_take → Vq, getElem?_eq_some_iff → Zk, getElem?_eq_getElem → adW, getElem?_drop → adX, mapM_cons → ahK, eq_nil_of_length_eq_zero → ahP, map_cons → ajl, length_append → ajo, length_cons → ajr, getElem?_toArray → ajs, append_assoc → am6, getElem?_append_left → am7, all_eq_true → am8, getElem?_cons_zero → am9, getElem?_cons_succ → am_
open _root_.Nat renaming le_refl → adZ, zero_le → ahN, zero_add → ajm, add_assoc → ajq, lt_or_ge → ajt
open _root_.And renaming intro → zP
open _root_.Option renaming map_eq_some_iff → Ma, bind_eq_some_iff → Qm, map_some → agc, bind_eq_bind → ahJ, isSome_none → ahL, bind_some → ahO
open _root_.Bool renaming and_eq_true → Qn, false_eq_true → Zj, or_eq_true → ana
open _root_.Array renaming ext' → adY, getElem?_eq_getElem → ahM, getElem?_eq_none → ajk, length_toList → ajn, getElem?_setIfInBounds_ne → ajp, getD_eq_getD_getElem? → aju, toList_setIfInBounds → ajv, getElem?_append_left → al_, mapM_eq_mapM_toList → am5
inductive Tok where
 | nil | full | own (t k:Nat) | au
 deriving DecidableEq
inductive MV where
 | v (x:Value)
 | str (l:List UInt8)
 | ptr (b off:Nat)
 | dE (cells:List MV) (off:Nat)
 | sl (n:Nat) (cells:List MV) (t:Tok)
 | bB (b off len cap:Nat)
 | map (b:Nat)
 | func (fn:Fn) (first captured:List MV)
 | iface (t:TypeId) (x:MV)
 | agg (cells:List MV)
 | tuple (vs:List MV)
structure Gh where
 w0:World
 bW:Nat->Option Nat
 eN:Nat->Nat->Option Value
 tok:Nat->Option (Nat×Nat×Nat×Nat)
abbrev Gh.B (G:Gh):Nat:=G.w0.heap.size
structure Gh.Le (G H:Gh):Prop where
 w0:H.w0=G.w0
 bW:∀{k b},G.bW k=some b->H.bW k=some b
 eN:∀{b o u},G.eN b o=some u->H.eN b o=some u
 tok:∀{t x},G.tok t=some x->H.tok t=some x
theorem Gh.Le.refl (G:Gh):G.Le G:=⟨rfl,id,id,id⟩
theorem Gh.Le.trans {G H K:Gh} (h:G.Le H) (k:H.Le K):G.Le K:=
 ⟨k.w0.trans h.w0,fun x=>k.bW (h.bW x),fun x=>k.eN (h.eN x),fun x=>k.tok (h.tok x)⟩
structure GP where
 p:Gh->Prop
 mono:∀{G H:Gh},G.Le H->p G->p H
inductive cg where
 | cells (cs:List MV)
 | map (es:List (MV×MV×Nat)) (clock:Nat)
 | tok
 | shape (k:Nat) (t:TypeId) (n:Nat)
 | obj (x:Obj)
 | fact (p:GP)
structure VH where
 N:Nat
 hp:Nat->Option cg
def bH {α :Type} (f:Nat->Option α) (k:Nat) (x:Option α):Nat->Option α :=fun j=>bif Nat.beq j k then x else f j
theorem aJ {α :Type} (f:Nat->Option α) (k:Nat) (x:Option α):bH f k x k=x:=by simp[bH]
theorem ay {α :Type} (f:Nat->Option α) {k j:Nat} (x:Option α) (h:j≠k):bH f k x j=f j:=by
 have:j.beq k=false:=by rw[<-Bool.not_eq_true];intro e;exact h (Nat.eq_of_beq_eq_true e)
 simp[bH,this]
def VH.set (O:VH) (k:Nat) (x:cg):VH:={O with hp:=bH O.hp k (some x)}
def VH.push (O:VH) (x:cg):VH:=⟨O.N+1,bH O.hp O.N (some x)⟩
def VH.kill (O:VH) (k:Nat):VH:={O with hp:=bH O.hp k none}
def plain:Value->Bool
 | .bool _ | .int _ _ | .float _ _ | .complex _ _ _ | .pointer none | .map none | .chan none | .nilFunc | .nilIface=>true
 | _=>false
def Tok.ok (G:Gh):Tok->(b o n c sz:Nat)->Prop
 | .nil,_,_,_,_,_=>False
 | .full,_,_,n,c,_=>c=n
 | .own t k,b,o,n,c,sz=>c=n\/∃r,G.tok t=some (b,o+sz,k,r)/\sz=n*k/\c=n+r
 | .au,_,_,_,_,_=>True
inductive VR (G:Gh):MV->Value->Prop
 | v {x:Value}:plain x=true->VR G (.v x) x
 | str {l:List UInt8}:VR G (.str l) (.string ⟨⟨l⟩⟩)
 | ptr {k o b:Nat}:G.bW k=some b->VR G (.ptr k o) (.pointer (some ⟨b,o,none⟩))
 | dE {cells:List MV} {us:List Value} {off b o:Nat}:us.length=cells.length->(∀(i:Nat) (u:Value),us[i]?=some u->G.eN b (o+i)=some u)->
   (∀(i:Nat) (c:MV) (u:Value),cells[i]?=some c->us[i]?=some u->VR G c u)->VR G (.dE cells off) (.pointer (some ⟨b,o+off,none⟩))
 | slnil:VR G (.sl 0 [] .nil) (.slice none 0 0)
 | pr {a:Addr} {c:Nat}:c<=maxLen->VR G (.sl 0 [] .au) (.slice (some a) 0 c)
 | kS:VR G (.sl 0 [] .au) (.slice none 0 0)
 | sl {cells:List MV} {us:List Value} {n c b o:Nat} {t:Tok}:us.length=cells.length->(∀(i:Nat) (u:Value),us[i]?=some u->G.eN b (o+i)=some u)->
   (∀(i:Nat) (c:MV) (u:Value),cells[i]?=some c->us[i]?=some u->VR G c u)->n<=c->c<=maxLen->t.ok G b o n c cells.length->VR G (.sl n cells t) (.slice (some ⟨b,o,none⟩) n c)
 | bB {k o n c b:Nat}:G.bW k=some b->n<=c->c<=maxLen->VR G (.bB k o n c) (.slice (some ⟨b,o,none⟩) n c)
 | map {k b:Nat}:G.bW k=some b->VR G (.map k) (.map (some b))
 | func {fn:Fn} {fs cs:List MV} {us vs:List Value}:us.length=fs.length->(∀(i:Nat) (c:MV) (u:Value),fs[i]?=some c->us[i]?=some u->VR G c u)->
   vs.length=cs.length->(∀(i:Nat) (c:MV) (u:Value),cs[i]?=some c->vs[i]?=some u->VR G c u)->VR G (.func fn fs cs) (.func fn us.toArray vs.toArray)
 | iface {t:TypeId} {x:MV} {u:Value}:VR G x u->VR G (.iface t x) (.iface t u)
 | agg {cs:List MV} {us:List Value}:us.length=cs.length->(∀(i:Nat) (c:MV) (u:Value),cs[i]?=some c->us[i]?=some u->VR G c u)->VR G (.agg cs) (.agg us.toArray)
 | tuple {cs:List MV} {us:List Value}:us.length=cs.length->(∀(i:Nat) (c:MV) (u:Value),cs[i]?=some c->us[i]?=some u->VR G c u)->VR G (.tuple cs) (.tuple us.toArray)
def aQ (G:Gh) (cs:List MV) (us:List Value):Prop:=us.length=cs.length/\∀(i:Nat) (c:MV) (u:Value),cs[i]?=some c->us[i]?=some u->VR G c u
theorem VR.mono {G H:Gh} (h:G.Le H) {m:MV} {u:Value} (r:VR G m u):VR H m u:=by
 induction r with
 | v h1=>exact .v h1
 | str=>exact .str
 | ptr h1=>exact .ptr (h.bW h1)
 | dE h1 h2 h3 ih=>exact .dE h1 (fun i u hu=>h.eN (h2 i u hu)) (fun i c u h4 h5=>ih i c u h4 h5)
 | slnil=>exact .slnil
 | pr h1=>exact .pr h1
 | kS=>exact .kS
 | sl h1 h2 h3 h4 h5 h6 ih=>
   refine .sl h1 (fun i u hu=>h.eN (h2 i u hu)) (fun i c u h7 h8=>ih i c u h7 h8) h4 h5 ?_;rename_i t;cases t with
   | nil=>exact h6
   | full=>exact h6
   | own t k=>
     rcases h6 with h6 | ⟨r,h7,h8⟩
     ·exact .inl h6
     ·exact .inr ⟨r,h.tok h7,h8⟩
   | au=>trivial
 | bB h1 h2 h3=>exact .bB (h.bW h1) h2 h3
 | map h1=>exact .map (h.bW h1)
 | func h1 h2 h3 h4 ih1 ih2=>exact .func h1 (fun i c u a b=>ih1 i c u a b) h3 (fun i c u a b=>ih2 i c u a b)
 | iface h1 ih=>exact .iface ih
 | agg h1 h2 ih=>exact .agg h1 fun i c u a b=>ih i c u a b
 | tuple h1 h2 ih=>exact .tuple h1 fun i c u a b=>ih i c u a b
theorem aQ.mono {G H:Gh} (h:G.Le H) {cs:List MV} {us:List Value} (r:aQ G cs us):aQ H cs us:=⟨r.1,fun i c u a b=>(r.2 i c u a b).mono h⟩
theorem aQ.nil {G:Gh}:aQ G [] []:=⟨rfl,fun i c u h=>by simp at h⟩
theorem aQ.cons {G:Gh} {c:MV} {u:Value} {cs:List MV} {us:List Value} (h:VR G c u) (k:aQ G cs us):aQ G (c::cs) (u::us):=
 ⟨by simp[k.1],fun i c' u' a b=>by
  cases i with
  | zero=>simp only[am9,Option.some.injEq]at a b;subst a;subst b;exact h
  | succ i=>simp only[am_]at a b;exact k.2 i c' u' a b⟩
theorem aQ.head {G:Gh} {c:MV} {u:Value} {cs:List MV} {us:List Value} (h:aQ G (c::cs) (u::us)):VR G c u:=h.2 0 c u rfl rfl
theorem aQ.tail {G:Gh} {c:MV} {u:Value} {cs:List MV} {us:List Value} (h:aQ G (c::cs) (u::us)):aQ G cs us:=⟨by have:=h.1;simp at this;exact this,fun i c u a b=>h.2 (i+1) c u (by simpa using a) (by simpa using b)⟩
theorem aQ.eW {G:Gh} {c:MV} {cs:List MV} {us:List Value} (h:aQ G (c::cs) us):∃u Vr,us=u::Vr/\VR G c u/\aQ G cs Vr:=by
 cases us with
 | nil=>have:=h.1;simp at this
 | cons u us=>exact⟨u,us,rfl,h.head,h.tail⟩
theorem aQ.iQ {G:Gh} {us:List Value} (h:aQ G [] us):us=[]:=ahP h.1
theorem aQ.append {G:Gh} {cs ds:List MV} {us ts:List Value} (h:aQ G cs us) (k:aQ G ds ts):aQ G (cs++ds) (us++ts):=
 ⟨by simp[h.1,k.1],fun i c u a b=>by
  rw[List.getElem?_append]at a b;rw[h.1]at b;split at a
  ·rw[if_pos ‹_›]at b;exact h.2 i c u a b
  ·rw[if_neg ‹_›]at b;exact k.2 _ c u a b⟩
theorem aQ.drop {G:Gh} {cs:List MV} {us:List Value} (h:aQ G cs us) (n:Nat):aQ G (cs.drop n) (us.drop n):=
 ⟨by simp[h.1],fun i c u a b=>by rw[adX]at a b;exact h.2 _ c u a b⟩
theorem aQ.take {G:Gh} {cs:List MV} {us:List Value} (h:aQ G cs us) (n:Nat):aQ G (cs.take n) (us.take n):=
 ⟨by simp[h.1],fun i c u a b=>by
  rw[Vq]at a b;split at a
  ·rw[if_pos ‹_›]at b;exact h.2 i c u a b
  ·cases a⟩
theorem aQ.get {G:Gh} {cs:List MV} {us:List Value} (h:aQ G cs us) {i:Nat} {c:MV} (hc:cs[i]?=some c):∃u,us[i]?=some u/\VR G c u:=by
 have hl:i<us.length:=by rw[h.1];exact(Zk.1 hc).1
 exact⟨us[i],adW hl,h.2 i c _ hc (adW hl)⟩
theorem aQ.set {G:Gh} {cs:List MV} {us:List Value} (h:aQ G cs us) {i:Nat} {c:MV} {u:Value} (hc:VR G c u):aQ G (cs.set i c) (us.set i u):=
 ⟨by simp[h.1],fun j c' u' a b=>by
  rw[List.getElem?_set]at a b;rw[h.1]at b;split at a
  ·rw[if_pos ‹_›]at b;split at a
   ·rw[if_pos ‹_›]at b;injection a with a;injection b with b;subst a;subst b;exact hc
   ·cases a
  ·rw[if_neg ‹_›]at b;exact h.2 j c' u' a b⟩
structure Fz (C:Array Value) where
 t:TypeId
 fr:Nat×Nat
 ok:fr.1=fr.2\/C.size<=fr.1
def Qo:List Nat:=[0]
def L_ (w:World):Prop:=∀g∈Qo,∃m,w.cell? ⟨g,0,none⟩=some (.int .i64 m)
structure WR (G:Gh) (O:VH) (w:World):Prop where
 base:Below G.B G.w0 w
 eN:∀b o u,G.eN b o=some u->w.cell? ⟨b,o,none⟩=some u
 qm:∀k,O.N<=k->G.bW k=none/\G.tok k=none/\O.hp k=none
 kJ:∀k b,G.bW k=some b->G.B<=b/\b<w.heap.size/\(O.hp k≠none->∀o,G.eN b o=none)
 inj:∀j k b,O.hp j≠none->O.hp k≠none->G.bW j=some b->G.bW k=some b->j=k
 cells:∀k cs,O.hp k=some (.cells cs)->∃b,∃C:Array Value,∃T:Fz C,G.bW k=some b/\w.heap[b]?=some (.cells C T.t T.fr)/\aQ G cs (C.toList.take cs.length)
 map:∀k es ck,O.hp k=some (.map es ck)->∃b E,G.bW k=some b/\w.heap[b]?=some (.map E ck)/\E.toList.map (·.born)=es.map (·.2.2)/\aQ G (es.map (·.1)) (E.toList.map (·.key))/\aQ G (es.map (·.2.1)) (E.toList.map (·.val))
 tok:∀t,O.hp t=some .tok->∃b f k r C T,G.tok t=some (b,f,k,r)/\G.B<=b/\w.heap[b]?=some (.cells C T (0,0))/\f+r*k<=C.size/\(∀o,f<=o->G.eN b o=none)/\∀j,G.bW j≠some b
 l_:∀s t b x y,O.hp s=some .tok->O.hp t=some .tok->G.tok s=some (b,x)->G.tok t=some (b,y)->s=t
 oV:∀j k t n,O.hp j=some (.shape k t n)->∃b,G.bW k=some b/\w.shape? b=some (t,n)
 obj:∀k x,O.hp k=some (.obj x)->∃b,G.bW k=some b/\w.heap[b]?=some x
 rz:L_ G.w0
 BU:∀k p,O.hp k=some (.fact p)->p.p G
section
variable {G:Gh} {O:VH} {w:World}
theorem WR.Zl (h:WR G O w) {b o:Nat} {u:Value} (hc:G.eN b o=some u):b<w.heap.size:=World.block_lt_of_cell? w _ (h.eN b o u hc)
theorem WR.m6 (h:WR G O w):G.bW O.N=none/\G.tok O.N=none/\O.hp O.N=none:=h.qm _ (adZ _)
theorem WR.pw {G':Gh} {O':VH} {w':World} (h:WR G O w) (hl:∀{k b},G.bW k=some b->G'.bW k=some b) (hO:∀j k t n,O'.hp j=some (.shape k t n)->O.hp j=some (.shape k t n)) (hw:∀k b s,G.bW k=some b->w.shape? b=some s->w'.shape? b=some s):
  ∀j k t n,O'.hp j=some (.shape k t n)->∃b,G'.bW k=some b/\w'.shape? b=some (t,n):=fun j k t n hj=>by
 obtain⟨b,h1,h2⟩:=h.oV j k t n (hO j k t n hj);exact⟨b,hl h1,hw k b _ h1 h2⟩
theorem mP {f:Nat->Option cg} {q:Nat} {X:cg} (hX:∀k t n,X≠ .shape k t n) (j k t n:Nat) (h:bH f q (some X) j=some (.shape k t n)):f j=some (.shape k t n):=by
 by_cases e:j=q
 ·subst e;rw[aJ]at h;injection h with h;exact absurd h (hX _ _ _)
 ·rwa [ay _ _ e]at h
theorem WR.r5 {G':Gh} {O':VH} {w':World} (h:WR G O w) (hl:∀{k b},G.bW k=some b->G'.bW k=some b) (hO:∀k x,O'.hp k=some (.obj x)->O.hp k=some (.obj x)) (hw:∀k x b,O.hp k=some (.obj x)->G.bW k=some b->w.heap[b]?=some x->w'.heap[b]?=some x):
  ∀k x,O'.hp k=some (.obj x)->∃b,G'.bW k=some b/\w'.heap[b]?=some x:=fun k x hk=>by
 obtain⟨b,h1,h2⟩:=h.obj k x (hO k x hk);exact⟨b,hl h1,hw k x b (hO k x hk) h1 h2⟩
theorem vm {f:Nat->Option cg} {q:Nat} {X:cg} (hX:∀x,X≠ .obj x) (j:Nat) (x:Obj) (h:bH f q (some X) j=some (.obj x)):f j=some (.obj x):=by
 by_cases e:j=q
 ·subst e;rw[aJ]at h;injection h with h;exact absurd h (hX _)
 ·rwa [ay _ _ e]at h
theorem WR.r6 {G':Gh} {O':VH} (h:WR G O w) (hl:G.Le G') (hO:∀k p,O'.hp k=some (.fact p)->O.hp k=some (.fact p)):∀k p,O'.hp k=some (.fact p)->p.p G':=fun k p hk=>p.mono hl (h.BU k p (hO k p hk))
theorem m7 {f:Nat->Option cg} {q:Nat} {X:cg} (hX:∀x,X≠ .fact x) (j:Nat) (x:GP) (h:bH f q (some X) j=some (.fact x)):f j=some (.fact x):=by
 by_cases e:j=q
 ·subst e;rw[aJ]at h;injection h with h;exact absurd h (hX _)
 ·rwa [ay _ _ e]at h
theorem iR {w w':World} {b:Nat} {s:TypeId×Nat} (hh:∀x,w.heap[b]?=some x->w'.heap[b]?=some x) (h:w.shape? b=some s):w'.shape? b=some s:=by
 unfold World.shape? at h ⊢;generalize hx:w.heap[b]?=x at h;cases x with
 | none=>cases h
 | some x=>rw[hh x hx];exact h
theorem WR.drew (h:WR G O w):WR G O w.drew:=⟨h.base.drew,h.eN,h.qm,h.kJ,h.inj,h.cells,h.map,h.tok,h.l_,h.oV,h.obj,h.rz,h.BU⟩
theorem WR.drawn (h:WR G O w) (n:Nat):WR G O {w with drawn:=n}:=
 ⟨⟨h.base.os,h.base.tape,h.base.output,h.base.size,h.base.block⟩,h.eN,h.qm,h.kJ,h.inj,h.cells,h.map,h.tok,h.l_,h.oV,h.obj,h.rz,h.BU⟩
theorem WR.Zm (h:WR G O w):G.B<=w.heap.size:=h.base.size
theorem WR.ajw (h:WR G O w) {g:Nat} (hg:g∈Qo):∃m,w.cell? ⟨g,0,none⟩=some (.int .i64 m):=by
 obtain⟨m,hm⟩:=h.rz g hg;refine⟨m,?_⟩;have hb:=h.base.block g (World.block_lt_of_cell? _ _ hm);unfold World.cell? at hm ⊢;rw[hb];exact hm
theorem Gh.Le.JY {k:Nat} (h:G.bW k=none) (b:Nat):G.Le {G with bW:=bH G.bW k (some b)}:=
 ⟨rfl,fun{j b'} hj=>by
  show bH G.bW k (some b) j=some b';rw[ay _ _ (fun e=>by subst e;rw[h]at hj;cases hj)];exact hj,id,id⟩
theorem fE (w:World) (o:Obj) (b:Nat):(w.alloc o).heap[b]?=if b=w.heap.size then some o else w.heap[b]?:=by
 show(w.heap.push o)[b]?=_;rw[Array.getElem?_push]
theorem dW (w:World) (o:Obj) {b:Nat} {x:Obj} (h:w.heap[b]?=some x):(w.alloc o).heap[b]?=some x:=by
 rw[fE,if_neg (fun e=>by subst e;rw[ajk (adZ _)]at h;cases h)];exact h
theorem rF {w:World} {b:Nat} {x:Obj} (h:w.heap[b]?=some x):b<w.heap.size:=(Array.getElem?_eq_some_iff.1 h).1
theorem BV (w:World) (o:Obj) {a:Addr} {u:Value} (h:w.cell? a=some u):(w.alloc o).cell? a=some u:=by
 rw[World.cell?_alloc_lt w o a (World.block_lt_of_cell? w a h)];exact h
theorem WR.grow (h:WR G O w) (o:Obj):WR G O (w.alloc o) where
 base:=h.base.alloc h.Zm o
 eN b p u hc:=BV w o (h.eN b p u hc)
 qm:=h.qm
 kJ k b hk:=by
  obtain⟨h1,h2,h3⟩:=h.kJ k b hk;exact⟨h1,by simp;omega,h3⟩
 inj:=h.inj
 cells k cs hk:=by
  obtain⟨b,C,T,h1,h2,h3⟩:=h.cells k cs hk;exact⟨b,C,T,h1,dW w o h2,h3⟩
 map k es ck hk:=by
  obtain⟨b,E,h1,h2,h3⟩:=h.map k es ck hk;exact⟨b,E,h1,dW w o h2,h3⟩
 tok t ht:=by
  obtain⟨b,f,k,r,C,T,h1,h2,h3,h4⟩:=h.tok t ht;exact⟨b,f,k,r,C,T,h1,h2,dW w o h3,h4⟩
 l_:=h.l_
 oV:=h.pw id (fun _ _ _ _ h=>h) fun _ _ _ _=>iR fun _=>dW w o
 obj:=h.r5 id (fun _ _ h=>h) fun _ _ _ _ _=>dW w o
 rz:=h.rz
 BU:=h.BU
theorem size_alloc (w:World) (o:Obj):(w.alloc o).heap.size=w.heap.size+1:=by simp
theorem WR.Zn (h:WR G O w) {cs:List MV} {C:Array Value} (T:Fz C) (hc:aQ G cs (C.toList.take cs.length)):
  G.Le {G with bW:=bH G.bW O.N (some w.heap.size)}/\WR {G with bW:=bH G.bW O.N (some w.heap.size)} (O.push (.cells cs)) (w.alloc (.cells C T.t T.fr)):=by
 have hle:=Gh.Le.JY h.m6.1 w.heap.size;have hg:=h.grow (.cells C T.t T.fr)
 have eQ:∀k b,bH G.bW O.N (some w.heap.size) k=some b->(k=O.N/\b=w.heap.size)\/(k≠O.N/\G.bW k=some b):=fun k b hk=>by
  by_cases e:k=O.N
  ·subst e;rw[aJ]at hk;injection hk with hk;exact .inl ⟨rfl,hk.symm⟩
  ·rw[ay _ _ e]at hk;exact .inr ⟨e,hk⟩
 have Qp:∀o,G.eN w.heap.size o=none:=fun o=>by
  cases hh:G.eN w.heap.size o with
  | none=>rfl
  | some u=>have:=h.Zl hh;omega
 refine⟨hle,hg.base,hg.eN,fun k hk=>?_,fun k b hk=>?_,fun j k b lj lk hj hk=>?_,fun k ds hk=>?_,fun k es ck hk=>?_,fun t ht=>?_,fun s t b x y hs ht h1 h2=>?_,h.pw hle.bW (mP (by simp)) fun _ _ _ _=>iR fun _=>dW w _,h.r5 hle.bW (vm (by simp)) fun _ _ _ _ _=>dW w _,h.rz,h.r6 hle (m7 (by simp))⟩
 ·have hk:O.N+1<=k:=hk;obtain⟨h1,h2,h3⟩:=h.qm k (by omega);exact⟨by show bH _ _ _ _=_;rw[ay _ _ (by omega)];exact h1,h2,by show bH _ _ _ _=_;rw[ay _ _ (by omega)];exact h3⟩
 ·rcases eQ k b hk with⟨_,rfl⟩ | ⟨cA,hk⟩
  ·exact⟨h.Zm,by simp,fun _=>Qp⟩
  ·obtain⟨p1,p2,p3⟩:=hg.kJ k b hk;exact⟨p1,p2,fun hne=>p3 (by have hne:bH O.hp O.N (some (.cells cs)) k≠none:=hne;rwa [ay _ _ cA]at hne)⟩
 ·rcases eQ j b hj with⟨rfl,rfl⟩ | ⟨cI,hj⟩<;>rcases eQ k _ hk with⟨rfl,hb⟩ | ⟨cA,hk⟩
  ·rfl
  ·have:=(h.kJ _ _ hk).2.1;omega
  ·subst hb;have:=(h.kJ _ _ hj).2.1;omega
  ·exact h.inj j k b (by have lj:bH O.hp O.N (some (.cells cs)) j≠none:=lj;rwa [ay _ _ cI]at lj) (by have lk:bH O.hp O.N (some (.cells cs)) k≠none:=lk;rwa [ay _ _ cA]at lk) hj hk
 ·have hk:bH O.hp O.N (some (.cells cs)) k=some (.cells ds):=hk;by_cases e:k=O.N
  ·subst e;rw[aJ]at hk;injection hk with hk;injection hk with hk;subst hk
   refine⟨w.heap.size,C,T,aJ _ _ _,by rw[fE,if_pos rfl],?_⟩;exact hc.mono hle
  ·rw[ay _ _ e]at hk;obtain⟨b,D,T',h1,h2,h3⟩:=hg.cells k ds hk;exact⟨b,D,T',hle.bW h1,h2,h3.mono hle⟩
 ·have hk:bH O.hp O.N (some (.cells cs)) k=some (.map es ck):=hk;by_cases e:k=O.N
  ·subst e;rw[aJ]at hk;cases hk
  ·rw[ay _ _ e]at hk;obtain⟨b,E,h1,h2,h3,h4,h5⟩:=hg.map k es ck hk;exact⟨b,E,hle.bW h1,h2,h3,h4.mono hle,h5.mono hle⟩
 ·have ht:bH O.hp O.N (some (.cells cs)) t=some .tok:=ht;by_cases e:t=O.N
  ·subst e;rw[aJ]at ht;cases ht
  ·rw[ay _ _ e]at ht;obtain⟨b,f,k,r,D,T',h1,h2,h3,h4,h6,h7⟩:=hg.tok t ht;obtain⟨_,_,_,_,_,_,Zo,_,Zp,_⟩:=h.tok t ht;refine⟨b,f,k,r,D,T',h1,h2,h3,h4,h6,fun j hj=>?_⟩;rcases eQ j b hj with⟨_,rfl⟩ | ⟨_,hj⟩
   ·rw[h1]at Zo;injection Zo with e1;injection e1 with e1 _;subst e1
    have:=rF Zp;omega
   ·exact h7 j hj
 ·have hs:bH O.hp O.N (some (.cells cs)) s=some .tok:=hs;have ht:bH O.hp O.N (some (.cells cs)) t=some .tok:=ht;have es:s≠O.N:=fun e=>by subst e;rw[aJ]at hs;cases hs
  have et:t≠O.N:=fun e=>by subst e;rw[aJ]at ht;cases ht
  rw[ay _ _ es]at hs;rw[ay _ _ et]at ht;exact h.l_ s t b x y hs ht h1 h2
theorem WR.push (h:WR G O w) {cs:List MV} {C:Array Value} (T:TypeId) (hc:aQ G cs C.toList):
  G.Le {G with bW:=bH G.bW O.N (some w.heap.size)}/\WR {G with bW:=bH G.bW O.N (some w.heap.size)} (O.push (.cells cs)) (w.alloc (.cells C T)):=
 h.Zn ⟨T,(0,0),.inl rfl⟩ (by rw[List.take_of_length_le (by rw[hc.1];exact adZ _)];exact hc)
theorem WR.forget (h:WR G O w) {O':VH} (hn:O.N<=O'.N) (hh:∀k,O'.hp k=none\/O'.hp k=O.hp k):WR G O' w where
 base:=h.base
 eN:=h.eN
 qm k hk:=by
  obtain⟨h1,h2,h3⟩:=h.qm k (by omega);exact⟨h1,h2,by rcases hh k with e | e<;>rw[e];exact h3⟩
 kJ k b hk:=by
  obtain⟨p1,p2,p3⟩:=h.kJ k b hk
  exact⟨p1,p2,fun hne=>p3 (by rcases hh k with e | e; · exact absurd e hne
                              ·rwa [e]at hne)⟩
 inj j k b lj lk:=h.inj j k b (fun e=>(hh j).elim lj (fun e'=>lj (e'.trans e))) (fun e=>(hh k).elim lk (fun e'=>lk (e'.trans e)))
 cells k cs hk:=h.cells k cs (by rcases hh k with e | e<;>rw[e]at hk; · cases hk
                                 ·exact hk)
 map k es ck hk:=h.map k es ck (by rcases hh k with e | e<;>rw[e]at hk; · cases hk
                                   ·exact hk)
 tok t ht:=h.tok t (by rcases hh t with e | e<;>rw[e]at ht; · cases ht
                       ·exact ht)
 l_ s t b x y hs ht h1 h2:=h.l_ s t b x y (by rcases hh s with e | e<;>rw[e]at hs; · cases hs
                                              ·exact hs) (by rcases hh t with e | e<;>rw[e]at ht; · cases ht
                                                             ·exact ht) h1 h2
 oV:=h.pw id (fun j k t n hj=>by rcases hh j with e | e<;>rw[e]at hj; · cases hj
                                 ·exact hj) fun _ _ _ _ h=>h
 obj:=h.r5 id (fun j x hj=>by rcases hh j with e | e<;>rw[e]at hj; · cases hj
                              ·exact hj) fun _ _ _ _ _ h=>h
 rz:=h.rz
 BU:=h.r6 (Gh.Le.refl _) fun j x hj=>by
  rcases hh j with e | e
  ·rw[e]at hj;cases hj
  ·rw[e]at hj;exact hj
theorem WR.kill (h:WR G O w) (k:Nat):WR G (O.kill k) w:=h.forget (adZ _) fun j=>by
 show bH _ _ _ j=none\/bH _ _ _ j=_;by_cases e:j=k
 ·subst e;exact .inl (aJ _ _ _)
 ·exact .inr (ay _ _ e)
def Aa (G:Gh) (b:Nat) (f:Nat->Option Value):Gh:={G with eN:=fun b' o=>if b'=b then f o else G.eN b' o}
theorem Qq {b:Nat} {f:Nat->Option Value} (h:∀o u,G.eN b o=some u->f o=some u):G.Le (Aa G b f):=
 ⟨rfl,id,fun{b' o u} hc=>by
  show(if b'=b then f o else G.eN b' o)=some u;split
  ·subst b';exact h o u hc
  ·exact hc,id⟩
theorem WR.Ec (h:WR G O w) {b:Nat} {f:Nat->Option Value} (hold:∀o u,G.eN b o=some u->f o=some u) (k9:∀o u,f o=some u->w.cell? ⟨b,o,none⟩=some u)
  (eQ:∀k,O.hp k≠none->G.bW k≠some b) (vo:∀t c x,O.hp t=some .tok->G.tok t=some (c,x)->c=b->∀o,x.1<=o->f o=none):G.Le (Aa G b f)/\WR (Aa G b f) O w:=by
 have hle:=Qq (G:=G) hold;refine⟨hle,h.base,fun b' o u hc=>?_,h.qm,fun k c hk=>?_,h.inj,fun k cs hk=>?_,fun k es ck hk=>?_,fun t ht=>?_,h.l_,h.pw hle.bW (fun _ _ _ _ h=>h) fun _ _ _ _ h=>h,h.r5 hle.bW (fun _ _ h=>h) fun _ _ _ _ _ h=>h,h.rz,h.r6 hle fun _ _ h=>h⟩
 ·have iH:(if b'=b then f o else G.eN b' o)=some u:=hc;split at iH
  ·subst b';exact k9 o u iH
  ·exact h.eN b' o u iH
 ·obtain⟨h1,h2,h3⟩:=h.kJ k c hk;refine⟨h1,h2,fun hne o=>?_⟩;show(if c=b then f o else G.eN c o)=none;rw[if_neg (fun e=>eQ k hne (by rw[<-e];exact hk))];exact h3 hne o
 ·obtain⟨c,C,T,h1,h2,h3⟩:=h.cells k cs hk;exact⟨c,C,T,h1,h2,h3.mono hle⟩
 ·obtain⟨c,E,h1,h2,h3,h4,h5⟩:=h.map k es ck hk;exact⟨c,E,h1,h2,h3,h4.mono hle,h5.mono hle⟩
 ·obtain⟨c,g,k,r,C,T,h1,h2,h3,h4,h6,h7⟩:=h.tok t ht;refine⟨c,g,k,r,C,T,h1,h2,h3,h4,fun o ho=>?_,h7⟩;show(if c=b then f o else G.eN c o)=none;split
  ·exact vo t c _ ht h1 ‹_› o ho
  ·exact h6 o ho
theorem Ia (w:World) (C:Array Value) (T:TypeId) (fr:Nat×Nat) (o:Nat):(w.alloc (.cells C T fr)).cell? ⟨w.heap.size,o,none⟩=C[o]?:=by
 have:(w.alloc (.cells C T fr)).heap[w.heap.size]?=some (.cells C T fr):=by rw[fE,if_pos rfl]
 simp only[World.cell?,this,ahL,Zj,if_false]
theorem WR.tF (h:WR G O w) (k:Nat):G.bW k≠some w.heap.size:=fun e=>by have:=(h.kJ k _ e).2.1;omega
theorem WR.w_ (h:WR G O w) (o:Nat):G.eN w.heap.size o=none:=by
 cases hh:G.eN w.heap.size o with
 | none=>rfl
 | some u=>have:=h.Zl hh;omega
theorem WR.p8 (h:WR G O w) {t c:Nat} {x:Nat×Nat×Nat} (ht:O.hp t=some .tok) (hc:G.tok t=some (c,x)):c≠w.heap.size:=fun e=>by
 obtain⟨b,_,_,_,_,_,h1,_,h3,_⟩:=h.tok t ht;rw[hc]at h1;injection h1 with h1;injection h1 with h1 _
 have:=rF h3;omega
theorem WR.lit (h:WR G O w) (C:Array Value) (T:TypeId):G.Le (Aa G w.heap.size fun o=>C[o]?)/\WR (Aa G w.heap.size fun o=>C[o]?) O (w.alloc (.cells C T)):=
 (h.grow (.cells C T)).Ec (fun o u hc=>by rw[h.w_]at hc;cases hc) (fun o u hf=>by rw[Ia];exact hf) (fun k _=>h.tF k)
  fun t c x ht hc e=>absurd e (h.p8 ht hc)
theorem WR.Tu (h:WR G O w) {b f k r:Nat} {C:Array Value} {T:TypeId} (hB:G.B<=b) (hb:w.heap[b]?=some (.cells C T (0,0))) (hf:f+r*k<=C.size)
  (Mc:∀o,f<=o->G.eN b o=none) (eQ:∀j,G.bW j≠some b) (vo:∀t c x,O.hp t=some .tok->G.tok t=some (c,x)->c≠b):
  G.Le {G with tok:=bH G.tok O.N (some (b,f,k,r))}/\WR {G with tok:=bH G.tok O.N (some (b,f,k,r))} (O.push .tok) w:=by
 have hle:G.Le {G with tok:=bH G.tok O.N (some (b,f,k,r))}:=⟨rfl,id,id,fun{t x} ht=>by
  show bH G.tok O.N _ t=some x;rw[ay _ _ (fun e=>by subst e;rw[h.m6.2.1]at ht;cases ht)];exact ht⟩
 have oz:∀j x,bH O.hp O.N (some cg.tok) j=some x->(j=O.N/\x= .tok)\/(j≠O.N/\O.hp j=some x):=fun j x hj=>by
  by_cases e:j=O.N
  ·subst e;rw[aJ]at hj;injection hj with hj;exact .inl ⟨rfl,hj.symm⟩
  ·rw[ay _ _ e]at hj;exact .inr ⟨e,hj⟩
 refine⟨hle,h.base,h.eN,fun j hj=>?_,fun j c hj=>?_,fun j k' c lj lk hj hk=>?_,fun j cs hj=>?_,fun j es ck hj=>?_,fun t ht=>?_,fun s t c x y hs ht h1 h2=>?_,h.pw hle.bW (mP (by simp)) fun _ _ _ _ h=>h,h.r5 hle.bW (vm (by simp)) fun _ _ _ _ _ h=>h,h.rz,h.r6 hle (m7 (by simp))⟩
 ·have hj:O.N+1<=j:=hj;obtain⟨h1,h2,h3⟩:=h.qm j (by omega);exact⟨h1,by show bH _ _ _ _=_;rw[ay _ _ (by omega)];exact h2,by show bH _ _ _ _=_;rw[ay _ _ (by omega)];exact h3⟩
 ·obtain⟨p1,p2,p3⟩:=h.kJ j c hj;refine⟨p1,p2,fun hne=>p3 ?_⟩;have hne:bH O.hp O.N (some cg.tok) j≠none:=hne
  rwa [ay _ _ (fun e=>by subst e;have hj:G.bW O.N=some c:=hj;rw[h.m6.1]at hj;cases hj)]at hne
 ·have hl:∀m,G.bW m=some c->bH O.hp O.N (some cg.tok) m≠none->O.hp m≠none:=fun m hm hn=>by
   rwa [ay _ _ (fun e=>by subst e;rw[h.m6.1]at hm;cases hm)]at hn
  exact h.inj j k' c (hl j hj lj) (hl k' hk lk) hj hk
 ·rcases oz j _ hj with⟨_,e⟩ | ⟨_,hj⟩
  ·cases e
  ·obtain⟨c,D,T',h1,h2,h3⟩:=h.cells j cs hj;exact⟨c,D,T',h1,h2,h3.mono hle⟩
 ·rcases oz j _ hj with⟨_,e⟩ | ⟨_,hj⟩
  ·cases e
  ·obtain⟨c,E,h1,h2,h3,h4,h5⟩:=h.map j es ck hj;exact⟨c,E,h1,h2,h3,h4.mono hle,h5.mono hle⟩
 ·rcases oz t _ ht with⟨rfl,_⟩ | ⟨e,ht⟩
  ·exact⟨b,f,k,r,C,T,aJ _ _ _,hB,hb,hf,Mc,eQ⟩
  ·obtain⟨c,g,k',r',D,T',h1,h2⟩:=h.tok t ht;exact⟨c,g,k',r',D,T',by show bH _ _ _ _=_;rw[ay _ _ e];exact h1,h2⟩
 ·have h1:bH G.tok O.N (some (b,f,k,r)) s=some (c,x):=h1;have h2:bH G.tok O.N (some (b,f,k,r)) t=some (c,y):=h2;rcases oz s _ hs with⟨rfl,_⟩ | ⟨es,hs⟩<;>rcases oz t _ ht with⟨rfl,_⟩ | ⟨et,ht⟩
  ·rfl
  ·rw[aJ]at h1;rw[ay _ _ et]at h2;injection h1 with h1;injection h1 with h1 _;subst h1
   exact absurd rfl (vo t _ _ ht h2)
  ·rw[aJ]at h2;rw[ay _ _ es]at h1;injection h2 with h2;injection h2 with h2 _;subst h2
   exact absurd rfl (vo s _ _ hs h1)
  ·rw[ay _ _ es]at h1;rw[ay _ _ et]at h2;exact h.l_ s t c x y hs ht h1 h2
theorem WR.store (h:WR G O w) {k i b:Nat} {cs:List MV} {c:MV} {u:Value} (hk:O.hp k=some (.cells cs)) (hp:G.bW k=some b) (hi:i<cs.length) (hc:VR G c u):
  WR G (O.set k (.cells (cs.set i c))) (w.setCell ⟨b,i,none⟩ u):=by
 obtain⟨b',C,T,h1,h2,h3⟩:=h.cells k cs hk;rw[hp]at h1;injection h1 with h1;subst h1
 have hne:∀j b',j≠k->O.hp j≠none->G.bW j=some b'->b'≠b:=fun j b' hj lj nC e=>hj (h.inj j k b lj (by rw[hk];simp) (e▸nC) hp)
 have kK:∀j,bH O.hp k (some (.cells (cs.set i c))) j≠none->O.hp j≠none:=fun j hn=>by
  by_cases e:j=k
  ·subst e;rw[hk];simp
  ·rwa [ay _ _ e]at hn
 have px:(w.setCell ⟨b,i,none⟩ u).heap[b]?=some (.cells (C.setIfInBounds i u) T.t T.fr):=by
  simp[World.setCell,Array.getElem?_modify,h2]
 have eR:∀j,j≠b->(w.setCell ⟨b,i,none⟩ u).heap[j]?=w.heap[j]?:=fun j hj=>Below.heap_setCell _ _ _ _ (by simpa using hj)
 refine⟨h.base.setCell (h.kJ k b hp).1 u,fun b' o u' py=>?_,fun j hj=>?_,fun j b' hj=>?_,fun j k' b' lj lk=>h.inj j k' b' (kK j lj) (kK k' lk),fun j ds hj=>?_,fun j es ck hj=>?_,fun t ht=>?_,fun s t b' x y hs ht=>?_,h.pw id (mP (by simp)) fun j b' s _ hs=>?_,h.r5 id (vm (by simp)) fun j x b' hj hb hx=>by rw[eR _ (hne j b' (fun e=>by subst e;rw[hk]at hj;cases hj) (by rw[hj];simp) hb)];exact hx,h.rz,h.r6 (Gh.Le.refl _) (m7 (by simp))⟩
 ·have yR:b'≠b:=fun e=>by subst e;rw[(h.kJ k b' hp).2.2 (by rw[hk];simp) o]at py;cases py
  rw[World.cell?_setCell_other _ _ _ _ (fun e=>yR (by injection e with e;exact e.symm))];exact h.eN b' o u' py
 ·obtain⟨d1,d2,d3⟩:=h.qm j hj;refine⟨d1,d2,?_⟩;show bH _ _ _ _=_;rw[ay _ _ (fun e=>by subst e;rw[d3]at hk;cases hk)];exact d3
 ·obtain⟨p1,p2,p3⟩:=h.kJ j b' hj;refine⟨p1,by simp[World.setCell];exact p2,fun hne=>p3 ?_⟩;have hne:bH O.hp k (some (.cells (cs.set i c))) j≠none:=hne;by_cases e:j=k
  ·subst e;rw[hk];simp
  ·rwa [ay _ _ e]at hne
 ·have hj:bH O.hp k (some (.cells (cs.set i c))) j=some (.cells ds):=hj;by_cases e:j=k
  ·subst e;rw[aJ]at hj;injection hj with hj;injection hj with hj;subst hj
   refine⟨b,_,⟨T.t,T.fr,by simpa using T.ok⟩,hp,px,?_⟩;have:=h3.set (i:=i) hc;rw[ajv,List.length_set,List.take_set];exact this
  ·rw[ay _ _ e]at hj;obtain⟨b',D,T',d1,d2,d3⟩:=h.cells j ds hj;exact⟨b',D,T',d1,by rw[eR _ (hne j b' e (by rw[hj];simp) d1)];exact d2,d3⟩
 ·have hj:bH O.hp k (some (.cells (cs.set i c))) j=some (.map es ck):=hj;by_cases e:j=k
  ·subst e;rw[aJ]at hj;cases hj
  ·rw[ay _ _ e]at hj;obtain⟨b',E,d1,d2,d3⟩:=h.map j es ck hj;exact⟨b',E,d1,by rw[eR _ (hne j b' e (by rw[hj];simp) d1)];exact d2,d3⟩
 ·have ht:bH O.hp k (some (.cells (cs.set i c))) t=some .tok:=ht;have e:t≠k:=fun e=>by subst e;rw[aJ]at ht;cases ht
  rw[ay _ _ e]at ht;obtain⟨b',f,k',r,D,T',d1,d2,d3,d4,d6,d7⟩:=h.tok t ht;exact⟨b',f,k',r,D,T',d1,d2,by rw[eR _ (fun e=>d7 k (by rw[e];exact hp))];exact d3,d4,d6,d7⟩
 ·have hs:bH O.hp k (some (.cells (cs.set i c))) s=some .tok:=hs;have ht:bH O.hp k (some (.cells (cs.set i c))) t=some .tok:=ht;have e:t≠k:=fun e=>by subst e;rw[aJ]at ht;cases ht
  have e':s≠k:=fun e=>by subst e;rw[aJ]at hs;cases hs
  rw[ay _ _ e]at ht;rw[ay _ _ e']at hs;exact h.l_ s t b' x y hs ht
 ·by_cases e:b'=b
  ·subst e;simp only[World.shape?,h2]at hs;simp only[World.shape?,px,Array.size_setIfInBounds];exact hs
  ·exact iR (fun x hx=>by rw[eR _ e];exact hx) hs
theorem WR.freeze (h:WR G O w) {k o n c sz:Nat} {cs:List MV} {u:Value} (hk:O.hp k=some (.cells cs)) (hx:VR G (.bB k o n c) u) (hl:o+sz<=cs.length):
  ∃H,G.Le H/\WR H (O.kill k) w/\VR H (.sl n ((cs.drop o).take sz) (if c=n then .full else .au)) u:=by
 cases hx with
 | bB hp hn hm=>
   rename_i b;obtain⟨b',C,T,h1,h2,h3⟩:=h.cells k cs hk;rw[hp]at h1;injection h1 with h1;subst h1
   have ajx:=(h.kJ k b hp).2.2 (by rw[hk];simp)
   obtain⟨hle,hW⟩:=(h.kill k).Ec (b:=b) (f:=fun o=>C[o]?) (fun o u hc=>by rw[ajx o]at hc;cases hc)
    (fun o u hf=>by simp only[World.cell?,h2,ahL,Zj,if_false];exact hf)
    (fun j hj Zq=>by
     have lj:O.hp j≠none:=fun e=>by
      by_cases e2:j=k
      ·subst e2;exact hj (aJ _ _ _)
      ·exact hj ((ay _ _ e2).trans e)
     have:j=k:=h.inj j k b lj (by rw[hk];simp) Zq hp;subst this;exact hj (aJ _ _ _))
    (fun t c' x ht py e=>by
     subst e
     have ht':O.hp t=some .tok:=by
      have ht:bH O.hp k none t=some .tok:=ht;by_cases e:t=k
      ·subst e;rw[aJ]at ht;cases ht
      ·rwa [ay _ _ e]at ht
     obtain⟨_,_,_,_,_,_,d1,_,_,_,_,d7⟩:=h.tok t ht';rw[py]at d1;injection d1 with d1;injection d1 with d1 _;subst d1
     exact absurd hp (d7 k))
   refine⟨_,hle,hW,?_⟩;have h4:aQ G ((cs.drop o).take sz) (((C.toList.take cs.length).drop o).take sz):=(h3.drop o).take sz
   have h5:((C.toList.take cs.length).drop o).take sz=(C.toList.drop o).take sz:=by
    rw[List.drop_take,List.take_take,Nat.min_eq_left (by omega)]
   rw[h5]at h4;refine .sl h4.1 (fun i u hu=>?_) (fun i c u a b=>(h4.2 i c u a b).mono hle) hn hm ?_
   ·show(if b=b then C[o+i]? else _)=some u;rw[if_pos rfl];rw[Vq]at hu;split at hu
    ·rw[adX]at hu;simpa using hu
    ·cases hu
   ·split
    ·rename_i e;exact e
    ·trivial
end
structure cL where
 under:TypeDesc
 size:Nat
 bytes:Nat
 zero:List MV
def ef:TypeDesc->Bool
 | .struct _ | .array _ _=>true
 | _=>false
structure yh (P:Program) (t:TypeId) (i:cL):Prop where
 under:P.underlying t=some i.under
 info:∃ti z,P.info? t=some ti/\ti.size=i.size/\ti.bytes=i.bytes/\ti.zero=some z/\z.cells.size=i.size/\∀G,aQ G i.zero z.cells.toList
 whole:∀ti z,P.info? t=some ti->ti.zero=some z->(ef i.under=true->∃cs,z= .agg cs)/\(ef i.under=false->z.cells= #[z])
abbrev cj:=TypeId->Option cL
def aO (P:Program) (tab:cj):Prop:=∀t i,tab t=some i->yh P t i
def ofConst:Value->Option MV
 | .string s=>some (.str s.data.toList)
 | .slice none 0 0=>some (.sl 0 [] .nil)
 | x=>if plain x then some (.v x)else none
theorem CJ {G:Gh} {x:Value} {m:MV} (h:ofConst x=some m):VR G m x:=by
 unfold ofConst at h;split at h
 ·injection h with h;subst h;rename_i s;obtain⟨⟨l⟩⟩:=s;exact .str
 ·injection h with h;subst h;exact .slnil
 ·split at h
  ·injection h with h;subst h;exact .v ‹_›
  ·cases h
abbrev Env:=List (Nat×MV)
def look:Env->Nat->Option MV
 | [],_=>none
 | (k,x)::r,t=>bif t==k then some x else look r t
def ev (e:Env):Operand->Option MV
 | .tmp t=>look e t
 | .const v=>ofConst v
 | .global _=>none
 | .func f=>some (.func (.func f) [] [])
structure Sz where
 n:Nat
 lo:Nat
def k_ (n:Sz):Env->Env
 | []=>[]
 | (t,m)::e=>bif decide (t<n.lo)then(t,m)::k_ n e else k_ n e
theorem yS {n:Sz}:∀{e:Env} {t:Nat},look (k_ n e) t=if t<n.lo then look e t else none
 | [],t=>by simp[k_,look]
 | (k,m)::e,t=>by
   have ih:=yS (n:=n) (e:=e) (t:=t);simp only[k_];by_cases hk:k<n.lo
   ·simp only[hk,decide_true,cond_true,look,ih];by_cases ht:t=k
    ·subst ht;simp[hk]
    ·have:(t==k)=false:=by simpa using ht
     simp[this]
   ·simp only[hk,decide_false,cond_false,look,ih];by_cases ht:t<n.lo
    ·have:(t==k)=false:=by simp;omega
     simp[this]
    ·simp[ht]
structure FR (G:Gh) (n:Sz) (D:List Deferred) (e:Env) (a:Act):Prop where
 defers:a.defers=D
 size:a.tmps.size=n.n
 get:∀t x,look e t=some x->∃u,a.tmps[t]?=some u/\VR G x u
section
variable {G H:Gh} {n:Sz} {D:List Deferred} {e:Env} {a:Act} {P:Program} {tab:cj} {O O':VH} {w:World} {m:MV}
theorem FR.mono (h:FR G n D e a) (hl:G.Le H):FR H n D e a:=⟨h.defers,h.size,fun t x hx=>by obtain⟨u,h1,h2⟩:=h.get t x hx;exact⟨u,h1,h2.mono hl⟩⟩
theorem FR.ev (h:FR G n D e a) {x:Operand} (hx:ev e x=some m):VR G m (a.eval x):=by
 cases x with
 | tmp t=>
   obtain⟨u,h1,h2⟩:=h.get t m hx
   have:a.eval (.tmp t)=u:=by
    show a.tmps.getD t undef=u;rw[aju,h1];rfl
   rw[this];exact h2
 | const v=>exact CJ hx
 | global g=>cases hx
 | func f=>
   injection hx with hx;subst hx
   exact VR.func (us:=[]) (vs:=[]) rfl (fun i c u h=>by simp at h) rfl (fun i c u h=>by simp at h)
theorem FR.put (h:FR G n D e a) {d:Nat} {u:Value} (hd:d<n.n) (hu:VR G m u):FR G n D ((d,m)::e) (a.put (some d) u):=by
 refine⟨h.defers,by simp[Act.put,h.size],fun t x hx=>?_⟩;simp only[look]at hx;by_cases e':t=d
 ·subst e';simp only[beq_self_eq_true,cond_true,Option.some.injEq]at hx;subst hx;exact⟨u,by simp[Act.put,h.size,hd],hu⟩
 ·have:(t==d)=false:=by simpa using e'
  rw[this]at hx;obtain⟨u',h1,h2⟩:=h.get t x hx;refine⟨u',?_,h2⟩;simp only[Act.put];rw[ajp (Ne.symm e')];exact h1
theorem FR.less (h:FR G n D e a) {e':Env} (hl:∀t x,look e' t=some x->look e t=some x):FR G n D e' a:=⟨h.defers,h.size,fun t x hx=>h.get t x (hl t x hx)⟩
def gh (e:Env) (l:List Operand):Option (List MV):=l.mapM (ev e)
theorem FR.gh (h:FR G n D e a):∀{l:List Operand} {ms:List MV},gh e l=some ms->aQ G ms (l.map a.eval)
 | [],ms,hx=>by simp[Go.Proofs.YtjpadehgejlebaaGreatDoor.gh]at hx;subst hx;exact aQ.nil
 | x::l,ms,hx=>by
   simp only[Go.Proofs.YtjpadehgejlebaaGreatDoor.gh,ahK,ahJ,Qm]at hx;obtain⟨m,h1,Zr,h2,h3⟩:=hx;injection h3 with h3;subst h3
   exact aQ.cons (h.ev h1) (FR.gh h h2)
def rG (op:BinOp) (k:IntKind) (a b:Int):Option MV:=
 match op with
 | .add=>some (.v (.int k (k.wrap (a+b))))
 | .sub=>some (.v (.int k (k.wrap (a - b))))
 | .mul=>some (.v (.int k (k.wrap (a*b))))
 | .quo=>if b=0 then none else some (.v (.int k (k.wrap (a.tdiv b))))
 | .rem=>if b=0 then none else some (.v (.int k (a.tmod b)))
 | .eql=>some (.v (.bool (a==b)))
 | .neq=>some (.v (.bool (a != b)))
 | .lss=>some (.v (.bool (decide (a<b))))
 | .leq=>some (.v (.bool (decide (a<=b))))
 | .gtr=>some (.v (.bool (decide (a>b))))
 | .geq=>some (.v (.bool (decide (a>=b))))
 | .and=>some (.v (.int k (k.wrap (BitVec.ofInt k.bits a&&& BitVec.ofInt k.bits b).toNat)))
 | .or=>some (.v (.int k (k.wrap (BitVec.ofInt k.bits a||| BitVec.ofInt k.bits b).toNat)))
 | .xor=>some (.v (.int k (k.wrap (BitVec.ofInt k.bits a ^^^ BitVec.ofInt k.bits b).toNat)))
 | _=>none
def Ab (op:BinOp) (k:IntKind) (a b:Int):Option MV:=
 if b<0 then none else
 match op with
 | .shl=>some (.v (.int k (k.wrap (a*2 ^ (min b.toNat k.bits)))))
 | .shr=>some (.v (.int k (a.fdiv (2 ^ (min b.toNat k.bits)))))
 | _=>none
def agd (op:BinOp) (a b:List UInt8):Option MV:=
 match op with
 | .add=>if a.length+b.length<=9223372036854775807 then some (.str (a++b))else none
 | .eql=>some (.v (.bool (a==b)))
 | .neq=>some (.v (.bool (!(a==b))))
 | .lss=>some (.v (.bool (Op.bytesLess a b)))
 | .leq=>some (.v (.bool (Op.bytesLess a b||a==b)))
 | .gtr=>some (.v (.bool (!(Op.bytesLess a b||a==b))))
 | .geq=>some (.v (.bool (!(Op.bytesLess a b))))
 | _=>none
def nJ (tab:cj) (op:BinOp) (t:TypeId) (same:Bool):Option MV:=
 match((tab t).map cL.under:Option TypeDesc),op with
 | some (.pointer _),.eql=>some (.v (.bool same))
 | some (.pointer _),.neq=>some (.v (.bool (!same)))
 | _,_=>none
def dw (tab:cj) (op:BinOp) (t:TypeId) (x y:MV):Option MV:=
 match x,y with
 | .v (.int k a),.v (.int k' b)=>
   match op with
   | .shl=>Ab .shl k a b
   | .shr=>Ab .shr k a b
   | op=>if k=k' then rG op k a b else none
 | .v (.bool a),.v (.bool b)=>
   match((tab t).map cL.under:Option TypeDesc),op with
   | some .bool,.eql=>some (.v (.bool (a==b)))
   | some .bool,.neq=>some (.v (.bool (!(a==b))))
   | _,_=>none
 | .str a,.str b=>agd op a b
 | .v (.pointer none),.v (.pointer none)=>nJ tab op t true
 | .ptr _ _,.v (.pointer none)=>nJ tab op t false
 | .v (.pointer none),.ptr _ _=>nJ tab op t false
 | .dE _ _,.v (.pointer none)=>nJ tab op t false
 | .v (.pointer none),.dE _ _=>nJ tab op t false
 | .ptr b o,.ptr b' o'=>if b=b'/\o=o' then(match((tab t).map cL.under:Option TypeDesc)with
   | some (.pointer el)=>match tab el with
     | some te=>if te.size=0 then none else nJ tab op t true
     | none=>none
   | _=>none)else none
 | _,_=>none
theorem toList_mk (l:List UInt8):(⟨⟨l⟩⟩:ByteArray).toList=l:=by
 rw[ByteArray.toList_eq]
theorem run_equal_bool {t:TypeId} (h:P.underlying t=some .bool) (a b:Bool) (w:World):(Op.equal t (.bool a) (.bool b)).run P w= .ok (a==b) w:=by
 show(Op.equalIn (9999+1) t (.bool a) (.bool b)).run P w=_;generalize 9999=d;simp[Op.equalIn,run_underlying h]
def SS (G:Gh) (w:World):Prop:=∀b o u,G.eN b o=some u->w.cell? ⟨b,o,none⟩=some u
theorem WR.ss (h:WR G O w):SS G w:=h.eN
def bh (P:Program) (s:Sem Value) (G:Gh) (m:MV):Prop:=∃u,VR G m u/\∀w,SS G w->s.run P w= .ok u w
theorem bh.of {s:Sem Value} {u:Value} (hr:∀w,SS G w->s.run P w= .ok u w) (hu:VR G m u):bh P s G m:=⟨u,hu,hr⟩
theorem yT (ht:aO P tab) {t:TypeId} {d:TypeDesc} (h:(tab t).map cL.under=some d):P.underlying t=some d:=by
 obtain⟨i,hi,hu⟩:=Ma.1 h;rw[<-hu];exact(ht t i hi).under
theorem Zs {t:TypeId} {i:cL} (h:yh P t i) (w:World):(sizeOf t).run P w= .ok i.size w:=by
 obtain⟨ti,z,h1,h2,_⟩:=h.info;simp[sizeOf,typeInfo,h1,h2]
theorem sy (ht:aO P tab) {op:BinOp} {t:TypeId} {same:Bool} {p q:Option Addr} {xo yo:Operand} (h:nJ tab op t same=some m)
  (heq:∀el,P.underlying t=some (.pointer el)->∀(w:World) (d:Nat),(Op.equalIn (d+1) t (.pointer p) (.pointer q)).run P w= .ok same w):bh P (do eqGuard op t xo yo (.pointer p) (.pointer q);binOp op t (.pointer p) (.pointer q)) G m:=by
 have hg:∀w,(eqGuard op t xo yo (.pointer p) (.pointer q)).run P w= .ok () w:=fun w=>by unfold eqGuard;split<;>simp
 unfold nJ at h;split at h
 ·rename_i el hu;injection h with h;subst h
  refine bh.of (fun w _=>?_) (.v rfl);rw[Sem.run_bind,hg,Result.andThen_ok];have:=heq el (yT ht hu) w 9999;simp only[binOp,Op.equal,Op.maxDepth,Sem.run_bind,this,Result.andThen_ok,Sem.run_pure]
 ·rename_i el hu;injection h with h;subst h
  refine bh.of (fun w _=>?_) (.v rfl);rw[Sem.run_bind,hg,Result.andThen_ok];have:=heq el (yT ht hu) w 9999;simp only[binOp,Op.equal,Op.maxDepth,Sem.run_bind,this,Result.andThen_ok,Sem.run_pure]
 ·cases h
theorem Zt (ht:aO P tab) {op:BinOp} {t:TypeId} {x y:MV} {u v:Value} {xo yo:Operand} (h:dw tab op t x y=some m) (hx:VR G x u) (hy:VR G y v):
  bh P (do eqGuard op t xo yo u v;binOp op t u v) G m:=by
 unfold dw at h;split at h
 ·rename_i k a k' b;cases hx;cases hy
  have hg:∀w,(eqGuard op t xo yo (.int k a) (.int k' b)).run P w= .ok () w:=fun w=>by unfold eqGuard;split<;>simp
  split at h
  ·unfold Ab at h;split at h
   ·cases h
   ·injection h with h;subst h
    exact bh.of (fun w _=>by rw[Sem.run_bind,hg,Result.andThen_ok];simp[binOp,Op.shift, *]) (.v rfl)
  ·unfold Ab at h;split at h
   ·cases h
   ·injection h with h;subst h
    exact bh.of (fun w _=>by rw[Sem.run_bind,hg,Result.andThen_ok];simp[binOp,Op.shift, *]) (.v rfl)
  ·rename_i h1 h2;split at h
   ·subst k'
    cases op<;>simp only[rG]at h<;>first
     | (exact absurd rfl h1)
     | (exact absurd rfl h2)
     | (cases h;done)
     | (injection h with h;subst h;exact bh.of (fun w _=>by rw[Sem.run_bind,hg,Result.andThen_ok];simp[binOp,Op.intArith,Op.intCmp,Op.intBits]) (.v rfl))
     | (split at h
        ·cases h
        ·injection h with h;subst h;exact bh.of (fun w _=>by rw[Sem.run_bind,hg,Result.andThen_ok];simp[binOp,Op.intDiv, *]) (.v rfl))
   ·cases h
 ·rename_i a b;cases hx;cases hy
  have hg:∀w,(eqGuard op t xo yo (.bool a) (.bool b)).run P w= .ok () w:=fun w=>by unfold eqGuard;split<;>simp
  split at h
  ·rename_i hu;obtain⟨i,hi,hu⟩:=Ma.1 hu;have:=(ht t i hi).under;rw[hu]at this;injection h with h;subst h
   exact bh.of (fun w _=>by rw[Sem.run_bind,hg,Result.andThen_ok];simp only[binOp,Sem.run_bind,run_equal_bool this,Result.andThen_ok,Sem.run_pure]) (.v rfl)
  ·rename_i hu;obtain⟨i,hi,hu⟩:=Ma.1 hu;have:=(ht t i hi).under;rw[hu]at this;injection h with h;subst h
   exact bh.of (fun w _=>by rw[Sem.run_bind,hg,Result.andThen_ok];simp only[binOp,Sem.run_bind,run_equal_bool this,Result.andThen_ok,Sem.run_pure]) (.v rfl)
  ·cases h
 ·rename_i a b;cases hx;rename_i e1;cases hy
  have hg:∀w,(eqGuard op t xo yo (.string ⟨⟨a⟩⟩) (.string ⟨⟨b⟩⟩)).run P w= .ok () w:=fun w=>by unfold eqGuard;split<;>simp
  cases op<;>simp only[agd]at h<;>first
   | (cases h;done)
   | (injection h with h;subst h;exact bh.of (fun w _=>by rw[Sem.run_bind,hg,Result.andThen_ok];simp[binOp,Op.stringOp,toList_mk]) (.v rfl))
   | (split at h
      ·injection h with h;subst h
       refine bh.of (u:=.string ⟨⟨a++b⟩⟩) (fun w _=>?_) .str;rw[Sem.run_bind,hg,Result.andThen_ok];have e:(⟨⟨a⟩⟩:ByteArray)++⟨⟨b⟩⟩=⟨⟨a++b⟩⟩:=ByteArray.ext (by simp)
       have hn:¬(((⟨⟨a⟩⟩:ByteArray).size+(⟨⟨b⟩⟩:ByteArray).size:Nat):Int)>IntKind.i64.max:=by
        show ¬((a.length+b.length:Nat):Int)>_;have:IntKind.i64.max=9223372036854775807:=by decide
        omega
       simp only[binOp,Op.stringOp,if_neg hn,e,Sem.run_pure]
      ·cases h)
 ·rename_i hx' hy';cases hx;cases hy
  exact sy ht h (fun el hu w d=>by simp[Op.equalIn,run_underlying hu])
 ·cases hx;cases hy
  exact sy ht h (fun el hu w d=>by simp[Op.equalIn,run_underlying hu])
 ·cases hx;cases hy
  exact sy ht h (fun el hu w d=>by simp[Op.equalIn,run_underlying hu])
 ·cases hx;cases hy
  exact sy ht h (fun el hu w d=>by simp[Op.equalIn,run_underlying hu])
 ·cases hx;cases hy
  exact sy ht h (fun el hu w d=>by simp[Op.equalIn,run_underlying hu])
 ·rename_i b o b' o';split at h
  ·rename_i hb;obtain⟨rfl,rfl⟩:=hb;cases hx with
   | ptr h1=>
     cases hy with
     | ptr h2=>
       rw[h1]at h2;injection h2 with h2;subst h2;split at h
       ·rename_i el hu;split at h
        ·rename_i te he;split at h
         ·cases h
         ·rename_i hz;refine sy ht h (fun el' Ex w d=>?_);have c8:=yT ht hu;rw[Ex]at c8;injection c8 with c8;injection c8 with c8;subst c8;simp[Op.equalIn,run_underlying Ex,Zs (ht _ te he),hz,run_sameAddr_same]
        ·cases h
       ·cases h
  ·cases h
 ·cases h
def j7 (G:Gh) (w w':World):Prop:=∀k b,G.bW k=some b->w'.heap[b]?=w.heap[b]?
theorem j7.refl (G:Gh) (w:World):j7 G w w:=fun _ _ _=>rfl
theorem j7.alloc (h:WR G O w) (o:Obj):j7 G w (w.alloc o):=fun k b hk=>by
 have:=(h.kJ k b hk).2.1;rw[fE,if_neg (by omega)]
def iw (P:Program) (s:Sem Value) (w:World) (G:Gh) (O':VH) (m:MV):Prop:=∃u w' H,s.run P w= .ok u w'/\Gh.Le G H/\WR H O' w'/\VR H m u/\j7 G w w'
def JZ (P:Program) (s:Sem Unit) (w:World) (G:Gh) (O':VH):Prop:=∃w' H,s.run P w= .ok () w'/\Gh.Le G H/\WR H O' w'
theorem iw.of {s:Sem Value} {u:Value} (h:WR G O w) (hr:s.run P w= .ok u w) (hu:VR G m u):iw P s w G O m:=⟨u,w,G,hr,Gh.Le.refl G,h,hu,j7.refl _ _⟩
def age (P:Program) (s:Sem Value) (w:World) (G:Gh) (m:MV):Prop:=∃u,s.run P w= .ok u w/\VR G m u
theorem Tv {t:TypeId} {i:cL} (h:yh P t i) (w:World):∃ti,(typeInfo t).run P w= .ok ti w/\ti.size=i.size/\ti.bytes=i.bytes:=by
 obtain⟨ti,z,h1,h2,h3,_⟩:=h.info;exact⟨ti,by simp[typeInfo,h1],h2,h3⟩
theorem fF {t:TypeId} {i:cL} (h:yh P t i) (w:World):(sizeOf t).run P w= .ok i.size w:=by
 obtain⟨ti,h1,h2,_⟩:=Tv h w;rw[sizeOf,Sem.run_bind,h1,Result.andThen_ok,Sem.run_pure,h2]
theorem oW {t:TypeId} {i:cL} (h:yh P t i) (w:World):(isAgg t).run P w= .ok (ef i.under) w:=by
 rw[isAgg,Sem.run_bind,run_underlying h.under,Result.andThen_ok];cases i.under<;>rfl
theorem Ib {t:TypeId} {i:cL} (h:yh P t i) (w:World):∃z,(zeroValue t).run P w= .ok z w/\z.cells.size=i.size/\∀G,aQ G i.zero z.cells.toList:=by
 obtain⟨ti,z,h1,_,_,h4,h5,h6⟩:=h.info;exact⟨z,by simp[zeroValue,typeInfo,h1,h4],h5,h6⟩
def eg:MV->List MV
 | .agg cs=>cs
 | m=>[m]
def ec:MV->Bool
 | .agg _ | .tuple _=>false
 | _=>true
theorem yU {u:Value} (h:VR G m u):aQ G (eg m) u.cells.toList:=by
 cases h with
 | agg h1 h2=>exact⟨h1,h2⟩
 | v h1=>
   have:u.cells= #[u]:=by cases u<;>first | rfl | (simp[plain]at h1)
   rw[this];exact aQ.cons (.v h1) aQ.nil
 | str=>exact aQ.cons .str aQ.nil
 | ptr h1=>exact aQ.cons (.ptr h1) aQ.nil
 | dE h1 h2 h3=>exact aQ.cons (.dE h1 h2 h3) aQ.nil
 | slnil=>exact aQ.cons .slnil aQ.nil
 | pr h1=>exact aQ.cons (.pr h1) aQ.nil
 | kS=>exact aQ.cons .kS aQ.nil
 | sl h1 h2 h3 h4 h5 h6=>exact aQ.cons (.sl h1 h2 h3 h4 h5 h6) aQ.nil
 | bB h1 h2 h3=>exact aQ.cons (.bB h1 h2 h3) aQ.nil
 | map h1=>exact aQ.cons (.map h1) aQ.nil
 | func h1 h2 h3 h4=>exact aQ.cons (.func h1 h2 h3 h4) aQ.nil
 | iface h1=>exact aQ.cons (.iface h1) aQ.nil
 | tuple h1 h2=>exact aQ.cons (.tuple h1 h2) aQ.nil
theorem Ic {u:Value} (h:VR G m u) (hl:ec m=true):u.oneCell'=true:=by
 cases h with
 | v h1=>cases u<;>first | rfl | (simp[plain]at h1)
 | agg h1 h2=>cases hl
 | tuple h1 h2=>cases hl
 | _=>rfl
theorem yV {cs:List MV} {us:List Value} (h:aQ G cs us) (hl:cs.all ec=true):∀u∈us,u.oneCell'=true:=by
 intro u hu;obtain⟨i,hi,rfl⟩:=List.mem_iff_getElem.1 hu;have hc:i<cs.length:=by rw[<-h.1];exact hi
 exact Ic (h.2 i cs[i] us[i] (adW hc) (adW hi)) (am8.1 hl _ (List.getElem_mem _))
def nK (agg:Bool) (size:Nat) (cs:List MV) (off:Nat):Option MV:=
 if agg then(if off+size<=cs.length then some (.agg ((cs.drop off).take size))else none)else cs[off]?
def cellsOf (O:VH):MV->Option (List MV×Nat)
 | .ptr k off=>match O.hp k with
   | some (.cells cs)=>some (cs,off)
   | _=>none
 | .dE cs off=>some (cs,off)
 | _=>none
theorem Me (h:WR G O w) {u:Value} {cs:List MV} {off:Nat} (hx:VR G m u) (hc:cellsOf O m=some (cs,off)):
  ∃b o us,u= .pointer (some ⟨b,o+off,none⟩)/\aQ G cs us/\∀i v,us[i]?=some v->w.cell? ⟨b,o+i,none⟩=some v:=by
 cases hx with
 | ptr h1=>
   rename_i k off' b;simp only[cellsOf]at hc;split at hc
   ·rename_i cs' hk;injection hc with hc;injection hc with e1 e2;subst e1;subst e2
    obtain⟨b',C,T,h2,h3,h4⟩:=h.cells k _ hk;rw[h1]at h2;injection h2 with h2;subst h2
    refine⟨b,0,_,by simp,h4,fun i v hv=>?_⟩;rw[Vq]at hv;split at hv
    ·simp only[ajm,World.cell?,h3,ahL,Zj,if_false];simpa using hv
    ·cases hv
   ·cases hc
 | dE h1 h2 h3=>
   simp only[cellsOf,Option.some.injEq,Prod.mk.injEq]at hc;obtain⟨rfl,rfl⟩:=hc;exact⟨_,_,_,rfl,⟨h1,h3⟩,fun i v hv=>h.eN _ _ _ (h2 i v hv)⟩
 | _=>cases hc
def ft (tab:cj) (O:VH) (t:TypeId) (m:MV):Option MV:=
 match tab t,cellsOf O m with
 | some i,some (cs,off)=>nK (ef i.under) i.size cs off
 | _,_=>none
def Sx (G:Gh) (w x:World):Prop:=SS G x/\j7 G w x
theorem WR.sx (h:WR G O w):Sx G w w:=⟨h.ss,j7.refl _ _⟩
theorem Ho (h:WR G O w) {u:Value} {cs:List MV} {off:Nat} (hx:VR G m u) (hc:cellsOf O m=some (cs,off)):
  ∃b o us,u= .pointer (some ⟨b,o+off,none⟩)/\aQ G cs us/\∀x,Sx G w x->∀i v,us[i]?=some v->x.cell? ⟨b,o+i,none⟩=some v:=by
 cases hx with
 | ptr h1=>
   rename_i k off' b;simp only[cellsOf]at hc;split at hc
   ·rename_i cs' hk;injection hc with hc;injection hc with e1 e2;subst e1;subst e2
    obtain⟨b',C,T,h2,h3,h4⟩:=h.cells k _ hk;rw[h1]at h2;injection h2 with h2;subst h2
    refine⟨b,0,_,by simp,h4,fun x hs i v hv=>?_⟩;have Zp:=(hs.2 k b h1).trans h3;rw[Vq]at hv;split at hv
    ·simp only[ajm,World.cell?,Zp,ahL,Zj,if_false];simpa using hv
    ·cases hv
   ·cases hc
 | dE h1 h2 h3=>
   simp only[cellsOf,Option.some.injEq,Prod.mk.injEq]at hc;obtain⟨rfl,rfl⟩:=hc;exact⟨_,_,_,rfl,⟨h1,h3⟩,fun x hs i v hv=>hs.1 _ _ _ (h2 i v hv)⟩
 | _=>cases hc
theorem oX (ht:aO P tab) (h:WR G O w) {t:TypeId} {x m:MV} {u:Value} (hv:ft tab O t x=some m) (hx:VR G x u):∃r,VR G m r/\∀y,Sx G w y->(Instr.loadAt t u).run P y= .ok r y:=by
 unfold ft at hv;split at hv
 ·rename_i i cs off hi hc;have fP:=ht t i hi;obtain⟨b,o,us,rfl,oY,k9⟩:=Ho h hx hc;simp only[Instr.loadAt,Instr.sureAddr,loadVar];unfold nK at hv;split at hv
  ·rename_i qn;split at hv
   ·rename_i hle;injection hv with hv;subst hv
    have CK:=(oY.drop off).take i.size;have hlen:((us.drop off).take i.size).length=i.size:=by simp[oY.1];omega
    refine⟨_,.agg CK.1 CK.2,fun y hy=>?_⟩
    have Ac:∀j v,((us.drop off).take i.size)[j]?=some v->y.cell? ((⟨b,o+off,none⟩:Addr).add j)=some v:=by
     intro j v hj;rw[Addr.add_lit,ajq];rw[Vq]at hj;split at hj
     ·rw[adX]at hj;exact k9 y hy _ v hj
     ·cases hj
    have yW:=run_loadCells_list (P:=P) y ⟨b,o+off,none⟩ _ Ac;rw[hlen]at yW;simp[oW fP,qn,fF fP,yW]
   ·cases hv
  ·rename_i qn;obtain⟨v,ji,DB⟩:=oY.get hv;exact⟨v,DB,fun y hy=>by simp[oW fP,qn,k9 y hy _ v ji]⟩
 ·cases hv
theorem Ey (ht:aO P tab) (h:WR G O w) {t:TypeId} {x m:MV} {u:Value} (hv:ft tab O t x=some m) (hx:VR G x u):age P (Instr.loadAt t u) w G m:=by
 obtain⟨r,h1,h2⟩:=oX (P:=P) ht h hv hx;exact⟨r,h2 w h.sx,h1⟩
theorem Ie (ht:aO P tab) (h:WR G O w) {t:TypeId} {x m:MV} {u:Value} (hv:ft tab O t x=some m) (hx:VR G x u):iw P (Instr.loadAt t u) w G O m:=by
 obtain⟨r,h1,h2⟩:=Ey (P:=P) ht h hv hx;exact iw.of h h1 h2
theorem Qr (ht:aO P tab) {t:TypeId} {cs:List MV} {off:Nat} {m:MV} {u:Value} (hv:ft tab O t (.dE cs off)=some m) (hx:VR G (.dE cs off) u):bh P (Instr.loadAt t u) G m:=by
 unfold ft at hv;split at hv
 ·rename_i i cs' off' hi hc;simp only[cellsOf,Option.some.injEq,Prod.mk.injEq]at hc;obtain⟨rfl,rfl⟩:=hc;have fP:=ht t i hi;cases hx with
  | dE h1 h2 h3=>
    rename_i us b o;have oY:aQ G cs us:=⟨h1,h3⟩;simp only[Instr.loadAt,Instr.sureAddr,loadVar];unfold nK at hv;split at hv
    ·rename_i qn;split at hv
     ·rename_i hle;injection hv with hv;subst hv
      have CK:=(oY.drop off).take i.size;have hlen:((us.drop off).take i.size).length=i.size:=by simp[oY.1];omega
      have Ac:∀w,SS G w->∀j v,((us.drop off).take i.size)[j]?=some v->w.cell? ((⟨b,o+off,none⟩:Addr).add j)=some v:=by
       intro w hw j v hj;rw[Addr.add_lit,ajq];rw[Vq]at hj;split at hj
       ·rw[adX]at hj;exact hw _ _ _ (h2 _ v hj)
       ·cases hj
      have yW:∀w,SS G w->(loadCells ⟨b,o+off,none⟩ i.size).run P w= .ok ((us.drop off).take i.size).toArray w:=fun w hw=>by
       have:=run_loadCells_list (P:=P) w ⟨b,o+off,none⟩ _ (Ac w hw)
       rwa [hlen]at this
      exact bh.of (fun w hw=>by simp[oW fP,qn,fF fP,yW w hw]) (.agg CK.1 CK.2)
     ·cases hv
    ·rename_i qn;obtain⟨v,ji,DB⟩:=oY.get hv;exact bh.of (fun w hw=>by simp[oW fP,qn,hw _ _ _ (h2 _ v ji)]) DB
 ·cases hv
def eJ (cs:List MV) (o:Nat):List MV->List MV
 | []=>cs
 | x::xs=>eJ (cs.set o x) (o+1) xs
theorem VH.set_set (O:VH) (k:Nat) (x y:cg):(O.set k x).set k y=O.set k y:=by
 simp only[VH.set,VH.mk.injEq,true_and]
 funext j
 simp only[bH];cases Nat.beq j k<;>rfl
theorem ρ (O:VH) (k:Nat) (x:cg):(O.set k x).hp k=some x:=aJ _ _ _
theorem VH.xc {O:VH} {k:Nat} {x:cg} (h:O.hp k=some x):O.set k x=O:=by
 obtain⟨n,f⟩:=O;simp only[VH.set,VH.mk.injEq,true_and]
 funext j
 by_cases e:j=k
 ·subst e;rw[aJ];exact h.symm
 ·exact ay _ _ e
theorem yX {k b:Nat} (hp:G.bW k=some b) (off:Nat):∀(xs:List MV) (us:List Value) (i:Nat) (cs:List MV) (O:VH) (w:World),WR G O w->O.hp k=some (.cells cs)->aQ G xs us->xs.all ec=true->off+i+xs.length<=cs.length->
  ∃w',(storeCells ⟨b,off,none⟩ us i).run P w= .ok () w'/\WR G (O.set k (.cells (eJ cs (off+i) xs))) w'
 | [],us,i,cs,O,w,h,hk,hx,_,_=>by
   rw[hx.iQ];refine⟨w,rfl,?_⟩;simp only[eJ];rw[VH.xc hk];exact h
 | x::xs,us,i,cs,O,w,h,hk,hx,hl,hle=>by
   obtain⟨u,Vr,rfl,h1,h2⟩:=hx.eW;simp only[List.all_cons,Qn]at hl;simp only[ajr]at hle;have cX:=h.store (i:=off+i) hk hp (by omega) h1;obtain⟨w',hr,hw⟩:=yX hp off xs Vr (i+1) (cs.set (off+i) x) _ _ cX (ρ _ _ _) h2 hl.2 (by simp;omega);refine⟨w',?_,?_⟩
   ·obtain⟨b',C,T,e1,e2,e3⟩:=h.cells k cs hk;rw[hp]at e1;injection e1 with e1;subst e1
    have hlen:off+i<C.size:=by have:=e3.1;simp at this;omega
    have k9:w.cell? ⟨b,off+i,none⟩=some C[off+i]:=by
     simp only[World.cell?,e2,ahL,Zj,if_false,ahM hlen]
    have aW:w.frozen? ⟨b,off+i,none⟩=false:=by
     obtain⟨t',⟨lo,hi⟩,dP⟩:=T;dsimp only at e2 dP;simp only[World.frozen?,e2,Bool.and_eq_false_imp,decide_eq_true_eq,decide_eq_false_iff_not];intro;omega
    rw[storeCells,Sem.run_bind]
    have:(store ((⟨b,off,none⟩:Addr).add i) u).run P w= .ok () (w.setCell ⟨b,off+i,none⟩ u):=by
     rw[Addr.add_lit,run_store P w _ _ _ (Ic h1 hl.1),k9];simp[aW]
    rw[this,Result.andThen_ok];exact hr
   ·rw[VH.set_set]at hw;exact hw
def xd (tab:cj) (O:VH) (t:TypeId) (x y:MV):Option VH:=
 match tab t,x with
 | some i,.ptr k off=>match O.hp k with
   | some (.cells cs)=>if(eg y).length=i.size/\(eg y).all ec=true/\off+i.size<=cs.length then some (O.set k (.cells (eJ cs off (eg y))))else none
   | _=>none
 | _,_=>none
theorem Qs (ht:aO P tab) (h:WR G O w) {t:TypeId} {x y:MV} {u v:Value} (hv:xd tab O t x y=some O') (hx:VR G x u) (hy:VR G y v):JZ P (Instr.storeAt t u v) w G O':=by
 unfold xd at hv;split at hv
 ·rename_i i k off hi;have fP:=ht t i hi;split at hv
  ·rename_i cs hk;split at hv
   ·rename_i hc;injection hv with hv;subst hv
    cases hx with
    | ptr h1=>
      have hm:=yU hy;obtain⟨w',hr,hw⟩:=yX (P:=P) h1 off (eg y) v.cells.toList 0 cs O w h hk hm hc.2.1 (by omega);refine⟨w',G,?_,Gh.Le.refl G,by simpa using hw⟩;have hs:v.cells.size=i.size:=by rw[<-ajn,hm.1];exact hc.1
      simp[Instr.storeAt,Instr.sureAddr,storeVar,fF fP,hs,hr]
   ·cases hv
  ·cases hv
 ·cases hv
theorem ad0 (h:WR G O w) {cs:List MV} {C:Array Value} {t:TypeId} (hc:aQ G cs C.toList):iw P (do pure (Value.pointer (some (<-newRow t C)))) w G (O.push (.cells cs)) (.ptr O.N 0):=by
 obtain⟨h1,h2⟩:=h.push t hc;exact⟨_,_,_,by simp[newRow,newObj,Sem.run],h1,h2,.ptr (aJ _ _ _),j7.alloc h _⟩
theorem Zu (h:WR G O w) {t:TypeId} {u:Value} (hu:VR G m u):iw P (Instr.box t u) w G (O.push (.cells (eg m))) (.ptr O.N 0):=ad0 h (yU hu)
end
section
variable {G H:Gh} {n:Sz} {D:List Deferred} {e:Env} {a:Act} {P:Program} {tab:cj} {O O':VH} {w:World} {m m':MV} {u v:Value}
def vq (k:Nat):MV->Option MV
 | .ptr b off=>some (.ptr b (off+k))
 | .dE cs off=>some (.dE cs (off+k))
 | _=>none
theorem Ig {k:Nat} (h:VR G m u) (hm:vq k m=some m'):∃a:Addr,u= .pointer (some a)/\VR G m' (.pointer (some (a.add k))):=by
 cases h with
 | ptr h1=>
   injection hm with hm;subst hm
   exact⟨_,rfl,by rw[Addr.add_lit];exact .ptr h1⟩
 | dE h1 h2 h3=>
   injection hm with hm;subst hm
   exact⟨_,rfl,by rw[Addr.add_lit,ajq];exact .dE h1 h2 h3⟩
 | _=>cases hm
def jU (tab:cj) (t:TypeId) (f:Nat) (m:MV):Option MV:=
 match tab t with
 | some i=>match i.under with
   | .struct fs=>match fs[f]? with
     | some fd=>match tab fd.type with
       | some j=>if j.size=0 then none else vq fd.offset m
       | none=>none
     | none=>none
   | _=>none
 | none=>none
theorem Ez (ht:aO P tab) {t:TypeId} {f:Nat} (hv:jU tab t f m=some m') (hx:VR G m u):bh P (Instr.fieldAt t u f) G m':=by
 unfold jU at hv;split at hv
 ·rename_i i hi;split at hv
  ·rename_i fs hu;split at hv
   ·rename_i fd hf;split at hv
    ·rename_i j hj;split at hv
     ·cases hv
     ·rename_i hz;obtain⟨a,rfl,h2⟩:=Ig hx hv;have fP:=(ht t i hi).under;rw[hu]at fP;exact bh.of (fun w _=>by simp[Instr.fieldAt,run_underlying fP,hf,Instr.sureAddr,fieldPlace,fF (ht _ j hj),hz]) h2
    ·cases hv
   ·cases hv
  ·cases hv
 ·cases hv
def m9 (tab:cj) (t:TypeId) (m:MV) (ix:MV):Option MV:=
 match ix,tab t with
 | .v (.int _ i),some ti=>match ti.under,m with
   | .slice el,.sl n cells _=>match tab el with
     | some te=>if 0<=i/\i<(n:Int)then some (.dE cells (i.toNat*te.size))else none
     | none=>none
   | .slice el,.bB k o n _=>match tab el with
     | some te=>if 0<=i/\i<(n:Int)then some (.ptr k (o+i.toNat*te.size))else none
     | none=>none
   | .array len el,x=>match tab el with
     | some te=>if 0<=i/\i<(len:Int)then vq (i.toNat*te.size) x else none
     | none=>none
   | _,_=>none
 | _,_=>none
theorem EA (ht:aO P tab) {t:TypeId} {ix:MV} (hv:m9 tab t m ix=some m') (hx:VR G m u) (hy:VR G ix v):bh P (Instr.indexAt t u v) G m':=by
 unfold m9 at hv;split at hv
 ·rename_i k i ti hi;cases hy;have fP:=(ht t ti hi).under;split at hv
  ·rename_i el n' cells tk hu;rw[hu]at fP;split at hv
   ·rename_i te he;split at hv
    ·rename_i hb;injection hv with hv;subst hv
     cases hx with
     | slnil=>simp at hb;omega
     | pr h1=>simp at hb;omega
     | kS=>simp at hb;omega
     | sl h1 h2 h3 h4 h5 h6=>
       refine bh.of (u:=.pointer (some _)) (fun w _=>?_) (.dE h1 h2 h3);simp[Instr.indexAt,asIntOf,run_underlying fP,hb.1,hb.2,fF (ht _ te he),Addr.add_lit]
    ·cases hv
   ·cases hv
  ·rename_i el k' o n' c' hu;rw[hu]at fP;split at hv
   ·rename_i te he;split at hv
    ·rename_i hb;injection hv with hv;subst hv
     cases hx with
     | bB h1 h2 h3=>
       refine bh.of (u:=.pointer (some _)) (fun w _=>?_) (.ptr h1);simp[Instr.indexAt,asIntOf,run_underlying fP,hb.1,hb.2,fF (ht _ te he),Addr.add_lit]
    ·cases hv
   ·cases hv
  ·rename_i len el hu;rw[hu]at fP;split at hv
   ·rename_i te he;split at hv
    ·rename_i hb;obtain⟨a,rfl,h2⟩:=Ig hx hv;refine bh.of (u:=.pointer (some _)) (fun w _=>?_) h2;simp[Instr.indexAt,asIntOf,run_underlying fP,Instr.sureAddr,hb.1,hb.2,fF (ht _ te he)]
    ·cases hv
   ·cases hv
  ·cases hv
 ·cases hv
def BW (tab:cj) (t:TypeId) (cs:List MV) (off:Nat):Option MV:=
 match tab t with
 | some i=>nK (ef i.under) i.size cs off
 | none=>none
theorem xe (ht:aO P tab) {t:TypeId} {cs:List MV} {us:List Value} {off:Nat} (hv:BW tab t cs off=some m) (hx:aQ G cs us):∃r,(∀w,(part t us.toArray off).run P w= .ok r w)/\VR G m r:=by
 unfold BW at hv;split at hv
 ·rename_i i hi;have fP:=ht t i hi;unfold nK at hv;split at hv
  ·rename_i qn;split at hv
   ·injection hv with hv;subst hv
    have oY:=(hx.drop off).take i.size;refine⟨.agg ((us.drop off).take i.size).toArray,fun w=>?_,.agg oY.1 oY.2⟩;simp[part,oW fP,qn,fF fP]
   ·cases hv
  ·rename_i qn;obtain⟨v,ji,DB⟩:=hx.get hv;exact⟨v,fun w=>by simp[part,oW fP,qn,ji],DB⟩
 ·cases hv
def xf (tab:cj) (t:TypeId) (x:MV) (f:Nat):Option MV:=
 match tab t,x with
 | some i,.agg cs=>match i.under with
   | .struct fs=>match fs[f]? with
     | some fd=>BW tab fd.type cs fd.offset
     | none=>none
   | _=>none
 | _,_=>none
theorem Qt (ht:aO P tab) {t:TypeId} {f:Nat} (hv:xf tab t m f=some m') (hx:VR G m u):bh P (Instr.field t u f) G m':=by
 unfold xf at hv;split at hv
 ·rename_i i cs hi;split at hv
  ·rename_i fs hu;have fP:=(ht t i hi).under;rw[hu]at fP;split at hv
   ·rename_i fd hf;cases hx with
    | agg h1 h2=>
      obtain⟨r,h3,h4⟩:=xe (P:=P) ht hv ⟨h1,h2⟩;exact bh.of (fun w _=>by simp[Instr.field,run_underlying fP,hf,asAgg,h3]) h4
   ·cases hv
  ·cases hv
 ·cases hv
def xg (tab:cj) (t:TypeId) (x ix:MV):Option MV:=
 match tab t,x,ix with
 | some i,.agg cs,.v (.int _ k)=>match i.under with
   | .array len el=>match tab el with
     | some te=>if 0<=k/\k<(len:Int)then BW tab el cs (k.toNat*te.size)else none
     | none=>none
   | _=>none
 | some i,.str l,.v (.int _ k)=>match i.under with
   | .string=>if 0<=k then(l[k.toNat]?).map fun b=>.v (.int .u8 b.toNat)else none
   | _=>none
 | _,_,_=>none
theorem Qu (ht:aO P tab) {t:TypeId} {ix:MV} (hv:xg tab t m ix=some m') (hx:VR G m u) (hy:VR G ix v):bh P (Instr.index t u v) G m':=by
 unfold xg at hv;split at hv
 ·rename_i i cs kk k hi;cases hy;split at hv
  ·rename_i len el hu;have fP:=(ht t i hi).under;rw[hu]at fP;split at hv
   ·rename_i te he;split at hv
    ·rename_i hb;cases hx with
     | agg h1 h2=>
       obtain⟨r,h3,h4⟩:=xe (P:=P) ht hv ⟨h1,h2⟩;exact bh.of (fun w _=>by simp[Instr.index,asIntOf,run_underlying fP,hb.1,hb.2,fF (ht _ te he),h3]) h4
    ·cases hv
   ·cases hv
  ·cases hv
 ·rename_i i l kk k hi;cases hy;cases hx;split at hv
  ·rename_i hu;have fP:=(ht t i hi).under;rw[hu]at fP;split at hv
   ·rename_i hb;obtain⟨b,h1,h2⟩:=Ma.1 hv;subst h2;refine bh.of (u:=.int .u8 b.toNat) (fun w _=>?_) (.v rfl)
    have hg:(⟨⟨l⟩⟩:ByteArray)[k.toNat]?=some b:=by
     obtain⟨eh,he⟩:=Zk.1 h1;rw[getElem?_pos (⟨⟨l⟩⟩:ByteArray) k.toNat eh];exact congrArg some he
    simp[Instr.index,asIntOf,run_underlying fP,hb,hg]
   ·cases hv
  ·cases hv
 ·cases hv
def sA (x:MV) (i:Nat):Option MV:=
 match x with
 | .tuple vs=>vs[i]?
 | _=>none
theorem J1 {i:Nat} (hv:sA m i=some m') (hx:VR G m u):bh P (Instr.extract u i) G m':=by
 unfold sA at hv;split at hv
 ·cases hx with
  | tuple h1 h2=>
    obtain⟨r,h3,h4⟩:=aQ.get ⟨h1,h2⟩ hv;exact bh.of (fun w _=>by simp[Instr.extract,h3]) h4
 ·cases hv
end
section
variable {G H:Gh} {n:Sz} {D:List Deferred} {e:Env} {a:Act} {P:Program} {tab:cj} {O O':VH} {w:World} {m m' m2:MV} {u v:Value}
def mn (place:Nat->Option (Nat×Nat)) (cells:List MV):List (Nat×MV)->Option (List MV)
 | []=>some cells
 | (i,x)::rest=>match place i with
   | none=>none
   | some (off,size)=>if(eg x).length=size/\off+size<=cells.length then mn place (eJ cells off (eg x)) rest else none
theorem CL {us:List Value}:∀(vs:List Value) (k off:Nat) (C:Array Value) (cs ms:List MV),aQ G cs C.toList->aQ G ms vs->
  aQ G (eJ cs (off+k) ms) ((vs.zipIdx k).foldl (fun(a:Array Value) x=>a.setIfInBounds (off+x.2) x.1) C).toList
 | [],k,off,C,cs,ms,h,hm=>by
   have:ms=[]:=ahP hm.1.symm;subst this;exact h
 | v::vs,k,off,C,cs,ms,h,hm=>by
   cases ms with
   | nil=>have:=hm.1;simp at this
   | cons x xs=>
     simp only[List.zipIdx_cons,List.foldl_cons,eJ];have h2:aQ G (cs.set (off+k) x) (C.setIfInBounds (off+k) v).toList:=by rw[ajv];exact h.set hm.head
     exact CL (us:=us) vs (k+1) off _ _ xs h2 hm.tail
theorem xh {place:Nat->Option (Nat×Nat)}:∀(parts:List (Nat×MV)) (ps:List (Nat×Value)) (cs:List MV) (C:Array Value) (ds:List MV),mn place cs parts=some ds->
  parts.map (·.1)=ps.map (·.1)->aQ G (parts.map (·.2)) (ps.map (·.2))->aQ G cs C.toList->∃E,Instr.fill place C ps=some E/\aQ G ds E.toList
 | [],ps,cs,C,ds,h,h1,h2,h3=>by
   have:ps=[]:=by cases ps<;>simp_all
   subst this;injection h with h;subst h
   exact⟨C,rfl,h3⟩
 | (i,x)::parts,ps,cs,C,ds,h,h1,h2,h3=>by
   cases ps with
   | nil=>simp at h1
   | cons p ps=>
     obtain⟨j,y⟩:=p;simp only[ajl,List.cons.injEq]at h1;obtain⟨rfl,h1⟩:=h1;simp only[ajl]at h2;simp only[mn]at h;cases hp:place i with
     | none=>rw[hp]at h;cases h
     | some q=>
       obtain⟨off,size⟩:=q;rw[hp]at h;simp only at h;split at h
       ·rename_i hc;have hm:=yU h2.head;have hy:y.cells.size=size:=by rw[<-ajn,hm.1];exact hc.1
        have hC:C.size=cs.length:=by rw[<-ajn];exact h3.1
        have cX:=CL (us:=[]) y.cells.toList 0 off C cs (eg x) h3 hm;obtain⟨E,h4,h5⟩:=xh parts ps _ _ ds h h1 h2.tail cX;refine⟨E,?_,h5⟩;simp only[Instr.fill,hp];rw[if_neg (by rw[hy,hC];simp;exact hc.2)];rw[<-h4]
        congr 1
        rw[<-Array.foldl_toList,Array.toList_zipIdx]
       ·cases h
def placesOf (tab:cj) (fs:Array Field):Option (List (Nat×Nat)):=fs.toList.mapM fun f=>(tab f.type).map fun i=>(f.offset,i.size)
theorem run_places (ht:aO P tab):∀(fs:List Field) (l:List (Nat×Nat)) (w:World),(fs.mapM fun f=>(tab f.type).map fun i=>(f.offset,i.size))=some l->
  (fs.mapM fun f=>(do pure (f.offset, <-sizeOf f.type):Sem (Nat×Nat))).run P w= .ok l w
 | [],l,w,h=>by simp at h;subst h;rfl
 | f::fs,l,w,h=>by
   simp only[ahK,ahJ,Qm]at h;obtain⟨x,h1,l',h2,h3⟩:=h;injection h3 with h3;subst h3
   obtain⟨i,hi,rfl⟩:=Ma.1 h1;have ih:=run_places ht fs l' w h2;simp only[ahK,Sem.run_bind,fF (ht _ i hi),Result.andThen_ok,Sem.run_pure];rw[ih];rfl
def xi (tab:cj) (t:TypeId) (parts:List (Nat×MV)):Option MV:=
 match tab t with
 | some i=>match i.under with
   | .struct fs=>match placesOf tab fs with
     | some l=>(mn (l[·]?) i.zero parts).map .agg
     | none=>none
   | .array _ el=>match tab el with
     | some te=>(mn (fun k=>some (k*te.size,te.size)) i.zero parts).map .agg
     | none=>none
   | _=>none
 | none=>none
theorem Qv (ht:aO P tab) {t:TypeId} {parts:List (Nat×MV)} {ps:Array (Nat×Value)} (hv:xi tab t parts=some m) (h1:parts.map (·.1)=ps.toList.map (·.1)) (h2:aQ G (parts.map (·.2)) (ps.toList.map (·.2))):
  bh P (Instr.build t ps) G m:=by
 unfold xi at hv;split at hv
 ·rename_i i hi;have fP:=ht t i hi;obtain⟨ti,z,hz0,_,_,J2,tG,Hp⟩:=fP.info;have DC:∀w,(zeroValue t).run P w= .ok z w:=fun w=>by simp[zeroValue,typeInfo,hz0,J2]
  split at hv
  ·rename_i fs hu;have fu:=fP.under;rw[hu]at fu;split at hv
   ·rename_i l hl;obtain⟨ds,h3,rfl⟩:=Ma.1 hv;obtain⟨E,h4,h5⟩:=xh parts ps.toList i.zero z.cells ds h3 h1 h2 (Hp G);have hr:=fun w=>run_places ht fs.toList l w hl
    refine bh.of (u:=.agg E) (fun w _=>?_) (.agg h5.1 h5.2)
    have hr':(fs.mapM fun f=>(do pure (f.offset, <-sizeOf f.type):Sem (Nat×Nat))).run P w= .ok l.toArray w:=by
     rw[am5, <-bind_pure_comp,Sem.run_bind,hr];rfl
    simp only[Instr.build,Sem.run_bind,DC,Result.andThen_ok,run_underlying fu,hr'];have:Instr.fill (fun x=>l.toArray[x]?) z.cells ps.toList=some E:=by rw[<-h4];congr 1;funext x;simp
    rw[this];rfl
   ·cases hv
  ·rename_i len el hu;have fu:=fP.under;rw[hu]at fu;split at hv
   ·rename_i te he;obtain⟨ds,h3,rfl⟩:=Ma.1 hv;obtain⟨E,h4,h5⟩:=xh parts ps.toList i.zero z.cells ds h3 h1 h2 (Hp G);refine bh.of (u:=.agg E) (fun w _=>?_) (.agg h5.1 h5.2);simp only[Instr.build,Sem.run_bind,DC,Result.andThen_ok,run_underlying fu,fF (ht _ te he),h4];rfl
   ·cases hv
  ·cases hv
 ·cases hv
def iS (z:List MV) (n:Nat):List MV:=(List.range n).map fun i=>z.getD (i % z.length) (.tuple [])
theorem yY {z:List MV} {Z:Array Value} (h:aQ G z Z.toList) (hz:0<z.length) (n:Nat):aQ G (iS z n) ((Array.range n).map (fun i=>Z[i % Z.size]!)).toList:=by
 have hl:Z.size=z.length:=by rw[<-ajn];exact h.1
 refine⟨by simp[iS],fun i c u hc hu=>?_⟩;simp only[iS,List.getElem?_map,Ma]at hc;obtain⟨j,hj,rfl⟩:=hc;simp only[Array.toList_map,Array.toList_range,List.getElem?_map,hj,agc,Option.some.injEq]at hu;have hm:j % z.length<z.length:=Nat.mod_lt _ hz;have hm':j % Z.size<Z.size:=by rw[hl];exact hm
 refine h.2 (j % z.length) _ u ?_ ?_
 ·rw[adW hm,List.getD_eq_getElem?_getD,adW hm];rfl
 ·rw[<-hu, <-hl,Array.getElem?_toList,ahM hm',getElem!_pos Z _ hm']
def lK (tab:cj) (t:TypeId) (len:Nat) (parts:List (Nat×MV)):Option MV:=
 match(tab t).map cL.under with
 | some (.slice el)=>match tab el with
   | some te=>if 0<len*te.size/\len*te.size<=16777216/\0<te.zero.length/\len<=maxLen then
     (mn (fun k=>some (k*te.size,te.size)) (iS te.zero (len*te.size)) parts).map fun cs=>.sl len cs .full
     else if len=0/\parts=[]then some (.sl 0 [] .full)else none
   | none=>none
 | _=>none
theorem uF (ht:aO P tab) (h:WR G O w) {t:TypeId} {len:Nat} {parts:List (Nat×MV)} {ps:Array (Nat×Value)} (hv:lK tab t len parts=some m) (h1:parts.map (·.1)=ps.toList.map (·.1)) (h2:aQ G (parts.map (·.2)) (ps.toList.map (·.2))):
  iw P (Instr.buildSlice t len ps) w G O m:=by
 unfold lK at hv;split at hv
 ·rename_i el hu;obtain⟨i,hi,hu⟩:=Ma.1 hu;have fu:=(ht t i hi).under;rw[hu]at fu;split at hv
  ·rename_i te he;have oq:=ht el te he;obtain⟨z,DC,tG,Hp⟩:=Ib oq w
   have fin:∀(C:Array Value) (cs:List MV),aQ G cs C.toList->len<=maxLen->iw P (do pure (Value.slice (some (<-newRow el C)) len len)) w G O (.sl len cs .full):=fun C cs hc hl=>by
    obtain⟨h3,h4⟩:=h.lit C el;refine⟨.slice (some ⟨w.heap.size,0,none⟩) len len,w.alloc (.cells C el),_,by simp[newRow,newObj,Sem.run],h3,h4,?_,j7.alloc h _⟩;refine .sl (us:=C.toList) hc.1 (fun i u hu=>?_) (fun i c u a b=>(hc.2 i c u a b).mono h3) (adZ _) hl rfl;show(if w.heap.size=w.heap.size then C[0+i]? else _)=some u;rw[if_pos rfl,ajm];simpa using hu
   split at hv
   ·rename_i hc;obtain⟨cs,h3,rfl⟩:=Ma.1 hv;obtain⟨E,h4,h5⟩:=xh parts ps.toList _ _ cs h3 h1 h2 (yY (Hp G) hc.2.2.1 (len*te.size));have hne:¬(len*te.size=0):=by omega
    have hng:¬(len*te.size>16777216):=by omega
    obtain⟨u,w',H,hr,r⟩:=fin E cs h5 hc.2.2.2;refine⟨u,w',H,?_,r⟩;rw[<-hr];simp[Instr.buildSlice,run_underlying fu,fF oq,hne,hng,DC,h4]
   ·split at hv
    ·rename_i hc;injection hv with hv;subst hv
     obtain⟨rfl,rfl⟩:=hc
     have hps:ps.toList=[]:=by
      have:=h1.symm;simpa using this
     obtain⟨u,w',H,hr,r⟩:=fin #[] [] aQ.nil (ahN _);refine⟨u,w',H,?_,r⟩;rw[<-hr];simp[Instr.buildSlice,run_underlying fu,fF oq,hps,Instr.fill];rw[show Array.range 0= #[]from Array.eq_empty_of_size_eq_zero (by simp),Array.map_empty]
    ·cases hv
  ·cases hv
 ·cases hv
def dy (tab:cj) (t:TypeId) (x:MV):Option MV:=
 match(tab t).map cL.under,x with
 | some .string,.str l=>some (.v (.int .i64 l.length))
 | some (.slice _),.sl n _ _=>some (.v (.int .i64 n))
 | some (.slice _),.bB _ _ n _=>some (.v (.int .i64 n))
 | some (.map _ _),.v (.map none)=>some (.v (.int .i64 0))
 | some (.array n _),_=>some (.v (.int .i64 n))
 | _,_=>none
theorem Zv (ht:aO P tab) {t ty:TypeId} (hv:dy tab t m=some m') (hx:VR G m u):bh P (Builtin.len_ #[t] ty #[u]) G m':=by
 unfold dy at hv
 have un:∀d,(tab t).map cL.under=some d->P.underlying t=some d:=fun d hd=>by
  obtain⟨i,hi,hu⟩:=Ma.1 hd;rw[<-hu];exact(ht t i hi).under
 split at hv
 ·injection hv with hv;subst hv
  cases hx;exact bh.of (u:=.int .i64 _) (fun w _=>by simp[Builtin.len_,run_underlying (un _ ‹_›),goInt];rfl) (.v rfl)
 ·injection hv with hv;subst hv
  cases hx<;>exact bh.of (u:=.int .i64 _) (fun w _=>by simp[Builtin.len_,run_underlying (un _ ‹_›),goInt];try rfl) (.v rfl)
 ·injection hv with hv;subst hv
  cases hx;exact bh.of (u:=.int .i64 _) (fun w _=>by simp[Builtin.len_,run_underlying (un _ ‹_›),goInt];try rfl) (.v rfl)
 ·injection hv with hv;subst hv
  cases hx;exact bh.of (u:=.int .i64 _) (fun w _=>by simp[Builtin.len_,run_underlying (un _ ‹_›),goInt];try rfl) (.v rfl)
 ·injection hv with hv;subst hv
  exact bh.of (u:=.int .i64 _) (fun w _=>by simp[Builtin.len_,run_underlying (un _ ‹_›),goInt];try rfl) (.v rfl)
 ·cases hv
def qo (tab:cj) (O:VH) (t:TypeId) (x:MV):Option MV:=
 match(tab t).map cL.under,x with
 | some (.map _ _),.map k=>match O.hp k with
   | some (.map es _)=>some (.v (.int .i64 es.length))
   | _=>none
 | _,_=>none
theorem Mf (ht:aO P tab) (h:WR G O w) {t ty:TypeId} (hv:qo tab O t m=some m') (hx:VR G m u):iw P (Builtin.len_ #[t] ty #[u]) w G O m':=by
 unfold qo at hv
 have un:∀d,(tab t).map cL.under=some d->P.underlying t=some d:=fun d hd=>by
  obtain⟨i,hi,hu⟩:=Ma.1 hd;rw[<-hu];exact(ht t i hi).under
 split at hv
 ·split at hv
  ·rename_i k es ck hk;injection hv with hv;subst hv
   cases hx with
   | map h1=>
     obtain⟨b,E,e1,e2,e3,_⟩:=h.map _ _ _ hk;rw[h1]at e1;injection e1 with e1;subst e1
     have hl:E.size=es.length:=by
      have:=congrArg List.length e3;simpa using this
     refine iw.of h (u:=.int .i64 es.length) ?_ (.v rfl);simp[Builtin.len_,run_underlying (un _ ‹_›),goInt,getObj,Sem.run,e2,hl]
  ·cases hv
 ·cases hv
def BX (x y:MV):Option MV:=
 match x,y with
 | .v (.int k a),.v (.int _ b)=>some (.v (.int k (if b>a then b else a)))
 | _,_=>none
def BY (x y:MV):Option MV:=
 match x,y with
 | .v (.int k a),.v (.int _ b)=>some (.v (.int k (if b<a then b else a)))
 | _,_=>none
theorem Vs (hv:BX m m'=some m2) (hx:VR G m u) (hy:VR G m' v) {ts:Array TypeId} {ty:TypeId}:bh P (Builtin.max_ ts ty #[u,v]) G m2:=by
 unfold BX at hv;split at hv
 ·injection hv with hv;subst hv;cases hx;cases hy
  exact bh.of (u:=.int _ _) (fun w _=>by simp[Builtin.max_,Builtin.max2]) (.v rfl)
 ·cases hv
theorem Vt (hv:BY m m'=some m2) (hx:VR G m u) (hy:VR G m' v) {ts:Array TypeId} {ty:TypeId}:bh P (Builtin.min_ ts ty #[u,v]) G m2:=by
 unfold BY at hv;split at hv
 ·injection hv with hv;subst hv;cases hx;cases hy
  exact bh.of (u:=.int _ _) (fun w _=>by simp[Builtin.min_,Builtin.min2]) (.v rfl)
 ·cases hv
def xj (op:UnOp) (x:MV):Option MV:=
 match op,x with
 | .neg,.v (.int k a)=>some (.v (.int k (k.wrap (0 - a))))
 | .not,.v (.bool b)=>some (.v (.bool !b))
 | _,_=>none
theorem Qw {op:UnOp} (hv:xj op m=some m') (hx:VR G m u):bh P (Op.unary op u) G m':=by
 unfold xj at hv;split at hv
 ·injection hv with hv;subst hv;cases hx
  exact bh.of (u:=.int _ _) (fun w _=>by simp[Op.unary,Op.intArith]) (.v rfl)
 ·injection hv with hv;subst hv;cases hx
  exact bh.of (u:=.bool _) (fun w _=>by simp[Op.unary]) (.v rfl)
 ·cases hv
end
section
variable {G H:Gh} {n:Sz} {D:List Deferred} {e:Env} {a:Act} {P:Program} {tab:cj} {O O':VH} {w:World} {m m':MV} {u v:Value}
def dq (d:Nat):Option MV->Option Nat
 | none=>some d
 | some (.v (.int _ i))=>if 0<=i then some i.toNat else none
 | _=>none
theorem nL {d k:Nat} {x:MV} (h:dq d (some x)=some k) (hx:VR G x u):∃kk,u= .int kk (k:Int):=by
 unfold dq at h;split at h
 ·rename_i hh;cases hh
 ·rename_i kk i hh;injection hh with hh;subst hh
  cases hx;split at h
  ·injection h with h;exact⟨kk,by rw[<-h];congr 1;omega⟩
  ·cases h
 ·cases h
def J3 (G:Gh):Option MV->Option Value->Prop
 | none,none=>True
 | some m,some u=>VR G m u
 | _,_=>False
theorem vt (isS:Bool) (len cap lo hi:Nat) {l h:Option MV} {lv hv:Option Value} (hl:dq 0 l=some lo) (hh:dq len h=some hi) (rl:J3 G l lv) (rh:J3 G h hv) (h1:lo<=hi) (h2:hi<=cap):
  ∀w,(Instr.sliceBounds isS len cap lv hv none).run P w= .ok (lo,hi,cap) w:=by
 intro w;cases l<;>cases lv<;>simp only[J3]at rl<;>cases h<;>cases hv<;>simp only[J3]at rh
 ·simp only[dq,Option.some.injEq]at hl hh;subst hl;subst hh;simp[Instr.sliceBounds]
 ·obtain⟨k,rfl⟩:=nL hh rh;simp only[dq,Option.some.injEq]at hl;subst hl
  have:=run_sliceBound (P:=P) w k (hi:Int) cap (if isS then .sliceAcap else .sliceAlen) (by omega) (by omega);simp[Instr.sliceBounds,this]
 ·obtain⟨k,rfl⟩:=nL hl rl;simp only[dq,Option.some.injEq]at hh;subst hh
  have:=run_sliceBound (P:=P) w k (lo:Int) len .sliceB (by omega) (by omega);simp[Instr.sliceBounds,this]
 ·obtain⟨k,rfl⟩:=nL hl rl;obtain⟨k',rfl⟩:=nL hh rh;have h3:=run_sliceBound (P:=P) w k (lo:Int) hi .sliceB (by omega) (by omega);have h4:=run_sliceBound (P:=P) w k' (hi:Int) cap (if isS then .sliceAcap else .sliceAlen) (by omega) (by omega);simp[Instr.sliceBounds,h3,h4]
def rH (t:Tok) (sz:Nat) (whole:Bool):Tok:=if whole then(match t with
 | .full=>.full
 | .own t k=>if k=sz then .own t k else .au
 | _=>.au)else .au
def xk (tab:cj) (t:TypeId) (x:MV) (l h:Option MV):Option MV:=
 match(tab t).map cL.under,x with
 | some .string,.str s=>match dq 0 l,dq s.length h with
   | some lo,some hi=>if lo<=hi/\hi<=s.length then some (.str ((s.drop lo).take (hi - lo)))else none
   | _,_=>none
 | some (.slice el),.sl n cells tk=>match tab el,dq 0 l,dq n h with
   | some te,some lo,some hi=>
     if lo=0/\hi=n then some (.sl n cells tk)
     else if lo<=hi/\hi<=n/\cells.length=n*te.size then some (.sl (hi - lo) ((cells.drop (lo*te.size)).take ((hi - lo)*te.size)) (rH tk te.size (hi==n)))else none
   | _,_,_=>none
 | some (.slice el),.bB k o n c=>match tab el,dq 0 l,dq n h with
   | some te,some lo,some hi=>if lo<=hi/\hi<=c then some (.bB k (if c=lo then o else o+lo*te.size) (hi - lo) (c - lo))else none
   | _,_,_=>none
 | _,_=>none
theorem bL (ht:aO P tab) {t:TypeId} {d:TypeDesc} (h:(tab t).map cL.under=some d):P.underlying t=some d:=by
 obtain⟨i,hi,hu⟩:=Ma.1 h;rw[<-hu];exact(ht t i hi).under
theorem Qx (ht:aO P tab) {t:TypeId} {l hh:Option MV} {lv Qy:Option Value} (hv:xk tab t m l hh=some m') (hx:VR G m u) (rl:J3 G l lv) (rh:J3 G hh Qy):
  bh P (Instr.sliceAt t u lv Qy none) G m':=by
 unfold xk at hv;split at hv
 ·rename_i s hu;have fu:=bL ht hu;split at hv
  ·rename_i lo hi h1 h2;split at hv
   ·rename_i hc;injection hv with hv;subst hv
    cases hx;refine bh.of (u:=.string ⟨⟨(s.drop lo).take (hi - lo)⟩⟩) (fun w _=>?_) .str;have hb:=vt (P:=P) false s.length s.length lo hi h1 h2 rl rh hc.1 hc.2;have hs:(⟨⟨s⟩⟩:ByteArray).size=s.length:=rfl;simp only[Instr.sliceAt,Instr.slice,Sem.run_bind,run_underlying fu,Result.andThen_ok,hs,hb,ahL,Zj,if_false,Sem.run_pure];have:(⟨⟨s⟩⟩:ByteArray).extract lo hi=⟨⟨(s.drop lo).take (hi - lo)⟩⟩:=ByteArray.ext (by simp[ByteArray.data_extract]);rw[this]
   ·cases hv
  ·cases hv
 ·rename_i el n' cells tk hu;have fu:=bL ht hu;split at hv
  ·rename_i te lo hi he h1 h2
   have run:∀(A:Option Addr) (c:Nat),lo<=hi->hi<=c->∀w,(Instr.sliceAt t (.slice A n' c) lv Qy none).run P w= .ok (.slice (if c=lo then A else A.map (·.add (lo*te.size))) (hi - lo) (c - lo)) w:=fun A c h3 h4 w=>by
    have hb:=vt (P:=P) true n' c lo hi h1 h2 rl rh h3 h4;simp only[Instr.sliceAt,Instr.slice,Sem.run_bind,run_underlying fu,Result.andThen_ok,hb,fF (ht _ te he),Sem.run_pure]
   split at hv
   ·rename_i hc;injection hv with hv;subst hv
    obtain⟨rfl,rfl⟩:=hc
    have fin:∀(A:Option Addr) (c:Nat),hi<=c->VR G (.sl hi cells tk) (.slice A hi c)->bh P (Instr.sliceAt t (.slice A hi c) lv Qy none) G (.sl hi cells tk):=fun A c hc EB=>by
     refine bh.of (fun w _=>run A c (ahN _) hc w) ?_
     have:(if c=0 then A else A.map (·.add (0*te.size)))=A:=by
      split
      ·rfl
      ·cases A<;>simp[Addr.add]
     rw[this];simpa using EB
    cases hx with
    | slnil=>exact fin _ _ (adZ _) .slnil
    | pr h3=>exact fin _ _ (ahN _) (.pr h3)
    | kS=>exact fin _ _ (adZ _) .kS
    | sl h3 h4 h5 h6 h7 h8=>exact fin _ _ h6 (.sl h3 h4 h5 h6 h7 h8)
   ·split at hv
    ·rename_i hne hc;injection hv with hv;subst hv
     cases hx with
     | slnil=>exact absurd ⟨by omega,by omega⟩ hne
     | pr h3=>exact absurd ⟨by omega,by omega⟩ hne
     | kS=>exact absurd ⟨by omega,by omega⟩ hne
     | sl h3 h4 h5 h6 h7 h8=>
       rename_i us c b o;refine bh.of (fun w _=>run _ c hc.1 (by omega) w) ?_;have jE:((us.drop (lo*te.size)).take ((hi - lo)*te.size)).length=((cells.drop (lo*te.size)).take ((hi - lo)*te.size)).length:=by simp[h3]
       have ajy:∀(i:Nat) (c:MV) (u:Value),((cells.drop (lo*te.size)).take ((hi - lo)*te.size))[i]?=some c->((us.drop (lo*te.size)).take ((hi - lo)*te.size))[i]?=some u->VR G c u:=fun i c u ha hb=>by
        rw[Vq]at ha hb;split at ha
        ·rw[if_pos ‹_›]at hb;rw[adX]at ha hb;exact h5 _ c u ha hb
        ·cases ha
       by_cases ia:c=lo
       ·subst ia;obtain rfl:hi=c:=by omega
        rw[if_pos rfl];simp only[Nat.sub_self,Nat.zero_mul,List.take_zero];refine .sl (us:=[]) rfl (fun i u hu=>by simp at hu) (fun i c u hu=>by simp at hu) (adZ _) (ahN _) ?_;unfold rH;split
        ·cases tk with
         | nil=>exact h8.elim
         | full=>rfl
         | own t k=>
           simp only;split
           ·exact .inl rfl
           ·trivial
         | au=>trivial
        ·trivial
       ·rw[if_neg ia];simp only[agc,Addr.add_lit];refine .sl jE (fun i u hu=>?_) ajy (by omega) (by omega) ?_
        ·rw[Vq]at hu;split at hu
         ·rw[adX]at hu;rw[ajq];exact h4 _ u hu
         ·cases hu
        ·unfold rH;split
         ·rename_i hw;have hw:hi=n':=by simpa using hw
          subst hw;have hmul:(hi - lo)*te.size=cells.length - lo*te.size:=by rw[hc.2.2,Nat.sub_mul]
          have pB:((cells.drop (lo*te.size)).take ((hi - lo)*te.size)).length=(hi - lo)*te.size:=by simp;omega
          have hle:lo*te.size<=hi*te.size:=Nat.mul_le_mul_right _ hc.1;cases tk with
          | nil=>exact h8.elim
          | full=>show c - lo=hi - lo;have:c=hi:=h8;omega
          | own t k=>
            simp only;split
            ·rename_i hk;subst hk;rcases h8 with h8 | ⟨r,h9,yZ,h11⟩
             ·exact .inl (by omega)
             ·refine .inr ⟨r,?_,pB,by omega⟩;rw[h9,pB];congr 2;congr 1
              omega
            ·trivial
          | au=>trivial
         ·trivial
    ·cases hv
  ·cases hv
 ·rename_i el k o n' c hu;have fu:=bL ht hu;split at hv
  ·rename_i te lo hi he h1 h2;split at hv
   ·rename_i hc;injection hv with hv;subst hv
    cases hx with
    | bB h3 h4 h5=>
      rename_i b;have hb:=vt (P:=P) true n' c lo hi h1 h2 rl rh hc.1 (by omega);refine bh.of (u:=.slice (if c=lo then some ⟨b,o,none⟩else(some (⟨b,o,none⟩:Addr)).map (·.add (lo*te.size))) (hi - lo) (c - lo)) (fun w _=>?_) ?_
      ·simp only[Instr.sliceAt,Instr.slice,Sem.run_bind,run_underlying fu,Result.andThen_ok,hb,fF (ht _ te he),Sem.run_pure]
      ·split
       ·exact .bB h3 (by omega) (by omega)
       ·simp only[agc,Addr.add_lit];exact .bB h3 (by omega) (by omega)
   ·cases hv
  ·cases hv
 ·cases hv
def Zw:Tok->Tok
 | .nil=>.nil
 | _=>.au
def oZ (tab:cj) (t:TypeId) (x:MV) (l:Option MV) (h mx:MV):Option MV:=
 match(tab t).map cL.under,h,mx with
 | some (.slice el),.v (.int _ hi),.v (.int _ m)=>match tab el,dq 0 l with
   | some te,some lo=>if 0<=hi/\0<=m/\lo<=hi.toNat/\hi.toNat<=m.toNat then(match x with
     | .bB k o _ c=>if m.toNat<=c then some (.bB k (if m.toNat=lo then o else o+lo*te.size) (hi.toNat - lo) (m.toNat - lo))else none
     | .sl n cells tk=>if m.toNat<=n/\cells.length=n*te.size then(if n=0 then some (.sl 0 [] (Zw tk))else if m.toNat=lo then some (.sl 0 [] .full)else some (.sl (hi.toNat - lo) ((cells.drop (lo*te.size)).take ((hi.toNat - lo)*te.size)) (if m.toNat=hi.toNat then .full else .au)))else none
     | _=>none)else none
   | _,_=>none
 | _,_,_=>none
theorem Mg (ht:aO P tab) {t:TypeId} {l:Option MV} {hh mx:MV} {lv:Option Value} {Qy mv:Value} (hv:oZ tab t m l hh mx=some m') (hx:VR G m u) (rl:J3 G l lv) (rh:VR G hh Qy) (rm:VR G mx mv):
  bh P (Instr.sliceAt t u lv (some Qy) (some mv)) G m':=by
 unfold oZ at hv;split at hv
 ·rename_i el k1 hi k2 mi hu;have fu:=bL ht hu;cases rh;cases rm
  split at hv
  ·rename_i te lo he h1;split at hv
   ·rename_i hc;obtain⟨c1,c2,c3,c4⟩:=hc
    have y_:lv=none/\lo=0\/∃kk,lv=some (.int kk (lo:Int)):=by
     cases l<;>cases lv<;>simp only[J3]at rl
     ·simp only[dq,Option.some.injEq]at h1;exact .inl ⟨rfl,h1.symm⟩
     ·obtain⟨kk,rfl⟩:=nL h1 rl;exact .inr ⟨kk,rfl⟩
    have run:∀(A:Option Addr) (n' c:Nat),mi.toNat<=c->∀w,(Instr.sliceAt t (.slice A n' c) lv (some (.int k1 hi)) (some (.int k2 mi))).run P w= .ok (.slice (if mi.toNat=lo then A else A.map (·.add (lo*te.size))) (hi.toNat - lo) (mi.toNat - lo)) w:=fun A n' c h3 w=>by
     have e1:=run_sliceBound (P:=P) w k2 mi c .slice3Acap c2 (by omega);have e2:=run_sliceBound (P:=P) w k1 hi mi.toNat .slice3B c1 (by omega)
     have hb:(Instr.sliceBounds true n' c lv (some (.int k1 hi)) (some (.int k2 mi))).run P w= .ok (lo,hi.toNat,mi.toNat) w:=by
      rcases y_ with⟨rfl,rfl⟩ | ⟨kk,rfl⟩
      ·simp[Instr.sliceBounds,e1,e2]
      ·have e3:=run_sliceBound (P:=P) w kk (lo:Int) hi.toNat .slice3C (by omega) (by omega);simp[Instr.sliceBounds,e1,e2,e3]
     simp only[Instr.sliceAt,Instr.slice,Sem.run_bind,run_underlying fu,Result.andThen_ok,hb,fF (ht _ te he),Sem.run_pure]
    split at hv
    ·rename_i k o n' c;split at hv
     ·rename_i DE;injection hv with hv;subst hv
      cases hx with
      | bB h3 h4 h5=>
        rename_i b;refine bh.of (fun w _=>run _ n' c DE w) ?_;split
        ·exact .bB h3 (by omega) (by omega)
        ·simp only[agc,Addr.add_lit];exact .bB h3 (by omega) (by omega)
     ·cases hv
    ·rename_i n' cells tk;split at hv
     ·rename_i DE;split at hv
      ·rename_i hn;subst hn;injection hv with hv;subst hv
       have e0:mi.toNat=0:=by omega
       have e1:hi.toNat=0:=by omega
       have e2:lo=0:=by omega
       have fin:∀A c,VR G (.sl 0 [] (Zw tk)) (.slice A 0 0)->bh P (Instr.sliceAt t (.slice A 0 c) lv (some (.int k1 hi)) (some (.int k2 mi))) G (.sl 0 [] (Zw tk)):=fun A c hr=>by
        refine bh.of (u:=.slice A 0 0) (fun w _=>?_) hr;rw[run A 0 c (by omega) w,e0,e1,e2];simp
       cases hx with
       | slnil=>exact fin _ _ .slnil
       | pr h3=>exact fin _ _ (.pr (ahN _))
       | kS=>exact fin _ _ .kS
       | sl h3 h4 h5 h6 h7 h8=>
         cases tk with
         | nil=>exact h8.elim
         | _=>exact fin _ _ (.pr (ahN _))
      ·rename_i hn;split at hv
       ·rename_i tH;injection hv with hv;subst hv
        cases hx with
        | slnil=>exact absurd rfl hn
        | pr h3=>exact absurd rfl hn
        | kS=>exact absurd rfl hn
        | sl h3 h4 h5 h6 h7 h8=>
          refine bh.of (fun w _=>run _ n' _ (by omega) w) ?_;rw[if_pos tH,show hi.toNat - lo=0 by omega,show mi.toNat - lo=0 by omega];exact .sl (us:=[]) rfl (fun i u h=>by simp at h) (fun i c u h=>by simp at h) (adZ _) (ahN _) rfl
       ·rename_i tH;injection hv with hv;subst hv
        cases hx with
        | slnil=>exact absurd rfl hn
        | pr h3=>exact absurd rfl hn
        | kS=>exact absurd rfl hn
        | sl h3 h4 h5 h6 h7 h8=>
          rename_i us c b o;refine bh.of (fun w _=>run _ n' c (by omega) w) ?_;rw[if_neg tH];simp only[agc,Addr.add_lit];refine .sl (us:=(us.drop (lo*te.size)).take ((hi.toNat - lo)*te.size)) (by simp[h3]) (fun i u hu=>?_) (fun i c u ha hb=>?_) (by omega) (by omega) ?_
          ·rw[Vq]at hu;split at hu
           ·rw[adX]at hu;rw[ajq];exact h4 _ u hu
           ·cases hu
          ·rw[Vq]at ha hb;split at ha
           ·rw[if_pos ‹_›]at hb;rw[adX]at ha hb;exact h5 _ c u ha hb
           ·cases ha
          ·split
           ·rename_i e;show mi.toNat - lo=hi.toNat - lo;rw[e]
           ·trivial
     ·cases hv
    ·cases hv
   ·cases hv
  ·cases hv
 ·cases hv
def m_ (tab:cj) (O:VH) (t:TypeId) (l c:MV):Option (MV×VH):=
 match(tab t).map cL.under,l,c with
 | some (.slice el),.v (.int _ i),.v (.int _ j)=>match tab el with
   | some te=>if 0<=i/\i<=j/\j<=9223372036854775807/\te.bytes*j<=281474976710656/\0<te.zero.length then some (.bB O.N 0 i.toNat j.toNat,O.push (.cells (iS te.zero (j.toNat*te.size))))else none
   | none=>none
 | _,_,_=>none
theorem EC (ht:aO P tab) (h:WR G O w) {t:TypeId} {l c:MV} {lv cv:Value} (hv:m_ tab O t l c=some (m,O')) (hl:VR G l lv) (hc:VR G c cv):iw P (Instr.makeSlice t lv cv) w G O' m:=by
 unfold m_ at hv;split at hv
 ·rename_i el k i k' j hu;cases hl;cases hc
  have fu:=bL ht hu;split at hv
  ·rename_i te he;split at hv
   ·rename_i hb;injection hv with hv;simp only[Prod.mk.injEq]at hv;obtain⟨rfl,rfl⟩:=hv;have oq:=ht _ te he;obtain⟨ti,z,h1,h2,h3,h4,h5,h6⟩:=oq.info;have hr:=run_make (P:=P) w t el ti z fu h1 h4 k k' i j hb.1 hb.2.1 (by rw[h3];exact hb.2.2.2.1) hb.2.2.1;rw[h2]at hr;have hz:=yY (h6 G) hb.2.2.2.2 (j.toNat*te.size);obtain⟨h7,h8⟩:=h.push el hz;exact⟨_,_,_,hr,h7,h8,.bB (aJ _ _ _) (by omega) (by simp only[maxLen];omega),j7.alloc h _⟩
   ·cases hv
  ·cases hv
 ·cases hv
def iy (tab:cj) (O:VH) (t:TypeId) (x y:MV):Option (MV×VH):=
 match(tab t).map cL.under,y with
 | some (.slice el),.sl k ds _=>match tab el,x with
   | some te,.sl n cells tk=>
     if ds.length=k*te.size/\ds.all ec=true/\0<te.size then
      if k=0 then some (.sl n cells tk,O)
      else if cells.length=n*te.size/\(n+k)*te.bytes<=140737488355328/\n+k<=maxLen then
       match tk with
       | .nil=>some (.sl (n+k) (cells++ds) (.own O.N te.size),O.push .tok)
       | .full=>some (.sl (n+k) (cells++ds) (.own O.N te.size),O.push .tok)
       | .own s k'=>if k'=te.size then match O.hp s with
         | some .tok=>some (.sl (n+k) (cells++ds) (.own O.N te.size),(O.kill s).push .tok)
         | _=>none
         else none
       | .au=>none
      else none
     else none
   | _,_=>none
 | _,_=>none
theorem Vu (h:WR G O w) {cs:List MV} {us:List Value} {N k r:Nat} {R:Array Value} {el:TypeId} (hc:aQ G cs us) (hl:cs.length=N*k) (hR:R.size=r*k) (hm:N+r<=maxLen):
  ∃K,G.Le K/\WR K (O.push .tok) (w.alloc (.cells (us.toArray++R) el))/\VR K (.sl N cs (.own O.N k)) (.slice (some ⟨w.heap.size,0,none⟩) N (N+r)):=by
 have hg:=h.grow (.cells (us.toArray++R) el);have zb:us.length=N*k:=by rw[hc.1,hl]
 have k9:∀o u,(if o<N*k then us[o]? else none)=some u->(w.alloc (.cells (us.toArray++R) el)).cell? ⟨w.heap.size,o,none⟩=some u:=fun o u ho=>by
  rw[Ia];split at ho
  ·rw[al_ (by simp;omega)];simpa using ho
  ·cases ho
 obtain⟨h1,h2⟩:=hg.Ec (b:=w.heap.size) (f:=fun o=>if o<N*k then us[o]? else none) (fun o u hc=>by rw[h.w_]at hc;cases hc) k9 (fun k _=>h.tF k)
  fun t c x ht hx e=>absurd e (h.p8 ht hx)
 have hb:(w.alloc (.cells (us.toArray++R) el)).heap[w.heap.size]?=some (.cells (us.toArray++R) el (0,0)):=by rw[fE,if_pos rfl]
 obtain⟨h3,h4⟩:=h2.Tu (b:=w.heap.size) (f:=N*k) (k:=k) (r:=r) (C:=us.toArray++R) (T:=el) h.Zm hb (by simp[zb,hR])
  (fun o ho=>by
   show(if w.heap.size=w.heap.size then(if o<N*k then us[o]? else none)else _)=none;rw[if_pos rfl,if_neg (by omega)])
  h.tF (fun t c x ht hx=>h.p8 ht hx)
 refine⟨_,h1.trans h3,h4,?_⟩;refine .sl (us:=us) hc.1 (fun i u hu=>?_) (fun i c u a b=>(hc.2 i c u a b).mono (h1.trans h3)) (by omega) hm ?_
 ·show(if w.heap.size=w.heap.size then(if 0+i<N*k then us[0+i]? else none)else _)=some u;have:=(Zk.1 hu).1;rw[if_pos rfl,ajm,if_pos (by omega)];exact hu
 ·refine .inr ⟨r,?_,hl,rfl⟩;show bH _ _ _ _=_;rw[aJ,ajm,hl]
theorem WR.setRow (h:WR G O w) {b:Nat} {C C':Array Value} {T:TypeId} (hB:G.B<=b) (hb:w.heap[b]?=some (.cells C T (0,0))) (eQ:∀j,G.bW j≠some b) (vo:∀t c x,O.hp t=some .tok->G.tok t=some (c,x)->c≠b)
  (Mc:∀o u,G.eN b o=some u->C'[o]?=some u):WR G O (w.setRow b C'):=by
 have px:=setRow_heap w b C C' T (0,0) hb;have eR:∀j,j≠b->(w.setRow b C').heap[j]?=w.heap[j]?:=fun j hj=>setRow_other w b j C' hj
 have pC:(w.setRow b C').heap.size=w.heap.size:=by simp[World.setRow]
 refine⟨⟨h.base.os,h.base.tape,h.base.output,by rw[pC];exact h.base.size,fun j hj=>by rw[eR j (by have:j<G.B:=hj;omega)];exact h.base.block j hj⟩,fun b' o u hc=>?_,h.qm,fun k c hk=>?_,h.inj,fun k cs hk=>?_,fun k es ck hk=>?_,fun t ht=>?_,h.l_,h.pw id (fun _ _ _ _ h=>h) fun k b' s hk hs=>iR (fun x hx=>by rw[eR _ (fun e=>eQ k (e▸hk))];exact hx) hs,h.r5 id (fun _ _ h=>h) fun k x b' hk hb hx=>by rw[eR b' (fun e=>eQ k (e▸hb))];exact hx,h.rz,h.BU⟩
 ·by_cases e:b'=b
  ·subst e;rw[cell_setRow_same w b' o C C' T (0,0) hb];exact Mc o u hc
  ·rw[cell_setRow_other w b C' _ e];exact h.eN b' o u hc
 ·obtain⟨h1,h2,h3⟩:=h.kJ k c hk;exact⟨h1,by rw[pC];exact h2,h3⟩
 ·obtain⟨c,D,T',h1,h2,h3⟩:=h.cells k cs hk;exact⟨c,D,T',h1,by rw[eR c (fun e=>eQ k (e▸h1))];exact h2,h3⟩
 ·obtain⟨c,E,h1,h2,h3⟩:=h.map k es ck hk;exact⟨c,E,h1,by rw[eR c (fun e=>eQ k (e▸h1))];exact h2,h3⟩
 ·obtain⟨c,f,k,r,D,T',h1,h2,h3,h4⟩:=h.tok t ht;exact⟨c,f,k,r,D,T',h1,h2,by rw[eR c (vo t c _ ht h1)];exact h3,h4⟩
theorem ED (h:WR G O w) {k sz:Nat} {ds:List MV} {tk:Tok} (hy:VR G (.sl k ds tk) v) (hl:ds.length=k*sz) (hk:k≠0):
  ∃ad c us,v= .slice (some ad) k c/\aQ G ds us/\us.length=k*sz/\∀j u,us[j]?=some u->w.cell? (ad.add j)=some u:=by
 cases hy with
 | slnil=>exact absurd rfl hk
 | pr h1=>exact absurd rfl hk
 | kS=>exact absurd rfl hk
 | sl h1 h2 h3 h4 h5 h6=>exact⟨_,_,_,rfl,⟨h1,h3⟩,by rw[h1,hl],fun j u hu=>by rw[Addr.add_lit];exact h.eN _ _ _ (h2 j u hu)⟩
theorem Mh (z:Array Value) (n:Nat):(Builtin.zeroCells z n).size=n*z.size:=by simp[Builtin.zeroCells]
theorem J4 (h:WR G O w) {t ty el:TypeId} {te:cL} (ht:P.underlying t=some (.slice el)) (oq:yh P el te) {n:Nat} {cells ds:List MV} {tk tk':Tok} (hx:VR G (.sl n cells tk) u) (hy:VR G (.sl 0 ds tk') v):
  (Builtin.append_ #[t,t] ty #[u,v]).run P w= .ok u w:=by
 obtain⟨ti,Qz,_⟩:=Tv oq w
 have run:∀(A B:Option Addr) (k c c':Nat),k<=c->(A=none->k=0)->(Builtin.append_ #[t,t] ty #[.slice A k c,.slice B 0 c']).run P w= .ok (.slice A k c) w:=fun A B k c c' hc hA=>by
  have hf:(Builtin.firstCells te.size 0 (.slice B 0 c')).run P w= .ok #[] w:=by
   cases B with
   | none=>simp[Builtin.firstCells]
   | some b=>simp[Builtin.firstCells,loadCells,loadCellsFrom]
  have hn:¬(c<k):=by omega
  cases A with
  | none=>simp[Builtin.append_,run_underlying ht,fF oq,Builtin.lenOf,hf,hc]
  | some a=>simp[Builtin.append_,run_underlying ht,fF oq,Builtin.lenOf,hf,hc,storeCells]
 have hu:∃A c,u= .slice A n c/\n<=c/\(A=none->n=0):=by
  cases hx with
  | slnil=>exact⟨_,_,rfl,adZ _,fun _=>rfl⟩
  | pr h1=>exact⟨_,_,rfl,ahN _,fun _=>rfl⟩
  | kS=>exact⟨_,_,rfl,adZ _,fun _=>rfl⟩
  | sl h1 h2 h3 h4 h5 h6=>exact⟨_,_,rfl,h4,fun h=>by cases h⟩
 have hv:∃B c',v= .slice B 0 c':=by
  cases hy with
  | slnil=>exact⟨_,_,rfl⟩
  | pr h1=>exact⟨_,_,rfl⟩
  | kS=>exact⟨_,_,rfl⟩
  | sl h1 h2 h3 h4 h5 h6=>exact⟨_,_,rfl⟩
 obtain⟨A,c,rfl,h1,h2⟩:=hu;obtain⟨B,c',rfl⟩:=hv;exact run A B n c c' h1 h2
theorem Ad (h:WR G O w) {t ty el:TypeId} {te:cL} (ht:P.underlying t=some (.slice el)) (oq:yh P el te) {n k c:Nat} {cells ds:List MV} {tk':Tok} {A:Option Addr} {us:List Value}
  (hA:A=none->n=0/\c=0) (jE:aQ G cells us) (zb:us.length=n*te.size) (k9:∀ad,A=some ad->∀j u,us[j]?=some u->w.cell? (ad.add j)=some u) (hy:VR G (.sl k ds tk') v) (hl:ds.length=k*te.size) (hk:k≠0)
  (hc:c<n+k) (hb:(n+k)*te.bytes<=140737488355328) (hm:n+k<=maxLen):
  iw P (Builtin.append_ #[t,t] ty #[.slice A n c,v]) w G (O.push .tok) (.sl (n+k) (cells++ds) (.own O.N te.size)):=by
 obtain⟨ti,z,h1,h2,h3,h4,h5,h6⟩:=oq.info;obtain⟨ad,c',vs,rfl,oY,ib,hvc⟩:=ED h hy hl hk;have ama:n+k<=9223372036854775807:=by simp only[maxLen]at hm;omega
 have iT:=grownCap_ge w (n+k) c el;have hle:=grownCap_le_maxLen w (n+k) c el hm;have ia:(cells++ds).length=(n+k)*te.size:=by rw[ajo, <-jE.1,zb,hl,Nat.add_mul]
 obtain⟨K,g1,g2,g3⟩:=Vu (r:=grownCap w (n+k) c el - (n+k)) (R:=Builtin.zeroCells z.cells (grownCap w (n+k) c el - (n+k))) (el:=el) h.drew (jE.append oY) ia (by rw[Mh,h5]) (by omega);rw[show n+k+(grownCap w (n+k) c el - (n+k))=grownCap w (n+k) c el from by omega]at g3;refine⟨_,_,K,?_,g1,g2,g3,j7.alloc h.drew _⟩;cases A with
 | none=>
   obtain⟨rfl,rfl⟩:=hA rfl;have:us=[]:=ahP (by simpa using zb);subst this;have hr:=run_append_nil (P:=P) w t ty el ti z ht h1 h4 ad k c' vs (by rw[h2,ib]) hvc (by omega) (by omega) (by rw[h3];simp only[ajm]at hb;omega);simpa using hr
 | some a=>
   have hr:=run_append_grow (P:=P) w t ty el ti z ht h1 h4 a n c us (by rw[h2,zb]) (k9 a rfl) ad k c' vs (by rw[h2,ib]) hvc hc (by omega) (by rw[h3];exact growslice_fits (by omega) hb);simpa using hr
theorem J5 (h:WR G O w) {t ty el:TypeId} {te:cL} (ht:P.underlying t=some (.slice el)) (oq:yh P el te) {n k s b o r:Nat} {cells ds:List MV} {tk':Tok} {us:List Value}
  (hs:O.hp s=some .tok) (hg:G.tok s=some (b,o+cells.length,te.size,r)) (jE:aQ G cells us) (zb:cells.length=n*te.size) (Mc:∀i u,us[i]?=some u->G.eN b (o+i)=some u)
  (hy:VR G (.sl k ds tk') v) (hl:ds.length=k*te.size) (iz:ds.all ec=true) (hk:k≠0) (hc:n+k<=n+r) (hm:n+r<=maxLen):
  iw P (Builtin.append_ #[t,t] ty #[.slice (some ⟨b,o,none⟩) n (n+r),v]) w G ((O.kill s).push .tok) (.sl (n+k) (cells++ds) (.own O.N te.size)):=by
 obtain⟨ti,z,i1,i2,i3,i4,i5,i6⟩:=oq.info;obtain⟨ad,c',vs,rfl,oY,ib,hvc⟩:=ED h hy hl hk;obtain⟨b',f,k',r',C,T,t1,t2,t3,t4,t5,t6⟩:=h.tok s hs;rw[hg]at t1;simp only[Option.some.injEq,Prod.mk.injEq]at t1;obtain⟨rfl,rfl,rfl,rfl⟩:=t1;have hkr:k*te.size<=r*te.size:=Nat.mul_le_mul_right _ (by omega);have ajz:=yV oY iz;have Tw:=run_firstCells_some (P:=P) w te.size k ad k c' vs ib hvc;have cX:=run_storeCells_at P b (o+cells.length) T vs 0 C w t3 (by rw[Nat.add_zero,ib];omega) ajz
 have cC:(Builtin.append_ #[t,t] ty #[.slice (some ⟨b,o,none⟩) n (n+r),.slice (some ad) k c']).run P w=
   .ok (.slice (some ⟨b,o,none⟩) (n+k) (n+r)) (w.setRow b (C.toList.take (o+cells.length+0)++vs++C.toList.drop (o+cells.length+0+vs.length)).toArray):=by
  have hn:k<=r:=by omega
  rw[zb]at cX;simp only[Builtin.append_,run_underlying ht,fF oq,Builtin.lenOf,Tw,Sem.run_bind,Result.andThen_ok,Sem.run_pure,ajs,Addr.add_lit,cX,zb]<;>simp[run_underlying ht,fF oq,Builtin.lenOf,Tw,cX,hn,zb,Addr.add_lit]
 simp only[Nat.add_zero]at cC;generalize hC':(C.toList.take (o+cells.length)++vs++C.toList.drop (o+cells.length+vs.length)).toArray=C' at cC;have hfs:o+cells.length<=C.size:=by omega
 have QA:(C.toList.take (o+cells.length)).length=o+cells.length:=by simp;omega
 have hC1:∀i,i<o+cells.length->C'[i]?=C[i]?:=fun i hi=>by
  rw[<-hC',ajs,am6,am7 (by omega),Vq,if_pos hi];simp
 have EE:∀i u,vs[i]?=some u->C'[o+cells.length+i]?=some u:=fun i u hu=>by
  have hi:=(Zk.1 hu).1;rw[<-hC',ajs,am6,List.getElem?_append_right (by omega),QA,Nat.add_sub_cancel_left,am7 hi];exact hu
 have hC3:C'.size=C.size:=by rw[<-hC'];simp;omega
 have cA:=h.kill s
 have EF:∀t c x,(O.kill s).hp t=some .tok->G.tok t=some (c,x)->c≠b:=fun t c x dh QB e=>by
  subst e;have hts:t≠s:=fun e=>by subst e;rw[show(O.kill t).hp t=none from aJ _ _ _]at dh;cases dh
  rw[show(O.kill s).hp t=O.hp t from ay _ _ hts]at dh;exact hts (h.l_ t s c x _ dh hs QB hg)
 have c6:=cA.setRow (C':=C') t2 t3 t6 EF (fun i u hu=>by
  have hi:i<o+cells.length:=by
   rcases ajt i (o+cells.length)with h' | h'
   ·exact h'
   ·rw[t5 i h']at hu;cases hu
  rw[hC1 i hi];have:=h.eN b i u hu;simpa[World.cell?,t3]using this)
 have nC:=setRow_heap w b C C' T (0,0) t3;have ad1:∀i u,C'[i]?=some u->(w.setRow b C').cell? ⟨b,i,none⟩=some u:=fun i u hu=>by rw[cell_setRow_same w b i C C' T (0,0) t3];exact hu
 obtain⟨g1,g2⟩:=c6.Ec (b:=b) (f:=fun i=>if i<o+cells.length then G.eN b i else if i<o+cells.length+vs.length then C'[i]? else none)
  (fun i u hu=>by
   have hi:i<o+cells.length:=by
    rcases ajt i (o+cells.length)with h' | h'
    ·exact h'
    ·rw[t5 i h']at hu;cases hu
   rw[if_pos hi];exact hu)
  (fun i u hu=>by
   split at hu
   ·exact c6.eN b i u hu
   ·split at hu
    ·exact ad1 i u hu
    ·cases hu)
  (fun k _=>t6 k) (fun t c x dh QB e=>absurd e (EF t c _ dh QB))
 have zc:(O.kill s).N=O.N:=rfl
 obtain⟨g3,g4⟩:=g2.Tu (b:=b) (f:=o+cells.length+vs.length) (k:=te.size) (r:=r - k) (C:=C') (T:=T) t2 nC
  (by
   rw[hC3,ib];have:(r - k)*te.size=r*te.size - k*te.size:=Nat.sub_mul _ _ _;omega)
  (fun i hi=>by
   show(if b=b then(if i<o+cells.length then G.eN b i else if i<o+cells.length+vs.length then C'[i]? else none)else _)=none;rw[if_pos rfl,if_neg (by omega),if_neg (by omega)])
  t6 (fun t c x dh QB=>EF t c x dh QB)
 refine⟨_,_,_,cC,g1.trans g3,g4,?_,fun k b' qp=>setRow_other w b b' C' (fun e=>t6 k (e▸qp))⟩;have Zx:=jE.append oY;refine .sl (us:=us++vs) Zx.1 (fun i u hu=>?_) (fun i c u a b'=>(Zx.2 i c u a b').mono (g1.trans g3)) (by omega) hm ?_
 ·show(if b=b then(if o+i<o+cells.length then G.eN b (o+i)else if o+i<o+cells.length+vs.length then C'[o+i]? else none)else _)=some u;rw[if_pos rfl];rw[List.getElem?_append]at hu;split at hu
  ·rename_i hi;rw[jE.1]at hi;rw[if_pos (by omega)];exact Mc i u hu
  ·rename_i hi;have ei:=(Zk.1 hu).1;rw[jE.1]at hi ei hu;rw[if_neg (by omega),if_pos (by omega)];have:=EE _ u hu;rw[<-this];congr 1;omega
 ·refine .inr ⟨r - k,?_,?_,by omega⟩
  ·show bH _ _ _ _=_;rw[zc,aJ];simp only[ajo,oY.1]
   congr 2;congr 1;omega
  ·rw[ajo,zb,hl,Nat.add_mul]
theorem Mi (ht:aO P tab) (h:WR G O w) {t ty:TypeId} {x y:MV} (hv:iy tab O t x y=some (m,O')) (hx:VR G x u) (hy:VR G y v):iw P (Builtin.append_ #[t,t] ty #[u,v]) w G O' m:=by
 unfold iy at hv;split at hv
 ·rename_i el k ds tk' hu;have fu:=bL ht hu;split at hv
  ·rename_i te n cells tk he;have oq:=ht _ te he;split at hv
   ·rename_i hc;split at hv
    ·rename_i hk;simp only[Option.some.injEq,Prod.mk.injEq]at hv;obtain⟨rfl,rfl⟩:=hv;subst hk;exact iw.of h (J4 h fu oq hx hy) hx
    ·rename_i hk;split at hv
     ·rename_i iH
      have grow:∀(A:Option Addr) (c:Nat) (us:List Value),(A=none->n=0/\c=0)->aQ G cells us->(∀ad,A=some ad->∀j u,us[j]?=some u->w.cell? (ad.add j)=some u)->c<n+k->
        iw P (Builtin.append_ #[t,t] ty #[.slice A n c,v]) w G (O.push .tok) (.sl (n+k) (cells++ds) (.own O.N te.size)):=fun A c us a1 a2 a3 a4=>
       Ad h fu oq a1 a2 (by rw[a2.1,iH.1]) a3 hy hc.1 hk a4 iH.2.1 iH.2.2
      split at hv
      ·simp only[Option.some.injEq,Prod.mk.injEq]at hv;obtain⟨rfl,rfl⟩:=hv;cases hx with
       | slnil=>exact grow none 0 [] (fun _=>⟨rfl,rfl⟩) aQ.nil (fun _ h=>by cases h) (by omega)
       | sl h1 h2 h3 h4 h5 h6=>exact h6.elim
      ·simp only[Option.some.injEq,Prod.mk.injEq]at hv;obtain⟨rfl,rfl⟩:=hv;cases hx with
       | sl h1 h2 h3 h4 h5 h6=>
         rename_i us c b o;have h6:c=n:=h6;exact grow _ c us (fun h=>by cases h) ⟨h1,h3⟩ (fun ad e j u hj=>by injection e with e;subst e;rw[Addr.add_lit];exact h.eN _ _ _ (h2 j u hj)) (by omega)
      ·rename_i s k';split at hv
       ·rename_i xU;subst xU;split at hv
        ·rename_i hs;simp only[Option.some.injEq,Prod.mk.injEq]at hv;obtain⟨rfl,rfl⟩:=hv;cases hx with
         | sl h1 h2 h3 h4 h5 h6=>
           rename_i us c b o
           have Zy:c<n+k->iw P (Builtin.append_ #[t,t] ty #[.slice (some ⟨b,o,none⟩) n c,v]) w G ((O.kill s).push .tok) (.sl (n+k) (cells++ds) (.own O.N te.size)):=fun eh=>
            Ad (O:=O.kill s) (h.kill s) fu oq (A:=some ⟨b,o,none⟩) (us:=us) (fun h=>by cases h) ⟨h1,h3⟩ (by rw[h1,iH.1]) (fun ad e j u hj=>by injection e with e;subst e;rw[Addr.add_lit];exact h.eN _ _ _ (h2 j u hj)) hy hc.1 hk eh iH.2.1 iH.2.2
           rcases h6 with h6 | ⟨r,h7,h8,h9⟩
           ·exact Zy (by omega)
           ·by_cases hr:n+k<=c
            ·subst h9;exact J5 h fu oq hs h7 ⟨h1,h3⟩ iH.1 (fun i u hi=>h2 i u hi) hy hc.1 hc.2.1 hk hr h5
            ·exact Zy (by omega)
        ·cases hv
       ·cases hv
      ·cases hv
     ·cases hv
   ·cases hv
  ·cases hv
 ·cases hv
end
section
variable {G H:Gh} {n:Sz} {D:List Deferred} {e:Env} {a:Act} {P:Program} {tab:cj} {O O':VH} {w:World} {m m':MV} {u v:Value}
def BZ (tab:cj) (src dst:TypeId) (x:MV):Option MV:=
 match(tab src).map cL.under,(tab dst).map cL.under,x with
 | some _,some (.int k),.v (.int _ i)=>some (.v (.int k (k.wrap i)))
 | some .string,some .string,.str l=>some (.str l)
 | _,_,_=>none
theorem Vv (ht:aO P tab) {src dst:TypeId} (hv:BZ tab src dst m=some m') (hx:VR G m u):bh P (convert src dst u) G m':=by
 unfold BZ at hv;split at hv
 ·injection hv with hv;subst hv;cases hx
  exact bh.of (u:=.int _ _) (fun w _=>by simp[convert,run_underlying (bL ht ‹(tab src).map _=_›),run_underlying (bL ht ‹(tab dst).map _=_›),Conv.intToInt]) (.v rfl)
 ·injection hv with hv;subst hv;cases hx
  exact bh.of (u:=.string _) (fun w _=>by simp[convert,run_underlying (bL ht ‹(tab src).map _=_›),run_underlying (bL ht ‹(tab dst).map _=_›)]) .str
 ·cases hv
theorem _root_.Go.Proofs.YtjpadehgejlebaaGreatDoor.VR.jj {x u:Value} (h:VR G (.v x) u):u=x:=by cases h;rfl
def Mk (m:MV):Option MV:=
 match m with
 | .ptr _ _ | .dE _ _=>some m
 | .func (.func _) _ _=>some m
 | _=>none
def gP {α :Type} (parts:Array (Nat×Operand)) (ms:List α):List (Nat× α):=(parts.toList.map (·.1)).zip ms
def xm:MV->Option MV
 | .bB k o _ c=>if c=0 then none else some (.ptr k o)
 | .sl 0 [] .nil=>some (.v (.pointer none))
 | _=>none
theorem QC (hv:xm m=some m') (hx:VR G m u) {ts:Array TypeId} {ty:TypeId}:bh P (Builtin.unsafeSliceData_ ts ty #[u]) G m':=by
 unfold xm at hv;split at hv
 ·split at hv
  ·cases hv
  ·rename_i k o n c hc;injection hv with hv;subst hv
   cases hx with
   | bB h1 h2 h3=>exact bh.of (u:=.pointer (some _)) (fun w _=>by
     show Sem.run P (if c≠0 then pure (Value.pointer (some _))else _) w=_;rw[if_pos hc];rfl) (.ptr h1)
 ·injection hv with hv;subst hv
  cases hx with
  | slnil=>exact bh.of (u:=.pointer none) (fun w _=>rfl) (.v rfl)
  | sl h1 h2 h3 h4 h5 h6=>exact h6.elim
 ·cases hv
def eX (tab:cj) (o:Oper) (e:Env):Option MV:=
 match o.op with
 | .move x | .assign x=>ev e x
 | .pick c a b=>match ev e c with
   | some (.v (.bool t))=>if t then ev e a else ev e b
   | _=>none
 | .nilCheck x=>(ev e x).bind Mk
 | .binOp op t x y _=>match ev e x,ev e y with
   | some p,some q=>dw tab op t p q
   | _,_=>none
 | .unOp op _ x=>(ev e x).bind (xj op)
 | .convert s d x=>(ev e x).bind (BZ tab s d)
 | .fieldAddr t x f=>(ev e x).bind (jU tab t f)
 | .field t x f=>(ev e x).bind (xf tab t · f)
 | .indexAddr t x i=>match ev e x,ev e i with
   | some p,some q=>m9 tab t p q
   | _,_=>none
 | .index t x i=>match ev e x,ev e i with
   | some p,some q=>xg tab t p q
   | _,_=>none
 | .extract x i=>(ev e x).bind (sA · i)
 | .slice t x lo hi mx=>match ev e x,DF lo,DF hi,mx with
   | some p,some l,some h,none=>xk tab t p l h
   | some p,some l,some (some h),some y=>(ev e y).bind (oZ tab t p l h)
   | _,_,_,_=>none
 | .build t parts=>match gh e (parts.toList.map (·.2))with
   | some ms=>xi tab t (gP parts ms)
   | none=>none
 | .load t x=>match ev e x with
   | some (.dE cs off)=>ft tab ⟨0,fun _=>none⟩ t (.dE cs off)
   | _=>none
 | .makeFunc fn fs cs=>match gh e fs.toList,gh e cs.toList with
   | some p,some q=>some (.func fn p q)
   | _,_=>none
 | .makeInterface t x=>match(tab t).map cL.under,ev e x with
   | some (.interface _),_=>none
   | some _,some p=>some (.iface t p)
   | _,_=>none
 | .call c=>match c.callee,c.args.toList,c.argTypes.toList with
   | .builtin .len,[x],[t]=>(ev e x).bind (dy tab t)
   | .builtin .max,[x,y],_=>match ev e x,ev e y with
     | some p,some q=>BX p q
     | _,_=>none
   | .builtin .min,[x,y],_=>match ev e x,ev e y with
     | some p,some q=>BY p q
     | _,_=>none
   | .builtin .unsafeSliceData,[x],_=>(ev e x).bind xm
   | _,_,_=>none
 | _=>none
where DF:Option Operand->Option (Option MV)
 | none=>some none
 | some x=>(ev e x).map some
theorem Ed (h:FR G n D e a) {x:Option Operand} {y:Option MV} (hx:eX.DF e x=some y):J3 G y (x.map a.eval):=by
 cases x with
 | none=>injection hx with hx;subst hx;trivial
 | some x=>
   obtain⟨m,h1,rfl⟩:=Ma.1 hx;exact h.ev h1
theorem CN {l:List Operand} {ms:List MV} (h:gh e l=some ms):ms.length=l.length:=by
 induction l generalizing ms with
 | nil=>simp[gh]at h;subst h;rfl
 | cons x l ih=>
   simp only[gh,ahK,ahJ,Qm]at h;obtain⟨m,h1,Zr,h2,h3⟩:=h;injection h3 with h3;subst h3
   simp[ih h2]
theorem zip_fst {α :Type} (parts:Array (Nat×Operand)) (ms:List α) (h:ms.length=parts.toList.length):(gP parts ms).map (·.1)=parts.toList.map (·.1):=by
 unfold gP;rw[show(List.map (fun x:Nat× α =>x.1) ((parts.toList.map (·.1)).zip ms))=List.map Prod.fst ((parts.toList.map (·.1)).zip ms)from rfl,List.map_fst_zip];simp[h]
theorem Ml {α :Type} (parts:Array (Nat×Operand)) (ms:List α) (h:ms.length=parts.toList.length):(gP parts ms).map (·.2)=ms:=by
 unfold gP;rw[show(List.map (fun x:Nat× α =>x.2) ((parts.toList.map (·.1)).zip ms))=List.map Prod.snd ((parts.toList.map (·.1)).zip ms)from rfl,List.map_snd_zip];simp[h]
theorem EG (a:Act) (parts:Array (Nat×Operand)):((parts.map fun(i,x)=>(i,a.eval x)).toList.map (·.1))=parts.toList.map (·.1):=by simp
theorem EH (a:Act) (parts:Array (Nat×Operand)):((parts.map fun(i,x)=>(i,a.eval x)).toList.map (·.2))=(parts.toList.map (·.2)).map a.eval:=by simp
def dT (P:Program) (o:Oper) (a:Act) (G:Gh) (m:MV):Prop:=∃u,VR G m u/\∀w,SS G w->(execOp a.eval o).run P w= .ok (.value u) w
theorem dT.of {o:Oper} {s:Sem Value} (hs:bh P s G m) (he:execOp a.eval o=(do pure (.value (<-s)))):dT P o a G m:=by
 obtain⟨u,hu,hr⟩:=hs;exact⟨u,hu,fun w hw=>by rw[he,Sem.run_bind,hr w hw];rfl⟩
theorem vu (ht:aO P tab) (h:FR G n D e a) {o:Oper} (hv:eX tab o e=some m):dT P o a G m:=by
 unfold eX at hv;split at hv
 ·rename_i x ho;exact⟨_,h.ev hv,fun w _=>by simp[execOp,ho]⟩
 ·rename_i x ho;exact⟨_,h.ev hv,fun w _=>by simp[execOp,ho]⟩
 ·rename_i c x y ho;split at hv
  ·rename_i t hc;have py:=h.ev hc;have Hq:a.eval c= .bool t:=py.jj;split at hv
   ·rename_i hb;exact⟨_,h.ev hv,fun w _=>by simp[execOp,ho,asBool,Hq,hb]⟩
   ·rename_i hb;exact⟨_,h.ev hv,fun w _=>by simp[execOp,ho,asBool,Hq,hb]⟩
  ·cases hv
 ·rename_i x ho;obtain⟨p,h1,h2⟩:=Qm.1 hv;have hp:=h.ev h1;generalize hu:a.eval x=u at hp;unfold Mk at h2;split at h2
  ·injection h2 with h2;subst h2
   exact⟨u,hp,fun w _=>by simp only[execOp,ho,hu];cases hp;rfl⟩
  ·injection h2 with h2;subst h2
   exact⟨u,hp,fun w _=>by simp only[execOp,ho,hu];cases hp;rfl⟩
  ·injection h2 with h2;subst h2
   exact⟨u,hp,fun w _=>by simp only[execOp,ho,hu];cases hp;rfl⟩
  ·cases h2
 ·rename_i op t x y yt ho;split at hv
  ·rename_i p q h1 h2;exact dT.of (Zt (xo:=x) (yo:=y) ht hv (h.ev h1) (h.ev h2)) (by simp[execOp,ho])
  ·cases hv
 ·rename_i op t x ho;obtain⟨p,h1,h2⟩:=Qm.1 hv;exact dT.of (Qw h2 (h.ev h1)) (by simp[execOp,ho])
 ·rename_i s d x ho;obtain⟨p,h1,h2⟩:=Qm.1 hv;exact dT.of (Vv ht h2 (h.ev h1)) (by simp[execOp,ho])
 ·rename_i t x f ho;obtain⟨p,h1,h2⟩:=Qm.1 hv;exact dT.of (Ez ht h2 (h.ev h1)) (by simp[execOp,ho])
 ·rename_i t x f ho;obtain⟨p,h1,h2⟩:=Qm.1 hv;exact dT.of (Qt ht h2 (h.ev h1)) (by simp[execOp,ho])
 ·rename_i t x i ho;split at hv
  ·rename_i p q h1 h2;exact dT.of (EA ht hv (h.ev h1) (h.ev h2)) (by simp[execOp,ho])
  ·cases hv
 ·rename_i t x i ho;split at hv
  ·rename_i p q h1 h2;exact dT.of (Qu ht hv (h.ev h1) (h.ev h2)) (by simp[execOp,ho])
  ·cases hv
 ·rename_i x i ho;obtain⟨p,h1,h2⟩:=Qm.1 hv;exact dT.of (J1 h2 (h.ev h1)) (by simp[execOp,ho])
 ·rename_i t x lo hi mx ho;split at hv
  ·rename_i p l hh h1 h2 h3;exact dT.of (Qx ht hv (h.ev h1) (Ed h h2) (Ed h h3)) (by simp[execOp,ho])
  ·rename_i p l hh y h1 h2 h3;obtain⟨q,h4,h5⟩:=Qm.1 hv;have h6:=Ed h h3;cases hi with
   | none=>cases h3
   | some hi=>exact dT.of (Mg ht h5 (h.ev h1) (Ed h h2) h6 (h.ev h4)) (by simp[execOp,ho])
  ·cases hv
 ·rename_i t parts ho;split at hv
  ·rename_i ms h1;have hl:=CN h1;have vv:ms.length=parts.toList.length:=by simpa using hl
   refine dT.of (Qv ht hv (ps:=parts.map fun(i,x)=>(i,a.eval x)) ?_ ?_) (by simp[execOp,ho])
   ·rw[zip_fst parts ms vv,EG]
   ·rw[Ml parts ms vv,EH];exact h.gh h1
  ·cases hv
 ·rename_i t x ho;split at hv
  ·rename_i cs off h1;exact dT.of (Qr ht hv (h.ev h1)) (by simp[execOp,ho])
  ·cases hv
 ·rename_i fn fs cs ho;split at hv
  ·rename_i p q h1 h2;injection hv with hv;subst hv
   have e1:=h.gh h1;have e2:=h.gh h2;refine⟨.func fn (fs.toList.map a.eval).toArray (cs.toList.map a.eval).toArray,.func e1.1 e1.2 e2.1 e2.2,fun w _=>?_⟩;have f1:fs.map a.eval=(fs.toList.map a.eval).toArray:=by apply adY;simp
   have f2:cs.map a.eval=(cs.toList.map a.eval).toArray:=by apply adY;simp
   simp only[execOp,ho,Instr.makeFunc,f1,f2];rfl
  ·cases hv
 ·rename_i t x ho;split at hv
  ·cases hv
  ·rename_i d p hne hd h1;injection hv with hv;subst hv
   have fu:=bL ht hd;refine dT.of (s:=Instr.makeInterface t (a.eval x)) (bh.of (u:=.iface t (a.eval x)) (fun w _=>?_) (.iface (h.ev h1))) (by simp[execOp,ho]);simp only[Instr.makeInterface,Sem.run_bind,run_underlying fu,Result.andThen_ok]
   cases d<;>first
    | rfl
    | (rename_i ms;exact absurd hd (hne ms))
  ·cases hv
 ·rename_i c ho;split at hv
  ·rename_i x t hc iK Mm;obtain⟨p,h1,h2⟩:=Qm.1 hv;have ha:c.args= #[x]:=by apply adY;exact iK
   have fP:c.argTypes= #[t]:=by apply adY;exact Mm
   exact dT.of (Zv (ty:=o.type) ht h2 (h.ev h1)) (by simp[execOp,ho,resolve,hc,ha,fP,invoke,builtin])
  ·rename_i x y hc iK;split at hv
   ·rename_i p q h1 h2;have ha:c.args= #[x,y]:=by apply adY;exact iK
    exact dT.of (Vs (ts:=c.argTypes) (ty:=o.type) hv (h.ev h1) (h.ev h2)) (by simp[execOp,ho,resolve,hc,ha,invoke,builtin])
   ·cases hv
  ·rename_i x y hc iK;split at hv
   ·rename_i p q h1 h2;have ha:c.args= #[x,y]:=by apply adY;exact iK
    exact dT.of (Vt (ts:=c.argTypes) (ty:=o.type) hv (h.ev h1) (h.ev h2)) (by simp[execOp,ho,resolve,hc,ha,invoke,builtin])
   ·cases hv
  ·rename_i x hc iK;obtain⟨p,h1,h2⟩:=Qm.1 hv;have ha:c.args= #[x]:=by apply adY;exact iK
   exact dT.of (QC (ts:=c.argTypes) (ty:=o.type) h2 (h.ev h1)) (by simp[execOp,ho,resolve,hc,ha,invoke,builtin])
  ·cases hv
 ·cases hv
end
open Go.MapKept (IsKey run_checkKey run_findKey run_setObj_map)
section
variable {G H:Gh} {n:Sz} {D:List Deferred} {e:Env} {a:Act} {P:Program} {tab:cj} {O O':VH} {w:World} {m m':MV} {u v:Value}
theorem pD {w:World} {b j:Nat} (o:Obj) (h:j≠b):({w with heap:=w.heap.setIfInBounds b o}:World).heap[j]?=w.heap[j]?:=
 ajp (Ne.symm h)
theorem vw {w:World} {b:Nat} {x:Obj} (o:Obj) (h:w.heap[b]?=some x):({w with heap:=w.heap.setIfInBounds b o}:World).heap[b]?=some o:=
 Array.getElem?_setIfInBounds_self_of_lt (rF h)
theorem uG {w:World} {b:Nat} (o:Obj) {a:Addr} (h:a.block≠b):({w with heap:=w.heap.setIfInBounds b o}:World).cell? a=w.cell? a:=by
 unfold World.cell?;rw[pD o h]
abbrev vx:=List (MV×MV×Nat)
structure ic (G:Gh) (es:vx) (E:List MapEntry):Prop where
 born:E.map (·.born)=es.map (·.2.2)
 key:aQ G (es.map (·.1)) (E.map (·.key))
 val:aQ G (es.map (·.2.1)) (E.map (·.val))
theorem ic.nil:ic G [] []:=⟨rfl,aQ.nil,aQ.nil⟩
theorem ic.cons {x:MV×MV×Nat} {y:MapEntry} {es:vx} {E:List MapEntry} (h1:y.born=x.2.2) (h2:VR G x.1 y.key) (h3:VR G x.2.1 y.val) (h:ic G es E):ic G (x::es) (y::E):=
 ⟨by rw[ajl,ajl,h1,h.born],aQ.cons h2 h.key,aQ.cons h3 h.val⟩
theorem ic.eW {x:MV×MV×Nat} {es:vx} {E:List MapEntry} (h:ic G (x::es) E):∃y E',E=y::E'/\y.born=x.2.2/\VR G x.1 y.key/\VR G x.2.1 y.val/\ic G es E':=by
 cases E with
 | nil=>have:=h.born;simp at this
 | cons y E=>
   have h1:=h.born;simp only[ajl,List.cons.injEq]at h1;exact⟨y,E,rfl,h1.1,h.key.head,h.val.head,⟨h1.2,h.key.tail,h.val.tail⟩⟩
theorem ic.iQ {E:List MapEntry} (h:ic G [] E):E=[]:=by
 cases E with
 | nil=>rfl
 | cons y E=>have:=h.born;simp at this
theorem ic.append {es fs:vx} {E F:List MapEntry} (h:ic G es E) (k:ic G fs F):ic G (es++fs) (E++F):=
 ⟨by simp[h.born,k.born],by simpa using aQ.append h.key k.key,by simpa using aQ.append h.val k.val⟩
theorem WR.tI (h:WR G O w) {k b ck ck':Nat} {es Hr:vx} {E':Array MapEntry} {x:Obj} (hk:O.hp k=some (.map es ck)) (hp:G.bW k=some b) (hb:w.heap[b]?=some x) (hr:ic G Hr E'.toList):
  WR G (O.set k (.map Hr ck')) {w with heap:=w.heap.setIfInBounds b (.map E' ck')}:=by
 have hne:∀j b',j≠k->O.hp j≠none->G.bW j=some b'->b'≠b:=fun j b' hj lj nC e=>hj (h.inj j k b lj (by rw[hk];simp) (e▸nC) hp)
 have kK:∀j,bH O.hp k (some (.map Hr ck')) j≠none->O.hp j≠none:=fun j hn=>by
  by_cases e:j=k
  ·subst e;rw[hk];simp
  ·rwa [ay _ _ e]at hn
 have px:=vw (.map E' ck') hb;have eR:∀j,j≠b->({w with heap:=w.heap.setIfInBounds b (.map E' ck')}:World).heap[j]?=w.heap[j]?:=fun j hj=>pD _ hj
 have hB:=(h.kJ k b hp).1
 have QD:∀b' s,w.shape? b'=some s->b'≠b:=fun b' s hs e=>by
  subst e;obtain⟨b2,E,g1,g2,_⟩:=h.map k es ck hk;rw[hp]at g1;injection g1 with g1;subst g1
  simp only[World.shape?,g2]at hs;cases hs
 refine⟨⟨h.base.os,h.base.tape,h.base.output,by simpa using h.base.size,fun j hj=>?_⟩,fun b' o u' py=>?_,fun j hj=>?_,fun j b' hj=>?_,fun j k' b' lj lk=>h.inj j k' b' (kK j lj) (kK k' lk),fun j ds hj=>?_,fun j es2 ck2 hj=>?_,fun t ht=>?_,fun s t b' x y hs ht=>?_,h.pw id (mP (by simp)) fun j b' s hj hs=>iR (fun x hx=>by rw[eR _ (QD b' s hs)];exact hx) hs,h.r5 id (vm (by simp)) fun j x b' hj hb hx=>by rw[eR b' (fun e=>by have:=h.inj j k b (by rw[hj];simp) (by rw[hk];simp) (e▸hb) hp;subst this;rw[hk]at hj;cases hj)];exact hx,h.rz,h.r6 (Gh.Le.refl _) (m7 (by simp))⟩
 ·rw[eR j (by omega)];exact h.base.block j hj
 ·have yR:b'≠b:=fun e=>by subst e;rw[(h.kJ k b' hp).2.2 (by rw[hk];simp) o]at py;cases py
  rw[uG _ (by exact yR)];exact h.eN b' o u' py
 ·obtain⟨d1,d2,d3⟩:=h.qm j hj;refine⟨d1,d2,?_⟩;show bH _ _ _ _=_;rw[ay _ _ (fun e=>by subst e;rw[d3]at hk;cases hk)];exact d3
 ·obtain⟨p1,p2,p3⟩:=h.kJ j b' hj;refine⟨p1,by simpa using p2,fun hne=>p3 ?_⟩;have hne:bH O.hp k (some (.map Hr ck')) j≠none:=hne;by_cases e:j=k
  ·subst e;rw[hk];simp
  ·rwa [ay _ _ e]at hne
 ·have hj:bH O.hp k (some (.map Hr ck')) j=some (.cells ds):=hj;by_cases e:j=k
  ·subst e;rw[aJ]at hj;cases hj
  ·rw[ay _ _ e]at hj;obtain⟨b',C,T,d1,d2,d3⟩:=h.cells j ds hj;exact⟨b',C,T,d1,by rw[eR _ (hne j b' e (by rw[hj];simp) d1)];exact d2,d3⟩
 ·have hj:bH O.hp k (some (.map Hr ck')) j=some (.map es2 ck2):=hj;by_cases e:j=k
  ·subst e;rw[aJ]at hj;injection hj with hj;injection hj with hj aM;subst hj;subst aM
   exact⟨b,E',hp,px,hr.born,hr.key,hr.val⟩
  ·rw[ay _ _ e]at hj;obtain⟨b',D,d1,d2,d3⟩:=h.map j es2 ck2 hj;exact⟨b',D,d1,by rw[eR _ (hne j b' e (by rw[hj];simp) d1)];exact d2,d3⟩
 ·have ht:bH O.hp k (some (.map Hr ck')) t=some .tok:=ht;have e:t≠k:=fun e=>by subst e;rw[aJ]at ht;cases ht
  rw[ay _ _ e]at ht;obtain⟨b',f,k',r,D,T',d1,d2,d3,d4,d6,d7⟩:=h.tok t ht;exact⟨b',f,k',r,D,T',d1,d2,by rw[eR _ (fun e=>d7 k (by rw[e];exact hp))];exact d3,d4,d6,d7⟩
 ·have hs:bH O.hp k (some (.map Hr ck')) s=some .tok:=hs;have ht:bH O.hp k (some (.map Hr ck')) t=some .tok:=ht;have e:t≠k:=fun e=>by subst e;rw[aJ]at ht;cases ht
  have e':s≠k:=fun e=>by subst e;rw[aJ]at hs;cases hs
  rw[ay _ _ e]at ht;rw[ay _ _ e']at hs;exact h.l_ s t b' x y hs ht
theorem WR.Zz (h:WR G O w):G.Le {G with bW:=bH G.bW O.N (some w.heap.size)}/\WR {G with bW:=bH G.bW O.N (some w.heap.size)} (O.push (.map [] 0)) (w.alloc (.map #[] 0)):=by
 have hle:=Gh.Le.JY h.m6.1 w.heap.size;have hg:=h.grow (.map #[] 0)
 have eQ:∀k b,bH G.bW O.N (some w.heap.size) k=some b->(k=O.N/\b=w.heap.size)\/(k≠O.N/\G.bW k=some b):=fun k b hk=>by
  by_cases e:k=O.N
  ·subst e;rw[aJ]at hk;injection hk with hk;exact .inl ⟨rfl,hk.symm⟩
  ·rw[ay _ _ e]at hk;exact .inr ⟨e,hk⟩
 have Qp:∀o,G.eN w.heap.size o=none:=h.w_
 refine⟨hle,hg.base,hg.eN,fun k hk=>?_,fun k b hk=>?_,fun j k b lj lk hj hk=>?_,fun k ds hk=>?_,fun k es ck hk=>?_,fun t ht=>?_,fun s t b x y hs ht h1 h2=>?_,h.pw hle.bW (mP (by simp)) fun _ _ _ _=>iR fun _=>dW w _,h.r5 hle.bW (vm (by simp)) fun _ _ _ _ _=>dW w _,h.rz,h.r6 hle (m7 (by simp))⟩
 ·have hk:O.N+1<=k:=hk;obtain⟨h1,h2,h3⟩:=h.qm k (by omega);exact⟨by show bH _ _ _ _=_;rw[ay _ _ (by omega)];exact h1,h2,by show bH _ _ _ _=_;rw[ay _ _ (by omega)];exact h3⟩
 ·rcases eQ k b hk with⟨_,rfl⟩ | ⟨cA,hk⟩
  ·exact⟨h.Zm,by simp,fun _=>Qp⟩
  ·obtain⟨p1,p2,p3⟩:=hg.kJ k b hk;exact⟨p1,p2,fun hne=>p3 (by have hne:bH O.hp O.N (some (.map [] 0)) k≠none:=hne;rwa [ay _ _ cA]at hne)⟩
 ·rcases eQ j b hj with⟨rfl,rfl⟩ | ⟨cI,hj⟩<;>rcases eQ k _ hk with⟨rfl,hb⟩ | ⟨cA,hk⟩
  ·rfl
  ·have:=(h.kJ _ _ hk).2.1;omega
  ·subst hb;have:=(h.kJ _ _ hj).2.1;omega
  ·exact h.inj j k b (by have lj:bH O.hp O.N (some (.map [] 0)) j≠none:=lj;rwa [ay _ _ cI]at lj) (by have lk:bH O.hp O.N (some (.map [] 0)) k≠none:=lk;rwa [ay _ _ cA]at lk) hj hk
 ·have hk:bH O.hp O.N (some (.map [] 0)) k=some (.cells ds):=hk;by_cases e:k=O.N
  ·subst e;rw[aJ]at hk;cases hk
  ·rw[ay _ _ e]at hk;obtain⟨b,C,T,h1,h2,h3⟩:=hg.cells k ds hk;exact⟨b,C,T,hle.bW h1,h2,h3.mono hle⟩
 ·have hk:bH O.hp O.N (some (.map [] 0)) k=some (.map es ck):=hk;by_cases e:k=O.N
  ·subst e;rw[aJ]at hk;injection hk with hk;injection hk with hk bM;subst hk;subst bM
   exact⟨w.heap.size, #[],aJ _ _ _,by rw[fE,if_pos rfl],rfl,aQ.nil,aQ.nil⟩
  ·rw[ay _ _ e]at hk;obtain⟨b,E,h1,h2,h3,h4,h5⟩:=hg.map k es ck hk;exact⟨b,E,hle.bW h1,h2,h3,h4.mono hle,h5.mono hle⟩
 ·have ht:bH O.hp O.N (some (.map [] 0)) t=some .tok:=ht;by_cases e:t=O.N
  ·subst e;rw[aJ]at ht;cases ht
  ·rw[ay _ _ e]at ht;obtain⟨b,f,k,r,D,T',h1,h2,h3,h4,h6,h7⟩:=hg.tok t ht;obtain⟨_,_,_,_,_,_,Zo,_,Zp,_⟩:=h.tok t ht;refine⟨b,f,k,r,D,T',h1,h2,h3,h4,h6,fun j hj=>?_⟩;rcases eQ j b hj with⟨_,rfl⟩ | ⟨_,hj⟩
   ·rw[h1]at Zo;injection Zo with e1;injection e1 with e1 _;subst e1
    have:=rF Zp;omega
   ·exact h7 j hj
 ·have hs:bH O.hp O.N (some (.map [] 0)) s=some .tok:=hs;have ht:bH O.hp O.N (some (.map [] 0)) t=some .tok:=ht;have es:s≠O.N:=fun e=>by subst e;rw[aJ]at hs;cases hs
  have et:t≠O.N:=fun e=>by subst e;rw[aJ]at ht;cases ht
  rw[ay _ _ es]at hs;rw[ay _ _ et]at ht;exact h.l_ s t b x y hs ht h1 h2
theorem bytes_beq (a b:List UInt8):((⟨⟨a⟩⟩:ByteArray)==⟨⟨b⟩⟩)=(a==b):=by
 show((⟨a⟩:Array UInt8)==⟨b⟩)=(a==b);rw[Bool.eq_iff_iff,beq_iff_eq,beq_iff_eq,Array.mk.injEq]
def J6 (d:TypeDesc) (x y:MV):Option Bool:=
 match d,x,y with
 | .int _,.v (.int k a),.v (.int k' b)=>if k=k' then some (a==b)else none
 | .string,.str a,.str b=>some (a==b)
 | _,_,_=>none
theorem Ih {d:TypeDesc} {x y:MV} {u v:Value} {b:Bool} (h:J6 d x y=some b) (hx:VR G x u) (hy:VR G y v):Instr.sameNow d u v=some b/\(b=true->Instr.sameBits 10000 v u=true):=by
 unfold J6 at h;split at h
 ·split at h
  ·rename_i he;subst he;injection h with h;cases hx;cases hy
   refine⟨by simp[Instr.sameNow,h],fun hb=>?_⟩;rw[hb]at h;have:=eq_of_beq h;subst this;simp[Instr.sameBits]
  ·cases h
 ·injection h with h;cases hx;cases hy;refine⟨by rw[<-h];exact congrArg some (bytes_beq _ _),fun hb=>?_⟩;rw[hb]at h;have:=eq_of_beq h;subst this;show((_:ByteArray)==_)=true;rw[bytes_beq];exact h
 ·cases h
def qq (d:TypeDesc) (k:MV):vx->Nat->Option (Option (Nat×MV))
 | [],_=>some none
 | e::es,i=>match J6 d k e.1 with
   | some true=>some (some (i,e.2.1))
   | some false=>qq d k es (i+1)
   | none=>none
theorem sB {d:TypeDesc} {k:MV} {kv:Value} (hk:VR G k kv):∀{es:vx} {E:List MapEntry} {i:Nat} {r:Option (Nat×MV)},qq d k es i=some r->ic G es E->
  match r with
  | none=>Instr.findNow d kv E i=some none
  | some (j,m)=>∃v,Instr.findNow d kv E i=some (some (j,v))/\VR G m v/\i<=j/\(E[j - i]?).map (fun e=>Instr.sameBits 10000 e.key kv)=some true/\j - i<E.length
 | [],E,i,r,h,hr=>by
   rw[hr.iQ];injection h with h;subst h
   rfl
 | x::es,E,i,r,h,hr=>by
   obtain⟨y,E',rfl,h1,h2,h3,h4⟩:=hr.eW;rw[qq]at h;split at h
   ·rename_i hs;injection h with h;subst h
    obtain⟨g1,g3⟩:=Ih hs hk h2;exact⟨y.val,by simp[Instr.findNow,g1],h3,adZ _,by simp[g3],by simp⟩
   ·rename_i hs;obtain⟨g1,_⟩:=Ih hs hk h2;have ih:=sB hk h h4;cases r with
    | none=>simp only[Instr.findNow,g1];exact ih
    | some p=>
      obtain⟨j,m⟩:=p;obtain⟨v,i1,i2,i3,i4,i5⟩:=ih;refine⟨v,by simp only[Instr.findNow,g1];exact i1,i2,by omega,?_,by simp;omega⟩;rw[show j - i=(j - (i+1))+1 by omega,am_];exact i4
   ·cases h
def yi (d:TypeDesc) (k:MV):Bool:=
 match d,k with
 | .int k,.v (.int k' _)=>decide (k'=k)
 | .string,.str _=>true
 | _,_=>false
theorem Ae {d:TypeDesc} {k:MV} {kv:Value} (h:yi d k=true) (hk:VR G k kv):IsKey d kv:=by
 unfold yi at h;split at h
 ·cases hk;simpa[IsKey]using h
 ·cases hk;simp[IsKey]
 ·cases h
def xn (i:cL):Option MV:=if ef i.under then some (.agg i.zero)else i.zero[0]?
theorem ze {t:TypeId} {i:cL} (h:yh P t i) (hm:xn i=some m):∃z,(∀w,(zeroValue t).run P w= .ok z w)/\∀G,VR G m z:=by
 obtain⟨ti,z,h1,_,_,h4,h5,h6⟩:=h.info;refine⟨z,fun w=>by simp[zeroValue,typeInfo,h1,h4],fun G=>?_⟩;obtain⟨w1,w2⟩:=h.whole ti z h1 h4;have h6:=h6 G;unfold xn at hm;split at hm
 ·rename_i ha;injection hm with hm;subst hm
  obtain⟨cs,rfl⟩:=w1 ha;exact VR.agg h6.1 h6.2
 ·rename_i ha;have ha:ef i.under=false:=by simpa using ha
  rw[w2 ha]at h6;obtain⟨u,hu,hv⟩:=h6.get hm;have:i.zero.length=1:=by have:=h6.1;simpa using this.symm
  have h0:(0:Nat)<1:=by omega
  simp only[Array.toList,am9,Option.some.injEq]at hu;subst hu;exact hv
def mapOf (O:VH):MV->Option vx
 | .v (.map none)=>some []
 | .map b=>match O.hp b with
   | some (.map es _)=>some es
   | _=>none
 | _=>none
def ie (tab:cj) (O:VH) (t:TypeId) (x k:MV) (ok:Bool):Option MV:=
 match(tab t).map cL.under with
 | some (.map kt et)=>match(tab kt).map cL.under,tab et with
   | some kd,some te=>
     match yi kd k,(mapOf O x).bind (qq kd k · 0)with
     | true,some (some (_,m))=>some (if ok then .tuple [m,.v (.bool true)]else m)
     | true,some none=>(xn te).map fun z=>if ok then .tuple [z,.v (.bool false)]else z
     | _,_=>none
   | _,_=>none
 | _=>none
theorem tJ (ht:aO P tab) {t:TypeId} {d:TypeDesc} (h:(tab t).map cL.under=some d):P.underlying t=some d:=by
 obtain⟨i,hi,hu⟩:=Ma.1 h;rw[<-hu];exact(ht t i hi).under
theorem yj (ht:aO P tab) (h:WR G O w) {t:TypeId} {x k:MV} {ok:Bool} {u kv:Value} (hv:ie tab O t x k ok=some m) (hx:VR G x u) (hk:VR G k kv):∃r,VR G m r/\∀y,Sx G w y->(Instr.lookup t u kv ok).run P y= .ok r y:=by
 unfold ie at hv;split at hv
 ·rename_i kt et ZA;have hU:=tJ ht ZA;split at hv
  ·rename_i kd te vy oq;have hK:=tJ ht vy
   have cC:∀(es:vx),mapOf O x=some es->∃E:Array MapEntry,ic G es E.toList/\((u= .map none/\E= #[])\/∃r ck,u= .map (some r)/\∀y,Sx G w y->y.heap[r]?=some (.map E ck)):=by
    intro es EI;unfold mapOf at EI;split at EI
    ·injection EI with EI;subst EI
     cases hx;exact⟨#[],ic.nil,.inl ⟨rfl,rfl⟩⟩
    ·rename_i b;split at EI
     ·rename_i Hr ck hb;injection EI with EI;subst EI
      cases hx with
      | map h1=>
        obtain⟨b',E,e1,e2,e3,e4,e5⟩:=h.map _ _ _ hb;rw[h1]at e1;injection e1 with e1;subst e1
        exact⟨E,⟨e3,e4,e5⟩,.inr ⟨_,_,rfl,fun y hy=>(hy.2 _ _ h1).trans e2⟩⟩
     ·cases EI
    ·cases EI
   split at hv
   ·rename_i j m2 tO hf;injection hv with hv;obtain⟨es,h1,h2⟩:=Qm.1 hf;obtain⟨E,hE,ZB⟩:=cC es h1;obtain⟨v,f1,f2,_⟩:=sB hk h2 hE;have uH:=Ae tO hk;refine⟨if ok then .tuple #[v,.bool true]else v,?_,fun y hy=>?_⟩;rotate_left
    ·rcases ZB with⟨rfl,rfl⟩ | ⟨r,ck,rfl,hb⟩
     ·simp only[Instr.lookup,Sem.run_bind,run_underlying hU,Result.andThen_ok,run_checkKey hK uH,run_findKey hK f1,Sem.run_pure]
     ·simp only[Instr.lookup,Sem.run_bind,run_underlying hU,Result.andThen_ok,MapKept.run_getObj_map (hb y hy),run_checkKey hK uH,run_findKey hK f1,Sem.run_pure]
    ·subst hv;cases ok
     ·exact f2
     ·exact VR.tuple (us:=[v,.bool true]) rfl (aQ.cons f2 (aQ.cons (.v rfl) aQ.nil)).2
   ·rename_i tO hf;obtain⟨z,hz,hzm⟩:=Ma.1 hv;obtain⟨es,h1,h2⟩:=Qm.1 hf;obtain⟨E,hE,ZB⟩:=cC es h1;have f1:=sB hk h2 hE;have uH:=Ae tO hk;obtain⟨zv,z1,z2⟩:=ze (ht et te oq) hz;refine⟨if ok then .tuple #[zv,.bool false]else zv,?_,fun y hy=>?_⟩;rotate_left
    ·rcases ZB with⟨rfl,rfl⟩ | ⟨r,ck,rfl,hb⟩
     ·simp only[Instr.lookup,Sem.run_bind,run_underlying hU,Result.andThen_ok,run_checkKey hK uH,run_findKey hK f1,Sem.run_pure,z1]
     ·simp only[Instr.lookup,Sem.run_bind,run_underlying hU,Result.andThen_ok,MapKept.run_getObj_map (hb y hy),run_checkKey hK uH,run_findKey hK f1,Sem.run_pure,z1]
    ·subst hzm;cases ok
     ·exact z2 G
     ·exact VR.tuple (us:=[zv,.bool false]) rfl (aQ.cons (z2 G) (aQ.cons (.v rfl) aQ.nil)).2
   ·cases hv
  ·cases hv
 ·cases hv
theorem Mn (ht:aO P tab) (h:WR G O w) {t:TypeId} {x k:MV} {ok:Bool} {u kv:Value} (hv:ie tab O t x k ok=some m) (hx:VR G x u) (hk:VR G k kv):age P (Instr.lookup t u kv ok) w G m:=by
 obtain⟨r,h1,h2⟩:=yj (P:=P) ht h hv hx hk;exact⟨r,h2 w h.sx,h1⟩
def setAt (es:vx) (i:Nat) (k v:MV):vx:=es.modify i fun e=>(k,v,e.2.2)
def eC (tab:cj) (O:VH) (t:TypeId) (x k y:MV):Option VH:=
 match(tab t).map cL.under,x with
 | some (.map kt _),.map b=>match(tab kt).map cL.under,O.hp b with
   | some kd,some (.map es ck)=>match yi kd k,qq kd k es 0 with
     | true,some (some (i,_))=>some (O.set b (.map (setAt es i k y) ck))
     | true,some none=>some (O.set b (.map (es++[(k,y,ck)]) (ck+1)))
     | _,_=>none
   | _,_=>none
 | _,_=>none
theorem ic.modify {k y:MV} {kv yv:Value} (hk:VR G k kv) (hy:VR G y yv):∀{es:vx} {E:List MapEntry} (i:Nat),ic G es E->ic G (setAt es i k y) (E.modify i fun e=>{e with key:=kv,val:=yv})
 | [],E,i,h=>by rw[h.iQ];simpa[setAt]using ic.nil
 | x::es,E,i,h=>by
   obtain⟨z,E',rfl,h1,h2,h3,h4⟩:=h.eW;cases i with
   | zero=>simp only[setAt,List.modify_zero_cons];exact ic.cons h1 hk hy h4
   | succ i=>
     simp only[setAt,List.modify_succ_cons];exact ic.cons h1 h2 h3 (ic.modify hk hy i h4)
theorem vz (ht:aO P tab) (h:WR G O w) {t:TypeId} {x k y:MV} {u kv yv:Value} (hv:eC tab O t x k y=some O') (hx:VR G x u) (hk:VR G k kv) (hy:VR G y yv):JZ P (Instr.mapUpdate t u kv yv) w G O':=by
 unfold eC at hv;split at hv
 ·rename_i kt et b ZA;have hU:=tJ ht ZA;split at hv
  ·rename_i kd es ck vy hb;have hK:=tJ ht vy;cases hx with
   | map h1=>
     obtain⟨b',E,e1,e2,e3,e4,e5⟩:=h.map _ _ _ hb;rw[h1]at e1;injection e1 with e1;subst e1
     have hE:ic G es E.toList:=⟨e3,e4,e5⟩;split at hv
     ·rename_i i m tO hf;injection hv with hv;subst hv
      obtain⟨v,f1,f2,f3,f4,f5⟩:=sB hk hf hE;have uH:=Ae tO hk;simp only[Nat.sub_zero]at f4 f5;have pC:i<E.size:=by simpa using f5
      have xU:Instr.sameBits 10000 (((E[i]?).map (·.key)).getD kv) kv=true:=by
       rw[ahM pC];simp only[Array.getElem?_toList,ahM pC,agc,Option.some.injEq]at f4;exact f4
      have hr:ic G (setAt es i k y) (E.modify i fun e=>{e with key:=kv,val:=yv}).toList:=by
       have:=ic.modify hk hy i hE
       rwa [<-Array.toList_modify]at this
      refine⟨_,G,?_,Gh.Le.refl G,h.tI (ck':=ck) hb h1 e2 hr⟩;simp only[Instr.mapUpdate,Sem.run_bind,run_underlying hU,Result.andThen_ok,MapKept.run_getObj_map e2,run_checkKey hK uH,run_findKey hK f1];rw[Instr.keyThatStays,if_pos xU];simp only[Sem.run_pure,Result.andThen_ok,run_setObj_map _ e2]
     ·rename_i tO hf;injection hv with hv;subst hv
      have f1:=sB hk hf hE;have uH:=Ae tO hk
      have hr:ic G (es++[(k,y,ck)]) (E.push {key:=kv,val:=yv,born:=ck}).toList:=by
       rw[Array.toList_push];exact hE.append (ic.cons rfl hk hy ic.nil)
      refine⟨_,G,?_,Gh.Le.refl G,h.tI (ck':=ck+1) hb h1 e2 hr⟩;simp only[Instr.mapUpdate,Sem.run_bind,run_underlying hU,Result.andThen_ok,MapKept.run_getObj_map e2,run_checkKey hK uH,run_findKey hK f1,run_setObj_map _ e2]
     ·cases hv
  ·cases hv
 ·cases hv
theorem J7 (h:WR G O w) {t:TypeId}:iw P (Instr.makeMap t none) w G (O.push (.map [] 0)) (.map O.N):=by
 obtain⟨h1,h2⟩:=h.Zz;exact⟨_,_,_,by simp[Instr.makeMap,newObj,Sem.run],h1,h2,.map (aJ _ _ _),j7.alloc h _⟩
end
section
variable {G H:Gh} {n:Sz} {D:List Deferred} {e e':Env} {a:Act} {P:Program} {tab:cj} {O O':VH} {w:World} {m m':MV} {u v:Value}
def fW:List MV->Bool
 | [.v (.pointer none),.sl 0 [] .nil]=>true
 | _=>false
def xp (O:VH) (t:TypeId) (n:Nat) (z:List MV):VH:=bif fW z then(O.push (.cells z)).push (.shape O.N t n)else O.push (.cells z)
theorem WR.EJ (h:WR G O w) {k b:Nat} {t:TypeId} {s:Nat} (hp:G.bW k=some b) (hs:w.shape? b=some (t,s)):WR G (O.push (.shape k t s)) w:=by
 have hne:∀{j x},bH O.hp O.N (some (.shape k t s)) j=some x->(∀k t n,x≠ .shape k t n)->O.hp j=some x:=fun{j x} hj hx=>by
  by_cases e:j=O.N
  ·subst e;rw[aJ]at hj;injection hj with hj;exact absurd hj.symm (hx _ _ _)
  ·rwa [ay _ _ e]at hj
 have kK:∀j b,G.bW j=some b->bH O.hp O.N (some (.shape k t s)) j≠none->O.hp j≠none:=fun j b hj hn=>by
  rwa [ay _ _ (fun e=>by subst e;rw[h.m6.1]at hj;cases hj)]at hn
 refine⟨h.base,h.eN,fun j hj=>?_,fun j c hj=>?_,fun i j c li lj hi hj=>h.inj i j c (kK i c hi li) (kK j c hj lj) hi hj,fun j cs hj=>h.cells j cs (hne hj (by simp)),fun j es ck hj=>h.map j es ck (hne hj (by simp)),fun t ht=>h.tok t (hne ht (by simp)),fun s t c x y hs ht=>h.l_ s t c x y (hne hs (by simp)) (hne ht (by simp)),fun j k' t' n' hj=>?_,fun j x hj=>h.obj j x (hne hj (by simp)),h.rz,fun k p hk=>h.BU k p (hne hk (by simp))⟩
 ·have hj:O.N+1<=j:=hj;obtain⟨h1,h2,h3⟩:=h.qm j (by omega);exact⟨h1,h2,by show bH _ _ _ _=_;rw[ay _ _ (by omega)];exact h3⟩
 ·obtain⟨p1,p2,p3⟩:=h.kJ j c hj;exact⟨p1,p2,fun hn=>p3 (kK j c hj hn)⟩
 ·have hj:bH O.hp O.N (some (.shape k t s)) j=some (.shape k' t' n'):=hj;by_cases e:j=O.N
  ·subst e;rw[aJ]at hj;injection hj with hj;injection hj with e1 e2 e3;subst e1;subst e2;subst e3;exact⟨b,hp,hs⟩
  ·rw[ay _ _ e]at hj;exact h.oV j k' t' n' hj
def jk (tab:cj) (o:Oper) (e:Env) (O:VH):Option (MV×VH):=
 match o.op with
 | .load t x=>(ev e x).bind fun p=>(ft tab O t p).map (·,O)
 | .store t x y=>match ev e x,ev e y with
   | some p,some q=>(xd tab O t p q).map (.tuple [], ·)
   | _,_=>none
 | .box _ x=>(ev e x).map fun p=>(.ptr O.N 0,O.push (.cells (eg p)))
 | .alloc t=>(tab t).map fun i=>(.ptr O.N 0,xp O t i.size i.zero)
 | .buildSlice t len parts=>match gh e (parts.toList.map (·.2))with
   | some ms=>(lK tab t len (gP parts ms)).map (·,O)
   | none=>none
 | .makeSlice t l c=>match ev e l,ev e c with
   | some p,some q=>m_ tab O t p q
   | _,_=>none
 | .call c=>match c.callee,c.args.toList,c.argTypes.toList with
   | .builtin .append,[x,y],[t,t']=>if t=t' then match ev e x,ev e y with
     | some p,some q=>iy tab O t p q
     | _,_=>none
     else none
   | .builtin .len,[x],[t]=>(ev e x).bind fun p=>(qo tab O t p).map (·,O)
   | _,_,_=>none
 | .makeMap _ none=>some (.map O.N,O.push (.map [] 0))
 | .lookup t x k ok=>match ev e x,ev e k with
   | some p,some q=>(ie tab O t p q ok).map (·,O)
   | _,_=>none
 | .mapUpdate t x k y=>match ev e x,ev e k,ev e y with
   | some p,some q,some r=>(eC tab O t p q r).map (.tuple [], ·)
   | _,_,_=>none
 | .insert t x k y=>match ev e x,ev e k,ev e y with
   | some p,some q,some r=>(eC tab O t p q r).map (.tuple [], ·)
   | _,_,_=>none
 | _=>none
def Hs:Op->Bool
 | .store .. | .mapUpdate .. | .insert .. =>false
 | .call c=>match c.callee with
   | .builtin _=>true
   | _=>false
 | _=>true
def dU (P:Program) (o:Oper) (a:Act) (w:World) (G:Gh) (m:MV) (O':VH):Prop:=
 ∃nx w' H u,(execOp a.eval o).run P w= .ok nx w'/\(nx= .value u\/(nx= .skip/\u=undef))/\Gh.Le G H/\WR H O' w'/\VR H m u/\(Hs o.op=true->j7 G w w')
theorem dU.of {o:Oper} {s:Sem Value} (hs:iw P s w G O' m) (he:execOp a.eval o=(do pure (.value (<-s)))):dU P o a w G m O':=by
 obtain⟨u,w',H,hr,h1,h2,h3,h4⟩:=hs;exact⟨.value u,w',H,u,by rw[he,Sem.run_bind,hr];rfl,.inl rfl,h1,h2,h3,fun _=>h4⟩
theorem dU.ofU {o:Oper} {s:Sem Unit} (hs:JZ P s w G O') (hA:Hs o.op=false) (he:execOp a.eval o=(do s;pure .skip)):dU P o a w G (.tuple []) O':=by
 obtain⟨w',H,hr,h1,h2⟩:=hs;exact⟨.skip,w',H,undef,by rw[he,Sem.run_bind,hr];rfl,.inr ⟨rfl,rfl⟩,h1,h2,VR.tuple (us:=[]) rfl (fun i c u h=>by simp at h),fun h=>by rw[hA]at h;cases h⟩
theorem Vw (ht:aO P tab) (hw:WR G O w) (h:FR G n D e a) {o:Oper} (hv:jk tab o e O=some (m,O')):dU P o a w G m O':=by
 unfold jk at hv;split at hv
 ·rename_i t x ho;obtain⟨p,h1,h2⟩:=Qm.1 hv;obtain⟨q,h3,h4⟩:=Ma.1 h2;simp only[Prod.mk.injEq]at h4;obtain⟨rfl,rfl⟩:=h4;exact dU.of (Ie ht hw h3 (h.ev h1)) (by simp[execOp,ho])
 ·rename_i t x y ho;split at hv
  ·rename_i p q h1 h2;obtain⟨O2,h3,h4⟩:=Ma.1 hv;simp only[Prod.mk.injEq]at h4;obtain⟨rfl,rfl⟩:=h4;exact dU.ofU (Qs ht hw h3 (h.ev h1) (h.ev h2)) (by rw[ho];rfl) (by simp[execOp,ho])
  ·cases hv
 ·rename_i t x ho;obtain⟨p,h1,h2⟩:=Ma.1 hv;simp only[Prod.mk.injEq]at h2;obtain⟨rfl,rfl⟩:=h2;exact dU.of (Zu (t:=t) hw (h.ev h1)) (by simp[execOp,ho])
 ·rename_i t ho;obtain⟨i,h1,h2⟩:=Ma.1 hv;simp only[Prod.mk.injEq]at h2;obtain⟨rfl,rfl⟩:=h2;obtain⟨z,DC,tG,Hp⟩:=Ib (ht t i h1) w
  have hr:(Instr.alloc t true (.tuple #[])).run P w= .ok (.pointer (some ⟨w.heap.size,0,none⟩)) (w.alloc (.cells z.cells t)):=by
   simp only[Instr.alloc,Sem.run_bind,DC,Result.andThen_ok];simp[newVar,newRow,newObj,Sem.run]
  obtain⟨g1,g2⟩:=hw.push t (Hp G);refine dU.of (s:=Instr.alloc t true (.tuple #[])) ⟨_,_,_,hr,g1,?_,.ptr (aJ _ _ _),j7.alloc hw _⟩ (by simp[execOp,ho]);unfold xp;cases fW i.zero with
  | false=>exact g2
  | true=>
    refine g2.EJ (aJ _ _ _) ?_;have:(w.alloc (.cells z.cells t)).heap[w.heap.size]?=some (.cells z.cells t):=by rw[fE,if_pos rfl]
    simp only[World.shape?,this,tG]
 ·rename_i t len parts ho;split at hv
  ·rename_i ms h1;obtain⟨p,h2,h3⟩:=Ma.1 hv;simp only[Prod.mk.injEq]at h3;obtain⟨rfl,rfl⟩:=h3;have vv:ms.length=parts.toList.length:=by simpa using CN h1
   refine dU.of (uF ht hw h2 (ps:=parts.map fun(i,x)=>(i,a.eval x)) ?_ ?_) (by simp[execOp,ho])
   ·rw[zip_fst parts ms vv,EG]
   ·rw[Ml parts ms vv,EH];exact h.gh h1
  ·cases hv
 ·rename_i t l c ho;split at hv
  ·rename_i p q h1 h2;exact dU.of (EC ht hw hv (h.ev h1) (h.ev h2)) (by simp[execOp,ho])
  ·cases hv
 ·rename_i c ho;split at hv
  ·rename_i x y t t' hc iK Mm;split at hv
   ·rename_i Ht;subst Ht;split at hv
    ·rename_i p q h1 h2;have ha:c.args= #[x,y]:=by apply adY;exact iK
     have fP:c.argTypes= #[t,t]:=by apply adY;exact Mm
     exact dU.of (Mi (ty:=o.type) ht hw hv (h.ev h1) (h.ev h2)) (by simp[execOp,ho,resolve,hc,ha,fP,invoke,builtin])
    ·cases hv
   ·cases hv
  ·rename_i x t hc iK Mm;obtain⟨p,h1,h2⟩:=Qm.1 hv;obtain⟨q,h3,h4⟩:=Ma.1 h2;simp only[Prod.mk.injEq]at h4;obtain⟨rfl,rfl⟩:=h4;have ha:c.args= #[x]:=by apply adY;exact iK
   have fP:c.argTypes= #[t]:=by apply adY;exact Mm
   exact dU.of (Mf (ty:=o.type) ht hw h3 (h.ev h1)) (by simp[execOp,ho,resolve,hc,ha,fP,invoke,builtin])
  ·cases hv
 ·rename_i t ho;simp only[Option.some.injEq,Prod.mk.injEq]at hv;obtain⟨rfl,rfl⟩:=hv;exact dU.of (J7 (t:=t) hw) (by simp[execOp,ho])
 ·rename_i t x k ok ho;split at hv
  ·rename_i p q h1 h2;obtain⟨r,h3,h4⟩:=Ma.1 hv;simp only[Prod.mk.injEq]at h4;obtain⟨rfl,rfl⟩:=h4;obtain⟨z,g1,g2⟩:=Mn (P:=P) ht hw h3 (h.ev h1) (h.ev h2);exact dU.of (iw.of hw g1 g2) (by simp[execOp,ho])
  ·cases hv
 ·rename_i t x k y ho;split at hv
  ·rename_i p q r h1 h2 h3;obtain⟨O2,h4,h5⟩:=Ma.1 hv;simp only[Prod.mk.injEq]at h5;obtain⟨rfl,rfl⟩:=h5;exact dU.ofU (vz ht hw h4 (h.ev h1) (h.ev h2) (h.ev h3)) (by rw[ho];rfl) (by simp[execOp,ho])
  ·cases hv
 ·rename_i t x k y ho;split at hv
  ·rename_i p q r h1 h2 h3;obtain⟨O2,h4,h5⟩:=Ma.1 hv;simp only[Prod.mk.injEq]at h5;obtain⟨rfl,rfl⟩:=h5;exact dU.ofU (vz ht hw h4 (h.ev h1) (h.ev h2) (h.ev h3)) (by rw[ho];rfl) (by simp[execOp,ho])
  ·cases hv
 ·cases hv
def dD (tab:cj) (o:Oper) (e:Env) (O:VH):Option (MV×VH):=
 match eX tab o e with
 | some m=>some (m,O)
 | none=>jk tab o e O
theorem Ee (ht:aO P tab) (hw:WR G O w) (h:FR G n D e a) {o:Oper} (hv:dD tab o e O=some (m,O')):dU P o a w G m O':=by
 unfold dD at hv;split at hv
 ·rename_i p hp;simp only[Option.some.injEq,Prod.mk.injEq]at hv;obtain⟨rfl,rfl⟩:=hv;obtain⟨u,hu,hr⟩:=vu (P:=P) ht h hp;exact⟨.value u,w,G,u,hr w hw.ss,.inl rfl,Gh.Le.refl G,hw,hu,fun _=>j7.refl _ _⟩
 ·exact Vw ht hw h hv
inductive VX where
 | normal | exit (id:Nat) | goto (l:Nat) | ret | panic (m:MV)
def XR (G:Gh):VX->Exit->Prop
 | .normal,.normal=>True
 | .exit i,.exit j=>i=j
 | .goto i,.goto j=>i=j
 | .ret,.ret=>True
 | .panic m,.panic c=>∃u,c=[{v:=u,recovered:=false}]/\VR G m u
 | _,_=>False
abbrev VQ:=VX->Env->VH->Prop
def FRX (G:Gh) (n:Sz) (D:List Deferred):VX->Env->Act->Prop
 | .panic _,e,a=>(∀t x,look e t=some x->t<n.lo)/\FR G n D e a
 | _,e,a=>FR G n D e a
def cM (G:Gh) (n:Sz) (D:List Deferred) (Q:VQ):Exit->Act->World->Prop:=fun y a w=>∃x e O H,Gh.Le G H/\WR H O w/\FRX H n D x e a/\XR H x y/\Q x e O
theorem cM.le (h:G.Le H) {Q:VQ} {y:Exit} (hp:cM H n D Q y a w):cM G n D Q y a w:=by
 obtain⟨x,e,O,K,h1,h2⟩:=hp;exact⟨x,e,O,K,h.trans h1,h2⟩
theorem cM.mono {Q Q':VQ} (hQ:∀x e O,Q x e O->Q' x e O) {y:Exit} (hp:cM G n D Q y a w):cM G n D Q' y a w:=by
 obtain⟨x,e,O,K,h1,h2,h3,h4,h5⟩:=hp;exact⟨x,e,O,K,h1,h2,h3,h4,hQ _ _ _ h5⟩
theorem EK:∀t x,look (k_ n e) t=some x->t<n.lo:=fun t x hx=>by
 rw[yS]at hx;split at hx
 ·assumption
 ·cases hx
theorem B0:∀t x,look (k_ n e) t=some x->look e t=some x:=fun t x hx=>by
 rw[yS]at hx;split at hx
 ·exact hx
 ·cases hx
def iU (P:Program) (n:Sz) (D:List Deferred) (ops:Array Oper) (l:List Nat) (e:Env) (O:VH) (Q:VQ):Prop:=
 ∀G a w,WR G O w->FR G n D e a->wpOps P ops (cM G n D Q) l a w
def VC (P:Program) (n:Sz) (D:List Deferred) (c:Code) (e:Env) (O:VH) (Q:VQ):Prop:=
 ∀G a w,WR G O w->FR G n D e a->c.wp P (cM G n D Q) a w
def aZ (d:Option Tmp) (m:MV) (e:Env):Env:=match d with
 | some d=>(d,m)::e
 | none=>e
def bC (n:Sz) (d:Option Tmp):Bool:=match d with
 | some d=>decide (n.lo<=d)&&decide (d<n.n)
 | none=>true
theorem FR.aZ (h:FR G n D e a) {d:Option Tmp} (hd:bC n d=true) (hu:VR G m u):FR G n D (aZ d m e) (a.put d u):=by
 cases d with
 | none=>exact h
 | some d=>exact FR.put h (by simp[bC]at hd;exact hd.2) hu
def aN (ops:Array Oper) (o:Oper) (e:Env):Option Bool:=
 match o.guard with
 | none=>some true
 | some (j,want)=>match(ops[j]?).bind (·.dst)with
   | some d=>match look e d with
     | some (.v (.bool b))=>some (b==want)
     | some (.tuple [])=>some false
     | _=>none
   | none=>none
theorem bA (h:FR G n D e a) {ops:Array Oper} {o:Oper} {b:Bool} (hv:aN ops o e=some b):Region.wanted o (yielded ops a.tmps)=b:=by
 unfold aN at hv;unfold Region.wanted;split at hv
 ·rename_i hg;injection hv with hv;rw[hg, <-hv]
 ·rename_i j want hg;rw[hg];split at hv
  ·rename_i d hd;split at hv
   ·rename_i b' hl;injection hv with hv;obtain⟨u,h1,h2⟩:=h.get d _ hl;have:=h2.jj;subst this;simp only[yielded,hd,ahO,h1];rw[<-hv];cases b'<;>cases want<;>rfl
   ·rename_i hl;injection hv with hv;obtain⟨u,h1,h2⟩:=h.get d _ hl;cases h2 with
    | tuple _ _=>
      simp only[yielded,hd,ahO,h1];rw[<-hv];rfl
   ·cases hv
  ·cases hv
def cT:MV:=.tuple []
theorem lL:VR G cT undef:=VR.tuple (us:=[]) rfl fun i c u h=>by simp at h
theorem iU.nil {ops:Array Oper} {Q:VQ} (h:Q .normal e O):iU P n D ops [] e O Q:=fun G a w hw hf=>⟨.normal,e,O,G,Gh.Le.refl G,hw,hf,trivial,h⟩
theorem mQ {ops:Array Oper} {Q Q':Exit->Act->World->Prop} (hQ:∀y a w,Q y a w->Q' y a w):∀(l:List Nat) (a:Act) (w:World),wpOps P ops Q l a w->wpOps P ops Q' l a w:=by
 intro l;induction l with
 | nil=>intro a w h;exact hQ _ _ _ h
 | cons i rest ih=>
   intro a w h;rw[wpOps_cons]at h ⊢;have h1:=wpOp_mono (K':=wpOps P ops Q' rest) ih h;unfold wpOp at h1 ⊢;split
   ·rename_i ho;simp only[ho]at h1;exact h1
   ·rename_i o ho;simp only[ho]at h1;split
    ·rename_i sC;simp only[sC,if_true]at h1;refine h1.imp (fun h2=>?_) (fun⟨h2,a',w',h3⟩=>⟨h2,a',w',hQ _ _ _ h3⟩);unfold Oper.wp at h2 ⊢;generalize (execOp a.eval o).run P w=r at*;cases r with
     | ok nx w'=>
       cases nx<;>simp only[Oper.upon]at h2 ⊢ <;>first
        | exact h2
        | (refine Calls.mono h2 fun x Hu he=>?_
           cases x with
           | returned v=>exact he
           | panicked c=>exact hQ _ _ _ he
           | outgrown=>obtain⟨a',w',h3⟩:=he;exact⟨a',w',hQ _ _ _ h3⟩)
     | halt x w'=>cases x<;>simp only[Oper.upon]at h2 ⊢ <;>first | exact h2 | exact hQ _ _ _ h2
    ·rename_i sC;simp only[sC]at h1;exact h1
theorem iU.step (ht:aO P tab) {ops:Array Oper} {i:Nat} {l:List Nat} {o:Oper} {Q:VQ} (ho:ops[i]?=some o) (hg:aN ops o e=some true) (hv:dD tab o e O=some (m,O')) (hd:bC n o.dst=true)
  (h:iU P n D ops l (aZ o.dst m e) O' Q):iU P n D ops (i::l) e O Q:=by
 intro G a w hw hf;obtain⟨nx,w',H,u,hr,tQ,h1,h2,h3,_⟩:=Ee (P:=P) ht hw hf hv;simp only[wpOps,ho,bA hf hg,if_true];refine .inl ?_;unfold Oper.wp;rw[hr]
 have hk:wpOps P ops (cM G n D Q) l (a.put o.dst u) w':=by
  exact mQ (fun _ _ _=>cM.le h1) l _ _ (h H (a.put o.dst u) w' h2 ((hf.mono h1).aZ hd h3))
 rcases tQ with rfl | ⟨rfl,rfl⟩
 ·exact hk
 ·exact hk
theorem iU.skip {ops:Array Oper} {i:Nat} {l:List Nat} {o:Oper} {Q:VQ} (ho:ops[i]?=some o) (hg:aN ops o e=some false) (hd:bC n o.dst=true)
  (h:iU P n D ops l (aZ o.dst cT e) O Q):iU P n D ops (i::l) e O Q:=by
 intro G a w hw hf;simp only[wpOps,ho,bA hf hg,Zj,if_false];exact h G _ w hw (hf.aZ hd lL)
inductive gC where
 | ret (m:MV) | panic (m:MV)
def ER (G:Gh):gC->Ending->Prop
 | .ret m,.returned v=>VR G m v
 | .panic m,.panicked c=>∃u,c=[{v:=u,recovered:=false}]/\VR G m u
 | _,_=>False
def VF (P:Program) (f:FuncId) (args:List MV) (O:VH) (R:gC->VH->Prop):Prop:=
 ∀G w vs,WR G O w->aQ G args vs->Calls P f vs.toArray w fun x w'=>∃r O' H,Gh.Le G H/\WR H O' w'/\ER H r x/\R r O'
theorem VF.mono {f:FuncId} {args:List MV} {R R':gC->VH->Prop} (hR:∀r O,R r O->R' r O) (h:VF P f args O R):VF P f args O R':=
 fun G w vs hw hv=>(h G w vs hw hv).mono fun _ _ ⟨r,O',H,h1,h2,h3,h4⟩=>⟨r,O',H,h1,h2,h3,hR _ _ h4⟩
def Enters (P:Program) (f:FuncId):Prop:=∀args w,(callFunc f args).run P w= .ok (.enter f args) w
theorem Enters.of {f:FuncId} {fn:Func} (hf:P.funcs[f]?=some fn) (hn:(fn.name== "runtime.NumGoroutine")=false) (hb:fn.body.isNone=false):Enters P f:=by
 intro args w;have ZC:fn.name≠ "runtime.NumGoroutine" :=by simpa using hn
 have nC:fn.body≠none:=by intro h;rw[h]at hb;cases hb
 simp[callFunc,program,Sem.run,hf,ZC,nC]
theorem iU.call {ops:Array Oper} {i:Nat} {l:List Nat} {o:Oper} {Q:VQ} {c:Call} {f:Operand} {id:FuncId} {fs ms cs:List MV} {R:gC->VH->Prop} (ho:ops[i]?=some o) (hg:aN ops o e=some true) (vA:o.op= .call c) (hc:c.callee= .value f)
  (hf:ev e f=some (.func (.func id) fs cs)) (hm:gh e c.args.toList=some ms) (hE:Enters P id) (hd:bC n o.dst=true) (hR:VF P id (fs++ms++cs) O R)
  (h:∀r O',R r O'->match r with
   | .ret m=>iU P n D ops l (aZ o.dst m e) O' Q
   | .panic m=>Q (.panic m) (k_ n e) O'):iU P n D ops (i::l) e O Q:=by
 intro G a w hw aW;have vB:=aW.ev hf;generalize Af:a.eval f=fv at vB;cases vB with
 | func h1 h2 h3 h4=>
   rename_i us vs;have iK:=aW.gh hm;have jV:=aQ.append (aQ.append (show aQ G fs us from⟨h1,h2⟩) iK) (show aQ G cs vs from⟨h3,h4⟩)
   have cC:(execOp a.eval o).run P w= .ok (.enter id (us++c.args.toList.map a.eval++vs).toArray) w:=by
    have ha:c.args.map a.eval=(c.args.toList.map a.eval).toArray:=by apply adY;simp
    have:us.toArray++c.args.map a.eval++vs.toArray=(us++c.args.toList.map a.eval++vs).toArray:=by apply adY;simp[ha]
    simp only[execOp,vA,resolve,hc,Af,Deferred.ofValue,Sem.run_bind,Sem.run_pure,Result.andThen_ok,invoke,hE _ w];rw[this]
   simp only[wpOps,ho,bA aW hg,if_true];refine .inl ?_;unfold Oper.wp;rw[cC];show Calls P id _ w _;refine(hR G w _ hw jV).mono ?_;rintro x w' ⟨r,O',H,g1,g2,g3,g4⟩;have hk:=h r O' g4;cases r with
   | ret m=>
     cases x with
     | returned v=>exact mQ (fun _ _ _=>cM.le g1) l _ _ (hk H _ w' g2 ((aW.mono g1).aZ hd g3))
     | panicked c=>exact g3.elim
     | outgrown=>exact g3.elim
   | panic m=>
     cases x with
     | returned v=>exact g3.elim
     | panicked c=>exact⟨.panic m,k_ n e,O',H,g1,g2,⟨EK,(aW.mono g1).less B0⟩,g3,hk⟩
     | outgrown=>exact g3.elim
theorem VC.mono {c:Code} {Q Q':VQ} (hQ:∀x e O,Q x e O->Q' x e O) (h:VC P n D c e O Q):VC P n D c e O Q':=
 fun G a w hw hf=>wp_mono (h G a w hw hf) fun _ _ _=>cM.mono hQ
theorem VC.env {c:Code} {Q:VQ} (h:VC P n D c e' O Q) (hl:∀t x,look e' t=some x->look e t=some x):VC P n D c e O Q:=
 fun G a w hw hf=>h G a w hw (hf.less hl)
theorem VC.skip {Q:VQ} (h:Q .normal e O):VC P n D .skip e O Q:=fun G a w hw hf=>wp_skip ⟨.normal,e,O,G,Gh.Le.refl G,hw,hf,trivial,h⟩
theorem VC.exit {Q:VQ} {id:Nat} (h:Q (.exit id) e O):VC P n D (.exit id) e O Q:=fun G a w hw hf=>wp_exit ⟨.exit id,e,O,G,Gh.Le.refl G,hw,hf,rfl,h⟩
theorem VC.label {Q:VQ} {l:Nat} (h:Q .normal e O):VC P n D (.label l) e O Q:=fun G a w hw hf=>wp_label ⟨.normal,e,O,G,Gh.Le.refl G,hw,hf,trivial,h⟩
def tR (Q:VQ):VQ:=fun x e O=>match x with
 | .goto _=>False
 | x=>Q x e O
theorem VC.scope {c:Code} {Q:VQ} (h:VC P n D c e O (tR Q)):VC P n D (.scope c) e O Q:=by
 intro G a w hw hf;refine wp_scope_straight (wp_mono (h G a w hw hf) ?_);rintro y a' w' ⟨x,e',O',H,h1,h2,h3,h4,h5⟩
 cases y<;>cases x<;>first
  | exact False.elim h4
  | exact h5.elim
  | exact⟨_,e',O',H,h1,h2,h3,h4,h5⟩
theorem VC.ret {Q:VQ} (h:Q .ret e O):VC P n D .ret e O Q:=fun G a w hw hf=>wp_ret ⟨.ret,e,O,G,Gh.Le.refl G,hw,hf,trivial,h⟩
theorem VC.seq {c d:Code} {Q:VQ} (h:VC P n D c e O fun x e O=>match x with
  | .normal=>VC P n D d e O Q
  | x=>Q x e O):VC P n D (.seq c d) e O Q:=by
 intro G a w hw hf;refine wp_seq (wp_mono (h G a w hw hf) ?_);rintro y a' w' ⟨x,e',O',H,h1,h2,h3,h4,h5⟩
 cases y<;>cases x<;>first
  | exact False.elim h4
  | exact wp_mono (h5 H a' w' h2 h3) fun _ _ _=>cM.le h1
  | exact⟨_,e',O',H,h1,h2,h3,h4,h5⟩
theorem VC.cond {c:Operand} {x y:Code} {t:Bool} {Q:VQ} (hc:ev e c=some (.v (.bool t))) (h1:t=true->VC P n D x e O Q) (h2:t=false->VC P n D y e O Q):VC P n D (.cond c x y) e O Q:=by
 intro G a w hw hf;have Hq:a.eval c= .bool t:=(hf.ev hc).jj;exact wp_cond_split Hq (fun ht=>h1 ht G a w hw hf) (fun ht=>h2 ht G a w hw hf)
theorem VC.block {c:Code} {id:Nat} {Q:VQ} (h:VC P n D c e O fun x e O=>match x with
  | .exit i=>if i=id then Q .normal e O else Q (.exit i) e O
  | x=>Q x e O):VC P n D (.block id c) e O Q:=by
 intro G a w hw hf;refine wp_block (wp_mono (h G a w hw hf) ?_);rintro y a' w' ⟨x,e',O',H,h1,h2,h3,h4,h5⟩;cases y with
 | exit j=>
   cases x with
   | exit i=>
     obtain rfl:i=j:=h4;simp only[Exit.inBlock];simp only at h5;split
     ·rename_i hi;rw[if_pos hi]at h5;exact⟨.normal,e',O',H,h1,h2,h3,trivial,h5⟩
     ·rename_i hi;rw[if_neg hi]at h5;exact⟨.exit i,e',O',H,h1,h2,h3,rfl,h5⟩
   | _=>exact False.elim h4
 | _=>cases x<;>first
   | exact False.elim h4
   | exact⟨_,e',O',H,h1,h2,h3,h4,h5⟩
theorem tS {c:Code} {Q Q':Exit->Act->World->Prop} (hQ:∀y a w,Q y a w->Q' y a w):∀(k:Nat) (a:Act) (w:World),Code.rounds P c Q k a w->Code.rounds P c Q' k a w
 | 0,_,_,h=>h.elim
 | k+1,a,w,h=>by
   rw[rounds_succ]at h ⊢;refine wp_mono h fun y a' w' hy=>?_
   cases y<;>first
    | exact tS hQ k a' w' hy
    | exact hQ _ _ _ hy
theorem zf {c:Code} {Q:Exit->Act->World->Prop}:∀(k j:Nat) (a:Act) (w:World),k<=j->Code.rounds P c Q k a w->Code.rounds P c Q j a w
 | 0,_,_,_,_,h=>h.elim
 | k+1,0,_,_,hj,_=>absurd hj (by omega)
 | k+1,j+1,a,w,hj,h=>by
   rw[rounds_succ]at h ⊢;refine wp_mono h fun y a' w' hy=>?_
   cases y<;>first
    | exact zf k j a' w' (by omega) hy
    | exact hy
theorem VC.loop {c:Code} {Q:VQ} (I:Nat->Env->VH->Prop) {k:Nat} (h0:I k e O) (h:∀k e O,I k e O->VC P n D c e O fun x e' O'=>match x with
  | .normal=>∃j,j<k/\I j e' O'
  | x=>Q x e' O'):VC P n D (.loop c) e O Q:=by
 intro G a w hw hf;refine wp_loop_rounds (k+1) ?_;induction k using Nat.strongRecOn generalizing e O G a w with
 | _ k ih=>
   rw[rounds_succ];refine wp_mono (h k e O h0 G a w hw hf) ?_;rintro y a' w' ⟨x,e',O',H,h1,h2,h3,h4,h5⟩
   cases y<;>cases x<;>first
    | exact False.elim h4
    | exact⟨_,e',O',H,h1,h2,h3,h4,h5⟩
    | (obtain⟨j,hj,hI⟩:=h5
       exact zf (j+1) k a' w' (by omega) (tS (fun _ _ _=>cM.le h1) _ _ _ (ih j hj hI H a' w' h2 h3)))
theorem VC.region {id:Nat} {ops:Array Oper} {Q:VQ} (h:iU P n D ops (List.range ops.size) e O Q):VC P n D (.region id ops false) e O Q:=
 fun G a w hw hf=>wp_region (h G a w hw hf)
def kz (tab:cj) (e:Env) (O:VH):ResultVar->Option MV
 | .tmp t=>look e t
 | .cell x t=>(look e x).bind (ft tab O t)
def dJ (tab:cj) (fn:Func) (e:Env) (O:VH):Option MV:=
 match fn.results.toList.mapM (kz tab e O)with
 | some [m]=>some m
 | some l=>some (.tuple l)
 | none=>none
def Ag (tmps:Array Value):ResultVar->Sem Value
 | .tmp t=>pure (tmps.getD t undef)
 | .cell x t=>do loadVar t (<-asAddr (tmps.getD x undef))
theorem Mo (fn:Func) (tmps:Array Value):results fn tmps=(do let vs<-fn.results.mapM (Ag tmps);pure (if h:vs.size=1 then vs[0]else .tuple vs)):=by
 unfold results
 congr 1
theorem CO (ht:aO P tab) (hw:WR G O w) (hf:FR G n D e a):∀(l:List ResultVar) (ms:List MV),l.mapM (kz tab e O)=some ms->
  ∃us,(l.mapM (Ag a.tmps)).run P w= .ok us w/\aQ G ms us
 | [],ms,h=>by simp at h;subst h;exact⟨[],rfl,aQ.nil⟩
 | r::l,ms,h=>by
   simp only[ahK,ahJ,Qm]at h;obtain⟨m,h1,Zr,h2,h3⟩:=h;injection h3 with h3;subst h3
   obtain⟨us,h4,h5⟩:=CO ht hw hf l Zr h2
   have one:∃u,(Ag a.tmps r).run P w= .ok u w/\VR G m u:=by
    cases r with
    | tmp t=>exact⟨_,rfl,hf.ev (x:=.tmp t) h1⟩
    | cell x t=>
      obtain⟨p,h6,h7⟩:=Qm.1 h1;have hp:VR G p (a.tmps.getD x undef):=hf.ev (x:=.tmp x) h6;simp only[Ag];generalize a.tmps.getD x undef=pv at hp ⊢
      have ad2:∃ad,pv= .pointer (some ad):=by
       have hc:∃cs off,cellsOf O p=some (cs,off):=by
        unfold ft at h7;split at h7
        ·exact⟨_,_, ‹_›⟩
        ·cases h7
       obtain⟨cs,off,hc⟩:=hc;obtain⟨b,o,_,rfl,_⟩:=Me hw hp hc;exact⟨_,rfl⟩
      obtain⟨ad,rfl⟩:=ad2;obtain⟨u,g1,g2⟩:=Ey (P:=P) ht hw h7 hp;refine⟨u,?_,g2⟩;simp only[asAddr,Sem.run_bind,Sem.run_pure,Result.andThen_ok];simpa[Instr.loadAt,Instr.sureAddr]using g1
   obtain⟨u,g1,g2⟩:=one;refine⟨u::us,?_,aQ.cons g2 h5⟩;rw[ahK,Sem.run_bind,g1,Result.andThen_ok,Sem.run_bind,h4];rfl
theorem lM (ht:aO P tab) (hw:WR G O w) (hf:FR G n D e a) {fn:Func} (h:dJ tab fn e O=some m):∃u,(results fn a.tmps).run P w= .ok u w/\VR G m u:=by
 have Ii:∀ms,fn.results.toList.mapM (kz tab e O)=some ms->∃us,(fn.results.mapM (Ag a.tmps)).run P w= .ok us.toArray w/\aQ G ms us:=fun ms hm=>by
  obtain⟨us,h1,h2⟩:=CO (P:=P) ht hw hf _ ms hm;refine⟨us,?_,h2⟩;rw[am5, <-bind_pure_comp,Sem.run_bind,h1];rfl
 unfold dJ at h;rw[Mo];split at h
 ·rename_i p hp;injection h with h;subst h
  obtain⟨us,h1,h2⟩:=Ii _ hp;obtain⟨u,Vr,rfl,h3,h4⟩:=h2.eW;rw[h4.iQ]at h1;exact⟨u,by rw[Sem.run_bind,h1];rfl,h3⟩
 ·rename_i l hl hp;injection h with h;subst h
  obtain⟨us,h1,h2⟩:=Ii _ hp
  have hne:us.length≠1:=fun h5=>by
   have:=h2.1;rw[h5]at this
   match l,this with
   | [x],_=>exact hl x rfl
  refine⟨.tuple us.toArray,?_,.tuple h2.1 h2.2⟩;rw[Sem.run_bind,h1,Result.andThen_ok];simp[hne]
 ·cases h
def cK:Nat->List MV->Env
 | _,[]=>[]
 | k,m::l=>(k,m)::cK (k+1) l
theorem iV:∀(l:List MV) (k t:Nat),look (cK k l) t=if k<=t then l[t - k]? else none
 | [],k,t=>by simp[cK,look]
 | m::l,k,t=>by
   simp only[cK,look];by_cases e:t=k
   ·subst e;simp
   ·have:(t==k)=false:=by simpa using e
    rw[this,cond_false,iV l (k+1) t];by_cases h:k<=t
    ·rw[if_pos h,if_pos (by omega)];obtain⟨j,hj⟩:∃j,t - k=j+1:=⟨t - k - 1,by omega⟩
     rw[hj,show t - (k+1)=j from by omega];rfl
    ·rw[if_neg h,if_neg (by omega)]
theorem VF.enter (ht:aO P tab) {f:FuncId} {fn:Func} {c:Code} {args:List MV} {R:gC->VH->Prop} (hf:P.funcs[f]?=some fn) (hb:fn.body=some c) (hn:args.length<=fn.ntmps)
  (h:VC P ⟨fn.ntmps,0⟩ [] c (cK 0 args) O fun x e O'=>match x with
   | .normal=>∃m,dJ tab fn e O'=some m/\R (.ret m) O'
   | .ret=>∃m,dJ tab fn e O'=some m/\R (.ret m) O'
   | .panic m=>R (.panic m) O'
   | _=>False):VF P f args O R:=by
 intro G w vs hw hv;refine calls_of_wp hf hb ?_
 have aW:FR G ⟨fn.ntmps,0⟩ [] (cK 0 args) {tmps:=vs.toArray++Array.replicate (fn.ntmps - vs.toArray.size) undef,defers:=[]}:=by
  have hl:=hv.1;refine⟨rfl,by simp;omega,fun t x hx=>?_⟩;rw[iV,if_pos (ahN _),Nat.sub_zero]at hx;obtain⟨u,h1,h2⟩:=hv.get hx;refine⟨u,?_,h2⟩;have eh:=(Zk.1 h1).1;rw[al_ (by simpa using eh)];simpa using h1
 refine wp_mono (h G _ w hw aW) ?_;rintro y a' w' ⟨x,e',O',H,h1,h2,h3,h4,h5⟩;cases y with
 | normal=>
   cases x<;>first
    | exact False.elim h4
    | (obtain⟨m,h6,h7⟩:=h5
       obtain⟨u,h8,h9⟩:=lM (P:=P) ht h2 h3 h6;exact⟨h3.defers,u,h8,.ret m,O',H,h1,h2,h9,h7⟩)
 | ret=>
   cases x<;>first
    | exact False.elim h4
    | (obtain⟨m,h6,h7⟩:=h5
       obtain⟨u,h8,h9⟩:=lM (P:=P) ht h2 h3 h6;exact⟨h3.defers,u,h8,.ret m,O',H,h1,h2,h9,h7⟩)
 | panic c=>
   cases x<;>first
    | exact False.elim h4
    | exact⟨h3.2.defers,.panic _,O',H,h1,h2,h4,h5⟩
 | exit i=>cases x<;>first | exact False.elim h4 | exact h5.elim
 | goto i=>cases x<;>first | exact False.elim h4 | exact h5.elim
 | outgrown=>cases x<;>exact False.elim h4
end
section
variable {G H:Gh} {n:Sz} {D:List Deferred} {e e':Env} {a:Act} {P:Program} {tab:cj} {O O':VH} {w:World} {m m':MV} {u v:Value} {ops:Array Oper} {Q:VQ}
def cE (P:Program) (n:Sz) (D:List Deferred) (ops:Array Oper) (fuel:Nat) (listed:Array Bool) (e:Env) (O:VH) (Q:VQ):Prop:=
 ∀G a w,WR G O w->FR G n D e a->wpAnyH P .any ops (cM G n D Q) (SS G) fuel listed a w
theorem VC.draw {id:Nat} (hm:P.follows .mixedOrders=true) (h:cE P n D ops ops.size (Array.replicate ops.size false) e O Q):VC P n D (.region id ops true) e O Q:=
 fun G a w hw hf=>wp_region_held (S:=SS G) hm (h G a _ (hw.drawn _) hf)
theorem iA {d:Option Tmp} (xV:bC n d=true) {v:Value} (c:List PanicEntry) (a:Act) (w:World) (h:cM G n D Q (.panic c) (a.put d v) w):cM G n D Q (.panic c) a w:=by
 obtain⟨x,e,O,H,h1,h2,h3,h4,h5⟩:=h;cases x with
 | panic m=>
   obtain⟨y_,h3⟩:=h3
   have hd:a.defers=D:=by
    have:=h3.defers;cases d<;>exact this
   have hz:a.tmps.size=n.n:=by
    have:=h3.size;cases d with
    | none=>exact this
    | some d=>simpa[Act.put]using this
   refine⟨.panic m,e,O,H,h1,h2,⟨y_,hd,hz,fun t x hx=>?_⟩,h4,h5⟩;obtain⟨u,g1,g2⟩:=h3.get t x hx;refine⟨u,?_,g2⟩;cases d with
   | none=>exact g1
   | some d=>
     have ht:=y_ t x hx;have mR:n.lo<=d:=by simp[bC]at xV;exact xV.1
     have hne:d≠t:=fun e=>Nat.lt_irrefl _ (Nat.lt_of_lt_of_le ht (e▸mR))
     simpa[Act.put,hne]using g1
 | _=>exact False.elim h4
theorem cE.Tx (ht:aO P tab) {fuel i:Nat} {listed:Array Bool} {o:Oper} (ho:ops[i]?=some o) (hs:Region.noSelect ops=true) (hf:Region.free .any ops listed i=true) (hr:(Region.ready .any ops listed).contains i=true)
  (hg:aN ops o e=some true) (hv:eX tab o e=some m) (hd:bC n o.dst=true) (h:cE P n D ops fuel (listed.setIfInBounds i true) (aZ o.dst m e) O Q):cE P n D ops (fuel+1) listed e O Q:=by
 intro G a w hw aW;obtain⟨u,hu,cC⟩:=vu (P:=P) ht aW hv;exact wpAnyH_take ho hs hf hr (iA hd) (.inl ⟨bA aW hg,cC⟩) hw.ss (h G _ w hw (aW.aZ hd hu))
theorem cE.ZD {fuel i:Nat} {listed:Array Bool} {o:Oper} (ho:ops[i]?=some o) (hs:Region.noSelect ops=true) (hf:Region.free .any ops listed i=true) (hr:(Region.ready .any ops listed).contains i=true)
  (hg:aN ops o e=some false) (hd:bC n o.dst=true) (h:cE P n D ops fuel (listed.setIfInBounds i true) (aZ o.dst cT e) O Q):cE P n D ops (fuel+1) listed e O Q:=by
 intro G a w hw aW;exact wpAnyH_take ho hs hf hr (iA hd) (.inr ⟨bA aW hg,rfl⟩) hw.ss (h G _ w hw (aW.aZ hd lL))
theorem cE.done {fuel:Nat} {listed:Array Bool} (hr:Region.ready .any ops listed=[]) (h:Q .normal e O):cE P n D ops fuel listed e O Q:=
 fun G a w hw aW=>wpAnyH_done hr ⟨.normal,e,O,G,Gh.Le.refl G,hw,aW,trivial,h⟩ fuel
theorem Mp {Q Q':Exit->Act->World->Prop} {S S':World->Prop} (hQ:∀y a w,Q y a w->Q' y a w) (hS:∀w,S w->S' w):∀(fuel:Nat) (listed:Array Bool) (a:Act) (w:World),wpAnyH P .any ops Q S fuel listed a w->wpAnyH P .any ops Q' S' fuel listed a w:=by
 intro fuel;induction fuel with
 | zero=>intro listed a w h;exact⟨h.1,hQ _ _ _ h.2⟩
 | succ fuel ih=>
   intro listed a w h;refine⟨fun h0=>hQ _ _ _ (h.1 h0),fun i hi=>?_⟩;have h1:=wpOp_mono (K':=fun a' w'=>S' w'/\wpAnyH P .any ops Q' S' fuel (listed.setIfInBounds i true) a' w') (fun a' w' h'=>⟨hS _ h'.1,ih _ _ _ h'.2⟩) (h.2 i hi);unfold wpOp at h1 ⊢;split
   ·rename_i ho;simp only[ho]at h1;exact h1
   ·rename_i o ho;simp only[ho]at h1;split
    ·rename_i sC;simp only[sC,if_true]at h1;refine h1.imp (fun h2=>?_) (fun⟨h2,a',w',h3⟩=>⟨h2,a',w',hQ _ _ _ h3⟩);unfold Oper.wp at h2 ⊢;generalize (execOp a.eval o).run P w=r at*;cases r with
     | ok nx w'=>
       cases nx<;>simp only[Oper.upon]at h2 ⊢ <;>first
        | exact h2
        | (refine Calls.mono h2 fun x Hu he=>?_
           cases x with
           | returned v=>exact he
           | panicked c=>exact hQ _ _ _ he
           | outgrown=>obtain⟨a',w',h3⟩:=he;exact⟨a',w',hQ _ _ _ h3⟩)
     | halt x w'=>cases x<;>simp only[Oper.upon]at h2 ⊢ <;>first | exact h2 | exact hQ _ _ _ h2
    ·rename_i sC;simp only[sC]at h1;exact h1
theorem SS.le (h:G.Le H) {w:World} (hs:SS H w):SS G w:=fun b o u hc=>hs b o u (h.eN hc)
def aL (P:Program) (n:Sz) (D:List Deferred) (ops:Array Oper) (i:Nat) (e:Env) (O:VH) (Q:VQ) (K:Env->VH->Prop):Prop:=
 ∀G a w,WR G O w->FR G n D e a->wpOp P ops (cM G n D Q) i (fun a' w'=>∃e' O' H,Gh.Le G H/\WR H O' w'/\FR H n D e' a'/\K e' O') a w
theorem aL.op (ht:aO P tab) {i:Nat} {o:Oper} {K:Env->VH->Prop} (ho:ops[i]?=some o) (hg:aN ops o e=some true) (hv:dD tab o e O=some (m,O')) (hd:bC n o.dst=true) (hk:K (aZ o.dst m e) O'):aL P n D ops i e O Q K:=by
 intro G a w hw aW;obtain⟨nx,w',H,u,hr,tQ,h1,h2,h3,_⟩:=Ee (P:=P) ht hw aW hv;simp only[wpOp,ho,bA aW hg,if_true];refine .inl ?_;unfold Oper.wp;rw[hr];have:∃e' O' H,Gh.Le G H/\WR H O' w'/\FR H n D e' (a.put o.dst u)/\K e' O':=⟨_,_,H,h1,h2,(aW.mono h1).aZ hd h3,hk⟩
 rcases tQ with rfl | ⟨rfl,rfl⟩<;>exact this
theorem aL.call {i:Nat} {o:Oper} {c:Call} {f:Operand} {id:FuncId} {fs ms cs:List MV} {R:gC->VH->Prop} {K:Env->VH->Prop} (ho:ops[i]?=some o) (hg:aN ops o e=some true) (vA:o.op= .call c) (hc:c.callee= .value f)
  (hf:ev e f=some (.func (.func id) fs cs)) (hm:gh e c.args.toList=some ms) (hE:Enters P id) (hd:bC n o.dst=true) (hR:VF P id (fs++ms++cs) O R)
  (h:∀r O',R r O'->match r with
   | .ret m=>K (aZ o.dst m e) O'
   | .panic m=>Q (.panic m) (k_ n e) O'):aL P n D ops i e O Q K:=by
 intro G a w hw aW;have vB:=aW.ev hf;generalize Af:a.eval f=fv at vB;cases vB with
 | func h1 h2 h3 h4=>
   rename_i us vs;have iK:=aW.gh hm;have jV:=aQ.append (aQ.append (show aQ G fs us from⟨h1,h2⟩) iK) (show aQ G cs vs from⟨h3,h4⟩)
   have cC:(execOp a.eval o).run P w= .ok (.enter id (us++c.args.toList.map a.eval++vs).toArray) w:=by
    have ha:c.args.map a.eval=(c.args.toList.map a.eval).toArray:=by apply adY;simp
    have:us.toArray++c.args.map a.eval++vs.toArray=(us++c.args.toList.map a.eval++vs).toArray:=by apply adY;simp[ha]
    simp only[execOp,vA,resolve,hc,Af,Deferred.ofValue,Sem.run_bind,Sem.run_pure,Result.andThen_ok,invoke,hE _ w];rw[this]
   simp only[wpOp,ho,bA aW hg,if_true];refine .inl ?_;unfold Oper.wp;rw[cC];show Calls P id _ w _;refine(hR G w _ hw jV).mono ?_;rintro x w' ⟨r,O',H,g1,g2,g3,g4⟩;have hk:=h r O' g4;cases r with
   | ret m=>
     cases x with
     | returned v=>exact⟨_,_,H,g1,g2,(aW.mono g1).aZ hd g3,hk⟩
     | panicked c=>exact g3.elim
     | outgrown=>exact g3.elim
   | panic m=>
     cases x with
     | returned v=>exact g3.elim
     | panicked c=>exact⟨.panic m,k_ n e,O',H,g1,g2,⟨EK,(aW.mono g1).less B0⟩,g3,hk⟩
     | outgrown=>exact g3.elim
theorem iU.one {i:Nat} {l:List Nat} (h:aL P n D ops i e O Q fun e' O'=>iU P n D ops l e' O' Q):iU P n D ops (i::l) e O Q:=by
 intro G a w hw aW;rw[wpOps_cons];exact wpOp_mono (fun a' w' ⟨e',O',H,h1,h2,h3,h4⟩=>mQ (fun _ _ _=>cM.le h1) l _ _ (h4 H a' w' h2 h3)) (h G a w hw aW)
theorem cE.all {fuel:Nat} {listed:Array Bool} {rs:List Nat} (hr:Region.ready .any ops listed=rs) (hne:rs≠[])
  (h:∀i∈rs,aL P n D ops i e O Q fun e' O'=>cE P n D ops fuel (listed.setIfInBounds i true) e' O' Q):cE P n D ops (fuel+1) listed e O Q:=by
 intro G a w hw aW;refine wpAnyH_all hr hne fun i hi=>?_
 exact wpOp_mono (fun a' w' ⟨e',O',H,h1,h2,h3,h4⟩=>⟨SS.le h1 h2.ss,Mp (fun _ _ _=>cM.le h1) (fun _=>SS.le h1) fuel _ _ _ (h4 H a' w' h2 h3)⟩) (h i hi G a w hw aW)
def jB (P:Program) (md:Region.Mode) (ops:Array Oper) (Q:Exit->Act->World->Prop) (T:Nat->World->Prop):Nat->Array Bool->Act->World->Prop
 | 0,listed,a,w=>Region.ready md ops listed=[]/\Q .normal a w
 | fuel+1,listed,a,w=>
   (Region.ready md ops listed=[]->Q .normal a w)/\
   ∀i∈Region.ready md ops listed,wpOp P ops Q i (fun a' w'=>T i w'/\jB P md ops Q T fuel (listed.setIfInBounds i true) a' w') a w
section
variable {md:Region.Mode} {Q:Exit->Act->World->Prop} {T:Nat->World->Prop}
theorem lg:∀(fuel:Nat) (listed:Array Bool) (a:Act) (w:World),jB P md ops Q T fuel listed a w->wpAny P md ops Q fuel listed a w
 | 0,_,_,_,h=>h
 | fuel+1,_,_,_,h=>⟨h.1,fun i hi=>wpOp_mono (fun a' w' h'=>lg fuel _ a' w' h'.2) (h.2 i hi)⟩
theorem oS {S:World->Prop} {W:Nat->Prop} {brk:Nat->Bool} {i:Nat} {oi:Oper} {v:Value} (hi:ops[i]?=some oi) (EL:∀(j:Nat) (o:Oper) cs b,ops[j]?=some o->o.op≠ .select cs b)
  (hQ:∀c a w,Q (.panic c) (a.put oi.dst v) w->Q (.panic c) a w) (hT:∀j x,brk j=false->T j x->S x) (hTi:∀x,S x->T i x):
  ∀(fuel:Nat) (listed:Array Bool) (a:Act) (w:World),
   (∀j oj,ops[j]?=some oj->j≠i->listed.getD j true=false->(∀e∈oj.after,Region.binds md e=true->e.on≠i)->oi.apart ops oj=true)->
   (∀j oj,ops[j]?=some oj->W j->∃e∈oj.after,Region.binds md e=true/\(e.on=i\/W e.on))->(∀j,W j->listed.getD j true=false)->(∀j,j≠i->listed.getD j true=false->brk j=true->W j)->
   i∈Region.ready md ops listed->YieldsIf P ops S oi v a->S w->
   jB P md ops Q T fuel (listed.setIfInBounds i true) (a.put oi.dst v) w->jB P md ops Q T (fuel+1) listed a w:=by
 intro fuel;induction fuel with
 | zero=>
   intro listed a w _ _ _ _ hr hy hS H;refine⟨fun h=>(by rw[h]at hr;cases hr),fun j hj=>?_⟩;by_cases J8:j=i
   ·subst J8;exact hy.wpOp hi hS ⟨hTi _ hS,H⟩
   ·have:=ready_mono hj J8;rw[H.1]at this;cases this
 | succ fuel ih=>
   intro listed a w ZE hW hWu agf hr hy hS H;refine⟨fun h=>(by rw[h]at hr;cases hr),fun j hj=>?_⟩;by_cases J8:j=i
   ·subst J8;exact hy.wpOp hi hS ⟨hTi _ hS,H⟩
   ·have h1:=H.2 j (ready_mono hj J8);obtain⟨ZF,oj,hoj,jV⟩:=mem_ready.1 hj
    have agh:∀e∈oj.after,Region.binds md e=true->e.on≠i:=fun e he hb heq=>by
     have h1:=jV e he hb;have h0:=(mem_ready.1 hr).1;rw[heq]at h1;rcases ajt i listed.size with h' | h'
     ·simp[h']at h0 h1;rw[h0]at h1;cases h1
     ·simp[ajk h']at h1
    have hnW:¬W j:=fun hw=>by
     obtain⟨e,he,cD,cJ⟩:=hW j oj hoj hw;rcases cJ with cJ | cJ
     ·exact absurd cJ (agh e he cD)
     ·have h1:=jV e he cD;have h0:=hWu _ cJ;rcases ajt e.on listed.size with h' | h'
      ·simp[h']at h0 h1;rw[h0]at h1;cases h1
      ·simp[ajk h']at h1
    have Zq:brk j=false:=by
     cases hb:brk j with
     | false=>rfl
     | true=>exact absurd (agf j J8 ZF hb) hnW
    have h2:=wpOp_putIf hoj (ZE j oj hoj J8 ZF agh) (fun cs b=>EL i oi cs b hi) (fun cs b=>EL j oj cs b hoj) hQ hy h1
    have agi:∀k,(listed.setIfInBounds j true).getD k true=false->listed.getD k true=false:=fun k fu=>by
     by_cases ZG:j=k
     ·subst ZG;exact ZF
     ·rw[getD_set_ne true ZG]at fu;exact fu
    refine wpOp_mono (fun a' w' h3=>⟨h3.2.1,ih (listed.setIfInBounds j true) a' w' (fun k ok hk hki fu dF=>ZE k ok hk hki (agi k fu) dF) hW (fun k hk=>by
     by_cases ZG:j=k
     ·subst ZG;exact absurd hk hnW
     ·rw[getD_set_ne true ZG];exact hWu k hk) (fun k hki fu hb=>agf k hki (agi k fu) hb) (ready_mono hr (Ne.symm J8)) h3.1 (hT j _ Zq h3.2.1) ?_⟩) h2
    rw[Array.setIfInBounds_comm _ _ J8];exact h3.2.2
theorem jW {rs:List Nat} {fuel:Nat} {listed:Array Bool} {a:Act} {w:World} (hr:Region.ready md ops listed=rs) (hne:rs≠[])
  (h:∀i∈rs,wpOp P ops Q i (fun a' w'=>T i w'/\jB P md ops Q T fuel (listed.setIfInBounds i true) a' w') a w):jB P md ops Q T (fuel+1) listed a w:=
 ⟨fun h0=>absurd (hr▸h0) hne,hr▸h⟩
theorem J9 {listed:Array Bool} {a:Act} {w:World} (hr:Region.ready md ops listed=[]) (h:Q .normal a w):∀fuel,jB P md ops Q T fuel listed a w
 | 0=>⟨hr,h⟩
 | _+1=>⟨fun _=>h,by rw[hr];simp⟩
theorem Vx {Q Q':Exit->Act->World->Prop} (hQ:∀y a w,Q y a w->Q' y a w) {i:Nat} {K:Act->World->Prop} {a:Act} {w:World} (h1:wpOp P ops Q i K a w):wpOp P ops Q' i K a w:=by
 unfold wpOp at h1 ⊢;split
 ·rename_i ho;simp only[ho]at h1;exact h1
 ·rename_i o ho;simp only[ho]at h1;split
  ·rename_i sC;simp only[sC,if_true]at h1;refine h1.imp (fun h2=>?_) (fun⟨h2,a',w',h3⟩=>⟨h2,a',w',hQ _ _ _ h3⟩);unfold Oper.wp at h2 ⊢;generalize (execOp a.eval o).run P w=r at*;cases r with
   | ok nx w'=>
     cases nx<;>simp only[Oper.upon]at h2 ⊢ <;>first
      | exact h2
      | (refine Calls.mono h2 fun x Hu he=>?_
         cases x with
         | returned v=>exact he
         | panicked c=>exact hQ _ _ _ he
         | outgrown=>obtain⟨a',w',h3⟩:=he;exact⟨a',w',hQ _ _ _ h3⟩)
   | halt x w'=>cases x<;>simp only[Oper.upon]at h2 ⊢ <;>first | exact h2 | exact hQ _ _ _ h2
  ·rename_i sC;simp only[sC]at h1;exact h1
theorem jX {Q Q':Exit->Act->World->Prop} {T T':Nat->World->Prop} (hQ:∀y a w,Q y a w->Q' y a w):∀(fuel:Nat) (listed:Array Bool) (a:Act) (w:World),(∀j,listed.getD j true=false->∀x,T j x->T' j x)->
  jB P .any ops Q T fuel listed a w->jB P .any ops Q' T' fuel listed a w:=by
 intro fuel;induction fuel with
 | zero=>intro listed a w _ h;exact⟨h.1,hQ _ _ _ h.2⟩
 | succ fuel ih=>
   intro listed a w hT h;refine⟨fun h0=>hQ _ _ _ (h.1 h0),fun i hi=>?_⟩;have fu:=(mem_ready.1 hi).1
   exact Vx hQ (wpOp_mono (fun a' w' h'=>⟨hT i fu _ h'.1,ih _ _ _ (fun j hj x=>hT j (by
    by_cases Hv:i=j
    ·subst Hv;exact fu
    ·rw[getD_set_ne true Hv]at hj;exact hj) x) h'.2⟩) (h.2 i hi))
end
def TH (brk:List Nat) (G:Gh) (w:World) (j:Nat) (x:World):Prop:=brk.contains j=false->Sx G w x
def bQ (P:Program) (n:Sz) (D:List Deferred) (ops:Array Oper) (brk:List Nat) (fuel:Nat) (listed:Array Bool) (e:Env) (O:VH) (Q:VQ):Prop:=
 ∀G a w,WR G O w->FR G n D e a->jB P .any ops (cM G n D Q) (TH brk G w) fuel listed a w
theorem VC.J_ {id:Nat} (brk:List Nat) (hm:P.follows .mixedOrders=true) (h:bQ P n D ops brk ops.size (Array.replicate ops.size false) e O Q):VC P n D (.region id ops true) e O Q:=
 fun G a w hw hf=>wp_region_any hm (lg _ _ _ _ (h G a _ (hw.drawn _) hf))
theorem bQ.done {brk:List Nat} {fuel:Nat} {listed:Array Bool} (hr:Region.ready .any ops listed=[]) (h:Q .normal e O):bQ P n D ops brk fuel listed e O Q:=
 fun G a w hw aW=>J9 hr ⟨.normal,e,O,G,Gh.Le.refl G,hw,aW,trivial,h⟩ fuel
def kT (ops:Array Oper) (listed:Array Bool) (i:Nat):Nat->List Nat
 | 0=>[]
 | k+1=>(List.range ops.size).filter fun j=> !listed.getD j true&&((ops[j]?).map fun o=>o.after.any fun e=>Region.binds .any e&&(e.on==i||(kT ops listed i k).contains e.on)).getD false
def oA (ops:Array Oper) (brk:List Nat) (listed:Array Bool) (i:Nat):Bool:=
 brk.all fun j=>listed.getD j true||j==i||(kT ops listed i ops.size).contains j
theorem CP {listed:Array Bool} {i:Nat} (j:Nat) (oj:Oper) (hj:ops[j]?=some oj) (h:∃k,j∈kT ops listed i k):∃e∈oj.after,Region.binds .any e=true/\(e.on=i\/∃k,e.on∈kT ops listed i k):=by
 obtain⟨k,hk⟩:=h;cases k with
 | zero=>cases hk
 | succ k=>
   simp only[kT,List.mem_filter,hj,agc,Option.getD_some,Qn]at hk;obtain⟨e,he,h2⟩:=Array.any_eq_true'.1 hk.2.2;simp only[Qn,ana,beq_iff_eq]at h2;refine⟨e,he,h2.1,?_⟩;rcases h2.2 with h3 | h3
   ·exact .inl h3
   ·exact .inr ⟨k,by simpa using h3⟩
theorem Ij {listed:Array Bool} {i:Nat} (j:Nat) (h:∃k,j∈kT ops listed i k):listed.getD j true=false:=by
 obtain⟨k,hk⟩:=h;cases k with
 | zero=>cases hk
 | succ k=>
   simp only[kT,List.mem_filter,Qn,Bool.not_eq_true']at hk;exact hk.2.1
theorem Ik {brk:List Nat} {listed:Array Bool} {i:Nat} (h:oA ops brk listed i=true):∀j,j≠i->listed.getD j true=false->brk.contains j=true->∃k,j∈kT ops listed i k:=by
 intro j hne fu hb;have:=am8.1 h j (by simpa using hb);simp only[fu,Bool.false_or,ana,beq_iff_eq,hne,false_or]at this;exact⟨_,by simpa using this⟩
theorem bQ.take {brk:List Nat} {fuel i:Nat} {listed:Array Bool} {o:Oper} (ho:ops[i]?=some o) (hs:Region.noSelect ops=true) (hf:Region.free .any ops listed i=true) (hr:(Region.ready .any ops listed).contains i=true) (hb:oA ops brk listed i=true)
  (hd:bC n o.dst=true) (hy:∀G a w,WR G O w->FR G n D e a->∃u,VR G m u/\YieldsIf P ops (Sx G w) o u a) (h:bQ P n D ops brk fuel (listed.setIfInBounds i true) (aZ o.dst m e) O Q):bQ P n D ops brk (fuel+1) listed e O Q:=by
 intro G a w hw aW;obtain⟨u,hu,hyi⟩:=hy G a w hw aW;refine oS (S:=Sx G w) (W:=fun j=>∃k,j∈kT ops listed i k) (brk:=fun j=>brk.contains j) ho (Region.noSelect_spec hs) (iA hd) (fun j x hj hT=>hT hj) (fun x hx _=>hx) fuel listed a w (Region.free_spec ho hf) CP Ij (Ik hb) (by simpa using hr) hyi hw.sx (h G _ w hw (aW.aZ hd hu))
theorem bQ.one (ht:aO P tab) {brk:List Nat} {fuel i:Nat} {listed:Array Bool} {o:Oper} (ho:ops[i]?=some o) (hr:Region.ready .any ops listed=[i]) (hb:(brk.contains i=false/\Hs o.op=true)\/∀j,(listed.setIfInBounds i true).getD j true=false\/j=i->brk.contains j=true)
  (hg:aN ops o e=some true) (hv:dD tab o e O=some (m,O')) (hd:bC n o.dst=true) (h:bQ P n D ops brk fuel (listed.setIfInBounds i true) (aZ o.dst m e) O' Q):bQ P n D ops brk (fuel+1) listed e O Q:=by
 intro G a w hw aW;refine jW hr (by simp) fun j hj=>?_
 obtain rfl:j=i:=by simpa using hj
 obtain⟨nx,w',H,u,cC,tQ,h1,h2,h3,h4⟩:=Ee (P:=P) ht hw aW hv;simp only[wpOp,ho,bA aW hg,if_true];refine .inl ?_;unfold Oper.wp;rw[cC];have hk:=h H (a.put o.dst u) w' h2 ((aW.mono h1).aZ hd h3)
 have ZH:TH brk G w j w'/\jB P .any ops (cM G n D Q) (TH brk G w) fuel (listed.setIfInBounds j true) (a.put o.dst u) w':=by
  rcases hb with⟨cD,cJ⟩ | hb
  ·have qs:=h4 cJ;have hs:Sx G w w':=⟨SS.le h1 h2.ss,qs⟩;refine⟨fun _=>hs,jX (fun _ _ _=>cM.le h1) _ _ _ _ (fun k _ x hT qp=>?_) hk⟩;obtain⟨g1,g2⟩:=hT qp;exact⟨SS.le h1 g1,fun k' b nC=>(g2 k' b (h1.bW nC)).trans (qs k' b nC)⟩
  ·refine⟨fun hh=>?_,jX (fun _ _ _=>cM.le h1) _ _ _ _ (fun k qp x _ hh=>?_) hk⟩
   ·rw[hb j (.inr rfl)]at hh;cases hh
   ·rw[hb k (.inl qp)]at hh;cases hh
 rcases tQ with rfl | ⟨rfl,rfl⟩<;>exact ZH
theorem bQ.ahQ {brk:List Nat} {fuel i:Nat} {listed:Array Bool} {o:Oper} (ho:ops[i]?=some o) (hr:Region.ready .any ops listed=[i]) (hb:(brk.contains i=false/\Hs o.op=true)\/∀j,(listed.setIfInBounds i true).getD j true=false\/j=i->brk.contains j=true)
  (hg:aN ops o e=some false) (hd:bC n o.dst=true) (h:bQ P n D ops brk fuel (listed.setIfInBounds i true) (aZ o.dst cT e) O Q):bQ P n D ops brk (fuel+1) listed e O Q:=by
 intro G a w hw aW;refine jW hr (by simp) fun j hj=>?_
 obtain rfl:j=i:=by simpa using hj
 simp only[wpOp,ho,bA aW hg,Zj,if_false];exact⟨fun _=>hw.sx,h G _ w hw (aW.aZ hd lL)⟩
theorem bQ.ZI {brk:List Nat} {fuel i:Nat} {listed:Array Bool} (hr:Region.ready .any ops listed=[i]) (hb:∀j,(listed.setIfInBounds i true).getD j true=false\/j=i->brk.contains j=true)
  (h:aL P n D ops i e O Q fun e' O'=>bQ P n D ops brk fuel (listed.setIfInBounds i true) e' O' Q):bQ P n D ops brk (fuel+1) listed e O Q:=by
 intro G a w hw aW;refine jW hr (by simp) fun j hj=>?_
 obtain rfl:j=i:=by simpa using hj
 refine wpOp_mono (fun a' w' ⟨e',O',H,h1,h2,h3,h4⟩=>⟨fun hh=>?_,jX (fun _ _ _=>cM.le h1) _ _ _ _ (fun k qp x _ hh=>?_) (h4 H a' w' h2 h3)⟩) (h G a w hw aW)
 ·rw[hb j (.inr rfl)]at hh;cases hh
 ·rw[hb k (.inl qp)]at hh;cases hh
end
def Ka (d:TypeDesc) (z:Value):Bool:=match ef d,z with
 | true,.agg _=>true
 | true,_=>false
 | false,.agg _=>false
 | false,_=>true
theorem QF {d:TypeDesc} {z:Value} (h:Ka d z=true):(ef d=true->∃cs,z= .agg cs)/\(ef d=false->z.cells= #[z]):=by
 refine⟨fun ha=>?_,fun ha=>?_⟩<;>unfold Ka at h<;>rw[ha]at h<;>cases z<;>first | exact⟨_,rfl⟩ | rfl | cases h
def bY (P:Program) (t:TypeId):Option cL:=
 match P.underlying t,P.info? t with
 | some d,some i=>match i.zero with
   | some z=>match z.cells.toList.mapM ofConst with
     | some zs=>if z.cells.size=i.size/\Ka d z=true then some ⟨d,i.size,i.bytes,zs⟩else none
     | none=>none
   | none=>none
 | _,_=>none
theorem EM {G:Gh}:∀{us:List Value} {ms:List MV},us.mapM ofConst=some ms->aQ G ms us
 | [],ms,h=>by simp at h;subst h;exact aQ.nil
 | u::us,ms,h=>by
   simp only[ahK,ahJ,Qm]at h;obtain⟨m,h1,Zr,h2,h3⟩:=h;injection h3 with h3;subst h3
   exact aQ.cons (CJ h1) (EM h2)
theorem ZJ (P:Program):aO P (bY P):=by
 intro t i h;unfold bY at h;split at h
 ·rename_i d ti hd hi;split at h
  ·rename_i z hz;split at h
   ·rename_i zs hzs;split at h
    ·rename_i pC;injection h with h;subst h
     exact⟨hd,⟨ti,z,hi,rfl,rfl,hz,pC.1,fun G=>EM hzs⟩,fun ti' z' h1 h2=>by
      rw[hi]at h1;injection h1 with h1;subst h1
      rw[hz]at h2;injection h2 with h2;subst h2
      exact QF pC.2⟩
    ·cases h
   ·cases h
  ·cases h
 ·cases h
section
variable {G H:Gh} {n:Sz} {D:List Deferred} {e e':Env} {a:Act} {P:Program} {tab:cj} {O O':VH} {w:World} {m m':MV} {u v:Value} {ops:Array Oper} {Q:VQ}
variable {d:Option Tmp} {t t' ty:TypeId} {p:String} {af:Array Edge} {g:Option (Nat×Bool)} {x y z:Operand}
theorem Ty (k:Nat):ev e (.tmp k)=look e k:=rfl
theorem Tz (k:IntKind) (i:Int):ev e (.const (.int k i))=some (.v (.int k i)):=rfl
theorem Mq (b:Bool):ev e (.const (.bool b))=some (.v (.bool b)):=rfl
theorem TA (s:ByteArray):ev e (.const (.string s))=some (.str s.data.toList):=rfl
theorem Il:ev e (.const (.slice none 0 0))=some (.sl 0 [] .nil):=rfl
theorem EN:ev e (.const (.pointer none))=some (.v (.pointer none)):=rfl
theorem EO:ev e (.const (.map none))=some (.v (.map none)):=rfl
theorem Ah:ev e (.const .nilIface)=some (.v .nilIface):=rfl
theorem CR:ev e (.const .nilFunc)=some (.v .nilFunc):=rfl
theorem Mr (f:FuncId):ev e (.func f)=some (.func (.func f) [] []):=rfl
theorem mS (k j:Nat) (m:MV) (r:Env):look ((k,m)::r) j=bif j==k then some m else look r j:=rfl
theorem Ms:gh e []=some []:=rfl
theorem Im (x:Operand) (l:List Operand):gh e (x::l)=(ev e x).bind fun m=>(gh e l).map (m:: ·):=by
 simp only[gh,ahK,ahJ];cases ev e x with
 | none=>rfl
 | some m=>cases List.mapM (ev e) l<;>rfl
private theorem ar {o:Oper} {r:Option MV} (h:eX tab o e=r) (hl:jk tab o e O=none):dD tab o e O=r.map (·,O):=by
 unfold dD;rw[h];cases r<;>simp[hl]
theorem Io:dD tab (.mk d (.move x) ty p af g) e O=(ev e x).map (·,O):=ar rfl rfl
theorem CS:dD tab (.mk d (.assign x) ty p af g) e O=(ev e x).map (·,O):=ar rfl rfl
theorem yl:dD tab (.mk d (.nilCheck x) ty p af g) e O=((ev e x).bind Mk).map (·,O):=ar rfl rfl
theorem EP {op:BinOp}:dD tab (.mk d (.binOp op t x y t') ty p af g) e O=((ev e x).bind fun q=>(ev e y).bind fun r=>dw tab op t q r).map (·,O):=by
 refine ar ?_ rfl;simp only[eX];cases ev e x<;>first | rfl | (cases ev e y<;>rfl)
theorem Ip {op:UnOp}:dD tab (.mk d (.unOp op t x) ty p af g) e O=((ev e x).bind (xj op)).map (·,O):=ar rfl rfl
theorem Ai:dD tab (.mk d (.convert t t' x) ty p af g) e O=((ev e x).bind (BZ tab t t')).map (·,O):=ar rfl rfl
theorem vC {f:Nat}:dD tab (.mk d (.fieldAddr t x f) ty p af g) e O=((ev e x).bind (jU tab t f)).map (·,O):=ar rfl rfl
theorem ES {f:Nat}:dD tab (.mk d (.field t x f) ty p af g) e O=((ev e x).bind (xf tab t · f)).map (·,O):=ar rfl rfl
theorem vD:dD tab (.mk d (.indexAddr t x y) ty p af g) e O=((ev e x).bind fun q=>(ev e y).bind fun r=>m9 tab t q r).map (·,O):=by
 refine ar ?_ rfl;simp only[eX];cases ev e x<;>first | rfl | (cases ev e y<;>rfl)
theorem ET:dD tab (.mk d (.index t x y) ty p af g) e O=((ev e x).bind fun q=>(ev e y).bind fun r=>xg tab t q r).map (·,O):=by
 refine ar ?_ rfl;simp only[eX];cases ev e x<;>first | rfl | (cases ev e y<;>rfl)
theorem Aj {i:Nat}:dD tab (.mk d (.extract x i) ty p af g) e O=((ev e x).bind (sA · i)).map (·,O):=ar rfl rfl
theorem EU {ps:Array (Nat×Operand)}:dD tab (.mk d (.build t ps) ty p af g) e O=((gh e (ps.toList.map (·.2))).bind fun ms=>xi tab t (gP ps ms)).map (·,O):=by
 refine ar ?_ rfl;simp only[eX];cases gh e (ps.toList.map (·.2))<;>rfl
theorem ym {fn:Fn} {fs cs:Array Operand}:dD tab (.mk d (.makeFunc fn fs cs) ty p af g) e O=((gh e fs.toList).bind fun q=>(gh e cs.toList).map fun r=>.func fn q r).map (·,O):=by
 refine ar ?_ rfl;simp only[eX];cases gh e fs.toList<;>first | rfl | (cases gh e cs.toList<;>rfl)
theorem EV {lo hi:Option Operand}:dD tab (.mk d (.slice t x lo hi none) ty p af g) e O=((ev e x).bind fun q=>(eX.DF e lo).bind fun l=>(eX.DF e hi).bind fun h=>xk tab t q l h).map (·,O):=by
 refine ar ?_ rfl;simp only[eX];cases ev e x<;>first | rfl | (cases eX.DF e lo<;>first | rfl | (cases eX.DF e hi<;>rfl))
theorem Mt {lo:Option Operand} {hi mx:Operand}:dD tab (.mk d (.slice t x lo (some hi) (some mx)) ty p af g) e O=((ev e x).bind fun q=>(eX.DF e lo).bind fun l=>(ev e hi).bind fun h=>(ev e mx).bind (oZ tab t q l h)).map (·,O):=by
 refine ar ?_ rfl;simp only[eX,show eX.DF e (some hi)=(ev e hi).map some from rfl];generalize eX.DF e lo=z;cases ev e x<;>cases z<;>cases ev e hi<;>rfl
theorem Iq:eX.DF e none=some none:=rfl
theorem Ir:eX.DF e (some x)=(ev e x).map some:=rfl
theorem Mu:dD tab (.mk d (.call {callee:=.builtin .len,args:= #[x],argTypes:= #[t]}) ty p af g) e O=(ev e x).bind fun q=>match dy tab t q with
  | some r=>some (r,O)
  | none=>(qo tab O t q).map (·,O):=by
 simp only[dD,eX,jk];cases ev e x with
 | none=>rfl
 | some q=>
   simp only[ahO]<;>cases dy tab t q<;>rfl
theorem Mv {ts:Array TypeId}:dD tab (.mk d (.call {callee:=.builtin .max,args:= #[x,y],argTypes:=ts}) ty p af g) e O=((ev e x).bind fun q=>(ev e y).bind fun r=>BX q r).map (·,O):=by
 refine ar ?_ rfl;simp only[eX];cases ev e x<;>first | rfl | (cases ev e y<;>rfl)
theorem Mw {ts:Array TypeId}:dD tab (.mk d (.call {callee:=.builtin .min,args:= #[x,y],argTypes:=ts}) ty p af g) e O=((ev e x).bind fun q=>(ev e y).bind fun r=>BY q r).map (·,O):=by
 refine ar ?_ rfl;simp only[eX];cases ev e x<;>first | rfl | (cases ev e y<;>rfl)
theorem QG {ts:Array TypeId}:dD tab (.mk d (.call {callee:=.builtin .unsafeSliceData,args:= #[x],argTypes:=ts}) ty p af g) e O=((ev e x).bind xm).map (·,O):=ar rfl (by simp only[jk]<;>rfl)
theorem dj:dD tab (.mk d (.call {callee:=.builtin .append,args:= #[x,y],argTypes:= #[t,t]}) ty p af g) e O=(ev e x).bind fun q=>(ev e y).bind fun r=>iy tab O t q r:=by
 simp only[dD,eX,jk,if_true];cases ev e x<;>first | rfl | (cases ev e y<;>rfl)
theorem Mx {cs:List MV} {off:Nat}:ft tab O t (.dE cs off)=ft tab O' t (.dE cs off):=rfl
theorem Is:dD tab (.mk d (.load t x) ty p af g) e O=(ev e x).bind fun q=>(ft tab O t q).map (·,O):=by
 simp only[dD,eX,jk];cases ev e x with
 | none=>rfl
 | some q=>
   cases q<;>try rfl
   rename_i cs off;simp only[ahO];rw[Mx (O':=O)];cases ft tab O t (.dE cs off)<;>rfl
theorem EX:dD tab (.mk d (.store t x y) ty p af g) e O=(ev e x).bind fun q=>(ev e y).bind fun r=>(xd tab O t q r).map (.tuple [], ·):=by
 simp only[dD,eX,jk];cases ev e x<;>first | rfl | (cases ev e y<;>rfl)
theorem My:dD tab (.mk d (.box t x) ty p af g) e O=(ev e x).map fun q=>(.ptr O.N 0,O.push (.cells (eg q))):=rfl
theorem QH:dD tab (.mk d (.alloc t) ty p af g) e O=(tab t).map fun i=>(.ptr O.N 0,xp O t i.size i.zero):=rfl
theorem uI {k:Nat} {ps:Array (Nat×Operand)}:dD tab (.mk d (.buildSlice t k ps) ty p af g) e O=(gh e (ps.toList.map (·.2))).bind fun ms=>(lK tab t k (gP ps ms)).map (·,O):=by
 simp only[dD,eX,jk];cases gh e (ps.toList.map (·.2))<;>rfl
theorem vE:dD tab (.mk d (.makeSlice t x y) ty p af g) e O=(ev e x).bind fun q=>(ev e y).bind fun r=>m_ tab O t q r:=by
 simp only[dD,eX,jk];cases ev e x<;>first | rfl | (cases ev e y<;>rfl)
theorem Ak:dD tab (.mk d (.makeMap t none) ty p af g) e O=some (.map O.N,O.push (.map [] 0)):=rfl
theorem CT {b:Bool}:dD tab (.mk d (.lookup t x y b) ty p af g) e O=(ev e x).bind fun q=>(ev e y).bind fun r=>(ie tab O t q r b).map (·,O):=by
 simp only[dD,eX,jk];cases ev e x<;>first | rfl | (cases ev e y<;>rfl)
theorem vF {z:Operand}:dD tab (.mk d (.mapUpdate t x y z) ty p af g) e O=(ev e x).bind fun q=>(ev e y).bind fun r=>(ev e z).bind fun s=>(eC tab O t q r s).map (.tuple [], ·):=by
 simp only[dD,eX,jk];cases ev e x<;>first | rfl | (cases ev e y<;>first | rfl | (cases ev e z<;>rfl))
theorem CU {z:Operand}:dD tab (.mk d (.insert t x y z) ty p af g) e O=(ev e x).bind fun q=>(ev e y).bind fun r=>(ev e z).bind fun s=>(eC tab O t q r s).map (.tuple [], ·):=by
 simp only[dD,eX,jk];cases ev e x<;>first | rfl | (cases ev e y<;>first | rfl | (cases ev e z<;>rfl))
section
variable {k:IntKind} {i j:Int}
theorem It:dw tab .add t (.v (.int k i)) (.v (.int k j))=some (.v (.int k (k.wrap (i+j)))):=by simp[dw,rG]
theorem Iu:dw tab .sub t (.v (.int k i)) (.v (.int k j))=some (.v (.int k (k.wrap (i - j)))):=by simp[dw,rG]
theorem Iv:dw tab .mul t (.v (.int k i)) (.v (.int k j))=some (.v (.int k (k.wrap (i*j)))):=by simp[dw,rG]
theorem Vy (h:j≠0):dw tab .quo t (.v (.int k i)) (.v (.int k j))=some (.v (.int k (k.wrap (i.tdiv j)))):=by simp[dw,rG,h]
theorem Vz (h:j≠0):dw tab .rem t (.v (.int k i)) (.v (.int k j))=some (.v (.int k (i.tmod j))):=by simp[dw,rG,h]
theorem Iw:dw tab .eql t (.v (.int k i)) (.v (.int k j))=some (.v (.bool (i==j))):=by simp[dw,rG]
theorem Ix:dw tab .neq t (.v (.int k i)) (.v (.int k j))=some (.v (.bool (i != j))):=by simp[dw,rG]
theorem Iy:dw tab .lss t (.v (.int k i)) (.v (.int k j))=some (.v (.bool (decide (i<j)))):=by simp[dw,rG]
theorem Iz:dw tab .leq t (.v (.int k i)) (.v (.int k j))=some (.v (.bool (decide (i<=j)))):=by simp[dw,rG]
theorem IA:dw tab .gtr t (.v (.int k i)) (.v (.int k j))=some (.v (.bool (decide (i>j)))):=by simp[dw,rG]
theorem IB:dw tab .geq t (.v (.int k i)) (.v (.int k j))=some (.v (.bool (decide (i>=j)))):=by simp[dw,rG]
theorem Mz:xj .neg (.v (.int k i))=some (.v (.int k (k.wrap (0 - i)))):=rfl
theorem MA {b:Bool}:xj .not (.v (.bool b))=some (.v (.bool !b)):=rfl
theorem wrap_i64 (h0: -9223372036854775808<=i) (h1:i<=9223372036854775807):IntKind.i64.wrap i=i:=by rw[IntKind.wrap_i64];omega
end
theorem Al {r:Env} {q:Op}:aN ops (.mk d q ty p af none) r=some true:=rfl
theorem Am {q:Op} {j:Nat} {b:Bool}:aN ops (.mk d q ty p af (some (j,b))) e=match(ops[j]?).bind (·.dst)with
  | some k=>match look e k with
    | some (.v (.bool c))=>some (c==b)
    | some (.tuple [])=>some false
    | _=>none
  | none=>none:=rfl
theorem VC.Kb {c:Operand} {x y:Code} (hc:ev e c=some (.v (.bool true))) (h:VC P n D x e O Q):VC P n D (.cond c x y) e O Q:=VC.cond hc (fun _=>h) (fun h=>by cases h)
theorem VC.ahR {c:Operand} {x y:Code} (hc:ev e c=some (.v (.bool false))) (h:VC P n D y e O Q):VC P n D (.cond c x y) e O Q:=VC.cond hc (fun h=>by cases h) (fun _=>h)
section
variable {el:TypeId} {a b c d:Nat} {z y:List MV} {u:TypeDesc}
theorem bR {k:Nat} {cs:List MV} {tk:Tok} (h:tab t=some ⟨.slice el,a,b,z⟩):dy tab t (.sl k cs tk)=some (.v (.int .i64 k)):=by simp[dy,h]
theorem IC {k o i j:Nat} (h:tab t=some ⟨.slice el,a,b,z⟩):dy tab t (.bB k o i j)=some (.v (.int .i64 i)):=by simp[dy,h]
end
end
def mi (x:Int):MV:=.v (.int .i64 x)
def mb (x:Bool):MV:=.v (.bool x)
structure VH.Ge (O O':VH):Prop where
 N:O.N<=O'.N
 hp:∀k,k<O.N->O'.hp k=O.hp k
section
variable {O O1 O2:VH} {x:cg} {k:Nat}
theorem VH.Ge.at {y:Option cg} (g:O.Ge O1) (h:O.hp k=y) (hk:k<O.N:=by omega):O1.hp k=y:=(g.hp k hk).trans h
theorem VH.Ge.refl (O:VH):O.Ge O:=⟨adZ _,fun _ _=>rfl⟩
theorem VH.Ge.trans (h:O.Ge O1) (h2:O1.Ge O2):O.Ge O2:=⟨Nat.le_trans h.N h2.N,fun k hk=>(h2.hp k (Nat.lt_of_lt_of_le hk h.N)).trans (h.hp k hk)⟩
theorem Ξ (O:VH) (x:cg):(O.push x).hp O.N=some x:=aJ _ _ _
theorem Υ (O:VH) (x:cg) (h:k<O.N):(O.push x).hp k=O.hp k:=ay _ _ (by omega)
theorem VH.o0 (O:VH) (x:cg) (h:k≠O.N):(O.push x).hp k=O.hp k:=ay _ _ h
theorem π (O:VH) (x:cg) {j:Nat} (h:j≠k):(O.set k x).hp j=O.hp j:=ay _ _ h
theorem ω {j:Nat} {y:Option cg} (h:O.hp j=y) (hj:j≠k:=by omega):(O.set k x).hp j=y:=(π O x hj).trans h
theorem VH.lh (O:VH) {j:Nat} (h:j≠k):(O.kill k).hp j=O.hp j:=ay _ _ h
theorem VH.Ge.push (h:O.Ge O1) (x:cg):O.Ge (O1.push x):=h.trans ⟨Nat.le_succ _,fun _ hk=>Υ _ _ hk⟩
theorem VH.Ge.set (h:O.Ge O1) (hk:O.N<=k) (x:cg):O.Ge (O1.set k x):=⟨h.N,fun j hj=>ω (h.hp j hj)⟩
theorem VH.Ge.kill (h:O.Ge O1) (hk:O.N<=k):O.Ge (O1.kill k):=⟨h.N,fun j hj=>(VH.lh _ (by omega)).trans (h.hp j hj)⟩
theorem VH.tT (O:VH) (x:cg):(O.push x).N=O.N+1:=rfl
theorem VH.fp (O:VH) (x:cg):(O.set k x).N=O.N:=rfl
end
def App (O:VH) (B sz:Nat):Tok->Prop
 | .nil=>True
 | .full=>True
 | .own t k=>k=sz/\O.hp t=some .tok/\B<=t/\t<O.N
 | .au=>False
def VH.after (O:VH):Tok->VH
 | .own t _=>(O.kill t).push .tok
 | _=>O.push .tok
theorem VH.dZ (O:VH) (tk:Tok):(O.after tk).N=O.N+1:=by cases tk<;>rfl
theorem VH.QI (O:VH) (tk:Tok):(O.after tk).hp O.N=some .tok:=by
 cases tk<;>first | exact Ξ _ _ | exact Ξ (O.kill _) _
theorem App.after {O:VH} {B sz:Nat} {tk:Tok} (hB:B<=O.N):App (O.after tk) B sz (.own O.N sz):=⟨rfl,O.QI tk,hB,by rw[O.dZ];omega⟩
theorem VH.Ge.after {O O1:VH} {B sz:Nat} {tk:Tok} (h:O.Ge O1) (ha:App O1 B sz tk) (hB:O.N<=B):O.Ge (O1.after tk):=by
 cases tk with
 | own t k=>exact(h.kill (Nat.le_trans hB ha.2.2.1)).push _
 | _=>exact h.push _
theorem VH.jF {O:VH} {B sz:Nat} {tk:Tok} (ha:App O B sz tk) {k:Nat} {x:cg} (hk:O.hp k=some x) (hx:x≠ .tok) (hl:k<O.N):(O.after tk).hp k=some x:=by
 cases tk with
 | own t j=>
   refine(Υ (O.kill t) _ hl).trans ?_;rw[VH.lh _ (fun e=>by subst e;rw[ha.2.1]at hk;injection hk with hk;exact hx hk.symm)];exact hk
 | _=>exact(Υ _ _ hl).trans hk
theorem aR {tab:cj} {O:VH} {t el:TypeId} {u:TypeDesc} {a b sz ZK:Nat} {z y:List MV} (h:tab t=some ⟨.slice el,a,b,z⟩) (h2:tab el=some ⟨u,sz,ZK,y⟩) {B n k:Nat} {cs ds:List MV} {tk tk':Tok} (ha:App O B sz tk)
  (hc:cs.length=n*sz) (hd:ds.length=k*sz) (hl:ds.all ec=true) (hs:0<sz) (hk:k≠0) (hb:(n+k)*ZK<=140737488355328) (hm:n+k<=maxLen):
  iy tab O t (.sl n cs tk) (.sl k ds tk')=some (.sl (n+k) (cs++ds) (.own O.N sz),O.after tk):=by
 simp only[iy,h,h2,agc];rw[if_pos ⟨hd,hl,hs⟩,if_neg hk,if_pos ⟨hc,hb,hm⟩];cases tk with
 | nil=>rfl
 | full=>rfl
 | own s j=>
   obtain⟨rfl,h3,_⟩:=ha;simp only[if_true,h3];rfl
 | au=>exact ha.elim
section
variable {tab:cj} {t el:TypeId} {u:TypeDesc} {a b d:Nat} {z:List MV} {y m0 m1 m2:MV}
end
section
variable {tab:cj} {t el:TypeId} {u:TypeDesc} {a b d:Nat} {z:List MV} {y:MV} {v0 v1 v2:Value}
end
theorem zp1 (i:Nat) (x:Operand) (m:MV):gP #[(i,x)] [m]=[(i,m)]:=rfl
theorem zp2 (i j:Nat) (x y:Operand) (m q:MV):gP #[(i,x),(j,y)] [m,q]=[(i,m),(j,q)]:=rfl
theorem zp3 (i j k:Nat) (x y z:Operand) (m q r:MV):gP #[(i,x),(j,y),(k,z)] [m,q,r]=[(i,m),(j,q),(k,r)]:=rfl
theorem aq (x:Int):mi x= .v (.int .i64 x):=rfl
theorem bw (x:Bool):mb x= .v (.bool x):=rfl
def looks (e:Env):List Nat->Option (List MV)
 | []=>some []
 | t::l=>(look e t).bind fun m=>(looks e l).map (m:: ·)
theorem QJ (e:Env):looks e []=some []:=rfl
theorem CV (e:Env) (t:Nat) (l:List Nat):looks e (t::l)=(look e t).bind fun m=>(looks e l).map (m:: ·):=rfl
def pair:List Nat->List MV->Env
 | t::l,m::ms=>(t,m)::pair l ms
 | _,_=>[]
theorem QK (t:Nat) (l:List Nat) (m:MV) (ms:List MV):pair (t::l) (m::ms)=(t,m)::pair l ms:=rfl
theorem VA (ms:List MV):pair [] ms=[]:=rfl
section
variable {n:Sz} {D:List Deferred} {e:Env} {P:Program} {O:VH} {Q:VQ} {c:Code}
end
def ID (P:Program) (n:Sz) (D:List Deferred) (d:Code) (Q:VQ):VQ:=fun x e O=>match x with
 | .normal=>VC P n D d e O Q
 | x=>Q x e O
def iW (id:Nat) (Q:VQ):VQ:=fun x e O=>match x with
 | .exit i=>if i=id then Q .normal e O else Q (.exit i) e O
 | x=>Q x e O
def Kc {σ :Type} (l:List Nat) (ms: σ ->List MV) (I: σ ->VH->Prop) (μ : σ ->Nat) (s: σ) (Q:VQ):VQ:=fun x e O=>match x with
 | .normal=>∃s',looks e l=some (ms s')/\I s' O/\ μ s'< μ s
 | x=>Q x e O
def nM (tab:cj) (fn:Func) (R:gC->VH->Prop):VQ:=fun x e O=>match x with
 | .normal=>∃m,dJ tab fn e O=some m/\R (.ret m) O
 | .ret=>∃m,dJ tab fn e O=some m/\R (.ret m) O
 | .panic m=>R (.panic m) O
 | _=>False
section
variable {n:Sz} {D:List Deferred} {e:Env} {P:Program} {O:VH} {Q:VQ} {c d:Code} {id i:Nat} {m:MV} {tab:cj} {fn:Func} {R:gC->VH->Prop}
theorem Kd:ID P n D d Q .normal e O=VC P n D d e O Q:=rfl
theorem QL:ID P n D d Q (.exit i) e O=Q (.exit i) e O:=rfl
theorem QM:ID P n D d Q (.goto i) e O=Q (.goto i) e O:=rfl
theorem VB:ID P n D d Q .ret e O=Q .ret e O:=rfl
theorem MB:ID P n D d Q (.panic m) e O=Q (.panic m) e O:=rfl
theorem vG:iW id Q .normal e O=Q .normal e O:=rfl
theorem An:iW id Q (.exit i) e O=if i=id then Q .normal e O else Q (.exit i) e O:=rfl
theorem Ao:iW id Q (.goto i) e O=Q (.goto i) e O:=rfl
theorem CW:iW id Q .ret e O=Q .ret e O:=rfl
theorem r7:iW id Q (.panic m) e O=Q (.panic m) e O:=rfl
section
variable {σ :Type} {l:List Nat} {ms: σ ->List MV} {I: σ ->VH->Prop} {μ : σ ->Nat} {s: σ}
theorem MC:Kc l ms I μ s Q (.exit i) e O=Q (.exit i) e O:=rfl
theorem ME:Kc l ms I μ s Q (.goto i) e O=Q (.goto i) e O:=rfl
theorem QN:Kc l ms I μ s Q .ret e O=Q .ret e O:=rfl
theorem Ke:Kc l ms I μ s Q (.panic m) e O=Q (.panic m) e O:=rfl
end
theorem vH:tR Q .normal e O=Q .normal e O:=rfl
theorem Ap:tR Q (.exit i) e O=Q (.exit i) e O:=rfl
theorem CY:tR Q .ret e O=Q .ret e O:=rfl
theorem yp:tR Q (.panic m) e O=Q (.panic m) e O:=rfl
theorem VC.seq' (h:VC P n D c e O (ID P n D d Q)):VC P n D (.seq c d) e O Q:=VC.seq h
theorem τ (h:VC P n D c e O (iW id Q)):VC P n D (.block id c) e O Q:=VC.block h
theorem VF.ad3 (ht:aO P tab) {f:FuncId} {c:Code} {args:List MV} (hf:P.funcs[f]?=some fn) (hb:fn.body=some c) (hn:args.length<=fn.ntmps)
  (h:VC P ⟨fn.ntmps,0⟩ [] c (cK 0 args) O (nM tab fn R)):VF P f args O R:=VF.enter ht hf hb hn h
end
section
variable {tab:cj} {n:Sz} {ops:Array Oper} {o:Oper} {l:List Oper} {e:Env} {O O':VH} {d:Option Tmp} {m:MV}
theorem ak (k:Nat):aZ (some k) m e=(k,m)::e:=rfl
theorem EY:aZ none m e=e:=rfl
theorem EZ {k N:Nat}:bC ⟨N,0⟩ (some k)=decide (k<N):=by simp[bC]
theorem ZL {k N l:Nat}:bC ⟨N,l+1⟩ (some k)=(decide (l<k)&&decide (k<N)):=rfl
theorem E0:bC n none=true:=rfl
end
section
variable {tab:cj} {fn:Func} {R:gC->VH->Prop} {e:Env} {O:VH} {m m':MV} {t t':Nat}
theorem nM.ZM (hf:fn.results= #[]) (h:R (.ret (.tuple [])) O):nM tab fn R .ret e O:=⟨_,by rw[dJ,hf];rfl,h⟩
theorem nM.ajA (hf:fn.results= #[.tmp t]) (hl:look e t=some m) (h:R (.ret m) O):nM tab fn R .ret e O:=⟨_,by rw[dJ,hf];simp[kz,hl],h⟩
theorem nM.ajB (hf:fn.results= #[.tmp t,.tmp t']) (hl:look e t=some m) (vv:look e t'=some m') (h:R (.ret (.tuple [m,m'])) O):nM tab fn R .ret e O:=⟨_,by rw[dJ,hf];simp[kz,hl,vv],h⟩
theorem nM.ZN (hf:fn.results= #[]) (h:R (.ret (.tuple [])) O):nM tab fn R .normal e O:=⟨_,by rw[dJ,hf];rfl,h⟩
end
section
variable {G H:Gh} {n:Sz} {D:List Deferred} {e e':Env} {a:Act} {P:Program} {tab:cj} {O O':VH} {w:World} {m m':MV} {u v:Value} {ops:Array Oper} {Q:VQ}
def fZ:Op->Nat
 | .move _ | .assign _ | .pick .. | .nilCheck _ | .binOp .. | .unOp .. | .convert .. | .fieldAddr .. | .field .. | .indexAddr .. | .index .. | .extract .. | .slice .. | .build .. | .makeFunc .. | .makeInterface .. =>1
 | .load .. =>2
 | .lookup .. =>5
 | .call c=>match c.callee with
   | .value _=>0
   | .builtin .len=>4
   | .builtin .max=>1
   | .builtin .min=>1
   | .builtin .unsafeSliceData=>1
   | _=>3
 | _=>3
theorem ZO {o:Oper} (h:fZ o.op=1):jk tab o e O=none:=by
 unfold jk;unfold fZ at h
 split<;>first
  | rfl
  | (rename_i ho;rw[ho]at h;cases h)
  | (rename_i ho
     rw[ho]at h
     split<;>first
      | rfl
      | (rename_i hc _ _;simp only[hc]at h;cases h))
theorem ZP {o:Oper} (h:fZ o.op=1) (hv:dD tab o e O=some (m,O')):eX tab o e=some m/\O'=O:=by
 unfold dD at hv;rw[ZO h]at hv;split at hv
 ·rename_i p hp;simp only[Option.some.injEq,Prod.mk.injEq]at hv;exact⟨by rw[hp,hv.1],hv.2.symm⟩
 ·cases hv
inductive Fl where
 | one | ar | rd | fk
inductive Md where
 | plain | any | reads
 | held (brk:List Nat)
def Ef (tab:cj) (t:TypeId):MV->Option MV
 | .dE cs off=>ft tab ⟨0,fun _=>none⟩ t (.dE cs off)
 | _=>none
def ZQ (tab:cj) (o:Oper) (e:Env) (O:VH):Option (MV×VH):=
 match o.op with
 | .load t x=>((ev e x).bind (Ef tab t)).map (·,O)
 | _=>none
def TB (tab:cj) (o:Oper) (e:Env) (O:VH):Option (MV×VH):=
 match o.op with
 | .call c=>match c.callee,c.args.toList,c.argTypes.toList with
   | .builtin .len,[x],[t]=>((ev e x).bind (dy tab t)).map (·,O)
   | _,_,_=>none
 | _=>none
def IE (tab:cj) (k:Nat) (o:Oper) (e:Env) (O:VH):Option (MV×VH):=
 match k with
 | 1=>dD tab o e O
 | 2=>ZQ tab o e O
 | 4=>TB tab o e O
 | _=>none
def Aq (tab:cj) (k:Nat) (o:Oper) (e:Env) (O:VH):Option (MV×VH):=
 match k with
 | 1=>dD tab o e O
 | 2=>dD tab o e O
 | 4=>TB tab o e O
 | 5=>dD tab o e O
 | _=>none
def iX (tab:cj) (f:Fl) (o:Oper) (e:Env) (O:VH):Option (MV×VH):=
 match f with
 | .one=>dD tab o e O
 | .fk=>none
 | .ar=>IE tab (fZ o.op) o e O
 | .rd=>Aq tab (fZ o.op) o e O
theorem VD {o:Oper} (hv:ZQ tab o e O=some (m,O')):eX tab o e=some m/\O'=O:=by
 unfold ZQ at hv;split at hv
 ·rename_i t x ho;obtain⟨q,h1,h2⟩:=Ma.1 hv;obtain⟨p,h3,h4⟩:=Qm.1 h1;simp only[Prod.mk.injEq]at h2;refine⟨?_,h2.2.symm⟩;rw[<-h2.1];unfold Ef at h4;split at h4
  ·simp only[eX,ho,h3];exact h4
  ·cases h4
 ·cases hv
theorem xq {o:Oper} (hv:TB tab o e O=some (m,O')):eX tab o e=some m/\O'=O:=by
 unfold TB at hv;split at hv
 ·rename_i c ho;split at hv
  ·rename_i x t hc ha fP;obtain⟨q,h1,h2⟩:=Ma.1 hv;simp only[Prod.mk.injEq]at h2;refine⟨?_,h2.2.symm⟩;rw[<-h2.1];simp only[eX,ho,hc,ha,fP];exact h1
  ·cases hv
 ·cases hv
theorem oB {o:Oper} (hv:iX tab .ar o e O=some (m,O')):eX tab o e=some m/\O'=O:=by
 simp only[iX,IE]at hv;split at hv
 ·exact ZP ‹_› hv
 ·exact VD hv
 ·exact xq hv
 ·cases hv
theorem Ar {o:Oper} (h:eX tab o e=some m):dD tab o e O=some (m,O):=by unfold dD;rw[h]
theorem B1 {f:Fl} {o:Oper} (hv:iX tab f o e O=some (m,O')):dD tab o e O=some (m,O'):=by
 cases f with
 | one=>exact hv
 | fk=>cases hv
 | ar=>obtain⟨h1,rfl⟩:=oB hv;exact Ar h1
 | rd=>
   simp only[iX,Aq]at hv;split at hv
   ·exact hv
   ·exact hv
   ·obtain⟨h1,rfl⟩:=xq hv;exact Ar h1
   ·exact hv
   ·cases hv
theorem xr (ht:aO P tab) (hw:WR G O w) (h:FR G n D e a) {f:Fl} {o:Oper} (hf:f≠ .one) (hv:iX tab f o e O=some (m,O')):O'=O/\∃u,VR G m u/\∀x,Sx G w x->(execOp a.eval o).run P x= .ok (.value u) x:=by
 have ar:∀{m},eX tab o e=some m->∃u,VR G m u/\∀x,Sx G w x->(execOp a.eval o).run P x= .ok (.value u) x:=fun h1=>by
  obtain⟨u,hu,hr⟩:=vu (P:=P) ht h h1;exact⟨u,hu,fun x hx=>hr x hx.1⟩
 cases f with
 | one=>exact absurd rfl hf
 | fk=>cases hv
 | ar=>obtain⟨h1,rfl⟩:=oB hv;exact⟨rfl,ar h1⟩
 | rd=>
   simp only[iX,Aq]at hv;split at hv
   ·obtain⟨h1,rfl⟩:=ZP ‹_› hv;exact⟨rfl,ar h1⟩
   ·rename_i hk;unfold dD at hv;split at hv
    ·rename_i p hp;simp only[Option.some.injEq,Prod.mk.injEq]at hv;obtain⟨rfl,rfl⟩:=hv;exact⟨rfl,ar hp⟩
    ·unfold jk at hv
     split at hv<;>first
      | (rename_i t x ho
         obtain⟨p,h1,h2⟩:=Qm.1 hv;obtain⟨q,h3,h4⟩:=Ma.1 h2;simp only[Prod.mk.injEq]at h4;obtain⟨rfl,rfl⟩:=h4;obtain⟨u,g1,g2⟩:=oX (P:=P) ht hw h3 (h.ev h1);exact⟨rfl,u,g1,fun x hx=>by simp only[execOp,ho,Sem.run_bind,g2 x hx];rfl⟩)
      | (rename_i ho;rw[ho]at hk;simp only[fZ]at hk;cases hk)
      | (rename_i ho _ _ _;rw[ho]at hk;simp only[fZ]at hk;cases hk)
      | cases hv
      | (rename_i c ho
         exfalso;rw[ho]at hk;simp only[fZ]at hk;split at hk<;>cases hk)
   ·obtain⟨h1,rfl⟩:=xq hv;exact⟨rfl,ar h1⟩
   ·rename_i hk;unfold dD at hv;split at hv
    ·rename_i p hp;simp only[Option.some.injEq,Prod.mk.injEq]at hv;obtain⟨rfl,rfl⟩:=hv;exact⟨rfl,ar hp⟩
    ·unfold jk at hv
     split at hv<;>first
      | (rename_i t x k ok ho
         split at hv
         ·rename_i p q h1 h2;obtain⟨r,h3,h4⟩:=Ma.1 hv;simp only[Prod.mk.injEq]at h4;obtain⟨rfl,rfl⟩:=h4;obtain⟨u,g1,g2⟩:=yj (P:=P) ht hw h3 (h.ev h1) (h.ev h2);exact⟨rfl,u,g1,fun x hx=>by simp only[execOp,ho,Sem.run_bind,g2 x hx];rfl⟩
         ·cases hv)
      | (rename_i ho;rw[ho]at hk;simp only[fZ]at hk;cases hk)
      | (rename_i ho _ _ _;rw[ho]at hk;simp only[fZ]at hk;cases hk)
      | cases hv
      | (rename_i c ho
         exfalso;rw[ho]at hk;simp only[fZ]at hk;split at hk<;>cases hk)
   ·cases hv
def cV (md:Md) (ops:Array Oper):Nat->Array Bool->List (Nat×Fl)->Bool
 | _,listed,[]=>Region.ready .any ops listed==[]
 | 0,_,_::_=>false
 | k+1,listed,(i,f)::r=>(match f,md,r with
   | .one,.any,_=>Region.ready .any ops listed==[i]
   | .ar,.any,_=>Region.free .any ops listed i&&(Region.ready .any ops listed).contains i
   | .ar,.reads,_=>Region.free .any ops listed i&&(Region.ready .any ops listed).contains i
   | .rd,.reads,_=>Region.free .any ops listed i&&(Region.ready .any ops listed).contains i
   | .ar,.held brk,_=>Region.free .any ops listed i&&(Region.ready .any ops listed).contains i&&oA ops brk listed i
   | .rd,.held brk,_=>Region.free .any ops listed i&&(Region.ready .any ops listed).contains i&&oA ops brk listed i
   | .one,.held brk,_=>Region.ready .any ops listed==[i]&&((!brk.contains i&&((ops[i]?).map fun o=>Hs o.op).getD false)||(brk.contains i&&(List.range listed.size).all fun j=>(listed.setIfInBounds i true).getD j true||brk.contains j))
   | .fk,.any,(j,.one)::_=>(Region.ready .any ops listed==[i,j]||Region.ready .any ops listed==[j,i])&&Region.ready .any ops (listed.setIfInBounds i true)==[j]&&Region.ready .any ops (listed.setIfInBounds j true)==[i]
   | _,_,_=>false)&&cV md ops k (listed.setIfInBounds i true) r
def Fits (ops:Array Oper):List (Nat×Fl)->List (Fl×Oper)->Prop
 | [],[]=>True
 | (i,f)::ix,(g,o)::L=>f=g/\ops[i]?=some o/\Fits ops ix L
 | _,_=>False
def ahS (P:Program) (n:Sz) (D:List Deferred) (ops:Array Oper) (fuel:Nat) (listed:Array Bool) (e:Env) (O:VH) (Q:VQ):Prop:=
 ∀G a w,WR G O w->FR G n D e a->wpAnyH P .any ops (cM G n D Q) (fun x=>x=w) fuel listed a w
def ZR (P:Program) (n:Sz) (D:List Deferred) (md:Md) (ops:Array Oper) (fuel:Nat) (listed:Array Bool) (ix:List (Nat×Fl)) (e:Env) (O:VH) (Q:VQ):Prop:=
 match md with
 | .plain=>iU P n D ops (ix.map (·.1)) e O Q
 | .any=>cE P n D ops fuel listed e O Q
 | .reads=>ahS P n D ops fuel listed e O Q
 | .held brk=>bQ P n D ops brk fuel listed e O Q
def VL (P:Program) (n:Sz) (D:List Deferred) (md:Md) (ops:Array Oper) (L:List (Fl×Oper)) (e:Env) (O:VH) (Q:VQ):Prop:=
 ∀fuel listed ix,Fits ops ix L->(md≠ .plain->Region.noSelect ops=true/\cV md ops fuel listed ix=true)->ZR P n D md ops fuel listed ix e O Q
theorem VL.nil {md:Md} (h:Q .normal e O):VL P n D md ops [] e O Q:=by
 intro fuel listed ix hf hp;cases ix with
 | cons x ix=>exact hf.elim
 | nil=>
   cases md with
   | plain=>exact iU.nil h
   | any=>
     have:=(hp (by simp)).2;rw[cV]at this;exact cE.done (by simpa using this) h
   | reads=>
     have:=(hp (by simp)).2;rw[cV]at this;intro G a w hw aW;exact wpAnyH_done (by simpa using this) ⟨.normal,e,O,G,Gh.Le.refl G,hw,aW,trivial,h⟩ fuel
   | held brk=>
     have:=(hp (by simp)).2;rw[cV]at this;exact bQ.done (by simpa using this) h
theorem sD {brk:List Nat} {i:Nat} {listed:Array Bool} {o:Oper} (ho:ops[i]?=some o) (h:((!brk.contains i&&((ops[i]?).map fun o=>Hs o.op).getD false)||(brk.contains i&&(List.range listed.size).all fun j=>(listed.setIfInBounds i true).getD j true||brk.contains j))=true):
  (brk.contains i=false/\Hs o.op=true)\/∀j,(listed.setIfInBounds i true).getD j true=false\/j=i->brk.contains j=true:=by
 rw[ho]at h;simp only[agc,Option.getD_some,ana,Qn,Bool.not_eq_true']at h;rcases h with h | ⟨h1,h2⟩
 ·exact .inl h
 ·refine .inr fun j hj=>?_
  rcases hj with hj | rfl
  ·rcases ajt j listed.size with hl | hl
   ·have:=am8.1 h2 j (List.mem_range.2 hl);rw[hj,Bool.false_or]at this;exact this
   ·rw[aju,ajk (by simpa using hl)]at hj;cases hj
  ·exact h1
theorem aL.skip {i:Nat} {o:Oper} {K:Env->VH->Prop} (ho:ops[i]?=some o) (hg:aN ops o e=some false) (hd:bC n o.dst=true) (hk:K (aZ o.dst cT e) O):aL P n D ops i e O Q K:=by
 intro G a w hw aW;simp only[wpOp,ho,bA aW hg,Zj,if_false];exact⟨_,_,G,Gh.Le.refl G,hw,aW.aZ hd lL,hk⟩
theorem vI {f:Fl} {o:Oper} (hf:f≠ .one) (hv:iX tab f o e O=some (m,O')):O'=O:=by
 cases f with
 | one=>exact absurd rfl hf
 | fk=>cases hv
 | ar=>exact(oB hv).2
 | rd=>
   simp only[iX,Aq]at hv
   have key:∀{k},fZ o.op=k->k≠0->k≠3->dD tab o e O=some (m,O')->O'=O:=fun{k} hk h0 h3 hv=>by
    unfold dD at hv;split at hv
    ·simp only[Option.some.injEq,Prod.mk.injEq]at hv;exact hv.2.symm
    ·unfold jk at hv
     split at hv<;>first
      | (rename_i ho;rw[ho]at hk;simp only[fZ]at hk;exact absurd hk.symm h3)
      | (cases hv;done)
      | (rename_i ho _ _ _;rw[ho]at hk;simp only[fZ]at hk;exact absurd hk.symm h3)
      | (obtain⟨p,h1,h2⟩:=Qm.1 hv
         obtain⟨q,h3,h4⟩:=Ma.1 h2;simp only[Prod.mk.injEq]at h4;exact h4.2.symm)
      | (split at hv
         ·obtain⟨r,h3,h4⟩:=Ma.1 hv;simp only[Prod.mk.injEq]at h4;exact h4.2.symm
         ·cases hv)
      | (rename_i c ho
         rw[ho]at hk;simp only[fZ]at hk;split at hv
         ·rename_i hc _ _;simp only[hc]at hk;exact absurd hk.symm h3
         ·obtain⟨p,h1,h2⟩:=Qm.1 hv;obtain⟨q,h3,h4⟩:=Ma.1 h2;simp only[Prod.mk.injEq]at h4;exact h4.2.symm
         ·cases hv)
   split at hv
   ·exact key ‹_› (by decide) (by decide) hv
   ·exact key ‹_› (by decide) (by decide) hv
   ·exact(xq hv).2
   ·exact key ‹_› (by decide) (by decide) hv
   ·cases hv
theorem VL.step (ht:aO P tab) {md:Md} {f:Fl} {o:Oper} {L:List (Fl×Oper)} (hg:aN ops o e=some true) (hv:iX tab f o e O=some (m,O')) (hd:bC n o.dst=true)
  (h:VL P n D md ops L (aZ o.dst m e) O' Q):VL P n D md ops ((f,o)::L) e O Q:=by
 intro fuel listed ix hf hp
 match ix,hf with
 | (i,g)::ix,hf=>
   obtain⟨rfl,ho,hf⟩:=hf;cases md with
   | plain=>exact iU.step ht ho hg (B1 hv) hd (h 0 #[] ix hf (fun h=>absurd rfl h))
   | any=>
     obtain⟨h1,h2⟩:=hp (by simp);cases fuel with
     | zero=>cases h2
     | succ fuel=>
       simp only[cV,Qn]at h2;have hk:=h fuel (listed.setIfInBounds i true) ix hf (fun _=>⟨h1,h2.2⟩);cases g with
       | one=>
         have hr:Region.ready .any ops listed=[i]:=by simpa using h2.1
         exact cE.all hr (by simp) fun j hj=>by
          obtain rfl:j=i:=by simpa using hj
          exact aL.op ht ho hg (B1 hv) hd hk
       | ar=>
         obtain⟨hs,rfl⟩:=oB hv;simp only[Qn]at h2;exact cE.Tx ht ho h1 h2.1.1 h2.1.2 hg hs hd hk
       | rd=>exact absurd h2.1 (by simp)
       | fk=>cases hv
   | reads=>
     obtain⟨h1,h2⟩:=hp (by simp);cases fuel with
     | zero=>cases h2
     | succ fuel=>
       simp only[cV,Qn]at h2;have hk:=h fuel (listed.setIfInBounds i true) ix hf (fun _=>⟨h1,h2.2⟩);have hne:g≠ .one:=by rintro rfl;exact absurd h2.1 (by simp)
       intro G a w hw aW;obtain⟨rfl,u,hu,cC⟩:=xr (P:=P) ht hw aW hne hv;have h3:Region.free .any ops listed i=true/\(Region.ready .any ops listed).contains i=true:=by cases g<;>simp_all
       exact wpAnyH_take ho h1 h3.1 h3.2 (iA hd) (.inl ⟨bA aW hg,fun w' Ew=>by rw[Ew];exact cC w hw.sx⟩) rfl (hk G _ w hw (aW.aZ hd hu))
   | held brk=>
     obtain⟨h1,h2⟩:=hp (by simp);cases fuel with
     | zero=>cases h2
     | succ fuel=>
       simp only[cV,Qn]at h2;have hk:=h fuel (listed.setIfInBounds i true) ix hf (fun _=>⟨h1,h2.2⟩);cases g with
       | one=>
         simp only[Qn]at h2;have hr:Region.ready .any ops listed=[i]:=by simpa using h2.1.1
         exact bQ.one ht ho hr (sD ho h2.1.2) hg (B1 hv) hd hk
       | fk=>exact absurd h2.1 (by simp)
       | ar=>
         simp only[Qn]at h2
         exact bQ.take ho h1 h2.1.1.1 h2.1.1.2 h2.1.2 hd (fun G a w hw aW=>by
          obtain⟨_,u,hu,cC⟩:=xr (P:=P) ht hw aW (by simp) hv;exact⟨u,hu,.inl ⟨bA aW hg,cC⟩⟩) (by
          obtain rfl:=vI (by simp) hv;exact hk)
       | rd=>
         simp only[Qn]at h2
         exact bQ.take ho h1 h2.1.1.1 h2.1.1.2 h2.1.2 hd (fun G a w hw aW=>by
          obtain⟨_,u,hu,cC⟩:=xr (P:=P) ht hw aW (by simp) hv;exact⟨u,hu,.inl ⟨bA aW hg,cC⟩⟩) (by
          obtain rfl:=vI (by simp) hv;exact hk)
theorem VL.skip {md:Md} {f:Fl} {o:Oper} {L:List (Fl×Oper)} (MF:f≠ .fk) (hg:aN ops o e=some false) (hd:bC n o.dst=true)
  (h:VL P n D md ops L (aZ o.dst cT e) O Q):VL P n D md ops ((f,o)::L) e O Q:=by
 intro fuel listed ix hf hp
 match ix,hf with
 | (i,g)::ix,hf=>
   obtain⟨rfl,ho,hf⟩:=hf;cases md with
   | plain=>exact iU.skip ho hg hd (h 0 #[] ix hf (fun h=>absurd rfl h))
   | any=>
     obtain⟨h1,h2⟩:=hp (by simp);cases fuel with
     | zero=>cases h2
     | succ fuel=>
       simp only[cV,Qn]at h2;have hk:=h fuel (listed.setIfInBounds i true) ix hf (fun _=>⟨h1,h2.2⟩);cases g with
       | one=>
         have hr:Region.ready .any ops listed=[i]:=by simpa using h2.1
         exact cE.all hr (by simp) fun j hj=>by
          obtain rfl:j=i:=by simpa using hj
          exact aL.skip ho hg hd hk
       | ar=>
         simp only[Qn]at h2;exact cE.ZD ho h1 h2.1.1 h2.1.2 hg hd hk
       | rd=>exact absurd h2.1 (by simp)
       | fk=>exact absurd rfl MF
   | reads=>
     obtain⟨h1,h2⟩:=hp (by simp);cases fuel with
     | zero=>cases h2
     | succ fuel=>
       simp only[cV,Qn]at h2;have hk:=h fuel (listed.setIfInBounds i true) ix hf (fun _=>⟨h1,h2.2⟩);have hne:g≠ .one:=by rintro rfl;exact absurd h2.1 (by simp)
       intro G a w hw aW;have h3:Region.free .any ops listed i=true/\(Region.ready .any ops listed).contains i=true:=by cases g<;>simp_all
       exact wpAnyH_take ho h1 h3.1 h3.2 (iA hd) (.inr ⟨bA aW hg,rfl⟩) rfl (hk G _ w hw (aW.aZ hd lL))
   | held brk=>
     obtain⟨h1,h2⟩:=hp (by simp);cases fuel with
     | zero=>cases h2
     | succ fuel=>
       simp only[cV,Qn]at h2;have hk:=h fuel (listed.setIfInBounds i true) ix hf (fun _=>⟨h1,h2.2⟩);cases g with
       | one=>
         simp only[Qn]at h2;have hr:Region.ready .any ops listed=[i]:=by simpa using h2.1.1
         exact bQ.ahQ ho hr (sD ho h2.1.2) hg hd hk
       | fk=>exact absurd h2.1 (by simp)
       | ar=>
         simp only[Qn]at h2;exact bQ.take ho h1 h2.1.1.1 h2.1.1.2 h2.1.2 hd (fun G a w hw aW=>⟨undef,lL,.inr ⟨bA aW hg,rfl⟩⟩) hk
       | rd=>
         simp only[Qn]at h2;exact bQ.take ho h1 h2.1.1.1 h2.1.1.2 h2.1.2 hd (fun G a w hw aW=>⟨undef,lL,.inr ⟨bA aW hg,rfl⟩⟩) hk
theorem VL.call {md:Md} {L:List (Fl×Oper)} {d:Option Tmp} {f:Operand} {args:Array Operand} {tys:Array TypeId} {ty:TypeId} {ps:String} {af:Array Edge} {g:Option (Nat×Bool)} {id:FuncId} {fs ms cs as_:List MV} {R:gC->VH->Prop}
  (hg:aN ops (.mk d (.call {callee:=.value f,args:=args,argTypes:=tys}) ty ps af g) e=some true) (hf:ev e f=some (.func (.func id) fs cs)) (hm:gh e args.toList=some ms) (ha:fs++ms++cs=as_) (hE:Enters P id) (hd:bC n d=true) (hR:VF P id as_ O R)
  (h:∀r O',R r O'->match r with
   | .ret m=>VL P n D md ops L (aZ d m e) O' Q
   | .panic m=>Q (.panic m) (k_ n e) O'):VL P n D md ops ((.one,.mk d (.call {callee:=.value f,args:=args,argTypes:=tys}) ty ps af g)::L) e O Q:=by
 intro fuel listed ix sE hp;subst ha
 match ix,sE with
 | (i,g')::ix,sE=>
   obtain⟨rfl,ho,sE⟩:=sE;cases md with
   | plain=>
     refine iU.call ho hg rfl rfl hf hm hE hd hR fun r O' hr=>?_
     have:=h r O' hr;cases r with
     | ret m=>exact this 0 #[] ix sE (fun h=>absurd rfl h)
     | panic m=>exact this
   | any=>
     obtain⟨h1,h2⟩:=hp (by simp);cases fuel with
     | zero=>cases h2
     | succ fuel=>
       simp only[cV,Qn]at h2;have hr:Region.ready .any ops listed=[i]:=by simpa using h2.1
       exact cE.all hr (by simp) fun j hj=>by
        obtain rfl:j=i:=by simpa using hj
        refine aL.call ho hg rfl rfl hf hm hE hd hR fun r O' hr=>?_
        have:=h r O' hr;cases r with
        | ret m=>exact this fuel (listed.setIfInBounds j true) ix sE (fun _=>⟨h1,h2.2⟩)
        | panic m=>exact this
   | reads=>
     obtain⟨h1,h2⟩:=hp (by simp);cases fuel with
     | zero=>cases h2
     | succ fuel=>
       simp only[cV,Qn]at h2;exact absurd h2.1 (by simp)
   | held brk=>
     obtain⟨h1,h2⟩:=hp (by simp);cases fuel with
     | zero=>cases h2
     | succ fuel=>
       simp only[cV,Qn]at h2;have hr:Region.ready .any ops listed=[i]:=by simpa using h2.1.1
       have hb:∀j,(listed.setIfInBounds i true).getD j true=false\/j=i->brk.contains j=true:=by
        rcases sD ho h2.1.2 with⟨_,h3⟩ | h3
        ·cases h3
        ·exact h3
       refine bQ.ZI hr hb (aL.call ho hg rfl rfl hf hm hE hd hR fun r O' hr=>?_);have:=h r O' hr;cases r with
       | ret m=>exact this fuel (listed.setIfInBounds i true) ix sE (fun _=>⟨h1,h2.2⟩)
       | panic m=>exact this
def jl (tab:cj) (n:Sz) (ops:Array Oper):List (Fl×Oper)->Env->VH->Option (List (Fl×Oper)×Env×VH)
 | [],e,O=>some ([],e,O)
 | (.fk,o)::L,e,O=>some ((.fk,o)::L,e,O)
 | (f,o)::L,e,O=>match fZ o.op==0,aN ops o e with
   | _,none=>none
   | true,some true=>some ((f,o)::L,e,O)
   | false,some true=>match iX tab f o e O with
     | none=>some ((f,o)::L,e,O)
     | some (m,O')=>match bC n o.dst with
       | true=>jl tab n ops L (aZ o.dst m e) O'
       | false=>none
   | _,some false=>match bC n o.dst with
     | true=>jl tab n ops L (aZ o.dst cT e) O
     | false=>none
theorem VL.run (ht:aO P tab) {md:Md}:∀{L L':List (Fl×Oper)} {e:Env} {O:VH},jl tab n ops L e O=some (L',e',O')->VL P n D md ops L' e' O' Q->VL P n D md ops L e O Q
 | [],L',e,O,h,hQ=>by
   simp only[jl,Option.some.injEq,Prod.mk.injEq]at h;obtain⟨rfl,rfl,rfl⟩:=h;exact hQ
 | (.fk,o)::L,L',e,O,h,hQ=>by
   simp only[jl,Option.some.injEq,Prod.mk.injEq]at h;obtain⟨rfl,rfl,rfl⟩:=h;exact hQ
 | (.one,o)::L,L',e,O,h,hQ=>by
   simp only[jl]at h;split at h
   ·cases h
   ·simp only[Option.some.injEq,Prod.mk.injEq]at h;obtain⟨rfl,rfl,rfl⟩:=h;exact hQ
   ·split at h
    ·simp only[Option.some.injEq,Prod.mk.injEq]at h;obtain⟨rfl,rfl,rfl⟩:=h;exact hQ
    ·split at h
     ·exact VL.step ht ‹_› ‹_› ‹_› (VL.run ht h hQ)
     ·cases h
   ·split at h
    ·exact VL.skip (by simp) ‹_› ‹_› (VL.run ht h hQ)
    ·cases h
 | (.ar,o)::L,L',e,O,h,hQ=>by
   simp only[jl]at h;split at h
   ·cases h
   ·simp only[Option.some.injEq,Prod.mk.injEq]at h;obtain⟨rfl,rfl,rfl⟩:=h;exact hQ
   ·split at h
    ·simp only[Option.some.injEq,Prod.mk.injEq]at h;obtain⟨rfl,rfl,rfl⟩:=h;exact hQ
    ·split at h
     ·exact VL.step ht ‹_› ‹_› ‹_› (VL.run ht h hQ)
     ·cases h
   ·split at h
    ·exact VL.skip (by simp) ‹_› ‹_› (VL.run ht h hQ)
    ·cases h
 | (.rd,o)::L,L',e,O,h,hQ=>by
   simp only[jl]at h;split at h
   ·cases h
   ·simp only[Option.some.injEq,Prod.mk.injEq]at h;obtain⟨rfl,rfl,rfl⟩:=h;exact hQ
   ·split at h
    ·simp only[Option.some.injEq,Prod.mk.injEq]at h;obtain⟨rfl,rfl,rfl⟩:=h;exact hQ
    ·split at h
     ·exact VL.step ht ‹_› ‹_› ‹_› (VL.run ht h hQ)
     ·cases h
   ·split at h
    ·exact VL.skip (by simp) ‹_› ‹_› (VL.run ht h hQ)
    ·cases h
def MG (tab:cj) (n:Sz) (ops:Array Oper) (L:List (Fl×Oper)) (e:Env) (O:VH):Bool->Option (List (Fl×Oper)×Env×VH)
 | true=>jl tab n ops L e O
 | false=>none
def ZS (tab:cj) (n:Sz) (ops:Array Oper) (fo:Fl×Oper) (L:List (Fl×Oper)) (e:Env) (O:VH):Option (MV×VH)->Option (List (Fl×Oper)×Env×VH)
 | some (m,O')=>MG tab n ops L (aZ fo.2.dst m e) O' (bC n fo.2.dst)
 | none=>some (fo::L,e,O)
def MH (tab:cj) (n:Sz) (ops:Array Oper) (f:Fl) (o:Oper) (L:List (Fl×Oper)) (e:Env) (O:VH):Bool->Option Bool->Option (List (Fl×Oper)×Env×VH)
 | _,none=>none
 | true,some true=>some ((f,o)::L,e,O)
 | false,some true=>ZS tab n ops (f,o) L e O (iX tab f o e O)
 | _,some false=>MG tab n ops L (aZ o.dst cT e) O (bC n o.dst)
section
variable {f:Fl} {o:Oper} {L:List (Fl×Oper)} {d:Option Tmp} {p:Op} {ty:TypeId} {ps:String} {af:Array Edge} {g:Option (Nat×Bool)} {b:Bool}
theorem QO:jl tab n ops [] e O=some ([],e,O):=rfl
theorem vJ (MF:f≠ .fk):jl tab n ops ((f,.mk d p ty ps af g)::L) e O=MH tab n ops f (.mk d p ty ps af g) L e O (fZ p==0) (aN ops (.mk d p ty ps af g) e):=by
 have key:jl tab n ops ((f,.mk d p ty ps af g)::L) e O=match fZ p==0,aN ops (.mk d p ty ps af g) e with
  | _,none=>none
  | true,some true=>some ((f,.mk d p ty ps af g)::L,e,O)
  | false,some true=>match iX tab f (.mk d p ty ps af g) e O with
    | none=>some ((f,.mk d p ty ps af g)::L,e,O)
    | some (m,O')=>match bC n d with
      | true=>jl tab n ops L (aZ d m e) O'
      | false=>none
  | _,some false=>match bC n d with
    | true=>jl tab n ops L (aZ d cT e) O
    | false=>none:=by
  cases f<;>first | exact absurd rfl MF | rfl
 rw[key];generalize aN ops (.mk d p ty ps af g) e=x;generalize (fZ p==0)=y;unfold MH;cases x with
 | none=>rfl
 | some b=>
   cases b<;>cases y<;>simp only
   ·unfold MG;cases bC n d<;>rfl
   ·unfold MG;cases bC n d<;>rfl
   ·unfold ZS;cases iX tab f (.mk d p ty ps af g) e O with
    | none=>rfl
    | some r=>unfold MG;cases bC n d<;>rfl
theorem QP:jl tab n ops ((.one,.mk d p ty ps af g)::L) e O=MH tab n ops .one (.mk d p ty ps af g) L e O (fZ p==0) (aN ops (.mk d p ty ps af g) e):=vJ (by simp)
theorem QQ:jl tab n ops ((.ar,.mk d p ty ps af g)::L) e O=MH tab n ops .ar (.mk d p ty ps af g) L e O (fZ p==0) (aN ops (.mk d p ty ps af g) e):=vJ (by simp)
theorem VE:jl tab n ops ((.rd,.mk d p ty ps af g)::L) e O=MH tab n ops .rd (.mk d p ty ps af g) L e O (fZ p==0) (aN ops (.mk d p ty ps af g) e):=vJ (by simp)
theorem VG:jl tab n ops ((.fk,o)::L) e O=some ((.fk,o)::L,e,O):=rfl
theorem VI:MH tab n ops f o L e O true (some true)=some ((f,o)::L,e,O):=rfl
theorem ad4:MH tab n ops f (.mk d p ty ps af g) L e O false (some true)=ZS tab n ops (f,.mk d p ty ps af g) L e O (iX tab f (.mk d p ty ps af g) e O):=rfl
theorem VJ:MH tab n ops f (.mk d p ty ps af g) L e O b (some false)=MG tab n ops L (aZ d cT e) O (bC n d):=by cases b<;>rfl
theorem VK:ZS tab n ops (f,.mk d p ty ps af g) L e O (some (m,O'))=MG tab n ops L (aZ d m e) O' (bC n d):=rfl
theorem VN {fo:Fl×Oper}:ZS tab n ops fo L e O none=some (fo::L,e,O):=rfl
theorem VO:MG tab n ops L e O true=jl tab n ops L e O:=rfl
theorem xt:iX tab .one o e O=dD tab o e O:=rfl
theorem IF:iX tab .ar (.mk d p ty ps af g) e O=IE tab (fZ p) (.mk d p ty ps af g) e O:=rfl
theorem MI:iX tab .rd (.mk d p ty ps af g) e O=Aq tab (fZ p) (.mk d p ty ps af g) e O:=rfl
theorem TC:IE tab 1 o e O=dD tab o e O:=rfl
theorem TD {t:TypeId} {x:Operand}:IE tab 2 (.mk d (.load t x) ty ps af g) e O=((ev e x).bind (Ef tab t)).map (·,O):=rfl
theorem TF {t:TypeId} {x:Operand}:IE tab 4 (.mk d (.call {callee:=.builtin .len,args:= #[x],argTypes:= #[t]}) ty ps af g) e O=((ev e x).bind (dy tab t)).map (·,O):=rfl
theorem TG:Aq tab 1 o e O=dD tab o e O:=rfl
theorem TI:Aq tab 2 o e O=dD tab o e O:=rfl
theorem TK:Aq tab 5 o e O=dD tab o e O:=rfl
theorem TL {t:TypeId} {x:Operand}:Aq tab 4 (.mk d (.call {callee:=.builtin .len,args:= #[x],argTypes:= #[t]}) ty ps af g) e O=((ev e x).bind (dy tab t)).map (·,O):=rfl
theorem IG {t:TypeId} {cs:List MV} {off:Nat}:Ef tab t (.dE cs off)=ft tab ⟨0,fun _=>none⟩ t (.dE cs off):=rfl
end
section
variable {x y z:Operand} {t t':TypeId} {f:Nat} {q:BinOp} {r:UnOp} {as_:Array Operand} {ts:Array TypeId} {l h k:Option Operand} {fn:Fn} {ps:Array (Nat×Operand)}
theorem IH:fZ (.move x)=1:=rfl
theorem CZ:fZ (.assign x)=1:=rfl
theorem II:fZ (.pick x y z)=1:=rfl
theorem yq:fZ (.nilCheck x)=1:=rfl
theorem E5:fZ (.binOp q t x y t')=1:=rfl
theorem IJ:fZ (.unOp r t x)=1:=rfl
theorem As:fZ (.convert t t' x)=1:=rfl
theorem vK:fZ (.fieldAddr t x f)=1:=rfl
theorem E8:fZ (.field t x f)=1:=rfl
theorem vL:fZ (.indexAddr t x y)=1:=rfl
theorem E9:fZ (.index t x y)=1:=rfl
theorem At:fZ (.extract x f)=1:=rfl
theorem E_:fZ (.slice t x l h k)=1:=rfl
theorem Fa:fZ (.build t ps)=1:=rfl
theorem yr {VP:Array Operand}:fZ (.makeFunc fn as_ VP)=1:=rfl
theorem qt:fZ (.makeInterface t x)=1:=rfl
theorem IK:fZ (.load t x)=2:=rfl
theorem Fb:fZ (.call {callee:=.value x,args:=as_,argTypes:=ts})=0:=rfl
theorem MJ:fZ (.call {callee:=.builtin .len,args:=as_,argTypes:=ts})=4:=rfl
theorem MK:fZ (.call {callee:=.builtin .max,args:=as_,argTypes:=ts})=1:=rfl
theorem ML:fZ (.call {callee:=.builtin .min,args:=as_,argTypes:=ts})=1:=rfl
theorem QR:fZ (.call {callee:=.builtin .unsafeSliceData,args:=as_,argTypes:=ts})=1:=rfl
theorem C0:fZ (.call {callee:=.builtin .append,args:=as_,argTypes:=ts})=3:=rfl
theorem Fc:fZ (.store t x y)=3:=rfl
theorem MM:fZ (.box t x)=3:=rfl
theorem Fe:fZ (.alloc t)=3:=rfl
theorem uJ:fZ (.buildSlice t f ps)=3:=rfl
theorem Au {t:TypeId} {r:Option Operand}:fZ (.makeMap t r)=3:=rfl
theorem C1 {t:TypeId} {x y:Operand} {b:Bool}:fZ (.lookup t x y b)=5:=rfl
theorem vM {t:TypeId} {x y z:Operand}:fZ (.mapUpdate t x y z)=3:=rfl
theorem C3 {t:TypeId} {x y z:Operand}:fZ (.insert t x y z)=3:=rfl
theorem vN:fZ (.makeSlice t x y)=3:=rfl
end
theorem vO:∀(l:List Oper) (k:Nat),(∀j,l[j]?=none\/l[j]?=ops[k+j]?)->Fits ops ((List.range' k l.length).map (·,Fl.one)) (l.map (Fl.one, ·))
 | [],_,_=>trivial
 | o::l,k,h=>by
   rw[ajr,List.range'_succ];refine⟨rfl,?_,vO l (k+1) fun j=>?_⟩
   ·rcases h 0 with h0 | h0
    ·cases h0
    ·simpa using h0.symm
   ·rcases h (j+1)with h0 | h0
    ·exact .inl (by simpa using h0)
    ·exact .inr (by rw[show k+1+j=k+(j+1)from by omega];simpa using h0)
theorem VC.TM {id:Nat} {l:List Oper} (h:VL P n D .plain ⟨l⟩ (l.map (Fl.one, ·)) e O Q):VC P n D (.region id ⟨l⟩ false) e O Q:=by
 refine VC.region ?_;have:=h 0 #[] _ (vO l 0 fun j=>.inr (by simp)) (fun h=>absurd rfl h);simp only[ZR,List.map_map]at this;rw[show(⟨l⟩:Array Oper).size=l.length from rfl,List.range_eq_range'];rw[show((fun x:Nat×Fl=>x.1) ∘ fun x=>(x,Fl.one))=_root_.id from rfl,List.map_id]at this;exact this
def oC (l:List Oper):List (Nat×Fl)->Option (List (Fl×Oper))
 | []=>some []
 | (i,f)::ix=>match l[i]?,oC l ix with
   | some o,some L=>some ((f,o)::L)
   | _,_=>none
theorem tU {l:List Oper}:∀{ix:List (Nat×Fl)} {L:List (Fl×Oper)},oC l ix=some L->Fits ⟨l⟩ ix L
 | [],L,h=>by injection h with h;subst h;trivial
 | (i,f)::ix,L,h=>by
   simp only[oC]at h;split at h
   ·rename_i o L' h1 h2;injection h with h;subst h;exact⟨rfl,by simpa using h1,tU h2⟩
   ·cases h
theorem VC.TN (md:Md) (ix:List (Nat×Fl)) {id:Nat} {l:List Oper} {L:List (Fl×Oper)} (hne:md≠ .plain) (hm:P.follows .mixedOrders=true) (hs:Region.noSelect ⟨l⟩=true) (hp:cV md ⟨l⟩ l.length (Array.replicate l.length false) ix=true) (hL:oC l ix=some L)
  (h:VL P n D md ⟨l⟩ L e O Q):VC P n D (.region id ⟨l⟩ true) e O Q:=by
 have:=h l.length (Array.replicate l.length false) ix (tU hL) (fun _=>⟨hs,hp⟩);cases md with
 | plain=>exact absurd rfl hne
 | any=>exact VC.draw hm this
 | reads=>exact fun G a w hw hf=>wp_region_held hm (this G a _ (hw.drawn _) hf)
 | held brk=>exact VC.J_ brk hm this
end
theorem agj (b:Bool):(b==true)=b:=by cases b<;>rfl
theorem agk (b:Bool):(b==false)= !b:=by cases b<;>rfl
theorem TO {a b:Int} (h:a=b):(a==b)=true:=by simpa using h
theorem TP {a b:Int} (h:¬a=b):(a==b)=false:=by simpa using h
theorem TR {a b:Int} (h:¬a=b):(a != b)=true:=by simpa using h
theorem TT {a b:Int} (h:a=b):(a != b)=false:=by simpa using h
def aD (Φ :MV->VH->Prop):gC->VH->Prop
 | .ret m,O=> Φ m O
 | .panic _,_=>False
section
variable {n:Sz} {D:List Deferred} {e:Env} {P:Program} {tab:cj} {O:VH} {ops:Array Oper} {Q:VQ} {Φ :MV->VH->Prop}
theorem MN {m:MV}:aD Φ (.ret m) O= Φ m O:=rfl
end
theorem C4 (f:Fl):∀(l pre:List Oper),oC (pre++l) ((List.range' pre.length l.length).map (·,f))=some (l.map (f, ·))
 | [],_=>rfl
 | o::l,pre=>by
   rw[ajr,List.range'_succ,ajl,ajl,oC];have:=C4 f l (pre++[o]);rw[am6,ajo]at this;simp only[List.singleton_append,ajr,List.length_nil,ajm]at this;rw[this];simp
theorem VC.TU {n:Sz} {D:List Deferred} {e:Env} {P:Program} {O:VH} {Q:VQ} {id:Nat} {l:List Oper} (hm:P.follows .mixedOrders=true) (hs:Region.noSelect ⟨l⟩=true) (hp:cV .reads ⟨l⟩ l.length (Array.replicate l.length false) ((List.range' 0 l.length).map (·,Fl.rd))=true)
  (h:VL P n D .reads ⟨l⟩ (l.map (Fl.rd, ·)) e O Q):VC P n D (.region id ⟨l⟩ true) e O Q:=
 VC.TN .reads _ (by simp) hm hs hp (C4 .rd l []) h
theorem TV {k:IntKind} {a b:Int}:BX (.v (.int k a)) (.v (.int k b))=some (.v (.int k (max a b))):=by
 simp only[BX];have:(if b>a then b else a)=max a b:=by split<;>omega
 rw[this]
theorem TW {k:IntKind} {a b:Int}:BY (.v (.int k a)) (.v (.int k b))=some (.v (.int k (min a b))):=by
 simp only[BY];have:(if b<a then b else a)=min a b:=by split<;>omega
 rw[this]
theorem MO {e:Env} {tab:cj} {O:VH} {d:Option Tmp} {ty:TypeId} {p:String} {af:Array Edge} {g:Option (Nat×Bool)} {c x y:Operand}:dD tab (.mk d (.pick c x y) ty p af g) e O=((ev e c).bind fun b=>match b with
  | .v (.bool true)=>ev e x
  | .v (.bool false)=>ev e y
  | _=>none).map (·,O):=by
 simp only[dD,eX,jk];cases ev e c with
 | none=>rfl
 | some m=>
   cases m<;>try rfl
   rename_i v;cases v<;>try rfl
   rename_i b;cases b
   ·simp only[ahO];cases ev e y<;>rfl
   ·simp only[ahO];cases ev e x<;>rfl
theorem zp0 (l:List MV):gP #[] l=[]:=rfl
theorem TZ (b o:Nat):Mk (.ptr b o)=some (.ptr b o):=rfl
theorem T0 (cs:List MV) (o:Nat):Mk (.dE cs o)=some (.dE cs o):=rfl
theorem B2 (x:Value):eg (.v x)=[.v x]:=rfl
theorem zg (k:Nat) (cs:List MV) (tk:Tok):eg (.sl k cs tk)=[.sl k cs tk]:=rfl
theorem vP (l:List UInt8):eg (.str l)=[.str l]:=rfl
theorem vQ (b o:Nat):eg (.ptr b o)=[.ptr b o]:=rfl
theorem vR (cs:List MV):eg (.agg cs)=cs:=rfl
section
variable {tab:cj} {O:VH} {t:TypeId} {u:TypeDesc} {d:Nat} {y cs:List MV} {k off:Nat}
end
section
variable {tab:cj} {t el:TypeId} {u:TypeDesc} {a b d:Nat} {z:List MV} {y:MV} {k0 k1:Nat} {c0 c1:List MV} {t0 t1:Tok}
end
theorem VC.freeze {n:Sz} {D:List Deferred} {e:Env} {P:Program} {O:VH} {Q:VQ} {c:Code} (t:Nat) {k o i cp sz:Nat} {cs:List MV} (ht:look e t=some (.bB k o i cp)) (hk:O.hp k=some (.cells cs)) (hs:o+sz<=cs.length)
  (h:VC P n D c ((t,.sl i ((cs.drop o).take sz) (if cp=i then .full else .au))::e) (O.kill k) Q):VC P n D c e O Q:=by
 intro G a w hw hf;obtain⟨u,sF,c8⟩:=hf.get t _ ht;obtain⟨H,h1,h2,h3⟩:=hw.freeze hk c8 hs
 have kY:FR H n D ((t,.sl i ((cs.drop o).take sz) (if cp=i then .full else .au))::e) a:=by
  have hm:=hf.mono h1;refine⟨hm.defers,hm.size,fun s x hx=>?_⟩;rw[mS]at hx;cases hb:s==t with
  | true=>
    rw[hb,cond_true]at hx;injection hx with hx;subst hx
    have:s=t:=by simpa using hb
    subst this;exact⟨u,sF,h3⟩
  | false=>rw[hb,cond_false]at hx;exact hm.get s x hx
 exact wp_mono (h H a w h2 kY) fun _ _ _=>cM.le h1
set_option linter.defProp false in
def ZT:=zP @TZ<|zP @T0<|zP @B2<|zP @zg<|zP @vP<|zP @vQ<|zP @vR<|zP @QO<|zP @QP<|zP @QQ<|zP @VE<|zP @VG<|zP @Ak<|zP @CT<|zP @vF<|zP @CU<|zP @Au<|zP @C1<|zP @vM<|zP @C3<|zP @VI<|zP @ad4<|zP @VJ<|zP @VK<|zP @VN<|zP @VO<|zP @xt<|zP @IF<|zP @MI<|zP @TC<|zP @TD<|zP @TF<|zP @TG<|zP @TI<|zP @TK<|zP @TL<|zP @IG<|zP @IH<|zP @CZ<|zP @II<|zP @yq<|zP @E5<|zP @IJ<|zP @As<|zP @vK<|zP @E8<|zP @vL<|zP @E9<|zP @At<|zP @E_<|zP @Fa<|zP @yr<|zP @qt<|zP @IK<|zP @Fb<|zP @MJ<|zP @MK<|zP @ML<|zP @C0<|zP @Fc<|zP @MM<|zP @Fe<|zP @uJ<|zP @vN<|zP @agj<|zP @agk<|zP @TO<|zP @TP<|zP @TR<|zP @TT<|zP @Al<|zP @Am<|zP @EZ<|zP @E0<|zP @ak<|zP @EY<|zP @wrap_i64<|zP @Io<|zP @CS<|zP @MO<|zP @TV<|zP @TW<|zP @yl<|zP @EP<|zP @Ip<|zP @Ai<|zP @vC<|zP @ES<|zP @vD<|zP @ET<|zP @Aj<|zP @EU<|zP @ym<|zP @EV<|zP @Iq<|zP @Ir<|zP @Mu<|zP @Mv<|zP @Mw<|zP @dj<|zP @Is<|zP @EX<|zP @My<|zP @QH<|zP @uI<|zP @vE<|zP @Ty<|zP @Tz<|zP @Mq<|zP @TA<|zP @Il<|zP @EN<|zP @EO<|zP @Ah<|zP @CR<|zP @Mr<|zP @mS<|zP @Ms<|zP @Im<|zP @It<|zP @Iu<|zP @Iv<|zP @Iw<|zP @Ix<|zP @Iy<|zP @Iz<|zP @IA<|zP @IB<|zP @Mz<|zP @MA<|zP @aq<|zP @bw<|zP @zp0<|zP @zp1<|zP @zp2<|zP @zp3<|zP @VH.tT<|zP @CV<|zP @QJ<|zP @QK @VA
end Go.Proofs.YtjpadehgejlebaaGreatDoor
