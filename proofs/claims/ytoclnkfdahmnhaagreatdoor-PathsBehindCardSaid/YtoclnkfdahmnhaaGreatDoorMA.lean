import Derived.Below
import Derived.LoopN
import Derived.OrdersHeld
import Derived.Deep.Draws
import Derived.WalkKit
import Derived.WalkSpells
import Derived.KernelRfl
import Derived.Lib.Builder
import Derived.MapKept
import Derived.Scope
set_option linter.unusedVariables false
set_option linter.unusedSimpArgs false
namespace Go.Proofs.YtoclnkfdahmnhaaGreatDoor
open Go.RowKit
open _root_.List renaming getElem?_take → TP, getElem?_eq_some_iff → XO, getElem?_eq_getElem → acs, getElem?_drop → acu, mapM_cons → agt, eq_nil_of_length_eq_zero → ahX, map_cons → ahZ, length_append → ah2, length_cons → ah5, getElem?_toArray → ah6, append_assoc → alF, getElem?_append_left → alG, all_eq_true → alH, getElem?_cons_zero → alI, getElem?_cons_succ → alJ
open _root_.Nat renaming le_refl → acw, zero_le → agw, zero_add → ah0, add_assoc → ah4, lt_or_ge → ah7
open _root_.And renaming intro → yP
open _root_.Option renaming map_eq_some_iff → Km, bind_eq_some_iff → Kn, map_some → agr, bind_eq_bind → ags, isSome_none → agu, bind_some → agx
open _root_.Bool renaming and_eq_true → RZ, false_eq_true → XN, or_eq_true → alK
open _root_.Array renaming ext' → acv, getElem?_eq_getElem → agv, getElem?_eq_none → ahY, length_toList → ah1, getElem?_setIfInBounds_ne → ah3, getD_eq_getD_getElem? → akF, toList_setIfInBounds → alC, getElem?_append_left → alD, mapM_eq_mapM_toList → alE
inductive Tok where
 | nil | full | own (t k:Nat) | ar
 deriving DecidableEq
inductive MV where
 | v (x:Value)
 | str (l:List UInt8)
 | ptr (b off:Nat)
 | db (cells:List MV) (off:Nat)
 | sl (n:Nat) (cells:List MV) (t:Tok)
 | bq (b off len cap:Nat)
 | map (b:Nat)
 | func (fn:Fn) (first captured:List MV)
 | iface (t:TypeId) (x:MV)
 | agg (cells:List MV)
 | tuple (vs:List MV)
structure Gh where
 w0:World
 bR:Nat->Option Nat
 ec:Nat->Nat->Option Value
 tok:Nat->Option (Nat×Nat×Nat×Nat)
abbrev Gh.B (G:Gh):Nat:=G.w0.heap.size
structure Gh.Le (G H:Gh):Prop where
 w0:H.w0=G.w0
 bR:∀{k b},G.bR k=some b->H.bR k=some b
 ec:∀{b o u},G.ec b o=some u->H.ec b o=some u
 tok:∀{t x},G.tok t=some x->H.tok t=some x
theorem Gh.Le.refl (G:Gh):G.Le G:=⟨rfl,id,id,id⟩
theorem Gh.Le.trans {G H K:Gh} (h:G.Le H) (k:H.Le K):G.Le K:=
 ⟨k.w0.trans h.w0,fun x=>k.bR (h.bR x),fun x=>k.ec (h.ec x),fun x=>k.tok (h.tok x)⟩
structure GP where
 p:Gh->Prop
 mono:∀{G H:Gh},G.Le H->p G->p H
inductive cf where
 | cells (cs:List MV)
 | map (es:List (MV×MV×Nat)) (clock:Nat)
 | tok
 | shape (k:Nat) (t:TypeId) (n:Nat)
 | obj (x:Obj)
 | fact (p:GP)
structure VH where
 next:Nat
 hp:Nat->Option cf
def bt {α :Type} (f:Nat->Option α) (k:Nat) (x:Option α):Nat->Option α :=fun j=>bif Nat.beq j k then x else f j
theorem aH {α :Type} (f:Nat->Option α) (k:Nat) (x:Option α):bt f k x k=x:=by simp[bt]
theorem aw {α :Type} (f:Nat->Option α) {k j:Nat} (x:Option α) (h:j≠k):bt f k x j=f j:=by
 have:j.beq k=false:=by rw[<-Bool.not_eq_true];intro e;exact h (Nat.eq_of_beq_eq_true e)
 simp[bt,this]
def VH.set (O:VH) (k:Nat) (x:cf):VH:={O with hp:=bt O.hp k (some x)}
def VH.push (O:VH) (x:cf):VH:=⟨O.next+1,bt O.hp O.next (some x)⟩
def VH.kill (O:VH) (k:Nat):VH:={O with hp:=bt O.hp k none}
def plain:Value->Bool
 | .bool _ | .int _ _ | .float _ _ | .complex _ _ _ | .pointer none | .map none | .chan none | .nilFunc | .nilIface=>true
 | _=>false
def Tok.ok (G:Gh):Tok->(b o n c sz:Nat)->Prop
 | .nil,_,_,_,_,_=>False
 | .full,_,_,n,c,_=>c=n
 | .own t k,b,o,n,c,sz=>c=n\/∃r,G.tok t=some (b,o+sz,k,r)/\sz=n*k/\c=n+r
 | .ar,_,_,_,_,_=>True
inductive VR (G:Gh):MV->Value->Prop
 | v {x:Value}:plain x=true->VR G (.v x) x
 | str {l:List UInt8}:VR G (.str l) (.string ⟨⟨l⟩⟩)
 | ptr {k o b:Nat}:G.bR k=some b->VR G (.ptr k o) (.pointer (some ⟨b,o,none⟩))
 | db {cells:List MV} {us:List Value} {off b o:Nat}:us.length=cells.length->(∀(i:Nat) (u:Value),us[i]?=some u->G.ec b (o+i)=some u)->
   (∀(i:Nat) (c:MV) (u:Value),cells[i]?=some c->us[i]?=some u->VR G c u)->VR G (.db cells off) (.pointer (some ⟨b,o+off,none⟩))
 | slnil:VR G (.sl 0 [] .nil) (.slice none 0 0)
 | nX {a:Addr} {c:Nat}:c<=maxLen->VR G (.sl 0 [] .ar) (.slice (some a) 0 c)
 | jV:VR G (.sl 0 [] .ar) (.slice none 0 0)
 | sl {cells:List MV} {us:List Value} {n c b o:Nat} {t:Tok}:us.length=cells.length->(∀(i:Nat) (u:Value),us[i]?=some u->G.ec b (o+i)=some u)->
   (∀(i:Nat) (c:MV) (u:Value),cells[i]?=some c->us[i]?=some u->VR G c u)->n<=c->c<=maxLen->t.ok G b o n c cells.length->VR G (.sl n cells t) (.slice (some ⟨b,o,none⟩) n c)
 | bq {k o n c b:Nat}:G.bR k=some b->n<=c->c<=maxLen->VR G (.bq k o n c) (.slice (some ⟨b,o,none⟩) n c)
 | map {k b:Nat}:G.bR k=some b->VR G (.map k) (.map (some b))
 | func {fn:Fn} {fs cs:List MV} {us vs:List Value}:us.length=fs.length->(∀(i:Nat) (c:MV) (u:Value),fs[i]?=some c->us[i]?=some u->VR G c u)->
   vs.length=cs.length->(∀(i:Nat) (c:MV) (u:Value),cs[i]?=some c->vs[i]?=some u->VR G c u)->VR G (.func fn fs cs) (.func fn us.toArray vs.toArray)
 | iface {t:TypeId} {x:MV} {u:Value}:VR G x u->VR G (.iface t x) (.iface t u)
 | agg {cs:List MV} {us:List Value}:us.length=cs.length->(∀(i:Nat) (c:MV) (u:Value),cs[i]?=some c->us[i]?=some u->VR G c u)->VR G (.agg cs) (.agg us.toArray)
 | tuple {cs:List MV} {us:List Value}:us.length=cs.length->(∀(i:Nat) (c:MV) (u:Value),cs[i]?=some c->us[i]?=some u->VR G c u)->VR G (.tuple cs) (.tuple us.toArray)
def aO (G:Gh) (cs:List MV) (us:List Value):Prop:=us.length=cs.length/\∀(i:Nat) (c:MV) (u:Value),cs[i]?=some c->us[i]?=some u->VR G c u
theorem VR.mono {G H:Gh} (h:G.Le H) {m:MV} {u:Value} (r:VR G m u):VR H m u:=by
 induction r with
 | v h1=>exact .v h1
 | str=>exact .str
 | ptr h1=>exact .ptr (h.bR h1)
 | db h1 h2 h3 ih=>exact .db h1 (fun i u hu=>h.ec (h2 i u hu)) (fun i c u h4 h5=>ih i c u h4 h5)
 | slnil=>exact .slnil
 | nX h1=>exact .nX h1
 | jV=>exact .jV
 | sl h1 h2 h3 h4 h5 h6 ih=>
   refine .sl h1 (fun i u hu=>h.ec (h2 i u hu)) (fun i c u h7 h8=>ih i c u h7 h8) h4 h5 ?_;rename_i t;cases t with
   | nil=>exact h6
   | full=>exact h6
   | own t k=>
     rcases h6 with h6 | ⟨r,h7,h8⟩
     ·exact .inl h6
     ·exact .inr ⟨r,h.tok h7,h8⟩
   | ar=>trivial
 | bq h1 h2 h3=>exact .bq (h.bR h1) h2 h3
 | map h1=>exact .map (h.bR h1)
 | func h1 h2 h3 h4 ih1 ih2=>exact .func h1 (fun i c u a b=>ih1 i c u a b) h3 (fun i c u a b=>ih2 i c u a b)
 | iface h1 ih=>exact .iface ih
 | agg h1 h2 ih=>exact .agg h1 fun i c u a b=>ih i c u a b
 | tuple h1 h2 ih=>exact .tuple h1 fun i c u a b=>ih i c u a b
theorem aO.mono {G H:Gh} (h:G.Le H) {cs:List MV} {us:List Value} (r:aO G cs us):aO H cs us:=⟨r.1,fun i c u a b=>(r.2 i c u a b).mono h⟩
theorem aO.nil {G:Gh}:aO G [] []:=⟨rfl,fun i c u h=>by simp at h⟩
theorem aO.cons {G:Gh} {c:MV} {u:Value} {cs:List MV} {us:List Value} (h:VR G c u) (k:aO G cs us):aO G (c::cs) (u::us):=
 ⟨by simp[k.1],fun i c' u' a b=>by
  cases i with
  | zero=>simp only[alI,Option.some.injEq]at a b;subst a;subst b;exact h
  | succ i=>simp only[alJ]at a b;exact k.2 i c' u' a b⟩
theorem aO.head {G:Gh} {c:MV} {u:Value} {cs:List MV} {us:List Value} (h:aO G (c::cs) (u::us)):VR G c u:=h.2 0 c u rfl rfl
theorem aO.tail {G:Gh} {c:MV} {u:Value} {cs:List MV} {us:List Value} (h:aO G (c::cs) (u::us)):aO G cs us:=⟨by have:=h.1;simp at this;exact this,fun i c u a b=>h.2 (i+1) c u (by simpa using a) (by simpa using b)⟩
theorem aO.cD {G:Gh} {c:MV} {cs:List MV} {us:List Value} (h:aO G (c::cs) us):∃u TT,us=u::TT/\VR G c u/\aO G cs TT:=by
 cases us with
 | nil=>have:=h.1;simp at this
 | cons u us=>exact⟨u,us,rfl,h.head,h.tail⟩
theorem aO.fF {G:Gh} {us:List Value} (h:aO G [] us):us=[]:=ahX h.1
theorem aO.append {G:Gh} {cs ds:List MV} {us ts:List Value} (h:aO G cs us) (k:aO G ds ts):aO G (cs++ds) (us++ts):=
 ⟨by simp[h.1,k.1],fun i c u a b=>by
  rw[List.getElem?_append]at a b;rw[h.1]at b;split at a
  ·rw[if_pos ‹_›]at b;exact h.2 i c u a b
  ·rw[if_neg ‹_›]at b;exact k.2 _ c u a b⟩
theorem aO.drop {G:Gh} {cs:List MV} {us:List Value} (h:aO G cs us) (n:Nat):aO G (cs.drop n) (us.drop n):=
 ⟨by simp[h.1],fun i c u a b=>by rw[acu]at a b;exact h.2 _ c u a b⟩
theorem aO.take {G:Gh} {cs:List MV} {us:List Value} (h:aO G cs us) (n:Nat):aO G (cs.take n) (us.take n):=
 ⟨by simp[h.1],fun i c u a b=>by
  rw[TP]at a b;split at a
  ·rw[if_pos ‹_›]at b;exact h.2 i c u a b
  ·cases a⟩
theorem aO.get {G:Gh} {cs:List MV} {us:List Value} (h:aO G cs us) {i:Nat} {c:MV} (hc:cs[i]?=some c):∃u,us[i]?=some u/\VR G c u:=by
 have hl:i<us.length:=by rw[h.1];exact(XO.1 hc).1
 exact⟨us[i],acs hl,h.2 i c _ hc (acs hl)⟩
theorem aO.set {G:Gh} {cs:List MV} {us:List Value} (h:aO G cs us) {i:Nat} {c:MV} {u:Value} (hc:VR G c u):aO G (cs.set i c) (us.set i u):=
 ⟨by simp[h.1],fun j c' u' a b=>by
  rw[List.getElem?_set]at a b;rw[h.1]at b;split at a
  ·rw[if_pos ‹_›]at b;split at a
   ·rw[if_pos ‹_›]at b;injection a with a;injection b with b;subst a;subst b;exact hc
   ·cases a
  ·rw[if_neg ‹_›]at b;exact h.2 j c' u' a b⟩
structure Fz (C:Array Value) where
 t:TypeId
 fr:Nat×Nat
 ok:fr.1=fr.2\/C.size<=fr.1
def OI:List Nat:=[0]
def Kk (w:World):Prop:=∀g∈OI,∃m,w.cell? ⟨g,0,none⟩=some (.int .i64 m)
structure WR (G:Gh) (O:VH) (w:World):Prop where
 base:Below G.B G.w0 w
 ec:∀b o u,G.ec b o=some u->w.cell? ⟨b,o,none⟩=some u
 oZ:∀k,O.next<=k->G.bR k=none/\G.tok k=none/\O.hp k=none
 jW:∀k b,G.bR k=some b->G.B<=b/\b<w.heap.size/\(O.hp k≠none->∀o,G.ec b o=none)
 inj:∀j k b,O.hp j≠none->O.hp k≠none->G.bR j=some b->G.bR k=some b->j=k
 cells:∀k cs,O.hp k=some (.cells cs)->∃b,∃C:Array Value,∃T:Fz C,G.bR k=some b/\w.heap[b]?=some (.cells C T.t T.fr)/\aO G cs (C.toList.take cs.length)
 map:∀k es ck,O.hp k=some (.map es ck)->∃b E,G.bR k=some b/\w.heap[b]?=some (.map E ck)/\E.toList.map (·.born)=es.map (·.2.2)/\aO G (es.map (·.1)) (E.toList.map (·.key))/\aO G (es.map (·.2.1)) (E.toList.map (·.val))
 tok:∀t,O.hp t=some .tok->∃b f k r C T,G.tok t=some (b,f,k,r)/\G.B<=b/\w.heap[b]?=some (.cells C T (0,0))/\f+r*k<=C.size/\(∀o,f<=o->G.ec b o=none)/\∀j,G.bR j≠some b
 kL:∀s t b x y,O.hp s=some .tok->O.hp t=some .tok->G.tok s=some (b,x)->G.tok t=some (b,y)->s=t
 nG:∀j k t n,O.hp j=some (.shape k t n)->∃b,G.bR k=some b/\w.shape? b=some (t,n)
 obj:∀k x,O.hp k=some (.obj x)->∃b,G.bR k=some b/\w.heap[b]?=some x
 pw:Kk G.w0
 ze:∀k p,O.hp k=some (.fact p)->p.p G
section
variable {G:Gh} {O:VH} {w:World}
theorem WR.XP (h:WR G O w) {b o:Nat} {u:Value} (hc:G.ec b o=some u):b<w.heap.size:=World.block_lt_of_cell? w _ (h.ec b o u hc)
theorem WR.mn (h:WR G O w):G.bR O.next=none/\G.tok O.next=none/\O.hp O.next=none:=h.oZ _ (acw _)
theorem WR.oz {G':Gh} {O':VH} {w':World} (h:WR G O w) (hl:∀{k b},G.bR k=some b->G'.bR k=some b) (hO:∀j k t n,O'.hp j=some (.shape k t n)->O.hp j=some (.shape k t n)) (hw:∀k b s,G.bR k=some b->w.shape? b=some s->w'.shape? b=some s):
  ∀j k t n,O'.hp j=some (.shape k t n)->∃b,G'.bR k=some b/\w'.shape? b=some (t,n):=fun j k t n hj=>by
 obtain⟨b,h1,h2⟩:=h.nG j k t n (hO j k t n hj);exact⟨b,hl h1,hw k b _ h1 h2⟩
theorem l_ {f:Nat->Option cf} {q:Nat} {X:cf} (hX:∀k t n,X≠ .shape k t n) (j k t n:Nat) (h:bt f q (some X) j=some (.shape k t n)):f j=some (.shape k t n):=by
 by_cases e:j=q
 ·subst e;rw[aH]at h;injection h with h;exact absurd h (hX _ _ _)
 ·rwa [aw _ _ e]at h
theorem WR.qZ {G':Gh} {O':VH} {w':World} (h:WR G O w) (hl:∀{k b},G.bR k=some b->G'.bR k=some b) (hO:∀k x,O'.hp k=some (.obj x)->O.hp k=some (.obj x)) (hw:∀k x b,O.hp k=some (.obj x)->G.bR k=some b->w.heap[b]?=some x->w'.heap[b]?=some x):
  ∀k x,O'.hp k=some (.obj x)->∃b,G'.bR k=some b/\w'.heap[b]?=some x:=fun k x hk=>by
 obtain⟨b,h1,h2⟩:=h.obj k x (hO k x hk);exact⟨b,hl h1,hw k x b (hO k x hk) h1 h2⟩
theorem uv {f:Nat->Option cf} {q:Nat} {X:cf} (hX:∀x,X≠ .obj x) (j:Nat) (x:Obj) (h:bt f q (some X) j=some (.obj x)):f j=some (.obj x):=by
 by_cases e:j=q
 ·subst e;rw[aH]at h;injection h with h;exact absurd h (hX _)
 ·rwa [aw _ _ e]at h
theorem WR.q_ {G':Gh} {O':VH} (h:WR G O w) (hl:G.Le G') (hO:∀k p,O'.hp k=some (.fact p)->O.hp k=some (.fact p)):∀k p,O'.hp k=some (.fact p)->p.p G':=fun k p hk=>p.mono hl (h.ze k p (hO k p hk))
theorem mo {f:Nat->Option cf} {q:Nat} {X:cf} (hX:∀x,X≠ .fact x) (j:Nat) (x:GP) (h:bt f q (some X) j=some (.fact x)):f j=some (.fact x):=by
 by_cases e:j=q
 ·subst e;rw[aH]at h;injection h with h;exact absurd h (hX _)
 ·rwa [aw _ _ e]at h
theorem gU {w w':World} {b:Nat} {s:TypeId×Nat} (hh:∀x,w.heap[b]?=some x->w'.heap[b]?=some x) (h:w.shape? b=some s):w'.shape? b=some s:=by
 unfold World.shape? at h ⊢;generalize hx:w.heap[b]?=x at h;cases x with
 | none=>cases h
 | some x=>rw[hh x hx];exact h
theorem WR.drew (h:WR G O w):WR G O w.drew:=⟨h.base.drew,h.ec,h.oZ,h.jW,h.inj,h.cells,h.map,h.tok,h.kL,h.nG,h.obj,h.pw,h.ze⟩
theorem WR.drawn (h:WR G O w) (n:Nat):WR G O {w with drawn:=n}:=
 ⟨⟨h.base.os,h.base.tape,h.base.output,h.base.size,h.base.block⟩,h.ec,h.oZ,h.jW,h.inj,h.cells,h.map,h.tok,h.kL,h.nG,h.obj,h.pw,h.ze⟩
theorem WR.TU (h:WR G O w):G.B<=w.heap.size:=h.base.size
theorem WR.aeO (h:WR G O w) {g:Nat} (hg:g∈OI):∃m,w.cell? ⟨g,0,none⟩=some (.int .i64 m):=by
 obtain⟨m,hm⟩:=h.pw g hg;refine⟨m,?_⟩;have hb:=h.base.block g (World.block_lt_of_cell? _ _ hm);unfold World.cell? at hm ⊢;rw[hb];exact hm
theorem Gh.Le.Ix {k:Nat} (h:G.bR k=none) (b:Nat):G.Le {G with bR:=bt G.bR k (some b)}:=
 ⟨rfl,fun{j b'} hj=>by
  show bt G.bR k (some b) j=some b';rw[aw _ _ (fun e=>by subst e;rw[h]at hj;cases hj)];exact hj,id,id⟩
theorem fh (w:World) (o:Obj) (b:Nat):(w.alloc o).heap[b]?=if b=w.heap.size then some o else w.heap[b]?:=by
 show(w.heap.push o)[b]?=_;rw[Array.getElem?_push]
theorem dD (w:World) (o:Obj) {b:Nat} {x:Obj} (h:w.heap[b]?=some x):(w.alloc o).heap[b]?=some x:=by
 rw[fh,if_neg (fun e=>by subst e;rw[ahY (acw _)]at h;cases h)];exact h
theorem nY {w:World} {b:Nat} {x:Obj} (h:w.heap[b]?=some x):b<w.heap.size:=(Array.getElem?_eq_some_iff.1 h).1
theorem AZ (w:World) (o:Obj) {a:Addr} {u:Value} (h:w.cell? a=some u):(w.alloc o).cell? a=some u:=by
 rw[World.cell?_alloc_lt w o a (World.block_lt_of_cell? w a h)];exact h
theorem WR.grow (h:WR G O w) (o:Obj):WR G O (w.alloc o) where
 base:=h.base.alloc h.TU o
 ec b p u hc:=AZ w o (h.ec b p u hc)
 oZ:=h.oZ
 jW k b hk:=by
  obtain⟨h1,h2,h3⟩:=h.jW k b hk;exact⟨h1,by simp;omega,h3⟩
 inj:=h.inj
 cells k cs hk:=by
  obtain⟨b,C,T,h1,h2,h3⟩:=h.cells k cs hk;exact⟨b,C,T,h1,dD w o h2,h3⟩
 map k es ck hk:=by
  obtain⟨b,E,h1,h2,h3⟩:=h.map k es ck hk;exact⟨b,E,h1,dD w o h2,h3⟩
 tok t ht:=by
  obtain⟨b,f,k,r,C,T,h1,h2,h3,h4⟩:=h.tok t ht;exact⟨b,f,k,r,C,T,h1,h2,dD w o h3,h4⟩
 kL:=h.kL
 nG:=h.oz id (fun _ _ _ _ h=>h) fun _ _ _ _=>gU fun _=>dD w o
 obj:=h.qZ id (fun _ _ h=>h) fun _ _ _ _ _=>dD w o
 pw:=h.pw
 ze:=h.ze
theorem size_alloc (w:World) (o:Obj):(w.alloc o).heap.size=w.heap.size+1:=by simp
theorem WR.XQ (h:WR G O w) {cs:List MV} {C:Array Value} (T:Fz C) (hc:aO G cs (C.toList.take cs.length)):
  G.Le {G with bR:=bt G.bR O.next (some w.heap.size)}/\WR {G with bR:=bt G.bR O.next (some w.heap.size)} (O.push (.cells cs)) (w.alloc (.cells C T.t T.fr)):=by
 have hle:=Gh.Le.Ix h.mn.1 w.heap.size;have hg:=h.grow (.cells C T.t T.fr)
 have eB:∀k b,bt G.bR O.next (some w.heap.size) k=some b->(k=O.next/\b=w.heap.size)\/(k≠O.next/\G.bR k=some b):=fun k b hk=>by
  by_cases e:k=O.next
  ·subst e;rw[aH]at hk;injection hk with hk;exact .inl ⟨rfl,hk.symm⟩
  ·rw[aw _ _ e]at hk;exact .inr ⟨e,hk⟩
 have OJ:∀o,G.ec w.heap.size o=none:=fun o=>by
  cases hh:G.ec w.heap.size o with
  | none=>rfl
  | some u=>have:=h.XP hh;omega
 refine⟨hle,hg.base,hg.ec,fun k hk=>?_,fun k b hk=>?_,fun j k b lj lk hj hk=>?_,fun k ds hk=>?_,fun k es ck hk=>?_,fun t ht=>?_,fun s t b x y hs ht h1 h2=>?_,h.oz hle.bR (l_ (by simp)) fun _ _ _ _=>gU fun _=>dD w _,h.qZ hle.bR (uv (by simp)) fun _ _ _ _ _=>dD w _,h.pw,h.q_ hle (mo (by simp))⟩
 ·have hk:O.next+1<=k:=hk;obtain⟨h1,h2,h3⟩:=h.oZ k (by omega);exact⟨by show bt _ _ _ _=_;rw[aw _ _ (by omega)];exact h1,h2,by show bt _ _ _ _=_;rw[aw _ _ (by omega)];exact h3⟩
 ·rcases eB k b hk with⟨_,rfl⟩ | ⟨dY,hk⟩
  ·exact⟨h.TU,by simp,fun _=>OJ⟩
  ·obtain⟨p1,p2,p3⟩:=hg.jW k b hk;exact⟨p1,p2,fun hne=>p3 (by have hne:bt O.hp O.next (some (.cells cs)) k≠none:=hne;rwa [aw _ _ dY]at hne)⟩
 ·rcases eB j b hj with⟨rfl,rfl⟩ | ⟨cT,hj⟩<;>rcases eB k _ hk with⟨rfl,hb⟩ | ⟨dY,hk⟩
  ·rfl
  ·have:=(h.jW _ _ hk).2.1;omega
  ·subst hb;have:=(h.jW _ _ hj).2.1;omega
  ·exact h.inj j k b (by have lj:bt O.hp O.next (some (.cells cs)) j≠none:=lj;rwa [aw _ _ cT]at lj) (by have lk:bt O.hp O.next (some (.cells cs)) k≠none:=lk;rwa [aw _ _ dY]at lk) hj hk
 ·have hk:bt O.hp O.next (some (.cells cs)) k=some (.cells ds):=hk;by_cases e:k=O.next
  ·subst e;rw[aH]at hk;injection hk with hk;injection hk with hk;subst hk
   refine⟨w.heap.size,C,T,aH _ _ _,by rw[fh,if_pos rfl],?_⟩;exact hc.mono hle
  ·rw[aw _ _ e]at hk;obtain⟨b,D,T',h1,h2,h3⟩:=hg.cells k ds hk;exact⟨b,D,T',hle.bR h1,h2,h3.mono hle⟩
 ·have hk:bt O.hp O.next (some (.cells cs)) k=some (.map es ck):=hk;by_cases e:k=O.next
  ·subst e;rw[aH]at hk;cases hk
  ·rw[aw _ _ e]at hk;obtain⟨b,E,h1,h2,h3,h4,h5⟩:=hg.map k es ck hk;exact⟨b,E,hle.bR h1,h2,h3,h4.mono hle,h5.mono hle⟩
 ·have ht:bt O.hp O.next (some (.cells cs)) t=some .tok:=ht;by_cases e:t=O.next
  ·subst e;rw[aH]at ht;cases ht
  ·rw[aw _ _ e]at ht;obtain⟨b,f,k,r,D,T',h1,h2,h3,h4,h6,h7⟩:=hg.tok t ht;obtain⟨_,_,_,_,_,_,XS,_,XT,_⟩:=h.tok t ht;refine⟨b,f,k,r,D,T',h1,h2,h3,h4,h6,fun j hj=>?_⟩;rcases eB j b hj with⟨_,rfl⟩ | ⟨_,hj⟩
   ·rw[h1]at XS;injection XS with e1;injection e1 with e1 _;subst e1
    have:=nY XT;omega
   ·exact h7 j hj
 ·have hs:bt O.hp O.next (some (.cells cs)) s=some .tok:=hs;have ht:bt O.hp O.next (some (.cells cs)) t=some .tok:=ht;have es:s≠O.next:=fun e=>by subst e;rw[aH]at hs;cases hs
  have et:t≠O.next:=fun e=>by subst e;rw[aH]at ht;cases ht
  rw[aw _ _ es]at hs;rw[aw _ _ et]at ht;exact h.kL s t b x y hs ht h1 h2
theorem WR.push (h:WR G O w) {cs:List MV} {C:Array Value} (T:TypeId) (hc:aO G cs C.toList):
  G.Le {G with bR:=bt G.bR O.next (some w.heap.size)}/\WR {G with bR:=bt G.bR O.next (some w.heap.size)} (O.push (.cells cs)) (w.alloc (.cells C T)):=
 h.XQ ⟨T,(0,0),.inl rfl⟩ (by rw[List.take_of_length_le (by rw[hc.1];exact acw _)];exact hc)
theorem WR.forget (h:WR G O w) {O':VH} (hn:O.next<=O'.next) (hh:∀k,O'.hp k=none\/O'.hp k=O.hp k):WR G O' w where
 base:=h.base
 ec:=h.ec
 oZ k hk:=by
  obtain⟨h1,h2,h3⟩:=h.oZ k (by omega);exact⟨h1,h2,by rcases hh k with e | e<;>rw[e];exact h3⟩
 jW k b hk:=by
  obtain⟨p1,p2,p3⟩:=h.jW k b hk
  exact⟨p1,p2,fun hne=>p3 (by rcases hh k with e | e; · exact absurd e hne
                              ·rwa [e]at hne)⟩
 inj j k b lj lk:=h.inj j k b (fun e=>(hh j).elim lj (fun e'=>lj (e'.trans e))) (fun e=>(hh k).elim lk (fun e'=>lk (e'.trans e)))
 cells k cs hk:=h.cells k cs (by rcases hh k with e | e<;>rw[e]at hk; · cases hk
                                 ·exact hk)
 map k es ck hk:=h.map k es ck (by rcases hh k with e | e<;>rw[e]at hk; · cases hk
                                   ·exact hk)
 tok t ht:=h.tok t (by rcases hh t with e | e<;>rw[e]at ht; · cases ht
                       ·exact ht)
 kL s t b x y hs ht h1 h2:=h.kL s t b x y (by rcases hh s with e | e<;>rw[e]at hs; · cases hs
                                              ·exact hs) (by rcases hh t with e | e<;>rw[e]at ht; · cases ht
                                                             ·exact ht) h1 h2
 nG:=h.oz id (fun j k t n hj=>by rcases hh j with e | e<;>rw[e]at hj; · cases hj
                                 ·exact hj) fun _ _ _ _ h=>h
 obj:=h.qZ id (fun j x hj=>by rcases hh j with e | e<;>rw[e]at hj; · cases hj
                              ·exact hj) fun _ _ _ _ _ h=>h
 pw:=h.pw
 ze:=h.q_ (Gh.Le.refl _) fun j x hj=>by
  rcases hh j with e | e
  ·rw[e]at hj;cases hj
  ·rw[e]at hj;exact hj
theorem WR.kill (h:WR G O w) (k:Nat):WR G (O.kill k) w:=h.forget (acw _) fun j=>by
 show bt _ _ _ j=none\/bt _ _ _ j=_;by_cases e:j=k
 ·subst e;exact .inl (aH _ _ _)
 ·exact .inr (aw _ _ e)
def zf (G:Gh) (b:Nat) (f:Nat->Option Value):Gh:={G with ec:=fun b' o=>if b'=b then f o else G.ec b' o}
theorem OK {b:Nat} {f:Nat->Option Value} (h:∀o u,G.ec b o=some u->f o=some u):G.Le (zf G b f):=
 ⟨rfl,id,fun{b' o u} hc=>by
  show(if b'=b then f o else G.ec b' o)=some u;split
  ·subst b';exact h o u hc
  ·exact hc,id⟩
theorem WR.Dh (h:WR G O w) {b:Nat} {f:Nat->Option Value} (hold:∀o u,G.ec b o=some u->f o=some u) (jh:∀o u,f o=some u->w.cell? ⟨b,o,none⟩=some u)
  (eB:∀k,O.hp k≠none->G.bR k≠some b) (uw:∀t c x,O.hp t=some .tok->G.tok t=some (c,x)->c=b->∀o,x.1<=o->f o=none):G.Le (zf G b f)/\WR (zf G b f) O w:=by
 have hle:=OK (G:=G) hold;refine⟨hle,h.base,fun b' o u hc=>?_,h.oZ,fun k c hk=>?_,h.inj,fun k cs hk=>?_,fun k es ck hk=>?_,fun t ht=>?_,h.kL,h.oz hle.bR (fun _ _ _ _ h=>h) fun _ _ _ _ h=>h,h.qZ hle.bR (fun _ _ h=>h) fun _ _ _ _ _ h=>h,h.pw,h.q_ hle fun _ _ h=>h⟩
 ·have jB:(if b'=b then f o else G.ec b' o)=some u:=hc;split at jB
  ·subst b';exact jh o u jB
  ·exact h.ec b' o u jB
 ·obtain⟨h1,h2,h3⟩:=h.jW k c hk;refine⟨h1,h2,fun hne o=>?_⟩;show(if c=b then f o else G.ec c o)=none;rw[if_neg (fun e=>eB k hne (by rw[<-e];exact hk))];exact h3 hne o
 ·obtain⟨c,C,T,h1,h2,h3⟩:=h.cells k cs hk;exact⟨c,C,T,h1,h2,h3.mono hle⟩
 ·obtain⟨c,E,h1,h2,h3,h4,h5⟩:=h.map k es ck hk;exact⟨c,E,h1,h2,h3,h4.mono hle,h5.mono hle⟩
 ·obtain⟨c,g,k,r,C,T,h1,h2,h3,h4,h6,h7⟩:=h.tok t ht;refine⟨c,g,k,r,C,T,h1,h2,h3,h4,fun o ho=>?_,h7⟩;show(if c=b then f o else G.ec c o)=none;split
  ·exact uw t c _ ht h1 ‹_› o ho
  ·exact h6 o ho
theorem GS (w:World) (C:Array Value) (T:TypeId) (fr:Nat×Nat) (o:Nat):(w.alloc (.cells C T fr)).cell? ⟨w.heap.size,o,none⟩=C[o]?:=by
 have:(w.alloc (.cells C T fr)).heap[w.heap.size]?=some (.cells C T fr):=by rw[fh,if_pos rfl]
 simp only[World.cell?,this,agu,XN,if_false]
theorem WR.sE (h:WR G O w) (k:Nat):G.bR k≠some w.heap.size:=fun e=>by have:=(h.jW k _ e).2.1;omega
theorem WR.wh (h:WR G O w) (o:Nat):G.ec w.heap.size o=none:=by
 cases hh:G.ec w.heap.size o with
 | none=>rfl
 | some u=>have:=h.XP hh;omega
theorem WR.o0 (h:WR G O w) {t c:Nat} {x:Nat×Nat×Nat} (ht:O.hp t=some .tok) (hc:G.tok t=some (c,x)):c≠w.heap.size:=fun e=>by
 obtain⟨b,_,_,_,_,_,h1,_,h3,_⟩:=h.tok t ht;rw[hc]at h1;injection h1 with h1;injection h1 with h1 _
 have:=nY h3;omega
theorem WR.lit (h:WR G O w) (C:Array Value) (T:TypeId):G.Le (zf G w.heap.size fun o=>C[o]?)/\WR (zf G w.heap.size fun o=>C[o]?) O (w.alloc (.cells C T)):=
 (h.grow (.cells C T)).Dh (fun o u hc=>by rw[h.wh]at hc;cases hc) (fun o u hf=>by rw[GS];exact hf) (fun k _=>h.sE k)
  fun t c x ht hc e=>absurd e (h.o0 ht hc)
theorem WR.R0 (h:WR G O w) {b f k r:Nat} {C:Array Value} {T:TypeId} (hB:G.B<=b) (hb:w.heap[b]?=some (.cells C T (0,0))) (hf:f+r*k<=C.size)
  (Ko:∀o,f<=o->G.ec b o=none) (eB:∀j,G.bR j≠some b) (uw:∀t c x,O.hp t=some .tok->G.tok t=some (c,x)->c≠b):
  G.Le {G with tok:=bt G.tok O.next (some (b,f,k,r))}/\WR {G with tok:=bt G.tok O.next (some (b,f,k,r))} (O.push .tok) w:=by
 have hle:G.Le {G with tok:=bt G.tok O.next (some (b,f,k,r))}:=⟨rfl,id,id,fun{t x} ht=>by
  show bt G.tok O.next _ t=some x;rw[aw _ _ (fun e=>by subst e;rw[h.mn.2.1]at ht;cases ht)];exact ht⟩
 have nH:∀j x,bt O.hp O.next (some cf.tok) j=some x->(j=O.next/\x= .tok)\/(j≠O.next/\O.hp j=some x):=fun j x hj=>by
  by_cases e:j=O.next
  ·subst e;rw[aH]at hj;injection hj with hj;exact .inl ⟨rfl,hj.symm⟩
  ·rw[aw _ _ e]at hj;exact .inr ⟨e,hj⟩
 refine⟨hle,h.base,h.ec,fun j hj=>?_,fun j c hj=>?_,fun j k' c lj lk hj hk=>?_,fun j cs hj=>?_,fun j es ck hj=>?_,fun t ht=>?_,fun s t c x y hs ht h1 h2=>?_,h.oz hle.bR (l_ (by simp)) fun _ _ _ _ h=>h,h.qZ hle.bR (uv (by simp)) fun _ _ _ _ _ h=>h,h.pw,h.q_ hle (mo (by simp))⟩
 ·have hj:O.next+1<=j:=hj;obtain⟨h1,h2,h3⟩:=h.oZ j (by omega);exact⟨h1,by show bt _ _ _ _=_;rw[aw _ _ (by omega)];exact h2,by show bt _ _ _ _=_;rw[aw _ _ (by omega)];exact h3⟩
 ·obtain⟨p1,p2,p3⟩:=h.jW j c hj;refine⟨p1,p2,fun hne=>p3 ?_⟩;have hne:bt O.hp O.next (some cf.tok) j≠none:=hne
  rwa [aw _ _ (fun e=>by subst e;have hj:G.bR O.next=some c:=hj;rw[h.mn.1]at hj;cases hj)]at hne
 ·have hl:∀m,G.bR m=some c->bt O.hp O.next (some cf.tok) m≠none->O.hp m≠none:=fun m hm hn=>by
   rwa [aw _ _ (fun e=>by subst e;rw[h.mn.1]at hm;cases hm)]at hn
  exact h.inj j k' c (hl j hj lj) (hl k' hk lk) hj hk
 ·rcases nH j _ hj with⟨_,e⟩ | ⟨_,hj⟩
  ·cases e
  ·obtain⟨c,D,T',h1,h2,h3⟩:=h.cells j cs hj;exact⟨c,D,T',h1,h2,h3.mono hle⟩
 ·rcases nH j _ hj with⟨_,e⟩ | ⟨_,hj⟩
  ·cases e
  ·obtain⟨c,E,h1,h2,h3,h4,h5⟩:=h.map j es ck hj;exact⟨c,E,h1,h2,h3,h4.mono hle,h5.mono hle⟩
 ·rcases nH t _ ht with⟨rfl,_⟩ | ⟨e,ht⟩
  ·exact⟨b,f,k,r,C,T,aH _ _ _,hB,hb,hf,Ko,eB⟩
  ·obtain⟨c,g,k',r',D,T',h1,h2⟩:=h.tok t ht;exact⟨c,g,k',r',D,T',by show bt _ _ _ _=_;rw[aw _ _ e];exact h1,h2⟩
 ·have h1:bt G.tok O.next (some (b,f,k,r)) s=some (c,x):=h1;have h2:bt G.tok O.next (some (b,f,k,r)) t=some (c,y):=h2;rcases nH s _ hs with⟨rfl,_⟩ | ⟨es,hs⟩<;>rcases nH t _ ht with⟨rfl,_⟩ | ⟨et,ht⟩
  ·rfl
  ·rw[aH]at h1;rw[aw _ _ et]at h2;injection h1 with h1;injection h1 with h1 _;subst h1
   exact absurd rfl (uw t _ _ ht h2)
  ·rw[aH]at h2;rw[aw _ _ es]at h1;injection h2 with h2;injection h2 with h2 _;subst h2
   exact absurd rfl (uw s _ _ hs h1)
  ·rw[aw _ _ es]at h1;rw[aw _ _ et]at h2;exact h.kL s t c x y hs ht h1 h2
theorem WR.store (h:WR G O w) {k i b:Nat} {cs:List MV} {c:MV} {u:Value} (hk:O.hp k=some (.cells cs)) (hp:G.bR k=some b) (hi:i<cs.length) (hc:VR G c u):
  WR G (O.set k (.cells (cs.set i c))) (w.setCell ⟨b,i,none⟩ u):=by
 obtain⟨b',C,T,h1,h2,h3⟩:=h.cells k cs hk;rw[hp]at h1;injection h1 with h1;subst h1
 have hne:∀j b',j≠k->O.hp j≠none->G.bR j=some b'->b'≠b:=fun j b' hj lj mM e=>hj (h.inj j k b lj (by rw[hk];simp) (e▸mM) hp)
 have ir:∀j,bt O.hp k (some (.cells (cs.set i c))) j≠none->O.hp j≠none:=fun j hn=>by
  by_cases e:j=k
  ·subst e;rw[hk];simp
  ·rwa [aw _ _ e]at hn
 have xW:(w.setCell ⟨b,i,none⟩ u).heap[b]?=some (.cells (C.setIfInBounds i u) T.t T.fr):=by
  simp[World.setCell,Array.getElem?_modify,h2]
 have eC:∀j,j≠b->(w.setCell ⟨b,i,none⟩ u).heap[j]?=w.heap[j]?:=fun j hj=>Below.heap_setCell _ _ _ _ (by simpa using hj)
 refine⟨h.base.setCell (h.jW k b hp).1 u,fun b' o u' oA=>?_,fun j hj=>?_,fun j b' hj=>?_,fun j k' b' lj lk=>h.inj j k' b' (ir j lj) (ir k' lk),fun j ds hj=>?_,fun j es ck hj=>?_,fun t ht=>?_,fun s t b' x y hs ht=>?_,h.oz id (l_ (by simp)) fun j b' s _ hs=>?_,h.qZ id (uv (by simp)) fun j x b' hj hb hx=>by rw[eC _ (hne j b' (fun e=>by subst e;rw[hk]at hj;cases hj) (by rw[hj];simp) hb)];exact hx,h.pw,h.q_ (Gh.Le.refl _) (mo (by simp))⟩
 ·have zg:b'≠b:=fun e=>by subst e;rw[(h.jW k b' hp).2.2 (by rw[hk];simp) o]at oA;cases oA
  rw[World.cell?_setCell_other _ _ _ _ (fun e=>zg (by injection e with e;exact e.symm))];exact h.ec b' o u' oA
 ·obtain⟨d1,d2,d3⟩:=h.oZ j hj;refine⟨d1,d2,?_⟩;show bt _ _ _ _=_;rw[aw _ _ (fun e=>by subst e;rw[d3]at hk;cases hk)];exact d3
 ·obtain⟨p1,p2,p3⟩:=h.jW j b' hj;refine⟨p1,by simp[World.setCell];exact p2,fun hne=>p3 ?_⟩;have hne:bt O.hp k (some (.cells (cs.set i c))) j≠none:=hne;by_cases e:j=k
  ·subst e;rw[hk];simp
  ·rwa [aw _ _ e]at hne
 ·have hj:bt O.hp k (some (.cells (cs.set i c))) j=some (.cells ds):=hj;by_cases e:j=k
  ·subst e;rw[aH]at hj;injection hj with hj;injection hj with hj;subst hj
   refine⟨b,_,⟨T.t,T.fr,by simpa using T.ok⟩,hp,xW,?_⟩;have:=h3.set (i:=i) hc;rw[alC,List.length_set,List.take_set];exact this
  ·rw[aw _ _ e]at hj;obtain⟨b',D,T',d1,d2,d3⟩:=h.cells j ds hj;exact⟨b',D,T',d1,by rw[eC _ (hne j b' e (by rw[hj];simp) d1)];exact d2,d3⟩
 ·have hj:bt O.hp k (some (.cells (cs.set i c))) j=some (.map es ck):=hj;by_cases e:j=k
  ·subst e;rw[aH]at hj;cases hj
  ·rw[aw _ _ e]at hj;obtain⟨b',E,d1,d2,d3⟩:=h.map j es ck hj;exact⟨b',E,d1,by rw[eC _ (hne j b' e (by rw[hj];simp) d1)];exact d2,d3⟩
 ·have ht:bt O.hp k (some (.cells (cs.set i c))) t=some .tok:=ht;have e:t≠k:=fun e=>by subst e;rw[aH]at ht;cases ht
  rw[aw _ _ e]at ht;obtain⟨b',f,k',r,D,T',d1,d2,d3,d4,d6,d7⟩:=h.tok t ht;exact⟨b',f,k',r,D,T',d1,d2,by rw[eC _ (fun e=>d7 k (by rw[e];exact hp))];exact d3,d4,d6,d7⟩
 ·have hs:bt O.hp k (some (.cells (cs.set i c))) s=some .tok:=hs;have ht:bt O.hp k (some (.cells (cs.set i c))) t=some .tok:=ht;have e:t≠k:=fun e=>by subst e;rw[aH]at ht;cases ht
  have e':s≠k:=fun e=>by subst e;rw[aH]at hs;cases hs
  rw[aw _ _ e]at ht;rw[aw _ _ e']at hs;exact h.kL s t b' x y hs ht
 ·by_cases e:b'=b
  ·subst e;simp only[World.shape?,h2]at hs;simp only[World.shape?,xW,Array.size_setIfInBounds];exact hs
  ·exact gU (fun x hx=>by rw[eC _ e];exact hx) hs
theorem WR.freeze (h:WR G O w) {k o n c sz:Nat} {cs:List MV} {u:Value} (hk:O.hp k=some (.cells cs)) (hx:VR G (.bq k o n c) u) (hl:o+sz<=cs.length):
  ∃H,G.Le H/\WR H (O.kill k) w/\VR H (.sl n ((cs.drop o).take sz) (if c=n then .full else .ar)) u:=by
 cases hx with
 | bq hp hn hm=>
   rename_i b;obtain⟨b',C,T,h1,h2,h3⟩:=h.cells k cs hk;rw[hp]at h1;injection h1 with h1;subst h1
   have ah8:=(h.jW k b hp).2.2 (by rw[hk];simp)
   obtain⟨hle,hW⟩:=(h.kill k).Dh (b:=b) (f:=fun o=>C[o]?) (fun o u hc=>by rw[ah8 o]at hc;cases hc)
    (fun o u hf=>by simp only[World.cell?,h2,agu,XN,if_false];exact hf)
    (fun j hj XU=>by
     have lj:O.hp j≠none:=fun e=>by
      by_cases e2:j=k
      ·subst e2;exact hj (aH _ _ _)
      ·exact hj ((aw _ _ e2).trans e)
     have:j=k:=h.inj j k b lj (by rw[hk];simp) XU hp;subst this;exact hj (aH _ _ _))
    (fun t c' x ht oA e=>by
     subst e
     have ht':O.hp t=some .tok:=by
      have ht:bt O.hp k none t=some .tok:=ht;by_cases e:t=k
      ·subst e;rw[aH]at ht;cases ht
      ·rwa [aw _ _ e]at ht
     obtain⟨_,_,_,_,_,_,d1,_,_,_,_,d7⟩:=h.tok t ht';rw[oA]at d1;injection d1 with d1;injection d1 with d1 _;subst d1
     exact absurd hp (d7 k))
   refine⟨_,hle,hW,?_⟩;have h4:aO G ((cs.drop o).take sz) (((C.toList.take cs.length).drop o).take sz):=(h3.drop o).take sz
   have h5:((C.toList.take cs.length).drop o).take sz=(C.toList.drop o).take sz:=by
    rw[List.drop_take,List.take_take,Nat.min_eq_left (by omega)]
   rw[h5]at h4;refine .sl h4.1 (fun i u hu=>?_) (fun i c u a b=>(h4.2 i c u a b).mono hle) hn hm ?_
   ·show(if b=b then C[o+i]? else _)=some u;rw[if_pos rfl];rw[TP]at hu;split at hu
    ·rw[acu]at hu;simpa using hu
    ·cases hu
   ·split
    ·rename_i e;exact e
    ·trivial
end
structure cy where
 under:TypeDesc
 size:Nat
 bytes:Nat
 zero:List MV
def eL:TypeDesc->Bool
 | .struct _ | .array _ _=>true
 | _=>false
structure xt (P:Program) (t:TypeId) (i:cy):Prop where
 under:P.underlying t=some i.under
 info:∃ti z,P.info? t=some ti/\ti.size=i.size/\ti.bytes=i.bytes/\ti.zero=some z/\z.cells.size=i.size/\∀G,aO G i.zero z.cells.toList
 whole:∀ti z,P.info? t=some ti->ti.zero=some z->(eL i.under=true->∃cs,z= .agg cs)/\(eL i.under=false->z.cells= #[z])
abbrev bY:=TypeId->Option cy
def aL (P:Program) (tab:bY):Prop:=∀t i,tab t=some i->xt P t i
def ofConst:Value->Option MV
 | .string s=>some (.str s.data.toList)
 | .slice none 0 0=>some (.sl 0 [] .nil)
 | x=>if plain x then some (.v x)else none
theorem B4 {G:Gh} {x:Value} {m:MV} (h:ofConst x=some m):VR G m x:=by
 unfold ofConst at h;split at h
 ·injection h with h;subst h;rename_i s;obtain⟨⟨l⟩⟩:=s;exact .str
 ·injection h with h;subst h;exact .slnil
 ·split at h
  ·injection h with h;subst h;exact .v ‹_›
  ·cases h
abbrev Env:=List (Nat×MV)
def look:Env->Nat->Option MV
 | [],_=>none
 | (k,x)::r,t=>bif t==k then some x else look r t
def ev (e:Env):Operand->Option MV
 | .tmp t=>look e t
 | .const v=>ofConst v
 | .global _=>none
 | .func f=>some (.func (.func f) [] [])
structure Sz where
 n:Nat
 lo:Nat
def kM (n:Sz):Env->Env
 | []=>[]
 | (t,m)::e=>bif decide (t<n.lo)then(t,m)::kM n e else kM n e
theorem xX {n:Sz}:∀{e:Env} {t:Nat},look (kM n e) t=if t<n.lo then look e t else none
 | [],t=>by simp[kM,look]
 | (k,m)::e,t=>by
   have ih:=xX (n:=n) (e:=e) (t:=t);simp only[kM];by_cases hk:k<n.lo
   ·simp only[hk,decide_true,cond_true,look,ih];by_cases ht:t=k
    ·subst ht;simp[hk]
    ·have:(t==k)=false:=by simpa using ht
     simp[this]
   ·simp only[hk,decide_false,cond_false,look,ih];by_cases ht:t<n.lo
    ·have:(t==k)=false:=by simp;omega
     simp[this]
    ·simp[ht]
structure FR (G:Gh) (n:Sz) (D:List Deferred) (e:Env) (a:Act):Prop where
 defers:a.defers=D
 size:a.tmps.size=n.n
 get:∀t x,look e t=some x->∃u,a.tmps[t]?=some u/\VR G x u
section
variable {G H:Gh} {n:Sz} {D:List Deferred} {e:Env} {a:Act} {P:Program} {tab:bY} {O O':VH} {w:World} {m:MV}
theorem FR.mono (h:FR G n D e a) (hl:G.Le H):FR H n D e a:=⟨h.defers,h.size,fun t x hx=>by obtain⟨u,h1,h2⟩:=h.get t x hx;exact⟨u,h1,h2.mono hl⟩⟩
theorem FR.ev (h:FR G n D e a) {x:Operand} (hx:ev e x=some m):VR G m (a.eval x):=by
 cases x with
 | tmp t=>
   obtain⟨u,h1,h2⟩:=h.get t m hx
   have:a.eval (.tmp t)=u:=by
    show a.tmps.getD t undef=u;rw[akF,h1];rfl
   rw[this];exact h2
 | const v=>exact B4 hx
 | global g=>cases hx
 | func f=>
   injection hx with hx;subst hx
   exact VR.func (us:=[]) (vs:=[]) rfl (fun i c u h=>by simp at h) rfl (fun i c u h=>by simp at h)
theorem FR.put (h:FR G n D e a) {d:Nat} {u:Value} (hd:d<n.n) (hu:VR G m u):FR G n D ((d,m)::e) (a.put (some d) u):=by
 refine⟨h.defers,by simp[Act.put,h.size],fun t x hx=>?_⟩;simp only[look]at hx;by_cases e':t=d
 ·subst e';simp only[beq_self_eq_true,cond_true,Option.some.injEq]at hx;subst hx;exact⟨u,by simp[Act.put,h.size,hd],hu⟩
 ·have:(t==d)=false:=by simpa using e'
  rw[this]at hx;obtain⟨u',h1,h2⟩:=h.get t x hx;refine⟨u',?_,h2⟩;simp only[Act.put];rw[ah3 (Ne.symm e')];exact h1
theorem FR.less (h:FR G n D e a) {e':Env} (hl:∀t x,look e' t=some x->look e t=some x):FR G n D e' a:=⟨h.defers,h.size,fun t x hx=>h.get t x (hl t x hx)⟩
def fP (e:Env) (l:List Operand):Option (List MV):=l.mapM (ev e)
theorem FR.fP (h:FR G n D e a):∀{l:List Operand} {ms:List MV},fP e l=some ms->aO G ms (l.map a.eval)
 | [],ms,hx=>by simp[Go.Proofs.YtoclnkfdahmnhaaGreatDoor.fP]at hx;subst hx;exact aO.nil
 | x::l,ms,hx=>by
   simp only[Go.Proofs.YtoclnkfdahmnhaaGreatDoor.fP,agt,ags,Kn]at hx;obtain⟨m,h1,XV,h2,h3⟩:=hx;injection h3 with h3;subst h3
   exact aO.cons (h.ev h1) (FR.fP h h2)
def qE (op:BinOp) (k:IntKind) (a b:Int):Option MV:=
 match op with
 | .add=>some (.v (.int k (k.wrap (a+b))))
 | .sub=>some (.v (.int k (k.wrap (a - b))))
 | .mul=>some (.v (.int k (k.wrap (a*b))))
 | .quo=>if b=0 then none else some (.v (.int k (k.wrap (a.tdiv b))))
 | .rem=>if b=0 then none else some (.v (.int k (a.tmod b)))
 | .eql=>some (.v (.bool (a==b)))
 | .neq=>some (.v (.bool (a != b)))
 | .lss=>some (.v (.bool (decide (a<b))))
 | .leq=>some (.v (.bool (decide (a<=b))))
 | .gtr=>some (.v (.bool (decide (a>b))))
 | .geq=>some (.v (.bool (decide (a>=b))))
 | .and=>some (.v (.int k (k.wrap (BitVec.ofInt k.bits a&&& BitVec.ofInt k.bits b).toNat)))
 | .or=>some (.v (.int k (k.wrap (BitVec.ofInt k.bits a||| BitVec.ofInt k.bits b).toNat)))
 | .xor=>some (.v (.int k (k.wrap (BitVec.ofInt k.bits a ^^^ BitVec.ofInt k.bits b).toNat)))
 | _=>none
def zj (op:BinOp) (k:IntKind) (a b:Int):Option MV:=
 if b<0 then none else
 match op with
 | .shl=>some (.v (.int k (k.wrap (a*2 ^ (min b.toNat k.bits)))))
 | .shr=>some (.v (.int k (a.fdiv (2 ^ (min b.toNat k.bits)))))
 | _=>none
def aeP (op:BinOp) (a b:List UInt8):Option MV:=
 match op with
 | .add=>if a.length+b.length<=9223372036854775807 then some (.str (a++b))else none
 | .eql=>some (.v (.bool (a==b)))
 | .neq=>some (.v (.bool (!(a==b))))
 | .lss=>some (.v (.bool (Op.bytesLess a b)))
 | .leq=>some (.v (.bool (Op.bytesLess a b||a==b)))
 | .gtr=>some (.v (.bool (!(Op.bytesLess a b||a==b))))
 | .geq=>some (.v (.bool (!(Op.bytesLess a b))))
 | _=>none
def mR (tab:bY) (op:BinOp) (t:TypeId) (same:Bool):Option MV:=
 match((tab t).map cy.under:Option TypeDesc),op with
 | some (.pointer _),.eql=>some (.v (.bool same))
 | some (.pointer _),.neq=>some (.v (.bool (!same)))
 | _,_=>none
def c5 (tab:bY) (op:BinOp) (t:TypeId) (x y:MV):Option MV:=
 match x,y with
 | .v (.int k a),.v (.int k' b)=>
   match op with
   | .shl=>zj .shl k a b
   | .shr=>zj .shr k a b
   | op=>if k=k' then qE op k a b else none
 | .v (.bool a),.v (.bool b)=>
   match((tab t).map cy.under:Option TypeDesc),op with
   | some .bool,.eql=>some (.v (.bool (a==b)))
   | some .bool,.neq=>some (.v (.bool (!(a==b))))
   | _,_=>none
 | .str a,.str b=>aeP op a b
 | .v (.pointer none),.v (.pointer none)=>mR tab op t true
 | .ptr _ _,.v (.pointer none)=>mR tab op t false
 | .v (.pointer none),.ptr _ _=>mR tab op t false
 | .db _ _,.v (.pointer none)=>mR tab op t false
 | .v (.pointer none),.db _ _=>mR tab op t false
 | .ptr b o,.ptr b' o'=>if b=b'/\o=o' then(match((tab t).map cy.under:Option TypeDesc)with
   | some (.pointer el)=>match tab el with
     | some te=>if te.size=0 then none else mR tab op t true
     | none=>none
   | _=>none)else none
 | _,_=>none
theorem toList_mk (l:List UInt8):(⟨⟨l⟩⟩:ByteArray).toList=l:=by
 rw[ByteArray.toList_eq]
theorem run_equal_bool {t:TypeId} (h:P.underlying t=some .bool) (a b:Bool) (w:World):(Op.equal t (.bool a) (.bool b)).run P w= .ok (a==b) w:=by
 show(Op.equalIn (9999+1) t (.bool a) (.bool b)).run P w=_;generalize 9999=d;simp[Op.equalIn,run_underlying h]
def SS (G:Gh) (w:World):Prop:=∀b o u,G.ec b o=some u->w.cell? ⟨b,o,none⟩=some u
theorem WR.ss (h:WR G O w):SS G w:=h.ec
def aZ (P:Program) (s:Sem Value) (G:Gh) (m:MV):Prop:=∃u,VR G m u/\∀w,SS G w->s.run P w= .ok u w
theorem aZ.of {s:Sem Value} {u:Value} (hr:∀w,SS G w->s.run P w= .ok u w) (hu:VR G m u):aZ P s G m:=⟨u,hu,hr⟩
theorem xY (ht:aL P tab) {t:TypeId} {d:TypeDesc} (h:(tab t).map cy.under=some d):P.underlying t=some d:=by
 obtain⟨i,hi,hu⟩:=Km.1 h;rw[<-hu];exact(ht t i hi).under
theorem XW {t:TypeId} {i:cy} (h:xt P t i) (w:World):(sizeOf t).run P w= .ok i.size w:=by
 obtain⟨ti,z,h1,h2,_⟩:=h.info;simp[sizeOf,typeInfo,h1,h2]
theorem rL (ht:aL P tab) {op:BinOp} {t:TypeId} {same:Bool} {p q:Option Addr} {xo yo:Operand} (h:mR tab op t same=some m)
  (heq:∀el,P.underlying t=some (.pointer el)->∀(w:World) (d:Nat),(Op.equalIn (d+1) t (.pointer p) (.pointer q)).run P w= .ok same w):aZ P (do eqGuard op t xo yo (.pointer p) (.pointer q);binOp op t (.pointer p) (.pointer q)) G m:=by
 have hg:∀w,(eqGuard op t xo yo (.pointer p) (.pointer q)).run P w= .ok () w:=fun w=>by unfold eqGuard;split<;>simp
 unfold mR at h;split at h
 ·rename_i el hu;injection h with h;subst h
  refine aZ.of (fun w _=>?_) (.v rfl);rw[Sem.run_bind,hg,Result.andThen_ok];have:=heq el (xY ht hu) w 9999;simp only[binOp,Op.equal,Op.maxDepth,Sem.run_bind,this,Result.andThen_ok,Sem.run_pure]
 ·rename_i el hu;injection h with h;subst h
  refine aZ.of (fun w _=>?_) (.v rfl);rw[Sem.run_bind,hg,Result.andThen_ok];have:=heq el (xY ht hu) w 9999;simp only[binOp,Op.equal,Op.maxDepth,Sem.run_bind,this,Result.andThen_ok,Sem.run_pure]
 ·cases h
theorem XY (ht:aL P tab) {op:BinOp} {t:TypeId} {x y:MV} {u v:Value} {xo yo:Operand} (h:c5 tab op t x y=some m) (hx:VR G x u) (hy:VR G y v):
  aZ P (do eqGuard op t xo yo u v;binOp op t u v) G m:=by
 unfold c5 at h;split at h
 ·rename_i k a k' b;cases hx;cases hy
  have hg:∀w,(eqGuard op t xo yo (.int k a) (.int k' b)).run P w= .ok () w:=fun w=>by unfold eqGuard;split<;>simp
  split at h
  ·unfold zj at h;split at h
   ·cases h
   ·injection h with h;subst h
    exact aZ.of (fun w _=>by rw[Sem.run_bind,hg,Result.andThen_ok];simp[binOp,Op.shift, *]) (.v rfl)
  ·unfold zj at h;split at h
   ·cases h
   ·injection h with h;subst h
    exact aZ.of (fun w _=>by rw[Sem.run_bind,hg,Result.andThen_ok];simp[binOp,Op.shift, *]) (.v rfl)
  ·rename_i h1 h2;split at h
   ·subst k'
    cases op<;>simp only[qE]at h<;>first
     | (exact absurd rfl h1)
     | (exact absurd rfl h2)
     | (cases h;done)
     | (injection h with h;subst h;exact aZ.of (fun w _=>by rw[Sem.run_bind,hg,Result.andThen_ok];simp[binOp,Op.intArith,Op.intCmp,Op.intBits]) (.v rfl))
     | (split at h
        ·cases h
        ·injection h with h;subst h;exact aZ.of (fun w _=>by rw[Sem.run_bind,hg,Result.andThen_ok];simp[binOp,Op.intDiv, *]) (.v rfl))
   ·cases h
 ·rename_i a b;cases hx;cases hy
  have hg:∀w,(eqGuard op t xo yo (.bool a) (.bool b)).run P w= .ok () w:=fun w=>by unfold eqGuard;split<;>simp
  split at h
  ·rename_i hu;obtain⟨i,hi,hu⟩:=Km.1 hu;have:=(ht t i hi).under;rw[hu]at this;injection h with h;subst h
   exact aZ.of (fun w _=>by rw[Sem.run_bind,hg,Result.andThen_ok];simp only[binOp,Sem.run_bind,run_equal_bool this,Result.andThen_ok,Sem.run_pure]) (.v rfl)
  ·rename_i hu;obtain⟨i,hi,hu⟩:=Km.1 hu;have:=(ht t i hi).under;rw[hu]at this;injection h with h;subst h
   exact aZ.of (fun w _=>by rw[Sem.run_bind,hg,Result.andThen_ok];simp only[binOp,Sem.run_bind,run_equal_bool this,Result.andThen_ok,Sem.run_pure]) (.v rfl)
  ·cases h
 ·rename_i a b;cases hx;rename_i e1;cases hy
  have hg:∀w,(eqGuard op t xo yo (.string ⟨⟨a⟩⟩) (.string ⟨⟨b⟩⟩)).run P w= .ok () w:=fun w=>by unfold eqGuard;split<;>simp
  cases op<;>simp only[aeP]at h<;>first
   | (cases h;done)
   | (injection h with h;subst h;exact aZ.of (fun w _=>by rw[Sem.run_bind,hg,Result.andThen_ok];simp[binOp,Op.stringOp,toList_mk]) (.v rfl))
   | (split at h
      ·injection h with h;subst h
       refine aZ.of (u:=.string ⟨⟨a++b⟩⟩) (fun w _=>?_) .str;rw[Sem.run_bind,hg,Result.andThen_ok];have e:(⟨⟨a⟩⟩:ByteArray)++⟨⟨b⟩⟩=⟨⟨a++b⟩⟩:=ByteArray.ext (by simp)
       have hn:¬(((⟨⟨a⟩⟩:ByteArray).size+(⟨⟨b⟩⟩:ByteArray).size:Nat):Int)>IntKind.i64.max:=by
        show ¬((a.length+b.length:Nat):Int)>_;have:IntKind.i64.max=9223372036854775807:=by decide
        omega
       simp only[binOp,Op.stringOp,if_neg hn,e,Sem.run_pure]
      ·cases h)
 ·rename_i hx' hy';cases hx;cases hy
  exact rL ht h (fun el hu w d=>by simp[Op.equalIn,run_underlying hu])
 ·cases hx;cases hy
  exact rL ht h (fun el hu w d=>by simp[Op.equalIn,run_underlying hu])
 ·cases hx;cases hy
  exact rL ht h (fun el hu w d=>by simp[Op.equalIn,run_underlying hu])
 ·cases hx;cases hy
  exact rL ht h (fun el hu w d=>by simp[Op.equalIn,run_underlying hu])
 ·cases hx;cases hy
  exact rL ht h (fun el hu w d=>by simp[Op.equalIn,run_underlying hu])
 ·rename_i b o b' o';split at h
  ·rename_i hb;obtain⟨rfl,rfl⟩:=hb;cases hx with
   | ptr h1=>
     cases hy with
     | ptr h2=>
       rw[h1]at h2;injection h2 with h2;subst h2;split at h
       ·rename_i el hu;split at h
        ·rename_i te he;split at h
         ·cases h
         ·rename_i hz;refine rL ht h (fun el' DB w d=>?_);have dm:=xY ht hu;rw[DB]at dm;injection dm with dm;injection dm with dm;subst dm;simp[Op.equalIn,run_underlying DB,XW (ht _ te he),hz,run_sameAddr_same]
        ·cases h
       ·cases h
  ·cases h
 ·cases h
def jO (G:Gh) (w w':World):Prop:=∀k b,G.bR k=some b->w'.heap[b]?=w.heap[b]?
theorem jO.refl (G:Gh) (w:World):jO G w w:=fun _ _ _=>rfl
theorem jO.alloc (h:WR G O w) (o:Obj):jO G w (w.alloc o):=fun k b hk=>by
 have:=(h.jW k b hk).2.1;rw[fh,if_neg (by omega)]
def gY (P:Program) (s:Sem Value) (w:World) (G:Gh) (O':VH) (m:MV):Prop:=∃u w' H,s.run P w= .ok u w'/\Gh.Le G H/\WR H O' w'/\VR H m u/\jO G w w'
def Iy (P:Program) (s:Sem Unit) (w:World) (G:Gh) (O':VH):Prop:=∃w' H,s.run P w= .ok () w'/\Gh.Le G H/\WR H O' w'
theorem gY.of {s:Sem Value} {u:Value} (h:WR G O w) (hr:s.run P w= .ok u w) (hu:VR G m u):gY P s w G O m:=⟨u,w,G,hr,Gh.Le.refl G,h,hu,jO.refl _ _⟩
def aeQ (P:Program) (s:Sem Value) (w:World) (G:Gh) (m:MV):Prop:=∃u,s.run P w= .ok u w/\VR G m u
theorem R1 {t:TypeId} {i:cy} (h:xt P t i) (w:World):∃ti,(typeInfo t).run P w= .ok ti w/\ti.size=i.size/\ti.bytes=i.bytes:=by
 obtain⟨ti,z,h1,h2,h3,_⟩:=h.info;exact⟨ti,by simp[typeInfo,h1],h2,h3⟩
theorem fi {t:TypeId} {i:cy} (h:xt P t i) (w:World):(sizeOf t).run P w= .ok i.size w:=by
 obtain⟨ti,h1,h2,_⟩:=R1 h w;rw[sizeOf,Sem.run_bind,h1,Result.andThen_ok,Sem.run_pure,h2]
theorem nZ {t:TypeId} {i:cy} (h:xt P t i) (w:World):(isAgg t).run P w= .ok (eL i.under) w:=by
 rw[isAgg,Sem.run_bind,run_underlying h.under,Result.andThen_ok];cases i.under<;>rfl
theorem GU {t:TypeId} {i:cy} (h:xt P t i) (w:World):∃z,(zeroValue t).run P w= .ok z w/\z.cells.size=i.size/\∀G,aO G i.zero z.cells.toList:=by
 obtain⟨ti,z,h1,_,_,h4,h5,h6⟩:=h.info;exact⟨z,by simp[zeroValue,typeInfo,h1,h4],h5,h6⟩
def dJ:MV->List MV
 | .agg cs=>cs
 | m=>[m]
def dK:MV->Bool
 | .agg _ | .tuple _=>false
 | _=>true
theorem xZ {u:Value} (h:VR G m u):aO G (dJ m) u.cells.toList:=by
 cases h with
 | agg h1 h2=>exact⟨h1,h2⟩
 | v h1=>
   have:u.cells= #[u]:=by cases u<;>first | rfl | (simp[plain]at h1)
   rw[this];exact aO.cons (.v h1) aO.nil
 | str=>exact aO.cons .str aO.nil
 | ptr h1=>exact aO.cons (.ptr h1) aO.nil
 | db h1 h2 h3=>exact aO.cons (.db h1 h2 h3) aO.nil
 | slnil=>exact aO.cons .slnil aO.nil
 | nX h1=>exact aO.cons (.nX h1) aO.nil
 | jV=>exact aO.cons .jV aO.nil
 | sl h1 h2 h3 h4 h5 h6=>exact aO.cons (.sl h1 h2 h3 h4 h5 h6) aO.nil
 | bq h1 h2 h3=>exact aO.cons (.bq h1 h2 h3) aO.nil
 | map h1=>exact aO.cons (.map h1) aO.nil
 | func h1 h2 h3 h4=>exact aO.cons (.func h1 h2 h3 h4) aO.nil
 | iface h1=>exact aO.cons (.iface h1) aO.nil
 | tuple h1 h2=>exact aO.cons (.tuple h1 h2) aO.nil
theorem GV {u:Value} (h:VR G m u) (hl:dK m=true):u.oneCell'=true:=by
 cases h with
 | v h1=>cases u<;>first | rfl | (simp[plain]at h1)
 | agg h1 h2=>cases hl
 | tuple h1 h2=>cases hl
 | _=>rfl
theorem x_ {cs:List MV} {us:List Value} (h:aO G cs us) (hl:cs.all dK=true):∀u∈us,u.oneCell'=true:=by
 intro u hu;obtain⟨i,hi,rfl⟩:=List.mem_iff_getElem.1 hu;have hc:i<cs.length:=by rw[<-h.1];exact hi
 exact GV (h.2 i cs[i] us[i] (acs hc) (acs hi)) (alH.1 hl _ (List.getElem_mem _))
def mS (agg:Bool) (size:Nat) (cs:List MV) (off:Nat):Option MV:=
 if agg then(if off+size<=cs.length then some (.agg ((cs.drop off).take size))else none)else cs[off]?
def cellsOf (O:VH):MV->Option (List MV×Nat)
 | .ptr k off=>match O.hp k with
   | some (.cells cs)=>some (cs,off)
   | _=>none
 | .db cs off=>some (cs,off)
 | _=>none
theorem Kq (h:WR G O w) {u:Value} {cs:List MV} {off:Nat} (hx:VR G m u) (hc:cellsOf O m=some (cs,off)):
  ∃b o us,u= .pointer (some ⟨b,o+off,none⟩)/\aO G cs us/\∀i v,us[i]?=some v->w.cell? ⟨b,o+i,none⟩=some v:=by
 cases hx with
 | ptr h1=>
   rename_i k off' b;simp only[cellsOf]at hc;split at hc
   ·rename_i cs' hk;injection hc with hc;injection hc with e1 e2;subst e1;subst e2
    obtain⟨b',C,T,h2,h3,h4⟩:=h.cells k _ hk;rw[h1]at h2;injection h2 with h2;subst h2
    refine⟨b,0,_,by simp,h4,fun i v hv=>?_⟩;rw[TP]at hv;split at hv
    ·simp only[ah0,World.cell?,h3,agu,XN,if_false];simpa using hv
    ·cases hv
   ·cases hc
 | db h1 h2 h3=>
   simp only[cellsOf,Option.some.injEq,Prod.mk.injEq]at hc;obtain⟨rfl,rfl⟩:=hc;exact⟨_,_,_,rfl,⟨h1,h3⟩,fun i v hv=>h.ec _ _ _ (h2 i v hv)⟩
 | _=>cases hc
def eZ (tab:bY) (O:VH) (t:TypeId) (m:MV):Option MV:=
 match tab t,cellsOf O m with
 | some i,some (cs,off)=>mS (eL i.under) i.size cs off
 | _,_=>none
def Sx (G:Gh) (w x:World):Prop:=SS G x/\jO G w x
theorem WR.sx (h:WR G O w):Sx G w w:=⟨h.ss,jO.refl _ _⟩
theorem F3 (h:WR G O w) {u:Value} {cs:List MV} {off:Nat} (hx:VR G m u) (hc:cellsOf O m=some (cs,off)):
  ∃b o us,u= .pointer (some ⟨b,o+off,none⟩)/\aO G cs us/\∀x,Sx G w x->∀i v,us[i]?=some v->x.cell? ⟨b,o+i,none⟩=some v:=by
 cases hx with
 | ptr h1=>
   rename_i k off' b;simp only[cellsOf]at hc;split at hc
   ·rename_i cs' hk;injection hc with hc;injection hc with e1 e2;subst e1;subst e2
    obtain⟨b',C,T,h2,h3,h4⟩:=h.cells k _ hk;rw[h1]at h2;injection h2 with h2;subst h2
    refine⟨b,0,_,by simp,h4,fun x hs i v hv=>?_⟩;have XT:=(hs.2 k b h1).trans h3;rw[TP]at hv;split at hv
    ·simp only[ah0,World.cell?,XT,agu,XN,if_false];simpa using hv
    ·cases hv
   ·cases hc
 | db h1 h2 h3=>
   simp only[cellsOf,Option.some.injEq,Prod.mk.injEq]at hc;obtain⟨rfl,rfl⟩:=hc;exact⟨_,_,_,rfl,⟨h1,h3⟩,fun x hs i v hv=>hs.1 _ _ _ (h2 i v hv)⟩
 | _=>cases hc
theorem n0 (ht:aL P tab) (h:WR G O w) {t:TypeId} {x m:MV} {u:Value} (hv:eZ tab O t x=some m) (hx:VR G x u):∃r,VR G m r/\∀y,Sx G w y->(Instr.loadAt t u).run P y= .ok r y:=by
 unfold eZ at hv;split at hv
 ·rename_i i cs off hi hc;have fx:=ht t i hi;obtain⟨b,o,us,rfl,n4,jh⟩:=F3 h hx hc;simp only[Instr.loadAt,Instr.sureAddr,loadVar];unfold mS at hv;split at hv
  ·rename_i px;split at hv
   ·rename_i hle;injection hv with hv;subst hv
    have B5:=(n4.drop off).take i.size;have hlen:((us.drop off).take i.size).length=i.size:=by simp[n4.1];omega
    refine⟨_,.agg B5.1 B5.2,fun y hy=>?_⟩
    have sF:∀j v,((us.drop off).take i.size)[j]?=some v->y.cell? ((⟨b,o+off,none⟩:Addr).add j)=some v:=by
     intro j v hj;rw[Addr.add_lit,ah4];rw[TP]at hj;split at hj
     ·rw[acu]at hj;exact jh y hy _ v hj
     ·cases hj
    have yb:=run_loadCells_list (P:=P) y ⟨b,o+off,none⟩ _ sF;rw[hlen]at yb;simp[nZ fx,px,fi fx,yb]
   ·cases hv
  ·rename_i px;obtain⟨v,mT,CK⟩:=n4.get hv;exact⟨v,CK,fun y hy=>by simp[nZ fx,px,jh y hy _ v mT]⟩
 ·cases hv
theorem DC (ht:aL P tab) (h:WR G O w) {t:TypeId} {x m:MV} {u:Value} (hv:eZ tab O t x=some m) (hx:VR G x u):aeQ P (Instr.loadAt t u) w G m:=by
 obtain⟨r,h1,h2⟩:=n0 (P:=P) ht h hv hx;exact⟨r,h2 w h.sx,h1⟩
theorem GW (ht:aL P tab) (h:WR G O w) {t:TypeId} {x m:MV} {u:Value} (hv:eZ tab O t x=some m) (hx:VR G x u):gY P (Instr.loadAt t u) w G O m:=by
 obtain⟨r,h1,h2⟩:=DC (P:=P) ht h hv hx;exact gY.of h h1 h2
theorem OL (ht:aL P tab) {t:TypeId} {cs:List MV} {off:Nat} {m:MV} {u:Value} (hv:eZ tab O t (.db cs off)=some m) (hx:VR G (.db cs off) u):aZ P (Instr.loadAt t u) G m:=by
 unfold eZ at hv;split at hv
 ·rename_i i cs' off' hi hc;simp only[cellsOf,Option.some.injEq,Prod.mk.injEq]at hc;obtain⟨rfl,rfl⟩:=hc;have fx:=ht t i hi;cases hx with
  | db h1 h2 h3=>
    rename_i us b o;have n4:aO G cs us:=⟨h1,h3⟩;simp only[Instr.loadAt,Instr.sureAddr,loadVar];unfold mS at hv;split at hv
    ·rename_i px;split at hv
     ·rename_i hle;injection hv with hv;subst hv
      have B5:=(n4.drop off).take i.size;have hlen:((us.drop off).take i.size).length=i.size:=by simp[n4.1];omega
      have sF:∀w,SS G w->∀j v,((us.drop off).take i.size)[j]?=some v->w.cell? ((⟨b,o+off,none⟩:Addr).add j)=some v:=by
       intro w hw j v hj;rw[Addr.add_lit,ah4];rw[TP]at hj;split at hj
       ·rw[acu]at hj;exact hw _ _ _ (h2 _ v hj)
       ·cases hj
      have yb:∀w,SS G w->(loadCells ⟨b,o+off,none⟩ i.size).run P w= .ok ((us.drop off).take i.size).toArray w:=fun w hw=>by
       have:=run_loadCells_list (P:=P) w ⟨b,o+off,none⟩ _ (sF w hw)
       rwa [hlen]at this
      exact aZ.of (fun w hw=>by simp[nZ fx,px,fi fx,yb w hw]) (.agg B5.1 B5.2)
     ·cases hv
    ·rename_i px;obtain⟨v,mT,CK⟩:=n4.get hv;exact aZ.of (fun w hw=>by simp[nZ fx,px,hw _ _ _ (h2 _ v mT)]) CK
 ·cases hv
def eg (cs:List MV) (o:Nat):List MV->List MV
 | []=>cs
 | x::xs=>eg (cs.set o x) (o+1) xs
theorem VH.set_set (O:VH) (k:Nat) (x y:cf):(O.set k x).set k y=O.set k y:=by
 simp only[VH.set,VH.mk.injEq,true_and]
 funext j
 simp only[bt];cases Nat.beq j k<;>rfl
theorem VH.an (O:VH) (k:Nat) (x:cf):(O.set k x).hp k=some x:=aH _ _ _
theorem VH.wj {O:VH} {k:Nat} {x:cf} (h:O.hp k=some x):O.set k x=O:=by
 obtain⟨n,f⟩:=O;simp only[VH.set,VH.mk.injEq,true_and]
 funext j
 by_cases e:j=k
 ·subst e;rw[aH];exact h.symm
 ·exact aw _ _ e
theorem yc {k b:Nat} (hp:G.bR k=some b) (off:Nat):∀(xs:List MV) (us:List Value) (i:Nat) (cs:List MV) (O:VH) (w:World),WR G O w->O.hp k=some (.cells cs)->aO G xs us->xs.all dK=true->off+i+xs.length<=cs.length->
  ∃w',(storeCells ⟨b,off,none⟩ us i).run P w= .ok () w'/\WR G (O.set k (.cells (eg cs (off+i) xs))) w'
 | [],us,i,cs,O,w,h,hk,hx,_,_=>by
   rw[hx.fF];refine⟨w,rfl,?_⟩;simp only[eg];rw[VH.wj hk];exact h
 | x::xs,us,i,cs,O,w,h,hk,hx,hl,hle=>by
   obtain⟨u,TT,rfl,h1,h2⟩:=hx.cD;simp only[List.all_cons,RZ]at hl;simp only[ah5]at hle;have dd:=h.store (i:=off+i) hk hp (by omega) h1;obtain⟨w',hr,hw⟩:=yc hp off xs TT (i+1) (cs.set (off+i) x) _ _ dd (VH.an _ _ _) h2 hl.2 (by simp;omega);refine⟨w',?_,?_⟩
   ·obtain⟨b',C,T,e1,e2,e3⟩:=h.cells k cs hk;rw[hp]at e1;injection e1 with e1;subst e1
    have hlen:off+i<C.size:=by have:=e3.1;simp at this;omega
    have jh:w.cell? ⟨b,off+i,none⟩=some C[off+i]:=by
     simp only[World.cell?,e2,agu,XN,if_false,agv hlen]
    have aU:w.frozen? ⟨b,off+i,none⟩=false:=by
     obtain⟨t',⟨lo,hi⟩,cK⟩:=T;dsimp only at e2 cK;simp only[World.frozen?,e2,Bool.and_eq_false_imp,decide_eq_true_eq,decide_eq_false_iff_not];intro;omega
    rw[storeCells,Sem.run_bind]
    have:(store ((⟨b,off,none⟩:Addr).add i) u).run P w= .ok () (w.setCell ⟨b,off+i,none⟩ u):=by
     rw[Addr.add_lit,run_store P w _ _ _ (GV h1 hl.1),jh];simp[aU]
    rw[this,Result.andThen_ok];exact hr
   ·rw[VH.set_set]at hw;exact hw
def wm (tab:bY) (O:VH) (t:TypeId) (x y:MV):Option VH:=
 match tab t,x with
 | some i,.ptr k off=>match O.hp k with
   | some (.cells cs)=>if(dJ y).length=i.size/\(dJ y).all dK=true/\off+i.size<=cs.length then some (O.set k (.cells (eg cs off (dJ y))))else none
   | _=>none
 | _,_=>none
theorem OM (ht:aL P tab) (h:WR G O w) {t:TypeId} {x y:MV} {u v:Value} (hv:wm tab O t x y=some O') (hx:VR G x u) (hy:VR G y v):Iy P (Instr.storeAt t u v) w G O':=by
 unfold wm at hv;split at hv
 ·rename_i i k off hi;have fx:=ht t i hi;split at hv
  ·rename_i cs hk;split at hv
   ·rename_i hc;injection hv with hv;subst hv
    cases hx with
    | ptr h1=>
      have hm:=xZ hy;obtain⟨w',hr,hw⟩:=yc (P:=P) h1 off (dJ y) v.cells.toList 0 cs O w h hk hm hc.2.1 (by omega);refine⟨w',G,?_,Gh.Le.refl G,by simpa using hw⟩;have hs:v.cells.size=i.size:=by rw[<-ah1,hm.1];exact hc.1
      simp[Instr.storeAt,Instr.sureAddr,storeVar,fi fx,hs,hr]
   ·cases hv
  ·cases hv
 ·cases hv
theorem acx (h:WR G O w) {cs:List MV} {C:Array Value} {t:TypeId} (hc:aO G cs C.toList):gY P (do pure (Value.pointer (some (<-newRow t C)))) w G (O.push (.cells cs)) (.ptr O.next 0):=by
 obtain⟨h1,h2⟩:=h.push t hc;exact⟨_,_,_,by simp[newRow,newObj,Sem.run],h1,h2,.ptr (aH _ _ _),jO.alloc h _⟩
theorem XZ (h:WR G O w) {t:TypeId} {u:Value} (hu:VR G m u):gY P (Instr.box t u) w G (O.push (.cells (dJ m))) (.ptr O.next 0):=acx h (xZ hu)
end
section
variable {G H:Gh} {n:Sz} {D:List Deferred} {e:Env} {a:Act} {P:Program} {tab:bY} {O O':VH} {w:World} {m m':MV} {u v:Value}
def ux (k:Nat):MV->Option MV
 | .ptr b off=>some (.ptr b (off+k))
 | .db cs off=>some (.db cs (off+k))
 | _=>none
theorem GX {k:Nat} (h:VR G m u) (hm:ux k m=some m'):∃a:Addr,u= .pointer (some a)/\VR G m' (.pointer (some (a.add k))):=by
 cases h with
 | ptr h1=>
   injection hm with hm;subst hm
   exact⟨_,rfl,by rw[Addr.add_lit];exact .ptr h1⟩
 | db h1 h2 h3=>
   injection hm with hm;subst hm
   exact⟨_,rfl,by rw[Addr.add_lit,ah4];exact .db h1 h2 h3⟩
 | _=>cases hm
def jE (tab:bY) (t:TypeId) (f:Nat) (m:MV):Option MV:=
 match tab t with
 | some i=>match i.under with
   | .struct fs=>match fs[f]? with
     | some fd=>match tab fd.type with
       | some j=>if j.size=0 then none else ux fd.offset m
       | none=>none
     | none=>none
   | _=>none
 | none=>none
theorem DE (ht:aL P tab) {t:TypeId} {f:Nat} (hv:jE tab t f m=some m') (hx:VR G m u):aZ P (Instr.fieldAt t u f) G m':=by
 unfold jE at hv;split at hv
 ·rename_i i hi;split at hv
  ·rename_i fs hu;split at hv
   ·rename_i fd hf;split at hv
    ·rename_i j hj;split at hv
     ·cases hv
     ·rename_i hz;obtain⟨a,rfl,h2⟩:=GX hx hv;have fx:=(ht t i hi).under;rw[hu]at fx;exact aZ.of (fun w _=>by simp[Instr.fieldAt,run_underlying fx,hf,Instr.sureAddr,fieldPlace,fi (ht _ j hj),hz]) h2
    ·cases hv
   ·cases hv
  ·cases hv
 ·cases hv
def mq (tab:bY) (t:TypeId) (m:MV) (ix:MV):Option MV:=
 match ix,tab t with
 | .v (.int _ i),some ti=>match ti.under,m with
   | .slice el,.sl n cells _=>match tab el with
     | some te=>if 0<=i/\i<(n:Int)then some (.db cells (i.toNat*te.size))else none
     | none=>none
   | .slice el,.bq k o n _=>match tab el with
     | some te=>if 0<=i/\i<(n:Int)then some (.ptr k (o+i.toNat*te.size))else none
     | none=>none
   | .array len el,x=>match tab el with
     | some te=>if 0<=i/\i<(len:Int)then ux (i.toNat*te.size) x else none
     | none=>none
   | _,_=>none
 | _,_=>none
theorem DF (ht:aL P tab) {t:TypeId} {ix:MV} (hv:mq tab t m ix=some m') (hx:VR G m u) (hy:VR G ix v):aZ P (Instr.indexAt t u v) G m':=by
 unfold mq at hv;split at hv
 ·rename_i k i ti hi;cases hy;have fx:=(ht t ti hi).under;split at hv
  ·rename_i el n' cells tk hu;rw[hu]at fx;split at hv
   ·rename_i te he;split at hv
    ·rename_i hb;injection hv with hv;subst hv
     cases hx with
     | slnil=>simp at hb;omega
     | nX h1=>simp at hb;omega
     | jV=>simp at hb;omega
     | sl h1 h2 h3 h4 h5 h6=>
       refine aZ.of (u:=.pointer (some _)) (fun w _=>?_) (.db h1 h2 h3);simp[Instr.indexAt,asIntOf,run_underlying fx,hb.1,hb.2,fi (ht _ te he),Addr.add_lit]
    ·cases hv
   ·cases hv
  ·rename_i el k' o n' c' hu;rw[hu]at fx;split at hv
   ·rename_i te he;split at hv
    ·rename_i hb;injection hv with hv;subst hv
     cases hx with
     | bq h1 h2 h3=>
       refine aZ.of (u:=.pointer (some _)) (fun w _=>?_) (.ptr h1);simp[Instr.indexAt,asIntOf,run_underlying fx,hb.1,hb.2,fi (ht _ te he),Addr.add_lit]
    ·cases hv
   ·cases hv
  ·rename_i len el hu;rw[hu]at fx;split at hv
   ·rename_i te he;split at hv
    ·rename_i hb;obtain⟨a,rfl,h2⟩:=GX hx hv;refine aZ.of (u:=.pointer (some _)) (fun w _=>?_) h2;simp[Instr.indexAt,asIntOf,run_underlying fx,Instr.sureAddr,hb.1,hb.2,fi (ht _ te he)]
    ·cases hv
   ·cases hv
  ·cases hv
 ·cases hv
def A_ (tab:bY) (t:TypeId) (cs:List MV) (off:Nat):Option MV:=
 match tab t with
 | some i=>mS (eL i.under) i.size cs off
 | none=>none
theorem wo (ht:aL P tab) {t:TypeId} {cs:List MV} {us:List Value} {off:Nat} (hv:A_ tab t cs off=some m) (hx:aO G cs us):∃r,(∀w,(part t us.toArray off).run P w= .ok r w)/\VR G m r:=by
 unfold A_ at hv;split at hv
 ·rename_i i hi;have fx:=ht t i hi;unfold mS at hv;split at hv
  ·rename_i px;split at hv
   ·injection hv with hv;subst hv
    have n4:=(hx.drop off).take i.size;refine⟨.agg ((us.drop off).take i.size).toArray,fun w=>?_,.agg n4.1 n4.2⟩;simp[part,nZ fx,px,fi fx]
   ·cases hv
  ·rename_i px;obtain⟨v,mT,CK⟩:=hx.get hv;exact⟨v,fun w=>by simp[part,nZ fx,px,mT],CK⟩
 ·cases hv
def wq (tab:bY) (t:TypeId) (x:MV) (f:Nat):Option MV:=
 match tab t,x with
 | some i,.agg cs=>match i.under with
   | .struct fs=>match fs[f]? with
     | some fd=>A_ tab fd.type cs fd.offset
     | none=>none
   | _=>none
 | _,_=>none
theorem ON (ht:aL P tab) {t:TypeId} {f:Nat} (hv:wq tab t m f=some m') (hx:VR G m u):aZ P (Instr.field t u f) G m':=by
 unfold wq at hv;split at hv
 ·rename_i i cs hi;split at hv
  ·rename_i fs hu;have fx:=(ht t i hi).under;rw[hu]at fx;split at hv
   ·rename_i fd hf;cases hx with
    | agg h1 h2=>
      obtain⟨r,h3,h4⟩:=wo (P:=P) ht hv ⟨h1,h2⟩;exact aZ.of (fun w _=>by simp[Instr.field,run_underlying fx,hf,asAgg,h3]) h4
   ·cases hv
  ·cases hv
 ·cases hv
def wv (tab:bY) (t:TypeId) (x ix:MV):Option MV:=
 match tab t,x,ix with
 | some i,.agg cs,.v (.int _ k)=>match i.under with
   | .array len el=>match tab el with
     | some te=>if 0<=k/\k<(len:Int)then A_ tab el cs (k.toNat*te.size)else none
     | none=>none
   | _=>none
 | some i,.str l,.v (.int _ k)=>match i.under with
   | .string=>if 0<=k then(l[k.toNat]?).map fun b=>.v (.int .u8 b.toNat)else none
   | _=>none
 | _,_,_=>none
theorem OP (ht:aL P tab) {t:TypeId} {ix:MV} (hv:wv tab t m ix=some m') (hx:VR G m u) (hy:VR G ix v):aZ P (Instr.index t u v) G m':=by
 unfold wv at hv;split at hv
 ·rename_i i cs kk k hi;cases hy;split at hv
  ·rename_i len el hu;have fx:=(ht t i hi).under;rw[hu]at fx;split at hv
   ·rename_i te he;split at hv
    ·rename_i hb;cases hx with
     | agg h1 h2=>
       obtain⟨r,h3,h4⟩:=wo (P:=P) ht hv ⟨h1,h2⟩;exact aZ.of (fun w _=>by simp[Instr.index,asIntOf,run_underlying fx,hb.1,hb.2,fi (ht _ te he),h3]) h4
    ·cases hv
   ·cases hv
  ·cases hv
 ·rename_i i l kk k hi;cases hy;cases hx;split at hv
  ·rename_i hu;have fx:=(ht t i hi).under;rw[hu]at fx;split at hv
   ·rename_i hb;obtain⟨b,h1,h2⟩:=Km.1 hv;subst h2;refine aZ.of (u:=.int .u8 b.toNat) (fun w _=>?_) (.v rfl)
    have hg:(⟨⟨l⟩⟩:ByteArray)[k.toNat]?=some b:=by
     obtain⟨ew,he⟩:=XO.1 h1;rw[getElem?_pos (⟨⟨l⟩⟩:ByteArray) k.toNat ew];exact congrArg some he
    simp[Instr.index,asIntOf,run_underlying fx,hb,hg]
   ·cases hv
  ·cases hv
 ·cases hv
def rM (x:MV) (i:Nat):Option MV:=
 match x with
 | .tuple vs=>vs[i]?
 | _=>none
theorem Iz {i:Nat} (hv:rM m i=some m') (hx:VR G m u):aZ P (Instr.extract u i) G m':=by
 unfold rM at hv;split at hv
 ·cases hx with
  | tuple h1 h2=>
    obtain⟨r,h3,h4⟩:=aO.get ⟨h1,h2⟩ hv;exact aZ.of (fun w _=>by simp[Instr.extract,h3]) h4
 ·cases hv
end
section
variable {G H:Gh} {n:Sz} {D:List Deferred} {e:Env} {a:Act} {P:Program} {tab:bY} {O O':VH} {w:World} {m m' m2:MV} {u v:Value}
def lJ (place:Nat->Option (Nat×Nat)) (cells:List MV):List (Nat×MV)->Option (List MV)
 | []=>some cells
 | (i,x)::rest=>match place i with
   | none=>none
   | some (off,size)=>if(dJ x).length=size/\off+size<=cells.length then lJ place (eg cells off (dJ x)) rest else none
theorem B6 {us:List Value}:∀(vs:List Value) (k off:Nat) (C:Array Value) (cs ms:List MV),aO G cs C.toList->aO G ms vs->
  aO G (eg cs (off+k) ms) ((vs.zipIdx k).foldl (fun(a:Array Value) x=>a.setIfInBounds (off+x.2) x.1) C).toList
 | [],k,off,C,cs,ms,h,hm=>by
   have:ms=[]:=ahX hm.1.symm;subst this;exact h
 | v::vs,k,off,C,cs,ms,h,hm=>by
   cases ms with
   | nil=>have:=hm.1;simp at this
   | cons x xs=>
     simp only[List.zipIdx_cons,List.foldl_cons,eg];have h2:aO G (cs.set (off+k) x) (C.setIfInBounds (off+k) v).toList:=by rw[alC];exact h.set hm.head
     exact B6 (us:=us) vs (k+1) off _ _ xs h2 hm.tail
theorem wA {place:Nat->Option (Nat×Nat)}:∀(parts:List (Nat×MV)) (ps:List (Nat×Value)) (cs:List MV) (C:Array Value) (ds:List MV),lJ place cs parts=some ds->
  parts.map (·.1)=ps.map (·.1)->aO G (parts.map (·.2)) (ps.map (·.2))->aO G cs C.toList->∃E,Instr.fill place C ps=some E/\aO G ds E.toList
 | [],ps,cs,C,ds,h,h1,h2,h3=>by
   have:ps=[]:=by cases ps<;>simp_all
   subst this;injection h with h;subst h
   exact⟨C,rfl,h3⟩
 | (i,x)::parts,ps,cs,C,ds,h,h1,h2,h3=>by
   cases ps with
   | nil=>simp at h1
   | cons p ps=>
     obtain⟨j,y⟩:=p;simp only[ahZ,List.cons.injEq]at h1;obtain⟨rfl,h1⟩:=h1;simp only[ahZ]at h2;simp only[lJ]at h;cases hp:place i with
     | none=>rw[hp]at h;cases h
     | some q=>
       obtain⟨off,size⟩:=q;rw[hp]at h;simp only at h;split at h
       ·rename_i hc;have hm:=xZ h2.head;have hy:y.cells.size=size:=by rw[<-ah1,hm.1];exact hc.1
        have hC:C.size=cs.length:=by rw[<-ah1];exact h3.1
        have dd:=B6 (us:=[]) y.cells.toList 0 off C cs (dJ x) h3 hm;obtain⟨E,h4,h5⟩:=wA parts ps _ _ ds h h1 h2.tail dd;refine⟨E,?_,h5⟩;simp only[Instr.fill,hp];rw[if_neg (by rw[hy,hC];simp;exact hc.2)];rw[<-h4]
        congr 1
        rw[<-Array.foldl_toList,Array.toList_zipIdx]
       ·cases h
def placesOf (tab:bY) (fs:Array Field):Option (List (Nat×Nat)):=fs.toList.mapM fun f=>(tab f.type).map fun i=>(f.offset,i.size)
theorem run_places (ht:aL P tab):∀(fs:List Field) (l:List (Nat×Nat)) (w:World),(fs.mapM fun f=>(tab f.type).map fun i=>(f.offset,i.size))=some l->
  (fs.mapM fun f=>(do pure (f.offset, <-sizeOf f.type):Sem (Nat×Nat))).run P w= .ok l w
 | [],l,w,h=>by simp at h;subst h;rfl
 | f::fs,l,w,h=>by
   simp only[agt,ags,Kn]at h;obtain⟨x,h1,l',h2,h3⟩:=h;injection h3 with h3;subst h3
   obtain⟨i,hi,rfl⟩:=Km.1 h1;have ih:=run_places ht fs l' w h2;simp only[agt,Sem.run_bind,fi (ht _ i hi),Result.andThen_ok,Sem.run_pure];rw[ih];rfl
def wB (tab:bY) (t:TypeId) (parts:List (Nat×MV)):Option MV:=
 match tab t with
 | some i=>match i.under with
   | .struct fs=>match placesOf tab fs with
     | some l=>(lJ (l[·]?) i.zero parts).map .agg
     | none=>none
   | .array _ el=>match tab el with
     | some te=>(lJ (fun k=>some (k*te.size,te.size)) i.zero parts).map .agg
     | none=>none
   | _=>none
 | none=>none
theorem OQ (ht:aL P tab) {t:TypeId} {parts:List (Nat×MV)} {ps:Array (Nat×Value)} (hv:wB tab t parts=some m) (h1:parts.map (·.1)=ps.toList.map (·.1)) (h2:aO G (parts.map (·.2)) (ps.toList.map (·.2))):
  aZ P (Instr.build t ps) G m:=by
 unfold wB at hv;split at hv
 ·rename_i i hi;have fx:=ht t i hi;obtain⟨ti,z,hz0,_,_,IA,sG,F4⟩:=fx.info;have CL:∀w,(zeroValue t).run P w= .ok z w:=fun w=>by simp[zeroValue,typeInfo,hz0,IA]
  split at hv
  ·rename_i fs hu;have eW:=fx.under;rw[hu]at eW;split at hv
   ·rename_i l hl;obtain⟨ds,h3,rfl⟩:=Km.1 hv;obtain⟨E,h4,h5⟩:=wA parts ps.toList i.zero z.cells ds h3 h1 h2 (F4 G);have hr:=fun w=>run_places ht fs.toList l w hl
    refine aZ.of (u:=.agg E) (fun w _=>?_) (.agg h5.1 h5.2)
    have hr':(fs.mapM fun f=>(do pure (f.offset, <-sizeOf f.type):Sem (Nat×Nat))).run P w= .ok l.toArray w:=by
     rw[alE, <-bind_pure_comp,Sem.run_bind,hr];rfl
    simp only[Instr.build,Sem.run_bind,CL,Result.andThen_ok,run_underlying eW,hr'];have:Instr.fill (fun x=>l.toArray[x]?) z.cells ps.toList=some E:=by rw[<-h4];congr 1;funext x;simp
    rw[this];rfl
   ·cases hv
  ·rename_i len el hu;have eW:=fx.under;rw[hu]at eW;split at hv
   ·rename_i te he;obtain⟨ds,h3,rfl⟩:=Km.1 hv;obtain⟨E,h4,h5⟩:=wA parts ps.toList i.zero z.cells ds h3 h1 h2 (F4 G);refine aZ.of (u:=.agg E) (fun w _=>?_) (.agg h5.1 h5.2);simp only[Instr.build,Sem.run_bind,CL,Result.andThen_ok,run_underlying eW,fi (ht _ te he),h4];rfl
   ·cases hv
  ·cases hv
 ·cases hv
def iu (z:List MV) (n:Nat):List MV:=(List.range n).map fun i=>z.getD (i % z.length) (.tuple [])
theorem ye {z:List MV} {Z:Array Value} (h:aO G z Z.toList) (hz:0<z.length) (n:Nat):aO G (iu z n) ((Array.range n).map (fun i=>Z[i % Z.size]!)).toList:=by
 have hl:Z.size=z.length:=by rw[<-ah1];exact h.1
 refine⟨by simp[iu],fun i c u hc hu=>?_⟩;simp only[iu,List.getElem?_map,Km]at hc;obtain⟨j,hj,rfl⟩:=hc;simp only[Array.toList_map,Array.toList_range,List.getElem?_map,hj,agr,Option.some.injEq]at hu;have hm:j % z.length<z.length:=Nat.mod_lt _ hz;have hm':j % Z.size<Z.size:=by rw[hl];exact hm
 refine h.2 (j % z.length) _ u ?_ ?_
 ·rw[acs hm,List.getD_eq_getElem?_getD,acs hm];rfl
 ·rw[<-hu, <-hl,Array.getElem?_toList,agv hm',getElem!_pos Z _ hm']
def k6 (tab:bY) (t:TypeId) (len:Nat) (parts:List (Nat×MV)):Option MV:=
 match(tab t).map cy.under with
 | some (.slice el)=>match tab el with
   | some te=>if 0<len*te.size/\len*te.size<=16777216/\0<te.zero.length/\len<=maxLen then
     (lJ (fun k=>some (k*te.size,te.size)) (iu te.zero (len*te.size)) parts).map fun cs=>.sl len cs .full
     else if len=0/\parts=[]then some (.sl 0 [] .full)else none
   | none=>none
 | _=>none
theorem tG (ht:aL P tab) (h:WR G O w) {t:TypeId} {len:Nat} {parts:List (Nat×MV)} {ps:Array (Nat×Value)} (hv:k6 tab t len parts=some m) (h1:parts.map (·.1)=ps.toList.map (·.1)) (h2:aO G (parts.map (·.2)) (ps.toList.map (·.2))):
  gY P (Instr.buildSlice t len ps) w G O m:=by
 unfold k6 at hv;split at hv
 ·rename_i el hu;obtain⟨i,hi,hu⟩:=Km.1 hu;have eW:=(ht t i hi).under;rw[hu]at eW;split at hv
  ·rename_i te he;have nw:=ht el te he;obtain⟨z,CL,sG,F4⟩:=GU nw w
   have fin:∀(C:Array Value) (cs:List MV),aO G cs C.toList->len<=maxLen->gY P (do pure (Value.slice (some (<-newRow el C)) len len)) w G O (.sl len cs .full):=fun C cs hc hl=>by
    obtain⟨h3,h4⟩:=h.lit C el;refine⟨.slice (some ⟨w.heap.size,0,none⟩) len len,w.alloc (.cells C el),_,by simp[newRow,newObj,Sem.run],h3,h4,?_,jO.alloc h _⟩;refine .sl (us:=C.toList) hc.1 (fun i u hu=>?_) (fun i c u a b=>(hc.2 i c u a b).mono h3) (acw _) hl rfl;show(if w.heap.size=w.heap.size then C[0+i]? else _)=some u;rw[if_pos rfl,ah0];simpa using hu
   split at hv
   ·rename_i hc;obtain⟨cs,h3,rfl⟩:=Km.1 hv;obtain⟨E,h4,h5⟩:=wA parts ps.toList _ _ cs h3 h1 h2 (ye (F4 G) hc.2.2.1 (len*te.size));have hne:¬(len*te.size=0):=by omega
    have hng:¬(len*te.size>16777216):=by omega
    obtain⟨u,w',H,hr,r⟩:=fin E cs h5 hc.2.2.2;refine⟨u,w',H,?_,r⟩;rw[<-hr];simp[Instr.buildSlice,run_underlying eW,fi nw,hne,hng,CL,h4]
   ·split at hv
    ·rename_i hc;injection hv with hv;subst hv
     obtain⟨rfl,rfl⟩:=hc
     have hps:ps.toList=[]:=by
      have:=h1.symm;simpa using this
     obtain⟨u,w',H,hr,r⟩:=fin #[] [] aO.nil (agw _);refine⟨u,w',H,?_,r⟩;rw[<-hr];simp[Instr.buildSlice,run_underlying eW,fi nw,hps,Instr.fill];rw[show Array.range 0= #[]from Array.eq_empty_of_size_eq_zero (by simp),Array.map_empty]
    ·cases hv
  ·cases hv
 ·cases hv
def gZ (tab:bY) (t:TypeId) (x:MV):Option MV:=
 match(tab t).map cy.under,x with
 | some .string,.str l=>some (.v (.int .i64 l.length))
 | some (.slice _),.sl n _ _=>some (.v (.int .i64 n))
 | some (.slice _),.bq _ _ n _=>some (.v (.int .i64 n))
 | some (.map _ _),.v (.map none)=>some (.v (.int .i64 0))
 | some (.array n _),_=>some (.v (.int .i64 n))
 | _,_=>none
theorem X5 (ht:aL P tab) {t ty:TypeId} (hv:gZ tab t m=some m') (hx:VR G m u):aZ P (Builtin.len_ #[t] ty #[u]) G m':=by
 unfold gZ at hv
 have un:∀d,(tab t).map cy.under=some d->P.underlying t=some d:=fun d hd=>by
  obtain⟨i,hi,hu⟩:=Km.1 hd;rw[<-hu];exact(ht t i hi).under
 split at hv
 ·injection hv with hv;subst hv
  cases hx;exact aZ.of (u:=.int .i64 _) (fun w _=>by simp[Builtin.len_,run_underlying (un _ ‹_›),goInt];rfl) (.v rfl)
 ·injection hv with hv;subst hv
  cases hx<;>exact aZ.of (u:=.int .i64 _) (fun w _=>by simp[Builtin.len_,run_underlying (un _ ‹_›),goInt];try rfl) (.v rfl)
 ·injection hv with hv;subst hv
  cases hx;exact aZ.of (u:=.int .i64 _) (fun w _=>by simp[Builtin.len_,run_underlying (un _ ‹_›),goInt];try rfl) (.v rfl)
 ·injection hv with hv;subst hv
  cases hx;exact aZ.of (u:=.int .i64 _) (fun w _=>by simp[Builtin.len_,run_underlying (un _ ‹_›),goInt];try rfl) (.v rfl)
 ·injection hv with hv;subst hv
  exact aZ.of (u:=.int .i64 _) (fun w _=>by simp[Builtin.len_,run_underlying (un _ ‹_›),goInt];try rfl) (.v rfl)
 ·cases hv
def py (tab:bY) (O:VH) (t:TypeId) (x:MV):Option MV:=
 match(tab t).map cy.under,x with
 | some (.map _ _),.map k=>match O.hp k with
   | some (.map es _)=>some (.v (.int .i64 es.length))
   | _=>none
 | _,_=>none
theorem Kr (ht:aL P tab) (h:WR G O w) {t ty:TypeId} (hv:py tab O t m=some m') (hx:VR G m u):gY P (Builtin.len_ #[t] ty #[u]) w G O m':=by
 unfold py at hv
 have un:∀d,(tab t).map cy.under=some d->P.underlying t=some d:=fun d hd=>by
  obtain⟨i,hi,hu⟩:=Km.1 hd;rw[<-hu];exact(ht t i hi).under
 split at hv
 ·split at hv
  ·rename_i k es ck hk;injection hv with hv;subst hv
   cases hx with
   | map h1=>
     obtain⟨b,E,e1,e2,e3,_⟩:=h.map _ _ _ hk;rw[h1]at e1;injection e1 with e1;subst e1
     have hl:E.size=es.length:=by
      have:=congrArg List.length e3;simpa using this
     refine gY.of h (u:=.int .i64 es.length) ?_ (.v rfl);simp[Builtin.len_,run_underlying (un _ ‹_›),goInt,getObj,Sem.run,e2,hl]
  ·cases hv
 ·cases hv
def Ba (x y:MV):Option MV:=
 match x,y with
 | .v (.int k a),.v (.int _ b)=>some (.v (.int k (if b>a then b else a)))
 | _,_=>none
def Bb (x y:MV):Option MV:=
 match x,y with
 | .v (.int k a),.v (.int _ b)=>some (.v (.int k (if b<a then b else a)))
 | _,_=>none
theorem TV (hv:Ba m m'=some m2) (hx:VR G m u) (hy:VR G m' v) {ts:Array TypeId} {ty:TypeId}:aZ P (Builtin.max_ ts ty #[u,v]) G m2:=by
 unfold Ba at hv;split at hv
 ·injection hv with hv;subst hv;cases hx;cases hy
  exact aZ.of (u:=.int _ _) (fun w _=>by simp[Builtin.max_,Builtin.max2]) (.v rfl)
 ·cases hv
theorem TW (hv:Bb m m'=some m2) (hx:VR G m u) (hy:VR G m' v) {ts:Array TypeId} {ty:TypeId}:aZ P (Builtin.min_ ts ty #[u,v]) G m2:=by
 unfold Bb at hv;split at hv
 ·injection hv with hv;subst hv;cases hx;cases hy
  exact aZ.of (u:=.int _ _) (fun w _=>by simp[Builtin.min_,Builtin.min2]) (.v rfl)
 ·cases hv
def wC (op:UnOp) (x:MV):Option MV:=
 match op,x with
 | .neg,.v (.int k a)=>some (.v (.int k (k.wrap (0 - a))))
 | .not,.v (.bool b)=>some (.v (.bool !b))
 | _,_=>none
theorem OS {op:UnOp} (hv:wC op m=some m') (hx:VR G m u):aZ P (Op.unary op u) G m':=by
 unfold wC at hv;split at hv
 ·injection hv with hv;subst hv;cases hx
  exact aZ.of (u:=.int _ _) (fun w _=>by simp[Op.unary,Op.intArith]) (.v rfl)
 ·injection hv with hv;subst hv;cases hx
  exact aZ.of (u:=.bool _) (fun w _=>by simp[Op.unary]) (.v rfl)
 ·cases hv
end
section
variable {G H:Gh} {n:Sz} {D:List Deferred} {e:Env} {a:Act} {P:Program} {tab:bY} {O O':VH} {w:World} {m m':MV} {u v:Value}
def c9 (d:Nat):Option MV->Option Nat
 | none=>some d
 | some (.v (.int _ i))=>if 0<=i then some i.toNat else none
 | _=>none
theorem mU {d k:Nat} {x:MV} (h:c9 d (some x)=some k) (hx:VR G x u):∃kk,u= .int kk (k:Int):=by
 unfold c9 at h;split at h
 ·rename_i hh;cases hh
 ·rename_i kk i hh;injection hh with hh;subst hh
  cases hx;split at h
  ·injection h with h;exact⟨kk,by rw[<-h];congr 1;omega⟩
  ·cases h
 ·cases h
def IB (G:Gh):Option MV->Option Value->Prop
 | none,none=>True
 | some m,some u=>VR G m u
 | _,_=>False
theorem uy (isS:Bool) (len cap lo hi:Nat) {l h:Option MV} {lv hv:Option Value} (hl:c9 0 l=some lo) (hh:c9 len h=some hi) (rl:IB G l lv) (rh:IB G h hv) (h1:lo<=hi) (h2:hi<=cap):
  ∀w,(Instr.sliceBounds isS len cap lv hv none).run P w= .ok (lo,hi,cap) w:=by
 intro w;cases l<;>cases lv<;>simp only[IB]at rl<;>cases h<;>cases hv<;>simp only[IB]at rh
 ·simp only[c9,Option.some.injEq]at hl hh;subst hl;subst hh;simp[Instr.sliceBounds]
 ·obtain⟨k,rfl⟩:=mU hh rh;simp only[c9,Option.some.injEq]at hl;subst hl
  have:=run_sliceBound (P:=P) w k (hi:Int) cap (if isS then .sliceAcap else .sliceAlen) (by omega) (by omega);simp[Instr.sliceBounds,this]
 ·obtain⟨k,rfl⟩:=mU hl rl;simp only[c9,Option.some.injEq]at hh;subst hh
  have:=run_sliceBound (P:=P) w k (lo:Int) len .sliceB (by omega) (by omega);simp[Instr.sliceBounds,this]
 ·obtain⟨k,rfl⟩:=mU hl rl;obtain⟨k',rfl⟩:=mU hh rh;have h3:=run_sliceBound (P:=P) w k (lo:Int) hi .sliceB (by omega) (by omega);have h4:=run_sliceBound (P:=P) w k' (hi:Int) cap (if isS then .sliceAcap else .sliceAlen) (by omega) (by omega);simp[Instr.sliceBounds,h3,h4]
def qF (t:Tok) (sz:Nat) (whole:Bool):Tok:=if whole then(match t with
 | .full=>.full
 | .own t k=>if k=sz then .own t k else .ar
 | _=>.ar)else .ar
def wD (tab:bY) (t:TypeId) (x:MV) (l h:Option MV):Option MV:=
 match(tab t).map cy.under,x with
 | some .string,.str s=>match c9 0 l,c9 s.length h with
   | some lo,some hi=>if lo<=hi/\hi<=s.length then some (.str ((s.drop lo).take (hi - lo)))else none
   | _,_=>none
 | some (.slice el),.sl n cells tk=>match tab el,c9 0 l,c9 n h with
   | some te,some lo,some hi=>
     if lo=0/\hi=n then some (.sl n cells tk)
     else if lo<=hi/\hi<=n/\cells.length=n*te.size then some (.sl (hi - lo) ((cells.drop (lo*te.size)).take ((hi - lo)*te.size)) (qF tk te.size (hi==n)))else none
   | _,_,_=>none
 | some (.slice el),.bq k o n c=>match tab el,c9 0 l,c9 n h with
   | some te,some lo,some hi=>if lo<=hi/\hi<=c then some (.bq k (if c=lo then o else o+lo*te.size) (hi - lo) (c - lo))else none
   | _,_,_=>none
 | _,_=>none
theorem bE (ht:aL P tab) {t:TypeId} {d:TypeDesc} (h:(tab t).map cy.under=some d):P.underlying t=some d:=by
 obtain⟨i,hi,hu⟩:=Km.1 h;rw[<-hu];exact(ht t i hi).under
theorem OT (ht:aL P tab) {t:TypeId} {l hh:Option MV} {lv OU:Option Value} (hv:wD tab t m l hh=some m') (hx:VR G m u) (rl:IB G l lv) (rh:IB G hh OU):
  aZ P (Instr.sliceAt t u lv OU none) G m':=by
 unfold wD at hv;split at hv
 ·rename_i s hu;have eW:=bE ht hu;split at hv
  ·rename_i lo hi h1 h2;split at hv
   ·rename_i hc;injection hv with hv;subst hv
    cases hx;refine aZ.of (u:=.string ⟨⟨(s.drop lo).take (hi - lo)⟩⟩) (fun w _=>?_) .str;have hb:=uy (P:=P) false s.length s.length lo hi h1 h2 rl rh hc.1 hc.2;have hs:(⟨⟨s⟩⟩:ByteArray).size=s.length:=rfl;simp only[Instr.sliceAt,Instr.slice,Sem.run_bind,run_underlying eW,Result.andThen_ok,hs,hb,agu,XN,if_false,Sem.run_pure];have:(⟨⟨s⟩⟩:ByteArray).extract lo hi=⟨⟨(s.drop lo).take (hi - lo)⟩⟩:=ByteArray.ext (by simp[ByteArray.data_extract]);rw[this]
   ·cases hv
  ·cases hv
 ·rename_i el n' cells tk hu;have eW:=bE ht hu;split at hv
  ·rename_i te lo hi he h1 h2
   have run:∀(A:Option Addr) (c:Nat),lo<=hi->hi<=c->∀w,(Instr.sliceAt t (.slice A n' c) lv OU none).run P w= .ok (.slice (if c=lo then A else A.map (·.add (lo*te.size))) (hi - lo) (c - lo)) w:=fun A c h3 h4 w=>by
    have hb:=uy (P:=P) true n' c lo hi h1 h2 rl rh h3 h4;simp only[Instr.sliceAt,Instr.slice,Sem.run_bind,run_underlying eW,Result.andThen_ok,hb,fi (ht _ te he),Sem.run_pure]
   split at hv
   ·rename_i hc;injection hv with hv;subst hv
    obtain⟨rfl,rfl⟩:=hc
    have fin:∀(A:Option Addr) (c:Nat),hi<=c->VR G (.sl hi cells tk) (.slice A hi c)->aZ P (Instr.sliceAt t (.slice A hi c) lv OU none) G (.sl hi cells tk):=fun A c hc X6=>by
     refine aZ.of (fun w _=>run A c (agw _) hc w) ?_
     have:(if c=0 then A else A.map (·.add (0*te.size)))=A:=by
      split
      ·rfl
      ·cases A<;>simp[Addr.add]
     rw[this];simpa using X6
    cases hx with
    | slnil=>exact fin _ _ (acw _) .slnil
    | nX h3=>exact fin _ _ (agw _) (.nX h3)
    | jV=>exact fin _ _ (acw _) .jV
    | sl h3 h4 h5 h6 h7 h8=>exact fin _ _ h6 (.sl h3 h4 h5 h6 h7 h8)
   ·split at hv
    ·rename_i hne hc;injection hv with hv;subst hv
     cases hx with
     | slnil=>exact absurd ⟨by omega,by omega⟩ hne
     | nX h3=>exact absurd ⟨by omega,by omega⟩ hne
     | jV=>exact absurd ⟨by omega,by omega⟩ hne
     | sl h3 h4 h5 h6 h7 h8=>
       rename_i us c b o;refine aZ.of (fun w _=>run _ c hc.1 (by omega) w) ?_;have iO:((us.drop (lo*te.size)).take ((hi - lo)*te.size)).length=((cells.drop (lo*te.size)).take ((hi - lo)*te.size)).length:=by simp[h3]
       have ah9:∀(i:Nat) (c:MV) (u:Value),((cells.drop (lo*te.size)).take ((hi - lo)*te.size))[i]?=some c->((us.drop (lo*te.size)).take ((hi - lo)*te.size))[i]?=some u->VR G c u:=fun i c u ha hb=>by
        rw[TP]at ha hb;split at ha
        ·rw[if_pos ‹_›]at hb;rw[acu]at ha hb;exact h5 _ c u ha hb
        ·cases ha
       by_cases jX:c=lo
       ·subst jX;obtain rfl:hi=c:=by omega
        rw[if_pos rfl];simp only[Nat.sub_self,Nat.zero_mul,List.take_zero];refine .sl (us:=[]) rfl (fun i u hu=>by simp at hu) (fun i c u hu=>by simp at hu) (acw _) (agw _) ?_;unfold qF;split
        ·cases tk with
         | nil=>exact h8.elim
         | full=>rfl
         | own t k=>
           simp only;split
           ·exact .inl rfl
           ·trivial
         | ar=>trivial
        ·trivial
       ·rw[if_neg jX];simp only[agr,Addr.add_lit];refine .sl iO (fun i u hu=>?_) ah9 (by omega) (by omega) ?_
        ·rw[TP]at hu;split at hu
         ·rw[acu]at hu;rw[ah4];exact h4 _ u hu
         ·cases hu
        ·unfold qF;split
         ·rename_i hw;have hw:hi=n':=by simpa using hw
          subst hw;have hmul:(hi - lo)*te.size=cells.length - lo*te.size:=by rw[hc.2.2,Nat.sub_mul]
          have ra:((cells.drop (lo*te.size)).take ((hi - lo)*te.size)).length=(hi - lo)*te.size:=by simp;omega
          have hle:lo*te.size<=hi*te.size:=Nat.mul_le_mul_right _ hc.1;cases tk with
          | nil=>exact h8.elim
          | full=>show c - lo=hi - lo;have:c=hi:=h8;omega
          | own t k=>
            simp only;split
            ·rename_i hk;subst hk;rcases h8 with h8 | ⟨r,h9,rb,X7⟩
             ·exact .inl (by omega)
             ·refine .inr ⟨r,?_,ra,by omega⟩;rw[h9,ra];congr 2;congr 1
              omega
            ·trivial
          | ar=>trivial
         ·trivial
    ·cases hv
  ·cases hv
 ·rename_i el k o n' c hu;have eW:=bE ht hu;split at hv
  ·rename_i te lo hi he h1 h2;split at hv
   ·rename_i hc;injection hv with hv;subst hv
    cases hx with
    | bq h3 h4 h5=>
      rename_i b;have hb:=uy (P:=P) true n' c lo hi h1 h2 rl rh hc.1 (by omega);refine aZ.of (u:=.slice (if c=lo then some ⟨b,o,none⟩else(some (⟨b,o,none⟩:Addr)).map (·.add (lo*te.size))) (hi - lo) (c - lo)) (fun w _=>?_) ?_
      ·simp only[Instr.sliceAt,Instr.slice,Sem.run_bind,run_underlying eW,Result.andThen_ok,hb,fi (ht _ te he),Sem.run_pure]
      ·split
       ·exact .bq h3 (by omega) (by omega)
       ·simp only[agr,Addr.add_lit];exact .bq h3 (by omega) (by omega)
   ·cases hv
  ·cases hv
 ·cases hv
def X8:Tok->Tok
 | .nil=>.nil
 | _=>.ar
def rN (tab:bY) (t:TypeId) (x:MV) (l:Option MV) (h mx:MV):Option MV:=
 match(tab t).map cy.under,h,mx with
 | some (.slice el),.v (.int _ hi),.v (.int _ m)=>match tab el,c9 0 l with
   | some te,some lo=>if 0<=hi/\0<=m/\lo<=hi.toNat/\hi.toNat<=m.toNat then(match x with
     | .bq k o _ c=>if m.toNat<=c then some (.bq k (if m.toNat=lo then o else o+lo*te.size) (hi.toNat - lo) (m.toNat - lo))else none
     | .sl n cells tk=>if m.toNat<=n/\cells.length=n*te.size then(if n=0 then some (.sl 0 [] (X8 tk))else if m.toNat=lo then some (.sl 0 [] .full)else some (.sl (hi.toNat - lo) ((cells.drop (lo*te.size)).take ((hi.toNat - lo)*te.size)) (if m.toNat=hi.toNat then .full else .ar)))else none
     | _=>none)else none
   | _,_=>none
 | _,_,_=>none
theorem Kt (ht:aL P tab) {t:TypeId} {l:Option MV} {hh mx:MV} {lv:Option Value} {OU mv:Value} (hv:rN tab t m l hh mx=some m') (hx:VR G m u) (rl:IB G l lv) (rh:VR G hh OU) (rm:VR G mx mv):
  aZ P (Instr.sliceAt t u lv (some OU) (some mv)) G m':=by
 unfold rN at hv;split at hv
 ·rename_i el k1 hi k2 mi hu;have eW:=bE ht hu;cases rh;cases rm
  split at hv
  ·rename_i te lo he h1;split at hv
   ·rename_i hc;obtain⟨c1,c2,c3,c4⟩:=hc
    have xe:lv=none/\lo=0\/∃kk,lv=some (.int kk (lo:Int)):=by
     cases l<;>cases lv<;>simp only[IB]at rl
     ·simp only[c9,Option.some.injEq]at h1;exact .inl ⟨rfl,h1.symm⟩
     ·obtain⟨kk,rfl⟩:=mU h1 rl;exact .inr ⟨kk,rfl⟩
    have run:∀(A:Option Addr) (n' c:Nat),mi.toNat<=c->∀w,(Instr.sliceAt t (.slice A n' c) lv (some (.int k1 hi)) (some (.int k2 mi))).run P w= .ok (.slice (if mi.toNat=lo then A else A.map (·.add (lo*te.size))) (hi.toNat - lo) (mi.toNat - lo)) w:=fun A n' c h3 w=>by
     have e1:=run_sliceBound (P:=P) w k2 mi c .slice3Acap c2 (by omega);have e2:=run_sliceBound (P:=P) w k1 hi mi.toNat .slice3B c1 (by omega)
     have hb:(Instr.sliceBounds true n' c lv (some (.int k1 hi)) (some (.int k2 mi))).run P w= .ok (lo,hi.toNat,mi.toNat) w:=by
      rcases xe with⟨rfl,rfl⟩ | ⟨kk,rfl⟩
      ·simp[Instr.sliceBounds,e1,e2]
      ·have e3:=run_sliceBound (P:=P) w kk (lo:Int) hi.toNat .slice3C (by omega) (by omega);simp[Instr.sliceBounds,e1,e2,e3]
     simp only[Instr.sliceAt,Instr.slice,Sem.run_bind,run_underlying eW,Result.andThen_ok,hb,fi (ht _ te he),Sem.run_pure]
    split at hv
    ·rename_i k o n' c;split at hv
     ·rename_i TX;injection hv with hv;subst hv
      cases hx with
      | bq h3 h4 h5=>
        rename_i b;refine aZ.of (fun w _=>run _ n' c TX w) ?_;split
        ·exact .bq h3 (by omega) (by omega)
        ·simp only[agr,Addr.add_lit];exact .bq h3 (by omega) (by omega)
     ·cases hv
    ·rename_i n' cells tk;split at hv
     ·rename_i TX;split at hv
      ·rename_i hn;subst hn;injection hv with hv;subst hv
       have e0:mi.toNat=0:=by omega
       have e1:hi.toNat=0:=by omega
       have e2:lo=0:=by omega
       have fin:∀A c,VR G (.sl 0 [] (X8 tk)) (.slice A 0 0)->aZ P (Instr.sliceAt t (.slice A 0 c) lv (some (.int k1 hi)) (some (.int k2 mi))) G (.sl 0 [] (X8 tk)):=fun A c hr=>by
        refine aZ.of (u:=.slice A 0 0) (fun w _=>?_) hr;rw[run A 0 c (by omega) w,e0,e1,e2];simp
       cases hx with
       | slnil=>exact fin _ _ .slnil
       | nX h3=>exact fin _ _ (.nX (agw _))
       | jV=>exact fin _ _ .jV
       | sl h3 h4 h5 h6 h7 h8=>
         cases tk with
         | nil=>exact h8.elim
         | _=>exact fin _ _ (.nX (agw _))
      ·rename_i hn;split at hv
       ·rename_i Bc;injection hv with hv;subst hv
        cases hx with
        | slnil=>exact absurd rfl hn
        | nX h3=>exact absurd rfl hn
        | jV=>exact absurd rfl hn
        | sl h3 h4 h5 h6 h7 h8=>
          refine aZ.of (fun w _=>run _ n' _ (by omega) w) ?_;rw[if_pos Bc,show hi.toNat - lo=0 by omega,show mi.toNat - lo=0 by omega];exact .sl (us:=[]) rfl (fun i u h=>by simp at h) (fun i c u h=>by simp at h) (acw _) (agw _) rfl
       ·rename_i Bc;injection hv with hv;subst hv
        cases hx with
        | slnil=>exact absurd rfl hn
        | nX h3=>exact absurd rfl hn
        | jV=>exact absurd rfl hn
        | sl h3 h4 h5 h6 h7 h8=>
          rename_i us c b o;refine aZ.of (fun w _=>run _ n' c (by omega) w) ?_;rw[if_neg Bc];simp only[agr,Addr.add_lit];refine .sl (us:=(us.drop (lo*te.size)).take ((hi.toNat - lo)*te.size)) (by simp[h3]) (fun i u hu=>?_) (fun i c u ha hb=>?_) (by omega) (by omega) ?_
          ·rw[TP]at hu;split at hu
           ·rw[acu]at hu;rw[ah4];exact h4 _ u hu
           ·cases hu
          ·rw[TP]at ha hb;split at ha
           ·rw[if_pos ‹_›]at hb;rw[acu]at ha hb;exact h5 _ c u ha hb
           ·cases ha
          ·split
           ·rename_i e;show mi.toNat - lo=hi.toNat - lo;rw[e]
           ·trivial
     ·cases hv
    ·cases hv
   ·cases hv
  ·cases hv
 ·cases hv
def mr (tab:bY) (O:VH) (t:TypeId) (l c:MV):Option (MV×VH):=
 match(tab t).map cy.under,l,c with
 | some (.slice el),.v (.int _ i),.v (.int _ j)=>match tab el with
   | some te=>if 0<=i/\i<=j/\j<=9223372036854775807/\te.bytes*j<=281474976710656/\0<te.zero.length then some (.bq O.next 0 i.toNat j.toNat,O.push (.cells (iu te.zero (j.toNat*te.size))))else none
   | none=>none
 | _,_,_=>none
theorem DG (ht:aL P tab) (h:WR G O w) {t:TypeId} {l c:MV} {lv cv:Value} (hv:mr tab O t l c=some (m,O')) (hl:VR G l lv) (hc:VR G c cv):gY P (Instr.makeSlice t lv cv) w G O' m:=by
 unfold mr at hv;split at hv
 ·rename_i el k i k' j hu;cases hl;cases hc
  have eW:=bE ht hu;split at hv
  ·rename_i te he;split at hv
   ·rename_i hb;injection hv with hv;simp only[Prod.mk.injEq]at hv;obtain⟨rfl,rfl⟩:=hv;have nw:=ht _ te he;obtain⟨ti,z,h1,h2,h3,h4,h5,h6⟩:=nw.info;have hr:=run_make (P:=P) w t el ti z eW h1 h4 k k' i j hb.1 hb.2.1 (by rw[h3];exact hb.2.2.2.1) hb.2.2.1;rw[h2]at hr;have hz:=ye (h6 G) hb.2.2.2.2 (j.toNat*te.size);obtain⟨h7,h8⟩:=h.push el hz;exact⟨_,_,_,hr,h7,h8,.bq (aH _ _ _) (by omega) (by simp only[maxLen];omega),jO.alloc h _⟩
   ·cases hv
  ·cases hv
 ·cases hv
def iw (tab:bY) (O:VH) (t:TypeId) (x y:MV):Option (MV×VH):=
 match(tab t).map cy.under,y with
 | some (.slice el),.sl k ds _=>match tab el,x with
   | some te,.sl n cells tk=>
     if ds.length=k*te.size/\ds.all dK=true/\0<te.size then
      if k=0 then some (.sl n cells tk,O)
      else if cells.length=n*te.size/\(n+k)*te.bytes<=140737488355328/\n+k<=maxLen then
       match tk with
       | .nil=>some (.sl (n+k) (cells++ds) (.own O.next te.size),O.push .tok)
       | .full=>some (.sl (n+k) (cells++ds) (.own O.next te.size),O.push .tok)
       | .own s k'=>if k'=te.size then match O.hp s with
         | some .tok=>some (.sl (n+k) (cells++ds) (.own O.next te.size),(O.kill s).push .tok)
         | _=>none
         else none
       | .ar=>none
      else none
     else none
   | _,_=>none
 | _,_=>none
theorem TZ (h:WR G O w) {cs:List MV} {us:List Value} {N k r:Nat} {R:Array Value} {el:TypeId} (hc:aO G cs us) (hl:cs.length=N*k) (hR:R.size=r*k) (hm:N+r<=maxLen):
  ∃K,G.Le K/\WR K (O.push .tok) (w.alloc (.cells (us.toArray++R) el))/\VR K (.sl N cs (.own O.next k)) (.slice (some ⟨w.heap.size,0,none⟩) N (N+r)):=by
 have hg:=h.grow (.cells (us.toArray++R) el);have yf:us.length=N*k:=by rw[hc.1,hl]
 have jh:∀o u,(if o<N*k then us[o]? else none)=some u->(w.alloc (.cells (us.toArray++R) el)).cell? ⟨w.heap.size,o,none⟩=some u:=fun o u ho=>by
  rw[GS];split at ho
  ·rw[alD (by simp;omega)];simpa using ho
  ·cases ho
 obtain⟨h1,h2⟩:=hg.Dh (b:=w.heap.size) (f:=fun o=>if o<N*k then us[o]? else none) (fun o u hc=>by rw[h.wh]at hc;cases hc) jh (fun k _=>h.sE k)
  fun t c x ht hx e=>absurd e (h.o0 ht hx)
 have hb:(w.alloc (.cells (us.toArray++R) el)).heap[w.heap.size]?=some (.cells (us.toArray++R) el (0,0)):=by rw[fh,if_pos rfl]
 obtain⟨h3,h4⟩:=h2.R0 (b:=w.heap.size) (f:=N*k) (k:=k) (r:=r) (C:=us.toArray++R) (T:=el) h.TU hb (by simp[yf,hR])
  (fun o ho=>by
   show(if w.heap.size=w.heap.size then(if o<N*k then us[o]? else none)else _)=none;rw[if_pos rfl,if_neg (by omega)])
  h.sE (fun t c x ht hx=>h.o0 ht hx)
 refine⟨_,h1.trans h3,h4,?_⟩;refine .sl (us:=us) hc.1 (fun i u hu=>?_) (fun i c u a b=>(hc.2 i c u a b).mono (h1.trans h3)) (by omega) hm ?_
 ·show(if w.heap.size=w.heap.size then(if 0+i<N*k then us[0+i]? else none)else _)=some u;have:=(XO.1 hu).1;rw[if_pos rfl,ah0,if_pos (by omega)];exact hu
 ·refine .inr ⟨r,?_,hl,rfl⟩;show bt _ _ _ _=_;rw[aH,ah0,hl]
theorem WR.setRow (h:WR G O w) {b:Nat} {C C':Array Value} {T:TypeId} (hB:G.B<=b) (hb:w.heap[b]?=some (.cells C T (0,0))) (eB:∀j,G.bR j≠some b) (uw:∀t c x,O.hp t=some .tok->G.tok t=some (c,x)->c≠b)
  (Ko:∀o u,G.ec b o=some u->C'[o]?=some u):WR G O (w.setRow b C'):=by
 have xW:=setRow_heap w b C C' T (0,0) hb;have eC:∀j,j≠b->(w.setRow b C').heap[j]?=w.heap[j]?:=fun j hj=>setRow_other w b j C' hj
 have oB:(w.setRow b C').heap.size=w.heap.size:=by simp[World.setRow]
 refine⟨⟨h.base.os,h.base.tape,h.base.output,by rw[oB];exact h.base.size,fun j hj=>by rw[eC j (by have:j<G.B:=hj;omega)];exact h.base.block j hj⟩,fun b' o u hc=>?_,h.oZ,fun k c hk=>?_,h.inj,fun k cs hk=>?_,fun k es ck hk=>?_,fun t ht=>?_,h.kL,h.oz id (fun _ _ _ _ h=>h) fun k b' s hk hs=>gU (fun x hx=>by rw[eC _ (fun e=>eB k (e▸hk))];exact hx) hs,h.qZ id (fun _ _ h=>h) fun k x b' hk hb hx=>by rw[eC b' (fun e=>eB k (e▸hb))];exact hx,h.pw,h.ze⟩
 ·by_cases e:b'=b
  ·subst e;rw[cell_setRow_same w b' o C C' T (0,0) hb];exact Ko o u hc
  ·rw[cell_setRow_other w b C' _ e];exact h.ec b' o u hc
 ·obtain⟨h1,h2,h3⟩:=h.jW k c hk;exact⟨h1,by rw[oB];exact h2,h3⟩
 ·obtain⟨c,D,T',h1,h2,h3⟩:=h.cells k cs hk;exact⟨c,D,T',h1,by rw[eC c (fun e=>eB k (e▸h1))];exact h2,h3⟩
 ·obtain⟨c,E,h1,h2,h3⟩:=h.map k es ck hk;exact⟨c,E,h1,by rw[eC c (fun e=>eB k (e▸h1))];exact h2,h3⟩
 ·obtain⟨c,f,k,r,D,T',h1,h2,h3,h4⟩:=h.tok t ht;exact⟨c,f,k,r,D,T',h1,h2,by rw[eC c (uw t c _ ht h1)];exact h3,h4⟩
theorem DH (h:WR G O w) {k sz:Nat} {ds:List MV} {tk:Tok} (hy:VR G (.sl k ds tk) v) (hl:ds.length=k*sz) (hk:k≠0):
  ∃ad c us,v= .slice (some ad) k c/\aO G ds us/\us.length=k*sz/\∀j u,us[j]?=some u->w.cell? (ad.add j)=some u:=by
 cases hy with
 | slnil=>exact absurd rfl hk
 | nX h1=>exact absurd rfl hk
 | jV=>exact absurd rfl hk
 | sl h1 h2 h3 h4 h5 h6=>exact⟨_,_,_,rfl,⟨h1,h3⟩,by rw[h1,hl],fun j u hu=>by rw[Addr.add_lit];exact h.ec _ _ _ (h2 j u hu)⟩
theorem Ku (z:Array Value) (n:Nat):(Builtin.zeroCells z n).size=n*z.size:=by simp[Builtin.zeroCells]
theorem IC (h:WR G O w) {t ty el:TypeId} {te:cy} (ht:P.underlying t=some (.slice el)) (nw:xt P el te) {n:Nat} {cells ds:List MV} {tk tk':Tok} (hx:VR G (.sl n cells tk) u) (hy:VR G (.sl 0 ds tk') v):
  (Builtin.append_ #[t,t] ty #[u,v]).run P w= .ok u w:=by
 obtain⟨ti,OV,_⟩:=R1 nw w
 have run:∀(A B:Option Addr) (k c c':Nat),k<=c->(A=none->k=0)->(Builtin.append_ #[t,t] ty #[.slice A k c,.slice B 0 c']).run P w= .ok (.slice A k c) w:=fun A B k c c' hc hA=>by
  have hf:(Builtin.firstCells te.size 0 (.slice B 0 c')).run P w= .ok #[] w:=by
   cases B with
   | none=>simp[Builtin.firstCells]
   | some b=>simp[Builtin.firstCells,loadCells,loadCellsFrom]
  have hn:¬(c<k):=by omega
  cases A with
  | none=>simp[Builtin.append_,run_underlying ht,fi nw,Builtin.lenOf,hf,hc]
  | some a=>simp[Builtin.append_,run_underlying ht,fi nw,Builtin.lenOf,hf,hc,storeCells]
 have hu:∃A c,u= .slice A n c/\n<=c/\(A=none->n=0):=by
  cases hx with
  | slnil=>exact⟨_,_,rfl,acw _,fun _=>rfl⟩
  | nX h1=>exact⟨_,_,rfl,agw _,fun _=>rfl⟩
  | jV=>exact⟨_,_,rfl,acw _,fun _=>rfl⟩
  | sl h1 h2 h3 h4 h5 h6=>exact⟨_,_,rfl,h4,fun h=>by cases h⟩
 have hv:∃B c',v= .slice B 0 c':=by
  cases hy with
  | slnil=>exact⟨_,_,rfl⟩
  | nX h1=>exact⟨_,_,rfl⟩
  | jV=>exact⟨_,_,rfl⟩
  | sl h1 h2 h3 h4 h5 h6=>exact⟨_,_,rfl⟩
 obtain⟨A,c,rfl,h1,h2⟩:=hu;obtain⟨B,c',rfl⟩:=hv;exact run A B n c c' h1 h2
theorem zp (h:WR G O w) {t ty el:TypeId} {te:cy} (ht:P.underlying t=some (.slice el)) (nw:xt P el te) {n k c:Nat} {cells ds:List MV} {tk':Tok} {A:Option Addr} {us:List Value}
  (hA:A=none->n=0/\c=0) (iO:aO G cells us) (yf:us.length=n*te.size) (jh:∀ad,A=some ad->∀j u,us[j]?=some u->w.cell? (ad.add j)=some u) (hy:VR G (.sl k ds tk') v) (hl:ds.length=k*te.size) (hk:k≠0)
  (hc:c<n+k) (hb:(n+k)*te.bytes<=140737488355328) (hm:n+k<=maxLen):
  gY P (Builtin.append_ #[t,t] ty #[.slice A n c,v]) w G (O.push .tok) (.sl (n+k) (cells++ds) (.own O.next te.size)):=by
 obtain⟨ti,z,h1,h2,h3,h4,h5,h6⟩:=nw.info;obtain⟨ad,c',vs,rfl,n4,gP,hvc⟩:=DH h hy hl hk;have akG:n+k<=9223372036854775807:=by simp only[maxLen]at hm;omega
 have iy:=grownCap_ge w (n+k) c el;have hle:=grownCap_le_maxLen w (n+k) c el hm;have jX:(cells++ds).length=(n+k)*te.size:=by rw[ah2, <-iO.1,yf,hl,Nat.add_mul]
 obtain⟨K,g1,g2,g3⟩:=TZ (r:=grownCap w (n+k) c el - (n+k)) (R:=Builtin.zeroCells z.cells (grownCap w (n+k) c el - (n+k))) (el:=el) h.drew (iO.append n4) jX (by rw[Ku,h5]) (by omega);rw[show n+k+(grownCap w (n+k) c el - (n+k))=grownCap w (n+k) c el from by omega]at g3;refine⟨_,_,K,?_,g1,g2,g3,jO.alloc h.drew _⟩;cases A with
 | none=>
   obtain⟨rfl,rfl⟩:=hA rfl;have:us=[]:=ahX (by simpa using yf);subst this;have hr:=run_append_nil (P:=P) w t ty el ti z ht h1 h4 ad k c' vs (by rw[h2,gP]) hvc (by omega) (by omega) (by rw[h3];simp only[ah0]at hb;omega);simpa using hr
 | some a=>
   have hr:=run_append_grow (P:=P) w t ty el ti z ht h1 h4 a n c us (by rw[h2,yf]) (jh a rfl) ad k c' vs (by rw[h2,gP]) hvc hc (by omega) (by rw[h3];exact growslice_fits (by omega) hb);simpa using hr
theorem ID (h:WR G O w) {t ty el:TypeId} {te:cy} (ht:P.underlying t=some (.slice el)) (nw:xt P el te) {n k s b o r:Nat} {cells ds:List MV} {tk':Tok} {us:List Value}
  (hs:O.hp s=some .tok) (hg:G.tok s=some (b,o+cells.length,te.size,r)) (iO:aO G cells us) (yf:cells.length=n*te.size) (Ko:∀i u,us[i]?=some u->G.ec b (o+i)=some u)
  (hy:VR G (.sl k ds tk') v) (hl:ds.length=k*te.size) (il:ds.all dK=true) (hk:k≠0) (hc:n+k<=n+r) (hm:n+r<=maxLen):
  gY P (Builtin.append_ #[t,t] ty #[.slice (some ⟨b,o,none⟩) n (n+r),v]) w G ((O.kill s).push .tok) (.sl (n+k) (cells++ds) (.own O.next te.size)):=by
 obtain⟨ti,z,i1,i2,i3,i4,i5,i6⟩:=nw.info;obtain⟨ad,c',vs,rfl,n4,gP,hvc⟩:=DH h hy hl hk;obtain⟨b',f,k',r',C,T,t1,t2,t3,t4,t5,t6⟩:=h.tok s hs;rw[hg]at t1;simp only[Option.some.injEq,Prod.mk.injEq]at t1;obtain⟨rfl,rfl,rfl,rfl⟩:=t1;have hkr:k*te.size<=r*te.size:=Nat.mul_le_mul_right _ (by omega);have ah_:=x_ n4 il;have R3:=run_firstCells_some (P:=P) w te.size k ad k c' vs gP hvc;have dd:=run_storeCells_at P b (o+cells.length) T vs 0 C w t3 (by rw[Nat.add_zero,gP];omega) ah_
 have cj:(Builtin.append_ #[t,t] ty #[.slice (some ⟨b,o,none⟩) n (n+r),.slice (some ad) k c']).run P w=
   .ok (.slice (some ⟨b,o,none⟩) (n+k) (n+r)) (w.setRow b (C.toList.take (o+cells.length+0)++vs++C.toList.drop (o+cells.length+0+vs.length)).toArray):=by
  have hn:k<=r:=by omega
  rw[yf]at dd;simp only[Builtin.append_,run_underlying ht,fi nw,Builtin.lenOf,R3,Sem.run_bind,Result.andThen_ok,Sem.run_pure,ah6,Addr.add_lit,dd,yf]<;>simp[run_underlying ht,fi nw,Builtin.lenOf,R3,dd,hn,yf,Addr.add_lit]
 simp only[Nat.add_zero]at cj;generalize hC':(C.toList.take (o+cells.length)++vs++C.toList.drop (o+cells.length+vs.length)).toArray=C' at cj;have hfs:o+cells.length<=C.size:=by omega
 have OW:(C.toList.take (o+cells.length)).length=o+cells.length:=by simp;omega
 have hC1:∀i,i<o+cells.length->C'[i]?=C[i]?:=fun i hi=>by
  rw[<-hC',ah6,alF,alG (by omega),TP,if_pos hi];simp
 have DI:∀i u,vs[i]?=some u->C'[o+cells.length+i]?=some u:=fun i u hu=>by
  have hi:=(XO.1 hu).1;rw[<-hC',ah6,alF,List.getElem?_append_right (by omega),OW,Nat.add_sub_cancel_left,alG hi];exact hu
 have hC3:C'.size=C.size:=by rw[<-hC'];simp;omega
 have dY:=h.kill s
 have DJ:∀t c x,(O.kill s).hp t=some .tok->G.tok t=some (c,x)->c≠b:=fun t c x eR OZ e=>by
  subst e;have hts:t≠s:=fun e=>by subst e;rw[show(O.kill t).hp t=none from aH _ _ _]at eR;cases eR
  rw[show(O.kill s).hp t=O.hp t from aw _ _ hts]at eR;exact hts (h.kL t s c x _ eR hs OZ hg)
 have cQ:=dY.setRow (C':=C') t2 t3 t6 DJ (fun i u hu=>by
  have hi:i<o+cells.length:=by
   rcases ah7 i (o+cells.length)with h' | h'
   ·exact h'
   ·rw[t5 i h']at hu;cases hu
  rw[hC1 i hi];have:=h.ec b i u hu;simpa[World.cell?,t3]using this)
 have mM:=setRow_heap w b C C' T (0,0) t3;have acy:∀i u,C'[i]?=some u->(w.setRow b C').cell? ⟨b,i,none⟩=some u:=fun i u hu=>by rw[cell_setRow_same w b i C C' T (0,0) t3];exact hu
 obtain⟨g1,g2⟩:=cQ.Dh (b:=b) (f:=fun i=>if i<o+cells.length then G.ec b i else if i<o+cells.length+vs.length then C'[i]? else none)
  (fun i u hu=>by
   have hi:i<o+cells.length:=by
    rcases ah7 i (o+cells.length)with h' | h'
    ·exact h'
    ·rw[t5 i h']at hu;cases hu
   rw[if_pos hi];exact hu)
  (fun i u hu=>by
   split at hu
   ·exact cQ.ec b i u hu
   ·split at hu
    ·exact acy i u hu
    ·cases hu)
  (fun k _=>t6 k) (fun t c x eR OZ e=>absurd e (DJ t c _ eR OZ))
 have yj:(O.kill s).next=O.next:=rfl
 obtain⟨g3,g4⟩:=g2.R0 (b:=b) (f:=o+cells.length+vs.length) (k:=te.size) (r:=r - k) (C:=C') (T:=T) t2 mM
  (by
   rw[hC3,gP];have:(r - k)*te.size=r*te.size - k*te.size:=Nat.sub_mul _ _ _;omega)
  (fun i hi=>by
   show(if b=b then(if i<o+cells.length then G.ec b i else if i<o+cells.length+vs.length then C'[i]? else none)else _)=none;rw[if_pos rfl,if_neg (by omega),if_neg (by omega)])
  t6 (fun t c x eR OZ=>DJ t c x eR OZ)
 refine⟨_,_,_,cj,g1.trans g3,g4,?_,fun k b' DK=>setRow_other w b b' C' (fun e=>t6 k (e▸DK))⟩;have X9:=iO.append n4;refine .sl (us:=us++vs) X9.1 (fun i u hu=>?_) (fun i c u a b'=>(X9.2 i c u a b').mono (g1.trans g3)) (by omega) hm ?_
 ·show(if b=b then(if o+i<o+cells.length then G.ec b (o+i)else if o+i<o+cells.length+vs.length then C'[o+i]? else none)else _)=some u;rw[if_pos rfl];rw[List.getElem?_append]at hu;split at hu
  ·rename_i hi;rw[iO.1]at hi;rw[if_pos (by omega)];exact Ko i u hu
  ·rename_i hi;have gG:=(XO.1 hu).1;rw[iO.1]at hi gG hu;rw[if_neg (by omega),if_pos (by omega)];have:=DI _ u hu;rw[<-this];congr 1;omega
 ·refine .inr ⟨r - k,?_,?_,by omega⟩
  ·show bt _ _ _ _=_;rw[yj,aH];simp only[ah2,n4.1]
   congr 2;congr 1;omega
  ·rw[ah2,yf,hl,Nat.add_mul]
theorem Kv (ht:aL P tab) (h:WR G O w) {t ty:TypeId} {x y:MV} (hv:iw tab O t x y=some (m,O')) (hx:VR G x u) (hy:VR G y v):gY P (Builtin.append_ #[t,t] ty #[u,v]) w G O' m:=by
 unfold iw at hv;split at hv
 ·rename_i el k ds tk' hu;have eW:=bE ht hu;split at hv
  ·rename_i te n cells tk he;have nw:=ht _ te he;split at hv
   ·rename_i hc;split at hv
    ·rename_i hk;simp only[Option.some.injEq,Prod.mk.injEq]at hv;obtain⟨rfl,rfl⟩:=hv;subst hk;exact gY.of h (IC h eW nw hx hy) hx
    ·rename_i hk;split at hv
     ·rename_i jB
      have grow:∀(A:Option Addr) (c:Nat) (us:List Value),(A=none->n=0/\c=0)->aO G cells us->(∀ad,A=some ad->∀j u,us[j]?=some u->w.cell? (ad.add j)=some u)->c<n+k->
        gY P (Builtin.append_ #[t,t] ty #[.slice A n c,v]) w G (O.push .tok) (.sl (n+k) (cells++ds) (.own O.next te.size)):=fun A c us a1 a2 a3 a4=>
       zp h eW nw a1 a2 (by rw[a2.1,jB.1]) a3 hy hc.1 hk a4 jB.2.1 jB.2.2
      split at hv
      ·simp only[Option.some.injEq,Prod.mk.injEq]at hv;obtain⟨rfl,rfl⟩:=hv;cases hx with
       | slnil=>exact grow none 0 [] (fun _=>⟨rfl,rfl⟩) aO.nil (fun _ h=>by cases h) (by omega)
       | sl h1 h2 h3 h4 h5 h6=>exact h6.elim
      ·simp only[Option.some.injEq,Prod.mk.injEq]at hv;obtain⟨rfl,rfl⟩:=hv;cases hx with
       | sl h1 h2 h3 h4 h5 h6=>
         rename_i us c b o;have h6:c=n:=h6;exact grow _ c us (fun h=>by cases h) ⟨h1,h3⟩ (fun ad e j u hj=>by injection e with e;subst e;rw[Addr.add_lit];exact h.ec _ _ _ (h2 j u hj)) (by omega)
      ·rename_i s k';split at hv
       ·rename_i pB;subst pB;split at hv
        ·rename_i hs;simp only[Option.some.injEq,Prod.mk.injEq]at hv;obtain⟨rfl,rfl⟩:=hv;cases hx with
         | sl h1 h2 h3 h4 h5 h6=>
           rename_i us c b o
           have X_:c<n+k->gY P (Builtin.append_ #[t,t] ty #[.slice (some ⟨b,o,none⟩) n c,v]) w G ((O.kill s).push .tok) (.sl (n+k) (cells++ds) (.own O.next te.size)):=fun ew=>
            zp (O:=O.kill s) (h.kill s) eW nw (A:=some ⟨b,o,none⟩) (us:=us) (fun h=>by cases h) ⟨h1,h3⟩ (by rw[h1,jB.1]) (fun ad e j u hj=>by injection e with e;subst e;rw[Addr.add_lit];exact h.ec _ _ _ (h2 j u hj)) hy hc.1 hk ew jB.2.1 jB.2.2
           rcases h6 with h6 | ⟨r,h7,h8,h9⟩
           ·exact X_ (by omega)
           ·by_cases hr:n+k<=c
            ·subst h9;exact ID h eW nw hs h7 ⟨h1,h3⟩ jB.1 (fun i u hi=>h2 i u hi) hy hc.1 hc.2.1 hk hr h5
            ·exact X_ (by omega)
        ·cases hv
       ·cases hv
      ·cases hv
     ·cases hv
   ·cases hv
  ·cases hv
 ·cases hv
end
section
variable {G H:Gh} {n:Sz} {D:List Deferred} {e:Env} {a:Act} {P:Program} {tab:bY} {O O':VH} {w:World} {m m':MV} {u v:Value}
def Bd (tab:bY) (src dst:TypeId) (x:MV):Option MV:=
 match(tab src).map cy.under,(tab dst).map cy.under,x with
 | some _,some (.int k),.v (.int _ i)=>some (.v (.int k (k.wrap i)))
 | some .string,some .string,.str l=>some (.str l)
 | _,_,_=>none
theorem T0 (ht:aL P tab) {src dst:TypeId} (hv:Bd tab src dst m=some m') (hx:VR G m u):aZ P (convert src dst u) G m':=by
 unfold Bd at hv;split at hv
 ·injection hv with hv;subst hv;cases hx
  exact aZ.of (u:=.int _ _) (fun w _=>by simp[convert,run_underlying (bE ht ‹(tab src).map _=_›),run_underlying (bE ht ‹(tab dst).map _=_›),Conv.intToInt]) (.v rfl)
 ·injection hv with hv;subst hv;cases hx
  exact aZ.of (u:=.string _) (fun w _=>by simp[convert,run_underlying (bE ht ‹(tab src).map _=_›),run_underlying (bE ht ‹(tab dst).map _=_›)]) .str
 ·cases hv
theorem _root_.Go.Proofs.YtoclnkfdahmnhaaGreatDoor.VR.iP {x u:Value} (h:VR G (.v x) u):u=x:=by cases h;rfl
def Kw (m:MV):Option MV:=
 match m with
 | .ptr _ _ | .db _ _=>some m
 | .func (.func _) _ _=>some m
 | _=>none
def gx {α :Type} (parts:Array (Nat×Operand)) (ms:List α):List (Nat× α):=(parts.toList.map (·.1)).zip ms
def wE:MV->Option MV
 | .bq k o _ c=>if c=0 then none else some (.ptr k o)
 | .sl 0 [] .nil=>some (.v (.pointer none))
 | _=>none
theorem O_ (hv:wE m=some m') (hx:VR G m u) {ts:Array TypeId} {ty:TypeId}:aZ P (Builtin.unsafeSliceData_ ts ty #[u]) G m':=by
 unfold wE at hv;split at hv
 ·split at hv
  ·cases hv
  ·rename_i k o n c hc;injection hv with hv;subst hv
   cases hx with
   | bq h1 h2 h3=>exact aZ.of (u:=.pointer (some _)) (fun w _=>by
     show Sem.run P (if c≠0 then pure (Value.pointer (some _))else _) w=_;rw[if_pos hc];rfl) (.ptr h1)
 ·injection hv with hv;subst hv
  cases hx with
  | slnil=>exact aZ.of (u:=.pointer none) (fun w _=>rfl) (.v rfl)
  | sl h1 h2 h3 h4 h5 h6=>exact h6.elim
 ·cases hv
def eG (tab:bY) (o:Oper) (e:Env):Option MV:=
 match o.op with
 | .move x | .assign x=>ev e x
 | .pick c a b=>match ev e c with
   | some (.v (.bool t))=>if t then ev e a else ev e b
   | _=>none
 | .nilCheck x=>(ev e x).bind Kw
 | .binOp op t x y _=>match ev e x,ev e y with
   | some p,some q=>c5 tab op t p q
   | _,_=>none
 | .unOp op _ x=>(ev e x).bind (wC op)
 | .convert s d x=>(ev e x).bind (Bd tab s d)
 | .fieldAddr t x f=>(ev e x).bind (jE tab t f)
 | .field t x f=>(ev e x).bind (wq tab t · f)
 | .indexAddr t x i=>match ev e x,ev e i with
   | some p,some q=>mq tab t p q
   | _,_=>none
 | .index t x i=>match ev e x,ev e i with
   | some p,some q=>wv tab t p q
   | _,_=>none
 | .extract x i=>(ev e x).bind (rM · i)
 | .slice t x lo hi mx=>match ev e x,CM lo,CM hi,mx with
   | some p,some l,some h,none=>wD tab t p l h
   | some p,some l,some (some h),some y=>(ev e y).bind (rN tab t p l h)
   | _,_,_,_=>none
 | .build t parts=>match fP e (parts.toList.map (·.2))with
   | some ms=>wB tab t (gx parts ms)
   | none=>none
 | .load t x=>match ev e x with
   | some (.db cs off)=>eZ tab ⟨0,fun _=>none⟩ t (.db cs off)
   | _=>none
 | .makeFunc fn fs cs=>match fP e fs.toList,fP e cs.toList with
   | some p,some q=>some (.func fn p q)
   | _,_=>none
 | .makeInterface t x=>match(tab t).map cy.under,ev e x with
   | some (.interface _),_=>none
   | some _,some p=>some (.iface t p)
   | _,_=>none
 | .call c=>match c.callee,c.args.toList,c.argTypes.toList with
   | .builtin .len,[x],[t]=>(ev e x).bind (gZ tab t)
   | .builtin .max,[x,y],_=>match ev e x,ev e y with
     | some p,some q=>Ba p q
     | _,_=>none
   | .builtin .min,[x,y],_=>match ev e x,ev e y with
     | some p,some q=>Bb p q
     | _,_=>none
   | .builtin .unsafeSliceData,[x],_=>(ev e x).bind wE
   | _,_,_=>none
 | _=>none
where CM:Option Operand->Option (Option MV)
 | none=>some none
 | some x=>(ev e x).map some
theorem Di (h:FR G n D e a) {x:Option Operand} {y:Option MV} (hx:eG.CM e x=some y):IB G y (x.map a.eval):=by
 cases x with
 | none=>injection hx with hx;subst hx;trivial
 | some x=>
   obtain⟨m,h1,rfl⟩:=Km.1 hx;exact h.ev h1
theorem B7 {l:List Operand} {ms:List MV} (h:fP e l=some ms):ms.length=l.length:=by
 induction l generalizing ms with
 | nil=>simp[fP]at h;subst h;rfl
 | cons x l ih=>
   simp only[fP,agt,ags,Kn]at h;obtain⟨m,h1,XV,h2,h3⟩:=h;injection h3 with h3;subst h3
   simp[ih h2]
theorem zip_fst {α :Type} (parts:Array (Nat×Operand)) (ms:List α) (h:ms.length=parts.toList.length):(gx parts ms).map (·.1)=parts.toList.map (·.1):=by
 unfold gx;rw[show(List.map (fun x:Nat× α =>x.1) ((parts.toList.map (·.1)).zip ms))=List.map Prod.fst ((parts.toList.map (·.1)).zip ms)from rfl,List.map_fst_zip];simp[h]
theorem Kx {α :Type} (parts:Array (Nat×Operand)) (ms:List α) (h:ms.length=parts.toList.length):(gx parts ms).map (·.2)=ms:=by
 unfold gx;rw[show(List.map (fun x:Nat× α =>x.2) ((parts.toList.map (·.1)).zip ms))=List.map Prod.snd ((parts.toList.map (·.1)).zip ms)from rfl,List.map_snd_zip];simp[h]
theorem DL (a:Act) (parts:Array (Nat×Operand)):((parts.map fun(i,x)=>(i,a.eval x)).toList.map (·.1))=parts.toList.map (·.1):=by simp
theorem DM (a:Act) (parts:Array (Nat×Operand)):((parts.map fun(i,x)=>(i,a.eval x)).toList.map (·.2))=(parts.toList.map (·.2)).map a.eval:=by simp
def du (P:Program) (o:Oper) (a:Act) (G:Gh) (m:MV):Prop:=∃u,VR G m u/\∀w,SS G w->(execOp a.eval o).run P w= .ok (.value u) w
theorem du.of {o:Oper} {s:Sem Value} (hs:aZ P s G m) (he:execOp a.eval o=(do pure (.value (<-s)))):du P o a G m:=by
 obtain⟨u,hu,hr⟩:=hs;exact⟨u,hu,fun w hw=>by rw[he,Sem.run_bind,hr w hw];rfl⟩
theorem uz (ht:aL P tab) (h:FR G n D e a) {o:Oper} (hv:eG tab o e=some m):du P o a G m:=by
 unfold eG at hv;split at hv
 ·rename_i x ho;exact⟨_,h.ev hv,fun w _=>by simp[execOp,ho]⟩
 ·rename_i x ho;exact⟨_,h.ev hv,fun w _=>by simp[execOp,ho]⟩
 ·rename_i c x y ho;split at hv
  ·rename_i t hc;have oA:=h.ev hc;have F5:a.eval c= .bool t:=oA.iP;split at hv
   ·rename_i hb;exact⟨_,h.ev hv,fun w _=>by simp[execOp,ho,asBool,F5,hb]⟩
   ·rename_i hb;exact⟨_,h.ev hv,fun w _=>by simp[execOp,ho,asBool,F5,hb]⟩
  ·cases hv
 ·rename_i x ho;obtain⟨p,h1,h2⟩:=Kn.1 hv;have hp:=h.ev h1;generalize hu:a.eval x=u at hp;unfold Kw at h2;split at h2
  ·injection h2 with h2;subst h2
   exact⟨u,hp,fun w _=>by simp only[execOp,ho,hu];cases hp;rfl⟩
  ·injection h2 with h2;subst h2
   exact⟨u,hp,fun w _=>by simp only[execOp,ho,hu];cases hp;rfl⟩
  ·injection h2 with h2;subst h2
   exact⟨u,hp,fun w _=>by simp only[execOp,ho,hu];cases hp;rfl⟩
  ·cases h2
 ·rename_i op t x y yt ho;split at hv
  ·rename_i p q h1 h2;exact du.of (XY (xo:=x) (yo:=y) ht hv (h.ev h1) (h.ev h2)) (by simp[execOp,ho])
  ·cases hv
 ·rename_i op t x ho;obtain⟨p,h1,h2⟩:=Kn.1 hv;exact du.of (OS h2 (h.ev h1)) (by simp[execOp,ho])
 ·rename_i s d x ho;obtain⟨p,h1,h2⟩:=Kn.1 hv;exact du.of (T0 ht h2 (h.ev h1)) (by simp[execOp,ho])
 ·rename_i t x f ho;obtain⟨p,h1,h2⟩:=Kn.1 hv;exact du.of (DE ht h2 (h.ev h1)) (by simp[execOp,ho])
 ·rename_i t x f ho;obtain⟨p,h1,h2⟩:=Kn.1 hv;exact du.of (ON ht h2 (h.ev h1)) (by simp[execOp,ho])
 ·rename_i t x i ho;split at hv
  ·rename_i p q h1 h2;exact du.of (DF ht hv (h.ev h1) (h.ev h2)) (by simp[execOp,ho])
  ·cases hv
 ·rename_i t x i ho;split at hv
  ·rename_i p q h1 h2;exact du.of (OP ht hv (h.ev h1) (h.ev h2)) (by simp[execOp,ho])
  ·cases hv
 ·rename_i x i ho;obtain⟨p,h1,h2⟩:=Kn.1 hv;exact du.of (Iz h2 (h.ev h1)) (by simp[execOp,ho])
 ·rename_i t x lo hi mx ho;split at hv
  ·rename_i p l hh h1 h2 h3;exact du.of (OT ht hv (h.ev h1) (Di h h2) (Di h h3)) (by simp[execOp,ho])
  ·rename_i p l hh y h1 h2 h3;obtain⟨q,h4,h5⟩:=Kn.1 hv;have h6:=Di h h3;cases hi with
   | none=>cases h3
   | some hi=>exact du.of (Kt ht h5 (h.ev h1) (Di h h2) h6 (h.ev h4)) (by simp[execOp,ho])
  ·cases hv
 ·rename_i t parts ho;split at hv
  ·rename_i ms h1;have hl:=B7 h1;have Pb:ms.length=parts.toList.length:=by simpa using hl
   refine du.of (OQ ht hv (ps:=parts.map fun(i,x)=>(i,a.eval x)) ?_ ?_) (by simp[execOp,ho])
   ·rw[zip_fst parts ms Pb,DL]
   ·rw[Kx parts ms Pb,DM];exact h.fP h1
  ·cases hv
 ·rename_i t x ho;split at hv
  ·rename_i cs off h1;exact du.of (OL ht hv (h.ev h1)) (by simp[execOp,ho])
  ·cases hv
 ·rename_i fn fs cs ho;split at hv
  ·rename_i p q h1 h2;injection hv with hv;subst hv
   have e1:=h.fP h1;have e2:=h.fP h2;refine⟨.func fn (fs.toList.map a.eval).toArray (cs.toList.map a.eval).toArray,.func e1.1 e1.2 e2.1 e2.2,fun w _=>?_⟩;have f1:fs.map a.eval=(fs.toList.map a.eval).toArray:=by apply acv;simp
   have f2:cs.map a.eval=(cs.toList.map a.eval).toArray:=by apply acv;simp
   simp only[execOp,ho,Instr.makeFunc,f1,f2];rfl
  ·cases hv
 ·rename_i t x ho;split at hv
  ·cases hv
  ·rename_i d p hne hd h1;injection hv with hv;subst hv
   have eW:=bE ht hd;refine du.of (s:=Instr.makeInterface t (a.eval x)) (aZ.of (u:=.iface t (a.eval x)) (fun w _=>?_) (.iface (h.ev h1))) (by simp[execOp,ho]);simp only[Instr.makeInterface,Sem.run_bind,run_underlying eW,Result.andThen_ok]
   cases d<;>first
    | rfl
    | (rename_i ms;exact absurd hd (hne ms))
  ·cases hv
 ·rename_i c ho;split at hv
  ·rename_i x t hc ik Kz;obtain⟨p,h1,h2⟩:=Kn.1 hv;have ha:c.args= #[x]:=by apply acv;exact ik
   have fx:c.argTypes= #[t]:=by apply acv;exact Kz
   exact du.of (X5 (ty:=o.type) ht h2 (h.ev h1)) (by simp[execOp,ho,resolve,hc,ha,fx,invoke,builtin])
  ·rename_i x y hc ik;split at hv
   ·rename_i p q h1 h2;have ha:c.args= #[x,y]:=by apply acv;exact ik
    exact du.of (TV (ts:=c.argTypes) (ty:=o.type) hv (h.ev h1) (h.ev h2)) (by simp[execOp,ho,resolve,hc,ha,invoke,builtin])
   ·cases hv
  ·rename_i x y hc ik;split at hv
   ·rename_i p q h1 h2;have ha:c.args= #[x,y]:=by apply acv;exact ik
    exact du.of (TW (ts:=c.argTypes) (ty:=o.type) hv (h.ev h1) (h.ev h2)) (by simp[execOp,ho,resolve,hc,ha,invoke,builtin])
   ·cases hv
  ·rename_i x hc ik;obtain⟨p,h1,h2⟩:=Kn.1 hv;have ha:c.args= #[x]:=by apply acv;exact ik
   exact du.of (O_ (ts:=c.argTypes) (ty:=o.type) h2 (h.ev h1)) (by simp[execOp,ho,resolve,hc,ha,invoke,builtin])
  ·cases hv
 ·cases hv
end
open Go.MapKept (IsKey run_checkKey run_findKey run_setObj_map)
section
variable {G H:Gh} {n:Sz} {D:List Deferred} {e:Env} {a:Act} {P:Program} {tab:bY} {O O':VH} {w:World} {m m':MV} {u v:Value}
theorem oC {w:World} {b j:Nat} (o:Obj) (h:j≠b):({w with heap:=w.heap.setIfInBounds b o}:World).heap[j]?=w.heap[j]?:=
 ah3 (Ne.symm h)
theorem uA {w:World} {b:Nat} {x:Obj} (o:Obj) (h:w.heap[b]?=some x):({w with heap:=w.heap.setIfInBounds b o}:World).heap[b]?=some o:=
 Array.getElem?_setIfInBounds_self_of_lt (nY h)
theorem tH {w:World} {b:Nat} (o:Obj) {a:Addr} (h:a.block≠b):({w with heap:=w.heap.setIfInBounds b o}:World).cell? a=w.cell? a:=by
 unfold World.cell?;rw[oC o h]
abbrev uB:=List (MV×MV×Nat)
structure gK (G:Gh) (es:uB) (E:List MapEntry):Prop where
 born:E.map (·.born)=es.map (·.2.2)
 key:aO G (es.map (·.1)) (E.map (·.key))
 val:aO G (es.map (·.2.1)) (E.map (·.val))
theorem gK.nil:gK G [] []:=⟨rfl,aO.nil,aO.nil⟩
theorem gK.cons {x:MV×MV×Nat} {y:MapEntry} {es:uB} {E:List MapEntry} (h1:y.born=x.2.2) (h2:VR G x.1 y.key) (h3:VR G x.2.1 y.val) (h:gK G es E):gK G (x::es) (y::E):=
 ⟨by rw[ahZ,ahZ,h1,h.born],aO.cons h2 h.key,aO.cons h3 h.val⟩
theorem gK.cD {x:MV×MV×Nat} {es:uB} {E:List MapEntry} (h:gK G (x::es) E):∃y E',E=y::E'/\y.born=x.2.2/\VR G x.1 y.key/\VR G x.2.1 y.val/\gK G es E':=by
 cases E with
 | nil=>have:=h.born;simp at this
 | cons y E=>
   have h1:=h.born;simp only[ahZ,List.cons.injEq]at h1;exact⟨y,E,rfl,h1.1,h.key.head,h.val.head,⟨h1.2,h.key.tail,h.val.tail⟩⟩
theorem gK.fF {E:List MapEntry} (h:gK G [] E):E=[]:=by
 cases E with
 | nil=>rfl
 | cons y E=>have:=h.born;simp at this
theorem gK.append {es fs:uB} {E F:List MapEntry} (h:gK G es E) (k:gK G fs F):gK G (es++fs) (E++F):=
 ⟨by simp[h.born,k.born],by simpa using aO.append h.key k.key,by simpa using aO.append h.val k.val⟩
theorem WR.sH (h:WR G O w) {k b ck ck':Nat} {es F6:uB} {E':Array MapEntry} {x:Obj} (hk:O.hp k=some (.map es ck)) (hp:G.bR k=some b) (hb:w.heap[b]?=some x) (hr:gK G F6 E'.toList):
  WR G (O.set k (.map F6 ck')) {w with heap:=w.heap.setIfInBounds b (.map E' ck')}:=by
 have hne:∀j b',j≠k->O.hp j≠none->G.bR j=some b'->b'≠b:=fun j b' hj lj mM e=>hj (h.inj j k b lj (by rw[hk];simp) (e▸mM) hp)
 have ir:∀j,bt O.hp k (some (.map F6 ck')) j≠none->O.hp j≠none:=fun j hn=>by
  by_cases e:j=k
  ·subst e;rw[hk];simp
  ·rwa [aw _ _ e]at hn
 have xW:=uA (.map E' ck') hb;have eC:∀j,j≠b->({w with heap:=w.heap.setIfInBounds b (.map E' ck')}:World).heap[j]?=w.heap[j]?:=fun j hj=>oC _ hj
 have hB:=(h.jW k b hp).1
 have Pc:∀b' s,w.shape? b'=some s->b'≠b:=fun b' s hs e=>by
  subst e;obtain⟨b2,E,g1,g2,_⟩:=h.map k es ck hk;rw[hp]at g1;injection g1 with g1;subst g1
  simp only[World.shape?,g2]at hs;cases hs
 refine⟨⟨h.base.os,h.base.tape,h.base.output,by simpa using h.base.size,fun j hj=>?_⟩,fun b' o u' oA=>?_,fun j hj=>?_,fun j b' hj=>?_,fun j k' b' lj lk=>h.inj j k' b' (ir j lj) (ir k' lk),fun j ds hj=>?_,fun j es2 ck2 hj=>?_,fun t ht=>?_,fun s t b' x y hs ht=>?_,h.oz id (l_ (by simp)) fun j b' s hj hs=>gU (fun x hx=>by rw[eC _ (Pc b' s hs)];exact hx) hs,h.qZ id (uv (by simp)) fun j x b' hj hb hx=>by rw[eC b' (fun e=>by have:=h.inj j k b (by rw[hj];simp) (by rw[hk];simp) (e▸hb) hp;subst this;rw[hk]at hj;cases hj)];exact hx,h.pw,h.q_ (Gh.Le.refl _) (mo (by simp))⟩
 ·rw[eC j (by omega)];exact h.base.block j hj
 ·have zg:b'≠b:=fun e=>by subst e;rw[(h.jW k b' hp).2.2 (by rw[hk];simp) o]at oA;cases oA
  rw[tH _ (by exact zg)];exact h.ec b' o u' oA
 ·obtain⟨d1,d2,d3⟩:=h.oZ j hj;refine⟨d1,d2,?_⟩;show bt _ _ _ _=_;rw[aw _ _ (fun e=>by subst e;rw[d3]at hk;cases hk)];exact d3
 ·obtain⟨p1,p2,p3⟩:=h.jW j b' hj;refine⟨p1,by simpa using p2,fun hne=>p3 ?_⟩;have hne:bt O.hp k (some (.map F6 ck')) j≠none:=hne;by_cases e:j=k
  ·subst e;rw[hk];simp
  ·rwa [aw _ _ e]at hne
 ·have hj:bt O.hp k (some (.map F6 ck')) j=some (.cells ds):=hj;by_cases e:j=k
  ·subst e;rw[aH]at hj;cases hj
  ·rw[aw _ _ e]at hj;obtain⟨b',C,T,d1,d2,d3⟩:=h.cells j ds hj;exact⟨b',C,T,d1,by rw[eC _ (hne j b' e (by rw[hj];simp) d1)];exact d2,d3⟩
 ·have hj:bt O.hp k (some (.map F6 ck')) j=some (.map es2 ck2):=hj;by_cases e:j=k
  ·subst e;rw[aH]at hj;injection hj with hj;injection hj with hj aX;subst hj;subst aX
   exact⟨b,E',hp,xW,hr.born,hr.key,hr.val⟩
  ·rw[aw _ _ e]at hj;obtain⟨b',D,d1,d2,d3⟩:=h.map j es2 ck2 hj;exact⟨b',D,d1,by rw[eC _ (hne j b' e (by rw[hj];simp) d1)];exact d2,d3⟩
 ·have ht:bt O.hp k (some (.map F6 ck')) t=some .tok:=ht;have e:t≠k:=fun e=>by subst e;rw[aH]at ht;cases ht
  rw[aw _ _ e]at ht;obtain⟨b',f,k',r,D,T',d1,d2,d3,d4,d6,d7⟩:=h.tok t ht;exact⟨b',f,k',r,D,T',d1,d2,by rw[eC _ (fun e=>d7 k (by rw[e];exact hp))];exact d3,d4,d6,d7⟩
 ·have hs:bt O.hp k (some (.map F6 ck')) s=some .tok:=hs;have ht:bt O.hp k (some (.map F6 ck')) t=some .tok:=ht;have e:t≠k:=fun e=>by subst e;rw[aH]at ht;cases ht
  have e':s≠k:=fun e=>by subst e;rw[aH]at hs;cases hs
  rw[aw _ _ e]at ht;rw[aw _ _ e']at hs;exact h.kL s t b' x y hs ht
theorem WR.Ya (h:WR G O w):G.Le {G with bR:=bt G.bR O.next (some w.heap.size)}/\WR {G with bR:=bt G.bR O.next (some w.heap.size)} (O.push (.map [] 0)) (w.alloc (.map #[] 0)):=by
 have hle:=Gh.Le.Ix h.mn.1 w.heap.size;have hg:=h.grow (.map #[] 0)
 have eB:∀k b,bt G.bR O.next (some w.heap.size) k=some b->(k=O.next/\b=w.heap.size)\/(k≠O.next/\G.bR k=some b):=fun k b hk=>by
  by_cases e:k=O.next
  ·subst e;rw[aH]at hk;injection hk with hk;exact .inl ⟨rfl,hk.symm⟩
  ·rw[aw _ _ e]at hk;exact .inr ⟨e,hk⟩
 have OJ:∀o,G.ec w.heap.size o=none:=h.wh
 refine⟨hle,hg.base,hg.ec,fun k hk=>?_,fun k b hk=>?_,fun j k b lj lk hj hk=>?_,fun k ds hk=>?_,fun k es ck hk=>?_,fun t ht=>?_,fun s t b x y hs ht h1 h2=>?_,h.oz hle.bR (l_ (by simp)) fun _ _ _ _=>gU fun _=>dD w _,h.qZ hle.bR (uv (by simp)) fun _ _ _ _ _=>dD w _,h.pw,h.q_ hle (mo (by simp))⟩
 ·have hk:O.next+1<=k:=hk;obtain⟨h1,h2,h3⟩:=h.oZ k (by omega);exact⟨by show bt _ _ _ _=_;rw[aw _ _ (by omega)];exact h1,h2,by show bt _ _ _ _=_;rw[aw _ _ (by omega)];exact h3⟩
 ·rcases eB k b hk with⟨_,rfl⟩ | ⟨dY,hk⟩
  ·exact⟨h.TU,by simp,fun _=>OJ⟩
  ·obtain⟨p1,p2,p3⟩:=hg.jW k b hk;exact⟨p1,p2,fun hne=>p3 (by have hne:bt O.hp O.next (some (.map [] 0)) k≠none:=hne;rwa [aw _ _ dY]at hne)⟩
 ·rcases eB j b hj with⟨rfl,rfl⟩ | ⟨cT,hj⟩<;>rcases eB k _ hk with⟨rfl,hb⟩ | ⟨dY,hk⟩
  ·rfl
  ·have:=(h.jW _ _ hk).2.1;omega
  ·subst hb;have:=(h.jW _ _ hj).2.1;omega
  ·exact h.inj j k b (by have lj:bt O.hp O.next (some (.map [] 0)) j≠none:=lj;rwa [aw _ _ cT]at lj) (by have lk:bt O.hp O.next (some (.map [] 0)) k≠none:=lk;rwa [aw _ _ dY]at lk) hj hk
 ·have hk:bt O.hp O.next (some (.map [] 0)) k=some (.cells ds):=hk;by_cases e:k=O.next
  ·subst e;rw[aH]at hk;cases hk
  ·rw[aw _ _ e]at hk;obtain⟨b,C,T,h1,h2,h3⟩:=hg.cells k ds hk;exact⟨b,C,T,hle.bR h1,h2,h3.mono hle⟩
 ·have hk:bt O.hp O.next (some (.map [] 0)) k=some (.map es ck):=hk;by_cases e:k=O.next
  ·subst e;rw[aH]at hk;injection hk with hk;injection hk with hk bJ;subst hk;subst bJ
   exact⟨w.heap.size, #[],aH _ _ _,by rw[fh,if_pos rfl],rfl,aO.nil,aO.nil⟩
  ·rw[aw _ _ e]at hk;obtain⟨b,E,h1,h2,h3,h4,h5⟩:=hg.map k es ck hk;exact⟨b,E,hle.bR h1,h2,h3,h4.mono hle,h5.mono hle⟩
 ·have ht:bt O.hp O.next (some (.map [] 0)) t=some .tok:=ht;by_cases e:t=O.next
  ·subst e;rw[aH]at ht;cases ht
  ·rw[aw _ _ e]at ht;obtain⟨b,f,k,r,D,T',h1,h2,h3,h4,h6,h7⟩:=hg.tok t ht;obtain⟨_,_,_,_,_,_,XS,_,XT,_⟩:=h.tok t ht;refine⟨b,f,k,r,D,T',h1,h2,h3,h4,h6,fun j hj=>?_⟩;rcases eB j b hj with⟨_,rfl⟩ | ⟨_,hj⟩
   ·rw[h1]at XS;injection XS with e1;injection e1 with e1 _;subst e1
    have:=nY XT;omega
   ·exact h7 j hj
 ·have hs:bt O.hp O.next (some (.map [] 0)) s=some .tok:=hs;have ht:bt O.hp O.next (some (.map [] 0)) t=some .tok:=ht;have es:s≠O.next:=fun e=>by subst e;rw[aH]at hs;cases hs
  have et:t≠O.next:=fun e=>by subst e;rw[aH]at ht;cases ht
  rw[aw _ _ es]at hs;rw[aw _ _ et]at ht;exact h.kL s t b x y hs ht h1 h2
theorem bytes_beq (a b:List UInt8):((⟨⟨a⟩⟩:ByteArray)==⟨⟨b⟩⟩)=(a==b):=by
 show((⟨a⟩:Array UInt8)==⟨b⟩)=(a==b);rw[Bool.eq_iff_iff,beq_iff_eq,beq_iff_eq,Array.mk.injEq]
def IE (d:TypeDesc) (x y:MV):Option Bool:=
 match d,x,y with
 | .int _,.v (.int k a),.v (.int k' b)=>if k=k' then some (a==b)else none
 | .string,.str a,.str b=>some (a==b)
 | _,_,_=>none
theorem GY {d:TypeDesc} {x y:MV} {u v:Value} {b:Bool} (h:IE d x y=some b) (hx:VR G x u) (hy:VR G y v):Instr.sameNow d u v=some b/\(b=true->Instr.sameBits 10000 v u=true):=by
 unfold IE at h;split at h
 ·split at h
  ·rename_i he;subst he;injection h with h;cases hx;cases hy
   refine⟨by simp[Instr.sameNow,h],fun hb=>?_⟩;rw[hb]at h;have:=eq_of_beq h;subst this;simp[Instr.sameBits]
  ·cases h
 ·injection h with h;cases hx;cases hy;refine⟨by rw[<-h];exact congrArg some (bytes_beq _ _),fun hb=>?_⟩;rw[hb]at h;have:=eq_of_beq h;subst this;show((_:ByteArray)==_)=true;rw[bytes_beq];exact h
 ·cases h
def pC (d:TypeDesc) (k:MV):uB->Nat->Option (Option (Nat×MV))
 | [],_=>some none
 | e::es,i=>match IE d k e.1 with
   | some true=>some (some (i,e.2.1))
   | some false=>pC d k es (i+1)
   | none=>none
theorem rO {d:TypeDesc} {k:MV} {kv:Value} (hk:VR G k kv):∀{es:uB} {E:List MapEntry} {i:Nat} {r:Option (Nat×MV)},pC d k es i=some r->gK G es E->
  match r with
  | none=>Instr.findNow d kv E i=some none
  | some (j,m)=>∃v,Instr.findNow d kv E i=some (some (j,v))/\VR G m v/\i<=j/\(E[j - i]?).map (fun e=>Instr.sameBits 10000 e.key kv)=some true/\j - i<E.length
 | [],E,i,r,h,hr=>by
   rw[hr.fF];injection h with h;subst h
   rfl
 | x::es,E,i,r,h,hr=>by
   obtain⟨y,E',rfl,h1,h2,h3,h4⟩:=hr.cD;rw[pC]at h;split at h
   ·rename_i hs;injection h with h;subst h
    obtain⟨g1,g3⟩:=GY hs hk h2;exact⟨y.val,by simp[Instr.findNow,g1],h3,acw _,by simp[g3],by simp⟩
   ·rename_i hs;obtain⟨g1,_⟩:=GY hs hk h2;have ih:=rO hk h h4;cases r with
    | none=>simp only[Instr.findNow,g1];exact ih
    | some p=>
      obtain⟨j,m⟩:=p;obtain⟨v,i1,i2,i3,i4,i5⟩:=ih;refine⟨v,by simp only[Instr.findNow,g1];exact i1,i2,by omega,?_,by simp;omega⟩;rw[show j - i=(j - (i+1))+1 by omega,alJ];exact i4
   ·cases h
def xw (d:TypeDesc) (k:MV):Bool:=
 match d,k with
 | .int k,.v (.int k' _)=>decide (k'=k)
 | .string,.str _=>true
 | _,_=>false
theorem zw {d:TypeDesc} {k:MV} {kv:Value} (h:xw d k=true) (hk:VR G k kv):IsKey d kv:=by
 unfold xw at h;split at h
 ·cases hk;simpa[IsKey]using h
 ·cases hk;simp[IsKey]
 ·cases h
def wF (i:cy):Option MV:=if eL i.under then some (.agg i.zero)else i.zero[0]?
theorem yl {t:TypeId} {i:cy} (h:xt P t i) (hm:wF i=some m):∃z,(∀w,(zeroValue t).run P w= .ok z w)/\∀G,VR G m z:=by
 obtain⟨ti,z,h1,_,_,h4,h5,h6⟩:=h.info;refine⟨z,fun w=>by simp[zeroValue,typeInfo,h1,h4],fun G=>?_⟩;obtain⟨w1,w2⟩:=h.whole ti z h1 h4;have h6:=h6 G;unfold wF at hm;split at hm
 ·rename_i ha;injection hm with hm;subst hm
  obtain⟨cs,rfl⟩:=w1 ha;exact VR.agg h6.1 h6.2
 ·rename_i ha;have ha:eL i.under=false:=by simpa using ha
  rw[w2 ha]at h6;obtain⟨u,hu,hv⟩:=h6.get hm;have:i.zero.length=1:=by have:=h6.1;simpa using this.symm
  have h0:(0:Nat)<1:=by omega
  simp only[Array.toList,alI,Option.some.injEq]at hu;subst hu;exact hv
def mapOf (O:VH):MV->Option uB
 | .v (.map none)=>some []
 | .map b=>match O.hp b with
   | some (.map es _)=>some es
   | _=>none
 | _=>none
def gL (tab:bY) (O:VH) (t:TypeId) (x k:MV) (ok:Bool):Option MV:=
 match(tab t).map cy.under with
 | some (.map kt et)=>match(tab kt).map cy.under,tab et with
   | some kd,some te=>
     match xw kd k,(mapOf O x).bind (pC kd k · 0)with
     | true,some (some (_,m))=>some (if ok then .tuple [m,.v (.bool true)]else m)
     | true,some none=>(wF te).map fun z=>if ok then .tuple [z,.v (.bool false)]else z
     | _,_=>none
   | _,_=>none
 | _=>none
theorem sI (ht:aL P tab) {t:TypeId} {d:TypeDesc} (h:(tab t).map cy.under=some d):P.underlying t=some d:=by
 obtain⟨i,hi,hu⟩:=Km.1 h;rw[<-hu];exact(ht t i hi).under
theorem xx (ht:aL P tab) (h:WR G O w) {t:TypeId} {x k:MV} {ok:Bool} {u kv:Value} (hv:gL tab O t x k ok=some m) (hx:VR G x u) (hk:VR G k kv):∃r,VR G m r/\∀y,Sx G w y->(Instr.lookup t u kv ok).run P y= .ok r y:=by
 unfold gL at hv;split at hv
 ·rename_i kt et hmt;have hU:=sI ht hmt;split at hv
  ·rename_i kd te uC nw;have hK:=sI ht uC
   have cj:∀(es:uB),mapOf O x=some es->∃E:Array MapEntry,gK G es E.toList/\((u= .map none/\E= #[])\/∃r ck,u= .map (some r)/\∀y,Sx G w y->y.heap[r]?=some (.map E ck)):=by
    intro es DN;unfold mapOf at DN;split at DN
    ·injection DN with DN;subst DN
     cases hx;exact⟨#[],gK.nil,.inl ⟨rfl,rfl⟩⟩
    ·rename_i b;split at DN
     ·rename_i F6 ck hb;injection DN with DN;subst DN
      cases hx with
      | map h1=>
        obtain⟨b',E,e1,e2,e3,e4,e5⟩:=h.map _ _ _ hb;rw[h1]at e1;injection e1 with e1;subst e1
        exact⟨E,⟨e3,e4,e5⟩,.inr ⟨_,_,rfl,fun y hy=>(hy.2 _ _ h1).trans e2⟩⟩
     ·cases DN
    ·cases DN
   split at hv
   ·rename_i j m2 uD hf;injection hv with hv;obtain⟨es,h1,h2⟩:=Kn.1 hf;obtain⟨E,hE,Yb⟩:=cj es h1;obtain⟨v,f1,f2,_⟩:=rO hk h2 hE;have tI:=zw uD hk;refine⟨if ok then .tuple #[v,.bool true]else v,?_,fun y hy=>?_⟩;rotate_left
    ·rcases Yb with⟨rfl,rfl⟩ | ⟨r,ck,rfl,hb⟩
     ·simp only[Instr.lookup,Sem.run_bind,run_underlying hU,Result.andThen_ok,run_checkKey hK tI,run_findKey hK f1,Sem.run_pure]
     ·simp only[Instr.lookup,Sem.run_bind,run_underlying hU,Result.andThen_ok,MapKept.run_getObj_map (hb y hy),run_checkKey hK tI,run_findKey hK f1,Sem.run_pure]
    ·subst hv;cases ok
     ·exact f2
     ·exact VR.tuple (us:=[v,.bool true]) rfl (aO.cons f2 (aO.cons (.v rfl) aO.nil)).2
   ·rename_i uD hf;obtain⟨z,hz,hzm⟩:=Km.1 hv;obtain⟨es,h1,h2⟩:=Kn.1 hf;obtain⟨E,hE,Yb⟩:=cj es h1;have f1:=rO hk h2 hE;have tI:=zw uD hk;obtain⟨zv,z1,z2⟩:=yl (ht et te nw) hz;refine⟨if ok then .tuple #[zv,.bool false]else zv,?_,fun y hy=>?_⟩;rotate_left
    ·rcases Yb with⟨rfl,rfl⟩ | ⟨r,ck,rfl,hb⟩
     ·simp only[Instr.lookup,Sem.run_bind,run_underlying hU,Result.andThen_ok,run_checkKey hK tI,run_findKey hK f1,Sem.run_pure,z1]
     ·simp only[Instr.lookup,Sem.run_bind,run_underlying hU,Result.andThen_ok,MapKept.run_getObj_map (hb y hy),run_checkKey hK tI,run_findKey hK f1,Sem.run_pure,z1]
    ·subst hzm;cases ok
     ·exact z2 G
     ·exact VR.tuple (us:=[zv,.bool false]) rfl (aO.cons (z2 G) (aO.cons (.v rfl) aO.nil)).2
   ·cases hv
  ·cases hv
 ·cases hv
theorem KA (ht:aL P tab) (h:WR G O w) {t:TypeId} {x k:MV} {ok:Bool} {u kv:Value} (hv:gL tab O t x k ok=some m) (hx:VR G x u) (hk:VR G k kv):aeQ P (Instr.lookup t u kv ok) w G m:=by
 obtain⟨r,h1,h2⟩:=xx (P:=P) ht h hv hx hk;exact⟨r,h2 w h.sx,h1⟩
def setAt (es:uB) (i:Nat) (k v:MV):uB:=es.modify i fun e=>(k,v,e.2.2)
def dT (tab:bY) (O:VH) (t:TypeId) (x k y:MV):Option VH:=
 match(tab t).map cy.under,x with
 | some (.map kt _),.map b=>match(tab kt).map cy.under,O.hp b with
   | some kd,some (.map es ck)=>match xw kd k,pC kd k es 0 with
     | true,some (some (i,_))=>some (O.set b (.map (setAt es i k y) ck))
     | true,some none=>some (O.set b (.map (es++[(k,y,ck)]) (ck+1)))
     | _,_=>none
   | _,_=>none
 | _,_=>none
theorem gK.modify {k y:MV} {kv yv:Value} (hk:VR G k kv) (hy:VR G y yv):∀{es:uB} {E:List MapEntry} (i:Nat),gK G es E->gK G (setAt es i k y) (E.modify i fun e=>{e with key:=kv,val:=yv})
 | [],E,i,h=>by rw[h.fF];simpa[setAt]using gK.nil
 | x::es,E,i,h=>by
   obtain⟨z,E',rfl,h1,h2,h3,h4⟩:=h.cD;cases i with
   | zero=>simp only[setAt,List.modify_zero_cons];exact gK.cons h1 hk hy h4
   | succ i=>
     simp only[setAt,List.modify_succ_cons];exact gK.cons h1 h2 h3 (gK.modify hk hy i h4)
theorem uE (ht:aL P tab) (h:WR G O w) {t:TypeId} {x k y:MV} {u kv yv:Value} (hv:dT tab O t x k y=some O') (hx:VR G x u) (hk:VR G k kv) (hy:VR G y yv):Iy P (Instr.mapUpdate t u kv yv) w G O':=by
 unfold dT at hv;split at hv
 ·rename_i kt et b hmt;have hU:=sI ht hmt;split at hv
  ·rename_i kd es ck uC hb;have hK:=sI ht uC;cases hx with
   | map h1=>
     obtain⟨b',E,e1,e2,e3,e4,e5⟩:=h.map _ _ _ hb;rw[h1]at e1;injection e1 with e1;subst e1
     have hE:gK G es E.toList:=⟨e3,e4,e5⟩;split at hv
     ·rename_i i m uD hf;injection hv with hv;subst hv
      obtain⟨v,f1,f2,f3,f4,f5⟩:=rO hk hf hE;have tI:=zw uD hk;simp only[Nat.sub_zero]at f4 f5;have oB:i<E.size:=by simpa using f5
      have pB:Instr.sameBits 10000 (((E[i]?).map (·.key)).getD kv) kv=true:=by
       rw[agv oB];simp only[Array.getElem?_toList,agv oB,agr,Option.some.injEq]at f4;exact f4
      have hr:gK G (setAt es i k y) (E.modify i fun e=>{e with key:=kv,val:=yv}).toList:=by
       have:=gK.modify hk hy i hE
       rwa [<-Array.toList_modify]at this
      refine⟨_,G,?_,Gh.Le.refl G,h.sH (ck':=ck) hb h1 e2 hr⟩;simp only[Instr.mapUpdate,Sem.run_bind,run_underlying hU,Result.andThen_ok,MapKept.run_getObj_map e2,run_checkKey hK tI,run_findKey hK f1];rw[Instr.keyThatStays,if_pos pB];simp only[Sem.run_pure,Result.andThen_ok,run_setObj_map _ e2]
     ·rename_i uD hf;injection hv with hv;subst hv
      have f1:=rO hk hf hE;have tI:=zw uD hk
      have hr:gK G (es++[(k,y,ck)]) (E.push {key:=kv,val:=yv,born:=ck}).toList:=by
       rw[Array.toList_push];exact hE.append (gK.cons rfl hk hy gK.nil)
      refine⟨_,G,?_,Gh.Le.refl G,h.sH (ck':=ck+1) hb h1 e2 hr⟩;simp only[Instr.mapUpdate,Sem.run_bind,run_underlying hU,Result.andThen_ok,MapKept.run_getObj_map e2,run_checkKey hK tI,run_findKey hK f1,run_setObj_map _ e2]
     ·cases hv
  ·cases hv
 ·cases hv
theorem IF (h:WR G O w) {t:TypeId}:gY P (Instr.makeMap t none) w G (O.push (.map [] 0)) (.map O.next):=by
 obtain⟨h1,h2⟩:=h.Ya;exact⟨_,_,_,by simp[Instr.makeMap,newObj,Sem.run],h1,h2,.map (aH _ _ _),jO.alloc h _⟩
end
section
variable {G H:Gh} {n:Sz} {D:List Deferred} {e e':Env} {a:Act} {P:Program} {tab:bY} {O O':VH} {w:World} {m m':MV} {u v:Value}
def fD:List MV->Bool
 | [.v (.pointer none),.sl 0 [] .nil]=>true
 | _=>false
def wG (O:VH) (t:TypeId) (n:Nat) (z:List MV):VH:=bif fD z then(O.push (.cells z)).push (.shape O.next t n)else O.push (.cells z)
theorem WR.DO (h:WR G O w) {k b:Nat} {t:TypeId} {s:Nat} (hp:G.bR k=some b) (hs:w.shape? b=some (t,s)):WR G (O.push (.shape k t s)) w:=by
 have hne:∀{j x},bt O.hp O.next (some (.shape k t s)) j=some x->(∀k t n,x≠ .shape k t n)->O.hp j=some x:=fun{j x} hj hx=>by
  by_cases e:j=O.next
  ·subst e;rw[aH]at hj;injection hj with hj;exact absurd hj.symm (hx _ _ _)
  ·rwa [aw _ _ e]at hj
 have ir:∀j b,G.bR j=some b->bt O.hp O.next (some (.shape k t s)) j≠none->O.hp j≠none:=fun j b hj hn=>by
  rwa [aw _ _ (fun e=>by subst e;rw[h.mn.1]at hj;cases hj)]at hn
 refine⟨h.base,h.ec,fun j hj=>?_,fun j c hj=>?_,fun i j c li lj hi hj=>h.inj i j c (ir i c hi li) (ir j c hj lj) hi hj,fun j cs hj=>h.cells j cs (hne hj (by simp)),fun j es ck hj=>h.map j es ck (hne hj (by simp)),fun t ht=>h.tok t (hne ht (by simp)),fun s t c x y hs ht=>h.kL s t c x y (hne hs (by simp)) (hne ht (by simp)),fun j k' t' n' hj=>?_,fun j x hj=>h.obj j x (hne hj (by simp)),h.pw,fun k p hk=>h.ze k p (hne hk (by simp))⟩
 ·have hj:O.next+1<=j:=hj;obtain⟨h1,h2,h3⟩:=h.oZ j (by omega);exact⟨h1,h2,by show bt _ _ _ _=_;rw[aw _ _ (by omega)];exact h3⟩
 ·obtain⟨p1,p2,p3⟩:=h.jW j c hj;exact⟨p1,p2,fun hn=>p3 (ir j c hj hn)⟩
 ·have hj:bt O.hp O.next (some (.shape k t s)) j=some (.shape k' t' n'):=hj;by_cases e:j=O.next
  ·subst e;rw[aH]at hj;injection hj with hj;injection hj with e1 e2 e3;subst e1;subst e2;subst e3;exact⟨b,hp,hs⟩
  ·rw[aw _ _ e]at hj;exact h.nG j k' t' n' hj
def iQ (tab:bY) (o:Oper) (e:Env) (O:VH):Option (MV×VH):=
 match o.op with
 | .load t x=>(ev e x).bind fun p=>(eZ tab O t p).map (·,O)
 | .store t x y=>match ev e x,ev e y with
   | some p,some q=>(wm tab O t p q).map (.tuple [], ·)
   | _,_=>none
 | .box _ x=>(ev e x).map fun p=>(.ptr O.next 0,O.push (.cells (dJ p)))
 | .alloc t=>(tab t).map fun i=>(.ptr O.next 0,wG O t i.size i.zero)
 | .buildSlice t len parts=>match fP e (parts.toList.map (·.2))with
   | some ms=>(k6 tab t len (gx parts ms)).map (·,O)
   | none=>none
 | .makeSlice t l c=>match ev e l,ev e c with
   | some p,some q=>mr tab O t p q
   | _,_=>none
 | .call c=>match c.callee,c.args.toList,c.argTypes.toList with
   | .builtin .append,[x,y],[t,t']=>if t=t' then match ev e x,ev e y with
     | some p,some q=>iw tab O t p q
     | _,_=>none
     else none
   | .builtin .len,[x],[t]=>(ev e x).bind fun p=>(py tab O t p).map (·,O)
   | _,_,_=>none
 | .makeMap _ none=>some (.map O.next,O.push (.map [] 0))
 | .lookup t x k ok=>match ev e x,ev e k with
   | some p,some q=>(gL tab O t p q ok).map (·,O)
   | _,_=>none
 | .mapUpdate t x k y=>match ev e x,ev e k,ev e y with
   | some p,some q,some r=>(dT tab O t p q r).map (.tuple [], ·)
   | _,_,_=>none
 | .insert t x k y=>match ev e x,ev e k,ev e y with
   | some p,some q,some r=>(dT tab O t p q r).map (.tuple [], ·)
   | _,_,_=>none
 | _=>none
def F7:Op->Bool
 | .store .. | .mapUpdate .. | .insert .. =>false
 | .call c=>match c.callee with
   | .builtin _=>true
   | _=>false
 | _=>true
def dw (P:Program) (o:Oper) (a:Act) (w:World) (G:Gh) (m:MV) (O':VH):Prop:=
 ∃nx w' H u,(execOp a.eval o).run P w= .ok nx w'/\(nx= .value u\/(nx= .skip/\u=undef))/\Gh.Le G H/\WR H O' w'/\VR H m u/\(F7 o.op=true->jO G w w')
theorem dw.of {o:Oper} {s:Sem Value} (hs:gY P s w G O' m) (he:execOp a.eval o=(do pure (.value (<-s)))):dw P o a w G m O':=by
 obtain⟨u,w',H,hr,h1,h2,h3,h4⟩:=hs;exact⟨.value u,w',H,u,by rw[he,Sem.run_bind,hr];rfl,.inl rfl,h1,h2,h3,fun _=>h4⟩
theorem dw.ofU {o:Oper} {s:Sem Unit} (hs:Iy P s w G O') (hA:F7 o.op=false) (he:execOp a.eval o=(do s;pure .skip)):dw P o a w G (.tuple []) O':=by
 obtain⟨w',H,hr,h1,h2⟩:=hs;exact⟨.skip,w',H,undef,by rw[he,Sem.run_bind,hr];rfl,.inr ⟨rfl,rfl⟩,h1,h2,VR.tuple (us:=[]) rfl (fun i c u h=>by simp at h),fun h=>by rw[hA]at h;cases h⟩
theorem T1 (ht:aL P tab) (hw:WR G O w) (h:FR G n D e a) {o:Oper} (hv:iQ tab o e O=some (m,O')):dw P o a w G m O':=by
 unfold iQ at hv;split at hv
 ·rename_i t x ho;obtain⟨p,h1,h2⟩:=Kn.1 hv;obtain⟨q,h3,h4⟩:=Km.1 h2;simp only[Prod.mk.injEq]at h4;obtain⟨rfl,rfl⟩:=h4;exact dw.of (GW ht hw h3 (h.ev h1)) (by simp[execOp,ho])
 ·rename_i t x y ho;split at hv
  ·rename_i p q h1 h2;obtain⟨O2,h3,h4⟩:=Km.1 hv;simp only[Prod.mk.injEq]at h4;obtain⟨rfl,rfl⟩:=h4;exact dw.ofU (OM ht hw h3 (h.ev h1) (h.ev h2)) (by rw[ho];rfl) (by simp[execOp,ho])
  ·cases hv
 ·rename_i t x ho;obtain⟨p,h1,h2⟩:=Km.1 hv;simp only[Prod.mk.injEq]at h2;obtain⟨rfl,rfl⟩:=h2;exact dw.of (XZ (t:=t) hw (h.ev h1)) (by simp[execOp,ho])
 ·rename_i t ho;obtain⟨i,h1,h2⟩:=Km.1 hv;simp only[Prod.mk.injEq]at h2;obtain⟨rfl,rfl⟩:=h2;obtain⟨z,CL,sG,F4⟩:=GU (ht t i h1) w
  have hr:(Instr.alloc t true (.tuple #[])).run P w= .ok (.pointer (some ⟨w.heap.size,0,none⟩)) (w.alloc (.cells z.cells t)):=by
   simp only[Instr.alloc,Sem.run_bind,CL,Result.andThen_ok];simp[newVar,newRow,newObj,Sem.run]
  obtain⟨g1,g2⟩:=hw.push t (F4 G);refine dw.of (s:=Instr.alloc t true (.tuple #[])) ⟨_,_,_,hr,g1,?_,.ptr (aH _ _ _),jO.alloc hw _⟩ (by simp[execOp,ho]);unfold wG;cases fD i.zero with
  | false=>exact g2
  | true=>
    refine g2.DO (aH _ _ _) ?_;have:(w.alloc (.cells z.cells t)).heap[w.heap.size]?=some (.cells z.cells t):=by rw[fh,if_pos rfl]
    simp only[World.shape?,this,sG]
 ·rename_i t len parts ho;split at hv
  ·rename_i ms h1;obtain⟨p,h2,h3⟩:=Km.1 hv;simp only[Prod.mk.injEq]at h3;obtain⟨rfl,rfl⟩:=h3;have Pb:ms.length=parts.toList.length:=by simpa using B7 h1
   refine dw.of (tG ht hw h2 (ps:=parts.map fun(i,x)=>(i,a.eval x)) ?_ ?_) (by simp[execOp,ho])
   ·rw[zip_fst parts ms Pb,DL]
   ·rw[Kx parts ms Pb,DM];exact h.fP h1
  ·cases hv
 ·rename_i t l c ho;split at hv
  ·rename_i p q h1 h2;exact dw.of (DG ht hw hv (h.ev h1) (h.ev h2)) (by simp[execOp,ho])
  ·cases hv
 ·rename_i c ho;split at hv
  ·rename_i x y t t' hc ik Kz;split at hv
   ·rename_i F8;subst F8;split at hv
    ·rename_i p q h1 h2;have ha:c.args= #[x,y]:=by apply acv;exact ik
     have fx:c.argTypes= #[t,t]:=by apply acv;exact Kz
     exact dw.of (Kv (ty:=o.type) ht hw hv (h.ev h1) (h.ev h2)) (by simp[execOp,ho,resolve,hc,ha,fx,invoke,builtin])
    ·cases hv
   ·cases hv
  ·rename_i x t hc ik Kz;obtain⟨p,h1,h2⟩:=Kn.1 hv;obtain⟨q,h3,h4⟩:=Km.1 h2;simp only[Prod.mk.injEq]at h4;obtain⟨rfl,rfl⟩:=h4;have ha:c.args= #[x]:=by apply acv;exact ik
   have fx:c.argTypes= #[t]:=by apply acv;exact Kz
   exact dw.of (Kr (ty:=o.type) ht hw h3 (h.ev h1)) (by simp[execOp,ho,resolve,hc,ha,fx,invoke,builtin])
  ·cases hv
 ·rename_i t ho;simp only[Option.some.injEq,Prod.mk.injEq]at hv;obtain⟨rfl,rfl⟩:=hv;exact dw.of (IF (t:=t) hw) (by simp[execOp,ho])
 ·rename_i t x k ok ho;split at hv
  ·rename_i p q h1 h2;obtain⟨r,h3,h4⟩:=Km.1 hv;simp only[Prod.mk.injEq]at h4;obtain⟨rfl,rfl⟩:=h4;obtain⟨z,g1,g2⟩:=KA (P:=P) ht hw h3 (h.ev h1) (h.ev h2);exact dw.of (gY.of hw g1 g2) (by simp[execOp,ho])
  ·cases hv
 ·rename_i t x k y ho;split at hv
  ·rename_i p q r h1 h2 h3;obtain⟨O2,h4,h5⟩:=Km.1 hv;simp only[Prod.mk.injEq]at h5;obtain⟨rfl,rfl⟩:=h5;exact dw.ofU (uE ht hw h4 (h.ev h1) (h.ev h2) (h.ev h3)) (by rw[ho];rfl) (by simp[execOp,ho])
  ·cases hv
 ·rename_i t x k y ho;split at hv
  ·rename_i p q r h1 h2 h3;obtain⟨O2,h4,h5⟩:=Km.1 hv;simp only[Prod.mk.injEq]at h5;obtain⟨rfl,rfl⟩:=h5;exact dw.ofU (uE ht hw h4 (h.ev h1) (h.ev h2) (h.ev h3)) (by rw[ho];rfl) (by simp[execOp,ho])
  ·cases hv
 ·cases hv
def c8 (tab:bY) (o:Oper) (e:Env) (O:VH):Option (MV×VH):=
 match eG tab o e with
 | some m=>some (m,O)
 | none=>iQ tab o e O
theorem Dj (ht:aL P tab) (hw:WR G O w) (h:FR G n D e a) {o:Oper} (hv:c8 tab o e O=some (m,O')):dw P o a w G m O':=by
 unfold c8 at hv;split at hv
 ·rename_i p hp;simp only[Option.some.injEq,Prod.mk.injEq]at hv;obtain⟨rfl,rfl⟩:=hv;obtain⟨u,hu,hr⟩:=uz (P:=P) ht h hp;exact⟨.value u,w,G,u,hr w hw.ss,.inl rfl,Gh.Le.refl G,hw,hu,fun _=>jO.refl _ _⟩
 ·exact T1 ht hw h hv
inductive VX where
 | normal | exit (id:Nat) | goto (l:Nat) | ret | panic (m:MV)
def XR (G:Gh):VX->Exit->Prop
 | .normal,.normal=>True
 | .exit i,.exit j=>i=j
 | .goto i,.goto j=>i=j
 | .ret,.ret=>True
 | .panic m,.panic c=>∃u,c=[{v:=u,recovered:=false}]/\VR G m u
 | _,_=>False
abbrev VQ:=VX->Env->VH->Prop
def FRX (G:Gh) (n:Sz) (D:List Deferred):VX->Env->Act->Prop
 | .panic _,e,a=>(∀t x,look e t=some x->t<n.lo)/\FR G n D e a
 | _,e,a=>FR G n D e a
def cz (G:Gh) (n:Sz) (D:List Deferred) (Q:VQ):Exit->Act->World->Prop:=fun y a w=>∃x e O H,Gh.Le G H/\WR H O w/\FRX H n D x e a/\XR H x y/\Q x e O
theorem cz.le (h:G.Le H) {Q:VQ} {y:Exit} (hp:cz H n D Q y a w):cz G n D Q y a w:=by
 obtain⟨x,e,O,K,h1,h2⟩:=hp;exact⟨x,e,O,K,h.trans h1,h2⟩
theorem cz.mono {Q Q':VQ} (hQ:∀x e O,Q x e O->Q' x e O) {y:Exit} (hp:cz G n D Q y a w):cz G n D Q' y a w:=by
 obtain⟨x,e,O,K,h1,h2,h3,h4,h5⟩:=hp;exact⟨x,e,O,K,h1,h2,h3,h4,hQ _ _ _ h5⟩
theorem DP:∀t x,look (kM n e) t=some x->t<n.lo:=fun t x hx=>by
 rw[xX]at hx;split at hx
 ·assumption
 ·cases hx
theorem Be:∀t x,look (kM n e) t=some x->look e t=some x:=fun t x hx=>by
 rw[xX]at hx;split at hx
 ·exact hx
 ·cases hx
def iz (P:Program) (n:Sz) (D:List Deferred) (ops:Array Oper) (l:List Nat) (e:Env) (O:VH) (Q:VQ):Prop:=
 ∀G a w,WR G O w->FR G n D e a->wpOps P ops (cz G n D Q) l a w
def VC (P:Program) (n:Sz) (D:List Deferred) (c:Code) (e:Env) (O:VH) (Q:VQ):Prop:=
 ∀G a w,WR G O w->FR G n D e a->c.wp P (cz G n D Q) a w
def aV (d:Option Tmp) (m:MV) (e:Env):Env:=match d with
 | some d=>(d,m)::e
 | none=>e
def bp (n:Sz) (d:Option Tmp):Bool:=match d with
 | some d=>decide (n.lo<=d)&&decide (d<n.n)
 | none=>true
theorem FR.aV (h:FR G n D e a) {d:Option Tmp} (hd:bp n d=true) (hu:VR G m u):FR G n D (aV d m e) (a.put d u):=by
 cases d with
 | none=>exact h
 | some d=>exact FR.put h (by simp[bp]at hd;exact hd.2) hu
def aN (ops:Array Oper) (o:Oper) (e:Env):Option Bool:=
 match o.guard with
 | none=>some true
 | some (j,want)=>match(ops[j]?).bind (·.dst)with
   | some d=>match look e d with
     | some (.v (.bool b))=>some (b==want)
     | some (.tuple [])=>some false
     | _=>none
   | none=>none
theorem bn (h:FR G n D e a) {ops:Array Oper} {o:Oper} {b:Bool} (hv:aN ops o e=some b):Region.wanted o (yielded ops a.tmps)=b:=by
 unfold aN at hv;unfold Region.wanted;split at hv
 ·rename_i hg;injection hv with hv;rw[hg, <-hv]
 ·rename_i j want hg;rw[hg];split at hv
  ·rename_i d hd;split at hv
   ·rename_i b' hl;injection hv with hv;obtain⟨u,h1,h2⟩:=h.get d _ hl;have:=h2.iP;subst this;simp only[yielded,hd,agx,h1];rw[<-hv];cases b'<;>cases want<;>rfl
   ·rename_i hl;injection hv with hv;obtain⟨u,h1,h2⟩:=h.get d _ hl;cases h2 with
    | tuple _ _=>
      simp only[yielded,hd,agx,h1];rw[<-hv];rfl
   ·cases hv
  ·cases hv
def cG:MV:=.tuple []
theorem k7:VR G cG undef:=VR.tuple (us:=[]) rfl fun i c u h=>by simp at h
theorem iz.nil {ops:Array Oper} {Q:VQ} (h:Q .normal e O):iz P n D ops [] e O Q:=fun G a w hw hf=>⟨.normal,e,O,G,Gh.Le.refl G,hw,hf,trivial,h⟩
theorem ma {ops:Array Oper} {Q Q':Exit->Act->World->Prop} (hQ:∀y a w,Q y a w->Q' y a w):∀(l:List Nat) (a:Act) (w:World),wpOps P ops Q l a w->wpOps P ops Q' l a w:=by
 intro l;induction l with
 | nil=>intro a w h;exact hQ _ _ _ h
 | cons i rest ih=>
   intro a w h;rw[wpOps_cons]at h ⊢;have h1:=wpOp_mono (K':=wpOps P ops Q' rest) ih h;unfold wpOp at h1 ⊢;split
   ·rename_i ho;simp only[ho]at h1;exact h1
   ·rename_i o ho;simp only[ho]at h1;split
    ·rename_i rP;simp only[rP,if_true]at h1;refine h1.imp (fun h2=>?_) (fun⟨h2,a',w',h3⟩=>⟨h2,a',w',hQ _ _ _ h3⟩);unfold Oper.wp at h2 ⊢;generalize (execOp a.eval o).run P w=r at*;cases r with
     | ok nx w'=>
       cases nx<;>simp only[Oper.upon]at h2 ⊢ <;>first
        | exact h2
        | (refine Calls.mono h2 fun x F9 he=>?_
           cases x with
           | returned v=>exact he
           | panicked c=>exact hQ _ _ _ he
           | outgrown=>obtain⟨a',w',h3⟩:=he;exact⟨a',w',hQ _ _ _ h3⟩)
     | halt x w'=>cases x<;>simp only[Oper.upon]at h2 ⊢ <;>first | exact h2 | exact hQ _ _ _ h2
    ·rename_i rP;simp only[rP]at h1;exact h1
theorem iz.step (ht:aL P tab) {ops:Array Oper} {i:Nat} {l:List Nat} {o:Oper} {Q:VQ} (ho:ops[i]?=some o) (hg:aN ops o e=some true) (hv:c8 tab o e O=some (m,O')) (hd:bp n o.dst=true)
  (h:iz P n D ops l (aV o.dst m e) O' Q):iz P n D ops (i::l) e O Q:=by
 intro G a w hw hf;obtain⟨nx,w',H,u,hr,xf,h1,h2,h3,_⟩:=Dj (P:=P) ht hw hf hv;simp only[wpOps,ho,bn hf hg,if_true];refine .inl ?_;unfold Oper.wp;rw[hr]
 have hk:wpOps P ops (cz G n D Q) l (a.put o.dst u) w':=by
  exact ma (fun _ _ _=>cz.le h1) l _ _ (h H (a.put o.dst u) w' h2 ((hf.mono h1).aV hd h3))
 rcases xf with rfl | ⟨rfl,rfl⟩
 ·exact hk
 ·exact hk
theorem iz.skip {ops:Array Oper} {i:Nat} {l:List Nat} {o:Oper} {Q:VQ} (ho:ops[i]?=some o) (hg:aN ops o e=some false) (hd:bp n o.dst=true)
  (h:iz P n D ops l (aV o.dst cG e) O Q):iz P n D ops (i::l) e O Q:=by
 intro G a w hw hf;simp only[wpOps,ho,bn hf hg,XN,if_false];exact h G _ w hw (hf.aV hd k7)
inductive fU where
 | ret (m:MV) | panic (m:MV)
def ER (G:Gh):fU->Ending->Prop
 | .ret m,.returned v=>VR G m v
 | .panic m,.panicked c=>∃u,c=[{v:=u,recovered:=false}]/\VR G m u
 | _,_=>False
def VF (P:Program) (f:FuncId) (args:List MV) (O:VH) (R:fU->VH->Prop):Prop:=
 ∀G w vs,WR G O w->aO G args vs->Calls P f vs.toArray w fun x w'=>∃r O' H,Gh.Le G H/\WR H O' w'/\ER H r x/\R r O'
theorem VF.mono {f:FuncId} {args:List MV} {R R':fU->VH->Prop} (hR:∀r O,R r O->R' r O) (h:VF P f args O R):VF P f args O R':=
 fun G w vs hw hv=>(h G w vs hw hv).mono fun _ _ ⟨r,O',H,h1,h2,h3,h4⟩=>⟨r,O',H,h1,h2,h3,hR _ _ h4⟩
def Enters (P:Program) (f:FuncId):Prop:=∀args w,(callFunc f args).run P w= .ok (.enter f args) w
theorem Enters.of {f:FuncId} {fn:Func} (hf:P.funcs[f]?=some fn) (hn:(fn.name== "runtime.NumGoroutine")=false) (hb:fn.body.isNone=false):Enters P f:=by
 intro args w;have Yc:fn.name≠ "runtime.NumGoroutine" :=by simpa using hn
 have mM:fn.body≠none:=by intro h;rw[h]at hb;cases hb
 simp[callFunc,program,Sem.run,hf,Yc,mM]
theorem iz.call {ops:Array Oper} {i:Nat} {l:List Nat} {o:Oper} {Q:VQ} {c:Call} {f:Operand} {id:FuncId} {fs ms cs:List MV} {R:fU->VH->Prop} (ho:ops[i]?=some o) (hg:aN ops o e=some true) (uF:o.op= .call c) (hc:c.callee= .value f)
  (hf:ev e f=some (.func (.func id) fs cs)) (hm:fP e c.args.toList=some ms) (hE:Enters P id) (hd:bp n o.dst=true) (hR:VF P id (fs++ms++cs) O R)
  (h:∀r O',R r O'->match r with
   | .ret m=>iz P n D ops l (aV o.dst m e) O' Q
   | .panic m=>Q (.panic m) (kM n e) O'):iz P n D ops (i::l) e O Q:=by
 intro G a w hw aU;have uG:=aU.ev hf;generalize Bf:a.eval f=fv at uG;cases uG with
 | func h1 h2 h3 h4=>
   rename_i us vs;have ik:=aU.fP hm;have kC:=aO.append (aO.append (show aO G fs us from⟨h1,h2⟩) ik) (show aO G cs vs from⟨h3,h4⟩)
   have cj:(execOp a.eval o).run P w= .ok (.enter id (us++c.args.toList.map a.eval++vs).toArray) w:=by
    have ha:c.args.map a.eval=(c.args.toList.map a.eval).toArray:=by apply acv;simp
    have:us.toArray++c.args.map a.eval++vs.toArray=(us++c.args.toList.map a.eval++vs).toArray:=by apply acv;simp[ha]
    simp only[execOp,uF,resolve,hc,Bf,Deferred.ofValue,Sem.run_bind,Sem.run_pure,Result.andThen_ok,invoke,hE _ w];rw[this]
   simp only[wpOps,ho,bn aU hg,if_true];refine .inl ?_;unfold Oper.wp;rw[cj];show Calls P id _ w _;refine(hR G w _ hw kC).mono ?_;rintro x w' ⟨r,O',H,g1,g2,g3,g4⟩;have hk:=h r O' g4;cases r with
   | ret m=>
     cases x with
     | returned v=>exact ma (fun _ _ _=>cz.le g1) l _ _ (hk H _ w' g2 ((aU.mono g1).aV hd g3))
     | panicked c=>exact g3.elim
     | outgrown=>exact g3.elim
   | panic m=>
     cases x with
     | returned v=>exact g3.elim
     | panicked c=>exact⟨.panic m,kM n e,O',H,g1,g2,⟨DP,(aU.mono g1).less Be⟩,g3,hk⟩
     | outgrown=>exact g3.elim
theorem VC.mono {c:Code} {Q Q':VQ} (hQ:∀x e O,Q x e O->Q' x e O) (h:VC P n D c e O Q):VC P n D c e O Q':=
 fun G a w hw hf=>wp_mono (h G a w hw hf) fun _ _ _=>cz.mono hQ
theorem VC.env {c:Code} {Q:VQ} (h:VC P n D c e' O Q) (hl:∀t x,look e' t=some x->look e t=some x):VC P n D c e O Q:=
 fun G a w hw hf=>h G a w hw (hf.less hl)
theorem VC.skip {Q:VQ} (h:Q .normal e O):VC P n D .skip e O Q:=fun G a w hw hf=>wp_skip ⟨.normal,e,O,G,Gh.Le.refl G,hw,hf,trivial,h⟩
theorem VC.exit {Q:VQ} {id:Nat} (h:Q (.exit id) e O):VC P n D (.exit id) e O Q:=fun G a w hw hf=>wp_exit ⟨.exit id,e,O,G,Gh.Le.refl G,hw,hf,rfl,h⟩
theorem VC.label {Q:VQ} {l:Nat} (h:Q .normal e O):VC P n D (.label l) e O Q:=fun G a w hw hf=>wp_label ⟨.normal,e,O,G,Gh.Le.refl G,hw,hf,trivial,h⟩
def sJ (Q:VQ):VQ:=fun x e O=>match x with
 | .goto _=>False
 | x=>Q x e O
theorem VC.scope {c:Code} {Q:VQ} (h:VC P n D c e O (sJ Q)):VC P n D (.scope c) e O Q:=by
 intro G a w hw hf;refine wp_scope_straight (wp_mono (h G a w hw hf) ?_);rintro y a' w' ⟨x,e',O',H,h1,h2,h3,h4,h5⟩
 cases y<;>cases x<;>first
  | exact False.elim h4
  | exact h5.elim
  | exact⟨_,e',O',H,h1,h2,h3,h4,h5⟩
theorem VC.ret {Q:VQ} (h:Q .ret e O):VC P n D .ret e O Q:=fun G a w hw hf=>wp_ret ⟨.ret,e,O,G,Gh.Le.refl G,hw,hf,trivial,h⟩
theorem VC.seq {c d:Code} {Q:VQ} (h:VC P n D c e O fun x e O=>match x with
  | .normal=>VC P n D d e O Q
  | x=>Q x e O):VC P n D (.seq c d) e O Q:=by
 intro G a w hw hf;refine wp_seq (wp_mono (h G a w hw hf) ?_);rintro y a' w' ⟨x,e',O',H,h1,h2,h3,h4,h5⟩
 cases y<;>cases x<;>first
  | exact False.elim h4
  | exact wp_mono (h5 H a' w' h2 h3) fun _ _ _=>cz.le h1
  | exact⟨_,e',O',H,h1,h2,h3,h4,h5⟩
theorem VC.cond {c:Operand} {x y:Code} {t:Bool} {Q:VQ} (hc:ev e c=some (.v (.bool t))) (h1:t=true->VC P n D x e O Q) (h2:t=false->VC P n D y e O Q):VC P n D (.cond c x y) e O Q:=by
 intro G a w hw hf;have F5:a.eval c= .bool t:=(hf.ev hc).iP;exact wp_cond_split F5 (fun ht=>h1 ht G a w hw hf) (fun ht=>h2 ht G a w hw hf)
theorem VC.block {c:Code} {id:Nat} {Q:VQ} (h:VC P n D c e O fun x e O=>match x with
  | .exit i=>if i=id then Q .normal e O else Q (.exit i) e O
  | x=>Q x e O):VC P n D (.block id c) e O Q:=by
 intro G a w hw hf;refine wp_block (wp_mono (h G a w hw hf) ?_);rintro y a' w' ⟨x,e',O',H,h1,h2,h3,h4,h5⟩;cases y with
 | exit j=>
   cases x with
   | exit i=>
     obtain rfl:i=j:=h4;simp only[Exit.inBlock];simp only at h5;split
     ·rename_i hi;rw[if_pos hi]at h5;exact⟨.normal,e',O',H,h1,h2,h3,trivial,h5⟩
     ·rename_i hi;rw[if_neg hi]at h5;exact⟨.exit i,e',O',H,h1,h2,h3,rfl,h5⟩
   | _=>exact False.elim h4
 | _=>cases x<;>first
   | exact False.elim h4
   | exact⟨_,e',O',H,h1,h2,h3,h4,h5⟩
theorem sK {c:Code} {Q Q':Exit->Act->World->Prop} (hQ:∀y a w,Q y a w->Q' y a w):∀(k:Nat) (a:Act) (w:World),Code.rounds P c Q k a w->Code.rounds P c Q' k a w
 | 0,_,_,h=>h.elim
 | k+1,a,w,h=>by
   rw[rounds_succ]at h ⊢;refine wp_mono h fun y a' w' hy=>?_
   cases y<;>first
    | exact sK hQ k a' w' hy
    | exact hQ _ _ _ hy
theorem ym {c:Code} {Q:Exit->Act->World->Prop}:∀(k j:Nat) (a:Act) (w:World),k<=j->Code.rounds P c Q k a w->Code.rounds P c Q j a w
 | 0,_,_,_,_,h=>h.elim
 | k+1,0,_,_,hj,_=>absurd hj (by omega)
 | k+1,j+1,a,w,hj,h=>by
   rw[rounds_succ]at h ⊢;refine wp_mono h fun y a' w' hy=>?_
   cases y<;>first
    | exact ym k j a' w' (by omega) hy
    | exact hy
theorem VC.loop {c:Code} {Q:VQ} (I:Nat->Env->VH->Prop) {k:Nat} (h0:I k e O) (h:∀k e O,I k e O->VC P n D c e O fun x e' O'=>match x with
  | .normal=>∃j,j<k/\I j e' O'
  | x=>Q x e' O'):VC P n D (.loop c) e O Q:=by
 intro G a w hw hf;refine wp_loop_rounds (k+1) ?_;induction k using Nat.strongRecOn generalizing e O G a w with
 | _ k ih=>
   rw[rounds_succ];refine wp_mono (h k e O h0 G a w hw hf) ?_;rintro y a' w' ⟨x,e',O',H,h1,h2,h3,h4,h5⟩
   cases y<;>cases x<;>first
    | exact False.elim h4
    | exact⟨_,e',O',H,h1,h2,h3,h4,h5⟩
    | (obtain⟨j,hj,hI⟩:=h5
       exact ym (j+1) k a' w' (by omega) (sK (fun _ _ _=>cz.le h1) _ _ _ (ih j hj hI H a' w' h2 h3)))
theorem VC.region {id:Nat} {ops:Array Oper} {Q:VQ} (h:iz P n D ops (List.range ops.size) e O Q):VC P n D (.region id ops false) e O Q:=
 fun G a w hw hf=>wp_region (h G a w hw hf)
def jY (tab:bY) (e:Env) (O:VH):ResultVar->Option MV
 | .tmp t=>look e t
 | .cell x t=>(look e x).bind (eZ tab O t)
def df (tab:bY) (fn:Func) (e:Env) (O:VH):Option MV:=
 match fn.results.toList.mapM (jY tab e O)with
 | some [m]=>some m
 | some l=>some (.tuple l)
 | none=>none
def zx (tmps:Array Value):ResultVar->Sem Value
 | .tmp t=>pure (tmps.getD t undef)
 | .cell x t=>do loadVar t (<-asAddr (tmps.getD x undef))
theorem KB (fn:Func) (tmps:Array Value):results fn tmps=(do let vs<-fn.results.mapM (zx tmps);pure (if h:vs.size=1 then vs[0]else .tuple vs)):=by
 unfold results
 congr 1
theorem B8 (ht:aL P tab) (hw:WR G O w) (hf:FR G n D e a):∀(l:List ResultVar) (ms:List MV),l.mapM (jY tab e O)=some ms->
  ∃us,(l.mapM (zx a.tmps)).run P w= .ok us w/\aO G ms us
 | [],ms,h=>by simp at h;subst h;exact⟨[],rfl,aO.nil⟩
 | r::l,ms,h=>by
   simp only[agt,ags,Kn]at h;obtain⟨m,h1,XV,h2,h3⟩:=h;injection h3 with h3;subst h3
   obtain⟨us,h4,h5⟩:=B8 ht hw hf l XV h2
   have one:∃u,(zx a.tmps r).run P w= .ok u w/\VR G m u:=by
    cases r with
    | tmp t=>exact⟨_,rfl,hf.ev (x:=.tmp t) h1⟩
    | cell x t=>
      obtain⟨p,h6,h7⟩:=Kn.1 h1;have hp:VR G p (a.tmps.getD x undef):=hf.ev (x:=.tmp x) h6;simp only[zx];generalize a.tmps.getD x undef=pv at hp ⊢
      have acz:∃ad,pv= .pointer (some ad):=by
       have hc:∃cs off,cellsOf O p=some (cs,off):=by
        unfold eZ at h7;split at h7
        ·exact⟨_,_, ‹_›⟩
        ·cases h7
       obtain⟨cs,off,hc⟩:=hc;obtain⟨b,o,_,rfl,_⟩:=Kq hw hp hc;exact⟨_,rfl⟩
      obtain⟨ad,rfl⟩:=acz;obtain⟨u,g1,g2⟩:=DC (P:=P) ht hw h7 hp;refine⟨u,?_,g2⟩;simp only[asAddr,Sem.run_bind,Sem.run_pure,Result.andThen_ok];simpa[Instr.loadAt,Instr.sureAddr]using g1
   obtain⟨u,g1,g2⟩:=one;refine⟨u::us,?_,aO.cons g2 h5⟩;rw[agt,Sem.run_bind,g1,Result.andThen_ok,Sem.run_bind,h4];rfl
theorem k8 (ht:aL P tab) (hw:WR G O w) (hf:FR G n D e a) {fn:Func} (h:df tab fn e O=some m):∃u,(results fn a.tmps).run P w= .ok u w/\VR G m u:=by
 have GZ:∀ms,fn.results.toList.mapM (jY tab e O)=some ms->∃us,(fn.results.mapM (zx a.tmps)).run P w= .ok us.toArray w/\aO G ms us:=fun ms hm=>by
  obtain⟨us,h1,h2⟩:=B8 (P:=P) ht hw hf _ ms hm;refine⟨us,?_,h2⟩;rw[alE, <-bind_pure_comp,Sem.run_bind,h1];rfl
 unfold df at h;rw[KB];split at h
 ·rename_i p hp;injection h with h;subst h
  obtain⟨us,h1,h2⟩:=GZ _ hp;obtain⟨u,TT,rfl,h3,h4⟩:=h2.cD;rw[h4.fF]at h1;exact⟨u,by rw[Sem.run_bind,h1];rfl,h3⟩
 ·rename_i l hl hp;injection h with h;subst h
  obtain⟨us,h1,h2⟩:=GZ _ hp
  have hne:us.length≠1:=fun h5=>by
   have:=h2.1;rw[h5]at this
   match l,this with
   | [x],_=>exact hl x rfl
  refine⟨.tuple us.toArray,?_,.tuple h2.1 h2.2⟩;rw[Sem.run_bind,h1,Result.andThen_ok];simp[hne]
 ·cases h
def cx:Nat->List MV->Env
 | _,[]=>[]
 | k,m::l=>(k,m)::cx (k+1) l
theorem iA:∀(l:List MV) (k t:Nat),look (cx k l) t=if k<=t then l[t - k]? else none
 | [],k,t=>by simp[cx,look]
 | m::l,k,t=>by
   simp only[cx,look];by_cases e:t=k
   ·subst e;simp
   ·have:(t==k)=false:=by simpa using e
    rw[this,cond_false,iA l (k+1) t];by_cases h:k<=t
    ·rw[if_pos h,if_pos (by omega)];obtain⟨j,hj⟩:∃j,t - k=j+1:=⟨t - k - 1,by omega⟩
     rw[hj,show t - (k+1)=j from by omega];rfl
    ·rw[if_neg h,if_neg (by omega)]
theorem VF.enter (ht:aL P tab) {f:FuncId} {fn:Func} {c:Code} {args:List MV} {R:fU->VH->Prop} (hf:P.funcs[f]?=some fn) (hb:fn.body=some c) (hn:args.length<=fn.ntmps)
  (h:VC P ⟨fn.ntmps,0⟩ [] c (cx 0 args) O fun x e O'=>match x with
   | .normal=>∃m,df tab fn e O'=some m/\R (.ret m) O'
   | .ret=>∃m,df tab fn e O'=some m/\R (.ret m) O'
   | .panic m=>R (.panic m) O'
   | _=>False):VF P f args O R:=by
 intro G w vs hw hv;refine calls_of_wp hf hb ?_
 have aU:FR G ⟨fn.ntmps,0⟩ [] (cx 0 args) {tmps:=vs.toArray++Array.replicate (fn.ntmps - vs.toArray.size) undef,defers:=[]}:=by
  have hl:=hv.1;refine⟨rfl,by simp;omega,fun t x hx=>?_⟩;rw[iA,if_pos (agw _),Nat.sub_zero]at hx;obtain⟨u,h1,h2⟩:=hv.get hx;refine⟨u,?_,h2⟩;have ew:=(XO.1 h1).1;rw[alD (by simpa using ew)];simpa using h1
 refine wp_mono (h G _ w hw aU) ?_;rintro y a' w' ⟨x,e',O',H,h1,h2,h3,h4,h5⟩;cases y with
 | normal=>
   cases x<;>first
    | exact False.elim h4
    | (obtain⟨m,h6,h7⟩:=h5
       obtain⟨u,h8,h9⟩:=k8 (P:=P) ht h2 h3 h6;exact⟨h3.defers,u,h8,.ret m,O',H,h1,h2,h9,h7⟩)
 | ret=>
   cases x<;>first
    | exact False.elim h4
    | (obtain⟨m,h6,h7⟩:=h5
       obtain⟨u,h8,h9⟩:=k8 (P:=P) ht h2 h3 h6;exact⟨h3.defers,u,h8,.ret m,O',H,h1,h2,h9,h7⟩)
 | panic c=>
   cases x<;>first
    | exact False.elim h4
    | exact⟨h3.2.defers,.panic _,O',H,h1,h2,h4,h5⟩
 | exit i=>cases x<;>first | exact False.elim h4 | exact h5.elim
 | goto i=>cases x<;>first | exact False.elim h4 | exact h5.elim
 | outgrown=>cases x<;>exact False.elim h4
end
section
variable {G H:Gh} {n:Sz} {D:List Deferred} {e e':Env} {a:Act} {P:Program} {tab:bY} {O O':VH} {w:World} {m m':MV} {u v:Value} {ops:Array Oper} {Q:VQ}
def cn (P:Program) (n:Sz) (D:List Deferred) (ops:Array Oper) (fuel:Nat) (listed:Array Bool) (e:Env) (O:VH) (Q:VQ):Prop:=
 ∀G a w,WR G O w->FR G n D e a->wpAnyH P .any ops (cz G n D Q) (SS G) fuel listed a w
theorem VC.draw {id:Nat} (hm:P.follows .mixedOrders=true) (h:cn P n D ops ops.size (Array.replicate ops.size false) e O Q):VC P n D (.region id ops true) e O Q:=
 fun G a w hw hf=>wp_region_held (S:=SS G) hm (h G a _ (hw.drawn _) hf)
theorem g_ {d:Option Tmp} (F_:bp n d=true) {v:Value} (c:List PanicEntry) (a:Act) (w:World) (h:cz G n D Q (.panic c) (a.put d v) w):cz G n D Q (.panic c) a w:=by
 obtain⟨x,e,O,H,h1,h2,h3,h4,h5⟩:=h;cases x with
 | panic m=>
   obtain⟨xe,h3⟩:=h3
   have hd:a.defers=D:=by
    have:=h3.defers;cases d<;>exact this
   have hz:a.tmps.size=n.n:=by
    have:=h3.size;cases d with
    | none=>exact this
    | some d=>simpa[Act.put]using this
   refine⟨.panic m,e,O,H,h1,h2,⟨xe,hd,hz,fun t x hx=>?_⟩,h4,h5⟩;obtain⟨u,g1,g2⟩:=h3.get t x hx;refine⟨u,?_,g2⟩;cases d with
   | none=>exact g1
   | some d=>
     have ht:=xe t x hx;have hY:n.lo<=d:=by simp[bp]at F_;exact F_.1
     have hne:d≠t:=fun e=>Nat.lt_irrefl _ (Nat.lt_of_lt_of_le ht (e▸hY))
     simpa[Act.put,hne]using g1
 | _=>exact False.elim h4
theorem cn.R4 (ht:aL P tab) {fuel i:Nat} {listed:Array Bool} {o:Oper} (ho:ops[i]?=some o) (hs:Region.noSelect ops=true) (hf:Region.free .any ops listed i=true) (hr:(Region.ready .any ops listed).contains i=true)
  (hg:aN ops o e=some true) (hv:eG tab o e=some m) (hd:bp n o.dst=true) (h:cn P n D ops fuel (listed.setIfInBounds i true) (aV o.dst m e) O Q):cn P n D ops (fuel+1) listed e O Q:=by
 intro G a w hw aU;obtain⟨u,hu,cj⟩:=uz (P:=P) ht aU hv;exact wpAnyH_take ho hs hf hr (g_ hd) (.inl ⟨bn aU hg,cj⟩) hw.ss (h G _ w hw (aU.aV hd hu))
theorem cn.Yd {fuel i:Nat} {listed:Array Bool} {o:Oper} (ho:ops[i]?=some o) (hs:Region.noSelect ops=true) (hf:Region.free .any ops listed i=true) (hr:(Region.ready .any ops listed).contains i=true)
  (hg:aN ops o e=some false) (hd:bp n o.dst=true) (h:cn P n D ops fuel (listed.setIfInBounds i true) (aV o.dst cG e) O Q):cn P n D ops (fuel+1) listed e O Q:=by
 intro G a w hw aU;exact wpAnyH_take ho hs hf hr (g_ hd) (.inr ⟨bn aU hg,rfl⟩) hw.ss (h G _ w hw (aU.aV hd k7))
theorem cn.done {fuel:Nat} {listed:Array Bool} (hr:Region.ready .any ops listed=[]) (h:Q .normal e O):cn P n D ops fuel listed e O Q:=
 fun G a w hw aU=>wpAnyH_done hr ⟨.normal,e,O,G,Gh.Le.refl G,hw,aU,trivial,h⟩ fuel
theorem KC {Q Q':Exit->Act->World->Prop} {S S':World->Prop} (hQ:∀y a w,Q y a w->Q' y a w) (hS:∀w,S w->S' w):∀(fuel:Nat) (listed:Array Bool) (a:Act) (w:World),wpAnyH P .any ops Q S fuel listed a w->wpAnyH P .any ops Q' S' fuel listed a w:=by
 intro fuel;induction fuel with
 | zero=>intro listed a w h;exact⟨h.1,hQ _ _ _ h.2⟩
 | succ fuel ih=>
   intro listed a w h;refine⟨fun h0=>hQ _ _ _ (h.1 h0),fun i hi=>?_⟩;have h1:=wpOp_mono (K':=fun a' w'=>S' w'/\wpAnyH P .any ops Q' S' fuel (listed.setIfInBounds i true) a' w') (fun a' w' h'=>⟨hS _ h'.1,ih _ _ _ h'.2⟩) (h.2 i hi);unfold wpOp at h1 ⊢;split
   ·rename_i ho;simp only[ho]at h1;exact h1
   ·rename_i o ho;simp only[ho]at h1;split
    ·rename_i rP;simp only[rP,if_true]at h1;refine h1.imp (fun h2=>?_) (fun⟨h2,a',w',h3⟩=>⟨h2,a',w',hQ _ _ _ h3⟩);unfold Oper.wp at h2 ⊢;generalize (execOp a.eval o).run P w=r at*;cases r with
     | ok nx w'=>
       cases nx<;>simp only[Oper.upon]at h2 ⊢ <;>first
        | exact h2
        | (refine Calls.mono h2 fun x F9 he=>?_
           cases x with
           | returned v=>exact he
           | panicked c=>exact hQ _ _ _ he
           | outgrown=>obtain⟨a',w',h3⟩:=he;exact⟨a',w',hQ _ _ _ h3⟩)
     | halt x w'=>cases x<;>simp only[Oper.upon]at h2 ⊢ <;>first | exact h2 | exact hQ _ _ _ h2
    ·rename_i rP;simp only[rP]at h1;exact h1
theorem SS.le (h:G.Le H) {w:World} (hs:SS H w):SS G w:=fun b o u hc=>hs b o u (h.ec hc)
def aK (P:Program) (n:Sz) (D:List Deferred) (ops:Array Oper) (i:Nat) (e:Env) (O:VH) (Q:VQ) (K:Env->VH->Prop):Prop:=
 ∀G a w,WR G O w->FR G n D e a->wpOp P ops (cz G n D Q) i (fun a' w'=>∃e' O' H,Gh.Le G H/\WR H O' w'/\FR H n D e' a'/\K e' O') a w
theorem aK.op (ht:aL P tab) {i:Nat} {o:Oper} {K:Env->VH->Prop} (ho:ops[i]?=some o) (hg:aN ops o e=some true) (hv:c8 tab o e O=some (m,O')) (hd:bp n o.dst=true) (hk:K (aV o.dst m e) O'):aK P n D ops i e O Q K:=by
 intro G a w hw aU;obtain⟨nx,w',H,u,hr,xf,h1,h2,h3,_⟩:=Dj (P:=P) ht hw aU hv;simp only[wpOp,ho,bn aU hg,if_true];refine .inl ?_;unfold Oper.wp;rw[hr];have:∃e' O' H,Gh.Le G H/\WR H O' w'/\FR H n D e' (a.put o.dst u)/\K e' O':=⟨_,_,H,h1,h2,(aU.mono h1).aV hd h3,hk⟩
 rcases xf with rfl | ⟨rfl,rfl⟩<;>exact this
theorem aK.call {i:Nat} {o:Oper} {c:Call} {f:Operand} {id:FuncId} {fs ms cs:List MV} {R:fU->VH->Prop} {K:Env->VH->Prop} (ho:ops[i]?=some o) (hg:aN ops o e=some true) (uF:o.op= .call c) (hc:c.callee= .value f)
  (hf:ev e f=some (.func (.func id) fs cs)) (hm:fP e c.args.toList=some ms) (hE:Enters P id) (hd:bp n o.dst=true) (hR:VF P id (fs++ms++cs) O R)
  (h:∀r O',R r O'->match r with
   | .ret m=>K (aV o.dst m e) O'
   | .panic m=>Q (.panic m) (kM n e) O'):aK P n D ops i e O Q K:=by
 intro G a w hw aU;have uG:=aU.ev hf;generalize Bf:a.eval f=fv at uG;cases uG with
 | func h1 h2 h3 h4=>
   rename_i us vs;have ik:=aU.fP hm;have kC:=aO.append (aO.append (show aO G fs us from⟨h1,h2⟩) ik) (show aO G cs vs from⟨h3,h4⟩)
   have cj:(execOp a.eval o).run P w= .ok (.enter id (us++c.args.toList.map a.eval++vs).toArray) w:=by
    have ha:c.args.map a.eval=(c.args.toList.map a.eval).toArray:=by apply acv;simp
    have:us.toArray++c.args.map a.eval++vs.toArray=(us++c.args.toList.map a.eval++vs).toArray:=by apply acv;simp[ha]
    simp only[execOp,uF,resolve,hc,Bf,Deferred.ofValue,Sem.run_bind,Sem.run_pure,Result.andThen_ok,invoke,hE _ w];rw[this]
   simp only[wpOp,ho,bn aU hg,if_true];refine .inl ?_;unfold Oper.wp;rw[cj];show Calls P id _ w _;refine(hR G w _ hw kC).mono ?_;rintro x w' ⟨r,O',H,g1,g2,g3,g4⟩;have hk:=h r O' g4;cases r with
   | ret m=>
     cases x with
     | returned v=>exact⟨_,_,H,g1,g2,(aU.mono g1).aV hd g3,hk⟩
     | panicked c=>exact g3.elim
     | outgrown=>exact g3.elim
   | panic m=>
     cases x with
     | returned v=>exact g3.elim
     | panicked c=>exact⟨.panic m,kM n e,O',H,g1,g2,⟨DP,(aU.mono g1).less Be⟩,g3,hk⟩
     | outgrown=>exact g3.elim
theorem iz.one {i:Nat} {l:List Nat} (h:aK P n D ops i e O Q fun e' O'=>iz P n D ops l e' O' Q):iz P n D ops (i::l) e O Q:=by
 intro G a w hw aU;rw[wpOps_cons];exact wpOp_mono (fun a' w' ⟨e',O',H,h1,h2,h3,h4⟩=>ma (fun _ _ _=>cz.le h1) l _ _ (h4 H a' w' h2 h3)) (h G a w hw aU)
theorem cn.all {fuel:Nat} {listed:Array Bool} {rs:List Nat} (hr:Region.ready .any ops listed=rs) (hne:rs≠[])
  (h:∀i∈rs,aK P n D ops i e O Q fun e' O'=>cn P n D ops fuel (listed.setIfInBounds i true) e' O' Q):cn P n D ops (fuel+1) listed e O Q:=by
 intro G a w hw aU;refine wpAnyH_all hr hne fun i hi=>?_
 exact wpOp_mono (fun a' w' ⟨e',O',H,h1,h2,h3,h4⟩=>⟨SS.le h1 h2.ss,KC (fun _ _ _=>cz.le h1) (fun _=>SS.le h1) fuel _ _ _ (h4 H a' w' h2 h3)⟩) (h i hi G a w hw aU)
def je (P:Program) (md:Region.Mode) (ops:Array Oper) (Q:Exit->Act->World->Prop) (T:Nat->World->Prop):Nat->Array Bool->Act->World->Prop
 | 0,listed,a,w=>Region.ready md ops listed=[]/\Q .normal a w
 | fuel+1,listed,a,w=>
   (Region.ready md ops listed=[]->Q .normal a w)/\
   ∀i∈Region.ready md ops listed,wpOp P ops Q i (fun a' w'=>T i w'/\je P md ops Q T fuel (listed.setIfInBounds i true) a' w') a w
section
variable {md:Region.Mode} {Q:Exit->Act->World->Prop} {T:Nat->World->Prop}
theorem jF:∀(fuel:Nat) (listed:Array Bool) (a:Act) (w:World),je P md ops Q T fuel listed a w->wpAny P md ops Q fuel listed a w
 | 0,_,_,_,h=>h
 | fuel+1,_,_,_,h=>⟨h.1,fun i hi=>wpOp_mono (fun a' w' h'=>jF fuel _ a' w' h'.2) (h.2 i hi)⟩
theorem nU {S:World->Prop} {W:Nat->Prop} {brk:Nat->Bool} {i:Nat} {oi:Oper} {v:Value} (hi:ops[i]?=some oi) (DQ:∀(j:Nat) (o:Oper) cs b,ops[j]?=some o->o.op≠ .select cs b)
  (hQ:∀c a w,Q (.panic c) (a.put oi.dst v) w->Q (.panic c) a w) (hT:∀j x,brk j=false->T j x->S x) (hTi:∀x,S x->T i x):
  ∀(fuel:Nat) (listed:Array Bool) (a:Act) (w:World),
   (∀j oj,ops[j]?=some oj->j≠i->listed.getD j true=false->(∀e∈oj.after,Region.binds md e=true->e.on≠i)->oi.apart ops oj=true)->
   (∀j oj,ops[j]?=some oj->W j->∃e∈oj.after,Region.binds md e=true/\(e.on=i\/W e.on))->(∀j,W j->listed.getD j true=false)->(∀j,j≠i->listed.getD j true=false->brk j=true->W j)->
   i∈Region.ready md ops listed->YieldsIf P ops S oi v a->S w->
   je P md ops Q T fuel (listed.setIfInBounds i true) (a.put oi.dst v) w->je P md ops Q T (fuel+1) listed a w:=by
 intro fuel;induction fuel with
 | zero=>
   intro listed a w _ _ _ _ hr hy hS H;refine⟨fun h=>(by rw[h]at hr;cases hr),fun j hj=>?_⟩;by_cases IG:j=i
   ·subst IG;exact hy.wpOp hi hS ⟨hTi _ hS,H⟩
   ·have:=ready_mono hj IG;rw[H.1]at this;cases this
 | succ fuel ih=>
   intro listed a w Ye hW hWu aeR hr hy hS H;refine⟨fun h=>(by rw[h]at hr;cases hr),fun j hj=>?_⟩;by_cases IG:j=i
   ·subst IG;exact hy.wpOp hi hS ⟨hTi _ hS,H⟩
   ·have h1:=H.2 j (ready_mono hj IG);obtain⟨Yf,oj,hoj,kC⟩:=mem_ready.1 hj
    have aeS:∀e∈oj.after,Region.binds md e=true->e.on≠i:=fun e he hb heq=>by
     have h1:=kC e he hb;have h0:=(mem_ready.1 hr).1;rw[heq]at h1;rcases ah7 i listed.size with h' | h'
     ·simp[h']at h0 h1;rw[h0]at h1;cases h1
     ·simp[ahY h']at h1
    have hnW:¬W j:=fun hw=>by
     obtain⟨e,he,cA,ct⟩:=hW j oj hoj hw;rcases ct with ct | ct
     ·exact absurd ct (aeS e he cA)
     ·have h1:=kC e he cA;have h0:=hWu _ ct;rcases ah7 e.on listed.size with h' | h'
      ·simp[h']at h0 h1;rw[h0]at h1;cases h1
      ·simp[ahY h']at h1
    have XU:brk j=false:=by
     cases hb:brk j with
     | false=>rfl
     | true=>exact absurd (aeR j IG Yf hb) hnW
    have h2:=wpOp_putIf hoj (Ye j oj hoj IG Yf aeS) (fun cs b=>DQ i oi cs b hi) (fun cs b=>DQ j oj cs b hoj) hQ hy h1
    have G3:∀k,(listed.setIfInBounds j true).getD k true=false->listed.getD k true=false:=fun k eW=>by
     by_cases Yg:j=k
     ·subst Yg;exact Yf
     ·rw[getD_set_ne true Yg]at eW;exact eW
    refine wpOp_mono (fun a' w' h3=>⟨h3.2.1,ih (listed.setIfInBounds j true) a' w' (fun k ok hk hki eW fG=>Ye k ok hk hki (G3 k eW) fG) hW (fun k hk=>by
     by_cases Yg:j=k
     ·subst Yg;exact absurd hk hnW
     ·rw[getD_set_ne true Yg];exact hWu k hk) (fun k hki eW hb=>aeR k hki (G3 k eW) hb) (ready_mono hr (Ne.symm IG)) h3.1 (hT j _ XU h3.2.1) ?_⟩) h2
    rw[Array.setIfInBounds_comm _ _ IG];exact h3.2.2
theorem jG {rs:List Nat} {fuel:Nat} {listed:Array Bool} {a:Act} {w:World} (hr:Region.ready md ops listed=rs) (hne:rs≠[])
  (h:∀i∈rs,wpOp P ops Q i (fun a' w'=>T i w'/\je P md ops Q T fuel (listed.setIfInBounds i true) a' w') a w):je P md ops Q T (fuel+1) listed a w:=
 ⟨fun h0=>absurd (hr▸h0) hne,hr▸h⟩
theorem IH {listed:Array Bool} {a:Act} {w:World} (hr:Region.ready md ops listed=[]) (h:Q .normal a w):∀fuel,je P md ops Q T fuel listed a w
 | 0=>⟨hr,h⟩
 | _+1=>⟨fun _=>h,by rw[hr];simp⟩
theorem T6 {Q Q':Exit->Act->World->Prop} (hQ:∀y a w,Q y a w->Q' y a w) {i:Nat} {K:Act->World->Prop} {a:Act} {w:World} (h1:wpOp P ops Q i K a w):wpOp P ops Q' i K a w:=by
 unfold wpOp at h1 ⊢;split
 ·rename_i ho;simp only[ho]at h1;exact h1
 ·rename_i o ho;simp only[ho]at h1;split
  ·rename_i rP;simp only[rP,if_true]at h1;refine h1.imp (fun h2=>?_) (fun⟨h2,a',w',h3⟩=>⟨h2,a',w',hQ _ _ _ h3⟩);unfold Oper.wp at h2 ⊢;generalize (execOp a.eval o).run P w=r at*;cases r with
   | ok nx w'=>
     cases nx<;>simp only[Oper.upon]at h2 ⊢ <;>first
      | exact h2
      | (refine Calls.mono h2 fun x F9 he=>?_
         cases x with
         | returned v=>exact he
         | panicked c=>exact hQ _ _ _ he
         | outgrown=>obtain⟨a',w',h3⟩:=he;exact⟨a',w',hQ _ _ _ h3⟩)
   | halt x w'=>cases x<;>simp only[Oper.upon]at h2 ⊢ <;>first | exact h2 | exact hQ _ _ _ h2
  ·rename_i rP;simp only[rP]at h1;exact h1
theorem jH {Q Q':Exit->Act->World->Prop} {T T':Nat->World->Prop} (hQ:∀y a w,Q y a w->Q' y a w):∀(fuel:Nat) (listed:Array Bool) (a:Act) (w:World),(∀j,listed.getD j true=false->∀x,T j x->T' j x)->
  je P .any ops Q T fuel listed a w->je P .any ops Q' T' fuel listed a w:=by
 intro fuel;induction fuel with
 | zero=>intro listed a w _ h;exact⟨h.1,hQ _ _ _ h.2⟩
 | succ fuel ih=>
   intro listed a w hT h;refine⟨fun h0=>hQ _ _ _ (h.1 h0),fun i hi=>?_⟩;have eW:=(mem_ready.1 hi).1
   exact T6 hQ (wpOp_mono (fun a' w' h'=>⟨hT i eW _ h'.1,ih _ _ _ (fun j hj x=>hT j (by
    by_cases Ga:i=j
    ·subst Ga;exact eW
    ·rw[getD_set_ne true Ga]at hj;exact hj) x) h'.2⟩) (h.2 i hi))
end
def TH (brk:List Nat) (G:Gh) (w:World) (j:Nat) (x:World):Prop:=brk.contains j=false->Sx G w x
def bL (P:Program) (n:Sz) (D:List Deferred) (ops:Array Oper) (brk:List Nat) (fuel:Nat) (listed:Array Bool) (e:Env) (O:VH) (Q:VQ):Prop:=
 ∀G a w,WR G O w->FR G n D e a->je P .any ops (cz G n D Q) (TH brk G w) fuel listed a w
theorem VC.II {id:Nat} (brk:List Nat) (hm:P.follows .mixedOrders=true) (h:bL P n D ops brk ops.size (Array.replicate ops.size false) e O Q):VC P n D (.region id ops true) e O Q:=
 fun G a w hw hf=>wp_region_any hm (jF _ _ _ _ (h G a _ (hw.drawn _) hf))
theorem bL.done {brk:List Nat} {fuel:Nat} {listed:Array Bool} (hr:Region.ready .any ops listed=[]) (h:Q .normal e O):bL P n D ops brk fuel listed e O Q:=
 fun G a w hw aU=>IH hr ⟨.normal,e,O,G,Gh.Le.refl G,hw,aU,trivial,h⟩ fuel
def kD (ops:Array Oper) (listed:Array Bool) (i:Nat):Nat->List Nat
 | 0=>[]
 | k+1=>(List.range ops.size).filter fun j=> !listed.getD j true&&((ops[j]?).map fun o=>o.after.any fun e=>Region.binds .any e&&(e.on==i||(kD ops listed i k).contains e.on)).getD false
def nI (ops:Array Oper) (brk:List Nat) (listed:Array Bool) (i:Nat):Bool:=
 brk.all fun j=>listed.getD j true||j==i||(kD ops listed i ops.size).contains j
theorem B9 {listed:Array Bool} {i:Nat} (j:Nat) (oj:Oper) (hj:ops[j]?=some oj) (h:∃k,j∈kD ops listed i k):∃e∈oj.after,Region.binds .any e=true/\(e.on=i\/∃k,e.on∈kD ops listed i k):=by
 obtain⟨k,hk⟩:=h;cases k with
 | zero=>cases hk
 | succ k=>
   simp only[kD,List.mem_filter,hj,agr,Option.getD_some,RZ]at hk;obtain⟨e,he,h2⟩:=Array.any_eq_true'.1 hk.2.2;simp only[RZ,alK,beq_iff_eq]at h2;refine⟨e,he,h2.1,?_⟩;rcases h2.2 with h3 | h3
   ·exact .inl h3
   ·exact .inr ⟨k,by simpa using h3⟩
theorem G4 {listed:Array Bool} {i:Nat} (j:Nat) (h:∃k,j∈kD ops listed i k):listed.getD j true=false:=by
 obtain⟨k,hk⟩:=h;cases k with
 | zero=>cases hk
 | succ k=>
   simp only[kD,List.mem_filter,RZ,Bool.not_eq_true']at hk;exact hk.2.1
theorem G5 {brk:List Nat} {listed:Array Bool} {i:Nat} (h:nI ops brk listed i=true):∀j,j≠i->listed.getD j true=false->brk.contains j=true->∃k,j∈kD ops listed i k:=by
 intro j hne eW hb;have:=alH.1 h j (by simpa using hb);simp only[eW,Bool.false_or,alK,beq_iff_eq,hne,false_or]at this;exact⟨_,by simpa using this⟩
theorem bL.take {brk:List Nat} {fuel i:Nat} {listed:Array Bool} {o:Oper} (ho:ops[i]?=some o) (hs:Region.noSelect ops=true) (hf:Region.free .any ops listed i=true) (hr:(Region.ready .any ops listed).contains i=true) (hb:nI ops brk listed i=true)
  (hd:bp n o.dst=true) (hy:∀G a w,WR G O w->FR G n D e a->∃u,VR G m u/\YieldsIf P ops (Sx G w) o u a) (h:bL P n D ops brk fuel (listed.setIfInBounds i true) (aV o.dst m e) O Q):bL P n D ops brk (fuel+1) listed e O Q:=by
 intro G a w hw aU;obtain⟨u,hu,hyi⟩:=hy G a w hw aU;refine nU (S:=Sx G w) (W:=fun j=>∃k,j∈kD ops listed i k) (brk:=fun j=>brk.contains j) ho (Region.noSelect_spec hs) (g_ hd) (fun j x hj hT=>hT hj) (fun x hx _=>hx) fuel listed a w (Region.free_spec ho hf) B9 G4 (G5 hb) (by simpa using hr) hyi hw.sx (h G _ w hw (aU.aV hd hu))
theorem bL.one (ht:aL P tab) {brk:List Nat} {fuel i:Nat} {listed:Array Bool} {o:Oper} (ho:ops[i]?=some o) (hr:Region.ready .any ops listed=[i]) (hb:(brk.contains i=false/\F7 o.op=true)\/∀j,(listed.setIfInBounds i true).getD j true=false\/j=i->brk.contains j=true)
  (hg:aN ops o e=some true) (hv:c8 tab o e O=some (m,O')) (hd:bp n o.dst=true) (h:bL P n D ops brk fuel (listed.setIfInBounds i true) (aV o.dst m e) O' Q):bL P n D ops brk (fuel+1) listed e O Q:=by
 intro G a w hw aU;refine jG hr (by simp) fun j hj=>?_
 obtain rfl:j=i:=by simpa using hj
 obtain⟨nx,w',H,u,cj,xf,h1,h2,h3,h4⟩:=Dj (P:=P) ht hw aU hv;simp only[wpOp,ho,bn aU hg,if_true];refine .inl ?_;unfold Oper.wp;rw[cj];have hk:=h H (a.put o.dst u) w' h2 ((aU.mono h1).aV hd h3)
 have Yh:TH brk G w j w'/\je P .any ops (cz G n D Q) (TH brk G w) fuel (listed.setIfInBounds j true) (a.put o.dst u) w':=by
  rcases hb with⟨cA,ct⟩ | hb
  ·have pD:=h4 ct;have hs:Sx G w w':=⟨SS.le h1 h2.ss,pD⟩;refine⟨fun _=>hs,jH (fun _ _ _=>cz.le h1) _ _ _ _ (fun k _ x hT DK=>?_) hk⟩;obtain⟨g1,g2⟩:=hT DK;exact⟨SS.le h1 g1,fun k' b mM=>(g2 k' b (h1.bR mM)).trans (pD k' b mM)⟩
  ·refine⟨fun hh=>?_,jH (fun _ _ _=>cz.le h1) _ _ _ _ (fun k DK x _ hh=>?_) hk⟩
   ·rw[hb j (.inr rfl)]at hh;cases hh
   ·rw[hb k (.inl DK)]at hh;cases hh
 rcases xf with rfl | ⟨rfl,rfl⟩<;>exact Yh
theorem bL.agy {brk:List Nat} {fuel i:Nat} {listed:Array Bool} {o:Oper} (ho:ops[i]?=some o) (hr:Region.ready .any ops listed=[i]) (hb:(brk.contains i=false/\F7 o.op=true)\/∀j,(listed.setIfInBounds i true).getD j true=false\/j=i->brk.contains j=true)
  (hg:aN ops o e=some false) (hd:bp n o.dst=true) (h:bL P n D ops brk fuel (listed.setIfInBounds i true) (aV o.dst cG e) O Q):bL P n D ops brk (fuel+1) listed e O Q:=by
 intro G a w hw aU;refine jG hr (by simp) fun j hj=>?_
 obtain rfl:j=i:=by simpa using hj
 simp only[wpOp,ho,bn aU hg,XN,if_false];exact⟨fun _=>hw.sx,h G _ w hw (aU.aV hd k7)⟩
theorem bL.Yi {brk:List Nat} {fuel i:Nat} {listed:Array Bool} (hr:Region.ready .any ops listed=[i]) (hb:∀j,(listed.setIfInBounds i true).getD j true=false\/j=i->brk.contains j=true)
  (h:aK P n D ops i e O Q fun e' O'=>bL P n D ops brk fuel (listed.setIfInBounds i true) e' O' Q):bL P n D ops brk (fuel+1) listed e O Q:=by
 intro G a w hw aU;refine jG hr (by simp) fun j hj=>?_
 obtain rfl:j=i:=by simpa using hj
 refine wpOp_mono (fun a' w' ⟨e',O',H,h1,h2,h3,h4⟩=>⟨fun hh=>?_,jH (fun _ _ _=>cz.le h1) _ _ _ _ (fun k DK x _ hh=>?_) (h4 H a' w' h2 h3)⟩) (h G a w hw aU)
 ·rw[hb j (.inr rfl)]at hh;cases hh
 ·rw[hb k (.inl DK)]at hh;cases hh
end
def IJ (d:TypeDesc) (z:Value):Bool:=match eL d,z with
 | true,.agg _=>true
 | true,_=>false
 | false,.agg _=>false
 | false,_=>true
theorem Pd {d:TypeDesc} {z:Value} (h:IJ d z=true):(eL d=true->∃cs,z= .agg cs)/\(eL d=false->z.cells= #[z]):=by
 refine⟨fun ha=>?_,fun ha=>?_⟩<;>unfold IJ at h<;>rw[ha]at h<;>cases z<;>first | exact⟨_,rfl⟩ | rfl | cases h
def eh (P:Program) (t:TypeId):Option cy:=
 match P.underlying t,P.info? t with
 | some d,some i=>match i.zero with
   | some z=>match z.cells.toList.mapM ofConst with
     | some zs=>if z.cells.size=i.size/\IJ d z=true then some ⟨d,i.size,i.bytes,zs⟩else none
     | none=>none
   | none=>none
 | _,_=>none
theorem DR {G:Gh}:∀{us:List Value} {ms:List MV},us.mapM ofConst=some ms->aO G ms us
 | [],ms,h=>by simp at h;subst h;exact aO.nil
 | u::us,ms,h=>by
   simp only[agt,ags,Kn]at h;obtain⟨m,h1,XV,h2,h3⟩:=h;injection h3 with h3;subst h3
   exact aO.cons (B4 h1) (DR h2)
theorem Yj (P:Program):aL P (eh P):=by
 intro t i h;unfold eh at h;split at h
 ·rename_i d ti hd hi;split at h
  ·rename_i z hz;split at h
   ·rename_i zs hzs;split at h
    ·rename_i oB;injection h with h;subst h
     exact⟨hd,⟨ti,z,hi,rfl,rfl,hz,oB.1,fun G=>DR hzs⟩,fun ti' z' h1 h2=>by
      rw[hi]at h1;injection h1 with h1;subst h1
      rw[hz]at h2;injection h2 with h2;subst h2
      exact Pd oB.2⟩
    ·cases h
   ·cases h
  ·cases h
 ·cases h
section
variable {G H:Gh} {n:Sz} {D:List Deferred} {e e':Env} {a:Act} {P:Program} {tab:bY} {O O':VH} {w:World} {m m':MV} {u v:Value} {ops:Array Oper} {Q:VQ}
variable {d:Option Tmp} {t t' ty:TypeId} {p:String} {af:Array Edge} {g:Option (Nat×Bool)} {x y z:Operand}
theorem R5 (k:Nat):ev e (.tmp k)=look e k:=rfl
theorem R6 (k:IntKind) (i:Int):ev e (.const (.int k i))=some (.v (.int k i)):=rfl
theorem KD (b:Bool):ev e (.const (.bool b))=some (.v (.bool b)):=rfl
theorem R7 (s:ByteArray):ev e (.const (.string s))=some (.str s.data.toList):=rfl
theorem G6:ev e (.const (.slice none 0 0))=some (.sl 0 [] .nil):=rfl
theorem DT:ev e (.const (.pointer none))=some (.v (.pointer none)):=rfl
theorem DU:ev e (.const (.map none))=some (.v (.map none)):=rfl
theorem zy:ev e (.const .nilIface)=some (.v .nilIface):=rfl
theorem B_:ev e (.const .nilFunc)=some (.v .nilFunc):=rfl
theorem KE (f:FuncId):ev e (.func f)=some (.func (.func f) [] []):=rfl
theorem mc (k j:Nat) (m:MV) (r:Env):look ((k,m)::r) j=bif j==k then some m else look r j:=rfl
theorem KF:fP e []=some []:=rfl
theorem G7 (x:Operand) (l:List Operand):fP e (x::l)=(ev e x).bind fun m=>(fP e l).map (m:: ·):=by
 simp only[fP,agt,ags];cases ev e x with
 | none=>rfl
 | some m=>cases List.mapM (ev e) l<;>rfl
private theorem av {o:Oper} {r:Option MV} (h:eG tab o e=r) (hl:iQ tab o e O=none):c8 tab o e O=r.map (·,O):=by
 unfold c8;rw[h];cases r<;>simp[hl]
theorem G8:c8 tab (.mk d (.move x) ty p af g) e O=(ev e x).map (·,O):=av rfl rfl
theorem Ca:c8 tab (.mk d (.assign x) ty p af g) e O=(ev e x).map (·,O):=av rfl rfl
theorem xy:c8 tab (.mk d (.nilCheck x) ty p af g) e O=((ev e x).bind Kw).map (·,O):=av rfl rfl
theorem DV {op:BinOp}:c8 tab (.mk d (.binOp op t x y t') ty p af g) e O=((ev e x).bind fun q=>(ev e y).bind fun r=>c5 tab op t q r).map (·,O):=by
 refine av ?_ rfl;simp only[eG];cases ev e x<;>first | rfl | (cases ev e y<;>rfl)
theorem G9 {op:UnOp}:c8 tab (.mk d (.unOp op t x) ty p af g) e O=((ev e x).bind (wC op)).map (·,O):=av rfl rfl
theorem zA:c8 tab (.mk d (.convert t t' x) ty p af g) e O=((ev e x).bind (Bd tab t t')).map (·,O):=av rfl rfl
theorem uH {f:Nat}:c8 tab (.mk d (.fieldAddr t x f) ty p af g) e O=((ev e x).bind (jE tab t f)).map (·,O):=av rfl rfl
theorem DW {f:Nat}:c8 tab (.mk d (.field t x f) ty p af g) e O=((ev e x).bind (wq tab t · f)).map (·,O):=av rfl rfl
theorem uI:c8 tab (.mk d (.indexAddr t x y) ty p af g) e O=((ev e x).bind fun q=>(ev e y).bind fun r=>mq tab t q r).map (·,O):=by
 refine av ?_ rfl;simp only[eG];cases ev e x<;>first | rfl | (cases ev e y<;>rfl)
theorem DY:c8 tab (.mk d (.index t x y) ty p af g) e O=((ev e x).bind fun q=>(ev e y).bind fun r=>wv tab t q r).map (·,O):=by
 refine av ?_ rfl;simp only[eG];cases ev e x<;>first | rfl | (cases ev e y<;>rfl)
theorem zB {i:Nat}:c8 tab (.mk d (.extract x i) ty p af g) e O=((ev e x).bind (rM · i)).map (·,O):=av rfl rfl
theorem DZ {ps:Array (Nat×Operand)}:c8 tab (.mk d (.build t ps) ty p af g) e O=((fP e (ps.toList.map (·.2))).bind fun ms=>wB tab t (gx ps ms)).map (·,O):=by
 refine av ?_ rfl;simp only[eG];cases fP e (ps.toList.map (·.2))<;>rfl
theorem xz {fn:Fn} {fs cs:Array Operand}:c8 tab (.mk d (.makeFunc fn fs cs) ty p af g) e O=((fP e fs.toList).bind fun q=>(fP e cs.toList).map fun r=>.func fn q r).map (·,O):=by
 refine av ?_ rfl;simp only[eG];cases fP e fs.toList<;>first | rfl | (cases fP e cs.toList<;>rfl)
theorem D0 {lo hi:Option Operand}:c8 tab (.mk d (.slice t x lo hi none) ty p af g) e O=((ev e x).bind fun q=>(eG.CM e lo).bind fun l=>(eG.CM e hi).bind fun h=>wD tab t q l h).map (·,O):=by
 refine av ?_ rfl;simp only[eG];cases ev e x<;>first | rfl | (cases eG.CM e lo<;>first | rfl | (cases eG.CM e hi<;>rfl))
theorem KG {lo:Option Operand} {hi mx:Operand}:c8 tab (.mk d (.slice t x lo (some hi) (some mx)) ty p af g) e O=((ev e x).bind fun q=>(eG.CM e lo).bind fun l=>(ev e hi).bind fun h=>(ev e mx).bind (rN tab t q l h)).map (·,O):=by
 refine av ?_ rfl;simp only[eG,show eG.CM e (some hi)=(ev e hi).map some from rfl];generalize eG.CM e lo=z;cases ev e x<;>cases z<;>cases ev e hi<;>rfl
theorem G_:eG.CM e none=some none:=rfl
theorem Ha:eG.CM e (some x)=(ev e x).map some:=rfl
theorem KH:c8 tab (.mk d (.call {callee:=.builtin .len,args:= #[x],argTypes:= #[t]}) ty p af g) e O=(ev e x).bind fun q=>match gZ tab t q with
  | some r=>some (r,O)
  | none=>(py tab O t q).map (·,O):=by
 simp only[c8,eG,iQ];cases ev e x with
 | none=>rfl
 | some q=>
   simp only[agx]<;>cases gZ tab t q<;>rfl
theorem KI {ts:Array TypeId}:c8 tab (.mk d (.call {callee:=.builtin .max,args:= #[x,y],argTypes:=ts}) ty p af g) e O=((ev e x).bind fun q=>(ev e y).bind fun r=>Ba q r).map (·,O):=by
 refine av ?_ rfl;simp only[eG];cases ev e x<;>first | rfl | (cases ev e y<;>rfl)
theorem KJ {ts:Array TypeId}:c8 tab (.mk d (.call {callee:=.builtin .min,args:= #[x,y],argTypes:=ts}) ty p af g) e O=((ev e x).bind fun q=>(ev e y).bind fun r=>Bb q r).map (·,O):=by
 refine av ?_ rfl;simp only[eG];cases ev e x<;>first | rfl | (cases ev e y<;>rfl)
theorem Pe {ts:Array TypeId}:c8 tab (.mk d (.call {callee:=.builtin .unsafeSliceData,args:= #[x],argTypes:=ts}) ty p af g) e O=((ev e x).bind wE).map (·,O):=av rfl (by simp only[iQ]<;>rfl)
theorem cX:c8 tab (.mk d (.call {callee:=.builtin .append,args:= #[x,y],argTypes:= #[t,t]}) ty p af g) e O=(ev e x).bind fun q=>(ev e y).bind fun r=>iw tab O t q r:=by
 simp only[c8,eG,iQ,if_true];cases ev e x<;>first | rfl | (cases ev e y<;>rfl)
theorem KK {cs:List MV} {off:Nat}:eZ tab O t (.db cs off)=eZ tab O' t (.db cs off):=rfl
theorem Hb:c8 tab (.mk d (.load t x) ty p af g) e O=(ev e x).bind fun q=>(eZ tab O t q).map (·,O):=by
 simp only[c8,eG,iQ];cases ev e x with
 | none=>rfl
 | some q=>
   cases q<;>try rfl
   rename_i cs off;simp only[agx];rw[KK (O':=O)];cases eZ tab O t (.db cs off)<;>rfl
theorem D1:c8 tab (.mk d (.store t x y) ty p af g) e O=(ev e x).bind fun q=>(ev e y).bind fun r=>(wm tab O t q r).map (.tuple [], ·):=by
 simp only[c8,eG,iQ];cases ev e x<;>first | rfl | (cases ev e y<;>rfl)
theorem KL:c8 tab (.mk d (.box t x) ty p af g) e O=(ev e x).map fun q=>(.ptr O.next 0,O.push (.cells (dJ q))):=rfl
theorem Pf:c8 tab (.mk d (.alloc t) ty p af g) e O=(tab t).map fun i=>(.ptr O.next 0,wG O t i.size i.zero):=rfl
theorem tJ {k:Nat} {ps:Array (Nat×Operand)}:c8 tab (.mk d (.buildSlice t k ps) ty p af g) e O=(fP e (ps.toList.map (·.2))).bind fun ms=>(k6 tab t k (gx ps ms)).map (·,O):=by
 simp only[c8,eG,iQ];cases fP e (ps.toList.map (·.2))<;>rfl
theorem uJ:c8 tab (.mk d (.makeSlice t x y) ty p af g) e O=(ev e x).bind fun q=>(ev e y).bind fun r=>mr tab O t q r:=by
 simp only[c8,eG,iQ];cases ev e x<;>first | rfl | (cases ev e y<;>rfl)
theorem zC:c8 tab (.mk d (.makeMap t none) ty p af g) e O=some (.map O.next,O.push (.map [] 0)):=rfl
theorem Cb {b:Bool}:c8 tab (.mk d (.lookup t x y b) ty p af g) e O=(ev e x).bind fun q=>(ev e y).bind fun r=>(gL tab O t q r b).map (·,O):=by
 simp only[c8,eG,iQ];cases ev e x<;>first | rfl | (cases ev e y<;>rfl)
theorem uK {z:Operand}:c8 tab (.mk d (.mapUpdate t x y z) ty p af g) e O=(ev e x).bind fun q=>(ev e y).bind fun r=>(ev e z).bind fun s=>(dT tab O t q r s).map (.tuple [], ·):=by
 simp only[c8,eG,iQ];cases ev e x<;>first | rfl | (cases ev e y<;>first | rfl | (cases ev e z<;>rfl))
theorem Cc {z:Operand}:c8 tab (.mk d (.insert t x y z) ty p af g) e O=(ev e x).bind fun q=>(ev e y).bind fun r=>(ev e z).bind fun s=>(dT tab O t q r s).map (.tuple [], ·):=by
 simp only[c8,eG,iQ];cases ev e x<;>first | rfl | (cases ev e y<;>first | rfl | (cases ev e z<;>rfl))
section
variable {k:IntKind} {i j:Int}
theorem Hc:c5 tab .add t (.v (.int k i)) (.v (.int k j))=some (.v (.int k (k.wrap (i+j)))):=by simp[c5,qE]
theorem Hd:c5 tab .sub t (.v (.int k i)) (.v (.int k j))=some (.v (.int k (k.wrap (i - j)))):=by simp[c5,qE]
theorem He:c5 tab .mul t (.v (.int k i)) (.v (.int k j))=some (.v (.int k (k.wrap (i*j)))):=by simp[c5,qE]
theorem T7 (h:j≠0):c5 tab .quo t (.v (.int k i)) (.v (.int k j))=some (.v (.int k (k.wrap (i.tdiv j)))):=by simp[c5,qE,h]
theorem T8 (h:j≠0):c5 tab .rem t (.v (.int k i)) (.v (.int k j))=some (.v (.int k (i.tmod j))):=by simp[c5,qE,h]
theorem Hf:c5 tab .eql t (.v (.int k i)) (.v (.int k j))=some (.v (.bool (i==j))):=by simp[c5,qE]
theorem Hg:c5 tab .neq t (.v (.int k i)) (.v (.int k j))=some (.v (.bool (i != j))):=by simp[c5,qE]
theorem Hh:c5 tab .lss t (.v (.int k i)) (.v (.int k j))=some (.v (.bool (decide (i<j)))):=by simp[c5,qE]
theorem Hi:c5 tab .leq t (.v (.int k i)) (.v (.int k j))=some (.v (.bool (decide (i<=j)))):=by simp[c5,qE]
theorem Hj:c5 tab .gtr t (.v (.int k i)) (.v (.int k j))=some (.v (.bool (decide (i>j)))):=by simp[c5,qE]
theorem Hk:c5 tab .geq t (.v (.int k i)) (.v (.int k j))=some (.v (.bool (decide (i>=j)))):=by simp[c5,qE]
theorem KM:wC .neg (.v (.int k i))=some (.v (.int k (k.wrap (0 - i)))):=rfl
theorem KN {b:Bool}:wC .not (.v (.bool b))=some (.v (.bool !b)):=rfl
theorem wrap_i64 (h0: -9223372036854775808<=i) (h1:i<=9223372036854775807):IntKind.i64.wrap i=i:=by rw[IntKind.wrap_i64];omega
end
theorem zD {r:Env} {q:Op}:aN ops (.mk d q ty p af none) r=some true:=rfl
theorem zE {q:Op} {j:Nat} {b:Bool}:aN ops (.mk d q ty p af (some (j,b))) e=match(ops[j]?).bind (·.dst)with
  | some k=>match look e k with
    | some (.v (.bool c))=>some (c==b)
    | some (.tuple [])=>some false
    | _=>none
  | none=>none:=rfl
theorem VC.Bg {c:Operand} {x y:Code} (hc:ev e c=some (.v (.bool true))) (h:VC P n D x e O Q):VC P n D (.cond c x y) e O Q:=VC.cond hc (fun _=>h) (fun h=>by cases h)
theorem VC.agz {c:Operand} {x y:Code} (hc:ev e c=some (.v (.bool false))) (h:VC P n D y e O Q):VC P n D (.cond c x y) e O Q:=VC.cond hc (fun h=>by cases h) (fun _=>h)
section
variable {el:TypeId} {a b c d:Nat} {z y:List MV} {u:TypeDesc}
theorem fj {k:Nat} {cs:List MV} {tk:Tok} (h:tab t=some ⟨.slice el,a,b,z⟩):gZ tab t (.sl k cs tk)=some (.v (.int .i64 k)):=by simp[gZ,h]
theorem Hl {k o i j:Nat} (h:tab t=some ⟨.slice el,a,b,z⟩):gZ tab t (.bq k o i j)=some (.v (.int .i64 i)):=by simp[gZ,h]
end
end
def mi (x:Int):MV:=.v (.int .i64 x)
def mb (x:Bool):MV:=.v (.bool x)
structure VH.Ge (O O':VH):Prop where
 next:O.next<=O'.next
 hp:∀k,k<O.next->O'.hp k=O.hp k
section
variable {O O1 O2:VH} {x:cf} {k:Nat}
theorem VH.Ge.at {y:Option cf} (g:O.Ge O1) (h:O.hp k=y) (hk:k<O.next:=by omega):O1.hp k=y:=(g.hp k hk).trans h
theorem VH.Ge.refl (O:VH):O.Ge O:=⟨acw _,fun _ _=>rfl⟩
theorem VH.Ge.trans (h:O.Ge O1) (h2:O1.Ge O2):O.Ge O2:=⟨Nat.le_trans h.next h2.next,fun k hk=>(h2.hp k (Nat.lt_of_lt_of_le hk h.next)).trans (h.hp k hk)⟩
theorem VH.aW (O:VH) (x:cf):(O.push x).hp O.next=some x:=aH _ _ _
theorem VH.bA (O:VH) (x:cf) (h:k<O.next):(O.push x).hp k=O.hp k:=aw _ _ (by omega)
theorem VH.pE (O:VH) (x:cf) (h:k≠O.next):(O.push x).hp k=O.hp k:=aw _ _ h
theorem VH.ak (O:VH) (x:cf) {j:Nat} (h:j≠k):(O.set k x).hp j=O.hp j:=aw _ _ h
theorem VH.sn {j:Nat} {y:Option cf} (h:O.hp j=y) (hj:j≠k:=by omega):(O.set k x).hp j=y:=(VH.ak O x hj).trans h
theorem VH.kN (O:VH) {j:Nat} (h:j≠k):(O.kill k).hp j=O.hp j:=aw _ _ h
theorem VH.Ge.push (h:O.Ge O1) (x:cf):O.Ge (O1.push x):=h.trans ⟨Nat.le_succ _,fun _ hk=>VH.bA _ _ hk⟩
theorem VH.Ge.set (h:O.Ge O1) (hk:O.next<=k) (x:cf):O.Ge (O1.set k x):=⟨h.next,fun j hj=>VH.sn (h.hp j hj)⟩
theorem VH.Ge.kill (h:O.Ge O1) (hk:O.next<=k):O.Ge (O1.kill k):=⟨h.next,fun j hj=>(VH.kN _ (by omega)).trans (h.hp j hj)⟩
theorem VH.sL (O:VH) (x:cf):(O.push x).next=O.next+1:=rfl
theorem VH.eX (O:VH) (x:cf):(O.set k x).next=O.next:=rfl
end
def App (O:VH) (B sz:Nat):Tok->Prop
 | .nil=>True
 | .full=>True
 | .own t k=>k=sz/\O.hp t=some .tok/\B<=t/\t<O.next
 | .ar=>False
def VH.after (O:VH):Tok->VH
 | .own t _=>(O.kill t).push .tok
 | _=>O.push .tok
theorem VH.dU (O:VH) (tk:Tok):(O.after tk).next=O.next+1:=by cases tk<;>rfl
theorem VH.Pg (O:VH) (tk:Tok):(O.after tk).hp O.next=some .tok:=by
 cases tk<;>first | exact VH.aW _ _ | exact VH.aW (O.kill _) _
theorem App.after {O:VH} {B sz:Nat} {tk:Tok} (hB:B<=O.next):App (O.after tk) B sz (.own O.next sz):=⟨rfl,O.Pg tk,hB,by rw[O.dU];omega⟩
theorem VH.mu {O:VH} {B sz:Nat} {tk:Tok} (ha:App O B sz tk) {k:Nat} {x:cf} (hk:O.hp k=some x) (hx:x≠ .tok) (hl:k<O.next):(O.after tk).hp k=some x:=by
 cases tk with
 | own t j=>
   refine(VH.bA (O.kill t) _ hl).trans ?_;rw[VH.kN _ (fun e=>by subst e;rw[ha.2.1]at hk;injection hk with hk;exact hx hk.symm)];exact hk
 | _=>exact(VH.bA _ _ hl).trans hk
theorem bj {tab:bY} {O:VH} {t el:TypeId} {u:TypeDesc} {a b sz Yk:Nat} {z y:List MV} (h:tab t=some ⟨.slice el,a,b,z⟩) (h2:tab el=some ⟨u,sz,Yk,y⟩) {B n k:Nat} {cs ds:List MV} {tk tk':Tok} (ha:App O B sz tk)
  (hc:cs.length=n*sz) (hd:ds.length=k*sz) (hl:ds.all dK=true) (hs:0<sz) (hk:k≠0) (hb:(n+k)*Yk<=140737488355328) (hm:n+k<=maxLen):
  iw tab O t (.sl n cs tk) (.sl k ds tk')=some (.sl (n+k) (cs++ds) (.own O.next sz),O.after tk):=by
 simp only[iw,h,h2,agr];rw[if_pos ⟨hd,hl,hs⟩,if_neg hk,if_pos ⟨hc,hb,hm⟩];cases tk with
 | nil=>rfl
 | full=>rfl
 | own s j=>
   obtain⟨rfl,h3,_⟩:=ha;simp only[if_true,h3];rfl
 | ar=>exact ha.elim
section
variable {tab:bY} {t el:TypeId} {u:TypeDesc} {a b d:Nat} {z:List MV} {y m0 m1 m2:MV}
end
section
variable {tab:bY} {t el:TypeId} {u:TypeDesc} {a b d:Nat} {z:List MV} {y:MV} {v0 v1 v2:Value}
end
theorem zp1 (i:Nat) (x:Operand) (m:MV):gx #[(i,x)] [m]=[(i,m)]:=rfl
theorem zp2 (i j:Nat) (x y:Operand) (m q:MV):gx #[(i,x),(j,y)] [m,q]=[(i,m),(j,q)]:=rfl
theorem zp3 (i j k:Nat) (x y z:Operand) (m q r:MV):gx #[(i,x),(j,y),(k,z)] [m,q,r]=[(i,m),(j,q),(k,r)]:=rfl
theorem aq (x:Int):mi x= .v (.int .i64 x):=rfl
theorem a_ (x:Bool):mb x= .v (.bool x):=rfl
def looks (e:Env):List Nat->Option (List MV)
 | []=>some []
 | t::l=>(look e t).bind fun m=>(looks e l).map (m:: ·)
theorem Ph (e:Env):looks e []=some []:=rfl
theorem Cd (e:Env) (t:Nat) (l:List Nat):looks e (t::l)=(look e t).bind fun m=>(looks e l).map (m:: ·):=rfl
def pair:List Nat->List MV->Env
 | t::l,m::ms=>(t,m)::pair l ms
 | _,_=>[]
theorem Pj (t:Nat) (l:List Nat) (m:MV) (ms:List MV):pair (t::l) (m::ms)=(t,m)::pair l ms:=rfl
theorem T_ (ms:List MV):pair [] ms=[]:=rfl
section
variable {n:Sz} {D:List Deferred} {e:Env} {P:Program} {O:VH} {Q:VQ} {c:Code}
end
def Hm (P:Program) (n:Sz) (D:List Deferred) (d:Code) (Q:VQ):VQ:=fun x e O=>match x with
 | .normal=>VC P n D d e O Q
 | x=>Q x e O
def iB (id:Nat) (Q:VQ):VQ:=fun x e O=>match x with
 | .exit i=>if i=id then Q .normal e O else Q (.exit i) e O
 | x=>Q x e O
def IK {σ :Type} (l:List Nat) (ms: σ ->List MV) (I: σ ->VH->Prop) (μ : σ ->Nat) (s: σ) (Q:VQ):VQ:=fun x e O=>match x with
 | .normal=>∃s',looks e l=some (ms s')/\I s' O/\ μ s'< μ s
 | x=>Q x e O
def mV (tab:bY) (fn:Func) (R:fU->VH->Prop):VQ:=fun x e O=>match x with
 | .normal=>∃m,df tab fn e O=some m/\R (.ret m) O
 | .ret=>∃m,df tab fn e O=some m/\R (.ret m) O
 | .panic m=>R (.panic m) O
 | _=>False
section
variable {n:Sz} {D:List Deferred} {e:Env} {P:Program} {O:VH} {Q:VQ} {c d:Code} {id i:Nat} {m:MV} {tab:bY} {fn:Func} {R:fU->VH->Prop}
theorem IL:Hm P n D d Q .normal e O=VC P n D d e O Q:=rfl
theorem Pk:Hm P n D d Q (.exit i) e O=Q (.exit i) e O:=rfl
theorem Pl:Hm P n D d Q (.goto i) e O=Q (.goto i) e O:=rfl
theorem Ua:Hm P n D d Q .ret e O=Q .ret e O:=rfl
theorem KO:Hm P n D d Q (.panic m) e O=Q (.panic m) e O:=rfl
theorem uL:iB id Q .normal e O=Q .normal e O:=rfl
theorem zF:iB id Q (.exit i) e O=if i=id then Q .normal e O else Q (.exit i) e O:=rfl
theorem zG:iB id Q (.goto i) e O=Q (.goto i) e O:=rfl
theorem Ce:iB id Q .ret e O=Q .ret e O:=rfl
theorem re:iB id Q (.panic m) e O=Q (.panic m) e O:=rfl
section
variable {σ :Type} {l:List Nat} {ms: σ ->List MV} {I: σ ->VH->Prop} {μ : σ ->Nat} {s: σ}
theorem KP:IK l ms I μ s Q (.exit i) e O=Q (.exit i) e O:=rfl
theorem KQ:IK l ms I μ s Q (.goto i) e O=Q (.goto i) e O:=rfl
theorem Pn:IK l ms I μ s Q .ret e O=Q .ret e O:=rfl
theorem IM:IK l ms I μ s Q (.panic m) e O=Q (.panic m) e O:=rfl
end
theorem uM:sJ Q .normal e O=Q .normal e O:=rfl
theorem zH:sJ Q (.exit i) e O=Q (.exit i) e O:=rfl
theorem Cf:sJ Q .ret e O=Q .ret e O:=rfl
theorem xA:sJ Q (.panic m) e O=Q (.panic m) e O:=rfl
theorem VC.seq' (h:VC P n D c e O (Hm P n D d Q)):VC P n D (.seq c d) e O Q:=VC.seq h
theorem VC.az (h:VC P n D c e O (iB id Q)):VC P n D (.block id c) e O Q:=VC.block h
theorem VF.acA (ht:aL P tab) {f:FuncId} {c:Code} {args:List MV} (hf:P.funcs[f]?=some fn) (hb:fn.body=some c) (hn:args.length<=fn.ntmps)
  (h:VC P ⟨fn.ntmps,0⟩ [] c (cx 0 args) O (mV tab fn R)):VF P f args O R:=VF.enter ht hf hb hn h
end
section
variable {tab:bY} {n:Sz} {ops:Array Oper} {o:Oper} {l:List Oper} {e:Env} {O O':VH} {d:Option Tmp} {m:MV}
theorem aj (k:Nat):aV (some k) m e=(k,m)::e:=rfl
theorem D2:aV none m e=e:=rfl
theorem D3 {k N:Nat}:bp ⟨N,0⟩ (some k)=decide (k<N):=by simp[bp]
theorem Yl {k N l:Nat}:bp ⟨N,l+1⟩ (some k)=(decide (l<k)&&decide (k<N)):=rfl
theorem D4:bp n none=true:=rfl
end
section
variable {tab:bY} {fn:Func} {R:fU->VH->Prop} {e:Env} {O:VH} {m m':MV} {t t':Nat}
theorem mV.Ym (hf:fn.results= #[]) (h:R (.ret (.tuple [])) O):mV tab fn R .ret e O:=⟨_,by rw[df,hf];rfl,h⟩
theorem mV.aia (hf:fn.results= #[.tmp t]) (hl:look e t=some m) (h:R (.ret m) O):mV tab fn R .ret e O:=⟨_,by rw[df,hf];simp[jY,hl],h⟩
theorem mV.aib (hf:fn.results= #[.tmp t,.tmp t']) (hl:look e t=some m) (Pb:look e t'=some m') (h:R (.ret (.tuple [m,m'])) O):mV tab fn R .ret e O:=⟨_,by rw[df,hf];simp[jY,hl,Pb],h⟩
theorem mV.Yn (hf:fn.results= #[]) (h:R (.ret (.tuple [])) O):mV tab fn R .normal e O:=⟨_,by rw[df,hf];rfl,h⟩
end
section
variable {G H:Gh} {n:Sz} {D:List Deferred} {e e':Env} {a:Act} {P:Program} {tab:bY} {O O':VH} {w:World} {m m':MV} {u v:Value} {ops:Array Oper} {Q:VQ}
def fH:Op->Nat
 | .move _ | .assign _ | .pick .. | .nilCheck _ | .binOp .. | .unOp .. | .convert .. | .fieldAddr .. | .field .. | .indexAddr .. | .index .. | .extract .. | .slice .. | .build .. | .makeFunc .. | .makeInterface .. =>1
 | .load .. =>2
 | .lookup .. =>5
 | .call c=>match c.callee with
   | .value _=>0
   | .builtin .len=>4
   | .builtin .max=>1
   | .builtin .min=>1
   | .builtin .unsafeSliceData=>1
   | _=>3
 | _=>3
theorem Yo {o:Oper} (h:fH o.op=1):iQ tab o e O=none:=by
 unfold iQ;unfold fH at h
 split<;>first
  | rfl
  | (rename_i ho;rw[ho]at h;cases h)
  | (rename_i ho
     rw[ho]at h
     split<;>first
      | rfl
      | (rename_i hc _ _;simp only[hc]at h;cases h))
theorem Yp {o:Oper} (h:fH o.op=1) (hv:c8 tab o e O=some (m,O')):eG tab o e=some m/\O'=O:=by
 unfold c8 at hv;rw[Yo h]at hv;split at hv
 ·rename_i p hp;simp only[Option.some.injEq,Prod.mk.injEq]at hv;exact⟨by rw[hp,hv.1],hv.2.symm⟩
 ·cases hv
inductive Fl where
 | one | av | rd | fk
inductive Md where
 | plain | any | reads
 | held (brk:List Nat)
def Dk (tab:bY) (t:TypeId):MV->Option MV
 | .db cs off=>eZ tab ⟨0,fun _=>none⟩ t (.db cs off)
 | _=>none
def Yq (tab:bY) (o:Oper) (e:Env) (O:VH):Option (MV×VH):=
 match o.op with
 | .load t x=>((ev e x).bind (Dk tab t)).map (·,O)
 | _=>none
def R8 (tab:bY) (o:Oper) (e:Env) (O:VH):Option (MV×VH):=
 match o.op with
 | .call c=>match c.callee,c.args.toList,c.argTypes.toList with
   | .builtin .len,[x],[t]=>((ev e x).bind (gZ tab t)).map (·,O)
   | _,_,_=>none
 | _=>none
def Hn (tab:bY) (k:Nat) (o:Oper) (e:Env) (O:VH):Option (MV×VH):=
 match k with
 | 1=>c8 tab o e O
 | 2=>Yq tab o e O
 | 4=>R8 tab o e O
 | _=>none
def zI (tab:bY) (k:Nat) (o:Oper) (e:Env) (O:VH):Option (MV×VH):=
 match k with
 | 1=>c8 tab o e O
 | 2=>c8 tab o e O
 | 4=>R8 tab o e O
 | 5=>c8 tab o e O
 | _=>none
def iC (tab:bY) (f:Fl) (o:Oper) (e:Env) (O:VH):Option (MV×VH):=
 match f with
 | .one=>c8 tab o e O
 | .fk=>none
 | .av=>Hn tab (fH o.op) o e O
 | .rd=>zI tab (fH o.op) o e O
theorem Ub {o:Oper} (hv:Yq tab o e O=some (m,O')):eG tab o e=some m/\O'=O:=by
 unfold Yq at hv;split at hv
 ·rename_i t x ho;obtain⟨q,h1,h2⟩:=Km.1 hv;obtain⟨p,h3,h4⟩:=Kn.1 h1;simp only[Prod.mk.injEq]at h2;refine⟨?_,h2.2.symm⟩;rw[<-h2.1];unfold Dk at h4;split at h4
  ·simp only[eG,ho,h3];exact h4
  ·cases h4
 ·cases hv
theorem wH {o:Oper} (hv:R8 tab o e O=some (m,O')):eG tab o e=some m/\O'=O:=by
 unfold R8 at hv;split at hv
 ·rename_i c ho;split at hv
  ·rename_i x t hc ha fx;obtain⟨q,h1,h2⟩:=Km.1 hv;simp only[Prod.mk.injEq]at h2;refine⟨?_,h2.2.symm⟩;rw[<-h2.1];simp only[eG,ho,hc,ha,fx];exact h1
  ·cases hv
 ·cases hv
theorem nJ {o:Oper} (hv:iC tab .av o e O=some (m,O')):eG tab o e=some m/\O'=O:=by
 simp only[iC,Hn]at hv;split at hv
 ·exact Yp ‹_› hv
 ·exact Ub hv
 ·exact wH hv
 ·cases hv
theorem zJ {o:Oper} (h:eG tab o e=some m):c8 tab o e O=some (m,O):=by unfold c8;rw[h]
theorem Bh {f:Fl} {o:Oper} (hv:iC tab f o e O=some (m,O')):c8 tab o e O=some (m,O'):=by
 cases f with
 | one=>exact hv
 | fk=>cases hv
 | av=>obtain⟨h1,rfl⟩:=nJ hv;exact zJ h1
 | rd=>
   simp only[iC,zI]at hv;split at hv
   ·exact hv
   ·exact hv
   ·obtain⟨h1,rfl⟩:=wH hv;exact zJ h1
   ·exact hv
   ·cases hv
theorem wI (ht:aL P tab) (hw:WR G O w) (h:FR G n D e a) {f:Fl} {o:Oper} (hf:f≠ .one) (hv:iC tab f o e O=some (m,O')):O'=O/\∃u,VR G m u/\∀x,Sx G w x->(execOp a.eval o).run P x= .ok (.value u) x:=by
 have av:∀{m},eG tab o e=some m->∃u,VR G m u/\∀x,Sx G w x->(execOp a.eval o).run P x= .ok (.value u) x:=fun h1=>by
  obtain⟨u,hu,hr⟩:=uz (P:=P) ht h h1;exact⟨u,hu,fun x hx=>hr x hx.1⟩
 cases f with
 | one=>exact absurd rfl hf
 | fk=>cases hv
 | av=>obtain⟨h1,rfl⟩:=nJ hv;exact⟨rfl,av h1⟩
 | rd=>
   simp only[iC,zI]at hv;split at hv
   ·obtain⟨h1,rfl⟩:=Yp ‹_› hv;exact⟨rfl,av h1⟩
   ·rename_i hk;unfold c8 at hv;split at hv
    ·rename_i p hp;simp only[Option.some.injEq,Prod.mk.injEq]at hv;obtain⟨rfl,rfl⟩:=hv;exact⟨rfl,av hp⟩
    ·unfold iQ at hv
     split at hv<;>first
      | (rename_i t x ho
         obtain⟨p,h1,h2⟩:=Kn.1 hv;obtain⟨q,h3,h4⟩:=Km.1 h2;simp only[Prod.mk.injEq]at h4;obtain⟨rfl,rfl⟩:=h4;obtain⟨u,g1,g2⟩:=n0 (P:=P) ht hw h3 (h.ev h1);exact⟨rfl,u,g1,fun x hx=>by simp only[execOp,ho,Sem.run_bind,g2 x hx];rfl⟩)
      | (rename_i ho;rw[ho]at hk;simp only[fH]at hk;cases hk)
      | (rename_i ho _ _ _;rw[ho]at hk;simp only[fH]at hk;cases hk)
      | cases hv
      | (rename_i c ho
         exfalso;rw[ho]at hk;simp only[fH]at hk;split at hk<;>cases hk)
   ·obtain⟨h1,rfl⟩:=wH hv;exact⟨rfl,av h1⟩
   ·rename_i hk;unfold c8 at hv;split at hv
    ·rename_i p hp;simp only[Option.some.injEq,Prod.mk.injEq]at hv;obtain⟨rfl,rfl⟩:=hv;exact⟨rfl,av hp⟩
    ·unfold iQ at hv
     split at hv<;>first
      | (rename_i t x k ok ho
         split at hv
         ·rename_i p q h1 h2;obtain⟨r,h3,h4⟩:=Km.1 hv;simp only[Prod.mk.injEq]at h4;obtain⟨rfl,rfl⟩:=h4;obtain⟨u,g1,g2⟩:=xx (P:=P) ht hw h3 (h.ev h1) (h.ev h2);exact⟨rfl,u,g1,fun x hx=>by simp only[execOp,ho,Sem.run_bind,g2 x hx];rfl⟩
         ·cases hv)
      | (rename_i ho;rw[ho]at hk;simp only[fH]at hk;cases hk)
      | (rename_i ho _ _ _;rw[ho]at hk;simp only[fH]at hk;cases hk)
      | cases hv
      | (rename_i c ho
         exfalso;rw[ho]at hk;simp only[fH]at hk;split at hk<;>cases hk)
   ·cases hv
def cH (md:Md) (ops:Array Oper):Nat->Array Bool->List (Nat×Fl)->Bool
 | _,listed,[]=>Region.ready .any ops listed==[]
 | 0,_,_::_=>false
 | k+1,listed,(i,f)::r=>(match f,md,r with
   | .one,.any,_=>Region.ready .any ops listed==[i]
   | .av,.any,_=>Region.free .any ops listed i&&(Region.ready .any ops listed).contains i
   | .av,.reads,_=>Region.free .any ops listed i&&(Region.ready .any ops listed).contains i
   | .rd,.reads,_=>Region.free .any ops listed i&&(Region.ready .any ops listed).contains i
   | .av,.held brk,_=>Region.free .any ops listed i&&(Region.ready .any ops listed).contains i&&nI ops brk listed i
   | .rd,.held brk,_=>Region.free .any ops listed i&&(Region.ready .any ops listed).contains i&&nI ops brk listed i
   | .one,.held brk,_=>Region.ready .any ops listed==[i]&&((!brk.contains i&&((ops[i]?).map fun o=>F7 o.op).getD false)||(brk.contains i&&(List.range listed.size).all fun j=>(listed.setIfInBounds i true).getD j true||brk.contains j))
   | .fk,.any,(j,.one)::_=>(Region.ready .any ops listed==[i,j]||Region.ready .any ops listed==[j,i])&&Region.ready .any ops (listed.setIfInBounds i true)==[j]&&Region.ready .any ops (listed.setIfInBounds j true)==[i]
   | _,_,_=>false)&&cH md ops k (listed.setIfInBounds i true) r
def Fits (ops:Array Oper):List (Nat×Fl)->List (Fl×Oper)->Prop
 | [],[]=>True
 | (i,f)::ix,(g,o)::L=>f=g/\ops[i]?=some o/\Fits ops ix L
 | _,_=>False
def agA (P:Program) (n:Sz) (D:List Deferred) (ops:Array Oper) (fuel:Nat) (listed:Array Bool) (e:Env) (O:VH) (Q:VQ):Prop:=
 ∀G a w,WR G O w->FR G n D e a->wpAnyH P .any ops (cz G n D Q) (fun x=>x=w) fuel listed a w
def Yr (P:Program) (n:Sz) (D:List Deferred) (md:Md) (ops:Array Oper) (fuel:Nat) (listed:Array Bool) (ix:List (Nat×Fl)) (e:Env) (O:VH) (Q:VQ):Prop:=
 match md with
 | .plain=>iz P n D ops (ix.map (·.1)) e O Q
 | .any=>cn P n D ops fuel listed e O Q
 | .reads=>agA P n D ops fuel listed e O Q
 | .held brk=>bL P n D ops brk fuel listed e O Q
def VL (P:Program) (n:Sz) (D:List Deferred) (md:Md) (ops:Array Oper) (L:List (Fl×Oper)) (e:Env) (O:VH) (Q:VQ):Prop:=
 ∀fuel listed ix,Fits ops ix L->(md≠ .plain->Region.noSelect ops=true/\cH md ops fuel listed ix=true)->Yr P n D md ops fuel listed ix e O Q
theorem VL.nil {md:Md} (h:Q .normal e O):VL P n D md ops [] e O Q:=by
 intro fuel listed ix hf hp;cases ix with
 | cons x ix=>exact hf.elim
 | nil=>
   cases md with
   | plain=>exact iz.nil h
   | any=>
     have:=(hp (by simp)).2;rw[cH]at this;exact cn.done (by simpa using this) h
   | reads=>
     have:=(hp (by simp)).2;rw[cH]at this;intro G a w hw aU;exact wpAnyH_done (by simpa using this) ⟨.normal,e,O,G,Gh.Le.refl G,hw,aU,trivial,h⟩ fuel
   | held brk=>
     have:=(hp (by simp)).2;rw[cH]at this;exact bL.done (by simpa using this) h
theorem rQ {brk:List Nat} {i:Nat} {listed:Array Bool} {o:Oper} (ho:ops[i]?=some o) (h:((!brk.contains i&&((ops[i]?).map fun o=>F7 o.op).getD false)||(brk.contains i&&(List.range listed.size).all fun j=>(listed.setIfInBounds i true).getD j true||brk.contains j))=true):
  (brk.contains i=false/\F7 o.op=true)\/∀j,(listed.setIfInBounds i true).getD j true=false\/j=i->brk.contains j=true:=by
 rw[ho]at h;simp only[agr,Option.getD_some,alK,RZ,Bool.not_eq_true']at h;rcases h with h | ⟨h1,h2⟩
 ·exact .inl h
 ·refine .inr fun j hj=>?_
  rcases hj with hj | rfl
  ·rcases ah7 j listed.size with hl | hl
   ·have:=alH.1 h2 j (List.mem_range.2 hl);rw[hj,Bool.false_or]at this;exact this
   ·rw[akF,ahY (by simpa using hl)]at hj;cases hj
  ·exact h1
theorem aK.skip {i:Nat} {o:Oper} {K:Env->VH->Prop} (ho:ops[i]?=some o) (hg:aN ops o e=some false) (hd:bp n o.dst=true) (hk:K (aV o.dst cG e) O):aK P n D ops i e O Q K:=by
 intro G a w hw aU;simp only[wpOp,ho,bn aU hg,XN,if_false];exact⟨_,_,G,Gh.Le.refl G,hw,aU.aV hd k7,hk⟩
theorem uN {f:Fl} {o:Oper} (hf:f≠ .one) (hv:iC tab f o e O=some (m,O')):O'=O:=by
 cases f with
 | one=>exact absurd rfl hf
 | fk=>cases hv
 | av=>exact(nJ hv).2
 | rd=>
   simp only[iC,zI]at hv
   have key:∀{k},fH o.op=k->k≠0->k≠3->c8 tab o e O=some (m,O')->O'=O:=fun{k} hk h0 h3 hv=>by
    unfold c8 at hv;split at hv
    ·simp only[Option.some.injEq,Prod.mk.injEq]at hv;exact hv.2.symm
    ·unfold iQ at hv
     split at hv<;>first
      | (rename_i ho;rw[ho]at hk;simp only[fH]at hk;exact absurd hk.symm h3)
      | (cases hv;done)
      | (rename_i ho _ _ _;rw[ho]at hk;simp only[fH]at hk;exact absurd hk.symm h3)
      | (obtain⟨p,h1,h2⟩:=Kn.1 hv
         obtain⟨q,h3,h4⟩:=Km.1 h2;simp only[Prod.mk.injEq]at h4;exact h4.2.symm)
      | (split at hv
         ·obtain⟨r,h3,h4⟩:=Km.1 hv;simp only[Prod.mk.injEq]at h4;exact h4.2.symm
         ·cases hv)
      | (rename_i c ho
         rw[ho]at hk;simp only[fH]at hk;split at hv
         ·rename_i hc _ _;simp only[hc]at hk;exact absurd hk.symm h3
         ·obtain⟨p,h1,h2⟩:=Kn.1 hv;obtain⟨q,h3,h4⟩:=Km.1 h2;simp only[Prod.mk.injEq]at h4;exact h4.2.symm
         ·cases hv)
   split at hv
   ·exact key ‹_› (by decide) (by decide) hv
   ·exact key ‹_› (by decide) (by decide) hv
   ·exact(wH hv).2
   ·exact key ‹_› (by decide) (by decide) hv
   ·cases hv
theorem VL.step (ht:aL P tab) {md:Md} {f:Fl} {o:Oper} {L:List (Fl×Oper)} (hg:aN ops o e=some true) (hv:iC tab f o e O=some (m,O')) (hd:bp n o.dst=true)
  (h:VL P n D md ops L (aV o.dst m e) O' Q):VL P n D md ops ((f,o)::L) e O Q:=by
 intro fuel listed ix hf hp
 match ix,hf with
 | (i,g)::ix,hf=>
   obtain⟨rfl,ho,hf⟩:=hf;cases md with
   | plain=>exact iz.step ht ho hg (Bh hv) hd (h 0 #[] ix hf (fun h=>absurd rfl h))
   | any=>
     obtain⟨h1,h2⟩:=hp (by simp);cases fuel with
     | zero=>cases h2
     | succ fuel=>
       simp only[cH,RZ]at h2;have hk:=h fuel (listed.setIfInBounds i true) ix hf (fun _=>⟨h1,h2.2⟩);cases g with
       | one=>
         have hr:Region.ready .any ops listed=[i]:=by simpa using h2.1
         exact cn.all hr (by simp) fun j hj=>by
          obtain rfl:j=i:=by simpa using hj
          exact aK.op ht ho hg (Bh hv) hd hk
       | av=>
         obtain⟨hs,rfl⟩:=nJ hv;simp only[RZ]at h2;exact cn.R4 ht ho h1 h2.1.1 h2.1.2 hg hs hd hk
       | rd=>exact absurd h2.1 (by simp)
       | fk=>cases hv
   | reads=>
     obtain⟨h1,h2⟩:=hp (by simp);cases fuel with
     | zero=>cases h2
     | succ fuel=>
       simp only[cH,RZ]at h2;have hk:=h fuel (listed.setIfInBounds i true) ix hf (fun _=>⟨h1,h2.2⟩);have hne:g≠ .one:=by rintro rfl;exact absurd h2.1 (by simp)
       intro G a w hw aU;obtain⟨rfl,u,hu,cj⟩:=wI (P:=P) ht hw aU hne hv;have h3:Region.free .any ops listed i=true/\(Region.ready .any ops listed).contains i=true:=by cases g<;>simp_all
       exact wpAnyH_take ho h1 h3.1 h3.2 (g_ hd) (.inl ⟨bn aU hg,fun w' qY=>by rw[qY];exact cj w hw.sx⟩) rfl (hk G _ w hw (aU.aV hd hu))
   | held brk=>
     obtain⟨h1,h2⟩:=hp (by simp);cases fuel with
     | zero=>cases h2
     | succ fuel=>
       simp only[cH,RZ]at h2;have hk:=h fuel (listed.setIfInBounds i true) ix hf (fun _=>⟨h1,h2.2⟩);cases g with
       | one=>
         simp only[RZ]at h2;have hr:Region.ready .any ops listed=[i]:=by simpa using h2.1.1
         exact bL.one ht ho hr (rQ ho h2.1.2) hg (Bh hv) hd hk
       | fk=>exact absurd h2.1 (by simp)
       | av=>
         simp only[RZ]at h2
         exact bL.take ho h1 h2.1.1.1 h2.1.1.2 h2.1.2 hd (fun G a w hw aU=>by
          obtain⟨_,u,hu,cj⟩:=wI (P:=P) ht hw aU (by simp) hv;exact⟨u,hu,.inl ⟨bn aU hg,cj⟩⟩) (by
          obtain rfl:=uN (by simp) hv;exact hk)
       | rd=>
         simp only[RZ]at h2
         exact bL.take ho h1 h2.1.1.1 h2.1.1.2 h2.1.2 hd (fun G a w hw aU=>by
          obtain⟨_,u,hu,cj⟩:=wI (P:=P) ht hw aU (by simp) hv;exact⟨u,hu,.inl ⟨bn aU hg,cj⟩⟩) (by
          obtain rfl:=uN (by simp) hv;exact hk)
theorem VL.skip {md:Md} {f:Fl} {o:Oper} {L:List (Fl×Oper)} (qw:f≠ .fk) (hg:aN ops o e=some false) (hd:bp n o.dst=true)
  (h:VL P n D md ops L (aV o.dst cG e) O Q):VL P n D md ops ((f,o)::L) e O Q:=by
 intro fuel listed ix hf hp
 match ix,hf with
 | (i,g)::ix,hf=>
   obtain⟨rfl,ho,hf⟩:=hf;cases md with
   | plain=>exact iz.skip ho hg hd (h 0 #[] ix hf (fun h=>absurd rfl h))
   | any=>
     obtain⟨h1,h2⟩:=hp (by simp);cases fuel with
     | zero=>cases h2
     | succ fuel=>
       simp only[cH,RZ]at h2;have hk:=h fuel (listed.setIfInBounds i true) ix hf (fun _=>⟨h1,h2.2⟩);cases g with
       | one=>
         have hr:Region.ready .any ops listed=[i]:=by simpa using h2.1
         exact cn.all hr (by simp) fun j hj=>by
          obtain rfl:j=i:=by simpa using hj
          exact aK.skip ho hg hd hk
       | av=>
         simp only[RZ]at h2;exact cn.Yd ho h1 h2.1.1 h2.1.2 hg hd hk
       | rd=>exact absurd h2.1 (by simp)
       | fk=>exact absurd rfl qw
   | reads=>
     obtain⟨h1,h2⟩:=hp (by simp);cases fuel with
     | zero=>cases h2
     | succ fuel=>
       simp only[cH,RZ]at h2;have hk:=h fuel (listed.setIfInBounds i true) ix hf (fun _=>⟨h1,h2.2⟩);have hne:g≠ .one:=by rintro rfl;exact absurd h2.1 (by simp)
       intro G a w hw aU;have h3:Region.free .any ops listed i=true/\(Region.ready .any ops listed).contains i=true:=by cases g<;>simp_all
       exact wpAnyH_take ho h1 h3.1 h3.2 (g_ hd) (.inr ⟨bn aU hg,rfl⟩) rfl (hk G _ w hw (aU.aV hd k7))
   | held brk=>
     obtain⟨h1,h2⟩:=hp (by simp);cases fuel with
     | zero=>cases h2
     | succ fuel=>
       simp only[cH,RZ]at h2;have hk:=h fuel (listed.setIfInBounds i true) ix hf (fun _=>⟨h1,h2.2⟩);cases g with
       | one=>
         simp only[RZ]at h2;have hr:Region.ready .any ops listed=[i]:=by simpa using h2.1.1
         exact bL.agy ho hr (rQ ho h2.1.2) hg hd hk
       | fk=>exact absurd h2.1 (by simp)
       | av=>
         simp only[RZ]at h2;exact bL.take ho h1 h2.1.1.1 h2.1.1.2 h2.1.2 hd (fun G a w hw aU=>⟨undef,k7,.inr ⟨bn aU hg,rfl⟩⟩) hk
       | rd=>
         simp only[RZ]at h2;exact bL.take ho h1 h2.1.1.1 h2.1.1.2 h2.1.2 hd (fun G a w hw aU=>⟨undef,k7,.inr ⟨bn aU hg,rfl⟩⟩) hk
theorem VL.call {md:Md} {L:List (Fl×Oper)} {d:Option Tmp} {f:Operand} {args:Array Operand} {tys:Array TypeId} {ty:TypeId} {ps:String} {af:Array Edge} {g:Option (Nat×Bool)} {id:FuncId} {fs ms cs as_:List MV} {R:fU->VH->Prop}
  (hg:aN ops (.mk d (.call {callee:=.value f,args:=args,argTypes:=tys}) ty ps af g) e=some true) (hf:ev e f=some (.func (.func id) fs cs)) (hm:fP e args.toList=some ms) (ha:fs++ms++cs=as_) (hE:Enters P id) (hd:bp n d=true) (hR:VF P id as_ O R)
  (h:∀r O',R r O'->match r with
   | .ret m=>VL P n D md ops L (aV d m e) O' Q
   | .panic m=>Q (.panic m) (kM n e) O'):VL P n D md ops ((.one,.mk d (.call {callee:=.value f,args:=args,argTypes:=tys}) ty ps af g)::L) e O Q:=by
 intro fuel listed ix rR hp;subst ha
 match ix,rR with
 | (i,g')::ix,rR=>
   obtain⟨rfl,ho,rR⟩:=rR;cases md with
   | plain=>
     refine iz.call ho hg rfl rfl hf hm hE hd hR fun r O' hr=>?_
     have:=h r O' hr;cases r with
     | ret m=>exact this 0 #[] ix rR (fun h=>absurd rfl h)
     | panic m=>exact this
   | any=>
     obtain⟨h1,h2⟩:=hp (by simp);cases fuel with
     | zero=>cases h2
     | succ fuel=>
       simp only[cH,RZ]at h2;have hr:Region.ready .any ops listed=[i]:=by simpa using h2.1
       exact cn.all hr (by simp) fun j hj=>by
        obtain rfl:j=i:=by simpa using hj
        refine aK.call ho hg rfl rfl hf hm hE hd hR fun r O' hr=>?_
        have:=h r O' hr;cases r with
        | ret m=>exact this fuel (listed.setIfInBounds j true) ix rR (fun _=>⟨h1,h2.2⟩)
        | panic m=>exact this
   | reads=>
     obtain⟨h1,h2⟩:=hp (by simp);cases fuel with
     | zero=>cases h2
     | succ fuel=>
       simp only[cH,RZ]at h2;exact absurd h2.1 (by simp)
   | held brk=>
     obtain⟨h1,h2⟩:=hp (by simp);cases fuel with
     | zero=>cases h2
     | succ fuel=>
       simp only[cH,RZ]at h2;have hr:Region.ready .any ops listed=[i]:=by simpa using h2.1.1
       have hb:∀j,(listed.setIfInBounds i true).getD j true=false\/j=i->brk.contains j=true:=by
        rcases rQ ho h2.1.2 with⟨_,h3⟩ | h3
        ·cases h3
        ·exact h3
       refine bL.Yi hr hb (aK.call ho hg rfl rfl hf hm hE hd hR fun r O' hr=>?_);have:=h r O' hr;cases r with
       | ret m=>exact this fuel (listed.setIfInBounds i true) ix rR (fun _=>⟨h1,h2.2⟩)
       | panic m=>exact this
def iR (tab:bY) (n:Sz) (ops:Array Oper):List (Fl×Oper)->Env->VH->Option (List (Fl×Oper)×Env×VH)
 | [],e,O=>some ([],e,O)
 | (.fk,o)::L,e,O=>some ((.fk,o)::L,e,O)
 | (f,o)::L,e,O=>match fH o.op==0,aN ops o e with
   | _,none=>none
   | true,some true=>some ((f,o)::L,e,O)
   | false,some true=>match iC tab f o e O with
     | none=>some ((f,o)::L,e,O)
     | some (m,O')=>match bp n o.dst with
       | true=>iR tab n ops L (aV o.dst m e) O'
       | false=>none
   | _,some false=>match bp n o.dst with
     | true=>iR tab n ops L (aV o.dst cG e) O
     | false=>none
theorem VL.run (ht:aL P tab) {md:Md}:∀{L L':List (Fl×Oper)} {e:Env} {O:VH},iR tab n ops L e O=some (L',e',O')->VL P n D md ops L' e' O' Q->VL P n D md ops L e O Q
 | [],L',e,O,h,hQ=>by
   simp only[iR,Option.some.injEq,Prod.mk.injEq]at h;obtain⟨rfl,rfl,rfl⟩:=h;exact hQ
 | (.fk,o)::L,L',e,O,h,hQ=>by
   simp only[iR,Option.some.injEq,Prod.mk.injEq]at h;obtain⟨rfl,rfl,rfl⟩:=h;exact hQ
 | (.one,o)::L,L',e,O,h,hQ=>by
   simp only[iR]at h;split at h
   ·cases h
   ·simp only[Option.some.injEq,Prod.mk.injEq]at h;obtain⟨rfl,rfl,rfl⟩:=h;exact hQ
   ·split at h
    ·simp only[Option.some.injEq,Prod.mk.injEq]at h;obtain⟨rfl,rfl,rfl⟩:=h;exact hQ
    ·split at h
     ·exact VL.step ht ‹_› ‹_› ‹_› (VL.run ht h hQ)
     ·cases h
   ·split at h
    ·exact VL.skip (by simp) ‹_› ‹_› (VL.run ht h hQ)
    ·cases h
 | (.av,o)::L,L',e,O,h,hQ=>by
   simp only[iR]at h;split at h
   ·cases h
   ·simp only[Option.some.injEq,Prod.mk.injEq]at h;obtain⟨rfl,rfl,rfl⟩:=h;exact hQ
   ·split at h
    ·simp only[Option.some.injEq,Prod.mk.injEq]at h;obtain⟨rfl,rfl,rfl⟩:=h;exact hQ
    ·split at h
     ·exact VL.step ht ‹_› ‹_› ‹_› (VL.run ht h hQ)
     ·cases h
   ·split at h
    ·exact VL.skip (by simp) ‹_› ‹_› (VL.run ht h hQ)
    ·cases h
 | (.rd,o)::L,L',e,O,h,hQ=>by
   simp only[iR]at h;split at h
   ·cases h
   ·simp only[Option.some.injEq,Prod.mk.injEq]at h;obtain⟨rfl,rfl,rfl⟩:=h;exact hQ
   ·split at h
    ·simp only[Option.some.injEq,Prod.mk.injEq]at h;obtain⟨rfl,rfl,rfl⟩:=h;exact hQ
    ·split at h
     ·exact VL.step ht ‹_› ‹_› ‹_› (VL.run ht h hQ)
     ·cases h
   ·split at h
    ·exact VL.skip (by simp) ‹_› ‹_› (VL.run ht h hQ)
    ·cases h
def KR (tab:bY) (n:Sz) (ops:Array Oper) (L:List (Fl×Oper)) (e:Env) (O:VH):Bool->Option (List (Fl×Oper)×Env×VH)
 | true=>iR tab n ops L e O
 | false=>none
def Ys (tab:bY) (n:Sz) (ops:Array Oper) (fo:Fl×Oper) (L:List (Fl×Oper)) (e:Env) (O:VH):Option (MV×VH)->Option (List (Fl×Oper)×Env×VH)
 | some (m,O')=>KR tab n ops L (aV fo.2.dst m e) O' (bp n fo.2.dst)
 | none=>some (fo::L,e,O)
def KS (tab:bY) (n:Sz) (ops:Array Oper) (f:Fl) (o:Oper) (L:List (Fl×Oper)) (e:Env) (O:VH):Bool->Option Bool->Option (List (Fl×Oper)×Env×VH)
 | _,none=>none
 | true,some true=>some ((f,o)::L,e,O)
 | false,some true=>Ys tab n ops (f,o) L e O (iC tab f o e O)
 | _,some false=>KR tab n ops L (aV o.dst cG e) O (bp n o.dst)
section
variable {f:Fl} {o:Oper} {L:List (Fl×Oper)} {d:Option Tmp} {p:Op} {ty:TypeId} {ps:String} {af:Array Edge} {g:Option (Nat×Bool)} {b:Bool}
theorem Po:iR tab n ops [] e O=some ([],e,O):=rfl
theorem uO (qw:f≠ .fk):iR tab n ops ((f,.mk d p ty ps af g)::L) e O=KS tab n ops f (.mk d p ty ps af g) L e O (fH p==0) (aN ops (.mk d p ty ps af g) e):=by
 have key:iR tab n ops ((f,.mk d p ty ps af g)::L) e O=match fH p==0,aN ops (.mk d p ty ps af g) e with
  | _,none=>none
  | true,some true=>some ((f,.mk d p ty ps af g)::L,e,O)
  | false,some true=>match iC tab f (.mk d p ty ps af g) e O with
    | none=>some ((f,.mk d p ty ps af g)::L,e,O)
    | some (m,O')=>match bp n d with
      | true=>iR tab n ops L (aV d m e) O'
      | false=>none
  | _,some false=>match bp n d with
    | true=>iR tab n ops L (aV d cG e) O
    | false=>none:=by
  cases f<;>first | exact absurd rfl qw | rfl
 rw[key];generalize aN ops (.mk d p ty ps af g) e=x;generalize (fH p==0)=y;unfold KS;cases x with
 | none=>rfl
 | some b=>
   cases b<;>cases y<;>simp only
   ·unfold KR;cases bp n d<;>rfl
   ·unfold KR;cases bp n d<;>rfl
   ·unfold Ys;cases iC tab f (.mk d p ty ps af g) e O with
    | none=>rfl
    | some r=>unfold KR;cases bp n d<;>rfl
theorem Pp:iR tab n ops ((.one,.mk d p ty ps af g)::L) e O=KS tab n ops .one (.mk d p ty ps af g) L e O (fH p==0) (aN ops (.mk d p ty ps af g) e):=uO (by simp)
theorem Pq:iR tab n ops ((.av,.mk d p ty ps af g)::L) e O=KS tab n ops .av (.mk d p ty ps af g) L e O (fH p==0) (aN ops (.mk d p ty ps af g) e):=uO (by simp)
theorem Uc:iR tab n ops ((.rd,.mk d p ty ps af g)::L) e O=KS tab n ops .rd (.mk d p ty ps af g) L e O (fH p==0) (aN ops (.mk d p ty ps af g) e):=uO (by simp)
theorem Ud:iR tab n ops ((.fk,o)::L) e O=some ((.fk,o)::L,e,O):=rfl
theorem Ue:KS tab n ops f o L e O true (some true)=some ((f,o)::L,e,O):=rfl
theorem acB:KS tab n ops f (.mk d p ty ps af g) L e O false (some true)=Ys tab n ops (f,.mk d p ty ps af g) L e O (iC tab f (.mk d p ty ps af g) e O):=rfl
theorem Uf:KS tab n ops f (.mk d p ty ps af g) L e O b (some false)=KR tab n ops L (aV d cG e) O (bp n d):=by cases b<;>rfl
theorem Ug:Ys tab n ops (f,.mk d p ty ps af g) L e O (some (m,O'))=KR tab n ops L (aV d m e) O' (bp n d):=rfl
theorem Uh {fo:Fl×Oper}:Ys tab n ops fo L e O none=some (fo::L,e,O):=rfl
theorem Ui:KR tab n ops L e O true=iR tab n ops L e O:=rfl
theorem wJ:iC tab .one o e O=c8 tab o e O:=rfl
theorem Ho:iC tab .av (.mk d p ty ps af g) e O=Hn tab (fH p) (.mk d p ty ps af g) e O:=rfl
theorem KT:iC tab .rd (.mk d p ty ps af g) e O=zI tab (fH p) (.mk d p ty ps af g) e O:=rfl
theorem R9:Hn tab 1 o e O=c8 tab o e O:=rfl
theorem R_ {t:TypeId} {x:Operand}:Hn tab 2 (.mk d (.load t x) ty ps af g) e O=((ev e x).bind (Dk tab t)).map (·,O):=rfl
theorem Sa {t:TypeId} {x:Operand}:Hn tab 4 (.mk d (.call {callee:=.builtin .len,args:= #[x],argTypes:= #[t]}) ty ps af g) e O=((ev e x).bind (gZ tab t)).map (·,O):=rfl
theorem Sb:zI tab 1 o e O=c8 tab o e O:=rfl
theorem Sc:zI tab 2 o e O=c8 tab o e O:=rfl
theorem Sd:zI tab 5 o e O=c8 tab o e O:=rfl
theorem Se {t:TypeId} {x:Operand}:zI tab 4 (.mk d (.call {callee:=.builtin .len,args:= #[x],argTypes:= #[t]}) ty ps af g) e O=((ev e x).bind (gZ tab t)).map (·,O):=rfl
theorem Hp {t:TypeId} {cs:List MV} {off:Nat}:Dk tab t (.db cs off)=eZ tab ⟨0,fun _=>none⟩ t (.db cs off):=rfl
end
section
variable {x y z:Operand} {t t':TypeId} {f:Nat} {q:BinOp} {r:UnOp} {as_:Array Operand} {ts:Array TypeId} {l h k:Option Operand} {fn:Fn} {ps:Array (Nat×Operand)}
theorem Hq:fH (.move x)=1:=rfl
theorem Cg:fH (.assign x)=1:=rfl
theorem Hr:fH (.pick x y z)=1:=rfl
theorem xB:fH (.nilCheck x)=1:=rfl
theorem D5:fH (.binOp q t x y t')=1:=rfl
theorem Hs:fH (.unOp r t x)=1:=rfl
theorem zK:fH (.convert t t' x)=1:=rfl
theorem uP:fH (.fieldAddr t x f)=1:=rfl
theorem D6:fH (.field t x f)=1:=rfl
theorem uQ:fH (.indexAddr t x y)=1:=rfl
theorem D7:fH (.index t x y)=1:=rfl
theorem zL:fH (.extract x f)=1:=rfl
theorem D8:fH (.slice t x l h k)=1:=rfl
theorem D9:fH (.build t ps)=1:=rfl
theorem xC {Uj:Array Operand}:fH (.makeFunc fn as_ Uj)=1:=rfl
theorem pF:fH (.makeInterface t x)=1:=rfl
theorem Ht:fH (.load t x)=2:=rfl
theorem D_:fH (.call {callee:=.value x,args:=as_,argTypes:=ts})=0:=rfl
theorem KU:fH (.call {callee:=.builtin .len,args:=as_,argTypes:=ts})=4:=rfl
theorem KV:fH (.call {callee:=.builtin .max,args:=as_,argTypes:=ts})=1:=rfl
theorem KW:fH (.call {callee:=.builtin .min,args:=as_,argTypes:=ts})=1:=rfl
theorem Pr:fH (.call {callee:=.builtin .unsafeSliceData,args:=as_,argTypes:=ts})=1:=rfl
theorem Ci:fH (.call {callee:=.builtin .append,args:=as_,argTypes:=ts})=3:=rfl
theorem Ea:fH (.store t x y)=3:=rfl
theorem KX:fH (.box t x)=3:=rfl
theorem Eb:fH (.alloc t)=3:=rfl
theorem tO:fH (.buildSlice t f ps)=3:=rfl
theorem zM {t:TypeId} {r:Option Operand}:fH (.makeMap t r)=3:=rfl
theorem Cj {t:TypeId} {x y:Operand} {b:Bool}:fH (.lookup t x y b)=5:=rfl
theorem uR {t:TypeId} {x y z:Operand}:fH (.mapUpdate t x y z)=3:=rfl
theorem Ck {t:TypeId} {x y z:Operand}:fH (.insert t x y z)=3:=rfl
theorem uS:fH (.makeSlice t x y)=3:=rfl
end
theorem uT:∀(l:List Oper) (k:Nat),(∀j,l[j]?=none\/l[j]?=ops[k+j]?)->Fits ops ((List.range' k l.length).map (·,Fl.one)) (l.map (Fl.one, ·))
 | [],_,_=>trivial
 | o::l,k,h=>by
   rw[ah5,List.range'_succ];refine⟨rfl,?_,uT l (k+1) fun j=>?_⟩
   ·rcases h 0 with h0 | h0
    ·cases h0
    ·simpa using h0.symm
   ·rcases h (j+1)with h0 | h0
    ·exact .inl (by simpa using h0)
    ·exact .inr (by rw[show k+1+j=k+(j+1)from by omega];simpa using h0)
theorem VC.Sf {id:Nat} {l:List Oper} (h:VL P n D .plain ⟨l⟩ (l.map (Fl.one, ·)) e O Q):VC P n D (.region id ⟨l⟩ false) e O Q:=by
 refine VC.region ?_;have:=h 0 #[] _ (uT l 0 fun j=>.inr (by simp)) (fun h=>absurd rfl h);simp only[Yr,List.map_map]at this;rw[show(⟨l⟩:Array Oper).size=l.length from rfl,List.range_eq_range'];rw[show((fun x:Nat×Fl=>x.1) ∘ fun x=>(x,Fl.one))=_root_.id from rfl,List.map_id]at this;exact this
def mW (l:List Oper):List (Nat×Fl)->Option (List (Fl×Oper))
 | []=>some []
 | (i,f)::ix=>match l[i]?,mW l ix with
   | some o,some L=>some ((f,o)::L)
   | _,_=>none
theorem sM {l:List Oper}:∀{ix:List (Nat×Fl)} {L:List (Fl×Oper)},mW l ix=some L->Fits ⟨l⟩ ix L
 | [],L,h=>by injection h with h;subst h;trivial
 | (i,f)::ix,L,h=>by
   simp only[mW]at h;split at h
   ·rename_i o L' h1 h2;injection h with h;subst h;exact⟨rfl,by simpa using h1,sM h2⟩
   ·cases h
theorem VC.Sg (md:Md) (ix:List (Nat×Fl)) {id:Nat} {l:List Oper} {L:List (Fl×Oper)} (hne:md≠ .plain) (hm:P.follows .mixedOrders=true) (hs:Region.noSelect ⟨l⟩=true) (hp:cH md ⟨l⟩ l.length (Array.replicate l.length false) ix=true) (hL:mW l ix=some L)
  (h:VL P n D md ⟨l⟩ L e O Q):VC P n D (.region id ⟨l⟩ true) e O Q:=by
 have:=h l.length (Array.replicate l.length false) ix (sM hL) (fun _=>⟨hs,hp⟩);cases md with
 | plain=>exact absurd rfl hne
 | any=>exact VC.draw hm this
 | reads=>exact fun G a w hw hf=>wp_region_held hm (this G a _ (hw.drawn _) hf)
 | held brk=>exact VC.II brk hm this
end
theorem aeT (b:Bool):(b==true)=b:=by cases b<;>rfl
theorem aeU (b:Bool):(b==false)= !b:=by cases b<;>rfl
theorem Sh {a b:Int} (h:a=b):(a==b)=true:=by simpa using h
theorem Si {a b:Int} (h:¬a=b):(a==b)=false:=by simpa using h
theorem Sj {a b:Int} (h:¬a=b):(a != b)=true:=by simpa using h
theorem Sk {a b:Int} (h:a=b):(a != b)=false:=by simpa using h
def aE (Φ :MV->VH->Prop):fU->VH->Prop
 | .ret m,O=> Φ m O
 | .panic _,_=>False
section
variable {n:Sz} {D:List Deferred} {e:Env} {P:Program} {tab:bY} {O:VH} {ops:Array Oper} {Q:VQ} {Φ :MV->VH->Prop}
theorem KY {m:MV}:aE Φ (.ret m) O= Φ m O:=rfl
end
theorem Cl (f:Fl):∀(l pre:List Oper),mW (pre++l) ((List.range' pre.length l.length).map (·,f))=some (l.map (f, ·))
 | [],_=>rfl
 | o::l,pre=>by
   rw[ah5,List.range'_succ,ahZ,ahZ,mW];have:=Cl f l (pre++[o]);rw[alF,ah2]at this;simp only[List.singleton_append,ah5,List.length_nil,ah0]at this;rw[this];simp
theorem VC.Sl {n:Sz} {D:List Deferred} {e:Env} {P:Program} {O:VH} {Q:VQ} {id:Nat} {l:List Oper} (hm:P.follows .mixedOrders=true) (hs:Region.noSelect ⟨l⟩=true) (hp:cH .reads ⟨l⟩ l.length (Array.replicate l.length false) ((List.range' 0 l.length).map (·,Fl.rd))=true)
  (h:VL P n D .reads ⟨l⟩ (l.map (Fl.rd, ·)) e O Q):VC P n D (.region id ⟨l⟩ true) e O Q:=
 VC.Sg .reads _ (by simp) hm hs hp (Cl .rd l []) h
theorem Sm {k:IntKind} {a b:Int}:Ba (.v (.int k a)) (.v (.int k b))=some (.v (.int k (max a b))):=by
 simp only[Ba];have:(if b>a then b else a)=max a b:=by split<;>omega
 rw[this]
theorem Sn {k:IntKind} {a b:Int}:Bb (.v (.int k a)) (.v (.int k b))=some (.v (.int k (min a b))):=by
 simp only[Bb];have:(if b<a then b else a)=min a b:=by split<;>omega
 rw[this]
theorem KZ {e:Env} {tab:bY} {O:VH} {d:Option Tmp} {ty:TypeId} {p:String} {af:Array Edge} {g:Option (Nat×Bool)} {c x y:Operand}:c8 tab (.mk d (.pick c x y) ty p af g) e O=((ev e c).bind fun b=>match b with
  | .v (.bool true)=>ev e x
  | .v (.bool false)=>ev e y
  | _=>none).map (·,O):=by
 simp only[c8,eG,iQ];cases ev e c with
 | none=>rfl
 | some m=>
   cases m<;>try rfl
   rename_i v;cases v<;>try rfl
   rename_i b;cases b
   ·simp only[agx];cases ev e y<;>rfl
   ·simp only[agx];cases ev e x<;>rfl
theorem zp0 (l:List MV):gx #[] l=[]:=rfl
theorem So (b o:Nat):Kw (.ptr b o)=some (.ptr b o):=rfl
theorem Sq (cs:List MV) (o:Nat):Kw (.db cs o)=some (.db cs o):=rfl
theorem Bi (x:Value):dJ (.v x)=[.v x]:=rfl
theorem yp (k:Nat) (cs:List MV) (tk:Tok):dJ (.sl k cs tk)=[.sl k cs tk]:=rfl
theorem uU (l:List UInt8):dJ (.str l)=[.str l]:=rfl
theorem uV (b o:Nat):dJ (.ptr b o)=[.ptr b o]:=rfl
theorem uW (cs:List MV):dJ (.agg cs)=cs:=rfl
section
variable {tab:bY} {O:VH} {t:TypeId} {u:TypeDesc} {d:Nat} {y cs:List MV} {k off:Nat}
end
section
variable {tab:bY} {t el:TypeId} {u:TypeDesc} {a b d:Nat} {z:List MV} {y:MV} {k0 k1:Nat} {c0 c1:List MV} {t0 t1:Tok}
end
theorem VC.freeze {n:Sz} {D:List Deferred} {e:Env} {P:Program} {O:VH} {Q:VQ} {c:Code} (t:Nat) {k o i cp sz:Nat} {cs:List MV} (ht:look e t=some (.bq k o i cp)) (hk:O.hp k=some (.cells cs)) (hs:o+sz<=cs.length)
  (h:VC P n D c ((t,.sl i ((cs.drop o).take sz) (if cp=i then .full else .ar))::e) (O.kill k) Q):VC P n D c e O Q:=by
 intro G a w hw hf;obtain⟨u,ue,dm⟩:=hf.get t _ ht;obtain⟨H,h1,h2,h3⟩:=hw.freeze hk dm hs
 have yx:FR H n D ((t,.sl i ((cs.drop o).take sz) (if cp=i then .full else .ar))::e) a:=by
  have hm:=hf.mono h1;refine⟨hm.defers,hm.size,fun s x hx=>?_⟩;rw[mc]at hx;cases hb:s==t with
  | true=>
    rw[hb,cond_true]at hx;injection hx with hx;subst hx
    have:s=t:=by simpa using hb
    subst this;exact⟨u,ue,h3⟩
  | false=>rw[hb,cond_false]at hx;exact hm.get s x hx
 exact wp_mono (h H a w h2 yx) fun _ _ _=>cz.le h1
set_option linter.defProp false in
def Yt:=yP @So<|yP @Sq<|yP @Bi<|yP @yp<|yP @uU<|yP @uV<|yP @uW<|yP @Po<|yP @Pp<|yP @Pq<|yP @Uc<|yP @Ud<|yP @zC<|yP @Cb<|yP @uK<|yP @Cc<|yP @zM<|yP @Cj<|yP @uR<|yP @Ck<|yP @Ue<|yP @acB<|yP @Uf<|yP @Ug<|yP @Uh<|yP @Ui<|yP @wJ<|yP @Ho<|yP @KT<|yP @R9<|yP @R_<|yP @Sa<|yP @Sb<|yP @Sc<|yP @Sd<|yP @Se<|yP @Hp<|yP @Hq<|yP @Cg<|yP @Hr<|yP @xB<|yP @D5<|yP @Hs<|yP @zK<|yP @uP<|yP @D6<|yP @uQ<|yP @D7<|yP @zL<|yP @D8<|yP @D9<|yP @xC<|yP @pF<|yP @Ht<|yP @D_<|yP @KU<|yP @KV<|yP @KW<|yP @Ci<|yP @Ea<|yP @KX<|yP @Eb<|yP @tO<|yP @uS<|yP @aeT<|yP @aeU<|yP @Sh<|yP @Si<|yP @Sj<|yP @Sk<|yP @zD<|yP @zE<|yP @D3<|yP @D4<|yP @aj<|yP @D2<|yP @wrap_i64<|yP @G8<|yP @Ca<|yP @KZ<|yP @Sm<|yP @Sn<|yP @xy<|yP @DV<|yP @G9<|yP @zA<|yP @uH<|yP @DW<|yP @uI<|yP @DY<|yP @zB<|yP @DZ<|yP @xz<|yP @D0<|yP @G_<|yP @Ha<|yP @KH<|yP @KI<|yP @KJ<|yP @cX<|yP @Hb<|yP @D1<|yP @KL<|yP @Pf<|yP @tJ<|yP @uJ<|yP @R5<|yP @R6<|yP @KD<|yP @R7<|yP @G6<|yP @DT<|yP @DU<|yP @zy<|yP @B_<|yP @KE<|yP @mc<|yP @KF<|yP @G7<|yP @Hc<|yP @Hd<|yP @He<|yP @Hf<|yP @Hg<|yP @Hh<|yP @Hi<|yP @Hj<|yP @Hk<|yP @KM<|yP @KN<|yP @aq<|yP @a_<|yP @zp0<|yP @zp1<|yP @zp2<|yP @zp3<|yP @VH.sL<|yP @Cd<|yP @Ph<|yP @Pj @T_
end Go.Proofs.YtoclnkfdahmnhaaGreatDoor
