import Derived.Below
import Derived.LoopN
import Derived.OrdersHeld
import Derived.Deep.Draws
import Derived.WalkKit
import Derived.WalkSpells
import Derived.KernelRfl
import Derived.Lib.Builder
import Derived.MapKept
import Derived.Scope
set_option linter.unusedVariables false
set_option linter.defProp false
set_option linter.unusedSimpArgs false
namespace Go.Proofs.YtjpadehgejlebaaGreatDoor
open Go.RowKit
open _root_.List renaming range → Ν
open Go.Value renaming int → Ι
open Go.IntKind renaming i64 → Κ
open _root_.List renaming length → Ζ
open _root_.Option renaming some → φ, none → Β
open _root_.Bool renaming false → γ, true → Α
open _root_.List renaming getElem?_take → YI, getElem?_eq_some_iff → af_, getElem?_eq_getElem → aga, getElem?_drop → agb, mapM_cons → akd, eq_nil_of_length_eq_zero → alQ, map_cons → alS, length_append → alV, length_cons → ap3, getElem?_toArray → ap4, append_assoc → ap_, getElem?_append_left → aqa, all_eq_true → aqb, getElem?_cons_zero → aqc, getElem?_cons_succ → aqd
open _root_.Nat renaming le_refl → aka, zero_le → alO, zero_add → alT, add_assoc → ap2, lt_or_ge → ap5
open _root_.And renaming intro → Ca
open _root_.Option renaming map_eq_some_iff → Th, bind_eq_some_iff → Ti, map_some → akb, bind_eq_bind → akc, isSome_none → ake, bind_some → alP
open _root_.Bool renaming and_eq_true → WT, false_eq_true → abx, or_eq_true → aqe
open _root_.Array renaming ext' → agc, getElem?_eq_getElem → akf, getElem?_eq_none → alR, length_toList → alU, getElem?_setIfInBounds_ne → aoT, getD_eq_getD_getElem? → ap6, toList_setIfInBounds → ap7, getElem?_append_left → ap8, mapM_eq_mapM_toList → ap9
variable{ps:Array (Nat×Value)}{listed:Array Bool}{ops:Array Oper}{C:Array Value}{c y:Code}{Q Q':Exit->Act->World->Prop}{fn:Func}{a:Int}{D:List Deferred}{E:List MapEntry}{brk l rs:List Nat}{us:List Value}{N b f fuel i j k n off q r sz:Nat}{o:Oper}{x xo yo:Operand}{d:Option Tmp}{lv:Option Value}{P:Program}{s:Sem Value}{kv u v:Value}{w':World}{S:World->Prop}
abbrev ϑ:=Option Nat
abbrev ϕ:=List Oper
abbrev Χ:=List Int
abbrev Τ:=List Nat
abbrev Ρ:=List UInt8
abbrev Ο:=List Χ
inductive Tok where
 | nil | full | own (t k:Nat) | au
 deriving DecidableEq
inductive MV where
 | v (x:Value)
 | s (l:Ρ)
 | p (b off:Nat)
 | d_ (cells:List MV) (off:Nat)
 | l (n:Nat) (cells:List MV) (t:Tok)
 | aS (b off len cap:Nat)
 | map (b:Nat)
 | func (fn:Fn) (first captured:List MV)
 | iface (t:TypeId) (x:MV)
 | agg (cells:List MV)
 | tuple (vs:List MV)
abbrev Η:=List MV
structure Gh where
 w0:World
 cu:Nat->Option Nat
 fB:Nat->Nat->Option Value
 tok:Nat->Option (Nat×Nat×Nat×Nat)
abbrev Gh.B(G:Gh):Nat:=G.w0.heap.size
structure Gh.Le(G H:Gh):Prop where
 w0:H.w0=G.w0
 cu:∀{k b},G.cu k=φ b->H.cu k=φ b
 fB:∀{b o u},G.fB b o=φ u->H.fB b o=φ u
 tok:∀{t x},G.tok t=φ x->H.tok t=φ x
def jSx(j:Nat):((j:Int)+1)=((j+1:Nat):Int):=by omega
def Gh.Le.refl(G:Gh):G.Le G:=⟨rfl,id,id,id⟩
def Gh.Le.trans{G H K:Gh}(h:G.Le H)(k:H.Le K):G.Le K:=
 ⟨k.w0.trans h.w0,λx=>k.cu (h.cu x),λx=>k.fB (h.fB x),λx=>k.tok (h.tok x)⟩
structure GP where
 p:Gh->Prop
 mono:∀{G H:Gh},G.Le H->p G->p H
inductive cx where
 | cells (cs:Η)
 | map (es:List (MV×MV×Nat)) (clock:Nat)
 | tok
 | shape (k:Nat) (t:TypeId) (n:Nat)
 | obj (x:Obj)
 | fact (p:GP)
structure VH where
 N:Nat
 hp:Nat->Option cx
def bS{α :Type}(f:Nat->Option α)(k:Nat)(x:Option α):Nat->Option α :=λj=>bif Nat.beq j k then x else f j
def aN{α :Type}(f:Nat->Option α)(k:Nat)(x:Option α):bS f k x k=x:=by simp[bS]
def aA{α :Type}(f:Nat->Option α)(x:Option α)(h:j≠k):bS f k x j=f j:=by
 have:j.beq k=γ:=by rw[<-Bool.not_eq_true];intro e;exact h (Nat.eq_of_beq_eq_true e)
 simp[bS,this]
def VH.set(O:VH)(k:Nat)(x:cx):VH:={O with hp:=bS O.hp k (φ x)}
def VH.push(O:VH)(x:cx):VH:=⟨O.N+1,bS O.hp O.N (φ x)⟩
def VH.kill(O:VH)(k:Nat):VH:={O with hp:=bS O.hp k Β}
def plain:Value->Bool
 | .bool _ | .int _ _ | .float _ _ | .complex _ _ _ | .pointer Β | .map Β | .chan Β | .nilFunc | .nilIface=>Α
 | _=>γ
def Tok.ok(G:Gh):Tok->(b o n c sz:Nat)->Prop
 | .nil,_,_,_,_,_=>False
 | .full,_,_,n,c,_=>c=n
 | .own t k,b,o,n,c,sz=>c=n\/∃r,G.tok t=φ (b,o+sz,k,r)/\sz=n*k/\c=n+r
 | .au,_,_,_,_,_=>True
inductive VR(G:Gh):MV->Value->Prop
 | v {x:Value}:plain x=Α->VR G (.v x) x
 | s {l:Ρ}:VR G (.s l) (.string ⟨⟨l⟩⟩)
 | p {k o b:Nat}:G.cu k=φ b->VR G (.p k o) (.pointer (φ ⟨b,o,Β⟩))
 | d_ {cells:Η} {us:List Value} {off b o:Nat}:Ζ us=(Ζ cells)->(∀(i:Nat)(u:Value),us[i]?=φ u->G.fB b (o+i)=φ u)->
   (∀(i:Nat)(c:MV)(u:Value),cells[i]?=φ c->us[i]?=φ u->VR G c u)->VR G (.d_ cells off) (.pointer (φ ⟨b,o+off,Β⟩))
 | slnil:VR G (.l 0 [] .nil) (.slice Β 0 0)
 | rp {a:Addr} {c:Nat}:c<=maxLen->VR G (.l 0 [] .au) (.slice (φ a) 0 c)
 | mg:VR G (.l 0 [] .au) (.slice Β 0 0)
 | l {cells:Η} {us:List Value} {n c b o:Nat} {t:Tok}:Ζ us=(Ζ cells)->(∀(i:Nat)(u:Value),us[i]?=φ u->G.fB b (o+i)=φ u)->
   (∀(i:Nat)(c:MV)(u:Value),cells[i]?=φ c->us[i]?=φ u->VR G c u)->n<=c->c<=maxLen->t.ok G b o n c (Ζ cells)->VR G (.l n cells t) (.slice (φ ⟨b,o,Β⟩) n c)
 | aS {k o n c b:Nat}:G.cu k=φ b->n<=c->c<=maxLen->VR G (.aS k o n c) (.slice (φ ⟨b,o,Β⟩) n c)
 | map {k b:Nat}:G.cu k=φ b->VR G (.map k) (.map (φ b))
 | func {fn:Fn} {fs cs:Η} {us vs:List Value}:Ζ us=(Ζ fs)->(∀(i:Nat)(c:MV)(u:Value),fs[i]?=φ c->us[i]?=φ u->VR G c u)->
   (Ζ vs)=(Ζ cs)->(∀(i:Nat)(c:MV)(u:Value),cs[i]?=φ c->vs[i]?=φ u->VR G c u)->VR G (.func fn fs cs) (.func fn us.toArray vs.toArray)
 | iface {t:TypeId} {x:MV} {u:Value}:VR G x u->VR G (.iface t x) (.iface t u)
 | agg {cs:Η} {us:List Value}:Ζ us=(Ζ cs)->(∀(i:Nat)(c:MV)(u:Value),cs[i]?=φ c->us[i]?=φ u->VR G c u)->VR G (.agg cs) (.agg us.toArray)
 | tuple {cs:Η} {us:List Value}:Ζ us=(Ζ cs)->(∀(i:Nat)(c:MV)(u:Value),cs[i]?=φ c->us[i]?=φ u->VR G c u)->VR G (.tuple cs) (.tuple us.toArray)
def aW(G:Gh)(cs:Η)(us:List Value):Prop:=Ζ us=(Ζ cs)/\∀(i:Nat)(c:MV)(u:Value),cs[i]?=φ c->us[i]?=φ u->VR G c u
def VR.mono{G H:Gh}(h:G.Le H){m:MV}(r:VR G m u):VR H m u:=by
 induction r with
 | v h1=>exact .v h1
 | s=>exact .s
 | p h1=>exact .p (h.cu h1)
 | d_ h1 h2 h3 ih=>exact .d_ h1 (λi u hu=>h.fB (h2 i u hu)) (λi c u h4 h5=>ih i c u h4 h5)
 | slnil=>exact .slnil
 | rp h1=>exact .rp h1
 | mg=>exact .mg
 | l h1 h2 h3 h4 h5 h6 ih=>
   refine .l h1 (λi u hu=>h.fB (h2 i u hu)) (λi c u h7 h8=>ih i c u h7 h8) h4 h5 ?_;rename_i t;cases t with
   | nil=>exact h6
   | full=>exact h6
   | own t k=>
     rcases h6 with h6 | ⟨r,h7,h8⟩;exact .inl h6;exact .inr ⟨r,h.tok h7,h8⟩
   | au=>trivial
 | aS h1 h2 h3=>exact .aS (h.cu h1) h2 h3
 | map h1=>exact .map (h.cu h1)
 | func h1 h2 h3 h4 ih1 ih2=>exact .func h1 (λi c u a b=>ih1 i c u a b) h3 (λi c u a b=>ih2 i c u a b)
 | iface h1 ih=>exact .iface ih
 | agg h1 h2 ih=>exact .agg h1 λi c u a b=>ih i c u a b
 | tuple h1 h2 ih=>exact .tuple h1 λi c u a b=>ih i c u a b
def aW.mono{G H:Gh}(h:G.Le H){cs:Η}(r:aW G cs us):aW H cs us:=⟨r.1,λi c u a b=>(r.2 i c u a b).mono h⟩
def aW.nil{G:Gh}:aW G [] []:=⟨rfl,λi c u h=>by simp at h⟩
def aW.cons{G:Gh}{c:MV}{cs:Η}(h:VR G c u)(k:aW G cs us):aW G (c::cs) (u::us):=
 ⟨by simp[k.1],λi c' u' a b=>by
  cases i with
  | zero=>simp only[aqc,Option.some.injEq]at a b;subst a;subst b;exact h
  | succ i=>simp only[aqd]at a b;exact k.2 i c' u' a b⟩
def aW.head{G:Gh}{c:MV}{cs:Η}(h:aW G (c::cs) (u::us)):VR G c u:=h.2 0 c u rfl rfl
def aW.tail{G:Gh}{c:MV}{cs:Η}(h:aW G (c::cs) (u::us)):aW G cs us:=⟨by have:=h.1;simp at this;exact this,λi c u a b=>h.2 (i+1) c u (by simpa using a) (by simpa using b)⟩
def aW.fH{G:Gh}{c:MV}{cs:Η}(h:aW G (c::cs) us):∃u YJ,us=u::YJ/\VR G c u/\aW G cs YJ:=by
 cases us with
 | nil=>have:=h.1;simp at this
 | cons u us=>exact⟨u,us,rfl,h.head,h.tail⟩
def aW.jN{G:Gh}(h:aW G [] us):us=[]:=alQ h.1
def aW.append{G:Gh}{cs ds:Η}{ts:List Value}(h:aW G cs us)(k:aW G ds ts):aW G (cs++ds) (us++ts):=
 ⟨by simp[h.1,k.1],λi c u a b=>by
  rw[List.getElem?_append]at a b;rw[h.1]at b;split at a;rw[if_pos ‹_›]at b;exact h.2 i c u a b;rw[if_neg ‹_›]at b;exact k.2 _ c u a b⟩
def aW.drop{G:Gh}{cs:Η}(h:aW G cs us)(n:Nat):aW G (cs.drop n) (us.drop n):=
 ⟨by simp[h.1],λi c u a b=>by rw[agb]at a b;exact h.2 _ c u a b⟩
def aW.take{G:Gh}{cs:Η}(h:aW G cs us)(n:Nat):aW G (cs.take n) (us.take n):=
 ⟨by simp[h.1],λi c u a b=>by
  rw[YI]at a b;split at a;rw[if_pos ‹_›]at b;exact h.2 i c u a b;cases a⟩
def aW.get{G:Gh}{cs:Η}(h:aW G cs us){c:MV}(hc:cs[i]?=φ c):∃u,us[i]?=φ u/\VR G c u:=by
 have hl:i<Ζ us:=by rw[h.1];exact(af_.1 hc).1
 exact⟨us[i],aga hl,h.2 i c _ hc (aga hl)⟩
def aW.set{G:Gh}{cs:Η}(h:aW G cs us){c:MV}(hc:VR G c u):aW G (cs.set i c) (us.set i u):=
 ⟨by simp[h.1],λj c' u' a b=>by
  rw[List.getElem?_set]at a b;rw[h.1]at b;split at a;rw[if_pos ‹_›]at b;split at a;rw[if_pos ‹_›]at b;injection a with a;injection b with b;subst a;subst b;exact hc;cases a;rw[if_neg ‹_›]at b;exact h.2 j c' u' a b⟩
structure Fz(C:Array Value) where
 t:TypeId
 fr:Nat×Nat
 ok:fr.1=fr.2\/C.size<=fr.1
def Tg:Τ:=[0]
def OT(w:World):Prop:=∀g∈Tg,∃m,w.cell? ⟨g,0,Β⟩=φ (.int .i64 m)
structure WR(G:Gh)(O:VH)(w:World):Prop where
 base:Below G.B G.w0 w
 fB:∀b o u,G.fB b o=φ u->w.cell? ⟨b,o,Β⟩=φ u
 sq:∀k,O.N<=k->G.cu k=Β/\G.tok k=Β/\O.hp k=Β
 lU:∀k b,G.cu k=φ b->G.B<=b/\b<w.heap.size/\(O.hp k≠Β->∀o,G.fB b o=Β)
 inj:∀j k b,O.hp j≠Β->O.hp k≠Β->G.cu j=φ b->G.cu k=φ b->j=k
 cells:∀k cs,O.hp k=φ (.cells cs)->∃b,∃C:Array Value,∃T:Fz C,G.cu k=φ b/\w.heap[b]?=φ (.cells C T.t T.fr)/\aW G cs (C.toList.take (Ζ cs))
 map:∀k es ck,O.hp k=φ (.map es ck)->∃b E,G.cu k=φ b/\w.heap[b]?=φ (.map E ck)/\E.toList.map (·.born)=es.map (·.2.2)/\aW G (es.map (·.1)) (E.toList.map (·.key))/\aW G (es.map (·.2.1)) (E.toList.map (·.val))
 tok:∀t,O.hp t=φ .tok->∃b f k r C T,G.tok t=φ (b,f,k,r)/\G.B<=b/\w.heap[b]?=φ (.cells C T (0,0))/\f+r*k<=C.size/\(∀o,f<=o->G.fB b o=Β)/\∀j,G.cu j≠φ b
 nM:∀s t b x y,O.hp s=φ .tok->O.hp t=φ .tok->G.tok s=φ (b,x)->G.tok t=φ (b,y)->s=t
 mC:∀j k t n,O.hp j=φ (.shape k t n)->∃b,G.cu k=φ b/\w.shape? b=φ (t,n)
 obj:∀k x,O.hp k=φ (.obj x)->∃b,G.cu k=φ b/\w.heap[b]?=φ x
 tI:OT G.w0
 Eb:∀k p,O.hp k=φ (.fact p)->p.p G
section
variable{G:Gh}{O:VH}{w:World}
def WR.aby(h:WR G O w){o:Nat}(hc:G.fB b o=φ u):b<w.heap.size:=World.block_lt_of_cell? w _ (h.fB b o u hc)
def WR.oM(h:WR G O w):G.cu O.N=Β/\G.tok O.N=Β/\O.hp O.N=Β:=h.sq _ (aka _)
def WR.rq{G':Gh}{O':VH}(h:WR G O w)(hl:∀{k b},G.cu k=φ b->G'.cu k=φ b)(hO:∀j k t n,O'.hp j=φ (.shape k t n)->O.hp j=φ (.shape k t n))(hw:∀k b s,G.cu k=φ b->w.shape? b=φ s->w'.shape? b=φ s):
  ∀j k t n,O'.hp j=φ (.shape k t n)->∃b,G'.cu k=φ b/\w'.shape? b=φ (t,n):=λj k t n hj=>by
 obtain⟨b,h1,h2⟩:=h.mC j k t n (hO j k t n hj);exact⟨b,hl h1,hw k b _ h1 h2⟩
def ox{f:Nat->Option cx}{X:cx}(hX:∀k t n,X≠ .shape k t n)(j k t n:Nat)(h:bS f q (φ X) j=φ (.shape k t n)):f j=φ (.shape k t n):=by
 by_cases e:j=q;subst e;rw[aN]at h;injection h with h;exact absurd h (hX _ _ _)
 ·rwa [aA _ _ e]at h
def WR.uu{G':Gh}{O':VH}(h:WR G O w)(hl:∀{k b},G.cu k=φ b->G'.cu k=φ b)(hO:∀k x,O'.hp k=φ (.obj x)->O.hp k=φ (.obj x))(hw:∀k x b,O.hp k=φ (.obj x)->G.cu k=φ b->w.heap[b]?=φ x->w'.heap[b]?=φ x):
  ∀k x,O'.hp k=φ (.obj x)->∃b,G'.cu k=φ b/\w'.heap[b]?=φ x:=λk x hk=>by
 obtain⟨b,h1,h2⟩:=h.obj k x (hO k x hk);exact⟨b,hl h1,hw k x b (hO k x hk) h1 h2⟩
def xJ{f:Nat->Option cx}{X:cx}(hX:∀x,X≠ .obj x)(j:Nat)(x:Obj)(h:bS f q (φ X) j=φ (.obj x)):f j=φ (.obj x):=by
 by_cases e:j=q;subst e;rw[aN]at h;injection h with h;exact absurd h (hX _)
 ·rwa [aA _ _ e]at h
def WR.uv{G':Gh}{O':VH}(h:WR G O w)(hl:G.Le G')(hO:∀k p,O'.hp k=φ (.fact p)->O.hp k=φ (.fact p)):∀k p,O'.hp k=φ (.fact p)->p.p G':=λk p hk=>p.mono hl (h.Eb k p (hO k p hk))
def oN{f:Nat->Option cx}{X:cx}(hX:∀x,X≠ .fact x)(j:Nat)(x:GP)(h:bS f q (φ X) j=φ (.fact x)):f j=φ (.fact x):=by
 by_cases e:j=q;subst e;rw[aN]at h;injection h with h;exact absurd h (hX _)
 ·rwa [aA _ _ e]at h
def jO{w:World}{s:TypeId×Nat}(hh:∀x,w.heap[b]?=φ x->w'.heap[b]?=φ x)(h:w.shape? b=φ s):w'.shape? b=φ s:=by
 unfold World.shape? at h ⊢;generalize hx:w.heap[b]?=x at h;cases x with
 | none=>cases h
 | some x=>rw[hh x hx];exact h
def WR.drew(h:WR G O w):WR G O w.drew:=⟨h.base.drew,h.fB,h.sq,h.lU,h.inj,h.cells,h.map,h.tok,h.nM,h.mC,h.obj,h.tI,h.Eb⟩
def WR.drawn(h:WR G O w)(n:Nat):WR G O {w with drawn:=n}:=
 ⟨⟨h.base.os,h.base.tape,h.base.output,h.base.size,h.base.block⟩,h.fB,h.sq,h.lU,h.inj,h.cells,h.map,h.tok,h.nM,h.mC,h.obj,h.tI,h.Eb⟩
def WR.bsz(h:WR G O w):G.B<=w.heap.size:=h.base.size
def WR.alW(h:WR G O w){g:Nat}(hg:g∈Tg):∃m,w.cell? ⟨g,0,Β⟩=φ (.int .i64 m):=by
 obtain⟨m,hm⟩:=h.tI g hg;refine⟨m,?_⟩;have hb:=h.base.block g (World.block_lt_of_cell? _ _ hm);unfold World.cell? at hm ⊢;rw[hb];exact hm
def Gh.Le.Mq(h:G.cu k=Β)(b:Nat):G.Le {G with cu:=bS G.cu k (φ b)}:=
 ⟨rfl,λ{j b'} hj=>by
  show bS G.cu k (φ b) j=φ b';rw[aA _ _ (λe=>by subst e;rw[h]at hj;cases hj)];exact hj,id,id⟩
def gG(w:World)(o:Obj)(b:Nat):(w.alloc o).heap[b]?=if b=w.heap.size then φ o else w.heap[b]?:=by
 show(w.heap.push o)[b]?=_;rw[Array.getElem?_push]
def eC(w:World)(o:Obj){x:Obj}(h:w.heap[b]?=φ x):(w.alloc o).heap[b]?=φ x:=by
 rw[gG,if_neg (λe=>by subst e;rw[alR (aka _)]at h;cases h)];exact h
def tU{w:World}{x:Obj}(h:w.heap[b]?=φ x):b<w.heap.size:=(Array.getElem?_eq_some_iff.1 h).1
def Ec(w:World)(o:Obj){a:Addr}(h:w.cell? a=φ u):(w.alloc o).cell? a=φ u:=by
 rw[World.cell?_alloc_lt w o a (World.block_lt_of_cell? w a h)];exact h
def WR.grow(h:WR G O w)(o:Obj):WR G O (w.alloc o) where
 base:=h.base.alloc h.bsz o
 fB b p u hc:=Ec w o (h.fB b p u hc)
 sq:=h.sq
 lU k b hk:=by
  obtain⟨h1,h2,h3⟩:=h.lU k b hk;exact⟨h1,by simp;omega,h3⟩
 inj:=h.inj
 cells k cs hk:=by
  obtain⟨b,C,T,h1,h2,h3⟩:=h.cells k cs hk;exact⟨b,C,T,h1,eC w o h2,h3⟩
 map k es ck hk:=by
  obtain⟨b,E,h1,h2,h3⟩:=h.map k es ck hk;exact⟨b,E,h1,eC w o h2,h3⟩
 tok t ht:=by
  obtain⟨b,f,k,r,C,T,h1,h2,h3,h4⟩:=h.tok t ht;exact⟨b,f,k,r,C,T,h1,h2,eC w o h3,h4⟩
 nM:=h.nM
 mC:=h.rq id (λ_ _ _ _ h=>h) λ_ _ _ _=>jO λ_=>eC w o
 obj:=h.uu id (λ_ _ h=>h) λ_ _ _ _ _=>eC w o
 tI:=h.tI
 Eb:=h.Eb
def size_alloc(w:World)(o:Obj):(w.alloc o).heap.size=w.heap.size+1:=by simp
def WR.abz(h:WR G O w){cs:Η}(T:Fz C)(hc:aW G cs (C.toList.take (Ζ cs))):
  G.Le {G with cu:=bS G.cu O.N (φ w.heap.size)}/\WR {G with cu:=bS G.cu O.N (φ w.heap.size)} (O.push (.cells cs)) (w.alloc (.cells C T.t T.fr)):=by
 have hle:=Gh.Le.Mq h.oM.1 w.heap.size;have hg:=h.grow (.cells C T.t T.fr)
 have fC:∀k b,bS G.cu O.N (φ w.heap.size) k=φ b->(k=O.N/\b=w.heap.size)\/(k≠O.N/\G.cu k=φ b):=λk b hk=>by
  by_cases e:k=O.N;subst e;rw[aN]at hk;injection hk with hk;exact .inl ⟨rfl,hk.symm⟩;rw[aA _ _ e]at hk;exact .inr ⟨e,hk⟩
 have Tj:∀o,G.fB w.heap.size o=Β:=λo=>by
  cases hh:G.fB w.heap.size o with
  | none=>rfl
  | some u=>have:=h.aby hh;omega
 refine⟨hle,hg.base,hg.fB,λk hk=>?_,λk b hk=>?_,λj k b lj lk hj hk=>?_,λk ds hk=>?_,λk es ck hk=>?_,λt ht=>?_,λs t b x y hs ht h1 h2=>?_,h.rq hle.cu (ox (by simp)) λ_ _ _ _=>jO λ_=>eC w _,h.uu hle.cu (xJ (by simp)) λ_ _ _ _ _=>eC w _,h.tI,h.uv hle (oN (by simp))⟩;have hk:O.N+1<=k:=hk;obtain⟨h1,h2,h3⟩:=h.sq k (by omega);exact⟨by show bS _ _ _ _=_;rw[aA _ _ (by omega)];exact h1,h2,by show bS _ _ _ _=_;rw[aA _ _ (by omega)];exact h3⟩;rcases fC k b hk with⟨_,rfl⟩ | ⟨cK,hk⟩;exact⟨h.bsz,by simp,λ_=>Tj⟩;obtain⟨p1,p2,p3⟩:=hg.lU k b hk;exact⟨p1,p2,λhne=>p3 (by have hne:bS O.hp O.N (φ (.cells cs)) k≠Β:=hne;rwa [aA _ _ cK]at hne)⟩;rcases fC j b hj with⟨rfl,rfl⟩ | ⟨cA,hj⟩<;>rcases fC k _ hk with⟨rfl,hb⟩ | ⟨cK,hk⟩;rfl;have:=(h.lU _ _ hk).2.1;omega;subst hb;have:=(h.lU _ _ hj).2.1;omega;exact h.inj j k b (by have lj:bS O.hp O.N (φ (.cells cs)) j≠Β:=lj;rwa [aA _ _ cA]at lj) (by have lk:bS O.hp O.N (φ (.cells cs)) k≠Β:=lk;rwa [aA _ _ cK]at lk) hj hk;have hk:bS O.hp O.N (φ (.cells cs)) k=φ (.cells ds):=hk;by_cases e:k=O.N;subst e;rw[aN]at hk;injection hk with hk;injection hk with hk;subst hk;refine⟨w.heap.size,C,T,aN _ _ _,by rw[gG,if_pos rfl],?_⟩;exact hc.mono hle;rw[aA _ _ e]at hk;obtain⟨b,D,T',h1,h2,h3⟩:=hg.cells k ds hk;exact⟨b,D,T',hle.cu h1,h2,h3.mono hle⟩;have hk:bS O.hp O.N (φ (.cells cs)) k=φ (.map es ck):=hk;by_cases e:k=O.N;subst e;rw[aN]at hk;cases hk;rw[aA _ _ e]at hk;obtain⟨b,E,h1,h2,h3,h4,h5⟩:=hg.map k es ck hk;exact⟨b,E,hle.cu h1,h2,h3,h4.mono hle,h5.mono hle⟩;have ht:bS O.hp O.N (φ (.cells cs)) t=φ .tok:=ht;by_cases e:t=O.N;subst e;rw[aN]at ht;cases ht;rw[aA _ _ e]at ht;obtain⟨b,f,k,r,D,T',h1,h2,h3,h4,h6,h7⟩:=hg.tok t ht;obtain⟨_,_,_,_,_,_,h1',_,h3',_⟩:=h.tok t ht;refine⟨b,f,k,r,D,T',h1,h2,h3,h4,h6,λj hj=>?_⟩;rcases fC j b hj with⟨_,rfl⟩ | ⟨_,hj⟩;rw[h1]at h1';injection h1' with e1;injection e1 with e1 _;subst e1;have:=tU h3';omega;exact h7 j hj;have hs:bS O.hp O.N (φ (.cells cs)) s=φ .tok:=hs;have ht:bS O.hp O.N (φ (.cells cs)) t=φ .tok:=ht;((have es:s≠O.N:=λe=>by subst e;rw[aN]at hs;cases hs);have et:t≠O.N:=λe=>by subst e;rw[aN]at ht;cases ht);rw[aA _ _ es]at hs;rw[aA _ _ et]at ht;exact h.nM s t b x y hs ht h1 h2
def WR.push(h:WR G O w){cs:Η}(T:TypeId)(hc:aW G cs C.toList):
  G.Le {G with cu:=bS G.cu O.N (φ w.heap.size)}/\WR {G with cu:=bS G.cu O.N (φ w.heap.size)} (O.push (.cells cs)) (w.alloc (.cells C T)):=
 h.abz ⟨T,(0,0),.inl rfl⟩ (by rw[List.take_of_length_le (by rw[hc.1];exact aka _)];exact hc)
def WR.forget(h:WR G O w){O':VH}(hn:O.N<=O'.N)(hh:∀k,O'.hp k=Β\/O'.hp k=O.hp k):WR G O' w where
 base:=h.base
 fB:=h.fB
 sq k hk:=by
  obtain⟨h1,h2,h3⟩:=h.sq k (by omega);exact⟨h1,h2,by rcases hh k with e | e<;>rw[e];exact h3⟩
 lU k b hk:=by
  obtain⟨p1,p2,p3⟩:=h.lU k b hk
  exact⟨p1,p2,λhne=>p3 (by rcases hh k with e | e; · exact absurd e hne
                           ·rwa [e]at hne)⟩
 inj j k b lj lk:=h.inj j k b (λe=>(hh j).elim lj (λe'=>lj (e'.trans e))) (λe=>(hh k).elim lk (λe'=>lk (e'.trans e)))
 cells k cs hk:=h.cells k cs (by rcases hh k with e | e<;>rw[e]at hk; · cases hk
                                 ·exact hk)
 map k es ck hk:=h.map k es ck (by rcases hh k with e | e<;>rw[e]at hk; · cases hk
                                   ·exact hk)
 tok t ht:=h.tok t (by rcases hh t with e | e<;>rw[e]at ht; · cases ht
                       ·exact ht)
 nM s t b x y hs ht h1 h2:=h.nM s t b x y (by rcases hh s with e | e<;>rw[e]at hs; · cases hs
                                              ·exact hs) (by rcases hh t with e | e<;>rw[e]at ht; · cases ht
                                                             ·exact ht) h1 h2
 mC:=h.rq id (λj k t n hj=>by rcases hh j with e | e<;>rw[e]at hj; · cases hj
                              ·exact hj) λ_ _ _ _ h=>h
 obj:=h.uu id (λj x hj=>by rcases hh j with e | e<;>rw[e]at hj; · cases hj
                           ·exact hj) λ_ _ _ _ _ h=>h
 tI:=h.tI
 Eb:=h.uv (Gh.Le.refl _) λj x hj=>by
  rcases hh j with e | e;rw[e]at hj;cases hj;rw[e]at hj;exact hj
def WR.kill(h:WR G O w)(k:Nat):WR G (O.kill k) w:=h.forget (aka _) λj=>by
 show bS _ _ _ j=Β\/bS _ _ _ j=_;by_cases e:j=k;subst e;exact .inl (aN _ _ _);exact .inr (aA _ _ e)
def Ct(G:Gh)(b:Nat)(f:Nat->Option Value):Gh:={G with fB:=λb' o=>if b'=b then f o else G.fB b' o}
def Tl{f:Nat->Option Value}(h:∀o u,G.fB b o=φ u->f o=φ u):G.Le (Ct G b f):=
 ⟨rfl,id,λ{b' o u} hc=>by
  show(if b'=b then f o else G.fB b' o)=φ u;split;subst b';exact h o u hc;exact hc,id⟩
def WR.GI(h:WR G O w){f:Nat->Option Value}(hold:∀o u,G.fB b o=φ u->f o=φ u)(cj:∀o u,f o=φ u->w.cell? ⟨b,o,Β⟩=φ u)
  (fC:∀k,O.hp k≠Β->G.cu k≠φ b) (xK:∀t c x,O.hp t=φ .tok->G.tok t=φ (c,x)->c=b->∀o,x.1<=o->f o=Β):G.Le (Ct G b f)/\WR (Ct G b f) O w:=by
 have hle:=Tl (G:=G) hold;refine⟨hle,h.base,λb' o u hc=>?_,h.sq,λk c hk=>?_,h.inj,λk cs hk=>?_,λk es ck hk=>?_,λt ht=>?_,h.nM,h.rq hle.cu (λ_ _ _ _ h=>h) λ_ _ _ _ h=>h,h.uu hle.cu (λ_ _ h=>h) λ_ _ _ _ _ h=>h,h.tI,h.uv hle λ_ _ h=>h⟩;have jm:(if b'=b then f o else G.fB b' o)=φ u:=hc;split at jm;subst b';exact cj o u jm;exact h.fB b' o u jm;obtain⟨h1,h2,h3⟩:=h.lU k c hk;refine⟨h1,h2,λhne o=>?_⟩;show(if c=b then f o else G.fB c o)=Β;rw[if_neg (λe=>fC k hne (by rw[<-e];exact hk))];exact h3 hne o;obtain⟨c,C,T,h1,h2,h3⟩:=h.cells k cs hk;exact⟨c,C,T,h1,h2,h3.mono hle⟩;obtain⟨c,E,h1,h2,h3,h4,h5⟩:=h.map k es ck hk;exact⟨c,E,h1,h2,h3,h4.mono hle,h5.mono hle⟩;obtain⟨c,g,k,r,C,T,h1,h2,h3,h4,h6,h7⟩:=h.tok t ht;refine⟨c,g,k,r,C,T,h1,h2,h3,h4,λo ho=>?_,h7⟩;show(if c=b then f o else G.fB c o)=Β;split;exact xK t c _ ht h1 ‹_› o ho;exact h6 o ho
def Kj(w:World)(C:Array Value)(T:TypeId)(fr:Nat×Nat)(o:Nat):(w.alloc (.cells C T fr)).cell? ⟨w.heap.size,o,Β⟩=C[o]?:=by
 have:(w.alloc (.cells C T fr)).heap[w.heap.size]?=φ (.cells C T fr):=by rw[gG,if_pos rfl]
 simp only[World.cell?,this,ake,abx,if_false]
def WR.vR(h:WR G O w)(k:Nat):G.cu k≠φ w.heap.size:=λe=>by have:=(h.lU k _ e).2.1;omega
def WR.zO(h:WR G O w)(o:Nat):G.fB w.heap.size o=Β:=by
 cases hh:G.fB w.heap.size o with
 | none=>rfl
 | some u=>have:=h.aby hh;omega
def WR.r6(h:WR G O w){t c:Nat}{x:Nat×Nat×Nat}(ht:O.hp t=φ .tok)(hc:G.tok t=φ (c,x)):c≠w.heap.size:=λe=>by
 obtain⟨b,_,_,_,_,_,h1,_,h3,_⟩:=h.tok t ht;rw[hc]at h1;injection h1 with h1;injection h1 with h1 _;have:=tU h3;omega
def WR.lit(h:WR G O w)(C:Array Value)(T:TypeId):G.Le (Ct G w.heap.size λo=>C[o]?)/\WR (Ct G w.heap.size λo=>C[o]?) O (w.alloc (.cells C T)):=
 (h.grow (.cells C T)).GI (λo u hc=>by rw[h.zO]at hc;cases hc) (λo u hf=>by rw[Kj];exact hf) (λk _=>h.vR k)
  λt c x ht hc e=>absurd e (h.r6 ht hc)
def WR.WU(h:WR G O w){T:TypeId}(hB:G.B<=b)(hb:w.heap[b]?=φ (.cells C T (0,0)))(hf:f+r*k<=C.size)
  (OU:∀o,f<=o->G.fB b o=Β) (fC:∀j,G.cu j≠φ b) (xK:∀t c x,O.hp t=φ .tok->G.tok t=φ (c,x)->c≠b):
  G.Le {G with tok:=bS G.tok O.N (φ (b,f,k,r))}/\WR {G with tok:=bS G.tok O.N (φ (b,f,k,r))} (O.push .tok) w:=by
 have hle:G.Le {G with tok:=bS G.tok O.N (φ (b,f,k,r))}:=⟨rfl,id,id,λ{t x} ht=>by
  show bS G.tok O.N _ t=φ x;rw[aA _ _ (λe=>by subst e;rw[h.oM.2.1]at ht;cases ht)];exact ht⟩
 have qs:∀j x,bS O.hp O.N (φ cx.tok) j=φ x->(j=O.N/\x= .tok)\/(j≠O.N/\O.hp j=φ x):=λj x hj=>by
  by_cases e:j=O.N;subst e;rw[aN]at hj;injection hj with hj;exact .inl ⟨rfl,hj.symm⟩;rw[aA _ _ e]at hj;exact .inr ⟨e,hj⟩
 refine⟨hle,h.base,h.fB,λj hj=>?_,λj c hj=>?_,λj k' c lj lk hj hk=>?_,λj cs hj=>?_,λj es ck hj=>?_,λt ht=>?_,λs t c x y hs ht h1 h2=>?_,h.rq hle.cu (ox (by simp)) λ_ _ _ _ h=>h,h.uu hle.cu (xJ (by simp)) λ_ _ _ _ _ h=>h,h.tI,h.uv hle (oN (by simp))⟩;have hj:O.N+1<=j:=hj;obtain⟨h1,h2,h3⟩:=h.sq j (by omega);exact⟨h1,by show bS _ _ _ _=_;rw[aA _ _ (by omega)];exact h2,by show bS _ _ _ _=_;rw[aA _ _ (by omega)];exact h3⟩
 ·obtain⟨p1,p2,p3⟩:=h.lU j c hj;refine⟨p1,p2,λhne=>p3 ?_⟩;have hne:bS O.hp O.N (φ cx.tok) j≠Β:=hne
  rwa [aA _ _ (λe=>by subst e;have hj:G.cu O.N=φ c:=hj;rw[h.oM.1]at hj;cases hj)]at hne
 ·have hl:∀m,G.cu m=φ c->bS O.hp O.N (φ cx.tok) m≠Β->O.hp m≠Β:=λm hm hn=>by
   rwa [aA _ _ (λe=>by subst e;rw[h.oM.1]at hm;cases hm)]at hn
  exact h.inj j k' c (hl j hj lj) (hl k' hk lk) hj hk
 ·rcases qs j _ hj with⟨_,e⟩ | ⟨_,hj⟩;cases e;obtain⟨c,D,T',h1,h2,h3⟩:=h.cells j cs hj;exact⟨c,D,T',h1,h2,h3.mono hle⟩
 ·rcases qs j _ hj with⟨_,e⟩ | ⟨_,hj⟩;cases e;obtain⟨c,E,h1,h2,h3,h4,h5⟩:=h.map j es ck hj;exact⟨c,E,h1,h2,h3,h4.mono hle,h5.mono hle⟩
 ·rcases qs t _ ht with⟨rfl,_⟩ | ⟨e,ht⟩;exact⟨b,f,k,r,C,T,aN _ _ _,hB,hb,hf,OU,fC⟩;obtain⟨c,g,k',r',D,T',h1,h2⟩:=h.tok t ht;exact⟨c,g,k',r',D,T',by show bS _ _ _ _=_;rw[aA _ _ e];exact h1,h2⟩
 ·have h1:bS G.tok O.N (φ (b,f,k,r)) s=φ (c,x):=h1;have h2:bS G.tok O.N (φ (b,f,k,r)) t=φ (c,y):=h2;rcases qs s _ hs with⟨rfl,_⟩ | ⟨es,hs⟩<;>rcases qs t _ ht with⟨rfl,_⟩ | ⟨et,ht⟩;rfl;rw[aN]at h1;rw[aA _ _ et]at h2;injection h1 with h1;injection h1 with h1 _;subst h1;exact absurd rfl (xK t _ _ ht h2);rw[aN]at h2;rw[aA _ _ es]at h1;injection h2 with h2;injection h2 with h2 _;subst h2;exact absurd rfl (xK s _ _ hs h1);rw[aA _ _ es]at h1;rw[aA _ _ et]at h2;exact h.nM s t c x y hs ht h1 h2
def WR.store(h:WR G O w){cs:Η}{c:MV}(hk:O.hp k=φ (.cells cs))(hp:G.cu k=φ b)(hi:i<Ζ cs)(hc:VR G c u):
  WR G (O.set k (.cells (cs.set i c))) (w.setCell ⟨b,i,Β⟩ u):=by
 obtain⟨b',C,T,h1,h2,h3⟩:=h.cells k cs hk;rw[hp]at h1;injection h1 with h1;subst h1;have hne:∀j b',j≠k->O.hp j≠Β->G.cu j=φ b'->b'≠b:=λj b' hj lj o_ e=>hj (h.inj j k b lj (by rw[hk];simp) (e▸o_) hp)
 have ll:∀j,bS O.hp k (φ (.cells (cs.set i c))) j≠Β->O.hp j≠Β:=λj hn=>by
  by_cases e:j=k;subst e;rw[hk];simp
  ·rwa [aA _ _ e]at hn
 have ru:(w.setCell ⟨b,i,Β⟩ u).heap[b]?=φ (.cells (C.setIfInBounds i u) T.t T.fr):=by
  simp[World.setCell,Array.getElem?_modify,h2]
 have fD:∀j,j≠b->(w.setCell ⟨b,i,Β⟩ u).heap[j]?=w.heap[j]?:=λj hj=>Below.heap_setCell _ _ _ _ (by simpa using hj)
 refine⟨h.base.setCell (h.lU k b hp).1 u,λb' o u' ry=>?_,λj hj=>?_,λj b' hj=>?_,λj k' b' lj lk=>h.inj j k' b' (ll j lj) (ll k' lk),λj ds hj=>?_,λj es ck hj=>?_,λt ht=>?_,λs t b' x y hs ht=>?_,h.rq id (ox (by simp)) λj b' s _ hs=>?_,h.uu id (xJ (by simp)) λj x b' hj hb hx=>by rw[fD _ (hne j b' (λe=>by subst e;rw[hk]at hj;cases hj) (by rw[hj];simp) hb)];exact hx,h.tI,h.uv (Gh.Le.refl _) (oN (by simp))⟩
 ·(have xL:b'≠b:=λe=>by subst e;rw[(h.lU k b' hp).2.2 (by rw[hk];simp) o]at ry;cases ry);rw[World.cell?_setCell_other _ _ _ _ (λe=>xL (by injection e with e;exact e.symm))];exact h.fB b' o u' ry
 ·obtain⟨d1,d2,d3⟩:=h.sq j hj;refine⟨d1,d2,?_⟩;show bS _ _ _ _=_;rw[aA _ _ (λe=>by subst e;rw[d3]at hk;cases hk)];exact d3
 ·obtain⟨p1,p2,p3⟩:=h.lU j b' hj;refine⟨p1,by simp[World.setCell];exact p2,λhne=>p3 ?_⟩;have hne:bS O.hp k (φ (.cells (cs.set i c))) j≠Β:=hne;by_cases e:j=k;subst e;rw[hk];simp
  ·rwa [aA _ _ e]at hne
 ·have hj:bS O.hp k (φ (.cells (cs.set i c))) j=φ (.cells ds):=hj;by_cases e:j=k;subst e;rw[aN]at hj;injection hj with hj;injection hj with hj;subst hj;refine⟨b,_,⟨T.t,T.fr,by simpa using T.ok⟩,hp,ru,?_⟩;have:=h3.set (i:=i) hc;rw[ap7,List.length_set,List.take_set];exact this;rw[aA _ _ e]at hj;obtain⟨b',D,T',d1,d2,d3⟩:=h.cells j ds hj;exact⟨b',D,T',d1,by rw[fD _ (hne j b' e (by rw[hj];simp) d1)];exact d2,d3⟩
 ·have hj:bS O.hp k (φ (.cells (cs.set i c))) j=φ (.map es ck):=hj;by_cases e:j=k;subst e;rw[aN]at hj;cases hj;rw[aA _ _ e]at hj;obtain⟨b',E,d1,d2,d3⟩:=h.map j es ck hj;exact⟨b',E,d1,by rw[fD _ (hne j b' e (by rw[hj];simp) d1)];exact d2,d3⟩
 ·have ht:bS O.hp k (φ (.cells (cs.set i c))) t=φ .tok:=ht;(have e:t≠k:=λe=>by subst e;rw[aN]at ht;cases ht);rw[aA _ _ e]at ht;obtain⟨b',f,k',r,D,T',d1,d2,d3,d4,d6,d7⟩:=h.tok t ht;exact⟨b',f,k',r,D,T',d1,d2,by rw[fD _ (λe=>d7 k (by rw[e];exact hp))];exact d3,d4,d6,d7⟩
 ·have hs:bS O.hp k (φ (.cells (cs.set i c))) s=φ .tok:=hs;have ht:bS O.hp k (φ (.cells (cs.set i c))) t=φ .tok:=ht;((have e:t≠k:=λe=>by subst e;rw[aN]at ht;cases ht);have e':s≠k:=λe=>by subst e;rw[aN]at hs;cases hs);rw[aA _ _ e]at ht;rw[aA _ _ e']at hs;exact h.nM s t b' x y hs ht
 ·by_cases e:b'=b;subst e;simp only[World.shape?,h2]at hs;simp only[World.shape?,ru,Array.size_setIfInBounds];exact hs;exact jO (λx hx=>by rw[fD _ e];exact hx) hs
def WR.freeze(h:WR G O w){o c:Nat}{cs:Η}(hk:O.hp k=φ (.cells cs))(hx:VR G (.aS k o n c) u)(hl:o+sz<=Ζ cs):
  ∃H,G.Le H/\WR H (O.kill k) w/\VR H (.l n ((cs.drop o).take sz) (if c=n then .full else .au)) u:=by
 cases hx with
 | aS hp hn hm=>
   rename_i b;obtain⟨b',C,T,h1,h2,h3⟩:=h.cells k cs hk;rw[hp]at h1;injection h1 with h1;subst h1;have alX:=(h.lU k b hp).2.2 (by rw[hk];simp)
   obtain⟨hle,hW⟩:=(h.kill k).GI (b:=b) (f:=λo=>C[o]?) (λo u hc=>by rw[alX o]at hc;cases hc)
    (λo u hf=>by simp only[World.cell?,h2,ake,abx,if_false];exact hf)
    (λj hj hjb=>by
     have lj:O.hp j≠Β:=λe=>by
      by_cases e2:j=k;subst e2;exact hj (aN _ _ _);exact hj ((aA _ _ e2).trans e)
     have:j=k:=h.inj j k b lj (by rw[hk];simp) hjb hp;subst this;exact hj (aN _ _ _))
    (λt c' x ht ry e=>by
     subst e
     have ht':O.hp t=φ .tok:=by
      have ht:bS O.hp k Β t=φ .tok:=ht;by_cases e:t=k;subst e;rw[aN]at ht;cases ht
      ·rwa [aA _ _ e]at ht
     obtain⟨_,_,_,_,_,_,d1,_,_,_,_,d7⟩:=h.tok t ht';rw[ry]at d1;injection d1 with d1;injection d1 with d1 _;subst d1;exact absurd hp (d7 k))
   refine⟨_,hle,hW,?_⟩;have h4:aW G ((cs.drop o).take sz) (((C.toList.take (Ζ cs)).drop o).take sz):=(h3.drop o).take sz
   have h5:((C.toList.take (Ζ cs)).drop o).take sz=(C.toList.drop o).take sz:=by
    rw[List.drop_take,List.take_take,Nat.min_eq_left (by omega)]
   rw[h5]at h4;refine .l h4.1 (λi u hu=>?_) (λi c u a b=>(h4.2 i c u a b).mono hle) hn hm ?_;show(if b=b then C[o+i]? else _)=φ u;rw[if_pos rfl];rw[YI]at hu;split at hu;rw[agb]at hu;simpa using hu;cases hu;split;rename_i e;exact e;trivial
end
structure c6 where
 under:TypeDesc
 size:Nat
 bytes:Nat
 zero:Η
def eP:TypeDesc->Bool
 | .struct _ | .array _ _=>Α
 | _=>γ
structure AS(P:Program)(t:TypeId)(i:c6):Prop where
 under:P.underlying t=φ i.under
 info:∃ti z,P.info? t=φ ti/\ti.size=i.size/\ti.bytes=i.bytes/\ti.zero=φ z/\z.cells.size=i.size/\∀G,aW G i.zero z.cells.toList
 whole:∀ti z,P.info? t=φ ti->ti.zero=φ z->(eP i.under=Α->∃cs,z= .agg cs)/\(eP i.under=γ->z.cells= #[z])
abbrev cL:=TypeId->Option c6
def aR(P:Program)(tab:cL):Prop:=∀t i,tab t=φ i->AS P t i
def ofConst:Value->Option MV
 | .string s=>φ (.s s.data.toList)
 | .slice Β 0 0=>φ (.l 0 [] .nil)
 | x=>if plain x then φ (.v x)else Β
def Fe{G:Gh}{x:Value}{m:MV}(h:ofConst x=φ m):VR G m x:=by
 unfold ofConst at h;split at h;injection h with h;subst h;rename_i s;obtain⟨⟨l⟩⟩:=s;exact .s;injection h with h;subst h;exact .slnil;split at h;injection h with h;subst h;exact .v ‹_›;cases h
abbrev Env:=List (Nat×MV)
def look:Env->Nat->Option MV
 | [],_=>Β
 | (k,x)::r,t=>bif t==k then φ x else look r t
def ev(e:Env):Operand->Option MV
 | .tmp t=>look e t
 | .const v=>ofConst v
 | .global _=>Β
 | .func f=>φ (.func (.func f) [] [])
structure Sz where
 n:Nat
 lo:Nat
def mD(n:Sz):Env->Env
 | []=>[]
 | (t,m)::e=>bif decide (t<n.lo)then(t,m)::mD n e else mD n e
def Bz{n:Sz}:∀{e:Env} {t:Nat},look (mD n e) t=if t<n.lo then look e t else Β
 | [],t=>by simp[mD,look]
 | (k,m)::e,t=>by
   have ih:=Bz (n:=n) (e:=e) (t:=t);simp only[mD];by_cases hk:k<n.lo
   ·simp only[hk,decide_true,cond_true,look,ih];by_cases ht:t=k;subst ht;simp[hk]
    ·have:(t==k)=γ:=by simpa using ht
     simp[this]
   ·simp only[hk,decide_false,cond_false,look,ih];by_cases ht:t<n.lo
    ·(have:(t==k)=γ:=by simp;omega);simp[this]
    ·simp[ht]
structure FR(G:Gh)(n:Sz)(D:List Deferred)(e:Env)(a:Act):Prop where
 defers:a.defers=D
 size:a.tmps.size=n.n
 get:∀t x,look e t=φ x->∃u,a.tmps[t]?=φ u/\VR G x u
section
variable{G H:Gh}{n:Sz}{D:List Deferred}{e:Env}{a:Act}{P:Program}{tab:cL}{O O':VH}{w:World}{m:MV}
def FR.mono(h:FR G n D e a)(hl:G.Le H):FR H n D e a:=⟨h.defers,h.size,λt x hx=>by obtain⟨u,h1,h2⟩:=h.get t x hx;exact⟨u,h1,h2.mono hl⟩⟩
def FR.ev(h:FR G n D e a)(hx:ev e x=φ m):VR G m (a.eval x):=by
 cases x with
 | tmp t=>
   obtain⟨u,h1,h2⟩:=h.get t m hx
   have:a.eval (.tmp t)=u:=by
    show a.tmps.getD t undef=u;rw[ap6,h1];rfl
   rw[this];exact h2
 | const v=>exact Fe hx
 | global g=>cases hx
 | func f=>
   injection hx with hx;subst hx;exact VR.func (us:=[]) (vs:=[]) rfl (λi c u h=>by simp at h) rfl (λi c u h=>by simp at h)
def FR.put(h:FR G n D e a){d:Nat}(hd:d<n.n)(hu:VR G m u):FR G n D ((d,m)::e) (a.put (φ d) u):=by
 refine⟨h.defers,by simp[Act.put,h.size],λt x hx=>?_⟩;simp only[look]at hx;by_cases e':t=d;subst e';simp only[beq_self_eq_true,cond_true,Option.some.injEq]at hx;subst hx;exact⟨u,by simp[Act.put,h.size,hd],hu⟩
 ·have:(t==d)=γ:=by simpa using e'
  rw[this]at hx;obtain⟨u',h1,h2⟩:=h.get t x hx;refine⟨u',?_,h2⟩;simp only[Act.put];rw[aoT (Ne.symm e')];exact h1
def FR.less(h:FR G n D e a){e':Env}(hl:∀t x,look e' t=φ x->look e t=φ x):FR G n D e' a:=⟨h.defers,h.size,λt x hx=>h.get t x (hl t x hx)⟩
def il(e:Env)(l:List Operand):Option Η:=l.mapM (ev e)
def FR.il(h:FR G n D e a):∀{l:List Operand} {ms:Η},il e l=φ ms->aW G ms (l.map a.eval)
 | [],ms,hx=>by simp[Go.Proofs.YtjpadehgejlebaaGreatDoor.il]at hx;subst hx;exact aW.nil
 | x::l,ms,hx=>by
   simp only[Go.Proofs.YtjpadehgejlebaaGreatDoor.il,akd,akc,Ti]at hx;obtain⟨m,h1,ms',h2,h3⟩:=hx;injection h3 with h3;subst h3;exact aW.cons (h.ev h1) (FR.il h h2)
def tV(op:BinOp)(k:IntKind)(a b:Int):Option MV:=
 match op with
 | .add=>φ (.v (.int k (k.wrap (a+b))))
 | .sub=>φ (.v (.int k (k.wrap (a - b))))
 | .mul=>φ (.v (.int k (k.wrap (a*b))))
 | .quo=>if b=0 then Β else φ (.v (.int k (k.wrap (a.tdiv b))))
 | .rem=>if b=0 then Β else φ (.v (.int k (a.tmod b)))
 | .eql=>φ (.v (.bool (a==b)))
 | .neq=>φ (.v (.bool (a != b)))
 | .lss=>φ (.v (.bool (decide (a<b))))
 | .leq=>φ (.v (.bool (decide (a<=b))))
 | .gtr=>φ (.v (.bool (decide (a>b))))
 | .geq=>φ (.v (.bool (decide (a>=b))))
 | .and=>φ (.v (.int k (k.wrap (BitVec.ofInt k.bits a&&& BitVec.ofInt k.bits b).toNat)))
 | .or=>φ (.v (.int k (k.wrap (BitVec.ofInt k.bits a||| BitVec.ofInt k.bits b).toNat)))
 | .xor=>φ (.v (.int k (k.wrap (BitVec.ofInt k.bits a ^^^ BitVec.ofInt k.bits b).toNat)))
 | _=>Β
def Cu(op:BinOp)(k:IntKind)(a b:Int):Option MV:=
 if b<0 then Β else
 match op with
 | .shl=>φ (.v (.int k (k.wrap (a*2 ^ (min b.toNat k.bits)))))
 | .shr=>φ (.v (.int k (a.fdiv (2 ^ (min b.toNat k.bits)))))
 | _=>Β
def aiw(op:BinOp)(a b:Ρ):Option MV:=
 match op with
 | .add=>if (Ζ a)+Ζ b<=9223372036854775807 then φ (.s (a++b))else Β
 | .eql=>φ (.v (.bool (a==b)))
 | .neq=>φ (.v (.bool (!(a==b))))
 | .lss=>φ (.v (.bool (Op.bytesLess a b)))
 | .leq=>φ (.v (.bool (Op.bytesLess a b||a==b)))
 | .gtr=>φ (.v (.bool (!(Op.bytesLess a b||a==b))))
 | .geq=>φ (.v (.bool (!(Op.bytesLess a b))))
 | _=>Β
def pq(tab:cL)(op:BinOp)(t:TypeId)(same:Bool):Option MV:=
 match((tab t).map c6.under:Option TypeDesc),op with
 | some (.pointer _),.eql=>φ (.v (.bool same))
 | some (.pointer _),.neq=>φ (.v (.bool (!same)))
 | _,_=>Β
def dT(tab:cL)(op:BinOp)(t:TypeId)(x y:MV):Option MV:=
 match x,y with
 | .v (.int k a),.v (.int k' b)=>
   match op with
   | .shl=>Cu .shl k a b
   | .shr=>Cu .shr k a b
   | op=>if k=k' then tV op k a b else Β
 | .v (.bool a),.v (.bool b)=>
   match((tab t).map c6.under:Option TypeDesc),op with
   | some .bool,.eql=>φ (.v (.bool (a==b)))
   | some .bool,.neq=>φ (.v (.bool (!(a==b))))
   | _,_=>Β
 | .s a,.s b=>aiw op a b
 | .v (.pointer Β),.v (.pointer Β)=>pq tab op t Α
 | .p _ _,.v (.pointer Β)=>pq tab op t γ
 | .v (.pointer Β),.p _ _=>pq tab op t γ
 | .d_ _ _,.v (.pointer Β)=>pq tab op t γ
 | .v (.pointer Β),.d_ _ _=>pq tab op t γ
 | .p b o,.p b' o'=>if b=b'/\o=o' then(match((tab t).map c6.under:Option TypeDesc)with
   | some (.pointer el)=>match tab el with
     | some te=>if te.size=0 then Β else pq tab op t Α
     | none=>Β
   | _=>Β)else Β
 | _,_=>Β
def toList_mk(l:Ρ):(⟨⟨l⟩⟩:ByteArray).toList=l:=by
 rw[ByteArray.toList_eq]
def run_equal_bool{t:TypeId}(h:P.underlying t=φ .bool)(a b:Bool)(w:World):(Op.equal t (.bool a) (.bool b)).run P w= .ok (a==b) w:=by
 show(Op.equalIn (9999+1) t (.bool a) (.bool b)).run P w=_;generalize 9999=d;simp[Op.equalIn,run_underlying h]
def SS(G:Gh)(w:World):Prop:=∀b o u,G.fB b o=φ u->w.cell? ⟨b,o,Β⟩=φ u
def WR.ss(h:WR G O w):SS G w:=h.fB
def bu(P:Program)(s:Sem Value)(G:Gh)(m:MV):Prop:=∃u,VR G m u/\∀w,SS G w->s.run P w= .ok u w
def bu.of(hr:∀w,SS G w->s.run P w= .ok u w)(hu:VR G m u):bu P s G m:=⟨u,hu,hr⟩
def BA(ht:aR P tab){t:TypeId}{d:TypeDesc}(h:(tab t).map c6.under=φ d):P.underlying t=φ d:=by
 obtain⟨i,hi,hu⟩:=Th.1 h;rw[<-hu];exact(ht t i hi).under
def abA{t:TypeId}{i:c6}(h:AS P t i)(w:World):(sizeOf t).run P w= .ok i.size w:=by
 obtain⟨ti,z,h1,h2,_⟩:=h.info;simp[sizeOf,typeInfo,h1,h2]
def uS(ht:aR P tab){op:BinOp}{t:TypeId}{same:Bool}{p q:Option Addr}(h:pq tab op t same=φ m)
  (heq:∀el,P.underlying t=φ (.pointer el)->∀(w:World)(d:Nat),(Op.equalIn (d+1) t (.pointer p) (.pointer q)).run P w= .ok same w):bu P (do eqGuard op t xo yo (.pointer p) (.pointer q);binOp op t (.pointer p) (.pointer q)) G m:=by
 have hg:∀w,(eqGuard op t xo yo (.pointer p) (.pointer q)).run P w= .ok () w:=λw=>by unfold eqGuard;split<;>simp
 unfold pq at h;split at h;rename_i el hu;injection h with h;subst h;refine bu.of (λw _=>?_) (.v rfl);rw[Sem.run_bind,hg,Result.andThen_ok];have:=heq el (BA ht hu) w 9999;simp only[binOp,Op.equal,Op.maxDepth,Sem.run_bind,this,Result.andThen_ok,Sem.run_pure];rename_i el hu;injection h with h;subst h;refine bu.of (λw _=>?_) (.v rfl);rw[Sem.run_bind,hg,Result.andThen_ok];have:=heq el (BA ht hu) w 9999;simp only[binOp,Op.equal,Op.maxDepth,Sem.run_bind,this,Result.andThen_ok,Sem.run_pure];cases h
def abB(ht:aR P tab){op:BinOp}{t:TypeId}{x y:MV}(h:dT tab op t x y=φ m)(hx:VR G x u)(hy:VR G y v):
  bu P (do eqGuard op t xo yo u v;binOp op t u v) G m:=by
 unfold dT at h;split at h
 ·rename_i k a k' b;cases hx;cases hy;(((have hg:∀w,(eqGuard op t xo yo (.int k a) (.int k' b)).run P w= .ok () w:=λw=>by unfold eqGuard;split<;>simp);split at h);unfold Cu at h;split at h;cases h;injection h with h;subst h;exact bu.of (λw _=>by rw[Sem.run_bind,hg,Result.andThen_ok];simp[binOp,Op.shift, *]) (.v rfl));unfold Cu at h;split at h;cases h;injection h with h;subst h;exact bu.of (λw _=>by rw[Sem.run_bind,hg,Result.andThen_ok];simp[binOp,Op.shift, *]) (.v rfl)
  ·rename_i h1 h2;split at h
   ·subst k'
    cases op<;>simp only[tV]at h<;>first
     | (exact absurd rfl h1)
     | (exact absurd rfl h2)
     | (cases h;done)
     | (injection h with h;subst h;exact bu.of (λw _=>by rw[Sem.run_bind,hg,Result.andThen_ok];simp[binOp,Op.intArith,Op.intCmp,Op.intBits]) (.v rfl))
     | (split at h
        ·cases h
        ·injection h with h;subst h;exact bu.of (λw _=>by rw[Sem.run_bind,hg,Result.andThen_ok];simp[binOp,Op.intDiv, *]) (.v rfl))
   ·cases h
 ·rename_i a b;cases hx;cases hy;((((have hg:∀w,(eqGuard op t xo yo (.bool a) (.bool b)).run P w= .ok () w:=λw=>by unfold eqGuard;split<;>simp);split at h);rename_i hu;obtain⟨i,hi,hu⟩:=Th.1 hu;have:=(ht t i hi).under;rw[hu]at this;injection h with h;subst h;exact bu.of (λw _=>by rw[Sem.run_bind,hg,Result.andThen_ok];simp only[binOp,Sem.run_bind,run_equal_bool this,Result.andThen_ok,Sem.run_pure]) (.v rfl));rename_i hu;obtain⟨i,hi,hu⟩:=Th.1 hu;have:=(ht t i hi).under;rw[hu]at this;injection h with h;subst h;exact bu.of (λw _=>by rw[Sem.run_bind,hg,Result.andThen_ok];simp only[binOp,Sem.run_bind,run_equal_bool this,Result.andThen_ok,Sem.run_pure]) (.v rfl));cases h
 ·rename_i a b;cases hx;rename_i e1;cases hy;have hg:∀w,(eqGuard op t xo yo (.string ⟨⟨a⟩⟩) (.string ⟨⟨b⟩⟩)).run P w= .ok () w:=λw=>by unfold eqGuard;split<;>simp
  cases op<;>simp only[aiw]at h<;>first
   | (cases h;done)
   | (injection h with h;subst h;exact bu.of (λw _=>by rw[Sem.run_bind,hg,Result.andThen_ok];simp[binOp,Op.stringOp,toList_mk]) (.v rfl))
   | (split at h
      ·injection h with h;subst h;refine bu.of (u:=.string ⟨⟨a++b⟩⟩) (λw _=>?_) .s;rw[Sem.run_bind,hg,Result.andThen_ok];have e:(⟨⟨a⟩⟩:ByteArray)++⟨⟨b⟩⟩=⟨⟨a++b⟩⟩:=ByteArray.ext (by simp)
       have hn:¬(((⟨⟨a⟩⟩:ByteArray).size+(⟨⟨b⟩⟩:ByteArray).size:Nat):Int)>IntKind.i64.max:=by
        show ¬((Ζ a+Ζ b:Nat):Int)>_;(have:IntKind.i64.max=9223372036854775807:=by decide);omega
       simp only[binOp,Op.stringOp,if_neg hn,e,Sem.run_pure]
      ·cases h)
 ·rename_i hx' hy';cases hx;cases hy;exact uS ht h (λel hu w d=>by simp[Op.equalIn,run_underlying hu])
 ·cases hx;cases hy;exact uS ht h (λel hu w d=>by simp[Op.equalIn,run_underlying hu])
 ·cases hx;cases hy;exact uS ht h (λel hu w d=>by simp[Op.equalIn,run_underlying hu])
 ·cases hx;cases hy;exact uS ht h (λel hu w d=>by simp[Op.equalIn,run_underlying hu])
 ·cases hx;cases hy;exact uS ht h (λel hu w d=>by simp[Op.equalIn,run_underlying hu])
 ·rename_i b o b' o';split at h
  ·rename_i hb;obtain⟨rfl,rfl⟩:=hb;cases hx with
   | p h1=>
     cases hy with
     | p h2=>
       rw[h1]at h2;injection h2 with h2;subst h2;split at h;rename_i el hu;split at h;rename_i te he;split at h;cases h;rename_i hz;refine uS ht h (λel' G6 w d=>?_);have dB:=BA ht hu;rw[G6]at dB;injection dB with dB;injection dB with dB;subst dB;simp[Op.equalIn,run_underlying G6,abA (ht _ te he),hz,run_sameAddr_same];cases h;cases h
  ·cases h
 ·cases h
def lp(G:Gh)(w w':World):Prop:=∀k b,G.cu k=φ b->w'.heap[b]?=w.heap[b]?
def lp.refl(G:Gh)(w:World):lp G w w:=λ_ _ _=>rfl
def lp.alloc(h:WR G O w)(o:Obj):lp G w (w.alloc o):=λk b hk=>by
 have:=(h.lU k b hk).2.1;rw[gG,if_neg (by omega)]
def jw(P:Program)(s:Sem Value)(w:World)(G:Gh)(O':VH)(m:MV):Prop:=∃u w' H,s.run P w= .ok u w'/\Gh.Le G H/\WR H O' w'/\VR H m u/\lp G w w'
def Mr(P:Program)(s:Sem Unit)(w:World)(G:Gh)(O':VH):Prop:=∃w' H,s.run P w= .ok () w'/\Gh.Le G H/\WR H O' w'
def jw.of(h:WR G O w)(hr:s.run P w= .ok u w)(hu:VR G m u):jw P s w G O m:=⟨u,w,G,hr,Gh.Le.refl G,h,hu,lp.refl _ _⟩
def aix(P:Program)(s:Sem Value)(w:World)(G:Gh)(m:MV):Prop:=∃u,s.run P w= .ok u w/\VR G m u
def WV{t:TypeId}{i:c6}(h:AS P t i)(w:World):∃ti,(typeInfo t).run P w= .ok ti w/\ti.size=i.size/\ti.bytes=i.bytes:=by
 obtain⟨ti,z,h1,h2,h3,_⟩:=h.info;exact⟨ti,by simp[typeInfo,h1],h2,h3⟩
def gH{t:TypeId}{i:c6}(h:AS P t i)(w:World):(sizeOf t).run P w= .ok i.size w:=by
 obtain⟨ti,h1,h2,_⟩:=WV h w;rw[sizeOf,Sem.run_bind,h1,Result.andThen_ok,Sem.run_pure,h2]
def qO{t:TypeId}{i:c6}(h:AS P t i)(w:World):(isAgg t).run P w= .ok (eP i.under) w:=by
 rw[isAgg,Sem.run_bind,run_underlying h.under,Result.andThen_ok];cases i.under<;>rfl
def Kk{t:TypeId}{i:c6}(h:AS P t i)(w:World):∃z,(zeroValue t).run P w= .ok z w/\z.cells.size=i.size/\∀G,aW G i.zero z.cells.toList:=by
 obtain⟨ti,z,h1,_,_,h4,h5,h6⟩:=h.info;exact⟨z,by simp[zeroValue,typeInfo,h1,h4],h5,h6⟩
def eQ:MV->Η
 | .agg cs=>cs
 | m=>[m]
def eI:MV->Bool
 | .agg _ | .tuple _=>γ
 | _=>Α
def BB(h:VR G m u):aW G (eQ m) u.cells.toList:=by
 cases h with
 | agg h1 h2=>exact⟨h1,h2⟩
 | v h1=>
   (have:u.cells= #[u]:=by cases u<;>first | rfl | (simp[plain]at h1));rw[this];exact aW.cons (.v h1) aW.nil
 | s=>exact aW.cons .s aW.nil
 | p h1=>exact aW.cons (.p h1) aW.nil
 | d_ h1 h2 h3=>exact aW.cons (.d_ h1 h2 h3) aW.nil
 | slnil=>exact aW.cons .slnil aW.nil
 | rp h1=>exact aW.cons (.rp h1) aW.nil
 | mg=>exact aW.cons .mg aW.nil
 | l h1 h2 h3 h4 h5 h6=>exact aW.cons (.l h1 h2 h3 h4 h5 h6) aW.nil
 | aS h1 h2 h3=>exact aW.cons (.aS h1 h2 h3) aW.nil
 | map h1=>exact aW.cons (.map h1) aW.nil
 | func h1 h2 h3 h4=>exact aW.cons (.func h1 h2 h3 h4) aW.nil
 | iface h1=>exact aW.cons (.iface h1) aW.nil
 | tuple h1 h2=>exact aW.cons (.tuple h1 h2) aW.nil
def Kl(h:VR G m u)(hl:eI m=Α):u.oneCell'=Α:=by
 cases h with
 | v h1=>cases u<;>first | rfl | (simp[plain]at h1)
 | agg h1 h2=>cases hl
 | tuple h1 h2=>cases hl
 | _=>rfl
def BD{cs:Η}(h:aW G cs us)(hl:cs.all eI=Α):∀u∈us,u.oneCell'=Α:=by
 intro u hu;obtain⟨i,hi,rfl⟩:=List.mem_iff_getElem.1 hu;have hc:i<Ζ cs:=by rw[<-h.1];exact hi
 exact Kl (h.2 i cs[i] us[i] (aga hc) (aga hi)) (aqb.1 hl _ (List.getElem_mem _))
def pr(agg:Bool)(size:Nat)(cs:Η)(off:Nat):Option MV:=
 if agg then(if off+size<=(Ζ cs) then φ (.agg ((cs.drop off).take size))else Β)else cs[off]?
def cellsOf(O:VH):MV->Option (Η×Nat)
 | .p k off=>match O.hp k with
   | some (.cells cs)=>φ (cs,off)
   | _=>Β
 | .d_ cs off=>φ (cs,off)
 | _=>Β
def OV(h:WR G O w){cs:Η}(hx:VR G m u)(hc:cellsOf O m=φ (cs,off)):
  ∃b o us,u= .pointer (φ ⟨b,o+off,Β⟩)/\aW G cs us/\∀i v,us[i]?=φ v->w.cell? ⟨b,o+i,Β⟩=φ v:=by
 cases hx with
 | p h1=>
   rename_i k off' b;simp only[cellsOf]at hc;split at hc;rename_i cs' hk;injection hc with hc;injection hc with e1 e2;subst e1;subst e2;obtain⟨b',C,T,h2,h3,h4⟩:=h.cells k _ hk;rw[h1]at h2;injection h2 with h2;subst h2;refine⟨b,0,_,by simp,h4,λi v hv=>?_⟩;rw[YI]at hv;split at hv;simp only[alT,World.cell?,h3,ake,abx,if_false];simpa using hv;cases hv;cases hc
 | d_ h1 h2 h3=>
   simp only[cellsOf,Option.some.injEq,Prod.mk.injEq]at hc;obtain⟨rfl,rfl⟩:=hc;exact⟨_,_,_,rfl,⟨h1,h3⟩,λi v hv=>h.fB _ _ _ (h2 i v hv)⟩
 | _=>cases hc
def gj(tab:cL)(O:VH)(t:TypeId)(m:MV):Option MV:=
 match tab t,cellsOf O m with
 | some i,φ (cs,off)=>pr (eP i.under) i.size cs off
 | _,_=>Β
def Sx(G:Gh)(w x:World):Prop:=SS G x/\lp G w x
def WR.sx(h:WR G O w):Sx G w w:=⟨h.ss,lp.refl _ _⟩
def JB(h:WR G O w){cs:Η}(hx:VR G m u)(hc:cellsOf O m=φ (cs,off)):
  ∃b o us,u= .pointer (φ ⟨b,o+off,Β⟩)/\aW G cs us/\∀x,Sx G w x->∀i v,us[i]?=φ v->x.cell? ⟨b,o+i,Β⟩=φ v:=by
 cases hx with
 | p h1=>
   rename_i k off' b;simp only[cellsOf]at hc;split at hc;rename_i cs' hk;injection hc with hc;injection hc with e1 e2;subst e1;subst e2;obtain⟨b',C,T,h2,h3,h4⟩:=h.cells k _ hk;rw[h1]at h2;injection h2 with h2;subst h2;refine⟨b,0,_,by simp,h4,λx hs i v hv=>?_⟩;have h3':=(hs.2 k b h1).trans h3;rw[YI]at hv;split at hv;simp only[alT,World.cell?,h3',ake,abx,if_false];simpa using hv;cases hv;cases hc
 | d_ h1 h2 h3=>
   simp only[cellsOf,Option.some.injEq,Prod.mk.injEq]at hc;obtain⟨rfl,rfl⟩:=hc;exact⟨_,_,_,rfl,⟨h1,h3⟩,λx hs i v hv=>hs.1 _ _ _ (h2 i v hv)⟩
 | _=>cases hc
def qP(ht:aR P tab)(h:WR G O w){t:TypeId}{x m:MV}(hv:gj tab O t x=φ m)(hx:VR G x u):∃r,VR G m r/\∀y,Sx G w y->(Instr.loadAt t u).run P y= .ok r y:=by
 unfold gj at hv;split at hv
 ·rename_i i cs off hi hc;have gT:=ht t i hi;obtain⟨b,o,us,rfl,qQ,cj⟩:=JB h hx hc;simp only[Instr.loadAt,Instr.sureAddr,loadVar];unfold pr at hv;split at hv
  ·rename_i sr;split at hv
   ·rename_i hle;injection hv with hv;subst hv;have Ff:=(qQ.drop off).take i.size;(have hlen:((us.drop off).take i.size).length=i.size:=by simp[qQ.1];omega);refine⟨_,.agg Ff.1 Ff.2,λy hy=>?_⟩
    have Cv:∀j v,((us.drop off).take i.size)[j]?=φ v->y.cell? ((⟨b,o+off,Β⟩:Addr).add j)=φ v:=by
     intro j v hj;rw[Addr.add_lit,ap2];rw[YI]at hj;split at hj;rw[agb]at hj;exact cj y hy _ v hj;cases hj
    have BE:=run_loadCells_list (P:=P) y ⟨b,o+off,Β⟩ _ Cv;rw[hlen]at BE;simp[qO gT,sr,gH gT,BE]
   ·cases hv
  ·rename_i sr;obtain⟨v,je,px⟩:=qQ.get hv;exact⟨v,px,λy hy=>by simp[qO gT,sr,cj y hy _ v je]⟩
 ·cases hv
def G7(ht:aR P tab)(h:WR G O w){t:TypeId}{x m:MV}(hv:gj tab O t x=φ m)(hx:VR G x u):aix P (Instr.loadAt t u) w G m:=by
 obtain⟨r,h1,h2⟩:=qP (P:=P) ht h hv hx;exact⟨r,h2 w h.sx,h1⟩
def Km(ht:aR P tab)(h:WR G O w){t:TypeId}{x m:MV}(hv:gj tab O t x=φ m)(hx:VR G x u):jw P (Instr.loadAt t u) w G O m:=by
 obtain⟨r,h1,h2⟩:=G7 (P:=P) ht h hv hx;exact jw.of h h1 h2
def Tm(ht:aR P tab){t:TypeId}{cs:Η}{m:MV}(hv:gj tab O t (.d_ cs off)=φ m)(hx:VR G (.d_ cs off) u):bu P (Instr.loadAt t u) G m:=by
 unfold gj at hv;split at hv
 ·rename_i i cs' off' hi hc;simp only[cellsOf,Option.some.injEq,Prod.mk.injEq]at hc;obtain⟨rfl,rfl⟩:=hc;have gT:=ht t i hi;cases hx with
  | d_ h1 h2 h3=>
    rename_i us b o;have qQ:aW G cs us:=⟨h1,h3⟩;simp only[Instr.loadAt,Instr.sureAddr,loadVar];unfold pr at hv;split at hv
    ·rename_i sr;split at hv
     ·rename_i hle;injection hv with hv;subst hv;have Ff:=(qQ.drop off).take i.size;have hlen:((us.drop off).take i.size).length=i.size:=by simp[qQ.1];omega
      have Cv:∀w,SS G w->∀j v,((us.drop off).take i.size)[j]?=φ v->w.cell? ((⟨b,o+off,Β⟩:Addr).add j)=φ v:=by
       intro w hw j v hj;rw[Addr.add_lit,ap2];rw[YI]at hj;split at hj;rw[agb]at hj;exact hw _ _ _ (h2 _ v hj);cases hj
      have BE:∀w,SS G w->(loadCells ⟨b,o+off,Β⟩ i.size).run P w= .ok ((us.drop off).take i.size).toArray w:=λw hw=>by
       have:=run_loadCells_list (P:=P) w ⟨b,o+off,Β⟩ _ (Cv w hw)
       rwa [hlen]at this
      exact bu.of (λw hw=>by simp[qO gT,sr,gH gT,BE w hw]) (.agg Ff.1 Ff.2)
     ·cases hv
    ·rename_i sr;obtain⟨v,je,px⟩:=qQ.get hv;exact bu.of (λw hw=>by simp[qO gT,sr,hw _ _ _ (h2 _ v je)]) px
 ·cases hv
def fq(cs:Η)(o:Nat):Η->Η
 | []=>cs
 | x::xs=>fq (cs.set o x) (o+1) xs
def aqR(O:VH)(k:Nat)(x y:cx):(O.set k x).set k y=O.set k y:=by
 simp only[VH.set,VH.mk.injEq,true_and];funext j
 simp only[bS];cases Nat.beq j k<;>rfl
def υ(O:VH)(k:Nat)(x:cx):(O.set k x).hp k=φ x:=aN _ _ _
def VH.zP{O:VH}{x:cx}(h:O.hp k=φ x):O.set k x=O:=by
 obtain⟨n,f⟩:=O;simp only[VH.set,VH.mk.injEq,true_and];funext j
 by_cases e:j=k;subst e;rw[aN];exact h.symm;exact aA _ _ e
def BF{k b:Nat}(hp:G.cu k=φ b)(off:Nat):∀(xs:Η)(us:List Value)(i:Nat)(cs:Η)(O:VH)(w:World),WR G O w->O.hp k=φ (.cells cs)->aW G xs us->xs.all eI=Α->off+i+Ζ xs<=(Ζ cs)->
  ∃w',(storeCells ⟨b,off,Β⟩ us i).run P w= .ok () w'/\WR G (O.set k (.cells (fq cs (off+i) xs))) w'
 | [],us,i,cs,O,w,h,hk,hx,_,_=>by
   rw[hx.jN];refine⟨w,rfl,?_⟩;simp only[fq];rw[VH.zP hk];exact h
 | x::xs,us,i,cs,O,w,h,hk,hx,hl,hle=>by
   obtain⟨u,YJ,rfl,h1,h2⟩:=hx.fH;simp only[List.all_cons,WT]at hl;simp only[ap3]at hle;have cX:=h.store (i:=off+i) hk hp (by omega) h1;obtain⟨w',hr,hw⟩:=BF hp off xs YJ (i+1) (cs.set (off+i) x) _ _ cX (υ _ _ _) h2 hl.2 (by simp;omega);refine⟨w',?_,?_⟩
   ·obtain⟨b',C,T,e1,e2,e3⟩:=h.cells k cs hk;rw[hp]at e1;injection e1 with e1;subst e1;have hlen:off+i<C.size:=by have:=e3.1;simp at this;omega
    have cj:w.cell? ⟨b,off+i,Β⟩=φ C[off+i]:=by
     simp only[World.cell?,e2,ake,abx,if_false,akf hlen]
    have aZ:w.frozen? ⟨b,off+i,Β⟩=γ:=by
     obtain⟨t',⟨lo,hi⟩,dw⟩:=T;dsimp only at e2 dw;simp only[World.frozen?,e2,Bool.and_eq_false_imp,decide_eq_true_eq,decide_eq_false_iff_not];intro;omega
    rw[storeCells,Sem.run_bind]
    have:(store ((⟨b,off,Β⟩:Addr).add i) u).run P w= .ok () (w.setCell ⟨b,off+i,Β⟩ u):=by
     rw[Addr.add_lit,run_store P w _ _ _ (Kl h1 hl.1),cj];simp[aZ]
    rw[this,Result.andThen_ok];exact hr
   ·rw[aqR]at hw;exact hw
def zQ(tab:cL)(O:VH)(t:TypeId)(x y:MV):Option VH:=
 match tab t,x with
 | some i,.p k off=>match O.hp k with
   | some (.cells cs)=>if(eQ y).length=i.size/\(eQ y).all eI=Α/\off+i.size<=(Ζ cs) then φ (O.set k (.cells (fq cs off (eQ y))))else Β
   | _=>Β
 | _,_=>Β
def Tn(ht:aR P tab)(h:WR G O w){t:TypeId}{x y:MV}(hv:zQ tab O t x y=φ O')(hx:VR G x u)(hy:VR G y v):Mr P (Instr.storeAt t u v) w G O':=by
 unfold zQ at hv;split at hv
 ·rename_i i k off hi;have gT:=ht t i hi;split at hv
  ·rename_i cs hk;split at hv
   ·rename_i hc;injection hv with hv;subst hv
    cases hx with
    | p h1=>
      have hm:=BB hy;obtain⟨w',hr,hw⟩:=BF (P:=P) h1 off (eQ y) v.cells.toList 0 cs O w h hk hm hc.2.1 (by omega);refine⟨w',G,?_,Gh.Le.refl G,by simpa using hw⟩;(have hs:v.cells.size=i.size:=by rw[<-alU,hm.1];exact hc.1);simp[Instr.storeAt,Instr.sureAddr,storeVar,gH gT,hs,hr]
   ·cases hv
  ·cases hv
 ·cases hv
def agd(h:WR G O w){cs:Η}{t:TypeId}(hc:aW G cs C.toList):jw P (do pure (Value.pointer (φ (<-newRow t C)))) w G (O.push (.cells cs)) (.p O.N 0):=by
 obtain⟨h1,h2⟩:=h.push t hc;exact⟨_,_,_,by simp[newRow,newObj,Sem.run],h1,h2,.p (aN _ _ _),lp.alloc h _⟩
def abC(h:WR G O w){t:TypeId}(hu:VR G m u):jw P (Instr.box t u) w G (O.push (.cells (eQ m))) (.p O.N 0):=agd h (BB hu)
end
section
variable{G H:Gh}{n:Sz}{D:List Deferred}{e:Env}{a:Act}{P:Program}{tab:cL}{O O':VH}{w:World}{m m':MV}{u v:Value}
def xM(k:Nat):MV->Option MV
 | .p b off=>φ (.p b (off+k))
 | .d_ cs off=>φ (.d_ cs (off+k))
 | _=>Β
def Kn(h:VR G m u)(hm:xM k m=φ m'):∃a:Addr,u= .pointer (φ a)/\VR G m' (.pointer (φ (a.add k))):=by
 cases h with
 | p h1=>
   injection hm with hm;subst hm;exact⟨_,rfl,by rw[Addr.add_lit];exact .p h1⟩
 | d_ h1 h2 h3=>
   injection hm with hm;subst hm;exact⟨_,rfl,by rw[Addr.add_lit,ap2];exact .d_ h1 h2 h3⟩
 | _=>cases hm
def kZ(tab:cL)(t:TypeId)(f:Nat)(m:MV):Option MV:=
 match tab t with
 | some i=>match i.under with
   | .struct fs=>match fs[f]? with
     | some fd=>match tab fd.type with
       | some j=>if j.size=0 then Β else xM fd.offset m
       | none=>Β
     | none=>Β
   | _=>Β
 | none=>Β
def G8(ht:aR P tab){t:TypeId}(hv:kZ tab t f m=φ m')(hx:VR G m u):bu P (Instr.fieldAt t u f) G m':=by
 unfold kZ at hv;split at hv;rename_i i hi;split at hv;rename_i fs hu;split at hv;rename_i fd hf;split at hv;rename_i j hj;split at hv;cases hv;rename_i hz;obtain⟨a,rfl,h2⟩:=Kn hx hv;have gT:=(ht t i hi).under;rw[hu]at gT;exact bu.of (λw _=>by simp[Instr.fieldAt,run_underlying gT,hf,Instr.sureAddr,fieldPlace,gH (ht _ j hj),hz]) h2;cases hv;cases hv;cases hv;cases hv
def oO(tab:cL)(t:TypeId)(m:MV)(ix:MV):Option MV:=
 match ix,tab t with
 | .v (.int _ i),φ ti=>match ti.under,m with
   | .slice el,.l n cells _=>match tab el with
     | some te=>if 0<=i/\i<(n:Int)then φ (.d_ cells (i.toNat*te.size))else Β
     | none=>Β
   | .slice el,.aS k o n _=>match tab el with
     | some te=>if 0<=i/\i<(n:Int)then φ (.p k (o+i.toNat*te.size))else Β
     | none=>Β
   | .array len el,x=>match tab el with
     | some te=>if 0<=i/\i<(len:Int)then xM (i.toNat*te.size) x else Β
     | none=>Β
   | _,_=>Β
 | _,_=>Β
def G9(ht:aR P tab){t:TypeId}{ix:MV}(hv:oO tab t m ix=φ m')(hx:VR G m u)(hy:VR G ix v):bu P (Instr.indexAt t u v) G m':=by
 unfold oO at hv;split at hv
 ·rename_i k i ti hi;cases hy;have gT:=(ht t ti hi).under;split at hv
  ·rename_i el n' cells tk hu;rw[hu]at gT;split at hv
   ·rename_i te he;split at hv
    ·rename_i hb;injection hv with hv;subst hv
     cases hx with
     | slnil=>simp at hb;omega
     | rp h1=>simp at hb;omega
     | mg=>simp at hb;omega
     | l h1 h2 h3 h4 h5 h6=>
       refine bu.of (u:=.pointer (φ _)) (λw _=>?_) (.d_ h1 h2 h3);simp[Instr.indexAt,asIntOf,run_underlying gT,hb.1,hb.2,gH (ht _ te he),Addr.add_lit]
    ·cases hv
   ·cases hv
  ·rename_i el k' o n' c' hu;rw[hu]at gT;split at hv
   ·rename_i te he;split at hv
    ·rename_i hb;injection hv with hv;subst hv
     cases hx with
     | aS h1 h2 h3=>
       refine bu.of (u:=.pointer (φ _)) (λw _=>?_) (.p h1);simp[Instr.indexAt,asIntOf,run_underlying gT,hb.1,hb.2,gH (ht _ te he),Addr.add_lit]
    ·cases hv
   ·cases hv
  ·rename_i len el hu;rw[hu]at gT;split at hv;rename_i te he;split at hv;rename_i hb;obtain⟨a,rfl,h2⟩:=Kn hx hv;refine bu.of (u:=.pointer (φ _)) (λw _=>?_) h2;simp[Instr.indexAt,asIntOf,run_underlying gT,Instr.sureAddr,hb.1,hb.2,gH (ht _ te he)];cases hv;cases hv
  ·cases hv
 ·cases hv
def Ed(tab:cL)(t:TypeId)(cs:Η)(off:Nat):Option MV:=
 match tab t with
 | some i=>pr (eP i.under) i.size cs off
 | none=>Β
def zR(ht:aR P tab){t:TypeId}{cs:Η}(hv:Ed tab t cs off=φ m)(hx:aW G cs us):∃r,(∀w,(part t us.toArray off).run P w= .ok r w)/\VR G m r:=by
 unfold Ed at hv;split at hv;rename_i i hi;have gT:=ht t i hi;unfold pr at hv;split at hv;rename_i sr;split at hv;injection hv with hv;subst hv;have qQ:=(hx.drop off).take i.size;refine⟨.agg ((us.drop off).take i.size).toArray,λw=>?_,.agg qQ.1 qQ.2⟩;simp[part,qO gT,sr,gH gT];cases hv;rename_i sr;obtain⟨v,je,px⟩:=hx.get hv;exact⟨v,λw=>by simp[part,qO gT,sr,je],px⟩;cases hv
def zS(tab:cL)(t:TypeId)(x:MV)(f:Nat):Option MV:=
 match tab t,x with
 | some i,.agg cs=>match i.under with
   | .struct fs=>match fs[f]? with
     | some fd=>Ed tab fd.type cs fd.offset
     | none=>Β
   | _=>Β
 | _,_=>Β
def To(ht:aR P tab){t:TypeId}(hv:zS tab t m f=φ m')(hx:VR G m u):bu P (Instr.field t u f) G m':=by
 unfold zS at hv;split at hv
 ·rename_i i cs hi;split at hv
  ·rename_i fs hu;have gT:=(ht t i hi).under;rw[hu]at gT;split at hv
   ·rename_i fd hf;cases hx with
    | agg h1 h2=>
      obtain⟨r,h3,h4⟩:=zR (P:=P) ht hv ⟨h1,h2⟩;exact bu.of (λw _=>by simp[Instr.field,run_underlying gT,hf,asAgg,h3]) h4
   ·cases hv
  ·cases hv
 ·cases hv
def zT(tab:cL)(t:TypeId)(x ix:MV):Option MV:=
 match tab t,x,ix with
 | some i,.agg cs,.v (.int _ k)=>match i.under with
   | .array len el=>match tab el with
     | some te=>if 0<=k/\k<(len:Int)then Ed tab el cs (k.toNat*te.size)else Β
     | none=>Β
   | _=>Β
 | some i,.s l,.v (.int _ k)=>match i.under with
   | .string=>if 0<=k then(l[k.toNat]?).map λb=>.v (.int .u8 b.toNat)else Β
   | _=>Β
 | _,_,_=>Β
def Tp(ht:aR P tab){t:TypeId}{ix:MV}(hv:zT tab t m ix=φ m')(hx:VR G m u)(hy:VR G ix v):bu P (Instr.index t u v) G m':=by
 unfold zT at hv;split at hv
 ·rename_i i cs kk k hi;cases hy;split at hv
  ·rename_i len el hu;have gT:=(ht t i hi).under;rw[hu]at gT;split at hv
   ·rename_i te he;split at hv
    ·rename_i hb;cases hx with
     | agg h1 h2=>
       obtain⟨r,h3,h4⟩:=zR (P:=P) ht hv ⟨h1,h2⟩;exact bu.of (λw _=>by simp[Instr.index,asIntOf,run_underlying gT,hb.1,hb.2,gH (ht _ te he),h3]) h4
    ·cases hv
   ·cases hv
  ·cases hv
 ·rename_i i l kk k hi;cases hy;cases hx;split at hv
  ·rename_i hu;have gT:=(ht t i hi).under;rw[hu]at gT;split at hv
   ·rename_i hb;obtain⟨b,h1,h2⟩:=Th.1 hv;subst h2;refine bu.of (u:=.int .u8 b.toNat) (λw _=>?_) (.v rfl)
    have hg:(⟨⟨l⟩⟩:ByteArray)[k.toNat]?=φ b:=by
     obtain⟨dm,he⟩:=af_.1 h1;rw[getElem?_pos (⟨⟨l⟩⟩:ByteArray) k.toNat dm];exact congrArg φ he
    simp[Instr.index,asIntOf,run_underlying gT,hb,hg]
   ·cases hv
  ·cases hv
 ·cases hv
def uT(x:MV)(i:Nat):Option MV:=
 match x with
 | .tuple vs=>vs[i]?
 | _=>Β
def Ms(hv:uT m i=φ m')(hx:VR G m u):bu P (Instr.extract u i) G m':=by
 unfold uT at hv;split at hv
 ·cases hx with
  | tuple h1 h2=>
    obtain⟨r,h3,h4⟩:=aW.get ⟨h1,h2⟩ hv;exact bu.of (λw _=>by simp[Instr.extract,h3]) h4
 ·cases hv
end
section
variable{G H:Gh}{n:Sz}{D:List Deferred}{e:Env}{a:Act}{P:Program}{tab:cL}{O O':VH}{w:World}{m m' m2:MV}{u v:Value}
def nW(place:Nat->Option (Nat×Nat))(cells:Η):List (Nat×MV)->Option Η
 | []=>φ cells
 | (i,x)::rest=>match place i with
   | none=>Β
   | some (off,size)=>if(eQ x).length=size/\off+size<=(Ζ cells) then nW place (fq cells off (eQ x)) rest else Β
def Fg{us:List Value}:∀(vs:List Value)(k off:Nat)(C:Array Value)(cs ms:Η),aW G cs C.toList->aW G ms vs->
  aW G (fq cs (off+k) ms) ((vs.zipIdx k).foldl (λ(a:Array Value) x=>a.setIfInBounds (off+x.2) x.1) C).toList
 | [],k,off,C,cs,ms,h,hm=>by
   have:ms=[]:=alQ hm.1.symm;subst this;exact h
 | v::vs,k,off,C,cs,ms,h,hm=>by
   cases ms with
   | nil=>have:=hm.1;simp at this
   | cons x xs=>
     simp only[List.zipIdx_cons,List.foldl_cons,fq];(have h2:aW G (cs.set (off+k) x) (C.setIfInBounds (off+k) v).toList:=by rw[ap7];exact h.set hm.head);exact Fg (us:=us) vs (k+1) off _ _ xs h2 hm.tail
def zU{place:Nat->Option (Nat×Nat)}:∀(parts:List (Nat×MV))(ps:List (Nat×Value))(cs:Η)(C:Array Value)(ds:Η),nW place cs parts=φ ds->
  parts.map (·.1)=ps.map (·.1)->aW G (parts.map (·.2)) (ps.map (·.2))->aW G cs C.toList->∃E,Instr.fill place C ps=φ E/\aW G ds E.toList
 | [],ps,cs,C,ds,h,h1,h2,h3=>by
   (have:ps=[]:=by cases ps<;>simp_all);subst this;injection h with h;subst h
   exact⟨C,rfl,h3⟩
 | (i,x)::parts,ps,cs,C,ds,h,h1,h2,h3=>by
   cases ps with
   | nil=>simp at h1
   | cons p ps=>
     obtain⟨j,y⟩:=p;simp only[alS,List.cons.injEq]at h1;obtain⟨rfl,h1⟩:=h1;simp only[alS]at h2;simp only[nW]at h;cases hp:place i with
     | none=>rw[hp]at h;cases h
     | some q=>
       obtain⟨off,size⟩:=q;rw[hp]at h;simp only at h;split at h;rename_i hc;have hm:=BB h2.head;(((((have hy:y.cells.size=size:=by rw[<-alU,hm.1];exact hc.1);have hC:C.size=Ζ cs:=by rw[<-alU];exact h3.1);have cX:=Fg (us:=[]) y.cells.toList 0 off C cs (eQ x) h3 hm;obtain⟨E,h4,h5⟩:=zU parts ps _ _ ds h h1 h2.tail cX;refine⟨E,?_,h5⟩;simp only[Instr.fill,hp];rw[if_neg (by rw[hy,hC];simp;exact hc.2)];rw[<-h4]);congr 1);rw[<-Array.foldl_toList,Array.toList_zipIdx]);cases h
def placesOf(tab:cL)(fs:Array Field):Option (List (Nat×Nat)):=fs.toList.mapM λf=>(tab f.type).map λi=>(f.offset,i.size)
def run_places(ht:aR P tab):∀(fs:List Field)(l:List (Nat×Nat))(w:World),(fs.mapM λf=>(tab f.type).map λi=>(f.offset,i.size))=φ l->
  (fs.mapM λf=>(do pure (f.offset, <-sizeOf f.type):Sem (Nat×Nat))).run P w= .ok l w
 | [],l,w,h=>by simp at h;subst h;rfl
 | f::fs,l,w,h=>by
   simp only[akd,akc,Ti]at h;obtain⟨x,h1,l',h2,h3⟩:=h;injection h3 with h3;subst h3;obtain⟨i,hi,rfl⟩:=Th.1 h1;have ih:=run_places ht fs l' w h2;simp only[akd,Sem.run_bind,gH (ht _ i hi),Result.andThen_ok,Sem.run_pure];rw[ih];rfl
def zV(tab:cL)(t:TypeId)(parts:List (Nat×MV)):Option MV:=
 match tab t with
 | some i=>match i.under with
   | .struct fs=>match placesOf tab fs with
     | some l=>(nW (l[·]?) i.zero parts).map .agg
     | none=>Β
   | .array _ el=>match tab el with
     | some te=>(nW (λk=>φ (k*te.size,te.size)) i.zero parts).map .agg
     | none=>Β
   | _=>Β
 | none=>Β
def Tq(ht:aR P tab){t:TypeId}{parts:List (Nat×MV)}(hv:zV tab t parts=φ m)(h1:parts.map (·.1)=ps.toList.map (·.1))(h2:aW G (parts.map (·.2)) (ps.toList.map (·.2))):
  bu P (Instr.build t ps) G m:=by
 unfold zV at hv;split at hv
 ·rename_i i hi;have gT:=ht t i hi;obtain⟨ti,z,hz0,_,_,Mt,n_,Ee⟩:=gT.info;(have uU:∀w,(zeroValue t).run P w= .ok z w:=λw=>by simp[zeroValue,typeInfo,hz0,Mt]);split at hv
  ·rename_i fs hu;have fE:=gT.under;rw[hu]at fE;split at hv
   ·rename_i l hl;obtain⟨ds,h3,rfl⟩:=Th.1 hv;obtain⟨E,h4,h5⟩:=zU parts ps.toList i.zero z.cells ds h3 h1 h2 (Ee G);(have hr:=λw=>run_places ht fs.toList l w hl);refine bu.of (u:=.agg E) (λw _=>?_) (.agg h5.1 h5.2)
    have hr':(fs.mapM λf=>(do pure (f.offset, <-sizeOf f.type):Sem (Nat×Nat))).run P w= .ok l.toArray w:=by
     rw[ap9, <-bind_pure_comp,Sem.run_bind,hr];rfl
    simp only[Instr.build,Sem.run_bind,uU,Result.andThen_ok,run_underlying fE,hr'];(have:Instr.fill (λx=>l.toArray[x]?) z.cells ps.toList=φ E:=by rw[<-h4];congr 1;funext x;simp);rw[this];rfl
   ·cases hv
  ·rename_i len el hu;have fE:=gT.under;rw[hu]at fE;split at hv;rename_i te he;obtain⟨ds,h3,rfl⟩:=Th.1 hv;obtain⟨E,h4,h5⟩:=zU parts ps.toList i.zero z.cells ds h3 h1 h2 (Ee G);refine bu.of (u:=.agg E) (λw _=>?_) (.agg h5.1 h5.2);simp only[Instr.build,Sem.run_bind,uU,Result.andThen_ok,run_underlying fE,gH (ht _ te he),h4];rfl;cases hv
  ·cases hv
 ·cases hv
def jP(z:Η)(n:Nat):Η:=(Ν n).map λi=>z.getD (i % (Ζ z)) (.tuple [])
def BG{z:Η}{Z:Array Value}(h:aW G z Z.toList)(hz:0<Ζ z)(n:Nat):aW G (jP z n) ((Array.range n).map (λi=>Z[i % Z.size]!)).toList:=by
 have hl:Z.size=Ζ z:=by rw[<-alU];exact h.1
 refine⟨by simp[jP],λi c u hc hu=>?_⟩;simp only[jP,List.getElem?_map,Th]at hc;obtain⟨j,hj,rfl⟩:=hc;simp only[Array.toList_map,Array.toList_range,List.getElem?_map,hj,akb,Option.some.injEq]at hu;have hm:j % (Ζ z)<Ζ z:=Nat.mod_lt _ hz;have hm':j % Z.size<Z.size:=by rw[hl];exact hm
 refine h.2 (j % (Ζ z)) _ u ?_ ?_;rw[aga hm,List.getD_eq_getElem?_getD,aga hm];rfl;rw[<-hu, <-hl,Array.getElem?_toList,akf hm',getElem!_pos Z _ hm']
def nh(tab:cL)(t:TypeId)(len:Nat)(parts:List (Nat×MV)):Option MV:=
 match(tab t).map c6.under with
 | some (.slice el)=>match tab el with
   | some te=>if 0<len*te.size/\len*te.size<=16777216/\0<(Ζ te.zero)/\len<=maxLen then
     (nW (λk=>φ (k*te.size,te.size)) (jP te.zero (len*te.size)) parts).map λcs=>.l len cs .full
     else if len=0/\parts=[]then φ (.l 0 [] .full)else Β
   | none=>Β
 | _=>Β
def wU(ht:aR P tab)(h:WR G O w){t:TypeId}{len:Nat}{parts:List (Nat×MV)}(hv:nh tab t len parts=φ m)(h1:parts.map (·.1)=ps.toList.map (·.1))(h2:aW G (parts.map (·.2)) (ps.toList.map (·.2))):
  jw P (Instr.buildSlice t len ps) w G O m:=by
 unfold nh at hv;split at hv
 ·rename_i el hu;obtain⟨i,hi,hu⟩:=Th.1 hu;have fE:=(ht t i hi).under;rw[hu]at fE;split at hv
  ·rename_i te he;have qd:=ht el te he;obtain⟨z,uU,n_,Ee⟩:=Kk qd w
   have fin:∀(C:Array Value)(cs:Η),aW G cs C.toList->len<=maxLen->jw P (do pure (Value.slice (φ (<-newRow el C)) len len)) w G O (.l len cs .full):=λC cs hc hl=>by
    obtain⟨h3,h4⟩:=h.lit C el;refine⟨.slice (φ ⟨w.heap.size,0,Β⟩) len len,w.alloc (.cells C el),_,by simp[newRow,newObj,Sem.run],h3,h4,?_,lp.alloc h _⟩;refine .l (us:=C.toList) hc.1 (λi u hu=>?_) (λi c u a b=>(hc.2 i c u a b).mono h3) (aka _) hl rfl;show(if w.heap.size=w.heap.size then C[0+i]? else _)=φ u;rw[if_pos rfl,alT];simpa using hu
   split at hv;rename_i hc;obtain⟨cs,h3,rfl⟩:=Th.1 hv;obtain⟨E,h4,h5⟩:=zU parts ps.toList _ _ cs h3 h1 h2 (BG (Ee G) hc.2.2.1 (len*te.size));((have hne:¬(len*te.size=0):=by omega);have hng:¬(len*te.size>16777216):=by omega);obtain⟨u,w',H,hr,r⟩:=fin E cs h5 hc.2.2.2;refine⟨u,w',H,?_,r⟩;rw[<-hr];simp[Instr.buildSlice,run_underlying fE,gH qd,hne,hng,uU,h4]
   ·split at hv
    ·rename_i hc;injection hv with hv;subst hv;obtain⟨rfl,rfl⟩:=hc
     have hps:ps.toList=[]:=by
      have:=h1.symm;simpa using this
     obtain⟨u,w',H,hr,r⟩:=fin #[] [] aW.nil (alO _);refine⟨u,w',H,?_,r⟩;rw[<-hr];simp[Instr.buildSlice,run_underlying fE,gH qd,hps,Instr.fill];rw[show Array.range 0= #[]from Array.eq_empty_of_size_eq_zero (by simp),Array.map_empty]
    ·cases hv
  ·cases hv
 ·cases hv
def cS(tab:cL)(t:TypeId)(x:MV):Option MV:=
 match(tab t).map c6.under,x with
 | some .string,.s l=>φ (.v (Ι Κ (Ζ l)))
 | some (.slice _),.l n _ _=>φ (.v (Ι Κ n))
 | some (.slice _),.aS _ _ n _=>φ (.v (Ι Κ n))
 | some (.map _ _),.v (.map Β)=>φ (.v (Ι Κ 0))
 | some (.array n _),_=>φ (.v (Ι Κ n))
 | _,_=>Β
def abD(ht:aR P tab){t ty:TypeId}(hv:cS tab t m=φ m')(hx:VR G m u):bu P (Builtin.len_ #[t] ty #[u]) G m':=by
 unfold cS at hv
 have un:∀d,(tab t).map c6.under=φ d->P.underlying t=φ d:=λd hd=>by
  obtain⟨i,hi,hu⟩:=Th.1 hd;rw[<-hu];exact(ht t i hi).under
 split at hv;injection hv with hv;subst hv;cases hx;exact bu.of (u:=.int .i64 _) (λw _=>by simp[Builtin.len_,run_underlying (un _ ‹_›),goInt];rfl) (.v rfl);injection hv with hv;subst hv;cases hx<;>exact bu.of (u:=.int .i64 _) (λw _=>by simp[Builtin.len_,run_underlying (un _ ‹_›),goInt];try rfl) (.v rfl);injection hv with hv;subst hv;cases hx;exact bu.of (u:=.int .i64 _) (λw _=>by simp[Builtin.len_,run_underlying (un _ ‹_›),goInt];try rfl) (.v rfl);injection hv with hv;subst hv;cases hx;exact bu.of (u:=.int .i64 _) (λw _=>by simp[Builtin.len_,run_underlying (un _ ‹_›),goInt];try rfl) (.v rfl);injection hv with hv;subst hv;exact bu.of (u:=.int .i64 _) (λw _=>by simp[Builtin.len_,run_underlying (un _ ‹_›),goInt];try rfl) (.v rfl);cases hv
def su(tab:cL)(O:VH)(t:TypeId)(x:MV):Option MV:=
 match(tab t).map c6.under,x with
 | some (.map _ _),.map k=>match O.hp k with
   | some (.map es _)=>φ (.v (Ι Κ (Ζ es)))
   | _=>Β
 | _,_=>Β
def OW(ht:aR P tab)(h:WR G O w){t ty:TypeId}(hv:su tab O t m=φ m')(hx:VR G m u):jw P (Builtin.len_ #[t] ty #[u]) w G O m':=by
 unfold su at hv
 have un:∀d,(tab t).map c6.under=φ d->P.underlying t=φ d:=λd hd=>by
  obtain⟨i,hi,hu⟩:=Th.1 hd;rw[<-hu];exact(ht t i hi).under
 split at hv
 ·split at hv
  ·rename_i k es ck hk;injection hv with hv;subst hv
   cases hx with
   | map h1=>
     obtain⟨b,E,e1,e2,e3,_⟩:=h.map _ _ _ hk;rw[h1]at e1;injection e1 with e1;subst e1
     have hl:E.size=Ζ es:=by
      have:=congrArg List.length e3;simpa using this
     refine jw.of h (u:=.int .i64 (Ζ es)) ?_ (.v rfl);simp[Builtin.len_,run_underlying (un _ ‹_›),goInt,getObj,Sem.run,e2,hl]
  ·cases hv
 ·cases hv
def Ef(x y:MV):Option MV:=
 match x,y with
 | .v (.int k a),.v (.int _ b)=>φ (.v (.int k (if b>a then b else a)))
 | _,_=>Β
def Eg(x y:MV):Option MV:=
 match x,y with
 | .v (.int k a),.v (.int _ b)=>φ (.v (.int k (if b<a then b else a)))
 | _,_=>Β
def YK(hv:Ef m m'=φ m2)(hx:VR G m u)(hy:VR G m' v){ts:Array TypeId}{ty:TypeId}:bu P (Builtin.max_ ts ty #[u,v]) G m2:=by
 unfold Ef at hv;split at hv;injection hv with hv;subst hv;cases hx;cases hy;exact bu.of (u:=.int _ _) (λw _=>by simp[Builtin.max_,Builtin.max2]) (.v rfl);cases hv
def YL(hv:Eg m m'=φ m2)(hx:VR G m u)(hy:VR G m' v){ts:Array TypeId}{ty:TypeId}:bu P (Builtin.min_ ts ty #[u,v]) G m2:=by
 unfold Eg at hv;split at hv;injection hv with hv;subst hv;cases hx;cases hy;exact bu.of (u:=.int _ _) (λw _=>by simp[Builtin.min_,Builtin.min2]) (.v rfl);cases hv
def zW(op:UnOp)(x:MV):Option MV:=
 match op,x with
 | .neg,.v (.int k a)=>φ (.v (.int k (k.wrap (0 - a))))
 | .not,.v (.bool b)=>φ (.v (.bool !b))
 | _,_=>Β
def Tr{op:UnOp}(hv:zW op m=φ m')(hx:VR G m u):bu P (Op.unary op u) G m':=by
 unfold zW at hv;split at hv;injection hv with hv;subst hv;cases hx;exact bu.of (u:=.int _ _) (λw _=>by simp[Op.unary,Op.intArith]) (.v rfl);injection hv with hv;subst hv;cases hx;exact bu.of (u:=.bool _) (λw _=>by simp[Op.unary]) (.v rfl);cases hv
end
section
variable{G H:Gh}{n:Sz}{D:List Deferred}{e:Env}{a:Act}{P:Program}{tab:cL}{O O':VH}{w:World}{m m':MV}{u v:Value}
def dR(d:Nat):Option MV->Option Nat
 | none=>φ d
 | some (.v (.int _ i))=>if 0<=i then φ i.toNat else Β
 | _=>Β
def py{d:Nat}{x:MV}(h:dR d (φ x)=φ k)(hx:VR G x u):∃kk,u= .int kk (k:Int):=by
 unfold dR at h;split at h;rename_i hh;cases hh;rename_i kk i hh;injection hh with hh;subst hh;cases hx;split at h;injection h with h;exact⟨kk,by rw[<-h];congr 1;omega⟩;cases h;cases h
def Mu(G:Gh):Option MV->Option Value->Prop
 | none,Β=>True
 | some m,φ u=>VR G m u
 | _,_=>False
def xN(isS:Bool)(len cap lo hi:Nat){l h:Option MV}{hv:Option Value}(hl:dR 0 l=φ lo)(hh:dR len h=φ hi)(rl:Mu G l lv)(rh:Mu G h hv)(h1:lo<=hi)(h2:hi<=cap):
  ∀w,(Instr.sliceBounds isS len cap lv hv Β).run P w= .ok (lo,hi,cap) w:=by
 intro w;cases l<;>cases lv<;>simp only[Mu]at rl<;>cases h<;>cases hv<;>simp only[Mu]at rh;simp only[dR,Option.some.injEq]at hl hh;subst hl;subst hh;simp[Instr.sliceBounds];obtain⟨k,rfl⟩:=py hh rh;simp only[dR,Option.some.injEq]at hl;subst hl;have:=run_sliceBound (P:=P) w k (hi:Int) cap (if isS then .sliceAcap else .sliceAlen) (by omega) (by omega);simp[Instr.sliceBounds,this];obtain⟨k,rfl⟩:=py hl rl;simp only[dR,Option.some.injEq]at hh;subst hh;have:=run_sliceBound (P:=P) w k (lo:Int) len .sliceB (by omega) (by omega);simp[Instr.sliceBounds,this];obtain⟨k,rfl⟩:=py hl rl;obtain⟨k',rfl⟩:=py hh rh;have h3:=run_sliceBound (P:=P) w k (lo:Int) hi .sliceB (by omega) (by omega);have h4:=run_sliceBound (P:=P) w k' (hi:Int) cap (if isS then .sliceAcap else .sliceAlen) (by omega) (by omega);simp[Instr.sliceBounds,h3,h4]
def vS(t:Tok)(sz:Nat)(whole:Bool):Tok:=if whole then(match t with
 | .full=>.full
 | .own t k=>if k=sz then .own t k else .au
 | _=>.au)else .au
def zX(tab:cL)(t:TypeId)(x:MV)(l h:Option MV):Option MV:=
 match(tab t).map c6.under,x with
 | some .string,.s s=>match dR 0 l,dR (Ζ s) h with
   | some lo,φ hi=>if lo<=hi/\hi<=(Ζ s) then φ (.s ((s.drop lo).take (hi - lo)))else Β
   | _,_=>Β
 | some (.slice el),.l n cells tk=>match tab el,dR 0 l,dR n h with
   | some te,φ lo,φ hi=>
     if lo=0/\hi=n then φ (.l n cells tk)
     else if lo<=hi/\hi<=n/\(Ζ cells)=n*te.size then φ (.l (hi - lo) ((cells.drop (lo*te.size)).take ((hi - lo)*te.size)) (vS tk te.size (hi==n)))else Β
   | _,_,_=>Β
 | some (.slice el),.aS k o n c=>match tab el,dR 0 l,dR n h with
   | some te,φ lo,φ hi=>if lo<=hi/\hi<=c then φ (.aS k (if c=lo then o else o+lo*te.size) (hi - lo) (c - lo))else Β
   | _,_,_=>Β
 | _,_=>Β
def bZ(ht:aR P tab){t:TypeId}{d:TypeDesc}(h:(tab t).map c6.under=φ d):P.underlying t=φ d:=by
 obtain⟨i,hi,hu⟩:=Th.1 h;rw[<-hu];exact(ht t i hi).under
def Ts(ht:aR P tab){t:TypeId}{l hh:Option MV}{vT:Option Value}(hv:zX tab t m l hh=φ m')(hx:VR G m u)(rl:Mu G l lv)(rh:Mu G hh vT):
  bu P (Instr.sliceAt t u lv vT Β) G m':=by
 unfold zX at hv;split at hv;rename_i s hu;have fE:=bZ ht hu;split at hv;rename_i lo hi h1 h2;split at hv;rename_i hc;injection hv with hv;subst hv;cases hx;refine bu.of (u:=.string ⟨⟨(s.drop lo).take (hi - lo)⟩⟩) (λw _=>?_) .s;have hb:=xN (P:=P) γ (Ζ s) (Ζ s) lo hi h1 h2 rl rh hc.1 hc.2;have hs:(⟨⟨s⟩⟩:ByteArray).size=Ζ s:=rfl;simp only[Instr.sliceAt,Instr.slice,Sem.run_bind,run_underlying fE,Result.andThen_ok,hs,hb,ake,abx,if_false,Sem.run_pure];have:(⟨⟨s⟩⟩:ByteArray).extract lo hi=⟨⟨(s.drop lo).take (hi - lo)⟩⟩:=ByteArray.ext (by simp[ByteArray.data_extract]);rw[this];cases hv;cases hv
 ·rename_i el n' cells tk hu;have fE:=bZ ht hu;split at hv
  ·rename_i te lo hi he h1 h2
   have run:∀(A:Option Addr)(c:Nat),lo<=hi->hi<=c->∀w,(Instr.sliceAt t (.slice A n' c) lv vT Β).run P w= .ok (.slice (if c=lo then A else A.map (·.add (lo*te.size))) (hi - lo) (c - lo)) w:=λA c h3 h4 w=>by
    have hb:=xN (P:=P) Α n' c lo hi h1 h2 rl rh h3 h4;simp only[Instr.sliceAt,Instr.slice,Sem.run_bind,run_underlying fE,Result.andThen_ok,hb,gH (ht _ te he),Sem.run_pure]
   split at hv
   ·rename_i hc;injection hv with hv;subst hv;obtain⟨rfl,rfl⟩:=hc
    have fin:∀(A:Option Addr)(c:Nat),hi<=c->VR G (.l hi cells tk) (.slice A hi c)->bu P (Instr.sliceAt t (.slice A hi c) lv vT Β) G (.l hi cells tk):=λA c hc qR=>by
     refine bu.of (λw _=>run A c (alO _) hc w) ?_
     have:(if c=0 then A else A.map (·.add (0*te.size)))=A:=by
      split;rfl;cases A<;>simp[Addr.add]
     rw[this];simpa using qR
    cases hx with
    | slnil=>exact fin _ _ (aka _) .slnil
    | rp h3=>exact fin _ _ (alO _) (.rp h3)
    | mg=>exact fin _ _ (aka _) .mg
    | l h3 h4 h5 h6 h7 h8=>exact fin _ _ h6 (.l h3 h4 h5 h6 h7 h8)
   ·split at hv
    ·rename_i hne hc;injection hv with hv;subst hv
     cases hx with
     | slnil=>exact absurd ⟨by omega,by omega⟩ hne
     | rp h3=>exact absurd ⟨by omega,by omega⟩ hne
     | mg=>exact absurd ⟨by omega,by omega⟩ hne
     | l h3 h4 h5 h6 h7 h8=>
       rename_i us c b o;refine bu.of (λw _=>run _ c hc.1 (by omega) w) ?_;have kI:((us.drop (lo*te.size)).take ((hi - lo)*te.size)).length=((cells.drop (lo*te.size)).take ((hi - lo)*te.size)).length:=by simp[h3]
       have alY:∀(i:Nat)(c:MV)(u:Value),((cells.drop (lo*te.size)).take ((hi - lo)*te.size))[i]?=φ c->((us.drop (lo*te.size)).take ((hi - lo)*te.size))[i]?=φ u->VR G c u:=λi c u ha hb=>by
        rw[YI]at ha hb;split at ha;rw[if_pos ‹_›]at hb;rw[agb]at ha hb;exact h5 _ c u ha hb;cases ha
       by_cases gU:c=lo
       ·subst gU;(obtain rfl:hi=c:=by omega);rw[if_pos rfl];simp only[Nat.sub_self,Nat.zero_mul,List.take_zero];refine .l (us:=[]) rfl (λi u hu=>by simp at hu) (λi c u hu=>by simp at hu) (aka _) (alO _) ?_;unfold vS;split
        ·cases tk with
         | nil=>exact h8.elim
         | full=>rfl
         | own t k=>
           simp only;split;exact .inl rfl;trivial
         | au=>trivial
        ·trivial
       ·rw[if_neg gU];simp only[akb,Addr.add_lit];refine .l kI (λi u hu=>?_) alY (by omega) (by omega) ?_;rw[YI]at hu;split at hu;rw[agb]at hu;rw[ap2];exact h4 _ u hu;cases hu
        ·unfold vS;split
         ·rename_i hw;((have hw:hi=n':=by simpa using hw);subst hw;have hmul:(hi - lo)*te.size=(Ζ cells) - lo*te.size:=by rw[hc.2.2,Nat.sub_mul]);have ni:((cells.drop (lo*te.size)).take ((hi - lo)*te.size)).length=(hi - lo)*te.size:=by simp;omega
          have hle:lo*te.size<=hi*te.size:=Nat.mul_le_mul_right _ hc.1;cases tk with
          | nil=>exact h8.elim
          | full=>show c - lo=hi - lo;have:c=hi:=h8;omega
          | own t k=>
            simp only;split;rename_i hk;subst hk;rcases h8 with h8 | ⟨r,h9,BH,h11⟩;exact .inl (by omega);refine .inr ⟨r,?_,ni,by omega⟩;rw[h9,ni];((congr 2;congr 1);omega);trivial
          | au=>trivial
         ·trivial
    ·cases hv
  ·cases hv
 ·rename_i el k o n' c hu;have fE:=bZ ht hu;split at hv
  ·rename_i te lo hi he h1 h2;split at hv
   ·rename_i hc;injection hv with hv;subst hv
    cases hx with
    | aS h3 h4 h5=>
      rename_i b;have hb:=xN (P:=P) Α n' c lo hi h1 h2 rl rh hc.1 (by omega);refine bu.of (u:=.slice (if c=lo then φ ⟨b,o,Β⟩else(φ (⟨b,o,Β⟩:Addr)).map (·.add (lo*te.size))) (hi - lo) (c - lo)) (λw _=>?_) ?_;simp only[Instr.sliceAt,Instr.slice,Sem.run_bind,run_underlying fE,Result.andThen_ok,hb,gH (ht _ te he),Sem.run_pure];split;exact .aS h3 (by omega) (by omega);simp only[akb,Addr.add_lit];exact .aS h3 (by omega) (by omega)
   ·cases hv
  ·cases hv
 ·cases hv
def abE:Tok->Tok
 | .nil=>.nil
 | _=>.au
def qS(tab:cL)(t:TypeId)(x:MV)(l:Option MV)(h mx:MV):Option MV:=
 match(tab t).map c6.under,h,mx with
 | some (.slice el),.v (.int _ hi),.v (.int _ m)=>match tab el,dR 0 l with
   | some te,φ lo=>if 0<=hi/\0<=m/\lo<=hi.toNat/\hi.toNat<=m.toNat then(match x with
     | .aS k o _ c=>if m.toNat<=c then φ (.aS k (if m.toNat=lo then o else o+lo*te.size) (hi.toNat - lo) (m.toNat - lo))else Β
     | .l n cells tk=>if m.toNat<=n/\(Ζ cells)=n*te.size then(if n=0 then φ (.l 0 [] (abE tk))else if m.toNat=lo then φ (.l 0 [] .full)else φ (.l (hi.toNat - lo) ((cells.drop (lo*te.size)).take ((hi.toNat - lo)*te.size)) (if m.toNat=hi.toNat then .full else .au)))else Β
     | _=>Β)else Β
   | _,_=>Β
 | _,_,_=>Β
def OZ(ht:aR P tab){t:TypeId}{l:Option MV}{hh mx:MV}{vT mv:Value}(hv:qS tab t m l hh mx=φ m')(hx:VR G m u)(rl:Mu G l lv)(rh:VR G hh vT)(rm:VR G mx mv):
  bu P (Instr.sliceAt t u lv (φ vT) (φ mv)) G m':=by
 unfold qS at hv;split at hv
 ·rename_i el k1 hi k2 mi hu;have fE:=bZ ht hu;cases rh;cases rm;split at hv
  ·rename_i te lo he h1;split at hv
   ·rename_i hc;obtain⟨c1,c2,c3,c4⟩:=hc
    have jn:lv=Β/\lo=0\/∃kk,lv=φ (.int kk (lo:Int)):=by
     cases l<;>cases lv<;>simp only[Mu]at rl;simp only[dR,Option.some.injEq]at h1;exact .inl ⟨rfl,h1.symm⟩;obtain⟨kk,rfl⟩:=py h1 rl;exact .inr ⟨kk,rfl⟩
    have run:∀(A:Option Addr)(n' c:Nat),mi.toNat<=c->∀w,(Instr.sliceAt t (.slice A n' c) lv (φ (.int k1 hi)) (φ (.int k2 mi))).run P w= .ok (.slice (if mi.toNat=lo then A else A.map (·.add (lo*te.size))) (hi.toNat - lo) (mi.toNat - lo)) w:=λA n' c h3 w=>by
     have e1:=run_sliceBound (P:=P) w k2 mi c .slice3Acap c2 (by omega);have e2:=run_sliceBound (P:=P) w k1 hi mi.toNat .slice3B c1 (by omega)
     have hb:(Instr.sliceBounds Α n' c lv (φ (.int k1 hi)) (φ (.int k2 mi))).run P w= .ok (lo,hi.toNat,mi.toNat) w:=by
      rcases jn with⟨rfl,rfl⟩ | ⟨kk,rfl⟩;simp[Instr.sliceBounds,e1,e2];have e3:=run_sliceBound (P:=P) w kk (lo:Int) hi.toNat .slice3C (by omega) (by omega);simp[Instr.sliceBounds,e1,e2,e3]
     simp only[Instr.sliceAt,Instr.slice,Sem.run_bind,run_underlying fE,Result.andThen_ok,hb,gH (ht _ te he),Sem.run_pure]
    split at hv
    ·rename_i k o n' c;split at hv
     ·rename_i Mv;injection hv with hv;subst hv
      cases hx with
      | aS h3 h4 h5=>
        rename_i b;refine bu.of (λw _=>run _ n' c Mv w) ?_;split;exact .aS h3 (by omega) (by omega);simp only[akb,Addr.add_lit];exact .aS h3 (by omega) (by omega)
     ·cases hv
    ·rename_i n' cells tk;split at hv
     ·rename_i Mv;split at hv
      ·rename_i hn;subst hn;injection hv with hv;subst hv;((have e0:mi.toNat=0:=by omega);have e1:hi.toNat=0:=by omega);have e2:lo=0:=by omega
       have fin:∀A c,VR G (.l 0 [] (abE tk)) (.slice A 0 0)->bu P (Instr.sliceAt t (.slice A 0 c) lv (φ (.int k1 hi)) (φ (.int k2 mi))) G (.l 0 [] (abE tk)):=λA c hr=>by
        refine bu.of (u:=.slice A 0 0) (λw _=>?_) hr;rw[run A 0 c (by omega) w,e0,e1,e2];simp
       cases hx with
       | slnil=>exact fin _ _ .slnil
       | rp h3=>exact fin _ _ (.rp (alO _))
       | mg=>exact fin _ _ .mg
       | l h3 h4 h5 h6 h7 h8=>
         cases tk with
         | nil=>exact h8.elim
         | _=>exact fin _ _ (.rp (alO _))
      ·rename_i hn;split at hv
       ·rename_i pB;injection hv with hv;subst hv
        cases hx with
        | slnil=>exact absurd rfl hn
        | rp h3=>exact absurd rfl hn
        | mg=>exact absurd rfl hn
        | l h3 h4 h5 h6 h7 h8=>
          refine bu.of (λw _=>run _ n' _ (by omega) w) ?_;rw[if_pos pB,show hi.toNat - lo=0 by omega,show mi.toNat - lo=0 by omega];exact .l (us:=[]) rfl (λi u h=>by simp at h) (λi c u h=>by simp at h) (aka _) (alO _) rfl
       ·rename_i pB;injection hv with hv;subst hv
        cases hx with
        | slnil=>exact absurd rfl hn
        | rp h3=>exact absurd rfl hn
        | mg=>exact absurd rfl hn
        | l h3 h4 h5 h6 h7 h8=>
          rename_i us c b o;refine bu.of (λw _=>run _ n' c (by omega) w) ?_;rw[if_neg pB];simp only[akb,Addr.add_lit];refine .l (us:=(us.drop (lo*te.size)).take ((hi.toNat - lo)*te.size)) (by simp[h3]) (λi u hu=>?_) (λi c u ha hb=>?_) (by omega) (by omega) ?_;rw[YI]at hu;split at hu;rw[agb]at hu;rw[ap2];exact h4 _ u hu;cases hu;rw[YI]at ha hb;split at ha;rw[if_pos ‹_›]at hb;rw[agb]at ha hb;exact h5 _ c u ha hb;cases ha;split;rename_i e;show mi.toNat - lo=hi.toNat - lo;rw[e];trivial
     ·cases hv
    ·cases hv
   ·cases hv
  ·cases hv
 ·cases hv
def oP(tab:cL)(O:VH)(t:TypeId)(l c:MV):Option (MV×VH):=
 match(tab t).map c6.under,l,c with
 | some (.slice el),.v (.int _ i),.v (.int _ j)=>match tab el with
   | some te=>if 0<=i/\i<=j/\j<=9223372036854775807/\te.bytes*j<=281474976710656/\0<(Ζ te.zero) then φ (.aS O.N 0 i.toNat j.toNat,O.push (.cells (jP te.zero (j.toNat*te.size))))else Β
   | none=>Β
 | _,_,_=>Β
def G_(ht:aR P tab)(h:WR G O w){t:TypeId}{l c:MV}{lv cv:Value}(hv:oP tab O t l c=φ (m,O'))(hl:VR G l lv)(hc:VR G c cv):jw P (Instr.makeSlice t lv cv) w G O' m:=by
 unfold oP at hv;split at hv;rename_i el k i k' j hu;cases hl;cases hc;have fE:=bZ ht hu;split at hv;rename_i te he;split at hv;rename_i hb;injection hv with hv;simp only[Prod.mk.injEq]at hv;obtain⟨rfl,rfl⟩:=hv;have qd:=ht _ te he;obtain⟨ti,z,h1,h2,h3,h4,h5,h6⟩:=qd.info;have hr:=run_make (P:=P) w t el ti z fE h1 h4 k k' i j hb.1 hb.2.1 (by rw[h3];exact hb.2.2.2.1) hb.2.2.1;rw[h2]at hr;have hz:=BG (h6 G) hb.2.2.2.2 (j.toNat*te.size);obtain⟨h7,h8⟩:=h.push el hz;exact⟨_,_,_,hr,h7,h8,.aS (aN _ _ _) (by omega) (by simp only[maxLen];omega),lp.alloc h _⟩;cases hv;cases hv;cases hv
def jx(tab:cL)(O:VH)(t:TypeId)(x y:MV):Option (MV×VH):=
 match(tab t).map c6.under,y with
 | some (.slice el),.l k ds _=>match tab el,x with
   | some te,.l n cells tk=>
     if (Ζ ds)=k*te.size/\ds.all eI=Α/\0<te.size then
      if k=0 then φ (.l n cells tk,O)
      else if (Ζ cells)=n*te.size/\(n+k)*te.bytes<=140737488355328/\n+k<=maxLen then
       match tk with
       | .nil=>φ (.l (n+k) (cells++ds) (.own O.N te.size),O.push .tok)
       | .full=>φ (.l (n+k) (cells++ds) (.own O.N te.size),O.push .tok)
       | .own s k'=>if k'=te.size then match O.hp s with
         | some .tok=>φ (.l (n+k) (cells++ds) (.own O.N te.size),(O.kill s).push .tok)
         | _=>Β
         else Β
       | .au=>Β
      else Β
     else Β
   | _,_=>Β
 | _,_=>Β
def YM(h:WR G O w){cs:Η}{R:Array Value}{el:TypeId}(hc:aW G cs us)(hl:Ζ cs=N*k)(hR:R.size=r*k)(hm:N+r<=maxLen):
  ∃K,G.Le K/\WR K (O.push .tok) (w.alloc (.cells (us.toArray++R) el))/\VR K (.l N cs (.own O.N k)) (.slice (φ ⟨w.heap.size,0,Β⟩) N (N+r)):=by
 have hg:=h.grow (.cells (us.toArray++R) el);have BI:Ζ us=N*k:=by rw[hc.1,hl]
 have cj:∀o u,(if o<N*k then us[o]? else Β)=φ u->(w.alloc (.cells (us.toArray++R) el)).cell? ⟨w.heap.size,o,Β⟩=φ u:=λo u ho=>by
  rw[Kj];split at ho;rw[ap8 (by simp;omega)];simpa using ho;cases ho
 obtain⟨h1,h2⟩:=hg.GI (b:=w.heap.size) (f:=λo=>if o<N*k then us[o]? else Β) (λo u hc=>by rw[h.zO]at hc;cases hc) cj (λk _=>h.vR k)
  λt c x ht hx e=>absurd e (h.r6 ht hx)
 have hb:(w.alloc (.cells (us.toArray++R) el)).heap[w.heap.size]?=φ (.cells (us.toArray++R) el (0,0)):=by rw[gG,if_pos rfl]
 obtain⟨h3,h4⟩:=h2.WU (b:=w.heap.size) (f:=N*k) (k:=k) (r:=r) (C:=us.toArray++R) (T:=el) h.bsz hb (by simp[BI,hR])
  (λo ho=>by
   show(if w.heap.size=w.heap.size then(if o<N*k then us[o]? else Β)else _)=Β;rw[if_pos rfl,if_neg (by omega)])
  h.vR (λt c x ht hx=>h.r6 ht hx)
 refine⟨_,h1.trans h3,h4,?_⟩;refine .l (us:=us) hc.1 (λi u hu=>?_) (λi c u a b=>(hc.2 i c u a b).mono (h1.trans h3)) (by omega) hm ?_;show(if w.heap.size=w.heap.size then(if 0+i<N*k then us[0+i]? else Β)else _)=φ u;have:=(af_.1 hu).1;rw[if_pos rfl,alT,if_pos (by omega)];exact hu;refine .inr ⟨r,?_,hl,rfl⟩;show bS _ _ _ _=_;rw[aN,alT,hl]
def WR.setRow(h:WR G O w){C':Array Value}{T:TypeId}(hB:G.B<=b)(hb:w.heap[b]?=φ (.cells C T (0,0)))(fC:∀j,G.cu j≠φ b)(xK:∀t c x,O.hp t=φ .tok->G.tok t=φ (c,x)->c≠b)
  (OU:∀o u,G.fB b o=φ u->C'[o]?=φ u):WR G O (w.setRow b C'):=by
 have ru:=setRow_heap w b C C' T (0,0) hb;have fD:∀j,j≠b->(w.setRow b C').heap[j]?=w.heap[j]?:=λj hj=>setRow_other w b j C' hj
 have r7:(w.setRow b C').heap.size=w.heap.size:=by simp[World.setRow]
 refine⟨⟨h.base.os,h.base.tape,h.base.output,by rw[r7];exact h.base.size,λj hj=>by rw[fD j (by have:j<G.B:=hj;omega)];exact h.base.block j hj⟩,λb' o u hc=>?_,h.sq,λk c hk=>?_,h.inj,λk cs hk=>?_,λk es ck hk=>?_,λt ht=>?_,h.nM,h.rq id (λ_ _ _ _ h=>h) λk b' s hk hs=>jO (λx hx=>by rw[fD _ (λe=>fC k (e▸hk))];exact hx) hs,h.uu id (λ_ _ h=>h) λk x b' hk hb hx=>by rw[fD b' (λe=>fC k (e▸hb))];exact hx,h.tI,h.Eb⟩;by_cases e:b'=b;subst e;rw[cell_setRow_same w b' o C C' T (0,0) hb];exact OU o u hc;rw[cell_setRow_other w b C' _ e];exact h.fB b' o u hc;obtain⟨h1,h2,h3⟩:=h.lU k c hk;exact⟨h1,by rw[r7];exact h2,h3⟩;obtain⟨c,D,T',h1,h2,h3⟩:=h.cells k cs hk;exact⟨c,D,T',h1,by rw[fD c (λe=>fC k (e▸h1))];exact h2,h3⟩;obtain⟨c,E,h1,h2,h3⟩:=h.map k es ck hk;exact⟨c,E,h1,by rw[fD c (λe=>fC k (e▸h1))];exact h2,h3⟩;obtain⟨c,f,k,r,D,T',h1,h2,h3,h4⟩:=h.tok t ht;exact⟨c,f,k,r,D,T',h1,h2,by rw[fD c (xK t c _ ht h1)];exact h3,h4⟩
def Ha(h:WR G O w){ds:Η}{tk:Tok}(hy:VR G (.l k ds tk) v)(hl:Ζ ds=k*sz)(hk:k≠0):
  ∃ad c us,v= .slice (φ ad) k c/\aW G ds us/\(Ζ us)=k*sz/\∀j u,us[j]?=φ u->w.cell? (ad.add j)=φ u:=by
 cases hy with
 | slnil=>exact absurd rfl hk
 | rp h1=>exact absurd rfl hk
 | mg=>exact absurd rfl hk
 | l h1 h2 h3 h4 h5 h6=>exact⟨_,_,_,rfl,⟨h1,h3⟩,by rw[h1,hl],λj u hu=>by rw[Addr.add_lit];exact h.fB _ _ _ (h2 j u hu)⟩
def O_(z:Array Value)(n:Nat):(Builtin.zeroCells z n).size=n*z.size:=by simp[Builtin.zeroCells]
def Mw(h:WR G O w){t ty el:TypeId}{te:c6}(ht:P.underlying t=φ (.slice el))(qd:AS P el te){n:Nat}{cells ds:Η}{tk tk':Tok}(hx:VR G (.l n cells tk) u)(hy:VR G (.l 0 ds tk') v):
  (Builtin.append_ #[t,t] ty #[u,v]).run P w= .ok u w:=by
 obtain⟨ti,Tt,_⟩:=WV qd w
 have run:∀(A B:Option Addr)(k c c':Nat),k<=c->(A=Β->k=0)->(Builtin.append_ #[t,t] ty #[.slice A k c,.slice B 0 c']).run P w= .ok (.slice A k c) w:=λA B k c c' hc hA=>by
  have hf:(Builtin.firstCells te.size 0 (.slice B 0 c')).run P w= .ok #[] w:=by
   cases B with
   | none=>simp[Builtin.firstCells]
   | some b=>simp[Builtin.firstCells,loadCells,loadCellsFrom]
  have hn:¬(c<k):=by omega
  cases A with
  | none=>simp[Builtin.append_,run_underlying ht,gH qd,Builtin.lenOf,hf,hc]
  | some a=>simp[Builtin.append_,run_underlying ht,gH qd,Builtin.lenOf,hf,hc,storeCells]
 have hu:∃A c,u= .slice A n c/\n<=c/\(A=Β->n=0):=by
  cases hx with
  | slnil=>exact⟨_,_,rfl,aka _,λ_=>rfl⟩
  | rp h1=>exact⟨_,_,rfl,alO _,λ_=>rfl⟩
  | mg=>exact⟨_,_,rfl,aka _,λ_=>rfl⟩
  | l h1 h2 h3 h4 h5 h6=>exact⟨_,_,rfl,h4,λh=>by cases h⟩
 have hv:∃B c',v= .slice B 0 c':=by
  cases hy with
  | slnil=>exact⟨_,_,rfl⟩
  | rp h1=>exact⟨_,_,rfl⟩
  | mg=>exact⟨_,_,rfl⟩
  | l h1 h2 h3 h4 h5 h6=>exact⟨_,_,rfl⟩
 obtain⟨A,c,rfl,h1,h2⟩:=hu;obtain⟨B,c',rfl⟩:=hv;exact run A B n c c' h1 h2
def Cw(h:WR G O w){t ty el:TypeId}{te:c6}(ht:P.underlying t=φ (.slice el))(qd:AS P el te){n c:Nat}{cells ds:Η}{tk':Tok}{A:Option Addr} 
  (hA:A=Β->n=0/\c=0) (kI:aW G cells us) (BI:Ζ us=n*te.size) (cj:∀ad,A=φ ad->∀j u,us[j]?=φ u->w.cell? (ad.add j)=φ u) (hy:VR G (.l k ds tk') v) (hl:Ζ ds=k*te.size) (hk:k≠0)
  (hc:c<n+k) (hb:(n+k)*te.bytes<=140737488355328) (hm:n+k<=maxLen):
  jw P (Builtin.append_ #[t,t] ty #[.slice A n c,v]) w G (O.push .tok) (.l (n+k) (cells++ds) (.own O.N te.size)):=by
 obtain⟨ti,z,h1,h2,h3,h4,h5,h6⟩:=qd.info;obtain⟨ad,c',vs,rfl,qQ,ew,hvc⟩:=Ha h hy hl hk;have aoU:n+k<=9223372036854775807:=by simp only[maxLen]at hm;omega
 have jQ:=grownCap_ge w (n+k) c el;have hle:=grownCap_le_maxLen w (n+k) c el hm;have gU:(cells++ds).length=(n+k)*te.size:=by rw[alV, <-kI.1,BI,hl,Nat.add_mul]
 obtain⟨K,g1,g2,g3⟩:=YM (r:=grownCap w (n+k) c el - (n+k)) (R:=Builtin.zeroCells z.cells (grownCap w (n+k) c el - (n+k))) (el:=el) h.drew (kI.append qQ) gU (by rw[O_,h5]) (by omega);rw[show n+k+(grownCap w (n+k) c el - (n+k))=grownCap w (n+k) c el from by omega]at g3;refine⟨_,_,K,?_,g1,g2,g3,lp.alloc h.drew _⟩;cases A with
 | none=>
   obtain⟨rfl,rfl⟩:=hA rfl;have:us=[]:=alQ (by simpa using BI);subst this;have hr:=run_append_nil (P:=P) w t ty el ti z ht h1 h4 ad k c' vs (by rw[h2,ew]) hvc (by omega) (by omega) (by rw[h3];simp only[alT]at hb;omega);simpa using hr
 | some a=>
   have hr:=run_append_grow (P:=P) w t ty el ti z ht h1 h4 a n c us (by rw[h2,BI]) (cj a rfl) ad k c' vs (by rw[h2,ew]) hvc hc (by omega) (by rw[h3];exact growslice_fits (by omega) hb);simpa using hr
def Mx(h:WR G O w){t ty el:TypeId}{te:c6}(ht:P.underlying t=φ (.slice el))(qd:AS P el te){n s o:Nat}{cells ds:Η}{tk':Tok} 
  (hs:O.hp s=φ .tok) (hg:G.tok s=φ (b,o+Ζ cells,te.size,r)) (kI:aW G cells us) (BI:Ζ cells=n*te.size) (OU:∀i u,us[i]?=φ u->G.fB b (o+i)=φ u)
  (hy:VR G (.l k ds tk') v) (hl:Ζ ds=k*te.size) (jy:ds.all eI=Α) (hk:k≠0) (hc:n+k<=n+r) (hm:n+r<=maxLen):
  jw P (Builtin.append_ #[t,t] ty #[.slice (φ ⟨b,o,Β⟩) n (n+r),v]) w G ((O.kill s).push .tok) (.l (n+k) (cells++ds) (.own O.N te.size)):=by
 obtain⟨ti,z,i1,i2,i3,i4,i5,i6⟩:=qd.info;obtain⟨ad,c',vs,rfl,qQ,ew,hvc⟩:=Ha h hy hl hk;obtain⟨b',f,k',r',C,T,t1,t2,t3,t4,t5,t6⟩:=h.tok s hs;rw[hg]at t1;simp only[Option.some.injEq,Prod.mk.injEq]at t1;obtain⟨rfl,rfl,rfl,rfl⟩:=t1;have hkr:k*te.size<=r*te.size:=Nat.mul_le_mul_right _ (by omega);have alZ:=BD qQ jy;have WW:=run_firstCells_some (P:=P) w te.size k ad k c' vs ew hvc;have cX:=run_storeCells_at P b (o+Ζ cells) T vs 0 C w t3 (by rw[Nat.add_zero,ew];omega) alZ
 have cT:(Builtin.append_ #[t,t] ty #[.slice (φ ⟨b,o,Β⟩) n (n+r),.slice (φ ad) k c']).run P w=
   .ok (.slice (φ ⟨b,o,Β⟩) (n+k) (n+r)) (w.setRow b (C.toList.take (o+Ζ cells+0)++vs++C.toList.drop (o+Ζ cells+0+Ζ vs)).toArray):=by
  have hn:k<=r:=by omega
  rw[BI]at cX;simp only[Builtin.append_,run_underlying ht,gH qd,Builtin.lenOf,WW,Sem.run_bind,Result.andThen_ok,Sem.run_pure,ap4,Addr.add_lit,cX,BI]<;>simp[run_underlying ht,gH qd,Builtin.lenOf,WW,cX,hn,BI,Addr.add_lit]
 simp only[Nat.add_zero]at cT;generalize hC':(C.toList.take (o+Ζ cells)++vs++C.toList.drop (o+Ζ cells+Ζ vs)).toArray=C' at cT;have hfs:o+Ζ cells<=C.size:=by omega
 have Tu:(C.toList.take (o+Ζ cells)).length=o+Ζ cells:=by simp;omega
 have hC1:∀i,i<o+(Ζ cells)->C'[i]?=C[i]?:=λi hi=>by
  rw[<-hC',ap4,ap_,aqa (by omega),YI,if_pos hi];simp
 have Hb:∀i u,vs[i]?=φ u->C'[o+Ζ cells+i]?=φ u:=λi u hu=>by
  have hi:=(af_.1 hu).1;rw[<-hC',ap4,ap_,List.getElem?_append_right (by omega),Tu,Nat.add_sub_cancel_left,aqa hi];exact hu
 have hC3:C'.size=C.size:=by rw[<-hC'];simp;omega
 have cK:=h.kill s
 have Hc:∀t c x,(O.kill s).hp t=φ .tok->G.tok t=φ (c,x)->c≠b:=λt c x di Tv e=>by
  subst e;(have hts:t≠s:=λe=>by subst e;rw[show(O.kill t).hp t=Β from aN _ _ _]at di;cases di);rw[show(O.kill s).hp t=O.hp t from aA _ _ hts]at di;exact hts (h.nM t s c x _ di hs Tv hg)
 have cU:=cK.setRow (C':=C') t2 t3 t6 Hc (λi u hu=>by
  have hi:i<o+Ζ cells:=by
   rcases ap5 i (o+Ζ cells)with h' | h';exact h';rw[t5 i h']at hu;cases hu
  rw[hC1 i hi];have:=h.fB b i u hu;simpa[World.cell?,t3]using this)
 have o_:=setRow_heap w b C C' T (0,0) t3;have age:∀i u,C'[i]?=φ u->(w.setRow b C').cell? ⟨b,i,Β⟩=φ u:=λi u hu=>by rw[cell_setRow_same w b i C C' T (0,0) t3];exact hu
 obtain⟨g1,g2⟩:=cU.GI (b:=b) (f:=λi=>if i<o+(Ζ cells) then G.fB b i else if i<o+Ζ cells+(Ζ vs) then C'[i]? else Β)
  (λi u hu=>by
   have hi:i<o+Ζ cells:=by
    rcases ap5 i (o+Ζ cells)with h' | h';exact h';rw[t5 i h']at hu;cases hu
   rw[if_pos hi];exact hu)
  (λi u hu=>by
   split at hu;exact cU.fB b i u hu;split at hu;exact age i u hu;cases hu)
  (λk _=>t6 k) (λt c x di Tv e=>absurd e (Hc t c _ di Tv))
 have BJ:(O.kill s).N=O.N:=rfl
 obtain⟨g3,g4⟩:=g2.WU (b:=b) (f:=o+Ζ cells+Ζ vs) (k:=te.size) (r:=r - k) (C:=C') (T:=T) t2 o_
  (by
   rw[hC3,ew];have:(r - k)*te.size=r*te.size - k*te.size:=Nat.sub_mul _ _ _;omega)
  (λi hi=>by
   show(if b=b then(if i<o+(Ζ cells) then G.fB b i else if i<o+Ζ cells+(Ζ vs) then C'[i]? else Β)else _)=Β;rw[if_pos rfl,if_neg (by omega),if_neg (by omega)])
  t6 (λt c x di Tv=>Hc t c x di Tv)
 refine⟨_,_,_,cT,g1.trans g3,g4,?_,λk b' sw=>setRow_other w b b' C' (λe=>t6 k (e▸sw))⟩;have abF:=kI.append qQ;refine .l (us:=us++vs) abF.1 (λi u hu=>?_) (λi c u a b'=>(abF.2 i c u a b').mono (g1.trans g3)) (by omega) hm ?_;show(if b=b then(if o+i<o+(Ζ cells) then G.fB b (o+i)else if o+i<o+Ζ cells+(Ζ vs) then C'[o+i]? else Β)else _)=φ u;rw[if_pos rfl];rw[List.getElem?_append]at hu;split at hu;rename_i hi;rw[kI.1]at hi;rw[if_pos (by omega)];exact OU i u hu;rename_i hi;have cn:=(af_.1 hu).1;rw[kI.1]at hi cn hu;rw[if_neg (by omega),if_pos (by omega)];have:=Hb _ u hu;rw[<-this];(congr 1;omega);refine .inr ⟨r - k,?_,?_,by omega⟩;show bS _ _ _ _=_;rw[BJ,aN];simp only[alV,qQ.1];(congr 2;congr 1;omega);rw[alV,BI,hl,Nat.add_mul]
def Pb(ht:aR P tab)(h:WR G O w){t ty:TypeId}{x y:MV}(hv:jx tab O t x y=φ (m,O'))(hx:VR G x u)(hy:VR G y v):jw P (Builtin.append_ #[t,t] ty #[u,v]) w G O' m:=by
 unfold jx at hv;split at hv
 ·rename_i el k ds tk' hu;have fE:=bZ ht hu;split at hv
  ·rename_i te n cells tk he;have qd:=ht _ te he;split at hv
   ·rename_i hc;split at hv;rename_i hk;simp only[Option.some.injEq,Prod.mk.injEq]at hv;obtain⟨rfl,rfl⟩:=hv;subst hk;exact jw.of h (Mw h fE qd hx hy) hx
    ·rename_i hk;split at hv
     ·rename_i jm
      have grow:∀(A:Option Addr)(c:Nat)(us:List Value),(A=Β->n=0/\c=0)->aW G cells us->(∀ad,A=φ ad->∀j u,us[j]?=φ u->w.cell? (ad.add j)=φ u)->c<n+k->
        jw P (Builtin.append_ #[t,t] ty #[.slice A n c,v]) w G (O.push .tok) (.l (n+k) (cells++ds) (.own O.N te.size)):=λA c us a1 a2 a3 a4=>
       Cw h fE qd a1 a2 (by rw[a2.1,jm.1]) a3 hy hc.1 hk a4 jm.2.1 jm.2.2
      split at hv
      ·simp only[Option.some.injEq,Prod.mk.injEq]at hv;obtain⟨rfl,rfl⟩:=hv;cases hx with
       | slnil=>exact grow Β 0 [] (λ_=>⟨rfl,rfl⟩) aW.nil (λ_ h=>by cases h) (by omega)
       | l h1 h2 h3 h4 h5 h6=>exact h6.elim
      ·simp only[Option.some.injEq,Prod.mk.injEq]at hv;obtain⟨rfl,rfl⟩:=hv;cases hx with
       | l h1 h2 h3 h4 h5 h6=>
         rename_i us c b o;have h6:c=n:=h6;exact grow _ c us (λh=>by cases h) ⟨h1,h3⟩ (λad e j u hj=>by injection e with e;subst e;rw[Addr.add_lit];exact h.fB _ _ _ (h2 j u hj)) (by omega)
      ·rename_i s k';split at hv
       ·rename_i AB;subst AB;split at hv
        ·rename_i hs;simp only[Option.some.injEq,Prod.mk.injEq]at hv;obtain⟨rfl,rfl⟩:=hv;cases hx with
         | l h1 h2 h3 h4 h5 h6=>
           rename_i us c b o
           have abG:c<n+k->jw P (Builtin.append_ #[t,t] ty #[.slice (φ ⟨b,o,Β⟩) n c,v]) w G ((O.kill s).push .tok) (.l (n+k) (cells++ds) (.own O.N te.size)):=λdm=>
            Cw (O:=O.kill s) (h.kill s) fE qd (A:=φ ⟨b,o,Β⟩) (us:=us) (λh=>by cases h) ⟨h1,h3⟩ (by rw[h1,jm.1]) (λad e j u hj=>by injection e with e;subst e;rw[Addr.add_lit];exact h.fB _ _ _ (h2 j u hj)) hy hc.1 hk dm jm.2.1 jm.2.2
           rcases h6 with h6 | ⟨r,h7,h8,h9⟩;exact abG (by omega);by_cases hr:n+k<=c;subst h9;exact Mx h fE qd hs h7 ⟨h1,h3⟩ jm.1 (λi u hi=>h2 i u hi) hy hc.1 hc.2.1 hk hr h5;exact abG (by omega)
        ·cases hv
       ·cases hv
      ·cases hv
     ·cases hv
   ·cases hv
  ·cases hv
 ·cases hv
end
section
variable{G H:Gh}{n:Sz}{D:List Deferred}{e:Env}{a:Act}{P:Program}{tab:cL}{O O':VH}{w:World}{m m':MV}{u v:Value}
def Eh(tab:cL)(src dst:TypeId)(x:MV):Option MV:=
 match(tab src).map c6.under,(tab dst).map c6.under,x with
 | some _,φ (.int k),.v (.int _ i)=>φ (.v (.int k (k.wrap i)))
 | some .string,φ .string,.s l=>φ (.s l)
 | _,_,_=>Β
def YN(ht:aR P tab){src dst:TypeId}(hv:Eh tab src dst m=φ m')(hx:VR G m u):bu P (convert src dst u) G m':=by
 unfold Eh at hv;split at hv;injection hv with hv;subst hv;cases hx;exact bu.of (u:=.int _ _) (λw _=>by simp[convert,run_underlying (bZ ht ‹(tab src).map _=_›),run_underlying (bZ ht ‹(tab dst).map _=_›),Conv.intToInt]) (.v rfl);injection hv with hv;subst hv;cases hx;exact bu.of (u:=.string _) (λw _=>by simp[convert,run_underlying (bZ ht ‹(tab src).map _=_›),run_underlying (bZ ht ‹(tab dst).map _=_›)]) .s;cases hv
def _root_.Go.Proofs.YtjpadehgejlebaaGreatDoor.VR.j8{x u:Value}(h:VR G (.v x) u):u=x:=by cases h;rfl
def Pc(m:MV):Option MV:=
 match m with
 | .p _ _ | .d_ _ _=>φ m
 | .func (.func _) _ _=>φ m
 | _=>Β
def iN{α :Type}(parts:Array (Nat×Operand))(ms:List α):List (Nat× α):=(parts.toList.map (·.1)).zip ms
def zY:MV->Option MV
 | .aS k o _ c=>if c=0 then Β else φ (.p k o)
 | .l 0 [] .nil=>φ (.v (.pointer Β))
 | _=>Β
def Tw(hv:zY m=φ m')(hx:VR G m u){ts:Array TypeId}{ty:TypeId}:bu P (Builtin.unsafeSliceData_ ts ty #[u]) G m':=by
 unfold zY at hv;split at hv
 ·split at hv;cases hv
  ·rename_i k o n c hc;injection hv with hv;subst hv
   cases hx with
   | aS h1 h2 h3=>exact bu.of (u:=.pointer (φ _)) (λw _=>by
     show Sem.run P (if c≠0 then pure (Value.pointer (φ _))else _) w=_;rw[if_pos hc];rfl) (.p h1)
 ·injection hv with hv;subst hv
  cases hx with
  | slnil=>exact bu.of (u:=.pointer Β) (λw _=>rfl) (.v rfl)
  | l h1 h2 h3 h4 h5 h6=>exact h6.elim
 ·cases hv
def fI(tab:cL)(o:Oper)(e:Env):Option MV:=
 match o.op with
 | .move x | .assign x=>ev e x
 | .pick c a b=>match ev e c with
   | some (.v (.bool t))=>if t then ev e a else ev e b
   | _=>Β
 | .nilCheck x=>(ev e x).bind Pc
 | .binOp op t x y _=>match ev e x,ev e y with
   | some p,φ q=>dT tab op t p q
   | _,_=>Β
 | .unOp op _ x=>(ev e x).bind (zW op)
 | .convert s d x=>(ev e x).bind (Eh tab s d)
 | .fieldAddr t x f=>(ev e x).bind (kZ tab t f)
 | .field t x f=>(ev e x).bind (zS tab t · f)
 | .indexAddr t x i=>match ev e x,ev e i with
   | some p,φ q=>oO tab t p q
   | _,_=>Β
 | .index t x i=>match ev e x,ev e i with
   | some p,φ q=>zT tab t p q
   | _,_=>Β
 | .extract x i=>(ev e x).bind (uT · i)
 | .slice t x lo hi mx=>match ev e x,F8 lo,F8 hi,mx with
   | some p,φ l,φ h,Β=>zX tab t p l h
   | some p,φ l,φ (φ h),φ y=>(ev e y).bind (qS tab t p l h)
   | _,_,_,_=>Β
 | .build t parts=>match il e (parts.toList.map (·.2))with
   | some ms=>zV tab t (iN parts ms)
   | none=>Β
 | .load t x=>match ev e x with
   | some (.d_ cs off)=>gj tab ⟨0,λ_=>Β⟩ t (.d_ cs off)
   | _=>Β
 | .makeFunc fn fs cs=>match il e fs.toList,il e cs.toList with
   | some p,φ q=>φ (.func fn p q)
   | _,_=>Β
 | .makeInterface t x=>match(tab t).map c6.under,ev e x with
   | some (.interface _),_=>Β
   | some _,φ p=>φ (.iface t p)
   | _,_=>Β
 | .call c=>match c.callee,c.args.toList,c.argTypes.toList with
   | .builtin .len,[x],[t]=>(ev e x).bind (cS tab t)
   | .builtin .max,[x,y],_=>match ev e x,ev e y with
     | some p,φ q=>Ef p q
     | _,_=>Β
   | .builtin .min,[x,y],_=>match ev e x,ev e y with
     | some p,φ q=>Eg p q
     | _,_=>Β
   | .builtin .unsafeSliceData,[x],_=>(ev e x).bind zY
   | _,_,_=>Β
 | _=>Β
where F8:Option Operand->Option (Option MV)
 | none=>φ Β
 | some x=>(ev e x).map φ
def GJ(h:FR G n D e a){x:Option Operand}{y:Option MV}(hx:fI.F8 e x=φ y):Mu G y (x.map a.eval):=by
 cases x with
 | none=>injection hx with hx;subst hx;trivial
 | some x=>
   obtain⟨m,h1,rfl⟩:=Th.1 hx;exact h.ev h1
def Fh{l:List Operand}{ms:Η}(h:il e l=φ ms):Ζ ms=Ζ l:=by
 induction l generalizing ms with
 | nil=>simp[il]at h;subst h;rfl
 | cons x l ih=>
   simp only[il,akd,akc,Ti]at h;obtain⟨m,h1,ms',h2,h3⟩:=h;injection h3 with h3;subst h3;simp[ih h2]
def zip_fst{α :Type}(parts:Array (Nat×Operand))(ms:List α)(h:Ζ ms=Ζ parts.toList):(iN parts ms).map (·.1)=parts.toList.map (·.1):=by
 unfold iN;rw[show(List.map (λx:Nat× α =>x.1) ((parts.toList.map (·.1)).zip ms))=List.map Prod.fst ((parts.toList.map (·.1)).zip ms)from rfl,List.map_fst_zip];simp[h]
def Pd{α :Type}(parts:Array (Nat×Operand))(ms:List α)(h:Ζ ms=Ζ parts.toList):(iN parts ms).map (·.2)=ms:=by
 unfold iN;rw[show(List.map (λx:Nat× α =>x.2) ((parts.toList.map (·.1)).zip ms))=List.map Prod.snd ((parts.toList.map (·.1)).zip ms)from rfl,List.map_snd_zip];simp[h]
def Hd(a:Act)(parts:Array (Nat×Operand)):((parts.map λ(i,x)=>(i,a.eval x)).toList.map (·.1))=parts.toList.map (·.1):=by simp
def He(a:Act)(parts:Array (Nat×Operand)):((parts.map λ(i,x)=>(i,a.eval x)).toList.map (·.2))=(parts.toList.map (·.2)).map a.eval:=by simp
def ey(P:Program)(o:Oper)(a:Act)(G:Gh)(m:MV):Prop:=∃u,VR G m u/\∀w,SS G w->(execOp a.eval o).run P w= .ok (.value u) w
def ey.of(hs:bu P s G m)(he:execOp a.eval o=(do pure (.value (<-s)))):ey P o a G m:=by
 obtain⟨u,hu,hr⟩:=hs;exact⟨u,hu,λw hw=>by rw[he,Sem.run_bind,hr w hw];rfl⟩
def xO(ht:aR P tab)(h:FR G n D e a)(hv:fI tab o e=φ m):ey P o a G m:=by
 unfold fI at hv;split at hv;rename_i x ho;exact⟨_,h.ev hv,λw _=>by simp[execOp,ho]⟩;rename_i x ho;exact⟨_,h.ev hv,λw _=>by simp[execOp,ho]⟩;rename_i c x y ho;split at hv;rename_i t hc;have ry:=h.ev hc;have JC:a.eval c= .bool t:=ry.j8;split at hv;rename_i hb;exact⟨_,h.ev hv,λw _=>by simp[execOp,ho,asBool,JC,hb]⟩;rename_i hb;exact⟨_,h.ev hv,λw _=>by simp[execOp,ho,asBool,JC,hb]⟩;cases hv;rename_i x ho;obtain⟨p,h1,h2⟩:=Ti.1 hv;have hp:=h.ev h1;generalize hu:a.eval x=u at hp;unfold Pc at h2;split at h2;injection h2 with h2;subst h2;exact⟨u,hp,λw _=>by simp only[execOp,ho,hu];cases hp;rfl⟩;injection h2 with h2;subst h2;exact⟨u,hp,λw _=>by simp only[execOp,ho,hu];cases hp;rfl⟩;injection h2 with h2;subst h2;exact⟨u,hp,λw _=>by simp only[execOp,ho,hu];cases hp;rfl⟩;cases h2;rename_i op t x y yt ho;split at hv;rename_i p q h1 h2;exact ey.of (abB (xo:=x) (yo:=y) ht hv (h.ev h1) (h.ev h2)) (by simp[execOp,ho]);cases hv;rename_i op t x ho;obtain⟨p,h1,h2⟩:=Ti.1 hv;exact ey.of (Tr h2 (h.ev h1)) (by simp[execOp,ho]);rename_i s d x ho;obtain⟨p,h1,h2⟩:=Ti.1 hv;exact ey.of (YN ht h2 (h.ev h1)) (by simp[execOp,ho]);rename_i t x f ho;obtain⟨p,h1,h2⟩:=Ti.1 hv;exact ey.of (G8 ht h2 (h.ev h1)) (by simp[execOp,ho]);rename_i t x f ho;obtain⟨p,h1,h2⟩:=Ti.1 hv;exact ey.of (To ht h2 (h.ev h1)) (by simp[execOp,ho]);rename_i t x i ho;split at hv;rename_i p q h1 h2;exact ey.of (G9 ht hv (h.ev h1) (h.ev h2)) (by simp[execOp,ho]);cases hv;rename_i t x i ho;split at hv;rename_i p q h1 h2;exact ey.of (Tp ht hv (h.ev h1) (h.ev h2)) (by simp[execOp,ho]);cases hv;rename_i x i ho;obtain⟨p,h1,h2⟩:=Ti.1 hv;exact ey.of (Ms h2 (h.ev h1)) (by simp[execOp,ho])
 ·rename_i t x lo hi mx ho;split at hv;rename_i p l hh h1 h2 h3;exact ey.of (Ts ht hv (h.ev h1) (GJ h h2) (GJ h h3)) (by simp[execOp,ho])
  ·rename_i p l hh y h1 h2 h3;obtain⟨q,h4,h5⟩:=Ti.1 hv;have h6:=GJ h h3;cases hi with
   | none=>cases h3
   | some hi=>exact ey.of (OZ ht h5 (h.ev h1) (GJ h h2) h6 (h.ev h4)) (by simp[execOp,ho])
  ·cases hv
 ·rename_i t parts ho;split at hv;rename_i ms h1;have hl:=Fh h1;((((have uw:Ζ ms=Ζ parts.toList:=by simpa using hl);refine ey.of (Tq ht hv (ps:=parts.map λ(i,x)=>(i,a.eval x)) ?_ ?_) (by simp[execOp,ho]));rw[zip_fst parts ms uw,Hd]);rw[Pd parts ms uw,He];exact h.il h1);cases hv
 ·rename_i t x ho;split at hv;rename_i cs off h1;exact ey.of (Tm ht hv (h.ev h1)) (by simp[execOp,ho]);cases hv
 ·rename_i fn fs cs ho;split at hv;rename_i p q h1 h2;injection hv with hv;subst hv;have e1:=h.il h1;have e2:=h.il h2;refine⟨.func fn (fs.toList.map a.eval).toArray (cs.toList.map a.eval).toArray,.func e1.1 e1.2 e2.1 e2.2,λw _=>?_⟩;(((have f1:fs.map a.eval=(fs.toList.map a.eval).toArray:=by apply agc;simp);have f2:cs.map a.eval=(cs.toList.map a.eval).toArray:=by apply agc;simp);simp only[execOp,ho,Instr.makeFunc,f1,f2];rfl);cases hv
 ·rename_i t x ho;split at hv;cases hv
  ·rename_i d p hne hd h1;injection hv with hv;subst hv;have fE:=bZ ht hd;refine ey.of (s:=Instr.makeInterface t (a.eval x)) (bu.of (u:=.iface t (a.eval x)) (λw _=>?_) (.iface (h.ev h1))) (by simp[execOp,ho]);simp only[Instr.makeInterface,Sem.run_bind,run_underlying fE,Result.andThen_ok]
   cases d<;>first
    | rfl
    | (rename_i ms;exact absurd hd (hne ms))
  ·cases hv
 ·rename_i c ho;split at hv;rename_i x t hc jH Pe;obtain⟨p,h1,h2⟩:=Ti.1 hv;((((((have ha:c.args= #[x]:=by apply agc;exact jH);have gT:c.argTypes= #[t]:=by apply agc;exact Pe);exact ey.of (abD (ty:=o.type) ht h2 (h.ev h1)) (by simp[execOp,ho,resolve,hc,ha,gT,invoke,builtin]));rename_i x y hc jH;split at hv;rename_i p q h1 h2;((have ha:c.args= #[x,y]:=by apply agc;exact jH);exact ey.of (YK (ts:=c.argTypes) (ty:=o.type) hv (h.ev h1) (h.ev h2)) (by simp[execOp,ho,resolve,hc,ha,invoke,builtin]));cases hv);rename_i x y hc jH;split at hv;rename_i p q h1 h2;((have ha:c.args= #[x,y]:=by apply agc;exact jH);exact ey.of (YL (ts:=c.argTypes) (ty:=o.type) hv (h.ev h1) (h.ev h2)) (by simp[execOp,ho,resolve,hc,ha,invoke,builtin]));cases hv);rename_i x hc jH;obtain⟨p,h1,h2⟩:=Ti.1 hv;(have ha:c.args= #[x]:=by apply agc;exact jH);exact ey.of (Tw (ts:=c.argTypes) (ty:=o.type) h2 (h.ev h1)) (by simp[execOp,ho,resolve,hc,ha,invoke,builtin]));cases hv
 ·cases hv
end
open Go.MapKept (IsKey run_checkKey run_findKey run_setObj_map)
section
variable{G H:Gh}{n:Sz}{D:List Deferred}{e:Env}{a:Act}{P:Program}{tab:cL}{O O':VH}{w:World}{m m':MV}{u v:Value}
def rz{w:World}(o:Obj)(h:j≠b):({w with heap:=w.heap.setIfInBounds b o}:World).heap[j]?=w.heap[j]?:=
 aoT (Ne.symm h)
def xP{w:World}{x:Obj}(o:Obj)(h:w.heap[b]?=φ x):({w with heap:=w.heap.setIfInBounds b o}:World).heap[b]?=φ o:=
 Array.getElem?_setIfInBounds_self_of_lt (tU h)
def wV{w:World}(o:Obj){a:Addr}(h:a.block≠b):({w with heap:=w.heap.setIfInBounds b o}:World).cell? a=w.cell? a:=by
 unfold World.cell?;rw[rz o h]
abbrev xQ:=List (MV×MV×Nat)
structure iZ(G:Gh)(es:xQ)(E:List MapEntry):Prop where
 born:E.map (·.born)=es.map (·.2.2)
 key:aW G (es.map (·.1)) (E.map (·.key))
 val:aW G (es.map (·.2.1)) (E.map (·.val))
def iZ.nil:iZ G [] []:=⟨rfl,aW.nil,aW.nil⟩
def iZ.cons{x:MV×MV×Nat}{y:MapEntry}{es:xQ}(h1:y.born=x.2.2)(h2:VR G x.1 y.key)(h3:VR G x.2.1 y.val)(h:iZ G es E):iZ G (x::es) (y::E):=
 ⟨by rw[alS,alS,h1,h.born],aW.cons h2 h.key,aW.cons h3 h.val⟩
def iZ.fH{x:MV×MV×Nat}{es:xQ}(h:iZ G (x::es) E):∃y E',E=y::E'/\y.born=x.2.2/\VR G x.1 y.key/\VR G x.2.1 y.val/\iZ G es E':=by
 cases E with
 | nil=>have:=h.born;simp at this
 | cons y E=>
   have h1:=h.born;simp only[alS,List.cons.injEq]at h1;exact⟨y,E,rfl,h1.1,h.key.head,h.val.head,⟨h1.2,h.key.tail,h.val.tail⟩⟩
def iZ.jN(h:iZ G [] E):E=[]:=by
 cases E with
 | nil=>rfl
 | cons y E=>have:=h.born;simp at this
def iZ.append{es fs:xQ}{F:List MapEntry}(h:iZ G es E)(k:iZ G fs F):iZ G (es++fs) (E++F):=
 ⟨by simp[h.born,k.born],by simpa using aW.append h.key k.key,by simpa using aW.append h.val k.val⟩
def WR.vU(h:WR G O w){ck ck':Nat}{es JD:xQ}{E':Array MapEntry}{x:Obj}(hk:O.hp k=φ (.map es ck))(hp:G.cu k=φ b)(hb:w.heap[b]?=φ x)(hr:iZ G JD E'.toList):
  WR G (O.set k (.map JD ck')) {w with heap:=w.heap.setIfInBounds b (.map E' ck')}:=by
 have hne:∀j b',j≠k->O.hp j≠Β->G.cu j=φ b'->b'≠b:=λj b' hj lj o_ e=>hj (h.inj j k b lj (by rw[hk];simp) (e▸o_) hp)
 have ll:∀j,bS O.hp k (φ (.map JD ck')) j≠Β->O.hp j≠Β:=λj hn=>by
  by_cases e:j=k;subst e;rw[hk];simp
  ·rwa [aA _ _ e]at hn
 have ru:=xP (.map E' ck') hb;have fD:∀j,j≠b->({w with heap:=w.heap.setIfInBounds b (.map E' ck')}:World).heap[j]?=w.heap[j]?:=λj hj=>rz _ hj
 have hB:=(h.lU k b hp).1
 have Tx:∀b' s,w.shape? b'=φ s->b'≠b:=λb' s hs e=>by
  subst e;obtain⟨b2,E,g1,g2,_⟩:=h.map k es ck hk;rw[hp]at g1;injection g1 with g1;subst g1;simp only[World.shape?,g2]at hs;cases hs
 refine⟨⟨h.base.os,h.base.tape,h.base.output,by simpa using h.base.size,λj hj=>?_⟩,λb' o u' ry=>?_,λj hj=>?_,λj b' hj=>?_,λj k' b' lj lk=>h.inj j k' b' (ll j lj) (ll k' lk),λj ds hj=>?_,λj es2 ck2 hj=>?_,λt ht=>?_,λs t b' x y hs ht=>?_,h.rq id (ox (by simp)) λj b' s hj hs=>jO (λx hx=>by rw[fD _ (Tx b' s hs)];exact hx) hs,h.uu id (xJ (by simp)) λj x b' hj hb hx=>by rw[fD b' (λe=>by have:=h.inj j k b (by rw[hj];simp) (by rw[hk];simp) (e▸hb) hp;subst this;rw[hk]at hj;cases hj)];exact hx,h.tI,h.uv (Gh.Le.refl _) (oN (by simp))⟩;rw[fD j (by omega)];exact h.base.block j hj
 ·(have xL:b'≠b:=λe=>by subst e;rw[(h.lU k b' hp).2.2 (by rw[hk];simp) o]at ry;cases ry);rw[wV _ (by exact xL)];exact h.fB b' o u' ry
 ·obtain⟨d1,d2,d3⟩:=h.sq j hj;refine⟨d1,d2,?_⟩;show bS _ _ _ _=_;rw[aA _ _ (λe=>by subst e;rw[d3]at hk;cases hk)];exact d3
 ·obtain⟨p1,p2,p3⟩:=h.lU j b' hj;refine⟨p1,by simpa using p2,λhne=>p3 ?_⟩;have hne:bS O.hp k (φ (.map JD ck')) j≠Β:=hne;by_cases e:j=k;subst e;rw[hk];simp
  ·rwa [aA _ _ e]at hne
 ·have hj:bS O.hp k (φ (.map JD ck')) j=φ (.cells ds):=hj;by_cases e:j=k;subst e;rw[aN]at hj;cases hj;rw[aA _ _ e]at hj;obtain⟨b',C,T,d1,d2,d3⟩:=h.cells j ds hj;exact⟨b',C,T,d1,by rw[fD _ (hne j b' e (by rw[hj];simp) d1)];exact d2,d3⟩
 ·have hj:bS O.hp k (φ (.map JD ck')) j=φ (.map es2 ck2):=hj;by_cases e:j=k;subst e;rw[aN]at hj;injection hj with hj;injection hj with hj aM;subst hj;subst aM;exact⟨b,E',hp,ru,hr.born,hr.key,hr.val⟩;rw[aA _ _ e]at hj;obtain⟨b',D,d1,d2,d3⟩:=h.map j es2 ck2 hj;exact⟨b',D,d1,by rw[fD _ (hne j b' e (by rw[hj];simp) d1)];exact d2,d3⟩
 ·have ht:bS O.hp k (φ (.map JD ck')) t=φ .tok:=ht;(have e:t≠k:=λe=>by subst e;rw[aN]at ht;cases ht);rw[aA _ _ e]at ht;obtain⟨b',f,k',r,D,T',d1,d2,d3,d4,d6,d7⟩:=h.tok t ht;exact⟨b',f,k',r,D,T',d1,d2,by rw[fD _ (λe=>d7 k (by rw[e];exact hp))];exact d3,d4,d6,d7⟩
 ·have hs:bS O.hp k (φ (.map JD ck')) s=φ .tok:=hs;have ht:bS O.hp k (φ (.map JD ck')) t=φ .tok:=ht;((have e:t≠k:=λe=>by subst e;rw[aN]at ht;cases ht);have e':s≠k:=λe=>by subst e;rw[aN]at hs;cases hs);rw[aA _ _ e]at ht;rw[aA _ _ e']at hs;exact h.nM s t b' x y hs ht
def WR.abH(h:WR G O w):G.Le {G with cu:=bS G.cu O.N (φ w.heap.size)}/\WR {G with cu:=bS G.cu O.N (φ w.heap.size)} (O.push (.map [] 0)) (w.alloc (.map #[] 0)):=by
 have hle:=Gh.Le.Mq h.oM.1 w.heap.size;have hg:=h.grow (.map #[] 0)
 have fC:∀k b,bS G.cu O.N (φ w.heap.size) k=φ b->(k=O.N/\b=w.heap.size)\/(k≠O.N/\G.cu k=φ b):=λk b hk=>by
  by_cases e:k=O.N;subst e;rw[aN]at hk;injection hk with hk;exact .inl ⟨rfl,hk.symm⟩;rw[aA _ _ e]at hk;exact .inr ⟨e,hk⟩
 have Tj:∀o,G.fB w.heap.size o=Β:=h.zO
 refine⟨hle,hg.base,hg.fB,λk hk=>?_,λk b hk=>?_,λj k b lj lk hj hk=>?_,λk ds hk=>?_,λk es ck hk=>?_,λt ht=>?_,λs t b x y hs ht h1 h2=>?_,h.rq hle.cu (ox (by simp)) λ_ _ _ _=>jO λ_=>eC w _,h.uu hle.cu (xJ (by simp)) λ_ _ _ _ _=>eC w _,h.tI,h.uv hle (oN (by simp))⟩;have hk:O.N+1<=k:=hk;obtain⟨h1,h2,h3⟩:=h.sq k (by omega);exact⟨by show bS _ _ _ _=_;rw[aA _ _ (by omega)];exact h1,h2,by show bS _ _ _ _=_;rw[aA _ _ (by omega)];exact h3⟩;rcases fC k b hk with⟨_,rfl⟩ | ⟨cK,hk⟩;exact⟨h.bsz,by simp,λ_=>Tj⟩;obtain⟨p1,p2,p3⟩:=hg.lU k b hk;exact⟨p1,p2,λhne=>p3 (by have hne:bS O.hp O.N (φ (.map [] 0)) k≠Β:=hne;rwa [aA _ _ cK]at hne)⟩;rcases fC j b hj with⟨rfl,rfl⟩ | ⟨cA,hj⟩<;>rcases fC k _ hk with⟨rfl,hb⟩ | ⟨cK,hk⟩;rfl;have:=(h.lU _ _ hk).2.1;omega;subst hb;have:=(h.lU _ _ hj).2.1;omega;exact h.inj j k b (by have lj:bS O.hp O.N (φ (.map [] 0)) j≠Β:=lj;rwa [aA _ _ cA]at lj) (by have lk:bS O.hp O.N (φ (.map [] 0)) k≠Β:=lk;rwa [aA _ _ cK]at lk) hj hk;have hk:bS O.hp O.N (φ (.map [] 0)) k=φ (.cells ds):=hk;by_cases e:k=O.N;subst e;rw[aN]at hk;cases hk;rw[aA _ _ e]at hk;obtain⟨b,C,T,h1,h2,h3⟩:=hg.cells k ds hk;exact⟨b,C,T,hle.cu h1,h2,h3.mono hle⟩;have hk:bS O.hp O.N (φ (.map [] 0)) k=φ (.map es ck):=hk;by_cases e:k=O.N;subst e;rw[aN]at hk;injection hk with hk;injection hk with hk bY;subst hk;subst bY;exact⟨w.heap.size, #[],aN _ _ _,by rw[gG,if_pos rfl],rfl,aW.nil,aW.nil⟩;rw[aA _ _ e]at hk;obtain⟨b,E,h1,h2,h3,h4,h5⟩:=hg.map k es ck hk;exact⟨b,E,hle.cu h1,h2,h3,h4.mono hle,h5.mono hle⟩;have ht:bS O.hp O.N (φ (.map [] 0)) t=φ .tok:=ht;by_cases e:t=O.N;subst e;rw[aN]at ht;cases ht;rw[aA _ _ e]at ht;obtain⟨b,f,k,r,D,T',h1,h2,h3,h4,h6,h7⟩:=hg.tok t ht;obtain⟨_,_,_,_,_,_,h1',_,h3',_⟩:=h.tok t ht;refine⟨b,f,k,r,D,T',h1,h2,h3,h4,h6,λj hj=>?_⟩;rcases fC j b hj with⟨_,rfl⟩ | ⟨_,hj⟩;rw[h1]at h1';injection h1' with e1;injection e1 with e1 _;subst e1;have:=tU h3';omega;exact h7 j hj;have hs:bS O.hp O.N (φ (.map [] 0)) s=φ .tok:=hs;have ht:bS O.hp O.N (φ (.map [] 0)) t=φ .tok:=ht;((have es:s≠O.N:=λe=>by subst e;rw[aN]at hs;cases hs);have et:t≠O.N:=λe=>by subst e;rw[aN]at ht;cases ht);rw[aA _ _ es]at hs;rw[aA _ _ et]at ht;exact h.nM s t b x y hs ht h1 h2
def bytes_beq(a b:Ρ):((⟨⟨a⟩⟩:ByteArray)==⟨⟨b⟩⟩)=(a==b):=by
 show((⟨a⟩:Array UInt8)==⟨b⟩)=(a==b);rw[Bool.eq_iff_iff,beq_iff_eq,beq_iff_eq,Array.mk.injEq]
def My(d:TypeDesc)(x y:MV):Option Bool:=
 match d,x,y with
 | .int _,.v (.int k a),.v (.int k' b)=>if k=k' then φ (a==b)else Β
 | .string,.s a,.s b=>φ (a==b)
 | _,_,_=>Β
def Ko{d:TypeDesc}{x y:MV}{u v:Value}{b:Bool}(h:My d x y=φ b)(hx:VR G x u)(hy:VR G y v):Instr.sameNow d u v=φ b/\(b=Α->Instr.sameBits 10000 v u=Α):=by
 unfold My at h;split at h;split at h;rename_i he;subst he;injection h with h;cases hx;cases hy;refine⟨by simp[Instr.sameNow,h],λhb=>?_⟩;rw[hb]at h;have:=eq_of_beq h;subst this;simp[Instr.sameBits];cases h;injection h with h;cases hx;cases hy;refine⟨by rw[<-h];exact congrArg φ (bytes_beq _ _),λhb=>?_⟩;rw[hb]at h;have:=eq_of_beq h;subst this;show((_:ByteArray)==_)=Α;rw[bytes_beq];exact h;cases h
def sy(d:TypeDesc)(k:MV):xQ->Nat->Option (Option (Nat×MV))
 | [],_=>φ Β
 | e::es,i=>match My d k e.1 with
   | some Α=>φ (φ (i,e.2.1))
   | some γ=>sy d k es (i+1)
   | none=>Β
def uV{d:TypeDesc}{k:MV}{kv:Value}(hk:VR G k kv):∀{es:xQ} {E:List MapEntry} {i:Nat} {r:Option (Nat×MV)},sy d k es i=φ r->iZ G es E->
  match r with
  | none=>Instr.findNow d kv E i=φ Β
  | some (j,m)=>∃v,Instr.findNow d kv E i=φ (φ (j,v))/\VR G m v/\i<=j/\(E[j - i]?).map (λe=>Instr.sameBits 10000 e.key kv)=φ Α/\j - i<Ζ E
 | [],E,i,r,h,hr=>by
   rw[hr.jN];injection h with h;subst h;rfl
 | x::es,E,i,r,h,hr=>by
   obtain⟨y,E',rfl,h1,h2,h3,h4⟩:=hr.fH;rw[sy]at h;split at h;rename_i hs;injection h with h;subst h;obtain⟨g1,g3⟩:=Ko hs hk h2;exact⟨y.val,by simp[Instr.findNow,g1],h3,aka _,by simp[g3],by simp⟩
   ·rename_i hs;obtain⟨g1,_⟩:=Ko hs hk h2;have ih:=uV hk h h4;cases r with
    | none=>simp only[Instr.findNow,g1];exact ih
    | some p=>
      obtain⟨j,m⟩:=p;obtain⟨v,i1,i2,i3,i4,i5⟩:=ih;refine⟨v,by simp only[Instr.findNow,g1];exact i1,i2,by omega,?_,by simp;omega⟩;rw[show j - i=(j - (i+1))+1 by omega,aqd];exact i4
   ·cases h
def AT(d:TypeDesc)(k:MV):Bool:=
 match d,k with
 | .int k,.v (.int k' _)=>decide (k'=k)
 | .string,.s _=>Α
 | _,_=>γ
def Cx{d:TypeDesc}{k:MV}(h:AT d k=Α)(hk:VR G k kv):IsKey d kv:=by
 unfold AT at h;split at h;cases hk;simpa[IsKey]using h;cases hk;simp[IsKey];cases h
def zZ(i:c6):Option MV:=if eP i.under then φ (.agg i.zero)else i.zero[0]?
def BK{t:TypeId}{i:c6}(h:AS P t i)(hm:zZ i=φ m):∃z,(∀w,(zeroValue t).run P w= .ok z w)/\∀G,VR G m z:=by
 obtain⟨ti,z,h1,_,_,h4,h5,h6⟩:=h.info;refine⟨z,λw=>by simp[zeroValue,typeInfo,h1,h4],λG=>?_⟩;obtain⟨w1,w2⟩:=h.whole ti z h1 h4;have h6:=h6 G;unfold zZ at hm;split at hm;rename_i ha;injection hm with hm;subst hm;obtain⟨cs,rfl⟩:=w1 ha;exact VR.agg h6.1 h6.2;rename_i ha;(((have ha:eP i.under=γ:=by simpa using ha);rw[w2 ha]at h6;obtain⟨u,hu,hv⟩:=h6.get hm;have:Ζ i.zero=1:=by have:=h6.1;simpa using this.symm);have h0:(0:Nat)<1:=by omega);simp only[Array.toList,aqc,Option.some.injEq]at hu;subst hu;exact hv
def mapOf(O:VH):MV->Option xQ
 | .v (.map Β)=>φ []
 | .map b=>match O.hp b with
   | some (.map es _)=>φ es
   | _=>Β
 | _=>Β
def i_(tab:cL)(O:VH)(t:TypeId)(x k:MV)(ok:Bool):Option MV:=
 match(tab t).map c6.under with
 | some (.map kt et)=>match(tab kt).map c6.under,tab et with
   | some kd,φ te=>
     match AT kd k,(mapOf O x).bind (sy kd k · 0)with
     | true,φ (φ (_,m))=>φ (if ok then .tuple [m,.v (.bool Α)]else m)
     | true,φ Β=>(zZ te).map λz=>if ok then .tuple [z,.v (.bool γ)]else z
     | _,_=>Β
   | _,_=>Β
 | _=>Β
def vV(ht:aR P tab){t:TypeId}{d:TypeDesc}(h:(tab t).map c6.under=φ d):P.underlying t=φ d:=by
 obtain⟨i,hi,hu⟩:=Th.1 h;rw[<-hu];exact(ht t i hi).under
def AU(ht:aR P tab)(h:WR G O w){t:TypeId}{x k:MV}{ok:Bool}{u:Value}(hv:i_ tab O t x k ok=φ m)(hx:VR G x u)(hk:VR G k kv):∃r,VR G m r/\∀y,Sx G w y->(Instr.lookup t u kv ok).run P y= .ok r y:=by
 unfold i_ at hv;split at hv
 ·rename_i kt et hmt;have hU:=vV ht hmt;split at hv
  ·rename_i kd te vW qd;have hK:=vV ht vW
   have cT:∀(es:xQ),mapOf O x=φ es->∃E:Array MapEntry,iZ G es E.toList/\((u= .map Β/\E= #[])\/∃r ck,u= .map (φ r)/\∀y,Sx G w y->y.heap[r]?=φ (.map E ck)):=by
    intro es Hf;unfold mapOf at Hf;split at Hf;injection Hf with Hf;subst Hf;cases hx;exact⟨#[],iZ.nil,.inl ⟨rfl,rfl⟩⟩
    ·rename_i b;split at Hf
     ·rename_i JD ck hb;injection Hf with Hf;subst Hf
      cases hx with
      | map h1=>
        obtain⟨b',E,e1,e2,e3,e4,e5⟩:=h.map _ _ _ hb;rw[h1]at e1;injection e1 with e1;subst e1;exact⟨E,⟨e3,e4,e5⟩,.inr ⟨_,_,rfl,λy hy=>(hy.2 _ _ h1).trans e2⟩⟩
     ·cases Hf
    ·cases Hf
   split at hv;(((·rename_i j m2 vX hf;injection hv with hv;obtain⟨es,h1,h2⟩:=Ti.1 hf;obtain⟨E,hE,hK2⟩:=cT es h1;obtain⟨v,f1,f2,_⟩:=uV hk h2 hE;have wW:=Cx vX hk;refine⟨if ok then .tuple #[v,.bool Α]else v,?_,λy hy=>?_⟩;rotate_left;rcases hK2 with⟨rfl,rfl⟩ | ⟨r,ck,rfl,hb⟩;simp only[Instr.lookup,Sem.run_bind,run_underlying hU,Result.andThen_ok,run_checkKey hK wW,run_findKey hK f1,Sem.run_pure];simp only[Instr.lookup,Sem.run_bind,run_underlying hU,Result.andThen_ok,MapKept.run_getObj_map (hb y hy),run_checkKey hK wW,run_findKey hK f1,Sem.run_pure];subst hv;cases ok;exact f2;exact VR.tuple (us:=[v,.bool Α]) rfl (aW.cons f2 (aW.cons (.v rfl) aW.nil)).2));(·rename_i vX hf;obtain⟨z,hz,YO⟩:=Th.1 hv;obtain⟨es,h1,h2⟩:=Ti.1 hf;obtain⟨E,hE,hK2⟩:=cT es h1;have f1:=uV hk h2 hE;have wW:=Cx vX hk;obtain⟨zv,z1,z2⟩:=BK (ht et te qd) hz;refine⟨if ok then .tuple #[zv,.bool γ]else zv,?_,λy hy=>?_⟩;rotate_left;rcases hK2 with⟨rfl,rfl⟩ | ⟨r,ck,rfl,hb⟩;simp only[Instr.lookup,Sem.run_bind,run_underlying hU,Result.andThen_ok,run_checkKey hK wW,run_findKey hK f1,Sem.run_pure,z1];simp only[Instr.lookup,Sem.run_bind,run_underlying hU,Result.andThen_ok,MapKept.run_getObj_map (hb y hy),run_checkKey hK wW,run_findKey hK f1,Sem.run_pure,z1];subst YO;cases ok;exact z2 G;exact VR.tuple (us:=[zv,.bool γ]) rfl (aW.cons (z2 G) (aW.cons (.v rfl) aW.nil)).2));cases hv
  ·cases hv
 ·cases hv
def Pf(ht:aR P tab)(h:WR G O w){t:TypeId}{x k:MV}{ok:Bool}{u:Value}(hv:i_ tab O t x k ok=φ m)(hx:VR G x u)(hk:VR G k kv):aix P (Instr.lookup t u kv ok) w G m:=by
 obtain⟨r,h1,h2⟩:=AU (P:=P) ht h hv hx hk;exact⟨r,h2 w h.sx,h1⟩
def setAt(es:xQ)(i:Nat)(k v:MV):xQ:=es.modify i λe=>(k,v,e.2.2)
def e_(tab:cL)(O:VH)(t:TypeId)(x k y:MV):Option VH:=
 match(tab t).map c6.under,x with
 | some (.map kt _),.map b=>match(tab kt).map c6.under,O.hp b with
   | some kd,φ (.map es ck)=>match AT kd k,sy kd k es 0 with
     | true,φ (φ (i,_))=>φ (O.set b (.map (setAt es i k y) ck))
     | true,φ Β=>φ (O.set b (.map (es++[(k,y,ck)]) (ck+1)))
     | _,_=>Β
   | _,_=>Β
 | _,_=>Β
def iZ.modify{k y:MV}{kv yv:Value}(hk:VR G k kv)(hy:VR G y yv):∀{es:xQ} {E:List MapEntry} (i:Nat),iZ G es E->iZ G (setAt es i k y) (E.modify i λe=>{e with key:=kv,val:=yv})
 | [],E,i,h=>by rw[h.jN];simpa[setAt]using iZ.nil
 | x::es,E,i,h=>by
   obtain⟨z,E',rfl,h1,h2,h3,h4⟩:=h.fH;cases i with
   | zero=>simp only[setAt,List.modify_zero_cons];exact iZ.cons h1 hk hy h4
   | succ i=>
     simp only[setAt,List.modify_succ_cons];exact iZ.cons h1 h2 h3 (iZ.modify hk hy i h4)
def xR(ht:aR P tab)(h:WR G O w){t:TypeId}{x k y:MV}{u yv:Value}(hv:e_ tab O t x k y=φ O')(hx:VR G x u)(hk:VR G k kv)(hy:VR G y yv):Mr P (Instr.mapUpdate t u kv yv) w G O':=by
 unfold e_ at hv;split at hv
 ·rename_i kt et b hmt;have hU:=vV ht hmt;split at hv
  ·rename_i kd es ck vW hb;have hK:=vV ht vW;cases hx with
   | map h1=>
     obtain⟨b',E,e1,e2,e3,e4,e5⟩:=h.map _ _ _ hb;rw[h1]at e1;injection e1 with e1;subst e1;have hE:iZ G es E.toList:=⟨e3,e4,e5⟩;split at hv
     ·rename_i i m vX hf;injection hv with hv;subst hv;obtain⟨v,f1,f2,f3,f4,f5⟩:=uV hk hf hE;have wW:=Cx vX hk;simp only[Nat.sub_zero]at f4 f5;have r7:i<E.size:=by simpa using f5
      have AB:Instr.sameBits 10000 (((E[i]?).map (·.key)).getD kv) kv=Α:=by
       rw[akf r7];simp only[Array.getElem?_toList,akf r7,akb,Option.some.injEq]at f4;exact f4
      have hr:iZ G (setAt es i k y) (E.modify i λe=>{e with key:=kv,val:=yv}).toList:=by
       have:=iZ.modify hk hy i hE
       rwa [<-Array.toList_modify]at this
      refine⟨_,G,?_,Gh.Le.refl G,h.vU (ck':=ck) hb h1 e2 hr⟩;simp only[Instr.mapUpdate,Sem.run_bind,run_underlying hU,Result.andThen_ok,MapKept.run_getObj_map e2,run_checkKey hK wW,run_findKey hK f1];rw[Instr.keyThatStays,if_pos AB];simp only[Sem.run_pure,Result.andThen_ok,run_setObj_map _ e2]
     ·rename_i vX hf;injection hv with hv;subst hv;have f1:=uV hk hf hE;have wW:=Cx vX hk
      have hr:iZ G (es++[(k,y,ck)]) (E.push {key:=kv,val:=yv,born:=ck}).toList:=by
       rw[Array.toList_push];exact hE.append (iZ.cons rfl hk hy iZ.nil)
      refine⟨_,G,?_,Gh.Le.refl G,h.vU (ck':=ck+1) hb h1 e2 hr⟩;simp only[Instr.mapUpdate,Sem.run_bind,run_underlying hU,Result.andThen_ok,MapKept.run_getObj_map e2,run_checkKey hK wW,run_findKey hK f1,run_setObj_map _ e2]
     ·cases hv
  ·cases hv
 ·cases hv
def Mz(h:WR G O w){t:TypeId}:jw P (Instr.makeMap t Β) w G (O.push (.map [] 0)) (.map O.N):=by
 obtain⟨h1,h2⟩:=h.abH;exact⟨_,_,_,by simp[Instr.makeMap,newObj,Sem.run],h1,h2,.map (aN _ _ _),lp.alloc h _⟩
end
section
variable{G H:Gh}{n:Sz}{D:List Deferred}{e e':Env}{a:Act}{P:Program}{tab:cL}{O O':VH}{w:World}{m m':MV}{u v:Value}
def h_:Η->Bool
 | [.v (.pointer Β),.l 0 [] .nil]=>Α
 | _=>γ
def z7(O:VH)(t:TypeId)(n:Nat)(z:Η):VH:=bif h_ z then(O.push (.cells z)).push (.shape O.N t n)else O.push (.cells z)
def WR.Hg(h:WR G O w){t:TypeId}{s:Nat}(hp:G.cu k=φ b)(hs:w.shape? b=φ (t,s)):WR G (O.push (.shape k t s)) w:=by
 have hne:∀{j x},bS O.hp O.N (φ (.shape k t s)) j=φ x->(∀k t n,x≠ .shape k t n)->O.hp j=φ x:=λ{j x} hj hx=>by
  by_cases e:j=O.N;subst e;rw[aN]at hj;injection hj with hj;exact absurd hj.symm (hx _ _ _)
  ·rwa [aA _ _ e]at hj
 have ll:∀j b,G.cu j=φ b->bS O.hp O.N (φ (.shape k t s)) j≠Β->O.hp j≠Β:=λj b hj hn=>by
  rwa [aA _ _ (λe=>by subst e;rw[h.oM.1]at hj;cases hj)]at hn
 refine⟨h.base,h.fB,λj hj=>?_,λj c hj=>?_,λi j c li lj hi hj=>h.inj i j c (ll i c hi li) (ll j c hj lj) hi hj,λj cs hj=>h.cells j cs (hne hj (by simp)),λj es ck hj=>h.map j es ck (hne hj (by simp)),λt ht=>h.tok t (hne ht (by simp)),λs t c x y hs ht=>h.nM s t c x y (hne hs (by simp)) (hne ht (by simp)),λj k' t' n' hj=>?_,λj x hj=>h.obj j x (hne hj (by simp)),h.tI,λk p hk=>h.Eb k p (hne hk (by simp))⟩;have hj:O.N+1<=j:=hj;obtain⟨h1,h2,h3⟩:=h.sq j (by omega);exact⟨h1,h2,by show bS _ _ _ _=_;rw[aA _ _ (by omega)];exact h3⟩;obtain⟨p1,p2,p3⟩:=h.lU j c hj;exact⟨p1,p2,λhn=>p3 (ll j c hj hn)⟩;have hj:bS O.hp O.N (φ (.shape k t s)) j=φ (.shape k' t' n'):=hj;by_cases e:j=O.N;subst e;rw[aN]at hj;injection hj with hj;injection hj with e1 e2 e3;subst e1;subst e2;subst e3;exact⟨b,hp,hs⟩;rw[aA _ _ e]at hj;exact h.mC j k' t' n' hj
def j9(tab:cL)(o:Oper)(e:Env)(O:VH):Option (MV×VH):=
 match o.op with
 | .load t x=>(ev e x).bind λp=>(gj tab O t p).map (·,O)
 | .store t x y=>match ev e x,ev e y with
   | some p,φ q=>(zQ tab O t p q).map (.tuple [], ·)
   | _,_=>Β
 | .box _ x=>(ev e x).map λp=>(.p O.N 0,O.push (.cells (eQ p)))
 | .alloc t=>(tab t).map λi=>(.p O.N 0,z7 O t i.size i.zero)
 | .buildSlice t len parts=>match il e (parts.toList.map (·.2))with
   | some ms=>(nh tab t len (iN parts ms)).map (·,O)
   | none=>Β
 | .makeSlice t l c=>match ev e l,ev e c with
   | some p,φ q=>oP tab O t p q
   | _,_=>Β
 | .call c=>match c.callee,c.args.toList,c.argTypes.toList with
   | .builtin .append,[x,y],[t,t']=>if t=t' then match ev e x,ev e y with
     | some p,φ q=>jx tab O t p q
     | _,_=>Β
     else Β
   | .builtin .len,[x],[t]=>(ev e x).bind λp=>(su tab O t p).map (·,O)
   | _,_,_=>Β
 | .makeMap _ Β=>φ (.map O.N,O.push (.map [] 0))
 | .lookup t x k ok=>match ev e x,ev e k with
   | some p,φ q=>(i_ tab O t p q ok).map (·,O)
   | _,_=>Β
 | .mapUpdate t x k y=>match ev e x,ev e k,ev e y with
   | some p,φ q,φ r=>(e_ tab O t p q r).map (.tuple [], ·)
   | _,_,_=>Β
 | .insert t x k y=>match ev e x,ev e k,ev e y with
   | some p,φ q,φ r=>(e_ tab O t p q r).map (.tuple [], ·)
   | _,_,_=>Β
 | _=>Β
def JE:Op->Bool
 | .store .. | .mapUpdate .. | .insert .. =>γ
 | .call c=>match c.callee with
   | .builtin _=>Α
   | _=>γ
 | _=>Α
def ez(P:Program)(o:Oper)(a:Act)(w:World)(G:Gh)(m:MV)(O':VH):Prop:=
 ∃nx w' H u,(execOp a.eval o).run P w= .ok nx w'/\(nx= .value u\/(nx= .skip/\u=undef))/\Gh.Le G H/\WR H O' w'/\VR H m u/\(JE o.op=Α->lp G w w')
def ez.of(hs:jw P s w G O' m)(he:execOp a.eval o=(do pure (.value (<-s)))):ez P o a w G m O':=by
 obtain⟨u,w',H,hr,h1,h2,h3,h4⟩:=hs;exact⟨.value u,w',H,u,by rw[he,Sem.run_bind,hr];rfl,.inl rfl,h1,h2,h3,λ_=>h4⟩
def ez.ofU{s:Sem Unit}(hs:Mr P s w G O')(hA:JE o.op=γ)(he:execOp a.eval o=(do s;pure .skip)):ez P o a w G (.tuple []) O':=by
 obtain⟨w',H,hr,h1,h2⟩:=hs;exact⟨.skip,w',H,undef,by rw[he,Sem.run_bind,hr];rfl,.inr ⟨rfl,rfl⟩,h1,h2,VR.tuple (us:=[]) rfl (λi c u h=>by simp at h),λh=>by rw[hA]at h;cases h⟩
def YP(ht:aR P tab)(hw:WR G O w)(h:FR G n D e a)(hv:j9 tab o e O=φ (m,O')):ez P o a w G m O':=by
 unfold j9 at hv;split at hv;rename_i t x ho;obtain⟨p,h1,h2⟩:=Ti.1 hv;obtain⟨q,h3,h4⟩:=Th.1 h2;simp only[Prod.mk.injEq]at h4;obtain⟨rfl,rfl⟩:=h4;exact ez.of (Km ht hw h3 (h.ev h1)) (by simp[execOp,ho]);rename_i t x y ho;split at hv;rename_i p q h1 h2;obtain⟨O2,h3,h4⟩:=Th.1 hv;simp only[Prod.mk.injEq]at h4;obtain⟨rfl,rfl⟩:=h4;exact ez.ofU (Tn ht hw h3 (h.ev h1) (h.ev h2)) (by rw[ho];rfl) (by simp[execOp,ho]);cases hv;rename_i t x ho;obtain⟨p,h1,h2⟩:=Th.1 hv;simp only[Prod.mk.injEq]at h2;obtain⟨rfl,rfl⟩:=h2;exact ez.of (abC (t:=t) hw (h.ev h1)) (by simp[execOp,ho])
 ·rename_i t ho;obtain⟨i,h1,h2⟩:=Th.1 hv;simp only[Prod.mk.injEq]at h2;obtain⟨rfl,rfl⟩:=h2;obtain⟨z,uU,n_,Ee⟩:=Kk (ht t i h1) w
  have hr:(Instr.alloc t Α (.tuple #[])).run P w= .ok (.pointer (φ ⟨w.heap.size,0,Β⟩)) (w.alloc (.cells z.cells t)):=by
   simp only[Instr.alloc,Sem.run_bind,uU,Result.andThen_ok];simp[newVar,newRow,newObj,Sem.run]
  obtain⟨g1,g2⟩:=hw.push t (Ee G);refine ez.of (s:=Instr.alloc t Α (.tuple #[])) ⟨_,_,_,hr,g1,?_,.p (aN _ _ _),lp.alloc hw _⟩ (by simp[execOp,ho]);unfold z7;cases h_ i.zero with
  | false=>exact g2
  | true=>
    refine g2.Hg (aN _ _ _) ?_;(have:(w.alloc (.cells z.cells t)).heap[w.heap.size]?=φ (.cells z.cells t):=by rw[gG,if_pos rfl]);simp only[World.shape?,this,n_]
 ·rename_i t len parts ho;split at hv;rename_i ms h1;obtain⟨p,h2,h3⟩:=Th.1 hv;simp only[Prod.mk.injEq]at h3;obtain⟨rfl,rfl⟩:=h3;((((have uw:Ζ ms=Ζ parts.toList:=by simpa using Fh h1);refine ez.of (wU ht hw h2 (ps:=parts.map λ(i,x)=>(i,a.eval x)) ?_ ?_) (by simp[execOp,ho]));rw[zip_fst parts ms uw,Hd]);rw[Pd parts ms uw,He];exact h.il h1);cases hv
 ·rename_i t l c ho;split at hv;rename_i p q h1 h2;exact ez.of (G_ ht hw hv (h.ev h1) (h.ev h2)) (by simp[execOp,ho]);cases hv
 ·rename_i c ho;split at hv;rename_i x y t t' hc jH Pe;split at hv;rename_i JF;subst JF;split at hv;rename_i p q h1 h2;((((((have ha:c.args= #[x,y]:=by apply agc;exact jH);have gT:c.argTypes= #[t,t]:=by apply agc;exact Pe);exact ez.of (Pb (ty:=o.type) ht hw hv (h.ev h1) (h.ev h2)) (by simp[execOp,ho,resolve,hc,ha,gT,invoke,builtin]));cases hv);cases hv);rename_i x t hc jH Pe;obtain⟨p,h1,h2⟩:=Ti.1 hv;obtain⟨q,h3,h4⟩:=Th.1 h2;simp only[Prod.mk.injEq]at h4;obtain⟨rfl,rfl⟩:=h4;((have ha:c.args= #[x]:=by apply agc;exact jH);have gT:c.argTypes= #[t]:=by apply agc;exact Pe);exact ez.of (OW (ty:=o.type) ht hw h3 (h.ev h1)) (by simp[execOp,ho,resolve,hc,ha,gT,invoke,builtin]));cases hv
 ·rename_i t ho;simp only[Option.some.injEq,Prod.mk.injEq]at hv;obtain⟨rfl,rfl⟩:=hv;exact ez.of (Mz (t:=t) hw) (by simp[execOp,ho])
 ·rename_i t x k ok ho;split at hv;rename_i p q h1 h2;obtain⟨r,h3,h4⟩:=Th.1 hv;simp only[Prod.mk.injEq]at h4;obtain⟨rfl,rfl⟩:=h4;obtain⟨z,g1,g2⟩:=Pf (P:=P) ht hw h3 (h.ev h1) (h.ev h2);exact ez.of (jw.of hw g1 g2) (by simp[execOp,ho]);cases hv
 ·rename_i t x k y ho;split at hv;rename_i p q r h1 h2 h3;obtain⟨O2,h4,h5⟩:=Th.1 hv;simp only[Prod.mk.injEq]at h5;obtain⟨rfl,rfl⟩:=h5;exact ez.ofU (xR ht hw h4 (h.ev h1) (h.ev h2) (h.ev h3)) (by rw[ho];rfl) (by simp[execOp,ho]);cases hv
 ·rename_i t x k y ho;split at hv;rename_i p q r h1 h2 h3;obtain⟨O2,h4,h5⟩:=Th.1 hv;simp only[Prod.mk.injEq]at h5;obtain⟨rfl,rfl⟩:=h5;exact ez.ofU (xR ht hw h4 (h.ev h1) (h.ev h2) (h.ev h3)) (by rw[ho];rfl) (by simp[execOp,ho]);cases hv
 ·cases hv
def dZ(tab:cL)(o:Oper)(e:Env)(O:VH):Option (MV×VH):=
 match fI tab o e with
 | some m=>φ (m,O)
 | none=>j9 tab o e O
def GK(ht:aR P tab)(hw:WR G O w)(h:FR G n D e a)(hv:dZ tab o e O=φ (m,O')):ez P o a w G m O':=by
 unfold dZ at hv;split at hv;rename_i p hp;simp only[Option.some.injEq,Prod.mk.injEq]at hv;obtain⟨rfl,rfl⟩:=hv;obtain⟨u,hu,hr⟩:=xO (P:=P) ht h hp;exact⟨.value u,w,G,u,hr w hw.ss,.inl rfl,Gh.Le.refl G,hw,hu,λ_=>lp.refl _ _⟩;exact YP ht hw h hv
inductive VX where
 | normal | exit (id:Nat) | goto (l:Nat) | ret | panic (m:MV)
def XR(G:Gh):VX->Exit->Prop
 | .normal,.normal=>True
 | .exit i,.exit j=>i=j
 | .goto i,.goto j=>i=j
 | .ret,.ret=>True
 | .panic m,.panic c=>∃u,c=[{v:=u,recovered:=γ}]/\VR G m u
 | _,_=>False
abbrev VQ:=VX->Env->VH->Prop
def FRX(G:Gh)(n:Sz)(D:List Deferred):VX->Env->Act->Prop
 | .panic _,e,a=>(∀t x,look e t=φ x->t<n.lo)/\FR G n D e a
 | _,e,a=>FR G n D e a
def c7(G:Gh)(n:Sz)(D:List Deferred)(Q:VQ):Exit->Act->World->Prop:=λy a w=>∃x e O H,Gh.Le G H/\WR H O w/\FRX H n D x e a/\XR H x y/\Q x e O
def c7.le(h:G.Le H){Q:VQ}{y:Exit}(hp:c7 H n D Q y a w):c7 G n D Q y a w:=by
 obtain⟨x,e,O,K,h1,h2⟩:=hp;exact⟨x,e,O,K,h.trans h1,h2⟩
def c7.mono{Q Q':VQ}(hQ:∀x e O,Q x e O->Q' x e O){y:Exit}(hp:c7 G n D Q y a w):c7 G n D Q' y a w:=by
 obtain⟨x,e,O,K,h1,h2,h3,h4,h5⟩:=hp;exact⟨x,e,O,K,h1,h2,h3,h4,hQ _ _ _ h5⟩
def Hh:∀t x,look (mD n e) t=φ x->t<n.lo:=λt x hx=>by
 rw[Bz]at hx;split at hx;assumption;cases hx
def Ei:∀t x,look (mD n e) t=φ x->look e t=φ x:=λt x hx=>by
 rw[Bz]at hx;split at hx;exact hx;cases hx
def jR(P:Program)(n:Sz)(D:List Deferred)(ops:Array Oper)(l:Τ)(e:Env)(O:VH)(Q:VQ):Prop:=
 ∀G a w,WR G O w->FR G n D e a->wpOps P ops (c7 G n D Q) l a w
def VC(P:Program)(n:Sz)(D:List Deferred)(c:Code)(e:Env)(O:VH)(Q:VQ):Prop:=
 ∀G a w,WR G O w->FR G n D e a->c.wp P (c7 G n D Q) a w
def bt(d:Option Tmp)(m:MV)(e:Env):Env:=match d with
 | some d=>(d,m)::e
 | none=>e
def bL(n:Sz)(d:Option Tmp):Bool:=match d with
 | some d=>decide (n.lo<=d)&&decide (d<n.n)
 | none=>Α
def FR.bt(h:FR G n D e a)(hd:bL n d=Α)(hu:VR G m u):FR G n D (bt d m e) (a.put d u):=by
 cases d with
 | none=>exact h
 | some d=>exact FR.put h (by simp[bL]at hd;exact hd.2) hu
def aQ(ops:Array Oper)(o:Oper)(e:Env):Option Bool:=
 match o.guard with
 | none=>φ Α
 | some (j,want)=>match(ops[j]?).bind (·.dst)with
   | some d=>match look e d with
     | some (.v (.bool b))=>φ (b==want)
     | some (.tuple [])=>φ γ
     | _=>Β
   | none=>Β
def bN(h:FR G n D e a){b:Bool}(hv:aQ ops o e=φ b):Region.wanted o (yielded ops a.tmps)=b:=by
 unfold aQ at hv;unfold Region.wanted;split at hv;rename_i hg;injection hv with hv;rw[hg, <-hv]
 ·rename_i j want hg;rw[hg];split at hv
  ·rename_i d hd;split at hv;rename_i b' hl;injection hv with hv;obtain⟨u,h1,h2⟩:=h.get d _ hl;have:=h2.j8;subst this;simp only[yielded,hd,alP,h1];rw[<-hv];cases b'<;>cases want<;>rfl
   ·rename_i hl;injection hv with hv;obtain⟨u,h1,h2⟩:=h.get d _ hl;cases h2 with
    | tuple _ _=>
      simp only[yielded,hd,alP,h1];rw[<-hv];rfl
   ·cases hv
  ·cases hv
def cY:MV:=.tuple []
def nj:VR G cY undef:=VR.tuple (us:=[]) rfl λi c u h=>by simp at h
def jR.nil{Q:VQ}(h:Q .normal e O):jR P n D ops [] e O Q:=λG a w hw hf=>⟨.normal,e,O,G,Gh.Le.refl G,hw,hf,trivial,h⟩
def oy(hQ:∀y a w,Q y a w->Q' y a w):∀(l:Τ)(a:Act)(w:World),wpOps P ops Q l a w->wpOps P ops Q' l a w:=by
 intro l;induction l with
 | nil=>intro a w h;exact hQ _ _ _ h
 | cons i rest ih=>
   intro a w h;rw[wpOps_cons]at h ⊢;have h1:=wpOp_mono (K':=wpOps P ops Q' rest) ih h;unfold wpOp at h1 ⊢;split;rename_i ho;simp only[ho]at h1;exact h1
   ·rename_i o ho;simp only[ho]at h1;split
    ·rename_i uW;simp only[uW,if_true]at h1;refine h1.imp (λh2=>?_) (λ⟨h2,a',w',h3⟩=>⟨h2,a',w',hQ _ _ _ h3⟩);unfold Oper.wp at h2 ⊢;generalize (execOp a.eval o).run P w=r at*;cases r with
     | ok nx w'=>
       cases nx<;>simp only[Oper.upon]at h2 ⊢ <;>first
        | exact h2
        | (refine Calls.mono h2 λx JG he=>?_
           cases x with
           | returned v=>exact he
           | panicked c=>exact hQ _ _ _ he
           | outgrown=>obtain⟨a',w',h3⟩:=he;exact⟨a',w',hQ _ _ _ h3⟩)
     | halt x w'=>cases x<;>simp only[Oper.upon]at h2 ⊢ <;>first | exact h2 | exact hQ _ _ _ h2
    ·rename_i uW;simp only[uW]at h1;exact h1
def jR.step(ht:aR P tab){Q:VQ}(ho:ops[i]?=φ o)(hg:aQ ops o e=φ Α)(hv:dZ tab o e O=φ (m,O'))(hd:bL n o.dst=Α)
  (h:jR P n D ops l (bt o.dst m e) O' Q):jR P n D ops (i::l) e O Q:=by
 intro G a w hw hf;obtain⟨nx,w',H,u,hr,rA,h1,h2,h3,_⟩:=GK (P:=P) ht hw hf hv;simp only[wpOps,ho,bN hf hg,if_true];refine .inl ?_;unfold Oper.wp;rw[hr]
 have hk:wpOps P ops (c7 G n D Q) l (a.put o.dst u) w':=by
  exact oy (λ_ _ _=>c7.le h1) l _ _ (h H (a.put o.dst u) w' h2 ((hf.mono h1).bt hd h3))
 rcases rA with rfl | ⟨rfl,rfl⟩;exact hk;exact hk
def jR.skip{Q:VQ}(ho:ops[i]?=φ o)(hg:aQ ops o e=φ γ)(hd:bL n o.dst=Α)
  (h:jR P n D ops l (bt o.dst cY e) O Q):jR P n D ops (i::l) e O Q:=by
 intro G a w hw hf;simp only[wpOps,ho,bN hf hg,abx,if_false];exact h G _ w hw (hf.bt hd nj)
inductive iE where
 | ret (m:MV) | panic (m:MV)
def ER(G:Gh):iE->Ending->Prop
 | .ret m,.returned v=>VR G m v
 | .panic m,.panicked c=>∃u,c=[{v:=u,recovered:=γ}]/\VR G m u
 | _,_=>False
def VF(P:Program)(f:FuncId)(args:Η)(O:VH)(R:iE->VH->Prop):Prop:=
 ∀G w vs,WR G O w->aW G args vs->Calls P f vs.toArray w λx w'=>∃r O' H,Gh.Le G H/\WR H O' w'/\ER H r x/\R r O'
def VF.mono{f:FuncId}{args:Η}{R R':iE->VH->Prop}(hR:∀r O,R r O->R' r O)(h:VF P f args O R):VF P f args O R':=
 λG w vs hw hv=>(h G w vs hw hv).mono λ_ _ ⟨r,O',H,h1,h2,h3,h4⟩=>⟨r,O',H,h1,h2,h3,hR _ _ h4⟩
def Enters(P:Program)(f:FuncId):Prop:=∀args w,(callFunc f args).run P w= .ok (.enter f args) w
def Enters.of{f:FuncId}(hf:P.funcs[f]?=φ fn)(hn:(fn.name== "runtime.NumGoroutine")=γ)(hb:fn.body.isNone=γ):Enters P f:=by
 intro args w;have hn':fn.name≠ "runtime.NumGoroutine" :=by simpa using hn
 have o_:fn.body≠Β:=by intro h;rw[h]at hb;cases hb
 simp[callFunc,program,Sem.run,hf,hn',o_]
def jR.call{Q:VQ}{c:Call}{f:Operand}{id:FuncId}{fs ms cs:Η}{R:iE->VH->Prop}(ho:ops[i]?=φ o)(hg:aQ ops o e=φ Α)(ux:o.op= .call c)(hc:c.callee= .value f)
  (hf:ev e f=φ (.func (.func id) fs cs)) (hm:il e c.args.toList=φ ms) (hE:Enters P id) (hd:bL n o.dst=Α) (hR:VF P id (fs++ms++cs) O R)
  (h:∀r O',R r O'->match r with
   | .ret m=>jR P n D ops l (bt o.dst m e) O' Q
   | .panic m=>Q (.panic m) (mD n e) O'):jR P n D ops (i::l) e O Q:=by
 intro G a w hw aZ;have xS:=aZ.ev hf;generalize Cy:a.eval f=fv at xS;cases xS with
 | func h1 h2 h3 h4=>
   rename_i us vs;have jH:=aZ.il hm;have ja:=aW.append (aW.append (show aW G fs us from⟨h1,h2⟩) jH) (show aW G cs vs from⟨h3,h4⟩)
   have cT:(execOp a.eval o).run P w= .ok (.enter id (us++c.args.toList.map a.eval++vs).toArray) w:=by
    (have ha:c.args.map a.eval=(c.args.toList.map a.eval).toArray:=by apply agc;simp);have:us.toArray++c.args.map a.eval++vs.toArray=(us++c.args.toList.map a.eval++vs).toArray:=by apply agc;simp[ha]
    simp only[execOp,ux,resolve,hc,Cy,Deferred.ofValue,Sem.run_bind,Sem.run_pure,Result.andThen_ok,invoke,hE _ w];rw[this]
   simp only[wpOps,ho,bN aZ hg,if_true];refine .inl ?_;unfold Oper.wp;rw[cT];show Calls P id _ w _;refine(hR G w _ hw ja).mono ?_;rintro x w' ⟨r,O',H,g1,g2,g3,g4⟩;have hk:=h r O' g4;cases r with
   | ret m=>
     cases x with
     | returned v=>exact oy (λ_ _ _=>c7.le g1) l _ _ (hk H _ w' g2 ((aZ.mono g1).bt hd g3))
     | panicked c=>exact g3.elim
     | outgrown=>exact g3.elim
   | panic m=>
     cases x with
     | returned v=>exact g3.elim
     | panicked c=>exact⟨.panic m,mD n e,O',H,g1,g2,⟨Hh,(aZ.mono g1).less Ei⟩,g3,hk⟩
     | outgrown=>exact g3.elim
def VC.mono{Q Q':VQ}(hQ:∀x e O,Q x e O->Q' x e O)(h:VC P n D c e O Q):VC P n D c e O Q':=
 λG a w hw hf=>wp_mono (h G a w hw hf) λ_ _ _=>c7.mono hQ
def VC.env{Q:VQ}(h:VC P n D c e' O Q)(hl:∀t x,look e' t=φ x->look e t=φ x):VC P n D c e O Q:=
 λG a w hw hf=>h G a w hw (hf.less hl)
def VC.skip{Q:VQ}(h:Q .normal e O):VC P n D .skip e O Q:=λG a w hw hf=>wp_skip ⟨.normal,e,O,G,Gh.Le.refl G,hw,hf,trivial,h⟩
def VC.exit{Q:VQ}{id:Nat}(h:Q (.exit id) e O):VC P n D (.exit id) e O Q:=λG a w hw hf=>wp_exit ⟨.exit id,e,O,G,Gh.Le.refl G,hw,hf,rfl,h⟩
def VC.label{Q:VQ}{l:Nat}(h:Q .normal e O):VC P n D (.label l) e O Q:=λG a w hw hf=>wp_label ⟨.normal,e,O,G,Gh.Le.refl G,hw,hf,trivial,h⟩
def vY(Q:VQ):VQ:=λx e O=>match x with
 | .goto _=>False
 | x=>Q x e O
def VC.scope{Q:VQ}(h:VC P n D c e O (vY Q)):VC P n D (.scope c) e O Q:=by
 intro G a w hw hf;refine wp_scope_straight (wp_mono (h G a w hw hf) ?_);rintro y a' w' ⟨x,e',O',H,h1,h2,h3,h4,h5⟩
 cases y<;>cases x<;>first
  | exact False.elim h4
  | exact h5.elim
  | exact⟨_,e',O',H,h1,h2,h3,h4,h5⟩
def VC.ret{Q:VQ}(h:Q .ret e O):VC P n D .ret e O Q:=λG a w hw hf=>wp_ret ⟨.ret,e,O,G,Gh.Le.refl G,hw,hf,trivial,h⟩
def VC.seq{c d:Code}{Q:VQ} (h:VC P n D c e O λx e O=>match x with
  | .normal=>VC P n D d e O Q
  | x=>Q x e O):VC P n D (.seq c d) e O Q:=by
 intro G a w hw hf;refine wp_seq (wp_mono (h G a w hw hf) ?_);rintro y a' w' ⟨x,e',O',H,h1,h2,h3,h4,h5⟩
 cases y<;>cases x<;>first
  | exact False.elim h4
  | exact wp_mono (h5 H a' w' h2 h3) λ_ _ _=>c7.le h1
  | exact⟨_,e',O',H,h1,h2,h3,h4,h5⟩
def VC.cond{c:Operand}{x:Code}{t:Bool}{Q:VQ}(hc:ev e c=φ (.v (.bool t)))(h1:t=Α->VC P n D x e O Q)(h2:t=γ->VC P n D y e O Q):VC P n D (.cond c x y) e O Q:=by
 intro G a w hw hf;have JC:a.eval c= .bool t:=(hf.ev hc).j8;exact wp_cond_split JC (λht=>h1 ht G a w hw hf) (λht=>h2 ht G a w hw hf)
def VC.block{c:Code}{id:Nat}{Q:VQ} (h:VC P n D c e O λx e O=>match x with
  | .exit i=>if i=id then Q .normal e O else Q (.exit i) e O
  | x=>Q x e O):VC P n D (.block id c) e O Q:=by
 intro G a w hw hf;refine wp_block (wp_mono (h G a w hw hf) ?_);rintro y a' w' ⟨x,e',O',H,h1,h2,h3,h4,h5⟩;cases y with
 | exit j=>
   cases x with
   | exit i=>
     obtain rfl:i=j:=h4;simp only[Exit.inBlock];simp only at h5;split;rename_i hi;rw[if_pos hi]at h5;exact⟨.normal,e',O',H,h1,h2,h3,trivial,h5⟩;rename_i hi;rw[if_neg hi]at h5;exact⟨.exit i,e',O',H,h1,h2,h3,rfl,h5⟩
   | _=>exact False.elim h4
 | _=>cases x<;>first
   | exact False.elim h4
   | exact⟨_,e',O',H,h1,h2,h3,h4,h5⟩
def vZ{c:Code}{Q Q':Exit->Act->World->Prop}(hQ:∀y a w,Q y a w->Q' y a w):∀(k:Nat)(a:Act)(w:World),Code.rounds P c Q k a w->Code.rounds P c Q' k a w
 | 0,_,_,h=>h.elim
 | k+1,a,w,h=>by
   rw[rounds_succ]at h ⊢;refine wp_mono h λy a' w' hy=>?_
   cases y<;>first
    | exact vZ hQ k a' w' hy
    | exact hQ _ _ _ hy
def BL{c:Code}{Q:Exit->Act->World->Prop}:∀(k j:Nat)(a:Act)(w:World),k<=j->Code.rounds P c Q k a w->Code.rounds P c Q j a w
 | 0,_,_,_,_,h=>h.elim
 | k+1,0,_,_,hj,_=>absurd hj (by omega)
 | k+1,j+1,a,w,hj,h=>by
   rw[rounds_succ]at h ⊢;refine wp_mono h λy a' w' hy=>?_
   cases y<;>first
    | exact BL k j a' w' (by omega) hy
    | exact hy
def VC.loop{c:Code}{Q:VQ}(I:Nat->Env->VH->Prop){k:Nat}(h0:I k e O) (h:∀k e O,I k e O->VC P n D c e O λx e' O'=>match x with
  | .normal=>∃j,j<k/\I j e' O'
  | x=>Q x e' O'):VC P n D (.loop c) e O Q:=by
 intro G a w hw hf;refine wp_loop_rounds (k+1) ?_;induction k using Nat.strongRecOn generalizing e O G a w with
 | _ k ih=>
   rw[rounds_succ];refine wp_mono (h k e O h0 G a w hw hf) ?_;rintro y a' w' ⟨x,e',O',H,h1,h2,h3,h4,h5⟩
   cases y<;>cases x<;>first
    | exact False.elim h4
    | exact⟨_,e',O',H,h1,h2,h3,h4,h5⟩
    | (obtain⟨j,hj,hI⟩:=h5
       exact BL (j+1) k a' w' (by omega) (vZ (λ_ _ _=>c7.le h1) _ _ _ (ih j hj hI H a' w' h2 h3)))
def VC.region{id:Nat}{Q:VQ}(h:jR P n D ops (Ν ops.size) e O Q):VC P n D (.region id ops γ) e O Q:=
 λG a w hw hf=>wp_region (h G a w hw hf)
def lJ(tab:cL)(e:Env)(O:VH):ResultVar->Option MV
 | .tmp t=>look e t
 | .cell x t=>(look e x).bind (gj tab O t)
def ee(tab:cL)(fn:Func)(e:Env)(O:VH):Option MV:=
 match fn.results.toList.mapM (lJ tab e O)with
 | some [m]=>φ m
 | some l=>φ (.tuple l)
 | none=>Β
def Cz(tmps:Array Value):ResultVar->Sem Value
 | .tmp t=>pure (tmps.getD t undef)
 | .cell x t=>do loadVar t (<-asAddr (tmps.getD x undef))
def Pg(fn:Func)(tmps:Array Value):results fn tmps=(do let vs<-fn.results.mapM (Cz tmps);pure (if h:vs.size=1 then vs[0]else .tuple vs)):=by
 unfold results;congr 1
def Fi(ht:aR P tab)(hw:WR G O w)(hf:FR G n D e a):∀(l:List ResultVar)(ms:Η),l.mapM (lJ tab e O)=φ ms->
  ∃us,(l.mapM (Cz a.tmps)).run P w= .ok us w/\aW G ms us
 | [],ms,h=>by simp at h;subst h;exact⟨[],rfl,aW.nil⟩
 | r::l,ms,h=>by
   simp only[akd,akc,Ti]at h;obtain⟨m,h1,ms',h2,h3⟩:=h;injection h3 with h3;subst h3;obtain⟨us,h4,h5⟩:=Fi ht hw hf l ms' h2
   have one:∃u,(Cz a.tmps r).run P w= .ok u w/\VR G m u:=by
    cases r with
    | tmp t=>exact⟨_,rfl,hf.ev (x:=.tmp t) h1⟩
    | cell x t=>
      obtain⟨p,h6,h7⟩:=Ti.1 h1;have hp:VR G p (a.tmps.getD x undef):=hf.ev (x:=.tmp x) h6;simp only[Cz];generalize a.tmps.getD x undef=pv at hp ⊢
      have agf:∃ad,pv= .pointer (φ ad):=by
       have hc:∃cs off,cellsOf O p=φ (cs,off):=by
        unfold gj at h7;split at h7;exact⟨_,_, ‹_›⟩;cases h7
       obtain⟨cs,off,hc⟩:=hc;obtain⟨b,o,_,rfl,_⟩:=OV hw hp hc;exact⟨_,rfl⟩
      obtain⟨ad,rfl⟩:=agf;obtain⟨u,g1,g2⟩:=G7 (P:=P) ht hw h7 hp;refine⟨u,?_,g2⟩;simp only[asAddr,Sem.run_bind,Sem.run_pure,Result.andThen_ok];simpa[Instr.loadAt,Instr.sureAddr]using g1
   obtain⟨u,g1,g2⟩:=one;refine⟨u::us,?_,aW.cons g2 h5⟩;rw[akd,Sem.run_bind,g1,Result.andThen_ok,Sem.run_bind,h4];rfl
def np(ht:aR P tab)(hw:WR G O w)(hf:FR G n D e a)(h:ee tab fn e O=φ m):∃u,(results fn a.tmps).run P w= .ok u w/\VR G m u:=by
 have Kq:∀ms,fn.results.toList.mapM (lJ tab e O)=φ ms->∃us,(fn.results.mapM (Cz a.tmps)).run P w= .ok us.toArray w/\aW G ms us:=λms hm=>by
  obtain⟨us,h1,h2⟩:=Fi (P:=P) ht hw hf _ ms hm;refine⟨us,?_,h2⟩;rw[ap9, <-bind_pure_comp,Sem.run_bind,h1];rfl
 unfold ee at h;rw[Pg];split at h;rename_i p hp;injection h with h;subst h;obtain⟨us,h1,h2⟩:=Kq _ hp;obtain⟨u,YJ,rfl,h3,h4⟩:=h2.fH;rw[h4.jN]at h1;exact⟨u,by rw[Sem.run_bind,h1];rfl,h3⟩
 ·rename_i l hl hp;injection h with h;subst h;obtain⟨us,h1,h2⟩:=Kq _ hp
  have hne:(Ζ us)≠1:=λh5=>by
   have:=h2.1;rw[h5]at this
   match l,this with
   | [x],_=>exact hl x rfl
  refine⟨.tuple us.toArray,?_,.tuple h2.1 h2.2⟩;rw[Sem.run_bind,h1,Result.andThen_ok];simp[hne]
 ·cases h
def cZ:Nat->Η->Env
 | _,[]=>[]
 | k,m::l=>(k,m)::cZ (k+1) l
def jS:∀(l:Η)(k t:Nat),look (cZ k l) t=if k<=t then l[t - k]? else Β
 | [],k,t=>by simp[cZ,look]
 | m::l,k,t=>by
   simp only[cZ,look];by_cases e:t=k;subst e;simp
   ·have:(t==k)=γ:=by simpa using e
    rw[this,cond_false,jS l (k+1) t];by_cases h:k<=t;rw[if_pos h,if_pos (by omega)];((obtain⟨j,hj⟩:∃j,t - k=j+1:=⟨t - k - 1,by omega⟩);rw[hj,show t - (k+1)=j from by omega];rfl);rw[if_neg h,if_neg (by omega)]
def VF.enter(ht:aR P tab){f:FuncId}{args:Η}{R:iE->VH->Prop}(hf:P.funcs[f]?=φ fn)(hb:fn.body=φ c)(hn:Ζ args<=fn.ntmps)
  (h:VC P ⟨fn.ntmps,0⟩ [] c (cZ 0 args) O λx e O'=>match x with
   | .normal=>∃m,ee tab fn e O'=φ m/\R (.ret m) O'
   | .ret=>∃m,ee tab fn e O'=φ m/\R (.ret m) O'
   | .panic m=>R (.panic m) O'
   | _=>False):VF P f args O R:=by
 intro G w vs hw hv;refine calls_of_wp hf hb ?_
 have aZ:FR G ⟨fn.ntmps,0⟩ [] (cZ 0 args) {tmps:=vs.toArray++Array.replicate (fn.ntmps - vs.toArray.size) undef,defers:=[]}:=by
  have hl:=hv.1;refine⟨rfl,by simp;omega,λt x hx=>?_⟩;rw[jS,if_pos (alO _),Nat.sub_zero]at hx;obtain⟨u,h1,h2⟩:=hv.get hx;refine⟨u,?_,h2⟩;have dm:=(af_.1 h1).1;rw[ap8 (by simpa using dm)];simpa using h1
 refine wp_mono (h G _ w hw aZ) ?_;rintro y a' w' ⟨x,e',O',H,h1,h2,h3,h4,h5⟩;cases y with
 | normal=>
   cases x<;>first
    | exact False.elim h4
    | (obtain⟨m,h6,h7⟩:=h5
       obtain⟨u,h8,h9⟩:=np (P:=P) ht h2 h3 h6;exact⟨h3.defers,u,h8,.ret m,O',H,h1,h2,h9,h7⟩)
 | ret=>
   cases x<;>first
    | exact False.elim h4
    | (obtain⟨m,h6,h7⟩:=h5
       obtain⟨u,h8,h9⟩:=np (P:=P) ht h2 h3 h6;exact⟨h3.defers,u,h8,.ret m,O',H,h1,h2,h9,h7⟩)
 | panic c=>
   cases x<;>first
    | exact False.elim h4
    | exact⟨h3.2.defers,.panic _,O',H,h1,h2,h4,h5⟩
 | exit i=>cases x<;>first | exact False.elim h4 | exact h5.elim
 | goto i=>cases x<;>first | exact False.elim h4 | exact h5.elim
 | outgrown=>cases x<;>exact False.elim h4
end
section
variable{G H:Gh}{n:Sz}{D:List Deferred}{e e':Env}{a:Act}{P:Program}{tab:cL}{O O':VH}{w:World}{m m':MV}{u v:Value}{ops:Array Oper}{Q:VQ}
def bA(P:Program)(n:Sz)(D:List Deferred)(ops:Array Oper)(fuel:Nat)(listed:Array Bool)(e:Env)(O:VH)(Q:VQ):Prop:=
 ∀G a w,WR G O w->FR G n D e a->wpAnyH P .any ops (c7 G n D Q) (SS G) fuel listed a w
def VC.draw{id:Nat}(hm:P.follows .mixedOrders=Α)(h:bA P n D ops ops.size (Array.replicate ops.size γ) e O Q):VC P n D (.region id ops Α) e O Q:=
 λG a w hw hf=>wp_region_held (S:=SS G) hm (h G a _ (hw.drawn _) hf)
def jz(AD:bL n d=Α){v:Value}(c:List PanicEntry)(a:Act)(w:World)(h:c7 G n D Q (.panic c) (a.put d v) w):c7 G n D Q (.panic c) a w:=by
 obtain⟨x,e,O,H,h1,h2,h3,h4,h5⟩:=h;cases x with
 | panic m=>
   obtain⟨jn,h3⟩:=h3
   have hd:a.defers=D:=by
    have:=h3.defers;cases d<;>exact this
   have hz:a.tmps.size=n.n:=by
    have:=h3.size;cases d with
    | none=>exact this
    | some d=>simpa[Act.put]using this
   refine⟨.panic m,e,O,H,h1,h2,⟨jn,hd,hz,λt x hx=>?_⟩,h4,h5⟩;obtain⟨u,g1,g2⟩:=h3.get t x hx;refine⟨u,?_,g2⟩;cases d with
   | none=>exact g1
   | some d=>
     have ht:=jn t x hx;((have kV:n.lo<=d:=by simp[bL]at AD;exact AD.1);have hne:d≠t:=λe=>Nat.lt_irrefl _ (Nat.lt_of_lt_of_le ht (e▸kV)));simpa[Act.put,hne]using g1
 | _=>exact False.elim h4
def bA.WX(ht:aR P tab)(ho:ops[i]?=φ o)(hs:Region.noSelect ops=Α)(hf:Region.free .any ops listed i=Α)(hr:(Region.ready .any ops listed).contains i=Α)
  (hg:aQ ops o e=φ Α) (hv:fI tab o e=φ m) (hd:bL n o.dst=Α) (h:bA P n D ops fuel (listed.setIfInBounds i Α) (bt o.dst m e) O Q):bA P n D ops (fuel+1) listed e O Q:=by
 intro G a w hw aZ;obtain⟨u,hu,cT⟩:=xO (P:=P) ht aZ hv;exact wpAnyH_take ho hs hf hr (jz hd) (.inl ⟨bN aZ hg,cT⟩) hw.ss (h G _ w hw (aZ.bt hd hu))
def bA.abI(ho:ops[i]?=φ o)(hs:Region.noSelect ops=Α)(hf:Region.free .any ops listed i=Α)(hr:(Region.ready .any ops listed).contains i=Α)
  (hg:aQ ops o e=φ γ) (hd:bL n o.dst=Α) (h:bA P n D ops fuel (listed.setIfInBounds i Α) (bt o.dst cY e) O Q):bA P n D ops (fuel+1) listed e O Q:=by
 intro G a w hw aZ;exact wpAnyH_take ho hs hf hr (jz hd) (.inr ⟨bN aZ hg,rfl⟩) hw.ss (h G _ w hw (aZ.bt hd nj))
def bA.done(hr:Region.ready .any ops listed=[])(h:Q .normal e O):bA P n D ops fuel listed e O Q:=
 λG a w hw aZ=>wpAnyH_done hr ⟨.normal,e,O,G,Gh.Le.refl G,hw,aZ,trivial,h⟩ fuel
def Ph{Q:Exit->Act->World->Prop}{S':World->Prop}(hQ:∀y a w,Q y a w->Q' y a w)(hS:∀w,S w->S' w):∀(fuel:Nat)(listed:Array Bool)(a:Act)(w:World),wpAnyH P .any ops Q S fuel listed a w->wpAnyH P .any ops Q' S' fuel listed a w:=by
 intro fuel;induction fuel with
 | zero=>intro listed a w h;exact⟨h.1,hQ _ _ _ h.2⟩
 | succ fuel ih=>
   intro listed a w h;refine⟨λh0=>hQ _ _ _ (h.1 h0),λi hi=>?_⟩;have h1:=wpOp_mono (K':=λa' w'=>S' w'/\wpAnyH P .any ops Q' S' fuel (listed.setIfInBounds i Α) a' w') (λa' w' h'=>⟨hS _ h'.1,ih _ _ _ h'.2⟩) (h.2 i hi);unfold wpOp at h1 ⊢;split;rename_i ho;simp only[ho]at h1;exact h1
   ·rename_i o ho;simp only[ho]at h1;split
    ·rename_i uW;simp only[uW,if_true]at h1;refine h1.imp (λh2=>?_) (λ⟨h2,a',w',h3⟩=>⟨h2,a',w',hQ _ _ _ h3⟩);unfold Oper.wp at h2 ⊢;generalize (execOp a.eval o).run P w=r at*;cases r with
     | ok nx w'=>
       cases nx<;>simp only[Oper.upon]at h2 ⊢ <;>first
        | exact h2
        | (refine Calls.mono h2 λx JG he=>?_
           cases x with
           | returned v=>exact he
           | panicked c=>exact hQ _ _ _ he
           | outgrown=>obtain⟨a',w',h3⟩:=he;exact⟨a',w',hQ _ _ _ h3⟩)
     | halt x w'=>cases x<;>simp only[Oper.upon]at h2 ⊢ <;>first | exact h2 | exact hQ _ _ _ h2
    ·rename_i uW;simp only[uW]at h1;exact h1
def SS.le(h:G.Le H){w:World}(hs:SS H w):SS G w:=λb o u hc=>hs b o u (h.fB hc)
def aI(P:Program)(n:Sz)(D:List Deferred)(ops:Array Oper)(i:Nat)(e:Env)(O:VH)(Q:VQ)(K:Env->VH->Prop):Prop:=
 ∀G a w,WR G O w->FR G n D e a->wpOp P ops (c7 G n D Q) i (λa' w'=>∃e' O' H,Gh.Le G H/\WR H O' w'/\FR H n D e' a'/\K e' O') a w
def aI.op(ht:aR P tab){K:Env->VH->Prop}(ho:ops[i]?=φ o)(hg:aQ ops o e=φ Α)(hv:dZ tab o e O=φ (m,O'))(hd:bL n o.dst=Α)(hk:K (bt o.dst m e) O'):aI P n D ops i e O Q K:=by
 intro G a w hw aZ;obtain⟨nx,w',H,u,hr,rA,h1,h2,h3,_⟩:=GK (P:=P) ht hw aZ hv;simp only[wpOp,ho,bN aZ hg,if_true];refine .inl ?_;unfold Oper.wp;rw[hr];have:∃e' O' H,Gh.Le G H/\WR H O' w'/\FR H n D e' (a.put o.dst u)/\K e' O':=⟨_,_,H,h1,h2,(aZ.mono h1).bt hd h3,hk⟩
 rcases rA with rfl | ⟨rfl,rfl⟩<;>exact this
def aI.call{c:Call}{f:Operand}{id:FuncId}{fs ms cs:Η}{R:iE->VH->Prop}{K:Env->VH->Prop}(ho:ops[i]?=φ o)(hg:aQ ops o e=φ Α)(ux:o.op= .call c)(hc:c.callee= .value f)
  (hf:ev e f=φ (.func (.func id) fs cs)) (hm:il e c.args.toList=φ ms) (hE:Enters P id) (hd:bL n o.dst=Α) (hR:VF P id (fs++ms++cs) O R)
  (h:∀r O',R r O'->match r with
   | .ret m=>K (bt o.dst m e) O'
   | .panic m=>Q (.panic m) (mD n e) O'):aI P n D ops i e O Q K:=by
 intro G a w hw aZ;have xS:=aZ.ev hf;generalize Cy:a.eval f=fv at xS;cases xS with
 | func h1 h2 h3 h4=>
   rename_i us vs;have jH:=aZ.il hm;have ja:=aW.append (aW.append (show aW G fs us from⟨h1,h2⟩) jH) (show aW G cs vs from⟨h3,h4⟩)
   have cT:(execOp a.eval o).run P w= .ok (.enter id (us++c.args.toList.map a.eval++vs).toArray) w:=by
    (have ha:c.args.map a.eval=(c.args.toList.map a.eval).toArray:=by apply agc;simp);have:us.toArray++c.args.map a.eval++vs.toArray=(us++c.args.toList.map a.eval++vs).toArray:=by apply agc;simp[ha]
    simp only[execOp,ux,resolve,hc,Cy,Deferred.ofValue,Sem.run_bind,Sem.run_pure,Result.andThen_ok,invoke,hE _ w];rw[this]
   simp only[wpOp,ho,bN aZ hg,if_true];refine .inl ?_;unfold Oper.wp;rw[cT];show Calls P id _ w _;refine(hR G w _ hw ja).mono ?_;rintro x w' ⟨r,O',H,g1,g2,g3,g4⟩;have hk:=h r O' g4;cases r with
   | ret m=>
     cases x with
     | returned v=>exact⟨_,_,H,g1,g2,(aZ.mono g1).bt hd g3,hk⟩
     | panicked c=>exact g3.elim
     | outgrown=>exact g3.elim
   | panic m=>
     cases x with
     | returned v=>exact g3.elim
     | panicked c=>exact⟨.panic m,mD n e,O',H,g1,g2,⟨Hh,(aZ.mono g1).less Ei⟩,g3,hk⟩
     | outgrown=>exact g3.elim
def jR.one(h:aI P n D ops i e O Q λe' O'=>jR P n D ops l e' O' Q):jR P n D ops (i::l) e O Q:=by
 intro G a w hw aZ;rw[wpOps_cons];exact wpOp_mono (λa' w' ⟨e',O',H,h1,h2,h3,h4⟩=>oy (λ_ _ _=>c7.le h1) l _ _ (h4 H a' w' h2 h3)) (h G a w hw aZ)
def bA.all(hr:Region.ready .any ops listed=rs)(hne:rs≠[])
  (h:∀i∈rs,aI P n D ops i e O Q λe' O'=>bA P n D ops fuel (listed.setIfInBounds i Α) e' O' Q):bA P n D ops (fuel+1) listed e O Q:=by
 intro G a w hw aZ;refine wpAnyH_all hr hne λi hi=>?_
 exact wpOp_mono (λa' w' ⟨e',O',H,h1,h2,h3,h4⟩=>⟨SS.le h1 h2.ss,Ph (λ_ _ _=>c7.le h1) (λ_=>SS.le h1) fuel _ _ _ (h4 H a' w' h2 h3)⟩) (h i hi G a w hw aZ)
def kF(P:Program)(md:Region.Mode)(ops:Array Oper)(Q:Exit->Act->World->Prop)(T:Nat->World->Prop):Nat->Array Bool->Act->World->Prop
 | 0,listed,a,w=>Region.ready md ops listed=[]/\Q .normal a w
 | fuel+1,listed,a,w=>
   (Region.ready md ops listed=[]->Q .normal a w)/\
   ∀i∈Region.ready md ops listed,wpOp P ops Q i (λa' w'=>T i w'/\kF P md ops Q T fuel (listed.setIfInBounds i Α) a' w') a w
section
variable{md:Region.Mode}{Q:Exit->Act->World->Prop}{T:Nat->World->Prop}
def mF:∀(fuel:Nat)(listed:Array Bool)(a:Act)(w:World),kF P md ops Q T fuel listed a w->wpAny P md ops Q fuel listed a w
 | 0,_,_,_,h=>h
 | fuel+1,_,_,_,h=>⟨h.1,λi hi=>wpOp_mono (λa' w' h'=>mF fuel _ a' w' h'.2) (h.2 i hi)⟩
def qL{W:Nat->Prop}{brk:Nat->Bool}{oi:Oper}{v:Value}(hi:ops[i]?=φ oi)(Hi:∀(j:Nat)(o:Oper) cs b,ops[j]?=φ o->o.op≠ .select cs b)
  (hQ:∀c a w,Q (.panic c) (a.put oi.dst v) w->Q (.panic c) a w) (hT:∀j x,brk j=γ->T j x->S x) (hTi:∀x,S x->T i x):
  ∀(fuel:Nat)(listed:Array Bool)(a:Act)(w:World),
   (∀j oj,ops[j]?=φ oj->j≠i->listed.getD j Α=γ->(∀e∈oj.after,Region.binds md e=Α->e.on≠i)->oi.apart ops oj=Α)->
   (∀j oj,ops[j]?=φ oj->W j->∃e∈oj.after,Region.binds md e=Α/\(e.on=i\/W e.on))->(∀j,W j->listed.getD j Α=γ)->(∀j,j≠i->listed.getD j Α=γ->brk j=Α->W j)->
   i∈Region.ready md ops listed->YieldsIf P ops S oi v a->S w->
   kF P md ops Q T fuel (listed.setIfInBounds i Α) (a.put oi.dst v) w->kF P md ops Q T (fuel+1) listed a w:=by
 intro fuel;induction fuel with
 | zero=>
   intro listed a w _ _ _ _ hr hy hS H;refine⟨λh=>(by rw[h]at hr;cases hr),λj hj=>?_⟩;by_cases MA:j=i;subst MA;exact hy.wpOp hi hS ⟨hTi _ hS,H⟩;have:=ready_mono hj MA;rw[H.1]at this;cases this
 | succ fuel ih=>
   intro listed a w abJ hW hWu aiy hr hy hS H;refine⟨λh=>(by rw[h]at hr;cases hr),λj hj=>?_⟩;by_cases MA:j=i;subst MA;exact hy.wpOp hi hS ⟨hTi _ hS,H⟩
   ·have h1:=H.2 j (ready_mono hj MA);obtain⟨abK,oj,hoj,ja⟩:=mem_ready.1 hj
    have aiz:∀e∈oj.after,Region.binds md e=Α->e.on≠i:=λe he hb heq=>by
     have h1:=ja e he hb;have h0:=(mem_ready.1 hr).1;rw[heq]at h1;rcases ap5 i listed.size with h' | h';simp[h']at h0 h1;rw[h0]at h1;cases h1;simp[alR h']at h1
    have hnW:¬W j:=λhw=>by
     obtain⟨e,he,cC,cG⟩:=hW j oj hoj hw;rcases cG with cG | cG;exact absurd cG (aiz e he cC);have h1:=ja e he cC;have h0:=hWu _ cG;rcases ap5 e.on listed.size with h' | h';simp[h']at h0 h1;rw[h0]at h1;cases h1;simp[alR h']at h1
    have hjb:brk j=γ:=by
     cases hb:brk j with
     | false=>rfl
     | true=>exact absurd (aiy j MA abK hb) hnW
    have h2:=wpOp_putIf hoj (abJ j oj hoj MA abK aiz) (λcs b=>Hi i oi cs b hi) (λcs b=>Hi j oj cs b hoj) hQ hy h1
    have aiA:∀k,(listed.setIfInBounds j Α).getD k Α=γ->listed.getD k Α=γ:=λk fE=>by
     by_cases hjk:j=k;subst hjk;exact abK;rw[getD_set_ne Α hjk]at fE;exact fE
    refine wpOp_mono (λa' w' h3=>⟨h3.2.1,ih (listed.setIfInBounds j Α) a' w' (λk ok hk hki fE dh=>abJ k ok hk hki (aiA k fE) dh) hW (λk hk=>by
     by_cases hjk:j=k;subst hjk;exact absurd hk hnW;rw[getD_set_ne Α hjk];exact hWu k hk) (λk hki fE hb=>aiy k hki (aiA k fE) hb) (ready_mono hr (Ne.symm MA)) h3.1 (hT j _ hjb h3.2.1) ?_⟩) h2
    rw[Array.setIfInBounds_comm _ _ MA];exact h3.2.2
def k6{a:Act}{w:World}(hr:Region.ready md ops listed=rs)(hne:rs≠[])
  (h:∀i∈rs,wpOp P ops Q i (λa' w'=>T i w'/\kF P md ops Q T fuel (listed.setIfInBounds i Α) a' w') a w):kF P md ops Q T (fuel+1) listed a w:=
 ⟨λh0=>absurd (hr▸h0) hne,hr▸h⟩
def MB{listed:Array Bool}{a:Act}{w:World}(hr:Region.ready md ops listed=[])(h:Q .normal a w):∀fuel,kF P md ops Q T fuel listed a w
 | 0=>⟨hr,h⟩
 | _+1=>⟨λ_=>h,by rw[hr];simp⟩
def YQ{Q:Exit->Act->World->Prop}(hQ:∀y a w,Q y a w->Q' y a w){K:Act->World->Prop}{a:Act}{w:World}(h1:wpOp P ops Q i K a w):wpOp P ops Q' i K a w:=by
 unfold wpOp at h1 ⊢;split;rename_i ho;simp only[ho]at h1;exact h1
 ·rename_i o ho;simp only[ho]at h1;split
  ·rename_i uW;simp only[uW,if_true]at h1;refine h1.imp (λh2=>?_) (λ⟨h2,a',w',h3⟩=>⟨h2,a',w',hQ _ _ _ h3⟩);unfold Oper.wp at h2 ⊢;generalize (execOp a.eval o).run P w=r at*;cases r with
   | ok nx w'=>
     cases nx<;>simp only[Oper.upon]at h2 ⊢ <;>first
      | exact h2
      | (refine Calls.mono h2 λx JG he=>?_
         cases x with
         | returned v=>exact he
         | panicked c=>exact hQ _ _ _ he
         | outgrown=>obtain⟨a',w',h3⟩:=he;exact⟨a',w',hQ _ _ _ h3⟩)
   | halt x w'=>cases x<;>simp only[Oper.upon]at h2 ⊢ <;>first | exact h2 | exact hQ _ _ _ h2
  ·rename_i uW;simp only[uW]at h1;exact h1
def k7{Q:Exit->Act->World->Prop}{T T':Nat->World->Prop}(hQ:∀y a w,Q y a w->Q' y a w):∀(fuel:Nat)(listed:Array Bool)(a:Act)(w:World),(∀j,listed.getD j Α=γ->∀x,T j x->T' j x)->
  kF P .any ops Q T fuel listed a w->kF P .any ops Q' T' fuel listed a w:=by
 intro fuel;induction fuel with
 | zero=>intro listed a w _ h;exact⟨h.1,hQ _ _ _ h.2⟩
 | succ fuel ih=>
   intro listed a w hT h;refine⟨λh0=>hQ _ _ _ (h.1 h0),λi hi=>?_⟩;have fE:=(mem_ready.1 hi).1
   exact YQ hQ (wpOp_mono (λa' w' h'=>⟨hT i fE _ h'.1,ih _ _ _ (λj hj x=>hT j (by
    by_cases JH:i=j;subst JH;exact fE;rw[getD_set_ne Α JH]at hj;exact hj) x) h'.2⟩) (h.2 i hi))
end
def TH(brk:Τ)(G:Gh)(w:World)(j:Nat)(x:World):Prop:=brk.contains j=γ->Sx G w x
def cc(P:Program)(n:Sz)(D:List Deferred)(ops:Array Oper)(brk:Τ)(fuel:Nat)(listed:Array Bool)(e:Env)(O:VH)(Q:VQ):Prop:=
 ∀G a w,WR G O w->FR G n D e a->kF P .any ops (c7 G n D Q) (TH brk G w) fuel listed a w
def VC.MC{id:Nat}(brk:Τ)(hm:P.follows .mixedOrders=Α)(h:cc P n D ops brk ops.size (Array.replicate ops.size γ) e O Q):VC P n D (.region id ops Α) e O Q:=
 λG a w hw hf=>wp_region_any hm (mF _ _ _ _ (h G a _ (hw.drawn _) hf))
def cc.done(hr:Region.ready .any ops listed=[])(h:Q .normal e O):cc P n D ops brk fuel listed e O Q:=
 λG a w hw aZ=>MB hr ⟨.normal,e,O,G,Gh.Le.refl G,hw,aZ,trivial,h⟩ fuel
def mh(ops:Array Oper)(listed:Array Bool)(i:Nat):Nat->List Nat
 | 0=>[]
 | k+1=>(Ν ops.size).filter λj=> !listed.getD j Α&&((ops[j]?).map λo=>o.after.any λe=>Region.binds .any e&&(e.on==i||(mh ops listed i k).contains e.on)).getD γ
def oz(ops:Array Oper)(brk:Τ)(listed:Array Bool)(i:Nat):Bool:=
 brk.all λj=>listed.getD j Α||j==i||(mh ops listed i ops.size).contains j
def Fj(j:Nat)(oj:Oper)(hj:ops[j]?=φ oj)(h:∃k,j∈mh ops listed i k):∃e∈oj.after,Region.binds .any e=Α/\(e.on=i\/∃k,e.on∈mh ops listed i k):=by
 obtain⟨k,hk⟩:=h;cases k with
 | zero=>cases hk
 | succ k=>
   simp only[mh,List.mem_filter,hj,akb,Option.getD_some,WT]at hk;obtain⟨e,he,h2⟩:=Array.any_eq_true'.1 hk.2.2;simp only[WT,aqe,beq_iff_eq]at h2;refine⟨e,he,h2.1,?_⟩;rcases h2.2 with h3 | h3;exact .inl h3;exact .inr ⟨k,by simpa using h3⟩
def Kr(j:Nat)(h:∃k,j∈mh ops listed i k):listed.getD j Α=γ:=by
 obtain⟨k,hk⟩:=h;cases k with
 | zero=>cases hk
 | succ k=>
   simp only[mh,List.mem_filter,WT,Bool.not_eq_true']at hk;exact hk.2.1
def Kt(h:oz ops brk listed i=Α):∀j,j≠i->listed.getD j Α=γ->brk.contains j=Α->∃k,j∈mh ops listed i k:=by
 intro j hne fE hb;have:=aqb.1 h j (by simpa using hb);simp only[fE,Bool.false_or,aqe,beq_iff_eq,hne,false_or]at this;exact⟨_,by simpa using this⟩
def cc.take(ho:ops[i]?=φ o)(hs:Region.noSelect ops=Α)(hf:Region.free .any ops listed i=Α)(hr:(Region.ready .any ops listed).contains i=Α)(hb:oz ops brk listed i=Α)
  (hd:bL n o.dst=Α) (hy:∀G a w,WR G O w->FR G n D e a->∃u,VR G m u/\YieldsIf P ops (Sx G w) o u a) (h:cc P n D ops brk fuel (listed.setIfInBounds i Α) (bt o.dst m e) O Q):cc P n D ops brk (fuel+1) listed e O Q:=by
 intro G a w hw aZ;obtain⟨u,hu,hyi⟩:=hy G a w hw aZ;refine qL (S:=Sx G w) (W:=λj=>∃k,j∈mh ops listed i k) (brk:=λj=>brk.contains j) ho (Region.noSelect_spec hs) (jz hd) (λj x hj hT=>hT hj) (λx hx _=>hx) fuel listed a w (Region.free_spec ho hf) Fj Kr (Kt hb) (by simpa using hr) hyi hw.sx (h G _ w hw (aZ.bt hd hu))
def cc.one(ht:aR P tab)(ho:ops[i]?=φ o)(hr:Region.ready .any ops listed=[i])(hb:(brk.contains i=γ/\JE o.op=Α)\/∀j,(listed.setIfInBounds i Α).getD j Α=γ\/j=i->brk.contains j=Α)
  (hg:aQ ops o e=φ Α) (hv:dZ tab o e O=φ (m,O')) (hd:bL n o.dst=Α) (h:cc P n D ops brk fuel (listed.setIfInBounds i Α) (bt o.dst m e) O' Q):cc P n D ops brk (fuel+1) listed e O Q:=by
 intro G a w hw aZ;refine k6 hr (by simp) λj hj=>?_
 obtain rfl:j=i:=by simpa using hj
 obtain⟨nx,w',H,u,cT,rA,h1,h2,h3,h4⟩:=GK (P:=P) ht hw aZ hv;simp only[wpOp,ho,bN aZ hg,if_true];refine .inl ?_;unfold Oper.wp;rw[cT];have hk:=h H (a.put o.dst u) w' h2 ((aZ.mono h1).bt hd h3)
 have abL:TH brk G w j w'/\kF P .any ops (c7 G n D Q) (TH brk G w) fuel (listed.setIfInBounds j Α) (a.put o.dst u) w':=by
  rcases hb with⟨cC,cG⟩ | hb;have sA:=h4 cG;have hs:Sx G w w':=⟨SS.le h1 h2.ss,sA⟩;refine⟨λ_=>hs,k7 (λ_ _ _=>c7.le h1) _ _ _ _ (λk _ x hT sw=>?_) hk⟩;obtain⟨g1,g2⟩:=hT sw;exact⟨SS.le h1 g1,λk' b o_=>(g2 k' b (h1.cu o_)).trans (sA k' b o_)⟩;refine⟨λhh=>?_,k7 (λ_ _ _=>c7.le h1) _ _ _ _ (λk sw x _ hh=>?_) hk⟩;rw[hb j (.inr rfl)]at hh;cases hh;rw[hb k (.inl sw)]at hh;cases hh
 rcases rA with rfl | ⟨rfl,rfl⟩<;>exact abL
def cc.akg(ho:ops[i]?=φ o)(hr:Region.ready .any ops listed=[i])(hb:(brk.contains i=γ/\JE o.op=Α)\/∀j,(listed.setIfInBounds i Α).getD j Α=γ\/j=i->brk.contains j=Α)
  (hg:aQ ops o e=φ γ) (hd:bL n o.dst=Α) (h:cc P n D ops brk fuel (listed.setIfInBounds i Α) (bt o.dst cY e) O Q):cc P n D ops brk (fuel+1) listed e O Q:=by
 intro G a w hw aZ;refine k6 hr (by simp) λj hj=>?_
 obtain rfl:j=i:=by simpa using hj
 simp only[wpOp,ho,bN aZ hg,abx,if_false];exact⟨λ_=>hw.sx,h G _ w hw (aZ.bt hd nj)⟩
def cc.abM(hr:Region.ready .any ops listed=[i])(hb:∀j,(listed.setIfInBounds i Α).getD j Α=γ\/j=i->brk.contains j=Α)
  (h:aI P n D ops i e O Q λe' O'=>cc P n D ops brk fuel (listed.setIfInBounds i Α) e' O' Q):cc P n D ops brk (fuel+1) listed e O Q:=by
 intro G a w hw aZ;refine k6 hr (by simp) λj hj=>?_
 obtain rfl:j=i:=by simpa using hj
 refine wpOp_mono (λa' w' ⟨e',O',H,h1,h2,h3,h4⟩=>⟨λhh=>?_,k7 (λ_ _ _=>c7.le h1) _ _ _ _ (λk sw x _ hh=>?_) (h4 H a' w' h2 h3)⟩) (h G a w hw aZ);rw[hb j (.inr rfl)]at hh;cases hh;rw[hb k (.inl sw)]at hh;cases hh
end
def ME(d:TypeDesc)(z:Value):Bool:=match eP d,z with
 | true,.agg _=>Α
 | true,_=>γ
 | false,.agg _=>γ
 | false,_=>Α
def Ty{d:TypeDesc}{z:Value}(h:ME d z=Α):(eP d=Α->∃cs,z= .agg cs)/\(eP d=γ->z.cells= #[z]):=by
 refine⟨λha=>?_,λha=>?_⟩<;>unfold ME at h<;>rw[ha]at h<;>cases z<;>first | exact⟨_,rfl⟩ | rfl | cases h
def bR(P:Program)(t:TypeId):Option c6:=
 match P.underlying t,P.info? t with
 | some d,φ i=>match i.zero with
   | some z=>match z.cells.toList.mapM ofConst with
     | some zs=>if z.cells.size=i.size/\ME d z=Α then φ ⟨d,i.size,i.bytes,zs⟩else Β
     | none=>Β
   | none=>Β
 | _,_=>Β
def Hj{G:Gh}:∀{us:List Value} {ms:Η},us.mapM ofConst=φ ms->aW G ms us
 | [],ms,h=>by simp at h;subst h;exact aW.nil
 | u::us,ms,h=>by
   simp only[akd,akc,Ti]at h;obtain⟨m,h1,ms',h2,h3⟩:=h;injection h3 with h3;subst h3;exact aW.cons (Fe h1) (Hj h2)
def abN(P:Program):aR P (bR P):=by
 intro t i h;unfold bR at h;split at h
 ·rename_i d ti hd hi;split at h
  ·rename_i z hz;split at h
   ·rename_i zs hzs;split at h
    ·rename_i r7;injection h with h;subst h
     exact⟨hd,⟨ti,z,hi,rfl,rfl,hz,r7.1,λG=>Hj hzs⟩,λti' z' h1 h2=>by
      rw[hi]at h1;injection h1 with h1;subst h1;rw[hz]at h2;injection h2 with h2;subst h2;exact Ty r7.2⟩
    ·cases h
   ·cases h
  ·cases h
 ·cases h
section
variable{G H:Gh}{n:Sz}{D:List Deferred}{e e':Env}{a:Act}{P:Program}{tab:cL}{O O':VH}{w:World}{m m':MV}{u v:Value}{ops:Array Oper}{Q:VQ}
variable{d:Option Tmp}{t t' ty:TypeId}{p:String}{af:Array Edge}{g:Option (Nat×Bool)}{x y z:Operand}
def WY(k:Nat):ev e (.tmp k)=look e k:=rfl
def WZ(k:IntKind)(i:Int):ev e (.const (.int k i))=φ (.v (.int k i)):=rfl
def Pj(b:Bool):ev e (.const (.bool b))=φ (.v (.bool b)):=rfl
def W0(s:ByteArray):ev e (.const (.string s))=φ (.s s.data.toList):=rfl
def Ku:ev e (.const (.slice Β 0 0))=φ (.l 0 [] .nil):=rfl
def Hk:ev e (.const (.pointer Β))=φ (.v (.pointer Β)):=rfl
def Hl:ev e (.const (.map Β))=φ (.v (.map Β)):=rfl
def CA:ev e (.const .nilIface)=φ (.v .nilIface):=rfl
def Fk:ev e (.const .nilFunc)=φ (.v .nilFunc):=rfl
def Pk(f:FuncId):ev e (.func f)=φ (.func (.func f) [] []):=rfl
def j_(k j:Nat)(m:MV)(r:Env):look ((k,m)::r) j=bif j==k then φ m else look r j:=rfl
def Pl:il e []=φ []:=rfl
def Kv(x:Operand)(l:List Operand):il e (x::l)=(ev e x).bind λm=>(il e l).map (m:: ·):=by
 simp only[il,akd,akc];cases ev e x with
 | none=>rfl
 | some m=>cases List.mapM (ev e) l<;>rfl
private theorem bh {o:Oper} {r:Option MV} (h:fI tab o e=r) (hl:j9 tab o e O=Β):dZ tab o e O=r.map (·,O):=by
 unfold dZ;rw[h];cases r<;>simp[hl]
def Kw:dZ tab (.mk d (.move x) ty p af g) e O=(ev e x).map (·,O):=bh rfl rfl
def Fm:dZ tab (.mk d (.assign x) ty p af g) e O=(ev e x).map (·,O):=bh rfl rfl
def AV:dZ tab (.mk d (.nilCheck x) ty p af g) e O=((ev e x).bind Pc).map (·,O):=bh rfl rfl
def Hm{op:BinOp}:dZ tab (.mk d (.binOp op t x y t') ty p af g) e O=((ev e x).bind λq=>(ev e y).bind λr=>dT tab op t q r).map (·,O):=by
 refine bh ?_ rfl;simp only[fI];cases ev e x<;>first | rfl | (cases ev e y<;>rfl)
def Kx{op:UnOp}:dZ tab (.mk d (.unOp op t x) ty p af g) e O=((ev e x).bind (zW op)).map (·,O):=bh rfl rfl
def CC:dZ tab (.mk d (.convert t t' x) ty p af g) e O=((ev e x).bind (Eh tab t t')).map (·,O):=bh rfl rfl
def xT :dZ tab (.mk d (.fieldAddr t x f) ty p af g) e O=((ev e x).bind (kZ tab t f)).map (·,O):=bh rfl rfl
def Hn :dZ tab (.mk d (.field t x f) ty p af g) e O=((ev e x).bind (zS tab t · f)).map (·,O):=bh rfl rfl
def xU:dZ tab (.mk d (.indexAddr t x y) ty p af g) e O=((ev e x).bind λq=>(ev e y).bind λr=>oO tab t q r).map (·,O):=by
 refine bh ?_ rfl;simp only[fI];cases ev e x<;>first | rfl | (cases ev e y<;>rfl)
def Ho:dZ tab (.mk d (.index t x y) ty p af g) e O=((ev e x).bind λq=>(ev e y).bind λr=>zT tab t q r).map (·,O):=by
 refine bh ?_ rfl;simp only[fI];cases ev e x<;>first | rfl | (cases ev e y<;>rfl)
def CD :dZ tab (.mk d (.extract x i) ty p af g) e O=((ev e x).bind (uT · i)).map (·,O):=bh rfl rfl
def Hp{ps:Array (Nat×Operand)}:dZ tab (.mk d (.build t ps) ty p af g) e O=((il e (ps.toList.map (·.2))).bind λms=>zV tab t (iN ps ms)).map (·,O):=by
 refine bh ?_ rfl;simp only[fI];cases il e (ps.toList.map (·.2))<;>rfl
def AW{fn:Fn}{fs cs:Array Operand}:dZ tab (.mk d (.makeFunc fn fs cs) ty p af g) e O=((il e fs.toList).bind λq=>(il e cs.toList).map λr=>.func fn q r).map (·,O):=by
 refine bh ?_ rfl;simp only[fI];cases il e fs.toList<;>first | rfl | (cases il e cs.toList<;>rfl)
def Hq{lo hi:Option Operand}:dZ tab (.mk d (.slice t x lo hi Β) ty p af g) e O=((ev e x).bind λq=>(fI.F8 e lo).bind λl=>(fI.F8 e hi).bind λh=>zX tab t q l h).map (·,O):=by
 refine bh ?_ rfl;simp only[fI];cases ev e x<;>first | rfl | (cases fI.F8 e lo<;>first | rfl | (cases fI.F8 e hi<;>rfl))
def Pn{lo:Option Operand}{hi mx:Operand}:dZ tab (.mk d (.slice t x lo (φ hi) (φ mx)) ty p af g) e O=((ev e x).bind λq=>(fI.F8 e lo).bind λl=>(ev e hi).bind λh=>(ev e mx).bind (qS tab t q l h)).map (·,O):=by
 refine bh ?_ rfl;simp only[fI,show fI.F8 e (φ hi)=(ev e hi).map φ from rfl];generalize fI.F8 e lo=z;cases ev e x<;>cases z<;>cases ev e hi<;>rfl
def Kz:fI.F8 e Β=φ Β:=rfl
def KA:fI.F8 e (φ x)=(ev e x).map φ:=rfl
def Po:dZ tab (.mk d (.call {callee:=.builtin .len,args:= #[x],argTypes:= #[t]}) ty p af g) e O=(ev e x).bind λq=>match cS tab t q with
  | some r=>φ (r,O)
  | none=>(su tab O t q).map (·,O):=by
 simp only[dZ,fI,j9];cases ev e x with
 | none=>rfl
 | some q=>
   simp only[alP]<;>cases cS tab t q<;>rfl
def Pp{ts:Array TypeId}:dZ tab (.mk d (.call {callee:=.builtin .max,args:= #[x,y],argTypes:=ts}) ty p af g) e O=((ev e x).bind λq=>(ev e y).bind λr=>Ef q r).map (·,O):=by
 refine bh ?_ rfl;simp only[fI];cases ev e x<;>first | rfl | (cases ev e y<;>rfl)
def Pq{ts:Array TypeId}:dZ tab (.mk d (.call {callee:=.builtin .min,args:= #[x,y],argTypes:=ts}) ty p af g) e O=((ev e x).bind λq=>(ev e y).bind λr=>Eg q r).map (·,O):=by
 refine bh ?_ rfl;simp only[fI];cases ev e x<;>first | rfl | (cases ev e y<;>rfl)
def Tz{ts:Array TypeId}:dZ tab (.mk d (.call {callee:=.builtin .unsafeSliceData,args:= #[x],argTypes:=ts}) ty p af g) e O=((ev e x).bind zY).map (·,O):=bh rfl (by simp only[j9]<;>rfl)
def dP:dZ tab (.mk d (.call {callee:=.builtin .append,args:= #[x,y],argTypes:= #[t,t]}) ty p af g) e O=(ev e x).bind λq=>(ev e y).bind λr=>jx tab O t q r:=by
 simp only[dZ,fI,j9,if_true];cases ev e x<;>first | rfl | (cases ev e y<;>rfl)
def Pr{cs:Η} :gj tab O t (.d_ cs off)=gj tab O' t (.d_ cs off):=rfl
def KB:dZ tab (.mk d (.load t x) ty p af g) e O=(ev e x).bind λq=>(gj tab O t q).map (·,O):=by
 simp only[dZ,fI,j9];cases ev e x with
 | none=>rfl
 | some q=>
   (cases q<;>try rfl);rename_i cs off;simp only[alP];rw[Pr (O':=O)];cases gj tab O t (.d_ cs off)<;>rfl
def Hr:dZ tab (.mk d (.store t x y) ty p af g) e O=(ev e x).bind λq=>(ev e y).bind λr=>(zQ tab O t q r).map (.tuple [], ·):=by
 simp only[dZ,fI,j9];cases ev e x<;>first | rfl | (cases ev e y<;>rfl)
def Ps:dZ tab (.mk d (.box t x) ty p af g) e O=(ev e x).map λq=>(.p O.N 0,O.push (.cells (eQ q))):=rfl
def TA:dZ tab (.mk d (.alloc t) ty p af g) e O=(tab t).map λi=>(.p O.N 0,z7 O t i.size i.zero):=rfl
def wX{ps:Array (Nat×Operand)}:dZ tab (.mk d (.buildSlice t k ps) ty p af g) e O=(il e (ps.toList.map (·.2))).bind λms=>(nh tab t k (iN ps ms)).map (·,O):=by
 simp only[dZ,fI,j9];cases il e (ps.toList.map (·.2))<;>rfl
def xV:dZ tab (.mk d (.makeSlice t x y) ty p af g) e O=(ev e x).bind λq=>(ev e y).bind λr=>oP tab O t q r:=by
 simp only[dZ,fI,j9];cases ev e x<;>first | rfl | (cases ev e y<;>rfl)
def CE:dZ tab (.mk d (.makeMap t Β) ty p af g) e O=φ (.map O.N,O.push (.map [] 0)):=rfl
def Fo{b:Bool}:dZ tab (.mk d (.lookup t x y b) ty p af g) e O=(ev e x).bind λq=>(ev e y).bind λr=>(i_ tab O t q r b).map (·,O):=by
 simp only[dZ,fI,j9];cases ev e x<;>first | rfl | (cases ev e y<;>rfl)
def xW{z:Operand}:dZ tab (.mk d (.mapUpdate t x y z) ty p af g) e O=(ev e x).bind λq=>(ev e y).bind λr=>(ev e z).bind λs=>(e_ tab O t q r s).map (.tuple [], ·):=by
 simp only[dZ,fI,j9];cases ev e x<;>first | rfl | (cases ev e y<;>first | rfl | (cases ev e z<;>rfl))
def Fp{z:Operand}:dZ tab (.mk d (.insert t x y z) ty p af g) e O=(ev e x).bind λq=>(ev e y).bind λr=>(ev e z).bind λs=>(e_ tab O t q r s).map (.tuple [], ·):=by
 simp only[dZ,fI,j9];cases ev e x<;>first | rfl | (cases ev e y<;>first | rfl | (cases ev e z<;>rfl))
section
variable{k:IntKind}{i j:Int}
def KC:dT tab .add t (.v (.int k i)) (.v (.int k j))=φ (.v (.int k (k.wrap (i+j)))):=by simp[dT,tV]
def KD:dT tab .sub t (.v (.int k i)) (.v (.int k j))=φ (.v (.int k (k.wrap (i - j)))):=by simp[dT,tV]
def KE:dT tab .mul t (.v (.int k i)) (.v (.int k j))=φ (.v (.int k (k.wrap (i*j)))):=by simp[dT,tV]
def YR(h:j≠0):dT tab .quo t (.v (.int k i)) (.v (.int k j))=φ (.v (.int k (k.wrap (i.tdiv j)))):=by simp[dT,tV,h]
def YS(h:j≠0):dT tab .rem t (.v (.int k i)) (.v (.int k j))=φ (.v (.int k (i.tmod j))):=by simp[dT,tV,h]
def KF:dT tab .eql t (.v (.int k i)) (.v (.int k j))=φ (.v (.bool (i==j))):=by simp[dT,tV]
def KG:dT tab .neq t (.v (.int k i)) (.v (.int k j))=φ (.v (.bool (i != j))):=by simp[dT,tV]
def KH:dT tab .lss t (.v (.int k i)) (.v (.int k j))=φ (.v (.bool (decide (i<j)))):=by simp[dT,tV]
def KI:dT tab .leq t (.v (.int k i)) (.v (.int k j))=φ (.v (.bool (decide (i<=j)))):=by simp[dT,tV]
def KJ:dT tab .gtr t (.v (.int k i)) (.v (.int k j))=φ (.v (.bool (decide (i>j)))):=by simp[dT,tV]
def KK:dT tab .geq t (.v (.int k i)) (.v (.int k j))=φ (.v (.bool (decide (i>=j)))):=by simp[dT,tV]
def Pt:zW .neg (.v (.int k i))=φ (.v (.int k (k.wrap (0 - i)))):=rfl
def Pu{b:Bool}:zW .not (.v (.bool b))=φ (.v (.bool !b)):=rfl
def wrap_i64(h0: -9223372036854775808<=i)(h1:i<=9223372036854775807):IntKind.i64.wrap i=i:=by rw[IntKind.wrap_i64];omega
end
def CF{r:Env}{q:Op}:aQ ops (.mk d q ty p af Β) r=φ Α:=rfl
def CG{q:Op}{j:Nat}{b:Bool}:aQ ops (.mk d q ty p af (φ (j,b))) e=match(ops[j]?).bind (·.dst)with
  | some k=>match look e k with
    | some (.v (.bool c))=>φ (c==b)
    | some (.tuple [])=>φ γ
    | _=>Β
  | none=>Β:=rfl
def VC.pC{c:Operand}{x y:Code}(hc:ev e c=φ (.v (.bool Α)))(h:VC P n D x e O Q):VC P n D (.cond c x y) e O Q:=VC.cond hc (λ_=>h) (λh=>by cases h)
def VC.uy{c:Operand}{x y:Code}(hc:ev e c=φ (.v (.bool γ)))(h:VC P n D y e O Q):VC P n D (.cond c x y) e O Q:=VC.cond hc (λh=>by cases h) (λ_=>h)
section
variable{el:TypeId}{a b c d:Nat}{z y:Η}{u:TypeDesc}
def bC{cs:Η}{tk:Tok}(h:tab t=φ ⟨.slice el,a,b,z⟩):cS tab t (.l k cs tk)=φ (.v (Ι Κ k)):=by simp[cS,h]
def KL{o:Nat}(h:tab t=φ ⟨.slice el,a,b,z⟩):cS tab t (.aS k o i j)=φ (.v (Ι Κ i)):=by simp[cS,h]
end
end
def mi(x:Int):MV:=.v (Ι Κ x)
def mb(x:Bool):MV:=.v (.bool x)
structure VH.Ge(O O':VH):Prop where
 N:O.N<=O'.N
 hp:∀k,k<O.N->O'.hp k=O.hp k
section
variable{O O1 O2:VH}{x:cx}{k:Nat}
def VH.Ge.at{y:Option cx}(g:O.Ge O1)(h:O.hp k=y)(hk:k<O.N:=by omega):O1.hp k=y:=(g.hp k hk).trans h
def VH.Ge.refl(O:VH):O.Ge O:=⟨aka _,λ_ _=>rfl⟩
def VH.Ge.trans(h:O.Ge O1)(h2:O1.Ge O2):O.Ge O2:=⟨Nat.le_trans h.N h2.N,λk hk=>(h2.hp k (Nat.lt_of_lt_of_le hk h.N)).trans (h.hp k hk)⟩
def ζ(O:VH)(x:cx):(O.push x).hp O.N=φ x:=aN _ _ _
def η(O:VH)(x:cx)(h:k<O.N:=by omega):(O.push x).hp k=O.hp k:=aA _ _ (by omega)
def VH.mG(O:VH)(x:cx)(h:k≠O.N):(O.push x).hp k=O.hp k:=aA _ _ h
def π(O:VH)(x:cx)(h:j≠k):(O.set k x).hp j=O.hp j:=aA _ _ h
def Δ{y:Option cx}(h:O.hp j=y)(hj:j≠k:=by omega):(O.set k x).hp j=y:=(π O x hj).trans h
def VH.sx(hj:j≠k:=by omega):(O.set k x).hp j=O.hp j:=π O x hj
def VH.mH(O:VH)(h:j≠k:=by omega):(O.kill k).hp j=O.hp j:=aA _ _ h
def VH.Ge.push(h:O.Ge O1)(x:cx):O.Ge (O1.push x):=h.trans ⟨Nat.le_succ _,λ_ hk=>η _ _ hk⟩
def VH.Ge.set(h:O.Ge O1)(hk:O.N<=k)(x:cx):O.Ge (O1.set k x):=⟨h.N,λj hj=>Δ (h.hp j hj)⟩
def VH.Ge.kill(h:O.Ge O1)(hk:O.N<=k):O.Ge (O1.kill k):=⟨h.N,λj hj=>(VH.mH _).trans (h.hp j hj)⟩
def VH.jA(O:VH)(x:cx):(O.push x).N=O.N+1:=rfl
def aqO(O:VH)(x:cx):(O.set k x).N=O.N:=rfl
end
def App(O:VH)(B sz:Nat):Tok->Prop
 | .nil=>True
 | .full=>True
 | .own t k=>k=sz/\O.hp t=φ .tok/\B<=t/\t<O.N
 | .au=>False
def VH.after(O:VH):Tok->VH
 | .own t _=>(O.kill t).push .tok
 | _=>O.push .tok
def VH.dC(O:VH)(tk:Tok):(O.after tk).N=O.N+1:=by cases tk<;>rfl
def VH.TB(O:VH)(tk:Tok):(O.after tk).hp O.N=φ .tok:=by
 cases tk<;>first | exact ζ _ _ | exact ζ (O.kill _) _
def App.after{O:VH}{B:Nat}{tk:Tok}(hB:B<=O.N:=by omega):App (O.after tk) B sz (.own O.N sz):=⟨rfl,O.TB tk,hB,by rw[O.dC];omega⟩
def VH.Ge.after{O O1:VH}{B:Nat}{tk:Tok}(h:O.Ge O1)(ha:App O1 B sz tk)(hB:O.N<=B):O.Ge (O1.after tk):=by
 cases tk with
 | own t k=>exact(h.kill (Nat.le_trans hB ha.2.2.1)).push _
 | _=>exact h.push _
def VH.jo{O:VH}{B:Nat}{tk:Tok}(ha:App O B sz tk){x:cx}(hk:O.hp k=φ x)(hx:x≠ .tok:=by simp)(hl:k<O.N:=by omega):(O.after tk).hp k=φ x:=by
 cases tk with
 | own t j=>
   refine(η (O.kill t) _ hl).trans ?_;rw[VH.mH _ (λe=>by subst e;rw[ha.2.1]at hk;injection hk with hk;exact hx hk.symm)];exact hk
 | _=>exact(η _ _ hl).trans hk
def aP{tab:cL}{O:VH}{t el:TypeId}{u:TypeDesc}{a by':Nat}{z y:Η}(h:tab t=φ ⟨.slice el,a,b,z⟩)(h2:tab el=φ ⟨u,sz,by',y⟩){B:Nat}{cs ds:Η}{tk tk':Tok}(ha:App O B sz tk)
  (hc:Ζ cs=n*sz) (hd:Ζ ds=k*sz:=by exact rfl) (hl:ds.all eI=Α:=by exact rfl) (hs:0<sz:=by decide) (hk:k≠0:=by decide) (hb:(n+k)*by'<=140737488355328:=by omega) (hm:n+k<=maxLen:=by simp only[maxLen];omega):
  jx tab O t (.l n cs tk) (.l k ds tk')=φ (.l (n+k) (cs++ds) (.own O.N sz),O.after tk):=by
 simp only[jx,h,h2,akb];rw[if_pos ⟨hd,hl,hs⟩,if_neg hk,if_pos ⟨hc,hb,hm⟩];cases tk with
 | nil=>rfl
 | full=>rfl
 | own s j=>
   obtain⟨rfl,h3,_⟩:=ha;simp only[if_true,h3];rfl
 | au=>exact ha.elim
section
variable{tab:cL}{t el:TypeId}{u:TypeDesc}{a b d:Nat}{z:Η}{y m0 m1 m2:MV}
end
section
variable{tab:cL}{t el:TypeId}{u:TypeDesc}{a b d:Nat}{z:Η}{y:MV}{v0 v1 v2:Value}
end
def zp1(i:Nat)(x:Operand)(m:MV):iN #[(i,x)] [m]=[(i,m)]:=rfl
def zp2(i j:Nat)(x y:Operand)(m q:MV):iN #[(i,x),(j,y)] [m,q]=[(i,m),(j,q)]:=rfl
def zp3(i j k:Nat)(x y z:Operand)(m q r:MV):iN #[(i,x),(j,y),(k,z)] [m,q,r]=[(i,m),(j,q),(k,r)]:=rfl
def aq(x:Int):mi x= .v (Ι Κ x):=rfl
def bB(x:Bool):mb x= .v (.bool x):=rfl
def looks(e:Env):Τ->Option Η
 | []=>φ []
 | t::l=>(look e t).bind λm=>(looks e l).map (m:: ·)
def TC(e:Env):looks e []=φ []:=rfl
def Fq(e:Env)(t:Nat)(l:Τ):looks e (t::l)=(look e t).bind λm=>(looks e l).map (m:: ·):=rfl
def pair:Τ->Η->Env
 | t::l,m::ms=>(t,m)::pair l ms
 | _,_=>[]
def TD(t:Nat)(l:Τ)(m:MV)(ms:Η):pair (t::l) (m::ms)=(t,m)::pair l ms:=rfl
def YT(ms:Η):pair [] ms=[]:=rfl
section
variable{n:Sz}{D:List Deferred}{e:Env}{P:Program}{O:VH}{Q:VQ}{c:Code}
end
def KM(P:Program)(n:Sz)(D:List Deferred)(d:Code)(Q:VQ):VQ:=λx e O=>match x with
 | .normal=>VC P n D d e O Q
 | x=>Q x e O
def jT(id:Nat)(Q:VQ):VQ:=λx e O=>match x with
 | .exit i=>if i=id then Q .normal e O else Q (.exit i) e O
 | x=>Q x e O
def MF{σ :Type}(l:Τ)(ms: σ ->Η)(I: σ ->VH->Prop)(μ : σ ->Nat)(s: σ)(Q:VQ):VQ:=λx e O=>match x with
 | .normal=>∃s',looks e l=φ (ms s')/\I s' O/\ μ s'< μ s
 | x=>Q x e O
def pD(tab:cL)(fn:Func)(R:iE->VH->Prop):VQ:=λx e O=>match x with
 | .normal=>∃m,ee tab fn e O=φ m/\R (.ret m) O
 | .ret=>∃m,ee tab fn e O=φ m/\R (.ret m) O
 | .panic m=>R (.panic m) O
 | _=>False
section
variable{n:Sz}{D:List Deferred}{e:Env}{P:Program}{O:VH}{Q:VQ}{c d:Code}{id i:Nat}{m:MV}{tab:cL}{fn:Func}{R:iE->VH->Prop}
def MG:KM P n D d Q .normal e O=VC P n D d e O Q:=rfl
def TF:KM P n D d Q (.exit i) e O=Q (.exit i) e O:=rfl
def TG:KM P n D d Q (.goto i) e O=Q (.goto i) e O:=rfl
def YU:KM P n D d Q .ret e O=Q .ret e O:=rfl
def Pv:KM P n D d Q (.panic m) e O=Q (.panic m) e O:=rfl
def xX:jT id Q .normal e O=Q .normal e O:=rfl
def CH:jT id Q (.exit i) e O=if i=id then Q .normal e O else Q (.exit i) e O:=rfl
def CI:jT id Q (.goto i) e O=Q (.goto i) e O:=rfl
def Fs:jT id Q .ret e O=Q .ret e O:=rfl
def uz:jT id Q (.panic m) e O=Q (.panic m) e O:=rfl
section
variable{σ :Type}{l:Τ}{ms: σ ->Η}{I: σ ->VH->Prop}{μ : σ ->Nat}{s: σ}
def Pw:MF l ms I μ s Q (.exit i) e O=Q (.exit i) e O:=rfl
def Px:MF l ms I μ s Q (.goto i) e O=Q (.goto i) e O:=rfl
def TK:MF l ms I μ s Q .ret e O=Q .ret e O:=rfl
def MH:MF l ms I μ s Q (.panic m) e O=Q (.panic m) e O:=rfl
end
def xY:vY Q .normal e O=Q .normal e O:=rfl
def CJ:vY Q (.exit i) e O=Q (.exit i) e O:=rfl
def Ft:vY Q .ret e O=Q .ret e O:=rfl
def AX:vY Q (.panic m) e O=Q (.panic m) e O:=rfl
def VC.seq'(h:VC P n D c e O (KM P n D d Q)):VC P n D (.seq c d) e O Q:=VC.seq h
def χ(h:VC P n D c e O (jT id Q)):VC P n D (.block id c) e O Q:=VC.block h
def VF.agh(ht:aR P tab){f:FuncId}{c:Code}{args:Η}(hf:P.funcs[f]?=φ fn)(hb:fn.body=φ c)(hn:Ζ args<=fn.ntmps)
  (h:VC P ⟨fn.ntmps,0⟩ [] c (cZ 0 args) O (pD tab fn R)):VF P f args O R:=VF.enter ht hf hb hn h
end
section
variable{tab:cL}{n:Sz}{ops:Array Oper}{o:Oper}{l:ϕ}{e:Env}{O O':VH}{d:Option Tmp}{m:MV}
def ak(k:Nat):bt (φ k) m e=(k,m)::e:=rfl
def Hs:bt Β m e=e:=rfl
def Ht :bL ⟨N,0⟩ (φ k)=decide (k<N):=by simp[bL]
def abO{l:Nat}:bL ⟨N,l+1⟩ (φ k)=(decide (l<k)&&decide (k<N)):=rfl
def Hu:bL n Β=Α:=rfl
end
section
variable{tab:cL}{fn:Func}{R:iE->VH->Prop}{e:Env}{O:VH}{m m':MV}{t t':Nat}
def pD.abP(hf:fn.results= #[])(h:R (.ret (.tuple [])) O):pD tab fn R .ret e O:=⟨_,by rw[ee,hf];rfl,h⟩
def pD.al0(hf:fn.results= #[.tmp t])(hl:look e t=φ m)(h:R (.ret m) O):pD tab fn R .ret e O:=⟨_,by rw[ee,hf];simp[lJ,hl],h⟩
def pD.al1(hf:fn.results= #[.tmp t,.tmp t'])(hl:look e t=φ m)(uw:look e t'=φ m')(h:R (.ret (.tuple [m,m'])) O):pD tab fn R .ret e O:=⟨_,by rw[ee,hf];simp[lJ,hl,uw],h⟩
def pD.abQ(hf:fn.results= #[])(h:R (.ret (.tuple [])) O):pD tab fn R .normal e O:=⟨_,by rw[ee,hf];rfl,h⟩
end
section
variable{G H:Gh}{n:Sz}{D:List Deferred}{e e':Env}{a:Act}{P:Program}{tab:cL}{O O':VH}{w:World}{m m':MV}{u v:Value}{ops:Array Oper}{Q:VQ}
def ie:Op->Nat
 | .move _ | .assign _ | .pick .. | .nilCheck _ | .binOp .. | .unOp .. | .convert .. | .fieldAddr .. | .field .. | .indexAddr .. | .index .. | .extract .. | .slice .. | .build .. | .makeFunc .. | .makeInterface .. =>1
 | .load .. =>2
 | .lookup .. =>5
 | .call c=>match c.callee with
   | .value _=>0
   | .builtin .len=>4
   | .builtin .max=>1
   | .builtin .min=>1
   | .builtin .unsafeSliceData=>1
   | _=>3
 | _=>3
def abR(h:ie o.op=1):j9 tab o e O=Β:=by
 unfold j9;unfold ie at h
 split<;>first
  | rfl
  | (rename_i ho;rw[ho]at h;cases h)
  | (rename_i ho
     rw[ho]at h
     split<;>first
      | rfl
      | (rename_i hc _ _;simp only[hc]at h;cases h))
def abS(h:ie o.op=1)(hv:dZ tab o e O=φ (m,O')):fI tab o e=φ m/\O'=O:=by
 unfold dZ at hv;rw[abR h]at hv;split at hv;rename_i p hp;simp only[Option.some.injEq,Prod.mk.injEq]at hv;exact⟨by rw[hp,hv.1],hv.2.symm⟩;cases hv
inductive Fl where
 | one | bh | rd | fk
inductive Md where
 | plain | any | reads
 | held (brk:Τ)
def GL(tab:cL)(t:TypeId):MV->Option MV
 | .d_ cs off=>gj tab ⟨0,λ_=>Β⟩ t (.d_ cs off)
 | _=>Β
def abT(tab:cL)(o:Oper)(e:Env)(O:VH):Option (MV×VH):=
 match o.op with
 | .load t x=>((ev e x).bind (GL tab t)).map (·,O)
 | _=>Β
def W4(tab:cL)(o:Oper)(e:Env)(O:VH):Option (MV×VH):=
 match o.op with
 | .call c=>match c.callee,c.args.toList,c.argTypes.toList with
   | .builtin .len,[x],[t]=>((ev e x).bind (cS tab t)).map (·,O)
   | _,_,_=>Β
 | _=>Β
def KN(tab:cL)(k:Nat)(o:Oper)(e:Env)(O:VH):Option (MV×VH):=
 match k with
 | 1=>dZ tab o e O
 | 2=>abT tab o e O
 | 4=>W4 tab o e O
 | _=>Β
def CK(tab:cL)(k:Nat)(o:Oper)(e:Env)(O:VH):Option (MV×VH):=
 match k with
 | 1=>dZ tab o e O
 | 2=>dZ tab o e O
 | 4=>W4 tab o e O
 | 5=>dZ tab o e O
 | _=>Β
def jB(tab:cL)(f:Fl)(o:Oper)(e:Env)(O:VH):Option (MV×VH):=
 match f with
 | .one=>dZ tab o e O
 | .fk=>Β
 | .bh=>KN tab (ie o.op) o e O
 | .rd=>CK tab (ie o.op) o e O
def YV(hv:abT tab o e O=φ (m,O')):fI tab o e=φ m/\O'=O:=by
 unfold abT at hv;split at hv;rename_i t x ho;obtain⟨q,h1,h2⟩:=Th.1 hv;obtain⟨p,h3,h4⟩:=Ti.1 h1;simp only[Prod.mk.injEq]at h2;refine⟨?_,h2.2.symm⟩;rw[<-h2.1];unfold GL at h4;split at h4;simp only[fI,ho,h3];exact h4;cases h4;cases hv
def z_(hv:W4 tab o e O=φ (m,O')):fI tab o e=φ m/\O'=O:=by
 unfold W4 at hv;split at hv;rename_i c ho;split at hv;rename_i x t hc ha gT;obtain⟨q,h1,h2⟩:=Th.1 hv;simp only[Prod.mk.injEq]at h2;refine⟨?_,h2.2.symm⟩;rw[<-h2.1];simp only[fI,ho,hc,ha,gT];exact h1;cases hv;cases hv
def qt(hv:jB tab .bh o e O=φ (m,O')):fI tab o e=φ m/\O'=O:=by
 simp only[jB,KN]at hv;split at hv;exact abS ‹_› hv;exact YV hv;exact z_ hv;cases hv
def CL(h:fI tab o e=φ m):dZ tab o e O=φ (m,O):=by unfold dZ;rw[h]
def Ej{f:Fl}(hv:jB tab f o e O=φ (m,O')):dZ tab o e O=φ (m,O'):=by
 cases f with
 | one=>exact hv
 | fk=>cases hv
 | bh=>obtain⟨h1,rfl⟩:=qt hv;exact CL h1
 | rd=>
   simp only[jB,CK]at hv;split at hv;exact hv;exact hv;obtain⟨h1,rfl⟩:=z_ hv;exact CL h1;exact hv;cases hv
def Aa(ht:aR P tab)(hw:WR G O w)(h:FR G n D e a){f:Fl}(hf:f≠ .one)(hv:jB tab f o e O=φ (m,O')):O'=O/\∃u,VR G m u/\∀x,Sx G w x->(execOp a.eval o).run P x= .ok (.value u) x:=by
 have bh:∀{m},fI tab o e=φ m->∃u,VR G m u/\∀x,Sx G w x->(execOp a.eval o).run P x= .ok (.value u) x:=λh1=>by
  obtain⟨u,hu,hr⟩:=xO (P:=P) ht h h1;exact⟨u,hu,λx hx=>hr x hx.1⟩
 cases f with
 | one=>exact absurd rfl hf
 | fk=>cases hv
 | bh=>obtain⟨h1,rfl⟩:=qt hv;exact⟨rfl,bh h1⟩
 | rd=>
   simp only[jB,CK]at hv;split at hv;obtain⟨h1,rfl⟩:=abS ‹_› hv;exact⟨rfl,bh h1⟩
   ·rename_i hk;unfold dZ at hv;split at hv;rename_i p hp;simp only[Option.some.injEq,Prod.mk.injEq]at hv;obtain⟨rfl,rfl⟩:=hv;exact⟨rfl,bh hp⟩
    ·unfold j9 at hv
     split at hv<;>first
      | (rename_i t x ho
         obtain⟨p,h1,h2⟩:=Ti.1 hv;obtain⟨q,h3,h4⟩:=Th.1 h2;simp only[Prod.mk.injEq]at h4;obtain⟨rfl,rfl⟩:=h4;obtain⟨u,g1,g2⟩:=qP (P:=P) ht hw h3 (h.ev h1);exact⟨rfl,u,g1,λx hx=>by simp only[execOp,ho,Sem.run_bind,g2 x hx];rfl⟩)
      | (rename_i ho;rw[ho]at hk;simp only[ie]at hk;cases hk)
      | (rename_i ho _ _ _;rw[ho]at hk;simp only[ie]at hk;cases hk)
      | cases hv
      | (rename_i c ho
         exfalso;rw[ho]at hk;simp only[ie]at hk;split at hk<;>cases hk)
   ·obtain⟨h1,rfl⟩:=z_ hv;exact⟨rfl,bh h1⟩
   ·rename_i hk;unfold dZ at hv;split at hv;rename_i p hp;simp only[Option.some.injEq,Prod.mk.injEq]at hv;obtain⟨rfl,rfl⟩:=hv;exact⟨rfl,bh hp⟩
    ·unfold j9 at hv
     split at hv<;>first
      | (rename_i t x k ok ho
         split at hv;rename_i p q h1 h2;obtain⟨r,h3,h4⟩:=Th.1 hv;simp only[Prod.mk.injEq]at h4;obtain⟨rfl,rfl⟩:=h4;obtain⟨u,g1,g2⟩:=AU (P:=P) ht hw h3 (h.ev h1) (h.ev h2);exact⟨rfl,u,g1,λx hx=>by simp only[execOp,ho,Sem.run_bind,g2 x hx];rfl⟩;cases hv)
      | (rename_i ho;rw[ho]at hk;simp only[ie]at hk;cases hk)
      | (rename_i ho _ _ _;rw[ho]at hk;simp only[ie]at hk;cases hk)
      | cases hv
      | (rename_i c ho
         exfalso;rw[ho]at hk;simp only[ie]at hk;split at hk<;>cases hk)
   ·cases hv
def dk(md:Md)(ops:Array Oper):Nat->Array Bool->List (Nat×Fl)->Bool
 | _,listed,[]=>Region.ready .any ops listed==[]
 | 0,_,_::_=>γ
 | k+1,listed,(i,f)::r=>(match f,md,r with
   | .one,.any,_=>Region.ready .any ops listed==[i]
   | .bh,.any,_=>Region.free .any ops listed i&&(Region.ready .any ops listed).contains i
   | .bh,.reads,_=>Region.free .any ops listed i&&(Region.ready .any ops listed).contains i
   | .rd,.reads,_=>Region.free .any ops listed i&&(Region.ready .any ops listed).contains i
   | .bh,.held brk,_=>Region.free .any ops listed i&&(Region.ready .any ops listed).contains i&&oz ops brk listed i
   | .rd,.held brk,_=>Region.free .any ops listed i&&(Region.ready .any ops listed).contains i&&oz ops brk listed i
   | .one,.held brk,_=>Region.ready .any ops listed==[i]&&((!brk.contains i&&((ops[i]?).map λo=>JE o.op).getD γ)||(brk.contains i&&(Ν listed.size).all λj=>(listed.setIfInBounds i Α).getD j Α||brk.contains j))
   | .fk,.any,(j,.one)::_=>(Region.ready .any ops listed==[i,j]||Region.ready .any ops listed==[j,i])&&Region.ready .any ops (listed.setIfInBounds i Α)==[j]&&Region.ready .any ops (listed.setIfInBounds j Α)==[i]
   | _,_,_=>γ)&&dk md ops k (listed.setIfInBounds i Α) r
def Fits(ops:Array Oper):List (Nat×Fl)->List (Fl×Oper)->Prop
 | [],[]=>True
 | (i,f)::ix,(g,o)::L=>f=g/\ops[i]?=φ o/\Fits ops ix L
 | _,_=>False
def akh(P:Program)(n:Sz)(D:List Deferred)(ops:Array Oper)(fuel:Nat)(listed:Array Bool)(e:Env)(O:VH)(Q:VQ):Prop:=
 ∀G a w,WR G O w->FR G n D e a->wpAnyH P .any ops (c7 G n D Q) (λx=>x=w) fuel listed a w
def abU(P:Program)(n:Sz)(D:List Deferred)(md:Md)(ops:Array Oper)(fuel:Nat)(listed:Array Bool)(ix:List (Nat×Fl))(e:Env)(O:VH)(Q:VQ):Prop:=
 match md with
 | .plain=>jR P n D ops (ix.map (·.1)) e O Q
 | .any=>bA P n D ops fuel listed e O Q
 | .reads=>akh P n D ops fuel listed e O Q
 | .held brk=>cc P n D ops brk fuel listed e O Q
def VL(P:Program)(n:Sz)(D:List Deferred)(md:Md)(ops:Array Oper)(L:List (Fl×Oper))(e:Env)(O:VH)(Q:VQ):Prop:=
 ∀fuel listed ix,Fits ops ix L->(md≠ .plain->Region.noSelect ops=Α/\dk md ops fuel listed ix=Α)->abU P n D md ops fuel listed ix e O Q
def VL.nil{md:Md}(h:Q .normal e O):VL P n D md ops [] e O Q:=by
 intro fuel listed ix hf hp;cases ix with
 | cons x ix=>exact hf.elim
 | nil=>
   cases md with
   | plain=>exact jR.nil h
   | any=>
     have:=(hp (by simp)).2;rw[dk]at this;exact bA.done (by simpa using this) h
   | reads=>
     have:=(hp (by simp)).2;rw[dk]at this;intro G a w hw aZ;exact wpAnyH_done (by simpa using this) ⟨.normal,e,O,G,Gh.Le.refl G,hw,aZ,trivial,h⟩ fuel
   | held brk=>
     have:=(hp (by simp)).2;rw[dk]at this;exact cc.done (by simpa using this) h
def uX(ho:ops[i]?=φ o)(h:((!brk.contains i&&((ops[i]?).map λo=>JE o.op).getD γ)||(brk.contains i&&(Ν listed.size).all λj=>(listed.setIfInBounds i Α).getD j Α||brk.contains j))=Α):
  (brk.contains i=γ/\JE o.op=Α)\/∀j,(listed.setIfInBounds i Α).getD j Α=γ\/j=i->brk.contains j=Α:=by
 rw[ho]at h;simp only[akb,Option.getD_some,aqe,WT,Bool.not_eq_true']at h;rcases h with h | ⟨h1,h2⟩;exact .inl h
 ·refine .inr λj hj=>?_
  rcases hj with hj | rfl;rcases ap5 j listed.size with hl | hl;have:=aqb.1 h2 j (List.mem_range.2 hl);rw[hj,Bool.false_or]at this;exact this;rw[ap6,alR (by simpa using hl)]at hj;cases hj;exact h1
def aI.skip{K:Env->VH->Prop}(ho:ops[i]?=φ o)(hg:aQ ops o e=φ γ)(hd:bL n o.dst=Α)(hk:K (bt o.dst cY e) O):aI P n D ops i e O Q K:=by
 intro G a w hw aZ;simp only[wpOp,ho,bN aZ hg,abx,if_false];exact⟨_,_,G,Gh.Le.refl G,hw,aZ.bt hd nj,hk⟩
def xZ{f:Fl}(hf:f≠ .one)(hv:jB tab f o e O=φ (m,O')):O'=O:=by
 cases f with
 | one=>exact absurd rfl hf
 | fk=>cases hv
 | bh=>exact(qt hv).2
 | rd=>
   simp only[jB,CK]at hv
   have key:∀{k},ie o.op=k->k≠0->k≠3->dZ tab o e O=φ (m,O')->O'=O:=λ{k} hk h0 h3 hv=>by
    unfold dZ at hv;split at hv;simp only[Option.some.injEq,Prod.mk.injEq]at hv;exact hv.2.symm
    ·unfold j9 at hv
     split at hv<;>first
      | (rename_i ho;rw[ho]at hk;simp only[ie]at hk;exact absurd hk.symm h3)
      | (cases hv;done)
      | (rename_i ho _ _ _;rw[ho]at hk;simp only[ie]at hk;exact absurd hk.symm h3)
      | (obtain⟨p,h1,h2⟩:=Ti.1 hv
         obtain⟨q,h3,h4⟩:=Th.1 h2;simp only[Prod.mk.injEq]at h4;exact h4.2.symm)
      | (split at hv
         ·obtain⟨r,h3,h4⟩:=Th.1 hv;simp only[Prod.mk.injEq]at h4;exact h4.2.symm
         ·cases hv)
      | (rename_i c ho
         rw[ho]at hk;simp only[ie]at hk;split at hv;rename_i hc _ _;simp only[hc]at hk;exact absurd hk.symm h3;obtain⟨p,h1,h2⟩:=Ti.1 hv;obtain⟨q,h3,h4⟩:=Th.1 h2;simp only[Prod.mk.injEq]at h4;exact h4.2.symm;cases hv)
   split at hv;exact key ‹_› (by decide) (by decide) hv;exact key ‹_› (by decide) (by decide) hv;exact(z_ hv).2;exact key ‹_› (by decide) (by decide) hv;cases hv
def VL.step(ht:aR P tab){md:Md}{f:Fl}{L:List (Fl×Oper)}(hg:aQ ops o e=φ Α)(hv:jB tab f o e O=φ (m,O'))(hd:bL n o.dst=Α)
  (h:VL P n D md ops L (bt o.dst m e) O' Q):VL P n D md ops ((f,o)::L) e O Q:=by
 intro fuel listed ix hf hp
 match ix,hf with
 | (i,g)::ix,hf=>
   obtain⟨rfl,ho,hf⟩:=hf;cases md with
   | plain=>exact jR.step ht ho hg (Ej hv) hd (h 0 #[] ix hf (λh=>absurd rfl h))
   | any=>
     obtain⟨h1,h2⟩:=hp (by simp);cases fuel with
     | zero=>cases h2
     | succ fuel=>
       simp only[dk,WT]at h2;have hk:=h fuel (listed.setIfInBounds i Α) ix hf (λ_=>⟨h1,h2.2⟩);cases g with
       | one=>
         have hr:Region.ready .any ops listed=[i]:=by simpa using h2.1
         exact bA.all hr (by simp) λj hj=>by
          obtain rfl:j=i:=by simpa using hj
          exact aI.op ht ho hg (Ej hv) hd hk
       | bh=>
         obtain⟨hs,rfl⟩:=qt hv;simp only[WT]at h2;exact bA.WX ht ho h1 h2.1.1 h2.1.2 hg hs hd hk
       | rd=>exact absurd h2.1 (by simp)
       | fk=>cases hv
   | reads=>
     obtain⟨h1,h2⟩:=hp (by simp);cases fuel with
     | zero=>cases h2
     | succ fuel=>
       simp only[dk,WT]at h2;have hk:=h fuel (listed.setIfInBounds i Α) ix hf (λ_=>⟨h1,h2.2⟩);((have hne:g≠ .one:=by rintro rfl;exact absurd h2.1 (by simp));intro G a w hw aZ;obtain⟨rfl,u,hu,cT⟩:=Aa (P:=P) ht hw aZ hne hv;have h3:Region.free .any ops listed i=Α/\(Region.ready .any ops listed).contains i=Α:=by cases g<;>simp_all);exact wpAnyH_take ho h1 h3.1 h3.2 (jz hd) (.inl ⟨bN aZ hg,λw' lI=>by rw[lI];exact cT w hw.sx⟩) rfl (hk G _ w hw (aZ.bt hd hu))
   | held brk=>
     obtain⟨h1,h2⟩:=hp (by simp);cases fuel with
     | zero=>cases h2
     | succ fuel=>
       simp only[dk,WT]at h2;have hk:=h fuel (listed.setIfInBounds i Α) ix hf (λ_=>⟨h1,h2.2⟩);cases g with
       | one=>
         simp only[WT]at h2;(have hr:Region.ready .any ops listed=[i]:=by simpa using h2.1.1);exact cc.one ht ho hr (uX ho h2.1.2) hg (Ej hv) hd hk
       | fk=>exact absurd h2.1 (by simp)
       | bh=>
         simp only[WT]at h2
         exact cc.take ho h1 h2.1.1.1 h2.1.1.2 h2.1.2 hd (λG a w hw aZ=>by
          obtain⟨_,u,hu,cT⟩:=Aa (P:=P) ht hw aZ (by simp) hv;exact⟨u,hu,.inl ⟨bN aZ hg,cT⟩⟩) (by
          obtain rfl:=xZ (by simp) hv;exact hk)
       | rd=>
         simp only[WT]at h2
         exact cc.take ho h1 h2.1.1.1 h2.1.1.2 h2.1.2 hd (λG a w hw aZ=>by
          obtain⟨_,u,hu,cT⟩:=Aa (P:=P) ht hw aZ (by simp) hv;exact⟨u,hu,.inl ⟨bN aZ hg,cT⟩⟩) (by
          obtain rfl:=xZ (by simp) hv;exact hk)
def VL.skip{md:Md}{f:Fl}{L:List (Fl×Oper)}(Py:f≠ .fk)(hg:aQ ops o e=φ γ)(hd:bL n o.dst=Α)
  (h:VL P n D md ops L (bt o.dst cY e) O Q):VL P n D md ops ((f,o)::L) e O Q:=by
 intro fuel listed ix hf hp
 match ix,hf with
 | (i,g)::ix,hf=>
   obtain⟨rfl,ho,hf⟩:=hf;cases md with
   | plain=>exact jR.skip ho hg hd (h 0 #[] ix hf (λh=>absurd rfl h))
   | any=>
     obtain⟨h1,h2⟩:=hp (by simp);cases fuel with
     | zero=>cases h2
     | succ fuel=>
       simp only[dk,WT]at h2;have hk:=h fuel (listed.setIfInBounds i Α) ix hf (λ_=>⟨h1,h2.2⟩);cases g with
       | one=>
         have hr:Region.ready .any ops listed=[i]:=by simpa using h2.1
         exact bA.all hr (by simp) λj hj=>by
          obtain rfl:j=i:=by simpa using hj
          exact aI.skip ho hg hd hk
       | bh=>
         simp only[WT]at h2;exact bA.abI ho h1 h2.1.1 h2.1.2 hg hd hk
       | rd=>exact absurd h2.1 (by simp)
       | fk=>exact absurd rfl Py
   | reads=>
     obtain⟨h1,h2⟩:=hp (by simp);cases fuel with
     | zero=>cases h2
     | succ fuel=>
       simp only[dk,WT]at h2;have hk:=h fuel (listed.setIfInBounds i Α) ix hf (λ_=>⟨h1,h2.2⟩);((have hne:g≠ .one:=by rintro rfl;exact absurd h2.1 (by simp));intro G a w hw aZ;have h3:Region.free .any ops listed i=Α/\(Region.ready .any ops listed).contains i=Α:=by cases g<;>simp_all);exact wpAnyH_take ho h1 h3.1 h3.2 (jz hd) (.inr ⟨bN aZ hg,rfl⟩) rfl (hk G _ w hw (aZ.bt hd nj))
   | held brk=>
     obtain⟨h1,h2⟩:=hp (by simp);cases fuel with
     | zero=>cases h2
     | succ fuel=>
       simp only[dk,WT]at h2;have hk:=h fuel (listed.setIfInBounds i Α) ix hf (λ_=>⟨h1,h2.2⟩);cases g with
       | one=>
         simp only[WT]at h2;(have hr:Region.ready .any ops listed=[i]:=by simpa using h2.1.1);exact cc.akg ho hr (uX ho h2.1.2) hg hd hk
       | fk=>exact absurd h2.1 (by simp)
       | bh=>
         simp only[WT]at h2;exact cc.take ho h1 h2.1.1.1 h2.1.1.2 h2.1.2 hd (λG a w hw aZ=>⟨undef,nj,.inr ⟨bN aZ hg,rfl⟩⟩) hk
       | rd=>
         simp only[WT]at h2;exact cc.take ho h1 h2.1.1.1 h2.1.1.2 h2.1.2 hd (λG a w hw aZ=>⟨undef,nj,.inr ⟨bN aZ hg,rfl⟩⟩) hk
def VL.call{md:Md}{L:List (Fl×Oper)}{f:Operand}{args:Array Operand}{tys:Array TypeId}{ty:TypeId}{ps:String}{af:Array Edge}{g:Option (Nat×Bool)}{id:FuncId}{fs ms cs as_:Η}{R:iE->VH->Prop}
  (hg:aQ ops (.mk d (.call {callee:=.value f,args:=args,argTypes:=tys}) ty ps af g) e=φ Α) (hf:ev e f=φ (.func (.func id) fs cs)) (hm:il e args.toList=φ ms) (ha:fs++ms++cs=as_) (hE:Enters P id) (hd:bL n d=Α) (hR:VF P id as_ O R)
  (h:∀r O',R r O'->match r with
   | .ret m=>VL P n D md ops L (bt d m e) O' Q
   | .panic m=>Q (.panic m) (mD n e) O'):VL P n D md ops ((.one,.mk d (.call {callee:=.value f,args:=args,argTypes:=tys}) ty ps af g)::L) e O Q:=by
 intro fuel listed ix uY hp;subst ha
 match ix,uY with
 | (i,g')::ix,uY=>
   obtain⟨rfl,ho,uY⟩:=uY;cases md with
   | plain=>
     refine jR.call ho hg rfl rfl hf hm hE hd hR λr O' hr=>?_
     have:=h r O' hr;cases r with
     | ret m=>exact this 0 #[] ix uY (λh=>absurd rfl h)
     | panic m=>exact this
   | any=>
     obtain⟨h1,h2⟩:=hp (by simp);cases fuel with
     | zero=>cases h2
     | succ fuel=>
       simp only[dk,WT]at h2;have hr:Region.ready .any ops listed=[i]:=by simpa using h2.1
       exact bA.all hr (by simp) λj hj=>by
        obtain rfl:j=i:=by simpa using hj
        refine aI.call ho hg rfl rfl hf hm hE hd hR λr O' hr=>?_
        have:=h r O' hr;cases r with
        | ret m=>exact this fuel (listed.setIfInBounds j Α) ix uY (λ_=>⟨h1,h2.2⟩)
        | panic m=>exact this
   | reads=>
     obtain⟨h1,h2⟩:=hp (by simp);cases fuel with
     | zero=>cases h2
     | succ fuel=>
       simp only[dk,WT]at h2;exact absurd h2.1 (by simp)
   | held brk=>
     obtain⟨h1,h2⟩:=hp (by simp);cases fuel with
     | zero=>cases h2
     | succ fuel=>
       simp only[dk,WT]at h2;have hr:Region.ready .any ops listed=[i]:=by simpa using h2.1.1
       have hb:∀j,(listed.setIfInBounds i Α).getD j Α=γ\/j=i->brk.contains j=Α:=by
        rcases uX ho h2.1.2 with⟨_,h3⟩ | h3;cases h3;exact h3
       refine cc.abM hr hb (aI.call ho hg rfl rfl hf hm hE hd hR λr O' hr=>?_);have:=h r O' hr;cases r with
       | ret m=>exact this fuel (listed.setIfInBounds i Α) ix uY (λ_=>⟨h1,h2.2⟩)
       | panic m=>exact this
def kf(tab:cL)(n:Sz)(ops:Array Oper):List (Fl×Oper)->Env->VH->Option (List (Fl×Oper)×Env×VH)
 | [],e,O=>φ ([],e,O)
 | (.fk,o)::L,e,O=>φ ((.fk,o)::L,e,O)
 | (f,o)::L,e,O=>match ie o.op==0,aQ ops o e with
   | _,Β=>Β
   | true,φ Α=>φ ((f,o)::L,e,O)
   | false,φ Α=>match jB tab f o e O with
     | none=>φ ((f,o)::L,e,O)
     | some (m,O')=>match bL n o.dst with
       | true=>kf tab n ops L (bt o.dst m e) O'
       | false=>Β
   | _,φ γ=>match bL n o.dst with
     | true=>kf tab n ops L (bt o.dst cY e) O
     | false=>Β
def VL.run(ht:aR P tab){md:Md}:∀{L L':List (Fl×Oper)} {e:Env} {O:VH},kf tab n ops L e O=φ (L',e',O')->VL P n D md ops L' e' O' Q->VL P n D md ops L e O Q
 | [],L',e,O,h,hQ=>by
   simp only[kf,Option.some.injEq,Prod.mk.injEq]at h;obtain⟨rfl,rfl,rfl⟩:=h;exact hQ
 | (.fk,o)::L,L',e,O,h,hQ=>by
   simp only[kf,Option.some.injEq,Prod.mk.injEq]at h;obtain⟨rfl,rfl,rfl⟩:=h;exact hQ
 | (.one,o)::L,L',e,O,h,hQ=>by
   simp only[kf]at h;split at h;cases h;simp only[Option.some.injEq,Prod.mk.injEq]at h;obtain⟨rfl,rfl,rfl⟩:=h;exact hQ;split at h;simp only[Option.some.injEq,Prod.mk.injEq]at h;obtain⟨rfl,rfl,rfl⟩:=h;exact hQ;split at h;exact VL.step ht ‹_› ‹_› ‹_› (VL.run ht h hQ);cases h;split at h;exact VL.skip (by simp) ‹_› ‹_› (VL.run ht h hQ);cases h
 | (.bh,o)::L,L',e,O,h,hQ=>by
   simp only[kf]at h;split at h;cases h;simp only[Option.some.injEq,Prod.mk.injEq]at h;obtain⟨rfl,rfl,rfl⟩:=h;exact hQ;split at h;simp only[Option.some.injEq,Prod.mk.injEq]at h;obtain⟨rfl,rfl,rfl⟩:=h;exact hQ;split at h;exact VL.step ht ‹_› ‹_› ‹_› (VL.run ht h hQ);cases h;split at h;exact VL.skip (by simp) ‹_› ‹_› (VL.run ht h hQ);cases h
 | (.rd,o)::L,L',e,O,h,hQ=>by
   simp only[kf]at h;split at h;cases h;simp only[Option.some.injEq,Prod.mk.injEq]at h;obtain⟨rfl,rfl,rfl⟩:=h;exact hQ;split at h;simp only[Option.some.injEq,Prod.mk.injEq]at h;obtain⟨rfl,rfl,rfl⟩:=h;exact hQ;split at h;exact VL.step ht ‹_› ‹_› ‹_› (VL.run ht h hQ);cases h;split at h;exact VL.skip (by simp) ‹_› ‹_› (VL.run ht h hQ);cases h
def Pz(tab:cL)(n:Sz)(ops:Array Oper)(L:List (Fl×Oper))(e:Env)(O:VH):Bool->Option (List (Fl×Oper)×Env×VH)
 | true=>kf tab n ops L e O
 | false=>Β
def wk2(tab:cL)(n:Sz)(ops:Array Oper)(fo:Fl×Oper)(L:List (Fl×Oper))(e:Env)(O:VH):Option (MV×VH)->Option (List (Fl×Oper)×Env×VH)
 | some (m,O')=>Pz tab n ops L (bt fo.2.dst m e) O' (bL n fo.2.dst)
 | none=>φ (fo::L,e,O)
def PA(tab:cL)(n:Sz)(ops:Array Oper)(f:Fl)(o:Oper)(L:List (Fl×Oper))(e:Env)(O:VH):Bool->Option Bool->Option (List (Fl×Oper)×Env×VH)
 | _,Β=>Β
 | true,φ Α=>φ ((f,o)::L,e,O)
 | false,φ Α=>wk2 tab n ops (f,o) L e O (jB tab f o e O)
 | _,φ γ=>Pz tab n ops L (bt o.dst cY e) O (bL n o.dst)
section
variable{f:Fl}{o:Oper}{L:List (Fl×Oper)}{d:Option Tmp}{p:Op}{ty:TypeId}{ps:String}{af:Array Edge}{g:Option (Nat×Bool)}{b:Bool}
def TL:kf tab n ops [] e O=φ ([],e,O):=rfl
def x_(Py:f≠ .fk:=by simp):kf tab n ops ((f,.mk d p ty ps af g)::L) e O=PA tab n ops f (.mk d p ty ps af g) L e O (ie p==0) (aQ ops (.mk d p ty ps af g) e):=by
 have key:kf tab n ops ((f,.mk d p ty ps af g)::L) e O=match ie p==0,aQ ops (.mk d p ty ps af g) e with
  | _,Β=>Β
  | true,φ Α=>φ ((f,.mk d p ty ps af g)::L,e,O)
  | false,φ Α=>match jB tab f (.mk d p ty ps af g) e O with
    | none=>φ ((f,.mk d p ty ps af g)::L,e,O)
    | some (m,O')=>match bL n d with
      | true=>kf tab n ops L (bt d m e) O'
      | false=>Β
  | _,φ γ=>match bL n d with
    | true=>kf tab n ops L (bt d cY e) O
    | false=>Β:=by
  cases f<;>first | exact absurd rfl Py | rfl
 rw[key];generalize aQ ops (.mk d p ty ps af g) e=x;generalize (ie p==0)=y;unfold PA;cases x with
 | none=>rfl
 | some b=>
   cases b<;>cases y<;>simp only;unfold Pz;cases bL n d<;>rfl;unfold Pz;cases bL n d<;>rfl
   ·unfold wk2;cases jB tab f (.mk d p ty ps af g) e O with
    | none=>rfl
    | some r=>unfold Pz;cases bL n d<;>rfl
def TM:kf tab n ops ((.one,.mk d p ty ps af g)::L) e O=PA tab n ops .one (.mk d p ty ps af g) L e O (ie p==0) (aQ ops (.mk d p ty ps af g) e):=x_
def TN:kf tab n ops ((.bh,.mk d p ty ps af g)::L) e O=PA tab n ops .bh (.mk d p ty ps af g) L e O (ie p==0) (aQ ops (.mk d p ty ps af g) e):=x_
def YX:kf tab n ops ((.rd,.mk d p ty ps af g)::L) e O=PA tab n ops .rd (.mk d p ty ps af g) L e O (ie p==0) (aQ ops (.mk d p ty ps af g) e):=x_
def YY:kf tab n ops ((.fk,o)::L) e O=φ ((.fk,o)::L,e,O):=rfl
def YZ:PA tab n ops f o L e O Α (φ Α)=φ ((f,o)::L,e,O):=rfl
def agi:PA tab n ops f (.mk d p ty ps af g) L e O γ (φ Α)=wk2 tab n ops (f,.mk d p ty ps af g) L e O (jB tab f (.mk d p ty ps af g) e O):=rfl
def Y0:PA tab n ops f (.mk d p ty ps af g) L e O b (φ γ)=Pz tab n ops L (bt d cY e) O (bL n d):=by cases b<;>rfl
def Y1:wk2 tab n ops (f,.mk d p ty ps af g) L e O (φ (m,O'))=Pz tab n ops L (bt d m e) O' (bL n d):=rfl
def Y2{fo:Fl×Oper}:wk2 tab n ops fo L e O Β=φ (fo::L,e,O):=rfl
def Y3:Pz tab n ops L e O Α=kf tab n ops L e O:=rfl
def Ab:jB tab .one o e O=dZ tab o e O:=rfl
def KO:jB tab .bh (.mk d p ty ps af g) e O=KN tab (ie p) (.mk d p ty ps af g) e O:=rfl
def PB:jB tab .rd (.mk d p ty ps af g) e O=CK tab (ie p) (.mk d p ty ps af g) e O:=rfl
def W5:KN tab 1 o e O=dZ tab o e O:=rfl
def W6{t:TypeId} :KN tab 2 (.mk d (.load t x) ty ps af g) e O=((ev e x).bind (GL tab t)).map (·,O):=rfl
def W7{t:TypeId} :KN tab 4 (.mk d (.call {callee:=.builtin .len,args:= #[x],argTypes:= #[t]}) ty ps af g) e O=((ev e x).bind (cS tab t)).map (·,O):=rfl
def W8:CK tab 1 o e O=dZ tab o e O:=rfl
def W9:CK tab 2 o e O=dZ tab o e O:=rfl
def W_:CK tab 5 o e O=dZ tab o e O:=rfl
def Xa{t:TypeId} :CK tab 4 (.mk d (.call {callee:=.builtin .len,args:= #[x],argTypes:= #[t]}) ty ps af g) e O=((ev e x).bind (cS tab t)).map (·,O):=rfl
def KP{t:TypeId}{cs:Η} :GL tab t (.d_ cs off)=gj tab ⟨0,λ_=>Β⟩ t (.d_ cs off):=rfl
end
section
variable{x y z:Operand}{t t':TypeId}{f:Nat}{q:BinOp}{r:UnOp}{as_:Array Operand}{ts:Array TypeId}{l h k:Option Operand}{fn:Fn}{ps:Array (Nat×Operand)}
def KQ:ie (.move x)=1:=rfl
def Fu:ie (.assign x)=1:=rfl
def KR:ie (.pick x y z)=1:=rfl
def AY:ie (.nilCheck x)=1:=rfl
def Hv:ie (.binOp q t x y t')=1:=rfl
def KS:ie (.unOp r t x)=1:=rfl
def CN:ie (.convert t t' x)=1:=rfl
def yb:ie (.fieldAddr t x f)=1:=rfl
def Hw:ie (.field t x f)=1:=rfl
def yc:ie (.indexAddr t x y)=1:=rfl
def Hy:ie (.index t x y)=1:=rfl
def CO:ie (.extract x f)=1:=rfl
def Hz:ie (.slice t x l h k)=1:=rfl
def HA:ie (.build t ps)=1:=rfl
def AZ{Y4:Array Operand}:ie (.makeFunc fn as_ Y4)=1:=rfl
def sB:ie (.makeInterface t x)=1:=rfl
def KT:ie (.load t x)=2:=rfl
def HB:ie (.call {callee:=.value x,args:=as_,argTypes:=ts})=0:=rfl
def PC:ie (.call {callee:=.builtin .len,args:=as_,argTypes:=ts})=4:=rfl
def PD:ie (.call {callee:=.builtin .max,args:=as_,argTypes:=ts})=1:=rfl
def PF:ie (.call {callee:=.builtin .min,args:=as_,argTypes:=ts})=1:=rfl
def TO:ie (.call {callee:=.builtin .unsafeSliceData,args:=as_,argTypes:=ts})=1:=rfl
def Fv:ie (.call {callee:=.builtin .append,args:=as_,argTypes:=ts})=3:=rfl
def HC:ie (.store t x y)=3:=rfl
def PG:ie (.box t x)=3:=rfl
def HD:ie (.alloc t)=3:=rfl
def wY:ie (.buildSlice t f ps)=3:=rfl
def CP{t:TypeId}{r:Option Operand}:ie (.makeMap t r)=3:=rfl
def Fw{t:TypeId}{x y:Operand}{b:Bool}:ie (.lookup t x y b)=5:=rfl
def yd{t:TypeId}{x y z:Operand}:ie (.mapUpdate t x y z)=3:=rfl
def Fx{t:TypeId}{x y z:Operand}:ie (.insert t x y z)=3:=rfl
def ye:ie (.makeSlice t x y)=3:=rfl
end
def yf:∀(l:ϕ)(k:Nat),(∀j,l[j]?=Β\/l[j]?=ops[k+j]?)->Fits ops ((List.range' k (Ζ l)).map (·,Fl.one)) (l.map (Fl.one, ·))
 | [],_,_=>trivial
 | o::l,k,h=>by
   rw[ap3,List.range'_succ];refine⟨rfl,?_,yf l (k+1) λj=>?_⟩;rcases h 0 with h0 | h0;cases h0;simpa using h0.symm;rcases h (j+1)with h0 | h0;exact .inl (by simpa using h0);exact .inr (by rw[show k+1+j=k+(j+1)from by omega];simpa using h0)
def VC.Xb{id:Nat}{l:ϕ}(h:VL P n D .plain ⟨l⟩ (l.map (Fl.one, ·)) e O Q):VC P n D (.region id ⟨l⟩ γ) e O Q:=by
 refine VC.region ?_;have:=h 0 #[] _ (yf l 0 λj=>.inr (by simp)) (λh=>absurd rfl h);simp only[abU,List.map_map]at this;rw[show(⟨l⟩:Array Oper).size=(Ζ l) from rfl,List.range_eq_range'];rw[show((λx:Nat×Fl=>x.1) ∘ λx=>(x,Fl.one))=_root_.id from rfl,List.map_id]at this;exact this
def qu(l:ϕ):List (Nat×Fl)->Option (List (Fl×Oper))
 | []=>φ []
 | (i,f)::ix=>match l[i]?,qu l ix with
   | some o,φ L=>φ ((f,o)::L)
   | _,_=>Β
def v7{l:ϕ}:∀{ix:List (Nat×Fl)} {L:List (Fl×Oper)},qu l ix=φ L->Fits ⟨l⟩ ix L
 | [],L,h=>by injection h with h;subst h;trivial
 | (i,f)::ix,L,h=>by
   simp only[qu]at h;split at h;rename_i o L' h1 h2;injection h with h;subst h;exact⟨rfl,by simpa using h1,v7 h2⟩;cases h
def VC.Xc(md:Md)(ix:List (Nat×Fl)){id:Nat}{l:ϕ}{L:List (Fl×Oper)}(hne:md≠ .plain)(hm:P.follows .mixedOrders=Α)(hs:Region.noSelect ⟨l⟩=Α)(hp:dk md ⟨l⟩ (Ζ l) (Array.replicate (Ζ l) γ) ix=Α)(hL:qu l ix=φ L)
  (h:VL P n D md ⟨l⟩ L e O Q):VC P n D (.region id ⟨l⟩ Α) e O Q:=by
 have:=h (Ζ l) (Array.replicate (Ζ l) γ) ix (v7 hL) (λ_=>⟨hs,hp⟩);cases md with
 | plain=>exact absurd rfl hne
 | any=>exact VC.draw hm this
 | reads=>exactλG a w hw hf=>wp_region_held hm (this G a _ (hw.drawn _) hf)
 | held brk=>exact VC.MC brk hm this
end
def aiB(b:Bool):(b==Α)=b:=by cases b<;>rfl
def aiC(b:Bool):(b==γ)= !b:=by cases b<;>rfl
def Xd{b:Int}(h:a=b):(a==b)=Α:=by simpa using h
def Xe{b:Int}(h:¬a=b):(a==b)=γ:=by simpa using h
def Xf{b:Int}(h:¬a=b):(a != b)=Α:=by simpa using h
def Xg{b:Int}(h:a=b):(a != b)=γ:=by simpa using h
def aH(Φ :MV->VH->Prop):iE->VH->Prop
 | .ret m,O=> Φ m O
 | .panic _,_=>False
section
variable{n:Sz}{D:List Deferred}{e:Env}{P:Program}{tab:cL}{O:VH}{ops:Array Oper}{Q:VQ}{Φ :MV->VH->Prop}
def PH{m:MV}:aH Φ (.ret m) O= Φ m O:=rfl
end
def Fy(f:Fl):∀(l pre:ϕ),qu (pre++l) ((List.range' (Ζ pre) (Ζ l)).map (·,f))=φ (l.map (f, ·))
 | [],_=>rfl
 | o::l,pre=>by
   rw[ap3,List.range'_succ,alS,alS,qu];have:=Fy f l (pre++[o]);rw[ap_,alV]at this;simp only[List.singleton_append,ap3,List.length_nil,alT]at this;rw[this];simp
def VC.Xh{n:Sz}{e:Env}{O:VH}{Q:VQ}{id:Nat}{l:ϕ}(hm:P.follows .mixedOrders=Α)(hs:Region.noSelect ⟨l⟩=Α)(hp:dk .reads ⟨l⟩ (Ζ l) (Array.replicate (Ζ l) γ) ((List.range' 0 (Ζ l)).map (·,Fl.rd))=Α)
  (h:VL P n D .reads ⟨l⟩ (l.map (Fl.rd, ·)) e O Q):VC P n D (.region id ⟨l⟩ Α) e O Q:=
 VC.Xc .reads _ (by simp) hm hs hp (Fy .rd l []) h
def Xi{k:IntKind}{b:Int}:Ef (.v (.int k a)) (.v (.int k b))=φ (.v (.int k (max a b))):=by
 simp only[Ef];have:(if b>a then b else a)=max a b:=by split<;>omega
 rw[this]
def Xj{k:IntKind}{b:Int}:Eg (.v (.int k a)) (.v (.int k b))=φ (.v (.int k (min a b))):=by
 simp only[Eg];have:(if b<a then b else a)=min a b:=by split<;>omega
 rw[this]
def PI{e:Env}{tab:cL}{O:VH}{d:Option Tmp}{ty:TypeId}{p:String}{af:Array Edge}{g:Option (Nat×Bool)}{c x y:Operand}:dZ tab (.mk d (.pick c x y) ty p af g) e O=((ev e c).bind λb=>match b with
  | .v (.bool Α)=>ev e x
  | .v (.bool γ)=>ev e y
  | _=>Β).map (·,O):=by
 simp only[dZ,fI,j9];cases ev e c with
 | none=>rfl
 | some m=>
   (cases m<;>try rfl);rename_i v;cases v<;>try rfl
   rename_i b;cases b;simp only[alP];cases ev e y<;>rfl;simp only[alP];cases ev e x<;>rfl
def zp0(l:Η):iN #[] l=[]:=rfl
def Xk(b o:Nat):Pc (.p b o)=φ (.p b o):=rfl
def Xl(cs:Η)(o:Nat):Pc (.d_ cs o)=φ (.d_ cs o):=rfl
def Ek(x:Value):eQ (.v x)=[.v x]:=rfl
def BM(k:Nat)(cs:Η)(tk:Tok):eQ (.l k cs tk)=[.l k cs tk]:=rfl
def yh(l:Ρ):eQ (.s l)=[.s l]:=rfl
def yi(b o:Nat):eQ (.p b o)=[.p b o]:=rfl
def yj(cs:Η):eQ (.agg cs)=cs:=rfl
section
variable{tab:cL}{O:VH}{t:TypeId}{u:TypeDesc}{d:Nat}{y cs:Η}{k off:Nat}
end
section
variable{tab:cL}{t el:TypeId}{u:TypeDesc}{a b d:Nat}{z:Η}{y:MV}{k0 k1:Nat}{c0 c1:Η}{t0 t1:Tok}
end
def VC.freeze{n:Sz}{e:Env}{O:VH}{Q:VQ}(t:Nat){o cp:Nat}{cs:Η}(ht:look e t=φ (.aS k o i cp))(hk:O.hp k=φ (.cells cs))(hs:o+sz<=Ζ cs)
  (h:VC P n D c ((t,.l i ((cs.drop o).take sz) (if cp=i then .full else .au))::e) (O.kill k) Q):VC P n D c e O Q:=by
 intro G a w hw hf;obtain⟨u,uZ,dB⟩:=hf.get t _ ht;obtain⟨H,h1,h2,h3⟩:=hw.freeze hk dB hs
 have jI:FR H n D ((t,.l i ((cs.drop o).take sz) (if cp=i then .full else .au))::e) a:=by
  have hm:=hf.mono h1;refine⟨hm.defers,hm.size,λs x hx=>?_⟩;rw[j_]at hx;cases hb:s==t with
  | true=>
    rw[hb,cond_true]at hx;injection hx with hx;subst hx;(have:s=t:=by simpa using hb);subst this;exact⟨u,uZ,h3⟩
  | false=>rw[hb,cond_false]at hx;exact hm.get s x hx
 exact wp_mono (h H a w h2 jI) λ_ _ _=>c7.le h1
def abV:=Ca @Xk<|Ca @Xl<|Ca @Ek<|Ca @BM<|Ca @yh<|Ca @yi<|Ca @yj<|Ca @TL<|Ca @TM<|Ca @TN<|Ca @YX<|Ca @YY<|Ca @CE<|Ca @Fo<|Ca @xW<|Ca @Fp<|Ca @CP<|Ca @Fw<|Ca @yd<|Ca @Fx<|Ca @YZ<|Ca @agi<|Ca @Y0<|Ca @Y1<|Ca @Y2<|Ca @Y3<|Ca @Ab<|Ca @KO<|Ca @PB<|Ca @W5<|Ca @W6<|Ca @W7<|Ca @W8<|Ca @W9<|Ca @W_<|Ca @Xa<|Ca @KP<|Ca @KQ<|Ca @Fu<|Ca @KR<|Ca @AY<|Ca @Hv<|Ca @KS<|Ca @CN<|Ca @yb<|Ca @Hw<|Ca @yc<|Ca @Hy<|Ca @CO<|Ca @Hz<|Ca @HA<|Ca @AZ<|Ca @sB<|Ca @KT<|Ca @HB<|Ca @PC<|Ca @PD<|Ca @PF<|Ca @Fv<|Ca @HC<|Ca @PG<|Ca @HD<|Ca @wY<|Ca @ye<|Ca @aiB<|Ca @aiC<|Ca @Xd<|Ca @Xe<|Ca @Xf<|Ca @Xg<|Ca @CF<|Ca @CG<|Ca @Ht<|Ca @Hu<|Ca @ak<|Ca @Hs<|Ca @wrap_i64<|Ca @Kw<|Ca @Fm<|Ca @PI<|Ca @Xi<|Ca @Xj<|Ca @AV<|Ca @Hm<|Ca @Kx<|Ca @CC<|Ca @xT<|Ca @Hn<|Ca @xU<|Ca @Ho<|Ca @CD<|Ca @Hp<|Ca @AW<|Ca @Hq<|Ca @Kz<|Ca @KA<|Ca @Po<|Ca @Pp<|Ca @Pq<|Ca @dP<|Ca @KB<|Ca @Hr<|Ca @Ps<|Ca @TA<|Ca @wX<|Ca @xV<|Ca @WY<|Ca @WZ<|Ca @Pj<|Ca @W0<|Ca @Ku<|Ca @Hk<|Ca @Hl<|Ca @CA<|Ca @Fk<|Ca @Pk<|Ca @j_<|Ca @Pl<|Ca @Kv<|Ca @KC<|Ca @KD<|Ca @KE<|Ca @KF<|Ca @KG<|Ca @KH<|Ca @KI<|Ca @KJ<|Ca @KK<|Ca @Pt<|Ca @Pu<|Ca @aq<|Ca @bB<|Ca @zp0<|Ca @zp1<|Ca @zp2<|Ca @zp3<|Ca @VH.jA<|Ca @Fq<|Ca @TC<|Ca @TD @YT
end Go.Proofs.YtjpadehgejlebaaGreatDoor
