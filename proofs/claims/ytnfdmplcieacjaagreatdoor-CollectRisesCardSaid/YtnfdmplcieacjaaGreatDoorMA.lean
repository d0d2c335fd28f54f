import Derived.Below
import Derived.LoopN
import Derived.OrdersHeld
import Derived.Deep.Draws
import Derived.WalkKit
import Derived.WalkSpells
import Derived.KernelRfl
import Derived.Lib.Builder
import Derived.MapKept
import Derived.Scope
set_option linter.unusedVariables false
set_option linter.defProp false
set_option linter.unusedSimpArgs false
namespace Go.Proofs.YtnfdmplcieacjaaGreatDoor
open Go.RowKit
open _root_.Nat renaming reduceLT → y0, reduceAdd → y10, reduceMul → y11, reduceSub → y12, reduceBEq → y14, reduceEqDiff → y16
open _root_.Int renaming reduceToNat → y18
open _root_.List renaming range → Ν
open Go.Value renaming int → Ι
open Go.IntKind renaming i64 → Κ
open _root_.List renaming length → Ζ
open _root_.Option renaming some → φ, none → Β
open _root_.Bool renaming false → γ, true → Α
open _root_.List renaming getElem?_take → aev, getElem?_eq_some_iff → ai8, getElem?_eq_getElem → ai9, getElem?_drop → ai_, mapM_cons → an5, eq_nil_of_length_eq_zero → apG, map_cons → apH, length_append → asc, length_cons → atM, getElem?_toArray → aug, append_assoc → aul, getElem?_append_left → aum, all_eq_true → auo, getElem?_cons_zero → aup, getElem?_cons_succ → auq, mem_filter → aur
open _root_.Nat renaming le_refl → alp, zero_le → apE, zero_add → apJ, lt_or_ge → asl, add_assoc → ats
open _root_.And renaming intro → Rn
open _root_.Option renaming map_eq_some_iff → Ro, bind_eq_some_iff → TR, map_some → an2, bind_eq_bind → an3, isSome_none → an6, bind_some → apF
open _root_.Bool renaming and_eq_true → abT, false_eq_true → ahB, or_eq_true → auh
open _root_.Array renaming ext' → aja, getElem?_eq_none → an4, getElem?_eq_getElem → an7, getD_eq_getD_getElem? → apI, length_toList → apK, getElem?_setIfInBounds_ne → as0, toList_setIfInBounds → aui, getElem?_append_left → auj, mapM_eq_mapM_toList → auk, setIfInBounds_comm → aun
def Λ{p:Prop}(h:p:=by omega):p:=h
def z10{p:Prop}(h:p:=by simp):p:=h
def z11{p:Prop}(h:p:=by kernel_rfl):p:=h
def z12{p:Prop}(h:p:=by decide):p:=h
def z13{p:Prop}(h:p:=by simp only[maxLen];omega):p:=h
def z14{p:Prop}(h:p:=by intro e;injection e;omega):p:=h
def z15{p:Prop}(h:p:=by simp[execOp,ho]):p:=h
def z16{p:Prop}(h:p:=by rintro m O' ⟨rfl,rfl⟩;exact WL.sound ht h):p:=h
def z17{p:Prop}(h:p:=by rintro(e | e)<;>omega):p:=h
def z18{p:Prop}(h:p:=by dsimp only;omega):p:=h
def z19{p:Prop}(h:p:=by first | omega | simp):p:=h
def z20{p:Prop}(h:p:=by simpa using ho):p:=h
def z21{p:Prop}(h:p:=by rw[T9];rfl):p:=h
def z22{p:Prop}(h:p:=by rw[hk];simp):p:=h
def z23{p:Prop}(h:p:=by simpa using hx):p:=h
def z24{p:Prop}(h:p:=by simp[fu]):p:=h
def z25{p:Prop}(h:p:=by simp only[Rn,TR,Ro];omega):p:=h
def z26{p:Prop}(h:p:=by simp only[sU,Bz,pj,Nat.reduceBEq,cond_true,cond_false,Option.bind_some,Option.map_some];rw[XL]):p:=h
def z27{p:Prop}(h:p:=by have:=h.1;omega):p:=h
def z28{p:Prop}(h:p:=by simp only[TR,Ro];omega):p:=h
def z29{p:Prop}(h:p:=by dsimp only<;>omega):p:=h
def z30{p:Prop}(h:p:=by rw[qm];rfl):p:=h
def z31{p:Prop}(h:p:=by have:=ax.N;omega):p:=h
def z32{p:Prop}(h:p:=by simp[execOp,ho,resolve,hc,ha,gk,invoke,builtin]):p:=h
def z33{p:Prop}(h:p:=by first | omega | (dsimp only;omega)):p:=h
def z34{p:Prop}(h:p:=by simpa using h):p:=h
def z35{p:Prop}(h:p:=by simp[execOp,ho,resolve,hc,ha,invoke,builtin]):p:=h
def z36{p:Prop}(h:p:=by injection e with e;exact e.symm):p:=h
def z37{p:Prop}(h:p:=by simpa using hl):p:=h
def z38{p:Prop}(h:p:=by first | omega | (rw[auR];omega)):p:=h
def z39{p:Prop}(h:p:=by rw[sZ];rfl):p:=h
def z40{p:Prop}(h:p:=by rw[hj];simp):p:=h
def z41{p:Prop}(h:p:=by simp[maxLen];omega):p:=h
def z42{p:Prop}(h:p:=by rw[ahB]at hx;rw[hx];exact p9):p:=h
def z43{p:Prop}(h:p:=by simp;omega):p:=h
def z44{p:Prop}(h:p:=by rw[T5];rfl):p:=h
variable{ps:Array (Nat×Value)}{listed:Array Bool}{ops:Array Oper}{C:Array Value}{c y:Code}{Q Q':Exit->Act->World->Prop}{fn:Func}{a:Int}{D:List Deferred}{E:List MapEntry}{brk l rs:List Nat}{us:List Value}{N b f fuel i j k n off q r sz:Nat}{o oi:Oper}{x xo yo:Operand}{d:Option Tmp}{lv:Option Value}{P:Program}{s:Sem Value}{kv u v:Value}{w':World}{S:World->Prop}
abbrev ϑ:=Option Nat
abbrev ϕ:=List Oper
abbrev Χ:=List Int
abbrev Τ:=List Nat
abbrev Ρ:=List UInt8
abbrev Ο:=List Χ
inductive Tok where
 | nil | full | own (t k:Nat) | av
 deriving DecidableEq
inductive MV where
 | v (x:Value)
 | s (l:Ρ)
 | p (b off:Nat)
 | dV (cells:List MV) (off:Nat)
 | l (n:Nat) (cells:List MV) (t:Tok)
 | bk (b off len cap:Nat)
 | map (b:Nat)
 | func (fn:Fn) (first captured:List MV)
 | iface (t:TypeId) (x:MV)
 | agg (cells:List MV)
 | tuple (vs:List MV)
abbrev Η:=List MV
structure Gh where
 w0:World
 cJ:Nat->Option Nat
 fm:Nat->Nat->Option Value
 tok:Nat->Option (Nat×Nat×Nat×Nat)
abbrev Gh.B(G:Gh):Nat:=G.w0.heap.size
structure Gh.Le(G H:Gh):Prop where
 w0:H.w0=G.w0
 cJ:∀{k b},G.cJ k=φ b->H.cJ k=φ b
 fm:∀{b o u},G.fm b o=φ u->H.fm b o=φ u
 tok:∀{t x},G.tok t=φ x->H.tok t=φ x
def jSx(j:Nat):((j:Int)+1)=((j+1:Nat):Int):=Λ
def Gh.Le.refl(G:Gh):G.Le G:=⟨rfl,id,id,id⟩
def Gh.Le.trans{G H K:Gh}(h:G.Le H)(k:H.Le K):G.Le K:=
 ⟨k.w0.trans h.w0,λx=>k.cJ (h.cJ x),λx=>k.fm (h.fm x),λx=>k.tok (h.tok x)⟩
structure GP where
 p:Gh->Prop
 mono:∀{G H:Gh},G.Le H->p G->p H
inductive bO where
 | cells (cs:Η)
 | map (es:List (MV×MV×Nat)) (clock:Nat)
 | tok
 | shape (k:Nat) (t:TypeId) (n:Nat)
 | obj (x:Obj)
 | fact (p:GP)
structure VH where
 N:Nat
 hp:Nat->Option bO
def bQ{α :Type}(f:Nat->Option α)(k:Nat)(x:Option α):Nat->Option α :=λj=>bif Nat.beq j k then x else f j
def aR{α :Type}(f:Nat->Option α)(k:Nat)(x:Option α):bQ f k x k=x:=by simp[bQ]
def az{α :Type}(f:Nat->Option α)(x:Option α)(h:j≠k):bQ f k x j=f j:=by
 have:j.beq k=γ:=by rw[<-Bool.not_eq_true];intro e;exact h (Nat.eq_of_beq_eq_true e)
 simp[bQ,this]
def VH.set(O:VH)(k:Nat)(x:bO):VH:={O with hp:=bQ O.hp k (φ x)}
def VH.push(O:VH)(x:bO):VH:=⟨O.N+1,bQ O.hp O.N (φ x)⟩
def VH.kill(O:VH)(k:Nat):VH:={O with hp:=bQ O.hp k Β}
def plain:Value->Bool
 | .bool _ | .int _ _ | .float _ _ | .complex _ _ _ | .pointer Β | .map Β | .chan Β | .nilFunc | .nilIface=>Α
 | _=>γ
def Tok.ok(G:Gh):Tok->(b o n c sz:Nat)->Prop
 | .nil,_,_,_,_,_=>False
 | .full,_,_,n,c,_=>c=n
 | .own t k,b,o,n,c,sz=>c=n\/∃r,G.tok t=φ (b,o+sz,k,r)/\sz=n*k/\c=n+r
 | .av,_,_,_,_,_=>True
inductive VR(G:Gh):MV->Value->Prop
 | v {x:Value}:plain x=Α->VR G (.v x) x
 | s {l:Ρ}:VR G (.s l) (.string ⟨⟨l⟩⟩)
 | p {k o b:Nat}:G.cJ k=φ b->VR G (.p k o) (.pointer (φ ⟨b,o,Β⟩))
 | dV {cells:Η} {us:List Value} {off b o:Nat}:Ζ us=(Ζ cells)->(∀(i:Nat)(u:Value),us[i]?=φ u->G.fm b (o+i)=φ u)->
   (∀(i:Nat)(c:MV)(u:Value),cells[i]?=φ c->us[i]?=φ u->VR G c u)->VR G (.dV cells off) (.pointer (φ ⟨b,o+off,Β⟩))
 | slnil:VR G (.l 0 [] .nil) (.slice Β 0 0)
 | qE {a:Addr} {c:Nat}:c<=maxLen->VR G (.l 0 [] .av) (.slice (φ a) 0 c)
 | kV:VR G (.l 0 [] .av) (.slice Β 0 0)
 | l {cells:Η} {us:List Value} {n c b o:Nat} {t:Tok}:Ζ us=(Ζ cells)->(∀(i:Nat)(u:Value),us[i]?=φ u->G.fm b (o+i)=φ u)->
   (∀(i:Nat)(c:MV)(u:Value),cells[i]?=φ c->us[i]?=φ u->VR G c u)->n<=c->c<=maxLen->t.ok G b o n c (Ζ cells)->VR G (.l n cells t) (.slice (φ ⟨b,o,Β⟩) n c)
 | bk {k o n c b:Nat}:G.cJ k=φ b->n<=c->c<=maxLen->VR G (.bk k o n c) (.slice (φ ⟨b,o,Β⟩) n c)
 | map {k b:Nat}:G.cJ k=φ b->VR G (.map k) (.map (φ b))
 | func {fn:Fn} {fs cs:Η} {us vs:List Value}:Ζ us=(Ζ fs)->(∀(i:Nat)(c:MV)(u:Value),fs[i]?=φ c->us[i]?=φ u->VR G c u)->
   (Ζ vs)=(Ζ cs)->(∀(i:Nat)(c:MV)(u:Value),cs[i]?=φ c->vs[i]?=φ u->VR G c u)->VR G (.func fn fs cs) (.func fn us.toArray vs.toArray)
 | iface {t:TypeId} {x:MV} {u:Value}:VR G x u->VR G (.iface t x) (.iface t u)
 | agg {cs:Η} {us:List Value}:Ζ us=(Ζ cs)->(∀(i:Nat)(c:MV)(u:Value),cs[i]?=φ c->us[i]?=φ u->VR G c u)->VR G (.agg cs) (.agg us.toArray)
 | tuple {cs:Η} {us:List Value}:Ζ us=(Ζ cs)->(∀(i:Nat)(c:MV)(u:Value),cs[i]?=φ c->us[i]?=φ u->VR G c u)->VR G (.tuple cs) (.tuple us.toArray)
def aX(G:Gh)(cs:Η)(us:List Value):Prop:=Ζ us=(Ζ cs)/\∀(i:Nat)(c:MV)(u:Value),cs[i]?=φ c->us[i]?=φ u->VR G c u
def VR.mono{G H:Gh}(h:G.Le H){m:MV}(r:VR G m u):VR H m u:=by
 induction r with
 | v h1=>exact .v h1
 | s=>exact .s
 | p h1=>exact .p (h.cJ h1)
 | dV h1 h2 h3 ih=>exact .dV h1 (λi u hu=>h.fm (h2 i u hu)) (λi c u h4 h5=>ih i c u h4 h5)
 | slnil=>exact .slnil
 | qE h1=>exact .qE h1
 | kV=>exact .kV
 | l h1 h2 h3 h4 h5 h6 ih=>
   refine .l h1 (λi u hu=>h.fm (h2 i u hu)) (λi c u h7 h8=>ih i c u h7 h8) h4 h5 ?_;rename_i t;cases t with
   | nil=>exact h6
   | full=>exact h6
   | own t k=>
     rcases h6 with h6 | ⟨r,h7,h8⟩;exact .inl h6;exact .inr ⟨r,h.tok h7,h8⟩
   | av=>trivial
 | bk h1 h2 h3=>exact .bk (h.cJ h1) h2 h3
 | map h1=>exact .map (h.cJ h1)
 | func h1 h2 h3 h4 ih1 ih2=>exact .func h1 (λi c u a b=>ih1 i c u a b) h3 (λi c u a b=>ih2 i c u a b)
 | iface h1 ih=>exact .iface ih
 | agg h1 h2 ih=>exact .agg h1 λi c u a b=>ih i c u a b
 | tuple h1 h2 ih=>exact .tuple h1 λi c u a b=>ih i c u a b
def aX.mono{G H:Gh}(h:G.Le H){cs:Η}(r:aX G cs us):aX H cs us:=⟨r.1,λi c u a b=>(r.2 i c u a b).mono h⟩
def aX.nil{G:Gh}:aX G [] []:=⟨rfl,λi c u h=>by simp at h⟩
def aX.cons{G:Gh}{c:MV}{cs:Η}(h:VR G c u)(k:aX G cs us):aX G (c::cs) (u::us):=
 ⟨by simp[k.1],λi c' u' a b=>by
  cases i with
  | zero=>simp only[aup,Option.some.injEq]at a b;subst a;subst b;exact h
  | succ i=>simp only[auq]at a b;exact k.2 i c' u' a b⟩
def aX.head{G:Gh}{c:MV}{cs:Η}(h:aX G (c::cs) (u::us)):VR G c u:=h.2 0 c u rfl rfl
def aX.tail{G:Gh}{c:MV}{cs:Η}(h:aX G (c::cs) (u::us)):aX G cs us:=⟨by have:=h.1;simp at this;exact this,λi c u a b=>h.2 (i+1) c u (by simpa using a) (by simpa using b)⟩
def aX.eX{G:Gh}{c:MV}{cs:Η}(h:aX G (c::cs) us):∃u us',us=u::us'/\VR G c u/\aX G cs us':=by
 cases us with
 | nil=>have:=h.1;simp at this
 | cons u us=>exact⟨u,us,rfl,h.head,h.tail⟩
def aX.jd{G:Gh}(h:aX G [] us):us=[]:=apG h.1
def aX.append{G:Gh}{cs ds:Η}{ts:List Value}(h:aX G cs us)(k:aX G ds ts):aX G (cs++ds) (us++ts):=
 ⟨by simp[h.1,k.1],λi c u a b=>by
  rw[List.getElem?_append]at a b;rw[h.1]at b;split at a;rw[if_pos ‹_›]at b;exact h.2 i c u a b;rw[if_neg ‹_›]at b;exact k.2 _ c u a b⟩
def aX.drop{G:Gh}{cs:Η}(h:aX G cs us)(n:Nat):aX G (cs.drop n) (us.drop n):=
 ⟨by simp[h.1],λi c u a b=>by rw[ai_]at a b;exact h.2 _ c u a b⟩
def aX.take{G:Gh}{cs:Η}(h:aX G cs us)(n:Nat):aX G (cs.take n) (us.take n):=
 ⟨by simp[h.1],λi c u a b=>by
  rw[aev]at a b;split at a;rw[if_pos ‹_›]at b;exact h.2 i c u a b;cases a⟩
def aX.get{G:Gh}{cs:Η}(h:aX G cs us){c:MV}(hc:cs[i]?=φ c):∃u,us[i]?=φ u/\VR G c u:=by
 have hl:i<Ζ us:=by rw[h.1];exact(ai8.1 hc).1
 exact⟨us[i],ai9 hl,h.2 i c _ hc (ai9 hl)⟩
def aX.set{G:Gh}{cs:Η}(h:aX G cs us){c:MV}(hc:VR G c u):aX G (cs.set i c) (us.set i u):=
 ⟨by simp[h.1],λj c' u' a b=>by
  rw[List.getElem?_set]at a b;rw[h.1]at b;split at a;rw[if_pos ‹_›]at b;split at a;rw[if_pos ‹_›]at b;injection a with a;injection b with b;subst a;subst b;exact hc;cases a;rw[if_neg ‹_›]at b;exact h.2 j c' u' a b⟩
structure Fz(C:Array Value) where
 t:TypeId
 fr:Nat×Nat
 ok:fr.1=fr.2\/C.size<=fr.1
def Wq:Τ:=[0]
def Rp(w:World):Prop:=∀g∈Wq,∃m,w.cell? ⟨g,0,Β⟩=φ (.int .i64 m)
structure WR(G:Gh)(O:VH)(w:World):Prop where
 base:Below G.B G.w0 w
 fm:∀b o u,G.fm b o=φ u->w.cell? ⟨b,o,Β⟩=φ u
 sJ:∀k,O.N<=k->G.cJ k=Β/\G.tok k=Β/\O.hp k=Β
 lx:∀k b,G.cJ k=φ b->G.B<=b/\b<w.heap.size/\(O.hp k≠Β->∀o,G.fm b o=Β)
 inj:∀j k b,O.hp j≠Β->O.hp k≠Β->G.cJ j=φ b->G.cJ k=φ b->j=k
 cells:∀k cs,O.hp k=φ (.cells cs)->∃b,∃C:Array Value,∃T:Fz C,G.cJ k=φ b/\w.heap[b]?=φ (.cells C T.t T.fr)/\aX G cs (C.toList.take (Ζ cs))
 map:∀k es ck,O.hp k=φ (.map es ck)->∃b E,G.cJ k=φ b/\w.heap[b]?=φ (.map E ck)/\E.toList.map (·.born)=es.map (·.2.2)/\aX G (es.map (·.1)) (E.toList.map (·.key))/\aX G (es.map (·.2.1)) (E.toList.map (·.val))
 tok:∀t,O.hp t=φ .tok->∃b f k r C T,G.tok t=φ (b,f,k,r)/\G.B<=b/\w.heap[b]?=φ (.cells C T (0,0))/\f+r*k<=C.size/\(∀o,f<=o->G.fm b o=Β)/\∀j,G.cJ j≠φ b
 mX:∀s t b x y,O.hp s=φ .tok->O.hp t=φ .tok->G.tok s=φ (b,x)->G.tok t=φ (b,y)->s=t
 n4:∀j k t n,O.hp j=φ (.shape k t n)->∃b,G.cJ k=φ b/\w.shape? b=φ (t,n)
 obj:∀k x,O.hp k=φ (.obj x)->∃b,G.cJ k=φ b/\w.heap[b]?=φ x
 tX:Rp G.w0
 HD:∀k p,O.hp k=φ (.fact p)->p.p G
section
variable{G:Gh}{O:VH}{w:World}
def WR.aew(h:WR G O w){o:Nat}(hc:G.fm b o=φ u):b<w.heap.size:=World.block_lt_of_cell? w _ (h.fm b o u hc)
def WR.pd(h:WR G O w):G.cJ O.N=Β/\G.tok O.N=Β/\O.hp O.N=Β:=h.sJ _ (alp _)
def WR.qF{G':Gh}{O':VH}(h:WR G O w)(hl:∀{k b},G.cJ k=φ b->G'.cJ k=φ b)(hO:∀j k t n,O'.hp j=φ (.shape k t n)->O.hp j=φ (.shape k t n))(hw:∀k b s,G.cJ k=φ b->w.shape? b=φ s->w'.shape? b=φ s):
  ∀j k t n,O'.hp j=φ (.shape k t n)->∃b,G'.cJ k=φ b/\w'.shape? b=φ (t,n):=λj k t n hj=>by
 obtain⟨b,h1,h2⟩:=h.n4 j k t n (hO j k t n hj);exact⟨b,hl h1,hw k b _ h1 h2⟩
def ni{f:Nat->Option bO}{X:bO}(hX:∀k t n,X≠ .shape k t n)(j k t n:Nat)(h:bQ f q (φ X) j=φ (.shape k t n)):f j=φ (.shape k t n):=by
 by_cases e:j=q;subst e;rw[aR]at h;injection h with h;exact absurd h (hX _ _ _)
 ·rwa [az _ _ e]at h
def WR.tY{G':Gh}{O':VH}(h:WR G O w)(hl:∀{k b},G.cJ k=φ b->G'.cJ k=φ b)(hO:∀k x,O'.hp k=φ (.obj x)->O.hp k=φ (.obj x))(hw:∀k x b,O.hp k=φ (.obj x)->G.cJ k=φ b->w.heap[b]?=φ x->w'.heap[b]?=φ x):
  ∀k x,O'.hp k=φ (.obj x)->∃b,G'.cJ k=φ b/\w'.heap[b]?=φ x:=λk x hk=>by
 obtain⟨b,h1,h2⟩:=h.obj k x (hO k x hk);exact⟨b,hl h1,hw k x b (hO k x hk) h1 h2⟩
def xB{f:Nat->Option bO}{X:bO}(hX:∀x,X≠ .obj x)(j:Nat)(x:Obj)(h:bQ f q (φ X) j=φ (.obj x)):f j=φ (.obj x):=by
 by_cases e:j=q;subst e;rw[aR]at h;injection h with h;exact absurd h (hX _)
 ·rwa [az _ _ e]at h
def WR.tZ{G':Gh}{O':VH}(h:WR G O w)(hl:G.Le G')(hO:∀k p,O'.hp k=φ (.fact p)->O.hp k=φ (.fact p)):∀k p,O'.hp k=φ (.fact p)->p.p G':=λk p hk=>p.mono hl (h.HD k p (hO k p hk))
def ny{f:Nat->Option bO}{X:bO}(hX:∀x,X≠ .fact x)(j:Nat)(x:GP)(h:bQ f q (φ X) j=φ (.fact x)):f j=φ (.fact x):=by
 by_cases e:j=q;subst e;rw[aR]at h;injection h with h;exact absurd h (hX _)
 ·rwa [az _ _ e]at h
def je{w:World}{s:TypeId×Nat}(hh:∀x,w.heap[b]?=φ x->w'.heap[b]?=φ x)(h:w.shape? b=φ s):w'.shape? b=φ s:=by
 unfold World.shape? at h ⊢;generalize hx:w.heap[b]?=x at h;cases x with
 | none=>cases h
 | some x=>rw[hh x hx];exact h
def WR.drew(h:WR G O w):WR G O w.drew:=⟨h.base.drew,h.fm,h.sJ,h.lx,h.inj,h.cells,h.map,h.tok,h.mX,h.n4,h.obj,h.tX,h.HD⟩
def WR.drawn(h:WR G O w)(n:Nat):WR G O {w with drawn:=n}:=
 ⟨⟨h.base.os,h.base.tape,h.base.output,h.base.size,h.base.block⟩,h.fm,h.sJ,h.lx,h.inj,h.cells,h.map,h.tok,h.mX,h.n4,h.obj,h.tX,h.HD⟩
def WR.bsz(h:WR G O w):G.B<=w.heap.size:=h.base.size
def WR.apL(h:WR G O w){g:Nat}(hg:g∈Wq):∃m,w.cell? ⟨g,0,Β⟩=φ (.int .i64 m):=by
 obtain⟨m,hm⟩:=h.tX g hg;refine⟨m,?_⟩;have hb:=h.base.block g (World.block_lt_of_cell? _ _ hm);unfold World.cell? at hm ⊢;rw[hb];exact hm
def Gh.Le.OQ(h:G.cJ k=Β)(b:Nat):G.Le {G with cJ:=bQ G.cJ k (φ b)}:=
 ⟨rfl,λ{j b'} hj=>by
  show bQ G.cJ k (φ b) j=φ b';rw[az _ _ (λe=>by subst e;rw[h]at hj;cases hj)];exact hj,id,id⟩
def fZ(w:World)(o:Obj)(b:Nat):(w.alloc o).heap[b]?=if b=w.heap.size then φ o else w.heap[b]?:=by
 show(w.heap.push o)[b]?=_;rw[Array.getElem?_push]
def eg(w:World)(o:Obj){x:Obj}(h:w.heap[b]?=φ x):(w.alloc o).heap[b]?=φ x:=by
 rw[fZ,if_neg (λe=>by subst e;rw[an4 (alp _)]at h;cases h)];exact h
def sR{w:World}{x:Obj}(h:w.heap[b]?=φ x):b<w.heap.size:=(Array.getElem?_eq_some_iff.1 h).1
def D6(w:World)(o:Obj){a:Addr}(h:w.cell? a=φ u):(w.alloc o).cell? a=φ u:=by
 rw[World.cell?_alloc_lt w o a (World.block_lt_of_cell? w a h)];exact h
def WR.grow(h:WR G O w)(o:Obj):WR G O (w.alloc o) where
 base:=h.base.alloc h.bsz o
 fm b p u hc:=D6 w o (h.fm b p u hc)
 sJ:=h.sJ
 lx k b hk:=by
  obtain⟨h1,h2,h3⟩:=h.lx k b hk;exact⟨h1,by simp;omega,h3⟩
 inj:=h.inj
 cells k cs hk:=by
  obtain⟨b,C,T,h1,h2,h3⟩:=h.cells k cs hk;exact⟨b,C,T,h1,eg w o h2,h3⟩
 map k es ck hk:=by
  obtain⟨b,E,h1,h2,h3⟩:=h.map k es ck hk;exact⟨b,E,h1,eg w o h2,h3⟩
 tok t ht:=by
  obtain⟨b,f,k,r,C,T,h1,h2,h3,h4⟩:=h.tok t ht;exact⟨b,f,k,r,C,T,h1,h2,eg w o h3,h4⟩
 mX:=h.mX
 n4:=h.qF id (λ_ _ _ _ h=>h) λ_ _ _ _=>je λ_=>eg w o
 obj:=h.tY id (λ_ _ h=>h) λ_ _ _ _ _=>eg w o
 tX:=h.tX
 HD:=h.HD
def WR.aex(h:WR G O w){cs:Η}(T:Fz C)(hc:aX G cs (C.toList.take (Ζ cs))):
  G.Le {G with cJ:=bQ G.cJ O.N (φ w.heap.size)}/\WR {G with cJ:=bQ G.cJ O.N (φ w.heap.size)} (O.push (.cells cs)) (w.alloc (.cells C T.t T.fr)):=by
 have hle:=Gh.Le.OQ h.pd.1 w.heap.size;have hg:=h.grow (.cells C T.t T.fr)
 have fK:∀k b,bQ G.cJ O.N (φ w.heap.size) k=φ b->(k=O.N/\b=w.heap.size)\/(k≠O.N/\G.cJ k=φ b):=λk b hk=>by
  by_cases e:k=O.N;subst e;rw[aR]at hk;injection hk with hk;exact .inl ⟨rfl,hk.symm⟩;rw[az _ _ e]at hk;exact .inr ⟨e,hk⟩
 have Wr:∀o,G.fm w.heap.size o=Β:=λo=>by
  cases hh:G.fm w.heap.size o with
  | none=>rfl
  | some u=>have:=h.aew hh;omega
 refine⟨hle,hg.base,hg.fm,λk hk=>?_,λk b hk=>?_,λj k b lj lk hj hk=>?_,λk ds hk=>?_,λk es ck hk=>?_,λt ht=>?_,λs t b x y hs ht h1 h2=>?_,h.qF hle.cJ (ni z10) λ_ _ _ _=>je λ_=>eg w _,h.tY hle.cJ (xB z10) λ_ _ _ _ _=>eg w _,h.tX,h.tZ hle (ny z10)⟩;have hk:O.N+1<=k:=hk;obtain⟨h1,h2,h3⟩:=h.sJ k Λ;exact⟨by show bQ _ _ _ _=_;rw[az _ _ Λ];exact h1,h2,by show bQ _ _ _ _=_;rw[az _ _ Λ];exact h3⟩;rcases fK k b hk with⟨_,rfl⟩ | ⟨du,hk⟩;exact⟨h.bsz,z10,λ_=>Wr⟩;obtain⟨p1,p2,p3⟩:=hg.lx k b hk;exact⟨p1,p2,λhne=>p3 (by have hne:bQ O.hp O.N (φ (.cells cs)) k≠Β:=hne;rwa [az _ _ du]at hne)⟩;rcases fK j b hj with⟨rfl,rfl⟩ | ⟨ew,hj⟩<;>rcases fK k _ hk with⟨rfl,hb⟩ | ⟨du,hk⟩;rfl;have:=(h.lx _ _ hk).2.1;omega;subst hb;have:=(h.lx _ _ hj).2.1;omega;exact h.inj j k b (by have lj:bQ O.hp O.N (φ (.cells cs)) j≠Β:=lj;rwa [az _ _ ew]at lj) (by have lk:bQ O.hp O.N (φ (.cells cs)) k≠Β:=lk;rwa [az _ _ du]at lk) hj hk;have hk:bQ O.hp O.N (φ (.cells cs)) k=φ (.cells ds):=hk;by_cases e:k=O.N;subst e;rw[aR]at hk;injection hk with hk;injection hk with hk;subst hk;refine⟨w.heap.size,C,T,aR _ _ _,by rw[fZ,if_pos rfl],?_⟩;exact hc.mono hle;rw[az _ _ e]at hk;obtain⟨b,D,T',h1,h2,h3⟩:=hg.cells k ds hk;exact⟨b,D,T',hle.cJ h1,h2,h3.mono hle⟩;have hk:bQ O.hp O.N (φ (.cells cs)) k=φ (.map es ck):=hk;by_cases e:k=O.N;subst e;rw[aR]at hk;cases hk;rw[az _ _ e]at hk;obtain⟨b,E,h1,h2,h3,h4,h5⟩:=hg.map k es ck hk;exact⟨b,E,hle.cJ h1,h2,h3,h4.mono hle,h5.mono hle⟩;have ht:bQ O.hp O.N (φ (.cells cs)) t=φ .tok:=ht;by_cases e:t=O.N;subst e;rw[aR]at ht;cases ht;rw[az _ _ e]at ht;obtain⟨b,f,k,r,D,T',h1,h2,h3,h4,h6,h7⟩:=hg.tok t ht;obtain⟨_,_,_,_,_,_,h1',_,oU,_⟩:=h.tok t ht;refine⟨b,f,k,r,D,T',h1,h2,h3,h4,h6,λj hj=>?_⟩;rcases fK j b hj with⟨_,rfl⟩ | ⟨_,hj⟩;rw[h1]at h1';injection h1' with e1;injection e1 with e1 _;subst e1;have:=sR oU;omega;exact h7 j hj;have hs:bQ O.hp O.N (φ (.cells cs)) s=φ .tok:=hs;have ht:bQ O.hp O.N (φ (.cells cs)) t=φ .tok:=ht;((have es:s≠O.N:=λe=>by subst e;rw[aR]at hs;cases hs);have et:t≠O.N:=λe=>by subst e;rw[aR]at ht;cases ht);rw[az _ _ es]at hs;rw[az _ _ et]at ht;exact h.mX s t b x y hs ht h1 h2
def WR.push(h:WR G O w){cs:Η}(T:TypeId)(hc:aX G cs C.toList):
  G.Le {G with cJ:=bQ G.cJ O.N (φ w.heap.size)}/\WR {G with cJ:=bQ G.cJ O.N (φ w.heap.size)} (O.push (.cells cs)) (w.alloc (.cells C T)):=
 h.aex ⟨T,(0,0),.inl rfl⟩ (by rw[List.take_of_length_le (by rw[hc.1];exact alp _)];exact hc)
def WR.forget(h:WR G O w){O':VH}(hn:O.N<=O'.N)(hh:∀k,O'.hp k=Β\/O'.hp k=O.hp k):WR G O' w where
 base:=h.base
 fm:=h.fm
 sJ k hk:=by
  obtain⟨h1,h2,h3⟩:=h.sJ k Λ;exact⟨h1,h2,by rcases hh k with e | e<;>rw[e];exact h3⟩
 lx k b hk:=by
  obtain⟨p1,p2,p3⟩:=h.lx k b hk
  exact⟨p1,p2,λhne=>p3 (by rcases hh k with e | e; · exact absurd e hne
                           ·rwa [e]at hne)⟩
 inj j k b lj lk:=h.inj j k b (λe=>(hh j).elim lj (λe'=>lj (e'.trans e))) (λe=>(hh k).elim lk (λe'=>lk (e'.trans e)))
 cells k cs hk:=h.cells k cs (by rcases hh k with e | e<;>rw[e]at hk; · cases hk
                                 ·exact hk)
 map k es ck hk:=h.map k es ck (by rcases hh k with e | e<;>rw[e]at hk; · cases hk
                                   ·exact hk)
 tok t ht:=h.tok t (by rcases hh t with e | e<;>rw[e]at ht; · cases ht
                       ·exact ht)
 mX s t b x y hs ht h1 h2:=h.mX s t b x y (by rcases hh s with e | e<;>rw[e]at hs; · cases hs
                                              ·exact hs) (by rcases hh t with e | e<;>rw[e]at ht; · cases ht
                                                             ·exact ht) h1 h2
 n4:=h.qF id (λj k t n hj=>by rcases hh j with e | e<;>rw[e]at hj; · cases hj
                              ·exact hj) λ_ _ _ _ h=>h
 obj:=h.tY id (λj x hj=>by rcases hh j with e | e<;>rw[e]at hj; · cases hj
                           ·exact hj) λ_ _ _ _ _ h=>h
 tX:=h.tX
 HD:=h.tZ (Gh.Le.refl _) λj x hj=>by
  rcases hh j with e | e;rw[e]at hj;cases hj;rw[e]at hj;exact hj
def WR.kill(h:WR G O w)(k:Nat):WR G (O.kill k) w:=h.forget (alp _) λj=>by
 show bQ _ _ _ j=Β\/bQ _ _ _ j=_;by_cases e:j=k;subst e;exact .inl (aR _ _ _);exact .inr (az _ _ e)
def Cp(G:Gh)(b:Nat)(f:Nat->Option Value):Gh:={G with fm:=λb' o=>if b'=b then f o else G.fm b' o}
def Ws{f:Nat->Option Value}(h:∀o u,G.fm b o=φ u->f o=φ u):G.Le (Cp G b f):=
 ⟨rfl,id,λ{b' o u} hc=>by
  show(if b'=b then f o else G.fm b' o)=φ u;split;subst b';exact h o u hc;exact hc,id⟩
def WR.Hd(h:WR G O w){f:Nat->Option Value}(hold:∀o u,G.fm b o=φ u->f o=φ u)(gK:∀o u,f o=φ u->w.cell? ⟨b,o,Β⟩=φ u)
  (fK:∀k,O.hp k≠Β->G.cJ k≠φ b) (xC:∀t c x,O.hp t=φ .tok->G.tok t=φ (c,x)->c=b->∀o,x.1<=o->f o=Β):G.Le (Cp G b f)/\WR (Cp G b f) O w:=by
 have hle:=Ws (G:=G) hold;refine⟨hle,h.base,λb' o u hc=>?_,h.sJ,λk c hk=>?_,h.inj,λk cs hk=>?_,λk es ck hk=>?_,λt ht=>?_,h.mX,h.qF hle.cJ (λ_ _ _ _ h=>h) λ_ _ _ _ h=>h,h.tY hle.cJ (λ_ _ h=>h) λ_ _ _ _ _ h=>h,h.tX,h.tZ hle λ_ _ h=>h⟩;have fz:(if b'=b then f o else G.fm b' o)=φ u:=hc;split at fz;subst b';exact gK o u fz;exact h.fm b' o u fz;obtain⟨h1,h2,h3⟩:=h.lx k c hk;refine⟨h1,h2,λhne o=>?_⟩;show(if c=b then f o else G.fm c o)=Β;rw[if_neg (λe=>fK k hne (by rw[<-e];exact hk))];exact h3 hne o;obtain⟨c,C,T,h1,h2,h3⟩:=h.cells k cs hk;exact⟨c,C,T,h1,h2,h3.mono hle⟩;obtain⟨c,E,h1,h2,h3,h4,h5⟩:=h.map k es ck hk;exact⟨c,E,h1,h2,h3,h4.mono hle,h5.mono hle⟩;obtain⟨c,g,k,r,C,T,h1,h2,h3,h4,h6,h7⟩:=h.tok t ht;refine⟨c,g,k,r,C,T,h1,h2,h3,h4,λo ho=>?_,h7⟩;show(if c=b then f o else G.fm c o)=Β;split;exact xC t c _ ht h1 ‹_› o ho;exact h6 o ho
def LW(w:World)(C:Array Value)(T:TypeId)(fr:Nat×Nat)(o:Nat):(w.alloc (.cells C T fr)).cell? ⟨w.heap.size,o,Β⟩=C[o]?:=by
 have:(w.alloc (.cells C T fr)).heap[w.heap.size]?=φ (.cells C T fr):=by rw[fZ,if_pos rfl]
 simp only[World.cell?,this,an6,ahB,if_false]
def WR.vz(h:WR G O w)(k:Nat):G.cJ k≠φ w.heap.size:=λe=>by have:=(h.lx k _ e).2.1;omega
def WR.zy(h:WR G O w)(o:Nat):G.fm w.heap.size o=Β:=by
 cases hh:G.fm w.heap.size o with
 | none=>rfl
 | some u=>have:=h.aew hh;omega
def WR.rr(h:WR G O w){t c:Nat}{x:Nat×Nat×Nat}(ht:O.hp t=φ .tok)(hc:G.tok t=φ (c,x)):c≠w.heap.size:=λe=>by
 obtain⟨b,_,_,_,_,_,h1,_,h3,_⟩:=h.tok t ht;rw[hc]at h1;injection h1 with h1;injection h1 with h1 _;have:=sR h3;omega
def WR.lit(h:WR G O w)(C:Array Value)(T:TypeId):G.Le (Cp G w.heap.size λo=>C[o]?)/\WR (Cp G w.heap.size λo=>C[o]?) O (w.alloc (.cells C T)):=
 (h.grow (.cells C T)).Hd (λo u hc=>by rw[h.zy]at hc;cases hc) (λo u hf=>by rw[LW];exact hf) (λk _=>h.vz k)
  λt c x ht hc e=>absurd e (h.rr ht hc)
def WR.Z1(h:WR G O w){T:TypeId}(hB:G.B<=b)(hb:w.heap[b]?=φ (.cells C T (0,0)))(hf:f+r*k<=C.size)
  (Rr:∀o,f<=o->G.fm b o=Β) (fK:∀j,G.cJ j≠φ b) (xC:∀t c x,O.hp t=φ .tok->G.tok t=φ (c,x)->c≠b):
  G.Le {G with tok:=bQ G.tok O.N (φ (b,f,k,r))}/\WR {G with tok:=bQ G.tok O.N (φ (b,f,k,r))} (O.push .tok) w:=by
 have hle:G.Le {G with tok:=bQ G.tok O.N (φ (b,f,k,r))}:=⟨rfl,id,id,λ{t x} ht=>by
  show bQ G.tok O.N _ t=φ x;rw[az _ _ (λe=>by subst e;rw[h.pd.2.1]at ht;cases ht)];exact ht⟩
 have w9:∀j x,bQ O.hp O.N (φ bO.tok) j=φ x->(j=O.N/\x= .tok)\/(j≠O.N/\O.hp j=φ x):=λj x hj=>by
  by_cases e:j=O.N;subst e;rw[aR]at hj;injection hj with hj;exact .inl ⟨rfl,hj.symm⟩;rw[az _ _ e]at hj;exact .inr ⟨e,hj⟩
 refine⟨hle,h.base,h.fm,λj hj=>?_,λj c hj=>?_,λj k' c lj lk hj hk=>?_,λj cs hj=>?_,λj es ck hj=>?_,λt ht=>?_,λs t c x y hs ht h1 h2=>?_,h.qF hle.cJ (ni z10) λ_ _ _ _ h=>h,h.tY hle.cJ (xB z10) λ_ _ _ _ _ h=>h,h.tX,h.tZ hle (ny z10)⟩;have hj:O.N+1<=j:=hj;obtain⟨h1,h2,h3⟩:=h.sJ j Λ;exact⟨h1,by show bQ _ _ _ _=_;rw[az _ _ Λ];exact h2,by show bQ _ _ _ _=_;rw[az _ _ Λ];exact h3⟩
 ·obtain⟨p1,p2,p3⟩:=h.lx j c hj;refine⟨p1,p2,λhne=>p3 ?_⟩;have hne:bQ O.hp O.N (φ bO.tok) j≠Β:=hne
  rwa [az _ _ (λe=>by subst e;have hj:G.cJ O.N=φ c:=hj;rw[h.pd.1]at hj;cases hj)]at hne
 ·have hl:∀m,G.cJ m=φ c->bQ O.hp O.N (φ bO.tok) m≠Β->O.hp m≠Β:=λm hm hn=>by
   rwa [az _ _ (λe=>by subst e;rw[h.pd.1]at hm;cases hm)]at hn
  exact h.inj j k' c (hl j hj lj) (hl k' hk lk) hj hk
 ·rcases w9 j _ hj with⟨_,e⟩ | ⟨_,hj⟩;cases e;obtain⟨c,D,T',h1,h2,h3⟩:=h.cells j cs hj;exact⟨c,D,T',h1,h2,h3.mono hle⟩
 ·rcases w9 j _ hj with⟨_,e⟩ | ⟨_,hj⟩;cases e;obtain⟨c,E,h1,h2,h3,h4,h5⟩:=h.map j es ck hj;exact⟨c,E,h1,h2,h3,h4.mono hle,h5.mono hle⟩
 ·rcases w9 t _ ht with⟨rfl,_⟩ | ⟨e,ht⟩;exact⟨b,f,k,r,C,T,aR _ _ _,hB,hb,hf,Rr,fK⟩;obtain⟨c,g,k',r',D,T',h1,h2⟩:=h.tok t ht;exact⟨c,g,k',r',D,T',by show bQ _ _ _ _=_;rw[az _ _ e];exact h1,h2⟩
 ·have h1:bQ G.tok O.N (φ (b,f,k,r)) s=φ (c,x):=h1;have h2:bQ G.tok O.N (φ (b,f,k,r)) t=φ (c,y):=h2;rcases w9 s _ hs with⟨rfl,_⟩ | ⟨es,hs⟩<;>rcases w9 t _ ht with⟨rfl,_⟩ | ⟨et,ht⟩;rfl;rw[aR]at h1;rw[az _ _ et]at h2;injection h1 with h1;injection h1 with h1 _;subst h1;exact absurd rfl (xC t _ _ ht h2);rw[aR]at h2;rw[az _ _ es]at h1;injection h2 with h2;injection h2 with h2 _;subst h2;exact absurd rfl (xC s _ _ hs h1);rw[az _ _ es]at h1;rw[az _ _ et]at h2;exact h.mX s t c x y hs ht h1 h2
def WR.store(h:WR G O w){cs:Η}{c:MV}(hk:O.hp k=φ (.cells cs))(hp:G.cJ k=φ b)(hi:i<Ζ cs)(hc:VR G c u):
  WR G (O.set k (.cells (cs.set i c))) (w.setCell ⟨b,i,Β⟩ u):=by
 obtain⟨b',C,T,h1,h2,h3⟩:=h.cells k cs hk;rw[hp]at h1;injection h1 with h1;subst h1;have hne:∀j b',j≠k->O.hp j≠Β->G.cJ j=φ b'->b'≠b:=λj b' hj lj rU e=>hj (h.inj j k b lj z22 (e▸rU) hp)
 have mF:∀j,bQ O.hp k (φ (.cells (cs.set i c))) j≠Β->O.hp j≠Β:=λj hn=>by
  by_cases e:j=k;subst e;rw[hk];simp
  ·rwa [az _ _ e]at hn
 have ki:(w.setCell ⟨b,i,Β⟩ u).heap[b]?=φ (.cells (C.setIfInBounds i u) T.t T.fr):=by
  simp[World.setCell,Array.getElem?_modify,h2]
 have fj:∀j,j≠b->(w.setCell ⟨b,i,Β⟩ u).heap[j]?=w.heap[j]?:=λj hj=>Below.heap_setCell _ _ _ _ (by simpa using hj)
 refine⟨h.base.setCell (h.lx k b hp).1 u,λb' o u' pf=>?_,λj hj=>?_,λj b' hj=>?_,λj k' b' lj lk=>h.inj j k' b' (mF j lj) (mF k' lk),λj ds hj=>?_,λj es ck hj=>?_,λt ht=>?_,λs t b' x y hs ht=>?_,h.qF id (ni z10) λj b' s _ hs=>?_,h.tY id (xB z10) λj x b' hj hb hx=>by rw[fj _ (hne j b' (λe=>by subst e;rw[hk]at hj;cases hj) z40 hb)];exact hx,h.tX,h.tZ (Gh.Le.refl _) (ny z10)⟩
 ·(have xD:b'≠b:=λe=>by subst e;rw[(h.lx k b' hp).2.2 z22 o]at pf;cases pf);rw[World.cell?_setCell_other _ _ _ _ (λe=>xD z36)];exact h.fm b' o u' pf
 ·obtain⟨d1,d2,d3⟩:=h.sJ j hj;refine⟨d1,d2,?_⟩;show bQ _ _ _ _=_;rw[az _ _ (λe=>by subst e;rw[d3]at hk;cases hk)];exact d3
 ·obtain⟨p1,p2,p3⟩:=h.lx j b' hj;refine⟨p1,by simp[World.setCell];exact p2,λhne=>p3 ?_⟩;have hne:bQ O.hp k (φ (.cells (cs.set i c))) j≠Β:=hne;by_cases e:j=k;subst e;rw[hk];simp
  ·rwa [az _ _ e]at hne
 ·have hj:bQ O.hp k (φ (.cells (cs.set i c))) j=φ (.cells ds):=hj;by_cases e:j=k;subst e;rw[aR]at hj;injection hj with hj;injection hj with hj;subst hj;refine⟨b,_,⟨T.t,T.fr,by simpa using T.ok⟩,hp,ki,?_⟩;have:=h3.set (i:=i) hc;rw[aui,List.length_set,List.take_set];exact this;rw[az _ _ e]at hj;obtain⟨b',D,T',d1,d2,d3⟩:=h.cells j ds hj;exact⟨b',D,T',d1,by rw[fj _ (hne j b' e z40 d1)];exact d2,d3⟩
 ·have hj:bQ O.hp k (φ (.cells (cs.set i c))) j=φ (.map es ck):=hj;by_cases e:j=k;subst e;rw[aR]at hj;cases hj;rw[az _ _ e]at hj;obtain⟨b',E,d1,d2,d3⟩:=h.map j es ck hj;exact⟨b',E,d1,by rw[fj _ (hne j b' e z40 d1)];exact d2,d3⟩
 ·have ht:bQ O.hp k (φ (.cells (cs.set i c))) t=φ .tok:=ht;(have e:t≠k:=λe=>by subst e;rw[aR]at ht;cases ht);rw[az _ _ e]at ht;obtain⟨b',f,k',r,D,T',d1,d2,d3,d4,d6,d7⟩:=h.tok t ht;exact⟨b',f,k',r,D,T',d1,d2,by rw[fj _ (λe=>d7 k (by rw[e];exact hp))];exact d3,d4,d6,d7⟩
 ·have hs:bQ O.hp k (φ (.cells (cs.set i c))) s=φ .tok:=hs;have ht:bQ O.hp k (φ (.cells (cs.set i c))) t=φ .tok:=ht;((have e:t≠k:=λe=>by subst e;rw[aR]at ht;cases ht);have e':s≠k:=λe=>by subst e;rw[aR]at hs;cases hs);rw[az _ _ e]at ht;rw[az _ _ e']at hs;exact h.mX s t b' x y hs ht
 ·by_cases e:b'=b;subst e;simp only[World.shape?,h2]at hs;simp only[World.shape?,ki,Array.size_setIfInBounds];exact hs;exact je (λx hx=>by rw[fj _ e];exact hx) hs
def WR.freeze(h:WR G O w){o c:Nat}{cs:Η}(hk:O.hp k=φ (.cells cs))(hx:VR G (.bk k o n c) u)(hl:o+sz<=Ζ cs):
  ∃H,G.Le H/\WR H (O.kill k) w/\VR H (.l n ((cs.drop o).take sz) (if c=n then .full else .av)) u:=by
 cases hx with
 | bk hp hn hm=>
   rename_i b;obtain⟨b',C,T,h1,h2,h3⟩:=h.cells k cs hk;rw[hp]at h1;injection h1 with h1;subst h1;have apM:=(h.lx k b hp).2.2 z22
   obtain⟨hle,hW⟩:=(h.kill k).Hd (b:=b) (f:=λo=>C[o]?) (λo u hc=>by rw[apM o]at hc;cases hc)
    (λo u hf=>by simp only[World.cell?,h2,an6,ahB,if_false];exact hf)
    (λj hj hjb=>by
     have lj:O.hp j≠Β:=λe=>by
      by_cases e2:j=k;subst e2;exact hj (aR _ _ _);exact hj ((az _ _ e2).trans e)
     have:j=k:=h.inj j k b lj z22 hjb hp;subst this;exact hj (aR _ _ _))
    (λt c' x ht pf e=>by
     subst e
     have ht':O.hp t=φ .tok:=by
      have ht:bQ O.hp k Β t=φ .tok:=ht;by_cases e:t=k;subst e;rw[aR]at ht;cases ht
      ·rwa [az _ _ e]at ht
     obtain⟨_,_,_,_,_,_,d1,_,_,_,_,d7⟩:=h.tok t ht';rw[pf]at d1;injection d1 with d1;injection d1 with d1 _;subst d1;exact absurd hp (d7 k))
   refine⟨_,hle,hW,?_⟩;have h4:aX G ((cs.drop o).take sz) (((C.toList.take (Ζ cs)).drop o).take sz):=(h3.drop o).take sz
   have h5:((C.toList.take (Ζ cs)).drop o).take sz=(C.toList.drop o).take sz:=by
    rw[List.drop_take,List.take_take,Nat.min_eq_left Λ]
   rw[h5]at h4;refine .l h4.1 (λi u hu=>?_) (λi c u a b=>(h4.2 i c u a b).mono hle) hn hm ?_;show(if b=b then C[o+i]? else _)=φ u;rw[if_pos rfl];rw[aev]at hu;split at hu;rw[ai_]at hu;simpa using hu;cases hu;split;rename_i e;exact e;trivial
end
structure cg where
 under:TypeDesc
 size:Nat
 bytes:Nat
 zero:Η
def fA:TypeDesc->Bool
 | .struct _ | .array _ _=>Α
 | _=>γ
structure AH(P:Program)(t:TypeId)(i:cg):Prop where
 under:P.underlying t=φ i.under
 info:∃ti z,P.info? t=φ ti/\ti.size=i.size/\ti.bytes=i.bytes/\ti.zero=φ z/\z.cells.size=i.size/\∀G,aX G i.zero z.cells.toList
 whole:∀ti z,P.info? t=φ ti->ti.zero=φ z->(fA i.under=Α->∃cs,z= .agg cs)/\(fA i.under=γ->z.cells= #[z])
abbrev cB:=TypeId->Option cg
def aN(P:Program)(tab:cB):Prop:=∀t i,tab t=φ i->AH P t i
def ofConst:Value->Option MV
 | .string s=>φ (.s s.data.toList)
 | .slice Β 0 0=>φ (.l 0 [] .nil)
 | x=>if plain x then φ (.v x)else Β
def Fs{G:Gh}{x:Value}{m:MV}(h:ofConst x=φ m):VR G m x:=by
 unfold ofConst at h;split at h;injection h with h;subst h;rename_i s;obtain⟨⟨l⟩⟩:=s;exact .s;injection h with h;subst h;exact .slnil;split at h;injection h with h;subst h;exact .v ‹_›;cases h
abbrev Env:=List (Nat×MV)
def look:Env->Nat->Option MV
 | [],_=>Β
 | (k,x)::r,t=>bif t==k then φ x else look r t
def ev(e:Env):Operand->Option MV
 | .tmp t=>look e t
 | .const v=>ofConst v
 | .global _=>Β
 | .func f=>φ (.func (.func f) [] [])
structure Sz where
 n:Nat
 lo:Nat
def jM(n:Sz):Env->Env
 | []=>[]
 | (t,m)::e=>bif decide (t<n.lo)then(t,m)::jM n e else jM n e
def Bn{n:Sz}:∀{e:Env} {t:Nat},look (jM n e) t=if t<n.lo then look e t else Β
 | [],t=>by simp[jM,look]
 | (k,m)::e,t=>by
   have ih:=Bn (n:=n) (e:=e) (t:=t);simp only[jM];by_cases hk:k<n.lo
   ·simp only[hk,decide_true,cond_true,look,ih];by_cases ht:t=k;subst ht;simp[hk]
    ·have:(t==k)=γ:=by simpa using ht
     simp[this]
   ·simp only[hk,decide_false,cond_false,look,ih];by_cases ht:t<n.lo
    ·(have:(t==k)=γ:=by simp;omega);simp[this]
    ·simp[ht]
structure FR(G:Gh)(n:Sz)(D:List Deferred)(e:Env)(a:Act):Prop where
 defers:a.defers=D
 size:a.tmps.size=n.n
 get:∀t x,look e t=φ x->∃u,a.tmps[t]?=φ u/\VR G x u
section
variable{G H:Gh}{n:Sz}{D:List Deferred}{e:Env}{a:Act}{P:Program}{tab:cB}{O O':VH}{w:World}{m:MV}
def FR.mono(h:FR G n D e a)(hl:G.Le H):FR H n D e a:=⟨h.defers,h.size,λt x hx=>by obtain⟨u,h1,h2⟩:=h.get t x hx;exact⟨u,h1,h2.mono hl⟩⟩
def FR.ev(h:FR G n D e a)(hx:ev e x=φ m):VR G m (a.eval x):=by
 cases x with
 | tmp t=>
   obtain⟨u,h1,h2⟩:=h.get t m hx
   have:a.eval (.tmp t)=u:=by
    show a.tmps.getD t undef=u;rw[apI,h1];rfl
   rw[this];exact h2
 | const v=>exact Fs hx
 | global g=>cases hx
 | func f=>
   injection hx with hx;subst hx;exact VR.func (us:=[]) (vs:=[]) rfl (λi c u h=>by simp at h) rfl (λi c u h=>by simp at h)
def FR.put(h:FR G n D e a){d:Nat}(hd:d<n.n)(hu:VR G m u):FR G n D ((d,m)::e) (a.put (φ d) u):=by
 refine⟨h.defers,by simp[Act.put,h.size],λt x hx=>?_⟩;simp only[look]at hx;by_cases e':t=d;subst e';simp only[beq_self_eq_true,cond_true,Option.some.injEq]at hx;subst hx;exact⟨u,by simp[Act.put,h.size,hd],hu⟩
 ·have:(t==d)=γ:=by simpa using e'
  rw[this]at hx;obtain⟨u',h1,h2⟩:=h.get t x hx;refine⟨u',?_,h2⟩;simp only[Act.put];rw[as0 (Ne.symm e')];exact h1
def FR.less(h:FR G n D e a){e':Env}(hl:∀t x,look e' t=φ x->look e t=φ x):FR G n D e' a:=⟨h.defers,h.size,λt x hx=>h.get t x (hl t x hx)⟩
def g_(e:Env)(l:List Operand):Option Η:=l.mapM (ev e)
def FR.g_(h:FR G n D e a):∀{l:List Operand} {ms:Η},g_ e l=φ ms->aX G ms (l.map a.eval)
 | [],ms,hx=>by simp[Go.Proofs.YtnfdmplcieacjaaGreatDoor.g_]at hx;subst hx;exact aX.nil
 | x::l,ms,hx=>by
   simp only[Go.Proofs.YtnfdmplcieacjaaGreatDoor.g_,an5,an3,TR]at hx;obtain⟨m,h1,ms',h2,h3⟩:=hx;injection h3 with h3;subst h3;exact aX.cons (h.ev h1) (FR.g_ h h2)
def sS(op:BinOp)(k:IntKind)(a b:Int):Option MV:=
 match op with
 | .add=>φ (.v (.int k (k.wrap (a+b))))
 | .sub=>φ (.v (.int k (k.wrap (a - b))))
 | .mul=>φ (.v (.int k (k.wrap (a*b))))
 | .quo=>if b=0 then Β else φ (.v (.int k (k.wrap (a.tdiv b))))
 | .rem=>if b=0 then Β else φ (.v (.int k (a.tmod b)))
 | .eql=>φ (.v (.bool (a==b)))
 | .neq=>φ (.v (.bool (a != b)))
 | .lss=>φ (.v (.bool (decide (a<b))))
 | .leq=>φ (.v (.bool (decide (a<=b))))
 | .gtr=>φ (.v (.bool (decide (a>b))))
 | .geq=>φ (.v (.bool (decide (a>=b))))
 | .and=>φ (.v (.int k (k.wrap (BitVec.ofInt k.bits a&&& BitVec.ofInt k.bits b).toNat)))
 | .or=>φ (.v (.int k (k.wrap (BitVec.ofInt k.bits a||| BitVec.ofInt k.bits b).toNat)))
 | .xor=>φ (.v (.int k (k.wrap (BitVec.ofInt k.bits a ^^^ BitVec.ofInt k.bits b).toNat)))
 | _=>Β
def Cq(op:BinOp)(k:IntKind)(a b:Int):Option MV:=
 if b<0 then Β else
 match op with
 | .shl=>φ (.v (.int k (k.wrap (a*2 ^ (min b.toNat k.bits)))))
 | .shr=>φ (.v (.int k (a.fdiv (2 ^ (min b.toNat k.bits)))))
 | _=>Β
def alq(op:BinOp)(a b:Ρ):Option MV:=
 match op with
 | .add=>if (Ζ a)+Ζ b<=9223372036854775807 then φ (.s (a++b))else Β
 | .eql=>φ (.v (.bool (a==b)))
 | .neq=>φ (.v (.bool (!(a==b))))
 | .lss=>φ (.v (.bool (Op.bytesLess a b)))
 | .leq=>φ (.v (.bool (Op.bytesLess a b||a==b)))
 | .gtr=>φ (.v (.bool (!(Op.bytesLess a b||a==b))))
 | .geq=>φ (.v (.bool (!(Op.bytesLess a b))))
 | _=>Β
def n5(tab:cB)(op:BinOp)(t:TypeId)(same:Bool):Option MV:=
 match((tab t).map cg.under:Option TypeDesc),op with
 | some (.pointer _),.eql=>φ (.v (.bool same))
 | some (.pointer _),.neq=>φ (.v (.bool (!same)))
 | _,_=>Β
def dK(tab:cB)(op:BinOp)(t:TypeId)(x y:MV):Option MV:=
 match x,y with
 | .v (.int k a),.v (.int k' b)=>
   match op with
   | .shl=>Cq .shl k a b
   | .shr=>Cq .shr k a b
   | op=>if k=k' then sS op k a b else Β
 | .v (.bool a),.v (.bool b)=>
   match((tab t).map cg.under:Option TypeDesc),op with
   | some .bool,.eql=>φ (.v (.bool (a==b)))
   | some .bool,.neq=>φ (.v (.bool (!(a==b))))
   | _,_=>Β
 | .s a,.s b=>alq op a b
 | .v (.pointer Β),.v (.pointer Β)=>n5 tab op t Α
 | .p _ _,.v (.pointer Β)=>n5 tab op t γ
 | .v (.pointer Β),.p _ _=>n5 tab op t γ
 | .dV _ _,.v (.pointer Β)=>n5 tab op t γ
 | .v (.pointer Β),.dV _ _=>n5 tab op t γ
 | .p b o,.p b' o'=>if b=b'/\o=o' then(match((tab t).map cg.under:Option TypeDesc)with
   | some (.pointer el)=>match tab el with
     | some te=>if te.size=0 then Β else n5 tab op t Α
     | none=>Β
   | _=>Β)else Β
 | _,_=>Β
def toList_mk(l:Ρ):(⟨⟨l⟩⟩:ByteArray).toList=l:=by
 rw[ByteArray.toList_eq]
def run_equal_bool{t:TypeId}(h:P.underlying t=φ .bool)(a b:Bool)(w:World):(Op.equal t (.bool a) (.bool b)).run P w= .ok (a==b) w:=by
 show(Op.equalIn (9999+1) t (.bool a) (.bool b)).run P w=_;generalize 9999=d;simp[Op.equalIn,run_underlying h]
def SS(G:Gh)(w:World):Prop:=∀b o u,G.fm b o=φ u->w.cell? ⟨b,o,Β⟩=φ u
def WR.ss(h:WR G O w):SS G w:=h.fm
def a_(P:Program)(s:Sem Value)(G:Gh)(m:MV):Prop:=∃u,VR G m u/\∀w,SS G w->s.run P w= .ok u w
def a_.of(hr:∀w,SS G w->s.run P w= .ok u w)(hu:VR G m u):a_ P s G m:=⟨u,hu,hr⟩
def Bo(ht:aN P tab){t:TypeId}{d:TypeDesc}(h:(tab t).map cg.under=φ d):P.underlying t=φ d:=by
 obtain⟨i,hi,hu⟩:=Ro.1 h;rw[<-hu];exact(ht t i hi).under
def aey{t:TypeId}{i:cg}(h:AH P t i)(w:World):(sizeOf t).run P w= .ok i.size w:=by
 obtain⟨ti,z,h1,h2,_⟩:=h.info;simp[sizeOf,typeInfo,h1,h2]
def uC(ht:aN P tab){op:BinOp}{t:TypeId}{same:Bool}{p q:Option Addr}(h:n5 tab op t same=φ m)
  (heq:∀el,P.underlying t=φ (.pointer el)->∀(w:World)(d:Nat),(Op.equalIn (d+1) t (.pointer p) (.pointer q)).run P w= .ok same w):a_ P (do eqGuard op t xo yo (.pointer p) (.pointer q);binOp op t (.pointer p) (.pointer q)) G m:=by
 have hg:∀w,(eqGuard op t xo yo (.pointer p) (.pointer q)).run P w= .ok () w:=λw=>by unfold eqGuard;split<;>simp
 unfold n5 at h;split at h;rename_i el hu;injection h with h;subst h;refine a_.of (λw _=>?_) (.v rfl);rw[Sem.run_bind,hg,Result.andThen_ok];have:=heq el (Bo ht hu) w 9999;simp only[binOp,Op.equal,Op.maxDepth,Sem.run_bind,this,Result.andThen_ok,Sem.run_pure];rename_i el hu;injection h with h;subst h;refine a_.of (λw _=>?_) (.v rfl);rw[Sem.run_bind,hg,Result.andThen_ok];have:=heq el (Bo ht hu) w 9999;simp only[binOp,Op.equal,Op.maxDepth,Sem.run_bind,this,Result.andThen_ok,Sem.run_pure];cases h
def aez(ht:aN P tab){op:BinOp}{t:TypeId}{x y:MV}(h:dK tab op t x y=φ m)(hx:VR G x u)(hy:VR G y v):
  a_ P (do eqGuard op t xo yo u v;binOp op t u v) G m:=by
 unfold dK at h;split at h
 ·rename_i k a k' b;cases hx;cases hy;(((have hg:∀w,(eqGuard op t xo yo (.int k a) (.int k' b)).run P w= .ok () w:=λw=>by unfold eqGuard;split<;>simp);split at h);unfold Cq at h;split at h;cases h;injection h with h;subst h;exact a_.of (λw _=>by rw[Sem.run_bind,hg,Result.andThen_ok];simp[binOp,Op.shift, *]) (.v rfl));unfold Cq at h;split at h;cases h;injection h with h;subst h;exact a_.of (λw _=>by rw[Sem.run_bind,hg,Result.andThen_ok];simp[binOp,Op.shift, *]) (.v rfl)
  ·rename_i h1 h2;split at h
   ·subst k'
    cases op<;>simp only[sS]at h<;>first
     | (exact absurd rfl h1)
     | (exact absurd rfl h2)
     | (cases h;done)
     | (injection h with h;subst h;exact a_.of (λw _=>by rw[Sem.run_bind,hg,Result.andThen_ok];simp[binOp,Op.intArith,Op.intCmp,Op.intBits]) (.v rfl))
     | (split at h
        ·cases h
        ·injection h with h;subst h;exact a_.of (λw _=>by rw[Sem.run_bind,hg,Result.andThen_ok];simp[binOp,Op.intDiv, *]) (.v rfl))
   ·cases h
 ·rename_i a b;cases hx;cases hy;((((have hg:∀w,(eqGuard op t xo yo (.bool a) (.bool b)).run P w= .ok () w:=λw=>by unfold eqGuard;split<;>simp);split at h);rename_i hu;obtain⟨i,hi,hu⟩:=Ro.1 hu;have:=(ht t i hi).under;rw[hu]at this;injection h with h;subst h;exact a_.of (λw _=>by rw[Sem.run_bind,hg,Result.andThen_ok];simp only[binOp,Sem.run_bind,run_equal_bool this,Result.andThen_ok,Sem.run_pure]) (.v rfl));rename_i hu;obtain⟨i,hi,hu⟩:=Ro.1 hu;have:=(ht t i hi).under;rw[hu]at this;injection h with h;subst h;exact a_.of (λw _=>by rw[Sem.run_bind,hg,Result.andThen_ok];simp only[binOp,Sem.run_bind,run_equal_bool this,Result.andThen_ok,Sem.run_pure]) (.v rfl));cases h
 ·rename_i a b;cases hx;rename_i e1;cases hy;have hg:∀w,(eqGuard op t xo yo (.string ⟨⟨a⟩⟩) (.string ⟨⟨b⟩⟩)).run P w= .ok () w:=λw=>by unfold eqGuard;split<;>simp
  cases op<;>simp only[alq]at h<;>first
   | (cases h;done)
   | (injection h with h;subst h;exact a_.of (λw _=>by rw[Sem.run_bind,hg,Result.andThen_ok];simp[binOp,Op.stringOp,toList_mk]) (.v rfl))
   | (split at h
      ·injection h with h;subst h;refine a_.of (u:=.string ⟨⟨a++b⟩⟩) (λw _=>?_) .s;rw[Sem.run_bind,hg,Result.andThen_ok];have e:(⟨⟨a⟩⟩:ByteArray)++⟨⟨b⟩⟩=⟨⟨a++b⟩⟩:=ByteArray.ext z10
       have hn:¬(((⟨⟨a⟩⟩:ByteArray).size+(⟨⟨b⟩⟩:ByteArray).size:Nat):Int)>IntKind.i64.max:=by
        show ¬((Ζ a+Ζ b:Nat):Int)>_;(have:IntKind.i64.max=9223372036854775807:=by decide);omega
       simp only[binOp,Op.stringOp,if_neg hn,e,Sem.run_pure]
      ·cases h)
 ·rename_i hx' hy';cases hx;cases hy;exact uC ht h (λel hu w d=>by simp[Op.equalIn,run_underlying hu])
 ·cases hx;cases hy;exact uC ht h (λel hu w d=>by simp[Op.equalIn,run_underlying hu])
 ·cases hx;cases hy;exact uC ht h (λel hu w d=>by simp[Op.equalIn,run_underlying hu])
 ·cases hx;cases hy;exact uC ht h (λel hu w d=>by simp[Op.equalIn,run_underlying hu])
 ·cases hx;cases hy;exact uC ht h (λel hu w d=>by simp[Op.equalIn,run_underlying hu])
 ·rename_i b o b' o';split at h
  ·rename_i hb;obtain⟨rfl,rfl⟩:=hb;cases hx with
   | p h1=>
     cases hy with
     | p h2=>
       rw[h1]at h2;injection h2 with h2;subst h2;split at h;rename_i el hu;split at h;rename_i te he;split at h;cases h;rename_i hz;refine uC ht h (λel' HE w d=>?_);have dZ:=Bo ht hu;rw[HE]at dZ;injection dZ with dZ;injection dZ with dZ;subst dZ;simp[Op.equalIn,run_underlying HE,aey (ht _ te he),hz,run_sameAddr_same];cases h;cases h
  ·cases h
 ·cases h
def jN(G:Gh)(w w':World):Prop:=∀k b,G.cJ k=φ b->w'.heap[b]?=w.heap[b]?
def jN.refl(G:Gh)(w:World):jN G w w:=λ_ _ _=>rfl
def jN.alloc(h:WR G O w)(o:Obj):jN G w (w.alloc o):=λk b hk=>by
 have:=(h.lx k b hk).2.1;rw[fZ,if_neg Λ]
def ik(P:Program)(s:Sem Value)(w:World)(G:Gh)(O':VH)(m:MV):Prop:=∃u w' H,s.run P w= .ok u w'/\Gh.Le G H/\WR H O' w'/\VR H m u/\jN G w w'
def OS(P:Program)(s:Sem Unit)(w:World)(G:Gh)(O':VH):Prop:=∃w' H,s.run P w= .ok () w'/\Gh.Le G H/\WR H O' w'
def ik.of(h:WR G O w)(hr:s.run P w= .ok u w)(hu:VR G m u):ik P s w G O m:=⟨u,w,G,hr,Gh.Le.refl G,h,hu,jN.refl _ _⟩
def alr(P:Program)(s:Sem Value)(w:World)(G:Gh)(m:MV):Prop:=∃u,s.run P w= .ok u w/\VR G m u
def Z2{t:TypeId}{i:cg}(h:AH P t i)(w:World):∃ti,(typeInfo t).run P w= .ok ti w/\ti.size=i.size/\ti.bytes=i.bytes:=by
 obtain⟨ti,z,h1,h2,h3,_⟩:=h.info;exact⟨ti,by simp[typeInfo,h1],h2,h3⟩
def f_{t:TypeId}{i:cg}(h:AH P t i)(w:World):(sizeOf t).run P w= .ok i.size w:=by
 obtain⟨ti,h1,h2,_⟩:=Z2 h w;rw[sizeOf,Sem.run_bind,h1,Result.andThen_ok,Sem.run_pure,h2]
def qf{t:TypeId}{i:cg}(h:AH P t i)(w:World):(isAgg t).run P w= .ok (fA i.under) w:=by
 rw[isAgg,Sem.run_bind,run_underlying h.under,Result.andThen_ok];cases i.under<;>rfl
def LX{t:TypeId}{i:cg}(h:AH P t i)(w:World):∃z,(zeroValue t).run P w= .ok z w/\z.cells.size=i.size/\∀G,aX G i.zero z.cells.toList:=by
 obtain⟨ti,z,h1,_,_,h4,h5,h6⟩:=h.info;exact⟨z,by simp[zeroValue,typeInfo,h1,h4],h5,h6⟩
def ey:MV->Η
 | .agg cs=>cs
 | m=>[m]
def dF:MV->Bool
 | .agg _ | .tuple _=>γ
 | _=>Α
def Bp(h:VR G m u):aX G (ey m) u.cells.toList:=by
 cases h with
 | agg h1 h2=>exact⟨h1,h2⟩
 | v h1=>
   (have:u.cells= #[u]:=by cases u<;>first | rfl | (simp[plain]at h1));rw[this];exact aX.cons (.v h1) aX.nil
 | s=>exact aX.cons .s aX.nil
 | p h1=>exact aX.cons (.p h1) aX.nil
 | dV h1 h2 h3=>exact aX.cons (.dV h1 h2 h3) aX.nil
 | slnil=>exact aX.cons .slnil aX.nil
 | qE h1=>exact aX.cons (.qE h1) aX.nil
 | kV=>exact aX.cons .kV aX.nil
 | l h1 h2 h3 h4 h5 h6=>exact aX.cons (.l h1 h2 h3 h4 h5 h6) aX.nil
 | bk h1 h2 h3=>exact aX.cons (.bk h1 h2 h3) aX.nil
 | map h1=>exact aX.cons (.map h1) aX.nil
 | func h1 h2 h3 h4=>exact aX.cons (.func h1 h2 h3 h4) aX.nil
 | iface h1=>exact aX.cons (.iface h1) aX.nil
 | tuple h1 h2=>exact aX.cons (.tuple h1 h2) aX.nil
def LY(h:VR G m u)(hl:dF m=Α):u.oneCell'=Α:=by
 cases h with
 | v h1=>cases u<;>first | rfl | (simp[plain]at h1)
 | agg h1 h2=>cases hl
 | tuple h1 h2=>cases hl
 | _=>rfl
def Bq{cs:Η}(h:aX G cs us)(hl:cs.all dF=Α):∀u∈us,u.oneCell'=Α:=by
 intro u hu;obtain⟨i,hi,rfl⟩:=List.mem_iff_getElem.1 hu;have hc:i<Ζ cs:=by rw[<-h.1];exact hi
 exact LY (h.2 i cs[i] us[i] (ai9 hc) (ai9 hi)) (auo.1 hl _ (List.getElem_mem _))
def n6(agg:Bool)(size:Nat)(cs:Η)(off:Nat):Option MV:=
 if agg then(if off+size<=(Ζ cs) then φ (.agg ((cs.drop off).take size))else Β)else cs[off]?
def cellsOf(O:VH):MV->Option (Η×Nat)
 | .p k off=>match O.hp k with
   | some (.cells cs)=>φ (cs,off)
   | _=>Β
 | .dV cs off=>φ (cs,off)
 | _=>Β
def Rs(h:WR G O w){cs:Η}(hx:VR G m u)(hc:cellsOf O m=φ (cs,off)):
  ∃b o us,u= .pointer (φ ⟨b,o+off,Β⟩)/\aX G cs us/\∀i v,us[i]?=φ v->w.cell? ⟨b,o+i,Β⟩=φ v:=by
 cases hx with
 | p h1=>
   rename_i k off' b;simp only[cellsOf]at hc;split at hc;rename_i cs' hk;injection hc with hc;injection hc with e1 e2;subst e1;subst e2;obtain⟨b',C,T,h2,h3,h4⟩:=h.cells k _ hk;rw[h1]at h2;injection h2 with h2;subst h2;refine⟨b,0,_,z10,h4,λi v hv=>?_⟩;rw[aev]at hv;split at hv;simp only[apJ,World.cell?,h3,an6,ahB,if_false];simpa using hv;cases hv;cases hc
 | dV h1 h2 h3=>
   simp only[cellsOf,Option.some.injEq,Prod.mk.injEq]at hc;obtain⟨rfl,rfl⟩:=hc;exact⟨_,_,_,rfl,⟨h1,h3⟩,λi v hv=>h.fm _ _ _ (h2 i v hv)⟩
 | _=>cases hc
def fq(tab:cB)(O:VH)(t:TypeId)(m:MV):Option MV:=
 match tab t,cellsOf O m with
 | some i,φ (cs,off)=>n6 (fA i.under) i.size cs off
 | _,_=>Β
def Sx(G:Gh)(w x:World):Prop:=SS G x/\jN G w x
def WR.sx(h:WR G O w):Sx G w w:=⟨h.ss,jN.refl _ _⟩
def KG(h:WR G O w){cs:Η}(hx:VR G m u)(hc:cellsOf O m=φ (cs,off)):
  ∃b o us,u= .pointer (φ ⟨b,o+off,Β⟩)/\aX G cs us/\∀x,Sx G w x->∀i v,us[i]?=φ v->x.cell? ⟨b,o+i,Β⟩=φ v:=by
 cases hx with
 | p h1=>
   rename_i k off' b;simp only[cellsOf]at hc;split at hc;rename_i cs' hk;injection hc with hc;injection hc with e1 e2;subst e1;subst e2;obtain⟨b',C,T,h2,h3,h4⟩:=h.cells k _ hk;rw[h1]at h2;injection h2 with h2;subst h2;refine⟨b,0,_,z10,h4,λx hs i v hv=>?_⟩;have oU:=(hs.2 k b h1).trans h3;rw[aev]at hv;split at hv;simp only[apJ,World.cell?,oU,an6,ahB,if_false];simpa using hv;cases hv;cases hc
 | dV h1 h2 h3=>
   simp only[cellsOf,Option.some.injEq,Prod.mk.injEq]at hc;obtain⟨rfl,rfl⟩:=hc;exact⟨_,_,_,rfl,⟨h1,h3⟩,λx hs i v hv=>hs.1 _ _ _ (h2 i v hv)⟩
 | _=>cases hc
def qh(ht:aN P tab)(h:WR G O w){t:TypeId}{x m:MV}(hv:fq tab O t x=φ m)(hx:VR G x u):∃r,VR G m r/\∀y,Sx G w y->(Instr.loadAt t u).run P y= .ok r y:=by
 unfold fq at hv;split at hv
 ·rename_i i cs off hi hc;have gk:=ht t i hi;obtain⟨b,o,us,rfl,nP,gK⟩:=KG h hx hc;simp only[Instr.loadAt,Instr.sureAddr,loadVar];unfold n6 at hv;split at hv
  ·rename_i rV;split at hv
   ·rename_i hle;injection hv with hv;subst hv;have Ft:=(nP.drop off).take i.size;(have hlen:((us.drop off).take i.size).length=i.size:=by simp[nP.1];omega);refine⟨_,.agg Ft.1 Ft.2,λy hy=>?_⟩
    have Cr:∀j v,((us.drop off).take i.size)[j]?=φ v->y.cell? ((⟨b,o+off,Β⟩:Addr).add j)=φ v:=by
     intro j v hj;rw[Addr.add_lit,ats];rw[aev]at hj;split at hj;rw[ai_]at hj;exact gK y hy _ v hj;cases hj
    have Bt:=run_loadCells_list (P:=P) y ⟨b,o+off,Β⟩ _ Cr;rw[hlen]at Bt;simp[qf gk,rV,f_ gk,Bt]
   ·cases hv
  ·rename_i rV;obtain⟨v,t_,D7⟩:=nP.get hv;exact⟨v,D7,λy hy=>by simp[qf gk,rV,gK y hy _ v t_]⟩
 ·cases hv
def HG(ht:aN P tab)(h:WR G O w){t:TypeId}{x m:MV}(hv:fq tab O t x=φ m)(hx:VR G x u):alr P (Instr.loadAt t u) w G m:=by
 obtain⟨r,h1,h2⟩:=qh (P:=P) ht h hv hx;exact⟨r,h2 w h.sx,h1⟩
def LZ(ht:aN P tab)(h:WR G O w){t:TypeId}{x m:MV}(hv:fq tab O t x=φ m)(hx:VR G x u):ik P (Instr.loadAt t u) w G O m:=by
 obtain⟨r,h1,h2⟩:=HG (P:=P) ht h hv hx;exact ik.of h h1 h2
def Wt(ht:aN P tab){t:TypeId}{cs:Η}{m:MV}(hv:fq tab O t (.dV cs off)=φ m)(hx:VR G (.dV cs off) u):a_ P (Instr.loadAt t u) G m:=by
 unfold fq at hv;split at hv
 ·rename_i i cs' off' hi hc;simp only[cellsOf,Option.some.injEq,Prod.mk.injEq]at hc;obtain⟨rfl,rfl⟩:=hc;have gk:=ht t i hi;cases hx with
  | dV h1 h2 h3=>
    rename_i us b o;have nP:aX G cs us:=⟨h1,h3⟩;simp only[Instr.loadAt,Instr.sureAddr,loadVar];unfold n6 at hv;split at hv
    ·rename_i rV;split at hv
     ·rename_i hle;injection hv with hv;subst hv;have Ft:=(nP.drop off).take i.size;have hlen:((us.drop off).take i.size).length=i.size:=by simp[nP.1];omega
      have Cr:∀w,SS G w->∀j v,((us.drop off).take i.size)[j]?=φ v->w.cell? ((⟨b,o+off,Β⟩:Addr).add j)=φ v:=by
       intro w hw j v hj;rw[Addr.add_lit,ats];rw[aev]at hj;split at hj;rw[ai_]at hj;exact hw _ _ _ (h2 _ v hj);cases hj
      have Bt:∀w,SS G w->(loadCells ⟨b,o+off,Β⟩ i.size).run P w= .ok ((us.drop off).take i.size).toArray w:=λw hw=>by
       have:=run_loadCells_list (P:=P) w ⟨b,o+off,Β⟩ _ (Cr w hw)
       rwa [hlen]at this
      exact a_.of (λw hw=>by simp[qf gk,rV,f_ gk,Bt w hw]) (.agg Ft.1 Ft.2)
     ·cases hv
    ·rename_i rV;obtain⟨v,t_,D7⟩:=nP.get hv;exact a_.of (λw hw=>by simp[qf gk,rV,hw _ _ _ (h2 _ v t_)]) D7
 ·cases hv
def db(cs:Η)(o:Nat):Η->Η
 | []=>cs
 | x::xs=>db (cs.set o x) (o+1) xs
def VH.set_set(O:VH)(k:Nat)(x y:bO):(O.set k x).set k y=O.set k y:=by
 simp only[VH.set,VH.mk.injEq,true_and];funext j
 simp only[bQ];cases Nat.beq j k<;>rfl
def υ(O:VH)(k:Nat)(x:bO):(O.set k x).hp k=φ x:=aR _ _ _
def VH.zA{O:VH}{x:bO}(h:O.hp k=φ x):O.set k x=O:=by
 obtain⟨n,f⟩:=O;simp only[VH.set,VH.mk.injEq,true_and];funext j
 by_cases e:j=k;subst e;rw[aR];exact h.symm;exact az _ _ e
def vA{k b:Nat}(hp:G.cJ k=φ b)(off:Nat):∀(xs:Η)(us:List Value)(i:Nat)(cs:Η)(O:VH)(w:World),WR G O w->O.hp k=φ (.cells cs)->aX G xs us->xs.all dF=Α->off+i+Ζ xs<=(Ζ cs)->
  ∃w',(storeCells ⟨b,off,Β⟩ us i).run P w= .ok () w'/\WR G (O.set k (.cells (db cs (off+i) xs))) w'
 | [],us,i,cs,O,w,h,hk,hx,_,_=>by
   rw[hx.jd];refine⟨w,rfl,?_⟩;simp only[db];rw[VH.zA hk];exact h
 | x::xs,us,i,cs,O,w,h,hk,hx,hl,hle=>by
   obtain⟨u,us',rfl,h1,h2⟩:=hx.eX;simp only[List.all_cons,abT]at hl;simp only[atM]at hle;have eD:=h.store (i:=off+i) hk hp Λ h1;obtain⟨w',hr,hw⟩:=vA hp off xs us' (i+1) (cs.set (off+i) x) _ _ eD (υ _ _ _) h2 hl.2 z43;refine⟨w',?_,?_⟩
   ·obtain⟨b',C,T,e1,e2,e3⟩:=h.cells k cs hk;rw[hp]at e1;injection e1 with e1;subst e1;have hlen:off+i<C.size:=by have:=e3.1;simp at this;omega
    have gK:w.cell? ⟨b,off+i,Β⟩=φ C[off+i]:=by
     simp only[World.cell?,e2,an6,ahB,if_false,an7 hlen]
    have aY:w.frozen? ⟨b,off+i,Β⟩=γ:=by
     obtain⟨t',⟨lo,hi⟩,bH⟩:=T;dsimp only at e2 bH;simp only[World.frozen?,e2,Bool.and_eq_false_imp,decide_eq_true_eq,decide_eq_false_iff_not];intro;omega
    rw[storeCells,Sem.run_bind]
    have:(store ((⟨b,off,Β⟩:Addr).add i) u).run P w= .ok () (w.setCell ⟨b,off+i,Β⟩ u):=by
     rw[Addr.add_lit,run_store P w _ _ _ (LY h1 hl.1),gK];simp[aY]
    rw[this,Result.andThen_ok];exact hr
   ·rw[VH.set_set]at hw;exact hw
def zB(tab:cB)(O:VH)(t:TypeId)(x y:MV):Option VH:=
 match tab t,x with
 | some i,.p k off=>match O.hp k with
   | some (.cells cs)=>if(ey y).length=i.size/\(ey y).all dF=Α/\off+i.size<=(Ζ cs) then φ (O.set k (.cells (db cs off (ey y))))else Β
   | _=>Β
 | _,_=>Β
def Wu(ht:aN P tab)(h:WR G O w){t:TypeId}{x y:MV}(hv:zB tab O t x y=φ O')(hx:VR G x u)(hy:VR G y v):OS P (Instr.storeAt t u v) w G O':=by
 unfold zB at hv;split at hv
 ·rename_i i k off hi;have gk:=ht t i hi;split at hv
  ·rename_i cs hk;split at hv
   ·rename_i hc;injection hv with hv;subst hv
    cases hx with
    | p h1=>
      have hm:=Bp hy;obtain⟨w',hr,hw⟩:=vA (P:=P) h1 off (ey y) v.cells.toList 0 cs O w h hk hm hc.2.1 Λ;refine⟨w',G,?_,Gh.Le.refl G,by simpa using hw⟩;(have hs:v.cells.size=i.size:=by rw[<-apK,hm.1];exact hc.1);simp[Instr.storeAt,Instr.sureAddr,storeVar,f_ gk,hs,hr]
   ·cases hv
  ·cases hv
 ·cases hv
def ajb(h:WR G O w){cs:Η}{t:TypeId}(hc:aX G cs C.toList):ik P (do pure (Value.pointer (φ (<-newRow t C)))) w G (O.push (.cells cs)) (.p O.N 0):=by
 obtain⟨h1,h2⟩:=h.push t hc;exact⟨_,_,_,by simp[newRow,newObj,Sem.run],h1,h2,.p (aR _ _ _),jN.alloc h _⟩
def aeA(h:WR G O w){t:TypeId}(hu:VR G m u):ik P (Instr.box t u) w G (O.push (.cells (ey m))) (.p O.N 0):=ajb h (Bp hu)
end
section
variable{G H:Gh}{n:Sz}{D:List Deferred}{e:Env}{a:Act}{P:Program}{tab:cB}{O O':VH}{w:World}{m m':MV}{u v:Value}
def xE(k:Nat):MV->Option MV
 | .p b off=>φ (.p b (off+k))
 | .dV cs off=>φ (.dV cs (off+k))
 | _=>Β
def L1(h:VR G m u)(hm:xE k m=φ m'):∃a:Addr,u= .pointer (φ a)/\VR G m' (.pointer (φ (a.add k))):=by
 cases h with
 | p h1=>
   injection hm with hm;subst hm;exact⟨_,rfl,by rw[Addr.add_lit];exact .p h1⟩
 | dV h1 h2 h3=>
   injection hm with hm;subst hm;exact⟨_,rfl,by rw[Addr.add_lit,ats];exact .dV h1 h2 h3⟩
 | _=>cases hm
def ka(tab:cB)(t:TypeId)(f:Nat)(m:MV):Option MV:=
 match tab t with
 | some i=>match i.under with
   | .struct fs=>match fs[f]? with
     | some fd=>match tab fd.type with
       | some j=>if j.size=0 then Β else xE fd.offset m
       | none=>Β
     | none=>Β
   | _=>Β
 | none=>Β
def HH(ht:aN P tab){t:TypeId}(hv:ka tab t f m=φ m')(hx:VR G m u):a_ P (Instr.fieldAt t u f) G m':=by
 unfold ka at hv;split at hv;rename_i i hi;split at hv;rename_i fs hu;split at hv;rename_i fd hf;split at hv;rename_i j hj;split at hv;cases hv;rename_i hz;obtain⟨a,rfl,h2⟩:=L1 hx hv;have gk:=(ht t i hi).under;rw[hu]at gk;exact a_.of (λw _=>by simp[Instr.fieldAt,run_underlying gk,hf,Instr.sureAddr,fieldPlace,f_ (ht _ j hj),hz]) h2;cases hv;cases hv;cases hv;cases hv
def nA(tab:cB)(t:TypeId)(m:MV)(ix:MV):Option MV:=
 match ix,tab t with
 | .v (.int _ i),φ ti=>match ti.under,m with
   | .slice el,.l n cells _=>match tab el with
     | some te=>if 0<=i/\i<(n:Int)then φ (.dV cells (i.toNat*te.size))else Β
     | none=>Β
   | .slice el,.bk k o n _=>match tab el with
     | some te=>if 0<=i/\i<(n:Int)then φ (.p k (o+i.toNat*te.size))else Β
     | none=>Β
   | .array len el,x=>match tab el with
     | some te=>if 0<=i/\i<(len:Int)then xE (i.toNat*te.size) x else Β
     | none=>Β
   | _,_=>Β
 | _,_=>Β
def HI(ht:aN P tab){t:TypeId}{ix:MV}(hv:nA tab t m ix=φ m')(hx:VR G m u)(hy:VR G ix v):a_ P (Instr.indexAt t u v) G m':=by
 unfold nA at hv;split at hv
 ·rename_i k i ti hi;cases hy;have gk:=(ht t ti hi).under;split at hv
  ·rename_i el n' cells tk hu;rw[hu]at gk;split at hv
   ·rename_i te he;split at hv
    ·rename_i hb;injection hv with hv;subst hv
     cases hx with
     | slnil=>simp at hb;omega
     | qE h1=>simp at hb;omega
     | kV=>simp at hb;omega
     | l h1 h2 h3 h4 h5 h6=>
       refine a_.of (u:=.pointer (φ _)) (λw _=>?_) (.dV h1 h2 h3);simp[Instr.indexAt,asIntOf,run_underlying gk,hb.1,hb.2,f_ (ht _ te he),Addr.add_lit]
    ·cases hv
   ·cases hv
  ·rename_i el k' o n' c' hu;rw[hu]at gk;split at hv
   ·rename_i te he;split at hv
    ·rename_i hb;injection hv with hv;subst hv
     cases hx with
     | bk h1 h2 h3=>
       refine a_.of (u:=.pointer (φ _)) (λw _=>?_) (.p h1);simp[Instr.indexAt,asIntOf,run_underlying gk,hb.1,hb.2,f_ (ht _ te he),Addr.add_lit]
    ·cases hv
   ·cases hv
  ·rename_i len el hu;rw[hu]at gk;split at hv;rename_i te he;split at hv;rename_i hb;obtain⟨a,rfl,h2⟩:=L1 hx hv;refine a_.of (u:=.pointer (φ _)) (λw _=>?_) h2;simp[Instr.indexAt,asIntOf,run_underlying gk,Instr.sureAddr,hb.1,hb.2,f_ (ht _ te he)];cases hv;cases hv
  ·cases hv
 ·cases hv
def D8(tab:cB)(t:TypeId)(cs:Η)(off:Nat):Option MV:=
 match tab t with
 | some i=>n6 (fA i.under) i.size cs off
 | none=>Β
def zC(ht:aN P tab){t:TypeId}{cs:Η}(hv:D8 tab t cs off=φ m)(hx:aX G cs us):∃r,(∀w,(part t us.toArray off).run P w= .ok r w)/\VR G m r:=by
 unfold D8 at hv;split at hv;rename_i i hi;have gk:=ht t i hi;unfold n6 at hv;split at hv;rename_i rV;split at hv;injection hv with hv;subst hv;have nP:=(hx.drop off).take i.size;refine⟨.agg ((us.drop off).take i.size).toArray,λw=>?_,.agg nP.1 nP.2⟩;simp[part,qf gk,rV,f_ gk];cases hv;rename_i rV;obtain⟨v,t_,D7⟩:=hx.get hv;exact⟨v,λw=>by simp[part,qf gk,rV,t_],D7⟩;cases hv
def zD(tab:cB)(t:TypeId)(x:MV)(f:Nat):Option MV:=
 match tab t,x with
 | some i,.agg cs=>match i.under with
   | .struct fs=>match fs[f]? with
     | some fd=>D8 tab fd.type cs fd.offset
     | none=>Β
   | _=>Β
 | _,_=>Β
def Wv(ht:aN P tab){t:TypeId}(hv:zD tab t m f=φ m')(hx:VR G m u):a_ P (Instr.field t u f) G m':=by
 unfold zD at hv;split at hv
 ·rename_i i cs hi;split at hv
  ·rename_i fs hu;have gk:=(ht t i hi).under;rw[hu]at gk;split at hv
   ·rename_i fd hf;cases hx with
    | agg h1 h2=>
      obtain⟨r,h3,h4⟩:=zC (P:=P) ht hv ⟨h1,h2⟩;exact a_.of (λw _=>by simp[Instr.field,run_underlying gk,hf,asAgg,h3]) h4
   ·cases hv
  ·cases hv
 ·cases hv
def zE(tab:cB)(t:TypeId)(x ix:MV):Option MV:=
 match tab t,x,ix with
 | some i,.agg cs,.v (.int _ k)=>match i.under with
   | .array len el=>match tab el with
     | some te=>if 0<=k/\k<(len:Int)then D8 tab el cs (k.toNat*te.size)else Β
     | none=>Β
   | _=>Β
 | some i,.s l,.v (.int _ k)=>match i.under with
   | .string=>if 0<=k then(l[k.toNat]?).map λb=>.v (.int .u8 b.toNat)else Β
   | _=>Β
 | _,_,_=>Β
def Ww(ht:aN P tab){t:TypeId}{ix:MV}(hv:zE tab t m ix=φ m')(hx:VR G m u)(hy:VR G ix v):a_ P (Instr.index t u v) G m':=by
 unfold zE at hv;split at hv
 ·rename_i i cs kk k hi;cases hy;split at hv
  ·rename_i len el hu;have gk:=(ht t i hi).under;rw[hu]at gk;split at hv
   ·rename_i te he;split at hv
    ·rename_i hb;cases hx with
     | agg h1 h2=>
       obtain⟨r,h3,h4⟩:=zC (P:=P) ht hv ⟨h1,h2⟩;exact a_.of (λw _=>by simp[Instr.index,asIntOf,run_underlying gk,hb.1,hb.2,f_ (ht _ te he),h3]) h4
    ·cases hv
   ·cases hv
  ·cases hv
 ·rename_i i l kk k hi;cases hy;cases hx;split at hv
  ·rename_i hu;have gk:=(ht t i hi).under;rw[hu]at gk;split at hv
   ·rename_i hb;obtain⟨b,h1,h2⟩:=Ro.1 hv;subst h2;refine a_.of (u:=.int .u8 b.toNat) (λw _=>?_) (.v rfl)
    have hg:(⟨⟨l⟩⟩:ByteArray)[k.toNat]?=φ b:=by
     obtain⟨bI,he⟩:=ai8.1 h1;rw[getElem?_pos (⟨⟨l⟩⟩:ByteArray) k.toNat bI];exact congrArg φ he
    simp[Instr.index,asIntOf,run_underlying gk,hb,hg]
   ·cases hv
  ·cases hv
 ·cases hv
def uD(x:MV)(i:Nat):Option MV:=
 match x with
 | .tuple vs=>vs[i]?
 | _=>Β
def OT(hv:uD m i=φ m')(hx:VR G m u):a_ P (Instr.extract u i) G m':=by
 unfold uD at hv;split at hv
 ·cases hx with
  | tuple h1 h2=>
    obtain⟨r,h3,h4⟩:=aX.get ⟨h1,h2⟩ hv;exact a_.of (λw _=>by simp[Instr.extract,h3]) h4
 ·cases hv
end
section
variable{G H:Gh}{n:Sz}{D:List Deferred}{e:Env}{a:Act}{P:Program}{tab:cB}{O O':VH}{w:World}{m m' m2:MV}{u v:Value}
def mG(place:Nat->Option (Nat×Nat))(cells:Η):List (Nat×MV)->Option Η
 | []=>φ cells
 | (i,x)::rest=>match place i with
   | none=>Β
   | some (off,size)=>if(ey x).length=size/\off+size<=(Ζ cells) then mG place (db cells off (ey x)) rest else Β
def Fu{us:List Value}:∀(vs:List Value)(k off:Nat)(C:Array Value)(cs ms:Η),aX G cs C.toList->aX G ms vs->
  aX G (db cs (off+k) ms) ((vs.zipIdx k).foldl (λ(a:Array Value) x=>a.setIfInBounds (off+x.2) x.1) C).toList
 | [],k,off,C,cs,ms,h,hm=>by
   have:ms=[]:=apG hm.1.symm;subst this;exact h
 | v::vs,k,off,C,cs,ms,h,hm=>by
   cases ms with
   | nil=>have:=hm.1;simp at this
   | cons x xs=>
     simp only[List.zipIdx_cons,List.foldl_cons,db];(have h2:aX G (cs.set (off+k) x) (C.setIfInBounds (off+k) v).toList:=by rw[aui];exact h.set hm.head);exact Fu (us:=us) vs (k+1) off _ _ xs h2 hm.tail
def zF{place:Nat->Option (Nat×Nat)}:∀(parts:List (Nat×MV))(ps:List (Nat×Value))(cs:Η)(C:Array Value)(ds:Η),mG place cs parts=φ ds->
  parts.map (·.1)=ps.map (·.1)->aX G (parts.map (·.2)) (ps.map (·.2))->aX G cs C.toList->∃E,Instr.fill place C ps=φ E/\aX G ds E.toList
 | [],ps,cs,C,ds,h,h1,h2,h3=>by
   (have:ps=[]:=by cases ps<;>simp_all);subst this;injection h with h;subst h
   exact⟨C,rfl,h3⟩
 | (i,x)::parts,ps,cs,C,ds,h,h1,h2,h3=>by
   cases ps with
   | nil=>simp at h1
   | cons p ps=>
     obtain⟨j,y⟩:=p;simp only[apH,List.cons.injEq]at h1;obtain⟨rfl,h1⟩:=h1;simp only[apH]at h2;simp only[mG]at h;cases hp:place i with
     | none=>rw[hp]at h;cases h
     | some q=>
       obtain⟨off,size⟩:=q;rw[hp]at h;simp only at h;split at h;rename_i hc;have hm:=Bp h2.head;(((((have hy:y.cells.size=size:=by rw[<-apK,hm.1];exact hc.1);have hC:C.size=Ζ cs:=by rw[<-apK];exact h3.1);have eD:=Fu (us:=[]) y.cells.toList 0 off C cs (ey x) h3 hm;obtain⟨E,h4,h5⟩:=zF parts ps _ _ ds h h1 h2.tail eD;refine⟨E,?_,h5⟩;simp only[Instr.fill,hp];rw[if_neg (by rw[hy,hC];simp;exact hc.2)];rw[<-h4]);congr 1);rw[<-Array.foldl_toList,Array.toList_zipIdx]);cases h
def placesOf(tab:cB)(fs:Array Field):Option (List (Nat×Nat)):=fs.toList.mapM λf=>(tab f.type).map λi=>(f.offset,i.size)
def run_places(ht:aN P tab):∀(fs:List Field)(l:List (Nat×Nat))(w:World),(fs.mapM λf=>(tab f.type).map λi=>(f.offset,i.size))=φ l->
  (fs.mapM λf=>(do pure (f.offset, <-sizeOf f.type):Sem (Nat×Nat))).run P w= .ok l w
 | [],l,w,h=>by simp at h;subst h;rfl
 | f::fs,l,w,h=>by
   simp only[an5,an3,TR]at h;obtain⟨x,h1,l',h2,h3⟩:=h;injection h3 with h3;subst h3;obtain⟨i,hi,rfl⟩:=Ro.1 h1;have ih:=run_places ht fs l' w h2;simp only[an5,Sem.run_bind,f_ (ht _ i hi),Result.andThen_ok,Sem.run_pure];rw[ih];rfl
def vB(tab:cB)(t:TypeId)(parts:List (Nat×MV)):Option MV:=
 match tab t with
 | some i=>match i.under with
   | .struct fs=>match placesOf tab fs with
     | some l=>(mG (l[·]?) i.zero parts).map .agg
     | none=>Β
   | .array _ el=>match tab el with
     | some te=>(mG (λk=>φ (k*te.size,te.size)) i.zero parts).map .agg
     | none=>Β
   | _=>Β
 | none=>Β
def Wx(ht:aN P tab){t:TypeId}{parts:List (Nat×MV)}(hv:vB tab t parts=φ m)(h1:parts.map (·.1)=ps.toList.map (·.1))(h2:aX G (parts.map (·.2)) (ps.toList.map (·.2))):
  a_ P (Instr.build t ps) G m:=by
 unfold vB at hv;split at hv
 ·rename_i i hi;have gk:=ht t i hi;obtain⟨ti,z,Wz,_,_,OU,Bu,KH⟩:=gk.info;(have Gu:∀w,(zeroValue t).run P w= .ok z w:=λw=>by simp[zeroValue,typeInfo,Wz,OU]);split at hv
  ·rename_i fs hu;have fB:=gk.under;rw[hu]at fB;split at hv
   ·rename_i l hl;obtain⟨ds,h3,rfl⟩:=Ro.1 hv;obtain⟨E,h4,h5⟩:=zF parts ps.toList i.zero z.cells ds h3 h1 h2 (KH G);(have hr:=λw=>run_places ht fs.toList l w hl);refine a_.of (u:=.agg E) (λw _=>?_) (.agg h5.1 h5.2)
    have hr':(fs.mapM λf=>(do pure (f.offset, <-sizeOf f.type):Sem (Nat×Nat))).run P w= .ok l.toArray w:=by
     rw[auk, <-bind_pure_comp,Sem.run_bind,hr];rfl
    simp only[Instr.build,Sem.run_bind,Gu,Result.andThen_ok,run_underlying fB,hr'];(have:Instr.fill (λx=>l.toArray[x]?) z.cells ps.toList=φ E:=by rw[<-h4];congr 1;funext x;simp);rw[this];rfl
   ·cases hv
  ·rename_i len el hu;have fB:=gk.under;rw[hu]at fB;split at hv;rename_i te he;obtain⟨ds,h3,rfl⟩:=Ro.1 hv;obtain⟨E,h4,h5⟩:=zF parts ps.toList i.zero z.cells ds h3 h1 h2 (KH G);refine a_.of (u:=.agg E) (λw _=>?_) (.agg h5.1 h5.2);simp only[Instr.build,Sem.run_bind,Gu,Result.andThen_ok,run_underlying fB,f_ (ht _ te he),h4];rfl;cases hv
  ·cases hv
 ·cases hv
def fC(z:Η)(n:Nat):Η:=(Ν n).map λi=>z.getD (i % (Ζ z)) (.tuple [])
def vC{z:Η}{Z:Array Value}(h:aX G z Z.toList)(hz:0<Ζ z)(n:Nat):aX G (fC z n) ((Array.range n).map (λi=>Z[i % Z.size]!)).toList:=by
 have hl:Z.size=Ζ z:=by rw[<-apK];exact h.1
 refine⟨by simp[fC],λi c u hc hu=>?_⟩;simp only[fC,List.getElem?_map,Ro]at hc;obtain⟨j,hj,rfl⟩:=hc;simp only[Array.toList_map,Array.toList_range,List.getElem?_map,hj,an2,Option.some.injEq]at hu;have hm:j % (Ζ z)<Ζ z:=Nat.mod_lt _ hz;have hm':j % Z.size<Z.size:=by rw[hl];exact hm
 refine h.2 (j % (Ζ z)) _ u ?_ ?_;rw[ai9 hm,List.getD_eq_getElem?_getD,ai9 hm];rfl;rw[<-hu, <-hl,Array.getElem?_toList,an7 hm',getElem!_pos Z _ hm']
def lT(tab:cB)(t:TypeId)(len:Nat)(parts:List (Nat×MV)):Option MV:=
 match(tab t).map cg.under with
 | some (.slice el)=>match tab el with
   | some te=>if 0<len*te.size/\len*te.size<=16777216/\0<(Ζ te.zero)/\len<=maxLen then
     (mG (λk=>φ (k*te.size,te.size)) (fC te.zero (len*te.size)) parts).map λcs=>.l len cs .full
     else if len=0/\parts=[]then φ (.l 0 [] .full)else Β
   | none=>Β
 | _=>Β
def wD(ht:aN P tab)(h:WR G O w){t:TypeId}{len:Nat}{parts:List (Nat×MV)}(hv:lT tab t len parts=φ m)(h1:parts.map (·.1)=ps.toList.map (·.1))(h2:aX G (parts.map (·.2)) (ps.toList.map (·.2))):
  ik P (Instr.buildSlice t len ps) w G O m:=by
 unfold lT at hv;split at hv
 ·rename_i el hu;obtain⟨i,hi,hu⟩:=Ro.1 hu;have fB:=(ht t i hi).under;rw[hu]at fB;split at hv
  ·rename_i te he;have oV:=ht el te he;obtain⟨z,Gu,Bu,KH⟩:=LX oV w
   have fin:∀(C:Array Value)(cs:Η),aX G cs C.toList->len<=maxLen->ik P (do pure (Value.slice (φ (<-newRow el C)) len len)) w G O (.l len cs .full):=λC cs hc hl=>by
    obtain⟨h3,h4⟩:=h.lit C el;refine⟨.slice (φ ⟨w.heap.size,0,Β⟩) len len,w.alloc (.cells C el),_,by simp[newRow,newObj,Sem.run],h3,h4,?_,jN.alloc h _⟩;refine .l (us:=C.toList) hc.1 (λi u hu=>?_) (λi c u a b=>(hc.2 i c u a b).mono h3) (alp _) hl rfl;show(if w.heap.size=w.heap.size then C[0+i]? else _)=φ u;rw[if_pos rfl,apJ];simpa using hu
   split at hv;rename_i hc;obtain⟨cs,h3,rfl⟩:=Ro.1 hv;obtain⟨E,h4,h5⟩:=zF parts ps.toList _ _ cs h3 h1 h2 (vC (KH G) hc.2.2.1 (len*te.size));have hne:¬(len*te.size=0):=Λ;have hng:¬(len*te.size>16777216):=Λ;obtain⟨u,w',H,hr,r⟩:=fin E cs h5 hc.2.2.2;refine⟨u,w',H,?_,r⟩;rw[<-hr];simp[Instr.buildSlice,run_underlying fB,f_ oV,hne,hng,Gu,h4]
   ·split at hv
    ·rename_i hc;injection hv with hv;subst hv;obtain⟨rfl,rfl⟩:=hc
     have hps:ps.toList=[]:=by
      have:=h1.symm;simpa using this
     obtain⟨u,w',H,hr,r⟩:=fin #[] [] aX.nil (apE _);refine⟨u,w',H,?_,r⟩;rw[<-hr];simp[Instr.buildSlice,run_underlying fB,f_ oV,hps,Instr.fill];rw[show Array.range 0= #[]from Array.eq_empty_of_size_eq_zero z10,Array.map_empty]
    ·cases hv
  ·cases hv
 ·cases hv
def ra(tab:cB)(t:TypeId)(x:MV):Option MV:=
 match(tab t).map cg.under,x with
 | some .string,.s l=>φ (.v (Ι Κ (Ζ l)))
 | some (.slice _),.l n _ _=>φ (.v (Ι Κ n))
 | some (.slice _),.bk _ _ n _=>φ (.v (Ι Κ n))
 | some (.map _ _),.v (.map Β)=>φ (.v (Ι Κ 0))
 | some (.array n _),_=>φ (.v (Ι Κ n))
 | _,_=>Β
def aeB(ht:aN P tab){t ty:TypeId}(hv:ra tab t m=φ m')(hx:VR G m u):a_ P (Builtin.len_ #[t] ty #[u]) G m':=by
 unfold ra at hv
 have un:∀d,(tab t).map cg.under=φ d->P.underlying t=φ d:=λd hd=>by
  obtain⟨i,hi,hu⟩:=Ro.1 hd;rw[<-hu];exact(ht t i hi).under
 split at hv;injection hv with hv;subst hv;cases hx;exact a_.of (u:=.int .i64 _) (λw _=>by simp[Builtin.len_,run_underlying (un _ ‹_›),goInt];rfl) (.v rfl);injection hv with hv;subst hv;cases hx<;>exact a_.of (u:=.int .i64 _) (λw _=>by simp[Builtin.len_,run_underlying (un _ ‹_›),goInt];try rfl) (.v rfl);injection hv with hv;subst hv;cases hx;exact a_.of (u:=.int .i64 _) (λw _=>by simp[Builtin.len_,run_underlying (un _ ‹_›),goInt];try rfl) (.v rfl);injection hv with hv;subst hv;cases hx;exact a_.of (u:=.int .i64 _) (λw _=>by simp[Builtin.len_,run_underlying (un _ ‹_›),goInt];try rfl) (.v rfl);injection hv with hv;subst hv;exact a_.of (u:=.int .i64 _) (λw _=>by simp[Builtin.len_,run_underlying (un _ ‹_›),goInt];try rfl) (.v rfl);cases hv
def rW(tab:cB)(O:VH)(t:TypeId)(x:MV):Option MV:=
 match(tab t).map cg.under,x with
 | some (.map _ _),.map k=>match O.hp k with
   | some (.map es _)=>φ (.v (Ι Κ (Ζ es)))
   | _=>Β
 | _,_=>Β
def Rt(ht:aN P tab)(h:WR G O w){t ty:TypeId}(hv:rW tab O t m=φ m')(hx:VR G m u):ik P (Builtin.len_ #[t] ty #[u]) w G O m':=by
 unfold rW at hv
 have un:∀d,(tab t).map cg.under=φ d->P.underlying t=φ d:=λd hd=>by
  obtain⟨i,hi,hu⟩:=Ro.1 hd;rw[<-hu];exact(ht t i hi).under
 split at hv
 ·split at hv
  ·rename_i k es ck hk;injection hv with hv;subst hv
   cases hx with
   | map h1=>
     obtain⟨b,E,e1,e2,e3,_⟩:=h.map _ _ _ hk;rw[h1]at e1;injection e1 with e1;subst e1
     have hl:E.size=Ζ es:=by
      have:=congrArg List.length e3;simpa using this
     refine ik.of h (u:=.int .i64 (Ζ es)) ?_ (.v rfl);simp[Builtin.len_,run_underlying (un _ ‹_›),goInt,getObj,Sem.run,e2,hl]
  ·cases hv
 ·cases hv
def D9(x y:MV):Option MV:=
 match x,y with
 | .v (.int k a),.v (.int _ b)=>φ (.v (.int k (if b>a then b else a)))
 | _,_=>Β
def D_(x y:MV):Option MV:=
 match x,y with
 | .v (.int k a),.v (.int _ b)=>φ (.v (.int k (if b<a then b else a)))
 | _,_=>Β
def abU(hv:D9 m m'=φ m2)(hx:VR G m u)(hy:VR G m' v){ts:Array TypeId}{ty:TypeId}:a_ P (Builtin.max_ ts ty #[u,v]) G m2:=by
 unfold D9 at hv;split at hv;injection hv with hv;subst hv;cases hx;cases hy;exact a_.of (u:=.int _ _) (λw _=>by simp[Builtin.max_,Builtin.max2]) (.v rfl);cases hv
def abV(hv:D_ m m'=φ m2)(hx:VR G m u)(hy:VR G m' v){ts:Array TypeId}{ty:TypeId}:a_ P (Builtin.min_ ts ty #[u,v]) G m2:=by
 unfold D_ at hv;split at hv;injection hv with hv;subst hv;cases hx;cases hy;exact a_.of (u:=.int _ _) (λw _=>by simp[Builtin.min_,Builtin.min2]) (.v rfl);cases hv
def zG(op:UnOp)(x:MV):Option MV:=
 match op,x with
 | .neg,.v (.int k a)=>φ (.v (.int k (k.wrap (0 - a))))
 | .not,.v (.bool b)=>φ (.v (.bool !b))
 | _,_=>Β
def WA{op:UnOp}(hv:zG op m=φ m')(hx:VR G m u):a_ P (Op.unary op u) G m':=by
 unfold zG at hv;split at hv;injection hv with hv;subst hv;cases hx;exact a_.of (u:=.int _ _) (λw _=>by simp[Op.unary,Op.intArith]) (.v rfl);injection hv with hv;subst hv;cases hx;exact a_.of (u:=.bool _) (λw _=>by simp[Op.unary]) (.v rfl);cases hv
end
section
variable{G H:Gh}{n:Sz}{D:List Deferred}{e:Env}{a:Act}{P:Program}{tab:cB}{O O':VH}{w:World}{m m':MV}{u v:Value}
def dI(d:Nat):Option MV->Option Nat
 | none=>φ d
 | some (.v (.int _ i))=>if 0<=i then φ i.toNat else Β
 | _=>Β
def n_{d:Nat}{x:MV}(h:dI d (φ x)=φ k)(hx:VR G x u):∃kk,u= .int kk (k:Int):=by
 unfold dI at h;split at h;rename_i hh;cases hh;rename_i kk i hh;injection hh with hh;subst hh;cases hx;split at h;injection h with h;exact⟨kk,by rw[<-h];congr 1;omega⟩;cases h;cases h
def OV(G:Gh):Option MV->Option Value->Prop
 | none,Β=>True
 | some m,φ u=>VR G m u
 | _,_=>False
def xF(isS:Bool)(len cap lo hi:Nat){l h:Option MV}{hv:Option Value}(hl:dI 0 l=φ lo)(hh:dI len h=φ hi)(rl:OV G l lv)(rh:OV G h hv)(h1:lo<=hi)(h2:hi<=cap):
  ∀w,(Instr.sliceBounds isS len cap lv hv Β).run P w= .ok (lo,hi,cap) w:=by
 intro w;cases l<;>cases lv<;>simp only[OV]at rl<;>cases h<;>cases hv<;>simp only[OV]at rh;simp only[dI,Option.some.injEq]at hl hh;subst hl;subst hh;simp[Instr.sliceBounds];obtain⟨k,rfl⟩:=n_ hh rh;simp only[dI,Option.some.injEq]at hl;subst hl;have:=run_sliceBound (P:=P) w k (hi:Int) cap (if isS then .sliceAcap else .sliceAlen) Λ Λ;simp[Instr.sliceBounds,this];obtain⟨k,rfl⟩:=n_ hl rl;simp only[dI,Option.some.injEq]at hh;subst hh;have:=run_sliceBound (P:=P) w k (lo:Int) len .sliceB Λ Λ;simp[Instr.sliceBounds,this];obtain⟨k,rfl⟩:=n_ hl rl;obtain⟨k',rfl⟩:=n_ hh rh;have h3:=run_sliceBound (P:=P) w k (lo:Int) hi .sliceB Λ Λ;have h4:=run_sliceBound (P:=P) w k' (hi:Int) cap (if isS then .sliceAcap else .sliceAlen) Λ Λ;simp[Instr.sliceBounds,h3,h4]
def vD(t:Tok)(sz:Nat)(whole:Bool):Tok:=if whole then(match t with
 | .full=>.full
 | .own t k=>if k=sz then .own t k else .av
 | _=>.av)else .av
def zH(tab:cB)(t:TypeId)(x:MV)(l h:Option MV):Option MV:=
 match(tab t).map cg.under,x with
 | some .string,.s s=>match dI 0 l,dI (Ζ s) h with
   | some lo,φ hi=>if lo<=hi/\hi<=(Ζ s) then φ (.s ((s.drop lo).take (hi - lo)))else Β
   | _,_=>Β
 | some (.slice el),.l n cells tk=>match tab el,dI 0 l,dI n h with
   | some te,φ lo,φ hi=>
     if lo=0/\hi=n then φ (.l n cells tk)
     else if lo<=hi/\hi<=n/\(Ζ cells)=n*te.size then φ (.l (hi - lo) ((cells.drop (lo*te.size)).take ((hi - lo)*te.size)) (vD tk te.size (hi==n)))else Β
   | _,_,_=>Β
 | some (.slice el),.bk k o n c=>match tab el,dI 0 l,dI n h with
   | some te,φ lo,φ hi=>if lo<=hi/\hi<=c then φ (.bk k (if c=lo then o else o+lo*te.size) (hi - lo) (c - lo))else Β
   | _,_,_=>Β
 | _,_=>Β
def bm(ht:aN P tab){t:TypeId}{d:TypeDesc}(h:(tab t).map cg.under=φ d):P.underlying t=φ d:=by
 obtain⟨i,hi,hu⟩:=Ro.1 h;rw[<-hu];exact(ht t i hi).under
def WB(ht:aN P tab){t:TypeId}{l hh:Option MV}{WD:Option Value}(hv:zH tab t m l hh=φ m')(hx:VR G m u)(rl:OV G l lv)(rh:OV G hh WD):
  a_ P (Instr.sliceAt t u lv WD Β) G m':=by
 unfold zH at hv;split at hv;rename_i s hu;have fB:=bm ht hu;split at hv;rename_i lo hi h1 h2;split at hv;rename_i hc;injection hv with hv;subst hv;cases hx;refine a_.of (u:=.string ⟨⟨(s.drop lo).take (hi - lo)⟩⟩) (λw _=>?_) .s;have hb:=xF (P:=P) γ (Ζ s) (Ζ s) lo hi h1 h2 rl rh hc.1 hc.2;have hs:(⟨⟨s⟩⟩:ByteArray).size=Ζ s:=rfl;simp only[Instr.sliceAt,Instr.slice,Sem.run_bind,run_underlying fB,Result.andThen_ok,hs,hb,an6,ahB,if_false,Sem.run_pure];have:(⟨⟨s⟩⟩:ByteArray).extract lo hi=⟨⟨(s.drop lo).take (hi - lo)⟩⟩:=ByteArray.ext (by simp[ByteArray.data_extract]);rw[this];cases hv;cases hv
 ·rename_i el n' cells tk hu;have fB:=bm ht hu;split at hv
  ·rename_i te lo hi he h1 h2
   have run:∀(A:Option Addr)(c:Nat),lo<=hi->hi<=c->∀w,(Instr.sliceAt t (.slice A n' c) lv WD Β).run P w= .ok (.slice (if c=lo then A else A.map (·.add (lo*te.size))) (hi - lo) (c - lo)) w:=λA c h3 h4 w=>by
    have hb:=xF (P:=P) Α n' c lo hi h1 h2 rl rh h3 h4;simp only[Instr.sliceAt,Instr.slice,Sem.run_bind,run_underlying fB,Result.andThen_ok,hb,f_ (ht _ te he),Sem.run_pure]
   split at hv
   ·rename_i hc;injection hv with hv;subst hv;obtain⟨rfl,rfl⟩:=hc
    have fin:∀(A:Option Addr)(c:Nat),hi<=c->VR G (.l hi cells tk) (.slice A hi c)->a_ P (Instr.sliceAt t (.slice A hi c) lv WD Β) G (.l hi cells tk):=λA c hc WG=>by
     refine a_.of (λw _=>run A c (apE _) hc w) ?_
     have:(if c=0 then A else A.map (·.add (0*te.size)))=A:=by
      split;rfl;cases A<;>simp[Addr.add]
     rw[this];simpa using WG
    cases hx with
    | slnil=>exact fin _ _ (alp _) .slnil
    | qE h3=>exact fin _ _ (apE _) (.qE h3)
    | kV=>exact fin _ _ (alp _) .kV
    | l h3 h4 h5 h6 h7 h8=>exact fin _ _ h6 (.l h3 h4 h5 h6 h7 h8)
   ·split at hv
    ·rename_i hne hc;injection hv with hv;subst hv
     cases hx with
     | slnil=>exact absurd ⟨Λ,Λ⟩ hne
     | qE h3=>exact absurd ⟨Λ,Λ⟩ hne
     | kV=>exact absurd ⟨Λ,Λ⟩ hne
     | l h3 h4 h5 h6 h7 h8=>
       rename_i us c b o;refine a_.of (λw _=>run _ c hc.1 Λ w) ?_;have kO:((us.drop (lo*te.size)).take ((hi - lo)*te.size)).length=((cells.drop (lo*te.size)).take ((hi - lo)*te.size)).length:=by simp[h3]
       have apN:∀(i:Nat)(c:MV)(u:Value),((cells.drop (lo*te.size)).take ((hi - lo)*te.size))[i]?=φ c->((us.drop (lo*te.size)).take ((hi - lo)*te.size))[i]?=φ u->VR G c u:=λi c u ha hb=>by
        rw[aev]at ha hb;split at ha;rw[if_pos ‹_›]at hb;rw[ai_]at ha hb;exact h5 _ c u ha hb;cases ha
       by_cases lU:c=lo
       ·subst lU;(obtain rfl:hi=c:=by omega);rw[if_pos rfl];simp only[Nat.sub_self,Nat.zero_mul,List.take_zero];refine .l (us:=[]) rfl (λi u hu=>by simp at hu) (λi c u hu=>by simp at hu) (alp _) (apE _) ?_;unfold vD;split
        ·cases tk with
         | nil=>exact h8.elim
         | full=>rfl
         | own t k=>
           simp only;split;exact .inl rfl;trivial
         | av=>trivial
        ·trivial
       ·rw[if_neg lU];simp only[an2,Addr.add_lit];refine .l kO (λi u hu=>?_) apN Λ Λ ?_;rw[aev]at hu;split at hu;rw[ai_]at hu;rw[ats];exact h4 _ u hu;cases hu
        ·unfold vD;split
         ·rename_i hw;((have hw:hi=n':=by simpa using hw);subst hw;have hmul:(hi - lo)*te.size=(Ζ cells) - lo*te.size:=by rw[hc.2.2,Nat.sub_mul]);have ph:((cells.drop (lo*te.size)).take ((hi - lo)*te.size)).length=(hi - lo)*te.size:=by simp;omega
          have hle:lo*te.size<=hi*te.size:=Nat.mul_le_mul_right _ hc.1;cases tk with
          | nil=>exact h8.elim
          | full=>show c - lo=hi - lo;have:c=hi:=h8;omega
          | own t k=>
            simp only;split;rename_i hk;subst hk;rcases h8 with h8 | ⟨r,h9,Ea,h11⟩;exact .inl Λ;refine .inr ⟨r,?_,ph,Λ⟩;rw[h9,ph];((congr 2;congr 1);omega);trivial
          | av=>trivial
         ·trivial
    ·cases hv
  ·cases hv
 ·rename_i el k o n' c hu;have fB:=bm ht hu;split at hv
  ·rename_i te lo hi he h1 h2;split at hv
   ·rename_i hc;injection hv with hv;subst hv
    cases hx with
    | bk h3 h4 h5=>
      rename_i b;have hb:=xF (P:=P) Α n' c lo hi h1 h2 rl rh hc.1 Λ;refine a_.of (u:=.slice (if c=lo then φ ⟨b,o,Β⟩else(φ (⟨b,o,Β⟩:Addr)).map (·.add (lo*te.size))) (hi - lo) (c - lo)) (λw _=>?_) ?_;simp only[Instr.sliceAt,Instr.slice,Sem.run_bind,run_underlying fB,Result.andThen_ok,hb,f_ (ht _ te he),Sem.run_pure];split;exact .bk h3 Λ Λ;simp only[an2,Addr.add_lit];exact .bk h3 Λ Λ
   ·cases hv
  ·cases hv
 ·cases hv
def aeC:Tok->Tok
 | .nil=>.nil
 | _=>.av
def qi(tab:cB)(t:TypeId)(x:MV)(l:Option MV)(h mx:MV):Option MV:=
 match(tab t).map cg.under,h,mx with
 | some (.slice el),.v (.int _ hi),.v (.int _ m)=>match tab el,dI 0 l with
   | some te,φ lo=>if 0<=hi/\0<=m/\lo<=hi.toNat/\hi.toNat<=m.toNat then(match x with
     | .bk k o _ c=>if m.toNat<=c then φ (.bk k (if m.toNat=lo then o else o+lo*te.size) (hi.toNat - lo) (m.toNat - lo))else Β
     | .l n cells tk=>if m.toNat<=n/\(Ζ cells)=n*te.size then(if n=0 then φ (.l 0 [] (aeC tk))else if m.toNat=lo then φ (.l 0 [] .full)else φ (.l (hi.toNat - lo) ((cells.drop (lo*te.size)).take ((hi.toNat - lo)*te.size)) (if m.toNat=hi.toNat then .full else .av)))else Β
     | _=>Β)else Β
   | _,_=>Β
 | _,_,_=>Β
def Ru(ht:aN P tab){t:TypeId}{l:Option MV}{hh mx:MV}{WD mv:Value}(hv:qi tab t m l hh mx=φ m')(hx:VR G m u)(rl:OV G l lv)(rh:VR G hh WD)(rm:VR G mx mv):
  a_ P (Instr.sliceAt t u lv (φ WD) (φ mv)) G m':=by
 unfold qi at hv;split at hv
 ·rename_i el k1 hi k2 mi hu;have fB:=bm ht hu;cases rh;cases rm;split at hv
  ·rename_i te lo he h1;split at hv
   ·rename_i hc;obtain⟨c1,c2,c3,c4⟩:=hc
    have gT:lv=Β/\lo=0\/∃kk,lv=φ (.int kk (lo:Int)):=by
     cases l<;>cases lv<;>simp only[OV]at rl;simp only[dI,Option.some.injEq]at h1;exact .inl ⟨rfl,h1.symm⟩;obtain⟨kk,rfl⟩:=n_ h1 rl;exact .inr ⟨kk,rfl⟩
    have run:∀(A:Option Addr)(n' c:Nat),mi.toNat<=c->∀w,(Instr.sliceAt t (.slice A n' c) lv (φ (.int k1 hi)) (φ (.int k2 mi))).run P w= .ok (.slice (if mi.toNat=lo then A else A.map (·.add (lo*te.size))) (hi.toNat - lo) (mi.toNat - lo)) w:=λA n' c h3 w=>by
     have e1:=run_sliceBound (P:=P) w k2 mi c .slice3Acap c2 Λ;have e2:=run_sliceBound (P:=P) w k1 hi mi.toNat .slice3B c1 Λ
     have hb:(Instr.sliceBounds Α n' c lv (φ (.int k1 hi)) (φ (.int k2 mi))).run P w= .ok (lo,hi.toNat,mi.toNat) w:=by
      rcases gT with⟨rfl,rfl⟩ | ⟨kk,rfl⟩;simp[Instr.sliceBounds,e1,e2];have e3:=run_sliceBound (P:=P) w kk (lo:Int) hi.toNat .slice3C Λ Λ;simp[Instr.sliceBounds,e1,e2,e3]
     simp only[Instr.sliceAt,Instr.slice,Sem.run_bind,run_underlying fB,Result.andThen_ok,hb,f_ (ht _ te he),Sem.run_pure]
    split at hv
    ·rename_i k o n' c;split at hv
     ·rename_i Rv;injection hv with hv;subst hv
      cases hx with
      | bk h3 h4 h5=>
        rename_i b;refine a_.of (λw _=>run _ n' c Rv w) ?_;split;exact .bk h3 Λ Λ;simp only[an2,Addr.add_lit];exact .bk h3 Λ Λ
     ·cases hv
    ·rename_i n' cells tk;split at hv
     ·rename_i Rv;split at hv
      ·rename_i hn;subst hn;injection hv with hv;subst hv;have e0:mi.toNat=0:=Λ;have e1:hi.toNat=0:=Λ;have e2:lo=0:=Λ
       have fin:∀A c,VR G (.l 0 [] (aeC tk)) (.slice A 0 0)->a_ P (Instr.sliceAt t (.slice A 0 c) lv (φ (.int k1 hi)) (φ (.int k2 mi))) G (.l 0 [] (aeC tk)):=λA c hr=>by
        refine a_.of (u:=.slice A 0 0) (λw _=>?_) hr;rw[run A 0 c Λ w,e0,e1,e2];simp
       cases hx with
       | slnil=>exact fin _ _ .slnil
       | qE h3=>exact fin _ _ (.qE (apE _))
       | kV=>exact fin _ _ .kV
       | l h3 h4 h5 h6 h7 h8=>
         cases tk with
         | nil=>exact h8.elim
         | _=>exact fin _ _ (.qE (apE _))
      ·rename_i hn;split at hv
       ·rename_i nQ;injection hv with hv;subst hv
        cases hx with
        | slnil=>exact absurd rfl hn
        | qE h3=>exact absurd rfl hn
        | kV=>exact absurd rfl hn
        | l h3 h4 h5 h6 h7 h8=>
          refine a_.of (λw _=>run _ n' _ Λ w) ?_;rw[if_pos nQ,show hi.toNat - lo=0 by omega,show mi.toNat - lo=0 by omega];exact .l (us:=[]) rfl (λi u h=>by simp at h) (λi c u h=>by simp at h) (alp _) (apE _) rfl
       ·rename_i nQ;injection hv with hv;subst hv
        cases hx with
        | slnil=>exact absurd rfl hn
        | qE h3=>exact absurd rfl hn
        | kV=>exact absurd rfl hn
        | l h3 h4 h5 h6 h7 h8=>
          rename_i us c b o;refine a_.of (λw _=>run _ n' c Λ w) ?_;rw[if_neg nQ];simp only[an2,Addr.add_lit];refine .l (us:=(us.drop (lo*te.size)).take ((hi.toNat - lo)*te.size)) (by simp[h3]) (λi u hu=>?_) (λi c u ha hb=>?_) Λ Λ ?_;rw[aev]at hu;split at hu;rw[ai_]at hu;rw[ats];exact h4 _ u hu;cases hu;rw[aev]at ha hb;split at ha;rw[if_pos ‹_›]at hb;rw[ai_]at ha hb;exact h5 _ c u ha hb;cases ha;split;rename_i e;show mi.toNat - lo=hi.toNat - lo;rw[e];trivial
     ·cases hv
    ·cases hv
   ·cases hv
  ·cases hv
 ·cases hv
def sT(tab:cB)(O:VH)(t:TypeId)(l c:MV):Option (MV×VH):=
 match(tab t).map cg.under,l,c with
 | some (.slice el),.v (.int _ i),.v (.int _ j)=>match tab el with
   | some te=>if 0<=i/\i<=j/\j<=9223372036854775807/\te.bytes*j<=281474976710656/\0<(Ζ te.zero) then φ (.bk O.N 0 i.toNat j.toNat,O.push (.cells (fC te.zero (j.toNat*te.size))))else Β
   | none=>Β
 | _,_,_=>Β
def HJ(ht:aN P tab)(h:WR G O w){t:TypeId}{l c:MV}{lv cv:Value}(hv:sT tab O t l c=φ (m,O'))(hl:VR G l lv)(hc:VR G c cv):ik P (Instr.makeSlice t lv cv) w G O' m:=by
 unfold sT at hv;split at hv;rename_i el k i k' j hu;cases hl;cases hc;have fB:=bm ht hu;split at hv;rename_i te he;split at hv;rename_i hb;injection hv with hv;simp only[Prod.mk.injEq]at hv;obtain⟨rfl,rfl⟩:=hv;have oV:=ht _ te he;obtain⟨ti,z,h1,h2,h3,h4,h5,h6⟩:=oV.info;have hr:=run_make (P:=P) w t el ti z fB h1 h4 k k' i j hb.1 hb.2.1 (by rw[h3];exact hb.2.2.2.1) hb.2.2.1;rw[h2]at hr;have hz:=vC (h6 G) hb.2.2.2.2 (j.toNat*te.size);obtain⟨h7,h8⟩:=h.push el hz;exact⟨_,_,_,hr,h7,h8,.bk (aR _ _ _) Λ z13,jN.alloc h _⟩;cases hv;cases hv;cases hv
def jO(tab:cB)(O:VH)(t:TypeId)(x y:MV):Option (MV×VH):=
 match(tab t).map cg.under,y with
 | some (.slice el),.l k ds _=>match tab el,x with
   | some te,.l n cells tk=>
     if (Ζ ds)=k*te.size/\ds.all dF=Α/\0<te.size then
      if k=0 then φ (.l n cells tk,O)
      else if (Ζ cells)=n*te.size/\(n+k)*te.bytes<=140737488355328/\n+k<=maxLen then
       match tk with
       | .nil=>φ (.l (n+k) (cells++ds) (.own O.N te.size),O.push .tok)
       | .full=>φ (.l (n+k) (cells++ds) (.own O.N te.size),O.push .tok)
       | .own s k'=>if k'=te.size then match O.hp s with
         | some .tok=>φ (.l (n+k) (cells++ds) (.own O.N te.size),(O.kill s).push .tok)
         | _=>Β
         else Β
       | .av=>Β
      else Β
     else Β
   | _,_=>Β
 | _,_=>Β
def abW(h:WR G O w){cs:Η}{R:Array Value}{el:TypeId}(hc:aX G cs us)(hl:Ζ cs=N*k)(hR:R.size=r*k)(hm:N+r<=maxLen):
  ∃K,G.Le K/\WR K (O.push .tok) (w.alloc (.cells (us.toArray++R) el))/\VR K (.l N cs (.own O.N k)) (.slice (φ ⟨w.heap.size,0,Β⟩) N (N+r)):=by
 have hg:=h.grow (.cells (us.toArray++R) el);have ua:Ζ us=N*k:=by rw[hc.1,hl]
 have gK:∀o u,(if o<N*k then us[o]? else Β)=φ u->(w.alloc (.cells (us.toArray++R) el)).cell? ⟨w.heap.size,o,Β⟩=φ u:=λo u ho=>by
  rw[LW];split at ho;rw[auj z43];simpa using ho;cases ho
 obtain⟨h1,h2⟩:=hg.Hd (b:=w.heap.size) (f:=λo=>if o<N*k then us[o]? else Β) (λo u hc=>by rw[h.zy]at hc;cases hc) gK (λk _=>h.vz k)
  λt c x ht hx e=>absurd e (h.rr ht hx)
 have hb:(w.alloc (.cells (us.toArray++R) el)).heap[w.heap.size]?=φ (.cells (us.toArray++R) el (0,0)):=by rw[fZ,if_pos rfl]
 obtain⟨h3,h4⟩:=h2.Z1 (b:=w.heap.size) (f:=N*k) (k:=k) (r:=r) (C:=us.toArray++R) (T:=el) h.bsz hb (by simp[ua,hR])
  (λo ho=>by
   show(if w.heap.size=w.heap.size then(if o<N*k then us[o]? else Β)else _)=Β;rw[if_pos rfl,if_neg Λ])
  h.vz (λt c x ht hx=>h.rr ht hx)
 refine⟨_,h1.trans h3,h4,?_⟩;refine .l (us:=us) hc.1 (λi u hu=>?_) (λi c u a b=>(hc.2 i c u a b).mono (h1.trans h3)) Λ hm ?_;show(if w.heap.size=w.heap.size then(if 0+i<N*k then us[0+i]? else Β)else _)=φ u;have:=(ai8.1 hu).1;rw[if_pos rfl,apJ,if_pos Λ];exact hu;refine .inr ⟨r,?_,hl,rfl⟩;show bQ _ _ _ _=_;rw[aR,apJ,hl]
def WR.setRow(h:WR G O w){C':Array Value}{T:TypeId}(hB:G.B<=b)(hb:w.heap[b]?=φ (.cells C T (0,0)))(fK:∀j,G.cJ j≠φ b)(xC:∀t c x,O.hp t=φ .tok->G.tok t=φ (c,x)->c≠b)
  (Rr:∀o u,G.fm b o=φ u->C'[o]?=φ u):WR G O (w.setRow b C'):=by
 have ki:=setRow_heap w b C C' T (0,0) hb;have fj:∀j,j≠b->(w.setRow b C').heap[j]?=w.heap[j]?:=λj hj=>setRow_other w b j C' hj
 have mH:(w.setRow b C').heap.size=w.heap.size:=by simp[World.setRow]
 refine⟨⟨h.base.os,h.base.tape,h.base.output,by rw[mH];exact h.base.size,λj hj=>by rw[fj j (by have:j<G.B:=hj;omega)];exact h.base.block j hj⟩,λb' o u hc=>?_,h.sJ,λk c hk=>?_,h.inj,λk cs hk=>?_,λk es ck hk=>?_,λt ht=>?_,h.mX,h.qF id (λ_ _ _ _ h=>h) λk b' s hk hs=>je (λx hx=>by rw[fj _ (λe=>fK k (e▸hk))];exact hx) hs,h.tY id (λ_ _ h=>h) λk x b' hk hb hx=>by rw[fj b' (λe=>fK k (e▸hb))];exact hx,h.tX,h.HD⟩;by_cases e:b'=b;subst e;rw[cell_setRow_same w b' o C C' T (0,0) hb];exact Rr o u hc;rw[cell_setRow_other w b C' _ e];exact h.fm b' o u hc;obtain⟨h1,h2,h3⟩:=h.lx k c hk;exact⟨h1,by rw[mH];exact h2,h3⟩;obtain⟨c,D,T',h1,h2,h3⟩:=h.cells k cs hk;exact⟨c,D,T',h1,by rw[fj c (λe=>fK k (e▸h1))];exact h2,h3⟩;obtain⟨c,E,h1,h2,h3⟩:=h.map k es ck hk;exact⟨c,E,h1,by rw[fj c (λe=>fK k (e▸h1))];exact h2,h3⟩;obtain⟨c,f,k,r,D,T',h1,h2,h3,h4⟩:=h.tok t ht;exact⟨c,f,k,r,D,T',h1,h2,by rw[fj c (xC t c _ ht h1)];exact h3,h4⟩
def HK(h:WR G O w){ds:Η}{tk:Tok}(hy:VR G (.l k ds tk) v)(hl:Ζ ds=k*sz)(hk:k≠0):
  ∃ad c us,v= .slice (φ ad) k c/\aX G ds us/\(Ζ us)=k*sz/\∀j u,us[j]?=φ u->w.cell? (ad.add j)=φ u:=by
 cases hy with
 | slnil=>exact absurd rfl hk
 | qE h1=>exact absurd rfl hk
 | kV=>exact absurd rfl hk
 | l h1 h2 h3 h4 h5 h6=>exact⟨_,_,_,rfl,⟨h1,h3⟩,by rw[h1,hl],λj u hu=>by rw[Addr.add_lit];exact h.fm _ _ _ (h2 j u hu)⟩
def Rw(z:Array Value)(n:Nat):(Builtin.zeroCells z n).size=n*z.size:=by simp[Builtin.zeroCells]
def OW(h:WR G O w){t ty el:TypeId}{te:cg}(ht:P.underlying t=φ (.slice el))(oV:AH P el te){n:Nat}{cells ds:Η}{tk tk':Tok}(hx:VR G (.l n cells tk) u)(hy:VR G (.l 0 ds tk') v):
  (Builtin.append_ #[t,t] ty #[u,v]).run P w= .ok u w:=by
 obtain⟨ti,hti,_⟩:=Z2 oV w
 have run:∀(A B:Option Addr)(k c c':Nat),k<=c->(A=Β->k=0)->(Builtin.append_ #[t,t] ty #[.slice A k c,.slice B 0 c']).run P w= .ok (.slice A k c) w:=λA B k c c' hc hA=>by
  have hf:(Builtin.firstCells te.size 0 (.slice B 0 c')).run P w= .ok #[] w:=by
   cases B with
   | none=>simp[Builtin.firstCells]
   | some b=>simp[Builtin.firstCells,loadCells,loadCellsFrom]
  have hn:¬(c<k):=Λ
  cases A with
  | none=>simp[Builtin.append_,run_underlying ht,f_ oV,Builtin.lenOf,hf,hc]
  | some a=>simp[Builtin.append_,run_underlying ht,f_ oV,Builtin.lenOf,hf,hc,storeCells]
 have hu:∃A c,u= .slice A n c/\n<=c/\(A=Β->n=0):=by
  cases hx with
  | slnil=>exact⟨_,_,rfl,alp _,λ_=>rfl⟩
  | qE h1=>exact⟨_,_,rfl,apE _,λ_=>rfl⟩
  | kV=>exact⟨_,_,rfl,alp _,λ_=>rfl⟩
  | l h1 h2 h3 h4 h5 h6=>exact⟨_,_,rfl,h4,λh=>by cases h⟩
 have hv:∃B c',v= .slice B 0 c':=by
  cases hy with
  | slnil=>exact⟨_,_,rfl⟩
  | qE h1=>exact⟨_,_,rfl⟩
  | kV=>exact⟨_,_,rfl⟩
  | l h1 h2 h3 h4 h5 h6=>exact⟨_,_,rfl⟩
 obtain⟨A,c,rfl,h1,h2⟩:=hu;obtain⟨B,c',rfl⟩:=hv;exact run A B n c c' h1 h2
def Cs(h:WR G O w){t ty el:TypeId}{te:cg}(ht:P.underlying t=φ (.slice el))(oV:AH P el te){n c:Nat}{cells ds:Η}{tk':Tok}{A:Option Addr} 
  (hA:A=Β->n=0/\c=0) (kO:aX G cells us) (ua:Ζ us=n*te.size) (gK:∀ad,A=φ ad->∀j u,us[j]?=φ u->w.cell? (ad.add j)=φ u) (hy:VR G (.l k ds tk') v) (hl:Ζ ds=k*te.size) (hk:k≠0)
  (hc:c<n+k) (hb:(n+k)*te.bytes<=140737488355328) (hm:n+k<=maxLen):
  ik P (Builtin.append_ #[t,t] ty #[.slice A n c,v]) w G (O.push .tok) (.l (n+k) (cells++ds) (.own O.N te.size)):=by
 obtain⟨ti,z,h1,h2,h3,h4,h5,h6⟩:=oV.info;obtain⟨ad,c',vs,rfl,nP,sK,hvc⟩:=HK h hy hl hk;have as1:n+k<=9223372036854775807:=by simp only[maxLen]at hm;omega
 have bK:=grownCap_ge w (n+k) c el;have hle:=grownCap_le_maxLen w (n+k) c el hm;have lU:(cells++ds).length=(n+k)*te.size:=by rw[asc, <-kO.1,ua,hl,Nat.add_mul]
 obtain⟨K,g1,g2,g3⟩:=abW (r:=grownCap w (n+k) c el - (n+k)) (R:=Builtin.zeroCells z.cells (grownCap w (n+k) c el - (n+k))) (el:=el) h.drew (kO.append nP) lU (by rw[Rw,h5]) Λ;rw[show n+k+(grownCap w (n+k) c el - (n+k))=grownCap w (n+k) c el from by omega]at g3;refine⟨_,_,K,?_,g1,g2,g3,jN.alloc h.drew _⟩;cases A with
 | none=>
   obtain⟨rfl,rfl⟩:=hA rfl;have:us=[]:=apG (by simpa using ua);subst this;have hr:=run_append_nil (P:=P) w t ty el ti z ht h1 h4 ad k c' vs (by rw[h2,sK]) hvc Λ Λ (by rw[h3];simp only[apJ]at hb;omega);simpa using hr
 | some a=>
   have hr:=run_append_grow (P:=P) w t ty el ti z ht h1 h4 a n c us (by rw[h2,ua]) (gK a rfl) ad k c' vs (by rw[h2,sK]) hvc hc Λ (by rw[h3];exact growslice_fits Λ hb);simpa using hr
def OZ(h:WR G O w){t ty el:TypeId}{te:cg}(ht:P.underlying t=φ (.slice el))(oV:AH P el te){n s o:Nat}{cells ds:Η}{tk':Tok} 
  (hs:O.hp s=φ .tok) (hg:G.tok s=φ (b,o+Ζ cells,te.size,r)) (kO:aX G cells us) (ua:Ζ cells=n*te.size) (Rr:∀i u,us[i]?=φ u->G.fm b (o+i)=φ u)
  (hy:VR G (.l k ds tk') v) (hl:Ζ ds=k*te.size) (fX:ds.all dF=Α) (hk:k≠0) (hc:n+k<=n+r) (hm:n+r<=maxLen):
  ik P (Builtin.append_ #[t,t] ty #[.slice (φ ⟨b,o,Β⟩) n (n+r),v]) w G ((O.kill s).push .tok) (.l (n+k) (cells++ds) (.own O.N te.size)):=by
 obtain⟨ti,z,i1,i2,i3,i4,i5,i6⟩:=oV.info;obtain⟨ad,c',vs,rfl,nP,sK,hvc⟩:=HK h hy hl hk;obtain⟨b',f,k',r',C,T,t1,t2,t3,t4,t5,t6⟩:=h.tok s hs;rw[hg]at t1;simp only[Option.some.injEq,Prod.mk.injEq]at t1;obtain⟨rfl,rfl,rfl,rfl⟩:=t1;have hkr:k*te.size<=r*te.size:=Nat.mul_le_mul_right _ Λ;have apO:=Bq nP fX;have Z3:=run_firstCells_some (P:=P) w te.size k ad k c' vs sK hvc;have eD:=run_storeCells_at P b (o+Ζ cells) T vs 0 C w t3 (by rw[Nat.add_zero,sK];omega) apO
 have cD:(Builtin.append_ #[t,t] ty #[.slice (φ ⟨b,o,Β⟩) n (n+r),.slice (φ ad) k c']).run P w=
   .ok (.slice (φ ⟨b,o,Β⟩) (n+k) (n+r)) (w.setRow b (C.toList.take (o+Ζ cells+0)++vs++C.toList.drop (o+Ζ cells+0+Ζ vs)).toArray):=by
  have hn:k<=r:=Λ
  rw[ua]at eD;simp only[Builtin.append_,run_underlying ht,f_ oV,Builtin.lenOf,Z3,Sem.run_bind,Result.andThen_ok,Sem.run_pure,aug,Addr.add_lit,eD,ua]<;>simp[run_underlying ht,f_ oV,Builtin.lenOf,Z3,eD,hn,ua,Addr.add_lit]
 simp only[Nat.add_zero]at cD;generalize hC':(C.toList.take (o+Ζ cells)++vs++C.toList.drop (o+Ζ cells+Ζ vs)).toArray=C' at cD;have hfs:o+Ζ cells<=C.size:=Λ
 have xG:(C.toList.take (o+Ζ cells)).length=o+Ζ cells:=by simp;omega
 have hC1:∀i,i<o+(Ζ cells)->C'[i]?=C[i]?:=λi hi=>by
  rw[<-hC',aug,aul,aum Λ,aev,if_pos hi];simp
 have Rx:∀i u,vs[i]?=φ u->C'[o+Ζ cells+i]?=φ u:=λi u hu=>by
  have hi:=(ai8.1 hu).1;rw[<-hC',aug,aul,List.getElem?_append_right Λ,xG,Nat.add_sub_cancel_left,aum hi];exact hu
 have hC3:C'.size=C.size:=by rw[<-hC'];simp;omega
 have du:=h.kill s
 have HL:∀t c x,(O.kill s).hp t=φ .tok->G.tok t=φ (c,x)->c≠b:=λt c x fP WH e=>by
  subst e;(have hts:t≠s:=λe=>by subst e;rw[show(O.kill t).hp t=Β from aR _ _ _]at fP;cases fP);rw[show(O.kill s).hp t=O.hp t from az _ _ hts]at fP;exact hts (h.mX t s c x _ fP hs WH hg)
 have ca:=du.setRow (C':=C') t2 t3 t6 HL (λi u hu=>by
  have hi:i<o+Ζ cells:=by
   rcases asl i (o+Ζ cells)with h' | h';exact h';rw[t5 i h']at hu;cases hu
  rw[hC1 i hi];have:=h.fm b i u hu;simpa[World.cell?,t3]using this)
 have rU:=setRow_heap w b C C' T (0,0) t3;have ajc:∀i u,C'[i]?=φ u->(w.setRow b C').cell? ⟨b,i,Β⟩=φ u:=λi u hu=>by rw[cell_setRow_same w b i C C' T (0,0) t3];exact hu
 obtain⟨g1,g2⟩:=ca.Hd (b:=b) (f:=λi=>if i<o+(Ζ cells) then G.fm b i else if i<o+Ζ cells+(Ζ vs) then C'[i]? else Β)
  (λi u hu=>by
   have hi:i<o+Ζ cells:=by
    rcases asl i (o+Ζ cells)with h' | h';exact h';rw[t5 i h']at hu;cases hu
   rw[if_pos hi];exact hu)
  (λi u hu=>by
   split at hu;exact ca.fm b i u hu;split at hu;exact ajc i u hu;cases hu)
  (λk _=>t6 k) (λt c x fP WH e=>absurd e (HL t c _ fP WH))
 have Bv:(O.kill s).N=O.N:=rfl
 obtain⟨g3,g4⟩:=g2.Z1 (b:=b) (f:=o+Ζ cells+Ζ vs) (k:=te.size) (r:=r - k) (C:=C') (T:=T) t2 rU
  (by
   rw[hC3,sK];have:(r - k)*te.size=r*te.size - k*te.size:=Nat.sub_mul _ _ _;omega)
  (λi hi=>by
   show(if b=b then(if i<o+(Ζ cells) then G.fm b i else if i<o+Ζ cells+(Ζ vs) then C'[i]? else Β)else _)=Β;rw[if_pos rfl,if_neg Λ,if_neg Λ])
  t6 (λt c x fP WH=>HL t c x fP WH)
 refine⟨_,_,_,cD,g1.trans g3,g4,?_,λk b' Gw=>setRow_other w b b' C' (λe=>t6 k (e▸Gw))⟩;have aeD:=kO.append nP;refine .l (us:=us++vs) aeD.1 (λi u hu=>?_) (λi c u a b'=>(aeD.2 i c u a b').mono (g1.trans g3)) Λ hm ?_;show(if b=b then(if o+i<o+(Ζ cells) then G.fm b (o+i)else if o+i<o+Ζ cells+(Ζ vs) then C'[o+i]? else Β)else _)=φ u;rw[if_pos rfl];rw[List.getElem?_append]at hu;split at hu;rename_i hi;rw[kO.1]at hi;rw[if_pos Λ];exact Rr i u hu;rename_i hi;have fQ:=(ai8.1 hu).1;rw[kO.1]at hi fQ hu;rw[if_neg Λ,if_pos Λ];have:=Rx _ u hu;rw[<-this];(congr 1;omega);refine .inr ⟨r - k,?_,?_,Λ⟩;show bQ _ _ _ _=_;rw[Bv,aR];simp only[asc,nP.1];(congr 2;congr 1;omega);rw[asc,ua,hl,Nat.add_mul]
def Ry(ht:aN P tab)(h:WR G O w){t ty:TypeId}{x y:MV}(hv:jO tab O t x y=φ (m,O'))(hx:VR G x u)(hy:VR G y v):ik P (Builtin.append_ #[t,t] ty #[u,v]) w G O' m:=by
 unfold jO at hv;split at hv
 ·rename_i el k ds tk' hu;have fB:=bm ht hu;split at hv
  ·rename_i te n cells tk he;have oV:=ht _ te he;split at hv
   ·rename_i hc;split at hv;rename_i hk;simp only[Option.some.injEq,Prod.mk.injEq]at hv;obtain⟨rfl,rfl⟩:=hv;subst hk;exact ik.of h (OW h fB oV hx hy) hx
    ·rename_i hk;split at hv
     ·rename_i fz
      have grow:∀(A:Option Addr)(c:Nat)(us:List Value),(A=Β->n=0/\c=0)->aX G cells us->(∀ad,A=φ ad->∀j u,us[j]?=φ u->w.cell? (ad.add j)=φ u)->c<n+k->
        ik P (Builtin.append_ #[t,t] ty #[.slice A n c,v]) w G (O.push .tok) (.l (n+k) (cells++ds) (.own O.N te.size)):=λA c us a1 a2 a3 a4=>
       Cs h fB oV a1 a2 (by rw[a2.1,fz.1]) a3 hy hc.1 hk a4 fz.2.1 fz.2.2
      split at hv
      ·simp only[Option.some.injEq,Prod.mk.injEq]at hv;obtain⟨rfl,rfl⟩:=hv;cases hx with
       | slnil=>exact grow Β 0 [] (λ_=>⟨rfl,rfl⟩) aX.nil (λ_ h=>by cases h) Λ
       | l h1 h2 h3 h4 h5 h6=>exact h6.elim
      ·simp only[Option.some.injEq,Prod.mk.injEq]at hv;obtain⟨rfl,rfl⟩:=hv;cases hx with
       | l h1 h2 h3 h4 h5 h6=>
         rename_i us c b o;have h6:c=n:=h6;exact grow _ c us (λh=>by cases h) ⟨h1,h3⟩ (λad e j u hj=>by injection e with e;subst e;rw[Addr.add_lit];exact h.fm _ _ _ (h2 j u hj)) Λ
      ·rename_i s k';split at hv
       ·rename_i vE;subst vE;split at hv
        ·rename_i hs;simp only[Option.some.injEq,Prod.mk.injEq]at hv;obtain⟨rfl,rfl⟩:=hv;cases hx with
         | l h1 h2 h3 h4 h5 h6=>
           rename_i us c b o
           have aeE:c<n+k->ik P (Builtin.append_ #[t,t] ty #[.slice (φ ⟨b,o,Β⟩) n c,v]) w G ((O.kill s).push .tok) (.l (n+k) (cells++ds) (.own O.N te.size)):=λbI=>
            Cs (O:=O.kill s) (h.kill s) fB oV (A:=φ ⟨b,o,Β⟩) (us:=us) (λh=>by cases h) ⟨h1,h3⟩ (by rw[h1,fz.1]) (λad e j u hj=>by injection e with e;subst e;rw[Addr.add_lit];exact h.fm _ _ _ (h2 j u hj)) hy hc.1 hk bI fz.2.1 fz.2.2
           rcases h6 with h6 | ⟨r,h7,h8,h9⟩;exact aeE Λ;by_cases hr:n+k<=c;subst h9;exact OZ h fB oV hs h7 ⟨h1,h3⟩ fz.1 (λi u hi=>h2 i u hi) hy hc.1 hc.2.1 hk hr h5;exact aeE Λ
        ·cases hv
       ·cases hv
      ·cases hv
     ·cases hv
   ·cases hv
  ·cases hv
 ·cases hv
end
section
variable{G H:Gh}{n:Sz}{D:List Deferred}{e:Env}{a:Act}{P:Program}{tab:cB}{O O':VH}{w:World}{m m':MV}{u v:Value}
def Eb(tab:cB)(src dst:TypeId)(x:MV):Option MV:=
 match(tab src).map cg.under,(tab dst).map cg.under,x with
 | some _,φ (.int k),.v (.int _ i)=>φ (.v (.int k (k.wrap i)))
 | some .string,φ .string,.s l=>φ (.s l)
 | _,_,_=>Β
def abX(ht:aN P tab){src dst:TypeId}(hv:Eb tab src dst m=φ m')(hx:VR G m u):a_ P (convert src dst u) G m':=by
 unfold Eb at hv;split at hv;injection hv with hv;subst hv;cases hx;exact a_.of (u:=.int _ _) (λw _=>by simp[convert,run_underlying (bm ht ‹(tab src).map _=_›),run_underlying (bm ht ‹(tab dst).map _=_›),Conv.intToInt]) (.v rfl);injection hv with hv;subst hv;cases hx;exact a_.of (u:=.string _) (λw _=>by simp[convert,run_underlying (bm ht ‹(tab src).map _=_›),run_underlying (bm ht ‹(tab dst).map _=_›)]) .s;cases hv
def _root_.Go.Proofs.YtnfdmplcieacjaaGreatDoor.VR.jq{x u:Value}(h:VR G (.v x) u):u=x:=by cases h;rfl
def Rz(m:MV):Option MV:=
 match m with
 | .p _ _ | .dV _ _=>φ m
 | .func (.func _) _ _=>φ m
 | _=>Β
def gW{α :Type}(parts:Array (Nat×Operand))(ms:List α):List (Nat× α):=(parts.toList.map (·.1)).zip ms
def zI:MV->Option MV
 | .bk k o _ c=>if c=0 then Β else φ (.p k o)
 | .l 0 [] .nil=>φ (.v (.pointer Β))
 | _=>Β
def WI(hv:zI m=φ m')(hx:VR G m u){ts:Array TypeId}{ty:TypeId}:a_ P (Builtin.unsafeSliceData_ ts ty #[u]) G m':=by
 unfold zI at hv;split at hv
 ·split at hv;cases hv
  ·rename_i k o n c hc;injection hv with hv;subst hv
   cases hx with
   | bk h1 h2 h3=>exact a_.of (u:=.pointer (φ _)) (λw _=>by
     show Sem.run P (if c≠0 then pure (Value.pointer (φ _))else _) w=_;rw[if_pos hc];rfl) (.p h1)
 ·injection hv with hv;subst hv
  cases hx with
  | slnil=>exact a_.of (u:=.pointer Β) (λw _=>rfl) (.v rfl)
  | l h1 h2 h3 h4 h5 h6=>exact h6.elim
 ·cases hv
def ft(tab:cB)(o:Oper)(e:Env):Option MV:=
 match o.op with
 | .move x | .assign x=>ev e x
 | .pick c a b=>match ev e c with
   | some (.v (.bool t))=>if t then ev e a else ev e b
   | _=>Β
 | .nilCheck x=>(ev e x).bind Rz
 | .binOp op t x y _=>match ev e x,ev e y with
   | some p,φ q=>dK tab op t p q
   | _,_=>Β
 | .unOp op _ x=>(ev e x).bind (zG op)
 | .convert s d x=>(ev e x).bind (Eb tab s d)
 | .fieldAddr t x f=>(ev e x).bind (ka tab t f)
 | .field t x f=>(ev e x).bind (zD tab t · f)
 | .indexAddr t x i=>match ev e x,ev e i with
   | some p,φ q=>nA tab t p q
   | _,_=>Β
 | .index t x i=>match ev e x,ev e i with
   | some p,φ q=>zE tab t p q
   | _,_=>Β
 | .extract x i=>(ev e x).bind (uD · i)
 | .slice t x lo hi mx=>match ev e x,Gx lo,Gx hi,mx with
   | some p,φ l,φ h,Β=>zH tab t p l h
   | some p,φ l,φ (φ h),φ y=>(ev e y).bind (qi tab t p l h)
   | _,_,_,_=>Β
 | .build t parts=>match g_ e (parts.toList.map (·.2))with
   | some ms=>vB tab t (gW parts ms)
   | none=>Β
 | .load t x=>match ev e x with
   | some (.dV cs off)=>fq tab ⟨0,λ_=>Β⟩ t (.dV cs off)
   | _=>Β
 | .makeFunc fn fs cs=>match g_ e fs.toList,g_ e cs.toList with
   | some p,φ q=>φ (.func fn p q)
   | _,_=>Β
 | .makeInterface t x=>match(tab t).map cg.under,ev e x with
   | some (.interface _),_=>Β
   | some _,φ p=>φ (.iface t p)
   | _,_=>Β
 | .call c=>match c.callee,c.args.toList,c.argTypes.toList with
   | .builtin .len,[x],[t]=>(ev e x).bind (ra tab t)
   | .builtin .max,[x,y],_=>match ev e x,ev e y with
     | some p,φ q=>D9 p q
     | _,_=>Β
   | .builtin .min,[x,y],_=>match ev e x,ev e y with
     | some p,φ q=>D_ p q
     | _,_=>Β
   | .builtin .unsafeSliceData,[x],_=>(ev e x).bind zI
   | _,_,_=>Β
 | _=>Β
where Gx:Option Operand->Option (Option MV)
 | none=>φ Β
 | some x=>(ev e x).map φ
def He(h:FR G n D e a){x:Option Operand}{y:Option MV}(hx:ft.Gx e x=φ y):OV G y (x.map a.eval):=by
 cases x with
 | none=>injection hx with hx;subst hx;trivial
 | some x=>
   obtain⟨m,h1,rfl⟩:=Ro.1 hx;exact h.ev h1
def Fv{l:List Operand}{ms:Η}(h:g_ e l=φ ms):Ζ ms=Ζ l:=by
 induction l generalizing ms with
 | nil=>simp[g_]at h;subst h;rfl
 | cons x l ih=>
   simp only[g_,an5,an3,TR]at h;obtain⟨m,h1,ms',h2,h3⟩:=h;injection h3 with h3;subst h3;simp[ih h2]
def zip_fst{α :Type}(parts:Array (Nat×Operand))(ms:List α)(h:Ζ ms=Ζ parts.toList):(gW parts ms).map (·.1)=parts.toList.map (·.1):=by
 unfold gW;rw[show(List.map (λx:Nat× α =>x.1) ((parts.toList.map (·.1)).zip ms))=List.map Prod.fst ((parts.toList.map (·.1)).zip ms)from rfl,List.map_fst_zip];simp[h]
def RA{α :Type}(parts:Array (Nat×Operand))(ms:List α)(h:Ζ ms=Ζ parts.toList):(gW parts ms).map (·.2)=ms:=by
 unfold gW;rw[show(List.map (λx:Nat× α =>x.2) ((parts.toList.map (·.1)).zip ms))=List.map Prod.snd ((parts.toList.map (·.1)).zip ms)from rfl,List.map_snd_zip];simp[h]
def HM(a:Act)(parts:Array (Nat×Operand)):((parts.map λ(i,x)=>(i,a.eval x)).toList.map (·.1))=parts.toList.map (·.1):=by simp
def HN(a:Act)(parts:Array (Nat×Operand)):((parts.map λ(i,x)=>(i,a.eval x)).toList.map (·.2))=(parts.toList.map (·.2)).map a.eval:=by simp
def dL(P:Program)(o:Oper)(a:Act)(G:Gh)(m:MV):Prop:=∃u,VR G m u/\∀w,SS G w->(execOp a.eval o).run P w= .ok (.value u) w
def dL.of(hs:a_ P s G m)(he:execOp a.eval o=(do pure (.value (<-s)))):dL P o a G m:=by
 obtain⟨u,hu,hr⟩:=hs;exact⟨u,hu,λw hw=>by rw[he,Sem.run_bind,hr w hw];rfl⟩
def xH(ht:aN P tab)(h:FR G n D e a)(hv:ft tab o e=φ m):dL P o a G m:=by
 unfold ft at hv;split at hv;rename_i x ho;exact⟨_,h.ev hv,λw _=>by simp[execOp,ho]⟩;rename_i x ho;exact⟨_,h.ev hv,λw _=>by simp[execOp,ho]⟩;rename_i c x y ho;split at hv;rename_i t hc;have pf:=h.ev hc;have uE:a.eval c= .bool t:=pf.jq;split at hv;rename_i hb;exact⟨_,h.ev hv,λw _=>by simp[execOp,ho,asBool,uE,hb]⟩;rename_i hb;exact⟨_,h.ev hv,λw _=>by simp[execOp,ho,asBool,uE,hb]⟩;cases hv;rename_i x ho;obtain⟨p,h1,h2⟩:=TR.1 hv;have hp:=h.ev h1;generalize hu:a.eval x=u at hp;unfold Rz at h2;split at h2;injection h2 with h2;subst h2;exact⟨u,hp,λw _=>by simp only[execOp,ho,hu];cases hp;rfl⟩;injection h2 with h2;subst h2;exact⟨u,hp,λw _=>by simp only[execOp,ho,hu];cases hp;rfl⟩;injection h2 with h2;subst h2;exact⟨u,hp,λw _=>by simp only[execOp,ho,hu];cases hp;rfl⟩;cases h2;rename_i op t x y yt ho;split at hv;rename_i p q h1 h2;exact dL.of (aez (xo:=x) (yo:=y) ht hv (h.ev h1) (h.ev h2)) z15;cases hv;rename_i op t x ho;obtain⟨p,h1,h2⟩:=TR.1 hv;exact dL.of (WA h2 (h.ev h1)) z15;rename_i s d x ho;obtain⟨p,h1,h2⟩:=TR.1 hv;exact dL.of (abX ht h2 (h.ev h1)) z15;rename_i t x f ho;obtain⟨p,h1,h2⟩:=TR.1 hv;exact dL.of (HH ht h2 (h.ev h1)) z15;rename_i t x f ho;obtain⟨p,h1,h2⟩:=TR.1 hv;exact dL.of (Wv ht h2 (h.ev h1)) z15;rename_i t x i ho;split at hv;rename_i p q h1 h2;exact dL.of (HI ht hv (h.ev h1) (h.ev h2)) z15;cases hv;rename_i t x i ho;split at hv;rename_i p q h1 h2;exact dL.of (Ww ht hv (h.ev h1) (h.ev h2)) z15;cases hv;rename_i x i ho;obtain⟨p,h1,h2⟩:=TR.1 hv;exact dL.of (OT h2 (h.ev h1)) z15
 ·rename_i t x lo hi mx ho;split at hv;rename_i p l hh h1 h2 h3;exact dL.of (WB ht hv (h.ev h1) (He h h2) (He h h3)) z15
  ·rename_i p l hh y h1 h2 h3;obtain⟨q,h4,h5⟩:=TR.1 hv;have h6:=He h h3;cases hi with
   | none=>cases h3
   | some hi=>exact dL.of (Ru ht h5 (h.ev h1) (He h h2) h6 (h.ev h4)) z15
  ·cases hv
 ·rename_i t parts ho;split at hv;rename_i ms h1;have hl:=Fv h1;((((have HO:Ζ ms=Ζ parts.toList:=by simpa using hl);refine dL.of (Wx ht hv (ps:=parts.map λ(i,x)=>(i,a.eval x)) ?_ ?_) z15);rw[zip_fst parts ms HO,HM]);rw[RA parts ms HO,HN];exact h.g_ h1);cases hv
 ·rename_i t x ho;split at hv;rename_i cs off h1;exact dL.of (Wt ht hv (h.ev h1)) z15;cases hv
 ·rename_i fn fs cs ho;split at hv;rename_i p q h1 h2;injection hv with hv;subst hv;have e1:=h.g_ h1;have e2:=h.g_ h2;refine⟨.func fn (fs.toList.map a.eval).toArray (cs.toList.map a.eval).toArray,.func e1.1 e1.2 e2.1 e2.2,λw _=>?_⟩;(((have f1:fs.map a.eval=(fs.toList.map a.eval).toArray:=by apply aja;simp);have f2:cs.map a.eval=(cs.toList.map a.eval).toArray:=by apply aja;simp);simp only[execOp,ho,Instr.makeFunc,f1,f2];rfl);cases hv
 ·rename_i t x ho;split at hv;cases hv
  ·rename_i d p hne hd h1;injection hv with hv;subst hv;have fB:=bm ht hd;refine dL.of (s:=Instr.makeInterface t (a.eval x)) (a_.of (u:=.iface t (a.eval x)) (λw _=>?_) (.iface (h.ev h1))) z15;simp only[Instr.makeInterface,Sem.run_bind,run_underlying fB,Result.andThen_ok]
   cases d<;>first
    | rfl
    | (rename_i ms;exact absurd hd (hne ms))
  ·cases hv
 ·rename_i c ho;split at hv;rename_i x t hc jL RB;obtain⟨p,h1,h2⟩:=TR.1 hv;((((((have ha:c.args= #[x]:=by apply aja;exact jL);have gk:c.argTypes= #[t]:=by apply aja;exact RB);exact dL.of (aeB (ty:=o.type) ht h2 (h.ev h1)) z32);rename_i x y hc jL;split at hv;rename_i p q h1 h2;((have ha:c.args= #[x,y]:=by apply aja;exact jL);exact dL.of (abU (ts:=c.argTypes) (ty:=o.type) hv (h.ev h1) (h.ev h2)) z35);cases hv);rename_i x y hc jL;split at hv;rename_i p q h1 h2;((have ha:c.args= #[x,y]:=by apply aja;exact jL);exact dL.of (abV (ts:=c.argTypes) (ty:=o.type) hv (h.ev h1) (h.ev h2)) z35);cases hv);rename_i x hc jL;obtain⟨p,h1,h2⟩:=TR.1 hv;(have ha:c.args= #[x]:=by apply aja;exact jL);exact dL.of (WI (ts:=c.argTypes) (ty:=o.type) h2 (h.ev h1)) z35);cases hv
 ·cases hv
end
open Go.MapKept (IsKey run_checkKey run_findKey run_setObj_map)
section
variable{G H:Gh}{n:Sz}{D:List Deferred}{e:Env}{a:Act}{P:Program}{tab:cB}{O O':VH}{w:World}{m m':MV}{u v:Value}
def qH{w:World}(o:Obj)(h:j≠b):({w with heap:=w.heap.setIfInBounds b o}:World).heap[j]?=w.heap[j]?:=
 as0 (Ne.symm h)
def xI{w:World}{x:Obj}(o:Obj)(h:w.heap[b]?=φ x):({w with heap:=w.heap.setIfInBounds b o}:World).heap[b]?=φ o:=
 Array.getElem?_setIfInBounds_self_of_lt (sR h)
def wE{w:World}(o:Obj){a:Addr}(h:a.block≠b):({w with heap:=w.heap.setIfInBounds b o}:World).cell? a=w.cell? a:=by
 unfold World.cell?;rw[qH o h]
abbrev Bw:=List (MV×MV×Nat)
structure h_(G:Gh)(es:Bw)(E:List MapEntry):Prop where
 born:E.map (·.born)=es.map (·.2.2)
 key:aX G (es.map (·.1)) (E.map (·.key))
 val:aX G (es.map (·.2.1)) (E.map (·.val))
def h_.nil:h_ G [] []:=⟨rfl,aX.nil,aX.nil⟩
def h_.cons{x:MV×MV×Nat}{y:MapEntry}{es:Bw}(h1:y.born=x.2.2)(h2:VR G x.1 y.key)(h3:VR G x.2.1 y.val)(h:h_ G es E):h_ G (x::es) (y::E):=
 ⟨by rw[apH,apH,h1,h.born],aX.cons h2 h.key,aX.cons h3 h.val⟩
def h_.eX{x:MV×MV×Nat}{es:Bw}(h:h_ G (x::es) E):∃y E',E=y::E'/\y.born=x.2.2/\VR G x.1 y.key/\VR G x.2.1 y.val/\h_ G es E':=by
 cases E with
 | nil=>have:=h.born;simp at this
 | cons y E=>
   have h1:=h.born;simp only[apH,List.cons.injEq]at h1;exact⟨y,E,rfl,h1.1,h.key.head,h.val.head,⟨h1.2,h.key.tail,h.val.tail⟩⟩
def h_.jd(h:h_ G [] E):E=[]:=by
 cases E with
 | nil=>rfl
 | cons y E=>have:=h.born;simp at this
def h_.append{es fs:Bw}{F:List MapEntry}(h:h_ G es E)(k:h_ G fs F):h_ G (es++fs) (E++F):=
 ⟨by simp[h.born,k.born],by simpa using aX.append h.key k.key,by simpa using aX.append h.val k.val⟩
def WR.vF(h:WR G O w){ck ck':Nat}{es KI:Bw}{E':Array MapEntry}{x:Obj}(hk:O.hp k=φ (.map es ck))(hp:G.cJ k=φ b)(hb:w.heap[b]?=φ x)(hr:h_ G KI E'.toList):
  WR G (O.set k (.map KI ck')) {w with heap:=w.heap.setIfInBounds b (.map E' ck')}:=by
 have hne:∀j b',j≠k->O.hp j≠Β->G.cJ j=φ b'->b'≠b:=λj b' hj lj rU e=>hj (h.inj j k b lj z22 (e▸rU) hp)
 have mF:∀j,bQ O.hp k (φ (.map KI ck')) j≠Β->O.hp j≠Β:=λj hn=>by
  by_cases e:j=k;subst e;rw[hk];simp
  ·rwa [az _ _ e]at hn
 have ki:=xI (.map E' ck') hb;have fj:∀j,j≠b->({w with heap:=w.heap.setIfInBounds b (.map E' ck')}:World).heap[j]?=w.heap[j]?:=λj hj=>qH _ hj
 have hB:=(h.lx k b hp).1
 have KJ:∀b' s,w.shape? b'=φ s->b'≠b:=λb' s hs e=>by
  subst e;obtain⟨b2,E,g1,g2,_⟩:=h.map k es ck hk;rw[hp]at g1;injection g1 with g1;subst g1;simp only[World.shape?,g2]at hs;cases hs
 refine⟨⟨h.base.os,h.base.tape,h.base.output,by simpa using h.base.size,λj hj=>?_⟩,λb' o u' pf=>?_,λj hj=>?_,λj b' hj=>?_,λj k' b' lj lk=>h.inj j k' b' (mF j lj) (mF k' lk),λj ds hj=>?_,λj es2 ck2 hj=>?_,λt ht=>?_,λs t b' x y hs ht=>?_,h.qF id (ni z10) λj b' s hj hs=>je (λx hx=>by rw[fj _ (KJ b' s hs)];exact hx) hs,h.tY id (xB z10) λj x b' hj hb hx=>by rw[fj b' (λe=>by have:=h.inj j k b z40 z22 (e▸hb) hp;subst this;rw[hk]at hj;cases hj)];exact hx,h.tX,h.tZ (Gh.Le.refl _) (ny z10)⟩;rw[fj j Λ];exact h.base.block j hj
 ·(have xD:b'≠b:=λe=>by subst e;rw[(h.lx k b' hp).2.2 z22 o]at pf;cases pf);rw[wE _ (by exact xD)];exact h.fm b' o u' pf
 ·obtain⟨d1,d2,d3⟩:=h.sJ j hj;refine⟨d1,d2,?_⟩;show bQ _ _ _ _=_;rw[az _ _ (λe=>by subst e;rw[d3]at hk;cases hk)];exact d3
 ·obtain⟨p1,p2,p3⟩:=h.lx j b' hj;refine⟨p1,by simpa using p2,λhne=>p3 ?_⟩;have hne:bQ O.hp k (φ (.map KI ck')) j≠Β:=hne;by_cases e:j=k;subst e;rw[hk];simp
  ·rwa [az _ _ e]at hne
 ·have hj:bQ O.hp k (φ (.map KI ck')) j=φ (.cells ds):=hj;by_cases e:j=k;subst e;rw[aR]at hj;cases hj;rw[az _ _ e]at hj;obtain⟨b',C,T,d1,d2,d3⟩:=h.cells j ds hj;exact⟨b',C,T,d1,by rw[fj _ (hne j b' e z40 d1)];exact d2,d3⟩
 ·have hj:bQ O.hp k (φ (.map KI ck')) j=φ (.map es2 ck2):=hj;by_cases e:j=k;subst e;rw[aR]at hj;injection hj with hj;injection hj with hj bu;subst hj;subst bu;exact⟨b,E',hp,ki,hr.born,hr.key,hr.val⟩;rw[az _ _ e]at hj;obtain⟨b',D,d1,d2,d3⟩:=h.map j es2 ck2 hj;exact⟨b',D,d1,by rw[fj _ (hne j b' e z40 d1)];exact d2,d3⟩
 ·have ht:bQ O.hp k (φ (.map KI ck')) t=φ .tok:=ht;(have e:t≠k:=λe=>by subst e;rw[aR]at ht;cases ht);rw[az _ _ e]at ht;obtain⟨b',f,k',r,D,T',d1,d2,d3,d4,d6,d7⟩:=h.tok t ht;exact⟨b',f,k',r,D,T',d1,d2,by rw[fj _ (λe=>d7 k (by rw[e];exact hp))];exact d3,d4,d6,d7⟩
 ·have hs:bQ O.hp k (φ (.map KI ck')) s=φ .tok:=hs;have ht:bQ O.hp k (φ (.map KI ck')) t=φ .tok:=ht;((have e:t≠k:=λe=>by subst e;rw[aR]at ht;cases ht);have e':s≠k:=λe=>by subst e;rw[aR]at hs;cases hs);rw[az _ _ e]at ht;rw[az _ _ e']at hs;exact h.mX s t b' x y hs ht
def WR.aeF(h:WR G O w):G.Le {G with cJ:=bQ G.cJ O.N (φ w.heap.size)}/\WR {G with cJ:=bQ G.cJ O.N (φ w.heap.size)} (O.push (.map [] 0)) (w.alloc (.map #[] 0)):=by
 have hle:=Gh.Le.OQ h.pd.1 w.heap.size;have hg:=h.grow (.map #[] 0)
 have fK:∀k b,bQ G.cJ O.N (φ w.heap.size) k=φ b->(k=O.N/\b=w.heap.size)\/(k≠O.N/\G.cJ k=φ b):=λk b hk=>by
  by_cases e:k=O.N;subst e;rw[aR]at hk;injection hk with hk;exact .inl ⟨rfl,hk.symm⟩;rw[az _ _ e]at hk;exact .inr ⟨e,hk⟩
 have Wr:∀o,G.fm w.heap.size o=Β:=h.zy
 refine⟨hle,hg.base,hg.fm,λk hk=>?_,λk b hk=>?_,λj k b lj lk hj hk=>?_,λk ds hk=>?_,λk es ck hk=>?_,λt ht=>?_,λs t b x y hs ht h1 h2=>?_,h.qF hle.cJ (ni z10) λ_ _ _ _=>je λ_=>eg w _,h.tY hle.cJ (xB z10) λ_ _ _ _ _=>eg w _,h.tX,h.tZ hle (ny z10)⟩;have hk:O.N+1<=k:=hk;obtain⟨h1,h2,h3⟩:=h.sJ k Λ;exact⟨by show bQ _ _ _ _=_;rw[az _ _ Λ];exact h1,h2,by show bQ _ _ _ _=_;rw[az _ _ Λ];exact h3⟩;rcases fK k b hk with⟨_,rfl⟩ | ⟨du,hk⟩;exact⟨h.bsz,z10,λ_=>Wr⟩;obtain⟨p1,p2,p3⟩:=hg.lx k b hk;exact⟨p1,p2,λhne=>p3 (by have hne:bQ O.hp O.N (φ (.map [] 0)) k≠Β:=hne;rwa [az _ _ du]at hne)⟩;rcases fK j b hj with⟨rfl,rfl⟩ | ⟨ew,hj⟩<;>rcases fK k _ hk with⟨rfl,hb⟩ | ⟨du,hk⟩;rfl;have:=(h.lx _ _ hk).2.1;omega;subst hb;have:=(h.lx _ _ hj).2.1;omega;exact h.inj j k b (by have lj:bQ O.hp O.N (φ (.map [] 0)) j≠Β:=lj;rwa [az _ _ ew]at lj) (by have lk:bQ O.hp O.N (φ (.map [] 0)) k≠Β:=lk;rwa [az _ _ du]at lk) hj hk;have hk:bQ O.hp O.N (φ (.map [] 0)) k=φ (.cells ds):=hk;by_cases e:k=O.N;subst e;rw[aR]at hk;cases hk;rw[az _ _ e]at hk;obtain⟨b,C,T,h1,h2,h3⟩:=hg.cells k ds hk;exact⟨b,C,T,hle.cJ h1,h2,h3.mono hle⟩;have hk:bQ O.hp O.N (φ (.map [] 0)) k=φ (.map es ck):=hk;by_cases e:k=O.N;subst e;rw[aR]at hk;injection hk with hk;injection hk with hk bC;subst hk;subst bC;exact⟨w.heap.size, #[],aR _ _ _,by rw[fZ,if_pos rfl],rfl,aX.nil,aX.nil⟩;rw[az _ _ e]at hk;obtain⟨b,E,h1,h2,h3,h4,h5⟩:=hg.map k es ck hk;exact⟨b,E,hle.cJ h1,h2,h3,h4.mono hle,h5.mono hle⟩;have ht:bQ O.hp O.N (φ (.map [] 0)) t=φ .tok:=ht;by_cases e:t=O.N;subst e;rw[aR]at ht;cases ht;rw[az _ _ e]at ht;obtain⟨b,f,k,r,D,T',h1,h2,h3,h4,h6,h7⟩:=hg.tok t ht;obtain⟨_,_,_,_,_,_,h1',_,oU,_⟩:=h.tok t ht;refine⟨b,f,k,r,D,T',h1,h2,h3,h4,h6,λj hj=>?_⟩;rcases fK j b hj with⟨_,rfl⟩ | ⟨_,hj⟩;rw[h1]at h1';injection h1' with e1;injection e1 with e1 _;subst e1;have:=sR oU;omega;exact h7 j hj;have hs:bQ O.hp O.N (φ (.map [] 0)) s=φ .tok:=hs;have ht:bQ O.hp O.N (φ (.map [] 0)) t=φ .tok:=ht;((have es:s≠O.N:=λe=>by subst e;rw[aR]at hs;cases hs);have et:t≠O.N:=λe=>by subst e;rw[aR]at ht;cases ht);rw[az _ _ es]at hs;rw[az _ _ et]at ht;exact h.mX s t b x y hs ht h1 h2
def bytes_beq(a b:Ρ):((⟨⟨a⟩⟩:ByteArray)==⟨⟨b⟩⟩)=(a==b):=by
 show((⟨a⟩:Array UInt8)==⟨b⟩)=(a==b);rw[Bool.eq_iff_iff,beq_iff_eq,beq_iff_eq,Array.mk.injEq]
def O_(d:TypeDesc)(x y:MV):Option Bool:=
 match d,x,y with
 | .int _,.v (.int k a),.v (.int k' b)=>if k=k' then φ (a==b)else Β
 | .string,.s a,.s b=>φ (a==b)
 | _,_,_=>Β
def L2{d:TypeDesc}{x y:MV}{u v:Value}{b:Bool}(h:O_ d x y=φ b)(hx:VR G x u)(hy:VR G y v):Instr.sameNow d u v=φ b/\(b=Α->Instr.sameBits 10000 v u=Α):=by
 unfold O_ at h;split at h;split at h;rename_i he;subst he;injection h with h;cases hx;cases hy;refine⟨by simp[Instr.sameNow,h],λhb=>?_⟩;rw[hb]at h;have:=eq_of_beq h;subst this;simp[Instr.sameBits];cases h;injection h with h;cases hx;cases hy;refine⟨by rw[<-h];exact congrArg φ (bytes_beq _ _),λhb=>?_⟩;rw[hb]at h;have:=eq_of_beq h;subst this;show((_:ByteArray)==_)=Α;rw[bytes_beq];exact h;cases h
def xJ(d:TypeDesc)(k:MV):Bw->Nat->Option (Option (Nat×MV))
 | [],_=>φ Β
 | e::es,i=>match O_ d k e.1 with
   | some Α=>φ (φ (i,e.2.1))
   | some γ=>xJ d k es (i+1)
   | none=>Β
def uF{d:TypeDesc}{k:MV}{kv:Value}(hk:VR G k kv):∀{es:Bw} {E:List MapEntry} {i:Nat} {r:Option (Nat×MV)},xJ d k es i=φ r->h_ G es E->
  match r with
  | none=>Instr.findNow d kv E i=φ Β
  | some (j,m)=>∃v,Instr.findNow d kv E i=φ (φ (j,v))/\VR G m v/\i<=j/\(E[j - i]?).map (λe=>Instr.sameBits 10000 e.key kv)=φ Α/\j - i<Ζ E
 | [],E,i,r,h,hr=>by
   rw[hr.jd];injection h with h;subst h;rfl
 | x::es,E,i,r,h,hr=>by
   obtain⟨y,E',rfl,h1,h2,h3,h4⟩:=hr.eX;rw[xJ]at h;split at h;rename_i hs;injection h with h;subst h;obtain⟨g1,g3⟩:=L2 hs hk h2;exact⟨y.val,by simp[Instr.findNow,g1],h3,alp _,by simp[g3],z10⟩
   ·rename_i hs;obtain⟨g1,_⟩:=L2 hs hk h2;have ih:=uF hk h h4;cases r with
    | none=>simp only[Instr.findNow,g1];exact ih
    | some p=>
      obtain⟨j,m⟩:=p;obtain⟨v,i1,i2,i3,i4,i5⟩:=ih;refine⟨v,by simp only[Instr.findNow,g1];exact i1,i2,Λ,?_,by simp;omega⟩;rw[show j - i=(j - (i+1))+1 by omega,auq];exact i4
   ·cases h
def Ct(d:TypeDesc)(k:MV):Bool:=
 match d,k with
 | .int k,.v (.int k' _)=>decide (k'=k)
 | .string,.s _=>Α
 | _,_=>γ
def Cu{d:TypeDesc}{k:MV}(h:Ct d k=Α)(hk:VR G k kv):IsKey d kv:=by
 unfold Ct at h;split at h;cases hk;simpa[IsKey]using h;cases hk;simp[IsKey];cases h
def Cv(i:cg):Option MV:=if fA i.under then φ (.agg i.zero)else i.zero[0]?
def Bx{t:TypeId}{i:cg}(h:AH P t i)(hm:Cv i=φ m):∃z,(∀w,(zeroValue t).run P w= .ok z w)/\∀G,VR G m z:=by
 obtain⟨ti,z,h1,_,_,h4,h5,h6⟩:=h.info;refine⟨z,λw=>by simp[zeroValue,typeInfo,h1,h4],λG=>?_⟩;obtain⟨w1,w2⟩:=h.whole ti z h1 h4;have h6:=h6 G;unfold Cv at hm;split at hm;rename_i ha;injection hm with hm;subst hm;obtain⟨cs,rfl⟩:=w1 ha;exact VR.agg h6.1 h6.2;rename_i ha;(((have ha:fA i.under=γ:=by simpa using ha);rw[w2 ha]at h6;obtain⟨u,hu,hv⟩:=h6.get hm;have:Ζ i.zero=1:=by have:=h6.1;simpa using this.symm);have h0:(0:Nat)<1:=by omega);simp only[Array.toList,aup,Option.some.injEq]at hu;subst hu;exact hv
def mapOf(O:VH):MV->Option Bw
 | .v (.map Β)=>φ []
 | .map b=>match O.hp b with
   | some (.map es _)=>φ es
   | _=>Β
 | _=>Β
def jP(tab:cB)(O:VH)(t:TypeId)(x k:MV)(ok:Bool):Option MV:=
 match(tab t).map cg.under with
 | some (.map kt et)=>match(tab kt).map cg.under,tab et with
   | some kd,φ te=>
     match Ct kd k,(mapOf O x).bind (xJ kd k · 0)with
     | true,φ (φ (_,m))=>φ (if ok then .tuple [m,.v (.bool Α)]else m)
     | true,φ Β=>(Cv te).map λz=>if ok then .tuple [z,.v (.bool γ)]else z
     | _,_=>Β
   | _,_=>Β
 | _=>Β
def vG(ht:aN P tab){t:TypeId}{d:TypeDesc}(h:(tab t).map cg.under=φ d):P.underlying t=φ d:=by
 obtain⟨i,hi,hu⟩:=Ro.1 h;rw[<-hu];exact(ht t i hi).under
def AI(ht:aN P tab)(h:WR G O w){t:TypeId}{x k:MV}{ok:Bool}{u:Value}(hv:jP tab O t x k ok=φ m)(hx:VR G x u)(hk:VR G k kv):∃r,VR G m r/\∀y,Sx G w y->(Instr.lookup t u kv ok).run P y= .ok r y:=by
 unfold jP at hv;split at hv
 ·rename_i kt et hmt;have hU:=vG ht hmt;split at hv
  ·rename_i kd te Am oV;have hK:=vG ht Am
   have cD:∀(es:Bw),mapOf O x=φ es->∃E:Array MapEntry,h_ G es E.toList/\((u= .map Β/\E= #[])\/∃r ck,u= .map (φ r)/\∀y,Sx G w y->y.heap[r]?=φ (.map E ck)):=by
    intro es HP;unfold mapOf at HP;split at HP;injection HP with HP;subst HP;cases hx;exact⟨#[],h_.nil,.inl ⟨rfl,rfl⟩⟩
    ·rename_i b;split at HP
     ·rename_i KI ck hb;injection HP with HP;subst HP
      cases hx with
      | map h1=>
        obtain⟨b',E,e1,e2,e3,e4,e5⟩:=h.map _ _ _ hb;rw[h1]at e1;injection e1 with e1;subst e1;exact⟨E,⟨e3,e4,e5⟩,.inr ⟨_,_,rfl,λy hy=>(hy.2 _ _ h1).trans e2⟩⟩
     ·cases HP
    ·cases HP
   split at hv;(((·rename_i j m2 Ec hf;injection hv with hv;obtain⟨es,h1,h2⟩:=TR.1 hf;obtain⟨E,hE,hK2⟩:=cD es h1;obtain⟨v,f1,f2,_⟩:=uF hk h2 hE;have rb:=Cu Ec hk;refine⟨if ok then .tuple #[v,.bool Α]else v,?_,λy hy=>?_⟩;rotate_left;rcases hK2 with⟨rfl,rfl⟩ | ⟨r,ck,rfl,hb⟩;simp only[Instr.lookup,Sem.run_bind,run_underlying hU,Result.andThen_ok,run_checkKey hK rb,run_findKey hK f1,Sem.run_pure];simp only[Instr.lookup,Sem.run_bind,run_underlying hU,Result.andThen_ok,MapKept.run_getObj_map (hb y hy),run_checkKey hK rb,run_findKey hK f1,Sem.run_pure];subst hv;cases ok;exact f2;exact VR.tuple (us:=[v,.bool Α]) rfl (aX.cons f2 (aX.cons (.v rfl) aX.nil)).2));(·rename_i Ec hf;obtain⟨z,hz,hzm⟩:=Ro.1 hv;obtain⟨es,h1,h2⟩:=TR.1 hf;obtain⟨E,hE,hK2⟩:=cD es h1;have f1:=uF hk h2 hE;have rb:=Cu Ec hk;obtain⟨zv,z1,z2⟩:=Bx (ht et te oV) hz;refine⟨if ok then .tuple #[zv,.bool γ]else zv,?_,λy hy=>?_⟩;rotate_left;rcases hK2 with⟨rfl,rfl⟩ | ⟨r,ck,rfl,hb⟩;simp only[Instr.lookup,Sem.run_bind,run_underlying hU,Result.andThen_ok,run_checkKey hK rb,run_findKey hK f1,Sem.run_pure,z1];simp only[Instr.lookup,Sem.run_bind,run_underlying hU,Result.andThen_ok,MapKept.run_getObj_map (hb y hy),run_checkKey hK rb,run_findKey hK f1,Sem.run_pure,z1];subst hzm;cases ok;exact z2 G;exact VR.tuple (us:=[zv,.bool γ]) rfl (aX.cons (z2 G) (aX.cons (.v rfl) aX.nil)).2));cases hv
  ·cases hv
 ·cases hv
def RD(ht:aN P tab)(h:WR G O w){t:TypeId}{x k:MV}{ok:Bool}{u:Value}(hv:jP tab O t x k ok=φ m)(hx:VR G x u)(hk:VR G k kv):alr P (Instr.lookup t u kv ok) w G m:=by
 obtain⟨r,h1,h2⟩:=AI (P:=P) ht h hv hx hk;exact⟨r,h2 w h.sx,h1⟩
def setAt(es:Bw)(i:Nat)(k v:MV):Bw:=es.modify i λe=>(k,v,e.2.2)
def fl(tab:cB)(O:VH)(t:TypeId)(x k y:MV):Option VH:=
 match(tab t).map cg.under,x with
 | some (.map kt _),.map b=>match(tab kt).map cg.under,O.hp b with
   | some kd,φ (.map es ck)=>match Ct kd k,xJ kd k es 0 with
     | true,φ (φ (i,_))=>φ (O.set b (.map (setAt es i k y) ck))
     | true,φ Β=>φ (O.set b (.map (es++[(k,y,ck)]) (ck+1)))
     | _,_=>Β
   | _,_=>Β
 | _,_=>Β
def h_.modify{k y:MV}{kv yv:Value}(hk:VR G k kv)(hy:VR G y yv):∀{es:Bw} {E:List MapEntry} (i:Nat),h_ G es E->h_ G (setAt es i k y) (E.modify i λe=>{e with key:=kv,val:=yv})
 | [],E,i,h=>by rw[h.jd];simpa[setAt]using h_.nil
 | x::es,E,i,h=>by
   obtain⟨z,E',rfl,h1,h2,h3,h4⟩:=h.eX;cases i with
   | zero=>simp only[setAt,List.modify_zero_cons];exact h_.cons h1 hk hy h4
   | succ i=>
     simp only[setAt,List.modify_succ_cons];exact h_.cons h1 h2 h3 (h_.modify hk hy i h4)
def xK(ht:aN P tab)(h:WR G O w){t:TypeId}{x k y:MV}{u yv:Value}(hv:fl tab O t x k y=φ O')(hx:VR G x u)(hk:VR G k kv)(hy:VR G y yv):OS P (Instr.mapUpdate t u kv yv) w G O':=by
 unfold fl at hv;split at hv
 ·rename_i kt et b hmt;have hU:=vG ht hmt;split at hv
  ·rename_i kd es ck Am hb;have hK:=vG ht Am;cases hx with
   | map h1=>
     obtain⟨b',E,e1,e2,e3,e4,e5⟩:=h.map _ _ _ hb;rw[h1]at e1;injection e1 with e1;subst e1;have hE:h_ G es E.toList:=⟨e3,e4,e5⟩;split at hv
     ·rename_i i m Ec hf;injection hv with hv;subst hv;obtain⟨v,f1,f2,f3,f4,f5⟩:=uF hk hf hE;have rb:=Cu Ec hk;simp only[Nat.sub_zero]at f4 f5;have mH:i<E.size:=by simpa using f5
      have vE:Instr.sameBits 10000 (((E[i]?).map (·.key)).getD kv) kv=Α:=by
       rw[an7 mH];simp only[Array.getElem?_toList,an7 mH,an2,Option.some.injEq]at f4;exact f4
      have hr:h_ G (setAt es i k y) (E.modify i λe=>{e with key:=kv,val:=yv}).toList:=by
       have:=h_.modify hk hy i hE
       rwa [<-Array.toList_modify]at this
      refine⟨_,G,?_,Gh.Le.refl G,h.vF (ck':=ck) hb h1 e2 hr⟩;simp only[Instr.mapUpdate,Sem.run_bind,run_underlying hU,Result.andThen_ok,MapKept.run_getObj_map e2,run_checkKey hK rb,run_findKey hK f1];rw[Instr.keyThatStays,if_pos vE];simp only[Sem.run_pure,Result.andThen_ok,run_setObj_map _ e2]
     ·rename_i Ec hf;injection hv with hv;subst hv;have f1:=uF hk hf hE;have rb:=Cu Ec hk
      have hr:h_ G (es++[(k,y,ck)]) (E.push {key:=kv,val:=yv,born:=ck}).toList:=by
       rw[Array.toList_push];exact hE.append (h_.cons rfl hk hy h_.nil)
      refine⟨_,G,?_,Gh.Le.refl G,h.vF (ck':=ck+1) hb h1 e2 hr⟩;simp only[Instr.mapUpdate,Sem.run_bind,run_underlying hU,Result.andThen_ok,MapKept.run_getObj_map e2,run_checkKey hK rb,run_findKey hK f1,run_setObj_map _ e2]
     ·cases hv
  ·cases hv
 ·cases hv
def Pb(h:WR G O w){t:TypeId}:ik P (Instr.makeMap t Β) w G (O.push (.map [] 0)) (.map O.N):=by
 obtain⟨h1,h2⟩:=h.aeF;exact⟨_,_,_,by simp[Instr.makeMap,newObj,Sem.run],h1,h2,.map (aR _ _ _),jN.alloc h _⟩
end
section
variable{G H:Gh}{n:Sz}{D:List Deferred}{e e':Env}{a:Act}{P:Program}{tab:cB}{O O':VH}{w:World}{m m':MV}{u v:Value}
def gd:Η->Bool
 | [.v (.pointer Β),.l 0 [] .nil]=>Α
 | _=>γ
def zJ(O:VH)(t:TypeId)(n:Nat)(z:Η):VH:=bif gd z then(O.push (.cells z)).push (.shape O.N t n)else O.push (.cells z)
def WR.HQ(h:WR G O w){t:TypeId}{s:Nat}(hp:G.cJ k=φ b)(hs:w.shape? b=φ (t,s)):WR G (O.push (.shape k t s)) w:=by
 have hne:∀{j x},bQ O.hp O.N (φ (.shape k t s)) j=φ x->(∀k t n,x≠ .shape k t n)->O.hp j=φ x:=λ{j x} hj hx=>by
  by_cases e:j=O.N;subst e;rw[aR]at hj;injection hj with hj;exact absurd hj.symm (hx _ _ _)
  ·rwa [az _ _ e]at hj
 have mF:∀j b,G.cJ j=φ b->bQ O.hp O.N (φ (.shape k t s)) j≠Β->O.hp j≠Β:=λj b hj hn=>by
  rwa [az _ _ (λe=>by subst e;rw[h.pd.1]at hj;cases hj)]at hn
 refine⟨h.base,h.fm,λj hj=>?_,λj c hj=>?_,λi j c li lj hi hj=>h.inj i j c (mF i c hi li) (mF j c hj lj) hi hj,λj cs hj=>h.cells j cs (hne hj z10),λj es ck hj=>h.map j es ck (hne hj z10),λt ht=>h.tok t (hne ht z10),λs t c x y hs ht=>h.mX s t c x y (hne hs z10) (hne ht z10),λj k' t' n' hj=>?_,λj x hj=>h.obj j x (hne hj z10),h.tX,λk p hk=>h.HD k p (hne hk z10)⟩;have hj:O.N+1<=j:=hj;obtain⟨h1,h2,h3⟩:=h.sJ j Λ;exact⟨h1,h2,by show bQ _ _ _ _=_;rw[az _ _ Λ];exact h3⟩;obtain⟨p1,p2,p3⟩:=h.lx j c hj;exact⟨p1,p2,λhn=>p3 (mF j c hj hn)⟩;have hj:bQ O.hp O.N (φ (.shape k t s)) j=φ (.shape k' t' n'):=hj;by_cases e:j=O.N;subst e;rw[aR]at hj;injection hj with hj;injection hj with e1 e2 e3;subst e1;subst e2;subst e3;exact⟨b,hp,hs⟩;rw[az _ _ e]at hj;exact h.n4 j k' t' n' hj
def jr(tab:cB)(o:Oper)(e:Env)(O:VH):Option (MV×VH):=
 match o.op with
 | .load t x=>(ev e x).bind λp=>(fq tab O t p).map (·,O)
 | .store t x y=>match ev e x,ev e y with
   | some p,φ q=>(zB tab O t p q).map (.tuple [], ·)
   | _,_=>Β
 | .box _ x=>(ev e x).map λp=>(.p O.N 0,O.push (.cells (ey p)))
 | .alloc t=>(tab t).map λi=>(.p O.N 0,zJ O t i.size i.zero)
 | .buildSlice t len parts=>match g_ e (parts.toList.map (·.2))with
   | some ms=>(lT tab t len (gW parts ms)).map (·,O)
   | none=>Β
 | .makeSlice t l c=>match ev e l,ev e c with
   | some p,φ q=>sT tab O t p q
   | _,_=>Β
 | .call c=>match c.callee,c.args.toList,c.argTypes.toList with
   | .builtin .append,[x,y],[t,t']=>if t=t' then match ev e x,ev e y with
     | some p,φ q=>jO tab O t p q
     | _,_=>Β
     else Β
   | .builtin .len,[x],[t]=>(ev e x).bind λp=>(rW tab O t p).map (·,O)
   | _,_,_=>Β
 | .makeMap _ Β=>φ (.map O.N,O.push (.map [] 0))
 | .lookup t x k ok=>match ev e x,ev e k with
   | some p,φ q=>(jP tab O t p q ok).map (·,O)
   | _,_=>Β
 | .mapUpdate t x k y=>match ev e x,ev e k,ev e y with
   | some p,φ q,φ r=>(fl tab O t p q r).map (.tuple [], ·)
   | _,_,_=>Β
 | .insert t x k y=>match ev e x,ev e k,ev e y with
   | some p,φ q,φ r=>(fl tab O t p q r).map (.tuple [], ·)
   | _,_,_=>Β
 | _=>Β
def KK:Op->Bool
 | .store .. | .mapUpdate .. | .insert .. =>γ
 | .call c=>match c.callee with
   | .builtin _=>Α
   | _=>γ
 | _=>Α
def dW(P:Program)(o:Oper)(a:Act)(w:World)(G:Gh)(m:MV)(O':VH):Prop:=
 ∃nx w' H u,(execOp a.eval o).run P w= .ok nx w'/\(nx= .value u\/(nx= .skip/\u=undef))/\Gh.Le G H/\WR H O' w'/\VR H m u/\(KK o.op=Α->jN G w w')
def dW.of(hs:ik P s w G O' m)(he:execOp a.eval o=(do pure (.value (<-s)))):dW P o a w G m O':=by
 obtain⟨u,w',H,hr,h1,h2,h3,h4⟩:=hs;exact⟨.value u,w',H,u,by rw[he,Sem.run_bind,hr];rfl,.inl rfl,h1,h2,h3,λ_=>h4⟩
def dW.ofU{s:Sem Unit}(hs:OS P s w G O')(hA:KK o.op=γ)(he:execOp a.eval o=(do s;pure .skip)):dW P o a w G (.tuple []) O':=by
 obtain⟨w',H,hr,h1,h2⟩:=hs;exact⟨.skip,w',H,undef,by rw[he,Sem.run_bind,hr];rfl,.inr ⟨rfl,rfl⟩,h1,h2,VR.tuple (us:=[]) rfl (λi c u h=>by simp at h),λh=>by rw[hA]at h;cases h⟩
def abY(ht:aN P tab)(hw:WR G O w)(h:FR G n D e a)(hv:jr tab o e O=φ (m,O')):dW P o a w G m O':=by
 unfold jr at hv;split at hv;rename_i t x ho;obtain⟨p,h1,h2⟩:=TR.1 hv;obtain⟨q,h3,h4⟩:=Ro.1 h2;simp only[Prod.mk.injEq]at h4;obtain⟨rfl,rfl⟩:=h4;exact dW.of (LZ ht hw h3 (h.ev h1)) z15;rename_i t x y ho;split at hv;rename_i p q h1 h2;obtain⟨O2,h3,h4⟩:=Ro.1 hv;simp only[Prod.mk.injEq]at h4;obtain⟨rfl,rfl⟩:=h4;exact dW.ofU (Wu ht hw h3 (h.ev h1) (h.ev h2)) (by rw[ho];rfl) z15;cases hv;rename_i t x ho;obtain⟨p,h1,h2⟩:=Ro.1 hv;simp only[Prod.mk.injEq]at h2;obtain⟨rfl,rfl⟩:=h2;exact dW.of (aeA (t:=t) hw (h.ev h1)) z15
 ·rename_i t ho;obtain⟨i,h1,h2⟩:=Ro.1 hv;simp only[Prod.mk.injEq]at h2;obtain⟨rfl,rfl⟩:=h2;obtain⟨z,Gu,Bu,KH⟩:=LX (ht t i h1) w
  have hr:(Instr.alloc t Α (.tuple #[])).run P w= .ok (.pointer (φ ⟨w.heap.size,0,Β⟩)) (w.alloc (.cells z.cells t)):=by
   simp only[Instr.alloc,Sem.run_bind,Gu,Result.andThen_ok];simp[newVar,newRow,newObj,Sem.run]
  obtain⟨g1,g2⟩:=hw.push t (KH G);refine dW.of (s:=Instr.alloc t Α (.tuple #[])) ⟨_,_,_,hr,g1,?_,.p (aR _ _ _),jN.alloc hw _⟩ z15;unfold zJ;cases gd i.zero with
  | false=>exact g2
  | true=>
    refine g2.HQ (aR _ _ _) ?_;(have:(w.alloc (.cells z.cells t)).heap[w.heap.size]?=φ (.cells z.cells t):=by rw[fZ,if_pos rfl]);simp only[World.shape?,this,Bu]
 ·rename_i t len parts ho;split at hv;rename_i ms h1;obtain⟨p,h2,h3⟩:=Ro.1 hv;simp only[Prod.mk.injEq]at h3;obtain⟨rfl,rfl⟩:=h3;((((have HO:Ζ ms=Ζ parts.toList:=by simpa using Fv h1);refine dW.of (wD ht hw h2 (ps:=parts.map λ(i,x)=>(i,a.eval x)) ?_ ?_) z15);rw[zip_fst parts ms HO,HM]);rw[RA parts ms HO,HN];exact h.g_ h1);cases hv
 ·rename_i t l c ho;split at hv;rename_i p q h1 h2;exact dW.of (HJ ht hw hv (h.ev h1) (h.ev h2)) z15;cases hv
 ·rename_i c ho;split at hv;rename_i x y t t' hc jL RB;split at hv;rename_i By;subst By;split at hv;rename_i p q h1 h2;((((((have ha:c.args= #[x,y]:=by apply aja;exact jL);have gk:c.argTypes= #[t,t]:=by apply aja;exact RB);exact dW.of (Ry (ty:=o.type) ht hw hv (h.ev h1) (h.ev h2)) z32);cases hv);cases hv);rename_i x t hc jL RB;obtain⟨p,h1,h2⟩:=TR.1 hv;obtain⟨q,h3,h4⟩:=Ro.1 h2;simp only[Prod.mk.injEq]at h4;obtain⟨rfl,rfl⟩:=h4;((have ha:c.args= #[x]:=by apply aja;exact jL);have gk:c.argTypes= #[t]:=by apply aja;exact RB);exact dW.of (Rt (ty:=o.type) ht hw h3 (h.ev h1)) z32);cases hv
 ·rename_i t ho;simp only[Option.some.injEq,Prod.mk.injEq]at hv;obtain⟨rfl,rfl⟩:=hv;exact dW.of (Pb (t:=t) hw) z15
 ·rename_i t x k ok ho;split at hv;rename_i p q h1 h2;obtain⟨r,h3,h4⟩:=Ro.1 hv;simp only[Prod.mk.injEq]at h4;obtain⟨rfl,rfl⟩:=h4;obtain⟨z,g1,g2⟩:=RD (P:=P) ht hw h3 (h.ev h1) (h.ev h2);exact dW.of (ik.of hw g1 g2) z15;cases hv
 ·rename_i t x k y ho;split at hv;rename_i p q r h1 h2 h3;obtain⟨O2,h4,h5⟩:=Ro.1 hv;simp only[Prod.mk.injEq]at h5;obtain⟨rfl,rfl⟩:=h5;exact dW.ofU (xK ht hw h4 (h.ev h1) (h.ev h2) (h.ev h3)) (by rw[ho];rfl) z15;cases hv
 ·rename_i t x k y ho;split at hv;rename_i p q r h1 h2 h3;obtain⟨O2,h4,h5⟩:=Ro.1 hv;simp only[Prod.mk.injEq]at h5;obtain⟨rfl,rfl⟩:=h5;exact dW.ofU (xK ht hw h4 (h.ev h1) (h.ev h2) (h.ev h3)) (by rw[ho];rfl) z15;cases hv
 ·cases hv
def dE(tab:cB)(o:Oper)(e:Env)(O:VH):Option (MV×VH):=
 match ft tab o e with
 | some m=>φ (m,O)
 | none=>jr tab o e O
def Hf(ht:aN P tab)(hw:WR G O w)(h:FR G n D e a)(hv:dE tab o e O=φ (m,O')):dW P o a w G m O':=by
 unfold dE at hv;split at hv;rename_i p hp;simp only[Option.some.injEq,Prod.mk.injEq]at hv;obtain⟨rfl,rfl⟩:=hv;obtain⟨u,hu,hr⟩:=xH (P:=P) ht h hp;exact⟨.value u,w,G,u,hr w hw.ss,.inl rfl,Gh.Le.refl G,hw,hu,λ_=>jN.refl _ _⟩;exact abY ht hw h hv
inductive VX where
 | normal | exit (id:Nat) | goto (l:Nat) | ret | panic (m:MV)
def XR(G:Gh):VX->Exit->Prop
 | .normal,.normal=>True
 | .exit i,.exit j=>i=j
 | .goto i,.goto j=>i=j
 | .ret,.ret=>True
 | .panic m,.panic c=>∃u,c=[{v:=u,recovered:=γ}]/\VR G m u
 | _,_=>False
abbrev VQ:=VX->Env->VH->Prop
def FRX(G:Gh)(n:Sz)(D:List Deferred):VX->Env->Act->Prop
 | .panic _,e,a=>(∀t x,look e t=φ x->t<n.lo)/\FR G n D e a
 | _,e,a=>FR G n D e a
def cU(G:Gh)(n:Sz)(D:List Deferred)(Q:VQ):Exit->Act->World->Prop:=λy a w=>∃x e O H,Gh.Le G H/\WR H O w/\FRX H n D x e a/\XR H x y/\Q x e O
def cU.le(h:G.Le H){Q:VQ}{y:Exit}(hp:cU H n D Q y a w):cU G n D Q y a w:=by
 obtain⟨x,e,O,K,h1,h2⟩:=hp;exact⟨x,e,O,K,h.trans h1,h2⟩
def cU.mono{Q Q':VQ}(hQ:∀x e O,Q x e O->Q' x e O){y:Exit}(hp:cU G n D Q y a w):cU G n D Q' y a w:=by
 obtain⟨x,e,O,K,h1,h2,h3,h4,h5⟩:=hp;exact⟨x,e,O,K,h1,h2,h3,h4,hQ _ _ _ h5⟩
def HR:∀t x,look (jM n e) t=φ x->t<n.lo:=λt x hx=>by
 rw[Bn]at hx;split at hx;assumption;cases hx
def Ed:∀t x,look (jM n e) t=φ x->look e t=φ x:=λt x hx=>by
 rw[Bn]at hx;split at hx;exact hx;cases hx
def jC(P:Program)(n:Sz)(D:List Deferred)(ops:Array Oper)(l:Τ)(e:Env)(O:VH)(Q:VQ):Prop:=
 ∀G a w,WR G O w->FR G n D e a->wpOps P ops (cU G n D Q) l a w
def VC(P:Program)(n:Sz)(D:List Deferred)(c:Code)(e:Env)(O:VH)(Q:VQ):Prop:=
 ∀G a w,WR G O w->FR G n D e a->c.wp P (cU G n D Q) a w
def aU(d:Option Tmp)(m:MV)(e:Env):Env:=match d with
 | some d=>(d,m)::e
 | none=>e
def bj(n:Sz)(d:Option Tmp):Bool:=match d with
 | some d=>decide (n.lo<=d)&&decide (d<n.n)
 | none=>Α
def FR.aU(h:FR G n D e a)(hd:bj n d=Α)(hu:VR G m u):FR G n D (aU d m e) (a.put d u):=by
 cases d with
 | none=>exact h
 | some d=>exact FR.put h (by simp[bj]at hd;exact hd.2) hu
def aK(ops:Array Oper)(o:Oper)(e:Env):Option Bool:=
 match o.guard with
 | none=>φ Α
 | some (j,want)=>match(ops[j]?).bind (·.dst)with
   | some d=>match look e d with
     | some (.v (.bool b))=>φ (b==want)
     | some (.tuple [])=>φ γ
     | _=>Β
   | none=>Β
def bz(h:FR G n D e a){b:Bool}(hv:aK ops o e=φ b):Region.wanted o (yielded ops a.tmps)=b:=by
 unfold aK at hv;unfold Region.wanted;split at hv;rename_i hg;injection hv with hv;rw[hg, <-hv]
 ·rename_i j want hg;rw[hg];split at hv
  ·rename_i d hd;split at hv;rename_i b' hl;injection hv with hv;obtain⟨u,h1,h2⟩:=h.get d _ hl;have:=h2.jq;subst this;simp only[yielded,hd,apF,h1];rw[<-hv];cases b'<;>cases want<;>rfl
   ·rename_i hl;injection hv with hv;obtain⟨u,h1,h2⟩:=h.get d _ hl;cases h2 with
    | tuple _ _=>
      simp only[yielded,hd,apF,h1];rw[<-hv];rfl
   ·cases hv
  ·cases hv
def aO:MV:=.tuple []
def lV:VR G aO undef:=VR.tuple (us:=[]) rfl λi c u h=>by simp at h
def jC.nil{Q:VQ}(h:Q .normal e O):jC P n D ops [] e O Q:=λG a w hw hf=>⟨.normal,e,O,G,Gh.Le.refl G,hw,hf,trivial,h⟩
def rY(hQ:∀y a w,Q y a w->Q' y a w):∀(l:Τ)(a:Act)(w:World),wpOps P ops Q l a w->wpOps P ops Q' l a w:=by
 intro l;induction l with
 | nil=>intro a w h;exact hQ _ _ _ h
 | cons i rest ih=>
   intro a w h;rw[wpOps_cons]at h ⊢;have h1:=wpOp_mono (K':=wpOps P ops Q' rest) ih h;unfold wpOp at h1 ⊢;split;rename_i ho;simp only[ho]at h1;exact h1
   ·rename_i o ho;simp only[ho]at h1;split
    ·rename_i uc;simp only[uc,if_true]at h1;refine h1.imp (λh2=>?_) (λ⟨h2,a',w',h3⟩=>⟨h2,a',w',hQ _ _ _ h3⟩);unfold Oper.wp at h2 ⊢;generalize (execOp a.eval o).run P w=r at*;cases r with
     | ok nx w'=>
       cases nx<;>simp only[Oper.upon]at h2 ⊢ <;>first
        | exact h2
        | (refine Calls.mono h2 λx WJ he=>?_
           cases x with
           | returned v=>exact he
           | panicked c=>exact hQ _ _ _ he
           | outgrown=>obtain⟨a',w',h3⟩:=he;exact⟨a',w',hQ _ _ _ h3⟩)
     | halt x w'=>cases x<;>simp only[Oper.upon]at h2 ⊢ <;>first | exact h2 | exact hQ _ _ _ h2
    ·rename_i uc;simp only[uc]at h1;exact h1
def jC.step(ht:aN P tab){Q:VQ}(ho:ops[i]?=φ o)(hg:aK ops o e=φ Α)(hv:dE tab o e O=φ (m,O'))(hd:bj n o.dst=Α)
  (h:jC P n D ops l (aU o.dst m e) O' Q):jC P n D ops (i::l) e O Q:=by
 intro G a w hw hf;obtain⟨nx,w',H,u,hr,oa,h1,h2,h3,_⟩:=Hf (P:=P) ht hw hf hv;simp only[wpOps,ho,bz hf hg,if_true];refine .inl ?_;unfold Oper.wp;rw[hr]
 have hk:wpOps P ops (cU G n D Q) l (a.put o.dst u) w':=by
  exact rY (λ_ _ _=>cU.le h1) l _ _ (h H (a.put o.dst u) w' h2 ((hf.mono h1).aU hd h3))
 rcases oa with rfl | ⟨rfl,rfl⟩;exact hk;exact hk
def jC.skip{Q:VQ}(ho:ops[i]?=φ o)(hg:aK ops o e=φ γ)(hd:bj n o.dst=Α)
  (h:jC P n D ops l (aU o.dst aO e) O Q):jC P n D ops (i::l) e O Q:=by
 intro G a w hw hf;simp only[wpOps,ho,bz hf hg,ahB,if_false];exact h G _ w hw (hf.aU hd lV)
inductive gm where
 | ret (m:MV) | panic (m:MV)
def ER(G:Gh):gm->Ending->Prop
 | .ret m,.returned v=>VR G m v
 | .panic m,.panicked c=>∃u,c=[{v:=u,recovered:=γ}]/\VR G m u
 | _,_=>False
def VF(P:Program)(f:FuncId)(args:Η)(O:VH)(R:gm->VH->Prop):Prop:=
 ∀G w vs,WR G O w->aX G args vs->Calls P f vs.toArray w λx w'=>∃r O' H,Gh.Le G H/\WR H O' w'/\ER H r x/\R r O'
def VF.mono{f:FuncId}{args:Η}{R R':gm->VH->Prop}(hR:∀r O,R r O->R' r O)(h:VF P f args O R):VF P f args O R':=
 λG w vs hw hv=>(h G w vs hw hv).mono λ_ _ ⟨r,O',H,h1,h2,h3,h4⟩=>⟨r,O',H,h1,h2,h3,hR _ _ h4⟩
def Enters(P:Program)(f:FuncId):Prop:=∀args w,(callFunc f args).run P w= .ok (.enter f args) w
def Enters.of{f:FuncId}(hf:P.funcs[f]?=φ fn)(hn:(fn.name== "runtime.NumGoroutine")=γ)(hb:fn.body.isNone=γ):Enters P f:=by
 intro args w;have Pc:fn.name≠ "runtime.NumGoroutine" :=by simpa using hn
 have rU:fn.body≠Β:=by intro h;rw[h]at hb;cases hb
 simp[callFunc,program,Sem.run,hf,Pc,rU]
def jC.call{Q:VQ}{c:Call}{f:Operand}{id:FuncId}{fs ms cs:Η}{R:gm->VH->Prop}(ho:ops[i]?=φ o)(hg:aK ops o e=φ Α)(xL:o.op= .call c)(hc:c.callee= .value f)
  (hf:ev e f=φ (.func (.func id) fs cs)) (hm:g_ e c.args.toList=φ ms) (hE:Enters P id) (hd:bj n o.dst=Α) (hR:VF P id (fs++ms++cs) O R)
  (h:∀r O',R r O'->match r with
   | .ret m=>jC P n D ops l (aU o.dst m e) O' Q
   | .panic m=>Q (.panic m) (jM n e) O'):jC P n D ops (i::l) e O Q:=by
 intro G a w hw aY;have HS:=aY.ev hf;generalize WK:a.eval f=fv at HS;cases HS with
 | func h1 h2 h3 h4=>
   rename_i us vs;have jL:=aY.g_ hm;have ia:=aX.append (aX.append (show aX G fs us from⟨h1,h2⟩) jL) (show aX G cs vs from⟨h3,h4⟩)
   have cD:(execOp a.eval o).run P w= .ok (.enter id (us++c.args.toList.map a.eval++vs).toArray) w:=by
    (have ha:c.args.map a.eval=(c.args.toList.map a.eval).toArray:=by apply aja;simp);have:us.toArray++c.args.map a.eval++vs.toArray=(us++c.args.toList.map a.eval++vs).toArray:=by apply aja;simp[ha]
    simp only[execOp,xL,resolve,hc,WK,Deferred.ofValue,Sem.run_bind,Sem.run_pure,Result.andThen_ok,invoke,hE _ w];rw[this]
   simp only[wpOps,ho,bz aY hg,if_true];refine .inl ?_;unfold Oper.wp;rw[cD];show Calls P id _ w _;refine(hR G w _ hw ia).mono ?_;rintro x w' ⟨r,O',H,g1,g2,g3,g4⟩;have hk:=h r O' g4;cases r with
   | ret m=>
     cases x with
     | returned v=>exact rY (λ_ _ _=>cU.le g1) l _ _ (hk H _ w' g2 ((aY.mono g1).aU hd g3))
     | panicked c=>exact g3.elim
     | outgrown=>exact g3.elim
   | panic m=>
     cases x with
     | returned v=>exact g3.elim
     | panicked c=>exact⟨.panic m,jM n e,O',H,g1,g2,⟨HR,(aY.mono g1).less Ed⟩,g3,hk⟩
     | outgrown=>exact g3.elim
def VC.mono{Q Q':VQ}(hQ:∀x e O,Q x e O->Q' x e O)(h:VC P n D c e O Q):VC P n D c e O Q':=
 λG a w hw hf=>wp_mono (h G a w hw hf) λ_ _ _=>cU.mono hQ
def VC.env{Q:VQ}(h:VC P n D c e' O Q)(hl:∀t x,look e' t=φ x->look e t=φ x):VC P n D c e O Q:=
 λG a w hw hf=>h G a w hw (hf.less hl)
def VC.skip{Q:VQ}(h:Q .normal e O):VC P n D .skip e O Q:=λG a w hw hf=>wp_skip ⟨.normal,e,O,G,Gh.Le.refl G,hw,hf,trivial,h⟩
def VC.exit{Q:VQ}{id:Nat}(h:Q (.exit id) e O):VC P n D (.exit id) e O Q:=λG a w hw hf=>wp_exit ⟨.exit id,e,O,G,Gh.Le.refl G,hw,hf,rfl,h⟩
def VC.label{Q:VQ}{l:Nat}(h:Q .normal e O):VC P n D (.label l) e O Q:=λG a w hw hf=>wp_label ⟨.normal,e,O,G,Gh.Le.refl G,hw,hf,trivial,h⟩
def vH(Q:VQ):VQ:=λx e O=>match x with
 | .goto _=>False
 | x=>Q x e O
def VC.scope{Q:VQ}(h:VC P n D c e O (vH Q)):VC P n D (.scope c) e O Q:=by
 intro G a w hw hf;refine wp_scope_straight (wp_mono (h G a w hw hf) ?_);rintro y a' w' ⟨x,e',O',H,h1,h2,h3,h4,h5⟩
 cases y<;>cases x<;>first
  | exact False.elim h4
  | exact h5.elim
  | exact⟨_,e',O',H,h1,h2,h3,h4,h5⟩
def VC.ret{Q:VQ}(h:Q .ret e O):VC P n D .ret e O Q:=λG a w hw hf=>wp_ret ⟨.ret,e,O,G,Gh.Le.refl G,hw,hf,trivial,h⟩
def VC.seq{c d:Code}{Q:VQ} (h:VC P n D c e O λx e O=>match x with
  | .normal=>VC P n D d e O Q
  | x=>Q x e O):VC P n D (.seq c d) e O Q:=by
 intro G a w hw hf;refine wp_seq (wp_mono (h G a w hw hf) ?_);rintro y a' w' ⟨x,e',O',H,h1,h2,h3,h4,h5⟩
 cases y<;>cases x<;>first
  | exact False.elim h4
  | exact wp_mono (h5 H a' w' h2 h3) λ_ _ _=>cU.le h1
  | exact⟨_,e',O',H,h1,h2,h3,h4,h5⟩
def VC.cond{c:Operand}{x:Code}{t:Bool}{Q:VQ}(hc:ev e c=φ (.v (.bool t)))(h1:t=Α->VC P n D x e O Q)(h2:t=γ->VC P n D y e O Q):VC P n D (.cond c x y) e O Q:=by
 intro G a w hw hf;have uE:a.eval c= .bool t:=(hf.ev hc).jq;exact wp_cond_split uE (λht=>h1 ht G a w hw hf) (λht=>h2 ht G a w hw hf)
def VC.block{c:Code}{id:Nat}{Q:VQ} (h:VC P n D c e O λx e O=>match x with
  | .exit i=>if i=id then Q .normal e O else Q (.exit i) e O
  | x=>Q x e O):VC P n D (.block id c) e O Q:=by
 intro G a w hw hf;refine wp_block (wp_mono (h G a w hw hf) ?_);rintro y a' w' ⟨x,e',O',H,h1,h2,h3,h4,h5⟩;cases y with
 | exit j=>
   cases x with
   | exit i=>
     obtain rfl:i=j:=h4;simp only[Exit.inBlock];simp only at h5;split;rename_i hi;rw[if_pos hi]at h5;exact⟨.normal,e',O',H,h1,h2,h3,trivial,h5⟩;rename_i hi;rw[if_neg hi]at h5;exact⟨.exit i,e',O',H,h1,h2,h3,rfl,h5⟩
   | _=>exact False.elim h4
 | _=>cases x<;>first
   | exact False.elim h4
   | exact⟨_,e',O',H,h1,h2,h3,h4,h5⟩
def Cw{c:Code}{Q Q':Exit->Act->World->Prop}(hQ:∀y a w,Q y a w->Q' y a w):∀(k:Nat)(a:Act)(w:World),Code.rounds P c Q k a w->Code.rounds P c Q' k a w
 | 0,_,_,h=>h.elim
 | k+1,a,w,h=>by
   rw[rounds_succ]at h ⊢;refine wp_mono h λy a' w' hy=>?_
   cases y<;>first
    | exact Cw hQ k a' w' hy
    | exact hQ _ _ _ hy
def HT{c:Code}{Q:Exit->Act->World->Prop}:∀(k j:Nat)(a:Act)(w:World),k<=j->Code.rounds P c Q k a w->Code.rounds P c Q j a w
 | 0,_,_,_,_,h=>h.elim
 | k+1,0,_,_,hj,_=>absurd hj Λ
 | k+1,j+1,a,w,hj,h=>by
   rw[rounds_succ]at h ⊢;refine wp_mono h λy a' w' hy=>?_
   cases y<;>first
    | exact HT k j a' w' Λ hy
    | exact hy
def VC.loop{c:Code}{Q:VQ}(I:Nat->Env->VH->Prop){k:Nat}(h0:I k e O) (h:∀k e O,I k e O->VC P n D c e O λx e' O'=>match x with
  | .normal=>∃j,j<k/\I j e' O'
  | x=>Q x e' O'):VC P n D (.loop c) e O Q:=by
 intro G a w hw hf;refine wp_loop_rounds (k+1) ?_;induction k using Nat.strongRecOn generalizing e O G a w with
 | _ k ih=>
   rw[rounds_succ];refine wp_mono (h k e O h0 G a w hw hf) ?_;rintro y a' w' ⟨x,e',O',H,h1,h2,h3,h4,h5⟩
   cases y<;>cases x<;>first
    | exact False.elim h4
    | exact⟨_,e',O',H,h1,h2,h3,h4,h5⟩
    | (obtain⟨j,hj,hI⟩:=h5
       exact HT (j+1) k a' w' Λ (Cw (λ_ _ _=>cU.le h1) _ _ _ (ih j hj hI H a' w' h2 h3)))
def VC.region{id:Nat}{Q:VQ}(h:jC P n D ops (Ν ops.size) e O Q):VC P n D (.region id ops γ) e O Q:=
 λG a w hw hf=>wp_region (h G a w hw hf)
def mY(tab:cB)(e:Env)(O:VH):ResultVar->Option MV
 | .tmp t=>look e t
 | .cell x t=>(look e x).bind (fq tab O t)
def gX(tab:cB)(fn:Func)(e:Env)(O:VH):Option MV:=
 match fn.results.toList.mapM (mY tab e O)with
 | some [m]=>φ m
 | some l=>φ (.tuple l)
 | none=>Β
def Cx(tmps:Array Value):ResultVar->Sem Value
 | .tmp t=>pure (tmps.getD t undef)
 | .cell x t=>do loadVar t (<-asAddr (tmps.getD x undef))
def RE(fn:Func)(tmps:Array Value):results fn tmps=(do let vs<-fn.results.mapM (Cx tmps);pure (if h:vs.size=1 then vs[0]else .tuple vs)):=by
 unfold results;congr 1
def Fw(ht:aN P tab)(hw:WR G O w)(hf:FR G n D e a):∀(l:List ResultVar)(ms:Η),l.mapM (mY tab e O)=φ ms->
  ∃us,(l.mapM (Cx a.tmps)).run P w= .ok us w/\aX G ms us
 | [],ms,h=>by simp at h;subst h;exact⟨[],rfl,aX.nil⟩
 | r::l,ms,h=>by
   simp only[an5,an3,TR]at h;obtain⟨m,h1,ms',h2,h3⟩:=h;injection h3 with h3;subst h3;obtain⟨us,h4,h5⟩:=Fw ht hw hf l ms' h2
   have one:∃u,(Cx a.tmps r).run P w= .ok u w/\VR G m u:=by
    cases r with
    | tmp t=>exact⟨_,rfl,hf.ev (x:=.tmp t) h1⟩
    | cell x t=>
      obtain⟨p,h6,h7⟩:=TR.1 h1;have hp:VR G p (a.tmps.getD x undef):=hf.ev (x:=.tmp x) h6;simp only[Cx];generalize a.tmps.getD x undef=pv at hp ⊢
      have ajd:∃ad,pv= .pointer (φ ad):=by
       have hc:∃cs off,cellsOf O p=φ (cs,off):=by
        unfold fq at h7;split at h7;exact⟨_,_, ‹_›⟩;cases h7
       obtain⟨cs,off,hc⟩:=hc;obtain⟨b,o,_,rfl,_⟩:=Rs hw hp hc;exact⟨_,rfl⟩
      obtain⟨ad,rfl⟩:=ajd;obtain⟨u,g1,g2⟩:=HG (P:=P) ht hw h7 hp;refine⟨u,?_,g2⟩;simp only[asAddr,Sem.run_bind,Sem.run_pure,Result.andThen_ok];simpa[Instr.loadAt,Instr.sureAddr]using g1
   obtain⟨u,g1,g2⟩:=one;refine⟨u::us,?_,aX.cons g2 h5⟩;rw[an5,Sem.run_bind,g1,Result.andThen_ok,Sem.run_bind,h4];rfl
def ob(ht:aN P tab)(hw:WR G O w)(hf:FR G n D e a)(h:gX tab fn e O=φ m):∃u,(results fn a.tmps).run P w= .ok u w/\VR G m u:=by
 have L3:∀ms,fn.results.toList.mapM (mY tab e O)=φ ms->∃us,(fn.results.mapM (Cx a.tmps)).run P w= .ok us.toArray w/\aX G ms us:=λms hm=>by
  obtain⟨us,h1,h2⟩:=Fw (P:=P) ht hw hf _ ms hm;refine⟨us,?_,h2⟩;rw[auk, <-bind_pure_comp,Sem.run_bind,h1];rfl
 unfold gX at h;rw[RE];split at h;rename_i p hp;injection h with h;subst h;obtain⟨us,h1,h2⟩:=L3 _ hp;obtain⟨u,us',rfl,h3,h4⟩:=h2.eX;rw[h4.jd]at h1;exact⟨u,by rw[Sem.run_bind,h1];rfl,h3⟩
 ·rename_i l hl hp;injection h with h;subst h;obtain⟨us,h1,h2⟩:=L3 _ hp
  have hne:(Ζ us)≠1:=λh5=>by
   have:=h2.1;rw[h5]at this
   match l,this with
   | [x],_=>exact hl x rfl
  refine⟨.tuple us.toArray,?_,.tuple h2.1 h2.2⟩;rw[Sem.run_bind,h1,Result.andThen_ok];simp[hne]
 ·cases h
def cX:Nat->Η->Env
 | _,[]=>[]
 | k,m::l=>(k,m)::cX (k+1) l
def kj:∀(l:Η)(k t:Nat),look (cX k l) t=if k<=t then l[t - k]? else Β
 | [],k,t=>by simp[cX,look]
 | m::l,k,t=>by
   simp only[cX,look];by_cases e:t=k;subst e;simp
   ·have:(t==k)=γ:=by simpa using e
    rw[this,cond_false,kj l (k+1) t];by_cases h:k<=t;rw[if_pos h,if_pos Λ];((obtain⟨j,hj⟩:∃j,t - k=j+1:=⟨t - k - 1,Λ⟩);rw[hj,show t - (k+1)=j from by omega];rfl);rw[if_neg h,if_neg Λ]
def VF.enter(ht:aN P tab){f:FuncId}{args:Η}{R:gm->VH->Prop}(hf:P.funcs[f]?=φ fn)(hb:fn.body=φ c)(hn:Ζ args<=fn.ntmps)
  (h:VC P ⟨fn.ntmps,0⟩ [] c (cX 0 args) O λx e O'=>match x with
   | .normal=>∃m,gX tab fn e O'=φ m/\R (.ret m) O'
   | .ret=>∃m,gX tab fn e O'=φ m/\R (.ret m) O'
   | .panic m=>R (.panic m) O'
   | _=>False):VF P f args O R:=by
 intro G w vs hw hv;refine calls_of_wp hf hb ?_
 have aY:FR G ⟨fn.ntmps,0⟩ [] (cX 0 args) {tmps:=vs.toArray++Array.replicate (fn.ntmps - vs.toArray.size) undef,defers:=[]}:=by
  have hl:=hv.1;refine⟨rfl,by simp;omega,λt x hx=>?_⟩;rw[kj,if_pos (apE _),Nat.sub_zero]at hx;obtain⟨u,h1,h2⟩:=hv.get hx;refine⟨u,?_,h2⟩;have bI:=(ai8.1 h1).1;rw[auj (by simpa using bI)];simpa using h1
 refine wp_mono (h G _ w hw aY) ?_;rintro y a' w' ⟨x,e',O',H,h1,h2,h3,h4,h5⟩;cases y with
 | normal=>
   cases x<;>first
    | exact False.elim h4
    | (obtain⟨m,h6,h7⟩:=h5
       obtain⟨u,h8,h9⟩:=ob (P:=P) ht h2 h3 h6;exact⟨h3.defers,u,h8,.ret m,O',H,h1,h2,h9,h7⟩)
 | ret=>
   cases x<;>first
    | exact False.elim h4
    | (obtain⟨m,h6,h7⟩:=h5
       obtain⟨u,h8,h9⟩:=ob (P:=P) ht h2 h3 h6;exact⟨h3.defers,u,h8,.ret m,O',H,h1,h2,h9,h7⟩)
 | panic c=>
   cases x<;>first
    | exact False.elim h4
    | exact⟨h3.2.defers,.panic _,O',H,h1,h2,h4,h5⟩
 | exit i=>cases x<;>first | exact False.elim h4 | exact h5.elim
 | goto i=>cases x<;>first | exact False.elim h4 | exact h5.elim
 | outgrown=>cases x<;>exact False.elim h4
end
section
variable{G H:Gh}{n:Sz}{D:List Deferred}{e e':Env}{a:Act}{P:Program}{tab:cB}{O O':VH}{w:World}{m m':MV}{u v:Value}{ops:Array Oper}{Q:VQ}
def cf(P:Program)(n:Sz)(D:List Deferred)(ops:Array Oper)(fuel:Nat)(listed:Array Bool)(e:Env)(O:VH)(Q:VQ):Prop:=
 ∀G a w,WR G O w->FR G n D e a->wpAnyH P .any ops (cU G n D Q) (SS G) fuel listed a w
def VC.draw{id:Nat}(hm:P.follows .mixedOrders=Α)(h:cf P n D ops ops.size (Array.replicate ops.size γ) e O Q):VC P n D (.region id ops Α) e O Q:=
 λG a w hw hf=>wp_region_held (S:=SS G) hm (h G a _ (hw.drawn _) hf)
def iE(KL:bj n d=Α){v:Value}(c:List PanicEntry)(a:Act)(w:World)(h:cU G n D Q (.panic c) (a.put d v) w):cU G n D Q (.panic c) a w:=by
 obtain⟨x,e,O,H,h1,h2,h3,h4,h5⟩:=h;cases x with
 | panic m=>
   obtain⟨gT,h3⟩:=h3
   have hd:a.defers=D:=by
    have:=h3.defers;cases d<;>exact this
   have hz:a.tmps.size=n.n:=by
    have:=h3.size;cases d with
    | none=>exact this
    | some d=>simpa[Act.put]using this
   refine⟨.panic m,e,O,H,h1,h2,⟨gT,hd,hz,λt x hx=>?_⟩,h4,h5⟩;obtain⟨u,g1,g2⟩:=h3.get t x hx;refine⟨u,?_,g2⟩;cases d with
   | none=>exact g1
   | some d=>
     have ht:=gT t x hx;((have rZ:n.lo<=d:=by simp[bj]at KL;exact KL.1);have hne:d≠t:=λe=>Nat.lt_irrefl _ (Nat.lt_of_lt_of_le ht (e▸rZ)));simpa[Act.put,hne]using g1
 | _=>exact False.elim h4
def cf.Z4(ht:aN P tab)(ho:ops[i]?=φ o)(hs:Region.noSelect ops=Α)(hf:Region.free .any ops listed i=Α)(hr:(Region.ready .any ops listed).contains i=Α)
  (hg:aK ops o e=φ Α) (hv:ft tab o e=φ m) (hd:bj n o.dst=Α) (h:cf P n D ops fuel (listed.setIfInBounds i Α) (aU o.dst m e) O Q):cf P n D ops (fuel+1) listed e O Q:=by
 intro G a w hw aY;obtain⟨u,hu,cD⟩:=xH (P:=P) ht aY hv;exact wpAnyH_take ho hs hf hr (iE hd) (.inl ⟨bz aY hg,cD⟩) hw.ss (h G _ w hw (aY.aU hd hu))
def cf.aeG(ho:ops[i]?=φ o)(hs:Region.noSelect ops=Α)(hf:Region.free .any ops listed i=Α)(hr:(Region.ready .any ops listed).contains i=Α)
  (hg:aK ops o e=φ γ) (hd:bj n o.dst=Α) (h:cf P n D ops fuel (listed.setIfInBounds i Α) (aU o.dst aO e) O Q):cf P n D ops (fuel+1) listed e O Q:=by
 intro G a w hw aY;exact wpAnyH_take ho hs hf hr (iE hd) (.inr ⟨bz aY hg,rfl⟩) hw.ss (h G _ w hw (aY.aU hd lV))
def cf.done(hr:Region.ready .any ops listed=[])(h:Q .normal e O):cf P n D ops fuel listed e O Q:=
 λG a w hw aY=>wpAnyH_done hr ⟨.normal,e,O,G,Gh.Le.refl G,hw,aY,trivial,h⟩ fuel
def RF{Q:Exit->Act->World->Prop}{S':World->Prop}(hQ:∀y a w,Q y a w->Q' y a w)(hS:∀w,S w->S' w):∀(fuel:Nat)(listed:Array Bool)(a:Act)(w:World),wpAnyH P .any ops Q S fuel listed a w->wpAnyH P .any ops Q' S' fuel listed a w:=by
 intro fuel;induction fuel with
 | zero=>intro listed a w h;exact⟨h.1,hQ _ _ _ h.2⟩
 | succ fuel ih=>
   intro listed a w h;refine⟨λh0=>hQ _ _ _ (h.1 h0),λi hi=>?_⟩;have h1:=wpOp_mono (K':=λa' w'=>S' w'/\wpAnyH P .any ops Q' S' fuel (listed.setIfInBounds i Α) a' w') (λa' w' h'=>⟨hS _ h'.1,ih _ _ _ h'.2⟩) (h.2 i hi);unfold wpOp at h1 ⊢;split;rename_i ho;simp only[ho]at h1;exact h1
   ·rename_i o ho;simp only[ho]at h1;split
    ·rename_i uc;simp only[uc,if_true]at h1;refine h1.imp (λh2=>?_) (λ⟨h2,a',w',h3⟩=>⟨h2,a',w',hQ _ _ _ h3⟩);unfold Oper.wp at h2 ⊢;generalize (execOp a.eval o).run P w=r at*;cases r with
     | ok nx w'=>
       cases nx<;>simp only[Oper.upon]at h2 ⊢ <;>first
        | exact h2
        | (refine Calls.mono h2 λx WJ he=>?_
           cases x with
           | returned v=>exact he
           | panicked c=>exact hQ _ _ _ he
           | outgrown=>obtain⟨a',w',h3⟩:=he;exact⟨a',w',hQ _ _ _ h3⟩)
     | halt x w'=>cases x<;>simp only[Oper.upon]at h2 ⊢ <;>first | exact h2 | exact hQ _ _ _ h2
    ·rename_i uc;simp only[uc]at h1;exact h1
def SS.le(h:G.Le H){w:World}(hs:SS H w):SS G w:=λb o u hc=>hs b o u (h.fm hc)
def aQ(P:Program)(n:Sz)(D:List Deferred)(ops:Array Oper)(i:Nat)(e:Env)(O:VH)(Q:VQ)(K:Env->VH->Prop):Prop:=
 ∀G a w,WR G O w->FR G n D e a->wpOp P ops (cU G n D Q) i (λa' w'=>∃e' O' H,Gh.Le G H/\WR H O' w'/\FR H n D e' a'/\K e' O') a w
def aQ.op(ht:aN P tab){K:Env->VH->Prop}(ho:ops[i]?=φ o)(hg:aK ops o e=φ Α)(hv:dE tab o e O=φ (m,O'))(hd:bj n o.dst=Α)(hk:K (aU o.dst m e) O'):aQ P n D ops i e O Q K:=by
 intro G a w hw aY;obtain⟨nx,w',H,u,hr,oa,h1,h2,h3,_⟩:=Hf (P:=P) ht hw aY hv;simp only[wpOp,ho,bz aY hg,if_true];refine .inl ?_;unfold Oper.wp;rw[hr];have:∃e' O' H,Gh.Le G H/\WR H O' w'/\FR H n D e' (a.put o.dst u)/\K e' O':=⟨_,_,H,h1,h2,(aY.mono h1).aU hd h3,hk⟩
 rcases oa with rfl | ⟨rfl,rfl⟩<;>exact this
def aQ.call{c:Call}{f:Operand}{id:FuncId}{fs ms cs:Η}{R:gm->VH->Prop}{K:Env->VH->Prop}(ho:ops[i]?=φ o)(hg:aK ops o e=φ Α)(xL:o.op= .call c)(hc:c.callee= .value f)
  (hf:ev e f=φ (.func (.func id) fs cs)) (hm:g_ e c.args.toList=φ ms) (hE:Enters P id) (hd:bj n o.dst=Α) (hR:VF P id (fs++ms++cs) O R)
  (h:∀r O',R r O'->match r with
   | .ret m=>K (aU o.dst m e) O'
   | .panic m=>Q (.panic m) (jM n e) O'):aQ P n D ops i e O Q K:=by
 intro G a w hw aY;have HS:=aY.ev hf;generalize WK:a.eval f=fv at HS;cases HS with
 | func h1 h2 h3 h4=>
   rename_i us vs;have jL:=aY.g_ hm;have ia:=aX.append (aX.append (show aX G fs us from⟨h1,h2⟩) jL) (show aX G cs vs from⟨h3,h4⟩)
   have cD:(execOp a.eval o).run P w= .ok (.enter id (us++c.args.toList.map a.eval++vs).toArray) w:=by
    (have ha:c.args.map a.eval=(c.args.toList.map a.eval).toArray:=by apply aja;simp);have:us.toArray++c.args.map a.eval++vs.toArray=(us++c.args.toList.map a.eval++vs).toArray:=by apply aja;simp[ha]
    simp only[execOp,xL,resolve,hc,WK,Deferred.ofValue,Sem.run_bind,Sem.run_pure,Result.andThen_ok,invoke,hE _ w];rw[this]
   simp only[wpOp,ho,bz aY hg,if_true];refine .inl ?_;unfold Oper.wp;rw[cD];show Calls P id _ w _;refine(hR G w _ hw ia).mono ?_;rintro x w' ⟨r,O',H,g1,g2,g3,g4⟩;have hk:=h r O' g4;cases r with
   | ret m=>
     cases x with
     | returned v=>exact⟨_,_,H,g1,g2,(aY.mono g1).aU hd g3,hk⟩
     | panicked c=>exact g3.elim
     | outgrown=>exact g3.elim
   | panic m=>
     cases x with
     | returned v=>exact g3.elim
     | panicked c=>exact⟨.panic m,jM n e,O',H,g1,g2,⟨HR,(aY.mono g1).less Ed⟩,g3,hk⟩
     | outgrown=>exact g3.elim
def jC.one(h:aQ P n D ops i e O Q λe' O'=>jC P n D ops l e' O' Q):jC P n D ops (i::l) e O Q:=by
 intro G a w hw aY;rw[wpOps_cons];exact wpOp_mono (λa' w' ⟨e',O',H,h1,h2,h3,h4⟩=>rY (λ_ _ _=>cU.le h1) l _ _ (h4 H a' w' h2 h3)) (h G a w hw aY)
def cf.all(hr:Region.ready .any ops listed=rs)(hne:rs≠[])
  (h:∀i∈rs,aQ P n D ops i e O Q λe' O'=>cf P n D ops fuel (listed.setIfInBounds i Α) e' O' Q):cf P n D ops (fuel+1) listed e O Q:=by
 intro G a w hw aY;refine wpAnyH_all hr hne λi hi=>?_
 exact wpOp_mono (λa' w' ⟨e',O',H,h1,h2,h3,h4⟩=>⟨SS.le h1 h2.ss,RF (λ_ _ _=>cU.le h1) (λ_=>SS.le h1) fuel _ _ _ (h4 H a' w' h2 h3)⟩) (h i hi G a w hw aY)
def jI(P:Program)(md:Region.Mode)(ops:Array Oper)(Q:Exit->Act->World->Prop)(T:Nat->World->Prop):Nat->Array Bool->Act->World->Prop
 | 0,listed,a,w=>Region.ready md ops listed=[]/\Q .normal a w
 | fuel+1,listed,a,w=>
   (Region.ready md ops listed=[]->Q .normal a w)/\
   ∀i∈Region.ready md ops listed,wpOp P ops Q i (λa' w'=>T i w'/\jI P md ops Q T fuel (listed.setIfInBounds i Α) a' w') a w
section
variable{md:Region.Mode}{Q:Exit->Act->World->Prop}{T:Nat->World->Prop}
def lE:∀(fuel:Nat)(listed:Array Bool)(a:Act)(w:World),jI P md ops Q T fuel listed a w->wpAny P md ops Q fuel listed a w
 | 0,_,_,_,h=>h
 | fuel+1,_,_,_,h=>⟨h.1,λi hi=>wpOp_mono (λa' w' h'=>lE fuel _ a' w' h'.2) (h.2 i hi)⟩
def pY{W:Nat->Prop}{brk:Nat->Bool}{v:Value}(hi:ops[i]?=φ oi)(als:∀(j:Nat)(o:Oper) cs b,ops[j]?=φ o->o.op≠ .select cs b)
  (hQ:∀c a w,Q (.panic c) (a.put oi.dst v) w->Q (.panic c) a w) (hT:∀j x,brk j=γ->T j x->S x) (hTi:∀x,S x->T i x):
  ∀(fuel:Nat)(listed:Array Bool)(a:Act)(w:World),
   (∀j oj,ops[j]?=φ oj->j≠i->listed.getD j Α=γ->(∀e∈oj.after,Region.binds md e=Α->e.on≠i)->oi.apart ops oj=Α)->
   (∀j oj,ops[j]?=φ oj->W j->∃e∈oj.after,Region.binds md e=Α/\(e.on=i\/W e.on))->(∀j,W j->listed.getD j Α=γ)->(∀j,j≠i->listed.getD j Α=γ->brk j=Α->W j)->
   i∈Region.ready md ops listed->YieldsIf P ops S oi v a->S w->
   jI P md ops Q T fuel (listed.setIfInBounds i Α) (a.put oi.dst v) w->jI P md ops Q T (fuel+1) listed a w:=by
 intro fuel;induction fuel with
 | zero=>
   intro listed a w _ _ _ _ hr hy hS H;refine⟨λh=>(by rw[h]at hr;cases hr),λj hj=>?_⟩;by_cases HU:j=i;subst HU;exact hy.wpOp hi hS ⟨hTi _ hS,H⟩;have:=ready_mono hj HU;rw[H.1]at this;cases this
 | succ fuel ih=>
   intro listed a w aeH hW hWu alu hr hy hS H;refine⟨λh=>(by rw[h]at hr;cases hr),λj hj=>?_⟩;by_cases HU:j=i;subst HU;exact hy.wpOp hi hS ⟨hTi _ hS,H⟩
   ·have h1:=H.2 j (ready_mono hj HU);obtain⟨aeI,oj,WM,ia⟩:=mem_ready.1 hj
    have aeJ:∀e∈oj.after,Region.binds md e=Α->e.on≠i:=λe he hb heq=>by
     have h1:=ia e he hb;have h0:=(mem_ready.1 hr).1;rw[heq]at h1;rcases asl i listed.size with h' | h';simp[h']at h0 h1;rw[h0]at h1;cases h1;simp[an4 h']at h1
    have hnW:¬W j:=λhw=>by
     obtain⟨e,he,cS,bV⟩:=hW j oj WM hw;rcases bV with bV | bV;exact absurd bV (aeJ e he cS);have h1:=ia e he cS;have h0:=hWu _ bV;rcases asl e.on listed.size with h' | h';simp[h']at h0 h1;rw[h0]at h1;cases h1;simp[an4 h']at h1
    have hjb:brk j=γ:=by
     cases hb:brk j with
     | false=>rfl
     | true=>exact absurd (alu j HU aeI hb) hnW
    have h2:=wpOp_putIf WM (aeH j oj WM HU aeI aeJ) (λcs b=>als i oi cs b hi) (λcs b=>als j oj cs b WM) hQ hy h1
    have alv:∀k,(listed.setIfInBounds j Α).getD k Α=γ->listed.getD k Α=γ:=λk fB=>by
     by_cases Gy:j=k;subst Gy;exact aeI;rw[getD_set_ne Α Gy]at fB;exact fB
    refine wpOp_mono (λa' w' h3=>⟨h3.2.1,ih (listed.setIfInBounds j Α) a' w' (λk ok hk hki fB cZ=>aeH k ok hk hki (alv k fB) cZ) hW (λk hk=>by
     by_cases Gy:j=k;subst Gy;exact absurd hk hnW;rw[getD_set_ne Α Gy];exact hWu k hk) (λk hki fB hb=>alu k hki (alv k fB) hb) (ready_mono hr (Ne.symm HU)) h3.1 (hT j _ hjb h3.2.1) ?_⟩) h2
    rw[aun _ _ HU];exact h3.2.2
def kc{a:Act}{w:World}(hr:Region.ready md ops listed=rs)(hne:rs≠[])
  (h:∀i∈rs,wpOp P ops Q i (λa' w'=>T i w'/\jI P md ops Q T fuel (listed.setIfInBounds i Α) a' w') a w):jI P md ops Q T (fuel+1) listed a w:=
 ⟨λh0=>absurd (hr▸h0) hne,hr▸h⟩
def Pd{listed:Array Bool}{a:Act}{w:World}(hr:Region.ready md ops listed=[])(h:Q .normal a w):∀fuel,jI P md ops Q T fuel listed a w
 | 0=>⟨hr,h⟩
 | _+1=>⟨λ_=>h,by rw[hr];simp⟩
def abZ{Q:Exit->Act->World->Prop}(hQ:∀y a w,Q y a w->Q' y a w){K:Act->World->Prop}{a:Act}{w:World}(h1:wpOp P ops Q i K a w):wpOp P ops Q' i K a w:=by
 unfold wpOp at h1 ⊢;split;rename_i ho;simp only[ho]at h1;exact h1
 ·rename_i o ho;simp only[ho]at h1;split
  ·rename_i uc;simp only[uc,if_true]at h1;refine h1.imp (λh2=>?_) (λ⟨h2,a',w',h3⟩=>⟨h2,a',w',hQ _ _ _ h3⟩);unfold Oper.wp at h2 ⊢;generalize (execOp a.eval o).run P w=r at*;cases r with
   | ok nx w'=>
     cases nx<;>simp only[Oper.upon]at h2 ⊢ <;>first
      | exact h2
      | (refine Calls.mono h2 λx WJ he=>?_
         cases x with
         | returned v=>exact he
         | panicked c=>exact hQ _ _ _ he
         | outgrown=>obtain⟨a',w',h3⟩:=he;exact⟨a',w',hQ _ _ _ h3⟩)
   | halt x w'=>cases x<;>simp only[Oper.upon]at h2 ⊢ <;>first | exact h2 | exact hQ _ _ _ h2
  ·rename_i uc;simp only[uc]at h1;exact h1
def jf{Q:Exit->Act->World->Prop}{T T':Nat->World->Prop}(hQ:∀y a w,Q y a w->Q' y a w):∀(fuel:Nat)(listed:Array Bool)(a:Act)(w:World),(∀j,listed.getD j Α=γ->∀x,T j x->T' j x)->
  jI P .any ops Q T fuel listed a w->jI P .any ops Q' T' fuel listed a w:=by
 intro fuel;induction fuel with
 | zero=>intro listed a w _ h;exact⟨h.1,hQ _ _ _ h.2⟩
 | succ fuel ih=>
   intro listed a w hT h;refine⟨λh0=>hQ _ _ _ (h.1 h0),λi hi=>?_⟩;have fB:=(mem_ready.1 hi).1
   exact abZ hQ (wpOp_mono (λa' w' h'=>⟨hT i fB _ h'.1,ih _ _ _ (λj hj x=>hT j (by
    by_cases nj:i=j;subst nj;exact fB;rw[getD_set_ne Α nj]at hj;exact hj) x) h'.2⟩) (h.2 i hi))
end
def TH(brk:Τ)(G:Gh)(w:World)(j:Nat)(x:World):Prop:=brk.contains j=γ->Sx G w x
def bR(P:Program)(n:Sz)(D:List Deferred)(ops:Array Oper)(brk:Τ)(fuel:Nat)(listed:Array Bool)(e:Env)(O:VH)(Q:VQ):Prop:=
 ∀G a w,WR G O w->FR G n D e a->jI P .any ops (cU G n D Q) (TH brk G w) fuel listed a w
def VC.Pe{id:Nat}(brk:Τ)(hm:P.follows .mixedOrders=Α)(h:bR P n D ops brk ops.size (Array.replicate ops.size γ) e O Q):VC P n D (.region id ops Α) e O Q:=
 λG a w hw hf=>wp_region_any hm (lE _ _ _ _ (h G a _ (hw.drawn _) hf))
def bR.done(hr:Region.ready .any ops listed=[])(h:Q .normal e O):bR P n D ops brk fuel listed e O Q:=
 λG a w hw aY=>Pd hr ⟨.normal,e,O,G,Gh.Le.refl G,hw,aY,trivial,h⟩ fuel
def kW(ops:Array Oper)(listed:Array Bool)(i:Nat):Nat->List Nat
 | 0=>[]
 | k+1=>(Ν ops.size).filter λj=> !listed.getD j Α&&((ops[j]?).map λo=>o.after.any λe=>Region.binds .any e&&(e.on==i||(kW ops listed i k).contains e.on)).getD γ
def mI(ops:Array Oper)(brk:Τ)(listed:Array Bool)(i:Nat):Bool:=
 brk.all λj=>listed.getD j Α||j==i||(kW ops listed i ops.size).contains j
def Fx(j:Nat)(oj:Oper)(hj:ops[j]?=φ oj)(h:∃k,j∈kW ops listed i k):∃e∈oj.after,Region.binds .any e=Α/\(e.on=i\/∃k,e.on∈kW ops listed i k):=by
 obtain⟨k,hk⟩:=h;cases k with
 | zero=>cases hk
 | succ k=>
   simp only[kW,aur,hj,an2,Option.getD_some,abT]at hk;obtain⟨e,he,h2⟩:=Array.any_eq_true'.1 hk.2.2;simp only[abT,auh,beq_iff_eq]at h2;refine⟨e,he,h2.1,?_⟩;rcases h2.2 with h3 | h3;exact .inl h3;exact .inr ⟨k,by simpa using h3⟩
def L4(j:Nat)(h:∃k,j∈kW ops listed i k):listed.getD j Α=γ:=by
 obtain⟨k,hk⟩:=h;cases k with
 | zero=>cases hk
 | succ k=>
   simp only[kW,aur,abT,Bool.not_eq_true']at hk;exact hk.2.1
def L5(h:mI ops brk listed i=Α):∀j,j≠i->listed.getD j Α=γ->brk.contains j=Α->∃k,j∈kW ops listed i k:=by
 intro j hne fB hb;have:=auo.1 h j (by simpa using hb);simp only[fB,Bool.false_or,auh,beq_iff_eq,hne,false_or]at this;exact⟨_,by simpa using this⟩
def bR.take(ho:ops[i]?=φ o)(hs:Region.noSelect ops=Α)(hf:Region.free .any ops listed i=Α)(hr:(Region.ready .any ops listed).contains i=Α)(hb:mI ops brk listed i=Α)
  (hd:bj n o.dst=Α) (hy:∀G a w,WR G O w->FR G n D e a->∃u,VR G m u/\YieldsIf P ops (Sx G w) o u a) (h:bR P n D ops brk fuel (listed.setIfInBounds i Α) (aU o.dst m e) O Q):bR P n D ops brk (fuel+1) listed e O Q:=by
 intro G a w hw aY;obtain⟨u,hu,hyi⟩:=hy G a w hw aY;refine pY (S:=Sx G w) (W:=λj=>∃k,j∈kW ops listed i k) (brk:=λj=>brk.contains j) ho (Region.noSelect_spec hs) (iE hd) (λj x hj hT=>hT hj) (λx hx _=>hx) fuel listed a w (Region.free_spec ho hf) Fx L4 (L5 hb) (by simpa using hr) hyi hw.sx (h G _ w hw (aY.aU hd hu))
def bR.one(ht:aN P tab)(ho:ops[i]?=φ o)(hr:Region.ready .any ops listed=[i])(hb:(brk.contains i=γ/\KK o.op=Α)\/∀j,(listed.setIfInBounds i Α).getD j Α=γ\/j=i->brk.contains j=Α)
  (hg:aK ops o e=φ Α) (hv:dE tab o e O=φ (m,O')) (hd:bj n o.dst=Α) (h:bR P n D ops brk fuel (listed.setIfInBounds i Α) (aU o.dst m e) O' Q):bR P n D ops brk (fuel+1) listed e O Q:=by
 intro G a w hw aY;refine kc hr z10 λj hj=>?_
 obtain rfl:j=i:=by simpa using hj
 obtain⟨nx,w',H,u,cD,oa,h1,h2,h3,h4⟩:=Hf (P:=P) ht hw aY hv;simp only[wpOp,ho,bz aY hg,if_true];refine .inl ?_;unfold Oper.wp;rw[cD];have hk:=h H (a.put o.dst u) w' h2 ((aY.mono h1).aU hd h3)
 have RG:TH brk G w j w'/\jI P .any ops (cU G n D Q) (TH brk G w) fuel (listed.setIfInBounds j Α) (a.put o.dst u) w':=by
  rcases hb with⟨cS,bV⟩ | hb;have r4:=h4 bV;have hs:Sx G w w':=⟨SS.le h1 h2.ss,r4⟩;refine⟨λ_=>hs,jf (λ_ _ _=>cU.le h1) _ _ _ _ (λk _ x hT Gw=>?_) hk⟩;obtain⟨g1,g2⟩:=hT Gw;exact⟨SS.le h1 g1,λk' b rU=>(g2 k' b (h1.cJ rU)).trans (r4 k' b rU)⟩;refine⟨λhh=>?_,jf (λ_ _ _=>cU.le h1) _ _ _ _ (λk Gw x _ hh=>?_) hk⟩;rw[hb j (.inr rfl)]at hh;cases hh;rw[hb k (.inl Gw)]at hh;cases hh
 rcases oa with rfl | ⟨rfl,rfl⟩<;>exact RG
def bR.an8(ho:ops[i]?=φ o)(hr:Region.ready .any ops listed=[i])(hb:(brk.contains i=γ/\KK o.op=Α)\/∀j,(listed.setIfInBounds i Α).getD j Α=γ\/j=i->brk.contains j=Α)
  (hg:aK ops o e=φ γ) (hd:bj n o.dst=Α) (h:bR P n D ops brk fuel (listed.setIfInBounds i Α) (aU o.dst aO e) O Q):bR P n D ops brk (fuel+1) listed e O Q:=by
 intro G a w hw aY;refine kc hr z10 λj hj=>?_
 obtain rfl:j=i:=by simpa using hj
 simp only[wpOp,ho,bz aY hg,ahB,if_false];exact⟨λ_=>hw.sx,h G _ w hw (aY.aU hd lV)⟩
def bR.aeK(hr:Region.ready .any ops listed=[i])(hb:∀j,(listed.setIfInBounds i Α).getD j Α=γ\/j=i->brk.contains j=Α)
  (h:aQ P n D ops i e O Q λe' O'=>bR P n D ops brk fuel (listed.setIfInBounds i Α) e' O' Q):bR P n D ops brk (fuel+1) listed e O Q:=by
 intro G a w hw aY;refine kc hr z10 λj hj=>?_
 obtain rfl:j=i:=by simpa using hj
 refine wpOp_mono (λa' w' ⟨e',O',H,h1,h2,h3,h4⟩=>⟨λhh=>?_,jf (λ_ _ _=>cU.le h1) _ _ _ _ (λk Gw x _ hh=>?_) (h4 H a' w' h2 h3)⟩) (h G a w hw aY);rw[hb j (.inr rfl)]at hh;cases hh;rw[hb k (.inl Gw)]at hh;cases hh
end
def Pf(d:TypeDesc)(z:Value):Bool:=match fA d,z with
 | true,.agg _=>Α
 | true,_=>γ
 | false,.agg _=>γ
 | false,_=>Α
def WN{d:TypeDesc}{z:Value}(h:Pf d z=Α):(fA d=Α->∃cs,z= .agg cs)/\(fA d=γ->z.cells= #[z]):=by
 refine⟨λha=>?_,λha=>?_⟩<;>unfold Pf at h<;>rw[ha]at h<;>cases z<;>first | exact⟨_,rfl⟩ | rfl | cases h
def iv(P:Program)(t:TypeId):Option cg:=
 match P.underlying t,P.info? t with
 | some d,φ i=>match i.zero with
   | some z=>match z.cells.toList.mapM ofConst with
     | some zs=>if z.cells.size=i.size/\Pf d z=Α then φ ⟨d,i.size,i.bytes,zs⟩else Β
     | none=>Β
   | none=>Β
 | _,_=>Β
def HV{G:Gh}:∀{us:List Value} {ms:Η},us.mapM ofConst=φ ms->aX G ms us
 | [],ms,h=>by simp at h;subst h;exact aX.nil
 | u::us,ms,h=>by
   simp only[an5,an3,TR]at h;obtain⟨m,h1,ms',h2,h3⟩:=h;injection h3 with h3;subst h3;exact aX.cons (Fs h1) (HV h2)
def aeL(P:Program):aN P (iv P):=by
 intro t i h;unfold iv at h;split at h
 ·rename_i d ti hd hi;split at h
  ·rename_i z hz;split at h
   ·rename_i zs hzs;split at h
    ·rename_i mH;injection h with h;subst h
     exact⟨hd,⟨ti,z,hi,rfl,rfl,hz,mH.1,λG=>HV hzs⟩,λti' z' h1 h2=>by
      rw[hi]at h1;injection h1 with h1;subst h1;rw[hz]at h2;injection h2 with h2;subst h2;exact WN mH.2⟩
    ·cases h
   ·cases h
  ·cases h
 ·cases h
section
variable{G H:Gh}{n:Sz}{D:List Deferred}{e e':Env}{a:Act}{P:Program}{tab:cB}{O O':VH}{w:World}{m m':MV}{u v:Value}{ops:Array Oper}{Q:VQ}
variable{d:Option Tmp}{t t' ty:TypeId}{p:String}{af:Array Edge}{g:Option (Nat×Bool)}{x y z:Operand}
def Z5(k:Nat):ev e (.tmp k)=look e k:=rfl
def Z6(k:IntKind)(i:Int):ev e (.const (.int k i))=φ (.v (.int k i)):=rfl
def RH(b:Bool):ev e (.const (.bool b))=φ (.v (.bool b)):=rfl
def Z7(s:ByteArray):ev e (.const (.string s))=φ (.s s.data.toList):=rfl
def L6:ev e (.const (.slice Β 0 0))=φ (.l 0 [] .nil):=rfl
def HW:ev e (.const (.pointer Β))=φ (.v (.pointer Β)):=rfl
def HX:ev e (.const (.map Β))=φ (.v (.map Β)):=rfl
def Cy:ev e (.const .nilIface)=φ (.v .nilIface):=rfl
def Fy:ev e (.const .nilFunc)=φ (.v .nilFunc):=rfl
def RI(f:FuncId):ev e (.func f)=φ (.func (.func f) [] []):=rfl
def pj(k j:Nat)(m:MV)(r:Env):look ((k,m)::r) j=bif j==k then φ m else look r j:=rfl
def RJ:g_ e []=φ []:=rfl
def L7(x:Operand)(l:List Operand):g_ e (x::l)=(ev e x).bind λm=>(g_ e l).map (m:: ·):=by
 simp only[g_,an5,an3];cases ev e x with
 | none=>rfl
 | some m=>cases List.mapM (ev e) l<;>rfl
private theorem au {o:Oper} {r:Option MV} (h:ft tab o e=r) (hl:jr tab o e O=Β):dE tab o e O=r.map (·,O):=by
 unfold dE;rw[h];cases r<;>simp[hl]
def L8:dE tab (.mk d (.move x) ty p af g) e O=(ev e x).map (·,O):=au rfl rfl
def FB:dE tab (.mk d (.assign x) ty p af g) e O=(ev e x).map (·,O):=au rfl rfl
def AJ:dE tab (.mk d (.nilCheck x) ty p af g) e O=((ev e x).bind Rz).map (·,O):=au rfl rfl
def HY{op:BinOp}:dE tab (.mk d (.binOp op t x y t') ty p af g) e O=((ev e x).bind λq=>(ev e y).bind λr=>dK tab op t q r).map (·,O):=by
 refine au ?_ rfl;simp only[ft];cases ev e x<;>first | rfl | (cases ev e y<;>rfl)
def L9{op:UnOp}:dE tab (.mk d (.unOp op t x) ty p af g) e O=((ev e x).bind (zG op)).map (·,O):=au rfl rfl
def Cz:dE tab (.mk d (.convert t t' x) ty p af g) e O=((ev e x).bind (Eb tab t t')).map (·,O):=au rfl rfl
def xM :dE tab (.mk d (.fieldAddr t x f) ty p af g) e O=((ev e x).bind (ka tab t f)).map (·,O):=au rfl rfl
def HZ :dE tab (.mk d (.field t x f) ty p af g) e O=((ev e x).bind (zD tab t · f)).map (·,O):=au rfl rfl
def xN:dE tab (.mk d (.indexAddr t x y) ty p af g) e O=((ev e x).bind λq=>(ev e y).bind λr=>nA tab t q r).map (·,O):=by
 refine au ?_ rfl;simp only[ft];cases ev e x<;>first | rfl | (cases ev e y<;>rfl)
def H0:dE tab (.mk d (.index t x y) ty p af g) e O=((ev e x).bind λq=>(ev e y).bind λr=>zE tab t q r).map (·,O):=by
 refine au ?_ rfl;simp only[ft];cases ev e x<;>first | rfl | (cases ev e y<;>rfl)
def CA :dE tab (.mk d (.extract x i) ty p af g) e O=((ev e x).bind (uD · i)).map (·,O):=au rfl rfl
def H3{ps:Array (Nat×Operand)}:dE tab (.mk d (.build t ps) ty p af g) e O=((g_ e (ps.toList.map (·.2))).bind λms=>vB tab t (gW ps ms)).map (·,O):=by
 refine au ?_ rfl;simp only[ft];cases g_ e (ps.toList.map (·.2))<;>rfl
def AK{fn:Fn}{fs cs:Array Operand}:dE tab (.mk d (.makeFunc fn fs cs) ty p af g) e O=((g_ e fs.toList).bind λq=>(g_ e cs.toList).map λr=>.func fn q r).map (·,O):=by
 refine au ?_ rfl;simp only[ft];cases g_ e fs.toList<;>first | rfl | (cases g_ e cs.toList<;>rfl)
def H4{lo hi:Option Operand}:dE tab (.mk d (.slice t x lo hi Β) ty p af g) e O=((ev e x).bind λq=>(ft.Gx e lo).bind λl=>(ft.Gx e hi).bind λh=>zH tab t q l h).map (·,O):=by
 refine au ?_ rfl;simp only[ft];cases ev e x<;>first | rfl | (cases ft.Gx e lo<;>first | rfl | (cases ft.Gx e hi<;>rfl))
def RL{lo:Option Operand}{hi mx:Operand}:dE tab (.mk d (.slice t x lo (φ hi) (φ mx)) ty p af g) e O=((ev e x).bind λq=>(ft.Gx e lo).bind λl=>(ev e hi).bind λh=>(ev e mx).bind (qi tab t q l h)).map (·,O):=by
 refine au ?_ rfl;simp only[ft,show ft.Gx e (φ hi)=(ev e hi).map φ from rfl];generalize ft.Gx e lo=z;cases ev e x<;>cases z<;>cases ev e hi<;>rfl
def L_:ft.Gx e Β=φ Β:=rfl
def Ma:ft.Gx e (φ x)=(ev e x).map φ:=rfl
def RM:dE tab (.mk d (.call {callee:=.builtin .len,args:= #[x],argTypes:= #[t]}) ty p af g) e O=(ev e x).bind λq=>match ra tab t q with
  | some r=>φ (r,O)
  | none=>(rW tab O t q).map (·,O):=by
 simp only[dE,ft,jr];cases ev e x with
 | none=>rfl
 | some q=>
   simp only[apF]<;>cases ra tab t q<;>rfl
def RP{ts:Array TypeId}:dE tab (.mk d (.call {callee:=.builtin .max,args:= #[x,y],argTypes:=ts}) ty p af g) e O=((ev e x).bind λq=>(ev e y).bind λr=>D9 q r).map (·,O):=by
 refine au ?_ rfl;simp only[ft];cases ev e x<;>first | rfl | (cases ev e y<;>rfl)
def RQ{ts:Array TypeId}:dE tab (.mk d (.call {callee:=.builtin .min,args:= #[x,y],argTypes:=ts}) ty p af g) e O=((ev e x).bind λq=>(ev e y).bind λr=>D_ q r).map (·,O):=by
 refine au ?_ rfl;simp only[ft];cases ev e x<;>first | rfl | (cases ev e y<;>rfl)
def WO{ts:Array TypeId}:dE tab (.mk d (.call {callee:=.builtin .unsafeSliceData,args:= #[x],argTypes:=ts}) ty p af g) e O=((ev e x).bind zI).map (·,O):=au rfl (by simp only[jr]<;>rfl)
def eN:dE tab (.mk d (.call {callee:=.builtin .append,args:= #[x,y],argTypes:= #[t,t]}) ty p af g) e O=(ev e x).bind λq=>(ev e y).bind λr=>jO tab O t q r:=by
 simp only[dE,ft,jr,if_true];cases ev e x<;>first | rfl | (cases ev e y<;>rfl)
def RR{cs:Η} :fq tab O t (.dV cs off)=fq tab O' t (.dV cs off):=rfl
def rN:dE tab (.mk d (.load t x) ty p af g) e O=(ev e x).bind λq=>(fq tab O t q).map (·,O):=by
 simp only[dE,ft,jr];cases ev e x with
 | none=>rfl
 | some q=>
   (cases q<;>try rfl);rename_i cs off;simp only[apF];rw[RR (O':=O)];cases fq tab O t (.dV cs off)<;>rfl
def H5:dE tab (.mk d (.store t x y) ty p af g) e O=(ev e x).bind λq=>(ev e y).bind λr=>(zB tab O t q r).map (.tuple [], ·):=by
 simp only[dE,ft,jr];cases ev e x<;>first | rfl | (cases ev e y<;>rfl)
def RS:dE tab (.mk d (.box t x) ty p af g) e O=(ev e x).map λq=>(.p O.N 0,O.push (.cells (ey q))):=rfl
def WQ:dE tab (.mk d (.alloc t) ty p af g) e O=(tab t).map λi=>(.p O.N 0,zJ O t i.size i.zero):=rfl
def wF{ps:Array (Nat×Operand)}:dE tab (.mk d (.buildSlice t k ps) ty p af g) e O=(g_ e (ps.toList.map (·.2))).bind λms=>(lT tab t k (gW ps ms)).map (·,O):=by
 simp only[dE,ft,jr];cases g_ e (ps.toList.map (·.2))<;>rfl
def xO:dE tab (.mk d (.makeSlice t x y) ty p af g) e O=(ev e x).bind λq=>(ev e y).bind λr=>sT tab O t q r:=by
 simp only[dE,ft,jr];cases ev e x<;>first | rfl | (cases ev e y<;>rfl)
def CB:dE tab (.mk d (.makeMap t Β) ty p af g) e O=φ (.map O.N,O.push (.map [] 0)):=rfl
def FC{b:Bool}:dE tab (.mk d (.lookup t x y b) ty p af g) e O=(ev e x).bind λq=>(ev e y).bind λr=>(jP tab O t q r b).map (·,O):=by
 simp only[dE,ft,jr];cases ev e x<;>first | rfl | (cases ev e y<;>rfl)
def xP{z:Operand}:dE tab (.mk d (.mapUpdate t x y z) ty p af g) e O=(ev e x).bind λq=>(ev e y).bind λr=>(ev e z).bind λs=>(fl tab O t q r s).map (.tuple [], ·):=by
 simp only[dE,ft,jr];cases ev e x<;>first | rfl | (cases ev e y<;>first | rfl | (cases ev e z<;>rfl))
def FD{z:Operand}:dE tab (.mk d (.insert t x y z) ty p af g) e O=(ev e x).bind λq=>(ev e y).bind λr=>(ev e z).bind λs=>(fl tab O t q r s).map (.tuple [], ·):=by
 simp only[dE,ft,jr];cases ev e x<;>first | rfl | (cases ev e y<;>first | rfl | (cases ev e z<;>rfl))
section
variable{k:IntKind}{i j:Int}
def Mb:dK tab .add t (.v (.int k i)) (.v (.int k j))=φ (.v (.int k (k.wrap (i+j)))):=by simp[dK,sS]
def Mc:dK tab .sub t (.v (.int k i)) (.v (.int k j))=φ (.v (.int k (k.wrap (i - j)))):=by simp[dK,sS]
def Me:dK tab .mul t (.v (.int k i)) (.v (.int k j))=φ (.v (.int k (k.wrap (i*j)))):=by simp[dK,sS]
def ab0(h:j≠0):dK tab .quo t (.v (.int k i)) (.v (.int k j))=φ (.v (.int k (k.wrap (i.tdiv j)))):=by simp[dK,sS,h]
def ab1(h:j≠0):dK tab .rem t (.v (.int k i)) (.v (.int k j))=φ (.v (.int k (i.tmod j))):=by simp[dK,sS,h]
def Mf:dK tab .eql t (.v (.int k i)) (.v (.int k j))=φ (.v (.bool (i==j))):=by simp[dK,sS]
def Mg:dK tab .neq t (.v (.int k i)) (.v (.int k j))=φ (.v (.bool (i != j))):=by simp[dK,sS]
def Mh:dK tab .lss t (.v (.int k i)) (.v (.int k j))=φ (.v (.bool (decide (i<j)))):=by simp[dK,sS]
def Mi:dK tab .leq t (.v (.int k i)) (.v (.int k j))=φ (.v (.bool (decide (i<=j)))):=by simp[dK,sS]
def Mj:dK tab .gtr t (.v (.int k i)) (.v (.int k j))=φ (.v (.bool (decide (i>j)))):=by simp[dK,sS]
def Mk:dK tab .geq t (.v (.int k i)) (.v (.int k j))=φ (.v (.bool (decide (i>=j)))):=by simp[dK,sS]
def RT:zG .neg (.v (.int k i))=φ (.v (.int k (k.wrap (0 - i)))):=rfl
def RU{b:Bool}:zG .not (.v (.bool b))=φ (.v (.bool !b)):=rfl
def wrap_i64(h0: -9223372036854775808<=i)(h1:i<=9223372036854775807):IntKind.i64.wrap i=i:=by rw[IntKind.wrap_i64];omega
end
def CC{r:Env}{q:Op}:aK ops (.mk d q ty p af Β) r=φ Α:=rfl
def CD{q:Op}{j:Nat}{b:Bool}:aK ops (.mk d q ty p af (φ (j,b))) e=match(ops[j]?).bind (·.dst)with
  | some k=>match look e k with
    | some (.v (.bool c))=>φ (c==b)
    | some (.tuple [])=>φ γ
    | _=>Β
  | none=>Β:=rfl
def VC.qI{c:Operand}{x y:Code}(hc:ev e c=φ (.v (.bool Α)))(h:VC P n D x e O Q):VC P n D (.cond c x y) e O Q:=VC.cond hc (λ_=>h) (λh=>by cases h)
def VC.oc{c:Operand}{x y:Code}(hc:ev e c=φ (.v (.bool γ)))(h:VC P n D y e O Q):VC P n D (.cond c x y) e O Q:=VC.cond hc (λh=>by cases h) (λ_=>h)
section
variable{el:TypeId}{a b c d:Nat}{z y:Η}{u:TypeDesc}
def CE{cs:Η}{tk:Tok}(h:tab t=φ ⟨.slice el,a,b,z⟩):ra tab t (.l k cs tk)=φ (.v (Ι Κ k)):=by simp[ra,h]
def Ml{o:Nat}(h:tab t=φ ⟨.slice el,a,b,z⟩):ra tab t (.bk k o i j)=φ (.v (Ι Κ i)):=by simp[ra,h]
end
end
def mi(x:Int):MV:=.v (Ι Κ x)
def mb(x:Bool):MV:=.v (.bool x)
structure VH.Ge(O O':VH):Prop where
 N:O.N<=O'.N
 hp:∀k,k<O.N->O'.hp k=O.hp k
section
variable{O O1 O2:VH}{x:bO}{k:Nat}
def VH.Ge.at{y:Option bO}(g:O.Ge O1)(h:O.hp k=y)(hk:k<O.N:=by omega):O1.hp k=y:=(g.hp k hk).trans h
def VH.Ge.refl(O:VH):O.Ge O:=⟨alp _,λ_ _=>rfl⟩
def VH.Ge.trans(h:O.Ge O1)(h2:O1.Ge O2):O.Ge O2:=⟨Nat.le_trans h.N h2.N,λk hk=>(h2.hp k (Nat.lt_of_lt_of_le hk h.N)).trans (h.hp k hk)⟩
def ζ(O:VH)(x:bO):(O.push x).hp O.N=φ x:=aR _ _ _
def VH.gY(O:VH)(x:bO)(h:k<O.N):(O.push x).hp k=O.hp k:=az _ _ Λ
def VH.jg(O:VH)(x:bO)(h:k≠O.N):(O.push x).hp k=O.hp k:=az _ _ h
def τ(O:VH)(x:bO)(h:j≠k):(O.set k x).hp j=O.hp j:=az _ _ h
def Θ{y:Option bO}(h:O.hp j=y)(hj:j≠k:=by omega):(O.set k x).hp j=y:=(τ O x hj).trans h
def VH.sx(hj:j≠k:=by omega):(O.set k x).hp j=O.hp j:=τ O x hj
def VH.lF(O:VH)(h:j≠k:=by omega):(O.kill k).hp j=O.hp j:=az _ _ h
def VH.Ge.push(h:O.Ge O1)(x:bO):O.Ge (O1.push x):=h.trans ⟨Nat.le_succ _,λ_ hk=>VH.gY _ _ hk⟩
def VH.Ge.set(h:O.Ge O1)(hk:O.N<=k)(x:bO):O.Ge (O1.set k x):=⟨h.N,λj hj=>Θ (h.hp j hj)⟩
def VH.Ge.kill(h:O.Ge O1)(hk:O.N<=k):O.Ge (O1.kill k):=⟨h.N,λj hj=>(VH.lF _).trans (h.hp j hj)⟩
def VH.vI(O:VH)(x:bO):(O.push x).N=O.N+1:=rfl
def auR(O:VH)(x:bO):(O.set k x).N=O.N:=rfl
end
def App(O:VH)(B sz:Nat):Tok->Prop
 | .nil=>True
 | .full=>True
 | .own t k=>k=sz/\O.hp t=φ .tok/\B<=t/\t<O.N
 | .av=>False
def VH.after(O:VH):Tok->VH
 | .own t _=>(O.kill t).push .tok
 | _=>O.push .tok
def VH.fL(O:VH)(tk:Tok):(O.after tk).N=O.N+1:=by cases tk<;>rfl
def VH.WT(O:VH)(tk:Tok):(O.after tk).hp O.N=φ .tok:=by
 cases tk<;>first | exact ζ _ _ | exact ζ (O.kill _) _
def App.after{O:VH}{B:Nat}{tk:Tok}(hB:B<=O.N:=by omega):App (O.after tk) B sz (.own O.N sz):=⟨rfl,O.WT tk,hB,by rw[O.fL];omega⟩
def VH.Ge.after{O O1:VH}{B:Nat}{tk:Tok}(h:O.Ge O1)(ha:App O1 B sz tk)(hB:O.N<=B):O.Ge (O1.after tk):=by
 cases tk with
 | own t k=>exact(h.kill (Nat.le_trans hB ha.2.2.1)).push _
 | _=>exact h.push _
def VH.uG{O:VH}{B:Nat}{tk:Tok}(ha:App O B sz tk){x:bO}(hk:O.hp k=φ x)(hx:x≠ .tok:=by simp)(hl:k<O.N:=by omega):(O.after tk).hp k=φ x:=by
 cases tk with
 | own t j=>
   refine(VH.gY (O.kill t) _ hl).trans ?_;rw[VH.lF _ (λe=>by subst e;rw[ha.2.1]at hk;injection hk with hk;exact hx hk.symm)];exact hk
 | _=>exact(VH.gY _ _ hl).trans hk
def bE{tab:cB}{O:VH}{t el:TypeId}{u:TypeDesc}{a by':Nat}{z y:Η}(h:tab t=φ ⟨.slice el,a,b,z⟩)(h2:tab el=φ ⟨u,sz,by',y⟩){B:Nat}{cs ds:Η}{tk tk':Tok}(ha:App O B sz tk)
  (hc:Ζ cs=n*sz) (hd:Ζ ds=k*sz:=by exact rfl) (hl:ds.all dF=Α:=by exact rfl) (hs:0<sz:=by decide) (hk:k≠0:=by decide) (hb:(n+k)*by'<=140737488355328:=by omega) (hm:n+k<=maxLen:=by simp only[maxLen];omega):
  jO tab O t (.l n cs tk) (.l k ds tk')=φ (.l (n+k) (cs++ds) (.own O.N sz),O.after tk):=by
 simp only[jO,h,h2,an2];rw[if_pos ⟨hd,hl,hs⟩,if_neg hk,if_pos ⟨hc,hb,hm⟩];cases tk with
 | nil=>rfl
 | full=>rfl
 | own s j=>
   obtain⟨rfl,h3,_⟩:=ha;simp only[if_true,h3];rfl
 | av=>exact ha.elim
section
variable{tab:cB}{t el:TypeId}{u:TypeDesc}{a b d:Nat}{z:Η}{y m0 m1 m2:MV}
end
section
variable{tab:cB}{t el:TypeId}{u:TypeDesc}{a b d:Nat}{z:Η}{y:MV}{v0 v1 v2:Value}
end
def zp1(i:Nat)(x:Operand)(m:MV):gW #[(i,x)] [m]=[(i,m)]:=rfl
def zp2(i j:Nat)(x y:Operand)(m q:MV):gW #[(i,x),(j,y)] [m,q]=[(i,m),(j,q)]:=rfl
def zp3(i j k:Nat)(x y z:Operand)(m q r:MV):gW #[(i,x),(j,y),(k,z)] [m,q,r]=[(i,m),(j,q),(k,r)]:=rfl
def aq(x:Int):mi x= .v (Ι Κ x):=rfl
def bg(x:Bool):mb x= .v (.bool x):=rfl
def looks(e:Env):Τ->Option Η
 | []=>φ []
 | t::l=>(look e t).bind λm=>(looks e l).map (m:: ·)
def Bz(e:Env):looks e []=φ []:=rfl
def sU(e:Env)(t:Nat)(l:Τ):looks e (t::l)=(look e t).bind λm=>(looks e l).map (m:: ·):=rfl
def pair:Τ->Η->Env
 | t::l,m::ms=>(t,m)::pair l ms
 | _,_=>[]
def WU(t:Nat)(l:Τ)(m:MV)(ms:Η):pair (t::l) (m::ms)=(t,m)::pair l ms:=rfl
def ab2(ms:Η):pair [] ms=[]:=rfl
section
variable{n:Sz}{D:List Deferred}{e:Env}{P:Program}{O:VH}{Q:VQ}{c:Code}
end
def km(id:Nat)(Q:VQ):VQ:=λx e O=>match x with
 | .exit i=>if i=id then Q .normal e O else Q (.exit i) e O
 | x=>Q x e O
section
variable{n:Sz}{D:List Deferred}{e:Env}{P:Program}{O:VH}{Q:VQ}{c d:Code}{id i:Nat}{m:MV}{tab:cB}{fn:Func}{R:gm->VH->Prop}
def H6:km id Q .normal e O=Q .normal e O:=rfl
def Pg:km id Q (.exit i) e O=if i=id then Q .normal e O else Q (.exit i) e O:=rfl
def Ph:km id Q (.goto i) e O=Q (.goto i) e O:=rfl
def RV:km id Q .ret e O=Q .ret e O:=rfl
def AL:km id Q (.panic m) e O=Q (.panic m) e O:=rfl
section
variable{σ :Type}{l:Τ}{ms: σ ->Η}{I: σ ->VH->Prop}{μ : σ ->Nat}{s: σ}
end
def H7:vH Q .normal e O=Q .normal e O:=rfl
def Pj:vH Q (.exit i) e O=Q (.exit i) e O:=rfl
def RX:vH Q .ret e O=Q .ret e O:=rfl
def KM:vH Q (.panic m) e O=Q (.panic m) e O:=rfl
def Γ(h:VC P n D c e O (km id Q)):VC P n D (.block id c) e O Q:=VC.block h
end
section
variable{tab:cB}{n:Sz}{ops:Array Oper}{o:Oper}{l:ϕ}{e:Env}{O O':VH}{d:Option Tmp}{m:MV}
def ag(k:Nat):aU (φ k) m e=(k,m)::e:=rfl
def H8:aU Β m e=e:=rfl
def H9 :bj ⟨N,0⟩ (φ k)=decide (k<N):=by simp[bj]
def aeM{l:Nat}:bj ⟨N,l+1⟩ (φ k)=(decide (l<k)&&decide (k<N)):=rfl
def H_:bj n Β=Α:=rfl
end
section
variable{tab:cB}{fn:Func}{R:gm->VH->Prop}{e:Env}{O:VH}{m m':MV}{t t':Nat}
end
section
variable{G H:Gh}{n:Sz}{D:List Deferred}{e e':Env}{a:Act}{P:Program}{tab:cB}{O O':VH}{w:World}{m m':MV}{u v:Value}{ops:Array Oper}{Q:VQ}
def gI:Op->Nat
 | .move _ | .assign _ | .pick .. | .nilCheck _ | .binOp .. | .unOp .. | .convert .. | .fieldAddr .. | .field .. | .indexAddr .. | .index .. | .extract .. | .slice .. | .build .. | .makeFunc .. | .makeInterface .. =>1
 | .load .. =>2
 | .lookup .. =>5
 | .call c=>match c.callee with
   | .value _=>0
   | .builtin .len=>4
   | .builtin .max=>1
   | .builtin .min=>1
   | .builtin .unsafeSliceData=>1
   | _=>3
 | _=>3
def aeN(h:gI o.op=1):jr tab o e O=Β:=by
 unfold jr;unfold gI at h
 split<;>first
  | rfl
  | (rename_i ho;rw[ho]at h;cases h)
  | (rename_i ho
     rw[ho]at h
     split<;>first
      | rfl
      | (rename_i hc _ _;simp only[hc]at h;cases h))
def aeO(h:gI o.op=1)(hv:dE tab o e O=φ (m,O')):ft tab o e=φ m/\O'=O:=by
 unfold dE at hv;rw[aeN h]at hv;split at hv;rename_i p hp;simp only[Option.some.injEq,Prod.mk.injEq]at hv;exact⟨by rw[hp,hv.1],hv.2.symm⟩;cases hv
inductive Fl where
 | one | au | rd | fk
inductive Md where
 | plain | any | reads
 | held (brk:Τ)
def Hg(tab:cB)(t:TypeId):MV->Option MV
 | .dV cs off=>fq tab ⟨0,λ_=>Β⟩ t (.dV cs off)
 | _=>Β
def aeP(tab:cB)(o:Oper)(e:Env)(O:VH):Option (MV×VH):=
 match o.op with
 | .load t x=>((ev e x).bind (Hg tab t)).map (·,O)
 | _=>Β
def Z8(tab:cB)(o:Oper)(e:Env)(O:VH):Option (MV×VH):=
 match o.op with
 | .call c=>match c.callee,c.args.toList,c.argTypes.toList with
   | .builtin .len,[x],[t]=>((ev e x).bind (ra tab t)).map (·,O)
   | _,_,_=>Β
 | _=>Β
def Mm(tab:cB)(k:Nat)(o:Oper)(e:Env)(O:VH):Option (MV×VH):=
 match k with
 | 1=>dE tab o e O
 | 2=>aeP tab o e O
 | 4=>Z8 tab o e O
 | _=>Β
def CF(tab:cB)(k:Nat)(o:Oper)(e:Env)(O:VH):Option (MV×VH):=
 match k with
 | 1=>dE tab o e O
 | 2=>dE tab o e O
 | 4=>Z8 tab o e O
 | 5=>dE tab o e O
 | _=>Β
def iF(tab:cB)(f:Fl)(o:Oper)(e:Env)(O:VH):Option (MV×VH):=
 match f with
 | .one=>dE tab o e O
 | .fk=>Β
 | .au=>Mm tab (gI o.op) o e O
 | .rd=>CF tab (gI o.op) o e O
def ab3(hv:aeP tab o e O=φ (m,O')):ft tab o e=φ m/\O'=O:=by
 unfold aeP at hv;split at hv;rename_i t x ho;obtain⟨q,h1,h2⟩:=Ro.1 hv;obtain⟨p,h3,h4⟩:=TR.1 h1;simp only[Prod.mk.injEq]at h2;refine⟨?_,h2.2.symm⟩;rw[<-h2.1];unfold Hg at h4;split at h4;simp only[ft,ho,h3];exact h4;cases h4;cases hv
def zK(hv:Z8 tab o e O=φ (m,O')):ft tab o e=φ m/\O'=O:=by
 unfold Z8 at hv;split at hv;rename_i c ho;split at hv;rename_i x t hc ha gk;obtain⟨q,h1,h2⟩:=Ro.1 hv;simp only[Prod.mk.injEq]at h2;refine⟨?_,h2.2.symm⟩;rw[<-h2.1];simp only[ft,ho,hc,ha,gk];exact h1;cases hv;cases hv
def po(hv:iF tab .au o e O=φ (m,O')):ft tab o e=φ m/\O'=O:=by
 simp only[iF,Mm]at hv;split at hv;exact aeO ‹_› hv;exact ab3 hv;exact zK hv;cases hv
def CG(h:ft tab o e=φ m):dE tab o e O=φ (m,O):=by unfold dE;rw[h]
def Ee{f:Fl}(hv:iF tab f o e O=φ (m,O')):dE tab o e O=φ (m,O'):=by
 cases f with
 | one=>exact hv
 | fk=>cases hv
 | au=>obtain⟨h1,rfl⟩:=po hv;exact CG h1
 | rd=>
   simp only[iF,CF]at hv;split at hv;exact hv;exact hv;obtain⟨h1,rfl⟩:=zK hv;exact CG h1;exact hv;cases hv
def zL(ht:aN P tab)(hw:WR G O w)(h:FR G n D e a){f:Fl}(hf:f≠ .one)(hv:iF tab f o e O=φ (m,O')):O'=O/\∃u,VR G m u/\∀x,Sx G w x->(execOp a.eval o).run P x= .ok (.value u) x:=by
 have au:∀{m},ft tab o e=φ m->∃u,VR G m u/\∀x,Sx G w x->(execOp a.eval o).run P x= .ok (.value u) x:=λh1=>by
  obtain⟨u,hu,hr⟩:=xH (P:=P) ht h h1;exact⟨u,hu,λx hx=>hr x hx.1⟩
 cases f with
 | one=>exact absurd rfl hf
 | fk=>cases hv
 | au=>obtain⟨h1,rfl⟩:=po hv;exact⟨rfl,au h1⟩
 | rd=>
   simp only[iF,CF]at hv;split at hv;obtain⟨h1,rfl⟩:=aeO ‹_› hv;exact⟨rfl,au h1⟩
   ·rename_i hk;unfold dE at hv;split at hv;rename_i p hp;simp only[Option.some.injEq,Prod.mk.injEq]at hv;obtain⟨rfl,rfl⟩:=hv;exact⟨rfl,au hp⟩
    ·unfold jr at hv
     split at hv<;>first
      | (rename_i t x ho
         obtain⟨p,h1,h2⟩:=TR.1 hv;obtain⟨q,h3,h4⟩:=Ro.1 h2;simp only[Prod.mk.injEq]at h4;obtain⟨rfl,rfl⟩:=h4;obtain⟨u,g1,g2⟩:=qh (P:=P) ht hw h3 (h.ev h1);exact⟨rfl,u,g1,λx hx=>by simp only[execOp,ho,Sem.run_bind,g2 x hx];rfl⟩)
      | (rename_i ho;rw[ho]at hk;simp only[gI]at hk;cases hk)
      | (rename_i ho _ _ _;rw[ho]at hk;simp only[gI]at hk;cases hk)
      | cases hv
      | (rename_i c ho
         exfalso;rw[ho]at hk;simp only[gI]at hk;split at hk<;>cases hk)
   ·obtain⟨h1,rfl⟩:=zK hv;exact⟨rfl,au h1⟩
   ·rename_i hk;unfold dE at hv;split at hv;rename_i p hp;simp only[Option.some.injEq,Prod.mk.injEq]at hv;obtain⟨rfl,rfl⟩:=hv;exact⟨rfl,au hp⟩
    ·unfold jr at hv
     split at hv<;>first
      | (rename_i t x k ok ho
         split at hv;rename_i p q h1 h2;obtain⟨r,h3,h4⟩:=Ro.1 hv;simp only[Prod.mk.injEq]at h4;obtain⟨rfl,rfl⟩:=h4;obtain⟨u,g1,g2⟩:=AI (P:=P) ht hw h3 (h.ev h1) (h.ev h2);exact⟨rfl,u,g1,λx hx=>by simp only[execOp,ho,Sem.run_bind,g2 x hx];rfl⟩;cases hv)
      | (rename_i ho;rw[ho]at hk;simp only[gI]at hk;cases hk)
      | (rename_i ho _ _ _;rw[ho]at hk;simp only[gI]at hk;cases hk)
      | cases hv
      | (rename_i c ho
         exfalso;rw[ho]at hk;simp only[gI]at hk;split at hk<;>cases hk)
   ·cases hv
def cP(md:Md)(ops:Array Oper):Nat->Array Bool->List (Nat×Fl)->Bool
 | _,listed,[]=>Region.ready .any ops listed==[]
 | 0,_,_::_=>γ
 | k+1,listed,(i,f)::r=>(match f,md,r with
   | .one,.any,_=>Region.ready .any ops listed==[i]
   | .au,.any,_=>Region.free .any ops listed i&&(Region.ready .any ops listed).contains i
   | .au,.reads,_=>Region.free .any ops listed i&&(Region.ready .any ops listed).contains i
   | .rd,.reads,_=>Region.free .any ops listed i&&(Region.ready .any ops listed).contains i
   | .au,.held brk,_=>Region.free .any ops listed i&&(Region.ready .any ops listed).contains i&&mI ops brk listed i
   | .rd,.held brk,_=>Region.free .any ops listed i&&(Region.ready .any ops listed).contains i&&mI ops brk listed i
   | .one,.held brk,_=>Region.ready .any ops listed==[i]&&((!brk.contains i&&((ops[i]?).map λo=>KK o.op).getD γ)||(brk.contains i&&(Ν listed.size).all λj=>(listed.setIfInBounds i Α).getD j Α||brk.contains j))
   | .fk,.any,(j,.one)::_=>(Region.ready .any ops listed==[i,j]||Region.ready .any ops listed==[j,i])&&Region.ready .any ops (listed.setIfInBounds i Α)==[j]&&Region.ready .any ops (listed.setIfInBounds j Α)==[i]
   | _,_,_=>γ)&&cP md ops k (listed.setIfInBounds i Α) r
def Fits(ops:Array Oper):List (Nat×Fl)->List (Fl×Oper)->Prop
 | [],[]=>True
 | (i,f)::ix,(g,o)::L=>f=g/\ops[i]?=φ o/\Fits ops ix L
 | _,_=>False
def an9(P:Program)(n:Sz)(D:List Deferred)(ops:Array Oper)(fuel:Nat)(listed:Array Bool)(e:Env)(O:VH)(Q:VQ):Prop:=
 ∀G a w,WR G O w->FR G n D e a->wpAnyH P .any ops (cU G n D Q) (λx=>x=w) fuel listed a w
def alw(P:Program)(n:Sz)(D:List Deferred)(md:Md)(ops:Array Oper)(fuel:Nat)(listed:Array Bool)(ix:List (Nat×Fl))(e:Env)(O:VH)(Q:VQ):Prop:=
 match md with
 | .plain=>jC P n D ops (ix.map (·.1)) e O Q
 | .any=>cf P n D ops fuel listed e O Q
 | .reads=>an9 P n D ops fuel listed e O Q
 | .held brk=>bR P n D ops brk fuel listed e O Q
def VL(P:Program)(n:Sz)(D:List Deferred)(md:Md)(ops:Array Oper)(L:List (Fl×Oper))(e:Env)(O:VH)(Q:VQ):Prop:=
 ∀fuel listed ix,Fits ops ix L->(md≠ .plain->Region.noSelect ops=Α/\cP md ops fuel listed ix=Α)->alw P n D md ops fuel listed ix e O Q
def VL.nil{md:Md}(h:Q .normal e O):VL P n D md ops [] e O Q:=by
 intro fuel listed ix hf hp;cases ix with
 | cons x ix=>exact hf.elim
 | nil=>
   cases md with
   | plain=>exact jC.nil h
   | any=>
     have:=(hp z10).2;rw[cP]at this;exact cf.done (by simpa using this) h
   | reads=>
     have:=(hp z10).2;rw[cP]at this;intro G a w hw aY;exact wpAnyH_done (by simpa using this) ⟨.normal,e,O,G,Gh.Le.refl G,hw,aY,trivial,h⟩ fuel
   | held brk=>
     have:=(hp z10).2;rw[cP]at this;exact bR.done (by simpa using this) h
def uH(ho:ops[i]?=φ o)(h:((!brk.contains i&&((ops[i]?).map λo=>KK o.op).getD γ)||(brk.contains i&&(Ν listed.size).all λj=>(listed.setIfInBounds i Α).getD j Α||brk.contains j))=Α):
  (brk.contains i=γ/\KK o.op=Α)\/∀j,(listed.setIfInBounds i Α).getD j Α=γ\/j=i->brk.contains j=Α:=by
 rw[ho]at h;simp only[an2,Option.getD_some,auh,abT,Bool.not_eq_true']at h;rcases h with h | ⟨h1,h2⟩;exact .inl h
 ·refine .inr λj hj=>?_
  rcases hj with hj | rfl;rcases asl j listed.size with hl | hl;have:=auo.1 h2 j (List.mem_range.2 hl);rw[hj,Bool.false_or]at this;exact this;rw[apI,an4 z37]at hj;cases hj;exact h1
def aQ.skip{K:Env->VH->Prop}(ho:ops[i]?=φ o)(hg:aK ops o e=φ γ)(hd:bj n o.dst=Α)(hk:K (aU o.dst aO e) O):aQ P n D ops i e O Q K:=by
 intro G a w hw aY;simp only[wpOp,ho,bz aY hg,ahB,if_false];exact⟨_,_,G,Gh.Le.refl G,hw,aY.aU hd lV,hk⟩
def xQ{f:Fl}(hf:f≠ .one)(hv:iF tab f o e O=φ (m,O')):O'=O:=by
 cases f with
 | one=>exact absurd rfl hf
 | fk=>cases hv
 | au=>exact(po hv).2
 | rd=>
   simp only[iF,CF]at hv
   have key:∀{k},gI o.op=k->k≠0->k≠3->dE tab o e O=φ (m,O')->O'=O:=λ{k} hk h0 h3 hv=>by
    unfold dE at hv;split at hv;simp only[Option.some.injEq,Prod.mk.injEq]at hv;exact hv.2.symm
    ·unfold jr at hv
     split at hv<;>first
      | (rename_i ho;rw[ho]at hk;simp only[gI]at hk;exact absurd hk.symm h3)
      | (cases hv;done)
      | (rename_i ho _ _ _;rw[ho]at hk;simp only[gI]at hk;exact absurd hk.symm h3)
      | (obtain⟨p,h1,h2⟩:=TR.1 hv
         obtain⟨q,h3,h4⟩:=Ro.1 h2;simp only[Prod.mk.injEq]at h4;exact h4.2.symm)
      | (split at hv
         ·obtain⟨r,h3,h4⟩:=Ro.1 hv;simp only[Prod.mk.injEq]at h4;exact h4.2.symm
         ·cases hv)
      | (rename_i c ho
         rw[ho]at hk;simp only[gI]at hk;split at hv;rename_i hc _ _;simp only[hc]at hk;exact absurd hk.symm h3;obtain⟨p,h1,h2⟩:=TR.1 hv;obtain⟨q,h3,h4⟩:=Ro.1 h2;simp only[Prod.mk.injEq]at h4;exact h4.2.symm;cases hv)
   split at hv;exact key ‹_› z12 z12 hv;exact key ‹_› z12 z12 hv;exact(zK hv).2;exact key ‹_› z12 z12 hv;cases hv
def VL.step(ht:aN P tab){md:Md}{f:Fl}{L:List (Fl×Oper)}(hg:aK ops o e=φ Α)(hv:iF tab f o e O=φ (m,O'))(hd:bj n o.dst=Α)
  (h:VL P n D md ops L (aU o.dst m e) O' Q):VL P n D md ops ((f,o)::L) e O Q:=by
 intro fuel listed ix hf hp
 match ix,hf with
 | (i,g)::ix,hf=>
   obtain⟨rfl,ho,hf⟩:=hf;cases md with
   | plain=>exact jC.step ht ho hg (Ee hv) hd (h 0 #[] ix hf (λh=>absurd rfl h))
   | any=>
     obtain⟨h1,h2⟩:=hp z10;cases fuel with
     | zero=>cases h2
     | succ fuel=>
       simp only[cP,abT]at h2;have hk:=h fuel (listed.setIfInBounds i Α) ix hf (λ_=>⟨h1,h2.2⟩);cases g with
       | one=>
         have hr:Region.ready .any ops listed=[i]:=by simpa using h2.1
         exact cf.all hr z10 λj hj=>by
          obtain rfl:j=i:=by simpa using hj
          exact aQ.op ht ho hg (Ee hv) hd hk
       | au=>
         obtain⟨hs,rfl⟩:=po hv;simp only[abT]at h2;exact cf.Z4 ht ho h1 h2.1.1 h2.1.2 hg hs hd hk
       | rd=>exact absurd h2.1 z10
       | fk=>cases hv
   | reads=>
     obtain⟨h1,h2⟩:=hp z10;cases fuel with
     | zero=>cases h2
     | succ fuel=>
       simp only[cP,abT]at h2;have hk:=h fuel (listed.setIfInBounds i Α) ix hf (λ_=>⟨h1,h2.2⟩);((have hne:g≠ .one:=by rintro rfl;exact absurd h2.1 z10);intro G a w hw aY;obtain⟨rfl,u,hu,cD⟩:=zL (P:=P) ht hw aY hne hv;have h3:Region.free .any ops listed i=Α/\(Region.ready .any ops listed).contains i=Α:=by cases g<;>simp_all);exact wpAnyH_take ho h1 h3.1 h3.2 (iE hd) (.inl ⟨bz aY hg,λw' D5=>by rw[D5];exact cD w hw.sx⟩) rfl (hk G _ w hw (aY.aU hd hu))
   | held brk=>
     obtain⟨h1,h2⟩:=hp z10;cases fuel with
     | zero=>cases h2
     | succ fuel=>
       simp only[cP,abT]at h2;have hk:=h fuel (listed.setIfInBounds i Α) ix hf (λ_=>⟨h1,h2.2⟩);cases g with
       | one=>
         simp only[abT]at h2;(have hr:Region.ready .any ops listed=[i]:=by simpa using h2.1.1);exact bR.one ht ho hr (uH ho h2.1.2) hg (Ee hv) hd hk
       | fk=>exact absurd h2.1 z10
       | au=>
         simp only[abT]at h2
         exact bR.take ho h1 h2.1.1.1 h2.1.1.2 h2.1.2 hd (λG a w hw aY=>by
          obtain⟨_,u,hu,cD⟩:=zL (P:=P) ht hw aY z10 hv;exact⟨u,hu,.inl ⟨bz aY hg,cD⟩⟩) (by
          obtain rfl:=xQ z10 hv;exact hk)
       | rd=>
         simp only[abT]at h2
         exact bR.take ho h1 h2.1.1.1 h2.1.1.2 h2.1.2 hd (λG a w hw aY=>by
          obtain⟨_,u,hu,cD⟩:=zL (P:=P) ht hw aY z10 hv;exact⟨u,hu,.inl ⟨bz aY hg,cD⟩⟩) (by
          obtain rfl:=xQ z10 hv;exact hk)
def VL.skip{md:Md}{f:Fl}{L:List (Fl×Oper)}(RY:f≠ .fk)(hg:aK ops o e=φ γ)(hd:bj n o.dst=Α)
  (h:VL P n D md ops L (aU o.dst aO e) O Q):VL P n D md ops ((f,o)::L) e O Q:=by
 intro fuel listed ix hf hp
 match ix,hf with
 | (i,g)::ix,hf=>
   obtain⟨rfl,ho,hf⟩:=hf;cases md with
   | plain=>exact jC.skip ho hg hd (h 0 #[] ix hf (λh=>absurd rfl h))
   | any=>
     obtain⟨h1,h2⟩:=hp z10;cases fuel with
     | zero=>cases h2
     | succ fuel=>
       simp only[cP,abT]at h2;have hk:=h fuel (listed.setIfInBounds i Α) ix hf (λ_=>⟨h1,h2.2⟩);cases g with
       | one=>
         have hr:Region.ready .any ops listed=[i]:=by simpa using h2.1
         exact cf.all hr z10 λj hj=>by
          obtain rfl:j=i:=by simpa using hj
          exact aQ.skip ho hg hd hk
       | au=>
         simp only[abT]at h2;exact cf.aeG ho h1 h2.1.1 h2.1.2 hg hd hk
       | rd=>exact absurd h2.1 z10
       | fk=>exact absurd rfl RY
   | reads=>
     obtain⟨h1,h2⟩:=hp z10;cases fuel with
     | zero=>cases h2
     | succ fuel=>
       simp only[cP,abT]at h2;have hk:=h fuel (listed.setIfInBounds i Α) ix hf (λ_=>⟨h1,h2.2⟩);((have hne:g≠ .one:=by rintro rfl;exact absurd h2.1 z10);intro G a w hw aY;have h3:Region.free .any ops listed i=Α/\(Region.ready .any ops listed).contains i=Α:=by cases g<;>simp_all);exact wpAnyH_take ho h1 h3.1 h3.2 (iE hd) (.inr ⟨bz aY hg,rfl⟩) rfl (hk G _ w hw (aY.aU hd lV))
   | held brk=>
     obtain⟨h1,h2⟩:=hp z10;cases fuel with
     | zero=>cases h2
     | succ fuel=>
       simp only[cP,abT]at h2;have hk:=h fuel (listed.setIfInBounds i Α) ix hf (λ_=>⟨h1,h2.2⟩);cases g with
       | one=>
         simp only[abT]at h2;(have hr:Region.ready .any ops listed=[i]:=by simpa using h2.1.1);exact bR.an8 ho hr (uH ho h2.1.2) hg hd hk
       | fk=>exact absurd h2.1 z10
       | au=>
         simp only[abT]at h2;exact bR.take ho h1 h2.1.1.1 h2.1.1.2 h2.1.2 hd (λG a w hw aY=>⟨undef,lV,.inr ⟨bz aY hg,rfl⟩⟩) hk
       | rd=>
         simp only[abT]at h2;exact bR.take ho h1 h2.1.1.1 h2.1.1.2 h2.1.2 hd (λG a w hw aY=>⟨undef,lV,.inr ⟨bz aY hg,rfl⟩⟩) hk
def VL.fork(ht:aN P tab){L:List (Fl×Oper)}{oj:Oper}{mi mj mi' mj':MV}{O1 O2 O3 O4:VH}
  (pq:aK ops oi e=φ Α) (hvi:dE tab oi e O=φ (mi,O1)) (hdi:bj n oi.dst=Α) (Ia:aK ops oj (aU oi.dst mi e)=φ Α) (hvj:dE tab oj (aU oi.dst mi e) O1=φ (mj,O2)) (hdj:bj n oj.dst=Α)
  (apP:aK ops oj e=φ Α) (apQ:dE tab oj e O=φ (mj',O3)) (apR:aK ops oi (aU oj.dst mj' e)=φ Α) (apS:dE tab oi (aU oj.dst mj' e) O3=φ (mi',O4))
  (h1:VL P n D .any ops L (aU oj.dst mj (aU oi.dst mi e)) O2 Q) (h2:VL P n D .any ops L (aU oi.dst mi' (aU oj.dst mj' e)) O4 Q):VL P n D .any ops ((.fk,oi)::(.one,oj)::L) e O Q:=by
 intro fuel listed ix hf hp
 match ix,hf with
 | (i,g)::(j,g')::ix,hf=>
   obtain⟨rfl,hoi,rfl,WM,hf⟩:=hf;obtain⟨q1,q2⟩:=hp z10
   match fuel,q2 with
   | fuel+1,q2=>
     simp only[cP,abT,auh,beq_iff_eq]at q2;obtain⟨⟨⟨r1,r2⟩,r3⟩,q3⟩:=q2
     match fuel,q3 with
     | fuel+1,q3=>
       simp only[cP,abT,beq_iff_eq]at q3;have k1:=h1 fuel ((listed.setIfInBounds i Α).setIfInBounds j Α) ix hf (λ_=>⟨q1,q3.2⟩)
       have hne:i≠j:=by
        rintro rfl;((((have hm:i∈Region.ready .any ops (listed.setIfInBounds i Α):=by rw[r2];simp);simp only[Region.ready,aur,abT]at hm;have bI:i<ops.size:=by simpa using hm.1);have h0:=hm.2.1;rcases asl i listed.size with hl | hl);simp[hl]at h0);have:listed.setIfInBounds i Α=listed:=Array.setIfInBounds_eq_of_size_le hl;rw[apI,an4 z37]at h0;simp at h0
       have k2:=h2 fuel ((listed.setIfInBounds j Α).setIfInBounds i Α) ix hf (λ_=>⟨q1,by
        rw[aun _ _ (Ne.symm hne)];exact q3.2⟩)
       have key:∀rs,Region.ready .any ops listed=rs->(∀x∈rs,x=i\/x=j)->rs≠[]->cf P n D ops (fuel+1+1) listed e O Q:=λrs hr apT AN=>
        cf.all hr AN λx hx=>by
         rcases apT x hx with rfl | rfl
         ·exact aQ.op ht hoi pq hvi hdi (cf.all r2 z10 λy hy=>by
           obtain rfl:y=j:=by simpa using hy
           exact aQ.op ht WM Ia hvj hdj k1)
         ·exact aQ.op ht WM apP apQ hdj (cf.all r3 z10 λy hy=>by
           obtain rfl:y=i:=by simpa using hy
           exact aQ.op ht hoi apR apS hdi k2)
       rcases r1 with r1 | r1;exact key _ r1 z10 z10;exact key _ r1 (by intro x hx;simp only[List.mem_cons,List.not_mem_nil,or_false]at hx;exact hx.symm) z10
def VL.call{md:Md}{L:List (Fl×Oper)}{f:Operand}{args:Array Operand}{tys:Array TypeId}{ty:TypeId}{ps:String}{af:Array Edge}{g:Option (Nat×Bool)}{id:FuncId}{fs ms cs as_:Η}{R:gm->VH->Prop}
  (hg:aK ops (.mk d (.call {callee:=.value f,args:=args,argTypes:=tys}) ty ps af g) e=φ Α) (hf:ev e f=φ (.func (.func id) fs cs)) (hm:g_ e args.toList=φ ms) (ha:fs++ms++cs=as_) (hE:Enters P id) (hd:bj n d=Α) (hR:VF P id as_ O R)
  (h:∀r O',R r O'->match r with
   | .ret m=>VL P n D md ops L (aU d m e) O' Q
   | .panic m=>Q (.panic m) (jM n e) O'):VL P n D md ops ((.one,.mk d (.call {callee:=.value f,args:=args,argTypes:=tys}) ty ps af g)::L) e O Q:=by
 intro fuel listed ix uI hp;subst ha
 match ix,uI with
 | (i,g')::ix,uI=>
   obtain⟨rfl,ho,uI⟩:=uI;cases md with
   | plain=>
     refine jC.call ho hg rfl rfl hf hm hE hd hR λr O' hr=>?_
     have:=h r O' hr;cases r with
     | ret m=>exact this 0 #[] ix uI (λh=>absurd rfl h)
     | panic m=>exact this
   | any=>
     obtain⟨h1,h2⟩:=hp z10;cases fuel with
     | zero=>cases h2
     | succ fuel=>
       simp only[cP,abT]at h2;have hr:Region.ready .any ops listed=[i]:=by simpa using h2.1
       exact cf.all hr z10 λj hj=>by
        obtain rfl:j=i:=by simpa using hj
        refine aQ.call ho hg rfl rfl hf hm hE hd hR λr O' hr=>?_
        have:=h r O' hr;cases r with
        | ret m=>exact this fuel (listed.setIfInBounds j Α) ix uI (λ_=>⟨h1,h2.2⟩)
        | panic m=>exact this
   | reads=>
     obtain⟨h1,h2⟩:=hp z10;cases fuel with
     | zero=>cases h2
     | succ fuel=>
       simp only[cP,abT]at h2;exact absurd h2.1 z10
   | held brk=>
     obtain⟨h1,h2⟩:=hp z10;cases fuel with
     | zero=>cases h2
     | succ fuel=>
       simp only[cP,abT]at h2;have hr:Region.ready .any ops listed=[i]:=by simpa using h2.1.1
       have hb:∀j,(listed.setIfInBounds i Α).getD j Α=γ\/j=i->brk.contains j=Α:=by
        rcases uH ho h2.1.2 with⟨_,h3⟩ | h3;cases h3;exact h3
       refine bR.aeK hr hb (aQ.call ho hg rfl rfl hf hm hE hd hR λr O' hr=>?_);have:=h r O' hr;cases r with
       | ret m=>exact this fuel (listed.setIfInBounds i Α) ix uI (λ_=>⟨h1,h2.2⟩)
       | panic m=>exact this
def js(tab:cB)(n:Sz)(ops:Array Oper):List (Fl×Oper)->Env->VH->Option (List (Fl×Oper)×Env×VH)
 | [],e,O=>φ ([],e,O)
 | (.fk,o)::L,e,O=>φ ((.fk,o)::L,e,O)
 | (f,o)::L,e,O=>match gI o.op==0,aK ops o e with
   | _,Β=>Β
   | true,φ Α=>φ ((f,o)::L,e,O)
   | false,φ Α=>match iF tab f o e O with
     | none=>φ ((f,o)::L,e,O)
     | some (m,O')=>match bj n o.dst with
       | true=>js tab n ops L (aU o.dst m e) O'
       | false=>Β
   | _,φ γ=>match bj n o.dst with
     | true=>js tab n ops L (aU o.dst aO e) O
     | false=>Β
def VL.run(ht:aN P tab){md:Md}:∀{L L':List (Fl×Oper)} {e:Env} {O:VH},js tab n ops L e O=φ (L',e',O')->VL P n D md ops L' e' O' Q->VL P n D md ops L e O Q
 | [],L',e,O,h,hQ=>by
   simp only[js,Option.some.injEq,Prod.mk.injEq]at h;obtain⟨rfl,rfl,rfl⟩:=h;exact hQ
 | (.fk,o)::L,L',e,O,h,hQ=>by
   simp only[js,Option.some.injEq,Prod.mk.injEq]at h;obtain⟨rfl,rfl,rfl⟩:=h;exact hQ
 | (.one,o)::L,L',e,O,h,hQ=>by
   simp only[js]at h;split at h;cases h;simp only[Option.some.injEq,Prod.mk.injEq]at h;obtain⟨rfl,rfl,rfl⟩:=h;exact hQ;split at h;simp only[Option.some.injEq,Prod.mk.injEq]at h;obtain⟨rfl,rfl,rfl⟩:=h;exact hQ;split at h;exact VL.step ht ‹_› ‹_› ‹_› (VL.run ht h hQ);cases h;split at h;exact VL.skip z10 ‹_› ‹_› (VL.run ht h hQ);cases h
 | (.au,o)::L,L',e,O,h,hQ=>by
   simp only[js]at h;split at h;cases h;simp only[Option.some.injEq,Prod.mk.injEq]at h;obtain⟨rfl,rfl,rfl⟩:=h;exact hQ;split at h;simp only[Option.some.injEq,Prod.mk.injEq]at h;obtain⟨rfl,rfl,rfl⟩:=h;exact hQ;split at h;exact VL.step ht ‹_› ‹_› ‹_› (VL.run ht h hQ);cases h;split at h;exact VL.skip z10 ‹_› ‹_› (VL.run ht h hQ);cases h
 | (.rd,o)::L,L',e,O,h,hQ=>by
   simp only[js]at h;split at h;cases h;simp only[Option.some.injEq,Prod.mk.injEq]at h;obtain⟨rfl,rfl,rfl⟩:=h;exact hQ;split at h;simp only[Option.some.injEq,Prod.mk.injEq]at h;obtain⟨rfl,rfl,rfl⟩:=h;exact hQ;split at h;exact VL.step ht ‹_› ‹_› ‹_› (VL.run ht h hQ);cases h;split at h;exact VL.skip z10 ‹_› ‹_› (VL.run ht h hQ);cases h
def RZ(tab:cB)(n:Sz)(ops:Array Oper)(L:List (Fl×Oper))(e:Env)(O:VH):Bool->Option (List (Fl×Oper)×Env×VH)
 | true=>js tab n ops L e O
 | false=>Β
def wk2(tab:cB)(n:Sz)(ops:Array Oper)(fo:Fl×Oper)(L:List (Fl×Oper))(e:Env)(O:VH):Option (MV×VH)->Option (List (Fl×Oper)×Env×VH)
 | some (m,O')=>RZ tab n ops L (aU fo.2.dst m e) O' (bj n fo.2.dst)
 | none=>φ (fo::L,e,O)
def R3(tab:cB)(n:Sz)(ops:Array Oper)(f:Fl)(o:Oper)(L:List (Fl×Oper))(e:Env)(O:VH):Bool->Option Bool->Option (List (Fl×Oper)×Env×VH)
 | _,Β=>Β
 | true,φ Α=>φ ((f,o)::L,e,O)
 | false,φ Α=>wk2 tab n ops (f,o) L e O (iF tab f o e O)
 | _,φ γ=>RZ tab n ops L (aU o.dst aO e) O (bj n o.dst)
section
variable{f:Fl}{o:Oper}{L:List (Fl×Oper)}{d:Option Tmp}{p:Op}{ty:TypeId}{ps:String}{af:Array Edge}{g:Option (Nat×Bool)}{b:Bool}
def WV:js tab n ops [] e O=φ ([],e,O):=rfl
def xR(RY:f≠ .fk:=by simp):js tab n ops ((f,.mk d p ty ps af g)::L) e O=R3 tab n ops f (.mk d p ty ps af g) L e O (gI p==0) (aK ops (.mk d p ty ps af g) e):=by
 have key:js tab n ops ((f,.mk d p ty ps af g)::L) e O=match gI p==0,aK ops (.mk d p ty ps af g) e with
  | _,Β=>Β
  | true,φ Α=>φ ((f,.mk d p ty ps af g)::L,e,O)
  | false,φ Α=>match iF tab f (.mk d p ty ps af g) e O with
    | none=>φ ((f,.mk d p ty ps af g)::L,e,O)
    | some (m,O')=>match bj n d with
      | true=>js tab n ops L (aU d m e) O'
      | false=>Β
  | _,φ γ=>match bj n d with
    | true=>js tab n ops L (aU d aO e) O
    | false=>Β:=by
  cases f<;>first | exact absurd rfl RY | rfl
 rw[key];generalize aK ops (.mk d p ty ps af g) e=x;generalize (gI p==0)=y;unfold R3;cases x with
 | none=>rfl
 | some b=>
   cases b<;>cases y<;>simp only;unfold RZ;cases bj n d<;>rfl;unfold RZ;cases bj n d<;>rfl
   ·unfold wk2;cases iF tab f (.mk d p ty ps af g) e O with
    | none=>rfl
    | some r=>unfold RZ;cases bj n d<;>rfl
def WX:js tab n ops ((.one,.mk d p ty ps af g)::L) e O=R3 tab n ops .one (.mk d p ty ps af g) L e O (gI p==0) (aK ops (.mk d p ty ps af g) e):=xR
def WY:js tab n ops ((.au,.mk d p ty ps af g)::L) e O=R3 tab n ops .au (.mk d p ty ps af g) L e O (gI p==0) (aK ops (.mk d p ty ps af g) e):=xR
def ab4:js tab n ops ((.rd,.mk d p ty ps af g)::L) e O=R3 tab n ops .rd (.mk d p ty ps af g) L e O (gI p==0) (aK ops (.mk d p ty ps af g) e):=xR
def ab5:js tab n ops ((.fk,o)::L) e O=φ ((.fk,o)::L,e,O):=rfl
def ab6:R3 tab n ops f o L e O Α (φ Α)=φ ((f,o)::L,e,O):=rfl
def aje:R3 tab n ops f (.mk d p ty ps af g) L e O γ (φ Α)=wk2 tab n ops (f,.mk d p ty ps af g) L e O (iF tab f (.mk d p ty ps af g) e O):=rfl
def ab7:R3 tab n ops f (.mk d p ty ps af g) L e O b (φ γ)=RZ tab n ops L (aU d aO e) O (bj n d):=by cases b<;>rfl
def ab8:wk2 tab n ops (f,.mk d p ty ps af g) L e O (φ (m,O'))=RZ tab n ops L (aU d m e) O' (bj n d):=rfl
def ab9{fo:Fl×Oper}:wk2 tab n ops fo L e O Β=φ (fo::L,e,O):=rfl
def ab_:RZ tab n ops L e O Α=js tab n ops L e O:=rfl
def zM:iF tab .one o e O=dE tab o e O:=rfl
def Mn:iF tab .au (.mk d p ty ps af g) e O=Mm tab (gI p) (.mk d p ty ps af g) e O:=rfl
def R4:iF tab .rd (.mk d p ty ps af g) e O=CF tab (gI p) (.mk d p ty ps af g) e O:=rfl
def Z9:Mm tab 1 o e O=dE tab o e O:=rfl
def Z_{t:TypeId} :Mm tab 2 (.mk d (.load t x) ty ps af g) e O=((ev e x).bind (Hg tab t)).map (·,O):=rfl
def aaa{t:TypeId} :Mm tab 4 (.mk d (.call {callee:=.builtin .len,args:= #[x],argTypes:= #[t]}) ty ps af g) e O=((ev e x).bind (ra tab t)).map (·,O):=rfl
def aab:CF tab 1 o e O=dE tab o e O:=rfl
def aac:CF tab 2 o e O=dE tab o e O:=rfl
def aad:CF tab 5 o e O=dE tab o e O:=rfl
def aae{t:TypeId} :CF tab 4 (.mk d (.call {callee:=.builtin .len,args:= #[x],argTypes:= #[t]}) ty ps af g) e O=((ev e x).bind (ra tab t)).map (·,O):=rfl
def Mo{t:TypeId}{cs:Η} :Hg tab t (.dV cs off)=fq tab ⟨0,λ_=>Β⟩ t (.dV cs off):=rfl
end
section
variable{x y z:Operand}{t t':TypeId}{f:Nat}{q:BinOp}{r:UnOp}{as_:Array Operand}{ts:Array TypeId}{l h k:Option Operand}{fn:Fn}{ps:Array (Nat×Operand)}
def Mp:gI (.move x)=1:=rfl
def FE:gI (.assign x)=1:=rfl
def Mq:gI (.pick x y z)=1:=rfl
def AO:gI (.nilCheck x)=1:=rfl
def Ib:gI (.binOp q t x y t')=1:=rfl
def Mr:gI (.unOp r t x)=1:=rfl
def CH:gI (.convert t t' x)=1:=rfl
def xS:gI (.fieldAddr t x f)=1:=rfl
def Ic:gI (.field t x f)=1:=rfl
def xT:gI (.indexAddr t x y)=1:=rfl
def Ie:gI (.index t x y)=1:=rfl
def CI:gI (.extract x f)=1:=rfl
def Ig:gI (.slice t x l h k)=1:=rfl
def Ih:gI (.build t ps)=1:=rfl
def AP{as':Array Operand}:gI (.makeFunc fn as_ as')=1:=rfl
def r6:gI (.makeInterface t x)=1:=rfl
def Ms:gI (.load t x)=2:=rfl
def Ii:gI (.call {callee:=.value x,args:=as_,argTypes:=ts})=0:=rfl
def R5:gI (.call {callee:=.builtin .len,args:=as_,argTypes:=ts})=4:=rfl
def R6:gI (.call {callee:=.builtin .max,args:=as_,argTypes:=ts})=1:=rfl
def R7:gI (.call {callee:=.builtin .min,args:=as_,argTypes:=ts})=1:=rfl
def WZ:gI (.call {callee:=.builtin .unsafeSliceData,args:=as_,argTypes:=ts})=1:=rfl
def FG:gI (.call {callee:=.builtin .append,args:=as_,argTypes:=ts})=3:=rfl
def Ij:gI (.store t x y)=3:=rfl
def R8:gI (.box t x)=3:=rfl
def Ik:gI (.alloc t)=3:=rfl
def wG:gI (.buildSlice t f ps)=3:=rfl
def CJ{t:TypeId}{r:Option Operand}:gI (.makeMap t r)=3:=rfl
def FH{t:TypeId}{x y:Operand}{b:Bool}:gI (.lookup t x y b)=5:=rfl
def xU{t:TypeId}{x y z:Operand}:gI (.mapUpdate t x y z)=3:=rfl
def FI{t:TypeId}{x y z:Operand}:gI (.insert t x y z)=3:=rfl
def xV:gI (.makeSlice t x y)=3:=rfl
end
def FJ:∀(l:ϕ)(k:Nat),(∀j,l[j]?=Β\/l[j]?=ops[k+j]?)->Fits ops ((List.range' k (Ζ l)).map (·,Fl.one)) (l.map (Fl.one, ·))
 | [],_,_=>trivial
 | o::l,k,h=>by
   rw[atM,List.range'_succ];refine⟨rfl,?_,FJ l (k+1) λj=>?_⟩;rcases h 0 with h0 | h0;cases h0;simpa using h0.symm;rcases h (j+1)with h0 | h0;exact .inl (by simpa using h0);exact .inr (by rw[show k+1+j=k+(j+1)from by omega];simpa using h0)
def VC.aaf{id:Nat}{l:ϕ}(h:VL P n D .plain ⟨l⟩ (l.map (Fl.one, ·)) e O Q):VC P n D (.region id ⟨l⟩ γ) e O Q:=by
 refine VC.region ?_;have:=h 0 #[] _ (FJ l 0 λj=>.inr z10) (λh=>absurd rfl h);simp only[alw,List.map_map]at this;rw[show(⟨l⟩:Array Oper).size=(Ζ l) from rfl,List.range_eq_range'];rw[show((λx:Nat×Fl=>x.1) ∘ λx=>(x,Fl.one))=_root_.id from rfl,List.map_id]at this;exact this
def pw(l:ϕ):List (Nat×Fl)->Option (List (Fl×Oper))
 | []=>φ []
 | (i,f)::ix=>match l[i]?,pw l ix with
   | some o,φ L=>φ ((f,o)::L)
   | _,_=>Β
def vJ{l:ϕ}:∀{ix:List (Nat×Fl)} {L:List (Fl×Oper)},pw l ix=φ L->Fits ⟨l⟩ ix L
 | [],L,h=>by injection h with h;subst h;trivial
 | (i,f)::ix,L,h=>by
   simp only[pw]at h;split at h;rename_i o L' h1 h2;injection h with h;subst h;exact⟨rfl,by simpa using h1,vJ h2⟩;cases h
def VC.aag(md:Md)(ix:List (Nat×Fl)){id:Nat}{l:ϕ}{L:List (Fl×Oper)}(hne:md≠ .plain)(hm:P.follows .mixedOrders=Α)(hs:Region.noSelect ⟨l⟩=Α)(hp:cP md ⟨l⟩ (Ζ l) (Array.replicate (Ζ l) γ) ix=Α)(hL:pw l ix=φ L)
  (h:VL P n D md ⟨l⟩ L e O Q):VC P n D (.region id ⟨l⟩ Α) e O Q:=by
 have:=h (Ζ l) (Array.replicate (Ζ l) γ) ix (vJ hL) (λ_=>⟨hs,hp⟩);cases md with
 | plain=>exact absurd rfl hne
 | any=>exact VC.draw hm this
 | reads=>exactλG a w hw hf=>wp_region_held hm (this G a _ (hw.drawn _) hf)
 | held brk=>exact VC.Pe brk hm this
end
def alx(b:Bool):(b==Α)=b:=by cases b<;>rfl
def aly(b:Bool):(b==γ)= !b:=by cases b<;>rfl
def ru{b:Int}(h:a=b):(a==b)=Α:=by simpa using h
def sV{b:Int}(h:¬a=b):(a==b)=γ:=by simpa using h
def aah{b:Int}(h:¬a=b):(a != b)=Α:=by simpa using h
def aai{b:Int}(h:a=b):(a != b)=γ:=by simpa using h
def aC(Φ :MV->VH->Prop):gm->VH->Prop
 | .ret m,O=> Φ m O
 | .panic _,_=>False
section
variable{n:Sz}{D:List Deferred}{e:Env}{P:Program}{tab:cB}{O:VH}{ops:Array Oper}{Q:VQ}{Φ :MV->VH->Prop}
def aeQ{m:MV}:aC Φ (.ret m) O= Φ m O:=rfl
def VF.lG{f:FuncId}{args:Η}{Φ':MV->VH->Prop}(hv:VF P f args O (aC Φ))(h:∀m O', Φ m O'-> Φ' m O'):VF P f args O (aC Φ'):=
 hv.mono λr O' hr=>by
  cases r with
  | ret m=>exact h m O' hr
  | panic m=>exact hr
end
def FK(f:Fl):∀(l pre:ϕ),pw (pre++l) ((List.range' (Ζ pre) (Ζ l)).map (·,f))=φ (l.map (f, ·))
 | [],_=>rfl
 | o::l,pre=>by
   rw[atM,List.range'_succ,apH,apH,pw];have:=FK f l (pre++[o]);rw[aul,asc]at this;simp only[List.singleton_append,atM,List.length_nil,apJ]at this;rw[this];simp
def VC.aaj{n:Sz}{e:Env}{O:VH}{Q:VQ}{id:Nat}{l:ϕ}(hm:P.follows .mixedOrders=Α)(hs:Region.noSelect ⟨l⟩=Α)(hp:cP .reads ⟨l⟩ (Ζ l) (Array.replicate (Ζ l) γ) ((List.range' 0 (Ζ l)).map (·,Fl.rd))=Α)
  (h:VL P n D .reads ⟨l⟩ (l.map (Fl.rd, ·)) e O Q):VC P n D (.region id ⟨l⟩ Α) e O Q:=
 VC.aag .reads _ z10 hm hs hp (FK .rd l []) h
def aak{k:IntKind}{b:Int}:D9 (.v (.int k a)) (.v (.int k b))=φ (.v (.int k (max a b))):=by
 simp only[D9];have:(if b>a then b else a)=max a b:=by split<;>omega
 rw[this]
def aal{k:IntKind}{b:Int}:D_ (.v (.int k a)) (.v (.int k b))=φ (.v (.int k (min a b))):=by
 simp only[D_];have:(if b<a then b else a)=min a b:=by split<;>omega
 rw[this]
def R_{e:Env}{tab:cB}{O:VH}{d:Option Tmp}{ty:TypeId}{p:String}{af:Array Edge}{g:Option (Nat×Bool)}{c x y:Operand}:dE tab (.mk d (.pick c x y) ty p af g) e O=((ev e c).bind λb=>match b with
  | .v (.bool Α)=>ev e x
  | .v (.bool γ)=>ev e y
  | _=>Β).map (·,O):=by
 simp only[dE,ft,jr];cases ev e c with
 | none=>rfl
 | some m=>
   (cases m<;>try rfl);rename_i v;cases v<;>try rfl
   rename_i b;cases b;simp only[apF];cases ev e y<;>rfl;simp only[apF];cases ev e x<;>rfl
def zp0(l:Η):gW #[] l=[]:=rfl
def aam(b o:Nat):Rz (.p b o)=φ (.p b o):=rfl
def aan(cs:Η)(o:Nat):Rz (.dV cs o)=φ (.dV cs o):=rfl
def Ef(x:Value):ey (.v x)=[.v x]:=rfl
def BA(k:Nat)(cs:Η)(tk:Tok):ey (.l k cs tk)=[.l k cs tk]:=rfl
def xW(l:Ρ):ey (.s l)=[.s l]:=rfl
def xX(b o:Nat):ey (.p b o)=[.p b o]:=rfl
def xY(cs:Η):ey (.agg cs)=cs:=rfl
section
variable{tab:cB}{O:VH}{t:TypeId}{u:TypeDesc}{d:Nat}{y cs:Η}{k off:Nat}
end
section
variable{tab:cB}{t el:TypeId}{u:TypeDesc}{a b d:Nat}{z:Η}{y:MV}{k0 k1:Nat}{c0 c1:Η}{t0 t1:Tok}
end
def VC.freeze{n:Sz}{e:Env}{O:VH}{Q:VQ}(t:Nat){o cp:Nat}{cs:Η}(ht:look e t=φ (.bk k o i cp))(hk:O.hp k=φ (.cells cs))(hs:o+sz<=Ζ cs)
  (h:VC P n D c ((t,.l i ((cs.drop o).take sz) (if cp=i then .full else .av))::e) (O.kill k) Q):VC P n D c e O Q:=by
 intro G a w hw hf;obtain⟨u,ry,dZ⟩:=hf.get t _ ht;obtain⟨H,h1,h2,h3⟩:=hw.freeze hk dZ hs
 have jh:FR H n D ((t,.l i ((cs.drop o).take sz) (if cp=i then .full else .av))::e) a:=by
  have hm:=hf.mono h1;refine⟨hm.defers,hm.size,λs x hx=>?_⟩;rw[pj]at hx;cases hb:s==t with
  | true=>
    rw[hb,cond_true]at hx;injection hx with hx;subst hx;(have:s=t:=by simpa using hb);subst this;exact⟨u,ry,h3⟩
  | false=>rw[hb,cond_false]at hx;exact hm.get s x hx
 exact wp_mono (h H a w h2 jh) λ_ _ _=>cU.le h1
def aeR:=Rn @aam<|Rn @aan<|Rn @Ef<|Rn @BA<|Rn @xW<|Rn @xX<|Rn @xY<|Rn @WV<|Rn @WX<|Rn @WY<|Rn @ab4<|Rn @ab5<|Rn @CB<|Rn @FC<|Rn @xP<|Rn @FD<|Rn @CJ<|Rn @FH<|Rn @xU<|Rn @FI<|Rn @ab6<|Rn @aje<|Rn @ab7<|Rn @ab8<|Rn @ab9<|Rn @ab_<|Rn @zM<|Rn @Mn<|Rn @R4<|Rn @Z9<|Rn @Z_<|Rn @aaa<|Rn @aab<|Rn @aac<|Rn @aad<|Rn @aae<|Rn @Mo<|Rn @Mp<|Rn @FE<|Rn @Mq<|Rn @AO<|Rn @Ib<|Rn @Mr<|Rn @CH<|Rn @xS<|Rn @Ic<|Rn @xT<|Rn @Ie<|Rn @CI<|Rn @Ig<|Rn @Ih<|Rn @AP<|Rn @r6<|Rn @Ms<|Rn @Ii<|Rn @R5<|Rn @R6<|Rn @R7<|Rn @FG<|Rn @Ij<|Rn @R8<|Rn @Ik<|Rn @wG<|Rn @xV<|Rn @alx<|Rn @aly<|Rn @ru<|Rn @sV<|Rn @aah<|Rn @aai<|Rn @CC<|Rn @CD<|Rn @H9<|Rn @H_<|Rn @ag<|Rn @H8<|Rn @wrap_i64<|Rn @L8<|Rn @FB<|Rn @R_<|Rn @aak<|Rn @aal<|Rn @AJ<|Rn @HY<|Rn @L9<|Rn @Cz<|Rn @xM<|Rn @HZ<|Rn @xN<|Rn @H0<|Rn @CA<|Rn @H3<|Rn @AK<|Rn @H4<|Rn @L_<|Rn @Ma<|Rn @RM<|Rn @RP<|Rn @RQ<|Rn @eN<|Rn @rN<|Rn @H5<|Rn @RS<|Rn @WQ<|Rn @wF<|Rn @xO<|Rn @Z5<|Rn @Z6<|Rn @RH<|Rn @Z7<|Rn @L6<|Rn @HW<|Rn @HX<|Rn @Cy<|Rn @Fy<|Rn @RI<|Rn @pj<|Rn @RJ<|Rn @L7<|Rn @Mb<|Rn @Mc<|Rn @Me<|Rn @Mf<|Rn @Mg<|Rn @Mh<|Rn @Mi<|Rn @Mj<|Rn @Mk<|Rn @RT<|Rn @RU<|Rn @aq<|Rn @bg<|Rn @zp0<|Rn @zp1<|Rn @zp2<|Rn @zp3<|Rn @VH.vI<|Rn @sU<|Rn @Bz<|Rn @WU @ab2
end Go.Proofs.YtnfdmplcieacjaaGreatDoor
