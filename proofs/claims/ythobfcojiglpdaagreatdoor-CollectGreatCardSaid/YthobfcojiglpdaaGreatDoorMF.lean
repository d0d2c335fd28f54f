import Derived.Test.YthobfcojiglpdaaGreatDoorME
set_option linter.unusedVariables false
set_option linter.unusedSimpArgs false
namespace Go.Proofs.YthobfcojiglpdaaGreatDoor
open Go.RowKit
set_option maxRecDepth 10000
structure Br where
 up:Int
 dp:Int
 od:Int
 k:Ky
 v:Bs
 sc:Int
 rd:Bool
def fN (k:Ky):eC:=⟨k.g,k.a⟩
def iS (b:Br):Gv:=⟨b.k.g,b.k.a,b.v⟩
abbrev kZ:=List Br×List (List eC)
def oo (N:List Br) (p:Nat->Bool):Nat->Int->Bool
 | 0,_=>false
 | f+1,i=>if i<0 then false else p i.toNat||match N[i.toNat]? with
   | none=>false
   | some b=>oo N p f b.up
def jH (i:Nat) (b:Br) (n:lx):Int:=if i=0 then n.s else if n.o then 0 else sL b.sc n.s
def xG (S:kZ) (i:Nat) (x:eC):Bool:=oo S.1 (fun k=>(S.2.getD k []).any (Bx · x)) (i+1) i
def np (S:kZ) (i:Nat) (x:eC):Bool:=oo S.1 (fun k=>match S.1[k]? with
    | none=>false
    | some b=>fN b.k==x) (i+1) i
def qa (S:kZ) (i:Nat) (b:Br) (od:Nat) (n:lx):kZ:=(S.1++[⟨i,b.dp+1,od,n.k,n.v,jH i b n,np S i (fN n.k)⟩],S.2++[n.x])
def pF (S:kZ) (i:Nat) (b:Br) (od:Nat) (n:lx):Option kZ:=
 if jH i b n=0\/xG S i (fN n.k)=true then some S
 else if 4096<=S.1.length then none
 else some (qa S i b od n)
def iq (i:Nat) (b:Br):List lx->Nat->kZ->Option kZ
 | [],_,S=>some S
 | n::l,od,S=>match pF S i b od n with
   | none=>none
   | some S'=>iq i b l (od+1) S'
def f_ (ms:Gv->Option (List lx)):Nat->Nat->kZ->Option (Option (List Br))
 | 0,_,_=>none
 | f+1,i,S=>match S.1[i]? with
   | none=>some (some S.1)
   | some b=>if b.rd then f_ ms f (i+1) S else match ms (iS b)with
     | none=>none
     | some l=>match iq i b l 0 S with
       | none=>some none
       | some S'=>f_ ms f (i+1) S'
def mF (g:Gv):Br:=⟨-1,0,0,⟨g.g,g.a,fM,[]⟩,g.v,0,false⟩
def qy (ms:Gv->Option (List lx)) (g:Gv):Option (Option (List Br)):=f_ ms 5000 0 ([mF g],[[]])
def fj (S:List (Gv×List Dp)) (g:Gv):Option (List lx):=(S.find? (·.1==g)).map fun p=>p.2.map bY
def Ups (N:List Br):Prop:=∀(i:Nat) (b:Br),N[i]?=some b-> -1<=b.up/\b.up<(i:Int)/\0<=b.dp/\b.dp<=(i:Int)
theorem qb {N:List Br} {p:Nat->Bool}:∀(f:Nat) (i:Int) (P:Nat->Prop),(∀k,P k->p k=false)->(∀k b,P k->N[k]?=some b->0<=b.up->P b.up.toNat)->(0<=i->P i.toNat)->oo N p f i=false
 | 0,_,_,_,_,_=>rfl
 | f+1,i,P,h1,h2,h3=>by
   unfold oo;by_cases hi:i<0
   ·rw[if_pos hi]
   ·rw[if_neg hi,h1 _ (h3 (by omega)),Bool.false_or];cases hg:N[i.toNat]? with
    | none=>rfl
    | some b=>exact qb f b.up P h1 h2 (fun h=>h2 _ b (h3 (by omega)) hg h)
theorem u_ {S:kZ} {i:Nat} {x:eC} (h:∀y∈S.2,y=[]):xG S i x=false:=by
 refine qb _ _ (fun _=>True) (fun k _=>?_) (fun _ _ _ _ _=>trivial) (fun _=>trivial);rw[List.getD_eq_getElem?_getD];cases hg:S.2[k]? with
 | none=>rfl
 | some y=>rw[h y (List.mem_of_getElem? hg)];rfl
theorem xH {S:kZ} {i:Nat} {b:Br} {od:Nat} {n:lx} (hs:jH i b n≠0) (he:xG S i (fN n.k)=false) (hl:S.1.length<4096):pF S i b od n=some (qa S i b od n):=by
 unfold pF;rw[if_neg (by rw[he];rintro(h | h);exact hs h;cases h),if_neg (by omega)]
theorem Qu {S:kZ} {i:Nat} {b:Br} {od:Nat} {n:lx} (hs:jH i b n≠0) (he:xG S i (fN n.k)=false) (hl:4096<=S.1.length):pF S i b od n=none:=by
 unfold pF;rw[if_neg (by rw[he];rintro(h | h);exact hs h;cases h),if_pos hl]
def gS:Bs:=[103]
def v1:Bs:=[49]
def fq (a v:Bs) (s:Int):Dp:=⟨gS,a,v,[],[],s,0,[]⟩
theorem vT (a v:Bs) (s:Int):bY (fq a v s)=⟨⟨gS,a,fM,[]⟩,v,max s 1,false,[]⟩:=rfl
section
variable (f:Nat->Bs)
def lT (r:Bool) (i:Nat) (j:Nat):Br:=⟨(i:Int) - 1,i,0,⟨gS,f j,fM,[]⟩,v1,if i=0 then 0 else 1,r⟩
def nH (j:Nat):List Br:=(List.range j).map fun i=>lT f false i i
def xI (n:Nat) (r:Bool) (i:Nat):List Dp:=if i+1<n then[fq (f (i+1)) v1 0]else if r then[fq (f 0) v1 0]else[]
end
variable {f:Nat->Bs}
theorem k6 (j:Nat):(nH f j).length=j:=by simp[nH]
theorem sk {j i:Nat} (h:i<j):(nH f j)[i]?=some (lT f false i i):=by simp[nH,h]
theorem VW (j:Nat):nH f (j+1)=nH f j++[lT f false j j]:=by simp[nH,List.range_succ]
theorem MY (j:Nat):∀y∈List.replicate j ([]:List eC),y=[]:=fun y h=>(List.mem_replicate.1 h).2
theorem EO {n j:Nat} (hf:∀i k,i<n->k<n->f i=f k->i=k) (hj:j+1<n) (X:List (List eC)):np (nH f (j+1),X) j ⟨gS,f (j+1)⟩=false:=by
 refine qb _ _ (fun k=>k<j+1) (fun k hk=>?_) (fun k b hk hb _=>?_) (fun _=>by omega)
 ·dsimp only;rw[sk hk];simp only[lT,fN,beq_eq_false_iff_ne,ne_eq,eC.mk.injEq,true_and];intro e;have:=hf k (j+1) (by omega) hj e;omega
 ·dsimp only at hb;rw[sk hk]at hb;injection hb with hb;subst hb
  simp only[lT];omega
theorem sW:∀(i m:Nat) (X:List (List eC)),i<m->oo (nH f m) (fun k=>match(nH f m)[k]? with
  | none=>false
  | some b=>fN b.k==⟨gS,f 0⟩) (i+1) i=true
 | 0,m,X,h=>by
   unfold oo;rw[if_neg (by omega)];simp only[Int.toNat_natCast];rw[sk h];simp[lT,fN]
 | i+1,m,X,h=>by
   unfold oo;rw[if_neg (by omega)];simp only[Int.toNat_natCast];rw[sk h];dsimp only;have:(lT f false (i+1) (i+1)).up=(i:Int):=by simp only[lT];omega
   rw[this,sW i m X (by omega),Bool.or_true]
theorem qc {i:Nat} {r:Bool} {a v:Bs}:jH i (lT f r i i) (bY (fq a v 0))=1:=by
 unfold jH;rw[vT];by_cases h:i=0
 ·rw[if_pos h];rfl
 ·rw[if_neg h];simp only[lT,if_neg h];decide
theorem Qv {n:Nat} {r:Bool} {ms:Gv->Option (List lx)} (hn:2<=n) (hm:n<=60) (hf:∀i k,i<n->k<n->f i=f k->i=k) (MZ:∀i,i<n->ms ⟨gS,f i,v1⟩=some ((xI f n r i).map bY)):
  qy ms ⟨gS,f 0,v1⟩=some (some (nH f n++if r then[lT f true n 0]else[])):=by
 have step:∀(j F:Nat),j<n->f_ ms (F+j+1) (n - 1 - j) (nH f (n - j),List.replicate (n - j) [])=f_ ms (F+1) (n - 1) (nH f n,List.replicate n []):=by
  intro j;induction j with
  | zero=>intro F _;rfl
  | succ j ih=>
    intro F hj;rw[<-ih F (by omega)];rw[show F+(j+1)+1=(F+j+1)+1 by omega,f_];have bI:(nH f (n - (j+1)))[n - 1 - (j+1)]?=some (lT f false (n - 1 - (j+1)) (n - 1 - (j+1))):=sk (by omega);generalize hi:n - 1 - (j+1)=i at*;rw[bI];dsimp only;rw[if_neg (by simp[lT])];have hg:iS (lT f false i i)=⟨gS,f i,v1⟩:=rfl;rw[hg,MZ i (by omega)];have hd:xI f n r i=[fq (f (i+1)) v1 0]:=by unfold xI;rw[if_pos (by omega)]
    rw[hd];simp only[List.map_cons,List.map_nil];rw[iq,xH (by rw[qc];decide) (u_ (MY _)) (by rw[k6];omega)];simp only[iq];have e1:n - (j+1)=i+1:=by omega
    have e2:n - j=i+2:=by omega
    have e3:n - 1 - j=i+1:=by omega
    rw[e1,e2,e3]
    have ha:qa (nH f (i+1),List.replicate (i+1) []) i (lT f false i i) 0 (bY (fq (f (i+1)) v1 0))=(nH f (i+2),List.replicate (i+2) []):=by
     unfold qa;rw[qc];have hr:np (nH f (i+1),List.replicate (i+1) []) i (fN (bY (fq (f (i+1)) v1 0)).k)=false:=EO hf (by omega) _;rw[hr];refine Prod.ext ?_ ?_
     ·rw[VW (i+1)];dsimp only
      congr 1
      simp only[lT,vT,List.cons.injEq,and_true,Br.mk.injEq]
      repeat' first
       | (refine And.intro ?_ ?_)
       | rfl
       | trivial
       | (rw[if_neg (by omega)])
       | omega
     ·dsimp only;rw[List.replicate_succ' (n:=i+1)];rfl
    rw[ha]
 have h0:=step (n - 1) (5000 - n) (by omega);rw[show 5000 - n+(n - 1)+1=5000 by omega,show n - 1 - (n - 1)=0 by omega,show n - (n - 1)=1 by omega]at h0
 have hr0:([mF ⟨gS,f 0,v1⟩],[([]:List eC)])=(nH f 1,List.replicate 1 []):=by
  refine Prod.ext ?_ rfl;show[mF ⟨gS,f 0,v1⟩]=[lT f false 0 0];simp[mF,lT]
 unfold qy;rw[hr0,h0,f_];have bI:(nH f n)[n - 1]?=some (lT f false (n - 1) (n - 1)):=sk (by omega);dsimp only;rw[bI];dsimp only;rw[if_neg (by simp[lT])];have hg:iS (lT f false (n - 1) (n - 1))=⟨gS,f (n - 1),v1⟩:=rfl;rw[hg,MZ (n - 1) (by omega)];have hd:xI f n r (n - 1)=if r then[fq (f 0) v1 0]else[]:=by unfold xI;rw[if_neg (by omega)]
 rw[hd];obtain⟨F,hF⟩:∃F,5000 - n=F+2:=⟨5000 - n - 2,by omega⟩
 cases r with
 | false=>
   simp only[Bool.false_eq_true,if_false,List.map_nil,List.append_nil];rw[iq];dsimp only;rw[hF,f_];dsimp only;rw[List.getElem?_eq_none (by rw[k6];omega)]
 | true=>
   simp only[if_true,List.map_cons,List.map_nil];rw[iq,xH (by rw[qc];decide) (u_ (MY _)) (by rw[k6];omega)];dsimp only;rw[iq];dsimp only;have hr:np (nH f n,List.replicate n []) (n - 1) (fN (bY (fq (f 0) v1 0)).k)=true:=sW (n - 1) n (List.replicate n []) (by omega)
   have ha:qa (nH f n,List.replicate n []) (n - 1) (lT f false (n - 1) (n - 1)) 0 (bY (fq (f 0) v1 0))=(nH f n++[lT f true n 0],List.replicate n []++[[]]):=by
    unfold qa;rw[qc,hr];refine Prod.ext ?_ rfl;dsimp only
    congr 1
    simp only[lT,vT,List.cons.injEq,and_true,Br.mk.injEq]
    repeat' first
     | (refine And.intro ?_ ?_)
     | rfl
     | trivial
     | (rw[if_neg (by omega)])
     | omega
   rw[ha,hF,f_];dsimp only;rw[List.getElem?_append_right (by rw[k6];omega),k6,show n - 1+1 - n=0 by omega];dsimp only[List.getElem?_cons_zero];rw[if_pos (by rfl),f_];dsimp only;rw[List.getElem?_eq_none (by rw[List.length_append,k6];simp;omega)]
def ja (w:Nat):Nat->Nat×Nat
 | 0=>(1,1)
 | d+1=>if(ja w d).1<=4096 then((ja w d).1+(ja w d).2*w,(ja w d).2*w)else ja w d
theorem M0 {w d:Nat} (h:4096<(ja w d).1):∀e,(ja w (d+e)).1=(ja w d).1
 | 0=>rfl
 | e+1=>by
   have ih:=M0 h e;rw[<-Nat.add_assoc,ja,if_neg (by rw[ih];omega),ih]
section
variable (p:Nat->Nat->Bs) (rt:Bs) (w:Nat)
structure xJ (N:List Br) (c:Br):Prop where
 dp:0<=c.dp
 v:c.v=v1
 rd:c.rd=false
 nm:(c.dp=0/\c.k=⟨gS,rt,fM,[]⟩)\/(0<c.dp/\∃j,j<w/\c.k=⟨gS,p c.dp.toNat j,fM,[]⟩)
 up:0<=c.up->∃c',N[c.up.toNat]?=some c'/\c'.dp<c.dp
structure zQ (S:kZ):Prop where
 nd:∀(k:Nat) (c:Br),S.1[k]?=some c->xJ p rt w S.1 c
 sc:∀(k:Nat) (c:Br),S.1[k]?=some c->k≠0->c.sc=1
 x:∀y∈S.2,y=[]
end
section
variable {p:Nat->Nat->Bs} {rt:Bs} {w:Nat}
theorem xJ.app {N M:List Br} {c:Br} (h:xJ p rt w N c):xJ p rt w (N++M) c:=
 ⟨h.dp,h.v,h.rd,h.nm,fun hu=>by
  obtain⟨c',h1,h2⟩:=h.up hu;exact⟨c',by rw[List.getElem?_append_left (List.getElem?_eq_some_iff.1 h1).1];exact h1,h2⟩⟩
theorem Jk (hp:∀d i e j,p d i=p e j->d=e/\i=j) (hr:∀d i,p d i≠rt) {S:kZ} (h:zQ p rt w S) {i:Nat} {b:Br} (hb:S.1[i]?=some b) (j:Nat):np S i ⟨gS,p (b.dp.toNat+1) j⟩=false:=by
 refine qb _ _ (fun k=>∃c,S.1[k]?=some c/\c.dp<=b.dp) (fun k hk=>?_) (fun k c hk hc hu=>?_) (fun _=>⟨b,by simpa using hb,Int.le_refl _⟩)
 ·obtain⟨c,hc,hd⟩:=hk;have hn:=h.nd k c hc;rw[hc];dsimp only;rw[beq_eq_false_iff_ne];rcases hn.nm with⟨_,e⟩ | ⟨h0,j',_,e⟩<;>rw[e]<;>intro e2<;>simp only[fN,eC.mk.injEq,true_and]at e2
  ·exact hr _ _ e2.symm
  ·have:=(hp _ _ _ _ e2).1;omega
 ·obtain⟨c0,hc0,hd⟩:=hk;rw[hc]at hc0;injection hc0 with e;subst e
  obtain⟨c',h1,h2⟩:=(h.nd k c hc).up hu;exact⟨c',h1,by omega⟩
theorem zR (hp:∀d i e j,p d i=p e j->d=e/\i=j) (hr:∀d i,p d i≠rt) {i:Nat} {b:Br}:∀(l:List Nat) (od:Nat) (S:kZ),zQ p rt w S->S.1[i]?=some b->S.1.length<=4096->(∀j∈l,j<w)->
  if S.1.length+l.length<=4096 then ∃S',iq i b (l.map fun j=>bY (fq (p (b.dp.toNat+1) j) v1 0)) od S=some S'/\zQ p rt w S'/\∃C,S'.1=S.1++C/\C.length=l.length/\∀c∈C,c.dp=b.dp+1
  else iq i b (l.map fun j=>bY (fq (p (b.dp.toNat+1) j) v1 0)) od S=none
 | [],od,S,hS,_,hl,_=>by
   rw[if_pos (by simpa using hl)];exact⟨S,rfl,hS,[],by simp,rfl,by simp⟩
 | j::l,od,S,hS,hb,hl,hw=>by
   have wh:=(hS.nd i b hb).dp
   have Qw:jH i b (bY (fq (p (b.dp.toNat+1) j) v1 0))=1:=by
    unfold jH;rw[vT];by_cases h:i=0
    ·rw[if_pos h];rfl
    ·rw[if_neg h,hS.sc i b hb h];rfl
   have hx:=u_ (S:=S) (i:=i) (x:=fN (bY (fq (p (b.dp.toNat+1) j) v1 0)).k) hS.x;rw[List.map_cons,iq];by_cases h4:S.1.length<4096
   ·rw[xH (by rw[Qw];decide) hx h4];dsimp only;have hlen:(qa S i b od (bY (fq (p (b.dp.toNat+1) j) v1 0))).1.length=S.1.length+1:=by simp[qa]
    have Jl:np S i (fN (bY (fq (p (b.dp.toNat+1) j) v1 0)).k)=false:=Jk hp hr hS hb j
    have EP:(qa S i b od (bY (fq (p (b.dp.toNat+1) j) v1 0))).1=S.1++[⟨i,b.dp+1,od,⟨gS,p (b.dp.toNat+1) j,fM,[]⟩,v1,1,false⟩]:=by
     unfold qa;rw[Qw,Jl];rfl
    have oa:xJ p rt w (S.1++[⟨i,b.dp+1,od,⟨gS,p (b.dp.toNat+1) j,fM,[]⟩,v1,1,false⟩]) ⟨i,b.dp+1,od,⟨gS,p (b.dp.toNat+1) j,fM,[]⟩,v1,1,false⟩:=by
     refine⟨by dsimp only;omega,rfl,rfl,.inr ⟨by dsimp only;omega,j,hw j (List.mem_cons_self ..),?_⟩,fun _=>⟨b,?_,by dsimp only;omega⟩⟩
     ·dsimp only;rw[show(b.dp+1).toNat=b.dp.toNat+1 by omega]
     ·dsimp only;rw[Int.toNat_natCast,List.getElem?_append_left (List.getElem?_eq_some_iff.1 hb).1];exact hb
    have hinv:zQ p rt w (qa S i b od (bY (fq (p (b.dp.toNat+1) j) v1 0))):=by
     refine⟨fun k c hc=>?_,fun k c hc hk=>?_,fun y hy=>?_⟩
     ·rw[EP]at hc ⊢;rw[List.getElem?_append]at hc;split at hc
      ·exact(hS.nd k c hc).app
      ·have:=List.mem_of_getElem? hc;rw[List.mem_singleton]at this;subst this;exact oa
     ·rw[EP,List.getElem?_append]at hc;split at hc
      ·exact hS.sc k c hc hk
      ·have:=List.mem_of_getElem? hc;rw[List.mem_singleton]at this;subst this;rfl
     ·unfold qa at hy;rcases List.mem_append.1 hy with hy | hy
      ·exact hS.x y hy
      ·rw[List.mem_singleton]at hy;rw[hy];rfl
    have oG:(qa S i b od (bY (fq (p (b.dp.toNat+1) j) v1 0))).1[i]?=some b:=by
     rw[EP,List.getElem?_append_left (List.getElem?_eq_some_iff.1 hb).1];exact hb
    have ih:=zR hp hr l (od+1) _ hinv oG (by rw[hlen];omega) (fun k hk=>hw k (List.mem_cons_of_mem _ hk));rw[hlen]at ih;by_cases h5:S.1.length+(j::l).length<=4096
    ·rw[if_pos h5];rw[List.length_cons]at h5;rw[if_pos (by omega)]at ih;obtain⟨S',h1,h2,C,h3,h4,h6⟩:=ih;refine⟨S',h1,h2,⟨i,b.dp+1,od,⟨gS,p (b.dp.toNat+1) j,fM,[]⟩,v1,1,false⟩::C,?_,by simp[h4],?_⟩
     ·rw[h3,EP,List.append_assoc];rfl
     ·intro c hc;rcases List.mem_cons.1 hc with rfl | hc
      ·rfl
      ·exact h6 c hc
    ·rw[if_neg h5];rw[List.length_cons]at h5;rw[if_neg (by omega)]at ih;exact ih
   ·rw[if_neg (by rw[List.length_cons];omega),Qu (by rw[Qw];decide) hx (by omega)]
theorem zS (hp:∀d i e j,p d i=p e j->d=e/\i=j) (hr:∀d i,p d i≠rt) {ms:Gv->Option (List lx)} {l:List Nat} (hl:∀j∈l,j<w) (hlw:l.length=w) {d:Nat}
  (MZ:∀b:Br,b.dp=d->xJ p rt w [] b\/True->b.v=v1->((b.dp=0/\b.k=⟨gS,rt,fM,[]⟩)\/(0<b.dp/\∃j,j<w/\b.k=⟨gS,p b.dp.toNat j,fM,[]⟩))->ms (iS b)=some (l.map fun j=>bY (fq (p (d+1) j) v1 0))):
  ∀(m F i:Nat) (S:kZ) (A B C:List Br),zQ p rt w S->S.1=A++(B++C)->A.length=i->B.length=m->(∀c∈B,c.dp=d)->(∀c∈C,c.dp=d+1)->S.1.length<=4096->
   if S.1.length+m*w<=4096 then ∃S' C',f_ ms (F+m) i S=f_ ms F (i+m) S'/\zQ p rt w S'/\S'.1=(A++B)++C'/\C'.length=C.length+m*w/\∀c∈C',c.dp=d+1
   else f_ ms (F+m) i S=some none
 | 0,F,i,S,A,B,C,hS,Sh,hA,hB,ES,hCd,h4=>by
   obtain rfl:=List.eq_nil_of_length_eq_zero hB;rw[if_pos (by omega)];exact⟨S,C,rfl,hS,by rw[Sh,List.append_nil,List.nil_append],by omega,hCd⟩
 | m+1,F,i,S,A,B,C,hS,Sh,hA,hB,ES,hCd,h4=>by
   cases B with
   | nil=>simp at hB
   | cons b B=>
     have hg:S.1[i]?=some b:=by rw[Sh, <-hA,List.getElem?_append_right (Nat.le_refl _),Nat.sub_self];rfl
     have cw:=ES b (List.mem_cons_self ..);have hn:=hS.nd i b hg;have hm:=MZ b cw (.inr trivial) hn.v hn.nm;have BX:b.dp.toNat=d:=by omega
     have CF:=zR hp hr l 0 S hS hg h4 hl;rw[hlw,BX]at CF
     have ht:f_ ms (F+m+1) i S=match iq i b (l.map fun j=>bY (fq (p (d+1) j) v1 0)) 0 S with
      | none=>some none
      | some S'=>f_ ms (F+m) (i+1) S':=by
      rw[f_,hg];dsimp only;rw[if_neg (by rw[hn.rd];decide),hm];try rfl
     rw[<-Nat.add_assoc,ht];have hmw:(m+1)*w=m*w+w:=by rw[Nat.succ_mul]
     by_cases h5:S.1.length+w<=4096
     ·rw[if_pos h5]at CF;obtain⟨S',h1,h2,C1,h3,h6,h7⟩:=CF;rw[h1];dsimp only
      have ih:=zS hp hr hl hlw MZ m F (i+1) S' (A++[b]) B (C++C1) h2 (by rw[h3,Sh];simp) (by simp[hA]) (by simpa using hB) (fun c hc=>ES c (List.mem_cons_of_mem _ hc)) (fun c hc=>by
       rcases List.mem_append.1 hc with hc | hc
       ·exact hCd c hc
       ·rw[h7 c hc,cw]) (by rw[h3,List.length_append,h6];omega)
      have H3:S'.1.length=S.1.length+w:=by rw[h3,List.length_append,h6]
      rw[H3]at ih;by_cases h8:S.1.length+(m+1)*w<=4096
      ·rw[if_pos h8];rw[if_pos (by omega)]at ih;obtain⟨S2,C2,e1,e2,e3,e4,e5⟩:=ih;refine⟨S2,C2,by rw[e1,show i+1+m=i+(m+1) by omega],e2,by rw[e3];simp,by rw[e4,List.length_append,h6];omega,e5⟩
      ·rw[if_neg h8];rw[if_neg (by omega)]at ih;exact ih
     ·rw[if_neg h5]at CF;rw[CF,if_neg (by omega)]
theorem BM {ms:Gv->Option (List lx)} {d:Nat} (MZ:∀b:Br,b.dp=d->b.v=v1->((b.dp=0/\b.k=⟨gS,rt,fM,[]⟩)\/(0<b.dp/\∃j,j<w/\b.k=⟨gS,p b.dp.toNat j,fM,[]⟩))->ms (iS b)=some []):
  ∀(m F i:Nat) (S:kZ) (A B:List Br),zQ p rt w S->S.1=A++B->A.length=i->B.length=m->(∀c∈B,c.dp=d)->f_ ms (F+1+m) i S=some (some S.1)
 | 0,F,i,S,A,B,hS,Gc,hA,hB,ES=>by
   rw[Nat.add_zero,f_,List.getElem?_eq_none (by rw[Gc,List.length_append];omega)]
 | m+1,F,i,S,A,B,hS,Gc,hA,hB,ES=>by
   cases B with
   | nil=>simp at hB
   | cons b B=>
     have hg:S.1[i]?=some b:=by rw[Gc, <-hA,List.getElem?_append_right (Nat.le_refl _),Nat.sub_self];rfl
     have hn:=hS.nd i b hg;rw[<-Nat.add_assoc,f_,hg];dsimp only;rw[if_neg (by rw[hn.rd];decide),MZ b (ES b (List.mem_cons_self ..)) hn.v hn.nm];dsimp only;rw[iq];exact BM MZ m F (i+1) S (A++[b]) B hS (by rw[Gc];simp) (by simp[hA]) (by simpa using hB) fun c hc=>ES c (List.mem_cons_of_mem _ hc)
theorem M3 (hp:∀d i e j,p d i=p e j->d=e/\i=j) (hr:∀d i,p d i≠rt) {ms:Gv->Option (List lx)} {deep:Nat} (agt:1<=deep)
  (hm0:ms ⟨gS,rt,v1⟩=some ((List.range w).map fun j=>bY (fq (p 1 j) v1 0)))
  (hm:∀d j,1<=d->d<=deep->j<w->ms ⟨gS,p d j,v1⟩=some (if d<deep then(List.range w).map fun k=>bY (fq (p (d+1) k) v1 0)else[])):
  ∃r,qy ms ⟨gS,rt,v1⟩=some r/\match r with
   | none=>4096<(ja w deep).1
   | some N=>N.length=(ja w deep).1/\(ja w deep).1<=4096:=by
 have hmd:∀d,d<deep->∀b:Br,b.dp=d->xJ p rt w [] b\/True->b.v=v1->((b.dp=0/\b.k=⟨gS,rt,fM,[]⟩)\/(0<b.dp/\∃j,j<w/\b.k=⟨gS,p b.dp.toNat j,fM,[]⟩))->ms (iS b)=some ((List.range w).map fun j=>bY (fq (p (d+1) j) v1 0)):=by
  intro d hd b hb _ hv hn;rcases hn with⟨h0,e⟩ | ⟨h0,j,hj,e⟩
  ·have:d=0:=by omega
   subst this;rw[show iS b=⟨gS,rt,v1⟩ by unfold iS;rw[e,hv],hm0]
  ·rw[show iS b=⟨gS,p d j,v1⟩ by unfold iS;rw[e,hv];dsimp only;rw[show b.dp.toNat=d by omega],hm d j (by omega) (by omega) hj,if_pos hd]
 have agu:∀b:Br,b.dp=deep->b.v=v1->((b.dp=0/\b.k=⟨gS,rt,fM,[]⟩)\/(0<b.dp/\∃j,j<w/\b.k=⟨gS,p b.dp.toNat j,fM,[]⟩))->ms (iS b)=some []:=by
  intro b hb hv hn;rcases hn with⟨h0,e⟩ | ⟨h0,j,hj,e⟩
  ·omega
  ·rw[show iS b=⟨gS,p deep j,v1⟩ by unfold iS;rw[e,hv];dsimp only;rw[show b.dp.toNat=deep by omega],hm deep j agt (Nat.le_refl _) hj,if_neg (by omega)]
 have go:∀(e d i m:Nat) (S:kZ) (A B:List Br),d+e=deep->zQ p rt w S->S.1=A++B->A.length=i->B.length=m->(∀c∈B,c.dp=d)->ja w d=(i+m,m)->i+m<=4096->∃r,f_ ms (5000 - i) i S=some r/\match r with
   | none=>4096<(ja w deep).1
   | some N=>N.length=(ja w deep).1/\(ja w deep).1<=4096:=by
  intro e;induction e with
  | zero=>
    intro d i m S A B hd hS Gc hA hB ES hg hl;obtain rfl:d=deep:=by omega
    refine⟨some S.1,?_,?_⟩
    ·rw[show 5000 - i=(4999 - i - m)+1+m by omega];exact BM agu m _ i S A B hS Gc hA hB ES
    ·rw[hg];dsimp only;rw[Gc,List.length_append];omega
  | succ e ih=>
    intro d i m S A B hd hS Gc hA hB ES hg hl;have hlen:S.1.length=i+m:=by rw[Gc,List.length_append,hA,hB]
    have k_:=zS hp hr (ms:=ms) (l:=List.range w) (fun j hj=>List.mem_range.1 hj) List.length_range (hmd d (by omega)) m (5000 - i - m) i S A B [] hS (by rw[Gc,List.append_nil]) hA hB ES (by simp) (by omega);rw[hlen,show 5000 - i - m+m=5000 - i by omega]at k_;have aT:ja w (d+1)=(i+m+m*w,m*w):=by rw[ja,hg];dsimp only;rw[if_pos hl]
    by_cases h:i+m+m*w<=4096
    ·rw[if_pos h]at k_;obtain⟨S',C',h1,h2,h3,h4,h5⟩:=k_;rw[h1,show 5000 - i - m=5000 - (i+m) by omega];rw[List.length_nil,Nat.zero_add]at h4;exact ih (d+1) (i+m) (m*w) S' (A++B) C' (by omega) h2 h3 (by rw[List.length_append,hA,hB]) h4 h5 aT h
    ·rw[if_neg h]at k_;refine⟨none,k_,?_⟩;dsimp only;have:=M0 (w:=w) (d:=d+1) (by rw[aT];dsimp only;omega) e;rw[show d+1+e=deep by omega]at this;rw[this,aT];dsimp only;omega
 have h0:zQ p rt w ([mF ⟨gS,rt,v1⟩],[[]]):=by
  refine⟨fun k c hc=>?_,fun k c hc hk=>?_,fun y hy=>List.mem_singleton.1 hy⟩
  ·have:=List.mem_of_getElem? hc;rw[List.mem_singleton]at this;subst this;exact⟨Int.le_refl _,rfl,rfl,.inl ⟨rfl,rfl⟩,fun h=>absurd h (by simp[mF])⟩
  ·exfalso;have:=(List.getElem?_eq_some_iff.1 hc).1;simp only[List.length_singleton]at this;omega
 exact go deep 0 0 1 _ [] [mF ⟨gS,rt,v1⟩] (by omega) h0 rfl rfl rfl (by simp[mF]) rfl (by decide)
end
set_option linter.defProp false in
def aN:=And.intro ct<|And.intro ag1<|And.intro ag0<|And.intro T31<|And.intro T46<|And.intro adR<|And.intro B1<|And.intro IC<|And.intro adQ<|And.intro ag9<|And.intro T44<|And.intro uo<|And.intro YF<|And.intro T41<|And.intro Ao T36
def k7 (b:Br):List MV:=[mi b.up,mi b.dp,mi b.od]++jW b.k++[.str b.v]++tu (false,b.v,[]) .ar++[mi b.sc,mb b.rd]
theorem jm (b:Br):(k7 b).length=13:=rfl
theorem aaH (L:List Br):cz (L.flatMap k7)=L.flatMap k7:=jU (fun x=>by simp only[k7,jW,tu,List.cons_append,List.nil_append,aq,a_,wu,List.length_nil,List.flatMap_nil]) L
def xK (x:List eC):List MV:=[.sl x.length (x.flatMap bF) .ar]
theorem M4 (x:List eC):(xK x).length=1:=rfl
theorem M_ (L:List (List eC)):cz (L.flatMap xK)=L.flatMap xK:=jU (fun x=>by simp only[xK,wu,mg]) L
theorem aaI (k:Ky) (O:VH):VF Tryz.prog 66 [.agg (jW k)] O (aL fun m O'=>m= .agg (bF (fN k))/\O.Ge O'):=by
 obtain⟨k1,k2,k3,k4⟩:=k;simp only[jW,bF,fN];refine VF.bX 8 [.cell 2 75] Tryz.func66 ?_;refine VC.ag aa (ae @aN ?_);refine VC.gen ?_;intro O1 e1;obtain⟨aT,dd,di,cg⟩:=gI _ _ e1;clear e1;refine VC.ag aa (aM @aN @di @cg ?_);refine WC.sound aa (ae @aN ?_);exact aT.set (by omega) _
theorem adg (b:Br) (O:VH):VF Tryz.prog 18 [.agg (k7 b)] O (aL fun m O'=>m= .agg (bp (iS b))/\O.Ge O'):=by
 obtain⟨up,dp,od,⟨k1,k2,k3,k4⟩,v,sc,rd⟩:=b;simp only[k7,jW,tu,bp,iS,aq,a_,List.cons_append,List.nil_append,List.length_nil,List.flatMap_nil];refine VF.bX 12 [.cell 2 24] Tryz.func18 ?_;refine VC.ag aa (ae @aN ?_);refine VC.gen ?_;intro O1 e1;obtain⟨aT,dd,di,cg⟩:=gI _ _ e1;clear e1;refine VC.ag aa (aM @aN @di @cg ?_);refine WC.sound aa (ae @aN ?_);exact aT.set (by omega) _
structure rp (O:VH) (tb k bb mm:Nat) (g:Gv) (S:kZ) (t1 t2:aC) (B:Nat):Prop where
 cell:O.hp tb=some (.cells ([.ptr k 0,.ptr bb 0]++bp g++[.map mm,.sl S.1.length (S.1.flatMap k7) t1,.sl S.2.length (S.2.flatMap xK) t2]))
 map:O.hp mm=some (.map (cf []) 0)
 a1:App O B 13 t1
 a2:App O B 1 t2
 ne:∀i,aC.id t1=some i->aC.id t2≠some i
 lt:tb<O.next/\mm<O.next
 len:S.1.length=S.2.length
 up:Ups S.1
theorem rp.ge {O O':VH} {tb k bb mm:Nat} {g:Gv} {S:kZ} {t1 t2:aC} {B:Nat} (h:rp O tb k bb mm g S t1 t2 B) (u:O.Ge O'):rp O' tb k bb mm g S t1 t2 B:=
 ⟨(u.hp _ h.lt.1).trans h.cell,(u.hp _ h.lt.2).trans h.map,h.a1.ge u,h.a2.ge u,h.ne,⟨Nat.lt_of_lt_of_le h.lt.1 u.next,Nat.lt_of_lt_of_le h.lt.2 u.next⟩,h.len,h.up⟩
def ET (n:lx):Prop:=n.k.g.length<=100000/\n.k.a.length<=100000/\n.k.t.length<=100000/\n.k.c.length<=100000
theorem ET.key {n:lx} (h:ET n):∀s∈iQ n.k,s.length<=maxLen:=by
 obtain⟨h1,h2,h3,h4⟩:=h;intro s hs;simp only[iQ,List.mem_cons,List.not_mem_nil,or_false]at hs;simp only[maxLen];rcases hs with rfl | rfl | rfl | rfl<;>omega
abbrev aeE:List MV:=[.str [],.str [],.str [],.str [],.str [],.v (.int .i64 0),.v (.int .i64 0),.sl 0 [] .nil]
theorem AR (N:Nat):n_ N []:=⟨by simp,by simp⟩
theorem VY {O:VH} {tb k bb mm:Nat} {g:Gv} {S:kZ} {t1 t2:aC} {B:Nat} (h:rp O tb k bb mm g S t1 t2 B) {i:Nat} {b:Br} (hb:S.1[i]?=some b) (n:lx) (hn:ET n):
  VF Tryz.prog 67 [.ptr tb 0,mi i,.agg (dy n)] O (aL fun m O'=>m=mi (jH i b n)/\O.Ge O'):=by
 have IM:=hn.key;have bI:(S.1.flatMap k7)[i*13+11]?=some (mi b.sc):=by simpa using iZ (sp:=[]) jm hb (i:=11) rfl
 have hil:=(List.getElem?_eq_some_iff.1 hb).1;have hc:=h.cell;have dK:=h.lt;have VZ:=fun(O':VH) (u:O.Ge O')=>h.ge u
 unfold jH;obtain⟨⟨k1,k2,k3,k4⟩,v,s,o,x⟩:=n;dsimp only;simp only[dy,jW,tu,bp,aq,a_,List.cons_append,List.nil_append,List.length_nil,List.flatMap_nil]at hc bI ⊢;refine VF.bX 39 [.tmp 6] Tryz.func67 ?_;refine VC.ag aa (ae @aN ?_);refine VC.bx ?_;rintro O1 ⟨aT,fB,dd⟩;by_cases hi:i=0
 ·have wq:((i:Int)==0)=true:=by simpa using hi
  rw[if_pos hi];refine VC.ag aa (aM @aN @wq @fB ?_);exact aT
 rw[if_neg hi];have wq:((i:Int)==0)=false:=by simpa using hi
 refine VC.ag aa (ao @aN @wq ?_);cases o;rotate_left
 ·rw[if_pos rfl];refine VC.ag aa (ao @aN @fB ?_);exact aT
 rw[if_neg (by decide)];refine VC.ag aa (ao @aN @fB ?_);refine VC.ag aa (ao @aN @fB ?_);have h1:=VZ O1 aT;have gB:=h1.cell;simp only[bp,List.cons_append,List.nil_append]at gB;refine VC.bu (VC.bu ?_);refine WC.bM (.held [8]) [(0,.rd),(1,.rd),(2,.rd),(3,.rd),(4,.rd),(5,.rd),(6,.rd),(7,.one),(8,.one)] ?_;refine aM @aN @gB @fB ?_;refine VL.hold (.inr rfl) rfl rfl (fH.lh uR aa (l:=iQ ⟨k1,k2,k3,k4⟩) (te:=⟨_,8,120,aeE⟩) Tryz.underlying106 uo.1.1 rfl rfl h1.map (AR 4) rfl rfl IM) (WL.sound aa ?_);rw[show jI (iQ ⟨k1,k2,k3,k4⟩) ([]:eS)=none from rfl];refine ae @aN ?_;refine VC.al ?_;rintro O2 ⟨az,jL,iK⟩;have fW:=aT.trans az;have iJ:=(VZ O2 fW).cell;simp only[bp,List.cons_append,List.nil_append]at iJ;refine WC.sound aa (ao @aN @jL ?_);refine VC.ag aa (aM @aN @iJ @bI ?_);refine ah.rt (UK b.sc s _) ?_;rintro _ O3 ⟨rfl,e3⟩;rw[e3];refine ae @aN ?_;refine WC.sound aa (ae @aN ?_);exact fW
theorem V0 {O:VH} {tb k bb mm:Nat} {g:Gv} {S:kZ} {t1 t2:aC} {B:Nat} (h:rp O tb k bb mm g S t1 t2 B) (i:Nat) (n:lx) (hn:ET n):
  VF Tryz.prog 73 [.ptr tb 0,mi i,.agg (dy n)] O (aL fun m O'=>m= .agg (tu (false,n.v,[]) .ar)/\O.Ge O'):=by
 have IM:=hn.key;have VZ:=fun(O':VH) (u:O.Ge O')=>h.ge u
 obtain⟨⟨k1,k2,k3,k4⟩,v,s,o,x⟩:=n;dsimp only;simp only[dy,jW,tu,aq,a_,List.cons_append,List.nil_append,List.length_nil,List.flatMap_nil];refine VF.bX 33 [.cell 6 44] Tryz.func73 ?_;refine VC.ag aa (ae @aN ?_);refine VC.gen ?_;intro O1 e1;obtain⟨aT,dd,fB,nu⟩:=gI _ _ e1;clear e1;have h1:=VZ O1 aT;have gB:=h1.cell;simp only[bp,List.cons_append,List.nil_append]at gB;refine VC.bu (VC.bu ?_);refine WC.bM (.held [8]) [(0,.rd),(1,.rd),(2,.rd),(3,.rd),(4,.rd),(5,.rd),(6,.rd),(7,.one),(8,.one)] ?_;refine aM @aN @gB @fB ?_;refine VL.hold (.inr rfl) rfl rfl (fH.lh uR aa (l:=iQ ⟨k1,k2,k3,k4⟩) (te:=⟨_,8,120,aeE⟩) Tryz.underlying106 uo.1.1 rfl rfl h1.map (AR 4) rfl rfl IM) (WL.sound aa ?_);rw[show jI (iQ ⟨k1,k2,k3,k4⟩) ([]:eS)=none from rfl];refine ae @aN ?_;refine VC.al ?_;rintro O2 ⟨az,jL,iK⟩;have fW:=aT.trans az;have HL:=az.at fB;have aeF:=az.at nu;by_cases hi:(i:Int)>0
 ·have wq:decide ((i:Int)>0)=true:=decide_eq_true hi;have jd:decide (0<(i:Int))=true:=decide_eq_true hi;refine WC.sound aa (dB @aN @jL @wq @jd ?_);refine VC.ag aa (aM @aN @HL @aeF ?_);refine WC.sound aa (ae @aN ?_);exact fW.set (by omega) _
 ·have wq:decide ((i:Int)>0)=false:=decide_eq_false hi;have jd:decide (0<(i:Int))=false:=decide_eq_false hi;refine WC.sound aa (dB @aN @jL @wq @jd ?_);refine VC.ag aa (aM @aN @HL @aeF ?_);refine WC.sound aa (ae @aN ?_);exact fW.set (by omega) _
section
variable {n:Sz} {D:List Deferred} {e:Env} {P:Program} {tab:bN} {O:VH} {ops:Array Oper} {Q:VQ}
end
theorem adh (L:List eC) (tk:aC) (id:FuncId) (cs:List MV) (p:eC->Bool) (O:VH) (hid:dk Tryz.prog id=true) (hc:∀x∈L,∀O',O.Ge O'->VF Tryz.prog id ([.agg (bF x)]++cs) O' (aL fun m mj=>m=mb (p x)/\O'.Ge mj)) (hn:L.length<=1000000):
  VF Tryz.prog 110 [.sl L.length (L.flatMap bF) tk,.func (.func id) [] cs] O (aL fun m O'=>m=mi (idxFrom p 0 L)/\O.Ge O'):=by
 have dE:=aX mf L;refine VF.db 19 [.tmp 4] Tryz.func110 ?_;refine ae @aN ?_;refine WC.iw [8] [0,1,7] (fun j:Nat=>[mi j]) (fun j O'=>O.Ge O'/\j<=L.length/\idxFrom p 0 L=idxFrom p j (L.drop j)) (fun j=>L.length - j) (0) ?_ ?_
 ·exact⟨VH.Ge.refl _,Nat.zero_le _,rfl⟩
 rintro j O2 ⟨az,hj,dD⟩;by_cases h2:j<L.length
 ·have bI:=cV mf L j h2;have hcj:=hc L[j] (List.getElem_mem h2) O2 az;rw[List.drop_eq_getElem_cons h2,idxFrom]at dD;generalize L[j]=y at*;refine ao @aN @bI ?_;refine ah.rt hcj ?_ (hb:=hid);rintro _ O3 ⟨rfl,aR⟩;cases hi:p y
  ·rw[hi]at dD;refine ae @aN ?_;exact aD.next (j+1) ⟨az.trans aR,by omega,dD⟩
  ·rw[hi,if_pos rfl]at dD;rw[dD];refine ae @aN ?_;exact az.trans aR
 ·obtain rfl:j=L.length:=by omega
  rw[List.drop_of_length_le (by omega)]at dD;rw[dD];refine ae @aN ?_;exact⟨rfl,az⟩
theorem adi (L:List eC) (tk:aC) (id:FuncId) (cs:List MV) (p:eC->Bool) (O:VH) (hid:dk Tryz.prog id=true) (hc:∀x∈L,∀O',O.Ge O'->VF Tryz.prog id ([.agg (bF x)]++cs) O' (aL fun m mj=>m=mb (p x)/\O'.Ge mj)) (hn:L.length<=1000000):
  VF Tryz.prog 70 [.sl L.length (L.flatMap bF) tk,.func (.func id) [] cs] O (aL fun m O'=>m=mb (L.any p)/\O.Ge O'):=by
 rw[<-D9 p L 0];refine VF.db 9 [.tmp 4] Tryz.func70 ?_;refine ae @aN ?_;refine ah.rt (adh L tk id cs p O hid hc hn) ?_;rintro _ O2 ⟨rfl,az⟩;refine ae @aN ?_;exact az
theorem adj (q x:eC) (k:Nat) (O:VH) (hk:O.hp k=some (.cells (bF x))) (xc:k<O.next):VF Tryz.prog 71 ([.agg (bF q)]++[.ptr k 0]) O (aL fun m O'=>m=mb (Bx q x)/\O.Ge O'):=by
 have hm:=fun O'=>Pt q x O'
 obtain⟨q1,q2⟩:=q;obtain⟨x1,x2⟩:=x;simp only[bF]at hm hk ⊢;show VF _ _ [.agg [.str q1,.str q2],.ptr k 0] _ _;refine VF.bX 7 [.tmp 3] Tryz.func71 ?_;refine VC.ag aa (ae @aN ?_);refine VC.bx ?_;rintro O1 ⟨aT,fB,dd⟩;have en:=(aT.hp k xc).trans hk;refine VC.ag aa (aM @aN @fB @en ?_);refine ah.rt (hm O1) ?_;rintro _ O2 ⟨rfl,az⟩;refine ae @aN ?_;refine WC.sound aa (ae @aN ?_);exact aT.trans az
theorem agv {O:VH} {tb k bb mm:Nat} {g:Gv} {S:kZ} {t1 t2:aC} {B:Nat} (h:rp O tb k bb mm g S t1 t2 B) {ba bx:Nat} {x:eC} (ha:O.hp ba=some (.cells [.ptr tb 0])) (hx:O.hp bx=some (.cells (bF x))) (pN:ba<O.next) (B3:bx<O.next) {i:Nat} (hi:i<S.2.length) (hX:∀y∈S.2,y.length<=1000000):
  VF Tryz.prog 69 ([mi i]++[.ptr ba 0,.ptr bx 0]) O (aL fun m O'=>m=mb ((S.2.getD i []).any (Bx · x))/\O.Ge O'):=by
 have hg:S.2[i]?=some S.2[i]:=List.getElem?_eq_getElem hi;have bI:(S.2.flatMap xK)[i*1+0]?=some (.sl S.2[i].length (S.2[i].flatMap bF) .ar):=by simpa using iZ (sp:=[]) M4 hg (i:=0) rfl
 rw[List.getD_eq_getElem?_getD,hg,Option.getD_some];have hyl:=hX _ (List.getElem_mem hi);generalize S.2[i]=Y at*;have hc:=h.cell;obtain⟨g1,g2,g3⟩:=g;simp only[bp,List.cons_append,List.nil_append]at hc;show VF _ _ [mi i,.ptr ba 0,.ptr bx 0] _ _;simp only[aq];refine VF.bX 14 [.tmp 4] Tryz.func69 ?_;refine VC.ag aa (ae @aN ?_);have aiq:(S.2.flatMap xK)[i]?=some (.sl Y.length (Y.flatMap bF) .ar):=by simpa using bI
 refine VC.ag aa (dB @aN @ha @hc @aiq ?_);refine ah.rt (adi Y .ar 71 [.ptr bx 0] (Bx · x) O (by kernel_rfl) (fun q _ O' u=>adj q x bx O' ((u.hp _ B3).trans hx) (Nat.lt_of_lt_of_le B3 u.next)) hyl) ?_;rintro _ O2 ⟨rfl,az⟩;refine ae @aN ?_;refine WC.sound aa (ae @aN ?_);exact az
theorem agw {O:VH} {tb k bb mm:Nat} {g:Gv} {S:kZ} {t1 t2:aC} {B:Nat} (h:rp O tb k bb mm g S t1 t2 B) {ba bx:Nat} {x:eC} (ha:O.hp ba=some (.cells [.ptr tb 0])) (hx:O.hp bx=some (.cells (bF x))) (pN:ba<O.next) (B3:bx<O.next) {i:Nat} {b:Br} (hb:S.1[i]?=some b):
  VF Tryz.prog 77 ([mi i]++[.ptr ba 0,.ptr bx 0]) O (aL fun m O'=>m=mb (fN b.k==x)/\O.Ge O'):=by
 have bI:((S.1.flatMap k7).drop (i*13+3)).take 4=jW b.k:=by
  obtain⟨hi,e⟩:=List.getElem?_eq_some_iff.1 hb;have h1:=cV jm S.1 i hi;rw[e]at h1;have h2:=congrArg (fun l=>(l.drop 3).take 4) h1;simp only[List.drop_take,List.take_take,List.drop_drop]at h2;exact h2
 have aaJ:=(List.getElem?_eq_some_iff.1 hb).1;have Si:=aX jm S.1;have hc:=h.cell;have Ja:=fun O'=>aaI b.k O'
 generalize b.k=K at*;obtain⟨k1,k2,k3,k4⟩:=K;obtain⟨x1,x2⟩:=x;obtain⟨g1,g2,g3⟩:=g;simp only[bp,jW,bF,fN,List.cons_append,List.nil_append]at hc bI hx Ja;show VF _ _ [mi i,.ptr ba 0,.ptr bx 0] _ _;simp only[aq];refine VF.bX 16 [.tmp 4] Tryz.func77 ?_;refine VC.ag aa (ae @aN ?_);refine VC.bu ?_;refine VC.zi [10,11] (tb) (fun O'=>O'.hp ba=some (.cells [.ptr tb 0])/\O'.hp bx=some (.cells [.str x1,.str x2])) (hc) (fun X=>⟨(VH.ak _ _ (fun e=>by rw[e,hc]at ha;cases ha)).trans ha,(VH.ak _ _ (fun e=>by rw[e,hc]at hx;cases hx)).trans hx⟩) ?_;intro X;refine ab.lp (m:=.ptr tb 0) 0 ?_ ?_
 ·rintro O2 ⟨j0,j1,j2⟩;exact dz @aN @j1
 simp only[aj];refine ab.av 1 ?_;refine ae @aN ?_;refine ab.av 2 ?_;refine ae @aN ?_;refine ab.pd (m:=.sl S.1.length (S.1.flatMap k7) t1) 3 (fun _ h=>h.1) (fun _ h=>h) ?_ ?_
 ·exact eX @aN
 simp only[aj];refine ab.av 4 ?_;refine ae @aN ?_;refine ab.av 5 ?_;refine ae @aN ?_;refine ab.av 6 ?_;refine ae @aN ?_;refine ab.lp (m:=.agg [.str k1,.str k2,.str k3,.str k4]) 7 ?_ ?_
 ·rintro O2 ⟨j0,j1,j2⟩;exact dz @aN @bI
 simp only[aj];refine ab.lp (m:=.agg [.str x1,.str x2]) 9 ?_ ?_
 ·rintro O2 ⟨j0,j1,j2⟩;exact dz @aN @j2
 simp only[aj];have Sj:ba≠tb:=fun e=>by rw[e,hc]at ha;cases ha
 have Sk:bx≠tb:=fun e=>by rw[e,hc]at hx;cases hx
 have ajD:=h.lt.1;have hO1:(O.set tb (.obj X)).next=O.next:=rfl;have ew:(O.set tb (.obj X)).hp tb=some (.obj X)/\(O.set tb (.obj X)).hp ba=some (.cells [.ptr tb 0])/\(O.set tb (.obj X)).hp bx=some (.cells [.str x1,.str x2]):=⟨VH.an _ _ _,(VH.ak _ _ Sj).trans ha,(VH.ak _ _ Sk).trans hx⟩;have Qd:∀i,i≠tb->(O.set tb (.obj X)).hp i=O.hp i:=fun i hi=>VH.ak _ _ hi
 generalize O.set tb (.obj X)=O1 at*;refine ab.call (i:=8) (Ja O1) ?_;rintro _ O2 ⟨rfl,az⟩;simp only[aj];refine⟨⟨az.at ew.1,az.at ew.2.1,az.at ew.2.2⟩,?_⟩;refine ab.iX [(10,.av),(11,.av)] ?_;refine ae @aN ?_;refine VL.yI aa (bb:=(k1==x1)&&((k2==x2)&&true)) (b:=(k1==x1)&&((k2==x2)&&true)) (by simp) (by simp) (.inl ⟨rfl,rfl⟩) (by kernel_rfl) (by kernel_rfl) rfl rfl rfl rfl ?_;refine ae @aN ?_;refine WC.sound aa (ae @aN ?_);refine⟨?_,⟨by show _<=O2.next;have:=az.next;omega,fun i hi=>?_⟩⟩
 ·congr 2
  rw[Bool.eq_iff_iff];simp[fN]
 ·by_cases e:i=tb
  ·subst e;rw[VH.an];exact hc.symm
  ·rw[VH.ak _ _ e,az.hp i (by omega),Qd i e]
theorem Na {O:VH} {tb k bb mm:Nat} {g:Gv} {S:kZ} {t1 t2:aC} {B:Nat} (h:rp O tb k bb mm g S t1 t2 B) {id:FuncId} {cs:List MV} (p:Nat->Bool) (hid:dk Tryz.prog id=true) (hc:∀j,j<S.1.length->∀O',O.Ge O'->VF Tryz.prog id ([mi j]++cs) O' (aL fun m mj=>m=mb (p j)/\O'.Ge mj)) {i:Nat} (hi:i<S.1.length):
  VF Tryz.prog 68 [.ptr tb 0,mi i,.func (.func id) [] cs] O (aL fun m O'=>m=mb (oo S.1 p (i+1) i)/\O.Ge O'):=by
 have pq:=h.up;have VZ:=fun(O':VH) (u:O.Ge O')=>h.ge u
 have Si:=aX jm S.1;generalize hZ:oo S.1 p (i+1) i=Z;refine VF.db 20 [.tmp 6] Tryz.func68 ?_;refine ae @aN ?_;refine WC.iw [1] [0,2] (fun x:Int×Nat=>[mi x.1]) (fun x O'=>O.Ge O'/\ -1<=x.1/\x.1<S.1.length/\x.1<x.2/\Z=oo S.1 p x.2 x.1) (fun x=>(x.1+1).toNat) (((i:Int),i+1)) ?_ ?_
 ·exact⟨VH.Ge.refl _,by dsimp only;omega,by dsimp only;omega,by dsimp only;omega,hZ.symm⟩
 rintro⟨j,f⟩ O2 ⟨az,h1,h2,h3,dD⟩;dsimp only at h1 h2 h3 dD ⊢;by_cases hj:j>=0;rotate_left
 ·have hd:decide (j>=0)=false:=decide_eq_false hj;have ju:decide (0<=j)=false:=decide_eq_false hj
  have hf:oo S.1 p f j=false:=by
   cases f
   ·rfl
   ·unfold oo;rw[if_pos (by omega)]
  rw[dD,hf];refine aM @aN @hd @ju ?_;exact az
 have hd:decide (j>=0)=true:=decide_eq_true hj;have ju:decide (0<=j)=true:=decide_eq_true hj;obtain⟨m,rfl⟩:∃m:Nat,j=m:=⟨j.toNat,by omega⟩
 obtain⟨f,rfl⟩:∃f',f=f'+1:=⟨f - 1,by omega⟩
 have hm:m<S.1.length:=by omega
 have hb:S.1[m]?=some S.1[m]:=List.getElem?_eq_getElem hm;have hu:=pq m _ hb;have bI:(S.1.flatMap k7)[m*13]?=some (mi S.1[m].up):=by simpa using iZ (sp:=[]) jm hb (i:=0) rfl
 have hcm:=hc m hm O2 az;rw[oo,if_neg (by omega),Int.toNat_natCast,hb]at dD;dsimp only at dD;generalize S.1[m].up=u at*;simp only[aq]at bI hcm;refine aM @aN @hd @ju ?_;refine ah.rt hcm ?_ (hb:=hid);rintro _ O3 ⟨rfl,aR⟩;have fC:=(VZ O3 (az.trans aR)).cell;simp only[bp,List.cons_append,List.nil_append]at fC;cases hp:p m
 ·rw[hp,Bool.false_or]at dD;refine aM @aN @fC @bI ?_;exact aD.next (u,f) ⟨az.trans aR,hu.1,by dsimp only;omega,by dsimp only;omega,dD⟩
 ·rw[hp,Bool.true_or]at dD;rw[dD];refine ae @aN ?_;exact az.trans aR
structure Qx (O:VH) (bb md k:Nat) (MD:eS) (cm:Nat):Prop where
 cell:O.hp bb=some (.cells [.ptr k 0,.map md])
 map:O.hp md=some (.map (cf MD) cm)
 ok:n_ 3 MD
 lt:bb<O.next/\md<O.next
theorem Qx.ge {O O':VH} {bb md k:Nat} {MD:eS} {cm:Nat} (h:Qx O bb md k MD cm) (g:O.Ge O'):Qx O' bb md k MD cm:=
 ⟨(g.hp _ h.lt.1).trans h.cell,(g.hp _ h.lt.2).trans h.map,h.ok,Nat.lt_of_lt_of_le h.lt.1 g.next,Nat.lt_of_lt_of_le h.lt.2 g.next⟩
def Ck (s:Bs):Bs:=if s=[]then fM else s
def gR (g:Gv) (p:Pm):Mdl:=⟨g,Ck p.pk,gE p,p.dL.map bY⟩
structure PmQ (p:Pm) (g:Gv):Prop where
 c:PmC p
 gg:p.g=g.g
 ga:p.a=g.a
 gv:p.v=g.v
 tg:fL g.g
 ta:fL g.a
 tv:fL g.v
 tp:fL p.pk
 pi:eB (Ck p.pk)=true
 props:p.props=[]
 dT:p.dT=[]
 dL:∀d∈p.dL,Qj d
 len:p.dL.length<=900
 keys:p.dL.Pairwise fun x y=>gQ (cQ x)≠gQ (cQ y)
set_option linter.defProp false in
def aJ:=And.intro ct<|And.intro bK<|And.intro adP<|And.intro adO<|And.intro adX<|And.intro RB T25
section
variable {P:Program} {n:Sz} {D:List Deferred} {ops:Array Oper} {e:Env} {O:VH} {Q:VQ}
theorem ab.aeG {brk:List Nat} {Ψ :Gh->Prop} {J:VH->Prop} {Z:Prop} {fuel i j k:Nat} {listed:Array Bool}
  (h1:aG P n D ops i e O Q fun e' O'=>J O'/\ab P n D ops brk J Ψ Z fuel (listed.setIfInBounds i true) e' O' Q) (h2:aG P n D ops j e O Q fun e' O'=>J O'/\ab P n D ops brk J Ψ Z fuel (listed.setIfInBounds j true) e' O' Q)
  (h3:aG P n D ops k e O Q fun e' O'=>J O'/\ab P n D ops brk J Ψ Z fuel (listed.setIfInBounds k true) e' O' Q) (hr:Region.ready .any ops listed=[i,j,k]:=by kernel_rfl):ab P n D ops brk J Ψ Z (fuel+1) listed e O Q:=by
 intro hΨ hZ hJ G a w hψ hw aS
 have key:∀x,(aG P n D ops x e O Q fun e' O'=>J O'/\ab P n D ops brk J Ψ Z fuel (listed.setIfInBounds x true) e' O' Q)->wpOp P ops (cu G n D Q) x (fun a' w'=>TE brk G J x w'/\ik P .any ops (cu G n D Q) (TE brk G J) fuel (listed.setIfInBounds x true) a' w') a w:=fun x h=>
  wpOp_mono (fun a' w' ⟨e',O',H,h1,h2,h3,h4,h5⟩=>⟨TE.mk ⟨H,O',h1,h2,h4⟩,iN (fun _ _ _=>cu.le h1) _ _ _ _ (fun k _ x hT=>hT.le h1) (h5 hΨ hZ h4 H a' w' (hΨ _ _ h1 hψ) h2 h3)⟩) (h G a w hw aS)
 refine iM hr (by simp) fun x hx=>?_
 simp only[List.mem_cons,List.not_mem_nil,or_false]at hx;rcases hx with rfl | rfl | rfl
 ·exact key _ h1
 ·exact key _ h2
 ·exact key _ h3
end
theorem Cx {F O3:VH} {B sz pb og:Nat} {tk:aC} {X gc:bV} (cL:App F B sz tk) (hB:O3.next<=B) (m8:pb<O3.next) (hog:og<O3.next) (j:F.hp pb=some X/\F.hp og=some gc/\O3.next<=F.next/\∀i,i<O3.next->i≠pb->F.hp i=O3.hp i):(F.after tk).hp pb=some X/\(F.after tk).hp og=some gc/\O3.next<=(F.after tk).next/\∀i,i<O3.next->i≠pb->(F.after tk).hp i=O3.hp i:=by
 have Jb:=cj.after cL;have hs:∀i,i<O3.next->(F.after tk).hp i=F.hp i:=fun i h=>Jb.hp i (Nat.lt_of_lt_of_le h j.2.2.1) (fun e=>by have:=(App.pM cL e).1;omega)
 exact⟨(hs _ m8).trans j.1,(hs _ hog).trans j.2.1,Nat.le_trans j.2.2.1 Jb.next,fun i h1 h2=>(hs i h1).trans (j.2.2.2 i h1 h2)⟩
theorem zT {ops:Array Oper} {listed:Array Bool} {i:Nat}:∀{k m:Nat},k<=m->∀j,j∈jD ops listed i k->j∈jD ops listed i m
 | 0,_,_,j,h=>by cases h
 | k+1,0,hm,j,h=>by omega
 | k+1,m+1,hm,j,h=>by
   have ih:=zT (ops:=ops) (listed:=listed) (i:=i) (k:=k) (m:=m) (by omega);rw[jD,List.mem_filter]at h ⊢;refine⟨h.1,?_⟩;obtain⟨h1,h2⟩:=Bool.and_eq_true_iff.1 h.2;refine Bool.and_eq_true_iff.2 ⟨h1,?_⟩;cases ho:ops[j]? with
   | none=>rw[ho]at h2;cases h2
   | some o=>
     rw[ho]at h2;simp only[Option.map_some,Option.getD_some,Array.any_eq_true']at h2 ⊢;obtain⟨e,he,h3⟩:=h2;obtain⟨h4,h5⟩:=Bool.and_eq_true_iff.1 h3;refine⟨e,he,Bool.and_eq_true_iff.2 ⟨h4,?_⟩⟩;rcases Bool.or_eq_true_iff.1 h5 with h6 | h6
     ·exact Bool.or_eq_true_iff.2 (.inl h6)
     ·exact Bool.or_eq_true_iff.2 (.inr (List.contains_iff_mem.2 (ih _ (List.contains_iff_mem.1 h6))))
theorem zU {ops:Array Oper} {brk:List Nat} {listed:Array Bool} {i:Nat} (k:Nat) (hk:k<=ops.size) (h:(brk.all fun j=>listed.getD j true||j==i||(jD ops listed i k).contains j)=true):mX ops brk listed i=true:=by
 unfold mX;rw[List.all_eq_true]at h ⊢;intro j hj;have:=h j hj;rcases Bool.or_eq_true_iff.1 this with h1 | h1
 ·exact Bool.or_eq_true_iff.2 (.inl h1)
 ·exact Bool.or_eq_true_iff.2 (.inr (List.contains_iff_mem.2 (zT hk _ (List.contains_iff_mem.1 h1))))
theorem flW (t b n:Nat) (cs:List MV) (tk:aC) (x1 x2 x3 y1 y2 y3 y4 y5 y6 y7 y8 y9 y10 y11:MV):Ik (k8 [(0,1),(1,1),(2,3),(5,11),(16,1)]) [.v (.pointer none),.v (.pointer none),.str [],.str [],.str [],.v (.bool false),.str [],.str [],.str [],.str [],.str [],.str [],.str [],.sl 0 [] .nil,.sl 0 [] .nil,.sl 0 [] .nil,.sl 0 [] .nil] (.ptr t 0) [(1,.ptr b 0),(2,.agg [x1,x2,x3]),(3,.agg [y1,y2,y3,y4,y5,y6,y7,y8,y9,y10,y11]),(4,.sl n cs tk)] (some (0,1))=some [.ptr t 0,.ptr b 0,x1,x2,x3,y1,y2,y3,y4,y5,y6,y7,y8,y9,y10,y11,.sl n cs tk]:=by kernel_rfl
structure MS (O:VH) (wb mB:Nat) (W cs:List MV) (O':VH):Prop where
 ge:O.Ge O'
 w:O'.hp wb=some (.cells W)
 m:O'.hp mB=some (.cells cs)
 w0:O.next<=wb
 wl:wb<O'.next
 m0:O.next<=mB
 ml:mB<O'.next
 ne:wb≠mB
theorem MS.go {O O' O2:VH} {wb mB:Nat} {W cs:List MV} (h:MS O wb mB W cs O') (g:O'.Ge O2):MS O wb mB W cs O2:=
 ⟨h.ge.trans g,(g.hp _ h.wl).trans h.w,(g.hp _ h.ml).trans h.m,h.w0,Nat.lt_of_lt_of_le h.wl g.next,h.m0,Nat.lt_of_lt_of_le h.ml g.next,h.ne⟩
theorem MS.st {O O':VH} {wb mB:Nat} {W cs cs':List MV} (h:MS O wb mB W cs O'):MS O wb mB W cs' (O'.set mB (.cells cs')):=
 ⟨h.ge.set h.m0 _,(VH.ak _ _ h.ne).trans h.w,VH.an _ _ _,h.w0,h.wl,h.m0,h.ml,h.ne⟩
theorem VC.ms {P:Program} {n:Sz} {D:List Deferred} {c:Code} {e:Env} {Q:VQ} {O O':VH} {wb mB:Nat} {W cs cs':List MV} (h:MS O wb mB W cs O') (k:∀O2,MS O wb mB W cs' O2->(∀i,i≠mB->O2.hp i=O'.hp i)->O2.next=O'.next->VC P n D c e O2 Q):VC P n D c e (O'.set mB (.cells cs')) Q:=k _ h.st (fun i hi=>VH.ak _ _ hi) rfl
theorem MS.mv {O O' O2:VH} {wb mB tb kd:Nat} {W cs:List MV} (h:MS O wb mB W cs O') (hn:O'.next<=O2.next) (hf:∀i,i<O'.next->i≠tb->i≠kd->O2.hp i=O'.hp i) (h1:O.next<=tb) (h2:O.next<=kd) (h3:tb≠wb) (h4:kd≠wb) (h5:tb≠mB) (h6:kd≠mB):MS O wb mB W cs O2:=by
 have hl:=h.ge.next;have hw:=h.wl;have hm:=h.ml;exact⟨⟨by omega,fun i hi=>(hf i (by omega) (by omega) (by omega)).trans (h.ge.hp i hi)⟩,(hf _ hw (Ne.symm h3) (Ne.symm h4)).trans h.w,(hf _ hm (Ne.symm h5) (Ne.symm h6)).trans h.m,h.w0,by omega,h.m0,by omega,h.ne⟩
theorem Qy {O OF:VH} {k ke kv ce cv md q c:Nat} {L:List (Gv×Bs×Option Pm)} {E V:eS} {r a r' a':Int} (h:ig O k L E V ke kv ce cv r a) {i:Nat} {g:Gv} {t:Bs} {p:Pm} {es:v_} {cm:Nat} (hi:L[i]?=some (g,t,none)) (hE:E[i]?=some (dY g,.ptr q 0,c)) (hk:OF.hp k=some (.cells [.map ke,.map kv,mi r',mi a']))
  (hq:OF.hp q=some (.cells (ib t 1 0 p gn))) (hn:O.next<=OF.next) (hf:∀j,j<O.next->j≠k->j≠q->j≠md->OF.hp j=O.hp j) (hmd:O.hp md=some (.map es cm)) (Jm:md≠ke/\md≠kv):ig OF k (L.set i (g,t,some p)) E V ke kv ce cv r' a':=by
 obtain⟨q2,c2,e1,o0,MB⟩:=h.F9 i g t none hi;rw[hE]at e1;injection e1 with e1;injection e1 with _ e1;injection e1 with e1 _;injection e1 with e1 _
 subst e1;have dK:=h.st.lt;have hke:ke≠q:=fun e=>by have:=h.st.zA;rw[e,MB]at this;cases this
 have Ce:kv≠q:=fun e=>by have:=h.st.Er;rw[e,MB]at this;cases this
 have hli:=(List.getElem?_eq_some_iff.1 hi).1;refine⟨⟨hk,(hf _ dK.2.1 (Ne.symm h.st.ne.1) hke (Ne.symm Jm.1)).trans h.st.zA,(hf _ dK.2.2 (Ne.symm h.st.ne.2.1) Ce (Ne.symm Jm.2)).trans h.st.Er,h.st.L4,h.st.vok,h.st.ptr,⟨by omega,by omega,by omega⟩,h.st.ne⟩,by rw[List.length_set];exact h.len,fun j g' t' o hj=>?_,h.Z6,?_⟩
 ·by_cases e:i=j
  ·subst e;rw[List.getElem?_set_self hli]at hj;injection hj with hj;simp only[Prod.mk.injEq]at hj;obtain⟨rfl,rfl,rfl⟩:=hj;exact⟨q,c,hE,by omega,hq⟩
  ·rw[List.getElem?_set_ne e]at hj;obtain⟨q',c',k1,k2,k3⟩:=h.F9 j g' t' o hj;refine⟨q',c',k1,by omega,(hf q' k2 (fun e2=>?_) (fun e2=>?_) (fun e2=>?_)).trans k3⟩
   ·rw[e2,h.st.cell]at k3;injection k3 with k3;injection k3 with k3
    cases o<;>cases k3
   ·subst e2;exact e (h.Z6 i j _ _ q' hE k1 rfl rfl)
   ·rw[e2,hmd]at k3;cases k3
 ·rw[List.length_set];refine h.Vy.mv hn fun j hj e=>(hf j hj (fun e2=>?_) (fun e2=>?_) (fun e2=>?_)).trans e
  ·rw[e2,h.st.cell]at e;cases e
  ·rw[e2,MB]at e;cases e
  ·rw[e2,hmd]at e;cases e
theorem n0.off {O O':VH} {tb kr kd mB:Nat} {L:List (Bs×Bs)} {R D:tq} {cr cd:Nat} {tk:aC} {kn:Int} (h:n0 O tb kr kd L R D cr cd tk kn) (hi:∀i,i≠mB->O'.hp i=O.hp i) (hn:O'.next=O.next) (h1:tb<mB) (h2:kr<mB) (h3:kd<mB):n0 O' tb kr kd L R D cr cd tk kn:=
 ⟨(hi _ (by omega)).trans h.cell,(hi _ (by omega)).trans h.raw,(hi _ (by omega)).trans h.done,by rw[hn];exact h.lt,h.ne⟩
theorem Wk.mdl (a1 a2 a3 a4:MV) (n1 n2 n3:Nat) (c1 c2 c3:List MV) (t1 t2 t3:aC):dR [a1,a2,a3,a4,.sl n1 c1 t1,.sl n2 c2 t2,.sl n3 c3 t3] [a1,a2,a3,a4,.sl n1 c1 .ar,.sl n2 c2 .ar,.sl n3 c3 .ar]:=
 by repeat' first
  | exact dR.refl _
  | exact Wk.refl _
  | exact Wk.tok
  | refine dR.cons ?_ ?_
theorem zV {O:VH} {tb kr kd b:Nat} {X:bV} {L:List (Bs×Bs)} {R D:tq} {cr cd:Nat} {tk:aC} {kn:Int} (h:n0 O tb kr kd L R D cr cd tk kn) (h1:tb≠b) (h2:kr≠b) (h3:kd≠b):n0 (O.set b X) tb kr kd L R D cr cd tk kn:=
 ⟨(VH.ak _ _ h1).trans h.cell,(VH.ak _ _ h2).trans h.raw,(VH.ak _ _ h3).trans h.done,h.lt,h.ne⟩
theorem sm {F:VH} {B sz:Nat} {t7:aC} (cL:App F B sz t7) {tb kr kd:Nat} {L:List (Bs×Bs)} {R D:tq} {cr cd:Nat} {tk:aC} {kn:Int} (h:n0 F tb kr kd L R D cr cd tk kn):n0 (F.after t7) tb kr kd L R D cr cd tk kn:=by
 have hn:=(cj.after cL).next;have hl:=h.lt;exact⟨(App.off cL hl.1 (by rw[h.cell];simp)).trans h.cell,(App.off cL hl.2.1 (by rw[h.raw];simp)).trans h.raw,(App.off cL hl.2.2 (by rw[h.done];simp)).trans h.done,by omega,h.ne⟩
abbrev lO:List MV:=[.str [],.str [],.str [],.str [],.sl 0 [] .nil,.sl 0 [] .nil,.sl 0 [] .nil]
set_option maxHeartbeats 4000000 in
theorem aaK {O:VH} {bb md k ke kv ce cv:Nat} {MD:eS} {cm:Nat} {L:List (Gv×Bs×Option Pm)} {E V:eS} {r a:Int} (hB:Qx O bb md k MD cm) (h:ig O k L E V ke kv ce cv r a) {i:Nat} {g:Gv} {t:Bs} {n:Nd} {p:Pm} (hi:L[i]?=some (g,t,none)) (hg:sb g) (ht:t.length<=65536) (hb:gx t= .ok n) (hr:nV n= .ok p) (hq:PmQ p g) (fm:jI (dY g) MD=none) (Jm:md≠ke/\md≠kv):
  VF Tryz.prog 49 [.ptr bb 0,.agg (bp g),.sl 0 [] .nil] O (aL fun m O'=>m= .agg (kK (gR g p))/\∃q c,E[i]?=some (dY g,.ptr q 0,c)/\(∃r' a',ig O' k (L.set i (g,t,some p)) E V ke kv ce cv r' a')/\Qx O' bb md k (MD++[(dY g,.agg (kK (gR g p)),cm)]) (cm+1)/\O.next<=O'.next/\∀j,j<O.next->j≠k->j≠q->j≠md->O'.hp j=O.hp j):=by
 have Cg:=fun(O':VH) (g':O.Ge O')=>VB (h.ge g') hi hg ht hb hr hq.c
 have z_:=uS hg;have hBc:=fun(O':VH) (g':O.Ge O')=>(hB.ge g')
 obtain⟨g1,g2,g3⟩:=g;simp only[bp,fI,mC,gn,aq,a_]at Cg;simp only[bp];refine VF.bX 120 [.cell 6 51] Tryz.func49 ?_;refine VC.ag aa (ae @aJ ?_);refine VC.gen ?_;intro O1 e1;obtain⟨aT,dd,di,cg⟩:=gI _ _ e1;clear e1;have mQ:=hBc O1 aT;have hlB:=hB.lt;refine VC.bz [0,2,4,6,8] (fun _:Unit=>[.ptr bb 0,.sl 0 [] .nil,.ptr O.next 0,.ptr (O.next+1) 0,mb false]) (fun _ O'=>O1.Ge O') ?_ ?_
 ·refine VC.bu ?_;refine VC.r5 [11] (fun O'=>O'.hp bb=some (.cells [.ptr k 0,.map md])/\O'.hp O.next=some (.cells [.str g1,.str g2,.str g3])/\O1.Ge O') (⟨mQ.cell,di,VH.Ge.refl _⟩) ?_;refine ab.av 0 ?_;refine ae @aJ ?_;refine ab.av 1 ?_;refine ae @aJ ?_;refine ab.av 2 ?_;refine ae @aJ ?_;refine ab.lp (m:=.map md) 3 ?_ ?_
  ·rintro O2 ⟨j0,j1,j2⟩;exact dz @aJ @j0
  simp only[aj];refine ab.lp (m:=.agg [.str g1,.str g2,.str g3]) 4 ?_ ?_
  ·rintro O2 ⟨j0,j1,j2⟩;exact dz @aJ @j1
  simp only[aj];have j7:∀A B:VH,A.Ge B->(A.hp bb=some (.cells [.ptr k 0,.map md])/\A.hp O.next=some (.cells [.str g1,.str g2,.str g3])/\O1.Ge A)->(B.hp bb=some (.cells [.ptr k 0,.map md])/\B.hp O.next=some (.cells [.str g1,.str g2,.str g3])/\O1.Ge B):=fun A B g h=>⟨(g.hp _ (by have:=h.2.2.next;have:=mQ.lt;omega)).trans h.1,(g.hp _ (by have:=h.2.2.next;omega)).trans h.2.1,h.2.2.trans g⟩
  have pH:O1.hp bb=some (.cells [.ptr k 0,.map md])/\O1.hp O.next=some (.cells [.str g1,.str g2,.str g3])/\O1.Ge O1:=⟨mQ.cell,di,VH.Ge.refl _⟩;have sZ:∀A:VH,A.Ge (A.push (.cells lO)):=fun A=>(VH.Ge.refl A).push _
  have hJs:((O1.push (.cells lO)).set O1.next (.cells lO)).hp bb=some (.cells [.ptr k 0,.map md])/\((O1.push (.cells lO)).set O1.next (.cells lO)).hp O.next=some (.cells [.str g1,.str g2,.str g3])/\O1.Ge ((O1.push (.cells lO)).set O1.next (.cells lO)):=j7 O1 _ ((sZ O1).set (Nat.le_refl _) _) pH;refine ab.pair (i:=5) (j:=9) ?_ ?_
  ·refine aG.qv (fH.lh uQ aa (l:=dY ⟨g1,g2,g3⟩) (te:=⟨_,7,136,lO⟩) Tryz.underlying102 Pl.1.1 rfl rfl mQ.map mQ.ok rfl rfl z_) ?_;rw[fm];refine⟨pH,?_⟩;refine ab.av 6 ?_;refine ae @aJ ?_;refine ab.av 7 ?_;refine ae @aJ ?_;refine ab.av 8 ?_;refine ae @aJ ?_;refine ab.op (i:=9) ?_;refine ae @aJ ?_;refine⟨⟨pH.1,pH.2.1,sZ _⟩,?_⟩;refine ab.op (i:=10) ?_;refine ae @aJ ?_;refine⟨⟨pH.1,pH.2.1,hJs.2.2⟩,?_⟩;refine ab.bM [(11,.one)] ?_;refine ae @aJ ?_;refine WC.sound aa (ae @aJ ?_);exact ay.mk () ((sZ O1).set (Nat.le_refl _) _)
  ·refine aG.o1 ?_;refine ae @aJ ?_;refine⟨⟨pH.1,pH.2.1,sZ _⟩,?_⟩;refine ab.one (i:=5) (aG.qv (fH.lh uQ aa (l:=dY ⟨g1,g2,g3⟩) (te:=⟨_,7,136,lO⟩) Tryz.underlying102 Pl.1.1 rfl rfl ((sZ _).hp _ mQ.lt.2 |>.trans mQ.map) mQ.ok rfl rfl z_) ?_);rw[fm];refine⟨j7 _ _ (sZ _) pH,?_⟩;refine ab.av 6 ?_;refine ae @aJ ?_;refine ab.av 7 ?_;refine ae @aJ ?_;refine ab.av 8 ?_;refine ae @aJ ?_;refine ab.op (i:=10) ?_;refine ae @aJ ?_;refine⟨⟨pH.1,pH.2.1,hJs.2.2⟩,?_⟩;refine ab.bM [(11,.one)] ?_;refine ae @aJ ?_;refine WC.sound aa (ae @aJ ?_);exact ay.mk () ((sZ O1).set (Nat.le_refl _) _)
 rintro _ O2 az;have BN:=aT.trans az;have AI:=hBc O2 BN;have so:O2.hp bb=some (.cells [.ptr k 0,.map md])/\O2.hp O.next=some (.cells [.str g1,.str g2,.str g3]):=⟨AI.cell,az.at di⟩;have b9:=az.at cg;have gO2:=VH.Ge.refl O2;have iK:=az.next;obtain⟨q0,c,oh,aeo,MB,hE0⟩:=h.some hi;have mh:=h.st.lt.1;have we:bb≠k:=fun e=>by have:=hB.cell;rw[e,h.st.cell]at this;simp at this
 have V1:bb≠q0:=fun e=>by have:=hB.cell;rw[e,MB]at this;simp[Z4,ib]at this
 refine VC.bz [0,2,4,6,9,10] (fun x:Nat×Nat=>[.ptr bb 0,.sl 0 [] .nil,.ptr O.next 0,.ptr (O.next+1) 0,.ptr x.1 0,.ptr x.2 0]) (fun x O'=>x.1≠x.2/\O2.next<=x.1/\O2.next<=x.2/\x.1<O'.next/\x.2<O'.next/\O'.hp x.1=some (.cells (fI p))/\O'.hp x.2=some (.cells (mC gn))/\(∃r' a',O'.hp k=some (.cells [.map ke,.map kv,mi r',mi a']))/\O'.hp q0=some (.cells (ib t 1 0 p gn))/\cN O2 k q0 O') ?_ ?_
 ·have hpm:∃P0,P0=fI p:=⟨_,rfl⟩
  refine VC.r5 [12] (fun O'=>O'.hp bb=some (.cells [.ptr k 0,.map md])/\O'.hp O.next=some (.cells [.str g1,.str g2,.str g3])) (so) ?_;refine ab.av 0 ?_;refine ae @aJ ?_;refine ab.av 1 ?_;refine ae @aJ ?_;refine ab.av 2 ?_;refine ae @aJ ?_;refine ab.lp (m:=.ptr k 0) 3 ?_ ?_
  ·rintro O2 ⟨j0,j1⟩;exact dz @aJ @j0
  simp only[aj];refine ab.lp (m:=.agg [.str g1,.str g2,.str g3]) 4 ?_ ?_
  ·rintro O2 ⟨j0,j1⟩;exact dz @aJ @j1
  simp only[aj];refine ab.aeG (i:=5) (j:=9) (k:=10) ?_ ?_ ?_
  ·refine aG.gV (Cg O2 (BN.trans gO2)) ?_;rintro _ mR ⟨rfl,q,zW,Sl,⟨r',a',aaL⟩,aaM,hu⟩;obtain rfl:q=q0:=by rw[zW]at oh;injection oh with e;injection e
   have ajE:=hu.next;have Sm:=(cN.of (k:=k) (q:=q) gO2).trans hu;have aje:=hu.hp;clear hu;have EU:mR.hp bb=some (.cells [.ptr k 0,.map md])/\mR.hp O.next=some (.cells [.str g1,.str g2,.str g3]):=⟨(Sm.hp bb (by omega) we V1).trans so.1,(Sm.hp O.next (by omega) (by omega) (by omega)).trans so.2⟩;simp only[aj];refine⟨EU,?_⟩;refine ab.av 6 ?_;refine ae @aJ ?_;refine ab.av 7 ?_;refine ae @aJ ?_;refine ab.av 8 ?_;refine ae @aJ ?_;refine ab.pair (i:=9) (j:=10) ?_ ?_
   ·refine aG.o1 ?_;refine ae @aJ ?_;refine⟨EU,?_⟩;have EV:VH.Ge mR (VH.push mR (.cells eE)):=(VH.Ge.refl _).push _;have Nb:(VH.push mR (.cells eE)).hp (mR.next)=some (.cells eE):=VH.aZ _ _;have ajf:(VH.push mR (.cells eE)).next=mR.next+1:=rfl;have Qz:(VH.push mR (.cells eE)).hp bb=some (.cells [.ptr k 0,.map md])/\(VH.push mR (.cells eE)).hp O.next=some (.cells [.str g1,.str g2,.str g3]):=⟨EV.at EU.1,EV.at EU.2⟩;generalize VH.push mR (.cells eE)=rq at*;have adk:=EV.at aaL;have adl:=EV.at aaM;have agx:=Sm.ge EV;refine ab.op (i:=10) ?_;refine ae @aJ ?_;refine⟨Qz,?_⟩;have vU:VH.Ge rq (VH.push rq (.cells [.v (.int .i64 0),.str [],.str [],.str [],.v (.int .i64 0),.v (.int .i64 0),.v (.int .i64 0),.str []])):=(VH.Ge.refl _).push _;have Gd:(VH.push rq (.cells [.v (.int .i64 0),.str [],.str [],.str [],.v (.int .i64 0),.v (.int .i64 0),.v (.int .i64 0),.str []])).hp (rq.next)=some (.cells [.v (.int .i64 0),.str [],.str [],.str [],.v (.int .i64 0),.v (.int .i64 0),.v (.int .i64 0),.str []]):=VH.aZ _ _;have ai6:(VH.push rq (.cells [.v (.int .i64 0),.str [],.str [],.str [],.v (.int .i64 0),.v (.int .i64 0),.v (.int .i64 0),.str []])).next=rq.next+1:=rfl;have Jn:(VH.push rq (.cells [.v (.int .i64 0),.str [],.str [],.str [],.v (.int .i64 0),.v (.int .i64 0),.v (.int .i64 0),.str []])).hp bb=some (.cells [.ptr k 0,.map md])/\(VH.push rq (.cells [.v (.int .i64 0),.str [],.str [],.str [],.v (.int .i64 0),.v (.int .i64 0),.v (.int .i64 0),.str []])).hp O.next=some (.cells [.str g1,.str g2,.str g3]):=⟨vU.at Qz.1,vU.at Qz.2⟩;generalize VH.push rq (.cells [.v (.int .i64 0),.str [],.str [],.str [],.v (.int .i64 0),.v (.int .i64 0),.v (.int .i64 0),.str []])=QA at*;have aaN:=vU.at adk;have aaO:=vU.at adl;have Sn:=agx.ge vU;have Jo:=vU.at Nb;have va:=Jo;have j9:=Gd;have hne:mR.next≠rq.next:=by omega
    have zX:O2.next<=mR.next:=by omega
    have qi:O2.next<=rq.next:=by omega
    have qs:mR.next<VH.next QA:=by omega
    have EX:rq.next<VH.next QA:=by omega
    refine ab.op (i:=11) ?_;refine ao @aJ @va ?_;refine⟨by first | exact⟨VH.sn (And.left Jn),VH.sn (And.right Jn)⟩ | exact Jn,?_⟩;refine ab.bM [(12,.one)] ?_;refine aM @aJ @va @j9 ?_;exact ay.mk (mR.next,rq.next) ⟨hne,zX,qi,qs,EX,(VH.ak _ _ hne).trans (VH.an _ _ _),VH.an _ _ _,⟨r',a',VH.sn (VH.sn aaN)⟩,VH.sn (VH.sn aaO),⟨(by show O2.next<=VH.next QA;exact cN.next Sn),fun i h1 h2 h3=>by rw[VH.ak _ _ (by omega),VH.ak _ _ (by omega)];exact cN.hp Sn i h1 h2 h3⟩⟩
   ·refine aG.o1 ?_;refine ae @aJ ?_;refine⟨EU,?_⟩;have EY:VH.Ge mR (VH.push mR (.cells [.v (.int .i64 0),.str [],.str [],.str [],.v (.int .i64 0),.v (.int .i64 0),.v (.int .i64 0),.str []])):=(VH.Ge.refl _).push _;have Nc:(VH.push mR (.cells [.v (.int .i64 0),.str [],.str [],.str [],.v (.int .i64 0),.v (.int .i64 0),.v (.int .i64 0),.str []])).hp (mR.next)=some (.cells [.v (.int .i64 0),.str [],.str [],.str [],.v (.int .i64 0),.v (.int .i64 0),.v (.int .i64 0),.str []]):=VH.aZ _ _;have ajg:(VH.push mR (.cells [.v (.int .i64 0),.str [],.str [],.str [],.v (.int .i64 0),.v (.int .i64 0),.v (.int .i64 0),.str []])).next=mR.next+1:=rfl;have QB:(VH.push mR (.cells [.v (.int .i64 0),.str [],.str [],.str [],.v (.int .i64 0),.v (.int .i64 0),.v (.int .i64 0),.str []])).hp bb=some (.cells [.ptr k 0,.map md])/\(VH.push mR (.cells [.v (.int .i64 0),.str [],.str [],.str [],.v (.int .i64 0),.v (.int .i64 0),.v (.int .i64 0),.str []])).hp O.next=some (.cells [.str g1,.str g2,.str g3]):=⟨EY.at EU.1,EY.at EU.2⟩;generalize VH.push mR (.cells [.v (.int .i64 0),.str [],.str [],.str [],.v (.int .i64 0),.v (.int .i64 0),.v (.int .i64 0),.str []])=rr at*;have adm:=EY.at aaL;have adn:=EY.at aaM;have agy:=Sm.ge EY;refine ab.op (i:=9) ?_;refine ae @aJ ?_;refine⟨QB,?_⟩;have vV:VH.Ge rr (VH.push rr (.cells eE)):=(VH.Ge.refl _).push _;have Gf:(VH.push rr (.cells eE)).hp (rr.next)=some (.cells eE):=VH.aZ _ _;have ai7:(VH.push rr (.cells eE)).next=rr.next+1:=rfl;have Jp:(VH.push rr (.cells eE)).hp bb=some (.cells [.ptr k 0,.map md])/\(VH.push rr (.cells eE)).hp O.next=some (.cells [.str g1,.str g2,.str g3]):=⟨vV.at QB.1,vV.at QB.2⟩;generalize VH.push rr (.cells eE)=QC at*;have aaP:=vV.at adm;have aaQ:=vV.at adn;have So:=agy.ge vV;have Jq:=vV.at Nc;have va:=Gf;have j9:=Jq;have hne:rr.next≠mR.next:=by omega
    have zX:O2.next<=rr.next:=by omega
    have qi:O2.next<=mR.next:=by omega
    have qs:rr.next<VH.next QC:=by omega
    have EX:mR.next<VH.next QC:=by omega
    refine ab.op (i:=11) ?_;refine ao @aJ @va ?_;refine⟨by first | exact⟨VH.sn (And.left Jp),VH.sn (And.right Jp)⟩ | exact Jp,?_⟩;refine ab.bM [(12,.one)] ?_;refine aM @aJ @va @j9 ?_;exact ay.mk (rr.next,mR.next) ⟨hne,zX,qi,qs,EX,(VH.ak _ _ hne).trans (VH.an _ _ _),VH.an _ _ _,⟨r',a',VH.sn (VH.sn aaP)⟩,VH.sn (VH.sn aaQ),⟨(by show O2.next<=VH.next QC;exact cN.next So),fun i h1 h2 h3=>by rw[VH.ak _ _ (by omega),VH.ak _ _ (by omega)];exact cN.hp So i h1 h2 h3⟩⟩
  ·refine aG.o1 ?_;refine ae @aJ ?_;refine⟨so,?_⟩;have aaR:VH.Ge O2 (VH.push O2 (.cells eE)):=(VH.Ge.refl _).push _;have HM:(VH.push O2 (.cells eE)).hp (O2.next)=some (.cells eE):=VH.aZ _ _;have ajF:(VH.push O2 (.cells eE)).next=O2.next+1:=rfl;have aaS:(VH.push O2 (.cells eE)).hp bb=some (.cells [.ptr k 0,.map md])/\(VH.push O2 (.cells eE)).hp O.next=some (.cells [.str g1,.str g2,.str g3]):=⟨aaR.at so.1,aaR.at so.2⟩;generalize VH.push O2 (.cells eE)=xL at*;have aaT:=gO2.trans aaR;refine ab.pair (i:=5) (j:=10) ?_ ?_
   ·refine aG.gV (Cg xL (BN.trans aaT)) ?_;rintro _ pI ⟨rfl,q,zW,Sl,⟨r',a',ado⟩,adp,hu⟩;obtain rfl:q=q0:=by rw[zW]at oh;injection oh with e;injection e
    have ajh:=hu.next;have QD:=(cN.of (k:=k) (q:=q) aaT).trans hu;have adq:=hu.hp;clear hu;have Jr:pI.hp bb=some (.cells [.ptr k 0,.map md])/\pI.hp O.next=some (.cells [.str g1,.str g2,.str g3]):=⟨(QD.hp bb (by omega) we V1).trans so.1,(QD.hp O.next (by omega) (by omega) (by omega)).trans so.2⟩;have QF:=(adq O2.next (by omega) (by omega) (by omega)).trans HM;simp only[aj];refine⟨Jr,?_⟩;refine ab.av 6 ?_;refine ae @aJ ?_;refine ab.av 7 ?_;refine ae @aJ ?_;refine ab.av 8 ?_;refine ae @aJ ?_;refine ab.op (i:=10) ?_;refine ae @aJ ?_;refine⟨Jr,?_⟩;have vW:VH.Ge pI (VH.push pI (.cells [.v (.int .i64 0),.str [],.str [],.str [],.v (.int .i64 0),.v (.int .i64 0),.v (.int .i64 0),.str []])):=(VH.Ge.refl _).push _;have Gg:(VH.push pI (.cells [.v (.int .i64 0),.str [],.str [],.str [],.v (.int .i64 0),.v (.int .i64 0),.v (.int .i64 0),.str []])).hp (pI.next)=some (.cells [.v (.int .i64 0),.str [],.str [],.str [],.v (.int .i64 0),.v (.int .i64 0),.v (.int .i64 0),.str []]):=VH.aZ _ _;have ai8:(VH.push pI (.cells [.v (.int .i64 0),.str [],.str [],.str [],.v (.int .i64 0),.v (.int .i64 0),.v (.int .i64 0),.str []])).next=pI.next+1:=rfl;have Js:(VH.push pI (.cells [.v (.int .i64 0),.str [],.str [],.str [],.v (.int .i64 0),.v (.int .i64 0),.v (.int .i64 0),.str []])).hp bb=some (.cells [.ptr k 0,.map md])/\(VH.push pI (.cells [.v (.int .i64 0),.str [],.str [],.str [],.v (.int .i64 0),.v (.int .i64 0),.v (.int .i64 0),.str []])).hp O.next=some (.cells [.str g1,.str g2,.str g3]):=⟨vW.at Jr.1,vW.at Jr.2⟩;generalize VH.push pI (.cells [.v (.int .i64 0),.str [],.str [],.str [],.v (.int .i64 0),.v (.int .i64 0),.v (.int .i64 0),.str []])=QG at*;have aaU:=vW.at ado;have aaV:=vW.at adp;have Sq:=QD.ge vW;have Nf:=vW.at QF;have va:=Nf;have j9:=Gg;have hne:O2.next≠pI.next:=by omega
    have zX:O2.next<=O2.next:=by omega
    have qi:O2.next<=pI.next:=by omega
    have qs:O2.next<VH.next QG:=by omega
    have EX:pI.next<VH.next QG:=by omega
    refine ab.op (i:=11) ?_;refine ao @aJ @va ?_;refine⟨by first | exact⟨VH.sn (And.left Js),VH.sn (And.right Js)⟩ | exact Js,?_⟩;refine ab.bM [(12,.one)] ?_;refine aM @aJ @va @j9 ?_;exact ay.mk (O2.next,pI.next) ⟨hne,zX,qi,qs,EX,(VH.ak _ _ hne).trans (VH.an _ _ _),VH.an _ _ _,⟨r',a',VH.sn (VH.sn aaU)⟩,VH.sn (VH.sn aaV),⟨(by show O2.next<=VH.next QG;exact cN.next Sq),fun i h1 h2 h3=>by rw[VH.ak _ _ (by omega),VH.ak _ _ (by omega)];exact cN.hp Sq i h1 h2 h3⟩⟩
   ·refine aG.o1 ?_;refine ae @aJ ?_;refine⟨aaS,?_⟩;have Jt:VH.Ge xL (VH.push xL (.cells [.v (.int .i64 0),.str [],.str [],.str [],.v (.int .i64 0),.v (.int .i64 0),.v (.int .i64 0),.str []])):=(VH.Ge.refl _).push _;have Ng:(VH.push xL (.cells [.v (.int .i64 0),.str [],.str [],.str [],.v (.int .i64 0),.v (.int .i64 0),.v (.int .i64 0),.str []])).hp (xL.next)=some (.cells [.v (.int .i64 0),.str [],.str [],.str [],.v (.int .i64 0),.v (.int .i64 0),.v (.int .i64 0),.str []]):=VH.aZ _ _;have aji:(VH.push xL (.cells [.v (.int .i64 0),.str [],.str [],.str [],.v (.int .i64 0),.v (.int .i64 0),.v (.int .i64 0),.str []])).next=xL.next+1:=rfl;have ajj:(VH.push xL (.cells [.v (.int .i64 0),.str [],.str [],.str [],.v (.int .i64 0),.v (.int .i64 0),.v (.int .i64 0),.str []])).hp bb=some (.cells [.ptr k 0,.map md])/\(VH.push xL (.cells [.v (.int .i64 0),.str [],.str [],.str [],.v (.int .i64 0),.v (.int .i64 0),.v (.int .i64 0),.str []])).hp O.next=some (.cells [.str g1,.str g2,.str g3]):=⟨Jt.at aaS.1,Jt.at aaS.2⟩;generalize VH.push xL (.cells [.v (.int .i64 0),.str [],.str [],.str [],.v (.int .i64 0),.v (.int .i64 0),.v (.int .i64 0),.str []])=air at*;have aaW:=aaT.trans Jt;have QH:=Jt.at HM;refine ab.call (i:=5) (Cg air (BN.trans aaW)) ?_;rintro _ EZ ⟨rfl,q,zW,Sl,⟨r',a',aaX⟩,aaY,hu⟩;obtain rfl:q=q0:=by rw[zW]at oh;injection oh with e;injection e
    have ai9:=hu.next;have Cy:=(cN.of (k:=k) (q:=q) aaW).trans hu;have Nh:=hu.hp;clear hu;have Cz:EZ.hp bb=some (.cells [.ptr k 0,.map md])/\EZ.hp O.next=some (.cells [.str g1,.str g2,.str g3]):=⟨(Cy.hp bb (by omega) we V1).trans so.1,(Cy.hp O.next (by omega) (by omega) (by omega)).trans so.2⟩;have Ni:=(Nh O2.next (by omega) (by omega) (by omega)).trans QH;have Ju:=(Nh xL.next (by omega) (by omega) (by omega)).trans Ng;simp only[aj];refine⟨Cz,?_⟩;refine ab.av 6 ?_;refine ae @aJ ?_;refine ab.av 7 ?_;refine ae @aJ ?_;refine ab.av 8 ?_;refine ae @aJ ?_;have va:=Ni;have j9:=Ju;have hne:O2.next≠xL.next:=by omega
    have zX:O2.next<=O2.next:=by omega
    have qi:O2.next<=xL.next:=by omega
    have qs:O2.next<VH.next EZ:=by omega
    have EX:xL.next<VH.next EZ:=by omega
    refine ab.op (i:=11) ?_;refine ao @aJ @va ?_;refine⟨by first | exact⟨VH.sn (And.left Cz),VH.sn (And.right Cz)⟩ | exact Cz,?_⟩;refine ab.bM [(12,.one)] ?_;refine aM @aJ @va @j9 ?_;exact ay.mk (O2.next,xL.next) ⟨hne,zX,qi,qs,EX,(VH.ak _ _ hne).trans (VH.an _ _ _),VH.an _ _ _,⟨r',a',VH.sn (VH.sn aaX)⟩,VH.sn (VH.sn aaY),⟨(by show O2.next<=VH.next EZ;exact cN.next Cy),fun i h1 h2 h3=>by rw[VH.ak _ _ (by omega),VH.ak _ _ (by omega)];exact cN.hp Cy i h1 h2 h3⟩⟩
  ·refine aG.o1 ?_;refine ae @aJ ?_;refine⟨so,?_⟩;have aaZ:VH.Ge O2 (VH.push O2 (.cells [.v (.int .i64 0),.str [],.str [],.str [],.v (.int .i64 0),.v (.int .i64 0),.v (.int .i64 0),.str []])):=(VH.Ge.refl _).push _;have HN:(VH.push O2 (.cells [.v (.int .i64 0),.str [],.str [],.str [],.v (.int .i64 0),.v (.int .i64 0),.v (.int .i64 0),.str []])).hp (O2.next)=some (.cells [.v (.int .i64 0),.str [],.str [],.str [],.v (.int .i64 0),.v (.int .i64 0),.v (.int .i64 0),.str []]):=VH.aZ _ _;have ajG:(VH.push O2 (.cells [.v (.int .i64 0),.str [],.str [],.str [],.v (.int .i64 0),.v (.int .i64 0),.v (.int .i64 0),.str []])).next=O2.next+1:=rfl;have aa0:(VH.push O2 (.cells [.v (.int .i64 0),.str [],.str [],.str [],.v (.int .i64 0),.v (.int .i64 0),.v (.int .i64 0),.str []])).hp bb=some (.cells [.ptr k 0,.map md])/\(VH.push O2 (.cells [.v (.int .i64 0),.str [],.str [],.str [],.v (.int .i64 0),.v (.int .i64 0),.v (.int .i64 0),.str []])).hp O.next=some (.cells [.str g1,.str g2,.str g3]):=⟨aaZ.at so.1,aaZ.at so.2⟩;generalize VH.push O2 (.cells [.v (.int .i64 0),.str [],.str [],.str [],.v (.int .i64 0),.v (.int .i64 0),.v (.int .i64 0),.str []])=xM at*;have aa1:=gO2.trans aaZ;refine ab.pair (i:=5) (j:=9) ?_ ?_
   ·refine aG.gV (Cg xM (BN.trans aa1)) ?_;rintro _ pJ ⟨rfl,q,zW,Sl,⟨r',a',adr⟩,ads,hu⟩;obtain rfl:q=q0:=by rw[zW]at oh;injection oh with e;injection e
    have ajk:=hu.next;have QI:=(cN.of (k:=k) (q:=q) aa1).trans hu;have adt:=hu.hp;clear hu;have Jv:pJ.hp bb=some (.cells [.ptr k 0,.map md])/\pJ.hp O.next=some (.cells [.str g1,.str g2,.str g3]):=⟨(QI.hp bb (by omega) we V1).trans so.1,(QI.hp O.next (by omega) (by omega) (by omega)).trans so.2⟩;have QJ:=(adt O2.next (by omega) (by omega) (by omega)).trans HN;simp only[aj];refine⟨Jv,?_⟩;refine ab.av 6 ?_;refine ae @aJ ?_;refine ab.av 7 ?_;refine ae @aJ ?_;refine ab.av 8 ?_;refine ae @aJ ?_;refine ab.op (i:=9) ?_;refine ae @aJ ?_;refine⟨Jv,?_⟩;have vX:VH.Ge pJ (VH.push pJ (.cells eE)):=(VH.Ge.refl _).push _;have Gi:(VH.push pJ (.cells eE)).hp (pJ.next)=some (.cells eE):=VH.aZ _ _;have ai_:(VH.push pJ (.cells eE)).next=pJ.next+1:=rfl;have Jw:(VH.push pJ (.cells eE)).hp bb=some (.cells [.ptr k 0,.map md])/\(VH.push pJ (.cells eE)).hp O.next=some (.cells [.str g1,.str g2,.str g3]):=⟨vX.at Jv.1,vX.at Jv.2⟩;generalize VH.push pJ (.cells eE)=QK at*;have aa2:=vX.at adr;have aa3:=vX.at ads;have Sr:=QI.ge vX;have Nj:=vX.at QJ;have va:=Gi;have j9:=Nj;have hne:pJ.next≠O2.next:=by omega
    have zX:O2.next<=pJ.next:=by omega
    have qi:O2.next<=O2.next:=by omega
    have qs:pJ.next<VH.next QK:=by omega
    have EX:O2.next<VH.next QK:=by omega
    refine ab.op (i:=11) ?_;refine ao @aJ @va ?_;refine⟨by first | exact⟨VH.sn (And.left Jw),VH.sn (And.right Jw)⟩ | exact Jw,?_⟩;refine ab.bM [(12,.one)] ?_;refine aM @aJ @va @j9 ?_;exact ay.mk (pJ.next,O2.next) ⟨hne,zX,qi,qs,EX,(VH.ak _ _ hne).trans (VH.an _ _ _),VH.an _ _ _,⟨r',a',VH.sn (VH.sn aa2)⟩,VH.sn (VH.sn aa3),⟨(by show O2.next<=VH.next QK;exact cN.next Sr),fun i h1 h2 h3=>by rw[VH.ak _ _ (by omega),VH.ak _ _ (by omega)];exact cN.hp Sr i h1 h2 h3⟩⟩
   ·refine aG.o1 ?_;refine ae @aJ ?_;refine⟨aa0,?_⟩;have Jx:VH.Ge xM (VH.push xM (.cells eE)):=(VH.Ge.refl _).push _;have Nk:(VH.push xM (.cells eE)).hp (xM.next)=some (.cells eE):=VH.aZ _ _;have ajl:(VH.push xM (.cells eE)).next=xM.next+1:=rfl;have ajm:(VH.push xM (.cells eE)).hp bb=some (.cells [.ptr k 0,.map md])/\(VH.push xM (.cells eE)).hp O.next=some (.cells [.str g1,.str g2,.str g3]):=⟨Jx.at aa0.1,Jx.at aa0.2⟩;generalize VH.push xM (.cells eE)=ais at*;have aa4:=aa1.trans Jx;have QL:=Jx.at HN;refine ab.call (i:=5) (Cg ais (BN.trans aa4)) ?_;rintro _ E0 ⟨rfl,q,zW,Sl,⟨r',a',aa5⟩,aa6,hu⟩;obtain rfl:q=q0:=by rw[zW]at oh;injection oh with e;injection e
    have aja:=hu.next;have CA:=(cN.of (k:=k) (q:=q) aa4).trans hu;have Nl:=hu.hp;clear hu;have CC:E0.hp bb=some (.cells [.ptr k 0,.map md])/\E0.hp O.next=some (.cells [.str g1,.str g2,.str g3]):=⟨(CA.hp bb (by omega) we V1).trans so.1,(CA.hp O.next (by omega) (by omega) (by omega)).trans so.2⟩;have Nn:=(Nl O2.next (by omega) (by omega) (by omega)).trans QL;have Jy:=(Nl xM.next (by omega) (by omega) (by omega)).trans Nk;simp only[aj];refine⟨CC,?_⟩;refine ab.av 6 ?_;refine ae @aJ ?_;refine ab.av 7 ?_;refine ae @aJ ?_;refine ab.av 8 ?_;refine ae @aJ ?_;have va:=Jy;have j9:=Nn;have hne:xM.next≠O2.next:=by omega
    have zX:O2.next<=xM.next:=by omega
    have qi:O2.next<=O2.next:=by omega
    have qs:xM.next<VH.next E0:=by omega
    have EX:O2.next<VH.next E0:=by omega
    refine ab.op (i:=11) ?_;refine ao @aJ @va ?_;refine⟨by first | exact⟨VH.sn (And.left CC),VH.sn (And.right CC)⟩ | exact CC,?_⟩;refine ab.bM [(12,.one)] ?_;refine aM @aJ @va @j9 ?_;exact ay.mk (xM.next,O2.next) ⟨hne,zX,qi,qs,EX,(VH.ak _ _ hne).trans (VH.an _ _ _),VH.an _ _ _,⟨r',a',VH.sn (VH.sn aa5)⟩,VH.sn (VH.sn aa6),⟨(by show O2.next<=VH.next E0;exact cN.next CA),fun i h1 h2 h3=>by rw[VH.ak _ _ (by omega),VH.ak _ _ (by omega)];exact cN.hp CA i h1 h2 h3⟩⟩
 rintro⟨pb,xb⟩ O3 ⟨aa7,ait,aas,wU,aiu,nW,ji,⟨r',a',dA⟩,uV,cA⟩;dsimp only at aa7 ait aas wU aiu nW ji ⊢;have gW:=cA.next;have j3:O3.hp bb=some (.cells [.ptr k 0,.map md])/\O3.hp O.next=some (.cells [.str g1,.str g2,.str g3]):=⟨(cA.hp bb (by omega) we V1).trans so.1,(cA.hp O.next (by omega) (by omega) (by omega)).trans so.2⟩;have bZ:=(cA.hp (O.next+1) (by omega) (by omega) (by omega)).trans b9;have aeH:md≠k:=fun e=>by have:=hB.map;rw[e,h.st.cell]at this;cases this
 have aeI:md≠q0:=fun e=>by have:=hB.map;rw[e,MB]at this;cases this
 have hm3:=(cA.hp md (by omega) aeH aeI).trans AI.map;have Qh:=ji;simp only[mC,gn,aq]at Qh;refine VC.ag aa (ao @aJ @Qh ?_);refine VL.yI aa (bb:=false) (b:=true) (by simp) (by simp[gk]) (.inr ⟨rfl,rfl⟩) (by kernel_rfl) (by kernel_rfl) rfl rfl rfl rfl ?_;refine ae @aJ ?_;simp only[fI,a_]at nW;refine VC.bz [0,4,6,9,11] (fun x:Nat×Nat=>[.ptr bb 0,.ptr O.next 0,.ptr (O.next+1) 0,.ptr pb 0,.ptr x.1 0]) (fun x O'=>O3.Ge O'/\O3.next<=x.1/\x.1<O'.next/\(∃tw,O'.hp x.1=some (.cells (rf x.2 bb ⟨g1,g2,g3⟩ p tw)))/\∃kr kd R cr t,n0 O' x.2 kr kd (gE p) R [] cr 0 t 0/\(∀x∈gE p,wv x.1 R=some x.2)/\O3.next<=kr/\O3.next<=kd/\O3.next<=x.2/\x.2≠x.1/\kd≠x.1/\kr≠x.1) ?_ ?_
 ·refine VC.zi [13] (pb) (fun O'=>O'.hp O.next=some (.cells [.str g1,.str g2,.str g3])/\O3.next<=O'.next/\∀i,i<O3.next->i≠pb->O'.hp i=O3.hp i) (nW) (fun X=>⟨VH.sn j3.2,Nat.le_refl _,fun i _ h=>VH.ak _ _ h⟩) ?_;intro X;refine ab.pd (m:=.agg [.v (.bool p.hp),.str p.par.g,.str p.par.a,.str p.par.v,.str p.g,.str p.a,.str p.v,.str p.pk,.sl p.props.length (p.props.flatMap aW) .ar,.sl p.dT.length (p.dT.flatMap aF) .ar,.sl p.dL.length (p.dL.flatMap aF) .ar]) 0 (fun _ h=>h.1) (fun _ h=>h) ?_ ?_
  ·exact eX @aJ
  simp only[aj];refine ab.av 3 ?_;refine ae @aJ ?_;refine ab.lp (m:=.agg [.str g1,.str g2,.str g3]) 4 ?_ ?_
  ·rintro O2 ⟨j0,j1,j2⟩;exact dz @aJ @j1
  simp only[aj];refine ab.pd (m:=.agg [.v (.bool p.hp),.str p.par.g,.str p.par.a,.str p.par.v,.str p.g,.str p.a,.str p.v,.str p.pk,.sl p.props.length (p.props.flatMap aW) .ar,.sl p.dT.length (p.dT.flatMap aF) .ar,.sl p.dL.length (p.dL.flatMap aF) .ar]) 5 (fun _ h=>h.1) (fun _ h=>h) ?_ ?_
  ·exact eX @aJ
  simp only[aj];refine ab.av 6 ?_;refine ae @aJ ?_;refine ab.lp (m:=.agg [.str g1,.str g2,.str g3]) 8 ?_ ?_
  ·rintro O2 ⟨j0,j1,j2⟩;exact dz @aJ @j1
  simp only[aj];have j7:∀A B:VH,A.Ge B->(A.hp pb=some (.obj X)/\A.hp O.next=some (.cells [.str g1,.str g2,.str g3])/\O3.next<=A.next/\∀i,i<O3.next->i≠pb->A.hp i=O3.hp i)->(B.hp pb=some (.obj X)/\B.hp O.next=some (.cells [.str g1,.str g2,.str g3])/\O3.next<=B.next/\∀i,i<O3.next->i≠pb->B.hp i=O3.hp i):=fun A B g h=>⟨g.at h.1,g.at h.2.1,Nat.le_trans h.2.2.1 g.next,fun i h1 h2=>(g.hp i (by omega)).trans (h.2.2.2 i h1 h2)⟩
  have jA0:(O3.set pb (.obj X)).hp pb=some (.obj X)/\(O3.set pb (.obj X)).hp O.next=some (.cells [.str g1,.str g2,.str g3])/\O3.next<=(O3.set pb (.obj X)).next/\∀i,i<O3.next->i≠pb->(O3.set pb (.obj X)).hp i=O3.hp i:=⟨VH.an _ _ _,VH.sn j3.2,Nat.le_refl _,fun i _ h=>VH.ak _ _ h⟩
  have nA0:(O3.set pb (.obj X)).next=O3.next:=rfl;generalize O3.set pb (.obj X)=A0 at*;have Ss:O.next<O3.next:=by omega
  refine ab.pair (i:=1) (j:=9) ?_ ?_
  ·refine aG.gV (MI p A0 hq.c.hp hq.props) ?_;rintro _ ru ⟨⟨t1,rfl⟩,No⟩;simp only[aj,List.length_nil,List.flatMap_nil];have E5:=j7 _ _ No jA0;have aiv:=No.next;refine⟨E5,?_⟩;refine ab.pair (i:=2) (j:=9) ?_ ?_
   ·refine aG.gV (I8 (gE p) t1 ru (by simp[gE]) (uZ p)) ?_;rintro _ wV ⟨rfl,vc,R,cr,t2,oC,hR⟩;simp only[aj,List.length_nil,List.flatMap_nil];have mG:=j7 _ _ vc E5;have aa8:=vc.next;have St:=oC.lt;refine⟨mG,?_⟩;refine ab.pair (i:=7) (j:=9) ?_ ?_
    ·refine aG.gV (vM [] .nil wV (by decide)) ?_;rintro _ jb ⟨t7,rfl,cL,jc⟩;simp only[aj,List.length_nil,List.flatMap_nil];have k9:=j7 _ _ jc mG;have Jz:=jc.next;have QM:O3.next<=wV.next:=mG.2.2.1;have j_:=oC.ge jc;refine⟨k9,?_⟩;refine ab.op (i:=9) ?_;refine ae @aJ ?_;refine⟨k9,?_⟩;have j4:=bd (tk:=t7) (tk':=.full) (n:=0) (k:=1) (cs:=[]) (ds:=[.str g1,.str g2,.str g3]) FW Ao.1.1 cL rfl rfl rfl (by decide) (by decide) (by decide) (by decide);rw[Nat.zero_add,List.nil_append]at j4;refine ab.op (i:=10) ?_;rw[cD];refine ao @aJ @j4 ?_;have jK:=Cx cL QM wU Ss k9;refine⟨jK,?_⟩;have q_:=flW (ru.next+2) bb 1 [.str g1,.str g2,.str g3] (.own (VH.next jb) 3) (.str g1) (.str g2) (.str g3) (.v (.bool p.hp)) (.str p.par.g) (.str p.par.a) (.str p.par.v) (.str p.g) (.str p.a) (.str p.v) (.str p.pk) (.sl p.props.length (p.props.flatMap aW) .ar) (.sl p.dT.length (p.dT.flatMap aF) .ar) (.sl p.dL.length (p.dL.flatMap aF) .ar);refine ab.av 11 ?_ (hb:=(zU 1 (Nat.le_of_ble_eq_true (by kernel_rfl)) (by kernel_rfl)));refine ao @aJ @q_ ?_;have QN:=sm cL j_;have lTF:=(j_).lt;have nFA:(VH.after jb t7).next=VH.next jb+1:=VH.fw _ _;generalize VH.after jb t7=FA at*;refine ab.op (i:=12) ?_;refine ae @aJ ?_;refine⟨⟨jK.1,jK.2.1,Nat.le_succ_of_le jK.2.2.1,fun i h1 h2=>(VH.cY _ _ (by omega)).trans (jK.2.2.2 i h1 h2)⟩,?_⟩;refine ab.iX [(13,.one)] ?_;refine ae @aJ ?_;refine ay.mk (VH.next FA,ru.next+2) ⟨⟨?_,fun i h1=>?_⟩,jK.2.2.1,Nat.lt_succ_self _,⟨_,(VH.ak _ _ (by first | omega | (dsimp only;omega))).trans (VH.aZ _ _)⟩,ru.next,ru.next+1,R,cr,t2,zV (QN.ge ((VH.Ge.refl FA).push _)) (by first | omega | (dsimp only;omega)) (by first | omega | (dsimp only;omega)) (by first | omega | (dsimp only;omega)),hR,?_,?_,?_,?_,?_,?_⟩
     ·show O3.next<=FA.next+1;omega
     ·by_cases e:i=pb
      ·subst e;rw[VH.an];exact nW.symm
      ·rw[VH.ak _ _ e,VH.cY _ _ (by omega)];exact jK.2.2.2 i h1 e
     ·first | omega | (dsimp only;omega)
     ·first | omega | (dsimp only;omega)
     ·first | omega | (dsimp only;omega)
     ·first | omega | (dsimp only;omega)
     ·first | omega | (dsimp only;omega)
     ·first | omega | (dsimp only;omega)
    ·refine aG.o1 ?_;refine ae @aJ ?_;refine⟨mG,?_⟩;refine ab.call (i:=7) (vM [] .nil wV (by decide)) ?_;rintro _ jb ⟨t7,rfl,cL,jc⟩;simp only[aj,List.length_nil,List.flatMap_nil];have k9:=j7 _ _ jc mG;have Jz:=jc.next;have QM:O3.next<=wV.next:=mG.2.2.1;have j_:=oC.ge jc;refine⟨k9,?_⟩;have j4:=bd (tk:=t7) (tk':=.full) (n:=0) (k:=1) (cs:=[]) (ds:=[.str g1,.str g2,.str g3]) FW Ao.1.1 cL rfl rfl rfl (by decide) (by decide) (by decide) (by decide);rw[Nat.zero_add,List.nil_append]at j4;refine ab.op (i:=10) ?_;rw[cD];refine ao @aJ @j4 ?_;have jK:=Cx cL QM wU Ss k9;refine⟨jK,?_⟩;have q_:=flW (ru.next+2) bb 1 [.str g1,.str g2,.str g3] (.own (VH.next jb) 3) (.str g1) (.str g2) (.str g3) (.v (.bool p.hp)) (.str p.par.g) (.str p.par.a) (.str p.par.v) (.str p.g) (.str p.a) (.str p.v) (.str p.pk) (.sl p.props.length (p.props.flatMap aW) .ar) (.sl p.dT.length (p.dT.flatMap aF) .ar) (.sl p.dL.length (p.dL.flatMap aF) .ar);refine ab.av 11 ?_ (hb:=(zU 1 (Nat.le_of_ble_eq_true (by kernel_rfl)) (by kernel_rfl)));refine ao @aJ @q_ ?_;have QN:=sm cL j_;have lTF:=(j_).lt;have nFA:(VH.after jb t7).next=VH.next jb+1:=VH.fw _ _;generalize VH.after jb t7=FA at*;refine ab.op (i:=12) ?_;refine ae @aJ ?_;refine⟨⟨jK.1,jK.2.1,Nat.le_succ_of_le jK.2.2.1,fun i h1 h2=>(VH.cY _ _ (by omega)).trans (jK.2.2.2 i h1 h2)⟩,?_⟩;refine ab.iX [(13,.one)] ?_;refine ae @aJ ?_;refine ay.mk (VH.next FA,ru.next+2) ⟨⟨?_,fun i h1=>?_⟩,jK.2.2.1,Nat.lt_succ_self _,⟨_,(VH.ak _ _ (by first | omega | (dsimp only;omega))).trans (VH.aZ _ _)⟩,ru.next,ru.next+1,R,cr,t2,zV (QN.ge ((VH.Ge.refl FA).push _)) (by first | omega | (dsimp only;omega)) (by first | omega | (dsimp only;omega)) (by first | omega | (dsimp only;omega)),hR,?_,?_,?_,?_,?_,?_⟩
     ·show O3.next<=FA.next+1;omega
     ·by_cases e:i=pb
      ·subst e;rw[VH.an];exact nW.symm
      ·rw[VH.ak _ _ e,VH.cY _ _ (by omega)];exact jK.2.2.2 i h1 e
     ·first | omega | (dsimp only;omega)
     ·first | omega | (dsimp only;omega)
     ·first | omega | (dsimp only;omega)
     ·first | omega | (dsimp only;omega)
     ·first | omega | (dsimp only;omega)
     ·first | omega | (dsimp only;omega)
   ·refine aG.o1 ?_;refine ae @aJ ?_;refine⟨E5,?_⟩;refine ab.call (i:=2) (I8 (gE p) t1 ru (by simp[gE]) (uZ p)) ?_;rintro _ wV ⟨rfl,vc,R,cr,t2,oC,hR⟩;simp only[aj,List.length_nil,List.flatMap_nil];have mG:=j7 _ _ vc E5;have aa8:=vc.next;have St:=oC.lt;refine⟨mG,?_⟩;refine ab.call (i:=7) (vM [] .nil wV (by decide)) ?_;rintro _ jb ⟨t7,rfl,cL,jc⟩;simp only[aj,List.length_nil,List.flatMap_nil];have k9:=j7 _ _ jc mG;have Jz:=jc.next;have QM:O3.next<=wV.next:=mG.2.2.1;have j_:=oC.ge jc;refine⟨k9,?_⟩;have j4:=bd (tk:=t7) (tk':=.full) (n:=0) (k:=1) (cs:=[]) (ds:=[.str g1,.str g2,.str g3]) FW Ao.1.1 cL rfl rfl rfl (by decide) (by decide) (by decide) (by decide);rw[Nat.zero_add,List.nil_append]at j4;refine ab.op (i:=10) ?_;rw[cD];refine ao @aJ @j4 ?_;have jK:=Cx cL QM wU Ss k9;refine⟨jK,?_⟩;have q_:=flW (ru.next+2) bb 1 [.str g1,.str g2,.str g3] (.own (VH.next jb) 3) (.str g1) (.str g2) (.str g3) (.v (.bool p.hp)) (.str p.par.g) (.str p.par.a) (.str p.par.v) (.str p.g) (.str p.a) (.str p.v) (.str p.pk) (.sl p.props.length (p.props.flatMap aW) .ar) (.sl p.dT.length (p.dT.flatMap aF) .ar) (.sl p.dL.length (p.dL.flatMap aF) .ar);refine ab.av 11 ?_ (hb:=(zU 1 (Nat.le_of_ble_eq_true (by kernel_rfl)) (by kernel_rfl)));refine ao @aJ @q_ ?_;have QN:=sm cL j_;have lTF:=(j_).lt;have nFA:(VH.after jb t7).next=VH.next jb+1:=VH.fw _ _;generalize VH.after jb t7=FA at*;refine ab.op (i:=12) ?_;refine ae @aJ ?_;refine⟨⟨jK.1,jK.2.1,Nat.le_succ_of_le jK.2.2.1,fun i h1 h2=>(VH.cY _ _ (by omega)).trans (jK.2.2.2 i h1 h2)⟩,?_⟩;refine ab.iX [(13,.one)] ?_;refine ae @aJ ?_;refine ay.mk (VH.next FA,ru.next+2) ⟨⟨?_,fun i h1=>?_⟩,jK.2.2.1,Nat.lt_succ_self _,⟨_,(VH.ak _ _ (by first | omega | (dsimp only;omega))).trans (VH.aZ _ _)⟩,ru.next,ru.next+1,R,cr,t2,zV (QN.ge ((VH.Ge.refl FA).push _)) (by first | omega | (dsimp only;omega)) (by first | omega | (dsimp only;omega)) (by first | omega | (dsimp only;omega)),hR,?_,?_,?_,?_,?_,?_⟩
    ·show O3.next<=FA.next+1;omega
    ·by_cases e:i=pb
     ·subst e;rw[VH.an];exact nW.symm
     ·rw[VH.ak _ _ e,VH.cY _ _ (by omega)];exact jK.2.2.2 i h1 e
    ·first | omega | (dsimp only;omega)
    ·first | omega | (dsimp only;omega)
    ·first | omega | (dsimp only;omega)
    ·first | omega | (dsimp only;omega)
    ·first | omega | (dsimp only;omega)
    ·first | omega | (dsimp only;omega)
  ·refine aG.o1 ?_;refine ae @aJ ?_;refine⟨jA0,?_⟩;refine ab.call (i:=1) (MI p A0 hq.c.hp hq.props) ?_;rintro _ ru ⟨⟨t1,rfl⟩,No⟩;simp only[aj,List.length_nil,List.flatMap_nil];have E5:=j7 _ _ No jA0;have aiv:=No.next;refine⟨E5,?_⟩;refine ab.call (i:=2) (I8 (gE p) t1 ru (by simp[gE]) (uZ p)) ?_;rintro _ wV ⟨rfl,vc,R,cr,t2,oC,hR⟩;simp only[aj,List.length_nil,List.flatMap_nil];have mG:=j7 _ _ vc E5;have aa8:=vc.next;have St:=oC.lt;refine⟨mG,?_⟩;refine ab.call (i:=7) (vM [] .nil wV (by decide)) ?_;rintro _ jb ⟨t7,rfl,cL,jc⟩;simp only[aj,List.length_nil,List.flatMap_nil];have k9:=j7 _ _ jc mG;have Jz:=jc.next;have QM:O3.next<=wV.next:=mG.2.2.1;have j_:=oC.ge jc;refine⟨k9,?_⟩;have j4:=bd (tk:=t7) (tk':=.full) (n:=0) (k:=1) (cs:=[]) (ds:=[.str g1,.str g2,.str g3]) FW Ao.1.1 cL rfl rfl rfl (by decide) (by decide) (by decide) (by decide);rw[Nat.zero_add,List.nil_append]at j4;refine ab.op (i:=10) ?_;rw[cD];refine ao @aJ @j4 ?_;have jK:=Cx cL QM wU Ss k9;refine⟨jK,?_⟩;have q_:=flW (ru.next+2) bb 1 [.str g1,.str g2,.str g3] (.own (VH.next jb) 3) (.str g1) (.str g2) (.str g3) (.v (.bool p.hp)) (.str p.par.g) (.str p.par.a) (.str p.par.v) (.str p.g) (.str p.a) (.str p.v) (.str p.pk) (.sl p.props.length (p.props.flatMap aW) .ar) (.sl p.dT.length (p.dT.flatMap aF) .ar) (.sl p.dL.length (p.dL.flatMap aF) .ar);refine ab.av 11 ?_ (hb:=(zU 1 (Nat.le_of_ble_eq_true (by kernel_rfl)) (by kernel_rfl)));refine ao @aJ @q_ ?_;have QN:=sm cL j_;have lTF:=(j_).lt;have nFA:(VH.after jb t7).next=VH.next jb+1:=VH.fw _ _;generalize VH.after jb t7=FA at*;refine ab.op (i:=12) ?_;refine ae @aJ ?_;refine⟨⟨jK.1,jK.2.1,Nat.le_succ_of_le jK.2.2.1,fun i h1 h2=>(VH.cY _ _ (by omega)).trans (jK.2.2.2 i h1 h2)⟩,?_⟩;refine ab.iX [(13,.one)] ?_;refine ae @aJ ?_;refine ay.mk (VH.next FA,ru.next+2) ⟨⟨?_,fun i h1=>?_⟩,jK.2.2.1,Nat.lt_succ_self _,⟨_,(VH.ak _ _ (by first | omega | (dsimp only;omega))).trans (VH.aZ _ _)⟩,ru.next,ru.next+1,R,cr,t2,zV (QN.ge ((VH.Ge.refl FA).push _)) (by first | omega | (dsimp only;omega)) (by first | omega | (dsimp only;omega)) (by first | omega | (dsimp only;omega)),hR,?_,?_,?_,?_,?_,?_⟩
   ·show O3.next<=FA.next+1;omega
   ·by_cases e:i=pb
    ·subst e;rw[VH.an];exact nW.symm
    ·rw[VH.ak _ _ e,VH.cY _ _ (by omega)];exact jK.2.2.2 i h1 e
   ·first | omega | (dsimp only;omega)
   ·first | omega | (dsimp only;omega)
   ·first | omega | (dsimp only;omega)
   ·first | omega | (dsimp only;omega)
   ·first | omega | (dsimp only;omega)
   ·first | omega | (dsimp only;omega)
 rintro⟨wb,tb⟩ O4 ⟨bj,aeJ,aeK,⟨tw,MG⟩,kr,kd,R,cr,t7,uX,hR4,hkr,tJ,htb,Sj,Sk,aa7⟩;dsimp only at aeJ aeK MG uX htb Sj Sk aa7 ⊢;have V2:=hq.gg;have V5:=hq.ga;have V_:=hq.gv;dsimp only at V2 V5 V_;have ic:=bj.next;have m9:=bj.at j3.2;have EE:=(bj.hp _ wU).trans nW;rw[V2,V5,V_]at EE;refine VC.ag aa (ao @aJ @m9 ?_);refine VC.al ?_;rintro O5 ⟨bG,VA,gf⟩;have M5:MS O3 wb O4.next (rf tb bb ⟨g1,g2,g3⟩ p tw) [.str g1,.str g2,.str g3,.str [],.sl 0 [] .nil,.sl 0 [] .nil,.sl 0 [] .nil] O5:=⟨bj.trans bG,(bG.hp _ aeK).trans MG,VA,aeJ,by omega,ic,by omega,by omega⟩;have hT5:=uX.ge bG;have HO:=uX.lt;clear MG VA bG gf uX;have LJ:=(M5.ge.hp _ wU).trans nW;rw[V2,V5,V_]at LJ;have fp:=M5.ge.at j3.2;have hwB:wb<O5.next:=M5.wl;refine VC.ag aa (aM @aJ @LJ @fp ?_);refine ah.rt (AP M5.w g1 _ hq.tg) ?_;rintro _ O6 fO;have M6:=M5.go fO;have wA:=hT5.ge fO;clear LJ fp M5 hT5 fO hwB;have Qc:=(M6.ge.hp _ wU).trans nW;rw[V2,V5,V_]at Qc;have Ew:=M6.ge.at j3.2;refine ae @aJ ?_;refine VC.ag aa (aM @aJ @Qc @Ew ?_);refine ah.rt (AP M6.w g2 _ hq.ta) ?_;rintro _ O7 eH;have M7:=M6.go eH;have Ga:=wA.ge eH;clear Qc Ew M6 wA eH;have EF:=(M7.ge.hp _ wU).trans nW;rw[V2,V5,V_]at EF;have IX:=M7.ge.at j3.2;refine ae @aJ ?_;refine VC.ag aa (aM @aJ @EF @IX ?_);refine ah.rt (AP M7.w g3 _ hq.tv) ?_;rintro _ O8 fE;have M8:=M7.go fE;have hT8:=Ga.ge fE;clear EF IX M7 Ga fE;have zH:=(M8.ge.hp _ wU).trans nW;refine ae @aJ ?_;refine VC.ag aa (ao @aJ @zH ?_);refine ah.rt (I_ M8.w p.pk _ hq.tp) ?_;rintro _ O9 ⟨rfl,aY⟩;have M9:=M8.go aY;have hT9:=hT8.ge aY;clear zH M8 hT8 aY;have Wa:=M9.m;refine ao @aJ @Wa ?_;refine VC.ms M9 ?_;rintro eY M10 zN Hd;have wW:n0 eY tb kr kd (gE p) R [] cr 0 t7 0:=hT9.off zN Hd HO.1 HO.2.1 HO.2.2;clear Wa zN Hd hT9 M9;have aa9:=M10.m;refine VC.bz [0,4,6,9,11,12] (fun _:Unit=>[.ptr bb 0,.ptr O.next 0,.ptr (O.next+1) 0,.ptr pb 0,.ptr wb 0,.ptr O4.next 0]) (fun _ O'=>MS O3 wb O4.next (rf tb bb ⟨g1,g2,g3⟩ p tw) [.str g1,.str g2,.str g3,.str (Ck p.pk),.sl 0 [] .nil,.sl 0 [] .nil,.sl 0 [] .nil] O'/\n0 O' tb kr kd (gE p) R [] cr 0 t7 0) ?_ ?_
 ·by_cases ep:p.pk=[]
  ·have ep1:(p.pk==[])=true:=by simpa using ep
   refine VC.ag aa (aM @aJ @aa9 @ep1 ?_);refine WC.sound aa (ao @aJ @aa9 ?_);exact ay.mk () ⟨by rw[show Ck p.pk=fM from if_pos ep];exact M10.st,wW.off (fun i hi=>VH.ak _ _ hi) rfl HO.1 HO.2.1 HO.2.2⟩
  ·have ep1:(p.pk==[])=false:=by simpa using ep
   refine VC.ag aa (aM @aJ @aa9 @ep1 ?_);refine WC.sound aa (ae @aJ ?_);exact ay.mk () ⟨by rw[show Ck p.pk=p.pk from if_neg ep];exact M10,wW⟩
 rintro _ nF ⟨M11,aeL⟩;have Su:=M11.m;have Z5:=hq.pi
 have dE:(Ck p.pk).length<=maxLen:=by
  have h1:=hq.tp.2;have h2:(4096:Nat)<=maxLen:=by decide
  unfold Ck;split
  ·decide
  ·omega
 have zM:=fun O'=>rV (Ck p.pk) O' dE
 rw[Z5]at zM;refine VC.ag aa (ao @aJ @Su ?_);refine ah.rt (zM _) ?_;rintro _ Ci ⟨rfl,qd⟩;have M12:=M11.go qd;have Sv:=aeL.ge qd;clear Su M11 aeL qd zM;refine ae @aJ ?_;have aa_:=M12.w;have hW:rf tb bb ⟨g1,g2,g3⟩ p tw= .ptr tb 0:: .ptr bb 0::(bp ⟨g1,g2,g3⟩++fI p++[.sl 1 (bp ⟨g1,g2,g3⟩) tw]):=rfl;rw[hW]at aa_;refine VC.ag aa (ao @aJ @aa_ ?_);refine ah.rt (ac7 Sv (by simp[gE]) hR4 (uZ p) ?_) ?_
 ·intro x hx;simp only[gE,List.mem_cons,List.not_mem_nil,or_false]at hx;have h1:=hq.tg;have h2:=hq.ta;have h3:=hq.tv;rcases hx with rfl | rfl | rfl
  ·show fL p.g;rw[V2];exact h1
  ·show fL p.a;rw[V5];exact h2
  ·show fL p.v;rw[V_];exact h3
 rintro _ Gb ⟨⟨tP,rfl⟩,BH,Sw⟩;have M13:=M12.mv BH Sw htb tJ Sj Sk (by omega) (by omega);clear aa_ M12 Sv BH Sw;refine ae @aJ ?_;refine VC.ag aa (ae @aJ ?_);have aeM:=M13.m;refine VC.ag aa (ao @aJ @aeM ?_);refine VC.ms M13 ?_;rintro QO M14 Np aba;clear aeM Np aba M13;refine VC.ag aa (ae @aJ ?_);refine ah.rt (Ql M14.w M14.wl hq.dT) ?_;rintro _ O15 ⟨rfl,aeN⟩;have M15:=M14.go aeN;clear M14 aeN;have aeO:=M15.m;refine ao @aJ @aeO ?_;refine VC.ms M15 ?_;rintro Nq M16 aiw aix;clear aeO aiw aix M15;have aeP:=M16.m;refine VC.ag aa (ao @aJ @aeP ?_);refine ah.rt (aav M16.w M16.wl hq.dL hq.len hq.keys .nil) ?_;rintro _ O17 ⟨⟨tN,rfl⟩,aeQ⟩;have M17:=M16.go aeQ;clear M16 aeQ aeP;have aeR:=M17.m;refine ao @aJ @aeR ?_;refine VC.ms M17 ?_;rintro O18 M18 aiy aiz;clear aeR aiy aiz M17;refine VC.Ms M18.m (Wk.mdl _ _ _ _ _ _ _ _ _ _ _ _ _) ?_;refine VC.ms M18 ?_;rintro JA Wb aiA aiB;clear aiA aiB M18;have aeS:=Wb.m;have aeT:=Wb.ge.at j3.1;have aiC:=Wb.ge.at j3.2;have aiD:=Wb.ge.at bZ;have abb:=Wb.ge.at hm3
 have hmm:(.agg [.str g1,.str g2,.str g3,.str (Ck p.pk),.sl (gE p).length ((gE p).flatMap aW) .ar,.sl 0 [] .ar,.sl p.dL.length ((p.dL.map bY).flatMap dy) .ar]:MV)= .agg (kK (gR ⟨g1,g2,g3⟩ p)):=by
  simp only[kK,gR,bp,List.length_map,List.cons_append,List.nil_append]
 refine VC.bu ?_;refine WC.bM (.held [6]) [(0,.rd),(1,.rd),(2,.rd),(3,.rd),(4,.rd),(5,.rd),(6,.one)] ?_;refine dB @aJ @aeT @aiC @aeS ?_;rw[hmm];refine VL.oT rfl rfl (oS.jV uQ (l:=dY ⟨g1,g2,g3⟩) (b:=md) (ck:=cm) (M:=MD) Tryz.underlying102 rfl abb hB.ok rfl rfl z_ rfl) (fun brk hb i hi=>?_) (WL.sound aa ?_)
 ·cases hb
  rcases i with _ | _ | _ | _ | _ | _ | _ | i<;>first
   | rfl
   | (exfalso;revert hi;simp)
 have tc:MD.any (·.1==dY ⟨g1,g2,g3⟩)=false:=by
  rw[List.any_eq_false];intro x hx Yv;exact EH fm x hx (eq_of_beq Yv)
 have mP:=um (y:=.agg (kK (gR ⟨g1,g2,g3⟩ p))) (ck:=cm) hB.ok (l:=dY ⟨g1,g2,g3⟩) rfl z_;unfold jV at mP;unfold jV Pj;rw[tc]at mP ⊢;rw[if_neg (by decide)]at mP;refine ae @aJ ?_;have aiE:O4.next≠md:=by omega
 have aiF:(JA.set md (.map (cf (MD++[(dY ⟨g1,g2,g3⟩,.agg (kK (gR ⟨g1,g2,g3⟩ p)),cm)])) (cm+1))).hp O4.next=_:=(VH.ak _ _ aiE).trans aeS;have aiG:(JA.set md (.map (cf (MD++[(dY ⟨g1,g2,g3⟩,.agg (kK (gR ⟨g1,g2,g3⟩ p)),cm)])) (cm+1))).hp (O.next+1)=_:=VH.sn aiD;have aiH:(JA.set md (.map (cf (MD++[(dY ⟨g1,g2,g3⟩,.agg (kK (gR ⟨g1,g2,g3⟩ p)),cm)])) (cm+1))).hp md=_:=VH.an _ _ _;have aeU:∀i,i≠md->(JA.set md (.map (cf (MD++[(dY ⟨g1,g2,g3⟩,.agg (kK (gR ⟨g1,g2,g3⟩ p)),cm)])) (cm+1))).hp i=JA.hp i:=fun i hi=>VH.ak _ _ hi
 have aiI:(JA.set md (.map (cf (MD++[(dY ⟨g1,g2,g3⟩,.agg (kK (gR ⟨g1,g2,g3⟩ p)),cm)])) (cm+1))).next=JA.next:=rfl;generalize JA.set md (.map (cf (MD++[(dY ⟨g1,g2,g3⟩,.agg (kK (gR ⟨g1,g2,g3⟩ p)),cm)])) (cm+1))=QP at*;refine VC.ag aa (aM @aJ @aiF @aiG ?_);refine WC.sound aa (ae @aJ ?_);have QQ:=Wb.ge;have hng:=QQ.next;have ajH:=BN.next;have ajI:=cA.next;rw[hmm]
 have aS:∀j,j<O.next->j≠k->j≠q0->j≠md->(QP.set (O.next+1) (.cells [.str g1,.str g2,.str g3,.str (Ck p.pk),.sl (gE p).length ((gE p).flatMap aW) .ar,.sl 0 [] .ar,.sl p.dL.length ((p.dL.map bY).flatMap dy) .ar])).hp j=O.hp j:=fun j h1 h2 h3 h4=>by
  rw[VH.ak _ _ (by omega),aeU j h4,QQ.hp j (by omega),cA.hp j (by omega) h2 h3,BN.hp j h1]
 have hold:∀j,j<O3.next->j≠O.next+1->j≠md->(QP.set (O.next+1) (.cells [.str g1,.str g2,.str g3,.str (Ck p.pk),.sl (gE p).length ((gE p).flatMap aW) .ar,.sl 0 [] .ar,.sl p.dL.length ((p.dL.map bY).flatMap dy) .ar])).hp j=O3.hp j:=fun j h1 h2 h4=>by
  rw[VH.ak _ _ h2,aeU j h4,QQ.hp j h1]
 refine⟨rfl,q0,c,hE0,⟨r',a',Qy (md:=md) h hi hE0 ?_ ?_ ?_ aS hB.map Jm⟩,⟨?_,?_,mP,?_⟩,?_,aS⟩
 ·rw[hold k (by omega) (by omega) (Ne.symm aeH)];exact dA
 ·rw[hold q0 (by omega) (by omega) (Ne.symm aeI)];exact uV
 ·show O.next<=QP.next;omega
 ·rw[hold bb (by omega) (by omega) (fun e=>by rw[<-e,aeT]at abb;cases abb)];exact j3.1
 ·rw[VH.ak _ _ (by omega)];exact aiH
 ·show bb<QP.next/\md<QP.next;omega
 ·show O.next<=QP.next;omega
abbrev lz:List MV:=[.v (.int .i64 0),.v (.int .i64 0),.v (.int .i64 0),.str [],.str [],.str [],.str [],.str [],.v (.bool false),.str [],.sl 0 [] .nil,.v (.int .i64 0),.v (.bool false)]
def Nr (g:Gv):Prb:=⟨2,g,0,0,0,[116,114,101,101]⟩
set_option maxHeartbeats 4000000 in
theorem adu {O:VH} {tb k bb mm:Nat} {g:Gv} {S:kZ} {t1 t2:aC} {B:Nat} (h:rp O tb k bb mm g S t1 t2 B) (hB:B<=O.next) {i:Nat} {b:Br} (hb:S.1[i]?=some b) (od:Nat) (n:lx) (hn:ET n) (hX:∀y∈S.2,y.length<=1000000) (hl:S.1.length<=4096):
  VF Tryz.prog 46 [.ptr tb 0,mi i,mi od,.agg (dy n)] O (aL fun m O'=>match pF S i b od n with
   | none=>m= .agg (mC (Nr g))/\O.Ge O'
   | some S'=>m= .agg (mC gn)/\∃t1' t2',rp O' tb k bb mm g S' t1' t2' B/\O.next<=O'.next/\∀j,j<O.next->j≠tb->aC.id t1≠some j->aC.id t2≠some j->O'.hp j=O.hp j):=by
 have aaJ:=(List.getElem?_eq_some_iff.1 hb).1;have hlen:=h.len;have dK:=h.lt;have Qw:=fun(O':VH) (u:O.Ge O')=>VY (h.ge u) hb n hn
 have Av:=fun(O':VH) (u:O.Ge O')=>V0 (h.ge u) i n hn
 have Ja:=fun O'=>aaI n.k O'
 have hex:=fun(O':VH) (u:O.Ge O') (ba bx:Nat) (ha:O'.hp ba=some (.cells [.ptr tb 0])) (hx:O'.hp bx=some (.cells (bF (fN n.k)))) (pN:ba<O'.next) (B3:bx<O'.next)=>
  Na (h.ge u) (id:=69) (cs:=[.ptr ba 0,.ptr bx 0]) (fun j=>(S.2.getD j []).any (Bx · (fN n.k))) (by kernel_rfl) (fun j hj O2 u2=>agv (h.ge (u.trans u2)) ((u2.hp _ pN).trans ha) ((u2.hp _ B3).trans hx) (Nat.lt_of_lt_of_le pN u2.next) (Nat.lt_of_lt_of_le B3 u2.next) (by rw[<-hlen];exact hj) hX) aaJ
 have Jl:=fun(O':VH) (u:O.Ge O') (ba bx:Nat) (ha:O'.hp ba=some (.cells [.ptr tb 0])) (hx:O'.hp bx=some (.cells (bF (fN n.k)))) (pN:ba<O'.next) (B3:bx<O'.next)=>
  Na (h.ge u) (id:=77) (cs:=[.ptr ba 0,.ptr bx 0]) (fun j=>match S.1[j]? with
   | none=>false
   | some b=>fN b.k==fN n.k) (by kernel_rfl) (fun j hj O2 u2=>by
     have:=agw (h.ge (u.trans u2)) ((u2.hp _ pN).trans ha) ((u2.hp _ B3).trans hx) (Nat.lt_of_lt_of_le pN u2.next) (Nat.lt_of_lt_of_le B3 u2.next) (List.getElem?_eq_getElem hj);rw[List.getElem?_eq_getElem hj];exact this) aaJ
 have jP:=h.cell;have Gt:=h.map;have di:=h.a1;have iY:=h.a2;have hne:=h.ne;have pq:=h.up;have zj:(S.1.flatMap k7)[i*13+1]?=some (mi b.dp):=by simpa using iZ (sp:=[]) jm hb (i:=1) rfl
 have Si:=aX jm S.1;have zX:=aX M4 S.2;have sS:=aaH S.1;have sX:=M_ S.2;have hE:pF S i b od n=if jH i b n=0\/xG S i (fN n.k)=true then some S else if 4096<=S.1.length then none else some (S.1++[⟨i,b.dp+1,od,n.k,n.v,jH i b n,np S i (fN n.k)⟩],S.2++[n.x]):=rfl
 rw[hE];clear hE;have aeV:xG S i (fN n.k)=oo S.1 (fun j=>(S.2.getD j []).any (Bx · (fN n.k))) (i+1) i:=rfl
 have aeW:np S i (fN n.k)=oo S.1 (fun j=>match S.1[j]? with
   | none=>false
   | some b=>fN b.k==fN n.k) (i+1) i:=rfl
 rw[<-aeV]at hex;rw[<-aeW]at Jl;clear aeV aeW;have zw:=pq i b hb
 have EP:Ups (S.1++[⟨i,b.dp+1,od,n.k,n.v,jH i b n,np S i (fN n.k)⟩]):=by
  intro j c hj;rw[List.getElem?_append]at hj;split at hj
  ·exact pq j c hj
  ·rename_i ajJ;have:=List.mem_of_getElem? hj;rw[List.mem_singleton]at this;subst this;dsimp only;omega
 have hn0:=hn;generalize jH i b n=sc at*;generalize xG S i (fN n.k)=ex at*;generalize np S i (fN n.k)=rd at*;obtain⟨⟨k1,k2,k3,k4⟩,v,s,o,x⟩:=n;obtain⟨g1,g2,g3⟩:=g;dsimp only at EP ⊢;have hux:cz [MV.sl x.length (x.flatMap bF) .ar]=[MV.sl x.length (x.flatMap bF) .ar]:=by simpa[xK]using M_ [x]
 simp only[dy,jW,tu,bp,bF,fN,aq,a_,List.cons_append,List.nil_append,List.length_nil,List.flatMap_nil]at Qw Av Ja hex Jl jP zj ⊢;refine VF.bX 126 [.cell 8 36] Tryz.func46 ?_;refine VC.ag aa (ae @aN ?_);refine VC.gen ?_;intro O1 e1;obtain⟨aT,dd,hA1,mQ,hC1⟩:=uB _ _ _ e1;clear e1;refine VC.ag aa (ao @aN @mQ ?_);refine ah.rt (Ja O1) ?_;rintro _ O2 ⟨rfl,az⟩;have fW:=aT.trans az;have iK:=az.next;refine ae @aN ?_;refine VC.al ?_;rintro O3 ⟨aR,U9,gW⟩;have ec:=fW.trans aR;have hA3:=(az.trans aR).at hA1;have hB3:=(az.trans aR).at mQ;have hC3:=(az.trans aR).at hC1;refine VC.ag aa (aM @aN @hA3 @hB3 ?_);refine ah.rt (Qw O3 ec) ?_;rintro _ O4 ⟨rfl,bj⟩;have gD:=ec.trans bj;have ic:=bj.next;have hA4:=bj.at hA3;have hB4:=bj.at hB3;have Vd:=bj.at hC3;have pr:=bj.at U9;refine ae @aN ?_;refine VC.ag aa (ao @aN @hA4 ?_);refine ah.rt (hex O4 gD O.next O2.next hA4 pr (by omega) (by omega)) ?_;rintro _ O5 ⟨rfl,bG⟩;have mT:=gD.trans bG;have gf:=bG.next;have Wc:=bG.at hA4;have JB:=bG.at hB4;have Wd:=bG.at Vd;have hX5:=bG.at pr;clear aT az aR bj bG hA1 hA3 hA4 mQ hB3 hB4 hC1 hC3 Vd U9 pr fW ec gD;refine ae @aN ?_;have h5:=h.ge mT;have aiJ:=mT.next;have qe:=h5.cell;simp only[bp,List.cons_append,List.nil_append]at qe
 have abc:∀X,rp (O5.set (O.next+2) X) tb k bb mm ⟨g1,g2,g3⟩ S t1 t2 B/\O.next<=(O5.set (O.next+2) X).next/\∀j,j<O.next->j≠tb->aC.id t1≠some j->aC.id t2≠some j->(O5.set (O.next+2) X).hp j=O.hp j:=fun X=>
  ⟨h.ge (mT.set (by omega) X),aiJ,fun j h1 _ _ _=>VH.sn (mT.hp j h1)⟩
 have ajK:(.agg [.v (.int .i64 0),.str [],.str [],.str [],.v (.int .i64 0),.v (.int .i64 0),.v (.int .i64 0),.str []]:MV)= .agg (mC gn):=rfl;by_cases gB:sc=0
 ·have e1:(sc==0)=true:=by simpa using gB
  rw[if_pos (.inl gB)];refine VC.ag aa (aM @aN @e1 @Wd ?_);exact⟨rfl,t1,t2,abc _⟩
 have e1:(sc==0)=false:=by simpa using gB
 cases ex;rotate_left
 ·rw[if_pos (.inr rfl)];refine VC.ag aa (aM @aN @e1 @Wd ?_);exact⟨rfl,t1,t2,abc _⟩
 rw[if_neg (by rintro(h | h);exact gB h;cases h)];by_cases iJ:4096<=S.1.length
 ·have e2:decide (S.1.length>=(4096:Int))=true:=decide_eq_true (by omega);have e3:decide ((4096:Int)<=S.1.length)=true:=decide_eq_true (by omega);rw[if_pos iJ];refine VC.ag aa (kw7 @aN @e1 @e2 @e3 @Wc @qe @Wd ?_);exact⟨rfl,mT.set (by omega) _⟩
 rw[if_neg iJ];have e2:decide (S.1.length>=(4096:Int))=false:=decide_eq_false (by omega);have e3:decide ((4096:Int)<=S.1.length)=false:=decide_eq_false (by omega);refine VC.ag aa (kw7 @aN @e1 @e2 @e3 @Wc @qe @Wd ?_);refine VC.bz [1,4,7,8,9,12] (fun nb:Nat=>[mi i,.ptr O.next 0,.ptr (O.next+1) 0,.ptr (O.next+2) 0,.ptr O2.next 0,.ptr nb 0]) (fun nb O'=>O5.Ge O'/\O5.next<=nb/\nb<O'.next/\O'.hp nb=some (.cells [.v (.int .i64 i),.v (.int .i64 (b.dp+1)),.v (.int .i64 od),.str k1,.str k2,.str k3,.str k4,.str [],.v (.bool false),.str v,.sl 0 [] .ar,.v (.int .i64 sc),.v (.bool false)])) ?_ ?_
 ·have ajL:tb≠O.next+1:=by omega
  obtain⟨J,hJ⟩:∃J:VH->Prop,∀O',J O' ↔ (O'.hp tb=O5.hp tb/\O'.hp O.next=O5.hp O.next/\O.Ge O'/\O5.next<=O'.next/\∀j,j<O5.next->j≠O.next+1->O'.hp j=O5.hp j):=⟨_,fun _=>Iff.rfl⟩
  refine VC.zi [20] (O.next+1) (J) (JB) (fun X=>(hJ _).2 ⟨VH.ak _ _ (by omega),VH.ak _ _ (by omega),mT.set (by omega) _,Nat.le_refl _,fun j _ h=>VH.ak _ _ h⟩) ?_;intro X
  have j7:∀A B:VH,A.Ge B->(A.hp (O.next+1)=some (.obj X)/\J A)->(B.hp (O.next+1)=some (.obj X)/\J B):=fun A B g h=>by
   have h2:=(hJ _).1 h.2;exact⟨g.at h.1,(hJ _).2 ⟨g.at h2.1,g.at h2.2.1,h2.2.2.1.trans g,Nat.le_trans h2.2.2.2.1 g.next,fun j h3 h4=>g.at (h2.2.2.2.2 j h3 h4)⟩⟩
  refine ab.av 0 ?_;refine ae @aN ?_;refine ab.lp (m:=.ptr tb 0) 1 ?_ ?_
  ·rintro O2 ⟨i0,i1⟩;exact dz @aN (((hJ _).1 i1).2.1.trans Wc)
  simp only[aj];refine ab.av 2 ?_;refine ae @aN ?_;refine ab.av 3 ?_;refine ae @aN ?_;refine ab.av 5 ?_;refine ae @aN ?_;refine ab.av 10 ?_;refine ae @aN ?_;refine ab.av 11 ?_;refine ae @aN ?_;refine ab.pd (m:=.agg [.str k1,.str k2,.str k3,.str k4]) 12 (fun _ h=>h.1) (fun _ h=>h) ?_ ?_
  ·exact eX @aN
  simp only[aj];refine ab.lp (m:=.ptr tb 0) 13 ?_ ?_
  ·rintro O2 ⟨i0,i1⟩;exact dz @aN (((hJ _).1 i1).2.1.trans Wc)
  simp only[aj];refine ab.av 14 ?_;refine ae @aN ?_;refine ab.pd (m:=.agg [.str k1,.str k2,.str k3,.str k4,.v (.bool false),.str v,.sl 0 [] .ar,.v (.int .i64 s),.v (.bool o),.sl x.length (x.flatMap bF) .ar]) 15 (fun _ h=>h.1) (fun _ h=>h) ?_ ?_
  ·exact eX @aN
  simp only[aj];refine ab.av 17 ?_;refine ae @aN ?_;have Gj:(O5.set (O.next+1) (.obj X)).hp (O.next+1)=some (.obj X)/\J (O5.set (O.next+1) (.obj X)):=⟨VH.an _ _ _,(hJ _).2 ⟨VH.ak _ _ (by omega),VH.ak _ _ (by omega),mT.set (by omega) _,Nat.le_refl _,fun j _ h=>VH.ak _ _ h⟩⟩;have nO7:(O5.set (O.next+1) (.obj X)).next=O5.next:=rfl;generalize O5.set (O.next+1) (.obj X)=O7 at*;refine ab.aeG (i:=4) (j:=16) (k:=19) ?_ ?_ ?_
  ·have jt:=((hJ _).1 Gj.2).1.trans qe;refine aG.o1 ?_;refine ao @aN @jt ?_;refine⟨Gj,?_⟩;refine ab.av 6 ?_;refine ae @aN ?_;refine ab.av 7 ?_;refine ae @aN ?_;refine ab.lp (m:=.v (.int .i64 b.dp)) 8 ?_ ?_
   ·rintro O2 ⟨i0,i1⟩;exact dz @aN @zj
   simp only[aj];refine ab.av 9 ?_;refine ae @aN ?_;refine ab.pair (i:=16) (j:=19) ?_ ?_
   ·refine aG.gV (Av O7 ((hJ _).1 Gj.2).2.2.1) ?_;rintro _ lA ⟨rfl,Ns⟩;simp only[aj];have vd:=j7 _ _ Ns Gj;have aiK:=Ns.next;refine⟨vd,?_⟩;refine ab.av 18 ?_;refine ae @aN ?_;refine ab.op (i:=19) ?_;refine ae @aN ?_;have E_:VH.Ge lA (VH.push lA (.cells lz)):=(VH.Ge.refl _).push _;have ng:=j7 _ _ E_ vd;have Fa:(VH.push lA (.cells lz)).hp lA.next=some (.cells lz):=VH.aZ _ _;have abd:(VH.push lA (.cells lz)).next=lA.next+1:=rfl;refine⟨?_,?_⟩
    ·first | exact ng | exact⟨vd.1,ng.2⟩
    generalize VH.push lA (.cells lz)=ve at*;have j9:=Fa;have kN:=ng;have r8:=((hJ _).1 kN.2).2.2.2.1;have nI:=(VH.ak (k:=O.next+1) ve (.cells [.str k1,.str k2,.str k3,.str k4,.v (.bool false),.str v,.sl 0 [] .ar,.v (.int .i64 s),.v (.bool o),.sl x.length (x.flatMap bF) .ar]) (show lA.next≠O.next+1 by omega)).trans j9;refine ab.iX [(20,.one)] ?_;simp only[lz]at j9 nI;refine aM @aN @j9 @nI ?_;refine ay.mk lA.next ⟨⟨by show O5.next<=ve.next;omega,fun j h1=>?_⟩,by omega,by show lA.next<ve.next;omega,VH.an _ _ _⟩;rw[VH.ak _ _ (by omega)];by_cases e:j=O.next+1
    ·subst e;rw[VH.an];exact JB.symm
    ·rw[VH.ak _ _ e];exact((hJ _).1 kN.2).2.2.2.2 j h1 e
   ·refine aG.o1 ?_;refine ae @aN ?_;have abe:VH.Ge O7 (VH.push O7 (.cells lz)):=(VH.Ge.refl _).push _;have rv:=j7 _ _ abe Gj;have Sy:(VH.push O7 (.cells lz)).hp O7.next=some (.cells lz):=VH.aZ _ _;have aiL:(VH.push O7 (.cells lz)).next=O7.next+1:=rfl;refine⟨?_,?_⟩
    ·first | exact rv | exact⟨Gj.1,rv.2⟩
    generalize VH.push O7 (.cells lz)=O7a at*;refine ab.call (i:=16) (Av O7a ((hJ _).1 rv.2).2.2.1) ?_;rintro _ vf ⟨rfl,pK⟩;simp only[aj];have qz:=j7 _ _ pK rv;have abf:=pK.next;refine⟨qz,?_⟩;have Fb:=pK.at Sy;refine ab.av 18 ?_;refine ae @aN ?_;have j9:=Fb;have kN:=qz;have r8:=((hJ _).1 kN.2).2.2.2.1;have nI:=(VH.ak (k:=O.next+1) vf (.cells [.str k1,.str k2,.str k3,.str k4,.v (.bool false),.str v,.sl 0 [] .ar,.v (.int .i64 s),.v (.bool o),.sl x.length (x.flatMap bF) .ar]) (show O7.next≠O.next+1 by omega)).trans j9;refine ab.iX [(20,.one)] ?_;simp only[lz]at j9 nI;refine aM @aN @j9 @nI ?_;refine ay.mk O7.next ⟨⟨by show O5.next<=vf.next;omega,fun j h1=>?_⟩,by omega,by show O7.next<vf.next;omega,VH.an _ _ _⟩;rw[VH.ak _ _ (by omega)];by_cases e:j=O.next+1
    ·subst e;rw[VH.an];exact JB.symm
    ·rw[VH.ak _ _ e];exact((hJ _).1 kN.2).2.2.2.2 j h1 e
  ·refine aG.gV (Av O7 ((hJ _).1 Gj.2).2.2.1) ?_;rintro _ lA ⟨rfl,Ns⟩;simp only[aj];have vd:=j7 _ _ Ns Gj;have aiK:=Ns.next;refine⟨vd,?_⟩;refine ab.pair (i:=4) (j:=19) ?_ ?_
   ·have jt:=((hJ _).1 vd.2).1.trans qe;refine aG.o1 ?_;refine ao @aN @jt ?_;refine⟨vd,?_⟩;refine ab.av 6 ?_;refine ae @aN ?_;refine ab.av 7 ?_;refine ae @aN ?_;refine ab.lp (m:=.v (.int .i64 b.dp)) 8 ?_ ?_
    ·rintro O2 ⟨i0,i1⟩;exact dz @aN @zj
    simp only[aj];refine ab.av 9 ?_;refine ae @aN ?_;refine ab.av 18 ?_;refine ae @aN ?_;refine ab.op (i:=19) ?_;refine ae @aN ?_;have E_:VH.Ge lA (VH.push lA (.cells lz)):=(VH.Ge.refl _).push _;have ng:=j7 _ _ E_ vd;have Fa:(VH.push lA (.cells lz)).hp lA.next=some (.cells lz):=VH.aZ _ _;have abd:(VH.push lA (.cells lz)).next=lA.next+1:=rfl;refine⟨?_,?_⟩
    ·first | exact ng | exact⟨vd.1,ng.2⟩
    generalize VH.push lA (.cells lz)=ve at*;have j9:=Fa;have kN:=ng;have r8:=((hJ _).1 kN.2).2.2.2.1;have nI:=(VH.ak (k:=O.next+1) ve (.cells [.str k1,.str k2,.str k3,.str k4,.v (.bool false),.str v,.sl 0 [] .ar,.v (.int .i64 s),.v (.bool o),.sl x.length (x.flatMap bF) .ar]) (show lA.next≠O.next+1 by omega)).trans j9;refine ab.iX [(20,.one)] ?_;simp only[lz]at j9 nI;refine aM @aN @j9 @nI ?_;refine ay.mk lA.next ⟨⟨by show O5.next<=ve.next;omega,fun j h1=>?_⟩,by omega,by show lA.next<ve.next;omega,VH.an _ _ _⟩;rw[VH.ak _ _ (by omega)];by_cases e:j=O.next+1
    ·subst e;rw[VH.an];exact JB.symm
    ·rw[VH.ak _ _ e];exact((hJ _).1 kN.2).2.2.2.2 j h1 e
   ·refine aG.o1 ?_;refine ae @aN ?_;have E_:VH.Ge lA (VH.push lA (.cells lz)):=(VH.Ge.refl _).push _;have ng:=j7 _ _ E_ vd;have Fa:(VH.push lA (.cells lz)).hp lA.next=some (.cells lz):=VH.aZ _ _;have abd:(VH.push lA (.cells lz)).next=lA.next+1:=rfl;refine⟨?_,?_⟩
    ·first | exact ng | exact⟨vd.1,ng.2⟩
    generalize VH.push lA (.cells lz)=ve at*;have jt:=((hJ _).1 ng.2).1.trans qe;refine ab.op (i:=4) ?_;refine ao @aN @jt ?_;refine⟨ng,?_⟩;refine ab.av 6 ?_;refine ae @aN ?_;refine ab.av 7 ?_;refine ae @aN ?_;refine ab.lp (m:=.v (.int .i64 b.dp)) 8 ?_ ?_
    ·rintro O2 ⟨i0,i1⟩;exact dz @aN @zj
    simp only[aj];refine ab.av 9 ?_;refine ae @aN ?_;refine ab.av 18 ?_;refine ae @aN ?_;have j9:=Fa;have kN:=ng;have r8:=((hJ _).1 kN.2).2.2.2.1;have nI:=(VH.ak (k:=O.next+1) ve (.cells [.str k1,.str k2,.str k3,.str k4,.v (.bool false),.str v,.sl 0 [] .ar,.v (.int .i64 s),.v (.bool o),.sl x.length (x.flatMap bF) .ar]) (show lA.next≠O.next+1 by omega)).trans j9;refine ab.iX [(20,.one)] ?_;simp only[lz]at j9 nI;refine aM @aN @j9 @nI ?_;refine ay.mk lA.next ⟨⟨by show O5.next<=ve.next;omega,fun j h1=>?_⟩,by omega,by show lA.next<ve.next;omega,VH.an _ _ _⟩;rw[VH.ak _ _ (by omega)];by_cases e:j=O.next+1
    ·subst e;rw[VH.an];exact JB.symm
    ·rw[VH.ak _ _ e];exact((hJ _).1 kN.2).2.2.2.2 j h1 e
  ·refine aG.o1 ?_;refine ae @aN ?_;have abe:VH.Ge O7 (VH.push O7 (.cells lz)):=(VH.Ge.refl _).push _;have rv:=j7 _ _ abe Gj;have Sy:(VH.push O7 (.cells lz)).hp O7.next=some (.cells lz):=VH.aZ _ _;have aiL:(VH.push O7 (.cells lz)).next=O7.next+1:=rfl;refine⟨?_,?_⟩
   ·first | exact rv | exact⟨Gj.1,rv.2⟩
   generalize VH.push O7 (.cells lz)=O7a at*;refine ab.pair (i:=4) (j:=16) ?_ ?_
   ·have jt:=((hJ _).1 rv.2).1.trans qe;refine aG.o1 ?_;refine ao @aN @jt ?_;refine⟨rv,?_⟩;refine ab.av 6 ?_;refine ae @aN ?_;refine ab.av 7 ?_;refine ae @aN ?_;refine ab.lp (m:=.v (.int .i64 b.dp)) 8 ?_ ?_
    ·rintro O2 ⟨i0,i1⟩;exact dz @aN @zj
    simp only[aj];refine ab.av 9 ?_;refine ae @aN ?_;refine ab.call (i:=16) (Av O7a ((hJ _).1 rv.2).2.2.1) ?_;rintro _ vf ⟨rfl,pK⟩;simp only[aj];have qz:=j7 _ _ pK rv;have abf:=pK.next;refine⟨qz,?_⟩;have Fb:=pK.at Sy;refine ab.av 18 ?_;refine ae @aN ?_;have j9:=Fb;have kN:=qz;have r8:=((hJ _).1 kN.2).2.2.2.1;have nI:=(VH.ak (k:=O.next+1) vf (.cells [.str k1,.str k2,.str k3,.str k4,.v (.bool false),.str v,.sl 0 [] .ar,.v (.int .i64 s),.v (.bool o),.sl x.length (x.flatMap bF) .ar]) (show O7.next≠O.next+1 by omega)).trans j9;refine ab.iX [(20,.one)] ?_;simp only[lz]at j9 nI;refine aM @aN @j9 @nI ?_;refine ay.mk O7.next ⟨⟨by show O5.next<=vf.next;omega,fun j h1=>?_⟩,by omega,by show O7.next<vf.next;omega,VH.an _ _ _⟩;rw[VH.ak _ _ (by omega)];by_cases e:j=O.next+1
    ·subst e;rw[VH.an];exact JB.symm
    ·rw[VH.ak _ _ e];exact((hJ _).1 kN.2).2.2.2.2 j h1 e
   ·refine aG.gV (Av O7a ((hJ _).1 rv.2).2.2.1) ?_;rintro _ vf ⟨rfl,pK⟩;simp only[aj];have qz:=j7 _ _ pK rv;have abf:=pK.next;refine⟨qz,?_⟩;have Fb:=pK.at Sy;have jt:=((hJ _).1 qz.2).1.trans qe;refine ab.op (i:=4) ?_;refine ao @aN @jt ?_;refine⟨qz,?_⟩;refine ab.av 6 ?_;refine ae @aN ?_;refine ab.av 7 ?_;refine ae @aN ?_;refine ab.lp (m:=.v (.int .i64 b.dp)) 8 ?_ ?_
    ·rintro O2 ⟨i0,i1⟩;exact dz @aN @zj
    simp only[aj];refine ab.av 9 ?_;refine ae @aN ?_;refine ab.av 18 ?_;refine ae @aN ?_;have j9:=Fb;have kN:=qz;have r8:=((hJ _).1 kN.2).2.2.2.1;have nI:=(VH.ak (k:=O.next+1) vf (.cells [.str k1,.str k2,.str k3,.str k4,.v (.bool false),.str v,.sl 0 [] .ar,.v (.int .i64 s),.v (.bool o),.sl x.length (x.flatMap bF) .ar]) (show O7.next≠O.next+1 by omega)).trans j9;refine ab.iX [(20,.one)] ?_;simp only[lz]at j9 nI;refine aM @aN @j9 @nI ?_;refine ay.mk O7.next ⟨⟨by show O5.next<=vf.next;omega,fun j h1=>?_⟩,by omega,by show O7.next<vf.next;omega,VH.an _ _ _⟩;rw[VH.ak _ _ (by omega)];by_cases e:j=O.next+1
    ·subst e;rw[VH.an];exact JB.symm
    ·rw[VH.ak _ _ e];exact((hJ _).1 kN.2).2.2.2.2 j h1 e
 rintro nb O6 ⟨fO,ajM,ajN,gH⟩;have R4:=mT.trans fO;have m5:=fO.next;refine VC.ag aa (ao @aN @gH ?_);refine VC.gen ?_;intro O7 e7;have s8:O7.hp nb=some (.cells [.v (.int .i64 i),.v (.int .i64 (b.dp+1)),.v (.int .i64 od),.str k1,.str k2,.str k3,.str k4,.str v,.v (.bool false),.str v,.sl 0 [] .ar,.v (.int .i64 sc),.v (.bool false)]):=by rw[e7];exact VH.an _ _ _
 have AM:∀j,j≠nb->O7.hp j=O6.hp j:=fun j hj=>by rw[e7];exact VH.ak _ _ hj
 have rX:O7.next=O6.next:=by rw[e7];rfl
 have Bz:O.Ge O7:=by rw[e7];exact R4.set (by omega) _
 clear e7;have hA7:=(AM _ (by omega)).trans (fO.at Wc);have hB7:=(AM _ (by omega)).trans (fO.at JB);have hC7:=(AM _ (by omega)).trans (fO.at Wd);have hX7:=(AM _ (by omega)).trans (fO.at hX5);refine VC.ag aa (ao @aN @s8 ?_);refine VC.ag aa (ao @aN @hA7 ?_);refine ah.rt (Jl O7 Bz O.next O2.next hA7 hX7 (by omega) (by omega)) ?_;rintro _ O8 ⟨rfl,fE⟩;have DU:=fE.next;have pL:=fE.at s8;refine ao @aN @pL ?_;refine VC.gen ?_;intro O9 e9;have bn:O9.hp nb=some (.cells [.v (.int .i64 i),.v (.int .i64 (b.dp+1)),.v (.int .i64 od),.str k1,.str k2,.str k3,.str k4,.str v,.v (.bool false),.str v,.sl 0 [] .ar,.v (.int .i64 sc),.v (.bool rd)]):=by rw[e9];exact VH.an _ _ _
 have AO:∀j,j≠nb->O9.hp j=O8.hp j:=fun j hj=>by rw[e9];exact VH.ak _ _ hj
 have Ey:O9.next=O8.next:=by rw[e9];rfl
 have ra:O.Ge O9:=by rw[e9];exact(Bz.trans fE).set (by omega) _
 clear e9;have hA9:=(AO _ (by omega)).trans (fE.at hA7);have hB9:=(AO _ (by omega)).trans (fE.at hB7);have hC9:=(AO _ (by omega)).trans (fE.at hC7);clear Wc hA7 JB hB7 Wd hC7 hX5 hX7 gH s8 pL AM AO Bz R4 fO fE Jl hex Qw Av Ja;have h9:=h.ge ra;have CD:=h9.cell;simp only[bp,List.cons_append,List.nil_append]at CD;have cL:=bd (tk:=t1) (tk':=.full) (n:=S.1.length) (k:=1) (cs:=S.1.flatMap k7) (ds:=[.v (.int .i64 i),.v (.int .i64 (b.dp+1)),.v (.int .i64 od),.str k1,.str k2,.str k3,.str k4,.str v,.v (.bool false),.str v,.sl 0 [] .ar,.v (.int .i64 sc),.v (.bool rd)]) T31 T46.1.1 h9.a1 Si rfl rfl (by decide) (by decide) (by omega) (by simp only[maxLen];omega);have jZ:∀j,j<O9.next->O9.hp j≠some .tok->(O9.after t1).hp j=O9.hp j:=fun j h1 h2=>App.off h9.a1 h1 h2
 have VI:=(jZ tb (by omega) (by rw[CD];simp)).trans CD;refine VC.bu ?_;refine WC.bM (.held [10]) [(0,.rd),(1,.rd),(2,.rd),(3,.rd),(4,.rd),(5,.rd),(6,.one),(7,.one),(8,.one),(9,.rd),(10,.one)] ?_;refine dB @aN @hA9 @CD @bn ?_;refine VL.app cL ?_;refine ao @aN @VI ?_
 have hN:(S.1.flatMap k7++[.v (.int .i64 i),.v (.int .i64 (b.dp+1)),.v (.int .i64 od),.str k1,.str k2,.str k3,.str k4,.str v,.v (.bool false),.str v,.sl 0 [] .ar,.v (.int .i64 sc),.v (.bool rd)]:List MV)=(S.1++[(⟨i,b.dp+1,od,⟨k1,k2,k3,k4⟩,v,sc,rd⟩:Br)]).flatMap k7:=by
  rw[List.flatMap_append,List.flatMap_singleton];rfl
 have hNl:S.1.length+1=(S.1++[(⟨i,b.dp+1,od,⟨k1,k2,k3,k4⟩,v,sc,rd⟩:Br)]).length:=by simp
 rw[hN];have Jb:=cj.after h9.a1;have hnA:(O9.after t1).next=O9.next+1:=VH.fw _ _;have hAp:App (O9.after t1) B 13 (.own O9.next 13):=App.after (by have:=ra.next;omega);have aiM:App (O9.after t1) B 1 t2:=Jb.app h9.a2 hne;refine VC.gen ?_;intro eY qQ;have Hd:eY.next=O9.next+1:=by rw[qQ];exact hnA
 have Fc:eY.hp tb=some (.cells [.ptr k 0,.ptr bb 0,.str g1,.str g2,.str g3,.map mm,.sl (S.1.length+1) ((S.1++[(⟨i,b.dp+1,od,⟨k1,k2,k3,k4⟩,v,sc,rd⟩:Br)]).flatMap k7) (.own O9.next 13),.sl S.2.length (S.2.flatMap xK) t2]):=by rw[qQ];exact VH.an _ _ _
 have zN:∀j,j≠tb->eY.hp j=(O9.after t1).hp j:=fun j hj=>by rw[qQ];exact VH.ak _ _ hj
 have agz:App eY B 13 (.own O9.next 13):=by rw[qQ];exact hAp.nA (by rw[VI];simp)
 have QR:App eY B 1 t2:=by rw[qQ];exact aiM.nA (by rw[VI];simp)
 clear qQ;have aiN:=(zN _ (by omega)).trans ((jZ _ (by omega) (by rw[hA9];simp)).trans hA9);have aiO:=(zN _ (by omega)).trans ((jZ _ (by omega) (by rw[hB9];simp)).trans hB9);have Nt:=(zN _ (by omega)).trans ((jZ _ (by omega) (by rw[hC9];simp)).trans hC9);have EI:=bd (tk:=t2) (tk':=.full) (n:=S.2.length) (k:=1) (cs:=S.2.flatMap xK) (ds:=[.sl x.length (x.flatMap bF) .ar]) adR B1 QR zX rfl rfl (by decide) (by decide) (by omega) (by simp only[maxLen];omega);have abg:∀j,j<eY.next->eY.hp j≠some .tok->(eY.after t2).hp j=eY.hp j:=fun j h1 h2=>App.off QR h1 h2
 have hcB:=(abg tb (by omega) (by rw[Fc];simp)).trans Fc;refine VC.bu ?_;refine WC.bM (.held [11]) [(0,.rd),(1,.rd),(2,.rd),(3,.rd),(4,.rd),(5,.rd),(6,.rd),(7,.one),(8,.one),(9,.one),(10,.rd),(11,.one)] ?_;refine dB @aN @aiN @Fc @aiO ?_;refine VL.app EI ?_;refine ao @aN @hcB ?_
 have hX:(S.2.flatMap xK++[.sl x.length (x.flatMap bF) .ar]:List MV)=(S.2++[x]).flatMap xK:=by
  rw[List.flatMap_append,List.flatMap_singleton];rfl
 rw[hX];have hKB:=cj.after QR;have hnB:(eY.after t2).next=eY.next+1:=VH.fw _ _;have hBp:App (eY.after t2) B 1 (.own eY.next 1):=App.after (by have:=ra.next;omega)
 have aiP:App (eY.after t2) B 13 (.own O9.next 13):=hKB.app agz (fun j h1 h2=>by
  injection h2 with h2;subst h2;have:=(App.pM h9.a2 h1).2;omega)
 refine VC.gen ?_;intro nF We;have YV:nF.next=eY.next+1:=by rw[We];exact hnB
 have abh:nF.hp tb=some (.cells [.ptr k 0,.ptr bb 0,.str g1,.str g2,.str g3,.map mm,.sl (S.1.length+1) ((S.1++[(⟨i,b.dp+1,od,⟨k1,k2,k3,k4⟩,v,sc,rd⟩:Br)]).flatMap k7) (.own O9.next 13),.sl (S.2.length+1) ((S.2++[x]).flatMap xK) (.own eY.next 1)]):=by rw[We];exact VH.an _ _ _
 have aeX:∀j,j≠tb->nF.hp j=(eY.after t2).hp j:=fun j hj=>by rw[We];exact VH.ak _ _ hj
 have agA:App nF B 13 (.own O9.next 13):=by rw[We];exact aiP.nA (by rw[hcB];simp)
 have agB:App nF B 1 (.own eY.next 1):=by rw[We];exact hBp.nA (by rw[hcB];simp)
 clear We;have abi:=(aeX _ (by omega)).trans ((abg _ (by omega) (by rw[Nt];simp)).trans Nt);refine VC.ag aa (ao @aN @abi ?_);refine WC.sound aa (ae @aN ?_)
 have aS:∀j,j<O.next->j≠tb->aC.id t1≠some j->aC.id t2≠some j->nF.hp j=O.hp j:=fun j h1 h2 h3 h4=>by
  rw[aeX j h2,hKB.hp j (by have:=ra.next;omega) h4,zN j h2,Jb.hp j (by have:=ra.next;omega) h3,ra.hp j h1]
 have hmm:mm≠tb:=fun e=>by have:=h.map;rw[e,jP]at this;cases this
 have Su:nF.hp mm=some (.map (cf []) 0):=(aS mm dK.2 hmm (fun e=>by have:=App.tok di e;rw[Gt]at this;cases this) (fun e=>by have:=App.tok iY e;rw[Gt]at this;cases this)).trans Gt;have hng:=ra.next;refine⟨rfl,.own O9.next 13,.own eY.next 1,⟨?_,VH.sn Su,agA.nA (by rw[abi];simp),agB.nA (by rw[abi];simp),?_,?_,?_,EP⟩,?_,?_⟩
 ·rw[VH.ak _ _ (by omega),abh];simp[bp]
 ·intro j h1 h2;injection h1 with h1;injection h2 with h2;omega
 ·show tb<nF.next/\mm<nF.next;omega
 ·simp[hlen]
 ·show O.next<=nF.next;omega
 ·intro j h1 h2 h3 h4;rw[VH.ak _ _ (by omega)];exact aS j h1 h2 h3 h4
def wX:Nat->Nat->Bs
 | 0,_=>[]
 | f+1,n=>if n<10 then[UInt8.ofNat (48+n)]else wX f (n / 10)++[UInt8.ofNat (48+n % 10)]
def gq (n:Nat):Bs:=wX (n+1) n
theorem Fe:∀(f g n:Nat),n<f->n<g->wX f n=wX g n
 | 0,_,_,h,_=>by omega
 | _,0,_,_,h=>by omega
 | f+1,g+1,n,h1,h2=>by
   unfold wX;by_cases h:n<10
   ·rw[if_pos h,if_pos h]
   ·rw[if_neg h,if_neg h,Fe f g (n / 10) (by omega) (by omega)]
theorem mH {n:Nat} (h:n<10):gq n=[UInt8.ofNat (48+n)]:=by unfold gq wX;rw[if_pos h]
theorem nJ {n:Nat} (h:¬n<10):gq n=gq (n / 10)++[UInt8.ofNat (48+n % 10)]:=by
 show wX (n+1) n=_;unfold wX;rw[if_neg h,Fe n (n / 10+1) (n / 10) (by omega) (by omega)];rfl
theorem AS:∀(n m:Nat),gq n=gq m->n=m:=by
 intro n;induction n using Nat.strongRecOn with
 | _ n ih=>
   intro m h;by_cases hn:n<10
   ·by_cases hm:m<10
    ·rw[mH hn,mH hm]at h;injection h with h _;have:=congrArg UInt8.toNat h;simp only[UInt8.toNat_ofNat']at this;omega
    ·rw[mH hn,nJ hm]at h;have hl:=congrArg List.length h;rw[List.length_append]at hl
     have:(gq (m / 10)).length≠0:=by
      intro e;have:=List.eq_nil_of_length_eq_zero e;unfold gq wX at this;split at this<;>simp at this
     simp only[List.length_cons,List.length_nil]at hl;omega
   ·by_cases hm:m<10
    ·rw[nJ hn,mH hm]at h;have hl:=congrArg List.length h;rw[List.length_append]at hl
     have:(gq (n / 10)).length≠0:=by
      intro e;have:=List.eq_nil_of_length_eq_zero e;unfold gq wX at this;split at this<;>simp at this
     simp only[List.length_cons,List.length_nil]at hl;omega
    ·rw[nJ hn,nJ hm]at h;have h1:=List.append_inj' h rfl;have h2:=ih (n / 10) (by omega) (m / 10) h1.1;have h3:=h1.2;injection h3 with h3 _;have:=congrArg UInt8.toNat h3;simp only[UInt8.toNat_ofNat']at this;omega
theorem ry (n:Nat):∀c∈gq n,lR c=true:=by
 induction n using Nat.strongRecOn with
 | _ n ih=>
   by_cases h:n<10
   ·rw[mH h];intro c hc;rw[List.mem_singleton]at hc;subst hc;simp only[lR,UInt8.toNat_ofNat',Bool.and_eq_true,decide_eq_true_eq];omega
   ·rw[nJ h];intro c hc;rcases List.mem_append.1 hc with hc | hc
    ·exact ih _ (by omega) c hc
    ·rw[List.mem_singleton]at hc;subst hc;simp only[lR,UInt8.toNat_ofNat',Bool.and_eq_true,decide_eq_true_eq];omega
theorem iI {n:Nat} (h:n<1000):(gq n).length<=3:=by
 by_cases h1:n<10
 ·rw[mH h1];simp
 ·rw[nJ h1,List.length_append];by_cases h2:n / 10<10
  ·rw[mH h2];simp
  ·rw[nJ h2,List.length_append,mH (by omega)];simp
def cE (i:Nat):Bs:=97::gq (i+1)
def dP (d i:Nat):Bs:=112::(gq d++46::gq (i+1))
theorem vg {i j:Nat} (h:cE i=cE j):i=j:=by
 unfold cE at h;injection h with _ h;have:=AS _ _ h;omega
theorem QS {a b c d:Bs} (h1:∀x∈a,lR x=true) (h2:∀x∈c,lR x=true) (h:a++46::b=c++46::d):a=c/\b=d:=by
 induction a generalizing c with
 | nil=>
   cases c with
   | nil=>injection h with _ h;exact⟨rfl,h⟩
   | cons x c=>
     injection h with h _;have:=h2 x (List.mem_cons_self ..);rw[<-h]at this;exact absurd this (by decide)
 | cons y a ih=>
   cases c with
   | nil=>
     injection h with h _;have:=h1 y (List.mem_cons_self ..);rw[h]at this;exact absurd this (by decide)
   | cons x c=>
     injection h with h h'
     obtain⟨e1,e2⟩:=ih (fun z hz=>h1 z (List.mem_cons_of_mem _ hz)) (fun z hz=>h2 z (List.mem_cons_of_mem _ hz)) h';exact⟨by rw[h,e1],e2⟩
theorem mI {d i e j:Nat} (h:dP d i=dP e j):d=e/\i=j:=by
 unfold dP at h;injection h with _ h;obtain⟨h1,h2⟩:=QS (ry d) (ry e) h;have:=AS _ _ h1;have:=AS _ _ h2;omega
theorem BO (d i:Nat):dP d i≠[97]:=by
 unfold dP;intro h;injection h with h _;revert h;decide
structure pQ (s:Bs):Prop where
 id:eB s=true
 pl:∀c∈s,gN c=true/\c≠36
theorem vY {c:UInt8} (h:lR c=true):gN c=true/\c≠36/\jv c=true:=by
 have h1:gN c=true:=by unfold gN;rw[h];simp
 simp only[lR,Bool.and_eq_true,decide_eq_true_eq]at h;refine⟨h1,fun e=>?_,?_⟩
 ·rw[e]at h;revert h;decide
 ·unfold jv;rw[h1];simp only[Bool.true_and,decide_eq_true_eq];omega
theorem nmi {s:Bs} (h:s.all jv=true) (h2:1<=s.length/\s.length<=64) (h3:∀c∈s,c≠36):pQ s:=by
 refine⟨by unfold eB;rw[h,decide_eq_true h2.1,decide_eq_true h2.2];rfl,fun c hc=>⟨?_,h3 c hc⟩⟩;have:=List.all_eq_true.1 h c hc;unfold jv at this;exact(Bool.and_eq_true_iff.1 this).1
theorem xN {i:Nat} (h:i<900):pQ (cE i):=by
 have hd:=ry (i+1);have hl:=iI (n:=i+1) (by omega);unfold cE;refine nmi ?_ (by rw[List.length_cons];omega) ?_
 ·rw[List.all_cons,List.all_eq_true.2 fun c hc=>(vY (hd c hc)).2.2];decide
 ·intro c hc;rcases List.mem_cons.1 hc with rfl | hc
  ·decide
  ·exact(vY (hd c hc)).2.1
theorem vh {d i:Nat} (hd:d<1000) (hi:i<900):pQ (dP d i):=by
 have h1:=ry (i+1);have h2:=ry d;have l1:=iI (n:=i+1) (by omega);have l2:=iI hd;unfold dP;refine nmi ?_ (by simp only[List.length_cons,List.length_append];omega) ?_
 ·rw[List.all_cons,List.all_append,List.all_cons,List.all_eq_true.2 fun c hc=>(vY (h2 c hc)).2.2,List.all_eq_true.2 fun c hc=>(vY (h1 c hc)).2.2];decide
 ·intro c hc;rcases List.mem_cons.1 hc with rfl | hc
  ·decide
  ·rcases List.mem_append.1 hc with hc | hc
   ·exact(vY (h2 c hc)).2.1
   ·rcases List.mem_cons.1 hc with rfl | hc
    ·decide
    ·exact(vY (h1 c hc)).2.1
theorem pQ.vl {s:Bs} (h:pQ s):j8 s:=by
 have h1:=h.id;unfold eB at h1;simp only[Bool.and_eq_true,decide_eq_true_eq]at h1;exact⟨fun e=>by rw[e]at h1;simp at h1,fun c hc=>by unfold Qr;rw[(h.pl c hc).1];rfl⟩
theorem pQ.len {s:Bs} (h:pQ s):s.length<=64:=by
 have h1:=h.id;unfold eB at h1;simp only[Bool.and_eq_true,decide_eq_true_eq]at h1;exact h1.2
theorem rz {s:Bs} (h:∀c∈s,c≠36):qx s:=by
 unfold qx;induction s with
 | nil=>decide
 | cons b l ih=>
   have hb:=h b (List.mem_cons_self ..);have ih:=ih fun c hc=>h c (List.mem_cons_of_mem _ hc)
   have gK:=Lib.index_ge l [36,123]
   have hp:([36,123]:Bs).isPrefixOf (b::l)=false:=by
    rw[List.isPrefixOf,show((36:UInt8)==b)=false from beq_eq_false_iff_ne.2 (Ne.symm hb),Bool.false_and]
   unfold Lib.index;rw[hp,if_neg (by decide)];rw[show Lib.index l [36,123]= -1 by omega];decide
theorem pQ.plain {s:Bs} (h:pQ s):fL s:=⟨rz fun c hc=>(h.pl c hc).2,Nat.le_trans h.len (by decide)⟩
theorem xO:pQ gS:=nmi (by decide) (by decide) (by decide)
theorem abj:j8 v1:=⟨by decide,by decide⟩
theorem HP:fL v1:=⟨rz (by decide),by decide⟩
theorem Wf:p_ v1=((false,v1,[]),0):=by kernel_rfl
structure Gk (d:Dp):Prop where
 g:d.g=gS
 a:pQ d.a
 v:d.v=v1
 t:d.t=[]
 c:d.c=[]
 s:d.s=0\/d.s=1\/d.s=2\/d.s=3\/d.s=4\/d.s=5
 o:d.o=0\/d.o=1
 x:∀i∈d.x,(i.g=[42]\/pQ i.g)/\pQ i.a
 xl:d.x.length<=1
theorem Ff {s:Bs} (h:s=[42]\/pQ s):j8 s/\s.length<=64/\gm s=true:=by
 rcases h with rfl | h
 ·exact⟨⟨by decide,by decide⟩,by decide,by decide⟩
 ·refine⟨h.vl,h.len,?_⟩;unfold gm yZ vF;rw[h.id];simp
theorem Gk.w {d:Dp} (h:Gk d):Jh d:=by
 have hg:=h.g;have hv:=h.v;refine⟨by rw[hg];exact xO.vl,h.a.vl,by rw[hv];exact abj,by rw[hg];decide,Nat.le_trans h.a.len (by decide),by rw[hv];decide,h.t,h.c,h.s,h.o,fun i hi=>?_,by have:=h.xl;omega⟩;obtain⟨h1,h2⟩:=h.x i hi;obtain⟨a1,a2,a3⟩:=Ff h1;obtain⟨b1,b2,b3⟩:=Ff (.inr h2);exact⟨⟨a1,by omega,a3⟩,b1,by omega,b3⟩
theorem Gk.q {d:Dp} (h:Gk d):Qj d:=by
 have hg:=h.g;have hv:=h.v;refine⟨by rw[hg];exact xO.plain,by rw[hg];exact xO.id,h.a.plain,h.a.id,by rw[hv];exact HP,by rw[hv];decide,by rw[hv];exact Wf,by rw[h.t];exact⟨rz (by simp),by decide⟩,.inr h.t,by rw[h.c];exact⟨rz (by simp),by decide⟩,.inr h.c,by have:=h.xl;omega⟩
structure Calm (g:Gv) (D:List Dp):Prop where
 hg:g.g=gS
 ha:pQ g.a
 hv:g.v=v1
 d:∀d∈D,Gk d
 ne:D.Pairwise fun x y=>x.a≠y.a
 n:D.length<=40
section
variable {g:Gv} {D:List Dp}
theorem Calm.w (h:Calm g D):VP (cR g D):=
 ⟨by show j8 g.g;rw[h.hg];exact xO.vl,h.ha.vl,by show j8 g.v;rw[h.hv];exact abj,by show g.g.length<=_;rw[h.hg];decide,Nat.le_trans h.ha.len (by decide),by show g.v.length<=_;rw[h.hv];decide,fun d hd=>(h.d d hd).w,Nat.le_trans h.n (by decide)⟩
theorem Calm.short (h:Calm g D):aaG g D:=
 ⟨⟨by rw[h.hg];decide,h.ha.len,by rw[h.hv];decide⟩,fun d hd=>by
   have hd:=h.d d hd;refine⟨by rw[hd.g];decide,hd.a.len,by rw[hd.v];decide,hd.xl,fun i hi=>⟨(Ff (hd.x i hi).1).2.1,(hd.x i hi).2.len⟩⟩,h.n⟩
theorem Calm.build (h:Calm g D):gx (bQ (e_ (cR g D)))= .ok (e_ (cR g D)):=VT h.w (fun d hd=>(h.d d hd).xl) h.n
theorem Calm.read (h:Calm g D):nV (e_ (cR g D))= .ok (cR g D):=VS h.w
theorem Calm.text (h:Calm g D):(bQ (e_ (cR g D))).length<=65536:=VV h.w h.short
theorem Calm.gav (h:Calm g D):sb g:=by
 obtain⟨h1,h2,h3⟩:=h.short.g;have:(64:Nat)<=maxLen:=by decide
 exact⟨by omega,by omega,by omega⟩
theorem Calm.may (h:Calm g D):yY g=true:=by
 unfold yY;rw[h.hg,xO.id,h.ha.id,h.hv];simp only[Bool.and_self,Bool.true_and];decide
theorem Calm.q (h:Calm g D):PmQ (cR g D) g:=by
 have hs:=h.short.g;refine⟨⟨⟨by show(0:Nat)<=_;omega,by show(0:Nat)<=_;omega,by show D.length<=_;have:=h.n;omega,by simp[cR],fun d hd=>by have:=(h.d d hd).xl;omega⟩,rfl,by simp[cR],fun d hd=>?_,by simp[cR]⟩,rfl,rfl,rfl,?_,h.ha.plain,?_,⟨rz (by simp[cR]),by show(0:Nat)<=_;omega⟩,by show eB (Ck [])=true;decide,rfl,rfl,fun d hd=>(h.d d hd).q,by show D.length<=_;have:=h.n;omega,?_⟩
 ·have hd:=h.d d hd;have:=hd.a.len;refine⟨by rw[hd.g];decide,by omega,by rw[hd.v];decide,by rw[hd.t];decide,by rw[hd.c];decide,by have:=hd.xl;omega⟩
 ·show fL g.g;rw[h.hg];exact xO.plain
 ·show fL g.v;rw[h.hv];exact HP
 ·refine h.ne.imp fun{x y} hxy e=>hxy ?_
  have:=congrArg Ky.a e;exact this
end
set_option linter.defProp false in
def wY:=And.intro aJ<|And.intro T36 Pl
theorem Wg {O:VH} {bb md k:Nat} {MD:eS} {cm:Nat} (hB:Qx O bb md k MD cm) {g:Gv} (hg:sb g) {M:Mdl} (Nu:jI (dY g) MD=some (.agg (kK M))):
  VF Tryz.prog 49 [.ptr bb 0,.agg (bp g),.sl 0 [] .nil] O (aL fun m O'=>m= .agg (kK M)/\O.Ge O'):=by
 have z_:=uS hg;have hBc:=fun(O':VH) (g':O.Ge O')=>(hB.ge g')
 obtain⟨g1,g2,g3⟩:=g;obtain⟨⟨m1,m2,m3⟩,pk,P,L⟩:=M;simp only[kK,bp,List.cons_append,List.nil_append]at Nu ⊢;refine VF.bX 120 [.cell 6 51] Tryz.func49 ?_;refine VC.ag aa (ae @aJ ?_);refine VC.gen ?_;intro O1 e1;obtain⟨aT,dd,di,cg⟩:=gI _ _ e1;clear e1;have mQ:=hBc O1 aT;have hlB:=hB.lt;have nL:∀M:List MV,O1.Ge ((O1.push (.cells lO)).set O1.next (.cells M))/\((O1.push (.cells lO)).set O1.next (.cells M)).hp O1.next=some (.cells M)/\((O1.push (.cells lO)).set O1.next (.cells M)).hp (O.next+1)=some (.cells [.str [],.str [],.str [],.str [],.sl 0 [] .nil,.sl 0 [] .nil,.sl 0 [] .nil]):=fun M=>⟨(((VH.Ge.refl O1).push _)).set (Nat.le_refl _) _,VH.an _ _ _,VH.sn ((VH.cY _ _ (by omega)).trans cg)⟩
 ·refine VC.bu (VC.bu ?_);refine VC.r5 [11] (fun O'=>O'.hp bb=some (.cells [.ptr k 0,.map md])/\O'.hp O.next=some (.cells [.str g1,.str g2,.str g3])/\O1.Ge O') (⟨mQ.cell,di,VH.Ge.refl _⟩) ?_;refine ab.av 0 ?_;refine ae @aJ ?_;refine ab.av 1 ?_;refine ae @aJ ?_;refine ab.av 2 ?_;refine ae @aJ ?_;refine ab.lp (m:=.map md) 3 ?_ ?_
  ·rintro O2 ⟨j0,j1,j2⟩;exact dz @aJ @j0
  simp only[aj];refine ab.lp (m:=.agg [.str g1,.str g2,.str g3]) 4 ?_ ?_
  ·rintro O2 ⟨j0,j1,j2⟩;exact dz @aJ @j1
  simp only[aj];have j7:∀A B:VH,A.Ge B->(A.hp bb=some (.cells [.ptr k 0,.map md])/\A.hp O.next=some (.cells [.str g1,.str g2,.str g3])/\O1.Ge A)->(B.hp bb=some (.cells [.ptr k 0,.map md])/\B.hp O.next=some (.cells [.str g1,.str g2,.str g3])/\O1.Ge B):=fun A B g h=>⟨(g.hp _ (by have:=h.2.2.next;have:=mQ.lt;omega)).trans h.1,(g.hp _ (by have:=h.2.2.next;omega)).trans h.2.1,h.2.2.trans g⟩
  have pH:O1.hp bb=some (.cells [.ptr k 0,.map md])/\O1.hp O.next=some (.cells [.str g1,.str g2,.str g3])/\O1.Ge O1:=⟨mQ.cell,di,VH.Ge.refl _⟩;have sZ:∀A:VH,A.Ge (A.push (.cells lO)):=fun A=>(VH.Ge.refl A).push _
  have hJs:∀X,((O1.push (.cells lO)).set O1.next X).hp bb=some (.cells [.ptr k 0,.map md])/\((O1.push (.cells lO)).set O1.next X).hp O.next=some (.cells [.str g1,.str g2,.str g3])/\O1.Ge ((O1.push (.cells lO)).set O1.next X):=fun X=>j7 O1 _ ((sZ O1).set (Nat.le_refl _) _) pH
  refine ab.pair (i:=5) (j:=9) ?_ ?_
  ·refine aG.qv (fH.lh uQ aa (l:=dY ⟨g1,g2,g3⟩) (te:=⟨_,7,136,lO⟩) Tryz.underlying102 Pl.1.1 rfl rfl mQ.map mQ.ok rfl rfl z_) ?_;rw[Nu];refine⟨pH,?_⟩;refine ab.av 6 ?_;refine ae @aJ ?_;refine ab.av 7 ?_;refine ae @aJ ?_;refine ab.av 8 ?_;refine ae @aJ ?_;refine ab.op (i:=9) ?_;refine ae @aJ ?_;refine⟨⟨pH.1,pH.2.1,sZ _⟩,?_⟩;refine ab.op (i:=10) ?_;refine ae @aJ ?_;refine⟨⟨pH.1,pH.2.1,(hJs _).2.2⟩,?_⟩;refine ab.bM [(11,.one)] ?_;refine ae @aJ ?_;obtain⟨c1,c2,c3⟩:=nL [.str m1,.str m2,.str m3,.str pk,.sl P.length (P.flatMap aW) .ar,.sl 0 [] .ar,.sl L.length (L.flatMap dy) .ar];generalize (O1.push (.cells lO)).set O1.next (.cells [.str m1,.str m2,.str m3,.str pk,.sl P.length (P.flatMap aW) .ar,.sl 0 [] .ar,.sl L.length (L.flatMap dy) .ar])=O3 at*;refine WC.sound aa (aM @aJ @c2 @c3 ?_);exact(aT.trans c1).set (by omega) _
  ·refine aG.o1 ?_;refine ae @aJ ?_;refine⟨⟨pH.1,pH.2.1,sZ _⟩,?_⟩;refine ab.one (i:=5) (aG.qv (fH.lh uQ aa (l:=dY ⟨g1,g2,g3⟩) (te:=⟨_,7,136,lO⟩) Tryz.underlying102 Pl.1.1 rfl rfl ((sZ _).hp _ mQ.lt.2 |>.trans mQ.map) mQ.ok rfl rfl z_) ?_);rw[Nu];refine⟨j7 _ _ (sZ _) pH,?_⟩;refine ab.av 6 ?_;refine ae @aJ ?_;refine ab.av 7 ?_;refine ae @aJ ?_;refine ab.av 8 ?_;refine ae @aJ ?_;refine ab.op (i:=10) ?_;refine ae @aJ ?_;refine⟨⟨pH.1,pH.2.1,(hJs _).2.2⟩,?_⟩;refine ab.bM [(11,.one)] ?_;refine ae @aJ ?_;obtain⟨c1,c2,c3⟩:=nL [.str m1,.str m2,.str m3,.str pk,.sl P.length (P.flatMap aW) .ar,.sl 0 [] .ar,.sl L.length (L.flatMap dy) .ar];generalize (O1.push (.cells lO)).set O1.next (.cells [.str m1,.str m2,.str m3,.str pk,.sl P.length (P.flatMap aW) .ar,.sl 0 [] .ar,.sl L.length (L.flatMap dy) .ar])=O3 at*;refine WC.sound aa (aM @aJ @c2 @c3 ?_);exact(aT.trans c1).set (by omega) _
theorem abk {O:VH} {a b:Nat} {K:VH->Prop} (h:K O):fG Tryz.prog 47 [.ptr a 0,.ptr b 0] none O K:=by
 refine fG.rec (d:=5) Tryz.func47 (Nat.lt_of_lt_of_eq (by decide:5<13) rfl) ?_;show WC _ _ ⟨13,0⟩ _ _ _ _ _;simp only[cb,Nat.zero_add,Nat.reduceAdd,yO];refine ao @wY @wi ?_;refine VL.pure (by simp) (fun _=>.inl rfl) rfl rfl (gM.DI (bb:=true) Tryz.underlying20 rfl (.inl ⟨rfl,rfl⟩)) ?_;refine WL.sound aa ?_;refine ao @wY @wi ?_;exact h
theorem Nv {l:List Bs} {M:eS} {p:List Bs×MV×Nat}:jI l (M++[p])=match jI l M with
  | some x=>some x
  | none=>if p.1=l then some p.2.1 else none:=by
 unfold jI;rw[List.find?_append];cases h:M.find? (·.1==l)with
 | some x=>rfl
 | none=>
   simp only[Option.map_none,Option.none_or,List.find?_cons,List.find?_nil];by_cases e:p.1=l
   ·rw[if_pos e,show(p.1==l)=true by simpa using e];rfl
   ·rw[if_neg e,show(p.1==l)=false by simpa using e];rfl
def Own (k ke kv:Nat) (E V:eS) (j:Nat):Prop:=j=k\/j=ke\/j=kv\/(∃(i c:Nat) (p:List Bs),E[i]?=some (p,MV.ptr j 0,c))\/∃p∈V,∃n cs tk,p.2.1=MV.sl n cs tk/\aC.id tk=some j
structure CB (O:VH) (U:Nat->Prop) (k bb md:Nat) (S:List (Gv×List Dp)):Prop where
 ex:∃L E V ke kv ce cv r a MD cm,ig O k L E V ke kv ce cv r a/\Qx O bb md k MD cm/\L.length=S.length/\(∀(i:Nat) (g:Gv) (D:List Dp),S[i]?=some (g,D)->∃o,L[i]?=some (g,bQ (e_ (cR g D)),o)/\((o=none/\jI (dY g) MD=none)\/(o=some (cR g D)/\jI (dY g) MD=some (.agg (kK (gR g (cR g D)))))))
  /\(md≠ke/\md≠kv)/\∀j,Own k ke kv E V j->U j
 lt:∀j,U j->j<O.next
 b:U bb/\U md
theorem uW.low {O O':VH} {V:eS} {N:Nat} {U:Nat->Prop} (h:uW O V N) (hb:∀p∈V,∀n cs tk (i:Nat),p.2.1=MV.sl n cs tk->aC.id tk=some i->U i) (hn:O.next<=O'.next) (hi:∀i,U i->O'.hp i=O.hp i):uW O' V N:=
 ⟨fun p hp=>by
  obtain⟨n,cs,tk,h1,h2,h3,h4,h5⟩:=h.row p hp;exact⟨n,cs,tk,h1,h2,h3,h4.at hn (fun i e=>hi i (hb p hp n cs tk i h1 e)),h5⟩,h.one⟩
theorem ig.mv {O O':VH} {U:Nat->Prop} {k ke kv ce cv:Nat} {L:List (Gv×Bs×Option Pm)} {E V:eS} {r a:Int} (hS:ig O k L E V ke kv ce cv r a) (hU:∀j,Own k ke kv E V j->U j) (hn:O.next<=O'.next) (hi:∀i,U i->O'.hp i=O.hp i):ig O' k L E V ke kv ce cv r a:=by
 have h1:=hU k (.inl rfl);have h2:=hU ke (.inr (.inl rfl));have h3:=hU kv (.inr (.inr (.inl rfl)));have hl:=hS.st.lt;refine⟨⟨(hi _ h1).trans hS.st.cell,(hi _ h2).trans hS.st.zA,(hi _ h3).trans hS.st.Er,hS.st.L4,hS.st.vok,hS.st.ptr,⟨by omega,by omega,by omega⟩,hS.st.ne⟩,hS.len,fun i g t o e=>?_,hS.Z6,hS.Vy.low (fun p hp n cs tk i e1 e2=>hU i (.inr (.inr (.inr (.inr ⟨p,hp,n,cs,tk,e1,e2⟩))))) hn hi⟩;obtain⟨q,c,k1,k2,k3⟩:=hS.F9 i g t o e;exact⟨q,c,k1,by omega,(hi _ (hU q (.inr (.inr (.inr (.inl ⟨i,c,_,k1⟩)))))).trans k3⟩
theorem CB.mv {O O':VH} {U:Nat->Prop} {k bb md:Nat} {S:List (Gv×List Dp)} (h:CB O U k bb md S) (hn:O.next<=O'.next) (hi:∀i,U i->O'.hp i=O.hp i):CB O' U k bb md S:=by
 obtain⟨⟨L,E,V,ke,kv,ce,cv,r,a,MD,cm,hS,hB,hL,I3,Jm,hU⟩,dK,cg,b9⟩:=h;refine⟨⟨L,E,V,ke,kv,ce,cv,r,a,MD,cm,hS.mv hU hn hi,?_,hL,I3,Jm,hU⟩,fun j hj=>Nat.lt_of_lt_of_le (dK j hj) hn,cg,b9⟩;have hl:=hB.lt;exact⟨(hi _ cg).trans hB.cell,(hi _ b9).trans hB.map,hB.ok,by omega,by omega⟩
theorem CB.ge {O O':VH} {U:Nat->Prop} {k bb md:Nat} {S:List (Gv×List Dp)} (h:CB O U k bb md S) (u:O.Ge O'):CB O' U k bb md S:=h.mv u.next fun i hi=>u.hp i (h.lt i hi)
theorem Wh {O:VH} {U:Nat->Prop} {k bb md:Nat} {S:List (Gv×List Dp)} (h:CB O U k bb md S) {i:Nat} {g:Gv} {D:List Dp} (hi:S[i]?=some (g,D)) (hc:Calm g D) (hS:S.Pairwise fun x y=>x.1≠y.1):
  VF Tryz.prog 49 [.ptr bb 0,.agg (bp g),.sl 0 [] .nil] O (aL fun m O'=>m= .agg (kK (gR g (cR g D)))/\CB O' U k bb md S/\O.next<=O'.next/\∀j,¬U j->j<O.next->O'.hp j=O.hp j):=by
 have h0:=h;obtain⟨⟨L,E,V,ke,kv,ce,cv,r,a,MD,cm,hSt,hB,hL,I3,Jm,hU⟩,dK,cg,b9⟩:=h;obtain⟨o,Cd,ho⟩:=I3 i g D hi;rcases ho with⟨rfl,fm⟩ | ⟨rfl,Nu⟩;rotate_left
 ·refine VF.mono ?_ (Wg hB hc.gav Nu);rintro r O' hr;cases r with
  | panic m=>exact hr.elim
  | ret m=>
    obtain⟨rfl,u⟩:=hr;exact⟨rfl,h0.ge u,u.next,fun j _ hj=>u.hp j hj⟩
 refine VF.mono ?_ (aaK hB hSt Cd hc.gav hc.text hc.build hc.read hc.q fm Jm);rintro r O' hr;cases r with
 | panic m=>exact hr.elim
 | ret m=>
   obtain⟨rfl,q,c,hEq,⟨r',a',aiQ⟩,hB',hn,hf⟩:=hr;have hqU:=hU q (.inr (.inr (.inr (.inl ⟨i,c,_,hEq⟩))));have hkU:=hU k (.inl rfl);refine⟨rfl,⟨⟨L.set i (g,bQ (e_ (cR g D)),some (cR g D)),E,V,ke,kv,ce,cv,r',a',_,_,aiQ,hB',by rw[List.length_set];exact hL,?_,Jm,hU⟩,fun j hj=>Nat.lt_of_lt_of_le (dK j hj) hn,cg,b9⟩,hn,fun j h5 h6=>hf j h6 (fun e=>h5 (e▸hkU)) (fun e=>h5 (e▸hqU)) (fun e=>h5 (e▸b9))⟩;intro j g' D' hj;obtain⟨o',hLj,IQ⟩:=I3 j g' D' hj;by_cases e:j=i
   ·subst e;rw[hi]at hj;injection hj with hj;injection hj with e1 e2
    subst e1;subst e2
    refine⟨some (cR g D),by rw[List.getElem?_set_self (List.getElem?_eq_some_iff.1 Cd).1],.inr ⟨rfl,?_⟩⟩;rw[Nv,fm];dsimp only;rw[if_pos rfl]
   ·have hne:g'≠g:=by
     have h7:=(List.getElem?_eq_some_iff.1 hj);have h8:=(List.getElem?_eq_some_iff.1 hi);obtain⟨l7,e7⟩:=h7;obtain⟨l8,e8⟩:=h8;rcases Nat.lt_or_gt_of_ne e with dK | dK
     ·have:=(List.pairwise_iff_getElem.1 hS) j i l7 l8 dK;rw[e7,e8]at this;exact this
     ·have:=(List.pairwise_iff_getElem.1 hS) i j l8 l7 dK;rw[e7,e8]at this;exact fun e=>this e.symm
    refine⟨o',by rw[List.getElem?_set_ne (fun e2=>e e2.symm)];exact hLj,?_⟩;rw[Nv];rcases IQ with⟨e1,e2⟩ | ⟨e1,e2⟩
    ·refine .inl ⟨e1,?_⟩;rw[e2];dsimp only;rw[if_neg (fun e3=>hne (Hy e3).symm)]
    ·refine .inr ⟨e1,?_⟩;rw[e2]
theorem Wi {O:VH} {U:Nat->Prop} {k bb md:Nat} {S:List (Gv×List Dp)} (h:CB O U k bb md S) {i:Nat} {g:Gv} {D:List Dp} (hi:S[i]?=some (g,D)) (hc:Calm g D) (hS:S.Pairwise fun x y=>x.1≠y.1):
  VF Tryz.prog 17 [.ptr bb 0,.agg (bp g)] O (aL fun m O'=>m= .tuple [.agg (kK (gR g (cR g D))),.agg (mC gn)]/\CB O' U k bb md S/\O.next<=O'.next/\∀j,¬U j->j<O.next->O'.hp j=O.hp j):=by
 refine VF.fg ?_;have AL:=fun(O':VH) (u:O.Ge O')=>Wh (h.ge u) hi hc hS
 have aeY:=fun O'=>ada (gR g (cR g D)) O' (by show(3:Nat)<=_;omega) (by show(D.map bY).length<=_;rw[List.length_map];have:=hc.n;omega) (by
  intro n hn;obtain⟨d,hd,rfl⟩:=List.mem_map.1 hn;have:=(hc.d d hd).xl;show d.x.length<=_;omega)
 have nL:=fun j=>h.lt j
 obtain⟨g1,g2,g3⟩:=g;have hM:kK (gR ⟨g1,g2,g3⟩ (cR ⟨g1,g2,g3⟩ D))=[.str g1,.str g2,.str g3,.str fM,.sl 3 ((gE (cR ⟨g1,g2,g3⟩ D)).flatMap aW) .ar,.sl 0 [] .ar,.sl (D.map bY).length ((D.map bY).flatMap dy) .ar]:=rfl;have sX:=fz (gE (cR ⟨g1,g2,g3⟩ D));have cS:=vR (D.map bY);rw[hM]at AL aeY ⊢;generalize (gE (cR ⟨g1,g2,g3⟩ D)).flatMap aW=X1 at*;generalize (D.map bY).flatMap dy=X2 at*;generalize (D.map bY).length=n2 at*;simp only[bp,mC,gn,aq]at AL ⊢;refine VF.D_ (lo:=6) (k:=17) (rs:=[.cell 4 51,.cell 5 36]) Tryz.func17 (Enters.sY (by kernel_rfl)) ?_;simp only[cb,Nat.zero_add,Nat.reduceAdd];refine ae @wY ?_;refine VC.gen ?_;rintro O1 qX;obtain⟨aT,dd,di,cg,gB⟩:=uB _ _ _ qX;clear qX;refine WC.sound aa (ae @wY ?_);refine⟨_,rfl,fun D'=>?_⟩;refine VC.ag aa (aM @wY @wd @di ?_);refine ah.rt (AL O1 aT) ?_;rintro _ O2 ⟨rfl,CW,iK,xg⟩;refine ao @wY @wd ?_;refine ah.rt (aeY O2) ?_;rintro _ O3 ⟨rfl,aR⟩;have bZ:=aR.at ((xg _ (fun hu=>by have:=nL _ hu;omega) (by omega)).trans cg);have fC:=aR.at ((xg _ (fun hu=>by have:=nL _ hu;omega) (by omega)).trans gB);have gW:=aR.next;refine dB @wY @wd @bZ @fC ?_;refine WC.sound aa (ao @wY @wd ?_);refine abk ?_;refine ao @wY @wd ?_;rw[sX,cS];refine⟨rfl,(CW.ge aR).mv (Nat.le_refl _) fun j hj=>?_,by omega,fun j hj hl=>?_⟩
 ·have:=nL j hj;rw[VH.ak _ _ (by omega),VH.ak _ _ (by omega)]
 ·rw[VH.ak _ _ (by omega),VH.ak _ _ (by omega),aR.hp j (by omega),xg j hj (by omega),aT.hp j hl]
set_option linter.defProp false in
def c_:=And.intro aN<|And.intro wY<|And.intro adQ<|And.intro Pl UC
structure Plain (S:List (Gv×List Dp)):Prop where
 c:∀p∈S,Calm p.1 p.2
 ne:S.Pairwise fun x y=>x.1≠y.1
def abl:Option (List Br)->Gv->MV->Prop
 | none,g,m=>m= .tuple [.sl 0 [] .nil,.agg (mC (Nr g))]
 | some N,_,m=>∃t,m= .tuple [.sl N.length (N.flatMap k7) t,.agg (mC gn)]
theorem Fg {S:List (Gv×List Dp)} {g:Gv} {l:List lx} (h:fj S g=some l):∃(i:Nat) (D:List Dp),S[i]?=some (g,D)/\l=D.map bY:=by
 unfold fj at h;obtain⟨p,h1,rfl⟩:=Option.map_eq_some_iff.1 h;obtain⟨g',D⟩:=p;have h2:=List.find?_some h1;have h2:g'=g:=by simpa using h2
 subst h2;obtain⟨i,hi,e⟩:=List.mem_iff_getElem.1 (List.mem_of_find?_eq_some h1);exact⟨i,D,by rw[List.getElem?_eq_getElem hi,e],rfl⟩
theorem abm {d:Dp} (h:Gk d):ET (bY d)/\(bY d).x.length<=1:=by
 have:=h.a.len;refine⟨⟨?_,?_,?_,?_⟩,h.xl⟩
 ·show d.g.length<=_;rw[h.g];decide
 ·show d.a.length<=_;omega
 ·show(if u7 d.t=[]then fM else u7 d.t).length<=_;rw[h.t];decide
 ·show d.c.length<=_;rw[h.c];decide
theorem rp.mv {O O':VH} {tb k bb mm:Nat} {g:Gv} {S:kZ} {t1 t2:aC} {B:Nat} (h:rp O tb k bb mm g S t1 t2 B) (hn:O.next<=O'.next) (h1:B<=tb) (h2:B<=mm) (hf:∀j,B<=j->j<O.next->O'.hp j=O.hp j):rp O' tb k bb mm g S t1 t2 B:=by
 have hl:=h.lt;exact⟨(hf _ h1 hl.1).trans h.cell,(hf _ h2 hl.2).trans h.map,h.a1.at hn (fun i e=>hf i (App.pM h.a1 e).1 (App.pM h.a1 e).2),h.a2.at hn (fun i e=>hf i (App.pM h.a2 e).1 (App.pM h.a2 e).2),h.ne,⟨by omega,by omega⟩,h.len,h.up⟩
theorem QT {S S':kZ} {i:Nat} {b:Br} {od:Nat} {n:lx} (h:pF S i b od n=some S') (hl:S.1.length<=4096) (hi:S.1[i]?=some b):S'.1.length<=4096/\S'.1[i]?=some b/\∀y∈S'.2,y∈S.2\/y=n.x:=by
 unfold pF at h;split at h
 ·injection h with h;subst h
  exact⟨hl,hi,fun y hy=>.inl hy⟩
 ·split at h
  ·cases h
  ·injection h with h;subst h
   unfold qa;refine⟨by rw[List.length_append];simp;omega,by rw[List.getElem?_append_left (List.getElem?_eq_some_iff.1 hi).1];exact hi,fun y hy=>?_⟩;rcases List.mem_append.1 hy with hy | hy
   ·exact .inl hy
   ·exact .inr (List.mem_singleton.1 hy)
set_option maxHeartbeats 4000000 in
theorem adv {O:VH} {U:Nat->Prop} {k bb md:Nat} {S:List (Gv×List Dp)} (h:CB O U k bb md S) (hS:Plain S) (g:Gv) {r:Option (List Br)} (hr:qy (fj S) g=some r):
  VF Tryz.prog 15 [.ptr k 0,.ptr bb 0,.agg (bp g)] O (aL fun m O'=>abl r g m/\O.next<=O'.next/\∀j,¬U j->j<O.next->O'.hp j=O.hp j):=by
 obtain⟨g1,g2,g3⟩:=g;simp only[bp];refine VF.bX 116 [.tmp 6,.cell 7 36] Tryz.func15 ?_;refine VC.ag aa (ae @c_ ?_);refine VC.gen ?_;intro O1 e1;obtain⟨aT,dd,di,cg⟩:=gI _ _ e1;clear e1;have q_:Ik (k8 [(0,1),(1,1),(2,3),(5,1),(6,1),(7,1)]) [.ptr k 0,.ptr bb 0,.str g1,.str g2,.str g3,.v (.map none),.sl 0 [] .nil,.sl 0 [] .nil] (.map O1.next) [] (some (5,1))=some [.ptr k 0,.ptr bb 0,.str g1,.str g2,.str g3,.map O1.next,.sl 0 [] .nil,.sl 0 [] .nil]:=rfl;refine VC.ag aa (aM @c_ @di @q_ ?_);refine VC.gen ?_;intro O2 e2;obtain⟨az,iK,hm2,Ev⟩:=gI _ _ e2;clear e2;have iY:=az.at di;have b9:=az.at cg;refine VC.ag aa (aM @c_ @iY @Ev ?_);refine VC.gen ?_;intro O3 e3;have ht3:O3.hp (O1.next+1)=some (.cells [.ptr k 0,.ptr bb 0,.str g1,.str g2,.str g3,.map O1.next,.sl 1 [.v (.int .i64 (-1)),.v (.int .i64 0),.v (.int .i64 0),.str g1,.str g2,.str [106,97,114],.str [],.str g3,.v (.bool false),.str g3,.sl 0 [] .nil,.v (.int .i64 0),.v (.bool false)] .full,.sl 0 [] .nil]):=by rw[e3];exact VH.an _ _ _
 have zL:∀j,j≠O1.next+1->O3.hp j=O2.hp j:=fun j hj=>by rw[e3];exact VH.ak _ _ hj
 have gW:O3.next=O2.next:=by rw[e3];rfl
 clear e3;refine VC.ag aa (ao @c_ @ht3 ?_);refine VC.gen ?_;intro O4 e4;have Vc:O4.hp (O1.next+1)=some (.cells [.ptr k 0,.ptr bb 0,.str g1,.str g2,.str g3,.map O1.next,.sl 1 [.v (.int .i64 (-1)),.v (.int .i64 0),.v (.int .i64 0),.str g1,.str g2,.str [106,97,114],.str [],.str g3,.v (.bool false),.str g3,.sl 0 [] .nil,.v (.int .i64 0),.v (.bool false)] .full,.sl 1 [.sl 0 [] .nil] .full]):=by rw[e4];exact VH.an _ _ _
 have qw:∀j,j≠O1.next+1->O4.hp j=O2.hp j:=fun j hj=>by rw[e4,VH.ak _ _ hj];exact zL j hj
 have ic:O4.next=O2.next:=by rw[e4];exact gW
 clear e4 ht3 zL gW;refine VC.Ms Vc (cs':=[.ptr k 0,.ptr bb 0]++bp ⟨g1,g2,g3⟩++[.map O1.next,.sl [mF ⟨g1,g2,g3⟩].length ([mF ⟨g1,g2,g3⟩].flatMap k7) .full,.sl [([]:List eC)].length ([([]:List eC)].flatMap xK) .full]) ?_ ?_
 ·simp only[bp,mF,fM,k7,jW,tu,xK,List.flatMap_singleton,List.cons_append,List.nil_append,List.length_singleton,List.length_nil,List.flatMap_nil,aq,a_]
  repeat' first
   | exact dR.refl _
   | exact Wk.refl _
   | exact Wk.tok
   | refine dR.cons ?_ ?_
   | refine Wk.sl ?_
 refine VC.gen ?_;intro O5 e5
 have aiR:rp O5 (O1.next+1) k bb O1.next ⟨g1,g2,g3⟩ ([mF ⟨g1,g2,g3⟩],[[]]) .full .full O.next:=by
  refine⟨by rw[e5];exact VH.an _ _ _,?_,trivial,trivial,fun i h=>(by cases h),?_,rfl,?_⟩
  ·rw[e5,VH.ak _ _ (by omega),qw _ (by omega)];exact hm2
  ·rw[e5];show O1.next+1<O4.next/\O1.next<O4.next;omega
  ·intro j c hj;have hl:=(List.getElem?_eq_some_iff.1 hj).1;simp only[List.length_singleton]at hl;obtain rfl:j=0:=by omega
   simp only[List.getElem?_cons_zero,Option.some.injEq]at hj;subst hj;simp[mF]
 have kS:∀j,j<O2.next->j≠O1.next+1->O5.hp j=O2.hp j:=fun j _ h2=>by rw[e5,VH.ak _ _ h2,qw j h2]
 have gf:O5.next=O2.next:=by rw[e5];exact ic
 have cJ:=(kS _ (by omega) (by omega)).trans b9;have mT:O.Ge O5:=⟨by rw[gf,iK];omega,fun j hj=>(kS j (by omega) (by omega)).trans ((aT.trans az).hp j hj)⟩;clear e5 qw ic Vc kS;refine VC.bz [7,8] (fun _:kZ×aC×aC=>[.ptr (O.next+1) 0,.ptr (O1.next+1) 0]) (fun x O'=>rp O' (O1.next+1) k bb O1.next ⟨g1,g2,g3⟩ x.1 x.2.1 x.2.2 O.next/\r=some x.1.1/\O'.hp (O.next+1)=O5.hp (O.next+1)/\O5.next<=O'.next/\∀j,¬U j->j<O.next->O'.hp j=O.hp j) ?_ ?_
 ·refine VC.ag aa (ae @c_ ?_);refine VC.aB ?_;refine VC.bE [9] [1,7,8] (fun x:Nat×kZ×aC×aC=>[mi x.1]) (fun x O'=>x.1<=x.2.1.1.length/\x.2.1.1.length<=4096/\f_ (fj S) (5000 - x.1) x.1 x.2.1=some r/\rp O' (O1.next+1) k bb O1.next ⟨g1,g2,g3⟩ x.2.1 x.2.2.1 x.2.2.2 O.next/\CB O' U k bb md S/\O'.hp (O.next+1)=O5.hp (O.next+1)/\(∀y∈x.2.1.2,y.length<=1000000)/\O5.next<=O'.next/\∀j,¬U j->j<O.next->O'.hp j=O.hp j) (fun x=>5000 - x.1) ((0,([mF ⟨g1,g2,g3⟩],[[]]),.full,.full)) ?_ ?_
  ·exact⟨Nat.zero_le _,by show(1:Nat)<=4096;decide,hr,aiR,h.ge mT,rfl,by simp,Nat.le_refl _,fun j _ hj=>mT.hp j hj⟩
  rintro⟨i,S',t1,t2⟩ O6 ⟨hi,hl,mw,wA,hC6,gH,hX6,m5,JC⟩;dsimp only at hi hl mw wA hX6 ⊢;have sq:=wA.cell;simp only[bp,List.cons_append,List.nil_append]at sq;have Si:=aX jm S'.1;by_cases jd:i<S'.1.length;rotate_left
  ·obtain rfl:i=S'.1.length:=by omega
   have Ho:r=some S'.1:=by
    rw[show 5000 - S'.1.length=(4999 - S'.1.length)+1 by omega,f_,List.getElem?_eq_none (Nat.le_refl _)]at mw;injection mw with mw;exact mw.symm
   refine WC.sound aa (ao @c_ @sq ?_);exact ay.mk (S',t1,t2) ⟨wA,Ho,gH,m5,JC⟩
  have Qd:((i:Int)+1)=((i+1:Nat):Int):=by omega
  have hb:S'.1[i]?=some S'.1[i]:=List.getElem?_eq_getElem jd;have bI:=cV jm S'.1 i jd;generalize S'.1[i]=b at*;have AT:(S'.1.flatMap k7)[i*13+12]?=some (mb b.rd):=by simpa using iZ (sp:=[]) jm hb (i:=12) rfl
  simp only[a_]at AT;rw[show 5000 - i=(4999 - i)+1 by omega,f_,hb]at mw;dsimp only at mw;refine VC.ag aa (ao @c_ @sq ?_);refine VC.bz [1,7,8,9] (fun _:kZ×aC×aC=>[.ptr bb 0,.ptr (O.next+1) 0,.ptr (O1.next+1) 0,mi i]) (fun x O'=>i+1<=x.1.1.length/\x.1.1.length<=4096/\f_ (fj S) (4999 - i) (i+1) x.1=some r/\rp O' (O1.next+1) k bb O1.next ⟨g1,g2,g3⟩ x.1 x.2.1 x.2.2 O.next/\CB O' U k bb md S/\O'.hp (O.next+1)=O5.hp (O.next+1)/\(∀y∈x.1.2,y.length<=1000000)/\O5.next<=O'.next/\∀j,¬U j->j<O.next->O'.hp j=O.hp j) ?_ ?_;rotate_left
  ·rintro⟨S2,ta,tb⟩ O7 ⟨q1,q2,q3,q4,q5,q6,q7,q8,q9⟩;refine WC.sound aa (ao @c_ @Qd ?_);exact aD.next (i+1,S2,ta,tb) ⟨q1,q2,by rw[show 5000 - (i+1)=4999 - i by omega];exact q3,q4,q5,q6,q7,q8,q9⟩ (hm:=(by dsimp only at q1 q2 ⊢;omega))
  refine VC.aB ?_;cases Jl:b.rd;rotate_left
  ·rw[Jl]at mw AT;rw[if_pos rfl]at mw;refine WC.sound aa (aM @c_ @sq @AT ?_);exact ay.mk (S',t1,t2) ⟨jd,hl,mw,wA,hC6,gH,hX6,m5,JC⟩
  rw[Jl]at mw AT;rw[if_neg (by decide)]at mw;cases hm:fj S (iS b)with
  | none=>rw[hm]at mw;cases mw
  | some l=>
  rw[hm]at mw;dsimp only at mw;obtain⟨q,D,hq,rfl⟩:=Fg hm;have JD:=hS.c _ (List.mem_of_getElem? hq);dsimp only at JD;have AL:=fun(O':VH) (u:O6.Ge O')=>Wi (hC6.ge u) hq JD hS.ne
  have hM:kK (gR (iS b) (cR (iS b) D))=[.str (iS b).g,.str (iS b).a,.str (iS b).v,.str fM,.sl 3 ((gE (cR (iS b) D)).flatMap aW) .ar,.sl 0 [] .ar,.sl (D.map bY).length ((D.map bY).flatMap dy) .ar]:=rfl;rw[hM]at AL;generalize (gE (cR (iS b) D)).flatMap aW=X1 at*;simp only[mC,gn,aq]at AL;refine VC.ag aa (aM @c_ @sq @AT ?_);refine VC.ag aa (aM @c_ @sq @bI ?_);refine ah.rt (adg b O6) ?_;rintro _ O7 ⟨rfl,eH⟩;refine ae @c_ ?_;refine ah.rt (AL O7 eH) ?_;rintro _ O8 ⟨rfl,hC8,DU,hf8⟩;refine ae @c_ ?_;refine VC.gen ?_;intro O9 e9;have hUl:∀j,U j->j<O.next:=h.lt
  have Wa:O9.hp O8.next=some (.cells [.str (iS b).g,.str (iS b).a,.str (iS b).v,.str fM,.sl 3 X1 .ar,.sl 0 [] .ar,.sl (D.map bY).length ((D.map bY).flatMap dy) .ar]):=by rw[e9,VH.ak _ _ (by omega)];exact VH.an _ _ _
  have hp9:O9.hp (O8.next+1)=some (.cells [.v (.int .i64 0),.str [],.str [],.str [],.v (.int .i64 0),.v (.int .i64 0),.v (.int .i64 0),.str []]):=by rw[e9];exact VH.an _ _ _
  have abn:O8.Ge O9:=by rw[e9];exact((((VH.Ge.refl _).push _).push _).set (Nat.le_refl _) _).set (by omega) _
  have Ey:O9.next=O8.next+2:=by rw[e9];rfl
  clear e9;have rX:=eH.next;have SA:∀j,¬U j->j<O6.next->O9.hp j=O6.hp j:=fun j h1 h2=>by rw[abn.hp j (by omega),hf8 j h1 (by omega),eH.hp j h2]
  have hT9:rp O9 (O1.next+1) k bb O1.next ⟨g1,g2,g3⟩ S' t1 t2 O.next:=wA.mv (by omega) (by omega) (by omega) fun j h1 h2=>SA j (fun hu=>by have:=hUl j hu;omega) h2
  have hC9:=hC8.ge abn;have bn:O9.hp (O.next+1)=O5.hp (O.next+1):=(SA _ (fun hu=>by have:=hUl _ hu;omega) (by omega)).trans gH;have hf9:∀j,¬U j->j<O.next->O9.hp j=O.hp j:=fun j h1 h2=>(SA j h1 (by omega)).trans (JC j h1 h2)
  clear AL hC8 hf8 eH abn SA wA hC6 gH JC sq bI AT;refine VC.ag aa (ao @c_ @hp9 ?_);refine VL.yI aa (bb:=false) (b:=true) (by simp) (by simp[gk]) (.inr ⟨rfl,rfl⟩) (by kernel_rfl) (by kernel_rfl) rfl rfl rfl rfl ?_;refine ae @c_ ?_;refine VC.bz [1,7,8,9,10] (fun _:Unit=>[.ptr bb 0,.ptr (O.next+1) 0,.ptr (O1.next+1) 0,mi i,.ptr O8.next 0]) (fun _ O'=>O'=O9) ?_ ?_
  ·by_cases h0:i=0
   ·have h0':((i:Int)==0)=true:=by simpa using h0
    refine VC.ag aa (ao @c_ @h0' ?_);refine VC.N7 rfl ?_;refine VC.ag aa (ao @c_ @Wa ?_);refine VC.aB ?_;refine VC.bE [81] [1,7,8,9,10,79,80] (fun _:Nat=>[mi 0]) (fun _ O'=>O'=O9) (fun x=>x) (0) ?_ ?_
    ·rfl
    rintro _ eY qQ;rw[qQ];refine WC.sound aa (ae @c_ ?_);exact ay.mk () rfl
   ·have h0':((i:Int)==0)=false:=by simpa using h0
    refine WC.sound aa (ao @c_ @h0' ?_);exact ay.mk () rfl
  rintro _ eY qQ;rw[qQ];clear qQ eY;refine VC.ag aa (ao @c_ @Wa ?_)
  have hne:∀n∈D.map bY,ET n/\n.x.length<=1:=fun n hn=>by
   obtain⟨d,hd,rfl⟩:=List.mem_map.1 hn;exact abm (JD.d d hd)
  have yJ:(D.map bY).length<=40:=by rw[List.length_map];exact JD.n
  generalize D.map bY=L at*;clear Wa hp9 hM;refine VC.aB ?_;refine VC.bE [96] [1,7,8,9,94,95] (fun x:Nat×kZ×aC×aC=>[mi x.1]) (fun x O'=>x.1<=L.length/\x.2.1.1.length<=4096/\x.2.1.1[i]?=some b/\iq i b (L.drop x.1) x.1 x.2.1=iq i b L 0 S'/\rp O' (O1.next+1) k bb O1.next ⟨g1,g2,g3⟩ x.2.1 x.2.2.1 x.2.2.2 O.next/\CB O' U k bb md S/\O'.hp (O.next+1)=O5.hp (O.next+1)/\(∀y∈x.2.1.2,y.length<=1000000)/\O9.next<=O'.next/\∀j,¬U j->j<O.next->O'.hp j=O.hp j) (fun x=>L.length - x.1) ((0,S',t1,t2)) ?_ ?_
  ·exact⟨Nat.zero_le _,hl,hb,rfl,hT9,hC9,bn,hX6,Nat.le_refl _,hf9⟩
  rintro⟨j,S2,ta,tb⟩ eY ⟨hj,qi,LI,Nw,wW,Nt,HF,SB,Hd,BQ⟩;dsimp only at hj qi LI Nw wW SB ⊢;have hii:=(List.getElem?_eq_some_iff.1 LI).1;by_cases bm:j<L.length;rotate_left
  ·obtain rfl:j=L.length:=by omega
   rw[List.drop_length,iq]at Nw;rw[<-Nw]at mw;refine WC.sound aa (ae @c_ ?_);exact ay.mk (S2,ta,tb) ⟨hii,qi,mw,wW,Nt,HF,SB,by omega,BQ⟩
  have ew:((j:Int)+1)=((j+1:Nat):Int):=by omega
  have aeZ:=cV nf L j bm;obtain⟨fm,rL⟩:=hne _ (List.getElem_mem bm);rw[List.drop_eq_getElem_cons bm,iq]at Nw;generalize L[j]=n at*;have B9:=fun(O':VH) (u:eY.Ge O')=>adu (wW.ge u) (by have:=u.next;omega) LI j n fm SB qi
  have hinv:=fun S3 (h:pF S2 i b j n=some S3)=>QT h qi LI
  generalize pF S2 i b j n=R at*;obtain⟨⟨k1,k2,k3,k4⟩,v,s,o,x⟩:=n;dsimp only at rL;simp only[dy,jW,tu,aq,a_,List.cons_append,List.nil_append,List.length_nil,List.flatMap_nil]at aeZ B9;have ajO:=aX nf L;refine VC.ag aa (ae @c_ ?_);refine VC.ag aa (ae @c_ ?_);refine VC.bu (VC.aB ?_);refine VC.ag aa (ao @c_ @aeZ ?_);refine VC.al ?_;rintro nF ⟨mU,SC,YV⟩;refine VC.ag aa (ao @c_ @SC ?_);refine ah.rt (B9 nF mU) ?_;intro m Ci JE;have ajP:=cJ;cases R with
  | none=>
    dsimp only at JE Nw;rw[<-Nw]at mw;dsimp only at mw;injection mw with mw;subst mw;obtain⟨rfl,qd⟩:=JE;have abo:=(qd.hp _ (by have:=mU.next;omega)).trans (mU.at (HF.trans cJ));have agC:=mU.next;have My:=qd.next;simp only[mC,Nr,aq];refine ae @c_ ?_;refine VC.al ?_;rintro Gb ⟨Fh,SD,BH⟩;have aiS:=Fh.at abo;refine WC.sound aa (ao @c_ @SD ?_);refine VL.yI aa (bb:=true) (b:=false) (by simp) (by simp[gk]) (.inr ⟨rfl,rfl⟩) (by kernel_rfl) (by kernel_rfl) rfl rfl rfl rfl ?_;refine ae @c_ ?_;refine WC.bM .any [(1,.av),(0,.one),(2,.one)] ?_;refine aM @c_ @SD @aiS ?_
    exact⟨rfl,by show O.next<=Gb.next;omega,fun l h1 h2=>by
     rw[VH.ak _ _ (by omega),Fh.hp l (by omega),qd.hp l (by omega),mU.hp l (by omega)];exact BQ l h1 h2⟩
  | some S3=>
    dsimp only at JE Nw;obtain⟨rfl,ta',tb',Sv,My,ae0⟩:=JE;obtain⟨qs,bZ,ji⟩:=hinv S3 rfl;have agC:=mU.next;have fu:∀l,l<O.next->l≠O1.next+1/\aC.id ta≠some l/\aC.id tb≠some l:=fun l h1=>⟨by omega,fun e=>by have:=(App.pM wW.a1 e).1;omega,fun e=>by have:=(App.pM wW.a2 e).1;omega⟩
    have SE:∀l,l<O.next->Ci.hp l=eY.hp l:=fun l h1=>by
     obtain⟨u1,u2,u3⟩:=fu l h1;rw[ae0 l (by omega) u1 u2 u3,mU.hp l (by omega)]
    have cx:∀l,l<eY.next->eY.hp l≠some .tok->l≠O1.next+1->Ci.hp l=eY.hp l:=fun l h1 h2 h3=>by
     rw[ae0 l (by omega) h3 (fun e=>h2 (App.tok wW.a1 e)) (fun e=>h2 (App.tok wW.a2 e)),mU.hp l (by omega)]
    have abo:=(cx (O.next+1) (by omega) (by rw[HF,cJ];simp) (by omega)).trans (HF.trans cJ);simp only[mC,gn,aq];refine ae @c_ ?_;refine VC.al ?_;rintro Gb ⟨Fh,SD,BH⟩;refine WC.sound aa (ao @c_ @SD ?_);refine VL.yI aa (bb:=false) (b:=true) (by simp) (by simp[gk]) (.inr ⟨rfl,rfl⟩) (by kernel_rfl) (by kernel_rfl) rfl rfl rfl rfl ?_;refine ae @c_ ?_;refine WC.sound aa (ao @c_ @ew ?_);refine aD.next (j+1,S3,ta',tb') ⟨bm,qs,bZ,Nw,Sv.ge Fh,(Nt.mv (by omega) fun l hl=>SE l (hUl l hl)).ge Fh,?_,?_,by omega,fun l h1 h2=>?_⟩
    ·rw[Fh.hp _ (by omega),abo,cJ]
    ·intro y hy;rcases ji y hy with hy | rfl
     ·exact SB y hy
     ·exact Nat.le_trans rL (by decide)
    ·rw[Fh.hp l (by omega),SE l h2];exact BQ l h1 h2
 rintro⟨S',t1,t2⟩ O6 ⟨wA,rfl,gH,m5,JC⟩;have zJ:=wA.cell;simp only[bp,List.cons_append,List.nil_append]at zJ;rw[cJ]at gH;refine VC.ag aa (aM @c_ @zJ @gH ?_);refine WC.sound aa (ae @c_ ?_);exact⟨⟨t1,rfl⟩,by show O.next<=O6.next;omega,fun j h1 h2=>VH.sn (JC j h1 h2)⟩
def rowsOf (S:List (Gv×List Dp)):List (Gv×Bs×Option Pm):=S.map fun p=>(p.1,bQ (e_ (cR p.1 p.2)),none)
theorem adw {O:VH} {k ke kv ce cv:Nat} {L:List (Gv×Bs×Option Pm)} {E V:eS} {r a:Int} (h:ig O k L E V ke kv ce cv r a) {j:Nat} (hj:Own k ke kv E V j):j<O.next:=by
 have hl:=h.st.lt;rcases hj with rfl | rfl | rfl | ⟨i,c,p,hi⟩ | ⟨p,hp,n,cs,tk,e1,e2⟩
 ·exact hl.1
 ·exact hl.2.1
 ·exact hl.2.2
 ·have dK:=(List.getElem?_eq_some_iff.1 hi).1;rw[h.len]at dK;obtain⟨q,c',h1,h2,_⟩:=h.F9 i L[i].1 L[i].2.1 L[i].2.2 (List.getElem?_eq_getElem dK);rw[hi]at h1;injection h1 with h1;simp only[Prod.mk.injEq,MV.ptr.injEq]at h1;omega
 ·obtain⟨n',cs',tk',k1,k2,k3,k4,k5⟩:=h.Vy.row p hp;rw[e1]at k1;injection k1 with _ _ k1;subst k1;exact(App.pM k4 e2).2
theorem zY {O:VH} {k ke kv ce cv:Nat} {E V:eS} {rd at':Int} {S:List (Gv×List Dp)} (h:ig O k (rowsOf S) E V ke kv ce cv rd at') (hS:Plain S) (g:Gv) {r:Option (List Br)} (hr:qy (fj S) g=some r):
  VF Tryz.prog 26 [.ptr k 0,.agg (bp g)] O (aL fun m O'=>abl r g m/\O.next<=O'.next/\∀j,¬Own k ke kv E V j->j<O.next->O'.hp j=O.hp j):=by
 have hO:= @adw _ _ _ _ _ _ _ _ _ _ _ h;have hl:=h.st.lt
 have hcb:∀O2 bb md,O.Ge O2->O.next<=bb->O.next<=md->bb<O2.next->md<O2.next->O2.hp md=some (.map [] 0)->O2.hp bb=some (.cells [.ptr k 0,.map md])->CB O2 (fun j=>Own k ke kv E V j\/j=bb\/j=md) k bb md S:=fun O2 bb md u h1 h2 h3 h4 h5 h6=>by
  refine⟨⟨rowsOf S,E,V,ke,kv,ce,cv,rd,at',[],0,h.ge u,⟨h6,h5,AR 3,h3,h4⟩,by simp[rowsOf],fun i g D hi=>⟨none,by simp[rowsOf,hi],.inl ⟨rfl,rfl⟩⟩,⟨by omega,by omega⟩,fun j hj=>.inl hj⟩,fun j hj=>?_,.inr (.inl rfl),.inr (.inr rfl)⟩;rcases hj with hj | rfl | rfl
  ·have:=hO hj;have:=u.next;omega
  ·exact h3
  ·exact h4
 obtain⟨g1,g2,g3⟩:=g;simp only[bp];refine VF.bX 13 [.tmp 4,.cell 5 36] Tryz.func26 ?_;refine VC.ag aa (ae @c_ ?_);refine VC.gen ?_;intro O1 e1;obtain⟨aT,dd,di,cg⟩:=gI _ _ e1;clear e1;refine VC.bu ?_;refine VC.r5 [8] (fun O'=>O'.hp O.next=some (.cells [.str g1,.str g2,.str g3])/\O.next+2<=O'.next) (⟨di,by omega⟩) ?_;refine ab.av 0 ?_;refine ae @c_ ?_;refine ab.av 1 ?_;refine ae @c_ ?_;refine ab.lp (m:=.agg [.str g1,.str g2,.str g3]) 3 ?_ ?_
 ·rintro O2 ⟨j0,j1⟩;exact dz @c_ @j0
 simp only[aj];refine ab.call (i:=2) (ac_ k O1) ?_;rintro _ O2 ⟨rfl,az,hm2,b9,iK⟩;simp only[aj];have iY:=az.at di;have fc:=az.at cg;refine⟨⟨iY,by omega⟩,?_⟩;refine ab.call (i:=4) (adv (hcb O2 (O1.next+1) O1.next (aT.trans az) (by omega) (by omega) (by omega) (by omega) hm2 b9) hS ⟨g1,g2,g3⟩ hr) ?_;rintro m O3 ⟨hm,gW,DJ⟩;simp only[aj]
 have hU:∀j,j<O1.next->¬Own k ke kv E V j->¬(Own k ke kv E V j\/j=O1.next+1\/j=O1.next):=fun j h1 h2 h3=>by
  rcases h3 with h3 | h3 | h3
  ·exact h2 h3
  ·omega
  ·omega
 have fm:∀j,O.next<=j->¬Own k ke kv E V j:=fun j h1 h2=>by have:=hO h2;omega
 have tf:=(DJ O.next (hU _ (by omega) (fm _ (Nat.le_refl _))) (by omega)).trans iY;have gy:=(DJ (O.next+1) (hU _ (by omega) (fm _ (by omega))) (by omega)).trans fc;refine⟨⟨tf,by omega⟩,?_⟩
 have nC:∀X j,¬Own k ke kv E V j->j<O.next->(O3.set (O.next+1) X).hp j=O.hp j:=fun X j h1 h2=>by
  rw[VH.ak _ _ (by omega),DJ j (hU j (by omega) h1) (by omega),az.hp j (by omega),aT.hp j h2]
 cases r with
 | none=>
   obtain rfl:=hm;simp only[mC,Nr,aq];refine ab.av 5 ?_;refine ae @c_ ?_;refine ab.av 6 ?_;refine ae @c_ ?_;refine ab.av 7 ?_;refine ae @c_ ?_;refine ab.bM [(8,.one)] ?_;refine ao @c_ @gy ?_;refine WC.sound aa (ae @c_ ?_);exact⟨rfl,by show O.next<=O3.next;omega,nC _⟩
 | some N=>
   obtain⟨t,rfl⟩:=hm;simp only[mC,gn,aq];refine ab.av 5 ?_;refine ae @c_ ?_;refine ab.av 6 ?_;refine ae @c_ ?_;refine ab.av 7 ?_;refine ae @c_ ?_;refine ab.bM [(8,.one)] ?_;refine ao @c_ @gy ?_;refine WC.sound aa (ae @c_ ?_);exact⟨⟨t,rfl⟩,by show O.next<=O3.next;omega,nC _⟩
set_option linter.defProp false in
def dQ:=And.intro c_<|And.intro Li<|And.intro uo<|And.intro xk<|And.intro Ao<|And.intro sJ RB
mutual
theorem abp:∀x:Nd,pC x->(bQ x).length<=1000000->zf x
 | .mk n a k t,h,hl=>by
   rw[pC]at h;obtain⟨hn,rfl,rfl,hk,h⟩:=h;rw[iR hn.ne hk]at hl
   have v8:rW k/\k.length<=1000000:=by
    rcases h with⟨s,hs,rfl⟩ | h
    ·rw[i_,bQ,if_pos rfl,EJ hs.all]at hl;refine⟨?_,by simp⟩;simp only[rW,zf];exact⟨⟨by simp,by omega,by simp,by simp,by simp,trivial⟩,trivial⟩
    ·obtain⟨h1,h2⟩:=SF k h (by omega);exact⟨h1,by omega⟩
   rw[zf];exact⟨by omega,by simp,by simp,by simp,v8.2,v8.1⟩
theorem SF:∀K:List Nd,wT K->(aP K).length<=1000000->rW K/\K.length<=(aP K).length
 | [],_,_=>by rw[rW];exact⟨trivial,by simp⟩
 | x::K,h,hl=>by
   rw[wT]at h;rw[aP,List.length_append]at hl ⊢;have h1:=abp x h.1 (by omega);have h2:=SF K h.2 (by omega)
   have h3:1<=(bQ x).length:=by
    obtain⟨n,a,k,t⟩:=x;have hx:=h.1;rw[pC]at hx;obtain⟨hn,rfl,rfl,hk,_⟩:=hx;rw[iR hn.ne hk];omega
   rw[rW,List.length_cons];exact⟨⟨h1,h2.1⟩,by omega⟩
end
theorem Wj {g:Gv} {D:List Dp} (h:VP (cR g D)):wT (dZ g D):=by
 refine lN fun x hx=>?_
 unfold dZ at hx;rcases List.mem_append.1 hx with hx | hx
 ·simp only[List.mem_cons,List.not_mem_nil,or_false]at hx;rcases hx with rfl | rfl | rfl
  ·exact sj Cv h.g
  ·exact sj Cw h.a
  ·exact sj Ji h.v
 ·by_cases e:D=[]
  ·rw[if_pos e]at hx;cases hx
  ·rw[if_neg e,List.mem_singleton]at hx;rw[hx,pC]
   exact⟨Cj _ (by decide) (by decide),rfl,rfl,fun e2=>e (List.map_eq_nil_iff.1 e2),.inr (lN fun y hy=>by
    obtain⟨d,hd,rfl⟩:=List.mem_map.1 hy;exact(HK (h.dL d hd)).1)⟩
theorem Calm.nd {g:Gv} {D:List Dp} (h:Calm g D):zf (e_ (cR g D)):=by
 have ht:=h.text;have he:=si h.w;rw[he]at ht ⊢;refine abp _ ?_ (Nat.le_trans ht (by decide));rw[pC];exact⟨Cj _ (by decide) (by decide),rfl,rfl,by unfold dZ;simp,.inr (Wj h.w)⟩
theorem zZ (a v:Bs) (s:Int) (O:VH):VF Tryz.prog 24 [.str a,.str v,mi s] O (aL fun m O'=>m= .agg (aF (fq a v s))/\O.Ge O'):=by
 refine VF.fg ?_;simp only[fq,gS,aF,aq,List.length_nil,List.flatMap_nil];refine VF.bX 11 [.cell 6 65] Tryz.func24 ?_;refine VC.ag aa (ae @dQ ?_);refine VC.ag aa (ae @dQ ?_);refine WC.sound aa (ae @dQ ?_);exact((VH.Ge.refl O).push _).set (Nat.le_refl _) _
theorem z6 (O:VH):VF Tryz.prog 27 [] O (aL fun m O'=>m= .agg (bp ⟨gS,[97],v1⟩)/\O.Ge O'):=by
 simp only[gS,v1,bp];refine VF.bX 2 [.cell 0 24] Tryz.func27 ?_;refine VC.ag aa (ae @dQ ?_);refine VC.ag aa (ae @dQ ?_);refine WC.sound aa (ae @dQ ?_);exact((VH.Ge.refl O).push _).set (Nat.le_refl _) _
theorem agD {O:VH} {k ke kv ce cv:Nat} {E V:eS} {r a:Int} {S:List (Gv×List Dp)} (h:ig O k (rowsOf S) E V ke kv ce cv r a) (n:Bs) (D:List Dp) (tk:aC) (hc:Calm ⟨gS,n,v1⟩ D) (fm:∀p∈S,p.1≠⟨gS,n,v1⟩) (hS:S.length<1024):
  VF Tryz.prog 25 [.ptr k 0,.str n,.str v1,.sl D.length (D.flatMap aF) tk] O (aL fun m O'=>m=mb true/\(∃E' V' Qf Qg,ig O' k (rowsOf (S++[(⟨gS,n,v1⟩,D)])) E' V' ke kv Qf Qg r a)/\O.next<=O'.next/\∀i cs,i<O.next->O.hp i=some (.cells cs)->O'.hp i=some (.cells cs)):=by
 have hw:=fun O'=>YU (O:=O') (cR ⟨gS,n,v1⟩ D) (by simp[cR]) (by simp[cR]) (by show D.length<=_;have:=hc.n;omega) (fun d hd=>by
  simp only[cR,List.nil_append]at hd;have:=(hc.d d hd).xl;omega)
 have hp:=fun O'=>UO (e_ (cR ⟨gS,n,v1⟩ D)) O' (Nat.le_trans hc.text (by decide)) hc.nd
 have ae1:=fun(O':VH) (u:O.Ge O')=>aga (h.ge u) ⟨gS,n,v1⟩ (bQ (e_ (cR ⟨gS,n,v1⟩ D))) hc.may hc.gav (fun x hx=>by
  obtain⟨p,hp,rfl⟩:=List.mem_map.1 hx;exact fm p hp) (by simp[rowsOf];exact hS)
 have cx:rowsOf (S++[(⟨gS,n,v1⟩,D)])=rowsOf S++[(⟨gS,n,v1⟩,bQ (e_ (cR ⟨gS,n,v1⟩ D)),none)]:=by simp[rowsOf]
 rw[cx];generalize bQ (e_ (cR ⟨gS,n,v1⟩ D))=T at*;generalize e_ (cR ⟨gS,n,v1⟩ D)=X at*;simp only[cR,fI,bp,gS,v1,aq,a_,List.length_nil,List.flatMap_nil]at hw ae1 ⊢;refine VF.bX 23 [.tmp 8] Tryz.func25 ?_;refine VC.ag aa (ae @dQ ?_);refine VC.ag aa (ae @dQ ?_);refine VC.al ?_;rintro O1 ⟨aT,fB,dd⟩;refine VC.Ms fB (cs':=[.v (.bool false),.str [],.str [],.str [],.str [103],.str n,.str [49],.str [],.sl 0 [] .ar,.sl 0 [] .ar,.sl D.length (D.flatMap aF) .ar]) ?_ ?_
 ·repeat' first
   | exact dR.refl _
   | exact Wk.refl _
   | exact Wk.tok
   | refine dR.cons ?_ ?_
 refine VC.gen ?_;intro O2 e2;have jL:O2.hp O.next=some (.cells [.v (.bool false),.str [],.str [],.str [],.str [103],.str n,.str [49],.str [],.sl 0 [] .ar,.sl 0 [] .ar,.sl D.length (D.flatMap aF) .ar]):=by rw[e2];exact VH.an _ _ _
 have az:O.Ge O2:=by rw[e2];exact aT.set (Nat.le_refl _) _
 clear e2;refine VC.ag aa (ao @dQ @jL ?_);refine ah.rt (hw O2) ?_;rintro _ O3 ⟨rfl,aR⟩;refine ae @dQ ?_;refine ah.rt (hp O3) ?_;rintro _ O4 ⟨rfl,bj⟩;refine ae @dQ ?_;have gD:=(az.trans aR).trans bj;refine ah.rt (ae1 O4 gD) ?_;rintro _ O5 ⟨rfl,ez,gf,hf5⟩;have ic:=gD.next;refine ae @dQ ?_;refine WC.sound aa (ae @dQ ?_);exact⟨ez,by omega,fun i cs h1 h2=>hf5 i cs (by omega) ((gD.hp i h1).trans h2)⟩
theorem JF {O:VH} {k ke kv ce cv:Nat} {L:List (Gv×Bs×Option Pm)} {E V:eS} {r a:Int} (h:ig O k L E V ke kv ce cv r a) {j:Nat} {cs:List MV} (hj:O.hp j=some (.cells cs)) (h4:cs.length≠4) (h23:cs.length≠23):¬Own k ke kv E V j:=by
 rintro(rfl | rfl | rfl | ⟨i,c,p,hi⟩ | ⟨p,hp,n,xs,tk,e1,e2⟩)
 ·rw[h.st.cell]at hj;injection hj with hj;injection hj with hj
  subst hj;exact h4 rfl
 ·rw[h.st.zA]at hj;cases hj
 ·rw[h.st.Er]at hj;cases hj
 ·have dK:=(List.getElem?_eq_some_iff.1 hi).1;rw[h.len]at dK;obtain⟨q,c',h1,h2,h3⟩:=h.F9 i L[i].1 L[i].2.1 L[i].2.2 (List.getElem?_eq_getElem dK);rw[hi]at h1;injection h1 with h1;simp only[Prod.mk.injEq,MV.ptr.injEq]at h1;obtain⟨_,⟨rfl,_⟩,_⟩:=h1;rw[h3]at hj;injection hj with hj;injection hj with hj
  subst hj;apply h23;cases L[i].2.2<;>rfl
 ·obtain⟨n',cs',tk',k1,k2,k3,k4,k5⟩:=h.Vy.row p hp;rw[e1]at k1;injection k1 with _ _ k1;subst k1;have:=App.tok k4 e2;rw[this]at hj;cases hj
theorem SG (c:UInt8) (h:jv c=true) (h2:c≠36):pQ [c]:=nmi (by simp[h]) (by simp) (by simpa using h2)
theorem sr {n:Bs} {s:Int} (hn:pQ n) (hs:s=0\/s=1\/s=2\/s=3\/s=4\/s=5):Gk (fq n v1 s):=⟨rfl,hn,rfl,rfl,rfl,hs,.inl rfl,by simp[fq],by simp[fq]⟩
def gA:Gv:=⟨gS,[97],v1⟩
def Wl:Dp:=⟨gS,[98],v1,[],[],0,0,[⟨[42],[99]⟩]⟩
def Nx:List (Gv×List Dp):=[(gA,[fq [98] v1 0]),(⟨gS,[98],v1⟩,[fq [99] v1 2,fq [100] v1 5]),(⟨gS,[99],v1⟩,[])]
def Ny:List (Gv×List Dp):=[(gA,[Wl]),(⟨gS,[98],v1⟩,[fq [99] v1 2])]
def Fi:List Br:=[⟨-1,0,0,⟨gS,[97],fM,[]⟩,v1,0,false⟩,⟨0,1,0,⟨gS,[98],fM,[]⟩,v1,1,false⟩,⟨1,2,0,⟨gS,[99],fM,[]⟩,v1,2,false⟩]
def ae2:List Br:=[⟨-1,0,0,⟨gS,[97],fM,[]⟩,v1,0,false⟩,⟨0,1,0,⟨gS,[98],fM,[]⟩,v1,1,false⟩]
theorem aiT:qy (fj Nx) gA=some (some Fi):=by kernel_rfl
theorem aiU:qy (fj Ny) gA=some (some ae2):=by kernel_rfl
theorem Fj:pQ [97]:=SG _ (by decide) (by decide)
theorem AU:pQ [98]:=SG _ (by decide) (by decide)
theorem AV:pQ [99]:=SG _ (by decide) (by decide)
theorem agE:pQ [100]:=SG _ (by decide) (by decide)
theorem adx:Gk Wl:=⟨rfl,AU,rfl,rfl,rfl,.inl rfl,.inl rfl,by simp[Wl,AV],by simp[Wl]⟩
theorem Nz:Calm gA [fq [98] v1 0]:=⟨rfl,Fj,rfl,by simp[sr AU],by simp,by simp⟩
theorem NA:Calm ⟨gS,[98],v1⟩ [fq [99] v1 2,fq [100] v1 5]:=⟨rfl,AU,rfl,by simp[sr AV,sr agE],by simp[fq],by simp⟩
theorem z7:Calm ⟨gS,[99],v1⟩ []:=⟨rfl,AV,rfl,by simp,by simp,by simp⟩
theorem NB:Calm gA [Wl]:=⟨rfl,Fj,rfl,by simp[adx],by simp,by simp⟩
theorem NC:Calm ⟨gS,[98],v1⟩ [fq [99] v1 2]:=⟨rfl,AU,rfl,by simp[sr AV],by simp,by simp⟩
theorem ady:Plain Nx:=⟨by simp[Nx,Nz,NA,z7],by simp[Nx,gA]⟩
theorem adz:Plain Ny:=⟨by simp[Ny,NB,NC],by simp[Ny,gA]⟩
theorem mJ {O:VH} {k ke kv ce cv:Nat} {E V:eS} {r a:Int} {S:List (Gv×List Dp)} (h:ig O k (rowsOf S) E V ke kv ce cv r a) {n:Bs} {D:List Dp} {tk:aC} {ds:List MV} {l:Nat} (oN:ds=D.flatMap aF) (hl:l=D.length) (hc:Calm ⟨gS,n,v1⟩ D) (fm:∀p∈S,p.1≠⟨gS,n,v1⟩) (hS:S.length<1024):
  VF Tryz.prog 25 [.ptr k 0,.str n,.str [49],.sl l ds tk] O (aL fun m O'=>m=mb true/\(∃E' V' Qf Qg,ig O' k (rowsOf (S++[(⟨gS,n,v1⟩,D)])) E' V' ke kv Qf Qg r a)/\O.next<=O'.next/\∀i cs,i<O.next->O.hp i=some (.cells cs)->O'.hp i=some (.cells cs)):=by
 subst oN;subst hl
 exact agD h n D tk hc fm hS
set_option maxHeartbeats 4000000 in
theorem lB (O:VH):VF Tryz.prog 16 [] O (aL fun m O'=>m=mb true):=by
 refine VF.bX 106 [.tmp 0] Tryz.func16 ?_;refine VC.ag aa (ae @dQ ?_);refine VC.ag aa (ae @dQ ?_);refine ah.rt (zK O) ?_;rintro _ O1 ⟨rfl,nZ,aT⟩;have zX:=nZ.st.lt;generalize O.next=k0 at*;refine ae @dQ ?_;refine VC.ag aa (ae @dQ ?_);have kC:=zZ [98] [49] 0 O1;simp only[fq,aF,aq,gS,List.length_nil,List.flatMap_nil]at kC;refine ah.rt kC ?_;rintro _ O2 ⟨rfl,az⟩;refine ae @dQ ?_;refine VC.al ?_;rintro O3 ⟨aR,ji,gW⟩;have IY:ig O3 (k0+2) (rowsOf []) [] [] k0 (k0+1) 0 0 0 0:=nZ.ge (az.trans aR);have iK:=az.next;refine VC.ag aa (ao @dQ @ji ?_);refine ah.rt (mJ (IY) (n:=[97]) (D:=[fq [98] v1 0]) rfl rfl (Nz) (by decide) (by decide)) ?_;rintro _ O4 ⟨rfl,⟨E4,V4,ce4,cv4,tn⟩,nO4,hf4⟩;refine ae @dQ ?_;have kC:=zZ [99] [49] 2 O4;simp only[fq,aF,aq,gS,List.length_nil,List.flatMap_nil]at kC;refine ah.rt kC ?_;clear kC;rintro _ O5 ⟨rfl,bG⟩;have nO5:=(bG).next;refine ae @dQ ?_;have kC:=zZ [100] [49] 5 O5;simp only[fq,aF,aq,gS,List.length_nil,List.flatMap_nil]at kC;refine ah.rt kC ?_;clear kC;rintro _ O6 ⟨rfl,fO⟩;have nO6:=(fO).next;refine ae @dQ ?_;refine ah.rt (mJ (tn.ge (bG.trans fO)) (n:=[98]) (D:=[fq [99] v1 2,fq [100] v1 5]) rfl rfl (NA) (by decide) (by decide)) ?_;rintro _ O7 ⟨rfl,⟨E7,V7,ce7,cv7,hs7⟩,nO7,hf7⟩;refine ae @dQ ?_;refine ah.rt (mJ (hs7) (n:=[99]) (D:=[]) rfl rfl (z7) (by decide) (by decide)) ?_;rintro _ O8 ⟨rfl,⟨E8,V8,ce8,cv8,F8⟩,nO8,hf8⟩;refine ae @dQ ?_;have F7:=hf8 _ _ (by omega) (hf7 _ _ (by omega) ((bG.trans fO).at (hf4 _ _ (by omega) ji)));have HQ:ig O8 (k0+2) (rowsOf Nx) E8 V8 k0 (k0+1) ce8 cv8 0 0:=F8;clear nZ IY tn hs7 F8 ji hf4 hf7 hf8;refine VC.ag aa (ae @dQ ?_);have jA:=z6 O8;simp only[bp,gS,v1]at jA;refine ah.rt jA ?_;rintro _ O9 ⟨rfl,aY⟩;have n9:=aY.next;refine ae @dQ ?_;have n4:=zY (HQ.ge aY) ady gA aiT;simp only[bp,gA,gS,v1]at n4;refine ah.rt n4 ?_;rintro _ eY ⟨⟨tk1,rfl⟩,n10,BQ⟩;have Sg:=(BQ _ (JF (HQ.ge aY) (aY.at F7) (by decide) (by decide)) (by omega)).trans (aY.at F7);simp only[mC,gn,aq];refine ae @dQ ?_;refine VC.al ?_;rintro nF ⟨mU,ae3,YV⟩;have SC:=mU.at Sg;clear F7 HQ n4 jA BQ Sg;refine VC.ag aa (ae @dQ ?_);refine ah.rt (zK nF) ?_;rintro _ Ci ⟨rfl,SH,qd⟩;have ajQ:=SH.st.lt;have HL:=qd.at SC;have ae4:=qd.at ae3;have ajR:O2.next<nF.next/\eY.next<nF.next:=⟨by omega,by omega⟩;have n12:=qd.next;generalize nF.next=k1 at*;refine ae @dQ ?_;refine VC.ag aa (ao @dQ @HL ?_);refine VC.gen ?_;intro Gb DV;have ae5:Gb.hp O2.next=some (.cells [.str [103],.str [98],.str [49],.str [],.str [],.v (.int .i64 0),.v (.int .i64 0),.sl 1 [.str [42],.str [99]] .full]):=by rw[DV];exact VH.an _ _ _
 have ae6:∀j,j≠O2.next->Gb.hp j=Ci.hp j:=fun j hj=>by rw[DV];exact VH.ak _ _ hj
 have BH:Gb.next=Ci.next:=by rw[DV];rfl
 clear DV;refine VC.Ms ae5 (cs':=[.str [103],.str [98],.str [49],.str [],.str [],.v (.int .i64 0),.v (.int .i64 0),.sl 1 [.str [42],.str [99]] .ar]) ?_ ?_
 ·repeat' first
   | exact dR.refl _
   | exact Wk.refl _
   | exact Wk.tok
   | refine dR.cons ?_ ?_
 refine VC.gen ?_;intro QO e14;have ae7:QO.hp O2.next=some (.cells [.str [103],.str [98],.str [49],.str [],.str [],.v (.int .i64 0),.v (.int .i64 0),.sl 1 [.str [42],.str [99]] .ar]):=by rw[e14];exact VH.an _ _ _
 have Np:∀j,j≠O2.next->QO.hp j=Ci.hp j:=fun j hj=>by rw[e14,VH.ak _ _ hj];exact ae6 j hj
 have aba:QO.next=Ci.next:=by rw[e14];exact BH
 have ae8:ig QO (k1+2) (rowsOf []) [] [] k1 (k1+1) 0 0 0 0:=SH.mv (U:=Own (k1+2) k1 (k1+1) [] []) (fun j h=>h) (by omega) fun j hj=>Np j fun e=>JF SH HL (by decide) (by decide) (e▸hj)
 have ND:=(Np _ (by omega)).trans ae4;clear e14 ae5 ae6 BH HL SH ae4 SC ae3 Np;refine VC.ag aa (ao @dQ @ae7 ?_);refine ah.rt (mJ (ae8) (n:=[97]) (D:=[Wl]) rfl rfl (NB) (by decide) (by decide)) ?_;rintro _ O15 ⟨rfl,⟨E15,V15,ajS,ajT,ae9⟩,ajU,ae_⟩;refine ae @dQ ?_;have kC:=zZ [99] [49] 2 O15;simp only[fq,aF,aq,gS,List.length_nil,List.flatMap_nil]at kC;refine ah.rt kC ?_;clear kC;rintro _ Nq ⟨rfl,abq⟩;have ajV:=(abq).next;refine ae @dQ ?_;refine ah.rt (mJ (ae9.ge abq) (n:=[98]) (D:=[fq [99] v1 2]) rfl rfl (NC) (by decide) (by decide)) ?_;rintro _ O17 ⟨rfl,⟨E17,V17,aiV,aiW,afa⟩,ajW,afb⟩;refine ae @dQ ?_;have abr:=afb _ _ (by omega) (abq.at (ae_ _ _ (by omega) ND));have QU:ig O17 (k1+2) (rowsOf Ny) E17 V17 k1 (k1+1) aiV aiW 0 0:=afa;clear ae8 ae9 afa ae7 ae_ afb ND;refine VC.ag aa (ae @dQ ?_);have jA:=z6 O17;simp only[bp,gS,v1]at jA;refine ah.rt jA ?_;rintro _ O18 ⟨rfl,NG⟩;have n18:=NG.next;refine ae @dQ ?_;have n4:=zY (QU.ge NG) adz gA aiU;simp only[bp,gA,gS,v1]at n4;refine ah.rt n4 ?_;rintro _ JA ⟨⟨tk2,rfl⟩,n19,afc⟩;have afd:=(afc _ (JF (QU.ge NG) (NG.at abr) (by decide) (by decide)) (by omega)).trans (NG.at abr);simp only[mC,gn,aq];refine ae @dQ ?_;refine VC.al ?_;rintro QP ⟨aiX,aiY,aiI⟩;have aiZ:=aiX.at afd;clear abr QU n4 jA afc afd;have c1:(Fi.flatMap k7)[24]?=some (.v (.int .i64 1)):=rfl;have c2:(Fi.flatMap k7)[30]?=some (.str [99]):=rfl;have c3:(Fi.flatMap k7)[37]?=some (.v (.int .i64 2)):=rfl;have c4:(Fi.flatMap k7)[26]?=some (.v (.int .i64 1)):=rfl;have c5:Fi.length=3:=rfl;have c6:ae2.length=2:=rfl;generalize Fi.flatMap k7=C1 at*;rw[c5,c6];refine VC.ag aa (ao @dQ @aiZ ?_);refine VL.yI aa (bb:=true) (b:=true) (by simp) (by simp[gk]) (.inl ⟨rfl,rfl⟩) (by kernel_rfl) (by kernel_rfl) rfl rfl rfl rfl ?_;refine ao @dQ @aiY ?_;refine VL.yI aa (bb:=true) (b:=true) (by simp) (by simp[gk]) (.inl ⟨rfl,rfl⟩) (by kernel_rfl) (by kernel_rfl) rfl rfl rfl rfl ?_;refine FV @dQ @c1 @c2 @c3 @c4 (show(([99]:List UInt8)==[99])=true from rfl) ?_;refine WC.sound aa (ae @dQ ?_);try trivial
set_option linter.defProp false in
def ef:=And.intro dQ<|And.intro T72<|And.intro T73<|And.intro T77<|And.intro ag3<|And.intro B1 IC
set_option maxHeartbeats 4000000 in
theorem adA (o i:Int) (O:VH) (ho:o=1\/o=2\/o=3\/o=4\/o=5) (hi:i=1\/i=2\/i=3\/i=4\/i=5):VF Tryz.prog 21 [mi o,mi i] O (aL fun m O'=>m=mi (sL o i)/\O'=O):=by
 simp only[aq];have h1:¬o<0:=by omega
 have h2:¬o>6:=by omega
 have h3:¬i<0:=by omega
 have h4:¬i>6:=by omega
 refine VF.bX 35 [.tmp 4] Tryz.func21 ?_;refine VC.ag aa (ae @ef ?_);refine VC.ag aa (FV @ef @h1 @h2 @h3 @h4 @decide_false ?_);refine VC.ag aa (ae @ef ?_);clear h1 h2 h3 h4;rcases ho with rfl | rfl | rfl | rfl | rfl<;>rcases hi with rfl | rfl | rfl | rfl | rfl
 all_goals
  refine ae @ef ?_;refine WC.sound aa (ae @ef ?_);rfl
def rA (s:Int) (o e:Bool):Dp:=⟨gS,[98],v1,[],[],s,if o then 1 else 0,if e then[⟨gS,[99]⟩]else[]⟩
def Fk (s:Int) (o:Bool):Dp:=⟨gS,[99],v1,[],[],s,if o then 1 else 0,[]⟩
def ctS (s i:Int) (o e:Bool):List (Gv×List Dp):=[(gA,[rA s o e]),(⟨gS,[98],v1⟩,[Fk i o]),(⟨gS,[99],v1⟩,[])]
def z8 (s i:Int) (o e:Bool):List Br:=[⟨-1,0,0,⟨gS,[97],fM,[]⟩,v1,0,false⟩,⟨0,1,0,⟨gS,[98],fM,[]⟩,v1,s,false⟩]++if o||e||sL s i==0 then[]else[⟨1,2,0,⟨gS,[99],fM,[]⟩,v1,sL s i,false⟩]
theorem ai0 (s i:Int) (o e:Bool) (hs:s=1\/s=2\/s=3\/s=4\/s=5) (hi:i=1\/i=2\/i=3\/i=4\/i=5):qy (fj (ctS s i o e)) gA=some (some (z8 s i o e)):=by
 rcases hs with rfl | rfl | rfl | rfl | rfl<;>rcases hi with rfl | rfl | rfl | rfl | rfl<;>cases o<;>cases e<;>kernel_rfl
theorem s5 {s:Int} (hs:s=1\/s=2\/s=3\/s=4\/s=5):s=0\/s=1\/s=2\/s=3\/s=4\/s=5:=.inr hs
theorem Wm {s:Int} (o e:Bool) (hs:s=1\/s=2\/s=3\/s=4\/s=5):Gk (rA s o e):=⟨rfl,AU,rfl,rfl,rfl,s5 hs,by cases o<;>simp[rA],by cases e<;>simp[rA,AV,xO],by cases e<;>simp[rA]⟩
theorem Wn {s:Int} (o:Bool) (hs:s=1\/s=2\/s=3\/s=4\/s=5):Gk (Fk s o):=⟨rfl,AV,rfl,rfl,rfl,s5 hs,by cases o<;>simp[Fk],by simp[Fk],by simp[Fk]⟩
theorem Fm {s:Int} (o e:Bool) (hs:s=1\/s=2\/s=3\/s=4\/s=5):Calm gA [rA s o e]:=⟨rfl,Fj,rfl,by simp[Wm o e hs],by simp,by simp⟩
theorem Fo {s:Int} (o:Bool) (hs:s=1\/s=2\/s=3\/s=4\/s=5):Calm ⟨gS,[98],v1⟩ [Fk s o]:=⟨rfl,AU,rfl,by simp[Wn o hs],by simp,by simp⟩
theorem QV {s i:Int} (o e:Bool) (hs:s=1\/s=2\/s=3\/s=4\/s=5) (hi:i=1\/i=2\/i=3\/i=4\/i=5):Plain (ctS s i o e):=⟨by simp[ctS,Fm o e hs,Fo o hi,z7],by simp[ctS,gA]⟩
theorem abt (a:Int):IntKind.i64.wrap (1+IntKind.i64.wrap ((IntKind.u64.wrap a).tmod 5))=1\/IntKind.i64.wrap (1+IntKind.i64.wrap ((IntKind.u64.wrap a).tmod 5))=2\/IntKind.i64.wrap (1+IntKind.i64.wrap ((IntKind.u64.wrap a).tmod 5))=3\/IntKind.i64.wrap (1+IntKind.i64.wrap ((IntKind.u64.wrap a).tmod 5))=4\/IntKind.i64.wrap (1+IntKind.i64.wrap ((IntKind.u64.wrap a).tmod 5))=5:=by
 have h0:0<=IntKind.u64.wrap a:=by simp[IntKind.wrap,IntKind.signed,IntKind.bits];omega
 have h1:=Int.tmod_nonneg 5 h0;have h2:=Int.tmod_lt_of_pos (IntKind.u64.wrap a) (b:=5) (by decide);generalize (IntKind.u64.wrap a).tmod 5=t at*;have e1:IntKind.i64.wrap t=t:=by simp[IntKind.wrap,IntKind.signed,IntKind.bits];omega
 have e2:IntKind.i64.wrap (1+t)=1+t:=by simp[IntKind.wrap,IntKind.signed,IntKind.bits];omega
 rw[e1,e2];omega
set_option maxHeartbeats 4000000 in
theorem agF (a b:Int) (o e:Bool) (O:VH) (ha: -9223372036854775808<=a/\a<=9223372036854775807) (hb: -9223372036854775808<=b/\b<=9223372036854775807):VF Tryz.prog 6 [.agg [mi a,mi b],mb o,mb e] O (aL fun m O'=>m=mb true):=by
 simp only[aq,a_];refine VF.bX 111 [.tmp 6] Tryz.func6 ?_;refine VC.ag aa (ae @ef ?_);refine VC.bx ?_;rintro O1 ⟨aT,fB,dd⟩;refine VC.bu ?_;refine WC.reads ?_;refine ao @ef @fB ?_;refine VC.ag aa (ae @ef ?_);have hs:=abt a;have hi:=abt b;generalize IntKind.i64.wrap (1+IntKind.i64.wrap ((IntKind.u64.wrap a).tmod 5))=s at*;generalize IntKind.i64.wrap (1+IntKind.i64.wrap ((IntKind.u64.wrap b).tmod 5))=i at*;refine VC.ag aa (ae @dQ ?_);have kC:=zZ [98] [49] s O1;simp only[fq,aF,aq,gS,List.length_nil,List.flatMap_nil]at kC;refine ah.rt kC ?_;clear kC;rintro _ O2 ⟨rfl,az⟩;have nO2:=(az).next;refine ae @dQ ?_;have kC:=zZ [99] [49] i O2;simp only[fq,aF,aq,gS,List.length_nil,List.flatMap_nil]at kC;refine ah.rt kC ?_;clear kC;rintro _ O3 ⟨rfl,aR⟩;have nO3:=(aR).next;refine ae @dQ ?_;refine VC.gen ?_;intro O4 e4;have cC:O4.hp O3.next=some (.cells [.str [103],.str [98],.str [49],.str [],.str [],.v (.int .i64 s),.v (.int .i64 0),.sl 0 [] .ar]):=by rw[e4,VH.ak _ _ (by omega)];exact VH.an _ _ _
 have fh:O4.hp (O3.next+1)=some (.cells [.str [103],.str [99],.str [49],.str [],.str [],.v (.int .i64 i),.v (.int .i64 0),.sl 0 [] .ar]):=by rw[e4];exact VH.an _ _ _
 have ic:O4.next=O3.next+2:=by rw[e4];rfl
 clear e4 fB az aR nO2 nO3 aT dd;generalize O3.next=k at*;clear O1 O2 O3;refine VC.bz [1,2,6,7,8,9,10] (fun _:Unit=>[.v (.bool o),.v (.bool e),.v (.bool false),.v (.int .i64 s),.v (.int .i64 i),.ptr k 0,.ptr (k+1) 0]) (fun _ O'=>O'.hp k=some (.cells [.str [103],.str [98],.str [49],.str [],.str [],.v (.int .i64 s),.v (.int .i64 (if o then 1 else 0)),.sl 0 [] .ar])/\O'.hp (k+1)=some (.cells [.str [103],.str [99],.str [49],.str [],.str [],.v (.int .i64 i),.v (.int .i64 (if o then 1 else 0)),.sl 0 [] .ar])/\O'.next=k+2) ?_ ?_
 ·cases o
  ·refine VC.ag aa (ae @ef ?_);refine WC.sound aa (ae @ef ?_);exact ay.mk () ⟨cC,fh,ic⟩
  ·refine VC.ag aa (ae @ef ?_);refine WC.sound aa (aM @ef @cC @fh ?_);exact ay.mk () ⟨VH.an _ _ _,VH.sn (VH.an _ _ _),ic⟩
 clear cC fh ic O4;rintro _ O5 ⟨cJ,fi,gf⟩;refine VC.bz [1,2,6,7,8,9,10] (fun _:aC=>[.v (.bool o),.v (.bool e),.v (.bool false),.v (.int .i64 s),.v (.int .i64 i),.ptr k 0,.ptr (k+1) 0]) (fun tk O'=>O'.hp k=some (.cells [.str [103],.str [98],.str [49],.str [],.str [],.v (.int .i64 s),.v (.int .i64 (if o then 1 else 0)),.sl (rA s o e).x.length ((rA s o e).x.flatMap bF) tk])/\O'.hp (k+1)=some (.cells [.str [103],.str [99],.str [49],.str [],.str [],.v (.int .i64 i),.v (.int .i64 (if o then 1 else 0)),.sl 0 [] .ar])/\O'.next=k+2) ?_ ?_
 ·cases e
  ·refine VC.ag aa (ae @ef ?_);refine WC.sound aa (ae @ef ?_);exact ay.mk aC.ar ⟨cJ,fi,gf⟩
  ·refine VC.ag aa (ae @ef ?_);refine WC.sound aa (ao @ef @cJ ?_);exact ay.mk aC.full ⟨VH.an _ _ _,VH.sn fi,gf⟩
 clear cJ fi gf O5;rintro tk O6 ⟨gH,zJ,m5⟩;refine VC.Ms gH (cs':=[.str [103],.str [98],.str [49],.str [],.str [],.v (.int .i64 s),.v (.int .i64 (if o then 1 else 0)),.sl (rA s o e).x.length ((rA s o e).x.flatMap bF) .ar]) ?_ ?_
 ·repeat' first
   | exact dR.refl _
   | exact Wk.refl _
   | exact Wk.tok
   | refine dR.cons ?_ ?_
 refine VC.gen ?_;intro O7 e7;have s8:O7.hp k=some (.cells [.str [103],.str [98],.str [49],.str [],.str [],.v (.int .i64 s),.v (.int .i64 (if o then 1 else 0)),.sl (rA s o e).x.length ((rA s o e).x.flatMap bF) .ar]):=by rw[e7];exact VH.an _ _ _
 have Vx:O7.hp (k+1)=some (.cells [.str [103],.str [99],.str [49],.str [],.str [],.v (.int .i64 i),.v (.int .i64 (if o then 1 else 0)),.sl 0 [] .ar]):=by rw[e7,VH.ak _ _ (by omega)];exact zJ
 have rX:O7.next=k+2:=by rw[e7];exact m5
 clear e7 gH zJ m5;refine VC.ag aa (ae @ef ?_);refine ah.rt (zK O7) ?_;rintro _ O8 ⟨rfl,F8,fE⟩;have FY:=F8.st.lt;have HQ:ig O8 (O7.next+2) (rowsOf []) [] [] O7.next (O7.next+1) 0 0 0 0:=F8;clear F8;have pL:=fE.at s8;have hc8:=fE.at Vx;clear s8 Vx;generalize O7.next=k0 at*;refine ae @ef ?_;refine VC.ag aa (ao @ef @pL ?_);refine ah.rt (mJ (HQ) (n:=[97]) (D:=[rA s o e]) rfl rfl (Fm o e hs) (by simp) (by simp)) ?_;rintro _ O9 ⟨rfl,⟨E9,V9,ce9,cv9,hs9⟩,nO9,hf9⟩;have Cc:=hf9 _ _ (by omega) hc8;clear pL hc8;refine ao @ef @Cc ?_;refine ah.rt (mJ (hs9) (n:=[98]) (D:=[Fk i o]) rfl rfl (Fo o hi) (by simp[gA]) (by simp)) ?_;rintro _ eY ⟨rfl,⟨E10,V10,ajX,ajY,afe⟩,ajZ,BQ⟩;refine ae @ef ?_;refine ah.rt (mJ (afe) (n:=[99]) (D:=[]) rfl rfl (z7) (by simp[gA]) (by simp)) ?_;rintro _ nF ⟨rfl,⟨E11,V11,ai1,ai2,aff⟩,aj0,ai3⟩;refine ae @ef ?_;have abu:ig nF (k0+2) (rowsOf (ctS s i o e)) E11 V11 k0 (k0+1) ai1 ai2 0 0:=aff;clear HQ hs9 afe aff hf9 BQ ai3 Cc;refine VC.ag aa (ae @ef ?_);have jA:=z6 nF;simp only[bp,gS,v1]at jA;refine ah.rt jA ?_;rintro _ Ci ⟨rfl,qd⟩;refine ae @ef ?_;have n4:=zY (abu.ge qd) (QV o e hs hi) gA (ai0 s i o e hs hi);simp only[bp,gA,gS,v1]at n4;refine ah.rt n4 ?_;rintro _ Gb ⟨⟨tk1,rfl⟩,n13,Sw⟩;simp only[mC,gn,aq];refine ae @ef ?_;refine VC.al ?_;rintro QO ⟨aj1,ND,aba⟩;clear abu n4 jA Sw qd;refine VC.ag aa (ae @ef ?_);have hd:=adA s i QO hs hi;simp only[aq]at hd;refine ah.rt hd ?_;rintro _ O15 ⟨rfl,rfl⟩;clear hd;refine ae @ef ?_;have c1:((z8 s i o e).flatMap k7)[24]?=some (.v (.int .i64 s)):=rfl;have c2:(o||e||sL s i==0)=true->(z8 s i o e).length=2:=fun h=>by rw[z8,h];rfl
 have c3:(o||e||sL s i==0)=false->(z8 s i o e).length=3/\((z8 s i o e).flatMap k7)[37]?=some (.v (.int .i64 (sL s i))):=fun h=>by rw[z8,h];exact⟨rfl,rfl⟩
 generalize (z8 s i o e).flatMap k7=C at*;generalize (z8 s i o e).length=n at*;generalize sL s i=d at*;cases hz:(o||e||d==0)with
 | false=>
   obtain⟨rfl,c4⟩:=c3 hz;simp only[Bool.or_eq_false_iff]at hz;obtain⟨⟨rfl,rfl⟩,hd⟩:=hz;clear c2 c3;refine VC.ag aa (ao @ef @ND ?_);refine VL.yI aa (bb:=false) (b:=true) (by simp) (by simp[gk]) (.inr ⟨rfl,rfl⟩) (by kernel_rfl) (by kernel_rfl) rfl rfl rfl rfl ?_;refine aM @ef @c1 (show(s != s)=false from by simp) ?_;refine VC.ag aa (dB @ef @c4 @hd (show(d==d)=true from by simp) ?_);refine VC.ag aa (aM @ef @c4 (show(d==d)=true from by simp) ?_);refine ah.rt (lB _) ?_;rintro _ Nq rfl;simp only[a_];refine ae @ef ?_;refine WC.sound aa (ae @ef ?_);trivial
 | true=>
   obtain rfl:=c2 hz;clear c2 c3;refine VC.ag aa (ao @ef @ND ?_);refine VL.yI aa (bb:=false) (b:=true) (by simp) (by simp[gk]) (.inr ⟨rfl,rfl⟩) (by kernel_rfl) (by kernel_rfl) rfl rfl rfl rfl ?_;refine aM @ef @c1 (show(s != s)=false from by simp) ?_;cases o with
   | true=>
     refine VC.ag aa (ae @ef ?_);refine ah.rt (lB _) ?_;rintro _ Nq rfl;simp only[a_];refine ae @ef ?_;trivial
   | false=>
     cases e with
     | true=>
       refine VC.ag aa (ae @ef ?_);refine ah.rt (lB _) ?_;rintro _ Nq rfl;simp only[a_];refine ae @ef ?_;trivial
     | false=>
       simp only[Bool.false_or]at hz;refine VC.ag aa (ao @ef @hz ?_);refine ah.rt (lB _) ?_;rintro _ Nq rfl;simp only[a_];refine ae @ef ?_;trivial
theorem SN (ys:List Int) (o e:Bool) (O:VH) (h:ys.length=2/\∀y∈ys,Fu .i64 y) (_:True) (_:True):VF Tryz.prog 6 [.agg (ys.flatMap fun n=>[.v (.int .i64 n)]),mb o,mb e] O (aL fun m O'=>m=mb true):=by
 obtain⟨hl,hk⟩:=h
 match ys,hl,hk with
 | [a,b],_,hk=>
   have ha:=hk a (by simp);have hb:=hk b (by simp);exact agF a b o e O (by simpa[Fu]using ha) (by simpa[Fu]using hb)
open Go.ChangeShapes
section
variable {H:Type} {enc:TypeId×Value->H} {P:Program} {w:World} {sp:Nat->Bool} {held:Bool} {t e:TypeId}
theorem El.Wt {Φ :List MV->Prop} (h:El enc P w sp held t Φ) {us:Array Value} {d:DataW H} {ps:List MemPlace} (hd:DataW.Trod enc P w 0 sp held t (.agg us) d ps):∃ms,VR (G0 w) (.agg ms) (.agg us)/\ Φ ms:=by
 obtain⟨fuel,h1⟩:=hd;obtain⟨ms,h2,h3⟩:=h _ _ _ h1;refine⟨ms,?_,h3⟩;have:(Value.agg us)= .agg us.toList.toArray:=by simp
 rw[this];exact .agg h2.1 h2.2
theorem Fv {n:Nat} {r:Reach} {base:Nat} {v:Value} (ht:P.underlying t=some (.array n e)) (h:Value.okWide P w r base t v):∃cs,v= .agg cs/\cs.size=P.cellsOf t:=by
 simp only[Value.okWide,ht]at h;obtain⟨cs,h1,h2,_⟩:=h;exact⟨cs,h1,h2⟩
end
section
variable {H:Type} {enc:TypeId×Value->H} {P:Program} {w:World} {sp:Nat->Bool} {held:Bool} {t e:TypeId} {α β :Type}
def mW (enc:TypeId×Value->H) (P:Program) (w:World) (sp:Nat->Bool) (held:Bool) (t:TypeId) (f: α ->List MV) (p: α ->Prop):Prop:=El enc P w sp held t fun ms=>∃y,ms=f y/\p y
theorem mW.int {k:IntKind} (ht:P.underlying t=some (.int k)):mW enc P w sp held t (fun n:Int=>[.v (.int k n)]) (Fu k):=El.ahB ht
theorem mW.bool (ht:P.underlying t=some .bool):mW enc P w sp held t (fun b:Bool=>[mb b]) (fun _=>True):=El.afU ht
theorem mW.array {n s:Nat} {f: α ->List MV} {p: α ->Prop} (ht:P.underlying t=some (.array n e)) (rH:P.cellsOf t=n*s) (P6:P.cellsOf e=s) (he:mW enc P w sp held e f p):mW enc P w sp held t (fun ys:List α =>ys.flatMap f) (fun ys=>ys.length=n/\∀y∈ys,p y):=by
 intro fuel cs x h;obtain⟨xs,m,rfl,rfl,hl,B3,hfi⟩:=DataW.trod_array ht h;subst P6
 have build:∀j,j<=n->∃ys:List α,aO (G0 w) (ys.flatMap f) (cs.take (j*P.cellsOf e))/\ys.length=j/\∀y∈ys,p y:=fun j=>by
  induction j with
  | zero=>exact fun _=>⟨[],by rw[Nat.zero_mul];exact aO.nil,rfl,by simp⟩
  | succ j ih=>
    intro hj;obtain⟨ys,h1,h2,h3⟩:=ih (by omega);have h5:=hfi j (by omega);rw[List.getElem?_eq_getElem (by omega)]at h5;obtain⟨ms,h6,y,rfl,h7⟩:=he _ _ _ h5;refine⟨ys++[y],?_,by simp[h2],fun z hz=>?_⟩
    ·rw[List.flatMap_append,List.flatMap_cons,List.flatMap_nil,List.append_nil];have:=aO.append h1 h6
     rwa [show(j+1)*P.cellsOf e=j*P.cellsOf e+P.cellsOf e from Nat.succ_mul _ _,List.take_add]
    ·rcases List.mem_append.1 hz with hz | hz
     ·exact h3 z hz
     ·rw[List.mem_singleton.1 hz];exact h7
 obtain⟨ys,h1,h2,h3⟩:=build n (Nat.le_refl _);rw[List.take_of_length_le (by omega)]at h1;exact⟨_,h1,ys,rfl,h2,h3⟩
theorem mW.arg {f: α ->List MV} {p: α ->Prop} (h:mW enc P w sp held t f p) {v:Value} {d:DataW H} {ps:List MemPlace} (hd:DataW.Trod enc P w 0 sp held t v d ps) (hc:v.cells= #[v]):∃m y,VR (G0 w) m v/\[m]=f y/\p y:=by
 obtain⟨m,h1,y,h2,h3⟩:=El.arg h hd hc;exact⟨m,y,h1,h2,h3⟩
theorem mW.Wt {f: α ->List MV} {p: α ->Prop} (h:mW enc P w sp held t f p) {us:Array Value} {d:DataW H} {ps:List MemPlace} (hd:DataW.Trod enc P w 0 sp held t (.agg us) d ps):∃y,VR (G0 w) (.agg (f y)) (.agg us)/\p y:=by
 obtain⟨ms,h1,y,rfl,h3⟩:=El.Wt h hd;exact⟨y,h1,h3⟩
end
set_option linter.defProp false in
def aH:=And.intro ef<|And.intro pY<|And.intro T5 T9
theorem SI {D:List Deferred} {n:Sz} {e:Env} {O:VH} {d:Option Tmp} {x:Operand} {ty:TypeId} {ps:String} {af:Array Edge} {g:Option (Nat×Bool)} (c:UInt8) (hx:ev e x=some (.sl 1 [eV c] .full)):eJ Tryz.prog n D (.mk d (.convert 130 9 x) ty ps af g) e O fun m O'=>m= .str [c]/\O'=O:=
 YN aa (el:=5) (l:=[c]) hx (by rw[pY];rfl) (by rw[T9];rfl) (by rw[T5];rfl) rfl rfl
set_option maxHeartbeats 1000000 in
theorem su (n:Nat):∀O,n<1000->VF Tryz.prog 23 [mi n] O (aL fun m O'=>m= .str (gq n)/\O.Ge O'):=by
 induction n using Nat.strongRecOn with
 | _ n ih=>
   intro O hn;simp only[aq];refine VF.bX 20 [.tmp 2] Tryz.func23 ?_;refine VC.ag aa (ae @aH ?_);by_cases h:n<10
   ·have e1:decide ((n:Int)<10)=true:=decide_eq_true (by omega);have hw:IntKind.u8.wrap (48+(n:Int))=((UInt8.ofNat (48+n)).toNat:Int):=by simp[IntKind.wrap,IntKind.signed,IntKind.bits]
    rw[mH h];refine VC.ag aa (aM @aH @e1 @hw ?_);refine VL.nN (SI (UInt8.ofNat (48+n)) rfl) ?_;rintro _ Ox ⟨rfl,eO⟩;rw[eO];clear eO Ox
    refine WL.sound aa ?_;refine ae @aH ?_;exact VH.Ge.refl _
   ·have e1:decide ((n:Int)<10)=false:=decide_eq_false (by omega);have e2:(n:Int).tdiv 10=((n / 10:Nat):Int):=rfl;have e3:(n:Int).tmod 10=((n % 10:Nat):Int):=rfl;have hw:IntKind.u8.wrap (48+((n % 10:Nat):Int))=((UInt8.ofNat (48+n % 10)).toNat:Int):=by simp[IntKind.wrap,IntKind.signed,IntKind.bits]
    have hS:=nJ h;have hDl:=iI (n:=n / 10) (by omega);have hi:=fun O'=>ih (n / 10) (by omega) O' (by omega)
    simp only[aq]at hi;generalize gq (n / 10)=D at*;generalize gq n=D' at*;generalize UInt8.ofNat (48+n % 10)=c at*;refine VC.ag aa (ao @aH @e1 ?_);refine VC.bu ?_;refine VC.m4 [9,10] ?_;refine ab.av 0 ?_;refine ae @aH ?_;refine ab.av 1 ?_;refine ao @aH @e2 ?_;refine ab.av 3 ?_;refine ae @aH ?_;refine ab.av 4 ?_;refine ao @aH @e3 ?_;refine ab.av 5 ?_;refine ae @aH ?_;refine ab.av 6 ?_;refine ao @aH @hw ?_;refine ab.pair (i:=2) (j:=7) ?_ ?_
    ·refine aG.gV (hi O) ?_;rintro _ O2 ⟨rfl,hg⟩;simp only[aj];refine⟨hg,?_⟩;refine ab.op (i:=7) ?_;refine ae @aH ?_;refine⟨hg,?_⟩;refine ab.st (i:=8) (SI c rfl) ?_;rintro _ Ox ⟨rfl,eO⟩;rw[eO];clear eO Ox
     simp only[aj];refine⟨hg,?_⟩;refine ab.bM [(9,.one),(10,.one)] ?_;refine ae @aH ?_;refine WC.sound aa (ae @aH ?_);exact⟨congrArg MV.str hS.symm,hg⟩
    ·refine aG.o1 ?_;refine ae @aH ?_;refine⟨VH.Ge.refl _,?_⟩;refine ab.pair (i:=2) (j:=8) ?_ ?_
     ·refine aG.gV (hi O) ?_;rintro _ O2 ⟨rfl,hg⟩;simp only[aj];refine⟨hg,?_⟩;refine ab.st (i:=8) (SI c rfl) ?_;rintro _ Ox ⟨rfl,eO⟩;rw[eO];clear eO Ox
      simp only[aj];refine⟨hg,?_⟩;refine ab.bM [(9,.one),(10,.one)] ?_;refine ae @aH ?_;refine WC.sound aa (ae @aH ?_);exact⟨congrArg MV.str hS.symm,hg⟩
     ·refine aG.st (SI c rfl) ?_;rintro _ Ox ⟨rfl,eO⟩;rw[eO];clear eO Ox
      simp only[aj];refine⟨VH.Ge.refl _,?_⟩;refine ab.call (i:=2) (hi O) ?_;rintro _ O2 ⟨rfl,hg⟩;simp only[aj];refine⟨hg,?_⟩;refine ab.bM [(9,.one),(10,.one)] ?_;refine ae @aH ?_;refine WC.sound aa (ae @aH ?_);exact⟨congrArg MV.str hS.symm,hg⟩
def Fp (n:Nat) (r:Bool) (j:Nat):List (Gv×List Dp):=(List.range j).map fun i=>(⟨gS,cE i,v1⟩,xI cE n r i)
theorem HR (n:Nat) (r:Bool) (j:Nat):Fp n r (j+1)=Fp n r j++[(⟨gS,cE j,v1⟩,xI cE n r j)]:=by simp[Fp,List.range_succ]
theorem SJ {n:Nat} {r:Bool} {j:Nat}:∀p∈Fp n r j,p.1≠⟨gS,cE j,v1⟩:=by
 intro p hp e;obtain⟨i,hi,rfl⟩:=List.mem_map.1 hp;have hi:=List.mem_range.1 hi;injection e with _ e _;have:=vg e;omega
theorem HS {n j:Nat} (r:Bool) (hn:n<=60) (hj:j<n):Calm ⟨gS,cE j,v1⟩ (xI cE n r j):=by
 refine⟨rfl,xN (by omega),rfl,fun d hd=>?_,?_,?_⟩<;>unfold xI at*
 ·split at hd
  ·rw[List.mem_singleton]at hd;subst hd
   exact sr (xN (by omega)) (.inl rfl)
  ·split at hd
   ·rw[List.mem_singleton]at hd;subst hd
    exact sr (xN (by omega)) (.inl rfl)
   ·cases hd
 ·split
  ·simp
  ·split<;>simp
 ·split
  ·simp
  ·split<;>simp
theorem QW {n:Nat} (r:Bool) (hn:n<=60):Plain (Fp n r n):=by
 refine⟨fun p hp=>?_,?_⟩
 ·obtain⟨i,hi,rfl⟩:=List.mem_map.1 hp;exact HS r hn (List.mem_range.1 hi)
 ·refine List.pairwise_map.2 (List.Pairwise.imp (R:=(· < ·)) ?_ List.pairwise_lt_range);intro a b PV e;injection e with _ e _;have:=vg e;omega
theorem HT {n:Nat} {r:Bool}:∀{j i:Nat},i<j->(Fp n r j).find? (·.1==⟨gS,cE i,v1⟩)=some (⟨gS,cE i,v1⟩,xI cE n r i)
 | 0,i,h=>by omega
 | j+1,i,h=>by
   rw[HR,List.find?_append];by_cases e:i=j
   ·subst e;rw[List.find?_eq_none.2 fun p hp=>by simpa using SJ p hp];simp
   ·rw[HT (j:=j) (by omega)];rfl
theorem Wo {n:Nat} (r:Bool) (h2:2<=n) (hn:n<=60):qy (fj (Fp n r n)) ⟨gS,cE 0,v1⟩=some (some (nH cE n++if r then[lT cE true n 0]else[])):=
 Qv h2 hn (fun _ _ _ _ h=>vg h) fun i hi=>by rw[fj,HT hi];rfl
theorem lnR {n:Nat} (r:Bool):(nH cE n++if r then[lT cE true n 0]else[]).length=n+(if r then 1 else 0):=by
 cases r<;>simp[k6]
theorem ai4 {n:Nat} (r:Bool) {j:Nat} (h:j<n+(if r then 1 else 0)):∃b:Br,(nH cE n++if r then[lT cE true n 0]else[])[j]?=some b/\b.up=(j:Int) - 1/\b.dp=j/\b.rd=decide (j=n):=by
 by_cases hj:j<n
 ·refine⟨lT cE false j j,?_,rfl,rfl,?_⟩
  ·rw[List.getElem?_append_left (by rw[k6];exact hj),sk hj]
  ·show false=_;rw[decide_eq_false (by omega)]
 ·cases r with
  | false=>simp at h;omega
  | true=>
    simp only[if_true]at h;obtain rfl:j=n:=by omega
    refine⟨lT cE true j 0,?_,rfl,rfl,?_⟩
    ·rw[List.getElem?_append_right (by rw[k6];exact Nat.le_refl _),k6];simp
    ·show true=_;simp
set_option maxHeartbeats 4000000 in
theorem agG (a:Int) (r:Bool) (O:VH):VF Tryz.prog 4 [mi a,mb r] O (aL fun m O'=>m=mb true):=by
 simp only[aq,a_];refine VF.bX 98 [.tmp 4] Tryz.func4 ?_;refine VC.ag aa (ae @aH ?_);refine VC.ag aa (ae @aH ?_);obtain⟨n,hn,h2,B5⟩:∃n:Nat,max 2 (min a 60)=(n:Int)/\2<=n/\n<=60:=⟨(max 2 (min a 60)).toNat,by omega,by omega,by omega⟩
 rw[hn];clear hn;refine VC.ag aa (ae @aH ?_);refine ah.rt (zK O) ?_;rintro _ O1 ⟨rfl,nZ,aT⟩;have NH:ig O1 (O.next+2) (rowsOf (Fp n r 0)) [] [] O.next (O.next+1) 0 0 0 0:=nZ;clear nZ;refine ae @aH ?_;refine VC.bz [0,1,5] (fun _:Unit=>[.v (.int .i64 n),.v (.bool r),.ptr (O.next+2) 0]) (fun _ O'=>∃E V ce cv,ig O' (O.next+2) (rowsOf (Fp n r n)) E V O.next (O.next+1) ce cv 0 0) ?_ ?_
 ·refine VC.ag aa (ae @aH ?_);refine VC.aB ?_;refine VC.bE [19] [0,1,5,18] (fun j:Nat=>[mi j]) (fun j O'=>j<=n/\∃E V ce cv,ig O' (O.next+2) (rowsOf (Fp n r j)) E V O.next (O.next+1) ce cv 0 0) (fun j=>n - j) (0) ?_ ?_
  ·exact⟨Nat.zero_le _,[],[],0,0,NH⟩
  rintro j O2 ⟨hj,E,V,ce,cv,wj⟩;by_cases bm:j<n;rotate_left
  ·obtain rfl:j=n:=by omega
   refine WC.sound aa (ae @aH ?_);exact ay.mk () ⟨E,V,ce,cv,wj⟩
  have ew:((j:Int)+1)=((j+1:Nat):Int):=by omega
  have hj3:((j:Int)+2)=((j+2:Nat):Int):=by omega
  refine VC.ag aa (ae @aH ?_);refine VC.ag aa (ae @aH ?_);refine VC.bu (VC.aB ?_);refine VC.ag aa (ae @aH ?_);have kD:=su (j+2) O2 (by omega);simp only[aq]at kD;rw[<-hj3]at kD;refine VC.ag aa (ae @aH ?_);refine ah.rt kD ?_;rintro _ O3 ⟨rfl,aR⟩;have IY:=wj.ge aR;clear kD wj;refine ae @aH ?_;refine VC.bz [0,1,5,6,7,18,19] (fun _:Unit=>[.v (.int .i64 n),.v (.bool r),.ptr (O.next+2) 0,.v (.int .i64 j),.str (if j+1<n then gq (j+2)else[49]),.v (.int .i64 n),.v (.int .i64 j)]) (fun _ O'=>O'=O3) ?_ ?_
  ·by_cases hl:j+1<n
   ·have e1:((j:Int)==(n:Int) - 1)=false:=by simp;omega
    refine VC.ag aa (ae @aH ?_);refine WC.sound aa (ao @aH @e1 ?_);exact ay.mk () rfl (h1:=by rw[if_pos hl];rfl)
   ·have e1:((j:Int)==(n:Int) - 1)=true:=by simp;omega
    refine VC.ag aa (ae @aH ?_);refine WC.sound aa (ao @aH @e1 ?_);exact ay.mk () rfl (h1:=by rw[if_neg hl];rfl)
  rintro _ Ox eO;rw[eO];clear eO Ox
  have B7:(if j+1<n then gq (j+2)else[49]).length<=3:=by
   split
   ·exact iI (by omega)
   ·simp
  generalize rL:(if j+1<n then gq (j+2)else[49])=nx at*
  have hD:xI cE n r j=if j+1<n\/r=true then[fq (97::nx) v1 0]else[]:=by
   unfold xI;by_cases hl:j+1<n
   ·rw[if_pos hl,if_pos (.inl hl), <-rL,if_pos hl];rfl
   ·cases r
    ·rw[if_neg hl,if_neg (by decide),if_neg (by simp[hl])]
    ·rw[if_neg hl,if_pos rfl,if_pos (.inr rfl), <-rL,if_neg hl];rfl
  refine VC.ag aa (ae @aH ?_);refine VC.bz [0,1,5,6,8,18,19] (fun tk:aC=>[.v (.int .i64 n),.v (.bool r),.ptr (O.next+2) 0,.v (.int .i64 j),.sl (xI cE n r j).length ((xI cE n r j).flatMap aF) tk,.v (.int .i64 n),.v (.int .i64 j)]) (fun _ O'=>O3.Ge O') ?_ ?_
  ·by_cases hl:j+1<n\/r=true
   ·rw[hD,if_pos hl];have kC:=zZ (97::nx) [49] 0 O3;simp only[fq,aF,aq,gS,List.length_nil,List.flatMap_nil]at kC;by_cases h3:j+1<n
    ·have e1:decide ((j:Int)<(n:Int) - 1)=true:=decide_eq_true (by omega);refine VC.ag aa (ao @aH @e1 ?_);refine WC.sound aa (ae @aH ?_);refine ah.rt kC ?_;rintro _ O4 ⟨rfl,bj⟩;refine ae @aH ?_;refine VL.app (bd (tk:=.nil) (tk':=.full) (n:=0) (k:=1) (cs:=[]) (ds:=[.str [103],.str (97::nx),.str [49],.str [],.str [],.v (.int .i64 0),.v (.int .i64 0),.sl 0 [] .ar]) xk uo.1.1 (App.nil (B:=0)) rfl rfl rfl (by decide) (by decide) (by decide) (by decide)) ?_;refine ae @aH ?_;exact ay.mk (.own O4.next 8) (bj.trans (cj.y_ (sz:=8) App.nil (cj.after (B:=0) (sz:=8) App.nil)))
    ·have e1:decide ((j:Int)<(n:Int) - 1)=false:=decide_eq_false (by omega);obtain rfl:=hl.resolve_left h3;refine VC.ag aa (ao @aH @e1 ?_);refine WC.sound aa (ae @aH ?_);refine ah.rt kC ?_;rintro _ O4 ⟨rfl,bj⟩;refine ae @aH ?_;refine VL.app (bd (tk:=.nil) (tk':=.full) (n:=0) (k:=1) (cs:=[]) (ds:=[.str [103],.str (97::nx),.str [49],.str [],.str [],.v (.int .i64 0),.v (.int .i64 0),.sl 0 [] .ar]) xk uo.1.1 (App.nil (B:=0)) rfl rfl rfl (by decide) (by decide) (by decide) (by decide)) ?_;refine ae @aH ?_;exact ay.mk (.own O4.next 8) (bj.trans (cj.y_ (sz:=8) App.nil (cj.after (B:=0) (sz:=8) App.nil)))
   ·have e1:decide ((j:Int)<(n:Int) - 1)=false:=decide_eq_false (by omega);have e2:r=false:=by cases r;rfl;exact absurd (.inr rfl) hl
    subst e2;rw[hD,if_neg hl];refine VC.ag aa (ao @aH @e1 ?_);refine WC.sound aa (ae @aH ?_);exact ay.mk .nil (VH.Ge.refl _)
  rintro tk O4 bj;have tn:=IY.ge bj;have kD:=su (j+1) O4 (by omega);simp only[aq]at kD;rw[<-ew]at kD;refine VC.ag aa (ae @aH ?_);refine ah.rt kD ?_;rintro _ O5 ⟨rfl,bG⟩;have hs5:=tn.ge bG;have yS:=iI (n:=j+1) (by omega);clear kD tn;refine ae @aH ?_;refine ah.rt (mJ hs5 (n:=cE j) (D:=xI cE n r j) rfl rfl (HS r B5 bm) SJ (by simp[Fp];omega)) ?_;rintro _ O6 ⟨rfl,⟨E6,V6,c6,d6,Az⟩,n6,JC⟩;rw[<-HR]at Az;refine ae @aH ?_;refine WC.sound aa (ae @aH ?_);refine WC.sound aa (ao @aH @ew ?_);exact aD.next (j+1) ⟨bm,E6,V6,c6,d6,Az⟩
 rintro _ O2 ⟨E,V,ce,cv,wj⟩;have n4:=zY wj (QW r B5) ⟨gS,cE 0,v1⟩ (Wo r h2 B5);have hz:cE 0=[97,49]:=by kernel_rfl
 rw[hz]at n4;simp only[bp,gS,v1]at n4;refine VC.ag aa (ae @aH ?_);refine ah.rt n4 ?_;rintro _ O3 ⟨⟨tk1,rfl⟩,n3,DJ⟩;simp only[mC,gn,aq];refine ae @aH ?_;refine VC.al ?_;rintro O4 ⟨bj,EE,ic⟩;clear wj n4 DJ bj NH;have hR:=lnR (n:=n) r;have hA:=fun j=>ai4 (n:=n) r (j:=j)
 generalize (nH cE n++if r then[lT cE true n 0]else[])=N at*;have hlen:=aX jm N;refine VC.ag aa (ae @aH ?_);refine VC.bz [0,9,10,11] (fun _:Unit=>[.v (.int .i64 n),.sl N.length (N.flatMap k7) tk1,.ptr O3.next 0,.v (.int .i64 N.length)]) (fun _ O'=>O'=O4) ?_ ?_
 ·cases r
  ·have e1:(n:Int)=N.length:=by rw[hR];simp
   refine VC.ag aa (ae @aH ?_);refine WC.sound aa (ae @aH ?_);exact ay.mk () rfl (h1:=by rw[e1];rfl)
  ·have e1:(n:Int)+1=N.length:=by rw[hR];simp
   refine VC.ag aa (ae @aH ?_);refine WC.sound aa (ao @aH @e1 ?_);exact ay.mk () rfl
 rintro _ Ox eO;rw[eO];clear eO Ox
 refine VC.ag aa (ao @aH @EE ?_);refine VL.yI aa (bb:=false) (b:=true) (by simp) (by simp[gk]) (.inr ⟨rfl,rfl⟩) (by kernel_rfl) (by kernel_rfl) rfl rfl rfl rfl ?_;refine ao @aH (show((N.length:Int) != N.length)=false from by simp) ?_;refine VC.bz [] (fun _:Unit=>[]) (fun _ _=>True) ?_ ?_
 ·refine VC.ag aa (ae @aH ?_);refine VC.aB ?_;refine VC.bE [72] [0,70,71] (fun j:Nat=>[mi j]) (fun j _=>j<=N.length) (fun j=>N.length - j) (0) ?_ ?_
  ·exact Nat.zero_le _
  rintro j O5 hj;by_cases bm:j<N.length;rotate_left
  ·obtain rfl:j=N.length:=by omega
   refine WC.sound aa (ae @aH ?_);exact ay.mk () trivial
  have ew:((j:Int)+1)=((j+1:Nat):Int):=by omega
  obtain⟨b,hb,hu,hd,hr⟩:=hA j (by rw[<-hR];exact bm)
  have SQ:j<=61:=by
   have:=bm;rw[hR]at this;split at this<;>omega
  have bI:=cV jm N j bm;rw[List.getElem?_eq_getElem bm]at hb;injection hb with hb;rw[hb]at bI;clear hb;obtain⟨up,dp,od,⟨k1,k2,k3,k4⟩,v,s,rd⟩:=b;dsimp only at hu hd hr;subst hu hd;have e3:((j:Int)==(n:Int))=rd:=by rw[hr];by_cases h:j=n<;>simp[h];omega
  simp only[k7,jW,tu,bp,aq,a_,List.cons_append,List.nil_append]at bI;refine VC.ag aa (ae @aH ?_);refine VC.ag aa (ae @aH ?_);refine VC.bu (VC.aB ?_);refine VC.ag aa (ao @aH @bI ?_);refine VC.al ?_;rintro O6 ⟨fO,Qc,m5⟩;refine VC.ag aa (FV @aH @Qc @e3 (show((j:Int) != j)=false from by simp) (show((j:Int) - 1 != (j:Int) - 1)=false from by simp) (show(!(rd==rd))=false from by simp) ?_);refine WC.sound aa (ae @aH ?_);refine WC.sound aa (ao @aH @ew ?_);exact aD.next (j+1) (by show j+1<=N.length;omega)
 rintro _ O5 _;refine VC.ag aa (ae @aH ?_);refine ah.rt (lB _) ?_;rintro _ Nq rfl;simp only[a_];refine ae @aH ?_;refine WC.sound aa (ae @aH ?_);trivial
theorem SO (a:Int) (r:Bool) (O:VH) (_:Fu .i64 a) (_:True):VF Tryz.prog 4 [mi a,mb r] O (aL fun m O'=>m=mb true):=agG a r O
def qA (deep d j:Nat):List Dp:=if d<deep then(List.range j).map fun k=>fq (dP (d+1) k) v1 0 else[]
theorem abv (deep d:Nat):qA deep d 0=[]:=by unfold qA;split<;>rfl
theorem SK {deep d j:Nat} (h:¬d<deep):qA deep d j=[]:=by unfold qA;rw[if_neg h]
theorem HU {deep d j:Nat} (h:d<deep):qA deep d (j+1)=qA deep d j++[fq (dP (d+1) j) v1 0]:=by unfold qA;rw[if_pos h,if_pos h];simp[List.range_succ]
theorem NI (deep d j:Nat):(qA deep d j).length<=j:=by unfold qA;split<;>simp
def tA (w deep d:Nat):List Dp:=qA deep d w
def Gl (w deep d j:Nat):List (Gv×List Dp):=(List.range j).map fun k=>(⟨gS,dP d k,v1⟩,tA w deep d)
def rB (w deep:Nat):Nat->List (Gv×List Dp)
 | 0=>[(gA,tA w deep 0)]
 | d+1=>rB w deep d++Gl w deep (d+1) w
theorem Wp (w deep d j:Nat):Gl w deep d (j+1)=Gl w deep d j++[(⟨gS,dP d j,v1⟩,tA w deep d)]:=by simp[Gl,List.range_succ]
theorem NJ (w deep:Nat):∀d,(rB w deep d).length=1+d*w
 | 0=>by simp[rB]
 | d+1=>by rw[rB,List.length_append,NJ w deep d,Nat.succ_mul];simp[Gl];omega
theorem Fq {w deep d j:Nat} {p:Gv×List Dp} (h:p∈Gl w deep d j):∃k,k<j/\p=(⟨gS,dP d k,v1⟩,tA w deep d):=by
 obtain⟨k,hk,rfl⟩:=List.mem_map.1 h;exact⟨k,List.mem_range.1 hk,rfl⟩
theorem Fs {w deep:Nat}:∀{d:Nat} {p:Gv×List Dp},p∈rB w deep d->p=(gA,tA w deep 0)\/∃e k,1<=e/\e<=d/\k<w/\p=(⟨gS,dP e k,v1⟩,tA w deep e)
 | 0,p,h=>.inl (by simpa[rB]using h)
 | d+1,p,h=>by
   rw[rB]at h;rcases List.mem_append.1 h with h | h
   ·rcases Fs h with h | ⟨e,k,h1,h2,h3⟩
    ·exact .inl h
    ·exact .inr ⟨e,k,h1,by omega,h3⟩
   ·obtain⟨k,hk,rfl⟩:=Fq h;exact .inr ⟨d+1,k,by omega,Nat.le_refl _,hk,rfl⟩
theorem SL {w deep:Nat}:∀{d:Nat},(gA,tA w deep 0)∈rB w deep d/\∀e k,1<=e->e<=d->k<w->(⟨gS,dP e k,v1⟩,tA w deep e)∈rB w deep d
 | 0=>⟨by simp[rB],fun e k h1 h2 _=>by omega⟩
 | d+1=>by
   obtain⟨i1,i2⟩:=SL (w:=w) (deep:=deep) (d:=d);refine⟨List.mem_append_left _ i1,fun e k h1 h2 h3=>?_⟩;by_cases h:e<=d
   ·exact List.mem_append_left _ (i2 e k h1 h h3)
   ·obtain rfl:e=d+1:=by omega
    exact List.mem_append_right _ (List.mem_map.2 ⟨k,List.mem_range.2 h3,rfl⟩)
theorem SM {w deep d e j k:Nat} (he:d<e):∀p∈rB w deep d++Gl w deep e j,j<=k->p.1≠⟨gS,dP e k,v1⟩:=by
 intro p hp hk e1;rcases List.mem_append.1 hp with hp | hp
 ·rcases Fs hp with rfl | ⟨e',k',h1,h2,h3,rfl⟩
  ·injection e1 with _ e1 _;exact BO _ _ e1.symm
  ·injection e1 with _ e1 _;have:=mI e1;omega
 ·obtain⟨k',BU,rfl⟩:=Fq hp;injection e1 with _ e1 _;have:=mI e1;omega
theorem vZ {w deep d:Nat} {n:Bs} (hn:pQ n) (hw:w<=9) (hd:deep<=12):Calm ⟨gS,n,v1⟩ (tA w deep d):=by
 unfold tA qA;by_cases h:d<deep
 ·rw[if_pos h];refine⟨rfl,hn,rfl,fun x hx=>?_,?_,by simp;omega⟩
  ·obtain⟨k,hk,rfl⟩:=List.mem_map.1 hx;have:=List.mem_range.1 hk;exact sr (vh (by omega) (by omega)) (.inl rfl)
  ·refine List.pairwise_map.2 (List.Pairwise.imp (R:=(· < ·)) ?_ List.pairwise_lt_range);intro a b PV e;have:=mI e;omega
 ·rw[if_neg h];exact⟨rfl,hn,rfl,by simp,by simp,by simp⟩
theorem CE {w deep:Nat}:∀d,(rB w deep d).Pairwise fun x y=>x.1≠y.1
 | 0=>by simp[rB]
 | d+1=>by
   rw[rB];refine List.pairwise_append.2 ⟨CE d,?_,fun x hx y hy=>?_⟩
   ·refine List.pairwise_map.2 (List.Pairwise.imp (R:=(· < ·)) ?_ List.pairwise_lt_range);intro a b PV e;injection e with _ e _;have:=mI e;omega
   ·obtain⟨k,hk,rfl⟩:=Fq hy;exact SM (j:=0) (Nat.lt_succ_self d) x (List.mem_append_left _ hx) (Nat.zero_le _)
theorem QX {w deep d:Nat} (hw:w<=9) (hd:deep<=12) (h:d<=deep):Plain (rB w deep d):=
 ⟨fun p hp=>by
  rcases Fs hp with rfl | ⟨e,k,h1,h2,h3,rfl⟩
  ·exact vZ Fj hw hd
  ·exact vZ (vh (by omega) (by omega)) hw hd,CE d⟩
theorem Ft:∀{S:List (Gv×List Dp)} {p:Gv×List Dp},S.Pairwise (fun x y=>x.1≠y.1)->p∈S->S.find? (·.1==p.1)=some p
 | x::S,p,h,hp=>by
   rw[List.pairwise_cons]at h;rw[List.find?_cons];rcases List.mem_cons.1 hp with rfl | hp
   ·simp
   ·rw[show(x.1==p.1)=false from by simpa using h.1 p hp];exact Ft h.2 hp
theorem Wq {w deep:Nat} (h1:1<=deep):∃r,qy (fj (rB w deep deep)) ⟨gS,[97],v1⟩=some r/\match r with
  | none=>4096<(ja w deep).1
  | some N=>N.length=(ja w deep).1/\(ja w deep).1<=4096:=by
 obtain⟨i1,i2⟩:=SL (w:=w) (deep:=deep) (d:=deep);refine M3 (p:=dP) (fun _ _ _ _ h=>mI h) BO h1 ?_ fun d j a b c=>?_
 ·have:=Ft (CE deep) i1;rw[fj,show(⟨gS,[97],v1⟩:Gv)=gA from rfl,this];simp only[Option.map_some,tA,qA];rw[if_pos (by omega),List.map_map];rfl
 ·have:=Ft (CE deep) (i2 d j a b c);rw[fj,this];simp only[Option.map_some,tA,qA];split
  ·rw[List.map_map];rfl
  ·rfl
theorem JG {w:Nat} (hw:w<=9):∀d,(ja w d).2<=(ja w d).1/\(ja w d).1<=40960
 | 0=>by simp[ja]
 | d+1=>by
   have ih:=JG hw d;unfold ja;split
   ·have:(ja w d).2*w<=(ja w d).2*9:=Nat.mul_le_mul_left _ hw;dsimp only;omega
   ·exact ih
set_option maxHeartbeats 8000000 in
theorem adB (a b:Int) (O:VH):VF Tryz.prog 5 [mi a,mi b] O (aL fun m O'=>m=mb true):=by
 simp only[aq,a_];refine VF.bX 127 [.tmp 4] Tryz.func5 ?_;refine VC.ag aa (ae @aH ?_);refine VC.ag aa (ae @aH ?_);obtain⟨w,hw,FU,QY⟩:∃w:Nat,max 1 (min a 9)=(w:Int)/\1<=w/\w<=9:=⟨(max 1 (min a 9)).toNat,by omega,by omega,by omega⟩
 obtain⟨deep,hd,nU,abw⟩:∃d:Nat,max 1 (min b 12)=(d:Int)/\1<=d/\d<=12:=⟨(max 1 (min b 12)).toNat,by omega,by omega,by omega⟩
 rw[hw,hd];clear hw hd;refine VC.ag aa (ae @aH ?_);refine ah.rt (zK O) ?_;rintro _ O1 ⟨rfl,nZ,aT⟩;have NH:ig O1 (O.next+2) (rowsOf []) [] [] O.next (O.next+1) 0 0 0 0:=nZ;clear nZ;generalize O.next=K at*;refine ae @aH ?_;refine VC.ag aa (ae @aH ?_);refine VC.bz [0,1,5,6] (fun tk:aC=>[.v (.int .i64 w),.v (.int .i64 deep),.ptr (K+2) 0,.sl (tA w deep 0).length ((tA w deep 0).flatMap aF) tk]) (fun _ O'=>O1.Ge O') ?_ ?_
 ·refine VC.ag aa (ae @aH ?_);refine VC.aB ?_;refine VC.bE [6,24] [0,1,5,23] (fun x:Nat×aC=>[.sl (qA deep 0 x.1).length ((qA deep 0 x.1).flatMap aF) x.2,mi x.1]) (fun x O'=>x.1<=w/\O1.Ge O'/\App O' O1.next 8 x.2) (fun x=>w - x.1) (0,.nil) ?_ ?_ (h0:=by dsimp only;rw[abv];rfl)
  ·exact⟨Nat.zero_le _,VH.Ge.refl _,trivial⟩
  rintro⟨j,tk⟩ O2 ⟨hj,az,EI⟩;dsimp only at hj EI;by_cases bm:j<w;rotate_left
  ·obtain rfl:j=w:=by omega
   refine WC.sound aa (ae @aH ?_);exact ay.mk tk az
  have ew:((j:Int)+1)=((j+1:Nat):Int):=by omega
  have Aw:=NI deep 0 j;refine VC.ag aa (ae @aH ?_);refine VC.ag aa (ae @aH ?_);refine VC.bu (VC.aB ?_);refine VC.ag aa (ae @aH ?_);refine WC.sound aa (ae @aH ?_);have kD:=su (j+1) O2 (by omega);simp only[aq]at kD;rw[<-ew]at kD;refine ah.rt kD ?_;rintro _ O3 ⟨rfl,aR⟩;have lO3:=iI (n:=(j+1)) (by omega);clear kD;refine ae @aH ?_;have kC:=zZ (112::49::46::gq (j+1)) [49] 0 O3;simp only[fq,aF,aq,gS,List.length_nil,List.flatMap_nil]at kC;refine ah.rt kC ?_;rintro _ O4 ⟨rfl,bj⟩;clear kC;refine ae @aH ?_;have jX:=EI.ge (aR.trans bj);refine VL.app (bd (tk:=tk) (tk':=.full) (n:=(qA deep 0 j).length) (k:=1) (cs:=(qA deep 0 j).flatMap aF) (ds:=[.str [103],.str (112::49::46::gq (j+1)),.str [49],.str [],.str [],.v (.int .i64 0),.v (.int .i64 0),.sl 0 [] .ar]) xk uo.1.1 jX (aX eQ _) rfl rfl (by decide) (by decide) (by omega) (by simp only[maxLen];omega)) ?_;refine ae @aH ?_;refine WC.sound aa (ao @aH @ew ?_);have D8:=az.trans (aR.trans bj);exact aD.next (j+1,.own O4.next 8) ⟨bm,cj.dW D8 jX (cj.after jX),App.after D8.next⟩ (hl:=by dsimp only;rw[HU (by omega),List.length_append,List.flatMap_append,List.flatMap_singleton];rfl)
 rintro tk O2 az;have wj:=NH.ge az;clear NH aT;refine VC.ag aa (ae @aH ?_);refine ah.rt (mJ wj (n:=[97]) (D:=tA w deep 0) rfl rfl (vZ Fj QY abw) (by simp) (by simp)) ?_;rintro _ O3 ⟨rfl,⟨E3,V3,c3,d3,IY⟩,n3,DJ⟩;have afg:ig O3 (K+2) (rowsOf (rB w deep 0)) E3 V3 K (K+1) c3 d3 0 0:=IY;clear IY wj DJ;refine ae @aH ?_;refine VC.bz [0,1,5] (fun _:Unit=>[.v (.int .i64 w),.v (.int .i64 deep),.ptr (K+2) 0]) (fun _ O'=>∃E V ce cv,ig O' (K+2) (rowsOf (rB w deep deep)) E V K (K+1) ce cv 0 0) ?_ ?_
 ·refine VC.ag aa (ae @aH ?_);refine VC.aB ?_;refine VC.bE [8] [0,1,5] (fun d:Nat=>[mi (d+1)]) (fun d O'=>d<=deep/\∃E V ce cv,ig O' (K+2) (rowsOf (rB w deep d)) E V K (K+1) ce cv 0 0) (fun d=>deep - d) (0) ?_ ?_
  ·exact⟨Nat.zero_le _,_,_,_,_,afg⟩
  rintro d O4 ⟨hd,E,V,ce,cv,tn⟩;by_cases ju:d<deep;rotate_left
  ·obtain rfl:d=deep:=by omega
   have e1:decide ((d:Int)+1<=d)=false:=decide_eq_false (by omega);refine WC.sound aa (ao @aH @e1 ?_);exact ay.mk () ⟨E,V,ce,cv,tn⟩
  have e1:decide ((d:Int)+1<=deep)=true:=decide_eq_true (by omega);have uJ:((d:Int)+1)=((d+1:Nat):Int):=by omega
  have AA:((d:Int)+1+1)=((d+2:Nat):Int):=by omega
  refine VC.ag aa (ao @aH @e1 ?_);refine VC.bu (VC.aB ?_);refine VC.ag aa (ae @aH ?_);refine VC.bz [0,1,5,8,9] (fun tk:aC=>[.v (.int .i64 w),.v (.int .i64 deep),.ptr (K+2) 0,.v (.int .i64 (d+1)),.sl (tA w deep (d+1)).length ((tA w deep (d+1)).flatMap aF) tk]) (fun _ O'=>O4.Ge O') ?_ ?_
  ·refine VC.ag aa (ae @aH ?_);refine VC.aB ?_;refine VC.bE [9,46] [0,1,5,8,45] (fun x:Nat×aC=>[.sl (qA deep (d+1) x.1).length ((qA deep (d+1) x.1).flatMap aF) x.2,mi x.1]) (fun x O'=>x.1<=w/\O4.Ge O'/\App O' O4.next 8 x.2) (fun x=>w - x.1) (0,.nil) ?_ ?_ (h0:=by dsimp only;rw[abv];rfl)
   ·exact⟨Nat.zero_le _,VH.Ge.refl _,trivial⟩
   rintro⟨j,tk⟩ O5 ⟨hj,bG,jF⟩;dsimp only at hj jF;by_cases bm:j<w;rotate_left
   ·obtain rfl:j=w:=by omega
    refine WC.sound aa (ae @aH ?_);exact ay.mk tk bG
   have ew:((j:Int)+1)=((j+1:Nat):Int):=by omega
   have Aw:=NI deep (d+1) j;refine VC.ag aa (ae @aH ?_);refine VC.ag aa (ae @aH ?_);refine VC.bu (VC.aB ?_);refine VC.ag aa (ae @aH ?_);by_cases h3:d+1<deep
   ·have e2:decide ((d:Int)+1<deep)=true:=decide_eq_true (by omega);refine VC.ag aa (ao @aH @e2 ?_);refine WC.sound aa (ao @aH @AA ?_);have kD:=su (d+2) O5 (by omega);simp only[aq]at kD;rw[show((d+2:Nat):Int)=((d+2:Nat):Int)from rfl]at kD;refine ah.rt kD ?_;rintro _ O6 ⟨rfl,fO⟩;have lO6:=iI (n:=(d+2)) (by omega);clear kD;refine ae @aH ?_;have kD:=su (j+1) O6 (by omega);simp only[aq]at kD;rw[<-ew]at kD;refine ah.rt kD ?_;rintro _ O7 ⟨rfl,eH⟩;have lO7:=iI (n:=(j+1)) (by omega);clear kD;refine ae @aH ?_;have kC:=zZ (112::(gq (d+2)++[46]++gq (j+1))) [49] 0 O7;simp only[fq,aF,aq,gS,List.length_nil,List.flatMap_nil]at kC;refine ah.rt kC ?_;rintro _ O8 ⟨rfl,fE⟩;clear kC;refine ae @aH ?_;have afh:=fO.trans (eH.trans fE);have sQ:=jF.ge afh;refine VL.app (bd (tk:=tk) (tk':=.full) (n:=(qA deep (d+1) j).length) (k:=1) (cs:=(qA deep (d+1) j).flatMap aF) (ds:=[.str [103],.str (112::(gq (d+2)++[46]++gq (j+1))),.str [49],.str [],.str [],.v (.int .i64 0),.v (.int .i64 0),.sl 0 [] .ar]) xk uo.1.1 sQ (aX eQ _) rfl rfl (by decide) (by decide) (by omega) (by simp only[maxLen];omega)) ?_;refine ae @aH ?_;refine WC.sound aa (ao @aH @ew ?_);have afi:=bG.trans afh;exact aD.next (j+1,.own O8.next 8) ⟨bm,cj.dW afi sQ (cj.after sQ),App.after afi.next⟩ (hl:=by dsimp only;rw[HU h3,List.length_append,List.flatMap_append,List.flatMap_singleton,dP,List.append_assoc];rfl)
   ·have e2:decide ((d:Int)+1<deep)=false:=decide_eq_false (by omega);refine VC.ag aa (ao @aH @e2 ?_);refine WC.sound aa (ae @aH ?_);refine WC.sound aa (ao @aH @ew ?_);exact aD.next (j+1,tk) ⟨bm,bG,jF⟩ (hl:=by dsimp only;rw[SK h3,SK h3];rfl)
  rintro tk O5 bG;have hs5:=tn.ge bG;clear tn;refine VC.ag aa (ae @aH ?_);refine VC.aB ?_;refine VC.bE [67] [0,1,5,8,9,66] (fun j:Nat=>[mi j]) (fun j O'=>j<=w/\∃E V ce cv,ig O' (K+2) (rowsOf (rB w deep d++Gl w deep (d+1) j)) E V K (K+1) ce cv 0 0) (fun j=>w - j) (0) ?_ ?_
  ·exact⟨Nat.zero_le _,E,V,ce,cv,by simpa[Gl]using hs5⟩
  clear hs5;rintro j O6 ⟨hj,E6,V6,c6,d6,Az⟩;by_cases bm:j<w;rotate_left
  ·obtain rfl:j=w:=by omega
   refine WC.sound aa (ae @aH ?_);refine WC.sound aa (ao @aH @uJ ?_);exact aD.next (d+1) ⟨ju,E6,V6,c6,d6,Az⟩
  have ew:((j:Int)+1)=((j+1:Nat):Int):=by omega
  refine VC.ag aa (ae @aH ?_);refine VC.ag aa (ae @aH ?_);refine VC.bu (VC.aB ?_);refine VC.ag aa (ae @aH ?_);refine VC.ag aa (ae @aH ?_);have kD:=su (d+1) O6 (by omega);simp only[aq]at kD;rw[<-uJ]at kD;refine ah.rt kD ?_;rintro _ O7 ⟨rfl,eH⟩;have lO7:=iI (n:=(d+1)) (by omega);clear kD;refine ae @aH ?_;have kD:=su (j+1) O7 (by omega);simp only[aq]at kD;rw[<-ew]at kD;refine ah.rt kD ?_;rintro _ O8 ⟨rfl,fE⟩;have lO8:=iI (n:=(j+1)) (by omega);clear kD;refine ae @aH ?_;have abx:=mJ (Az.ge (eH.trans fE)) (n:=dP (d+1) j) (D:=tA w deep (d+1)) (tk:=tk) rfl rfl (vZ (vh (by omega) (by omega)) QY abw) (fun p hp=>SM (Nat.lt_succ_self d) p hp (Nat.le_refl _)) (by rw[List.length_append,NJ];simp[Gl];have:d*w<=12*9:=Nat.mul_le_mul (by omega) QY;omega);rw[show dP (d+1) j=112::(gq (d+1)++[46]++gq (j+1)) by simp[dP]]at abx;refine ah.rt abx ?_;clear abx;rintro _ O9 ⟨rfl,⟨E9,V9,c9,d9,hs9⟩,n9,hf9⟩;rw[show(112::(gq (d+1)++[46]++gq (j+1)):Bs)=dP (d+1) j by simp[dP],List.append_assoc, <-Wp]at hs9;refine ae @aH ?_;refine WC.sound aa (ae @aH ?_);refine WC.sound aa (ao @aH @ew ?_);exact aD.next (j+1) ⟨bm,E9,V9,c9,d9,hs9⟩
 rintro _ O4 ⟨E4,V4,c4,d4,tn⟩;clear afg;refine VC.ag aa (ae @aH ?_);refine VC.bz [5,12] (fun _:Unit=>[.ptr (K+2) 0,.v (.int .i64 (ja w deep).1)]) (fun _ O'=>O'=O4) ?_ ?_
 ·refine VC.ag aa (ae @aH ?_);refine VC.aB ?_;refine VC.bE [12,13,84] [0,5,83] (fun j:Nat=>[mi (ja w j).1,mi (ja w j).2,mi j]) (fun j O'=>O'=O4/\j<=deep) (fun j=>deep - j) (0) ?_ ?_
  ·exact⟨rfl,Nat.zero_le _⟩
  rintro j Ox ⟨eO,hj⟩;rw[eO];clear eO Ox
  by_cases bm:j<deep;rotate_left
  ·obtain rfl:j=deep:=by omega
   refine WC.sound aa (ae @aH ?_);exact ay.mk () rfl
  have ew:((j:Int)+1)=((j+1:Nat):Int):=by omega
  have hle:=JG QY j;have ny:ja w (j+1)=if(ja w j).1<=4096 then((ja w j).1+(ja w j).2*w,(ja w j).2*w)else ja w j:=rfl
  refine VC.ag aa (ae @aH ?_);refine VC.ag aa (ae @aH ?_);refine VC.bu (VC.aB ?_);generalize hA:ja w j=A at*;obtain⟨A1,A2⟩:=A;dsimp only at hle ny ⊢;by_cases h4:A1<=4096
  ·rw[if_pos h4]at ny;have e1:decide ((A1:Int)<=4096)=true:=decide_eq_true (by omega);have hm:(A2:Int)*(w:Int)=((A2*w:Nat):Int):=by simp
   have hm2:A2*w<=A2*9:=Nat.mul_le_mul_left _ QY;generalize A2*w=M at*;have hm3:(A1:Int)+(M:Int)=((A1+M:Nat):Int):=by omega
   refine VC.ag aa (ae @aH ?_);refine WC.sound aa (dB @aH @e1 @hm @hm3 ?_);refine WC.sound aa (ao @aH @ew ?_);exact aD.next (j+1) ⟨rfl,bm⟩ (hl:=by rw[ny];rfl)
  ·rw[if_neg h4]at ny;have e1:decide ((A1:Int)<=4096)=false:=decide_eq_false (by omega);refine VC.ag aa (ae @aH ?_);refine WC.sound aa (ao @aH @e1 ?_);refine WC.sound aa (ao @aH @ew ?_);exact aD.next (j+1) ⟨rfl,bm⟩ (hl:=by rw[ny];rfl)
 rintro _ Ox eO;rw[eO];clear eO Ox
 obtain⟨r,hr,fc⟩:=Wq (w:=w) nU;have hle:=JG QY deep;generalize (ja w deep).1=A1 at*;have jA:=z6 O4;simp only[bp,gS,v1]at jA;refine VC.ag aa (ae @aH ?_);refine ah.rt jA ?_;clear jA;rintro _ O5 ⟨rfl,bG⟩;refine ae @aH ?_;have n4:=zY (tn.ge bG) (QX QY abw (Nat.le_refl _)) ⟨gS,[97],v1⟩ hr;simp only[bp,gS,v1]at n4;refine ah.rt n4 ?_;rintro _ O6 ⟨ht6,n6,JC⟩;clear n4 tn JC hr;cases r with
 | none=>
   obtain rfl:=ht6;have hb:=fc;dsimp only at hb;have e1:decide ((A1:Int)>4096)=true:=decide_eq_true (by omega);have e2:decide ((4096:Int)<A1)=true:=decide_eq_true (by omega);simp only[mC,Nr,aq];refine ae @aH ?_;refine VC.al ?_;rintro O7 ⟨eH,EF,rX⟩;have jA:=z6 O7;simp only[bp,gS,v1]at jA;refine VC.ag aa (aM @aH @e1 @e2 ?_);refine VC.r5 [3,4,5,6,7,8,9,10,11,12] (fun O'=>O'.hp O6.next=some (.cells [.v (.int .i64 2),.str [103],.str [97],.str [49],.v (.int .i64 0),.v (.int .i64 0),.v (.int .i64 0),.str [116,114,101,101]])) (EF) ?_;refine ab.lp (m:=.agg [.v (.int .i64 2),.str [103],.str [97],.str [49],.v (.int .i64 0),.v (.int .i64 0),.v (.int .i64 0),.str [116,114,101,101]]) 0 ?_ ?_
   ·rintro O2 j0;exact dz @aH @j0
   simp only[aj];refine ab.call (i:=1) jA ?_;rintro _ O8 ⟨rfl,fE⟩;simp only[aj];refine⟨fE.at EF,?_⟩;refine ab.op (i:=2) ?_;refine ae @aH ?_;refine⟨fE.at EF,?_⟩;refine ab.bM [(3,.one),(4,.one),(5,.one),(6,.one),(7,.one),(8,.one),(9,.one),(10,.one),(11,.one),(12,.one)] ?_;refine ae @aH ?_;refine VL.yI aa (bb:=true) (b:=true) (by simp) (fun _=>.inr rfl) (.inl ⟨rfl,rfl⟩) (by kernel_rfl) (by kernel_rfl) rfl rfl rfl rfl ?_;refine ae @aH ?_;refine ah.rt (lB _) ?_;rintro _ Nq rfl;simp only[a_];refine ae @aH ?_;trivial
 | some N=>
   obtain⟨tk1,rfl⟩:=ht6;obtain⟨hN,hb⟩:=fc;have e1:decide ((A1:Int)>4096)=false:=decide_eq_false (by omega);have e2:decide ((4096:Int)<A1)=false:=decide_eq_false (by omega);have hlen:(A1:Int)=N.length:=by rw[hN]
   rw[hlen];simp only[mC,gn,aq];refine ae @aH ?_;refine VC.al ?_;rintro O7 ⟨eH,EF,rX⟩;rw[hlen]at e1 e2;generalize N.flatMap k7=C at*;refine VC.ag aa (aM @aH @e1 @e2 ?_);refine VC.ag aa (ao @aH @EF ?_);refine VL.yI aa (bb:=true) (b:=true) (by simp) (by simp[gk]) (.inl ⟨rfl,rfl⟩) (by kernel_rfl) (by kernel_rfl) rfl rfl rfl rfl ?_;refine ao @aH (show((N.length:Int)==N.length)=true from by simp) ?_;refine ah.rt (lB _) ?_;rintro _ Nq rfl;simp only[a_];refine ae @aH ?_;refine WC.sound aa (ae @aH ?_);trivial
theorem NM (a b:Int) (O:VH) (_:Fu .i64 a) (_:Fu .i64 b):VF Tryz.prog 5 [mi a,mi b] O (aL fun m O'=>m=mb true):=adB a b O
end Go.Proofs.YthobfcojiglpdaaGreatDoor
