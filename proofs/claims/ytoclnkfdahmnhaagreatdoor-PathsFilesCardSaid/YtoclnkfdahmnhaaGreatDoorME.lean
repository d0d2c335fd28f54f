import Derived.Test.YtoclnkfdahmnhaaGreatDoorMD
set_option linter.unusedVariables false
set_option linter.unusedSimpArgs false
namespace Go.Proofs.YtoclnkfdahmnhaaGreatDoor
open Go.RowKit
set_option maxRecDepth 10000
structure PS where
 st:List (Bs×List (Bs×Bs)×List Nd)
 bX:Nat
 dn:Bool
 tx:Bool
 z:Nd
def m_ (s:Bs) (p:PS):Except Int PS:=
 match p.st with
 | []=>if trimB s=[]then .ok p else .error 16
 | (n,a,K)::R=>
   if s=[]then .ok p
   else if p.tx then match K.getLast? with
    | some (.mk _ _ _ t)=>.ok {p with st:=(n,a,K.dropLast++[tK (t++s)])::R}
    | none=>.ok p
   else if 4096<p.bX+1 then .error 2
   else .ok {p with st:=(n,a,K++[tK s])::R,bX:=p.bX+1,tx:=true}
def rW (nm:Bs) (fD:List (Bs×Bs)) (p:PS):Except Int PS:=
 if p.dn then .error 16 else if 64<=p.st.length then .error 2 else if 4096<p.bX+1 then .error 2
 else .ok {p with st:=(nm,fD,[])::p.st,bX:=p.bX+1,tx:=false}
def sW (p:PS):PS:=
 match p.st with
 | []=>p
 | [(n,a,K)]=>{p with st:=[],dn:=true,tx:=false,z:=.mk n a K []}
 | (n,a,K)::(n2,a2,K2)::R=>{p with st:=(n2,a2,K2++[.mk n a K []])::R,dn:=false,tx:=false}
def j6 (x:Tk) (p:PS):Except Int PS:=
 if x.kind=4 then m_ x.text p
 else if x.kind=1 then rW x.name x.attrs p
 else if x.kind=2 then(match rW x.name x.attrs p with
  | .error e=>.error e
  | .ok q=>.ok (sW q))
 else if x.kind=3 then(match p.st with
  | []=>.error 16
  | f::_=>if f.1=x.name then .ok (sW p)else .error 14)
 else .ok p
def jg:List Tk->PS->Except (Int×Nat) PS
 | [],p=>.ok p
 | x::l,p=>match j6 x p with
   | .error e=>.error (e,x.off)
   | .ok q=>jg l q
def p0:PS:=⟨[],0,false,false,PC⟩
def gQ (t:Bs):Except (Int×Nat) Nd:=
 match tJ t with
 | .error e=>.error e
 | .ok l=>match jg l p0 with
   | .error e=>.error e
   | .ok p=>if p.st≠[]then .error (13,t.length)else if p.dn then .ok p.z else .error (16,t.length)
def EK:List (Bs×List (Bs×Bs)×List Nd)->Nat
 | []=>0
 | f::R=>1+f.1.length+i_ f.2.1+jO f.2.2+EK R
def F3 (p:PS):Nat:=EK p.st+if p.dn then ky p.z else 0
structure kL (p:PS) (L:Nat):Prop where
 bX:p.bX<=4096
 len:p.st.length<=64
 Lj:p.tx=true->∃n a K t R,p.st=(n,a,K++[tK t])::R
 wt:F3 p<=L+p.bX
theorem wB (K M:List Nd):jO (K++M)=jO K+jO M:=by
 induction K with
 | nil=>rw[List.nil_append,jO,Nat.zero_add]
 | cons x K ih=>rw[List.cons_append,jO,jO,ih];omega
theorem R8 (t:Bs):ky (tK t)=1+t.length:=by rw[tK,zO,i_,jO];simp
theorem kL.more {p:PS} {L L':Nat} (h:kL p L) (hl:L<=L'):kL p L':=⟨h.bX,h.len,h.Lj,by have:=h.wt;omega⟩
theorem VD {s:Bs} {p q:PS} {L:Nat} (h:kL p L) (e:m_ s p= .ok q):kL q (L+s.length):=by
 unfold m_ at e;obtain⟨st,bX,dn,tx,z⟩:=p;obtain⟨h2,h3,h4,h5⟩:=h;dsimp only at e h2 h3 h4 h5;cases st with
 | nil=>
   dsimp only at e;split at e
   ·injection e with e;subst e;exact kL.more ⟨h2,h3,h4,h5⟩ (Nat.le_add_right _ _)
   ·cases e
 | cons f R=>
   obtain⟨n,a,K⟩:=f;dsimp only at e;split at e
   ·injection e with e;subst e;exact kL.more ⟨h2,h3,h4,h5⟩ (Nat.le_add_right _ _)
   split at e
   ·rename_i ht;obtain⟨n',a',K',t,R',he⟩:=h4 ht;injection he with ZY he2;injection ZY with e1 e2;injection e2 with e2 e3
    subst e1;subst e2;subst e3;subst he2
    rw[List.getLast?_concat,List.dropLast_concat]at e;dsimp only[tK]at e;injection e with e;subst e
    refine⟨h2,h3,fun _=>⟨_,_,_,_,_,rfl⟩,?_⟩
    ·simp only[F3,EK,wB,jO,R8]at h5 ⊢;have e6:ky (Nd.mk [] [] [] (t++s))=1+(t++s).length:=R8 _;rw[e6,List.length_append];omega
   split at e
   ·cases e
   ·injection e with e;subst e
    refine⟨by dsimp only;omega,h3,fun _=>⟨_,_,_,_,_,rfl⟩,?_⟩
    ·simp only[F3,EK,wB,jO,R8]at h5 ⊢;omega
theorem EL {nm:Bs} {fD:List (Bs×Bs)} {p q:PS} {L:Nat} (h:kL p L) (e:rW nm fD p= .ok q):kL q (L+nm.length+i_ fD)/\q.st=(nm,fD,[])::p.st:=by
 unfold rW at e;split at e
 ·cases e
 split at e
 ·cases e
 split at e
 ·cases e
 ·injection e with e;subst e
  rename_i hd D2 hc;refine⟨⟨by dsimp only;omega,by simp only[List.length_cons];omega,(fun e=>by cases e),?_⟩,rfl⟩
  ·have h5:=h.wt;simp only[F3,EK,jO,hd]at h5 ⊢;omega
theorem Mh {p:PS} {L:Nat} (h:kL p L):kL (sW p) L:=by
 unfold sW;split
 ·exact h
 ·rename_i n a K hs;obtain⟨h2,h3,h4,h5⟩:=h;refine⟨h2,Nat.zero_le _,(fun e=>by cases e),?_⟩;simp only[F3,EK,hs,zO]at h5 ⊢;simp;omega
 ·rename_i n a K n2 a2 K2 R hs;obtain⟨h2,h3,h4,h5⟩:=h;refine⟨h2,by rw[hs]at h3;simp only[List.length_cons]at h3 ⊢;omega,(fun e=>by cases e),?_⟩;simp only[F3,EK,hs,wB,jO,zO]at h5 ⊢;simp;omega
def Ab (x:Tk):Nat:=x.name.length+i_ x.attrs+x.text.length
theorem Ht {x:Tk} {p q:PS} {L:Nat} (h:kL p L) (e:j6 x p= .ok q):kL q (L+Ab x):=by
 unfold j6 at e;unfold Ab;split at e
 ·exact(VD h e).more (by omega)
 split at e
 ·exact(EL h e).1.more (by omega)
 split at e
 ·split at e
  ·cases e
  ·rename_i q' hq;injection e with e;subst e
   exact(Mh (EL h hq).1).more (by omega)
 split at e
 ·split at e
  ·cases e
  ·split at e
   ·injection e with e;subst e;exact(Mh h).more (by omega)
   ·cases e
 ·injection e with e;subst e;exact h.more (by omega)
theorem Mi {n:Bs} {a:List (Bs×Bs)} {K:List Nd} {R:List (Bs×List (Bs×Bs)×List Nd)} {p:PS} {L:Nat} (h:kL p L) (hm:(n,a,K)∈p.st):K.length<=L+4096:=by
 have h5:=h.wt;have h2:=h.bX;have hk:=AN K;unfold F3 at h5
 have:∀st:List (Bs×List (Bs×Bs)×List Nd),(n,a,K)∈st->jO K<=EK st:=by
  intro st;induction st with
  | nil=>intro h;cases h
  | cons f R ih=>
    intro h;rw[EK];rcases List.mem_cons.1 h with rfl | h
    ·dsimp only;omega
    ·have:=ih h;omega
 have:=this _ hm;omega
theorem wC {nm:Bs} {fD:List (Bs×Bs)} {p:PS} {e:Int} (h:rW nm fD p= .error e):e=16\/e=2:=by
 unfold rW at h;split at h
 ·injection h with h;exact .inl h.symm
 split at h
 ·injection h with h;exact .inr h.symm
 split at h
 ·injection h with h;exact .inr h.symm
 ·cases h
theorem Qc {s:Bs} {p:PS} {e:Int} (h:m_ s p= .error e):e=16\/e=2:=by
 unfold m_ at h;split at h
 ·split at h
  ·cases h
  ·injection h with h;exact .inl h.symm
 ·split at h
  ·cases h
  split at h
  ·split at h<;>cases h
  split at h
  ·injection h with h;exact .inr h.symm
  ·cases h
theorem Qd {x:Tk} {p:PS} {e:Int} (h:j6 x p= .error e):e=16\/e=2\/e=14:=by
 unfold j6 at h;split at h
 ·exact(Qc h).imp id .inl
 split at h
 ·exact(wC h).imp id .inl
 split at h
 ·split at h
  ·rename_i h2;injection h with h;subst h
   exact(wC h2).imp id .inl
  ·cases h
 split at h
 ·split at h
  ·injection h with h;exact .inl h.symm
  ·split at h
   ·cases h
   ·injection h with h;exact .inr (.inr h.symm)
 ·cases h
def BP (O:VH) (B k:Nat) (U:List Nat) (p:PS):Prop:=∃R tk,BS O B k R tk p.bX p.dn p.tx (df p.z)/\qZ R=p.st/\∀x∈dD k R tk,x∈U
theorem BP.ge {O O':VH} {B k:Nat} {U:List Nat} {p:PS} (h:BP O B k U p) (g:O.Ge O'):BP O' B k U p:=by
 obtain⟨R,tk,h1,h2,h3⟩:=h;exact⟨R,tk,h1.ge g,h2,h3⟩
def Sp (O O':VH) (B k:Nat) (U:List Nat) (q:PS):Prop:=∃U',(∀x∈U',x∈U\/O.next<=x)/\BP O' B k U' q
theorem Kp.R9 {O O':VH} {S U:List Nat} (h:Kp O O' S) (hs:∀x∈S,x∈U):Kp O O' U:=h.sub fun x hx=>.inl (hs x hx)
theorem Sp.refl {O:VH} {B k:Nat} {U:List Nat} {q:PS} (h:BP O B k U q):Sp O O B k U q:=⟨U,fun _ h=>.inl h,h⟩
theorem Sp.trans {O O1 O2:VH} {B k:Nat} {U U1:List Nat} {q:PS} (hl:O.next<=O1.next) (h1:∀x∈U1,x∈U\/O.next<=x) (h:Sp O1 O2 B k U1 q):Sp O O2 B k U q:=by
 obtain⟨U2,h2,h3⟩:=h;exact⟨U2,fun x hx=>(h2 x hx).elim (h1 x) fun e=>.inr (by omega),h3⟩
theorem ZZ {O:VH} {B k:Nat} {U:List Nat} {p:PS} {L:Nat} (h:BP O B k U p) (hp:kL p L) (hL:L<=100000) (s:Bs) (hs:s.length<=1000000):
  VF Tryz.prog 266 [.ptr k 0,.str s] O (aD fun m O'=>Kp O O' U/\match m_ s p with
   | .error e=>m=mi e
   | .ok q=>m=mi 0/\Sp O O' B k U q):=by
 obtain⟨R,tk,hb,hR,hU⟩:=h;obtain⟨st,bX,dn,tx,z⟩:=p;dsimp only at hb hR;subst hR;have hlen:=hp.len;dsimp only[qZ]at hlen;rw[List.length_map]at hlen;have aiy:bX<=4096:=hp.bX;cases R with
 | nil=>
   refine VF.mono ?_ (Mb hb s (by simp only[maxLen];omega));rintro(m | m) O' hr
   ·obtain⟨rfl,rfl⟩:=hr;refine⟨Kp.refl,?_⟩;have e5:m_ s ⟨qZ [],bX,dn,tx,z⟩=if trimB s=[]then .ok ⟨[],bX,dn,tx,z⟩else .error 16:=rfl
    rw[e5];by_cases h2:trimB s=[]
    ·rw[if_pos h2,if_pos h2];exact⟨rfl,Sp.refl ⟨[],tk,hb,rfl,hU⟩⟩
    ·rw[if_neg h2,if_neg h2]
   ·exact hr.elim
 | cons r R=>
   simp only[List.length_cons]at hlen
   have jY:r.kids.length<=1000000:=by
    have:=Mi (R:=[]) hp (List.mem_cons_self (a:=(r.name,r.attrs,r.kids)) (l:=qZ R));omega
   by_cases TA:s=[]
   ·subst TA;refine VF.mono ?_ (Mc hb (by omega));rintro(m | m) O' hr
    ·obtain⟨rfl,rfl⟩:=hr;exact⟨Kp.refl,rfl,Sp.refl ⟨r::R,tk,hb,rfl,hU⟩⟩
    ·exact hr.elim
   have hne:(s==[])=false:=by cases s<;>simp at TA ⊢
   cases tx with
   | true=>
     obtain⟨n,a,K,t,R',he⟩:=hp.Lj rfl;have he:(r.name,r.attrs,r.kids)::qZ R=(n,a,K++[tK t])::R':=he;injection he with ZY he2;injection ZY with e1 e2;injection e2 with e2 e3
     have ht:t.length<=1000000:=by
      have h5:=hp.wt;have e4:qZ (r::R)=(r.name,r.attrs,r.kids)::qZ R:=rfl;simp only[F3,e4,EK,e3,wB,jO,R8]at h5;omega
     refine VF.mono ?_ (Me hb (by omega) s t K (by omega) e3 (by omega) jY hne);rintro(m | m) O' hr
     ·obtain⟨rfl,h1,h2⟩:=hr;refine⟨h1.R9 hU,?_⟩
      have e5:m_ s ⟨qZ (r::R),bX,dn,true,z⟩= .ok ⟨(r.name,r.attrs,K++[tK (t++s)])::qZ R,bX,dn,true,z⟩:=by
       unfold m_;show(if s=[]then _ else _)=_;rw[if_neg TA,if_pos rfl,e3,List.getLast?_concat,List.dropLast_concat];rfl
      rw[e5];exact⟨rfl,U,fun _ h=>.inl h,_,tk,h2,rfl,hU⟩
     ·exact hr.elim
   | false=>
     refine VF.mono ?_ (Mf hb (by omega) (by omega) s (by omega) jY hne);rintro(m | m) O' hr
     ·obtain⟨h1,hr⟩:=hr;refine⟨h1.R9 hU,?_⟩
      have e5:m_ s ⟨qZ (r::R),bX,dn,false,z⟩=if 4096<bX+1 then .error 2 else .ok ⟨(r.name,r.attrs,r.kids++[tK s])::qZ R,bX+1,dn,true,z⟩:=by
       unfold m_;show(if s=[]then _ else _)=_;rw[if_neg TA,if_neg (by simp)];rfl
      rw[e5];by_cases hc:4096<bX+1
      ·rw[decide_eq_true hc]at hr;rw[if_pos hc];exact hr
      ·rw[decide_eq_false hc]at hr;rw[if_neg hc];obtain⟨rfl,q',h2,h3⟩:=hr;refine⟨rfl,dD k ({r with kids:=r.kids++[tK s],q:=q'}::R) tk,fun x hx=>?_,_,tk,h2,rfl,fun _ h=>h⟩;have hx:x∈k::((r.b::R.map (·.b))++(gid q').toList++(Tok.id tk).toList):=hx;simp only[List.mem_cons,List.mem_append]at hx;rcases hx with rfl | ((rfl | hx) | hx) | hx
       ·exact .inl (hU _ m7)
       ·exact .inl (hU _ oY)
       ·obtain⟨g,hg,rfl⟩:=List.mem_map.1 hx;exact .inl (hU _ (z_ (List.mem_cons_of_mem _ hg)))
       ·rcases h3 x (by simpa using hx)with e | e
        ·exact .inl (hU _ (m9 e))
        ·exact .inr e
       ·exact .inl (hU _ (CP (by simpa using hx)))
     ·exact hr.elim
theorem R_ {O:VH} {B k:Nat} {U:List Nat} {p:PS} {L:Nat} (h:BP O B k U p) (hp:kL p L) (hL:L<=100000) (kd:Int) (nm tt:Bs) (fD:List (Bs×Bs)) (p1 p2 p3:Int) (Hs:fD.length<=100000):
  VF Tryz.prog 267 [.ptr k 0,.agg [mi kd,.str nm,.sl fD.length (fD.flatMap aY) .aq,.str tt,mi p1,mi p2,mi p3]] O (aD fun m O'=>Kp O O' U/\match rW nm fD p with
   | .error e=>m=mi e
   | .ok q=>m=mi 0/\Sp O O' B k U q):=by
 obtain⟨R,tk,hb,hR,hU⟩:=h;obtain⟨st,bX,dn,tx,z⟩:=p;dsimp only at hb hR;subst hR;have aiy:bX<=4096:=hp.bX
 have jY:∀r∈R,r.kids.length<=1000000:=fun r hr=>by
  have:=Mi hp (show(r.name,r.attrs,r.kids)∈qZ R from List.mem_map.2 ⟨r,hr,rfl⟩) (R:=[]);omega
 refine VF.mono ?_ (ZT hb (by omega) kd nm tt fD p1 p2 p3 Hs jY);have hl:(qZ R).length=R.length:=by unfold qZ;rw[List.length_map]
 rintro(m | m) O' hr
 ·obtain⟨h1,hr⟩:=hr;refine⟨h1.R9 hU,?_⟩;unfold rW;unfold qC at hr;dsimp only;rw[hl];cases dn
  ·rw[if_neg (by simp)]at hr ⊢;by_cases D2:64<=R.length
   ·rw[if_pos D2]at hr ⊢;exact hr
   ·rw[if_neg D2]at hr ⊢;by_cases hc:4096<bX+1
    ·rw[if_pos hc]at hr ⊢;exact hr
    ·rw[if_neg hc]at hr ⊢;obtain⟨rfl,R',tk',h2,h3,h4⟩:=hr;exact⟨rfl,dD k R' tk',fun x hx=>(h4 x hx).imp (hU x) id,R',tk',h2,h3,fun _ h=>h⟩
  ·rw[if_pos rfl]at hr ⊢;exact hr
 ·exact hr.elim
theorem Sa {O:VH} {B k:Nat} {U:List Nat} {p:PS} {L:Nat} (h:BP O B k U p) (hp:kL p L) (hne:p.st≠[]):
  VF Tryz.prog 268 [.ptr k 0] O (aD fun _ O'=>Kp O O' U/\BP O' B k U (sW p)):=by
 obtain⟨R,tk,hb,hR,hU⟩:=h;obtain⟨st,bX,dn,tx,z⟩:=p;dsimp only at hb hR hne;subst hR;have hlen:=hp.len;dsimp only[qZ]at hlen;rw[List.length_map]at hlen;cases R with
 | nil=>exact absurd rfl hne
 | cons r R=>
   refine VF.mono ?_ (ac8 hb (by simp only[List.length_cons]at hlen;omega));rintro(m | m) O' hr
   ·obtain⟨h1,h2⟩:=hr;refine⟨h1.R9 hU,?_⟩;have aeN:=VB (tk:=tk) hb.c;cases R with
    | nil=>exact⟨[],_,h2,rfl,fun x hx=>hU x (aeN x hx)⟩
    | cons g R=>exact⟨_,_,h2,rfl,fun x hx=>hU x (aeN x hx)⟩
   ·exact hr.elim
theorem VE {O:VH} {B k:Nat} {U:List Nat} {p:PS} {L:Nat} (h:BP O B k U p) (hp:kL p L) (hU:∀x∈U,x<O.next) (t:Bs) (x:Tk) (hL:L+Ab x<=100000) (uk:1<=x.kind/\x.kind<=6):
  VF Tryz.prog 245 [.ptr k 0,.agg (tY t x)] O (aD fun m O'=>Kp O O' U/\match j6 x p with
   | .error e=>m=mi e
   | .ok q=>m=mi 0/\Sp O O' B k U q):=by
 have Hs:x.attrs.length<=100000:=by
  have:∀a:List (Bs×Bs),a.length<=i_ a:=by
   intro a;induction a with
   | nil=>exact Nat.zero_le _
   | cons y a ih=>rw[i_,List.length_cons];omega
  have:=this x.attrs;unfold Ab at hL;omega
 have uL:x.text.length<=100000:=by unfold Ab at hL;omega
 have hLL:L<=100000:=by omega
 have hS:j6 x p=if x.kind=4 then m_ x.text p else if x.kind=1 then rW x.name x.attrs p else if x.kind=2 then(match rW x.name x.attrs p with
  | .error e=>.error e
  | .ok q=>.ok (sW q))else if x.kind=3 then(match p.st with
  | []=>.error 16
  | f::_=>if f.1=x.name then .ok (sW p)else .error 14)else .ok p:=rfl
 rw[hS];clear hS;have hW:x.name.length+i_ x.attrs<=Ab x:=by unfold Ab;omega
 generalize Ab x=W at*;unfold tY;obtain⟨kd,nm,fD,tt,off⟩:=x;dsimp only at Hs uL uk hW ⊢;generalize ((lZ t off:Nat):Int)=p2 at*;generalize EB t off=p3 at*;generalize ((off:Nat):Int)=p1 at*;simp only[ar];refine VF.bO 50 [.tmp 4] Tryz.func245 ?_;refine VC.ag aa (ae @aC ?_);refine VC.bx ?_;rintro O1 ⟨aM,Cu,c5⟩;have h1:=h.ge aM;have jf:Kp O O1 U:=Kp.ge aM;have Ac:∀x∈U,x∈U\/O.next<=x:=fun _ h=>.inl h
 have hnU:O.next ∉ U:=fun hm=>by have:=hU _ hm;omega
 rcases(show kd=4\/kd=1\/kd=2\/kd=3\/kd=5\/kd=6 by omega)with rfl | rfl | rfl | rfl | rfl | rfl
 all_goals simp only[Int.reduceEq,if_true,if_false,reduceIte]
 ·refine VC.ag aa (ao @aC @Cu ?_);refine ah.rt (ZZ h1 hp hLL tt (by omega)) ?_;rintro m O2 ⟨hl,hm⟩;generalize m_ tt p=F at hm ⊢;cases F with
  | error e=>
    dsimp only at hm;subst hm
    refine ae @aC ?_;exact jf.more hl Ac
  | ok q=>
    obtain⟨rfl,hq⟩:=hm;refine ae @aC ?_;exact⟨jf.more hl Ac,hq.trans aM.next Ac⟩
 ·refine VC.ag aa (ao @aC @Cu ?_);refine ah.rt (R_ h1 hp hLL 1 nm tt fD p1 p2 p3 Hs) ?_;rintro m O2 ⟨hl,hm⟩;have EH:=(hl.2 O.next (by omega) hnU).trans Cu;cases hF:rW nm fD p with
  | error e=>
    rw[hF]at hm;dsimp only at hm;subst hm
    rcases wC hF with rfl | rfl
    ·refine aI @aC @EH @ar ?_;exact jf.more hl Ac
    ·refine aI @aC @EH @ar ?_;exact jf.more hl Ac
  | ok q=>
    rw[hF]at hm;obtain⟨rfl,hq⟩:=hm;refine ao @aC @EH ?_;exact⟨jf.more hl Ac,hq.trans aM.next Ac⟩
 ·refine VC.ag aa (ao @aC @Cu ?_);refine ah.rt (R_ h1 hp hLL 2 nm tt fD p1 p2 p3 Hs) ?_;rintro m O2 ⟨hl,hm⟩;have EH:=(hl.2 O.next (by omega) hnU).trans Cu;cases hF:rW nm fD p with
  | error e=>
    rw[hF]at hm;dsimp only at hm;subst hm
    rcases wC hF with rfl | rfl
    ·refine aI @aC @EH @ar ?_;exact jf.more hl Ac
    ·refine aI @aC @EH @ar ?_;exact jf.more hl Ac
  | ok q=>
    rw[hF]at hm;obtain⟨rfl,U2,hU2,hq⟩:=hm;obtain⟨cW,dB⟩:=EL hp hF;refine ao @aC @EH ?_;refine ah.rt (Sa hq cW (by rw[dB];simp)) ?_;rintro m O3 ⟨lN,vu⟩;refine ae @aC ?_;have aeO:∀x∈U2,x∈U\/O.next<=x:=fun x hx=>(hU2 x hx).imp id fun e=>by have:=aM.next;omega
    exact⟨(jf.more hl Ac).more lN aeO,U2,aeO,vu⟩
 ·obtain⟨R,tk,hb,hR,hUo⟩:=h1;have dT:=hb.c.cells;obtain⟨a0,a1,a2,a3,hr⟩:=qB (eK R (df p.z) hb.c.zl);unfold oX at dT;rw[hr]at dT;simp only[ar,a_,List.cons_append,List.nil_append]at dT
  have Qb:R.length<=64:=by
   have:=hp.len;rw[<-hR]at this;unfold qZ at this;rw[List.length_map]at this;exact this
  cases R with
  | nil=>
    have dB:p.st=[]:=hR.symm;rw[dB];dsimp only;refine VC.ag aa (de @aC @Cu @dT @List.length_nil.{0} ?_);exact jf
  | cons r R=>
    have dB:p.st=(r.name,r.attrs,r.kids)::qZ R:=hR.symm;rw[dB];dsimp only;simp only[List.length_cons]at Qb;obtain⟨pre,post,fN,dK,B5,_,_⟩:=hb.c.loc
    have NY:(pre++iG r++post)[r.off]?=some (.str r.name):=by
     rw[List.append_assoc,List.getElem?_append_right (by omega), <-dK,Nat.sub_self];rfl
    generalize pre++iG r++post=C at*;have Qe:BP O1 B k U p:=⟨r::R,tk,hb,hR,hUo⟩;refine VC.ag aa (de @aC @Cu @dT @List.length_cons.{0} ?_);refine VC.lY [7,8] ?_;refine ab.av 0 ?_;refine ae @aC ?_;refine ab.av 5 ?_;refine ae @aC ?_;refine ab.ld (m:=.str nm) 6 ?_ ?_
    ·exact c9 @aC @Cu
    simp only[aj];refine ab.call (i:=1) (EG hb (by omega)) ?_;rintro _ O9 ⟨rfl,eO⟩;simp only[aj];rw[eO];clear eO O9
    refine⟨VH.Ge.refl _,?_⟩;refine ab.av 2 ?_;refine ae @aC ?_;refine ab.av 3 ?_;refine ae @aC ?_;refine ab.ld (m:=.str r.name) 4 ?_ ?_
    ·exact kt3 @aC @fN @NY
    simp only[aj];refine ab.bH [(7,.av),(8,.av)] ?_;by_cases hn:r.name=nm
    ·rw[if_pos hn];have Xc:(r.name==nm)=true:=beq_iff_eq.2 hn;refine ao @aC @Xc ?_;refine ah.rt (Sa Qe hp (by rw[dB];simp)) ?_;rintro m O3 ⟨lN,vu⟩;refine ae @aC ?_;refine WC.sound aa (ae @aC ?_);exact⟨jf.more lN Ac,U,Ac,vu⟩
    ·rw[if_neg hn];have Xc:(r.name==nm)=false:=by simpa using hn
     refine ao @aC @Xc ?_;exact jf
 ·refine VC.ag aa (ao @aC @Cu ?_);refine WC.sound aa (ae @aC ?_);exact⟨jf,U,Ac,h1⟩
 ·refine VC.ag aa (ao @aC @Cu ?_);refine WC.sound aa (ae @aC ?_);exact⟨jf,U,Ac,h1⟩
theorem CQ {t:Bs} {stop:UInt8}:∀(n o:Nat) (acc:Bs) {s:Bs} {o':Nat},eH t stop n o acc= .ok (s,o')->s.length+o<=acc.length+o'
 | 0,o,acc,s,o',h=>by
   unfold eH at h;injection h with h;injection h with h1 h2
   subst h1;subst h2;omega
 | n+1,o,acc,s,o',h=>by
   have done:∀(h:(.ok (acc,o):Except (Int×Nat) (Bs×Nat))= .ok (s,o')),s.length+o<=acc.length+o':=fun h=>by
    injection h with h;injection h with h1 h2
    subst h1;subst h2;omega
   unfold eH at h;cases hg:t[o]? with
   | none=>rw[hg]at h;exact done h
   | some c=>
     rw[hg]at h;simp only at h;split at h
     ·exact done h
     split at h
     ·split at h
      ·cases h
      ·rename_i h5;obtain⟨k1,k2,k3⟩:=zV (by simpa using h5);have:=CQ n _ _ h;rw[List.length_append]at this;omega
     split at h
     ·cases h
     ·have:=CQ n _ _ h;rw[List.length_append]at this;simp only[List.length_cons,List.length_nil]at this;omega
theorem ac9 {t:Bs} {o:Nat} {s:Bs} {o':Nat} (h:tG t o= .ok (s,o')):s.length+o+2<=o':=by
 unfold tG at h;split at h
 ·cases h
 split at h
 ·cases h
 split at h
 ·cases h
 rename_i s2 o2 h2;have:=CQ _ _ _ h2;split at h
 ·cases h
 ·injection h with h;injection h with h1 h3
  subst h1;subst h3
  simp only[List.length_nil]at this;omega
theorem VG (a b:List (Bs×Bs)):i_ (a++b)=i_ a+i_ b:=by
 induction a with
 | nil=>rw[List.nil_append,i_,Nat.zero_add]
 | cons x a ih=>rw[List.cons_append,i_,i_,ih];omega
theorem Sb {t:Bs}:∀(n o:Nat) (l:List (Bs×Bs)) {l':List (Bs×Bs)} {o':Nat},o<=t.length->lu t n o l= .ok (l',o')->i_ l'+o<=i_ l+o'
 | 0,o,l,l',o',ho,h=>by
   rw[lu]at h;injection h with h;injection h with h1 h2
   subst h1;subst h2;omega
 | n+1,o,l,l',o',ho,h=>by
   have uR:=iP t o ho;rw[lu]at h;split at h
   ·injection h with h;injection h with h1 h2
    subst h1;subst h2;omega
   rename_i hc;have cA:1<=j5 t o:=Nat.one_le_iff_ne_zero.2 fun e=>hc (.inl e)
   split at h
   ·cases h
   rename_i nm o2 h2;have hn:=f_ h2;have ct:=iP t o2 (by omega);split at h
   ·cases h
   split at h
   ·cases h
   rename_i y4 o4 h4;have hw:=k9 h4;have cQ:=iP t o4 (by omega);split at h
   ·cases h
   rename_i v o6 h6;have hv:=ac9 h6;have Fq:=zX h6;have:=Sb n o6 _ (by omega) h;rw[VG,i_,i_]at this;dsimp only at this;omega
theorem Bb {t:Bs} {o:Nat} {q s:Bs} {p:Nat} (h:iO t o q= .ok (s,p)):s.length+o<=p:=by
 unfold iO at h;split at h
 ·cases h
 split at h
 ·cases h
 ·rename_i h1;injection h with h;injection h with h2 h3
  have hi:0<=Lib.index (t.drop o) q:=by omega
  unfold pW at h2;rw[if_pos hi]at h2;rw[<-h2,List.length_take];omega
theorem ac_ {t:Bs} {o:Nat} {x:Tk} {o':Nat} (ho:o<=t.length) (h:mu t o= .ok (x,o')):Ab x+o<=o'/\1<=x.kind/\x.kind<=6:=by
 unfold mu at h;unfold Ab;split at h
 ·obtain⟨y,h1,rfl⟩:=jd h;have:=Bb h1;simp only[List.length_cons,List.length_nil,i_]at this ⊢;exact⟨by omega,by decide,by decide⟩
 split at h
 ·obtain⟨y,h1,rfl⟩:=jd h;have:=Bb h1;simp only[List.length_cons,List.length_nil,i_]at this ⊢;exact⟨by omega,by decide,by decide⟩
 split at h
 ·obtain⟨y,h1,rfl⟩:=jd h;have:=Bb h1;simp only[List.length_cons,List.length_nil,i_]at this ⊢;exact⟨by omega,by decide,by decide⟩
 split at h
 ·unfold qz at h;split at h
  ·cases h
  rename_i nm o2 h2;have hn:=f_ h2;obtain⟨y,h1,rfl⟩:=jd h;have:=k9 h1;simp only[List.length_cons,List.length_nil,i_]at this ⊢;exact⟨by omega,by decide,by decide⟩
 split at h
 ·unfold u_ at h;split at h
  ·cases h
  rename_i nm o2 h2;have hn:=f_ h2;split at h
  ·cases h
  rename_i l o3 h3;have ha:=Sb _ _ _ (by omega) h3;rw[i_]at ha;split at h
  all_goals
   obtain⟨y,h1,rfl⟩:=jd h;have:=k9 h1;simp only[List.length_cons,List.length_nil]at this ⊢;exact⟨by omega,by decide,by decide⟩
 ·obtain⟨y,h1,rfl⟩:=jd h;have:=CQ _ _ _ h1;simp only[List.length_nil,i_]at this ⊢;exact⟨by omega,by decide,by decide⟩
def lO (l:List Tk):Nat:=(l.map Ab).sum
theorem EM (l:List Tk) (x:Tk):lO (l++[x])=lO l+Ab x:=by simp[lO]
theorem Mk {t:Bs}:∀(n o:Nat) (l:List Tk) {l':List Tk},o<=t.length->lO l<=o->(∀x∈l,1<=x.kind/\x.kind<=6/\x.off<=t.length)->iF t n o l= .ok l'->lO l'<=t.length/\∀x∈l',1<=x.kind/\x.kind<=6/\x.off<=t.length
 | 0,o,l,l',ho,hl,hk,h=>by
   rw[iF]at h;injection h with h;subst h;exact⟨by omega,hk⟩
 | n+1,o,l,l',ho,hl,hk,h=>by
   rw[iF]at h;split at h
   ·injection h with h;subst h;exact⟨by omega,hk⟩
   rename_i eg;split at h
   ·cases h
   rename_i x o' hx;have h1:=ac_ ho hx;have h2:=LV (by omega) hx;refine Mk n o' _ h2.2.2 ?_ (fun y hy=>?_) h
   ·rw[EM];omega
   ·rcases List.mem_append.1 hy with hy | hy
    ·exact hk y hy
    ·rw[List.mem_singleton]at hy;subst hy;exact⟨h1.2.1,h1.2.2,by omega⟩
theorem Sc {t:Bs} {l:List Tk} (h:tJ t= .ok l):lO l<=t.length/\∀x∈l,1<=x.kind/\x.kind<=6/\x.off<=t.length:=
 Mk _ 0 [] (Nat.zero_le _) (Nat.zero_le _) (fun x hx=>by cases hx) h
theorem Qf (l:List Tk) (x:Tk) (p:PS):jg (l++[x]) p=match jg l p with
  | .error e=>.error e
  | .ok q=>match j6 x q with
    | .error e=>.error (e,x.off)
    | .ok q=>.ok q:=by
 induction l generalizing p with
 | nil=>rfl
 | cons y l ih=>
   rw[List.cons_append,jg,jg];cases j6 y p with
   | error e=>rfl
   | ok q=>exact ih q
theorem Qg {l m:List Tk} {p:PS} {e:Int×Nat} (h:jg l p= .error e):jg (l++m) p= .error e:=by
 induction l generalizing p with
 | nil=>cases h
 | cons y l ih=>
   rw[jg]at h;rw[List.cons_append,jg];split at h
   ·rename_i h1;injection h with h;subst h;rfl
   ·exact ih h
theorem Z0:kL p0 0:=⟨by decide,by decide,(fun e=>by cases e),by simp[F3,p0,EK]⟩
def EN {α :Type} (F:Except (Int×Nat) α):Prop:=∀e,F= .error e->e.1≠0
theorem Ad {t:Bs} {stop:UInt8}:∀(n o:Nat) (acc:Bs),EN (eH t stop n o acc)
 | 0,o,acc=>fun e h=>by unfold eH at h;cases h
 | n+1,o,acc=>fun e h=>by
   unfold eH at h;split at h
   ·cases h
   split at h
   ·cases h
   split at h
   ·split at h
    ·rename_i h5;injection h with h;subst h;exact h5
    ·exact Ad n _ _ e h
   split at h
   ·injection h with h;subst h;simp
   ·exact Ad n _ _ e h
theorem Bc (t:Bs) (o:Nat) {k:Int} (hk:k≠0):EN (jb t o k):=fun e h=>by
 unfold jb at h;split at h
 ·injection h with h;subst h;simp
 split at h
 ·injection h with h;subst h;exact hk
 ·cases h
theorem wD (t:Bs) (o:Nat) (p:Bs):EN (iE t o p):=fun e h=>by
 unfold iE at h;split at h
 ·injection h with h;subst h;simp
 split at h
 ·cases h
 ·injection h with h;subst h;simp
theorem Z1 (t:Bs) (o:Nat):EN (tG t o):=fun e h=>by
 unfold tG at h;split at h
 ·injection h with h;subst h;simp
 split at h
 ·injection h with h;subst h;simp
 split at h
 ·rename_i h2;injection h with h;subst h;exact Ad _ _ _ _ h2
 split at h
 ·injection h with h;subst h;simp
 ·cases h
theorem Ml {t:Bs}:∀(n o:Nat) (l:List (Bs×Bs)),EN (lu t n o l)
 | 0,o,l=>fun e h=>by rw[lu]at h;cases h
 | n+1,o,l=>fun e h=>by
   rw[lu]at h;split at h
   ·cases h
   split at h
   ·rename_i h2;injection h with h;subst h;exact Bc _ _ (by decide) _ h2
   split at h
   ·injection h with h;subst h;simp
   split at h
   ·rename_i h2;injection h with h;subst h;exact wD _ _ _ _ h2
   split at h
   ·rename_i h2;injection h with h;subst h;exact Z1 _ _ _ h2
   ·exact Ml n _ _ e h
theorem ye (t:Bs) (o:Nat) (q:Bs):EN (iO t o q):=fun e h=>by
 unfold iO at h;split at h
 ·injection h with h;subst h;simp
 split at h
 ·injection h with h;subst h;simp
 ·cases h
theorem p8 {α β :Type} {f: α -> β} {F:Except (Int×Nat) (α ×Nat)} (hF:EN F):EN (tH f F):=fun e h=>hF e (mw h)
theorem Z2 (t:Bs) (o:Nat):EN (mu t o):=fun e h=>by
 unfold mu at h;split at h
 ·exact p8 (ye _ _ _) e h
 split at h
 ·exact p8 (ye _ _ _) e h
 split at h
 ·exact p8 (ye _ _ _) e h
 split at h
 ·unfold qz at h;split at h
  ·rename_i h2;injection h with h;subst h;exact Bc _ _ (by decide) _ h2
  ·exact p8 (wD _ _ _) e h
 split at h
 ·unfold u_ at h;split at h
  ·rename_i h2;injection h with h;subst h;exact Bc _ _ (by decide) _ h2
  split at h
  ·rename_i h2;injection h with h;subst h;exact Ml _ _ _ _ h2
  split at h
  ·exact p8 (wD _ _ _) e h
  ·exact p8 (wD _ _ _) e h
 ·exact p8 (Ad _ _ _) e h
theorem Hu {t:Bs}:∀(n o:Nat) (l:List Tk),EN (iF t n o l)
 | 0,o,l=>fun e h=>by rw[iF]at h;cases h
 | n+1,o,l=>fun e h=>by
   rw[iF]at h;split at h
   ·cases h
   split at h
   ·rename_i h2;injection h with h;subst h;exact Z2 _ _ _ h2
   ·exact Hu n _ _ e h
theorem Z3 (t:Bs):EN (tJ t):=Hu _ _ _
theorem EO {t:Bs}:∀(n o:Nat) (l:List Tk) {l':List Tk},iF t n o l= .ok l'->l'.length<=l.length+n
 | 0,o,l,l',h=>by rw[iF]at h;injection h with h;subst h;omega
 | n+1,o,l,l',h=>by
   rw[iF]at h;split at h
   ·injection h with h;subst h;omega
   split at h
   ·cases h
   ·have:=EO n _ _ h;rw[List.length_append]at this;simp only[List.length_cons,List.length_nil]at this;omega
theorem VI {t:Bs} {l:List Tk} (h:tJ t= .ok l):l.length<=t.length+1:=by
 have:=EO _ _ _ h;simpa using this
theorem Qh (l:List Tk) (i:Nat):lO (l.take i)<=lO l:=by
 have:lO l=lO (l.take i)+lO (l.drop i):=by
  unfold lO;rw[<-List.sum_append, <-List.map_append,List.take_append_drop]
 omega
theorem VJ (t:Bs) (x:Tk):oS t x.off= .agg [mi x.off,mi (lZ t x.off),mi (EB t x.off)]:=by
 unfold oS lZ EB;rw[Int.natCast_add];rfl
def zNd:MV:=.agg [.str [],.sl 0 [] .nil,.sl 0 [] .nil,.str []]
theorem Hv {O:VH} {B k:Nat} (hk:k<O.next):∀{R:List Rec},oB O B k R->∀r∈R,r.b<O.next
 | [],_,r,h=>by simp at h
 | [x],h,r,hr=>by rw[List.mem_singleton.1 hr,h.1];exact hk
 | x::p::rest,h,r,hr=>by
   obtain⟨⟨c,_,_,h1⟩,_,_,h2⟩:=h;rcases List.mem_cons.1 hr with rfl | hr
   ·exact h1.hi
   ·exact Hv hk h2 r hr
theorem Z4 {O:VH} {B k bX:Nat} {R:List Rec} {tk:Tok} {dn tx:Bool} {z:List MV} (h:BS O B k R tk bX dn tx z):∀x∈dD k R tk,x<O.next:=by
 have hk:k<O.next:=Nat.lt_of_lt_of_le h.c.lt h.c.le;intro x hx;simp only[dD,List.mem_cons,List.mem_append,List.mem_map,Option.mem_toList]at hx;rcases hx with rfl | ((⟨r,hr,rfl⟩ | hx) | hx)
 ·exact hk
 ·exact Hv hk h.c.chain r hr
 ·obtain⟨r,hr,hq⟩:=Option.bind_eq_some_iff.1 hx;have ht:=h.c.top
  match R,hr,ht with
  | y::R,hr,ht=>
    simp only[List.head?_cons,Option.some.injEq]at hr;subst hr;rcases ht.1 with⟨_,_,e | e⟩ | ⟨j,c,e,_,_,hw⟩
    ·rw[e]at hq;cases hq
    ·rw[e]at hq;cases hq
    ·rw[e]at hq;injection hq with hq;subst hq;exact hw.hi
 ·exact(App.ou h.a hx).2
theorem Z5 (t:Bs) (O:VH) (ht:t.length<=65536):VF Tryz.prog 224 [.str t] O (aD fun m O'=>O.Ge O'/\match gQ t with
  | .ok n=>m= .tuple [.agg (df n),mi 0,.agg [mi 0,mi 0,mi 0]]
  | .error e=>m= .tuple [zNd,mi e.1,oS t e.2]):=by
 have j9:=agt t;have nq:∀e,tJ t= .error e->gQ t= .error e:=fun e h=>by unfold gQ;rw[h]
 have Ba:∀l,tJ t= .ok l->gQ t=(match jg l p0 with
  | .error e=>.error e
  | .ok p=>if p.st≠[]then .error (13,t.length)else if p.dn then .ok p.z else .error (16,t.length)):=fun l h=>by unfold gQ;rw[h];try rfl
 have hW:= @Sc t;have hLn:= @VI t;have hNE:=Z3 t;generalize tJ t=F at*;generalize gQ t=G at*;refine VF.bO 68 [.cell 2 112,.tmp 3,.cell 4 69] Tryz.func224 ?_;refine VC.ag aa (ae @aC ?_);refine VC.gen ?_;intro O1 rU;obtain⟨aM,c5,Cc,qm⟩:=gk _ _ rU;clear rU;refine VC.ag aa (ae @aC ?_);refine ah.rt (j9 O1 ht) ?_;rintro m O2 ⟨ax,hm⟩;have sk:=ax.at Cc;have zQ:=ax.at qm;have gx:=aM.trans ax;have iB:=ax.next;cases F with
 | error e=>
   dsimp only at hm;subst hm;rw[nq e rfl];unfold oS;simp only[ar];refine ae @aC ?_;refine VC.al ?_;rintro O3 ⟨aJ,kZ,gL⟩;have Fs:=aJ.at sk;have oA:=aJ.at zQ;have eG:=gx.trans aJ;have Z6:e.1≠0:=hNE e rfl;refine VC.ag aa (ao @aC @Z6 ?_);refine VC.px [] (O2.next) (kZ) ?_;intro X;have HW:(O3.set O2.next (.obj X)).hp O.next=_:=VH.sn Fs;have IZ:(O3.set O2.next (.obj X)).hp (O.next+1)=_:=VH.sn oA;have p5:(O3.set O2.next (.obj X)).hp O2.next=some (.obj X):=VH.an _ _ _;have gR:O.Ge (O3.set O2.next (.obj X)):=eG.set (by omega) _;generalize O3.set O2.next (.obj X)=O4 at*;refine ab.av 0 ?_;refine ae @aC ?_;refine ab.av 1 ?_;refine ae @aC ?_;refine ab.sE (m:=.agg [.v (.int .i64 e.2),.v (.int .i64 (1+((t.take e.2).count 10:Nat))),.v (.int .i64 ((e.2:Int) - fE (t.take e.2) 10 (t.take e.2).length))]) 2 ?_ ?_
   ·exact eW @aC
   simp only[aj];refine ab.op (i:=3) ?_;refine ao @aC @HW ?_;refine⟨p5,?_⟩;refine ab.av 4 ?_;refine ae @aC ?_;refine ab.op (i:=5) ?_;refine ao @aC @IZ ?_;refine⟨p5,?_⟩;refine ab.mT [] ?_;refine ae @aC ?_;exact⟨((gR.set (Nat.le_refl _) _).set (Nat.le_succ _) _).set (by omega:O.next<=O2.next) _,rfl⟩
 | ok l=>
   obtain⟨pl,rfl,cL⟩:=hm;obtain⟨hWl,ada⟩:=hW rfl;have hG:=Ba l rfl;clear nq Ba;refine ao @aC @ar ?_;refine VC.al ?_;rintro O3 ⟨aJ,kZ,gL⟩;have Fs:=aJ.at sk;have oA:=aJ.at zQ;have eG:=gx.trans aJ;refine VC.ag aa (ae @aC ?_);refine VC.ag aa (ae @aC ?_);refine VC.bx ?_;rintro O4 ⟨bg,ja,gM⟩;refine VC.U6 (k:=O3.next) (ds:=df PC++oX [] .nil 0 false false) ja (eI.cons (Wk.refl _) (eI.cons Wk.tok (eI.cons Wk.tok (eI.refl _)))) ?_;refine VC.gen ?_;intro O5 l0;have gC:O5.hp O3.next=some (.cells (df PC++oX [] .nil 0 false false)):=by rw[l0];exact VH.an _ _ _
   have gu:O5.next=O3.next+1:=by rw[l0];exact gM
   have h5:∀i,i<O3.next->O5.hp i=O3.hp i:=fun i hi=>by rw[l0];exact VH.sn (bg.hp i hi)
   have nu:O.Ge O5:=by rw[l0];exact(eG.trans bg).set (by omega) _
   clear l0;have hz5:=(h5 _ (by omega)).trans Fs;have LD:=(h5 _ (by omega)).trans oA;generalize hk:O3.next=k at*;have hBP:BP O5 (k+1) k [k] p0:=⟨[],.nil,⟨⟨Nat.lt_succ_self _,by omega,gC,rfl,trivial,trivial⟩,trivial⟩,rfl,fun x hx=>hx⟩
   have hlen:jJ (fF Tryz.prog) 155 pl=some (.v (.int .i64 l.length)):=by
    rcases cL with⟨h0,_,rfl | rfl⟩ | ⟨k,c,rfl,_⟩
    ·rw[h0];exact iS DY
    ·rw[h0];exact iS DY
    ·exact GK DY
   rw[uM,DY]at hlen;have tT:l.length<=1000000:=by have:=hLn rfl;omega
   refine VC.bJ [0,2,4,8] (fun _:PS=>[.str t,.ptr O.next 0,.ptr (O.next+1) 0,.ptr k 0]) (fun p O'=>jg l p0= .ok p/\kL p (lO l)/\Kp O5 O' [k]/\∃U,BP O' (k+1) k U p) ?_ ?_;rotate_left
   ·rintro p O6 ⟨cc,cW,Z7,U,Qe⟩;rw[cc]at hG;dsimp only at hG;have hO6:∀j,j<k->O6.hp j=O5.hp j:=fun j hj=>Z7.2 j (by omega) (by simp;omega)
    have hz6:=(hO6 _ (by omega)).trans hz5;have Z8:=(hO6 _ (by omega)).trans LD;have ov:=Z7.1;have Sd:O.Ge O6:=⟨by omega,fun j hj=>(hO6 j (by omega)).trans (nu.hp j hj)⟩;obtain⟨R,tk,hb,hR,hUo⟩:=Qe;have oR:=hb.c.cells;refine VC.ag aa (ae @aC ?_);refine ah.rt (aeE t t.length _ (by omega) (Nat.le_refl _)) ?_;rintro _ O7 ⟨rfl,fc⟩;have tW:=(fc.hp k (by omega)).trans oR;have hz7:=fc.at hz6;have Z9:=fc.at Z8;have BX:=Sd.trans fc;have tV:=fc.next;have Se:oS t t.length= .agg [mi t.length,mi (1+((t.take t.length).count 10:Nat)),mi ((t.length:Int) - fE (t.take t.length) 10 (t.take t.length).length)]:=rfl;simp only[ar]at Se;generalize (1+((t.take t.length).count 10:Nat):Int)=y1 at*;generalize ((t.length:Int) - fE (t.take t.length) 10 (t.take t.length).length)=y2 at*;rw[Se];refine ae @aC ?_;refine VC.al ?_;rintro O8 ⟨ik,VK,D7⟩;have tZ:=(ik.hp k (by omega)).trans tW;have Z_:=ik.at hz7;have Ae:=ik.at Z9;have Mm:=BX.trans ik;obtain⟨b0,b1,b2,b3,kK⟩:=qB (eK R (df p.z) hb.c.zl);unfold oX at tZ;rw[kK]at tZ;simp only[ar,a_,List.cons_append,List.nil_append]at tZ;cases R with
    | cons r R=>
      have dB:p.st≠[]:=by rw[<-hR];simp[qZ]
      rw[if_pos dB]at hG;subst hG;dsimp only;rw[Se]
      have Qb:R.length<=64:=by
       have:=cW.len;rw[<-hR]at this;unfold qZ at this;rw[List.length_map,List.length_cons]at this;omega
      simp only[List.length_cons]at tZ;refine VC.ag aa (ao @aC @tZ ?_);refine VC.px [] (O7.next) (VK) ?_;intro X;have HW:((O8).set (O7.next) (.obj X)).hp O.next=_:=VH.sn Z_;have IZ:((O8).set (O7.next) (.obj X)).hp (O.next+1)=_:=VH.sn Ae;have p5:((O8).set (O7.next) (.obj X)).hp (O7.next)=some (.obj X):=VH.an _ _ _;have gR:O.Ge ((O8).set (O7.next) (.obj X)):=Mm.set (by omega) _;generalize (O8).set (O7.next) (.obj X)=Ox at*;refine ab.av 0 ?_;refine ae @aC ?_;refine ab.sE (m:=.agg [.v (.int .i64 t.length),.v (.int .i64 y1),.v (.int .i64 y2)]) 1 ?_ ?_
      ·exact eW @aC
      simp only[aj];refine ab.op (i:=2) ?_;refine ao @aC @HW ?_;refine⟨p5,?_⟩;refine ab.av 3 ?_;refine ae @aC ?_;refine ab.op (i:=4) ?_;refine ao @aC @IZ ?_;refine⟨p5,?_⟩;refine ab.mT [] ?_;refine ae @aC ?_;exact⟨((gR.set (Nat.le_refl _) _).set (Nat.le_succ _) _).set (by omega:O.next<=O7.next) _,rfl⟩
    | nil=>
      have dB:p.st=[]:=hR.symm;rw[if_neg (by rw[dB];simp)]at hG;simp only[List.length_nil]at tZ;cases Fy:p.dn with
      | false=>
        rw[Fy]at hG tZ;rw[if_neg (by simp)]at hG;subst hG;dsimp only;rw[Se];refine VC.ag aa (ao @aC @tZ ?_);refine VC.px [] (O7.next) (VK) ?_;intro X;have HW:((O8).set (O7.next) (.obj X)).hp O.next=_:=VH.sn Z_;have IZ:((O8).set (O7.next) (.obj X)).hp (O.next+1)=_:=VH.sn Ae;have p5:((O8).set (O7.next) (.obj X)).hp (O7.next)=some (.obj X):=VH.an _ _ _;have gR:O.Ge ((O8).set (O7.next) (.obj X)):=Mm.set (by omega) _;generalize (O8).set (O7.next) (.obj X)=Ox at*;refine ab.av 0 ?_;refine ae @aC ?_;refine ab.sE (m:=.agg [.v (.int .i64 t.length),.v (.int .i64 y1),.v (.int .i64 y2)]) 1 ?_ ?_
        ·exact eW @aC
        simp only[aj];refine ab.op (i:=2) ?_;refine ao @aC @HW ?_;refine⟨p5,?_⟩;refine ab.av 3 ?_;refine ae @aC ?_;refine ab.op (i:=4) ?_;refine ao @aC @IZ ?_;refine⟨p5,?_⟩;refine ab.mT [] ?_;refine ae @aC ?_;exact⟨((gR.set (Nat.le_refl _) _).set (Nat.le_succ _) _).set (by omega:O.next<=O7.next) _,rfl⟩
      | true=>
        rw[Fy]at hG tZ;rw[if_pos rfl]at hG;subst hG;dsimp only;have kK:df p.z=[b0,b1,b2,b3]:=kK;refine VC.ag aa (ao @aC @tZ ?_);generalize p.z=pz at*;obtain⟨zn,za,cR,zt⟩:=pz;rw[df]at kK;injection kK with e1 kK;injection kK with e2 kK;injection kK with e3 kK;injection kK with e4 kK
        subst e1;subst e2;subst e3;subst e4
        refine WC.sound aa (de @aC @tZ @Z_ @Ae ?_);rw[df];exact⟨(Mm.set (Nat.le_refl _) _).set (Nat.le_succ _) _,rfl⟩
   refine VC.ag aa (ao @aC @hlen ?_);refine VC.aB ?_;refine VC.bP [28] [0,2,4,8,26,27] (fun i:Nat=>[mi i]) (fun i O'=>i<=l.length/\Kp O5 O' [k]/\∃p U,jg (l.take i) p0= .ok p/\kL p (lO (l.take i))/\BP O' (k+1) k U p/\(∀x∈U,(x=k\/O5.next<=x)/\x<O'.next)) (fun i=>l.length - i) (0) ?_ ?_
   ·exact⟨Nat.zero_le _,Kp.refl,p0,[k],rfl,Z0,hBP,fun x hx=>by rw[List.mem_singleton]at hx;subst hx;exact⟨.inl rfl,by omega⟩⟩
   rintro i O6 ⟨hi,Hw,p,U,cc,cW,Qe,hU⟩;dsimp only at hi ⊢;by_cases gd:i<l.length;rotate_left
   ·obtain rfl:i=l.length:=by omega
    rw[List.take_length]at cc cW;refine WC.sound aa (ao @aC @ar ?_);exact aA.mk p ⟨cc,cW,Hw,U,Qe⟩
   obtain⟨kr,cr,rfl,kz⟩:∃kr cr,pl= .bp kr 0 l.length cr/\Row O2 153 7 O1.next kr cr (l.flatMap (tY t)):=by
    rcases cL with⟨h0,_⟩ | ⟨kr,cr,hp,_,_,h⟩
    ·omega
    ·exact⟨kr,cr,hp,h⟩
   obtain⟨sp,wU,u9⟩:=kz.cells;have aiz:=kz.hi;have aiA:O6.hp kr=some (.cells (l.flatMap (tY t)++sp)):=(Hw.2 kr (by omega) (by simp;omega)).trans ((h5 kr (by omega)).trans ((aJ.hp kr aiz).trans wU));have nr:(l.flatMap (tY t)).length=l.length*7:=aT (ve t) l
   have bA:((l.flatMap (tY t)++sp).drop (i*7)).take 7=tY t l[i]:=by
    rw[List.drop_append_of_le_length (by omega),List.take_append_of_le_length (by rw[List.length_drop];omega)];exact cg (ve t) l i gd
   have hCl:i*7+7<=(l.flatMap (tY t)++sp).length:=by rw[List.length_append];omega
   have eb:=cY l i gd
   have VN:jg (l.take (i+1)) p0=(match j6 l[i] p with
     | .error e=>.error (e,l[i].off)
     | .ok q=>.ok q):=by rw[eb,Qf,cc];try rfl
   have hws:lO (l.take (i+1))=lO (l.take i)+Ab l[i]:=by rw[eb,EM]
   have ox:=Qh l (i+1);have uk:=ada l[i] (List.getElem_mem gd)
   have agz:∀e,jg (l.take (i+1)) p0= .error e->G= .error e:=fun e h=>by
    have:=Qg (m:=l.drop (i+1)) h;rw[List.take_append_drop]at this;rw[this]at hG;exact hG
   have dK:=VJ t l[i];clear cc eb;have aiB:tY t l[i]=[mi l[i].kind,.str l[i].name,.sl l[i].attrs.length (l[i].attrs.flatMap aY) .aq,.str l[i].text,mi l[i].off,mi (lZ t l[i].off),mi (EB t l[i].off)]:=rfl;generalize hxg:l[i]=x at*;generalize l.flatMap (tY t)++sp=C at*;refine VC.ag aa (ao @aC @ar ?_);refine VC.ag aa (ae @aC ?_);refine VC.bC (VC.aB ?_);rw[aiB]at bA;simp only[ar]at bA;refine VC.ag aa (aI @aC @aiA @bA ?_);refine VC.al ?_;rintro O7 ⟨fc,hx7,tV⟩;refine VC.ag aa (ao @aC @hx7 ?_);refine ah.rt (VE (Qe.ge fc) cW (fun y hy=>by have:=(hU y hy).2;omega) t x (by omega) ⟨uk.1,uk.2.1⟩) ?_;rintro m O8 ⟨IH,hm⟩;have VK:=(IH.2 _ (by omega) (fun hm=>by have:=(hU _ hm).2;omega)).trans hx7;have aj9:k<O5.next:=by omega
   have hs8:∀j,j<k->O8.hp j=O5.hp j:=fun j hj=>by
    have hjU:j ∉ U:=fun hm=>by have:=(hU _ hm).1;omega
    have h65:=Hw.1;rw[IH.2 j (by omega) hjU,fc.hp j (by omega),Hw.2 j (by omega) (by simp;omega)]
   have Z_:=(hs8 _ (by omega)).trans hz5;have Ae:=(hs8 _ (by omega)).trans LD;have D7:=IH.1;have h65:=Hw.1;have Mm:O.Ge O8:=⟨by omega,fun j hj=>(hs8 j (by omega)).trans (nu.hp j hj)⟩;cases dB:j6 x p with
   | error e=>
     rw[dB]at hm VN;dsimp only at hm VN;subst hm;have hGe:=agz _ VN;subst hGe;dsimp only;rw[dK];simp only[ar];have he:e≠0:=by rcases Qd dB with rfl | rfl | rfl<;>decide
     refine ae @aC ?_;refine VC.ag aa (ao @aC @he ?_);refine WC.sound aa (ae @aC ?_);refine VC.px [] (O6.next) (VK) ?_;intro X;have HW:((O8).set (O6.next) (.obj X)).hp O.next=_:=VH.sn Z_;have IZ:((O8).set (O6.next) (.obj X)).hp (O.next+1)=_:=VH.sn Ae;have p5:((O8).set (O6.next) (.obj X)).hp (O6.next)=some (.obj X):=VH.an _ _ _;have gR:O.Ge ((O8).set (O6.next) (.obj X)):=Mm.set (by omega) _;generalize (O8).set (O6.next) (.obj X)=Ox at*;refine ab.av 0 ?_;refine ae @aC ?_;refine ab.av 1 ?_;refine ae @aC ?_;refine ab.av 2 ?_;refine ae @aC ?_;refine ab.sE (m:=.agg [.v (.int .i64 x.off),.v (.int .i64 (lZ t x.off:Nat)),.v (.int .i64 (EB t x.off))]) 3 ?_ ?_
     ·exact eW @aC
     simp only[aj];refine ab.op (i:=4) ?_;refine ao @aC @HW ?_;refine⟨p5,?_⟩;refine ab.av 5 ?_;refine ae @aC ?_;refine ab.op (i:=6) ?_;refine ao @aC @IZ ?_;refine⟨p5,?_⟩;refine ab.mT [] ?_;refine ae @aC ?_;exact⟨((gR.set (Nat.le_refl _) _).set (Nat.le_succ _) _).set (by omega:O.next<=O6.next) _,rfl⟩
   | ok q=>
     rw[dB]at hm VN;dsimp only at VN;obtain⟨rfl,U2,hU2,hq⟩:=hm;obtain⟨R2,tk2,ct,aiC,Px⟩:=hq;have Af:BP O8 (k+1) k (dD k R2 tk2) q:=⟨R2,tk2,ct,aiC,fun _ h=>h⟩;have Qi:((i:Int)+1)=((i+1:Nat):Int):=by omega
     refine ao @aC @ar ?_;refine WC.sound aa (ao @aC @Qi ?_);refine WC.sound aa (ao @aC @Qi ?_);refine az.next (i+1) ⟨by omega,?_,q,dD k R2 tk2,VN,?_,Af,fun y hy=>?_⟩
     ·refine(Hw.more (Kp.ge fc (S:=[])) (fun y hy=>by cases hy)).more IH fun y hy=>?_
      rcases(hU y hy).1 with e | e
      ·exact .inl (by simp[e])
      ·exact .inr e
     ·rw[hws];exact Ht cW dB
     ·refine⟨?_,Z4 ct y hy⟩;rcases hU2 y (Px y hy)with e | e
      ·exact(hU y e).1
      ·exact .inr (by omega)
set_option linter.defProp false in
def gH:=And.intro jQ<|And.intro DW<|And.intro Lb zA
theorem jC {α :Type} {f: α ->List MV} {k:Nat} (hf:∀x,(f x).length=k) {L:List α} {sp:List MV} {j i:Nat} {x: α} {m:MV} (hj:L[j]?=some x) (hi:(f x)[i]?=some m):(L.flatMap f++sp)[j*k+i]?=some m:=by
 induction L generalizing j with
 | nil=>simp at hj
 | cons y L ih=>
   rw[List.flatMap_cons,List.append_assoc];cases j with
   | zero=>
     simp only[List.getElem?_cons_zero,Option.some.injEq]at hj;subst hj;have:=(List.getElem?_eq_some_iff.1 hi).1;rw[Nat.zero_mul,Nat.zero_add,List.getElem?_append_left this];exact hi
   | succ j=>
     simp only[List.getElem?_cons_succ]at hj;have e:(j+1)*k+i=(f y).length+(j*k+i):=by rw[hf,Nat.succ_mul];omega
     rw[e,List.getElem?_append_right (by omega),show(f y).length+(j*k+i) - (f y).length=j*k+i by omega];exact ih hj
theorem wE {L:List MV} {i:Nat} {m:MV} (h:L[i]?=some m):L.set i m=L:=by
 refine List.ext_getElem? fun j=>?_
 by_cases e:i=j
 ·subst e;rw[List.getElem?_set_self (List.getElem?_eq_some_iff.1 h).1,h]
 ·rw[List.getElem?_set_ne e]
theorem Mn (L:List Dp) (tk:Tok) (O:VH) (hn:L.length<=10000) (hx:∀d∈L,d.x.length<=10000):VF Tryz.prog 226 [.sl L.length (L.flatMap aQ) tk] O (aD fun m O'=>∃t,m= .sl L.length (L.flatMap aQ) t/\O.Ge O'):=by
 have dK:=aT fX L;refine VF.bO 24 [.tmp 2] Tryz.func226 ?_;refine VC.ag aa (ae @gH ?_);refine VC.ag aa (ae @gH ?_);refine ah.rt (ED L tk O (by omega)) ?_;rintro _ O2 ⟨ax,wT⟩;rcases wT with⟨h0,_,hp⟩ | ⟨k,c,rfl,zc,_,cL⟩
 ·obtain rfl:L=[]:=List.eq_nil_of_length_eq_zero h0;rcases hp with rfl | rfl
  ·refine ae @gH ?_;refine VC.bJ [3] (fun _:Unit=>[.sl 0 [] .nil]) (fun _ O'=>O'=O2) ?_ ?_
   ·refine VC.ag aa (ae @gH ?_);refine VC.aB ?_;refine VC.bP [9] [3,8] (fun j:Nat=>[mi 0]) (fun j O'=>O'=O2) (fun j=>0) (0) ?_ ?_
    ·rfl
    rintro j O3 eO;rw[eO];clear eO O3
    refine WC.sound aa (ae @gH ?_);exact aA.mk () rfl
   intro _ O9 eO;rw[eO];clear eO O9
   refine WC.sound aa (ae @gH ?_);exact⟨_,rfl,ax⟩
  ·refine ae @gH ?_;refine VC.bJ [3] (fun _:Unit=>[.sl 0 [] .full]) (fun _ O'=>O'=O2) ?_ ?_
   ·refine VC.ag aa (ae @gH ?_);refine VC.aB ?_;refine VC.bP [9] [3,8] (fun j:Nat=>[mi 0]) (fun j O'=>O'=O2) (fun j=>0) (0) ?_ ?_
    ·rfl
    rintro j O3 eO;rw[eO];clear eO O3
    refine WC.sound aa (ae @gH ?_);exact aA.mk () rfl
   intro _ O9 eO;rw[eO];clear eO O9
   refine WC.sound aa (ae @gH ?_);exact⟨_,rfl,ax⟩
 obtain⟨sp,hc,mO⟩:=cL.cells;have jY:=cL.lo;have P2:=cL.hi;refine ae @gH ?_;refine VC.bJ [3] (fun _:Unit=>[.bp k 0 L.length c]) (fun _ O'=>O2.Ge O') ?_ ?_
 ·refine VC.ag aa (ae @gH ?_);refine VC.aB ?_;refine VC.bP [9] [3,8] (fun j:Nat=>[mi j]) (fun j O'=>O2.Ge O'/\j<=L.length) (fun j=>L.length - j) (0) ?_ ?_
  ·exact⟨VH.Ge.refl _,Nat.zero_le _⟩
  rintro j O3 ⟨aJ,hj⟩;by_cases aX:j<L.length;rotate_left
  ·obtain rfl:j=L.length:=by omega
   refine WC.sound aa (ae @gH ?_);exact aA.mk () aJ
  have eE:=(aJ.hp k P2).trans hc;have bA:(L.flatMap aQ++sp)[j*8+7]?=some (.sl L[j].x.length (L[j].x.flatMap bV) .aq):=jC fX (List.getElem?_eq_getElem aX) rfl;have hxj:=hx L[j] (List.getElem_mem aX);generalize L[j].x=X at*;generalize L.flatMap aQ++sp=C at*;have kh:=wE bA;have IH:=(List.getElem?_eq_some_iff.1 bA).1;have dd:((j:Int)+1)=((j+1:Nat):Int):=by omega
  refine VC.ag aa (ae @gH ?_);refine VC.ag aa (ae @gH ?_);refine VC.bC (VC.aB ?_);refine VC.ag aa (ae @gH ?_);refine WC.sound aa (aI @gH @eE @bA ?_);refine ah.rt (sS X .aq O3 (by omega)) ?_;rintro _ O4 ⟨rfl,bg⟩;have eX:=(bg.hp k (by have:=aJ.next;omega)).trans eE;refine de @gH @eX @bA @kh ?_;rw[VH.vO eX];refine WC.sound aa (ao @gH @dd ?_);exact az.next (j+1) ⟨aJ.trans bg,aX⟩
 intro _ O9 bn;have I0:=(bn.hp k P2).trans hc;refine VC.freeze 3 (sz:=L.length*8) rfl I0 (by rw[List.length_append,dK];omega) ?_;have eb:((L.flatMap aQ++sp).drop 0).take (L.length*8)=L.flatMap aQ:=by rw[List.drop_zero,List.take_append_of_le_length (by rw[dK];exact Nat.le_refl _), <-dK,List.take_length]
 rw[eb];have rX:=ax.trans bn;have jm:O.Ge (O9.kill k):=⟨rX.next,fun i hi=>(VH.kC _ (by omega)).trans (rX.hp i hi)⟩;refine WC.sound aa (ae @gH ?_);exact⟨_,rfl,jm⟩
theorem EP (L:List Dp) (tk:Tok) (O:VH) (hn:L.length<=10000) (hx:∀d∈L,d.x.length<=10000):VF Tryz.prog 226 [.sl L.length (L.flatMap aQ) tk] O (aD fun m O'=>m= .sl L.length (L.flatMap aQ) .aq/\O.Ge O'):=
 VF.Vt (Mn L tk O hn hx) fun m O' ⟨t,h1,h3⟩=>⟨_,h1▸Wk.tok,rfl,h3⟩
def aaa (p:Pm):Prop:=p.props.length<=10000/\p.eu.length<=10000/\p.ec.length<=10000/\(∀d∈p.eu,d.x.length<=10000)/\∀d∈p.ec,d.x.length<=10000
theorem agA (p:Pm) (O:VH) (hp:aaa p):VF Tryz.prog 201 [.agg (fY p)] O (aD fun m O'=>m= .agg (fY p)/\O.Ge O'):=by
 obtain⟨b,⟨pg,pa,pv⟩,g,a,v,pk,P,M,D⟩:=p;obtain⟨h1,h2,h3,h4,h5⟩:=hp;dsimp only at h1 h2 h3 h4 h5;simp only[fY];refine VF.bO 16 [.cell 2 106] Tryz.func201 ?_;refine VC.ag aa (ae @gH ?_);refine VC.gen ?_;rintro O1 rU;obtain⟨aM,c5,cS,cA⟩:=gk _ _ rU;clear rU;refine VC.ag aa (ao @gH @cS ?_);refine ah.rt (EC P .aq O1 (by omega)) ?_;rintro _ O2 ⟨rfl,ax⟩;have jc:=ax.at cS;have ct:=ax.at cA;have iB:=ax.next;refine ao @gH @jc ?_;have hs:(([mb b,.str pg,.str pa,.str pv,.str g,.str a,.str v,.str pk,.sl P.length (P.flatMap aY) .aq,.sl M.length (M.flatMap aQ) .aq,.sl D.length (D.flatMap aQ) .aq]:List MV)).set 8 (.sl P.length (P.flatMap aY) .aq)=[mb b,.str pg,.str pa,.str pv,.str g,.str a,.str v,.str pk,.sl P.length (P.flatMap aY) .aq,.sl M.length (M.flatMap aQ) .aq,.sl D.length (D.flatMap aQ) .aq]:=rfl;rw[VH.vO jc];refine VC.bC ?_;refine VC.px [7,8,9] (O.next) (jc) ?_;intro X;refine ab.av 0 ?_;refine ae @gH ?_;refine ab.sE (m:=.sl M.length (M.flatMap aQ) .aq) 1 ?_ ?_
 ·exact eW @gH
 simp only[aj];refine ab.av 3 ?_;refine ae @gH ?_;refine ab.sE (m:=.sl D.length (D.flatMap aQ) .aq) 4 ?_ ?_
 ·exact eW @gH
 simp only[aj];have hX:=VH.an O2 O.next (.obj X);have gL:(O2.set O.next (.obj X)).next=O2.next:=rfl;have hbX:=(VH.ak O2 (.obj X) (by omega:O.next+1≠O.next)).trans ct;have I1:O.Ge (O2.set O.next (.obj X)):=(aM.trans ax).set (Nat.le_refl _) _;generalize O2.set O.next (.obj X)=O3 at*;refine ab.call (i:=2) (EP M .aq O3 h2 h4) ?_;rintro _ O4 ⟨rfl,bg⟩;simp only[aj];refine⟨bg.at hX,?_⟩;refine ab.av 6 ?_;refine ae @gH ?_;refine ab.call (i:=5) (EP D .aq O4 h3 h5) ?_;rintro _ O5 ⟨rfl,bW⟩;simp only[aj];have D6:=bg.trans bW;refine⟨D6.at hX,?_⟩;have cV:=D6.at hbX;have nu:=I1.trans D6;refine ab.mT [(7,.one),(8,.av),(9,.one)] ?_;refine ae @gH ?_;refine WC.sound aa (ao @gH @cV ?_);exact(((nu.set (Nat.le_refl _) _).set (Nat.le_refl _) _).set (Nat.le_refl _) _).set (Nat.le_succ _) _
set_option linter.defProp false in
def rY:=And.intro gH<|And.intro B2<|And.intro T71<|And.intro T69 aej
theorem Mo:∀{l:List Tk} {p q:PS} {L:Nat},kL p L->jg l p= .ok q->kL q (L+lO l)
 | [],p,q,L,h,e=>by
   rw[jg]at e;injection e with e;subst e;simpa[lO]using h
 | x::l,p,q,L,h,e=>by
   rw[jg]at e;split at e
   ·cases e
   ·rename_i p' hp';have h2:=Mo (Ht h hp') e;have:lO (x::l)=Ab x+lO l:=by simp[lO]
    rw[this, <-Nat.add_assoc];exact h2
theorem VO {t:Bs} {n:Nd} (ht:t.length<=65536) (h:gQ t= .ok n):ky n<=1000000:=by
 unfold gQ at h;split at h
 ·cases h
 ·rename_i l hl;have hw:=(Sc hl).1;split at h
  ·cases h
  ·rename_i p hp;have hk:=Mo Z0 hp;have h1:=hk.wt;have h2:=hk.bX;split at h
   ·cases h
   ·split at h
    ·rename_i hd;injection h with h;subst h;unfold F3 at h1;rw[if_pos hd]at h1;omega
    ·cases h
structure Prb where
 e:Int
 g:Gv
 p1:Int
 p2:Int
 p3:Int
 w:Bs
 deriving DecidableEq
def oZ (x:Prb):List MV:=[mi x.e,.str x.g.g,.str x.g.a,.str x.g.v,mi x.p1,mi x.p2,mi x.p3,.str x.w]
def iH:Prb:=⟨0,⟨[],[],[]⟩,0,0,0,[]⟩
def iJ (t:Bs) (u:Int) (s:Int) (p:Pm) (x:Prb):List MV:=[.str t,.v (.int .u32 u),.v (.int .i32 s),.v (.int .u32 0)]++fY p++oZ x
theorem adb {O:VH} {q:Nat} {t:Bs} {u s:Int} {n:Nd} {p:Pm} (g:Gv) (hq:O.hp q=some (.cells (iJ t u s z6 iH))) (pK:q<O.next) (ht:t.length<=65536) (hb:gQ t= .ok n) (hr:oz n= .ok p):
  VF Tryz.prog 200 [.ptr q 0,.agg (bS g)] O (aD fun m O'=>O'.hp q=some (.cells (iJ t u s p iH))/\bq O (some q) O'):=by
 have Bd:=fun O'=>Z5 t O' ht
 have zW:=fun O'=>ac5 n O' (VO ht hb)
 rw[hb]at Bd;rw[hr]at zW;dsimp only at Bd zW;obtain⟨g1,g2,g3⟩:=g;obtain⟨nn,na,nk,nt⟩:=n;obtain⟨b,⟨pg,pa,pv⟩,pG,pA,pV,pk,P,M,DD⟩:=p;simp only[df]at Bd zW;simp only[iJ,fY,z6,oZ,iH,ar,a_,List.cons_append,List.nil_append,List.length_nil,List.flatMap_nil]at hq zW ⊢;unfold bS;refine VF.bO 46 [] Tryz.func200 ?_;refine VC.ag aa (ae @rY ?_);refine VC.bx ?_;rintro O1 ⟨aM,dT,c5⟩;have hq1:=(aM.hp _ pK).trans hq;refine VC.ag aa (ao @rY @hq1 ?_);refine ah.rt (Bd O1) ?_;rintro _ O2 ⟨ax,rfl⟩;have Af:=ax.at hq1;have iB:=ax.next;refine ae @rY ?_;refine VC.gen ?_;intro O3 F1;have aJ:O2.Ge O3:=by rw[F1];exact((((VH.Ge.refl O2).push _).push _).set (Nat.le_refl _) _).set (Nat.le_succ _) _
 have dG:O3.hp O2.next=some (.cells [.str nn,.sl na.length (na.flatMap aY) .aq,.sl nk.length (ay nk) .aq,.str nt]):=by rw[F1,VH.ak _ _ (by omega)];exact VH.an _ _ _
 have gL:O3.next=O2.next+2:=by rw[F1];rfl
 clear F1;have eG:=(aM.trans ax).trans aJ;have vu:=aJ.at Af;refine VC.ag aa (ae @rY ?_);refine VC.ag aa (ao @rY @dG ?_);refine ah.rt (zW O3) ?_;rintro _ O4 ⟨bg,rfl⟩;have I2:=bg.at vu;have gM:=bg.next;have gR:=eG.trans bg;refine ae @rY ?_;refine VC.al ?_;rintro O5 ⟨bW,gC,gu⟩;have Ef:=bW.at I2;have nu:=gR.trans bW;refine VC.ag aa (ae @rY ?_);refine WC.sound aa (aI @rY @gC @Ef ?_);exact(bq.lI nu).any.trans bq.set
structure c_ (O:VH) (k q:Nat) (O':VH):Prop where
 next:O.next<=O'.next
 hp:∀i,i<O.next->i≠k->i≠q->O'.hp i=O.hp i
theorem c_.ge {O O1 O2:VH} {k q:Nat} (h:c_ O k q O1) (g:O1.Ge O2):c_ O k q O2:=⟨Nat.le_trans h.next g.next,fun i hi a b=>(g.hp i (Nat.lt_of_lt_of_le hi h.next)).trans (h.hp i hi a b)⟩
theorem c_.of {O O1:VH} {k q:Nat} (g:O.Ge O1):c_ O k q O1:=⟨g.next,fun i hi _ _=>g.hp i hi⟩
theorem c_.trans {O O1 O2:VH} {k q:Nat} (h:c_ O k q O1) (g:c_ O1 k q O2):c_ O k q O2:=⟨Nat.le_trans h.next g.next,fun i hi a b=>(g.hp i (Nat.lt_of_lt_of_le hi h.next) a b).trans (h.hp i hi a b)⟩
theorem c_.aeP {O O1:VH} {k q:Nat} {x:b_} (h:c_ O k q O1):c_ O k q (O1.set k x):=⟨h.next,fun i hi a b=>(VH.ak _ _ a).trans (h.hp i hi a b)⟩
theorem c_.aeQ {O O1:VH} {k q:Nat} {x:b_} (h:c_ O k q O1):c_ O k q (O1.set q x):=⟨h.next,fun i hi a b=>(VH.ak _ _ b).trans (h.hp i hi a b)⟩
theorem bq.two {O O1:VH} {k q:Nat} (h:bq O (some q) O1):c_ O k q O1:=⟨h.next,fun i hi _ b=>h.hp i hi (fun e=>b (by injection e with e;exact e.symm))⟩
theorem ade {O:VH} {k q ba bb bc:Nat} {t:Bs} {u s r r2:Int} {n:Nd} {p:Pm} {g:Gv} {m1 m2:MV} (ha:O.hp ba=some (.cells [.ptr k 0])) (yB:O.hp bb=some (.cells [.ptr q 0])) (S7:O.hp bc=some (.cells (bS g))) (hk:O.hp k=some (.cells [m1,m2,mi r,mi r2])) (hq:O.hp q=some (.cells (iJ t u s z6 iH)))
  (jY:k<O.next) (pK:q<O.next) (jX:ba<O.next) (uR:bb<O.next) (mO:bc<O.next) (hkq:k≠q) (ht:t.length<=65536) (hb:gQ t= .ok n) (hr:oz n= .ok p):
  VF Tryz.prog 199 [.ptr ba 0,.ptr bb 0,.ptr bc 0] O (aD fun m O'=>(∃r',O'.hp k=some (.cells [m1,m2,mi r',mi r2]))/\O'.hp q=some (.cells (iJ t u s p iH))/\c_ O k q O'):=by
 have zW:=fun O' h1 h2=>adb (O:=O') (q:=q) (u:=u) (s:=s) g h1 h2 ht hb hr
 have hka:ba≠k:=fun e=>by subst e;rw[ha]at hk;cases hk
 have um:bb≠k:=fun e=>by subst e;rw[yB]at hk;cases hk
 have hkc:bc≠k:=fun e=>by subst e;rw[S7]at hk;unfold bS at hk;cases hk
 obtain⟨g1,g2,g3⟩:=g;unfold bS at S7 zW;simp only[ar]at hk;refine VF.bO 10 [] Tryz.func199 ?_;refine VC.ag aa (aI @rY @dy @ha ?_);refine ah.rt (EF 1 hk rfl) ?_;rintro m O1 ⟨rfl,e1⟩;have dT:O1.hp k=some (.cells [m1,m2,mi (IntKind.i64.wrap (r+1)),mi r2]):=by rw[e1];exact VH.an _ _ _
 have tR:c_ O k q O1:=by rw[e1];exact(c_.of (VH.Ge.refl _)).aeP
 have cA:=(by rw[e1];exact VH.ak _ _ um:O1.hp bb=O.hp bb).trans yB;have fN:=(by rw[e1];exact VH.ak _ _ hkc:O1.hp bc=O.hp bc).trans S7;have hq1:=(by rw[e1];exact VH.ak _ _ (Ne.symm hkq):O1.hp q=O.hp q).trans hq;have c5:O1.next=O.next:=by rw[e1];rfl
 clear e1;refine ao @rY @dy ?_;refine WC.sound aa (aI @rY @cA @fN ?_);refine ah.rt (zW O1 hq1 (by omega)) ?_;rintro m O2 ⟨Af,dk⟩;have bR:=(dk.hp k (by omega) (fun e=>hkq (by injection e with e;exact e.symm))).trans dT;refine ae @rY ?_;exact⟨⟨_,bR⟩,Af,tR.trans dk.two⟩
set_option linter.defProp false in
def ki:=And.intro rY<|And.intro dy<|And.intro T58<|And.intro RN T94
theorem F0.pr {O O':VH} {k ke kv ce cv:Nat} {E V:fj} {r a r' a':Int} (h:F0 O k ke kv E ce V cv r a) (hc:O'.hp k=some (.cells [.map ke,.map kv,mi r',mi a'])) (he:O'.hp ke=O.hp ke) (hv:O'.hp kv=O.hp kv) (hn:O.next<=O'.next):F0 O' k ke kv E ce V cv r' a':=
 ⟨hc,he.trans h.B3,hv.trans h.Hr,h.LY,h.vok,h.ptr,⟨Nat.lt_of_lt_of_le h.lt.1 hn,Nat.lt_of_lt_of_le h.lt.2.1 hn,Nat.lt_of_lt_of_le h.lt.2.2 hn⟩,h.ne⟩
theorem F0.ge {O O':VH} {k ke kv ce cv:Nat} {E V:fj} {r a:Int} (h:F0 O k ke kv E ce V cv r a) (g:O.Ge O'):F0 O' k ke kv E ce V cv r a:=
 h.pr ((g.hp _ h.lt.1).trans h.cell) (g.hp _ h.lt.2.1) (g.hp _ h.lt.2.2) g.next
theorem agB {O:VH} {k ke kv ce cv q:Nat} {E V:fj} {r a:Int} {t:Bs} {n:Nd} {p:Pm} (h:F0 O k ke kv E ce V cv r a) (g:Gv) (hg:sT g) (fO:iX (eA g) E=some (.ptr q 0)) (hq:O.hp q=some (.cells (iJ t 0 0 z6 iH))) (pK:q<O.next) (ht:t.length<=65536) (hb:gQ t= .ok n) (hr:oz n= .ok p) (hp:aaa p):
  VF Tryz.prog 172 [.ptr k 0,.agg (bS g)] O (aD fun m O'=>m= .tuple [.agg (fY p),.agg (oZ iH)]/\(∃r' a',O'.hp k=some (.cells [.map ke,.map kv,mi r',mi a']))/\O'.hp q=some (.cells (iJ t 1 0 p iH))/\c_ O k q O'):=by
 have Ix:q≠k:=fun e=>by subst e;rw[h.cell]at hq;simp[iJ]at hq
 have hqe:q≠ke:=fun e=>by subst e;rw[h.B3]at hq;cases hq
 have hqv:q≠kv:=fun e=>by subst e;rw[h.Hr]at hq;cases hq
 have hL3:(eA g).length=3:=rfl;have hLs:=vo hg;have hLm:bS g=(eA g).map .str:=rfl;have hpc:=fun(O':VH) (ba bb bc:Nat) (m1 m2:MV) (r r2:Int) h1 h2 h3 h4 h5 h6 h7 h8 h9 xI=>ade (O:=O') (k:=k) (q:=q) (ba:=ba) (bb:=bb) (bc:=bc) (u:=0) (s:=1) (r:=r) (r2:=r2) (g:=g) (m1:=m1) (m2:=m2) h1 h2 h3 h4 h5 h6 h7 h8 h9 xI (Ne.symm Ix) ht hb hr
 obtain⟨g1,g2,g3⟩:=g;have hkc:=h.cell;simp only[ar]at hkc;simp only[bS];refine VF.bO 40 [.cell 4 106,.cell 5 71] Tryz.func172 ?_;refine VC.ag aa (ae @ki ?_);refine VC.gen ?_;rintro O1 rU;obtain⟨aM,c5,cS,cA,fN,p6⟩:=PQ _ _ _ _ rU;clear rU;have dT:=(aM.hp _ h.lt.1).trans hkc;refine VC.bJ [2,3,4,5] (fun _:Unit=>[.ptr O.next 0,.ptr (O.next+1) 0,.ptr (O.next+2) 0,.ptr (O.next+3) 0]) (fun _ O'=>O'=O1.set k (.cells [.map ke,.map kv,mi r,mi (IntKind.i64.wrap (a+1))])) ?_ ?_
 ·refine VC.ag aa (ao @ki @cS ?_);refine WC.sound aa (aI @ki @cS @dT ?_);refine ah.rt (EF 1 dT rfl) ?_;rintro m O2 ⟨rfl,e2⟩;refine ae @ki ?_;exact aA.mk () e2
 intro _ O2 e2;have eg:=h.lt;have bR:O2.hp k=some (.cells [.map ke,.map kv,mi r,mi (IntKind.i64.wrap (a+1))]):=by rw[e2];exact VH.an _ _ _
 have gd:∀i,i≠k->O2.hp i=O1.hp i:=fun i hi=>by rw[e2];exact VH.ak _ _ hi
 have iB:O2.next=O.next+4:=by rw[e2];exact c5
 have dk:c_ O k q O2:=by rw[e2];exact(c_.of aM).aeP
 have h2:F0 O2 k ke kv E ce V cv r (IntKind.i64.wrap (a+1)):=h.pr bR ((gd _ (Ne.symm h.ne.1)).trans (aM.hp _ h.lt.2.1)) ((gd _ (Ne.symm h.ne.2.1)).trans (aM.hp _ h.lt.2.2)) dk.next;have jc:=(gd _ (by omega)).trans cS;have ct:=(gd _ (by omega)).trans cA;have jj:=(gd _ (by omega)).trans fN;have jV:=(gd _ (by omega)).trans p6;have Af:=(gd _ Ix).trans ((aM.hp _ pK).trans hq);clear e2 cS cA fN p6 dT bR gd;generalize IntKind.i64.wrap (a+1)=a2 at*;refine VC.ag aa (aI @ki @jc @ct ?_);refine ah.rt (R5 h2 ⟨g1,g2,g3⟩ hg) ?_;rintro _ O3 ⟨rfl,aJ⟩;have hh:AW E ⟨g1,g2,g3⟩=true:=by unfold AW;rw[fO];rfl
 rw[hh];have h3:=h2.ge aJ;have gL:=aJ.next;have oV:=aJ.at jc;have cu:=aJ.at ct;have eE:=aJ.at jj;have zY:=aJ.at jV;have vu:=aJ.at Af;have cN:=dk.ge aJ;clear jc ct jj jV Af dk h2;have dG:=h3.cell;have Qj:=h3.B3;simp only[ar]at dG;refine ae @ki ?_;refine VC.bC ?_;refine WC.bH (.held [7]) [(0,.rd),(1,.rd),(2,.rd),(3,.rd),(4,.rd),(5,.rd),(6,.one),(7,.one)] ?_;refine de @ki @oV @cu @dG ?_;refine VL.hold (.inr rfl) rfl rfl (fI.lA vm aa (l:=eA ⟨g1,g2,g3⟩) (te:=⟨_,1,8,[.v (.pointer none)]⟩) Tryz.underlying94 RN rfl rfl Qj h3.LY rfl hL3 hLs) (WL.sound aa ?_);rw[fO];refine ae @ki ?_;refine VC.al ?_;rintro O4 ⟨bg,gy,gM⟩;have h4:=h3.ge bg;have kG:=bg.at oV;have cQ:=bg.at cu;have eX:=bg.at eE;have x_:=bg.at zY;have I2:=bg.at vu;have fb:=cN.ge bg;have ja:=h4.cell;clear oV cu eE zY vu cN h3 dG Qj hh bg aJ;refine VC.ag aa (ao @ki @gy ?_);have kh:(iJ t 0 0 z6 iH).set (1+1) (.v (.int .i32 1))=iJ t 0 1 z6 iH:=rfl;have Cv:∀{i:Nat} {y:Option b_},i≠q->O4.hp i=y->(O4.set q (.cells (iJ t 0 1 z6 iH))).hp i=y:=fun hi hy=>(VH.ak _ _ hi).trans hy
 refine ah.rt (aiu (off:=1) (Φ :=fun O'=>(∃r',O'.hp k=some (.cells [.map ke,.map kv,mi r',mi a2]))/\O'.hp q=some (.cells (iJ t 0 1 p iH))/\c_ (O4.set q (.cells (iJ t 0 1 z6 iH))) k q O') (g:=199) (xs:=[.ptr O.next 0,.ptr O3.next 0,.ptr (O.next+1) 0]) I2 rfl rfl (by kernel_rfl) (by rw[kh];exact hpc (O4.set q (.cells (iJ t 0 1 z6 iH))) O.next O3.next (O.next+1) _ _ _ _ (Cv (by omega) kG) (Cv (by omega) gy) (Cv (by omega) cQ) (Cv (Ne.symm Ix) ja) (VH.an _ _ _) (by show k<O4.next;omega) (by show q<O4.next;omega) (by show O.next<O4.next;omega) (by show O3.next<O4.next;omega) (by show O.next+1<O4.next;omega)) (fun O' IM=>⟨_,IM.2.1,rfl,rfl⟩)) ?_;rintro m O5 ⟨OX,cs',⟨⟨r',hkX⟩,hqX,huX⟩,ic,e5⟩;rw[hqX]at ic;injection ic with ic;injection ic with ic
 subst ic;have q_:((iJ t 0 1 p iH).set 1 (.v (.int .u32 1))).set (1+1) (.v (.int .i32 0))=iJ t 1 0 p iH:=rfl;rw[q_]at e5;have Ef:O5.hp q=some (.cells (iJ t 1 0 p iH)):=by rw[e5];exact VH.an _ _ _
 have gC:O5.hp k=some (.cells [.map ke,.map kv,mi r',mi a2]):=by rw[e5];exact(VH.ak _ _ (Ne.symm Ix)).trans hkX
 have Zz:c_ O4 k q (O4.set q (.cells (iJ t 0 1 z6 iH))):=(c_.of (VH.Ge.refl _)).aeQ;have Hy:c_ O4 k q O5:=by rw[e5];exact(Zz.trans huX).aeQ
 have gu:=Hy.next;have oQ:=fb.trans ⟨gu,fun i hi=>Hy.hp i hi⟩;have fA:=(Hy.hp _ (by omega) (by omega) (by omega)).trans eX;have IT:=(Hy.hp _ (by omega) (by omega) (by omega)).trans x_;have mI:=(Hy.hp _ (by omega) (by omega) (by omega)).trans gy;clear e5 Hy Zz huX hqX hkX q_ kh Cv kG cQ eX x_ I2 fb ja gy h4;refine ae @ki ?_;have hov:=fun O'=>agA p O' hp
 obtain⟨pb,⟨pg,pa,pv⟩,pG,pA,pV,pk,P,M,DD⟩:=p;simp only[iJ,fY,oZ,iH,ar,a_,List.cons_append,List.nil_append]at Ef hov ⊢;refine VC.bC ?_;have gO:∀{O':VH},O5.Ge O'->O'.hp O3.next=some (.cells [.ptr q 0])/\O'.hp q=O5.hp q:=fun g=>⟨g.at mI,g.hp _ (by omega)⟩
 refine VC.sN [] (fun O'=>O'.hp O3.next=some (.cells [.ptr q 0])/\O'.hp q=O5.hp q) (⟨mI,rfl⟩) ?_;refine ab.mH (m:=.ptr q 0) 0 ?_ ?_
 ·rintro O2 ⟨j1,j2⟩;exact c9 @ki @j1
 simp only[aj];refine ab.av 1 ?_;refine ae @ki ?_;refine ab.av 2 ?_;refine ae @ki ?_;refine ab.mH (m:=.ptr q 0) 5 ?_ ?_
 ·rintro O2 ⟨j1,j2⟩;exact c9 @ki @j1
 simp only[aj];refine ab.av 6 ?_;refine ae @ki ?_;refine ab.av 7 ?_;refine ae @ki ?_;rw[Ef];refine ab.mH (m:=.agg [.v (.int .i64 0),.str [],.str [],.str [],.v (.int .i64 0),.v (.int .i64 0),.v (.int .i64 0),.str []]) 8 ?_ ?_
 ·rintro O2 ⟨j1,j2⟩;exact c9 @ki @j2
 simp only[aj];refine ab.op (i:=3) ?_;refine ao @ki @Ef ?_;refine⟨mI,?_⟩;refine ab.call (i:=4) (hov O5) ?_;rintro _ O6 ⟨rfl,fC⟩;simp only[aj];have n4:=fC.at mI;have hq6:=fC.at Ef;have oR:=fC.at gC;have Be:=fC.at fA;have hd6:=fC.at IT;have ov:=fC.next;have qT:=oQ.ge fC;refine⟨⟨n4,hq6⟩,?_⟩;refine ab.op (i:=9) ?_;refine ao @ki @Be ?_;refine⟨⟨n4,hq6⟩,?_⟩;refine ab.op (i:=10) ?_;refine ao @ki @hd6 ?_;refine⟨⟨n4,hq6⟩,?_⟩;refine ab.bH [] ?_;refine ae @ki ?_;refine VC.gen ?_;intro O7 e7;have vv:∀i,i≠O.next+2->i≠O.next+3->O7.hp i=O6.hp i:=fun i h1 h2=>by rw[e7,VH.ak _ _ h2,VH.ak _ _ h1]
 have tV:O7.next=O6.next:=by rw[e7];rfl
 have hd7:O7.hp (O.next+3)=some (.cells [.v (.int .i64 0),.str [],.str [],.str [],.v (.int .i64 0),.v (.int .i64 0),.v (.int .i64 0),.str []]):=by rw[e7];exact VH.an _ _ _
 have hc7:O7.hp (O.next+2)=some (.cells [.v (.bool pb),.str pg,.str pa,.str pv,.str pG,.str pA,.str pV,.str pk,.sl P.length (P.flatMap aY) .aq,.sl M.length (M.flatMap aQ) .aq,.sl DD.length (DD.flatMap aQ) .aq]):=by rw[e7,VH.ak _ _ (by omega)];exact VH.an _ _ _
 have hq7:=(vv q (by omega) (by omega)).trans hq6;have tW:=(vv k (by omega) (by omega)).trans oR;have Co:c_ O k q O7:=⟨by have:=qT.next;omega,fun i hi h1 h2=>(vv i (by omega) (by omega)).trans (qT.hp i hi h1 h2)⟩;clear e7 vv;refine WC.sound aa (aI @ki @hc7 @hd7 ?_);exact⟨⟨_,_,tW⟩,hq7,Co⟩
set_option linter.defProp false in
def dV:=And.intro ki<|And.intro RM<|And.intro T95 uO
structure vw (O:VH) (V:fj) (N:Nat):Prop where
 row:∀p∈V,∃n cs tk,p.2.1= .sl n cs tk/\cs.length=n/\n<=N/\App O 0 1 tk/\cO cs=cs
 one:∀(i j:Nat) (p r:List Bs×MV×Nat) (n:Nat) (cs:List MV) (tk:Tok) (n':Nat) (cs':List MV) (tk':Tok),V[i]?=some p->V[j]?=some r->i≠j->p.2.1= .sl n cs tk->r.2.1= .sl n' cs' tk'->∀x,Tok.id tk=some x->Tok.id tk'≠some x
theorem aH.ra {P:Program} {n:Sz} {D:List Deferred} {ops:Array Oper} {e:Env} {O:VH} {Q:VQ} {m:MV} {i d:Nat} {op:Op} {ty:TypeId} {ps:String} {af:Array Edge} {g:Option (Nat×Bool)} {K:Env->VH->Prop} (hy:fI P n D (.mk (some d) op ty ps af g) e O m) (h:K ((d,m)::e) O) (ho:ops[i]?=some (.mk (some d) op ty ps af g):=by exact rfl) (hg:aL ops (.mk (some d) op ty ps af g) e=some true:=by exact rfl) (hd:bm n (some d)=true:=by exact rfl):aH P n D ops i e O Q K:=
 aH.hold ho hg hd hy h
def aab (t:Bs):Option Pm->List MV
 | none=>iJ t 0 0 z6 iH
 | some p=>iJ t 1 0 p iH
theorem App.mv {O O':VH} {B sz:Nat} {tk:Tok} (h:App O B sz tk) (hn:O.next<=O'.next) (hi:∀i,i<O.next->O.hp i=some .tok->O'.hp i=some .tok):App O' B sz tk:=by
 cases tk with
 | own t j=>exact⟨h.1,hi _ h.2.2.2 h.2.1,h.2.2.1,Nat.lt_of_lt_of_le h.2.2.2 hn⟩
 | nil=>trivial
 | full=>trivial
 | aq=>exact h.elim
theorem vw.mv {O O':VH} {V:fj} {N:Nat} (h:vw O V N) (hn:O.next<=O'.next) (hi:∀i,i<O.next->O.hp i=some .tok->O'.hp i=some .tok):vw O' V N:=
 ⟨fun p hp=>by obtain⟨n,cs,tk,h1,h2,h3,h4,h5⟩:=h.row p hp;exact⟨n,cs,tk,h1,h2,h3,h4.mv hn hi,h5⟩,h.one⟩
theorem vw.ge {O O':VH} {V:fj} {N:Nat} (h:vw O V N) (g:O.Ge O'):vw O' V N:=h.mv g.next fun i hi e=>(g.hp i hi).trans e
theorem App.off {O:VH} {B sz i:Nat} {tk:Tok} (h:App O B sz tk) (hi:i<O.next) (hn:O.hp i≠some .tok):(O.after tk).hp i=O.hp i:=by
 refine(cP.after h).hp i hi fun e=>hn ?_
 cases tk with
 | own t j=>injection e with e;subst e;exact h.2.1
 | _=>cases e
theorem WR.VP {G:Gh} {O:VH} {w:World} {k:Nat} {cs cs':List MV} (h:WR G O w) (hk:O.hp k=some (.cells cs)) (hw:eI cs cs'):WR G (O.set k (.cells cs')) w:=by
 obtain⟨b,C,T,h1,h2,h3⟩:=h.cells k cs hk;refine h.swap (by rw[hk];simp) (fun ds e=>?_) (fun X e=>by cases e) (fun _ _ e=>by cases e) (fun e=>by cases e) (fun _ _ _ e=>by cases e);injection e with e;subst e
 exact⟨b,C,T,h1,h2,hw.1▸hw.vrs h3⟩
theorem VC.VP {P:Program} {n:Sz} {D:List Deferred} {c:Code} {e:Env} {Q:VQ} {O:VH} {k:Nat} {cs cs':List MV} (hk:O.hp k=some (.cells cs)) (hw:eI cs cs') (h:VC P n D c e (O.set k (.cells cs')) Q):VC P n D c e O Q:=fun G a w h1 h2=>h G a w (h1.VP hk hw) h2
theorem eI.aiD (a1 a2 a3 a4 a5 a6 a7 a8 a9 a10 a11 a12 b1 b2 b3 b4 b5 b6 b7 b8:MV):eI [a1,a2,a3,a4,a5,a6,a7,a8,a9,a10,a11,a12,.sl 0 [] .nil,.sl 0 [] .nil,.sl 0 [] .nil,b1,b2,b3,b4,b5,b6,b7,b8] [a1,a2,a3,a4,a5,a6,a7,a8,a9,a10,a11,a12,.sl 0 [] .aq,.sl 0 [] .aq,.sl 0 [] .aq,b1,b2,b3,b4,b5,b6,b7,b8]:=
 by repeat' first
  | exact eI.refl _
  | exact Wk.refl _
  | exact Wk.tok
  | refine eI.cons ?_ ?_
theorem adf {O:VH} {B sz:Nat} {tk:Tok} (h:App O B sz tk) {x:Nat} (e:Tok.id tk=some x):x<O.next:=(App.ou h e).2
theorem vw.app {O:VH} {V:fj} {N:Nat} (h:vw O V N) {tk:Tok} {p:List Bs×MV×Nat} (ha:App O 0 1 tk) (hp:p∈V) (hne:∀n' cs' tk',p.2.1= .sl n' cs' tk'->∀x,Tok.id tk=some x->Tok.id tk'≠some x):∃n cs t,p.2.1= .sl n cs t/\cs.length=n/\n<=N+1/\App (O.after tk) 0 1 t/\cO cs=cs:=by
 obtain⟨n',cs',t,h1,h2,h3,h4,h5⟩:=h.row p hp;exact⟨n',cs',t,h1,h2,Nat.le_succ_of_le h3,cP.app (cP.after ha) h4 (hne _ _ _ h1),h5⟩
theorem vw.put {O:VH} {V:fj} {N:Nat} (h:vw O V N) (hV:nU 2 V) {l:List Bs} {n ck:Nat} {cs:List MV} {tk:Tok} {v:Bs} (fO:xR false (.sl 0 [] .nil) (iX l V)= .sl n cs tk) (hc:cs.length=n) (hn:n<=N) (ha:App O 0 1 tk) (hu:cO cs=cs):
  vw (O.after tk) (ju l (.sl (n+1) (cs++[.str v]) (.own O.next 1)) ck V) (N+1):=by
 have qw:∃n' cs' t,(MV.sl (n+1) (cs++[.str v]) (.own O.next 1))= .sl n' cs' t/\cs'.length=n'/\n'<=N+1/\App (O.after tk) 0 1 t/\cO cs'=cs':=⟨_,_,_,rfl,by rw[List.length_append,hc];rfl,by omega,App.after (Nat.zero_le _),by rw[mU,hu];simp only[wu]⟩
 have eg:∀p∈V,∀n' cs' t',p.2.1= .sl n' cs' t'->∀x,Tok.id t'=some x->x<O.next:=fun p hp n' cs' t' e x hx=>by
  obtain⟨a,b,c,h1,_,_,h4,_⟩:=h.row p hp;rw[h1]at e;injection e with _ _ e;subst e
  exact adf h4 hx
 unfold ju;cases kf:V.any (·.1==l)
 ·rw[if_neg (by simp)]
  have C_:∀p∈V,p.1≠l:=fun p hp e=>by
   rw[List.any_eq_false]at kf;exact kf p hp (by simp[e])
  rw[wc C_]at fO;simp only[xR]at fO;injection fO with e1 e2 e3;subst e1;subst e2;subst e3
  refine⟨fun p hp=>?_,fun i j p r n' cs' tk' n'' aiE aiF hi hj FB hp hr x hx=>?_⟩
  ·rcases List.mem_append.1 hp with hp | hp
   ·exact h.app ha hp (fun _ _ _ _ x hx=>by cases hx)
   ·rw[List.mem_singleton.1 hp];exact qw
  ·rw[List.getElem?_append]at hi hj;split at hi<;>split at hj
   ·exact h.one i j p r _ _ _ _ _ _ hi hj FB hp hr x hx
   ·have Oq:=List.mem_of_getElem? hj;rw[List.mem_singleton]at Oq;subst Oq;dsimp only at hr;injection hr with _ _ e;subst e
    intro e2;injection e2 with e2
    have:=eg p (List.mem_of_getElem? hi) _ _ _ hp x hx;omega
   ·have wV:=List.mem_of_getElem? hi;rw[List.mem_singleton]at wV;subst wV;dsimp only at hp;injection hp with _ _ e;subst e
    injection hx with hx;intro e2;have:=eg r (List.mem_of_getElem? hj) _ _ _ hr x e2;omega
   ·have h1:=(List.getElem?_eq_some_iff.1 hi).1;have h2:=(List.getElem?_eq_some_iff.1 hj).1;simp only[List.length_cons,List.length_nil]at h1 h2;omega
 ·rw[if_pos rfl];obtain⟨p0,hp0,ze⟩:=List.any_eq_true.1 kf;have ze:=eq_of_beq ze;obtain⟨i0,hi0,e0⟩:=List.mem_iff_getElem.1 hp0;have kU:V[i0]?=some p0:=by rw[List.getElem?_eq_getElem hi0,e0]
  have oK:=Iu hV.one kU;rw[ze]at oK;rw[oK]at fO;simp only[xR]at fO;have fO:p0.2.1= .sl n cs tk:=fO
  have th:∀{i:Nat} {p:List Bs×MV×Nat},V[i]?=some p->p.1=l->i=i0:=fun{i p} hi dK=>by
   have h1:(V.map (·.1))[i]?=some l:=by rw[List.getElem?_map,hi];exact congrArg some dK
   have h2:(V.map (·.1))[i0]?=some l:=by rw[List.getElem?_map,kU];exact congrArg some ze
   exact(List.getElem?_inj (by rw[List.length_map];exact(List.getElem?_eq_some_iff.1 hi).1) hV.one).1 (h1.trans h2.symm)
  refine⟨fun p' hp'=>?_,fun i j p' r' n' cs' tk' n'' aiE aiF hi hj FB hp hr x hx=>?_⟩
  ·obtain⟨p,hp,rfl⟩:=List.mem_map.1 hp';by_cases e:p.1=l
   ·rw[if_pos e];exact qw
   ·rw[if_neg e];obtain⟨j,hj,ej⟩:=List.mem_iff_getElem.1 hp;have Cw:V[j]?=some p:=by rw[List.getElem?_eq_getElem hj,ej]
    exact h.app ha hp (fun n' cs' tk' e2 x hx=>h.one i0 j p0 p _ _ _ _ _ _ kU Cw (fun e3=>by subst e3;rw[kU]at Cw;injection Cw with Cw;exact e (Cw▸ze)) fO e2 x hx)
  ·rw[List.getElem?_map]at hi hj;obtain⟨p,Qk,rfl⟩:=Option.map_eq_some_iff.1 hi;obtain⟨r,hrj,rfl⟩:=Option.map_eq_some_iff.1 hj;by_cases e:p.1=l
   ·by_cases e2:r.1=l
    ·exact absurd ((th Qk e).trans (th hrj e2).symm) FB
    ·rw[if_pos e]at hp;rw[if_neg e2]at hr;dsimp only at hp;injection hp with _ _ e3;subst e3
     injection hx with hx;intro e4;have:=eg r (List.mem_of_getElem? hrj) _ _ _ hr x e4;omega
   ·rw[if_neg e]at hp;by_cases e2:r.1=l
    ·rw[if_pos e2]at hr;dsimp only at hr;injection hr with _ _ e3;subst e3
     intro e4;injection e4 with e4
     have:=eg p (List.mem_of_getElem? Qk) _ _ _ hp x hx;omega
    ·rw[if_neg e2]at hr;exact h.one i j p r _ _ _ _ _ _ Qk hrj FB hp hr x hx
structure nc (O:VH) (k:Nat) (L:List (Gv×Bs×Option Pm)) (E V:fj) (ke kv ce cv:Nat) (r a:Int):Prop where
 st:F0 O k ke kv E ce V cv r a
 len:E.length=L.length
 I3:∀(i:Nat) (g:Gv) (t:Bs) (o:Option Pm),L[i]?=some (g,t,o)->∃(q c:Nat),E[i]?=some (eA g,MV.ptr q 0,c)/\(q:Nat)<O.next/\O.hp q=some (.cells (aab t o))
 dis:∀(i j:Nat) (p r:List Bs×MV×Nat) (q:Nat),E[i]?=some p->E[j]?=some r->p.2.1=MV.ptr q 0->r.2.1=MV.ptr q 0->i=j
 ver:vw O V L.length
theorem adg (O:VH):VF Tryz.prog 27 [] O (aD fun m O'=>m= .ptr (O.next+2) 0/\nc O' (O.next+2) [] [] [] O.next (O.next+1) 0 0 0 0/\O.Ge O'):=by
 refine VF.bO 5 [.tmp 0] Tryz.func27 ?_;have nr:FI (kS [(0,1),(1,1),(2,1),(3,1)]) [.v (.map none),.v (.map none),.v (.int .i64 0),.v (.int .i64 0)] (.map O.next) [(1,.map (O.next+1))] (some (0,1))=some [.map O.next,.map (O.next+1),.v (.int .i64 0),.v (.int .i64 0)]:=rfl;refine VC.ag aa (ae @dV ?_);refine VC.ag aa (ao @dV @nr ?_);refine WC.sound aa (ae @dV ?_);obtain⟨hg,hn,h1,h2,h3⟩:=lG (O:=O) (.map [] 0) (.map [] 0) (.cells [.map O.next,.map (O.next+1),.v (.int .i64 0),.v (.int .i64 0)]) rfl;refine⟨⟨⟨h3,h1,h2,⟨by simp,by simp⟩,⟨by simp,by simp⟩,by simp,by omega,by omega⟩,rfl,by simp,by simp,⟨by simp,by simp⟩⟩,hg⟩
theorem Mp {tab:b9} {O:VH} {t kd te:TypeId} {k a b ck:Nat} {z:List MV} {es:wO} (h:tab t=some ⟨.map kd te,a,b,z⟩) (hb:O.hp k=some (.map es ck)):pf tab O t (.map k)=some (.v (.int .i64 es.length)):=by simp[pf,h,hb]
theorem ES {M:fj} {l:List Bs} (h:iX l M=none):∀p∈M,p.1≠l:=by
 unfold iX at h;rw[Option.map_eq_none_iff,List.find?_eq_none]at h;intro p hp e;exact h p hp (by simp[e])
theorem Hz {x y:Gv} (h:eA x=eA y):x=y:=by
 obtain⟨a,b,c⟩:=x;obtain⟨d,e,f⟩:=y;simp only[eA,List.cons.injEq,and_true]at h;obtain⟨rfl,rfl,rfl⟩:=h;rfl
section
variable {O O':VH} {k ke kv ce cv:Nat} {L:List (Gv×Bs×Option Pm)} {E V:fj} {r a:Int}
theorem nc.none (h:nc O k L E V ke kv ce cv r a) {g:Gv} (fH:∀x∈L,x.1≠g):iX (eA g) E=none:=by
 refine wc fun p hp e=>?_
 obtain⟨i,hi,rfl⟩:=List.mem_iff_getElem.1 hp;have hiL:i<L.length:=by rw[<-h.len];exact hi
 obtain⟨q,c,h1,_⟩:=h.I3 i L[i].1 L[i].2.1 L[i].2.2 (List.getElem?_eq_getElem hiL);rw[List.getElem?_eq_getElem hi]at h1;injection h1 with h1;rw[h1]at e;exact fH _ (List.getElem_mem hiL) (Hz e)
theorem nc.some (h:nc O k L E V ke kv ce cv r a) {i:Nat} {g:Gv} {t:Bs} {o:Option Pm} (hi:L[i]?=some (g,t,o)):∃q c,iX (eA g) E=some (.ptr q 0)/\q<O.next/\O.hp q=some (.cells (aab t o))/\E[i]?=some (eA g,.ptr q 0,c):=by
 obtain⟨q,c,h1,h2,h3⟩:=h.I3 i g t o hi;exact⟨q,c,Iu h.st.LY.one h1,h2,h3,h1⟩
end
theorem agC {O:VH} {k ke kv ce cv:Nat} {L:List (Gv×Bs×Option Pm)} {E V:fj} {r a:Int} (h:nc O k L E V ke kv ce cv r a) (g:Gv) (t:Bs) (hm:zF g=true) (lF:sT g) (fH:∀x∈L,x.1≠g) (hL:L.length<1024):
  VF Tryz.prog 47 [.ptr k 0,.agg (bS g),.str t] O (aD fun m O'=>m=mi 0/\(∃E' V' Ql Qm,nc O' k (L++[(g,t,none)]) E' V' ke kv Ql Qm r a)/\O.next<=O'.next/\∀i cs,i<O.next->O.hp i=some (.cells cs)->O'.hp i=some (.cells cs)):=by
 have zN:=h.none fH;have FU:=h.len;have dB:=h.st;have hh:AW E g=false:=by unfold AW;rw[zN];rfl
 have eg:=dB.lt;have hL3:(eA g).length=3:=rfl;have hLs:=vo lF;have hmg:=fun O'=>UR g O' lF.1 lF.2.1 lF.2.2
 have aac:=fun(O':VH) (g':O.Ge O')=>R5 (dB.ge g') g lF
 rw[hm]at hmg;rw[hh]at aac;obtain⟨g1,g2,g3⟩:=g;simp only[bS]at hmg aac ⊢;refine VF.bO 50 [.tmp 6] Tryz.func47 ?_;refine VC.ag aa (ae @dV ?_);refine VC.bx ?_;rintro O1 ⟨aM,dw,c5⟩;refine VC.ag aa (ao @dV @dw ?_);refine ah.rt (hmg O1) ?_;rintro _ O2 ⟨rfl,ax⟩;have iL:=ax.at dw;have gx:=aM.trans ax;refine ao @dV @iL ?_;refine ah.rt (aac O2 gx) ?_;rintro _ O3 ⟨rfl,aJ⟩;have eG:=gx.trans aJ;have kZ:=(aJ.hp _ (by have:=ax.next;omega)).trans iL;have gL:=eG.next;have h3:=dB.ge eG;have dG:=h3.cell;have Qj:=h3.B3;simp only[ar]at dG;have hEn:(cG E).length<1024:=by unfold cG;rw[List.length_map];omega
 have Ax:=Mp T94 Qj;have FP:(cG E).length=L.length:=by unfold cG;rw[List.length_map];exact FU
 rw[FP]at Ax;refine aI @dV @dG @Ax ?_;refine VC.bC ?_;refine WC.bH (.held [8]) [(0,.rd),(1,.rd),(2,.rd),(3,.rd),(4,.rd),(5,.rd),(6,.rd),(7,.one),(8,.one)] ?_;refine aI @dV @dG @kZ ?_;have heP:∀{x:b_},(O3.push x).hp ke=some (.map (cG E) ce):=(VH.bw _ _ h3.lt.2.1).trans Qj
 refine VL.ot rfl rfl (oq.ju vm (l:=eA ⟨g1,g2,g3⟩) (b:=ke) (ck:=ce) (M:=E) Tryz.underlying94 rfl heP h3.LY rfl hL3 hLs rfl) (fun brk hb i hi=>?_) (WL.sound aa ?_)
 ·cases hb
  rcases i with _ | _ | _ | _ | _ | _ | _ | _ | _ | i<;>first
   | rfl
   | (exfalso;revert hi;simp)
 have tX:E.any (·.1==eA ⟨g1,g2,g3⟩)=false:=by
  rw[List.any_eq_false];intro p hp hpe;have:=ES zN p hp;exact this (eq_of_beq hpe)
 unfold ju KY;rw[tX];refine ae @dV ?_;refine VC.gen ?_;intro O4 e4;have gM:O4.next=O3.next+1:=by rw[e4];rfl
 have aeR:=h3.lt;have Mq:O.next+1<=O3.next:=by have:=ax.next;have:=aJ.next;omega
 have rb:∀i,i<O3.next->i≠ke->O4.hp i=O3.hp i:=fun i h1 h2=>by rw[e4,VH.ak _ _ h2];exact VH.bw _ _ h1
 have he4:O4.hp ke=some (.map (cG (E++[(eA ⟨g1,g2,g3⟩,MV.ptr O3.next 0,ce)])) (ce+1)):=by rw[e4];exact VH.an _ _ _
 have I2:O4.hp O3.next=some (.cells [.str t,.v (.int .u32 0),.v (.int .i32 0),.v (.int .u32 0),.v (.bool false),.str [],.str [],.str [],.str [],.str [],.str [],.str [],.sl 0 [] .nil,.sl 0 [] .nil,.sl 0 [] .nil,.v (.int .i64 0),.str [],.str [],.str [],.v (.int .i64 0),.v (.int .i64 0),.v (.int .i64 0),.str []]):=by
  rw[e4,VH.ak _ _ (by omega)];exact VH.aV _ _
 clear e4 heP;refine VC.VP I2 (cs':=iJ t 0 0 z6 iH) (eI.aiD _ _ _ _ _ _ _ _ _ _ _ _ _ _ _ _ _ _ _ _) ?_;refine VC.gen ?_;intro O5 e5;have gu:O5.next=O3.next+1:=by rw[e5];exact gM
 have gO:∀i,i<O3.next->i≠ke->O5.hp i=O3.hp i:=fun i h1 h2=>by rw[e5,VH.ak _ _ (by omega)];exact rb i h1 h2
 have he5:O5.hp ke=some (.map (cG (E++[(eA ⟨g1,g2,g3⟩,MV.ptr O3.next 0,ce)])) (ce+1)):=by rw[e5,VH.ak _ _ (by omega)];exact he4
 have Ef:O5.hp O3.next=some (.cells (iJ t 0 0 z6 iH)):=by rw[e5];exact VH.an _ _ _
 clear e5 rb he4 I2 gM O4;have gC:=(gO k (by omega) dB.ne.1).trans dG;have oD:=(gO kv (by omega) (Ne.symm dB.ne.2.2)).trans h3.Hr;have mI:=(gO O.next (by omega) (by omega)).trans kZ;have aad:vw O5 V L.length:=(h.ver.ge eG).mv (by omega) fun i hi e=>(gO i hi (fun e2=>by subst e2;rw[Qj]at e;cases e)).trans e
 obtain⟨n,cs,tk,iR,ic,hnn,tO,eR⟩:∃n cs tk,xR false (.sl 0 [] .nil) (iX (z7 ⟨g1,g2⟩) V)= .sl n cs tk/\cs.length=n/\n<=L.length/\App O5 0 1 tk/\cO cs=cs:=by
  cases fO:iX (z7 ⟨g1,g2⟩) V with
  | none=>exact⟨0,[],.nil,rfl,rfl,Nat.zero_le _,trivial,rfl⟩
  | some m=>
    unfold iX at fO;obtain⟨p,qm,rfl⟩:=Option.map_eq_some_iff.1 fO;obtain⟨n,cs,tk,k1,k2,k3,k4,k5⟩:=aad.row p (List.mem_of_find?_eq_some qm);exact⟨n,cs,tk,k1,k2,k3,k4,k5⟩
 have F4:=dB.vok;have HA:=agv ⟨g1,g2,g3⟩
 have Cx:∀s∈z7 ⟨g1,g2⟩,s.length<=maxLen:=by
  intro s hs;simp only[z7,List.mem_cons,List.not_mem_nil,or_false]at hs;rcases hs with rfl | rfl
  ·exact lF.1
  ·exact lF.2.1
 simp only[bS]at HA;refine VC.bC ?_;refine VC.sN [17] (fun O'=>O'.hp k=O5.hp k/\O'.hp O.next=O5.hp O.next) (⟨rfl,rfl⟩) ?_;refine ab.av 0 ?_;refine ae @dV ?_;refine ab.av 1 ?_;refine ae @dV ?_;refine ab.av 2 ?_;refine ae @dV ?_;refine ab.mH (m:=.map kv) 3 ?_ ?_
 ·rintro O2 ⟨j1,j2⟩;exact c9 @dV (j1.trans gC)
 simp only[aj];refine ab.mH (m:=.agg [.str g1,.str g2,.str g3]) 4 ?_ ?_
 ·rintro O2 ⟨j1,j2⟩;exact c9 @dV (j2.trans mI)
 simp only[aj];refine ab.av 6 ?_;refine ae @dV ?_;refine ab.av 7 ?_;refine ae @dV ?_;refine ab.av 8 ?_;refine ae @dV ?_;refine ab.mH (m:=.map kv) 9 ?_ ?_
 ·rintro O2 ⟨j1,j2⟩;exact c9 @dV (j1.trans gC)
 simp only[aj];refine ab.mH (m:=.agg [.str g1,.str g2,.str g3]) 10 ?_ ?_
 ·rintro O2 ⟨j1,j2⟩;exact c9 @dV (j2.trans mI)
 simp only[aj];refine ab.av 13 ?_;refine ae @dV ?_;refine ab.mH (m:=.str g3) 14 ?_ ?_
 ·rintro O2 ⟨j1,j2⟩;exact c9 @dV (j2.trans mI)
 simp only[aj];have hJ:∀O',O5.Ge O'->O'.hp k=O5.hp k/\O'.hp O.next=O5.hp O.next:=fun O' g=>⟨g.hp _ (by omega),g.hp _ (by omega)⟩
 have my:∀OO,O5.Ge OO->∀OF,OF=(OO.after tk).set kv (.map (cG (ju (z7 ⟨g1,g2⟩) (.sl (n+1) (cs++[.str g3]) (.own OO.next 1)) cv V)) (KY (z7 ⟨g1,g2⟩) cv V))->(∃E' V' Ql Qm,nc OF k (L++[((⟨g1,g2,g3⟩:Gv),t,none)]) E' V' ke kv Ql Qm r a)/\O.next<=OF.next/\∀i cs,i<O.next->O.hp i=some (.cells cs)->OF.hp i=some (.cells cs):=by
  intro OO hG OF eF;have hoO:=hG.next
  have hF:∀i,i<O5.next->O5.hp i≠some .tok->i≠kv->OF.hp i=O5.hp i:=fun i hi hne hv=>by
   rw[eF,VH.ak _ _ hv];have e1:=hG.hp i hi;rw[App.off (tO.ge hG) (Nat.lt_of_lt_of_le hi hG.next) (by rw[e1];exact hne)];exact e1
  have Qn:O5.next<=OF.next:=by
   have:OF.next=(OO.after tk).next:=by rw[eF];rfl
   have:=(cP.after (tO.ge hG)).next;omega
  have hold:∀i cs,i<O.next->O.hp i=some (.cells cs)->OF.hp i=some (.cells cs):=fun i cs hi e=>by
   have e3:=(eG.hp i hi).trans e;have e5:=(gO i (by omega) (fun e2=>by subst e2;rw[Qj]at e3;cases e3)).trans e3;exact(hF i (by omega) (by rw[e5];simp) (fun e2=>by subst e2;rw[oD]at e5;cases e5)).trans e5
  have aae:=rH (y:=MV.ptr O3.next 0) (ck:=ce) h3.LY hL3 hLs;unfold ju at aae;rw[tX]at aae;refine⟨⟨_,_,_,_,⟨⟨(hF _ (by omega) (by rw[gC];simp) dB.ne.2.1).trans gC,(hF _ (by omega) (by rw[he5];simp) dB.ne.2.2).trans he5,by rw[eF];exact VH.an _ _ _,aae,rH F4 rfl Cx,fun p hp=>?_,⟨by omega,by omega,by omega⟩,dB.ne⟩,by rw[List.length_append,List.length_append,FU];rfl,fun i g' t' o' hi=>?_,fun i j p r' q hi hj hp hr=>?_,?_⟩⟩,by omega,hold⟩
  ·rcases List.mem_append.1 hp with hp | hp
   ·exact dB.ptr p hp
   ·rw[List.mem_singleton.1 hp];exact⟨_,rfl⟩
  ·rw[List.getElem?_append]at hi;split at hi
   ·rename_i Qo;obtain⟨q,c,k1,k2,k3⟩:=h.I3 i g' t' o' hi;exact⟨q,c,by rw[List.getElem?_append_left (by omega)];exact k1,by omega,hold q _ k2 k3⟩
   ·rename_i Qo;have wV:=List.mem_of_getElem? hi;rw[List.mem_singleton]at wV;injection wV with e1 e2;injection e2 with e2 e3
    subst e1;subst e2;subst e3
    have hlen:=(List.getElem?_eq_some_iff.1 hi).1;simp only[List.length_cons,List.length_nil]at hlen;refine⟨O3.next,ce,?_,by omega,(hF _ (by omega) (by rw[Ef];simp) (by omega)).trans Ef⟩;rw[List.getElem?_append_right (by omega),FU,show i - L.length=0 by omega];rfl
  ·have hq:∀(i:Nat) (p:List Bs×MV×Nat) (q:Nat),E[i]?=some p->p.2.1=MV.ptr q 0->q<O.next:=fun i p q hi hp=>by
    have Qo:i<L.length:=by rw[<-FU];exact(List.getElem?_eq_some_iff.1 hi).1
    obtain⟨q',c,k1,k2,_⟩:=h.I3 i _ _ _ (List.getElem?_eq_getElem Qo);rw[hi]at k1;injection k1 with k1
    rw[k1]at hp;dsimp only at hp;injection hp with hp;omega
   rw[List.getElem?_append]at hi hj;split at hi<;>split at hj
   ·exact h.dis i j p r' q hi hj hp hr
   ·have Oq:=List.mem_of_getElem? hj;rw[List.mem_singleton]at Oq;subst Oq;dsimp only at hr;injection hr with hr;have:=hq i p q hi hp;omega
   ·have wV:=List.mem_of_getElem? hi;rw[List.mem_singleton]at wV;subst wV;dsimp only at hp;injection hp with hp;have:=hq j r' q hj hr;omega
   ·have h1:=(List.getElem?_eq_some_iff.1 hi).1;have h2:=(List.getElem?_eq_some_iff.1 hj).1;simp only[List.length_cons,List.length_nil]at h1 h2;omega
  ·rw[List.length_append];have hvO:=vw.put (ck:=cv) (v:=g3) (aad.ge hG) F4 iR ic hnn (tO.ge hG) eR;rw[eF];refine hvO.mv (Nat.le_refl _) fun i hi e=>?_
   by_cases e2:i=kv
   ·subst e2;rw[App.off (tO.ge hG) (by omega) (by rw[hG.hp _ (by omega),oD];simp),hG.hp _ (by omega),oD]at e;cases e
   ·exact(VH.ak _ _ e2).trans e
 have hG:=VH.Ge.refl O5;refine ab.pair (i:=5) (j:=15) ?_ ?_
 ·refine aH.iW (HA _) ?_;rintro _ O6 ⟨rfl,sG⟩
  replace hG:=hG.trans sG
  clear sG;simp only[aj];refine⟨hJ _ hG,?_⟩;refine ab.pair (i:=11) (j:=15) ?_ ?_
  ·refine aH.iW (HA _) ?_;rintro _ O7 ⟨rfl,sG⟩
   replace hG:=hG.trans sG
   clear sG;simp only[aj];refine⟨hJ _ hG,?_⟩;refine ab.pair (i:=12) (j:=15) ?_ ?_
   ·refine aH.ra (fI.lA B1 aa (l:=z7 ⟨g1,g2⟩) (te:=⟨_,1,24,[.sl 0 [] .nil]⟩) Tryz.underlying95 uO rfl rfl (hG.at oD) F4 rfl rfl Cx) ?_;rw[iR];refine⟨hJ _ hG,?_⟩;refine ab.op (i:=15) ?_;refine ae @dV ?_;refine⟨hJ _ hG,?_⟩;have cH:=bo (tk:=tk) (tk':=.full) (B:=0) (n:=n) (k:=1) (cs:=cs) (ds:=[.str g3]) uO T9 (O:=O7) (tO.ge hG) (by rw[Nat.mul_one];exact ic) rfl rfl (by decide) (by decide) (by omega) (by simp only[maxLen];omega)
    have vf:∀i,i<O5.next->O5.hp i≠some .tok->((O7).after tk).hp i=O5.hp i:=fun i hi hne=>by
     have e1:=(hG).hp i hi;rw[App.off (tO.ge hG) (Nat.lt_of_lt_of_le hi (hG).next) (by rw[e1];exact hne)];exact e1
    refine ab.op (i:=16) ?_;rw[cT];refine ao @dV @cH ?_;refine⟨⟨vf _ (by omega) (by rw[gC];simp),vf _ (by omega) (by rw[mI];simp)⟩,?_⟩;refine ab.bH [(17,.one)] ?_;refine ae @dV ?_;refine VL.ot rfl rfl (oq.ju B1 (l:=z7 ⟨g1,g2⟩) (b:=kv) (ck:=cv) (M:=V) Tryz.underlying95 rfl ((vf _ (by omega) (by rw[oD];simp)).trans oD) F4 rfl rfl Cx rfl) (fun brk hb=>by cases hb) (WL.sound aa ?_);refine ae @dV ?_;refine VC.gen ?_;intro OF eF;refine VC.ag aa (ae @dV ?_);refine WC.sound aa (ae @dV ?_);exact my O7 hG OF eF
   ·refine aH.o1 ?_;refine ae @dV ?_;refine⟨hJ _ hG,?_⟩;refine ab.one (i:=12) (aH.ra (fI.lA B1 aa (l:=z7 ⟨g1,g2⟩) (te:=⟨_,1,24,[.sl 0 [] .nil]⟩) Tryz.underlying95 uO rfl rfl (hG.at oD) F4 rfl rfl Cx) ?_);rw[iR];refine⟨hJ _ hG,?_⟩;have cH:=bo (tk:=tk) (tk':=.full) (B:=0) (n:=n) (k:=1) (cs:=cs) (ds:=[.str g3]) uO T9 (O:=O7) (tO.ge hG) (by rw[Nat.mul_one];exact ic) rfl rfl (by decide) (by decide) (by omega) (by simp only[maxLen];omega)
    have vf:∀i,i<O5.next->O5.hp i≠some .tok->((O7).after tk).hp i=O5.hp i:=fun i hi hne=>by
     have e1:=(hG).hp i hi;rw[App.off (tO.ge hG) (Nat.lt_of_lt_of_le hi (hG).next) (by rw[e1];exact hne)];exact e1
    refine ab.op (i:=16) ?_;rw[cT];refine ao @dV @cH ?_;refine⟨⟨vf _ (by omega) (by rw[gC];simp),vf _ (by omega) (by rw[mI];simp)⟩,?_⟩;refine ab.bH [(17,.one)] ?_;refine ae @dV ?_;refine VL.ot rfl rfl (oq.ju B1 (l:=z7 ⟨g1,g2⟩) (b:=kv) (ck:=cv) (M:=V) Tryz.underlying95 rfl ((vf _ (by omega) (by rw[oD];simp)).trans oD) F4 rfl rfl Cx rfl) (fun brk hb=>by cases hb) (WL.sound aa ?_);refine ae @dV ?_;refine VC.gen ?_;intro OF eF;refine VC.ag aa (ae @dV ?_);refine WC.sound aa (ae @dV ?_);exact my O7 hG OF eF
  ·refine aH.o1 ?_;refine ae @dV ?_;refine⟨hJ _ hG,?_⟩;refine ab.one (i:=11) (aH.iW (HA _) ?_);rintro _ O7 ⟨rfl,sG⟩
   replace hG:=hG.trans sG
   clear sG;simp only[aj];refine⟨hJ _ hG,?_⟩;refine ab.one (i:=12) (aH.ra (fI.lA B1 aa (l:=z7 ⟨g1,g2⟩) (te:=⟨_,1,24,[.sl 0 [] .nil]⟩) Tryz.underlying95 uO rfl rfl (hG.at oD) F4 rfl rfl Cx) ?_);rw[iR];refine⟨hJ _ hG,?_⟩;have cH:=bo (tk:=tk) (tk':=.full) (B:=0) (n:=n) (k:=1) (cs:=cs) (ds:=[.str g3]) uO T9 (O:=O7) (tO.ge hG) (by rw[Nat.mul_one];exact ic) rfl rfl (by decide) (by decide) (by omega) (by simp only[maxLen];omega)
   have vf:∀i,i<O5.next->O5.hp i≠some .tok->((O7).after tk).hp i=O5.hp i:=fun i hi hne=>by
    have e1:=(hG).hp i hi;rw[App.off (tO.ge hG) (Nat.lt_of_lt_of_le hi (hG).next) (by rw[e1];exact hne)];exact e1
   refine ab.op (i:=16) ?_;rw[cT];refine ao @dV @cH ?_;refine⟨⟨vf _ (by omega) (by rw[gC];simp),vf _ (by omega) (by rw[mI];simp)⟩,?_⟩;refine ab.bH [(17,.one)] ?_;refine ae @dV ?_;refine VL.ot rfl rfl (oq.ju B1 (l:=z7 ⟨g1,g2⟩) (b:=kv) (ck:=cv) (M:=V) Tryz.underlying95 rfl ((vf _ (by omega) (by rw[oD];simp)).trans oD) F4 rfl rfl Cx rfl) (fun brk hb=>by cases hb) (WL.sound aa ?_);refine ae @dV ?_;refine VC.gen ?_;intro OF eF;refine VC.ag aa (ae @dV ?_);refine WC.sound aa (ae @dV ?_);exact my O7 hG OF eF
 ·refine aH.o1 ?_;refine ae @dV ?_;refine ab.one (i:=5) (aH.iW (HA _) ?_);rintro _ O6 ⟨rfl,sG⟩
  replace hG:=hG.trans sG
  clear sG;simp only[aj];refine⟨hJ _ hG,?_⟩;refine ab.one (i:=11) (aH.iW (HA _) ?_);rintro _ O7 ⟨rfl,sG⟩
  replace hG:=hG.trans sG
  clear sG;simp only[aj];refine⟨hJ _ hG,?_⟩;refine ab.one (i:=12) (aH.ra (fI.lA B1 aa (l:=z7 ⟨g1,g2⟩) (te:=⟨_,1,24,[.sl 0 [] .nil]⟩) Tryz.underlying95 uO rfl rfl (hG.at oD) F4 rfl rfl Cx) ?_);rw[iR];refine⟨hJ _ hG,?_⟩;have cH:=bo (tk:=tk) (tk':=.full) (B:=0) (n:=n) (k:=1) (cs:=cs) (ds:=[.str g3]) uO T9 (O:=O7) (tO.ge hG) (by rw[Nat.mul_one];exact ic) rfl rfl (by decide) (by decide) (by omega) (by simp only[maxLen];omega)
  have vf:∀i,i<O5.next->O5.hp i≠some .tok->((O7).after tk).hp i=O5.hp i:=fun i hi hne=>by
   have e1:=(hG).hp i hi;rw[App.off (tO.ge hG) (Nat.lt_of_lt_of_le hi (hG).next) (by rw[e1];exact hne)];exact e1
  refine ab.op (i:=16) ?_;rw[cT];refine ao @dV @cH ?_;refine⟨⟨vf _ (by omega) (by rw[gC];simp),vf _ (by omega) (by rw[mI];simp)⟩,?_⟩;refine ab.bH [(17,.one)] ?_;refine ae @dV ?_;refine VL.ot rfl rfl (oq.ju B1 (l:=z7 ⟨g1,g2⟩) (b:=kv) (ck:=cv) (M:=V) Tryz.underlying95 rfl ((vf _ (by omega) (by rw[oD];simp)).trans oD) F4 rfl rfl Cx rfl) (fun brk hb=>by cases hb) (WL.sound aa ?_);refine ae @dV ?_;refine VC.gen ?_;intro OF eF;refine VC.ag aa (ae @dV ?_);refine WC.sound aa (ae @dV ?_);exact my O7 hG OF eF
open Go.MapKept (run_setObj_map)
set_option linter.defProp false in
def dE:=And.intro dV<|And.intro YV<|And.intro T75<|And.intro T3<|And.intro ahG AH
def iq (d:Dp):Ky:=⟨d.g,d.a,if d.t=[]then[106,97,114]else d.t,d.c⟩
theorem I4 (d:Dp) (O:VH):VF Tryz.prog 74 [.agg (aQ d)] O (aD fun m O'=>m= .agg (fQ (iq d))/\O.Ge O'):=by
 obtain⟨g,a,v,t,c,s,o,x⟩:=d;simp only[aQ,iq,fQ];refine VF.bO 18 [.cell 2 30] Tryz.func74 ?_;refine VC.ag aa (ae @dE ?_);refine VC.gen ?_;intro O1 e1;obtain⟨aM,c5,cS,cA⟩:=gk _ _ e1;clear e1;refine VC.ag aa (ao @dE @cS ?_);refine VC.al ?_;rintro O2 ⟨ax,iL,iB⟩;have ct:=ax.at cA;cases t with
 | nil=>
   rw[if_pos rfl];refine VC.ag aa (aI @dE @iL (show(([]:List UInt8)==[])=true from rfl) ?_);refine WC.sound aa (aI @dE @iL @ct ?_);exact(((aM.trans ax).set (by omega) _).set (by omega) _)
 | cons y t=>
   rw[if_neg (by simp)];refine VC.ag aa (aI @dE @iL (show((y::t)==[])=false from rfl) ?_);refine WC.sound aa (aI @dE @iL @ct ?_);exact(aM.trans ax).set (by omega) _
section
variable {G H:Gh} {n:Sz} {D:List Deferred} {e e':Env} {a:Act} {P:Program} {tab:b9} {O O':VH} {w:World} {m m':MV} {u v:Value} {ops:Array Oper} {Q:VQ} {md:Md}
structure Cnt (N:Nat) (M:fj) (j:Int):Prop where
 ok:nU N M
 int:∀p∈M,∃x:Int,p.2.1=mi x/\0<=x/\x<=j
theorem fM.Sf {kt et:TypeId} {N:Nat} (K:tr P kt N) (ht:aK P tab) {d:Option Tmp} {t ty:TypeId} {x y:Operand} {ps:String} {af:Array Edge} {g:Option (Nat×Bool)} {b ck:Nat} {M:fj} {l:List (List UInt8)} {te:cz} {z:MV} (hU:P.underlying t=some (.map kt et)) (ni:tab et=some te) (hz:yF te=some z)
  (hx:ev e x=some (.map b)) (hb:O.hp b=some (.map (cG M) ck)) (hM:nU N M) (hy:ev e y=some (.agg (l.map .str))) (hl:l.length=N) (hs:∀s∈l,s.length<=maxLen):
  fM P n D (.mk d (.mapEntry t x y) ty ps af g) e O fun m O'=>∃(M':fj) (ck':Nat) (v:MV) (st:Nat),m= .tuple [v,.v (.int .i64 st)]/\O'=O.set b (.map (cG M') ck')/\nU N M'/\(∀p∈M',p∈M\/p.2.1=z)/\(∃p∈M',p.2.2=st):=by
 intro G a w hw hf;have h1:=hf.ev hx;have h2:=hf.ev hy;generalize oo:a.eval x=u at h1;generalize xQ:a.eval y=v at h2;have hv:=zx h2;subst hv;cases h1 with
 | map eh=>
   rename_i b';obtain⟨b2,E,e1,e2,e3,e4,e5⟩:=hw.map _ _ _ hb;rw[eh]at e1;injection e1 with e1;subst e1
   have hE:gn G (cG M) E.toList:=⟨e3,e4,e5⟩;obtain⟨lit,xe⟩:=K.of l hl hs;have Iw:=K.law.check w false xe;obtain⟨zv,z1,z2⟩:=xL (ht et te ni) hz;rcases zy K hM hE hl hs w with⟨g1,g2⟩ | ⟨j,p,q,g1,g2,g3,g4,g5⟩
   ·have kf:M.any (·.1==l)=false:=by rw[List.any_eq_false];intro p hp;simpa using g2 p hp
    have hr:gn G (cG (M++[(l,z,ck)])) (E.push {key:=fq l,val:=zv,born:=ck}).toList:=by
     rw[Array.toList_push];unfold cG;rw[List.map_append];exact hE.append (gn.cons rfl h2 (z2 G) gn.nil)
    have cW:=rH (y:=z) (ck:=ck) hM hl hs;unfold ju at cW;rw[kf]at cW;refine⟨.tuple [z,.v (.int .i64 ck)],O.set b (.map (cG (M++[(l,z,ck)])) (ck+1)),.tuple #[zv,.int .i64 ck],?wx,G,⟨M++[(l,z,ck)],ck+1,z,ck,rfl,rfl,cW,fun p hp=>?_,⟨_,List.mem_append_right _ (List.mem_singleton.2 rfl),rfl⟩⟩,?rn,Gh.Le.refl G,?wr,?vr⟩
    case wr=>exact hw.so (ck':=ck+1) hb eh e2 hr
    case rn=>
     simp only[execOp,oo,xQ,Instr.mapEntry,Sem.run_bind,run_underlying hU,Result.andThen_ok,MapKept.run_getObj_map e2,Iw,g1,z1,run_setObj_map _ e2];rfl
    case vr=>exact VR.tuple (us:=[zv,.int .i64 ck]) rfl (aO.cons (z2 G) (aO.cons (.v rfl) aO.nil)).2
    rcases List.mem_append.1 hp with hp | hp
    ·exact .inl hp
    ·rw[List.mem_singleton.1 hp];exact .inr rfl
   ·obtain⟨k1,k2,k3⟩:=hE.keys.2 j p q g2 g4;have dB:=K.law.stays w xe;have Ix:q.key=fq l:=by rw[k1,g3]
    have Cw:E[j]?=some q:=by simpa using g4
    have sm:((E[j]?).map (·.key)).getD (fq l)=fq l:=by rw[Cw];exact Ix
    have yB:((E[j]?).map (fun x=>((x.born:Nat):Int))).getD 0=(p.2.2:Int):=by rw[Cw];exact congrArg (fun n:Nat=>(n:Int)) k3
    have aiG:E.modify j (fun x=>{x with key:=fq l})=E:=by
     have hj:=(Array.getElem?_eq_some_iff.1 Cw);obtain⟨dd,aX⟩:=hj;apply Array.ext
     ·simp
     ·intro i Qi gd;rw[Array.getElem_modify];split
      ·rename_i e;subst e
       rw[aX, <-Ix]
      ·rfl
    refine⟨.tuple [p.2.1,.v (.int .i64 p.2.2)],O.set b (.map (cG M) ck),.tuple #[q.val,.int .i64 p.2.2],?wy,G,⟨M,ck,p.2.1,p.2.2,rfl,rfl,hM,fun p hp=>.inl hp,⟨p,List.mem_of_getElem? g2,rfl⟩⟩,?rm,Gh.Le.refl G,?ws,?vs⟩
    case ws=>exact hw.so (E':=E) (ck':=ck) hb eh e2 hE
    case rm=>
     simp only[execOp,oo,xQ,Instr.mapEntry,Sem.run_bind,run_underlying hU,Result.andThen_ok,MapKept.run_getObj_map e2,Iw,g1,sm,dB,aiG,yB,run_setObj_map _ e2];rfl
    case vs=>exact VR.tuple (us:=[q.val,.int .i64 p.2.2]) rfl (aO.cons g5 (aO.cons (.v rfl) aO.nil)).2
def Bf (P:Program) (n:Sz) (D:List Deferred) (o:Oper) (e:Env) (O:VH) (Φ :VH->Prop):Prop:=∀G a w,WR G O w->FR G n D e a->∃w' H O', Φ O'/\(execOp a.eval o).run P w= .ok .skip w'/\Gh.Le G H/\WR H O' w'
theorem aH.adh {i:Nat} {o:Oper} {K:Env->VH->Prop} {Φ :VH->Prop} (ho:ops[i]?=some o) (hg:aL ops o e=some true) (hd:bm n o.dst=true) (hy:Bf P n D o e O Φ) (h:∀O', Φ O'->K (aU o.dst cD e) O'):aH P n D ops i e O Q K:=by
 intro G a w hw aS;obtain⟨w',H,O',hΦ,hr,h1,h2⟩:=hy G a w hw aS;simp only[wpOp,ho,bj aS hg,if_true];refine .inl ?_;unfold Oper.wp;rw[hr];exact⟨_,_,H,h1,h2,(aS.mono h1).aU hd kQ,h _ hΦ⟩
theorem rZ {α β :Type} {f: α -> α} {g: α -> β} (h:∀x,g (f x)=g x) (L:List α) (i:Nat):(L.modify i f).map g=L.map g:=by
 refine List.ext_getElem? fun j=>?_
 rw[List.getElem?_map,List.getElem?_map,List.getElem?_modify];cases L[j]? with
 | none=>rfl
 | some x=>
   simp only[Option.map_some];split
   ·exact congrArg some (h x)
   ·rfl
theorem Mr {α β :Type} {f: α -> α} {g: α -> β} {y: β} (h:∀x,g (f x)=y) (L:List α) (i:Nat):(L.modify i f).map g=(L.map g).set i y:=by
 refine List.ext_getElem? fun j=>?_
 rw[List.getElem?_map,List.getElem?_modify,List.getElem?_set,List.getElem?_map,List.length_map];by_cases e:i=j
 ·subst e;rw[if_pos rfl];by_cases hl:i<L.length
  ·rw[if_pos hl,List.getElem?_eq_getElem hl];simp[h]
  ·rw[if_neg hl,List.getElem?_eq_none (by omega)];rfl
 ·rw[if_neg e];cases L[j]? with
  | none=>rfl
  | some x=>simp[e]
theorem Bf.HB {d:Option Tmp} {t ty:TypeId} {x y z:Operand} {ps:String} {af:Array Edge} {g:Option (Nat×Bool)} {b ck st N:Nat} {M:fj} (hx:ev e x=some (.map b)) (hb:O.hp b=some (.map (cG M) ck)) (hM:nU N M) (hy:ev e y=some (.v (.int .i64 st))) (hz:ev e z=some m) (KZ:∃p∈M,p.2.2=st):
  Bf P n D (.mk d (.entryStore t x y z) ty ps af g) e O fun O'=>∃M',O'=O.set b (.map (cG M') ck)/\nU N M'/\∀p∈M',p∈M\/p.2.1=m:=by
 intro G a w hw hf;have h1:=hf.ev hx;have h2:=hf.ev hy;have h3:=hf.ev hz;generalize oo:a.eval x=u at h1;generalize xQ:a.eval y=v at h2;generalize haz:a.eval z=r at h3;have hv:=h2.iw;subst hv;cases h1 with
 | map eh=>
   rename_i b';obtain⟨b2,E,e1,e2,e3,e4,e5⟩:=hw.map _ _ _ hb;rw[eh]at e1;injection e1 with e1;subst e1
   have hE:gn G (cG M) E.toList:=⟨e3,e4,e5⟩;have hlen:=hE.keys.1;obtain⟨p,hp,hps⟩:=KZ;obtain⟨j,hj,ej⟩:=List.mem_iff_getElem.1 hp;have YT:j<E.toList.length:=by omega
   have agD:=(hE.keys.2 j p E.toList[j] (by rw[List.getElem?_eq_getElem hj,ej]) (List.getElem?_eq_getElem YT)).2.2;have agE:E.toList[j]∈E:=by simp
   obtain⟨i,hi⟩:∃i,E.findIdx? (fun e=>(e.born:Int)==(st:Int))=some i:=by
    have:(E.findIdx? (fun e=>(e.born:Int)==(st:Int))).isSome=true:=by
     rw[Array.findIdx?_isSome];rw[Array.any_eq_true'];exact⟨_,agE,by rw[agD,hps];simp⟩
    exact Option.isSome_iff_exists.1 this
   have hr:gn G (cG (M.modify i fun p=>(p.1,m,p.2.2))) (E.modify i fun e=>{e with val:=r}).toList:=by
    rw[Array.toList_modify];refine⟨?_,?_,?_⟩
    ·rw[rZ (f:=fun e:MapEntry=>{e with val:=r}) (g:=fun x=>x.born) (fun _=>rfl) E.toList i,e3];unfold cG;rw[List.map_map,List.map_map];exact(rZ (f:=fun p:List Bs×MV×Nat=>(p.1,m,p.2.2)) (fun _=>rfl) M i).symm
    ·rw[rZ (f:=fun e:MapEntry=>{e with val:=r}) (g:=fun x=>x.key) (fun _=>rfl) E.toList i]
     have:(cG (M.modify i fun p=>(p.1,m,p.2.2))).map (·.1)=(cG M).map (·.1):=by
      unfold cG;rw[List.map_map,List.map_map];exact rZ (f:=fun p:List Bs×MV×Nat=>(p.1,m,p.2.2)) (fun _=>rfl) M i
     rw[this];exact e4
    ·rw[Mr (f:=fun e:MapEntry=>{e with val:=r}) (g:=fun x=>x.val) (y:=r) (fun _=>rfl) E.toList i]
     have:(cG (M.modify i fun p=>(p.1,m,p.2.2))).map (·.2.1)=((cG M).map (·.2.1)).set i m:=by
      unfold cG;rw[List.map_map,List.map_map];exact Mr (f:=fun p:List Bs×MV×Nat=>(p.1,m,p.2.2)) (fun _=>rfl) M i
     rw[this];exact e5.set h3
   have aaf:∀p∈M.modify i (fun p=>(p.1,m,p.2.2)),(∃p0∈M,p.1=p0.1/\p.2.2=p0.2.2)/\(p∈M\/p.2.1=m):=fun p hp=>by
    obtain⟨j,hj,ej⟩:=List.mem_iff_getElem.1 hp;have hg:(M.modify i (fun p=>(p.1,m,p.2.2)))[j]?=some p:=by rw[List.getElem?_eq_getElem hj,ej]
    rw[List.getElem?_modify]at hg;cases hm:M[j]? with
    | none=>rw[hm]at hg;cases hg
    | some p0=>
      rw[hm]at hg
      change some _=some p at hg
      injection hg with hg;have Ms:=List.mem_of_getElem? hm;split at hg
      ·subst hg;exact⟨⟨p0,Ms,rfl,rfl⟩,.inr rfl⟩
      ·subst hg;exact⟨⟨_,Ms,rfl,rfl⟩,.inl Ms⟩
   refine⟨?wx,G,O.set b (.map (cG (M.modify i fun p=>(p.1,m,p.2.2))) ck),⟨_,rfl,⟨fun p hp=>?_,?_⟩,fun p hp=>(aaf p hp).2⟩,?rn,Gh.Le.refl G,?wr⟩
   case wr=>exact hw.so (ck':=ck) hb eh e2 hr
   case rn=>
    simp only[execOp,oo,xQ,haz,Instr.entryStore,Sem.run_bind,Result.andThen_ok,MapKept.run_getObj_map e2,asInt,asIntOf,Sem.run_pure,hi,run_setObj_map _ e2]
   ·obtain⟨p0,h1,h2,_⟩:=(aaf p hp).1;rw[h2];exact hM.len p0 h1
   ·have:(M.modify i (fun p=>(p.1,m,p.2.2))).map (·.1)=M.map (·.1):=rZ (f:=fun p:List Bs×MV×Nat=>(p.1,m,p.2.2)) (fun _=>rfl) M i;rw[this];exact hM.one
end
theorem aH.Mt {P:Program} {n:Sz} {D:List Deferred} {ops:Array Oper} {e:Env} {O:VH} {Q:VQ} {i:Nat} {op:Op} {ty:TypeId} {ps:String} {af:Array Edge} {g:Option (Nat×Bool)} {K:Env->VH->Prop} {Φ :VH->Prop} (ho:ops[i]?=some (.mk none op ty ps af g)) (hg:aL ops (.mk none op ty ps af g) e=some true) (hy:Bf P n D (.mk none op ty ps af g) e O Φ) (h:∀O', Φ O'->K e O'):aH P n D ops i e O Q K:=
 aH.adh ho hg rfl hy h
theorem ab.st1 {P:Program} {n:Sz} {D:List Deferred} {e:Env} {O:VH} {Q:VQ} {brk:List Nat} {Ψ :Gh->Prop} {J:VH->Prop} {Z:Prop} {fuel i d:Nat} {listed:Array Bool} {l:List Oper} {op:Op} {ty:TypeId} {ps:String} {af:Array Edge} {g:Option (Nat×Bool)} {M:MV->VH->Prop} (hy:fM P n D (.mk (some d) op ty ps af g) e O M)
  (h:∀m O',M m O'->J O'/\ab P n D ⟨l⟩ brk J Ψ Z fuel (listed.setIfInBounds i true) ((d,m)::e) O' Q) (hr:Region.ready .any ⟨l⟩ listed=[i]:=by kernel_rfl) (ho:l[i]?=some (.mk (some d) op ty ps af g):=by exact rfl) (hg:aL ⟨l⟩ (.mk (some d) op ty ps af g) e=some true:=by exact rfl) (hd:bm n (some d)=true:=by exact rfl):ab P n D ⟨l⟩ brk J Ψ Z (fuel+1) listed e O Q:=ab.st hy h (hr:=hr) (ho:=ho) (hg:=hg) (hd:=hd)
theorem aH.st1 {P:Program} {n:Sz} {D:List Deferred} {e:Env} {O:VH} {Q:VQ} {i d:Nat} {l:List Oper} {op:Op} {ty:TypeId} {ps:String} {af:Array Edge} {g:Option (Nat×Bool)} {M:MV->VH->Prop} {K:Env->VH->Prop} (hy:fM P n D (.mk (some d) op ty ps af g) e O M)
  (h:∀m O',M m O'->K ((d,m)::e) O') (ho:l[i]?=some (.mk (some d) op ty ps af g):=by exact rfl) (hg:aL ⟨l⟩ (.mk (some d) op ty ps af g) e=some true:=by exact rfl) (hd:bm n (some d)=true:=by exact rfl):aH P n D ⟨l⟩ i e O Q K:=aH.st hy h (ho:=ho) (hg:=hg) (hd:=hd)
theorem GR.less {O:VH} {el:TypeId} {sz B B':Nat} {p:MV} {n:Nat} {L:List MV} (h:GR O el sz B p n L) (hB:B'<=B):GR O el sz B' p n L:=by
 rcases h with h | ⟨k,c,h1,h2,h3,h4⟩
 ·exact .inl h
 ·obtain⟨j,k1,k2,k3⟩:=h4.nw;exact .inr ⟨k,c,h1,h2,h3,⟨h4.cells,⟨j,Nat.le_trans hB k1,k2,k3⟩,Nat.le_trans hB h4.lo,h4.hi⟩⟩
def dW (x:Ky):List Bs:=[x.g,x.a,x.t,x.c]
def B6 (d:Dp):Prop:=d.g.length<=100000/\d.a.length<=100000/\d.v.length<=100000/\d.t.length<=100000/\d.c.length<=100000/\d.x.length<=10000
theorem Mu {d:Dp} (h:B6 d):∀s∈dW (iq d),s.length<=maxLen:=by
 obtain⟨h1,h2,h3,h4,h5,h6⟩:=h;intro s hs;simp only[dW,iq,List.mem_cons,List.not_mem_nil,or_false]at hs;have hm:100000<=maxLen:=by simp[maxLen]
 rcases hs with rfl | rfl | rfl | rfl
 ·omega
 ·omega
 ·split
  ·exact Nat.le_trans (by decide) hm
  ·omega
 ·omega
theorem aag (L:List Dp) (tk t2:Tok) (O:VH) (hn:L.length<=10000) (hL:∀d∈L,B6 d):
  VF Tryz.prog 202 [.sl L.length (L.flatMap aQ) tk,.sl 0 [] t2,.func (.func 74) [] []] O (aD fun m O'=>O.Ge O'/\GR O' 63 8 O.next m L.length (L.flatMap aQ)):=by
 have dK:=aT fX L;refine VF.bO 49 [.tmp 6] Tryz.func202 ?_;refine VC.ag aa (ae @dE ?_);refine VC.ag aa (ae @dE ?_);refine VC.gen ?_;intro O1 e1;have aM:O.Ge O1:=by rw[e1];exact(VH.Ge.refl O).push _
 have c5:O1.next=O.next+1:=by rw[e1];rfl
 have Qp:O1.hp O.next=some (.map (cG []) 0):=by rw[e1];exact VH.aV _ _
 clear e1;refine VC.bJ [0,1,2,7] (fun _:Unit=>[.sl L.length (L.flatMap aQ) tk,.sl 0 [] t2,.func (.func 74) [] [],.map O.next]) (fun _ O'=>O.Ge O'/\O.next+1<=O'.next) ?_ ?_
 ·refine VC.ag aa (ae @dE ?_);refine VC.aB ?_;refine VC.bP [16] [0,1,2,7,14,15] (fun j:Nat=>[mi j]) (fun j O'=>O.Ge O'/\O.next+1<=O'.next/\j<=L.length/\∃M ck,O'.hp O.next=some (.map (cG M) ck)/\Cnt 4 M j) (fun j=>L.length - j) (0) ?_ ?_
  ·exact⟨aM,by omega,Nat.zero_le _,[],0,Qp,⟨by simp,by simp⟩,by simp⟩
  rintro j O3 ⟨aJ,gL,hj,M,ck,hm3,hM⟩;by_cases aX:j<L.length;rotate_left
  ·obtain rfl:j=L.length:=by omega
   refine WC.sound aa (ae @dE ?_);exact aA.mk () ⟨aJ,gL⟩
  have bA:=cg fX L j aX;have jY:=Mu (hL L[j] (List.getElem_mem aX));have Cy:=I4 L[j];generalize L[j]=d at*;have hkm:fQ (iq d)=(dW (iq d)).map .str:=rfl;have ja:(dW (iq d)).length=4:=rfl;generalize dW (iq d)=kl at*;rw[hkm]at Cy;obtain⟨dg,da,dv,dt,dc,kD,dO,dx⟩:=d;simp only[aQ,ar]at bA Cy;have dd:((j:Int)+1)=((j+1:Nat):Int):=by omega
  refine VC.ag aa (ae @dE ?_);refine VC.ag aa (ae @dE ?_);refine VC.bC (VC.aB ?_);refine VC.ag aa (ao @dE @bA ?_);refine VC.al ?_;rintro O4 ⟨bg,gy,gM⟩;have Qq:=bg.at hm3;refine VC.sN [] (fun O'=>True) (trivial) ?_;refine ab.av 0 ?_;refine ae @dE ?_;refine ab.av 1 ?_;refine ae @dE ?_;refine ab.op (i:=2) ?_;refine ao @dE @gy ?_;refine ab.pP (i:=3) (Cy O4) ?_ ?_;rotate_left
  ·rintro m O5 h;exact h.elim
  rintro _ O5 ⟨rfl,bW⟩;simp only[aj];refine⟨trivial,?_⟩;have Cz:=bW.at Qq
  obtain⟨x,hx,hx0,hxj⟩:∃x:Int,xR false (mi 0) (iX kl M)=mi x/\0<=x/\x<=j:=by
   cases fO:iX kl M with
   | none=>exact⟨0,rfl,by omega,by omega⟩
   | some m=>
     unfold iX at fO;obtain⟨p,qm,rfl⟩:=Option.map_eq_some_iff.1 fO;obtain⟨x,k1,k2,k3⟩:=hM.int p (List.mem_of_find?_eq_some qm);exact⟨x,k1,k2,k3⟩
  simp only[ar]at hx;refine ab.pair (i:=4) (j:=6) ?_ ?_
  ·refine aH.ra (fI.lA qY aa (l:=kl) (te:=⟨_,1,8,[.v (.int .i64 0)]⟩) Tryz.underlying75 T3 rfl rfl Cz hM.ok rfl ja jY) ?_;rw[hx];refine⟨trivial,?_⟩;refine ab.av 5 ?_;refine ae @dE ?_;refine ab.st1 (i:=6) (fM.Sf qY aa (l:=kl) (te:=⟨_,1,8,[.v (.int .i64 0)]⟩) Tryz.underlying75 T3 rfl rfl Cz hM.ok rfl ja jY) ?_;rintro m O6 ⟨M1,ck1,v1,st,rfl,e6,Sg,aah,aai⟩;refine⟨trivial,?_⟩;have VS:O6.hp O.next=some (.map (cG M1) ck1):=by rw[e6];exact VH.an _ _ _
   have Mv:O.Ge O6:=by rw[e6];exact((aJ.trans bg).trans bW).set (Nat.le_refl _) _
   have ov:O.next+1<=O6.next:=by rw[e6];show O.next+1<=O5.next;have:=bW.next;omega
   have Qr:∀p∈M1,∃y:Int,p.2.1=mi y/\0<=y/\y<=j:=fun p hp=>by
    rcases aah p hp with hp | hp
    ·exact hM.int p hp
    ·exact⟨0,hp,by omega,by omega⟩
   refine ab.av 7 ?_;refine ae @dE ?_;refine ab.one (i:=8) (aH.Mt rfl rfl (Bf.HB rfl VS Sg rfl rfl aai) ?_);rintro O7 ⟨M2,e7,aaj,aak⟩;refine⟨trivial,?_⟩;refine ab.bH [] ?_;refine ae @dE ?_;refine WC.sound aa (ao @dE @dd ?_);refine az.next (j+1) ⟨?_,?_,aX,M2,_,by rw[e7];exact VH.an _ _ _,aaj,fun p hp=>?_⟩
   ·rw[e7];exact Mv.set (Nat.le_refl _) _
   ·rw[e7];show O.next+1<=(O6).next;omega
   ·rcases aak p hp with hp | hp
    ·obtain⟨y,k1,k2,k3⟩:=Qr p hp;exact⟨y,k1,k2,by push_cast;omega⟩
    ·exact⟨_,hp,by omega,by push_cast;omega⟩
  ·refine aH.st1 (fM.Sf qY aa (l:=kl) (te:=⟨_,1,8,[.v (.int .i64 0)]⟩) Tryz.underlying75 T3 rfl rfl Cz hM.ok rfl ja jY) ?_;rintro m O6 ⟨M1,ck1,v1,st,rfl,e6,Sg,aah,aai⟩;refine⟨trivial,?_⟩;have VS:O6.hp O.next=some (.map (cG M1) ck1):=by rw[e6];exact VH.an _ _ _
   have Mv:O.Ge O6:=by rw[e6];exact((aJ.trans bg).trans bW).set (Nat.le_refl _) _
   have ov:O.next+1<=O6.next:=by rw[e6];show O.next+1<=O5.next;have:=bW.next;omega
   have Qr:∀p∈M1,∃y:Int,p.2.1=mi y/\0<=y/\y<=j:=fun p hp=>by
    rcases aah p hp with hp | hp
    ·exact hM.int p hp
    ·exact⟨0,hp,by omega,by omega⟩
   refine ab.av 7 ?_;refine ae @dE ?_;clear hx hx0 hxj
   obtain⟨x,hx,hx0,hxj⟩:∃x:Int,xR false (mi 0) (iX kl M1)=mi x/\0<=x/\x<=j:=by
    cases fO:iX kl M1 with
    | none=>exact⟨0,rfl,by omega,by omega⟩
    | some m=>
      unfold iX at fO;obtain⟨p,qm,rfl⟩:=Option.map_eq_some_iff.1 fO;obtain⟨x,k1,k2,k3⟩:=Qr p (List.mem_of_find?_eq_some qm);exact⟨x,k1,k2,k3⟩
   simp only[ar]at hx;refine ab.one (i:=4) (aH.ra (fI.lA qY aa (l:=kl) (te:=⟨_,1,8,[.v (.int .i64 0)]⟩) Tryz.underlying75 T3 rfl rfl VS Sg rfl ja jY) ?_);rw[hx];refine⟨trivial,?_⟩;refine ab.av 5 ?_;refine ae @dE ?_;refine ab.one (i:=8) (aH.Mt rfl rfl (Bf.HB rfl VS Sg rfl rfl aai) ?_);rintro O7 ⟨M2,e7,aaj,aak⟩;refine⟨trivial,?_⟩;refine ab.bH [] ?_;refine ae @dE ?_;refine WC.sound aa (ao @dE @dd ?_);refine az.next (j+1) ⟨?_,?_,aX,M2,_,by rw[e7];exact VH.an _ _ _,aaj,fun p hp=>?_⟩
   ·rw[e7];exact Mv.set (Nat.le_refl _) _
   ·rw[e7];show O.next+1<=(O6).next;omega
   ·rcases aak p hp with hp | hp
    ·obtain⟨y,k1,k2,k3⟩:=Qr p hp;exact⟨y,k1,k2,by push_cast;omega⟩
    ·exact⟨_,hp,by omega,by push_cast;omega⟩
 intro _ O3 ⟨aJ,gL⟩;refine VC.ag aa (ae @dE ?_);refine ah.rt (ED L tk O3 (by omega)) ?_;rintro mL O4 ⟨bg,wT⟩;refine ae @dE ?_;refine VC.bJ [10] (fun _:Unit=>[mL]) (fun _ O'=>O'=O4) ?_ ?_
 ·refine VC.ag aa (ae @dE ?_);refine VC.aB ?_;refine VC.bP [10,33] [2,7,31,32] (fun _:Unit=>[mL,mi 0]) (fun _ O'=>O'=O4) (fun _=>0) (()) ?_ ?_
  ·rfl
  rintro _ O5 e5;rw[e5];clear e5 O5
  refine WC.sound aa (ae @dE ?_);exact aA.mk () rfl
 rintro _ O5 e5;rw[e5];clear e5 O5
 refine WC.sound aa (ae @dE ?_);exact⟨aJ.trans bg,GR.less wT (by omega)⟩
theorem aal (L:List Dp) (tk t2:Tok) (O:VH) (hn:L.length<=10000) (hL:∀d∈L,B6 d):
  VF Tryz.prog 173 [.sl L.length (L.flatMap aQ) tk,.sl 0 [] t2] O (aD fun m O'=>∃t,m= .sl L.length (L.flatMap aQ) t/\O.Ge O'):=by
 have dK:=aT fX L;refine VF.bO 27 [.tmp 4] Tryz.func173 ?_;refine VC.ag aa (ae @dE ?_);refine VC.ag aa (ae @dE ?_);refine ah.rt (aag L tk t2 O hn hL) ?_;rintro mL O2 ⟨ax,wT⟩;rcases wT with⟨h0,_,hp⟩ | ⟨k,c,rfl,zc,_,cL⟩
 ·obtain rfl:L=[]:=List.eq_nil_of_length_eq_zero h0;rcases hp with rfl | rfl
  ·refine ae @dE ?_;refine VC.bJ [5] (fun _:Unit=>[.sl 0 [] .nil]) (fun _ O'=>O'=O2) ?_ ?_
   ·refine VC.ag aa (ae @dE ?_);refine VC.aB ?_;refine VC.bP [12] [5,11] (fun j:Nat=>[mi 0]) (fun j O'=>O'=O2) (fun j=>0) (0) ?_ ?_
    ·rfl
    rintro j O3 eO;rw[eO];clear eO O3
    refine WC.sound aa (ae @dE ?_);exact aA.mk () rfl
   intro _ O9 eO;rw[eO];clear eO O9
   refine WC.sound aa (ae @dE ?_);exact⟨_,rfl,ax⟩
  ·refine ae @dE ?_;refine VC.bJ [5] (fun _:Unit=>[.sl 0 [] .full]) (fun _ O'=>O'=O2) ?_ ?_
   ·refine VC.ag aa (ae @dE ?_);refine VC.aB ?_;refine VC.bP [12] [5,11] (fun j:Nat=>[mi 0]) (fun j O'=>O'=O2) (fun j=>0) (0) ?_ ?_
    ·rfl
    rintro j O3 eO;rw[eO];clear eO O3
    refine WC.sound aa (ae @dE ?_);exact aA.mk () rfl
   intro _ O9 eO;rw[eO];clear eO O9
   refine WC.sound aa (ae @dE ?_);exact⟨_,rfl,ax⟩
 obtain⟨sp,hc,mO⟩:=cL.cells;have jY:=cL.lo;have P2:=cL.hi;refine ae @dE ?_;refine VC.bJ [5] (fun _:Unit=>[.bp k 0 L.length c]) (fun _ O'=>O2.Ge O') ?_ ?_
 ·refine VC.ag aa (ae @dE ?_);refine VC.aB ?_;refine VC.bP [12] [5,11] (fun j:Nat=>[mi j]) (fun j O'=>O2.Ge O'/\j<=L.length) (fun j=>L.length - j) (0) ?_ ?_
  ·exact⟨VH.Ge.refl _,Nat.zero_le _⟩
  rintro j O3 ⟨aJ,hj⟩;by_cases aX:j<L.length;rotate_left
  ·obtain rfl:j=L.length:=by omega
   refine WC.sound aa (ae @dE ?_);exact aA.mk () aJ
  have eE:=(aJ.hp k P2).trans hc;have bA:(L.flatMap aQ++sp)[j*8+7]?=some (.sl L[j].x.length (L[j].x.flatMap bV) .aq):=jC fX (List.getElem?_eq_getElem aX) rfl;have hxj:=(hL L[j] (List.getElem_mem aX)).2.2.2.2.2;generalize L[j].x=X at*;generalize L.flatMap aQ++sp=C at*;have kh:=wE bA;have IH:=(List.getElem?_eq_some_iff.1 bA).1;have dd:((j:Int)+1)=((j+1:Nat):Int):=by omega
  refine VC.ag aa (ae @dE ?_);refine VC.ag aa (ae @dE ?_);refine VC.bC (VC.aB ?_);refine VC.ag aa (ae @dE ?_);refine WC.sound aa (aI @dE @eE @bA ?_);refine ah.rt (sS X .aq O3 (by omega)) ?_;rintro _ O4 ⟨rfl,bg⟩;have eX:=(bg.hp k (by have:=aJ.next;omega)).trans eE;refine de @dE @eX @bA @kh ?_;rw[VH.vO eX];refine WC.sound aa (ao @dE @dd ?_);exact az.next (j+1) ⟨aJ.trans bg,aX⟩
 intro _ O9 bn;have I0:=(bn.hp k P2).trans hc;refine VC.freeze 5 (sz:=L.length*8) rfl I0 (by rw[List.length_append,dK];omega) ?_;have eb:((L.flatMap aQ++sp).drop 0).take (L.length*8)=L.flatMap aQ:=by rw[List.drop_zero,List.take_append_of_le_length (by rw[dK];exact Nat.le_refl _), <-dK,List.take_length]
 rw[eb];have rX:=ax.trans bn;have jm:O.Ge (O9.kill k):=⟨rX.next,fun i hi=>(VH.kC _ (by omega)).trans (rX.hp i hi)⟩;refine WC.sound aa (ae @dE ?_);exact⟨_,rfl,jm⟩
theorem HC (L:List Dp) (tk t2:Tok) (O:VH) (hn:L.length<=10000) (hL:∀d∈L,B6 d):
  VF Tryz.prog 173 [.sl L.length (L.flatMap aQ) tk,.sl 0 [] t2] O (aD fun m O'=>m= .sl L.length (L.flatMap aQ) .aq/\O.Ge O'):=
 VF.Vt (aal L tk t2 O hn hL) fun m O' ⟨t,h1,h3⟩=>⟨_,h1▸Wk.tok,rfl,h3⟩
set_option linter.defProp false in
def jh:=And.intro dE<|And.intro zA<|And.intro BT<|And.intro aeu T9
theorem agF (x:Bs×Bs) (k:Nat) (nm:Bs) (O:VH) (hk:O.hp k=some (.cells [.str nm])) (xK:k<O.next):VF Tryz.prog 228 ([.agg (aY x)]++[.ptr k 0]) O (aD fun m O'=>m=mb (x.1==nm)/\O.Ge O'):=by
 obtain⟨x1,x2⟩:=x;unfold aY;simp only[List.cons_append,List.nil_append];refine VF.bO 8 [.tmp 3] Tryz.func228 ?_;refine VC.ag aa (ae @jh ?_);refine VC.bx ?_;rintro O1 ⟨aM,dw,c5⟩;have dT:=(aM.hp k xK).trans hk;refine WC.sound aa (aI @jh @dw @dT ?_);exact aM
theorem agG (L:List (Bs×Bs)) (tk:Tok) (nm:Bs) (O:VH) (hn:L.length<=1000000):VF Tryz.prog 203 [.sl L.length (L.flatMap aY) tk,.str nm] O (aD fun m O'=>m=mi (idxFrom (fun x=>x.1==nm) 0 L)/\O.Ge O'):=by
 refine VF.bO 8 [.tmp 4] Tryz.func203 ?_;refine VC.ag aa (ae @jh ?_);refine VC.bx ?_;rintro O1 ⟨aM,dw,c5⟩;refine VC.ag aa (ae @jh ?_);refine ah.rt (RX L tk 228 [.ptr O.next 0] (fun x=>x.1==nm) O1 (by kernel_rfl) (fun q _ O' IM=>agF q _ nm O' (IM.at dw) (by have:=IM.next;omega)) hn) ?_;rintro _ O2 ⟨rfl,ax⟩;refine ae @jh ?_;refine WC.sound aa (ae @jh ?_);exact aM.trans ax
theorem HD {α :Type} (p: α ->Bool):∀(L:List α) (i:Nat),(∀x∈L,p x=false)->idxFrom p i L= -1
 | [],i,_=>rfl
 | x::r,i,h=>by
   rw[idxFrom,h x (by simp)];exact HD p r (i+1) fun y hy=>h y (List.mem_cons_of_mem _ hy)
theorem adi (L:List (Bs×Bs)) (tk:Tok) (nm vl:Bs) (O:VH) (hn:L.length<=10000) (fH:∀x∈L,x.1≠nm):VF Tryz.prog 174 [.sl L.length (L.flatMap aY) tk,.str nm,.str vl] O (aD fun m O'=>(∃t,m= .sl (L++[(nm,vl)]).length ((L++[(nm,vl)]).flatMap aY) t)/\O.Ge O'):=by
 have aiH:idxFrom (fun x:Bs×Bs=>x.1==nm) 0 L= -1:=HD _ L 0 fun x hx=>by rw[beq_eq_false_iff_ne];exact fH x hx
 refine VF.bO 28 [.tmp 6] Tryz.func174 ?_;refine VC.ag aa (ae @jh ?_);refine VC.ag aa (ae @jh ?_);refine ah.rt (AU L tk O (by omega)) ?_;rintro _ O2 ⟨t2,rfl,cH,ax⟩;refine ae @jh ?_;refine VC.ag aa (ae @jh ?_);refine ah.rt (agG L t2 nm O2 (by omega)) ?_;rintro _ O3 ⟨rfl,aJ⟩;rw[aiH];have jw:=cH.ge aJ;refine ae @jh ?_;obtain⟨mE,fZ,kX⟩:=fR (n:=L.length) (cs:=L.flatMap aY) (ds:=[.str nm,.str vl]) (es:=aY (nm,vl)) zA BT.1.1 jw (aT fa L) rfl rfl (by decide) (by omega) (by simp only[maxLen];omega) (fS L) (by simp only[aY,wu]);refine VC.ag aa (ae @jh ?_);refine VL.lh fZ kX ?_;refine ae @jh ?_;refine WC.sound aa (ae @jh ?_);refine⟨⟨.own O3.next 2,by rw[List.length_append,List.flatMap_append];rfl⟩,cP.eo (ax.trans aJ) jw (cP.after jw)⟩
theorem Sh (L M:List (Bs×Bs)) (tk tM:Tok) (O:VH) (hn:L.length+M.length<=10000) (fH:∀x∈L,∀y∈M,x.1≠y.1) (hM:M.Pairwise fun x y=>x.1≠y.1):VF Tryz.prog 146 [.sl L.length (L.flatMap aY) tk,.sl M.length (M.flatMap aY) tM] O (aD fun m O'=>(∃t,m= .sl (L++M).length ((L++M).flatMap aY) t)/\O.Ge O'):=by
 have hpm:=aT fa M;refine VF.bO 24 [.tmp 4] Tryz.func146 ?_;refine VC.ag aa (ae @jh ?_);refine VC.ag aa (ae @jh ?_);refine ah.rt (AU L tk O (by omega)) ?_;rintro _ O2 ⟨t2,rfl,cH,ax⟩;refine ae @jh ?_;refine VC.join aa [5] (fun t:Tok=>[.sl (L++M).length ((L++M).flatMap aY) t]) (fun t O'=>O.Ge O') ?_ ?_;rotate_left
 ·intro t O9 bn;refine ae @jh ?_;exact⟨⟨t,rfl⟩,bn⟩
 refine VC.ag aa (ae @jh ?_);refine VC.aB ?_;refine VC.bP [5,12] [10,11] (fun x:Nat×List (Bs×Bs)×Tok=>[.sl x.2.1.length (x.2.1.flatMap aY) x.2.2,mi x.1]) (fun x O'=>O.Ge O'/\x.1<=M.length/\x.2.1=L++M.take x.1) (fun x=>M.length - x.1) ((0,L,t2)) ?_ ?_
 ·exact⟨ax,Nat.zero_le _,by simp⟩
 rintro⟨j,LM,t⟩ O3 ⟨aJ,hj,I5⟩;dsimp only at hj I5 ⊢;by_cases aX:j<M.length;rotate_left
 ·obtain rfl:j=M.length:=by omega
  rw[List.take_length]at I5;subst I5;refine WC.sound aa (ae @jh ?_);exact aA.mk t aJ
 have bA:=cg fa M j aX;have iZ:L++M.take (j+1)=(L++M.take j)++[M[j]]:=by rw[cY _ _ aX,List.append_assoc]
 have hnw:∀x∈L++M.take j,x.1≠M[j].1:=fun x hx=>by
  rcases List.mem_append.1 hx with hx | hx
  ·exact fH x hx _ (List.getElem_mem aX)
  ·obtain⟨i,hi,rfl⟩:=List.mem_iff_getElem.1 hx;rw[List.length_take]at hi;rw[List.getElem_take];exact(List.pairwise_iff_getElem.1 hM) i j (by omega) aX (by omega)
 have hlen:(L++M.take j).length<=10000:=by rw[List.length_append,List.length_take];omega
 rw[<-I5]at iZ hnw hlen;generalize M[j]=y at*;obtain⟨yn,yv⟩:=y;simp only[aY]at bA;have dd:((j:Int)+1)=((j+1:Nat):Int):=by omega
 refine VC.ag aa (ae @jh ?_);refine VC.ag aa (ae @jh ?_);refine VC.bC (VC.aB ?_);refine VC.ag aa (ao @jh @bA ?_);refine VC.al ?_;rintro O4 ⟨bg,ja,gM⟩;refine WC.sound aa (ao @jh @ja ?_);refine ah.rt (adi LM t yn yv O4 (by omega) hnw) ?_;rintro _ O5 ⟨⟨t5,rfl⟩,bW⟩;refine ae @jh ?_;refine WC.sound aa (ao @jh @dd ?_);exact az.next (j+1,LM++[(yn,yv)],t5) ⟨(aJ.trans bg).trans bW,aX,iZ.symm⟩
set_option linter.defProp false in
def bY:=And.intro jh<|And.intro ki<|And.intro Lb<|And.intro aes<|And.intro xf<|And.intro AI<|And.intro uP<|And.intro T71 T4
theorem nc.ge {O O':VH} {k ke kv ce cv:Nat} {L:List (Gv×Bs×Option Pm)} {E V:fj} {r a:Int} (h:nc O k L E V ke kv ce cv r a) (g:O.Ge O'):nc O' k L E V ke kv ce cv r a:=
 ⟨h.st.ge g,h.len,fun i x t o hi=>by obtain⟨q,c,h1,h2,h3⟩:=h.I3 i x t o hi;exact⟨q,c,h1,Nat.lt_of_lt_of_le h2 g.next,(g.hp _ h2).trans h3⟩,h.dis,h.ver.ge g⟩
structure PmC (p:Pm):Prop where
 ok:aaa p
 hp:p.hp=false
 eu:∀d∈p.eu,B6 d
 ec:∀d∈p.ec,B6 d
 props:p.props.Pairwise fun x y=>x.1≠y.1
theorem aam (p:Pm) (O:VH) (hc:PmC p):VF Tryz.prog 145 [.agg (fY p),.agg eU] O (aD fun m O'=>m= .agg (fY p)/\O.Ge O'):=by
 refine VF.fg ?_;obtain⟨cW,ny,aeS,aan,Si⟩:=hc;obtain⟨k1,k2,k3,k4,k5⟩:=cW;obtain⟨b,⟨pg,pa,pv⟩,g,a,v,pk,P,M,D⟩:=p;dsimp only at ny k1 k2 k3 k4 k5 aeS aan Si;subst ny;simp only[fY,a_];refine VF.bO 48 [.cell 4 106] Tryz.func145 ?_;refine VC.ag aa (ae @bY ?_);refine VC.gen ?_;intro O1 e1;obtain⟨aM,c5,cS,cA,fN⟩:=lG _ _ _ e1;clear e1;refine VC.ag aa (ao @bY @cS ?_);refine VC.al ?_;rintro O2 ⟨ax,bR,iB⟩;have jc:=ax.at cS;have ct:=ax.at cA;have jj:=ax.at fN;have gx:=aM.trans ax;clear aM ax cS cA fN;refine VC.ag aa (ao @bY @bR ?_);refine VC.ag aa (ao @bY @bR ?_);refine VC.ag aa (aI @bY @jc @ct ?_);refine ah.rt (Sh [] P .nil .aq O2 (by simp;omega) (by simp) Si) ?_;rintro _ O3 ⟨⟨t3,rfl⟩,aJ⟩;rw[List.nil_append];have oV:=aJ.at jc;have cu:=aJ.at ct;have eE:=aJ.at jj;have dG:=aJ.at bR;have gL:=aJ.next;refine ao @bY @dG ?_;refine VC.gen ?_;intro O4 e4;have rb:∀i,i≠O1.next->O4.hp i=O3.hp i:=fun i hi=>by rw[e4];exact VH.ak _ _ hi
 have kG:=(rb _ (by omega)).trans oV;have cQ:=(rb _ (by omega)).trans cu;have eX:=(rb _ (by omega)).trans eE;have ja:O4.hp O1.next=some (.cells [.v (.bool false),.str pg,.str pa,.str pv,.str g,.str a,.str v,.str pk,.sl P.length (P.flatMap aY) t3,.sl M.length (M.flatMap aQ) .aq,.sl D.length (D.flatMap aQ) .aq]):=by rw[e4];exact VH.an _ _ _
 have gM:O4.next=O3.next:=by rw[e4];rfl
 have gR:O.Ge O4:=by rw[e4];exact(gx.trans aJ).set (by omega) _
 clear e4 rb oV cu eE dG jc ct jj bR;refine VC.bC ?_;refine VC.CO [11,12,13] (O.next) (O.next+1) (kG) (cQ) ?_ (hne:=(by omega));intro X1 X2;refine ab.av 0 ?_;refine ae @bY ?_;refine ab.nX (m:=.sl M.length (M.flatMap aQ) .aq) 1 (fun _ h=>h.1) (fun _ h=>h.1) ?_ ?_
 ·exact eW @bY
 simp only[aj];refine ab.av 2 ?_;refine ae @bY ?_;refine ab.nX (m:=.sl 0 [] .nil) 3 (fun _ h=>h.2) (fun _ h=>h.2) ?_ ?_
 ·exact eW @bY
 simp only[aj];refine ab.av 5 ?_;refine ae @bY ?_;refine ab.nX (m:=.sl D.length (D.flatMap aQ) .aq) 6 (fun _ h=>h.1) (fun _ h=>h.1) ?_ ?_
 ·exact eW @bY
 simp only[aj];refine ab.av 7 ?_;refine ae @bY ?_;refine ab.nX (m:=.sl 0 [] .nil) 8 (fun _ h=>h.2) (fun _ h=>h.2) ?_ ?_
 ·exact eW @bY
 simp only[aj];have hJ:LG O.next (O.next+1) X1 X2 ((O4.set O.next (.obj X1)).set (O.next+1) (.obj X2)):=⟨VH.sn (VH.an _ _ _),VH.an _ _ _⟩;have gC:=(VH.ak (O4.set O.next (.obj X1)) (.obj X2) (by omega:O1.next≠O.next+1)).trans ((VH.ak O4 (.obj X1) (by omega:O1.next≠O.next)).trans ja);have fA:=(VH.ak (O4.set O.next (.obj X1)) (.obj X2) (by omega:O.next+2≠O.next+1)).trans ((VH.ak O4 (.obj X1) (by omega:O.next+2≠O.next)).trans eX);have gu:((O4.set O.next (.obj X1)).set (O.next+1) (.obj X2)).next=O4.next:=rfl;have bW:O.Ge ((O4.set O.next (.obj X1)).set (O.next+1) (.obj X2)):=(gR.set (by omega) _).set (by omega) _;generalize (O4.set O.next (.obj X1)).set (O.next+1) (.obj X2)=O5 at*;refine ab.call (i:=4) (HC M .aq .nil O5 k2 aeS) ?_;rintro _ O6 ⟨rfl,fC⟩;simp only[aj];refine⟨⟨fC.at hJ.1,fC.at hJ.2⟩,?_⟩;refine ab.av 10 ?_;refine ae @bY ?_;refine ab.call (i:=9) (HC D .aq .nil O6 k3 aan) ?_;rintro _ O7 ⟨rfl,fc⟩;simp only[aj];have qD:=fC.trans fc;refine⟨⟨qD.at hJ.1,qD.at hJ.2⟩,?_⟩;have tW:=qD.at gC;have hc7:=qD.at fA;refine ab.wo [(11,.one),(12,.av),(13,.one)] ?_ (hne:=(by omega));have tZ:=(VH.ak (O7.set O.next (.cells [.v (.bool false),.str pg,.str pa,.str pv,.str g,.str a,.str v,.str pk,.sl P.length (P.flatMap aY) .aq,.sl M.length (M.flatMap aQ) .aq,.sl D.length (D.flatMap aQ) .aq])) (.cells eU) (by omega:O1.next≠O.next+1)).trans ((VH.ak O7 (.cells [.v (.bool false),.str pg,.str pa,.str pv,.str g,.str a,.str v,.str pk,.sl P.length (P.flatMap aY) .aq,.sl M.length (M.flatMap aQ) .aq,.sl D.length (D.flatMap aQ) .aq]) (by omega:O1.next≠O.next)).trans tW);refine ao @bY @tW ?_;refine VC.gen ?_;intro O8 e8;have ik:O.Ge O8:=by rw[e8];exact((((bW.trans qD).set (by omega) _).set (by omega) _).set (by omega) _).set (by omega) _
 have hk9:O8.hp O1.next=some (.cells [.v (.bool false),.str pg,.str pa,.str pv,.str g,.str a,.str v,.str pk,.sl P.length (P.flatMap aY) t3,.sl M.length (M.flatMap aQ) .aq,.sl D.length (D.flatMap aQ) .aq]):=by rw[e8];exact VH.an _ _ _
 have I0:O8.hp (O.next+2)=some (.cells eU):=by rw[e8,VH.ak _ _ (by omega),VH.ak _ _ (by omega),VH.ak _ _ (by omega),VH.ak _ _ (by omega)];exact hc7
 clear e8;have Mw:O.next+1+1=O.next+2:=by omega
 rw[Mw];refine VC.ag aa (aI @bY @hk9 @I0 ?_);refine WC.sound aa (ae @bY ?_)
 first
  | exact ik.set (by omega) _
  | exact⟨by simp only[wu,fS,kV],ik.set (by omega) _⟩
theorem adj {O:VH} {k ke kv ce cv:Nat} {L:List (Gv×Bs×Option Pm)} {E V:fj} {r a:Int} (h:nc O k L E V ke kv ce cv r a) {i:Nat} {g:Gv} {t:Bs} {n:Nd} {p:Pm} (hi:L[i]?=some (g,t,none)) (hg:sT g) (ht:t.length<=65536) (hb:gQ t= .ok n) (hr:oz n= .ok p) (hc:PmC p):
  VF Tryz.prog 144 [.ptr k 0,.agg (bS g)] O (aD fun m O'=>(∃t1 t2,m= .tuple [.sl 1 (fY p) t1,.sl 1 (bS g) t2,.agg (oZ iH)])/\∃q,iX (eA g) E=some (.ptr q 0)/\q<O.next/\(∃r' a',O'.hp k=some (.cells [.map ke,.map kv,mi r',mi a']))/\O'.hp q=some (.cells (iJ t 1 0 p iH))/\c_ O k q O'):=by
 obtain⟨q,c,fO,pK,hq,_⟩:=h.some hi;have CA:=fun(O':VH) (g':O.Ge O')=>agB (h.st.ge g') g hg fO ((g'.hp q pK).trans hq) (Nat.lt_of_lt_of_le pK g'.next) ht hb hr hc.ok
 have jY:=h.st.lt.1;have ny:=hc.hp;have aj_:=hc.ok;clear hi hq h hc hb hr;have hpu:=UT p;obtain⟨g1,g2,g3⟩:=g;obtain⟨b,⟨pg,pa,pv⟩,pG,pA,pV,pk,P,M,D⟩:=p;dsimp only at ny;subst ny;simp only[bS,fY,oZ,iH,a_,ar]at CA hpu ⊢;refine VF.bO 51 [.tmp 4,.tmp 5,.cell 6 71] Tryz.func144 ?_;refine VC.ag aa (ae @bY ?_);refine VC.gen ?_;intro O1 e1;obtain⟨aM,c5,cS,cA⟩:=gk _ _ e1;clear e1;refine VC.ag aa (ae @bY ?_);refine VC.ag aa (ae @bY ?_);refine VC.aB ?_;refine VC.bP [7,8] [0,3,6] (fun _:Unit=>[.sl 0 [] .nil,.sl 0 [] .nil]) (fun _ O'=>O'=O1) (fun _=>0) (()) ?_ ?_
 ·rfl
 rintro _ O2 e2;rw[e2];clear e2 O2
 refine VC.aB ?_;refine VC.ag aa (ao @bY @cS ?_);refine ah.rt (CA O1 aM) ?_;rintro _ O2 ⟨rfl,⟨r',a',bR⟩,Af,dk⟩;have iB:=dk.next;have jc:=(dk.hp _ (by omega) (by omega) (by omega)).trans cS;have ct:=(dk.hp _ (by omega) (by omega) (by omega)).trans cA;have Mx:=(c_.of (k:=k) (q:=q) aM).trans dk;refine ae @bY ?_;refine VC.gen ?_;intro O3 e3;have aJ:O2.Ge O3:=by rw[e3];exact((((VH.Ge.refl O2).push _).push _).set (Nat.le_refl _) _).set (Nat.le_succ _) _
 have oA:O3.hp O2.next=some (.cells [.v (.bool false),.str pg,.str pa,.str pv,.str pG,.str pA,.str pV,.str pk,.sl P.length (P.flatMap aY) .aq,.sl M.length (M.flatMap aQ) .aq,.sl D.length (D.flatMap aQ) .aq]):=by rw[e3,VH.ak _ _ (by omega)];exact VH.an _ _ _
 have kZ:O3.hp (O2.next+1)=some (.cells [.v (.int .i64 0),.str [],.str [],.str [],.v (.int .i64 0),.v (.int .i64 0),.v (.int .i64 0),.str []]):=by rw[e3];exact VH.an _ _ _
 have gL:O3.next=O2.next+2:=by rw[e3];rfl
 clear e3;have oV:=aJ.at jc;have cu:=aJ.at ct;have dG:=aJ.at bR;have vu:=aJ.at Af;have cN:=Mx.ge aJ;clear jc ct bR Af Mx dk cS cA;refine VC.ag aa (ao @bY @kZ ?_);refine VL.DK aa (bb:=false) (b:=true) (by simp) (by simp[iU]) (.inr ⟨rfl,rfl⟩) (by kernel_rfl) (by kernel_rfl) rfl rfl rfl rfl ?_;refine ae @bY ?_;refine VC.bC ?_;refine VC.CO [] (O2.next) (O.next) (oA) (oV) ?_ (hne:=(by omega));intro X1 X2;refine ab.av 0 ?_;refine ae @bY ?_;refine ab.nX (m:=.agg [.v (.bool false),.str pg,.str pa,.str pv,.str pG,.str pA,.str pV,.str pk,.sl P.length (P.flatMap aY) .aq,.sl M.length (M.flatMap aQ) .aq,.sl D.length (D.flatMap aQ) .aq]) 1 (fun _ h=>h.1) (fun _ h=>h.1) ?_ ?_
 ·exact eW @bY
 simp only[aj];refine ab.av 4 ?_;refine ae @bY ?_;refine ab.nX (m:=.agg [.str g1,.str g2,.str g3]) 5 (fun _ h=>h.2) (fun _ h=>h.2) ?_ ?_
 ·exact eW @bY
 simp only[aj];have my:True:=trivial;have hJ:LG O2.next O.next X1 X2 ((O3.set O2.next (.obj X1)).set O.next (.obj X2)):=⟨VH.sn (VH.an _ _ _),VH.an _ _ _⟩;have gu:((O3.set O2.next (.obj X1)).set O.next (.obj X2)).next=O3.next:=rfl;have gO:∀i,i≠O2.next->i≠O.next->((O3.set O2.next (.obj X1)).set O.next (.obj X2)).hp i=O3.hp i:=fun i h1 h2=>by rw[VH.ak _ _ h2,VH.ak _ _ h1]
 generalize (O3.set O2.next (.obj X1)).set O.next (.obj X2)=O5 at*;have jw:=bo (tk:=.nil) (tk':=.full) (B:=0) (n:=0) (k:=1) (cs:=[]) (ds:=[.v (.bool false),.str pg,.str pa,.str pv,.str pG,.str pA,.str pV,.str pk,.sl P.length (P.flatMap aY) .aq,.sl M.length (M.flatMap aQ) .aq,.sl D.length (D.flatMap aQ) .aq]) aes Lb.1.1 (O:=O5) trivial rfl rfl rfl (by decide) (by decide) (by decide) (by decide);have aao:O5.Ge (O5.after .nil):=cP.Cl (tk:=.nil) (sz:=11) trivial (cP.after (sz:=11) (B:=0) trivial);have I6:LG O2.next O.next X1 X2 (O5.after .nil):=⟨aao.at hJ.1,aao.at hJ.2⟩;have jP:=bo (tk:=.nil) (tk':=.full) (B:=0) (n:=0) (k:=1) (cs:=[]) (ds:=[.str g1,.str g2,.str g3]) xf AI.1.1 (O:=O5.after .nil) trivial rfl rfl rfl (by decide) (by decide) (by decide) (by decide);have aiI:(O5.after .nil).Ge ((O5.after .nil).after .nil):=cP.Cl (tk:=.nil) (sz:=3) trivial (cP.after (sz:=3) (B:=0) trivial);have qD:=aao.trans aiI;have CC:LG O2.next O.next X1 X2 ((O5.after .nil).after .nil):=⟨qD.at hJ.1,qD.at hJ.2⟩;rw[Nat.zero_add,List.nil_append]at jw jP;refine ab.pair (i:=2) (j:=6) ?_ ?_
 ·refine aH.o1 ?_;refine ae @bY ?_;refine⟨hJ,?_⟩;refine ab.pair (i:=3) (j:=6) ?_ ?_
  ·refine aH.o1 ?_;rw[cT];refine ao @bY @jw ?_;refine⟨I6,?_⟩;refine ab.op (i:=6) ?_;refine ae @bY ?_;refine⟨I6,?_⟩;refine ab.op (i:=7) ?_;rw[cT];refine ao @bY @jP ?_;refine⟨CC,?_⟩;refine ab.op (i:=8) ?_;refine ae @bY ?_;refine⟨CC,?_⟩;refine ab.op (i:=9) ?_;refine ae @bY ?_;refine⟨CC,?_⟩;refine ab.wo [] ?_ (hne:=(by omega));refine ae @bY ?_;refine VC.gen ?_;intro O8 e8
   have yh:∀i,i<O5.next->i≠O2.next->i≠O.next->O8.hp i=O5.hp i:=fun i h1 h2 h3=>by
    rw[e8,VH.ak _ _ h3,VH.ak _ _ h2];exact qD.hp i h1
   have Ae:O8.hp O2.next=some (.cells [.v (.bool false),.str pg,.str pa,.str pv,.str pG,.str pA,.str pV,.str pk,.sl P.length (P.flatMap aY) .aq,.sl M.length (M.flatMap aQ) .aq,.sl D.length (D.flatMap aQ) .aq]):=by rw[e8,VH.ak _ _ (by omega)];exact VH.an _ _ _
   have D7:O3.next<=O8.next:=by
    have h1:=qD.next;have h2:O8.next=((O5.after .nil).after .nil).next:=by rw[e8];rfl
    omega
   clear e8;have oL:∀i,i<O3.next->i≠O2.next->i≠O.next->O8.hp i=O3.hp i:=fun i h1 h2 h3=>(yh i (by omega) h2 h3).trans (gO i h2 h3)
   have sF:=(oL (O.next+1) (by omega) (by omega) (by omega)).trans cu;have tZ:=(oL k (by omega) (by omega) (by omega)).trans dG;have My:=(oL q (by omega) (by omega) (by omega)).trans vu;have ql:c_ O k q O8:=⟨by omega,fun i h1 h2 h3=>(oL i (by omega) (by omega) (by omega)).trans (cN.hp i h1 h2 h3)⟩;refine VC.ag aa (aI @bY @Ae @sF ?_);exact⟨⟨_,_,rfl⟩,q,fO,pK,⟨r',a',tZ⟩,(by first | exact My | exact VH.sn My),⟨ql.next,fun i h1 h2 h3=>VH.sn (ql.hp i h1 h2 h3)⟩⟩
  ·refine aH.o1 ?_;refine ae @bY ?_;refine⟨hJ,?_⟩;refine ab.op (i:=3) ?_;rw[cT];refine ao @bY @jw ?_;refine⟨I6,?_⟩;refine ab.op (i:=7) ?_;rw[cT];refine ao @bY @jP ?_;refine⟨CC,?_⟩;refine ab.op (i:=8) ?_;refine ae @bY ?_;refine⟨CC,?_⟩;refine ab.op (i:=9) ?_;refine ae @bY ?_;refine⟨CC,?_⟩;refine ab.wo [] ?_ (hne:=(by omega));refine ae @bY ?_;refine VC.gen ?_;intro O8 e8
   have yh:∀i,i<O5.next->i≠O2.next->i≠O.next->O8.hp i=O5.hp i:=fun i h1 h2 h3=>by
    rw[e8,VH.ak _ _ h3,VH.ak _ _ h2];exact qD.hp i h1
   have Ae:O8.hp O2.next=some (.cells [.v (.bool false),.str pg,.str pa,.str pv,.str pG,.str pA,.str pV,.str pk,.sl P.length (P.flatMap aY) .aq,.sl M.length (M.flatMap aQ) .aq,.sl D.length (D.flatMap aQ) .aq]):=by rw[e8,VH.ak _ _ (by omega)];exact VH.an _ _ _
   have D7:O3.next<=O8.next:=by
    have h1:=qD.next;have h2:O8.next=((O5.after .nil).after .nil).next:=by rw[e8];rfl
    omega
   clear e8;have oL:∀i,i<O3.next->i≠O2.next->i≠O.next->O8.hp i=O3.hp i:=fun i h1 h2 h3=>(yh i (by omega) h2 h3).trans (gO i h2 h3)
   have sF:=(oL (O.next+1) (by omega) (by omega) (by omega)).trans cu;have tZ:=(oL k (by omega) (by omega) (by omega)).trans dG;have My:=(oL q (by omega) (by omega) (by omega)).trans vu;have ql:c_ O k q O8:=⟨by omega,fun i h1 h2 h3=>(oL i (by omega) (by omega) (by omega)).trans (cN.hp i h1 h2 h3)⟩;refine VC.ag aa (aI @bY @Ae @sF ?_);exact⟨⟨_,_,rfl⟩,q,fO,pK,⟨r',a',tZ⟩,(by first | exact My | exact VH.sn My),⟨ql.next,fun i h1 h2 h3=>VH.sn (ql.hp i h1 h2 h3)⟩⟩
 ·refine aH.o1 ?_;refine ae @bY ?_;refine⟨hJ,?_⟩;refine ab.op (i:=2) ?_;refine ae @bY ?_;refine⟨hJ,?_⟩;refine ab.op (i:=3) ?_;rw[cT];refine ao @bY @jw ?_;refine⟨I6,?_⟩;refine ab.op (i:=7) ?_;rw[cT];refine ao @bY @jP ?_;refine⟨CC,?_⟩;refine ab.op (i:=8) ?_;refine ae @bY ?_;refine⟨CC,?_⟩;refine ab.op (i:=9) ?_;refine ae @bY ?_;refine⟨CC,?_⟩;refine ab.wo [] ?_ (hne:=(by omega));refine ae @bY ?_;refine VC.gen ?_;intro O8 e8
  have yh:∀i,i<O5.next->i≠O2.next->i≠O.next->O8.hp i=O5.hp i:=fun i h1 h2 h3=>by
   rw[e8,VH.ak _ _ h3,VH.ak _ _ h2];exact qD.hp i h1
  have Ae:O8.hp O2.next=some (.cells [.v (.bool false),.str pg,.str pa,.str pv,.str pG,.str pA,.str pV,.str pk,.sl P.length (P.flatMap aY) .aq,.sl M.length (M.flatMap aQ) .aq,.sl D.length (D.flatMap aQ) .aq]):=by rw[e8,VH.ak _ _ (by omega)];exact VH.an _ _ _
  have D7:O3.next<=O8.next:=by
   have h1:=qD.next;have h2:O8.next=((O5.after .nil).after .nil).next:=by rw[e8];rfl
   omega
  clear e8;have oL:∀i,i<O3.next->i≠O2.next->i≠O.next->O8.hp i=O3.hp i:=fun i h1 h2 h3=>(yh i (by omega) h2 h3).trans (gO i h2 h3)
  have sF:=(oL (O.next+1) (by omega) (by omega) (by omega)).trans cu;have tZ:=(oL k (by omega) (by omega) (by omega)).trans dG;have My:=(oL q (by omega) (by omega) (by omega)).trans vu;have ql:c_ O k q O8:=⟨by omega,fun i h1 h2 h3=>(oL i (by omega) (by omega) (by omega)).trans (cN.hp i h1 h2 h3)⟩;refine VC.ag aa (aI @bY @Ae @sF ?_);exact⟨⟨_,_,rfl⟩,q,fO,pK,⟨r',a',tZ⟩,(by first | exact My | exact VH.sn My),⟨ql.next,fun i h1 h2 h3=>VH.sn (ql.hp i h1 h2 h3)⟩⟩
theorem VT {O:VH} {k ke kv ce cv:Nat} {L:List (Gv×Bs×Option Pm)} {E V:fj} {r a:Int} (h:nc O k L E V ke kv ce cv r a) {i:Nat} {g:Gv} {t:Bs} {n:Nd} {p:Pm} (hi:L[i]?=some (g,t,none)) (hg:sT g) (ht:t.length<=65536) (hb:gQ t= .ok n) (hr:oz n= .ok p) (hc:PmC p):
  VF Tryz.prog 119 [.ptr k 0,.agg (bS g)] O (aD fun m O'=>m= .tuple [.agg (fY p),.agg (oZ iH)]/\∃q,iX (eA g) E=some (.ptr q 0)/\q<O.next/\(∃r' a',O'.hp k=some (.cells [.map ke,.map kv,mi r',mi a']))/\O'.hp q=some (.cells (iJ t 1 0 p iH))/\c_ O k q O'):=by
 have hsq:=h.some hi;obtain⟨q0,c,oK,aeT,Mz,hE0⟩:=hsq;have hw:=fun(O':VH) (g':O.Ge O')=>adj (O:=O') (k:=k) (L:=L) (E:=E) (V:=V) (h.ge g') hi hg ht hb hr hc
 have CD:=fun O'=>aam p O' hc
 have jY:=h.st.lt.1;have ny:=hc.hp;clear hc hr hb hi h Mz hE0;obtain⟨g1,g2,g3⟩:=g;obtain⟨b,⟨pg,pa,pv⟩,pG,pA,pV,pk,P,M,D⟩:=p;dsimp only at ny;subst ny;simp only[bS,fY,oZ,iH,ar,a_]at hw CD ⊢;refine VF.bO 38 [.cell 4 106,.cell 5 71] Tryz.func119 ?_;refine VC.ag aa (ae @bY ?_);refine VC.gen ?_;intro O1 e1;obtain⟨aM,c5,cS,cA,fN⟩:=lG _ _ _ e1;clear e1;refine VC.ag aa (ao @bY @cS ?_);refine ah.rt (hw O1 aM) ?_;rintro _ O2 ⟨⟨t1,t2,rfl⟩,q,fO,aka,⟨r',a',bR⟩,Af,dk⟩;obtain rfl:q=q0:=by rw[fO]at oK;injection oK with e;injection e
 have iB:=dk.next;have jc:=(dk.hp _ (by omega) (by omega) (by omega)).trans cS;have ct:=(dk.hp _ (by omega) (by omega) (by omega)).trans cA;have jj:=(dk.hp _ (by omega) (by omega) (by omega)).trans fN;have Mx:=(c_.of (k:=k) (q:=q) aM).trans dk;refine ae @bY ?_;refine VC.al ?_;rintro O3 ⟨aJ,kZ,gL⟩;have cu:=aJ.at ct;have eE:=aJ.at jj;have dG:=aJ.at bR;have vu:=aJ.at Af;have cN:=Mx.ge aJ;clear jc ct jj bR Af Mx dk cS cA fN hw;refine VC.ag aa (ao @bY @kZ ?_);refine VL.DK aa (bb:=false) (b:=true) (by simp) (by simp[iU]) (.inr ⟨rfl,rfl⟩) (by kernel_rfl) (by kernel_rfl) rfl rfl rfl rfl ?_;refine ae @bY ?_;refine VC.ag aa (ae @bY ?_);refine VC.bx ?_;rintro O4 ⟨bg,gy,gM⟩;have cQ:=bg.at cu;have eX:=bg.at eE;have ja:=bg.at dG;have I2:=bg.at vu;have fb:=cN.ge bg;clear cu eE dG vu cN;refine VC.bJ [4,5,9] (fun _:Unit=>[.ptr (O.next+1) 0,.ptr (O.next+2) 0,.ptr O3.next 0]) (fun _ O'=>∃O5,O4.Ge O5/\O'=O5.set O3.next (.cells [.v (.bool false),.str pg,.str pa,.str pv,.str pG,.str pA,.str pV,.str pk,.sl P.length (P.flatMap aY) .aq,.sl M.length (M.flatMap aQ) .aq,.sl D.length (D.flatMap aQ) .aq])) ?_ ?_
 ·refine VC.ag aa (ae @bY ?_);refine VC.aB ?_;refine VC.bP [10] [4,5,6,9] (fun x:Bool=>[mi (bif x then -1 else 0)]) (fun x O'=>(x=false->O'=O4)/\(x=true->∃O5,O4.Ge O5/\O'=O5.set O3.next (.cells [.v (.bool false),.str pg,.str pa,.str pv,.str pG,.str pA,.str pV,.str pk,.sl P.length (P.flatMap aY) .aq,.sl M.length (M.flatMap aQ) .aq,.sl D.length (D.flatMap aQ) .aq]))) (fun x=>bif x then 0 else 1) (false) ?_ ?_
  ·exact⟨fun _=>rfl,fun e=>by cases e⟩
  rintro x O5 ⟨hf,ht'⟩;cases x with
  | true=>
    obtain⟨O6,fC,e6⟩:=ht' rfl;simp only[cond_true];refine WC.sound aa (ae @bY ?_);exact aA.mk () ⟨O6,fC,e6⟩
  | false=>
    have e5:=hf rfl;rw[e5];clear e5 hf ht' O5
    simp only[cond_false];refine VC.ag aa (ae @bY ?_);refine VC.bC (VC.aB ?_);refine VC.sN [] (fun _=>True) (trivial) ?_;refine ab.av 0 ?_;refine ae @bY ?_;refine ab.av 1 ?_;refine ae @bY ?_;refine ab.av 2 ?_;refine ae @bY ?_;refine ab.av 3 ?_;refine ae @bY ?_;refine ab.op (i:=4) ?_;refine ao @bY @gy ?_;refine ab.call (i:=5) (CD O4) ?_;rintro _ O5 ⟨rfl,bW⟩;simp only[aj];refine⟨trivial,?_⟩;have mI:=bW.at gy;refine ab.op (i:=6) ?_;refine ao @bY @mI ?_;refine ab.bH [] ?_;refine ae @bY ?_;refine WC.sound aa (ae @bY ?_);exact az.next true ⟨(fun e=>by cases e),fun _=>⟨O5,bW,rfl⟩⟩ (hm:=(by decide))
 rintro _ O9 ⟨O5,bW,e9⟩;have gu:=bW.next;have Bg:∀i,i≠O3.next->O9.hp i=O5.hp i:=fun i h1=>by rw[e9];exact VH.ak _ _ h1
 have hx9:O9.hp O3.next=some (.cells [.v (.bool false),.str pg,.str pa,.str pv,.str pG,.str pA,.str pV,.str pk,.sl P.length (P.flatMap aY) .aq,.sl M.length (M.flatMap aQ) .aq,.sl D.length (D.flatMap aQ) .aq]):=by rw[e9];exact VH.an _ _ _
 have bD:=(Bg _ (by omega)).trans (bW.at cQ);have I0:=(Bg _ (by omega)).trans (bW.at eX);have hk9:=(Bg k (by omega)).trans (bW.at ja);have hq9:=(Bg q (by omega)).trans (bW.at I2);have EJ:O9.next=O5.next:=by rw[e9];rfl
 have iM:c_ O k q O9:=⟨by omega,fun i h1 h2 h3=>(Bg i (by omega)).trans (bW.at (fb.hp i h1 h2 h3))⟩;clear e9 Bg;have Mw:O.next+1+1=O.next+2:=by omega
 refine VC.ag aa (de @bY @hx9 @bD @I0 ?_);refine WC.sound aa (ae @bY ?_);exact⟨q,fO,aeT,⟨r',a',hk9⟩,(by first | exact hq9 | exact VH.sn (VH.sn hq9)),⟨iM.next,fun i h1 h2 h3=>VH.sn (VH.sn (iM.hp i h1 h2 h3))⟩⟩
set_option linter.defProp false in
def eV:=And.intro bY<|And.intro dC<|And.intro Lc<|And.intro tA<|And.intro ahL<|And.intro aer<|And.intro ahM<|And.intro aet<|And.intro G9<|And.intro uO ahT
def re (s:Bs):Prop:=Lib.index s [36,123]<0
theorem adk (s:Bs) (O:VH) (h:re s) (hs:s.length<=1000000):VF Tryz.prog 205 [.str s] O (aD fun m O'=>m= .tuple [.str s,.str [],.str [],mb false]/\O'=O):=by
 have h':Lib.index s [36,123]<0:=h;refine VF.bO 36 [.tmp 2,.tmp 3,.tmp 4,.tmp 5] Tryz.func205 ?_;refine VC.ag aa (ae @eV ?_);refine VC.ag aa (ae @eV ?_);refine ah.rt (LN s [36,123] O (by omega)) ?_;rintro _ O2 ⟨rfl,eO⟩;rw[eO];clear eO O2
 generalize Lib.index s [36,123]=x at*;have hd:decide (x<0)=true:=decide_eq_true h';refine ae @eV ?_;refine VC.ag aa (ao @eV @hd ?_);trivial
theorem agH {O:VH} {B b:Nat} {q:Option Nat} {s:Bs} (h:fP O B b q s):VF Tryz.prog 104 [.ptr b 0] O (aD fun m O'=>m=mi s.length/\O'=O):=by
 obtain⟨p,buf,h1,_,wT,_,_⟩:=h.cell;refine VF.bO 8 [.tmp 2] Tryz.func104 ?_;rcases wT with⟨h0,_,rfl | rfl⟩ | ⟨k,c,rfl,_⟩
 ·rw[h0];refine VC.ag aa (ae @eV ?_);refine WC.sound aa (ao @eV @h1 ?_);trivial
 ·rw[h0];refine VC.ag aa (ae @eV ?_);refine WC.sound aa (ao @eV @h1 ?_);trivial
 ·refine VC.ag aa (ae @eV ?_);refine WC.sound aa (ao @eV @h1 ?_);trivial
theorem aap {O:VH} {B b nb:Nat} {q:Option Nat} {s:Bs} (h:fP O B b q s) (l:Bs) (hl:s.length+l.length<=4096):VF Tryz.prog 204 ([.str l]++[.ptr b 0,.ptr nb 0]) O (aD fun m O'=>∃q',fP O' B b q' (s++l)/\e_ O b q O' q'):=by
 simp only[List.cons_append,List.nil_append];refine VF.bO 11 [] Tryz.func204 ?_;refine VC.ag aa (ae @eV ?_);refine ah.rt (bK l h (by omega)) ?_;rintro _ O2 ⟨rfl,q2,ct,dk⟩;refine ae @eV ?_;refine VC.ag aa (ae @eV ?_);refine ah.rt (agH ct) ?_;rintro _ O3 ⟨rfl,eO⟩;rw[eO];clear eO O3
 have Za:(s++l).length<=4096:=by rw[List.length_append];exact hl
 refine ae @eV ?_;refine WC.sound aa (ae @eV ?_);exact⟨q2,ct,dk⟩
theorem MA (wb:Nat) (s nm:Bs) (O:VH) (h:re s) (hs:s.length<=4096):VF Tryz.prog 176 [.ptr wb 0,.str s,.str nm] O (aD fun m O'=>m= .str s/\O.Ge O'):=by
 refine VF.bO 53 [.tmp 6] Tryz.func176 ?_;refine VC.ag aa (ae @eV ?_);refine VC.bx ?_;rintro O1 ⟨aM,dw,c5⟩;refine VC.ag aa (ae @eV ?_);have rM:=fP.fresh O1 (Nat.le_refl O1.next);have kU:O1.Ge ((O1.push (.cells [.v (.pointer none),.sl 0 [] .nil])).push (.shape O1.next 145 2)):=((VH.Ge.refl O1).push _).push _;generalize ((O1.push (.cells [.v (.pointer none),.sl 0 [] .nil])).push (.shape O1.next 145 2))=O2 at*;refine VC.ag aa (ae @eV ?_);refine VC.aB ?_;refine VC.bP [1] [0,7,8] (fun _:Unit=>[.str s]) (fun _ O'=>O'=O2) (fun _=>0) (()) ?_ ?_
 ·rfl
 rintro _ O3 e3;rw[e3];clear e3 O3
 refine VC.aB ?_;refine VC.ag aa (ae @eV ?_);refine ah.rt (adk s O2 h (by omega)) ?_;rintro _ O3 ⟨rfl,eO⟩;rw[eO];clear eO O3
 refine ae @eV ?_;refine VC.ag aa (ae @eV ?_);refine ah.rt (aap (nb:=O.next) rM s (by simp;omega)) ?_;rintro _ O3 ⟨q3,cu,cN⟩;rw[List.nil_append]at cu;have aJ:O1.Ge O3:=e_.Cl kU cN (Nat.le_refl _);refine ae @eV ?_;refine VC.ag aa (ae @eV ?_);refine ah.rt (pD cu (by simp only[maxLen];omega)) ?_;rintro _ O4 ⟨rfl,fb⟩;refine ae @eV ?_;exact aM.trans (aJ.RR fb cu.xg)
abbrev t_:=List (Bs×Bs×Nat)
def tQ (M:t_):wO:=M.map fun p=>(.str p.1,.str p.2.1,p.2.2)
def wW (k:Bs) (M:t_):Option Bs:=(M.find? (·.1==k)).map (·.2.1)
def MB (k:Bs):t_->Nat->Option (Nat×MV)
 | [],_=>none
 | p::M,i=>if k==p.1 then some (i,.str p.2.1)else MB k M (i+1)
theorem I7 (k:Bs):∀(M:t_) (i:Nat),uj .string (.str k) (tQ M) i=some (MB k M i)
 | [],i=>rfl
 | p::M,i=>by
   show uj .string (.str k) ((.str p.1,.str p.2.1,p.2.2)::tQ M) i=_;rw[uj,MB];simp only[H0];cases h:k==p.1
   ·simp[I7 k M (i+1)]
   ·simp
theorem Sj (k:Bs):∀(M:t_) (i:Nat),(MB k M i).map (·.2)=(wW k M).map .str
 | [],i=>rfl
 | p::M,i=>by
   rw[MB];unfold wW;rw[List.find?_cons];cases h:k==p.1
   ·have h':(p.1==k)=false:=by rw[beq_eq_false_iff_ne]at h ⊢;exact Ne.symm h
    rw[h'];simpa[wW]using Sj k M (i+1)
   ·have h':(p.1==k)=true:=by rw[beq_iff_eq]at h ⊢;exact h.symm
    rw[h'];rfl
theorem I8 {tab:b9} {O:VH} {t kt et:TypeId} {a b' c d c' d':Nat} {z y:List MV} {b ck:Nat} {M:t_} {k:Bs} {ok:Bool} (h:tab t=some ⟨.map kt et,a,b',z⟩) (hk:tab kt=some ⟨.string,c,d,y⟩) (he:tab et=some ⟨.string,c',d',[.str []]⟩) (hb:O.hp b=some (.map (tQ M) ck)):
  jL tab O t (.map b) (.str k) ok=some (xR ok (.str []) ((wW k M).map .str)):=by
 unfold jL;simp only[h,hk,he,Option.map_some,mapOf,hb,Option.bind_some,I7,Bx];have:=Sj k M 0;cases hf:MB k M 0 with
 | none=>
   rw[hf]at this;rw[<-this];cases ok<;>rfl
 | some p=>
   rw[hf]at this;rw[<-this];cases ok<;>rfl
theorem HE {k:Bs}:∀{M:t_} {i:Nat},(∀p∈M,p.1≠k)->MB k M i=none
 | [],i,_=>rfl
 | p::M,i,h=>by
   have h':(k==p.1)=false:=by rw[beq_eq_false_iff_ne];exact Ne.symm (h p (by simp))
   rw[MB,h',if_neg (by simp)];exact HE fun q hq=>h q (List.mem_cons_of_mem _ hq)
theorem aaq {tab:b9} {O:VH} {t kt et:TypeId} {a b' c d:Nat} {z y:List MV} {b ck:Nat} {M:t_} {k v:Bs} (h:tab t=some ⟨.map kt et,a,b',z⟩) (hk:tab kt=some ⟨.string,c,d,y⟩) (hb:O.hp b=some (.map (tQ M) ck)) (fH:∀p∈M,p.1≠k):
  fm tab O t (.map b) (.str k) (.str v)=some (O.set b (.map (tQ (M++[(k,v,ck)])) (ck+1))):=by
 unfold fm;simp only[h,hk,Option.map_some,hb,I7,Bx,HE fH];simp[tQ]
theorem HF {k:Bs} {M:t_} (h:∀p∈M,p.1≠k):wW k M=none:=by
 unfold wW;rw[List.find?_eq_none.2 (fun p hp=>by simpa using h p hp)];rfl
theorem MC:∀{L:List (Bs×Bs)} {R:t_} {x:Bs×Bs},L.Pairwise (fun x y=>x.1≠y.1)->R.map (fun p=>(p.1,p.2.1))=L->x∈L->wW x.1 R=some x.2
 | [],R,x,_,_,hx=>by simp at hx
 | y::L,[],x,_,e,_=>by simp at e
 | y::L,p::R,x,h,e,hx=>by
   rw[List.map_cons]at e;injection e with e1 e2;obtain⟨h1,h2⟩:=List.pairwise_cons.1 h;unfold wW;rw[List.find?_cons];rcases List.mem_cons.1 hx with rfl | hx
   ·have:(p.1==x.1)=true:=by rw[<-e1];simp
    rw[this];simp only[Option.map_some];rw[<-e1]
   ·have hne:=h1 x hx;have:(p.1==x.1)=false:=by rw[beq_eq_false_iff_ne];rw[<-e1]at hne;exact hne
    rw[this];exact MC h2 e2 hx
structure oE (O:VH) (tb kr kd:Nat) (L:List (Bs×Bs)) (R D:t_) (cr cd:Nat) (tk:Tok) (kn:Int):Prop where
 cell:O.hp tb=some (.cells [.sl L.length (L.flatMap aY) tk,.map kr,.map kd,mi kn])
 raw:O.hp kr=some (.map (tQ R) cr)
 done:O.hp kd=some (.map (tQ D) cd)
 lt:tb<O.next/\kr<O.next/\kd<O.next
 ne:tb≠kr/\tb≠kd/\kr≠kd
theorem oE.ge {O O':VH} {tb kr kd:Nat} {L:List (Bs×Bs)} {R D:t_} {cr cd:Nat} {tk:Tok} {kn:Int} (h:oE O tb kr kd L R D cr cd tk kn) (g:O.Ge O'):oE O' tb kr kd L R D cr cd tk kn:=
 ⟨(g.hp _ h.lt.1).trans h.cell,(g.hp _ h.lt.2.1).trans h.raw,(g.hp _ h.lt.2.2).trans h.done,⟨Nat.lt_of_lt_of_le h.lt.1 g.next,Nat.lt_of_lt_of_le h.lt.2.1 g.next,Nat.lt_of_lt_of_le h.lt.2.2 g.next⟩,h.ne⟩
theorem I9 (L:List (Bs×Bs)) (tk:Tok) (O:VH) (hn:L.length<=10000) (hL:L.Pairwise fun x y=>x.1≠y.1):VF Tryz.prog 120 [.sl L.length (L.flatMap aY) tk] O (aD fun m O'=>m= .ptr (O.next+2) 0/\O.Ge O'/\∃R cr t,oE O' (O.next+2) O.next (O.next+1) L R [] cr 0 t 0/\∀x∈L,wW x.1 R=some x.2):=by
 have dK:=aT fa L;refine VF.bO 50 [.tmp 2] Tryz.func120 ?_;have nr:FI (kS [(0,1),(1,1),(2,1),(3,1)]) [.sl 0 [] .nil,.v (.map none),.v (.map none),.v (.int .i64 0)] (.map O.next) [(2,.map (O.next+1))] (some (1,1))=some [.sl 0 [] .nil,.map O.next,.map (O.next+1),.v (.int .i64 0)]:=rfl;refine VC.ag aa (ae @eV ?_);refine VC.ag aa (ao @eV @nr ?_);refine VC.gen ?_;intro O1 e1;obtain⟨aM,c5,cS,cA,fN⟩:=lG _ _ _ e1;clear e1;have Mw:O.next+1+1=O.next+2:=by omega
 refine VC.bJ [3] (fun _:Unit=>[.ptr (O.next+2) 0]) (fun _ O'=>O.Ge O'/\∃R cr t,oE O' (O.next+2) O.next (O.next+1) L R [] cr 0 t 0/\R.map (fun p=>(p.1,p.2.1))=L) ?_ ?_
 ·refine VC.ag aa (ae @eV ?_);refine VC.aB ?_;refine VC.bP [14] [3,12,13] (fun j:Nat=>[mi j]) (fun j O'=>O.Ge O'/\j<=L.length/\∃R cr t,oE O' (O.next+2) O.next (O.next+1) (L.take j) R [] cr 0 t 0/\R.map (fun p=>(p.1,p.2.1))=L.take j/\App O' (O.next+3) 2 t) (fun j=>L.length - j) (0) ?_ ?_
  ·refine⟨aM,Nat.zero_le _,[],0,.nil,⟨?_,cS,cA,⟨by omega,by omega,by omega⟩,by omega,by omega,by omega⟩,?_,trivial⟩
   ·rw[List.take_zero];exact fN
   ·rw[List.take_zero];rfl
  rintro j O3 ⟨aJ,hj,R,cr,t,hT,hR,cH⟩;by_cases aX:j<L.length;rotate_left
  ·obtain rfl:j=L.length:=by omega
   rw[List.take_length]at hT hR;refine WC.sound aa (ae @eV ?_);exact aA.mk () ⟨aJ,R,cr,t,hT,hR⟩
  have bA:=cg fa L j aX;have eb:=cY L j aX
  have fH:∀p∈R,p.1≠L[j].1:=fun p hp=>by
   have hm:(p.1,p.2.1)∈L.take j:=by rw[<-hR];exact List.mem_map_of_mem (f:=fun p:Bs×Bs×Nat=>(p.1,p.2.1)) hp
   obtain⟨i,hi,e⟩:=List.mem_iff_getElem.1 hm;rw[List.length_take]at hi;rw[List.getElem_take]at e;have:=(List.pairwise_iff_getElem.1 hL) i j (by omega) aX (by omega);rw[e]at this;exact this
  have tT:(L.take j).length=j:=by rw[List.length_take];omega
  generalize L[j]=y at*;generalize L.take j=LT at*;obtain⟨yn,yv⟩:=y;dsimp only at fH;simp only[aY]at bA;have dd:((j:Int)+1)=((j+1:Nat):Int):=by omega
  have eg:=hT.lt;have hne:=hT.ne;refine VC.ag aa (ae @eV ?_);refine VC.ag aa (ae @eV ?_);refine VC.bC (VC.aB ?_);refine VC.ag aa (ao @eV @bA ?_);refine VC.al ?_;rintro O4 ⟨bg,gy,gM⟩;have vx:=hT.ge bg;have lM:=cH.ge bg;have eX:=vx.cell;have FZ:=vx.raw;simp only[ar]at eX;have fO:jL (fF Tryz.prog) O4 260 (.map O.next) (.str yn) true=some (xR true (.str []) ((wW yn R).map .str)):=I8 G9 T9 T9 FZ;rw[HF fH]at fO;simp only[Option.map_none,Iv]at fO;refine VC.bC ?_;refine WC.bH (.held []) [(0,.rd),(1,.rd),(2,.rd),(3,.rd),(4,.rd),(5,.rd),(6,.rd),(7,.rd),(8,.rd),(9,.rd),(10,.rd),(11,.rd)] ?_;refine de @eV @eX @gy @fO ?_;refine VC.ag aa (ae @eV ?_);refine WC.sound aa (ae @eV ?_);refine WC.bH (.held [8]) [(0,.rd),(1,.rd),(2,.rd),(3,.rd),(4,.rd),(5,.rd),(6,.rd),(7,.rd),(8,.one)] ?_;have pZ:fm (fF Tryz.prog) O4 260 (.map O.next) (.str yn) (.str yv)=some (O4.set O.next (.map (tQ (R++[(yn,yv,cr)])) (cr+1))):=aaq G9 T9 FZ fH;refine de @eV @eX @gy @pZ ?_;refine VC.gen ?_;intro O5 e5;have gO:∀i,i≠O.next->O5.hp i=O4.hp i:=fun i hi=>by rw[e5];exact VH.ak _ _ hi
  have gu:O5.next=O4.next:=by rw[e5];rfl
  have qn:O5.hp O.next=some (.map (tQ (R++[(yn,yv,cr)])) (cr+1)):=by rw[e5];exact VH.an _ _ _
  have bW:O.Ge O5:=by rw[e5];exact(aJ.trans bg).set (Nat.le_refl _) _
  have lq:App O5 (O.next+3) 2 t:=lM.mv (by omega) fun i hi e=>(gO i (fun e2=>by subst e2;rw[FZ]at e;cases e)).trans e
  clear e5;have fA:=(gO _ (by omega)).trans eX;have mI:=(gO _ (by omega)).trans gy;have IT:=(gO (O.next+1) (by omega)).trans vx.done;obtain⟨mE,fZ,kX⟩:=fR (n:=LT.length) (cs:=LT.flatMap aY) (ds:=[.str yn,.str yv]) (es:=aY (yn,yv)) zA BT.1.1 lq (aT fa LT) rfl rfl (by decide) (by omega) (by simp only[maxLen];omega) (fS LT) (by simp only[aY,wu]);refine WC.bH (.held [10]) [(0,.rd),(1,.rd),(2,.rd),(3,.rd),(4,.rd),(5,.rd),(6,.one),(7,.one),(8,.one),(9,.rd),(10,.one)] ?_;refine aI @eV @fA @mI ?_;refine VL.lh fZ kX ?_;have hca:(O5.after t).hp (O.next+2)=_:=(App.off lq (by omega) (by rw[fA];simp)).trans fA;have hra:(O5.after t).hp O.next=_:=(App.off lq (by omega) (by rw[qn];simp)).trans qn;have hda:(O5.after t).hp (O.next+1)=_:=(App.off lq (by omega) (by rw[IT];simp)).trans IT;refine ao @eV @hca ?_;refine VC.gen ?_;intro O6 e6;have rf:=cP.after lq;have o0:∀i,i≠O.next+2->O6.hp i=(O5.after t).hp i:=fun i hi=>by rw[e6];exact VH.ak _ _ hi
  have ov:O6.next=(O5.after t).next:=by rw[e6];rfl
  have Be:O6.hp (O.next+2)=some (.cells [.sl (LT.length+1) (LT.flatMap aY++aY (yn,yv)) (.own O5.next 2),.map O.next,.map (O.next+1),.v (.int .i64 0)]):=by rw[e6];exact VH.an _ _ _
  have nW:App O6 (O.next+3) 2 (.own O5.next 2):=(App.after (tk:=t) (B:=O.next+3) (sz:=2) (by omega:O.next+3<=O5.next)).mv (by omega) fun i hi e=>(o0 i (fun e2=>by subst e2;rw[hca]at e;cases e)).trans e
  have Mv:O.Ge O6:=⟨by have:=rf.next;have:=bW.next;omega,fun i hi=>by
   rw[o0 i (by omega),rf.hp i (by have:=bW.next;omega) (fun e=>by have:=(App.ou lq e).1;omega)];exact bW.hp i hi⟩
  have hnA:=rf.next;refine WC.sound aa (ao @eV @dd ?_);refine az.next (j+1) ⟨Mv,aX,R++[(yn,yv,cr)],cr+1,.own O5.next 2,⟨?_,(o0 _ (by omega)).trans hra,(o0 _ (by omega)).trans hda,⟨by omega,by omega,by omega⟩,hne⟩,?_,nW⟩
  ·rw[eb,List.flatMap_append,List.length_append];simpa[ar]using Be
  ·rw[eb,List.map_append,hR];rfl
 rintro _ O9 ⟨bn,R,cr,t,hT,hR⟩;refine WC.sound aa (ae @eV ?_);exact⟨bn,R,cr,t,hT,fun x hx=>MC hL hR hx⟩
set_option linter.defProp false in
def cI:=And.intro eV<|And.intro ahS<|And.intro aeg aet
theorem adl (x:Bs) (O:VH) (t:Tok):VF Tryz.prog 178 [.sl 0 [] t,.str x] O (aD fun m O'=>m=mb false/\O'=O):=by
 have h1:VF Tryz.prog 206 [.sl 0 [] t,.str x] O (aD fun m O'=>m=mi (-1)/\O'=O):=by
  refine VF.du 19 [.tmp 4] Tryz.func206 ?_;refine ae @cI ?_;refine WC.iA [8] [0,1,7] (fun j:Unit=>[mi 0]) (fun j O'=>O'=O) (fun j=>0) (()) ?_ ?_
  ·rfl
  rintro _ O2 e2;rw[e2];clear e2 O2
  refine ae @cI ?_;trivial
 refine VF.du 9 [.tmp 4] Tryz.func178 ?_;refine ae @cI ?_;refine ah.rt (h1) ?_;rintro _ O2 ⟨rfl,e2⟩;rw[e2];clear e2 O2
 refine ae @cI ?_;trivial
theorem VU {O:VH} {wb tb kr kd:Nat} {L:List (Bs×Bs)} {R D:t_} {cr cd:Nat} {tk:Tok} {kn:Int} (nm v:Bs) (h:oE O tb kr kd L R D cr cd tk kn) (hw:O.hp wb=some (.cells [.ptr tb 0,.sl 0 [] .nil])) (ox:wb<O.next) (hR:wW nm R=some v) (hD:∀p∈D,p.1≠nm) (hv:re v) (jk:v.length<=4096):
  VF Tryz.prog 150 [.ptr wb 0,.str nm] O (aD fun m O'=>m= .str v/\(∃kn',oE O' tb kr kd L R (D++[(nm,v,cd)]) cr (cd+1) tk kn')/\O.next<=O'.next/\∀i,i<O.next->i≠tb->i≠kd->i≠wb->O'.hp i=O.hp i):=by
 have hc:=h.cell;have eg:=h.lt;have hne:=h.ne;have AQ:wb≠tb:=fun e=>by subst e;rw[hw]at hc;simp at hc
 have hwr:wb≠kr:=fun e=>by subst e;have:=h.raw;cases(hw.symm.trans this)
 have VV:wb≠kd:=fun e=>by subst e;have:=h.done;cases(hw.symm.trans this)
 simp only[ar]at hc;have fO:jL (fF Tryz.prog) O 260 (.map kd) (.str nm) true=some (xR true (.str []) ((wW nm D).map .str)):=I8 G9 T9 T9 h.done;rw[HF hD]at fO;simp only[Option.map_none,Iv]at fO;refine VF.bO 95 [.tmp 4] Tryz.func150 ?_;refine VC.ag aa (ae @cI ?_);refine VC.ag aa (de @cI @hw @hc @fO ?_);refine VC.bC (VC.aB ?_);refine VC.ag aa (ao @cI @hw ?_);refine ah.rt (adl nm O .nil) ?_;rintro _ O2 ⟨rfl,e2⟩;rw[e2];clear e2 O2
 refine ao @cI @hw ?_;refine WC.sound aa (ao @cI @hw ?_);refine VC.ag aa (ao @cI @hw ?_);have cH:=bo (tk:=.nil) (tk':=.full) (B:=0) (n:=0) (k:=1) (cs:=[]) (ds:=[.str nm]) uO T9 (O:=O) trivial rfl rfl rfl (by decide) (by decide) (by decide) (by decide);rw[Nat.zero_add,List.nil_append]at cH;refine VL.lh cH rfl ?_;have rf:O.Ge (O.after .nil):=cP.Cl (tk:=.nil) (sz:=1) trivial (cP.after (sz:=1) (B:=0) trivial);have hwA:=(rf.hp _ ox).trans hw;refine ao @cI @hwA ?_;refine VC.gen ?_;intro O2 e2;have gd:∀i,i<O.next->i≠wb->O2.hp i=O.hp i:=fun i h1 h2=>by rw[e2,VH.ak _ _ h2];exact rf.hp i h1
 have iB:O.next<=O2.next:=by rw[e2];exact rf.next
 have qk:∃t,O2.hp wb=some (.cells [.ptr tb 0,.sl 1 [.str nm] t]):=⟨_,by rw[e2];exact VH.an _ _ _⟩
 obtain⟨t2,qk⟩:=qk;clear e2;have hT2:oE O2 tb kr kd L R D cr cd tk kn:=⟨(gd _ eg.1 (Ne.symm AQ)).trans h.cell,(gd _ eg.2.1 (Ne.symm hwr)).trans h.raw,(gd _ eg.2.2 (Ne.symm VV)).trans h.done,⟨by omega,by omega,by omega⟩,hne⟩;have jj:=hT2.cell;simp only[ar]at jj;have aar:jL (fF Tryz.prog) O2 260 (.map kr) (.str nm) false=some (xR false (.str []) ((wW nm R).map .str)):=I8 G9 T9 T9 hT2.raw;rw[hR]at aar;simp only[Option.map_some,RJ]at aar;refine VC.ag aa (de @cI @qk @jj @aar ?_);refine ah.rt (MA wb v nm O2 hv jk) ?_;rintro _ O3 ⟨rfl,aJ⟩;have hT3:=hT2.ge aJ;have hw3:=aJ.at qk;have ua:∀i,i<O.next->i≠wb->O3.hp i=O.hp i:=fun i h1 h2=>(aJ.hp i (by omega)).trans (gd i h1 h2)
 have gL:=aJ.next;refine ae @cI ?_;refine VC.bC ?_;refine WC.bH (.held [14]) [(0,.rd),(1,.rd),(2,.rd),(3,.rd),(4,.rd),(5,.rd),(6,.rd),(7,.rd),(8,.rd),(9,.rd),(10,.rd),(11,.rd),(12,.one),(13,.rd),(14,.one)] ?_;refine aI @cI @hw3 @uM ?_;refine VC.gen ?_;intro O4 e4;have rb:∀i,i≠wb->O4.hp i=O3.hp i:=fun i h2=>by rw[e4];exact VH.ak _ _ h2
 have gM:O4.next=O3.next:=by rw[e4];rfl
 have ME:∃t,O4.hp wb=some (.cells [.ptr tb 0,t]):=⟨_,by rw[e4];exact VH.an _ _ _⟩
 obtain⟨t4,ME⟩:=ME;clear e4;have aeR:=hT3.lt;have vx:oE O4 tb kr kd L R D cr cd tk kn:=⟨(rb _ (Ne.symm AQ)).trans hT3.cell,(rb _ (Ne.symm hwr)).trans hT3.raw,(rb _ (Ne.symm VV)).trans hT3.done,⟨by omega,by omega,by omega⟩,hne⟩;have eX:=vx.cell;simp only[ar]at eX;have pZ:fm (fF Tryz.prog) O4 260 (.map kd) (.str nm) (.str v)=some (O4.set kd (.map (tQ (D++[(nm,v,cd)])) (cd+1))):=aaq G9 T9 vx.done hD;refine VC.ag aa (de @cI @ME @eX @pZ ?_);refine VC.gen ?_;intro O5 e5;have gO:∀i,i≠kd->O5.hp i=O4.hp i:=fun i h2=>by rw[e5];exact VH.ak _ _ h2
 have gu:O5.next=O4.next:=by rw[e5];rfl
 have IT:O5.hp kd=some (.map (tQ (D++[(nm,v,cd)])) (cd+1)):=by rw[e5];exact VH.an _ _ _
 clear e5;have hw5:=(gO wb VV).trans ME;have fA:=(gO tb hne.2.1).trans eX;refine VC.ag aa (de @cI @dy @hw5 @fA ?_);refine ah.rt (EF 1 fA rfl) ?_;rintro m O6 ⟨rfl,e6⟩;have o0:∀i,i≠tb->O6.hp i=O5.hp i:=fun i h2=>by rw[e6];exact VH.ak _ _ h2
 have Be:O6.hp tb=some (.cells [.sl L.length (L.flatMap aY) tk,.map kr,.map kd,mi (IntKind.i64.wrap (kn+1))]):=by rw[e6];exact VH.an _ _ _
 have ov:O6.next=O5.next:=by rw[e6];rfl
 refine ae @cI ?_;refine WC.sound aa (ae @cI ?_);refine⟨⟨_,⟨Be,(o0 _ (Ne.symm hne.1)).trans ((gO _ hne.2.2).trans vx.raw),(o0 _ (Ne.symm hne.2.1)).trans IT,⟨by omega,by omega,by omega⟩,hne⟩⟩,by omega,fun i h1 h2 h3 h4=>?_⟩;exact(o0 i h2).trans ((gO i h3).trans ((rb i h4).trans (ua i h1 h4)))
theorem aas {O:VH} {a b:Nat} {K:VH->Prop} (h:K O):fW Tryz.prog 177 [.ptr a 0,.ptr b 0] none O K:=by
 refine fW.rec (d:=5) Tryz.func177 (Nat.lt_of_lt_of_eq (by decide:5<15) rfl) ?_;show WC _ _ ⟨15,0⟩ _ _ _ _ _;simp only[cw,Nat.zero_add,Nat.reduceAdd,zp];refine ao @cI @wi ?_;refine VL.pure (by simp) (fun _=>.inl rfl) rfl rfl (ig.DR (bb:=true) Tryz.underlying20 rfl (.inl ⟨rfl,rfl⟩)) ?_;refine WL.sound aa ?_;refine ao @cI @wi ?_;exact h
theorem MF {O:VH} {g:FuncId} {xs:List MV} {Φ :VH->VH->Prop} (hg:cM Tryz.prog g=true) (hC:∀O1,O.Ge O1->VF Tryz.prog g xs O1 (aD fun _ O'=> Φ O1 O')) (hΦ :∀O1 O2,O.Ge O1-> Φ O1 O2->O1.next<=O2.next/\∀i,O.next<=i->i<O1.next->O2.hp i=O1.hp i):
  VF Tryz.prog 148 [.func (.func g) [] xs] O (aD fun m O'=>m= .tuple [mi 0,.str []]/\∃O1 O2,O.Ge O1/\ Φ O1 O2/\O2.next<=O'.next/\∀i,i<O.next->O'.hp i=O2.hp i):=by
 refine VF.deferred (lo:=4) (k:=7) (rs:=[.cell 2 65,.cell 3 9]) Tryz.func148 (Enters.sA (by kernel_rfl)) ?_;simp only[cw,Nat.zero_add,Nat.reduceAdd];refine ae @cI ?_;refine⟨_,rfl,fun D=>?_⟩;refine VC.gen ?_;rintro O1 rU;obtain⟨aM,c5,cS,cA⟩:=gk _ _ rU;clear rU;refine VC.ag aa (ao @cI @wd ?_);refine ah.rt (hC O1 aM) ?_ (hb:=hg);rintro m O2 h2;obtain⟨iB,gd⟩:=hΦ O1 O2 aM h2;have jc:=(gd _ (Nat.le_refl _) (by omega)).trans cS;have ct:=(gd (O.next+1) (by omega) (by omega)).trans cA;refine ao @cI @wd ?_;refine VC.ag aa (de @cI @wd @jc @ct ?_);refine WC.sound aa (ao @cI @wd ?_);refine aas ?_;refine de @cI @wd @jc @ct ?_;exact⟨O1,O2,aM,h2,Nat.le_refl _,fun i hi=>by rw[VH.ak _ _ (by omega),VH.ak _ _ (by omega)]⟩
theorem adm {O:VH} {ba bb bc tb:Nat} {s:Bs} {z:MV} (ha:O.hp ba=some (.cells [.ptr tb 0])) (hb:O.hp bb=some (.cells [.str s])) (hc:O.hp bc=some (.cells [z])) (jX:ba<O.next) (uR:bb<O.next) (mO:bc<O.next) (h:re s) (hs:s.length<=4096):
  VF Tryz.prog 175 [.ptr ba 0,.ptr bb 0,.ptr bc 0] O (aD fun m O'=>O'.hp bc=some (.cells [.str s])/\bq O (some bc) O'):=by
 refine VF.bO 8 [] Tryz.func175 ?_;have Qe:∀x,(O.push x).hp bb=some (.cells [.str s]):=fun x=>(VH.bw _ _ uR).trans hb
 refine WC.sound aa (aI @cI @ha @hb ?_);refine ah.bx ?_;rintro O1 ⟨aM,dw,c5⟩;refine ah.rt (MA O.next s [] O1 h hs) ?_;rintro _ O2 ⟨rfl,ax⟩;have gx:=aM.trans ax;have jj:=(gx.hp _ mO).trans hc;refine ao @cI @jj ?_;exact(bq.lI gx).any.trans bq.set
theorem VW (tb:Nat) (s:Bs) (O:VH) (h:re s) (hs:s.length<=4096):VF Tryz.prog 147 [.ptr tb 0,.str s] O (aD fun m O'=>m= .tuple [.str s,mi 0,.str []]/\O.Ge O'):=by
 refine VF.bO 20 [.cell 4 9,.tmp 5,.tmp 6] Tryz.func147 ?_;refine VC.ag aa (ae @cI ?_);refine VC.gen ?_;intro O1 e1;obtain⟨aM,c5,cS,cA,fN⟩:=lG _ _ _ e1;clear e1;refine VC.ag aa (ao @cI @cS ?_);refine VC.ag aa (ae @cI ?_);refine ah.rt (MF (O:=O1) (g:=175) (xs:=[.ptr O.next 0,.ptr (O.next+1) 0,.ptr (O.next+2) 0]) (Φ :=fun A B=>B.hp (O.next+2)=some (.cells [.str s])/\bq A (some (O.next+2)) B) (by kernel_rfl) (fun O2 ax=>adm (ax.at cS) (ax.at cA) (ax.at fN) (by have:=ax.next;omega) (by have:=ax.next;omega) (by have:=ax.next;omega) h hs) (fun A B hA hB=>⟨hB.2.next,fun i h1 h2=>hB.2.hp i h2 (fun e=>by injection e with e;omega)⟩)) ?_;rintro _ O3 ⟨rfl,A,B,rf,⟨nq,Ba⟩,gL,ua⟩;have eE:=(ua _ (by omega)).trans nq;refine ae @cI ?_;refine VC.ag aa (ae @cI ?_);refine VC.ag aa (ao @cI @eE ?_);refine WC.sound aa (ae @cI ?_);have aJ:O.Ge O3:=⟨by have:=rf.next;have:=Ba.next;omega,fun i hi=>(ua i (by omega)).trans ((Ba.hp i (by have:=rf.next;omega) (fun e=>by injection e with e;omega)).trans ((rf.hp i (by omega)).trans (aM.hp i hi)))⟩;exact aJ.set (by omega) _
theorem adn {O:VH} {ba bb tb kr kd:Nat} {L:List (Bs×Bs)} {R:t_} {cr:Nat} {tk:Tok} (ha:O.hp ba=some (.cells [.ptr tb 0])) (hb:O.hp bb=some (.cells [.sl 0 [] .nil])) (jX:ba<O.next) (uR:bb<O.next) (h:oE O tb kr kd L R [] cr 0 tk 0) (hn:L.length<=10000) (hR:∀x∈L,wW x.1 R=some x.2) (hL:L.Pairwise fun x y=>x.1≠y.1) (hv:∀x∈L,re x.2/\x.2.length<=4096):
  VF Tryz.prog 149 [.ptr ba 0,.ptr bb 0] O (aD fun m O'=>(∃t,O'.hp bb=some (.cells [.sl L.length (L.flatMap aY) t]))/\O.next<=O'.next/\∀i,i<O.next->i≠tb->i≠kd->i≠bb->O'.hp i=O.hp i):=by
 have dK:=aT fa L;have eg:=h.lt;have hne:=h.ne;have hc:=h.cell;simp only[ar]at hc;have aeU:ba≠tb:=fun e=>by subst e;rw[ha]at hc;simp at hc
 have Vq:bb≠tb:=fun e=>by subst e;rw[hb]at hc;simp at hc
 have Vk:ba≠kd:=fun e=>by subst e;have:=h.done;cases(ha.symm.trans this)
 have rJ:bb≠kd:=fun e=>by subst e;have:=h.done;cases(hb.symm.trans this)
 have hbr:bb≠kr:=fun e=>by subst e;have:=h.raw;cases(hb.symm.trans this)
 have hab:ba≠bb:=fun e=>by subst e;rw[hb]at ha;simp at ha
 refine VF.bO 26 [] Tryz.func149 ?_;refine VC.ag aa (aI @cI @ha @hc ?_);refine VC.aB ?_;refine VC.bP [9] [0,1,7,8] (fun j:Nat=>[mi j]) (fun j O'=>j<=L.length/\O.next<=O'.next/\(∀i,i<O.next->i≠tb->i≠kd->i≠bb->O'.hp i=O.hp i)/\∃D cd kn t,oE O' tb kr kd L R D cr cd tk kn/\(∀p∈D,∃x∈L.take j,p.1=x.1)/\O'.hp bb=some (.cells [.sl (L.take j).length ((L.take j).flatMap aY) t])/\App O' O.next 2 t) (fun j=>L.length - j) (0) ?_ ?_
 ·exact⟨Nat.zero_le _,Nat.le_refl _,fun _ _ _ _ _=>rfl,[],0,0,.nil,h,by simp,hb,trivial⟩
 rintro j O3 ⟨hj,gL,ua,D,cd,kn,t,hT,hD,cu,cH⟩;by_cases aX:j<L.length;rotate_left
 ·obtain rfl:j=L.length:=by omega
  rw[List.take_length]at cu;refine WC.sound aa (ae @cI ?_);exact⟨⟨t,cu⟩,gL,ua⟩
 have bA:=cg fa L j aX;have eb:=cY L j aX
 have fH:∀p∈D,p.1≠L[j].1:=fun p hp=>by
  obtain⟨x,hx,e⟩:=hD p hp;obtain⟨i,hi,e2⟩:=List.mem_iff_getElem.1 hx;rw[List.length_take]at hi;rw[List.getElem_take]at e2;have:=(List.pairwise_iff_getElem.1 hL) i j (by omega) aX (by omega);rw[e, <-e2];exact this
 have hRj:=hR L[j] (List.getElem_mem aX);obtain⟨hvj,jk⟩:=hv L[j] (List.getElem_mem aX);have tT:(L.take j).length=j:=by rw[List.length_take];omega
 generalize L[j]=y at*;obtain⟨yn,yv⟩:=y;dsimp only at fH hRj hvj jk;simp only[aY]at bA;have dd:((j:Int)+1)=((j+1:Nat):Int):=by omega
 refine VC.ag aa (ae @cI ?_);refine VC.ag aa (ae @cI ?_);refine VC.bC (VC.aB ?_);refine VC.ag aa (ao @cI @bA ?_);refine VC.al ?_;rintro O4 ⟨bg,gy,gM⟩;have vx:=hT.ge bg;have kG:=bg.at ((ua ba jX aeU Vk hab).trans ha);have cQ:=bg.at cu;have lM:=cH.ge bg;refine VC.zP [12] (bb) (fun O'=>O'.hp ba=some (.cells [.ptr tb 0])/\O'.hp O3.next=some (.cells [.str yn,.str yv])) (cQ) (fun X=>⟨(VH.ak _ _ hab).trans kG,VH.sn gy⟩) ?_;intro X;refine ab.nX (m:=.sl (L.take j).length ((L.take j).flatMap aY) t) 0 (fun _ h=>h.1) (fun _ h=>h) ?_ ?_
 ·exact eW @cI
 simp only[aj];refine ab.av 1 ?_;refine ae @cI ?_;refine ab.mH (m:=.str yn) 2 ?_ ?_
 ·rintro O2 ⟨j0,j1,j2⟩;exact c9 @cI @j2
 simp only[aj];refine ab.mH (m:=.ptr tb 0) 3 ?_ ?_
 ·rintro O2 ⟨j0,j1,j2⟩;exact c9 @cI @j1
 simp only[aj];refine ab.av 4 ?_;refine ae @cI ?_;refine ab.av 6 ?_;refine ae @cI ?_;refine ab.mH (m:=.str yn) 7 ?_ ?_
 ·rintro O2 ⟨j0,j1,j2⟩;exact c9 @cI @j2
 simp only[aj];have lB:(O4.set bb (.obj X)).hp bb=some (.obj X)/\(O4.set bb (.obj X)).hp ba=some (.cells [.ptr tb 0])/\(O4.set bb (.obj X)).hp O3.next=some (.cells [.str yn,.str yv]):=⟨VH.an _ _ _,(VH.ak _ _ hab).trans kG,VH.sn gy⟩;have gu:(O4.set bb (.obj X)).next=O4.next:=rfl;have gO:∀i,i≠bb->(O4.set bb (.obj X)).hp i=O4.hp i:=fun i h1=>VH.ak _ _ h1
 have lq:=lM.nY (k:=bb) (x:=.obj X) (by rw[cQ];simp);have aiJ:=vx.lt;have hT5:oE (O4.set bb (.obj X)) tb kr kd L R D cr cd tk kn:=⟨(gO _ (Ne.symm Vq)).trans vx.cell,(gO _ (Ne.symm hbr)).trans vx.raw,(gO _ (Ne.symm rJ)).trans vx.done,⟨by omega,by omega,by omega⟩,hne⟩;generalize O4.set bb (.obj X)=O5 at*;refine ab.op (i:=5) ?_;refine ae @cI ?_;refine⟨lB,?_⟩;have fC:O5.Ge (O5.push (.cells [.ptr tb 0,.sl 0 [] .nil])):=(VH.Ge.refl _).push _;have hw6:(O5.push (.cells [.ptr tb 0,.sl 0 [] .nil])).hp O5.next=some (.cells [.ptr tb 0,.sl 0 [] .nil]):=VH.aV _ _;have ov:(O5.push (.cells [.ptr tb 0,.sl 0 [] .nil])).next=O5.next+1:=rfl;generalize O5.push (.cells [.ptr tb 0,.sl 0 [] .nil])=O6 at*;have wX:=hT5.ge fC;have nW:=lq.ge fC;have akb:=wX.lt;refine ab.call (i:=8) (VU yn yv wX hw6 (by omega) hRj fH hvj jk) ?_;rintro _ O7 ⟨rfl,⟨kn',F5⟩,tV,vv⟩;simp only[aj];have Sk:∀i,i<O5.next->i≠tb->i≠kd->O7.hp i=O5.hp i:=fun i h1 h2 h3=>(vv i (by omega) h2 h3 (by omega)).trans (fC.hp i h1)
 have xn:O7.hp bb=some (.obj X)/\O7.hp ba=some (.cells [.ptr tb 0])/\O7.hp O3.next=some (.cells [.str yn,.str yv]):=⟨(Sk _ (by omega) Vq rJ).trans lB.1,(Sk _ (by omega) aeU Vk).trans lB.2.1,(Sk _ (by omega) (by omega) (by omega)).trans lB.2.2⟩;refine⟨xn,?_⟩;have jP:App O7 O.next 2 t:=nW.mv tV fun i h1 e=>(vv i h1 (fun e2=>by subst e2;rw[wX.cell]at e;cases e) (fun e2=>by subst e2;rw[wX.done]at e;cases e) (fun e2=>by subst e2;rw[hw6]at e;cases e)).trans e
 refine ab.av 9 ?_;refine ae @cI ?_;refine ab.op (i:=10) ?_;refine ae @cI ?_;refine⟨xn,?_⟩;have cH:=bo (tk:=t) (tk':=.full) (B:=O.next) (n:=(L.take j).length) (k:=1) (cs:=(L.take j).flatMap aY) (ds:=[.str yn,.str yv]) zA BT.1.1 (O:=O7) jP (aT fa _) rfl rfl (by decide) (by decide) (by omega) (by simp only[maxLen];omega);refine ab.op (i:=11) ?_;rw[cT];refine ao @cI @cH ?_;have kH:∀i,i<O7.next->O7.hp i≠some .tok->(O7.after t).hp i=O7.hp i:=fun i h1 h2=>App.off jP h1 h2
 refine⟨⟨(kH _ (by omega) (by rw[xn.1];simp)).trans xn.1,(kH _ (by omega) (by rw[xn.2.1];simp)).trans xn.2.1,(kH _ (by omega) (by rw[xn.2.2];simp)).trans xn.2.2⟩,?_⟩;refine ab.jB [(12,.one)] ?_;refine ae @cI ?_;refine VC.gen ?_;intro O8 e8;have rf:=cP.after jP;have hnA:=rf.next;have yh:∀i,i≠bb->O8.hp i=(O7.after t).hp i:=fun i h1=>by rw[e8,VH.ak _ _ h1,VH.ak _ _ h1]
 have sF:O8.hp bb=some (.cells [.sl ((L.take j).length+1) ((L.take j).flatMap aY++[.str yn,.str yv]) (.own O7.next 2)]):=by rw[e8];exact VH.an _ _ _
 have D7:O8.next=(O7.after t).next:=by rw[e8];rfl
 clear e8;have aat:=F5.lt;have hT8:oE O8 tb kr kd L R (D++[(yn,yv,cd)]) cr (cd+1) tk kn':=⟨(yh _ (Ne.symm Vq)).trans ((kH _ aat.1 (by rw[F5.cell];simp)).trans F5.cell),(yh _ (Ne.symm hbr)).trans ((kH _ aat.2.1 (by rw[F5.raw];simp)).trans F5.raw),(yh _ (Ne.symm rJ)).trans ((kH _ aat.2.2 (by rw[F5.done];simp)).trans F5.done),⟨by omega,by omega,by omega⟩,hne⟩;have B0:App O8 O.next 2 (.own O7.next 2):=(App.after (tk:=t) (B:=O.next) (sz:=2) (by omega:O.next<=O7.next)).mv (by omega) fun i hi e=>(yh i (fun e2=>by subst e2;have e3:=kH i (by omega) (by rw[xn.1];simp);rw[e3,xn.1]at e;cases e)).trans e
 have oL:∀i,i<O.next->i≠tb->i≠kd->i≠bb->O8.hp i=O.hp i:=fun i h1 h2 h3 h4=>by
  rw[yh i h4,rf.hp i (by omega) (fun e=>by have:=(App.ou jP e).1;omega),Sk i (by omega) h2 h3,gO i h4,bg.hp i (by omega)];exact ua i h1 h2 h3 h4
 refine WC.sound aa (ao @cI @dd ?_);refine az.next (j+1) ⟨aX,by omega,oL,D++[(yn,yv,cd)],cd+1,kn',.own O7.next 2,hT8,fun p hp=>?_,?_,B0⟩
 ·rw[eb];rcases List.mem_append.1 hp with hp | hp
  ·obtain⟨x,hx,e⟩:=hD p hp;exact⟨x,List.mem_append_left _ hx,e⟩
  ·rw[List.mem_singleton.1 hp];exact⟨(yn,yv),List.mem_append_right _ (List.mem_singleton.2 rfl),rfl⟩
 ·rw[eb,List.flatMap_append,List.length_append];simpa[aY]using sF
theorem ado {O:VH} {tb kr kd:Nat} {L:List (Bs×Bs)} {R:t_} {cr:Nat} {tk:Tok} (h:oE O tb kr kd L R [] cr 0 tk 0) (hn:L.length<=10000) (hR:∀x∈L,wW x.1 R=some x.2) (hL:L.Pairwise fun x y=>x.1≠y.1) (hv:∀x∈L,re x.2/\x.2.length<=4096):
  VF Tryz.prog 126 [.ptr tb 0] O (aD fun m O'=>(∃t,m= .tuple [.sl L.length (L.flatMap aY) t,mi 0,.str []])/\O.next<=O'.next/\∀i,i<O.next->i≠tb->i≠kd->O'.hp i=O.hp i):=by
 have eg:=h.lt;refine VF.bO 17 [.cell 2 104,.tmp 3,.tmp 4] Tryz.func126 ?_;refine VC.ag aa (ae @cI ?_);refine VC.gen ?_;intro O1 e1;obtain⟨aM,c5,cS,cA⟩:=gk _ _ e1;clear e1;refine VC.ag aa (ao @cI @cS ?_);refine VC.ag aa (ae @cI ?_);refine ah.rt (MF (O:=O1) (g:=149) (xs:=[.ptr O.next 0,.ptr (O.next+1) 0]) (Φ :=fun A B=>(∃t,B.hp (O.next+1)=some (.cells [.sl L.length (L.flatMap aY) t]))/\A.next<=B.next/\∀i,i<A.next->i≠tb->i≠kd->i≠O.next+1->B.hp i=A.hp i) (by kernel_rfl) (fun O2 ax=>adn (ax.at cS) (ax.at cA) (by have:=ax.next;omega) (by have:=ax.next;omega) (h.ge (aM.trans ax)) hn hR hL hv) (fun A B hA hB=>⟨hB.2.1,fun i h1 h2=>hB.2.2 i h2 (by omega) (by omega) (by omega)⟩)) ?_;rintro _ O3 ⟨rfl,A,B,rf,⟨⟨t,nq⟩,Ba,hB3⟩,gL,ua⟩;have cu:=(ua _ (by omega)).trans nq;refine ae @cI ?_;refine VC.ag aa (ae @cI ?_);refine VC.ag aa (ao @cI @cu ?_);refine WC.sound aa (ae @cI ?_);have hnA:=rf.next;refine⟨⟨t,rfl⟩,by show O.next<=O3.next;omega,fun i h1 h2 h3=>?_⟩;rw[VH.ak _ _ (by omega),ua i (by omega),hB3 i (by omega) h2 h3 (by omega),rf.hp i (by omega),aM.hp i h1]
set_option linter.defProp false in
def n5:=And.intro nC<|And.intro ahR<|And.intro ahQ<|And.intro T33<|And.intro T31 T65
def vy (r:Bool×Bs×List Bs) (tk:Tok):List MV:=[mb r.1,.str r.2.1,.sl r.2.2.length (r.2.2.flatMap fun _=>[]) tk]
def I_ (s:Bs):Bool:=trimB s==s&&(s.headD 0 != 91&&(s.headD 0 != 40&&uQ s))
def qE (s:Bs):(Bool×Bs×List Bs)×Int:=if I_ s then((false,s,[]),0)else((true,[],[]),21)
theorem aau {s:Bs} (h:qE s=((false,s,[]),0)):I_ s=true:=by
 unfold qE at h;cases e:I_ s
 ·rw[e]at h;simp at h
 ·rfl
theorem adp (v:Bs) (tk:Tok) (O:VH) (hv:v.length<=maxLen):VF Tryz.prog 163 [.agg [.v (.bool false),.str v,.sl 0 [] tk]] O (aD fun m O'=>m=mb (uQ v)/\O.Ge O'):=by
 refine VF.bO 76 [.tmp 2] Tryz.func163 ?_;refine VC.ag aa (ae @n5 ?_);refine VC.bx ?_;rintro O1 ⟨aM,dw,c5⟩;refine VC.ag aa (ao @n5 @dw ?_);refine ah.rt (Pr v O1 hv) ?_;rintro _ O2 ⟨rfl,ax⟩;refine ae @n5 ?_;exact aM.trans ax
theorem adq {O:VH} {a b:Nat} {K:VH->Prop} (h:K O):fW Tryz.prog 157 [.ptr a 0,.ptr b 0] none O K:=by
 refine fW.rec (d:=5) Tryz.func157 (Nat.lt_of_lt_of_eq (by decide:5<12) rfl) ?_;show WC _ _ ⟨12,0⟩ _ _ _ _ _;simp only[cw,Nat.zero_add,Nat.reduceAdd,zp];refine ao @n5 @wi ?_;refine VL.pure (by simp) (fun _=>.inl rfl) rfl rfl (ig.DR (bb:=true) Tryz.underlying20 rfl (.inl ⟨rfl,rfl⟩)) ?_;refine WL.sound aa ?_;refine ao @n5 @wi ?_;exact h
theorem aav {O:VH} {b:Nat} {s:Bs} (hk:O.hp b=some (.cells [.str s])):VF Tryz.prog 159 [.ptr b 0] O (aD fun m O'=>m=fB (s.headD 0)/\O'=O):=by
 refine VF.du 13 [.tmp 2] Tryz.func159 ?_;cases s with
 | nil=>
   refine aI @n5 @hk (show(([]:List UInt8)==[])=true from rfl) ?_;rfl
 | cons c s=>
   refine aI @n5 @hk (show((c::s)==[])=false from rfl) ?_;rfl
theorem aaw (s:Bs) (O:VH) (hs:s.length<=10000) (hp:qE s=((false,s,[]),0)):VF Tryz.prog 131 [.str s] O (aD fun m O'=>∃tk,m= .tuple [.agg (vy (qE s).1 tk),mi (qE s).2]/\O.Ge O'):=by
 have hsf:=aau hp;rw[hp];unfold I_ at hsf;simp only[Bool.and_eq_true,beq_iff_eq,bne_iff_ne,ne_eq]at hsf;obtain⟨h1,h2,h3,h4⟩:=hsf;have MG:=IF s;rw[h1]at MG;have Ax:s.length<=maxLen:=Nat.le_trans hs (by decide);have hm:=fun O' tk=>adp s tk O' Ax
 rw[h4]at hm;have hc:=(s.headD 0).toNat_lt;have b1:((s.headD 0).toNat:Int)≠91:=fun e=>h2 (by rw[<-UInt8.toNat_inj];show _=91;omega)
 have b2:((s.headD 0).toNat:Int)≠40:=fun e=>h3 (by rw[<-UInt8.toNat_inj];show _=40;omega)
 have c1:((((s.headD 0).toNat:Int)) != 91)=true:=by rw[bne_iff_ne];exact b1
 have c2:((((s.headD 0).toNat:Int)) != 40)=true:=by rw[bne_iff_ne];exact b2
 simp only[vy,ar,a_,List.length_nil,List.flatMap_nil];refine VF.deferred (lo:=4) (k:=54) (rs:=[.cell 2 33,.cell 3 65]) Tryz.func131 (Enters.sA (by kernel_rfl)) ?_;simp only[cw,Nat.zero_add,Nat.reduceAdd];refine ae @n5 ?_;refine⟨_,rfl,fun D=>?_⟩;refine VC.gen ?_;intro O1 e1;obtain⟨aM,c5,cS,cA⟩:=gk _ _ e1;clear e1;refine VC.ag aa (ao @n5 @wd ?_);refine ah.rt (MG O1 Ax) ?_;rintro _ O2 ⟨rfl,e2⟩;rw[e2];clear e2 O2;refine ao @n5 @wd ?_;refine VC.bx ?_;rintro O2 ⟨ax,iL,iB⟩;have jc:=ax.at cS;have ct:=ax.at cA;refine VC.ag aa (ao @n5 @wd ?_);refine ah.rt (aav iL) ?_;rintro _ O3 ⟨rfl,e3⟩;rw[e3];clear e3 O3;refine kw7 @n5 @wd @aE @c1 @c2 @iL @jc ?_;refine VC.gen ?_;intro O4 e4;have kG:O4.hp O.next=some (.cells [.v (.bool false),.str s,.sl 0 [] .nil]):=by rw[e4];exact VH.an _ _ _
 have cQ:O4.hp (O.next+1)=some (.cells [.v (.int .i64 0)]):=by rw[e4,VH.ak _ _ (by omega)];exact ct
 have bg:O.Ge O4:=by rw[e4];exact(aM.trans ax).set (Nat.le_refl _) _
 have gM:O.next+1<O4.next:=by rw[e4];show _<O2.next;omega
 clear e4;refine VC.ag aa (aI @n5 @wd @kG ?_);refine ah.rt (hm O4 .nil) ?_;rintro _ O5 ⟨rfl,bW⟩;have fl:=bW.at kG;have cV:=bW.at cQ;refine aI @n5 @wd @fl ?_;refine VC.ag aa (de @n5 @wd @fl @cV ?_);refine WC.sound aa (ao @n5 @wd ?_);refine adq ?_;refine ao @n5 @wd ?_;exact⟨.nil,rfl,((bg.trans bW).set (Nat.le_refl _) _).set (Nat.le_succ _) _⟩
set_option linter.defProp false in
def ef:=And.intro cI<|And.intro aeo<|And.intro ahx<|And.intro ahK<|And.intro ahJ<|And.intro aen<|And.intro T33<|And.intro T31<|And.intro AH T65
def nmG:Bs:=[112,114,111,106,101,99,116,46,103,114,111,117,112,73,100]
def nmA:Bs:=[112,114,111,106,101,99,116,46,97,114,116,105,102,97,99,116,73,100]
def nmV:Bs:=[112,114,111,106,101,99,116,46,118,101,114,115,105,111,110]
def gT (p:Pm):List (Bs×Bs):=[(nmG,p.g),(nmA,p.a),(nmV,p.v)]
theorem vz (p:Pm):(gT p).Pairwise fun x y=>x.1≠y.1:=by
 simp only[gT,List.pairwise_cons,List.mem_cons,List.not_mem_nil,or_false,forall_eq_or_imp,forall_eq];exact⟨⟨by decide,by decide⟩,by decide,by simp,by simp⟩
theorem MH (p:Pm) (O:VH) (hh:p.hp=false) (hp:p.props=[]):VF Tryz.prog 121 [.agg (fY p)] O (aD fun m O'=>(∃t,m= .sl 3 ((gT p).flatMap aY) t)/\O.Ge O'):=by
 have hne:=vz p;have hov:=fun(O':VH) (tk tM:Tok)=>Sh [] (gT p) tk tM O' (by simp[gT]) (by simp) hne
 obtain⟨b,⟨pg,pa,pv⟩,pG,pA,pV,pk,P,M,D⟩:=p;dsimp only at hh hp;subst hh;subst hp;simp only[gT,nmG,nmA,nmV,List.length_nil,List.flatMap_nil,List.nil_append,List.length_cons,Nat.zero_add,List.flatMap_cons,List.append_nil,aY,List.cons_append]at hov ⊢;simp only[fY,List.length_nil,List.flatMap_nil,a_];refine VF.bO 35 [.tmp 2] Tryz.func121 ?_;refine VC.ag aa (ae @ef ?_);refine VC.bx ?_;rintro O1 ⟨aM,dw,c5⟩;refine VC.ag aa (ao @ef @dw ?_);refine ah.rt (hov _ _ _) ?_;rintro _ O2 ⟨⟨t,rfl⟩,ax⟩;have iL:=ax.at dw;refine ae @ef ?_;refine WC.sound aa (ao @ef @iL ?_);exact⟨⟨t,rfl⟩,aM.trans ax⟩
theorem adr (k:Nat) (O:VH):VF Tryz.prog 51 [.ptr k 0] O (aD fun m O'=>m= .ptr (O.next+1) 0/\O.Ge O'/\O'.hp O.next=some (.map [] 0)/\O'.hp (O.next+1)=some (.cells [.ptr k 0,.map O.next])/\O'.next=O.next+2):=by
 refine VF.bO 7 [.tmp 2] Tryz.func51 ?_;have nr:FI (kS [(0,1),(1,1)]) [.v (.pointer none),.v (.map none)] (.ptr k 0) [(1,.map O.next)] (some (0,1))=some [.ptr k 0,.map O.next]:=rfl;refine VC.ag aa (ae @ef ?_);refine WC.sound aa (ao @ef @nr ?_);obtain⟨hg,hn,h1,h2⟩:=gk (O:=O) (.map [] 0) (.cells [.ptr k 0,.map O.next]) rfl;exact hg
def gE (s:Bs):Prop:=re s/\s.length<=4096
def r3 (tb bb:Nat) (g:Gv) (p:Pm) (tw:Tok):List MV:=[.ptr tb 0,.ptr bb 0]++bS g++fY p++[.sl 1 (bS g) tw]
theorem Ja {O:VH} {wb tb bb:Nat} {g:Gv} {p:Pm} {tw:Tok} (hw:O.hp wb=some (.cells (r3 tb bb g p tw))) (s w:Bs) (hs:gE s):VF Tryz.prog 124 [.ptr wb 0,.str s,.str w] O (aD fun m O'=>m= .str s/\O.Ge O'):=by
 obtain⟨g1,g2,g3⟩:=g;obtain⟨b,⟨pg,pa,pv⟩,pG,pA,pV,pk,P,M,D⟩:=p;simp only[r3,bS,fY,List.cons_append,List.nil_append]at hw;refine VF.bO 27 [.tmp 6] Tryz.func124 ?_;refine VC.ag aa (ae @ef ?_);refine VC.ag aa (ao @ef @hw ?_);refine ah.rt (VW tb s O hs.1 hs.2) ?_;rintro _ O2 ⟨rfl,hg⟩;refine WC.sound aa (ae @ef ?_);exact hg
theorem Bh {O:VH} {wb tb bb:Nat} {g:Gv} {p:Pm} {tw:Tok} (hw:O.hp wb=some (.cells (r3 tb bb g p tw))) (s w:Bs) (hs:gE s):VF Tryz.prog 123 [.ptr wb 0,.str w,.str s,.str s] O (aD fun _ O'=>O.Ge O'):=by
 refine VF.bO 17 [] Tryz.func123 ?_;refine VC.ag aa (ae @ef ?_);refine ah.rt (Ja hw s w hs) ?_;rintro _ O2 ⟨rfl,hg⟩;have hb:(!s==s)=false:=by simp
 refine WC.sound aa (ao @ef @hb ?_);exact hg
theorem Sl {O:VH} {wb tb bb:Nat} {g:Gv} {p:Pm} {tw:Tok} (hw:O.hp wb=some (.cells (r3 tb bb g p tw))) (s w:Bs) (e:Bool) (hs:gE s) (hi:eS s=true\/e=true/\s=[]):VF Tryz.prog 180 [.ptr wb 0,.str s,.str w,mb e] O (aD fun m O'=>m= .str s/\O.Ge O'):=by
 have Ax:s.length<=maxLen:=Nat.le_trans hs.2 (by decide);refine VF.bO 29 [.tmp 8] Tryz.func180 ?_;refine VC.ag aa (ae @ef ?_);refine VC.ag aa (ae @ef ?_);refine ah.rt (Ja hw s w hs) ?_;rintro _ O2 ⟨rfl,hg⟩;refine ae @ef ?_;refine VC.ag aa (ae @ef ?_);refine ah.rt (sI s O2 Ax) ?_;rintro _ O3 ⟨rfl,aJ⟩;have VZ:=hg.trans aJ;rcases hi with hi | ⟨rfl,rfl⟩
 ·refine ao @ef @hi ?_;refine WC.sound aa (ae @ef ?_);exact VZ
 ·rcases hb:eS []with _ | _
  ·refine ao @ef @hb ?_;refine WC.sound aa (ae @ef ?_);exact VZ
  ·refine ao @ef @hb ?_;refine WC.sound aa (ae @ef ?_);exact VZ
theorem MI (wb:Nat) (O:VH) (v w:Bs) (hv:v.length<=10000) (hp:qE v=((false,v,[]),0)):VF Tryz.prog 156 [.ptr wb 0,.str v,.str w] O (aD fun m O'=>m= .agg (vy (false,v,[]) .aq)/\O.Ge O'):=by
 refine VF.fg ?_;have CA:=fun O'=>aaw v O' hv hp
 rw[hp]at CA;simp only[vy,List.length_nil,List.flatMap_nil,a_,ar]at CA ⊢;refine VF.bO 22 [.cell 6 33] Tryz.func156 ?_;refine VC.ag aa (ae @ef ?_);refine VC.bx ?_;rintro O1 ⟨aM,dw,c5⟩;refine VC.ag aa (ae @ef ?_);refine ah.rt (CA _) ?_;rintro _ O2 ⟨tk,rfl,ax⟩;have iL:=ax.at dw;refine ae @ef ?_;refine VC.al ?_;rintro O3 ⟨aJ,kZ,gL⟩;have aax:=(aJ.hp _ (by have:=ax.next;omega)).trans iL;refine WC.sound aa (aI @ef @kZ @aax ?_);exact((aM.trans ax).trans aJ).set (by omega) _
theorem Qs (n:Nat) (O:VH) (hn:n<=1000000000):VF Tryz.prog 151 [mi n] O (aD fun m O'=>m= .str (lr n)/\O'=O):=by
 have zN:=rO n;refine VF.du 17 [.tmp 2] Tryz.func151 ?_;refine ae @ef ?_;refine WC.iA [0,3] [] (fun x:Nat×Bs=>[mi x.1,.str x.2]) (fun x O'=>O'=O/\lr n=lr x.1++x.2/\x.1<=n) (fun x=>x.1) ((n,[])) ?_ ?_
 ·exact⟨rfl,by simp,Nat.le_refl _⟩
 rintro⟨k,s⟩ O2 ⟨eO,hk,xK⟩;dsimp only at hk xK ⊢;rw[eO];clear eO O2
 rcases Nat.eq_zero_or_pos k with rfl | hp
 ·have h0:lr 0=[]:=rfl;rw[h0,List.nil_append]at hk;refine ae @ef ?_;exact congrArg MV.str hk.symm
 ·have hd:=Lu (k % 10) (by omega);have hl:(lr n).length=(lr k).length+s.length:=by rw[hk,List.length_append]
  have hr:(k:Int).tmod 10=((k % 10:Nat):Int):=by rw[Int.tmod_eq_emod_of_nonneg (by omega)];rfl
  have hq:(k:Int).tdiv 10=((k / 10:Nat):Int):=by rw[Int.tdiv_eq_ediv_of_nonneg (by omega)];rfl
  refine de @ef @hr @hq @hd ?_;refine az.next (k / 10,Lt k++s) ⟨rfl,?_,by dsimp only;omega⟩;rw[hk,AM hp,List.append_assoc]
structure Qt (d:Dp):Prop where
 g:gE d.g
 gi:eS d.g=true
 a:gE d.a
 ai:eS d.a=true
 v:gE d.v
 vn:d.v≠[]
 vp:qE d.v=((false,d.v,[]),0)
 t:gE d.t
 ti:eS d.t=true\/d.t=[]
 c:gE d.c
 ci:eS d.c=true\/d.c=[]
 x:d.x.length<=10000
def qF:Bs:=[106,97,114]
def vA (t:Bs):Bs:=if t=[]then qF else t
def di (d:Dp):Dp:=⟨d.g,d.a,d.v,vA d.t,d.c,d.s,d.o,d.x⟩
theorem aay {O:VH} {wb tb bb:Nat} {g:Gv} {p:Pm} {tw:Tok} (hw:O.hp wb=some (.cells (r3 tb bb g p tw))) (ox:wb<O.next) (d:Dp) (w:Bs) (hd:Qt d) (rA:w.length<=1000):VF Tryz.prog 152 [.ptr wb 0,.agg (aQ d),.str w] O (aD fun m O'=>m= .agg (aQ (di d))/\O.Ge O'):=by
 obtain⟨Vg,np,hda,hai,hdv,hvn,hvp,Kx,NT,hdc,Bi,hdx⟩:=hd
 have Fw:gE (vA d.t)/\eS (vA d.t)=true:=by
  unfold vA;by_cases e:d.t=[]
  ·rw[if_pos e];exact⟨⟨by show Lib.index qF [36,123]<0;decide,by decide⟩,by decide⟩
  ·rw[if_neg e];exact⟨Kx,NT.resolve_right e⟩
 have htf:vA d.t=if d.t=[]then[106,97,114]else d.t:=rfl
 unfold di;generalize vA d.t=T at*;obtain⟨dg,da,dv,dt,dc,kD,dO,dx⟩:=d;dsimp only at Vg np hda hai hdv hvn hvp Kx NT hdc Bi hdx Fw htf ⊢;simp only[aQ,ar];have Ag:=fun(O':VH) (g':O.Ge O')=>(g'.hp _ ox).trans hw
 clear hw;have Cf:(dv==[])=false:=by simpa using hvn
 have jk:dv.length<=10000:=Nat.le_trans hdv.2 (by decide);refine VF.bO 55 [.cell 6 63] Tryz.func152 ?_;refine VC.ag aa (ae @ef ?_);refine VC.gen ?_;intro O1 e1;obtain⟨aM,akc,cS,cA⟩:=gk _ _ e1;have c5:O.next+2<=O1.next:=by omega
 clear e1;refine VC.ag aa (ao @ef @cS ?_);refine ah.rt (Sl (Ag _ aM) dg _ false Vg (.inl np)) ?_;rintro _ O2' ⟨rfl,hH⟩;have aeV:=hH.at cS;have aeW:=hH.at cA;have Xb:=aM.trans hH;have hL2:=hH.next;refine ao @ef @aeV ?_;refine VC.gen ?_;intro O2 e2;have ax:O.Ge O2:=by rw[e2];exact Xb.set (by omega) _
 have jc:O2.hp O.next=some (.cells [.str dg,.str da,.str dv,.str dt,.str dc,.v (.int .i64 kD),.v (.int .i64 dO),.sl dx.length (List.flatMap bV dx) .aq]):=by rw[e2];exact VH.an _ _ _
 have ct:O2.hp (O.next+1)=some (.cells [.str [],.str [],.str [],.str [],.str [],.v (.int .i64 0),.v (.int .i64 0),.sl 0 [] .nil]):=by rw[e2];exact VH.sn aeW
 have iB:O.next+2<=O2.next:=by rw[e2];show _<=O2'.next;omega
 clear e2 aeV aeW;refine VC.ag aa (ao @ef @jc ?_);refine ah.rt (Sl (Ag _ ax) da _ false hda (.inl hai)) ?_;rintro _ O3' ⟨rfl,hH⟩;have aeX:=hH.at jc;have aeY:=hH.at ct;have hK3:=ax.trans hH;have hL3:=hH.next;refine ao @ef @aeX ?_;refine VC.gen ?_;intro O3 e3;have aJ:O.Ge O3:=by rw[e3];exact hK3.set (by omega) _
 have oV:O3.hp O.next=some (.cells [.str dg,.str da,.str dv,.str dt,.str dc,.v (.int .i64 kD),.v (.int .i64 dO),.sl dx.length (List.flatMap bV dx) .aq]):=by rw[e3];exact VH.an _ _ _
 have cu:O3.hp (O.next+1)=some (.cells [.str [],.str [],.str [],.str [],.str [],.v (.int .i64 0),.v (.int .i64 0),.sl 0 [] .nil]):=by rw[e3];exact VH.sn aeY
 have gL:O.next+2<=O3.next:=by rw[e3];show _<=O3'.next;omega
 clear e3 aeX aeY;refine VC.ag aa (ao @ef @oV ?_);refine ah.rt (Ja (Ag _ aJ) dv _ hdv) ?_;rintro _ O4' ⟨rfl,hH⟩;have aeZ:=hH.at oV;have ae0:=hH.at cu;have hK4:=aJ.trans hH;have hL4:=hH.next;refine ao @ef @aeZ ?_;refine VC.gen ?_;intro O4 e4;have bg:O.Ge O4:=by rw[e4];exact hK4.set (by omega) _
 have kG:O4.hp O.next=some (.cells [.str dg,.str da,.str dv,.str dt,.str dc,.v (.int .i64 kD),.v (.int .i64 dO),.sl dx.length (List.flatMap bV dx) .aq]):=by rw[e4];exact VH.an _ _ _
 have cQ:O4.hp (O.next+1)=some (.cells [.str [],.str [],.str [],.str [],.str [],.v (.int .i64 0),.v (.int .i64 0),.sl 0 [] .nil]):=by rw[e4];exact VH.sn ae0
 have gM:O.next+2<=O4.next:=by rw[e4];show _<=O4'.next;omega
 clear e4 aeZ ae0;refine VC.bJ [0,2,4,6] (fun _:Unit=>[.ptr wb 0,.str w,.ptr O.next 0,.ptr (O.next+1) 0]) (fun _ O'=>O4.Ge O') ?_ ?_
 ·refine WC.sound aa (aI @ef @kG @Cf ?_);refine ah.rt (MI wb _ dv _ jk hvp) ?_;rintro _ O5 ⟨rfl,bW⟩;refine ae @ef ?_;exact aA.mk () bW
 rintro _ O5 bW;have fl:=bW.at kG;have cV:=bW.at cQ;have ae1:=bg.trans bW;have gu:=bW.next;refine VC.bJ [0,2,4,6] (fun _:Unit=>[.ptr wb 0,.str w,.ptr O.next 0,.ptr (O.next+1) 0]) (fun _ O'=>O.Ge O'/\O.next+2<=O'.next/\O'.hp O.next=some (.cells [.str dg,.str da,.str dv,.str T,.str dc,.v (.int .i64 kD),.v (.int .i64 dO),.sl dx.length (List.flatMap bV dx) .aq])/\O'.hp (O.next+1)=some (.cells [.str [],.str [],.str [],.str [],.str [],.v (.int .i64 0),.v (.int .i64 0),.sl 0 [] .nil])) ?_ ?_
 ·by_cases e:dt=[]
  ·subst e;rw[if_pos rfl]at htf;subst htf;have Z6:(([]:Bs)==[])=true:=rfl;refine WC.sound aa (aI @ef @fl @Z6 ?_);exact aA.mk () ⟨ae1.set (by omega) _,by show _<=O5.next;omega,VH.an _ _ _,VH.sn cV⟩
  ·rw[if_neg e]at htf;have Z6:(dt==[])=false:=by simpa using e
   subst htf;refine WC.sound aa (aI @ef @fl @Z6 ?_);exact aA.mk () ⟨ae1,by omega,fl,cV⟩
 rintro _ O6 ⟨fC,ov,AZ,iK⟩;refine VC.ag aa (ao @ef @AZ ?_);refine ah.rt (Sl (Ag _ fC) T _ false Fw.1 (.inl Fw.2)) ?_;rintro _ O7' ⟨rfl,hH⟩;have ae2:=hH.at AZ;have ae3:=hH.at iK;have hK7:=fC.trans hH;have hL7:=hH.next;refine ao @ef @ae2 ?_;refine VC.gen ?_;intro O7 e7;have fc:O.Ge O7:=by rw[e7];exact hK7.set (by omega) _
 have IX:O7.hp O.next=some (.cells [.str dg,.str da,.str dv,.str T,.str dc,.v (.int .i64 kD),.v (.int .i64 dO),.sl dx.length (List.flatMap bV dx) .aq]):=by rw[e7];exact VH.an _ _ _
 have xV:O7.hp (O.next+1)=some (.cells [.str [],.str [],.str [],.str [],.str [],.v (.int .i64 0),.v (.int .i64 0),.sl 0 [] .nil]):=by rw[e7];exact VH.sn ae3
 have tV:O.next+2<=O7.next:=by rw[e7];show _<=O7'.next;omega
 clear e7 ae2 ae3;refine VC.ag aa (ao @ef @IX ?_);refine ah.rt (Sl (Ag _ fc) dc _ true hdc (Bi.imp id fun e=>⟨rfl,e⟩)) ?_;rintro _ O8' ⟨rfl,hH⟩;have ae4:=hH.at IX;have ae5:=hH.at xV;have hK8:=fc.trans hH;have hL8:=hH.next;refine ao @ef @ae4 ?_;refine VC.gen ?_;intro O8 e8;have ik:O.Ge O8:=by rw[e8];exact hK8.set (by omega) _
 have ha8:O8.hp O.next=some (.cells [.str dg,.str da,.str dv,.str T,.str dc,.v (.int .i64 kD),.v (.int .i64 dO),.sl dx.length (List.flatMap bV dx) .aq]):=by rw[e8];exact VH.an _ _ _
 have sF:O8.hp (O.next+1)=some (.cells [.str [],.str [],.str [],.str [],.str [],.v (.int .i64 0),.v (.int .i64 0),.sl 0 [] .nil]):=by rw[e8];exact VH.sn ae5
 have D7:O.next+2<=O8.next:=by rw[e8];show _<=O8'.next;omega
 clear e8 ae4 ae5;refine WC.sound aa (aI @ef @ha8 @sF ?_);exact ik.set (by omega) _
set_option linter.defProp false in
def lx:=And.intro ef<|And.intro uP<|And.intro YV<|And.intro ahO<|And.intro ahP<|And.intro ahN<|And.intro Ld<|And.intro G7 DW
theorem aaz (f:MV) (t:Tok) (O:VH):VF Tryz.prog 182 [.sl 0 [] t,f] O (aD fun m O'=>m=mi (-1)/\O'=O):=by
 refine VF.du 19 [.tmp 4] Tryz.func182 ?_;refine ae @lx ?_;refine WC.iA [8] [0,1,7] (fun x:Nat=>[mi 0]) (fun x O'=>O'=O) (fun x=>x) (0) ?_ ?_
 ·rfl
 rintro k O2 eO;rw[eO];refine ae @lx ?_;trivial
theorem V0 (d:Dp) (t:Tok) (O:VH) (hx:d.x.length<=10000):VF Tryz.prog 155 [.agg (aQ d),.sl 0 [] t] O (aD fun m O'=>m= .agg (aQ d)/\O.Ge O'):=by
 have hk:=fun O'=>I4 d O'
 obtain⟨dg,da,dv,dt,dc,kD,dO,dx⟩:=d;dsimp only at hx;simp only[aQ,ar]at hk ⊢;generalize iq ⟨dg,da,dv,dt,dc,kD,dO,dx⟩=K at hk;obtain⟨k1,k2,k3,k4⟩:=K;simp only[fQ]at hk;refine VF.bO 49 [.cell 4 63] Tryz.func155 ?_;refine VC.ag aa (ae @lx ?_);refine VC.gen ?_;intro O1 e1;obtain⟨aM,c5,cS,cA⟩:=gk _ _ e1;clear e1;refine VC.ag aa (ao @lx @cS ?_);refine ah.rt (hk _) ?_;rintro _ O2 ⟨rfl,ax⟩;have aiK:=aM.trans ax;have jc:=ax.at cS;have ct:=ax.at cA;have iB:=ax.next;clear cS cA hk aM ax;refine ae @lx ?_;refine VC.al ?_;rintro O3 ⟨aJ,kZ,gL⟩;have aiL:=aiK.trans aJ;have oV:=aJ.at jc;have cu:=aJ.at ct;clear jc ct;refine VC.ag aa (ae @lx ?_);refine ah.rt (aaz _ t _) ?_;rintro _ O4 ⟨rfl,rfl⟩;refine ae @lx ?_;refine VC.bC ?_;refine WC.sound aa (ae @lx ?_);refine VC.ag aa (ao @lx @oV ?_);refine ah.rt (sS dx .aq _ (by omega)) ?_;rintro _ O4 ⟨rfl,bg⟩;have kG:=bg.at oV;have cQ:=bg.at cu;refine ao @lx @kG ?_;refine WC.sound aa (ao @lx @cQ ?_);exact((aiL.trans bg).set (Nat.le_refl _) _).set (Nat.le_succ _) _
structure Qu (O:VH) (gb mb B:Nat) (L:List Dp) (M:fj) (cm:Nat) (tk:Tok):Prop where
 cell:O.hp gb=some (.cells [.sl L.length (L.flatMap aQ) tk,.map mb])
 map:O.hp mb=some (.map (cG M) cm)
 ok:nU 4 M
 app:App O B 8 tk
 lt:gb<O.next/\mb<O.next
 ne:gb≠mb
theorem Qu.ge {O O':VH} {gb mb B:Nat} {L:List Dp} {M:fj} {cm:Nat} {tk:Tok} (h:Qu O gb mb B L M cm tk) (g:O.Ge O'):Qu O' gb mb B L M cm tk:=
 ⟨(g.hp _ h.lt.1).trans h.cell,(g.hp _ h.lt.2).trans h.map,h.ok,h.app.ge g,⟨Nat.lt_of_lt_of_le h.lt.1 g.next,Nat.lt_of_lt_of_le h.lt.2 g.next⟩,h.ne⟩
theorem agI {O:VH} {gb mb B:Nat} {L:List Dp} {M:fj} {cm:Nat} {tk:Tok} (h:Qu O gb mb B L M cm tk) (d:Dp) (hd:B6 d) (hL:L.length<=10000) (hB:B<=O.next) (fH:∀p∈M,p.1≠dW (iq d)):
  VF Tryz.prog 153 [.ptr gb 0,.agg (aQ d)] O (aD fun _ O'=>(∃tk',Qu O' gb mb B (L++[d]) (M++[(dW (iq d),.v (.bool true),cm)]) (cm+1) tk'/\(∀i,Tok.id tk'=some i->O.next<=i))/\O.next<=O'.next/\∀i,i<O.next->i≠gb->i≠mb->Tok.id tk≠some i->O'.hp i=O.hp i):=by
 have Cy:=fun O'=>I4 d O'
 have Eg:=Mu hd;have hkm:(fQ (iq d))=(dW (iq d)).map .str:=rfl;have hud:cO (aQ d)=aQ d:=by simpa using kV [d]
 have hla:=wc fH
 have tX:M.any (·.1==dW (iq d))=false:=by
  rw[List.any_eq_false];intro p hp hpe;exact fH p hp (eq_of_beq hpe)
 have hgm:∃es:Dp,es=d:=⟨_,rfl⟩
 generalize hK:iq d=K at*;obtain⟨k1,k2,k3,k4⟩:=K;obtain⟨dg,da,dv,dt,dc,kD,dO,dx⟩:=d;simp only[aQ,ar,fQ]at Cy hud ⊢;refine VF.bO 29 [] Tryz.func153 ?_;refine VC.ag aa (ae @lx ?_);refine VC.bx ?_;rintro O1 ⟨aM,dw,c5⟩;refine VC.ag aa (ao @lx @dw ?_);refine ah.rt (Cy _) ?_;rintro _ O2 ⟨rfl,ax⟩;refine ae @lx ?_;refine VC.al ?_;rintro O3 ⟨aJ,kZ,gL⟩;have eG:=(aM.trans ax).trans aJ;have aiM:=(ax.trans aJ).at dw;have h3:=h.ge eG;have eE:=h3.cell;refine VC.bC ?_;refine WC.bH (.held []) [(0,.rd),(1,.rd),(2,.rd),(3,.rd),(4,.rd),(5,.rd),(6,.rd)] ?_;refine aI @lx @eE @kZ ?_;refine VL.hold (.inr rfl) rfl rfl (fI.lA qY aa (l:=dW ⟨k1,k2,k3,k4⟩) (te:=⟨_,1,1,[.v (.bool false)]⟩) Tryz.underlying273 T4 rfl rfl h3.map h3.ok rfl rfl Eg) (WL.sound aa ?_);rw[hla];refine ae @lx ?_;refine VC.AA rfl ?_;refine VC.bC ?_;refine WC.bH (.held [5]) [(0,.rd),(1,.rd),(2,.rd),(3,.rd),(4,.rd),(5,.one)] ?_;refine aI @lx @eE @kZ ?_;refine VL.ot rfl rfl (oq.ju qY (l:=dW ⟨k1,k2,k3,k4⟩) (b:=mb) (ck:=cm) (M:=M) Tryz.underlying273 rfl h3.map h3.ok rfl rfl Eg rfl) (fun brk hb i hi=>?_) (WL.sound aa ?_)
 ·cases hb
  rcases i with _ | _ | _ | _ | _ | _ | i<;>first
   | rfl
   | (exfalso;revert hi;simp)
 have jl:=rH (y:=.v (.bool true)) (ck:=cm) h3.ok (l:=dW ⟨k1,k2,k3,k4⟩) rfl Eg;unfold ju at jl;unfold ju KY;rw[tX]at jl ⊢;have hgb:=h3.ne;have lN:=h3.lt;refine ae @lx ?_;refine VC.gen ?_;intro O4 e4;have gM:O4.next=O3.next:=by rw[e4];rfl
 have rb:∀i,i≠mb->O4.hp i=O3.hp i:=fun i h1=>by rw[e4,VH.ak _ _ h1]
 have Qq:O4.hp mb=some (.map (cG (M++[(dW ⟨k1,k2,k3,k4⟩,MV.v (.bool true),cm)])) (cm+1)):=by rw[e4];exact VH.an _ _ _
 clear e4;have eX:=(rb gb hgb).trans eE;have x_:=(rb O.next (fun e=>by subst e;have:=h.lt;omega)).trans aiM;have lM:App O4 B 8 tk:=h3.app.mv (by omega) fun i hi e=>(rb i (fun e2=>by subst e2;rw[h3.map]at e;cases e)).trans e
 have aiN:=bo (tk:=tk) (tk':=.full) (n:=L.length) (k:=1) (cs:=L.flatMap aQ) (ds:=[.str dg,.str da,.str dv,.str dt,.str dc,.v (.int .i64 kD),.v (.int .i64 dO),.sl dx.length (dx.flatMap bV) .aq]) uP AH.1.1 lM (aT fX L) rfl rfl (by decide) (by decide) (by omega) (by simp only[maxLen];omega);have kH:∀i,i<O4.next->O4.hp i≠some .tok->(O4.after tk).hp i=O4.hp i:=fun i h1 h2=>App.off lM h1 h2
 have Jb:=(kH gb (by omega) (by rw[eX];simp)).trans eX;have hmA:=(kH mb (by omega) (by rw[Qq];simp)).trans Qq;refine WC.bH (.held [10]) [(0,.rd),(1,.rd),(2,.rd),(3,.rd),(4,.rd),(5,.rd),(6,.one),(7,.one),(8,.one),(9,.rd),(10,.one)] ?_;refine aI @lx @eX @x_ ?_;refine VL.app aiN ?_;refine ao @lx @Jb ?_;have Jc:=cP.after lM;refine⟨⟨.own O4.next 8,⟨?_,?_,jl,?_,?_,hgb⟩,fun i hi=>by injection hi with hi;have:=eG.next;omega⟩,?_,?_⟩
 ·rw[List.length_append,List.flatMap_append];exact VH.an _ _ _
 ·exact(VH.ak _ _ (Ne.symm hgb)).trans hmA
 ·exact(App.after (by have:=eG.next;omega)).nY (by rw[Jb];simp)
 ·have:=Jc.next;exact⟨by show _<(O4.after tk).next;omega,by show _<(O4.after tk).next;omega⟩
 ·have:=Jc.next;have:=eG.next;show _<=(O4.after tk).next;omega
 ·intro i h1 h2 h3 h4;have:=eG.next;rw[VH.ak _ _ h2,Jc.hp i (by omega) h4,rb i h3,eG.hp i h1]
set_option linter.defProp false in
def dz:=And.intro lx<|And.intro T3<|And.intro xf T9
theorem Qv {O:VH} {wb tb bb:Nat} {g:Gv} {p:Pm} {tw:Tok} (hw:O.hp wb=some (.cells (r3 tb bb g p tw))) (ox:wb<O.next) (hp:p.eu=[]):VF Tryz.prog 127 [.ptr wb 0] O (aD fun m O'=>m= .sl 0 [] .nil/\O.Ge O'):=by
 obtain⟨g1,g2,g3⟩:=g;obtain⟨b,⟨pg,pa,pv⟩,pG,pA,pV,pk,P,M,D⟩:=p;dsimp only at hp;subst hp;simp only[r3,bS,fY,List.cons_append,List.nil_append,List.length_nil,List.flatMap_nil]at hw;have nr:FI (kS [(0,1),(1,1)]) [.sl 0 [] .nil,.v (.map none)] (.map O.next) [] (some (1,1))=some [.sl 0 [] .nil,.map O.next]:=rfl;refine VF.bO 145 [.tmp 2] Tryz.func127 ?_;refine VC.ag aa (ae @dz ?_);refine VC.ag aa (ao @dz @nr ?_);refine VC.gen ?_;intro O1 e1;obtain⟨aM,c5,Qp,fN⟩:=gk _ _ e1;clear e1;have DT:=(aM.hp _ ox).trans hw;refine VC.ag aa (ae @dz ?_);refine VC.bJ [3,4] (fun _:Unit=>[.ptr (O.next+1) 0,.sl 0 [] .nil]) (fun _ O'=>O'=O1) ?_ ?_
 ·refine VC.ag aa (ao @dz @DT ?_);refine VC.aB ?_;refine VC.bP [4,23] [0,3,21,22] (fun _:Nat=>[.sl 0 [] .nil,mi 0]) (fun _ O'=>O'=O1) (fun x=>x) (0) ?_ ?_
  ·rfl
  rintro j O3 e3;rw[e3];refine WC.sound aa (ae @dz ?_);exact aA.mk () rfl
 rintro _ O3 e3;rw[e3];refine VC.bJ [3] (fun _:Unit=>[.ptr (O.next+1) 0]) (fun _ O'=>O'=O1) ?_ ?_
 ·refine VC.ag aa (ae @dz ?_);refine VC.aB ?_;refine VC.bP [84] [3,83] (fun _:Nat=>[mi 0]) (fun _ O'=>O'=O1) (fun x=>x) (0) ?_ ?_
  ·rfl
  rintro j O3 e3;rw[e3];refine WC.sound aa (ae @dz ?_);exact aA.mk () rfl
 rintro _ O3 e3;rw[e3];refine WC.sound aa (ao @dz @fN ?_);exact aM
theorem App.at {O O':VH} {B sz:Nat} {tk:Tok} (h:App O B sz tk) (hn:O.next<=O'.next) (hi:∀i,Tok.id tk=some i->O'.hp i=O.hp i):App O' B sz tk:=by
 cases tk with
 | own t k=>exact⟨h.1,(hi t rfl).trans h.2.1,h.2.2.1,Nat.lt_of_lt_of_le h.2.2.2 hn⟩
 | nil=>trivial
 | full=>trivial
 | aq=>exact h.elim
theorem App.tok {O:VH} {B sz i:Nat} {tk:Tok} (h:App O B sz tk) (e:Tok.id tk=some i):O.hp i=some .tok:=by
 cases tk with
 | own t k=>injection e with e;subst e;exact h.2.1
 | nil=>cases e
 | full=>cases e
 | aq=>cases e
structure oF where
 k:Ky
 v:Bs
 s:Int
 o:Bool
 x:List fJ
def dQ (n:oF):List MV:=fQ n.k++vy (false,n.v,[]) .aq++[mi n.s,mb n.o,.sl n.x.length (n.x.flatMap bV) .aq]
theorem nJ (x:oF):(dQ x).length=10:=rfl
theorem wF (L:List oF):cO (L.flatMap dQ)=L.flatMap dQ:=kE (fun x=>by simp only[dQ,fQ,vy,List.cons_append,List.nil_append,ar,a_,wu,mW,List.length_nil,List.flatMap_nil]) L
theorem Qw (F:oF):cO (dQ F)=dQ F:=by simpa using wF [F]
def ff (d:Dp):oF:=⟨iq (di d),d.v,max d.s 1,d.o==1,d.x⟩
theorem Qt.ok {d:Dp} (h:Qt d):B6 (di d):=by
 have h1:=h.g.2;have h2:=h.a.2;have h3:=h.v.2;have h4:=h.t.2;have h5:=h.c.2;refine⟨?_,?_,?_,?_,?_,h.x⟩<;>(simp only[di];first | omega | skip)
 unfold vA;split
 ·decide
 ·omega
set_option maxHeartbeats 1000000 in
theorem aaA {O:VH} {wb tb bb:Nat} {g:Gv} {p:Pm} {tw:Tok} (hw:O.hp wb=some (.cells (r3 tb bb g p tw))) (ox:wb<O.next) (hq:∀d∈p.ec,Qt d) (hL:p.ec.length<=900) (hne:p.ec.Pairwise fun x y=>iq (di x)≠iq (di y)) (t:Tok):
  VF Tryz.prog 128 [.ptr wb 0,.sl 0 [] t] O (aD fun m O'=>(∃t',m= .sl p.ec.length ((p.ec.map ff).flatMap dQ) t')/\O.Ge O'):=by
 have zW:=fun(O':VH) (g':O.Ge O') (d:Dp) (w:Bs) (hd:Qt d) (rA:w.length<=1000)=>aay (O:=O') (wb:=wb) (tb:=tb) (bb:=bb) (g:=g) (p:=p) (tw:=tw) ((g'.hp _ ox).trans hw) (Nat.lt_of_lt_of_le ox g'.next) d w hd rA
 obtain⟨g1,g2,g3⟩:=g;obtain⟨b,⟨pg,pa,pv⟩,pG,pA,pV,pk,P,M,L⟩:=p;dsimp only at hq hL hne ⊢;simp only[r3,bS,fY,List.cons_append,List.nil_append]at hw;have dK:=aT fX L;have nr:FI (kS [(0,1),(1,1)]) [.sl 0 [] .nil,.v (.map none)] (.map O.next) [] (some (1,1))=some [.sl 0 [] .nil,.map O.next]:=rfl;refine VF.bO 76 [.tmp 4] Tryz.func128 ?_;refine VC.ag aa (ae @dz ?_);refine VC.ag aa (ao @dz @nr ?_);refine VC.gen ?_;intro O1 e1;obtain⟨aM,c5,Qp,fN⟩:=gk _ _ e1;clear e1;have DT:=(aM.hp _ ox).trans hw;refine VC.ag aa (ae @dz ?_);refine VC.bJ [6] (fun x:List oF×Tok=>[.sl x.1.length (x.1.flatMap dQ) x.2]) (fun x O'=>O.Ge O'/\x.1=L.map ff) ?_ ?_;rotate_left
 ·rintro⟨R,t'⟩ O9 ⟨bn,rfl⟩;dsimp only;refine WC.sound aa (ae @dz ?_);rw[List.length_map];exact⟨⟨t',rfl⟩,bn⟩
 refine VC.ag aa (ao @dz @DT ?_);refine VC.aB ?_;refine VC.bP [6,20] [0,1,5,18,19] (fun x:Nat×List oF×Tok=>[.sl x.2.1.length (x.2.1.flatMap dQ) x.2.2,mi x.1]) (fun x O'=>x.1<=L.length/\x.2.1=(L.take x.1).map ff/\O.Ge O'/\O.next+2<=O'.next/\App O' O.next 10 x.2.2/\∃Mj cm tk,Qu O' (O.next+1) O.next O.next ((L.take x.1).map di) Mj cm tk/\(∀q∈Mj,∃d∈L.take x.1,q.1=dW (iq (di d)))/\∀i,Tok.id tk=some i->Tok.id x.2.2≠some i) (fun x=>L.length - x.1) ((0,[],.nil)) ?_ ?_
 ·exact⟨Nat.zero_le _,rfl,aM,by omega,trivial,[],0,.nil,⟨fN,Qp,⟨by simp,by simp⟩,trivial,⟨by omega,by omega⟩,by omega⟩,by simp,fun i h=>by cases h⟩
 rintro⟨j,R,tl⟩ O2 ⟨hj,hR,ax,iB,B7,Mj,cm,tk,hG2,hMj,Fw⟩;dsimp only at hj hR B7 Fw ⊢;by_cases aX:j<L.length;rotate_left
 ·obtain rfl:j=L.length:=by omega
  rw[List.take_length]at hR;refine WC.sound aa (ae @dz ?_);exact aA.mk (R,tl) ⟨ax,hR⟩
 have Qb:R.length=j:=by rw[hR,List.length_map,List.length_take];omega
 have bA:=cg fX L j aX;have eb:=cY L j aX;have MJ:=hq L[j] (List.getElem_mem aX)
 have fH:∀q∈Mj,q.1≠dW (iq (di L[j])):=fun q hq'=>by
  obtain⟨x,hx,e⟩:=hMj q hq';obtain⟨i,hi,e2⟩:=List.mem_iff_getElem.1 hx;rw[List.length_take]at hi;rw[List.getElem_take]at e2;have:=(List.pairwise_iff_getElem.1 hne) i j (by omega) aX (by omega);rw[e2]at this;intro e3;rw[e]at e3;apply this;revert e3;generalize iq (di x)=K1;generalize iq (di L[j])=K2;obtain⟨a1,a2,a3,a4⟩:=K1;obtain⟨b1,b2,b3,b4⟩:=K2;simp[dW]
 have hRn:(L.take (j+1)).map ff=(L.take j).map ff++[ff L[j]]:=by rw[eb,List.map_append];rfl
 have qw:∃x∈L.take (j+1),dW (iq (di L[j]))=dW (iq (di x)):=⟨L[j],by rw[eb];exact List.mem_append_right _ (List.mem_singleton.2 rfl),rfl⟩
 have hold:∀q∈Mj,∃x∈L.take (j+1),q.1=dW (iq (di x)):=fun q h=>by
  obtain⟨x,hx,e⟩:=hMj q h;exact⟨x,by rw[eb];exact List.mem_append_left _ hx,e⟩
 generalize L[j]=d at*;have aiO:=MJ.ok;have Cy:=fun O'=>I4 (di d) O'
 have CD:=fun(O':VH) (tx:Tok)=>V0 (di d) tx O' MJ.x
 have CA:=fun(O':VH) (w:Bs)=>MI wb O' d.v w (Nat.le_trans MJ.v.2 (by decide)) MJ.vp
 have Cf:(d.v==[])=false:=by simpa using MJ.vn
 have aiP:=fun O'=>Qs (j+1) O' (by omega)
 have zN:=rO (j+1);have dd:((j:Int)+1)=((j+1:Nat):Int):=by omega
 have hud:cO (aQ d)=aQ d:=by simpa using kV [d]
 have ae6:=fun(O':VH) (g':O.Ge O') (w:Bs) (rA:w.length<=1000)=>zW O' g' d w MJ rA
 clear zW;have aiQ:=MJ.x;clear MJ hq;have Qn:ff d=⟨iq (di d),d.v,max d.s 1,d.o==1,d.x⟩:=rfl;generalize ff d=F at Qn hRn;have hrF:di d=⟨d.g,d.a,d.v,vA d.t,d.c,d.s,d.o,d.x⟩:=rfl;have akd:cO (aQ (di d))=aQ (di d):=by simpa using kV [di d]
 have MG:(L.take (j+1)).map di=(L.take j).map di++[di d]:=by rw[eb,List.map_append];rfl
 have Vj:=fun(O':VH) (hG:Qu O' (O.next+1) O.next O.next ((L.take j).map di) Mj cm tk) (h2:O.next<=O'.next)=>agI hG (di d) aiO (by rw[List.length_map,List.length_take];omega) h2 fH
 generalize di d=D at*;obtain⟨dg,da,dv,dt,dc,kD,dO,dx⟩:=d;dsimp only at hrF Qn CA Cf aiQ;generalize vA dt=T at hrF;subst hrF;generalize iq ⟨dg,da,dv,T,dc,kD,dO,dx⟩=K at*;obtain⟨k1,k2,k3,k4⟩:=K;simp only[aQ,ar,fQ,vy,a_,List.length_nil,List.flatMap_nil]at bA Cy CD ae6 CA Vj;refine VC.ag aa (ae @dz ?_);refine VC.ag aa (ae @dz ?_);refine VC.bC (VC.aB ?_);refine VC.ag aa (ao @dz @bA ?_);refine VC.al ?_;rintro O3 ⟨aJ,kZ,gL⟩;refine VC.ag aa (ao @dz @dd ?_);refine ah.rt (aiP _) ?_;rintro _ O4 ⟨rfl,e4⟩;rw[e4];clear e4 O4;refine ae @dz ?_
 have hWl:(100::101::112::101::110::100::101::110::99::121::91::(lr (j+1)++[93])).length<=1000:=by
  simp only[List.length_cons,List.length_append,List.length_nil];omega
 generalize (100::101::112::101::110::100::101::110::99::121::91::(lr (j+1)++[93]))=W at*;refine VC.ag aa (ao @dz @kZ ?_);refine ah.rt (ae6 O3 (ax.trans aJ) W hWl) ?_;rintro _ O4 ⟨rfl,bg⟩;refine ae @dz ?_;refine ah.rt (CD _ _) ?_;rintro _ O5 ⟨rfl,bW⟩;have mI:=(bg.trans bW).at kZ;have gu:=(bg.trans bW).next;refine ao @dz @mI ?_;refine VC.gen ?_;intro O6 e6;have aiR:O2.Ge O6:=by rw[e6];exact((aJ.trans bg).trans bW).set (Nat.le_refl _) _
 have n4:O6.hp O2.next=some (.cells [.str dg,.str da,.str dv,.str T,.str dc,.v (.int .i64 kD),.v (.int .i64 dO),.sl dx.length (dx.flatMap bV) .aq]):=by rw[e6];exact VH.an _ _ _
 have ov:O2.next+1<=O6.next:=by rw[e6];show _<=O5.next;omega
 clear e6 mI;refine VC.ag aa (aI @dz @n4 @Cf ?_);refine VC.bJ [0,1,5,6,8,10,18,19,20] (fun nb:Nat=>[.ptr wb 0,.sl 0 [] t,.ptr (O.next+1) 0,.sl R.length (R.flatMap dQ) tl,.ptr O2.next 0,.ptr nb 0,.sl L.length (L.flatMap aQ) .aq,.v (.int .i64 L.length),.v (.int .i64 j)]) (fun nb O'=>O6.Ge O'/\O6.next<=nb/\nb<O'.next/\O'.hp nb=some (.cells (dQ F))) ?_ ?_
 ·subst Qn;refine VC.zP [17] (O2.next) (fun O'=>O6.next<=O'.next/\∀i,i<O6.next->i≠O2.next->O'.hp i=O6.hp i) (n4) (fun X=>⟨Nat.le_refl _,fun i _ h=>VH.ak _ _ h⟩) ?_;intro X;refine ab.nX (m:=.agg [.str dg,.str da,.str dv,.str T,.str dc,.v (.int .i64 kD),.v (.int .i64 dO),.sl dx.length (dx.flatMap bV) .aq]) 0 (fun _ h=>h.1) (fun _ h=>h) ?_ ?_
  ·exact eW @dz
  simp only[aj];refine ab.av 2 ?_;refine ae @dz ?_;refine ab.av 3 ?_;refine ae @dz ?_;refine ab.nX (m:=.str dv) 4 (fun _ h=>h.1) (fun _ h=>h) ?_ ?_
  ·exact eW @dz
  simp only[aj];refine ab.av 5 ?_;refine ae @dz ?_;refine ab.av 7 ?_;refine ae @dz ?_;refine ab.nX (m:=.v (.int .i64 kD)) 8 (fun _ h=>h.1) (fun _ h=>h) ?_ ?_
  ·exact eW @dz
  simp only[aj];refine ab.av 9 ?_;refine ae @dz ?_;refine ab.av 10 ?_;refine ae @dz ?_;refine ab.nX (m:=.v (.int .i64 dO)) 11 (fun _ h=>h.1) (fun _ h=>h) ?_ ?_
  ·exact eW @dz
  simp only[aj];refine ab.av 12 ?_;refine ae @dz ?_;refine ab.av 13 ?_;refine ae @dz ?_;refine ab.nX (m:=.sl dx.length (dx.flatMap bV) .aq) 14 (fun _ h=>h.1) (fun _ h=>h) ?_ ?_
  ·exact eW @dz
  simp only[aj];have kM:∀A B:VH,A.Ge B->(A.hp O2.next=some (.obj X)/\O6.next<=A.next/\∀i,i<O6.next->i≠O2.next->A.hp i=O6.hp i)->(B.hp O2.next=some (.obj X)/\O6.next<=B.next/\∀i,i<O6.next->i≠O2.next->B.hp i=O6.hp i):=fun A B g h=>⟨g.at h.1,Nat.le_trans h.2.1 g.next,fun i h1 h2=>(g.hp i (by omega)).trans (h.2.2 i h1 h2)⟩
  have hJ8:(O6.set O2.next (.obj X)).hp O2.next=some (.obj X)/\O6.next<=(O6.set O2.next (.obj X)).next/\∀i,i<O6.next->i≠O2.next->(O6.set O2.next (.obj X)).hp i=O6.hp i:=⟨VH.an _ _ _,Nat.le_refl _,fun i _ h=>VH.ak _ _ h⟩
  generalize O6.set O2.next (.obj X)=O8 at*;have tU:∀A:VH,A.Ge (A.push (.cells [.str [],.str [],.str [],.str [],.v (.bool false),.str [],.sl 0 [] .nil,.v (.int .i64 0),.v (.bool false),.sl 0 [] .nil])):=fun A=>(VH.Ge.refl A).push _
  have hpn:∀A:VH,(A.push (.cells [.str [],.str [],.str [],.str [],.v (.bool false),.str [],.sl 0 [] .nil,.v (.int .i64 0),.v (.bool false),.sl 0 [] .nil])).hp A.next=some (.cells [.str [],.str [],.str [],.str [],.v (.bool false),.str [],.sl 0 [] .nil,.v (.int .i64 0),.v (.bool false),.sl 0 [] .nil]):=fun A=>VH.aV _ _
  refine ab.pair (i:=1) (j:=16) ?_ ?_
  ·refine aH.iW (Cy O8) ?_;rintro _ O9 ⟨rfl,bn⟩;simp only[aj];have MK:=kM _ _ bn hJ8;refine⟨MK,?_⟩;refine ab.pair (i:=6) (j:=16) ?_ ?_
   ·refine aH.iW (CA O9 W) ?_;rintro _ fK ⟨rfl,ML⟩;simp only[aj];have xp:=kM _ _ ML MK;refine⟨xp,?_⟩;refine ab.av 15 ?_;refine ae @dz ?_;refine ab.op (i:=16) ?_;refine ae @dz ?_;have B8:=kM _ _ (tU fK) xp;refine⟨⟨xp.1,B8.2⟩,?_⟩;have hz:=hpn fK;have hl:=Nat.lt_succ_self fK.next;have h6:=xp.2.1;have lB:=B8;refine ab.jB [(17,.one)] ?_;have sk:=(VH.ak (k:=O2.next) _ (.cells [.str dg,.str da,.str dv,.str T,.str dc,.v (.int .i64 kD),.v (.int .i64 dO),.sl dx.length (dx.flatMap bV) .aq]) (show fK.next≠O2.next by omega)).trans hz;refine aI @dz @hz @sk ?_;refine aA.mk fK.next ⟨⟨lB.2.1,fun i h1=>?_⟩,h6,hl,VH.an _ _ _⟩;rw[VH.ak _ _ (by omega)];by_cases e:i=O2.next
    ·subst e;rw[VH.an];exact n4.symm
    ·rw[VH.ak _ _ e];exact lB.2.2 i h1 e
   ·refine aH.o1 ?_;refine ae @dz ?_;have xp:=kM _ _ (tU O9) MK;refine⟨⟨MK.1,xp.2⟩,?_⟩;refine ab.call (i:=6) (CA _ W) ?_;rintro _ uc ⟨rfl,oM⟩;simp only[aj];have B8:=kM _ _ oM xp;refine⟨B8,?_⟩;refine ab.av 15 ?_;refine ae @dz ?_;have hz:=(oM.hp _ (Nat.lt_succ_self _)).trans (hpn O9);have hl:=Nat.lt_of_lt_of_le (Nat.lt_succ_self O9.next) oM.next;have h6:=MK.2.1;have lB:=B8;refine ab.jB [(17,.one)] ?_;have sk:=(VH.ak (k:=O2.next) _ (.cells [.str dg,.str da,.str dv,.str T,.str dc,.v (.int .i64 kD),.v (.int .i64 dO),.sl dx.length (dx.flatMap bV) .aq]) (show O9.next≠O2.next by omega)).trans hz;refine aI @dz @hz @sk ?_;refine aA.mk O9.next ⟨⟨lB.2.1,fun i h1=>?_⟩,h6,hl,VH.an _ _ _⟩;rw[VH.ak _ _ (by omega)];by_cases e:i=O2.next
    ·subst e;rw[VH.an];exact n4.symm
    ·rw[VH.ak _ _ e];exact lB.2.2 i h1 e
  ·refine aH.o1 ?_;refine ae @dz ?_;have MK:=kM _ _ (tU O8) hJ8;refine⟨⟨hJ8.1,MK.2⟩,?_⟩;refine ab.call (i:=1) (Cy _) ?_;rintro _ fK ⟨rfl,ML⟩;simp only[aj];have xp:=kM _ _ ML MK;refine⟨xp,?_⟩;refine ab.call (i:=6) (CA _ W) ?_;rintro _ uc ⟨rfl,oM⟩;simp only[aj];have B8:=kM _ _ oM xp;refine⟨B8,?_⟩;refine ab.av 15 ?_;refine ae @dz ?_;have hz:=((ML.trans oM).hp _ (Nat.lt_succ_self _)).trans (hpn O8);have hl:=Nat.lt_of_lt_of_le (Nat.lt_succ_self O8.next) (ML.trans oM).next;have h6:=hJ8.2.1;have lB:=B8;refine ab.jB [(17,.one)] ?_;have sk:=(VH.ak (k:=O2.next) _ (.cells [.str dg,.str da,.str dv,.str T,.str dc,.v (.int .i64 kD),.v (.int .i64 dO),.sl dx.length (dx.flatMap bV) .aq]) (show O8.next≠O2.next by omega)).trans hz;refine aI @dz @hz @sk ?_;refine aA.mk O8.next ⟨⟨lB.2.1,fun i h1=>?_⟩,h6,hl,VH.an _ _ _⟩;rw[VH.ak _ _ (by omega)];by_cases e:i=O2.next
   ·subst e;rw[VH.an];exact n4.symm
   ·rw[VH.ak _ _ e];exact lB.2.2 i h1 e
 rintro nb O7 ⟨fc,ake,hnb,hx7⟩;have aiS:=fc.at n4;have Sm:=aiR.trans fc;have aiT:=ax.trans Sm;have tV:=fc.next;simp only[dQ,fQ,vy,a_,ar,List.length_nil,List.flatMap_nil,List.cons_append,List.nil_append]at hx7;refine VC.ag aa (ao @dz @aiS ?_);refine ah.rt (Vj O7 (hG2.ge Sm) (by omega)) ?_;rintro _ O8 ⟨⟨tk8,CE,aiU⟩,D7,yh⟩;have hc8:=CE.cell;have agJ:((L.take j).map di++[({g:=dg,a:=da,v:=dv,t:=T,c:=dc,s:=kD,o:=dO,x:=dx}:Dp)]).length=j+1:=by rw[List.length_append,List.length_map,List.length_take];simp;omega
 rw[agJ,Qb.symm]at hc8;have VK:=(yh nb hnb (by omega) (by omega) (fun e=>by have:=(App.ou hG2.app e).2;omega)).trans hx7;refine ae @dz ?_;have eg:decide ((R.length:Int)<((R.length+1:Nat):Int))=true:=by rw[decide_eq_true_iff];omega
 have jP:=B7.ge Sm;have hG7:=hG2.ge Sm;have B0:App O8 O.next 10 tl:=jP.at D7 fun i e=>yh i (jP.ou e).2 (fun e2=>by have:=jP.tok e;rw[e2,hG7.cell]at this;cases this) (fun e2=>by have:=jP.tok e;rw[e2,hG7.map]at this;cases this) (fun e2=>Fw i e2 e)
 obtain⟨mE,fZ,kX⟩:=fR (n:=R.length) (cs:=R.flatMap dQ) (ds:=[.str k1,.str k2,.str k3,.str k4,.v (.bool false),.str F.v,.sl 0 [] .aq,.v (.int .i64 F.s),.v (.bool F.o),.sl F.x.length (F.x.flatMap bV) .aq]) (es:=dQ F) G7 Ld.1.1 B0 (aT nJ R) rfl rfl (by decide) (by omega) (by simp only[maxLen];omega) (wF R) (by subst Qn;exact Qw ⟨⟨k1,k2,k3,k4⟩,dv,max kD 1,dO==1,dx⟩);subst Qn;refine WC.sound aa (de @dz @hc8 @VK @eg ?_);refine VL.lh fZ kX ?_;refine ae @dz ?_;refine WC.sound aa (ao @dz @dd ?_);have MM:=cP.after B0
 have lF:O.Ge O8:=⟨by omega,fun i h1=>by
  rw[yh i (by omega) (by omega) (by omega) (fun e=>by have:=(App.ou hG7.app e).1;omega)];exact aiT.hp i h1⟩
 have hfm:(R++[(⟨⟨k1,k2,k3,k4⟩,dv,max kD 1,dO==1,dx⟩:oF)]).flatMap dQ=R.flatMap dQ++dQ ⟨⟨k1,k2,k3,k4⟩,dv,max kD 1,dO==1,dx⟩:=by simp only[List.flatMap_append,List.flatMap_cons,List.flatMap_nil,List.append_nil]
 have hfn:(R++[(⟨⟨k1,k2,k3,k4⟩,dv,max kD 1,dO==1,dx⟩:oF)]).length=R.length+1:=List.length_append;refine az.next (j+1,R++[⟨⟨k1,k2,k3,k4⟩,dv,max kD 1,dO==1,dx⟩],.own O8.next 10) ⟨aX,?_,cP.eo lF B0 MM,by have:=MM.next;omega,App.after (by omega),Mj++[(dW ⟨k1,k2,k3,k4⟩,.v (.bool true),cm)],cm+1,tk8,?_,?_,?_⟩ (hl:=(by dsimp only;rw[hfm,hfn];rfl))
 ·rw[hRn,hR]
 ·dsimp only;rw[MG];have ae7:∀i,Tok.id tl=some i->O8.hp i=some .tok:=fun i e=>B0.tok e
  refine⟨(MM.hp _ (by omega) (fun e=>by have:=ae7 _ e;rw[CE.cell]at this;cases this)).trans CE.cell,(MM.hp _ (by omega) (fun e=>by have:=ae7 _ e;rw[CE.map]at this;cases this)).trans CE.map,CE.ok,CE.app.at MM.next fun i e=>MM.hp i (CE.app.ou e).2 (fun e2=>by have h1:=aiU i e;have h2:=(jP.ou e2).2;omega),⟨by have:=MM.next;have:=CE.lt;omega,by have:=MM.next;have:=CE.lt;omega⟩,CE.ne⟩
 ·intro q hq';rcases List.mem_append.1 hq' with h | h
  ·exact hold q h
  ·rw[List.mem_singleton]at h;subst h;exact qw
 ·intro i e e2;injection e2 with e2;have:=(CE.app.ou e).2;omega
set_option linter.defProp false in
def cJ:=And.intro dz<|And.intro gH<|And.intro DZ<|And.intro G7<|And.intro Ld<|And.intro T31 aeq
theorem Qx (L:List oF) (tk:Tok) (O:VH) (hn:L.length<=100000):VF Tryz.prog 116 [.sl L.length (L.flatMap dQ) tk] O (aD fun m O'=>O.Ge O'/\GR O' 175 10 O.next m L.length (L.flatMap dQ)):=by
 have dK:=aT nJ L
 have gV:(L.flatMap dQ).all dJ=true:=by
  rw[List.all_flatMap,List.all_eq_true];intro p _;rfl
 refine VF.du 8 [.tmp 2] Tryz.func116 ?_;refine ao @cJ @nI ?_;refine VL.pq (p7 Tryz.underlying167 rfl) ?_;rintro _ O1 ⟨eO,b,rfl,hb⟩;rw[eO];clear eO O1
 refine WL.sound aa ?_;cases b
 ·refine ae @cJ ?_;refine VL.grow aa (.inl rfl) (te:=⟨_,10,_,_⟩) (B:=O.next) (n':=0) (L:=[]) (dx:=.slice 175) (p:=.sl 0 [] .full) (q:=.sl L.length (L.flatMap dQ) tk) (j:=L.length) (ds:=L.flatMap dQ) (.inl ⟨rfl,rfl,.inr rfl⟩) (by simp[yX,dK]) gV (by rw[G7];rfl) Ld.1.1 (by rw[G7];rfl) trivial (by dsimp only;omega) (by simp only[maxLen];omega) (Nat.le_refl _) rfl rfl rfl rfl ?_;intro m O' h1 h2 h3 h4;rw[Nat.zero_add,List.nil_append]at h1;refine ae @cJ ?_;exact⟨h3 rfl,h1⟩
 ·obtain⟨h0,h1⟩:=hb rfl;rw[h0,h1];refine ae @cJ ?_;exact⟨VH.Ge.refl _,.inl ⟨rfl,rfl,.inl rfl⟩⟩
theorem Qy (tk:Tok) (O:VH):VF Tryz.prog 118 [.sl 0 [] tk] O (aD fun m O'=>m= .sl 0 [] .aq/\O'=O):=by
 refine VF.Vt (Φ :=fun m O'=>(m= .sl 0 [] .full\/m= .sl 0 [] .nil)/\O'=O) ?_ fun m O' h=>⟨_,(by rcases h.1 with e | e<;>rw[e]<;>exact Wk.tok),rfl,h.2⟩
 refine VF.du 8 [.tmp 2] Tryz.func118 ?_;refine ao @cJ @nI ?_;refine VL.pq (p7 Tryz.underlying31 rfl) ?_;rintro _ O1 ⟨eO,b,rfl,hb⟩;rw[eO];clear eO O1
 refine WL.sound aa ?_;cases b
 ·refine ae @cJ ?_;refine VL.app (m:=.sl 0 [] .full) (O':=O) (by simp[gY,T31,aeq.1.1]) ?_ (ht:=aa) (hx:=rfl) (hy:=rfl);refine ae @cJ ?_;exact .inl trivial
 ·refine ae @cJ ?_;exact .inr trivial
structure Mdl where
 g:Gv
 pk:Bs
 props:List (Bs×Bs)
 Jd:List oF
def ly (m:Mdl):List MV:=bS m.g++[.str m.pk,.sl m.props.length (m.props.flatMap aY) .aq,.sl 0 [] .aq,.sl m.Jd.length (m.Jd.flatMap dQ) .aq]
theorem ads (m:Mdl) (O:VH) (hp:m.props.length<=10000) (hn:m.Jd.length<=10000) (hx:∀n∈m.Jd,n.x.length<=10000):VF Tryz.prog 89 [.agg (ly m)] O (aD fun r O'=>r= .agg (ly m)/\O.Ge O'):=by
 refine VF.fg ?_;obtain⟨⟨g1,g2,g3⟩,pk,P,L⟩:=m;dsimp only at hp hn hx;simp only[ly,bS,List.cons_append,List.nil_append];have dK:=aT nJ L;refine VF.bO 70 [.cell 2 169] Tryz.func89 ?_;refine VC.ag aa (ae @cJ ?_);refine VC.gen ?_;intro O1 e1;obtain⟨aM,c5,cS,cA⟩:=gk _ _ e1;clear e1;refine VC.bC ?_;refine VC.px [10,11,12,13,14] (O.next) (cS) ?_;intro X;refine ab.av 0 ?_;refine ae @cJ ?_;refine ab.sE (m:=.sl P.length (P.flatMap aY) .aq) 1 ?_ ?_
 ·exact eW @cJ
 simp only[aj];refine ab.av 3 ?_;refine ae @cJ ?_;refine ab.sE (m:=.sl 0 [] .aq) 4 ?_ ?_
 ·exact eW @cJ
 simp only[aj];refine ab.av 6 ?_;refine ae @cJ ?_;refine ab.sE (m:=.sl L.length (L.flatMap dQ) .aq) 7 ?_ ?_
 ·exact eW @cJ
 simp only[aj];have I6:(O1.set O.next (.obj X)).hp O.next=some (.obj X):=VH.an _ _ _;have gd:∀i,i≠O.next->(O1.set O.next (.obj X)).hp i=O1.hp i:=fun i h=>VH.ak _ _ h
 have iB:(O1.set O.next (.obj X)).next=O1.next:=rfl;generalize O1.set O.next (.obj X)=O2 at*;refine ab.call (i:=2) (EC P .aq O2 (by omega)) ?_;rintro _ O3 ⟨rfl,aJ⟩;simp only[aj];refine⟨aJ.at I6,?_⟩;refine ab.av 9 ?_;refine ae @cJ ?_;refine ab.call (i:=5) (P3 [] .aq O3 (by decide)) ?_;rintro _ O4 ⟨rfl,bg⟩;simp only[aj];refine⟨(aJ.trans bg).at I6,?_⟩;refine ab.call (i:=8) (Qx L .aq O4 (by omega)) ?_;rintro mN O5 ⟨bW,wT⟩;simp only[aj];have MN:=(aJ.trans bg).trans bW;refine⟨MN.at I6,?_⟩;refine ab.mT [(10,.one),(11,.av),(12,.one),(13,.av),(14,.one)] ?_;simp only[List.length_nil,List.flatMap_nil];have fl:=MN.at I6;have cV:=MN.at ((gd _ (by omega)).trans cA);have gu:=MN.next;have gO:∀i,i<O.next->O5.hp i=O.hp i:=fun i h=>(MN.hp i (by omega)).trans ((gd i (by omega)).trans (aM.hp i h))
 rcases wT with⟨h0,_,hp⟩ | ⟨k,c,rfl,zc,_,cL⟩
 ·obtain rfl:L=[]:=List.eq_nil_of_length_eq_zero h0;rcases hp with rfl | rfl
  ·refine ae @cJ ?_;refine VC.gen ?_;intro O6 e6;have n4:O6.hp O.next=some (.cells [.str g1,.str g2,.str g3,.str pk,.sl P.length (P.flatMap aY) .aq,.sl 0 [] .aq,.sl 0 [] .nil]):=by rw[e6];exact VH.an _ _ _
   have o0:∀i,i<O5.next->i≠O.next->O6.hp i=O5.hp i:=fun i h1 h2=>by rw[e6,VH.ak _ _ h2,VH.ak _ _ h2,VH.ak _ _ h2,VH.ak _ _ h2]
   have ov:O6.next=O5.next:=by rw[e6];rfl
   clear e6;have iK:=(o0 (O.next+1) (by omega) (by omega)).trans cV;refine VC.bJ [1,2] (fun _:Unit=>[.ptr O.next 0,.ptr (O.next+1) 0]) (fun _ O'=>O'=O6) ?_ ?_
   ·refine VC.ag aa (ao @cJ @n4 ?_);refine VC.aB ?_;refine VC.bP [20] [1,2,19] (fun _:Nat=>[mi 0]) (fun _ O'=>O'=O6) (fun x=>x) (0) ?_ ?_
    ·rfl
    rintro _ O7 e7;rw[e7];refine WC.sound aa (ae @cJ ?_);exact aA.mk () rfl
   rintro _ O7 e7;rw[e7];clear e7 O7;refine VC.bJ [1,2] (fun _:Unit=>[.ptr O.next 0,.ptr (O.next+1) 0]) (fun _ O'=>O'=O6) ?_ ?_
   ·refine VC.ag aa (ao @cJ @n4 ?_);refine VC.aB ?_;refine VC.bP [39] [1,2,38] (fun _:Nat=>[mi 0]) (fun _ O'=>O'=O6) (fun x=>x) (0) ?_ ?_
    ·rfl
    rintro _ O7 e7;rw[e7];refine WC.sound aa (ae @cJ ?_);exact aA.mk () rfl
   rintro _ O7 e7;rw[e7];clear e7 O7;refine WC.sound aa (aI @cJ @n4 @iK ?_);rw[fS];exact⟨rfl,by show _<=O6.next;omega,fun i h=>VH.sn ((o0 i (by omega) (by omega)).trans (gO i h))⟩
  ·refine ae @cJ ?_;refine VC.gen ?_;intro O6 e6;have n4:O6.hp O.next=some (.cells [.str g1,.str g2,.str g3,.str pk,.sl P.length (P.flatMap aY) .aq,.sl 0 [] .aq,.sl 0 [] .full]):=by rw[e6];exact VH.an _ _ _
   have o0:∀i,i<O5.next->i≠O.next->O6.hp i=O5.hp i:=fun i h1 h2=>by rw[e6,VH.ak _ _ h2,VH.ak _ _ h2,VH.ak _ _ h2,VH.ak _ _ h2]
   have ov:O6.next=O5.next:=by rw[e6];rfl
   clear e6;have iK:=(o0 (O.next+1) (by omega) (by omega)).trans cV;refine VC.bJ [1,2] (fun _:Unit=>[.ptr O.next 0,.ptr (O.next+1) 0]) (fun _ O'=>O'=O6) ?_ ?_
   ·refine VC.ag aa (ao @cJ @n4 ?_);refine VC.aB ?_;refine VC.bP [20] [1,2,19] (fun _:Nat=>[mi 0]) (fun _ O'=>O'=O6) (fun x=>x) (0) ?_ ?_
    ·rfl
    rintro _ O7 e7;rw[e7];refine WC.sound aa (ae @cJ ?_);exact aA.mk () rfl
   rintro _ O7 e7;rw[e7];clear e7 O7;refine VC.bJ [1,2] (fun _:Unit=>[.ptr O.next 0,.ptr (O.next+1) 0]) (fun _ O'=>O'=O6) ?_ ?_
   ·refine VC.ag aa (ao @cJ @n4 ?_);refine VC.aB ?_;refine VC.bP [39] [1,2,38] (fun _:Nat=>[mi 0]) (fun _ O'=>O'=O6) (fun x=>x) (0) ?_ ?_
    ·rfl
    rintro _ O7 e7;rw[e7];refine WC.sound aa (ae @cJ ?_);exact aA.mk () rfl
   rintro _ O7 e7;rw[e7];clear e7 O7;refine WC.sound aa (aI @cJ @n4 @iK ?_);rw[fS];exact⟨rfl,by show _<=O6.next;omega,fun i h=>VH.sn ((o0 i (by omega) (by omega)).trans (gO i h))⟩
 obtain⟨sp,hc,mO⟩:=cL.cells;have jY:=cL.lo;have P2:=cL.hi;have gM:=(aJ.trans bg).next;refine ae @cJ ?_;refine VC.gen ?_;intro O6 e6;have n4:O6.hp O.next=some (.cells [.str g1,.str g2,.str g3,.str pk,.sl P.length (P.flatMap aY) .aq,.sl 0 [] .aq,.bp k 0 L.length c]):=by rw[e6];exact VH.an _ _ _
 have o0:∀i,i<O5.next->i≠O.next->O6.hp i=O5.hp i:=fun i h1 h2=>by rw[e6,VH.ak _ _ h2,VH.ak _ _ h2,VH.ak _ _ h2,VH.ak _ _ h2]
 have ov:O6.next=O5.next:=by rw[e6];rfl
 clear e6;have iK:=(o0 (O.next+1) (by omega) (by omega)).trans cV;refine VC.bJ [1,2] (fun _:Unit=>[.ptr O.next 0,.ptr (O.next+1) 0]) (fun _ O'=>O'=O6) ?_ ?_
 ·refine VC.ag aa (ao @cJ @n4 ?_);refine VC.aB ?_;refine VC.bP [20] [1,2,19] (fun _:Nat=>[mi 0]) (fun _ O'=>O'=O6) (fun x=>x) (0) ?_ ?_
  ·rfl
  rintro _ O7 e7;rw[e7];refine WC.sound aa (ae @cJ ?_);exact aA.mk () rfl
 rintro _ O7 e7;rw[e7];clear e7 O7;have Be:=(o0 k (by omega) (by omega)).trans hc;refine VC.bJ [1,2] (fun _:Unit=>[.ptr O.next 0,.ptr (O.next+1) 0]) (fun _ O'=>O6.Ge O') ?_ ?_
 ·refine VC.ag aa (ao @cJ @n4 ?_);refine VC.aB ?_;refine VC.bP [39] [1,2,38] (fun j:Nat=>[mi j]) (fun j O'=>O6.Ge O'/\j<=L.length) (fun j=>L.length - j) (0) ?_ ?_
  ·exact⟨VH.Ge.refl _,Nat.zero_le _⟩
  rintro j O7 ⟨fc,hj⟩;by_cases aX:j<L.length;rotate_left
  ·obtain rfl:j=L.length:=by omega
   refine WC.sound aa (ae @cJ ?_);exact aA.mk () fc
  have Sn:=fc.at n4;have So:=(fc.hp k (by omega)).trans Be;have bA:(L.flatMap dQ++sp)[j*10+9]?=some (.sl L[j].x.length (L[j].x.flatMap bV) .aq):=jC nJ (List.getElem?_eq_getElem aX) rfl;have aaB:(L.flatMap dQ++sp)[j*10+6]?=some (.sl 0 [] .aq):=jC nJ (List.getElem?_eq_getElem aX) rfl;have hxj:=hx L[j] (List.getElem_mem aX);generalize L[j].x=X at*;generalize L.flatMap dQ++sp=C at*;have kh:=wE bA;have q_:=wE aaB;have IH:=(List.getElem?_eq_some_iff.1 bA).1;have dd:((j:Int)+1)=((j+1:Nat):Int):=by omega
  have tV:=fc.next;refine VC.ag aa (ae @cJ ?_);refine VC.ag aa (ae @cJ ?_);refine VC.bC (VC.aB ?_);refine VC.ag aa (ae @cJ ?_);refine VC.bC ?_;refine VC.CO [10,11,12] (O.next) (k) (Sn) (So) ?_ (hne:=(by omega));intro X1 X2;refine ab.av 0 ?_;refine ae @cJ ?_;refine ab.nX (m:=.bp k 0 L.length c) 1 (fun _ h=>h.1) (fun _ h=>h.1) ?_ ?_
  ·exact eW @cJ
  simp only[aj];refine ab.av 2 ?_;refine ae @cJ ?_;refine ab.av 3 ?_;refine ae @cJ ?_;refine ab.nX (m:=.bp k 0 L.length c) 4 (fun _ h=>h.1) (fun _ h=>h.1) ?_ ?_
  ·exact eW @cJ
  simp only[aj];refine ab.av 5 ?_;refine ae @cJ ?_;refine ab.av 6 ?_;refine ae @cJ ?_;refine ab.av 7 ?_;refine ae @cJ ?_;refine ab.nX (m:=.sl X.length (X.flatMap bV) .aq) 8 (fun _ h=>h.2) (fun _ h=>h.2) ?_ ?_
  ·exact c9 @cJ @bA
  simp only[aj];have ae8:LG O.next k X1 X2 ((O7.set O.next (.obj X1)).set k (.obj X2)):=⟨VH.sn (VH.an _ _ _),VH.an _ _ _⟩;have akf:((O7.set O.next (.obj X1)).set k (.obj X2)).next=O7.next:=rfl;have aiV:∀i,i≠O.next->i≠k->((O7.set O.next (.obj X1)).set k (.obj X2)).hp i=O7.hp i:=fun i h1 h2=>by rw[VH.ak _ _ h2,VH.ak _ _ h1]
  generalize (O7.set O.next (.obj X1)).set k (.obj X2)=O8 at*;refine ab.call (i:=9) (sS X .aq O8 (by omega)) ?_;rintro _ O9 ⟨rfl,I1⟩;have Sq:VH.Ge O8 O9:=by first | exact I1 | (rw[I1];exact VH.Ge.refl _)
  clear I1;simp only[aj];refine⟨⟨Sq.at ae8.1,Sq.at ae8.2⟩,?_⟩;refine ab.wo [(10,.av),(11,.av),(12,.one)] ?_ (hne:=(by omega));refine aI @cJ @bA @kh ?_;refine VC.gen ?_;intro fK aaC
  have Je:VH.Ge O7 fK:=by
   refine⟨by rw[aaC];show _<=VH.next O9;have:=Sq.next;omega,fun i h=>?_⟩;rw[aaC];by_cases e1:i=k
   ·subst e1;first | (rw[VH.an];exact So.symm) | (rw[VH.an];exact So.symm)
   ·by_cases e2:i=O.next
    ·subst e2;first | (rw[VH.ak _ _ e1,VH.ak _ _ e1,VH.an];exact Sn.symm) | (rw[VH.ak _ _ e1,VH.an];exact Sn.symm)
    ·first | rw[VH.ak _ _ e1,VH.ak _ _ e1,VH.ak _ _ e2] | rw[VH.ak _ _ e1,VH.ak _ _ e2]
     exact(Sq.hp i (by omega)).trans (aiV i e2 e1)
  clear aaC;have Qz:=Je.at Sn;have QA:=(Je.hp k (by omega)).trans So;have ajQ:=Je.next;refine VC.CO [11,12,13,14] (O.next) (k) (Qz) (QA) ?_ (hne:=(by omega));intro X3 X4;refine ab.av 0 ?_;refine ae @cJ ?_;refine ab.nX (m:=.bp k 0 L.length c) 1 (fun _ h=>h.1) (fun _ h=>h.1) ?_ ?_
  ·exact eW @cJ
  simp only[aj];refine ab.av 2 ?_;refine ae @cJ ?_;refine ab.av 3 ?_;refine ae @cJ ?_;refine ab.nX (m:=.bp k 0 L.length c) 4 (fun _ h=>h.1) (fun _ h=>h.1) ?_ ?_
  ·exact eW @cJ
  simp only[aj];refine ab.av 5 ?_;refine ae @cJ ?_;refine ab.av 6 ?_;refine ae @cJ ?_;refine ab.av 7 ?_;refine ae @cJ ?_;refine ab.av 8 ?_;refine ae @cJ ?_;refine ab.nX (m:=.sl 0 [] .aq) 9 (fun _ h=>h.2) (fun _ h=>h.2) ?_ ?_
  ·exact c9 @cJ @aaB
  simp only[aj];have aaD:LG O.next k X3 X4 ((fK.set O.next (.obj X3)).set k (.obj X4)):=⟨VH.sn (VH.an _ _ _),VH.an _ _ _⟩;have ajR:((fK.set O.next (.obj X3)).set k (.obj X4)).next=fK.next:=rfl;have agK:∀i,i≠O.next->i≠k->((fK.set O.next (.obj X3)).set k (.obj X4)).hp i=fK.hp i:=fun i h1 h2=>by rw[VH.ak _ _ h2,VH.ak _ _ h1]
  generalize (fK.set O.next (.obj X3)).set k (.obj X4)=uc at*;refine ab.call (i:=10) (Qy .aq uc) ?_;rintro _ V1 ⟨rfl,I1⟩;have Jf:VH.Ge uc V1:=by first | exact I1 | (rw[I1];exact VH.Ge.refl _)
  clear I1;simp only[aj];refine⟨⟨Jf.at aaD.1,Jf.at aaD.2⟩,?_⟩;refine ab.wo [(11,.av),(12,.av),(13,.av),(14,.one)] ?_ (hne:=(by omega));refine aI @cJ @aaB @q_ ?_;refine VC.gen ?_;intro O13 aaE
  have agL:VH.Ge fK O13:=by
   refine⟨by rw[aaE];show _<=VH.next V1;have:=Jf.next;omega,fun i h=>?_⟩;rw[aaE];by_cases e1:i=k
   ·subst e1;first | (rw[VH.an];exact QA.symm) | (rw[VH.an];exact QA.symm)
   ·by_cases e2:i=O.next
    ·subst e2;first | (rw[VH.ak _ _ e1,VH.ak _ _ e1,VH.an];exact Qz.symm) | (rw[VH.ak _ _ e1,VH.an];exact Qz.symm)
    ·first | rw[VH.ak _ _ e1,VH.ak _ _ e1,VH.ak _ _ e2] | rw[VH.ak _ _ e1,VH.ak _ _ e2]
     exact(Jf.hp i (by omega)).trans (agK i e2 e1)
  clear aaE;refine WC.sound aa (ao @cJ @dd ?_);exact az.next (j+1) ⟨(fc.trans Je).trans agL,aX⟩
 rintro _ O9 bn;have hx9:=bn.at n4;have bD:=bn.at iK;have I0:=(bn.hp k (by omega)).trans Be;have EJ:=bn.next;have Bg:∀i,i<O.next->O9.hp i=O.hp i:=fun i h=>(bn.hp i (by omega)).trans ((o0 i (by omega) (by omega)).trans (gO i h))
 refine VC.wm (A:=[.str g1,.str g2,.str g3,.str pk,.sl P.length (P.flatMap aY) .aq,.sl 0 [] .aq]) (E:=[]) (sz:=L.length*10) I0 hx9 (by omega) (by rw[List.length_append,dK];omega) ?_;have eb:((L.flatMap dQ++sp).drop 0).take (L.length*10)=L.flatMap dQ:=by rw[List.drop_zero,List.take_append_of_le_length (by rw[dK];exact Nat.le_refl _), <-dK,List.take_length]
 rw[eb];refine VC.gen ?_;intro fK rN;have aiW:fK.hp O.next=some (.cells [.str g1,.str g2,.str g3,.str pk,.sl P.length (P.flatMap aY) .aq,.sl 0 [] .aq,.sl L.length (L.flatMap dQ) .aq]):=by rw[rN];exact VH.an _ _ _
 have HG:fK.hp (O.next+1)=_:=(by rw[rN,VH.ak _ _ (by omega),VH.kC _ (by omega)]:fK.hp (O.next+1)=O9.hp (O.next+1)).trans bD;have Ah:∀i,i<O.next->fK.hp i=O.hp i:=fun i h=>(by rw[rN,VH.ak _ _ (by omega),VH.kC _ (by omega)]:fK.hp i=O9.hp i).trans (Bg i h)
 have Hd:fK.next=O9.next:=by rw[rN];rfl
 clear rN;refine WC.sound aa (aI @cJ @aiW @HG ?_);rw[fS,wF];exact⟨rfl,by show _<=fK.next;omega,fun i h=>VH.sn (Ah i h)⟩
structure QB (O:VH) (bb md k:Nat) (MD:fj) (cm:Nat):Prop where
 cell:O.hp bb=some (.cells [.ptr k 0,.map md])
 map:O.hp md=some (.map (cG MD) cm)
 ok:nU 3 MD
 lt:bb<O.next/\md<O.next
theorem QB.ge {O O':VH} {bb md k:Nat} {MD:fj} {cm:Nat} (h:QB O bb md k MD cm) (g:O.Ge O'):QB O' bb md k MD cm:=
 ⟨(g.hp _ h.lt.1).trans h.cell,(g.hp _ h.lt.2).trans h.map,h.ok,Nat.lt_of_lt_of_le h.lt.1 g.next,Nat.lt_of_lt_of_le h.lt.2 g.next⟩
def CF (s:Bs):Bs:=if s=[]then qF else s
def ir (g:Gv) (p:Pm):Mdl:=⟨g,CF p.pk,gT p,p.ec.map ff⟩
structure PmQ (p:Pm) (g:Gv):Prop where
 c:PmC p
 gg:p.g=g.g
 ga:p.a=g.a
 gv:p.v=g.v
 tg:gE g.g
 ta:gE g.a
 tv:gE g.v
 tp:gE p.pk
 pi:eS (CF p.pk)=true
 props:p.props=[]
 eu:p.eu=[]
 ec:∀d∈p.ec,Qt d
 len:p.ec.length<=900
 keys:p.ec.Pairwise fun x y=>iq (di x)≠iq (di y)
end Go.Proofs.YtoclnkfdahmnhaaGreatDoor
