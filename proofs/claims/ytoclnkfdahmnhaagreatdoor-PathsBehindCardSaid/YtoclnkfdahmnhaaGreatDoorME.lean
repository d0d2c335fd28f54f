import Derived.Test.YtoclnkfdahmnhaaGreatDoorMD
set_option linter.unusedVariables false
set_option linter.unusedSimpArgs false
namespace Go.Proofs.YtoclnkfdahmnhaaGreatDoor
open Go.RowKit
open _root_.List renaming length_append → Kn, length_nil → RZ, length_cons → XN, nil_append → XO, mem_singleton → acs, cons_append → acu, getElem?_eq_some_iff → acv, mem_of_getElem? → acw, getElem?_eq_getElem → agr, length_map → ags, mem_iff_getElem → agt, length_take → agu, flatMap_nil → agv, mem_append → agx, take_length → ahY, take_append_of_le_length → ahZ, getElem?_map → ah0, mem_cons → ah4, pairwise_iff_getElem → ah5, getElem_mem → ah7, flatMap_append → akF, eq_nil_of_length_eq_zero → alC, getElem?_append_right → alD, mem_of_find?_eq_some → alE, map_append → alF, map_map → alH, append_assoc → alI, any_eq_false → alJ, getElem_take → alK, mem_append_right → alL, mem_cons_of_mem → alM, getElem?_append → alN, getElem?_modify → alO, flatMap_cons → alP, getElem?_append_left → alQ, ext_getElem? → alR, not_mem_nil → alS, mem_map → alT, drop_zero → alW
open _root_.Nat renaming lt_of_lt_of_le → Km, le_refl → TP, zero_le → agw, zero_add → ahX, le_trans → ah1, le_succ → ah3, lt_succ_self → ah6, mul_one → alV
open _root_.And renaming intro → yP
open _root_.Option renaming map_eq_some_iff → ah2, map_some → alG
set_option maxRecDepth 10000
structure PS where
 st:List (Bs×List (Bs×Bs)×List Nd)
 b9:Nat
 dn:Bool
 tx:Bool
 z:Nd
def np (s:Bs) (p:PS):Except Int PS:=
 match p.st with
 | []=>if trimB s=[]then .ok p else .error 16
 | (n,a,K)::R=>
   if s=[]then .ok p
   else if p.tx then match K.getLast? with
    | some (.mk _ _ _ t)=>.ok {p with st:=(n,a,K.dropLast++[tK (t++s)])::R}
    | none=>.ok p
   else if 4096<p.b9+1 then .error 2
   else .ok {p with st:=(n,a,K++[tK s])::R,b9:=p.b9+1,tx:=true}
def sf (nm:Bs) (fM:List (Bs×Bs)) (p:PS):Except Int PS:=
 if p.dn then .error 16 else if 64<=p.st.length then .error 2 else if 4096<p.b9+1 then .error 2
 else .ok {p with st:=(nm,fM,[])::p.st,b9:=p.b9+1,tx:=false}
def tq (p:PS):PS:=
 match p.st with
 | []=>p
 | [(n,a,K)]=>{p with st:=[],dn:=true,tx:=false,z:=.mk n a K []}
 | (n,a,K)::(n2,a2,K2)::R=>{p with st:=(n2,a2,K2++[.mk n a K []])::R,dn:=false,tx:=false}
def kz (x:Tk) (p:PS):Except Int PS:=
 if x.kind=4 then np x.text p
 else if x.kind=1 then sf x.name x.attrs p
 else if x.kind=2 then(match sf x.name x.attrs p with
  | .error e=>.error e
  | .ok q=>.ok (tq q))
 else if x.kind=3 then(match p.st with
  | []=>.error 16
  | f::_=>if f.1=x.name then .ok (tq p)else .error 14)
 else .ok p
def jx:List Tk->PS->Except (Int×Nat) PS
 | [],p=>.ok p
 | x::l,p=>match kz x p with
   | .error e=>.error (e,x.off)
   | .ok q=>jx l q
def p0:PS:=⟨[],0,false,false,Qo⟩
def ie (t:Bs):Except (Int×Nat) Nd:=
 match ua t with
 | .error e=>.error e
 | .ok l=>match jx l p0 with
   | .error e=>.error e
   | .ok p=>if p.st≠[]then .error (13,t.length)else if p.dn then .ok p.z else .error (16,t.length)
def Fm:List (Bs×List (Bs×Bs)×List Nd)->Nat
 | []=>0
 | f::R=>1+f.1.length+jo f.2.1+j4 f.2.2+Fm R
def GB (p:PS):Nat:=Fm p.st+if p.dn then kJ p.z else 0
structure kW (p:PS) (L:Nat):Prop where
 b9:p.b9<=4096
 len:p.st.length<=64
 L3:p.tx=true->∃n a K t R,p.st=(n,a,K++[tK t])::R
 wt:GB p<=L+p.b9
theorem wW (K M:List Nd):j4 (K++M)=j4 K+j4 M:=by
 induction K with
 | nil=>rw[XO,j4,ahX]
 | cons x K ih=>rw[acu,j4,j4,ih];omega
theorem SX (t:Bs):kJ (tK t)=1+t.length:=by rw[tK,Ap,jo,j4];simp
theorem kW.more {p:PS} {L L':Nat} (h:kW p L) (hl:L<=L'):kW p L':=⟨h.b9,h.len,h.L3,by have:=h.wt;omega⟩
theorem Wx {s:Bs} {p q:PS} {L:Nat} (h:kW p L) (e:np s p= .ok q):kW q (L+s.length):=by
 unfold np at e;obtain⟨st,b9,dn,tx,z⟩:=p;obtain⟨h2,h3,h4,h5⟩:=h;dsimp only at e h2 h3 h4 h5;cases st with
 | nil=>
   dsimp only at e;split at e
   ·injection e with e;subst e;exact kW.more ⟨h2,h3,h4,h5⟩ (Nat.le_add_right _ _)
   ·cases e
 | cons f R=>
   obtain⟨n,a,K⟩:=f;dsimp only at e;split at e
   ·injection e with e;subst e;exact kW.more ⟨h2,h3,h4,h5⟩ (Nat.le_add_right _ _)
   split at e
   ·rename_i ht;obtain⟨n',a',K',t,R',he⟩:=h4 ht;injection he with he1 he2;injection he1 with e1 e2;injection e2 with e2 e3
    subst e1;subst e2;subst e3;subst he2
    rw[List.getLast?_concat,List.dropLast_concat]at e;dsimp only[tK]at e;injection e with e;subst e
    refine⟨h2,h3,fun _=>⟨_,_,_,_,_,rfl⟩,?_⟩
    ·simp only[GB,Fm,wW,j4,SX]at h5 ⊢;have e6:kJ (Nd.mk [] [] [] (t++s))=1+(t++s).length:=SX _;rw[e6,Kn];omega
   split at e
   ·cases e
   ·injection e with e;subst e
    refine⟨by dsimp only;omega,h3,fun _=>⟨_,_,_,_,_,rfl⟩,?_⟩
    ·simp only[GB,Fm,wW,j4,SX]at h5 ⊢;omega
theorem Fo {nm:Bs} {fM:List (Bs×Bs)} {p q:PS} {L:Nat} (h:kW p L) (e:sf nm fM p= .ok q):kW q (L+nm.length+jo fM)/\q.st=(nm,fM,[])::p.st:=by
 unfold sf at e;split at e
 ·cases e
 split at e
 ·cases e
 split at e
 ·cases e
 ·injection e with e;subst e
  rename_i hd EA hc;refine⟨⟨by dsimp only;omega,by simp only[XN];omega,(fun e=>by cases e),?_⟩,rfl⟩
  ·have h5:=h.wt;simp only[GB,Fm,j4,hd]at h5 ⊢;omega
theorem MZ {p:PS} {L:Nat} (h:kW p L):kW (tq p) L:=by
 unfold tq;split
 ·exact h
 ·rename_i n a K hs;obtain⟨h2,h3,h4,h5⟩:=h;refine⟨h2,agw _,(fun e=>by cases e),?_⟩;simp only[GB,Fm,hs,Ap]at h5 ⊢;simp;omega
 ·rename_i n a K n2 a2 K2 R hs;obtain⟨h2,h3,h4,h5⟩:=h;refine⟨h2,by rw[hs]at h3;simp only[XN]at h3 ⊢;omega,(fun e=>by cases e),?_⟩;simp only[GB,Fm,hs,wW,j4,Ap]at h5 ⊢;simp;omega
def AH (x:Tk):Nat:=x.name.length+jo x.attrs+x.text.length
theorem H0 {x:Tk} {p q:PS} {L:Nat} (h:kW p L) (e:kz x p= .ok q):kW q (L+AH x):=by
 unfold kz at e;unfold AH;split at e
 ·exact(Wx h e).more (by omega)
 split at e
 ·exact(Fo h e).1.more (by omega)
 split at e
 ·split at e
  ·cases e
  ·rename_i q' hq;injection e with e;subst e
   exact(MZ (Fo h hq).1).more (by omega)
 split at e
 ·split at e
  ·cases e
  ·split at e
   ·injection e with e;subst e;exact(MZ h).more (by omega)
   ·cases e
 ·injection e with e;subst e;exact h.more (by omega)
theorem M0 {n:Bs} {a:List (Bs×Bs)} {K:List Nd} {R:List (Bs×List (Bs×Bs)×List Nd)} {p:PS} {L:Nat} (h:kW p L) (hm:(n,a,K)∈p.st):K.length<=L+4096:=by
 have h5:=h.wt;have h2:=h.b9;have hk:=Bx K;unfold GB at h5
 have:∀st:List (Bs×List (Bs×Bs)×List Nd),(n,a,K)∈st->j4 K<=Fm st:=by
  intro st;induction st with
  | nil=>intro h;cases h
  | cons f R ih=>
    intro h;rw[Fm];rcases ah4.1 h with rfl | h
    ·dsimp only;omega
    ·have:=ih h;omega
 have:=this _ hm;omega
theorem wX {nm:Bs} {fM:List (Bs×Bs)} {p:PS} {e:Int} (h:sf nm fM p= .error e):e=16\/e=2:=by
 unfold sf at h;split at h
 ·injection h with h;exact .inl h.symm
 split at h
 ·injection h with h;exact .inr h.symm
 split at h
 ·injection h with h;exact .inr h.symm
 ·cases h
theorem QU {s:Bs} {p:PS} {e:Int} (h:np s p= .error e):e=16\/e=2:=by
 unfold np at h;split at h
 ·split at h
  ·cases h
  ·injection h with h;exact .inl h.symm
 ·split at h
  ·cases h
  split at h
  ·split at h<;>cases h
  split at h
  ·injection h with h;exact .inr h.symm
  ·cases h
theorem QV {x:Tk} {p:PS} {e:Int} (h:kz x p= .error e):e=16\/e=2\/e=14:=by
 unfold kz at h;split at h
 ·exact(QU h).imp id .inl
 split at h
 ·exact(wX h).imp id .inl
 split at h
 ·split at h
  ·rename_i h2;injection h with h;subst h
   exact(wX h2).imp id .inl
  ·cases h
 split at h
 ·split at h
  ·injection h with h;exact .inl h.symm
  ·split at h
   ·cases h
   ·injection h with h;exact .inr (.inr h.symm)
 ·cases h
def BP (O:VH) (B k:Nat) (U:List Nat) (p:PS):Prop:=∃R tk,BS O B k R tk p.b9 p.dn p.tx (dh p.z)/\rD R=p.st/\∀x∈dF k R tk,x∈U
theorem BP.ge {O O':VH} {B k:Nat} {U:List Nat} {p:PS} (h:BP O B k U p) (g:O.Ge O'):BP O' B k U p:=by
 obtain⟨R,tk,h1,h2,h3⟩:=h;exact⟨R,tk,h1.ge g,h2,h3⟩
def Sp (O O':VH) (B k:Nat) (U:List Nat) (q:PS):Prop:=∃U',(∀x∈U',x∈U\/O.next<=x)/\BP O' B k U' q
theorem Kp.SY {O O':VH} {S U:List Nat} (h:Kp O O' S) (hs:∀x∈S,x∈U):Kp O O' U:=h.sub fun x hx=>.inl (hs x hx)
theorem Sp.refl {O:VH} {B k:Nat} {U:List Nat} {q:PS} (h:BP O B k U q):Sp O O B k U q:=⟨U,fun _ h=>.inl h,h⟩
theorem Sp.trans {O O1 O2:VH} {B k:Nat} {U U1:List Nat} {q:PS} (hl:O.next<=O1.next) (h1:∀x∈U1,x∈U\/O.next<=x) (h:Sp O1 O2 B k U1 q):Sp O O2 B k U q:=by
 obtain⟨U2,h2,h3⟩:=h;exact⟨U2,fun x hx=>(h2 x hx).elim (h1 x) fun e=>.inr (by omega),h3⟩
theorem aaH {O:VH} {B k:Nat} {U:List Nat} {p:PS} {L:Nat} (h:BP O B k U p) (hp:kW p L) (hL:L<=100000) (s:Bs) (hs:s.length<=1000000):
  VF Tryz.prog 266 [.ptr k 0,.str s] O (aE fun m O'=>Kp O O' U/\match np s p with
   | .error e=>m=mi e
   | .ok q=>m=mi 0/\Sp O O' B k U q):=by
 obtain⟨R,tk,hb,hR,hU⟩:=h;obtain⟨st,b9,dn,tx,z⟩:=p;dsimp only at hb hR;subst hR;have hlen:=hp.len;dsimp only[rD]at hlen;rw[ags]at hlen;have ajo:b9<=4096:=hp.b9;cases R with
 | nil=>
   refine VF.mono ?_ (MT hb s (by simp only[maxLen];omega));rintro(m | m) O' hr
   ·obtain⟨rfl,rfl⟩:=hr;refine⟨Kp.refl,?_⟩;have e5:np s ⟨rD [],b9,dn,tx,z⟩=if trimB s=[]then .ok ⟨[],b9,dn,tx,z⟩else .error 16:=rfl
    rw[e5];by_cases h2:trimB s=[]
    ·rw[if_pos h2,if_pos h2];exact⟨rfl,Sp.refl ⟨[],tk,hb,rfl,hU⟩⟩
    ·rw[if_neg h2,if_neg h2]
   ·exact hr.elim
 | cons r R=>
   simp only[XN]at hlen
   have kj:r.kids.length<=1000000:=by
    have:=M0 (R:=[]) hp (List.mem_cons_self (a:=(r.name,r.attrs,r.kids)) (l:=rD R));omega
   by_cases Uv:s=[]
   ·subst Uv;refine VF.mono ?_ (MU hb (by omega));rintro(m | m) O' hr
    ·obtain⟨rfl,rfl⟩:=hr;exact⟨Kp.refl,rfl,Sp.refl ⟨r::R,tk,hb,rfl,hU⟩⟩
    ·exact hr.elim
   have hne:(s==[])=false:=by cases s<;>simp at Uv ⊢
   cases tx with
   | true=>
     obtain⟨n,a,K,t,R',he⟩:=hp.L3 rfl;have he:(r.name,r.attrs,r.kids)::rD R=(n,a,K++[tK t])::R':=he;injection he with he1 he2;injection he1 with e1 e2;injection e2 with e2 e3
     have ht:t.length<=1000000:=by
      have h5:=hp.wt;have e4:rD (r::R)=(r.name,r.attrs,r.kids)::rD R:=rfl;simp only[GB,e4,Fm,e3,wW,j4,SX]at h5;omega
     refine VF.mono ?_ (MW hb (by omega) s t K (by omega) e3 (by omega) kj hne);rintro(m | m) O' hr
     ·obtain⟨rfl,h1,h2⟩:=hr;refine⟨h1.SY hU,?_⟩
      have e5:np s ⟨rD (r::R),b9,dn,true,z⟩= .ok ⟨(r.name,r.attrs,K++[tK (t++s)])::rD R,b9,dn,true,z⟩:=by
       unfold np;show(if s=[]then _ else _)=_;rw[if_neg Uv,if_pos rfl,e3,List.getLast?_concat,List.dropLast_concat];rfl
      rw[e5];exact⟨rfl,U,fun _ h=>.inl h,_,tk,h2,rfl,hU⟩
     ·exact hr.elim
   | false=>
     refine VF.mono ?_ (MX hb (by omega) (by omega) s (by omega) kj hne);rintro(m | m) O' hr
     ·obtain⟨h1,hr⟩:=hr;refine⟨h1.SY hU,?_⟩
      have e5:np s ⟨rD (r::R),b9,dn,false,z⟩=if 4096<b9+1 then .error 2 else .ok ⟨(r.name,r.attrs,r.kids++[tK s])::rD R,b9+1,dn,true,z⟩:=by
       unfold np;show(if s=[]then _ else _)=_;rw[if_neg Uv,if_neg (by simp)];rfl
      rw[e5];by_cases hc:4096<b9+1
      ·rw[decide_eq_true hc]at hr;rw[if_pos hc];exact hr
      ·rw[decide_eq_false hc]at hr;rw[if_neg hc];obtain⟨rfl,q',h2,h3⟩:=hr;refine⟨rfl,dF k ({r with kids:=r.kids++[tK s],q:=q'}::R) tk,fun x hx=>?_,_,tk,h2,rfl,fun _ h=>h⟩;have hx:x∈k::((r.b::R.map (·.b))++(gid q').toList++(Tok.id tk).toList):=hx;simp only[ah4,agx]at hx;rcases hx with rfl | ((rfl | hx) | hx) | hx
       ·exact .inl (hU _ ni)
       ·exact .inl (hU _ pc)
       ·obtain⟨g,hg,rfl⟩:=alT.1 hx;exact .inl (hU _ (AF (alM _ hg)))
       ·rcases h3 x (by simpa using hx)with e | e
        ·exact .inl (hU _ (nj e))
        ·exact .inr e
       ·exact .inl (hU _ (Dq (by simpa using hx)))
     ·exact hr.elim
theorem SZ {O:VH} {B k:Nat} {U:List Nat} {p:PS} {L:Nat} (h:BP O B k U p) (hp:kW p L) (hL:L<=100000) (kd:Int) (nm tt:Bs) (fM:List (Bs×Bs)) (p1 p2 p3:Int) (HZ:fM.length<=100000):
  VF Tryz.prog 267 [.ptr k 0,.agg [mi kd,.str nm,.sl fM.length (fM.flatMap bh) .ar,.str tt,mi p1,mi p2,mi p3]] O (aE fun m O'=>Kp O O' U/\match sf nm fM p with
   | .error e=>m=mi e
   | .ok q=>m=mi 0/\Sp O O' B k U q):=by
 obtain⟨R,tk,hb,hR,hU⟩:=h;obtain⟨st,b9,dn,tx,z⟩:=p;dsimp only at hb hR;subst hR;have ajo:b9<=4096:=hp.b9
 have kj:∀r∈R,r.kids.length<=1000000:=fun r hr=>by
  have:=M0 hp (show(r.name,r.attrs,r.kids)∈rD R from alT.2 ⟨r,hr,rfl⟩) (R:=[]);omega
 refine VF.mono ?_ (aaC hb (by omega) kd nm tt fM p1 p2 p3 HZ kj);have hl:(rD R).length=R.length:=by unfold rD;rw[ags]
 rintro(m | m) O' hr
 ·obtain⟨h1,hr⟩:=hr;refine⟨h1.SY hU,?_⟩;unfold sf;unfold qP at hr;dsimp only;rw[hl];cases dn
  ·rw[if_neg (by simp)]at hr ⊢;by_cases EA:64<=R.length
   ·rw[if_pos EA]at hr ⊢;exact hr
   ·rw[if_neg EA]at hr ⊢;by_cases hc:4096<b9+1
    ·rw[if_pos hc]at hr ⊢;exact hr
    ·rw[if_neg hc]at hr ⊢;obtain⟨rfl,R',tk',h2,h3,h4⟩:=hr;exact⟨rfl,dF k R' tk',fun x hx=>(h4 x hx).imp (hU x) id,R',tk',h2,h3,fun _ h=>h⟩
  ·rw[if_pos rfl]at hr ⊢;exact hr
 ·exact hr.elim
theorem S0 {O:VH} {B k:Nat} {U:List Nat} {p:PS} {L:Nat} (h:BP O B k U p) (hp:kW p L) (hne:p.st≠[]):
  VF Tryz.prog 268 [.ptr k 0] O (aE fun _ O'=>Kp O O' U/\BP O' B k U (tq p)):=by
 obtain⟨R,tk,hb,hR,hU⟩:=h;obtain⟨st,b9,dn,tx,z⟩:=p;dsimp only at hb hR hne;subst hR;have hlen:=hp.len;dsimp only[rD]at hlen;rw[ags]at hlen;cases R with
 | nil=>exact absurd rfl hne
 | cons r R=>
   refine VF.mono ?_ (adQ hb (by simp only[XN]at hlen;omega));rintro(m | m) O' hr
   ·obtain⟨h1,h2⟩:=hr;refine⟨h1.SY hU,?_⟩;have afu:=Ww (tk:=tk) hb.c;cases R with
    | nil=>exact⟨[],_,h2,rfl,fun x hx=>hU x (afu x hx)⟩
    | cons g R=>exact⟨_,_,h2,rfl,fun x hx=>hU x (afu x hx)⟩
   ·exact hr.elim
theorem Wz {O:VH} {B k:Nat} {U:List Nat} {p:PS} {L:Nat} (h:BP O B k U p) (hp:kW p L) (hU:∀x∈U,x<O.next) (t:Bs) (x:Tk) (hL:L+AH x<=100000) (uC:1<=x.kind/\x.kind<=6):
  VF Tryz.prog 245 [.ptr k 0,.agg (uk t x)] O (aE fun m O'=>Kp O O' U/\match kz x p with
   | .error e=>m=mi e
   | .ok q=>m=mi 0/\Sp O O' B k U q):=by
 have HZ:x.attrs.length<=100000:=by
  have:∀a:List (Bs×Bs),a.length<=jo a:=by
   intro a;induction a with
   | nil=>exact agw _
   | cons y a ih=>rw[jo,XN];omega
  have:=this x.attrs;unfold AH at hL;omega
 have uZ:x.text.length<=100000:=by unfold AH at hL;omega
 have hLL:L<=100000:=by omega
 have hS:kz x p=if x.kind=4 then np x.text p else if x.kind=1 then sf x.name x.attrs p else if x.kind=2 then(match sf x.name x.attrs p with
  | .error e=>.error e
  | .ok q=>.ok (tq q))else if x.kind=3 then(match p.st with
  | []=>.error 16
  | f::_=>if f.1=x.name then .ok (tq p)else .error 14)else .ok p:=rfl
 rw[hS];clear hS;have hW:x.name.length+jo x.attrs<=AH x:=by unfold AH;omega
 generalize AH x=W at*;unfold uk;obtain⟨kd,nm,fM,tt,off⟩:=x;dsimp only at HZ uZ uC hW ⊢;generalize ((me t off:Nat):Int)=p2 at*;generalize Fc t off=p3 at*;generalize ((off:Nat):Int)=p1 at*;simp only[aq];refine VF.bN 50 [.tmp 4] Tryz.func245 ?_;refine VC.ag aa (ae @aD ?_);refine VC.bx ?_;rintro O1 ⟨aM,C4,cW⟩;have h1:=h.ge aM;have jw:Kp O O1 U:=Kp.ge aM;have AI:∀x∈U,x∈U\/O.next<=x:=fun _ h=>.inl h
 have hnU:O.next ∉ U:=fun hm=>by have:=hU _ hm;omega
 rcases(show kd=4\/kd=1\/kd=2\/kd=3\/kd=5\/kd=6 by omega)with rfl | rfl | rfl | rfl | rfl | rfl
 all_goals simp only[Int.reduceEq,if_true,if_false,reduceIte]
 ·refine VC.ag aa (ao @aD @C4 ?_);refine ah.rt (aaH h1 hp hLL tt (by omega)) ?_;rintro m O2 ⟨hl,hm⟩;generalize np tt p=F at hm ⊢;cases F with
  | error e=>
    dsimp only at hm;subst hm
    refine ae @aD ?_;exact jw.more hl AI
  | ok q=>
    obtain⟨rfl,hq⟩:=hm;refine ae @aD ?_;exact⟨jw.more hl AI,hq.trans aM.next AI⟩
 ·refine VC.ag aa (ao @aD @C4 ?_);refine ah.rt (SZ h1 hp hLL 1 nm tt fM p1 p2 p3 HZ) ?_;rintro m O2 ⟨hl,hm⟩;have Fj:=(hl.2 O.next (by omega) hnU).trans C4;cases hF:sf nm fM p with
  | error e=>
    rw[hF]at hm;dsimp only at hm;subst hm
    rcases wX hF with rfl | rfl
    ·refine aJ @aD @Fj @aq ?_;exact jw.more hl AI
    ·refine aJ @aD @Fj @aq ?_;exact jw.more hl AI
  | ok q=>
    rw[hF]at hm;obtain⟨rfl,hq⟩:=hm;refine ao @aD @Fj ?_;exact⟨jw.more hl AI,hq.trans aM.next AI⟩
 ·refine VC.ag aa (ao @aD @C4 ?_);refine ah.rt (SZ h1 hp hLL 2 nm tt fM p1 p2 p3 HZ) ?_;rintro m O2 ⟨hl,hm⟩;have Fj:=(hl.2 O.next (by omega) hnU).trans C4;cases hF:sf nm fM p with
  | error e=>
    rw[hF]at hm;dsimp only at hm;subst hm
    rcases wX hF with rfl | rfl
    ·refine aJ @aD @Fj @aq ?_;exact jw.more hl AI
    ·refine aJ @aD @Fj @aq ?_;exact jw.more hl AI
  | ok q=>
    rw[hF]at hm;obtain⟨rfl,U2,hU2,hq⟩:=hm;obtain⟨cK,dd⟩:=Fo hp hF;refine ao @aD @Fj ?_;refine ah.rt (S0 hq cK (by rw[dd];simp)) ?_;rintro m O3 ⟨lW,vJ⟩;refine ae @aD ?_;have afv:∀x∈U2,x∈U\/O.next<=x:=fun x hx=>(hU2 x hx).imp id fun e=>by have:=aM.next;omega
    exact⟨(jw.more hl AI).more lW afv,U2,afv,vJ⟩
 ·obtain⟨R,tk,hb,hR,hUo⟩:=h1;have dY:=hb.c.cells;obtain⟨a0,a1,a2,a3,hr⟩:=qO (eU R (dh p.z) hb.c.zl);unfold o_ at dY;rw[hr]at dY;simp only[aq,a_,acu,XO]at dY
  have QT:R.length<=64:=by
   have:=hp.len;rw[<-hR]at this;unfold rD at this;rw[ags]at this;exact this
  cases R with
  | nil=>
    have dd:p.st=[]:=hR.symm;rw[dd];dsimp only;refine VC.ag aa (c_ @aD @C4 @dY @RZ.{0} ?_);exact jw
  | cons r R=>
    have dd:p.st=(r.name,r.attrs,r.kids)::rD R:=hR.symm;rw[dd];dsimp only;simp only[XN]at QT;obtain⟨pre,post,fW,dL,CD,_,_⟩:=hb.c.loc
    have Pc:(pre++iX r++post)[r.off]?=some (.str r.name):=by
     rw[alI,alD (by omega), <-dL,Nat.sub_self];rfl
    generalize pre++iX r++post=C at*;have QW:BP O1 B k U p:=⟨r::R,tk,hb,hR,hUo⟩;refine VC.ag aa (c_ @aD @C4 @dY @XN.{0} ?_);refine VC.mZ [7,8] ?_;refine ab.av 0 ?_;refine ae @aD ?_;refine ab.av 5 ?_;refine ae @aD ?_;refine ab.ld (m:=.str nm) 6 ?_ ?_
    ·exact dq @aD @C4
    simp only[aj];refine ab.call (i:=1) (Fi hb (by omega)) ?_;rintro _ O9 ⟨rfl,eO⟩;simp only[aj];rw[eO];clear eO O9
    refine⟨VH.Ge.refl _,?_⟩;refine ab.av 2 ?_;refine ae @aD ?_;refine ab.av 3 ?_;refine ae @aD ?_;refine ab.ld (m:=.str r.name) 4 ?_ ?_
    ·exact kt3 @aD @fW @Pc
    simp only[aj];refine ab.bO [(7,.av),(8,.av)] ?_;by_cases hn:r.name=nm
    ·rw[if_pos hn];have Yc:(r.name==nm)=true:=beq_iff_eq.2 hn;refine ao @aD @Yc ?_;refine ah.rt (S0 QW hp (by rw[dd];simp)) ?_;rintro m O3 ⟨lW,vJ⟩;refine ae @aD ?_;refine WC.sound aa (ae @aD ?_);exact⟨jw.more lW AI,U,AI,vJ⟩
    ·rw[if_neg hn];have Yc:(r.name==nm)=false:=by simpa using hn
     refine ao @aD @Yc ?_;exact jw
 ·refine VC.ag aa (ao @aD @C4 ?_);refine WC.sound aa (ae @aD ?_);exact⟨jw,U,AI,h1⟩
 ·refine VC.ag aa (ao @aD @C4 ?_);refine WC.sound aa (ae @aD ?_);exact⟨jw,U,AI,h1⟩
theorem Dr {t:Bs} {stop:UInt8}:∀(n o:Nat) (acc:Bs) {s:Bs} {o':Nat},eQ t stop n o acc= .ok (s,o')->s.length+o<=acc.length+o'
 | 0,o,acc,s,o',h=>by
   unfold eQ at h;injection h with h;injection h with h1 h2
   subst h1;subst h2;omega
 | n+1,o,acc,s,o',h=>by
   have done:∀(h:(.ok (acc,o):Except (Int×Nat) (Bs×Nat))= .ok (s,o')),s.length+o<=acc.length+o':=fun h=>by
    injection h with h;injection h with h1 h2
    subst h1;subst h2;omega
   unfold eQ at h;cases hg:t[o]? with
   | none=>rw[hg]at h;exact done h
   | some c=>
     rw[hg]at h;simp only at h;split at h
     ·exact done h
     split at h
     ·split at h
      ·cases h
      ·rename_i h5;obtain⟨k1,k2,k3⟩:=Aw (by simpa using h5);have:=Dr n _ _ h;rw[Kn]at this;omega
     split at h
     ·cases h
     ·have:=Dr n _ _ h;rw[Kn]at this;simp only[XN,RZ]at this;omega
theorem adR {t:Bs} {o:Nat} {s:Bs} {o':Nat} (h:tY t o= .ok (s,o')):s.length+o+2<=o':=by
 unfold tY at h;split at h
 ·cases h
 split at h
 ·cases h
 split at h
 ·cases h
 rename_i s2 o2 h2;have:=Dr _ _ _ h2;split at h
 ·cases h
 ·injection h with h;injection h with h1 h3
  subst h1;subst h3
  simp only[RZ]at this;omega
theorem WA (a b:List (Bs×Bs)):jo (a++b)=jo a+jo b:=by
 induction a with
 | nil=>rw[XO,jo,ahX]
 | cons x a ih=>rw[acu,jo,jo,ih];omega
theorem S1 {t:Bs}:∀(n o:Nat) (l:List (Bs×Bs)) {l':List (Bs×Bs)} {o':Nat},o<=t.length->lG t n o l= .ok (l',o')->jo l'+o<=jo l+o'
 | 0,o,l,l',o',ho,h=>by
   rw[lG]at h;injection h with h;injection h with h1 h2
   subst h1;subst h2;omega
 | n+1,o,l,l',o',ho,h=>by
   have vc:=jg t o ho;rw[lG]at h;split at h
   ·injection h with h;injection h with h1 h2
    subst h1;subst h2;omega
   rename_i hc;have cA:1<=ky t o:=Nat.one_le_iff_ne_zero.2 fun e=>hc (.inl e)
   split at h
   ·cases h
   rename_i nm o2 h2;have hn:=gE h2;have ct:=jg t o2 (by omega);split at h
   ·cases h
   split at h
   ·cases h
   rename_i y4 o4 h4;have hw:=ly h4;have cU:=jg t o4 (by omega);split at h
   ·cases h
   rename_i v o6 h6;have hv:=adR h6;have CK:=Ay h6;have:=S1 n o6 _ (by omega) h;rw[WA,jo,jo]at this;dsimp only at this;omega
theorem BO {t:Bs} {o:Nat} {q s:Bs} {p:Nat} (h:jf t o q= .ok (s,p)):s.length+o<=p:=by
 unfold jf at h;split at h
 ·cases h
 split at h
 ·cases h
 ·rename_i h1;injection h with h;injection h with h2 h3
  have hi:0<=Lib.index (t.drop o) q:=by omega
  unfold p_ at h2;rw[if_pos hi]at h2;rw[<-h2,agu];omega
theorem adS {t:Bs} {o:Nat} {x:Tk} {o':Nat} (ho:o<=t.length) (h:mF t o= .ok (x,o')):AH x+o<=o'/\1<=x.kind/\x.kind<=6:=by
 unfold mF at h;unfold AH;split at h
 ·obtain⟨y,h1,rfl⟩:=ju h;have:=BO h1;simp only[XN,RZ,jo]at this ⊢;exact⟨by omega,by decide,by decide⟩
 split at h
 ·obtain⟨y,h1,rfl⟩:=ju h;have:=BO h1;simp only[XN,RZ,jo]at this ⊢;exact⟨by omega,by decide,by decide⟩
 split at h
 ·obtain⟨y,h1,rfl⟩:=ju h;have:=BO h1;simp only[XN,RZ,jo]at this ⊢;exact⟨by omega,by decide,by decide⟩
 split at h
 ·unfold qM at h;split at h
  ·cases h
  rename_i nm o2 h2;have hn:=gE h2;obtain⟨y,h1,rfl⟩:=ju h;have:=ly h1;simp only[XN,RZ,jo]at this ⊢;exact⟨by omega,by decide,by decide⟩
 split at h
 ·unfold vv at h;split at h
  ·cases h
  rename_i nm o2 h2;have hn:=gE h2;split at h
  ·cases h
  rename_i l o3 h3;have ha:=S1 _ _ _ (by omega) h3;rw[jo]at ha;split at h
  all_goals
   obtain⟨y,h1,rfl⟩:=ju h;have:=ly h1;simp only[XN,RZ]at this ⊢;exact⟨by omega,by decide,by decide⟩
 ·obtain⟨y,h1,rfl⟩:=ju h;have:=Dr _ _ _ h1;simp only[RZ,jo]at this ⊢;exact⟨by omega,by decide,by decide⟩
def lX (l:List Tk):Nat:=(l.map AH).sum
theorem Fp (l:List Tk) (x:Tk):lX (l++[x])=lX l+AH x:=by simp[lX]
theorem M3 {t:Bs}:∀(n o:Nat) (l:List Tk) {l':List Tk},o<=t.length->lX l<=o->(∀x∈l,1<=x.kind/\x.kind<=6/\x.off<=t.length)->iW t n o l= .ok l'->lX l'<=t.length/\∀x∈l',1<=x.kind/\x.kind<=6/\x.off<=t.length
 | 0,o,l,l',ho,hl,hk,h=>by
   rw[iW]at h;injection h with h;subst h;exact⟨by omega,hk⟩
 | n+1,o,l,l',ho,hl,hk,h=>by
   rw[iW]at h;split at h
   ·injection h with h;subst h;exact⟨by omega,hk⟩
   rename_i ew;split at h
   ·cases h
   rename_i x o' hx;have h1:=adS ho hx;have h2:=MB (by omega) hx;refine M3 n o' _ h2.2.2 ?_ (fun y hy=>?_) h
   ·rw[Fp];omega
   ·rcases agx.1 hy with hy | hy
    ·exact hk y hy
    ·rw[acs]at hy;subst hy;exact⟨h1.2.1,h1.2.2,by omega⟩
theorem S4 {t:Bs} {l:List Tk} (h:ua t= .ok l):lX l<=t.length/\∀x∈l,1<=x.kind/\x.kind<=6/\x.off<=t.length:=
 M3 _ 0 [] (agw _) (agw _) (fun x hx=>by cases hx) h
theorem QX (l:List Tk) (x:Tk) (p:PS):jx (l++[x]) p=match jx l p with
  | .error e=>.error e
  | .ok q=>match kz x q with
    | .error e=>.error (e,x.off)
    | .ok q=>.ok q:=by
 induction l generalizing p with
 | nil=>rfl
 | cons y l ih=>
   rw[acu,jx,jx];cases kz y p with
   | error e=>rfl
   | ok q=>exact ih q
theorem QY {l m:List Tk} {p:PS} {e:Int×Nat} (h:jx l p= .error e):jx (l++m) p= .error e:=by
 induction l generalizing p with
 | nil=>cases h
 | cons y l ih=>
   rw[jx]at h;rw[acu,jx];split at h
   ·rename_i h1;injection h with h;subst h;rfl
   ·exact ih h
theorem aaI:kW p0 0:=⟨by decide,by decide,(fun e=>by cases e),by simp[GB,p0,Fm]⟩
def Fq {α :Type} (F:Except (Int×Nat) α):Prop:=∀e,F= .error e->e.1≠0
theorem AJ {t:Bs} {stop:UInt8}:∀(n o:Nat) (acc:Bs),Fq (eQ t stop n o acc)
 | 0,o,acc=>fun e h=>by unfold eQ at h;cases h
 | n+1,o,acc=>fun e h=>by
   unfold eQ at h;split at h
   ·cases h
   split at h
   ·cases h
   split at h
   ·split at h
    ·rename_i h5;injection h with h;subst h;exact h5
    ·exact AJ n _ _ e h
   split at h
   ·injection h with h;subst h;simp
   ·exact AJ n _ _ e h
theorem BQ (t:Bs) (o:Nat) {k:Int} (hk:k≠0):Fq (jr t o k):=fun e h=>by
 unfold jr at h;split at h
 ·injection h with h;subst h;simp
 split at h
 ·injection h with h;subst h;exact hk
 ·cases h
theorem wY (t:Bs) (o:Nat) (p:Bs):Fq (iV t o p):=fun e h=>by
 unfold iV at h;split at h
 ·injection h with h;subst h;simp
 split at h
 ·cases h
 ·injection h with h;subst h;simp
theorem aaJ (t:Bs) (o:Nat):Fq (tY t o):=fun e h=>by
 unfold tY at h;split at h
 ·injection h with h;subst h;simp
 split at h
 ·injection h with h;subst h;simp
 split at h
 ·rename_i h2;injection h with h;subst h;exact AJ _ _ _ _ h2
 split at h
 ·injection h with h;subst h;simp
 ·cases h
theorem M4 {t:Bs}:∀(n o:Nat) (l:List (Bs×Bs)),Fq (lG t n o l)
 | 0,o,l=>fun e h=>by rw[lG]at h;cases h
 | n+1,o,l=>fun e h=>by
   rw[lG]at h;split at h
   ·cases h
   split at h
   ·rename_i h2;injection h with h;subst h;exact BQ _ _ (by decide) _ h2
   split at h
   ·injection h with h;subst h;simp
   split at h
   ·rename_i h2;injection h with h;subst h;exact wY _ _ _ _ h2
   split at h
   ·rename_i h2;injection h with h;subst h;exact aaJ _ _ _ h2
   ·exact M4 n _ _ e h
theorem yO (t:Bs) (o:Nat) (q:Bs):Fq (jf t o q):=fun e h=>by
 unfold jf at h;split at h
 ·injection h with h;subst h;simp
 split at h
 ·injection h with h;subst h;simp
 ·cases h
theorem qf {α β :Type} {f: α -> β} {F:Except (Int×Nat) (α ×Nat)} (hF:Fq F):Fq (tZ f F):=fun e h=>hF e (mG h)
theorem aaK (t:Bs) (o:Nat):Fq (mF t o):=fun e h=>by
 unfold mF at h;split at h
 ·exact qf (yO _ _ _) e h
 split at h
 ·exact qf (yO _ _ _) e h
 split at h
 ·exact qf (yO _ _ _) e h
 split at h
 ·unfold qM at h;split at h
  ·rename_i h2;injection h with h;subst h;exact BQ _ _ (by decide) _ h2
  ·exact qf (wY _ _ _) e h
 split at h
 ·unfold vv at h;split at h
  ·rename_i h2;injection h with h;subst h;exact BQ _ _ (by decide) _ h2
  split at h
  ·rename_i h2;injection h with h;subst h;exact M4 _ _ _ _ h2
  split at h
  ·exact qf (wY _ _ _) e h
  ·exact qf (wY _ _ _) e h
 ·exact qf (AJ _ _ _) e h
theorem H3 {t:Bs}:∀(n o:Nat) (l:List Tk),Fq (iW t n o l)
 | 0,o,l=>fun e h=>by rw[iW]at h;cases h
 | n+1,o,l=>fun e h=>by
   rw[iW]at h;split at h
   ·cases h
   split at h
   ·rename_i h2;injection h with h;subst h;exact aaK _ _ _ h2
   ·exact H3 n _ _ e h
theorem aaL (t:Bs):Fq (ua t):=H3 _ _ _
theorem Fs {t:Bs}:∀(n o:Nat) (l:List Tk) {l':List Tk},iW t n o l= .ok l'->l'.length<=l.length+n
 | 0,o,l,l',h=>by rw[iW]at h;injection h with h;subst h;omega
 | n+1,o,l,l',h=>by
   rw[iW]at h;split at h
   ·injection h with h;subst h;omega
   split at h
   ·cases h
   ·have:=Fs n _ _ h;rw[Kn]at this;simp only[XN,RZ]at this;omega
theorem WB {t:Bs} {l:List Tk} (h:ua t= .ok l):l.length<=t.length+1:=by
 have:=Fs _ _ _ h;simpa using this
theorem QZ (l:List Tk) (i:Nat):lX (l.take i)<=lX l:=by
 have:lX l=lX (l.take i)+lX (l.drop i):=by
  unfold lX;rw[<-List.sum_append, <-alF,List.take_append_drop]
 omega
theorem WD (t:Bs) (x:Tk):o5 t x.off= .agg [mi x.off,mi (me t x.off),mi (Fc t x.off)]:=by
 unfold o5 me Fc;rw[Int.natCast_add];rfl
def zNd:MV:=.agg [.str [],.sl 0 [] .nil,.sl 0 [] .nil,.str []]
theorem H4 {O:VH} {B k:Nat} (hk:k<O.next):∀{R:List Rec},oN O B k R->∀r∈R,r.b<O.next
 | [],_,r,h=>by simp at h
 | [x],h,r,hr=>by rw[acs.1 hr,h.1];exact hk
 | x::p::rest,h,r,hr=>by
   obtain⟨⟨c,_,_,h1⟩,_,_,h2⟩:=h;rcases ah4.1 hr with rfl | hr
   ·exact h1.hi
   ·exact H4 hk h2 r hr
theorem aaM {O:VH} {B k b9:Nat} {R:List Rec} {tk:Tok} {dn tx:Bool} {z:List MV} (h:BS O B k R tk b9 dn tx z):∀x∈dF k R tk,x<O.next:=by
 have hk:k<O.next:=Km h.c.lt h.c.le;intro x hx;simp only[dF,ah4,agx,alT,Option.mem_toList]at hx;rcases hx with rfl | ((⟨r,hr,rfl⟩ | hx) | hx)
 ·exact hk
 ·exact H4 hk h.c.chain r hr
 ·obtain⟨r,hr,hq⟩:=Option.bind_eq_some_iff.1 hx;have ht:=h.c.top
  match R,hr,ht with
  | y::R,hr,ht=>
    simp only[List.head?_cons,Option.some.injEq]at hr;subst hr;rcases ht.1 with⟨_,_,e | e⟩ | ⟨j,c,e,_,_,hw⟩
    ·rw[e]at hq;cases hq
    ·rw[e]at hq;cases hq
    ·rw[e]at hq;injection hq with hq;subst hq;exact hw.hi
 ·exact(App.n8 h.a hx).2
theorem aaN (t:Bs) (O:VH) (ht:t.length<=65536):VF Tryz.prog 224 [.str t] O (aE fun m O'=>O.Ge O'/\match ie t with
  | .ok n=>m= .tuple [.agg (dh n),mi 0,.agg [mi 0,mi 0,mi 0]]
  | .error e=>m= .tuple [zNd,mi e.1,o5 t e.2]):=by
 have kC:=ahf t;have nA:∀e,ua t= .error e->ie t= .error e:=fun e h=>by unfold ie;rw[h]
 have BM:∀l,ua t= .ok l->ie t=(match jx l p0 with
  | .error e=>.error e
  | .ok p=>if p.st≠[]then .error (13,t.length)else if p.dn then .ok p.z else .error (16,t.length)):=fun l h=>by unfold ie;rw[h];try rfl
 have hW:= @S4 t;have hLn:= @WB t;have hNE:=aaL t;generalize ua t=F at*;generalize ie t=G at*;refine VF.bN 68 [.cell 2 112,.tmp 3,.cell 4 69] Tryz.func224 ?_;refine VC.ag aa (ae @aD ?_);refine VC.gen ?_;intro O1 sd;obtain⟨aM,cW,CL,qA⟩:=gj _ _ sd;clear sd;refine VC.ag aa (ae @aD ?_);refine ah.rt (kC O1 ht) ?_;rintro m O2 ⟨ay,hm⟩;have sG:=ay.at CL;have Ar:=ay.at qA;have gN:=aM.trans ay;have iq:=ay.next;cases F with
 | error e=>
   dsimp only at hm;subst hm;rw[nA e rfl];unfold o5;simp only[aq];refine ae @aD ?_;refine VC.al ?_;rintro O3 ⟨aG,lq,gm⟩;have F4:=aG.at sG;have oM:=aG.at Ar;have eP:=gN.trans aG;have he0:e.1≠0:=hNE e rfl;refine VC.ag aa (ao @aD @he0 ?_);refine VC.pK [] (O2.next) (lq) ?_;intro X;have IA:(O3.set O2.next (.obj X)).hp O.next=_:=VH.sn F4;have Jy:(O3.set O2.next (.obj X)).hp (O.next+1)=_:=VH.sn oM;have qc:(O3.set O2.next (.obj X)).hp O2.next=some (.obj X):=VH.an _ _ _;have ig:O.Ge (O3.set O2.next (.obj X)):=eP.set (by omega) _;generalize O3.set O2.next (.obj X)=O4 at*;refine ab.av 0 ?_;refine ae @aD ?_;refine ab.av 1 ?_;refine ae @aD ?_;refine ab.sR (m:=.agg [.v (.int .i64 e.2),.v (.int .i64 (1+((t.take e.2).count 10:Nat))),.v (.int .i64 ((e.2:Int) - fN (t.take e.2) 10 (t.take e.2).length))]) 2 ?_ ?_
   ·exact fe @aD
   simp only[aj];refine ab.op (i:=3) ?_;refine ao @aD @IA ?_;refine⟨qc,?_⟩;refine ab.av 4 ?_;refine ae @aD ?_;refine ab.op (i:=5) ?_;refine ao @aD @Jy ?_;refine⟨qc,?_⟩;refine ab.m4 [] ?_;refine ae @aD ?_;exact⟨((ig.set (TP _) _).set (ah3 _) _).set (by omega:O.next<=O2.next) _,rfl⟩
 | ok l=>
   obtain⟨pl,rfl,cQ⟩:=hm;obtain⟨hWl,adT⟩:=hW rfl;have hG:=BM l rfl;clear nA BM;refine ao @aD @aq ?_;refine VC.al ?_;rintro O3 ⟨aG,lq,gm⟩;have F4:=aG.at sG;have oM:=aG.at Ar;have eP:=gN.trans aG;refine VC.ag aa (ae @aD ?_);refine VC.ag aa (ae @aD ?_);refine VC.bx ?_;rintro O4 ⟨aY,jq,gI⟩;refine VC.V2 (k:=O3.next) (ds:=dh Qo++o_ [] .nil 0 false false) jq (eS.cons (Wk.refl _) (eS.cons Wk.tok (eS.cons Wk.tok (eS.refl _)))) ?_;refine VC.gen ?_;intro O5 mf;have gq:O5.hp O3.next=some (.cells (dh Qo++o_ [] .nil 0 false false)):=by rw[mf];exact VH.an _ _ _
   have fS:O5.next=O3.next+1:=by rw[mf];exact gI
   have h5:∀i,i<O3.next->O5.hp i=O3.hp i:=fun i hi=>by rw[mf];exact VH.sn (aY.hp i hi)
   have nD:O.Ge O5:=by rw[mf];exact(eP.trans aY).set (by omega) _
   clear mf;have hz5:=(h5 _ (by omega)).trans F4;have Mm:=(h5 _ (by omega)).trans oM;generalize hk:O3.next=k at*;have hBP:BP O5 (k+1) k [k] p0:=⟨[],.nil,⟨⟨ah6 _,by omega,gq,rfl,trivial,trivial⟩,trivial⟩,rfl,fun x hx=>hx⟩
   have hlen:gZ (eh Tryz.prog) 155 pl=some (.v (.int .i64 l.length)):=by
    rcases cQ with⟨h0,_,rfl | rfl⟩ | ⟨k,c,rfl,_⟩
    ·rw[h0];exact fj Ew
    ·rw[h0];exact fj Ew
    ·exact Hl Ew
   rw[u7,Ew]at hlen;have rT:l.length<=1000000:=by have:=hLn rfl;omega
   refine VC.bC [0,2,4,8] (fun _:PS=>[.str t,.ptr O.next 0,.ptr (O.next+1) 0,.ptr k 0]) (fun p O'=>jx l p0= .ok p/\kW p (lX l)/\Kp O5 O' [k]/\∃U,BP O' (k+1) k U p) ?_ ?_;rotate_left
   ·rintro p O6 ⟨cj,cK,hkp,U,QW⟩;rw[cj]at hG;dsimp only at hG;have hO6:∀j,j<k->O6.hp j=O5.hp j:=fun j hj=>hkp.2 j (by omega) (by simp;omega)
    have hz6:=(hO6 _ (by omega)).trans hz5;have hp6:=(hO6 _ (by omega)).trans Mm;have n9:=hkp.1;have S5:O.Ge O6:=⟨by omega,fun j hj=>(hO6 j (by omega)).trans (nD.hp j hj)⟩;obtain⟨R,tk,hb,hR,hUo⟩:=QW;have nM:=hb.c.cells;refine VC.ag aa (ae @aD ?_);refine ah.rt (afl t t.length _ (by omega) (TP _)) ?_;rintro _ O7 ⟨rfl,fC⟩;have ui:=(fC.hp k (by omega)).trans nM;have hz7:=fC.at hz6;have hp7:=fC.at hp6;have Cu:=S5.trans fC;have uh:=fC.next;have S6:o5 t t.length= .agg [mi t.length,mi (1+((t.take t.length).count 10:Nat)),mi ((t.length:Int) - fN (t.take t.length) 10 (t.take t.length).length)]:=rfl;simp only[aq]at S6;generalize (1+((t.take t.length).count 10:Nat):Int)=y1 at*;generalize ((t.length:Int) - fN (t.take t.length) 10 (t.take t.length).length)=y2 at*;rw[S6];refine ae @aD ?_;refine VC.al ?_;rintro O8 ⟨iI,WG,EE⟩;have um:=(iI.hp k (by omega)).trans ui;have hz8:=iI.at hz7;have AK:=iI.at hp7;have M_:=Cu.trans iI;obtain⟨b0,b1,b2,b3,kV⟩:=qO (eU R (dh p.z) hb.c.zl);unfold o_ at um;rw[kV]at um;simp only[aq,a_,acu,XO]at um;cases R with
    | cons r R=>
      have dd:p.st≠[]:=by rw[<-hR];simp[rD]
      rw[if_pos dd]at hG;subst hG;dsimp only;rw[S6]
      have QT:R.length<=64:=by
       have:=cK.len;rw[<-hR]at this;unfold rD at this;rw[ags,XN]at this;omega
      simp only[XN]at um;refine VC.ag aa (ao @aD @um ?_);refine VC.pK [] (O7.next) (WG) ?_;intro X;have IA:((O8).set (O7.next) (.obj X)).hp O.next=_:=VH.sn hz8;have Jy:((O8).set (O7.next) (.obj X)).hp (O.next+1)=_:=VH.sn AK;have qc:((O8).set (O7.next) (.obj X)).hp (O7.next)=some (.obj X):=VH.an _ _ _;have ig:O.Ge ((O8).set (O7.next) (.obj X)):=M_.set (by omega) _;generalize (O8).set (O7.next) (.obj X)=Ox at*;refine ab.av 0 ?_;refine ae @aD ?_;refine ab.sR (m:=.agg [.v (.int .i64 t.length),.v (.int .i64 y1),.v (.int .i64 y2)]) 1 ?_ ?_
      ·exact fe @aD
      simp only[aj];refine ab.op (i:=2) ?_;refine ao @aD @IA ?_;refine⟨qc,?_⟩;refine ab.av 3 ?_;refine ae @aD ?_;refine ab.op (i:=4) ?_;refine ao @aD @Jy ?_;refine⟨qc,?_⟩;refine ab.m4 [] ?_;refine ae @aD ?_;exact⟨((ig.set (TP _) _).set (ah3 _) _).set (by omega:O.next<=O7.next) _,rfl⟩
    | nil=>
      have dd:p.st=[]:=hR.symm;rw[if_neg (by rw[dd];simp)]at hG;simp only[RZ]at um;cases F_:p.dn with
      | false=>
        rw[F_]at hG um;rw[if_neg (by simp)]at hG;subst hG;dsimp only;rw[S6];refine VC.ag aa (ao @aD @um ?_);refine VC.pK [] (O7.next) (WG) ?_;intro X;have IA:((O8).set (O7.next) (.obj X)).hp O.next=_:=VH.sn hz8;have Jy:((O8).set (O7.next) (.obj X)).hp (O.next+1)=_:=VH.sn AK;have qc:((O8).set (O7.next) (.obj X)).hp (O7.next)=some (.obj X):=VH.an _ _ _;have ig:O.Ge ((O8).set (O7.next) (.obj X)):=M_.set (by omega) _;generalize (O8).set (O7.next) (.obj X)=Ox at*;refine ab.av 0 ?_;refine ae @aD ?_;refine ab.sR (m:=.agg [.v (.int .i64 t.length),.v (.int .i64 y1),.v (.int .i64 y2)]) 1 ?_ ?_
        ·exact fe @aD
        simp only[aj];refine ab.op (i:=2) ?_;refine ao @aD @IA ?_;refine⟨qc,?_⟩;refine ab.av 3 ?_;refine ae @aD ?_;refine ab.op (i:=4) ?_;refine ao @aD @Jy ?_;refine⟨qc,?_⟩;refine ab.m4 [] ?_;refine ae @aD ?_;exact⟨((ig.set (TP _) _).set (ah3 _) _).set (by omega:O.next<=O7.next) _,rfl⟩
      | true=>
        rw[F_]at hG um;rw[if_pos rfl]at hG;subst hG;dsimp only;have kV:dh p.z=[b0,b1,b2,b3]:=kV;refine VC.ag aa (ao @aD @um ?_);generalize p.z=pz at*;obtain⟨zn,za,cV,zt⟩:=pz;rw[dh]at kV;injection kV with e1 kV;injection kV with e2 kV;injection kV with e3 kV;injection kV with e4 kV
        subst e1;subst e2;subst e3;subst e4
        refine WC.sound aa (c_ @aD @um @hz8 @AK ?_);rw[dh];exact⟨(M_.set (TP _) _).set (ah3 _) _,rfl⟩
   refine VC.ag aa (ao @aD @hlen ?_);refine VC.az ?_;refine VC.bG [28] [0,2,4,8,26,27] (fun i:Nat=>[mi i]) (fun i O'=>i<=l.length/\Kp O5 O' [k]/\∃p U,jx (l.take i) p0= .ok p/\kW p (lX (l.take i))/\BP O' (k+1) k U p/\(∀x∈U,(x=k\/O5.next<=x)/\x<O'.next)) (fun i=>l.length - i) (0) ?_ ?_
   ·exact⟨agw _,Kp.refl,p0,[k],rfl,aaI,hBP,fun x hx=>by rw[acs]at hx;subst hx;exact⟨.inl rfl,by omega⟩⟩
   rintro i O6 ⟨hi,H5,p,U,cj,cK,QW,hU⟩;dsimp only at hi ⊢;by_cases gG:i<l.length;rotate_left
   ·obtain rfl:i=l.length:=by omega
    rw[ahY]at cj cK;refine WC.sound aa (ao @aD @aq ?_);exact aA.mk p ⟨cj,cK,H5,U,QW⟩
   obtain⟨kr,cr,rfl,kK⟩:∃kr cr,pl= .bq kr 0 l.length cr/\Row O2 153 7 O1.next kr cr (l.flatMap (uk t)):=by
    rcases cQ with⟨h0,_⟩ | ⟨kr,cr,hp,_,_,h⟩
    ·omega
    ·exact⟨kr,cr,hp,h⟩
   obtain⟨sp,tn,vu⟩:=kK.cells;have ajp:=kK.hi;have ajq:O6.hp kr=some (.cells (l.flatMap (uk t)++sp)):=(H5.2 kr (by omega) (by simp;omega)).trans ((h5 kr (by omega)).trans ((aG.hp kr ajp).trans tn));have nB:(l.flatMap (uk t)).length=l.length*7:=aQ (vz t) l
   have bw:((l.flatMap (uk t)++sp).drop (i*7)).take 7=uk t l[i]:=by
    rw[List.drop_append_of_le_length (by omega),ahZ (by rw[List.length_drop];omega)];exact bU (vz t) l i gG
   have hCl:i*7+7<=(l.flatMap (uk t)++sp).length:=by rw[Kn];omega
   have eR:=c6 l i gG
   have WH:jx (l.take (i+1)) p0=(match kz l[i] p with
     | .error e=>.error (e,l[i].off)
     | .ok q=>.ok q):=by rw[eR,QX,cj];try rfl
   have hws:lX (l.take (i+1))=lX (l.take i)+AH l[i]:=by rw[eR,Fp]
   have oJ:=QZ l (i+1);have uC:=adT l[i] (ah7 gG)
   have ahl:∀e,jx (l.take (i+1)) p0= .error e->G= .error e:=fun e h=>by
    have:=QY (m:=l.drop (i+1)) h;rw[List.take_append_drop]at this;rw[this]at hG;exact hG
   have dL:=WD t l[i];clear cj eR;have ajr:uk t l[i]=[mi l[i].kind,.str l[i].name,.sl l[i].attrs.length (l[i].attrs.flatMap bh) .ar,.str l[i].text,mi l[i].off,mi (me t l[i].off),mi (Fc t l[i].off)]:=rfl;generalize hxg:l[i]=x at*;generalize l.flatMap (uk t)++sp=C at*;refine VC.ag aa (ao @aD @aq ?_);refine VC.ag aa (ae @aD ?_);refine VC.bB (VC.az ?_);rw[ajr]at bw;simp only[aq]at bw;refine VC.ag aa (aJ @aD @ajq @bw ?_);refine VC.al ?_;rintro O7 ⟨fC,hx7,uh⟩;refine VC.ag aa (ao @aD @hx7 ?_);refine ah.rt (Wz (QW.ge fC) cK (fun y hy=>by have:=(hU y hy).2;omega) t x (by omega) ⟨uC.1,uC.2.1⟩) ?_;rintro m O8 ⟨Jh,hm⟩;have WG:=(Jh.2 _ (by omega) (fun hm=>by have:=(hU _ hm).2;omega)).trans hx7;have ak7:k<O5.next:=by omega
   have hs8:∀j,j<k->O8.hp j=O5.hp j:=fun j hj=>by
    have hjU:j ∉ U:=fun hm=>by have:=(hU _ hm).1;omega
    have h65:=H5.1;rw[Jh.2 j (by omega) hjU,fC.hp j (by omega),H5.2 j (by omega) (by simp;omega)]
   have hz8:=(hs8 _ (by omega)).trans hz5;have AK:=(hs8 _ (by omega)).trans Mm;have EE:=Jh.1;have h65:=H5.1;have M_:O.Ge O8:=⟨by omega,fun j hj=>(hs8 j (by omega)).trans (nD.hp j hj)⟩;cases dd:kz x p with
   | error e=>
     rw[dd]at hm WH;dsimp only at hm WH;subst hm;have hGe:=ahl _ WH;subst hGe;dsimp only;rw[dL];simp only[aq];have he:e≠0:=by rcases QV dd with rfl | rfl | rfl<;>decide
     refine ae @aD ?_;refine VC.ag aa (ao @aD @he ?_);refine WC.sound aa (ae @aD ?_);refine VC.pK [] (O6.next) (WG) ?_;intro X;have IA:((O8).set (O6.next) (.obj X)).hp O.next=_:=VH.sn hz8;have Jy:((O8).set (O6.next) (.obj X)).hp (O.next+1)=_:=VH.sn AK;have qc:((O8).set (O6.next) (.obj X)).hp (O6.next)=some (.obj X):=VH.an _ _ _;have ig:O.Ge ((O8).set (O6.next) (.obj X)):=M_.set (by omega) _;generalize (O8).set (O6.next) (.obj X)=Ox at*;refine ab.av 0 ?_;refine ae @aD ?_;refine ab.av 1 ?_;refine ae @aD ?_;refine ab.av 2 ?_;refine ae @aD ?_;refine ab.sR (m:=.agg [.v (.int .i64 x.off),.v (.int .i64 (me t x.off:Nat)),.v (.int .i64 (Fc t x.off))]) 3 ?_ ?_
     ·exact fe @aD
     simp only[aj];refine ab.op (i:=4) ?_;refine ao @aD @IA ?_;refine⟨qc,?_⟩;refine ab.av 5 ?_;refine ae @aD ?_;refine ab.op (i:=6) ?_;refine ao @aD @Jy ?_;refine⟨qc,?_⟩;refine ab.m4 [] ?_;refine ae @aD ?_;exact⟨((ig.set (TP _) _).set (ah3 _) _).set (by omega:O.next<=O6.next) _,rfl⟩
   | ok q=>
     rw[dd]at hm WH;dsimp only at WH;obtain⟨rfl,U2,hU2,hq⟩:=hm;obtain⟨R2,tk2,ct,ajs,Qj⟩:=hq;have tr:BP O8 (k+1) k (dF k R2 tk2) q:=⟨R2,tk2,ct,ajs,fun _ h=>h⟩;have Q0:((i:Int)+1)=((i+1:Nat):Int):=by omega
     refine ao @aD @aq ?_;refine WC.sound aa (ao @aD @Q0 ?_);refine WC.sound aa (ao @aD @Q0 ?_);refine ax.next (i+1) ⟨by omega,?_,q,dF k R2 tk2,WH,?_,tr,fun y hy=>?_⟩
     ·refine(H5.more (Kp.ge fC (S:=[])) (fun y hy=>by cases hy)).more Jh fun y hy=>?_
      rcases(hU y hy).1 with e | e
      ·exact .inl (by simp[e])
      ·exact .inr e
     ·rw[hws];exact H0 cK dd
     ·refine⟨?_,aaM ct y hy⟩;rcases hU2 y (Qj y hy)with e | e
      ·exact(hU y e).1
      ·exact .inr (by omega)
set_option linter.defProp false in
def gW:=yP j6<|yP Ev<|yP LS Ac
theorem iY {α :Type} {f: α ->List MV} {k:Nat} (hf:∀x,(f x).length=k) {L:List α} {sp:List MV} {j i:Nat} {x: α} {m:MV} (hj:L[j]?=some x) (hi:(f x)[i]?=some m):(L.flatMap f++sp)[j*k+i]?=some m:=by
 induction L generalizing j with
 | nil=>simp at hj
 | cons y L ih=>
   rw[alP,alI];cases j with
   | zero=>
     simp only[List.getElem?_cons_zero,Option.some.injEq]at hj;subst hj;have:=(acv.1 hi).1;rw[Nat.zero_mul,ahX,alQ this];exact hi
   | succ j=>
     simp only[List.getElem?_cons_succ]at hj;have e:(j+1)*k+i=(f y).length+(j*k+i):=by rw[hf,Nat.succ_mul];omega
     rw[e,alD (by omega),show(f y).length+(j*k+i) - (f y).length=j*k+i by omega];exact ih hj
theorem wZ {L:List MV} {i:Nat} {m:MV} (h:L[i]?=some m):L.set i m=L:=by
 refine alR fun j=>?_
 by_cases e:i=j
 ·subst e;rw[List.getElem?_set_self (acv.1 h).1,h]
 ·rw[List.getElem?_set_ne e]
theorem Na (L:List Dp) (tk:Tok) (O:VH) (hn:L.length<=10000) (hx:∀d∈L,d.x.length<=10000):VF Tryz.prog 226 [.sl L.length (L.flatMap aS) tk] O (aE fun m O'=>∃t,m= .sl L.length (L.flatMap aS) t/\O.Ge O'):=by
 have dL:=aQ gB L;refine VF.bN 24 [.tmp 2] Tryz.func226 ?_;refine VC.ag aa (ae @gW ?_);refine VC.ag aa (ae @gW ?_);refine ah.rt (Ff L tk O (by omega)) ?_;rintro _ O2 ⟨ay,xk⟩;rcases xk with⟨h0,_,hp⟩ | ⟨k,c,rfl,zU,_,cQ⟩
 ·obtain rfl:L=[]:=alC h0;rcases hp with rfl | rfl
  ·refine ae @gW ?_;refine VC.bC [3] (fun _:Unit=>[.sl 0 [] .nil]) (fun _ O'=>O'=O2) ?_ ?_
   ·refine VC.ag aa (ae @gW ?_);refine VC.az ?_;refine VC.bG [9] [3,8] (fun j:Nat=>[mi 0]) (fun j O'=>O'=O2) (fun j=>0) (0) ?_ ?_
    ·rfl
    rintro j O3 eO;rw[eO];clear eO O3
    refine WC.sound aa (ae @gW ?_);exact aA.mk () rfl
   intro _ O9 eO;rw[eO];clear eO O9
   refine WC.sound aa (ae @gW ?_);exact⟨_,rfl,ay⟩
  ·refine ae @gW ?_;refine VC.bC [3] (fun _:Unit=>[.sl 0 [] .full]) (fun _ O'=>O'=O2) ?_ ?_
   ·refine VC.ag aa (ae @gW ?_);refine VC.az ?_;refine VC.bG [9] [3,8] (fun j:Nat=>[mi 0]) (fun j O'=>O'=O2) (fun j=>0) (0) ?_ ?_
    ·rfl
    rintro j O3 eO;rw[eO];clear eO O3
    refine WC.sound aa (ae @gW ?_);exact aA.mk () rfl
   intro _ O9 eO;rw[eO];clear eO O9
   refine WC.sound aa (ae @gW ?_);exact⟨_,rfl,ay⟩
 obtain⟨sp,hc,jX⟩:=cQ.cells;have kj:=cQ.lo;have QJ:=cQ.hi;refine ae @gW ?_;refine VC.bC [3] (fun _:Unit=>[.bq k 0 L.length c]) (fun _ O'=>O2.Ge O') ?_ ?_
 ·refine VC.ag aa (ae @gW ?_);refine VC.az ?_;refine VC.bG [9] [3,8] (fun j:Nat=>[mi j]) (fun j O'=>O2.Ge O'/\j<=L.length) (fun j=>L.length - j) (0) ?_ ?_
  ·exact⟨VH.Ge.refl _,agw _⟩
  rintro j O3 ⟨aG,hj⟩;by_cases aX:j<L.length;rotate_left
  ·obtain rfl:j=L.length:=by omega
   refine WC.sound aa (ae @gW ?_);exact aA.mk () aG
  have eN:=(aG.hp k QJ).trans hc;have bw:(L.flatMap aS++sp)[j*8+7]?=some (.sl L[j].x.length (L[j].x.flatMap bZ) .ar):=iY gB (List.getElem?_eq_getElem aX) rfl;have hxj:=hx L[j] (List.getElem_mem aX);generalize L[j].x=X at*;generalize L.flatMap aS++sp=C at*;have kF:=wZ bw;have Jh:=(List.getElem?_eq_some_iff.1 bw).1;have cT:((j:Int)+1)=((j+1:Nat):Int):=by omega
  refine VC.ag aa (ae @gW ?_);refine VC.ag aa (ae @gW ?_);refine VC.bB (VC.az ?_);refine VC.ag aa (ae @gW ?_);refine WC.sound aa (aJ @gW @eN @bw ?_);refine ah.rt (td X .ar O3 (by omega)) ?_;rintro _ O4 ⟨rfl,aY⟩;have ff:=(aY.hp k (by have:=aG.next;omega)).trans eN;refine c_ @gW @ff @bw @kF ?_;rw[VH.wj ff];refine WC.sound aa (ao @gW @cT ?_);exact ax.next (j+1) ⟨aG.trans aY,aX⟩
 intro _ O9 bo;have Jz:=(bo.hp k QJ).trans hc;refine VC.freeze 3 (sz:=L.length*8) rfl Jz (by rw[Kn,dL];omega) ?_;have eR:((L.flatMap aS++sp).drop 0).take (L.length*8)=L.flatMap aS:=by rw[alW,ahZ (by rw[dL];exact TP _), <-dL,ahY]
 rw[eR];have sh:=ay.trans bo;have fu:O.Ge (O9.kill k):=⟨sh.next,fun i hi=>(VH.kN _ (by omega)).trans (sh.hp i hi)⟩;refine WC.sound aa (ae @gW ?_);exact⟨_,rfl,fu⟩
theorem Ft (L:List Dp) (tk:Tok) (O:VH) (hn:L.length<=10000) (hx:∀d∈L,d.x.length<=10000):VF Tryz.prog 226 [.sl L.length (L.flatMap aS) tk] O (aE fun m O'=>m= .sl L.length (L.flatMap aS) .ar/\O.Ge O'):=
 VF.Wo (Na L tk O hn hx) fun m O' ⟨t,h1,h3⟩=>⟨_,h1▸Wk.tok,rfl,h3⟩
def aaO (p:Pm):Prop:=p.props.length<=10000/\p.eE.length<=10000/\p.en.length<=10000/\(∀d∈p.eE,d.x.length<=10000)/\∀d∈p.en,d.x.length<=10000
theorem ahm (p:Pm) (O:VH) (hp:aaO p):VF Tryz.prog 201 [.agg (gC p)] O (aE fun m O'=>m= .agg (gC p)/\O.Ge O'):=by
 obtain⟨b,⟨pg,pa,pv⟩,g,a,v,pk,P,M,D⟩:=p;obtain⟨h1,h2,h3,h4,h5⟩:=hp;dsimp only at h1 h2 h3 h4 h5;simp only[gC];refine VF.bN 16 [.cell 2 106] Tryz.func201 ?_;refine VC.ag aa (ae @gW ?_);refine VC.gen ?_;rintro O1 sd;obtain⟨aM,cW,cJ,cA⟩:=gj _ _ sd;clear sd;refine VC.ag aa (ao @gW @cJ ?_);refine ah.rt (Fe P .ar O1 (by omega)) ?_;rintro _ O2 ⟨rfl,ay⟩;have iK:=ay.at cJ;have ct:=ay.at cA;have iq:=ay.next;refine ao @gW @iK ?_;have hs:(([mb b,.str pg,.str pa,.str pv,.str g,.str a,.str v,.str pk,.sl P.length (P.flatMap bh) .ar,.sl M.length (M.flatMap aS) .ar,.sl D.length (D.flatMap aS) .ar]:List MV)).set 8 (.sl P.length (P.flatMap bh) .ar)=[mb b,.str pg,.str pa,.str pv,.str g,.str a,.str v,.str pk,.sl P.length (P.flatMap bh) .ar,.sl M.length (M.flatMap aS) .ar,.sl D.length (D.flatMap aS) .ar]:=rfl;rw[VH.wj iK];refine VC.bB ?_;refine VC.pK [7,8,9] (O.next) (iK) ?_;intro X;refine ab.av 0 ?_;refine ae @gW ?_;refine ab.sR (m:=.sl M.length (M.flatMap aS) .ar) 1 ?_ ?_
 ·exact fe @gW
 simp only[aj];refine ab.av 3 ?_;refine ae @gW ?_;refine ab.sR (m:=.sl D.length (D.flatMap aS) .ar) 4 ?_ ?_
 ·exact fe @gW
 simp only[aj];have hX:=VH.an O2 O.next (.obj X);have gm:(O2.set O.next (.obj X)).next=O2.next:=rfl;have hbX:=(VH.ak O2 (.obj X) (by omega:O.next+1≠O.next)).trans ct;have JA:O.Ge (O2.set O.next (.obj X)):=(aM.trans ay).set (TP _) _;generalize O2.set O.next (.obj X)=O3 at*;refine ab.call (i:=2) (Ft M .ar O3 h2 h4) ?_;rintro _ O4 ⟨rfl,aY⟩;simp only[aj];refine⟨aY.at hX,?_⟩;refine ab.av 6 ?_;refine ae @gW ?_;refine ab.call (i:=5) (Ft D .ar O4 h3 h5) ?_;rintro _ O5 ⟨rfl,bH⟩;simp only[aj];have ED:=aY.trans bH;refine⟨ED.at hX,?_⟩;have cZ:=ED.at hbX;have nD:=JA.trans ED;refine ab.m4 [(7,.one),(8,.av),(9,.one)] ?_;refine ae @gW ?_;refine WC.sound aa (ao @gW @cZ ?_);exact(((nD.set (TP _) _).set (TP _) _).set (TP _) _).set (ah3 _) _
set_option linter.defProp false in
def si:=yP gW<|yP Cz<|yP T71<|yP T69 ae1
theorem Nb:∀{l:List Tk} {p q:PS} {L:Nat},kW p L->jx l p= .ok q->kW q (L+lX l)
 | [],p,q,L,h,e=>by
   rw[jx]at e;injection e with e;subst e;simpa[lX]using h
 | x::l,p,q,L,h,e=>by
   rw[jx]at e;split at e
   ·cases e
   ·rename_i p' hp';have h2:=Nb (H0 h hp') e;have:lX (x::l)=AH x+lX l:=by simp[lX]
    rw[this, <-Nat.add_assoc];exact h2
theorem WI {t:Bs} {n:Nd} (ht:t.length<=65536) (h:ie t= .ok n):kJ n<=1000000:=by
 unfold ie at h;split at h
 ·cases h
 ·rename_i l hl;have hw:=(S4 hl).1;split at h
  ·cases h
  ·rename_i p hp;have hk:=Nb aaI hp;have h1:=hk.wt;have h2:=hk.b9;split at h
   ·cases h
   ·split at h
    ·rename_i hd;injection h with h;subst h;unfold GB at h1;rw[if_pos hd]at h1;omega
    ·cases h
structure Prb where
 e:Int
 g:Gv
 p1:Int
 p2:Int
 p3:Int
 w:Bs
 deriving DecidableEq
def pd (x:Prb):List MV:=[mi x.e,.str x.g.g,.str x.g.a,.str x.g.v,mi x.p1,mi x.p2,mi x.p3,.str x.w]
def iZ:Prb:=⟨0,⟨[],[],[]⟩,0,0,0,[]⟩
def ja (t:Bs) (u:Int) (s:Int) (p:Pm) (x:Prb):List MV:=[.str t,.v (.int .u32 u),.v (.int .i32 s),.v (.int .u32 0)]++gC p++pd x
theorem adU {O:VH} {q:Nat} {t:Bs} {u s:Int} {n:Nd} {p:Pm} (g:Gv) (hq:O.hp q=some (.cells (ja t u s AB iZ))) (oc:q<O.next) (ht:t.length<=65536) (hb:ie t= .ok n) (hr:oL n= .ok p):
  VF Tryz.prog 200 [.ptr q 0,.agg (bW g)] O (aE fun m O'=>O'.hp q=some (.cells (ja t u s p iZ))/\br O (some q) O'):=by
 have BR:=fun O'=>aaN t O' ht
 have Ax:=fun O'=>adN n O' (WI ht hb)
 rw[hb]at BR;rw[hr]at Ax;dsimp only at BR Ax;obtain⟨g1,g2,g3⟩:=g;obtain⟨nn,na,nk,nt⟩:=n;obtain⟨b,⟨pg,pa,pv⟩,pG,pA,pV,pk,P,M,DD⟩:=p;simp only[dh]at BR Ax;simp only[ja,gC,AB,pd,iZ,aq,a_,acu,XO,RZ,agv]at hq Ax ⊢;unfold bW;refine VF.bN 46 [] Tryz.func200 ?_;refine VC.ag aa (ae @si ?_);refine VC.bx ?_;rintro O1 ⟨aM,dY,cW⟩;have WJ:=(aM.hp _ oc).trans hq;refine VC.ag aa (ao @si @WJ ?_);refine ah.rt (BR O1) ?_;rintro _ O2 ⟨ay,rfl⟩;have tr:=ay.at WJ;have iq:=ay.next;refine ae @si ?_;refine VC.gen ?_;intro O3 Gz;have aG:O2.Ge O3:=by rw[Gz];exact((((VH.Ge.refl O2).push _).push _).set (TP _) _).set (ah3 _) _
 have dz:O3.hp O2.next=some (.cells [.str nn,.sl na.length (na.flatMap bh) .ar,.sl nk.length (aC nk) .ar,.str nt]):=by rw[Gz,VH.ak _ _ (by omega)];exact VH.an _ _ _
 have gm:O3.next=O2.next+2:=by rw[Gz];rfl
 clear Gz;have eP:=(aM.trans ay).trans aG;have vJ:=aG.at tr;refine VC.ag aa (ae @si ?_);refine VC.ag aa (ao @si @dz ?_);refine ah.rt (Ax O3) ?_;rintro _ O4 ⟨aY,rfl⟩;have JB:=aY.at vJ;have gI:=aY.next;have ig:=eP.trans aY;refine ae @si ?_;refine VC.al ?_;rintro O5 ⟨bH,gq,fS⟩;have EM:=bH.at JB;have nD:=ig.trans bH;refine VC.ag aa (ae @si ?_);refine WC.sound aa (aJ @si @gq @EM ?_);exact(br.lR nD).any.trans br.set
structure de (O:VH) (k q:Nat) (O':VH):Prop where
 next:O.next<=O'.next
 hp:∀i,i<O.next->i≠k->i≠q->O'.hp i=O.hp i
theorem de.ge {O O1 O2:VH} {k q:Nat} (h:de O k q O1) (g:O1.Ge O2):de O k q O2:=⟨ah1 h.next g.next,fun i hi a b=>(g.hp i (Km hi h.next)).trans (h.hp i hi a b)⟩
theorem de.of {O O1:VH} {k q:Nat} (g:O.Ge O1):de O k q O1:=⟨g.next,fun i hi _ _=>g.hp i hi⟩
theorem de.trans {O O1 O2:VH} {k q:Nat} (h:de O k q O1) (g:de O1 k q O2):de O k q O2:=⟨ah1 h.next g.next,fun i hi a b=>(g.hp i (Km hi h.next) a b).trans (h.hp i hi a b)⟩
theorem de.afw {O O1:VH} {k q:Nat} {x:cf} (h:de O k q O1):de O k q (O1.set k x):=⟨h.next,fun i hi a b=>(VH.ak _ _ a).trans (h.hp i hi a b)⟩
theorem de.afx {O O1:VH} {k q:Nat} {x:cf} (h:de O k q O1):de O k q (O1.set q x):=⟨h.next,fun i hi a b=>(VH.ak _ _ b).trans (h.hp i hi a b)⟩
theorem br.two {O O1:VH} {k q:Nat} (h:br O (some q) O1):de O k q O1:=⟨h.next,fun i hi _ b=>h.hp i hi (fun e=>b (by injection e with e;exact e.symm))⟩
theorem adV {O:VH} {k q ba bb bc:Nat} {t:Bs} {u s r r2:Int} {n:Nd} {p:Pm} {g:Gv} {m1 m2:MV} (ha:O.hp ba=some (.cells [.ptr k 0])) (zg:O.hp bb=some (.cells [.ptr q 0])) (TX:O.hp bc=some (.cells (bW g))) (hk:O.hp k=some (.cells [m1,m2,mi r,mi r2])) (hq:O.hp q=some (.cells (ja t u s AB iZ)))
  (kj:k<O.next) (oc:q<O.next) (gh:ba<O.next) (vc:bb<O.next) (jX:bc<O.next) (hkq:k≠q) (ht:t.length<=65536) (hb:ie t= .ok n) (hr:oL n= .ok p):
  VF Tryz.prog 199 [.ptr ba 0,.ptr bb 0,.ptr bc 0] O (aE fun m O'=>(∃r',O'.hp k=some (.cells [m1,m2,mi r',mi r2]))/\O'.hp q=some (.cells (ja t u s p iZ))/\de O k q O'):=by
 have Ax:=fun O' h1 h2=>adU (O:=O') (q:=q) (u:=u) (s:=s) g h1 h2 ht hb hr
 have hka:ba≠k:=fun e=>by subst e;rw[ha]at hk;cases hk
 have uD:bb≠k:=fun e=>by subst e;rw[zg]at hk;cases hk
 have hkc:bc≠k:=fun e=>by subst e;rw[TX]at hk;unfold bW at hk;cases hk
 obtain⟨g1,g2,g3⟩:=g;unfold bW at TX Ax;simp only[aq]at hk;refine VF.bN 10 [] Tryz.func199 ?_;refine VC.ag aa (aJ @si @dA @ha ?_);refine ah.rt (Fh 1 hk rfl) ?_;rintro m O1 ⟨rfl,e1⟩;have dY:O1.hp k=some (.cells [m1,m2,mi (IntKind.i64.wrap (r+1)),mi r2]):=by rw[e1];exact VH.an _ _ _
 have ue:de O k q O1:=by rw[e1];exact(de.of (VH.Ge.refl _)).afw
 have cA:=(by rw[e1];exact VH.ak _ _ uD:O1.hp bb=O.hp bb).trans zg;have fW:=(by rw[e1];exact VH.ak _ _ hkc:O1.hp bc=O.hp bc).trans TX;have WJ:=(by rw[e1];exact VH.ak _ _ (Ne.symm hkq):O1.hp q=O.hp q).trans hq;have cW:O1.next=O.next:=by rw[e1];rfl
 clear e1;refine ao @si @dA ?_;refine WC.sound aa (aJ @si @cA @fW ?_);refine ah.rt (Ax O1 WJ (by omega)) ?_;rintro m O2 ⟨tr,dm⟩;have bJ:=(dm.hp k (by omega) (fun e=>hkq (by injection e with e;exact e.symm))).trans dY;refine ae @si ?_;exact⟨⟨_,bJ⟩,tr,ue.trans dm.two⟩
set_option linter.defProp false in
def kG:=yP si<|yP dA<|yP T58<|yP SC T94
theorem Gy.pI {O O':VH} {k ke kv ce cv:Nat} {E V:fy} {r a r' a':Int} (h:Gy O k ke kv E ce V cv r a) (hc:O'.hp k=some (.cells [.map ke,.map kv,mi r',mi a'])) (he:O'.hp ke=O.hp ke) (hv:O'.hp kv=O.hp kv) (hn:O.next<=O'.next):Gy O' k ke kv E ce V cv r' a':=
 ⟨hc,he.trans h.CA,hv.trans h.HY,h.MG,h.vok,h.ptr,⟨Km h.lt.1 hn,Km h.lt.2.1 hn,Km h.lt.2.2 hn⟩,h.ne⟩
theorem Gy.ge {O O':VH} {k ke kv ce cv:Nat} {E V:fy} {r a:Int} (h:Gy O k ke kv E ce V cv r a) (g:O.Ge O'):Gy O' k ke kv E ce V cv r a:=
 h.pI ((g.hp _ h.lt.1).trans h.cell) (g.hp _ h.lt.2.1) (g.hp _ h.lt.2.2) g.next
theorem ahn {O:VH} {k ke kv ce cv q:Nat} {E V:fy} {r a:Int} {t:Bs} {n:Nd} {p:Pm} (h:Gy O k ke kv E ce V cv r a) (g:Gv) (hg:tf g) (ey:jk (eJ g) E=some (.ptr q 0)) (hq:O.hp q=some (.cells (ja t 0 0 AB iZ))) (oc:q<O.next) (ht:t.length<=65536) (hb:ie t= .ok n) (hr:oL n= .ok p) (hp:aaO p):
  VF Tryz.prog 172 [.ptr k 0,.agg (bW g)] O (aE fun m O'=>m= .tuple [.agg (gC p),.agg (pd iZ)]/\(∃r' a',O'.hp k=some (.cells [.map ke,.map kv,mi r',mi a']))/\O'.hp q=some (.cells (ja t 1 0 p iZ))/\de O k q O'):=by
 have I9:q≠k:=fun e=>by subst e;rw[h.cell]at hq;simp[ja]at hq
 have hqe:q≠ke:=fun e=>by subst e;rw[h.CA]at hq;cases hq
 have hqv:q≠kv:=fun e=>by subst e;rw[h.HY]at hq;cases hq
 have hL3:(eJ g).length=3:=rfl;have hLs:=vG hg;have hLm:bW g=(eJ g).map .str:=rfl;have hpc:=fun(O':VH) (ba bb bc:Nat) (m1 m2:MV) (r r2:Int) h1 h2 h3 h4 h5 h6 h7 h8 h9 rb=>adV (O:=O') (k:=k) (q:=q) (ba:=ba) (bb:=bb) (bc:=bc) (u:=0) (s:=1) (r:=r) (r2:=r2) (g:=g) (m1:=m1) (m2:=m2) h1 h2 h3 h4 h5 h6 h7 h8 h9 rb (Ne.symm I9) ht hb hr
 obtain⟨g1,g2,g3⟩:=g;have hkc:=h.cell;simp only[aq]at hkc;simp only[bW];refine VF.bN 40 [.cell 4 106,.cell 5 71] Tryz.func172 ?_;refine VC.ag aa (ae @kG ?_);refine VC.gen ?_;rintro O1 sd;obtain⟨aM,cW,cJ,cA,fW,qd⟩:=QA _ _ _ _ sd;clear sd;have dY:=(aM.hp _ h.lt.1).trans hkc;refine VC.bC [2,3,4,5] (fun _:Unit=>[.ptr O.next 0,.ptr (O.next+1) 0,.ptr (O.next+2) 0,.ptr (O.next+3) 0]) (fun _ O'=>O'=O1.set k (.cells [.map ke,.map kv,mi r,mi (IntKind.i64.wrap (a+1))])) ?_ ?_
 ·refine VC.ag aa (ao @kG @cJ ?_);refine WC.sound aa (aJ @kG @cJ @dY ?_);refine ah.rt (Fh 1 dY rfl) ?_;rintro m O2 ⟨rfl,e2⟩;refine ae @kG ?_;exact aA.mk () e2
 intro _ O2 e2;have ew:=h.lt;have bJ:O2.hp k=some (.cells [.map ke,.map kv,mi r,mi (IntKind.i64.wrap (a+1))]):=by rw[e2];exact VH.an _ _ _
 have gG:∀i,i≠k->O2.hp i=O1.hp i:=fun i hi=>by rw[e2];exact VH.ak _ _ hi
 have iq:O2.next=O.next+4:=by rw[e2];exact cW
 have dm:de O k q O2:=by rw[e2];exact(de.of aM).afw
 have h2:Gy O2 k ke kv E ce V cv r (IntKind.i64.wrap (a+1)):=h.pI bJ ((gG _ (Ne.symm h.ne.1)).trans (aM.hp _ h.lt.2.1)) ((gG _ (Ne.symm h.ne.2.1)).trans (aM.hp _ h.lt.2.2)) dm.next;have iK:=(gG _ (by omega)).trans cJ;have ct:=(gG _ (by omega)).trans cA;have jB:=(gG _ (by omega)).trans fW;have kf:=(gG _ (by omega)).trans qd;have tr:=(gG _ I9).trans ((aM.hp _ oc).trans hq);clear e2 cJ cA fW qd dY bJ gG;generalize IntKind.i64.wrap (a+1)=a2 at*;refine VC.ag aa (aJ @kG @iK @ct ?_);refine ah.rt (SU h2 ⟨g1,g2,g3⟩ hg) ?_;rintro _ O3 ⟨rfl,aG⟩;have hh:BH E ⟨g1,g2,g3⟩=true:=by unfold BH;rw[ey];rfl
 rw[hh];have h3:=h2.ge aG;have gm:=aG.next;have rB:=aG.at iK;have cg:=aG.at ct;have eN:=aG.at jB;have Az:=aG.at kf;have vJ:=aG.at tr;have cP:=dm.ge aG;clear iK ct jB kf tr dm h2;have dz:=h3.cell;have Q1:=h3.CA;simp only[aq]at dz;refine ae @kG ?_;refine VC.bB ?_;refine WC.bO (.held [7]) [(0,.rd),(1,.rd),(2,.rd),(3,.rd),(4,.rd),(5,.rd),(6,.one),(7,.one)] ?_;refine c_ @kG @rB @cg @dz ?_;refine VL.hold (.inr rfl) rfl rfl (fQ.lK vF aa (l:=eJ ⟨g1,g2,g3⟩) (te:=⟨_,1,8,[.v (.pointer none)]⟩) Tryz.underlying94 SC rfl rfl Q1 h3.MG rfl hL3 hLs) (WL.sound aa ?_);rw[ey];refine ae @kG ?_;refine VC.al ?_;rintro O4 ⟨aY,eA,gI⟩;have h4:=h3.ge aY;have kR:=aY.at rB;have cU:=aY.at cg;have ff:=aY.at eN;have yK:=aY.at Az;have JB:=aY.at vJ;have fq:=cP.ge aY;have jq:=h4.cell;clear rB cg eN Az vJ cP h3 dz Q1 hh aY aG;refine VC.ag aa (ao @kG @eA ?_);have kF:(ja t 0 0 AB iZ).set (1+1) (.v (.int .i32 1))=ja t 0 1 AB iZ:=rfl;have C6:∀{i:Nat} {y:Option cf},i≠q->O4.hp i=y->(O4.set q (.cells (ja t 0 1 AB iZ))).hp i=y:=fun hi hy=>(VH.ak _ _ hi).trans hy
 refine ah.rt (ajk (off:=1) (Φ :=fun O'=>(∃r',O'.hp k=some (.cells [.map ke,.map kv,mi r',mi a2]))/\O'.hp q=some (.cells (ja t 0 1 p iZ))/\de (O4.set q (.cells (ja t 0 1 AB iZ))) k q O') (g:=199) (xs:=[.ptr O.next 0,.ptr O3.next 0,.ptr (O.next+1) 0]) JB rfl rfl (by kernel_rfl) (by rw[kF];exact hpc (O4.set q (.cells (ja t 0 1 AB iZ))) O.next O3.next (O.next+1) _ _ _ _ (C6 (by omega) kR) (C6 (by omega) eA) (C6 (by omega) cU) (C6 (Ne.symm I9) jq) (VH.an _ _ _) (by show k<O4.next;omega) (by show q<O4.next;omega) (by show O.next<O4.next;omega) (by show O3.next<O4.next;omega) (by show O.next+1<O4.next;omega)) (fun O' Jn=>⟨_,Jn.2.1,rfl,rfl⟩)) ?_;rintro m O5 ⟨OX,cs',⟨⟨r',hkX⟩,hqX,huX⟩,gk,e5⟩;rw[hqX]at gk;injection gk with gk;injection gk with gk
 subst gk;have rE:((ja t 0 1 p iZ).set 1 (.v (.int .u32 1))).set (1+1) (.v (.int .i32 0))=ja t 1 0 p iZ:=rfl;rw[rE]at e5;have EM:O5.hp q=some (.cells (ja t 1 0 p iZ)):=by rw[e5];exact VH.an _ _ _
 have gq:O5.hp k=some (.cells [.map ke,.map kv,mi r',mi a2]):=by rw[e5];exact(VH.ak _ _ (Ne.symm I9)).trans hkX
 have huA:de O4 k q (O4.set q (.cells (ja t 0 1 AB iZ))):=(de.of (VH.Ge.refl _)).afx;have H6:de O4 k q O5:=by rw[e5];exact(huA.trans huX).afx
 have fS:=H6.next;have oa:=fq.trans ⟨fS,fun i hi=>H6.hp i hi⟩;have fK:=(H6.hp _ (by omega) (by omega) (by omega)).trans ff;have Js:=(H6.hp _ (by omega) (by omega) (by omega)).trans yK;have lz:=(H6.hp _ (by omega) (by omega) (by omega)).trans eA;clear e5 H6 huA huX hqX hkX rE kF C6 kR cU ff yK JB fq jq eA h4;refine ae @kG ?_;have hov:=fun O'=>ahm p O' hp
 obtain⟨pb,⟨pg,pa,pv⟩,pG,pA,pV,pk,P,M,DD⟩:=p;simp only[ja,gC,pd,iZ,aq,a_,acu,XO]at EM hov ⊢;refine VC.bB ?_;have ia:∀{O':VH},O5.Ge O'->O'.hp O3.next=some (.cells [.ptr q 0])/\O'.hp q=O5.hp q:=fun g=>⟨g.at lz,g.hp _ (by omega)⟩
 refine VC.s8 [] (fun O'=>O'.hp O3.next=some (.cells [.ptr q 0])/\O'.hp q=O5.hp q) (⟨lz,rfl⟩) ?_;refine ab.mP (m:=.ptr q 0) 0 ?_ ?_
 ·rintro O2 ⟨j1,j2⟩;exact dq @kG @j1
 simp only[aj];refine ab.av 1 ?_;refine ae @kG ?_;refine ab.av 2 ?_;refine ae @kG ?_;refine ab.mP (m:=.ptr q 0) 5 ?_ ?_
 ·rintro O2 ⟨j1,j2⟩;exact dq @kG @j1
 simp only[aj];refine ab.av 6 ?_;refine ae @kG ?_;refine ab.av 7 ?_;refine ae @kG ?_;rw[EM];refine ab.mP (m:=.agg [.v (.int .i64 0),.str [],.str [],.str [],.v (.int .i64 0),.v (.int .i64 0),.v (.int .i64 0),.str []]) 8 ?_ ?_
 ·rintro O2 ⟨j1,j2⟩;exact dq @kG @j2
 simp only[aj];refine ab.op (i:=3) ?_;refine ao @kG @EM ?_;refine⟨lz,?_⟩;refine ab.call (i:=4) (hov O5) ?_;rintro _ O6 ⟨rfl,fJ⟩;simp only[aj];have nq:=fJ.at lz;have hq6:=fJ.at EM;have nM:=fJ.at gq;have BT:=fJ.at fK;have hd6:=fJ.at Js;have n9:=fJ.next;have rk:=oa.ge fJ;refine⟨⟨nq,hq6⟩,?_⟩;refine ab.op (i:=9) ?_;refine ao @kG @BT ?_;refine⟨⟨nq,hq6⟩,?_⟩;refine ab.op (i:=10) ?_;refine ao @kG @hd6 ?_;refine⟨⟨nq,hq6⟩,?_⟩;refine ab.bO [] ?_;refine ae @kG ?_;refine VC.gen ?_;intro O7 e7;have vK:∀i,i≠O.next+2->i≠O.next+3->O7.hp i=O6.hp i:=fun i h1 h2=>by rw[e7,VH.ak _ _ h2,VH.ak _ _ h1]
 have uh:O7.next=O6.next:=by rw[e7];rfl
 have hd7:O7.hp (O.next+3)=some (.cells [.v (.int .i64 0),.str [],.str [],.str [],.v (.int .i64 0),.v (.int .i64 0),.v (.int .i64 0),.str []]):=by rw[e7];exact VH.an _ _ _
 have hc7:O7.hp (O.next+2)=some (.cells [.v (.bool pb),.str pg,.str pa,.str pv,.str pG,.str pA,.str pV,.str pk,.sl P.length (P.flatMap bh) .ar,.sl M.length (M.flatMap aS) .ar,.sl DD.length (DD.flatMap aS) .ar]):=by rw[e7,VH.ak _ _ (by omega)];exact VH.an _ _ _
 have hq7:=(vK q (by omega) (by omega)).trans hq6;have ui:=(vK k (by omega) (by omega)).trans nM;have CW:de O k q O7:=⟨by have:=rk.next;omega,fun i hi h1 h2=>(vK i (by omega) (by omega)).trans (rk.hp i hi h1 h2)⟩;clear e7 vK;refine WC.sound aa (aJ @kG @hc7 @hd7 ?_);exact⟨⟨_,_,ui⟩,hq7,CW⟩
set_option linter.defProp false in
def d_:=yP kG<|yP SB<|yP T95 xi
structure vL (O:VH) (V:fy) (N:Nat):Prop where
 row:∀p∈V,∃n cs tk,p.2.1= .sl n cs tk/\cs.length=n/\n<=N/\App O 0 1 tk/\cS cs=cs
 one:∀(i j:Nat) (p r:List Bs×MV×Nat) (n:Nat) (cs:List MV) (tk:Tok) (n':Nat) (cs':List MV) (tk':Tok),V[i]?=some p->V[j]?=some r->i≠j->p.2.1= .sl n cs tk->r.2.1= .sl n' cs' tk'->∀x,Tok.id tk=some x->Tok.id tk'≠some x
theorem aK.rF {P:Program} {n:Sz} {D:List Deferred} {ops:Array Oper} {e:Env} {O:VH} {Q:VQ} {m:MV} {i d:Nat} {op:Op} {ty:TypeId} {ps:String} {af:Array Edge} {g:Option (Nat×Bool)} {K:Env->VH->Prop} (hy:fQ P n D (.mk (some d) op ty ps af g) e O m) (h:K ((d,m)::e) O) (ho:ops[i]?=some (.mk (some d) op ty ps af g):=by exact rfl) (hg:aN ops (.mk (some d) op ty ps af g) e=some true:=by exact rfl) (hd:bp n (some d)=true:=by exact rfl):aK P n D ops i e O Q K:=
 aK.hold ho hg hd hy h
def aaP (t:Bs):Option Pm->List MV
 | none=>ja t 0 0 AB iZ
 | some p=>ja t 1 0 p iZ
theorem App.mv {O O':VH} {B sz:Nat} {tk:Tok} (h:App O B sz tk) (hn:O.next<=O'.next) (hi:∀i,i<O.next->O.hp i=some .tok->O'.hp i=some .tok):App O' B sz tk:=by
 cases tk with
 | own t j=>exact⟨h.1,hi _ h.2.2.2 h.2.1,h.2.2.1,Km h.2.2.2 hn⟩
 | nil=>trivial
 | full=>trivial
 | ar=>exact h.elim
theorem vL.mv {O O':VH} {V:fy} {N:Nat} (h:vL O V N) (hn:O.next<=O'.next) (hi:∀i,i<O.next->O.hp i=some .tok->O'.hp i=some .tok):vL O' V N:=
 ⟨fun p hp=>by obtain⟨n,cs,tk,h1,h2,h3,h4,h5⟩:=h.row p hp;exact⟨n,cs,tk,h1,h2,h3,h4.mv hn hi,h5⟩,h.one⟩
theorem vL.ge {O O':VH} {V:fy} {N:Nat} (h:vL O V N) (g:O.Ge O'):vL O' V N:=h.mv g.next fun i hi e=>(g.hp i hi).trans e
theorem App.off {O:VH} {B sz i:Nat} {tk:Tok} (h:App O B sz tk) (hi:i<O.next) (hn:O.hp i≠some .tok):(O.after tk).hp i=O.hp i:=by
 refine(cL.after h).hp i hi fun e=>hn ?_
 cases tk with
 | own t j=>injection e with e;subst e;exact h.2.1
 | _=>cases e
theorem WR.WK {G:Gh} {O:VH} {w:World} {k:Nat} {cs cs':List MV} (h:WR G O w) (hk:O.hp k=some (.cells cs)) (hw:eS cs cs'):WR G (O.set k (.cells cs')) w:=by
 obtain⟨b,C,T,h1,h2,h3⟩:=h.cells k cs hk;refine h.swap (by rw[hk];simp) (fun ds e=>?_) (fun X e=>by cases e) (fun _ _ e=>by cases e) (fun e=>by cases e) (fun _ _ _ e=>by cases e);injection e with e;subst e
 exact⟨b,C,T,h1,h2,hw.1▸hw.vrs h3⟩
theorem VC.WK {P:Program} {n:Sz} {D:List Deferred} {c:Code} {e:Env} {Q:VQ} {O:VH} {k:Nat} {cs cs':List MV} (hk:O.hp k=some (.cells cs)) (hw:eS cs cs') (h:VC P n D c e (O.set k (.cells cs')) Q):VC P n D c e O Q:=fun G a w h1 h2=>h G a w (h1.WK hk hw) h2
theorem eS.ajt (a1 a2 a3 a4 a5 a6 a7 a8 a9 a10 a11 a12 b1 b2 b3 b4 b5 b6 b7 b8:MV):eS [a1,a2,a3,a4,a5,a6,a7,a8,a9,a10,a11,a12,.sl 0 [] .nil,.sl 0 [] .nil,.sl 0 [] .nil,b1,b2,b3,b4,b5,b6,b7,b8] [a1,a2,a3,a4,a5,a6,a7,a8,a9,a10,a11,a12,.sl 0 [] .ar,.sl 0 [] .ar,.sl 0 [] .ar,b1,b2,b3,b4,b5,b6,b7,b8]:=
 by repeat' first
  | exact eS.refl _
  | exact Wk.refl _
  | exact Wk.tok
  | refine eS.cons ?_ ?_
theorem adW {O:VH} {B sz:Nat} {tk:Tok} (h:App O B sz tk) {x:Nat} (e:Tok.id tk=some x):x<O.next:=(App.n8 h e).2
theorem vL.app {O:VH} {V:fy} {N:Nat} (h:vL O V N) {tk:Tok} {p:List Bs×MV×Nat} (ha:App O 0 1 tk) (hp:p∈V) (hne:∀n' cs' tk',p.2.1= .sl n' cs' tk'->∀x,Tok.id tk=some x->Tok.id tk'≠some x):∃n cs t,p.2.1= .sl n cs t/\cs.length=n/\n<=N+1/\App (O.after tk) 0 1 t/\cS cs=cs:=by
 obtain⟨n',cs',t,h1,h2,h3,h4,h5⟩:=h.row p hp;exact⟨n',cs',t,h1,h2,Nat.le_succ_of_le h3,cL.app (cL.after ha) h4 (hne _ _ _ h1),h5⟩
theorem vL.put {O:VH} {V:fy} {N:Nat} (h:vL O V N) (hV:n5 2 V) {l:List Bs} {n ck:Nat} {cs:List MV} {tk:Tok} {v:Bs} (ey:uf false (.sl 0 [] .nil) (jk l V)= .sl n cs tk) (hc:cs.length=n) (hn:n<=N) (ha:App O 0 1 tk) (hu:cS cs=cs):
  vL (O.after tk) (jI l (.sl (n+1) (cs++[.str v]) (.own O.next 1)) ck V) (N+1):=by
 have qJ:∃n' cs' t,(MV.sl (n+1) (cs++[.str v]) (.own O.next 1))= .sl n' cs' t/\cs'.length=n'/\n'<=N+1/\App (O.after tk) 0 1 t/\cS cs'=cs':=⟨_,_,_,rfl,by rw[Kn,hc];rfl,by omega,App.after (agw _),by rw[m5,hu];simp only[wu]⟩
 have ew:∀p∈V,∀n' cs' t',p.2.1= .sl n' cs' t'->∀x,Tok.id t'=some x->x<O.next:=fun p hp n' cs' t' e x hx=>by
  obtain⟨a,b,c,h1,_,_,h4,_⟩:=h.row p hp;rw[h1]at e;injection e with _ _ e;subst e
  exact adW h4 hx
 unfold jI;cases kE:V.any (·.1==l)
 ·rw[if_neg (by simp)]
  have DJ:∀p∈V,p.1≠l:=fun p hp e=>by
   rw[alJ]at kE;exact kE p hp (by simp[e])
  rw[wM DJ]at ey;simp only[uf]at ey;injection ey with e1 e2 e3;subst e1;subst e2;subst e3
  refine⟨fun p hp=>?_,fun i j p r n' cs' tk' n'' aju ajv hi hj Ga hp hr x hx=>?_⟩
  ·rcases agx.1 hp with hp | hp
   ·exact h.app ha hp (fun _ _ _ _ x hx=>by cases hx)
   ·rw[acs.1 hp];exact qJ
  ·rw[alN]at hi hj;split at hi<;>split at hj
   ·exact h.one i j p r _ _ _ _ _ _ hi hj Ga hp hr x hx
   ·have Pz:=acw hj;rw[acs]at Pz;subst Pz;dsimp only at hr;injection hr with _ _ e;subst e
    intro e2;injection e2 with e2
    have:=ew p (acw hi) _ _ _ hp x hx;omega
   ·have xm:=acw hi;rw[acs]at xm;subst xm;dsimp only at hp;injection hp with _ _ e;subst e
    injection hx with hx;intro e2;have:=ew r (acw hj) _ _ _ hr x e2;omega
   ·have h1:=(acv.1 hi).1;have h2:=(acv.1 hj).1;simp only[XN,RZ]at h1 h2;omega
 ·rw[if_pos rfl];obtain⟨p0,hp0,zV⟩:=List.any_eq_true.1 kE;have zV:=eq_of_beq zV;obtain⟨i0,hi0,e0⟩:=agt.1 hp0;have kh:V[i0]?=some p0:=by rw[agr hi0,e0]
  have oW:=I7 hV.one kh;rw[zV]at oW;rw[oW]at ey;simp only[uf]at ey;have ey:p0.2.1= .sl n cs tk:=ey
  have tI:∀{i:Nat} {p:List Bs×MV×Nat},V[i]?=some p->p.1=l->i=i0:=fun{i p} hi dL=>by
   have h1:(V.map (·.1))[i]?=some l:=by rw[ah0,hi];exact congrArg some dL
   have h2:(V.map (·.1))[i0]?=some l:=by rw[ah0,kh];exact congrArg some zV
   exact(List.getElem?_inj (by rw[ags];exact(acv.1 hi).1) hV.one).1 (h1.trans h2.symm)
  refine⟨fun p' hp'=>?_,fun i j p' r' n' cs' tk' n'' aju ajv hi hj Ga hp hr x hx=>?_⟩
  ·obtain⟨p,hp,rfl⟩:=alT.1 hp';by_cases e:p.1=l
   ·rw[if_pos e];exact qJ
   ·rw[if_neg e];obtain⟨j,hj,ej⟩:=agt.1 hp;have C7:V[j]?=some p:=by rw[agr hj,ej]
    exact h.app ha hp (fun n' cs' tk' e2 x hx=>h.one i0 j p0 p _ _ _ _ _ _ kh C7 (fun e3=>by subst e3;rw[kh]at C7;injection C7 with C7;exact e (C7▸zV)) ey e2 x hx)
  ·rw[ah0]at hi hj;obtain⟨p,Q2,rfl⟩:=ah2.1 hi;obtain⟨r,hrj,rfl⟩:=ah2.1 hj;by_cases e:p.1=l
   ·by_cases e2:r.1=l
    ·exact absurd ((tI Q2 e).trans (tI hrj e2).symm) Ga
    ·rw[if_pos e]at hp;rw[if_neg e2]at hr;dsimp only at hp;injection hp with _ _ e3;subst e3
     injection hx with hx;intro e4;have:=ew r (acw hrj) _ _ _ hr x e4;omega
   ·rw[if_neg e]at hp;by_cases e2:r.1=l
    ·rw[if_pos e2]at hr;dsimp only at hr;injection hr with _ _ e3;subst e3
     intro e4;injection e4 with e4
     have:=ew p (acw Q2) _ _ _ hp x hx;omega
    ·rw[if_neg e2]at hr;exact h.one i j p r _ _ _ _ _ _ Q2 hrj Ga hp hr x hx
structure nr (O:VH) (k:Nat) (L:List (Gv×Bs×Option Pm)) (E V:fy) (ke kv ce cv:Nat) (r a:Int):Prop where
 st:Gy O k ke kv E ce V cv r a
 len:E.length=L.length
 JC:∀(i:Nat) (g:Gv) (t:Bs) (o:Option Pm),L[i]?=some (g,t,o)->∃(q c:Nat),E[i]?=some (eJ g,MV.ptr q 0,c)/\(q:Nat)<O.next/\O.hp q=some (.cells (aaP t o))
 dis:∀(i j:Nat) (p r:List Bs×MV×Nat) (q:Nat),E[i]?=some p->E[j]?=some r->p.2.1=MV.ptr q 0->r.2.1=MV.ptr q 0->i=j
 ver:vL O V L.length
theorem adX (O:VH):VF Tryz.prog 27 [] O (aE fun m O'=>m= .ptr (O.next+2) 0/\nr O' (O.next+2) [] [] [] O.next (O.next+1) 0 0 0 0/\O.Ge O'):=by
 refine VF.bN 5 [.tmp 0] Tryz.func27 ?_;have nB:Gi (k9 [(0,1),(1,1),(2,1),(3,1)]) [.v (.map none),.v (.map none),.v (.int .i64 0),.v (.int .i64 0)] (.map O.next) [(1,.map (O.next+1))] (some (0,1))=some [.map O.next,.map (O.next+1),.v (.int .i64 0),.v (.int .i64 0)]:=rfl;refine VC.ag aa (ae @d_ ?_);refine VC.ag aa (ao @d_ @nB ?_);refine WC.sound aa (ae @d_ ?_);obtain⟨hg,hn,h1,h2,h3⟩:=lP (O:=O) (.map [] 0) (.map [] 0) (.cells [.map O.next,.map (O.next+1),.v (.int .i64 0),.v (.int .i64 0)]) rfl;refine⟨⟨⟨h3,h1,h2,⟨by simp,by simp⟩,⟨by simp,by simp⟩,by simp,by omega,by omega⟩,rfl,by simp,by simp,⟨by simp,by simp⟩⟩,hg⟩
theorem Nc {tab:bY} {O:VH} {t kd te:TypeId} {k a b ck:Nat} {z:List MV} {es:uB} (h:tab t=some ⟨.map kd te,a,b,z⟩) (hb:O.hp k=some (.map es ck)):py tab O t (.map k)=some (.v (.int .i64 es.length)):=by simp[py,h,hb]
theorem Fu {M:fy} {l:List Bs} (h:jk l M=none):∀p∈M,p.1≠l:=by
 unfold jk at h;rw[Option.map_eq_none_iff,List.find?_eq_none]at h;intro p hp e;exact h p hp (by simp[e])
theorem H7 {x y:Gv} (h:eJ x=eJ y):x=y:=by
 obtain⟨a,b,c⟩:=x;obtain⟨d,e,f⟩:=y;simp only[eJ,List.cons.injEq,and_true]at h;obtain⟨rfl,rfl,rfl⟩:=h;rfl
section
variable {O O':VH} {k ke kv ce cv:Nat} {L:List (Gv×Bs×Option Pm)} {E V:fy} {r a:Int}
theorem nr.none (h:nr O k L E V ke kv ce cv r a) {g:Gv} (fG:∀x∈L,x.1≠g):jk (eJ g) E=none:=by
 refine wM fun p hp e=>?_
 obtain⟨i,hi,rfl⟩:=agt.1 hp;have hiL:i<L.length:=by rw[<-h.len];exact hi
 obtain⟨q,c,h1,_⟩:=h.JC i L[i].1 L[i].2.1 L[i].2.2 (agr hiL);rw[agr hi]at h1;injection h1 with h1;rw[h1]at e;exact fG _ (ah7 hiL) (H7 e)
theorem nr.some (h:nr O k L E V ke kv ce cv r a) {i:Nat} {g:Gv} {t:Bs} {o:Option Pm} (hi:L[i]?=some (g,t,o)):∃q c,jk (eJ g) E=some (.ptr q 0)/\q<O.next/\O.hp q=some (.cells (aaP t o))/\E[i]?=some (eJ g,.ptr q 0,c):=by
 obtain⟨q,c,h1,h2,h3⟩:=h.JC i g t o hi;exact⟨q,c,I7 h.st.MG.one h1,h2,h3,h1⟩
end
theorem aho {O:VH} {k ke kv ce cv:Nat} {L:List (Gv×Bs×Option Pm)} {E V:fy} {r a:Int} (h:nr O k L E V ke kv ce cv r a) (g:Gv) (t:Bs) (hm:Ah g=true) (jn:tf g) (fG:∀x∈L,x.1≠g) (hL:L.length<1024):
  VF Tryz.prog 47 [.ptr k 0,.agg (bW g),.str t] O (aE fun m O'=>m=mi 0/\(∃E' V' Q3 Q4,nr O' k (L++[(g,t,none)]) E' V' ke kv Q3 Q4 r a)/\O.next<=O'.next/\∀i cs,i<O.next->O.hp i=some (.cells cs)->O'.hp i=some (.cells cs)):=by
 have yG:=h.none fG;have Gr:=h.len;have dd:=h.st;have hh:BH E g=false:=by unfold BH;rw[yG];rfl
 have ew:=dd.lt;have hL3:(eJ g).length=3:=rfl;have hLs:=vG jn;have hmg:=fun O'=>VK g O' jn.1 jn.2.1 jn.2.2
 have aaQ:=fun(O':VH) (g':O.Ge O')=>SU (dd.ge g') g jn
 rw[hm]at hmg;rw[hh]at aaQ;obtain⟨g1,g2,g3⟩:=g;simp only[bW]at hmg aaQ ⊢;refine VF.bN 50 [.tmp 6] Tryz.func47 ?_;refine VC.ag aa (ae @d_ ?_);refine VC.bx ?_;rintro O1 ⟨aM,ez,cW⟩;refine VC.ag aa (ao @d_ @ez ?_);refine ah.rt (hmg O1) ?_;rintro _ O2 ⟨rfl,ay⟩;have jc:=ay.at ez;have gN:=aM.trans ay;refine ao @d_ @jc ?_;refine ah.rt (aaQ O2 gN) ?_;rintro _ O3 ⟨rfl,aG⟩;have eP:=gN.trans aG;have lq:=(aG.hp _ (by have:=ay.next;omega)).trans jc;have gm:=eP.next;have h3:=dd.ge eP;have dz:=h3.cell;have Q1:=h3.CA;simp only[aq]at dz;have hEn:(cI E).length<1024:=by unfold cI;rw[ags];omega
 have Bc:=Nc T94 Q1;have Gp:(cI E).length=L.length:=by unfold cI;rw[ags];exact Gr
 rw[Gp]at Bc;refine aJ @d_ @dz @Bc ?_;refine VC.bB ?_;refine WC.bO (.held [8]) [(0,.rd),(1,.rd),(2,.rd),(3,.rd),(4,.rd),(5,.rd),(6,.rd),(7,.one),(8,.one)] ?_;refine aJ @d_ @dz @lq ?_;have heP:∀{x:cf},(O3.push x).hp ke=some (.map (cI E) ce):=(VH.bA _ _ h3.lt.2.1).trans Q1
 refine VL.oH rfl rfl (oG.jI vF (l:=eJ ⟨g1,g2,g3⟩) (b:=ke) (ck:=ce) (M:=E) Tryz.underlying94 rfl heP h3.MG rfl hL3 hLs rfl) (fun brk hb i hi=>?_) (WL.sound aa ?_)
 ·cases hb
  rcases i with _ | _ | _ | _ | _ | _ | _ | _ | _ | i<;>first
   | rfl
   | (exfalso;revert hi;simp)
 have uj:E.any (·.1==eJ ⟨g1,g2,g3⟩)=false:=by
  rw[alJ];intro p hp hpe;have:=Fu yG p hp;exact this (eq_of_beq hpe)
 unfold jI LP;rw[uj];refine ae @d_ ?_;refine VC.gen ?_;intro O4 e4;have gI:O4.next=O3.next+1:=by rw[e4];rfl
 have afy:=h3.lt;have Nf:O.next+1<=O3.next:=by have:=ay.next;have:=aG.next;omega
 have rG:∀i,i<O3.next->i≠ke->O4.hp i=O3.hp i:=fun i h1 h2=>by rw[e4,VH.ak _ _ h2];exact VH.bA _ _ h1
 have he4:O4.hp ke=some (.map (cI (E++[(eJ ⟨g1,g2,g3⟩,MV.ptr O3.next 0,ce)])) (ce+1)):=by rw[e4];exact VH.an _ _ _
 have JB:O4.hp O3.next=some (.cells [.str t,.v (.int .u32 0),.v (.int .i32 0),.v (.int .u32 0),.v (.bool false),.str [],.str [],.str [],.str [],.str [],.str [],.str [],.sl 0 [] .nil,.sl 0 [] .nil,.sl 0 [] .nil,.v (.int .i64 0),.str [],.str [],.str [],.v (.int .i64 0),.v (.int .i64 0),.v (.int .i64 0),.str []]):=by
  rw[e4,VH.ak _ _ (by omega)];exact VH.aW _ _
 clear e4 heP;refine VC.WK JB (cs':=ja t 0 0 AB iZ) (eS.ajt _ _ _ _ _ _ _ _ _ _ _ _ _ _ _ _ _ _ _ _) ?_;refine VC.gen ?_;intro O5 e5;have fS:O5.next=O3.next+1:=by rw[e5];exact gI
 have ia:∀i,i<O3.next->i≠ke->O5.hp i=O3.hp i:=fun i h1 h2=>by rw[e5,VH.ak _ _ (by omega)];exact rG i h1 h2
 have he5:O5.hp ke=some (.map (cI (E++[(eJ ⟨g1,g2,g3⟩,MV.ptr O3.next 0,ce)])) (ce+1)):=by rw[e5,VH.ak _ _ (by omega)];exact he4
 have EM:O5.hp O3.next=some (.cells (ja t 0 0 AB iZ)):=by rw[e5];exact VH.an _ _ _
 clear e5 rG he4 JB gI O4;have gq:=(ia k (by omega) dd.ne.1).trans dz;have oP:=(ia kv (by omega) (Ne.symm dd.ne.2.2)).trans h3.HY;have lz:=(ia O.next (by omega) (by omega)).trans lq;have aaR:vL O5 V L.length:=(h.ver.ge eP).mv (by omega) fun i hi e=>(ia i hi (fun e2=>by subst e2;rw[Q1]at e;cases e)).trans e
 obtain⟨n,cs,tk,ir,gk,hnn,uc,eW⟩:∃n cs tk,uf false (.sl 0 [] .nil) (jk (AD ⟨g1,g2⟩) V)= .sl n cs tk/\cs.length=n/\n<=L.length/\App O5 0 1 tk/\cS cs=cs:=by
  cases ey:jk (AD ⟨g1,g2⟩) V with
  | none=>exact⟨0,[],.nil,rfl,rfl,agw _,trivial,rfl⟩
  | some m=>
    unfold jk at ey;obtain⟨p,qA,rfl⟩:=ah2.1 ey;obtain⟨n,cs,tk,k1,k2,k3,k4,k5⟩:=aaR.row p (alE qA);exact⟨n,cs,tk,k1,k2,k3,k4,k5⟩
 have GC:=dd.vok;have H8:=ahh ⟨g1,g2,g3⟩
 have C8:∀s∈AD ⟨g1,g2⟩,s.length<=maxLen:=by
  intro s hs;simp only[AD,ah4,alS,or_false]at hs;rcases hs with rfl | rfl
  ·exact jn.1
  ·exact jn.2.1
 simp only[bW]at H8;refine VC.bB ?_;refine VC.s8 [17] (fun O'=>O'.hp k=O5.hp k/\O'.hp O.next=O5.hp O.next) (⟨rfl,rfl⟩) ?_;refine ab.av 0 ?_;refine ae @d_ ?_;refine ab.av 1 ?_;refine ae @d_ ?_;refine ab.av 2 ?_;refine ae @d_ ?_;refine ab.mP (m:=.map kv) 3 ?_ ?_
 ·rintro O2 ⟨j1,j2⟩;exact dq @d_ (j1.trans gq)
 simp only[aj];refine ab.mP (m:=.agg [.str g1,.str g2,.str g3]) 4 ?_ ?_
 ·rintro O2 ⟨j1,j2⟩;exact dq @d_ (j2.trans lz)
 simp only[aj];refine ab.av 6 ?_;refine ae @d_ ?_;refine ab.av 7 ?_;refine ae @d_ ?_;refine ab.av 8 ?_;refine ae @d_ ?_;refine ab.mP (m:=.map kv) 9 ?_ ?_
 ·rintro O2 ⟨j1,j2⟩;exact dq @d_ (j1.trans gq)
 simp only[aj];refine ab.mP (m:=.agg [.str g1,.str g2,.str g3]) 10 ?_ ?_
 ·rintro O2 ⟨j1,j2⟩;exact dq @d_ (j2.trans lz)
 simp only[aj];refine ab.av 13 ?_;refine ae @d_ ?_;refine ab.mP (m:=.str g3) 14 ?_ ?_
 ·rintro O2 ⟨j1,j2⟩;exact dq @d_ (j2.trans lz)
 simp only[aj];have hJ:∀O',O5.Ge O'->O'.hp k=O5.hp k/\O'.hp O.next=O5.hp O.next:=fun O' g=>⟨g.hp _ (by omega),g.hp _ (by omega)⟩
 have mH:∀OO,O5.Ge OO->∀OF,OF=(OO.after tk).set kv (.map (cI (jI (AD ⟨g1,g2⟩) (.sl (n+1) (cs++[.str g3]) (.own OO.next 1)) cv V)) (LP (AD ⟨g1,g2⟩) cv V))->(∃E' V' Q3 Q4,nr OF k (L++[((⟨g1,g2,g3⟩:Gv),t,none)]) E' V' ke kv Q3 Q4 r a)/\O.next<=OF.next/\∀i cs,i<O.next->O.hp i=some (.cells cs)->OF.hp i=some (.cells cs):=by
  intro OO hG OF eF;have hoO:=hG.next
  have hF:∀i,i<O5.next->O5.hp i≠some .tok->i≠kv->OF.hp i=O5.hp i:=fun i hi hne hv=>by
   rw[eF,VH.ak _ _ hv];have e1:=hG.hp i hi;rw[App.off (uc.ge hG) (Km hi hG.next) (by rw[e1];exact hne)];exact e1
  have Q5:O5.next<=OF.next:=by
   have:OF.next=(OO.after tk).next:=by rw[eF];rfl
   have:=(cL.after (uc.ge hG)).next;omega
  have hold:∀i cs,i<O.next->O.hp i=some (.cells cs)->OF.hp i=some (.cells cs):=fun i cs hi e=>by
   have e3:=(eP.hp i hi).trans e;have e5:=(ia i (by omega) (fun e2=>by subst e2;rw[Q1]at e3;cases e3)).trans e3;exact(hF i (by omega) (by rw[e5];simp) (fun e2=>by subst e2;rw[oP]at e5;cases e5)).trans e5
  have aaS:=rW (y:=MV.ptr O3.next 0) (ck:=ce) h3.MG hL3 hLs;unfold jI at aaS;rw[uj]at aaS;refine⟨⟨_,_,_,_,⟨⟨(hF _ (by omega) (by rw[gq];simp) dd.ne.2.1).trans gq,(hF _ (by omega) (by rw[he5];simp) dd.ne.2.2).trans he5,by rw[eF];exact VH.an _ _ _,aaS,rW GC rfl C8,fun p hp=>?_,⟨by omega,by omega,by omega⟩,dd.ne⟩,by rw[Kn,Kn,Gr];rfl,fun i g' t' o' hi=>?_,fun i j p r' q hi hj hp hr=>?_,?_⟩⟩,by omega,hold⟩
  ·rcases agx.1 hp with hp | hp
   ·exact dd.ptr p hp
   ·rw[acs.1 hp];exact⟨_,rfl⟩
  ·rw[alN]at hi;split at hi
   ·rename_i Q6;obtain⟨q,c,k1,k2,k3⟩:=h.JC i g' t' o' hi;exact⟨q,c,by rw[alQ (by omega)];exact k1,by omega,hold q _ k2 k3⟩
   ·rename_i Q6;have xm:=acw hi;rw[acs]at xm;injection xm with e1 e2;injection e2 with e2 e3
    subst e1;subst e2;subst e3
    have hlen:=(acv.1 hi).1;simp only[XN,RZ]at hlen;refine⟨O3.next,ce,?_,by omega,(hF _ (by omega) (by rw[EM];simp) (by omega)).trans EM⟩;rw[alD (by omega),Gr,show i - L.length=0 by omega];rfl
  ·have hq:∀(i:Nat) (p:List Bs×MV×Nat) (q:Nat),E[i]?=some p->p.2.1=MV.ptr q 0->q<O.next:=fun i p q hi hp=>by
    have Q6:i<L.length:=by rw[<-Gr];exact(acv.1 hi).1
    obtain⟨q',c,k1,k2,_⟩:=h.JC i _ _ _ (agr Q6);rw[hi]at k1;injection k1 with k1
    rw[k1]at hp;dsimp only at hp;injection hp with hp;omega
   rw[alN]at hi hj;split at hi<;>split at hj
   ·exact h.dis i j p r' q hi hj hp hr
   ·have Pz:=acw hj;rw[acs]at Pz;subst Pz;dsimp only at hr;injection hr with hr;have:=hq i p q hi hp;omega
   ·have xm:=acw hi;rw[acs]at xm;subst xm;dsimp only at hp;injection hp with hp;have:=hq j r' q hj hr;omega
   ·have h1:=(acv.1 hi).1;have h2:=(acv.1 hj).1;simp only[XN,RZ]at h1 h2;omega
  ·rw[Kn];have hvO:=vL.put (ck:=cv) (v:=g3) (aaR.ge hG) GC ir gk hnn (uc.ge hG) eW;rw[eF];refine hvO.mv (TP _) fun i hi e=>?_
   by_cases e2:i=kv
   ·subst e2;rw[App.off (uc.ge hG) (by omega) (by rw[hG.hp _ (by omega),oP];simp),hG.hp _ (by omega),oP]at e;cases e
   ·exact(VH.ak _ _ e2).trans e
 have hG:=VH.Ge.refl O5;refine ab.pair (i:=5) (j:=15) ?_ ?_
 ·refine aK.jj (H8 _) ?_;rintro _ O6 ⟨rfl,rj⟩
  replace hG:=hG.trans rj
  clear rj;simp only[aj];refine⟨hJ _ hG,?_⟩;refine ab.pair (i:=11) (j:=15) ?_ ?_
  ·refine aK.jj (H8 _) ?_;rintro _ O7 ⟨rfl,rj⟩
   replace hG:=hG.trans rj
   clear rj;simp only[aj];refine⟨hJ _ hG,?_⟩;refine ab.pair (i:=12) (j:=15) ?_ ?_
   ·refine aK.rF (fQ.lK Cy aa (l:=AD ⟨g1,g2⟩) (te:=⟨_,1,24,[.sl 0 [] .nil]⟩) Tryz.underlying95 xi rfl rfl (hG.at oP) GC rfl rfl C8) ?_;rw[ir];refine⟨hJ _ hG,?_⟩;refine ab.op (i:=15) ?_;refine ae @d_ ?_;refine⟨hJ _ hG,?_⟩;have cC:=bj (tk:=tk) (tk':=.full) (B:=0) (n:=n) (k:=1) (cs:=cs) (ds:=[.str g3]) xi T9 (O:=O7) (uc.ge hG) (by rw[alV];exact gk) rfl rfl (by decide) (by decide) (by omega) (by simp only[maxLen];omega)
    have vA:∀i,i<O5.next->O5.hp i≠some .tok->((O7).after tk).hp i=O5.hp i:=fun i hi hne=>by
     have e1:=(hG).hp i hi;rw[App.off (uc.ge hG) (Km hi (hG).next) (by rw[e1];exact hne)];exact e1
    refine ab.op (i:=16) ?_;rw[cX];refine ao @d_ @cC ?_;refine⟨⟨vA _ (by omega) (by rw[gq];simp),vA _ (by omega) (by rw[lz];simp)⟩,?_⟩;refine ab.bO [(17,.one)] ?_;refine ae @d_ ?_;refine VL.oH rfl rfl (oG.jI Cy (l:=AD ⟨g1,g2⟩) (b:=kv) (ck:=cv) (M:=V) Tryz.underlying95 rfl ((vA _ (by omega) (by rw[oP];simp)).trans oP) GC rfl rfl C8 rfl) (fun brk hb=>by cases hb) (WL.sound aa ?_);refine ae @d_ ?_;refine VC.gen ?_;intro OF eF;refine VC.ag aa (ae @d_ ?_);refine WC.sound aa (ae @d_ ?_);exact mH O7 hG OF eF
   ·refine aK.o1 ?_;refine ae @d_ ?_;refine⟨hJ _ hG,?_⟩;refine ab.one (i:=12) (aK.rF (fQ.lK Cy aa (l:=AD ⟨g1,g2⟩) (te:=⟨_,1,24,[.sl 0 [] .nil]⟩) Tryz.underlying95 xi rfl rfl (hG.at oP) GC rfl rfl C8) ?_);rw[ir];refine⟨hJ _ hG,?_⟩;have cC:=bj (tk:=tk) (tk':=.full) (B:=0) (n:=n) (k:=1) (cs:=cs) (ds:=[.str g3]) xi T9 (O:=O7) (uc.ge hG) (by rw[alV];exact gk) rfl rfl (by decide) (by decide) (by omega) (by simp only[maxLen];omega)
    have vA:∀i,i<O5.next->O5.hp i≠some .tok->((O7).after tk).hp i=O5.hp i:=fun i hi hne=>by
     have e1:=(hG).hp i hi;rw[App.off (uc.ge hG) (Km hi (hG).next) (by rw[e1];exact hne)];exact e1
    refine ab.op (i:=16) ?_;rw[cX];refine ao @d_ @cC ?_;refine⟨⟨vA _ (by omega) (by rw[gq];simp),vA _ (by omega) (by rw[lz];simp)⟩,?_⟩;refine ab.bO [(17,.one)] ?_;refine ae @d_ ?_;refine VL.oH rfl rfl (oG.jI Cy (l:=AD ⟨g1,g2⟩) (b:=kv) (ck:=cv) (M:=V) Tryz.underlying95 rfl ((vA _ (by omega) (by rw[oP];simp)).trans oP) GC rfl rfl C8 rfl) (fun brk hb=>by cases hb) (WL.sound aa ?_);refine ae @d_ ?_;refine VC.gen ?_;intro OF eF;refine VC.ag aa (ae @d_ ?_);refine WC.sound aa (ae @d_ ?_);exact mH O7 hG OF eF
  ·refine aK.o1 ?_;refine ae @d_ ?_;refine⟨hJ _ hG,?_⟩;refine ab.one (i:=11) (aK.jj (H8 _) ?_);rintro _ O7 ⟨rfl,rj⟩
   replace hG:=hG.trans rj
   clear rj;simp only[aj];refine⟨hJ _ hG,?_⟩;refine ab.one (i:=12) (aK.rF (fQ.lK Cy aa (l:=AD ⟨g1,g2⟩) (te:=⟨_,1,24,[.sl 0 [] .nil]⟩) Tryz.underlying95 xi rfl rfl (hG.at oP) GC rfl rfl C8) ?_);rw[ir];refine⟨hJ _ hG,?_⟩;have cC:=bj (tk:=tk) (tk':=.full) (B:=0) (n:=n) (k:=1) (cs:=cs) (ds:=[.str g3]) xi T9 (O:=O7) (uc.ge hG) (by rw[alV];exact gk) rfl rfl (by decide) (by decide) (by omega) (by simp only[maxLen];omega)
   have vA:∀i,i<O5.next->O5.hp i≠some .tok->((O7).after tk).hp i=O5.hp i:=fun i hi hne=>by
    have e1:=(hG).hp i hi;rw[App.off (uc.ge hG) (Km hi (hG).next) (by rw[e1];exact hne)];exact e1
   refine ab.op (i:=16) ?_;rw[cX];refine ao @d_ @cC ?_;refine⟨⟨vA _ (by omega) (by rw[gq];simp),vA _ (by omega) (by rw[lz];simp)⟩,?_⟩;refine ab.bO [(17,.one)] ?_;refine ae @d_ ?_;refine VL.oH rfl rfl (oG.jI Cy (l:=AD ⟨g1,g2⟩) (b:=kv) (ck:=cv) (M:=V) Tryz.underlying95 rfl ((vA _ (by omega) (by rw[oP];simp)).trans oP) GC rfl rfl C8 rfl) (fun brk hb=>by cases hb) (WL.sound aa ?_);refine ae @d_ ?_;refine VC.gen ?_;intro OF eF;refine VC.ag aa (ae @d_ ?_);refine WC.sound aa (ae @d_ ?_);exact mH O7 hG OF eF
 ·refine aK.o1 ?_;refine ae @d_ ?_;refine ab.one (i:=5) (aK.jj (H8 _) ?_);rintro _ O6 ⟨rfl,rj⟩
  replace hG:=hG.trans rj
  clear rj;simp only[aj];refine⟨hJ _ hG,?_⟩;refine ab.one (i:=11) (aK.jj (H8 _) ?_);rintro _ O7 ⟨rfl,rj⟩
  replace hG:=hG.trans rj
  clear rj;simp only[aj];refine⟨hJ _ hG,?_⟩;refine ab.one (i:=12) (aK.rF (fQ.lK Cy aa (l:=AD ⟨g1,g2⟩) (te:=⟨_,1,24,[.sl 0 [] .nil]⟩) Tryz.underlying95 xi rfl rfl (hG.at oP) GC rfl rfl C8) ?_);rw[ir];refine⟨hJ _ hG,?_⟩;have cC:=bj (tk:=tk) (tk':=.full) (B:=0) (n:=n) (k:=1) (cs:=cs) (ds:=[.str g3]) xi T9 (O:=O7) (uc.ge hG) (by rw[alV];exact gk) rfl rfl (by decide) (by decide) (by omega) (by simp only[maxLen];omega)
  have vA:∀i,i<O5.next->O5.hp i≠some .tok->((O7).after tk).hp i=O5.hp i:=fun i hi hne=>by
   have e1:=(hG).hp i hi;rw[App.off (uc.ge hG) (Km hi (hG).next) (by rw[e1];exact hne)];exact e1
  refine ab.op (i:=16) ?_;rw[cX];refine ao @d_ @cC ?_;refine⟨⟨vA _ (by omega) (by rw[gq];simp),vA _ (by omega) (by rw[lz];simp)⟩,?_⟩;refine ab.bO [(17,.one)] ?_;refine ae @d_ ?_;refine VL.oH rfl rfl (oG.jI Cy (l:=AD ⟨g1,g2⟩) (b:=kv) (ck:=cv) (M:=V) Tryz.underlying95 rfl ((vA _ (by omega) (by rw[oP];simp)).trans oP) GC rfl rfl C8 rfl) (fun brk hb=>by cases hb) (WL.sound aa ?_);refine ae @d_ ?_;refine VC.gen ?_;intro OF eF;refine VC.ag aa (ae @d_ ?_);refine WC.sound aa (ae @d_ ?_);exact mH O7 hG OF eF
open Go.MapKept (run_setObj_map)
set_option linter.defProp false in
def dG:=yP d_<|yP ZQ<|yP T75<|yP T3<|yP aix Bo
def iM (d:Dp):Ky:=⟨d.g,d.a,if d.t=[]then[106,97,114]else d.t,d.c⟩
theorem JD (d:Dp) (O:VH):VF Tryz.prog 74 [.agg (aS d)] O (aE fun m O'=>m= .agg (fY (iM d))/\O.Ge O'):=by
 obtain⟨g,a,v,t,c,s,o,x⟩:=d;simp only[aS,iM,fY];refine VF.bN 18 [.cell 2 30] Tryz.func74 ?_;refine VC.ag aa (ae @dG ?_);refine VC.gen ?_;intro O1 e1;obtain⟨aM,cW,cJ,cA⟩:=gj _ _ e1;clear e1;refine VC.ag aa (ao @dG @cJ ?_);refine VC.al ?_;rintro O2 ⟨ay,jc,iq⟩;have ct:=ay.at cA;cases t with
 | nil=>
   rw[if_pos rfl];refine VC.ag aa (aJ @dG @jc (show(([]:List UInt8)==[])=true from rfl) ?_);refine WC.sound aa (aJ @dG @jc @ct ?_);exact(((aM.trans ay).set (by omega) _).set (by omega) _)
 | cons y t=>
   rw[if_neg (by simp)];refine VC.ag aa (aJ @dG @jc (show((y::t)==[])=false from rfl) ?_);refine WC.sound aa (aJ @dG @jc @ct ?_);exact(aM.trans ay).set (by omega) _
section
variable {G H:Gh} {n:Sz} {D:List Deferred} {e e':Env} {a:Act} {P:Program} {tab:bY} {O O':VH} {w:World} {m m':MV} {u v:Value} {ops:Array Oper} {Q:VQ} {md:Md}
structure Cnt (N:Nat) (M:fy) (j:Int):Prop where
 ok:n5 N M
 int:∀p∈M,∃x:Int,p.2.1=mi x/\0<=x/\x<=j
theorem fV.S7 {kt et:TypeId} {N:Nat} (K:tR P kt N) (ht:aL P tab) {d:Option Tmp} {t ty:TypeId} {x y:Operand} {ps:String} {af:Array Edge} {g:Option (Nat×Bool)} {b ck:Nat} {M:fy} {l:List (List UInt8)} {te:cy} {z:MV} (hU:P.underlying t=some (.map kt et)) (nw:tab et=some te) (hz:wF te=some z)
  (hx:ev e x=some (.map b)) (hb:O.hp b=some (.map (cI M) ck)) (hM:n5 N M) (hy:ev e y=some (.agg (l.map .str))) (hl:l.length=N) (hs:∀s∈l,s.length<=maxLen):
  fV P n D (.mk d (.mapEntry t x y) ty ps af g) e O fun m O'=>∃(M':fy) (ck':Nat) (v:MV) (st:Nat),m= .tuple [v,.v (.int .i64 st)]/\O'=O.set b (.map (cI M') ck')/\n5 N M'/\(∀p∈M',p∈M\/p.2.1=z)/\(∃p∈M',p.2.2=st):=by
 intro G a w hw hf;have h1:=hf.ev hx;have h2:=hf.ev hy;generalize oF:a.eval x=u at h1;generalize yA:a.eval y=v at h2;have hv:=z8 h2;subst hv;cases h1 with
 | map eB=>
   rename_i b';obtain⟨b2,E,e1,e2,e3,e4,e5⟩:=hw.map _ _ _ hb;rw[eB]at e1;injection e1 with e1;subst e1
   have hE:gK G (cI M) E.toList:=⟨e3,e4,e5⟩;obtain⟨lit,xE⟩:=K.of l hl hs;have CS:=K.law.check w false xE;obtain⟨zv,z1,z2⟩:=yl (ht et te nw) hz;rcases z_ K hM hE hl hs w with⟨g1,g2⟩ | ⟨j,p,q,g1,g2,g3,g4,g5⟩
   ·have kE:M.any (·.1==l)=false:=by rw[alJ];intro p hp;simpa using g2 p hp
    have hr:gK G (cI (M++[(l,z,ck)])) (E.push {key:=fB l,val:=zv,born:=ck}).toList:=by
     rw[Array.toList_push];unfold cI;rw[alF];exact hE.append (gK.cons rfl h2 (z2 G) gK.nil)
    have cK:=rW (y:=z) (ck:=ck) hM hl hs;unfold jI at cK;rw[kE]at cK;refine⟨.tuple [z,.v (.int .i64 ck)],O.set b (.map (cI (M++[(l,z,ck)])) (ck+1)),.tuple #[zv,.int .i64 ck],?wx,G,⟨M++[(l,z,ck)],ck+1,z,ck,rfl,rfl,cK,fun p hp=>?_,⟨_,alL _ (acs.2 rfl),rfl⟩⟩,?rn,Gh.Le.refl G,?wr,?vr⟩
    case wr=>exact hw.sH (ck':=ck+1) hb eB e2 hr
    case rn=>
     simp only[execOp,oF,yA,Instr.mapEntry,Sem.run_bind,run_underlying hU,Result.andThen_ok,MapKept.run_getObj_map e2,CS,g1,z1,run_setObj_map _ e2];rfl
    case vr=>exact VR.tuple (us:=[zv,.int .i64 ck]) rfl (aO.cons (z2 G) (aO.cons (.v rfl) aO.nil)).2
    rcases agx.1 hp with hp | hp
    ·exact .inl hp
    ·rw[acs.1 hp];exact .inr rfl
   ·obtain⟨k1,k2,k3⟩:=hE.keys.2 j p q g2 g4;have dd:=K.law.stays w xE;have I9:q.key=fB l:=by rw[k1,g3]
    have C7:E[j]?=some q:=by simpa using g4
    have pB:((E[j]?).map (·.key)).getD (fB l)=fB l:=by rw[C7];exact I9
    have zg:((E[j]?).map (fun x=>((x.born:Nat):Int))).getD 0=(p.2.2:Int):=by rw[C7];exact congrArg (fun n:Nat=>(n:Int)) k3
    have ajw:E.modify j (fun x=>{x with key:=fB l})=E:=by
     have hj:=(Array.getElem?_eq_some_iff.1 C7);obtain⟨cT,aX⟩:=hj;apply Array.ext
     ·simp
     ·intro i Q0 gG;rw[Array.getElem_modify];split
      ·rename_i e;subst e
       rw[aX, <-I9]
      ·rfl
    refine⟨.tuple [p.2.1,.v (.int .i64 p.2.2)],O.set b (.map (cI M) ck),.tuple #[q.val,.int .i64 p.2.2],?wy,G,⟨M,ck,p.2.1,p.2.2,rfl,rfl,hM,fun p hp=>.inl hp,⟨p,acw g2,rfl⟩⟩,?rm,Gh.Le.refl G,?ws,?vs⟩
    case ws=>exact hw.sH (E':=E) (ck':=ck) hb eB e2 hE
    case rm=>
     simp only[execOp,oF,yA,Instr.mapEntry,Sem.run_bind,run_underlying hU,Result.andThen_ok,MapKept.run_getObj_map e2,CS,g1,pB,dd,ajw,zg,run_setObj_map _ e2];rfl
    case vs=>exact VR.tuple (us:=[q.val,.int .i64 p.2.2]) rfl (aO.cons g5 (aO.cons (.v rfl) aO.nil)).2
def BU (P:Program) (n:Sz) (D:List Deferred) (o:Oper) (e:Env) (O:VH) (Φ :VH->Prop):Prop:=∀G a w,WR G O w->FR G n D e a->∃w' H O', Φ O'/\(execOp a.eval o).run P w= .ok .skip w'/\Gh.Le G H/\WR H O' w'
theorem aK.adY {i:Nat} {o:Oper} {K:Env->VH->Prop} {Φ :VH->Prop} (ho:ops[i]?=some o) (hg:aN ops o e=some true) (hd:bp n o.dst=true) (hy:BU P n D o e O Φ) (h:∀O', Φ O'->K (aV o.dst cG e) O'):aK P n D ops i e O Q K:=by
 intro G a w hw aU;obtain⟨w',H,O',hΦ,hr,h1,h2⟩:=hy G a w hw aU;simp only[wpOp,ho,bn aU hg,if_true];refine .inl ?_;unfold Oper.wp;rw[hr];exact⟨_,_,H,h1,h2,(aU.mono h1).aV hd k7,h _ hΦ⟩
theorem sj {α β :Type} {f: α -> α} {g: α -> β} (h:∀x,g (f x)=g x) (L:List α) (i:Nat):(L.modify i f).map g=L.map g:=by
 refine alR fun j=>?_
 rw[ah0,ah0,alO];cases L[j]? with
 | none=>rfl
 | some x=>
   simp only[alG];split
   ·exact congrArg some (h x)
   ·rfl
theorem Ng {α β :Type} {f: α -> α} {g: α -> β} {y: β} (h:∀x,g (f x)=y) (L:List α) (i:Nat):(L.modify i f).map g=(L.map g).set i y:=by
 refine alR fun j=>?_
 rw[ah0,alO,List.getElem?_set,ah0,ags];by_cases e:i=j
 ·subst e;rw[if_pos rfl];by_cases hl:i<L.length
  ·rw[if_pos hl,agr hl];simp[h]
  ·rw[if_neg hl,List.getElem?_eq_none (by omega)];rfl
 ·rw[if_neg e];cases L[j]? with
  | none=>rfl
  | some x=>simp[e]
theorem BU.H9 {d:Option Tmp} {t ty:TypeId} {x y z:Operand} {ps:String} {af:Array Edge} {g:Option (Nat×Bool)} {b ck st N:Nat} {M:fy} (hx:ev e x=some (.map b)) (hb:O.hp b=some (.map (cI M) ck)) (hM:n5 N M) (hy:ev e y=some (.v (.int .i64 st))) (hz:ev e z=some m) (LQ:∃p∈M,p.2.2=st):
  BU P n D (.mk d (.entryStore t x y z) ty ps af g) e O fun O'=>∃M',O'=O.set b (.map (cI M') ck)/\n5 N M'/\∀p∈M',p∈M\/p.2.1=m:=by
 intro G a w hw hf;have h1:=hf.ev hx;have h2:=hf.ev hy;have h3:=hf.ev hz;generalize oF:a.eval x=u at h1;generalize yA:a.eval y=v at h2;generalize haz:a.eval z=r at h3;have hv:=h2.iP;subst hv;cases h1 with
 | map eB=>
   rename_i b';obtain⟨b2,E,e1,e2,e3,e4,e5⟩:=hw.map _ _ _ hb;rw[eB]at e1;injection e1 with e1;subst e1
   have hE:gK G (cI M) E.toList:=⟨e3,e4,e5⟩;have hlen:=hE.keys.1;obtain⟨p,hp,hps⟩:=LQ;obtain⟨j,hj,ej⟩:=agt.1 hp;have ZM:j<E.toList.length:=by omega
   have ahp:=(hE.keys.2 j p E.toList[j] (by rw[agr hj,ej]) (agr ZM)).2.2;have ahq:E.toList[j]∈E:=by simp
   obtain⟨i,hi⟩:∃i,E.findIdx? (fun e=>(e.born:Int)==(st:Int))=some i:=by
    have:(E.findIdx? (fun e=>(e.born:Int)==(st:Int))).isSome=true:=by
     rw[Array.findIdx?_isSome];rw[Array.any_eq_true'];exact⟨_,ahq,by rw[ahp,hps];simp⟩
    exact Option.isSome_iff_exists.1 this
   have hr:gK G (cI (M.modify i fun p=>(p.1,m,p.2.2))) (E.modify i fun e=>{e with val:=r}).toList:=by
    rw[Array.toList_modify];refine⟨?_,?_,?_⟩
    ·rw[sj (f:=fun e:MapEntry=>{e with val:=r}) (g:=fun x=>x.born) (fun _=>rfl) E.toList i,e3];unfold cI;rw[alH,alH];exact(sj (f:=fun p:List Bs×MV×Nat=>(p.1,m,p.2.2)) (fun _=>rfl) M i).symm
    ·rw[sj (f:=fun e:MapEntry=>{e with val:=r}) (g:=fun x=>x.key) (fun _=>rfl) E.toList i]
     have:(cI (M.modify i fun p=>(p.1,m,p.2.2))).map (·.1)=(cI M).map (·.1):=by
      unfold cI;rw[alH,alH];exact sj (f:=fun p:List Bs×MV×Nat=>(p.1,m,p.2.2)) (fun _=>rfl) M i
     rw[this];exact e4
    ·rw[Ng (f:=fun e:MapEntry=>{e with val:=r}) (g:=fun x=>x.val) (y:=r) (fun _=>rfl) E.toList i]
     have:(cI (M.modify i fun p=>(p.1,m,p.2.2))).map (·.2.1)=((cI M).map (·.2.1)).set i m:=by
      unfold cI;rw[alH,alH];exact Ng (f:=fun p:List Bs×MV×Nat=>(p.1,m,p.2.2)) (fun _=>rfl) M i
     rw[this];exact e5.set h3
   have aaT:∀p∈M.modify i (fun p=>(p.1,m,p.2.2)),(∃p0∈M,p.1=p0.1/\p.2.2=p0.2.2)/\(p∈M\/p.2.1=m):=fun p hp=>by
    obtain⟨j,hj,ej⟩:=agt.1 hp;have hg:(M.modify i (fun p=>(p.1,m,p.2.2)))[j]?=some p:=by rw[agr hj,ej]
    rw[alO]at hg;cases hm:M[j]? with
    | none=>rw[hm]at hg;cases hg
    | some p0=>
      rw[hm]at hg
      change some _=some p at hg
      injection hg with hg;have Nh:=acw hm;split at hg
      ·subst hg;exact⟨⟨p0,Nh,rfl,rfl⟩,.inr rfl⟩
      ·subst hg;exact⟨⟨_,Nh,rfl,rfl⟩,.inl Nh⟩
   refine⟨?wx,G,O.set b (.map (cI (M.modify i fun p=>(p.1,m,p.2.2))) ck),⟨_,rfl,⟨fun p hp=>?_,?_⟩,fun p hp=>(aaT p hp).2⟩,?rn,Gh.Le.refl G,?wr⟩
   case wr=>exact hw.sH (ck':=ck) hb eB e2 hr
   case rn=>
    simp only[execOp,oF,yA,haz,Instr.entryStore,Sem.run_bind,Result.andThen_ok,MapKept.run_getObj_map e2,asInt,asIntOf,Sem.run_pure,hi,run_setObj_map _ e2]
   ·obtain⟨p0,h1,h2,_⟩:=(aaT p hp).1;rw[h2];exact hM.len p0 h1
   ·have:(M.modify i (fun p=>(p.1,m,p.2.2))).map (·.1)=M.map (·.1):=sj (f:=fun p:List Bs×MV×Nat=>(p.1,m,p.2.2)) (fun _=>rfl) M i;rw[this];exact hM.one
end
theorem aK.Ni {P:Program} {n:Sz} {D:List Deferred} {ops:Array Oper} {e:Env} {O:VH} {Q:VQ} {i:Nat} {op:Op} {ty:TypeId} {ps:String} {af:Array Edge} {g:Option (Nat×Bool)} {K:Env->VH->Prop} {Φ :VH->Prop} (ho:ops[i]?=some (.mk none op ty ps af g)) (hg:aN ops (.mk none op ty ps af g) e=some true) (hy:BU P n D (.mk none op ty ps af g) e O Φ) (h:∀O', Φ O'->K e O'):aK P n D ops i e O Q K:=
 aK.adY ho hg rfl hy h
theorem ab.st1 {P:Program} {n:Sz} {D:List Deferred} {e:Env} {O:VH} {Q:VQ} {brk:List Nat} {Ψ :Gh->Prop} {J:VH->Prop} {Z:Prop} {fuel i d:Nat} {listed:Array Bool} {l:List Oper} {op:Op} {ty:TypeId} {ps:String} {af:Array Edge} {g:Option (Nat×Bool)} {M:MV->VH->Prop} (hy:fV P n D (.mk (some d) op ty ps af g) e O M)
  (h:∀m O',M m O'->J O'/\ab P n D ⟨l⟩ brk J Ψ Z fuel (listed.setIfInBounds i true) ((d,m)::e) O' Q) (hr:Region.ready .any ⟨l⟩ listed=[i]:=by kernel_rfl) (ho:l[i]?=some (.mk (some d) op ty ps af g):=by exact rfl) (hg:aN ⟨l⟩ (.mk (some d) op ty ps af g) e=some true:=by exact rfl) (hd:bp n (some d)=true:=by exact rfl):ab P n D ⟨l⟩ brk J Ψ Z (fuel+1) listed e O Q:=ab.st hy h (hr:=hr) (ho:=ho) (hg:=hg) (hd:=hd)
theorem aK.st1 {P:Program} {n:Sz} {D:List Deferred} {e:Env} {O:VH} {Q:VQ} {i d:Nat} {l:List Oper} {op:Op} {ty:TypeId} {ps:String} {af:Array Edge} {g:Option (Nat×Bool)} {M:MV->VH->Prop} {K:Env->VH->Prop} (hy:fV P n D (.mk (some d) op ty ps af g) e O M)
  (h:∀m O',M m O'->K ((d,m)::e) O') (ho:l[i]?=some (.mk (some d) op ty ps af g):=by exact rfl) (hg:aN ⟨l⟩ (.mk (some d) op ty ps af g) e=some true:=by exact rfl) (hd:bp n (some d)=true:=by exact rfl):aK P n D ⟨l⟩ i e O Q K:=aK.st hy h (ho:=ho) (hg:=hg) (hd:=hd)
theorem GR.less {O:VH} {el:TypeId} {sz B B':Nat} {p:MV} {n:Nat} {L:List MV} (h:GR O el sz B p n L) (hB:B'<=B):GR O el sz B' p n L:=by
 rcases h with h | ⟨k,c,h1,h2,h3,h4⟩
 ·exact .inl h
 ·obtain⟨j,k1,k2,k3⟩:=h4.nG;exact .inr ⟨k,c,h1,h2,h3,⟨h4.cells,⟨j,ah1 hB k1,k2,k3⟩,ah1 hB h4.lo,h4.hi⟩⟩
def eb (x:Ky):List Bs:=[x.g,x.a,x.t,x.c]
def CE (d:Dp):Prop:=d.g.length<=100000/\d.a.length<=100000/\d.v.length<=100000/\d.t.length<=100000/\d.c.length<=100000/\d.x.length<=10000
theorem Nj {d:Dp} (h:CE d):∀s∈eb (iM d),s.length<=maxLen:=by
 obtain⟨h1,h2,h3,h4,h5,h6⟩:=h;intro s hs;simp only[eb,iM,ah4,alS,or_false]at hs;have hm:100000<=maxLen:=by simp[maxLen]
 rcases hs with rfl | rfl | rfl | rfl
 ·omega
 ·omega
 ·split
  ·exact ah1 (by decide) hm
  ·omega
 ·omega
theorem aaU (L:List Dp) (tk t2:Tok) (O:VH) (hn:L.length<=10000) (hL:∀d∈L,CE d):
  VF Tryz.prog 202 [.sl L.length (L.flatMap aS) tk,.sl 0 [] t2,.func (.func 74) [] []] O (aE fun m O'=>O.Ge O'/\GR O' 63 8 O.next m L.length (L.flatMap aS)):=by
 have dL:=aQ gB L;refine VF.bN 49 [.tmp 6] Tryz.func202 ?_;refine VC.ag aa (ae @dG ?_);refine VC.ag aa (ae @dG ?_);refine VC.gen ?_;intro O1 e1;have aM:O.Ge O1:=by rw[e1];exact(VH.Ge.refl O).push _
 have cW:O1.next=O.next+1:=by rw[e1];rfl
 have JE:O1.hp O.next=some (.map (cI []) 0):=by rw[e1];exact VH.aW _ _
 clear e1;refine VC.bC [0,1,2,7] (fun _:Unit=>[.sl L.length (L.flatMap aS) tk,.sl 0 [] t2,.func (.func 74) [] [],.map O.next]) (fun _ O'=>O.Ge O'/\O.next+1<=O'.next) ?_ ?_
 ·refine VC.ag aa (ae @dG ?_);refine VC.az ?_;refine VC.bG [16] [0,1,2,7,14,15] (fun j:Nat=>[mi j]) (fun j O'=>O.Ge O'/\O.next+1<=O'.next/\j<=L.length/\∃M ck,O'.hp O.next=some (.map (cI M) ck)/\Cnt 4 M j) (fun j=>L.length - j) (0) ?_ ?_
  ·exact⟨aM,by omega,agw _,[],0,JE,⟨by simp,by simp⟩,by simp⟩
  rintro j O3 ⟨aG,gm,hj,M,ck,GD,hM⟩;by_cases aX:j<L.length;rotate_left
  ·obtain rfl:j=L.length:=by omega
   refine WC.sound aa (ae @dG ?_);exact aA.mk () ⟨aG,gm⟩
  have bw:=bU gB L j aX;have kj:=Nj (hL L[j] (List.getElem_mem aX));have C9:=JD L[j];generalize L[j]=d at*;have hkm:fY (iM d)=(eb (iM d)).map .str:=rfl;have jq:(eb (iM d)).length=4:=rfl;generalize eb (iM d)=kl at*;rw[hkm]at C9;obtain⟨dg,da,dv,dt,dc,kO,dO,dx⟩:=d;simp only[aS,aq]at bw C9;have cT:((j:Int)+1)=((j+1:Nat):Int):=by omega
  refine VC.ag aa (ae @dG ?_);refine VC.ag aa (ae @dG ?_);refine VC.bB (VC.az ?_);refine VC.ag aa (ao @dG @bw ?_);refine VC.al ?_;rintro O4 ⟨aY,eA,gI⟩;have Fv:=aY.at GD;refine VC.s8 [] (fun O'=>True) (trivial) ?_;refine ab.av 0 ?_;refine ae @dG ?_;refine ab.av 1 ?_;refine ae @dG ?_;refine ab.op (i:=2) ?_;refine ao @dG @eA ?_;refine ab.p5 (i:=3) (C9 O4) ?_ ?_;rotate_left
  ·rintro m O5 h;exact h.elim
  rintro _ O5 ⟨rfl,bH⟩;simp only[aj];refine⟨trivial,?_⟩;have xn:=bH.at Fv
  obtain⟨x,hx,hx0,hxj⟩:∃x:Int,uf false (mi 0) (jk kl M)=mi x/\0<=x/\x<=j:=by
   cases ey:jk kl M with
   | none=>exact⟨0,rfl,by omega,by omega⟩
   | some m=>
     unfold jk at ey;obtain⟨p,qA,rfl⟩:=ah2.1 ey;obtain⟨x,k1,k2,k3⟩:=hM.int p (alE qA);exact⟨x,k1,k2,k3⟩
  simp only[aq]at hx;refine ab.pair (i:=4) (j:=6) ?_ ?_
  ·refine aK.rF (fQ.lK rC aa (l:=kl) (te:=⟨_,1,8,[.v (.int .i64 0)]⟩) Tryz.underlying75 T3 rfl rfl xn hM.ok rfl jq kj) ?_;rw[hx];refine⟨trivial,?_⟩;refine ab.av 5 ?_;refine ae @dG ?_;refine ab.st1 (i:=6) (fV.S7 rC aa (l:=kl) (te:=⟨_,1,8,[.v (.int .i64 0)]⟩) Tryz.underlying75 T3 rfl rfl xn hM.ok rfl jq kj) ?_;rintro m O6 ⟨M1,ck1,v1,st,rfl,e6,S8,aaV,aaW⟩;refine⟨trivial,?_⟩;have WM:O6.hp O.next=some (.map (cI M1) ck1):=by rw[e6];exact VH.an _ _ _
   have Nk:O.Ge O6:=by rw[e6];exact((aG.trans aY).trans bH).set (TP _) _
   have n9:O.next+1<=O6.next:=by rw[e6];show O.next+1<=O5.next;have:=bH.next;omega
   have Q7:∀p∈M1,∃y:Int,p.2.1=mi y/\0<=y/\y<=j:=fun p hp=>by
    rcases aaV p hp with hp | hp
    ·exact hM.int p hp
    ·exact⟨0,hp,by omega,by omega⟩
   refine ab.av 7 ?_;refine ae @dG ?_;refine ab.one (i:=8) (aK.Ni rfl rfl (BU.H9 rfl WM S8 rfl rfl aaW) ?_);rintro O7 ⟨M2,e7,aaX,aaY⟩;refine⟨trivial,?_⟩;refine ab.bO [] ?_;refine ae @dG ?_;refine WC.sound aa (ao @dG @cT ?_);refine ax.next (j+1) ⟨?_,?_,aX,M2,_,by rw[e7];exact VH.an _ _ _,aaX,fun p hp=>?_⟩
   ·rw[e7];exact Nk.set (TP _) _
   ·rw[e7];show O.next+1<=(O6).next;omega
   ·rcases aaY p hp with hp | hp
    ·obtain⟨y,k1,k2,k3⟩:=Q7 p hp;exact⟨y,k1,k2,by push_cast;omega⟩
    ·exact⟨_,hp,by omega,by push_cast;omega⟩
  ·refine aK.st1 (fV.S7 rC aa (l:=kl) (te:=⟨_,1,8,[.v (.int .i64 0)]⟩) Tryz.underlying75 T3 rfl rfl xn hM.ok rfl jq kj) ?_;rintro m O6 ⟨M1,ck1,v1,st,rfl,e6,S8,aaV,aaW⟩;refine⟨trivial,?_⟩;have WM:O6.hp O.next=some (.map (cI M1) ck1):=by rw[e6];exact VH.an _ _ _
   have Nk:O.Ge O6:=by rw[e6];exact((aG.trans aY).trans bH).set (TP _) _
   have n9:O.next+1<=O6.next:=by rw[e6];show O.next+1<=O5.next;have:=bH.next;omega
   have Q7:∀p∈M1,∃y:Int,p.2.1=mi y/\0<=y/\y<=j:=fun p hp=>by
    rcases aaV p hp with hp | hp
    ·exact hM.int p hp
    ·exact⟨0,hp,by omega,by omega⟩
   refine ab.av 7 ?_;refine ae @dG ?_;clear hx hx0 hxj
   obtain⟨x,hx,hx0,hxj⟩:∃x:Int,uf false (mi 0) (jk kl M1)=mi x/\0<=x/\x<=j:=by
    cases ey:jk kl M1 with
    | none=>exact⟨0,rfl,by omega,by omega⟩
    | some m=>
      unfold jk at ey;obtain⟨p,qA,rfl⟩:=ah2.1 ey;obtain⟨x,k1,k2,k3⟩:=Q7 p (alE qA);exact⟨x,k1,k2,k3⟩
   simp only[aq]at hx;refine ab.one (i:=4) (aK.rF (fQ.lK rC aa (l:=kl) (te:=⟨_,1,8,[.v (.int .i64 0)]⟩) Tryz.underlying75 T3 rfl rfl WM S8 rfl jq kj) ?_);rw[hx];refine⟨trivial,?_⟩;refine ab.av 5 ?_;refine ae @dG ?_;refine ab.one (i:=8) (aK.Ni rfl rfl (BU.H9 rfl WM S8 rfl rfl aaW) ?_);rintro O7 ⟨M2,e7,aaX,aaY⟩;refine⟨trivial,?_⟩;refine ab.bO [] ?_;refine ae @dG ?_;refine WC.sound aa (ao @dG @cT ?_);refine ax.next (j+1) ⟨?_,?_,aX,M2,_,by rw[e7];exact VH.an _ _ _,aaX,fun p hp=>?_⟩
   ·rw[e7];exact Nk.set (TP _) _
   ·rw[e7];show O.next+1<=(O6).next;omega
   ·rcases aaY p hp with hp | hp
    ·obtain⟨y,k1,k2,k3⟩:=Q7 p hp;exact⟨y,k1,k2,by push_cast;omega⟩
    ·exact⟨_,hp,by omega,by push_cast;omega⟩
 intro _ O3 ⟨aG,gm⟩;refine VC.ag aa (ae @dG ?_);refine ah.rt (Ff L tk O3 (by omega)) ?_;rintro mL O4 ⟨aY,xk⟩;refine ae @dG ?_;refine VC.bC [10] (fun _:Unit=>[mL]) (fun _ O'=>O'=O4) ?_ ?_
 ·refine VC.ag aa (ae @dG ?_);refine VC.az ?_;refine VC.bG [10,33] [2,7,31,32] (fun _:Unit=>[mL,mi 0]) (fun _ O'=>O'=O4) (fun _=>0) (()) ?_ ?_
  ·rfl
  rintro _ O5 e5;rw[e5];clear e5 O5
  refine WC.sound aa (ae @dG ?_);exact aA.mk () rfl
 rintro _ O5 e5;rw[e5];clear e5 O5
 refine WC.sound aa (ae @dG ?_);exact⟨aG.trans aY,GR.less xk (by omega)⟩
theorem aaZ (L:List Dp) (tk t2:Tok) (O:VH) (hn:L.length<=10000) (hL:∀d∈L,CE d):
  VF Tryz.prog 173 [.sl L.length (L.flatMap aS) tk,.sl 0 [] t2] O (aE fun m O'=>∃t,m= .sl L.length (L.flatMap aS) t/\O.Ge O'):=by
 have dL:=aQ gB L;refine VF.bN 27 [.tmp 4] Tryz.func173 ?_;refine VC.ag aa (ae @dG ?_);refine VC.ag aa (ae @dG ?_);refine ah.rt (aaU L tk t2 O hn hL) ?_;rintro mL O2 ⟨ay,xk⟩;rcases xk with⟨h0,_,hp⟩ | ⟨k,c,rfl,zU,_,cQ⟩
 ·obtain rfl:L=[]:=alC h0;rcases hp with rfl | rfl
  ·refine ae @dG ?_;refine VC.bC [5] (fun _:Unit=>[.sl 0 [] .nil]) (fun _ O'=>O'=O2) ?_ ?_
   ·refine VC.ag aa (ae @dG ?_);refine VC.az ?_;refine VC.bG [12] [5,11] (fun j:Nat=>[mi 0]) (fun j O'=>O'=O2) (fun j=>0) (0) ?_ ?_
    ·rfl
    rintro j O3 eO;rw[eO];clear eO O3
    refine WC.sound aa (ae @dG ?_);exact aA.mk () rfl
   intro _ O9 eO;rw[eO];clear eO O9
   refine WC.sound aa (ae @dG ?_);exact⟨_,rfl,ay⟩
  ·refine ae @dG ?_;refine VC.bC [5] (fun _:Unit=>[.sl 0 [] .full]) (fun _ O'=>O'=O2) ?_ ?_
   ·refine VC.ag aa (ae @dG ?_);refine VC.az ?_;refine VC.bG [12] [5,11] (fun j:Nat=>[mi 0]) (fun j O'=>O'=O2) (fun j=>0) (0) ?_ ?_
    ·rfl
    rintro j O3 eO;rw[eO];clear eO O3
    refine WC.sound aa (ae @dG ?_);exact aA.mk () rfl
   intro _ O9 eO;rw[eO];clear eO O9
   refine WC.sound aa (ae @dG ?_);exact⟨_,rfl,ay⟩
 obtain⟨sp,hc,jX⟩:=cQ.cells;have kj:=cQ.lo;have QJ:=cQ.hi;refine ae @dG ?_;refine VC.bC [5] (fun _:Unit=>[.bq k 0 L.length c]) (fun _ O'=>O2.Ge O') ?_ ?_
 ·refine VC.ag aa (ae @dG ?_);refine VC.az ?_;refine VC.bG [12] [5,11] (fun j:Nat=>[mi j]) (fun j O'=>O2.Ge O'/\j<=L.length) (fun j=>L.length - j) (0) ?_ ?_
  ·exact⟨VH.Ge.refl _,agw _⟩
  rintro j O3 ⟨aG,hj⟩;by_cases aX:j<L.length;rotate_left
  ·obtain rfl:j=L.length:=by omega
   refine WC.sound aa (ae @dG ?_);exact aA.mk () aG
  have eN:=(aG.hp k QJ).trans hc;have bw:(L.flatMap aS++sp)[j*8+7]?=some (.sl L[j].x.length (L[j].x.flatMap bZ) .ar):=iY gB (List.getElem?_eq_getElem aX) rfl;have hxj:=(hL L[j] (List.getElem_mem aX)).2.2.2.2.2;generalize L[j].x=X at*;generalize L.flatMap aS++sp=C at*;have kF:=wZ bw;have Jh:=(List.getElem?_eq_some_iff.1 bw).1;have cT:((j:Int)+1)=((j+1:Nat):Int):=by omega
  refine VC.ag aa (ae @dG ?_);refine VC.ag aa (ae @dG ?_);refine VC.bB (VC.az ?_);refine VC.ag aa (ae @dG ?_);refine WC.sound aa (aJ @dG @eN @bw ?_);refine ah.rt (td X .ar O3 (by omega)) ?_;rintro _ O4 ⟨rfl,aY⟩;have ff:=(aY.hp k (by have:=aG.next;omega)).trans eN;refine c_ @dG @ff @bw @kF ?_;rw[VH.wj ff];refine WC.sound aa (ao @dG @cT ?_);exact ax.next (j+1) ⟨aG.trans aY,aX⟩
 intro _ O9 bo;have Jz:=(bo.hp k QJ).trans hc;refine VC.freeze 5 (sz:=L.length*8) rfl Jz (by rw[Kn,dL];omega) ?_;have eR:((L.flatMap aS++sp).drop 0).take (L.length*8)=L.flatMap aS:=by rw[alW,ahZ (by rw[dL];exact TP _), <-dL,ahY]
 rw[eR];have sh:=ay.trans bo;have fu:O.Ge (O9.kill k):=⟨sh.next,fun i hi=>(VH.kN _ (by omega)).trans (sh.hp i hi)⟩;refine WC.sound aa (ae @dG ?_);exact⟨_,rfl,fu⟩
theorem H_ (L:List Dp) (tk t2:Tok) (O:VH) (hn:L.length<=10000) (hL:∀d∈L,CE d):
  VF Tryz.prog 173 [.sl L.length (L.flatMap aS) tk,.sl 0 [] t2] O (aE fun m O'=>m= .sl L.length (L.flatMap aS) .ar/\O.Ge O'):=
 VF.Wo (aaZ L tk t2 O hn hL) fun m O' ⟨t,h1,h3⟩=>⟨_,h1▸Wk.tok,rfl,h3⟩
set_option linter.defProp false in
def jy:=yP dG<|yP Ac<|yP Cq<|yP afb T9
theorem ahr (x:Bs×Bs) (k:Nat) (nm:Bs) (O:VH) (hk:O.hp k=some (.cells [.str nm])) (yj:k<O.next):VF Tryz.prog 228 ([.agg (bh x)]++[.ptr k 0]) O (aE fun m O'=>m=mb (x.1==nm)/\O.Ge O'):=by
 obtain⟨x1,x2⟩:=x;unfold bh;simp only[acu,XO];refine VF.bN 8 [.tmp 3] Tryz.func228 ?_;refine VC.ag aa (ae @jy ?_);refine VC.bx ?_;rintro O1 ⟨aM,ez,cW⟩;have dY:=(aM.hp k yj).trans hk;refine WC.sound aa (aJ @jy @ez @dY ?_);exact aM
theorem ahs (L:List (Bs×Bs)) (tk:Tok) (nm:Bs) (O:VH) (hn:L.length<=1000000):VF Tryz.prog 203 [.sl L.length (L.flatMap bh) tk,.str nm] O (aE fun m O'=>m=mi (idxFrom (fun x=>x.1==nm) 0 L)/\O.Ge O'):=by
 refine VF.bN 8 [.tmp 4] Tryz.func203 ?_;refine VC.ag aa (ae @jy ?_);refine VC.bx ?_;rintro O1 ⟨aM,ez,cW⟩;refine VC.ag aa (ae @jy ?_);refine ah.rt (SL L tk 228 [.ptr O.next 0] (fun x=>x.1==nm) O1 (by kernel_rfl) (fun q _ O' Jn=>ahr q _ nm O' (Jn.at ez) (by have:=Jn.next;omega)) hn) ?_;rintro _ O2 ⟨rfl,ay⟩;refine ae @jy ?_;refine WC.sound aa (ae @jy ?_);exact aM.trans ay
theorem Ia {α :Type} (p: α ->Bool):∀(L:List α) (i:Nat),(∀x∈L,p x=false)->idxFrom p i L= -1
 | [],i,_=>rfl
 | x::r,i,h=>by
   rw[idxFrom,h x (by simp)];exact Ia p r (i+1) fun y hy=>h y (alM _ hy)
theorem adZ (L:List (Bs×Bs)) (tk:Tok) (nm vl:Bs) (O:VH) (hn:L.length<=10000) (fG:∀x∈L,x.1≠nm):VF Tryz.prog 174 [.sl L.length (L.flatMap bh) tk,.str nm,.str vl] O (aE fun m O'=>(∃t,m= .sl (L++[(nm,vl)]).length ((L++[(nm,vl)]).flatMap bh) t)/\O.Ge O'):=by
 have ajx:idxFrom (fun x:Bs×Bs=>x.1==nm) 0 L= -1:=Ia _ L 0 fun x hx=>by rw[beq_eq_false_iff_ne];exact fG x hx
 refine VF.bN 28 [.tmp 6] Tryz.func174 ?_;refine VC.ag aa (ae @jy ?_);refine VC.ag aa (ae @jy ?_);refine ah.rt (BF L tk O (by omega)) ?_;rintro _ O2 ⟨t2,rfl,cC,ay⟩;refine ae @jy ?_;refine VC.ag aa (ae @jy ?_);refine ah.rt (ahs L t2 nm O2 (by omega)) ?_;rintro _ O3 ⟨rfl,aG⟩;rw[ajx];have gV:=cC.ge aG;refine ae @jy ?_;obtain⟨mE,gD,ll⟩:=fZ (n:=L.length) (cs:=L.flatMap bh) (ds:=[.str nm,.str vl]) (es:=bh (nm,vl)) Ac Cq.1.1 gV (aQ fp L) rfl rfl (by decide) (by omega) (by simp only[maxLen];omega) (f_ L) (by simp only[bh,wu]);refine VC.ag aa (ae @jy ?_);refine VL.lC gD ll ?_;refine ae @jy ?_;refine WC.sound aa (ae @jy ?_);refine⟨⟨.own O3.next 2,by rw[Kn,akF];rfl⟩,cL.ei (ay.trans aG) gV (cL.after gV)⟩
theorem S9 (L M:List (Bs×Bs)) (tk tM:Tok) (O:VH) (hn:L.length+M.length<=10000) (fG:∀x∈L,∀y∈M,x.1≠y.1) (hM:M.Pairwise fun x y=>x.1≠y.1):VF Tryz.prog 146 [.sl L.length (L.flatMap bh) tk,.sl M.length (M.flatMap bh) tM] O (aE fun m O'=>(∃t,m= .sl (L++M).length ((L++M).flatMap bh) t)/\O.Ge O'):=by
 have hpm:=aQ fp M;refine VF.bN 24 [.tmp 4] Tryz.func146 ?_;refine VC.ag aa (ae @jy ?_);refine VC.ag aa (ae @jy ?_);refine ah.rt (BF L tk O (by omega)) ?_;rintro _ O2 ⟨t2,rfl,cC,ay⟩;refine ae @jy ?_;refine VC.join aa [5] (fun t:Tok=>[.sl (L++M).length ((L++M).flatMap bh) t]) (fun t O'=>O.Ge O') ?_ ?_;rotate_left
 ·intro t O9 bo;refine ae @jy ?_;exact⟨⟨t,rfl⟩,bo⟩
 refine VC.ag aa (ae @jy ?_);refine VC.az ?_;refine VC.bG [5,12] [10,11] (fun x:Nat×List (Bs×Bs)×Tok=>[.sl x.2.1.length (x.2.1.flatMap bh) x.2.2,mi x.1]) (fun x O'=>O.Ge O'/\x.1<=M.length/\x.2.1=L++M.take x.1) (fun x=>M.length - x.1) ((0,L,t2)) ?_ ?_
 ·exact⟨ay,agw _,by simp⟩
 rintro⟨j,LM,t⟩ O3 ⟨aG,hj,JF⟩;dsimp only at hj JF ⊢;by_cases aX:j<M.length;rotate_left
 ·obtain rfl:j=M.length:=by omega
  rw[ahY]at JF;subst JF;refine WC.sound aa (ae @jy ?_);exact aA.mk t aG
 have bw:=bU fp M j aX;have jm:L++M.take (j+1)=(L++M.take j)++[M[j]]:=by rw[c6 _ _ aX,alI]
 have hnw:∀x∈L++M.take j,x.1≠M[j].1:=fun x hx=>by
  rcases agx.1 hx with hx | hx
  ·exact fG x hx _ (ah7 aX)
  ·obtain⟨i,hi,rfl⟩:=agt.1 hx;rw[agu]at hi;rw[alK];exact(ah5.1 hM) i j (by omega) aX (by omega)
 have hlen:(L++M.take j).length<=10000:=by rw[Kn,agu];omega
 rw[<-JF]at jm hnw hlen;generalize M[j]=y at*;obtain⟨yn,yv⟩:=y;simp only[bh]at bw;have cT:((j:Int)+1)=((j+1:Nat):Int):=by omega
 refine VC.ag aa (ae @jy ?_);refine VC.ag aa (ae @jy ?_);refine VC.bB (VC.az ?_);refine VC.ag aa (ao @jy @bw ?_);refine VC.al ?_;rintro O4 ⟨aY,jq,gI⟩;refine WC.sound aa (ao @jy @jq ?_);refine ah.rt (adZ LM t yn yv O4 (by omega) hnw) ?_;rintro _ O5 ⟨⟨t5,rfl⟩,bH⟩;refine ae @jy ?_;refine WC.sound aa (ao @jy @cT ?_);exact ax.next (j+1,LM++[(yn,yv)],t5) ⟨(aG.trans aY).trans bH,aX,jm.symm⟩
set_option linter.defProp false in
def b_:=yP jy<|yP kG<|yP LS<|yP ae_<|yP xF<|yP Bp<|yP u_<|yP T71 T4
theorem nr.ge {O O':VH} {k ke kv ce cv:Nat} {L:List (Gv×Bs×Option Pm)} {E V:fy} {r a:Int} (h:nr O k L E V ke kv ce cv r a) (g:O.Ge O'):nr O' k L E V ke kv ce cv r a:=
 ⟨h.st.ge g,h.len,fun i x t o hi=>by obtain⟨q,c,h1,h2,h3⟩:=h.JC i x t o hi;exact⟨q,c,h1,Km h2 g.next,(g.hp _ h2).trans h3⟩,h.dis,h.ver.ge g⟩
structure PmC (p:Pm):Prop where
 ok:aaO p
 hp:p.hp=false
 eE:∀d∈p.eE,CE d
 en:∀d∈p.en,CE d
 props:p.props.Pairwise fun x y=>x.1≠y.1
theorem aa0 (p:Pm) (O:VH) (hc:PmC p):VF Tryz.prog 145 [.agg (gC p),.agg fb] O (aE fun m O'=>m= .agg (gC p)/\O.Ge O'):=by
 refine VF.fg ?_;obtain⟨cK,nH,afz,aa1,S_⟩:=hc;obtain⟨k1,k2,k3,k4,k5⟩:=cK;obtain⟨b,⟨pg,pa,pv⟩,g,a,v,pk,P,M,D⟩:=p;dsimp only at nH k1 k2 k3 k4 k5 afz aa1 S_;subst nH;simp only[gC,a_];refine VF.bN 48 [.cell 4 106] Tryz.func145 ?_;refine VC.ag aa (ae @b_ ?_);refine VC.gen ?_;intro O1 e1;obtain⟨aM,cW,cJ,cA,fW⟩:=lP _ _ _ e1;clear e1;refine VC.ag aa (ao @b_ @cJ ?_);refine VC.al ?_;rintro O2 ⟨ay,bJ,iq⟩;have iK:=ay.at cJ;have ct:=ay.at cA;have jB:=ay.at fW;have gN:=aM.trans ay;clear aM ay cJ cA fW;refine VC.ag aa (ao @b_ @bJ ?_);refine VC.ag aa (ao @b_ @bJ ?_);refine VC.ag aa (aJ @b_ @iK @ct ?_);refine ah.rt (S9 [] P .nil .ar O2 (by simp;omega) (by simp) S_) ?_;rintro _ O3 ⟨⟨t3,rfl⟩,aG⟩;rw[XO];have rB:=aG.at iK;have cg:=aG.at ct;have eN:=aG.at jB;have dz:=aG.at bJ;have gm:=aG.next;refine ao @b_ @dz ?_;refine VC.gen ?_;intro O4 e4;have rG:∀i,i≠O1.next->O4.hp i=O3.hp i:=fun i hi=>by rw[e4];exact VH.ak _ _ hi
 have kR:=(rG _ (by omega)).trans rB;have cU:=(rG _ (by omega)).trans cg;have ff:=(rG _ (by omega)).trans eN;have jq:O4.hp O1.next=some (.cells [.v (.bool false),.str pg,.str pa,.str pv,.str g,.str a,.str v,.str pk,.sl P.length (P.flatMap bh) t3,.sl M.length (M.flatMap aS) .ar,.sl D.length (D.flatMap aS) .ar]):=by rw[e4];exact VH.an _ _ _
 have gI:O4.next=O3.next:=by rw[e4];rfl
 have ig:O.Ge O4:=by rw[e4];exact(gN.trans aG).set (by omega) _
 clear e4 rG rB cg eN dz iK ct jB bJ;refine VC.bB ?_;refine VC.Dn [11,12,13] (O.next) (O.next+1) (kR) (cU) ?_ (hne:=(by omega));intro X1 X2;refine ab.av 0 ?_;refine ae @b_ ?_;refine ab.oe (m:=.sl M.length (M.flatMap aS) .ar) 1 (fun _ h=>h.1) (fun _ h=>h.1) ?_ ?_
 ·exact fe @b_
 simp only[aj];refine ab.av 2 ?_;refine ae @b_ ?_;refine ab.oe (m:=.sl 0 [] .nil) 3 (fun _ h=>h.2) (fun _ h=>h.2) ?_ ?_
 ·exact fe @b_
 simp only[aj];refine ab.av 5 ?_;refine ae @b_ ?_;refine ab.oe (m:=.sl D.length (D.flatMap aS) .ar) 6 (fun _ h=>h.1) (fun _ h=>h.1) ?_ ?_
 ·exact fe @b_
 simp only[aj];refine ab.av 7 ?_;refine ae @b_ ?_;refine ab.oe (m:=.sl 0 [] .nil) 8 (fun _ h=>h.2) (fun _ h=>h.2) ?_ ?_
 ·exact fe @b_
 simp only[aj];have hJ:Mn O.next (O.next+1) X1 X2 ((O4.set O.next (.obj X1)).set (O.next+1) (.obj X2)):=⟨VH.sn (VH.an _ _ _),VH.an _ _ _⟩;have gq:=(VH.ak (O4.set O.next (.obj X1)) (.obj X2) (by omega:O1.next≠O.next+1)).trans ((VH.ak O4 (.obj X1) (by omega:O1.next≠O.next)).trans jq);have fK:=(VH.ak (O4.set O.next (.obj X1)) (.obj X2) (by omega:O.next+2≠O.next+1)).trans ((VH.ak O4 (.obj X1) (by omega:O.next+2≠O.next)).trans ff);have fS:((O4.set O.next (.obj X1)).set (O.next+1) (.obj X2)).next=O4.next:=rfl;have bH:O.Ge ((O4.set O.next (.obj X1)).set (O.next+1) (.obj X2)):=(ig.set (by omega) _).set (by omega) _;generalize (O4.set O.next (.obj X1)).set (O.next+1) (.obj X2)=O5 at*;refine ab.call (i:=4) (H_ M .ar .nil O5 k2 afz) ?_;rintro _ O6 ⟨rfl,fJ⟩;simp only[aj];refine⟨⟨fJ.at hJ.1,fJ.at hJ.2⟩,?_⟩;refine ab.av 10 ?_;refine ae @b_ ?_;refine ab.call (i:=9) (H_ D .ar .nil O6 k3 aa1) ?_;rintro _ O7 ⟨rfl,fC⟩;simp only[aj];have qQ:=fJ.trans fC;refine⟨⟨qQ.at hJ.1,qQ.at hJ.2⟩,?_⟩;have ui:=qQ.at gq;have hc7:=qQ.at fK;refine ab.wS [(11,.one),(12,.av),(13,.one)] ?_ (hne:=(by omega));have um:=(VH.ak (O7.set O.next (.cells [.v (.bool false),.str pg,.str pa,.str pv,.str g,.str a,.str v,.str pk,.sl P.length (P.flatMap bh) .ar,.sl M.length (M.flatMap aS) .ar,.sl D.length (D.flatMap aS) .ar])) (.cells fb) (by omega:O1.next≠O.next+1)).trans ((VH.ak O7 (.cells [.v (.bool false),.str pg,.str pa,.str pv,.str g,.str a,.str v,.str pk,.sl P.length (P.flatMap bh) .ar,.sl M.length (M.flatMap aS) .ar,.sl D.length (D.flatMap aS) .ar]) (by omega:O1.next≠O.next)).trans ui);refine ao @b_ @ui ?_;refine VC.gen ?_;intro O8 e8;have iI:O.Ge O8:=by rw[e8];exact((((bH.trans qQ).set (by omega) _).set (by omega) _).set (by omega) _).set (by omega) _
 have hk9:O8.hp O1.next=some (.cells [.v (.bool false),.str pg,.str pa,.str pv,.str g,.str a,.str v,.str pk,.sl P.length (P.flatMap bh) t3,.sl M.length (M.flatMap aS) .ar,.sl D.length (D.flatMap aS) .ar]):=by rw[e8];exact VH.an _ _ _
 have Jz:O8.hp (O.next+2)=some (.cells fb):=by rw[e8,VH.ak _ _ (by omega),VH.ak _ _ (by omega),VH.ak _ _ (by omega),VH.ak _ _ (by omega)];exact hc7
 clear e8;have Nl:O.next+1+1=O.next+2:=by omega
 rw[Nl];refine VC.ag aa (aJ @b_ @hk9 @Jz ?_);refine WC.sound aa (ae @b_ ?_)
 first
  | exact iI.set (by omega) _
  | exact⟨by simp only[wu,f_,lg],iI.set (by omega) _⟩
theorem ad0 {O:VH} {k ke kv ce cv:Nat} {L:List (Gv×Bs×Option Pm)} {E V:fy} {r a:Int} (h:nr O k L E V ke kv ce cv r a) {i:Nat} {g:Gv} {t:Bs} {n:Nd} {p:Pm} (hi:L[i]?=some (g,t,none)) (hg:tf g) (ht:t.length<=65536) (hb:ie t= .ok n) (hr:oL n= .ok p) (hc:PmC p):
  VF Tryz.prog 144 [.ptr k 0,.agg (bW g)] O (aE fun m O'=>(∃t1 t2,m= .tuple [.sl 1 (gC p) t1,.sl 1 (bW g) t2,.agg (pd iZ)])/\∃q,jk (eJ g) E=some (.ptr q 0)/\q<O.next/\(∃r' a',O'.hp k=some (.cells [.map ke,.map kv,mi r',mi a']))/\O'.hp q=some (.cells (ja t 1 0 p iZ))/\de O k q O'):=by
 obtain⟨q,c,ey,oc,hq,_⟩:=h.some hi;have C_:=fun(O':VH) (g':O.Ge O')=>ahn (h.st.ge g') g hg ey ((g'.hp q oc).trans hq) (Km oc g'.next) ht hb hr hc.ok
 have kj:=h.st.lt.1;have nH:=hc.hp;have ak8:=hc.ok;clear hi hq h hc hb hr;have hpu:=VO p;obtain⟨g1,g2,g3⟩:=g;obtain⟨b,⟨pg,pa,pv⟩,pG,pA,pV,pk,P,M,D⟩:=p;dsimp only at nH;subst nH;simp only[bW,gC,pd,iZ,a_,aq]at C_ hpu ⊢;refine VF.bN 51 [.tmp 4,.tmp 5,.cell 6 71] Tryz.func144 ?_;refine VC.ag aa (ae @b_ ?_);refine VC.gen ?_;intro O1 e1;obtain⟨aM,cW,cJ,cA⟩:=gj _ _ e1;clear e1;refine VC.ag aa (ae @b_ ?_);refine VC.ag aa (ae @b_ ?_);refine VC.az ?_;refine VC.bG [7,8] [0,3,6] (fun _:Unit=>[.sl 0 [] .nil,.sl 0 [] .nil]) (fun _ O'=>O'=O1) (fun _=>0) (()) ?_ ?_
 ·rfl
 rintro _ O2 e2;rw[e2];clear e2 O2
 refine VC.az ?_;refine VC.ag aa (ao @b_ @cJ ?_);refine ah.rt (C_ O1 aM) ?_;rintro _ O2 ⟨rfl,⟨r',a',bJ⟩,tr,dm⟩;have iq:=dm.next;have iK:=(dm.hp _ (by omega) (by omega) (by omega)).trans cJ;have ct:=(dm.hp _ (by omega) (by omega) (by omega)).trans cA;have Nn:=(de.of (k:=k) (q:=q) aM).trans dm;refine ae @b_ ?_;refine VC.gen ?_;intro O3 e3;have aG:O2.Ge O3:=by rw[e3];exact((((VH.Ge.refl O2).push _).push _).set (TP _) _).set (ah3 _) _
 have oM:O3.hp O2.next=some (.cells [.v (.bool false),.str pg,.str pa,.str pv,.str pG,.str pA,.str pV,.str pk,.sl P.length (P.flatMap bh) .ar,.sl M.length (M.flatMap aS) .ar,.sl D.length (D.flatMap aS) .ar]):=by rw[e3,VH.ak _ _ (by omega)];exact VH.an _ _ _
 have lq:O3.hp (O2.next+1)=some (.cells [.v (.int .i64 0),.str [],.str [],.str [],.v (.int .i64 0),.v (.int .i64 0),.v (.int .i64 0),.str []]):=by rw[e3];exact VH.an _ _ _
 have gm:O3.next=O2.next+2:=by rw[e3];rfl
 clear e3;have rB:=aG.at iK;have cg:=aG.at ct;have dz:=aG.at bJ;have vJ:=aG.at tr;have cP:=Nn.ge aG;clear iK ct bJ tr Nn dm cJ cA;refine VC.ag aa (ao @b_ @lq ?_);refine VL.Bj aa (bb:=false) (b:=true) (by simp) (by simp[iE]) (.inr ⟨rfl,rfl⟩) (by kernel_rfl) (by kernel_rfl) rfl rfl rfl rfl ?_;refine ae @b_ ?_;refine VC.bB ?_;refine VC.Dn [] (O2.next) (O.next) (oM) (rB) ?_ (hne:=(by omega));intro X1 X2;refine ab.av 0 ?_;refine ae @b_ ?_;refine ab.oe (m:=.agg [.v (.bool false),.str pg,.str pa,.str pv,.str pG,.str pA,.str pV,.str pk,.sl P.length (P.flatMap bh) .ar,.sl M.length (M.flatMap aS) .ar,.sl D.length (D.flatMap aS) .ar]) 1 (fun _ h=>h.1) (fun _ h=>h.1) ?_ ?_
 ·exact fe @b_
 simp only[aj];refine ab.av 4 ?_;refine ae @b_ ?_;refine ab.oe (m:=.agg [.str g1,.str g2,.str g3]) 5 (fun _ h=>h.2) (fun _ h=>h.2) ?_ ?_
 ·exact fe @b_
 simp only[aj];have mH:True:=trivial;have hJ:Mn O2.next O.next X1 X2 ((O3.set O2.next (.obj X1)).set O.next (.obj X2)):=⟨VH.sn (VH.an _ _ _),VH.an _ _ _⟩;have fS:((O3.set O2.next (.obj X1)).set O.next (.obj X2)).next=O3.next:=rfl;have ia:∀i,i≠O2.next->i≠O.next->((O3.set O2.next (.obj X1)).set O.next (.obj X2)).hp i=O3.hp i:=fun i h1 h2=>by rw[VH.ak _ _ h2,VH.ak _ _ h1]
 generalize (O3.set O2.next (.obj X1)).set O.next (.obj X2)=O5 at*;have gV:=bj (tk:=.nil) (tk':=.full) (B:=0) (n:=0) (k:=1) (cs:=[]) (ds:=[.v (.bool false),.str pg,.str pa,.str pv,.str pG,.str pA,.str pV,.str pk,.sl P.length (P.flatMap bh) .ar,.sl M.length (M.flatMap aS) .ar,.sl D.length (D.flatMap aS) .ar]) ae_ LS.1.1 (O:=O5) trivial rfl rfl rfl (by decide) (by decide) (by decide) (by decide);have aa2:O5.Ge (O5.after .nil):=cL.CU (tk:=.nil) (sz:=11) trivial (cL.after (sz:=11) (B:=0) trivial);have JG:Mn O2.next O.next X1 X2 (O5.after .nil):=⟨aa2.at hJ.1,aa2.at hJ.2⟩;have j5:=bj (tk:=.nil) (tk':=.full) (B:=0) (n:=0) (k:=1) (cs:=[]) (ds:=[.str g1,.str g2,.str g3]) xF Bp.1.1 (O:=O5.after .nil) trivial rfl rfl rfl (by decide) (by decide) (by decide) (by decide);have ajy:(O5.after .nil).Ge ((O5.after .nil).after .nil):=cL.CU (tk:=.nil) (sz:=3) trivial (cL.after (sz:=3) (B:=0) trivial);have qQ:=aa2.trans ajy;have Da:Mn O2.next O.next X1 X2 ((O5.after .nil).after .nil):=⟨qQ.at hJ.1,qQ.at hJ.2⟩;rw[ahX,XO]at gV j5;refine ab.pair (i:=2) (j:=6) ?_ ?_
 ·refine aK.o1 ?_;refine ae @b_ ?_;refine⟨hJ,?_⟩;refine ab.pair (i:=3) (j:=6) ?_ ?_
  ·refine aK.o1 ?_;rw[cX];refine ao @b_ @gV ?_;refine⟨JG,?_⟩;refine ab.op (i:=6) ?_;refine ae @b_ ?_;refine⟨JG,?_⟩;refine ab.op (i:=7) ?_;rw[cX];refine ao @b_ @j5 ?_;refine⟨Da,?_⟩;refine ab.op (i:=8) ?_;refine ae @b_ ?_;refine⟨Da,?_⟩;refine ab.op (i:=9) ?_;refine ae @b_ ?_;refine⟨Da,?_⟩;refine ab.wS [] ?_ (hne:=(by omega));refine ae @b_ ?_;refine VC.gen ?_;intro O8 e8
   have yQ:∀i,i<O5.next->i≠O2.next->i≠O.next->O8.hp i=O5.hp i:=fun i h1 h2 h3=>by
    rw[e8,VH.ak _ _ h3,VH.ak _ _ h2];exact qQ.hp i h1
   have AK:O8.hp O2.next=some (.cells [.v (.bool false),.str pg,.str pa,.str pv,.str pG,.str pA,.str pV,.str pk,.sl P.length (P.flatMap bh) .ar,.sl M.length (M.flatMap aS) .ar,.sl D.length (D.flatMap aS) .ar]):=by rw[e8,VH.ak _ _ (by omega)];exact VH.an _ _ _
   have EE:O3.next<=O8.next:=by
    have h1:=qQ.next;have h2:O8.next=((O5.after .nil).after .nil).next:=by rw[e8];rfl
    omega
   clear e8;have oX:∀i,i<O3.next->i≠O2.next->i≠O.next->O8.hp i=O3.hp i:=fun i h1 h2 h3=>(yQ i (by omega) h2 h3).trans (ia i h2 h3)
   have sS:=(oX (O.next+1) (by omega) (by omega) (by omega)).trans cg;have um:=(oX k (by omega) (by omega) (by omega)).trans dz;have No:=(oX q (by omega) (by omega) (by omega)).trans vJ;have qz:de O k q O8:=⟨by omega,fun i h1 h2 h3=>(oX i (by omega) (by omega) (by omega)).trans (cP.hp i h1 h2 h3)⟩;refine VC.ag aa (aJ @b_ @AK @sS ?_);exact⟨⟨_,_,rfl⟩,q,ey,oc,⟨r',a',um⟩,(by first | exact No | exact VH.sn No),⟨qz.next,fun i h1 h2 h3=>VH.sn (qz.hp i h1 h2 h3)⟩⟩
  ·refine aK.o1 ?_;refine ae @b_ ?_;refine⟨hJ,?_⟩;refine ab.op (i:=3) ?_;rw[cX];refine ao @b_ @gV ?_;refine⟨JG,?_⟩;refine ab.op (i:=7) ?_;rw[cX];refine ao @b_ @j5 ?_;refine⟨Da,?_⟩;refine ab.op (i:=8) ?_;refine ae @b_ ?_;refine⟨Da,?_⟩;refine ab.op (i:=9) ?_;refine ae @b_ ?_;refine⟨Da,?_⟩;refine ab.wS [] ?_ (hne:=(by omega));refine ae @b_ ?_;refine VC.gen ?_;intro O8 e8
   have yQ:∀i,i<O5.next->i≠O2.next->i≠O.next->O8.hp i=O5.hp i:=fun i h1 h2 h3=>by
    rw[e8,VH.ak _ _ h3,VH.ak _ _ h2];exact qQ.hp i h1
   have AK:O8.hp O2.next=some (.cells [.v (.bool false),.str pg,.str pa,.str pv,.str pG,.str pA,.str pV,.str pk,.sl P.length (P.flatMap bh) .ar,.sl M.length (M.flatMap aS) .ar,.sl D.length (D.flatMap aS) .ar]):=by rw[e8,VH.ak _ _ (by omega)];exact VH.an _ _ _
   have EE:O3.next<=O8.next:=by
    have h1:=qQ.next;have h2:O8.next=((O5.after .nil).after .nil).next:=by rw[e8];rfl
    omega
   clear e8;have oX:∀i,i<O3.next->i≠O2.next->i≠O.next->O8.hp i=O3.hp i:=fun i h1 h2 h3=>(yQ i (by omega) h2 h3).trans (ia i h2 h3)
   have sS:=(oX (O.next+1) (by omega) (by omega) (by omega)).trans cg;have um:=(oX k (by omega) (by omega) (by omega)).trans dz;have No:=(oX q (by omega) (by omega) (by omega)).trans vJ;have qz:de O k q O8:=⟨by omega,fun i h1 h2 h3=>(oX i (by omega) (by omega) (by omega)).trans (cP.hp i h1 h2 h3)⟩;refine VC.ag aa (aJ @b_ @AK @sS ?_);exact⟨⟨_,_,rfl⟩,q,ey,oc,⟨r',a',um⟩,(by first | exact No | exact VH.sn No),⟨qz.next,fun i h1 h2 h3=>VH.sn (qz.hp i h1 h2 h3)⟩⟩
 ·refine aK.o1 ?_;refine ae @b_ ?_;refine⟨hJ,?_⟩;refine ab.op (i:=2) ?_;refine ae @b_ ?_;refine⟨hJ,?_⟩;refine ab.op (i:=3) ?_;rw[cX];refine ao @b_ @gV ?_;refine⟨JG,?_⟩;refine ab.op (i:=7) ?_;rw[cX];refine ao @b_ @j5 ?_;refine⟨Da,?_⟩;refine ab.op (i:=8) ?_;refine ae @b_ ?_;refine⟨Da,?_⟩;refine ab.op (i:=9) ?_;refine ae @b_ ?_;refine⟨Da,?_⟩;refine ab.wS [] ?_ (hne:=(by omega));refine ae @b_ ?_;refine VC.gen ?_;intro O8 e8
  have yQ:∀i,i<O5.next->i≠O2.next->i≠O.next->O8.hp i=O5.hp i:=fun i h1 h2 h3=>by
   rw[e8,VH.ak _ _ h3,VH.ak _ _ h2];exact qQ.hp i h1
  have AK:O8.hp O2.next=some (.cells [.v (.bool false),.str pg,.str pa,.str pv,.str pG,.str pA,.str pV,.str pk,.sl P.length (P.flatMap bh) .ar,.sl M.length (M.flatMap aS) .ar,.sl D.length (D.flatMap aS) .ar]):=by rw[e8,VH.ak _ _ (by omega)];exact VH.an _ _ _
  have EE:O3.next<=O8.next:=by
   have h1:=qQ.next;have h2:O8.next=((O5.after .nil).after .nil).next:=by rw[e8];rfl
   omega
  clear e8;have oX:∀i,i<O3.next->i≠O2.next->i≠O.next->O8.hp i=O3.hp i:=fun i h1 h2 h3=>(yQ i (by omega) h2 h3).trans (ia i h2 h3)
  have sS:=(oX (O.next+1) (by omega) (by omega) (by omega)).trans cg;have um:=(oX k (by omega) (by omega) (by omega)).trans dz;have No:=(oX q (by omega) (by omega) (by omega)).trans vJ;have qz:de O k q O8:=⟨by omega,fun i h1 h2 h3=>(oX i (by omega) (by omega) (by omega)).trans (cP.hp i h1 h2 h3)⟩;refine VC.ag aa (aJ @b_ @AK @sS ?_);exact⟨⟨_,_,rfl⟩,q,ey,oc,⟨r',a',um⟩,(by first | exact No | exact VH.sn No),⟨qz.next,fun i h1 h2 h3=>VH.sn (qz.hp i h1 h2 h3)⟩⟩
theorem WN {O:VH} {k ke kv ce cv:Nat} {L:List (Gv×Bs×Option Pm)} {E V:fy} {r a:Int} (h:nr O k L E V ke kv ce cv r a) {i:Nat} {g:Gv} {t:Bs} {n:Nd} {p:Pm} (hi:L[i]?=some (g,t,none)) (hg:tf g) (ht:t.length<=65536) (hb:ie t= .ok n) (hr:oL n= .ok p) (hc:PmC p):
  VF Tryz.prog 119 [.ptr k 0,.agg (bW g)] O (aE fun m O'=>m= .tuple [.agg (gC p),.agg (pd iZ)]/\∃q,jk (eJ g) E=some (.ptr q 0)/\q<O.next/\(∃r' a',O'.hp k=some (.cells [.map ke,.map kv,mi r',mi a']))/\O'.hp q=some (.cells (ja t 1 0 p iZ))/\de O k q O'):=by
 have hsq:=h.some hi;obtain⟨q0,c,oW,afA,Np,hE0⟩:=hsq;have hw:=fun(O':VH) (g':O.Ge O')=>ad0 (O:=O') (k:=k) (L:=L) (E:=E) (V:=V) (h.ge g') hi hg ht hb hr hc
 have Db:=fun O'=>aa0 p O' hc
 have kj:=h.st.lt.1;have nH:=hc.hp;clear hc hr hb hi h Np hE0;obtain⟨g1,g2,g3⟩:=g;obtain⟨b,⟨pg,pa,pv⟩,pG,pA,pV,pk,P,M,D⟩:=p;dsimp only at nH;subst nH;simp only[bW,gC,pd,iZ,aq,a_]at hw Db ⊢;refine VF.bN 38 [.cell 4 106,.cell 5 71] Tryz.func119 ?_;refine VC.ag aa (ae @b_ ?_);refine VC.gen ?_;intro O1 e1;obtain⟨aM,cW,cJ,cA,fW⟩:=lP _ _ _ e1;clear e1;refine VC.ag aa (ao @b_ @cJ ?_);refine ah.rt (hw O1 aM) ?_;rintro _ O2 ⟨⟨t1,t2,rfl⟩,q,ey,ak9,⟨r',a',bJ⟩,tr,dm⟩;obtain rfl:q=q0:=by rw[ey]at oW;injection oW with e;injection e
 have iq:=dm.next;have iK:=(dm.hp _ (by omega) (by omega) (by omega)).trans cJ;have ct:=(dm.hp _ (by omega) (by omega) (by omega)).trans cA;have jB:=(dm.hp _ (by omega) (by omega) (by omega)).trans fW;have Nn:=(de.of (k:=k) (q:=q) aM).trans dm;refine ae @b_ ?_;refine VC.al ?_;rintro O3 ⟨aG,lq,gm⟩;have cg:=aG.at ct;have eN:=aG.at jB;have dz:=aG.at bJ;have vJ:=aG.at tr;have cP:=Nn.ge aG;clear iK ct jB bJ tr Nn dm cJ cA fW hw;refine VC.ag aa (ao @b_ @lq ?_);refine VL.Bj aa (bb:=false) (b:=true) (by simp) (by simp[iE]) (.inr ⟨rfl,rfl⟩) (by kernel_rfl) (by kernel_rfl) rfl rfl rfl rfl ?_;refine ae @b_ ?_;refine VC.ag aa (ae @b_ ?_);refine VC.bx ?_;rintro O4 ⟨aY,eA,gI⟩;have cU:=aY.at cg;have ff:=aY.at eN;have jq:=aY.at dz;have JB:=aY.at vJ;have fq:=cP.ge aY;clear cg eN dz vJ cP;refine VC.bC [4,5,9] (fun _:Unit=>[.ptr (O.next+1) 0,.ptr (O.next+2) 0,.ptr O3.next 0]) (fun _ O'=>∃O5,O4.Ge O5/\O'=O5.set O3.next (.cells [.v (.bool false),.str pg,.str pa,.str pv,.str pG,.str pA,.str pV,.str pk,.sl P.length (P.flatMap bh) .ar,.sl M.length (M.flatMap aS) .ar,.sl D.length (D.flatMap aS) .ar])) ?_ ?_
 ·refine VC.ag aa (ae @b_ ?_);refine VC.az ?_;refine VC.bG [10] [4,5,6,9] (fun x:Bool=>[mi (bif x then -1 else 0)]) (fun x O'=>(x=false->O'=O4)/\(x=true->∃O5,O4.Ge O5/\O'=O5.set O3.next (.cells [.v (.bool false),.str pg,.str pa,.str pv,.str pG,.str pA,.str pV,.str pk,.sl P.length (P.flatMap bh) .ar,.sl M.length (M.flatMap aS) .ar,.sl D.length (D.flatMap aS) .ar]))) (fun x=>bif x then 0 else 1) (false) ?_ ?_
  ·exact⟨fun _=>rfl,fun e=>by cases e⟩
  rintro x O5 ⟨hf,ht'⟩;cases x with
  | true=>
    obtain⟨O6,fJ,e6⟩:=ht' rfl;simp only[cond_true];refine WC.sound aa (ae @b_ ?_);exact aA.mk () ⟨O6,fJ,e6⟩
  | false=>
    have e5:=hf rfl;rw[e5];clear e5 hf ht' O5
    simp only[cond_false];refine VC.ag aa (ae @b_ ?_);refine VC.bB (VC.az ?_);refine VC.s8 [] (fun _=>True) (trivial) ?_;refine ab.av 0 ?_;refine ae @b_ ?_;refine ab.av 1 ?_;refine ae @b_ ?_;refine ab.av 2 ?_;refine ae @b_ ?_;refine ab.av 3 ?_;refine ae @b_ ?_;refine ab.op (i:=4) ?_;refine ao @b_ @eA ?_;refine ab.call (i:=5) (Db O4) ?_;rintro _ O5 ⟨rfl,bH⟩;simp only[aj];refine⟨trivial,?_⟩;have lz:=bH.at eA;refine ab.op (i:=6) ?_;refine ao @b_ @lz ?_;refine ab.bO [] ?_;refine ae @b_ ?_;refine WC.sound aa (ae @b_ ?_);exact ax.next true ⟨(fun e=>by cases e),fun _=>⟨O5,bH,rfl⟩⟩ (hm:=(by decide))
 rintro _ O9 ⟨O5,bH,e9⟩;have fS:=bH.next;have BV:∀i,i≠O3.next->O9.hp i=O5.hp i:=fun i h1=>by rw[e9];exact VH.ak _ _ h1
 have hx9:O9.hp O3.next=some (.cells [.v (.bool false),.str pg,.str pa,.str pv,.str pG,.str pA,.str pV,.str pk,.sl P.length (P.flatMap bh) .ar,.sl M.length (M.flatMap aS) .ar,.sl D.length (D.flatMap aS) .ar]):=by rw[e9];exact VH.an _ _ _
 have bI:=(BV _ (by omega)).trans (bH.at cU);have Jz:=(BV _ (by omega)).trans (bH.at ff);have hk9:=(BV k (by omega)).trans (bH.at jq);have hq9:=(BV q (by omega)).trans (bH.at JB);have BN:O9.next=O5.next:=by rw[e9];rfl
 have jd:de O k q O9:=⟨by omega,fun i h1 h2 h3=>(BV i (by omega)).trans (bH.at (fq.hp i h1 h2 h3))⟩;clear e9 BV;have Nl:O.next+1+1=O.next+2:=by omega
 refine VC.ag aa (c_ @b_ @hx9 @bI @Jz ?_);refine WC.sound aa (ae @b_ ?_);exact⟨q,ey,afA,⟨r',a',hk9⟩,(by first | exact hq9 | exact VH.sn (VH.sn hq9)),⟨jd.next,fun i h1 h2 h3=>VH.sn (VH.sn (jd.hp i h1 h2 h3))⟩⟩
set_option linter.defProp false in
def fc:=yP b_<|yP dE<|yP LU<|yP tT<|yP aiC<|yP ae9<|yP aiD<|yP afa<|yP HF<|yP xi aiK
def rH (s:Bs):Prop:=Lib.index s [36,123]<0
theorem ad1 (s:Bs) (O:VH) (h:rH s) (hs:s.length<=1000000):VF Tryz.prog 205 [.str s] O (aE fun m O'=>m= .tuple [.str s,.str [],.str [],mb false]/\O'=O):=by
 have h':Lib.index s [36,123]<0:=h;refine VF.bN 36 [.tmp 2,.tmp 3,.tmp 4,.tmp 5] Tryz.func205 ?_;refine VC.ag aa (ae @fc ?_);refine VC.ag aa (ae @fc ?_);refine ah.rt (Mt s [36,123] O (by omega)) ?_;rintro _ O2 ⟨rfl,eO⟩;rw[eO];clear eO O2
 generalize Lib.index s [36,123]=x at*;have hd:decide (x<0)=true:=decide_eq_true h';refine ae @fc ?_;refine VC.ag aa (ao @fc @hd ?_);trivial
theorem aht {O:VH} {B b:Nat} {q:Option Nat} {s:Bs} (h:fX O B b q s):VF Tryz.prog 104 [.ptr b 0] O (aE fun m O'=>m=mi s.length/\O'=O):=by
 obtain⟨p,buf,h1,_,xk,_,_⟩:=h.cell;refine VF.bN 8 [.tmp 2] Tryz.func104 ?_;rcases xk with⟨h0,_,rfl | rfl⟩ | ⟨k,c,rfl,_⟩
 ·rw[h0];refine VC.ag aa (ae @fc ?_);refine WC.sound aa (ao @fc @h1 ?_);trivial
 ·rw[h0];refine VC.ag aa (ae @fc ?_);refine WC.sound aa (ao @fc @h1 ?_);trivial
 ·refine VC.ag aa (ae @fc ?_);refine WC.sound aa (ao @fc @h1 ?_);trivial
theorem aa3 {O:VH} {B b nb:Nat} {q:Option Nat} {s:Bs} (h:fX O B b q s) (l:Bs) (hl:s.length+l.length<=4096):VF Tryz.prog 204 ([.str l]++[.ptr b 0,.ptr nb 0]) O (aE fun m O'=>∃q',fX O' B b q' (s++l)/\fm O b q O' q'):=by
 simp only[acu,XO];refine VF.bN 11 [] Tryz.func204 ?_;refine VC.ag aa (ae @fc ?_);refine ah.rt (bQ l h (by omega)) ?_;rintro _ O2 ⟨rfl,q2,ct,dm⟩;refine ae @fc ?_;refine VC.ag aa (ae @fc ?_);refine ah.rt (aht ct) ?_;rintro _ O3 ⟨rfl,eO⟩;rw[eO];clear eO O3
 have Z5:(s++l).length<=4096:=by rw[Kn];exact hl
 refine ae @fc ?_;refine WC.sound aa (ae @fc ?_);exact⟨q2,ct,dm⟩
theorem Nq (wb:Nat) (s nm:Bs) (O:VH) (h:rH s) (hs:s.length<=4096):VF Tryz.prog 176 [.ptr wb 0,.str s,.str nm] O (aE fun m O'=>m= .str s/\O.Ge O'):=by
 refine VF.bN 53 [.tmp 6] Tryz.func176 ?_;refine VC.ag aa (ae @fc ?_);refine VC.bx ?_;rintro O1 ⟨aM,ez,cW⟩;refine VC.ag aa (ae @fc ?_);have r4:=fX.fresh O1 (TP O1.next);have kh:O1.Ge ((O1.push (.cells [.v (.pointer none),.sl 0 [] .nil])).push (.shape O1.next 145 2)):=((VH.Ge.refl O1).push _).push _;generalize ((O1.push (.cells [.v (.pointer none),.sl 0 [] .nil])).push (.shape O1.next 145 2))=O2 at*;refine VC.ag aa (ae @fc ?_);refine VC.az ?_;refine VC.bG [1] [0,7,8] (fun _:Unit=>[.str s]) (fun _ O'=>O'=O2) (fun _=>0) (()) ?_ ?_
 ·rfl
 rintro _ O3 e3;rw[e3];clear e3 O3
 refine VC.az ?_;refine VC.ag aa (ae @fc ?_);refine ah.rt (ad1 s O2 h (by omega)) ?_;rintro _ O3 ⟨rfl,eO⟩;rw[eO];clear eO O3
 refine ae @fc ?_;refine VC.ag aa (ae @fc ?_);refine ah.rt (aa3 (nb:=O.next) r4 s (by simp;omega)) ?_;rintro _ O3 ⟨q3,cg,cP⟩;rw[XO]at cg;have aG:O1.Ge O3:=fm.CU kh cP (TP _);refine ae @fc ?_;refine VC.ag aa (ae @fc ?_);refine ah.rt (pO cg (by simp only[maxLen];omega)) ?_;rintro _ O4 ⟨rfl,fq⟩;refine ae @fc ?_;exact aM.trans (aG.SF fq cg.xG)
abbrev uo:=List (Bs×Bs×Nat)
def ud (M:uo):uB:=M.map fun p=>(.str p.1,.str p.2.1,p.2.2)
def xp (k:Bs) (M:uo):Option Bs:=(M.find? (·.1==k)).map (·.2.1)
def Nr (k:Bs):uo->Nat->Option (Nat×MV)
 | [],_=>none
 | p::M,i=>if k==p.1 then some (i,.str p.2.1)else Nr k M (i+1)
theorem JH (k:Bs):∀(M:uo) (i:Nat),pC .string (.str k) (ud M) i=some (Nr k M i)
 | [],i=>rfl
 | p::M,i=>by
   show pC .string (.str k) ((.str p.1,.str p.2.1,p.2.2)::ud M) i=_;rw[pC,Nr];simp only[IE];cases h:k==p.1
   ·simp[JH k M (i+1)]
   ·simp
theorem Ta (k:Bs):∀(M:uo) (i:Nat),(Nr k M i).map (·.2)=(xp k M).map .str
 | [],i=>rfl
 | p::M,i=>by
   rw[Nr];unfold xp;rw[List.find?_cons];cases h:k==p.1
   ·have h':(p.1==k)=false:=by rw[beq_eq_false_iff_ne]at h ⊢;exact Ne.symm h
    rw[h'];simpa[xp]using Ta k M (i+1)
   ·have h':(p.1==k)=true:=by rw[beq_iff_eq]at h ⊢;exact h.symm
    rw[h'];rfl
theorem JI {tab:bY} {O:VH} {t kt et:TypeId} {a b' c d c' d':Nat} {z y:List MV} {b ck:Nat} {M:uo} {k:Bs} {ok:Bool} (h:tab t=some ⟨.map kt et,a,b',z⟩) (hk:tab kt=some ⟨.string,c,d,y⟩) (he:tab et=some ⟨.string,c',d',[.str []]⟩) (hb:O.hp b=some (.map (ud M) ck)):
  gL tab O t (.map b) (.str k) ok=some (uf ok (.str []) ((xp k M).map .str)):=by
 unfold gL;simp only[h,hk,he,alG,mapOf,hb,Option.bind_some,JH,xw];have:=Ta k M 0;cases hf:Nr k M 0 with
 | none=>
   rw[hf]at this;rw[<-this];cases ok<;>rfl
 | some p=>
   rw[hf]at this;rw[<-this];cases ok<;>rfl
theorem Ib {k:Bs}:∀{M:uo} {i:Nat},(∀p∈M,p.1≠k)->Nr k M i=none
 | [],i,_=>rfl
 | p::M,i,h=>by
   have h':(k==p.1)=false:=by rw[beq_eq_false_iff_ne];exact Ne.symm (h p (by simp))
   rw[Nr,h',if_neg (by simp)];exact Ib fun q hq=>h q (alM _ hq)
theorem aa4 {tab:bY} {O:VH} {t kt et:TypeId} {a b' c d:Nat} {z y:List MV} {b ck:Nat} {M:uo} {k v:Bs} (h:tab t=some ⟨.map kt et,a,b',z⟩) (hk:tab kt=some ⟨.string,c,d,y⟩) (hb:O.hp b=some (.map (ud M) ck)) (fG:∀p∈M,p.1≠k):
  dT tab O t (.map b) (.str k) (.str v)=some (O.set b (.map (ud (M++[(k,v,ck)])) (ck+1))):=by
 unfold dT;simp only[h,hk,alG,hb,JH,xw,Ib fG];simp[ud]
theorem Ic {k:Bs} {M:uo} (h:∀p∈M,p.1≠k):xp k M=none:=by
 unfold xp;rw[List.find?_eq_none.2 (fun p hp=>by simpa using h p hp)];rfl
theorem Ns:∀{L:List (Bs×Bs)} {R:uo} {x:Bs×Bs},L.Pairwise (fun x y=>x.1≠y.1)->R.map (fun p=>(p.1,p.2.1))=L->x∈L->xp x.1 R=some x.2
 | [],R,x,_,_,hx=>by simp at hx
 | y::L,[],x,_,e,_=>by simp at e
 | y::L,p::R,x,h,e,hx=>by
   rw[List.map_cons]at e;injection e with e1 e2;obtain⟨h1,h2⟩:=List.pairwise_cons.1 h;unfold xp;rw[List.find?_cons];rcases ah4.1 hx with rfl | hx
   ·have:(p.1==x.1)=true:=by rw[<-e1];simp
    rw[this];simp only[alG];rw[<-e1]
   ·have hne:=h1 x hx;have:(p.1==x.1)=false:=by rw[beq_eq_false_iff_ne];rw[<-e1]at hne;exact hne
    rw[this];exact Ns h2 e2 hx
structure oQ (O:VH) (tb kr kd:Nat) (L:List (Bs×Bs)) (R D:uo) (cr cd:Nat) (tk:Tok) (kn:Int):Prop where
 cell:O.hp tb=some (.cells [.sl L.length (L.flatMap bh) tk,.map kr,.map kd,mi kn])
 raw:O.hp kr=some (.map (ud R) cr)
 done:O.hp kd=some (.map (ud D) cd)
 lt:tb<O.next/\kr<O.next/\kd<O.next
 ne:tb≠kr/\tb≠kd/\kr≠kd
theorem oQ.ge {O O':VH} {tb kr kd:Nat} {L:List (Bs×Bs)} {R D:uo} {cr cd:Nat} {tk:Tok} {kn:Int} (h:oQ O tb kr kd L R D cr cd tk kn) (g:O.Ge O'):oQ O' tb kr kd L R D cr cd tk kn:=
 ⟨(g.hp _ h.lt.1).trans h.cell,(g.hp _ h.lt.2.1).trans h.raw,(g.hp _ h.lt.2.2).trans h.done,⟨Km h.lt.1 g.next,Km h.lt.2.1 g.next,Km h.lt.2.2 g.next⟩,h.ne⟩
theorem JJ (L:List (Bs×Bs)) (tk:Tok) (O:VH) (hn:L.length<=10000) (hL:L.Pairwise fun x y=>x.1≠y.1):VF Tryz.prog 120 [.sl L.length (L.flatMap bh) tk] O (aE fun m O'=>m= .ptr (O.next+2) 0/\O.Ge O'/\∃R cr t,oQ O' (O.next+2) O.next (O.next+1) L R [] cr 0 t 0/\∀x∈L,xp x.1 R=some x.2):=by
 have dL:=aQ fp L;refine VF.bN 50 [.tmp 2] Tryz.func120 ?_;have nB:Gi (k9 [(0,1),(1,1),(2,1),(3,1)]) [.sl 0 [] .nil,.v (.map none),.v (.map none),.v (.int .i64 0)] (.map O.next) [(2,.map (O.next+1))] (some (1,1))=some [.sl 0 [] .nil,.map O.next,.map (O.next+1),.v (.int .i64 0)]:=rfl;refine VC.ag aa (ae @fc ?_);refine VC.ag aa (ao @fc @nB ?_);refine VC.gen ?_;intro O1 e1;obtain⟨aM,cW,cJ,cA,fW⟩:=lP _ _ _ e1;clear e1;have Nl:O.next+1+1=O.next+2:=by omega
 refine VC.bC [3] (fun _:Unit=>[.ptr (O.next+2) 0]) (fun _ O'=>O.Ge O'/\∃R cr t,oQ O' (O.next+2) O.next (O.next+1) L R [] cr 0 t 0/\R.map (fun p=>(p.1,p.2.1))=L) ?_ ?_
 ·refine VC.ag aa (ae @fc ?_);refine VC.az ?_;refine VC.bG [14] [3,12,13] (fun j:Nat=>[mi j]) (fun j O'=>O.Ge O'/\j<=L.length/\∃R cr t,oQ O' (O.next+2) O.next (O.next+1) (L.take j) R [] cr 0 t 0/\R.map (fun p=>(p.1,p.2.1))=L.take j/\App O' (O.next+3) 2 t) (fun j=>L.length - j) (0) ?_ ?_
  ·refine⟨aM,agw _,[],0,.nil,⟨?_,cJ,cA,⟨by omega,by omega,by omega⟩,by omega,by omega,by omega⟩,?_,trivial⟩
   ·rw[List.take_zero];exact fW
   ·rw[List.take_zero];rfl
  rintro j O3 ⟨aG,hj,R,cr,t,hT,hR,cC⟩;by_cases aX:j<L.length;rotate_left
  ·obtain rfl:j=L.length:=by omega
   rw[ahY]at hT hR;refine WC.sound aa (ae @fc ?_);exact aA.mk () ⟨aG,R,cr,t,hT,hR⟩
  have bw:=bU fp L j aX;have eR:=c6 L j aX
  have fG:∀p∈R,p.1≠L[j].1:=fun p hp=>by
   have hm:(p.1,p.2.1)∈L.take j:=by rw[<-hR];exact List.mem_map_of_mem (f:=fun p:Bs×Bs×Nat=>(p.1,p.2.1)) hp
   obtain⟨i,hi,e⟩:=agt.1 hm;rw[agu]at hi;rw[alK]at e;have:=(ah5.1 hL) i j (by omega) aX (by omega);rw[e]at this;exact this
  have rT:(L.take j).length=j:=by rw[agu];omega
  generalize L[j]=y at*;generalize L.take j=LT at*;obtain⟨yn,yv⟩:=y;dsimp only at fG;simp only[bh]at bw;have cT:((j:Int)+1)=((j+1:Nat):Int):=by omega
  have ew:=hT.lt;have hne:=hT.ne;refine VC.ag aa (ae @fc ?_);refine VC.ag aa (ae @fc ?_);refine VC.bB (VC.az ?_);refine VC.ag aa (ao @fc @bw ?_);refine VC.al ?_;rintro O4 ⟨aY,eA,gI⟩;have vM:=hT.ge aY;have lV:=cC.ge aY;have ff:=vM.cell;have Gx:=vM.raw;simp only[aq]at ff;have ey:gL (eh Tryz.prog) O4 260 (.map O.next) (.str yn) true=some (uf true (.str []) ((xp yn R).map .str)):=JI HF T9 T9 Gx;rw[Ic fG]at ey;simp only[Option.map_none,Aa]at ey;refine VC.bB ?_;refine WC.bO (.held []) [(0,.rd),(1,.rd),(2,.rd),(3,.rd),(4,.rd),(5,.rd),(6,.rd),(7,.rd),(8,.rd),(9,.rd),(10,.rd),(11,.rd)] ?_;refine c_ @fc @ff @eA @ey ?_;refine VC.ag aa (ae @fc ?_);refine WC.sound aa (ae @fc ?_);refine WC.bO (.held [8]) [(0,.rd),(1,.rd),(2,.rd),(3,.rd),(4,.rd),(5,.rd),(6,.rd),(7,.rd),(8,.one)] ?_;have mQ:dT (eh Tryz.prog) O4 260 (.map O.next) (.str yn) (.str yv)=some (O4.set O.next (.map (ud (R++[(yn,yv,cr)])) (cr+1))):=aa4 HF T9 Gx fG;refine c_ @fc @ff @eA @mQ ?_;refine VC.gen ?_;intro O5 e5;have ia:∀i,i≠O.next->O5.hp i=O4.hp i:=fun i hi=>by rw[e5];exact VH.ak _ _ hi
  have fS:O5.next=O4.next:=by rw[e5];rfl
  have qB:O5.hp O.next=some (.map (ud (R++[(yn,yv,cr)])) (cr+1)):=by rw[e5];exact VH.an _ _ _
  have bH:O.Ge O5:=by rw[e5];exact(aG.trans aY).set (TP _) _
  have jL:App O5 (O.next+3) 2 t:=lV.mv (by omega) fun i hi e=>(ia i (fun e2=>by subst e2;rw[Gx]at e;cases e)).trans e
  clear e5;have fK:=(ia _ (by omega)).trans ff;have lz:=(ia _ (by omega)).trans eA;have Js:=(ia (O.next+1) (by omega)).trans vM.done;obtain⟨mE,gD,ll⟩:=fZ (n:=LT.length) (cs:=LT.flatMap bh) (ds:=[.str yn,.str yv]) (es:=bh (yn,yv)) Ac Cq.1.1 jL (aQ fp LT) rfl rfl (by decide) (by omega) (by simp only[maxLen];omega) (f_ LT) (by simp only[bh,wu]);refine WC.bO (.held [10]) [(0,.rd),(1,.rd),(2,.rd),(3,.rd),(4,.rd),(5,.rd),(6,.one),(7,.one),(8,.one),(9,.rd),(10,.one)] ?_;refine aJ @fc @fK @lz ?_;refine VL.lC gD ll ?_;have hca:(O5.after t).hp (O.next+2)=_:=(App.off jL (by omega) (by rw[fK];simp)).trans fK;have hra:(O5.after t).hp O.next=_:=(App.off jL (by omega) (by rw[qB];simp)).trans qB;have hda:(O5.after t).hp (O.next+1)=_:=(App.off jL (by omega) (by rw[Js];simp)).trans Js;refine ao @fc @hca ?_;refine VC.gen ?_;intro O6 e6;have rI:=cL.after jL;have pe:∀i,i≠O.next+2->O6.hp i=(O5.after t).hp i:=fun i hi=>by rw[e6];exact VH.ak _ _ hi
  have n9:O6.next=(O5.after t).next:=by rw[e6];rfl
  have BT:O6.hp (O.next+2)=some (.cells [.sl (LT.length+1) (LT.flatMap bh++bh (yn,yv)) (.own O5.next 2),.map O.next,.map (O.next+1),.v (.int .i64 0)]):=by rw[e6];exact VH.an _ _ _
  have n_:App O6 (O.next+3) 2 (.own O5.next 2):=(App.after (tk:=t) (B:=O.next+3) (sz:=2) (by omega:O.next+3<=O5.next)).mv (by omega) fun i hi e=>(pe i (fun e2=>by subst e2;rw[hca]at e;cases e)).trans e
  have Nk:O.Ge O6:=⟨by have:=rI.next;have:=bH.next;omega,fun i hi=>by
   rw[pe i (by omega),rI.hp i (by have:=bH.next;omega) (fun e=>by have:=(App.n8 jL e).1;omega)];exact bH.hp i hi⟩
  have hnA:=rI.next;refine WC.sound aa (ao @fc @cT ?_);refine ax.next (j+1) ⟨Nk,aX,R++[(yn,yv,cr)],cr+1,.own O5.next 2,⟨?_,(pe _ (by omega)).trans hra,(pe _ (by omega)).trans hda,⟨by omega,by omega,by omega⟩,hne⟩,?_,n_⟩
  ·rw[eR,akF,Kn];simpa[aq]using BT
  ·rw[eR,alF,hR];rfl
 rintro _ O9 ⟨bo,R,cr,t,hT,hR⟩;refine WC.sound aa (ae @fc ?_);exact⟨bo,R,cr,t,hT,fun x hx=>Ns hL hR hx⟩
set_option linter.defProp false in
def cM:=yP fc<|yP aiJ<|yP aeY afa
theorem ad2 (x:Bs) (O:VH) (t:Tok):VF Tryz.prog 178 [.sl 0 [] t,.str x] O (aE fun m O'=>m=mb false/\O'=O):=by
 have h1:VF Tryz.prog 206 [.sl 0 [] t,.str x] O (aE fun m O'=>m=mi (-1)/\O'=O):=by
  refine VF.dy 19 [.tmp 4] Tryz.func206 ?_;refine ae @cM ?_;refine WC.iS [8] [0,1,7] (fun j:Unit=>[mi 0]) (fun j O'=>O'=O) (fun j=>0) (()) ?_ ?_
  ·rfl
  rintro _ O2 e2;rw[e2];clear e2 O2
  refine ae @cM ?_;trivial
 refine VF.dy 9 [.tmp 4] Tryz.func178 ?_;refine ae @cM ?_;refine ah.rt (h1) ?_;rintro _ O2 ⟨rfl,e2⟩;rw[e2];clear e2 O2
 refine ae @cM ?_;trivial
theorem WO {O:VH} {wb tb kr kd:Nat} {L:List (Bs×Bs)} {R D:uo} {cr cd:Nat} {tk:Tok} {kn:Int} (nm v:Bs) (h:oQ O tb kr kd L R D cr cd tk kn) (hw:O.hp wb=some (.cells [.ptr tb 0,.sl 0 [] .nil])) (oJ:wb<O.next) (hR:xp nm R=some v) (hD:∀p∈D,p.1≠nm) (hv:rH v) (gP:v.length<=4096):
  VF Tryz.prog 150 [.ptr wb 0,.str nm] O (aE fun m O'=>m= .str v/\(∃kn',oQ O' tb kr kd L R (D++[(nm,v,cd)]) cr (cd+1) tk kn')/\O.next<=O'.next/\∀i,i<O.next->i≠tb->i≠kd->i≠wb->O'.hp i=O.hp i):=by
 have hc:=h.cell;have ew:=h.lt;have hne:=h.ne;have BA:wb≠tb:=fun e=>by subst e;rw[hw]at hc;simp at hc
 have hwr:wb≠kr:=fun e=>by subst e;have:=h.raw;cases(hw.symm.trans this)
 have WQ:wb≠kd:=fun e=>by subst e;have:=h.done;cases(hw.symm.trans this)
 simp only[aq]at hc;have ey:gL (eh Tryz.prog) O 260 (.map kd) (.str nm) true=some (uf true (.str []) ((xp nm D).map .str)):=JI HF T9 T9 h.done;rw[Ic hD]at ey;simp only[Option.map_none,Aa]at ey;refine VF.bN 95 [.tmp 4] Tryz.func150 ?_;refine VC.ag aa (ae @cM ?_);refine VC.ag aa (c_ @cM @hw @hc @ey ?_);refine VC.bB (VC.az ?_);refine VC.ag aa (ao @cM @hw ?_);refine ah.rt (ad2 nm O .nil) ?_;rintro _ O2 ⟨rfl,e2⟩;rw[e2];clear e2 O2
 refine ao @cM @hw ?_;refine WC.sound aa (ao @cM @hw ?_);refine VC.ag aa (ao @cM @hw ?_);have cC:=bj (tk:=.nil) (tk':=.full) (B:=0) (n:=0) (k:=1) (cs:=[]) (ds:=[.str nm]) xi T9 (O:=O) trivial rfl rfl rfl (by decide) (by decide) (by decide) (by decide);rw[ahX,XO]at cC;refine VL.lC cC rfl ?_;have rI:O.Ge (O.after .nil):=cL.CU (tk:=.nil) (sz:=1) trivial (cL.after (sz:=1) (B:=0) trivial);have hwA:=(rI.hp _ oJ).trans hw;refine ao @cM @hwA ?_;refine VC.gen ?_;intro O2 e2;have gG:∀i,i<O.next->i≠wb->O2.hp i=O.hp i:=fun i h1 h2=>by rw[e2,VH.ak _ _ h2];exact rI.hp i h1
 have iq:O.next<=O2.next:=by rw[e2];exact rI.next
 have qx:∃t,O2.hp wb=some (.cells [.ptr tb 0,.sl 1 [.str nm] t]):=⟨_,by rw[e2];exact VH.an _ _ _⟩
 obtain⟨t2,qx⟩:=qx;clear e2;have hT2:oQ O2 tb kr kd L R D cr cd tk kn:=⟨(gG _ ew.1 (Ne.symm BA)).trans h.cell,(gG _ ew.2.1 (Ne.symm hwr)).trans h.raw,(gG _ ew.2.2 (Ne.symm WQ)).trans h.done,⟨by omega,by omega,by omega⟩,hne⟩;have jB:=hT2.cell;simp only[aq]at jB;have aa5:gL (eh Tryz.prog) O2 260 (.map kr) (.str nm) false=some (uf false (.str []) ((xp nm R).map .str)):=JI HF T9 T9 hT2.raw;rw[hR]at aa5;simp only[alG,Sw]at aa5;refine VC.ag aa (c_ @cM @qx @jB @aa5 ?_);refine ah.rt (Nq wb v nm O2 hv gP) ?_;rintro _ O3 ⟨rfl,aG⟩;have hT3:=hT2.ge aG;have hw3:=aG.at qx;have uq:∀i,i<O.next->i≠wb->O3.hp i=O.hp i:=fun i h1 h2=>(aG.hp i (by omega)).trans (gG i h1 h2)
 have gm:=aG.next;refine ae @cM ?_;refine VC.bB ?_;refine WC.bO (.held [14]) [(0,.rd),(1,.rd),(2,.rd),(3,.rd),(4,.rd),(5,.rd),(6,.rd),(7,.rd),(8,.rd),(9,.rd),(10,.rd),(11,.rd),(12,.one),(13,.rd),(14,.one)] ?_;refine aJ @cM @hw3 @u7 ?_;refine VC.gen ?_;intro O4 e4;have rG:∀i,i≠wb->O4.hp i=O3.hp i:=fun i h2=>by rw[e4];exact VH.ak _ _ h2
 have gI:O4.next=O3.next:=by rw[e4];rfl
 have Nt:∃t,O4.hp wb=some (.cells [.ptr tb 0,t]):=⟨_,by rw[e4];exact VH.an _ _ _⟩
 obtain⟨t4,Nt⟩:=Nt;clear e4;have afy:=hT3.lt;have vM:oQ O4 tb kr kd L R D cr cd tk kn:=⟨(rG _ (Ne.symm BA)).trans hT3.cell,(rG _ (Ne.symm hwr)).trans hT3.raw,(rG _ (Ne.symm WQ)).trans hT3.done,⟨by omega,by omega,by omega⟩,hne⟩;have ff:=vM.cell;simp only[aq]at ff;have mQ:dT (eh Tryz.prog) O4 260 (.map kd) (.str nm) (.str v)=some (O4.set kd (.map (ud (D++[(nm,v,cd)])) (cd+1))):=aa4 HF T9 vM.done hD;refine VC.ag aa (c_ @cM @Nt @ff @mQ ?_);refine VC.gen ?_;intro O5 e5;have ia:∀i,i≠kd->O5.hp i=O4.hp i:=fun i h2=>by rw[e5];exact VH.ak _ _ h2
 have fS:O5.next=O4.next:=by rw[e5];rfl
 have Js:O5.hp kd=some (.map (ud (D++[(nm,v,cd)])) (cd+1)):=by rw[e5];exact VH.an _ _ _
 clear e5;have hw5:=(ia wb WQ).trans Nt;have fK:=(ia tb hne.2.1).trans ff;refine VC.ag aa (c_ @cM @dA @hw5 @fK ?_);refine ah.rt (Fh 1 fK rfl) ?_;rintro m O6 ⟨rfl,e6⟩;have pe:∀i,i≠tb->O6.hp i=O5.hp i:=fun i h2=>by rw[e6];exact VH.ak _ _ h2
 have BT:O6.hp tb=some (.cells [.sl L.length (L.flatMap bh) tk,.map kr,.map kd,mi (IntKind.i64.wrap (kn+1))]):=by rw[e6];exact VH.an _ _ _
 have n9:O6.next=O5.next:=by rw[e6];rfl
 refine ae @cM ?_;refine WC.sound aa (ae @cM ?_);refine⟨⟨_,⟨BT,(pe _ (Ne.symm hne.1)).trans ((ia _ hne.2.2).trans vM.raw),(pe _ (Ne.symm hne.2.1)).trans Js,⟨by omega,by omega,by omega⟩,hne⟩⟩,by omega,fun i h1 h2 h3 h4=>?_⟩;exact(pe i h2).trans ((ia i h3).trans ((rG i h4).trans (uq i h1 h4)))
theorem aa6 {O:VH} {a b:Nat} {K:VH->Prop} (h:K O):gy Tryz.prog 177 [.ptr a 0,.ptr b 0] none O K:=by
 refine gy.rec (d:=5) Tryz.func177 (Nat.lt_of_lt_of_eq (by decide:5<15) rfl) ?_;show WC _ _ ⟨15,0⟩ _ _ _ _ _;simp only[cx,ahX,Nat.reduceAdd,z6];refine ao @cM @wi ?_;refine VL.pure (by simp) (fun _=>.inl rfl) rfl rfl (iG.Er (bb:=true) Tryz.underlying20 rfl (.inl ⟨rfl,rfl⟩)) ?_;refine WL.sound aa ?_;refine ao @cM @wi ?_;exact h
theorem Nu {O:VH} {g:FuncId} {xs:List MV} {Φ :VH->VH->Prop} (hg:cR Tryz.prog g=true) (hC:∀O1,O.Ge O1->VF Tryz.prog g xs O1 (aE fun _ O'=> Φ O1 O')) (hΦ :∀O1 O2,O.Ge O1-> Φ O1 O2->O1.next<=O2.next/\∀i,O.next<=i->i<O1.next->O2.hp i=O1.hp i):
  VF Tryz.prog 148 [.func (.func g) [] xs] O (aE fun m O'=>m= .tuple [mi 0,.str []]/\∃O1 O2,O.Ge O1/\ Φ O1 O2/\O2.next<=O'.next/\∀i,i<O.next->O'.hp i=O2.hp i):=by
 refine VF.deferred (lo:=4) (k:=7) (rs:=[.cell 2 65,.cell 3 9]) Tryz.func148 (Enters.sN (by kernel_rfl)) ?_;simp only[cx,ahX,Nat.reduceAdd];refine ae @cM ?_;refine⟨_,rfl,fun D=>?_⟩;refine VC.gen ?_;rintro O1 sd;obtain⟨aM,cW,cJ,cA⟩:=gj _ _ sd;clear sd;refine VC.ag aa (ao @cM @wd ?_);refine ah.rt (hC O1 aM) ?_ (hb:=hg);rintro m O2 h2;obtain⟨iq,gG⟩:=hΦ O1 O2 aM h2;have iK:=(gG _ (TP _) (by omega)).trans cJ;have ct:=(gG (O.next+1) (by omega) (by omega)).trans cA;refine ao @cM @wd ?_;refine VC.ag aa (c_ @cM @wd @iK @ct ?_);refine WC.sound aa (ao @cM @wd ?_);refine aa6 ?_;refine c_ @cM @wd @iK @ct ?_;exact⟨O1,O2,aM,h2,TP _,fun i hi=>by rw[VH.ak _ _ (by omega),VH.ak _ _ (by omega)]⟩
theorem ad3 {O:VH} {ba bb bc tb:Nat} {s:Bs} {z:MV} (ha:O.hp ba=some (.cells [.ptr tb 0])) (hb:O.hp bb=some (.cells [.str s])) (hc:O.hp bc=some (.cells [z])) (gh:ba<O.next) (vc:bb<O.next) (jX:bc<O.next) (h:rH s) (hs:s.length<=4096):
  VF Tryz.prog 175 [.ptr ba 0,.ptr bb 0,.ptr bc 0] O (aE fun m O'=>O'.hp bc=some (.cells [.str s])/\br O (some bc) O'):=by
 refine VF.bN 8 [] Tryz.func175 ?_;have QW:∀x,(O.push x).hp bb=some (.cells [.str s]):=fun x=>(VH.bA _ _ vc).trans hb
 refine WC.sound aa (aJ @cM @ha @hb ?_);refine ah.bx ?_;rintro O1 ⟨aM,ez,cW⟩;refine ah.rt (Nq O.next s [] O1 h hs) ?_;rintro _ O2 ⟨rfl,ay⟩;have gN:=aM.trans ay;have jB:=(gN.hp _ jX).trans hc;refine ao @cM @jB ?_;exact(br.lR gN).any.trans br.set
theorem WS (tb:Nat) (s:Bs) (O:VH) (h:rH s) (hs:s.length<=4096):VF Tryz.prog 147 [.ptr tb 0,.str s] O (aE fun m O'=>m= .tuple [.str s,mi 0,.str []]/\O.Ge O'):=by
 refine VF.bN 20 [.cell 4 9,.tmp 5,.tmp 6] Tryz.func147 ?_;refine VC.ag aa (ae @cM ?_);refine VC.gen ?_;intro O1 e1;obtain⟨aM,cW,cJ,cA,fW⟩:=lP _ _ _ e1;clear e1;refine VC.ag aa (ao @cM @cJ ?_);refine VC.ag aa (ae @cM ?_);refine ah.rt (Nu (O:=O1) (g:=175) (xs:=[.ptr O.next 0,.ptr (O.next+1) 0,.ptr (O.next+2) 0]) (Φ :=fun A B=>B.hp (O.next+2)=some (.cells [.str s])/\br A (some (O.next+2)) B) (by kernel_rfl) (fun O2 ay=>ad3 (ay.at cJ) (ay.at cA) (ay.at fW) (by have:=ay.next;omega) (by have:=ay.next;omega) (by have:=ay.next;omega) h hs) (fun A B hA hB=>⟨hB.2.next,fun i h1 h2=>hB.2.hp i h2 (fun e=>by injection e with e;omega)⟩)) ?_;rintro _ O3 ⟨rfl,A,B,rI,⟨nA,BM⟩,gm,uq⟩;have eN:=(uq _ (by omega)).trans nA;refine ae @cM ?_;refine VC.ag aa (ae @cM ?_);refine VC.ag aa (ao @cM @eN ?_);refine WC.sound aa (ae @cM ?_);have aG:O.Ge O3:=⟨by have:=rI.next;have:=BM.next;omega,fun i hi=>(uq i (by omega)).trans ((BM.hp i (by have:=rI.next;omega) (fun e=>by injection e with e;omega)).trans ((rI.hp i (by omega)).trans (aM.hp i hi)))⟩;exact aG.set (by omega) _
theorem ad4 {O:VH} {ba bb tb kr kd:Nat} {L:List (Bs×Bs)} {R:uo} {cr:Nat} {tk:Tok} (ha:O.hp ba=some (.cells [.ptr tb 0])) (hb:O.hp bb=some (.cells [.sl 0 [] .nil])) (gh:ba<O.next) (vc:bb<O.next) (h:oQ O tb kr kd L R [] cr 0 tk 0) (hn:L.length<=10000) (hR:∀x∈L,xp x.1 R=some x.2) (hL:L.Pairwise fun x y=>x.1≠y.1) (hv:∀x∈L,rH x.2/\x.2.length<=4096):
  VF Tryz.prog 149 [.ptr ba 0,.ptr bb 0] O (aE fun m O'=>(∃t,O'.hp bb=some (.cells [.sl L.length (L.flatMap bh) t]))/\O.next<=O'.next/\∀i,i<O.next->i≠tb->i≠kd->i≠bb->O'.hp i=O.hp i):=by
 have dL:=aQ fp L;have ew:=h.lt;have hne:=h.ne;have hc:=h.cell;simp only[aq]at hc;have afB:ba≠tb:=fun e=>by subst e;rw[ha]at hc;simp at hc
 have MF:bb≠tb:=fun e=>by subst e;rw[hb]at hc;simp at hc
 have Wf:ba≠kd:=fun e=>by subst e;have:=h.done;cases(ha.symm.trans this)
 have rY:bb≠kd:=fun e=>by subst e;have:=h.done;cases(hb.symm.trans this)
 have hbr:bb≠kr:=fun e=>by subst e;have:=h.raw;cases(hb.symm.trans this)
 have hab:ba≠bb:=fun e=>by subst e;rw[hb]at ha;simp at ha
 refine VF.bN 26 [] Tryz.func149 ?_;refine VC.ag aa (aJ @cM @ha @hc ?_);refine VC.az ?_;refine VC.bG [9] [0,1,7,8] (fun j:Nat=>[mi j]) (fun j O'=>j<=L.length/\O.next<=O'.next/\(∀i,i<O.next->i≠tb->i≠kd->i≠bb->O'.hp i=O.hp i)/\∃D cd kn t,oQ O' tb kr kd L R D cr cd tk kn/\(∀p∈D,∃x∈L.take j,p.1=x.1)/\O'.hp bb=some (.cells [.sl (L.take j).length ((L.take j).flatMap bh) t])/\App O' O.next 2 t) (fun j=>L.length - j) (0) ?_ ?_
 ·exact⟨agw _,TP _,fun _ _ _ _ _=>rfl,[],0,0,.nil,h,by simp,hb,trivial⟩
 rintro j O3 ⟨hj,gm,uq,D,cd,kn,t,hT,hD,cg,cC⟩;by_cases aX:j<L.length;rotate_left
 ·obtain rfl:j=L.length:=by omega
  rw[ahY]at cg;refine WC.sound aa (ae @cM ?_);exact⟨⟨t,cg⟩,gm,uq⟩
 have bw:=bU fp L j aX;have eR:=c6 L j aX
 have fG:∀p∈D,p.1≠L[j].1:=fun p hp=>by
  obtain⟨x,hx,e⟩:=hD p hp;obtain⟨i,hi,e2⟩:=agt.1 hx;rw[agu]at hi;rw[alK]at e2;have:=(ah5.1 hL) i j (by omega) aX (by omega);rw[e, <-e2];exact this
 have hRj:=hR L[j] (ah7 aX);obtain⟨hvj,gP⟩:=hv L[j] (ah7 aX);have rT:(L.take j).length=j:=by rw[agu];omega
 generalize L[j]=y at*;obtain⟨yn,yv⟩:=y;dsimp only at fG hRj hvj gP;simp only[bh]at bw;have cT:((j:Int)+1)=((j+1:Nat):Int):=by omega
 refine VC.ag aa (ae @cM ?_);refine VC.ag aa (ae @cM ?_);refine VC.bB (VC.az ?_);refine VC.ag aa (ao @cM @bw ?_);refine VC.al ?_;rintro O4 ⟨aY,eA,gI⟩;have vM:=hT.ge aY;have kR:=aY.at ((uq ba gh afB Wf hab).trans ha);have cU:=aY.at cg;have lV:=cC.ge aY;refine VC.Aq [12] (bb) (fun O'=>O'.hp ba=some (.cells [.ptr tb 0])/\O'.hp O3.next=some (.cells [.str yn,.str yv])) (cU) (fun X=>⟨(VH.ak _ _ hab).trans kR,VH.sn eA⟩) ?_;intro X;refine ab.oe (m:=.sl (L.take j).length ((L.take j).flatMap bh) t) 0 (fun _ h=>h.1) (fun _ h=>h) ?_ ?_
 ·exact fe @cM
 simp only[aj];refine ab.av 1 ?_;refine ae @cM ?_;refine ab.mP (m:=.str yn) 2 ?_ ?_
 ·rintro O2 ⟨j0,j1,j2⟩;exact dq @cM @j2
 simp only[aj];refine ab.mP (m:=.ptr tb 0) 3 ?_ ?_
 ·rintro O2 ⟨j0,j1,j2⟩;exact dq @cM @j1
 simp only[aj];refine ab.av 4 ?_;refine ae @cM ?_;refine ab.av 6 ?_;refine ae @cM ?_;refine ab.mP (m:=.str yn) 7 ?_ ?_
 ·rintro O2 ⟨j0,j1,j2⟩;exact dq @cM @j2
 simp only[aj];have lL:(O4.set bb (.obj X)).hp bb=some (.obj X)/\(O4.set bb (.obj X)).hp ba=some (.cells [.ptr tb 0])/\(O4.set bb (.obj X)).hp O3.next=some (.cells [.str yn,.str yv]):=⟨VH.an _ _ _,(VH.ak _ _ hab).trans kR,VH.sn eA⟩;have fS:(O4.set bb (.obj X)).next=O4.next:=rfl;have ia:∀i,i≠bb->(O4.set bb (.obj X)).hp i=O4.hp i:=fun i h1=>VH.ak _ _ h1
 have jL:=lV.oh (k:=bb) (x:=.obj X) (by rw[cU];simp);have ajz:=vM.lt;have hT5:oQ (O4.set bb (.obj X)) tb kr kd L R D cr cd tk kn:=⟨(ia _ (Ne.symm MF)).trans vM.cell,(ia _ (Ne.symm hbr)).trans vM.raw,(ia _ (Ne.symm rY)).trans vM.done,⟨by omega,by omega,by omega⟩,hne⟩;generalize O4.set bb (.obj X)=O5 at*;refine ab.op (i:=5) ?_;refine ae @cM ?_;refine⟨lL,?_⟩;have fJ:O5.Ge (O5.push (.cells [.ptr tb 0,.sl 0 [] .nil])):=(VH.Ge.refl _).push _;have hw6:(O5.push (.cells [.ptr tb 0,.sl 0 [] .nil])).hp O5.next=some (.cells [.ptr tb 0,.sl 0 [] .nil]):=VH.aW _ _;have n9:(O5.push (.cells [.ptr tb 0,.sl 0 [] .nil])).next=O5.next+1:=rfl;generalize O5.push (.cells [.ptr tb 0,.sl 0 [] .nil])=O6 at*;have xq:=hT5.ge fJ;have n_:=jL.ge fJ;have ak_:=xq.lt;refine ab.call (i:=8) (WO yn yv xq hw6 (by omega) hRj fG hvj gP) ?_;rintro _ O7 ⟨rfl,⟨kn',GF⟩,uh,vK⟩;simp only[aj];have Tb:∀i,i<O5.next->i≠tb->i≠kd->O7.hp i=O5.hp i:=fun i h1 h2 h3=>(vK i (by omega) h2 h3 (by omega)).trans (fJ.hp i h1)
 have xO:O7.hp bb=some (.obj X)/\O7.hp ba=some (.cells [.ptr tb 0])/\O7.hp O3.next=some (.cells [.str yn,.str yv]):=⟨(Tb _ (by omega) MF rY).trans lL.1,(Tb _ (by omega) afB Wf).trans lL.2.1,(Tb _ (by omega) (by omega) (by omega)).trans lL.2.2⟩;refine⟨xO,?_⟩;have j5:App O7 O.next 2 t:=n_.mv uh fun i h1 e=>(vK i h1 (fun e2=>by subst e2;rw[xq.cell]at e;cases e) (fun e2=>by subst e2;rw[xq.done]at e;cases e) (fun e2=>by subst e2;rw[hw6]at e;cases e)).trans e
 refine ab.av 9 ?_;refine ae @cM ?_;refine ab.op (i:=10) ?_;refine ae @cM ?_;refine⟨xO,?_⟩;have cC:=bj (tk:=t) (tk':=.full) (B:=O.next) (n:=(L.take j).length) (k:=1) (cs:=(L.take j).flatMap bh) (ds:=[.str yn,.str yv]) Ac Cq.1.1 (O:=O7) j5 (aQ fp _) rfl rfl (by decide) (by decide) (by omega) (by simp only[maxLen];omega);refine ab.op (i:=11) ?_;rw[cX];refine ao @cM @cC ?_;have kS:∀i,i<O7.next->O7.hp i≠some .tok->(O7.after t).hp i=O7.hp i:=fun i h1 h2=>App.off j5 h1 h2
 refine⟨⟨(kS _ (by omega) (by rw[xO.1];simp)).trans xO.1,(kS _ (by omega) (by rw[xO.2.1];simp)).trans xO.2.1,(kS _ (by omega) (by rw[xO.2.2];simp)).trans xO.2.2⟩,?_⟩;refine ab.jQ [(12,.one)] ?_;refine ae @cM ?_;refine VC.gen ?_;intro O8 e8;have rI:=cL.after j5;have hnA:=rI.next;have yQ:∀i,i≠bb->O8.hp i=(O7.after t).hp i:=fun i h1=>by rw[e8,VH.ak _ _ h1,VH.ak _ _ h1]
 have sS:O8.hp bb=some (.cells [.sl ((L.take j).length+1) ((L.take j).flatMap bh++[.str yn,.str yv]) (.own O7.next 2)]):=by rw[e8];exact VH.an _ _ _
 have EE:O8.next=(O7.after t).next:=by rw[e8];rfl
 clear e8;have aa7:=GF.lt;have hT8:oQ O8 tb kr kd L R (D++[(yn,yv,cd)]) cr (cd+1) tk kn':=⟨(yQ _ (Ne.symm MF)).trans ((kS _ aa7.1 (by rw[GF.cell];simp)).trans GF.cell),(yQ _ (Ne.symm hbr)).trans ((kS _ aa7.2.1 (by rw[GF.raw];simp)).trans GF.raw),(yQ _ (Ne.symm rY)).trans ((kS _ aa7.2.2 (by rw[GF.done];simp)).trans GF.done),⟨by omega,by omega,by omega⟩,hne⟩;have Cx:App O8 O.next 2 (.own O7.next 2):=(App.after (tk:=t) (B:=O.next) (sz:=2) (by omega:O.next<=O7.next)).mv (by omega) fun i hi e=>(yQ i (fun e2=>by subst e2;have e3:=kS i (by omega) (by rw[xO.1];simp);rw[e3,xO.1]at e;cases e)).trans e
 have oX:∀i,i<O.next->i≠tb->i≠kd->i≠bb->O8.hp i=O.hp i:=fun i h1 h2 h3 h4=>by
  rw[yQ i h4,rI.hp i (by omega) (fun e=>by have:=(App.n8 j5 e).1;omega),Tb i (by omega) h2 h3,ia i h4,aY.hp i (by omega)];exact uq i h1 h2 h3 h4
 refine WC.sound aa (ao @cM @cT ?_);refine ax.next (j+1) ⟨aX,by omega,oX,D++[(yn,yv,cd)],cd+1,kn',.own O7.next 2,hT8,fun p hp=>?_,?_,Cx⟩
 ·rw[eR];rcases agx.1 hp with hp | hp
  ·obtain⟨x,hx,e⟩:=hD p hp;exact⟨x,List.mem_append_left _ hx,e⟩
  ·rw[acs.1 hp];exact⟨(yn,yv),alL _ (acs.2 rfl),rfl⟩
 ·rw[eR,akF,Kn];simpa[bh]using sS
theorem ad5 {O:VH} {tb kr kd:Nat} {L:List (Bs×Bs)} {R:uo} {cr:Nat} {tk:Tok} (h:oQ O tb kr kd L R [] cr 0 tk 0) (hn:L.length<=10000) (hR:∀x∈L,xp x.1 R=some x.2) (hL:L.Pairwise fun x y=>x.1≠y.1) (hv:∀x∈L,rH x.2/\x.2.length<=4096):
  VF Tryz.prog 126 [.ptr tb 0] O (aE fun m O'=>(∃t,m= .tuple [.sl L.length (L.flatMap bh) t,mi 0,.str []])/\O.next<=O'.next/\∀i,i<O.next->i≠tb->i≠kd->O'.hp i=O.hp i):=by
 have ew:=h.lt;refine VF.bN 17 [.cell 2 104,.tmp 3,.tmp 4] Tryz.func126 ?_;refine VC.ag aa (ae @cM ?_);refine VC.gen ?_;intro O1 e1;obtain⟨aM,cW,cJ,cA⟩:=gj _ _ e1;clear e1;refine VC.ag aa (ao @cM @cJ ?_);refine VC.ag aa (ae @cM ?_);refine ah.rt (Nu (O:=O1) (g:=149) (xs:=[.ptr O.next 0,.ptr (O.next+1) 0]) (Φ :=fun A B=>(∃t,B.hp (O.next+1)=some (.cells [.sl L.length (L.flatMap bh) t]))/\A.next<=B.next/\∀i,i<A.next->i≠tb->i≠kd->i≠O.next+1->B.hp i=A.hp i) (by kernel_rfl) (fun O2 ay=>ad4 (ay.at cJ) (ay.at cA) (by have:=ay.next;omega) (by have:=ay.next;omega) (h.ge (aM.trans ay)) hn hR hL hv) (fun A B hA hB=>⟨hB.2.1,fun i h1 h2=>hB.2.2 i h2 (by omega) (by omega) (by omega)⟩)) ?_;rintro _ O3 ⟨rfl,A,B,rI,⟨⟨t,nA⟩,BM,hB3⟩,gm,uq⟩;have cg:=(uq _ (by omega)).trans nA;refine ae @cM ?_;refine VC.ag aa (ae @cM ?_);refine VC.ag aa (ao @cM @cg ?_);refine WC.sound aa (ae @cM ?_);have hnA:=rI.next;refine⟨⟨t,rfl⟩,by show O.next<=O3.next;omega,fun i h1 h2 h3=>?_⟩;rw[VH.ak _ _ (by omega),uq i (by omega),hB3 i (by omega) h2 h3 (by omega),rI.hp i (by omega),aM.hp i h1]
set_option linter.defProp false in
def oq:=yP nK<|yP aiI<|yP aiH<|yP T33<|yP T31 T65
def vN (r:Bool×Bs×List Bs) (tk:Tok):List MV:=[mb r.1,.str r.2.1,.sl r.2.2.length (r.2.2.flatMap fun _=>[]) tk]
def JK (s:Bs):Bool:=trimB s==s&&(s.headD 0 != 91&&(s.headD 0 != 40&&va s))
def qR (s:Bs):(Bool×Bs×List Bs)×Int:=if JK s then((false,s,[]),0)else((true,[],[]),21)
theorem aa8 {s:Bs} (h:qR s=((false,s,[]),0)):JK s=true:=by
 unfold qR at h;cases e:JK s
 ·rw[e]at h;simp at h
 ·rfl
theorem ad6 (v:Bs) (tk:Tok) (O:VH) (hv:v.length<=maxLen):VF Tryz.prog 163 [.agg [.v (.bool false),.str v,.sl 0 [] tk]] O (aE fun m O'=>m=mb (va v)/\O.Ge O'):=by
 refine VF.bN 76 [.tmp 2] Tryz.func163 ?_;refine VC.ag aa (ae @oq ?_);refine VC.bx ?_;rintro O1 ⟨aM,ez,cW⟩;refine VC.ag aa (ao @oq @ez ?_);refine ah.rt (Qd v O1 hv) ?_;rintro _ O2 ⟨rfl,ay⟩;refine ae @oq ?_;exact aM.trans ay
theorem ad7 {O:VH} {a b:Nat} {K:VH->Prop} (h:K O):gy Tryz.prog 157 [.ptr a 0,.ptr b 0] none O K:=by
 refine gy.rec (d:=5) Tryz.func157 (Nat.lt_of_lt_of_eq (by decide:5<12) rfl) ?_;show WC _ _ ⟨12,0⟩ _ _ _ _ _;simp only[cx,ahX,Nat.reduceAdd,z6];refine ao @oq @wi ?_;refine VL.pure (by simp) (fun _=>.inl rfl) rfl rfl (iG.Er (bb:=true) Tryz.underlying20 rfl (.inl ⟨rfl,rfl⟩)) ?_;refine WL.sound aa ?_;refine ao @oq @wi ?_;exact h
theorem aa9 {O:VH} {b:Nat} {s:Bs} (hk:O.hp b=some (.cells [.str s])):VF Tryz.prog 159 [.ptr b 0] O (aE fun m O'=>m=fL (s.headD 0)/\O'=O):=by
 refine VF.dy 13 [.tmp 2] Tryz.func159 ?_;cases s with
 | nil=>
   refine aJ @oq @hk (show(([]:List UInt8)==[])=true from rfl) ?_;rfl
 | cons c s=>
   refine aJ @oq @hk (show((c::s)==[])=false from rfl) ?_;rfl
theorem aa_ (s:Bs) (O:VH) (hs:s.length<=10000) (hp:qR s=((false,s,[]),0)):VF Tryz.prog 131 [.str s] O (aE fun m O'=>∃tk,m= .tuple [.agg (vN (qR s).1 tk),mi (qR s).2]/\O.Ge O'):=by
 have hsf:=aa8 hp;rw[hp];unfold JK at hsf;simp only[Bool.and_eq_true,beq_iff_eq,bne_iff_ne,ne_eq]at hsf;obtain⟨h1,h2,h3,h4⟩:=hsf;have Nv:=Jf s;rw[h1]at Nv;have Bc:s.length<=maxLen:=ah1 hs (by decide);have hm:=fun O' tk=>ad6 s tk O' Bc
 rw[h4]at hm;have hc:=(s.headD 0).toNat_lt;have b1:((s.headD 0).toNat:Int)≠91:=fun e=>h2 (by rw[<-UInt8.toNat_inj];show _=91;omega)
 have b2:((s.headD 0).toNat:Int)≠40:=fun e=>h3 (by rw[<-UInt8.toNat_inj];show _=40;omega)
 have c1:((((s.headD 0).toNat:Int)) != 91)=true:=by rw[bne_iff_ne];exact b1
 have c2:((((s.headD 0).toNat:Int)) != 40)=true:=by rw[bne_iff_ne];exact b2
 simp only[vN,aq,a_,RZ,agv];refine VF.deferred (lo:=4) (k:=54) (rs:=[.cell 2 33,.cell 3 65]) Tryz.func131 (Enters.sN (by kernel_rfl)) ?_;simp only[cx,ahX,Nat.reduceAdd];refine ae @oq ?_;refine⟨_,rfl,fun D=>?_⟩;refine VC.gen ?_;intro O1 e1;obtain⟨aM,cW,cJ,cA⟩:=gj _ _ e1;clear e1;refine VC.ag aa (ao @oq @wd ?_);refine ah.rt (Nv O1 Bc) ?_;rintro _ O2 ⟨rfl,e2⟩;rw[e2];clear e2 O2;refine ao @oq @wd ?_;refine VC.bx ?_;rintro O2 ⟨ay,jc,iq⟩;have iK:=ay.at cJ;have ct:=ay.at cA;refine VC.ag aa (ao @oq @wd ?_);refine ah.rt (aa9 jc) ?_;rintro _ O3 ⟨rfl,e3⟩;rw[e3];clear e3 O3;refine ZO @oq @wd @aI @c1 @c2 @jc @iK ?_;refine VC.gen ?_;intro O4 e4;have kR:O4.hp O.next=some (.cells [.v (.bool false),.str s,.sl 0 [] .nil]):=by rw[e4];exact VH.an _ _ _
 have cU:O4.hp (O.next+1)=some (.cells [.v (.int .i64 0)]):=by rw[e4,VH.ak _ _ (by omega)];exact ct
 have aY:O.Ge O4:=by rw[e4];exact(aM.trans ay).set (TP _) _
 have gI:O.next+1<O4.next:=by rw[e4];show _<O2.next;omega
 clear e4;refine VC.ag aa (aJ @oq @wd @kR ?_);refine ah.rt (hm O4 .nil) ?_;rintro _ O5 ⟨rfl,bH⟩;have fz:=bH.at kR;have cZ:=bH.at cU;refine aJ @oq @wd @fz ?_;refine VC.ag aa (c_ @oq @wd @fz @cZ ?_);refine WC.sound aa (ao @oq @wd ?_);refine ad7 ?_;refine ao @oq @wd ?_;exact⟨.nil,rfl,((aY.trans bH).set (TP _) _).set (ah3 _) _⟩
set_option linter.defProp false in
def eu:=yP cM<|yP ae6<|yP aio<|yP aiB<|yP aiA<|yP ae5<|yP T33<|yP T31<|yP Bo T65
def nmG:Bs:=[112,114,111,106,101,99,116,46,103,114,111,117,112,73,100]
def nmA:Bs:=[112,114,111,106,101,99,116,46,97,114,116,105,102,97,99,116,73,100]
def nmV:Bs:=[112,114,111,106,101,99,116,46,118,101,114,115,105,111,110]
def ij (p:Pm):List (Bs×Bs):=[(nmG,p.g),(nmA,p.a),(nmV,p.v)]
theorem vO (p:Pm):(ij p).Pairwise fun x y=>x.1≠y.1:=by
 simp only[ij,List.pairwise_cons,ah4,alS,or_false,forall_eq_or_imp,forall_eq];exact⟨⟨by decide,by decide⟩,by decide,by simp,by simp⟩
theorem Nw (p:Pm) (O:VH) (hh:p.hp=false) (hp:p.props=[]):VF Tryz.prog 121 [.agg (gC p)] O (aE fun m O'=>(∃t,m= .sl 3 ((ij p).flatMap bh) t)/\O.Ge O'):=by
 have hne:=vO p;have hov:=fun(O':VH) (tk tM:Tok)=>S9 [] (ij p) tk tM O' (by simp[ij]) (by simp) hne
 obtain⟨b,⟨pg,pa,pv⟩,pG,pA,pV,pk,P,M,D⟩:=p;dsimp only at hh hp;subst hh;subst hp;simp only[ij,nmG,nmA,nmV,RZ,agv,XO,XN,ahX,alP,List.append_nil,bh,acu]at hov ⊢;simp only[gC,RZ,agv,a_];refine VF.bN 35 [.tmp 2] Tryz.func121 ?_;refine VC.ag aa (ae @eu ?_);refine VC.bx ?_;rintro O1 ⟨aM,ez,cW⟩;refine VC.ag aa (ao @eu @ez ?_);refine ah.rt (hov _ _ _) ?_;rintro _ O2 ⟨⟨t,rfl⟩,ay⟩;have jc:=ay.at ez;refine ae @eu ?_;refine WC.sound aa (ao @eu @jc ?_);exact⟨⟨t,rfl⟩,aM.trans ay⟩
theorem ad8 (k:Nat) (O:VH):VF Tryz.prog 51 [.ptr k 0] O (aE fun m O'=>m= .ptr (O.next+1) 0/\O.Ge O'/\O'.hp O.next=some (.map [] 0)/\O'.hp (O.next+1)=some (.cells [.ptr k 0,.map O.next])/\O'.next=O.next+2):=by
 refine VF.bN 7 [.tmp 2] Tryz.func51 ?_;have nB:Gi (k9 [(0,1),(1,1)]) [.v (.pointer none),.v (.map none)] (.ptr k 0) [(1,.map O.next)] (some (0,1))=some [.ptr k 0,.map O.next]:=rfl;refine VC.ag aa (ae @eu ?_);refine WC.sound aa (ao @eu @nB ?_);obtain⟨hg,hn,h1,h2⟩:=gj (O:=O) (.map [] 0) (.cells [.ptr k 0,.map O.next]) rfl;exact hg
def gT (s:Bs):Prop:=rH s/\s.length<=4096
def sk (tb bb:Nat) (g:Gv) (p:Pm) (tw:Tok):List MV:=[.ptr tb 0,.ptr bb 0]++bW g++gC p++[.sl 1 (bW g) tw]
theorem JL {O:VH} {wb tb bb:Nat} {g:Gv} {p:Pm} {tw:Tok} (hw:O.hp wb=some (.cells (sk tb bb g p tw))) (s w:Bs) (hs:gT s):VF Tryz.prog 124 [.ptr wb 0,.str s,.str w] O (aE fun m O'=>m= .str s/\O.Ge O'):=by
 obtain⟨g1,g2,g3⟩:=g;obtain⟨b,⟨pg,pa,pv⟩,pG,pA,pV,pk,P,M,D⟩:=p;simp only[sk,bW,gC,acu,XO]at hw;refine VF.bN 27 [.tmp 6] Tryz.func124 ?_;refine VC.ag aa (ae @eu ?_);refine VC.ag aa (ao @eu @hw ?_);refine ah.rt (WS tb s O hs.1 hs.2) ?_;rintro _ O2 ⟨rfl,hg⟩;refine WC.sound aa (ae @eu ?_);exact hg
theorem BW {O:VH} {wb tb bb:Nat} {g:Gv} {p:Pm} {tw:Tok} (hw:O.hp wb=some (.cells (sk tb bb g p tw))) (s w:Bs) (hs:gT s):VF Tryz.prog 123 [.ptr wb 0,.str w,.str s,.str s] O (aE fun _ O'=>O.Ge O'):=by
 refine VF.bN 17 [] Tryz.func123 ?_;refine VC.ag aa (ae @eu ?_);refine ah.rt (JL hw s w hs) ?_;rintro _ O2 ⟨rfl,hg⟩;have hb:(!s==s)=false:=by simp
 refine WC.sound aa (ao @eu @hb ?_);exact hg
theorem Tc {O:VH} {wb tb bb:Nat} {g:Gv} {p:Pm} {tw:Tok} (hw:O.hp wb=some (.cells (sk tb bb g p tw))) (s w:Bs) (e:Bool) (hs:gT s) (hi:e_ s=true\/e=true/\s=[]):VF Tryz.prog 180 [.ptr wb 0,.str s,.str w,mb e] O (aE fun m O'=>m= .str s/\O.Ge O'):=by
 have Bc:s.length<=maxLen:=ah1 hs.2 (by decide);refine VF.bN 29 [.tmp 8] Tryz.func180 ?_;refine VC.ag aa (ae @eu ?_);refine VC.ag aa (ae @eu ?_);refine ah.rt (JL hw s w hs) ?_;rintro _ O2 ⟨rfl,hg⟩;refine ae @eu ?_;refine VC.ag aa (ae @eu ?_);refine ah.rt (sV s O2 Bc) ?_;rintro _ O3 ⟨rfl,aG⟩;have WT:=hg.trans aG;rcases hi with hi | ⟨rfl,rfl⟩
 ·refine ao @eu @hi ?_;refine WC.sound aa (ae @eu ?_);exact WT
 ·rcases hb:e_ []with _ | _
  ·refine ao @eu @hb ?_;refine WC.sound aa (ae @eu ?_);exact WT
  ·refine ao @eu @hb ?_;refine WC.sound aa (ae @eu ?_);exact WT
theorem Nx (wb:Nat) (O:VH) (v w:Bs) (hv:v.length<=10000) (hp:qR v=((false,v,[]),0)):VF Tryz.prog 156 [.ptr wb 0,.str v,.str w] O (aE fun m O'=>m= .agg (vN (false,v,[]) .ar)/\O.Ge O'):=by
 refine VF.fg ?_;have C_:=fun O'=>aa_ v O' hv hp
 rw[hp]at C_;simp only[vN,RZ,agv,a_,aq]at C_ ⊢;refine VF.bN 22 [.cell 6 33] Tryz.func156 ?_;refine VC.ag aa (ae @eu ?_);refine VC.bx ?_;rintro O1 ⟨aM,ez,cW⟩;refine VC.ag aa (ae @eu ?_);refine ah.rt (C_ _) ?_;rintro _ O2 ⟨tk,rfl,ay⟩;have jc:=ay.at ez;refine ae @eu ?_;refine VC.al ?_;rintro O3 ⟨aG,lq,gm⟩;have aba:=(aG.hp _ (by have:=ay.next;omega)).trans jc;refine WC.sound aa (aJ @eu @lq @aba ?_);exact((aM.trans ay).trans aG).set (by omega) _
theorem Q8 (n:Nat) (O:VH) (hn:n<=1000000000):VF Tryz.prog 151 [mi n] O (aE fun m O'=>m= .str (lF n)/\O'=O):=by
 have yG:=r6 n;refine VF.dy 17 [.tmp 2] Tryz.func151 ?_;refine ae @eu ?_;refine WC.iS [0,3] [] (fun x:Nat×Bs=>[mi x.1,.str x.2]) (fun x O'=>O'=O/\lF n=lF x.1++x.2/\x.1<=n) (fun x=>x.1) ((n,[])) ?_ ?_
 ·exact⟨rfl,by simp,TP _⟩
 rintro⟨k,s⟩ O2 ⟨eO,hk,yj⟩;dsimp only at hk yj ⊢;rw[eO];clear eO O2
 rcases Nat.eq_zero_or_pos k with rfl | hp
 ·have h0:lF 0=[]:=rfl;rw[h0,XO]at hk;refine ae @eu ?_;exact congrArg MV.str hk.symm
 ·have hd:=Me (k % 10) (by omega);have hl:(lF n).length=(lF k).length+s.length:=by rw[hk,Kn]
  have hr:(k:Int).tmod 10=((k % 10:Nat):Int):=by rw[Int.tmod_eq_emod_of_nonneg (by omega)];rfl
  have hq:(k:Int).tdiv 10=((k / 10:Nat):Int):=by rw[Int.tdiv_eq_ediv_of_nonneg (by omega)];rfl
  refine c_ @eu @hr @hq @hd ?_;refine ax.next (k / 10,Mc k++s) ⟨rfl,?_,by dsimp only;omega⟩;rw[hk,Bw hp,alI]
structure Q9 (d:Dp):Prop where
 g:gT d.g
 gi:e_ d.g=true
 a:gT d.a
 ai:e_ d.a=true
 v:gT d.v
 vn:d.v≠[]
 vp:qR d.v=((false,d.v,[]),0)
 t:gT d.t
 ti:e_ d.t=true\/d.t=[]
 c:gT d.c
 ci:e_ d.c=true\/d.c=[]
 x:d.x.length<=10000
def qS:Bs:=[106,97,114]
def vP (t:Bs):Bs:=if t=[]then qS else t
def dj (d:Dp):Dp:=⟨d.g,d.a,d.v,vP d.t,d.c,d.s,d.o,d.x⟩
theorem abb {O:VH} {wb tb bb:Nat} {g:Gv} {p:Pm} {tw:Tok} (hw:O.hp wb=some (.cells (sk tb bb g p tw))) (oJ:wb<O.next) (d:Dp) (w:Bs) (hd:Q9 d) (rP:w.length<=1000):VF Tryz.prog 152 [.ptr wb 0,.agg (aS d),.str w] O (aE fun m O'=>m= .agg (aS (dj d))/\O.Ge O'):=by
 obtain⟨Wb,qy,hda,hai,hdv,hvn,hvp,Lk,OV,hdc,BX,hdx⟩:=hd
 have F8:gT (vP d.t)/\e_ (vP d.t)=true:=by
  unfold vP;by_cases e:d.t=[]
  ·rw[if_pos e];exact⟨⟨by show Lib.index qS [36,123]<0;decide,by decide⟩,by decide⟩
  ·rw[if_neg e];exact⟨Lk,OV.resolve_right e⟩
 have htf:vP d.t=if d.t=[]then[106,97,114]else d.t:=rfl
 unfold dj;generalize vP d.t=T at*;obtain⟨dg,da,dv,dt,dc,kO,dO,dx⟩:=d;dsimp only at Wb qy hda hai hdv hvn hvp Lk OV hdc BX hdx F8 htf ⊢;simp only[aS,aq];have AL:=fun(O':VH) (g':O.Ge O')=>(g'.hp _ oJ).trans hw
 clear hw;have CO:(dv==[])=false:=by simpa using hvn
 have gP:dv.length<=10000:=ah1 hdv.2 (by decide);refine VF.bN 55 [.cell 6 63] Tryz.func152 ?_;refine VC.ag aa (ae @eu ?_);refine VC.gen ?_;intro O1 e1;obtain⟨aM,ala,cJ,cA⟩:=gj _ _ e1;have cW:O.next+2<=O1.next:=by omega
 clear e1;refine VC.ag aa (ao @eu @cJ ?_);refine ah.rt (Tc (AL _ aM) dg _ false Wb (.inl qy)) ?_;rintro _ O2' ⟨rfl,hH⟩;have afC:=hH.at cJ;have afD:=hH.at cA;have Yb:=aM.trans hH;have hL2:=hH.next;refine ao @eu @afC ?_;refine VC.gen ?_;intro O2 e2;have ay:O.Ge O2:=by rw[e2];exact Yb.set (by omega) _
 have iK:O2.hp O.next=some (.cells [.str dg,.str da,.str dv,.str dt,.str dc,.v (.int .i64 kO),.v (.int .i64 dO),.sl dx.length (List.flatMap bZ dx) .ar]):=by rw[e2];exact VH.an _ _ _
 have ct:O2.hp (O.next+1)=some (.cells [.str [],.str [],.str [],.str [],.str [],.v (.int .i64 0),.v (.int .i64 0),.sl 0 [] .nil]):=by rw[e2];exact VH.sn afD
 have iq:O.next+2<=O2.next:=by rw[e2];show _<=O2'.next;omega
 clear e2 afC afD;refine VC.ag aa (ao @eu @iK ?_);refine ah.rt (Tc (AL _ ay) da _ false hda (.inl hai)) ?_;rintro _ O3' ⟨rfl,hH⟩;have afE:=hH.at iK;have afF:=hH.at ct;have hK3:=ay.trans hH;have hL3:=hH.next;refine ao @eu @afE ?_;refine VC.gen ?_;intro O3 e3;have aG:O.Ge O3:=by rw[e3];exact hK3.set (by omega) _
 have rB:O3.hp O.next=some (.cells [.str dg,.str da,.str dv,.str dt,.str dc,.v (.int .i64 kO),.v (.int .i64 dO),.sl dx.length (List.flatMap bZ dx) .ar]):=by rw[e3];exact VH.an _ _ _
 have cg:O3.hp (O.next+1)=some (.cells [.str [],.str [],.str [],.str [],.str [],.v (.int .i64 0),.v (.int .i64 0),.sl 0 [] .nil]):=by rw[e3];exact VH.sn afF
 have gm:O.next+2<=O3.next:=by rw[e3];show _<=O3'.next;omega
 clear e3 afE afF;refine VC.ag aa (ao @eu @rB ?_);refine ah.rt (JL (AL _ aG) dv _ hdv) ?_;rintro _ O4' ⟨rfl,hH⟩;have afG:=hH.at rB;have afH:=hH.at cg;have hK4:=aG.trans hH;have hL4:=hH.next;refine ao @eu @afG ?_;refine VC.gen ?_;intro O4 e4;have aY:O.Ge O4:=by rw[e4];exact hK4.set (by omega) _
 have kR:O4.hp O.next=some (.cells [.str dg,.str da,.str dv,.str dt,.str dc,.v (.int .i64 kO),.v (.int .i64 dO),.sl dx.length (List.flatMap bZ dx) .ar]):=by rw[e4];exact VH.an _ _ _
 have cU:O4.hp (O.next+1)=some (.cells [.str [],.str [],.str [],.str [],.str [],.v (.int .i64 0),.v (.int .i64 0),.sl 0 [] .nil]):=by rw[e4];exact VH.sn afH
 have gI:O.next+2<=O4.next:=by rw[e4];show _<=O4'.next;omega
 clear e4 afG afH;refine VC.bC [0,2,4,6] (fun _:Unit=>[.ptr wb 0,.str w,.ptr O.next 0,.ptr (O.next+1) 0]) (fun _ O'=>O4.Ge O') ?_ ?_
 ·refine WC.sound aa (aJ @eu @kR @CO ?_);refine ah.rt (Nx wb _ dv _ gP hvp) ?_;rintro _ O5 ⟨rfl,bH⟩;refine ae @eu ?_;exact aA.mk () bH
 rintro _ O5 bH;have fz:=bH.at kR;have cZ:=bH.at cU;have afI:=aY.trans bH;have fS:=bH.next;refine VC.bC [0,2,4,6] (fun _:Unit=>[.ptr wb 0,.str w,.ptr O.next 0,.ptr (O.next+1) 0]) (fun _ O'=>O.Ge O'/\O.next+2<=O'.next/\O'.hp O.next=some (.cells [.str dg,.str da,.str dv,.str T,.str dc,.v (.int .i64 kO),.v (.int .i64 dO),.sl dx.length (List.flatMap bZ dx) .ar])/\O'.hp (O.next+1)=some (.cells [.str [],.str [],.str [],.str [],.str [],.v (.int .i64 0),.v (.int .i64 0),.sl 0 [] .nil])) ?_ ?_
 ·by_cases e:dt=[]
  ·subst e;rw[if_pos rfl]at htf;subst htf;have he0:(([]:Bs)==[])=true:=rfl;refine WC.sound aa (aJ @eu @fz @he0 ?_);exact aA.mk () ⟨afI.set (by omega) _,by show _<=O5.next;omega,VH.an _ _ _,VH.sn cZ⟩
  ·rw[if_neg e]at htf;have he0:(dt==[])=false:=by simpa using e
   subst htf;refine WC.sound aa (aJ @eu @fz @he0 ?_);exact aA.mk () ⟨afI,by omega,fz,cZ⟩
 rintro _ O6 ⟨fJ,n9,BK,jb⟩;refine VC.ag aa (ao @eu @BK ?_);refine ah.rt (Tc (AL _ fJ) T _ false F8.1 (.inl F8.2)) ?_;rintro _ O7' ⟨rfl,hH⟩;have afJ:=hH.at BK;have afK:=hH.at jb;have hK7:=fJ.trans hH;have hL7:=hH.next;refine ao @eu @afJ ?_;refine VC.gen ?_;intro O7 e7;have fC:O.Ge O7:=by rw[e7];exact hK7.set (by omega) _
 have Jw:O7.hp O.next=some (.cells [.str dg,.str da,.str dv,.str T,.str dc,.v (.int .i64 kO),.v (.int .i64 dO),.sl dx.length (List.flatMap bZ dx) .ar]):=by rw[e7];exact VH.an _ _ _
 have yE:O7.hp (O.next+1)=some (.cells [.str [],.str [],.str [],.str [],.str [],.v (.int .i64 0),.v (.int .i64 0),.sl 0 [] .nil]):=by rw[e7];exact VH.sn afK
 have uh:O.next+2<=O7.next:=by rw[e7];show _<=O7'.next;omega
 clear e7 afJ afK;refine VC.ag aa (ao @eu @Jw ?_);refine ah.rt (Tc (AL _ fC) dc _ true hdc (BX.imp id fun e=>⟨rfl,e⟩)) ?_;rintro _ O8' ⟨rfl,hH⟩;have afL:=hH.at Jw;have afM:=hH.at yE;have hK8:=fC.trans hH;have hL8:=hH.next;refine ao @eu @afL ?_;refine VC.gen ?_;intro O8 e8;have iI:O.Ge O8:=by rw[e8];exact hK8.set (by omega) _
 have ha8:O8.hp O.next=some (.cells [.str dg,.str da,.str dv,.str T,.str dc,.v (.int .i64 kO),.v (.int .i64 dO),.sl dx.length (List.flatMap bZ dx) .ar]):=by rw[e8];exact VH.an _ _ _
 have sS:O8.hp (O.next+1)=some (.cells [.str [],.str [],.str [],.str [],.str [],.v (.int .i64 0),.v (.int .i64 0),.sl 0 [] .nil]):=by rw[e8];exact VH.sn afM
 have EE:O.next+2<=O8.next:=by rw[e8];show _<=O8'.next;omega
 clear e8 afL afM;refine WC.sound aa (aJ @eu @ha8 @sS ?_);exact iI.set (by omega) _
set_option linter.defProp false in
def lH:=yP eu<|yP u_<|yP ZQ<|yP aiF<|yP aiG<|yP aiE<|yP LV<|yP HD Ev
theorem abc (f:MV) (t:Tok) (O:VH):VF Tryz.prog 182 [.sl 0 [] t,f] O (aE fun m O'=>m=mi (-1)/\O'=O):=by
 refine VF.dy 19 [.tmp 4] Tryz.func182 ?_;refine ae @lH ?_;refine WC.iS [8] [0,1,7] (fun x:Nat=>[mi 0]) (fun x O'=>O'=O) (fun x=>x) (0) ?_ ?_
 ·rfl
 rintro k O2 eO;rw[eO];refine ae @lH ?_;trivial
theorem WU (d:Dp) (t:Tok) (O:VH) (hx:d.x.length<=10000):VF Tryz.prog 155 [.agg (aS d),.sl 0 [] t] O (aE fun m O'=>m= .agg (aS d)/\O.Ge O'):=by
 have hk:=fun O'=>JD d O'
 obtain⟨dg,da,dv,dt,dc,kO,dO,dx⟩:=d;dsimp only at hx;simp only[aS,aq]at hk ⊢;generalize iM ⟨dg,da,dv,dt,dc,kO,dO,dx⟩=K at hk;obtain⟨k1,k2,k3,k4⟩:=K;simp only[fY]at hk;refine VF.bN 49 [.cell 4 63] Tryz.func155 ?_;refine VC.ag aa (ae @lH ?_);refine VC.gen ?_;intro O1 e1;obtain⟨aM,cW,cJ,cA⟩:=gj _ _ e1;clear e1;refine VC.ag aa (ao @lH @cJ ?_);refine ah.rt (hk _) ?_;rintro _ O2 ⟨rfl,ay⟩;have ajA:=aM.trans ay;have iK:=ay.at cJ;have ct:=ay.at cA;have iq:=ay.next;clear cJ cA hk aM ay;refine ae @lH ?_;refine VC.al ?_;rintro O3 ⟨aG,lq,gm⟩;have ajB:=ajA.trans aG;have rB:=aG.at iK;have cg:=aG.at ct;clear iK ct;refine VC.ag aa (ae @lH ?_);refine ah.rt (abc _ t _) ?_;rintro _ O4 ⟨rfl,rfl⟩;refine ae @lH ?_;refine VC.bB ?_;refine WC.sound aa (ae @lH ?_);refine VC.ag aa (ao @lH @rB ?_);refine ah.rt (td dx .ar _ (by omega)) ?_;rintro _ O4 ⟨rfl,aY⟩;have kR:=aY.at rB;have cU:=aY.at cg;refine ao @lH @kR ?_;refine WC.sound aa (ao @lH @cU ?_);exact((ajB.trans aY).set (TP _) _).set (ah3 _) _
structure Q_ (O:VH) (gb mb B:Nat) (L:List Dp) (M:fy) (cm:Nat) (tk:Tok):Prop where
 cell:O.hp gb=some (.cells [.sl L.length (L.flatMap aS) tk,.map mb])
 map:O.hp mb=some (.map (cI M) cm)
 ok:n5 4 M
 app:App O B 8 tk
 lt:gb<O.next/\mb<O.next
 ne:gb≠mb
theorem Q_.ge {O O':VH} {gb mb B:Nat} {L:List Dp} {M:fy} {cm:Nat} {tk:Tok} (h:Q_ O gb mb B L M cm tk) (g:O.Ge O'):Q_ O' gb mb B L M cm tk:=
 ⟨(g.hp _ h.lt.1).trans h.cell,(g.hp _ h.lt.2).trans h.map,h.ok,h.app.ge g,⟨Km h.lt.1 g.next,Km h.lt.2 g.next⟩,h.ne⟩
theorem ahu {O:VH} {gb mb B:Nat} {L:List Dp} {M:fy} {cm:Nat} {tk:Tok} (h:Q_ O gb mb B L M cm tk) (d:Dp) (hd:CE d) (hL:L.length<=10000) (hB:B<=O.next) (fG:∀p∈M,p.1≠eb (iM d)):
  VF Tryz.prog 153 [.ptr gb 0,.agg (aS d)] O (aE fun _ O'=>(∃tk',Q_ O' gb mb B (L++[d]) (M++[(eb (iM d),.v (.bool true),cm)]) (cm+1) tk'/\(∀i,Tok.id tk'=some i->O.next<=i))/\O.next<=O'.next/\∀i,i<O.next->i≠gb->i≠mb->Tok.id tk≠some i->O'.hp i=O.hp i):=by
 have C9:=fun O'=>JD d O'
 have EN:=Nj hd;have hkm:(fY (iM d))=(eb (iM d)).map .str:=rfl;have hud:cS (aS d)=aS d:=by simpa using lg [d]
 have hla:=wM fG
 have uj:M.any (·.1==eb (iM d))=false:=by
  rw[alJ];intro p hp hpe;exact fG p hp (eq_of_beq hpe)
 have hgm:∃es:Dp,es=d:=⟨_,rfl⟩
 generalize hK:iM d=K at*;obtain⟨k1,k2,k3,k4⟩:=K;obtain⟨dg,da,dv,dt,dc,kO,dO,dx⟩:=d;simp only[aS,aq,fY]at C9 hud ⊢;refine VF.bN 29 [] Tryz.func153 ?_;refine VC.ag aa (ae @lH ?_);refine VC.bx ?_;rintro O1 ⟨aM,ez,cW⟩;refine VC.ag aa (ao @lH @ez ?_);refine ah.rt (C9 _) ?_;rintro _ O2 ⟨rfl,ay⟩;refine ae @lH ?_;refine VC.al ?_;rintro O3 ⟨aG,lq,gm⟩;have eP:=(aM.trans ay).trans aG;have ajC:=(ay.trans aG).at ez;have h3:=h.ge eP;have eN:=h3.cell;refine VC.bB ?_;refine WC.bO (.held []) [(0,.rd),(1,.rd),(2,.rd),(3,.rd),(4,.rd),(5,.rd),(6,.rd)] ?_;refine aJ @lH @eN @lq ?_;refine VL.hold (.inr rfl) rfl rfl (fQ.lK rC aa (l:=eb ⟨k1,k2,k3,k4⟩) (te:=⟨_,1,1,[.v (.bool false)]⟩) Tryz.underlying273 T4 rfl rfl h3.map h3.ok rfl rfl EN) (WL.sound aa ?_);rw[hla];refine ae @lH ?_;refine VC.Bg rfl ?_;refine VC.bB ?_;refine WC.bO (.held [5]) [(0,.rd),(1,.rd),(2,.rd),(3,.rd),(4,.rd),(5,.one)] ?_;refine aJ @lH @eN @lq ?_;refine VL.oH rfl rfl (oG.jI rC (l:=eb ⟨k1,k2,k3,k4⟩) (b:=mb) (ck:=cm) (M:=M) Tryz.underlying273 rfl h3.map h3.ok rfl rfl EN rfl) (fun brk hb i hi=>?_) (WL.sound aa ?_)
 ·cases hb
  rcases i with _ | _ | _ | _ | _ | _ | i<;>first
   | rfl
   | (exfalso;revert hi;simp)
 have jC:=rW (y:=.v (.bool true)) (ck:=cm) h3.ok (l:=eb ⟨k1,k2,k3,k4⟩) rfl EN;unfold jI at jC;unfold jI LP;rw[uj]at jC ⊢;have hgb:=h3.ne;have lW:=h3.lt;refine ae @lH ?_;refine VC.gen ?_;intro O4 e4;have gI:O4.next=O3.next:=by rw[e4];rfl
 have rG:∀i,i≠mb->O4.hp i=O3.hp i:=fun i h1=>by rw[e4,VH.ak _ _ h1]
 have Fv:O4.hp mb=some (.map (cI (M++[(eb ⟨k1,k2,k3,k4⟩,MV.v (.bool true),cm)])) (cm+1)):=by rw[e4];exact VH.an _ _ _
 clear e4;have ff:=(rG gb hgb).trans eN;have yK:=(rG O.next (fun e=>by subst e;have:=h.lt;omega)).trans ajC;have lV:App O4 B 8 tk:=h3.app.mv (by omega) fun i hi e=>(rG i (fun e2=>by subst e2;rw[h3.map]at e;cases e)).trans e
 have ajD:=bj (tk:=tk) (tk':=.full) (n:=L.length) (k:=1) (cs:=L.flatMap aS) (ds:=[.str dg,.str da,.str dv,.str dt,.str dc,.v (.int .i64 kO),.v (.int .i64 dO),.sl dx.length (dx.flatMap bZ) .ar]) u_ Bo.1.1 lV (aQ gB L) rfl rfl (by decide) (by decide) (by omega) (by simp only[maxLen];omega);have kS:∀i,i<O4.next->O4.hp i≠some .tok->(O4.after tk).hp i=O4.hp i:=fun i h1 h2=>App.off lV h1 h2
 have JM:=(kS gb (by omega) (by rw[ff];simp)).trans ff;have hmA:=(kS mb (by omega) (by rw[Fv];simp)).trans Fv;refine WC.bO (.held [10]) [(0,.rd),(1,.rd),(2,.rd),(3,.rd),(4,.rd),(5,.rd),(6,.one),(7,.one),(8,.one),(9,.rd),(10,.one)] ?_;refine aJ @lH @ff @yK ?_;refine VL.app ajD ?_;refine ao @lH @JM ?_;have JN:=cL.after lV;refine⟨⟨.own O4.next 8,⟨?_,?_,jC,?_,?_,hgb⟩,fun i hi=>by injection hi with hi;have:=eP.next;omega⟩,?_,?_⟩
 ·rw[Kn,akF];exact VH.an _ _ _
 ·exact(VH.ak _ _ (Ne.symm hgb)).trans hmA
 ·exact(App.after (by have:=eP.next;omega)).oh (by rw[JM];simp)
 ·have:=JN.next;exact⟨by show _<(O4.after tk).next;omega,by show _<(O4.after tk).next;omega⟩
 ·have:=JN.next;have:=eP.next;show _<=(O4.after tk).next;omega
 ·intro i h1 h2 h3 h4;have:=eP.next;rw[VH.ak _ _ h2,JN.hp i (by omega) h4,rG i h3,eP.hp i h1]
set_option linter.defProp false in
def dB:=yP lH<|yP T3<|yP xF T9
theorem Ra {O:VH} {wb tb bb:Nat} {g:Gv} {p:Pm} {tw:Tok} (hw:O.hp wb=some (.cells (sk tb bb g p tw))) (oJ:wb<O.next) (hp:p.eE=[]):VF Tryz.prog 127 [.ptr wb 0] O (aE fun m O'=>m= .sl 0 [] .nil/\O.Ge O'):=by
 obtain⟨g1,g2,g3⟩:=g;obtain⟨b,⟨pg,pa,pv⟩,pG,pA,pV,pk,P,M,D⟩:=p;dsimp only at hp;subst hp;simp only[sk,bW,gC,acu,XO,RZ,agv]at hw;have nB:Gi (k9 [(0,1),(1,1)]) [.sl 0 [] .nil,.v (.map none)] (.map O.next) [] (some (1,1))=some [.sl 0 [] .nil,.map O.next]:=rfl;refine VF.bN 145 [.tmp 2] Tryz.func127 ?_;refine VC.ag aa (ae @dB ?_);refine VC.ag aa (ao @dB @nB ?_);refine VC.gen ?_;intro O1 e1;obtain⟨aM,cW,JE,fW⟩:=gj _ _ e1;clear e1;have Es:=(aM.hp _ oJ).trans hw;refine VC.ag aa (ae @dB ?_);refine VC.bC [3,4] (fun _:Unit=>[.ptr (O.next+1) 0,.sl 0 [] .nil]) (fun _ O'=>O'=O1) ?_ ?_
 ·refine VC.ag aa (ao @dB @Es ?_);refine VC.az ?_;refine VC.bG [4,23] [0,3,21,22] (fun _:Nat=>[.sl 0 [] .nil,mi 0]) (fun _ O'=>O'=O1) (fun x=>x) (0) ?_ ?_
  ·rfl
  rintro j O3 e3;rw[e3];refine WC.sound aa (ae @dB ?_);exact aA.mk () rfl
 rintro _ O3 e3;rw[e3];refine VC.bC [3] (fun _:Unit=>[.ptr (O.next+1) 0]) (fun _ O'=>O'=O1) ?_ ?_
 ·refine VC.ag aa (ae @dB ?_);refine VC.az ?_;refine VC.bG [84] [3,83] (fun _:Nat=>[mi 0]) (fun _ O'=>O'=O1) (fun x=>x) (0) ?_ ?_
  ·rfl
  rintro j O3 e3;rw[e3];refine WC.sound aa (ae @dB ?_);exact aA.mk () rfl
 rintro _ O3 e3;rw[e3];refine WC.sound aa (ao @dB @fW ?_);exact aM
theorem App.at {O O':VH} {B sz:Nat} {tk:Tok} (h:App O B sz tk) (hn:O.next<=O'.next) (hi:∀i,Tok.id tk=some i->O'.hp i=O.hp i):App O' B sz tk:=by
 cases tk with
 | own t k=>exact⟨h.1,(hi t rfl).trans h.2.1,h.2.2.1,Km h.2.2.2 hn⟩
 | nil=>trivial
 | full=>trivial
 | ar=>exact h.elim
theorem App.tok {O:VH} {B sz i:Nat} {tk:Tok} (h:App O B sz tk) (e:Tok.id tk=some i):O.hp i=some .tok:=by
 cases tk with
 | own t k=>injection e with e;subst e;exact h.2.1
 | nil=>cases e
 | full=>cases e
 | ar=>cases e
structure oR where
 k:Ky
 v:Bs
 s:Int
 o:Bool
 x:List fR
def dR (n:oR):List MV:=fY n.k++vN (false,n.v,[]) .ar++[mi n.s,mb n.o,.sl n.x.length (n.x.flatMap bZ) .ar]
theorem nR (x:oR):(dR x).length=10:=rfl
theorem w6 (L:List oR):cS (L.flatMap dR)=L.flatMap dR:=kP (fun x=>by simp only[dR,fY,vN,acu,XO,aq,a_,wu,m7,RZ,agv]) L
theorem Rb (F:oR):cS (dR F)=dR F:=by simpa using w6 [F]
def fw (d:Dp):oR:=⟨iM (dj d),d.v,max d.s 1,d.o==1,d.x⟩
theorem Q9.ok {d:Dp} (h:Q9 d):CE (dj d):=by
 have h1:=h.g.2;have h2:=h.a.2;have h3:=h.v.2;have h4:=h.t.2;have h5:=h.c.2;refine⟨?_,?_,?_,?_,?_,h.x⟩<;>(simp only[dj];first | omega | skip)
 unfold vP;split
 ·decide
 ·omega
set_option maxHeartbeats 1000000 in
theorem abd {O:VH} {wb tb bb:Nat} {g:Gv} {p:Pm} {tw:Tok} (hw:O.hp wb=some (.cells (sk tb bb g p tw))) (oJ:wb<O.next) (hq:∀d∈p.en,Q9 d) (hL:p.en.length<=900) (hne:p.en.Pairwise fun x y=>iM (dj x)≠iM (dj y)) (t:Tok):
  VF Tryz.prog 128 [.ptr wb 0,.sl 0 [] t] O (aE fun m O'=>(∃t',m= .sl p.en.length ((p.en.map fw).flatMap dR) t')/\O.Ge O'):=by
 have Ax:=fun(O':VH) (g':O.Ge O') (d:Dp) (w:Bs) (hd:Q9 d) (rP:w.length<=1000)=>abb (O:=O') (wb:=wb) (tb:=tb) (bb:=bb) (g:=g) (p:=p) (tw:=tw) ((g'.hp _ oJ).trans hw) (Km oJ g'.next) d w hd rP
 obtain⟨g1,g2,g3⟩:=g;obtain⟨b,⟨pg,pa,pv⟩,pG,pA,pV,pk,P,M,L⟩:=p;dsimp only at hq hL hne ⊢;simp only[sk,bW,gC,acu,XO]at hw;have dL:=aQ gB L;have nB:Gi (k9 [(0,1),(1,1)]) [.sl 0 [] .nil,.v (.map none)] (.map O.next) [] (some (1,1))=some [.sl 0 [] .nil,.map O.next]:=rfl;refine VF.bN 76 [.tmp 4] Tryz.func128 ?_;refine VC.ag aa (ae @dB ?_);refine VC.ag aa (ao @dB @nB ?_);refine VC.gen ?_;intro O1 e1;obtain⟨aM,cW,JE,fW⟩:=gj _ _ e1;clear e1;have Es:=(aM.hp _ oJ).trans hw;refine VC.ag aa (ae @dB ?_);refine VC.bC [6] (fun x:List oR×Tok=>[.sl x.1.length (x.1.flatMap dR) x.2]) (fun x O'=>O.Ge O'/\x.1=L.map fw) ?_ ?_;rotate_left
 ·rintro⟨R,t'⟩ O9 ⟨bo,rfl⟩;dsimp only;refine WC.sound aa (ae @dB ?_);rw[ags];exact⟨⟨t',rfl⟩,bo⟩
 refine VC.ag aa (ao @dB @Es ?_);refine VC.az ?_;refine VC.bG [6,20] [0,1,5,18,19] (fun x:Nat×List oR×Tok=>[.sl x.2.1.length (x.2.1.flatMap dR) x.2.2,mi x.1]) (fun x O'=>x.1<=L.length/\x.2.1=(L.take x.1).map fw/\O.Ge O'/\O.next+2<=O'.next/\App O' O.next 10 x.2.2/\∃Mj cm tk,Q_ O' (O.next+1) O.next O.next ((L.take x.1).map dj) Mj cm tk/\(∀q∈Mj,∃d∈L.take x.1,q.1=eb (iM (dj d)))/\∀i,Tok.id tk=some i->Tok.id x.2.2≠some i) (fun x=>L.length - x.1) ((0,[],.nil)) ?_ ?_
 ·exact⟨agw _,rfl,aM,by omega,trivial,[],0,.nil,⟨fW,JE,⟨by simp,by simp⟩,trivial,⟨by omega,by omega⟩,by omega⟩,by simp,fun i h=>by cases h⟩
 rintro⟨j,R,tl⟩ O2 ⟨hj,hR,ay,iq,vQ,Mj,cm,tk,hG2,hMj,F8⟩;dsimp only at hj hR vQ F8 ⊢;by_cases aX:j<L.length;rotate_left
 ·obtain rfl:j=L.length:=by omega
  rw[ahY]at hR;refine WC.sound aa (ae @dB ?_);exact aA.mk (R,tl) ⟨ay,hR⟩
 have QT:R.length=j:=by rw[hR,ags,agu];omega
 have bw:=bU gB L j aX;have eR:=c6 L j aX;have Ny:=hq L[j] (ah7 aX)
 have fG:∀q∈Mj,q.1≠eb (iM (dj L[j])):=fun q hq'=>by
  obtain⟨x,hx,e⟩:=hMj q hq';obtain⟨i,hi,e2⟩:=agt.1 hx;rw[agu]at hi;rw[alK]at e2;have:=(ah5.1 hne) i j (by omega) aX (by omega);rw[e2]at this;intro e3;rw[e]at e3;apply this;revert e3;generalize iM (dj x)=K1;generalize iM (dj L[j])=K2;obtain⟨a1,a2,a3,a4⟩:=K1;obtain⟨b1,b2,b3,b4⟩:=K2;simp[eb]
 have hRn:(L.take (j+1)).map fw=(L.take j).map fw++[fw L[j]]:=by rw[eR,alF];rfl
 have qJ:∃x∈L.take (j+1),eb (iM (dj L[j]))=eb (iM (dj x)):=⟨L[j],by rw[eR];exact alL _ (acs.2 rfl),rfl⟩
 have hold:∀q∈Mj,∃x∈L.take (j+1),q.1=eb (iM (dj x)):=fun q h=>by
  obtain⟨x,hx,e⟩:=hMj q h;exact⟨x,by rw[eR];exact List.mem_append_left _ hx,e⟩
 generalize L[j]=d at*;have ajE:=Ny.ok;have C9:=fun O'=>JD (dj d) O'
 have Db:=fun(O':VH) (tx:Tok)=>WU (dj d) tx O' Ny.x
 have C_:=fun(O':VH) (w:Bs)=>Nx wb O' d.v w (ah1 Ny.v.2 (by decide)) Ny.vp
 have CO:(d.v==[])=false:=by simpa using Ny.vn
 have ajF:=fun O'=>Q8 (j+1) O' (by omega)
 have yG:=r6 (j+1);have cT:((j:Int)+1)=((j+1:Nat):Int):=by omega
 have hud:cS (aS d)=aS d:=by simpa using lg [d]
 have afN:=fun(O':VH) (g':O.Ge O') (w:Bs) (rP:w.length<=1000)=>Ax O' g' d w Ny rP
 clear Ax;have ajG:=Ny.x;clear Ny hq;have Q5:fw d=⟨iM (dj d),d.v,max d.s 1,d.o==1,d.x⟩:=rfl;generalize fw d=F at Q5 hRn;have hrF:dj d=⟨d.g,d.a,d.v,vP d.t,d.c,d.s,d.o,d.x⟩:=rfl;have alb:cS (aS (dj d))=aS (dj d):=by simpa using lg [dj d]
 have Nv:(L.take (j+1)).map dj=(L.take j).map dj++[dj d]:=by rw[eR,alF];rfl
 have We:=fun(O':VH) (hG:Q_ O' (O.next+1) O.next O.next ((L.take j).map dj) Mj cm tk) (h2:O.next<=O'.next)=>ahu hG (dj d) ajE (by rw[ags,agu];omega) h2 fG
 generalize dj d=D at*;obtain⟨dg,da,dv,dt,dc,kO,dO,dx⟩:=d;dsimp only at hrF Q5 C_ CO ajG;generalize vP dt=T at hrF;subst hrF;generalize iM ⟨dg,da,dv,T,dc,kO,dO,dx⟩=K at*;obtain⟨k1,k2,k3,k4⟩:=K;simp only[aS,aq,fY,vN,a_,RZ,agv]at bw C9 Db afN C_ We;refine VC.ag aa (ae @dB ?_);refine VC.ag aa (ae @dB ?_);refine VC.bB (VC.az ?_);refine VC.ag aa (ao @dB @bw ?_);refine VC.al ?_;rintro O3 ⟨aG,lq,gm⟩;refine VC.ag aa (ao @dB @cT ?_);refine ah.rt (ajF _) ?_;rintro _ O4 ⟨rfl,e4⟩;rw[e4];clear e4 O4;refine ae @dB ?_
 have hWl:(100::101::112::101::110::100::101::110::99::121::91::(lF (j+1)++[93])).length<=1000:=by
  simp only[XN,Kn,RZ];omega
 generalize (100::101::112::101::110::100::101::110::99::121::91::(lF (j+1)++[93]))=W at*;refine VC.ag aa (ao @dB @lq ?_);refine ah.rt (afN O3 (ay.trans aG) W hWl) ?_;rintro _ O4 ⟨rfl,aY⟩;refine ae @dB ?_;refine ah.rt (Db _ _) ?_;rintro _ O5 ⟨rfl,bH⟩;have lz:=(aY.trans bH).at lq;have fS:=(aY.trans bH).next;refine ao @dB @lz ?_;refine VC.gen ?_;intro O6 e6;have ajH:O2.Ge O6:=by rw[e6];exact((aG.trans aY).trans bH).set (Nat.le_refl _) _
 have nq:O6.hp O2.next=some (.cells [.str dg,.str da,.str dv,.str T,.str dc,.v (.int .i64 kO),.v (.int .i64 dO),.sl dx.length (dx.flatMap bZ) .ar]):=by rw[e6];exact VH.an _ _ _
 have n9:O2.next+1<=O6.next:=by rw[e6];show _<=O5.next;omega
 clear e6 lz;refine VC.ag aa (aJ @dB @nq @CO ?_);refine VC.bC [0,1,5,6,8,10,18,19,20] (fun nb:Nat=>[.ptr wb 0,.sl 0 [] t,.ptr (O.next+1) 0,.sl R.length (R.flatMap dR) tl,.ptr O2.next 0,.ptr nb 0,.sl L.length (L.flatMap aS) .ar,.v (.int .i64 L.length),.v (.int .i64 j)]) (fun nb O'=>O6.Ge O'/\O6.next<=nb/\nb<O'.next/\O'.hp nb=some (.cells (dR F))) ?_ ?_
 ·subst Q5;refine VC.Aq [17] (O2.next) (fun O'=>O6.next<=O'.next/\∀i,i<O6.next->i≠O2.next->O'.hp i=O6.hp i) (nq) (fun X=>⟨TP _,fun i _ h=>VH.ak _ _ h⟩) ?_;intro X;refine ab.oe (m:=.agg [.str dg,.str da,.str dv,.str T,.str dc,.v (.int .i64 kO),.v (.int .i64 dO),.sl dx.length (dx.flatMap bZ) .ar]) 0 (fun _ h=>h.1) (fun _ h=>h) ?_ ?_
  ·exact fe @dB
  simp only[aj];refine ab.av 2 ?_;refine ae @dB ?_;refine ab.av 3 ?_;refine ae @dB ?_;refine ab.oe (m:=.str dv) 4 (fun _ h=>h.1) (fun _ h=>h) ?_ ?_
  ·exact fe @dB
  simp only[aj];refine ab.av 5 ?_;refine ae @dB ?_;refine ab.av 7 ?_;refine ae @dB ?_;refine ab.oe (m:=.v (.int .i64 kO)) 8 (fun _ h=>h.1) (fun _ h=>h) ?_ ?_
  ·exact fe @dB
  simp only[aj];refine ab.av 9 ?_;refine ae @dB ?_;refine ab.av 10 ?_;refine ae @dB ?_;refine ab.oe (m:=.v (.int .i64 dO)) 11 (fun _ h=>h.1) (fun _ h=>h) ?_ ?_
  ·exact fe @dB
  simp only[aj];refine ab.av 12 ?_;refine ae @dB ?_;refine ab.av 13 ?_;refine ae @dB ?_;refine ab.oe (m:=.sl dx.length (dx.flatMap bZ) .ar) 14 (fun _ h=>h.1) (fun _ h=>h) ?_ ?_
  ·exact fe @dB
  simp only[aj];have kX:∀A B:VH,A.Ge B->(A.hp O2.next=some (.obj X)/\O6.next<=A.next/\∀i,i<O6.next->i≠O2.next->A.hp i=O6.hp i)->(B.hp O2.next=some (.obj X)/\O6.next<=B.next/\∀i,i<O6.next->i≠O2.next->B.hp i=O6.hp i):=fun A B g h=>⟨g.at h.1,ah1 h.2.1 g.next,fun i h1 h2=>(g.hp i (by omega)).trans (h.2.2 i h1 h2)⟩
  have hJ8:(O6.set O2.next (.obj X)).hp O2.next=some (.obj X)/\O6.next<=(O6.set O2.next (.obj X)).next/\∀i,i<O6.next->i≠O2.next->(O6.set O2.next (.obj X)).hp i=O6.hp i:=⟨VH.an _ _ _,TP _,fun i _ h=>VH.ak _ _ h⟩
  generalize O6.set O2.next (.obj X)=O8 at*;have ug:∀A:VH,A.Ge (A.push (.cells [.str [],.str [],.str [],.str [],.v (.bool false),.str [],.sl 0 [] .nil,.v (.int .i64 0),.v (.bool false),.sl 0 [] .nil])):=fun A=>(VH.Ge.refl A).push _
  have hpn:∀A:VH,(A.push (.cells [.str [],.str [],.str [],.str [],.v (.bool false),.str [],.sl 0 [] .nil,.v (.int .i64 0),.v (.bool false),.sl 0 [] .nil])).hp A.next=some (.cells [.str [],.str [],.str [],.str [],.v (.bool false),.str [],.sl 0 [] .nil,.v (.int .i64 0),.v (.bool false),.sl 0 [] .nil]):=fun A=>VH.aW _ _
  refine ab.pair (i:=1) (j:=16) ?_ ?_
  ·refine aK.jj (C9 O8) ?_;rintro _ O9 ⟨rfl,bo⟩;simp only[aj];have Nz:=kX _ _ bo hJ8;refine⟨Nz,?_⟩;refine ab.pair (i:=6) (j:=16) ?_ ?_
   ·refine aK.jj (C_ O9 W) ?_;rintro _ fT ⟨rfl,NA⟩;simp only[aj];have xP:=kX _ _ NA Nz;refine⟨xP,?_⟩;refine ab.av 15 ?_;refine ae @dB ?_;refine ab.op (i:=16) ?_;refine ae @dB ?_;have CF:=kX _ _ (ug fT) xP;refine⟨⟨xP.1,CF.2⟩,?_⟩;have hz:=hpn fT;have hl:=ah6 fT.next;have h6:=xP.2.1;have lL:=CF;refine ab.jQ [(17,.one)] ?_;have sG:=(VH.ak (k:=O2.next) _ (.cells [.str dg,.str da,.str dv,.str T,.str dc,.v (.int .i64 kO),.v (.int .i64 dO),.sl dx.length (dx.flatMap bZ) .ar]) (show fT.next≠O2.next by omega)).trans hz;refine aJ @dB @hz @sG ?_;refine aA.mk fT.next ⟨⟨lL.2.1,fun i h1=>?_⟩,h6,hl,VH.an _ _ _⟩;rw[VH.ak _ _ (by omega)];by_cases e:i=O2.next
    ·subst e;rw[VH.an];exact nq.symm
    ·rw[VH.ak _ _ e];exact lL.2.2 i h1 e
   ·refine aK.o1 ?_;refine ae @dB ?_;have xP:=kX _ _ (ug O9) Nz;refine⟨⟨Nz.1,xP.2⟩,?_⟩;refine ab.call (i:=6) (C_ _ W) ?_;rintro _ ur ⟨rfl,oY⟩;simp only[aj];have CF:=kX _ _ oY xP;refine⟨CF,?_⟩;refine ab.av 15 ?_;refine ae @dB ?_;have hz:=(oY.hp _ (ah6 _)).trans (hpn O9);have hl:=Km (ah6 O9.next) oY.next;have h6:=Nz.2.1;have lL:=CF;refine ab.jQ [(17,.one)] ?_;have sG:=(VH.ak (k:=O2.next) _ (.cells [.str dg,.str da,.str dv,.str T,.str dc,.v (.int .i64 kO),.v (.int .i64 dO),.sl dx.length (dx.flatMap bZ) .ar]) (show O9.next≠O2.next by omega)).trans hz;refine aJ @dB @hz @sG ?_;refine aA.mk O9.next ⟨⟨lL.2.1,fun i h1=>?_⟩,h6,hl,VH.an _ _ _⟩;rw[VH.ak _ _ (by omega)];by_cases e:i=O2.next
    ·subst e;rw[VH.an];exact nq.symm
    ·rw[VH.ak _ _ e];exact lL.2.2 i h1 e
  ·refine aK.o1 ?_;refine ae @dB ?_;have Nz:=kX _ _ (ug O8) hJ8;refine⟨⟨hJ8.1,Nz.2⟩,?_⟩;refine ab.call (i:=1) (C9 _) ?_;rintro _ fT ⟨rfl,NA⟩;simp only[aj];have xP:=kX _ _ NA Nz;refine⟨xP,?_⟩;refine ab.call (i:=6) (C_ _ W) ?_;rintro _ ur ⟨rfl,oY⟩;simp only[aj];have CF:=kX _ _ oY xP;refine⟨CF,?_⟩;refine ab.av 15 ?_;refine ae @dB ?_;have hz:=((NA.trans oY).hp _ (ah6 _)).trans (hpn O8);have hl:=Km (ah6 O8.next) (NA.trans oY).next;have h6:=hJ8.2.1;have lL:=CF;refine ab.jQ [(17,.one)] ?_;have sG:=(VH.ak (k:=O2.next) _ (.cells [.str dg,.str da,.str dv,.str T,.str dc,.v (.int .i64 kO),.v (.int .i64 dO),.sl dx.length (dx.flatMap bZ) .ar]) (show O8.next≠O2.next by omega)).trans hz;refine aJ @dB @hz @sG ?_;refine aA.mk O8.next ⟨⟨lL.2.1,fun i h1=>?_⟩,h6,hl,VH.an _ _ _⟩;rw[VH.ak _ _ (by omega)];by_cases e:i=O2.next
   ·subst e;rw[VH.an];exact nq.symm
   ·rw[VH.ak _ _ e];exact lL.2.2 i h1 e
 rintro nb O7 ⟨fC,alc,hnb,hx7⟩;have ajI:=fC.at nq;have Td:=ajH.trans fC;have ajJ:=ay.trans Td;have uh:=fC.next;simp only[dR,fY,vN,a_,aq,RZ,agv,acu,XO]at hx7;refine VC.ag aa (ao @dB @ajI ?_);refine ah.rt (We O7 (hG2.ge Td) (by omega)) ?_;rintro _ O8 ⟨⟨tk8,Dc,ajK⟩,EE,yQ⟩;have hc8:=Dc.cell;have ahv:((L.take j).map dj++[({g:=dg,a:=da,v:=dv,t:=T,c:=dc,s:=kO,o:=dO,x:=dx}:Dp)]).length=j+1:=by rw[Kn,ags,agu];simp;omega
 rw[ahv,QT.symm]at hc8;have WG:=(yQ nb hnb (by omega) (by omega) (fun e=>by have:=(App.n8 hG2.app e).2;omega)).trans hx7;refine ae @dB ?_;have ew:decide ((R.length:Int)<((R.length+1:Nat):Int))=true:=by rw[decide_eq_true_iff];omega
 have j5:=vQ.ge Td;have hG7:=hG2.ge Td;have Cx:App O8 O.next 10 tl:=j5.at EE fun i e=>yQ i (j5.n8 e).2 (fun e2=>by have:=j5.tok e;rw[e2,hG7.cell]at this;cases this) (fun e2=>by have:=j5.tok e;rw[e2,hG7.map]at this;cases this) (fun e2=>F8 i e2 e)
 obtain⟨mE,gD,ll⟩:=fZ (n:=R.length) (cs:=R.flatMap dR) (ds:=[.str k1,.str k2,.str k3,.str k4,.v (.bool false),.str F.v,.sl 0 [] .ar,.v (.int .i64 F.s),.v (.bool F.o),.sl F.x.length (F.x.flatMap bZ) .ar]) (es:=dR F) HD LV.1.1 Cx (aQ nR R) rfl rfl (by decide) (by omega) (by simp only[maxLen];omega) (w6 R) (by subst Q5;exact Rb ⟨⟨k1,k2,k3,k4⟩,dv,max kO 1,dO==1,dx⟩);subst Q5;refine WC.sound aa (c_ @dB @hc8 @WG @ew ?_);refine VL.lC gD ll ?_;refine ae @dB ?_;refine WC.sound aa (ao @dB @cT ?_);have NB:=cL.after Cx
 have jn:O.Ge O8:=⟨by omega,fun i h1=>by
  rw[yQ i (by omega) (by omega) (by omega) (fun e=>by have:=(App.n8 hG7.app e).1;omega)];exact ajJ.hp i h1⟩
 have hfm:(R++[(⟨⟨k1,k2,k3,k4⟩,dv,max kO 1,dO==1,dx⟩:oR)]).flatMap dR=R.flatMap dR++dR ⟨⟨k1,k2,k3,k4⟩,dv,max kO 1,dO==1,dx⟩:=by simp only[akF,alP,agv,List.append_nil]
 have hfn:(R++[(⟨⟨k1,k2,k3,k4⟩,dv,max kO 1,dO==1,dx⟩:oR)]).length=R.length+1:=Kn;refine ax.next (j+1,R++[⟨⟨k1,k2,k3,k4⟩,dv,max kO 1,dO==1,dx⟩],.own O8.next 10) ⟨aX,?_,cL.ei jn Cx NB,by have:=NB.next;omega,App.after (by omega),Mj++[(eb ⟨k1,k2,k3,k4⟩,.v (.bool true),cm)],cm+1,tk8,?_,?_,?_⟩ (hl:=(by dsimp only;rw[hfm,hfn];rfl))
 ·rw[hRn,hR]
 ·dsimp only;rw[Nv];have afO:∀i,Tok.id tl=some i->O8.hp i=some .tok:=fun i e=>Cx.tok e
  refine⟨(NB.hp _ (by omega) (fun e=>by have:=afO _ e;rw[Dc.cell]at this;cases this)).trans Dc.cell,(NB.hp _ (by omega) (fun e=>by have:=afO _ e;rw[Dc.map]at this;cases this)).trans Dc.map,Dc.ok,Dc.app.at NB.next fun i e=>NB.hp i (Dc.app.n8 e).2 (fun e2=>by have h1:=ajK i e;have h2:=(j5.n8 e2).2;omega),⟨by have:=NB.next;have:=Dc.lt;omega,by have:=NB.next;have:=Dc.lt;omega⟩,Dc.ne⟩
 ·intro q hq';rcases agx.1 hq' with h | h
  ·exact hold q h
  ·rw[acs]at h;subst h;exact qJ
 ·intro i e e2;injection e2 with e2;have:=(Dc.app.n8 e).2;omega
set_option linter.defProp false in
def cN:=yP dB<|yP gW<|yP Ex<|yP HD<|yP LV<|yP T31 ae8
theorem Rc (L:List oR) (tk:Tok) (O:VH) (hn:L.length<=100000):VF Tryz.prog 116 [.sl L.length (L.flatMap dR) tk] O (aE fun m O'=>O.Ge O'/\GR O' 175 10 O.next m L.length (L.flatMap dR)):=by
 have dL:=aQ nR L
 have il:(L.flatMap dR).all dK=true:=by
  rw[List.all_flatMap,List.all_eq_true];intro p _;rfl
 refine VF.dy 8 [.tmp 2] Tryz.func116 ?_;refine ao @cN @nQ ?_;refine VL.pH (qe Tryz.underlying167 rfl) ?_;rintro _ O1 ⟨eO,b,rfl,hb⟩;rw[eO];clear eO O1
 refine WL.sound aa ?_;cases b
 ·refine ae @cN ?_;refine VL.grow aa (.inl rfl) (te:=⟨_,10,_,_⟩) (B:=O.next) (n':=0) (L:=[]) (dx:=.slice 175) (p:=.sl 0 [] .full) (q:=.sl L.length (L.flatMap dR) tk) (j:=L.length) (ds:=L.flatMap dR) (.inl ⟨rfl,rfl,.inr rfl⟩) (by simp[zP,dL]) il (by rw[HD];rfl) LV.1.1 (by rw[HD];rfl) trivial (by dsimp only;omega) (by simp only[maxLen];omega) (TP _) rfl rfl rfl rfl ?_;intro m O' h1 h2 h3 h4;rw[ahX,XO]at h1;refine ae @cN ?_;exact⟨h3 rfl,h1⟩
 ·obtain⟨h0,h1⟩:=hb rfl;rw[h0,h1];refine ae @cN ?_;exact⟨VH.Ge.refl _,.inl ⟨rfl,rfl,.inl rfl⟩⟩
theorem Re (tk:Tok) (O:VH):VF Tryz.prog 118 [.sl 0 [] tk] O (aE fun m O'=>m= .sl 0 [] .ar/\O'=O):=by
 refine VF.Wo (Φ :=fun m O'=>(m= .sl 0 [] .full\/m= .sl 0 [] .nil)/\O'=O) ?_ fun m O' h=>⟨_,(by rcases h.1 with e | e<;>rw[e]<;>exact Wk.tok),rfl,h.2⟩
 refine VF.dy 8 [.tmp 2] Tryz.func118 ?_;refine ao @cN @nQ ?_;refine VL.pH (qe Tryz.underlying31 rfl) ?_;rintro _ O1 ⟨eO,b,rfl,hb⟩;rw[eO];clear eO O1
 refine WL.sound aa ?_;cases b
 ·refine ae @cN ?_;refine VL.app (m:=.sl 0 [] .full) (O':=O) (by simp[iw,T31,ae8.1.1]) ?_ (ht:=aa) (hx:=rfl) (hy:=rfl);refine ae @cN ?_;exact .inl trivial
 ·refine ae @cN ?_;exact .inr trivial
structure Mdl where
 g:Gv
 pk:Bs
 props:List (Bs×Bs)
 JO:List oR
def lI (m:Mdl):List MV:=bW m.g++[.str m.pk,.sl m.props.length (m.props.flatMap bh) .ar,.sl 0 [] .ar,.sl m.JO.length (m.JO.flatMap dR) .ar]
theorem ad9 (m:Mdl) (O:VH) (hp:m.props.length<=10000) (hn:m.JO.length<=10000) (hx:∀n∈m.JO,n.x.length<=10000):VF Tryz.prog 89 [.agg (lI m)] O (aE fun r O'=>r= .agg (lI m)/\O.Ge O'):=by
 refine VF.fg ?_;obtain⟨⟨g1,g2,g3⟩,pk,P,L⟩:=m;dsimp only at hp hn hx;simp only[lI,bW,acu,XO];have dL:=aQ nR L;refine VF.bN 70 [.cell 2 169] Tryz.func89 ?_;refine VC.ag aa (ae @cN ?_);refine VC.gen ?_;intro O1 e1;obtain⟨aM,cW,cJ,cA⟩:=gj _ _ e1;clear e1;refine VC.bB ?_;refine VC.pK [10,11,12,13,14] (O.next) (cJ) ?_;intro X;refine ab.av 0 ?_;refine ae @cN ?_;refine ab.sR (m:=.sl P.length (P.flatMap bh) .ar) 1 ?_ ?_
 ·exact fe @cN
 simp only[aj];refine ab.av 3 ?_;refine ae @cN ?_;refine ab.sR (m:=.sl 0 [] .ar) 4 ?_ ?_
 ·exact fe @cN
 simp only[aj];refine ab.av 6 ?_;refine ae @cN ?_;refine ab.sR (m:=.sl L.length (L.flatMap dR) .ar) 7 ?_ ?_
 ·exact fe @cN
 simp only[aj];have JG:(O1.set O.next (.obj X)).hp O.next=some (.obj X):=VH.an _ _ _;have gG:∀i,i≠O.next->(O1.set O.next (.obj X)).hp i=O1.hp i:=fun i h=>VH.ak _ _ h
 have iq:(O1.set O.next (.obj X)).next=O1.next:=rfl;generalize O1.set O.next (.obj X)=O2 at*;refine ab.call (i:=2) (Fe P .ar O2 (by omega)) ?_;rintro _ O3 ⟨rfl,aG⟩;simp only[aj];refine⟨aG.at JG,?_⟩;refine ab.av 9 ?_;refine ae @cN ?_;refine ab.call (i:=5) (QK [] .ar O3 (by decide)) ?_;rintro _ O4 ⟨rfl,aY⟩;simp only[aj];refine⟨(aG.trans aY).at JG,?_⟩;refine ab.call (i:=8) (Rc L .ar O4 (by omega)) ?_;rintro mN O5 ⟨bH,xk⟩;simp only[aj];have NC:=(aG.trans aY).trans bH;refine⟨NC.at JG,?_⟩;refine ab.m4 [(10,.one),(11,.av),(12,.one),(13,.av),(14,.one)] ?_;simp only[RZ,agv];have fz:=NC.at JG;have cZ:=NC.at ((gG _ (by omega)).trans cA);have fS:=NC.next;have ia:∀i,i<O.next->O5.hp i=O.hp i:=fun i h=>(NC.hp i (by omega)).trans ((gG i (by omega)).trans (aM.hp i h))
 rcases xk with⟨h0,_,hp⟩ | ⟨k,c,rfl,zU,_,cQ⟩
 ·obtain rfl:L=[]:=alC h0;rcases hp with rfl | rfl
  ·refine ae @cN ?_;refine VC.gen ?_;intro O6 e6;have nq:O6.hp O.next=some (.cells [.str g1,.str g2,.str g3,.str pk,.sl P.length (P.flatMap bh) .ar,.sl 0 [] .ar,.sl 0 [] .nil]):=by rw[e6];exact VH.an _ _ _
   have pe:∀i,i<O5.next->i≠O.next->O6.hp i=O5.hp i:=fun i h1 h2=>by rw[e6,VH.ak _ _ h2,VH.ak _ _ h2,VH.ak _ _ h2,VH.ak _ _ h2]
   have n9:O6.next=O5.next:=by rw[e6];rfl
   clear e6;have jb:=(pe (O.next+1) (by omega) (by omega)).trans cZ;refine VC.bC [1,2] (fun _:Unit=>[.ptr O.next 0,.ptr (O.next+1) 0]) (fun _ O'=>O'=O6) ?_ ?_
   ·refine VC.ag aa (ao @cN @nq ?_);refine VC.az ?_;refine VC.bG [20] [1,2,19] (fun _:Nat=>[mi 0]) (fun _ O'=>O'=O6) (fun x=>x) (0) ?_ ?_
    ·rfl
    rintro _ O7 e7;rw[e7];refine WC.sound aa (ae @cN ?_);exact aA.mk () rfl
   rintro _ O7 e7;rw[e7];clear e7 O7;refine VC.bC [1,2] (fun _:Unit=>[.ptr O.next 0,.ptr (O.next+1) 0]) (fun _ O'=>O'=O6) ?_ ?_
   ·refine VC.ag aa (ao @cN @nq ?_);refine VC.az ?_;refine VC.bG [39] [1,2,38] (fun _:Nat=>[mi 0]) (fun _ O'=>O'=O6) (fun x=>x) (0) ?_ ?_
    ·rfl
    rintro _ O7 e7;rw[e7];refine WC.sound aa (ae @cN ?_);exact aA.mk () rfl
   rintro _ O7 e7;rw[e7];clear e7 O7;refine WC.sound aa (aJ @cN @nq @jb ?_);rw[f_];exact⟨rfl,by show _<=O6.next;omega,fun i h=>VH.sn ((pe i (by omega) (by omega)).trans (ia i h))⟩
  ·refine ae @cN ?_;refine VC.gen ?_;intro O6 e6;have nq:O6.hp O.next=some (.cells [.str g1,.str g2,.str g3,.str pk,.sl P.length (P.flatMap bh) .ar,.sl 0 [] .ar,.sl 0 [] .full]):=by rw[e6];exact VH.an _ _ _
   have pe:∀i,i<O5.next->i≠O.next->O6.hp i=O5.hp i:=fun i h1 h2=>by rw[e6,VH.ak _ _ h2,VH.ak _ _ h2,VH.ak _ _ h2,VH.ak _ _ h2]
   have n9:O6.next=O5.next:=by rw[e6];rfl
   clear e6;have jb:=(pe (O.next+1) (by omega) (by omega)).trans cZ;refine VC.bC [1,2] (fun _:Unit=>[.ptr O.next 0,.ptr (O.next+1) 0]) (fun _ O'=>O'=O6) ?_ ?_
   ·refine VC.ag aa (ao @cN @nq ?_);refine VC.az ?_;refine VC.bG [20] [1,2,19] (fun _:Nat=>[mi 0]) (fun _ O'=>O'=O6) (fun x=>x) (0) ?_ ?_
    ·rfl
    rintro _ O7 e7;rw[e7];refine WC.sound aa (ae @cN ?_);exact aA.mk () rfl
   rintro _ O7 e7;rw[e7];clear e7 O7;refine VC.bC [1,2] (fun _:Unit=>[.ptr O.next 0,.ptr (O.next+1) 0]) (fun _ O'=>O'=O6) ?_ ?_
   ·refine VC.ag aa (ao @cN @nq ?_);refine VC.az ?_;refine VC.bG [39] [1,2,38] (fun _:Nat=>[mi 0]) (fun _ O'=>O'=O6) (fun x=>x) (0) ?_ ?_
    ·rfl
    rintro _ O7 e7;rw[e7];refine WC.sound aa (ae @cN ?_);exact aA.mk () rfl
   rintro _ O7 e7;rw[e7];clear e7 O7;refine WC.sound aa (aJ @cN @nq @jb ?_);rw[f_];exact⟨rfl,by show _<=O6.next;omega,fun i h=>VH.sn ((pe i (by omega) (by omega)).trans (ia i h))⟩
 obtain⟨sp,hc,jX⟩:=cQ.cells;have kj:=cQ.lo;have QJ:=cQ.hi;have gI:=(aG.trans aY).next;refine ae @cN ?_;refine VC.gen ?_;intro O6 e6;have nq:O6.hp O.next=some (.cells [.str g1,.str g2,.str g3,.str pk,.sl P.length (P.flatMap bh) .ar,.sl 0 [] .ar,.bq k 0 L.length c]):=by rw[e6];exact VH.an _ _ _
 have pe:∀i,i<O5.next->i≠O.next->O6.hp i=O5.hp i:=fun i h1 h2=>by rw[e6,VH.ak _ _ h2,VH.ak _ _ h2,VH.ak _ _ h2,VH.ak _ _ h2]
 have n9:O6.next=O5.next:=by rw[e6];rfl
 clear e6;have jb:=(pe (O.next+1) (by omega) (by omega)).trans cZ;refine VC.bC [1,2] (fun _:Unit=>[.ptr O.next 0,.ptr (O.next+1) 0]) (fun _ O'=>O'=O6) ?_ ?_
 ·refine VC.ag aa (ao @cN @nq ?_);refine VC.az ?_;refine VC.bG [20] [1,2,19] (fun _:Nat=>[mi 0]) (fun _ O'=>O'=O6) (fun x=>x) (0) ?_ ?_
  ·rfl
  rintro _ O7 e7;rw[e7];refine WC.sound aa (ae @cN ?_);exact aA.mk () rfl
 rintro _ O7 e7;rw[e7];clear e7 O7;have BT:=(pe k (by omega) (by omega)).trans hc;refine VC.bC [1,2] (fun _:Unit=>[.ptr O.next 0,.ptr (O.next+1) 0]) (fun _ O'=>O6.Ge O') ?_ ?_
 ·refine VC.ag aa (ao @cN @nq ?_);refine VC.az ?_;refine VC.bG [39] [1,2,38] (fun j:Nat=>[mi j]) (fun j O'=>O6.Ge O'/\j<=L.length) (fun j=>L.length - j) (0) ?_ ?_
  ·exact⟨VH.Ge.refl _,agw _⟩
  rintro j O7 ⟨fC,hj⟩;by_cases aX:j<L.length;rotate_left
  ·obtain rfl:j=L.length:=by omega
   refine WC.sound aa (ae @cN ?_);exact aA.mk () fC
  have Te:=fC.at nq;have Tf:=(fC.hp k (by omega)).trans BT;have bw:(L.flatMap dR++sp)[j*10+9]?=some (.sl L[j].x.length (L[j].x.flatMap bZ) .ar):=iY nR (List.getElem?_eq_getElem aX) rfl;have abe:(L.flatMap dR++sp)[j*10+6]?=some (.sl 0 [] .ar):=iY nR (List.getElem?_eq_getElem aX) rfl;have hxj:=hx L[j] (List.getElem_mem aX);generalize L[j].x=X at*;generalize L.flatMap dR++sp=C at*;have kF:=wZ bw;have rE:=wZ abe;have Jh:=(List.getElem?_eq_some_iff.1 bw).1;have cT:((j:Int)+1)=((j+1:Nat):Int):=by omega
  have uh:=fC.next;refine VC.ag aa (ae @cN ?_);refine VC.ag aa (ae @cN ?_);refine VC.bB (VC.az ?_);refine VC.ag aa (ae @cN ?_);refine VC.bB ?_;refine VC.Dn [10,11,12] (O.next) (k) (Te) (Tf) ?_ (hne:=(by omega));intro X1 X2;refine ab.av 0 ?_;refine ae @cN ?_;refine ab.oe (m:=.bq k 0 L.length c) 1 (fun _ h=>h.1) (fun _ h=>h.1) ?_ ?_
  ·exact fe @cN
  simp only[aj];refine ab.av 2 ?_;refine ae @cN ?_;refine ab.av 3 ?_;refine ae @cN ?_;refine ab.oe (m:=.bq k 0 L.length c) 4 (fun _ h=>h.1) (fun _ h=>h.1) ?_ ?_
  ·exact fe @cN
  simp only[aj];refine ab.av 5 ?_;refine ae @cN ?_;refine ab.av 6 ?_;refine ae @cN ?_;refine ab.av 7 ?_;refine ae @cN ?_;refine ab.oe (m:=.sl X.length (X.flatMap bZ) .ar) 8 (fun _ h=>h.2) (fun _ h=>h.2) ?_ ?_
  ·exact dq @cN @bw
  simp only[aj];have afP:Mn O.next k X1 X2 ((O7.set O.next (.obj X1)).set k (.obj X2)):=⟨VH.sn (VH.an _ _ _),VH.an _ _ _⟩;have ald:((O7.set O.next (.obj X1)).set k (.obj X2)).next=O7.next:=rfl;have ajL:∀i,i≠O.next->i≠k->((O7.set O.next (.obj X1)).set k (.obj X2)).hp i=O7.hp i:=fun i h1 h2=>by rw[VH.ak _ _ h2,VH.ak _ _ h1]
  generalize (O7.set O.next (.obj X1)).set k (.obj X2)=O8 at*;refine ab.call (i:=9) (td X .ar O8 (by omega)) ?_;rintro _ O9 ⟨rfl,JA⟩;have Tg:VH.Ge O8 O9:=by first | exact JA | (rw[JA];exact VH.Ge.refl _)
  clear JA;simp only[aj];refine⟨⟨Tg.at afP.1,Tg.at afP.2⟩,?_⟩;refine ab.wS [(10,.av),(11,.av),(12,.one)] ?_ (hne:=(by omega));refine aJ @cN @bw @kF ?_;refine VC.gen ?_;intro fT abf
  have JP:VH.Ge O7 fT:=by
   refine⟨by rw[abf];show _<=VH.next O9;have:=Tg.next;omega,fun i h=>?_⟩;rw[abf];by_cases e1:i=k
   ·subst e1;first | (rw[VH.an];exact Tf.symm) | (rw[VH.an];exact Tf.symm)
   ·by_cases e2:i=O.next
    ·subst e2;first | (rw[VH.ak _ _ e1,VH.ak _ _ e1,VH.an];exact Te.symm) | (rw[VH.ak _ _ e1,VH.an];exact Te.symm)
    ·first | rw[VH.ak _ _ e1,VH.ak _ _ e1,VH.ak _ _ e2] | rw[VH.ak _ _ e1,VH.ak _ _ e2]
     exact(Tg.hp i (by omega)).trans (ajL i e2 e1)
  clear abf;have Rf:=JP.at Te;have Rg:=(JP.hp k (by omega)).trans Tf;have akO:=JP.next;refine VC.Dn [11,12,13,14] (O.next) (k) (Rf) (Rg) ?_ (hne:=(by omega));intro X3 X4;refine ab.av 0 ?_;refine ae @cN ?_;refine ab.oe (m:=.bq k 0 L.length c) 1 (fun _ h=>h.1) (fun _ h=>h.1) ?_ ?_
  ·exact fe @cN
  simp only[aj];refine ab.av 2 ?_;refine ae @cN ?_;refine ab.av 3 ?_;refine ae @cN ?_;refine ab.oe (m:=.bq k 0 L.length c) 4 (fun _ h=>h.1) (fun _ h=>h.1) ?_ ?_
  ·exact fe @cN
  simp only[aj];refine ab.av 5 ?_;refine ae @cN ?_;refine ab.av 6 ?_;refine ae @cN ?_;refine ab.av 7 ?_;refine ae @cN ?_;refine ab.av 8 ?_;refine ae @cN ?_;refine ab.oe (m:=.sl 0 [] .ar) 9 (fun _ h=>h.2) (fun _ h=>h.2) ?_ ?_
  ·exact dq @cN @abe
  simp only[aj];have abg:Mn O.next k X3 X4 ((fT.set O.next (.obj X3)).set k (.obj X4)):=⟨VH.sn (VH.an _ _ _),VH.an _ _ _⟩;have akP:((fT.set O.next (.obj X3)).set k (.obj X4)).next=fT.next:=rfl;have ahw:∀i,i≠O.next->i≠k->((fT.set O.next (.obj X3)).set k (.obj X4)).hp i=fT.hp i:=fun i h1 h2=>by rw[VH.ak _ _ h2,VH.ak _ _ h1]
  generalize (fT.set O.next (.obj X3)).set k (.obj X4)=ur at*;refine ab.call (i:=10) (Re .ar ur) ?_;rintro _ WV ⟨rfl,JA⟩;have JQ:VH.Ge ur WV:=by first | exact JA | (rw[JA];exact VH.Ge.refl _)
  clear JA;simp only[aj];refine⟨⟨JQ.at abg.1,JQ.at abg.2⟩,?_⟩;refine ab.wS [(11,.av),(12,.av),(13,.av),(14,.one)] ?_ (hne:=(by omega));refine aJ @cN @abe @rE ?_;refine VC.gen ?_;intro O13 abh
  have ahx:VH.Ge fT O13:=by
   refine⟨by rw[abh];show _<=VH.next WV;have:=JQ.next;omega,fun i h=>?_⟩;rw[abh];by_cases e1:i=k
   ·subst e1;first | (rw[VH.an];exact Rg.symm) | (rw[VH.an];exact Rg.symm)
   ·by_cases e2:i=O.next
    ·subst e2;first | (rw[VH.ak _ _ e1,VH.ak _ _ e1,VH.an];exact Rf.symm) | (rw[VH.ak _ _ e1,VH.an];exact Rf.symm)
    ·first | rw[VH.ak _ _ e1,VH.ak _ _ e1,VH.ak _ _ e2] | rw[VH.ak _ _ e1,VH.ak _ _ e2]
     exact(JQ.hp i (by omega)).trans (ahw i e2 e1)
  clear abh;refine WC.sound aa (ao @cN @cT ?_);exact ax.next (j+1) ⟨(fC.trans JP).trans ahx,aX⟩
 rintro _ O9 bo;have hx9:=bo.at nq;have bI:=bo.at jb;have Jz:=(bo.hp k (by omega)).trans BT;have BN:=bo.next;have BV:∀i,i<O.next->O9.hp i=O.hp i:=fun i h=>(bo.hp i (by omega)).trans ((pe i (by omega) (by omega)).trans (ia i h))
 refine VC.wR (A:=[.str g1,.str g2,.str g3,.str pk,.sl P.length (P.flatMap bh) .ar,.sl 0 [] .ar]) (E:=[]) (sz:=L.length*10) Jz hx9 (by omega) (by rw[Kn,dL];omega) ?_;have eR:((L.flatMap dR++sp).drop 0).take (L.length*10)=L.flatMap dR:=by rw[alW,ahZ (by rw[dL];exact TP _), <-dL,ahY]
 rw[eR];refine VC.gen ?_;intro fT r5;have ajM:fT.hp O.next=some (.cells [.str g1,.str g2,.str g3,.str pk,.sl P.length (P.flatMap bh) .ar,.sl 0 [] .ar,.sl L.length (L.flatMap dR) .ar]):=by rw[r5];exact VH.an _ _ _
 have Ie:fT.hp (O.next+1)=_:=(by rw[r5,VH.ak _ _ (by omega),VH.kN _ (by omega)]:fT.hp (O.next+1)=O9.hp (O.next+1)).trans bI;have AM:∀i,i<O.next->fT.hp i=O.hp i:=fun i h=>(by rw[r5,VH.ak _ _ (by omega),VH.kN _ (by omega)]:fT.hp i=O9.hp i).trans (BV i h)
 have HK:fT.next=O9.next:=by rw[r5];rfl
 clear r5;refine WC.sound aa (aJ @cN @ajM @Ie ?_);rw[f_,w6];exact⟨rfl,by show _<=fT.next;omega,fun i h=>VH.sn (AM i h)⟩
structure Rh (O:VH) (bb md k:Nat) (MD:fy) (cm:Nat):Prop where
 cell:O.hp bb=some (.cells [.ptr k 0,.map md])
 map:O.hp md=some (.map (cI MD) cm)
 ok:n5 3 MD
 lt:bb<O.next/\md<O.next
theorem Rh.ge {O O':VH} {bb md k:Nat} {MD:fy} {cm:Nat} (h:Rh O bb md k MD cm) (g:O.Ge O'):Rh O' bb md k MD cm:=
 ⟨(g.hp _ h.lt.1).trans h.cell,(g.hp _ h.lt.2).trans h.map,h.ok,Km h.lt.1 g.next,Km h.lt.2 g.next⟩
def Dd (s:Bs):Bs:=if s=[]then qS else s
def iN (g:Gv) (p:Pm):Mdl:=⟨g,Dd p.pk,ij p,p.en.map fw⟩
structure PmQ (p:Pm) (g:Gv):Prop where
 c:PmC p
 gg:p.g=g.g
 ga:p.a=g.a
 gv:p.v=g.v
 tg:gT g.g
 ta:gT g.a
 tv:gT g.v
 tp:gT p.pk
 pi:e_ (Dd p.pk)=true
 props:p.props=[]
 eE:p.eE=[]
 en:∀d∈p.en,Q9 d
 len:p.en.length<=900
 keys:p.en.Pairwise fun x y=>iM (dj x)≠iM (dj y)
end Go.Proofs.YtoclnkfdahmnhaaGreatDoor
