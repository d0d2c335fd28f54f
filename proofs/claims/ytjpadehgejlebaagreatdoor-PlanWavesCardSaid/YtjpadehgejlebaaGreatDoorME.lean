import Derived.Test.YtjpadehgejlebaaGreatDoorMD
set_option linter.unusedVariables false
set_option linter.defProp false
set_option maxHeartbeats 8000000
set_option linter.unusedSimpArgs false
namespace Go.Proofs.YtjpadehgejlebaaGreatDoor
open Go.RowKit
open _root_.Go.Proofs.Tryz
open Go.Value renaming int → Ι
open Go.IntKind renaming i64 → Κ
open _root_.List renaming length → Ζ
open _root_.Go.Proofs.Tryz renaming prog → Ε
open _root_.Option renaming some → φ, none → Β
open _root_.Bool renaming false → γ, true → Α
open _root_.List renaming length_append → Ti, length_nil → WT, length_cons → abx, nil_append → af_, mem_singleton → aga, cons_append → agb, getElem?_eq_some_iff → agc, mem_of_getElem? → aka, getElem?_eq_getElem → akb, length_map → akc, mem_iff_getElem → akd, length_take → ake, flatMap_nil → akf, mem_append → alP, take_length → alR, take_append_of_le_length → alS, getElem?_map → alT, mem_cons → ap2, pairwise_iff_getElem → ap3, getElem_mem → ap5, flatMap_append → ap6, eq_nil_of_length_eq_zero → ap7, getElem?_append_right → ap8, mem_of_find?_eq_some → ap9, map_append → ap_, map_map → aqb, append_assoc → aqc, any_eq_false → aqd, getElem_take → aqe, mem_append_right → aqf, mem_cons_of_mem → aqg, getElem?_append → aqh, getElem?_modify → aqi, flatMap_cons → aqj, getElem?_append_left → aqk, ext_getElem? → aql, not_mem_nil → aqm, mem_map → aqn, drop_zero → aqq
open _root_.Nat renaming lt_of_lt_of_le → Th, le_refl → YI, zero_le → alO, zero_add → alQ, le_trans → alU, le_succ → aoT, lt_succ_self → ap4, mul_one → aqp
open _root_.And renaming intro → Ca
open _root_.Option renaming map_eq_some_iff → alV, map_some → aqa
variable{af:Array Edge}{ops:Array Oper}{nm s t v:Bs}{e:Env}{K:Env->VH->Prop}{g:Gv}{a kn r u:Int}{iq:List (Bs×Bs)}{l:List Bs}{D:List Deferred}{cs cs' z:List MV}{U:List Nat}{m:MV}{B L N b b' ba bb bc c cd ce ck cm cr cv d gb i k kd ke kr kv o o' q sz tb wb:Nat}{n:Nd}{op:Op}{y:Operand}{p:Pm}{P:Program}{ps:String}{x:Tk}{tk tw:Tok}{O O' O1 O2:VH}{Φ:VH->Prop}{Q:VQ}{tab:cL}{E M V:gI}
set_option maxRecDepth 10000
structure PS where
 st:List (Bs×List (Bs×Bs)×List Nd)
 bP:Nat
 dn:Bool
 tx:Bool
 z:Nd
def p8(s:Bs)(p:PS):Except Int PS:=
 match p.st with
 | []=>if trimB s=[]then .ok p else .error 16
 | (n,a,K)::R=>
   if s=[]then .ok p
   else if p.tx then match K.getLast? with
    | some (.mk _ _ _ t)=>.ok {p with st:=(n,a,K.dropLast++[tK (t++s)])::R}
    | none=>.ok p
   else if 4096<p.bP+1 then .error 2
   else .ok {p with st:=(n,a,K++[tK s])::R,bP:=p.bP+1,tx:=Α}
def vu(nm:Bs)(iq:List (Bs×Bs))(p:PS):Except Int PS:=
 if p.dn then .error 16 else if 64<=(Ζ p.st) then .error 2 else if 4096<p.bP+1 then .error 2
 else .ok {p with st:=(nm,iq,[])::p.st,bP:=p.bP+1,tx:=γ}
def wL(p:PS):PS:=
 match p.st with
 | []=>p
 | [(n,a,K)]=>{p with st:=[],dn:=Α,tx:=γ,z:=.mk n a K []}
 | (n,a,K)::(n2,a2,K2)::R=>{p with st:=(n2,a2,K2++[.mk n a K []])::R,dn:=γ,tx:=γ}
def l9(x:Tk)(p:PS):Except Int PS:=
 if x.kind=4 then p8 x.text p
 else if x.kind=1 then vu x.name x.attrs p
 else if x.kind=2 then(match vu x.name x.attrs p with
  | .error e=>.error e
  | .ok q=>.ok (wL q))
 else if x.kind=3 then(match p.st with
  | []=>.error 16
  | f::_=>if f.1=x.name then .ok (wL p)else .error 14)
 else .ok p
def kS:List Tk->PS->Except (Int×Nat) PS
 | [],p=>.ok p
 | x::l,p=>match l9 x p with
   | .error e=>.error (e,x.off)
   | .ok q=>kS l q
def p0:PS:=⟨[],0,γ,γ,UQ⟩
def jF(t:Bs):Except (Int×Nat) Nd:=
 match xh t with
 | .error e=>.error e
 | .ok l=>match kS l p0 with
   | .error e=>.error e
   | .ok p=>if p.st≠[]then .error (13,Ζ t)else if p.dn then .ok p.z else .error (16,Ζ t)
def IF:List (Bs×List (Bs×Bs)×List Nd)->Nat
 | []=>0
 | f::R=>1+Ζ f.1+kN f.2.1+lM f.2.2+IF R
def J6(p:PS):Nat:=IF p.st+if p.dn then mz p.z else 0
structure mW(p:PS)(L:Nat):Prop where
 bP:p.bP<=4096
 len:Ζ p.st<=64
 Qy:p.tx=Α->∃n a K t R,p.st=(n,a,K++[tK t])::R
 wt:J6 p<=L+p.bP
def An(K M:List Nd):lM (K++M)=lM K+lM M:=by
 induction K with
 | nil=>rw[af_,lM,alQ]
 | cons x K ih=>rw[agb,lM,lM,ih];omega
def XK(t:Bs):mz (tK t)=1+Ζ t:=by rw[tK,Dn,kN,lM];simp
def mW.more{p:PS}{L':Nat}(h:mW p L)(hl:L<=L'):mW p L':=⟨h.bP,h.len,h.Qy,by have:=h.wt;omega⟩
def aaM{p q:PS}(h:mW p L)(e:p8 s p= .ok q):mW q (L+Ζ s):=by
 unfold p8 at e;obtain⟨st,bP,dn,tx,z⟩:=p;obtain⟨h2,h3,h4,h5⟩:=h;dsimp only at e h2 h3 h4 h5;cases st with
 | nil=>
   dsimp only at e;split at e;injection e with e;subst e;exact mW.more ⟨h2,h3,h4,h5⟩ (Nat.le_add_right _ _);cases e
 | cons f R=>
   obtain⟨n,a,K⟩:=f;dsimp only at e;split at e;injection e with e;subst e;exact mW.more ⟨h2,h3,h4,h5⟩ (Nat.le_add_right _ _);split at e;rename_i ht;obtain⟨n',a',K',t,R',he⟩:=h4 ht;injection he with Vk NG;injection Vk with e1 e2;injection e2 with e2 e3;subst e1;subst e2;subst e3;subst NG;rw[List.getLast?_concat,List.dropLast_concat]at e;dsimp only[tK]at e;injection e with e;subst e;refine⟨h2,h3,λ_=>⟨_,_,_,_,_,rfl⟩,?_⟩;simp only[J6,IF,An,lM,XK]at h5 ⊢;have e6:mz (Nd.mk [] [] [] (t++s))=1+(t++s).length:=XK _;rw[e6,Ti];omega;split at e;cases e;injection e with e;subst e;refine⟨by dsimp only;omega,h3,λ_=>⟨_,_,_,_,_,rfl⟩,?_⟩;simp only[J6,IF,An,lM,XK]at h5 ⊢;omega
def IG{p q:PS}(h:mW p L)(e:vu nm iq p= .ok q):mW q (L+Ζ nm+kN iq)/\q.st=(nm,iq,[])::p.st:=by
 unfold vu at e;split at e;cases e;split at e;cases e;split at e;cases e;injection e with e;subst e;rename_i hd H4 hc;refine⟨⟨by dsimp only;omega,by simp only[abx];omega,(λe=>by cases e),?_⟩,rfl⟩;have h5:=h.wt;simp only[J6,IF,lM,hd]at h5 ⊢;omega
def Rx{p:PS}(h:mW p L):mW (wL p) L:=by
 unfold wL;split;exact h;rename_i n a K hs;obtain⟨h2,h3,h4,h5⟩:=h;refine⟨h2,alO _,(λe=>by cases e),?_⟩;simp only[J6,IF,hs,Dn]at h5 ⊢;simp;omega;rename_i n a K n2 a2 K2 R hs;obtain⟨h2,h3,h4,h5⟩:=h;refine⟨h2,by rw[hs]at h3;simp only[abx]at h3 ⊢;omega,(λe=>by cases e),?_⟩;simp only[J6,IF,hs,An,lM,Dn]at h5 ⊢;simp;omega
def DH(x:Tk):Nat:=Ζ x.name+kN x.attrs+Ζ x.text
def Lw{p q:PS}(h:mW p L)(e:l9 x p= .ok q):mW q (L+DH x):=by
 unfold l9 at e;unfold DH;split at e;exact(aaM h e).more (by omega);split at e;exact(IG h e).1.more (by omega);split at e;split at e;cases e;rename_i q' hq;injection e with e;subst e;exact(Rx (IG h hq).1).more (by omega);split at e;split at e;cases e;split at e;injection e with e;subst e;exact(Rx h).more (by omega);cases e;injection e with e;subst e;exact h.more (by omega)
def Ry{n:Bs}{a:List (Bs×Bs)}{K:List Nd}{R:List (Bs×List (Bs×Bs)×List Nd)}{p:PS}(h:mW p L)(hm:(n,a,K)∈p.st):Ζ K<=L+4096:=by
 have h5:=h.wt;have h2:=h.bP;have hk:=Ew K;unfold J6 at h5
 have:∀st:List (Bs×List (Bs×Bs)×List Nd),(n,a,K)∈st->lM K<=IF st:=by
  intro st;induction st with
  | nil=>intro h;cases h
  | cons f R ih=>
    intro h;rw[IF];rcases ap2.1 h with rfl | h;dsimp only;omega;have:=ih h;omega
 have:=this _ hm;omega
def Ao{p:PS}{e:Int}(h:vu nm iq p= .error e):e=16\/e=2:=by
 unfold vu at h;split at h;injection h with h;exact .inl h.symm;split at h;injection h with h;exact .inr h.symm;split at h;injection h with h;exact .inr h.symm;cases h
def Vl{p:PS}{e:Int}(h:p8 s p= .error e):e=16\/e=2:=by
 unfold p8 at h;split at h;split at h;cases h;injection h with h;exact .inl h.symm;split at h;cases h;split at h;split at h<;>cases h;split at h;injection h with h;exact .inr h.symm;cases h
def Vm{p:PS}{e:Int}(h:l9 x p= .error e):e=16\/e=2\/e=14:=by
 unfold l9 at h;split at h;exact(Vl h).imp id .inl;split at h;exact(Ao h).imp id .inl;split at h;split at h;rename_i h2;injection h with h;subst h;exact(Ao h2).imp id .inl;cases h;split at h;split at h;injection h with h;exact .inl h.symm;split at h;cases h;injection h with h;exact .inr (.inr h.symm);cases h
def BP(O:VH)(B k:Nat)(U:Τ)(p:PS):Prop:=∃R tk,BS O B k R tk p.bP p.dn p.tx (eh p.z)/\uH R=p.st/\∀x∈eG k R tk,x∈U
def BP.ge{p:PS}(h:BP O B k U p)(g:O.Ge O'):BP O' B k U p:=by
 obtain⟨R,tk,h1,h2,h3⟩:=h;exact⟨R,tk,h1.ge g,h2,h3⟩
def Sp(O O':VH)(B k:Nat)(U:Τ)(q:PS):Prop:=∃U',(∀x∈U',x∈U\/O.N<=x)/\BP O' B k U' q
def Kp.XL{S:Τ}(h:Kp O O' S)(hs:∀x∈S,x∈U):Kp O O' U:=h.sub λx hx=>.inl (hs x hx)
def Sp.refl{q:PS}(h:BP O B k U q):Sp O O B k U q:=⟨U,λ_ h=>.inl h,h⟩
def Sp.trans{U1:Τ}{q:PS}(hl:O.N<=O1.N)(h1:∀x∈U1,x∈U\/O.N<=x)(h:Sp O1 O2 B k U1 q):Sp O O2 B k U q:=by
 obtain⟨U2,h2,h3⟩:=h;exact⟨U2,λx hx=>(h2 x hx).elim (h1 x) λe=>.inr (by omega),h3⟩
def adY{p:PS}(h:BP O B k U p)(hp:mW p L)(hL:L<=100000)(s:Bs)(hs:Ζ s<=1000000):
  VF Ε 278 [.p k 0,.s s] O (aH λm O'=>Kp O O' U/\match p8 s p with
   | .error e=>m=mi e
   | .ok q=>m=mi 0/\Sp O O' B k U q):=by
 obtain⟨R,tk,hb,hR,hU⟩:=h;obtain⟨st,bP,dn,tx,z⟩:=p;dsimp only at hb hR;subst hR;have hlen:=hp.len;dsimp only[uH]at hlen;rw[akc]at hlen;have adZ:bP<=4096:=hp.bP;cases R with
 | nil=>
   refine VF.mono ?_ (Rs hb s (by simp only[maxLen];omega));rintro(m | m) O' hr;obtain⟨rfl,rfl⟩:=hr;refine⟨Kp.refl,?_⟩;((((have e5:p8 s ⟨uH [],bP,dn,tx,z⟩=if trimB s=[]then .ok ⟨[],bP,dn,tx,z⟩else .error 16:=rfl);rw[e5];by_cases h2:trimB s=[]);rw[if_pos h2,if_pos h2];exact⟨rfl,Sp.refl ⟨[],tk,hb,rfl,hU⟩⟩);rw[if_neg h2,if_neg h2]);exact hr.elim
 | cons r R=>
   simp only[abx]at hlen
   have gW:Ζ r.kids<=1000000:=by
    have:=Ry (R:=[]) hp (List.mem_cons_self (a:=(r.name,r.attrs,r.kids)) (l:=uH R));omega
   by_cases Zg:s=[];subst Zg;refine VF.mono ?_ (Rt hb (by omega));rintro(m | m) O' hr;obtain⟨rfl,rfl⟩:=hr;exact⟨Kp.refl,rfl,Sp.refl ⟨r::R,tk,hb,rfl,hU⟩⟩;exact hr.elim;have hne:(s==[])=γ:=by cases s<;>simp at Zg ⊢
   cases tx with
   | true=>
     obtain⟨n,a,K,t,R',he⟩:=hp.Qy rfl;have he:(r.name,r.attrs,r.kids)::uH R=(n,a,K++[tK t])::R':=he;injection he with Vk NG;injection Vk with e1 e2;injection e2 with e2 e3
     have ht:Ζ t<=1000000:=by
      have h5:=hp.wt;have e4:uH (r::R)=(r.name,r.attrs,r.kids)::uH R:=rfl;simp only[J6,e4,IF,e3,An,lM,XK]at h5;omega
     refine VF.mono ?_ (Ru hb (by omega) s t K (by omega) e3 (by omega) gW hne);rintro(m | m) O' hr
     ·obtain⟨rfl,h1,h2⟩:=hr;refine⟨h1.XL hU,?_⟩
      have e5:p8 s ⟨uH (r::R),bP,dn,Α,z⟩= .ok ⟨(r.name,r.attrs,K++[tK (t++s)])::uH R,bP,dn,Α,z⟩:=by
       unfold p8;show(if s=[]then _ else _)=_;rw[if_neg Zg,if_pos rfl,e3,List.getLast?_concat,List.dropLast_concat];rfl
      rw[e5];exact⟨rfl,U,λ_ h=>.inl h,_,tk,h2,rfl,hU⟩
     ·exact hr.elim
   | false=>
     refine VF.mono ?_ (Rv hb (by omega) (by omega) s (by omega) gW hne);rintro(m | m) O' hr
     ·obtain⟨h1,hr⟩:=hr;refine⟨h1.XL hU,?_⟩
      have e5:p8 s ⟨uH (r::R),bP,dn,γ,z⟩=if 4096<bP+1 then .error 2 else .ok ⟨(r.name,r.attrs,r.kids++[tK s])::uH R,bP+1,dn,Α,z⟩:=by
       unfold p8;show(if s=[]then _ else _)=_;rw[if_neg Zg,if_neg (by simp)];rfl
      rw[e5];by_cases hc:4096<bP+1;rw[decide_eq_true hc]at hr;rw[if_pos hc];exact hr;rw[decide_eq_false hc]at hr;rw[if_neg hc];obtain⟨rfl,q',h2,h3⟩:=hr;refine⟨rfl,eG k ({r with kids:=r.kids++[tK s],q:=q'}::R) tk,λx hx=>?_,_,tk,h2,rfl,λ_ h=>h⟩;have hx:x∈k::((r.b::R.map (·.b))++(gid q').toList++(Tok.id tk).toList):=hx;simp only[ap2,alP]at hx;rcases hx with rfl | ((rfl | hx) | hx) | hx;exact .inl (hU _ p6);exact .inl (hU _ se);obtain⟨g,hg,rfl⟩:=aqn.1 hx;exact .inl (hU _ (DF (aqg _ hg)));rcases h3 x (by simpa using hx)with e | e;exact .inl (hU _ (p7 e));exact .inr e;exact .inl (hU _ (GO (by simpa using hx)))
     ·exact hr.elim
def XM{p:PS}(h:BP O B k U p)(hp:mW p L)(hL:L<=100000)(kd:Int)(nm tt:Bs)(iq:List (Bs×Bs))(p1 p2 p3:Int)(Lv:Ζ iq<=100000):
  VF Ε 279 [.p k 0,.agg [mi kd,.s nm,.l (Ζ iq) (iq.flatMap bH) .au,.s tt,mi p1,mi p2,mi p3]] O (aH λm O'=>Kp O O' U/\match vu nm iq p with
   | .error e=>m=mi e
   | .ok q=>m=mi 0/\Sp O O' B k U q):=by
 obtain⟨R,tk,hb,hR,hU⟩:=h;obtain⟨st,bP,dn,tx,z⟩:=p;dsimp only at hb hR;subst hR;have adZ:bP<=4096:=hp.bP
 have gW:∀r∈R,Ζ r.kids<=1000000:=λr hr=>by
  have:=Ry hp (show(r.name,r.attrs,r.kids)∈uH R from aqn.2 ⟨r,hr,rfl⟩) (R:=[]);omega
 refine VF.mono ?_ (adT hb (by omega) kd nm tt iq p1 p2 p3 Lv gW);have hl:(uH R).length=Ζ R:=by unfold uH;rw[akc]
 rintro(m | m) O' hr;obtain⟨h1,hr⟩:=hr;refine⟨h1.XL hU,?_⟩;unfold vu;unfold ug at hr;dsimp only;rw[hl];cases dn;rw[if_neg (by simp)]at hr ⊢;by_cases H4:64<=Ζ R;rw[if_pos H4]at hr ⊢;exact hr;rw[if_neg H4]at hr ⊢;by_cases hc:4096<bP+1;rw[if_pos hc]at hr ⊢;exact hr;rw[if_neg hc]at hr ⊢;obtain⟨rfl,R',tk',h2,h3,h4⟩:=hr;exact⟨rfl,eG k R' tk',λx hx=>(h4 x hx).imp (hU x) id,R',tk',h2,h3,λ_ h=>h⟩;rw[if_pos rfl]at hr ⊢;exact hr;exact hr.elim
def XN{p:PS}(h:BP O B k U p)(hp:mW p L)(hne:p.st≠[]):
  VF Ε 280 [.p k 0] O (aH λ_ O'=>Kp O O' U/\BP O' B k U (wL p)):=by
 obtain⟨R,tk,hb,hR,hU⟩:=h;obtain⟨st,bP,dn,tx,z⟩:=p;dsimp only at hb hR hne;subst hR;have hlen:=hp.len;dsimp only[uH]at hlen;rw[akc]at hlen;cases R with
 | nil=>exact absurd rfl hne
 | cons r R=>
   refine VF.mono ?_ (ahw hb (by simp only[abx]at hlen;omega));rintro(m | m) O' hr
   ·obtain⟨h1,h2⟩:=hr;refine⟨h1.XL hU,?_⟩;have yX:=aaL (tk:=tk) hb.c;cases R with
    | nil=>exact⟨[],_,h2,rfl,λx hx=>hU x (yX x hx)⟩
    | cons g R=>exact⟨_,_,h2,rfl,λx hx=>hU x (yX x hx)⟩
   ·exact hr.elim
def aaN{p:PS}(h:BP O B k U p)(hp:mW p L)(hU:∀x∈U,x<O.N)(t:Bs)(x:Tk)(hL:L+DH x<=100000)(vW:1<=x.kind/\x.kind<=6):
  VF Ε 260 [.p k 0,.agg (xw t x)] O (aH λm O'=>Kp O O' U/\match l9 x p with
   | .error e=>m=mi e
   | .ok q=>m=mi 0/\Sp O O' B k U q):=by
 have Lv:Ζ x.attrs<=100000:=by
  have:∀a:List (Bs×Bs),Ζ a<=kN a:=by
   intro a;induction a with
   | nil=>exact alO _
   | cons y a ih=>rw[kN,abx];omega
  have:=this x.attrs;unfold DH at hL;omega
 have yp:Ζ x.text<=100000:=by unfold DH at hL;omega
 have hLL:L<=100000:=by omega
 have hS:l9 x p=if x.kind=4 then p8 x.text p else if x.kind=1 then vu x.name x.attrs p else if x.kind=2 then(match vu x.name x.attrs p with
  | .error e=>.error e
  | .ok q=>.ok (wL q))else if x.kind=3 then(match p.st with
  | []=>.error 16
  | f::_=>if f.1=x.name then .ok (wL p)else .error 14)else .ok p:=rfl
 rw[hS];clear hS;have hW:Ζ x.name+kN x.attrs<=DH x:=by unfold DH;omega
 generalize DH x=W at*;unfold xw;obtain⟨kd,nm,iq,tt,off⟩:=x;dsimp only at Lv yp vW hW ⊢;generalize ((oF t off:Nat):Int)=p2 at*;generalize Iy t off=p3 at*;generalize ((off:Nat):Int)=p1 at*;simp only[aq];refine ω 50 [.tmp 4] func260 ?_;refine κ aL ?_;refine VC.bx ?_;rintro O1 ⟨aK,Gp,dd⟩;have h1:=h.ge aK;have kR:Kp O O1 U:=Kp.ge aK;have DI:∀x∈U,x∈U\/O.N<=x:=λ_ h=>.inl h
 have hnU:O.N ∉ U:=λhm=>by have:=hU _ hm;omega
 rcases(show kd=4\/kd=1\/kd=2\/kd=3\/kd=5\/kd=6 by omega)with rfl | rfl | rfl | rfl | rfl | rfl
 all_goals simp only[Int.reduceEq,if_true,if_false,reduceIte]
 ·refine ξ aL Gp ?_;refine τ (adY h1 hp hLL tt (by omega)) ?_;rintro m O2 ⟨hl,hm⟩;generalize p8 tt p=F at hm ⊢;cases F with
  | error e=>
    dsimp only at hm;subst hm;refine ae aL ?_;exact kR.more hl DI
  | ok q=>
    obtain⟨rfl,hq⟩:=hm;refine ae aL ?_;exact⟨kR.more hl DI,hq.trans aK.N DI⟩
 ·refine ξ aL Gp ?_;refine τ (XM h1 hp hLL 1 nm tt iq p1 p2 p3 Lv) ?_;rintro m O2 ⟨hl,hm⟩;have uI:=(hl.2 O.N (by omega) hnU).trans Gp;cases hF:vu nm iq p with
  | error e=>
    rw[hF]at hm;dsimp only at hm;subst hm;rcases Ao hF with rfl | rfl;refine aE aL uI @aq ?_;exact kR.more hl DI;refine aE aL uI @aq ?_;exact kR.more hl DI
  | ok q=>
    rw[hF]at hm;obtain⟨rfl,hq⟩:=hm;refine ao aL uI ?_;exact⟨kR.more hl DI,hq.trans aK.N DI⟩
 ·refine ξ aL Gp ?_;refine τ (XM h1 hp hLL 2 nm tt iq p1 p2 p3 Lv) ?_;rintro m O2 ⟨hl,hm⟩;have uI:=(hl.2 O.N (by omega) hnU).trans Gp;cases hF:vu nm iq p with
  | error e=>
    rw[hF]at hm;dsimp only at hm;subst hm;rcases Ao hF with rfl | rfl;refine aE aL uI @aq ?_;exact kR.more hl DI;refine aE aL uI @aq ?_;exact kR.more hl DI
  | ok q=>
    rw[hF]at hm;obtain⟨rfl,U2,hU2,hq⟩:=hm;obtain⟨dw,cX⟩:=IG hp hF;refine ao aL uI ?_;refine τ (XN hq dw (by rw[cX];simp)) ?_;rintro m O3 ⟨p5,qF⟩;refine ae aL ?_;(have ai8:∀x∈U2,x∈U\/O.N<=x:=λx hx=>(hU2 x hx).imp id λe=>by have:=aK.N;omega);exact⟨(kR.more hl DI).more p5 ai8,U2,ai8,qF⟩
 ·obtain⟨R,tk,hb,hR,hUo⟩:=h1;have cK:=hb.c.cells;obtain⟨a0,a1,a2,a3,hr⟩:=uf (fU R (eh p.z) hb.c.zl);unfold sd at cK;rw[hr]at cK;simp only[aq,bB,agb,af_]at cK
  have Rr:Ζ R<=64:=by
   have:=hp.len;rw[<-hR]at this;unfold uH at this;rw[akc]at this;exact this
  cases R with
  | nil=>
    have cX:p.st=[]:=hR.symm;rw[cX];dsimp only;refine θ (cB aL Gp cK @WT.{0} ?_);exact kR
  | cons r R=>
    have cX:p.st=(r.name,r.attrs,r.kids)::uH R:=hR.symm;rw[cX];dsimp only;simp only[abx]at Rr;obtain⟨pre,post,fK,dD,FX,_,_⟩:=hb.c.loc
    have Tx:(pre++kz r++post)[r.off]?=φ (.s r.name):=by
     rw[aqc,ap8 (by omega), <-dD,Nat.sub_self];rfl
    generalize pre++kz r++post=C at*;have Vn:BP O1 B k U p:=⟨r::R,tk,hb,hR,hUo⟩;refine θ (cB aL Gp cK @abx.{0} ?_);refine VC.pF [7,8] ?_;refine ρ 0 aL ?_;refine ρ 5 aL ?_;refine ab.ld (m:=.s nm) 6 ?_ ?_;exact eD aL Gp;simp only[ak];refine ab.call (i:=1) (ID hb) ?_;rintro _ O9 ⟨rfl,eO⟩;simp only[ak];rw[eO];clear eO O9;refine⟨VH.Ge.refl _,?_⟩;refine ρ 2 aL ?_;refine ρ 3 aL ?_;refine ab.ld (m:=.s r.name) 4 ?_ ?_;exact kt3 aL fK Tx;simp only[ak];refine ab.bW [(7,.bh),(8,.bh)] ?_;by_cases hn:r.name=nm;rw[if_pos hn];have hn':(r.name==nm)=Α:=beq_iff_eq.2 hn;refine ao aL hn' ?_;refine τ (XN Vn hp (by rw[cX];simp)) ?_;rintro m O3 ⟨p5,qF⟩;refine ae aL ?_;refine ν aL ?_;exact⟨kR.more p5 DI,U,DI,qF⟩;rw[if_neg hn];(have hn':(r.name==nm)=γ:=by simpa using hn);refine ao aL hn' ?_;exact kR
 ·refine ξ aL Gp ?_;refine ν aL ?_;exact⟨kR,U,DI,h1⟩
 ·refine ξ aL Gp ?_;refine ν aL ?_;exact⟨kR,U,DI,h1⟩
def GQ{t:Bs}{stop:UInt8}:∀(n o:Nat)(acc:Bs) {s:Bs} {o':Nat},fQ t stop n o acc= .ok (s,o')->Ζ s+o<=Ζ acc+o'
 | 0,o,acc,s,o',h=>by
   unfold fQ at h;injection h with h;injection h with h1 h2;subst h1;subst h2;omega
 | n+1,o,acc,s,o',h=>by
   have done:∀(h:(.ok (acc,o):Except (Int×Nat) (Bs×Nat))= .ok (s,o')),Ζ s+o<=Ζ acc+o':=λh=>by
    injection h with h;injection h with h1 h2;subst h1;subst h2;omega
   unfold fQ at h;cases hg:t[o]? with
   | none=>rw[hg]at h;exact done h
   | some c=>
     rw[hg]at h;simp only at h;split at h;((((·exact done h));split at h);split at h;cases h;rename_i h5;obtain⟨k1,k2,k3⟩:=Dv (by simpa using h5);have:=GQ n _ _ h;rw[Ti]at this;omega);split at h;cases h;have:=GQ n _ _ h;rw[Ti]at this;simp only[abx,WT]at this;omega
def ahx(h:xe t o= .ok (s,o')):Ζ s+o+2<=o':=by
 unfold xe at h;split at h;cases h;split at h;cases h;split at h;cases h;rename_i s2 o2 h2;have:=GQ _ _ _ h2;split at h;cases h;injection h with h;injection h with h1 h3;subst h1;subst h3;simp only[WT]at this;omega
def aaO(a b:List (Bs×Bs)):kN (a++b)=kN a+kN b:=by
 induction a with
 | nil=>rw[af_,kN,alQ]
 | cons x a ih=>rw[agb,kN,kN,ih];omega
def XO{t:Bs}:∀(n o:Nat)(l:List (Bs×Bs)) {l':List (Bs×Bs)} {o':Nat},o<=(Ζ t)->nQ t n o l= .ok (l',o')->kN l'+o<=kN l+o'
 | 0,o,l,l',o',ho,h=>by
   rw[nQ]at h;injection h with h;injection h with h1 h2;subst h1;subst h2;omega
 | n+1,o,l,l',o',ho,h=>by
   have yy:=kH t o ho;rw[nQ]at h;split at h;injection h with h;injection h with h1 h2;subst h1;subst h2;omega;rename_i hc;(((((((((have cC:1<=l0 t o:=Nat.one_le_iff_ne_zero.2 λe=>hc (.inl e));split at h);cases h);rename_i nm o2 h2;have hn:=iT h2;have cG:=kH t o2;split at h);cases h);split at h);cases h);rename_i y4 o4 h4;have hw:=nE h4;have dy:=kH t o4;split at h);cases h);rename_i v o6 h6;have hv:=ahx h6;have px:=Dx h6;have:=XO n o6 _ (by omega) h;rw[aaO,kN,kN]at this;dsimp only at this;omega
def EN{q:Bs}{p:Nat}(h:kG t o q= .ok (s,p)):Ζ s+o<=p:=by
 unfold kG at h;split at h;cases h;split at h;cases h;rename_i h1;injection h with h;injection h with h2 h3;(have hi:0<=Lib.index (t.drop o) q:=by omega);unfold sX at h2;rw[if_pos hi]at h2;rw[<-h2,ake];omega
def ahy(ho:o<=Ζ t)(h:oX t o= .ok (x,o')):DH x+o<=o'/\1<=x.kind/\x.kind<=6:=by
 unfold oX at h;unfold DH;split at h;obtain⟨y,h1,rfl⟩:=kP h;have:=EN h1;simp only[abx,WT,kN]at this ⊢;exact⟨by omega,by decide,by decide⟩;split at h;obtain⟨y,h1,rfl⟩:=kP h;have:=EN h1;simp only[abx,WT,kN]at this ⊢;exact⟨by omega,by decide,by decide⟩;split at h;obtain⟨y,h1,rfl⟩:=kP h;have:=EN h1;simp only[abx,WT,kN]at this ⊢;exact⟨by omega,by decide,by decide⟩;split at h;unfold ud at h;split at h;cases h;rename_i nm o2 h2;have hn:=iT h2;obtain⟨y,h1,rfl⟩:=kP h;have:=nE h1;simp only[abx,WT,kN]at this ⊢;exact⟨by omega,by decide,by decide⟩;split at h
 ·unfold yI at h;split at h;cases h;rename_i nm o2 h2;have hn:=iT h2;split at h;cases h;rename_i l o3 h3;have ha:=XO _ _ _ (by omega) h3;rw[kN]at ha;split at h
  all_goals
   obtain⟨y,h1,rfl⟩:=kP h;have:=nE h1;simp only[abx,WT]at this ⊢;exact⟨by omega,by decide,by decide⟩
 ·obtain⟨y,h1,rfl⟩:=kP h;have:=GQ _ _ _ h1;simp only[WT,kN]at this ⊢;exact⟨by omega,by decide,by decide⟩
def om(l:List Tk):Nat:=(l.map DH).sum
def IH(l:List Tk)(x:Tk):om (l++[x])=om l+DH x:=by simp[om]
def Rz{t:Bs}:∀(n o:Nat)(l:List Tk) {l':List Tk},o<=(Ζ t)->om l<=o->(∀x∈l,1<=x.kind/\x.kind<=6/\x.off<=Ζ t)->ky t n o l= .ok l'->om l'<=(Ζ t)/\∀x∈l',1<=x.kind/\x.kind<=6/\x.off<=Ζ t
 | 0,o,l,l',ho,hl,hk,h=>by
   rw[ky]at h;injection h with h;subst h;exact⟨by omega,hk⟩
 | n+1,o,l,l',ho,hl,hk,h=>by
   rw[ky]at h;split at h;injection h with h;subst h;exact⟨by omega,hk⟩;rename_i dm;split at h;cases h;rename_i x o' hx;have h1:=ahy ho hx;have h2:=Ra (by omega) hx;refine Rz n o' _ h2.2.2 ?_ (λy hy=>?_) h;rw[IH];omega;rcases alP.1 hy with hy | hy;exact hk y hy;rw[aga]at hy;subst hy;exact⟨h1.2.1,h1.2.2,by omega⟩
def XP{t:Bs}{l:List Tk}(h:xh t= .ok l):om l<=(Ζ t)/\∀x∈l,1<=x.kind/\x.kind<=6/\x.off<=Ζ t:=
 Rz _ 0 [] (alO _) (alO _) (λx hx=>by cases hx) h
def Vo(l:List Tk)(x:Tk)(p:PS):kS (l++[x]) p=match kS l p with
  | .error e=>.error e
  | .ok q=>match l9 x q with
    | .error e=>.error (e,x.off)
    | .ok q=>.ok q:=by
 induction l generalizing p with
 | nil=>rfl
 | cons y l ih=>
   rw[agb,kS,kS];cases l9 y p with
   | error e=>rfl
   | ok q=>exact ih q
def Vp{l m:List Tk}{p:PS}{e:Int×Nat}(h:kS l p= .error e):kS (l++m) p= .error e:=by
 induction l generalizing p with
 | nil=>cases h
 | cons y l ih=>
   rw[kS]at h;rw[agb,kS];split at h;rename_i h1;injection h with h;subst h;rfl;exact ih h
def ad0:mW p0 0:=⟨by decide,by decide,(λe=>by cases e),by simp[J6,p0,IF]⟩
def II{α :Type}(F:Except (Int×Nat) α):Prop:=∀e,F= .error e->e.1≠0
def DJ{t:Bs}{stop:UInt8}:∀(n o:Nat)(acc:Bs),II (fQ t stop n o acc)
 | 0,o,acc=>λe h=>by unfold fQ at h;cases h
 | n+1,o,acc=>λe h=>by
   unfold fQ at h;split at h;cases h;split at h;cases h;split at h;split at h;rename_i h5;injection h with h;subst h;exact h5;exact DJ n _ _ e h;split at h;injection h with h;subst h;simp;exact DJ n _ _ e h
def EO(t:Bs)(o:Nat){k:Int}(hk:k≠0):II (kO t o k):=λe h=>by
 unfold kO at h;split at h;injection h with h;subst h;simp;split at h;injection h with h;subst h;exact hk;cases h
def Ap(t:Bs)(o:Nat)(p:Bs):II (ku t o p):=λe h=>by
 unfold ku at h;split at h;injection h with h;subst h;simp;split at h;cases h;injection h with h;subst h;simp
def ad1(t:Bs)(o:Nat):II (xe t o):=λe h=>by
 unfold xe at h;split at h;injection h with h;subst h;simp;split at h;injection h with h;subst h;simp;split at h;rename_i h2;injection h with h;subst h;exact DJ _ _ _ _ h2;split at h;injection h with h;subst h;simp;cases h
def RA{t:Bs}:∀(n o:Nat)(l:List (Bs×Bs)),II (nQ t n o l)
 | 0,o,l=>λe h=>by rw[nQ]at h;cases h
 | n+1,o,l=>λe h=>by
   rw[nQ]at h;split at h;cases h;split at h;rename_i h2;injection h with h;subst h;exact EO _ _ (by decide) _ h2;split at h;injection h with h;subst h;simp;split at h;rename_i h2;injection h with h;subst h;exact Ap _ _ _ _ h2;split at h;rename_i h2;injection h with h;subst h;exact ad1 _ _ _ h2;exact RA n _ _ e h
def B9(t:Bs)(o:Nat)(q:Bs):II (kG t o q):=λe h=>by
 unfold kG at h;split at h;injection h with h;subst h;simp;split at h;injection h with h;subst h;simp;cases h
def td{α β :Type}{f: α -> β}{F:Except (Int×Nat) (α ×Nat)}(hF:II F):II (xf f F):=λe h=>hF e (oY h)
def ad2(t:Bs)(o:Nat):II (oX t o):=λe h=>by
 unfold oX at h;split at h;exact td (B9 _ _ _) e h;split at h;exact td (B9 _ _ _) e h;split at h;exact td (B9 _ _ _) e h;split at h;unfold ud at h;split at h;rename_i h2;injection h with h;subst h;exact EO _ _ (by decide) _ h2;exact td (Ap _ _ _) e h;split at h;unfold yI at h;split at h;rename_i h2;injection h with h;subst h;exact EO _ _ (by decide) _ h2;split at h;rename_i h2;injection h with h;subst h;exact RA _ _ _ _ h2;split at h;exact td (Ap _ _ _) e h;exact td (Ap _ _ _) e h;exact td (DJ _ _ _) e h
def Lx{t:Bs}:∀(n o:Nat)(l:List Tk),II (ky t n o l)
 | 0,o,l=>λe h=>by rw[ky]at h;cases h
 | n+1,o,l=>λe h=>by
   rw[ky]at h;split at h;cases h;split at h;rename_i h2;injection h with h;subst h;exact ad2 _ _ _ h2;exact Lx n _ _ e h
def ad3(t:Bs):II (xh t):=Lx _ _ _
def IJ{t:Bs}:∀(n o:Nat)(l:List Tk) {l':List Tk},ky t n o l= .ok l'->Ζ l'<=Ζ l+n
 | 0,o,l,l',h=>by rw[ky]at h;injection h with h;subst h;omega
 | n+1,o,l,l',h=>by
   rw[ky]at h;split at h;injection h with h;subst h;omega;split at h;cases h;have:=IJ n _ _ h;rw[Ti]at this;simp only[abx,WT]at this;omega
def aaP{t:Bs}{l:List Tk}(h:xh t= .ok l):Ζ l<=Ζ t+1:=by
 have:=IJ _ _ _ h;simpa using this
def Vq(l:List Tk)(i:Nat):om (l.take i)<=om l:=by
 have:om l=om (l.take i)+om (l.drop i):=by
  unfold om;rw[<-List.sum_append, <-ap_,List.take_append_drop]
 omega
def aaQ(t:Bs)(x:Tk):r8 t x.off= .agg [mi x.off,mi (oF t x.off),mi (Iy t x.off)]:=by
 unfold r8 oF Iy;rw[Int.natCast_add];rfl
def zNd:MV:=.agg [.s [],.l 0 [] .nil,.l 0 [] .nil,.s []]
def Ly{O:VH}{B k:Nat}(hk:k<O.N):∀{R:List Rec},rL O B k R->∀r∈R,r.b<O.N
 | [],_,r,h=>by simp at h
 | [x],h,r,hr=>by rw[aga.1 hr,h.1];exact hk
 | x::p::rest,h,r,hr=>by
   obtain⟨⟨c,_,_,h1⟩,_,_,h2⟩:=h;rcases ap2.1 hr with rfl | hr;exact h1.hi;exact Ly hk h2 r hr
def ad4{bP:Nat}{R:List Rec}{dn tx:Bool}(h:BS O B k R tk bP dn tx z):∀x∈eG k R tk,x<O.N:=by
 have hk:k<O.N:=Th h.c.lt h.c.le;intro x hx;simp only[eG,ap2,alP,aqn,Option.mem_toList]at hx;rcases hx with rfl | ((⟨r,hr,rfl⟩ | hx) | hx);exact hk;exact Ly hk h.c.chain r hr
 ·obtain⟨r,hr,hq⟩:=Option.bind_eq_some_iff.1 hx;have ht:=h.c.top
  match R,hr,ht with
  | y::R,hr,ht=>
    simp only[List.head?_cons,Option.some.injEq]at hr;subst hr;rcases ht.1 with⟨_,_,e | e⟩ | ⟨j,c,e,_,_,hw⟩;rw[e]at hq;cases hq;rw[e]at hq;cases hq;rw[e]at hq;injection hq with hq;subst hq;exact hw.hi
 ·exact(App.nZ h.a hx).2
def ad5(t:Bs)(O:VH)(ht:Ζ t<=65536):VF Ε 243 [.s t] O (aH λm O'=>O.Ge O'/\match jF t with
  | .ok n=>m= .tuple [.agg (eh n),mi 0,.agg [mi 0,mi 0,mi 0]]
  | .error e=>m= .tuple [zNd,mi e.1,r8 t e.2]):=by
 have ja:=akV t;have qi:∀e,xh t= .error e->jF t= .error e:=λe h=>by unfold jF;rw[h]
 have EM:∀l,xh t= .ok l->jF t=(match kS l p0 with
  | .error e=>.error e
  | .ok p=>if p.st≠[]then .error (13,Ζ t)else if p.dn then .ok p.z else .error (16,Ζ t)):=λl h=>by unfold jF;rw[h];try rfl
 have hW:= @XP t;have hLn:= @aaP t;have hNE:=ad3 t;generalize xh t=F at*;generalize jF t=G at*;refine ω 68 [.cell 2 93,.tmp 3,.cell 4 108] func243 ?_;refine κ aL ?_;refine VC.gen ?_;intro O1 vq;obtain⟨aK,dd,uU,nC⟩:=iY _ _ vq;clear vq;refine κ aL ?_;refine τ (ja O1 ht) ?_;rintro m O2 ⟨aC,hm⟩;have n_:=aC.at uU;have AJ:=aC.at nC;have gy:=aK.trans aC;have fc:=aC.N;cases F with
 | error e=>
   dsimp only at hm;subst hm;rw[qi e rfl];unfold r8;simp only[aq];refine ae aL ?_;refine VC.al ?_;rintro O3 ⟨aJ,kD,ij⟩;have Ee:=aJ.at n_;have rK:=aJ.at AJ;have eW:=gy.trans aJ;have Vr:e.1≠0:=hNE e rfl;refine ξ aL Vr ?_;refine VC.pI [] (O2.N) (kD) ?_;intro X;have Mt:(O3.set O2.N (.obj X)).hp O.N=_:=Δ Ee;have NH:(O3.set O2.N (.obj X)).hp (O.N+1)=_:=Δ rK;have s8:(O3.set O2.N (.obj X)).hp O2.N=φ (.obj X):=υ _ _ _;have iS:O.Ge (O3.set O2.N (.obj X)):=eW.set (by omega) _;generalize O3.set O2.N (.obj X)=O4 at*;refine ρ 0 aL ?_;refine ρ 1 aL ?_;refine δ (m:=.agg [.v (Ι Κ e.2),.v (Ι Κ (1+((t.take e.2).count 10:Nat))),.v (Ι Κ ((e.2:Int) - iu (t.take e.2) 10 (t.take e.2).length))]) 2 ?_ ?_;exact ff aL;simp only[ak];refine ab.op (i:=3) ?_;refine ao aL Mt ?_;refine⟨s8,?_⟩;refine ρ 4 aL ?_;refine ab.op (i:=5) ?_;refine ao aL NH ?_;refine⟨s8,?_⟩;refine aqQ [] ?_;refine ae aL ?_;exact⟨((iS.set (YI _) _).set (aoT _) _).set (by omega:O.N<=O2.N) _,rfl⟩
 | ok l=>
   obtain⟨pl,rfl,cU⟩:=hm;obtain⟨Vs,ahz⟩:=hW rfl;have hG:=EM l rfl;clear qi EM;refine ao aL @aq ?_;refine VC.al ?_;rintro O3 ⟨aJ,kD,ij⟩;have Ee:=aJ.at n_;have rK:=aJ.at AJ;have eW:=gy.trans aJ;refine κ aL ?_;refine κ aL ?_;refine VC.bx ?_;rintro O4 ⟨aT,nD,fT⟩;refine VC.wkc (k:=O3.N) (ds:=eh UQ++sd [] .nil 0 γ γ) nD (fR.cons (Wk.refl _) (fR.cons Wk.tok (fR.cons Wk.tok (fR.refl _)))) ?_;refine VC.gen ?_;intro O5 oG;((((have gO:O5.hp O3.N=φ (.cells (eh UQ++sd [] .nil 0 γ γ)):=by rw[oG];exact υ _ _ _);have eJ:O5.N=O3.N+1:=by rw[oG];exact fT);have h5:∀i,i<O3.N->O5.hp i=O3.hp i:=λi hi=>by rw[oG];exact Δ (aT.hp i hi));have qn:O.Ge O5:=by rw[oG];exact(eW.trans aT).set (by omega) _);clear oG;have hz5:=(h5 _ (by omega)).trans Ee;have QV:=(h5 _ (by omega)).trans rK;generalize hk:O3.N=k at*;have hBP:BP O5 (k+1) k [k] p0:=⟨[],.nil,⟨⟨ap4 _,by omega,gO,rfl,trivial,trivial⟩,trivial⟩,rfl,λx hx=>hx⟩
   have hlen:cS (bR Ε) 165 pl=φ (.v (Ι Κ (Ζ l))):=by
    rcases cU with⟨h0,_,rfl | rfl⟩ | ⟨k,c,rfl,_⟩;rw[h0];exact bC HY;rw[h0];exact bC HY;exact KL HY
   rw[oB,HY]at hlen;(have AF:Ζ l<=1000000:=by have:=hLn rfl;omega);refine Ξ [0,2,4,8] (λ_:PS=>[.s t,.p O.N 0,.p (O.N+1) 0,.p k 0]) (λp O'=>kS l p0= .ok p/\mW p (om l)/\Kp O5 O' [k]/\∃U,BP O' (k+1) k U p) ?_ ?_;rotate_left
   ·rintro p O6 ⟨cT,dw,hkp,U,Vn⟩;rw[cT]at hG;dsimp only at hG;have hO6:∀j,j<k->O6.hp j=O5.hp j:=λj hj=>hkp.2 j (by omega) (by simp;omega)
    have hz6:=(hO6 _ (by omega)).trans hz5;have hp6:=(hO6 _ (by omega)).trans QV;have oD:=hkp.1;have LA:O.Ge O6:=⟨by omega,λj hj=>(hO6 j (by omega)).trans (qn.hp j hj)⟩;obtain⟨R,tk,hb,hR,hUo⟩:=Vn;have qg:=hb.c.cells;refine κ aL ?_;refine τ (aiZ t (Ζ t) _ (by omega) (YI _)) ?_;rintro _ O7 ⟨rfl,fG⟩;have xq:=(fG.hp k (by omega)).trans qg;have hz7:=fG.at hz6;have hp7:=fG.at hp6;have FK:=LA.trans fG;have xp:=fG.N;have XQ:r8 t (Ζ t)= .agg [mi (Ζ t),mi (1+((t.take (Ζ t)).count 10:Nat)),mi ((Ζ t:Int) - iu (t.take (Ζ t)) 10 (t.take (Ζ t)).length)]:=rfl;simp only[aq]at XQ;generalize (1+((t.take (Ζ t)).count 10:Nat):Int)=y1 at*;generalize ((Ζ t:Int) - iu (t.take (Ζ t)) 10 (t.take (Ζ t)).length)=y2 at*;rw[XQ];refine ae aL ?_;refine VC.al ?_;rintro O8 ⟨iC,RB,Es⟩;have vv:=(iC.hp k (by omega)).trans xq;have hz8:=iC.at hz7;have DK:=iC.at hp7;have RD:=FK.trans iC;obtain⟨b0,b1,b2,b3,lB⟩:=uf (fU R (eh p.z) hb.c.zl);unfold sd at vv;rw[lB]at vv;simp only[aq,bB,agb,af_]at vv;cases R with
    | cons r R=>
      (have cX:p.st≠[]:=by rw[<-hR];simp[uH]);rw[if_pos cX]at hG;subst hG;dsimp only;rw[XQ]
      have Rr:Ζ R<=64:=by
       have:=dw.len;rw[<-hR]at this;unfold uH at this;rw[akc,abx]at this;omega
      simp only[abx]at vv;refine ξ aL vv ?_;refine VC.pI [] (O7.N) (RB) ?_;intro X;have Mt:((O8).set (O7.N) (.obj X)).hp O.N=_:=Δ hz8;have NH:((O8).set (O7.N) (.obj X)).hp (O.N+1)=_:=Δ DK;have s8:((O8).set (O7.N) (.obj X)).hp (O7.N)=φ (.obj X):=υ _ _ _;have iS:O.Ge ((O8).set (O7.N) (.obj X)):=RD.set (by omega) _;generalize (O8).set (O7.N) (.obj X)=Ox at*;refine ρ 0 aL ?_;refine δ (m:=.agg [.v (Ι Κ (Ζ t)),.v (Ι Κ y1),.v (Ι Κ y2)]) 1 ?_ ?_;exact ff aL;simp only[ak];refine ab.op (i:=2) ?_;refine ao aL Mt ?_;refine⟨s8,?_⟩;refine ρ 3 aL ?_;refine ab.op (i:=4) ?_;refine ao aL NH ?_;refine⟨s8,?_⟩;refine aqQ [] ?_;refine ae aL ?_;exact⟨((iS.set (YI _) _).set (aoT _) _).set (by omega:O.N<=O7.N) _,rfl⟩
    | nil=>
      have cX:p.st=[]:=hR.symm;rw[if_neg (by rw[cX];simp)]at hG;simp only[WT]at vv;cases AD:p.dn with
      | false=>
        rw[AD]at hG vv;rw[if_neg (by simp)]at hG;subst hG;dsimp only;rw[XQ];refine ξ aL vv ?_;refine VC.pI [] (O7.N) (RB) ?_;intro X;have Mt:((O8).set (O7.N) (.obj X)).hp O.N=_:=Δ hz8;have NH:((O8).set (O7.N) (.obj X)).hp (O.N+1)=_:=Δ DK;have s8:((O8).set (O7.N) (.obj X)).hp (O7.N)=φ (.obj X):=υ _ _ _;have iS:O.Ge ((O8).set (O7.N) (.obj X)):=RD.set (by omega) _;generalize (O8).set (O7.N) (.obj X)=Ox at*;refine ρ 0 aL ?_;refine δ (m:=.agg [.v (Ι Κ (Ζ t)),.v (Ι Κ y1),.v (Ι Κ y2)]) 1 ?_ ?_;exact ff aL;simp only[ak];refine ab.op (i:=2) ?_;refine ao aL Mt ?_;refine⟨s8,?_⟩;refine ρ 3 aL ?_;refine ab.op (i:=4) ?_;refine ao aL NH ?_;refine⟨s8,?_⟩;refine aqQ [] ?_;refine ae aL ?_;exact⟨((iS.set (YI _) _).set (aoT _) _).set (by omega:O.N<=O7.N) _,rfl⟩
      | true=>
        rw[AD]at hG vv;rw[if_pos rfl]at hG;subst hG;dsimp only;have lB:eh p.z=[b0,b1,b2,b3]:=lB;refine ξ aL vv ?_;generalize p.z=pz at*;obtain⟨zn,za,dJ,zt⟩:=pz;rw[eh]at lB;injection lB with e1 lB;injection lB with e2 lB;injection lB with e3 lB;injection lB with e4 lB;subst e1;subst e2;subst e3;subst e4;refine ι (cB aL vv hz8 DK ?_);rw[eh];exact⟨(RD.set (YI _) _).set (aoT _) _,rfl⟩
   refine ξ aL @hlen ?_;refine χ ?_;refine Θ [28] [0,2,4,8,26,27] (λi:Nat=>[mi i]) (λi O'=>i<=(Ζ l)/\Kp O5 O' [k]/\∃p U,kS (l.take i) p0= .ok p/\mW p (om (l.take i))/\BP O' (k+1) k U p/\(∀x∈U,(x=k\/O5.N<=x)/\x<O'.N)) (λi=>(Ζ l) - i) (0) ?_ ?_;exact⟨alO _,Kp.refl,p0,[k],rfl,ad0,hBP,λx hx=>by rw[aga]at hx;subst hx;exact⟨.inl rfl,by omega⟩⟩;rintro i O6 ⟨hi,LB,p,U,cT,dw,Vn,hU⟩;dsimp only at hi ⊢;by_cases cn:i<Ζ l;rotate_left
   ·obtain rfl:i=Ζ l:=by omega
    rw[alR]at cT dw;refine ο aL @aq ?_;exact aB.mk p ⟨cT,dw,LB,U,Vn⟩
   obtain⟨kr,cr,rfl,kx⟩:∃kr cr,pl= .aS kr 0 (Ζ l) cr/\Row O2 163 7 O1.N kr cr (l.flatMap (xw t)):=by
    rcases cU with⟨h0,_⟩ | ⟨kr,cr,hp,_,_,h⟩;omega;exact⟨kr,cr,hp,h⟩
   obtain⟨sp,wJ,pW⟩:=kx.cells;have anm:=kx.hi;have ann:O6.hp kr=φ (.cells (l.flatMap (xw t)++sp)):=(LB.2 kr (by omega) (by simp;omega)).trans ((h5 kr (by omega)).trans ((aJ.hp kr anm).trans wJ));have lC:(l.flatMap (xw t)).length=(Ζ l)*7:=bk (yN t) l
   have bG:((l.flatMap (xw t)++sp).drop (i*7)).take 7=xw t l[i]:=by
    rw[List.drop_append_of_le_length (by omega),alS (by rw[List.length_drop];omega)];exact c9 (yN t) l i cn
   (have hCl:i*7+7<=(l.flatMap (xw t)++sp).length:=by rw[Ti];omega);have di:=dU l i cn
   have hrs:kS (l.take (i+1)) p0=(match l9 l[i] p with
     | .error e=>.error (e,l[i].off)
     | .ok q=>.ok q):=by rw[di,Vo,cT];try rfl
   have hws:om (l.take (i+1))=om (l.take i)+DH l[i]:=by rw[di,IH]
   have lZ:=Vq l (i+1);have vW:=ahz l[i] (ap5 cn)
   have ak1:∀e,kS (l.take (i+1)) p0= .error e->G= .error e:=λe h=>by
    have:=Vp (m:=l.drop (i+1)) h;rw[List.take_append_drop]at this;rw[this]at hG;exact hG
   have dD:=aaQ t l[i];clear cT di;have ano:xw t l[i]=[mi l[i].kind,.s l[i].name,.l l[i].attrs.length (l[i].attrs.flatMap bH) .au,.s l[i].text,mi l[i].off,mi (oF t l[i].off),mi (Iy t l[i].off)]:=rfl;generalize hxg:l[i]=x at*;generalize l.flatMap (xw t)++sp=C at*;refine ξ aL @aq ?_;refine κ aL ?_;refine Γ (χ ?_);rw[ano]at bG;simp only[aq]at bG;refine θ (aE aL ann bG ?_);refine VC.al ?_;rintro O7 ⟨fG,hx7,xp⟩;refine ξ aL hx7 ?_;refine τ (aaN (Vn.ge fG) dw (λy hy=>by have:=(hU y hy).2;omega) t x (by omega) ⟨vW.1,vW.2.1⟩) ?_;rintro m O8 ⟨Np,hm⟩;have RB:=(Np.2 _ (by omega) (λhm=>by have:=(hU _ hm).2;omega)).trans hx7;have apq:k<O5.N:=by omega
   have hs8:∀j,j<k->O8.hp j=O5.hp j:=λj hj=>by
    (have hjU:j ∉ U:=λhm=>by have:=(hU _ hm).1;omega);have h65:=LB.1;rw[Np.2 j (by omega) hjU,fG.hp j (by omega),LB.2 j (by omega) (by simp;omega)]
   have hz8:=(hs8 _ (by omega)).trans hz5;have DK:=(hs8 _ (by omega)).trans QV;have Es:=Np.1;have h65:=LB.1;have RD:O.Ge O8:=⟨by omega,λj hj=>(hs8 j (by omega)).trans (qn.hp j hj)⟩;cases cX:l9 x p with
   | error e=>
     rw[cX]at hm hrs;dsimp only at hm hrs;subst hm;have hGe:=ak1 _ hrs;subst hGe;dsimp only;rw[dD];simp only[aq];(((have he:e≠0:=by rcases Vm cX with rfl | rfl | rfl<;>decide);refine ae aL ?_;refine ξ aL @he ?_;refine ν aL ?_;refine VC.pI [] (O6.N) (RB) ?_;intro X;have Mt:((O8).set (O6.N) (.obj X)).hp O.N=_:=Δ hz8;have NH:((O8).set (O6.N) (.obj X)).hp (O.N+1)=_:=Δ DK;have s8:((O8).set (O6.N) (.obj X)).hp (O6.N)=φ (.obj X):=υ _ _ _;have iS:O.Ge ((O8).set (O6.N) (.obj X)):=RD.set (by omega) _;generalize (O8).set (O6.N) (.obj X)=Ox at*;refine ρ 0 aL ?_;refine ρ 1 aL ?_;refine ρ 2 aL ?_;refine δ (m:=.agg [.v (Ι Κ x.off),.v (Ι Κ (oF t x.off:Nat)),.v (Ι Κ (Iy t x.off))]) 3 ?_ ?_);exact ff aL);simp only[ak];refine ab.op (i:=4) ?_;refine ao aL Mt ?_;refine⟨s8,?_⟩;refine ρ 5 aL ?_;refine ab.op (i:=6) ?_;refine ao aL NH ?_;refine⟨s8,?_⟩;refine aqQ [] ?_;refine ae aL ?_;exact⟨((iS.set (YI _) _).set (aoT _) _).set (by omega:O.N<=O6.N) _,rfl⟩
   | ok q=>
     rw[cX]at hm hrs;dsimp only at hrs;obtain⟨rfl,U2,hU2,hq⟩:=hm;obtain⟨R2,tk2,cG,ad6,ho2⟩:=hq;have wM:BP O8 (k+1) k (eG k R2 tk2) q:=⟨R2,tk2,cG,ad6,λ_ h=>h⟩;have gh:=jSx i;refine ao aL @aq ?_;refine ο aL gh ?_;refine ο aL gh ?_;refine az.N (i+1) ⟨by omega,?_,q,eG k R2 tk2,hrs,?_,wM,λy hy=>?_⟩
     ·refine(LB.more (Kp.ge fG (S:=[])) (λy hy=>by cases hy)).more Np λy hy=>?_
      rcases(hU y hy).1 with e | e;exact .inl (by simp[e]);exact .inr e
     ·rw[hws];exact Lw dw cX
     ·refine⟨?_,ad4 cG y hy⟩;rcases hU2 y (ho2 y hy)with e | e;exact(hU y e).1;exact .inr (by omega)
def jk:=Ca lO<|Ca HW<|Ca T86 Nh
def lD{α :Type}{f: α ->Η}(hf:∀x,(f x).length=k){L:List α}{sp:Η}{j:Nat}{x: α}(hj:L[j]?=φ x)(hi:(f x)[i]?=φ m):(L.flatMap f++sp)[j*k+i]?=φ m:=by
 induction L generalizing j with
 | nil=>simp at hj
 | cons y L ih=>
   rw[aqj,aqc];cases j with
   | zero=>
     simp only[List.getElem?_cons_zero,Option.some.injEq]at hj;subst hj;have:=(agc.1 hi).1;rw[Nat.zero_mul,alQ,aqk this];exact hi
   | succ j=>
     simp only[List.getElem?_cons_succ]at hj;(have e:(j+1)*k+i=(f y).length+(j*k+i):=by rw[hf,Nat.succ_mul];omega);rw[e,ap8 (by omega),show(f y).length+(j*k+i) - (f y).length=j*k+i by omega];exact ih hj
def Aq{L:Η}(h:L[i]?=φ m):L.set i m=L:=by
 refine aql λj=>?_
 by_cases e:i=j;subst e;rw[List.getElem?_set_self (agc.1 h).1,h];rw[List.getElem?_set_ne e]
def RE(L:List Dp)(tk:Tok)(O:VH)(hn:Ζ L<=10000)(hx:∀d∈L,Ζ d.x<=10000):VF Ε 245 [.l (Ζ L) (L.flatMap aX) tk] O (aH λm O'=>∃t,m= .l (Ζ L) (L.flatMap aX) t/\O.Ge O'):=by
 have dD:=bk iQ L;refine ω 24 [.tmp 2] func245 ?_;refine κ jk ?_;refine κ jk ?_;refine τ (IA L tk O) ?_;rintro _ O2 ⟨aC,mS⟩;rcases mS with⟨h0,_,hp⟩ | ⟨k,c,rfl,C0,_,cU⟩;obtain rfl:L=[]:=ap7 h0;rcases hp with rfl | rfl;refine ae jk ?_;refine Ξ [3] (λ_:Unit=>[.l 0 [] .nil]) (λ_ O'=>O'=O2) ?_ ?_;refine κ jk ?_;refine χ ?_;refine Θ [9] [3,8] (λj:Nat=>[mi 0]) (λj O'=>O'=O2) (λj=>0) (0) ?_ ?_;rfl;rintro j O3 eO;rw[eO];clear eO O3;refine ν jk ?_;exact aB.mk () rfl;intro _ O9 eO;rw[eO];clear eO O9;refine ν jk ?_;exact⟨_,rfl,aC⟩;refine ae jk ?_;refine Ξ [3] (λ_:Unit=>[.l 0 [] .full]) (λ_ O'=>O'=O2) ?_ ?_;refine κ jk ?_;refine χ ?_;refine Θ [9] [3,8] (λj:Nat=>[mi 0]) (λj O'=>O'=O2) (λj=>0) (0) ?_ ?_;rfl;rintro j O3 eO;rw[eO];clear eO O3;refine ν jk ?_;exact aB.mk () rfl;intro _ O9 eO;rw[eO];clear eO O9;refine ν jk ?_;exact⟨_,rfl,aC⟩;obtain⟨sp,hc,gU⟩:=cU.cells;have gW:=cU.lo;have U9:=cU.hi;refine ae jk ?_;refine Ξ [3] (λ_:Unit=>[.aS k 0 (Ζ L) c]) (λ_ O'=>O2.Ge O') ?_ ?_
 ·refine κ jk ?_;refine χ ?_;refine Θ [9] [3,8] (λj:Nat=>[mi j]) (λj O'=>O2.Ge O'/\j<=Ζ L) (λj=>(Ζ L) - j) (0) ?_ ?_;exact⟨VH.Ge.refl _,alO _⟩;rintro j O3 ⟨aJ,hj⟩;by_cases aM:j<Ζ L;rotate_left
  ·obtain rfl:j=Ζ L:=by omega
   refine ν jk ?_;exact aB.mk () aJ
  have fw:=(aJ.hp k U9).trans hc;have bG:(L.flatMap aX++sp)[j*8+7]?=φ (.l L[j].x.length (L[j].x.flatMap cM) .au):=lD iQ (List.getElem?_eq_getElem aM) rfl;have RF:=hx L[j] (List.getElem_mem aM);generalize L[j].x=X at*;generalize L.flatMap aX++sp=C at*;have fz:=Aq bG;have Np:=(List.getElem?_eq_some_iff.1 bG).1;have cA:=jSx j;refine κ jk ?_;refine κ jk ?_;refine Γ (χ ?_);refine κ jk ?_;refine ι (aE jk fw bG ?_);refine τ (wG X .au O3) ?_;rintro _ O4 ⟨rfl,aT⟩;have fP:=(aT.hp k (by have:=aJ.N;omega)).trans fw;refine cB jk fP bG fz ?_;rw[VH.zP fP];refine ο jk cA ?_;exact az.N (j+1) ⟨aJ.trans aT,aM⟩
 intro _ O9 bI;have B_:=(bI.hp k U9).trans hc;refine VC.freeze 3 (sz:=(Ζ L)*8) rfl B_ (by rw[Ti,dD];omega) ?_;have di:((L.flatMap aX++sp).drop 0).take ((Ζ L)*8)=L.flatMap aX:=by rw[aqq,alS (by rw[dD];exact YI _), <-dD,alR]
 rw[di];have vw:=aC.trans bI;have ir:O.Ge (O9.kill k):=⟨vw.N,λi hi=>(VH.mH _).trans (vw.hp i hi)⟩;refine ν jk ?_;exact⟨_,rfl,ir⟩
def IK(L:List Dp)(tk:Tok)(O:VH)(hn:Ζ L<=10000)(hx:∀d∈L,Ζ d.x<=10000):VF Ε 245 [.l (Ζ L) (L.flatMap aX) tk] O (aH λm O'=>m= .l (Ζ L) (L.flatMap aX) .au/\O.Ge O'):=
 VF.wkR (RE L tk O hn hx) λm O' ⟨t,h1,h3⟩=>⟨_,h1▸Wk.tok,rfl,h3⟩
def ad7(p:Pm):Prop:=Ζ p.props<=10000/\(Ζ p.fF)<=10000/\(Ζ p.ft)<=10000/\(∀d∈p.fF,Ζ d.x<=10000)/\∀d∈p.ft,Ζ d.x<=10000
def ak2(p:Pm)(O:VH)(hp:ad7 p):VF Ε 222 [.agg (iR p)] O (aH λm O'=>m= .agg (iR p)/\O.Ge O'):=by
 obtain⟨b,⟨pg,pa,pv⟩,g,a,v,pk,P,M,D⟩:=p;obtain⟨h1,h2,h3,h4,h5⟩:=hp;dsimp only at h1 h2 h3 h4 h5;simp only[iR];refine ω 16 [.cell 2 86] func222 ?_;refine κ jk ?_;refine VC.gen ?_;rintro O1 vq;obtain⟨aK,dd,cJ,cC⟩:=iY _ _ vq;clear vq;refine ξ jk cJ ?_;refine τ (Iz P .au O1) ?_;rintro _ O2 ⟨rfl,aC⟩;have fy:=aC.at cJ;have cG:=aC.at cC;have fc:=aC.N;refine ao jk fy ?_;have hs:(([mb b,.s pg,.s pa,.s pv,.s g,.s a,.s v,.s pk,.l (Ζ P) (P.flatMap bH) .au,.l (Ζ M) (M.flatMap aX) .au,.l (Ζ D) (D.flatMap aX) .au]:Η)).set 8 (.l (Ζ P) (P.flatMap bH) .au)=[mb b,.s pg,.s pa,.s pv,.s g,.s a,.s v,.s pk,.l (Ζ P) (P.flatMap bH) .au,.l (Ζ M) (M.flatMap aX) .au,.l (Ζ D) (D.flatMap aX) .au]:=rfl;rw[VH.zP fy];refine Γ ?_;refine VC.pI [7,8,9] (O.N) (fy) ?_;intro X;refine ρ 0 jk ?_;refine δ (m:=.l (Ζ M) (M.flatMap aX) .au) 1 ?_ ?_;exact ff jk;simp only[ak];refine ρ 3 jk ?_;refine δ (m:=.l (Ζ D) (D.flatMap aX) .au) 4 ?_ ?_;exact ff jk;simp only[ak];have hX:=υ O2 O.N (.obj X);have ij:(O2.set O.N (.obj X)).N=O2.N:=rfl;have hbX:=(π O2 (.obj X) (by omega:O.N+1≠O.N)).trans cG;have NI:O.Ge (O2.set O.N (.obj X)):=(aK.trans aC).set (YI _) _;generalize O2.set O.N (.obj X)=O3 at*;refine ab.call (i:=2) (IK M .au O3 h2 h4) ?_;rintro _ O4 ⟨rfl,aT⟩;simp only[ak];refine⟨aT.at hX,?_⟩;refine ρ 6 jk ?_;refine ab.call (i:=5) (IK D .au O4 h3 h5) ?_;rintro _ O5 ⟨rfl,bO⟩;simp only[ak];have H8:=aT.trans bO;refine⟨H8.at hX,?_⟩;have dG:=H8.at hbX;have qn:=NI.trans H8;refine aqQ [(7,.one),(8,.bh),(9,.one)] ?_;refine ae jk ?_;refine ο jk dG ?_;exact(((qn.set (YI _) _).set (YI _) _).set (YI _) _).set (aoT _) _
def vx:=Ca jk<|Ca FU<|Ca Qq<|Ca adb aiF
def RG:∀{l:List Tk} {p q:PS} {L:Nat},mW p L->kS l p= .ok q->mW q (L+om l)
 | [],p,q,L,h,e=>by
   rw[kS]at e;injection e with e;subst e;simpa[om]using h
 | x::l,p,q,L,h,e=>by
   rw[kS]at e;split at e;cases e;rename_i p' hp';have h2:=RG (Lw h hp') e;(have:om (x::l)=DH x+om l:=by simp[om]);rw[this, <-Nat.add_assoc];exact h2
def aaR(ht:Ζ t<=65536)(h:jF t= .ok n):mz n<=1000000:=by
 unfold jF at h;split at h;cases h;rename_i l hl;have hw:=(XP hl).1;split at h;cases h;rename_i p hp;have hk:=RG ad0 hp;have h1:=hk.wt;have h2:=hk.bP;split at h;cases h;split at h;rename_i hd;injection h with h;subst h;unfold J6 at h1;rw[if_pos hd]at h1;omega;cases h
structure Prb where
 e:Int
 g:Gv
 p1:Int
 p2:Int
 p3:Int
 w:Bs
 deriving DecidableEq
def pf(x:Prb):Η:=[mi x.e,.s x.g.g,.s x.g.a,.s x.g.v,mi x.p1,mi x.p2,mi x.p3,.s x.w]
def jd:Prb:=⟨0,⟨[],[],[]⟩,0,0,0,[]⟩
def kB(t:Bs)(u:Int)(s:Int)(p:Pm)(x:Prb):Η:=[.s t,.v (.int .u32 u),.v (.int .i32 s),.v (.int .u32 0)]++iR p++pf x
def ahA{s:Int}(g:Gv)(hq:O.hp q=φ (.cells (kB t u s DA jd)))(qy:q<O.N)(ht:Ζ t<=65536)(hb:jF t= .ok n)(hr:rJ n= .ok p):
  VF Ε 221 [.p q 0,.agg (cD g)] O (aH λm O'=>O'.hp q=φ (.cells (kB t u s p jd))/\bM O (φ q) O'):=by
 have EP:=λO'=>ad5 t O' ht
 have Dw:=λO'=>aht n O' (aaR ht hb)
 rw[hb]at EP;rw[hr]at Dw;dsimp only at EP Dw;obtain⟨g1,g2,g3⟩:=g;obtain⟨nn,na,nk,nt⟩:=n;obtain⟨b,⟨pg,pa,pv⟩,pG,pA,pV,pk,P,M,DD⟩:=p;simp only[eh]at EP Dw;simp only[kB,iR,DA,pf,jd,aq,bB,agb,af_,WT,akf]at hq Dw ⊢;unfold cD;refine ω 46 [] func221 ?_;refine κ vx ?_;refine VC.bx ?_;rintro O1 ⟨aK,cK,dd⟩;have hq1:=(aK.hp _ qy).trans hq;refine ξ vx hq1 ?_;refine τ (EP O1) ?_;rintro _ O2 ⟨aC,rfl⟩;have wM:=aC.at hq1;have fc:=aC.N;refine ae vx ?_;refine VC.gen ?_;intro O3 J5;have aJ:O2.Ge O3:=by rw[J5];exact((((VH.Ge.refl O2).push _).push _).set (YI _) _).set (aoT _) _
 have en:O3.hp O2.N=φ (.cells [.s nn,.l (Ζ na) (na.flatMap bH) .au,.l (Ζ nk) (aG nk) .au,.s nt]):=by rw[J5,VH.sx];exact υ _ _ _
 have ij:O3.N=O2.N+2:=by rw[J5];rfl
 clear J5;have eW:=(aK.trans aC).trans aJ;have qF:=aJ.at wM;refine κ vx ?_;refine ξ vx en ?_;refine τ (Dw O3) ?_;rintro _ O4 ⟨aT,rfl⟩;have yY:=aT.at qF;have fT:=aT.N;have iS:=eW.trans aT;refine ae vx ?_;refine VC.al ?_;rintro O5 ⟨bO,gO,eJ⟩;have sN:=bO.at yY;have qn:=iS.trans bO;refine κ vx ?_;refine ι (aE vx gO sN ?_);exact(bM.mJ qn).any.trans bM.set
structure ec(O:VH)(k q:Nat)(O':VH):Prop where
 N:O.N<=O'.N
 hp:∀i,i<O.N->i≠k->i≠q->O'.hp i=O.hp i
def ec.ge(h:ec O k q O1)(g:O1.Ge O2):ec O k q O2:=⟨alU h.N g.N,λi hi a b=>(g.hp i (Th hi h.N)).trans (h.hp i hi a b)⟩
def ec.of(g:O.Ge O1):ec O k q O1:=⟨g.N,λi hi _ _=>g.hp i hi⟩
def ec.trans(h:ec O k q O1)(g:ec O1 k q O2):ec O k q O2:=⟨alU h.N g.N,λi hi a b=>(g.hp i (Th hi h.N) a b).trans (h.hp i hi a b)⟩
def ec.ai9{x:cx}(h:ec O k q O1):ec O k q (O1.set k x):=⟨h.N,λi hi a b=>(π _ _ a).trans (h.hp i hi a b)⟩
def ec.ai_{x:cx}(h:ec O k q O1):ec O k q (O1.set q x):=⟨h.N,λi hi a b=>(π _ _ b).trans (h.hp i hi a b)⟩
def bM.two(h:bM O (φ q) O1):ec O k q O1:=⟨h.N,λi hi _ b=>h.hp i hi (λe=>b (by injection e with e;exact e.symm))⟩
def ahB{s r2:Int}{m1 m2:MV}(ha:O.hp ba=φ (.cells [.p k 0]))(xL:O.hp bb=φ (.cells [.p q 0]))(Mv:O.hp bc=φ (.cells (cD g)))(hk:O.hp k=φ (.cells [m1,m2,mi r,mi r2]))(hq:O.hp q=φ (.cells (kB t u s DA jd)))
  (gW:k<O.N) (qy:q<O.N) (kX:ba<O.N) (yy:bb<O.N) (gU:bc<O.N) (hkq:k≠q) (ht:Ζ t<=65536) (hb:jF t= .ok n) (hr:rJ n= .ok p):
  VF Ε 220 [.p ba 0,.p bb 0,.p bc 0] O (aH λm O'=>(∃r',O'.hp k=φ (.cells [m1,m2,mi r',mi r2]))/\O'.hp q=φ (.cells (kB t u s p jd))/\ec O k q O'):=by
 have Dw:=λO' h1 h2=>ahA (O:=O') (q:=q) (u:=u) (s:=s) g h1 h2 ht hb hr
 have hka:ba≠k:=λe=>by subst e;rw[ha]at hk;cases hk
 have vX:bb≠k:=λe=>by subst e;rw[xL]at hk;cases hk
 have RH:bc≠k:=λe=>by subst e;rw[Mv]at hk;unfold cD at hk;cases hk
 obtain⟨g1,g2,g3⟩:=g;unfold cD at Mv Dw;simp only[aq]at hk;refine ω 10 [] func220 ?_;refine θ (aE vx dX ha ?_);refine τ (yU 1 hk rfl) ?_;rintro m O1 ⟨rfl,e1⟩;have cK:O1.hp k=φ (.cells [m1,m2,mi (IntKind.i64.wrap (r+1)),mi r2]):=by rw[e1];exact υ _ _ _
 have uZ:ec O k q O1:=by rw[e1];exact(ec.of (VH.Ge.refl _)).ai9
 have cC:=(by rw[e1];exact π _ _ vX:O1.hp bb=O.hp bb).trans xL;have fK:=(by rw[e1];exact π _ _ RH:O1.hp bc=O.hp bc).trans Mv;have hq1:=(by rw[e1];exact π _ _ (Ne.symm hkq):O1.hp q=O.hp q).trans hq;have dd:O1.N=O.N:=by rw[e1];rfl
 clear e1;refine ao vx dX ?_;refine ι (aE vx cC fK ?_);refine τ (Dw O1 hq1 (by omega)) ?_;rintro m O2 ⟨wM,dB⟩;have bY:=(dB.hp k (by omega) (λe=>hkq (by injection e with e;exact e.symm))).trans cK;refine ae vx ?_;exact⟨⟨_,bY⟩,wM,uZ.trans dB.two⟩
def mr:=Ca vx<|Ca dX<|Ca T50<|Ca Xs T74
def J4.qT{r' a':Int}(h:J4 O k ke kv E ce V cv r a)(hc:O'.hp k=φ (.cells [.map ke,.map kv,mi r',mi a']))(he:O'.hp ke=O.hp ke)(hv:O'.hp kv=O.hp kv)(hn:O.N<=O'.N):J4 O' k ke kv E ce V cv r' a':=
 ⟨hc,he.trans h.FV,hv.trans h.Lu,h.Rf,h.vok,h.ptr,⟨Th h.lt.1 hn,Th h.lt.2.1 hn,Th h.lt.2.2 hn⟩,h.ne⟩
def J4.ge(h:J4 O k ke kv E ce V cv r a)(g:O.Ge O'):J4 O' k ke kv E ce V cv r a:=
 h.qT ((g.hp _ h.lt.1).trans h.cell) (g.hp _ h.lt.2.1) (g.hp _ h.lt.2.2) g.N
def ak3(h:J4 O k ke kv E ce V cv r a)(g:Gv)(hg:wH g)(fa:jC (fL g) E=φ (.p q 0))(hq:O.hp q=φ (.cells (kB t 0 0 DA jd)))(qy:q<O.N)(ht:Ζ t<=65536)(hb:jF t= .ok n)(hr:rJ n= .ok p)(hp:ad7 p):
  VF Ε 195 [.p k 0,.agg (cD g)] O (aH λm O'=>m= .tuple [.agg (iR p),.agg (pf jd)]/\(∃r' a',O'.hp k=φ (.cells [.map ke,.map kv,mi r',mi a']))/\O'.hp q=φ (.cells (kB t 1 0 p jd))/\ec O k q O'):=by
 have Nb:q≠k:=λe=>by subst e;rw[h.cell]at hq;simp[kB]at hq
 have hqe:q≠ke:=λe=>by subst e;rw[h.FV]at hq;cases hq
 have hqv:q≠kv:=λe=>by subst e;rw[h.Lu]at hq;cases hq
 have hL3:(fL g).length=3:=rfl;have hLs:=yS hg;have hLm:cD g=(fL g).map .s:=rfl;have hpc:=λ(O':VH)(ba bb bc:Nat)(m1 m2:MV)(r r2:Int) h1 h2 h3 h4 h5 h6 h7 h8 h9 BH=>ahB (O:=O') (k:=k) (q:=q) (ba:=ba) (bb:=bb) (bc:=bc) (u:=0) (s:=1) (r:=r) (r2:=r2) (g:=g) (m1:=m1) (m2:=m2) h1 h2 h3 h4 h5 h6 h7 h8 h9 BH (Ne.symm Nb) ht hb hr
 obtain⟨g1,g2,g3⟩:=g;have RH:=h.cell;simp only[aq]at RH;simp only[cD];refine ω 40 [.cell 4 86,.cell 5 110] func195 ?_;refine κ mr ?_;refine VC.gen ?_;rintro O1 vq;obtain⟨aK,dd,cJ,cC,fK,pZ⟩:=Io _ _ _ _ vq;clear vq;have cK:=(aK.hp _ h.lt.1).trans RH;refine Ξ [2,3,4,5] (λ_:Unit=>[.p O.N 0,.p (O.N+1) 0,.p (O.N+2) 0,.p (O.N+3) 0]) (λ_ O'=>O'=O1.set k (.cells [.map ke,.map kv,mi r,mi (IntKind.i64.wrap (a+1))])) ?_ ?_;refine ξ mr cJ ?_;refine ι (aE mr cJ cK ?_);refine τ (yU 1 cK rfl) ?_;rintro m O2 ⟨rfl,e2⟩;refine ae mr ?_;exact aB.mk () e2;intro _ O2 e2;have dm:=h.lt;have bY:O2.hp k=φ (.cells [.map ke,.map kv,mi r,mi (IntKind.i64.wrap (a+1))]):=by rw[e2];exact υ _ _ _
 have cn:∀i,i≠k->O2.hp i=O1.hp i:=λi hi=>by rw[e2];exact π _ _ hi
 have fc:O2.N=O.N+4:=by rw[e2];exact dd
 have dB:ec O k q O2:=by rw[e2];exact(ec.of aK).ai9
 have h2:J4 O2 k ke kv E ce V cv r (IntKind.i64.wrap (a+1)):=h.qT bY ((cn _ (Ne.symm h.ne.1)).trans (aK.hp _ h.lt.2.1)) ((cn _ (Ne.symm h.ne.2.1)).trans (aK.hp _ h.lt.2.2)) dB.N;have fy:=(cn _ (by omega)).trans cJ;have cG:=(cn _ (by omega)).trans cC;have jm:=(cn _ (by omega)).trans fK;have kW:=(cn _ (by omega)).trans pZ;have wM:=(cn _ Nb).trans ((aK.hp _ qy).trans hq);clear e2 cJ cC fK pZ cK bY cn;generalize IntKind.i64.wrap (a+1)=a2 at*;refine θ (aE mr fy cG ?_);refine τ (XH h2 ⟨g1,g2,g3⟩ hg) ?_;rintro _ O3 ⟨rfl,aJ⟩;have hh:EH E ⟨g1,g2,g3⟩=Α:=by unfold EH;rw[fa];rfl
 rw[hh];have h3:=h2.ge aJ;have ij:=aJ.N;have kY:=aJ.at fy;have cN:=aJ.at cG;have fw:=aJ.at jm;have yL:=aJ.at kW;have qF:=aJ.at wM;have dF:=dB.ge aJ;clear fy cG jm kW wM dB h2;have en:=h3.cell;have Vt:=h3.FV;simp only[aq]at en;refine ae mr ?_;refine Γ ?_;refine WC.bW (.held [7]) [(0,.rd),(1,.rd),(2,.rd),(3,.rd),(4,.rd),(5,.rd),(6,.one),(7,.one)] ?_;refine cB mr kY cN en ?_;refine VL.hold (.inr rfl) rfl rfl (gJ.lV yR aa (l:=fL ⟨g1,g2,g3⟩) (te:=⟨_,1,8,[.v (.pointer Β)]⟩) Tryz.underlying74 Xs rfl rfl Vt h3.Rf rfl hL3 hLs) (WL.sound aa ?_);rw[fa];refine ae mr ?_;refine VC.al ?_;rintro O4 ⟨aT,lz,fT⟩;have h4:=h3.ge aT;have gd:=aT.at kY;have dy:=aT.at cN;have fP:=aT.at fw;have Dy:=aT.at yL;have yY:=aT.at qF;have eK:=dF.ge aT;have nD:=h4.cell;clear kY cN fw yL qF dF h3 en Vt hh aT aJ;refine ξ mr lz ?_;have fz:(kB t 0 0 DA jd).set (1+1) (.v (.int .i32 1))=kB t 0 1 DA jd:=rfl;have xy:∀{i:Nat} {y:Option cx},i≠q->O4.hp i=y->(O4.set q (.cells (kB t 0 1 DA jd))).hp i=y:=λhi hy=>(π _ _ hi).trans hy
 refine τ (adP (off:=1) (Φ :=λO'=>(∃r',O'.hp k=φ (.cells [.map ke,.map kv,mi r',mi a2]))/\O'.hp q=φ (.cells (kB t 0 1 p jd))/\ec (O4.set q (.cells (kB t 0 1 DA jd))) k q O') (g:=220) (xs:=[.p O.N 0,.p O3.N 0,.p (O.N+1) 0]) yY rfl rfl (by kernel_rfl) (by rw[fz];exact hpc (O4.set q (.cells (kB t 0 1 DA jd))) O.N O3.N (O.N+1) _ _ _ _ (xy (by omega) gd) (xy (by omega) lz) (xy (by omega) dy) (xy (Ne.symm Nb) nD) (υ _ _ _) (by show k<O4.N;omega) (by show q<O4.N;omega) (by show O.N<O4.N;omega) (by show O3.N<O4.N;omega) (by show O.N+1<O4.N;omega)) (λO' Ex=>⟨_,Ex.2.1,rfl,rfl⟩)) ?_;rintro m O5 ⟨OX,cs',⟨⟨r',DL⟩,hqX,huX⟩,gV,e5⟩;rw[hqX]at gV;injection gV with gV;injection gV with gV;subst gV;have n8:((kB t 0 1 p jd).set 1 (.v (.int .u32 1))).set (1+1) (.v (.int .i32 0))=kB t 1 0 p jd:=rfl;rw[n8]at e5;have sN:O5.hp q=φ (.cells (kB t 1 0 p jd)):=by rw[e5];exact υ _ _ _
 have gO:O5.hp k=φ (.cells [.map ke,.map kv,mi r',mi a2]):=by rw[e5];exact(π _ _ (Ne.symm Nb)).trans DL
 have huA:ec O4 k q (O4.set q (.cells (kB t 0 1 DA jd))):=(ec.of (VH.Ge.refl _)).ai_;have LC:ec O4 k q O5:=by rw[e5];exact(huA.trans huX).ai_
 have eJ:=LC.N;have lX:=eK.trans ⟨eJ,λi hi=>LC.hp i hi⟩;have gD:=(LC.hp _ (by omega) (by omega) (by omega)).trans fP;have EE:=(LC.hp _ (by omega) (by omega) (by omega)).trans Dy;have mA:=(LC.hp _ (by omega) (by omega) (by omega)).trans lz;clear e5 LC huA huX hqX DL n8 fz xy gd dy fP Dy yY eK nD lz h4;refine ae mr ?_;have hov:=λO'=>ak2 p O' hp
 obtain⟨pb,⟨pg,pa,pv⟩,pG,pA,pV,pk,P,M,DD⟩:=p;simp only[kB,iR,pf,jd,aq,bB,agb,af_]at sN hov ⊢;refine Γ ?_;have dS:∀{O':VH},O5.Ge O'->O'.hp O3.N=φ (.cells [.p q 0])/\O'.hp q=O5.hp q:=λg=>⟨g.at mA,g.hp _ (by omega)⟩
 refine VC.sU [] (λO'=>O'.hp O3.N=φ (.cells [.p q 0])/\O'.hp q=O5.hp q) (⟨mA,rfl⟩) ?_;refine ε (m:=.p q 0) 0 ?_ ?_;rintro O2 ⟨j1,j2⟩;exact eD mr j1;simp only[ak];refine ρ 1 mr ?_;refine ρ 2 mr ?_;refine ε (m:=.p q 0) 5 ?_ ?_;rintro O2 ⟨j1,j2⟩;exact eD mr j1;simp only[ak];refine ρ 6 mr ?_;refine ρ 7 mr ?_;rw[sN];refine ε (m:=.agg [.v (Ι Κ 0),.s [],.s [],.s [],.v (Ι Κ 0),.v (Ι Κ 0),.v (Ι Κ 0),.s []]) 8 ?_ ?_;rintro O2 ⟨j1,j2⟩;exact eD mr j2;simp only[ak];refine ab.op (i:=3) ?_;refine ao mr sN ?_;refine⟨mA,?_⟩;refine ab.call (i:=4) (hov O5) ?_;rintro _ O6 ⟨rfl,gN⟩;simp only[ak];have oo:=gN.at mA;have hq6:=gN.at sN;have qg:=gN.at gO;have AM:=gN.at gD;have hd6:=gN.at EE;have oD:=gN.N;have uD:=lX.ge gN;refine⟨⟨oo,hq6⟩,?_⟩;refine ab.op (i:=9) ?_;refine ao mr AM ?_;refine⟨⟨oo,hq6⟩,?_⟩;refine ab.op (i:=10) ?_;refine ao mr hd6 ?_;refine⟨⟨oo,hq6⟩,?_⟩;refine ab.bW [] ?_;refine ae mr ?_;refine VC.gen ?_;intro O7 e7;have yZ:∀i,i≠O.N+2->i≠O.N+3->O7.hp i=O6.hp i:=λi h1 h2=>by rw[e7,π _ _ h2,π _ _ h1]
 have xp:O7.N=O6.N:=by rw[e7];rfl
 have hd7:O7.hp (O.N+3)=φ (.cells [.v (Ι Κ 0),.s [],.s [],.s [],.v (Ι Κ 0),.v (Ι Κ 0),.v (Ι Κ 0),.s []]):=by rw[e7];exact υ _ _ _
 have hc7:O7.hp (O.N+2)=φ (.cells [.v (.bool pb),.s pg,.s pa,.s pv,.s pG,.s pA,.s pV,.s pk,.l (Ζ P) (P.flatMap bH) .au,.l (Ζ M) (M.flatMap aX) .au,.l (Ζ DD) (DD.flatMap aX) .au]):=by rw[e7,VH.sx];exact υ _ _ _
 have hq7:=(yZ q (by omega) (by omega)).trans hq6;have xq:=(yZ k (by omega) (by omega)).trans qg;have Gj:ec O k q O7:=⟨by have:=uD.N;omega,λi hi h1 h2=>(yZ i (by omega) (by omega)).trans (uD.hp i hi h1 h2)⟩;clear e7 yZ;refine ι (aE mr hc7 hd7 ?_);exact⟨⟨_,_,xq⟩,hq7,Gj⟩
def fe:=Ca mr<|Ca T82<|Ca T75 t_
structure y_(O:VH)(V:gI)(N:Nat):Prop where
 row:∀p∈V,∃n cs tk,p.2.1= .l n cs tk/\(Ζ cs)=n/\n<=N/\App O 0 1 tk/\dz cs=cs
 one:∀(i j:Nat)(p r:List Bs×MV×Nat)(n:Nat)(cs:Η)(tk:Tok)(n':Nat)(cs':Η)(tk':Tok),V[i]?=φ p->V[j]?=φ r->i≠j->p.2.1= .l n cs tk->r.2.1= .l n' cs' tk'->∀x,Tok.id tk=φ x->Tok.id tk'≠φ x
def aI.uJ{n:Sz}{ty:TypeId}{g:Option (Nat×Bool)}(hy:gJ P n D (.mk (φ d) op ty ps af g) e O m)(h:K ((d,m)::e) O)(ho:ops[i]?=φ (.mk (φ d) op ty ps af g):=by exact rfl)(hg:aQ ops (.mk (φ d) op ty ps af g) e=φ Α:=by exact rfl)(hd:bL n (φ d)=Α:=by exact rfl):aI P n D ops i e O Q K:=
 aI.hold ho hg hd hy h
def ad8(t:Bs):Option Pm->Η
 | none=>kB t 0 0 DA jd
 | some p=>kB t 1 0 p jd
def App.mv(h:App O B sz tk)(hn:O.N<=O'.N)(hi:∀i,i<O.N->O.hp i=φ .tok->O'.hp i=φ .tok):App O' B sz tk:=by
 cases tk with
 | own t j=>exact⟨h.1,hi _ h.2.2.2 h.2.1,h.2.2.1,Th h.2.2.2 hn⟩
 | nil=>trivial
 | full=>trivial
 | au=>exact h.elim
def y_.mv(h:y_ O V N)(hn:O.N<=O'.N)(hi:∀i,i<O.N->O.hp i=φ .tok->O'.hp i=φ .tok):y_ O' V N:=
 ⟨λp hp=>by obtain⟨n,cs,tk,h1,h2,h3,h4,h5⟩:=h.row p hp;exact⟨n,cs,tk,h1,h2,h3,h4.mv hn hi,h5⟩,h.one⟩
def y_.ge(h:y_ O V N)(g:O.Ge O'):y_ O' V N:=h.mv g.N λi hi e=>(g.hp i hi).trans e
def App.off(h:App O B sz tk)(hi:i<O.N)(hn:O.hp i≠φ .tok):(O.after tk).hp i=O.hp i:=by
 refine(cy.after h).hp i hi λe=>hn ?_
 cases tk with
 | own t j=>injection e with e;subst e;exact h.2.1
 | _=>cases e
def WR.wkH{G:Gh}{w:World}(h:WR G O w)(hk:O.hp k=φ (.cells cs))(hw:fR cs cs'):WR G (O.set k (.cells cs')) w:=by
 obtain⟨b,C,T,h1,h2,h3⟩:=h.cells k cs hk;refine h.swap (by rw[hk];simp) (λds e=>?_) (λX e=>by cases e) (λ_ _ e=>by cases e) (λe=>by cases e) (λ_ _ _ e=>by cases e);injection e with e;subst e;exact⟨b,C,T,h1,h2,hw.1▸hw.vrs h3⟩
def VC.wkH{n:Sz}{c:Code}(hk:O.hp k=φ (.cells cs))(hw:fR cs cs')(h:VC P n D c e (O.set k (.cells cs')) Q):VC P n D c e O Q:=λG a w h1 h2=>h G a w (h1.wkH hk hw) h2
def fR.anp(a1 a2 a3 a4 a5 a6 a7 a8 a9 a10 a11 a12 b1 b2 b3 b4 b5 b6 b7 b8:MV):fR [a1,a2,a3,a4,a5,a6,a7,a8,a9,a10,a11,a12,.l 0 [] .nil,.l 0 [] .nil,.l 0 [] .nil,b1,b2,b3,b4,b5,b6,b7,b8] [a1,a2,a3,a4,a5,a6,a7,a8,a9,a10,a11,a12,.l 0 [] .au,.l 0 [] .au,.l 0 [] .au,b1,b2,b3,b4,b5,b6,b7,b8]:=
 by repeat' first
  | exact fR.refl _
  | exact Wk.refl _
  | exact Wk.tok
  | refine fR.cons ?_ ?_
def ahC(h:App O B sz tk){x:Nat}(e:Tok.id tk=φ x):x<O.N:=(App.nZ h e).2
def y_.app(h:y_ O V N){p:List Bs×MV×Nat}(ha:App O 0 1 tk)(hp:p∈V)(hne:∀n' cs' tk',p.2.1= .l n' cs' tk'->∀x,Tok.id tk=φ x->Tok.id tk'≠φ x):∃n cs t,p.2.1= .l n cs t/\(Ζ cs)=n/\n<=N+1/\App (O.after tk) 0 1 t/\dz cs=cs:=by
 obtain⟨n',cs',t,h1,h2,h3,h4,h5⟩:=h.row p hp;exact⟨n',cs',t,h1,h2,Nat.le_succ_of_le h3,cy.app (cy.after ha) h4 (hne _ _ _ h1),h5⟩
def y_.put(h:y_ O V N)(hV:pL 2 V){n:Nat}(fa:BT γ (.l 0 [] .nil) (jC l V)= .l n cs tk)(hc:Ζ cs=n)(hn:n<=N)(ha:App O 0 1 tk)(hu:dz cs=cs):
  y_ (O.after tk) (jX l (.l (n+1) (cs++[.s v]) (.own O.N 1)) ck V) (N+1):=by
 have oR:∃n' cs' t,(MV.l (n+1) (cs++[.s v]) (.own O.N 1))= .l n' cs' t/\(Ζ cs')=n'/\n'<=N+1/\App (O.after tk) 0 1 t/\dz cs'=cs':=⟨_,_,_,rfl,by rw[Ti,hc];rfl,by omega,App.after (alO _),by rw[pK,hu];simp only[wu]⟩
 have dm:∀p∈V,∀n' cs' t',p.2.1= .l n' cs' t'->∀x,Tok.id t'=φ x->x<O.N:=λp hp n' cs' t' e x hx=>by
  obtain⟨a,b,c,h1,_,_,h4,_⟩:=h.row p hp;rw[h1]at e;injection e with _ _ e;subst e;exact ahC h4 hx
 unfold jX;cases k8:V.any (·.1==l)
 ·rw[if_neg (by simp)]
  have Hc:∀p∈V,p.1≠l:=λp hp e=>by
   rw[aqd]at k8;exact k8 p hp (by simp[e])
  rw[Ae Hc]at fa;simp only[BT]at fa;injection fa with e1 e2 e3;subst e1;subst e2;subst e3;refine⟨λp hp=>?_,λi j p r n' cs' tk' n'' anq anr hi hj JH hp hr x hx=>?_⟩;rcases alP.1 hp with hp | hp;exact h.app ha hp (λ_ _ _ _ x hx=>by cases hx);rw[aga.1 hp];exact oR;rw[aqh]at hi hj;split at hi<;>split at hj;exact h.one i j p r _ _ _ _ _ _ hi hj JH hp hr x hx;have T_:=aka hj;rw[aga]at T_;subst T_;dsimp only at hr;injection hr with _ _ e;subst e;intro e2;injection e2 with e2;have:=dm p (aka hi) _ _ _ hp x hx;omega;have tR:=aka hi;rw[aga]at tR;subst tR;dsimp only at hp;injection hp with _ _ e;subst e;injection hx with hx;intro e2;have:=dm r (aka hj) _ _ _ hr x e2;omega;have h1:=(agc.1 hi).1;have h2:=(agc.1 hj).1;simp only[abx,WT]at h1 h2;omega
 ·rw[if_pos rfl];obtain⟨p0,hp0,F9⟩:=List.any_eq_true.1 k8;have F9:=eq_of_beq F9;obtain⟨i0,hi0,e0⟩:=akd.1 hp0;(have oC:V[i0]?=φ p0:=by rw[akb hi0,e0]);have rZ:=M_ hV.one oC;rw[F9]at rZ;rw[rZ]at fa;simp only[BT]at fa;have fa:p0.2.1= .l n cs tk:=fa
  have wW:∀{i:Nat} {p:List Bs×MV×Nat},V[i]?=φ p->p.1=l->i=i0:=λ{i p} hi dD=>by
   (have h1:(V.map (·.1))[i]?=φ l:=by rw[alT,hi];exact congrArg φ dD);have h2:(V.map (·.1))[i0]?=φ l:=by rw[alT,oC];exact congrArg φ F9
   exact(List.getElem?_inj (by rw[akc];exact(agc.1 hi).1) hV.one).1 (h1.trans h2.symm)
  refine⟨λp' hp'=>?_,λi j p' r' n' cs' tk' n'' anq anr hi hj JH hp hr x hx=>?_⟩;obtain⟨p,hp,rfl⟩:=aqn.1 hp';by_cases e:p.1=l;rw[if_pos e];exact oR;rw[if_neg e];obtain⟨j,hj,ej⟩:=akd.1 hp;((have NJ:V[j]?=φ p:=by rw[akb hj,ej]);exact h.app ha hp (λn' cs' tk' e2 x hx=>h.one i0 j p0 p _ _ _ _ _ _ oC NJ (λe3=>by subst e3;rw[oC]at NJ;injection NJ with NJ;exact e (NJ▸F9)) fa e2 x hx));rw[alT]at hi hj;obtain⟨p,J7,rfl⟩:=alV.1 hi;obtain⟨r,hrj,rfl⟩:=alV.1 hj;by_cases e:p.1=l;by_cases e2:r.1=l;exact absurd ((wW J7 e).trans (wW hrj e2).symm) JH;rw[if_pos e]at hp;rw[if_neg e2]at hr;dsimp only at hp;injection hp with _ _ e3;subst e3;injection hx with hx;intro e4;have:=dm r (aka hrj) _ _ _ hr x e4;omega;rw[if_neg e]at hp;by_cases e2:r.1=l;rw[if_pos e2]at hr;dsimp only at hr;injection hr with _ _ e3;subst e3;intro e4;injection e4 with e4;have:=dm p (aka J7) _ _ _ hp x hx;omega;rw[if_neg e2]at hr;exact h.one i j p r _ _ _ _ _ _ J7 hrj JH hp hr x hx
structure p9(O:VH)(k:Nat)(L:List (Gv×Bs×Option Pm))(E V:gI)(ke kv ce cv:Nat)(r a:Int):Prop where
 st:J4 O k ke kv E ce V cv r a
 len:Ζ E=Ζ L
 NK:∀(i:Nat)(g:Gv)(t:Bs)(o:Option Pm),L[i]?=φ (g,t,o)->∃(q c:Nat),E[i]?=φ (fL g,MV.p q 0,c)/\(q:Nat)<O.N/\O.hp q=φ (.cells (ad8 t o))
 NL:∀(i j:Nat)(p r:List Bs×MV×Nat)(q:Nat),E[i]?=φ p->E[j]?=φ r->p.2.1=MV.p q 0->r.2.1=MV.p q 0->i=j
 ver:y_ O V (Ζ L)
def ahD(O:VH):VF Ε 19 [] O (aH λm O'=>m= .p (O.N+2) 0/\p9 O' (O.N+2) [] [] [] O.N (O.N+1) 0 0 0 0/\O.Ge O'):=by
 refine ω 5 [.tmp 0] func19 ?_;have lC:Ga (lq [(0,1),(1,1),(2,1),(3,1)]) [.v (.map Β),.v (.map Β),.v (Ι Κ 0),.v (Ι Κ 0)] (.map O.N) [(1,.map (O.N+1))] (φ (0,1))=φ [.map O.N,.map (O.N+1),.v (Ι Κ 0),.v (Ι Κ 0)]:=rfl;refine κ fe ?_;refine ξ fe lC ?_;refine ν fe ?_;obtain⟨hg,hn,h1,h2,h3⟩:=mQ (O:=O) (.map [] 0) (.map [] 0) (.cells [.map O.N,.map (O.N+1),.v (Ι Κ 0),.v (Ι Κ 0)]) rfl;refine⟨⟨⟨h3,h1,h2,⟨by simp,by simp⟩,⟨by simp,by simp⟩,by simp,by omega,by omega⟩,rfl,by simp,by simp,⟨by simp,by simp⟩⟩,hg⟩
def RJ{t kd te:TypeId}{a:Nat}{es:xQ}(h:tab t=φ ⟨.map kd te,a,b,z⟩)(hb:O.hp k=φ (.map es ck)):su tab O t (.map k)=φ (.v (Ι Κ (Ζ es))):=by simp[su,h,hb]
def IL(h:jC l M=Β):∀p∈M,p.1≠l:=by
 unfold jC at h;rw[Option.map_eq_none_iff,List.find?_eq_none]at h;intro p hp e;exact h p hp (by simp[e])
def LD{x y:Gv}(h:fL x=fL y):x=y:=by
 obtain⟨a,b,c⟩:=x;obtain⟨d,e,f⟩:=y;simp only[fL,List.cons.injEq,and_true]at h;obtain⟨rfl,rfl,rfl⟩:=h;rfl
section
variable{O O':VH}{k ke kv ce cv:Nat}{L:List (Gv×Bs×Option Pm)}{E V:gI}{r a:Int}
def p9.none(h:p9 O k L E V ke kv ce cv r a)(dh:∀x∈L,x.1≠g):jC (fL g) E=Β:=by
 refine Ae λp hp e=>?_
 obtain⟨i,hi,rfl⟩:=akd.1 hp;have hiL:i<Ζ L:=by rw[<-h.len];exact hi
 obtain⟨q,c,h1,_⟩:=h.NK i L[i].1 L[i].2.1 L[i].2.2 (akb hiL);rw[akb hi]at h1;injection h1 with h1;rw[h1]at e;exact dh _ (ap5 hiL) (LD e)
def p9.some(h:p9 O k L E V ke kv ce cv r a){o:Option Pm}(hi:L[i]?=φ (g,t,o)):∃q c,jC (fL g) E=φ (.p q 0)/\q<O.N/\O.hp q=φ (.cells (ad8 t o))/\E[i]?=φ (fL g,.p q 0,c):=by
 obtain⟨q,c,h1,h2,h3⟩:=h.NK i g t o hi;exact⟨q,c,M_ h.st.Rf.one h1,h2,h3,h1⟩
end
def ak4{L:List (Gv×Bs×Option Pm)}(h:p9 O k L E V ke kv ce cv r a)(g:Gv)(t:Bs)(hm:Df g=Α)(nv:wH g)(dh:∀x∈L,x.1≠g)(hL:Ζ L<1024):
  VF Ε 35 [.p k 0,.agg (cD g),.s t] O (aH λm O'=>m=mi 0/\(∃E' V' Vu Vv,p9 O' k (L++[(g,t,Β)]) E' V' ke kv Vu Vv r a)/\O.N<=O'.N/\∀i cs,i<O.N->O.hp i=φ (.cells cs)->O'.hp i=φ (.cells cs)):=by
 have AI:=h.none dh;have JV:=h.len;have cX:=h.st;have hh:EH E g=γ:=by unfold EH;rw[AI];rfl
 have dm:=cX.lt;have hL3:(fL g).length=3:=rfl;have hLs:=yS nv;have tf:=λO'=>aaj g O' nv.1 nv.2.1 nv.2.2
 have ad9:=λ(O':VH)(g':O.Ge O')=>XH (cX.ge g') g nv
 rw[hm]at tf;rw[hh]at ad9;obtain⟨g1,g2,g3⟩:=g;simp only[cD]at tf ad9 ⊢;refine ω 50 [.tmp 6] func35 ?_;refine κ fe ?_;refine VC.bx ?_;rintro O1 ⟨aK,eS,dd⟩;refine ξ fe eS ?_;refine τ (tf O1) ?_;rintro _ O2 ⟨rfl,aC⟩;have jY:=aC.at eS;have gy:=aK.trans aC;refine ao fe jY ?_;refine τ (ad9 O2 gy) ?_;rintro _ O3 ⟨rfl,aJ⟩;have eW:=gy.trans aJ;have kD:=(aJ.hp _ (by have:=aC.N;omega)).trans jY;have ij:=eW.N;have h3:=cX.ge eW;have en:=h3.cell;have Vt:=h3.FV;simp only[aq]at en;have hEn:(db E).length<1024:=by unfold db;rw[akc];omega
 have pB:=RJ T74 Vt;have JT:(db E).length=Ζ L:=by unfold db;rw[akc];exact JV
 rw[JT]at pB;refine aE fe en pB ?_;refine Γ ?_;refine WC.bW (.held [8]) [(0,.rd),(1,.rd),(2,.rd),(3,.rd),(4,.rd),(5,.rd),(6,.rd),(7,.one),(8,.one)] ?_;refine aE fe en kD ?_;have heP:∀{x:cx},(O3.push x).hp ke=φ (.map (db E) ce):=(η _ _ h3.lt.2.1).trans Vt
 refine VL.qw rfl rfl (qv.jX yR (l:=fL ⟨g1,g2,g3⟩) (b:=ke) (ck:=ce) (M:=E) Tryz.underlying74 rfl heP h3.Rf rfl hL3 hLs rfl) (λbrk hb i hi=>?_) (WL.sound aa ?_)
 ·cases hb
  rcases i with _ | _ | _ | _ | _ | _ | _ | _ | _ | i<;>first
   | rfl
   | (exfalso;revert hi;simp)
 have xt:E.any (·.1==fL ⟨g1,g2,g3⟩)=γ:=by
  rw[aqd];intro p hp hpe;have:=IL AI p hp;exact this (eq_of_beq hpe)
 unfold jX M4;rw[xt];refine ae fe ?_;refine VC.gen ?_;intro O4 e4;have fT:O4.N=O3.N+1:=by rw[e4];rfl
 have aja:=h3.lt;have RL:O.N+1<=O3.N:=by have:=aC.N;have:=aJ.N;omega
 have gE:∀i,i<O3.N->i≠ke->O4.hp i=O3.hp i:=λi h1 h2=>by rw[e4,π _ _ h2];exact η _ _ h1
 have he4:O4.hp ke=φ (.map (db (E++[(fL ⟨g1,g2,g3⟩,MV.p O3.N 0,ce)])) (ce+1)):=by rw[e4];exact υ _ _ _
 have yY:O4.hp O3.N=φ (.cells [.s t,.v (.int .u32 0),.v (.int .i32 0),.v (.int .u32 0),.v (.bool γ),.s [],.s [],.s [],.s [],.s [],.s [],.s [],.l 0 [] .nil,.l 0 [] .nil,.l 0 [] .nil,.v (Ι Κ 0),.s [],.s [],.s [],.v (Ι Κ 0),.v (Ι Κ 0),.v (Ι Κ 0),.s []]):=by
  rw[e4,VH.sx];exact ζ _ _
 clear e4 heP;refine VC.wkH yY (cs':=kB t 0 0 DA jd) (fR.anp _ _ _ _ _ _ _ _ _ _ _ _ _ _ _ _ _ _ _ _) ?_;refine VC.gen ?_;intro O5 e5;have eJ:O5.N=O3.N+1:=by rw[e5];exact fT
 have dS:∀i,i<O3.N->i≠ke->O5.hp i=O3.hp i:=λi h1 h2=>by rw[e5,VH.sx];exact gE i h1 h2
 have he5:O5.hp ke=φ (.map (db (E++[(fL ⟨g1,g2,g3⟩,MV.p O3.N 0,ce)])) (ce+1)):=by rw[e5,VH.sx];exact he4
 have sN:O5.hp O3.N=φ (.cells (kB t 0 0 DA jd)):=by rw[e5];exact υ _ _ _
 clear e5 gE he4 yY fT O4;have gO:=(dS k (by omega) cX.ne.1).trans en;have rN:=(dS kv (by omega) (Ne.symm cX.ne.2.2)).trans h3.Lu;have mA:=(dS O.N (by omega) (by omega)).trans kD;have ad_:y_ O5 V (Ζ L):=(h.ver.ge eW).mv (by omega) λi hi e=>(dS i hi (λe2=>by subst e2;rw[Vt]at e;cases e)).trans e
 obtain⟨n,cs,tk,ll,gV,hnn,xi,fE⟩:∃n cs tk,BT γ (.l 0 [] .nil) (jC (DC ⟨g1,g2⟩) V)= .l n cs tk/\(Ζ cs)=n/\n<=(Ζ L)/\App O5 0 1 tk/\dz cs=cs:=by
  cases fa:jC (DC ⟨g1,g2⟩) V with
  | none=>exact⟨0,[],.nil,rfl,rfl,alO _,trivial,rfl⟩
  | some m=>
    unfold jC at fa;obtain⟨p,nC,rfl⟩:=alV.1 fa;obtain⟨n,cs,tk,k1,k2,k3,k4,k5⟩:=ad_.row p (ap9 nC);exact⟨n,cs,tk,k1,k2,k3,k4,k5⟩
 have J8:=cX.vok;have LG:=akX ⟨g1,g2,g3⟩
 have Gq:∀s∈DC ⟨g1,g2⟩,Ζ s<=maxLen:=by
  intro s hs;simp only[DC,ap2,aqm,or_false]at hs;rcases hs with rfl | rfl;exact nv.1;exact nv.2.1
 simp only[cD]at LG;refine Γ ?_;refine VC.sU [17] (λO'=>O'.hp k=O5.hp k/\O'.hp O.N=O5.hp O.N) (⟨rfl,rfl⟩) ?_;refine ρ 0 fe ?_;refine ρ 1 fe ?_;refine ρ 2 fe ?_;refine ε (m:=.map kv) 3 ?_ ?_;rintro O2 ⟨j1,j2⟩;exact eD fe (j1.trans gO);simp only[ak];refine ε (m:=.agg [.s g1,.s g2,.s g3]) 4 ?_ ?_;rintro O2 ⟨j1,j2⟩;exact eD fe (j2.trans mA);simp only[ak];refine ρ 6 fe ?_;refine ρ 7 fe ?_;refine ρ 8 fe ?_;refine ε (m:=.map kv) 9 ?_ ?_;rintro O2 ⟨j1,j2⟩;exact eD fe (j1.trans gO);simp only[ak];refine ε (m:=.agg [.s g1,.s g2,.s g3]) 10 ?_ ?_;rintro O2 ⟨j1,j2⟩;exact eD fe (j2.trans mA);simp only[ak];refine ρ 13 fe ?_;refine ε (m:=.s g3) 14 ?_ ?_;rintro O2 ⟨j1,j2⟩;exact eD fe (j2.trans mA);simp only[ak];have hJ:∀O',O5.Ge O'->O'.hp k=O5.hp k/\O'.hp O.N=O5.hp O.N:=λO' g=>⟨g.hp _ (by omega),g.hp _ (by omega)⟩
 have q_:∀OO,O5.Ge OO->∀OF,OF=(OO.after tk).set kv (.map (db (jX (DC ⟨g1,g2⟩) (.l (n+1) (cs++[.s g3]) (.own OO.N 1)) cv V)) (M4 (DC ⟨g1,g2⟩) cv V))->(∃E' V' Vu Vv,p9 OF k (L++[((⟨g1,g2,g3⟩:Gv),t,Β)]) E' V' ke kv Vu Vv r a)/\O.N<=OF.N/\∀i cs,i<O.N->O.hp i=φ (.cells cs)->OF.hp i=φ (.cells cs):=by
  intro OO hG OF eF;have hoO:=hG.N
  have hF:∀i,i<O5.N->O5.hp i≠φ .tok->i≠kv->OF.hp i=O5.hp i:=λi hi hne hv=>by
   rw[eF,π _ _ hv];have e1:=hG.hp i hi;rw[App.off (xi.ge hG) (Th hi hG.N) (by rw[e1];exact hne)];exact e1
  have Vw:O5.N<=OF.N:=by
   (have:OF.N=(OO.after tk).N:=by rw[eF];rfl);have:=(cy.after (xi.ge hG)).N;omega
  have hold:∀i cs,i<O.N->O.hp i=φ (.cells cs)->OF.hp i=φ (.cells cs):=λi cs hi e=>by
   have e3:=(eW.hp i hi).trans e;have e5:=(dS i (by omega) (λe2=>by subst e2;rw[Vt]at e3;cases e3)).trans e3;exact(hF i (by omega) (by rw[e5];simp) (λe2=>by subst e2;rw[rN]at e5;cases e5)).trans e5
  have aea:=sF (y:=MV.p O3.N 0) (ck:=ce) h3.Rf hL3 hLs;unfold jX at aea;rw[xt]at aea;refine⟨⟨_,_,_,_,⟨⟨(hF _ (by omega) (by rw[gO];simp) cX.ne.2.1).trans gO,(hF _ (by omega) (by rw[he5];simp) cX.ne.2.2).trans he5,by rw[eF];exact υ _ _ _,aea,sF J8 rfl Gq,λp hp=>?_,⟨by omega,by omega,by omega⟩,cX.ne⟩,by rw[Ti,Ti,JV];rfl,λi g' t' o' hi=>?_,λi j p r' q hi hj hp hr=>?_,?_⟩⟩,by omega,hold⟩;rcases alP.1 hp with hp | hp;exact cX.ptr p hp;rw[aga.1 hp];exact⟨_,rfl⟩;rw[aqh]at hi;split at hi;rename_i RN;obtain⟨q,c,k1,k2,k3⟩:=h.NK i g' t' o' hi;exact⟨q,c,by rw[aqk (by omega)];exact k1,by omega,hold q _ k2 k3⟩;rename_i RN;have tR:=aka hi;rw[aga]at tR;injection tR with e1 e2;injection e2 with e2 e3;subst e1;subst e2;subst e3;have hlen:=(agc.1 hi).1;simp only[abx,WT]at hlen;refine⟨O3.N,ce,?_,by omega,(hF _ (by omega) (by rw[sN];simp) (by omega)).trans sN⟩;rw[ap8 (by omega),JV,show i - (Ζ L)=0 by omega];rfl
  ·have hq:∀(i:Nat)(p:List Bs×MV×Nat)(q:Nat),E[i]?=φ p->p.2.1=MV.p q 0->q<O.N:=λi p q hi hp=>by
    (have RN:i<Ζ L:=by rw[<-JV];exact(agc.1 hi).1);obtain⟨q',c,k1,k2,_⟩:=h.NK i _ _ _ (akb RN);rw[hi]at k1;injection k1 with k1
    rw[k1]at hp;dsimp only at hp;injection hp with hp;omega
   rw[aqh]at hi hj;split at hi<;>split at hj;exact h.NL i j p r' q hi hj hp hr;have T_:=aka hj;rw[aga]at T_;subst T_;dsimp only at hr;injection hr with hr;have:=hq i p q hi hp;omega;have tR:=aka hi;rw[aga]at tR;subst tR;dsimp only at hp;injection hp with hp;have:=hq j r' q hj hr;omega;have h1:=(agc.1 hi).1;have h2:=(agc.1 hj).1;simp only[abx,WT]at h1 h2;omega
  ·rw[Ti];have hvO:=y_.put (ck:=cv) (v:=g3) (ad_.ge hG) J8 ll gV hnn (xi.ge hG) fE;rw[eF];(((refine hvO.mv (YI _) λi hi e=>?_);by_cases e2:i=kv);subst e2;rw[App.off (xi.ge hG) (by omega) (by rw[hG.hp _ (by omega),rN];simp),hG.hp _ (by omega),rN]at e;cases e);exact(π _ _ e2).trans e
 have hG:=VH.Ge.refl O5;refine aqJ (i:=5) (j:=15) ?_ ?_
 ·refine aI.lr (LG _) ?_;rintro _ O6 ⟨rfl,qf⟩
  replace hG:=hG.trans qf
  clear qf;simp only[ak];refine⟨hJ _ hG,?_⟩;refine aqJ (i:=11) (j:=15) ?_ ?_
  ·refine aI.lr (LG _) ?_;rintro _ O7 ⟨rfl,qf⟩
   replace hG:=hG.trans qf
   clear qf;simp only[ak];refine⟨hJ _ hG,?_⟩;refine aqJ (i:=12) (j:=15) ?_ ?_
   ·refine aI.uJ (gJ.lV FT aa (l:=DC ⟨g1,g2⟩) (te:=⟨_,1,24,[.l 0 [] .nil]⟩) Tryz.underlying75 t_ rfl rfl (hG.at rN) J8 rfl rfl Gq) ?_;rw[ll];refine⟨hJ _ hG,?_⟩;refine ab.op (i:=15) ?_;refine ae fe ?_;refine⟨hJ _ hG,?_⟩;have cH:=aP (tk:=tk) (tk':=.full) (B:=0) (n:=n) (k:=1) (cs:=cs) (ds:=[.s g3]) t_ T9 (O:=O7) (xi.ge hG) (by rw[aqp];exact gV) rfl rfl (by decide) (by decide) (by omega) (by simp only[maxLen];omega)
    have sb:∀i,i<O5.N->O5.hp i≠φ .tok->((O7).after tk).hp i=O5.hp i:=λi hi hne=>by
     have e1:=(hG).hp i hi;rw[App.off (xi.ge hG) (Th hi (hG).N) (by rw[e1];exact hne)];exact e1
    refine ab.op (i:=16) ?_;rw[dP];refine ao fe cH ?_;refine⟨⟨sb _ (by omega) (by rw[gO];simp),sb _ (by omega) (by rw[mA];simp)⟩,?_⟩;refine ab.bW [(17,.one)] ?_;refine ae fe ?_;refine VL.qw rfl rfl (qv.jX FT (l:=DC ⟨g1,g2⟩) (b:=kv) (ck:=cv) (M:=V) Tryz.underlying75 rfl ((sb _ (by omega) (by rw[rN];simp)).trans rN) J8 rfl rfl Gq rfl) (λbrk hb=>by cases hb) (WL.sound aa ?_);refine ae fe ?_;refine VC.gen ?_;intro OF eF;refine κ fe ?_;refine ν fe ?_;exact q_ O7 hG OF eF
   ·refine aI.o1 ?_;refine ae fe ?_;refine⟨hJ _ hG,?_⟩;refine ab.one (i:=12) (aI.uJ (gJ.lV FT aa (l:=DC ⟨g1,g2⟩) (te:=⟨_,1,24,[.l 0 [] .nil]⟩) Tryz.underlying75 t_ rfl rfl (hG.at rN) J8 rfl rfl Gq) ?_);rw[ll];refine⟨hJ _ hG,?_⟩;have cH:=aP (tk:=tk) (tk':=.full) (B:=0) (n:=n) (k:=1) (cs:=cs) (ds:=[.s g3]) t_ T9 (O:=O7) (xi.ge hG) (by rw[aqp];exact gV) rfl rfl (by decide) (by decide) (by omega) (by simp only[maxLen];omega)
    have sb:∀i,i<O5.N->O5.hp i≠φ .tok->((O7).after tk).hp i=O5.hp i:=λi hi hne=>by
     have e1:=(hG).hp i hi;rw[App.off (xi.ge hG) (Th hi (hG).N) (by rw[e1];exact hne)];exact e1
    refine ab.op (i:=16) ?_;rw[dP];refine ao fe cH ?_;refine⟨⟨sb _ (by omega) (by rw[gO];simp),sb _ (by omega) (by rw[mA];simp)⟩,?_⟩;refine ab.bW [(17,.one)] ?_;refine ae fe ?_;refine VL.qw rfl rfl (qv.jX FT (l:=DC ⟨g1,g2⟩) (b:=kv) (ck:=cv) (M:=V) Tryz.underlying75 rfl ((sb _ (by omega) (by rw[rN];simp)).trans rN) J8 rfl rfl Gq rfl) (λbrk hb=>by cases hb) (WL.sound aa ?_);refine ae fe ?_;refine VC.gen ?_;intro OF eF;refine κ fe ?_;refine ν fe ?_;exact q_ O7 hG OF eF
  ·refine aI.o1 ?_;refine ae fe ?_;refine⟨hJ _ hG,?_⟩;refine ab.one (i:=11) (aI.lr (LG _) ?_);rintro _ O7 ⟨rfl,qf⟩
   replace hG:=hG.trans qf
   clear qf;simp only[ak];refine⟨hJ _ hG,?_⟩;refine ab.one (i:=12) (aI.uJ (gJ.lV FT aa (l:=DC ⟨g1,g2⟩) (te:=⟨_,1,24,[.l 0 [] .nil]⟩) Tryz.underlying75 t_ rfl rfl (hG.at rN) J8 rfl rfl Gq) ?_);rw[ll];refine⟨hJ _ hG,?_⟩;have cH:=aP (tk:=tk) (tk':=.full) (B:=0) (n:=n) (k:=1) (cs:=cs) (ds:=[.s g3]) t_ T9 (O:=O7) (xi.ge hG) (by rw[aqp];exact gV) rfl rfl (by decide) (by decide) (by omega) (by simp only[maxLen];omega)
   have sb:∀i,i<O5.N->O5.hp i≠φ .tok->((O7).after tk).hp i=O5.hp i:=λi hi hne=>by
    have e1:=(hG).hp i hi;rw[App.off (xi.ge hG) (Th hi (hG).N) (by rw[e1];exact hne)];exact e1
   refine ab.op (i:=16) ?_;rw[dP];refine ao fe cH ?_;refine⟨⟨sb _ (by omega) (by rw[gO];simp),sb _ (by omega) (by rw[mA];simp)⟩,?_⟩;refine ab.bW [(17,.one)] ?_;refine ae fe ?_;refine VL.qw rfl rfl (qv.jX FT (l:=DC ⟨g1,g2⟩) (b:=kv) (ck:=cv) (M:=V) Tryz.underlying75 rfl ((sb _ (by omega) (by rw[rN];simp)).trans rN) J8 rfl rfl Gq rfl) (λbrk hb=>by cases hb) (WL.sound aa ?_);refine ae fe ?_;refine VC.gen ?_;intro OF eF;refine κ fe ?_;refine ν fe ?_;exact q_ O7 hG OF eF
 ·refine aI.o1 ?_;refine ae fe ?_;refine ab.one (i:=5) (aI.lr (LG _) ?_);rintro _ O6 ⟨rfl,qf⟩
  replace hG:=hG.trans qf
  clear qf;simp only[ak];refine⟨hJ _ hG,?_⟩;refine ab.one (i:=11) (aI.lr (LG _) ?_);rintro _ O7 ⟨rfl,qf⟩
  replace hG:=hG.trans qf
  clear qf;simp only[ak];refine⟨hJ _ hG,?_⟩;refine ab.one (i:=12) (aI.uJ (gJ.lV FT aa (l:=DC ⟨g1,g2⟩) (te:=⟨_,1,24,[.l 0 [] .nil]⟩) Tryz.underlying75 t_ rfl rfl (hG.at rN) J8 rfl rfl Gq) ?_);rw[ll];refine⟨hJ _ hG,?_⟩;have cH:=aP (tk:=tk) (tk':=.full) (B:=0) (n:=n) (k:=1) (cs:=cs) (ds:=[.s g3]) t_ T9 (O:=O7) (xi.ge hG) (by rw[aqp];exact gV) rfl rfl (by decide) (by decide) (by omega) (by simp only[maxLen];omega)
  have sb:∀i,i<O5.N->O5.hp i≠φ .tok->((O7).after tk).hp i=O5.hp i:=λi hi hne=>by
   have e1:=(hG).hp i hi;rw[App.off (xi.ge hG) (Th hi (hG).N) (by rw[e1];exact hne)];exact e1
  refine ab.op (i:=16) ?_;rw[dP];refine ao fe cH ?_;refine⟨⟨sb _ (by omega) (by rw[gO];simp),sb _ (by omega) (by rw[mA];simp)⟩,?_⟩;refine ab.bW [(17,.one)] ?_;refine ae fe ?_;refine VL.qw rfl rfl (qv.jX FT (l:=DC ⟨g1,g2⟩) (b:=kv) (ck:=cv) (M:=V) Tryz.underlying75 rfl ((sb _ (by omega) (by rw[rN];simp)).trans rN) J8 rfl rfl Gq rfl) (λbrk hb=>by cases hb) (WL.sound aa ?_);refine ae fe ?_;refine VC.gen ?_;intro OF eF;refine κ fe ?_;refine ν fe ?_;exact q_ O7 hG OF eF
open Go.MapKept (run_setObj_map)
def eH:=Ca fe<|Ca T40<|Ca T37<|Ca T3<|Ca amy Eo
def j4(d:Dp):Ky:=⟨d.g,d.a,if d.t=[]then[106,97,114]else d.t,d.c⟩
def NM(d:Dp)(O:VH):VF Ε 93 [.agg (aX d)] O (aH λm O'=>m= .agg (iP (j4 d))/\O.Ge O'):=by
 obtain⟨g,a,v,t,c,s,o,x⟩:=d;simp only[aX,j4,iP];refine ω 18 [.cell 2 40] func93 ?_;refine κ eH ?_;refine VC.gen ?_;intro O1 e1;obtain⟨aK,dd,cJ,cC⟩:=iY _ _ e1;clear e1;refine ξ eH cJ ?_;refine VC.al ?_;rintro O2 ⟨aC,jY,fc⟩;have cG:=aC.at cC;cases t with
 | nil=>
   rw[if_pos rfl];refine θ (aE eH jY (show(([]:Ρ)==[])=Α from rfl) ?_);refine ι (aE eH jY cG ?_);exact(((aK.trans aC).set (by omega) _).set (by omega) _)
 | cons y t=>
   rw[if_neg (by simp)];refine θ (aE eH jY (show((y::t)==[])=γ from rfl) ?_);refine ι (aE eH jY cG ?_);exact(aK.trans aC).set (by omega) _
section
variable{G H:Gh}{n:Sz}{D:List Deferred}{e e':Env}{a:Act}{P:Program}{tab:cL}{O O':VH}{w:World}{m m':MV}{u v:Value}{ops:Array Oper}{Q:VQ}{md:Md}
structure Cnt(N:Nat)(M:gI)(j:Int):Prop where
 ok:pL N M
 int:∀p∈M,∃x:Int,p.2.1=mi x/\0<=x/\x<=j
def iF.XS{kt et:TypeId}(K:w6 P kt N)(ht:aR P tab){d:Option Tmp}{t ty:TypeId}{x:Operand}{g:Option (Nat×Bool)}{l:List Ρ}{te:c6}{z:MV}(hU:P.underlying t=φ (.map kt et))(qd:tab et=φ te)(hz:zZ te=φ z)
  (hx:ev e x=φ (.map b)) (hb:O.hp b=φ (.map (db M) ck)) (hM:pL N M) (hy:ev e y=φ (.agg (l.map .s))) (hl:Ζ l=N) (hs:∀s∈l,Ζ s<=maxLen):
  iF P n D (.mk d (.mapEntry t x y) ty ps af g) e O λm O'=>∃(M':gI)(ck':Nat)(v:MV)(st:Nat),m= .tuple [v,.v (Ι Κ st)]/\O'=O.set b (.map (db M') ck')/\pL N M'/\(∀p∈M',p∈M\/p.2.1=z)/\(∃p∈M',p.2.2=st):=by
 intro G a w hw hf;have h1:=hf.ev hx;have h2:=hf.ev hy;generalize rD:a.eval x=u at h1;generalize BQ:a.eval y=v at h2;have hv:=C8 h2;subst hv;cases h1 with
 | map fC=>
   rename_i b';obtain⟨b2,E,e1,e2,e3,e4,e5⟩:=hw.map _ _ _ hb;rw[fC]at e1;injection e1 with e1;subst e1;have hE:iZ G (db M) E.toList:=⟨e3,e4,e5⟩;obtain⟨lit,Ba⟩:=K.of l hl hs;have HU:=K.law.check w γ Ba;obtain⟨zv,z1,z2⟩:=BK (ht et te qd) hz;rcases C9 K hM hE hl hs w with⟨g1,g2⟩ | ⟨j,p,q,g1,g2,g3,g4,g5⟩
   ·have k8:M.any (·.1==l)=γ:=by rw[aqd];intro p hp;simpa using g2 p hp
    have hr:iZ G (db (M++[(l,z,ck)])) (E.push {key:=g_ l,val:=zv,born:=ck}).toList:=by
     rw[Array.toList_push];unfold db;rw[ap_];exact hE.append (iZ.cons rfl h2 (z2 G) iZ.nil)
    have dw:=sF (y:=z) (ck:=ck) hM hl hs;unfold jX at dw;rw[k8]at dw;refine⟨.tuple [z,.v (Ι Κ ck)],O.set b (.map (db (M++[(l,z,ck)])) (ck+1)),.tuple #[zv,.int .i64 ck],?wx,G,⟨M++[(l,z,ck)],ck+1,z,ck,rfl,rfl,dw,λp hp=>?_,⟨_,aqf _ (aga.2 rfl),rfl⟩⟩,?rn,Gh.Le.refl G,?wr,?vr⟩
    case wr=>exact hw.vU (ck':=ck+1) hb fC e2 hr
    case rn=>
     simp only[execOp,rD,BQ,Instr.mapEntry,Sem.run_bind,run_underlying hU,Result.andThen_ok,MapKept.run_getObj_map e2,HU,g1,z1,run_setObj_map _ e2];rfl
    case vr=>exact VR.tuple (us:=[zv,.int .i64 ck]) rfl (aW.cons (z2 G) (aW.cons (.v rfl) aW.nil)).2
    rcases alP.1 hp with hp | hp;exact .inl hp;rw[aga.1 hp];exact .inr rfl
   ·obtain⟨k1,k2,k3⟩:=hE.keys.2 j p q g2 g4;have cX:=K.law.stays w Ba;(((have Nb:q.key=g_ l:=by rw[k1,g3]);have NJ:E[j]?=φ q:=by simpa using g4);have AB:((E[j]?).map (·.key)).getD (g_ l)=g_ l:=by rw[NJ];exact Nb);have xL:((E[j]?).map (λx=>((x.born:Nat):Int))).getD 0=(p.2.2:Int):=by rw[NJ];exact congrArg (λn:Nat=>(n:Int)) k3
    have ans:E.modify j (λx=>{x with key:=g_ l})=E:=by
     have hj:=(Array.getElem?_eq_some_iff.1 NJ);obtain⟨cA,aM⟩:=hj;apply Array.ext;simp;intro i gh cn;rw[Array.getElem_modify];split;rename_i e;subst e;rw[aM, <-Nb];rfl
    refine⟨.tuple [p.2.1,.v (Ι Κ p.2.2)],O.set b (.map (db M) ck),.tuple #[q.val,.int .i64 p.2.2],?wy,G,⟨M,ck,p.2.1,p.2.2,rfl,rfl,hM,λp hp=>.inl hp,⟨p,aka g2,rfl⟩⟩,?rm,Gh.Le.refl G,?ws,?vs⟩
    case ws=>exact hw.vU (E':=E) (ck':=ck) hb fC e2 hE
    case rm=>
     simp only[execOp,rD,BQ,Instr.mapEntry,Sem.run_bind,run_underlying hU,Result.andThen_ok,MapKept.run_getObj_map e2,HU,g1,AB,cX,ans,xL,run_setObj_map _ e2];rfl
    case vs=>exact VR.tuple (us:=[q.val,.int .i64 p.2.2]) rfl (aW.cons g5 (aW.cons (.v rfl) aW.nil)).2
def ES(P:Program)(n:Sz)(D:List Deferred)(o:Oper)(e:Env)(O:VH)(Φ :ϰ):Prop:=∀G a w,WR G O w->FR G n D e a->∃w' H O', Φ O'/\(execOp a.eval o).run P w= .ok .skip w'/\Gh.Le G H/\WR H O' w'
def aI.ahE{o:Oper}(ho:ops[i]?=φ o)(hg:aQ ops o e=φ Α)(hd:bL n o.dst=Α)(hy:ES P n D o e O Φ)(h:∀O', Φ O'->K (bt o.dst cY e) O'):aI P n D ops i e O Q K:=by
 intro G a w hw aZ;obtain⟨w',H,O',hΦ,hr,h1,h2⟩:=hy G a w hw aZ;simp only[wpOp,ho,bN aZ hg,if_true];refine .inl ?_;unfold Oper.wp;rw[hr];exact⟨_,_,H,h1,h2,(aZ.mono h1).bt hd nj,h _ hΦ⟩
def vy{α β :Type}{f: α -> α}{g: α -> β}(h:∀x,g (f x)=g x)(L:List α)(i:Nat):(L.modify i f).map g=L.map g:=by
 refine aql λj=>?_
 rw[alT,alT,aqi];cases L[j]? with
 | none=>rfl
 | some x=>
   simp only[aqa];split;exact congrArg φ (h x);rfl
def RP{α β :Type}{f: α -> α}{g: α -> β}{y: β}(h:∀x,g (f x)=y)(L:List α)(i:Nat):(L.modify i f).map g=(L.map g).set i y:=by
 refine aql λj=>?_
 rw[alT,aqi,List.getElem?_set,alT,akc];by_cases e:i=j;subst e;rw[if_pos rfl];by_cases hl:i<Ζ L;rw[if_pos hl,akb hl];simp[h];rw[if_neg hl,List.getElem?_eq_none (by omega)];rfl
 ·rw[if_neg e];cases L[j]? with
  | none=>rfl
  | some x=>simp[e]
def ES.LH{d:Option Tmp}{t ty:TypeId}{x z:Operand}{g:Option (Nat×Bool)}{st:Nat}(hx:ev e x=φ (.map b))(hb:O.hp b=φ (.map (db M) ck))(hM:pL N M)(hy:ev e y=φ (.v (Ι Κ st)))(hz:ev e z=φ m)(C_:∃p∈M,p.2.2=st):
  ES P n D (.mk d (.entryStore t x y z) ty ps af g) e O λO'=>∃M',O'=O.set b (.map (db M') ck)/\pL N M'/\∀p∈M',p∈M\/p.2.1=m:=by
 intro G a w hw hf;have h1:=hf.ev hx;have h2:=hf.ev hy;have h3:=hf.ev hz;generalize rD:a.eval x=u at h1;generalize BQ:a.eval y=v at h2;generalize haz:a.eval z=r at h3;have hv:=h2.j8;subst hv;cases h1 with
 | map fC=>
   rename_i b';obtain⟨b2,E,e1,e2,e3,e4,e5⟩:=hw.map _ _ _ hb;rw[fC]at e1;injection e1 with e1;subst e1;have hE:iZ G (db M) E.toList:=⟨e3,e4,e5⟩;have hlen:=hE.keys.1;obtain⟨p,hp,hps⟩:=C_;obtain⟨j,hj,ej⟩:=akd.1 hp;(have hjE:j<Ζ E.toList:=by omega);have ak5:=(hE.keys.2 j p E.toList[j] (by rw[akb hj,ej]) (akb hjE)).2.2;have ak6:E.toList[j]∈E:=by simp
   obtain⟨i,hi⟩:∃i,E.findIdx? (λe=>(e.born:Int)==(st:Int))=φ i:=by
    have:(E.findIdx? (λe=>(e.born:Int)==(st:Int))).isSome=Α:=by
     rw[Array.findIdx?_isSome];rw[Array.any_eq_true'];exact⟨_,ak6,by rw[ak5,hps];simp⟩
    exact Option.isSome_iff_exists.1 this
   have hr:iZ G (db (M.modify i λp=>(p.1,m,p.2.2))) (E.modify i λe=>{e with val:=r}).toList:=by
    rw[Array.toList_modify];refine⟨?_,?_,?_⟩;rw[vy (f:=λe:MapEntry=>{e with val:=r}) (g:=λx=>x.born) (λ_=>rfl) E.toList i,e3];unfold db;rw[aqb,aqb];exact(vy (f:=λp:List Bs×MV×Nat=>(p.1,m,p.2.2)) (λ_=>rfl) M i).symm
    ·rw[vy (f:=λe:MapEntry=>{e with val:=r}) (g:=λx=>x.key) (λ_=>rfl) E.toList i]
     have:(db (M.modify i λp=>(p.1,m,p.2.2))).map (·.1)=(db M).map (·.1):=by
      unfold db;rw[aqb,aqb];exact vy (f:=λp:List Bs×MV×Nat=>(p.1,m,p.2.2)) (λ_=>rfl) M i
     rw[this];exact e4
    ·rw[RP (f:=λe:MapEntry=>{e with val:=r}) (g:=λx=>x.val) (y:=r) (λ_=>rfl) E.toList i]
     have:(db (M.modify i λp=>(p.1,m,p.2.2))).map (·.2.1)=((db M).map (·.2.1)).set i m:=by
      unfold db;rw[aqb,aqb];exact RP (f:=λp:List Bs×MV×Nat=>(p.1,m,p.2.2)) (λ_=>rfl) M i
     rw[this];exact e5.set h3
   have aeb:∀p∈M.modify i (λp=>(p.1,m,p.2.2)),(∃p0∈M,p.1=p0.1/\p.2.2=p0.2.2)/\(p∈M\/p.2.1=m):=λp hp=>by
    obtain⟨j,hj,ej⟩:=akd.1 hp;have hg:(M.modify i (λp=>(p.1,m,p.2.2)))[j]?=φ p:=by rw[akb hj,ej]
    rw[aqi]at hg;cases hm:M[j]? with
    | none=>rw[hm]at hg;cases hg
    | some p0=>
      rw[hm]at hg;(((change φ _=φ p at hg);injection hg with hg;have nR:=aka hm;split at hg);subst hg;exact⟨⟨p0,nR,rfl,rfl⟩,.inr rfl⟩);subst hg;exact⟨⟨_,nR,rfl,rfl⟩,.inl nR⟩
   refine⟨?wx,G,O.set b (.map (db (M.modify i λp=>(p.1,m,p.2.2))) ck),⟨_,rfl,⟨λp hp=>?_,?_⟩,λp hp=>(aeb p hp).2⟩,?rn,Gh.Le.refl G,?wr⟩
   case wr=>exact hw.vU (ck':=ck) hb fC e2 hr
   case rn=>
    simp only[execOp,rD,BQ,haz,Instr.entryStore,Sem.run_bind,Result.andThen_ok,MapKept.run_getObj_map e2,asInt,asIntOf,Sem.run_pure,hi,run_setObj_map _ e2]
   ·obtain⟨p0,h1,h2,_⟩:=(aeb p hp).1;rw[h2];exact hM.len p0 h1
   ·have:(M.modify i (λp=>(p.1,m,p.2.2))).map (·.1)=M.map (·.1):=vy (f:=λp:List Bs×MV×Nat=>(p.1,m,p.2.2)) (λ_=>rfl) M i;rw[this];exact hM.one
end
def aI.RQ{n:Sz}{ty:TypeId}{g:Option (Nat×Bool)}(ho:ops[i]?=φ (.mk Β op ty ps af g))(hg:aQ ops (.mk Β op ty ps af g) e=φ Α)(hy:ES P n D (.mk Β op ty ps af g) e O Φ)(h:∀O', Φ O'->K e O'):aI P n D ops i e O Q K:=
 aI.ahE ho hg rfl hy h
def ab.IN{n:Sz}{brk:Τ}{Ψ :Gh->Prop}{J:ϰ}{Z:Prop}{fuel:Nat}{listed:Array Bool}{l:ϕ}{ty:TypeId}{g:Option (Nat×Bool)}{M:MV->VH->Prop}(hy:iF P n D (.mk (φ d) op ty ps af g) e O M)
  (h:∀m O',M m O'->J O'/\ab P n D ⟨l⟩ brk J Ψ Z fuel (listed.setIfInBounds i Α) ((d,m)::e) O' Q) (hr:Region.ready .any ⟨l⟩ listed=[i]:=by kernel_rfl) (ho:l[i]?=φ (.mk (φ d) op ty ps af g):=by exact rfl) (hg:aQ ⟨l⟩ (.mk (φ d) op ty ps af g) e=φ Α:=by exact rfl) (hd:bL n (φ d)=Α:=by exact rfl):ab P n D ⟨l⟩ brk J Ψ Z (fuel+1) listed e O Q:=ab.st hy h (hr:=hr) (ho:=ho) (hg:=hg) (hd:=hd)
def aI.IN{n:Sz}{l:ϕ}{ty:TypeId}{g:Option (Nat×Bool)}{M:MV->VH->Prop}(hy:iF P n D (.mk (φ d) op ty ps af g) e O M)
  (h:∀m O',M m O'->K ((d,m)::e) O') (ho:l[i]?=φ (.mk (φ d) op ty ps af g):=by exact rfl) (hg:aQ ⟨l⟩ (.mk (φ d) op ty ps af g) e=φ Α:=by exact rfl) (hd:bL n (φ d)=Α:=by exact rfl):aI P n D ⟨l⟩ i e O Q K:=aI.st hy h (ho:=ho) (hg:=hg) (hd:=hd)
def GR.less{el:TypeId}{B':Nat}{p:MV}{n:Nat}{L:Η}(h:GR O el sz B p n L)(hB:B'<=B):GR O el sz B' p n L:=by
 rcases h with h | ⟨k,c,h1,h2,h3,h4⟩;exact .inl h;obtain⟨j,k1,k2,k3⟩:=h4.mC;exact .inr ⟨k,c,h1,h2,h3,⟨h4.cells,⟨j,alU hB k1,k2,k3⟩,alU hB h4.lo,h4.hi⟩⟩
def dK(x:Ky):List Bs:=[x.g,x.a,x.t,x.c]
def FY(d:Dp):Prop:=Ζ d.g<=100000/\(Ζ d.a)<=100000/\(Ζ d.v)<=100000/\(Ζ d.t)<=100000/\(Ζ d.c)<=100000/\(Ζ d.x)<=10000
def RS{d:Dp}(h:FY d):∀s∈dK (j4 d),Ζ s<=maxLen:=by
 obtain⟨h1,h2,h3,h4,h5,h6⟩:=h;intro s hs;simp only[dK,j4,ap2,aqm,or_false]at hs;have hm:100000<=maxLen:=by simp[maxLen]
 rcases hs with rfl | rfl | rfl | rfl;omega;omega;split;exact alU (by decide) hm;omega;omega
def aec(L:List Dp)(tk t2:Tok)(O:VH)(hn:Ζ L<=10000)(hL:∀d∈L,FY d):
  VF Ε 223 [.l (Ζ L) (L.flatMap aX) tk,.l 0 [] t2,.func (.func 93) [] []] O (aH λm O'=>O.Ge O'/\GR O' 56 8 O.N m (Ζ L) (L.flatMap aX)):=by
 have dD:=bk iQ L;refine ω 49 [.tmp 6] func223 ?_;refine κ eH ?_;refine κ eH ?_;refine VC.gen ?_;intro O1 e1;have aK:O.Ge O1:=by rw[e1];exact(VH.Ge.refl O).push _
 have dd:O1.N=O.N+1:=by rw[e1];rfl
 have ET:O1.hp O.N=φ (.map (db []) 0):=by rw[e1];exact ζ _ _
 clear e1;refine Ξ [0,1,2,7] (λ_:Unit=>[.l (Ζ L) (L.flatMap aX) tk,.l 0 [] t2,.func (.func 93) [] [],.map O.N]) (λ_ O'=>O.Ge O'/\O.N+1<=O'.N) ?_ ?_
 ·refine κ eH ?_;refine χ ?_;refine Θ [16] [0,1,2,7,14,15] (λj:Nat=>[mi j]) (λj O'=>O.Ge O'/\O.N+1<=O'.N/\j<=(Ζ L)/\∃M ck,O'.hp O.N=φ (.map (db M) ck)/\Cnt 4 M j) (λj=>(Ζ L) - j) (0) ?_ ?_;exact⟨aK,by omega,alO _,[],0,ET,⟨by simp,by simp⟩,by simp⟩;rintro j O3 ⟨aJ,ij,hj,M,ck,zb,hM⟩;by_cases aM:j<Ζ L;rotate_left
  ·obtain rfl:j=Ζ L:=by omega
   refine ν eH ?_;exact aB.mk () ⟨aJ,ij⟩
  have bG:=c9 iQ L j aM;have gW:=RS (hL L[j] (List.getElem_mem aM));have Gr:=NM L[j];generalize L[j]=d at*;have RT:iP (j4 d)=(dK (j4 d)).map .s:=rfl;have nD:(dK (j4 d)).length=4:=rfl;generalize dK (j4 d)=kl at*;rw[RT]at Gr;obtain⟨dg,da,dv,dt,dc,mI,dO,dx⟩:=d;simp only[aX,aq]at bG Gr;have cA:=jSx j;refine κ eH ?_;refine κ eH ?_;refine Γ (χ ?_);refine ξ eH bG ?_;refine VC.al ?_;rintro O4 ⟨aT,lz,fT⟩;have sf:=aT.at zb;refine VC.sU [] (λO'=>True) (trivial) ?_;refine ρ 0 eH ?_;refine ρ 1 eH ?_;refine ab.op (i:=2) ?_;refine ao eH lz ?_;refine ab.sS (i:=3) (Gr O4) ?_ ?_;rotate_left;rintro m O5 h;exact h.elim;rintro _ O5 ⟨rfl,bO⟩;simp only[ak];refine⟨trivial,?_⟩;have ra:=bO.at sf
  obtain⟨x,hx,hx0,RF⟩:∃x:Int,BT γ (mi 0) (jC kl M)=mi x/\0<=x/\x<=j:=by
   cases fa:jC kl M with
   | none=>exact⟨0,rfl,by omega,by omega⟩
   | some m=>
     unfold jC at fa;obtain⟨p,nC,rfl⟩:=alV.1 fa;obtain⟨x,k1,k2,k3⟩:=hM.int p (ap9 nC);exact⟨x,k1,k2,k3⟩
  simp only[aq]at hx;refine aqJ (i:=4) (j:=6) ?_ ?_
  ·refine aI.uJ (gJ.lV qD aa (l:=kl) (te:=⟨_,1,8,[.v (Ι Κ 0)]⟩) Tryz.underlying37 T3 rfl rfl ra hM.ok rfl nD gW) ?_;rw[hx];refine⟨trivial,?_⟩;refine ρ 5 eH ?_;refine ab.IN (i:=6) (iF.XS qD aa (l:=kl) (te:=⟨_,1,8,[.v (Ι Κ 0)]⟩) Tryz.underlying37 T3 rfl rfl ra hM.ok rfl nD gW) ?_;rintro m O6 ⟨M1,ck1,v1,st,rfl,e6,XT,aed,RU⟩;refine⟨trivial,?_⟩;((have hm6:O6.hp O.N=φ (.map (db M1) ck1):=by rw[e6];exact υ _ _ _);have RV:O.Ge O6:=by rw[e6];exact((aJ.trans aT).trans bO).set (YI _) _);have oD:O.N+1<=O6.N:=by rw[e6];show O.N+1<=O5.N;have:=bO.N;omega
   have IP:∀p∈M1,∃y:Int,p.2.1=mi y/\0<=y/\y<=j:=λp hp=>by
    rcases aed p hp with hp | hp;exact hM.int p hp;exact⟨0,hp,by omega,by omega⟩
   refine ρ 7 eH ?_;refine ab.one (i:=8) (aI.RQ rfl rfl (ES.LH rfl hm6 XT rfl rfl RU) ?_);rintro O7 ⟨M2,e7,aee,aef⟩;refine⟨trivial,?_⟩;refine ab.bW [] ?_;refine ae eH ?_;refine ο eH cA ?_;refine az.N (j+1) ⟨?_,?_,aM,M2,_,by rw[e7];exact υ _ _ _,aee,λp hp=>?_⟩;rw[e7];exact RV.set (YI _) _;rw[e7];show O.N+1<=(O6).N;omega;rcases aef p hp with hp | hp;obtain⟨y,k1,k2,k3⟩:=IP p hp;exact⟨y,k1,k2,by push_cast;omega⟩;exact⟨_,hp,by omega,by push_cast;omega⟩
  ·refine aI.IN (iF.XS qD aa (l:=kl) (te:=⟨_,1,8,[.v (Ι Κ 0)]⟩) Tryz.underlying37 T3 rfl rfl ra hM.ok rfl nD gW) ?_;rintro m O6 ⟨M1,ck1,v1,st,rfl,e6,XT,aed,RU⟩;refine⟨trivial,?_⟩;((have hm6:O6.hp O.N=φ (.map (db M1) ck1):=by rw[e6];exact υ _ _ _);have RV:O.Ge O6:=by rw[e6];exact((aJ.trans aT).trans bO).set (YI _) _);have oD:O.N+1<=O6.N:=by rw[e6];show O.N+1<=O5.N;have:=bO.N;omega
   have IP:∀p∈M1,∃y:Int,p.2.1=mi y/\0<=y/\y<=j:=λp hp=>by
    rcases aed p hp with hp | hp;exact hM.int p hp;exact⟨0,hp,by omega,by omega⟩
   refine ρ 7 eH ?_;clear hx hx0 RF
   obtain⟨x,hx,hx0,RF⟩:∃x:Int,BT γ (mi 0) (jC kl M1)=mi x/\0<=x/\x<=j:=by
    cases fa:jC kl M1 with
    | none=>exact⟨0,rfl,by omega,by omega⟩
    | some m=>
      unfold jC at fa;obtain⟨p,nC,rfl⟩:=alV.1 fa;obtain⟨x,k1,k2,k3⟩:=IP p (ap9 nC);exact⟨x,k1,k2,k3⟩
   simp only[aq]at hx;refine ab.one (i:=4) (aI.uJ (gJ.lV qD aa (l:=kl) (te:=⟨_,1,8,[.v (Ι Κ 0)]⟩) Tryz.underlying37 T3 rfl rfl hm6 XT rfl nD gW) ?_);rw[hx];refine⟨trivial,?_⟩;refine ρ 5 eH ?_;refine ab.one (i:=8) (aI.RQ rfl rfl (ES.LH rfl hm6 XT rfl rfl RU) ?_);rintro O7 ⟨M2,e7,aee,aef⟩;refine⟨trivial,?_⟩;refine ab.bW [] ?_;refine ae eH ?_;refine ο eH cA ?_;refine az.N (j+1) ⟨?_,?_,aM,M2,_,by rw[e7];exact υ _ _ _,aee,λp hp=>?_⟩;rw[e7];exact RV.set (YI _) _;rw[e7];show O.N+1<=(O6).N;omega;rcases aef p hp with hp | hp;obtain⟨y,k1,k2,k3⟩:=IP p hp;exact⟨y,k1,k2,by push_cast;omega⟩;exact⟨_,hp,by omega,by push_cast;omega⟩
 intro _ O3 ⟨aJ,ij⟩;refine κ eH ?_;refine τ (IA L tk O3) ?_;rintro mL O4 ⟨aT,mS⟩;refine ae eH ?_;refine Ξ [10] (λ_:Unit=>[mL]) (λ_ O'=>O'=O4) ?_ ?_;refine κ eH ?_;refine χ ?_;refine Θ [10,33] [2,7,31,32] (λ_:Unit=>[mL,mi 0]) (λ_ O'=>O'=O4) (λ_=>0) (()) ?_ ?_;rfl;rintro _ O5 e5;rw[e5];clear e5 O5;refine ν eH ?_;exact aB.mk () rfl;rintro _ O5 e5;rw[e5];clear e5 O5;refine ν eH ?_;exact⟨aJ.trans aT,GR.less mS (by omega)⟩
def aeg(L:List Dp)(tk t2:Tok)(O:VH)(hn:Ζ L<=10000)(hL:∀d∈L,FY d):
  VF Ε 196 [.l (Ζ L) (L.flatMap aX) tk,.l 0 [] t2] O (aH λm O'=>∃t,m= .l (Ζ L) (L.flatMap aX) t/\O.Ge O'):=by
 have dD:=bk iQ L;refine ω 27 [.tmp 4] func196 ?_;refine κ eH ?_;refine κ eH ?_;refine τ (aec L tk t2 O hn hL) ?_;rintro mL O2 ⟨aC,mS⟩;rcases mS with⟨h0,_,hp⟩ | ⟨k,c,rfl,C0,_,cU⟩;obtain rfl:L=[]:=ap7 h0;rcases hp with rfl | rfl;refine ae eH ?_;refine Ξ [5] (λ_:Unit=>[.l 0 [] .nil]) (λ_ O'=>O'=O2) ?_ ?_;refine κ eH ?_;refine χ ?_;refine Θ [12] [5,11] (λj:Nat=>[mi 0]) (λj O'=>O'=O2) (λj=>0) (0) ?_ ?_;rfl;rintro j O3 eO;rw[eO];clear eO O3;refine ν eH ?_;exact aB.mk () rfl;intro _ O9 eO;rw[eO];clear eO O9;refine ν eH ?_;exact⟨_,rfl,aC⟩;refine ae eH ?_;refine Ξ [5] (λ_:Unit=>[.l 0 [] .full]) (λ_ O'=>O'=O2) ?_ ?_;refine κ eH ?_;refine χ ?_;refine Θ [12] [5,11] (λj:Nat=>[mi 0]) (λj O'=>O'=O2) (λj=>0) (0) ?_ ?_;rfl;rintro j O3 eO;rw[eO];clear eO O3;refine ν eH ?_;exact aB.mk () rfl;intro _ O9 eO;rw[eO];clear eO O9;refine ν eH ?_;exact⟨_,rfl,aC⟩;obtain⟨sp,hc,gU⟩:=cU.cells;have gW:=cU.lo;have U9:=cU.hi;refine ae eH ?_;refine Ξ [5] (λ_:Unit=>[.aS k 0 (Ζ L) c]) (λ_ O'=>O2.Ge O') ?_ ?_
 ·refine κ eH ?_;refine χ ?_;refine Θ [12] [5,11] (λj:Nat=>[mi j]) (λj O'=>O2.Ge O'/\j<=Ζ L) (λj=>(Ζ L) - j) (0) ?_ ?_;exact⟨VH.Ge.refl _,alO _⟩;rintro j O3 ⟨aJ,hj⟩;by_cases aM:j<Ζ L;rotate_left
  ·obtain rfl:j=Ζ L:=by omega
   refine ν eH ?_;exact aB.mk () aJ
  have fw:=(aJ.hp k U9).trans hc;have bG:(L.flatMap aX++sp)[j*8+7]?=φ (.l L[j].x.length (L[j].x.flatMap cM) .au):=lD iQ (List.getElem?_eq_getElem aM) rfl;have RF:=(hL L[j] (List.getElem_mem aM)).2.2.2.2.2;generalize L[j].x=X at*;generalize L.flatMap aX++sp=C at*;have fz:=Aq bG;have Np:=(List.getElem?_eq_some_iff.1 bG).1;have cA:=jSx j;refine κ eH ?_;refine κ eH ?_;refine Γ (χ ?_);refine κ eH ?_;refine ι (aE eH fw bG ?_);refine τ (wG X .au O3) ?_;rintro _ O4 ⟨rfl,aT⟩;have fP:=(aT.hp k (by have:=aJ.N;omega)).trans fw;refine cB eH fP bG fz ?_;rw[VH.zP fP];refine ο eH cA ?_;exact az.N (j+1) ⟨aJ.trans aT,aM⟩
 intro _ O9 bI;have B_:=(bI.hp k U9).trans hc;refine VC.freeze 5 (sz:=(Ζ L)*8) rfl B_ (by rw[Ti,dD];omega) ?_;have di:((L.flatMap aX++sp).drop 0).take ((Ζ L)*8)=L.flatMap aX:=by rw[aqq,alS (by rw[dD];exact YI _), <-dD,alR]
 rw[di];have vw:=aC.trans bI;have ir:O.Ge (O9.kill k):=⟨vw.N,λi hi=>(VH.mH _).trans (vw.hp i hi)⟩;refine ν eH ?_;exact⟨_,rfl,ir⟩
def LI(L:List Dp)(tk t2:Tok)(O:VH)(hn:Ζ L<=10000)(hL:∀d∈L,FY d):
  VF Ε 196 [.l (Ζ L) (L.flatMap aX) tk,.l 0 [] t2] O (aH λm O'=>m= .l (Ζ L) (L.flatMap aX) .au/\O.Ge O'):=
 VF.wkR (aeg L tk t2 O hn hL) λm O' ⟨t,h1,h3⟩=>⟨_,h1▸Wk.tok,rfl,h3⟩
def kT:=Ca eH<|Ca Nh<|Ca FG<|Ca aiQ T9
def ak7(x:Bs×Bs)(k:Nat)(nm:Bs)(O:VH)(hk:O.hp k=φ (.cells [.s nm]))(BJ:k<O.N):VF Ε 247 ([.agg (bH x)]++[.p k 0]) O (aH λm O'=>m=mb (x.1==nm)/\O.Ge O'):=by
 obtain⟨x1,x2⟩:=x;unfold bH;simp only[agb,af_];refine ω 8 [.tmp 3] func247 ?_;refine κ kT ?_;refine VC.bx ?_;rintro O1 ⟨aK,eS,dd⟩;have cK:=(aK.hp k BJ).trans hk;refine ι (aE kT eS cK ?_);exact aK
def ak8(L:List (Bs×Bs))(tk:Tok)(nm:Bs)(O:VH)(hn:Ζ L<=1000000):VF Ε 224 [.l (Ζ L) (L.flatMap bH) tk,.s nm] O (aH λm O'=>m=mi (idxFrom (λx=>x.1==nm) 0 L)/\O.Ge O'):=by
 refine ω 8 [.tmp 4] func224 ?_;refine κ kT ?_;refine VC.bx ?_;rintro O1 ⟨aK,eS,dd⟩;refine κ kT ?_;refine τ (XB L tk 247 [.p O.N 0] (λx=>x.1==nm) O1 (by kernel_rfl) (λq _ O' Ex=>ak7 q _ nm O' (Ex.at eS) (by have:=Ex.N;omega)) hn) ?_;rintro _ O2 ⟨rfl,aC⟩;refine ae kT ?_;refine ν kT ?_;exact aK.trans aC
def LK{α :Type}(p: α ->Bool):∀(L:List α)(i:Nat),(∀x∈L,p x=γ)->idxFrom p i L= -1
 | [],i,_=>rfl
 | x::r,i,h=>by
   rw[idxFrom,h x (by simp)];exact LK p r (i+1) λy hy=>h y (aqg _ hy)
def ahF(L:List (Bs×Bs))(tk:Tok)(nm vl:Bs)(O:VH)(hn:Ζ L<=10000)(dh:∀x∈L,x.1≠nm):VF Ε 197 [.l (Ζ L) (L.flatMap bH) tk,.s nm,.s vl] O (aH λm O'=>(∃t,m= .l (L++[(nm,vl)]).length ((L++[(nm,vl)]).flatMap bH) t)/\O.Ge O'):=by
 have ant:idxFrom (λx:Bs×Bs=>x.1==nm) 0 L= -1:=LK _ L 0 λx hx=>by rw[beq_eq_false_iff_ne];exact dh x hx
 refine ω 28 [.tmp 6] func197 ?_;refine κ kT ?_;refine κ kT ?_;refine τ (EF L tk O) ?_;rintro _ O2 ⟨t2,rfl,cH,aC⟩;refine ae kT ?_;refine κ kT ?_;refine τ (ak8 L t2 nm O2 (by omega)) ?_;rintro _ O3 ⟨rfl,aJ⟩;rw[ant];have kM:=cH.ge aJ;refine ae kT ?_;obtain⟨mE,ik,ns⟩:=iH (n:=Ζ L) (cs:=L.flatMap bH) (ds:=[.s nm,.s vl]) (es:=bH (nm,vl)) Nh FG.1.1 kM (bk gM L) rfl rfl (by decide) (by omega) (by simp only[maxLen];omega) (iI L) (by simp only[bH,wu]);refine κ kT ?_;refine aqM ik ns ?_;refine ae kT ?_;refine ν kT ?_;refine⟨⟨.own O3.N 2,by rw[Ti,ap6];rfl⟩,cy.eR (aC.trans aJ) kM (cy.after kM)⟩
def XU(L M:List (Bs×Bs))(tk tM:Tok)(O:VH)(hn:Ζ L+Ζ M<=10000)(dh:∀x∈L,∀y∈M,x.1≠y.1)(hM:M.Pairwise λx y=>x.1≠y.1):VF Ε 163 [.l (Ζ L) (L.flatMap bH) tk,.l (Ζ M) (M.flatMap bH) tM] O (aH λm O'=>(∃t,m= .l (L++M).length ((L++M).flatMap bH) t)/\O.Ge O'):=by
 have hpm:=bk gM M;refine ω 24 [.tmp 4] func163 ?_;refine κ kT ?_;refine κ kT ?_;refine τ (EF L tk O) ?_;rintro _ O2 ⟨t2,rfl,cH,aC⟩;refine ae kT ?_;refine VC.join aa [5] (λt:Tok=>[.l (L++M).length ((L++M).flatMap bH) t]) (λt O'=>O.Ge O') ?_ ?_;rotate_left;intro t O9 bI;refine ae kT ?_;exact⟨⟨t,rfl⟩,bI⟩;refine κ kT ?_;refine χ ?_;refine Θ [5,12] [10,11] (λx:Nat×List (Bs×Bs)×Tok=>[.l (Ζ x.2.1) (x.2.1.flatMap bH) x.2.2,mi x.1]) (λx O'=>O.Ge O'/\x.1<=(Ζ M)/\x.2.1=L++M.take x.1) (λx=>(Ζ M) - x.1) ((0,L,t2)) ?_ ?_;exact⟨aC,alO _,by simp⟩;rintro⟨j,LM,t⟩ O3 ⟨aJ,hj,NN⟩;dsimp only at hj NN ⊢;by_cases aM:j<Ζ M;rotate_left
 ·obtain rfl:j=Ζ M:=by omega
  rw[alR]at NN;subst NN;refine ν kT ?_;exact aB.mk t aJ
 have bG:=c9 gM M j aM;have hY:L++M.take (j+1)=(L++M.take j)++[M[j]]:=by rw[dU _ _ aM,aqc]
 have hnw:∀x∈L++M.take j,x.1≠M[j].1:=λx hx=>by
  rcases alP.1 hx with hx | hx;exact dh x hx _ (ap5 aM);obtain⟨i,hi,rfl⟩:=akd.1 hx;rw[ake]at hi;rw[aqe];exact(ap3.1 hM) i j (by omega) aM (by omega)
 have hlen:(L++M.take j).length<=10000:=by rw[Ti,ake];omega
 rw[<-NN]at hY hnw hlen;generalize M[j]=y at*;obtain⟨yn,yv⟩:=y;simp only[bH]at bG;have cA:=jSx j;refine κ kT ?_;refine κ kT ?_;refine Γ (χ ?_);refine ξ kT bG ?_;refine VC.al ?_;rintro O4 ⟨aT,nD,fT⟩;refine ο kT nD ?_;refine τ (ahF LM t yn yv O4 (by omega) hnw) ?_;rintro _ O5 ⟨⟨t5,rfl⟩,bO⟩;refine ae kT ?_;refine ο kT cA ?_;exact az.N (j+1,LM++[(yn,yv)],t5) ⟨(aJ.trans aT).trans bO,aM,hY.symm⟩
def cO:=Ca kT<|Ca mr<|Ca T86<|Ca aiO<|Ca Bb<|Ca Da<|Ca HX<|Ca Qq T4
def p9.ge{L:List (Gv×Bs×Option Pm)}(h:p9 O k L E V ke kv ce cv r a)(g:O.Ge O'):p9 O' k L E V ke kv ce cv r a:=
 ⟨h.st.ge g,h.len,λi x t o hi=>by obtain⟨q,c,h1,h2,h3⟩:=h.NK i x t o hi;exact⟨q,c,h1,Th h2 g.N,(g.hp _ h2).trans h3⟩,h.NL,h.ver.ge g⟩
structure PmC(p:Pm):Prop where
 ok:ad7 p
 hp:p.hp=γ
 fF:∀d∈p.fF,FY d
 ft:∀d∈p.ft,FY d
 props:p.props.Pairwise λx y=>x.1≠y.1
def aeh(p:Pm)(O:VH)(hc:PmC p):VF Ε 162 [.agg (iR p),.agg gB] O (aH λm O'=>m= .agg (iR p)/\O.Ge O'):=by
 refine VF.fg ?_;obtain⟨dw,qs,ajb,aei,XV⟩:=hc;obtain⟨k1,k2,k3,k4,k5⟩:=dw;obtain⟨b,⟨pg,pa,pv⟩,g,a,v,pk,P,M,D⟩:=p;dsimp only at qs k1 k2 k3 k4 k5 ajb aei XV;subst qs;simp only[iR,bB];refine ω 48 [.cell 4 86] func162 ?_;refine κ cO ?_;refine VC.gen ?_;intro O1 e1;obtain⟨aK,dd,cJ,cC,fK⟩:=mQ _ _ _ e1;clear e1;refine ξ cO cJ ?_;refine VC.al ?_;rintro O2 ⟨aC,bY,fc⟩;have fy:=aC.at cJ;have cG:=aC.at cC;have jm:=aC.at fK;have gy:=aK.trans aC;clear aK aC cJ cC fK;refine ξ cO bY ?_;refine ξ cO bY ?_;refine θ (aE cO fy cG ?_);refine τ (XU [] P .nil .au O2 (by simp;omega) (by simp) XV) ?_;rintro _ O3 ⟨⟨t3,rfl⟩,aJ⟩;rw[af_];have kY:=aJ.at fy;have cN:=aJ.at cG;have fw:=aJ.at jm;have en:=aJ.at bY;have ij:=aJ.N;refine ao cO en ?_;refine VC.gen ?_;intro O4 e4;have gE:∀i,i≠O1.N->O4.hp i=O3.hp i:=λi hi=>by rw[e4];exact π _ _ hi
 have gd:=(gE _ (by omega)).trans kY;have dy:=(gE _ (by omega)).trans cN;have fP:=(gE _ (by omega)).trans fw;have nD:O4.hp O1.N=φ (.cells [.v (.bool γ),.s pg,.s pa,.s pv,.s g,.s a,.s v,.s pk,.l (Ζ P) (P.flatMap bH) t3,.l (Ζ M) (M.flatMap aX) .au,.l (Ζ D) (D.flatMap aX) .au]):=by rw[e4];exact υ _ _ _
 have fT:O4.N=O3.N:=by rw[e4];rfl
 have iS:O.Ge O4:=by rw[e4];exact(gy.trans aJ).set (by omega) _
 clear e4 gE kY cN fw en fy cG jm bY;refine Γ ?_;refine VC.Dq [11,12,13] (O.N) (O.N+1) (gd) (dy) ?_ (hne:=(by omega));intro X1 X2;refine ρ 0 cO ?_;refine aqK (m:=.l (Ζ M) (M.flatMap aX) .au) 1 (λ_ h=>h.1) (λ_ h=>h.1) ?_ ?_;exact ff cO;simp only[ak];refine ρ 2 cO ?_;refine aqK (m:=.l 0 [] .nil) 3 (λ_ h=>h.2) (λ_ h=>h.2) ?_ ?_;exact ff cO;simp only[ak];refine ρ 5 cO ?_;refine aqK (m:=.l (Ζ D) (D.flatMap aX) .au) 6 (λ_ h=>h.1) (λ_ h=>h.1) ?_ ?_;exact ff cO;simp only[ak];refine ρ 7 cO ?_;refine aqK (m:=.l 0 [] .nil) 8 (λ_ h=>h.2) (λ_ h=>h.2) ?_ ?_;exact ff cO;simp only[ak];have hJ:QW O.N (O.N+1) X1 X2 ((O4.set O.N (.obj X1)).set (O.N+1) (.obj X2)):=⟨Δ (υ _ _ _),υ _ _ _⟩;have gO:=(π (O4.set O.N (.obj X1)) (.obj X2) (by omega:O1.N≠O.N+1)).trans ((π O4 (.obj X1) (by omega:O1.N≠O.N)).trans nD);have gD:=(π (O4.set O.N (.obj X1)) (.obj X2) (by omega:O.N+2≠O.N+1)).trans ((π O4 (.obj X1) (by omega:O.N+2≠O.N)).trans fP);have eJ:((O4.set O.N (.obj X1)).set (O.N+1) (.obj X2)).N=O4.N:=rfl;have bO:O.Ge ((O4.set O.N (.obj X1)).set (O.N+1) (.obj X2)):=(iS.set (by omega) _).set (by omega) _;generalize (O4.set O.N (.obj X1)).set (O.N+1) (.obj X2)=O5 at*;refine ab.call (i:=4) (LI M .au .nil O5 k2 ajb) ?_;rintro _ O6 ⟨rfl,gN⟩;simp only[ak];refine⟨⟨gN.at hJ.1,gN.at hJ.2⟩,?_⟩;refine ρ 10 @cO ?_;refine ab.call (i:=9) (LI D .au .nil O6 k3 aei) ?_;rintro _ O7 ⟨rfl,fG⟩;simp only[ak];have rb:=gN.trans fG;refine⟨⟨rb.at hJ.1,rb.at hJ.2⟩,?_⟩;have xq:=rb.at gO;have hc7:=rb.at gD;refine ab.wB [(11,.one),(12,.bh),(13,.one)] ?_ (hne:=(by omega));have vv:=(π (O7.set O.N (.cells [.v (.bool γ),.s pg,.s pa,.s pv,.s g,.s a,.s v,.s pk,.l (Ζ P) (P.flatMap bH) .au,.l (Ζ M) (M.flatMap aX) .au,.l (Ζ D) (D.flatMap aX) .au])) (.cells gB) (by omega:O1.N≠O.N+1)).trans ((π O7 (.cells [.v (.bool γ),.s pg,.s pa,.s pv,.s g,.s a,.s v,.s pk,.l (Ζ P) (P.flatMap bH) .au,.l (Ζ M) (M.flatMap aX) .au,.l (Ζ D) (D.flatMap aX) .au]) (by omega:O1.N≠O.N)).trans xq);refine ao @cO @xq ?_;refine VC.gen ?_;intro O8 e8;have iC:O.Ge O8:=by rw[e8];exact((((bO.trans rb).set (by omega) _).set (by omega) _).set (by omega) _).set (by omega) _
 have J9:O8.hp O1.N=φ (.cells [.v (.bool γ),.s pg,.s pa,.s pv,.s g,.s a,.s v,.s pk,.l (Ζ P) (P.flatMap bH) t3,.l (Ζ M) (M.flatMap aX) .au,.l (Ζ D) (D.flatMap aX) .au]):=by rw[e8];exact υ _ _ _
 have B_:O8.hp (O.N+2)=φ (.cells gB):=by rw[e8,VH.sx,VH.sx,VH.sx,VH.sx];exact hc7
 clear e8;have LN:O.N+1+1=O.N+2:=by omega
 rw[LN];refine θ (aE cO J9 B_ ?_);refine ν cO ?_
 first
  | exact iC.set (by omega) _
  | exact⟨by simp only[wu,iI,nq],iC.set (by omega) _⟩
def ahG{L:List (Gv×Bs×Option Pm)}(h:p9 O k L E V ke kv ce cv r a)(hi:L[i]?=φ (g,t,Β))(hg:wH g)(ht:Ζ t<=65536)(hb:jF t= .ok n)(hr:rJ n= .ok p)(hc:PmC p):
  VF Ε 161 [.p k 0,.agg (cD g)] O (aH λm O'=>(∃t1 t2,m= .tuple [.l 1 (iR p) t1,.l 1 (cD g) t2,.agg (pf jd)])/\∃q,jC (fL g) E=φ (.p q 0)/\q<O.N/\(∃r' a',O'.hp k=φ (.cells [.map ke,.map kv,mi r',mi a']))/\O'.hp q=φ (.cells (kB t 1 0 p jd))/\ec O k q O'):=by
 obtain⟨q,c,fa,qy,hq,_⟩:=h.some hi;have uK:=λ(O':VH)(g':O.Ge O')=>ak3 (h.st.ge g') g hg fa ((g'.hp q qy).trans hq) (Th qy g'.N) ht hb hr hc.ok
 have gW:=h.st.lt.1;have qs:=hc.hp;have apr:=hc.ok;clear hi hq h hc hb hr;have RX:=aal p;obtain⟨g1,g2,g3⟩:=g;obtain⟨b,⟨pg,pa,pv⟩,pG,pA,pV,pk,P,M,D⟩:=p;dsimp only at qs;subst qs;simp only[cD,iR,pf,jd,bB,aq]at uK RX ⊢;refine ω 51 [.tmp 4,.tmp 5,.cell 6 110] func161 ?_;refine κ cO ?_;refine VC.gen ?_;intro O1 e1;obtain⟨aK,dd,cJ,cC⟩:=iY _ _ e1;clear e1;refine κ cO ?_;refine κ cO ?_;refine χ ?_;refine Θ [7,8] [0,3,6] (λ_:Unit=>[.l 0 [] .nil,.l 0 [] .nil]) (λ_ O'=>O'=O1) (λ_=>0) (()) ?_ ?_;rfl;rintro _ O2 e2;rw[e2];clear e2 O2;refine χ ?_;refine ξ cO cJ ?_;refine τ (uK O1 aK) ?_;rintro _ O2 ⟨rfl,⟨r',a',bY⟩,wM,dB⟩;have fc:=dB.N;have fy:=(dB.hp _ (by omega) (by omega) (by omega)).trans cJ;have cG:=(dB.hp _ (by omega) (by omega) (by omega)).trans cC;have RY:=(ec.of (k:=k) (q:=q) aK).trans dB;refine ae cO ?_;refine VC.gen ?_;intro O3 e3;have aJ:O2.Ge O3:=by rw[e3];exact((((VH.Ge.refl O2).push _).push _).set (YI _) _).set (aoT _) _
 have rK:O3.hp O2.N=φ (.cells [.v (.bool γ),.s pg,.s pa,.s pv,.s pG,.s pA,.s pV,.s pk,.l (Ζ P) (P.flatMap bH) .au,.l (Ζ M) (M.flatMap aX) .au,.l (Ζ D) (D.flatMap aX) .au]):=by rw[e3,VH.sx];exact υ _ _ _
 have kD:O3.hp (O2.N+1)=φ (.cells [.v (Ι Κ 0),.s [],.s [],.s [],.v (Ι Κ 0),.v (Ι Κ 0),.v (Ι Κ 0),.s []]):=by rw[e3];exact υ _ _ _
 have ij:O3.N=O2.N+2:=by rw[e3];rfl
 clear e3;have kY:=aJ.at fy;have cN:=aJ.at cG;have en:=aJ.at bY;have qF:=aJ.at wM;have dF:=RY.ge aJ;clear fy cG bY wM RY dB cJ cC;refine ξ cO kD ?_;refine VL.HK aa (bb:=γ) (b:=Α) (by simp) (by simp[kK]) (.inr ⟨rfl,rfl⟩) (by kernel_rfl) (by kernel_rfl) rfl rfl rfl rfl ?_;refine ae cO ?_;refine Γ ?_;refine VC.Dq [] (O2.N) (O.N) (rK) (kY) ?_ (hne:=(by omega));intro X1 X2;refine ρ 0 cO ?_;refine aqK (m:=.agg [.v (.bool γ),.s pg,.s pa,.s pv,.s pG,.s pA,.s pV,.s pk,.l (Ζ P) (P.flatMap bH) .au,.l (Ζ M) (M.flatMap aX) .au,.l (Ζ D) (D.flatMap aX) .au]) 1 (λ_ h=>h.1) (λ_ h=>h.1) ?_ ?_;exact ff cO;simp only[ak];refine ρ 4 cO ?_;refine aqK (m:=.agg [.s g1,.s g2,.s g3]) 5 (λ_ h=>h.2) (λ_ h=>h.2) ?_ ?_;exact ff cO;simp only[ak];have q_:True:=trivial;have hJ:QW O2.N O.N X1 X2 ((O3.set O2.N (.obj X1)).set O.N (.obj X2)):=⟨Δ (υ _ _ _),υ _ _ _⟩;have eJ:((O3.set O2.N (.obj X1)).set O.N (.obj X2)).N=O3.N:=rfl;have dS:∀i,i≠O2.N->i≠O.N->((O3.set O2.N (.obj X1)).set O.N (.obj X2)).hp i=O3.hp i:=λi h1 h2=>by rw[π _ _ h2,π _ _ h1]
 generalize (O3.set O2.N (.obj X1)).set O.N (.obj X2)=O5 at*;have kM:=aP (tk:=.nil) (tk':=.full) (B:=0) (n:=0) (k:=1) (cs:=[]) (ds:=[.v (.bool γ),.s pg,.s pa,.s pv,.s pG,.s pA,.s pV,.s pk,.l (Ζ P) (P.flatMap bH) .au,.l (Ζ M) (M.flatMap aX) .au,.l (Ζ D) (D.flatMap aX) .au]) aiO T86.1.1 (O:=O5) trivial rfl rfl rfl (by decide) (by decide) (by decide) (by decide);have aej:O5.Ge (O5.after .nil):=cy.Er (tk:=.nil) (sz:=11) trivial (cy.after (sz:=11) (B:=0) trivial);have NO:QW O2.N O.N X1 X2 (O5.after .nil):=⟨aej.at hJ.1,aej.at hJ.2⟩;have lN:=aP (tk:=.nil) (tk':=.full) (B:=0) (n:=0) (k:=1) (cs:=[]) (ds:=[.s g1,.s g2,.s g3]) Bb Da.1.1 (O:=O5.after .nil) trivial rfl rfl rfl (by decide) (by decide) (by decide) (by decide);have anu:(O5.after .nil).Ge ((O5.after .nil).after .nil):=cy.Er (tk:=.nil) (sz:=3) trivial (cy.after (sz:=3) (B:=0) trivial);have rb:=aej.trans anu;have Gs:QW O2.N O.N X1 X2 ((O5.after .nil).after .nil):=⟨rb.at hJ.1,rb.at hJ.2⟩;rw[alQ,af_]at kM lN;refine aqJ (i:=2) (j:=6) ?_ ?_
 ·refine aI.o1 ?_;refine ae cO ?_;refine⟨hJ,?_⟩;refine aqJ (i:=3) (j:=6) ?_ ?_
  ·refine aI.o1 ?_;rw[dP];refine ao cO kM ?_;refine⟨NO,?_⟩;refine ab.op (i:=6) ?_;refine ae cO ?_;refine⟨NO,?_⟩;refine ab.op (i:=7) ?_;rw[dP];refine ao cO lN ?_;refine⟨Gs,?_⟩;refine ab.op (i:=8) ?_;refine ae cO ?_;refine⟨Gs,?_⟩;refine ab.op (i:=9) ?_;refine ae cO ?_;refine⟨Gs,?_⟩;refine ab.wB [] ?_ (hne:=(by omega));refine ae cO ?_;refine VC.gen ?_;intro O8 e8
   have rO:∀i,i<O5.N->i≠O2.N->i≠O.N->O8.hp i=O5.hp i:=λi h1 h2 h3=>by
    rw[e8,π _ _ h3,π _ _ h2];exact rb.hp i h1
   have DK:O8.hp O2.N=φ (.cells [.v (.bool γ),.s pg,.s pa,.s pv,.s pG,.s pA,.s pV,.s pk,.l (Ζ P) (P.flatMap bH) .au,.l (Ζ M) (M.flatMap aX) .au,.l (Ζ D) (D.flatMap aX) .au]):=by rw[e8,VH.sx];exact υ _ _ _
   have Es:O3.N<=O8.N:=by
    have h1:=rb.N;(have h2:O8.N=((O5.after .nil).after .nil).N:=by rw[e8];rfl);omega
   clear e8;(have r3:∀i,i<O3.N->i≠O2.N->i≠O.N->O8.hp i=O3.hp i:=λi h1 h2 h3=>(rO i (by omega) h2 h3).trans (dS i h2 h3));have uC:=(r3 (O.N+1) (by omega) (by omega) (by omega)).trans cN;have vv:=(r3 k (by omega) (by omega) (by omega)).trans en;have RZ:=(r3 q (by omega) (by omega) (by omega)).trans qF;have tJ:ec O k q O8:=⟨by omega,λi h1 h2 h3=>(r3 i (by omega) (by omega) (by omega)).trans (dF.hp i h1 h2 h3)⟩;refine θ (aE cO DK uC ?_);exact⟨⟨_,_,rfl⟩,q,fa,qy,⟨r',a',vv⟩,(by first | exact RZ | exact Δ RZ),⟨tJ.N,λi h1 h2 h3=>Δ (tJ.hp i h1 h2 h3)⟩⟩
  ·refine aI.o1 ?_;refine ae cO ?_;refine⟨hJ,?_⟩;refine ab.op (i:=3) ?_;rw[dP];refine ao cO kM ?_;refine⟨NO,?_⟩;refine ab.op (i:=7) ?_;rw[dP];refine ao cO lN ?_;refine⟨Gs,?_⟩;refine ab.op (i:=8) ?_;refine ae cO ?_;refine⟨Gs,?_⟩;refine ab.op (i:=9) ?_;refine ae cO ?_;refine⟨Gs,?_⟩;refine ab.wB [] ?_ (hne:=(by omega));refine ae cO ?_;refine VC.gen ?_;intro O8 e8
   have rO:∀i,i<O5.N->i≠O2.N->i≠O.N->O8.hp i=O5.hp i:=λi h1 h2 h3=>by
    rw[e8,π _ _ h3,π _ _ h2];exact rb.hp i h1
   have DK:O8.hp O2.N=φ (.cells [.v (.bool γ),.s pg,.s pa,.s pv,.s pG,.s pA,.s pV,.s pk,.l (Ζ P) (P.flatMap bH) .au,.l (Ζ M) (M.flatMap aX) .au,.l (Ζ D) (D.flatMap aX) .au]):=by rw[e8,VH.sx];exact υ _ _ _
   have Es:O3.N<=O8.N:=by
    have h1:=rb.N;(have h2:O8.N=((O5.after .nil).after .nil).N:=by rw[e8];rfl);omega
   clear e8;(have r3:∀i,i<O3.N->i≠O2.N->i≠O.N->O8.hp i=O3.hp i:=λi h1 h2 h3=>(rO i (by omega) h2 h3).trans (dS i h2 h3));have uC:=(r3 (O.N+1) (by omega) (by omega) (by omega)).trans cN;have vv:=(r3 k (by omega) (by omega) (by omega)).trans en;have RZ:=(r3 q (by omega) (by omega) (by omega)).trans qF;have tJ:ec O k q O8:=⟨by omega,λi h1 h2 h3=>(r3 i (by omega) (by omega) (by omega)).trans (dF.hp i h1 h2 h3)⟩;refine θ (aE cO DK uC ?_);exact⟨⟨_,_,rfl⟩,q,fa,qy,⟨r',a',vv⟩,(by first | exact RZ | exact Δ RZ),⟨tJ.N,λi h1 h2 h3=>Δ (tJ.hp i h1 h2 h3)⟩⟩
 ·refine aI.o1 ?_;refine ae cO ?_;refine⟨hJ,?_⟩;refine ab.op (i:=2) ?_;refine ae cO ?_;refine⟨hJ,?_⟩;refine ab.op (i:=3) ?_;rw[dP];refine ao cO kM ?_;refine⟨NO,?_⟩;refine ab.op (i:=7) ?_;rw[dP];refine ao cO lN ?_;refine⟨Gs,?_⟩;refine ab.op (i:=8) ?_;refine ae cO ?_;refine⟨Gs,?_⟩;refine ab.op (i:=9) ?_;refine ae cO ?_;refine⟨Gs,?_⟩;refine ab.wB [] ?_ (hne:=(by omega));refine ae cO ?_;refine VC.gen ?_;intro O8 e8
  have rO:∀i,i<O5.N->i≠O2.N->i≠O.N->O8.hp i=O5.hp i:=λi h1 h2 h3=>by
   rw[e8,π _ _ h3,π _ _ h2];exact rb.hp i h1
  have DK:O8.hp O2.N=φ (.cells [.v (.bool γ),.s pg,.s pa,.s pv,.s pG,.s pA,.s pV,.s pk,.l (Ζ P) (P.flatMap bH) .au,.l (Ζ M) (M.flatMap aX) .au,.l (Ζ D) (D.flatMap aX) .au]):=by rw[e8,VH.sx];exact υ _ _ _
  have Es:O3.N<=O8.N:=by
   have h1:=rb.N;(have h2:O8.N=((O5.after .nil).after .nil).N:=by rw[e8];rfl);omega
  clear e8;(have r3:∀i,i<O3.N->i≠O2.N->i≠O.N->O8.hp i=O3.hp i:=λi h1 h2 h3=>(rO i (by omega) h2 h3).trans (dS i h2 h3));have uC:=(r3 (O.N+1) (by omega) (by omega) (by omega)).trans cN;have vv:=(r3 k (by omega) (by omega) (by omega)).trans en;have RZ:=(r3 q (by omega) (by omega) (by omega)).trans qF;have tJ:ec O k q O8:=⟨by omega,λi h1 h2 h3=>(r3 i (by omega) (by omega) (by omega)).trans (dF.hp i h1 h2 h3)⟩;refine θ (aE cO DK uC ?_);exact⟨⟨_,_,rfl⟩,q,fa,qy,⟨r',a',vv⟩,(by first | exact RZ | exact Δ RZ),⟨tJ.N,λi h1 h2 h3=>Δ (tJ.hp i h1 h2 h3)⟩⟩
def aaS{L:List (Gv×Bs×Option Pm)}(h:p9 O k L E V ke kv ce cv r a)(hi:L[i]?=φ (g,t,Β))(hg:wH g)(ht:Ζ t<=65536)(hb:jF t= .ok n)(hr:rJ n= .ok p)(hc:PmC p):
  VF Ε 131 [.p k 0,.agg (cD g)] O (aH λm O'=>m= .tuple [.agg (iR p),.agg (pf jd)]/\∃q,jC (fL g) E=φ (.p q 0)/\q<O.N/\(∃r' a',O'.hp k=φ (.cells [.map ke,.map kv,mi r',mi a']))/\O'.hp q=φ (.cells (kB t 1 0 p jd))/\ec O k q O'):=by
 have hsq:=h.some hi;obtain⟨q0,c,rZ,ajc,Gt,hE0⟩:=hsq;have hw:=λ(O':VH)(g':O.Ge O')=>ahG (O:=O') (k:=k) (L:=L) (E:=E) (V:=V) (h.ge g') hi hg ht hb hr hc
 have zc:=λO'=>aeh p O' hc
 have gW:=h.st.lt.1;have qs:=hc.hp;clear hc hr hb hi h Gt hE0;obtain⟨g1,g2,g3⟩:=g;obtain⟨b,⟨pg,pa,pv⟩,pG,pA,pV,pk,P,M,D⟩:=p;dsimp only at qs;subst qs;simp only[cD,iR,pf,jd,aq,bB]at hw zc ⊢;refine ω 38 [.cell 4 86,.cell 5 110] func131 ?_;refine κ cO ?_;refine VC.gen ?_;intro O1 e1;obtain⟨aK,dd,cJ,cC,fK⟩:=mQ _ _ _ e1;clear e1;refine ξ cO cJ ?_;refine τ (hw O1 aK) ?_;rintro _ O2 ⟨⟨t1,t2,rfl⟩,q,fa,aps,⟨r',a',bY⟩,wM,dB⟩;obtain rfl:q=q0:=by rw[fa]at rZ;injection rZ with e;injection e
 have fc:=dB.N;have fy:=(dB.hp _ (by omega) (by omega) (by omega)).trans cJ;have cG:=(dB.hp _ (by omega) (by omega) (by omega)).trans cC;have jm:=(dB.hp _ (by omega) (by omega) (by omega)).trans fK;have RY:=(ec.of (k:=k) (q:=q) aK).trans dB;refine ae cO ?_;refine VC.al ?_;rintro O3 ⟨aJ,kD,ij⟩;have cN:=aJ.at cG;have fw:=aJ.at jm;have en:=aJ.at bY;have qF:=aJ.at wM;have dF:=RY.ge aJ;clear fy cG jm bY wM RY dB cJ cC fK hw;refine ξ cO kD ?_;refine VL.HK aa (bb:=γ) (b:=Α) (by simp) (by simp[kK]) (.inr ⟨rfl,rfl⟩) (by kernel_rfl) (by kernel_rfl) rfl rfl rfl rfl ?_;refine ae cO ?_;refine κ cO ?_;refine VC.bx ?_;rintro O4 ⟨aT,lz,fT⟩;have dy:=aT.at cN;have fP:=aT.at fw;have nD:=aT.at en;have yY:=aT.at qF;have eK:=dF.ge aT;clear cN fw en qF dF;refine Ξ [4,5,9] (λ_:Unit=>[.p (O.N+1) 0,.p (O.N+2) 0,.p O3.N 0]) (λ_ O'=>∃O5,O4.Ge O5/\O'=O5.set O3.N (.cells [.v (.bool γ),.s pg,.s pa,.s pv,.s pG,.s pA,.s pV,.s pk,.l (Ζ P) (P.flatMap bH) .au,.l (Ζ M) (M.flatMap aX) .au,.l (Ζ D) (D.flatMap aX) .au])) ?_ ?_
 ·refine κ cO ?_;refine χ ?_;refine Θ [10] [4,5,6,9] (λx:Bool=>[mi (bif x then -1 else 0)]) (λx O'=>(x=γ->O'=O4)/\(x=Α->∃O5,O4.Ge O5/\O'=O5.set O3.N (.cells [.v (.bool γ),.s pg,.s pa,.s pv,.s pG,.s pA,.s pV,.s pk,.l (Ζ P) (P.flatMap bH) .au,.l (Ζ M) (M.flatMap aX) .au,.l (Ζ D) (D.flatMap aX) .au]))) (λx=>bif x then 0 else 1) (γ) ?_ ?_;exact⟨λ_=>rfl,λe=>by cases e⟩
  rintro x O5 ⟨hf,ht'⟩;cases x with
  | true=>
    obtain⟨O6,gN,e6⟩:=ht' rfl;simp only[cond_true];refine ν cO ?_;exact aB.mk () ⟨O6,gN,e6⟩
  | false=>
    have e5:=hf rfl;rw[e5];clear e5 hf ht' O5;simp only[cond_false];refine κ cO ?_;refine Γ (χ ?_);refine VC.sU [] (λ_=>True) (trivial) ?_;refine ρ 0 cO ?_;refine ρ 1 cO ?_;refine ρ 2 cO ?_;refine ρ 3 cO ?_;refine ab.op (i:=4) ?_;refine ao cO lz ?_;refine ab.call (i:=5) (zc O4) ?_;rintro _ O5 ⟨rfl,bO⟩;simp only[ak];refine⟨trivial,?_⟩;have mA:=bO.at lz;refine ab.op (i:=6) ?_;refine ao cO mA ?_;refine ab.bW [] ?_;refine ae cO ?_;refine ν cO ?_;exact az.N Α ⟨(λe=>by cases e),λ_=>⟨O5,bO,rfl⟩⟩ (hm:=(by decide))
 rintro _ O9 ⟨O5,bO,e9⟩;have eJ:=bO.N;have uL:∀i,i≠O3.N->O9.hp i=O5.hp i:=λi h1=>by rw[e9];exact π _ _ h1
 have hx9:O9.hp O3.N=φ (.cells [.v (.bool γ),.s pg,.s pa,.s pv,.s pG,.s pA,.s pV,.s pk,.l (Ζ P) (P.flatMap bH) .au,.l (Ζ M) (M.flatMap aX) .au,.l (Ζ D) (D.flatMap aX) .au]):=by rw[e9];exact υ _ _ _
 have b9:=(uL _ (by omega)).trans (bO.at dy);have B_:=(uL _ (by omega)).trans (bO.at fP);have J9:=(uL k (by omega)).trans (bO.at nD);have hq9:=(uL q (by omega)).trans (bO.at yY);have AL:O9.N=O5.N:=by rw[e9];rfl
 have kE:ec O k q O9:=⟨by omega,λi h1 h2 h3=>(uL i (by omega)).trans (bO.at (eK.hp i h1 h2 h3))⟩;clear e9 uL;have LN:O.N+1+1=O.N+2:=by omega
 refine θ (cB cO hx9 b9 B_ ?_);refine ν cO ?_;exact⟨q,fa,ajc,⟨r',a',J9⟩,(by first | exact hq9 | exact Δ (Δ hq9)),⟨kE.N,λi h1 h2 h3=>Δ (Δ (kE.hp i h1 h2 h3))⟩⟩
def gC:=Ca cO<|Ca eE<|Ca Qr<|Ca w7<|Ca amI<|Ca aiN<|Ca amJ<|Ca aiP<|Ca Lb<|Ca t_ amP
def uM(s:Bs):Prop:=Lib.index s [36,123]<0
def ahH(s:Bs)(O:VH)(h:uM s)(hs:Ζ s<=1000000):VF Ε 227 [.s s] O (aH λm O'=>m= .tuple [.s s,.s [],.s [],mb γ]/\O'=O):=by
 have h':Lib.index s [36,123]<0:=h;refine ω 36 [.tmp 2,.tmp 3,.tmp 4,.tmp 5] func227 ?_;refine κ gC ?_;refine κ gC ?_;refine Ω (Q2 s [36,123] O (by omega)) ?_;generalize Lib.index s [36,123]=x at*;have hd:decide (x<0)=Α:=decide_eq_true h';refine ae gC ?_;refine ξ gC hd ?_;trivial
def ak9{q:ϑ}(h:iG O B b q s):VF Ε 226 [.p b 0] O (aH λm O'=>m=mi (Ζ s)/\O'=O):=by
 obtain⟨p,buf,h1,_,mS,_,_⟩:=h.cell;refine ω 8 [.tmp 2] func226 ?_;rcases mS with⟨h0,_,rfl | rfl⟩ | ⟨k,c,rfl,_⟩;rw[h0];refine κ gC ?_;refine ο gC h1 ?_;trivial;rw[h0];refine κ gC ?_;refine ο gC h1 ?_;trivial;refine κ gC ?_;refine ο gC h1 ?_;trivial
def aek{nb:Nat}{q:ϑ}(h:iG O B b q s)(l:Bs)(hl:Ζ s+Ζ l<=4096):VF Ε 225 ([.s l]++[.p b 0,.p nb 0]) O (aH λm O'=>∃q',iG O' B b q' (s++l)/\gK O b q O' q'):=by
 simp only[agb,af_];refine ω 11 [] func225 ?_;refine κ gC ?_;refine τ (ct l h) ?_;rintro _ O2 ⟨rfl,q2,cG,dB⟩;refine ae gC ?_;refine κ gC ?_;refine Ω (ak9 cG) ?_;have QJ:(s++l).length<=4096:=by rw[Ti];exact hl
 refine ae gC ?_;refine ν gC ?_;exact⟨q2,cG,dB⟩
def R0(wb:Nat)(s nm:Bs)(O:VH)(h:uM s)(hs:Ζ s<=4096):VF Ε 199 [.p wb 0,.s s,.s nm] O (aH λm O'=>m= .s s/\O.Ge O'):=by
 refine ω 53 [.tmp 6] func199 ?_;refine κ gC ?_;refine VC.bx ?_;rintro O1 ⟨aK,eS,dd⟩;refine κ gC ?_;have oE:=iG.fresh O1 (YI O1.N);have oC:O1.Ge ((O1.push (.cells [.v (.pointer Β),.l 0 [] .nil])).push (.shape O1.N 155 2)):=((VH.Ge.refl O1).push _).push _;generalize ((O1.push (.cells [.v (.pointer Β),.l 0 [] .nil])).push (.shape O1.N 155 2))=O2 at*;refine κ gC ?_;refine χ ?_;refine Θ [1] [0,7,8] (λ_:Unit=>[.s s]) (λ_ O'=>O'=O2) (λ_=>0) (()) ?_ ?_;rfl;rintro _ O3 e3;rw[e3];clear e3 O3;refine χ ?_;refine κ gC ?_;refine Ω (ahH s O2 h (by omega)) ?_;refine ae gC ?_;refine κ gC ?_;refine τ (aek (nb:=O.N) oE s (by simp;omega)) ?_;rintro _ O3 ⟨q3,cN,dF⟩;rw[af_]at cN;have aJ:O1.Ge O3:=gK.Er oC dF (YI _);refine ae gC ?_;refine κ gC ?_;refine τ (sI cN) ?_;rintro _ O4 ⟨rfl,eK⟩;refine ae gC ?_;exact aK.trans (aJ.Xw eK cN.Bc)
abbrev xz:=List (Bs×Bs×Nat)
def xj(M:xz):xQ:=M.map λp=>(.s p.1,.s p.2.1,p.2.2)
def AN(k:Bs)(M:xz):Option Bs:=(M.find? (·.1==k)).map (·.2.1)
def R1(k:Bs):xz->Nat->Option (Nat×MV)
 | [],_=>Β
 | p::M,i=>if k==p.1 then φ (i,.s p.2.1)else R1 k M (i+1)
def NP(k:Bs):∀(M:xz)(i:Nat),sy .string (.s k) (xj M) i=φ (R1 k M i)
 | [],i=>rfl
 | p::M,i=>by
   show sy .string (.s k) ((.s p.1,.s p.2.1,p.2.2)::xj M) i=_;rw[sy,R1];simp only[My];cases h:k==p.1;simp[NP k M (i+1)];simp
def XW(k:Bs):∀(M:xz)(i:Nat),(R1 k M i).map (·.2)=(AN k M).map .s
 | [],i=>rfl
 | p::M,i=>by
   rw[R1];unfold AN;rw[List.find?_cons];cases h:k==p.1
   ·(have h':(p.1==k)=γ:=by rw[beq_eq_false_iff_ne]at h ⊢;exact Ne.symm h);rw[h'];simpa[AN]using XW k M (i+1)
   ·(have h':(p.1==k)=Α:=by rw[beq_iff_eq]at h ⊢;exact h.symm);rw[h'];rfl
def NQ{t kt et:TypeId}{a c' d':Nat}{y:Η}{M:xz}{k:Bs}{ok:Bool}(h:tab t=φ ⟨.map kt et,a,b',z⟩)(hk:tab kt=φ ⟨.string,c,d,y⟩)(he:tab et=φ ⟨.string,c',d',[.s []]⟩)(hb:O.hp b=φ (.map (xj M) ck)):
  i_ tab O t (.map b) (.s k) ok=φ (BT ok (.s []) ((AN k M).map .s)):=by
 unfold i_;simp only[h,hk,he,aqa,mapOf,hb,Option.bind_some,NP,AT];have:=XW k M 0;cases hf:R1 k M 0 with
 | none=>
   rw[hf]at this;rw[<-this];cases ok<;>rfl
 | some p=>
   rw[hf]at this;rw[<-this];cases ok<;>rfl
def LO{k:Bs}:∀{M:xz} {i:Nat},(∀p∈M,p.1≠k)->R1 k M i=Β
 | [],i,_=>rfl
 | p::M,i,h=>by
   (have h':(k==p.1)=γ:=by rw[beq_eq_false_iff_ne];exact Ne.symm (h p (by simp)));rw[R1,h',if_neg (by simp)];exact LO λq hq=>h q (aqg _ hq)
def ael{t kt et:TypeId}{a:Nat}{y:Η}{M:xz}{k:Bs}(h:tab t=φ ⟨.map kt et,a,b',z⟩)(hk:tab kt=φ ⟨.string,c,d,y⟩)(hb:O.hp b=φ (.map (xj M) ck))(dh:∀p∈M,p.1≠k):
  e_ tab O t (.map b) (.s k) (.s v)=φ (O.set b (.map (xj (M++[(k,v,ck)])) (ck+1))):=by
 unfold e_;simp only[h,hk,aqa,hb,NP,AT,LO dh];simp[xj]
def LP{k:Bs}{M:xz}(h:∀p∈M,p.1≠k):AN k M=Β:=by
 unfold AN;rw[List.find?_eq_none.2 (λp hp=>by simpa using h p hp)];rfl
def R3:∀{L:List (Bs×Bs)} {R:xz} {x:Bs×Bs},L.Pairwise (λx y=>x.1≠y.1)->R.map (λp=>(p.1,p.2.1))=L->x∈L->AN x.1 R=φ x.2
 | [],R,x,_,_,hx=>by simp at hx
 | y::L,[],x,_,e,_=>by simp at e
 | y::L,p::R,x,h,e,hx=>by
   rw[List.map_cons]at e;injection e with e1 e2;obtain⟨h1,h2⟩:=List.pairwise_cons.1 h;unfold AN;rw[List.find?_cons];rcases ap2.1 hx with rfl | hx
   ·(have:(p.1==x.1)=Α:=by rw[<-e1];simp);rw[this];simp only[aqa];rw[<-e1]
   ·have hne:=h1 x hx;(have:(p.1==x.1)=γ:=by rw[beq_eq_false_iff_ne];rw[<-e1]at hne;exact hne);rw[this];exact R3 h2 e2 hx
structure rP(O:VH)(tb kr kd:Nat)(L:List (Bs×Bs))(R D:xz)(cr cd:Nat)(tk:Tok)(kn:Int):Prop where
 cell:O.hp tb=φ (.cells [.l (Ζ L) (L.flatMap bH) tk,.map kr,.map kd,mi kn])
 raw:O.hp kr=φ (.map (xj R) cr)
 done:O.hp kd=φ (.map (xj D) cd)
 lt:tb<O.N/\kr<O.N/\kd<O.N
 ne:tb≠kr/\tb≠kd/\kr≠kd
def rP.ge{L:List (Bs×Bs)}{R D:xz}(h:rP O tb kr kd L R D cr cd tk kn)(g:O.Ge O'):rP O' tb kr kd L R D cr cd tk kn:=
 ⟨(g.hp _ h.lt.1).trans h.cell,(g.hp _ h.lt.2.1).trans h.raw,(g.hp _ h.lt.2.2).trans h.done,⟨Th h.lt.1 g.N,Th h.lt.2.1 g.N,Th h.lt.2.2 g.N⟩,h.ne⟩
def NR(L:List (Bs×Bs))(tk:Tok)(O:VH)(hn:Ζ L<=10000)(hL:L.Pairwise λx y=>x.1≠y.1):VF Ε 132 [.l (Ζ L) (L.flatMap bH) tk] O (aH λm O'=>m= .p (O.N+2) 0/\O.Ge O'/\∃R cr t,rP O' (O.N+2) O.N (O.N+1) L R [] cr 0 t 0/\∀x∈L,AN x.1 R=φ x.2):=by
 have dD:=bk gM L;refine ω 50 [.tmp 2] func132 ?_;have lC:Ga (lq [(0,1),(1,1),(2,1),(3,1)]) [.l 0 [] .nil,.v (.map Β),.v (.map Β),.v (Ι Κ 0)] (.map O.N) [(2,.map (O.N+1))] (φ (1,1))=φ [.l 0 [] .nil,.map O.N,.map (O.N+1),.v (Ι Κ 0)]:=rfl;refine κ gC ?_;refine ξ gC lC ?_;refine VC.gen ?_;intro O1 e1;obtain⟨aK,dd,cJ,cC,fK⟩:=mQ _ _ _ e1;clear e1;have LN:O.N+1+1=O.N+2:=by omega
 refine Ξ [3] (λ_:Unit=>[.p (O.N+2) 0]) (λ_ O'=>O.Ge O'/\∃R cr t,rP O' (O.N+2) O.N (O.N+1) L R [] cr 0 t 0/\R.map (λp=>(p.1,p.2.1))=L) ?_ ?_
 ·refine κ gC ?_;refine χ ?_;refine Θ [14] [3,12,13] (λj:Nat=>[mi j]) (λj O'=>O.Ge O'/\j<=(Ζ L)/\∃R cr t,rP O' (O.N+2) O.N (O.N+1) (L.take j) R [] cr 0 t 0/\R.map (λp=>(p.1,p.2.1))=L.take j/\App O' (O.N+3) 2 t) (λj=>(Ζ L) - j) (0) ?_ ?_;refine⟨aK,alO _,[],0,.nil,⟨?_,cJ,cC,⟨by omega,by omega,by omega⟩,by omega,by omega,by omega⟩,?_,trivial⟩;rw[List.take_zero];exact fK;rw[List.take_zero];rfl;rintro j O3 ⟨aJ,hj,R,cr,t,hT,hR,cH⟩;by_cases aM:j<Ζ L;rotate_left
  ·obtain rfl:j=Ζ L:=by omega
   rw[alR]at hT hR;refine ν gC ?_;exact aB.mk () ⟨aJ,R,cr,t,hT,hR⟩
  have bG:=c9 gM L j aM;have di:=dU L j aM
  have dh:∀p∈R,p.1≠L[j].1:=λp hp=>by
   (have hm:(p.1,p.2.1)∈L.take j:=by rw[<-hR];exact List.mem_map_of_mem (f:=λp:Bs×Bs×Nat=>(p.1,p.2.1)) hp);obtain⟨i,hi,e⟩:=akd.1 hm;rw[ake]at hi;rw[aqe]at e;have:=(ap3.1 hL) i j (by omega) aM (by omega);rw[e]at this;exact this
  (have AF:(L.take j).length=j:=by rw[ake];omega);generalize L[j]=y at*;generalize L.take j=LT at*;obtain⟨yn,yv⟩:=y;dsimp only at dh;simp only[bH]at bG;have cA:=jSx j
  have dm:=hT.lt;have hne:=hT.ne;refine κ gC ?_;refine κ gC ?_;refine Γ (χ ?_);refine ξ gC bG ?_;refine VC.al ?_;rintro O4 ⟨aT,lz,fT⟩;have qG:=hT.ge aT;have mP:=cH.ge aT;have fP:=qG.cell;have J2:=qG.raw;simp only[aq]at fP;have fa:i_ (bR Ε) O4 296 (.map O.N) (.s yn) Α=φ (BT Α (.s []) ((AN yn R).map .s)):=NQ Lb T9 T9 J2;rw[LP dh]at fa;simp only[Option.map_none,Na]at fa;refine Γ ?_;refine WC.bW (.held []) [(0,.rd),(1,.rd),(2,.rd),(3,.rd),(4,.rd),(5,.rd),(6,.rd),(7,.rd),(8,.rd),(9,.rd),(10,.rd),(11,.rd)] ?_;refine cB gC fP lz fa ?_;refine κ gC ?_;refine ν gC ?_;refine WC.bW (.held [8]) [(0,.rd),(1,.rd),(2,.rd),(3,.rd),(4,.rd),(5,.rd),(6,.rd),(7,.rd),(8,.one)] ?_;have mT:e_ (bR Ε) O4 296 (.map O.N) (.s yn) (.s yv)=φ (O4.set O.N (.map (xj (R++[(yn,yv,cr)])) (cr+1))):=ael Lb T9 J2 dh;refine cB gC fP lz mT ?_;refine VC.gen ?_;intro O5 e5;((((((((have dS:∀i,i≠O.N->O5.hp i=O4.hp i:=λi hi=>by rw[e5];exact π _ _ hi);have eJ:O5.N=O4.N:=by rw[e5];rfl);have AK:O5.hp O.N=φ (.map (xj (R++[(yn,yv,cr)])) (cr+1)):=by rw[e5];exact υ _ _ _);have bO:O.Ge O5:=by rw[e5];exact(aJ.trans aT).set (YI _) _);have gx:App O5 (O.N+3) 2 t:=mP.mv (by omega) λi hi e=>(dS i (λe2=>by subst e2;rw[J2]at e;cases e)).trans e);clear e5;have gD:=(dS _ (by omega)).trans fP;have mA:=(dS _ (by omega)).trans lz;have EE:=(dS (O.N+1) (by omega)).trans qG.done;obtain⟨mE,ik,ns⟩:=iH (n:=Ζ LT) (cs:=LT.flatMap bH) (ds:=[.s yn,.s yv]) (es:=bH (yn,yv)) Nh FG.1.1 gx (bk gM LT) rfl rfl (by decide) (by omega) (by simp only[maxLen];omega) (iI LT) (by simp only[bH,wu]);refine WC.bW (.held [10]) [(0,.rd),(1,.rd),(2,.rd),(3,.rd),(4,.rd),(5,.rd),(6,.one),(7,.one),(8,.one),(9,.rd),(10,.one)] ?_;refine aE gC gD mA ?_;refine aqM ik ns ?_;have hca:(O5.after t).hp (O.N+2)=_:=(App.off gx (by omega) (by rw[gD];simp)).trans gD;have hra:(O5.after t).hp O.N=_:=(App.off gx (by omega) (by rw[AK];simp)).trans AK;have hda:(O5.after t).hp (O.N+1)=_:=(App.off gx (by omega) (by rw[EE];simp)).trans EE;refine ao gC hca ?_;refine VC.gen ?_;intro O6 e6;have uN:=cy.after gx;have lP:∀i,i≠O.N+2->O6.hp i=(O5.after t).hp i:=λi hi=>by rw[e6];exact π _ _ hi);have oD:O6.N=(O5.after t).N:=by rw[e6];rfl);have AM:O6.hp (O.N+2)=φ (.cells [.l (Ζ LT+1) (LT.flatMap bH++bH (yn,yv)) (.own O5.N 2),.map O.N,.map (O.N+1),.v (Ι Κ 0)]):=by rw[e6];exact υ _ _ _);have oc:App O6 (O.N+3) 2 (.own O5.N 2):=(App.after (tk:=t) (B:=O.N+3) (sz:=2) (by omega:O.N+3<=O5.N)).mv (by omega) λi hi e=>(lP i (λe2=>by subst e2;rw[hca]at e;cases e)).trans e
  have RV:O.Ge O6:=⟨by have:=uN.N;have:=bO.N;omega,λi hi=>by
   rw[lP i (by omega),uN.hp i (by have:=bO.N;omega) (λe=>by have:=(App.nZ gx e).1;omega)];exact bO.hp i hi⟩
  have AO:=uN.N;refine ο gC cA ?_;refine az.N (j+1) ⟨RV,aM,R++[(yn,yv,cr)],cr+1,.own O5.N 2,⟨?_,(lP _ (by omega)).trans hra,(lP _ (by omega)).trans hda,⟨by omega,by omega,by omega⟩,hne⟩,?_,oc⟩;rw[di,ap6,Ti];simpa[aq]using AM;rw[di,ap_,hR];rfl
 rintro _ O9 ⟨bI,R,cr,t,hT,hR⟩;refine ν gC ?_;exact⟨bI,R,cr,t,hT,λx hx=>R3 hL hR hx⟩
def dq:=Ca gC<|Ca amQ<|Ca T80 aiP
def ahI(x:Bs)(O:VH)(t:Tok):VF Ε 201 [.l 0 [] t,.s x] O (aH λm O'=>m=mb γ/\O'=O):=by
 have h1:VF Ε 228 [.l 0 [] t,.s x] O (aH λm O'=>m=mi (-1)/\O'=O):=by
  refine Υ 19 [.tmp 4] func228 ?_;refine ae dq ?_;refine WC.kh [8] [0,1,7] (λj:Unit=>[mi 0]) (λj O'=>O'=O) (λj=>0) (()) ?_ ?_;rfl;rintro _ O2 e2;rw[e2];clear e2 O2;refine ae dq ?_;trivial
 refine Υ 9 [.tmp 4] func201 ?_;refine ae dq ?_;refine Ω (h1) ?_;refine ae dq ?_;trivial
def aaT{L:List (Bs×Bs)}{R D:xz}(nm v:Bs)(h:rP O tb kr kd L R D cr cd tk kn)(hw:O.hp wb=φ (.cells [.p tb 0,.l 0 [] .nil]))(lZ:wb<O.N)(hR:AN nm R=φ v)(hD:∀p∈D,p.1≠nm)(hv:uM v)(ew:Ζ v<=4096):
  VF Ε 167 [.p wb 0,.s nm] O (aH λm O'=>m= .s v/\(∃kn',rP O' tb kr kd L R (D++[(nm,v,cd)]) cr (cd+1) tk kn')/\O.N<=O'.N/\∀i,i<O.N->i≠tb->i≠kd->i≠wb->O'.hp i=O.hp i):=by
 have hc:=h.cell;have dm:=h.lt;have hne:=h.ne;have EB:wb≠tb:=λe=>by subst e;rw[hw]at hc;simp at hc
 have hwr:wb≠kr:=λe=>by subst e;have:=h.raw;cases(hw.symm.trans this)
 have hwd:wb≠kd:=λe=>by subst e;have:=h.done;cases(hw.symm.trans this)
 simp only[aq]at hc;have fa:i_ (bR Ε) O 296 (.map kd) (.s nm) Α=φ (BT Α (.s []) ((AN nm D).map .s)):=NQ Lb T9 T9 h.done;rw[LP hD]at fa;simp only[Option.map_none,Na]at fa;refine ω 95 [.tmp 4] func167 ?_;refine κ dq ?_;refine θ (cB dq @hw hc fa ?_);refine Γ (χ ?_);refine ξ dq @hw ?_;refine Ω (ahI nm O .nil) ?_;refine ao dq @hw ?_;refine ο dq @hw ?_;refine ξ dq @hw ?_;have cH:=aP (tk:=.nil) (tk':=.full) (B:=0) (n:=0) (k:=1) (cs:=[]) (ds:=[.s nm]) t_ T9 (O:=O) trivial rfl rfl rfl (by decide) (by decide) (by decide) (by decide);rw[alQ,af_]at cH;refine aqM cH rfl ?_;have uN:O.Ge (O.after .nil):=cy.Er (tk:=.nil) (sz:=1) trivial (cy.after (sz:=1) (B:=0) trivial);have hwA:=(uN.hp _ lZ).trans hw;refine ao dq hwA ?_;refine VC.gen ?_;intro O2 e2;have cn:∀i,i<O.N->i≠wb->O2.hp i=O.hp i:=λi h1 h2=>by rw[e2,π _ _ h2];exact uN.hp i h1
 have fc:O.N<=O2.N:=by rw[e2];exact uN.N
 have oA:∃t,O2.hp wb=φ (.cells [.p tb 0,.l 1 [.s nm] t]):=⟨_,by rw[e2];exact υ _ _ _⟩
 obtain⟨t2,oA⟩:=oA;clear e2;have DN:rP O2 tb kr kd L R D cr cd tk kn:=⟨(cn _ dm.1 (Ne.symm EB)).trans h.cell,(cn _ dm.2.1 (Ne.symm hwr)).trans h.raw,(cn _ dm.2.2 (Ne.symm hwd)).trans h.done,⟨by omega,by omega,by omega⟩,hne⟩;have jm:=DN.cell;simp only[aq]at jm;have LQ:i_ (bR Ε) O2 296 (.map kr) (.s nm) γ=φ (BT γ (.s []) ((AN nm R).map .s)):=NQ Lb T9 T9 DN.raw;rw[hR]at LQ;simp only[aqa,Xq]at LQ;refine θ (cB dq oA jm LQ ?_);refine τ (R0 wb v nm O2 hv ew) ?_;rintro _ O3 ⟨rfl,aJ⟩;have xA:=DN.ge aJ;have DB:=aJ.at oA;have vz:∀i,i<O.N->i≠wb->O3.hp i=O.hp i:=λi h1 h2=>(aJ.hp i (by omega)).trans (cn i h1 h2)
 have ij:=aJ.N;refine ae dq ?_;refine Γ ?_;refine WC.bW (.held [14]) [(0,.rd),(1,.rd),(2,.rd),(3,.rd),(4,.rd),(5,.rd),(6,.rd),(7,.rd),(8,.rd),(9,.rd),(10,.rd),(11,.rd),(12,.one),(13,.rd),(14,.one)] ?_;refine aE dq DB @oB ?_;refine VC.gen ?_;intro O4 e4;have gE:∀i,i≠wb->O4.hp i=O3.hp i:=λi h2=>by rw[e4];exact π _ _ h2
 have fT:O4.N=O3.N:=by rw[e4];rfl
 have R4:∃t,O4.hp wb=φ (.cells [.p tb 0,t]):=⟨_,by rw[e4];exact υ _ _ _⟩
 obtain⟨t4,R4⟩:=R4;clear e4;have aja:=xA.lt;have qG:rP O4 tb kr kd L R D cr cd tk kn:=⟨(gE _ (Ne.symm EB)).trans xA.cell,(gE _ (Ne.symm hwr)).trans xA.raw,(gE _ (Ne.symm hwd)).trans xA.done,⟨by omega,by omega,by omega⟩,hne⟩;have fP:=qG.cell;simp only[aq]at fP;have mT:e_ (bR Ε) O4 296 (.map kd) (.s nm) (.s v)=φ (O4.set kd (.map (xj (D++[(nm,v,cd)])) (cd+1))):=ael Lb T9 qG.done hD;refine θ (cB dq R4 fP mT ?_);refine VC.gen ?_;intro O5 e5;have dS:∀i,i≠kd->O5.hp i=O4.hp i:=λi h2=>by rw[e5];exact π _ _ h2
 have eJ:O5.N=O4.N:=by rw[e5];rfl
 have EE:O5.hp kd=φ (.map (xj (D++[(nm,v,cd)])) (cd+1)):=by rw[e5];exact υ _ _ _
 clear e5;have hw5:=(dS wb hwd).trans R4;have gD:=(dS tb hne.2.1).trans fP;refine θ (cB dq dX hw5 gD ?_);refine τ (yU 1 gD rfl) ?_;rintro m O6 ⟨rfl,e6⟩;have lP:∀i,i≠tb->O6.hp i=O5.hp i:=λi h2=>by rw[e6];exact π _ _ h2
 have AM:O6.hp tb=φ (.cells [.l (Ζ L) (L.flatMap bH) tk,.map kr,.map kd,mi (IntKind.i64.wrap (kn+1))]):=by rw[e6];exact υ _ _ _
 have oD:O6.N=O5.N:=by rw[e6];rfl
 refine ae dq ?_;refine ν dq ?_;refine⟨⟨_,⟨AM,(lP _ (Ne.symm hne.1)).trans ((dS _ hne.2.2).trans qG.raw),(lP _ (Ne.symm hne.2.1)).trans EE,⟨by omega,by omega,by omega⟩,hne⟩⟩,by omega,λi h1 h2 h3 h4=>?_⟩;exact(lP i h2).trans ((dS i h3).trans ((gE i h4).trans (vz i h1 h4)))
def aem{a:Nat}{K:ϰ}(h:K O):iO Ε 200 [.p a 0,.p b 0] Β O K:=by
 refine iO.rec (d:=5) func200 (Nat.lt_of_lt_of_eq (by decide:5<15) rfl) ?_;show WC _ _ ⟨15,0⟩ _ _ _ _ _;simp only[cZ,alQ,Nat.reduceAdd,C6];refine ao dq @wi ?_;refine VL.pure (by simp) (λ_=>.inl rfl) rfl rfl (jW.HR (bb:=Α) Tryz.underlying20 rfl (.inl ⟨rfl,rfl⟩)) ?_;refine WL.sound aa ?_;refine ao dq @wi ?_;exact h
def R5{g:FuncId}{xs:Η}{Φ :VH->VH->Prop}(hg:dA Ε g=Α)(hC:∀O1,O.Ge O1->VF Ε g xs O1 (aH λ_ O'=> Φ O1 O'))(hΦ :∀O1 O2,O.Ge O1-> Φ O1 O2->O1.N<=O2.N/\∀i,O.N<=i->i<O1.N->O2.hp i=O1.hp i):
  VF Ε 165 [.func (.func g) [] xs] O (aH λm O'=>m= .tuple [mi 0,.s []]/\∃O1 O2,O.Ge O1/\ Φ O1 O2/\O2.N<=O'.N/\∀i,i<O.N->O'.hp i=O2.hp i):=by
 refine VF.deferred (lo:=4) (k:=7) (rs:=[.cell 2 87,.cell 3 9]) func165 (Enters.u9) ?_;simp only[cZ,alQ,Nat.reduceAdd];refine ae dq ?_;refine⟨_,rfl,λD=>?_⟩;refine VC.gen ?_;rintro O1 vq;obtain⟨aK,dd,cJ,cC⟩:=iY _ _ vq;clear vq;refine ξ dq @wd ?_;refine τ (hC O1 aK) ?_ (hb:=hg);rintro m O2 h2;obtain⟨fc,cn⟩:=hΦ O1 O2 aK h2;have fy:=(cn _ (YI _) (by omega)).trans cJ;have cG:=(cn (O.N+1) (by omega) (by omega)).trans cC;refine ao dq @wd ?_;refine θ (cB dq @wd fy cG ?_);refine ο dq @wd ?_;refine aem ?_;refine cB dq @wd fy cG ?_;exact⟨O1,O2,aK,h2,YI _,λi hi=>by rw[VH.sx,VH.sx]⟩
def ahJ{z:MV}(ha:O.hp ba=φ (.cells [.p tb 0]))(hb:O.hp bb=φ (.cells [.s s]))(hc:O.hp bc=φ (.cells [z]))(kX:ba<O.N)(yy:bb<O.N)(gU:bc<O.N)(h:uM s)(hs:Ζ s<=4096):
  VF Ε 198 [.p ba 0,.p bb 0,.p bc 0] O (aH λm O'=>O'.hp bc=φ (.cells [.s s])/\bM O (φ bc) O'):=by
 refine ω 8 [] func198 ?_;have Vn:∀x,(O.push x).hp bb=φ (.cells [.s s]):=λx=>(η _ _ yy).trans hb
 refine ι (aE dq ha hb ?_);refine ah.bx ?_;rintro O1 ⟨aK,eS,dd⟩;refine τ (R0 O.N s [] O1 h hs) ?_;rintro _ O2 ⟨rfl,aC⟩;have gy:=aK.trans aC;have jm:=(gy.hp _ gU).trans hc;refine ao dq jm ?_;exact(bM.mJ gy).any.trans bM.set
def aaU(tb:Nat)(s:Bs)(O:VH)(h:uM s)(hs:Ζ s<=4096):VF Ε 164 [.p tb 0,.s s] O (aH λm O'=>m= .tuple [.s s,mi 0,.s []]/\O.Ge O'):=by
 refine ω 20 [.cell 4 9,.tmp 5,.tmp 6] func164 ?_;refine κ dq ?_;refine VC.gen ?_;intro O1 e1;obtain⟨aK,dd,cJ,cC,fK⟩:=mQ _ _ _ e1;clear e1;refine ξ dq cJ ?_;refine κ dq ?_;refine τ (R5 (O:=O1) (g:=198) (xs:=[.p O.N 0,.p (O.N+1) 0,.p (O.N+2) 0]) (Φ :=λA B=>B.hp (O.N+2)=φ (.cells [.s s])/\bM A (φ (O.N+2)) B) (by kernel_rfl) (λO2 aC=>ahJ (aC.at cJ) (aC.at cC) (aC.at fK) (by have:=aC.N;omega) (by have:=aC.N;omega) (by have:=aC.N;omega) h hs) (λA B hA hB=>⟨hB.2.N,λi h1 h2=>hB.2.hp i h2 (λe=>by injection e with e;omega)⟩)) ?_;rintro _ O3 ⟨rfl,A,B,uN,⟨qi,EM⟩,ij,vz⟩;have fw:=(vz _ (by omega)).trans qi;refine ae dq ?_;refine κ dq ?_;refine ξ dq fw ?_;refine ν dq ?_;have aJ:O.Ge O3:=⟨by have:=uN.N;have:=EM.N;omega,λi hi=>(vz i (by omega)).trans ((EM.hp i (by have:=uN.N;omega) (λe=>by injection e with e;omega)).trans ((uN.hp i (by omega)).trans (aK.hp i hi)))⟩;exact aJ.set (by omega) _
def ahK{L:List (Bs×Bs)}{R:xz}(ha:O.hp ba=φ (.cells [.p tb 0]))(hb:O.hp bb=φ (.cells [.l 0 [] .nil]))(kX:ba<O.N)(yy:bb<O.N)(h:rP O tb kr kd L R [] cr 0 tk 0)(hn:Ζ L<=10000)(hR:∀x∈L,AN x.1 R=φ x.2)(hL:L.Pairwise λx y=>x.1≠y.1)(hv:∀x∈L,uM x.2/\(Ζ x.2)<=4096):
  VF Ε 166 [.p ba 0,.p bb 0] O (aH λm O'=>(∃t,O'.hp bb=φ (.cells [.l (Ζ L) (L.flatMap bH) t]))/\O.N<=O'.N/\∀i,i<O.N->i≠tb->i≠kd->i≠bb->O'.hp i=O.hp i):=by
 have dD:=bk gM L;have dm:=h.lt;have hne:=h.ne;have hc:=h.cell;simp only[aq]at hc;have ajd:ba≠tb:=λe=>by subst e;rw[ha]at hc;simp at hc
 have oh:bb≠tb:=λe=>by subst e;rw[hb]at hc;simp at hc
 have hak:ba≠kd:=λe=>by subst e;have:=h.done;cases(ha.symm.trans this)
 have vc:bb≠kd:=λe=>by subst e;have:=h.done;cases(hb.symm.trans this)
 have hbr:bb≠kr:=λe=>by subst e;have:=h.raw;cases(hb.symm.trans this)
 have hab:ba≠bb:=λe=>by subst e;rw[hb]at ha;simp at ha
 refine ω 26 [] func166 ?_;refine θ (aE dq ha hc ?_);refine χ ?_;refine Θ [9] [0,1,7,8] (λj:Nat=>[mi j]) (λj O'=>j<=(Ζ L)/\O.N<=O'.N/\(∀i,i<O.N->i≠tb->i≠kd->i≠bb->O'.hp i=O.hp i)/\∃D cd kn t,rP O' tb kr kd L R D cr cd tk kn/\(∀p∈D,∃x∈L.take j,p.1=x.1)/\O'.hp bb=φ (.cells [.l (L.take j).length ((L.take j).flatMap bH) t])/\App O' O.N 2 t) (λj=>(Ζ L) - j) (0) ?_ ?_;exact⟨alO _,YI _,λ_ _ _ _ _=>rfl,[],0,0,.nil,h,by simp,hb,trivial⟩;rintro j O3 ⟨hj,ij,vz,D,cd,kn,t,hT,hD,cN,cH⟩;by_cases aM:j<Ζ L;rotate_left
 ·obtain rfl:j=Ζ L:=by omega
  rw[alR]at cN;refine ν dq ?_;exact⟨⟨t,cN⟩,ij,vz⟩
 have bG:=c9 gM L j aM;have di:=dU L j aM
 have dh:∀p∈D,p.1≠L[j].1:=λp hp=>by
  obtain⟨x,hx,e⟩:=hD p hp;obtain⟨i,hi,e2⟩:=akd.1 hx;rw[ake]at hi;rw[aqe]at e2;have:=(ap3.1 hL) i j (by omega) aM (by omega);rw[e, <-e2];exact this
 have hRj:=hR L[j] (ap5 aM);obtain⟨hvj,ew⟩:=hv L[j] (ap5 aM);have AF:(L.take j).length=j:=by rw[ake];omega
 generalize L[j]=y at*;obtain⟨yn,yv⟩:=y;dsimp only at dh hRj hvj ew;simp only[bH]at bG;have cA:=jSx j;refine κ dq ?_;refine κ dq ?_;refine Γ (χ ?_);refine ξ dq bG ?_;refine VC.al ?_;rintro O4 ⟨aT,lz,fT⟩;have qG:=hT.ge aT;have gd:=aT.at ((vz ba kX ajd hak hab).trans ha);have dy:=aT.at cN;have mP:=cH.ge aT;refine VC.Dr [12] (bb) (λO'=>O'.hp ba=φ (.cells [.p tb 0])/\O'.hp O3.N=φ (.cells [.s yn,.s yv])) (dy) (λX=>⟨(π _ _ hab).trans gd,Δ lz⟩) ?_;intro X;refine aqK (m:=.l (L.take j).length ((L.take j).flatMap bH) t) 0 (λ_ h=>h.1) (λ_ h=>h) ?_ ?_;exact ff dq;simp only[ak];refine ρ 1 dq ?_;refine ε (m:=.s yn) 2 ?_ ?_;rintro O2 ⟨j0,j1,j2⟩;exact eD dq j2;simp only[ak];refine ε (m:=.p tb 0) 3 ?_ ?_;rintro O2 ⟨j0,j1,j2⟩;exact eD dq j1;simp only[ak];refine ρ 4 dq ?_;refine ρ 6 dq ?_;refine ε (m:=.s yn) 7 ?_ ?_;rintro O2 ⟨j0,j1,j2⟩;exact eD dq j2;simp only[ak];have nX:(O4.set bb (.obj X)).hp bb=φ (.obj X)/\(O4.set bb (.obj X)).hp ba=φ (.cells [.p tb 0])/\(O4.set bb (.obj X)).hp O3.N=φ (.cells [.s yn,.s yv]):=⟨υ _ _ _,(π _ _ hab).trans gd,Δ lz⟩;have eJ:(O4.set bb (.obj X)).N=O4.N:=rfl;have dS:∀i,i≠bb->(O4.set bb (.obj X)).hp i=O4.hp i:=λi h1=>π _ _ h1
 have gx:=mP.qW (k:=bb) (x:=.obj X) (by rw[dy];simp);have anv:=qG.lt;have Gu:rP (O4.set bb (.obj X)) tb kr kd L R D cr cd tk kn:=⟨(dS _ (Ne.symm oh)).trans qG.cell,(dS _ (Ne.symm hbr)).trans qG.raw,(dS _ (Ne.symm vc)).trans qG.done,⟨by omega,by omega,by omega⟩,hne⟩;generalize O4.set bb (.obj X)=O5 at*;refine ab.op (i:=5) ?_;refine ae dq ?_;refine⟨nX,?_⟩;have gN:O5.Ge (O5.push (.cells [.p tb 0,.l 0 [] .nil])):=(VH.Ge.refl _).push _;have hw6:(O5.push (.cells [.p tb 0,.l 0 [] .nil])).hp O5.N=φ (.cells [.p tb 0,.l 0 [] .nil]):=ζ _ _;have oD:(O5.push (.cells [.p tb 0,.l 0 [] .nil])).N=O5.N+1:=rfl;generalize O5.push (.cells [.p tb 0,.l 0 [] .nil])=O6 at*;have AP:=Gu.ge gN;have oc:=gx.ge gN;have apt:=AP.lt;refine ab.call (i:=8) (aaT yn yv AP hw6 (by omega) hRj dh hvj ew) ?_;rintro _ O7 ⟨rfl,⟨kn',J_⟩,xp,yZ⟩;simp only[ak];have XY:∀i,i<O5.N->i≠tb->i≠kd->O7.hp i=O5.hp i:=λi h1 h2 h3=>(yZ i (by omega) h2 h3 (by omega)).trans (gN.hp i h1)
 have Bi:O7.hp bb=φ (.obj X)/\O7.hp ba=φ (.cells [.p tb 0])/\O7.hp O3.N=φ (.cells [.s yn,.s yv]):=⟨(XY _ (by omega) oh vc).trans nX.1,(XY _ (by omega) ajd hak).trans nX.2.1,(XY _ (by omega) (by omega) (by omega)).trans nX.2.2⟩;refine⟨Bi,?_⟩;have lN:App O7 O.N 2 t:=oc.mv xp λi h1 e=>(yZ i h1 (λe2=>by subst e2;rw[AP.cell]at e;cases e) (λe2=>by subst e2;rw[AP.done]at e;cases e) (λe2=>by subst e2;rw[hw6]at e;cases e)).trans e
 refine ρ 9 dq ?_;refine ab.op (i:=10) ?_;refine ae dq ?_;refine⟨Bi,?_⟩;have cH:=aP (tk:=t) (tk':=.full) (B:=O.N) (n:=(L.take j).length) (k:=1) (cs:=(L.take j).flatMap bH) (ds:=[.s yn,.s yv]) Nh FG.1.1 (O:=O7) lN (bk gM _) rfl rfl (by decide) (by decide) (by omega) (by simp only[maxLen];omega);refine ab.op (i:=11) ?_;rw[dP];refine ao dq cH ?_;have mU:∀i,i<O7.N->O7.hp i≠φ .tok->(O7.after t).hp i=O7.hp i:=λi h1 h2=>App.off lN h1 h2
 refine⟨⟨(mU _ (by omega) (by rw[Bi.1];simp)).trans Bi.1,(mU _ (by omega) (by rw[Bi.2.1];simp)).trans Bi.2.1,(mU _ (by omega) (by rw[Bi.2.2];simp)).trans Bi.2.2⟩,?_⟩;refine ab.lA [(12,.one)] ?_;refine ae dq ?_;refine VC.gen ?_;intro O8 e8;have uN:=cy.after lN;have AO:=uN.N;have rO:∀i,i≠bb->O8.hp i=(O7.after t).hp i:=λi h1=>by rw[e8,π _ _ h1,π _ _ h1]
 have uC:O8.hp bb=φ (.cells [.l ((L.take j).length+1) ((L.take j).flatMap bH++[.s yn,.s yv]) (.own O7.N 2)]):=by rw[e8];exact υ _ _ _
 have Es:O8.N=(O7.after t).N:=by rw[e8];rfl
 clear e8;have aen:=J_.lt;have hT8:rP O8 tb kr kd L R (D++[(yn,yv,cd)]) cr (cd+1) tk kn':=⟨(rO _ (Ne.symm oh)).trans ((mU _ aen.1 (by rw[J_.cell];simp)).trans J_.cell),(rO _ (Ne.symm hbr)).trans ((mU _ aen.2.1 (by rw[J_.raw];simp)).trans J_.raw),(rO _ (Ne.symm vc)).trans ((mU _ aen.2.2 (by rw[J_.done];simp)).trans J_.done),⟨by omega,by omega,by omega⟩,hne⟩;have FP:App O8 O.N 2 (.own O7.N 2):=(App.after (tk:=t) (B:=O.N) (sz:=2) (by omega:O.N<=O7.N)).mv (by omega) λi hi e=>(rO i (λe2=>by subst e2;have e3:=mU i (by omega) (by rw[Bi.1];simp);rw[e3,Bi.1]at e;cases e)).trans e
 have r3:∀i,i<O.N->i≠tb->i≠kd->i≠bb->O8.hp i=O.hp i:=λi h1 h2 h3 h4=>by
  rw[rO i h4,uN.hp i (by omega) (λe=>by have:=(App.nZ lN e).1;omega),XY i (by omega) h2 h3,dS i h4,aT.hp i (by omega)];exact vz i h1 h2 h3 h4
 refine ο dq cA ?_;refine az.N (j+1) ⟨aM,by omega,r3,D++[(yn,yv,cd)],cd+1,kn',.own O7.N 2,hT8,λp hp=>?_,?_,FP⟩;rw[di];rcases alP.1 hp with hp | hp;obtain⟨x,hx,e⟩:=hD p hp;exact⟨x,List.mem_append_left _ hx,e⟩;rw[aga.1 hp];exact⟨(yn,yv),aqf _ (aga.2 rfl),rfl⟩;rw[di,ap6,Ti];simpa[bH]using uC
def ahL{L:List (Bs×Bs)}{R:xz}(h:rP O tb kr kd L R [] cr 0 tk 0)(hn:Ζ L<=10000)(hR:∀x∈L,AN x.1 R=φ x.2)(hL:L.Pairwise λx y=>x.1≠y.1)(hv:∀x∈L,uM x.2/\(Ζ x.2)<=4096):
  VF Ε 138 [.p tb 0] O (aH λm O'=>(∃t,m= .tuple [.l (Ζ L) (L.flatMap bH) t,mi 0,.s []])/\O.N<=O'.N/\∀i,i<O.N->i≠tb->i≠kd->O'.hp i=O.hp i):=by
 have dm:=h.lt;refine ω 17 [.cell 2 84,.tmp 3,.tmp 4] func138 ?_;refine κ dq ?_;refine VC.gen ?_;intro O1 e1;obtain⟨aK,dd,cJ,cC⟩:=iY _ _ e1;clear e1;refine ξ dq cJ ?_;refine κ dq ?_;refine τ (R5 (O:=O1) (g:=166) (xs:=[.p O.N 0,.p (O.N+1) 0]) (Φ :=λA B=>(∃t,B.hp (O.N+1)=φ (.cells [.l (Ζ L) (L.flatMap bH) t]))/\A.N<=B.N/\∀i,i<A.N->i≠tb->i≠kd->i≠O.N+1->B.hp i=A.hp i) (by kernel_rfl) (λO2 aC=>ahK (aC.at cJ) (aC.at cC) (by have:=aC.N;omega) (by have:=aC.N;omega) (h.ge (aK.trans aC)) hn hR hL hv) (λA B hA hB=>⟨hB.2.1,λi h1 h2=>hB.2.2 i h2 (by omega) (by omega) (by omega)⟩)) ?_;rintro _ O3 ⟨rfl,A,B,uN,⟨⟨t,qi⟩,EM,hB3⟩,ij,vz⟩;have cN:=(vz _ (by omega)).trans qi;refine ae dq ?_;refine κ dq ?_;refine ξ dq cN ?_;refine ν dq ?_;have AO:=uN.N;refine⟨⟨t,rfl⟩,by show O.N<=O3.N;omega,λi h1 h2 h3=>?_⟩;rw[VH.sx,vz i (by omega),hB3 i (by omega) h2 h3 (by omega),uN.hp i (by omega),aK.hp i h1]
def re:=Ca rF<|Ca amO<|Ca amN<|Ca T46<|Ca T44 T87
def ze(r:Bool×Bs×List Bs)(tk:Tok):Η:=[mb r.1,.s r.2.1,.l (Ζ r.2.2) (r.2.2.flatMap λ_=>[]) tk]
def NS(s:Bs):Bool:=trimB s==s&&(s.headD 0 != 91&&(s.headD 0 != 40&&yx s))
def uh(s:Bs):(Bool×Bs×List Bs)×Int:=if NS s then((γ,s,[]),0)else((Α,[],[]),21)
def aeo(h:uh s=((γ,s,[]),0)):NS s=Α:=by
 unfold uh at h;cases e:NS s;rw[e]at h;simp at h;rfl
def ahM(v:Bs)(tk:Tok)(O:VH)(hv:Ζ v<=maxLen):VF Ε 180 [.agg [.v (.bool γ),.s v,.l 0 [] tk]] O (aH λm O'=>m=mb (yx v)/\O.Ge O'):=by
 refine ω 76 [.tmp 2] func180 ?_;refine κ re ?_;refine VC.bx ?_;rintro O1 ⟨aK,eS,dd⟩;refine ξ re eS ?_;refine τ (UG v O1 hv) ?_;rintro _ O2 ⟨rfl,aC⟩;refine ae re ?_;exact aK.trans aC
def ahN{a:Nat}{K:ϰ}(h:K O):iO Ε 174 [.p a 0,.p b 0] Β O K:=by
 refine iO.rec (d:=5) func174 (Nat.lt_of_lt_of_eq (by decide:5<12) rfl) ?_;show WC _ _ ⟨12,0⟩ _ _ _ _ _;simp only[cZ,alQ,Nat.reduceAdd,C6];refine ao re @wi ?_;refine VL.pure (by simp) (λ_=>.inl rfl) rfl rfl (jW.HR (bb:=Α) Tryz.underlying20 rfl (.inl ⟨rfl,rfl⟩)) ?_;refine WL.sound aa ?_;refine ao re @wi ?_;exact h
def aep(hk:O.hp b=φ (.cells [.s s])):VF Ε 176 [.p b 0] O (aH λm O'=>m=im (s.headD 0)/\O'=O):=by
 refine Υ 13 [.tmp 2] func176 ?_;cases s with
 | nil=>
   refine aE re hk (show(([]:Ρ)==[])=Α from rfl) ?_;rfl
 | cons c s=>
   refine aE re hk (show((c::s)==[])=γ from rfl) ?_;rfl
def aeq(s:Bs)(O:VH)(hs:Ζ s<=10000)(hp:uh s=((γ,s,[]),0)):VF Ε 143 [.s s] O (aH λm O'=>∃tk,m= .tuple [.agg (ze (uh s).1 tk),mi (uh s).2]/\O.Ge O'):=by
 have hsf:=aeo hp;rw[hp];unfold NS at hsf;simp only[Bool.and_eq_true,beq_iff_eq,bne_iff_ne,ne_eq]at hsf;obtain⟨h1,h2,h3,h4⟩:=hsf;have NT:=No s;rw[h1]at NT;have pB:Ζ s<=maxLen:=alU hs (by decide);have hm:=λO' tk=>ahM s tk O' pB
 rw[h4]at hm;have hc:=(s.headD 0).toNat_lt;have b1:((s.headD 0).toNat:Int)≠91:=λe=>h2 (by rw[<-UInt8.toNat_inj];show _=91;omega)
 have b2:((s.headD 0).toNat:Int)≠40:=λe=>h3 (by rw[<-UInt8.toNat_inj];show _=40;omega)
 have c1:((((s.headD 0).toNat:Int)) != 91)=Α:=by rw[bne_iff_ne];exact b1
 have c2:((((s.headD 0).toNat:Int)) != 40)=Α:=by rw[bne_iff_ne];exact b2
 simp only[ze,aq,bB,WT,akf];refine VF.deferred (lo:=4) (k:=54) (rs:=[.cell 2 46,.cell 3 87]) func143 (Enters.u9) ?_;simp only[cZ,alQ,Nat.reduceAdd];refine ae re ?_;refine⟨_,rfl,λD=>?_⟩;refine VC.gen ?_;intro O1 e1;obtain⟨aK,dd,cJ,cC⟩:=iY _ _ e1;clear e1;refine ξ re @wd ?_;refine Ω (NT O1 pB) ?_;refine ao re @wd ?_;refine VC.bx ?_;rintro O2 ⟨aC,jY,fc⟩;have fy:=aC.at cJ;have cG:=aC.at cC;refine ξ re @wd ?_;refine Ω (aep jY) ?_;refine Nf re @wd @aO c1 c2 jY fy ?_;refine VC.gen ?_;intro O4 e4;have gd:O4.hp O.N=φ (.cells [.v (.bool γ),.s s,.l 0 [] .nil]):=by rw[e4];exact υ _ _ _
 have dy:O4.hp (O.N+1)=φ (.cells [.v (Ι Κ 0)]):=by rw[e4,VH.sx];exact cG
 have aT:O.Ge O4:=by rw[e4];exact(aK.trans aC).set (YI _) _
 have fT:O.N+1<O4.N:=by rw[e4];show _<O2.N;omega
 clear e4;refine θ (aE re @wd gd ?_);refine τ (hm O4 .nil) ?_;rintro _ O5 ⟨rfl,bO⟩;have dW:=bO.at gd;have dG:=bO.at dy;refine aE re @wd dW ?_;refine θ (cB re @wd dW dG ?_);refine ο re @wd ?_;refine ahN ?_;refine ao re @wd ?_;exact⟨.nil,rfl,((aT.trans bO).set (YI _) _).set (aoT _) _⟩
def fA:=Ca dq<|Ca aiI<|Ca T95<|Ca amG<|Ca amF<|Ca aiH<|Ca T46<|Ca T44<|Ca Eo T87
def nmG:Bs:=[112,114,111,106,101,99,116,46,103,114,111,117,112,73,100]
def nmA:Bs:=[112,114,111,106,101,99,116,46,97,114,116,105,102,97,99,116,73,100]
def nmV:Bs:=[112,114,111,106,101,99,116,46,118,101,114,115,105,111,110]
def jG(p:Pm):List (Bs×Bs):=[(nmG,p.g),(nmA,p.a),(nmV,p.v)]
def zf(p:Pm):(jG p).Pairwise λx y=>x.1≠y.1:=by
 simp only[jG,List.pairwise_cons,ap2,aqm,or_false,forall_eq_or_imp,forall_eq];exact⟨⟨by decide,by decide⟩,by decide,by simp,by simp⟩
def R6(p:Pm)(O:VH)(hh:p.hp=γ)(hp:p.props=[]):VF Ε 133 [.agg (iR p)] O (aH λm O'=>(∃t,m= .l 3 ((jG p).flatMap bH) t)/\O.Ge O'):=by
 have hne:=zf p;have hov:=λ(O':VH)(tk tM:Tok)=>XU [] (jG p) tk tM O' (by simp[jG]) (by simp) hne
 obtain⟨b,⟨pg,pa,pv⟩,pG,pA,pV,pk,P,M,D⟩:=p;dsimp only at hh hp;subst hh;subst hp;simp only[jG,nmG,nmA,nmV,WT,akf,af_,abx,alQ,aqj,List.append_nil,bH,agb]at hov ⊢;simp only[iR,WT,akf,bB];refine ω 35 [.tmp 2] func133 ?_;refine κ fA ?_;refine VC.bx ?_;rintro O1 ⟨aK,eS,dd⟩;refine ξ fA eS ?_;refine τ (hov _ _ _) ?_;rintro _ O2 ⟨⟨t,rfl⟩,aC⟩;have jY:=aC.at eS;refine ae fA ?_;refine ο fA jY ?_;exact⟨⟨t,rfl⟩,aK.trans aC⟩
def ahO(k:Nat)(O:VH):VF Ε 38 [.p k 0] O (aH λm O'=>m= .p (O.N+1) 0/\O.Ge O'/\O'.hp O.N=φ (.map [] 0)/\O'.hp (O.N+1)=φ (.cells [.p k 0,.map O.N])/\O'.N=O.N+2):=by
 refine ω 7 [.tmp 2] func38 ?_;have lC:Ga (lq [(0,1),(1,1)]) [.v (.pointer Β),.v (.map Β)] (.p k 0) [(1,.map O.N)] (φ (0,1))=φ [.p k 0,.map O.N]:=rfl;refine κ fA ?_;refine ο fA lC ?_;obtain⟨hg,hn,h1,h2⟩:=iY (O:=O) (.map [] 0) (.cells [.p k 0,.map O.N]) rfl;exact hg
def jg(s:Bs):Prop:=uM s/\(Ζ s)<=4096
def vA(tb bb:Nat)(g:Gv)(p:Pm)(tw:Tok):Η:=[.p tb 0,.p bb 0]++cD g++iR p++[.l 1 (cD g) tw]
def NU(hw:O.hp wb=φ (.cells (vA tb bb g p tw)))(s w:Bs)(hs:jg s):VF Ε 136 [.p wb 0,.s s,.s w] O (aH λm O'=>m= .s s/\O.Ge O'):=by
 obtain⟨g1,g2,g3⟩:=g;obtain⟨b,⟨pg,pa,pv⟩,pG,pA,pV,pk,P,M,D⟩:=p;simp only[vA,cD,iR,agb,af_]at hw;refine ω 27 [.tmp 6] func136 ?_;refine κ fA ?_;refine ξ fA @hw ?_;refine τ (aaU tb s O hs.1 hs.2) ?_;rintro _ O2 ⟨rfl,hg⟩;refine ν fA ?_;exact hg
def EU(hw:O.hp wb=φ (.cells (vA tb bb g p tw)))(s w:Bs)(hs:jg s):VF Ε 135 [.p wb 0,.s w,.s s,.s s] O (aH λ_ O'=>O.Ge O'):=by
 refine ω 17 [] func135 ?_;refine κ fA ?_;refine τ (NU hw s w hs) ?_;rintro _ O2 ⟨rfl,hg⟩;have hb:(!s==s)=γ:=by simp
 refine ο fA hb ?_;exact hg
def XZ(hw:O.hp wb=φ (.cells (vA tb bb g p tw)))(s w:Bs)(e:Bool)(hs:jg s)(hi:gk s=Α\/e=Α/\s=[]):VF Ε 202 [.p wb 0,.s s,.s w,mb e] O (aH λm O'=>m= .s s/\O.Ge O'):=by
 have pB:Ζ s<=maxLen:=alU hs.2 (by decide);refine ω 29 [.tmp 8] func202 ?_;refine κ fA ?_;refine κ fA ?_;refine τ (NU hw s w hs) ?_;rintro _ O2 ⟨rfl,hg⟩;refine ae fA ?_;refine κ fA ?_;refine τ (wg s O2 pB) ?_;rintro _ O3 ⟨rfl,aJ⟩;have hgg:=hg.trans aJ;rcases hi with hi | ⟨rfl,rfl⟩;refine ao fA @hi ?_;refine ν fA ?_;exact hgg;rcases hb:gk []with _ | _;refine ao fA hb ?_;refine ν fA ?_;exact hgg;refine ao fA hb ?_;refine ν fA ?_;exact hgg
def R7(wb:Nat)(O:VH)(v w:Bs)(hv:Ζ v<=10000)(hp:uh v=((γ,v,[]),0)):VF Ε 173 [.p wb 0,.s v,.s w] O (aH λm O'=>m= .agg (ze (γ,v,[]) .au)/\O.Ge O'):=by
 refine VF.fg ?_;have uK:=λO'=>aeq v O' hv hp
 rw[hp]at uK;simp only[ze,WT,akf,bB,aq]at uK ⊢;refine ω 22 [.cell 6 46] func173 ?_;refine κ fA ?_;refine VC.bx ?_;rintro O1 ⟨aK,eS,dd⟩;refine κ fA ?_;refine τ (uK _) ?_;rintro _ O2 ⟨tk,rfl,aC⟩;have jY:=aC.at eS;refine ae fA ?_;refine VC.al ?_;rintro O3 ⟨aJ,kD,ij⟩;have aer:=(aJ.hp _ (by have:=aC.N;omega)).trans jY;refine ι (aE fA kD aer ?_);exact((aK.trans aC).trans aJ).set (by omega) _
def Vx(n:Nat)(O:VH)(hn:n<=1000000000):VF Ε 168 [mi n] O (aH λm O'=>m= .s (nP n)/\O'=O):=by
 have AI:=vf n;refine Υ 17 [.tmp 2] func168 ?_;refine ae fA ?_;refine WC.kh [0,3] [] (λx:Nat×Bs=>[mi x.1,.s x.2]) (λx O'=>O'=O/\nP n=nP x.1++x.2/\x.1<=n) (λx=>x.1) ((n,[])) ?_ ?_;exact⟨rfl,by simp,YI _⟩;rintro⟨k,s⟩ O2 ⟨eO,hk,BJ⟩;dsimp only at hk BJ ⊢;rw[eO];clear eO O2;rcases Nat.eq_zero_or_pos k with rfl | hp;have h0:nP 0=[]:=rfl;rw[h0,af_]at hk;refine ae fA ?_;exact congrArg MV.s hk.symm;have hd:=QN (k % 10);(((have hl:(nP n).length=(nP k).length+Ζ s:=by rw[hk,Ti]);have hr:(k:Int).tmod 10=((k % 10:Nat):Int):=by rw[Int.tmod_eq_emod_of_nonneg (by omega)];rfl);have hq:(k:Int).tdiv 10=((k / 10:Nat):Int):=by rw[Int.tdiv_eq_ediv_of_nonneg (by omega)];rfl);refine cB fA hr hq hd ?_;refine az.N (k / 10,QM k++s) ⟨rfl,?_,by dsimp only;omega⟩;rw[hk,Ev hp,aqc]
structure Vy(d:Dp):Prop where
 g:jg d.g
 gi:gk d.g=Α
 a:jg d.a
 ai:gk d.a=Α
 v:jg d.v
 vn:d.v≠[]
 vp:uh d.v=((γ,d.v,[]),0)
 t:jg d.t
 ti:gk d.t=Α\/d.t=[]
 c:jg d.c
 ci:gk d.c=Α\/d.c=[]
 x:Ζ d.x<=10000
def mX:Bs:=[106,97,114]
def zg(t:Bs):Bs:=if t=[]then mX else t
def eo(d:Dp):Dp:=⟨d.g,d.a,d.v,zg d.t,d.c,d.s,d.o,d.x⟩
def aes(hw:O.hp wb=φ (.cells (vA tb bb g p tw)))(lZ:wb<O.N)(d:Dp)(w:Bs)(hd:Vy d)(uW:Ζ w<=1000):VF Ε 169 [.p wb 0,.agg (aX d),.s w] O (aH λm O'=>m= .agg (aX (eo d))/\O.Ge O'):=by
 obtain⟨hdg,rE,hda,hai,EA,hvn,hvp,PW,Tt,hdc,IQ,hdx⟩:=hd
 have JF:jg (zg d.t)/\gk (zg d.t)=Α:=by
  unfold zg;by_cases e:d.t=[];rw[if_pos e];exact⟨⟨by show Lib.index mX [36,123]<0;decide,by decide⟩,by decide⟩;rw[if_neg e];exact⟨PW,Tt.resolve_right e⟩
 have htf:zg d.t=if d.t=[]then[106,97,114]else d.t:=rfl
 unfold eo;generalize zg d.t=T at*;obtain⟨dg,da,dv,dt,dc,mI,dO,dx⟩:=d;dsimp only at hdg rE hda hai EA hvn hvp PW Tt hdc IQ hdx JF htf ⊢;simp only[aX,aq];have DO:=λ(O':VH)(g':O.Ge O')=>(g'.hp _ lZ).trans hw
 clear hw;have Gb:(dv==[])=γ:=by simpa using hvn
 have ew:Ζ dv<=10000:=alU EA.2 (by decide);refine ω 55 [.cell 6 56] func169 ?_;refine κ fA ?_;refine VC.gen ?_;intro O1 e1;obtain⟨aK,anw,cJ,cC⟩:=iY _ _ e1;have dd:O.N+2<=O1.N:=by omega
 clear e1;refine ξ fA cJ ?_;refine τ (XZ (DO _ aK) dg _ γ hdg (.inl rE)) ?_;rintro _ O2' ⟨rfl,hH⟩;have aje:=hH.at cJ;have ajf:=hH.at cC;have hK2:=aK.trans hH;have hL2:=hH.N;refine ao fA aje ?_;refine VC.gen ?_;intro O2 e2;have aC:O.Ge O2:=by rw[e2];exact hK2.set (by omega) _
 have fy:O2.hp O.N=φ (.cells [.s dg,.s da,.s dv,.s dt,.s dc,.v (Ι Κ mI),.v (Ι Κ dO),.l (Ζ dx) (List.flatMap cM dx) .au]):=by rw[e2];exact υ _ _ _
 have cG:O2.hp (O.N+1)=φ (.cells [.s [],.s [],.s [],.s [],.s [],.v (Ι Κ 0),.v (Ι Κ 0),.l 0 [] .nil]):=by rw[e2];exact Δ ajf
 have fc:O.N+2<=O2.N:=by rw[e2];show _<=O2'.N;omega
 clear e2 aje ajf;refine ξ fA fy ?_;refine τ (XZ (DO _ aC) da _ γ hda (.inl hai)) ?_;rintro _ O3' ⟨rfl,hH⟩;have ajg:=hH.at fy;have X0:=hH.at cG;have hK3:=aC.trans hH;have hL3:=hH.N;refine ao fA ajg ?_;refine VC.gen ?_;intro O3 e3;have aJ:O.Ge O3:=by rw[e3];exact hK3.set (by omega) _
 have kY:O3.hp O.N=φ (.cells [.s dg,.s da,.s dv,.s dt,.s dc,.v (Ι Κ mI),.v (Ι Κ dO),.l (Ζ dx) (List.flatMap cM dx) .au]):=by rw[e3];exact υ _ _ _
 have cN:O3.hp (O.N+1)=φ (.cells [.s [],.s [],.s [],.s [],.s [],.v (Ι Κ 0),.v (Ι Κ 0),.l 0 [] .nil]):=by rw[e3];exact Δ X0
 have ij:O.N+2<=O3.N:=by rw[e3];show _<=O3'.N;omega
 clear e3 ajg X0;refine ξ fA kY ?_;refine τ (NU (DO _ aJ) dv _ EA) ?_;rintro _ O4' ⟨rfl,hH⟩;have ajh:=hH.at kY;have aji:=hH.at cN;have hK4:=aJ.trans hH;have hL4:=hH.N;refine ao fA ajh ?_;refine VC.gen ?_;intro O4 e4;have aT:O.Ge O4:=by rw[e4];exact hK4.set (by omega) _
 have gd:O4.hp O.N=φ (.cells [.s dg,.s da,.s dv,.s dt,.s dc,.v (Ι Κ mI),.v (Ι Κ dO),.l (Ζ dx) (List.flatMap cM dx) .au]):=by rw[e4];exact υ _ _ _
 have dy:O4.hp (O.N+1)=φ (.cells [.s [],.s [],.s [],.s [],.s [],.v (Ι Κ 0),.v (Ι Κ 0),.l 0 [] .nil]):=by rw[e4];exact Δ aji
 have fT:O.N+2<=O4.N:=by rw[e4];show _<=O4'.N;omega
 clear e4 ajh aji;refine Ξ [0,2,4,6] (λ_:Unit=>[.p wb 0,.s w,.p O.N 0,.p (O.N+1) 0]) (λ_ O'=>O4.Ge O') ?_ ?_;refine ι (aE fA gd Gb ?_);refine τ (R7 wb _ dv _ ew hvp) ?_;rintro _ O5 ⟨rfl,bO⟩;refine ae fA ?_;exact aB.mk () bO;rintro _ O5 bO;have dW:=bO.at gd;have dG:=bO.at dy;have ajj:=aT.trans bO;have eJ:=bO.N;refine Ξ [0,2,4,6] (λ_:Unit=>[.p wb 0,.s w,.p O.N 0,.p (O.N+1) 0]) (λ_ O'=>O.Ge O'/\O.N+2<=O'.N/\O'.hp O.N=φ (.cells [.s dg,.s da,.s dv,.s T,.s dc,.v (Ι Κ mI),.v (Ι Κ dO),.l (Ζ dx) (List.flatMap cM dx) .au])/\O'.hp (O.N+1)=φ (.cells [.s [],.s [],.s [],.s [],.s [],.v (Ι Κ 0),.v (Ι Κ 0),.l 0 [] .nil])) ?_ ?_;by_cases e:dt=[];subst e;rw[if_pos rfl]at htf;subst htf;have Vr:(([]:Bs)==[])=Α:=rfl;refine ι (aE fA dW Vr ?_);exact aB.mk () ⟨ajj.set (by omega) _,by show _<=O5.N;omega,υ _ _ _,Δ dG⟩;rw[if_neg e]at htf;(have Vr:(dt==[])=γ:=by simpa using e);subst htf;refine ι (aE fA dW Vr ?_);exact aB.mk () ⟨ajj,by omega,dW,dG⟩
 rintro _ O6 ⟨gN,oD,pe,jr⟩;refine ξ fA pe ?_;refine τ (XZ (DO _ gN) T _ γ JF.1 (.inl JF.2)) ?_;rintro _ O7' ⟨rfl,hH⟩;have ajk:=hH.at pe;have ajl:=hH.at jr;have hK7:=gN.trans hH;have hL7:=hH.N;refine ao fA ajk ?_;refine VC.gen ?_;intro O7 e7;have fG:O.Ge O7:=by rw[e7];exact hK7.set (by omega) _
 have wK:O7.hp O.N=φ (.cells [.s dg,.s da,.s dv,.s T,.s dc,.v (Ι Κ mI),.v (Ι Κ dO),.l (Ζ dx) (List.flatMap cM dx) .au]):=by rw[e7];exact υ _ _ _
 have BZ:O7.hp (O.N+1)=φ (.cells [.s [],.s [],.s [],.s [],.s [],.v (Ι Κ 0),.v (Ι Κ 0),.l 0 [] .nil]):=by rw[e7];exact Δ ajl
 have xp:O.N+2<=O7.N:=by rw[e7];show _<=O7'.N;omega
 clear e7 ajk ajl;refine ξ fA wK ?_;refine τ (XZ (DO _ fG) dc _ Α hdc (IQ.imp id λe=>⟨rfl,e⟩)) ?_;rintro _ O8' ⟨rfl,hH⟩;have ajm:=hH.at wK;have ajn:=hH.at BZ;have hK8:=fG.trans hH;have hL8:=hH.N;refine ao fA ajm ?_;refine VC.gen ?_;intro O8 e8;have iC:O.Ge O8:=by rw[e8];exact hK8.set (by omega) _
 have EV:O8.hp O.N=φ (.cells [.s dg,.s da,.s dv,.s T,.s dc,.v (Ι Κ mI),.v (Ι Κ dO),.l (Ζ dx) (List.flatMap cM dx) .au]):=by rw[e8];exact υ _ _ _
 have uC:O8.hp (O.N+1)=φ (.cells [.s [],.s [],.s [],.s [],.s [],.v (Ι Κ 0),.v (Ι Κ 0),.l 0 [] .nil]):=by rw[e8];exact Δ ajn
 have Es:O.N+2<=O8.N:=by rw[e8];show _<=O8'.N;omega
 clear e8 ajm ajn;refine ι (aE fA EV uC ?_);exact iC.set (by omega) _
def nS:=Ca fA<|Ca HX<|Ca T40<|Ca amL<|Ca amM<|Ca amK<|Ca Qs<|Ca La HW
def aet(f:MV)(t:Tok)(O:VH):VF Ε 204 [.l 0 [] t,f] O (aH λm O'=>m=mi (-1)/\O'=O):=by
 refine Υ 19 [.tmp 4] func204 ?_;refine ae nS ?_;refine WC.kh [8] [0,1,7] (λx:Nat=>[mi 0]) (λx O'=>O'=O) (λx=>x) (0) ?_ ?_;rfl;rintro k O2 eO;rw[eO];refine ae nS ?_;trivial
def aaV(d:Dp)(t:Tok)(O:VH)(hx:Ζ d.x<=10000):VF Ε 172 [.agg (aX d),.l 0 [] t] O (aH λm O'=>m= .agg (aX d)/\O.Ge O'):=by
 have hk:=λO'=>NM d O'
 obtain⟨dg,da,dv,dt,dc,mI,dO,dx⟩:=d;dsimp only at hx;simp only[aX,aq]at hk ⊢;generalize j4 ⟨dg,da,dv,dt,dc,mI,dO,dx⟩=K at hk;obtain⟨k1,k2,k3,k4⟩:=K;simp only[iP]at hk;refine ω 49 [.cell 4 56] func172 ?_;refine κ nS ?_;refine VC.gen ?_;intro O1 e1;obtain⟨aK,dd,cJ,cC⟩:=iY _ _ e1;clear e1;refine ξ nS cJ ?_;refine τ (hk _) ?_;rintro _ O2 ⟨rfl,aC⟩;have anx:=aK.trans aC;have fy:=aC.at cJ;have cG:=aC.at cC;have fc:=aC.N;clear cJ cC hk aK aC;refine ae nS ?_;refine VC.al ?_;rintro O3 ⟨aJ,kD,ij⟩;have anz:=anx.trans aJ;have kY:=aJ.at fy;have cN:=aJ.at cG;clear fy cG;refine κ nS ?_;refine τ (aet _ t _) ?_;rintro _ O4 ⟨rfl,rfl⟩;refine ae nS ?_;refine Γ ?_;refine ν nS ?_;refine ξ nS kY ?_;refine τ (wG dx .au _) ?_;rintro _ O4 ⟨rfl,aT⟩;have gd:=aT.at kY;have dy:=aT.at cN;refine ao nS gd ?_;refine ο nS dy ?_;exact((anz.trans aT).set (YI _) _).set (aoT _) _
structure Vz(O:VH)(gb mb B:Nat)(L:List Dp)(M:gI)(cm:Nat)(tk:Tok):Prop where
 cell:O.hp gb=φ (.cells [.l (Ζ L) (L.flatMap aX) tk,.map mb])
 map:O.hp mb=φ (.map (db M) cm)
 ok:pL 4 M
 app:App O B 8 tk
 lt:gb<O.N/\mb<O.N
 ne:gb≠mb
def Vz.ge{mb:Nat}{L:List Dp}(h:Vz O gb mb B L M cm tk)(g:O.Ge O'):Vz O' gb mb B L M cm tk:=
 ⟨(g.hp _ h.lt.1).trans h.cell,(g.hp _ h.lt.2).trans h.map,h.ok,h.app.ge g,⟨Th h.lt.1 g.N,Th h.lt.2 g.N⟩,h.ne⟩
def ak_{mb:Nat}{L:List Dp}(h:Vz O gb mb B L M cm tk)(d:Dp)(hd:FY d)(hL:Ζ L<=10000)(hB:B<=O.N)(dh:∀p∈M,p.1≠dK (j4 d)):
  VF Ε 170 [.p gb 0,.agg (aX d)] O (aH λ_ O'=>(∃tk',Vz O' gb mb B (L++[d]) (M++[(dK (j4 d),.v (.bool Α),cm)]) (cm+1) tk'/\(∀i,Tok.id tk'=φ i->O.N<=i))/\O.N<=O'.N/\∀i,i<O.N->i≠gb->i≠mb->Tok.id tk≠φ i->O'.hp i=O.hp i):=by
 have Gr:=λO'=>NM d O'
 have BY:=RS hd;have RT:(iP (j4 d))=(dK (j4 d)).map .s:=rfl;have hud:dz (aX d)=aX d:=by simpa using nq [d]
 have hla:=Ae dh
 have xt:M.any (·.1==dK (j4 d))=γ:=by
  rw[aqd];intro p hp hpe;exact dh p hp (eq_of_beq hpe)
 have hgm:∃es:Dp,es=d:=⟨_,rfl⟩
 generalize hK:j4 d=K at*;obtain⟨k1,k2,k3,k4⟩:=K;obtain⟨dg,da,dv,dt,dc,mI,dO,dx⟩:=d;simp only[aX,aq,iP]at Gr hud ⊢;refine ω 29 [] func170 ?_;refine κ nS ?_;refine VC.bx ?_;rintro O1 ⟨aK,eS,dd⟩;refine ξ nS eS ?_;refine τ (Gr _) ?_;rintro _ O2 ⟨rfl,aC⟩;refine ae nS ?_;refine VC.al ?_;rintro O3 ⟨aJ,kD,ij⟩;have eW:=(aK.trans aC).trans aJ;have anA:=(aC.trans aJ).at eS;have h3:=h.ge eW;have fw:=h3.cell;refine Γ ?_;refine WC.bW (.held []) [(0,.rd),(1,.rd),(2,.rd),(3,.rd),(4,.rd),(5,.rd),(6,.rd)] ?_;refine aE nS fw kD ?_;refine VL.hold (.inr rfl) rfl rfl (gJ.lV qD aa (l:=dK ⟨k1,k2,k3,k4⟩) (te:=⟨_,1,1,[.v (.bool γ)]⟩) Tryz.underlying309 T4 rfl rfl h3.map h3.ok rfl rfl BY) (WL.sound aa ?_);rw[hla];refine ae nS ?_;refine VC.pC rfl ?_;refine Γ ?_;refine WC.bW (.held [5]) [(0,.rd),(1,.rd),(2,.rd),(3,.rd),(4,.rd),(5,.one)] ?_;refine aE nS fw kD ?_;refine VL.qw rfl rfl (qv.jX qD (l:=dK ⟨k1,k2,k3,k4⟩) (b:=mb) (ck:=cm) (M:=M) Tryz.underlying309 rfl h3.map h3.ok rfl rfl BY rfl) (λbrk hb i hi=>?_) (WL.sound aa ?_)
 ·cases hb
  rcases i with _ | _ | _ | _ | _ | _ | i<;>first
   | rfl
   | (exfalso;revert hi;simp)
 have mw:=sF (y:=.v (.bool Α)) (ck:=cm) h3.ok (l:=dK ⟨k1,k2,k3,k4⟩) rfl BY;unfold jX at mw;unfold jX M4;rw[xt]at mw ⊢;have hgb:=h3.ne;have p5:=h3.lt;refine ae nS ?_;refine VC.gen ?_;intro O4 e4;have fT:O4.N=O3.N:=by rw[e4];rfl
 have gE:∀i,i≠mb->O4.hp i=O3.hp i:=λi h1=>by rw[e4,π _ _ h1]
 have sf:O4.hp mb=φ (.map (db (M++[(dK ⟨k1,k2,k3,k4⟩,MV.v (.bool Α),cm)])) (cm+1)):=by rw[e4];exact υ _ _ _
 clear e4;have fP:=(gE gb hgb).trans fw;have Dy:=(gE O.N (λe=>by subst e;have:=h.lt;omega)).trans anA;have mP:App O4 B 8 tk:=h3.app.mv (by omega) λi hi e=>(gE i (λe2=>by subst e2;rw[h3.map]at e;cases e)).trans e
 have anB:=aP (tk:=tk) (tk':=.full) (n:=Ζ L) (k:=1) (cs:=L.flatMap aX) (ds:=[.s dg,.s da,.s dv,.s dt,.s dc,.v (Ι Κ mI),.v (Ι Κ dO),.l (Ζ dx) (dx.flatMap cM) .au]) HX Eo.1.1 mP (bk iQ L) rfl rfl (by decide) (by decide) (by omega) (by simp only[maxLen];omega);have mU:∀i,i<O4.N->O4.hp i≠φ .tok->(O4.after tk).hp i=O4.hp i:=λi h1 h2=>App.off mP h1 h2
 have Gw:=(mU gb (by omega) (by rw[fP];simp)).trans fP;have hmA:=(mU mb (by omega) (by rw[sf];simp)).trans sf;refine WC.bW (.held [10]) [(0,.rd),(1,.rd),(2,.rd),(3,.rd),(4,.rd),(5,.rd),(6,.one),(7,.one),(8,.one),(9,.rd),(10,.one)] ?_;refine aE nS fP Dy ?_;refine VL.app anB ?_;refine ao nS Gw ?_;have NV:=cy.after mP;refine⟨⟨.own O4.N 8,⟨?_,?_,mw,?_,?_,hgb⟩,λi hi=>by injection hi with hi;have:=eW.N;omega⟩,?_,?_⟩;rw[Ti,ap6];exact υ _ _ _;exact(π _ _ (Ne.symm hgb)).trans hmA;exact(App.after (by have:=eW.N;omega)).qW (by rw[Gw];simp);have:=NV.N;exact⟨by show _<(O4.after tk).N;omega,by show _<(O4.after tk).N;omega⟩;have:=NV.N;have:=eW.N;show _<=(O4.after tk).N;omega;intro i h1 h2 h3 h4;have:=eW.N;rw[π _ _ h2,NV.hp i (by omega) h4,gE i h3,eW.hp i h1]
def eA:=Ca nS<|Ca T3<|Ca Bb T9
def VA(hw:O.hp wb=φ (.cells (vA tb bb g p tw)))(lZ:wb<O.N)(hp:p.fF=[]):VF Ε 139 [.p wb 0] O (aH λm O'=>m= .l 0 [] .nil/\O.Ge O'):=by
 obtain⟨g1,g2,g3⟩:=g;obtain⟨b,⟨pg,pa,pv⟩,pG,pA,pV,pk,P,M,D⟩:=p;dsimp only at hp;subst hp;simp only[vA,cD,iR,agb,af_,WT,akf]at hw;have lC:Ga (lq [(0,1),(1,1)]) [.l 0 [] .nil,.v (.map Β)] (.map O.N) [] (φ (1,1))=φ [.l 0 [] .nil,.map O.N]:=rfl;refine ω 145 [.tmp 2] func139 ?_;refine κ eA ?_;refine ξ eA lC ?_;refine VC.gen ?_;intro O1 e1;obtain⟨aK,dd,ET,fK⟩:=iY _ _ e1;clear e1;have MY:=(aK.hp _ lZ).trans hw;refine κ eA ?_;refine Ξ [3,4] (λ_:Unit=>[.p (O.N+1) 0,.l 0 [] .nil]) (λ_ O'=>O'=O1) ?_ ?_;refine ξ eA MY ?_;refine χ ?_;refine Θ [4,23] [0,3,21,22] (λ_:Nat=>[.l 0 [] .nil,mi 0]) (λ_ O'=>O'=O1) (λx=>x) (0) ?_ ?_;rfl;rintro j O3 e3;rw[e3];refine ν eA ?_;exact aB.mk () rfl;rintro _ O3 e3;rw[e3];refine Ξ [3] (λ_:Unit=>[.p (O.N+1) 0]) (λ_ O'=>O'=O1) ?_ ?_;refine κ eA ?_;refine χ ?_;refine Θ [84] [3,83] (λ_:Nat=>[mi 0]) (λ_ O'=>O'=O1) (λx=>x) (0) ?_ ?_;rfl;rintro j O3 e3;rw[e3];refine ν eA ?_;exact aB.mk () rfl;rintro _ O3 e3;rw[e3];refine ο eA fK ?_;exact aK
def App.at(h:App O B sz tk)(hn:O.N<=O'.N)(hi:∀i,Tok.id tk=φ i->O'.hp i=O.hp i):App O' B sz tk:=by
 cases tk with
 | own t k=>exact⟨h.1,(hi t rfl).trans h.2.1,h.2.2.1,Th h.2.2.2 hn⟩
 | nil=>trivial
 | full=>trivial
 | au=>exact h.elim
def App.tok(h:App O B sz tk)(e:Tok.id tk=φ i):O.hp i=φ .tok:=by
 cases tk with
 | own t k=>injection e with e;subst e;exact h.2.1
 | nil=>cases e
 | full=>cases e
 | au=>cases e
structure rQ where
 k:Ky
 v:Bs
 s:Int
 o:Bool
 x:List iB
def eZ(n:rQ):Η:=iP n.k++ze (γ,n.v,[]) .au++[mi n.s,mb n.o,.l (Ζ n.x) (n.x.flatMap cM) .au]
def qH(x:rQ):(eZ x).length=10:=rfl
def Ar(L:List rQ):dz (L.flatMap eZ)=L.flatMap eZ:=lx (λx=>by simp only[eZ,iP,ze,agb,af_,aq,bB,wu,pO,WT,akf]) L
def VB(F:rQ):dz (eZ F)=eZ F:=by simpa using Ar [F]
def gQ(d:Dp):rQ:=⟨j4 (eo d),d.v,max d.s 1,d.o==1,d.x⟩
def Vy.ok{d:Dp}(h:Vy d):FY (eo d):=by
 have h1:=h.g.2;have h2:=h.a.2;have h3:=h.v.2;have h4:=h.t.2;have h5:=h.c.2;refine⟨?_,?_,?_,?_,?_,h.x⟩<;>(simp only[eo];first | omega | skip)
 unfold zg;split;decide;omega
def aeu(hw:O.hp wb=φ (.cells (vA tb bb g p tw)))(lZ:wb<O.N)(hq:∀d∈p.ft,Vy d)(hL:Ζ p.ft<=900)(hne:p.ft.Pairwise λx y=>j4 (eo x)≠j4 (eo y))(t:Tok):
  VF Ε 140 [.p wb 0,.l 0 [] t] O (aH λm O'=>(∃t',m= .l (Ζ p.ft) ((p.ft.map gQ).flatMap eZ) t')/\O.Ge O'):=by
 have Dw:=λ(O':VH)(g':O.Ge O')(d:Dp)(w:Bs)(hd:Vy d)(uW:Ζ w<=1000)=>aes (O:=O') (wb:=wb) (tb:=tb) (bb:=bb) (g:=g) (p:=p) (tw:=tw) ((g'.hp _ lZ).trans hw) (Th lZ g'.N) d w hd uW
 obtain⟨g1,g2,g3⟩:=g;obtain⟨b,⟨pg,pa,pv⟩,pG,pA,pV,pk,P,M,L⟩:=p;dsimp only at hq hL hne ⊢;simp only[vA,cD,iR,agb,af_]at hw;have dD:=bk iQ L;have lC:Ga (lq [(0,1),(1,1)]) [.l 0 [] .nil,.v (.map Β)] (.map O.N) [] (φ (1,1))=φ [.l 0 [] .nil,.map O.N]:=rfl;refine ω 76 [.tmp 4] func140 ?_;refine κ eA ?_;refine ξ eA lC ?_;refine VC.gen ?_;intro O1 e1;obtain⟨aK,dd,ET,fK⟩:=iY _ _ e1;clear e1;have MY:=(aK.hp _ lZ).trans hw;refine κ eA ?_;refine Ξ [6] (λx:List rQ×Tok=>[.l (Ζ x.1) (x.1.flatMap eZ) x.2]) (λx O'=>O.Ge O'/\x.1=L.map gQ) ?_ ?_;rotate_left;rintro⟨R,t'⟩ O9 ⟨bI,rfl⟩;dsimp only;refine ν eA ?_;rw[akc];exact⟨⟨t',rfl⟩,bI⟩;refine ξ eA MY ?_;refine χ ?_;refine Θ [6,20] [0,1,5,18,19] (λx:Nat×List rQ×Tok=>[.l (Ζ x.2.1) (x.2.1.flatMap eZ) x.2.2,mi x.1]) (λx O'=>x.1<=(Ζ L)/\x.2.1=(L.take x.1).map gQ/\O.Ge O'/\O.N+2<=O'.N/\App O' O.N 10 x.2.2/\∃Mj cm tk,Vz O' (O.N+1) O.N O.N ((L.take x.1).map eo) Mj cm tk/\(∀q∈Mj,∃d∈L.take x.1,q.1=dK (j4 (eo d)))/\∀i,Tok.id tk=φ i->Tok.id x.2.2≠φ i) (λx=>(Ζ L) - x.1) ((0,[],.nil)) ?_ ?_;exact⟨alO _,rfl,aK,by omega,trivial,[],0,.nil,⟨fK,ET,⟨by simp,by simp⟩,trivial,⟨by omega,by omega⟩,by omega⟩,by simp,λi h=>by cases h⟩;rintro⟨j,R,tl⟩ O2 ⟨hj,hR,aC,fc,DP,Mj,cm,tk,hG2,hMj,JF⟩;dsimp only at hj hR DP JF ⊢;by_cases aM:j<Ζ L;rotate_left
 ·obtain rfl:j=Ζ L:=by omega
  rw[alR]at hR;refine ν eA ?_;exact aB.mk (R,tl) ⟨aC,hR⟩
 have Rr:Ζ R=j:=by rw[hR,akc,ake];omega
 have bG:=c9 iQ L j aM;have di:=dU L j aM;have R8:=hq L[j] (ap5 aM)
 have dh:∀q∈Mj,q.1≠dK (j4 (eo L[j])):=λq VD=>by
  obtain⟨x,hx,e⟩:=hMj q VD;obtain⟨i,hi,e2⟩:=akd.1 hx;rw[ake]at hi;rw[aqe]at e2;have:=(ap3.1 hne) i j (by omega) aM (by omega);rw[e2]at this;intro e3;rw[e]at e3;apply this;revert e3;generalize j4 (eo x)=K1;generalize j4 (eo L[j])=K2;obtain⟨a1,a2,a3,a4⟩:=K1;obtain⟨b1,b2,b3,b4⟩:=K2;simp[dK]
 have hRn:(L.take (j+1)).map gQ=(L.take j).map gQ++[gQ L[j]]:=by rw[di,ap_];rfl
 have oR:∃x∈L.take (j+1),dK (j4 (eo L[j]))=dK (j4 (eo x)):=⟨L[j],by rw[di];exact aqf _ (aga.2 rfl),rfl⟩
 have hold:∀q∈Mj,∃x∈L.take (j+1),q.1=dK (j4 (eo x)):=λq h=>by
  obtain⟨x,hx,e⟩:=hMj q h;exact⟨x,by rw[di];exact List.mem_append_left _ hx,e⟩
 generalize L[j]=d at*;have anC:=R8.ok;have Gr:=λO'=>NM (eo d) O'
 have zc:=λ(O':VH)(tx:Tok)=>aaV (eo d) tx O' R8.x
 have uK:=λ(O':VH)(w:Bs)=>R7 wb O' d.v w (alU R8.v.2 (by decide)) R8.vp
 have Gb:(d.v==[])=γ:=by simpa using R8.vn
 have ajo:=λO'=>Vx (j+1) O' (by omega)
 have AI:=vf (j+1);have cA:=jSx j;have hud:dz (aX d)=aX d:=by simpa using nq [d]
 have ajp:=λ(O':VH)(g':O.Ge O')(w:Bs)(uW:Ζ w<=1000)=>Dw O' g' d w R8 uW
 clear Dw;have anD:=R8.x;clear R8 hq;have Vw:gQ d=⟨j4 (eo d),d.v,max d.s 1,d.o==1,d.x⟩:=rfl;generalize gQ d=F at Vw hRn;have hrF:eo d=⟨d.g,d.a,d.v,zg d.t,d.c,d.s,d.o,d.x⟩:=rfl;have apu:dz (aX (eo d))=aX (eo d):=by simpa using nq [eo d]
 have NT:(L.take (j+1)).map eo=(L.take j).map eo++[eo d]:=by rw[di,ap_];rfl
 have hav:=λ(O':VH)(hG:Vz O' (O.N+1) O.N O.N ((L.take j).map eo) Mj cm tk)(h2:O.N<=O'.N)=>ak_ hG (eo d) anC (by rw[akc,ake];omega) h2 dh
 generalize eo d=D at*;obtain⟨dg,da,dv,dt,dc,mI,dO,dx⟩:=d;dsimp only at hrF Vw uK Gb anD;generalize zg dt=T at hrF;subst hrF;generalize j4 ⟨dg,da,dv,T,dc,mI,dO,dx⟩=K at*;obtain⟨k1,k2,k3,k4⟩:=K;simp only[aX,aq,iP,ze,bB,WT,akf]at bG Gr zc ajp uK hav;refine κ eA ?_;refine κ eA ?_;refine Γ (χ ?_);refine ξ eA bG ?_;refine VC.al ?_;rintro O3 ⟨aJ,kD,ij⟩;refine ξ eA cA ?_;refine Ω (ajo _) ?_;refine ae eA ?_
 have Vs:(100::101::112::101::110::100::101::110::99::121::91::(nP (j+1)++[93])).length<=1000:=by
  simp only[abx,Ti,WT];omega
 generalize (100::101::112::101::110::100::101::110::99::121::91::(nP (j+1)++[93]))=W at*;refine ξ @eA @kD ?_;refine τ (ajp O3 (aC.trans aJ) W Vs) ?_;rintro _ O4 ⟨rfl,aT⟩;refine ae @eA ?_;refine τ (zc _ _) ?_;rintro _ O5 ⟨rfl,bO⟩;have mA:=(aT.trans bO).at kD;have eJ:=(aT.trans bO).N;refine ao @eA @mA ?_;refine VC.gen ?_;intro O6 e6;have anE:O2.Ge O6:=by rw[e6];exact((aJ.trans aT).trans bO).set (Nat.le_refl _) _
 have oo:O6.hp O2.N=φ (.cells [.s dg,.s da,.s dv,.s T,.s dc,.v (Ι Κ mI),.v (Ι Κ dO),.l (Ζ dx) (dx.flatMap cM) .au]):=by rw[e6];exact υ _ _ _
 have oD:O2.N+1<=O6.N:=by rw[e6];show _<=O5.N;omega
 clear e6 mA;refine θ (aE eA oo Gb ?_);refine Ξ [0,1,5,6,8,10,18,19,20] (λnb:Nat=>[.p wb 0,.l 0 [] t,.p (O.N+1) 0,.l (Ζ R) (R.flatMap eZ) tl,.p O2.N 0,.p nb 0,.l (Ζ L) (L.flatMap aX) .au,.v (Ι Κ (Ζ L)),.v (Ι Κ j)]) (λnb O'=>O6.Ge O'/\O6.N<=nb/\nb<O'.N/\O'.hp nb=φ (.cells (eZ F))) ?_ ?_;subst Vw;refine VC.Dr [17] (O2.N) (λO'=>O6.N<=O'.N/\∀i,i<O6.N->i≠O2.N->O'.hp i=O6.hp i) (oo) (λX=>⟨YI _,λi _ h=>π _ _ h⟩) ?_;intro X;refine aqK (m:=.agg [.s dg,.s da,.s dv,.s T,.s dc,.v (Ι Κ mI),.v (Ι Κ dO),.l (Ζ dx) (dx.flatMap cM) .au]) 0 (λ_ h=>h.1) (λ_ h=>h) ?_ ?_;exact ff eA;simp only[ak];refine ρ 2 eA ?_;refine ρ 3 eA ?_;refine aqK (m:=.s dv) 4 (λ_ h=>h.1) (λ_ h=>h) ?_ ?_;exact ff eA;simp only[ak];refine ρ 5 eA ?_;refine ρ 7 eA ?_;refine aqK (m:=.v (Ι Κ mI)) 8 (λ_ h=>h.1) (λ_ h=>h) ?_ ?_;exact ff eA;simp only[ak];refine ρ 9 eA ?_;refine ρ 10 eA ?_;refine aqK (m:=.v (Ι Κ dO)) 11 (λ_ h=>h.1) (λ_ h=>h) ?_ ?_;exact ff eA;simp only[ak];refine ρ 12 eA ?_;refine ρ 13 eA ?_;refine aqK (m:=.l (Ζ dx) (dx.flatMap cM) .au) 14 (λ_ h=>h.1) (λ_ h=>h) ?_ ?_;exact ff eA;simp only[ak];((((((have mY:∀A B:VH,A.Ge B->(A.hp O2.N=φ (.obj X)/\O6.N<=A.N/\∀i,i<O6.N->i≠O2.N->A.hp i=O6.hp i)->(B.hp O2.N=φ (.obj X)/\O6.N<=B.N/\∀i,i<O6.N->i≠O2.N->B.hp i=O6.hp i):=λA B g h=>⟨g.at h.1,alU h.2.1 g.N,λi h1 h2=>(g.hp i (by omega)).trans (h.2.2 i h1 h2)⟩);have hJ8:(O6.set O2.N (.obj X)).hp O2.N=φ (.obj X)/\O6.N<=(O6.set O2.N (.obj X)).N/\∀i,i<O6.N->i≠O2.N->(O6.set O2.N (.obj X)).hp i=O6.hp i:=⟨υ _ _ _,YI _,λi _ h=>π _ _ h⟩);generalize O6.set O2.N (.obj X)=O8 at*;have xn:∀A:VH,A.Ge (A.push (.cells [.s [],.s [],.s [],.s [],.v (.bool γ),.s [],.l 0 [] .nil,.v (Ι Κ 0),.v (.bool γ),.l 0 [] .nil])):=λA=>(VH.Ge.refl A).push _);have hpn:∀A:VH,(A.push (.cells [.s [],.s [],.s [],.s [],.v (.bool γ),.s [],.l 0 [] .nil,.v (Ι Κ 0),.v (.bool γ),.l 0 [] .nil])).hp A.N=φ (.cells [.s [],.s [],.s [],.s [],.v (.bool γ),.s [],.l 0 [] .nil,.v (Ι Κ 0),.v (.bool γ),.l 0 [] .nil]):=λA=>ζ _ _);refine aqJ (i:=1) (j:=16) ?_ ?_);refine aI.lr (Gr O8) ?_;rintro _ O9 ⟨rfl,bI⟩;simp only[ak];have R9:=mY _ _ bI hJ8;refine⟨R9,?_⟩;refine aqJ (i:=6) (j:=16) ?_ ?_;refine aI.lr (uK O9 W) ?_;rintro _ fM ⟨rfl,R_⟩;simp only[ak];have Bj:=mY _ _ R_ R9;refine⟨Bj,?_⟩;refine ρ 15 eA ?_;refine ab.op (i:=16) ?_;refine ae eA ?_;have FZ:=mY _ _ (xn fM) Bj;refine⟨⟨Bj.1,FZ.2⟩,?_⟩;have hz:=hpn fM;have hl:=ap4 fM.N;have h6:=Bj.2.1;have nX:=FZ;refine ab.lA [(17,.one)] ?_;have n_:=(π (k:=O2.N) _ (.cells [.s dg,.s da,.s dv,.s T,.s dc,.v (Ι Κ mI),.v (Ι Κ dO),.l (Ζ dx) (dx.flatMap cM) .au]) (show fM.N≠O2.N by omega)).trans hz;refine aE eA hz n_ ?_;refine aB.mk fM.N ⟨⟨nX.2.1,λi h1=>?_⟩,h6,hl,υ _ _ _⟩;rw[VH.sx];by_cases e:i=O2.N;subst e;rw[υ];exact oo.symm;rw[π _ _ e];exact nX.2.2 i h1 e;refine aI.o1 ?_;refine ae eA ?_;have Bj:=mY _ _ (xn O9) R9;refine⟨⟨R9.1,Bj.2⟩,?_⟩;refine ab.call (i:=6) (uK _ W) ?_;rintro _ rR ⟨rfl,r4⟩;simp only[ak];have FZ:=mY _ _ r4 Bj;refine⟨FZ,?_⟩;refine ρ 15 eA ?_;have hz:=(r4.hp _ (ap4 _)).trans (hpn O9);have hl:=Th (ap4 O9.N) r4.N;have h6:=R9.2.1;have nX:=FZ;refine ab.lA [(17,.one)] ?_;have n_:=(π (k:=O2.N) _ (.cells [.s dg,.s da,.s dv,.s T,.s dc,.v (Ι Κ mI),.v (Ι Κ dO),.l (Ζ dx) (dx.flatMap cM) .au]) (show O9.N≠O2.N by omega)).trans hz;refine aE eA hz n_ ?_;refine aB.mk O9.N ⟨⟨nX.2.1,λi h1=>?_⟩,h6,hl,υ _ _ _⟩;rw[VH.sx];by_cases e:i=O2.N;subst e;rw[υ];exact oo.symm;rw[π _ _ e];exact nX.2.2 i h1 e);refine aI.o1 ?_;refine ae eA ?_;have R9:=mY _ _ (xn O8) hJ8;refine⟨⟨hJ8.1,R9.2⟩,?_⟩;refine ab.call (i:=1) (Gr _) ?_;rintro _ fM ⟨rfl,R_⟩;simp only[ak];have Bj:=mY _ _ R_ R9;refine⟨Bj,?_⟩;refine ab.call (i:=6) (uK _ W) ?_;rintro _ rR ⟨rfl,r4⟩;simp only[ak];have FZ:=mY _ _ r4 Bj;refine⟨FZ,?_⟩;refine ρ 15 eA ?_;have hz:=((R_.trans r4).hp _ (ap4 _)).trans (hpn O8);have hl:=Th (ap4 O8.N) (R_.trans r4).N;have h6:=hJ8.2.1;have nX:=FZ;refine ab.lA [(17,.one)] ?_;have n_:=(π (k:=O2.N) _ (.cells [.s dg,.s da,.s dv,.s T,.s dc,.v (Ι Κ mI),.v (Ι Κ dO),.l (Ζ dx) (dx.flatMap cM) .au]) (show O8.N≠O2.N by omega)).trans hz;refine aE eA hz n_ ?_;refine aB.mk O8.N ⟨⟨nX.2.1,λi h1=>?_⟩,h6,hl,υ _ _ _⟩;rw[VH.sx];by_cases e:i=O2.N;subst e;rw[υ];exact oo.symm;rw[π _ _ e];exact nX.2.2 i h1 e
 rintro nb O7 ⟨fG,apv,hnb,hx7⟩;have anF:=fG.at oo;have X5:=anE.trans fG;have anG:=aC.trans X5;have xp:=fG.N;simp only[eZ,iP,ze,bB,aq,WT,akf,agb,af_]at hx7;refine ξ eA anF ?_;refine τ (hav O7 (hG2.ge X5) (by omega)) ?_;rintro _ O8 ⟨⟨tk8,Gx,anH⟩,Es,rO⟩;have hc8:=Gx.cell;have ala:((L.take j).map eo++[({g:=dg,a:=da,v:=dv,t:=T,c:=dc,s:=mI,o:=dO,x:=dx}:Dp)]).length=j+1:=by rw[Ti,akc,ake];simp;omega
 rw[ala,Rr.symm]at hc8;have RB:=(rO nb hnb (by omega) (by omega) (λe=>by have:=(App.nZ hG2.app e).2;omega)).trans hx7;refine ae eA ?_;have dm:decide ((Ζ R:Int)<((Ζ R+1:Nat):Int))=Α:=by rw[decide_eq_true_iff];omega
 have lN:=DP.ge X5;have hG7:=hG2.ge X5;have FP:App O8 O.N 10 tl:=lN.at Es λi e=>rO i (lN.nZ e).2 (λe2=>by have:=lN.tok e;rw[e2,hG7.cell]at this;cases this) (λe2=>by have:=lN.tok e;rw[e2,hG7.map]at this;cases this) (λe2=>JF i e2 e)
 obtain⟨mE,ik,ns⟩:=iH (n:=Ζ R) (cs:=R.flatMap eZ) (ds:=[.s k1,.s k2,.s k3,.s k4,.v (.bool γ),.s F.v,.l 0 [] .au,.v (Ι Κ F.s),.v (.bool F.o),.l (Ζ F.x) (F.x.flatMap cM) .au]) (es:=eZ F) La Qs.1.1 FP (bk qH R) rfl rfl (by decide) (by omega) (by simp only[maxLen];omega) (Ar R) (by subst Vw;exact VB ⟨⟨k1,k2,k3,k4⟩,dv,max mI 1,dO==1,dx⟩);subst Vw;refine ι (cB eA hc8 RB dm ?_);refine aqM ik ns ?_;refine ae eA ?_;refine ο eA cA ?_;have Sa:=cy.after FP
 have nv:O.Ge O8:=⟨by omega,λi h1=>by
  rw[rO i (by omega) (by omega) (by omega) (λe=>by have:=(App.nZ hG7.app e).1;omega)];exact anG.hp i h1⟩
 have U_:(R++[(⟨⟨k1,k2,k3,k4⟩,dv,max mI 1,dO==1,dx⟩:rQ)]).flatMap eZ=R.flatMap eZ++eZ ⟨⟨k1,k2,k3,k4⟩,dv,max mI 1,dO==1,dx⟩:=by simp only[ap6,aqj,akf,List.append_nil]
 have Mp:(R++[(⟨⟨k1,k2,k3,k4⟩,dv,max mI 1,dO==1,dx⟩:rQ)]).length=Ζ R+1:=Ti;refine az.N (j+1,R++[⟨⟨k1,k2,k3,k4⟩,dv,max mI 1,dO==1,dx⟩],.own O8.N 10) ⟨aM,?_,cy.eR nv FP Sa,by have:=Sa.N;omega,App.after,Mj++[(dK ⟨k1,k2,k3,k4⟩,.v (.bool Α),cm)],cm+1,tk8,?_,?_,?_⟩ (hl:=(by dsimp only;rw[U_,Mp];rfl));rw[hRn,hR];dsimp only;rw[NT];(((have ajq:∀i,Tok.id tl=φ i->O8.hp i=φ .tok:=λi e=>FP.tok e);refine⟨(Sa.hp _ (by omega) (λe=>by have:=ajq _ e;rw[Gx.cell]at this;cases this)).trans Gx.cell,(Sa.hp _ (by omega) (λe=>by have:=ajq _ e;rw[Gx.map]at this;cases this)).trans Gx.map,Gx.ok,Gx.app.at Sa.N λi e=>Sa.hp i (Gx.app.nZ e).2 (λe2=>by have h1:=anH i e;have h2:=(lN.nZ e2).2;omega),⟨by have:=Sa.N;have:=Gx.lt;omega,by have:=Sa.N;have:=Gx.lt;omega⟩,Gx.ne⟩);intro q VD;rcases alP.1 VD with h | h;exact hold q h;rw[aga]at h;subst h;exact oR);intro i e e2;injection e2 with e2;have:=(Gx.app.nZ e).2;omega
def du:=Ca eA<|Ca jk<|Ca HZ<|Ca La<|Ca Qs<|Ca T44 aiJ
def VE(L:List rQ)(tk:Tok)(O:VH)(hn:Ζ L<=100000):VF Ε 129 [.l (Ζ L) (L.flatMap eZ) tk] O (aH λm O'=>O.Ge O'/\GR O' 221 10 O.N m (Ζ L) (L.flatMap eZ)):=by
 have dD:=bk qH L
 have jy:(L.flatMap eZ).all eI=Α:=by
  rw[List.all_flatMap,List.all_eq_true];intro p _;rfl
 refine Υ 8 [.tmp 2] func129 ?_;refine ao du @oZ ?_;refine VL.rB (qZ Tryz.underlying213 rfl) ?_;rintro _ O1 ⟨eO,b,rfl,hb⟩;rw[eO];clear eO O1;refine WL.sound aa ?_;cases b;refine ae du ?_;refine VL.grow aa (.inl rfl) (te:=⟨_,10,_,_⟩) (B:=O.N) (n':=0) (L:=[]) (dx:=.slice 221) (p:=.l 0 [] .full) (q:=.l (Ζ L) (L.flatMap eZ) tk) (j:=Ζ L) (ds:=L.flatMap eZ) (.inl ⟨rfl,rfl,.inr rfl⟩) (by simp[CU,dD]) jy (by rw[La];rfl) Qs.1.1 (by rw[La];rfl) trivial (by dsimp only;omega) (by simp only[maxLen];omega) (YI _) rfl rfl rfl rfl ?_;intro m O' h1 h2 h3 h4;rw[alQ,af_]at h1;refine ae du ?_;exact⟨h3 rfl,h1⟩;obtain⟨h0,h1⟩:=hb rfl;rw[h0,h1];refine ae du ?_;exact⟨VH.Ge.refl _,.inl ⟨rfl,rfl,.inl rfl⟩⟩
def IS(tk:Tok)(O:VH):VF Ε 81 [.l 0 [] tk] O (aH λm O'=>m= .l 0 [] .au/\O'=O):=by
 refine VF.wkR (Φ :=λm O'=>(m= .l 0 [] .full\/m= .l 0 [] .nil)/\O'=O) ?_ λm O' h=>⟨_,(by rcases h.1 with e | e<;>rw[e]<;>exact Wk.tok),rfl,h.2⟩
 refine Υ 8 [.tmp 2] func81 ?_;refine ao du @oZ ?_;refine VL.rB (qZ Tryz.underlying44 rfl) ?_;rintro _ O1 ⟨eO,b,rfl,hb⟩;rw[eO];clear eO O1;refine WL.sound aa ?_;cases b;refine ae du ?_;refine VL.app (m:=.l 0 [] .full) (O':=O) (by simp[jx,T44,aiJ.1.1]) ?_ (ht:=aa) (hx:=rfl) (hy:=rfl);refine ae du ?_;exact .inl trivial;refine ae du ?_;exact .inr trivial
structure Mdl where
 g:Gv
 pk:Bs
 props:List (Bs×Bs)
 NW:List rQ
def nT(m:Mdl):Η:=cD m.g++[.s m.pk,.l (Ζ m.props) (m.props.flatMap bH) .au,.l 0 [] .au,.l (Ζ m.NW) (m.NW.flatMap eZ) .au]
def ahP(m:Mdl)(O:VH)(hp:Ζ m.props<=10000)(hn:Ζ m.NW<=10000)(hx:∀n∈m.NW,Ζ n.x<=10000):VF Ε 104 [.agg (nT m)] O (aH λr O'=>r= .agg (nT m)/\O.Ge O'):=by
 refine VF.fg ?_;obtain⟨⟨g1,g2,g3⟩,pk,P,L⟩:=m;dsimp only at hp hn hx;simp only[nT,cD,agb,af_];have dD:=bk qH L;refine ω 70 [.cell 2 215] func104 ?_;refine κ du ?_;refine VC.gen ?_;intro O1 e1;obtain⟨aK,dd,cJ,cC⟩:=iY _ _ e1;clear e1;refine Γ ?_;refine VC.pI [10,11,12,13,14] (O.N) (cJ) ?_;intro X;refine ρ 0 du ?_;refine δ (m:=.l (Ζ P) (P.flatMap bH) .au) 1 ?_ ?_;exact ff du;simp only[ak];refine ρ 3 du ?_;refine δ (m:=.l 0 [] .au) 4 ?_ ?_;exact ff du;simp only[ak];refine ρ 6 du ?_;refine δ (m:=.l (Ζ L) (L.flatMap eZ) .au) 7 ?_ ?_;exact ff du;simp only[ak];have NO:(O1.set O.N (.obj X)).hp O.N=φ (.obj X):=υ _ _ _;have cn:∀i,i≠O.N->(O1.set O.N (.obj X)).hp i=O1.hp i:=λi h=>π _ _ h
 have fc:(O1.set O.N (.obj X)).N=O1.N:=rfl;generalize O1.set O.N (.obj X)=O2 at*;refine ab.call (i:=2) (Iz P .au O2) ?_;rintro _ O3 ⟨rfl,aJ⟩;simp only[ak];refine⟨aJ.at NO,?_⟩;refine ρ 9 du ?_;refine ab.call (i:=5) (Vb [] .au O3 (by decide)) ?_;rintro _ O4 ⟨rfl,aT⟩;simp only[ak];refine⟨(aJ.trans aT).at NO,?_⟩;refine ab.call (i:=8) (VE L .au O4 (by omega)) ?_;rintro mN O5 ⟨bO,mS⟩;simp only[ak];have F0:=(aJ.trans aT).trans bO;refine⟨F0.at NO,?_⟩;refine aqQ [(10,.one),(11,.bh),(12,.one),(13,.bh),(14,.one)] ?_;simp only[WT,akf];have dW:=F0.at NO;have dG:=F0.at ((cn _ (by omega)).trans cC);have eJ:=F0.N;have dS:∀i,i<O.N->O5.hp i=O.hp i:=λi h=>(F0.hp i (by omega)).trans ((cn i (by omega)).trans (aK.hp i h))
 rcases mS with⟨h0,_,hp⟩ | ⟨k,c,rfl,C0,_,cU⟩;obtain rfl:L=[]:=ap7 h0;rcases hp with rfl | rfl;refine ae du ?_;refine VC.gen ?_;intro O6 e6;((((((((have oo:O6.hp O.N=φ (.cells [.s g1,.s g2,.s g3,.s pk,.l (Ζ P) (P.flatMap bH) .au,.l 0 [] .au,.l 0 [] .nil]):=by rw[e6];exact υ _ _ _);have lP:∀i,i<O5.N->i≠O.N->O6.hp i=O5.hp i:=λi h1 h2=>by rw[e6,π _ _ h2,π _ _ h2,π _ _ h2,π _ _ h2]);have oD:O6.N=O5.N:=by rw[e6];rfl);clear e6;have jr:=(lP (O.N+1) (by omega) (by omega)).trans dG;refine Ξ [1,2] (λ_:Unit=>[.p O.N 0,.p (O.N+1) 0]) (λ_ O'=>O'=O6) ?_ ?_);refine ξ du oo ?_;refine χ ?_;refine Θ [20] [1,2,19] (λ_:Nat=>[mi 0]) (λ_ O'=>O'=O6) (λx=>x) (0) ?_ ?_;rfl;rintro _ O7 e7;rw[e7];refine ν du ?_;exact aB.mk () rfl);rintro _ O7 e7;rw[e7];clear e7 O7;refine Ξ [1,2] (λ_:Unit=>[.p O.N 0,.p (O.N+1) 0]) (λ_ O'=>O'=O6) ?_ ?_);refine ξ du oo ?_;refine χ ?_;refine Θ [39] [1,2,38] (λ_:Nat=>[mi 0]) (λ_ O'=>O'=O6) (λx=>x) (0) ?_ ?_;rfl;rintro _ O7 e7;rw[e7];refine ν du ?_;exact aB.mk () rfl);rintro _ O7 e7;rw[e7];clear e7 O7;refine ι (aE du oo jr ?_);rw[iI];exact⟨rfl,by show _<=O6.N;omega,λi h=>Δ ((lP i (by omega) (by omega)).trans (dS i h))⟩);refine ae du ?_;refine VC.gen ?_;intro O6 e6;(((((((have oo:O6.hp O.N=φ (.cells [.s g1,.s g2,.s g3,.s pk,.l (Ζ P) (P.flatMap bH) .au,.l 0 [] .au,.l 0 [] .full]):=by rw[e6];exact υ _ _ _);have lP:∀i,i<O5.N->i≠O.N->O6.hp i=O5.hp i:=λi h1 h2=>by rw[e6,π _ _ h2,π _ _ h2,π _ _ h2,π _ _ h2]);have oD:O6.N=O5.N:=by rw[e6];rfl);clear e6;have jr:=(lP (O.N+1) (by omega) (by omega)).trans dG;refine Ξ [1,2] (λ_:Unit=>[.p O.N 0,.p (O.N+1) 0]) (λ_ O'=>O'=O6) ?_ ?_);refine ξ du oo ?_;refine χ ?_;refine Θ [20] [1,2,19] (λ_:Nat=>[mi 0]) (λ_ O'=>O'=O6) (λx=>x) (0) ?_ ?_;rfl;rintro _ O7 e7;rw[e7];refine ν du ?_;exact aB.mk () rfl);rintro _ O7 e7;rw[e7];clear e7 O7;refine Ξ [1,2] (λ_:Unit=>[.p O.N 0,.p (O.N+1) 0]) (λ_ O'=>O'=O6) ?_ ?_);refine ξ du oo ?_;refine χ ?_;refine Θ [39] [1,2,38] (λ_:Nat=>[mi 0]) (λ_ O'=>O'=O6) (λx=>x) (0) ?_ ?_;rfl;rintro _ O7 e7;rw[e7];refine ν du ?_;exact aB.mk () rfl);rintro _ O7 e7;rw[e7];clear e7 O7;refine ι (aE du oo jr ?_);rw[iI];exact⟨rfl,by show _<=O6.N;omega,λi h=>Δ ((lP i (by omega) (by omega)).trans (dS i h))⟩
 obtain⟨sp,hc,gU⟩:=cU.cells;have gW:=cU.lo;have U9:=cU.hi;have fT:=(aJ.trans aT).N;refine ae du ?_;refine VC.gen ?_;intro O6 e6;have oo:O6.hp O.N=φ (.cells [.s g1,.s g2,.s g3,.s pk,.l (Ζ P) (P.flatMap bH) .au,.l 0 [] .au,.aS k 0 (Ζ L) c]):=by rw[e6];exact υ _ _ _
 have lP:∀i,i<O5.N->i≠O.N->O6.hp i=O5.hp i:=λi h1 h2=>by rw[e6,π _ _ h2,π _ _ h2,π _ _ h2,π _ _ h2]
 have oD:O6.N=O5.N:=by rw[e6];rfl
 clear e6;have jr:=(lP (O.N+1) (by omega) (by omega)).trans dG;refine Ξ [1,2] (λ_:Unit=>[.p O.N 0,.p (O.N+1) 0]) (λ_ O'=>O'=O6) ?_ ?_;refine ξ du oo ?_;refine χ ?_;refine Θ [20] [1,2,19] (λ_:Nat=>[mi 0]) (λ_ O'=>O'=O6) (λx=>x) (0) ?_ ?_;rfl;rintro _ O7 e7;rw[e7];refine ν du ?_;exact aB.mk () rfl;rintro _ O7 e7;rw[e7];clear e7 O7;have AM:=(lP k (by omega) (by omega)).trans hc;refine Ξ [1,2] (λ_:Unit=>[.p O.N 0,.p (O.N+1) 0]) (λ_ O'=>O6.Ge O') ?_ ?_
 ·refine ξ du oo ?_;refine χ ?_;refine Θ [39] [1,2,38] (λj:Nat=>[mi j]) (λj O'=>O6.Ge O'/\j<=Ζ L) (λj=>(Ζ L) - j) (0) ?_ ?_;exact⟨VH.Ge.refl _,alO _⟩;rintro j O7 ⟨fG,hj⟩;by_cases aM:j<Ζ L;rotate_left
  ·obtain rfl:j=Ζ L:=by omega
   refine ν du ?_;exact aB.mk () fG
  have X6:=fG.at oo;have X7:=(fG.hp k (by omega)).trans AM;have bG:(L.flatMap eZ++sp)[j*10+9]?=φ (.l L[j].x.length (L[j].x.flatMap cM) .au):=lD qH (List.getElem?_eq_getElem aM) rfl;have aev:(L.flatMap eZ++sp)[j*10+6]?=φ (.l 0 [] .au):=lD qH (List.getElem?_eq_getElem aM) rfl;have RF:=hx L[j] (List.getElem_mem aM);generalize L[j].x=X at*;generalize L.flatMap eZ++sp=C at*;have fz:=Aq bG;have n8:=Aq aev;have Np:=(List.getElem?_eq_some_iff.1 bG).1;have cA:=jSx j;have xp:=fG.N;refine κ du ?_;refine κ du ?_;refine Γ (χ ?_);refine κ du ?_;refine Γ ?_;refine VC.Dq [10,11,12] (O.N) (k) (X6) (X7) ?_ (hne:=(by omega));intro X1 X2;refine ρ 0 du ?_;refine aqK (m:=.aS k 0 (Ζ L) c) 1 (λ_ h=>h.1) (λ_ h=>h.1) ?_ ?_;exact ff du;simp only[ak];refine ρ 2 du ?_;refine ρ 3 du ?_;refine aqK (m:=.aS k 0 (Ζ L) c) 4 (λ_ h=>h.1) (λ_ h=>h.1) ?_ ?_;exact ff du;simp only[ak];refine ρ 5 du ?_;refine ρ 6 du ?_;refine ρ 7 du ?_;refine aqK (m:=.l (Ζ X) (X.flatMap cM) .au) 8 (λ_ h=>h.2) (λ_ h=>h.2) ?_ ?_;exact eD du bG;simp only[ak];have ajr:QW O.N k X1 X2 ((O7.set O.N (.obj X1)).set k (.obj X2)):=⟨Δ (υ _ _ _),υ _ _ _⟩;have apw:((O7.set O.N (.obj X1)).set k (.obj X2)).N=O7.N:=rfl;((have anI:∀i,i≠O.N->i≠k->((O7.set O.N (.obj X1)).set k (.obj X2)).hp i=O7.hp i:=λi h1 h2=>by rw[π _ _ h2,π _ _ h1]);generalize (O7.set O.N (.obj X1)).set k (.obj X2)=O8 at*;refine ab.call (i:=9) (wG X .au O8) ?_;rintro _ O9 ⟨rfl,NI⟩;have X8:VH.Ge O8 O9:=by first | exact NI | (rw[NI];exact VH.Ge.refl _));clear NI;simp only[ak];refine⟨⟨X8.at ajr.1,X8.at ajr.2⟩,?_⟩;refine ab.wB [(10,.bh),(11,.bh),(12,.one)] ?_ (hne:=(by omega));refine aE du bG fz ?_;refine VC.gen ?_;intro fM aew
  have NX:VH.Ge O7 fM:=by
   refine⟨by rw[aew];show _<=VH.N O9;have:=X8.N;omega,λi h=>?_⟩;rw[aew];by_cases e1:i=k;subst e1;first | (rw[υ];exact X7.symm) | (rw[υ];exact X7.symm)
   ·by_cases e2:i=O.N;subst e2;first | (rw[π _ _ e1,π _ _ e1,υ];exact X6.symm) | (rw[π _ _ e1,υ];exact X6.symm)
    ·(first | rw[π _ _ e1,π _ _ e1,π _ _ e2] | rw[π _ _ e1,π _ _ e2]);exact(X8.hp i (by omega)).trans (anI i e2 e1)
  clear aew;have VG:=NX.at X6;have VI:=(NX.hp k (by omega)).trans X7;have ao2:=NX.N;refine VC.Dq [11,12,13,14] (O.N) (k) (VG) (VI) ?_ (hne:=(by omega));intro X3 X4;refine ρ 0 du ?_;refine aqK (m:=.aS k 0 (Ζ L) c) 1 (λ_ h=>h.1) (λ_ h=>h.1) ?_ ?_;exact ff du;simp only[ak];refine ρ 2 du ?_;refine ρ 3 du ?_;refine aqK (m:=.aS k 0 (Ζ L) c) 4 (λ_ h=>h.1) (λ_ h=>h.1) ?_ ?_;exact ff du;simp only[ak];refine ρ 5 du ?_;refine ρ 6 du ?_;refine ρ 7 du ?_;refine ρ 8 du ?_;refine aqK (m:=.l 0 [] .au) 9 (λ_ h=>h.2) (λ_ h=>h.2) ?_ ?_;exact eD du aev;simp only[ak];have aex:QW O.N k X3 X4 ((fM.set O.N (.obj X3)).set k (.obj X4)):=⟨Δ (υ _ _ _),υ _ _ _⟩;have ao3:((fM.set O.N (.obj X3)).set k (.obj X4)).N=fM.N:=rfl;((have alb:∀i,i≠O.N->i≠k->((fM.set O.N (.obj X3)).set k (.obj X4)).hp i=fM.hp i:=λi h1 h2=>by rw[π _ _ h2,π _ _ h1]);generalize (fM.set O.N (.obj X3)).set k (.obj X4)=rR at*;refine ab.call (i:=10) (IS .au rR) ?_;rintro _ AQ ⟨rfl,NI⟩;have NY:VH.Ge rR AQ:=by first | exact NI | (rw[NI];exact VH.Ge.refl _));clear NI;simp only[ak];refine⟨⟨NY.at aex.1,NY.at aex.2⟩,?_⟩;refine ab.wB [(11,.bh),(12,.bh),(13,.bh),(14,.one)] ?_ (hne:=(by omega));refine aE du aev n8 ?_;refine VC.gen ?_;intro O13 aey
  have alc:VH.Ge fM O13:=by
   refine⟨by rw[aey];show _<=VH.N AQ;have:=NY.N;omega,λi h=>?_⟩;rw[aey];by_cases e1:i=k;subst e1;first | (rw[υ];exact VI.symm) | (rw[υ];exact VI.symm)
   ·by_cases e2:i=O.N;subst e2;first | (rw[π _ _ e1,π _ _ e1,υ];exact VG.symm) | (rw[π _ _ e1,υ];exact VG.symm)
    ·(first | rw[π _ _ e1,π _ _ e1,π _ _ e2] | rw[π _ _ e1,π _ _ e2]);exact(NY.hp i (by omega)).trans (alb i e2 e1)
  clear aey;refine ο du cA ?_;exact az.N (j+1) ⟨(fG.trans NX).trans alc,aM⟩
 rintro _ O9 bI;have hx9:=bI.at oo;have b9:=bI.at jr;have B_:=(bI.hp k (by omega)).trans AM;have AL:=bI.N;have uL:∀i,i<O.N->O9.hp i=O.hp i:=λi h=>(bI.hp i (by omega)).trans ((lP i (by omega) (by omega)).trans (dS i h))
 refine VC.Aj (A:=[.s g1,.s g2,.s g3,.s pk,.l (Ζ P) (P.flatMap bH) .au,.l 0 [] .au]) (E:=[]) (sz:=(Ζ L)*10) B_ hx9 (by omega) (by rw[Ti,dD];omega) ?_;have di:((L.flatMap eZ++sp).drop 0).take ((Ζ L)*10)=L.flatMap eZ:=by rw[aqq,alS (by rw[dD];exact YI _), <-dD,alR]
 rw[di];refine VC.gen ?_;intro fM rG;have anJ:fM.hp O.N=φ (.cells [.s g1,.s g2,.s g3,.s pk,.l (Ζ P) (P.flatMap bH) .au,.l 0 [] .au,.l (Ζ L) (L.flatMap eZ) .au]):=by rw[rG];exact υ _ _ _
 have LR:fM.hp (O.N+1)=_:=(by rw[rG,VH.sx,VH.mH _ (by omega)]:fM.hp (O.N+1)=O9.hp (O.N+1)).trans b9;have qo:∀i,i<O.N->fM.hp i=O.hp i:=λi h=>(by rw[rG,VH.sx,VH.mH _ (by omega)]:fM.hp i=O9.hp i).trans (uL i h)
 have H9:fM.N=O9.N:=by rw[rG];rfl
 clear rG;refine ι (aE du anJ LR ?_);rw[iI,Ar];exact⟨rfl,by show _<=fM.N;omega,λi h=>Δ (qo i h)⟩
structure VJ(O:VH)(bb md k:Nat)(MD:gI)(cm:Nat):Prop where
 cell:O.hp bb=φ (.cells [.p k 0,.map md])
 map:O.hp md=φ (.map (db MD) cm)
 ok:pL 3 MD
 lt:bb<O.N/\md<O.N
def VJ.ge{md:Nat}{MD:gI}(h:VJ O bb md k MD cm)(g:O.Ge O'):VJ O' bb md k MD cm:=
 ⟨(g.hp _ h.lt.1).trans h.cell,(g.hp _ h.lt.2).trans h.map,h.ok,Th h.lt.1 g.N,Th h.lt.2 g.N⟩
def Gy(s:Bs):Bs:=if s=[]then mX else s
def j5(g:Gv)(p:Pm):Mdl:=⟨g,Gy p.pk,jG p,p.ft.map gQ⟩
structure PmQ(p:Pm)(g:Gv):Prop where
 c:PmC p
 gg:p.g=g.g
 ga:p.a=g.a
 gv:p.v=g.v
 tg:jg g.g
 ta:jg g.a
 tv:jg g.v
 tp:jg p.pk
 pi:gk (Gy p.pk)=Α
 props:p.props=[]
 fF:p.fF=[]
 ft:∀d∈p.ft,Vy d
 len:Ζ p.ft<=900
 keys:p.ft.Pairwise λx y=>j4 (eo x)≠j4 (eo y)
end Go.Proofs.YtjpadehgejlebaaGreatDoor
