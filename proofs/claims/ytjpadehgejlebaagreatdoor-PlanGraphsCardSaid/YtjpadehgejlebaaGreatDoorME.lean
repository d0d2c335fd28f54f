import Derived.Test.YtjpadehgejlebaaGreatDoorMD
set_option linter.unusedVariables false
set_option linter.unusedSimpArgs false
namespace Go.Proofs.YtjpadehgejlebaaGreatDoor
open Go.RowKit
open _root_.List renaming length_append → Qm, length_nil → Qn, mem_singleton → Zj, nil_append → Zk, cons_append → adW, getElem?_eq_some_iff → adX, length_cons → adY, mem_of_getElem? → adZ, getElem?_eq_getElem → agc, mem_iff_getElem → ahJ, length_take → ahK, flatMap_nil → ahL, length_map → ahN, take_length → ahO, mem_append → ahP, take_append_of_le_length → ajk, getElem?_map → ajl, pairwise_iff_getElem → ajq, getElem_mem → ajs, flatMap_append → ajt, eq_nil_of_length_eq_zero → aju, mem_cons → ajv, mem_of_find?_eq_some → al_, map_append → am5, map_map → am7, any_eq_false → am8, getElem_take → am9, mem_append_right → am_, getElem?_append → ana, getElem?_modify → anb, getElem?_append_right → anc, flatMap_cons → ane, append_assoc → anf, getElem?_append_left → ang, ext_getElem? → anh, not_mem_nil → ani, drop_zero → anl
open _root_.Nat renaming lt_of_lt_of_le → Ma, le_refl → Vq, zero_le → ahM, zero_add → ajm, le_trans → ajn, le_succ → ajp, lt_succ_self → ajr, mul_one → ank
open _root_.And renaming intro → zP
open _root_.Option renaming map_eq_some_iff → ajo, map_some → am6
set_option maxRecDepth 10000
theorem Ek {t:Bs} {stop:UInt8}:∀(n o:Nat) (acc:Bs) {s:Bs} {o':Nat},fe t stop n o acc= .ok (s,o')->s.length+o<=acc.length+o'
 | 0,o,acc,s,o',h=>by
   unfold fe at h;injection h with h;injection h with h1 h2
   subst h1;subst h2;omega
 | n+1,o,acc,s,o',h=>by
   have done:∀(h:(.ok (acc,o):Except (Int×Nat) (Bs×Nat))= .ok (s,o')),s.length+o<=acc.length+o':=fun h=>by
    injection h with h;injection h with h1 h2
    subst h1;subst h2;omega
   unfold fe at h;cases hg:t[o]? with
   | none=>rw[hg]at h;exact done h
   | some c=>
     rw[hg]at h;simp only at h;split at h
     ·exact done h
     split at h
     ·split at h
      ·cases h
      ·rename_i h5;obtain⟨k1,k2,k3⟩:=Bg (by simpa using h5);have:=Ek n _ _ h;rw[Qm]at this;omega
     split at h
     ·cases h
     ·have:=Ek n _ _ h;rw[Qm]at this;simp only[adY,Qn]at this;omega
theorem afi {t:Bs} {o:Nat} {s:Bs} {o':Nat} (h:uR t o= .ok (s,o')):s.length+o+2<=o':=by
 unfold uR at h;split at h
 ·cases h
 split at h
 ·cases h
 split at h
 ·cases h
 rename_i s2 o2 h2;have:=Ek _ _ _ h2;split at h
 ·cases h
 ·injection h with h;injection h with h1 h3
  subst h1;subst h3
  simp only[Qn]at this;omega
theorem Yf (a b:List (Bs×Bs)):jI (a++b)=jI a+jI b:=by
 induction a with
 | nil=>rw[Zk,jI,ajm]
 | cons x a ih=>rw[adW,jI,jI,ih];omega
theorem UE {t:Bs}:∀(n o:Nat) (l:List (Bs×Bs)) {l':List (Bs×Bs)} {o':Nat},o<=t.length->mf t n o l= .ok (l',o')->jI l'+o<=jI l+o'
 | 0,o,l,l',o',ho,h=>by
   rw[mf]at h;injection h with h;injection h with h1 h2
   subst h1;subst h2;omega
 | n+1,o,l,l',o',ho,h=>by
   have vZ:=jD t o ho;rw[mf]at h;split at h
   ·injection h with h;injection h with h1 h2
    subst h1;subst h2;omega
   rename_i hc;have cD:1<=kO t o:=Nat.one_le_iff_ne_zero.2 fun e=>hc (.inl e)
   split at h
   ·cases h
   rename_i nm o2 h2;have hn:=gX h2;have cJ:=jD t o2 (by omega);split at h
   ·cases h
   split at h
   ·cases h
   rename_i y4 o4 h4;have hw:=lY h4;have dd:=jD t o4 (by omega);split at h
   ·cases h
   rename_i v o6 h6;have hv:=afi h6;have DB:=Bi h6;have:=UE n o6 _ (by omega) h;rw[Yf,jI,jI]at this;dsimp only at this;omega
theorem Cs {t:Bs} {o:Nat} {q s:Bs} {p:Nat} (h:jC t o q= .ok (s,p)):s.length+o<=p:=by
 unfold jC at h;split at h
 ·cases h
 split at h
 ·cases h
 ·rename_i h1;injection h with h;injection h with h2 h3
  have hi:0<=Lib.index (t.drop o) q:=by omega
  unfold qS at h2;rw[if_pos hi]at h2;rw[<-h2,ahK];omega
theorem afj {t:Bs} {o:Nat} {x:Tk} {o':Nat} (ho:o<=t.length) (h:nq t o= .ok (x,o')):Bt x+o<=o'/\1<=x.kind/\x.kind<=6:=by
 unfold nq at h;unfold Bt;split at h
 ·obtain⟨y,h1,rfl⟩:=jL h;have:=Cs h1;simp only[adY,Qn,jI]at this ⊢;exact⟨by omega,by decide,by decide⟩
 split at h
 ·obtain⟨y,h1,rfl⟩:=jL h;have:=Cs h1;simp only[adY,Qn,jI]at this ⊢;exact⟨by omega,by decide,by decide⟩
 split at h
 ·obtain⟨y,h1,rfl⟩:=jL h;have:=Cs h1;simp only[adY,Qn,jI]at this ⊢;exact⟨by omega,by decide,by decide⟩
 split at h
 ·unfold rO at h;split at h
  ·cases h
  rename_i nm o2 h2;have hn:=gX h2;obtain⟨y,h1,rfl⟩:=jL h;have:=lY h1;simp only[adY,Qn,jI]at this ⊢;exact⟨by omega,by decide,by decide⟩
 split at h
 ·unfold wq at h;split at h
  ·cases h
  rename_i nm o2 h2;have hn:=gX h2;split at h
  ·cases h
  rename_i l o3 h3;have ha:=UE _ _ _ (by omega) h3;rw[jI]at ha;split at h
  all_goals
   obtain⟨y,h1,rfl⟩:=jL h;have:=lY h1;simp only[adY,Qn]at this ⊢;exact⟨by omega,by decide,by decide⟩
 ·obtain⟨y,h1,rfl⟩:=jL h;have:=Ek _ _ _ h1;simp only[Qn,jI]at this ⊢;exact⟨by omega,by decide,by decide⟩
def mK (l:List Tk):Nat:=(l.map Bt).sum
theorem Gs (l:List Tk) (x:Tk):mK (l++[x])=mK l+Bt x:=by simp[mK]
theorem OS {t:Bs}:∀(n o:Nat) (l:List Tk) {l':List Tk},o<=t.length->mK l<=o->(∀x∈l,1<=x.kind/\x.kind<=6/\x.off<=t.length)->ju t n o l= .ok l'->mK l'<=t.length/\∀x∈l',1<=x.kind/\x.kind<=6/\x.off<=t.length
 | 0,o,l,l',ho,hl,hk,h=>by
   rw[ju]at h;injection h with h;subst h;exact⟨by omega,hk⟩
 | n+1,o,l,l',ho,hl,hk,h=>by
   rw[ju]at h;split at h
   ·injection h with h;subst h;exact⟨by omega,hk⟩
   rename_i eh;split at h
   ·cases h
   rename_i x o' hx;have h1:=afj ho hx;have h2:=Oh (by omega) hx;refine OS n o' _ h2.2.2 ?_ (fun y hy=>?_) h
   ·rw[Gs];omega
   ·rcases ahP.1 hy with hy | hy
    ·exact hk y hy
    ·rw[Zj]at hy;subst hy;exact⟨h1.2.1,h1.2.2,by omega⟩
theorem UF {t:Bs} {l:List Tk} (h:uU t= .ok l):mK l<=t.length/\∀x∈l,1<=x.kind/\x.kind<=6/\x.off<=t.length:=
 OS _ 0 [] (ahM _) (ahM _) (fun x hx=>by cases hx) h
theorem Sn (l:List Tk) (x:Tk) (p:PS):jO (l++[x]) p=match jO l p with
  | .error e=>.error e
  | .ok q=>match kP x q with
    | .error e=>.error (e,x.off)
    | .ok q=>.ok q:=by
 induction l generalizing p with
 | nil=>rfl
 | cons y l ih=>
   rw[adW,jO,jO];cases kP y p with
   | error e=>rfl
   | ok q=>exact ih q
theorem So {l m:List Tk} {p:PS} {e:Int×Nat} (h:jO l p= .error e):jO (l++m) p= .error e:=by
 induction l generalizing p with
 | nil=>cases h
 | cons y l ih=>
   rw[jO]at h;rw[adW,jO];split at h
   ·rename_i h1;injection h with h;subst h;rfl
   ·exact ih h
theorem abT:lB p0 0:=⟨by decide,by decide,(fun e=>by cases e),by simp[HX,p0,Gq]⟩
def Gt {α :Type} (F:Except (Int×Nat) α):Prop:=∀e,F= .error e->e.1≠0
theorem Bv {t:Bs} {stop:UInt8}:∀(n o:Nat) (acc:Bs),Gt (fe t stop n o acc)
 | 0,o,acc=>fun e h=>by unfold fe at h;cases h
 | n+1,o,acc=>fun e h=>by
   unfold fe at h;split at h
   ·cases h
   split at h
   ·cases h
   split at h
   ·split at h
    ·rename_i h5;injection h with h;subst h;exact h5
    ·exact Bv n _ _ e h
   split at h
   ·injection h with h;subst h;simp
   ·exact Bv n _ _ e h
theorem Ct (t:Bs) (o:Nat) {k:Int} (hk:k≠0):Gt (jJ t o k):=fun e h=>by
 unfold jJ at h;split at h
 ·injection h with h;subst h;simp
 split at h
 ·injection h with h;subst h;exact hk
 ·cases h
theorem xK (t:Bs) (o:Nat) (p:Bs):Gt (jr t o p):=fun e h=>by
 unfold jr at h;split at h
 ·injection h with h;subst h;simp
 split at h
 ·cases h
 ·injection h with h;subst h;simp
theorem abU (t:Bs) (o:Nat):Gt (uR t o):=fun e h=>by
 unfold uR at h;split at h
 ·injection h with h;subst h;simp
 split at h
 ·injection h with h;subst h;simp
 split at h
 ·rename_i h2;injection h with h;subst h;exact Bv _ _ _ _ h2
 split at h
 ·injection h with h;subst h;simp
 ·cases h
theorem OT {t:Bs}:∀(n o:Nat) (l:List (Bs×Bs)),Gt (mf t n o l)
 | 0,o,l=>fun e h=>by rw[mf]at h;cases h
 | n+1,o,l=>fun e h=>by
   rw[mf]at h;split at h
   ·cases h
   split at h
   ·rename_i h2;injection h with h;subst h;exact Ct _ _ (by decide) _ h2
   split at h
   ·injection h with h;subst h;simp
   split at h
   ·rename_i h2;injection h with h;subst h;exact xK _ _ _ _ h2
   split at h
   ·rename_i h2;injection h with h;subst h;exact abU _ _ _ h2
   ·exact OT n _ _ e h
theorem zN (t:Bs) (o:Nat) (q:Bs):Gt (jC t o q):=fun e h=>by
 unfold jC at h;split at h
 ·injection h with h;subst h;simp
 split at h
 ·injection h with h;subst h;simp
 ·cases h
theorem qY {α β :Type} {f: α -> β} {F:Except (Int×Nat) (α ×Nat)} (hF:Gt F):Gt (uS f F):=fun e h=>hF e (nr h)
theorem abV (t:Bs) (o:Nat):Gt (nq t o):=fun e h=>by
 unfold nq at h;split at h
 ·exact qY (zN _ _ _) e h
 split at h
 ·exact qY (zN _ _ _) e h
 split at h
 ·exact qY (zN _ _ _) e h
 split at h
 ·unfold rO at h;split at h
  ·rename_i h2;injection h with h;subst h;exact Ct _ _ (by decide) _ h2
  ·exact qY (xK _ _ _) e h
 split at h
 ·unfold wq at h;split at h
  ·rename_i h2;injection h with h;subst h;exact Ct _ _ (by decide) _ h2
  split at h
  ·rename_i h2;injection h with h;subst h;exact OT _ _ _ _ h2
  split at h
  ·exact qY (xK _ _ _) e h
  ·exact qY (xK _ _ _) e h
 ·exact qY (Bv _ _ _) e h
theorem Jk {t:Bs}:∀(n o:Nat) (l:List Tk),Gt (ju t n o l)
 | 0,o,l=>fun e h=>by rw[ju]at h;cases h
 | n+1,o,l=>fun e h=>by
   rw[ju]at h;split at h
   ·cases h
   split at h
   ·rename_i h2;injection h with h;subst h;exact abV _ _ _ h2
   ·exact Jk n _ _ e h
theorem abW (t:Bs):Gt (uU t):=Jk _ _ _
theorem Gu {t:Bs}:∀(n o:Nat) (l:List Tk) {l':List Tk},ju t n o l= .ok l'->l'.length<=l.length+n
 | 0,o,l,l',h=>by rw[ju]at h;injection h with h;subst h;omega
 | n+1,o,l,l',h=>by
   rw[ju]at h;split at h
   ·injection h with h;subst h;omega
   split at h
   ·cases h
   ·have:=Gu n _ _ h;rw[Qm]at this;simp only[adY,Qn]at this;omega
theorem Yg {t:Bs} {l:List Tk} (h:uU t= .ok l):l.length<=t.length+1:=by
 have:=Gu _ _ _ h;simpa using this
theorem Sq (l:List Tk) (i:Nat):mK (l.take i)<=mK l:=by
 have:mK l=mK (l.take i)+mK (l.drop i):=by
  unfold mK;rw[<-List.sum_append, <-am5,List.take_append_drop]
 omega
theorem Yh (t:Bs) (x:Tk):p_ t x.off= .agg [mi x.off,mi (mV t x.off),mi (Gi t x.off)]:=by
 unfold p_ mV Gi;rw[Int.natCast_add];rfl
def zNd:MV:=.agg [.str [],.sl 0 [] .nil,.sl 0 [] .nil,.str []]
theorem Jl {O:VH} {B k:Nat} (hk:k<O.N):∀{R:List Rec},pP O B k R->∀r∈R,r.b<O.N
 | [],_,r,h=>by simp at h
 | [x],h,r,hr=>by rw[Zj.1 hr,h.1];exact hk
 | x::p::rest,h,r,hr=>by
   obtain⟨⟨c,_,_,h1⟩,_,_,h2⟩:=h;rcases ajv.1 hr with rfl | hr
   ·exact h1.hi
   ·exact Jl hk h2 r hr
theorem abX {O:VH} {B k cu:Nat} {R:List Rec} {tk:Tok} {dn tx:Bool} {z:List MV} (h:BS O B k R tk cu dn tx z):∀x∈d_ k R tk,x<O.N:=by
 have hk:k<O.N:=Ma h.c.lt h.c.le;intro x hx;simp only[d_,ajv,ahP,List.mem_map,Option.mem_toList]at hx;rcases hx with rfl | ((⟨r,hr,rfl⟩ | hx) | hx)
 ·exact hk
 ·exact Jl hk h.c.chain r hr
 ·obtain⟨r,hr,hq⟩:=Option.bind_eq_some_iff.1 hx;have ht:=h.c.top
  match R,hr,ht with
  | y::R,hr,ht=>
    simp only[List.head?_cons,Option.some.injEq]at hr;subst hr;rcases ht.1 with⟨_,_,e | e⟩ | ⟨j,c,e,_,_,hw⟩
    ·rw[e]at hq;cases hq
    ·rw[e]at hq;cases hq
    ·rw[e]at hq;injection hq with hq;subst hq;exact hw.hi
 ·exact(App.nD h.a hx).2
theorem abY (t:Bs) (O:VH) (ht:t.length<=65536):VF Tryz.prog 243 [.str t] O (aD fun m O'=>O.Ge O'/\match iG t with
  | .ok n=>m= .tuple [.agg (dK n),mi 0,.agg [mi 0,mi 0,mi 0]]
  | .error e=>m= .tuple [zNd,mi e.1,p_ t e.2]):=by
 have jV:=aix t;have ot:∀e,uU t= .error e->iG t= .error e:=fun e h=>by unfold iG;rw[h]
 have Cr:∀l,uU t= .ok l->iG t=(match jO l p0 with
  | .error e=>.error e
  | .ok p=>if p.st≠[]then .error (13,t.length)else if p.dn then .ok p.z else .error (16,t.length)):=fun l h=>by unfold iG;rw[h];try rfl
 have hW:= @UF t;have hLn:= @Yg t;have hNE:=abW t;generalize uU t=F at*;generalize iG t=G at*;refine υ 68 [.cell 2 93,.tmp 3,.cell 4 108] Tryz.func243 ?_;refine κ @aE ?_;refine VC.gen ?_;intro O1 sT;obtain⟨aI,cW,DC,lJ⟩:=hY _ _ sT;clear sT;refine κ @aE ?_;refine ah.rt (jV O1 ht) ?_;rintro m O2 ⟨aB,hm⟩;have tG:=aB.at DC;have Bc:=aB.at lJ;have fA:=aI.trans aB;have eZ:=aB.N;cases F with
 | error e=>
   dsimp only at hm;subst hm;rw[ot e rfl];unfold p_;simp only[aq];refine ab @aE ?_;refine VC.al ?_;rintro O3 ⟨aH,lS,gy⟩;have Hp:=aH.at tG;have pO:=aH.at Bc;have ew:=fA.trans aH;have he0:e.1≠0:=hNE e rfl;refine ξ @aE @he0 ?_;refine VC.qw [] (O2.N) (lS) ?_;intro X;have J2:(O3.set O2.N (.obj X)).hp O.N=_:=ω Hp;have KY:(O3.set O2.N (.obj X)).hp (O.N+1)=_:=ω pO;have qV:(O3.set O2.N (.obj X)).hp O2.N=some (.obj X):=ρ _ _ _;have gW:O.Ge (O3.set O2.N (.obj X)):=ew.set (by omega) _;generalize O3.set O2.N (.obj X)=O4 at*;refine ae.ar 0 ?_;refine ab @aE ?_;refine ae.ar 1 ?_;refine ab @aE ?_;refine ε (m:=.agg [.v (.int .i64 e.2),.v (.int .i64 (1+((t.take e.2).count 10:Nat))),.v (.int .i64 ((e.2:Int) - gm (t.take e.2) 10 (t.take e.2).length))]) 2 ?_ ?_
   ·exact fU @aE
   simp only[ak];refine ae.op (i:=3) ?_;refine ao @aE @J2 ?_;refine⟨qV,?_⟩;refine ae.ar 4 ?_;refine ab @aE ?_;refine ae.op (i:=5) ?_;refine ao @aE @KY ?_;refine⟨qV,?_⟩;refine ae.nR [] ?_;refine ab @aE ?_;exact⟨((gW.set (Vq _) _).set (ajp _) _).set (by omega:O.N<=O2.N) _,rfl⟩
 | ok l=>
   obtain⟨pl,rfl,c6⟩:=hm;obtain⟨hWl,afk⟩:=hW rfl;have hG:=Cr l rfl;clear ot Cr;refine ao @aE @aq ?_;refine VC.al ?_;rintro O3 ⟨aH,lS,gy⟩;have Hp:=aH.at tG;have pO:=aH.at Bc;have ew:=fA.trans aH;refine κ @aE ?_;refine κ @aE ?_;refine VC.bx ?_;rintro O4 ⟨aY,lX,gO⟩;refine VC.XD (k:=O3.N) (ds:=dK RM++qd [] .nil 0 false false) lX (ff.cons (Wk.refl _) (ff.cons Wk.tok (ff.cons Wk.tok (ff.refl _)))) ?_;refine VC.gen ?_;intro O5 mW;have gK:O5.hp O3.N=some (.cells (dK RM++qd [] .nil 0 false false)):=by rw[mW];exact ρ _ _ _
   have eU:O5.N=O3.N+1:=by rw[mW];exact gO
   have h5:∀i,i<O3.N->O5.hp i=O3.hp i:=fun i hi=>by rw[mW];exact ω (aY.hp i hi)
   have ox:O.Ge O5:=by rw[mW];exact(ew.trans aY).set (by omega) _
   clear mW;have hz5:=(h5 _ (by omega)).trans Hp;have N4:=(h5 _ (by omega)).trans pO;generalize hk:O3.N=k at*;have hBP:BP O5 (k+1) k [k] p0:=⟨[],.nil,⟨⟨ajr _,by omega,gK,rfl,trivial,trivial⟩,trivial⟩,rfl,fun x hx=>hx⟩
   have hlen:dy (bY Tryz.prog) 165 pl=some (.v (.int .i64 l.length)):=by
    rcases c6 with⟨h0,_,rfl | rfl⟩ | ⟨k,c,rfl,_⟩
    ·rw[h0];exact bR FG
    ·rw[h0];exact bR FG
    ·exact IC FG
   rw[vV,FG]at hlen;have AE:l.length<=1000000:=by have:=hLn rfl;omega
   refine Θ [0,2,4,8] (fun _:PS=>[.str t,.ptr O.N 0,.ptr (O.N+1) 0,.ptr k 0]) (fun p O'=>jO l p0= .ok p/\lB p (mK l)/\Kp O5 O' [k]/\∃U,BP O' (k+1) k U p) ?_ ?_;rotate_left
   ·rintro p O6 ⟨cC,dP,hkp,U,Sm⟩;rw[cC]at hG;dsimp only at hG;have hO6:∀j,j<k->O6.hp j=O5.hp j:=fun j hj=>hkp.2 j (by omega) (by simp;omega)
    have hz6:=(hO6 _ (by omega)).trans hz5;have hp6:=(hO6 _ (by omega)).trans N4;have mU:=hkp.1;have Jm:O.Ge O6:=⟨by omega,fun j hj=>(hO6 j (by omega)).trans (ox.hp j hj)⟩;obtain⟨R,tk,hb,hR,hUo⟩:=Sm;have p9:=hb.c.cells;refine κ @aE ?_;refine ah.rt (agH t t.length _ (by omega) (Vq _)) ?_;rintro _ O7 ⟨rfl,eV⟩;have u7:=(eV.hp k (by omega)).trans p9;have hz7:=eV.at hz6;have hp7:=eV.at hp6;have Dd:=Jm.trans eV;have uY:=eV.N;have UG:p_ t t.length= .agg [mi t.length,mi (1+((t.take t.length).count 10:Nat)),mi ((t.length:Int) - gm (t.take t.length) 10 (t.take t.length).length)]:=rfl;simp only[aq]at UG;generalize (1+((t.take t.length).count 10:Nat):Int)=y1 at*;generalize ((t.length:Int) - gm (t.take t.length) 10 (t.take t.length).length)=y2 at*;rw[UG];refine ab @aE ?_;refine VC.al ?_;rintro O8 ⟨fV,Yi,DN⟩;have vd:=(fV.hp k (by omega)).trans u7;have hz8:=fV.at hz7;have Bw:=fV.at hp7;have OU:=Dd.trans fV;obtain⟨b0,b1,b2,b3,kh⟩:=rQ (fl R (dK p.z) hb.c.zl);unfold qd at vd;rw[kh]at vd;simp only[aq,bw,adW,Zk]at vd;cases R with
    | cons r R=>
      have cX:p.st≠[]:=by rw[<-hR];simp[sh]
      rw[if_pos cX]at hG;subst hG;dsimp only;rw[UG]
      have Yb:R.length<=64:=by
       have:=dP.len;rw[<-hR]at this;unfold sh at this;rw[ahN,adY]at this;omega
      simp only[adY]at vd;refine ξ @aE @vd ?_;refine VC.qw [] (O7.N) (Yi) ?_;intro X;have J2:((O8).set (O7.N) (.obj X)).hp O.N=_:=ω hz8;have KY:((O8).set (O7.N) (.obj X)).hp (O.N+1)=_:=ω Bw;have qV:((O8).set (O7.N) (.obj X)).hp (O7.N)=some (.obj X):=ρ _ _ _;have gW:O.Ge ((O8).set (O7.N) (.obj X)):=OU.set (by omega) _;generalize (O8).set (O7.N) (.obj X)=Ox at*;refine ae.ar 0 ?_;refine ab @aE ?_;refine ε (m:=.agg [.v (.int .i64 t.length),.v (.int .i64 y1),.v (.int .i64 y2)]) 1 ?_ ?_
      ·exact fU @aE
      simp only[ak];refine ae.op (i:=2) ?_;refine ao @aE @J2 ?_;refine⟨qV,?_⟩;refine ae.ar 3 ?_;refine ab @aE ?_;refine ae.op (i:=4) ?_;refine ao @aE @KY ?_;refine⟨qV,?_⟩;refine ae.nR [] ?_;refine ab @aE ?_;exact⟨((gW.set (Vq _) _).set (ajp _) _).set (by omega:O.N<=O7.N) _,rfl⟩
    | nil=>
      have cX:p.st=[]:=hR.symm;rw[if_neg (by rw[cX];simp)]at hG;simp only[Qn]at vd;cases xV:p.dn with
      | false=>
        rw[xV]at hG vd;rw[if_neg (by simp)]at hG;subst hG;dsimp only;rw[UG];refine ξ @aE @vd ?_;refine VC.qw [] (O7.N) (Yi) ?_;intro X;have J2:((O8).set (O7.N) (.obj X)).hp O.N=_:=ω hz8;have KY:((O8).set (O7.N) (.obj X)).hp (O.N+1)=_:=ω Bw;have qV:((O8).set (O7.N) (.obj X)).hp (O7.N)=some (.obj X):=ρ _ _ _;have gW:O.Ge ((O8).set (O7.N) (.obj X)):=OU.set (by omega) _;generalize (O8).set (O7.N) (.obj X)=Ox at*;refine ae.ar 0 ?_;refine ab @aE ?_;refine ε (m:=.agg [.v (.int .i64 t.length),.v (.int .i64 y1),.v (.int .i64 y2)]) 1 ?_ ?_
        ·exact fU @aE
        simp only[ak];refine ae.op (i:=2) ?_;refine ao @aE @J2 ?_;refine⟨qV,?_⟩;refine ae.ar 3 ?_;refine ab @aE ?_;refine ae.op (i:=4) ?_;refine ao @aE @KY ?_;refine⟨qV,?_⟩;refine ae.nR [] ?_;refine ab @aE ?_;exact⟨((gW.set (Vq _) _).set (ajp _) _).set (by omega:O.N<=O7.N) _,rfl⟩
      | true=>
        rw[xV]at hG vd;rw[if_pos rfl]at hG;subst hG;dsimp only;have kh:dK p.z=[b0,b1,b2,b3]:=kh;refine ξ @aE @vd ?_;generalize p.z=pz at*;obtain⟨zn,za,de,zt⟩:=pz;rw[dK]at kh;injection kh with e1 kh;injection kh with e2 kh;injection kh with e3 kh;injection kh with e4 kh
        subst e1;subst e2;subst e3;subst e4
        refine ι (cR @aE @vd @hz8 @Bw ?_);rw[dK];exact⟨(OU.set (Vq _) _).set (ajp _) _,rfl⟩
   refine ξ @aE @hlen ?_;refine τ ?_;refine Γ [28] [0,2,4,8,26,27] (fun i:Nat=>[mi i]) (fun i O'=>i<=l.length/\Kp O5 O' [k]/\∃p U,jO (l.take i) p0= .ok p/\lB p (mK (l.take i))/\BP O' (k+1) k U p/\(∀x∈U,(x=k\/O5.N<=x)/\x<O'.N)) (fun i=>l.length - i) (0) ?_ ?_
   ·exact⟨ahM _,Kp.refl,p0,[k],rfl,abT,hBP,fun x hx=>by rw[Zj]at hx;subst hx;exact⟨.inl rfl,by omega⟩⟩
   rintro i O6 ⟨hi,Jn,p,U,cC,dP,Sm,hU⟩;dsimp only at hi ⊢;by_cases ei:i<l.length;rotate_left
   ·obtain rfl:i=l.length:=by omega
    rw[ahO]at cC dP;refine ο @aE @aq ?_;exact aA.mk p ⟨cC,dP,Jn,U,Sm⟩
   obtain⟨kr,cr,rfl,jT⟩:∃kr cr,pl= .bB kr 0 l.length cr/\Row O2 163 7 O1.N kr cr (l.flatMap (va t)):=by
    rcases c6 with⟨h0,_⟩ | ⟨kr,cr,hp,_,_,h⟩
    ·omega
    ·exact⟨kr,cr,hp,h⟩
   obtain⟨sp,uu,sf⟩:=jT.cells;have akW:=jT.hi;have akX:O6.hp kr=some (.cells (l.flatMap (va t)++sp)):=(Jn.2 kr (by omega) (by simp;omega)).trans ((h5 kr (by omega)).trans ((aH.hp kr akW).trans uu));have k8:(l.flatMap (va t)).length=l.length*7:=aV (wD t) l
   have bG:((l.flatMap (va t)++sp).drop (i*7)).take 7=va t l[i]:=by
    rw[List.drop_append_of_le_length (by omega),ajk (by rw[List.length_drop];omega)];exact ct (wD t) l i ei
   have hCl:i*7+7<=(l.flatMap (va t)++sp).length:=by rw[Qm];omega
   have dh:=dz l i ei
   have Yj:jO (l.take (i+1)) p0=(match kP l[i] p with
     | .error e=>.error (e,l[i].off)
     | .ok q=>.ok q):=by rw[dh,Sn,cC];try rfl
   have hws:mK (l.take (i+1))=mK (l.take i)+Bt l[i]:=by rw[dh,Gs]
   have oI:=Sq l (i+1);have vy:=afk l[i] (ajs ei)
   have aiD:∀e,jO (l.take (i+1)) p0= .error e->G= .error e:=fun e h=>by
    have:=So (m:=l.drop (i+1)) h;rw[List.take_append_drop]at this;rw[this]at hG;exact hG
   have dH:=Yh t l[i];clear cC dh;have akY:va t l[i]=[mi l[i].kind,.str l[i].name,.sl l[i].attrs.length (l[i].attrs.flatMap bm) .au,.str l[i].text,mi l[i].off,mi (mV t l[i].off),mi (Gi t l[i].off)]:=rfl;generalize hxg:l[i]=x at*;generalize l.flatMap (va t)++sp=C at*;refine ξ @aE @aq ?_;refine κ @aE ?_;refine χ (τ ?_);rw[akY]at bG;simp only[aq]at bG;refine θ (aG @aE @akX @bG ?_);refine VC.al ?_;rintro O7 ⟨eV,hx7,uY⟩;refine ξ @aE @hx7 ?_;refine ah.rt (Ye (Sm.ge eV) dP (fun y hy=>by have:=(hU y hy).2;omega) t x (by omega) ⟨vy.1,vy.2.1⟩) ?_;rintro m O8 ⟨KO,hm⟩;have Yi:=(KO.2 _ (by omega) (fun hm=>by have:=(hU _ hm).2;omega)).trans hx7;have amD:k<O5.N:=by omega
   have Yk:∀j,j<k->O8.hp j=O5.hp j:=fun j hj=>by
    have hjU:j ∉ U:=fun hm=>by have:=(hU _ hm).1;omega
    have h65:=Jn.1;rw[KO.2 j (by omega) hjU,eV.hp j (by omega),Jn.2 j (by omega) (by simp;omega)]
   have hz8:=(Yk _ (by omega)).trans hz5;have Bw:=(Yk _ (by omega)).trans N4;have DN:=KO.1;have h65:=Jn.1;have OU:O.Ge O8:=⟨by omega,fun j hj=>(Yk j (by omega)).trans (ox.hp j hj)⟩;cases cX:kP x p with
   | error e=>
     rw[cX]at hm Yj;dsimp only at hm Yj;subst hm;have hGe:=aiD _ Yj;subst hGe;dsimp only;rw[dH];simp only[aq];have he:e≠0:=by rcases Sl cX with rfl | rfl | rfl<;>decide
     refine ab @aE ?_;refine ξ @aE @he ?_;refine ν @aE ?_;refine VC.qw [] (O6.N) (Yi) ?_;intro X;have J2:((O8).set (O6.N) (.obj X)).hp O.N=_:=ω hz8;have KY:((O8).set (O6.N) (.obj X)).hp (O.N+1)=_:=ω Bw;have qV:((O8).set (O6.N) (.obj X)).hp (O6.N)=some (.obj X):=ρ _ _ _;have gW:O.Ge ((O8).set (O6.N) (.obj X)):=OU.set (by omega) _;generalize (O8).set (O6.N) (.obj X)=Ox at*;refine ae.ar 0 ?_;refine ab @aE ?_;refine ae.ar 1 ?_;refine ab @aE ?_;refine ae.ar 2 ?_;refine ab @aE ?_;refine ε (m:=.agg [.v (.int .i64 x.off),.v (.int .i64 (mV t x.off:Nat)),.v (.int .i64 (Gi t x.off))]) 3 ?_ ?_
     ·exact fU @aE
     simp only[ak];refine ae.op (i:=4) ?_;refine ao @aE @J2 ?_;refine⟨qV,?_⟩;refine ae.ar 5 ?_;refine ab @aE ?_;refine ae.op (i:=6) ?_;refine ao @aE @KY ?_;refine⟨qV,?_⟩;refine ae.nR [] ?_;refine ab @aE ?_;exact⟨((gW.set (Vq _) _).set (ajp _) _).set (by omega:O.N<=O6.N) _,rfl⟩
   | ok q=>
     rw[cX]at hm Yj;dsimp only at Yj;obtain⟨rfl,U2,hU2,hq⟩:=hm;obtain⟨R2,tk2,cJ,akZ,ho2⟩:=hq;have ux:BP O8 (k+1) k (d_ k R2 tk2) q:=⟨R2,tk2,cJ,akZ,fun _ h=>h⟩;have ou:((i:Int)+1)=((i+1:Nat):Int):=by omega
     refine ao @aE @aq ?_;refine ο @aE @ou ?_;refine ο @aE @ou ?_;refine az.N (i+1) ⟨by omega,?_,q,d_ k R2 tk2,Yj,?_,ux,fun y hy=>?_⟩
     ·refine(Jn.more (Kp.ge eV (S:=[])) (fun y hy=>by cases hy)).more KO fun y hy=>?_
      rcases(hU y hy).1 with e | e
      ·exact .inl (by simp[e])
      ·exact .inr e
     ·rw[hws];exact Ji dP cX
     ·refine⟨?_,abX cJ y hy⟩;rcases hU2 y (ho2 y hy)with e | e
      ·exact(hU y e).1
      ·exact .inr (by omega)
set_option linter.defProp false in
def iu:=zP kE<|zP FD<|zP T86 KG
theorem ki {α :Type} {f: α ->List MV} {k:Nat} (hf:∀x,(f x).length=k) {L:List α} {sp:List MV} {j i:Nat} {x: α} {m:MV} (hj:L[j]?=some x) (hi:(f x)[i]?=some m):(L.flatMap f++sp)[j*k+i]?=some m:=by
 induction L generalizing j with
 | nil=>simp at hj
 | cons y L ih=>
   rw[ane,anf];cases j with
   | zero=>
     simp only[List.getElem?_cons_zero,Option.some.injEq]at hj;subst hj;have:=(adX.1 hi).1;rw[Nat.zero_mul,ajm,ang this];exact hi
   | succ j=>
     simp only[List.getElem?_cons_succ]at hj;have e:(j+1)*k+i=(f y).length+(j*k+i):=by rw[hf,Nat.succ_mul];omega
     rw[e,anc (by omega),show(f y).length+(j*k+i) - (f y).length=j*k+i by omega];exact ih hj
theorem xL {L:List MV} {i:Nat} {m:MV} (h:L[i]?=some m):L.set i m=L:=by
 refine anh fun j=>?_
 by_cases e:i=j
 ·subst e;rw[List.getElem?_set_self (adX.1 h).1,h]
 ·rw[List.getElem?_set_ne e]
theorem OV (L:List Dp) (tk:Tok) (O:VH) (hn:L.length<=10000) (hx:∀d∈L,d.x.length<=10000):VF Tryz.prog 245 [.sl L.length (L.flatMap aU) tk] O (aD fun m O'=>∃t,m= .sl L.length (L.flatMap aU) t/\O.Ge O'):=by
 have dH:=aV gT L;refine υ 24 [.tmp 2] Tryz.func245 ?_;refine κ @iu ?_;refine κ @iu ?_;refine ah.rt (Gk L tk O (by omega)) ?_;rintro _ O2 ⟨aB,x_⟩;rcases x_ with⟨h0,_,hp⟩ | ⟨k,c,rfl,AD,_,c6⟩
 ·obtain rfl:L=[]:=aju h0;rcases hp with rfl | rfl
  ·refine ab @iu ?_;refine Θ [3] (fun _:Unit=>[.sl 0 [] .nil]) (fun _ O'=>O'=O2) ?_ ?_
   ·refine κ @iu ?_;refine τ ?_;refine Γ [9] [3,8] (fun j:Nat=>[mi 0]) (fun j O'=>O'=O2) (fun j=>0) (0) ?_ ?_
    ·rfl
    rintro j O3 eO;rw[eO];clear eO O3
    refine ν @iu ?_;exact aA.mk () rfl
   intro _ O9 eO;rw[eO];clear eO O9
   refine ν @iu ?_;exact⟨_,rfl,aB⟩
  ·refine ab @iu ?_;refine Θ [3] (fun _:Unit=>[.sl 0 [] .full]) (fun _ O'=>O'=O2) ?_ ?_
   ·refine κ @iu ?_;refine τ ?_;refine Γ [9] [3,8] (fun j:Nat=>[mi 0]) (fun j O'=>O'=O2) (fun j=>0) (0) ?_ ?_
    ·rfl
    rintro j O3 eO;rw[eO];clear eO O3
    refine ν @iu ?_;exact aA.mk () rfl
   intro _ O9 eO;rw[eO];clear eO O9
   refine ν @iu ?_;exact⟨_,rfl,aB⟩
 obtain⟨sp,hc,ia⟩:=c6.cells;have fQ:=c6.lo;have R9:=c6.hi;refine ab @iu ?_;refine Θ [3] (fun _:Unit=>[.bB k 0 L.length c]) (fun _ O'=>O2.Ge O') ?_ ?_
 ·refine κ @iu ?_;refine τ ?_;refine Γ [9] [3,8] (fun j:Nat=>[mi j]) (fun j O'=>O2.Ge O'/\j<=L.length) (fun j=>L.length - j) (0) ?_ ?_
  ·exact⟨VH.Ge.refl _,ahM _⟩
  rintro j O3 ⟨aH,hj⟩;by_cases aM:j<L.length;rotate_left
  ·obtain rfl:j=L.length:=by omega
   refine ν @iu ?_;exact aA.mk () aH
  have fy:=(aH.hp k R9).trans hc;have bG:(L.flatMap aU++sp)[j*8+7]?=some (.sl L[j].x.length (L[j].x.flatMap cn) .au):=ki gT (List.getElem?_eq_getElem aM) rfl;have hxj:=hx L[j] (List.getElem_mem aM);generalize L[j].x=X at*;generalize L.flatMap aU++sp=C at*;have gL:=xL bG;have KO:=(List.getElem?_eq_some_iff.1 bG).1;have cI:((j:Int)+1)=((j+1:Nat):Int):=by omega
  refine κ @iu ?_;refine κ @iu ?_;refine χ (τ ?_);refine κ @iu ?_;refine ι (aG @iu @fy @bG ?_);refine ah.rt (um X .au O3 (by omega)) ?_;rintro _ O4 ⟨rfl,aY⟩;have fR:=(aY.hp k (by have:=aH.N;omega)).trans fy;refine cR @iu @fR @bG @gL ?_;rw[VH.xc fR];refine ο @iu @cI ?_;exact az.N (j+1) ⟨aH.trans aY,aM⟩
 intro _ O9 bj;have KZ:=(bj.hp k R9).trans hc;refine VC.freeze 3 (sz:=L.length*8) rfl KZ (by rw[Qm,dH];omega) ?_;have dh:((L.flatMap aU++sp).drop 0).take (L.length*8)=L.flatMap aU:=by rw[anl,ajk (by rw[dH];exact Vq _), <-dH,ahO]
 rw[dh];have sW:=aB.trans bj;have il:O.Ge (O9.kill k):=⟨sW.N,fun i hi=>(VH.lh _ (by omega)).trans (sW.hp i hi)⟩;refine ν @iu ?_;exact⟨_,rfl,il⟩
theorem Gw (L:List Dp) (tk:Tok) (O:VH) (hn:L.length<=10000) (hx:∀d∈L,d.x.length<=10000):VF Tryz.prog 245 [.sl L.length (L.flatMap aU) tk] O (aD fun m O'=>m= .sl L.length (L.flatMap aU) .au/\O.Ge O'):=
 VF.X5 (OV L tk O hn hx) fun m O' ⟨t,h1,h3⟩=>⟨_,h1▸Wk.tok,rfl,h3⟩
def abZ (p:Pm):Prop:=p.props.length<=10000/\p.eT.length<=10000/\p.eK.length<=10000/\(∀d∈p.eT,d.x.length<=10000)/\∀d∈p.eK,d.x.length<=10000
theorem aiE (p:Pm) (O:VH) (hp:abZ p):VF Tryz.prog 222 [.agg (gU p)] O (aD fun m O'=>m= .agg (gU p)/\O.Ge O'):=by
 obtain⟨b,⟨pg,pa,pv⟩,g,a,v,pk,P,M,D⟩:=p;obtain⟨h1,h2,h3,h4,h5⟩:=hp;dsimp only at h1 h2 h3 h4 h5;simp only[gU];refine υ 16 [.cell 2 86] Tryz.func222 ?_;refine κ @iu ?_;refine VC.gen ?_;rintro O1 sT;obtain⟨aI,cW,cz,cD⟩:=hY _ _ sT;clear sT;refine ξ @iu @cz ?_;refine ah.rt (Gj P .au O1 (by omega)) ?_;rintro _ O2 ⟨rfl,aB⟩;have fj:=aB.at cz;have cJ:=aB.at cD;have eZ:=aB.N;refine ao @iu @fj ?_;have hs:(([mb b,.str pg,.str pa,.str pv,.str g,.str a,.str v,.str pk,.sl P.length (P.flatMap bm) .au,.sl M.length (M.flatMap aU) .au,.sl D.length (D.flatMap aU) .au]:List MV)).set 8 (.sl P.length (P.flatMap bm) .au)=[mb b,.str pg,.str pa,.str pv,.str g,.str a,.str v,.str pk,.sl P.length (P.flatMap bm) .au,.sl M.length (M.flatMap aU) .au,.sl D.length (D.flatMap aU) .au]:=rfl;rw[VH.xc fj];refine χ ?_;refine VC.qw [7,8,9] (O.N) (fj) ?_;intro X;refine ae.ar 0 ?_;refine ab @iu ?_;refine ε (m:=.sl M.length (M.flatMap aU) .au) 1 ?_ ?_
 ·exact fU @iu
 simp only[ak];refine ae.ar 3 ?_;refine ab @iu ?_;refine ε (m:=.sl D.length (D.flatMap aU) .au) 4 ?_ ?_
 ·exact fU @iu
 simp only[ak];have hX:=ρ O2 O.N (.obj X);have gy:(O2.set O.N (.obj X)).N=O2.N:=rfl;have hbX:=(π O2 (.obj X) (by omega:O.N+1≠O.N)).trans cJ;have K_:O.Ge (O2.set O.N (.obj X)):=(aI.trans aB).set (Vq _) _;generalize O2.set O.N (.obj X)=O3 at*;refine ae.call (i:=2) (Gw M .au O3 h2 h4) ?_;rintro _ O4 ⟨rfl,aY⟩;simp only[ak];refine⟨aY.at hX,?_⟩;refine ae.ar 6 ?_;refine ab @iu ?_;refine ae.call (i:=5) (Gw D .au O4 h3 h5) ?_;rintro _ O5 ⟨rfl,bD⟩;simp only[ak];have FP:=aY.trans bD;refine⟨FP.at hX,?_⟩;have du:=FP.at hbX;have ox:=K_.trans FP;refine ae.nR [(7,.one),(8,.ar),(9,.one)] ?_;refine ab @iu ?_;refine ο @iu @du ?_;exact(((ox.set (Vq _) _).set (Vq _) _).set (Vq _) _).set (ajp _) _
set_option linter.defProp false in
def sX:=zP iu<|zP Di<|zP NB<|zP aa5 agn
theorem OW:∀{l:List Tk} {p q:PS} {L:Nat},lB p L->jO l p= .ok q->lB q (L+mK l)
 | [],p,q,L,h,e=>by
   rw[jO]at e;injection e with e;subst e;simpa[mK]using h
 | x::l,p,q,L,h,e=>by
   rw[jO]at e;split at e
   ·cases e
   ·rename_i p' hp';have h2:=OW (Ji h hp') e;have:mK (x::l)=Bt x+mK l:=by simp[mK]
    rw[this, <-Nat.add_assoc];exact h2
theorem Yl {t:Bs} {n:Nd} (ht:t.length<=65536) (h:iG t= .ok n):k7 n<=1000000:=by
 unfold iG at h;split at h
 ·cases h
 ·rename_i l hl;have hw:=(UF hl).1;split at h
  ·cases h
  ·rename_i p hp;have hk:=OW abT hp;have h1:=hk.wt;have h2:=hk.cu;split at h
   ·cases h
   ·split at h
    ·rename_i hd;injection h with h;subst h;unfold HX at h1;rw[if_pos hd]at h1;omega
    ·cases h
structure Prb where
 e:Int
 g:Gv
 p1:Int
 p2:Int
 p3:Int
 w:Bs
 deriving DecidableEq
def nH (x:Prb):List MV:=[mi x.e,.str x.g.g,.str x.g.a,.str x.g.v,mi x.p1,mi x.p2,mi x.p3,.str x.w]
def ik:Prb:=⟨0,⟨[],[],[]⟩,0,0,0,[]⟩
def jy (t:Bs) (u:Int) (s:Int) (p:Pm) (x:Prb):List MV:=[.str t,.v (.int .u32 u),.v (.int .i32 s),.v (.int .u32 0)]++gU p++nH x
theorem afl {O:VH} {q:Nat} {t:Bs} {u s:Int} {n:Nd} {p:Pm} (g:Gv) (hq:O.hp q=some (.cells (jy t u s Bl ik))) (oG:q<O.N) (ht:t.length<=65536) (hb:iG t= .ok n) (hr:pN n= .ok p):
  VF Tryz.prog 221 [.ptr q 0,.agg (bZ g)] O (aD fun m O'=>O'.hp q=some (.cells (jy t u s p ik))/\bz O (some q) O'):=by
 have Cu:=fun O'=>abY t O' ht
 have Bh:=fun O'=>afe n O' (Yl ht hb)
 rw[hb]at Cu;rw[hr]at Bh;dsimp only at Cu Bh;obtain⟨g1,g2,g3⟩:=g;obtain⟨nn,na,nk,nt⟩:=n;obtain⟨b,⟨pg,pa,pv⟩,pG,pA,pV,pk,P,M,DD⟩:=p;simp only[dK]at Cu Bh;simp only[jy,gU,Bl,nH,ik,aq,bw,adW,Zk,Qn,ahL]at hq Bh ⊢;unfold bZ;refine υ 46 [] Tryz.func221 ?_;refine κ @sX ?_;refine VC.bx ?_;rintro O1 ⟨aI,cA,cW⟩;have hq1:=(aI.hp _ oG).trans hq;refine ξ @sX @hq1 ?_;refine ah.rt (Cu O1) ?_;rintro _ O2 ⟨aB,rfl⟩;have ux:=aB.at hq1;have eZ:=aB.N;refine ab @sX ?_;refine VC.gen ?_;intro O3 HV;have aH:O2.Ge O3:=by rw[HV];exact((((VH.Ge.refl O2).push _).push _).set (Vq _) _).set (ajp _) _
 have dR:O3.hp O2.N=some (.cells [.str nn,.sl na.length (na.flatMap bm) .au,.sl nk.length (aC nk) .au,.str nt]):=by rw[HV,π _ _ (by omega)];exact ρ _ _ _
 have gy:O3.N=O2.N+2:=by rw[HV];rfl
 clear HV;have ew:=(aI.trans aB).trans aH;have qX:=aH.at ux;refine κ @sX ?_;refine ξ @sX @dR ?_;refine ah.rt (Bh O3) ?_;rintro _ O4 ⟨aY,rfl⟩;have Gx:=aY.at qX;have gO:=aY.N;have gW:=ew.trans aY;refine ab @sX ?_;refine VC.al ?_;rintro O5 ⟨bD,gK,eU⟩;have v_:=bD.at Gx;have ox:=gW.trans bD;refine κ @sX ?_;refine ι (aG @sX @gK @v_ ?_);exact(bz.lp ox).any.trans bz.set
structure dI (O:VH) (k q:Nat) (O':VH):Prop where
 N:O.N<=O'.N
 hp:∀i,i<O.N->i≠k->i≠q->O'.hp i=O.hp i
theorem dI.ge {O O1 O2:VH} {k q:Nat} (h:dI O k q O1) (g:O1.Ge O2):dI O k q O2:=⟨ajn h.N g.N,fun i hi a b=>(g.hp i (Ma hi h.N)).trans (h.hp i hi a b)⟩
theorem dI.of {O O1:VH} {k q:Nat} (g:O.Ge O1):dI O k q O1:=⟨g.N,fun i hi _ _=>g.hp i hi⟩
theorem dI.trans {O O1 O2:VH} {k q:Nat} (h:dI O k q O1) (g:dI O1 k q O2):dI O k q O2:=⟨ajn h.N g.N,fun i hi a b=>(g.hp i (Ma hi h.N) a b).trans (h.hp i hi a b)⟩
theorem dI.agR {O O1:VH} {k q:Nat} {x:cg} (h:dI O k q O1):dI O k q (O1.set k x):=⟨h.N,fun i hi a b=>(π _ _ a).trans (h.hp i hi a b)⟩
theorem dI.agS {O O1:VH} {k q:Nat} {x:cg} (h:dI O k q O1):dI O k q (O1.set q x):=⟨h.N,fun i hi a b=>(π _ _ b).trans (h.hp i hi a b)⟩
theorem bz.two {O O1:VH} {k q:Nat} (h:bz O (some q) O1):dI O k q O1:=⟨h.N,fun i hi _ b=>h.hp i hi (fun e=>b (by injection e with e;exact e.symm))⟩
theorem afm {O:VH} {k q ba bb bc:Nat} {t:Bs} {u s r r2:Int} {n:Nd} {p:Pm} {g:Gv} {m1 m2:MV} (ha:O.hp ba=some (.cells [.ptr k 0])) (yR:O.hp bb=some (.cells [.ptr q 0])) (DE:O.hp bc=some (.cells (bZ g))) (hk:O.hp k=some (.cells [m1,m2,mi r,mi r2])) (hq:O.hp q=some (.cells (jy t u s Bl ik)))
  (fQ:k<O.N) (oG:q<O.N) (kc:ba<O.N) (vZ:bb<O.N) (ia:bc<O.N) (hkq:k≠q) (ht:t.length<=65536) (hb:iG t= .ok n) (hr:pN n= .ok p):
  VF Tryz.prog 220 [.ptr ba 0,.ptr bb 0,.ptr bc 0] O (aD fun m O'=>(∃r',O'.hp k=some (.cells [m1,m2,mi r',mi r2]))/\O'.hp q=some (.cells (jy t u s p ik))/\dI O k q O'):=by
 have Bh:=fun O' h1 h2=>afl (O:=O') (q:=q) (u:=u) (s:=s) g h1 h2 ht hb hr
 have hka:ba≠k:=fun e=>by subst e;rw[ha]at hk;cases hk
 have tO:bb≠k:=fun e=>by subst e;rw[yR]at hk;cases hk
 have OZ:bc≠k:=fun e=>by subst e;rw[DE]at hk;unfold bZ at hk;cases hk
 obtain⟨g1,g2,g3⟩:=g;unfold bZ at DE Bh;simp only[aq]at hk;refine υ 10 [] Tryz.func220 ?_;refine θ (aG @sX @dB @ha ?_);refine ah.rt (wK 1 hk rfl) ?_;rintro m O1 ⟨rfl,e1⟩;have cA:O1.hp k=some (.cells [m1,m2,mi (IntKind.i64.wrap (r+1)),mi r2]):=by rw[e1];exact ρ _ _ _
 have sF:dI O k q O1:=by rw[e1];exact(dI.of (VH.Ge.refl _)).agR
 have cD:=(by rw[e1];exact π _ _ tO:O1.hp bb=O.hp bb).trans yR;have eS:=(by rw[e1];exact π _ _ OZ:O1.hp bc=O.hp bc).trans DE;have hq1:=(by rw[e1];exact π _ _ (Ne.symm hkq):O1.hp q=O.hp q).trans hq;have cW:O1.N=O.N:=by rw[e1];rfl
 clear e1;refine ao @sX @dB ?_;refine ι (aG @sX @cD @eS ?_);refine ah.rt (Bh O1 hq1 (by omega)) ?_;rintro m O2 ⟨ux,c8⟩;have bM:=(c8.hp k (by omega) (fun e=>hkq (by injection e with e;exact e.symm))).trans cA;refine ab @sX ?_;exact⟨⟨_,bM⟩,ux,sF.trans c8.two⟩
set_option linter.defProp false in
def kV:=zP sX<|zP dB<|zP T50<|zP Uf T74
theorem HU.qu {O O':VH} {k ke kv ce cv:Nat} {E V:fG} {r a r' a':Int} (h:HU O k ke kv E ce V cv r a) (hc:O'.hp k=some (.cells [.map ke,.map kv,mi r',mi a'])) (he:O'.hp ke=O.hp ke) (hv:O'.hp kv=O.hp kv) (hn:O.N<=O'.N):HU O' k ke kv E ce V cv r' a':=
 ⟨hc,he.trans h.Dj,hv.trans h.Jg,h.Ol,h.vok,h.ptr,⟨Ma h.lt.1 hn,Ma h.lt.2.1 hn,Ma h.lt.2.2 hn⟩,h.ne⟩
theorem HU.ge {O O':VH} {k ke kv ce cv:Nat} {E V:fG} {r a:Int} (h:HU O k ke kv E ce V cv r a) (g:O.Ge O'):HU O' k ke kv E ce V cv r a:=
 h.qu ((g.hp _ h.lt.1).trans h.cell) (g.hp _ h.lt.2.1) (g.hp _ h.lt.2.2) g.N
theorem aiF {O:VH} {k ke kv ce cv q:Nat} {E V:fG} {r a:Int} {t:Bs} {n:Nd} {p:Pm} (h:HU O k ke kv E ce V cv r a) (g:Gv) (hg:uo g) (eD:iC (fa g) E=some (.ptr q 0)) (hq:O.hp q=some (.cells (jy t 0 0 Bl ik))) (oG:q<O.N) (ht:t.length<=65536) (hb:iG t= .ok n) (hr:pN n= .ok p) (hp:abZ p):
  VF Tryz.prog 195 [.ptr k 0,.agg (bZ g)] O (aD fun m O'=>m= .tuple [.agg (gU p),.agg (nH ik)]/\(∃r' a',O'.hp k=some (.cells [.map ke,.map kv,mi r',mi a']))/\O'.hp q=some (.cells (jy t 1 0 p ik))/\dI O k q O'):=by
 have KE:q≠k:=fun e=>by subst e;rw[h.cell]at hq;simp[jy]at hq
 have hqe:q≠ke:=fun e=>by subst e;rw[h.Dj]at hq;cases hq
 have hqv:q≠kv:=fun e=>by subst e;rw[h.Jg]at hq;cases hq
 have hL3:(fa g).length=3:=rfl;have hLs:=wI hg;have hLm:bZ g=(fa g).map .str:=rfl;have hpc:=fun(O':VH) (ba bb bc:Nat) (m1 m2:MV) (r r2:Int) h1 h2 h3 h4 h5 h6 h7 h8 h9 yZ=>afm (O:=O') (k:=k) (q:=q) (ba:=ba) (bb:=bb) (bc:=bc) (u:=0) (s:=1) (r:=r) (r2:=r2) (g:=g) (m1:=m1) (m2:=m2) h1 h2 h3 h4 h5 h6 h7 h8 h9 yZ (Ne.symm KE) ht hb hr
 obtain⟨g1,g2,g3⟩:=g;have OZ:=h.cell;simp only[aq]at OZ;simp only[bZ];refine υ 40 [.cell 4 86,.cell 5 110] Tryz.func195 ?_;refine κ @kV ?_;refine VC.gen ?_;rintro O1 sT;obtain⟨aI,cW,cz,cD,eS,n7⟩:=F6 _ _ _ _ sT;clear sT;have cA:=(aI.hp _ h.lt.1).trans OZ;refine Θ [2,3,4,5] (fun _:Unit=>[.ptr O.N 0,.ptr (O.N+1) 0,.ptr (O.N+2) 0,.ptr (O.N+3) 0]) (fun _ O'=>O'=O1.set k (.cells [.map ke,.map kv,mi r,mi (IntKind.i64.wrap (a+1))])) ?_ ?_
 ·refine ξ @kV @cz ?_;refine ι (aG @kV @cz @cA ?_);refine ah.rt (wK 1 cA rfl) ?_;rintro m O2 ⟨rfl,e2⟩;refine ab @kV ?_;exact aA.mk () e2
 intro _ O2 e2;have eh:=h.lt;have bM:O2.hp k=some (.cells [.map ke,.map kv,mi r,mi (IntKind.i64.wrap (a+1))]):=by rw[e2];exact ρ _ _ _
 have ei:∀i,i≠k->O2.hp i=O1.hp i:=fun i hi=>by rw[e2];exact π _ _ hi
 have eZ:O2.N=O.N+4:=by rw[e2];exact cW
 have c8:dI O k q O2:=by rw[e2];exact(dI.of aI).agR
 have h2:HU O2 k ke kv E ce V cv r (IntKind.i64.wrap (a+1)):=h.qu bM ((ei _ (Ne.symm h.ne.1)).trans (aI.hp _ h.lt.2.1)) ((ei _ (Ne.symm h.ne.2.1)).trans (aI.hp _ h.lt.2.2)) c8.N;have fj:=(ei _ (by omega)).trans cz;have cJ:=(ei _ (by omega)).trans cD;have iH:=(ei _ (by omega)).trans eS;have iM:=(ei _ (by omega)).trans n7;have ux:=(ei _ KE).trans ((aI.hp _ oG).trans hq);clear e2 cz cD eS n7 cA bM ei;generalize IntKind.i64.wrap (a+1)=a2 at*;refine θ (aG @kV @fj @cJ ?_);refine ah.rt (Uw h2 ⟨g1,g2,g3⟩ hg) ?_;rintro _ O3 ⟨rfl,aH⟩;have hh:Cn E ⟨g1,g2,g3⟩=true:=by unfold Cn;rw[eD];rfl
 rw[hh];have h3:=h2.ge aH;have gy:=aH.N;have jv:=aH.at fj;have cB:=aH.at cJ;have fy:=aH.at iH;have wB:=aH.at iM;have qX:=aH.at ux;have c9:=c8.ge aH;clear fj cJ iH iM ux c8 h2;have dR:=h3.cell;have Sr:=h3.Dj;simp only[aq]at dR;refine ab @kV ?_;refine χ ?_;refine WC.bP (.held [7]) [(0,.rd),(1,.rd),(2,.rd),(3,.rd),(4,.rd),(5,.rd),(6,.one),(7,.one)] ?_;refine cR @kV @jv @cB @dR ?_;refine VL.hold (.inr rfl) rfl rfl (δ wH aa (l:=fa ⟨g1,g2,g3⟩) (te:=⟨_,1,8,[.v (.pointer none)]⟩) Tryz.underlying74 Uf rfl rfl Sr h3.Ol rfl hL3 hLs) (WL.sound aa ?_);rw[eD];refine ab @kV ?_;refine VC.al ?_;rintro O4 ⟨aY,jo,gO⟩;have h4:=h3.ge aY;have fM:=aY.at jv;have dd:=aY.at cB;have fR:=aY.at fy;have Bj:=aY.at wB;have Gx:=aY.at qX;have fD:=c9.ge aY;have lX:=h4.cell;clear jv cB fy wB qX c9 h3 dR Sr hh aY aH;refine ξ @kV @jo ?_;have gL:(jy t 0 0 Bl ik).set (1+1) (.v (.int .i32 1))=jy t 0 1 Bl ik:=rfl;have ve:∀{i:Nat} {y:Option cg},i≠q->O4.hp i=y->(O4.set q (.cells (jy t 0 1 Bl ik))).hp i=y:=fun hi hy=>(π _ _ hi).trans hy
 refine ah.rt (abJ (off:=1) (Φ :=fun O'=>(∃r',O'.hp k=some (.cells [.map ke,.map kv,mi r',mi a2]))/\O'.hp q=some (.cells (jy t 0 1 p ik))/\dI (O4.set q (.cells (jy t 0 1 Bl ik))) k q O') (g:=220) (xs:=[.ptr O.N 0,.ptr O3.N 0,.ptr (O.N+1) 0]) Gx rfl rfl (by kernel_rfl) (by rw[gL];exact hpc (O4.set q (.cells (jy t 0 1 Bl ik))) O.N O3.N (O.N+1) _ _ _ _ (ve (by omega) fM) (ve (by omega) jo) (ve (by omega) dd) (ve (Ne.symm KE) lX) (ρ _ _ _) (by show k<O4.N;omega) (by show q<O4.N;omega) (by show O.N<O4.N;omega) (by show O3.N<O4.N;omega) (by show O.N+1<O4.N;omega)) (fun O' Cd=>⟨_,Cd.2.1,rfl,rfl⟩)) ?_;rintro m O5 ⟨OX,cs',⟨⟨r',yb⟩,hqX,huX⟩,gq,e5⟩;rw[hqX]at gq;injection gq with gq;injection gq with gq
 subst gq;have mC:((jy t 0 1 p ik).set 1 (.v (.int .u32 1))).set (1+1) (.v (.int .i32 0))=jy t 1 0 p ik:=rfl;rw[mC]at e5;have v_:O5.hp q=some (.cells (jy t 1 0 p ik)):=by rw[e5];exact ρ _ _ _
 have gK:O5.hp k=some (.cells [.map ke,.map kv,mi r',mi a2]):=by rw[e5];exact(π _ _ (Ne.symm KE)).trans yb
 have huA:dI O4 k q (O4.set q (.cells (jy t 0 1 Bl ik))):=(dI.of (VH.Ge.refl _)).agS;have Jo:dI O4 k q O5:=by rw[e5];exact(huA.trans huX).agS
 have eU:=Jo.N;have rA:=fD.trans ⟨eU,fun i hi=>Jo.hp i hi⟩;have gd:=(Jo.hp _ (by omega) (by omega) (by omega)).trans fR;have zL:=(Jo.hp _ (by omega) (by omega) (by omega)).trans Bj;have mD:=(Jo.hp _ (by omega) (by omega) (by omega)).trans jo;clear e5 Jo huA huX hqX yb mC gL ve fM dd fR Bj Gx fD lX jo h4;refine ab @kV ?_;have hov:=fun O'=>aiE p O' hp
 obtain⟨pb,⟨pg,pa,pv⟩,pG,pA,pV,pk,P,M,DD⟩:=p;simp only[jy,gU,nH,ik,aq,bw,adW,Zk]at v_ hov ⊢;refine χ ?_;have gM:∀{O':VH},O5.Ge O'->O'.hp O3.N=some (.cells [.ptr q 0])/\O'.hp q=O5.hp q:=fun g=>⟨g.at mD,g.hp _ (by omega)⟩
 refine VC.qO [] (fun O'=>O'.hp O3.N=some (.cells [.ptr q 0])/\O'.hp q=O5.hp q) (⟨mD,rfl⟩) ?_;refine Ω (m:=.ptr q 0) 0 ?_ ?_
 ·rintro O2 ⟨j1,j2⟩;exact dX @kV @j1
 simp only[ak];refine ae.ar 1 ?_;refine ab @kV ?_;refine ae.ar 2 ?_;refine ab @kV ?_;refine Ω (m:=.ptr q 0) 5 ?_ ?_
 ·rintro O2 ⟨j1,j2⟩;exact dX @kV @j1
 simp only[ak];refine ae.ar 6 ?_;refine ab @kV ?_;refine ae.ar 7 ?_;refine ab @kV ?_;rw[v_];refine Ω (m:=.agg [.v (.int .i64 0),.str [],.str [],.str [],.v (.int .i64 0),.v (.int .i64 0),.v (.int .i64 0),.str []]) 8 ?_ ?_
 ·rintro O2 ⟨j1,j2⟩;exact dX @kV @j2
 simp only[ak];refine ae.op (i:=3) ?_;refine ao @kV @v_ ?_;refine⟨mD,?_⟩;refine ae.call (i:=4) (hov O5) ?_;rintro _ O6 ⟨rfl,fi⟩;simp only[ak];have nI:=fi.at mD;have hq6:=fi.at v_;have p9:=fi.at gK;have Cv:=fi.at gd;have hd6:=fi.at zL;have mU:=fi.N;have r_:=rA.ge fi;refine⟨⟨nI,hq6⟩,?_⟩;refine ae.op (i:=9) ?_;refine ao @kV @Cv ?_;refine⟨⟨nI,hq6⟩,?_⟩;refine ae.op (i:=10) ?_;refine ao @kV @hd6 ?_;refine⟨⟨nI,hq6⟩,?_⟩;refine ae.bP [] ?_;refine ab @kV ?_;refine VC.gen ?_;intro O7 e7;have wM:∀i,i≠O.N+2->i≠O.N+3->O7.hp i=O6.hp i:=fun i h1 h2=>by rw[e7,π _ _ h2,π _ _ h1]
 have uY:O7.N=O6.N:=by rw[e7];rfl
 have hd7:O7.hp (O.N+3)=some (.cells [.v (.int .i64 0),.str [],.str [],.str [],.v (.int .i64 0),.v (.int .i64 0),.v (.int .i64 0),.str []]):=by rw[e7];exact ρ _ _ _
 have hc7:O7.hp (O.N+2)=some (.cells [.v (.bool pb),.str pg,.str pa,.str pv,.str pG,.str pA,.str pV,.str pk,.sl P.length (P.flatMap bm) .au,.sl M.length (M.flatMap aU) .au,.sl DD.length (DD.flatMap aU) .au]):=by rw[e7,π _ _ (by omega)];exact ρ _ _ _
 have hq7:=(wM q (by omega) (by omega)).trans hq6;have u7:=(wM k (by omega) (by omega)).trans p9;have DP:dI O k q O7:=⟨by have:=r_.N;omega,fun i hi h1 h2=>(wM i (by omega) (by omega)).trans (r_.hp i hi h1 h2)⟩;clear e7 wM;refine ι (aG @kV @hc7 @hd7 ?_);exact⟨⟨_,_,u7⟩,hq7,DP⟩
set_option linter.defProp false in
def eG:=zP kV<|zP T82<|zP T75 rL
structure wN (O:VH) (V:fG) (N:Nat):Prop where
 row:∀p∈V,∃n cs tk,p.2.1= .sl n cs tk/\cs.length=n/\n<=N/\App O 0 1 tk/\c7 cs=cs
 one:∀(i j:Nat) (p r:List Bs×MV×Nat) (n:Nat) (cs:List MV) (tk:Tok) (n':Nat) (cs':List MV) (tk':Tok),V[i]?=some p->V[j]?=some r->i≠j->p.2.1= .sl n cs tk->r.2.1= .sl n' cs' tk'->∀x,Tok.id tk=some x->Tok.id tk'≠some x
theorem aL.sj {P:Program} {n:Sz} {D:List Deferred} {ops:Array Oper} {e:Env} {O:VH} {Q:VQ} {m:MV} {i d:Nat} {op:Op} {ty:TypeId} {ps:String} {af:Array Edge} {g:Option (Nat×Bool)} {K:Env->VH->Prop} (hy:fH P n D (.mk (some d) op ty ps af g) e O m) (h:K ((d,m)::e) O) (ho:ops[i]?=some (.mk (some d) op ty ps af g):=by exact rfl) (hg:aN ops (.mk (some d) op ty ps af g) e=some true:=by exact rfl) (hd:bC n (some d)=true:=by exact rfl):aL P n D ops i e O Q K:=
 aL.hold ho hg hd hy h
def ab0 (t:Bs):Option Pm->List MV
 | none=>jy t 0 0 Bl ik
 | some p=>jy t 1 0 p ik
theorem App.mv {O O':VH} {B sz:Nat} {tk:Tok} (h:App O B sz tk) (hn:O.N<=O'.N) (hi:∀i,i<O.N->O.hp i=some .tok->O'.hp i=some .tok):App O' B sz tk:=by
 cases tk with
 | own t j=>exact⟨h.1,hi _ h.2.2.2 h.2.1,h.2.2.1,Ma h.2.2.2 hn⟩
 | nil=>trivial
 | full=>trivial
 | au=>exact h.elim
theorem wN.mv {O O':VH} {V:fG} {N:Nat} (h:wN O V N) (hn:O.N<=O'.N) (hi:∀i,i<O.N->O.hp i=some .tok->O'.hp i=some .tok):wN O' V N:=
 ⟨fun p hp=>by obtain⟨n,cs,tk,h1,h2,h3,h4,h5⟩:=h.row p hp;exact⟨n,cs,tk,h1,h2,h3,h4.mv hn hi,h5⟩,h.one⟩
theorem wN.ge {O O':VH} {V:fG} {N:Nat} (h:wN O V N) (g:O.Ge O'):wN O' V N:=h.mv g.N fun i hi e=>(g.hp i hi).trans e
theorem App.off {O:VH} {B sz i:Nat} {tk:Tok} (h:App O B sz tk) (hi:i<O.N) (hn:O.hp i≠some .tok):(O.after tk).hp i=O.hp i:=by
 refine(b_.after h).hp i hi fun e=>hn ?_
 cases tk with
 | own t j=>injection e with e;subst e;exact h.2.1
 | _=>cases e
theorem WR.Ym {G:Gh} {O:VH} {w:World} {k:Nat} {cs cs':List MV} (h:WR G O w) (hk:O.hp k=some (.cells cs)) (hw:ff cs cs'):WR G (O.set k (.cells cs')) w:=by
 obtain⟨b,C,T,h1,h2,h3⟩:=h.cells k cs hk;refine h.swap (by rw[hk];simp) (fun ds e=>?_) (fun X e=>by cases e) (fun _ _ e=>by cases e) (fun e=>by cases e) (fun _ _ _ e=>by cases e);injection e with e;subst e
 exact⟨b,C,T,h1,h2,hw.1▸hw.vrs h3⟩
theorem VC.Ym {P:Program} {n:Sz} {D:List Deferred} {c:Code} {e:Env} {Q:VQ} {O:VH} {k:Nat} {cs cs':List MV} (hk:O.hp k=some (.cells cs)) (hw:ff cs cs') (h:VC P n D c e (O.set k (.cells cs')) Q):VC P n D c e O Q:=fun G a w h1 h2=>h G a w (h1.Ym hk hw) h2
theorem ff.ak0 (a1 a2 a3 a4 a5 a6 a7 a8 a9 a10 a11 a12 b1 b2 b3 b4 b5 b6 b7 b8:MV):ff [a1,a2,a3,a4,a5,a6,a7,a8,a9,a10,a11,a12,.sl 0 [] .nil,.sl 0 [] .nil,.sl 0 [] .nil,b1,b2,b3,b4,b5,b6,b7,b8] [a1,a2,a3,a4,a5,a6,a7,a8,a9,a10,a11,a12,.sl 0 [] .au,.sl 0 [] .au,.sl 0 [] .au,b1,b2,b3,b4,b5,b6,b7,b8]:=
 by repeat' first
  | exact ff.refl _
  | exact Wk.refl _
  | exact Wk.tok
  | refine ff.cons ?_ ?_
theorem afn {O:VH} {B sz:Nat} {tk:Tok} (h:App O B sz tk) {x:Nat} (e:Tok.id tk=some x):x<O.N:=(App.nD h e).2
theorem wN.app {O:VH} {V:fG} {N:Nat} (h:wN O V N) {tk:Tok} {p:List Bs×MV×Nat} (ha:App O 0 1 tk) (hp:p∈V) (hne:∀n' cs' tk',p.2.1= .sl n' cs' tk'->∀x,Tok.id tk=some x->Tok.id tk'≠some x):∃n cs t,p.2.1= .sl n cs t/\cs.length=n/\n<=N+1/\App (O.after tk) 0 1 t/\c7 cs=cs:=by
 obtain⟨n',cs',t,h1,h2,h3,h4,h5⟩:=h.row p hp;exact⟨n',cs',t,h1,h2,Nat.le_succ_of_le h3,b_.app (b_.after ha) h4 (hne _ _ _ h1),h5⟩
theorem wN.put {O:VH} {V:fG} {N:Nat} (h:wN O V N) (hV:nT 2 V) {l:List Bs} {n ck:Nat} {cs:List MV} {tk:Tok} {v:Bs} (eD:zx false (.sl 0 [] .nil) (iC l V)= .sl n cs tk) (hc:cs.length=n) (hn:n<=N) (ha:App O 0 1 tk) (hu:c7 cs=cs):
  wN (O.after tk) (ja l (.sl (n+1) (cs++[.str v]) (.own O.N 1)) ck V) (N+1):=by
 have nc:∃n' cs' t,(MV.sl (n+1) (cs++[.str v]) (.own O.N 1))= .sl n' cs' t/\cs'.length=n'/\n'<=N+1/\App (O.after tk) 0 1 t/\c7 cs'=cs':=⟨_,_,_,rfl,by rw[Qm,hc];rfl,by omega,App.after (ahM _),by rw[nS,hu];simp only[wu]⟩
 have eh:∀p∈V,∀n' cs' t',p.2.1= .sl n' cs' t'->∀x,Tok.id t'=some x->x<O.N:=fun p hp n' cs' t' e x hx=>by
  obtain⟨a,b,c,h1,_,_,h4,_⟩:=h.row p hp;rw[h1]at e;injection e with _ _ e;subst e
  exact afn h4 hx
 unfold ja;cases jY:V.any (·.1==l)
 ·rw[if_neg (by simp)]
  have EF:∀p∈V,p.1≠l:=fun p hp e=>by
   rw[am8]at jY;exact jY p hp (by simp[e])
  rw[xy EF]at eD;simp only[zx]at eD;injection eD with e1 e2 e3;subst e1;subst e2;subst e3
  refine⟨fun p hp=>?_,fun i j p r n' cs' tk' n'' ak1 ak2 hi hj Hv hp hr x hx=>?_⟩
  ·rcases ahP.1 hp with hp | hp
   ·exact h.app ha hp (fun _ _ _ _ x hx=>by cases hx)
   ·rw[Zj.1 hp];exact nc
  ·rw[ana]at hi hj;split at hi<;>split at hj
   ·exact h.one i j p r _ _ _ _ _ _ hi hj Hv hp hr x hx
   ·have QZ:=adZ hj;rw[Zj]at QZ;subst QZ;dsimp only at hr;injection hr with _ _ e;subst e
    intro e2;injection e2 with e2
    have:=eh p (adZ hi) _ _ _ hp x hx;omega
   ·have rE:=adZ hi;rw[Zj]at rE;subst rE;dsimp only at hp;injection hp with _ _ e;subst e
    injection hx with hx;intro e2;have:=eh r (adZ hj) _ _ _ hr x e2;omega
   ·have h1:=(adX.1 hi).1;have h2:=(adX.1 hj).1;simp only[adY,Qn]at h1 h2;omega
 ·rw[if_pos rfl];obtain⟨p0,hp0,HB⟩:=List.any_eq_true.1 jY;have HB:=eq_of_beq HB;obtain⟨i0,hi0,e0⟩:=ahJ.1 hp0;have mT:V[i0]?=some p0:=by rw[agc hi0,e0]
  have p5:=KC hV.one mT;rw[HB]at p5;rw[p5]at eD;simp only[zx]at eD;have eD:p0.2.1= .sl n cs tk:=eD
  have uH:∀{i:Nat} {p:List Bs×MV×Nat},V[i]?=some p->p.1=l->i=i0:=fun{i p} hi dH=>by
   have h1:(V.map (·.1))[i]?=some l:=by rw[ajl,hi];exact congrArg some dH
   have h2:(V.map (·.1))[i0]?=some l:=by rw[ajl,mT];exact congrArg some HB
   exact(List.getElem?_inj (by rw[ahN];exact(adX.1 hi).1) hV.one).1 (h1.trans h2.symm)
  refine⟨fun p' hp'=>?_,fun i j p' r' n' cs' tk' n'' ak1 ak2 hi hj Hv hp hr x hx=>?_⟩
  ·obtain⟨p,hp,rfl⟩:=List.mem_map.1 hp';by_cases e:p.1=l
   ·rw[if_pos e];exact nc
   ·rw[if_neg e];obtain⟨j,hj,ej⟩:=ahJ.1 hp;have La:V[j]?=some p:=by rw[agc hj,ej]
    exact h.app ha hp (fun n' cs' tk' e2 x hx=>h.one i0 j p0 p _ _ _ _ _ _ mT La (fun e3=>by subst e3;rw[mT]at La;injection La with La;exact e (La▸HB)) eD e2 x hx)
  ·rw[ajl]at hi hj;obtain⟨p,hpi,rfl⟩:=ajo.1 hi;obtain⟨r,hrj,rfl⟩:=ajo.1 hj;by_cases e:p.1=l
   ·by_cases e2:r.1=l
    ·exact absurd ((uH hpi e).trans (uH hrj e2).symm) Hv
    ·rw[if_pos e]at hp;rw[if_neg e2]at hr;dsimp only at hp;injection hp with _ _ e3;subst e3
     injection hx with hx;intro e4;have:=eh r (adZ hrj) _ _ _ hr x e4;omega
   ·rw[if_neg e]at hp;by_cases e2:r.1=l
    ·rw[if_pos e2]at hr;dsimp only at hr;injection hr with _ _ e3;subst e3
     intro e4;injection e4 with e4
     have:=eh p (adZ hpi) _ _ _ hp x hx;omega
    ·rw[if_neg e2]at hr;exact h.one i j p r _ _ _ _ _ _ hpi hrj Hv hp hr x hx
structure oc (O:VH) (k:Nat) (L:List (Gv×Bs×Option Pm)) (E V:fG) (ke kv ce cv:Nat) (r a:Int):Prop where
 st:HU O k ke kv E ce V cv r a
 len:E.length=L.length
 Lb:∀(i:Nat) (g:Gv) (t:Bs) (o:Option Pm),L[i]?=some (g,t,o)->∃(q c:Nat),E[i]?=some (fa g,MV.ptr q 0,c)/\(q:Nat)<O.N/\O.hp q=some (.cells (ab0 t o))
 dis:∀(i j:Nat) (p r:List Bs×MV×Nat) (q:Nat),E[i]?=some p->E[j]?=some r->p.2.1=MV.ptr q 0->r.2.1=MV.ptr q 0->i=j
 ver:wN O V L.length
theorem afo (O:VH):VF Tryz.prog 19 [] O (aD fun m O'=>m= .ptr (O.N+2) 0/\oc O' (O.N+2) [] [] [] O.N (O.N+1) 0 0 0 0/\O.Ge O'):=by
 refine υ 5 [.tmp 0] Tryz.func19 ?_;have k8:Fp (kU [(0,1),(1,1),(2,1),(3,1)]) [.v (.map none),.v (.map none),.v (.int .i64 0),.v (.int .i64 0)] (.map O.N) [(1,.map (O.N+1))] (some (0,1))=some [.map O.N,.map (O.N+1),.v (.int .i64 0),.v (.int .i64 0)]:=rfl;refine κ @eG ?_;refine ξ @eG @k8 ?_;refine ν @eG ?_;obtain⟨hg,hn,h1,h2,h3⟩:=lx (O:=O) (.map [] 0) (.map [] 0) (.cells [.map O.N,.map (O.N+1),.v (.int .i64 0),.v (.int .i64 0)]) rfl;refine⟨⟨⟨h3,h1,h2,⟨by simp,by simp⟩,⟨by simp,by simp⟩,by simp,by omega,by omega⟩,rfl,by simp,by simp,⟨by simp,by simp⟩⟩,hg⟩
theorem O_ {tab:cj} {O:VH} {t kd te:TypeId} {k a b ck:Nat} {z:List MV} {es:vx} (h:tab t=some ⟨.map kd te,a,b,z⟩) (hb:O.hp k=some (.map es ck)):qo tab O t (.map k)=some (.v (.int .i64 es.length)):=by simp[qo,h,hb]
theorem Gy {M:fG} {l:List Bs} (h:iC l M=none):∀p∈M,p.1≠l:=by
 unfold iC at h;rw[Option.map_eq_none_iff,List.find?_eq_none]at h;intro p hp e;exact h p hp (by simp[e])
theorem Jp {x y:Gv} (h:fa x=fa y):x=y:=by
 obtain⟨a,b,c⟩:=x;obtain⟨d,e,f⟩:=y;simp only[fa,List.cons.injEq,and_true]at h;obtain⟨rfl,rfl,rfl⟩:=h;rfl
section
variable {O O':VH} {k ke kv ce cv:Nat} {L:List (Gv×Bs×Option Pm)} {E V:fG} {r a:Int}
theorem oc.none (h:oc O k L E V ke kv ce cv r a) {g:Gv} (dF:∀x∈L,x.1≠g):iC (fa g) E=none:=by
 refine xy fun p hp e=>?_
 obtain⟨i,hi,rfl⟩:=ahJ.1 hp;have hiL:i<L.length:=by rw[<-h.len];exact hi
 obtain⟨q,c,h1,_⟩:=h.Lb i L[i].1 L[i].2.1 L[i].2.2 (agc hiL);rw[agc hi]at h1;injection h1 with h1;rw[h1]at e;exact dF _ (ajs hiL) (Jp e)
theorem oc.some (h:oc O k L E V ke kv ce cv r a) {i:Nat} {g:Gv} {t:Bs} {o:Option Pm} (hi:L[i]?=some (g,t,o)):∃q c,iC (fa g) E=some (.ptr q 0)/\q<O.N/\O.hp q=some (.cells (ab0 t o))/\E[i]?=some (fa g,.ptr q 0,c):=by
 obtain⟨q,c,h1,h2,h3⟩:=h.Lb i g t o hi;exact⟨q,c,KC h.st.Ol.one h1,h2,h3,h1⟩
end
theorem aiG {O:VH} {k ke kv ce cv:Nat} {L:List (Gv×Bs×Option Pm)} {E V:fG} {r a:Int} (h:oc O k L E V ke kv ce cv r a) (g:Gv) (t:Bs) (hm:AT g=true) (o5:uo g) (dF:∀x∈L,x.1≠g) (hL:L.length<1024):
  VF Tryz.prog 35 [.ptr k 0,.agg (bZ g),.str t] O (aD fun m O'=>m=mi 0/\(∃E' V' Ss St,oc O' k (L++[(g,t,none)]) E' V' ke kv Ss St r a)/\O.N<=O'.N/\∀i cs,i<O.N->O.hp i=some (.cells cs)->O'.hp i=some (.cells cs)):=by
 have uZ:=h.none dF;have HN:=h.len;have cX:=h.st;have hh:Cn E g=false:=by unfold Cn;rw[uZ];rfl
 have eh:=cX.lt;have hL3:(fa g).length=3:=rfl;have hLs:=wI o5;have Cw:=fun O'=>Xs g O' o5.1 o5.2.1 o5.2.2
 have ab1:=fun(O':VH) (g':O.Ge O')=>Uw (cX.ge g') g o5
 rw[hm]at Cw;rw[hh]at ab1;obtain⟨g1,g2,g3⟩:=g;simp only[bZ]at Cw ab1 ⊢;refine υ 50 [.tmp 6] Tryz.func35 ?_;refine κ @eG ?_;refine VC.bx ?_;rintro O1 ⟨aI,eP,cW⟩;refine ξ @eG @eP ?_;refine ah.rt (Cw O1) ?_;rintro _ O2 ⟨rfl,aB⟩;have jb:=aB.at eP;have fA:=aI.trans aB;refine ao @eG @jb ?_;refine ah.rt (ab1 O2 fA) ?_;rintro _ O3 ⟨rfl,aH⟩;have ew:=fA.trans aH;have lS:=(aH.hp _ (by have:=aB.N;omega)).trans jb;have gy:=ew.N;have h3:=cX.ge ew;have dR:=h3.cell;have Sr:=h3.Dj;simp only[aq]at dR;have hEn:(cP E).length<1024:=by unfold cP;rw[ahN];omega
 have tH:=O_ T74 Sr;have HK:(cP E).length=L.length:=by unfold cP;rw[ahN];exact HN
 rw[HK]at tH;refine aG @eG @dR @tH ?_;refine χ ?_;refine WC.bP (.held [8]) [(0,.rd),(1,.rd),(2,.rd),(3,.rd),(4,.rd),(5,.rd),(6,.rd),(7,.one),(8,.one)] ?_;refine aG @eG @dR @lS ?_;have heP:∀{x:cg},(O3.push x).hp ke=some (.map (cP E) ce):=(Υ _ _ h3.lt.2.1).trans Sr
 refine VL.oE rfl rfl (oD.ja wH (l:=fa ⟨g1,g2,g3⟩) (b:=ke) (ck:=ce) (M:=E) Tryz.underlying74 rfl heP h3.Ol rfl hL3 hLs rfl) (fun brk hb i hi=>?_) (WL.sound aa ?_)
 ·cases hb
  rcases i with _ | _ | _ | _ | _ | _ | _ | _ | _ | i<;>first
   | rfl
   | (exfalso;revert hi;simp)
 have u_:E.any (·.1==fa ⟨g1,g2,g3⟩)=false:=by
  rw[am8];intro p hp hpe;have:=Gy uZ p hp;exact this (eq_of_beq hpe)
 unfold ja KB;rw[u_];refine ab @eG ?_;refine VC.gen ?_;intro O4 e4;have gO:O4.N=O3.N+1:=by rw[e4];rfl
 have agT:=h3.lt;have Pb:O.N+1<=O3.N:=by have:=aB.N;have:=aH.N;omega
 have sk:∀i,i<O3.N->i≠ke->O4.hp i=O3.hp i:=fun i h1 h2=>by rw[e4,π _ _ h2];exact Υ _ _ h1
 have he4:O4.hp ke=some (.map (cP (E++[(fa ⟨g1,g2,g3⟩,MV.ptr O3.N 0,ce)])) (ce+1)):=by rw[e4];exact ρ _ _ _
 have Gx:O4.hp O3.N=some (.cells [.str t,.v (.int .u32 0),.v (.int .i32 0),.v (.int .u32 0),.v (.bool false),.str [],.str [],.str [],.str [],.str [],.str [],.str [],.sl 0 [] .nil,.sl 0 [] .nil,.sl 0 [] .nil,.v (.int .i64 0),.str [],.str [],.str [],.v (.int .i64 0),.v (.int .i64 0),.v (.int .i64 0),.str []]):=by
  rw[e4,π _ _ (by omega)];exact Ξ _ _
 clear e4 heP;refine VC.Ym Gx (cs':=jy t 0 0 Bl ik) (ff.ak0 _ _ _ _ _ _ _ _ _ _ _ _ _ _ _ _ _ _ _ _) ?_;refine VC.gen ?_;intro O5 e5;have eU:O5.N=O3.N+1:=by rw[e5];exact gO
 have gM:∀i,i<O3.N->i≠ke->O5.hp i=O3.hp i:=fun i h1 h2=>by rw[e5,π _ _ (by omega)];exact sk i h1 h2
 have he5:O5.hp ke=some (.map (cP (E++[(fa ⟨g1,g2,g3⟩,MV.ptr O3.N 0,ce)])) (ce+1)):=by rw[e5,π _ _ (by omega)];exact he4
 have v_:O5.hp O3.N=some (.cells (jy t 0 0 Bl ik)):=by rw[e5];exact ρ _ _ _
 clear e5 sk he4 Gx gO O4;have gK:=(gM k (by omega) cX.ne.1).trans dR;have pR:=(gM kv (by omega) (Ne.symm cX.ne.2.2)).trans h3.Jg;have mD:=(gM O.N (by omega) (by omega)).trans lS;have ab2:wN O5 V L.length:=(h.ver.ge ew).mv (by omega) fun i hi e=>(gM i hi (fun e2=>by subst e2;rw[Sr]at e;cases e)).trans e
 obtain⟨n,cs,tk,kK,gq,hnn,uV,fu⟩:∃n cs tk,zx false (.sl 0 [] .nil) (iC (Bm ⟨g1,g2⟩) V)= .sl n cs tk/\cs.length=n/\n<=L.length/\App O5 0 1 tk/\c7 cs=cs:=by
  cases eD:iC (Bm ⟨g1,g2⟩) V with
  | none=>exact⟨0,[],.nil,rfl,rfl,ahM _,trivial,rfl⟩
  | some m=>
    unfold iC at eD;obtain⟨p,lJ,rfl⟩:=ajo.1 eD;obtain⟨n,cs,tk,k1,k2,k3,k4,k5⟩:=ab2.row p (al_ lJ);exact⟨n,cs,tk,k1,k2,k3,k4,k5⟩
 have HY:=cX.vok;have Jq:=aiz ⟨g1,g2,g3⟩
 have DW:∀s∈Bm ⟨g1,g2⟩,s.length<=maxLen:=by
  intro s hs;simp only[Bm,ajv,ani,or_false]at hs;rcases hs with rfl | rfl
  ·exact o5.1
  ·exact o5.2.1
 simp only[bZ]at Jq;refine χ ?_;refine VC.qO [17] (fun O'=>O'.hp k=O5.hp k/\O'.hp O.N=O5.hp O.N) (⟨rfl,rfl⟩) ?_;refine ae.ar 0 ?_;refine ab @eG ?_;refine ae.ar 1 ?_;refine ab @eG ?_;refine ae.ar 2 ?_;refine ab @eG ?_;refine Ω (m:=.map kv) 3 ?_ ?_
 ·rintro O2 ⟨j1,j2⟩;exact dX @eG (j1.trans gK)
 simp only[ak];refine Ω (m:=.agg [.str g1,.str g2,.str g3]) 4 ?_ ?_
 ·rintro O2 ⟨j1,j2⟩;exact dX @eG (j2.trans mD)
 simp only[ak];refine ae.ar 6 ?_;refine ab @eG ?_;refine ae.ar 7 ?_;refine ab @eG ?_;refine ae.ar 8 ?_;refine ab @eG ?_;refine Ω (m:=.map kv) 9 ?_ ?_
 ·rintro O2 ⟨j1,j2⟩;exact dX @eG (j1.trans gK)
 simp only[ak];refine Ω (m:=.agg [.str g1,.str g2,.str g3]) 10 ?_ ?_
 ·rintro O2 ⟨j1,j2⟩;exact dX @eG (j2.trans mD)
 simp only[ak];refine ae.ar 13 ?_;refine ab @eG ?_;refine Ω (m:=.str g3) 14 ?_ ?_
 ·rintro O2 ⟨j1,j2⟩;exact dX @eG (j2.trans mD)
 simp only[ak];have hJ:∀O',O5.Ge O'->O'.hp k=O5.hp k/\O'.hp O.N=O5.hp O.N:=fun O' g=>⟨g.hp _ (by omega),g.hp _ (by omega)⟩
 have pc:∀OO,O5.Ge OO->∀OF,OF=(OO.after tk).set kv (.map (cP (ja (Bm ⟨g1,g2⟩) (.sl (n+1) (cs++[.str g3]) (.own OO.N 1)) cv V)) (KB (Bm ⟨g1,g2⟩) cv V))->(∃E' V' Ss St,oc OF k (L++[((⟨g1,g2,g3⟩:Gv),t,none)]) E' V' ke kv Ss St r a)/\O.N<=OF.N/\∀i cs,i<O.N->O.hp i=some (.cells cs)->OF.hp i=some (.cells cs):=by
  intro OO hG OF eF;have hoO:=hG.N
  have hF:∀i,i<O5.N->O5.hp i≠some .tok->i≠kv->OF.hp i=O5.hp i:=fun i hi hne hv=>by
   rw[eF,π _ _ hv];have e1:=hG.hp i hi;rw[App.off (uV.ge hG) (Ma hi hG.N) (by rw[e1];exact hne)];exact e1
  have Su:O5.N<=OF.N:=by
   have:OF.N=(OO.after tk).N:=by rw[eF];rfl
   have:=(b_.after (uV.ge hG)).N;omega
  have hold:∀i cs,i<O.N->O.hp i=some (.cells cs)->OF.hp i=some (.cells cs):=fun i cs hi e=>by
   have e3:=(ew.hp i hi).trans e;have e5:=(gM i (by omega) (fun e2=>by subst e2;rw[Sr]at e3;cases e3)).trans e3;exact(hF i (by omega) (by rw[e5];simp) (fun e2=>by subst e2;rw[pR]at e5;cases e5)).trans e5
  have ab3:=qz (y:=MV.ptr O3.N 0) (ck:=ce) h3.Ol hL3 hLs;unfold ja at ab3;rw[u_]at ab3;refine⟨⟨_,_,_,_,⟨⟨(hF _ (by omega) (by rw[gK];simp) cX.ne.2.1).trans gK,(hF _ (by omega) (by rw[he5];simp) cX.ne.2.2).trans he5,by rw[eF];exact ρ _ _ _,ab3,qz HY rfl DW,fun p hp=>?_,⟨by omega,by omega,by omega⟩,cX.ne⟩,by rw[Qm,Qm,HN];rfl,fun i g' t' o' hi=>?_,fun i j p r' q hi hj hp hr=>?_,?_⟩⟩,by omega,hold⟩
  ·rcases ahP.1 hp with hp | hp
   ·exact cX.ptr p hp
   ·rw[Zj.1 hp];exact⟨_,rfl⟩
  ·rw[ana]at hi;split at hi
   ·rename_i Sv;obtain⟨q,c,k1,k2,k3⟩:=h.Lb i g' t' o' hi;exact⟨q,c,by rw[ang (by omega)];exact k1,by omega,hold q _ k2 k3⟩
   ·rename_i Sv;have rE:=adZ hi;rw[Zj]at rE;injection rE with e1 e2;injection e2 with e2 e3
    subst e1;subst e2;subst e3
    have hlen:=(adX.1 hi).1;simp only[adY,Qn]at hlen;refine⟨O3.N,ce,?_,by omega,(hF _ (by omega) (by rw[v_];simp) (by omega)).trans v_⟩;rw[anc (by omega),HN,show i - L.length=0 by omega];rfl
  ·have hq:∀(i:Nat) (p:List Bs×MV×Nat) (q:Nat),E[i]?=some p->p.2.1=MV.ptr q 0->q<O.N:=fun i p q hi hp=>by
    have Sv:i<L.length:=by rw[<-HN];exact(adX.1 hi).1
    obtain⟨q',c,k1,k2,_⟩:=h.Lb i _ _ _ (agc Sv);rw[hi]at k1;injection k1 with k1
    rw[k1]at hp;dsimp only at hp;injection hp with hp;omega
   rw[ana]at hi hj;split at hi<;>split at hj
   ·exact h.dis i j p r' q hi hj hp hr
   ·have QZ:=adZ hj;rw[Zj]at QZ;subst QZ;dsimp only at hr;injection hr with hr;have:=hq i p q hi hp;omega
   ·have rE:=adZ hi;rw[Zj]at rE;subst rE;dsimp only at hp;injection hp with hp;have:=hq j r' q hj hr;omega
   ·have h1:=(adX.1 hi).1;have h2:=(adX.1 hj).1;simp only[adY,Qn]at h1 h2;omega
  ·rw[Qm];have hvO:=wN.put (ck:=cv) (v:=g3) (ab2.ge hG) HY kK gq hnn (uV.ge hG) fu;rw[eF];refine hvO.mv (Vq _) fun i hi e=>?_
   by_cases e2:i=kv
   ·subst e2;rw[App.off (uV.ge hG) (by omega) (by rw[hG.hp _ (by omega),pR];simp),hG.hp _ (by omega),pR]at e;cases e
   ·exact(π _ _ e2).trans e
 have hG:=VH.Ge.refl O5;refine ae.pair (i:=5) (j:=15) ?_ ?_
 ·refine aL.j8 (Jq _) ?_;rintro _ O6 ⟨rfl,qC⟩
  replace hG:=hG.trans qC
  clear qC;simp only[ak];refine⟨hJ _ hG,?_⟩;refine ae.pair (i:=11) (j:=15) ?_ ?_
  ·refine aL.j8 (Jq _) ?_;rintro _ O7 ⟨rfl,qC⟩
   replace hG:=hG.trans qC
   clear qC;simp only[ak];refine⟨hJ _ hG,?_⟩;refine ae.pair (i:=12) (j:=15) ?_ ?_
   ·refine aL.sj (δ Dh aa (l:=Bm ⟨g1,g2⟩) (te:=⟨_,1,24,[.sl 0 [] .nil]⟩) Tryz.underlying75 rL rfl rfl (hG.at pR) HY rfl rfl DW) ?_;rw[kK];refine⟨hJ _ hG,?_⟩;refine ae.op (i:=15) ?_;refine ab @eG ?_;refine⟨hJ _ hG,?_⟩;have cf:=aR (tk:=tk) (tk':=.full) (B:=0) (n:=n) (k:=1) (cs:=cs) (ds:=[.str g3]) rL T9 (O:=O7) (uV.ge hG) (by rw[ank];exact gq) rfl rfl (by decide) (by decide) (by omega) (by simp only[maxLen];omega)
    have qc:∀i,i<O5.N->O5.hp i≠some .tok->((O7).after tk).hp i=O5.hp i:=fun i hi hne=>by
     have e1:=(hG).hp i hi;rw[App.off (uV.ge hG) (Ma hi (hG).N) (by rw[e1];exact hne)];exact e1
    refine ae.op (i:=16) ?_;rw[dj];refine ao @eG @cf ?_;refine⟨⟨qc _ (by omega) (by rw[gK];simp),qc _ (by omega) (by rw[mD];simp)⟩,?_⟩;refine ae.bP [(17,.one)] ?_;refine ab @eG ?_;refine VL.oE rfl rfl (oD.ja Dh (l:=Bm ⟨g1,g2⟩) (b:=kv) (ck:=cv) (M:=V) Tryz.underlying75 rfl ((qc _ (by omega) (by rw[pR];simp)).trans pR) HY rfl rfl DW rfl) (fun brk hb=>by cases hb) (WL.sound aa ?_);refine ab @eG ?_;refine VC.gen ?_;intro OF eF;refine κ @eG ?_;refine ν @eG ?_;exact pc O7 hG OF eF
   ·refine aL.o1 ?_;refine ab @eG ?_;refine⟨hJ _ hG,?_⟩;refine ae.one (i:=12) (aL.sj (δ Dh aa (l:=Bm ⟨g1,g2⟩) (te:=⟨_,1,24,[.sl 0 [] .nil]⟩) Tryz.underlying75 rL rfl rfl (hG.at pR) HY rfl rfl DW) ?_);rw[kK];refine⟨hJ _ hG,?_⟩;have cf:=aR (tk:=tk) (tk':=.full) (B:=0) (n:=n) (k:=1) (cs:=cs) (ds:=[.str g3]) rL T9 (O:=O7) (uV.ge hG) (by rw[ank];exact gq) rfl rfl (by decide) (by decide) (by omega) (by simp only[maxLen];omega)
    have qc:∀i,i<O5.N->O5.hp i≠some .tok->((O7).after tk).hp i=O5.hp i:=fun i hi hne=>by
     have e1:=(hG).hp i hi;rw[App.off (uV.ge hG) (Ma hi (hG).N) (by rw[e1];exact hne)];exact e1
    refine ae.op (i:=16) ?_;rw[dj];refine ao @eG @cf ?_;refine⟨⟨qc _ (by omega) (by rw[gK];simp),qc _ (by omega) (by rw[mD];simp)⟩,?_⟩;refine ae.bP [(17,.one)] ?_;refine ab @eG ?_;refine VL.oE rfl rfl (oD.ja Dh (l:=Bm ⟨g1,g2⟩) (b:=kv) (ck:=cv) (M:=V) Tryz.underlying75 rfl ((qc _ (by omega) (by rw[pR];simp)).trans pR) HY rfl rfl DW rfl) (fun brk hb=>by cases hb) (WL.sound aa ?_);refine ab @eG ?_;refine VC.gen ?_;intro OF eF;refine κ @eG ?_;refine ν @eG ?_;exact pc O7 hG OF eF
  ·refine aL.o1 ?_;refine ab @eG ?_;refine⟨hJ _ hG,?_⟩;refine ae.one (i:=11) (aL.j8 (Jq _) ?_);rintro _ O7 ⟨rfl,qC⟩
   replace hG:=hG.trans qC
   clear qC;simp only[ak];refine⟨hJ _ hG,?_⟩;refine ae.one (i:=12) (aL.sj (δ Dh aa (l:=Bm ⟨g1,g2⟩) (te:=⟨_,1,24,[.sl 0 [] .nil]⟩) Tryz.underlying75 rL rfl rfl (hG.at pR) HY rfl rfl DW) ?_);rw[kK];refine⟨hJ _ hG,?_⟩;have cf:=aR (tk:=tk) (tk':=.full) (B:=0) (n:=n) (k:=1) (cs:=cs) (ds:=[.str g3]) rL T9 (O:=O7) (uV.ge hG) (by rw[ank];exact gq) rfl rfl (by decide) (by decide) (by omega) (by simp only[maxLen];omega)
   have qc:∀i,i<O5.N->O5.hp i≠some .tok->((O7).after tk).hp i=O5.hp i:=fun i hi hne=>by
    have e1:=(hG).hp i hi;rw[App.off (uV.ge hG) (Ma hi (hG).N) (by rw[e1];exact hne)];exact e1
   refine ae.op (i:=16) ?_;rw[dj];refine ao @eG @cf ?_;refine⟨⟨qc _ (by omega) (by rw[gK];simp),qc _ (by omega) (by rw[mD];simp)⟩,?_⟩;refine ae.bP [(17,.one)] ?_;refine ab @eG ?_;refine VL.oE rfl rfl (oD.ja Dh (l:=Bm ⟨g1,g2⟩) (b:=kv) (ck:=cv) (M:=V) Tryz.underlying75 rfl ((qc _ (by omega) (by rw[pR];simp)).trans pR) HY rfl rfl DW rfl) (fun brk hb=>by cases hb) (WL.sound aa ?_);refine ab @eG ?_;refine VC.gen ?_;intro OF eF;refine κ @eG ?_;refine ν @eG ?_;exact pc O7 hG OF eF
 ·refine aL.o1 ?_;refine ab @eG ?_;refine ae.one (i:=5) (aL.j8 (Jq _) ?_);rintro _ O6 ⟨rfl,qC⟩
  replace hG:=hG.trans qC
  clear qC;simp only[ak];refine⟨hJ _ hG,?_⟩;refine ae.one (i:=11) (aL.j8 (Jq _) ?_);rintro _ O7 ⟨rfl,qC⟩
  replace hG:=hG.trans qC
  clear qC;simp only[ak];refine⟨hJ _ hG,?_⟩;refine ae.one (i:=12) (aL.sj (δ Dh aa (l:=Bm ⟨g1,g2⟩) (te:=⟨_,1,24,[.sl 0 [] .nil]⟩) Tryz.underlying75 rL rfl rfl (hG.at pR) HY rfl rfl DW) ?_);rw[kK];refine⟨hJ _ hG,?_⟩;have cf:=aR (tk:=tk) (tk':=.full) (B:=0) (n:=n) (k:=1) (cs:=cs) (ds:=[.str g3]) rL T9 (O:=O7) (uV.ge hG) (by rw[ank];exact gq) rfl rfl (by decide) (by decide) (by omega) (by simp only[maxLen];omega)
  have qc:∀i,i<O5.N->O5.hp i≠some .tok->((O7).after tk).hp i=O5.hp i:=fun i hi hne=>by
   have e1:=(hG).hp i hi;rw[App.off (uV.ge hG) (Ma hi (hG).N) (by rw[e1];exact hne)];exact e1
  refine ae.op (i:=16) ?_;rw[dj];refine ao @eG @cf ?_;refine⟨⟨qc _ (by omega) (by rw[gK];simp),qc _ (by omega) (by rw[mD];simp)⟩,?_⟩;refine ae.bP [(17,.one)] ?_;refine ab @eG ?_;refine VL.oE rfl rfl (oD.ja Dh (l:=Bm ⟨g1,g2⟩) (b:=kv) (ck:=cv) (M:=V) Tryz.underlying75 rfl ((qc _ (by omega) (by rw[pR];simp)).trans pR) HY rfl rfl DW rfl) (fun brk hb=>by cases hb) (WL.sound aa ?_);refine ab @eG ?_;refine VC.gen ?_;intro OF eF;refine κ @eG ?_;refine ν @eG ?_;exact pc O7 hG OF eF
open Go.MapKept (run_setObj_map)
set_option linter.defProp false in
def eb:=zP eG<|zP Xj<|zP T37<|zP T3<|zP aj7 B7
def je (d:Dp):Ky:=⟨d.g,d.a,if d.t=[]then[106,97,114]else d.t,d.c⟩
theorem Lc (d:Dp) (O:VH):VF Tryz.prog 93 [.agg (aU d)] O (aD fun m O'=>m= .agg (gR (je d))/\O.Ge O'):=by
 obtain⟨g,a,v,t,c,s,o,x⟩:=d;simp only[aU,je,gR];refine υ 18 [.cell 2 40] Tryz.func93 ?_;refine κ @eb ?_;refine VC.gen ?_;intro O1 e1;obtain⟨aI,cW,cz,cD⟩:=hY _ _ e1;clear e1;refine ξ @eb @cz ?_;refine VC.al ?_;rintro O2 ⟨aB,jb,eZ⟩;have cJ:=aB.at cD;cases t with
 | nil=>
   rw[if_pos rfl];refine θ (aG @eb @jb (show(([]:List UInt8)==[])=true from rfl) ?_);refine ι (aG @eb @jb @cJ ?_);exact(((aI.trans aB).set (by omega) _).set (by omega) _)
 | cons y t=>
   rw[if_neg (by simp)];refine θ (aG @eb @jb (show((y::t)==[])=false from rfl) ?_);refine ι (aG @eb @jb @cJ ?_);exact(aI.trans aB).set (by omega) _
section
variable {G H:Gh} {n:Sz} {D:List Deferred} {e e':Env} {a:Act} {P:Program} {tab:cj} {O O':VH} {w:World} {m m':MV} {u v:Value} {ops:Array Oper} {Q:VQ} {md:Md}
structure Cnt (N:Nat) (M:fG) (j:Int):Prop where
 ok:nT N M
 int:∀p∈M,∃x:Int,p.2.1=mi x/\0<=x/\x<=j
theorem gD.UH {kt et:TypeId} {N:Nat} (K:uL P kt N) (ht:aO P tab) {d:Option Tmp} {t ty:TypeId} {x y:Operand} {ps:String} {af:Array Edge} {g:Option (Nat×Bool)} {b ck:Nat} {M:fG} {l:List (List UInt8)} {te:cL} {z:MV} (hU:P.underlying t=some (.map kt et)) (oq:tab et=some te) (hz:xn te=some z)
  (hx:ev e x=some (.map b)) (hb:O.hp b=some (.map (cP M) ck)) (hM:nT N M) (hy:ev e y=some (.agg (l.map .str))) (hl:l.length=N) (hs:∀s∈l,s.length<=maxLen):
  gD P n D (.mk d (.mapEntry t x y) ty ps af g) e O fun m O'=>∃(M':fG) (ck':Nat) (v:MV) (st:Nat),m= .tuple [v,.v (.int .i64 st)]/\O'=O.set b (.map (cP M') ck')/\nT N M'/\(∀p∈M',p∈M\/p.2.1=z)/\(∃p∈M',p.2.2=st):=by
 intro G a w hw hf;have h1:=hf.ev hx;have h2:=hf.ev hy;generalize pI:a.eval x=u at h1;generalize zp:a.eval y=v at h2;have hv:=AL h2;subst hv;cases h1 with
 | map eQ=>
   rename_i b';obtain⟨b2,E,e1,e2,e3,e4,e5⟩:=hw.map _ _ _ hb;rw[eQ]at e1;injection e1 with e1;subst e1
   have hE:ic G (cP M) E.toList:=⟨e3,e4,e5⟩;obtain⟨lit,yy⟩:=K.of l hl hs;have FB:=K.law.check w false yy;obtain⟨zv,z1,z2⟩:=ze (ht et te oq) hz;rcases AM K hM hE hl hs w with⟨g1,g2⟩ | ⟨j,p,q,g1,g2,g3,g4,g5⟩
   ·have jY:M.any (·.1==l)=false:=by rw[am8];intro p hp;simpa using g2 p hp
    have hr:ic G (cP (M++[(l,z,ck)])) (E.push {key:=fT l,val:=zv,born:=ck}).toList:=by
     rw[Array.toList_push];unfold cP;rw[am5];exact hE.append (ic.cons rfl h2 (z2 G) ic.nil)
    have dP:=qz (y:=z) (ck:=ck) hM hl hs;unfold ja at dP;rw[jY]at dP;refine⟨.tuple [z,.v (.int .i64 ck)],O.set b (.map (cP (M++[(l,z,ck)])) (ck+1)),.tuple #[zv,.int .i64 ck],?wx,G,⟨M++[(l,z,ck)],ck+1,z,ck,rfl,rfl,dP,fun p hp=>?_,⟨_,am_ _ (Zj.2 rfl),rfl⟩⟩,?rn,Gh.Le.refl G,?wr,?vr⟩
    case wr=>exact hw.tI (ck':=ck+1) hb eQ e2 hr
    case rn=>
     simp only[execOp,pI,zp,Instr.mapEntry,Sem.run_bind,run_underlying hU,Result.andThen_ok,MapKept.run_getObj_map e2,FB,g1,z1,run_setObj_map _ e2];rfl
    case vr=>exact VR.tuple (us:=[zv,.int .i64 ck]) rfl (aQ.cons (z2 G) (aQ.cons (.v rfl) aQ.nil)).2
    rcases ahP.1 hp with hp | hp
    ·exact .inl hp
    ·rw[Zj.1 hp];exact .inr rfl
   ·obtain⟨k1,k2,k3⟩:=hE.keys.2 j p q g2 g4;have cX:=K.law.stays w yy;have KE:q.key=fT l:=by rw[k1,g3]
    have La:E[j]?=some q:=by simpa using g4
    have xU:((E[j]?).map (·.key)).getD (fT l)=fT l:=by rw[La];exact KE
    have yR:((E[j]?).map (fun x=>((x.born:Nat):Int))).getD 0=(p.2.2:Int):=by rw[La];exact congrArg (fun n:Nat=>(n:Int)) k3
    have ak3:E.modify j (fun x=>{x with key:=fT l})=E:=by
     have hj:=(Array.getElem?_eq_some_iff.1 La);obtain⟨cI,aM⟩:=hj;apply Array.ext
     ·simp
     ·intro i ou ei;rw[Array.getElem_modify];split
      ·rename_i e;subst e
       rw[aM, <-KE]
      ·rfl
    refine⟨.tuple [p.2.1,.v (.int .i64 p.2.2)],O.set b (.map (cP M) ck),.tuple #[q.val,.int .i64 p.2.2],?wy,G,⟨M,ck,p.2.1,p.2.2,rfl,rfl,hM,fun p hp=>.inl hp,⟨p,adZ g2,rfl⟩⟩,?rm,Gh.Le.refl G,?ws,?vs⟩
    case ws=>exact hw.tI (E':=E) (ck':=ck) hb eQ e2 hE
    case rm=>
     simp only[execOp,pI,zp,Instr.mapEntry,Sem.run_bind,run_underlying hU,Result.andThen_ok,MapKept.run_getObj_map e2,FB,g1,xU,cX,ak3,yR,run_setObj_map _ e2];rfl
    case vs=>exact VR.tuple (us:=[q.val,.int .i64 p.2.2]) rfl (aQ.cons g5 (aQ.cons (.v rfl) aQ.nil)).2
def Cx (P:Program) (n:Sz) (D:List Deferred) (o:Oper) (e:Env) (O:VH) (Φ :VH->Prop):Prop:=∀G a w,WR G O w->FR G n D e a->∃w' H O', Φ O'/\(execOp a.eval o).run P w= .ok .skip w'/\Gh.Le G H/\WR H O' w'
theorem aL.afp {i:Nat} {o:Oper} {K:Env->VH->Prop} {Φ :VH->Prop} (ho:ops[i]?=some o) (hg:aN ops o e=some true) (hd:bC n o.dst=true) (hy:Cx P n D o e O Φ) (h:∀O', Φ O'->K (aZ o.dst cT e) O'):aL P n D ops i e O Q K:=by
 intro G a w hw aW;obtain⟨w',H,O',hΦ,hr,h1,h2⟩:=hy G a w hw aW;simp only[wpOp,ho,bA aW hg,if_true];refine .inl ?_;unfold Oper.wp;rw[hr];exact⟨_,_,H,h1,h2,(aW.mono h1).aZ hd lL,h _ hΦ⟩
theorem sY {α β :Type} {f: α -> α} {g: α -> β} (h:∀x,g (f x)=g x) (L:List α) (i:Nat):(L.modify i f).map g=L.map g:=by
 refine anh fun j=>?_
 rw[ajl,ajl,anb];cases L[j]? with
 | none=>rfl
 | some x=>
   simp only[am6];split
   ·exact congrArg some (h x)
   ·rfl
theorem Pc {α β :Type} {f: α -> α} {g: α -> β} {y: β} (h:∀x,g (f x)=y) (L:List α) (i:Nat):(L.modify i f).map g=(L.map g).set i y:=by
 refine anh fun j=>?_
 rw[ajl,anb,List.getElem?_set,ajl,ahN];by_cases e:i=j
 ·subst e;rw[if_pos rfl];by_cases hl:i<L.length
  ·rw[if_pos hl,agc hl];simp[h]
  ·rw[if_neg hl,List.getElem?_eq_none (by omega)];rfl
 ·rw[if_neg e];cases L[j]? with
  | none=>rfl
  | some x=>simp[e]
theorem Cx.Jr {d:Option Tmp} {t ty:TypeId} {x y z:Operand} {ps:String} {af:Array Edge} {g:Option (Nat×Bool)} {b ck st N:Nat} {M:fG} (hx:ev e x=some (.map b)) (hb:O.hp b=some (.map (cP M) ck)) (hM:nT N M) (hy:ev e y=some (.v (.int .i64 st))) (hz:ev e z=some m) (hin:∃p∈M,p.2.2=st):
  Cx P n D (.mk d (.entryStore t x y z) ty ps af g) e O fun O'=>∃M',O'=O.set b (.map (cP M') ck)/\nT N M'/\∀p∈M',p∈M\/p.2.1=m:=by
 intro G a w hw hf;have h1:=hf.ev hx;have h2:=hf.ev hy;have h3:=hf.ev hz;generalize pI:a.eval x=u at h1;generalize zp:a.eval y=v at h2;generalize haz:a.eval z=r at h3;have hv:=h2.jj;subst hv;cases h1 with
 | map eQ=>
   rename_i b';obtain⟨b2,E,e1,e2,e3,e4,e5⟩:=hw.map _ _ _ hb;rw[eQ]at e1;injection e1 with e1;subst e1
   have hE:ic G (cP M) E.toList:=⟨e3,e4,e5⟩;have hlen:=hE.keys.1;obtain⟨p,hp,hps⟩:=hin;obtain⟨j,hj,ej⟩:=ahJ.1 hp;have hjE:j<E.toList.length:=by omega
   have aiH:=(hE.keys.2 j p E.toList[j] (by rw[agc hj,ej]) (agc hjE)).2.2;have aiI:E.toList[j]∈E:=by simp
   obtain⟨i,hi⟩:∃i,E.findIdx? (fun e=>(e.born:Int)==(st:Int))=some i:=by
    have:(E.findIdx? (fun e=>(e.born:Int)==(st:Int))).isSome=true:=by
     rw[Array.findIdx?_isSome];rw[Array.any_eq_true'];exact⟨_,aiI,by rw[aiH,hps];simp⟩
    exact Option.isSome_iff_exists.1 this
   have hr:ic G (cP (M.modify i fun p=>(p.1,m,p.2.2))) (E.modify i fun e=>{e with val:=r}).toList:=by
    rw[Array.toList_modify];refine⟨?_,?_,?_⟩
    ·rw[sY (f:=fun e:MapEntry=>{e with val:=r}) (g:=fun x=>x.born) (fun _=>rfl) E.toList i,e3];unfold cP;rw[am7,am7];exact(sY (f:=fun p:List Bs×MV×Nat=>(p.1,m,p.2.2)) (fun _=>rfl) M i).symm
    ·rw[sY (f:=fun e:MapEntry=>{e with val:=r}) (g:=fun x=>x.key) (fun _=>rfl) E.toList i]
     have:(cP (M.modify i fun p=>(p.1,m,p.2.2))).map (·.1)=(cP M).map (·.1):=by
      unfold cP;rw[am7,am7];exact sY (f:=fun p:List Bs×MV×Nat=>(p.1,m,p.2.2)) (fun _=>rfl) M i
     rw[this];exact e4
    ·rw[Pc (f:=fun e:MapEntry=>{e with val:=r}) (g:=fun x=>x.val) (y:=r) (fun _=>rfl) E.toList i]
     have:(cP (M.modify i fun p=>(p.1,m,p.2.2))).map (·.2.1)=((cP M).map (·.2.1)).set i m:=by
      unfold cP;rw[am7,am7];exact Pc (f:=fun p:List Bs×MV×Nat=>(p.1,m,p.2.2)) (fun _=>rfl) M i
     rw[this];exact e5.set h3
   have ab4:∀p∈M.modify i (fun p=>(p.1,m,p.2.2)),(∃p0∈M,p.1=p0.1/\p.2.2=p0.2.2)/\(p∈M\/p.2.1=m):=fun p hp=>by
    obtain⟨j,hj,ej⟩:=ahJ.1 hp;have hg:(M.modify i (fun p=>(p.1,m,p.2.2)))[j]?=some p:=by rw[agc hj,ej]
    rw[anb]at hg;cases hm:M[j]? with
    | none=>rw[hm]at hg;cases hg
    | some p0=>
      rw[hm]at hg
      change some _=some p at hg
      injection hg with hg;have Dm:=adZ hm;split at hg
      ·subst hg;exact⟨⟨p0,Dm,rfl,rfl⟩,.inr rfl⟩
      ·subst hg;exact⟨⟨_,Dm,rfl,rfl⟩,.inl Dm⟩
   refine⟨?wx,G,O.set b (.map (cP (M.modify i fun p=>(p.1,m,p.2.2))) ck),⟨_,rfl,⟨fun p hp=>?_,?_⟩,fun p hp=>(ab4 p hp).2⟩,?rn,Gh.Le.refl G,?wr⟩
   case wr=>exact hw.tI (ck':=ck) hb eQ e2 hr
   case rn=>
    simp only[execOp,pI,zp,haz,Instr.entryStore,Sem.run_bind,Result.andThen_ok,MapKept.run_getObj_map e2,asInt,asIntOf,Sem.run_pure,hi,run_setObj_map _ e2]
   ·obtain⟨p0,h1,h2,_⟩:=(ab4 p hp).1;rw[h2];exact hM.len p0 h1
   ·have:(M.modify i (fun p=>(p.1,m,p.2.2))).map (·.1)=M.map (·.1):=sY (f:=fun p:List Bs×MV×Nat=>(p.1,m,p.2.2)) (fun _=>rfl) M i;rw[this];exact hM.one
end
theorem aL.Pd {P:Program} {n:Sz} {D:List Deferred} {ops:Array Oper} {e:Env} {O:VH} {Q:VQ} {i:Nat} {op:Op} {ty:TypeId} {ps:String} {af:Array Edge} {g:Option (Nat×Bool)} {K:Env->VH->Prop} {Φ :VH->Prop} (ho:ops[i]?=some (.mk none op ty ps af g)) (hg:aN ops (.mk none op ty ps af g) e=some true) (hy:Cx P n D (.mk none op ty ps af g) e O Φ) (h:∀O', Φ O'->K e O'):aL P n D ops i e O Q K:=
 aL.afp ho hg rfl hy h
theorem ae.Gz {P:Program} {n:Sz} {D:List Deferred} {e:Env} {O:VH} {Q:VQ} {brk:List Nat} {Ψ :Gh->Prop} {J:VH->Prop} {Z:Prop} {fuel i d:Nat} {listed:Array Bool} {l:List Oper} {op:Op} {ty:TypeId} {ps:String} {af:Array Edge} {g:Option (Nat×Bool)} {M:MV->VH->Prop} (hy:gD P n D (.mk (some d) op ty ps af g) e O M)
  (h:∀m O',M m O'->J O'/\ae P n D ⟨l⟩ brk J Ψ Z fuel (listed.setIfInBounds i true) ((d,m)::e) O' Q) (hr:Region.ready .any ⟨l⟩ listed=[i]:=by kernel_rfl) (ho:l[i]?=some (.mk (some d) op ty ps af g):=by exact rfl) (hg:aN ⟨l⟩ (.mk (some d) op ty ps af g) e=some true:=by exact rfl) (hd:bC n (some d)=true:=by exact rfl):ae P n D ⟨l⟩ brk J Ψ Z (fuel+1) listed e O Q:=ae.st hy h (hr:=hr) (ho:=ho) (hg:=hg) (hd:=hd)
theorem aL.Gz {P:Program} {n:Sz} {D:List Deferred} {e:Env} {O:VH} {Q:VQ} {i d:Nat} {l:List Oper} {op:Op} {ty:TypeId} {ps:String} {af:Array Edge} {g:Option (Nat×Bool)} {M:MV->VH->Prop} {K:Env->VH->Prop} (hy:gD P n D (.mk (some d) op ty ps af g) e O M)
  (h:∀m O',M m O'->K ((d,m)::e) O') (ho:l[i]?=some (.mk (some d) op ty ps af g):=by exact rfl) (hg:aN ⟨l⟩ (.mk (some d) op ty ps af g) e=some true:=by exact rfl) (hd:bC n (some d)=true:=by exact rfl):aL P n D ⟨l⟩ i e O Q K:=aL.st hy h (ho:=ho) (hg:=hg) (hd:=hd)
theorem GR.less {O:VH} {el:TypeId} {sz B B':Nat} {p:MV} {n:Nat} {L:List MV} (h:GR O el sz B p n L) (hB:B'<=B):GR O el sz B' p n L:=by
 rcases h with h | ⟨k,c,h1,h2,h3,h4⟩
 ·exact .inl h
 ·obtain⟨j,k1,k2,k3⟩:=h4.oV;exact .inr ⟨k,c,h1,h2,h3,⟨h4.cells,⟨j,ajn hB k1,k2,k3⟩,ajn hB h4.lo,h4.hi⟩⟩
def cQ (x:Ky):List Bs:=[x.g,x.a,x.t,x.c]
def Dn (d:Dp):Prop:=d.g.length<=100000/\d.a.length<=100000/\d.v.length<=100000/\d.t.length<=100000/\d.c.length<=100000/\d.x.length<=10000
theorem Pe {d:Dp} (h:Dn d):∀s∈cQ (je d),s.length<=maxLen:=by
 obtain⟨h1,h2,h3,h4,h5,h6⟩:=h;intro s hs;simp only[cQ,je,ajv,ani,or_false]at hs;have hm:100000<=maxLen:=by simp[maxLen]
 rcases hs with rfl | rfl | rfl | rfl
 ·omega
 ·omega
 ·split
  ·exact ajn (by decide) hm
  ·omega
 ·omega
theorem ab5 (L:List Dp) (tk t2:Tok) (O:VH) (hn:L.length<=10000) (hL:∀d∈L,Dn d):
  VF Tryz.prog 223 [.sl L.length (L.flatMap aU) tk,.sl 0 [] t2,.func (.func 93) [] []] O (aD fun m O'=>O.Ge O'/\GR O' 56 8 O.N m L.length (L.flatMap aU)):=by
 have dH:=aV gT L;refine υ 49 [.tmp 6] Tryz.func223 ?_;refine κ @eb ?_;refine κ @eb ?_;refine VC.gen ?_;intro O1 e1;have aI:O.Ge O1:=by rw[e1];exact(VH.Ge.refl O).push _
 have cW:O1.N=O.N+1:=by rw[e1];rfl
 have Bx:O1.hp O.N=some (.map (cP []) 0):=by rw[e1];exact Ξ _ _
 clear e1;refine Θ [0,1,2,7] (fun _:Unit=>[.sl L.length (L.flatMap aU) tk,.sl 0 [] t2,.func (.func 93) [] [],.map O.N]) (fun _ O'=>O.Ge O'/\O.N+1<=O'.N) ?_ ?_
 ·refine κ @eb ?_;refine τ ?_;refine Γ [16] [0,1,2,7,14,15] (fun j:Nat=>[mi j]) (fun j O'=>O.Ge O'/\O.N+1<=O'.N/\j<=L.length/\∃M ck,O'.hp O.N=some (.map (cP M) ck)/\Cnt 4 M j) (fun j=>L.length - j) (0) ?_ ?_
  ·exact⟨aI,by omega,ahM _,[],0,Bx,⟨by simp,by simp⟩,by simp⟩
  rintro j O3 ⟨aH,gy,hj,M,ck,hm3,hM⟩;by_cases aM:j<L.length;rotate_left
  ·obtain rfl:j=L.length:=by omega
   refine ν @eb ?_;exact aA.mk () ⟨aH,gy⟩
  have bG:=ct gT L j aM;have fQ:=Pe (hL L[j] (List.getElem_mem aM));have DY:=Lc L[j];generalize L[j]=d at*;have hkm:gR (je d)=(cQ (je d)).map .str:=rfl;have lX:(cQ (je d)).length=4:=rfl;generalize cQ (je d)=kl at*;rw[hkm]at DY;obtain⟨dg,da,dv,dt,dc,ll,dO,dx⟩:=d;simp only[aU,aq]at bG DY;have cI:((j:Int)+1)=((j+1:Nat):Int):=by omega
  refine κ @eb ?_;refine κ @eb ?_;refine χ (τ ?_);refine ξ @eb @bG ?_;refine VC.al ?_;rintro O4 ⟨aY,jo,gO⟩;have Sw:=aY.at hm3;refine VC.qO [] (fun O'=>True) (trivial) ?_;refine ae.ar 0 ?_;refine ab @eb ?_;refine ae.ar 1 ?_;refine ab @eb ?_;refine ae.op (i:=2) ?_;refine ao @eb @jo ?_;refine ae.qM (i:=3) (DY O4) ?_ ?_;rotate_left
  ·rintro m O5 h;exact h.elim
  rintro _ O5 ⟨rfl,bD⟩;simp only[ak];refine⟨trivial,?_⟩;have zO:=bD.at Sw
  obtain⟨x,hx,hx0,hxj⟩:∃x:Int,zx false (mi 0) (iC kl M)=mi x/\0<=x/\x<=j:=by
   cases eD:iC kl M with
   | none=>exact⟨0,rfl,by omega,by omega⟩
   | some m=>
     unfold iC at eD;obtain⟨p,lJ,rfl⟩:=ajo.1 eD;obtain⟨x,k1,k2,k3⟩:=hM.int p (al_ lJ);exact⟨x,k1,k2,k3⟩
  simp only[aq]at hx;refine ae.pair (i:=4) (j:=6) ?_ ?_
  ·refine aL.sj (δ oL aa (l:=kl) (te:=⟨_,1,8,[.v (.int .i64 0)]⟩) Tryz.underlying37 T3 rfl rfl zO hM.ok rfl lX fQ) ?_;rw[hx];refine⟨trivial,?_⟩;refine ae.ar 5 ?_;refine ab @eb ?_;refine ae.Gz (i:=6) (gD.UH oL aa (l:=kl) (te:=⟨_,1,8,[.v (.int .i64 0)]⟩) Tryz.underlying37 T3 rfl rfl zO hM.ok rfl lX fQ) ?_;rintro m O6 ⟨M1,ck1,v1,st,rfl,e6,UI,ab6,ab7⟩;refine⟨trivial,?_⟩;have Yn:O6.hp O.N=some (.map (cP M1) ck1):=by rw[e6];exact ρ _ _ _
   have Pf:O.Ge O6:=by rw[e6];exact((aH.trans aY).trans bD).set (Vq _) _
   have mU:O.N+1<=O6.N:=by rw[e6];show O.N+1<=O5.N;have:=bD.N;omega
   have GA:∀p∈M1,∃y:Int,p.2.1=mi y/\0<=y/\y<=j:=fun p hp=>by
    rcases ab6 p hp with hp | hp
    ·exact hM.int p hp
    ·exact⟨0,hp,by omega,by omega⟩
   refine ae.ar 7 ?_;refine ab @eb ?_;refine ae.one (i:=8) (aL.Pd rfl rfl (Cx.Jr rfl Yn UI rfl rfl ab7) ?_);rintro O7 ⟨M2,e7,ab8,ab9⟩;refine⟨trivial,?_⟩;refine ae.bP [] ?_;refine ab @eb ?_;refine ο @eb @cI ?_;refine az.N (j+1) ⟨?_,?_,aM,M2,_,by rw[e7];exact ρ _ _ _,ab8,fun p hp=>?_⟩
   ·rw[e7];exact Pf.set (Vq _) _
   ·rw[e7];show O.N+1<=(O6).N;omega
   ·rcases ab9 p hp with hp | hp
    ·obtain⟨y,k1,k2,k3⟩:=GA p hp;exact⟨y,k1,k2,by push_cast;omega⟩
    ·exact⟨_,hp,by omega,by push_cast;omega⟩
  ·refine aL.Gz (gD.UH oL aa (l:=kl) (te:=⟨_,1,8,[.v (.int .i64 0)]⟩) Tryz.underlying37 T3 rfl rfl zO hM.ok rfl lX fQ) ?_;rintro m O6 ⟨M1,ck1,v1,st,rfl,e6,UI,ab6,ab7⟩;refine⟨trivial,?_⟩;have Yn:O6.hp O.N=some (.map (cP M1) ck1):=by rw[e6];exact ρ _ _ _
   have Pf:O.Ge O6:=by rw[e6];exact((aH.trans aY).trans bD).set (Vq _) _
   have mU:O.N+1<=O6.N:=by rw[e6];show O.N+1<=O5.N;have:=bD.N;omega
   have GA:∀p∈M1,∃y:Int,p.2.1=mi y/\0<=y/\y<=j:=fun p hp=>by
    rcases ab6 p hp with hp | hp
    ·exact hM.int p hp
    ·exact⟨0,hp,by omega,by omega⟩
   refine ae.ar 7 ?_;refine ab @eb ?_;clear hx hx0 hxj
   obtain⟨x,hx,hx0,hxj⟩:∃x:Int,zx false (mi 0) (iC kl M1)=mi x/\0<=x/\x<=j:=by
    cases eD:iC kl M1 with
    | none=>exact⟨0,rfl,by omega,by omega⟩
    | some m=>
      unfold iC at eD;obtain⟨p,lJ,rfl⟩:=ajo.1 eD;obtain⟨x,k1,k2,k3⟩:=GA p (al_ lJ);exact⟨x,k1,k2,k3⟩
   simp only[aq]at hx;refine ae.one (i:=4) (aL.sj (δ oL aa (l:=kl) (te:=⟨_,1,8,[.v (.int .i64 0)]⟩) Tryz.underlying37 T3 rfl rfl Yn UI rfl lX fQ) ?_);rw[hx];refine⟨trivial,?_⟩;refine ae.ar 5 ?_;refine ab @eb ?_;refine ae.one (i:=8) (aL.Pd rfl rfl (Cx.Jr rfl Yn UI rfl rfl ab7) ?_);rintro O7 ⟨M2,e7,ab8,ab9⟩;refine⟨trivial,?_⟩;refine ae.bP [] ?_;refine ab @eb ?_;refine ο @eb @cI ?_;refine az.N (j+1) ⟨?_,?_,aM,M2,_,by rw[e7];exact ρ _ _ _,ab8,fun p hp=>?_⟩
   ·rw[e7];exact Pf.set (Vq _) _
   ·rw[e7];show O.N+1<=(O6).N;omega
   ·rcases ab9 p hp with hp | hp
    ·obtain⟨y,k1,k2,k3⟩:=GA p hp;exact⟨y,k1,k2,by push_cast;omega⟩
    ·exact⟨_,hp,by omega,by push_cast;omega⟩
 intro _ O3 ⟨aH,gy⟩;refine κ @eb ?_;refine ah.rt (Gk L tk O3 (by omega)) ?_;rintro mL O4 ⟨aY,x_⟩;refine ab @eb ?_;refine Θ [10] (fun _:Unit=>[mL]) (fun _ O'=>O'=O4) ?_ ?_
 ·refine κ @eb ?_;refine τ ?_;refine Γ [10,33] [2,7,31,32] (fun _:Unit=>[mL,mi 0]) (fun _ O'=>O'=O4) (fun _=>0) (()) ?_ ?_
  ·rfl
  rintro _ O5 e5;rw[e5];clear e5 O5
  refine ν @eb ?_;exact aA.mk () rfl
 rintro _ O5 e5;rw[e5];clear e5 O5
 refine ν @eb ?_;exact⟨aH.trans aY,GR.less x_ (by omega)⟩
theorem ab_ (L:List Dp) (tk t2:Tok) (O:VH) (hn:L.length<=10000) (hL:∀d∈L,Dn d):
  VF Tryz.prog 196 [.sl L.length (L.flatMap aU) tk,.sl 0 [] t2] O (aD fun m O'=>∃t,m= .sl L.length (L.flatMap aU) t/\O.Ge O'):=by
 have dH:=aV gT L;refine υ 27 [.tmp 4] Tryz.func196 ?_;refine κ @eb ?_;refine κ @eb ?_;refine ah.rt (ab5 L tk t2 O hn hL) ?_;rintro mL O2 ⟨aB,x_⟩;rcases x_ with⟨h0,_,hp⟩ | ⟨k,c,rfl,AD,_,c6⟩
 ·obtain rfl:L=[]:=aju h0;rcases hp with rfl | rfl
  ·refine ab @eb ?_;refine Θ [5] (fun _:Unit=>[.sl 0 [] .nil]) (fun _ O'=>O'=O2) ?_ ?_
   ·refine κ @eb ?_;refine τ ?_;refine Γ [12] [5,11] (fun j:Nat=>[mi 0]) (fun j O'=>O'=O2) (fun j=>0) (0) ?_ ?_
    ·rfl
    rintro j O3 eO;rw[eO];clear eO O3
    refine ν @eb ?_;exact aA.mk () rfl
   intro _ O9 eO;rw[eO];clear eO O9
   refine ν @eb ?_;exact⟨_,rfl,aB⟩
  ·refine ab @eb ?_;refine Θ [5] (fun _:Unit=>[.sl 0 [] .full]) (fun _ O'=>O'=O2) ?_ ?_
   ·refine κ @eb ?_;refine τ ?_;refine Γ [12] [5,11] (fun j:Nat=>[mi 0]) (fun j O'=>O'=O2) (fun j=>0) (0) ?_ ?_
    ·rfl
    rintro j O3 eO;rw[eO];clear eO O3
    refine ν @eb ?_;exact aA.mk () rfl
   intro _ O9 eO;rw[eO];clear eO O9
   refine ν @eb ?_;exact⟨_,rfl,aB⟩
 obtain⟨sp,hc,ia⟩:=c6.cells;have fQ:=c6.lo;have R9:=c6.hi;refine ab @eb ?_;refine Θ [5] (fun _:Unit=>[.bB k 0 L.length c]) (fun _ O'=>O2.Ge O') ?_ ?_
 ·refine κ @eb ?_;refine τ ?_;refine Γ [12] [5,11] (fun j:Nat=>[mi j]) (fun j O'=>O2.Ge O'/\j<=L.length) (fun j=>L.length - j) (0) ?_ ?_
  ·exact⟨VH.Ge.refl _,ahM _⟩
  rintro j O3 ⟨aH,hj⟩;by_cases aM:j<L.length;rotate_left
  ·obtain rfl:j=L.length:=by omega
   refine ν @eb ?_;exact aA.mk () aH
  have fy:=(aH.hp k R9).trans hc;have bG:(L.flatMap aU++sp)[j*8+7]?=some (.sl L[j].x.length (L[j].x.flatMap cn) .au):=ki gT (List.getElem?_eq_getElem aM) rfl;have hxj:=(hL L[j] (List.getElem_mem aM)).2.2.2.2.2;generalize L[j].x=X at*;generalize L.flatMap aU++sp=C at*;have gL:=xL bG;have KO:=(List.getElem?_eq_some_iff.1 bG).1;have cI:((j:Int)+1)=((j+1:Nat):Int):=by omega
  refine κ @eb ?_;refine κ @eb ?_;refine χ (τ ?_);refine κ @eb ?_;refine ι (aG @eb @fy @bG ?_);refine ah.rt (um X .au O3 (by omega)) ?_;rintro _ O4 ⟨rfl,aY⟩;have fR:=(aY.hp k (by have:=aH.N;omega)).trans fy;refine cR @eb @fR @bG @gL ?_;rw[VH.xc fR];refine ο @eb @cI ?_;exact az.N (j+1) ⟨aH.trans aY,aM⟩
 intro _ O9 bj;have KZ:=(bj.hp k R9).trans hc;refine VC.freeze 5 (sz:=L.length*8) rfl KZ (by rw[Qm,dH];omega) ?_;have dh:((L.flatMap aU++sp).drop 0).take (L.length*8)=L.flatMap aU:=by rw[anl,ajk (by rw[dH];exact Vq _), <-dH,ahO]
 rw[dh];have sW:=aB.trans bj;have il:O.Ge (O9.kill k):=⟨sW.N,fun i hi=>(VH.lh _ (by omega)).trans (sW.hp i hi)⟩;refine ν @eb ?_;exact⟨_,rfl,il⟩
theorem Js (L:List Dp) (tk t2:Tok) (O:VH) (hn:L.length<=10000) (hL:∀d∈L,Dn d):
  VF Tryz.prog 196 [.sl L.length (L.flatMap aU) tk,.sl 0 [] t2] O (aD fun m O'=>m= .sl L.length (L.flatMap aU) .au/\O.Ge O'):=
 VF.X5 (ab_ L tk t2 O hn hL) fun m O' ⟨t,h1,h3⟩=>⟨_,h1▸Wk.tok,rfl,h3⟩
set_option linter.defProp false in
def jP:=zP eb<|zP KG<|zP C_<|zP agy T9
theorem aiJ (x:Bs×Bs) (k:Nat) (nm:Bs) (O:VH) (hk:O.hp k=some (.cells [.str nm])) (zc:k<O.N):VF Tryz.prog 247 ([.agg (bm x)]++[.ptr k 0]) O (aD fun m O'=>m=mb (x.1==nm)/\O.Ge O'):=by
 obtain⟨x1,x2⟩:=x;unfold bm;simp only[adW,Zk];refine υ 8 [.tmp 3] Tryz.func247 ?_;refine κ @jP ?_;refine VC.bx ?_;rintro O1 ⟨aI,eP,cW⟩;have cA:=(aI.hp k zc).trans hk;refine ι (aG @jP @eP @cA ?_);exact aI
theorem aiK (L:List (Bs×Bs)) (tk:Tok) (nm:Bs) (O:VH) (hn:L.length<=1000000):VF Tryz.prog 224 [.sl L.length (L.flatMap bm) tk,.str nm] O (aD fun m O'=>m=mi (idxFrom (fun x=>x.1==nm) 0 L)/\O.Ge O'):=by
 refine υ 8 [.tmp 4] Tryz.func224 ?_;refine κ @jP ?_;refine VC.bx ?_;rintro O1 ⟨aI,eP,cW⟩;refine κ @jP ?_;refine ah.rt (Up L tk 247 [.ptr O.N 0] (fun x=>x.1==nm) O1 (by kernel_rfl) (fun q _ O' Cd=>aiJ q _ nm O' (Cd.at eP) (by have:=Cd.N;omega)) hn) ?_;rintro _ O2 ⟨rfl,aB⟩;refine ab @jP ?_;refine ν @jP ?_;exact aI.trans aB
theorem Jt {α :Type} (p: α ->Bool):∀(L:List α) (i:Nat),(∀x∈L,p x=false)->idxFrom p i L= -1
 | [],i,_=>rfl
 | x::r,i,h=>by
   rw[idxFrom,h x (by simp)];exact Jt p r (i+1) fun y hy=>h y (List.mem_cons_of_mem _ hy)
theorem afq (L:List (Bs×Bs)) (tk:Tok) (nm vl:Bs) (O:VH) (hn:L.length<=10000) (dF:∀x∈L,x.1≠nm):VF Tryz.prog 197 [.sl L.length (L.flatMap bm) tk,.str nm,.str vl] O (aD fun m O'=>(∃t,m= .sl (L++[(nm,vl)]).length ((L++[(nm,vl)]).flatMap bm) t)/\O.Ge O'):=by
 have ak4:idxFrom (fun x:Bs×Bs=>x.1==nm) 0 L= -1:=Jt _ L 0 fun x hx=>by rw[beq_eq_false_iff_ne];exact dF x hx
 refine υ 28 [.tmp 6] Tryz.func197 ?_;refine κ @jP ?_;refine κ @jP ?_;refine ah.rt (Cl L tk O (by omega)) ?_;rintro _ O2 ⟨t2,rfl,cf,aB⟩;refine ab @jP ?_;refine κ @jP ?_;refine ah.rt (aiK L t2 nm O2 (by omega)) ?_;rintro _ O3 ⟨rfl,aH⟩;rw[ak4];have lu:=cf.ge aH;refine ab @jP ?_;obtain⟨mE,gV,lQ⟩:=gG (n:=L.length) (cs:=L.flatMap bm) (ds:=[.str nm,.str vl]) (es:=bm (nm,vl)) KG C_.1.1 lu (aV fK L) rfl rfl (by decide) (by omega) (by simp only[maxLen];omega) (gH L) (by simp only[bm,wu]);refine κ @jP ?_;refine η gV lQ ?_;refine ab @jP ?_;refine ν @jP ?_;refine⟨⟨.own O3.N 2,by rw[Qm,ajt];rfl⟩,b_.en (aB.trans aH) lu (b_.after lu)⟩
theorem UJ (L M:List (Bs×Bs)) (tk tM:Tok) (O:VH) (hn:L.length+M.length<=10000) (dF:∀x∈L,∀y∈M,x.1≠y.1) (hM:M.Pairwise fun x y=>x.1≠y.1):VF Tryz.prog 163 [.sl L.length (L.flatMap bm) tk,.sl M.length (M.flatMap bm) tM] O (aD fun m O'=>(∃t,m= .sl (L++M).length ((L++M).flatMap bm) t)/\O.Ge O'):=by
 have hpm:=aV fK M;refine υ 24 [.tmp 4] Tryz.func163 ?_;refine κ @jP ?_;refine κ @jP ?_;refine ah.rt (Cl L tk O (by omega)) ?_;rintro _ O2 ⟨t2,rfl,cf,aB⟩;refine ab @jP ?_;refine VC.join aa [5] (fun t:Tok=>[.sl (L++M).length ((L++M).flatMap bm) t]) (fun t O'=>O.Ge O') ?_ ?_;rotate_left
 ·intro t O9 bj;refine ab @jP ?_;exact⟨⟨t,rfl⟩,bj⟩
 refine κ @jP ?_;refine τ ?_;refine Γ [5,12] [10,11] (fun x:Nat×List (Bs×Bs)×Tok=>[.sl x.2.1.length (x.2.1.flatMap bm) x.2.2,mi x.1]) (fun x O'=>O.Ge O'/\x.1<=M.length/\x.2.1=L++M.take x.1) (fun x=>M.length - x.1) ((0,L,t2)) ?_ ?_
 ·exact⟨aB,ahM _,by simp⟩
 rintro⟨j,LM,t⟩ O3 ⟨aH,hj,Ld⟩;dsimp only at hj Ld ⊢;by_cases aM:j<M.length;rotate_left
 ·obtain rfl:j=M.length:=by omega
  rw[ahO]at Ld;subst Ld;refine ν @jP ?_;exact aA.mk t aH
 have bG:=ct fK M j aM;have gY:L++M.take (j+1)=(L++M.take j)++[M[j]]:=by rw[dz _ _ aM,anf]
 have hnw:∀x∈L++M.take j,x.1≠M[j].1:=fun x hx=>by
  rcases ahP.1 hx with hx | hx
  ·exact dF x hx _ (ajs aM)
  ·obtain⟨i,hi,rfl⟩:=ahJ.1 hx;rw[ahK]at hi;rw[am9];exact(ajq.1 hM) i j (by omega) aM (by omega)
 have hlen:(L++M.take j).length<=10000:=by rw[Qm,ahK];omega
 rw[<-Ld]at gY hnw hlen;generalize M[j]=y at*;obtain⟨yn,yv⟩:=y;simp only[bm]at bG;have cI:((j:Int)+1)=((j+1:Nat):Int):=by omega
 refine κ @jP ?_;refine κ @jP ?_;refine χ (τ ?_);refine ξ @jP @bG ?_;refine VC.al ?_;rintro O4 ⟨aY,lX,gO⟩;refine ο @jP @lX ?_;refine ah.rt (afq LM t yn yv O4 (by omega) hnw) ?_;rintro _ O5 ⟨⟨t5,rfl⟩,bD⟩;refine ab @jP ?_;refine ο @jP @cI ?_;exact az.N (j+1,LM++[(yn,yv)],t5) ⟨(aH.trans aY).trans bD,aM,gY.symm⟩
set_option linter.defProp false in
def cx:=zP jP<|zP kV<|zP T86<|zP agw<|zP yz<|zP AO<|zP FE<|zP NB T4
theorem oc.ge {O O':VH} {k ke kv ce cv:Nat} {L:List (Gv×Bs×Option Pm)} {E V:fG} {r a:Int} (h:oc O k L E V ke kv ce cv r a) (g:O.Ge O'):oc O' k L E V ke kv ce cv r a:=
 ⟨h.st.ge g,h.len,fun i x t o hi=>by obtain⟨q,c,h1,h2,h3⟩:=h.Lb i x t o hi;exact⟨q,c,h1,Ma h2 g.N,(g.hp _ h2).trans h3⟩,h.dis,h.ver.ge g⟩
structure PmC (p:Pm):Prop where
 ok:abZ p
 hp:p.hp=false
 eT:∀d∈p.eT,Dn d
 eK:∀d∈p.eK,Dn d
 props:p.props.Pairwise fun x y=>x.1≠y.1
theorem aca (p:Pm) (O:VH) (hc:PmC p):VF Tryz.prog 162 [.agg (gU p),.agg fB] O (aD fun m O'=>m= .agg (gU p)/\O.Ge O'):=by
 refine VF.fg ?_;obtain⟨dP,oz,agU,acb,UK⟩:=hc;obtain⟨k1,k2,k3,k4,k5⟩:=dP;obtain⟨b,⟨pg,pa,pv⟩,g,a,v,pk,P,M,D⟩:=p;dsimp only at oz k1 k2 k3 k4 k5 agU acb UK;subst oz;simp only[gU,bw];refine υ 48 [.cell 4 86] Tryz.func162 ?_;refine κ @cx ?_;refine VC.gen ?_;intro O1 e1;obtain⟨aI,cW,cz,cD,eS⟩:=lx _ _ _ e1;clear e1;refine ξ @cx @cz ?_;refine VC.al ?_;rintro O2 ⟨aB,bM,eZ⟩;have fj:=aB.at cz;have cJ:=aB.at cD;have iH:=aB.at eS;have fA:=aI.trans aB;clear aI aB cz cD eS;refine ξ @cx @bM ?_;refine ξ @cx @bM ?_;refine θ (aG @cx @fj @cJ ?_);refine ah.rt (UJ [] P .nil .au O2 (by simp;omega) (by simp) UK) ?_;rintro _ O3 ⟨⟨t3,rfl⟩,aH⟩;rw[Zk];have jv:=aH.at fj;have cB:=aH.at cJ;have fy:=aH.at iH;have dR:=aH.at bM;have gy:=aH.N;refine ao @cx @dR ?_;refine VC.gen ?_;intro O4 e4;have sk:∀i,i≠O1.N->O4.hp i=O3.hp i:=fun i hi=>by rw[e4];exact π _ _ hi
 have fM:=(sk _ (by omega)).trans jv;have dd:=(sk _ (by omega)).trans cB;have fR:=(sk _ (by omega)).trans fy;have lX:O4.hp O1.N=some (.cells [.v (.bool false),.str pg,.str pa,.str pv,.str g,.str a,.str v,.str pk,.sl P.length (P.flatMap bm) t3,.sl M.length (M.flatMap aU) .au,.sl D.length (D.flatMap aU) .au]):=by rw[e4];exact ρ _ _ _
 have gO:O4.N=O3.N:=by rw[e4];rfl
 have gW:O.Ge O4:=by rw[e4];exact(fA.trans aH).set (by omega) _
 clear e4 sk jv cB fy dR fj cJ iH bM;refine χ ?_;refine VC.Ei [11,12,13] (O.N) (O.N+1) (fM) (dd) ?_ (hne:=(by omega));intro X1 X2;refine ae.ar 0 ?_;refine ab @cx ?_;refine ζ (m:=.sl M.length (M.flatMap aU) .au) 1 (fun _ h=>h.1) (fun _ h=>h.1) ?_ ?_
 ·exact fU @cx
 simp only[ak];refine ae.ar 2 ?_;refine ab @cx ?_;refine ζ (m:=.sl 0 [] .nil) 3 (fun _ h=>h.2) (fun _ h=>h.2) ?_ ?_
 ·exact fU @cx
 simp only[ak];refine ae.ar 5 ?_;refine ab @cx ?_;refine ζ (m:=.sl D.length (D.flatMap aU) .au) 6 (fun _ h=>h.1) (fun _ h=>h.1) ?_ ?_
 ·exact fU @cx
 simp only[ak];refine ae.ar 7 ?_;refine ab @cx ?_;refine ζ (m:=.sl 0 [] .nil) 8 (fun _ h=>h.2) (fun _ h=>h.2) ?_ ?_
 ·exact fU @cx
 simp only[ak];have hJ:N5 O.N (O.N+1) X1 X2 ((O4.set O.N (.obj X1)).set (O.N+1) (.obj X2)):=⟨ω (ρ _ _ _),ρ _ _ _⟩;have gK:=(π (O4.set O.N (.obj X1)) (.obj X2) (by omega:O1.N≠O.N+1)).trans ((π O4 (.obj X1) (by omega:O1.N≠O.N)).trans lX);have gd:=(π (O4.set O.N (.obj X1)) (.obj X2) (by omega:O.N+2≠O.N+1)).trans ((π O4 (.obj X1) (by omega:O.N+2≠O.N)).trans fR);have eU:((O4.set O.N (.obj X1)).set (O.N+1) (.obj X2)).N=O4.N:=rfl;have bD:O.Ge ((O4.set O.N (.obj X1)).set (O.N+1) (.obj X2)):=(gW.set (by omega) _).set (by omega) _;generalize (O4.set O.N (.obj X1)).set (O.N+1) (.obj X2)=O5 at*;refine ae.call (i:=4) (Js M .au .nil O5 k2 agU) ?_;rintro _ O6 ⟨rfl,fi⟩;simp only[ak];refine⟨⟨fi.at hJ.1,fi.at hJ.2⟩,?_⟩;refine ae.ar 10 ?_;refine ab @cx ?_;refine ae.call (i:=9) (Js D .au .nil O6 k3 acb) ?_;rintro _ O7 ⟨rfl,eV⟩;simp only[ak];have pe:=fi.trans eV;refine⟨⟨pe.at hJ.1,pe.at hJ.2⟩,?_⟩;have u7:=pe.at gK;have hc7:=pe.at gd;refine ae.xE [(11,.one),(12,.ar),(13,.one)] ?_ (hne:=(by omega));have vd:=(π (O7.set O.N (.cells [.v (.bool false),.str pg,.str pa,.str pv,.str g,.str a,.str v,.str pk,.sl P.length (P.flatMap bm) .au,.sl M.length (M.flatMap aU) .au,.sl D.length (D.flatMap aU) .au])) (.cells fB) (by omega:O1.N≠O.N+1)).trans ((π O7 (.cells [.v (.bool false),.str pg,.str pa,.str pv,.str g,.str a,.str v,.str pk,.sl P.length (P.flatMap bm) .au,.sl M.length (M.flatMap aU) .au,.sl D.length (D.flatMap aU) .au]) (by omega:O1.N≠O.N)).trans u7);refine ao @cx @u7 ?_;refine VC.gen ?_;intro O8 e8;have fV:O.Ge O8:=by rw[e8];exact((((bD.trans pe).set (by omega) _).set (by omega) _).set (by omega) _).set (by omega) _
 have hk9:O8.hp O1.N=some (.cells [.v (.bool false),.str pg,.str pa,.str pv,.str g,.str a,.str v,.str pk,.sl P.length (P.flatMap bm) t3,.sl M.length (M.flatMap aU) .au,.sl D.length (D.flatMap aU) .au]):=by rw[e8];exact ρ _ _ _
 have KZ:O8.hp (O.N+2)=some (.cells fB):=by rw[e8,π _ _ (by omega),π _ _ (by omega),π _ _ (by omega),π _ _ (by omega)];exact hc7
 clear e8;have Pg:O.N+1+1=O.N+2:=by omega
 rw[Pg];refine θ (aG @cx @hk9 @KZ ?_);refine ν @cx ?_
 first
  | exact fV.set (by omega) _
  | exact⟨by simp only[wu,gH,lO],fV.set (by omega) _⟩
theorem afr {O:VH} {k ke kv ce cv:Nat} {L:List (Gv×Bs×Option Pm)} {E V:fG} {r a:Int} (h:oc O k L E V ke kv ce cv r a) {i:Nat} {g:Gv} {t:Bs} {n:Nd} {p:Pm} (hi:L[i]?=some (g,t,none)) (hg:uo g) (ht:t.length<=65536) (hb:iG t= .ok n) (hr:pN n= .ok p) (hc:PmC p):
  VF Tryz.prog 161 [.ptr k 0,.agg (bZ g)] O (aD fun m O'=>(∃t1 t2,m= .tuple [.sl 1 (gU p) t1,.sl 1 (bZ g) t2,.agg (nH ik)])/\∃q,iC (fa g) E=some (.ptr q 0)/\q<O.N/\(∃r' a',O'.hp k=some (.cells [.map ke,.map kv,mi r',mi a']))/\O'.hp q=some (.cells (jy t 1 0 p ik))/\dI O k q O'):=by
 obtain⟨q,c,eD,oG,hq,_⟩:=h.some hi;have DZ:=fun(O':VH) (g':O.Ge O')=>aiF (h.st.ge g') g hg eD ((g'.hp q oG).trans hq) (Ma oG g'.N) ht hb hr hc.ok
 have fQ:=h.st.lt.1;have oz:=hc.hp;have amE:=hc.ok;clear hi hq h hc hb hr;have hpu:=Xu p;obtain⟨g1,g2,g3⟩:=g;obtain⟨b,⟨pg,pa,pv⟩,pG,pA,pV,pk,P,M,D⟩:=p;dsimp only at oz;subst oz;simp only[bZ,gU,nH,ik,bw,aq]at DZ hpu ⊢;refine υ 51 [.tmp 4,.tmp 5,.cell 6 110] Tryz.func161 ?_;refine κ @cx ?_;refine VC.gen ?_;intro O1 e1;obtain⟨aI,cW,cz,cD⟩:=hY _ _ e1;clear e1;refine κ @cx ?_;refine κ @cx ?_;refine τ ?_;refine Γ [7,8] [0,3,6] (fun _:Unit=>[.sl 0 [] .nil,.sl 0 [] .nil]) (fun _ O'=>O'=O1) (fun _=>0) (()) ?_ ?_
 ·rfl
 rintro _ O2 e2;rw[e2];clear e2 O2
 refine τ ?_;refine ξ @cx @cz ?_;refine ah.rt (DZ O1 aI) ?_;rintro _ O2 ⟨rfl,⟨r',a',bM⟩,ux,c8⟩;have eZ:=c8.N;have fj:=(c8.hp _ (by omega) (by omega) (by omega)).trans cz;have cJ:=(c8.hp _ (by omega) (by omega) (by omega)).trans cD;have Ph:=(dI.of (k:=k) (q:=q) aI).trans c8;refine ab @cx ?_;refine VC.gen ?_;intro O3 e3;have aH:O2.Ge O3:=by rw[e3];exact((((VH.Ge.refl O2).push _).push _).set (Vq _) _).set (ajp _) _
 have pO:O3.hp O2.N=some (.cells [.v (.bool false),.str pg,.str pa,.str pv,.str pG,.str pA,.str pV,.str pk,.sl P.length (P.flatMap bm) .au,.sl M.length (M.flatMap aU) .au,.sl D.length (D.flatMap aU) .au]):=by rw[e3,π _ _ (by omega)];exact ρ _ _ _
 have lS:O3.hp (O2.N+1)=some (.cells [.v (.int .i64 0),.str [],.str [],.str [],.v (.int .i64 0),.v (.int .i64 0),.v (.int .i64 0),.str []]):=by rw[e3];exact ρ _ _ _
 have gy:O3.N=O2.N+2:=by rw[e3];rfl
 clear e3;have jv:=aH.at fj;have cB:=aH.at cJ;have dR:=aH.at bM;have qX:=aH.at ux;have c9:=Ph.ge aH;clear fj cJ bM ux Ph c8 cz cD;refine ξ @cx @lS ?_;refine VL.B3 aa (bb:=false) (b:=true) (by simp) (by simp[iB]) (.inr ⟨rfl,rfl⟩) (by kernel_rfl) (by kernel_rfl) rfl rfl rfl rfl ?_;refine ab @cx ?_;refine χ ?_;refine VC.Ei [] (O2.N) (O.N) (pO) (jv) ?_ (hne:=(by omega));intro X1 X2;refine ae.ar 0 ?_;refine ab @cx ?_;refine ζ (m:=.agg [.v (.bool false),.str pg,.str pa,.str pv,.str pG,.str pA,.str pV,.str pk,.sl P.length (P.flatMap bm) .au,.sl M.length (M.flatMap aU) .au,.sl D.length (D.flatMap aU) .au]) 1 (fun _ h=>h.1) (fun _ h=>h.1) ?_ ?_
 ·exact fU @cx
 simp only[ak];refine ae.ar 4 ?_;refine ab @cx ?_;refine ζ (m:=.agg [.str g1,.str g2,.str g3]) 5 (fun _ h=>h.2) (fun _ h=>h.2) ?_ ?_
 ·exact fU @cx
 simp only[ak];have pc:True:=trivial;have hJ:N5 O2.N O.N X1 X2 ((O3.set O2.N (.obj X1)).set O.N (.obj X2)):=⟨ω (ρ _ _ _),ρ _ _ _⟩;have eU:((O3.set O2.N (.obj X1)).set O.N (.obj X2)).N=O3.N:=rfl;have gM:∀i,i≠O2.N->i≠O.N->((O3.set O2.N (.obj X1)).set O.N (.obj X2)).hp i=O3.hp i:=fun i h1 h2=>by rw[π _ _ h2,π _ _ h1]
 generalize (O3.set O2.N (.obj X1)).set O.N (.obj X2)=O5 at*;have lu:=aR (tk:=.nil) (tk':=.full) (B:=0) (n:=0) (k:=1) (cs:=[]) (ds:=[.v (.bool false),.str pg,.str pa,.str pv,.str pG,.str pA,.str pV,.str pk,.sl P.length (P.flatMap bm) .au,.sl M.length (M.flatMap aU) .au,.sl D.length (D.flatMap aU) .au]) agw T86.1.1 (O:=O5) trivial rfl rfl rfl (by decide) (by decide) (by decide) (by decide);have acd:O5.Ge (O5.after .nil):=b_.B9 (tk:=.nil) (sz:=11) trivial (b_.after (sz:=11) (B:=0) trivial);have Lf:N5 O2.N O.N X1 X2 (O5.after .nil):=⟨acd.at hJ.1,acd.at hJ.2⟩;have kD:=aR (tk:=.nil) (tk':=.full) (B:=0) (n:=0) (k:=1) (cs:=[]) (ds:=[.str g1,.str g2,.str g3]) yz AO.1.1 (O:=O5.after .nil) trivial rfl rfl rfl (by decide) (by decide) (by decide) (by decide);have ak5:(O5.after .nil).Ge ((O5.after .nil).after .nil):=b_.B9 (tk:=.nil) (sz:=3) trivial (b_.after (sz:=3) (B:=0) trivial);have pe:=acd.trans ak5;have D2:N5 O2.N O.N X1 X2 ((O5.after .nil).after .nil):=⟨pe.at hJ.1,pe.at hJ.2⟩;rw[ajm,Zk]at lu kD;refine ae.pair (i:=2) (j:=6) ?_ ?_
 ·refine aL.o1 ?_;refine ab @cx ?_;refine⟨hJ,?_⟩;refine ae.pair (i:=3) (j:=6) ?_ ?_
  ·refine aL.o1 ?_;rw[dj];refine ao @cx @lu ?_;refine⟨Lf,?_⟩;refine ae.op (i:=6) ?_;refine ab @cx ?_;refine⟨Lf,?_⟩;refine ae.op (i:=7) ?_;rw[dj];refine ao @cx @kD ?_;refine⟨D2,?_⟩;refine ae.op (i:=8) ?_;refine ab @cx ?_;refine⟨D2,?_⟩;refine ae.op (i:=9) ?_;refine ab @cx ?_;refine⟨D2,?_⟩;refine ae.xE [] ?_ (hne:=(by omega));refine ab @cx ?_;refine VC.gen ?_;intro O8 e8
   have wO:∀i,i<O5.N->i≠O2.N->i≠O.N->O8.hp i=O5.hp i:=fun i h1 h2 h3=>by
    rw[e8,π _ _ h3,π _ _ h2];exact pe.hp i h1
   have Bw:O8.hp O2.N=some (.cells [.v (.bool false),.str pg,.str pa,.str pv,.str pG,.str pA,.str pV,.str pk,.sl P.length (P.flatMap bm) .au,.sl M.length (M.flatMap aU) .au,.sl D.length (D.flatMap aU) .au]):=by rw[e8,π _ _ (by omega)];exact ρ _ _ _
   have DN:O3.N<=O8.N:=by
    have h1:=pe.N;have h2:O8.N=((O5.after .nil).after .nil).N:=by rw[e8];rfl
    omega
   clear e8;have p6:∀i,i<O3.N->i≠O2.N->i≠O.N->O8.hp i=O3.hp i:=fun i h1 h2 h3=>(wO i (by omega) h2 h3).trans (gM i h2 h3)
   have t_:=(p6 (O.N+1) (by omega) (by omega) (by omega)).trans cB;have vd:=(p6 k (by omega) (by omega) (by omega)).trans dR;have Pj:=(p6 q (by omega) (by omega) (by omega)).trans qX;have rB:dI O k q O8:=⟨by omega,fun i h1 h2 h3=>(p6 i (by omega) (by omega) (by omega)).trans (c9.hp i h1 h2 h3)⟩;refine θ (aG @cx @Bw @t_ ?_);exact⟨⟨_,_,rfl⟩,q,eD,oG,⟨r',a',vd⟩,(by first | exact Pj | exact ω Pj),⟨rB.N,fun i h1 h2 h3=>ω (rB.hp i h1 h2 h3)⟩⟩
  ·refine aL.o1 ?_;refine ab @cx ?_;refine⟨hJ,?_⟩;refine ae.op (i:=3) ?_;rw[dj];refine ao @cx @lu ?_;refine⟨Lf,?_⟩;refine ae.op (i:=7) ?_;rw[dj];refine ao @cx @kD ?_;refine⟨D2,?_⟩;refine ae.op (i:=8) ?_;refine ab @cx ?_;refine⟨D2,?_⟩;refine ae.op (i:=9) ?_;refine ab @cx ?_;refine⟨D2,?_⟩;refine ae.xE [] ?_ (hne:=(by omega));refine ab @cx ?_;refine VC.gen ?_;intro O8 e8
   have wO:∀i,i<O5.N->i≠O2.N->i≠O.N->O8.hp i=O5.hp i:=fun i h1 h2 h3=>by
    rw[e8,π _ _ h3,π _ _ h2];exact pe.hp i h1
   have Bw:O8.hp O2.N=some (.cells [.v (.bool false),.str pg,.str pa,.str pv,.str pG,.str pA,.str pV,.str pk,.sl P.length (P.flatMap bm) .au,.sl M.length (M.flatMap aU) .au,.sl D.length (D.flatMap aU) .au]):=by rw[e8,π _ _ (by omega)];exact ρ _ _ _
   have DN:O3.N<=O8.N:=by
    have h1:=pe.N;have h2:O8.N=((O5.after .nil).after .nil).N:=by rw[e8];rfl
    omega
   clear e8;have p6:∀i,i<O3.N->i≠O2.N->i≠O.N->O8.hp i=O3.hp i:=fun i h1 h2 h3=>(wO i (by omega) h2 h3).trans (gM i h2 h3)
   have t_:=(p6 (O.N+1) (by omega) (by omega) (by omega)).trans cB;have vd:=(p6 k (by omega) (by omega) (by omega)).trans dR;have Pj:=(p6 q (by omega) (by omega) (by omega)).trans qX;have rB:dI O k q O8:=⟨by omega,fun i h1 h2 h3=>(p6 i (by omega) (by omega) (by omega)).trans (c9.hp i h1 h2 h3)⟩;refine θ (aG @cx @Bw @t_ ?_);exact⟨⟨_,_,rfl⟩,q,eD,oG,⟨r',a',vd⟩,(by first | exact Pj | exact ω Pj),⟨rB.N,fun i h1 h2 h3=>ω (rB.hp i h1 h2 h3)⟩⟩
 ·refine aL.o1 ?_;refine ab @cx ?_;refine⟨hJ,?_⟩;refine ae.op (i:=2) ?_;refine ab @cx ?_;refine⟨hJ,?_⟩;refine ae.op (i:=3) ?_;rw[dj];refine ao @cx @lu ?_;refine⟨Lf,?_⟩;refine ae.op (i:=7) ?_;rw[dj];refine ao @cx @kD ?_;refine⟨D2,?_⟩;refine ae.op (i:=8) ?_;refine ab @cx ?_;refine⟨D2,?_⟩;refine ae.op (i:=9) ?_;refine ab @cx ?_;refine⟨D2,?_⟩;refine ae.xE [] ?_ (hne:=(by omega));refine ab @cx ?_;refine VC.gen ?_;intro O8 e8
  have wO:∀i,i<O5.N->i≠O2.N->i≠O.N->O8.hp i=O5.hp i:=fun i h1 h2 h3=>by
   rw[e8,π _ _ h3,π _ _ h2];exact pe.hp i h1
  have Bw:O8.hp O2.N=some (.cells [.v (.bool false),.str pg,.str pa,.str pv,.str pG,.str pA,.str pV,.str pk,.sl P.length (P.flatMap bm) .au,.sl M.length (M.flatMap aU) .au,.sl D.length (D.flatMap aU) .au]):=by rw[e8,π _ _ (by omega)];exact ρ _ _ _
  have DN:O3.N<=O8.N:=by
   have h1:=pe.N;have h2:O8.N=((O5.after .nil).after .nil).N:=by rw[e8];rfl
   omega
  clear e8;have p6:∀i,i<O3.N->i≠O2.N->i≠O.N->O8.hp i=O3.hp i:=fun i h1 h2 h3=>(wO i (by omega) h2 h3).trans (gM i h2 h3)
  have t_:=(p6 (O.N+1) (by omega) (by omega) (by omega)).trans cB;have vd:=(p6 k (by omega) (by omega) (by omega)).trans dR;have Pj:=(p6 q (by omega) (by omega) (by omega)).trans qX;have rB:dI O k q O8:=⟨by omega,fun i h1 h2 h3=>(p6 i (by omega) (by omega) (by omega)).trans (c9.hp i h1 h2 h3)⟩;refine θ (aG @cx @Bw @t_ ?_);exact⟨⟨_,_,rfl⟩,q,eD,oG,⟨r',a',vd⟩,(by first | exact Pj | exact ω Pj),⟨rB.N,fun i h1 h2 h3=>ω (rB.hp i h1 h2 h3)⟩⟩
theorem Yo {O:VH} {k ke kv ce cv:Nat} {L:List (Gv×Bs×Option Pm)} {E V:fG} {r a:Int} (h:oc O k L E V ke kv ce cv r a) {i:Nat} {g:Gv} {t:Bs} {n:Nd} {p:Pm} (hi:L[i]?=some (g,t,none)) (hg:uo g) (ht:t.length<=65536) (hb:iG t= .ok n) (hr:pN n= .ok p) (hc:PmC p):
  VF Tryz.prog 131 [.ptr k 0,.agg (bZ g)] O (aD fun m O'=>m= .tuple [.agg (gU p),.agg (nH ik)]/\∃q,iC (fa g) E=some (.ptr q 0)/\q<O.N/\(∃r' a',O'.hp k=some (.cells [.map ke,.map kv,mi r',mi a']))/\O'.hp q=some (.cells (jy t 1 0 p ik))/\dI O k q O'):=by
 have hsq:=h.some hi;obtain⟨q0,c,p5,agV,D3,hE0⟩:=hsq;have hw:=fun(O':VH) (g':O.Ge O')=>afr (O:=O') (k:=k) (L:=L) (E:=E) (V:=V) (h.ge g') hi hg ht hb hr hc
 have D4:=fun O'=>aca p O' hc
 have fQ:=h.st.lt.1;have oz:=hc.hp;clear hc hr hb hi h D3 hE0;obtain⟨g1,g2,g3⟩:=g;obtain⟨b,⟨pg,pa,pv⟩,pG,pA,pV,pk,P,M,D⟩:=p;dsimp only at oz;subst oz;simp only[bZ,gU,nH,ik,aq,bw]at hw D4 ⊢;refine υ 38 [.cell 4 86,.cell 5 110] Tryz.func131 ?_;refine κ @cx ?_;refine VC.gen ?_;intro O1 e1;obtain⟨aI,cW,cz,cD,eS⟩:=lx _ _ _ e1;clear e1;refine ξ @cx @cz ?_;refine ah.rt (hw O1 aI) ?_;rintro _ O2 ⟨⟨t1,t2,rfl⟩,q,eD,amF,⟨r',a',bM⟩,ux,c8⟩;obtain rfl:q=q0:=by rw[eD]at p5;injection p5 with e;injection e
 have eZ:=c8.N;have fj:=(c8.hp _ (by omega) (by omega) (by omega)).trans cz;have cJ:=(c8.hp _ (by omega) (by omega) (by omega)).trans cD;have iH:=(c8.hp _ (by omega) (by omega) (by omega)).trans eS;have Ph:=(dI.of (k:=k) (q:=q) aI).trans c8;refine ab @cx ?_;refine VC.al ?_;rintro O3 ⟨aH,lS,gy⟩;have cB:=aH.at cJ;have fy:=aH.at iH;have dR:=aH.at bM;have qX:=aH.at ux;have c9:=Ph.ge aH;clear fj cJ iH bM ux Ph c8 cz cD eS hw;refine ξ @cx @lS ?_;refine VL.B3 aa (bb:=false) (b:=true) (by simp) (by simp[iB]) (.inr ⟨rfl,rfl⟩) (by kernel_rfl) (by kernel_rfl) rfl rfl rfl rfl ?_;refine ab @cx ?_;refine κ @cx ?_;refine VC.bx ?_;rintro O4 ⟨aY,jo,gO⟩;have dd:=aY.at cB;have fR:=aY.at fy;have lX:=aY.at dR;have Gx:=aY.at qX;have fD:=c9.ge aY;clear cB fy dR qX c9;refine Θ [4,5,9] (fun _:Unit=>[.ptr (O.N+1) 0,.ptr (O.N+2) 0,.ptr O3.N 0]) (fun _ O'=>∃O5,O4.Ge O5/\O'=O5.set O3.N (.cells [.v (.bool false),.str pg,.str pa,.str pv,.str pG,.str pA,.str pV,.str pk,.sl P.length (P.flatMap bm) .au,.sl M.length (M.flatMap aU) .au,.sl D.length (D.flatMap aU) .au])) ?_ ?_
 ·refine κ @cx ?_;refine τ ?_;refine Γ [10] [4,5,6,9] (fun x:Bool=>[mi (bif x then -1 else 0)]) (fun x O'=>(x=false->O'=O4)/\(x=true->∃O5,O4.Ge O5/\O'=O5.set O3.N (.cells [.v (.bool false),.str pg,.str pa,.str pv,.str pG,.str pA,.str pV,.str pk,.sl P.length (P.flatMap bm) .au,.sl M.length (M.flatMap aU) .au,.sl D.length (D.flatMap aU) .au]))) (fun x=>bif x then 0 else 1) (false) ?_ ?_
  ·exact⟨fun _=>rfl,fun e=>by cases e⟩
  rintro x O5 ⟨hf,ht'⟩;cases x with
  | true=>
    obtain⟨O6,fi,e6⟩:=ht' rfl;simp only[cond_true];refine ν @cx ?_;exact aA.mk () ⟨O6,fi,e6⟩
  | false=>
    have e5:=hf rfl;rw[e5];clear e5 hf ht' O5
    simp only[cond_false];refine κ @cx ?_;refine χ (τ ?_);refine VC.qO [] (fun _=>True) (trivial) ?_;refine ae.ar 0 ?_;refine ab @cx ?_;refine ae.ar 1 ?_;refine ab @cx ?_;refine ae.ar 2 ?_;refine ab @cx ?_;refine ae.ar 3 ?_;refine ab @cx ?_;refine ae.op (i:=4) ?_;refine ao @cx @jo ?_;refine ae.call (i:=5) (D4 O4) ?_;rintro _ O5 ⟨rfl,bD⟩;simp only[ak];refine⟨trivial,?_⟩;have mD:=bD.at jo;refine ae.op (i:=6) ?_;refine ao @cx @mD ?_;refine ae.bP [] ?_;refine ab @cx ?_;refine ν @cx ?_;exact az.N true ⟨(fun e=>by cases e),fun _=>⟨O5,bD,rfl⟩⟩ (hm:=(by decide))
 rintro _ O9 ⟨O5,bD,e9⟩;have eU:=bD.N;have Cy:∀i,i≠O3.N->O9.hp i=O5.hp i:=fun i h1=>by rw[e9];exact π _ _ h1
 have hx9:O9.hp O3.N=some (.cells [.v (.bool false),.str pg,.str pa,.str pv,.str pG,.str pA,.str pV,.str pk,.sl P.length (P.flatMap bm) .au,.sl M.length (M.flatMap aU) .au,.sl D.length (D.flatMap aU) .au]):=by rw[e9];exact ρ _ _ _
 have bN:=(Cy _ (by omega)).trans (bD.at dd);have KZ:=(Cy _ (by omega)).trans (bD.at fR);have hk9:=(Cy k (by omega)).trans (bD.at lX);have hq9:=(Cy q (by omega)).trans (bD.at Gx);have zM:O9.N=O5.N:=by rw[e9];rfl
 have jA:dI O k q O9:=⟨by omega,fun i h1 h2 h3=>(Cy i (by omega)).trans (bD.at (fD.hp i h1 h2 h3))⟩;clear e9 Cy;have Pg:O.N+1+1=O.N+2:=by omega
 refine θ (cR @cx @hx9 @bN @KZ ?_);refine ν @cx ?_;exact⟨q,eD,agV,⟨r',a',hk9⟩,(by first | exact hq9 | exact ω (ω hq9)),⟨jA.N,fun i h1 h2 h3=>ω (ω (jA.hp i h1 h2 h3))⟩⟩
set_option linter.defProp false in
def fC:=zP cx<|zP dY<|zP NC<|zP uM<|zP akg<|zP agv<|zP akh<|zP agx<|zP IY<|zP rL akn
def sm (s:Bs):Prop:=Lib.index s [36,123]<0
theorem afs (s:Bs) (O:VH) (h:sm s) (hs:s.length<=1000000):VF Tryz.prog 227 [.str s] O (aD fun m O'=>m= .tuple [.str s,.str [],.str [],mb false]/\O'=O):=by
 have h':Lib.index s [36,123]<0:=h;refine υ 36 [.tmp 2,.tmp 3,.tmp 4,.tmp 5] Tryz.func227 ?_;refine κ @fC ?_;refine κ @fC ?_;refine ah.rt (N9 s [36,123] O (by omega)) ?_;rintro _ O2 ⟨rfl,eO⟩;rw[eO];clear eO O2
 generalize Lib.index s [36,123]=x at*;have hd:decide (x<0)=true:=decide_eq_true h';refine ab @fC ?_;refine ξ @fC @hd ?_;trivial
theorem aiL {O:VH} {B b:Nat} {q:Option Nat} {s:Bs} (h:gE O B b q s):VF Tryz.prog 226 [.ptr b 0] O (aD fun m O'=>m=mi s.length/\O'=O):=by
 obtain⟨p,buf,h1,_,x_,_,_⟩:=h.cell;refine υ 8 [.tmp 2] Tryz.func226 ?_;rcases x_ with⟨h0,_,rfl | rfl⟩ | ⟨k,c,rfl,_⟩
 ·rw[h0];refine κ @fC ?_;refine ο @fC @h1 ?_;trivial
 ·rw[h0];refine κ @fC ?_;refine ο @fC @h1 ?_;trivial
 ·refine κ @fC ?_;refine ο @fC @h1 ?_;trivial
theorem ace {O:VH} {B b nb:Nat} {q:Option Nat} {s:Bs} (h:gE O B b q s) (l:Bs) (hl:s.length+l.length<=4096):VF Tryz.prog 225 ([.str l]++[.ptr b 0,.ptr nb 0]) O (aD fun m O'=>∃q',gE O' B b q' (s++l)/\fI O b q O' q'):=by
 simp only[adW,Zk];refine υ 11 [] Tryz.func225 ?_;refine κ @fC ?_;refine ah.rt (bV l h (by omega)) ?_;rintro _ O2 ⟨rfl,q2,cJ,c8⟩;refine ab @fC ?_;refine κ @fC ?_;refine ah.rt (aiL cJ) ?_;rintro _ O3 ⟨rfl,eO⟩;rw[eO];clear eO O3
 have hln:(s++l).length<=4096:=by rw[Qm];exact hl
 refine ab @fC ?_;refine ν @fC ?_;exact⟨q2,cJ,c8⟩
theorem Pk (wb:Nat) (s nm:Bs) (O:VH) (h:sm s) (hs:s.length<=4096):VF Tryz.prog 199 [.ptr wb 0,.str s,.str nm] O (aD fun m O'=>m= .str s/\O.Ge O'):=by
 refine υ 53 [.tmp 6] Tryz.func199 ?_;refine κ @fC ?_;refine VC.bx ?_;rintro O1 ⟨aI,eP,cW⟩;refine κ @fC ?_;have v8:=gE.fresh O1 (Vq O1.N);have mT:O1.Ge ((O1.push (.cells [.v (.pointer none),.sl 0 [] .nil])).push (.shape O1.N 155 2)):=((VH.Ge.refl O1).push _).push _;generalize ((O1.push (.cells [.v (.pointer none),.sl 0 [] .nil])).push (.shape O1.N 155 2))=O2 at*;refine κ @fC ?_;refine τ ?_;refine Γ [1] [0,7,8] (fun _:Unit=>[.str s]) (fun _ O'=>O'=O2) (fun _=>0) (()) ?_ ?_
 ·rfl
 rintro _ O3 e3;rw[e3];clear e3 O3
 refine τ ?_;refine κ @fC ?_;refine ah.rt (afs s O2 h (by omega)) ?_;rintro _ O3 ⟨rfl,eO⟩;rw[eO];clear eO O3
 refine ab @fC ?_;refine κ @fC ?_;refine ah.rt (ace (nb:=O.N) v8 s (by simp;omega)) ?_;rintro _ O3 ⟨q3,cB,c9⟩;rw[Zk]at cB;have aH:O1.Ge O3:=fI.B9 mT c9 (Vq _);refine ab @fC ?_;refine κ @fC ?_;refine ah.rt (qD cB (by simp only[maxLen];omega)) ?_;rintro _ O4 ⟨rfl,fD⟩;refine ab @fC ?_;exact aI.trans (aH.Uj fD cB.yA)
abbrev vf:=List (Bs×Bs×Nat)
def uW (M:vf):vx:=M.map fun p=>(.str p.1,.str p.2.1,p.2.2)
def yc (k:Bs) (M:vf):Option Bs:=(M.find? (·.1==k)).map (·.2.1)
def Pl (k:Bs):vf->Nat->Option (Nat×MV)
 | [],_=>none
 | p::M,i=>if k==p.1 then some (i,.str p.2.1)else Pl k M (i+1)
theorem Lg (k:Bs):∀(M:vf) (i:Nat),qq .string (.str k) (uW M) i=some (Pl k M i)
 | [],i=>rfl
 | p::M,i=>by
   show qq .string (.str k) ((.str p.1,.str p.2.1,p.2.2)::uW M) i=_;rw[qq,Pl];simp only[J6];cases h:k==p.1
   ·simp[Lg k M (i+1)]
   ·simp
theorem UL (k:Bs):∀(M:vf) (i:Nat),(Pl k M i).map (·.2)=(yc k M).map .str
 | [],i=>rfl
 | p::M,i=>by
   rw[Pl];unfold yc;rw[List.find?_cons];cases h:k==p.1
   ·have h':(p.1==k)=false:=by rw[beq_eq_false_iff_ne]at h ⊢;exact Ne.symm h
    rw[h'];simpa[yc]using UL k M (i+1)
   ·have h':(p.1==k)=true:=by rw[beq_iff_eq]at h ⊢;exact h.symm
    rw[h'];rfl
theorem Lh {tab:cj} {O:VH} {t kt et:TypeId} {a b' c d c' d':Nat} {z y:List MV} {b ck:Nat} {M:vf} {k:Bs} {ok:Bool} (h:tab t=some ⟨.map kt et,a,b',z⟩) (hk:tab kt=some ⟨.string,c,d,y⟩) (he:tab et=some ⟨.string,c',d',[.str []]⟩) (hb:O.hp b=some (.map (uW M) ck)):
  ie tab O t (.map b) (.str k) ok=some (zx ok (.str []) ((yc k M).map .str)):=by
 unfold ie;simp only[h,hk,he,am6,mapOf,hb,Option.bind_some,Lg,yi];have:=UL k M 0;cases hf:Pl k M 0 with
 | none=>
   rw[hf]at this;rw[<-this];cases ok<;>rfl
 | some p=>
   rw[hf]at this;rw[<-this];cases ok<;>rfl
theorem Ju {k:Bs}:∀{M:vf} {i:Nat},(∀p∈M,p.1≠k)->Pl k M i=none
 | [],i,_=>rfl
 | p::M,i,h=>by
   have h':(k==p.1)=false:=by rw[beq_eq_false_iff_ne];exact Ne.symm (h p (by simp))
   rw[Pl,h',if_neg (by simp)];exact Ju fun q hq=>h q (List.mem_cons_of_mem _ hq)
theorem acf {tab:cj} {O:VH} {t kt et:TypeId} {a b' c d:Nat} {z y:List MV} {b ck:Nat} {M:vf} {k v:Bs} (h:tab t=some ⟨.map kt et,a,b',z⟩) (hk:tab kt=some ⟨.string,c,d,y⟩) (hb:O.hp b=some (.map (uW M) ck)) (dF:∀p∈M,p.1≠k):
  eC tab O t (.map b) (.str k) (.str v)=some (O.set b (.map (uW (M++[(k,v,ck)])) (ck+1))):=by
 unfold eC;simp only[h,hk,am6,hb,Lg,yi,Ju dF];simp[uW]
theorem Jv {k:Bs} {M:vf} (h:∀p∈M,p.1≠k):yc k M=none:=by
 unfold yc;rw[List.find?_eq_none.2 (fun p hp=>by simpa using h p hp)];rfl
theorem Pn:∀{L:List (Bs×Bs)} {R:vf} {x:Bs×Bs},L.Pairwise (fun x y=>x.1≠y.1)->R.map (fun p=>(p.1,p.2.1))=L->x∈L->yc x.1 R=some x.2
 | [],R,x,_,_,hx=>by simp at hx
 | y::L,[],x,_,e,_=>by simp at e
 | y::L,p::R,x,h,e,hx=>by
   rw[List.map_cons]at e;injection e with e1 e2;obtain⟨h1,h2⟩:=List.pairwise_cons.1 h;unfold yc;rw[List.find?_cons];rcases ajv.1 hx with rfl | hx
   ·have:(p.1==x.1)=true:=by rw[<-e1];simp
    rw[this];simp only[am6];rw[<-e1]
   ·have hne:=h1 x hx;have:(p.1==x.1)=false:=by rw[beq_eq_false_iff_ne];rw[<-e1]at hne;exact hne
    rw[this];exact Pn h2 e2 hx
structure pS (O:VH) (tb kr kd:Nat) (L:List (Bs×Bs)) (R D:vf) (cr cd:Nat) (tk:Tok) (kn:Int):Prop where
 cell:O.hp tb=some (.cells [.sl L.length (L.flatMap bm) tk,.map kr,.map kd,mi kn])
 raw:O.hp kr=some (.map (uW R) cr)
 done:O.hp kd=some (.map (uW D) cd)
 lt:tb<O.N/\kr<O.N/\kd<O.N
 ne:tb≠kr/\tb≠kd/\kr≠kd
theorem pS.ge {O O':VH} {tb kr kd:Nat} {L:List (Bs×Bs)} {R D:vf} {cr cd:Nat} {tk:Tok} {kn:Int} (h:pS O tb kr kd L R D cr cd tk kn) (g:O.Ge O'):pS O' tb kr kd L R D cr cd tk kn:=
 ⟨(g.hp _ h.lt.1).trans h.cell,(g.hp _ h.lt.2.1).trans h.raw,(g.hp _ h.lt.2.2).trans h.done,⟨Ma h.lt.1 g.N,Ma h.lt.2.1 g.N,Ma h.lt.2.2 g.N⟩,h.ne⟩
theorem Li (L:List (Bs×Bs)) (tk:Tok) (O:VH) (hn:L.length<=10000) (hL:L.Pairwise fun x y=>x.1≠y.1):VF Tryz.prog 132 [.sl L.length (L.flatMap bm) tk] O (aD fun m O'=>m= .ptr (O.N+2) 0/\O.Ge O'/\∃R cr t,pS O' (O.N+2) O.N (O.N+1) L R [] cr 0 t 0/\∀x∈L,yc x.1 R=some x.2):=by
 have dH:=aV fK L;refine υ 50 [.tmp 2] Tryz.func132 ?_;have k8:Fp (kU [(0,1),(1,1),(2,1),(3,1)]) [.sl 0 [] .nil,.v (.map none),.v (.map none),.v (.int .i64 0)] (.map O.N) [(2,.map (O.N+1))] (some (1,1))=some [.sl 0 [] .nil,.map O.N,.map (O.N+1),.v (.int .i64 0)]:=rfl;refine κ @fC ?_;refine ξ @fC @k8 ?_;refine VC.gen ?_;intro O1 e1;obtain⟨aI,cW,cz,cD,eS⟩:=lx _ _ _ e1;clear e1;have Pg:O.N+1+1=O.N+2:=by omega
 refine Θ [3] (fun _:Unit=>[.ptr (O.N+2) 0]) (fun _ O'=>O.Ge O'/\∃R cr t,pS O' (O.N+2) O.N (O.N+1) L R [] cr 0 t 0/\R.map (fun p=>(p.1,p.2.1))=L) ?_ ?_
 ·refine κ @fC ?_;refine τ ?_;refine Γ [14] [3,12,13] (fun j:Nat=>[mi j]) (fun j O'=>O.Ge O'/\j<=L.length/\∃R cr t,pS O' (O.N+2) O.N (O.N+1) (L.take j) R [] cr 0 t 0/\R.map (fun p=>(p.1,p.2.1))=L.take j/\App O' (O.N+3) 2 t) (fun j=>L.length - j) (0) ?_ ?_
  ·refine⟨aI,ahM _,[],0,.nil,⟨?_,cz,cD,⟨by omega,by omega,by omega⟩,by omega,by omega,by omega⟩,?_,trivial⟩
   ·rw[List.take_zero];exact eS
   ·rw[List.take_zero];rfl
  rintro j O3 ⟨aH,hj,R,cr,t,hT,hR,cf⟩;by_cases aM:j<L.length;rotate_left
  ·obtain rfl:j=L.length:=by omega
   rw[ahO]at hT hR;refine ν @fC ?_;exact aA.mk () ⟨aH,R,cr,t,hT,hR⟩
  have bG:=ct fK L j aM;have dh:=dz L j aM
  have dF:∀p∈R,p.1≠L[j].1:=fun p hp=>by
   have hm:(p.1,p.2.1)∈L.take j:=by rw[<-hR];exact List.mem_map_of_mem (f:=fun p:Bs×Bs×Nat=>(p.1,p.2.1)) hp
   obtain⟨i,hi,e⟩:=ahJ.1 hm;rw[ahK]at hi;rw[am9]at e;have:=(ajq.1 hL) i j (by omega) aM (by omega);rw[e]at this;exact this
  have AE:(L.take j).length=j:=by rw[ahK];omega
  generalize L[j]=y at*;generalize L.take j=LT at*;obtain⟨yn,yv⟩:=y;dsimp only at dF;simp only[bm]at bG;have cI:((j:Int)+1)=((j+1:Nat):Int):=by omega
  have eh:=hT.lt;have hne:=hT.ne;refine κ @fC ?_;refine κ @fC ?_;refine χ (τ ?_);refine ξ @fC @bG ?_;refine VC.al ?_;rintro O4 ⟨aY,jo,gO⟩;have wP:=hT.ge aY;have mJ:=cf.ge aY;have fR:=wP.cell;have HS:=wP.raw;simp only[aq]at fR;have eD:ie (bY Tryz.prog) O4 296 (.map O.N) (.str yn) true=some (zx true (.str []) ((yc yn R).map .str)):=Lh IY T9 T9 HS;rw[Jv dF]at eD;simp only[Option.map_none,KD]at eD;refine χ ?_;refine WC.bP (.held []) [(0,.rd),(1,.rd),(2,.rd),(3,.rd),(4,.rd),(5,.rd),(6,.rd),(7,.rd),(8,.rd),(9,.rd),(10,.rd),(11,.rd)] ?_;refine cR @fC @fR @jo @eD ?_;refine κ @fC ?_;refine ν @fC ?_;refine WC.bP (.held [8]) [(0,.rd),(1,.rd),(2,.rd),(3,.rd),(4,.rd),(5,.rd),(6,.rd),(7,.rd),(8,.one)] ?_;have nG:eC (bY Tryz.prog) O4 296 (.map O.N) (.str yn) (.str yv)=some (O4.set O.N (.map (uW (R++[(yn,yv,cr)])) (cr+1))):=acf IY T9 HS dF;refine cR @fC @fR @jo @nG ?_;refine VC.gen ?_;intro O5 e5;have gM:∀i,i≠O.N->O5.hp i=O4.hp i:=fun i hi=>by rw[e5];exact π _ _ hi
  have eU:O5.N=O4.N:=by rw[e5];rfl
  have xZ:O5.hp O.N=some (.map (uW (R++[(yn,yv,cr)])) (cr+1)):=by rw[e5];exact ρ _ _ _
  have bD:O.Ge O5:=by rw[e5];exact(aH.trans aY).set (Vq _) _
  have gJ:App O5 (O.N+3) 2 t:=mJ.mv (by omega) fun i hi e=>(gM i (fun e2=>by subst e2;rw[HS]at e;cases e)).trans e
  clear e5;have gd:=(gM _ (by omega)).trans fR;have mD:=(gM _ (by omega)).trans jo;have zL:=(gM (O.N+1) (by omega)).trans wP.done;obtain⟨mE,gV,lQ⟩:=gG (n:=LT.length) (cs:=LT.flatMap bm) (ds:=[.str yn,.str yv]) (es:=bm (yn,yv)) KG C_.1.1 gJ (aV fK LT) rfl rfl (by decide) (by omega) (by simp only[maxLen];omega) (gH LT) (by simp only[bm,wu]);refine WC.bP (.held [10]) [(0,.rd),(1,.rd),(2,.rd),(3,.rd),(4,.rd),(5,.rd),(6,.one),(7,.one),(8,.one),(9,.rd),(10,.one)] ?_;refine aG @fC @gd @mD ?_;refine η gV lQ ?_;have hca:(O5.after t).hp (O.N+2)=_:=(App.off gJ (by omega) (by rw[gd];simp)).trans gd;have hra:(O5.after t).hp O.N=_:=(App.off gJ (by omega) (by rw[xZ];simp)).trans xZ;have hda:(O5.after t).hp (O.N+1)=_:=(App.off gJ (by omega) (by rw[zL];simp)).trans zL;refine ao @fC @hca ?_;refine VC.gen ?_;intro O6 e6;have so:=b_.after gJ;have ov:∀i,i≠O.N+2->O6.hp i=(O5.after t).hp i:=fun i hi=>by rw[e6];exact π _ _ hi
  have mU:O6.N=(O5.after t).N:=by rw[e6];rfl
  have Cv:O6.hp (O.N+2)=some (.cells [.sl (LT.length+1) (LT.flatMap bm++bm (yn,yv)) (.own O5.N 2),.map O.N,.map (O.N+1),.v (.int .i64 0)]):=by rw[e6];exact ρ _ _ _
  have mH:App O6 (O.N+3) 2 (.own O5.N 2):=(App.after (tk:=t) (B:=O.N+3) (sz:=2) (by omega:O.N+3<=O5.N)).mv (by omega) fun i hi e=>(ov i (fun e2=>by subst e2;rw[hca]at e;cases e)).trans e
  have Pf:O.Ge O6:=⟨by have:=so.N;have:=bD.N;omega,fun i hi=>by
   rw[ov i (by omega),so.hp i (by have:=bD.N;omega) (fun e=>by have:=(App.nD gJ e).1;omega)];exact bD.hp i hi⟩
  have GB:=so.N;refine ο @fC @cI ?_;refine az.N (j+1) ⟨Pf,aM,R++[(yn,yv,cr)],cr+1,.own O5.N 2,⟨?_,(ov _ (by omega)).trans hra,(ov _ (by omega)).trans hda,⟨by omega,by omega,by omega⟩,hne⟩,?_,mH⟩
  ·rw[dh,ajt,Qm];simpa[aq]using Cv
  ·rw[dh,am5,hR];rfl
 rintro _ O9 ⟨bj,R,cr,t,hT,hR⟩;refine ν @fC ?_;exact⟨bj,R,cr,t,hT,fun x hx=>Pn hL hR hx⟩
set_option linter.defProp false in
def cY:=zP fC<|zP ako<|zP T80 agx
theorem aft (x:Bs) (O:VH) (t:Tok):VF Tryz.prog 201 [.sl 0 [] t,.str x] O (aD fun m O'=>m=mb false/\O'=O):=by
 have h1:VF Tryz.prog 228 [.sl 0 [] t,.str x] O (aD fun m O'=>m=mi (-1)/\O'=O):=by
  refine Δ 19 [.tmp 4] Tryz.func228 ?_;refine ab @cY ?_;refine WC.jm [8] [0,1,7] (fun j:Unit=>[mi 0]) (fun j O'=>O'=O) (fun j=>0) (()) ?_ ?_
  ·rfl
  rintro _ O2 e2;rw[e2];clear e2 O2
  refine ab @cY ?_;trivial
 refine Δ 9 [.tmp 4] Tryz.func201 ?_;refine ab @cY ?_;refine ah.rt (h1) ?_;rintro _ O2 ⟨rfl,e2⟩;rw[e2];clear e2 O2
 refine ab @cY ?_;trivial
theorem Yp {O:VH} {wb tb kr kd:Nat} {L:List (Bs×Bs)} {R D:vf} {cr cd:Nat} {tk:Tok} {kn:Int} (nm v:Bs) (h:pS O tb kr kd L R D cr cd tk kn) (hw:O.hp wb=some (.cells [.ptr tb 0,.sl 0 [] .nil])) (oI:wb<O.N) (hR:yc nm R=some v) (hD:∀p∈D,p.1≠nm) (hv:sm v) (ib:v.length<=4096):
  VF Tryz.prog 167 [.ptr wb 0,.str nm] O (aD fun m O'=>m= .str v/\(∃kn',pS O' tb kr kd L R (D++[(nm,v,cd)]) cr (cd+1) tk kn')/\O.N<=O'.N/\∀i,i<O.N->i≠tb->i≠kd->i≠wb->O'.hp i=O.hp i):=by
 have hc:=h.cell;have eh:=h.lt;have hne:=h.ne;have Cj:wb≠tb:=fun e=>by subst e;rw[hw]at hc;simp at hc
 have hwr:wb≠kr:=fun e=>by subst e;have:=h.raw;cases(hw.symm.trans this)
 have hwd:wb≠kd:=fun e=>by subst e;have:=h.done;cases(hw.symm.trans this)
 simp only[aq]at hc;have eD:ie (bY Tryz.prog) O 296 (.map kd) (.str nm) true=some (zx true (.str []) ((yc nm D).map .str)):=Lh IY T9 T9 h.done;rw[Jv hD]at eD;simp only[Option.map_none,KD]at eD;refine υ 95 [.tmp 4] Tryz.func167 ?_;refine κ @cY ?_;refine θ (cR @cY @hw @hc @eD ?_);refine χ (τ ?_);refine ξ @cY @hw ?_;refine ah.rt (aft nm O .nil) ?_;rintro _ O2 ⟨rfl,e2⟩;rw[e2];clear e2 O2
 refine ao @cY @hw ?_;refine ο @cY @hw ?_;refine ξ @cY @hw ?_;have cf:=aR (tk:=.nil) (tk':=.full) (B:=0) (n:=0) (k:=1) (cs:=[]) (ds:=[.str nm]) rL T9 (O:=O) trivial rfl rfl rfl (by decide) (by decide) (by decide) (by decide);rw[ajm,Zk]at cf;refine η cf rfl ?_;have so:O.Ge (O.after .nil):=b_.B9 (tk:=.nil) (sz:=1) trivial (b_.after (sz:=1) (B:=0) trivial);have hwA:=(so.hp _ oI).trans hw;refine ao @cY @hwA ?_;refine VC.gen ?_;intro O2 e2;have ei:∀i,i<O.N->i≠wb->O2.hp i=O.hp i:=fun i h1 h2=>by rw[e2,π _ _ h2];exact so.hp i h1
 have eZ:O.N<=O2.N:=by rw[e2];exact so.N
 have sI:∃t,O2.hp wb=some (.cells [.ptr tb 0,.sl 1 [.str nm] t]):=⟨_,by rw[e2];exact ρ _ _ _⟩
 obtain⟨t2,sI⟩:=sI;clear e2;have hT2:pS O2 tb kr kd L R D cr cd tk kn:=⟨(ei _ eh.1 (Ne.symm Cj)).trans h.cell,(ei _ eh.2.1 (Ne.symm hwr)).trans h.raw,(ei _ eh.2.2 (Ne.symm hwd)).trans h.done,⟨by omega,by omega,by omega⟩,hne⟩;have iH:=hT2.cell;simp only[aq]at iH;have Jw:ie (bY Tryz.prog) O2 296 (.map kr) (.str nm) false=some (zx false (.str []) ((yc nm R).map .str)):=Lh IY T9 T9 hT2.raw;rw[hR]at Jw;simp only[am6,Ud]at Jw;refine θ (cR @cY @sI @iH @Jw ?_);refine ah.rt (Pk wb v nm O2 hv ib) ?_;rintro _ O3 ⟨rfl,aH⟩;have hT3:=hT2.ge aH;have hw3:=aH.at sI;have By:∀i,i<O.N->i≠wb->O3.hp i=O.hp i:=fun i h1 h2=>(aH.hp i (by omega)).trans (ei i h1 h2)
 have gy:=aH.N;refine ab @cY ?_;refine χ ?_;refine WC.bP (.held [14]) [(0,.rd),(1,.rd),(2,.rd),(3,.rd),(4,.rd),(5,.rd),(6,.rd),(7,.rd),(8,.rd),(9,.rd),(10,.rd),(11,.rd),(12,.one),(13,.rd),(14,.one)] ?_;refine aG @cY @hw3 @vV ?_;refine VC.gen ?_;intro O4 e4;have sk:∀i,i≠wb->O4.hp i=O3.hp i:=fun i h2=>by rw[e4];exact π _ _ h2
 have gO:O4.N=O3.N:=by rw[e4];rfl
 have Po:∃t,O4.hp wb=some (.cells [.ptr tb 0,t]):=⟨_,by rw[e4];exact ρ _ _ _⟩
 obtain⟨t4,Po⟩:=Po;clear e4;have agT:=hT3.lt;have wP:pS O4 tb kr kd L R D cr cd tk kn:=⟨(sk _ (Ne.symm Cj)).trans hT3.cell,(sk _ (Ne.symm hwr)).trans hT3.raw,(sk _ (Ne.symm hwd)).trans hT3.done,⟨by omega,by omega,by omega⟩,hne⟩;have fR:=wP.cell;simp only[aq]at fR;have nG:eC (bY Tryz.prog) O4 296 (.map kd) (.str nm) (.str v)=some (O4.set kd (.map (uW (D++[(nm,v,cd)])) (cd+1))):=acf IY T9 wP.done hD;refine θ (cR @cY @Po @fR @nG ?_);refine VC.gen ?_;intro O5 e5;have gM:∀i,i≠kd->O5.hp i=O4.hp i:=fun i h2=>by rw[e5];exact π _ _ h2
 have eU:O5.N=O4.N:=by rw[e5];rfl
 have zL:O5.hp kd=some (.map (uW (D++[(nm,v,cd)])) (cd+1)):=by rw[e5];exact ρ _ _ _
 clear e5;have hw5:=(gM wb hwd).trans Po;have gd:=(gM tb hne.2.1).trans fR;refine θ (cR @cY @dB @hw5 @gd ?_);refine ah.rt (wK 1 gd rfl) ?_;rintro m O6 ⟨rfl,e6⟩;have ov:∀i,i≠tb->O6.hp i=O5.hp i:=fun i h2=>by rw[e6];exact π _ _ h2
 have Cv:O6.hp tb=some (.cells [.sl L.length (L.flatMap bm) tk,.map kr,.map kd,mi (IntKind.i64.wrap (kn+1))]):=by rw[e6];exact ρ _ _ _
 have mU:O6.N=O5.N:=by rw[e6];rfl
 refine ab @cY ?_;refine ν @cY ?_;refine⟨⟨_,⟨Cv,(ov _ (Ne.symm hne.1)).trans ((gM _ hne.2.2).trans wP.raw),(ov _ (Ne.symm hne.2.1)).trans zL,⟨by omega,by omega,by omega⟩,hne⟩⟩,by omega,fun i h1 h2 h3 h4=>?_⟩;exact(ov i h2).trans ((gM i h3).trans ((sk i h4).trans (By i h1 h4)))
theorem acg {O:VH} {a b:Nat} {K:VH->Prop} (h:K O):gQ Tryz.prog 200 [.ptr a 0,.ptr b 0] none O K:=by
 refine gQ.rec (d:=5) Tryz.func200 (Nat.lt_of_lt_of_eq (by decide:5<15) rfl) ?_;show WC _ _ ⟨15,0⟩ _ _ _ _ _;simp only[cK,ajm,Nat.reduceAdd,AJ];refine ao @cY @wi ?_;refine VL.pure (by simp) (fun _=>.inl rfl) rfl rfl (i_.Fw (bb:=true) Tryz.underlying20 rfl (.inl ⟨rfl,rfl⟩)) ?_;refine WL.sound aa ?_;refine ao @cY @wi ?_;exact h
theorem Pp {O:VH} {g:FuncId} {xs:List MV} {Φ :VH->VH->Prop} (hg:db Tryz.prog g=true) (hC:∀O1,O.Ge O1->VF Tryz.prog g xs O1 (aD fun _ O'=> Φ O1 O')) (hΦ :∀O1 O2,O.Ge O1-> Φ O1 O2->O1.N<=O2.N/\∀i,O.N<=i->i<O1.N->O2.hp i=O1.hp i):
  VF Tryz.prog 165 [.func (.func g) [] xs] O (aD fun m O'=>m= .tuple [mi 0,.str []]/\∃O1 O2,O.Ge O1/\ Φ O1 O2/\O2.N<=O'.N/\∀i,i<O.N->O'.hp i=O2.hp i):=by
 refine VF.deferred (lo:=4) (k:=7) (rs:=[.cell 2 87,.cell 3 9]) Tryz.func165 (Enters.sH (by kernel_rfl)) ?_;simp only[cK,ajm,Nat.reduceAdd];refine ab @cY ?_;refine⟨_,rfl,fun D=>?_⟩;refine VC.gen ?_;rintro O1 sT;obtain⟨aI,cW,cz,cD⟩:=hY _ _ sT;clear sT;refine ξ @cY @wd ?_;refine ah.rt (hC O1 aI) ?_ (hb:=hg);rintro m O2 h2;obtain⟨eZ,ei⟩:=hΦ O1 O2 aI h2;have fj:=(ei _ (Vq _) (by omega)).trans cz;have cJ:=(ei (O.N+1) (by omega) (by omega)).trans cD;refine ao @cY @wd ?_;refine θ (cR @cY @wd @fj @cJ ?_);refine ο @cY @wd ?_;refine acg ?_;refine cR @cY @wd @fj @cJ ?_;exact⟨O1,O2,aI,h2,Vq _,fun i hi=>by rw[π _ _ (by omega),π _ _ (by omega)]⟩
theorem afu {O:VH} {ba bb bc tb:Nat} {s:Bs} {z:MV} (ha:O.hp ba=some (.cells [.ptr tb 0])) (hb:O.hp bb=some (.cells [.str s])) (hc:O.hp bc=some (.cells [z])) (kc:ba<O.N) (vZ:bb<O.N) (ia:bc<O.N) (h:sm s) (hs:s.length<=4096):
  VF Tryz.prog 198 [.ptr ba 0,.ptr bb 0,.ptr bc 0] O (aD fun m O'=>O'.hp bc=some (.cells [.str s])/\bz O (some bc) O'):=by
 refine υ 8 [] Tryz.func198 ?_;have Sm:∀x,(O.push x).hp bb=some (.cells [.str s]):=fun x=>(Υ _ _ vZ).trans hb
 refine ι (aG @cY @ha @hb ?_);refine ah.bx ?_;rintro O1 ⟨aI,eP,cW⟩;refine ah.rt (Pk O.N s [] O1 h hs) ?_;rintro _ O2 ⟨rfl,aB⟩;have fA:=aI.trans aB;have iH:=(fA.hp _ ia).trans hc;refine ao @cY @iH ?_;exact(bz.lp fA).any.trans bz.set
theorem Yq (tb:Nat) (s:Bs) (O:VH) (h:sm s) (hs:s.length<=4096):VF Tryz.prog 164 [.ptr tb 0,.str s] O (aD fun m O'=>m= .tuple [.str s,mi 0,.str []]/\O.Ge O'):=by
 refine υ 20 [.cell 4 9,.tmp 5,.tmp 6] Tryz.func164 ?_;refine κ @cY ?_;refine VC.gen ?_;intro O1 e1;obtain⟨aI,cW,cz,cD,eS⟩:=lx _ _ _ e1;clear e1;refine ξ @cY @cz ?_;refine κ @cY ?_;refine ah.rt (Pp (O:=O1) (g:=198) (xs:=[.ptr O.N 0,.ptr (O.N+1) 0,.ptr (O.N+2) 0]) (Φ :=fun A B=>B.hp (O.N+2)=some (.cells [.str s])/\bz A (some (O.N+2)) B) (by kernel_rfl) (fun O2 aB=>afu (aB.at cz) (aB.at cD) (aB.at eS) (by have:=aB.N;omega) (by have:=aB.N;omega) (by have:=aB.N;omega) h hs) (fun A B hA hB=>⟨hB.2.N,fun i h1 h2=>hB.2.hp i h2 (fun e=>by injection e with e;omega)⟩)) ?_;rintro _ O3 ⟨rfl,A,B,so,⟨ot,Cr⟩,gy,By⟩;have fy:=(By _ (by omega)).trans ot;refine ab @cY ?_;refine κ @cY ?_;refine ξ @cY @fy ?_;refine ν @cY ?_;have aH:O.Ge O3:=⟨by have:=so.N;have:=Cr.N;omega,fun i hi=>(By i (by omega)).trans ((Cr.hp i (by have:=so.N;omega) (fun e=>by injection e with e;omega)).trans ((so.hp i (by omega)).trans (aI.hp i hi)))⟩;exact aH.set (by omega) _
theorem afv {O:VH} {ba bb tb kr kd:Nat} {L:List (Bs×Bs)} {R:vf} {cr:Nat} {tk:Tok} (ha:O.hp ba=some (.cells [.ptr tb 0])) (hb:O.hp bb=some (.cells [.sl 0 [] .nil])) (kc:ba<O.N) (vZ:bb<O.N) (h:pS O tb kr kd L R [] cr 0 tk 0) (hn:L.length<=10000) (hR:∀x∈L,yc x.1 R=some x.2) (hL:L.Pairwise fun x y=>x.1≠y.1) (hv:∀x∈L,sm x.2/\x.2.length<=4096):
  VF Tryz.prog 166 [.ptr ba 0,.ptr bb 0] O (aD fun m O'=>(∃t,O'.hp bb=some (.cells [.sl L.length (L.flatMap bm) t]))/\O.N<=O'.N/\∀i,i<O.N->i≠tb->i≠kd->i≠bb->O'.hp i=O.hp i):=by
 have dH:=aV fK L;have eh:=h.lt;have hne:=h.ne;have hc:=h.cell;simp only[aq]at hc;have agW:ba≠tb:=fun e=>by subst e;rw[ha]at hc;simp at hc
 have qW:bb≠tb:=fun e=>by subst e;rw[hb]at hc;simp at hc
 have XQ:ba≠kd:=fun e=>by subst e;have:=h.done;cases(ha.symm.trans this)
 have xX:bb≠kd:=fun e=>by subst e;have:=h.done;cases(hb.symm.trans this)
 have hbr:bb≠kr:=fun e=>by subst e;have:=h.raw;cases(hb.symm.trans this)
 have hab:ba≠bb:=fun e=>by subst e;rw[hb]at ha;simp at ha
 refine υ 26 [] Tryz.func166 ?_;refine θ (aG @cY @ha @hc ?_);refine τ ?_;refine Γ [9] [0,1,7,8] (fun j:Nat=>[mi j]) (fun j O'=>j<=L.length/\O.N<=O'.N/\(∀i,i<O.N->i≠tb->i≠kd->i≠bb->O'.hp i=O.hp i)/\∃D cd kn t,pS O' tb kr kd L R D cr cd tk kn/\(∀p∈D,∃x∈L.take j,p.1=x.1)/\O'.hp bb=some (.cells [.sl (L.take j).length ((L.take j).flatMap bm) t])/\App O' O.N 2 t) (fun j=>L.length - j) (0) ?_ ?_
 ·exact⟨ahM _,Vq _,fun _ _ _ _ _=>rfl,[],0,0,.nil,h,by simp,hb,trivial⟩
 rintro j O3 ⟨hj,gy,By,D,cd,kn,t,hT,hD,cB,cf⟩;by_cases aM:j<L.length;rotate_left
 ·obtain rfl:j=L.length:=by omega
  rw[ahO]at cB;refine ν @cY ?_;exact⟨⟨t,cB⟩,gy,By⟩
 have bG:=ct fK L j aM;have dh:=dz L j aM
 have dF:∀p∈D,p.1≠L[j].1:=fun p hp=>by
  obtain⟨x,hx,e⟩:=hD p hp;obtain⟨i,hi,e2⟩:=ahJ.1 hx;rw[ahK]at hi;rw[am9]at e2;have:=(ajq.1 hL) i j (by omega) aM (by omega);rw[e, <-e2];exact this
 have hRj:=hR L[j] (ajs aM);obtain⟨hvj,ib⟩:=hv L[j] (ajs aM);have AE:(L.take j).length=j:=by rw[ahK];omega
 generalize L[j]=y at*;obtain⟨yn,yv⟩:=y;dsimp only at dF hRj hvj ib;simp only[bm]at bG;have cI:((j:Int)+1)=((j+1:Nat):Int):=by omega
 refine κ @cY ?_;refine κ @cY ?_;refine χ (τ ?_);refine ξ @cY @bG ?_;refine VC.al ?_;rintro O4 ⟨aY,jo,gO⟩;have wP:=hT.ge aY;have fM:=aY.at ((By ba kc agW XQ hab).trans ha);have dd:=aY.at cB;have mJ:=cf.ge aY;refine VC.Bb [12] (bb) (fun O'=>O'.hp ba=some (.cells [.ptr tb 0])/\O'.hp O3.N=some (.cells [.str yn,.str yv])) (dd) (fun X=>⟨(π _ _ hab).trans fM,ω jo⟩) ?_;intro X;refine ζ (m:=.sl (L.take j).length ((L.take j).flatMap bm) t) 0 (fun _ h=>h.1) (fun _ h=>h) ?_ ?_
 ·exact fU @cY
 simp only[ak];refine ae.ar 1 ?_;refine ab @cY ?_;refine Ω (m:=.str yn) 2 ?_ ?_
 ·rintro O2 ⟨j0,j1,j2⟩;exact dX @cY @j2
 simp only[ak];refine Ω (m:=.ptr tb 0) 3 ?_ ?_
 ·rintro O2 ⟨j0,j1,j2⟩;exact dX @cY @j1
 simp only[ak];refine ae.ar 4 ?_;refine ab @cY ?_;refine ae.ar 6 ?_;refine ab @cY ?_;refine Ω (m:=.str yn) 7 ?_ ?_
 ·rintro O2 ⟨j0,j1,j2⟩;exact dX @cY @j2
 simp only[ak];have mr:(O4.set bb (.obj X)).hp bb=some (.obj X)/\(O4.set bb (.obj X)).hp ba=some (.cells [.ptr tb 0])/\(O4.set bb (.obj X)).hp O3.N=some (.cells [.str yn,.str yv]):=⟨ρ _ _ _,(π _ _ hab).trans fM,ω jo⟩;have eU:(O4.set bb (.obj X)).N=O4.N:=rfl;have gM:∀i,i≠bb->(O4.set bb (.obj X)).hp i=O4.hp i:=fun i h1=>π _ _ h1
 have gJ:=mJ.o7 (k:=bb) (x:=.obj X) (by rw[dd];simp);have ak6:=wP.lt;have Sy:pS (O4.set bb (.obj X)) tb kr kd L R D cr cd tk kn:=⟨(gM _ (Ne.symm qW)).trans wP.cell,(gM _ (Ne.symm hbr)).trans wP.raw,(gM _ (Ne.symm xX)).trans wP.done,⟨by omega,by omega,by omega⟩,hne⟩;generalize O4.set bb (.obj X)=O5 at*;refine ae.op (i:=5) ?_;refine ab @cY ?_;refine⟨mr,?_⟩;have fi:O5.Ge (O5.push (.cells [.ptr tb 0,.sl 0 [] .nil])):=(VH.Ge.refl _).push _;have hw6:(O5.push (.cells [.ptr tb 0,.sl 0 [] .nil])).hp O5.N=some (.cells [.ptr tb 0,.sl 0 [] .nil]):=Ξ _ _;have mU:(O5.push (.cells [.ptr tb 0,.sl 0 [] .nil])).N=O5.N+1:=rfl;generalize O5.push (.cells [.ptr tb 0,.sl 0 [] .nil])=O6 at*;have yd:=Sy.ge fi;have mH:=gJ.ge fi;have amG:=yd.lt;refine ae.call (i:=8) (Yp yn yv yd hw6 (by omega) hRj dF hvj ib) ?_;rintro _ O7 ⟨rfl,⟨kn',HZ⟩,uY,wM⟩;simp only[ak];have UM:∀i,i<O5.N->i≠tb->i≠kd->O7.hp i=O5.hp i:=fun i h1 h2 h3=>(wM i (by omega) h2 h3 (by omega)).trans (fi.hp i h1)
 have yH:O7.hp bb=some (.obj X)/\O7.hp ba=some (.cells [.ptr tb 0])/\O7.hp O3.N=some (.cells [.str yn,.str yv]):=⟨(UM _ (by omega) qW xX).trans mr.1,(UM _ (by omega) agW XQ).trans mr.2.1,(UM _ (by omega) (by omega) (by omega)).trans mr.2.2⟩;refine⟨yH,?_⟩;have kD:App O7 O.N 2 t:=mH.mv uY fun i h1 e=>(wM i h1 (fun e2=>by subst e2;rw[yd.cell]at e;cases e) (fun e2=>by subst e2;rw[yd.done]at e;cases e) (fun e2=>by subst e2;rw[hw6]at e;cases e)).trans e
 refine ae.ar 9 ?_;refine ab @cY ?_;refine ae.op (i:=10) ?_;refine ab @cY ?_;refine⟨yH,?_⟩;have cf:=aR (tk:=t) (tk':=.full) (B:=O.N) (n:=(L.take j).length) (k:=1) (cs:=(L.take j).flatMap bm) (ds:=[.str yn,.str yv]) KG C_.1.1 (O:=O7) kD (aV fK _) rfl rfl (by decide) (by decide) (by omega) (by simp only[maxLen];omega);refine ae.op (i:=11) ?_;rw[dj];refine ao @cY @cf ?_;have lz:∀i,i<O7.N->O7.hp i≠some .tok->(O7.after t).hp i=O7.hp i:=fun i h1 h2=>App.off kD h1 h2
 refine⟨⟨(lz _ (by omega) (by rw[yH.1];simp)).trans yH.1,(lz _ (by omega) (by rw[yH.2.1];simp)).trans yH.2.1,(lz _ (by omega) (by rw[yH.2.2];simp)).trans yH.2.2⟩,?_⟩;refine ae.kf [(12,.one)] ?_;refine ab @cY ?_;refine VC.gen ?_;intro O8 e8;have so:=b_.after kD;have GB:=so.N;have wO:∀i,i≠bb->O8.hp i=(O7.after t).hp i:=fun i h1=>by rw[e8,π _ _ h1,π _ _ h1]
 have t_:O8.hp bb=some (.cells [.sl ((L.take j).length+1) ((L.take j).flatMap bm++[.str yn,.str yv]) (.own O7.N 2)]):=by rw[e8];exact ρ _ _ _
 have DN:O8.N=(O7.after t).N:=by rw[e8];rfl
 clear e8;have ach:=HZ.lt;have hT8:pS O8 tb kr kd L R (D++[(yn,yv,cd)]) cr (cd+1) tk kn':=⟨(wO _ (Ne.symm qW)).trans ((lz _ ach.1 (by rw[HZ.cell];simp)).trans HZ.cell),(wO _ (Ne.symm hbr)).trans ((lz _ ach.2.1 (by rw[HZ.raw];simp)).trans HZ.raw),(wO _ (Ne.symm xX)).trans ((lz _ ach.2.2 (by rw[HZ.done];simp)).trans HZ.done),⟨by omega,by omega,by omega⟩,hne⟩;have Dg:App O8 O.N 2 (.own O7.N 2):=(App.after (tk:=t) (B:=O.N) (sz:=2) (by omega:O.N<=O7.N)).mv (by omega) fun i hi e=>(wO i (fun e2=>by subst e2;have e3:=lz i (by omega) (by rw[yH.1];simp);rw[e3,yH.1]at e;cases e)).trans e
 have p6:∀i,i<O.N->i≠tb->i≠kd->i≠bb->O8.hp i=O.hp i:=fun i h1 h2 h3 h4=>by
  rw[wO i h4,so.hp i (by omega) (fun e=>by have:=(App.nD kD e).1;omega),UM i (by omega) h2 h3,gM i h4,aY.hp i (by omega)];exact By i h1 h2 h3 h4
 refine ο @cY @cI ?_;refine az.N (j+1) ⟨aM,by omega,p6,D++[(yn,yv,cd)],cd+1,kn',.own O7.N 2,hT8,fun p hp=>?_,?_,Dg⟩
 ·rw[dh];rcases ahP.1 hp with hp | hp
  ·obtain⟨x,hx,e⟩:=hD p hp;exact⟨x,List.mem_append_left _ hx,e⟩
  ·rw[Zj.1 hp];exact⟨(yn,yv),am_ _ (Zj.2 rfl),rfl⟩
 ·rw[dh,ajt,Qm];simpa[bm]using t_
theorem afw {O:VH} {tb kr kd:Nat} {L:List (Bs×Bs)} {R:vf} {cr:Nat} {tk:Tok} (h:pS O tb kr kd L R [] cr 0 tk 0) (hn:L.length<=10000) (hR:∀x∈L,yc x.1 R=some x.2) (hL:L.Pairwise fun x y=>x.1≠y.1) (hv:∀x∈L,sm x.2/\x.2.length<=4096):
  VF Tryz.prog 138 [.ptr tb 0] O (aD fun m O'=>(∃t,m= .tuple [.sl L.length (L.flatMap bm) t,mi 0,.str []])/\O.N<=O'.N/\∀i,i<O.N->i≠tb->i≠kd->O'.hp i=O.hp i):=by
 have eh:=h.lt;refine υ 17 [.cell 2 84,.tmp 3,.tmp 4] Tryz.func138 ?_;refine κ @cY ?_;refine VC.gen ?_;intro O1 e1;obtain⟨aI,cW,cz,cD⟩:=hY _ _ e1;clear e1;refine ξ @cY @cz ?_;refine κ @cY ?_;refine ah.rt (Pp (O:=O1) (g:=166) (xs:=[.ptr O.N 0,.ptr (O.N+1) 0]) (Φ :=fun A B=>(∃t,B.hp (O.N+1)=some (.cells [.sl L.length (L.flatMap bm) t]))/\A.N<=B.N/\∀i,i<A.N->i≠tb->i≠kd->i≠O.N+1->B.hp i=A.hp i) (by kernel_rfl) (fun O2 aB=>afv (aB.at cz) (aB.at cD) (by have:=aB.N;omega) (by have:=aB.N;omega) (h.ge (aI.trans aB)) hn hR hL hv) (fun A B hA hB=>⟨hB.2.1,fun i h1 h2=>hB.2.2 i h2 (by omega) (by omega) (by omega)⟩)) ?_;rintro _ O3 ⟨rfl,A,B,so,⟨⟨t,ot⟩,Cr,hB3⟩,gy,By⟩;have cB:=(By _ (by omega)).trans ot;refine ab @cY ?_;refine κ @cY ?_;refine ξ @cY @cB ?_;refine ν @cY ?_;have GB:=so.N;refine⟨⟨t,rfl⟩,by show O.N<=O3.N;omega,fun i h1 h2 h3=>?_⟩;rw[π _ _ (by omega),By i (by omega),hB3 i (by omega) h2 h3 (by omega),so.hp i (by omega),aI.hp i h1]
set_option linter.defProp false in
def pf:=zP pK<|zP akm<|zP akl<|zP T46<|zP T44 T87
def wQ (r:Bool×Bs×List Bs) (tk:Tok):List MV:=[mb r.1,.str r.2.1,.sl r.2.2.length (r.2.2.flatMap fun _=>[]) tk]
def Lj (s:Bs):Bool:=trimB s==s&&(s.headD 0 != 91&&(s.headD 0 != 40&&vY s))
def rS (s:Bs):(Bool×Bs×List Bs)×Int:=if Lj s then((false,s,[]),0)else((true,[],[]),21)
theorem aci {s:Bs} (h:rS s=((false,s,[]),0)):Lj s=true:=by
 unfold rS at h;cases e:Lj s
 ·rw[e]at h;simp at h
 ·rfl
theorem afx (v:Bs) (tk:Tok) (O:VH) (hv:v.length<=maxLen):VF Tryz.prog 180 [.agg [.v (.bool false),.str v,.sl 0 [] tk]] O (aD fun m O'=>m=mb (vY v)/\O.Ge O'):=by
 refine υ 76 [.tmp 2] Tryz.func180 ?_;refine κ @pf ?_;refine VC.bx ?_;rintro O1 ⟨aI,eP,cW⟩;refine ξ @pf @eP ?_;refine ah.rt (Ry v O1 hv) ?_;rintro _ O2 ⟨rfl,aB⟩;refine ab @pf ?_;exact aI.trans aB
theorem afy {O:VH} {a b:Nat} {K:VH->Prop} (h:K O):gQ Tryz.prog 174 [.ptr a 0,.ptr b 0] none O K:=by
 refine gQ.rec (d:=5) Tryz.func174 (Nat.lt_of_lt_of_eq (by decide:5<12) rfl) ?_;show WC _ _ ⟨12,0⟩ _ _ _ _ _;simp only[cK,ajm,Nat.reduceAdd,AJ];refine ao @pf @wi ?_;refine VL.pure (by simp) (fun _=>.inl rfl) rfl rfl (i_.Fw (bb:=true) Tryz.underlying20 rfl (.inl ⟨rfl,rfl⟩)) ?_;refine WL.sound aa ?_;refine ao @pf @wi ?_;exact h
theorem acj {O:VH} {b:Nat} {s:Bs} (hk:O.hp b=some (.cells [.str s])):VF Tryz.prog 176 [.ptr b 0] O (aD fun m O'=>m=gj (s.headD 0)/\O'=O):=by
 refine Δ 13 [.tmp 2] Tryz.func176 ?_;cases s with
 | nil=>
   refine aG @pf @hk (show(([]:List UInt8)==[])=true from rfl) ?_;rfl
 | cons c s=>
   refine aG @pf @hk (show((c::s)==[])=false from rfl) ?_;rfl
theorem ack (s:Bs) (O:VH) (hs:s.length<=10000) (hp:rS s=((false,s,[]),0)):VF Tryz.prog 143 [.str s] O (aD fun m O'=>∃tk,m= .tuple [.agg (wQ (rS s).1 tk),mi (rS s).2]/\O.Ge O'):=by
 have hsf:=aci hp;rw[hp];unfold Lj at hsf;simp only[Bool.and_eq_true,beq_iff_eq,bne_iff_ne,ne_eq]at hsf;obtain⟨h1,h2,h3,h4⟩:=hsf;have Lk:=KN s;rw[h1]at Lk;have tH:s.length<=maxLen:=ajn hs (by decide);have hm:=fun O' tk=>afx s tk O' tH
 rw[h4]at hm;have hc:=(s.headD 0).toNat_lt;have b1:((s.headD 0).toNat:Int)≠91:=fun e=>h2 (by rw[<-UInt8.toNat_inj];show _=91;omega)
 have b2:((s.headD 0).toNat:Int)≠40:=fun e=>h3 (by rw[<-UInt8.toNat_inj];show _=40;omega)
 have c1:((((s.headD 0).toNat:Int)) != 91)=true:=by rw[bne_iff_ne];exact b1
 have c2:((((s.headD 0).toNat:Int)) != 40)=true:=by rw[bne_iff_ne];exact b2
 simp only[wQ,aq,bw,Qn,ahL];refine VF.deferred (lo:=4) (k:=54) (rs:=[.cell 2 46,.cell 3 87]) Tryz.func143 (Enters.sH (by kernel_rfl)) ?_;simp only[cK,ajm,Nat.reduceAdd];refine ab @pf ?_;refine⟨_,rfl,fun D=>?_⟩;refine VC.gen ?_;intro O1 e1;obtain⟨aI,cW,cz,cD⟩:=hY _ _ e1;clear e1;refine ξ @pf @wd ?_;refine ah.rt (Lk O1 tH) ?_;rintro _ O2 ⟨rfl,e2⟩;rw[e2];clear e2 O2;refine ao @pf @wd ?_;refine VC.bx ?_;rintro O2 ⟨aB,jb,eZ⟩;have fj:=aB.at cz;have cJ:=aB.at cD;refine ξ @pf @wd ?_;refine ah.rt (acj jb) ?_;rintro _ O3 ⟨rfl,e3⟩;rw[e3];clear e3 O3;refine kw7 @pf @wd @aK @c1 @c2 @jb @fj ?_;refine VC.gen ?_;intro O4 e4;have fM:O4.hp O.N=some (.cells [.v (.bool false),.str s,.sl 0 [] .nil]):=by rw[e4];exact ρ _ _ _
 have dd:O4.hp (O.N+1)=some (.cells [.v (.int .i64 0)]):=by rw[e4,π _ _ (by omega)];exact cJ
 have aY:O.Ge O4:=by rw[e4];exact(aI.trans aB).set (Vq _) _
 have gO:O.N+1<O4.N:=by rw[e4];show _<O2.N;omega
 clear e4;refine θ (aG @pf @wd @fM ?_);refine ah.rt (hm O4 .nil) ?_;rintro _ O5 ⟨rfl,bD⟩;have dS:=bD.at fM;have du:=bD.at dd;refine aG @pf @wd @dS ?_;refine θ (cR @pf @wd @dS @du ?_);refine ο @pf @wd ?_;refine afy ?_;refine ao @pf @wd ?_;exact⟨.nil,rfl,((aY.trans bD).set (Vq _) _).set (ajp _) _⟩
set_option linter.defProp false in
def eM:=zP cY<|zP agq<|zP T95<|zP ake<|zP akd<|zP agp<|zP T46<|zP T44<|zP B7 T87
def nmG:Bs:=[112,114,111,106,101,99,116,46,103,114,111,117,112,73,100]
def nmA:Bs:=[112,114,111,106,101,99,116,46,97,114,116,105,102,97,99,116,73,100]
def nmV:Bs:=[112,114,111,106,101,99,116,46,118,101,114,115,105,111,110]
def iJ (p:Pm):List (Bs×Bs):=[(nmG,p.g),(nmA,p.a),(nmV,p.v)]
theorem wR (p:Pm):(iJ p).Pairwise fun x y=>x.1≠y.1:=by
 simp only[iJ,List.pairwise_cons,ajv,ani,or_false,forall_eq_or_imp,forall_eq];exact⟨⟨by decide,by decide⟩,by decide,by simp,by simp⟩
theorem Pq (p:Pm) (O:VH) (hh:p.hp=false) (hp:p.props=[]):VF Tryz.prog 133 [.agg (gU p)] O (aD fun m O'=>(∃t,m= .sl 3 ((iJ p).flatMap bm) t)/\O.Ge O'):=by
 have hne:=wR p;have hov:=fun(O':VH) (tk tM:Tok)=>UJ [] (iJ p) tk tM O' (by simp[iJ]) (by simp) hne
 obtain⟨b,⟨pg,pa,pv⟩,pG,pA,pV,pk,P,M,D⟩:=p;dsimp only at hh hp;subst hh;subst hp;simp only[iJ,nmG,nmA,nmV,Qn,ahL,Zk,adY,ajm,ane,List.append_nil,bm,adW]at hov ⊢;simp only[gU,Qn,ahL,bw];refine υ 35 [.tmp 2] Tryz.func133 ?_;refine κ @eM ?_;refine VC.bx ?_;rintro O1 ⟨aI,eP,cW⟩;refine ξ @eM @eP ?_;refine ah.rt (hov _ _ _) ?_;rintro _ O2 ⟨⟨t,rfl⟩,aB⟩;have jb:=aB.at eP;refine ab @eM ?_;refine ο @eM @jb ?_;exact⟨⟨t,rfl⟩,aI.trans aB⟩
theorem afz (k:Nat) (O:VH):VF Tryz.prog 38 [.ptr k 0] O (aD fun m O'=>m= .ptr (O.N+1) 0/\O.Ge O'/\O'.hp O.N=some (.map [] 0)/\O'.hp (O.N+1)=some (.cells [.ptr k 0,.map O.N])/\O'.N=O.N+2):=by
 refine υ 7 [.tmp 2] Tryz.func38 ?_;have k8:Fp (kU [(0,1),(1,1)]) [.v (.pointer none),.v (.map none)] (.ptr k 0) [(1,.map O.N)] (some (0,1))=some [.ptr k 0,.map O.N]:=rfl;refine κ @eM ?_;refine ο @eM @k8 ?_;obtain⟨hg,hn,h1,h2⟩:=hY (O:=O) (.map [] 0) (.cells [.ptr k 0,.map O.N]) rfl;exact hg
def iq (s:Bs):Prop:=sm s/\s.length<=4096
def sZ (tb bb:Nat) (g:Gv) (p:Pm) (tw:Tok):List MV:=[.ptr tb 0,.ptr bb 0]++bZ g++gU p++[.sl 1 (bZ g) tw]
theorem Ll {O:VH} {wb tb bb:Nat} {g:Gv} {p:Pm} {tw:Tok} (hw:O.hp wb=some (.cells (sZ tb bb g p tw))) (s w:Bs) (hs:iq s):VF Tryz.prog 136 [.ptr wb 0,.str s,.str w] O (aD fun m O'=>m= .str s/\O.Ge O'):=by
 obtain⟨g1,g2,g3⟩:=g;obtain⟨b,⟨pg,pa,pv⟩,pG,pA,pV,pk,P,M,D⟩:=p;simp only[sZ,bZ,gU,adW,Zk]at hw;refine υ 27 [.tmp 6] Tryz.func136 ?_;refine κ @eM ?_;refine ξ @eM @hw ?_;refine ah.rt (Yq tb s O hs.1 hs.2) ?_;rintro _ O2 ⟨rfl,hg⟩;refine ν @eM ?_;exact hg
theorem Cz {O:VH} {wb tb bb:Nat} {g:Gv} {p:Pm} {tw:Tok} (hw:O.hp wb=some (.cells (sZ tb bb g p tw))) (s w:Bs) (hs:iq s):VF Tryz.prog 135 [.ptr wb 0,.str w,.str s,.str s] O (aD fun _ O'=>O.Ge O'):=by
 refine υ 17 [] Tryz.func135 ?_;refine κ @eM ?_;refine ah.rt (Ll hw s w hs) ?_;rintro _ O2 ⟨rfl,hg⟩;have hb:(!s==s)=false:=by simp
 refine ο @eM @hb ?_;exact hg
theorem UN {O:VH} {wb tb bb:Nat} {g:Gv} {p:Pm} {tw:Tok} (hw:O.hp wb=some (.cells (sZ tb bb g p tw))) (s w:Bs) (e:Bool) (hs:iq s) (hi:fw s=true\/e=true/\s=[]):VF Tryz.prog 202 [.ptr wb 0,.str s,.str w,mb e] O (aD fun m O'=>m= .str s/\O.Ge O'):=by
 have tH:s.length<=maxLen:=ajn hs.2 (by decide);refine υ 29 [.tmp 8] Tryz.func202 ?_;refine κ @eM ?_;refine κ @eM ?_;refine ah.rt (Ll hw s w hs) ?_;rintro _ O2 ⟨rfl,hg⟩;refine ab @eM ?_;refine κ @eM ?_;refine ah.rt (uc s O2 tH) ?_;rintro _ O3 ⟨rfl,aH⟩;have hgg:=hg.trans aH;rcases hi with hi | ⟨rfl,rfl⟩
 ·refine ao @eM @hi ?_;refine ν @eM ?_;exact hgg
 ·rcases hb:fw []with _ | _
  ·refine ao @eM @hb ?_;refine ν @eM ?_;exact hgg
  ·refine ao @eM @hb ?_;refine ν @eM ?_;exact hgg
theorem Pr (wb:Nat) (O:VH) (v w:Bs) (hv:v.length<=10000) (hp:rS v=((false,v,[]),0)):VF Tryz.prog 173 [.ptr wb 0,.str v,.str w] O (aD fun m O'=>m= .agg (wQ (false,v,[]) .au)/\O.Ge O'):=by
 refine VF.fg ?_;have DZ:=fun O'=>ack v O' hv hp
 rw[hp]at DZ;simp only[wQ,Qn,ahL,bw,aq]at DZ ⊢;refine υ 22 [.cell 6 46] Tryz.func173 ?_;refine κ @eM ?_;refine VC.bx ?_;rintro O1 ⟨aI,eP,cW⟩;refine κ @eM ?_;refine ah.rt (DZ _) ?_;rintro _ O2 ⟨tk,rfl,aB⟩;have jb:=aB.at eP;refine ab @eM ?_;refine VC.al ?_;rintro O3 ⟨aH,lS,gy⟩;have acm:=(aH.hp _ (by have:=aB.N;omega)).trans jb;refine ι (aG @eM @lS @acm ?_);exact((aI.trans aB).trans aH).set (by omega) _
theorem SA (n:Nat) (O:VH) (hn:n<=1000000000):VF Tryz.prog 168 [mi n] O (aD fun m O'=>m= .str (me n)/\O'=O):=by
 have uZ:=sN n;refine Δ 17 [.tmp 2] Tryz.func168 ?_;refine ab @eM ?_;refine WC.jm [0,3] [] (fun x:Nat×Bs=>[mi x.1,.str x.2]) (fun x O'=>O'=O/\me n=me x.1++x.2/\x.1<=n) (fun x=>x.1) ((n,[])) ?_ ?_
 ·exact⟨rfl,by simp,Vq _⟩
 rintro⟨k,s⟩ O2 ⟨eO,hk,zc⟩;dsimp only at hk zc ⊢;rw[eO];clear eO O2
 rcases Nat.eq_zero_or_pos k with rfl | hp
 ·have h0:me 0=[]:=rfl;rw[h0,Zk]at hk;refine ab @eM ?_;exact congrArg MV.str hk.symm
 ·have hd:=NW (k % 10) (by omega);have hl:(me n).length=(me k).length+s.length:=by rw[hk,Qm]
  have hr:(k:Int).tmod 10=((k % 10:Nat):Int):=by rw[Int.tmod_eq_emod_of_nonneg (by omega)];rfl
  have hq:(k:Int).tdiv 10=((k / 10:Nat):Int):=by rw[Int.tdiv_eq_ediv_of_nonneg (by omega)];rfl
  refine cR @eM @hr @hq @hd ?_;refine az.N (k / 10,NV k++s) ⟨rfl,?_,by dsimp only;omega⟩;rw[hk,Cb hp,anf]
structure SB (d:Dp):Prop where
 g:iq d.g
 gi:fw d.g=true
 a:iq d.a
 ai:fw d.a=true
 v:iq d.v
 vn:d.v≠[]
 vp:rS d.v=((false,d.v,[]),0)
 t:iq d.t
 ti:fw d.t=true\/d.t=[]
 c:iq d.c
 ci:fw d.c=true\/d.c=[]
 x:d.x.length<=10000
def lC:Bs:=[106,97,114]
def wS (t:Bs):Bs:=if t=[]then lC else t
def dM (d:Dp):Dp:=⟨d.g,d.a,d.v,wS d.t,d.c,d.s,d.o,d.x⟩
theorem acn {O:VH} {wb tb bb:Nat} {g:Gv} {p:Pm} {tw:Tok} (hw:O.hp wb=some (.cells (sZ tb bb g p tw))) (oI:wb<O.N) (d:Dp) (w:Bs) (hd:SB d) (sC:w.length<=1000):VF Tryz.prog 169 [.ptr wb 0,.agg (aU d),.str w] O (aD fun m O'=>m= .agg (aU (dM d))/\O.Ge O'):=by
 obtain⟨XM,pJ,hda,hai,hdv,hvn,hvp,M0,Qz,hdc,GC,hdx⟩:=hd
 have Ht:iq (wS d.t)/\fw (wS d.t)=true:=by
  unfold wS;by_cases e:d.t=[]
  ·rw[if_pos e];exact⟨⟨by show Lib.index lC [36,123]<0;decide,by decide⟩,by decide⟩
  ·rw[if_neg e];exact⟨M0,Qz.resolve_right e⟩
 have htf:wS d.t=if d.t=[]then[106,97,114]else d.t:=rfl
 unfold dM;generalize wS d.t=T at*;obtain⟨dg,da,dv,dt,dc,ll,dO,dx⟩:=d;dsimp only at XM pJ hda hai hdv hvn hvp M0 Qz hdc GC hdx Ht htf ⊢;simp only[aU,aq];have Bz:=fun(O':VH) (g':O.Ge O')=>(g'.hp _ oI).trans hw
 clear hw;have HI:(dv==[])=false:=by simpa using hvn
 have ib:dv.length<=10000:=ajn hdv.2 (by decide);refine υ 55 [.cell 6 56] Tryz.func169 ?_;refine κ @eM ?_;refine VC.gen ?_;intro O1 e1;obtain⟨aI,amH,cz,cD⟩:=hY _ _ e1;have cW:O.N+2<=O1.N:=by omega
 clear e1;refine ξ @eM @cz ?_;refine ah.rt (UN (Bz _ aI) dg _ false XM (.inl pJ)) ?_;rintro _ O2' ⟨rfl,hH⟩;have agX:=hH.at cz;have agY:=hH.at cD;have ZB:=aI.trans hH;have hL2:=hH.N;refine ao @eM @agX ?_;refine VC.gen ?_;intro O2 e2;have aB:O.Ge O2:=by rw[e2];exact ZB.set (by omega) _
 have fj:O2.hp O.N=some (.cells [.str dg,.str da,.str dv,.str dt,.str dc,.v (.int .i64 ll),.v (.int .i64 dO),.sl dx.length (List.flatMap cn dx) .au]):=by rw[e2];exact ρ _ _ _
 have cJ:O2.hp (O.N+1)=some (.cells [.str [],.str [],.str [],.str [],.str [],.v (.int .i64 0),.v (.int .i64 0),.sl 0 [] .nil]):=by rw[e2];exact ω agY
 have eZ:O.N+2<=O2.N:=by rw[e2];show _<=O2'.N;omega
 clear e2 agX agY;refine ξ @eM @fj ?_;refine ah.rt (UN (Bz _ aB) da _ false hda (.inl hai)) ?_;rintro _ O3' ⟨rfl,hH⟩;have agZ:=hH.at fj;have UO:=hH.at cJ;have hK3:=aB.trans hH;have hL3:=hH.N;refine ao @eM @agZ ?_;refine VC.gen ?_;intro O3 e3;have aH:O.Ge O3:=by rw[e3];exact hK3.set (by omega) _
 have jv:O3.hp O.N=some (.cells [.str dg,.str da,.str dv,.str dt,.str dc,.v (.int .i64 ll),.v (.int .i64 dO),.sl dx.length (List.flatMap cn dx) .au]):=by rw[e3];exact ρ _ _ _
 have cB:O3.hp (O.N+1)=some (.cells [.str [],.str [],.str [],.str [],.str [],.v (.int .i64 0),.v (.int .i64 0),.sl 0 [] .nil]):=by rw[e3];exact ω UO
 have gy:O.N+2<=O3.N:=by rw[e3];show _<=O3'.N;omega
 clear e3 agZ UO;refine ξ @eM @jv ?_;refine ah.rt (Ll (Bz _ aH) dv _ hdv) ?_;rintro _ O4' ⟨rfl,hH⟩;have ag0:=hH.at jv;have ag1:=hH.at cB;have hK4:=aH.trans hH;have hL4:=hH.N;refine ao @eM @ag0 ?_;refine VC.gen ?_;intro O4 e4;have aY:O.Ge O4:=by rw[e4];exact hK4.set (by omega) _
 have fM:O4.hp O.N=some (.cells [.str dg,.str da,.str dv,.str dt,.str dc,.v (.int .i64 ll),.v (.int .i64 dO),.sl dx.length (List.flatMap cn dx) .au]):=by rw[e4];exact ρ _ _ _
 have dd:O4.hp (O.N+1)=some (.cells [.str [],.str [],.str [],.str [],.str [],.v (.int .i64 0),.v (.int .i64 0),.sl 0 [] .nil]):=by rw[e4];exact ω ag1
 have gO:O.N+2<=O4.N:=by rw[e4];show _<=O4'.N;omega
 clear e4 ag0 ag1;refine Θ [0,2,4,6] (fun _:Unit=>[.ptr wb 0,.str w,.ptr O.N 0,.ptr (O.N+1) 0]) (fun _ O'=>O4.Ge O') ?_ ?_
 ·refine ι (aG @eM @fM @HI ?_);refine ah.rt (Pr wb _ dv _ ib hvp) ?_;rintro _ O5 ⟨rfl,bD⟩;refine ab @eM ?_;exact aA.mk () bD
 rintro _ O5 bD;have dS:=bD.at fM;have du:=bD.at dd;have ag2:=aY.trans bD;have eU:=bD.N;refine Θ [0,2,4,6] (fun _:Unit=>[.ptr wb 0,.str w,.ptr O.N 0,.ptr (O.N+1) 0]) (fun _ O'=>O.Ge O'/\O.N+2<=O'.N/\O'.hp O.N=some (.cells [.str dg,.str da,.str dv,.str T,.str dc,.v (.int .i64 ll),.v (.int .i64 dO),.sl dx.length (List.flatMap cn dx) .au])/\O'.hp (O.N+1)=some (.cells [.str [],.str [],.str [],.str [],.str [],.v (.int .i64 0),.v (.int .i64 0),.sl 0 [] .nil])) ?_ ?_
 ·by_cases e:dt=[]
  ·subst e;rw[if_pos rfl]at htf;subst htf;have he0:(([]:Bs)==[])=true:=rfl;refine ι (aG @eM @dS @he0 ?_);exact aA.mk () ⟨ag2.set (by omega) _,by show _<=O5.N;omega,ρ _ _ _,ω du⟩
  ·rw[if_neg e]at htf;have he0:(dt==[])=false:=by simpa using e
   subst htf;refine ι (aG @eM @dS @he0 ?_);exact aA.mk () ⟨ag2,by omega,dS,du⟩
 rintro _ O6 ⟨fi,mU,oa,jz⟩;refine ξ @eM @oa ?_;refine ah.rt (UN (Bz _ fi) T _ false Ht.1 (.inl Ht.2)) ?_;rintro _ O7' ⟨rfl,hH⟩;have ag3:=hH.at oa;have ag4:=hH.at jz;have hK7:=fi.trans hH;have hL7:=hH.N;refine ao @eM @ag3 ?_;refine VC.gen ?_;intro O7 e7;have eV:O.Ge O7:=by rw[e7];exact hK7.set (by omega) _
 have uv:O7.hp O.N=some (.cells [.str dg,.str da,.str dv,.str T,.str dc,.v (.int .i64 ll),.v (.int .i64 dO),.sl dx.length (List.flatMap cn dx) .au]):=by rw[e7];exact ρ _ _ _
 have zD:O7.hp (O.N+1)=some (.cells [.str [],.str [],.str [],.str [],.str [],.v (.int .i64 0),.v (.int .i64 0),.sl 0 [] .nil]):=by rw[e7];exact ω ag4
 have uY:O.N+2<=O7.N:=by rw[e7];show _<=O7'.N;omega
 clear e7 ag3 ag4;refine ξ @eM @uv ?_;refine ah.rt (UN (Bz _ eV) dc _ true hdc (GC.imp id fun e=>⟨rfl,e⟩)) ?_;rintro _ O8' ⟨rfl,hH⟩;have ag5:=hH.at uv;have ag6:=hH.at zD;have hK8:=eV.trans hH;have hL8:=hH.N;refine ao @eM @ag5 ?_;refine VC.gen ?_;intro O8 e8;have fV:O.Ge O8:=by rw[e8];exact hK8.set (by omega) _
 have CA:O8.hp O.N=some (.cells [.str dg,.str da,.str dv,.str T,.str dc,.v (.int .i64 ll),.v (.int .i64 dO),.sl dx.length (List.flatMap cn dx) .au]):=by rw[e8];exact ρ _ _ _
 have t_:O8.hp (O.N+1)=some (.cells [.str [],.str [],.str [],.str [],.str [],.v (.int .i64 0),.v (.int .i64 0),.sl 0 [] .nil]):=by rw[e8];exact ω ag6
 have DN:O.N+2<=O8.N:=by rw[e8];show _<=O8'.N;omega
 clear e8 ag5 ag6;refine ι (aG @eM @CA @t_ ?_);exact fV.set (by omega) _
set_option linter.defProp false in
def mg:=zP eM<|zP FE<|zP Xj<|zP akj<|zP akk<|zP aki<|zP ND<|zP IX FD
theorem aco (f:MV) (t:Tok) (O:VH):VF Tryz.prog 204 [.sl 0 [] t,f] O (aD fun m O'=>m=mi (-1)/\O'=O):=by
 refine Δ 19 [.tmp 4] Tryz.func204 ?_;refine ab @mg ?_;refine WC.jm [8] [0,1,7] (fun x:Nat=>[mi 0]) (fun x O'=>O'=O) (fun x=>x) (0) ?_ ?_
 ·rfl
 rintro k O2 eO;rw[eO];refine ab @mg ?_;trivial
theorem Yr (d:Dp) (t:Tok) (O:VH) (hx:d.x.length<=10000):VF Tryz.prog 172 [.agg (aU d),.sl 0 [] t] O (aD fun m O'=>m= .agg (aU d)/\O.Ge O'):=by
 have hk:=fun O'=>Lc d O'
 obtain⟨dg,da,dv,dt,dc,ll,dO,dx⟩:=d;dsimp only at hx;simp only[aU,aq]at hk ⊢;generalize je ⟨dg,da,dv,dt,dc,ll,dO,dx⟩=K at hk;obtain⟨k1,k2,k3,k4⟩:=K;simp only[gR]at hk;refine υ 49 [.cell 4 56] Tryz.func172 ?_;refine κ @mg ?_;refine VC.gen ?_;intro O1 e1;obtain⟨aI,cW,cz,cD⟩:=hY _ _ e1;clear e1;refine ξ @mg @cz ?_;refine ah.rt (hk _) ?_;rintro _ O2 ⟨rfl,aB⟩;have ak7:=aI.trans aB;have fj:=aB.at cz;have cJ:=aB.at cD;have eZ:=aB.N;clear cz cD hk aI aB;refine ab @mg ?_;refine VC.al ?_;rintro O3 ⟨aH,lS,gy⟩;have ak8:=ak7.trans aH;have jv:=aH.at fj;have cB:=aH.at cJ;clear fj cJ;refine κ @mg ?_;refine ah.rt (aco _ t _) ?_;rintro _ O4 ⟨rfl,rfl⟩;refine ab @mg ?_;refine χ ?_;refine ν @mg ?_;refine ξ @mg @jv ?_;refine ah.rt (um dx .au _ (by omega)) ?_;rintro _ O4 ⟨rfl,aY⟩;have fM:=aY.at jv;have dd:=aY.at cB;refine ao @mg @fM ?_;refine ο @mg @dd ?_;exact((ak8.trans aY).set (Vq _) _).set (ajp _) _
structure SC (O:VH) (gb mb B:Nat) (L:List Dp) (M:fG) (cm:Nat) (tk:Tok):Prop where
 cell:O.hp gb=some (.cells [.sl L.length (L.flatMap aU) tk,.map mb])
 map:O.hp mb=some (.map (cP M) cm)
 ok:nT 4 M
 app:App O B 8 tk
 lt:gb<O.N/\mb<O.N
 ne:gb≠mb
theorem SC.ge {O O':VH} {gb mb B:Nat} {L:List Dp} {M:fG} {cm:Nat} {tk:Tok} (h:SC O gb mb B L M cm tk) (g:O.Ge O'):SC O' gb mb B L M cm tk:=
 ⟨(g.hp _ h.lt.1).trans h.cell,(g.hp _ h.lt.2).trans h.map,h.ok,h.app.ge g,⟨Ma h.lt.1 g.N,Ma h.lt.2 g.N⟩,h.ne⟩
theorem aiM {O:VH} {gb mb B:Nat} {L:List Dp} {M:fG} {cm:Nat} {tk:Tok} (h:SC O gb mb B L M cm tk) (d:Dp) (hd:Dn d) (hL:L.length<=10000) (hB:B<=O.N) (dF:∀p∈M,p.1≠cQ (je d)):
  VF Tryz.prog 170 [.ptr gb 0,.agg (aU d)] O (aD fun _ O'=>(∃tk',SC O' gb mb B (L++[d]) (M++[(cQ (je d),.v (.bool true),cm)]) (cm+1) tk'/\(∀i,Tok.id tk'=some i->O.N<=i))/\O.N<=O'.N/\∀i,i<O.N->i≠gb->i≠mb->Tok.id tk≠some i->O'.hp i=O.hp i):=by
 have DY:=fun O'=>Lc d O'
 have F0:=Pe hd;have hkm:(gR (je d))=(cQ (je d)).map .str:=rfl;have hud:c7 (aU d)=aU d:=by simpa using lO [d]
 have hla:=xy dF
 have u_:M.any (·.1==cQ (je d))=false:=by
  rw[am8];intro p hp hpe;exact dF p hp (eq_of_beq hpe)
 have hgm:∃es:Dp,es=d:=⟨_,rfl⟩
 generalize hK:je d=K at*;obtain⟨k1,k2,k3,k4⟩:=K;obtain⟨dg,da,dv,dt,dc,ll,dO,dx⟩:=d;simp only[aU,aq,gR]at DY hud ⊢;refine υ 29 [] Tryz.func170 ?_;refine κ @mg ?_;refine VC.bx ?_;rintro O1 ⟨aI,eP,cW⟩;refine ξ @mg @eP ?_;refine ah.rt (DY _) ?_;rintro _ O2 ⟨rfl,aB⟩;refine ab @mg ?_;refine VC.al ?_;rintro O3 ⟨aH,lS,gy⟩;have ew:=(aI.trans aB).trans aH;have ak9:=(aB.trans aH).at eP;have h3:=h.ge ew;have fy:=h3.cell;refine χ ?_;refine WC.bP (.held []) [(0,.rd),(1,.rd),(2,.rd),(3,.rd),(4,.rd),(5,.rd),(6,.rd)] ?_;refine aG @mg @fy @lS ?_;refine VL.hold (.inr rfl) rfl rfl (δ oL aa (l:=cQ ⟨k1,k2,k3,k4⟩) (te:=⟨_,1,1,[.v (.bool false)]⟩) Tryz.underlying309 T4 rfl rfl h3.map h3.ok rfl rfl F0) (WL.sound aa ?_);rw[hla];refine ab @mg ?_;refine VC.Kb rfl ?_;refine χ ?_;refine WC.bP (.held [5]) [(0,.rd),(1,.rd),(2,.rd),(3,.rd),(4,.rd),(5,.one)] ?_;refine aG @mg @fy @lS ?_;refine VL.oE rfl rfl (oD.ja oL (l:=cQ ⟨k1,k2,k3,k4⟩) (b:=mb) (ck:=cm) (M:=M) Tryz.underlying309 rfl h3.map h3.ok rfl rfl F0 rfl) (fun brk hb i hi=>?_) (WL.sound aa ?_)
 ·cases hb
  rcases i with _ | _ | _ | _ | _ | _ | i<;>first
   | rfl
   | (exfalso;revert hi;simp)
 have kZ:=qz (y:=.v (.bool true)) (ck:=cm) h3.ok (l:=cQ ⟨k1,k2,k3,k4⟩) rfl F0;unfold ja at kZ;unfold ja KB;rw[u_]at kZ ⊢;have hgb:=h3.ne;have n8:=h3.lt;refine ab @mg ?_;refine VC.gen ?_;intro O4 e4;have gO:O4.N=O3.N:=by rw[e4];rfl
 have sk:∀i,i≠mb->O4.hp i=O3.hp i:=fun i h1=>by rw[e4,π _ _ h1]
 have Sw:O4.hp mb=some (.map (cP (M++[(cQ ⟨k1,k2,k3,k4⟩,MV.v (.bool true),cm)])) (cm+1)):=by rw[e4];exact ρ _ _ _
 clear e4;have fR:=(sk gb hgb).trans fy;have Bj:=(sk O.N (fun e=>by subst e;have:=h.lt;omega)).trans ak9;have mJ:App O4 B 8 tk:=h3.app.mv (by omega) fun i hi e=>(sk i (fun e2=>by subst e2;rw[h3.map]at e;cases e)).trans e
 have ak_:=aR (tk:=tk) (tk':=.full) (n:=L.length) (k:=1) (cs:=L.flatMap aU) (ds:=[.str dg,.str da,.str dv,.str dt,.str dc,.v (.int .i64 ll),.v (.int .i64 dO),.sl dx.length (dx.flatMap cn) .au]) FE B7.1.1 mJ (aV gT L) rfl rfl (by decide) (by decide) (by omega) (by simp only[maxLen];omega);have lz:∀i,i<O4.N->O4.hp i≠some .tok->(O4.after tk).hp i=O4.hp i:=fun i h1 h2=>App.off mJ h1 h2
 have Lm:=(lz gb (by omega) (by rw[fR];simp)).trans fR;have hmA:=(lz mb (by omega) (by rw[Sw];simp)).trans Sw;refine WC.bP (.held [10]) [(0,.rd),(1,.rd),(2,.rd),(3,.rd),(4,.rd),(5,.rd),(6,.one),(7,.one),(8,.one),(9,.rd),(10,.one)] ?_;refine aG @mg @fR @Bj ?_;refine VL.app ak_ ?_;refine ao @mg @Lm ?_;have Ln:=b_.after mJ;refine⟨⟨.own O4.N 8,⟨?_,?_,kZ,?_,?_,hgb⟩,fun i hi=>by injection hi with hi;have:=ew.N;omega⟩,?_,?_⟩
 ·rw[Qm,ajt];exact ρ _ _ _
 ·exact(π _ _ (Ne.symm hgb)).trans hmA
 ·exact(App.after (by have:=ew.N;omega)).o7 (by rw[Lm];simp)
 ·have:=Ln.N;exact⟨by show _<(O4.after tk).N;omega,by show _<(O4.after tk).N;omega⟩
 ·have:=Ln.N;have:=ew.N;show _<=(O4.after tk).N;omega
 ·intro i h1 h2 h3 h4;have:=ew.N;rw[π _ _ h2,Ln.hp i (by omega) h4,sk i h3,ew.hp i h1]
set_option linter.defProp false in
def dV:=zP mg<|zP T3<|zP yz T9
theorem SD {O:VH} {wb tb bb:Nat} {g:Gv} {p:Pm} {tw:Tok} (hw:O.hp wb=some (.cells (sZ tb bb g p tw))) (oI:wb<O.N) (hp:p.eT=[]):VF Tryz.prog 139 [.ptr wb 0] O (aD fun m O'=>m= .sl 0 [] .nil/\O.Ge O'):=by
 obtain⟨g1,g2,g3⟩:=g;obtain⟨b,⟨pg,pa,pv⟩,pG,pA,pV,pk,P,M,D⟩:=p;dsimp only at hp;subst hp;simp only[sZ,bZ,gU,adW,Zk,Qn,ahL]at hw;have k8:Fp (kU [(0,1),(1,1)]) [.sl 0 [] .nil,.v (.map none)] (.map O.N) [] (some (1,1))=some [.sl 0 [] .nil,.map O.N]:=rfl;refine υ 145 [.tmp 2] Tryz.func139 ?_;refine κ @dV ?_;refine ξ @dV @k8 ?_;refine VC.gen ?_;intro O1 e1;obtain⟨aI,cW,Bx,eS⟩:=hY _ _ e1;clear e1;have Kw:=(aI.hp _ oI).trans hw;refine κ @dV ?_;refine Θ [3,4] (fun _:Unit=>[.ptr (O.N+1) 0,.sl 0 [] .nil]) (fun _ O'=>O'=O1) ?_ ?_
 ·refine ξ @dV @Kw ?_;refine τ ?_;refine Γ [4,23] [0,3,21,22] (fun _:Nat=>[.sl 0 [] .nil,mi 0]) (fun _ O'=>O'=O1) (fun x=>x) (0) ?_ ?_
  ·rfl
  rintro j O3 e3;rw[e3];refine ν @dV ?_;exact aA.mk () rfl
 rintro _ O3 e3;rw[e3];refine Θ [3] (fun _:Unit=>[.ptr (O.N+1) 0]) (fun _ O'=>O'=O1) ?_ ?_
 ·refine κ @dV ?_;refine τ ?_;refine Γ [84] [3,83] (fun _:Nat=>[mi 0]) (fun _ O'=>O'=O1) (fun x=>x) (0) ?_ ?_
  ·rfl
  rintro j O3 e3;rw[e3];refine ν @dV ?_;exact aA.mk () rfl
 rintro _ O3 e3;rw[e3];refine ο @dV @eS ?_;exact aI
theorem App.at {O O':VH} {B sz:Nat} {tk:Tok} (h:App O B sz tk) (hn:O.N<=O'.N) (hi:∀i,Tok.id tk=some i->O'.hp i=O.hp i):App O' B sz tk:=by
 cases tk with
 | own t k=>exact⟨h.1,(hi t rfl).trans h.2.1,h.2.2.1,Ma h.2.2.2 hn⟩
 | nil=>trivial
 | full=>trivial
 | au=>exact h.elim
theorem App.tok {O:VH} {B sz i:Nat} {tk:Tok} (h:App O B sz tk) (e:Tok.id tk=some i):O.hp i=some .tok:=by
 cases tk with
 | own t k=>injection e with e;subst e;exact h.2.1
 | nil=>cases e
 | full=>cases e
 | au=>cases e
structure pU where
 k:Ky
 v:Bs
 s:Int
 o:Bool
 x:List gx
def eA (n:pU):List MV:=gR n.k++wQ (false,n.v,[]) .au++[mi n.s,mb n.o,.sl n.x.length (n.x.flatMap cn) .au]
theorem oM (x:pU):(eA x).length=10:=rfl
theorem xM (L:List pU):c7 (L.flatMap eA)=L.flatMap eA:=j9 (fun x=>by simp only[eA,gR,wQ,adW,Zk,aq,bw,wu,nW,Qn,ahL]) L
theorem SE (F:pU):c7 (eA F)=eA F:=by simpa using xM [F]
def fN (d:Dp):pU:=⟨je (dM d),d.v,max d.s 1,d.o==1,d.x⟩
theorem SB.ok {d:Dp} (h:SB d):Dn (dM d):=by
 have h1:=h.g.2;have h2:=h.a.2;have h3:=h.v.2;have h4:=h.t.2;have h5:=h.c.2;refine⟨?_,?_,?_,?_,?_,h.x⟩<;>(simp only[dM];first | omega | skip)
 unfold wS;split
 ·decide
 ·omega
set_option maxHeartbeats 1000000 in
theorem acp {O:VH} {wb tb bb:Nat} {g:Gv} {p:Pm} {tw:Tok} (hw:O.hp wb=some (.cells (sZ tb bb g p tw))) (oI:wb<O.N) (hq:∀d∈p.eK,SB d) (hL:p.eK.length<=900) (hne:p.eK.Pairwise fun x y=>je (dM x)≠je (dM y)) (t:Tok):
  VF Tryz.prog 140 [.ptr wb 0,.sl 0 [] t] O (aD fun m O'=>(∃t',m= .sl p.eK.length ((p.eK.map fN).flatMap eA) t')/\O.Ge O'):=by
 have Bh:=fun(O':VH) (g':O.Ge O') (d:Dp) (w:Bs) (hd:SB d) (sC:w.length<=1000)=>acn (O:=O') (wb:=wb) (tb:=tb) (bb:=bb) (g:=g) (p:=p) (tw:=tw) ((g'.hp _ oI).trans hw) (Ma oI g'.N) d w hd sC
 obtain⟨g1,g2,g3⟩:=g;obtain⟨b,⟨pg,pa,pv⟩,pG,pA,pV,pk,P,M,L⟩:=p;dsimp only at hq hL hne ⊢;simp only[sZ,bZ,gU,adW,Zk]at hw;have dH:=aV gT L;have k8:Fp (kU [(0,1),(1,1)]) [.sl 0 [] .nil,.v (.map none)] (.map O.N) [] (some (1,1))=some [.sl 0 [] .nil,.map O.N]:=rfl;refine υ 76 [.tmp 4] Tryz.func140 ?_;refine κ @dV ?_;refine ξ @dV @k8 ?_;refine VC.gen ?_;intro O1 e1;obtain⟨aI,cW,Bx,eS⟩:=hY _ _ e1;clear e1;have Kw:=(aI.hp _ oI).trans hw;refine κ @dV ?_;refine Θ [6] (fun x:List pU×Tok=>[.sl x.1.length (x.1.flatMap eA) x.2]) (fun x O'=>O.Ge O'/\x.1=L.map fN) ?_ ?_;rotate_left
 ·rintro⟨R,t'⟩ O9 ⟨bj,rfl⟩;dsimp only;refine ν @dV ?_;rw[ahN];exact⟨⟨t',rfl⟩,bj⟩
 refine ξ @dV @Kw ?_;refine τ ?_;refine Γ [6,20] [0,1,5,18,19] (fun x:Nat×List pU×Tok=>[.sl x.2.1.length (x.2.1.flatMap eA) x.2.2,mi x.1]) (fun x O'=>x.1<=L.length/\x.2.1=(L.take x.1).map fN/\O.Ge O'/\O.N+2<=O'.N/\App O' O.N 10 x.2.2/\∃Mj cm tk,SC O' (O.N+1) O.N O.N ((L.take x.1).map dM) Mj cm tk/\(∀q∈Mj,∃d∈L.take x.1,q.1=cQ (je (dM d)))/\∀i,Tok.id tk=some i->Tok.id x.2.2≠some i) (fun x=>L.length - x.1) ((0,[],.nil)) ?_ ?_
 ·exact⟨ahM _,rfl,aI,by omega,trivial,[],0,.nil,⟨eS,Bx,⟨by simp,by simp⟩,trivial,⟨by omega,by omega⟩,by omega⟩,by simp,fun i h=>by cases h⟩
 rintro⟨j,R,tl⟩ O2 ⟨hj,hR,aB,eZ,UP,Mj,cm,tk,hG2,hMj,Ht⟩;dsimp only at hj hR UP Ht ⊢;by_cases aM:j<L.length;rotate_left
 ·obtain rfl:j=L.length:=by omega
  rw[ahO]at hR;refine ν @dV ?_;exact aA.mk (R,tl) ⟨aB,hR⟩
 have Yb:R.length=j:=by rw[hR,ahN,ahK];omega
 have bG:=ct gT L j aM;have dh:=dz L j aM;have Ps:=hq L[j] (ajs aM)
 have dF:∀q∈Mj,q.1≠cQ (je (dM L[j])):=fun q SF=>by
  obtain⟨x,hx,e⟩:=hMj q SF;obtain⟨i,hi,e2⟩:=ahJ.1 hx;rw[ahK]at hi;rw[am9]at e2;have:=(ajq.1 hne) i j (by omega) aM (by omega);rw[e2]at this;intro e3;rw[e]at e3;apply this;revert e3;generalize je (dM x)=K1;generalize je (dM L[j])=K2;obtain⟨a1,a2,a3,a4⟩:=K1;obtain⟨b1,b2,b3,b4⟩:=K2;simp[cQ]
 have hRn:(L.take (j+1)).map fN=(L.take j).map fN++[fN L[j]]:=by rw[dh,am5];rfl
 have nc:∃x∈L.take (j+1),cQ (je (dM L[j]))=cQ (je (dM x)):=⟨L[j],by rw[dh];exact am_ _ (Zj.2 rfl),rfl⟩
 have hold:∀q∈Mj,∃x∈L.take (j+1),q.1=cQ (je (dM x)):=fun q h=>by
  obtain⟨x,hx,e⟩:=hMj q h;exact⟨x,by rw[dh];exact List.mem_append_left _ hx,e⟩
 generalize L[j]=d at*;have ala:=Ps.ok;have DY:=fun O'=>Lc (dM d) O'
 have D4:=fun(O':VH) (tx:Tok)=>Yr (dM d) tx O' Ps.x
 have DZ:=fun(O':VH) (w:Bs)=>Pr wb O' d.v w (ajn Ps.v.2 (by decide)) Ps.vp
 have HI:(d.v==[])=false:=by simpa using Ps.vn
 have alb:=fun O'=>SA (j+1) O' (by omega)
 have uZ:=sN (j+1);have cI:((j:Int)+1)=((j+1:Nat):Int):=by omega
 have hud:c7 (aU d)=aU d:=by simpa using lO [d]
 have ag7:=fun(O':VH) (g':O.Ge O') (w:Bs) (sC:w.length<=1000)=>Bh O' g' d w Ps sC
 clear Bh;have alc:=Ps.x;clear Ps hq;have Su:fN d=⟨je (dM d),d.v,max d.s 1,d.o==1,d.x⟩:=rfl;generalize fN d=F at Su hRn;have hrF:dM d=⟨d.g,d.a,d.v,wS d.t,d.c,d.s,d.o,d.x⟩:=rfl;have amI:c7 (aU (dM d))=aU (dM d):=by simpa using lO [dM d]
 have Lk:(L.take (j+1)).map dM=(L.take j).map dM++[dM d]:=by rw[dh,am5];rfl
 have XP:=fun(O':VH) (hG:SC O' (O.N+1) O.N O.N ((L.take j).map dM) Mj cm tk) (h2:O.N<=O'.N)=>aiM hG (dM d) ala (by rw[ahN,ahK];omega) h2 dF
 generalize dM d=D at*;obtain⟨dg,da,dv,dt,dc,ll,dO,dx⟩:=d;dsimp only at hrF Su DZ HI alc;generalize wS dt=T at hrF;subst hrF;generalize je ⟨dg,da,dv,T,dc,ll,dO,dx⟩=K at*;obtain⟨k1,k2,k3,k4⟩:=K;simp only[aU,aq,gR,wQ,bw,Qn,ahL]at bG DY D4 ag7 DZ XP;refine κ @dV ?_;refine κ @dV ?_;refine χ (τ ?_);refine ξ @dV @bG ?_;refine VC.al ?_;rintro O3 ⟨aH,lS,gy⟩;refine ξ @dV @cI ?_;refine ah.rt (alb _) ?_;rintro _ O4 ⟨rfl,e4⟩;rw[e4];clear e4 O4;refine ab @dV ?_
 have hWl:(100::101::112::101::110::100::101::110::99::121::91::(me (j+1)++[93])).length<=1000:=by
  simp only[adY,Qm,Qn];omega
 generalize (100::101::112::101::110::100::101::110::99::121::91::(me (j+1)++[93]))=W at*;refine ξ @dV @lS ?_;refine ah.rt (ag7 O3 (aB.trans aH) W hWl) ?_;rintro _ O4 ⟨rfl,aY⟩;refine ab @dV ?_;refine ah.rt (D4 _ _) ?_;rintro _ O5 ⟨rfl,bD⟩;have mD:=(aY.trans bD).at lS;have eU:=(aY.trans bD).N;refine ao @dV @mD ?_;refine VC.gen ?_;intro O6 e6;have ald:O2.Ge O6:=by rw[e6];exact((aH.trans aY).trans bD).set (Nat.le_refl _) _
 have nI:O6.hp O2.N=some (.cells [.str dg,.str da,.str dv,.str T,.str dc,.v (.int .i64 ll),.v (.int .i64 dO),.sl dx.length (dx.flatMap cn) .au]):=by rw[e6];exact ρ _ _ _
 have mU:O2.N+1<=O6.N:=by rw[e6];show _<=O5.N;omega
 clear e6 mD;refine θ (aG @dV @nI @HI ?_);refine Θ [0,1,5,6,8,10,18,19,20] (fun nb:Nat=>[.ptr wb 0,.sl 0 [] t,.ptr (O.N+1) 0,.sl R.length (R.flatMap eA) tl,.ptr O2.N 0,.ptr nb 0,.sl L.length (L.flatMap aU) .au,.v (.int .i64 L.length),.v (.int .i64 j)]) (fun nb O'=>O6.Ge O'/\O6.N<=nb/\nb<O'.N/\O'.hp nb=some (.cells (eA F))) ?_ ?_
 ·subst Su;refine VC.Bb [17] (O2.N) (fun O'=>O6.N<=O'.N/\∀i,i<O6.N->i≠O2.N->O'.hp i=O6.hp i) (nI) (fun X=>⟨Vq _,fun i _ h=>π _ _ h⟩) ?_;intro X;refine ζ (m:=.agg [.str dg,.str da,.str dv,.str T,.str dc,.v (.int .i64 ll),.v (.int .i64 dO),.sl dx.length (dx.flatMap cn) .au]) 0 (fun _ h=>h.1) (fun _ h=>h) ?_ ?_
  ·exact fU @dV
  simp only[ak];refine ae.ar 2 ?_;refine ab @dV ?_;refine ae.ar 3 ?_;refine ab @dV ?_;refine ζ (m:=.str dv) 4 (fun _ h=>h.1) (fun _ h=>h) ?_ ?_
  ·exact fU @dV
  simp only[ak];refine ae.ar 5 ?_;refine ab @dV ?_;refine ae.ar 7 ?_;refine ab @dV ?_;refine ζ (m:=.v (.int .i64 ll)) 8 (fun _ h=>h.1) (fun _ h=>h) ?_ ?_
  ·exact fU @dV
  simp only[ak];refine ae.ar 9 ?_;refine ab @dV ?_;refine ae.ar 10 ?_;refine ab @dV ?_;refine ζ (m:=.v (.int .i64 dO)) 11 (fun _ h=>h.1) (fun _ h=>h) ?_ ?_
  ·exact fU @dV
  simp only[ak];refine ae.ar 12 ?_;refine ab @dV ?_;refine ae.ar 13 ?_;refine ab @dV ?_;refine ζ (m:=.sl dx.length (dx.flatMap cn) .au) 14 (fun _ h=>h.1) (fun _ h=>h) ?_ ?_
  ·exact fU @dV
  simp only[ak];have lD:∀A B:VH,A.Ge B->(A.hp O2.N=some (.obj X)/\O6.N<=A.N/\∀i,i<O6.N->i≠O2.N->A.hp i=O6.hp i)->(B.hp O2.N=some (.obj X)/\O6.N<=B.N/\∀i,i<O6.N->i≠O2.N->B.hp i=O6.hp i):=fun A B g h=>⟨g.at h.1,ajn h.2.1 g.N,fun i h1 h2=>(g.hp i (by omega)).trans (h.2.2 i h1 h2)⟩
  have hJ8:(O6.set O2.N (.obj X)).hp O2.N=some (.obj X)/\O6.N<=(O6.set O2.N (.obj X)).N/\∀i,i<O6.N->i≠O2.N->(O6.set O2.N (.obj X)).hp i=O6.hp i:=⟨ρ _ _ _,Vq _,fun i _ h=>π _ _ h⟩
  generalize O6.set O2.N (.obj X)=O8 at*;have uX:∀A:VH,A.Ge (A.push (.cells [.str [],.str [],.str [],.str [],.v (.bool false),.str [],.sl 0 [] .nil,.v (.int .i64 0),.v (.bool false),.sl 0 [] .nil])):=fun A=>(VH.Ge.refl A).push _
  have hpn:∀A:VH,(A.push (.cells [.str [],.str [],.str [],.str [],.v (.bool false),.str [],.sl 0 [] .nil,.v (.int .i64 0),.v (.bool false),.sl 0 [] .nil])).hp A.N=some (.cells [.str [],.str [],.str [],.str [],.v (.bool false),.str [],.sl 0 [] .nil,.v (.int .i64 0),.v (.bool false),.sl 0 [] .nil]):=fun A=>Ξ _ _
  refine ae.pair (i:=1) (j:=16) ?_ ?_
  ·refine aL.j8 (DY O8) ?_;rintro _ O9 ⟨rfl,bj⟩;simp only[ak];have Pt:=lD _ _ bj hJ8;refine⟨Pt,?_⟩;refine ae.pair (i:=6) (j:=16) ?_ ?_
   ·refine aL.j8 (DZ O9 W) ?_;rintro _ gB ⟨rfl,Pu⟩;simp only[ak];have yI:=lD _ _ Pu Pt;refine⟨yI,?_⟩;refine ae.ar 15 ?_;refine ab @dV ?_;refine ae.op (i:=16) ?_;refine ab @dV ?_;have Dq:=lD _ _ (uX gB) yI;refine⟨⟨yI.1,Dq.2⟩,?_⟩;have hz:=hpn gB;have hl:=ajr gB.N;have h6:=yI.2.1;have mr:=Dq;refine ae.kf [(17,.one)] ?_;have tG:=(π (k:=O2.N) _ (.cells [.str dg,.str da,.str dv,.str T,.str dc,.v (.int .i64 ll),.v (.int .i64 dO),.sl dx.length (dx.flatMap cn) .au]) (show gB.N≠O2.N by omega)).trans hz;refine aG @dV @hz @tG ?_;refine aA.mk gB.N ⟨⟨mr.2.1,fun i h1=>?_⟩,h6,hl,ρ _ _ _⟩;rw[π _ _ (by omega)];by_cases e:i=O2.N
    ·subst e;rw[ρ];exact nI.symm
    ·rw[π _ _ e];exact mr.2.2 i h1 e
   ·refine aL.o1 ?_;refine ab @dV ?_;have yI:=lD _ _ (uX O9) Pt;refine⟨⟨Pt.1,yI.2⟩,?_⟩;refine ae.call (i:=6) (DZ _ W) ?_;rintro _ vg ⟨rfl,p7⟩;simp only[ak];have Dq:=lD _ _ p7 yI;refine⟨Dq,?_⟩;refine ae.ar 15 ?_;refine ab @dV ?_;have hz:=(p7.hp _ (ajr _)).trans (hpn O9);have hl:=Ma (ajr O9.N) p7.N;have h6:=Pt.2.1;have mr:=Dq;refine ae.kf [(17,.one)] ?_;have tG:=(π (k:=O2.N) _ (.cells [.str dg,.str da,.str dv,.str T,.str dc,.v (.int .i64 ll),.v (.int .i64 dO),.sl dx.length (dx.flatMap cn) .au]) (show O9.N≠O2.N by omega)).trans hz;refine aG @dV @hz @tG ?_;refine aA.mk O9.N ⟨⟨mr.2.1,fun i h1=>?_⟩,h6,hl,ρ _ _ _⟩;rw[π _ _ (by omega)];by_cases e:i=O2.N
    ·subst e;rw[ρ];exact nI.symm
    ·rw[π _ _ e];exact mr.2.2 i h1 e
  ·refine aL.o1 ?_;refine ab @dV ?_;have Pt:=lD _ _ (uX O8) hJ8;refine⟨⟨hJ8.1,Pt.2⟩,?_⟩;refine ae.call (i:=1) (DY _) ?_;rintro _ gB ⟨rfl,Pu⟩;simp only[ak];have yI:=lD _ _ Pu Pt;refine⟨yI,?_⟩;refine ae.call (i:=6) (DZ _ W) ?_;rintro _ vg ⟨rfl,p7⟩;simp only[ak];have Dq:=lD _ _ p7 yI;refine⟨Dq,?_⟩;refine ae.ar 15 ?_;refine ab @dV ?_;have hz:=((Pu.trans p7).hp _ (ajr _)).trans (hpn O8);have hl:=Ma (ajr O8.N) (Pu.trans p7).N;have h6:=hJ8.2.1;have mr:=Dq;refine ae.kf [(17,.one)] ?_;have tG:=(π (k:=O2.N) _ (.cells [.str dg,.str da,.str dv,.str T,.str dc,.v (.int .i64 ll),.v (.int .i64 dO),.sl dx.length (dx.flatMap cn) .au]) (show O8.N≠O2.N by omega)).trans hz;refine aG @dV @hz @tG ?_;refine aA.mk O8.N ⟨⟨mr.2.1,fun i h1=>?_⟩,h6,hl,ρ _ _ _⟩;rw[π _ _ (by omega)];by_cases e:i=O2.N
   ·subst e;rw[ρ];exact nI.symm
   ·rw[π _ _ e];exact mr.2.2 i h1 e
 rintro nb O7 ⟨eV,amJ,hnb,hx7⟩;have ale:=eV.at nI;have UQ:=ald.trans eV;have alf:=aB.trans UQ;have uY:=eV.N;simp only[eA,gR,wQ,bw,aq,Qn,ahL,adW,Zk]at hx7;refine ξ @dV @ale ?_;refine ah.rt (XP O7 (hG2.ge UQ) (by omega)) ?_;rintro _ O8 ⟨⟨tk8,D5,alg⟩,DN,wO⟩;have hc8:=D5.cell;have aiN:((L.take j).map dM++[({g:=dg,a:=da,v:=dv,t:=T,c:=dc,s:=ll,o:=dO,x:=dx}:Dp)]).length=j+1:=by rw[Qm,ahN,ahK];simp;omega
 rw[aiN,Yb.symm]at hc8;have Yi:=(wO nb hnb (by omega) (by omega) (fun e=>by have:=(App.nD hG2.app e).2;omega)).trans hx7;refine ab @dV ?_;have eh:decide ((R.length:Int)<((R.length+1:Nat):Int))=true:=by rw[decide_eq_true_iff];omega
 have kD:=UP.ge UQ;have hG7:=hG2.ge UQ;have Dg:App O8 O.N 10 tl:=kD.at DN fun i e=>wO i (kD.nD e).2 (fun e2=>by have:=kD.tok e;rw[e2,hG7.cell]at this;cases this) (fun e2=>by have:=kD.tok e;rw[e2,hG7.map]at this;cases this) (fun e2=>Ht i e2 e)
 obtain⟨mE,gV,lQ⟩:=gG (n:=R.length) (cs:=R.flatMap eA) (ds:=[.str k1,.str k2,.str k3,.str k4,.v (.bool false),.str F.v,.sl 0 [] .au,.v (.int .i64 F.s),.v (.bool F.o),.sl F.x.length (F.x.flatMap cn) .au]) (es:=eA F) IX ND.1.1 Dg (aV oM R) rfl rfl (by decide) (by omega) (by simp only[maxLen];omega) (xM R) (by subst Su;exact SE ⟨⟨k1,k2,k3,k4⟩,dv,max ll 1,dO==1,dx⟩);subst Su;refine ι (cR @dV @hc8 @Yi @eh ?_);refine η gV lQ ?_;refine ab @dV ?_;refine ο @dV @cI ?_;have Pv:=b_.after Dg
 have o5:O.Ge O8:=⟨by omega,fun i h1=>by
  rw[wO i (by omega) (by omega) (by omega) (fun e=>by have:=(App.nD hG7.app e).1;omega)];exact alf.hp i h1⟩
 have hfm:(R++[(⟨⟨k1,k2,k3,k4⟩,dv,max ll 1,dO==1,dx⟩:pU)]).flatMap eA=R.flatMap eA++eA ⟨⟨k1,k2,k3,k4⟩,dv,max ll 1,dO==1,dx⟩:=by simp only[ajt,ane,ahL,List.append_nil]
 have JX:(R++[(⟨⟨k1,k2,k3,k4⟩,dv,max ll 1,dO==1,dx⟩:pU)]).length=R.length+1:=Qm;refine az.N (j+1,R++[⟨⟨k1,k2,k3,k4⟩,dv,max ll 1,dO==1,dx⟩],.own O8.N 10) ⟨aM,?_,b_.en o5 Dg Pv,by have:=Pv.N;omega,App.after (by omega),Mj++[(cQ ⟨k1,k2,k3,k4⟩,.v (.bool true),cm)],cm+1,tk8,?_,?_,?_⟩ (hl:=(by dsimp only;rw[hfm,JX];rfl))
 ·rw[hRn,hR]
 ·dsimp only;rw[Lk];have ag8:∀i,Tok.id tl=some i->O8.hp i=some .tok:=fun i e=>Dg.tok e
  refine⟨(Pv.hp _ (by omega) (fun e=>by have:=ag8 _ e;rw[D5.cell]at this;cases this)).trans D5.cell,(Pv.hp _ (by omega) (fun e=>by have:=ag8 _ e;rw[D5.map]at this;cases this)).trans D5.map,D5.ok,D5.app.at Pv.N fun i e=>Pv.hp i (D5.app.nD e).2 (fun e2=>by have h1:=alg i e;have h2:=(kD.nD e2).2;omega),⟨by have:=Pv.N;have:=D5.lt;omega,by have:=Pv.N;have:=D5.lt;omega⟩,D5.ne⟩
 ·intro q SF;rcases ahP.1 SF with h | h
  ·exact hold q h
  ·rw[Zj]at h;subst h;exact nc
 ·intro i e e2;injection e2 with e2;have:=(D5.app.nD e).2;omega
set_option linter.defProp false in
def cZ:=zP dV<|zP iu<|zP FH<|zP IX<|zP ND<|zP T44 agr
theorem SG (L:List pU) (tk:Tok) (O:VH) (hn:L.length<=100000):VF Tryz.prog 129 [.sl L.length (L.flatMap eA) tk] O (aD fun m O'=>O.Ge O'/\GR O' 221 10 O.N m L.length (L.flatMap eA)):=by
 have dH:=aV oM L
 have iz:(L.flatMap eA).all ec=true:=by
  rw[List.all_flatMap,List.all_eq_true];intro p _;rfl
 refine Δ 8 [.tmp 2] Tryz.func129 ?_;refine ao @cZ @ns ?_;refine VL.pE (o_ Tryz.underlying213 rfl) ?_;rintro _ O1 ⟨eO,b,rfl,hb⟩;rw[eO];clear eO O1
 refine WL.sound aa ?_;cases b
 ·refine ab @cZ ?_;refine VL.grow aa (.inl rfl) (te:=⟨_,10,_,_⟩) (B:=O.N) (n':=0) (L:=[]) (dx:=.slice 221) (p:=.sl 0 [] .full) (q:=.sl L.length (L.flatMap eA) tk) (j:=L.length) (ds:=L.flatMap eA) (.inl ⟨rfl,rfl,.inr rfl⟩) (by simp[Ax,dH]) iz (by rw[IX];rfl) ND.1.1 (by rw[IX];rfl) trivial (by dsimp only;omega) (by simp only[maxLen];omega) (Vq _) rfl rfl rfl rfl ?_;intro m O' h1 h2 h3 h4;rw[ajm,Zk]at h1;refine ab @cZ ?_;exact⟨h3 rfl,h1⟩
 ·obtain⟨h0,h1⟩:=hb rfl;rw[h0,h1];refine ab @cZ ?_;exact⟨VH.Ge.refl _,.inl ⟨rfl,rfl,.inl rfl⟩⟩
theorem GD (tk:Tok) (O:VH):VF Tryz.prog 81 [.sl 0 [] tk] O (aD fun m O'=>m= .sl 0 [] .au/\O'=O):=by
 refine VF.X5 (Φ :=fun m O'=>(m= .sl 0 [] .full\/m= .sl 0 [] .nil)/\O'=O) ?_ fun m O' h=>⟨_,(by rcases h.1 with e | e<;>rw[e]<;>exact Wk.tok),rfl,h.2⟩
 refine Δ 8 [.tmp 2] Tryz.func81 ?_;refine ao @cZ @ns ?_;refine VL.pE (o_ Tryz.underlying44 rfl) ?_;rintro _ O1 ⟨eO,b,rfl,hb⟩;rw[eO];clear eO O1
 refine WL.sound aa ?_;cases b
 ·refine ab @cZ ?_;refine VL.app (m:=.sl 0 [] .full) (O':=O) (by simp[iy,T44,agr.1.1]) ?_ (ht:=aa) (hx:=rfl) (hy:=rfl);refine ab @cZ ?_;exact .inl trivial
 ·refine ab @cZ ?_;exact .inr trivial
structure Mdl where
 g:Gv
 pk:Bs
 props:List (Bs×Bs)
 Lo:List pU
def mh (m:Mdl):List MV:=bZ m.g++[.str m.pk,.sl m.props.length (m.props.flatMap bm) .au,.sl 0 [] .au,.sl m.Lo.length (m.Lo.flatMap eA) .au]
theorem afA (m:Mdl) (O:VH) (hp:m.props.length<=10000) (hn:m.Lo.length<=10000) (hx:∀n∈m.Lo,n.x.length<=10000):VF Tryz.prog 104 [.agg (mh m)] O (aD fun r O'=>r= .agg (mh m)/\O.Ge O'):=by
 refine VF.fg ?_;obtain⟨⟨g1,g2,g3⟩,pk,P,L⟩:=m;dsimp only at hp hn hx;simp only[mh,bZ,adW,Zk];have dH:=aV oM L;refine υ 70 [.cell 2 215] Tryz.func104 ?_;refine κ @cZ ?_;refine VC.gen ?_;intro O1 e1;obtain⟨aI,cW,cz,cD⟩:=hY _ _ e1;clear e1;refine χ ?_;refine VC.qw [10,11,12,13,14] (O.N) (cz) ?_;intro X;refine ae.ar 0 ?_;refine ab @cZ ?_;refine ε (m:=.sl P.length (P.flatMap bm) .au) 1 ?_ ?_
 ·exact fU @cZ
 simp only[ak];refine ae.ar 3 ?_;refine ab @cZ ?_;refine ε (m:=.sl 0 [] .au) 4 ?_ ?_
 ·exact fU @cZ
 simp only[ak];refine ae.ar 6 ?_;refine ab @cZ ?_;refine ε (m:=.sl L.length (L.flatMap eA) .au) 7 ?_ ?_
 ·exact fU @cZ
 simp only[ak];have Lf:(O1.set O.N (.obj X)).hp O.N=some (.obj X):=ρ _ _ _;have ei:∀i,i≠O.N->(O1.set O.N (.obj X)).hp i=O1.hp i:=fun i h=>π _ _ h
 have eZ:(O1.set O.N (.obj X)).N=O1.N:=rfl;generalize O1.set O.N (.obj X)=O2 at*;refine ae.call (i:=2) (Gj P .au O2 (by omega)) ?_;rintro _ O3 ⟨rfl,aH⟩;simp only[ak];refine⟨aH.at Lf,?_⟩;refine ae.ar 9 ?_;refine ab @cZ ?_;refine ae.call (i:=5) (Sa [] .au O3 (by decide)) ?_;rintro _ O4 ⟨rfl,aY⟩;simp only[ak];refine⟨(aH.trans aY).at Lf,?_⟩;refine ae.call (i:=8) (SG L .au O4 (by omega)) ?_;rintro mN O5 ⟨bD,x_⟩;simp only[ak];have Dr:=(aH.trans aY).trans bD;refine⟨Dr.at Lf,?_⟩;refine ae.nR [(10,.one),(11,.ar),(12,.one),(13,.ar),(14,.one)] ?_;simp only[Qn,ahL];have dS:=Dr.at Lf;have du:=Dr.at ((ei _ (by omega)).trans cD);have eU:=Dr.N;have gM:∀i,i<O.N->O5.hp i=O.hp i:=fun i h=>(Dr.hp i (by omega)).trans ((ei i (by omega)).trans (aI.hp i h))
 rcases x_ with⟨h0,_,hp⟩ | ⟨k,c,rfl,AD,_,c6⟩
 ·obtain rfl:L=[]:=aju h0;rcases hp with rfl | rfl
  ·refine ab @cZ ?_;refine VC.gen ?_;intro O6 e6;have nI:O6.hp O.N=some (.cells [.str g1,.str g2,.str g3,.str pk,.sl P.length (P.flatMap bm) .au,.sl 0 [] .au,.sl 0 [] .nil]):=by rw[e6];exact ρ _ _ _
   have ov:∀i,i<O5.N->i≠O.N->O6.hp i=O5.hp i:=fun i h1 h2=>by rw[e6,π _ _ h2,π _ _ h2,π _ _ h2,π _ _ h2]
   have mU:O6.N=O5.N:=by rw[e6];rfl
   clear e6;have jz:=(ov (O.N+1) (by omega) (by omega)).trans du;refine Θ [1,2] (fun _:Unit=>[.ptr O.N 0,.ptr (O.N+1) 0]) (fun _ O'=>O'=O6) ?_ ?_
   ·refine ξ @cZ @nI ?_;refine τ ?_;refine Γ [20] [1,2,19] (fun _:Nat=>[mi 0]) (fun _ O'=>O'=O6) (fun x=>x) (0) ?_ ?_
    ·rfl
    rintro _ O7 e7;rw[e7];refine ν @cZ ?_;exact aA.mk () rfl
   rintro _ O7 e7;rw[e7];clear e7 O7;refine Θ [1,2] (fun _:Unit=>[.ptr O.N 0,.ptr (O.N+1) 0]) (fun _ O'=>O'=O6) ?_ ?_
   ·refine ξ @cZ @nI ?_;refine τ ?_;refine Γ [39] [1,2,38] (fun _:Nat=>[mi 0]) (fun _ O'=>O'=O6) (fun x=>x) (0) ?_ ?_
    ·rfl
    rintro _ O7 e7;rw[e7];refine ν @cZ ?_;exact aA.mk () rfl
   rintro _ O7 e7;rw[e7];clear e7 O7;refine ι (aG @cZ @nI @jz ?_);rw[gH];exact⟨rfl,by show _<=O6.N;omega,fun i h=>ω ((ov i (by omega) (by omega)).trans (gM i h))⟩
  ·refine ab @cZ ?_;refine VC.gen ?_;intro O6 e6;have nI:O6.hp O.N=some (.cells [.str g1,.str g2,.str g3,.str pk,.sl P.length (P.flatMap bm) .au,.sl 0 [] .au,.sl 0 [] .full]):=by rw[e6];exact ρ _ _ _
   have ov:∀i,i<O5.N->i≠O.N->O6.hp i=O5.hp i:=fun i h1 h2=>by rw[e6,π _ _ h2,π _ _ h2,π _ _ h2,π _ _ h2]
   have mU:O6.N=O5.N:=by rw[e6];rfl
   clear e6;have jz:=(ov (O.N+1) (by omega) (by omega)).trans du;refine Θ [1,2] (fun _:Unit=>[.ptr O.N 0,.ptr (O.N+1) 0]) (fun _ O'=>O'=O6) ?_ ?_
   ·refine ξ @cZ @nI ?_;refine τ ?_;refine Γ [20] [1,2,19] (fun _:Nat=>[mi 0]) (fun _ O'=>O'=O6) (fun x=>x) (0) ?_ ?_
    ·rfl
    rintro _ O7 e7;rw[e7];refine ν @cZ ?_;exact aA.mk () rfl
   rintro _ O7 e7;rw[e7];clear e7 O7;refine Θ [1,2] (fun _:Unit=>[.ptr O.N 0,.ptr (O.N+1) 0]) (fun _ O'=>O'=O6) ?_ ?_
   ·refine ξ @cZ @nI ?_;refine τ ?_;refine Γ [39] [1,2,38] (fun _:Nat=>[mi 0]) (fun _ O'=>O'=O6) (fun x=>x) (0) ?_ ?_
    ·rfl
    rintro _ O7 e7;rw[e7];refine ν @cZ ?_;exact aA.mk () rfl
   rintro _ O7 e7;rw[e7];clear e7 O7;refine ι (aG @cZ @nI @jz ?_);rw[gH];exact⟨rfl,by show _<=O6.N;omega,fun i h=>ω ((ov i (by omega) (by omega)).trans (gM i h))⟩
 obtain⟨sp,hc,ia⟩:=c6.cells;have fQ:=c6.lo;have R9:=c6.hi;have gO:=(aH.trans aY).N;refine ab @cZ ?_;refine VC.gen ?_;intro O6 e6;have nI:O6.hp O.N=some (.cells [.str g1,.str g2,.str g3,.str pk,.sl P.length (P.flatMap bm) .au,.sl 0 [] .au,.bB k 0 L.length c]):=by rw[e6];exact ρ _ _ _
 have ov:∀i,i<O5.N->i≠O.N->O6.hp i=O5.hp i:=fun i h1 h2=>by rw[e6,π _ _ h2,π _ _ h2,π _ _ h2,π _ _ h2]
 have mU:O6.N=O5.N:=by rw[e6];rfl
 clear e6;have jz:=(ov (O.N+1) (by omega) (by omega)).trans du;refine Θ [1,2] (fun _:Unit=>[.ptr O.N 0,.ptr (O.N+1) 0]) (fun _ O'=>O'=O6) ?_ ?_
 ·refine ξ @cZ @nI ?_;refine τ ?_;refine Γ [20] [1,2,19] (fun _:Nat=>[mi 0]) (fun _ O'=>O'=O6) (fun x=>x) (0) ?_ ?_
  ·rfl
  rintro _ O7 e7;rw[e7];refine ν @cZ ?_;exact aA.mk () rfl
 rintro _ O7 e7;rw[e7];clear e7 O7;have Cv:=(ov k (by omega) (by omega)).trans hc;refine Θ [1,2] (fun _:Unit=>[.ptr O.N 0,.ptr (O.N+1) 0]) (fun _ O'=>O6.Ge O') ?_ ?_
 ·refine ξ @cZ @nI ?_;refine τ ?_;refine Γ [39] [1,2,38] (fun j:Nat=>[mi j]) (fun j O'=>O6.Ge O'/\j<=L.length) (fun j=>L.length - j) (0) ?_ ?_
  ·exact⟨VH.Ge.refl _,ahM _⟩
  rintro j O7 ⟨eV,hj⟩;by_cases aM:j<L.length;rotate_left
  ·obtain rfl:j=L.length:=by omega
   refine ν @cZ ?_;exact aA.mk () eV
  have UR:=eV.at nI;have US:=(eV.hp k (by omega)).trans Cv;have bG:(L.flatMap eA++sp)[j*10+9]?=some (.sl L[j].x.length (L[j].x.flatMap cn) .au):=ki oM (List.getElem?_eq_getElem aM) rfl;have acq:(L.flatMap eA++sp)[j*10+6]?=some (.sl 0 [] .au):=ki oM (List.getElem?_eq_getElem aM) rfl;have hxj:=hx L[j] (List.getElem_mem aM);generalize L[j].x=X at*;generalize L.flatMap eA++sp=C at*;have gL:=xL bG;have mC:=xL acq;have KO:=(List.getElem?_eq_some_iff.1 bG).1;have cI:((j:Int)+1)=((j+1:Nat):Int):=by omega
  have uY:=eV.N;refine κ @cZ ?_;refine κ @cZ ?_;refine χ (τ ?_);refine κ @cZ ?_;refine χ ?_;refine VC.Ei [10,11,12] (O.N) (k) (UR) (US) ?_ (hne:=(by omega));intro X1 X2;refine ae.ar 0 ?_;refine ab @cZ ?_;refine ζ (m:=.bB k 0 L.length c) 1 (fun _ h=>h.1) (fun _ h=>h.1) ?_ ?_
  ·exact fU @cZ
  simp only[ak];refine ae.ar 2 ?_;refine ab @cZ ?_;refine ae.ar 3 ?_;refine ab @cZ ?_;refine ζ (m:=.bB k 0 L.length c) 4 (fun _ h=>h.1) (fun _ h=>h.1) ?_ ?_
  ·exact fU @cZ
  simp only[ak];refine ae.ar 5 ?_;refine ab @cZ ?_;refine ae.ar 6 ?_;refine ab @cZ ?_;refine ae.ar 7 ?_;refine ab @cZ ?_;refine ζ (m:=.sl X.length (X.flatMap cn) .au) 8 (fun _ h=>h.2) (fun _ h=>h.2) ?_ ?_
  ·exact dX @cZ @bG
  simp only[ak];have ag9:N5 O.N k X1 X2 ((O7.set O.N (.obj X1)).set k (.obj X2)):=⟨ω (ρ _ _ _),ρ _ _ _⟩;have amK:((O7.set O.N (.obj X1)).set k (.obj X2)).N=O7.N:=rfl;have alh:∀i,i≠O.N->i≠k->((O7.set O.N (.obj X1)).set k (.obj X2)).hp i=O7.hp i:=fun i h1 h2=>by rw[π _ _ h2,π _ _ h1]
  generalize (O7.set O.N (.obj X1)).set k (.obj X2)=O8 at*;refine ae.call (i:=9) (um X .au O8 (by omega)) ?_;rintro _ O9 ⟨rfl,K_⟩;have UT:VH.Ge O8 O9:=by first | exact K_ | (rw[K_];exact VH.Ge.refl _)
  clear K_;simp only[ak];refine⟨⟨UT.at ag9.1,UT.at ag9.2⟩,?_⟩;refine ae.xE [(10,.ar),(11,.ar),(12,.one)] ?_ (hne:=(by omega));refine aG @cZ @bG @gL ?_;refine VC.gen ?_;intro gB acr
  have Lp:VH.Ge O7 gB:=by
   refine⟨by rw[acr];show _<=VH.N O9;have:=UT.N;omega,fun i h=>?_⟩;rw[acr];by_cases e1:i=k
   ·subst e1;first | (rw[ρ];exact US.symm) | (rw[ρ];exact US.symm)
   ·by_cases e2:i=O.N
    ·subst e2;first | (rw[π _ _ e1,π _ _ e1,ρ];exact UR.symm) | (rw[π _ _ e1,ρ];exact UR.symm)
    ·first | rw[π _ _ e1,π _ _ e1,π _ _ e2] | rw[π _ _ e1,π _ _ e2]
     exact(UT.hp i (by omega)).trans (alh i e2 e1)
  clear acr;have SH:=Lp.at UR;have SI:=(Lp.hp k (by omega)).trans US;have ami:=Lp.N;refine VC.Ei [11,12,13,14] (O.N) (k) (SH) (SI) ?_ (hne:=(by omega));intro X3 X4;refine ae.ar 0 ?_;refine ab @cZ ?_;refine ζ (m:=.bB k 0 L.length c) 1 (fun _ h=>h.1) (fun _ h=>h.1) ?_ ?_
  ·exact fU @cZ
  simp only[ak];refine ae.ar 2 ?_;refine ab @cZ ?_;refine ae.ar 3 ?_;refine ab @cZ ?_;refine ζ (m:=.bB k 0 L.length c) 4 (fun _ h=>h.1) (fun _ h=>h.1) ?_ ?_
  ·exact fU @cZ
  simp only[ak];refine ae.ar 5 ?_;refine ab @cZ ?_;refine ae.ar 6 ?_;refine ab @cZ ?_;refine ae.ar 7 ?_;refine ab @cZ ?_;refine ae.ar 8 ?_;refine ab @cZ ?_;refine ζ (m:=.sl 0 [] .au) 9 (fun _ h=>h.2) (fun _ h=>h.2) ?_ ?_
  ·exact dX @cZ @acq
  simp only[ak];have acs:N5 O.N k X3 X4 ((gB.set O.N (.obj X3)).set k (.obj X4)):=⟨ω (ρ _ _ _),ρ _ _ _⟩;have amj:((gB.set O.N (.obj X3)).set k (.obj X4)).N=gB.N:=rfl;have aiO:∀i,i≠O.N->i≠k->((gB.set O.N (.obj X3)).set k (.obj X4)).hp i=gB.hp i:=fun i h1 h2=>by rw[π _ _ h2,π _ _ h1]
  generalize (gB.set O.N (.obj X3)).set k (.obj X4)=vg at*;refine ae.call (i:=10) (GD .au vg) ?_;rintro _ Ys ⟨rfl,K_⟩;have Lq:VH.Ge vg Ys:=by first | exact K_ | (rw[K_];exact VH.Ge.refl _)
  clear K_;simp only[ak];refine⟨⟨Lq.at acs.1,Lq.at acs.2⟩,?_⟩;refine ae.xE [(11,.ar),(12,.ar),(13,.ar),(14,.one)] ?_ (hne:=(by omega));refine aG @cZ @acq @mC ?_;refine VC.gen ?_;intro O13 acu
  have aiP:VH.Ge gB O13:=by
   refine⟨by rw[acu];show _<=VH.N Ys;have:=Lq.N;omega,fun i h=>?_⟩;rw[acu];by_cases e1:i=k
   ·subst e1;first | (rw[ρ];exact SI.symm) | (rw[ρ];exact SI.symm)
   ·by_cases e2:i=O.N
    ·subst e2;first | (rw[π _ _ e1,π _ _ e1,ρ];exact SH.symm) | (rw[π _ _ e1,ρ];exact SH.symm)
    ·first | rw[π _ _ e1,π _ _ e1,π _ _ e2] | rw[π _ _ e1,π _ _ e2]
     exact(Lq.hp i (by omega)).trans (aiO i e2 e1)
  clear acu;refine ο @cZ @cI ?_;exact az.N (j+1) ⟨(eV.trans Lp).trans aiP,aM⟩
 rintro _ O9 bj;have hx9:=bj.at nI;have bN:=bj.at jz;have KZ:=(bj.hp k (by omega)).trans Cv;have zM:=bj.N;have Cy:∀i,i<O.N->O9.hp i=O.hp i:=fun i h=>(bj.hp i (by omega)).trans ((ov i (by omega) (by omega)).trans (gM i h))
 refine VC.xD (A:=[.str g1,.str g2,.str g3,.str pk,.sl P.length (P.flatMap bm) .au,.sl 0 [] .au]) (E:=[]) (sz:=L.length*10) KZ hx9 (by omega) (by rw[Qm,dH];omega) ?_;have dh:((L.flatMap eA++sp).drop 0).take (L.length*10)=L.flatMap eA:=by rw[anl,ajk (by rw[dH];exact Vq _), <-dH,ahO]
 rw[dh];refine VC.gen ?_;intro gB sM;have ali:gB.hp O.N=some (.cells [.str g1,.str g2,.str g3,.str pk,.sl P.length (P.flatMap bm) .au,.sl 0 [] .au,.sl L.length (L.flatMap eA) .au]):=by rw[sM];exact ρ _ _ _
 have Jx:gB.hp (O.N+1)=_:=(by rw[sM,π _ _ (by omega),VH.lh _ (by omega)]:gB.hp (O.N+1)=O9.hp (O.N+1)).trans bN;have BA:∀i,i<O.N->gB.hp i=O.hp i:=fun i h=>(by rw[sM,π _ _ (by omega),VH.lh _ (by omega)]:gB.hp i=O9.hp i).trans (Cy i h)
 have I3:gB.N=O9.N:=by rw[sM];rfl
 clear sM;refine ι (aG @cZ @ali @Jx ?_);rw[gH,xM];exact⟨rfl,by show _<=gB.N;omega,fun i h=>ω (BA i h)⟩
structure SJ (O:VH) (bb md k:Nat) (MD:fG) (cm:Nat):Prop where
 cell:O.hp bb=some (.cells [.ptr k 0,.map md])
 map:O.hp md=some (.map (cP MD) cm)
 ok:nT 3 MD
 lt:bb<O.N/\md<O.N
theorem SJ.ge {O O':VH} {bb md k:Nat} {MD:fG} {cm:Nat} (h:SJ O bb md k MD cm) (g:O.Ge O'):SJ O' bb md k MD cm:=
 ⟨(g.hp _ h.lt.1).trans h.cell,(g.hp _ h.lt.2).trans h.map,h.ok,Ma h.lt.1 g.N,Ma h.lt.2 g.N⟩
def D6 (s:Bs):Bs:=if s=[]then lC else s
def jf (g:Gv) (p:Pm):Mdl:=⟨g,D6 p.pk,iJ p,p.eK.map fN⟩
structure PmQ (p:Pm) (g:Gv):Prop where
 c:PmC p
 gg:p.g=g.g
 ga:p.a=g.a
 gv:p.v=g.v
 tg:iq g.g
 ta:iq g.a
 tv:iq g.v
 tp:iq p.pk
 pi:fw (D6 p.pk)=true
 props:p.props=[]
 eT:p.eT=[]
 eK:∀d∈p.eK,SB d
 len:p.eK.length<=900
 keys:p.eK.Pairwise fun x y=>je (dM x)≠je (dM y)
end Go.Proofs.YtjpadehgejlebaaGreatDoor
