import Derived.Test.YtnfdmplcieacjaaGreatDoorMC
import Derived.Shelf.Strings.Search3
import Derived.Shelf.Strings.OnBuilder
import Derived.Test.YtnfdmplcieacjaaGreatDoorProg
import Derived.Laws.Cover4
import Derived.Lib.LazyBuf
set_option linter.unusedVariables false
set_option linter.defProp false
set_option maxHeartbeats 8000000
set_option linter.unusedSimpArgs false
namespace Go.Proofs.YtnfdmplcieacjaaGreatDoor
open Go.RowKit
open _root_.Nat renaming reduceLT → y0, reduceAdd → y10, reduceMul → y11, reduceSub → y12, reduceBEq → y14, reduceEqDiff → y16
open _root_.Int renaming reduceToNat → y18
open _root_.Go.Proofs.Tryz
open Go.Value renaming int → Ι
open Go.IntKind renaming i64 → Κ
open _root_.List renaming length → Ζ
open _root_.Go.Proofs.Tryz renaming prog → Ε
open _root_.Option renaming some → φ, none → Β
open _root_.Bool renaming false → γ, true → Α
open _root_.List renaming length_append → Rn, append_assoc → Ro, length_drop → TR, length_cons → abT, length_nil → ahB, getElem?_eq_getElem → ai8, getElem?_append_right → ai9, nil_append → ai_, getElem?_eq_some_iff → aja, drop_eq_getElem_cons → alp, length_take → an2, cons_append → an4, take_append_drop → apE, getElem?_append_left → apF, append_nil → apG, getElem_mem → apH, pairwise_cons → apI, drop_of_length_le → apJ, eq_nil_of_length_eq_zero → apK, pairwise_iff_getElem → asl, mem_iff_getElem → as0, takeWhile_cons_of_neg → ats, takeWhile_cons_of_pos → atM, mem_append_right → aug, drop_length → auh, mem_cons → aui, length_singleton → auj, set_append_right → auk, pairwise_append → aum, mem_append_left → aun, flatMap_append → auo, mem_singleton → auq, filter_append → aur, pairwise_singleton → auu, take_of_length_le → auv, mem_of_mem_take → auw, getElem_take → auy, getElem_drop → auz, take_sublist → auA, drop_sublist → auB, take_length → auD, getElem?_cons_zero → auE, getElem?_cons_succ → auF, filter_cons_of_pos → auG, mem_append → auJ, mem_filter → auK
open _root_.Nat renaming lt_of_lt_of_le → aev, le_refl → an3, eq_zero_or_pos → an5, zero_le → an6, le_trans → an7, zero_add → aul, lt_of_lt_of_eq → aup, add_zero → aus, add_sub_cancel_left → aut, sub_self → auH
open _root_.And renaming intro → asc
open _root_.Bool renaming and_eq_true → auC
variable{af:Array Edge}{q s t:Bs}{e:Int}{D:List Deferred}{A E L cs cs' sp vs:List MV}{X p v x0 x1 x10 x2 x3 x4 x5 x6 x7 x8 x9 y:MV}{B a b c i j k n o off sz w:Nat}{g:Option (Nat×Bool)}{d:Option Tmp}{P:Program}{ps:String}{tk:Tok}{O O' O1 O2 OX OY:VH}{K:VH->Prop}{Q:VQ}{x:bO}
set_option maxRecDepth 10000
def cy:=asc ek<|asc T4 T3
def pI(bL:Bool)(s:Bs):Bool:=(lZ s).2&&(bL||(lZ s).1 != 6)
def Ym(bL:Bool)(O:VH):VF Ε 254 [mb bL] O (aC λm O'=>m= .func (.func 272) [] [.p O.N 0]/\yj O [mb bL] O'):=by
 refine ω 4 [.tmp 2] func254 ?_;refine κ cy ?_;refine VC.bx ?_;rintro O1 h1;refine ν cy ?_;exact h1
def Tv(bL:Bool)(s:Bs)(b:Nat)(O:VH)(hb:O.hp b=φ (.cells [mb bL])):VF Ε 272 ([.s s]++[.p b 0]) O (aC λm O'=>m=mb (pI bL s)/\O.Ge O'):=by
 have hS:=Tt s O;have hF:pI bL s=((lZ s).2&&(bL||(lZ s).1 != 6)):=rfl;generalize pI bL s=W at*;generalize lZ s=q at*;obtain⟨n,c⟩:=q;simp only[an4,ai_];dsimp only at hF hS;simp only[bg]at hb;refine χ 19 [.tmp 3] func272 ?_;refine ae cy ?_;refine π (hS) ?_;rintro _ O2 ⟨rfl,rfl⟩;subst hF;cases c;refine ak cy hb ?_;exact VH.Ge.refl _
 ·cases bL
  ·by_cases h6:n=6;subst h6;refine ak cy hb ?_;exact⟨rfl,VH.Ge.refl _⟩
   ·(have h6':((n:Int)==6)=γ:=by rw[beq_eq_false_iff_ne];omega);have h6b:((n:Int) != 6)=Α:=by rw[bne,h6'];rfl
    (have h6n:(n != 6)=Α:=by rw[bne_iff_ne];exact h6);refine gy cy hb h6' h6b h6n ?_;exact VH.Ge.refl _
  ·refine ak cy hb ?_;exact VH.Ge.refl _
structure DS(O:VH)(B:Nat)(E:Η)(O':VH)(cs:Η):Prop where
 fS:O.Ge O'
 le:O.N<=B
 x:O'.hp B=φ (.cells E)
 d:O'.hp (B+1)=φ (.cells cs)
 lt:B+1<O'.N
def DS.st(h:DS O B E O' cs):DS O B E (O'.set (B+1) (.cells cs')) cs':=
 ⟨h.fS.set (by have:=h.le;omega) _,h.le,Θ h.x,υ _ _ _,h.lt⟩
def DS.ge(h:DS O B E O' cs)(k:O'.Ge O2):DS O B E O2 cs:=
 ⟨h.fS.trans k,h.le,(k.hp _ (by have:=h.lt;omega)).trans h.x,(k.hp _ h.lt).trans h.d,aev h.lt k.N⟩
def DS.ye{X:Obj}(h:DS O B E O' cs)(k:(O'.set B (.obj X)).Ge O2):DS O B E (O2.set B (.cells E)) cs:=by
 have e1:(O'.set B (.obj X)).N=O'.N:=rfl;have e2:(O2.set B (.cells E)).N=O2.N:=rfl;have h1:=h.le;have h2:=h.lt;have h3:=h.fS.N;have h4:=k.N;refine⟨⟨Λ,λj hj=>?_⟩,h.le,υ _ _ _,?_,Λ⟩;rw[VH.sx,k.hp j Λ,VH.sx];exact h.fS.hp j hj;rw[VH.sx,k.hp _ Λ,VH.sx];exact h.d
def VC.ds{n:Sz}{c:Code}{e:Env}(h:DS O B E O' cs)(k:∀O3,DS O B E O3 cs'->VC P n D c e O3 Q):VC P n D c e (O'.set (B+1) (.cells cs')) Q:=k _ h.st
def VC.ds0{n:Sz}{c:Code}{e:Env}(k:∀O3,DS O O.N E O3 cs->VC P n D c e O3 Q):VC P n D c e ((O.push (.cells E)).push (.cells cs)) Q:=
 k _ ⟨((VH.Ge.refl O).push _).push _,an3 _,(VH.gY _ _ (Nat.lt_succ_self _)).trans (ζ _ _),ζ _ _,Nat.lt_succ_self _⟩
def gE:Bs->Bool:=λ_=>Α
def v7(s:Bs)(O':VH):VF Ε 201 ([.s s]++[]) O' (aC λm mS=>m=mb (gE s)/\O'.Ge mS):=akp s O'
def adF(s:Bs)(O':VH):VF Ε 255 ([.s s]++[]) O' (aC λm mS=>m=mb (rO s)/\O'.Ge mS):=X7 s O'
def sr(s:Bs):Bool:=Hl ⟨s,s⟩
def Tw(s:Bs)(O':VH)(hs:Ζ s<=1024):VF Ε 256 ([.s s]++[]) O' (aC λm mS=>m=mb (sr s)/\O'.Ge mS):=adC s O' z13
def exE(k:Nd×Bs):Except (Int×Bs) iR:=
 match c_ k.1 k.2 iN Α sr with
 | .error e=>.error e
 | .ok g=>match c_ k.1 k.2 iy Α sr with
   | .error e=>.error e
   | .ok a=>.ok ⟨g,a⟩
def wT:List (Nd×Bs)->List iR->Except (Int×Bs) (List iR)
 | [],X=>.ok X
 | k::r,X=>match exE k with
   | .error e=>.error e
   | .ok i=>wT r (X++[i])
def u_(x:Nd)(w:Bs):Except (Int×Bs) (List iR):=
 match di x w qL with
 | .error e=>.error e
 | .ok ((_,_),γ)=>.ok []
 | .ok ((y,wy),Α)=>match oD y wy C8 with
   | .error e=>.error e
   | .ok l=>wT l []
def alY(s:Bs):Int:=if s=oB then 1 else if s=lW then 2 else 0
def pJ(d:Dp):Except (Int×Bs) (List iR)->Except (Int×Bs) Dp
 | .error e=>.error e
 | .ok X=>.ok ⟨d.g,d.a,d.v,d.t,d.c,d.s,d.o,X⟩
def De(x:Nd)(w:Bs)(bL:Bool):Except (Int×Bs) Dp:=
 match c_ x w iN Α gE with
 | .error e=>.error e
 | .ok g=>match c_ x w iy Α gE with
 | .error e=>.error e
 | .ok a=>match c_ x w k_ γ gE with
 | .error e=>.error e
 | .ok v=>match c_ x w IV γ gE with
 | .error e=>.error e
 | .ok t=>match c_ x w IW γ gE with
 | .error e=>.error e
 | .ok c=>match c_ x w FX γ (pI bL)with
 | .error e=>.error e
 | .ok s=>match c_ x w sf γ rO with
 | .error e=>.error e
 | .ok o=>pJ ⟨g,a,v,t,c,(lZ s).1,alY o,[]⟩ (u_ x w)
def zW{y:Nd}{wy nm:Bs}{L:List (Nd×Bs)}(h:oD y wy nm= .ok L):Ζ L<=1024/\∀p∈L,j7 p.1<=j7 y/\(Ζ p.2)<=Ζ wy+Ζ nm+1030:=by
 unfold oD at h;split at h;cases h;rename_i hn;injection h with h;subst h;refine⟨by rw[Ng];omega,λp hp=>?_⟩;unfold u7 at hp;obtain⟨i,hi,rfl⟩:=List.mem_mapIdx.1 hp;have hk:=Qa (apH hi);have Dd:=rQ (i+1);refine⟨Nat.le_of_lt hk,?_⟩;simp only[Hn,Rn,abT,ahB];omega
def DS.aoL{y:bO}(h:DS O B E O' cs)(hk:B+1<k)(g:(O'.set k x).Ge O2):DS O B E (O2.set k y) cs:=by
 have e1:(O'.set k x).N=O'.N:=rfl;have e2:(O2.set k y).N=O2.N:=rfl;have h1:=h.le;have h2:=h.lt;have h3:=h.fS.N;have h4:=g.N
 have key:∀j,j<O'.N->j≠k->(O2.set k y).hp j=O'.hp j:=λj hj hn=>by
  rw[τ _ _ hn,g.hp j Λ,τ _ _ hn]
 exact⟨⟨Λ,λj hj=>(key j Λ Λ).trans (h.fS.hp j hj)⟩,h.le,(key _ Λ Λ).trans h.x,(key _ Λ Λ).trans h.d,Λ⟩
def DS.app(h:DS O B E O' cs)(ha:App O' (B+2) sz tk):DS O B E (O'.after tk) cs:=by
 have k:=dR.after ha;have h1:=h.le;have h2:=h.lt;have h3:=h.fS.N;have key:∀j,j<B+2->(O'.after tk).hp j=O'.hp j:=λj hj=>k.hp j Λ (λe=>by have:=(App.iM ha e).1;omega)
 exact⟨⟨an7 h3 k.N,λj hj=>(key j Λ).trans (h.fS.hp j hj)⟩,h.le,(key _ Λ).trans h.x,(key _ Λ).trans h.d,aev h2 k.N⟩
def App.iV(h:App O B sz tk)(hk:O.hp k≠φ .tok):App (O.set k x) B sz tk:=by
 cases tk with
 | own t j=>exact⟨h.1,(τ _ _ (λe=>by subst e;exact hk h.2.1)).trans h.2.1,h.2.2.1,h.2.2.2⟩
 | nil=>trivial
 | full=>trivial
 | av=>exact h.elim
section
variable{P:Program}{n:Sz}{D:List Deferred}{e:Env}{O:VH}{Q:VQ}
def aQ.qQ{l:ϕ}{f:Operand}{xs:Array Operand}{ts:Array TypeId}{ty:TypeId}{id:FuncId}{ms:Η}{R:gm->VH->Prop}{K:Env->VH->Prop}(hR:VF P id (ms++cs) O R)
  (h:∀m O',R (.ret m) O'->K (aU d m e) O') (h2:∀m O',R (.panic m) O'->Q (.panic m) (jM n e) O') (ho:l[i]?=φ (.mk d (.call {callee:=.value f,args:=xs,argTypes:=ts}) ty ps af g):=by exact rfl) (hg:aK ⟨l⟩ (.mk d (.call {callee:=.value f,args:=xs,argTypes:=ts}) ty ps af g) e=φ Α:=by exact rfl) (hf:ev e f=φ (.func (.func id) [] cs):=by exact rfl) (hm:g_ e xs.toList=φ ms:=by exact rfl) (hb:cV P id=Α:=by kernel_rfl) (hd:bj n d=Α:=by exact rfl):aQ P n D ⟨l⟩ i e O Q K:=
 aQ.call (o:=.mk d (.call {callee:=.value f,args:=xs,argTypes:=ts}) ty ps af g) z20 hg rfl rfl hf hm (Enters.w_ hb) hd (by simpa using hR) λr O' hr=>by
  cases r with
  | ret m=>exact h m O' hr
  | panic m=>exact h2 m O' hr
end
def aoM(x:Nd)(w:Bs)(bL:Bool)(O:VH)(hx:j7 x<=1000000)(hw6:Ζ w<=6000):
  VF Ε 228 [.agg (lz x w),mb bL] O (FQ O (De x w bL) λy m=>m= .agg (aG y)):=by
 have hw:Ζ w<=10000:=Λ
 refine VF.fgR ?_;have uj:=sq x w;have yr:=uZ x w qL;have yu:= @so x w qL;obtain⟨PE,hP⟩:∃PE,De x w bL=PE:=⟨_,rfl⟩
 rw[hP];unfold De at hP
 have Lg:∃a b c d e,lz x w=[a,b,c,d,e]:=by
  cases x;simp only[lz,eb];exact⟨_,_,_,_,_,rfl⟩
 obtain⟨a,b,c,d,e,hE⟩:=Lg;simp only[hE]at uj yr ⊢;clear hE;refine ω 66 [.cell 4 64] func228 ?_;refine κ cy ?_;refine VC.ds0 ?_;intro _ hd;have fx:=hd.x;have cG:=hd.d;refine θ (aF cy fx cG ?_);clear fx cG;refine ah.ex (c_ x w iN Α gE) (uj iN Α gE 201 [] _ hx hw z12 z11 (λs O' _ _=>v7 s O')) ?_ ?_;rintro e m O9 hF ⟨bq,h⟩;rw[hF]at h hP;dsimp only at h hP;rw[h, <-hP];refine ae cy ?_;exact⟨hd.fS.trans bq,rfl⟩;rintro s1 m O1 Yn ⟨bq,h⟩;rw[Yn]at h hP;dsimp only at h hP;subst h;have hb:=hd.ge bq;clear bq hd;have fx:=hb.x;have cG:=hb.d;refine aF cy fx cG ?_;refine VC.ds hb ?_;clear fx cG hb;intro _ hd;have fx:=hd.x;have cG:=hd.d;refine θ (aF cy fx cG ?_);clear fx cG;refine ah.ex (c_ x w iy Α gE) (uj iy Α gE 201 [] _ hx hw z12 z11 (λs O' _ _=>v7 s O')) ?_ ?_;rintro e m O9 hF ⟨bq,h⟩;rw[hF]at h hP;dsimp only at h hP;rw[h, <-hP];refine ae cy ?_;exact⟨hd.fS.trans bq,rfl⟩;rintro s2 m O2 Yo ⟨bq,h⟩;rw[Yo]at h hP;dsimp only at h hP;subst h;have hb:=hd.ge bq;clear bq hd;have fx:=hb.x;have cG:=hb.d;refine aF cy fx cG ?_;refine VC.ds hb ?_;clear fx cG hb;intro _ hd;have fx:=hd.x;have cG:=hd.d;refine θ (aF cy fx cG ?_);clear fx cG;refine ah.ex (c_ x w k_ γ gE) (uj k_ γ gE 201 [] _ hx hw z12 z11 (λs O' _ _=>v7 s O')) ?_ ?_;rintro e m O9 hF ⟨bq,h⟩;rw[hF]at h hP;dsimp only at h hP;rw[h, <-hP];refine ae cy ?_;exact⟨hd.fS.trans bq,rfl⟩;rintro s3 m O3 BR ⟨bq,h⟩;rw[BR]at h hP;dsimp only at h hP;subst h;have hb:=hd.ge bq;clear bq hd;have fx:=hb.x;have cG:=hb.d;refine aF cy fx cG ?_;refine VC.ds hb ?_;clear fx cG hb;intro _ hd;have fx:=hd.x;have cG:=hd.d;refine θ (aF cy fx cG ?_);clear fx cG;refine ah.ex (c_ x w IV γ gE) (uj IV γ gE 201 [] _ hx hw z12 z11 (λs O' _ _=>v7 s O')) ?_ ?_;rintro e m O9 hF ⟨bq,h⟩;rw[hF]at h hP;dsimp only at h hP;rw[h, <-hP];refine ae cy ?_;exact⟨hd.fS.trans bq,rfl⟩;rintro s4 m O4 hF4 ⟨bq,h⟩;rw[hF4]at h hP;dsimp only at h hP;subst h;have hb:=hd.ge bq;clear bq hd;have fx:=hb.x;have cG:=hb.d;refine aF cy fx cG ?_;refine VC.ds hb ?_;clear fx cG hb;intro _ hd;have fx:=hd.x;have cG:=hd.d;refine θ (aF cy fx cG ?_);clear fx cG;refine ah.ex (c_ x w IW γ gE) (uj IW γ gE 201 [] _ hx hw z12 z11 (λs O' _ _=>v7 s O')) ?_ ?_;rintro e m O9 hF ⟨bq,h⟩;rw[hF]at h hP;dsimp only at h hP;rw[h, <-hP];refine ae cy ?_;exact⟨hd.fS.trans bq,rfl⟩;rintro s5 m O5 hF5 ⟨bq,h⟩;rw[hF5]at h hP;dsimp only at h hP;subst h;have hb:=hd.ge bq;clear bq hd;have fx:=hb.x;have cG:=hb.d;refine aF cy fx cG ?_;refine VC.ds hb ?_;clear fx cG hb;intro O6 hd;have fx:=hd.x;refine Δ ?_;refine VC.mJ [7,8,9] (O.N) (fx) ?_;intro X;refine ρ 1 cy ?_;refine auQ (m:=.agg [a,b,c,d,e]) 0 ?_ ?_;exact ez cy;simp only[ag];refine ab.call (i:=2) (Ym bL _) ?_;rintro _ O7 ⟨rfl,dB,At,sk⟩;simp only[ag];refine⟨(dB.hp _ (by have:=hd.lt;show _<O6.N;omega)).trans (υ _ _ _),?_⟩;have Yp:=hd.lt;have aqU:O7.N=O6.N+1:=sk;have alZ:O7.hp O6.N=φ (.cells [mb bL]):=At;refine ab.iH (k:=O.N) (i:=3) (uj FX γ (pI bL) 272 [.p O6.N 0] O7 hx hw z12 z11 (λs O' Ao _=>Tv bL s _ O' (Ao.at alZ))) ?_ ?_;rotate_left
 ·rintro m O8 ⟨gR,h⟩;have hX:=((dB.trans gR).hp _ (by show O.N<O6.N;omega)).trans (υ _ _ _);refine⟨hX,?_⟩;cases hF:c_ x w FX γ (pI bL)with
  | ok s=>rw[hF]at h;exact h.elim
  | error e=>
    rw[hF]at h hP;dsimp only at h hP;rw[h, <-hP];refine ae cy ?_;exact⟨(hd.ye (dB.trans gR)).fS,rfl⟩
 rintro m O8 ⟨gR,h⟩;have hX:=((dB.trans gR).hp _ (by show O.N<O6.N;omega)).trans (υ _ _ _);refine⟨hX,?_⟩;cases hF6:c_ x w FX γ (pI bL)with
 | error e=>rw[hF6]at h;exact h.elim
 | ok s6=>
 rw[hF6]at h hP;dsimp only at h hP;subst h;simp only[ag];refine ab.call (i:=4) (Tt s6 _) ?_;rintro _ O9 ⟨rfl,eO⟩;rw[eO];clear eO O9;simp only[ag];refine⟨hX,?_⟩;have hb:=hd.ye (dB.trans gR);have cG:=(τ O8 (.cells [a,b,c,d,e]) (by omega:O.N+1≠O.N)).symm.trans hb.d;refine ρ 5 cy ?_;refine ab.aqT 7 ?_;refine ae cy ?_;refine ρ 6 cy ?_;refine ab.mK [(8,.au),(9,.one)] ?_;refine ak cy cG ?_;clear At alZ cG hX fx;generalize lZ s6=sc at*;refine VC.ds hb ?_;clear hb hd dB gR Yp sk aqU;intro O9 hd;have fx:=hd.x;have cG:=hd.d;refine Ξ [2,4] (λ_:Int=>[.p O.N 0,.p (O.N+1) 0]) (λo O'=>DS O O.N [a,b,c,d,e] O' [.s s1,.s s2,.s s3,.s s4,.s s5,mi sc.1,mi o,.l 0 [] .nil]/\pJ ⟨s1,s2,s3,s4,s5,sc.1,o,[]⟩ (u_ x w)=PE) ?_ ?_;refine θ (aF cy fx cG ?_);clear fx cG;refine ah.ex (c_ x w sf γ rO) (uj sf γ rO 255 [] _ hx hw z12 z11 (λs O' _ _=>adF s O')) ?_ ?_;rintro e m O9 hF ⟨bq,h⟩;rw[hF]at h hP;dsimp only at h hP;rw[h, <-hP];refine ae cy ?_;exact⟨hd.fS.trans bq,rfl⟩;rintro s7 m OA hF7 ⟨bq,h⟩;rw[hF7]at h hP;dsimp only at h hP;subst h;have hb:=hd.ge bq;clear bq hd;have fx:=hb.x;have cG:=hb.d;refine aF cy fx cG ?_;(((have ju:=λo:Int=>hb.st (cs':=[.s s1,.s s2,.s s3,.s s4,.s s5,mi sc.1,mi o,.l 0 [] .nil]));simp only[aq]at ju;unfold alY at hP;refine Γ ?_;cases h1:s7==oB);rw[if_neg (λe=>by rw[e]at h1;exact absurd h1 z12)]at hP;cases h2:s7==lW;rw[if_neg (λe=>by rw[e]at h2;exact absurd h2 z12)]at hP;simp only[oB,lW]at h1 h2;refine ι (bo cy cG h1 h2 ?_);exact aE.mk 0 ⟨hb,hP⟩;rw[if_pos (eq_of_beq h2)]at hP;simp only[oB,lW]at h1 h2;refine ι (bo cy cG h1 h2 ?_);exact aE.mk 2 ⟨ju 2,hP⟩);rw[if_pos (eq_of_beq h1)]at hP;simp only[oB]at h1;refine ι (aF cy cG h1 ?_);exact aE.mk 1 ⟨ju 1,hP⟩
 intro o OA ⟨hd,hP⟩;refine Ξ [4] (λ_:List iR×Tok=>[.p (O.N+1) 0]) (λx O'=>DS O O.N [a,b,c,d,e] O' [.s s1,.s s2,.s s3,.s s4,.s s5,mi sc.1,mi o,.l (Ζ x.1) (x.1.flatMap cI) x.2]/\ .ok (⟨s1,s2,s3,s4,s5,sc.1,o,x.1⟩:Dp)=PE) ?_ ?_;rotate_left;rintro⟨X,tk⟩ O9 ⟨hd,hP⟩;have cG:=hd.d;simp only[aq]at cG;refine ο cy cG ?_;rw[<-hP];refine⟨hd.fS.set Λ _,?_⟩;simp only[aG,aq,wu,uX];have fx:=hd.x;have cG:=hd.d;have yx:∀e,di x w qL= .error e->u_ x w= .error e:=λe h=>by unfold u_;rw[h]
 have pH:∀y wy,di x w qL= .ok ((y,wy),γ)->u_ x w= .ok []:=λy wy h=>by unfold u_;rw[h]
 have jw:∀y wy,di x w qL= .ok ((y,wy),Α)->u_ x w=match oD y wy C8 with
  | .error e=>.error e
  | .ok l=>wT l []:=λy wy h=>by unfold u_;rw[h]
 generalize u_ x w=DX at*;generalize di x w qL=F at*;refine θ (aF cy fx cG ?_);clear fx cG;refine ah.ex F (yr OA (by have:=kL x;omega) Λ z12) ?_ ?_;rintro e m O2 rfl ⟨ax,h⟩;dsimp only at h;rw[yx e rfl]at hP;simp only[pJ]at hP;rw[h, <-hP];refine ae cy ?_;exact⟨hd.fS.trans ax,rfl⟩;rintro y m OB rfl ⟨ax,h⟩;obtain⟨⟨y,wy⟩,bb⟩:=y;dsimp only at h;subst h;obtain⟨hyW,yy⟩:=yu rfl;have qu:Ζ wy<=6011:=by rw[yy];simp only[Rn,abT,ahB];omega
 have hb:=hd.ge ax;clear hd ax yu yy yx
 replace jw:bb=Α->DX=match oD y wy C8 with
  | .error e=>.error e
  | .ok l=>wT l []:=λh=>by subst h;exact jw y wy rfl
 replace pH:bb=γ->DX= .ok []:=λh=>by subst h;exact pH y wy rfl
 have Nh:=aaF y wy C8;have aaJ:= @zW y wy C8;generalize oD y wy C8=LE at*;obtain⟨yn,ya,yk,yt⟩:=y;generalize hWy:j7 (.mk yn ya yk yt)=Wy at*;simp only[lz,eb,an4,ai_]at Nh ⊢;refine ae cy ?_;refine VC.al ?_;rintro OC ⟨hgC,hyC,hnC⟩;have hd:=hb.ge hgC;clear hb hgC;cases bb;rw[pH rfl]at hP;simp only[pJ]at hP;refine ν cy ?_;exact aE.mk ([],.nil) ⟨hd,hP⟩;rw[jw rfl]at hP;clear pH jw;refine κ cy ?_;refine ο cy hyC ?_;refine ah.ex LE (Nh OC Λ Λ z12) ?_ ?_;rintro e m O9 rfl ⟨bq,h⟩;dsimp only at h;simp only[pJ]at hP;rw[h, <-hP];refine ae cy ?_;exact⟨hd.fS.trans bq,rfl⟩;rintro L m OD rfl ⟨bq,h⟩;dsimp only at h hP;obtain⟨tL,rfl⟩:=h;obtain⟨nR,hLm⟩:=aaJ rfl;have hb:=hd.ge bq;clear hd bq aaJ Nh hyC;refine ae cy ?_;refine Υ [50] [4,48,49] (λx:Nat×List iR×Tok=>[mi x.1]) (λx O'=>DS O O.N [a,b,c,d,e] O' [.s s1,.s s2,.s s3,.s s4,.s s5,mi sc.1,mi o,.l (Ζ x.2.1) (x.2.1.flatMap cI) x.2.2]/\App O' (O.N+2) 2 x.2.2/\x.1<=(Ζ L)/\(Ζ x.2.1)=x.1/\pJ ⟨s1,s2,s3,s4,s5,sc.1,o,[]⟩ (wT (L.drop x.1) x.2.1)=PE) (λx=>(Ζ L) - x.1) ((0,[],.nil)) ?_ ?_;exact⟨hb,trivial,an6 _,rfl,hP⟩;rintro⟨j,X,tk⟩ O3 ⟨hd,cQ,hj,IN,hP⟩;dsimp only at hd cQ hj IN hP ⊢;by_cases bu:j<Ζ L;rotate_left
 ·obtain rfl:j=Ζ L:=Λ
  rw[apJ (an3 _),wT]at hP;refine ν cy ?_;exact aE.mk (X,tk) ⟨hd,hP⟩
 have bh:((u9 L).drop (j*5)).take 5=lz L[j].1 L[j].2:=bY I7 L j bu;have hL5:=zU L;rw[alp bu,wT]at hP;obtain⟨hzW,Tx⟩:=hLm L[j] (apH bu);generalize L[j]=zz at*;obtain⟨z,wz⟩:=zz;dsimp only at hzW Tx;have rT:=λO'=>sq z wz iN Α sr 256 [] O' Λ (by simp only[abT,ahB]at Tx;omega) z12 z11 (λs mS _ hs=>Tw s mS hs)
 have yC:=λO'=>sq z wz iy Α sr 256 [] O' Λ (by simp only[abT,ahB]at Tx;omega) z12 z11 (λs mS _ hs=>Tw s mS hs)
 unfold exE at hP;dsimp only at hP;generalize c_ z wz iN Α sr=W1 at*;generalize c_ z wz iy Α sr=W2 at*;obtain⟨zn,za,gJ,zt⟩:=z;simp only[lz,eb,an4,ai_]at bh rT yC;refine κ cy ?_;refine κ cy ?_;refine Δ (Γ ?_);refine ξ cy bh ?_;refine VC.al ?_;rintro O4 ⟨aV,fJ,fe⟩;have hb:=hd.ge aV;have lh:=cQ.ge aV;have lC:O.N+1<O3.N:=hd.lt;clear hd aV cQ;refine VC.mJ [8,9,10] (O3.N) (fJ) ?_;intro XX;refine ρ 0 cy ?_;refine auQ (m:=.agg [.s zn,.l (Ζ za) (za.flatMap bp) .av,.l (Ζ gJ) (aI gJ) .av,.s zt,.s wz]) 2 ?_ ?_;exact ez cy;simp only[ag];refine auQ (m:=.agg [.s zn,.l (Ζ za) (za.flatMap bp) .av,.l (Ζ gJ) (aI gJ) .av,.s zt,.s wz]) 4 ?_ ?_;exact ez cy;simp only[ag];have iz:=lh.iV (k:=O3.N) (x:=.obj XX) (by rw[fJ];simp);have hXX:=υ O4 O3.N (.obj XX);have cG:=(τ O4 (.obj XX) (by omega:O.N+1≠O3.N)).trans hb.d;have gD:∀O9,(O4.set O3.N (.obj XX)).Ge O9->O.Ge O9:=λO9 g=>((hb.fS.set Λ _).trans g)
 have lM:∀O9,(O4.set O3.N (.obj XX)).Ge O9->O9.hp O3.N=φ (.obj XX)/\O9.hp (O.N+1)=φ (.cells [.s s1,.s s2,.s s3,.s s4,.s s5,mi sc.1,mi o,.l (Ζ X) (X.flatMap cI) tk]):=λO9 g=>⟨(g.hp _ (by show O3.N<O4.N;omega)).trans hXX,(g.hp _ (by show O.N+1<O4.N;omega)).trans cG⟩
 have Yq:=λ(O9:VH)(g:(O4.set O3.N (.obj XX)).Ge O9)(y:bO)=>hb.aoL (k:=O3.N) lC g (y:=y)
 clear cG;generalize O4.set O3.N (.obj XX)=O5 at*;refine ab.meet [1,3,5,6,7] [4,48,49,50,55,61] (λx:Bs×Bs=>[.p (O.N+1) 0,.l (Ζ L) (u9 L) tL,mi (Ζ L),mi j,.l (Ζ X) (X.flatMap cI) tk,.l 1 [.s x.1,.s x.2] .full]) (λx O'=>W1= .ok x.1/\W2= .ok x.2/\O5.Ge O') 3 ?_ ?_;rotate_left;rintro⟨sg,sa⟩ OF ⟨e1,e2,hG⟩;dsimp only at e1 e2;rw[e1,e2]at hP;dsimp only at hP ⊢;clear e1 e2;refine ab.mK [(8,.one),(9,.au),(10,.one)] ?_;have hd9:=Yq _ hG (.cells [.s zn,.l (Ζ za) (za.flatMap bp) .av,.l (Ζ gJ) (aI gJ) .av,.s zt,.s wz]);have al0:=(iz.ge hG).iV (k:=O3.N) (x:=.cells [.s zn,.l (Ζ za) (za.flatMap bp) .av,.l (Ζ gJ) (aI gJ) .av,.s zt,.s wz]) (by rw[(lM _ hG).1];simp);refine ae cy ?_;obtain⟨mE,iT,oX⟩:=jj (n:=Ζ X) (cs:=X.flatMap cI) (ds:=[.s sg,.s sa]) (es:=cI ⟨sg,sa⟩) SQ T69.1.1 al0 (aP uW X) rfl rfl z12 Λ z13 (uX X) (by simp only[cI,wu]);refine VL.o7 iT oX ?_;have hdA:=hd9.app al0;have hbA:=hdA.d;have Lk:=hdA.st (cs':=[.s s1,.s s2,.s s3,.s s4,.s s5,mi sc.1,mi o,.l (Ζ X+1) (X.flatMap cI++cI ⟨sg,sa⟩) (.own OF.N 2)]);have al1:=(App.after (B:=O.N+2) (sz:=2) (tk:=tk) (O:=OF.set O3.N (.cells [.s zn,.l (Ζ za) (za.flatMap bp) .av,.l (Ζ gJ) (aI gJ) .av,.s zt,.s wz])) (by have:=hd9.lt;omega)).iV (k:=O.N+1) (x:=.cells [.s s1,.s s2,.s s3,.s s4,.s s5,mi sc.1,mi o,.l (Ζ X+1) (X.flatMap cI++cI ⟨sg,sa⟩) (.own OF.N 2)]) (by rw[hbA];simp);simp only[aq]at Lk al1;generalize (OF.set O3.N (.cells [.s zn,.l (Ζ za) (za.flatMap bp) .av,.l (Ζ gJ) (aI gJ) .av,.s zt,.s wz])).after tk=OG at*;refine ak cy hbA ?_;have ew:=jSx j;((have eD:(X++[(⟨sg,sa⟩:iR)]).flatMap cI=X.flatMap cI++cI ⟨sg,sa⟩:=by simp);have uU:(X++[(⟨sg,sa⟩:iR)]).length=Ζ X+1:=by simp);refine ο cy ew ?_;exact aw.N (j+1,X++[(⟨sg,sa⟩:iR)],.own OF.N 2) ⟨by dsimp only;rw[eD,uU];exact Lk,al1,bu,by dsimp only;rw[uU,IN],hP⟩
 intro K9;refine auS (i:=1) (j:=3) ?_ ?_
 ·refine aQ.o1 ?_;refine ak cy (lM _ (VH.Ge.refl _)).2 ?_;refine⟨(lM _ (VH.Ge.refl _)).1,?_⟩;have hG:=VH.Ge.refl O5;refine ab.qQ (i:=3) (rT O5) ?_ ?_;rotate_left
  ·rintro m O9 ⟨bq,h⟩;cases W1 with
   | ok s=>exact h.elim
   | error e=>
     dsimp only at h hP;simp only[pJ]at hP;rw[h, <-hP];refine ae cy ?_;exact⟨gD _ (hG.trans bq),rfl⟩
  rintro m O6 ⟨bq,h⟩;cases W1 with
  | error e=>exact h.elim
  | ok sg=>
  dsimp only at h hP;subst h;simp only[ag]
  replace hG:=hG.trans bq
  clear bq;refine⟨(lM _ hG).1,?_⟩;refine ab.qQ (i:=5) (yC O6) ?_ ?_;rotate_left
  ·rintro m O9 ⟨bq,h⟩;cases W2 with
   | ok s=>exact h.elim
   | error e=>
     dsimp only at h hP;simp only[pJ]at hP;rw[h, <-hP];refine ae cy ?_;exact⟨gD _ (hG.trans bq),rfl⟩
  rintro m OF ⟨bq,h⟩;cases W2 with
  | error e=>exact h.elim
  | ok sa=>
  dsimp only at h hP;subst h;simp only[ag]
  replace hG:=hG.trans bq
  clear bq;refine⟨(lM _ hG).1,?_⟩;refine ρ 6 cy ?_;refine ab.op (i:=7) ?_;refine ae cy ?_;refine⟨(lM _ hG).1,?_⟩;exact K9 (sg,sa) _ _ _ ⟨rfl,rfl,hG⟩ z11 rfl
 ·have hG:=VH.Ge.refl O5;refine aQ.qQ (rT O5) ?_ ?_;rotate_left
  ·rintro m O9 ⟨bq,h⟩;cases W1 with
   | ok s=>exact h.elim
   | error e=>
     dsimp only at h hP;simp only[pJ]at hP;rw[h, <-hP];refine ae cy ?_;exact⟨gD _ (hG.trans bq),rfl⟩
  rintro m O6 ⟨bq,h⟩;cases W1 with
  | error e=>exact h.elim
  | ok sg=>
  dsimp only at h hP;subst h;simp only[ag]
  replace hG:=hG.trans bq
  clear bq;refine⟨(lM _ hG).1,?_⟩;refine auS (i:=1) (j:=5) ?_ ?_
  ·refine aQ.o1 ?_;refine ak cy (lM _ hG).2 ?_;refine⟨(lM _ hG).1,?_⟩;refine ab.qQ (i:=5) (yC O6) ?_ ?_;rotate_left
   ·rintro m O9 ⟨bq,h⟩;cases W2 with
    | ok s=>exact h.elim
    | error e=>
      dsimp only at h hP;simp only[pJ]at hP;rw[h, <-hP];refine ae cy ?_;exact⟨gD _ (hG.trans bq),rfl⟩
   rintro m OF ⟨bq,h⟩;cases W2 with
   | error e=>exact h.elim
   | ok sa=>
   dsimp only at h hP;subst h;simp only[ag]
   replace hG:=hG.trans bq
   clear bq;refine⟨(lM _ hG).1,?_⟩;refine ρ 6 cy ?_;refine ab.op (i:=7) ?_;refine ae cy ?_;refine⟨(lM _ hG).1,?_⟩;exact K9 (sg,sa) _ _ _ ⟨rfl,rfl,hG⟩ z11 rfl
  ·refine aQ.qQ (yC O6) ?_ ?_;rotate_left
   ·rintro m O9 ⟨bq,h⟩;cases W2 with
    | ok s=>exact h.elim
    | error e=>
      dsimp only at h hP;simp only[pJ]at hP;rw[h, <-hP];refine ae cy ?_;exact⟨gD _ (hG.trans bq),rfl⟩
   rintro m OF ⟨bq,h⟩;cases W2 with
   | error e=>exact h.elim
   | ok sa=>
   dsimp only at h hP;subst h;simp only[ag]
   replace hG:=hG.trans bq
   clear bq;refine⟨(lM _ hG).1,?_⟩;refine ρ 6 cy ?_;refine auS (i:=1) (j:=7) ?_ ?_;refine aQ.o1 ?_;refine ak cy (lM _ hG).2 ?_;refine⟨(lM _ hG).1,?_⟩;refine ab.op (i:=7) ?_;refine ae cy ?_;refine⟨(lM _ hG).1,?_⟩;exact K9 (sg,sa) _ _ _ ⟨rfl,rfl,hG⟩ z11 rfl;refine aQ.o1 ?_;refine ae cy ?_;refine⟨(lM _ hG).1,?_⟩;refine ab.op (i:=1) ?_;refine ak cy (lM _ hG).2 ?_;refine⟨(lM _ hG).1,?_⟩;exact K9 (sg,sa) _ _ _ ⟨rfl,rfl,hG⟩ z11 rfl
def nE:=asc cy<|asc GG GF
def qR(bL:Bool):List (Nd×Bs)->List Dp->Except (Int×Bs) (List Dp)
 | [],D=>.ok D
 | k::r,D=>match De k.1 k.2 bL with
   | .error e=>.error e
   | .ok d=>qR bL r (D++[d])
def lN(x:Nd)(w:Bs)(bL:Bool):Except (Int×Bs) (List Dp):=
 match di x w vX with
 | .error e=>.error e
 | .ok ((_,_),γ)=>.ok []
 | .ok ((y,wy),Α)=>match oD y wy C9 with
   | .error e=>.error e
   | .ok L=>qR bL L []
def aaK(x:Nd)(w:Bs)(bL:Bool)(O:VH)(hx:j7 x<=1000000)(hw:Ζ w<=4000):
  VF Ε 203 [.agg (lz x w),mb bL] O (FQ O (lN x w bL) λy m=>∃tk,m= .l (Ζ y) (y.flatMap aG) tk):=by
 have yr:=uZ x w vX;have j6:=kL x;have yu:= @so x w vX;have yx:∀e,di x w vX= .error e->lN x w bL= .error e:=λe h=>by unfold lN;rw[h]
 have pH:∀y wy,di x w vX= .ok ((y,wy),γ)->lN x w bL= .ok []:=λy wy h=>by unfold lN;rw[h]
 have jw:∀y wy,di x w vX= .ok ((y,wy),Α)->lN x w bL=match oD y wy C9 with
  | .error e=>.error e
  | .ok L=>qR bL L []:=λy wy h=>by unfold lN;rw[h]
 generalize lN x w bL=PE at*;generalize di x w vX=F at*;obtain⟨n,a,k,t⟩:=x;generalize hW:j7 (.mk n a k t)=W at*;simp only[lz,eb,an4,ai_]at yr ⊢;refine ω 31 [.tmp 4] func203 ?_;refine κ nE ?_;refine VC.bx ?_;rintro O1 ⟨aM,dz,dq⟩;refine ξ nE dz ?_;refine ah.ex F (yr O1 Λ Λ z12) ?_ ?_;rintro e m O2 rfl ⟨ax,h⟩;dsimp only at h;rw[yx e rfl];refine ae nE ?_;exact⟨aM.trans ax,h⟩;rintro y m O2 rfl ⟨ax,h⟩;obtain⟨⟨y,wy⟩,b⟩:=y;dsimp only at h;subst h;obtain⟨hyW,yy⟩:=yu rfl;have qu:Ζ wy<=4013:=by rw[yy];simp only[Rn,abT,ahB];omega
 clear yu yy yx
 replace jw:b=Α->PE=match oD y wy C9 with
  | .error e=>.error e
  | .ok L=>qR bL L []:=λh=>by subst h;exact jw y wy rfl
 replace pH:b=γ->PE= .ok []:=λh=>by subst h;exact pH y wy rfl
 have Nh:=aaF y wy C9;have aaJ:= @zW y wy C9;generalize oD y wy C9=LE at*;obtain⟨yn,ya,yk,yt⟩:=y;generalize hWy:j7 (.mk yn ya yk yt)=Wy at*;simp only[lz,eb,an4,ai_]at Nh ⊢;have ei:=aM.trans ax;refine ae nE ?_;refine VC.al ?_;rintro O3 ⟨aB,Tr,ea⟩;have dk:=ei.trans aB;cases b;rw[pH rfl];refine ν nE ?_;exact⟨dk,.nil,rfl⟩
 replace jw:=jw rfl
 clear pH;refine κ nE ?_;refine VC.join aa [4] (λx:List Dp×Tok=>[.l (Ζ x.1) (x.1.flatMap aG) x.2]) (λx O'=>O.Ge O'/\PE= .ok x.1) ?_ ?_;rotate_left;rintro⟨L,tl⟩ O9 ⟨bq,hP⟩;rw[hP];refine ae nE ?_;exact⟨bq,tl,rfl⟩;refine ξ nE Tr ?_;refine ah.ex LE (Nh O3 Λ Λ z12) ?_ ?_;rintro e m O9 rfl ⟨bq,h⟩;dsimp only at h jw;rw[h,jw];refine ae nE ?_;exact⟨dk.trans bq,rfl⟩;rintro L m O4 rfl ⟨aV,h⟩;dsimp only at h jw;obtain⟨tL,rfl⟩:=h;obtain⟨nR,hLm⟩:=aaJ rfl;have jk:=dk.trans aV;refine ae nE ?_;refine Γ ?_;refine Υ [4,19] [1,17,18] (λx:Nat×List Dp×Tok=>[.l (Ζ x.2.1) (x.2.1.flatMap aG) x.2.2,mi x.1]) (λx O'=>O4.Ge O'/\App O' O4.N 8 x.2.2/\x.1<=(Ζ L)/\(Ζ x.2.1)=x.1/\PE=qR bL (L.drop x.1) x.2.1) (λx=>(Ζ L) - x.1) ((0,[],.nil)) ?_ ?_;exact⟨VH.Ge.refl _,trivial,an6 _,rfl,jw⟩;rintro⟨j,X,tk⟩ O5 ⟨bB,cQ,hj,IN,hP⟩;dsimp only at cQ hj IN hP ⊢;by_cases bu:j<Ζ L;rotate_left
 ·obtain rfl:j=Ζ L:=Λ
  rw[apJ (an3 _),qR]at hP;refine ν nE ?_;exact aE.mk (X,tk) ⟨jk.trans bB,hP⟩
 have bh:((u9 L).drop (j*5)).take 5=lz L[j].1 L[j].2:=bY I7 L j bu;have hL5:=zU L;rw[alp bu,qR]at hP;obtain⟨hzW,Tx⟩:=hLm L[j] (apH bu);generalize L[j]=zz at*;obtain⟨z,wz⟩:=zz;dsimp only at hzW Tx hP bh;have Df:=λO'=>aoM z wz bL O' Λ (by simp only[abT,ahB]at Tx;omega)
 generalize De z wz bL=W1 at*;obtain⟨zn,za,gJ,zt⟩:=z;simp only[lz,eb,an4,ai_]at bh Df;have ie:=bB.N;refine κ nE ?_;refine κ nE ?_;refine Δ (Γ ?_);refine ξ nE bh ?_;refine VC.al ?_;rintro O6 ⟨dU,nV,mQ⟩;have iU:=cQ.ge dU;have yz:=bB.trans dU;refine ο nE nV ?_;refine ah.ex W1 (Df O6) ?_ ?_;rintro e m O9 rfl ⟨bq,h⟩;dsimp only at h hP;rw[h,hP];refine ae nE ?_;exact⟨(jk.trans yz).trans bq,rfl⟩;rintro d m O7 rfl ⟨dB,h⟩;dsimp only at h hP;subst h;have jl:=iU.ge dB;have al2:=yz.trans dB;have ew:=jSx j;have hud:de (aG d)=aG d:=by simpa using iC [d]
 obtain⟨dg,da,dv,dt,dc,gl,dO,dx⟩:=d;have rZ:(aG ⟨dg,da,dv,dt,dc,gl,dO,dx⟩).length=8:=rfl;obtain⟨mE,iT,oX⟩:=jj (n:=Ζ X) (cs:=X.flatMap aG) (ds:=aG ⟨dg,da,dv,dt,dc,gl,dO,dx⟩) (es:=aG ⟨dg,da,dv,dt,dc,gl,dO,dx⟩) GG GF.1.1 jl (aP cW X) rfl rfl z12 Λ z13 (iC X) hud;simp only[aG,aq]at iT oX ⊢;refine ae nE ?_;refine VL.o7 iT oX ?_;refine ae nE ?_;refine ο nE ew ?_;exact aw.N (j+1,X++[⟨dg,da,dv,dt,dc,gl,dO,dx⟩],.own O7.N 8) ⟨dR.fS al2 jl (dR.after jl),App.after (by have:=al2.N;omega),bu,by dsimp only;rw[Rn,IN];rfl,hP⟩ (hl:=(by dsimp only;rw[auo,Rn];simp only[List.flatMap_cons,List.flatMap_nil,apG,aG,aq];rfl))
def ay:=asc bG<|asc alR<|asc aqD<|asc aqE<|asc aqG aqC
def Dg(e:Int)(off:Nat):MV:=.iface 338 (.agg [mi e,mi off])
def aqV :BF 338 (iv Ε 338) (φ p)=φ (.iface 338 p):=by rw[alR.1.1];rfl
def jm(e:Int)(off:Nat)(O:VH):VF Ε 267 [mi e,mi off] O λr O'=>O'=O/\match r with
  | .ret _=>False
  | .panic m=>m=Dg e off:=by
 refine χ 8 [] func267 ?_;refine bo ay @wi @wd @aqV ?_;refine VL.panic rfl rfl rfl ?_;refine ae @wd ?_;rfl
def Rd(O:VH)(k:Nat)(t:Bs)(off:Nat)(X:MV):Prop:=k<O.N/\O.hp k=φ (.cells [.s t,mi off,X])
def Rd.ge(h:Rd O k t off X)(g:O.Ge O'):Rd O' k t off X:=⟨aev h.1 g.N,(g.hp _ h.1).trans h.2⟩
def Rd.set{off':Nat}{t':Bs}{X':MV}(h:Rd O k t off X):Rd (O.set k (.cells [.s t',mi off',X'])) k t' off' X':=⟨h.1,υ _ _ _⟩
def zX(h:Rd O k t off X)(ho:off<=Ζ t):VF Ε 265 [.p k 0] O (aC λm O'=>m= .s (t.drop off)/\O'=O):=by
 have hk:=h.2;simp only[aq]at hk;refine ω 12 [.tmp 2] func265 ?_;refine κ ay ?_;refine Δ ?_;refine WC.reads ?_;refine ak ay hk ?_;refine ν ay ?_;trivial
def oF(h:Rd O k t off X):VF Ε 214 [.p k 0] O (aC λm O'=>m=mb (decide (Ζ t<=off))/\O'=O):=by
 have hk:=h.2;simp only[aq]at hk;refine ω 13 [.tmp 2] func214 ?_;refine κ ay ?_;refine Δ ?_;refine WC.reads ?_;by_cases h1:Ζ t<=off;rw[decide_eq_true h1];refine ak ay hk ?_;refine ν ay ?_;trivial;rw[decide_eq_false h1];refine ak ay hk ?_;refine ν ay ?_;trivial
def yD(p:Bs)(h:Rd O k t off X)(ho:off<=Ζ t:=by omega):VF Ε 238 [.p k 0,.s p] O (aC λm O'=>m=mb (fV (t.drop off) p)/\O'=O):=by
 refine χ 9 [.tmp 4] func238 ?_;refine ae ay ?_;refine Ω (zX h ho) ?_;refine ae ay ?_;refine Ω (oE (t.drop off) p _) ?_;exact ez ay
def TQ{α :Type}(O:VH)(k:Nat)(t:Bs)(X:MV)(f:Except (Int×Nat) (α ×Nat))(R: α ->MV->Prop):gm->VH->Prop:=λr O'=>aL O (φ k) O'/\match r,f with
 | .ret m,.ok x=>R x.1 m/\Rd O' k t x.2 X
 | .panic m,.error e=>m=Dg e.1 e.2
 | _,_=>False
def mT(t:Bs)(off:Nat)(p:Bs):Except (Int×Nat) (Unit×Nat):=
 if (Ζ t)<=off then .error (13,off)else if fV (t.drop off) p then .ok ((),off+Ζ p)else .error (10,off)
def Ho(p:Bs)(h:Rd O k t off X)(ht:Ζ t<=1000000)(hp:Ζ p<=1000):VF Ε 243 [.p k 0,.s p] O (TQ O k t X (mT t off p) λ_ m=>m= .tuple []):=by
 have hk:=h.2;simp only[aq]at hk;unfold mT;refine ω 37 [] func243 ?_;refine κ ay ?_;refine Ω (oF h) ?_;by_cases h1:Ζ t<=off;rw[decide_eq_true h1,if_pos h1];refine ak ay hk ?_;refine η (jm _ _ _) ?_;refine ae ay ?_;exact⟨aL.refl _ _,rfl⟩;rw[decide_eq_false h1,if_neg h1];refine ak ay hk ?_;refine ξ ay hk ?_;refine Ω (yD p h) ?_;cases h2:fV (t.drop off) p;refine ak ay hk ?_;refine η (jm _ _ _) ?_;refine ae ay ?_;exact⟨aL.refl _ _,rfl⟩;refine ak ay hk ?_;refine ο ay hk ?_;exact⟨aL.set,rfl,by simpa[aq]using h.set (t':=t) (off':=off+Ζ p) (X':=X)⟩
def oG(t:Bs)(off:Nat)(e:Int):Except (Int×Nat) (Bs×Nat):=
 if (Ζ t)<=off then .error (13,off)else if mZ (t.drop off)=0 then .error (e,off)else .ok ((t.drop off).take (mZ (t.drop off)),off+mZ (t.drop off))
def Qd(e:Int)(h:Rd O k t off X)(ht:Ζ t<=1000000):VF Ε 241 [.p k 0,mi e] O (TQ O k t X (oG t off e) λy m=>m= .s y):=by
 have hk:=h.2;have Dd:=FV (t.drop off);rw[TR]at Dd;have Ty:=ako (t.drop off) O (an7 (by rw[TR];omega:(t.drop off).length<=1000000) z12);simp only[aq]at hk;unfold oG;generalize mZ (t.drop off)=n at*;refine ω 58 [.tmp 4] func241 ?_;refine κ ay ?_;refine κ ay ?_;refine Ω (oF h) ?_;by_cases h1:Ζ t<=off;rw[decide_eq_true h1,if_pos h1];refine ak ay hk ?_;refine η (jm _ _ _) ?_;refine ae ay ?_;exact⟨aL.refl _ _,rfl⟩;rw[decide_eq_false h1,if_neg h1];refine ak ay hk ?_;refine ξ ay hk ?_;refine Ω (zX h Λ) ?_;refine ae ay ?_;refine Ω (Ty) ?_;refine ae ay ?_;by_cases h2:n=0;rw[if_pos h2];refine θ (aF ay hk h2 ?_);refine η (jm _ _ _) ?_;refine ae ay ?_;exact⟨aL.refl _ _,rfl⟩;rw[if_neg h2];refine ξ @ay @hk ?_;refine ξ @ay @hk ?_;have hr:Rd (O.set k (.cells [.s t,mi (off+n:Nat),X])) k t (off+n) X:=h.set;have bC:=hr.2;have hu:aL O (φ k) (O.set k (.cells [.s t,mi (off+n:Nat),X])):=aL.set;have pK:(off:Int)+(n:Int)=((off+n:Nat):Int):=Λ
 simp only[aq, <-pK]at hr bC hu;generalize O.set k (.cells [.s t,.v (Ι Κ ((off:Int)+(n:Int))),X])=O2 at*;have Tz:(off:Int)+(n:Int) - (n:Int)=(off:Int):=Λ
 have v8:((off:Int)+(n:Int)).toNat=off+n:=Λ
 refine Δ ?_;refine WC.reads ?_;refine bo ay bC Tz v8 ?_;refine ν ay ?_;exact⟨hu,by rw[show off+n - off=n by omega],hr⟩
def l0(t:Bs)(off:Nat):Nat:=((t.drop off).takeWhile ib).length
def v_(h:Rd O k t off X)(ht:Ζ t<=1000000)(ho:off<=Ζ t):VF Ε 242 [.p k 0] O (TQ O k t X (.ok (l0 t off,off+l0 t off)) λy m=>m=mi y):=by
 have hk:=h.2;simp only[aq]at hk;refine ω 44 [.tmp 2] func242 ?_;refine κ ay ?_;refine ξ ay hk ?_;refine Ξ [0,3] (λ_:Unit=>[.p k 0,mi off]) (λ_ O'=>aL O (φ k) O'/\Rd O' k t (off+l0 t off) X) ?_ ?_;rotate_left;rintro⟨⟩ O2 ⟨hu,hr⟩;have bC:=hr.2;(have Tz:((off+l0 t off:Nat):Int) - (off:Int)=(l0 t off:Int):=Λ;have si:l0 t off<=Ζ t:=by unfold l0;exact an7 (nc _ _) (by rw[TR];omega));generalize l0 t off=n at*;simp only[aq]at bC;refine θ (aF ay bC Tz ?_);refine ν ay ?_;exact⟨hu,rfl,hr⟩
 refine Γ ?_;refine Υ [] [0,3] (λo:Nat=>[]) (λo O'=>aL O (φ k) O'/\Rd O' k t o X/\off<=o/\o<=(Ζ t)/\off+l0 t off=o+l0 t o) (λo=>(Ζ t) - o) (off) ?_ ?_;exact⟨aL.refl _ _,h,an3 _,ho,rfl⟩;rintro o O2 ⟨hu,hr,XV,La,si⟩;have bC:=hr.2;simp only[aq]at bC;by_cases h1:Ζ t<=o
 ·(have h0:l0 t o=0:=by unfold l0;rw[apJ h1];rfl);rw[h0,aus]at si;refine Δ (Δ ?_);refine VC.ot [4,5,6,7,8,9,10,11,12,13,14,15,16,17,18] ?_;refine ρ 0 ay ?_;refine ρ 1 ay ?_;refine ρ 2 ay ?_;refine ab.call (i:=3) (oF hr) ?_;rintro _ O3 ⟨rfl,eO⟩;simp only[ag];rw[eO];clear eO O3
  rw[decide_eq_true h1];refine⟨VH.Ge.refl _,?_⟩;refine ab.bM [(4,.au),(5,.au),(6,.au),(7,.au),(8,.au),(9,.au),(10,.au),(11,.au),(12,.au),(13,.au),(14,.au),(15,.au),(16,.au),(17,.au),(18,.au)] ?_;refine ae ay ?_;refine ν ay ?_;exact aE.mk () ⟨hu,si▸hr⟩
 ·have h2:o<Ζ t:=Λ
  have hg:=ai8 h2;have hd:=alp h2
  have uP:l0 t o=if ib t[o]then 1+l0 t (o+1)else 0:=by
   unfold l0;rw[hd];cases hb:ib t[o];rw[ats (by simp[hb])];rfl;rw[atM hb,abT,if_pos rfl,Nat.add_comm]
  generalize t[o]=c at*;refine Δ (Δ ?_);refine VC.ot [] ?_;refine ρ 0 ay ?_;refine ρ 1 ay ?_;refine ρ 2 ay ?_;refine ab.call (i:=3) (oF hr) ?_;rintro _ O3 ⟨rfl,eO⟩;simp only[ag];rw[eO];clear eO O3;rw[decide_eq_false h1];refine⟨VH.Ge.refl _,?_⟩;refine ρ 4 ay ?_;refine ρ 5 ay ?_;refine ρ 6 ay ?_;refine ρ 7 ay ?_;refine ρ 8 ay ?_;refine ρ 9 ay ?_;refine auU (m:=.s t) 10 ?_ ?_;exact dT ay bC;simp only[ag];refine ρ 11 ay ?_;refine ρ 12 ay ?_;refine ρ 13 ay ?_;refine ρ 14 ay ?_;refine auU (m:=.v (Ι Κ o)) 15 ?_ ?_;exact dT ay bC;simp only[ag];refine auW 16 ay hg ?_;refine ab.call (i:=17) (pB c _) ?_;rintro _ O3 ⟨rfl,eO⟩;simp only[ag];rw[eO];clear eO O3;refine⟨VH.Ge.refl _,?_⟩;refine ρ 18 ay ?_;refine ab.bM [] ?_;cases hb:ib c;rw[hb,if_neg z10]at uP;rw[uP,aus]at si;refine ae ay ?_;refine ν ay ?_;exact aE.mk () ⟨hu,si▸hr⟩;rw[hb,if_pos rfl]at uP;refine ae ay ?_;refine ν ay ?_;refine ο ay bC ?_;exact aw.N (o+1) ⟨hu.trans aL.set,by simpa[aq]using hr.set (t':=t) (off':=o+1) (X':=X),Λ,h2,Λ⟩
def eJ:=asc ay T32
def I_(s:Ρ)(c:UInt8)(O:VH):eY Ε 249 [.s s,ef c] O λm O'=>m=mi (s.count c:Nat)/\O'=O:=by
 refine eY.of (ex:=Extern.BytealgCount.count) func249 z11 z11 z11 z11 λG w vs hw hv=>?_
 obtain⟨u,us,rfl,h1,h2⟩:=hv.eX;obtain⟨u2,us2,rfl,h3,h4⟩:=h2.eX;rw[h4.jd];cases h1;have:=h3.jq;subst this;refine⟨_,Lib.run_countString _ _ w,?_⟩;have e:((c.toNat:Int).toNat).toUInt8=c:=by simp
 rw[e];exact .v rfl
def adG(s:Ρ)(c:UInt8)(O:VH):VF Ε 221 [.s s,.s [c]] O (aC λm O'=>m=mi (s.count c:Nat)/\O'=O):=by
 refine χ 34 [.tmp 4] func221 ?_;refine aF ay @abT.{0} @ahB.{0} ?_;refine ah.ext (I_ s c O) rfl ?_;rintro _ O2 ⟨rfl,eO⟩;rw[eO];clear eO O2;exact ez ay
def gF(s:Bs)(c:UInt8):Nat->Int
 | 0=> -1
 | n+1=>if s[n]?=φ c then(n:Int)else gF s c n
def Ja(s:Bs)(c:UInt8):∀n, -1<=gF s c n/\gF s c n<n
 | 0=>by simp[gF]
 | n+1=>by
   have:=Ja s c n;unfold gF;split<;>omega
def oH(s:Ρ)(c:UInt8)(O:VH)(hs:Ζ s<=1000000):VF Ε 246 [.s s,ef c] O (aC λm O'=>m=mi (gF s c (Ζ s))/\O'=O):=by
 refine χ 19 [.tmp 4] func246 ?_;refine ae ay ?_;refine WC.cj [5] [0,1] (λj:Nat=>[mi ((j:Int) - 1)]) (λj O'=>O'=O/\j<=(Ζ s)/\gF s c (Ζ s)=gF s c j) (λj=>j) (Ζ s) ?_ ?_;exact⟨rfl,an3 _,rfl⟩;rintro j O2 ⟨eO,hj,hl⟩;rw[eO];clear eO O2;rcases j with _ | n;refine ae ay ?_;rw[hl];rfl;have hg:=ai8 (show n<(Ζ s) by omega);have v8:(((n+1:Nat):Int) - 1).toNat=n:=Λ
 rw[show gF s c (n+1)=if s[n]?=φ c then(n:Int)else gF s c n from rfl,hg]at hl;generalize hx:s[n]=d at*;by_cases hd:d=c;rw[hd]at hl hg;rw[if_pos rfl]at hl;refine bo ay hg v8 @aA ?_;rw[hl]
 ·have nS:¬((d.toNat:Int)=(c.toNat:Int)):=λe=>hd (UInt8.toNat_inj.1 Λ)
  rw[if_neg (by simpa using hd)]at hl;refine gy ay hg v8 @aA nS ?_;refine aw.N (n) ?_;exact⟨rfl,Λ,hl⟩
def Ll(s:Ρ)(c:UInt8)(O:VH)(hs:Ζ s<=1000000):VF Ε 222 [.s s,.s [c]] O (aC λm O'=>m=mi (gF s c (Ζ s))/\O'=O):=by
 refine χ 36 [.tmp 4] func222 ?_;refine aF ay @abT.{0} @ahB.{0} ?_;refine Ω (oH s c O hs) ?_;exact ez ay
def ED(s:Ρ)(c:UInt8)(O:VH)(hs:Ζ s<=1000000):VF Ε 216 [.s s,ef c] O (aC λm O'=>m=mi (gF s c (Ζ s))/\O'=O):=by
 refine χ 8 [.tmp 4] func216 ?_;refine ae ay ?_;refine Ω (oH s c O hs) ?_;exact ez ay
def p8(t:Bs)(o:Nat):MV:=.agg [mi o,mi (1+((t.take o).count 10:Nat)),mi ((o:Int) - gF (t.take o) 10 (t.take o).length)]
def al3(t:Bs)(o:Nat)(O:VH)(ht:Ζ t<=1000000)(ho:o<=Ζ t):VF Ε 196 [.s t,mi o] O (aC λm O'=>m=p8 t o/\O.Ge O'):=by
 have hb:=Ja (t.take o) 10 (t.take o).length;have hc:=List.count_le_length (a:=(10:UInt8)) (l:=t.take o);have bI:(t.take o).length<=1000000:=by rw[List.length_take];omega
 unfold p8;refine χ 23 [.cell 4 32] func196 ?_;have An:max (0:Int) (min (o:Int) ((t:Ρ).length:Int))=(o:Int):=Λ
 have v8:((o:Int)).toNat=o:=Λ
 refine aF eJ An v8 ?_;refine Ω (adG (t.take o) 10 _) ?_;refine ae eJ ?_;refine Ω (Ll (t.take o) 10 _ bI) ?_;generalize gF (t.take o) 10 (t.take o).length=a at*;generalize (t.take o).count 10=b at*;refine ae eJ ?_;first | exact(VH.Ge.refl O).push _ | exact((VH.Ge.refl O).push _).set (an3 _) _
open Go.Shelf
def Tryz.Qe:Go.Shelf.Ren:=⟨λ | 143=>86 | 219=>114 | 217=>141 | 225=>142 | 224=>143 | 267=>144 | 266=>170 | 314=>171 | n=>n,λ | 9=>9 | 3=>3 | 4=>4 | 5=>5 | 46=>267 | 146=>291 | 51=>83 | n=>n,λ | 1=>0 | n=>n⟩
def Tryz.agw:Go.Proofs.Lays.n143 Ε Tryz.Qe:={
 mixed:=by kernel_rfl
 f143:=func86.trans (congrArg φ z11)
 f217:=func141.trans (congrArg φ z11)
 f219:=func114.trans (congrArg φ z11)
 f224:=func143.trans (congrArg φ z11)
 f225:=func142.trans (congrArg φ z11)
 f266:=func170.trans (congrArg φ z11)
 f267:=func144.trans (congrArg φ z11)
 f314:=func171.trans (congrArg φ z11)
 t3:=Tryz.underlying3
 a3:=Tryz.isAgg3
 z3:=Tryz.sizeOf3
 v3:=Tryz.zeroValue3
 t4:=Tryz.underlying4
 a4:=Tryz.isAgg4
 z4:=Tryz.sizeOf4
 v4:=Tryz.zeroValue4
 t5:=Tryz.underlying5
 a5:=Tryz.isAgg5
 z5:=Tryz.sizeOf5
 v5:=Tryz.zeroValue5
 t9:=Tryz.underlying9
 a9:=Tryz.isAgg9
 z9:=Tryz.sizeOf9
 v9:=Tryz.zeroValue9
 t46:=Tryz.underlying267
 a46:=Tryz.isAgg267
 z46:=Tryz.sizeOf267
 v46:=Tryz.zeroValue267
 t51:=Tryz.underlying83
 a51:=Tryz.isAgg83
 z51:=Tryz.sizeOf83
 v51:=Tryz.zeroValue83
 t146:=Tryz.underlying291
 a146:=Tryz.isAgg291
 z146:=Tryz.sizeOf291
 v146:=Tryz.zeroValue291
 g1:=by kernel_rfl}
open Go.RowKit Go.Lib in
def Tryz.strings_Index(s sub:ByteArray)(m:Int)(w:World)(hs:s.size<4294967281)(hm:w.cell? ⟨0,0,Β⟩=φ (.int .i64 m)):
  Calls Ε 86 #[.string s,.string sub] w λe w'=>e= .returned (.int .i64 (Lib.index s.data.toList sub.data.toList))/\w'=w:=Any.strings_Index Tryz.agw s sub m w hs hm
def TA(s p:Ρ)(O:VH)(hs:Ζ s<4294967281):VF Ε 86 [.s s,.s p] O (aC λm O'=>m=mi (Lib.index s p)/\O'=O):=by
 intro G w vs hw hv;obtain⟨u,us,rfl,h1,h2⟩:=hv.eX;obtain⟨u2,us2,rfl,h3,h4⟩:=h2.eX;rw[h4.jd];cases h1;cases h3;obtain⟨m,hm⟩:=hw.apL (g:=0) z12;refine(Tryz.strings_Index ⟨⟨s⟩⟩ ⟨⟨p⟩⟩ m w hs hm).mono λe w' ⟨he,D5⟩=>?_
 subst D5;subst he;exact⟨.ret (mi (Lib.index s p)),O,G,Gh.Le.refl G,hw,.v rfl,rfl,rfl⟩
def index_le:∀(s p:Bs),Lib.index s p<=(Ζ s:Int)
 | [],p=>by unfold Lib.index;split<;>simp
 | b::l,p=>by
   have:=index_le l p;unfold Lib.index;rw[abT];split;omega;split<;>omega
def agx{f:UInt8->Bool}:∀(s:Bs)(j:Nat)(c:UInt8),s[j]?=φ c->j<=(s.takeWhile f).length->if f c then j+1<=(s.takeWhile f).length else(s.takeWhile f).length=j
 | [],j,c,hj,_=>by simp at hj
 | d::s,0,c,hj,_=>by
   simp only[auE,Option.some.injEq]at hj;subst hj;cases h:f d<;>simp[List.takeWhile,h]
 | d::s,j+1,c,hj,h=>by
   rw[auF]at hj;cases hc:f d;rw[ats (by simp[hc])]at h;simp at h;rw[atM hc,abT]at h ⊢;have:=agx (f:=f) s j c hj Λ;cases hfc:f c;simp only[hfc,Bool.false_eq_true,if_false]at this ⊢;omega;simp only[hfc,if_true]at this ⊢;omega
def su(s p:Bs):Bs:=if 0<=Lib.index s p then s.take (Lib.index s p).toNat else s
def jJ(t:Bs)(o:Nat)(p:Bs):Except (Int×Nat) (Bs×Nat):=
 if((su (t.drop o) p).takeWhile qs).length<(su (t.drop o) p).length then .error (10,o+((su (t.drop o) p).takeWhile qs).length)
 else if Lib.index (t.drop o) p<0 then .error (13,Ζ t)else .ok (su (t.drop o) p,o+(Lib.index (t.drop o) p).toNat+Ζ p)
def Jb(fr p:Bs)(h:Rd O k t off X)(ht:Ζ t<=1000000)(hp:Ζ p<=1000)(ho:off+Ζ fr<=Ζ t):
  VF Ε 239 [.p k 0,.s fr,.s p] O (TQ O k t X (jJ t (off+Ζ fr) p) λy m=>m= .s y):=by
 have hk:=h.2;have hr:Rd (O.set k (.cells [.s t,mi (off+Ζ fr:Nat),X])) k t (off+Ζ fr) X:=h.set;have hu:aL O (φ k) (O.set k (.cells [.s t,mi (off+Ζ fr:Nat),X])):=aL.set;have pK:(off:Int)+(Ζ fr:Int)=((off+Ζ fr:Nat):Int):=Λ
 simp only[aq, <-pK]at hk hr hu;refine ω 78 [.tmp 6] func239 ?_;refine κ ay ?_;refine ξ ay hk ?_;generalize O.set k (.cells [.s t,.v (Ι Κ ((off:Int)+(Ζ fr:Int))),X])=O2 at*;generalize hoo:off+Ζ fr=o at*;have bC:=hr.2;simp only[aq]at bC;unfold jJ;refine κ ay ?_;refine Ω (zX hr ho) ?_;refine ae ay ?_;refine Ω (TA (t.drop o) p _ (by rw[TR];omega)) ?_;refine ae ay ?_;refine κ ay ?_;refine Ω (zX hr ho) ?_;refine ae ay ?_;have dq:=Lib.index_ge (t.drop o) p;have eG:Lib.index (t.drop o) p<=((t.drop o).length:Int):=index_le _ _;have kO:su (t.drop o) p=if 0<=Lib.index (t.drop o) p then(t.drop o).take (Lib.index (t.drop o) p).toNat else t.drop o:=rfl
 have uU:(su (t.drop o) p).length<=1000000:=by
  rw[kO];split;rw[an2,TR];omega;rw[TR];omega
 generalize su (t.drop o) p=s at*;generalize Lib.index (t.drop o) p=n at*;refine Ξ [0,2,7,8] (λ_:Unit=>[.p k 0,.s p,.v (Ι Κ n),.s s]) (λ_ O'=>O'=O2) ?_ ?_;rw[TR]at eG;by_cases h0:0<=n;rw[if_pos h0]at kO;subst kO;obtain⟨N,rfl⟩:=Int.eq_ofNat_of_zero_le h0;((have hN:N<=(t.drop o).length:=by rw[TR];omega);have v8:(N:Int).toNat=N:=rfl;refine ae ay ?_;refine ο ay v8 ?_;exact aE.mk () rfl);rw[if_neg h0]at kO;subst kO;refine ak ay h0 ?_;refine ν ay ?_;exact aE.mk () rfl
 rintro⟨⟩ O3 eO;rw[eO];clear eO O3;refine κ ay ?_;clear kO;have htw:=nc qs s;refine Υ [38] [0,2,7,8,37] (λj:Nat=>[mi j]) (λj O'=>O'=O2/\j<=(Ζ s)/\j<=(s.takeWhile qs).length) (λj=>(Ζ s) - j) (0) ?_ ?_;exact⟨rfl,an6 _,an6 _⟩;rintro j O3 ⟨eO,hj,hjt⟩;rw[eO];clear eO O3;by_cases h1:j<Ζ s;have hg:=ai8 h1;have eD:=agx (f:=qs) s j _ hg hjt;generalize s[j]=c at*;cases hc:qs c;rw[hc,if_neg z10]at eD;rw[if_pos Λ,eD];refine κ ay ?_;refine κ ay ?_;refine ξ ay hg ?_;refine Ω (zQ c _) ?_;rw[hc];refine ak ay bC ?_;refine η (jm 10 (o+j) _) ?_;refine ae ay ?_;exact⟨hu,rfl⟩;rw[hc,if_pos rfl]at eD;refine κ ay ?_;refine κ ay ?_;refine ξ ay hg ?_;refine Ω (zQ c _) ?_;rw[hc];refine ak ay bC ?_;refine ν ay ?_;exact aw.N (j+1) ⟨rfl,h1,eD⟩
 ·have bu:j=Ζ s:=Λ
  subst bu;refine κ ay ?_;refine ν ay ?_;rw[if_neg Λ];by_cases h2:n<0;rw[if_pos h2];refine ξ ay bC ?_;refine η (jm 13 (Ζ t) _) ?_;refine ae ay ?_;exact⟨hu,rfl⟩;rw[if_neg h2];refine ξ ay bC ?_;((have h3:(n.toNat:Int)=n:=Λ;have h4:n<=1000000:=by rw[TR]at eG;omega);refine ξ @ay @bC ?_;refine ν @ay ?_;have en:(o:Int)+(n+(Ζ p:Int))=((o+n.toNat+Ζ p:Nat):Int):=by omega);rw[en];exact⟨hu.trans aL.set,rfl,by simpa[aq]using hr.set (t':=t) (off':=o+n.toNat+Ζ p) (X':=X)⟩
def yE(s:Bs):Bool:=fV s [60,63,120,109,108]&&decide (5<Ζ s)&&(ib (s.getD 5 0)||s.getD 5 0==63)
def adH(h:Rd O k t off X)(ht:Ζ t<=1000000)(ho:off<=Ζ t):VF Ε 240 [.p k 0] O (aC λm O'=>m=mb (yE (t.drop off))/\O'=O):=by
 unfold yE;refine χ 25 [.tmp 2] func240 ?_;refine ae ay ?_;refine Ω (zX h ho) ?_;have hl:(t.drop off).length<=1000000:=by rw[TR];omega
 generalize t.drop off=s at*;refine ae ay ?_;refine Ω (oE s [60,63,120,109,108] _) ?_;cases h1:fV s [60,63,120,109,108];exact ez ay;by_cases h2:5<Ζ s
 ·have hg:=ai8 h2;(have hd:s.getD 5 0=s[5]:=by simp[List.getD,hg]);rw[decide_eq_true h2,hd];generalize s[5]=c at*;refine ak ay hg ?_;refine Ω (pB c _) ?_;cases h3:ib c
  ·by_cases h4:c=63;subst h4;refine aF ay hg @aA ?_;rfl
   ·have h5:¬((c.toNat:Int)=63):=λe=>h4 (UInt8.toNat_inj.1 (by simpa using(by omega:c.toNat=63)))
    rw[show(c==63)=γ by simpa using h4];exact xi ay hg @aA h5
  ·exact ez ay
 ·rw[decide_eq_false h2];exact ez ay
section
variable{G:Gh}{O:VH}{w:World}{n:Sz}{D:List Deferred}{e:Env}{P:Program}{tab:cB}{ops:Array Oper}{Q:VQ}{u:Value}
def Ni(k:Int):Bs:=(Utf8.encode k).data.toList
def adI(ht:aN P tab)(h:WR G O w){src dst el:TypeId}{k:Int}(hs:(tab src).map cg.under=φ (.slice el))(hd:(tab dst).map cg.under=φ .string)(he:(tab el).map cg.under=φ (.int .i32))
  (hx:VR G (.l 1 [.v (.int .i32 k)] tk) u):ik P (convert src dst u) w G O (.s (Ni k)):=by
 cases hx with
 | l h1 h2 h3 h4 h5 h6=>
   rename_i us c b o
   have h7:us=[.int .i32 k]:=by
    match us,h1 with
    | [x],_=>rw[(h3 0 _ x rfl rfl).jq]
   subst h7;refine⟨_,w,G,?_,Gh.Le.refl G,h,.s,jN.refl _ _⟩;rw[run_convert_runes_string w src dst el _ _ _ (bm ht hs) (bm ht he) (bm ht hd)]
   have h8:=run_loadCells_list (P:=P) w ⟨b,o,Β⟩ [Value.int .i32 k] (λj v hv=>by
    rw[Addr.add_lit];exact h.fm _ _ _ (h2 j v hv))
   rw[run_runesToString (P:=P) w ⟨b,o,Β⟩ 1 c [k] h8];congr 2
def VL.Jc(ht:aN P tab){src dst el:TypeId}{x:Operand}{ty:TypeId}{L:List (Fl×Oper)}{k:Int} 
  (hg:aK ops (.mk d (.convert src dst x) ty ps af g) e=φ Α) (hx:ev e x=φ (.l 1 [.v (.int .i32 k)] tk)) (hs:(tab src).map cg.under=φ (.slice el)) (vK:(tab dst).map cg.under=φ .string) (he:(tab el).map cg.under=φ (.int .i32)) (hd:bj n d=Α)
  (h:WL P tab n D .plain ops Q L (aU d (.s (Ni k)) e) O):VL P n D .plain ops ((.one,.mk d (.convert src dst x) ty ps af g)::L) e O Q:=by
 refine VL.Eg (M:=λm O'=>m= .s (Ni k)/\O'=O) hg hd (λG a w hw hf=>?_) ?_;exact⟨_,_,⟨rfl,rfl⟩,dW.of (adI (P:=P) ht hw hs vK he (hf.ev hx)) (by simp[execOp])⟩;rintro m O' ⟨rfl,rfl⟩;exact WL.sound ht h
end
def bU:=asc ay<|asc PJ MF
def isLet(k:Nat):Bool:=decide (k=9\/k=10\/k=13\/(32<=k/\k<=1114111/\¬(55296<=k/\k<=57343)))
def F3(k:Nat):Bs:=if isLet k then Ni k else[]
def TB{k:Nat}(h:isLet k=Α):IntKind.i32.wrap (k:Int)=k:=by
 have hk:k<=1114111:=by
  simp only[isLet,decide_eq_true_eq]at h;omega
 clear h;simp only[IntKind.wrap,IntKind.signed,IntKind.bits];simp;omega
def adJ(k:Nat)(O:VH)(hk:k<=1000000000000):VF Ε 281 [mi k] O (aC λm O'=>m= .tuple [.s (F3 k),mb (isLet k)]/\O'=O):=by
 have yes:isLet k=Α->F3 k=Ni k:=λh=>by unfold F3;rw[h];rfl
 have no:isLet k=γ->F3 k=[]:=λh=>by unfold F3;rw[h];rfl
 have hw:= @TB k;refine χ 37 [.tmp 2,.tmp 3] func281 ?_;by_cases h1:k=9;have h0:isLet k=Α:=decide_eq_true (.inl h1);subst h1;have hw:=hw h0;rw[yes h0,h0];refine ae bU ?_;refine VL.Jc aa rfl rfl (by rw[MF];rfl) z21 (by rw[PJ];rfl) rfl ?_;refine ak bU @hw ?_;trivial;by_cases h2:k=10;have h0:isLet k=Α:=decide_eq_true (.inr (.inl h2));subst h2;have hw:=hw h0;rw[yes h0,h0];refine ae bU ?_;refine VL.Jc aa rfl rfl (by rw[MF];rfl) z21 (by rw[PJ];rfl) rfl ?_;refine ak bU @hw ?_;trivial;by_cases h3:k=13;have h0:isLet k=Α:=decide_eq_true (.inr (.inr (.inl h3)));subst h3;have hw:=hw h0;rw[yes h0,h0];refine ae bU ?_;refine VL.Jc aa rfl rfl (by rw[MF];rfl) z21 (by rw[PJ];rfl) rfl ?_;refine ak bU @hw ?_;trivial;by_cases h4:k<32
 ·(have h0:isLet k=γ:=by simp only[isLet,decide_eq_false_iff_not];omega);rw[no h0,h0];refine ae bU ?_;trivial
 by_cases h5:1114111<k
 ·(have h0:isLet k=γ:=by simp only[isLet,decide_eq_false_iff_not];omega);rw[no h0,h0];refine ae bU ?_;trivial
 by_cases h6:55296<=k
 ·by_cases h7:k<=57343
  ·(have h0:isLet k=γ:=by simp only[isLet,decide_eq_false_iff_not];omega);rw[no h0,h0];refine ae bU ?_;trivial
  ·(have h0:isLet k=Α:=by simp only[isLet,decide_eq_true_eq];omega);have hw:=hw h0;rw[yes h0,h0];refine ae bU ?_;refine VL.Jc aa rfl rfl (by rw[MF];rfl) z21 (by rw[PJ];rfl) rfl ?_;refine ak bU @hw ?_;trivial
 ·(have h0:isLet k=Α:=by simp only[isLet,decide_eq_true_eq];omega);have hw:=hw h0;rw[yes h0,h0];refine ae bU ?_;refine VL.Jc aa rfl rfl (by rw[MF];rfl) z21 (by rw[PJ];rfl) rfl ?_;refine ak bU @hw ?_;trivial
def va(b:Nat)(c:UInt8):Int:=
 if jF c then(c.toNat:Int) - 48 else if b=16/\97<=c.toNat/\c.toNat<=102 then(c.toNat:Int) - 97+10 else if b=16/\65<=c.toNat/\c.toNat<=70 then(c.toNat:Int) - 65+10 else -1
def TC(c:UInt8):jF c=decide (48<=c.toNat/\c.toNat<=57):=by unfold jF;rw[<-Bool.decide_and]
def Nj(b:Nat)(c:UInt8)(O:VH):VF Ε 280 [ef c,mi b] O (aC λm O'=>m=mi (va b c)/\O'=O):=by
 have hc:c.toNat<256:=c.toNat_lt;have hd:=lI c O;unfold va;refine χ 41 [.tmp 4] func280 ?_;refine ae bU ?_;refine Ω (hd) ?_;cases h1:jF c;rotate_left;(·rw[TC,decide_eq_true_eq]at h1;refine ak bU @aA ?_;first | trivial | rfl | (repeat (first | rw[if_pos Λ] | rw[if_neg Λ])))
 by_cases hb:b=16
 ·subst hb;by_cases h2:97<=c.toNat;(·by_cases h3:c.toNat<=102;((·refine ak bU @aA ?_;first | trivial | rfl | (repeat (first | rw[if_pos Λ] | rw[if_neg Λ]))));(·refine ak bU @aA ?_;first | trivial | rfl | (repeat (first | rw[if_pos Λ] | rw[if_neg Λ]))))
  ·by_cases h4:65<=c.toNat;((·by_cases h5:c.toNat<=70;((·refine ak bU @aA ?_;first | trivial | rfl | (repeat (first | rw[if_pos Λ] | rw[if_neg Λ]))));(·refine ak bU @aA ?_;first | trivial | rfl | (repeat (first | rw[if_pos Λ] | rw[if_neg Λ])))));(·refine ak bU @aA ?_;first | trivial | rfl | (repeat (first | rw[if_pos Λ] | rw[if_neg Λ])))
 ·have bV:((b:Int)==16)=γ:=by simpa using(by omega:¬(b:Int)=16)
  refine aF bU @aA bV ?_;first | trivial | rfl | (repeat (first | rw[if_pos Λ] | rw[if_neg Λ]))
def A_(b:Nat)(c:UInt8):Bool:=decide (0<=va b c)
def adK(b k:Nat)(c:UInt8)(O:VH)(hk:O.hp k=φ (.cells [mi b])):VF Ε 279 ([ef c]++[.p k 0]) O (aC λm O'=>m=mb (A_ b c)/\O'=O):=by
 show VF _ _ [ef c,.p k 0] _ _;simp only[aq]at hk;unfold A_;refine χ 8 [.tmp 3] func279 ?_;refine ak bU hk ?_;refine Ω (Nj b c O) ?_;by_cases h:0<=va b c;rw[decide_eq_true h];refine ae bU ?_;(first | trivial | rfl);rw[decide_eq_false h];refine ak bU @h ?_;first | trivial | rfl
def agy(f:FuncId)(cs:Η)(p:UInt8->Bool)(s:Ρ)(O:VH)(hs:Ζ s<=1000000000)(hf:∀c,VF Ε f ([ef c]++cs) O (aC λm O'=>m=mb (p c)/\O'=O))(hb:cV Ε f=Α):
  VF Ε 127 [.s s,.func (.func f) [] cs] O (aC λm O'=>m=mi (s.takeWhile p).length/\O'=O):=by
 refine χ 20 [.tmp 4] func127 ?_;refine ae gC ?_;refine WC.cj [5] [0,1] (λj:Nat=>[mi j]) (λj O'=>O'=O/\j<=(Ζ s)/\(s.takeWhile p).length=j+((s.drop j).takeWhile p).length) (λj=>(Ζ s) - j) (0) ?_ ?_;exact⟨rfl,an6 _,z10⟩;rintro j O2 ⟨eO,hj,hw⟩;rw[eO];clear eO O2;by_cases h2:j<Ζ s;have hg:=ai8 h2;have hd:=alp h2;generalize s[j]=c at*;refine ak gC hg ?_;refine π (hf c) ?_ (hb:=hb);rintro _ O3 ⟨rfl,eO⟩;rw[eO];clear eO O3;cases hp:p c;refine ak gC hg ?_;rw[hw,hd,ats (by simp[hp])];trivial;refine ak gC hg ?_;refine aw.N (j+1) ?_;refine⟨rfl,Λ,?_⟩;rw[hw,hd,atM hp,abT];omega;refine ae gC ?_;rw[hw,apJ Λ];trivial
def kg(s:Bs)(a:Nat):Bs×Nat×Nat:=if fV s [120]then(s.drop 1,a+1,16)else(s,a,10)
def vc(b:Nat)(l:Bs):Nat:=l.foldl (λk c=>k*b+(va b c).toNat) 0
def agz(s:Bs)(a b n:Nat):Bs×Nat×Int:=
 if 8<n then([],0,12)else if n=(Ζ s) then([],0,13)else if n=0\/s.getD n 0≠59 then([],0,12)
 else if isLet (vc b (s.take n))then(F3 (vc b (s.take n)),a+n+1,0)else([],0,12)
def yF(s:Bs)(a:Nat):Bs×Nat×Int:=agz (kg s a).1 (kg s a).2.1 (kg s a).2.2 ((kg s a).1.takeWhile (A_ (kg s a).2.2)).length
def TD{b:Nat}(hb:b<=16):∀(l:Bs)(k:Nat),l.foldl (λk c=>k*b+(va b c).toNat) k+1<=(k+1)*16 ^ (Ζ l)
 | [],k=>by simp
 | c::l,k=>by
   have hd:(va b c).toNat<=15:=by
    unfold va;split;rename_i h;rw[TC,decide_eq_true_eq]at h;omega
    repeat' split
    all_goals omega
   rw[List.foldl_cons,abT,Nat.pow_succ];refine an7 (TD hb l _) ?_;have h1:k*b<=k*16:=Nat.mul_le_mul_left k hb;have h2:k*b+(va b c).toNat+1<=(k+1)*16:=Λ
   calc _<=((k+1)*16)*16 ^ (Ζ l):=Nat.mul_le_mul_right _ h2
    _=_:=by rw[Nat.mul_assoc,Nat.mul_comm 16]
def aaL(hb:b<=16){l:Bs}(hl:Ζ l<=8):vc b l<=4294967296:=by
 have h1:=TD hb l 0;have h2:16 ^ (Ζ l)<=16 ^ 8:=Nat.pow_le_pow_right z12 hl;have h3:(16:Nat) ^ 8=4294967296:=by decide
 unfold vc;omega
def Yr(b:Nat)(t:Bs)(j:Nat)(h:j<Ζ t):vc b (t.take (j+1))=vc b (t.take j)*b+(va b t[j]).toNat:=by
 unfold vc;rw[bN _ _ h,List.foldl_append];rfl
def aaM{p:UInt8->Bool}:∀(t:Bs)(j:Nat)(c:UInt8),j<(t.takeWhile p).length->t[j]?=φ c->p c=Α
 | [],j,c,h,_=>by simp at h
 | d::t,j,c,h,hj=>by
   cases hd:p d;rw[ats (by simp[hd])]at h;simp at h
   ·rw[atM hd,abT]at h;cases j with
    | zero=>simp only[auE,Option.some.injEq]at hj;subst hj;exact hd
    | succ j=>exact aaM t j c Λ (by simpa using hj)
def adL(s:Bs)(a:Nat)(O:VH)(hs:Ζ s<=1000000)(ha:a<=1000000):VF Ε 275 [.s s,mi a] O (aC λm O'=>m= .tuple [.s (yF s a).1,mi (yF s a).2.1,mi (yF s a).2.2]/\O.Ge O'):=by
 unfold yF;refine ω 65 [.tmp 4,.tmp 5,.tmp 6] func275 ?_;refine κ bU ?_;refine κ bU ?_;refine VC.al ?_;rintro O1 ⟨aM,du,dq⟩;refine Ξ [0,1,7] (λ_:Unit=>[.s (kg s a).1,mi (kg s a).2.1,.p O.N 0]) (λ_ O'=>O.Ge O'/\O'.hp O.N=φ (.cells [mi (kg s a).2.2])) ?_ ?_
 ·refine κ bU ?_;refine Ω (oE s [120] _) ?_;unfold kg;cases h1:fV s [120];refine ae bU ?_;refine ν bU ?_;exact aE.mk () ⟨aM,du⟩
  ·have h2:1<=Ζ s:=by
    cases s with
    | nil=>cases h1
    | cons c s=>simp
   refine ak bU du ?_;refine ο bU du ?_;exact aE.mk () ⟨aM.set (an3 _) _,υ _ _ _⟩
 rintro⟨⟩ O2 ⟨ax,bC⟩;have cz:(kg s a).1.length<=1000000:=by unfold kg;split<;>simp<;>omega
 have hpa:(kg s a).2.1<=1000001:=by unfold kg;split<;>simp<;>omega
 have rA:(kg s a).2.2<=16:=by unfold kg;split<;>simp
 generalize kg s a=p at*;obtain⟨t,a2,b⟩:=p;dsimp only at*;have htw:=nc (A_ b) t;refine κ bU ?_;refine Ω (agy 279 [.p O.N 0] (A_ b) t O2 Λ (λc=>adK b O.N c O2 bC) z11) ?_;have ia:= @aaM (A_ b) t;generalize (t.takeWhile (A_ b)).length=n at*;unfold agz;refine ae bU ?_;refine Δ (Γ ?_);by_cases h1:8<n;rw[if_pos h1];refine ν bU ?_;exact⟨rfl,ax⟩;rw[if_neg h1];by_cases h2:n=Ζ t;rw[if_pos h2];subst h2;refine ν bU ?_;exact⟨rfl,ax⟩;rw[if_neg h2];by_cases h3:n=0;rw[if_pos (.inl h3)];subst h3;refine ο bU h2 ?_;exact⟨rfl,ax⟩;have hnt:n<Ζ t:=Λ
 have hg:=ai8 hnt;have hd:t.getD n 0=t[n]:=by simp[List.getD,hg]
 rw[hd];generalize t[n]=c at*;by_cases h4:c=59;rotate_left;rw[if_pos (.inr h4)];(have h5:¬((c.toNat:Int)=59):=λe=>h4 (UInt8.toNat_inj.1 (by simpa using(by omega:c.toNat=59))));refine ι (bo bU hg @aA h5 ?_);exact⟨rfl,ax⟩
 rw[if_neg (λh=>h.elim h3 (λh=>h h4))];subst h4;have h5:((((59:UInt8).toNat:Nat):Int) != 59)=γ:=rfl;refine ι (bo bU hg @aA h5 ?_);clear hg h5;refine κ bU ?_;refine κ bU ?_;simp only[aq]at bC;refine Υ [9,40] [0,1,7,8,39] (λj:Nat=>[mi (vc b (t.take j)),mi j]) (λj O'=>O'=O2/\j<=n) (λj=>n - j) (0) ?_ ?_;exact⟨rfl,an6 _⟩;rintro j O3 ⟨eO,hj⟩;rw[eO];clear eO O3;have h8:(t.take j).length<=8:=by rw[an2];omega
 have hv8:=aaL rA h8;by_cases hjn:j<n
 ·have hjt:j<Ζ t:=Λ
  have hg:=List.getElem?_eq_getElem hjt;have hdg:=ia j _ hjn hg;have fh:=Yr b t j hjt;have h9:vc b (t.take (j+1))<=4294967296:=aaL rA (by rw[List.length_take];omega);generalize t[j]=c at*;simp only[A_,decide_eq_true_eq]at hdg;generalize hV:vc b (t.take (j+1))=V at*;generalize vc b (t.take j)=v at*;have hdv:((va b c).toNat:Int)=va b c:=Int.toNat_of_nonneg hdg;have hdc:=Nj b c O2;generalize va b c=d at*;obtain⟨d,rfl⟩:=Int.eq_ofNat_of_zero_le hdg;((((((have pK:(v:Int)*(b:Int)=((v*b:Nat):Int):=by rw[Int.natCast_mul]);simp only[Int.toNat_natCast]at fh;generalize v*b=vb at*;refine κ bU ?_;refine κ bU ?_;refine Δ (Γ ?_);refine κ bU ?_;refine VC.ot [] ?_;refine ρ 0 bU ?_;refine auU (m:=.v (Ι Κ b)) 1 ?_ ?_);exact dT bU bC);simp only[ag];refine auW 2 bU pK ?_;refine ρ 3 bU ?_;refine ρ 4 bU ?_;refine auW 5 bU hg ?_;refine auU (m:=.v (Ι Κ b)) 6 ?_ ?_);exact dT bU bC);simp only[ag];refine ab.call (i:=7) (hdc) ?_;rintro _ O3 ⟨rfl,eO⟩;simp only[ag];rw[eO];clear eO O3);refine⟨VH.Ge.refl _,?_⟩;refine auW 8 bU pK ?_;refine auW 9 bU pK ?_;refine ab.bM [] ?_;refine ae bU ?_;refine ν bU ?_;exact aw.N (j+1) ⟨rfl,hjn⟩ (hl:=(by rw[hV,fh];rfl))
 ·obtain rfl:j=n:=Λ
  refine κ bU ?_;refine ν bU ?_;generalize vc b (t.take j)=v at*;refine κ bU ?_;refine Ω (adJ v _ Λ) ?_;cases h6:isLet v;rw[if_neg z10];refine ae bU ?_;refine ν bU ?_;exact⟨rfl,ax⟩;rw[if_pos rfl];refine ae bU ?_;refine ν bU ?_;exact⟨rfl,ax⟩
def rD(w:Bs):Bs:=
 if w=[108,116]then[60]else if w=[103,116]then[62]else if w=[97,109,112]then[38]else if w=[113,117,111,116]then[34]else if w=[97,112,111,115]then[39]else[]
def agA(w:Bs)(O:VH):VF Ε 277 [.s w] O (aC λm O'=>m= .s (rD w)/\O'=O):=by
 unfold rD;refine χ 14 [.tmp 2] func277 ?_;by_cases h1:w=[108,116];rw[if_pos h1];have e1:=beq_iff_eq.2 h1;exact dT bU e1;rw[if_neg h1];have e1:(w==[108,116])=γ:=by simpa using h1
 by_cases h2:w=[103,116];rw[if_pos h2];have e2:=beq_iff_eq.2 h2;exact kt3 bU e1 e2;rw[if_neg h2];have e2:(w==[103,116])=γ:=by simpa using h2
 by_cases h3:w=[97,109,112];rw[if_pos h3];have e3:=beq_iff_eq.2 h3;exact xi bU e1 e2 e3;rw[if_neg h3];have e3:(w==[97,109,112])=γ:=by simpa using h3
 by_cases h4:w=[113,117,111,116];rw[if_pos h4];have e4:=beq_iff_eq.2 h4;exact kt5 bU e1 e2 e3 e4;rw[if_neg h4];have e4:(w==[113,117,111,116])=γ:=by simpa using h4
 by_cases h5:w=[97,112,111,115];rw[if_pos h5];have e5:=beq_iff_eq.2 h5;exact kt6 bU e1 e2 e3 e4 e5;rw[if_neg h5];have e5:(w==[97,112,111,115])=γ:=by simpa using h5
 exact kt6 bU e1 e2 e3 e4 e5
def F4(c:UInt8):Bool:=decide (97<=c.toNat/\c.toNat<=122)
def aqW(c:UInt8)(O:VH):VF Ε 276 [ef c] O (aC λm O'=>m=mb (F4 c)/\O'=O):=by
 refine χ 9 [.tmp 2] func276 ?_;by_cases h1:97<=c.toNat;by_cases h2:c.toNat<=122;rw[show F4 c=Α from decide_eq_true ⟨h1,h2⟩];exact dT bU @aA;rw[show F4 c=γ from decide_eq_false (λh=>h2 h.2)];exact dT bU @aA;rw[show F4 c=γ from decide_eq_false (λh=>h1 h.1)];exact dT bU @aA
def sw(s:Bs):Bs:=(s.drop 1).takeWhile F4
def rR:List Bs:=[[108,116],[103,116],[97,109,112],[113,117,111,116],[97,112,111,115]]
def agB(s w:Bs):Bs×Nat×Int:=
 if 1+Ζ w=(Ζ s) then(if rR.any (λx=>fV x w)then([],0,13)else([],0,12))
 else if rD w≠[]/\s.getD (1+Ζ w) 0=59 then(rD w,Ζ w+2,0)else([],0,12)
def oI(s:Bs):Bs×Nat×Int:=if fV s [38,35]then yF (s.drop 2) 2 else agB s (sw s)
def jT{p:Bs}(h:fV s p=Α):Ζ p<=Ζ s:=by
 unfold fV at h;have h1:s.take (Ζ p)=p:=by simpa using h
 rw[<-h1,an2];omega
def aoN(s:Bs)(O:VH)(hs:Ζ s<=1000000)(h0:s[0]?=φ 38):
  VF Ε 270 [.s s] O (aC λm O'=>m= .tuple [.s (oI s).1,mi (oI s).2.1,mi (oI s).2.2]/\O.Ge O'):=by
 have hne:(s==[])=γ:=by cases s<;>simp at h0 ⊢
 have h1:1<=Ζ s:=by cases s<;>simp at h0 ⊢
 unfold oI;refine χ 62 [.tmp 2,.tmp 3,.tmp 4] func270 ?_;refine bo bU @hne h0 @aA ?_;refine Ω (oE s [38,35] _) ?_;cases hn:fV s [38,35];rotate_left;have ph:=jT hn;simp only[abT,ahB]at ph;rw[if_pos rfl];refine ae bU ?_;refine π (adL (s.drop 2) 2 O (by rw[TR];omega) z12) ?_;rintro _ O2 ⟨rfl,ax⟩;generalize yF (s.drop 2) 2=r at*;refine ae bU ?_;first | exact ax | exact⟨rfl,ax⟩
 rw[if_neg z10];refine ae bU ?_;refine Ω (P6 276 F4 (s.drop 1) _ (an7 (by rw[TR];omega:(s.drop 1).length<=1000000) z12) aqW) ?_;have hw:sw s=(s.drop 1).takeWhile F4:=rfl;have qu:(sw s).length<=(Ζ s) - 1:=by unfold sw;exact an7 (nc _ _) (by rw[TR];exact an3 _)
 have Lm:(s.drop 1).take (sw s).length=sw s:=by
  unfold sw;exact List.prefix_iff_eq_take.1 (List.takeWhile_prefix _) |>.symm
 have v8:(1+((sw s).length:Int)).toNat - 1=(sw s).length:=Λ
 have al4:(1+((sw s).length:Int)).toNat=1+(sw s).length:=Λ
 rw[<-hw];clear hw;generalize sw s=w at*;unfold agB;by_cases h2:1+Ζ w=Ζ s
 ·rw[if_pos h2];((((have h3:(1+(Ζ w:Int)==(Ζ s:Int))=Α:=by simpa using(by omega:1+(Ζ w:Int)=(Ζ s:Int)));have hws:List.length ([.s [108,116],.s [103,116],.s [97,109,112],.s [113,117,111,116],.s [97,112,111,115]]:Η)=5:=rfl;refine gy bU ue v8 Lm h3 ?_;refine WC.cj [40] [6,38,39] (λj:Nat=>[mi j]) (λj O'=>O'=O/\j<=5/\rR.any (λx=>fV x w)=(rR.drop j).any (λx=>fV x w)) (λj=>5 - j) (0) ?_ ?_);exact⟨rfl,an6 _,rfl⟩);rintro j O2 ⟨eO,hj,hr⟩;rw[eO];clear eO O2);by_cases TF:j<5
  ·obtain⟨x,bh,Qf⟩:∃x:Bs,([.s [108,116],.s [103,116],.s [97,109,112],.s [113,117,111,116],.s [97,112,111,115]]:Η)[j]?=φ (.s x)/\rR.drop j=x::rR.drop (j+1):=by
    rcases(by omega:j=0\/j=1\/j=2\/j=3\/j=4)with rfl | rfl | rfl | rfl | rfl<;>exact⟨_,rfl,rfl⟩
   rw[Qf,List.any_cons]at hr;refine bo bU ue bh hws ?_;refine Ω (oE x w _) ?_;cases hx:fV x w;rw[hx,Bool.false_or]at hr;refine ae bU ?_;exact aw.N (j+1) ⟨rfl,TF,hr⟩;rw[hx,Bool.true_or]at hr;rw[hr,if_pos rfl];refine ae bU ?_;first | exact VH.Ge.refl _ | exact⟨rfl,VH.Ge.refl _⟩
  ·obtain rfl:j=5:=Λ
   have fR:rR.any (λx=>fV x w)=γ:=hr;rw[fR,if_neg z10];refine ae bU ?_;first | exact VH.Ge.refl _ | exact⟨rfl,VH.Ge.refl _⟩
 rw[if_neg h2];have h3:(1+(Ζ w:Int)==(Ζ s:Int))=γ:=by simpa using(by omega:¬1+(Ζ w:Int)=(Ζ s:Int))
 have h4:1+Ζ w<Ζ s:=Λ
 have hg:=ai8 h4;have hd:s.getD (1+Ζ w) 0=s[1+Ζ w]:=by simp[List.getD,hg]
 rw[hd];generalize s[1+Ζ w]=c at*;refine bo bU v8 Lm h3 ?_;refine Ω (agA w _) ?_;by_cases h5:rD w=[];have h6:(rD w==[])=Α:=beq_iff_eq.2 h5;rw[if_neg (λh=>h.1 h5)];refine ak bU h6 ?_;first | exact VH.Ge.refl _ | exact⟨rfl,VH.Ge.refl _⟩
 have h6:(rD w==[])=γ:=by simpa using h5
 by_cases h7:c=59;rw[if_pos ⟨h5,h7⟩];subst h7;have h8:((((59:UInt8).toNat:Nat):Int)==59)=Α:=rfl;refine Em bU h6 al4 hg @aA h8 ?_;(first | exact VH.Ge.refl _ | exact⟨rfl,VH.Ge.refl _⟩);rw[if_neg (λh=>h7 h.2)];(have h8:¬((c.toNat:Int)=59):=λe=>h7 (UInt8.toNat_inj.1 (by simpa using(by omega:c.toNat=59))));refine Em bU h6 al4 hg @aA h8 ?_;first | exact VH.Ge.refl _ | exact⟨rfl,VH.Ge.refl _⟩
def TG(w:Bs):(rD w).length<=1:=by unfold rD;repeat' split
                                  all_goals simp
def adM(k:Int):(Ni k).length<=4:=encode_size_le k
def agC(h:(yF s a).2.2=0):a+2<=(yF s a).2.1/\(yF s a).2.1<=a+(Ζ s)/\(yF s a).1.length<=4:=by
 have rT:a<=(kg s a).2.1/\(kg s a).2.1+(kg s a).1.length<=a+Ζ s:=by
  unfold kg;split;rename_i h;have:=jT h;simp only[abT,ahB]at this;rw[TR];dsimp only;omega;dsimp only;omega
 have htw:=nc (A_ (kg s a).2.2) (kg s a).1;unfold yF at h ⊢;generalize ((kg s a).1.takeWhile (A_ (kg s a).2.2)).length=n at*;unfold agz at h ⊢;split at h;cases h;rw[if_neg ‹_›];split at h;cases h;rw[if_neg ‹_›];split at h;cases h;rw[if_neg ‹_›];split at h
 ·rw[if_pos ‹_›]
  have hl:(F3 (vc (kg s a).2.2 ((kg s a).1.take n))).length<=4:=by
   unfold F3;split<;>first | exact adM _ | exact an6 _
  exact⟨by dsimp only;omega,by dsimp only;omega,hl⟩
 ·cases h
def Dh{s:Bs}(h:(oI s).2.2=0):2<=(oI s).2.1/\(oI s).2.1<=(Ζ s)/\(oI s).1.length<=(oI s).2.1:=by
 have qu:1+(sw s).length<=(Ζ s)\/s=[]:=by
  cases s with
  | nil=>exact .inr rfl
  | cons c s=>left;unfold sw;rw[List.drop_succ_cons,List.drop_zero,abT];have:=nc F4 s;omega
 unfold oI at h ⊢;split at h;rename_i h1;rw[if_pos h1];have h2:=jT h1;simp only[abT,ahB]at h2;have:=agC h;rw[TR]at this;omega;rw[if_neg ‹_›];unfold agB at h ⊢;split at h;split at h<;>cases h;rw[if_neg ‹_›];split at h;rename_i h1;rw[if_pos h1];have:=TG (sw s);rcases qu with qu | rfl;exact⟨by dsimp only;omega,by dsimp only;omega,by dsimp only;omega⟩;have:=h1.2;simp at this;cases h
def gn(t:Bs)(stop:UInt8):Nat->Nat->Bs->Except (Int×Nat) (Bs×Nat)
 | 0,o,acc=>.ok (acc,o)
 | n+1,o,acc=>match t[o]? with
   | none=>.ok (acc,o)
   | some c=>
     if c=stop then .ok (acc,o)
     else if c=38 then
      if(oI (t.drop o)).2.2≠0 then .error ((oI (t.drop o)).2.2,o)else gn t stop n (o+(oI (t.drop o)).2.1) (acc++(oI (t.drop o)).1)
     else if c=60\/qs c=γ then .error (10,o)
     else gn t stop n (o+1) (acc++[c])
def Jd(stop:UInt8)(h:Rd O k t off X)(ht:Ζ t<=1000000)(ho:off<=Ζ t):
  VF Ε 245 [.p k 0,ef stop] O (TQ O k t X (gn t stop (Ζ t+1 - off) off []) λy m=>m= .s y):=by
 refine ω 100 [.tmp 4] func245 ?_;refine κ ay ?_;refine κ ay ?_;have uP:=gB.fresh O (an3 O.N);have ly:O.Ge ((O.push (.cells [.v (.pointer Β),.l 0 [] .nil])).push (.shape O.N 141 2)):=((VH.Ge.refl O).push _).push _;generalize ((O.push (.cells [.v (.pointer Β),.l 0 [] .nil])).push (.shape O.N 141 2))=O1 at*;refine Ξ [5] (λx:Bs×Nat×ϑ=>[.p O.N 0]) (λx O'=>aL O (φ k) O'/\Rd O' k t x.2.1 X/\gB O' O.N O.N x.2.2 x.1/\(Ζ x.1)<=1000000/\gn t stop (Ζ t+1 - off) off []= .ok (x.1,x.2.1)) ?_ ?_;rotate_left;rintro⟨acc,o,q⟩ O2 ⟨dZ,fR,bV,m5,he⟩;dsimp only at fR bV m5 he;rw[he];refine ν ay ?_;refine π (r_ bV) ?_;rintro _ O3 ⟨rfl,cx⟩;refine ae ay ?_;have xl:=bV.uT;exact⟨⟨an7 dZ.N cx.N,λi hi hne=>(cx.hp i (aev hi dZ.N) (λe=>by have:=xl i e;omega)).trans (dZ.hp i hi hne)⟩,rfl,aev fR.1 cx.N,(cx.hp k fR.1 (λe=>by have:=xl k e;have:=h.1;omega)).trans fR.2⟩;refine Γ ?_;refine Υ [] [0,1,5] (λx:Bs×Nat×ϑ=>[]) (λx O'=>aL O (φ k) O'/\Rd O' k t x.2.1 X/\gB O' O.N O.N x.2.2 x.1/\(Ζ x.1)<=x.2.1/\x.2.1<=(Ζ t)/\∃n,Ζ t+1 - x.2.1<=n/\gn t stop (Ζ t+1 - off) off []=gn t stop n x.2.1 x.1) (λx=>(Ζ t) - x.2.1) (([],off,Β)) ?_ ?_;exact⟨(aL.dG ly).any,h.ge ly,uP,an6 _,ho,_,an3 _,rfl⟩;rintro⟨acc,o,q⟩ O2 ⟨dZ,fR,bV,m5,TI,n,hn,he⟩;dsimp only at fR bV m5 TI hn he;obtain⟨n,rfl⟩:∃i,n=i+1:=⟨n - 1,Λ⟩
 have bC:=fR.2;simp only[aq]at bC;by_cases h1:Ζ t<=o;(·have cZ:t[o]?=Β:=List.getElem?_eq_none h1;((have hle:gn t stop (n+1) o acc= .ok (acc,o):=by unfold gn;rw[cZ]);rw[hle]at he;refine Δ (Δ ?_);refine VC.ot [4,5,6,7,8,9,10,11,12,13,14,15,16,17,18,19] ?_;refine ρ 0 ay ?_;refine ρ 1 ay ?_;refine ρ 2 ay ?_;refine ab.call (i:=3) (oF fR) ?_;rintro _ O3 ⟨rfl,eO⟩;simp only[ag];rw[eO];clear eO O3);rw[decide_eq_true h1];refine⟨VH.Ge.refl _,?_⟩;refine ab.bM [(4,.au),(5,.au),(6,.au),(7,.au),(8,.au),(9,.au),(10,.au),(11,.au),(12,.au),(13,.au),(14,.au),(15,.au),(16,.au),(17,.au),(18,.au),(19,.au)] ?_;refine ae ay ?_;refine ν ay ?_;exact aE.mk (acc,o,q) ⟨dZ,fR,bV,an7 m5 (an7 TI ht),he⟩)
 have h2:o<Ζ t:=Λ
 have hg:=ai8 h2;generalize t[o]=c at*;refine Δ (Δ ?_);refine VC.ot [] ?_;refine ρ 0 ay ?_;refine ρ 1 ay ?_;refine ρ 2 ay ?_;refine ab.call (i:=3) (oF fR) ?_;rintro _ O3 ⟨rfl,eO⟩;simp only[ag];rw[eO];clear eO O3;rw[decide_eq_false h1];refine⟨VH.Ge.refl _,?_⟩;refine ρ 4 ay ?_;refine ρ 5 ay ?_;refine ρ 6 ay ?_;refine ρ 7 ay ?_;refine ρ 8 ay ?_;refine ρ 9 ay ?_;refine auU (m:=.s t) 10 ?_ ?_;exact dT ay bC;simp only[ag];refine ρ 11 ay ?_;refine ρ 12 ay ?_;refine ρ 13 ay ?_;refine ρ 14 ay ?_;refine auU (m:=.v (Ι Κ o)) 15 ?_ ?_;exact dT ay bC;simp only[ag];refine auW 16 ay hg ?_;refine ρ 17 ay ?_;by_cases h3:c=stop;subst h3;(have hle:gn t c (n+1) o acc= .ok (acc,o):=by unfold gn;rw[hg];simp);rw[hle]at he;refine auW 18 ay @aA ?_;refine ρ 19 ay ?_;refine ab.bM [] ?_;refine ae ay ?_;refine ν ay ?_;exact aE.mk (acc,o,q) ⟨dZ,fR,bV,an7 m5 (an7 TI ht),he⟩
 have h4:¬((c.toNat:Int)=(stop.toNat:Int)):=λe=>h3 (UInt8.toNat_inj.1 Λ)
 refine ab.au 18 ?_;refine aF ay @aA h4 ?_;refine ρ 19 ay ?_;refine ab.bM [] ?_;refine ae ay ?_;refine ν ay ?_;refine Γ ?_;refine Δ ?_;refine WC.reads ?_;refine aF ay bC hg ?_;by_cases h5:c=38
 ·subst h5;((have GQ:(t.drop o).length<=1000000:=by rw[TR];omega);have ly:(t.drop o)[0]?=φ 38:=by rw[List.getElem?_drop];exact hg);have xn:=aoN (t.drop o) O2 GQ ly;have bH:= @Dh (t.drop o)
  have hle:gn t stop (n+1) o acc=if(oI (t.drop o)).2.2≠0 then .error ((oI (t.drop o)).2.2,o)else gn t stop n (o+(oI (t.drop o)).2.1) (acc++(oI (t.drop o)).1):=by
   rw[show gn t stop (n+1) o acc=_ from by unfold gn;rfl,hg];simp only;rw[if_neg h3,if_pos trivial]
  rw[hle]at he;rw[TR]at bH;generalize oI (t.drop o)=r at*;have h6:((((38:UInt8).toNat:Nat):Int)==38)=Α:=rfl;refine θ (aF ay @aA h6 ?_);refine Ω (zX fR TI) ?_;refine ae ay ?_;refine π (xn) ?_;rintro _ OR ⟨rfl,hgR⟩;refine ae ay ?_;clear xn
  replace bC:=(hgR.hp k fR.1).trans bC
  replace fR:=fR.ge hgR
  replace bV:=bV.ge hgR
  replace dZ:=dZ.trans (aL.dG hgR).any
  clear hgR O2;by_cases h7:r.2.2=0;obtain⟨k1,k2,k3⟩:=bH h7;rw[if_neg (by simpa using h7)]at he;((have h8:(r.2.2 != 0)=γ:=by simpa using h7);refine ak ay h8 ?_;refine π (bX r.1 bV) ?_;rintro _ O3 ⟨rfl,q',cE,cx⟩;have xl:=bV.uT;have dA:O3.hp k=φ (.cells [.s t,.v (Ι Κ (o:Int)),X]):=(cx.hp k fR.1 z27 (λe=>by have:=xl k e;have:=h.1;omega)).trans bC;refine ak ay dA ?_;have cC:aL O (φ k) O3:=⟨an7 dZ.N cx.N,λi hi hne=>(cx.hp i (aev hi dZ.N) Λ (λe=>by have:=xl i e;omega)).trans (dZ.hp i hi hne)⟩;have gu:Rd O3 k t o X:=⟨aev fR.1 cx.N,dA⟩;refine aw.N (acc++r.1,o+r.2.1,q') ⟨cC.trans aL.set,by simpa[aq]using gu.set (t':=t) (off':=o+r.2.1) (X':=X),cE.set dA z27 (λe=>by have:=cE.uT k e;have:=h.1;omega),by dsimp only;rw[Rn];omega,by dsimp only;omega,n,by dsimp only;omega,he⟩);rw[if_pos h7]at he;rw[he];(have h8:(r.2.2 != 0)=Α:=by simpa using h7);refine aF ay h8 bC ?_;refine η (jm r.2.2 o _) ?_;refine ae ay ?_;exact⟨dZ,rfl⟩
 have h6:¬((c.toNat:Int)=38):=λe=>h5 (UInt8.toNat_inj.1 (by simpa using(by omega:c.toNat=38)))
 by_cases h7:c=60\/qs c=γ
 ·(have hle:gn t stop (n+1) o acc= .error (10,o):=by unfold gn;rw[hg];simp only;rw[if_neg h3,if_neg h5,if_pos h7]);rw[he,hle];by_cases h8:c=60
  ·(have h9:((c.toNat:Int)==60)=Α:=by rw[h8];rfl);refine θ (gy ay @aA h6 h9 bC ?_);refine η (jm 10 o _) ?_;refine ae ay ?_;exact⟨dZ,rfl⟩
  have Ea:¬((c.toNat:Int)=60):=λe=>h8 (UInt8.toNat_inj.1 (by simpa using(by omega:c.toNat=60)))
  have h9:qs c=γ:=h7.resolve_left h8;refine θ (bo ay @aA h6 Ea ?_);refine Ω (zQ c _) ?_;rw[h9];refine ak ay bC ?_;refine η (jm 10 o _) ?_;refine ae ay ?_;exact⟨dZ,rfl⟩
 have h8:¬c=60:=λe=>h7 (.inl e)
 have h9:qs c=Α:=by simpa usingλhx:qs c=γ=>h7 (.inr hx)
 have Ea:¬((c.toNat:Int)=60):=λe=>h8 (UInt8.toNat_inj.1 (by simpa using(by omega:c.toNat=60)))
 have hle:gn t stop (n+1) o acc=gn t stop n (o+1) (acc++[c]):=by
  rw[show gn t stop (n+1) o acc=_ from by unfold gn;rfl,hg];simp only;rw[if_neg h3,if_neg h5,if_neg h7]
 rw[hle]at he;refine θ (bo ay @aA h6 Ea ?_);refine Ω (zQ c _) ?_;rw[h9];refine ae ay ?_;refine ν ay ?_;refine π (vQ c bV) ?_;rintro _ O3 ⟨rfl,q',cE,cx⟩;have xl:=bV.uT;have dA:O3.hp k=φ (.cells [.s t,.v (Ι Κ (o:Int)),X]):=(cx.hp k fR.1 z27 (λe=>by have:=xl k e;have:=h.1;omega)).trans bC;refine ak ay dA ?_;have cC:aL O (φ k) O3:=⟨an7 dZ.N cx.N,λi hi hne=>(cx.hp i (aev hi dZ.N) Λ (λe=>by have:=xl i e;omega)).trans (dZ.hp i hi hne)⟩;have gu:Rd O3 k t o X:=⟨aev fR.1 cx.N,dA⟩;refine aw.N (acc++[c],o+1,q') ⟨cC.trans aL.set,by simpa[aq]using gu.set (t':=t) (off':=o+1) (X':=X),cE.set dA z27 (λe=>by have:=cE.uT k e;have:=h.1;omega),by dsimp only;rw[Rn];simp only[abT,ahB];omega,by dsimp only;omega,?_⟩;exact⟨n,by dsimp only;omega,he⟩
def qw{t:Bs}{stop:UInt8}:∀(n o:Nat)(acc:Bs) {s:Bs} {o':Nat},o<=(Ζ t)->Ζ acc<=o->gn t stop n o acc= .ok (s,o')->o<=o'/\o'<=(Ζ t)/\(Ζ s)<=o'
 | 0,o,acc,s,o',ho,ha,h=>by
   unfold gn at h;injection h with h;injection h with h1 h2;subst h1;subst h2;exact⟨an3 _,ho,ha⟩
 | n+1,o,acc,s,o',ho,ha,h=>by
   have done:∀(h:(.ok (acc,o):Except (Int×Nat) (Bs×Nat))= .ok (s,o')),o<=o'/\o'<=(Ζ t)/\(Ζ s)<=o':=λh=>by
    injection h with h;injection h with h1 h2;subst h1;subst h2;exact⟨an3 _,ho,ha⟩
   unfold gn at h;cases hg:t[o]? with
   | none=>rw[hg]at h;exact done h
   | some c=>
     have Ys:o<Ζ t:=(aja.1 hg).1;rw[hg]at h;simp only at h;split at h;((((·exact done h));split at h);rename_i h2;subst h2;split at h;cases h;rename_i h5;obtain⟨k1,k2,k3⟩:=Dh (by simpa using h5);rw[TR]at k2;have:=qw n _ _ Λ (by rw[Rn];omega) h;omega);split at h;cases h;have:=qw n _ _ Λ (by rw[Rn];simp only[abT,ahB];omega) h;omega
def wU(t:Bs)(off:Nat):Except (Int×Nat) (Bs×Nat):=match t[off]? with
 | none=>.error (13,off)
 | some q=>
   if q≠34/\q≠39 then .error (10,off)
   else match gn t q (Ζ t+1 - (off+1)) (off+1) []with
    | .error e=>.error e
    | .ok (s,o)=>if (Ζ t)<=o then .error (13,o)else .ok (s,o+1)
def agD(h:Rd O k t off X)(ht:Ζ t<=1000000):
  VF Ε 269 [.p k 0] O (TQ O k t X (wU t off) λy m=>m= .s y):=by
 have hk:=h.2;simp only[aq]at hk;unfold wU;refine χ 70 [.tmp 2] func269 ?_;refine ae ay ?_;refine Ω (oF h) ?_;by_cases h1:Ζ t<=off;rw[decide_eq_true h1,List.getElem?_eq_none h1];refine ak ay hk ?_;refine η (jm _ _ _) ?_;refine ae ay ?_;exact⟨aL.refl _ _,rfl⟩;have h2:off<Ζ t:=Λ
 have hg:=List.getElem?_eq_getElem h2;rw[decide_eq_false h1,hg];generalize t[off]=c at*;refine ae ay ?_;refine WC.reads ?_;refine bo ay hk hg @aA ?_;have hr:Rd (O.set k (.cells [.s t,mi (off+1:Nat),X])) k t (off+1) X:=h.set;have hu:aL O (φ k) (O.set k (.cells [.s t,mi (off+1:Nat),X])):=aL.set;have pK:=jSx off;simp only[aq, <-pK]at hr hu;have hle:=Jd (X:=X) c hr ht (by omega:off+1<=Ζ t);have eU:= @qw t c (Ζ t+1 - (off+1)) (off+1) [];generalize gn t c (Ζ t+1 - (off+1)) (off+1) []=LF at*;by_cases hq:c≠34/\c≠39;rw[if_pos hq];((have e1:¬((c.toNat:Int)=34):=λe=>hq.1 (UInt8.toNat_inj.1 (by simpa using(by omega:c.toNat=34))));have e2:¬((c.toNat:Int)=39):=λe=>hq.2 (UInt8.toNat_inj.1 (by simpa using(by omega:c.toNat=39))));refine bo ay hk e1 e2 ?_;refine η (jm _ _ _) ?_;refine ae ay ?_;exact⟨aL.refl _ _,rfl⟩
 rw[if_neg hq];by_cases hc:c=34;subst hc;have e1:((((34:UInt8).toNat:Nat):Int) != 34)=γ:=rfl;refine bo ay @aA e1 hk ?_;generalize O.set k (.cells [.s t,.v (Ι Κ ((off:Int)+1)),X])=O2 at*;refine ah.ex LF hle ?_ ?_;rintro e m O3 rfl ⟨cx,rfl⟩;refine ae ay ?_;exact⟨hu.trans cx,rfl⟩;rintro⟨s,o⟩ m O3 rfl ⟨cx,h⟩;dsimp only at h;obtain⟨rfl,gu⟩:=h;have dA:=gu.2;simp only[aq]at dA;obtain⟨g1,g2,g3⟩:=eU Λ (an6 _) rfl;refine ae ay ?_;refine Ω (oF gu) ?_;by_cases h5:Ζ t<=o;rw[decide_eq_true h5];rw[if_pos h5];refine ak ay dA ?_;refine η (jm _ _ _) ?_;refine ae ay ?_;exact⟨hu.trans cx,rfl⟩;rw[decide_eq_false h5];rw[if_neg h5];refine ak ay dA ?_;exact⟨(hu.trans cx).trans aL.set,rfl,by simpa[aq]using gu.set (t':=t) (off':=o+1) (X':=X)⟩
 ·obtain rfl:c=39:=by
   by_cases h9:c=39;exact h9;exact absurd ⟨hc,h9⟩ hq
  have e1:((((39:UInt8).toNat:Nat):Int) != 34)=Α:=rfl;have e2:((((39:UInt8).toNat:Nat):Int) != 39)=γ:=rfl;refine gy ay @aA e1 e2 hk ?_;generalize O.set k (.cells [.s t,.v (Ι Κ ((off:Int)+1)),X])=O2 at*;refine ah.ex LF hle ?_ ?_;rintro e m O3 rfl ⟨cx,rfl⟩;refine ae ay ?_;exact⟨hu.trans cx,rfl⟩;rintro⟨s,o⟩ m O3 rfl ⟨cx,h⟩;dsimp only at h;obtain⟨rfl,gu⟩:=h;have dA:=gu.2;simp only[aq]at dA;obtain⟨g1,g2,g3⟩:=eU Λ (an6 _) rfl;refine ae ay ?_;refine Ω (oF gu) ?_;by_cases h5:Ζ t<=o;rw[decide_eq_true h5];rw[if_pos h5];refine ak ay dA ?_;refine η (jm _ _ _) ?_;refine ae ay ?_;exact⟨hu.trans cx,rfl⟩;rw[decide_eq_false h5];rw[if_neg h5];refine ak ay dA ?_;exact⟨(hu.trans cx).trans aL.set,rfl,by simpa[aq]using gu.set (t':=t) (off':=o+1) (X':=X)⟩
def oJ(t:Bs):Nat->Nat->List (Bs×Bs)->Except (Int×Nat) (List (Bs×Bs)×Nat)
 | 0,o,l=>.ok (l,o)
 | n+1,o,l=>
   if l0 t o=0\/(Ζ t)<=o+l0 t o\/fV (t.drop (o+l0 t o)) [47]=Α\/fV (t.drop (o+l0 t o)) [62]=Α then .ok (l,o+l0 t o)
   else match oG t (o+l0 t o) 10 with
    | .error e=>.error e
    | .ok (nm,o2)=>
      if l.any (·.1==nm)then .error (15,o+l0 t o)
      else match mT t (o2+l0 t o2) [61]with
       | .error e=>.error e
       | .ok (_,o4)=>match wU t (o4+l0 t o4)with
         | .error e=>.error e
         | .ok (v,o6)=>oJ t n o6 (l++[(nm,v)])
def kC(t:Bs)(o:Nat)(h:o<=Ζ t:=by omega):o+l0 t o<=Ζ t:=by
 unfold l0;have:=nc ib (t.drop o);rw[TR]at this;omega
def jb{t:Bs}{o:Nat}{e:Int}{s:Bs}{o':Nat}(h:oG t o e= .ok (s,o')):o<o'/\o'<=(Ζ t)/\(Ζ s)<=o' - o/\0<Ζ s:=by
 have Dd:=FV (t.drop o);rw[TR]at Dd;unfold oG at h;split at h;cases h;split at h;cases h;injection h with h;injection h with h1 h2;subst h1;subst h2;rw[an2,TR];omega
def l9{t:Bs}{o:Nat}{p:Bs}{y:Unit}{o':Nat}(h:mT t o p= .ok (y,o')):o'=o+(Ζ p)/\o'<=(Ζ t)/\o<Ζ t:=by
 unfold mT at h;split at h;cases h;split at h;rename_i h2;injection h with h;injection h with h1 h3;have:=jT h2;rw[TR]at this;omega;cases h
def Di{t:Bs}{o:Nat}{s:Bs}{o':Nat}(h:wU t o= .ok (s,o')):o<o'/\o'<=(Ζ t)/\(Ζ s)<=o':=by
 unfold wU at h;split at h;cases h;rename_i q hq;have Ys:=(aja.1 hq).1;split at h;cases h;split at h;cases h;rename_i s2 o2 h2;split at h;cases h;injection h with h;injection h with h1 h3;subst h1;subst h3;have:=qw _ _ _ Λ z10 h2;omega
def App.bQ(h:App O B sz tk)(u:aL O (φ k) O1)(hk:k<B):App O1 B sz tk:=by
 cases tk with
 | own t j=>
   obtain⟨h1,h2,h3,h4⟩:=h;exact⟨h1,(u.hp t h4 z14).trans h2,h3,aev h4 u.N⟩
 | nil=>trivial
 | full=>trivial
 | av=>exact h.elim
def agE(h:Rd O k t off X)(ht:Ζ t<=1000000)(ho:off<=Ζ t):
  VF Ε 244 [.p k 0] O (TQ O k t X (oJ t (Ζ t+1 - off) off []) λy m=>∃tk,m= .l (Ζ y) (y.flatMap bp) tk):=by
 refine ω 64 [.tmp 2] func244 ?_;refine κ ay ?_;refine Γ ?_;refine Υ [2] [0] (λx:List (Bs×Bs)×Nat×Tok=>[.l (Ζ x.1) (x.1.flatMap bp) x.2.2]) (λx O'=>aL O (φ k) O'/\Rd O' k t x.2.1 X/\App O' O.N 2 x.2.2/\x.2.1<=(Ζ t)/\(Ζ x.1)<=x.2.1/\∃n,Ζ t+1 - x.2.1<=n/\oJ t (Ζ t+1 - off) off []=oJ t n x.2.1 x.1) (λx=>(Ζ t) - x.2.1) (([],off,.nil)) ?_ ?_;exact⟨aL.refl _ _,h,trivial,ho,an6 _,_,an3 _,rfl⟩;rintro⟨l,o,tk⟩ O2 ⟨dZ,fR,cQ,Ys,xh,n,hn,he⟩;dsimp only at dZ fR cQ Ys xh hn he ⊢;rw[he];obtain⟨n,rfl⟩:∃i,n=i+1:=⟨n - 1,Λ⟩
 have si:=kC t o Ys;have hrb:=v_ fR ht Ys;rw[oJ];generalize l0 t o=kb at*;refine Γ ?_;refine κ ay ?_;refine ah.p (hrb) ?_ ?_;rotate_left;rintro m O9 ⟨_,h⟩;exact h.elim;rintro m O3 ⟨cx,h9⟩;dsimp only at h9;obtain⟨rfl,gu⟩:=h9;have nD:App O3 O.N 2 tk:=App.bQ cQ cx z27;have Je:=dZ.trans cx;refine ae ay ?_;by_cases Ec:kb=0;(·subst Ec;rw[if_pos (.inl rfl)];(repeat refine lL ay ?_);exact⟨Je,⟨tk,rfl⟩,gu⟩)
 have aqX:((kb:Int)==0)=γ:=by simpa using Ec
 refine ξ ay aqX ?_;refine Ω (oF gu) ?_;by_cases Nk:Ζ t<=o+kb;(·rw[if_pos (.inr (.inl Nk)),decide_eq_true Nk];(repeat refine lL ay ?_);exact⟨Je,⟨tk,rfl⟩,gu⟩)
 rw[decide_eq_false Nk];refine ae ay ?_;refine Ω (yD [47] gu) ?_;cases h47:fV (t.drop (o+kb)) [47];rotate_left;(·rw[if_pos (.inr (.inr (.inl rfl)))];(repeat refine lL ay ?_);exact⟨Je,⟨tk,rfl⟩,gu⟩)
 refine ae ay ?_;refine Ω (yD [62] gu) ?_;cases h62:fV (t.drop (o+kb)) [62];rotate_left;(·rw[if_pos (.inr (.inr (.inr rfl)))];(repeat refine lL ay ?_);exact⟨Je,⟨tk,rfl⟩,gu⟩)
 rw[if_neg (by simp[Ec,Nk])];have dA:=gu.2;simp only[aq]at dA;repeat refine yA ay dA ?_
 have KJ:=Qd 10 gu ht;have GS:= @jb t (o+kb) 10;generalize oG t (o+kb) 10=NF at*;refine ah.ex NF (KJ) ?_ ?_;rintro e m O9 rfl ⟨qS,rfl⟩;refine ae ay ?_;exact⟨aL.trans Je qS,rfl⟩;rintro⟨nm,o2⟩ m O4 rfl ⟨cC,h9⟩;dsimp only at h9;obtain⟨rfl,GU⟩:=h9;obtain⟨a1,a2,a3,a4⟩:=GS rfl;have lh:App O4 O.N 2 tk:=App.bQ nD cC z27;have agF:=Je.trans cC;refine ae ay ?_;have nQ:((l.flatMap bp).length)=(Ζ l)*2:=aP eC l;refine Ξ [0,2,4,5] (λ_:Unit=>[.p k 0,.l (Ζ l) (l.flatMap bp) tk,mi (o+kb:Nat),.s nm]) (λ_ O'=>O4.Ge O'/\l.any (·.1==nm)=γ) ?_ ?_
 ·refine κ ay ?_;refine Γ ?_;refine Υ [40] [0,2,4,5,38,39] (λj:Nat=>[mi j]) (λj O'=>O4.Ge O'/\j<=(Ζ l)/\l.any (·.1==nm)=(l.drop j).any (·.1==nm)) (λj=>(Ζ l) - j) (0) ?_ ?_;exact⟨VH.Ge.refl _,an6 _,rfl⟩;rintro j O5 ⟨bB,hj,iw⟩;by_cases rB:j<Ζ l
  ·have bh:=bY eC l j rB;have Qf:=alp rB;rw[Qf,List.any_cons]at iw;generalize l[j]=y at*;obtain⟨yn,yv⟩:=y;simp only[bp]at bh;refine κ ay ?_;refine κ ay ?_;refine Δ (Γ ?_);refine ξ ay bh ?_;refine VC.al ?_;rintro O6 ⟨dU,nV,mQ⟩;by_cases hy:yn=nm;have e1:(yn==nm)=Α:=beq_iff_eq.2 hy;simp only[e1,Bool.true_or]at iw;rw[iw,if_pos rfl];refine θ (aF ay nV e1 ?_);refine ν ay ?_;refine η (jm _ _ _) ?_;refine ae ay ?_;exact⟨agF.trans (aL.dG (bB.trans dU)).any,rfl⟩
   ·have e1:(yn==nm)=γ:=by simpa using hy
    simp only[e1,Bool.false_or]at iw;refine θ (aF ay nV e1 ?_);refine ν ay ?_;refine ν ay ?_;exact aw.N (j+1) ⟨bB.trans dU,rB,iw⟩
  ·obtain rfl:j=Ζ l:=Λ
   rw[auh,List.any_nil]at iw;refine κ ay ?_;refine ν ay ?_;exact aE.mk () ⟨bB,iw⟩
 rintro⟨⟩ O5 ⟨bB,iw⟩;rw[iw,if_neg z10];have nU:=GU.ge bB;have iz:=lh.ge bB;have aaD:=agF.trans (aL.dG bB).any;clear bB GU gu fR cQ nD lh dZ cx cC Je agF dA hrb;have atx:=kC t o2 a2;refine κ ay ?_;refine ah.p (v_ nU ht a2) ?_ ?_;rotate_left;rintro m O9 ⟨_,h⟩;exact h.elim;rintro m O6 ⟨gP,h9⟩;dsimp only at h9;obtain⟨rfl,vd⟩:=h9;have iU:App O6 O.N 2 tk:=App.bQ iz gP z27;have Tl:=aaD.trans gP;repeat refine lL ay ?_
 have Qg:= @l9 t (o2+l0 t o2) [61];have Yt:=Ho (X:=X) [61] vd ht z12;generalize mT t (o2+l0 t o2) [61]=WF at*;refine ah.ex WF (Yt) ?_ ?_;rintro e m O9 rfl ⟨qS,rfl⟩;refine ae ay ?_;exact⟨aL.trans Tl qS,rfl⟩;rintro⟨y7,o4⟩ m O7 rfl ⟨oy,h9⟩;dsimp only at h9;obtain⟨rfl,PW⟩:=h9;obtain⟨b1,b2,b3⟩:=Qg rfl;have jl:App O7 O.N 2 tk:=App.bQ iU oy z27;have aqY:=Tl.trans oy;have aty:=kC t o4 b2;repeat refine lL ay ?_
 refine ah.p (v_ PW ht b2) ?_ ?_;rotate_left;rintro m O9 ⟨_,h⟩;exact h.elim;rintro m O8 ⟨Lh,h9⟩;dsimp only at h9;obtain⟨rfl,Ln⟩:=h9;have nF:App O8 O.N 2 tk:=App.bQ jl Lh z27;have al5:=aqY.trans Lh;repeat refine lL ay ?_
 have hvk:= @Di t (o4+l0 t o4);have hvv:=agD Ln ht;generalize wU t (o4+l0 t o4)=VF at*;refine ah.ex VF (hvv) ?_ ?_;rintro e m O9 rfl ⟨qS,rfl⟩;refine ae ay ?_;exact⟨aL.trans al5 qS,rfl⟩;rintro⟨v,o6⟩ m OA rfl ⟨Qh,h9⟩;dsimp only at h9;obtain⟨rfl,hrA⟩:=h9;obtain⟨c1,c2,c3⟩:=hvk rfl;have agG:App OA O.N 2 tk:=App.bQ nF Qh z27;have aaN:=al5.trans Qh;repeat refine lL ay ?_
 have aqZ:=bE (tk':=.full) (n:=Ζ l) (k:=1) (cs:=l.flatMap bp) (ds:=[.s nm,.s v]) alG alO.1.1 agG nQ;refine VL.app aqZ ?_;repeat refine lL ay ?_
 have lM:=dR.after agG;have hne:∀i,i<O.N->Tok.id tk≠φ i:=λi hi e=>by have:=(agG.iM e).1;omega
 refine aw.N (l++[(nm,v)],o6,.own OA.N 2) ⟨⟨an7 aaN.N lM.N,λi hi hk=>(lM.hp i (aev hi aaN.N) (hne i hi)).trans (aaN.hp i hi hk)⟩,⟨aev hrA.1 lM.N,(lM.hp k hrA.1 (hne k h.1)).trans hrA.2⟩,App.after aaN.N,c2,?_,n,?_,rfl⟩ (hl:=?_) (hm:=?_);dsimp only;rw[Rn,auj];omega;dsimp only;omega;dsimp only;rw[auo,Rn];rfl;dsimp only;omega
structure Tk where
 kind:Int
 name:Bs
 attrs:List (Bs×Bs)
 text:Bs
 off:Nat
def BT(x:Tk):Η:=[mi x.kind,.s x.name,.l (Ζ x.attrs) (x.attrs.flatMap bp) .av,.s x.text,mi x.off,mi 0,mi 0]
def Jf(x:Tk):(BT x).length=7:=rfl
structure UB(B k:Nat)(O O':VH):Prop where
 N:O.N<=O'.N
 hp:∀i,i<B->i≠k->O'.hp i=O.hp i
def UB.refl(B k:Nat)(O:VH):UB B k O O:=⟨an3 _,λ_ _ _=>rfl⟩
def UB.bQ(h:UB B k O O1)(u:aL O1 (φ k) O2)(hB:B<=O1.N:=by omega):UB B k O O2:=
 ⟨an7 h.N u.N,λi hi hk=>(u.hp i (aev hi hB) z14).trans (h.hp i hi hk)⟩
def UB.ge(h:UB B k O O1)(u:O1.Ge O2)(hB:B<=O1.N):UB B k O O2:=
 ⟨an7 h.N u.N,λi hi hk=>(u.hp i (aev hi hB)).trans (h.hp i hi hk)⟩
def UB.set(h:UB B k O O1)(hb:B<=b\/b=k):UB B k O (O1.set b x):=
 ⟨h.N,λi hi hk=>Θ (h.hp i hi hk)⟩
def UB.trans(h:UB B k O O1)(u:UB B k O1 O2):UB B k O O2:=⟨an7 h.N u.N,λi hi hk=>(u.hp i hi hk).trans (h.hp i hi hk)⟩
def Rd.other(h:Rd O k t off X)(hb:b≠k):Rd (O.set b x) k t off X:=⟨h.1,(τ _ _ (λe=>hb e.symm)).trans h.2⟩
def Ba{α β :Type}(f: α -> β):Except (Int×Nat) (α ×Nat)->Except (Int×Nat) (β ×Nat)
 | .error e=>.error e
 | .ok (x,o)=>.ok (f x,o)
def zY(t:Bs)(off:Nat):Except (Int×Nat) (Tk×Nat):=match oG t (off+2) 11 with
 | .error e=>.error e
 | .ok (nm,o2)=>Ba (λ_=>⟨3,nm,[],[],off⟩) (mT t (o2+l0 t o2) [62])
def EE(t:Bs)(off:Nat):Except (Int×Nat) (Tk×Nat):=match oG t (off+1) 11 with
 | .error e=>.error e
 | .ok (nm,o2)=>match oJ t (Ζ t+1 - o2) o2 []with
   | .error e=>.error e
   | .ok (l,o3)=>if fV (t.drop o3) [47]then Ba (λ_=>⟨2,nm,l,[],off⟩) (mT t (o3+1) [62])else Ba (λ_=>⟨1,nm,l,[],off⟩) (mT t o3 [62])
def ve(t:Bs)(off:Nat):Except (Int×Nat) (Tk×Nat):=
 if fV (t.drop off) [60,33,45,45]then Ba (λs=>⟨5,[],[],s,off⟩) (jJ t (off+List.length [(60:UInt8),33,45,45]) [45,45,62])
 else if fV (t.drop off) [60,33,91,67,68,65,84,65,91]then Ba (λs=>⟨4,[],[],s,off⟩) (jJ t (off+List.length [(60:UInt8),33,91,67,68,65,84,65,91]) [93,93,62])
 else if off=0/\yE (t.drop off)=Α then Ba (λs=>⟨6,[],[],s,off⟩) (jJ t (off+List.length [(60:UInt8),63,120,109,108]) [63,62])
 else if fV (t.drop off) [60,47]then zY t off
 else if fV (t.drop off) [60]then EE t off
 else Ba (λs=>⟨4,[],[],s,off⟩) (gn t 60 (Ζ t+1 - off) off [])
structure TJ(O:VH)(B k n:Nat)(t:Bs)(p:MV)(L:Η)(o:Nat)(O':VH):Prop where
 ub:UB B k O O'
 rd:Rd O' k t o p
 row:GR O' 149 7 B p n L
 lt:O.N<O'.N
def TJ.set(h:TJ O B k n t p L o O')(hb:O'.hp O.N=φ (.cells cs))(hp:gid p≠φ O.N)(lC:k<B)(hB:B<=O.N):TJ O B k n t p L o (O'.set O.N x):=
 ⟨h.ub.set (.inl hB),h.rd.other Λ,h.row.fc aL.set hp (λ_ _ _ e=>by rw[hb]at e;cases e),h.lt⟩
def TJ.bQ{o2:Nat}(h:TJ O B k n t p L o OX)(u:aL OX (φ k) OY)(hr:Rd OY k t o2 p)(hp:gid p≠φ k)(hB:B<=O.N):TJ O B k n t p L o2 OY:=
 ⟨h.ub.bQ u (by have:=h.lt;omega),hr,h.row.fc u hp (λ_ _ _ e=>by rw[h.rd.2]at e;cases e),aev h.lt u.N⟩
def TJ.pn(h:TJ O B k n t p L o OX)(u:aL OX (φ k) OY)(hB:B<=O.N):UB B k O OY:=h.ub.bQ u (by have:=h.lt;omega)
def TJ.at(h:TJ O B k n t p L o OX)(u:aL OX (φ k) OY)(lC:k<B)(hB:B<=O.N)(hb:OX.hp O.N=φ (.cells cs)):OY.hp O.N=φ (.cells cs):=
 (u.hp _ h.lt z14).trans hb
section
variable{P:Program}{n:Sz}{D:List Deferred}{c:Code}{e:Env}{O:VH}{Q:VQ}{md:Md}{d:Option Tmp}{K:Env->VH->Prop}{fv:ϱ}{ms:Option Η}{b k:Nat}{x y:bO}
def ah.s1(h:∀O3,O3=O.set b x->ah P n md Q d O3 K e fv ms):ah P n md Q d (O.set b x) K e fv ms:=h _ rfl
def ah.s2(h:∀O3,O3=(O.set b x).set k y->ah P n md Q d O3 K e fv ms):ah P n md Q d ((O.set b x).set k y) K e fv ms:=h _ rfl
end
def Dj{t:Bs}:∀(n o:Nat)(l:List (Bs×Bs)) {l':List (Bs×Bs)} {o':Nat},o<=(Ζ t)->oJ t n o l= .ok (l',o')->o<=o'/\o'<=Ζ t
 | 0,o,l,l',o',ho,h=>by
   rw[oJ]at h;injection h with h;injection h with h1 h2;omega
 | n+1,o,l,l',o',ho,h=>by
   have si:=kC t o ho;rw[oJ]at h;split at h;injection h with h;injection h with h1 h2;omega;split at h;cases h;rename_i nm o2 h2;have hn:=jb h2;have bV:=kC t o2;split at h;cases h;split at h;cases h;rename_i y4 o4 h4;have hw:=l9 h4;have c8:=kC t o4;split at h;cases h;rename_i v o6 h6;have hv:=Di h6;have:=Dj n o6 _ Λ h;omega
def agH(h:Rd O k t off p)(ht:Ζ t<=1000000)(ho:off<=Ζ t)(lC:k<B)(hB:B<=O.N)(ca:GR O 149 7 B p n L)(hn:n<=1000000):
  VF Ε 215 [.p k 0] O λr O'=>UB B k O O'/\match r,ve t off with
   | .ret m,.ok (x,o')=>m= .tuple []/\∃p',Rd O' k t o' p'/\GR O' 149 7 B p' (n+1) (L++BT x)
   | .panic m,.error e=>m=Dg e.1 e.2
   | _,_=>False:=by
 have hk:=h.2;simp only[aq]at hk
 have qO:gid p≠φ k:=λe=>by
  rcases ca with⟨_,_,hp | hp⟩ | ⟨k2,c,hp,_,_,lD⟩;rw[hp]at e;cases e;rw[hp]at e;cases e;rw[hp]at e;injection e with e;have:=lD.lo;omega
 refine ω 116 [] func215 ?_;refine ξ ay hk ?_;refine VC.al ?_;rintro O1 ⟨aM,cS,dq⟩;have sL:=h.ge aM;have aoO:=ca.r7 (aL.dG aM);have du:=sL.2;simp only[aq]at du;have ry:UB B k O O1:=(UB.refl B k O).ge aM hB
 have rA:gid p≠φ O.N:=λe=>by
  rcases ca with⟨_,_,hp | hp⟩ | ⟨k2,c,hp,_,_,lD⟩;rw[hp]at e;cases e;rw[hp]at e;cases e;rw[hp]at e;injection e with e;have:=lD.hi;omega
 have hJ:∀{O3:VH} {o:Nat},aL O1 (φ k) O3->Rd O3 k t o p->TJ O B k n t p L o O3:=λ{O3 o} u hr=>
  ⟨ry.bQ u Λ,hr,aoO.fc u qO (λ_ _ _ e=>by rw[sL.2]at e;cases e),by have:=u.N;omega⟩
 refine Ξ [0,2] (λx:Tk×Nat=>[.p k 0,.p O.N 0]) (λx O'=>TJ O B k n t p L x.2 O'/\ve t off= .ok x/\∃att,O'.hp O.N=φ (.cells [mi x.1.kind,.s x.1.name,att,.s x.1.text,mi x.1.off,mi 0,mi 0])/\av att= .l (Ζ x.1.attrs) (x.1.attrs.flatMap bp) .av/\dF att=Α) ?_ ?_
 ·refine Γ ?_;unfold ve;refine κ ay ?_;refine Ω (yD [60,33,45,45] sL ho) ?_;cases hp:fV (t.drop off) [60,33,45,45];rotate_left;((·rw[if_pos rfl];have hle:=jT hp;have Qi:=Jb (X:=p) [60,33,45,45] [45,45,62] sL ht z12 (by rw[TR]at hle;omega);generalize jJ t (off+List.length [60,33,45,45]) [45,45,62]=F at*;(((repeat refine lL ay ?_);refine ah.ex F (Qi) ?_ ?_);(·rintro e m O9 rfl ⟨qS,rfl⟩;(repeat refine lL ay ?_);exact⟨UB.bQ ry (aL.trans (aL.refl _ _) qS),rfl⟩));rintro⟨s,o2⟩ m O3 rfl ⟨cx,h9⟩;dsimp only at h9;obtain⟨rfl,gu⟩:=h9;have cE:=(cx.hp _ Λ z14).trans cS;(repeat refine yA ay cE ?_);exact aE.mk (⟨5,[],[],s,off⟩,o2) ⟨((hJ cx gu).set cE rA lC hB).set (υ _ _ _) rA lC hB,rfl,.l 0 [] .nil,υ _ _ _,by simp only[wu];rfl,rfl⟩));rw[if_neg z10];refine ae ay ?_;refine VC.oc rfl ?_;refine κ ay ?_;refine Ω (yD [60,33,91,67,68,65,84,65,91] sL ho) ?_;clear hp;cases hp:fV (t.drop off) [60,33,91,67,68,65,84,65,91];rotate_left
  ·rw[if_pos rfl];have hle:=jT hp;have Qi:=Jb (X:=p) [60,33,91,67,68,65,84,65,91] [93,93,62] sL ht z12 (by rw[TR]at hle;omega);generalize jJ t (off+List.length [60,33,91,67,68,65,84,65,91]) [93,93,62]=F at*;(((repeat refine lL ay ?_);refine ah.ex F (Qi) ?_ ?_);(·rintro e m O9 rfl ⟨qS,rfl⟩;(repeat refine lL ay ?_);exact⟨UB.bQ ry (aL.trans (aL.refl _ _) qS),rfl⟩));rintro⟨s,o2⟩ m O3 rfl ⟨cx,h9⟩;dsimp only at h9;obtain⟨rfl,gu⟩:=h9;have cE:=(cx.hp _ Λ z14).trans cS;(repeat refine yA ay cE ?_);exact aE.mk (⟨4,[],[],s,off⟩,o2) ⟨((hJ cx gu).set cE rA lC hB).set (υ _ _ _) rA lC hB,rfl,.l 0 [] .nil,υ _ _ _,by simp only[wu];rfl,rfl⟩
  rw[if_neg z10];clear hp;refine ae ay ?_;refine VC.oc rfl ?_;refine Ξ [0,2,32] (λb:Bool=>[.p k 0,.p O.N 0,.v (.bool b)]) (λb O'=>O'=O1/\b=(decide (off=0)&&yE (t.drop off))) ?_ ?_
  ·by_cases h0:off=0
   ·have h0i:((off:Int)==0)=Α:=by simpa using h0
    (repeat refine kg3 ay du h0i ?_);refine Ω (adH sL ht ho) ?_;repeat refine lL ay ?_
    exact aE.mk (yE (t.drop off)) ⟨rfl,by simp[h0]⟩
   ·have h0i:((off:Int)==0)=γ:=by simpa using h0
    (repeat refine kg3 ay du h0i ?_);exact aE.mk γ ⟨rfl,by simp[h0]⟩
  rintro b O2 ⟨e2,hb⟩;rw[e2];clear e2 O2;cases b;rotate_left
  ·have bV:=Bool.and_eq_true_iff.1 hb.symm;have h0:=of_decide_eq_true bV.1;rw[if_pos ⟨h0,bV.2⟩]
   have hp:fV (t.drop off) [60,63,120,109,108]=Α:=by
    have hhd:=bV.2;unfold yE at hhd;simp only[auC]at hhd;exact hhd.1.1
   (repeat refine lL ay ?_);have hle:=jT hp;have Qi:=Jb (X:=p) [60,63,120,109,108] [63,62] sL ht z12 (by rw[TR]at hle;omega);generalize jJ t (off+List.length [60,63,120,109,108]) [63,62]=F at*;repeat refine lL ay ?_
   refine ah.ex F (Qi) ?_ ?_;((·rintro e m O9 rfl ⟨qS,rfl⟩;(repeat refine lL ay ?_);exact⟨UB.bQ ry (aL.trans (aL.refl _ _) qS),rfl⟩));rintro⟨s,o2⟩ m O3 rfl ⟨cx,h9⟩;dsimp only at h9;obtain⟨rfl,gu⟩:=h9;have cE:=(cx.hp _ Λ z14).trans cS;(repeat refine yA ay cE ?_);exact aE.mk (⟨6,[],[],s,off⟩,o2) ⟨((hJ cx gu).set cE rA lC hB).set (υ _ _ _) rA lC hB,rfl,.l 0 [] .nil,υ _ _ _,by simp only[wu];rfl,rfl⟩
  rw[if_neg (λh=>by rw[decide_eq_true h.1,h.2]at hb;cases hb)];(repeat refine lL ay ?_);refine Ω (yD [60,47] sL ho) ?_;cases hp:fV (t.drop off) [60,47];rotate_left
  ·rw[if_pos rfl];unfold zY;have hle:=jT hp;simp only[TR,abT,ahB]at hle;(((((((repeat refine yA ay du ?_);have fR:Rd (O1.set k (.cells [.s t,mi (off+2:Nat),p])) k t (off+2) p:=sL.set;have dZ:aL O1 (φ k) (O1.set k (.cells [.s t,mi (off+2:Nat),p])):=aL.set;have pK:((off:Int)+2)=((off+2:Nat):Int):=by omega);simp only[aq, <-pK]at fR dZ;generalize O1.set k (.cells [.s t,.v (Ι Κ ((off:Int)+2)),p])=O2 at*;repeat refine lL ay ?_);have Ty:=Qd 11 fR ht;have GS:= @jb t (off+2) 11;generalize oG t (off+2) 11=F at*;refine ah.ex F (Ty) ?_ ?_);(·rintro e m O9 rfl ⟨qS,rfl⟩;(repeat refine lL ay ?_);exact⟨UB.bQ ry (aL.trans dZ qS),rfl⟩));rintro⟨s,o2⟩ m O3 rfl ⟨cx,h9⟩;dsimp only at h9;obtain⟨rfl,gu⟩:=h9;have Nl:=dZ.trans cx;obtain⟨a1,a2,a3,a4⟩:=GS rfl;have cE:=(Nl.hp _ Λ z14).trans cS;((((((repeat refine yA ay cE ?_);refine ah.s2 ?_;rintro O4 Au;have TK:TJ O B k n t p L o2 O4:=by rw[Au];exact((hJ Nl gu).set cE rA lC hB).set (υ _ _ _) rA lC hB);have c8:O4.hp O.N=φ (.cells [mi 3,.s s,.l 0 [] .nil,.s [],mi off,mi 0,mi 0]):=by rw[Au];exact υ _ _ _);clear Au;have si:=kC t o2 a2;refine ah.p (v_ TK.rd ht a2) ?_ ?_;rotate_left);rintro m O9 ⟨_,h⟩;exact h.elim);rintro m O5 ⟨iJ,h9⟩;dsimp only at h9;obtain⟨rfl,nU⟩:=h9;have TF:=TK.bQ iJ nU qO hB;have dX:=TK.at iJ lC hB c8;repeat refine lL ay ?_);have Yt:=Ho (X:=p) [62] nU ht z12;generalize mT t (o2+l0 t o2) [62]=W at*;refine ah.ex W (Yt) ?_ ?_);(·rintro e m O9 rfl ⟨qS,rfl⟩;(repeat refine lL ay ?_);exact⟨TJ.pn TF qS hB,rfl⟩));rintro⟨y6,o4⟩ m O6 rfl ⟨gP,h9⟩;dsimp only at h9;obtain⟨rfl,vd⟩:=h9;have kH:=TF.at gP lC hB dX;(repeat refine lL ay ?_);exact aE.mk (⟨3,s,[],[],off⟩,o4) ⟨TF.bQ gP vd qO hB,rfl,.l 0 [] .nil,kH,by simp only[wu];rfl,rfl⟩
  rw[if_neg z10];clear hp;(repeat refine lL ay ?_);refine Ω (yD [60] sL ho) ?_;cases hp:fV (t.drop off) [60];rotate_left
  ·rw[if_pos rfl];unfold EE;have hle:=jT hp;simp only[TR,abT,ahB]at hle;(((((((((repeat refine yA ay du ?_);have fR:Rd (O1.set k (.cells [.s t,mi (off+1:Nat),p])) k t (off+1) p:=sL.set;have dZ:aL O1 (φ k) (O1.set k (.cells [.s t,mi (off+1:Nat),p])):=aL.set;have pK:=jSx off);simp only[aq, <-pK]at fR dZ;generalize O1.set k (.cells [.s t,.v (Ι Κ ((off:Int)+1)),p])=O2 at*;repeat refine lL ay ?_);have Ty:=Qd 11 fR ht;have GS:= @jb t (off+1) 11;generalize oG t (off+1) 11=F at*;refine ah.ex F (Ty) ?_ ?_);(·rintro e m O9 rfl ⟨qS,rfl⟩;(repeat refine lL ay ?_);exact⟨UB.bQ ry (aL.trans dZ qS),rfl⟩));rintro⟨s,o2⟩ m O3 rfl ⟨cx,h9⟩;dsimp only at h9;obtain⟨rfl,gu⟩:=h9;have Nl:=dZ.trans cx;obtain⟨a1,a2,a3,a4⟩:=GS rfl;have cE:=(Nl.hp _ Λ z14).trans cS;(((repeat refine yA ay cE ?_);refine ah.s1 ?_;rintro O4 Au;have TK:TJ O B k n t p L o2 O4:=by rw[Au];exact(hJ Nl gu).set cE rA lC hB);have c8:O4.hp O.N=φ (.cells [mi 0,.s s,.l 0 [] .nil,.s [],mi off,mi 0,mi 0]):=by rw[Au];exact υ _ _ _);clear Au;have hav:=agE TK.rd ht a2;have hak:= @Dj t (Ζ t+1 - o2) o2 [];generalize oJ t (Ζ t+1 - o2) o2 []=A at*;refine ah.ex A hav ?_ ?_);(·rintro e m O9 rfl ⟨qS,rfl⟩;(repeat refine lL ay ?_);exact⟨TK.pn qS hB,rfl⟩));rintro⟨l,o3⟩ m O5 rfl ⟨iJ,h9⟩;dsimp only at h9;obtain⟨⟨tk,rfl⟩,nU⟩:=h9;obtain⟨c1,c2⟩:=hak a2 rfl;have TF:=TK.bQ iJ nU qO hB;have dX:=TK.at iJ lC hB c8;simp only[aq]at dX;(((repeat refine yA ay dX ?_);refine ah.s2 ?_;rintro O6 Qj;have Yu:TJ O B k n t p L o3 O6:=by rw[Qj];exact(TF.set dX rA lC hB).set (υ _ _ _) rA lC hB);have kH:O6.hp O.N=φ (.cells [mi 1,.s s,.l (Ζ l) (l.flatMap bp) tk,.s [],mi off,mi 0,mi 0]):=by rw[Qj];exact υ _ _ _);clear Qj;have qP:=Yu.rd.2;simp only[aq]at kH qP;refine Ω (yD [47] Yu.rd c2) ?_;cases h47:fV (t.drop o3) [47]);(·rw[if_neg z10];(((repeat refine lL ay ?_);have Yt:=Ho (X:=p) [62] Yu.rd ht z12;generalize mT t o3 [62]=W at*;refine ah.ex W (Yt) ?_ ?_);(·rintro e m O9 rfl ⟨qS,rfl⟩;(repeat refine lL ay ?_);exact⟨TJ.pn Yu qS hB,rfl⟩));rintro⟨y7,o4⟩ m O7 rfl ⟨oy,h9⟩;dsimp only at h9;obtain⟨rfl,PW⟩:=h9;have yp:=Yu.at oy lC hB kH;(repeat refine lL ay ?_);exact aE.mk (⟨1,s,l,[],off⟩,o4) ⟨Yu.bQ oy PW qO hB,rfl,.l (Ζ l) (l.flatMap bp) tk,yp,by simp only[wu,ic],rfl⟩));(·rw[if_pos rfl];have alW:=jT h47;simp only[TR,abT,ahB]at alW;(((((((have aq0:=λx:bO=>(τ O6 (k:=O.N) (j:=k) x Λ).trans qP);repeat refine kg4 ay kH qP aq0 ?_);refine ah.s2 ?_;rintro O7 Jg;have en:=jSx o3);rw[en]at Jg;have hs6:=Yu.set (x:=.cells [.v (Ι Κ 2),.s s,.l (Ζ l) (l.flatMap bp) tk,.s [],.v (Ι Κ off),.v (Ι Κ 0),.v (Ι Κ 0)]) kH rA lC hB;have hj7:TJ O B k n t p L (o3+1) O7:=by rw[Jg];exact hs6.bQ aL.set (Rd.set hs6.rd) qO hB);have yp:O7.hp O.N=φ (.cells [mi 2,.s s,.l (Ζ l) (l.flatMap bp) tk,.s [],mi off,mi 0,mi 0]):=by rw[Jg];exact Θ (υ _ _ _));clear Jg hs6;have Yt:=Ho (X:=p) [62] hj7.rd ht z12;generalize mT t (o3+1) [62]=W at*;refine ah.ex W (Yt) ?_ ?_);(·rintro e m O9 rfl ⟨qS,rfl⟩;(repeat refine lL ay ?_);exact⟨TJ.pn hj7 qS hB,rfl⟩));rintro⟨y8,o4⟩ m O8 rfl ⟨Lh,h9⟩;dsimp only at h9;obtain⟨rfl,Ln⟩:=h9;have yf:=hj7.at Lh lC hB yp;(repeat refine lL ay ?_);exact aE.mk (⟨2,s,l,[],off⟩,o4) ⟨hj7.bQ Lh Ln qO hB,rfl,.l (Ζ l) (l.flatMap bp) tk,yf,by simp only[wu,ic],rfl⟩)
  rw[if_neg z10];clear hp;(repeat refine lL ay ?_);have mF:=Jd (X:=p) 60 sL ht ho;generalize gn t 60 (Ζ t+1 - off) off []=F at*;refine ah.ex F (mF) ?_ ?_
  ·rintro e m O9 rfl ⟨qS,rfl⟩;(repeat refine lL ay ?_);exact⟨UB.bQ ry (aL.trans (aL.refl _ _) qS),rfl⟩
  rintro⟨s,o2⟩ m O3 rfl ⟨cx,h9⟩;dsimp only at h9;obtain⟨rfl,gu⟩:=h9;have cE:=(cx.hp _ Λ z14).trans cS;(repeat refine yA ay cE ?_);exact aE.mk (⟨4,[],[],s,off⟩,o2) ⟨((hJ cx gu).set cE rA lC hB).set (υ _ _ _) rA lC hB,rfl,.l 0 [] .nil,υ _ _ _,by simp only[wu];rfl,rfl⟩
 rintro⟨x,o'⟩ O2 ⟨bu,fP,att,bV,bh,fX⟩;dsimp only at bu fP bV bh fX;rw[fP];have bC:=bu.rd.2;simp only[aq]at bV bC;refine VC.Pe [0,7,8,9,10] z11 ?_;refine bR.mv 0 ?_;refine bR.bM [(1,.rd),(2,.rd),(3,.rd),(4,.rd),(5,.rd),(6,.one),(7,.one),(8,.one),(9,.one),(10,.one)] ?_;simp only[ag];repeat refine kg3 ay bV bC ?_
 refine VL.wk (EW.top (Wk.l (r9 _))) ?_
 have vK:de [.v (Ι Κ x.kind),.s x.name,att,.s x.text,.v (Ι Κ x.off),.v (Ι Κ 0),.v (Ι Κ 0)]=BT x:=by
  simp only[wu,bh,BT,aq]
 rw[vK];have bI:=bu.lt;refine VL.aoK aa z10 (λi hi=>by match i,hi with | 7,_=>rfl | 0,hi | 1,hi | 2,hi | 3,hi | 4,hi | 5,hi | 6,hi | 8,hi | 9,hi | 10,hi=>cases hi | _+11,hi=>cases hi) (te:=⟨_,7,88,_⟩) (dx:=.slice 149) (q:=.l 1 (BT x) .full) (j:=1) (ds:=BT x) bu.row rfl rfl (by rw[IH];rfl) alH.1.1 (by rw[IH];rfl) trivial z18 z13 Λ rfl rfl rfl rfl ?_;intro m O3 ox kF bK hm;have dA:O3.hp k=φ (.cells [.s t,.v (Ι Κ o'),p]):=(kF.hp k bu.rd.1 (by intro e;exact qO e)).trans bC
 obtain⟨k2,c2,rfl⟩:∃k2 c2,m= .bk k2 0 (n+1) c2:=by
  rcases hm with⟨k2,c2,h1,_⟩ | ⟨h1,_⟩;exact⟨k2,c2,h1⟩;cases h1
 have atz:B<=k2:=by
  rcases ox with⟨h1,_⟩ | ⟨k3,c3,h1,_,_,h4⟩;cases h1;injection h1 with h1;rw[h1];exact h4.lo
 have sM:∀i,i<B->gid p≠φ i:=λi hi e=>by
  rcases ca with⟨_,_,hp | hp⟩ | ⟨k3,c,hp,_,_,lD⟩;rw[hp]at e;cases e;rw[hp]at e;cases e;rw[hp]at e;injection e with e;have:=lD.lo;omega
 clear hm bK;try refine yA ay dA ?_
 refine⟨⟨an7 bu.ub.N kF.N,λi hi hk=>(τ _ _ hk).trans ((kF.hp i Λ (sM i hi)).trans (bu.ub.hp i hi hk))⟩,.bk k2 0 (n+1) c2,⟨aev bu.rd.1 kF.N,υ _ _ _⟩,ox.fc aL.set z14 (λ_ _ _ e=>by rw[dA]at e;cases e)⟩
def Jh{d:Nat}(h:K O):fM Ε 213 [.p a 0,.p b 0,.p c 0,.p d 0] Β O K:=by
 refine fM.rec (d:=7) func213 (aup (by decide:7<19) rfl) ?_;show WC _ _ ⟨19,0⟩ _ _ _ _ _;simp only[cX,aul,y10,wI];refine ak eJ @wi ?_;refine VL.pure z10 (λ_=>.inl rfl) rfl rfl (d_.IB (bb:=Α) Tryz.underlying20 rfl (.inl ⟨rfl,rfl⟩)) ?_;refine WL.sound aa ?_;refine ak eJ @wi ?_;exact h
def agI{d:Nat}{x:MV}{z1 z2 z3:MV}(ht:Ζ t<=1000000)(ho:off<=Ζ t)(ha:O.hp a=φ (.cells [.s t]))(hb:O.hp b=φ (.cells [x]))(hc:O.hp c=φ (.cells [y]))(hd:O.hp d=φ (.cells [z1,z2,z3]))
  (Qk:a<O.N) (xm:b<O.N) (GI:c<O.N) (KL:d<O.N) (hbc:b≠c) (cG:b≠d) (hcd:c≠d)
  (h:∀O',O.N<=O'.N->(∀i,i<O.N->i≠b->i≠c->i≠d->O'.hp i=O.hp i)->O'.hp b=φ (.cells [.l 0 [] .nil])->O'.hp c=φ (.cells [mi e])->O'.hp d=φ (.cells [mi off,mi (1+((t.take off).count 10:Nat)),mi ((off:Int) - gF (t.take off) 10 (t.take off).length)])->K O'):fM Ε 213 [.p a 0,.p b 0,.p c 0,.p d 0] (φ (Dg e off)) O K:=by
 refine fM.rec (d:=7) func213 (aup (by decide:7<19) rfl) ?_;show WC _ _ ⟨19,0⟩ _ _ _ _ _;simp only[cX,aul,y10,wI,Dg];refine ak eJ @wi ?_;refine VL.pure z10 (λ_=>.inl rfl) rfl rfl (d_.CQ (bb:=γ) Tryz.underlying20 rfl (.inl ⟨rfl,rfl⟩)) ?_;refine WL.sound aa ?_;refine ak eJ @wi ?_;refine VL.pure z10 (λ_=>.inl rfl) rfl rfl (d_.asT Tryz.underlying338 (λ_ h=>by cases h) rfl) ?_;refine WL.sound aa ?_;refine ak eJ @wi ?_;refine VC.al ?_;rintro O2 ⟨ax,dQ,eG⟩;have iO:=(ax.hp _ Qk).trans ha;have bV:=(ax.hp _ xm).trans hb;have fz:=(ax.hp _ GI).trans hc;have nS:=(ax.hp _ KL).trans hd;have vV:∀(X:bO) {i:Nat} {y:Option bO},i<O.N->O2.hp i=y->(O2.set O.N X).hp i=y:=λX {i y} hi h=>Θ h
 refine VC.mJ [] (O.N) (dQ) ?_;intro X;have jx:=vV (.obj X) Qk iO;have c8:=vV (.obj X) xm bV;have ff:=vV (.obj X) GI fz;have yG:=vV (.obj X) KL nS;have jU:(O2.set O.N (.obj X)).hp O.N=φ (.obj X):=υ _ _ _;have fe:(O2.set O.N (.obj X)).N=O.N+1:=eG;have aV:O.Ge (O2.set O.N (.obj X)):=ax.set (an3 _) _;generalize hO4:O2.set O.N (.obj X)=O4 at*;refine ρ 0 eJ ?_;refine auQ (m:=.v (Ι Κ e)) 1 ?_ ?_;exact ez eJ;simp only[ag];refine ρ 3 eJ ?_;refine auQ (m:=.v (Ι Κ off)) 4 ?_ ?_;exact ez eJ;simp only[ag];refine ab.op (i:=2) ?_;refine ak eJ jx ?_;refine⟨jU,?_⟩;refine ab.call (i:=5) (al3 t off _ ht ho) ?_;rintro _ O3 ⟨rfl,aB⟩;simp only[ag];refine⟨aB.at jU,?_⟩;have ea:=aB.N;have hX3:=aB.at jU;have cE:=aB.at c8;have en:=aB.at ff;have EF:=aB.at yG;have bB:O.Ge O3:=aV.trans aB;unfold p8;simp only[aq]at h ⊢;refine ab.op (i:=6) ?_;refine ak eJ cE ?_;refine⟨hX3,?_⟩;refine ab.op (i:=7) ?_;refine ak eJ en ?_;refine⟨hX3,?_⟩;refine ab.op (i:=8) ?_;refine ak eJ EF ?_;refine⟨hX3,?_⟩;refine ab.mK [] ?_;refine ae eJ ?_;refine h _ (by rw[auR,auR,auR,auR];exact bB.N) (λi hi h1 h2 h3=>?_) ?_ ?_ ?_;rw[VH.sx,τ _ _ h3,τ _ _ h2,τ _ _ h1];exact bB.hp i hi;rw[VH.sx,τ _ _ cG,τ _ _ hbc,υ];rw[VH.sx,τ _ _ hcd,υ];rw[VH.sx,υ]
def kg8{A1 A2 A3 A4 A5 A6 A7 A8 P Q:Prop}(a1:A1)(a2:A2)(a3:A3)(a4:A4)(a5:A5)(a6:A6)(a7:A7)(a8:A8)(q:Q)(h:A1->A2->A3->A4->A5->A6->A7->A8->Q->P:=by intro a1 a2 a3 a4 a5 a6 a7 a8 q;first | (with_reducible refine θ ?_;refine SP a1 a2 a3 a4 a5 a6 a7 a8 q) | (with_reducible refine ι ?_;refine SP a1 a2 a3 a4 a5 a6 a7 a8 q) | (first | with_reducible refine Yf ?_ | with_reducible refine Yg ?_ | with_reducible refine Yh ?_ | with_reducible refine Yi ?_);refine SP a1 a2 a3 a4 a5 a6 a7 a8 q):P:=h a1 a2 a3 a4 a5 a6 a7 a8 q
def pL(t:Bs):Nat->Nat->List Tk->Except (Int×Nat) (List Tk)
 | 0,_,l=>.ok l
 | n+1,o,l=>if (Ζ t)<=o then .ok l else match ve t o with
   | .error e=>.error e
   | .ok (x,o')=>pL t n o' (l++[x])
def Bb(t:Bs):Except (Int×Nat) (List Tk):=pL t (Ζ t+1) 0 []
def nr(t:Bs)(o:Nat):Nat:=1+(t.take o).count 10
def Ji(t:Bs)(o:Nat):Int:=(o:Int) - gF (t.take o) 10 (t.take o).length
def xp(t:Bs)(x:Tk):Η:=[mi x.kind,.s x.name,.l (Ζ x.attrs) (x.attrs.flatMap bp) .av,.s x.text,mi x.off,mi (nr t x.off),mi (Ji t x.off)]
def zZ{t:Bs}{stop:UInt8}:∀(n o:Nat)(acc:Bs) {e:Int} {p:Nat},gn t stop n o acc= .error (e,p)->p<=Ζ t
 | 0,o,acc,e,p,h=>by unfold gn at h;cases h
 | n+1,o,acc,e,p,h=>by
   unfold gn at h;cases hg:t[o]? with
   | none=>rw[hg]at h;cases h
   | some c=>
     have Ys:o<Ζ t:=(aja.1 hg).1;rw[hg]at h;simp only at h;split at h;cases h;split at h;split at h;injection h with h;injection h with h1 h2;omega;exact zZ n _ _ h;split at h;injection h with h;injection h with h1 h2;omega;exact zZ n _ _ h
def BU{k:Int}{p:Nat}(h:oG t o k= .error (e,p)):p=o:=by
 unfold oG at h;split at h;injection h with h;injection h with h1 h2;omega;split at h;injection h with h;injection h with h1 h2;omega;cases h
def wa{p:Nat}(h:mT t o q= .error (e,p)):p=o:=by
 unfold mT at h;split at h;injection h with h;injection h with h1 h2;omega;split at h;cases h;injection h with h;injection h with h1 h2;omega
def adN{p:Nat}(ho:o<=Ζ t)(h:wU t o= .error (e,p)):p<=Ζ t:=by
 unfold wU at h;split at h;injection h with h;injection h with h1 h2;omega;rename_i q hq;have Ys:=(aja.1 hq).1;split at h;injection h with h;injection h with h1 h2;omega;split at h;rename_i e2 h2;injection h with h;subst h;exact zZ _ _ _ h2;rename_i s2 o2 h2;have:=qw _ _ _ Λ z10 h2;split at h;injection h with h;injection h with h1 h2;omega;cases h
def Nn{t:Bs}:∀(n o:Nat)(l:List (Bs×Bs)) {e:Int} {p:Nat},o<=(Ζ t)->oJ t n o l= .error (e,p)->p<=Ζ t
 | 0,o,l,e,p,ho,h=>by rw[oJ]at h;cases h
 | n+1,o,l,e,p,ho,h=>by
   have si:=kC t o ho;rw[oJ]at h;split at h;cases h;split at h;rename_i e2 h2;injection h with h;subst h;have:=BU h2;omega;rename_i nm o2 h2;have hn:=jb h2;have bV:=kC t o2;split at h;injection h with h;injection h with h1 h2;omega;split at h;rename_i e4 h4;injection h with h;subst h;have:=wa h4;omega;rename_i y4 o4 h4;have hw:=l9 h4;have c8:=kC t o4;split at h;rename_i e6 h6;injection h with h;subst h;exact adN c8 h6;rename_i v o6 h6;have hv:=Di h6;exact Nn n o6 _ Λ h
def yH{p:Nat}(ho:o<=Ζ t)(h:jJ t o q= .error (e,p)):p<=Ζ t:=by
 unfold jJ at h;split at h
 ·injection h with h;injection h with h1 h2;have h3:=nc qs (su (t.drop o) q)
  have h4:(su (t.drop o) q).length<=(Ζ t) - o:=by
   unfold su;split;rw[an2,TR];omega;rw[TR];exact an3 _
  omega
 split at h;injection h with h;injection h with h1 h2;omega;cases h
def adO(s p:Bs)(h:0<=Lib.index s p):Lib.index s p+Ζ p<=Ζ s:=by
 induction s with
 | nil=>
   unfold Lib.index at h ⊢;cases p with
   | nil=>simp
   | cons c p=>simp at h
 | cons b l ih=>
   have bK:=Lib.index_ge l p;unfold Lib.index at h ⊢;split;rename_i h1;have:=(List.isPrefixOf_iff_prefix.1 h1).length_le;omega;rename_i h1;rw[if_neg h1]at h;split;rename_i h2;rw[if_pos h2]at h;omega;rename_i h2;(have h3:Lib.index l p≠ -1:=by simpa using h2);have:=ih Λ;rw[abT];omega
def BV{p:Nat}(ho:o<=Ζ t)(h:jJ t o q= .ok (s,p)):o+Ζ q<=p/\p<=Ζ t:=by
 unfold jJ at h;split at h;cases h;split at h;cases h;rename_i h1;injection h with h;injection h with h2 h3;have:=adO (t.drop o) q Λ;rw[TR]at this;omega
def nG{α β :Type}{f: α -> β}{F:Except (Int×Nat) (α ×Nat)}{e:Int×Nat}(h:Ba f F= .error e):F= .error e:=by
 cases F with
 | error e2=>injection h with h;rw[h]
 | ok y=>cases h
def jV{α β :Type}{f: α -> β}{F:Except (Int×Nat) (α ×Nat)}{x: β}(h:Ba f F= .ok (x,o)):∃y,F= .ok (y,o)/\x=f y:=by
 cases F with
 | error e2=>cases h
 | ok y=>obtain⟨y,o2⟩:=y;injection h with h;injection h with h1 h2;exact⟨y,by rw[h2],h1.symm⟩
def adP{t:Bs}{o:Nat}{e:Int}{p:Nat}(ho:o<=Ζ t)(h:ve t o= .error (e,p)):p<=Ζ t:=by
 have hp:∀{q:Bs},fV (t.drop o) q=Α->o+Ζ q<=Ζ t:=λhq=>by
  have:=jT hq;rw[TR]at this;omega
 unfold ve at h;split at h;exact yH (hp ‹_›) (nG h);split at h;exact yH (hp ‹_›) (nG h);split at h;rename_i h1;refine yH (hp (q:=[60,63,120,109,108]) ?_) (nG h);have:=h1.2;unfold yE at this;simp only[auC]at this;exact this.1.1;split at h;have h0:=hp ‹_›;simp only[abT,ahB]at h0;unfold zY at h;split at h;rename_i h2;injection h with h;subst h;have:=BU h2;omega;rename_i nm o2 h2;have hn:=jb h2;have bV:=kC t o2;have:=wa (nG h);omega;split at h;have h0:=hp ‹_›;simp only[abT,ahB]at h0;unfold EE at h;split at h;rename_i h2;injection h with h;subst h;have:=BU h2;omega;rename_i nm o2 h2;have hn:=jb h2;split at h;rename_i e3 h3;injection h with h;subst h;exact Nn _ _ _ Λ h3;rename_i l o3 h3;have ha:=Dj _ _ _ Λ h3;split at h;have h4:=jT ‹_›;simp only[TR,abT,ahB]at h4;have:=wa (nG h);omega;have:=wa (nG h);omega;exact zZ _ _ _ (nG h)
def Yv{stop:UInt8}{acc:Bs}{o':Nat}(ho:o<Ζ t)(ha:Ζ acc<=o)(hne:t[o]?≠φ stop)(h:gn t stop (n+1) o acc= .ok (s,o')):o<o':=by
 unfold gn at h;have hg:=ai8 ho;rw[hg]at h hne;generalize t[o]=c at*;simp only at h;split at h;rename_i hc;rw[hc]at hne;exact absurd rfl hne;split at h;split at h;cases h;rename_i h5;obtain⟨k1,k2,k3⟩:=Dh (by simpa using h5);rw[TR]at k2;have:=qw n _ _ Λ (by rw[Rn];omega) h;omega;split at h;cases h;have:=qw n _ _ Λ (by rw[Rn];simp only[abT,ahB];omega) h;omega
def TL{t:Bs}{o:Nat}{x:Tk}{o':Nat}(ho:o<Ζ t)(h:ve t o= .ok (x,o')):x.off=o/\o<o'/\o'<=Ζ t:=by
 have hp:∀{q:Bs},fV (t.drop o) q=Α->o+Ζ q<=Ζ t:=λhq=>by
  have:=jT hq;rw[TR]at this;omega
 unfold ve at h;split at h;obtain⟨y,h1,rfl⟩:=jV h;have:=BV (hp ‹_›) h1;simp only[abT,ahB]at this;exact⟨rfl,Λ,Λ⟩;split at h;obtain⟨y,h1,rfl⟩:=jV h;have:=BV (hp ‹_›) h1;simp only[abT,ahB]at this;exact⟨rfl,Λ,Λ⟩;split at h
 ·rename_i h1;obtain⟨y,h2,rfl⟩:=jV h
  have:=BV (hp (q:=[60,63,120,109,108]) (by
   have:=h1.2;unfold yE at this;simp only[auC]at this;exact this.1.1)) h2
  simp only[abT,ahB]at this;exact⟨rfl,Λ,Λ⟩
 split at h;have h0:=hp ‹_›;simp only[abT,ahB]at h0;unfold zY at h;split at h;cases h;rename_i nm o2 h2;have hn:=jb h2;have bV:=kC t o2;obtain⟨y,h3,rfl⟩:=jV h;have:=l9 h3;exact⟨rfl,Λ,Λ⟩;split at h;have h0:=hp ‹_›;simp only[abT,ahB]at h0;unfold EE at h;split at h;cases h;rename_i nm o2 h2;have hn:=jb h2;split at h;cases h;rename_i l o3 h3;have ha:=Dj _ _ _ Λ h3;split at h;obtain⟨y,h4,rfl⟩:=jV h;have:=l9 h4;exact⟨rfl,Λ,Λ⟩;obtain⟨y,h4,rfl⟩:=jV h;have:=l9 h4;exact⟨rfl,Λ,Λ⟩;rename_i hne;obtain⟨y,h1,rfl⟩:=jV h;have h2:=qw _ _ _ Λ z10 h1;(obtain⟨n,hn⟩:∃n,Ζ t+1 - o=n+1:=⟨(Ζ t) - o,Λ⟩);rw[hn]at h1;refine⟨rfl,Yv ho z10 (λe=>hne ?_) h1,h2.2.1⟩;unfold fV;rw[alp ho];rw[ai8 ho]at e;injection e with e;rw[e];simp
def No(s:Bs)(c:UInt8):∀n:Nat, -1<=gF s c n/\gF s c n<=n
 | 0=>by unfold gF;omega
 | n+1=>by
   have:=No s c n;unfold gF;split<;>omega
def agJ{D:Η}(hA:Ζ A=n)(h:vs[i]?=φ v):(A++(vs++D))[n+i]?=φ v:=by
 have hi:=(aja.1 h).1;rw[ai9 Λ,apF Λ,hA,aut];exact h
def TM{D:Η}(hA:Ζ A=n)(h:i<Ζ vs):(A++(vs++D)).set (n+i) v=A++(vs.set i v++D):=by
 rw[auk _ _ Λ,List.set_append_left _ _ Λ,hA,aut]
def TN(h:a<Ζ t):nr t (a+1)=nr t a+if t[a]=10 then 1 else 0:=by
 unfold nr;rw[bN _ _ h,List.count_append];split;rename_i h1;rw[h1];simp;omega;rename_i h1;rw[List.count_singleton,if_neg (by simpa using h1)];omega
def Row.to{el:TypeId}{L':Η}(h:Row O el sz B k c L)(u:aL O (φ k) O')(hc:O'.hp k=φ (.cells (L'++sp)))(hl:(L'++sp).length=c*sz):Row O' el sz B k c L':=by
 obtain⟨sp0,h1,h2⟩:=h.cells;obtain⟨j,h3,h4,h5⟩:=h.n4;refine⟨⟨sp,hc,hl⟩,⟨j,h3,aev h4 u.N,(u.hp j h4 ?_).trans h5⟩,h.lo,aev h.hi u.N⟩;intro e;injection e with e;subst e;rw[h1]at h5;cases h5
def Row.agK{el:TypeId}{q:Nat}(h:Row O el sz B k c L)(hq:q≠k)(hc:O.hp q=φ (.cells cs)):Row (O.set q x) el sz B k c L:=
 h.fc aL.set hq (λ_ _ e=>by rw[hc]at e;cases e)
def yI(t:Bs)(x:Tk):(xp t x).length=7:=rfl
def aoP(t:Bs)(O:VH)(ht:Ζ t<=65536):VF Ε 194 [.s t] O (aC λm O'=>O.Ge O'/\match Bb t with
  | .ok l=>∃p,m= .tuple [p,mi 0,.agg [mi 0,mi 0,mi 0]]/\GR O' 149 7 O.N p (Ζ l) (l.flatMap (xp t))
  | .error e=>m= .tuple [.l 0 [] .nil,mi e.1,p8 t e.2]):=by
 refine VF.I9 (lo:=5) (k:=77) (rs:=[.cell 2 151,.cell 3 30,.cell 4 32]) func194 (Enters.w_) ?_;simp only[cX,aul,y10];refine ae eJ ?_;refine VC.gen ?_;rintro O1 vf;obtain⟨aM,dq,eo,cS,gN,KX⟩:=Yk _ _ _ _ vf;clear vf;refine ξ eJ eo ?_;try refine lL eJ ?_
 refine⟨_,rfl,λD=>?_⟩;refine ξ eJ eo ?_;refine VC.bx ?_;rintro O2 ⟨ax,bC,eG⟩
 replace bC:O2.hp (O.N+4)=φ (.cells [.s t,mi (0:Nat),.l 0 [] .nil]):=by rw[<-dq];exact bC
 rw[dq];have iO:=ax.at eo;have bV:=ax.at cS;have fz:=ax.at gN;have nS:=ax.at KX
 replace eG:O2.N=O.N+5:=Λ
 have ei:=aM.trans ax;clear aM ax eo cS gN KX dq O1;refine Ξ [1,2,3,4,5] (λx:List Tk×MV=>[.p O.N 0,.p (O.N+1) 0,.p (O.N+2) 0,.p (O.N+3) 0,.p (O.N+4) 0]) (λx O'=>UB (O.N+5) (O.N+4) O2 O'/\Rd O' (O.N+4) t (Ζ t) x.2/\GR O' 149 7 (O.N+5) x.2 (Ζ x.1) (x.1.flatMap BT)/\(Ζ x.1)<=(Ζ t)/\(∀y∈x.1,y.off<Ζ t)/\x.1.Pairwise (λa b=>a.off<=b.off)/\Bb t= .ok x.1) ?_ ?_
 ·refine Γ ?_;refine Υ [] [1,2,3,4,5] (λx:List Tk×MV×Nat=>[]) (λx O'=>UB (O.N+5) (O.N+4) O2 O'/\Rd O' (O.N+4) t x.2.2 x.2.1/\GR O' 149 7 (O.N+5) x.2.1 (Ζ x.1) (x.1.flatMap BT)/\(Ζ x.1)<=x.2.2/\x.2.2<=(Ζ t)/\(∀y∈x.1,y.off<x.2.2)/\x.1.Pairwise (λa b=>a.off<=b.off)/\∃n,Ζ t+1 - x.2.2<=n/\Bb t=pL t n x.2.2 x.1) (λx=>(Ζ t) - x.2.2) (([],.l 0 [] .nil,0)) ?_ ?_;exact⟨UB.refl _ _ _,⟨Λ,bC⟩,.inl ⟨rfl,rfl,.inl rfl⟩,an6 _,an6 _,(λy hy=>by cases hy),List.Pairwise.nil,_,an3 _,rfl⟩;rintro⟨l,p,o⟩ O3 ⟨Dk,hr,ca,gT,TI,kJ,uj,n,hn,he⟩;dsimp only at Dk hr ca gT TI kJ uj hn he;((obtain⟨n,rfl⟩:∃i,n=i+1:=⟨n - 1,Λ⟩);rw[pL]at he;repeat refine yA eJ @wd ?_);refine Ω (oF hr) ?_;by_cases h1:Ζ t<=o
  ·rw[if_pos h1]at he;((obtain rfl:o=Ζ t:=by omega);rw[decide_eq_true h1];repeat refine yA eJ @wd ?_);exact aE.mk (l,p) ⟨Dk,hr,ca,gT,kJ,uj,he⟩
  rw[if_neg h1]at he;rw[decide_eq_false h1];(repeat refine yA eJ @wd ?_);have htv:=agH hr Λ TI (by omega:O.N+4<O.N+5) (by have:=Dk.N;omega) ca Λ;have fP:= @TL t o;have oV:= @adP t o;generalize ve t o=F at*;refine ah.p htv ?_ ?_
  ·rintro m O4 ⟨agL,h4⟩;cases F with
   | error e=>exact h4.elim
   | ok y=>
   obtain⟨x,o2⟩:=y;dsimp only at h4 he;obtain⟨rfl,p2,GU,IM⟩:=h4;obtain⟨k1,k2,k3⟩:=fP Λ rfl;(((((((repeat refine yA eJ @wd ?_);refine aw.N (l++[x],p2,o2) ⟨Dk.trans agL,GU,?_,?_,k3,?_,?_,n,?_,he⟩ (hm:=?_));dsimp only;rw[Rn,auo,List.flatMap_singleton];exact IM);dsimp only;rw[Rn,auj];omega);intro y hy;dsimp only at hy ⊢;rcases auJ.1 hy with hy | hy;have:=kJ y hy;omega;rw[auq.1 hy];omega);dsimp only;rw[aum];exact⟨uj,auu _ _,λa ha b hb=>by rw[auq.1 hb];have:=kJ a ha;omega⟩);dsimp only;omega);dsimp only;omega
  ·rintro m O4 ⟨agL,h4⟩;cases F with
   | ok y=>exact h4.elim
   | error e=>
   obtain⟨e,off⟩:=e;dsimp only at h4 he;subst h4;have Yw:=oV TI rfl;have BX:=Dk.trans agL;have fe:=BX.N;have jx:=(BX.hp O.N Λ Λ).trans iO;have c8:=(BX.hp (O.N+1) Λ Λ).trans bV;have ff:=(BX.hp (O.N+2) Λ Λ).trans fz;have yG:=(BX.hp (O.N+3) Λ Λ).trans nS;(((try refine yA eJ @wd ?_);refine agI Λ Yw jx c8 ff yG Λ Λ Λ Λ Λ Λ Λ ?_;intro O5 ie ho5 dX fY Ql;simp only[aq]at dX fY Ql;refine gy eJ @wd dX fY Ql ?_;refine⟨⟨by have:=BX.N;omega,λi hi=>?_⟩,?_⟩);rw[ho5 i Λ Λ Λ Λ,BX.hp i Λ Λ];exact ei.hp i hi);rw[he];dsimp only;rfl
 rintro⟨l,p⟩ O3 ⟨Dk,hr,ca,xh,kJ,uj,he⟩;dsimp only at Dk hr ca xh kJ uj he;rw[he];have oY:=(Dk.hp O.N Λ Λ).trans iO;have cE:=(Dk.hp (O.N+1) Λ Λ).trans bV;have en:=(Dk.hp (O.N+2) Λ Λ).trans fz;have EF:=(Dk.hp (O.N+3) Λ Λ).trans nS;have ea:=Dk.N;have dk:∀i,i<O.N->O3.hp i=O.hp i:=λi hi=>(Dk.hp i Λ Λ).trans (ei.hp i hi)
 have dA:=hr.2;simp only[aq]at dA;rcases ca with⟨h0,hL,hp⟩ | ⟨k2,c,rfl,xf,nR,lD⟩
 ·obtain rfl:l=[]:=apK h0;have fin:∀{p:MV} {O5:VH},(p= .l 0 [] .nil\/p= .l 0 [] .full)->O.N<=O5.N->(∀i,i<O.N->O5.hp i=O.hp i)->(O.Ge O5/\∃p',MV.tuple [p,mi 0,.agg [mi 0,mi 0,mi 0]]= .tuple [p',mi 0,.agg [mi 0,mi 0,mi 0]]/\GR O5 149 7 O.N p' 0 []):=λhp hn hh=>⟨⟨hn,hh⟩,_,rfl,.inl ⟨rfl,rfl,hp⟩⟩
  have hO:∀{x y z:bO} {i:Nat},i<O.N->((((O3.set (O.N+1) x).set (O.N+2) y).set (O.N+3) z)).hp i=O.hp i:=λhi=>by
   rw[VH.sx,VH.sx,VH.sx];exact dk _ hi
  rcases hp with rfl | rfl;(·refine ξ eJ @wd ?_;refine Δ ?_;refine θ (aF eJ @wd dA ?_);refine Γ ?_;refine Υ [6,7,32] [1,2,3,4,5,31] (λ_:Unit=>[mi 1,mi 0,mi 0]) (λ_ O'=>O'=O3) (λ_=>0) (()) ?_ ?_;exact rfl;rintro⟨⟩ O4 eO;rw[eO];clear eO O4;(repeat refine kg6 eJ @wd dA cE en EF ?_);refine Jh ?_;refine ak eJ @wd ?_;exact fin z10 (by rw[auR,auR,auR];omega) (λi hi=>hO hi))
  ·refine ξ eJ @wd ?_;refine Δ ?_;refine θ (aF eJ @wd dA ?_);refine Γ ?_;refine Υ [6,7,32] [1,2,3,4,5,31] (λ_:Unit=>[mi 1,mi 0,mi 0]) (λ_ O'=>O'=O3) (λ_=>0) (()) ?_ ?_;exact rfl;rintro⟨⟩ O4 eO;rw[eO];clear eO O4;(repeat refine kg6 eJ @wd dA cE en EF ?_);refine Jh ?_;refine ak eJ @wd ?_;exact fin z10 (by rw[auR,auR,auR];omega) (λi hi=>hO hi)
 obtain⟨sp,hsp,Mu⟩:=lD.cells;have j6:=lD.lo;have TO:=lD.hi;refine ξ eJ @wd ?_;refine Δ ?_;refine θ (aF eJ @wd dA ?_);refine Γ ?_;refine Υ [6,7,32] [1,2,3,4,5,31] (λx:Nat×Nat=>[mi (nr t x.2),mi x.2,mi x.1]) (λx O'=>aL O3 (φ k2) O'/\O'.hp k2=φ (.cells ((l.take x.1).flatMap (xp t)++(l.drop x.1).flatMap BT++sp))/\x.1<=(Ζ l)/\x.2<=(Ζ t)/\(∀y∈l.drop x.1,x.2<=y.off)) (λx=>(Ζ l) - x.1) ((0,0)) ?_ ?_;exact⟨aL.refl _ _,hsp,an6 _,an6 _,λ_ _=>an6 _⟩;rintro⟨j,a⟩ O4 ⟨cC,ff,hj,ha,BE⟩;dsimp only at cC ff hj ha BE;have fJ:=(cC.hp _ Λ z14).trans dA;have ht4:=(cC.hp _ Λ z14).trans oY;have hlj:=Nat.min_eq_left hj;by_cases rB:j<Ζ l;rotate_left
 ·obtain rfl:j=Ζ l:=Λ
  rw[auD,auh,List.flatMap_nil,apG]at ff;have c8:=(cC.hp _ Λ z14).trans cE;have al6:=(cC.hp _ Λ z14).trans en;have yG:=(cC.hp _ Λ z14).trans EF
  have aq1:Row O4 149 7 (O.N+5) k2 c (l.flatMap (xp t)):=lD.to cC ff (by
   rw[Rn,aP (yI t)];rw[Rn,nR]at Mu;exact Mu)
  have fe:=cC.N
  have hO:∀{x y z:bO} {i:Nat},i<O.N->((((O4.set (O.N+1) x).set (O.N+2) y).set (O.N+3) z)).hp i=O.hp i:=λhi=>by
   rw[VH.sx,VH.sx,VH.sx];exact(cC.hp _ Λ z14).trans (dk _ hi)
  (repeat refine kg6 eJ @wd fJ c8 al6 yG ?_);refine Jh ?_;refine ak eJ @wd ?_;refine⟨⟨by rw[auR,auR,auR];omega,λi hi=>hO hi⟩,_,rfl,.inr ⟨k2,c,rfl,xf,aP (yI t) _,?_⟩⟩;exact(((aq1.agK Λ c8).agK Λ (Θ al6)).agK Λ (Θ (Θ yG))).wider Λ
 have Qf:=alp rB;have fP:(l.take (j+1))=l.take j++[l[j]]:=bN _ _ rB;have hxo:l[j].off<Ζ t:=kJ _ (apH rB);have hxa:a<=l[j].off:=BE _ (by rw[Qf];exact List.mem_cons_self ..)
 have oa:∀y∈l.drop (j+1),l[j].off<=y.off:=by
  have:=uj.drop (i:=j);rw[Qf,apI]at this;exact this.1
 rw[Qf,List.flatMap_cons]at ff;generalize hx:l[j]=x at*;have hA:((l.take j).flatMap (xp t)).length=j*7:=by rw[aP (yI t),an2,hlj]
 generalize hAe:(l.take j).flatMap (xp t)=A at*;generalize hEe:(l.drop (j+1)).flatMap BT=E at*;refine ξ eJ @wd ?_;try refine yA eJ @wd ?_
 refine Δ (Γ ?_);refine ξ eJ @wd ?_;refine θ (aF eJ @wd fJ ?_);rw[Ro,Ro]at ff;have hC4:(A++(BT x++(E++sp)))[j*7+4]?=φ (.v (Ι Κ x.off)):=agJ hA (vs:=BT x) rfl
 have hCl:j*7+7<=(A++(BT x++(E++sp))).length:=by
  rw[Rn,Rn,Jf,hA];omega
 have hCs:∀(y z:MV),((A++(BT x++(E++sp))).set (j*7+5) y).set (j*7+6) z=A++([mi x.kind,.s x.name,.l (Ζ x.attrs) (x.attrs.flatMap bp) .av,.s x.text,mi x.off,y,z]++(E++sp)):=λy z=>by
  rw[TM hA (by rw[Jf];decide),TM hA (by rw[List.length_set,Jf];decide)];rfl
 generalize A++(BT x++(E++sp))=C at*;refine Δ (Γ ?_);refine Υ [6,7] [1,2,3,4,5,9,31,32] (λb:Nat=>[mi (nr t b),mi b]) (λb O'=>O'=O4/\b<=x.off) (λb=>x.off - b) (a) ?_ ?_;exact⟨rfl,hxa⟩;rintro b O5 ⟨eO,hb⟩;rw[eO];clear eO O5
 have atA:nr t b<=1+Ζ t:=by
  unfold nr;have h1:=List.count_le_length (a:=(10:UInt8)) (l:=t.take b);rw[an2]at h1;omega
 by_cases fx:b<x.off
 ·have hbt:b<Ζ t:=Λ
  have hg:=ai8 hbt;have PI:=TN hbt;generalize t[b]=ch at*;generalize nr t b=ln at*;by_cases GV:ch=10;(·rw[if_pos GV]at PI;((have e1:((ch.toNat:Int)==10)=Α:=by rw[GV];rfl);repeat refine kg8 eJ @wd ff hC4 ht4 hg @aA e1 ?_);exact aw.N (b+1) ⟨rfl,Λ⟩ (hl:=(by rw[PI];rfl)))
  ·rw[if_neg GV]at PI;((have e1:((ch.toNat:Int)==10)=γ:=by simpa usingλe:(ch.toNat:Int)=10=>GV (UInt8.toNat_inj.1 (by simpa using(by omega:ch.toNat=10))));repeat refine kg8 eJ @wd ff hC4 ht4 hg @aA e1 ?_);exact aw.N (b+1) ⟨rfl,Λ⟩ (hl:=(by rw[PI];rfl))
 obtain rfl:b=x.off:=Λ
 generalize hln:nr t x.off=ln at*;repeat refine kg5 eJ @wd ff hC4 ht4 ?_
 have fX:gF (t.take x.off) 10 (t.take x.off).length<=x.off/\ -1<=gF (t.take x.off) 10 (t.take x.off).length:=by
  have h1:=No (t.take x.off) 10 (t.take x.off).length;rw[an2,Nat.min_eq_left Λ]at h1 ⊢;omega
 have hlen:(t.take x.off).length<=1000000:=by rw[an2];omega
 refine Ω (ED (t.take x.off) 10 _ hlen) ?_;have aq2:Ji t x.off=(x.off:Int) - gF (t.take x.off) 10 (t.take x.off).length:=rfl;generalize gF (t.take x.off) 10 (t.take x.off).length=lf at*;repeat refine kg3 eJ @wd ff ?_
 refine aw.N (j+1,x.off) ⟨cC.trans (aL.set.trans aL.set),?_,rB,Nat.le_of_lt hxo,oa⟩ (hl:=(by dsimp only;rw[hln];rfl));rw[υ,fP,auo,List.flatMap_singleton];have hC:=hCs (mi ln) (mi ((x.off:Int) - lf))
 have h7:xp t x=[mi x.kind,.s x.name,.l (Ζ x.attrs) (x.attrs.flatMap bp) .av,.s x.text,mi x.off,mi ln,mi ((x.off:Int) - lf)]:=by
  unfold xp;rw[hln,aq2]
 rw[hAe,hEe,h7,Ro,Ro, <-hC];rfl
def cn:=asc nE<|asc Eo T9
abbrev yJ:Η:=[.v (.bool γ),.s [],.s [],.s [],.s [],.s [],.s [],.s [],.l 0 [] .nil,.l 0 [] .nil,.l 0 [] .nil]
def agM(h:K O):fM Ε 197 [.p a 0,.p b 0,.p c 0] Β O K:=by
 refine fM.rec (d:=6) func197 (aup (by decide:6<17) rfl) ?_;show WC _ _ ⟨17,0⟩ _ _ _ _ _;simp only[cX,aul,y10,wI];refine ak cn @wi ?_;refine VL.pure z10 (λ_=>.inl rfl) rfl rfl (d_.IB (bb:=Α) Tryz.underlying20 rfl (.inl ⟨rfl,rfl⟩)) ?_;refine WL.sound aa ?_;refine ak cn @wi ?_;exact h
def agN{z:MV}(ha:O.hp a=φ (.cells [x0,x1,x2,x3,x4,x5,x6,x7,x8,x9,x10]))(hb:O.hp b=φ (.cells [y]))(hc:O.hp c=φ (.cells [z]))
  (Qk:a<O.N) (xm:b<O.N) (GI:c<O.N) (EH:a≠b) (hac:a≠c) (hbc:b≠c)
  (h:∀O',O.N<=O'.N->(∀i,i<O.N->i≠a->i≠b->i≠c->O'.hp i=O.hp i)->O'.hp a=φ (.cells yJ)->O'.hp b=φ (.cells [mi e])->O'.hp c=φ (.cells [.s s])->K O'):fM Ε 197 [.p a 0,.p b 0,.p c 0] (φ (tu e s)) O K:=by
 refine fM.rec (d:=6) func197 (aup (by decide:6<17) rfl) ?_;show WC _ _ ⟨17,0⟩ _ _ _ _ _;simp only[cX,aul,y10,wI,tu];refine ak cn @wi ?_;refine VL.pure z10 (λ_=>.inl rfl) rfl rfl (d_.CQ (bb:=γ) Tryz.underlying20 rfl (.inl ⟨rfl,rfl⟩)) ?_;refine WL.sound aa ?_;refine ak cn @wi ?_;refine VL.pure z10 (λ_=>.inl rfl) rfl rfl (d_.asT Tryz.underlying322 (λ_ h=>by cases h) rfl) ?_;refine WL.sound aa ?_;refine ak cn @wi ?_;refine VC.al ?_;rintro O2 ⟨ax,dQ,eG⟩;have vV:∀(X:bO) {i:Nat} {y:Option bO},i<O.N->O.hp i=y->(O2.set O.N X).hp i=y:=λX {i y} hi h=>Θ ((ax.hp _ hi).trans h)
 refine VC.mJ [] (O.N) (dQ) ?_;intro X;have jx:=vV (.obj X) Qk ha;have c8:=vV (.obj X) xm hb;have ff:=vV (.obj X) GI hc;have jU:(O2.set O.N (.obj X)).hp O.N=φ (.obj X):=υ _ _ _;have fe:(O2.set O.N (.obj X)).N=O.N+1:=eG;have aV:O.Ge (O2.set O.N (.obj X)):=ax.set (an3 _) _;generalize hO4:O2.set O.N (.obj X)=O4 at*;refine ρ 0 cn ?_;refine ρ 1 cn ?_;refine auQ (m:=.v (Ι Κ e)) 2 ?_ ?_;exact ez cn;simp only[ag];refine ρ 3 cn ?_;refine auQ (m:=.s s) 4 ?_ ?_;exact ez cn;simp only[ag];refine ab.op (i:=5) ?_;refine ak cn jx ?_;refine⟨jU,?_⟩;refine ab.op (i:=6) ?_;refine ak cn c8 ?_;refine⟨jU,?_⟩;refine ab.op (i:=7) ?_;refine ak cn ff ?_;refine⟨jU,?_⟩;refine ab.mK [] ?_;refine ae cn ?_;refine h _ (by show O.N<=O4.N;omega) (λi hi h1 h2 h3=>?_) ?_ ?_ ?_;rw[VH.sx,VH.sx,VH.sx,VH.sx];exact aV.hp i hi;rw[VH.sx,VH.sx,VH.sx];exact υ _ _ _;rw[VH.sx,VH.sx];exact υ _ _ _;rw[VH.sx];exact υ _ _ _
structure xq(O:VH)(E:Η)(O':VH)(cs:Η):Prop where
 old:∀i,i<O.N->O'.hp i=O.hp i
 lt:O.N+5<=O'.N
 d:O'.hp (O.N+1)=φ (.cells cs)
 e:O'.hp (O.N+2)=φ (.cells [mi 0])
 w:O'.hp (O.N+3)=φ (.cells [.s []])
 x:O'.hp (O.N+4)=φ (.cells E)
def xq.ge(h:xq O E O' cs)(k:O'.Ge O2):xq O E O2 cs:=by
 have h1:=h.lt;exact⟨λi hi=>(k.hp i Λ).trans (h.old i hi),an7 h1 k.N,k.at h.d,k.at h.e,k.at h.w,k.at h.x⟩
def xq.st(h:xq O E O' cs):xq O E (O'.set (O.N+1) (.cells cs')) cs':=
 ⟨λi hi=>Θ (h.old i hi),h.lt,υ _ _ _,Θ h.e,Θ h.w,Θ h.x⟩
def xq.other(h:xq O E O' cs)(hk:O.N+5<=k)(bC:k<O'.N)(g:(O'.set k x).Ge O2):xq O E O2 cs:=by
 have h1:=h.lt;have e1:(O'.set k x).N=O'.N:=rfl;have h4:=g.N
 have key:∀j,j<O.N+5->O2.hp j=O'.hp j:=λj hj=>by
  rw[g.hp j Λ,VH.sx]
 exact⟨λi hi=>(key i Λ).trans (h.old i hi),Λ,(key _ Λ).trans h.d,(key _ Λ).trans h.e,(key _ Λ).trans h.w,(key _ Λ).trans h.x⟩
def xq.aq3(h:xq O E O' cs)(hk:O.N+5<=k):xq O E (O'.set k x) cs:=
 ⟨λi hi=>Θ (h.old i hi),h.lt,Θ h.d,Θ h.e,Θ h.w,Θ h.x⟩
def jW{O9:VH}(hd:xq O E O9 [x0,x1,x2,x3,x4,x5,x6,x7,x8,x9,x10])
  (h:∀O',O.Ge O'->O'.hp (O.N+1)=φ (.cells yJ)->O'.hp (O.N+2)=φ (.cells [.v (Ι Κ e)])->O'.hp (O.N+3)=φ (.cells [.s s])->K O'):fM Ε 197 [.p (O.N+1) 0,.p (O.N+2) 0,.p (O.N+3) 0] (φ (tu e s)) O9 K:=by
 have hl:=hd.lt;refine agN hd.d hd.e hd.w Λ Λ Λ Λ Λ Λ λO5 ie ho5 e_ dX fY=>h O5 ⟨Λ,λi hi=>?_⟩ e_ dX fY
 rw[ho5 i Λ Λ Λ Λ];exact hd.old i hi
def VC.rs{n:Sz}{c:Code}{e:Env}(h:xq O E O' cs)(k:∀O3,xq O E O3 cs'->VC P n D c e O3 Q):VC P n D c e (O'.set (O.N+1) (.cells cs')) Q:=k _ h.st
def vg(x:Nd)(w:Bs):Except (Int×Bs) (List Dp):=
 match di x w wP with
 | .error e=>.error e
 | .ok ((_,_),γ)=>.ok []
 | .ok ((y,wy),Α)=>lN y wy Α
def vh(x:Nd)(w:Bs):Except (Int×Bs) (Bool×Gv):=
 match di x w AZ with
 | .error e=>.error e
 | .ok ((_,_),γ)=>.ok (γ,⟨[],[],[]⟩)
 | .ok ((y,wy),Α)=>match c_ y wy iN Α iZ with
   | .error e=>.error e
   | .ok g=>match c_ y wy iy Α iZ with
     | .error e=>.error e
     | .ok a=>match c_ y wy k_ Α rj with
       | .error e=>.error e
       | .ok v=>.ok (Α,⟨g,a,v⟩)
def uk(x:Nd):Except (Int×Bs) Pm:=
 bif x.nm==ui then match vh x x.nm with
  | .error e=>.error e
  | .ok p=>match c_ x x.nm iN γ gE with
  | .error e=>.error e
  | .ok g=>match c_ x x.nm iy Α gE with
  | .error e=>.error e
  | .ok a=>match c_ x x.nm k_ γ gE with
  | .error e=>.error e
  | .ok v=>match c_ x x.nm FY γ gE with
  | .error e=>.error e
  | .ok k=>match ll x x.nm with
  | .error e=>.error e
  | .ok P=>match vg x x.nm with
  | .error e=>.error e
  | .ok M=>match lN x x.nm γ with
  | .error e=>.error e
  | .ok D=>.ok ⟨p.1,p.2,g,a,v,k,P,M,D⟩
 else .error (20,x.nm)
def nW:Pm:=⟨γ,⟨[],[],[]⟩,[],[],[],[],[],[],[]⟩
def aks(x:Nd)(O:VH)(hx:j7 x<=1000000):VF Ε 175 [.agg (eb x)] O (aC λm O'=>O.Ge O'/\match uk x with
  | .ok p=>m= .tuple [.agg (dy p),mi 0,.s []]
  | .error e=>m= .tuple [.agg (dy nW),mi e.1,.s e.2]):=by
 refine VF.fg ?_;obtain⟨zn,za,gJ,zt⟩:=x;have uj:=sq (.mk zn za gJ zt) zn;have hfp:=uZ (.mk zn za gJ zt) zn AZ;have hfm:=uZ (.mk zn za gJ zt) zn wP;have Lo:=agt (.mk zn za gJ zt) zn;have Df:=aaK (.mk zn za gJ zt) zn γ;obtain⟨PE,hP⟩:∃PE,uk (.mk zn za gJ zt)=PE:=⟨_,rfl⟩
 rw[hP];unfold uk at hP;simp only[lz,eb,an4,ai_]at uj hfp hfm Lo Df ⊢;simp only[Nd.nm]at hP;refine VF.deferred (lo:=5) (k:=64) (rs:=[.cell 2 95,.cell 3 30,.cell 4 9]) func175 (Enters.w_) ?_;simp only[cX,aul,y10];refine ae cn ?_;refine⟨_,rfl,λD=>?_⟩;refine VC.gen ?_;rintro O1 vf;obtain⟨aM,dq,eo,cS,gN,KX⟩:=Yk _ _ _ _ vf;clear vf;refine θ (aF cn @wd eo ?_);refine VC.al ?_;rintro O2 ⟨ax,bC,eG⟩;rw[dq]at bC ⊢
 have hd:xq O [.s zn,.l (Ζ za) (za.flatMap bp) .av,.l (Ζ gJ) (aI gJ) .av,.s zt,.s zn] O2 yJ:=
  ⟨λi hi=>ax.at (aM.hp i hi),Λ,ax.at cS,ax.at gN,ax.at KX,bC⟩
 have Bu:=ax.at eo;clear aM ax dq eG bC eo cS gN KX O1;cases hb:zn==ui;rw[hb,cond_false]at hP;rw[<-hP];(have rU:(zn != [112,114,111,106,101,99,116])=Α:=by rw[bne];simp only[ui]at hb;rw[hb];rfl);simp only[ui]at hb;refine θ (gy cn @wd Bu hb rU ?_);refine η (m7 _ _ _) ?_;refine ak cn @wd ?_;refine jW hd ?_;intro O5 bB e_ dX fY;refine gy cn @wd e_ dX fY ?_;exact⟨bB,rfl⟩
 rw[hb,cond_true]at hP;have hw:Ζ zn<=10000:=by rw[eq_of_beq hb];decide
 have GW:Ζ zn<=3000:=by rw[eq_of_beq hb];decide
 have rU:(zn != [112,114,111,106,101,99,116])=γ:=by rw[bne];simp only[ui]at hb;rw[hb];rfl
 simp only[ui]at hb;refine θ (gy cn @wd Bu hb rU ?_);clear hb rU Bu;refine Ξ [1,2,3,4,5] (λ_:Bool×Gv=>[.p O.N 0,.p (O.N+1) 0,.p (O.N+2) 0,.p (O.N+3) 0,.p (O.N+4) 0]) (λp O'=>xq O [.s zn,.l (Ζ za) (za.flatMap bp) .av,.l (Ζ gJ) (aI gJ) .av,.s zt,.s zn] O' [mb p.1,.s p.2.g,.s p.2.a,.s p.2.v,.s [],.s [],.s [],.s [],.l 0 [] .nil,.l 0 [] .nil,.l 0 [] .nil]/\vh (.mk zn za gJ zt) zn= .ok p) ?_ ?_
 ·have yu:= @so (.mk zn za gJ zt) zn AZ;(have yx:∀e,di (.mk zn za gJ zt) zn AZ= .error e->vh (.mk zn za gJ zt) zn= .error e:=λe h=>by unfold vh;rw[h]);have pH:∀y wy,di (.mk zn za gJ zt) zn AZ= .ok ((y,wy),γ)->vh (.mk zn za gJ zt) zn= .ok (γ,⟨[],[],[]⟩):=λy wy h=>by unfold vh;rw[h]
  have jw:∀y wy,di (.mk zn za gJ zt) zn AZ= .ok ((y,wy),Α)->vh (.mk zn za gJ zt) zn=match c_ y wy iN Α iZ with
   | .error e=>.error e
   | .ok g=>match c_ y wy iy Α iZ with
     | .error e=>.error e
     | .ok a=>match c_ y wy k_ Α rj with
       | .error e=>.error e
       | .ok v=>.ok (Α,⟨g,a,v⟩):=λy wy h=>by unfold vh;rw[h]
  generalize vh (.mk zn za gJ zt) zn=QE at*;generalize di (.mk zn za gJ zt) zn AZ=F at*;have fx:=hd.x;refine θ (aF cn @wd fx ?_);refine ah.ex F (hfp O2 (by have:=kL (.mk zn za gJ zt);omega) Λ z12) ?_ ?_;rintro e m O9 rfl ⟨bq,h⟩;have kK:=hd.ge bq;dsimp only at h;rw[yx e rfl]at hP;dsimp only at hP;rw[h, <-hP];refine ak cn @wd ?_;refine jW kK ?_;intro O5 bB e_ dX fY;refine gy cn @wd e_ dX fY ?_;exact⟨bB,rfl⟩;rintro y m O3 rfl ⟨aB,h⟩;obtain⟨⟨y,wy⟩,b⟩:=y;dsimp only at h;subst h;obtain⟨hyW,yy⟩:=yu rfl;((have qu:Ζ wy<=10000:=by rw[yy];simp only[Rn,abT,ahB];omega);have hyX:j7 y<=1000000:=by omega);clear yu yy yx
  replace jw:=λh:b=Α=>by subst h;exact jw y wy rfl
  replace pH:b=γ->QE= .ok (γ,⟨[],[],[]⟩):=λh=>by subst h;exact pH y wy rfl
  have rT:=λO'=>sq y wy iN Α iZ 30 [] O' hyX qu z12 z11 (λs mS _ hs=>vW s mS)
  have yC:=λO'=>sq y wy iy Α iZ 30 [] O' hyX qu z12 z11 (λs mS _ hs=>vW s mS)
  (have qx:=λO'=>sq y wy k_ Α rj 31 [] O' hyX qu z12 z11 (λs mS _ hs=>P4 s mS z13));generalize c_ y wy iN Α iZ=W1 at*;generalize c_ y wy iy Α iZ=W2 at*;generalize c_ y wy k_ Α rj=W3 at*;obtain⟨yn,ya,yk,yt⟩:=y;simp only[lz,eb,an4,ai_]at rT yC qx ⊢;have cE:=hd.ge aB;have Dm:=cE.lt;refine ak cn @wd ?_;refine VC.al ?_;rintro O4 ⟨aV,fJ,fe⟩;have c8:=cE.ge aV;clear hd cE aB aV fx;cases b
  ·rw[pH rfl]at hP ⊢;refine ο cn @wd ?_;exact aE.mk (γ,⟨[],[],[]⟩) ⟨c8,rfl⟩
  replace jw:=jw rfl
  clear pH;have cG:=c8.d;refine ξ cn @wd ?_;refine ι (aF cn @wd cG ?_);have hbs:=c8.st (cs':=[.v (.bool Α),.s [],.s [],.s [],.s [],.s [],.s [],.s [],.l 0 [] .nil,.l 0 [] .nil,.l 0 [] .nil]);have hks:=(τ O4 (.cells [.v (.bool Α),.s [],.s [],.s [],.s [],.s [],.s [],.s [],.l 0 [] .nil,.l 0 [] .nil,.l 0 [] .nil]) (by omega:O3.N≠O.N+1)).trans fJ;have ie:(O4.set (O.N+1) (.cells [.v (.bool Α),.s [],.s [],.s [],.s [],.s [],.s [],.s [],.l 0 [] .nil,.l 0 [] .nil,.l 0 [] .nil])).N=O4.N:=rfl;clear cG c8 fJ;generalize O4.set (O.N+1) (.cells [.v (.bool Α),.s [],.s [],.s [],.s [],.s [],.s [],.s [],.l 0 [] .nil,.l 0 [] .nil,.l 0 [] .nil])=O5 at*;refine VC.mJ [7,8] (O3.N) (hks) ?_;intro X;refine auQ (m:=.agg [.s yn,.l (Ζ ya) (ya.flatMap bp) .av,.l (Ζ yk) (aI yk) .av,.s yt,.s wy]) 0 ?_ ?_;exact ez cn;simp only[ag];refine auQ (m:=.agg [.s yn,.l (Ζ ya) (ya.flatMap bp) .av,.l (Ζ yk) (aI yk) .av,.s yt,.s wy]) 2 ?_ ?_;exact ez cn;simp only[ag];refine auQ (m:=.agg [.s yn,.l (Ζ ya) (ya.flatMap bp) .av,.l (Ζ yk) (aI yk) .av,.s yt,.s wy]) 4 ?_ ?_;exact ez cn;simp only[ag];((have Yq:=λ(O9:VH)(g:(O5.set O3.N (.obj X)).Ge O9)=>hbs.other (k:=O3.N) (x:=.obj X) Λ Λ g);have lM:∀O9,(O5.set O3.N (.obj X)).Ge O9->O9.hp O3.N=φ (.obj X):=λO9 g=>(g.hp _ (by show O3.N<O5.N;omega)).trans (υ _ _ _));generalize O5.set O3.N (.obj X)=O6 at*;have hG:=VH.Ge.refl O6;refine ab.qQ (i:=1) (rT O6) ?_ ?_;rotate_left
  ·rintro m O9 ⟨bq,h⟩;cases W1 with
   | ok s=>exact h.elim
   | error e=>
     dsimp only at h jw;rw[jw]at hP;dsimp only at hP;rw[h, <-hP];have kK:=Yq _ (hG.trans bq);refine ak cn @wd ?_;refine jW kK ?_;intro O5 bB e_ dX fY;refine gy cn @wd e_ dX fY ?_;exact⟨bB,rfl⟩
  rintro m O7 ⟨bq,h⟩;cases W1 with
  | error e=>exact h.elim
  | ok sg=>
  dsimp only at h jw;subst h;simp only[ag]
  replace hG:=hG.trans bq
  clear bq;refine⟨lM _ hG,?_⟩;refine ab.qQ (i:=3) (yC O7) ?_ ?_;rotate_left
  ·rintro m O9 ⟨bq,h⟩;cases W2 with
   | ok s=>exact h.elim
   | error e=>
     dsimp only at h jw;rw[jw]at hP;dsimp only at hP;rw[h, <-hP];have kK:=Yq _ (hG.trans bq);refine ak cn @wd ?_;refine jW kK ?_;intro O5 bB e_ dX fY;refine gy cn @wd e_ dX fY ?_;exact⟨bB,rfl⟩
  rintro m O8 ⟨bq,h⟩;cases W2 with
  | error e=>exact h.elim
  | ok sa=>
  dsimp only at h jw;subst h;simp only[ag]
  replace hG:=hG.trans bq
  clear bq;refine⟨lM _ hG,?_⟩;refine ab.qQ (i:=5) (qx O8) ?_ ?_;rotate_left
  ·rintro m O9 ⟨bq,h⟩;cases W3 with
   | ok s=>exact h.elim
   | error e=>
     dsimp only at h jw;rw[jw]at hP;dsimp only at hP;rw[h, <-hP];have kK:=Yq _ (hG.trans bq);refine ak cn @wd ?_;refine jW kK ?_;intro O5 bB e_ dX fY;refine gy cn @wd e_ dX fY ?_;exact⟨bB,rfl⟩
  rintro m OF ⟨bq,h⟩;cases W3 with
  | error e=>exact h.elim
  | ok sv=>
  dsimp only at h jw;subst h;simp only[ag]
  replace hG:=hG.trans bq
  clear bq;refine⟨lM _ hG,?_⟩;refine ρ 6 cn ?_;refine ab.mK [(7,.au),(8,.one)] ?_;have kK:=(Yq _ hG).aq3 (k:=O3.N) (x:=.cells [.s yn,.l (Ζ ya) (ya.flatMap bp) .av,.l (Ζ yk) (aI yk) .av,.s yt,.s wy]) Λ;have cG:=(Yq _ hG).d;have al7:=kK.st (cs':=[mb Α,.s sg,.s sa,.s sv,.s [],.s [],.s [],.s [],.l 0 [] .nil,.l 0 [] .nil,.l 0 [] .nil]);simp only[bg]at al7;refine aF cn @wd cG ?_;exact aE.mk (Α,⟨sg,sa,sv⟩) ⟨al7,jw⟩
 rintro p O3 ⟨hd,hQ⟩;rw[hQ]at hP;dsimp only at hP;clear hQ hfp;have fx:=hd.x;have cG:=hd.d;refine θ (aF cn @wd fx ?_);refine ah.ex (c_ (.mk zn za gJ zt) zn iN γ gE) (uj iN γ gE 201 [] _ hx hw z12 z11 (λs O' _ _=>v7 s O')) ?_ ?_;rintro e m O9 hF ⟨bq,h⟩;have kK:=hd.ge bq;rw[hF]at h hP;dsimp only at h hP;rw[h, <-hP];refine ak cn @wd ?_;refine jW kK ?_;intro O5 bB e_ dX fY;refine gy cn @wd e_ dX fY ?_;exact⟨bB,rfl⟩;rintro s1 m O4 Yn ⟨bq,h⟩;rw[Yn]at h hP;dsimp only at h hP;subst h;have hb:=hd.ge bq;clear bq hd;have cG:=hb.d;refine aF cn @wd cG ?_;refine VC.rs hb ?_;clear fx cG hb;intro _ hd;have fx:=hd.x;have cG:=hd.d;refine θ (aF cn @wd fx ?_);refine ah.ex (c_ (.mk zn za gJ zt) zn iy Α gE) (uj iy Α gE 201 [] _ hx hw z12 z11 (λs O' _ _=>v7 s O')) ?_ ?_;rintro e m O9 hF ⟨bq,h⟩;have kK:=hd.ge bq;rw[hF]at h hP;dsimp only at h hP;rw[h, <-hP];refine ak cn @wd ?_;refine jW kK ?_;intro O5 bB e_ dX fY;refine gy cn @wd e_ dX fY ?_;exact⟨bB,rfl⟩;rintro s2 m O5 Yo ⟨bq,h⟩;rw[Yo]at h hP;dsimp only at h hP;subst h;have hb:=hd.ge bq;clear bq hd;have cG:=hb.d;refine aF cn @wd cG ?_;refine VC.rs hb ?_;clear fx cG hb;intro _ hd;have fx:=hd.x;have cG:=hd.d;refine θ (aF cn @wd fx ?_);refine ah.ex (c_ (.mk zn za gJ zt) zn k_ γ gE) (uj k_ γ gE 201 [] _ hx hw z12 z11 (λs O' _ _=>v7 s O')) ?_ ?_;rintro e m O9 hF ⟨bq,h⟩;have kK:=hd.ge bq;rw[hF]at h hP;dsimp only at h hP;rw[h, <-hP];refine ak cn @wd ?_;refine jW kK ?_;intro O5 bB e_ dX fY;refine gy cn @wd e_ dX fY ?_;exact⟨bB,rfl⟩;rintro s3 m O6 BR ⟨bq,h⟩;rw[BR]at h hP;dsimp only at h hP;subst h;have hb:=hd.ge bq;clear bq hd;have cG:=hb.d;refine aF cn @wd cG ?_;refine VC.rs hb ?_;clear fx cG hb;intro _ hd;have fx:=hd.x;have cG:=hd.d;refine θ (aF cn @wd fx ?_);refine ah.ex (c_ (.mk zn za gJ zt) zn FY γ gE) (uj FY γ gE 201 [] _ hx hw z12 z11 (λs O' _ _=>v7 s O')) ?_ ?_;rintro e m O9 hF ⟨bq,h⟩;have kK:=hd.ge bq;rw[hF]at h hP;dsimp only at h hP;rw[h, <-hP];refine ak cn @wd ?_;refine jW kK ?_;intro O5 bB e_ dX fY;refine gy cn @wd e_ dX fY ?_;exact⟨bB,rfl⟩;rintro s4 m O7 hF4 ⟨bq,h⟩;rw[hF4]at h hP;dsimp only at h hP;subst h;have hb:=hd.ge bq;clear bq hd;have cG:=hb.d;refine aF cn @wd cG ?_;refine VC.rs hb ?_;clear fx cG hb;intro _ hd;have fx:=hd.x;have cG:=hd.d;refine θ (aF cn @wd fx ?_);refine ah.ex (ll (.mk zn za gJ zt) zn) (Lo _ hx hw) ?_ ?_;rintro e m O9 hF ⟨bq,h⟩;have kK:=hd.ge bq;rw[hF]at h hP;dsimp only at h hP;rw[h, <-hP];refine ak cn @wd ?_;refine jW kK ?_;intro O5 bB e_ dX fY;refine gy cn @wd e_ dX fY ?_;exact⟨bB,rfl⟩;rintro P m O8 hFP ⟨bq,h⟩;rw[hFP]at h hP;dsimp only at h hP;have hb:=hd.ge bq;clear bq hd;have cG:=hb.d;obtain⟨tP,rfl⟩:=h;refine aF cn @wd cG ?_;refine VC.rs hb ?_;clear fx cG hb;intro O9 hd;refine Ξ [1,2,3,4,5] (λ_:List Dp×Tok=>[.p O.N 0,.p (O.N+1) 0,.p (O.N+2) 0,.p (O.N+3) 0,.p (O.N+4) 0]) (λx O'=>xq O [.s zn,.l (Ζ za) (za.flatMap bp) .av,.l (Ζ gJ) (aI gJ) .av,.s zt,.s zn] O' [mb p.1,.s p.2.g,.s p.2.a,.s p.2.v,.s s1,.s s2,.s s3,.s s4,.l (Ζ P) (P.flatMap bp) tP,.l (Ζ x.1) (x.1.flatMap aG) x.2,.l 0 [] .nil]/\vg (.mk zn za gJ zt) zn= .ok x.1) ?_ ?_
 ·have yu:= @so (.mk zn za gJ zt) zn wP;(((((((have yx:∀e,di (.mk zn za gJ zt) zn wP= .error e->vg (.mk zn za gJ zt) zn= .error e:=λe h=>by unfold vg;rw[h]);have pH:∀y wy,di (.mk zn za gJ zt) zn wP= .ok ((y,wy),γ)->vg (.mk zn za gJ zt) zn= .ok []:=λy wy h=>by unfold vg;rw[h]);have jw:∀y wy,di (.mk zn za gJ zt) zn wP= .ok ((y,wy),Α)->vg (.mk zn za gJ zt) zn=lN y wy Α:=λy wy h=>by unfold vg;rw[h]);generalize vg (.mk zn za gJ zt) zn=QE at*;generalize di (.mk zn za gJ zt) zn wP=F at*;have fx:=hd.x;have cG:=hd.d;refine θ (aF cn @wd fx ?_);refine ah.ex F (hfm _ (by have:=kL (.mk zn za gJ zt);omega) Λ z12) ?_ ?_);rintro e m O9 rfl ⟨bq,h⟩;have kK:=hd.ge bq;dsimp only at h;rw[yx e rfl]at hP;dsimp only at hP;rw[h, <-hP];refine ak cn @wd ?_;refine jW kK ?_;intro O5 bB e_ dX fY;refine gy cn @wd e_ dX fY ?_;exact⟨bB,rfl⟩);rintro y m O3 rfl ⟨aB,h⟩;obtain⟨⟨y,wy⟩,b⟩:=y;dsimp only at h;subst h;obtain⟨hyW,yy⟩:=yu rfl;have qu:Ζ wy<=4000:=by rw[yy];simp only[Rn,abT,ahB];omega);have hyX:j7 y<=1000000:=by omega);clear yu yy yx
  replace jw:=λh:b=Α=>by subst h;exact jw y wy rfl
  replace pH:b=γ->QE= .ok []:=λh=>by subst h;exact pH y wy rfl
  have rT:=λO'=>aaK y wy Α O' hyX qu
  generalize lN y wy Α=W1 at*;obtain⟨yn,ya,yk,yt⟩:=y;simp only[lz,eb,an4,ai_]at rT ⊢;have cE:=hd.ge aB;have Dm:=cE.lt;refine ak cn @wd ?_;refine VC.al ?_;rintro O4 ⟨aV,fJ,fe⟩;have c8:=cE.ge aV;clear hd cE aB aV fx;cases b;rw[pH rfl]at hP ⊢;refine ο cn @wd ?_;exact aE.mk ([],.nil) ⟨c8,rfl⟩
  replace jw:=jw rfl
  clear pH;subst jw;refine ξ cn @wd ?_;refine ι (aF cn @wd fJ ?_);refine ah.ex QE (rT O4) ?_ ?_;rintro e m O9 rfl ⟨bq,h⟩;have kK:=c8.ge bq;dsimp only at h hP;rw[h, <-hP];refine ak cn @wd ?_;refine jW kK ?_;intro O5 bB e_ dX fY;refine gy cn @wd e_ dX fY ?_;exact⟨bB,rfl⟩;rintro M m O5 rfl ⟨bB,h⟩;dsimp only at h;obtain⟨tM,rfl⟩:=h;have dX:=c8.ge bB;have cG:=dX.d;have hbs:=dX.st (cs':=[mb p.1,.s p.2.g,.s p.2.a,.s p.2.v,.s s1,.s s2,.s s3,.s s4,.l (Ζ P) (P.flatMap bp) tP,.l (Ζ M) (M.flatMap aG) tM,.l 0 [] .nil]);simp only[bg]at hbs cG;refine aF cn @wd cG ?_;exact aE.mk (M,tM) ⟨hbs,rfl⟩
 rintro⟨M,tM⟩ OA ⟨hd,hM⟩;rw[hM]at hP;dsimp only at hP hd;have fx:=hd.x;refine θ (aF cn @wd fx ?_);refine ah.ex (lN (.mk zn za gJ zt) zn γ) (Df _ hx Λ) ?_ ?_;rintro e m O9 hF ⟨bq,h⟩;have kK:=hd.ge bq;rw[hF]at h hP;dsimp only at h hP;rw[h, <-hP];refine ak cn @wd ?_;refine jW kK ?_;intro O5 bB e_ dX fY;refine gy cn @wd e_ dX fY ?_;exact⟨bB,rfl⟩;rintro DD m OB aq4 ⟨bq,h⟩;rw[aq4]at h hP;dsimp only at h hP;have hb:=hd.ge bq;clear bq hd;have cG:=hb.d;obtain⟨tD,rfl⟩:=h;simp only[bg]at cG;refine aF cn @wd cG ?_;rw[<-hP];refine VC.rs hb ?_;clear fx cG hb;intro O9 hd;have cG:=hd.d;have hbe:=hd.e;have hbw:=hd.w;have hl9:=hd.lt;simp only[aq]at hbe;refine θ (gy cn @wd cG hbe hbw ?_);refine ο cn @wd ?_;refine agM ?_;refine gy cn @wd cG hbe hbw ?_;refine⟨⟨by show O.N<=O9.N;omega,λi hi=>?_⟩,?_⟩;rw[VH.sx,VH.sx,VH.sx];exact hd.old i hi;simp only[dy,wu,ic,iC,bg]
section
variable{α :Type}{c: α -> α ->Int}{a b d e l m n:List α}
def eqv(c: α -> α ->Int)(x y: α):Bool:=decide (c x y=0)
def St(c: α -> α ->Int)(l m:List α):Prop:=∀x,l.filter (eqv c x)=m.filter (eqv c x)
def l_(c: α -> α ->Int)(l:List α):Prop:=l.Pairwise λx y=>c x y<=0
def St.refl(l:List α):St c l l:=λ_=>rfl
def St.trans(h:St c l m)(k:St c m n):St c l n:=λx=>(h x).trans (k x)
def St.symm(h:St c l m):St c m l:=λx=>(h x).symm
def St.app(h:St c a b)(k:St c d e):St c (a++d) (b++e):=λx=>by rw[aur,aur,h x,k x]
def St.swap(hc:kG c)(h:∀x∈a,∀y∈b,c x y≠0):St c (a++b) (b++a):=λx=>by
 rw[aur,aur];by_cases e:a.filter (eqv c x)=[];rw[e];simp
 ·have:b.filter (eqv c x)=[]:=by
   rw[List.filter_eq_nil_iff];intro y hy Qm;obtain⟨z,hz⟩:=List.exists_mem_of_ne_nil _ e;rw[auK]at hz;refine h z hz.1 y hy ?_;rw[<-hc.eq x z y (by simpa[eqv]using hz.2)];simpa[eqv]using Qm
  rw[this];simp
def St.mem(hc:kG c)(h:St c l m){x: α}(hx:x∈l):x∈m:=by
 have:x∈l.filter (eqv c x):=auK.2 ⟨hx,by simpa[eqv]using hc.refl x⟩;rw[h x]at this;exact(auK.1 this).1
def kG.agO(hc:kG c){x y z: α}(h:c x y<=0)(k:c y z<=0):c x z<=0:=by
 rcases hc.Lb x y with e | e | e;rcases hc.Lb y z with f | f | f;rw[hc.tr x y z e f];omega;rw[<-hc.eqR x y z f,e];omega;omega;rw[hc.eq x y z e];exact k;omega
def kG.Jj(hc:kG c){x y z: α}(h:c x y<0)(k:c y z<=0):c x z<0:=by
 rcases hc.Lb y z with f | f | f;rcases hc.Lb x y with e | e | e;rw[hc.tr x y z e f];omega;omega;omega;rw[<-hc.eqR x y z f];exact h;omega
def kG.aoQ(hc:kG c){x y z: α}(h:c x y<=0)(k:c y z<0):c x z<0:=by
 rcases hc.Lb x y with f | f | f;rcases hc.Lb y z with e | e | e;rw[hc.tr x y z f e];omega;omega;omega;rw[hc.eq x y z f];exact k;omega
def l_.one(hc:kG c):∀{l m:List α},l_ c l->l_ c m->St c l m->l=m
 | [],[],_,_,_=>rfl
 | [],y::m,_,_,h=>by have:=h.symm.mem hc (x:=y) z10;cases this
 | x::l,[],_,_,h=>by have:=h.mem hc (x:=x) z10;cases this
 | x::l,y::m,hl,hm,h=>by
   have h1:c x y<=0:=by
    rcases aui.1 (h.symm.mem hc (x:=y) z10)with e | e;rw[e,hc.refl];omega;exact(apI.1 hl).1 y e
   have h2:c y x<=0:=by
    rcases aui.1 (h.mem hc (x:=x) z10)with e | e;rw[e,hc.refl];omega;exact(apI.1 hm).1 x e
   (have h0:c x y=0:=by have:=hc.td x y;omega);have hx:=h x;rw[auG (by simpa[eqv]using hc.refl x),auG (by simpa[eqv]using h0)]at hx;obtain⟨rfl,_⟩:=List.cons.inj hx
   rw[l_.one hc (apI.1 hl).2 (apI.1 hm).2 λz=>by
    have:=h z;simp only[List.filter_cons]at this;split at this;exact(List.cons.inj this).2;exact this]
def rp(c: α -> α ->Int)(x: α):List α ->List α
 | []=>[x]
 | y::l=>if c x y<0 then x::y::l else y::rp c x l
def Np(c: α -> α ->Int)(x z: α):∀l,z∈rp c x l ↔ z=x\/z∈l
 | []=>by simp[rp]
 | y::l=>by
   rw[rp];split;simp;rw[aui,Np c x z l,aui];constructor;rintro(h | h | h)<;>simp[h];rintro(h | h | h)<;>simp[h]
def Nq(hc:kG c)(x: α):∀{l},l_ c l->l_ c (rp c x l)
 | [],_=>auu _ _
 | y::l,h=>by
   obtain⟨h1,h2⟩:=apI.1 h;rw[rp];split;rename_i bI;exact apI.2 ⟨λz hz=>(aui.1 hz).elim (λe=>by rw[e];omega) λhz=>by have:=hc.Jj bI (h1 z hz);omega,h⟩;rename_i bK;refine apI.2 ⟨λz hz=>?_,Nq hc x h2⟩;rcases(Np c x z l).1 hz with rfl | hz;have:=hc.td y z;omega;exact h1 z hz
def TP(hc:kG c)(x: α):∀{l},l_ c l->St c (l++[x]) (rp c x l)
 | [],_=>St.refl _
 | y::l,h=>by
   obtain⟨h1,h2⟩:=apI.1 h;rw[rp];split
   ·rename_i bI;(refine St.swap (a:=y::l) (b:=[x]) hc λz hz w hw=>?_);obtain rfl:=auq.1 hw
    have hzw:c w z<0:=by
     rcases aui.1 hz with rfl | hz;exact bI;exact hc.Jj bI (h1 z hz)
    have:=hc.td w z;omega
   ·exact St.app (a:=[y]) (b:=[y]) (St.refl _) (TP hc x h2)
def jX(c: α -> α ->Int)(l:List α):List α :=l.foldl (λs x=>rp c x s) []
def wc(l:List α)(x: α):jX c (l++[x])=rp c x (jX c l):=by
 unfold jX;rw[List.foldl_append];rfl
def eu(hc:kG c)(l:List α):l_ c (jX c l)/\St c l (jX c l):=by
 rcases List.eq_nil_or_concat l with rfl | ⟨r,x,rfl⟩;exact⟨List.Pairwise.nil,St.refl _⟩;have ih:=eu hc r;rw[List.concat_eq_append,wc];exact⟨Nq hc x ih.1,(ih.2.app (St.refl [x])).trans (TP hc x ih.1)⟩
termination_by (Ζ l)
decreasing_by subst_vars;simp
def Jk(hc:kG c)(h:l_ c m)(k:St c l m):jX c l=m:=l_.one hc (eu hc l).1 h ((eu hc l).2.symm.trans k)
def nu(hc:kG c)(h:l_ c m):jX c m=m:=Jk hc h (St.refl _)
def Nr(c: α -> α ->Int)(x: α):∀l,(rp c x l).length=Ζ l+1
 | []=>rfl
 | y::l=>by rw[rp];split; · rfl
            ·simp[Nr c x l]
def gZ(l:List α):(jX c l).length=Ζ l:=by
 rcases List.eq_nil_or_concat l with rfl | ⟨r,x,rfl⟩;rfl;have ih:=gZ r;rw[List.concat_eq_append,wc,Nr,ih];simp
termination_by (Ζ l)
decreasing_by subst_vars;simp
def vi(hc:kG c){x: α}:x∈jX c l ↔ x∈l:=⟨λh=>(eu hc l).2.symm.mem hc h,λh=>(eu hc l).2.mem hc h⟩
def agP(hc:kG c)(h:St c l m):jX c l=jX c m:=Jk hc (eu hc m).1 (h.trans (eu hc m).2)
def Jl(hc:kG c){A1 A2 B1 B2:List α}(hA:l_ c (A1++A2))(hB:l_ c (B1++B2))(h1:∀x∈A1,∀y∈B2,c x y<=0)(h2:∀x∈B1,∀y∈A2,c x y<0):jX c ((A1++A2)++(B1++B2))=jX c (A1++B1)++jX c (A2++B2):=by
 obtain⟨_,_,hAx⟩:=aum.1 hA;obtain⟨_,_,hBx⟩:=aum.1 hB;refine Jk hc (aum.2 ⟨(eu hc _).1,(eu hc _).1,λx hx y hy=>?_⟩) ?_;rw[vi hc,auJ]at hx hy;rcases hx with hx | hx<;>rcases hy with hy | hy;exact hAx x hx y hy;exact h1 x hx y hy;exact Int.le_of_lt (h2 x hx y hy);exact hBx x hx y hy
 ·refine St.trans ?_ ((eu hc (A1++B1)).2.app (eu hc (A2++B2)).2)
  have:=((St.refl A1).app ((St.swap (a:=A2) (b:=B1) hc λx hx y hy=>by
   have:=h2 y hy x hx;have:=hc.td y x;omega).app (St.refl B2)))
  simpa[Ro]using this
def Jm(hc:kG c){A B:List α}(hA:l_ c A)(hB:l_ c B)(s t:Nat)(hs:s<=Ζ A)(h:s=0\/t=(Ζ B)\/∃x y,A[s - 1]?=φ x/\B[t]?=φ y/\c x y<=0):∀x∈A.take s,∀y∈B.drop t,c x y<=0:=by
 intro x hx y hy;rcases h with rfl | rfl | ⟨u,v,hu,hv,Qi⟩;cases hx;rw[auh]at hy;cases hy
 ·obtain⟨i,hi,rfl⟩:=as0.1 hx;obtain⟨j,hj,rfl⟩:=as0.1 hy;rw[an2]at hi;rw[TR]at hj;rw[auy,auz];obtain⟨ry,rfl⟩:=aja.1 hu;obtain⟨t_,rfl⟩:=aja.1 hv
  have e1:c A[i] A[s - 1]<=0:=by
   rcases Nat.lt_or_ge i (s - 1)with h | h;exact asl.1 hA _ _ _ _ h
   ·have:i=s - 1:=Λ
    subst this;rw[hc.refl];omega
  have e2:c B[t] B[t+j]<=0:=by
   rcases an5 j with rfl | h;simp[hc.refl];exact asl.1 hB _ _ _ _ Λ
  exact hc.agO e1 (hc.agO Qi e2)
def F5(hc:kG c){A B:List α}(hA:l_ c A)(hB:l_ c B)(s t:Nat)(ht:t<=Ζ B)(h:t=0\/s=(Ζ A)\/∃x y,B[t - 1]?=φ x/\A[s]?=φ y/\c x y<0):∀x∈B.take t,∀y∈A.drop s,c x y<0:=by
 intro x hx y hy;rcases h with rfl | rfl | ⟨u,v,hu,hv,Qi⟩;cases hx;rw[auh]at hy;cases hy
 ·obtain⟨i,hi,rfl⟩:=as0.1 hx;obtain⟨j,hj,rfl⟩:=as0.1 hy;rw[an2]at hi;rw[TR]at hj;rw[auy,auz];obtain⟨ry,rfl⟩:=aja.1 hu;obtain⟨t_,rfl⟩:=aja.1 hv
  have e1:c B[i] B[t - 1]<=0:=by
   rcases Nat.lt_or_ge i (t - 1)with h | h;exact asl.1 hB _ _ _ _ h
   ·have:i=t - 1:=Λ
    subst this;rw[hc.refl];omega
  have e2:c A[s] A[s+j]<=0:=by
   rcases an5 j with rfl | h;simp[hc.refl];exact asl.1 hA _ _ _ _ Λ
  exact hc.aoQ e1 (hc.Jj Qi e2)
end
def SB(O:VH)(k:Nat)(L:List Ρ)(sp:Η):Prop:=O.hp k=φ (.cells (L.map .s++sp))
def mU{L:List Ρ}{x:Ρ}(h:L[i]?=φ x):(L.map MV.s++sp)[i]?=φ (.s x):=by
 obtain⟨h1,rfl⟩:=aja.1 h;rw[apF (by simpa using h1)];simp[h1]
def aaO{L:List Ρ}(x:Ρ)(h:i<Ζ L):(L.map MV.s++sp).set i (.s x)=(L.set i x).map .s++sp:=by
 rw[List.set_append_left _ _ z34,List.map_set]
section
variable{α :Type}
def Lp(L:List α)(i j:Nat):List α :=match L[i]?,L[j]? with
 | some x,φ y=>(L.set i y).set j x
 | _,_=>L
def Qn{L:List α}{x y: α}(h:L[i]?=φ x)(k:L[j]?=φ y):Lp L i j=(L.set i y).set j x:=by unfold Lp;rw[h,k]
def agQ(L:List α)(i j:Nat):(Lp L i j).length=Ζ L:=by
 unfold Lp;split;simp;rfl
def Dn(P M Q:List α)(x y: α):Lp (P++x::(M++y::Q)) (Ζ P) (Ζ P+1+Ζ M)=P++y::(M++x::Q):=by
 have h1:(P++x::(M++y::Q))[Ζ P]?=φ x:=by simp
 have h2:(P++x::(M++y::Q))[Ζ P+1+Ζ M]?=φ y:=by
  rw[ai9 Λ,show (Ζ P)+1+(Ζ M) - (Ζ P)=Ζ M+1 by omega,auF,ai9 Λ];simp
 rw[Qn h1 h2,auk _ _ Λ,auH,List.set_cons_zero,auk _ _ Λ,show (Ζ P)+1+(Ζ M) - (Ζ P)=Ζ M+1 by omega,List.set_cons_succ,auk _ _ Λ,auH,List.set_cons_zero]
def Ns(L:List α)(i j:Nat):Lp L i j=Lp L j i:=by
 unfold Lp;cases h1:L[i]?<;>cases h2:L[j]?<;>try rfl
 rename_i x y;dsimp only;by_cases e:i=j;subst e;rw[h1]at h2;cases h2;rfl;rw[List.set_comm _ _ e]
def EI(L:List α)(a b:Nat):Nat->List α
 | 0=>L
 | i+1=>Lp (EI L a b i) (a+i) (b+i)
def agR(L:List α)(a b i:Nat):(EI L a b i).length=Ζ L:=by
 induction i with
 | zero=>rfl
 | succ i ih=>rw[EI,agQ,ih]
def adQ(D U M V E:List α)(i:Nat)(hU:i<=Ζ U)(hV:Ζ U=Ζ V):EI (D++U++M++V++E) (Ζ D) (Ζ D+Ζ U+Ζ M) i=D++V.take i++U.drop i++M++U.take i++V.drop i++E:=by
 induction i with
 | zero=>simp[EI]
 | succ i ih=>
   rw[EI,ih Λ];have h1:i<Ζ U:=Λ;have h2:i<Ζ V:=Λ
   have e1:D++V.take i++U.drop i++M++U.take i++V.drop i++E=(D++V.take i)++U[i]::((U.drop (i+1)++M++U.take i)++V[i]::(V.drop (i+1)++E)):=by
    rw[alp h1,alp h2];simp only[Ro,an4]
   have e2:D++V.take (i+1)++U.drop (i+1)++M++U.take (i+1)++V.drop (i+1)++E=(D++V.take i)++V[i]::((U.drop (i+1)++M++U.take i)++U[i]::(V.drop (i+1)++E)):=by
    rw[bN _ _ h1,bN _ _ h2];simp only[Ro,an4,ai_]
   (have l1:(D++V.take i).length=Ζ D+i:=by simp;omega);have l2:(U.drop (i+1)++M++U.take i).length=(Ζ U) - 1+Ζ M:=by simp;omega
   have:=Dn (D++V.take i) (U.drop (i+1)++M++U.take i) (V.drop (i+1)++E) U[i] V[i];rw[l1,l2]at this;rw[e1,e2, <-this];(congr 1);omega
def Jn(D U M V E:List α)(hV:Ζ U=Ζ V):EI (D++U++M++V++E) (Ζ D) (Ζ D+Ζ U+Ζ M) (Ζ U)=D++V++M++U++E:=by
 rw[adQ D U M V E (Ζ U) (an3 _) hV,auv Λ,auh,auD,apJ Λ];simp
end
def aW:=asc T9<|asc T3<|asc T4<|asc aqr<|asc ue aau
abbrev tE:MV:=.func (.func 108) [] []
def Hp{L:List Ρ}{x y:Ρ}{X:bO}(h1:L[i]?=φ x)(h2:L[j]?=φ y):SB ((O.set k X).set k (.cells (((L.map MV.s++sp).set i (.s y)).set j (.s x)))) k (Lp L i j) sp:=by
 have e1:=(aja.1 h1).1;have e2:=(aja.1 h2).1;unfold SB;rw[υ,aaO y e1,aaO x (by rw[List.length_set];exact e2),Qn h1 h2]
def we{L:List Ρ}(a b n:Nat)(h:SB O k L sp)(hk:k<O.N)(ha:a+n<=Ζ L)(hb:b+n<=Ζ L)(hm:Ζ L<=1000000):VF Ε 208 [.bk k 0 (Ζ L) c,mi a,mi b,mi n,tE] O (aC λm O'=>SB O' k (EI L a b n) sp/\aL O (φ k) O'):=by
 refine χ 38 [] func208 ?_;refine ae aW ?_;refine WC.cj [10] [0,1,2,3] (λj:Nat=>[mi j]) (λj O'=>j<=n/\SB O' k (EI L a b j) sp/\aL O (φ k) O') (λj=>n - j) (0) ?_ ?_;exact⟨an6 _,h,aL.refl _ _⟩;rintro j O2 ⟨hj,h2,dZ⟩;by_cases bI:j<n;have hl:=agR L a b j;have e1:=ai8 (l:=EI L a b j) (i:=a+j) Λ;have e2:=ai8 (l:=EI L a b j) (i:=b+j) Λ;have hc:=Qn e1 e2;have g1:=mU (sp:=sp) e1;have g2:=mU (sp:=sp) e2;generalize (EI L a b j)[a+j]=x at*;generalize (EI L a b j)[b+j]=y at*;unfold SB at h2;refine ae aW ?_;refine WC.bM .any [(0,.au),(1,.au),(2,.au),(3,.au),(4,.au),(5,.au),(6,.au),(7,.au),(8,.au),(9,.au),(10,.au),(11,.au),(12,.au),(14,.au),(15,.au),(16,.au),(17,.au),(18,.au),(13,.fk),(19,.one),(20,.au),(21,.one),(22,.au),(23,.one)] ?_;refine ae aW ?_;refine VL.IC (m1:=.s y) (m2:=.s x) ?_ ?_ (WL.sound aa ?_);exact xi aW h2 @g1 @g2;exact xi aW h2 @g1 @g2;refine bo aW h2 @g1 @g2 ?_;refine aw.N (j+1) ?_;exact⟨Λ,Hp e1 e2,(dZ.trans aL.set).trans aL.set⟩
 ·have:j=n:=Λ
  subst this;refine ae aW ?_;exact⟨h2,dZ⟩
abbrev me:=List Ρ
def adR(D U V E:me)(h:SB O k (D++U++V++E) sp)(hk:k<O.N)(hn:n=(D++U++V++E).length)(h1:0<Ζ U)(h2:0<Ζ V)(hm:n<=1000000):VF Ε 189 [.bk k 0 n c,mi (Ζ D),mi (Ζ D+Ζ U:Nat),mi (Ζ D+Ζ U+Ζ V:Nat),tE] O (aC λm O'=>SB O' k (D++V++U++E) sp/\aL O (φ k) O'):=by
 have e1:((Ζ D+Ζ U:Nat):Int) - (Ζ D)=Ζ U:=Λ
 have e2:((Ζ D+Ζ U+Ζ V:Nat):Int) - (Ζ D+Ζ U:Nat)=Ζ V:=Λ
 have hT:∃T,T=D++V++U++E:=⟨_,rfl⟩
 obtain⟨T,hT⟩:=hT;rw[<-hT];have hM:∃M,M=Ζ D+Ζ U:=⟨_,rfl⟩
 obtain⟨M,hM⟩:=hM;rw[<-hM]at e1 e2 ⊢;have An:M+Ζ V<=1000000:=by rw[hn]at hm;simp only[Rn]at hm;omega
 refine χ 58 [] func189 ?_;refine aF aW e1 e2 ?_;refine WC.cj [10,11] [0,2,4] (λs:me×me×me×me=>[mi (Ζ s.2.1),mi (Ζ s.2.2.1)]) (λs O'=>SB O' k (s.1++s.2.1++s.2.2.1++s.2.2.2) sp/\aL O (φ k) O'/\s.1++s.2.2.1++s.2.1++s.2.2.2=T/\M=Ζ s.1+(Ζ s.2.1)/\0<(Ζ s.2.1)/\0<(Ζ s.2.2.1)/\(s.1++s.2.1++s.2.2.1++s.2.2.2).length=n) (λs=>Ζ s.2.1+Ζ s.2.2.1) ((D,U,V,E)) ?_ ?_;exact⟨h,aL.refl _ _,hT.symm,hM,h1,h2,hn.symm⟩;clear h hT hM h1 h2 hn e1 e2 An D U V E;rintro⟨D,U,V,E⟩ O2 ⟨h,hu,hT,hM,h1,h2,hn⟩;dsimp only at h hT hM h1 h2 hn ⊢;have bC:k<O2.N:=Nat.lt_of_lt_of_le hk hu.N;have hl:=hn;simp only[List.length_append]at hl;have e1:(M:Int) - (Ζ U)=Ζ D:=Λ
 rcases Nat.lt_trichotomy (Ζ U) (Ζ V) with bI | heq | It
 ·(obtain⟨V1,V2,hV,hV2⟩:∃V1 V2,V=V1++V2/\(Ζ V2)=Ζ U:=⟨V.take ((Ζ V) - (Ζ U)),V.drop ((Ζ V) - (Ζ U)),(apE _ _).symm,by simp;omega⟩);have hVl:Ζ V=Ζ V1+Ζ V2:=by rw[hV,Rn]
  have e3:(M:Int)+(Ζ V) - (Ζ U)=(Ζ D+Ζ U+Ζ V1:Nat):=Λ
  have e4:(Ζ V:Int) - (Ζ U)=Ζ V1:=Λ
  (have hh:SB O2 k (D++U++V1++V2++E) sp:=by rw[hV]at h;simpa[Ro]using h);have hL:(D++U++V1++V2++E).length=n:=by simp;omega
  have hs:=we (c:=c) (Ζ D) (Ζ D+Ζ U+Ζ V1) (Ζ U) hh bC Λ Λ Λ;rw[Jn D U V1 V2 E hV2.symm,hL]at hs;refine bo aW e1 e3 e4 ?_;refine π (hs) ?_;rintro _ O3 ⟨h3,cx⟩;refine ak aW e4 ?_;refine aw.N (D,V2,V1,U++E) ⟨by simpa[Ro]using h3,hu.trans cx,by rw[<-hT,hV];simp[Ro],?_,?_,?_,?_⟩ (hl:=(by rw[<-hV2];rfl)) (hm:=?_)<;>dsimp only<;>(try simp only[Rn])<;>omega
 ·have hs:=we (c:=c) (sp:=sp) (Ζ D) (Ζ D+Ζ U) (Ζ U) h bC (by rw[hn];omega) (by rw[hn];omega) (by rw[hn];omega);have ha:=Jn D U [] V E heq;rw[apG,apG,ahB,aus]at ha;rw[ha,hn, <-hM]at hs;refine ak aW e1 ?_;refine π (hs) ?_;rintro _ O3 ⟨h3,cx⟩;refine ae aW ?_;exact⟨by rw[<-hT];exact h3,hu.trans cx⟩
 ·(obtain⟨U1,U2,hU,hU1⟩:∃U1 U2,U=U1++U2/\(Ζ U1)=Ζ V:=⟨U.take (Ζ V),U.drop (Ζ V),(apE _ _).symm,by simp;omega⟩);have hUl:Ζ U=Ζ U1+Ζ U2:=by rw[hU,Rn]
  have e4:(Ζ U:Int) - (Ζ V)=Ζ U2:=Λ
  (have hh:SB O2 k (D++U1++U2++V++E) sp:=by rw[hU]at h;simpa[Ro]using h);have hL:(D++U1++U2++V++E).length=n:=by simp;omega
  have hs:=we (c:=c) (Ζ D) (Ζ D+Ζ U1+Ζ U2) (Ζ U1) hh bC Λ Λ Λ;rw[Jn D U1 U2 V E hU1,hL,Nat.add_assoc, <-hUl, <-hM,hU1]at hs;refine aF aW e1 e4 ?_;refine π (hs) ?_;rintro _ O3 ⟨h3,cx⟩;refine ak aW e4 ?_;refine aw.N (D++V,U2,U1,E) ⟨h3,hu.trans cx,by rw[<-hT,hU];simp[Ro],?_,?_,?_,?_⟩ (hl:=(by rw[<-hU1];rfl)) (hm:=?_)<;>dsimp only<;>(try simp only[Rn])<;>omega
def z_{α :Type}{c: α -> α ->Int}(x: α):∀{A B:List α},(∀a∈A,¬c x a<0)->(∀b∈B,c x b<0)->rp c x (A++B)=A++x::B
 | [],[],_,_=>rfl
 | [],b::B,_,h=>by rw[ai_,rp,if_pos (h b z10)];rfl
 | a::A,B,h,k=>by rw[an4,rp,if_neg (h a z10),z_ x (λb hb=>h b (List.mem_cons_of_mem _ hb)) k];rfl
def Nt{α :Type}{c: α -> α ->Int}(hc:kG c){S:List α}(hS:l_ c S){x y: α}(hy:S[i]?=φ y)(h:¬c x y<0):∀a∈S.take (i+1),¬c x a<0:=by
 intro a ha bI;obtain⟨hi,rfl⟩:=aja.1 hy;rw[bN _ _ hi,auJ,auq]at ha;rcases ha with ha | rfl;obtain⟨q,hq,rfl⟩:=as0.1 ha;rw[an2]at hq;rw[auy]at bI;exact h (hc.Jj bI (asl.1 hS _ _ _ _ Λ));exact h bI
def Yx{α :Type}{c: α -> α ->Int}(X:List α):jX c (X.take 1)=X.take 1:=by cases X<;>rfl
abbrev br:me->me:=jX bt
def Dq(D X E:me)(h:SB O k (D++X++E) sp)(hk:k<O.N)(hn:n=(D++X++E).length)(hX:∀x∈X,Ζ x<=10000)(hm:n<=1000000):VF Ε 168 [.bk k 0 n c,mi (Ζ D),mi (Ζ D+Ζ X:Nat),tE] O (aC λm O'=>SB O' k (D++br X++E) sp/\aL O (φ k) O'):=by
 have hc:=eT;have hl:=hn;simp only[Rn]at hl;refine χ 53 [] func168 ?_;refine ae aW ?_;refine WC.cj [8] [0,1,2,3] (λs:Nat=>[mi (Ζ D+(s+1):Nat)]) (λs O'=>SB O' k (D++(br (X.take (s+1))++X.drop (s+1))++E) sp/\aL O (φ k) O') (λs=>(Ζ X) - s) (0) ?_ ?_;refine⟨?_,aL.refl _ _⟩;rw[show br (X.take (0+1))=X.take 1 from Yx X,apE];exact h;rintro s O2 ⟨h2,dZ⟩;by_cases bI:s+1<Ζ X
 ·(have hSl:(br (X.take (s+1))).length=s+1:=by rw[gZ,an2];omega);have hSs:l_ bt (br (X.take (s+1))):=(eu hc _).1;have hSm:∀y∈br (X.take (s+1)),Ζ y<=10000:=λy hy=>hX y (auw ((vi hc).1 hy))
  (have fh:br (X.take (s+1+1))=rp bt X[s+1] (br (X.take (s+1))):=by rw[bN _ _ bI];exact wc _ _);have vS:=hX X[s+1] (apH bI);rw[alp bI]at h2;generalize X[s+1]=x at*;generalize br (X.take (s+1))=S at*;refine ae aW ?_;refine WC.cj [9] [0,1,2,3,8] (λj:Nat=>[mi (Ζ D+j:Nat)]) (λj O'=>j<=s+1/\SB O' k (D++(S.take j++x::S.drop j)++(X.drop (s+1+1)++E)) sp/\(∀y∈S.drop j,bt x y<0)/\aL O (φ k) O') (λj=>j) (s+1) ?_ ?_
  ·exact⟨an3 _,by rw[auv Λ,apJ Λ];simpa[Ro]using h2,by rw[apJ Λ];simp,dZ⟩
  rintro j O3 ⟨hj,h3,It,cx⟩;have dA:k<O3.N:=aev hk cx.N;cases j with
  | zero=>
    rw[List.drop_zero]at It;have hi:=z_ (c:=bt) (A:=[]) (B:=S) x z10 It;refine ae aW ?_;refine WC.bM .any [(0,.au),(1,.au),(2,.au),(3,.au),(4,.au),(5,.au),(6,.au),(7,.au),(8,.au),(9,.au),(10,.au),(11,.au),(12,.au),(13,.au),(14,.one),(15,.au),(16,.au)] ?_;refine ae aW ?_;refine aw.N (s+1) ⟨?_,cx⟩;rw[ai_]at hi;rw[fh,hi];simpa[Ro]using h3
  | succ i=>
    have hiS:i<Ζ S:=Λ
    have hy:=ai8 hiS;have hyS:=hy;have Av:=hSm _ (apH hiS);have hyd:=alp hiS;have hyt:=bN _ _ hiS;generalize S[i]=y at*;(((((((((((obtain⟨P,hP⟩:∃P,P=D++S.take i:=⟨_,rfl⟩);obtain⟨R,hR⟩:∃R,R=S.drop (i+1)++(X.drop (s+1+1)++E):=⟨_,rfl⟩);have qM:Ζ P=Ζ D+i:=by rw[hP,Rn,an2];omega);have h4:D++(S.take (i+1)++x::S.drop (i+1))++(X.drop (s+1+1)++E)=P++y::x::R:=by rw[hyt,hP,hR];simp[Ro]);rw[h4]at h3;have e1:(P++y::x::R)[Ζ D+(i+1)]?=φ x:=by rw[ai9 Λ,qM,show (Ζ D)+(i+1) - (Ζ D+i)=1 by omega];rfl);have e2:(P++y::x::R)[Ζ D+i]?=φ y:=by rw[ai9 Λ,qM,auH];rfl);have g1:=mU (sp:=sp) e1;have g2:=mU (sp:=sp) e2;have t1:((Ζ D+(i+1):Nat):Int) - 1=(Ζ D+i:Nat):=by omega);have nR:(P++y::x::R).length=n:=by rw[<-h4];simp;omega);have oU:=h3;unfold SB at oU;refine ae aW ?_;refine WC.bM .any [(0,.au),(1,.au),(2,.au),(3,.au),(4,.au),(5,.au),(6,.au),(7,.au),(9,.au),(10,.au),(11,.au),(12,.au),(8,.fk),(13,.one),(14,.one),(15,.au),(16,.au)] ?_;refine ak aW @t1 ?_;refine VL.IC (m1:=.s x) (m2:=.s y) ?_ ?_ (WL.sound aa ?_));exact xi aW oU @g1 @g2);exact xi aW oU @g1 @g2);refine bo aW oU @g1 @g2 ?_;refine π (lJ x y _ vS Av) ?_;rintro _ O4 ⟨rfl,aV⟩;have h5:SB O4 k (P++y::x::R) sp:=(aV.hp k dA).trans oU;have cC:=cx.trans (aL.dG aV).any;clear h3 oU;have h5':=h5;unfold SB at h5';by_cases Qm:bt x y<0
    ·refine ae aW ?_;refine WC.bM .any [(0,.au),(1,.au),(2,.au),(3,.au),(4,.au),(5,.au),(6,.au),(7,.au),(8,.au),(10,.au),(11,.au),(12,.au),(9,.fk),(13,.one),(14,.au),(15,.one),(16,.au),(17,.one)] ?_;refine ak aW @t1 ?_;refine VL.IC (m1:=.s y) (m2:=.s x) ?_ ?_ (WL.sound aa ?_);exact kt5 aW h5' @g1 @g2 @t1;exact kt5 aW h5' @g1 @g2 @t1;refine gy aW h5' @g1 @g2 @t1 ?_;have hs:=Hp (O:=O4) (k:=k) (sp:=sp) (X:=.cells (((P++y::x::R).map MV.s++sp).set (Ζ D+(i+1)) (.s y))) e1 e2;rw[Ns]at hs;have GX:=Dn P [] R y x;rw[ahB,aus,qM,Nat.add_assoc]at GX;rw[ai_,ai_]at GX;rw[GX]at hs;refine aw.N i ⟨Λ,?_,?_,(cC.trans aL.set).trans aL.set⟩
     ·(have hq:D++(S.take i++x::S.drop i)++(X.drop (s+1+1)++E)=P++x::y::R:=by rw[hyd,hP,hR];simp only[Ro,an4]);rw[hq];exact hs
     ·rw[hyd];intro z hz;exact(aui.1 hz).elim (λe=>by rw[e];exact Qm) (It z)
    ·refine ae aW ?_;refine aw.N (s+1) ⟨?_,cC⟩;have hi:=z_ (c:=bt) (A:=S.take (i+1)) (B:=S.drop (i+1)) x (Nt hc hSs hyS Qm) It;rw[apE]at hi;rw[fh,hi];rw[<-h4]at h5;simpa[Ro]using h5
 ·refine ae aW ?_;rw[auv Λ,apJ Λ,apG]at h2;exact⟨h2,dZ⟩
def TT{α :Type}{c: α -> α ->Int}(hc:kG c){B:List α}{x: α}(hB:l_ c B)(hi:i<=Ζ B)(h1:i=0\/∃y,B[i - 1]?=φ y/\c y x<0)(h2:i=(Ζ B)\/∃y,B[i]?=φ y/\¬c y x<0):jX c ([x]++B)=B.take i++x::B.drop i:=by
 have hx:l_ c [x]:=auu _ _
 have k1:=F5 hc hx hB 0 i hi (by
  rcases h1 with h | ⟨y,h,k⟩;exact .inl h;exact .inr (.inr ⟨y,x,h,rfl,k⟩))
 have k2:=Jm hc hx hB 1 i (an3 _) (by
  rcases h2 with h | ⟨y,h,k⟩;exact .inr (.inl h);exact .inr (.inr ⟨x,y,rfl,h,by have:=hc.td y x;omega⟩))
 have hT:l_ c (B.take i):=hB.sublist (auA _ _);have hD:l_ c (B.drop i):=hB.sublist (auB _ _);have:=Jl hc (A1:=[]) (A2:=[x]) (B1:=B.take i) (B2:=B.drop i) hx (by rw[apE];exact hB) z10 (by simpa using k1);rw[apE,ai_,ai_,nu hc hT,nu (m:=[x]++B.drop i) hc (apI.2 ⟨λy hy=>k2 x z10 y hy,hD⟩)]at this;exact this
def TU{α :Type}{c: α -> α ->Int}(hc:kG c){A:List α}{x: α}(hA:l_ c A)(hi:i<=Ζ A)(h1:i=0\/∃y,A[i - 1]?=φ y/\¬c x y<0)(h2:i=(Ζ A)\/∃y,A[i]?=φ y/\c x y<0):jX c (A++[x])=A.take i++x::A.drop i:=by
 rw[wc,nu hc hA]
 have:=z_ (c:=c) (A:=A.take i) (B:=A.drop i) x (by
  rcases h1 with h | ⟨y,h,k⟩;rw[h];simp
  ·cases i with
   | zero=>simp
   | succ i=>exact Nt hc hA h k) (by
  rcases h2 with h | ⟨y,h,k⟩;rw[h];simp;intro b hb;obtain⟨q,hq,rfl⟩:=as0.1 hb;rw[TR]at hq;rw[auz];obtain⟨hi,rfl⟩:=aja.1 h;rcases an5 q with rfl | hq0;exact k;exact hc.Jj k (asl.1 hA _ _ _ _ Λ))
 rwa [apE]at this
def half{q:Nat}(h:a+b<=4000000:=by omega)(hq:q=(a+b) / 2:=by omega):IntKind.i64.wrap (((a:Int)+(b:Int)).fdiv (2 ^ min 1 IntKind.u64.bits))=(q:Int):=by
 have e:(2 ^ min 1 IntKind.u64.bits:Int)=2:=by decide
 rw[e,Int.fdiv_eq_ediv_of_nonneg _ z12];simp only[IntKind.wrap,IntKind.signed,IntKind.bits];simp;omega
def adS(D B E:me)(x:Ρ)(h:SB O k (D++[x]++B++E) sp)(hk:k<O.N)(hn:n=(D++[x]++B++E).length)(hB:l_ bt B)(hx:Ζ x<=10000)(um:∀y∈B,Ζ y<=10000)(hm:n<=1000000):VF Ε 169 [.bk k 0 n c,mi (Ζ D),mi (Ζ D+1:Nat),mi (Ζ D+1+Ζ B:Nat),tE] O (aC λm O'=>SB O' k (D++br ([x]++B)++E) sp/\aL O (φ k) O'):=by
 have hc:=eT;have hl:=hn;simp only[Rn,auj]at hl;have e0:((Ζ D+1:Nat):Int) - (Ζ D)=1:=Λ
 refine χ 220 [] func169 ?_;refine ak aW e0 ?_;refine WC.cj [10,11] [0,1,4] (λs:Nat×Nat=>[mi (Ζ D+1+s.1:Nat),mi (Ζ D+1+s.2:Nat)]) (λs O'=>SB O' k (D++[x]++B++E) sp/\O.Ge O'/\s.1<=s.2/\s.2<=(Ζ B)/\(s.1=0\/∃y,B[s.1 - 1]?=φ y/\bt y x<0)/\(s.2=(Ζ B)\/∃y,B[s.2]?=φ y/\¬bt y x<0)) (λs=>s.2 - s.1) ((0,Ζ B)) ?_ ?_;exact⟨h,VH.Ge.refl _,an6 _,an3 _,.inl rfl,.inl rfl⟩;rintro⟨i,j⟩ O2 ⟨h2,ax,nj,hj,gT,mV⟩;dsimp only at nj hj gT mV ⊢;have bC:k<O2.N:=aev hk ax.N;by_cases bI:i<j
 ·obtain⟨q,hq⟩:∃q,q=(i+j) / 2:=⟨_,rfl⟩
  have Dr:q<Ζ B:=Λ
  have hy:=ai8 Dr;have Av:=um _ (apH Dr);generalize B[q]=y at*
  have e1:(D++[x]++B++E)[Ζ D+1+q]?=φ y:=by
   rw[Ro,ai9 z10,apF z43];simpa using hy
  have e2:(D++[x]++B++E)[Ζ D]?=φ x:=by simp
  have g1:=mU (sp:=sp) e1;have g2:=mU (sp:=sp) e2;have kz:=h2;unfold SB at kz;have e3:IntKind.i64.wrap (((Ζ D+1+i:Nat)+(Ζ D+1+j:Nat):Int).fdiv (2 ^ min 1 IntKind.u64.bits))=(Ζ D+1+q:Nat):=half;refine ak aW e3 ?_;refine WC.bM .any [(0,.au),(1,.au),(2,.au),(3,.au),(5,.au),(6,.au),(7,.au),(4,.fk),(8,.one),(9,.one),(10,.au)] ?_;refine ae aW ?_;refine VL.IC (m1:=.s y) (m2:=.s x) ?_ ?_ (WL.sound aa ?_);exact xi aW kz @g1 @g2;exact xi aW kz @g1 @g2;refine bo aW kz @g1 @g2 ?_;refine π (lJ y x _ Av hx) ?_;rintro _ O3 ⟨rfl,aB⟩;have h3:SB O3 k (D++[x]++B++E) sp:=(aB.hp k bC).trans kz;by_cases Qo:bt y x<0;refine ae aW ?_;refine aw.N (q+1,j) ⟨h3,ax.trans aB,by dsimp only;omega,hj,.inr ⟨y,hy,Qo⟩,mV⟩;refine ae aW ?_;refine aw.N (i,q) ⟨h3,ax.trans aB,by dsimp only;omega,by dsimp only;omega,gT,.inr ⟨y,hy,Qo⟩⟩
 ·obtain rfl:i=j:=Λ
  have hms:=TT hc hB hj gT mV;((have e4:((Ζ D+1+i:Nat):Int) - 1=(Ζ D+i:Nat):=Λ;refine ak aW e4 ?_;refine WC.cj [13] [0,10] (λq:Nat=>[mi (Ζ D+q:Nat)]) (λq O'=>q<=i/\SB O' k (D++(B.take q++x::B.drop q)++E) sp/\aL O (φ k) O') (λq=>i - q) (0) ?_ ?_);exact⟨an6 _,by simpa[Ro]using h2,(aL.dG ax).any⟩);rintro q O3 ⟨hq,h3,cx⟩;by_cases hqi:q<i
  ·have Dr:q<Ζ B:=Λ
   have hyd:=alp Dr;have hyt:=bN _ _ Dr;generalize B[q]=y at*;(((((((((((obtain⟨P,hP⟩:∃P,P=D++B.take q:=⟨_,rfl⟩);obtain⟨R,hR⟩:∃R,R=B.drop (q+1)++E:=⟨_,rfl⟩);have qM:Ζ P=Ζ D+q:=by rw[hP,Rn,an2];omega);have h4:D++(B.take q++x::B.drop q)++E=P++x::y::R:=by rw[hyd,hP,hR];simp only[Ro,an4]);have h5:D++(B.take (q+1)++x::B.drop (q+1))++E=P++y::x::R:=by rw[hyt,hP,hR];simp only[Ro,an4,ai_]);rw[h4]at h3;have e1:(P++x::y::R)[Ζ D+q]?=φ x:=by rw[<-qM];simp);have e2:(P++x::y::R)[Ζ D+q+1]?=φ y:=by rw[<-qM,ai9 Λ,aut];rfl);have g1:=mU (sp:=sp) e1;have g2:=mU (sp:=sp) e2;have nR:(P++x::y::R).length=n:=by rw[<-h4];simp;omega);have oU:=h3;unfold SB at oU;refine ak aW e4 ?_;refine WC.bM .any [(0,.au),(1,.au),(2,.au),(3,.au),(4,.au),(5,.au),(6,.au),(7,.au),(8,.au),(10,.au),(11,.au),(12,.au),(9,.fk),(13,.one),(14,.au),(15,.one),(16,.au),(17,.one)] ?_;refine ae aW ?_;refine VL.IC (m1:=.s y) (m2:=.s x) ?_ ?_ (WL.sound aa ?_));exact xi aW oU @g1 @g2);exact xi aW oU @g1 @g2);refine bo aW oU @g1 @g2 ?_;have hs:=Hp (O:=O3) (k:=k) (sp:=sp) (X:=.cells (((P++x::y::R).map MV.s++sp).set (Ζ D+q) (.s y))) e1 e2;have GX:=Dn P [] R x y;rw[ahB,aus,qM,ai_,ai_]at GX;rw[GX]at hs;refine aw.N (q+1) ⟨Λ,?_,(cx.trans aL.set).trans aL.set⟩;rw[h5];exact hs
  ·obtain rfl:q=i:=Λ
   refine ak aW e4 ?_;exact⟨by show SB O3 k (D++jX bt ([x]++B)++E) sp;rw[hms];exact h3,cx⟩
def adT(D A E:me)(x:Ρ)(h:SB O k (D++A++[x]++E) sp)(hk:k<O.N)(hn:n=(D++A++[x]++E).length)(hA2:2<=Ζ A)(hA:l_ bt A)(hx:Ζ x<=10000)(Aq:∀y∈A,Ζ y<=10000)(hm:n<=1000000):VF Ε 169 [.bk k 0 n c,mi (Ζ D),mi (Ζ D+Ζ A:Nat),mi (Ζ D+Ζ A+1:Nat),tE] O (aC λm O'=>SB O' k (D++br (A++[x])++E) sp/\aL O (φ k) O'):=by
 have hc:=eT;have hl:=hn;simp only[Rn,auj]at hl;have e0:((Ζ D+Ζ A:Nat):Int) - (Ζ D)=Ζ A:=Λ
 have e1:((Ζ D+Ζ A+1:Nat):Int) - (Ζ D+Ζ A:Nat)=1:=Λ
 have e2:decide ((Ζ A:Int)=1)=γ:=by rw[decide_eq_false_iff_not];omega
 refine χ 220 [] func169 ?_;refine bo aW e0 e1 e2 ?_;refine WC.cj [14,15] [0,2,4] (λs:Nat×Nat=>[mi (Ζ D+s.1:Nat),mi (Ζ D+s.2:Nat)]) (λs O'=>SB O' k (D++A++[x]++E) sp/\O.Ge O'/\s.1<=s.2/\s.2<=(Ζ A)/\(s.1=0\/∃y,A[s.1 - 1]?=φ y/\¬bt x y<0)/\(s.2=(Ζ A)\/∃y,A[s.2]?=φ y/\bt x y<0)) (λs=>s.2 - s.1) ((0,Ζ A)) ?_ ?_;exact⟨h,VH.Ge.refl _,an6 _,an3 _,.inl rfl,.inl rfl⟩;rintro⟨i,j⟩ O2 ⟨h2,ax,nj,hj,gT,mV⟩;dsimp only at nj hj gT mV ⊢;have bC:k<O2.N:=aev hk ax.N;by_cases bI:i<j
 ·obtain⟨q,hq⟩:∃q,q=(i+j) / 2:=⟨_,rfl⟩
  have Qp:q<Ζ A:=Λ
  have hy:=ai8 Qp;have Av:=Aq _ (apH Qp);generalize A[q]=y at*
  have e1:(D++A++[x]++E)[Ζ D+q]?=φ y:=by
   rw[Ro,apF z43,ai9 z10];simpa using hy
  have e2:(D++A++[x]++E)[Ζ D+Ζ A]?=φ x:=by
   rw[Ro,ai9 z10];simp
  have g1:=mU (sp:=sp) e1;have g2:=mU (sp:=sp) e2;have kz:=h2;unfold SB at kz;have e3:IntKind.i64.wrap (((Ζ D+i:Nat)+(Ζ D+j:Nat):Int).fdiv (2 ^ min 1 IntKind.u64.bits))=(Ζ D+q:Nat):=half;refine ak aW e3 ?_;refine WC.bM .any [(0,.au),(1,.au),(2,.au),(3,.au),(5,.au),(6,.au),(7,.au),(4,.fk),(8,.one),(9,.one),(10,.au),(11,.au)] ?_;refine ae aW ?_;refine VL.IC (m1:=.s x) (m2:=.s y) ?_ ?_ (WL.sound aa ?_);exact xi aW kz @g1 @g2;exact xi aW kz @g1 @g2;refine bo aW kz @g1 @g2 ?_;refine π (lJ x y _ hx Av) ?_;rintro _ O3 ⟨rfl,aB⟩;have h3:SB O3 k (D++A++[x]++E) sp:=(aB.hp k bC).trans kz;by_cases Qo:bt x y<0;refine ae aW ?_;refine aw.N (i,q) ⟨h3,ax.trans aB,by dsimp only;omega,by dsimp only;omega,gT,.inr ⟨y,hy,Qo⟩⟩;refine ae aW ?_;refine aw.N (q+1,j) ⟨h3,ax.trans aB,by dsimp only;omega,hj,.inr ⟨y,hy,Qo⟩,mV⟩
 ·obtain rfl:i=j:=Λ
  have hms:=TU hc hA hj gT mV;refine ae aW ?_;refine WC.cj [17] [0,14] (λq:Nat=>[mi (Ζ D+q:Nat)]) (λq O'=>i<=q/\q<=(Ζ A)/\SB O' k (D++(A.take q++x::A.drop q)++E) sp/\aL O (φ k) O') (λq=>q) (Ζ A) ?_ ?_;exact⟨hj,an3 _,by rw[auD,auh];simpa[Ro]using h2,(aL.dG ax).any⟩;rintro q O3 ⟨hq,Qp,h3,cx⟩;by_cases hqi:i<q
  ·cases q with
   | zero=>omega
   | succ q=>
   have Dr:q<Ζ A:=Λ
   have hyd:=alp Dr;have hyt:=bN _ _ Dr;generalize A[q]=y at*;((((((((((((obtain⟨P,hP⟩:∃P,P=D++A.take q:=⟨_,rfl⟩);obtain⟨R,hR⟩:∃R,R=A.drop (q+1)++E:=⟨_,rfl⟩);have qM:Ζ P=Ζ D+q:=by rw[hP,Rn,an2];omega);have h4:D++(A.take (q+1)++x::A.drop (q+1))++E=P++y::x::R:=by rw[hyt,hP,hR];simp only[Ro,an4,ai_]);have h5:D++(A.take q++x::A.drop q)++E=P++x::y::R:=by rw[hyd,hP,hR];simp only[Ro,an4]);rw[h4]at h3;have e1:(P++y::x::R)[Ζ D+(q+1)]?=φ x:=by rw[ai9 Λ,qM,show (Ζ D)+(q+1) - (Ζ D+q)=1 by omega];rfl);have e2:(P++y::x::R)[Ζ D+q]?=φ y:=by rw[ai9 Λ,qM,auH];rfl);have g1:=mU (sp:=sp) e1;have g2:=mU (sp:=sp) e2;have t1:((Ζ D+(q+1):Nat):Int) - 1=(Ζ D+q:Nat):=by omega);have nR:(P++y::x::R).length=n:=by rw[<-h4];simp;omega);have oU:=h3;unfold SB at oU;refine ae aW ?_;refine WC.bM .any [(0,.au),(1,.au),(2,.au),(3,.au),(4,.au),(5,.au),(6,.au),(7,.au),(8,.au),(10,.au),(11,.au),(12,.au),(9,.fk),(13,.one),(14,.au),(15,.one),(16,.au),(17,.one)] ?_;refine ak aW @t1 ?_;refine VL.IC (m1:=.s y) (m2:=.s x) ?_ ?_ (WL.sound aa ?_));exact kt5 aW oU @g1 @g2 @t1);exact kt5 aW oU @g1 @g2 @t1);refine gy aW oU @g1 @g2 @t1 ?_;have hs:=Hp (O:=O3) (k:=k) (sp:=sp) (X:=.cells (((P++y::x::R).map MV.s++sp).set (Ζ D+(q+1)) (.s y))) e1 e2;rw[Ns]at hs;have GX:=Dn P [] R y x;rw[ahB,aus,qM,Nat.add_assoc,ai_,ai_]at GX;rw[GX]at hs;refine aw.N q ⟨Λ,Λ,?_,(cx.trans aL.set).trans aL.set⟩;rw[h5];exact hs
  ·obtain rfl:i=q:=Λ
   refine ae aW ?_;exact⟨by show SB O3 k (D++jX bt (A++[x])++E) sp;rw[hms];exact h3,cx⟩
def LoH(A B:me)(h s:Nat):Prop:=s=h - (Ζ B)\/∃x y,A[s - 1]?=φ x/\B[h - s]?=φ y/\bt x y<=0
def HiH(A B:me)(h s:Nat):Prop:=s=min (Ζ A) h\/∃x y,B[h - s - 1]?=φ x/\A[s]?=φ y/\bt x y<0
def Jo(N:Nat):Prop:=∀{O:VH} {k c n:Nat} {sp:Η} (D A B E:me),Ζ A+Ζ B<=N->SB O k (D++A++B++E) sp->k<O.N->n=(D++A++B++E).length->l_ bt A->l_ bt B->0<(Ζ A)->0<(Ζ B)->(∀x∈A,Ζ x<=10000)->(∀x∈B,Ζ x<=10000)->n<=1000000->VF Ε 169 [.bk k 0 n c,mi (Ζ D),mi (Ζ D+Ζ A:Nat),mi (Ζ D+Ζ A+Ζ B:Nat),tE] O (aC λm O'=>SB O' k (D++br (A++B)++E) sp/\aL O (φ k) O')
def Nu{N h s:Nat}(ih:Jo N)(D A B E:me)(hN:Ζ A+Ζ B<=N+1)(hn:n=(D++A++B++E).length)(hA:l_ bt A)(hB:l_ bt B)(Rq:0<Ζ A)(hB0:0<Ζ B)(Aq:∀x∈A,Ζ x<=10000)(um:∀x∈B,Ζ x<=10000)(hm:n<=1000000)(hh:h=(Ζ A+Ζ B) / 2)(vL:h - (Ζ B)<=s)(sN:s<=min (Ζ A) h)(gT:LoH A B h s)(mV:HiH A B h s):
  ∃A1 A2 B1 B2:me,Ζ A1=s/\(Ζ B1)=h - s/\(Ζ A)=s+(Ζ A2)/\(Ζ B)=(h - s)+(Ζ B2)/\
   (∀O:VH,SB O k (D++A++B++E) sp->k<O.N->0<(Ζ A2)->0<(Ζ B1)->VF Ε 189 [.bk k 0 n c,mi (Ζ D+s:Nat),mi (Ζ D+Ζ A:Nat),mi (Ζ D+Ζ A+(h - s):Nat),tE] O (aC λm O'=>SB O' k (D++(A1++(B1++(A2++(B2++E))))) sp/\aL O (φ k) O'))/\
   (∀O:VH,SB O k (D++(A1++(B1++(A2++(B2++E))))) sp->k<O.N->0<(Ζ A1)->0<(Ζ B1)->VF Ε 169 [.bk k 0 n c,mi (Ζ D),mi (Ζ D+s:Nat),mi (Ζ D+h:Nat),tE] O (aC λm O'=>SB O' k (D++(br (A1++B1)++(A2++(B2++E)))) sp/\aL O (φ k) O'))/\
   (∀O:VH,SB O k (D++(br (A1++B1)++(A2++(B2++E)))) sp->k<O.N->0<(Ζ A2)->0<(Ζ B2)->VF Ε 169 [.bk k 0 n c,mi (Ζ D+h:Nat),mi (Ζ D+Ζ A+(h - s):Nat),mi (Ζ D+Ζ A+Ζ B:Nat),tE] O (aC λm O'=>SB O' k (D++br (A++B)++E) sp/\aL O (φ k) O'))/\
   (∀O:VH,Ζ A2=0\/(Ζ B1)=0->SB O k (D++A++B++E) sp->SB O k (D++(A1++(B1++(A2++(B2++E))))) sp)/\
   (∀O:VH,Ζ A1=0\/(Ζ B1)=0->SB O k (D++(A1++(B1++(A2++(B2++E))))) sp->SB O k (D++(br (A1++B1)++(A2++(B2++E)))) sp)/\
   (∀O:VH,Ζ A2=0\/(Ζ B2)=0->SB O k (D++(br (A1++B1)++(A2++(B2++E)))) sp->SB O k (D++br (A++B)++E) sp):=by
 have hc:=eT
 have k1:=Jm hc hA hB s (h - s) Λ (by
  rcases gT with h | h;omega;exact .inr (.inr h))
 have k2:=F5 hc hA hB s (h - s) Λ (by
  rcases mV with h | h;omega;exact .inr (.inr h))
 have hl:=hn;simp only[Rn]at hl;have sA1:l_ bt (A.take s):=hA.sublist (auA _ _);have sA2:l_ bt (A.drop s):=hA.sublist (auB _ _);have sB1:l_ bt (B.take (h - s)):=hB.sublist (auA _ _);have sB2:l_ bt (B.drop (h - s)):=hB.sublist (auB _ _);have wA1:∀x∈A.take s,Ζ x<=10000:=λx hx=>Aq x (auw hx)
 have wA2:∀x∈A.drop s,Ζ x<=10000:=λx hx=>Aq x (List.mem_of_mem_drop hx)
 have wB1:∀x∈B.take (h - s),Ζ x<=10000:=λx hx=>um x (auw hx)
 have wB2:∀x∈B.drop (h - s),Ζ x<=10000:=λx hx=>um x (List.mem_of_mem_drop hx)
 have l1:(A.take s).length=s:=by rw[an2];omega
 have l2:(B.take (h - s)).length=h - s:=by rw[an2];omega
 have l3:Ζ A=s+(A.drop s).length:=by rw[TR];omega
 have l4:Ζ B=(h - s)+(B.drop (h - s)).length:=by rw[TR];omega
 have eA:=(apE s A).symm;have eB:=(apE (h - s) B).symm;generalize A.take s=A1 at*;generalize A.drop s=A2 at*;generalize B.take (h - s)=B1 at*;generalize B.drop (h - s)=B2 at*
 have hT:br (A++B)=br (A1++B1)++br (A2++B2):=by
  rw[eA]at hA;rw[eB]at hB;rw[eA,eB];exact Jl hc hA hB k1 k2
 have hF:(br (A1++B1)).length=h:=by rw[show(br (A1++B1)).length=_ from gZ _,Rn];omega
 have q0:D++A++B++E=(D++A1)++A2++B1++(B2++E):=by rw[eA,eB];simp only[Ro]
 refine⟨A1,A2,B1,B2,l1,l2,l3,l4,λO h1 hk p1 p2=>?_,λO h1 hk p1 p2=>?_,λO h1 hk p1 p2=>?_,λO p h1=>?_,λO p h1=>?_,λO p h1=>?_⟩;rw[q0]at h1;have:=adR (c:=c) (n:=n) (D++A1) A2 B1 (B2++E) h1 hk (by rw[<-q0];exact hn) p1 p2 hm;rw[Rn,l1,l2,show (Ζ D)+s+Ζ A2=Ζ D+(Ζ A) by omega]at this;simp only[Ro]at this ⊢;exact this;have:=ih (O:=O) (k:=k) (c:=c) (n:=n) (sp:=sp) D A1 B1 (A2++(B2++E)) Λ (by simpa only[Ro]using h1) hk (by simp only[Rn];omega) sA1 sB1 p1 p2 wA1 wB1 hm;rw[l1,l2,show (Ζ D)+s+(h - s)=Ζ D+h by omega]at this;simp only[Ro]at this ⊢;exact this;have:=ih (O:=O) (k:=k) (c:=c) (n:=n) (sp:=sp) (D++br (A1++B1)) A2 B2 E Λ (by simpa only[Ro]using h1) hk (by simp only[Rn,hF];omega) sA2 sB2 p1 p2 wA2 wB2 hm;rw[Rn,hF,show (Ζ D)+h+Ζ A2=Ζ D+Ζ A+(h - s) by omega,show (Ζ D)+Ζ A+(h - s)+Ζ B2=Ζ D+Ζ A+(Ζ B) by omega]at this;rw[hT];simp only[Ro]at this ⊢;exact this;rw[q0]at h1;rcases p with p | p<;>(have:=apK p;subst this;simpa only[Ro,ai_]using h1)
 ·have e:br (A1++B1)=A1++B1:=by
   (rcases p with p | p<;>(have:=apK p;subst this));exact nu hc sB1
   ·rw[apG];exact nu hc sA1
  rw[e];simpa only[Ro]using h1
 ·have e:br (A2++B2)=A2++B2:=by
   (rcases p with p | p<;>(have:=apK p;subst this));exact nu hc sB2
   ·rw[apG];exact nu hc sA2
  rw[hT,e];simpa only[Ro]using h1
def F6:∀N:Nat,Jo N:=by
 intro N;induction N with
 | zero=>unfold Jo;intros;omega
 | succ N ih=>
 intro O k c n sp D A B E hN hb hk hn hA hB Rq hB0 Aq um hm;by_cases hA1:Ζ A=1;obtain⟨x,rfl⟩:=List.length_eq_one_iff.1 hA1;exact adS D B E x hb hk hn hB (Aq x z10) um hm;by_cases sO:Ζ B=1;obtain⟨x,rfl⟩:=List.length_eq_one_iff.1 sO;exact adT D A E x hb hk hn Λ hA (um x z10) Aq hm;have hc:=eT;have hl:=hn;simp only[Rn]at hl;obtain⟨h,hh⟩:∃h,h=(Ζ A+Ζ B) / 2:=⟨_,rfl⟩
 obtain⟨M,hM⟩:∃M,M=Ζ D+h+(Ζ D+Ζ A):=⟨_,rfl⟩
 have e0:((Ζ D+Ζ A:Nat):Int) - (Ζ D)=Ζ A:=Λ
 have e1:((Ζ D+Ζ A+Ζ B:Nat):Int) - (Ζ D+Ζ A:Nat)=Ζ B:=Λ
 have e2:decide ((Ζ A:Int)=1)=γ:=by rw[decide_eq_false_iff_not];omega
 have e3:decide ((Ζ B:Int)=1)=γ:=by rw[decide_eq_false_iff_not];omega
 have e4:IntKind.i64.wrap (((Ζ D:Nat)+(Ζ D+Ζ A+Ζ B:Nat):Int).fdiv (2 ^ min 1 IntKind.u64.bits))=(Ζ D+h:Nat):=half;have e5:((Ζ D+h:Nat):Int)+(Ζ D+Ζ A:Nat)=(M:Nat):=Λ
 have e7:(M:Int) - 1=(M - 1:Nat):=Λ
 refine χ 220 [] func169 ?_;by_cases hph:h<Ζ A
 ·have e6:(M:Int) - (Ζ D+Ζ A+Ζ B:Nat)=(Ζ D+(h - (Ζ B)):Nat):=Λ
  refine kw9 aW e0 e1 e2 e3 e4 e5 e6 e7 ?_;refine WC.cj [20,21] [0,1,2,3,4,18,19,22] (λs:Nat×Nat=>[mi (Ζ D+s.1:Nat),mi (Ζ D+s.2:Nat)]) (λs O'=>SB O' k (D++A++B++E) sp/\O.Ge O'/\h - (Ζ B)<=s.1/\s.1<=s.2/\s.2<=min (Ζ A) h/\LoH A B h s.1/\HiH A B h s.2) (λs=>s.2 - s.1) ((h - (Ζ B),h)) ?_ ?_;(exact⟨hb,VH.Ge.refl _,by dsimp only<;>omega,by dsimp only<;>omega,by dsimp only<;>omega,.inl z29,.inl z29⟩);rintro⟨s,t⟩ O2 ⟨h2,ax,vL,eD,ht,gT,mV⟩;dsimp only at vL eD ht gT mV ⊢;have bC:k<O2.N:=aev hk ax.N;by_cases bI:s<t
  ·obtain⟨q,hq⟩:∃q,q=(s+t) / 2:=⟨_,rfl⟩
   have Qp:q<Ζ A:=Λ
   have Dr:h - q - 1<Ζ B:=Λ
   have hx:=ai8 Qp;have vS:=Aq _ (apH Qp);have hy:=ai8 Dr;have Av:=um _ (apH Dr);generalize A[q]=x at*;generalize B[h - q - 1]=y at*
   have e1:(D++A++B++E)[Ζ D+q]?=φ x:=by
    rw[Ro,apF (by simp<;>omega),ai9 z10];simpa using hx
   have e2:(D++A++B++E)[Ζ D+Ζ A+(h - q - 1)]?=φ y:=by
    rw[Ro,ai9 (by simp<;>omega),apF (by simp<;>omega)];rw[<-hy];congr 1;simp<;>omega
   have g1:=mU (sp:=sp) e1;have g2:=mU (sp:=sp) e2;have kz:=h2;unfold SB at kz;have e3:IntKind.i64.wrap (((Ζ D+s:Nat)+(Ζ D+t:Nat):Int).fdiv (2 ^ min 1 IntKind.u64.bits))=(Ζ D+q:Nat):=half;(((((have e8:((M - 1:Nat):Int) - (Ζ D+q:Nat)=(Ζ D+Ζ A+(h - q - 1):Nat):=Λ;refine ak aW e3 ?_;refine WC.bM .any [(0,.au),(1,.au),(2,.au),(3,.au),(4,.au),(5,.au),(7,.au),(8,.au),(9,.au),(6,.fk),(10,.one),(11,.one),(12,.au),(13,.au)] ?_;refine ak aW e8 ?_;refine VL.IC (m1:=.s y) (m2:=.s x) ?_ ?_ (WL.sound aa ?_));exact xi aW kz @g1 @g2);exact xi aW kz @g1 @g2);refine bo aW kz @g1 @g2 ?_;refine π (lJ y x _ Av vS) ?_;rintro _ O3 ⟨rfl,aB⟩;have h3:SB O3 k (D++A++B++E) sp:=(aB.hp k bC).trans kz;by_cases Qo:bt y x<0);refine ae aW ?_;refine aw.N (s,q) ⟨h3,ax.trans aB,vL,by dsimp only<;>omega,by dsimp only<;>omega,gT,.inr ⟨y,x,hy,hx,Qo⟩⟩ (hm:=z29));refine ae aW ?_;refine aw.N (q+1,t) ⟨h3,ax.trans aB,by dsimp only<;>omega,by dsimp only<;>omega,ht,.inr ⟨x,y,hx,by rw[<-hy];rfl,by have:=hc.td y x;omega⟩,mV⟩ (hm:=z29)
  ·obtain rfl:s=t:=Λ
   have kz:=h2;obtain⟨A1,A2,B1,B2,lA1,lB1,lA,lB,rot,r1,r2,n0,n1,n2⟩:=Nu (k:=k) (c:=c) (sp:=sp) ih D A B E hN hn hA hB Rq hB0 Aq um hm hh vL ht gT mV;(have e9:(M:Int) - (Ζ D+s:Nat)=(Ζ D+Ζ A+(h - s):Nat):=Λ;have gD:∀O3,aL O2 (φ k) O3->aL O (φ k) O3:=λO3 hu=>(aL.dG ax).any.trans hu);clear e0 e1 e2 e3 e4 e5 e7 gT mV ih;rcases an5 (Ζ A2) with a2 | a2
   ·rcases an5 (Ζ B1) with b1 | b1
    ·try (exfalso;omega)
     all_goals
      refine ak aW e9 ?_;exact⟨n2 _ (.inl a2) (n1 _ (.inr b1) (n0 _ (.inl a2) kz)),(aL.dG ax).any⟩
    ·try (exfalso;omega)
     all_goals
      refine ak aW e9 ?_;refine π (r1 _ (n0 _ (.inl a2) kz) bC Λ b1) ?_;rintro _ O4 ⟨h4,cC⟩;refine ae aW ?_;exact⟨n2 _ (.inl a2) h4,gD _ cC⟩
   ·rcases an5 (Ζ B1) with b1 | b1
    ·try (exfalso;omega)
     all_goals
      have h3:=n1 _ (.inr b1) (n0 _ (.inr b1) kz);refine ak aW e9 ?_;refine π (r2 _ h3 bC a2 Λ) ?_;rintro _ O4 ⟨h4,cC⟩;refine ae aW ?_;exact⟨h4,gD _ cC⟩
    ·refine ak aW e9 ?_;refine π (rot _ kz bC a2 b1) ?_;rintro _ O4 ⟨h4,cC⟩;have fJ:=aev bC cC.N;rcases an5 (Ζ A1) with a1 | a1
     ·have h5:=n1 _ (.inl a1) h4;rcases an5 (Ζ B2) with b2 | b2
      ·try (exfalso;omega)
       all_goals
        refine ae aW ?_;exact⟨n2 _ (.inr b2) h5,gD _ cC⟩
      ·try (exfalso;omega)
       all_goals
        refine ae aW ?_;refine π (r2 _ h5 fJ a2 b2) ?_;rintro _ O6 ⟨h6,gP⟩;refine ae aW ?_;exact⟨h6,gD _ (cC.trans gP)⟩
     ·refine ae aW ?_;refine π (r1 _ h4 fJ a1 b1) ?_;rintro _ O5 ⟨h5,iJ⟩;have i_:=aev fJ iJ.N;rcases an5 (Ζ B2) with b2 | b2
      ·try (exfalso;omega)
       all_goals
        refine ae aW ?_;exact⟨n2 _ (.inr b2) h5,gD _ (cC.trans iJ)⟩
      ·try (exfalso;omega)
       all_goals
        refine ae aW ?_;refine π (r2 _ h5 i_ a2 b2) ?_;rintro _ O6 ⟨h6,gP⟩;refine ae aW ?_;exact⟨h6,gD _ ((cC.trans iJ).trans gP)⟩
 ·refine SP aW e0 e1 e2 e3 e4 e5 e7 ?_;refine WC.cj [20,21] [0,1,2,3,4,18,19,22] (λs:Nat×Nat=>[mi (Ζ D+s.1:Nat),mi (Ζ D+s.2:Nat)]) (λs O'=>SB O' k (D++A++B++E) sp/\O.Ge O'/\h - (Ζ B)<=s.1/\s.1<=s.2/\s.2<=min (Ζ A) h/\LoH A B h s.1/\HiH A B h s.2) (λs=>s.2 - s.1) ((0,Ζ A)) ?_ ?_;(exact⟨hb,VH.Ge.refl _,by dsimp only<;>omega,by dsimp only<;>omega,by dsimp only<;>omega,.inl z29,.inl z29⟩);rintro⟨s,t⟩ O2 ⟨h2,ax,vL,eD,ht,gT,mV⟩;dsimp only at vL eD ht gT mV ⊢;have bC:k<O2.N:=aev hk ax.N;by_cases bI:s<t
  ·obtain⟨q,hq⟩:∃q,q=(s+t) / 2:=⟨_,rfl⟩
   have Qp:q<Ζ A:=Λ
   have Dr:h - q - 1<Ζ B:=Λ
   have hx:=ai8 Qp;have vS:=Aq _ (apH Qp);have hy:=ai8 Dr;have Av:=um _ (apH Dr);generalize A[q]=x at*;generalize B[h - q - 1]=y at*
   have e1:(D++A++B++E)[Ζ D+q]?=φ x:=by
    rw[Ro,apF (by simp<;>omega),ai9 z10];simpa using hx
   have e2:(D++A++B++E)[Ζ D+Ζ A+(h - q - 1)]?=φ y:=by
    rw[Ro,ai9 (by simp<;>omega),apF (by simp<;>omega)];rw[<-hy];congr 1;simp<;>omega
   have g1:=mU (sp:=sp) e1;have g2:=mU (sp:=sp) e2;have kz:=h2;unfold SB at kz;have e3:IntKind.i64.wrap (((Ζ D+s:Nat)+(Ζ D+t:Nat):Int).fdiv (2 ^ min 1 IntKind.u64.bits))=(Ζ D+q:Nat):=half;(((((have e8:((M - 1:Nat):Int) - (Ζ D+q:Nat)=(Ζ D+Ζ A+(h - q - 1):Nat):=Λ;refine ak aW e3 ?_;refine WC.bM .any [(0,.au),(1,.au),(2,.au),(3,.au),(4,.au),(5,.au),(7,.au),(8,.au),(9,.au),(6,.fk),(10,.one),(11,.one),(12,.au),(13,.au)] ?_;refine ak aW e8 ?_;refine VL.IC (m1:=.s y) (m2:=.s x) ?_ ?_ (WL.sound aa ?_));exact xi aW kz @g1 @g2);exact xi aW kz @g1 @g2);refine bo aW kz @g1 @g2 ?_;refine π (lJ y x _ Av vS) ?_;rintro _ O3 ⟨rfl,aB⟩;have h3:SB O3 k (D++A++B++E) sp:=(aB.hp k bC).trans kz;by_cases Qo:bt y x<0);refine ae aW ?_;refine aw.N (s,q) ⟨h3,ax.trans aB,vL,by dsimp only<;>omega,by dsimp only<;>omega,gT,.inr ⟨y,x,hy,hx,Qo⟩⟩ (hm:=z29));refine ae aW ?_;refine aw.N (q+1,t) ⟨h3,ax.trans aB,by dsimp only<;>omega,by dsimp only<;>omega,ht,.inr ⟨x,y,hx,by rw[<-hy];rfl,by have:=hc.td y x;omega⟩,mV⟩ (hm:=z29)
  ·obtain rfl:s=t:=Λ
   have kz:=h2;obtain⟨A1,A2,B1,B2,lA1,lB1,lA,lB,rot,r1,r2,n0,n1,n2⟩:=Nu (k:=k) (c:=c) (sp:=sp) ih D A B E hN hn hA hB Rq hB0 Aq um hm hh vL ht gT mV;(have e9:(M:Int) - (Ζ D+s:Nat)=(Ζ D+Ζ A+(h - s):Nat):=Λ;have gD:∀O3,aL O2 (φ k) O3->aL O (φ k) O3:=λO3 hu=>(aL.dG ax).any.trans hu);clear e0 e1 e2 e3 e4 e5 e7 gT mV ih;rcases an5 (Ζ A2) with a2 | a2
   ·rcases an5 (Ζ B1) with b1 | b1
    ·try (exfalso;omega)
     all_goals
      refine ak aW e9 ?_;exact⟨n2 _ (.inl a2) (n1 _ (.inr b1) (n0 _ (.inl a2) kz)),(aL.dG ax).any⟩
    ·try (exfalso;omega)
     all_goals
      refine ak aW e9 ?_;refine π (r1 _ (n0 _ (.inl a2) kz) bC Λ b1) ?_;rintro _ O4 ⟨h4,cC⟩;refine ae aW ?_;exact⟨n2 _ (.inl a2) h4,gD _ cC⟩
   ·rcases an5 (Ζ B1) with b1 | b1
    ·try (exfalso;omega)
     all_goals
      have h3:=n1 _ (.inr b1) (n0 _ (.inr b1) kz);refine ak aW e9 ?_;refine π (r2 _ h3 bC a2 Λ) ?_;rintro _ O4 ⟨h4,cC⟩;refine ae aW ?_;exact⟨h4,gD _ cC⟩
    ·refine ak aW e9 ?_;refine π (rot _ kz bC a2 b1) ?_;rintro _ O4 ⟨h4,cC⟩;have fJ:=aev bC cC.N;rcases an5 (Ζ A1) with a1 | a1
     ·have h5:=n1 _ (.inl a1) h4;rcases an5 (Ζ B2) with b2 | b2
      ·try (exfalso;omega)
       all_goals
        refine ae aW ?_;exact⟨n2 _ (.inr b2) h5,gD _ cC⟩
      ·try (exfalso;omega)
       all_goals
        refine ae aW ?_;refine π (r2 _ h5 fJ a2 b2) ?_;rintro _ O6 ⟨h6,gP⟩;refine ae aW ?_;exact⟨h6,gD _ (cC.trans gP)⟩
     ·refine ae aW ?_;refine π (r1 _ h4 fJ a1 b1) ?_;rintro _ O5 ⟨h5,iJ⟩;have i_:=aev fJ iJ.N;rcases an5 (Ζ B2) with b2 | b2
      ·try (exfalso;omega)
       all_goals
        refine ae aW ?_;exact⟨n2 _ (.inr b2) h5,gD _ (cC.trans iJ)⟩
      ·try (exfalso;omega)
       all_goals
        refine ae aW ?_;refine π (r2 _ h5 i_ a2 b2) ?_;rintro _ O6 ⟨h6,gP⟩;refine ae aW ?_;exact⟨h6,gD _ ((cC.trans iJ).trans gP)⟩
inductive qT(w:Nat):me->me->Prop
 | last {L:me}:Ζ L<=w->qT w L (br L)
 | more {X R S:me}:Ζ X=w->qT w R S->qT w (X++R) (br X++S)
def qT.len{L S:me}(h:qT w L S):Ζ S=Ζ L:=by
 induction h with
 | last _=>exact gZ _
 | more _ _ ih=>rw[Rn,Rn,ih];congr 1;exact gZ _
def qT.all{L S:me}(hw:0<w)(h:qT w L S)(hl:Ζ L<=w):S=br L:=by
 cases h with
 | last _=>rfl
 | @more X R T hX h2=>
   rw[Rn]at hl;have h3:=h2.len;have e1:R=[]:=apK Λ;have e2:T=[]:=apK (by rw[h3,e1];rfl);rw[e1,e2,apG,apG]
def qT.two{R S:me}(hw:0<w)(h:qT w R S)(hl:w<Ζ R):∃X R1 S1,R=X++R1/\S=br X++S1/\(Ζ X)=w/\qT w R1 S1:=by
 cases h with
 | last h=>omega
 | more hX h2=>exact⟨_,_,_,rfl,rfl,hX,h2⟩
def qT.cut{R S:me}(hw:0<w)(h:qT w R S)(hl:w<=Ζ R):∃X R1 S1,R=X++R1/\S=br X++S1/\(Ζ X)=w/\qT w R1 S1:=by
 rcases Nat.lt_or_ge w (Ζ R) with h1 | h1;exact h.two hw h1;have:=h.all hw h1;exact⟨R,[],[],z10,by rw[this];simp,Λ,qT.last (L:=[]) (an6 _)⟩
def Nv(X Y:me):br (br X++br Y)=br (X++Y):=agP eT ((eu eT X).2.app (eu eT Y).2).symm
def tF{X:me}(h:∀x∈X,Ζ x<=10000):∀x∈br X,Ζ x<=10000:=λx hx=>h x ((vi eT).1 hx)
def adU(L:me)(h:SB O k L sp)(hk:k<O.N)(hn:n=Ζ L)(hL:∀x∈L,Ζ x<=10000)(hm:n<=1000000):VF Ε 140 [.bk k 0 n c,mi n,tE] O (aC λm O'=>SB O' k (br L) sp/\aL O (φ k) O'):=by
 have hc:=eT;refine χ 63 [] func140 ?_;refine ae aW ?_;refine WC.cj [7,8] [0,1,2,6] (λs:me×me=>[mi (Ζ s.1),mi (Ζ s.1+20:Nat)]) (λs O'=>SB O' k (s.1++s.2) sp/\aL O (φ k) O'/\(Ζ s.1)+Ζ s.2=n/\(∀S,qT 20 s.2 S->qT 20 L (s.1++S))/\(∀x∈s.2,Ζ x<=10000)) (λs=>Ζ s.2) (([],L)) ?_ ?_;exact⟨h,aL.refl _ _,by rw[hn];simp,λS h=>h,hL⟩;rintro⟨P,R⟩ O2 ⟨h2,dZ,ph,hB,hR⟩;dsimp only at h2 ph hB hR ⊢;have bC:k<O2.N:=aev hk dZ.N;by_cases bI:Ζ P+20<=n
 ·(obtain⟨X,R1,rfl,hX⟩:∃X R1,R=X++R1/\(Ζ X)=20:=⟨R.take 20,R.drop 20,(apE _ _).symm,by rw[an2];omega⟩);rw[Rn]at ph;have hi:=Dq (c:=c) (n:=n) (sp:=sp) P X R1 (by rw[Ro];exact h2) bC (by simp only[Rn];omega) (λx hx=>hR x (aun _ hx)) hm;rw[hX]at hi;have qM:(P++br X).length=Ζ P+20:=by rw[Rn,show(br X).length=_ from gZ X,hX]
  refine ae aW ?_;refine π (hi) ?_;rintro _ O3 ⟨h3,cx⟩;refine ae aW ?_;refine aw.N (P++br X,R1) ⟨h3,dZ.trans cx,by dsimp only;omega,λS hS=>by rw[Ro];exact hB _ (qT.more hX hS),λx hx=>hR x (aug _ hx)⟩ (hl:=(by dsimp only;rw[qM];rfl)) (hm:=(by dsimp only;rw[Rn];omega))
 have hi:=Dq (c:=c) (n:=n) (sp:=sp) P R [] (by rw[apG];exact h2) bC (by simp only[Rn,ahB];omega) hR hm;rw[ph,apG]at hi;have sO:=hB _ (qT.last (w:=20) (L:=R) Λ);refine ae aW ?_;refine π (hi) ?_;rintro _ O3 ⟨h3,cx⟩;have cx:=dZ.trans cx;refine ae aW ?_;generalize P++br R=S at*;clear hi hB h2 dZ ph hR bI bC;refine WC.cj [6] [0,1,2] (λs:Nat=>[mi s]) (λs O'=>0<s/\∃S,SB O' k S sp/\qT s L S/\aL O (φ k) O') (λs=>n - s) (20) ?_ ?_;exact⟨Λ,S,h3,sO,cx⟩;clear sO h3 cx S;rintro w O4 ⟨hw,S,h4,Ds,cC⟩;by_cases uc:w<n
 ·have hd:(2:Int)*w=(2*w:Nat):=Λ
  have nS:(w:Int)*2=(2*w:Nat):=Λ
  have hSn:Ζ S=n:=by rw[Ds.len,hn]
  refine ak aW hd ?_;refine WC.cj [7,8] [0,1,2,6] (λs:me×me×me=>[mi (Ζ s.1),mi (2*w+Ζ s.1:Nat)]) (λs O'=>SB O' k (s.1++s.2.2) sp/\aL O (φ k) O'/\qT w s.2.1 s.2.2/\(Ζ s.1)+Ζ s.2.1=n/\(∀T,qT (2*w) s.2.1 T->qT (2*w) L (s.1++T))/\(∀x∈s.2.1,Ζ x<=10000)) (λs=>Ζ s.2.1) (([],L,S)) ?_ ?_;exact⟨h4,cC,Ds,by rw[hn];simp,λT h=>h,hL⟩;rintro⟨P,R,T⟩ O5 ⟨h5,iJ,yh,Jp,hT,hR⟩;dsimp only at h5 yh Jp hT hR ⊢;have i_:k<O5.N:=aev hk iJ.N;((((have EF:(Ζ P:Int)+w=(Ζ P+w:Nat):=Λ;by_cases bI:Ζ P+2*w<=n);obtain⟨X,R1,T1,rfl,rfl,hX,BY⟩:=yh.cut hw Λ;rw[Rn]at Jp;obtain⟨Y,R2,T2,rfl,rfl,hY,Lq⟩:=BY.cut hw Λ;rw[Rn]at Jp;have nX:=Lq.len;(((((((have lX:(br X).length=w:=by rw[show(br X).length=_ from gZ X,hX]);have lY:(br Y).length=w:=by rw[show(br Y).length=_ from gZ Y,hY]);have wX:∀x∈X,Ζ x<=10000:=λx hx=>hR x (aun _ hx));have wY:∀x∈Y,Ζ x<=10000:=λx hx=>hR x (aug _ (aun _ hx)));have hi:=F6 ((br X).length+(br Y).length) (c:=c) (n:=n) (sp:=sp) P (br X) (br Y) T2 (an3 _) (by simpa only[Ro]using h5) i_ (by simp only[Rn];omega) (eu hc X).1 (eu hc Y).1 Λ Λ (tF wX) (tF wY) hm;rw[Nv,lX,lY,show (Ζ P)+w+w=2*w+(Ζ P) by omega]at hi;have lXY:(br (X++Y)).length=2*w:=by rw[show(br (X++Y)).length=_ from gZ _,Rn];omega);have qM:(P++br (X++Y)).length=2*w+Ζ P:=by rw[Rn,lXY];omega);have yG:((2*w+Ζ P:Nat):Int)+(2*w:Nat)=(2*w+(2*w+Ζ P):Nat):=by omega);refine aF aW hd EF ?_;refine π (hi) ?_;rintro _ O6 ⟨h6,gP⟩;refine aF aW hd yG ?_;refine aw.N (P++br (X++Y),R2,T2) ⟨h6,iJ.trans gP,Lq,by dsimp only;omega,λT hS=>by rw[Ro];have:=qT.more (w:=2*w) (X:=X++Y) (by rw[Rn];omega) hS;rw[Ro]at this;exact hT _ this,λx hx=>hR x (aug _ (aug _ hx))⟩ (hl:=(by dsimp only;rw[qM];rfl)) (hm:=(by dsimp only;rw[Rn,Rn];omega)));by_cases hlw:Ζ P+w<n);obtain⟨X,Y,T1,rfl,rfl,hX,BY⟩:=yh.cut hw Λ;rw[Rn]at Jp;have:=BY.all hw Λ;subst this;(((have lX:(br X).length=w:=by rw[show(br X).length=_ from gZ X,hX]);have lY:(br Y).length=Ζ Y:=gZ Y;have wX:∀x∈X,Ζ x<=10000:=λx hx=>hR x (aun _ hx));have wY:∀x∈Y,Ζ x<=10000:=λx hx=>hR x (aug _ hx));have hi:=F6 ((br X).length+(br Y).length) (c:=c) (n:=n) (sp:=sp) P (br X) (br Y) [] (an3 _) (by simpa only[Ro,apG]using h5) i_ (by simp only[Rn,ahB];omega) (eu hc X).1 (eu hc Y).1 Λ Λ (tF wX) (tF wY) hm;rw[Nv,lX,lY,show (Ζ P)+w+Ζ Y=n by omega,apG]at hi;have Qq:=hT _ (qT.last (w:=2*w) (L:=X++Y) (by rw[Rn];omega));refine aF aW hd EF ?_;refine π (hi) ?_;rintro _ O6 ⟨h6,gP⟩;refine ak aW nS ?_;exact aw.N (2*w) ⟨Λ,_,h6,Qq,iJ.trans gP⟩);have:=yh.all hw Λ;subst this;have Qq:=hT _ (qT.last (w:=2*w) (L:=R) Λ);refine bo aW hd EF nS ?_;exact aw.N (2*w) ⟨Λ,_,h5,Qq,iJ⟩
 ·have:=Ds.all hw Λ;subst this;refine ae aW ?_;exact⟨h4,cC⟩
section
variable{P:Program}{n:Sz}{D:List Deferred}{e:Env}{O:VH}
def qy{t t' ty el:TypeId}{x:Operand}(hu:P.underlying t=φ (.slice el))(hx:ev e x=φ (.l k cs tk)):
  dd P n D (.mk d (.binOp .eql t x (.const (.slice Β 0 0)) t') ty ps af g) e O λm O'=>O'=O/\∃b,m= .v (.bool b)/\(b=Α->k=0/\cs=[]):=by
 intro G a w hw hf;have h1:=hf.ev hx;have hc:a.eval (.const (.slice Β 0 0))= .slice Β 0 0:=rfl
 have key:∀(A:Option Addr)(l c:Nat),a.eval x= .slice A l c->(A=Β->k=0/\cs=[])->∃m O' u w' H,(O'=O/\∃b,m= .v (.bool b)/\(b=Α->k=0/\cs=[]))/\(execOp a.eval (.mk d (.binOp .eql t x (.const (.slice Β 0 0)) t') ty ps af g)).run P w= .ok (.value u) w'/\Gh.Le G H/\WR H O' w'/\VR H m u:=λA l c ha hA=>by
  (refine⟨.v (.bool A.isNone),O,.bool A.isNone,w,G,⟨rfl,_,rfl,λh=>hA (by cases A<;>first | rfl | cases h)⟩,?_,Gh.Le.refl G,hw,.v rfl⟩;have SE:(eqGuard .eql t x (.const (.slice Β 0 0)) (.slice A l c) (.slice Β 0 0)).run P w= .ok () w:=by simp[eqGuard]);simp only[execOp,ha,hc,Sem.run_bind,SE,Result.andThen_ok,run_eql_slice_nil w t el A l c hu];rfl
 generalize hv:a.eval x=v at h1;cases h1 with
 | slnil=>exact key Β 0 0 hv λ_=>⟨rfl,rfl⟩
 | qE h=>exact key _ _ _ hv λ_=>⟨rfl,rfl⟩
 | kV=>exact key Β 0 0 hv λ_=>⟨rfl,rfl⟩
 | l h1 h2 h3 h4 h5 h6=>exact key _ _ _ hv λh=>by cases h
end
def nH{tab:cB}{op:BinOp}{t:TypeId} :dK tab op t (.l n cs tk) y=Β:=rfl
def Lr(L:me)(h:SB O k L sp)(hk:k<O.N)(hn:n=Ζ L)(hL:∀x∈L,Ζ x<=10000)(hm:n<=1000000):VF Ε 111 [.bk k 0 n c,tE] O (aC λm O'=>SB O' k (br L) sp/\aL O (φ k) O'):=by
 refine χ 9 [] func111 ?_;refine ae aW ?_;refine π (adU L h hk hn hL hm) ?_;rintro _ O2 ⟨h2,dZ⟩;refine ae aW ?_;exact⟨h2,dZ⟩
def Ls(t:Tok)(O:VH):VF Ε 168 [.l 0 [] t,mi 0,mi 0,tE] O (aC λm O'=>O'=O):=by
 refine χ 53 [] func168 ?_;refine ae aW ?_;refine WC.cj [8] [0,1,2,3] (λs:Nat=>[mi 1]) (λs O'=>O'=O) (λs=>s) (0) ?_ ?_;rfl;rintro s O2 h2;rw[h2];clear h2 O2;exact ae aW trivial
def Yy(t:Tok)(O:VH):VF Ε 140 [.l 0 [] t,mi 0,tE] O (aC λm O'=>O'=O):=by
 refine χ 63 [] func140 ?_;refine ae aW ?_;refine WC.cj [7,8] [0,1,2,6] (λs:Nat=>[mi 0,mi 20]) (λs O'=>O'=O) (λs=>s) (0) ?_ ?_;rfl;rintro s O2 h2;rw[h2];clear h2 O2;refine ae aW ?_;refine π (Ls t _) ?_;rintro _ O3 h3;rw[h3];clear h3 O3;refine ae aW ?_;refine WC.cj [6] [0,1,2] (λs:Nat=>[mi 20]) (λs O'=>O'=O) (λs=>s) (0) ?_ ?_;rfl;rintro s O2 h2;rw[h2];clear h2 O2;exact ae aW trivial
def yK(t:Tok)(O:VH):VF Ε 111 [.l 0 [] t,tE] O (aC λm O'=>O'=O):=by
 refine χ 9 [] func111 ?_;refine ae aW ?_;refine π (Yy t _) ?_;rintro _ O2 h2;rw[h2];clear h2 O2;exact ae aW trivial
def adV(L:me)(tk:Tok)(O:VH)(hn:Ζ L<=100000):VF Ε 110 [.l (Ζ L) (L.map .s) tk] O (aC λm O'=>O.Ge O'/\GR O' 9 1 O.N m (Ζ L) (L.map .s)):=by
 refine χ 8 [.tmp 2] func110 ?_;refine ak aW @nH ?_;refine auV (qy Tryz.underlying52 rfl) ?_;rintro _ O1 ⟨eO,b,rfl,hb⟩;rw[eO];clear eO O1;refine WL.sound aa ?_;cases b;refine ae aW ?_;refine VL.grow aa (.inl rfl) (te:=⟨_,1,16,_⟩) (B:=O.N) (n':=0) (L:=[]) (dx:=.slice 9) (p:=.l 0 [] .full) (q:=.l (Ζ L) (L.map .s) tk) (j:=Ζ L) (ds:=L.map .s) (.inl ⟨rfl,rfl,.inr rfl⟩) (by simp[sW]) (by rw[List.all_map];exact List.all_eq_true.2 λ_ _=>rfl) (by rw[ue];rfl) T9 (by rw[ue];rfl) trivial z18 z13 (an3 _) rfl rfl rfl rfl ?_;intro m O' h1 h2 h3 h4;rw[aul,ai_]at h1;refine ae aW ?_;exact⟨h3 rfl,h1⟩;obtain⟨h0,h1⟩:=hb rfl;rw[h0,h1];refine ae aW ?_;exact⟨VH.Ge.refl _,.inl ⟨rfl,rfl,.inl rfl⟩⟩
end Go.Proofs.YtnfdmplcieacjaaGreatDoor
