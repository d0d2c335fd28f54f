import Derived.Test.YtnfdmplcieacjaaGreatDoorMG
set_option linter.unusedVariables false
set_option linter.defProp false
set_option maxHeartbeats 8000000
set_option linter.unusedSimpArgs false
namespace Go.Proofs.YtnfdmplcieacjaaGreatDoor
open Go.RowKit
open _root_.Nat renaming reduceLT → y0, reduceAdd → y10, reduceMul → y11, reduceSub → y12, reduceBEq → y14, reduceEqDiff → y16
open _root_.Int renaming reduceToNat → y18
open _root_.Go.Proofs.Tryz
open Go.Value renaming int → Ι
open Go.IntKind renaming i64 → Κ
open _root_.List renaming length → Ζ
open _root_.Go.Proofs.Tryz renaming prog → Ε
open _root_.Option renaming some → φ, none → Β
open _root_.Bool renaming false → γ, true → Α
open _root_.List renaming getElem?_eq_getElem → Ro, cons_append → aev, getElem?_eq_some_iff → ahB, length_nil → ai8, mem_singleton → ai9, length_append → ai_, nil_append → aja, flatMap_nil → alp, length_singleton → an2, drop_eq_getElem_cons → an3, length_map → an5, append_assoc → an6, drop_of_length_le → apE, length_cons → apF, mem_append → apG, reverse_append → apI, getElem_mem → apJ, getElem?_cons_zero → asc, map_append → as0, drop_zero → ats
open _root_.Nat renaming le_refl → Rn, zero_le → abT, lt_of_lt_of_le → an4, le_trans → apH, sub_self → asl
open _root_.And renaming intro → TR
open _root_.Int renaming toNat_natCast → an7
open _root_.Bool renaming and_eq_true → apK
variable{us:Array Value}{g:Gv}{S Z:List (Gv×Bs)}{N:List Br}{M:List Dp}{ps:List MemPlace}{B bb i j k k2 mm n sz tb:Nat}{U W:Nat->Prop}{A:Nat×Nat}{t1 t2 tk:Tok}{O O' O1 O2:VH}
set_option maxRecDepth 10000
def cY:=TR aH<|TR lS<|TR alC<|TR FP<|TR IG GG
def q_.mv{S:j_}(h:q_ O tb k bb mm g M S t1 t2 B)(hn:O.N<=O'.N)(h1:B<=tb)(h2:B<=mm)(hf:∀j,B<=j->j<O.N->O'.hp j=O.hp j):q_ O' tb k bb mm g M S t1 t2 B:=by
 have hl:=h.lt;obtain⟨MD,cm,m1,m2⟩:=h.map;exact⟨(hf _ h1 hl.1).trans h.cell,⟨MD,cm,(hf _ h2 hl.2.1).trans m1,m2⟩,h.a1.at hn (λi e=>hf i (App.iM h.a1 e).1 (App.iM h.a1 e).2),h.a2.at hn (λi e=>hf i (App.iM h.a2 e).1 (App.iM h.a2 e).2),h.ne,⟨Λ,Λ,hl.2.2⟩,h.len,h.up,h.mr⟩
def q_.mg{M':List Dp}{S:j_}(h:q_ O tb k bb mm g M S t1 t2 B)(hn:O.N<=O'.N)(hm:MgS O' mm M')(hM:∀d∈M',rJ d)(hf:∀j,j<O.N->j≠mm->O'.hp j=O.hp j):q_ O' tb k bb mm g M' S t1 t2 B:=by
 have hl:=h.lt;obtain⟨MD,cm,m1,m2⟩:=h.map;exact⟨(hf _ hl.1 hl.2.2).trans h.cell,hm,h.a1.at hn (λi e=>hf i (App.iM h.a1 e).2 (λe2=>by subst e2;have:=App.tok h.a1 e;rw[m1]at this;cases this)),h.a2.at hn (λi e=>hf i (App.iM h.a2 e).2 (λe2=>by subst e2;have:=App.tok h.a2 e;rw[m1]at this;cases this)),h.ne,⟨Λ,Λ,hl.2.2⟩,h.len,h.up,hM⟩
def aeq{a b:Ky}(h:dm a=dm b):a=b:=by
 obtain⟨a1,a2,a3,a4⟩:=a;obtain⟨b1,b2,b3,b4⟩:=b;simp only[dm,List.cons.injEq,and_true]at h;obtain⟨rfl,rfl,rfl,rfl⟩:=h;rfl
def aer(N:Nat):uM N []:=⟨z10,z10⟩
def aes(M:List Dp)(d:Dp)(k:Ky):Kg (M++[d]) k=if bZ d=k then φ d else Kg M k:=by
 unfold Kg;rw[apI,List.reverse_singleton,List.singleton_append,List.find?_cons];by_cases e:bZ d=k;rw[if_pos e,decide_eq_true e];rw[if_neg e,decide_eq_false e]
def aiU{B2 md:Nat}{mm0:List (Gv×eM)}(h:BW O A B2 k bb md Z mm0)(V4:Ζ Z<=1024)(g:Gv)(hg:gG g):
  VF Ε 14 [.p k 0,.p bb 0,.agg (aS g)] O (aC λm O'=>dC (λi=>(A.1<=i/\i<B2/\i≠A.2)\/i=md) O O'/\match uA Z g mm0 with
   | .ok y=>(∃t,m= .tuple [.l (Ζ y.1.1) (y.1.1.flatMap ij) t,.agg (gV ja)])/\BW O' A B2 k bb md Z y.2/\V_ y.1
   | .error x=>m= .tuple [.l 0 [] .nil,.agg (gV x)]):=by
 obtain⟨R,hr⟩:∃R,uA Z g mm0=R:=⟨_,rfl⟩
 rw[hr];have hUl:=h.lt;have hZo:=h.st.ok;obtain⟨g1,g2,g3⟩:=g;simp only[aS];refine ω 116 [.tmp 6,.cell 7 34] func14 ?_;refine κ cY ?_;refine VC.gen ?_;intro O1 e1;obtain⟨aM,dq,eo,cS⟩:=jS _ _ e1;clear e1;have vR:Pu (m_ [(0,1),(1,1),(2,3),(5,1),(6,1),(7,1)]) [.p k 0,.p bb 0,.s g1,.s g2,.s g3,.v (.map Β),.l 0 [] .nil,.l 0 [] .nil] (.map O1.N) [] (φ (5,1))=φ [.p k 0,.p bb 0,.s g1,.s g2,.s g3,.map O1.N,.l 0 [] .nil,.l 0 [] .nil]:=rfl;refine θ (aF cY eo vR ?_);refine VC.gen ?_;intro O2 e2;obtain⟨ax,eG,hm2,BI⟩:=jS _ _ e2;clear e2;have iO:=ax.at eo;have bV:=ax.at cS;refine θ (aF cY iO BI ?_);refine VC.gen ?_;intro O3 e3;have Qz:O3.hp (O1.N+1)=φ (.cells [.p k 0,.p bb 0,.s g1,.s g2,.s g3,.map O1.N,.l 1 [.v (Ι Κ (-1)),.v (Ι Κ 0),.v (Ι Κ 0),.s g1,.s g2,.s [106,97,114],.s [],.s g3,.v (.bool γ),.s g3,.l 0 [] .nil,.v (Ι Κ 0),.v (.bool γ)] .full,.l 0 [] .nil]):=by rw[e3];exact υ _ _ _
 have mh:∀j,j≠O1.N+1->O3.hp j=O2.hp j:=λj hj=>by rw[e3];exact τ _ _ hj
 have ea:O3.N=O2.N:=by rw[e3];rfl
 clear e3;refine ξ cY Qz ?_;refine VC.gen ?_;intro O4 e4;have ht4:O4.hp (O1.N+1)=φ (.cells [.p k 0,.p bb 0,.s g1,.s g2,.s g3,.map O1.N,.l 1 [.v (Ι Κ (-1)),.v (Ι Κ 0),.v (Ι Κ 0),.s g1,.s g2,.s [106,97,114],.s [],.s g3,.v (.bool γ),.s g3,.l 0 [] .nil,.v (Ι Κ 0),.v (.bool γ)] .full,.l 1 [.l 0 [] .nil] .full]):=by rw[e4];exact υ _ _ _
 have sP:∀j,j≠O1.N+1->O4.hp j=O2.hp j:=λj hj=>by rw[e4,τ _ _ hj];exact mh j hj
 have fe:O4.N=O2.N:=by rw[e4];exact ea
 clear e4 Qz mh ea;refine VC.YS ht4 (cs':=[.p k 0,.p bb 0]++aS ⟨g1,g2,g3⟩++[.map O1.N,.l [oT ⟨g1,g2,g3⟩].length ([oT ⟨g1,g2,g3⟩].flatMap ij) .full,.l [([]:List iR)].length ([([]:List iR)].flatMap Ch) .full]) ?_ ?_
 ·simp only[aS,oT,Bi,ij,iL,jo,Ch,List.flatMap_singleton,aev,aja,an2,ai8,alp,aq,bg]
  repeat' first
   | exact fw.refl _
   | exact Wk.refl _
   | exact Wk.tok
   | refine fw.cons ?_ ?_
   | refine Wk.l ?_
 refine VC.gen ?_;intro O5 e5
 have asM:q_ O5 (O1.N+1) k bb O1.N ⟨g1,g2,g3⟩ [] ([oT ⟨g1,g2,g3⟩],[[]]) .full .full O.N:=by
  refine⟨by rw[e5];exact υ _ _ _,?_,trivial,trivial,λi h=>(by cases h),?_,rfl,?_,λd h=>by cases h⟩;refine⟨[],0,?_,aer 4,λk=>rfl⟩;rw[e5,VH.sx,sP _ Λ];exact hm2;rw[e5];show O1.N+1<O4.N/\O1.N<O4.N/\O1.N+1≠O1.N;omega;intro j c hj;have hl:=(ahB.1 hj).1;simp only[an2]at hl;(obtain rfl:j=0:=by omega);simp only[asc,Option.some.injEq]at hj;subst hj;simp[oT]
 have jz:∀j,j<O2.N->j≠O1.N+1->O5.hp j=O2.hp j:=λj _ h2=>by rw[e5,τ _ _ h2,sP j h2]
 have ie:O5.N=O2.N:=by rw[e5];exact fe
 have dX:=(jz _ Λ Λ).trans bV;have mA:O.Ge O5:=⟨by rw[ie,eG];omega,λj hj=>(jz j Λ Λ).trans ((aM.trans ax).hp j hj)⟩;clear e5 sP fe ht4 jz;refine Ξ [7,8] (λ_:j_×Tok×Tok×List Dp×List (Gv×eM)=>[.p (O.N+1) 0,.p (O1.N+1) 0]) (λx O'=>q_ O' (O1.N+1) k bb O1.N ⟨g1,g2,g3⟩ x.2.2.2.1 x.1 x.2.1 x.2.2.1 O.N/\R= .ok (x.1,x.2.2.2.2)/\BW O' A B2 k bb md Z x.2.2.2.2/\O'.hp (O.N+1)=O5.hp (O.N+1)/\O5.N<=O'.N/\dC (λi=>(A.1<=i/\i<B2/\i≠A.2)\/i=md) O O'/\V_ x.1) ?_ ?_
 ·refine κ cY ?_;refine Γ ?_;refine Υ [9] [1,7,8] (λx:Nat×j_×Tok×Tok×List Dp×List (Gv×eM)=>[mi x.1]) (λx O'=>x.1<=(Ζ x.2.1.1)/\V_ x.2.1/\mW Z ⟨g1,g2,g3⟩ (5000 - x.1) x.1 x.2.2.2.2.1 x.2.1 x.2.2.2.2.2=R/\q_ O' (O1.N+1) k bb O1.N ⟨g1,g2,g3⟩ x.2.2.2.2.1 x.2.1 x.2.2.1 x.2.2.2.1 O.N/\BW O' A B2 k bb md Z x.2.2.2.2.2/\O'.hp (O.N+1)=O5.hp (O.N+1)/\O5.N<=O'.N/\dC (λi=>(A.1<=i/\i<B2/\i≠A.2)\/i=md) O O') (λx=>5000 - x.1) ((0,([oT ⟨g1,g2,g3⟩],[[]]),.full,.full,[],mm0)) ?_ ?_;exact⟨abT _,⟨by show(1:Nat)<=4096;decide,λb hb=>by rw[ai9.1 hb];exact hg,λy hy=>by rw[ai9.1 hy];exact abT _,λb hb=>by rw[ai9.1 hb];exact⟨⟨hg.2.2,abT _,λp hp=>by cases hp⟩,λh=>absurd h (by simp[oT])⟩⟩,hr,asM,h.ge mA,rfl,Rn _,.dG mA⟩;rintro⟨i,S',t1,t2,M,mx⟩ O6 ⟨hi,LV,vd,EU,BY,kH,mQ,rK⟩;dsimp only at hi LV vd EU BY ⊢;have hl:=LV.l;have wB:=EU.cell;simp only[aS,aev,aja]at wB;have abF:=aP dY S'.1;by_cases fQ:i<Ζ S'.1;rotate_left
  ·obtain rfl:i=Ζ S'.1:=Λ
   have Nk:R= .ok (S',mx):=by
    rw[show 5000 - (Ζ S'.1)=(4999 - (Ζ S'.1))+1 by omega,mW,List.getElem?_eq_none (Rn _)]at vd;exact vd.symm
   refine ο cY wB ?_;exact aE.mk (S',t1,t2,M,mx) ⟨EU,Nk,BY,kH,mQ,rK,LV⟩
  have yS:=jSx i;have hb:S'.1[i]?=φ S'.1[i]:=Ro fQ;have bh:=bY dY S'.1 i fQ;generalize S'.1[i]=b at*;(((((have Fq:(S'.1.flatMap ij)[i*13+12]?=φ (mb b.rd):=by simpa using dP (sp:=[]) dY hb (i:=12) rfl);simp only[bg]at Fq;rw[show 5000 - i=(4999 - i)+1 by omega,mW,hb]at vd;dsimp only at vd;refine ξ cY wB ?_;refine Ξ [1,7,8,9] (λ_:j_×Tok×Tok×List Dp×List (Gv×eM)=>[.p bb 0,.p (O.N+1) 0,.p (O1.N+1) 0,mi i]) (λx O'=>i+1<=(Ζ x.1.1)/\V_ x.1/\mW Z ⟨g1,g2,g3⟩ (4999 - i) (i+1) x.2.2.2.1 x.1 x.2.2.2.2=R/\q_ O' (O1.N+1) k bb O1.N ⟨g1,g2,g3⟩ x.2.2.2.1 x.1 x.2.1 x.2.2.1 O.N/\BW O' A B2 k bb md Z x.2.2.2.2/\O'.hp (O.N+1)=O5.hp (O.N+1)/\O5.N<=O'.N/\dC (λi=>(A.1<=i/\i<B2/\i≠A.2)\/i=md) O O') ?_ ?_;rotate_left);rintro⟨S2,ta,tb,M2,m2⟩ O7 ⟨q1,q2,q3,q4,q5,q6,q7,q8⟩;have q2l:=q2.l;refine ο cY yS ?_;exact aw.N (i+1,S2,ta,tb,M2,m2) ⟨q1,q2,by rw[show 5000 - (i+1)=4999 - i by omega];exact q3,q4,q5,q6,q7,q8⟩ (hm:=(by dsimp only at q1 q2l ⊢;omega)));refine Γ ?_;cases Rc:b.rd;rotate_left);rw[Rc]at Fq;rw[if_pos Rc]at vd;refine ι (aF cY wB Fq ?_);exact aE.mk (S',t1,t2,M,mx) ⟨fQ,LV,vd,EU,BY,kH,mQ,rK⟩);rw[if_neg (by rw[Rc];decide)]at vd;rw[Rc]at Fq;have G5:=λ(O':VH)(u:O6.Ge O')=>aen (BY.ge u) (zq b) (LV.g b (List.mem_of_getElem? hb))
  have anB:=Cj Z 32 mx (zq b) [];generalize my Z 32 mx (zq b) []=XB at*;refine θ (aF cY wB Fq ?_);refine θ (aF cY wB bh ?_);refine π (Rb b O6) ?_;rintro _ O7 ⟨rfl,dB⟩;refine ae cY ?_;refine π (G5 O7 dB) ?_;rintro m O8 ⟨vw,h8⟩;have sk:=dB.N;have Ar:=vw.1;have abK:dC (λi=>(A.1<=i/\i<B2/\i≠A.2)\/i=md) O6 O8:=(dC.dG dB).trans vw;cases XB with
  | error x=>
    dsimp only[fp]at vd h8;subst h8;have hE:=Ai (anB.ne x rfl);have m9:=wm x;rw[hE]at m9;subst vd;simp only[qC,ano,aS,gV,ja,aq,aev,aja,ai8,alp]at m9 ⊢;have yf:=abK.at Λ Λ (kH.trans dX);refine ae cY ?_;refine VC.gen ?_;intro O9 e9;((have hp9:O9.hp (O8.N+1)=φ (.cells [.v (Ι Κ x.e),.s x.g.g,.s x.g.a,.s x.g.v,.v (Ι Κ x.p1),.v (Ι Κ x.p2),.v (Ι Κ x.p3),.s x.w]):=by rw[e9];exact υ _ _ _);have Kw:O8.Ge O9:=by rw[e9];exact((((VH.Ge.refl _).push _).push _).set (Rn _) _).set Λ _);clear e9;have kK:=Kw.at yf;have yP:=Kw.N;refine ξ cY hp9 ?_;refine VL.ud aa (bb:=Α) (b:=γ) z10 z24 (.inr ⟨rfl,rfl⟩) m9 z11 rfl rfl rfl rfl ?_;refine ae cY ?_;refine WC.bM .any [(1,.au),(0,.one),(2,.one)] ?_;refine aF cY hp9 kK ?_;exact((rK.trans abK).ge Kw).set (.inl Λ) _
  | ok y=>
  obtain⟨Y,m2⟩:=y;dsimp only[fp]at vd h8;obtain⟨rfl,Qq,hM8⟩:=h8;have Dd:=hM8.nl;have nQ:=hM8.ml;obtain⟨⟨ma,mb',mc⟩,Zt,mP,mM,mN⟩:=Y;have hmn:=hM8.mn;have hnn:=hM8.nn;dsimp only at Dd nQ hmn hnn vd;clear hM8;simp only[qC,aS,gV,ja,aq,aev,aja];refine ae cY ?_;refine VC.gen ?_;intro O9 e9;(((((have hm9:O9.hp O8.N=φ (.cells [.s ma,.s mb',.s mc,.s Zt,.l (Ζ mP) (mP.flatMap bp) .av,.l (Ζ mM) (mM.flatMap aG) .av,.l (Ζ mN) (mN.flatMap eK) .av]):=by rw[e9,VH.sx];exact υ _ _ _);have hp9:O9.hp (O8.N+1)=φ (.cells [.v (Ι Κ 0),.s [],.s [],.s [],.v (Ι Κ 0),.v (Ι Κ 0),.v (Ι Κ 0),.s []]):=by rw[e9];exact υ _ _ _);have Kw:O8.Ge O9:=by rw[e9];exact((((VH.Ge.refl _).push _).push _).set (Rn _) _).set Λ _);have yP:O9.N=O8.N+2:=by rw[e9];rfl);clear e9;have abL:=abK.ge Kw;have hT9:q_ O9 (O1.N+1) k bb O1.N ⟨g1,g2,g3⟩ M S' t1 t2 O.N:=EU.mv Λ Λ Λ λj h1 h2=>abL.2 j h2 Λ);have hB9:=Qq.ge Kw;have kK:=abL.at Λ Λ kH;have jG:=rK.trans abL;clear G5 anB Qq vw dB Kw abK abL EU BY kH rK wB bh Fq;refine ξ cY hp9 ?_;refine VL.ud aa (bb:=γ) (b:=Α) z10 z24 (.inr ⟨rfl,rfl⟩) z11 z11 rfl rfl rfl rfl ?_;refine ae cY ?_;generalize ZG:(if i=0 then M++mM else M)=MN at vd;refine Ξ [1,7,8,9,10] (λ_:Unit=>[.p bb 0,.p (O.N+1) 0,.p (O1.N+1) 0,mi i,.p O8.N 0]) (λ_ O'=>q_ O' (O1.N+1) k bb O1.N ⟨g1,g2,g3⟩ MN S' t1 t2 O.N/\O9.N<=O'.N/\∀l,l<O9.N->l≠O1.N->O'.hp l=O9.hp l) ?_ ?_
  ·by_cases h0:i=0
   ·have Lc:((i:Int)==0)=Α:=by simpa using h0
    rw[if_pos h0]at ZG;refine ξ cY Lc ?_;refine VC.qI rfl ?_;refine ξ cY hm9 ?_;refine Γ ?_;refine Υ [81] [1,7,8,9,10,79,80] (λj:Nat=>[mi j]) (λj O'=>j<=(Ζ mM)/\q_ O' (O1.N+1) k bb O1.N ⟨g1,g2,g3⟩ (M++mM.take j) S' t1 t2 O.N/\O9.N<=O'.N/\∀l,l<O9.N->l≠O1.N->O'.hp l=O9.hp l) (λj=>(Ζ mM) - j) (0) ?_ ?_;exact⟨abT _,by rw[List.take_zero,List.append_nil];exact hT9,Rn _,λ_ _ _=>rfl⟩;rintro j fb ⟨hj,D1,wQ,lR⟩;by_cases bu:j<Ζ mM;rotate_left
    ·obtain rfl:j=Ζ mM:=Λ
     rw[List.take_length,ZG]at D1;refine ν cY ?_;exact aE.mk () ⟨D1,wQ,lR⟩
    have ew:=jSx j;have anC:=bY cW mM j bu;have hpm:=aP cW mM;have hdR:=hmn _ (apJ bu);((((have fP:M++mM.take (j+1)=(M++mM.take j)++[mM[j]]:=by rw[an6,List.take_succ_eq_append_getElem bu]);generalize mM[j]=d at*;generalize M++mM.take j=M0 at*;have qZ:=λO'=>yT d O');have ym:=yU hdR.ok;have Y4:(iL (bZ d))=(dm (bZ d)).map .s:=rfl;obtain⟨MD,cm,Cc,VZ,asN⟩:=D1.map;have anD:=D1.cell;have atq:=D1.lt;generalize hK:bZ d=K at*;obtain⟨k1,k2,k3,k4⟩:=K;have fh:=λq=>aes M0 d q);have DE:aG d=[.s d.g,.s d.a,.s d.v,.s d.t,.s d.c,.v (Ι Κ d.s),.v (Ι Κ d.o),.l (Ζ d.x) (d.x.flatMap cI) .av]:=rfl;rw[DE]at anC;simp only[DE,aS,iL,aev,aja]at anD qZ;refine κ cY ?_;refine κ cY ?_;refine Δ (Γ ?_);refine ξ cY anC ?_;refine VC.al ?_;rintro j9 ⟨mD,OK,M5⟩;have asO:=mD.at anD;have Oq:=mD.at Cc;obtain⟨J,hJ⟩:∃J:VH->Prop,∀O',J O' ↔ (j9.N<=O'.N/\∀l,l<j9.N->l≠fb.N->O'.hp l=j9.hp l):=⟨_,λ_=>Iff.rfl⟩);refine VC.tB [7] (fb.N) (J) (OK) (λX=>(hJ _).2 ⟨Rn _,λj _ h=>τ _ _ h⟩) ?_;intro X
    have jH:∀A B:VH,A.Ge B->(A.hp fb.N=φ (.obj X)/\J A)->(B.hp fb.N=φ (.obj X)/\J B):=λA B g h=>by
     have h2:=(hJ _).1 h.2;exact⟨g.at h.1,(hJ _).2 ⟨apH h2.1 g.N,λj h3 h4=>g.at (h2.2 j h3 h4)⟩⟩
    refine ρ 0 cY ?_;refine ρ 1 cY ?_;refine ρ 2 cY ?_;refine δ (m:=.map O1.N) 3 ?_ ?_;rintro O2 ⟨i0,i1⟩;exact dT cY ((((hJ _).1 i1).2 (O1.N+1) Λ Λ).trans asO);simp only[ag];refine ε (m:=.agg [.s d.g,.s d.a,.s d.v,.s d.t,.s d.c,.v (Ι Κ d.s),.v (Ι Κ d.o),.l (Ζ d.x) (d.x.flatMap cI) .av]) 4 (λ_ h=>h.1) (λ_ h=>h) ?_ ?_;exact ez cY;simp only[ag];refine ε (m:=.agg [.s d.g,.s d.a,.s d.v,.s d.t,.s d.c,.v (Ι Κ d.s),.v (Ι Κ d.o),.l (Ζ d.x) (d.x.flatMap cI) .av]) 6 (λ_ h=>h.1) (λ_ h=>h) ?_ ?_;exact ez cY;simp only[ag];have VM:(j9.set fb.N (.obj X)).hp fb.N=φ (.obj X)/\J (j9.set fb.N (.obj X)):=⟨υ _ _ _,(hJ _).2 ⟨Rn _,λj _ h=>τ _ _ h⟩⟩;generalize j9.set fb.N (.obj X)=A0 at*;refine ab.call (i:=5) (qZ A0) ?_;rintro _ A1 ⟨rfl,sA1⟩;simp only[ag];have jA1:=jH _ _ sA1 VM;refine⟨jA1,?_⟩;have hz:=(hJ _).1 jA1.2;have hzn:=hz.1;have hzm:=(hz.2 O1.N Λ Λ).trans Oq;refine ab.tC [(7,.one)] ?_;(((((have hA2:∀l,l<O9.N->(A1.set fb.N (.cells [.s d.g,.s d.a,.s d.v,.s d.t,.s d.c,.v (Ι Κ d.s),.v (Ι Κ d.o),.l (Ζ d.x) (d.x.flatMap cI) .av])).hp l=fb.hp l:=λl hl=>(VH.sx).trans ((hz.2 l Λ Λ).trans (mD.hp l Λ)));have hA3:∀l,l<fb.N->(A1.set fb.N (.cells [.s d.g,.s d.a,.s d.v,.s d.t,.s d.c,.v (Ι Κ d.s),.v (Ι Κ d.o),.l (Ζ d.x) (d.x.flatMap cI) .av])).hp l=fb.hp l:=λl hl=>(VH.sx).trans ((hz.2 l Λ Λ).trans (mD.hp l Λ)));have at4:(A1.set fb.N (.cells [.s d.g,.s d.a,.s d.v,.s d.t,.s d.c,.v (Ι Κ d.s),.v (Ι Κ d.o),.l (Ζ d.x) (d.x.flatMap cI) .av])).N=A1.N:=rfl;generalize (A1.set fb.N (.cells [.s d.g,.s d.a,.s d.v,.s d.t,.s d.c,.v (Ι Κ d.s),.v (Ι Κ d.o),.l (Ζ d.x) (d.x.flatMap cI) .av]))=A2' at*;have asP:=(hA3 O1.N Λ).trans Cc;refine ae cY ?_;refine VL.vP rfl rfl (vO.kY sA (l:=dm ⟨k1,k2,k3,k4⟩) (b:=O1.N) (ck:=cm) (M:=MD) Tryz.underlying101 rfl asP VZ rfl rfl ym rfl) (λbrk hb=>by cases hb) (WL.sound aa ?_);have qO:=uO (y:=.agg (aG d)) (ck:=cm) VZ (l:=dm ⟨k1,k2,k3,k4⟩) rfl ym;refine ο cY ew ?_;refine aw.N (j+1) ⟨bu,?_,?_,?_⟩);rw[fP];((refine D1.mg (by show fb.N<=A2'.N;omega) ⟨_,_,υ _ _ _,qO,λq=>?_⟩ (λe he=>?_) λl h1 h2=>(τ _ _ h2).trans (hA3 l h1));rw[JS,fh,asN,hK];by_cases e:(⟨k1,k2,k3,k4⟩:Ky)=q;subst e;rw[if_pos rfl,if_pos rfl];rfl;rw[if_neg e,if_neg (λe2=>e (aeq e2).symm)]);rcases apG.1 he with he | he;exact D1.mr e he;rw[ai9.1 he];exact hdR);show O9.N<=A2'.N;omega);intro l h1 h2;rw[τ _ _ h2,hA2 l h1];exact lR l h1 h2
   ·have Lc:((i:Int)==0)=γ:=by simpa using h0
    rw[if_neg h0]at ZG;subst ZG;refine ο cY Lc ?_;exact aE.mk () ⟨hT9,Rn _,λ_ _ _=>rfl⟩
  rintro _ fb ⟨D1,wQ,lR⟩;(((have aiR:BW fb A B2 k bb md Z m2:=hB9.mv wQ λl h1 h2=>lR l h1 Λ);have N0:=(lR _ Λ Λ).trans kK;have Wc:dC (λi=>(A.1<=i/\i<B2/\i≠A.2)\/i=md) O fb:=⟨Λ,λl h1 h2=>(lR l Λ Λ).trans (jG.2 l h1 h2)⟩;have Oo:=(lR O8.N Λ Λ).trans hm9;clear hT9 hB9 kK jG hm9 hp9 lR;refine ξ cY Oo ?_;have atr:=wQ;refine Γ ?_;refine Υ [96] [1,7,8,9,94,95] (λx:Nat×j_×Tok×Tok=>[mi x.1]) (λx O'=>x.1<=(Ζ mN)/\V_ x.2.1/\x.2.1.1[i]?=φ b/\fp (mz Z ⟨g1,g2,g3⟩ MN i b (mN.drop x.1) x.1 x.2.1) (λS'=>mW Z ⟨g1,g2,g3⟩ (4999 - i) (i+1) MN S' m2)=R/\q_ O' (O1.N+1) k bb O1.N ⟨g1,g2,g3⟩ MN x.2.1 x.2.2.1 x.2.2.2 O.N/\BW O' A B2 k bb md Z m2/\O'.hp (O.N+1)=O5.hp (O.N+1)/\fb.N<=O'.N/\dC (λi=>(A.1<=i/\i<B2/\i≠A.2)\/i=md) O O') (λx=>(Ζ mN) - x.1) ((0,S',t1,t2)) ?_ ?_);exact⟨abT _,LV,hb,vd,D1,aiR,N0,Rn _,Wc⟩);rintro⟨j,S2,ta,tb⟩ Oa ⟨hj,Wd,Tu,Rh,We,hBa,hba,hna,KW⟩;dsimp only at hj Wd Tu Rh We ⊢;have hii:=(ahB.1 Tu).1;by_cases bu:j<Ζ mN;rotate_left
  ·obtain rfl:j=Ζ mN:=Λ
   rw[List.drop_length,mz]at Rh;dsimp only[fp]at Rh;refine ν cY ?_;exact aE.mk (S2,ta,tb,MN,m2) ⟨hii,Wd,Rh,We,hBa,hba,Λ,KW⟩
  have ew:=jSx j;have anE:=bY pQ mN j bu;have cZ:=hnn _ (apJ bu);rw[an3 bu,mz]at Rh;generalize mN[j]=n at*;(have Ty:=λ(O':VH)(u:Oa.Ge O')=>aiK (We.ge u) (by have:=u.N;omega) (hBa.ge u).st V4 Tu j n cZ Wd.x Wd.l);have hinv:=λS3 (h:pR Z ⟨g1,g2,g3⟩ MN S2 i b j n= .ok S3)=>ZQ h hZo We.mr cZ Wd Tu
  have hNe:=OJ Z ⟨g1,g2,g3⟩ MN S2 i b j n;generalize pR Z ⟨g1,g2,g3⟩ MN S2 i b j n=RN at*;obtain⟨⟨k1,k2,k3,k4⟩,⟨r1,r2,r3⟩,s,o,x⟩:=n;simp only[eK,iL,jo,aq,bg,aev,aja]at anE Ty;have at5:=aP pQ mN;refine κ cY ?_;refine κ cY ?_;refine Δ (Γ ?_);refine ξ cY anE ?_;refine VC.al ?_;rintro j9 ⟨mD,OK,M5⟩;refine ξ cY OK ?_;refine π (Ty j9 mD) ?_;intro m Ke Ri;have atu:=mD.N;cases RN with
  | error p=>
    dsimp only[fp]at Ri Rh;subst Rh;obtain⟨rfl,Bk⟩:=Ri;have hE:=Ai (hNe.ne p rfl);have m9:=wm p;rw[hE]at m9;have aiV:=(mD.trans Bk).at (hba.trans dX);have amk:=Bk.N;simp only[gV,ja,aq]at m9 ⊢;refine ae cY ?_;refine VC.al ?_;rintro LJ ⟨Kx,abM,Uw⟩;have asQ:=Kx.at aiV;refine ο cY abM ?_;refine VL.ud aa (bb:=Α) (b:=γ) z10 z24 (.inr ⟨rfl,rfl⟩) m9 z11 rfl rfl rfl rfl ?_;refine ae cY ?_;refine WC.bM .any [(1,.au),(0,.one),(2,.one)] ?_;refine aF cY abM asQ ?_;exact(((KW.ge mD).ge Bk).ge Kx).set (.inl Λ) _
  | ok S3=>
    dsimp only[fp]at Ri Rh;obtain⟨rfl,Vi,tb',asR,amk,anF⟩:=Ri;obtain⟨asS,cE⟩:=hinv S3 rfl;have fP:∀l,l<O.N->l≠O1.N+1/\Tok.id ta≠φ l/\Tok.id tb≠φ l:=λl h1=>⟨Λ,λe=>by have:=(App.iM We.a1 e).1;omega,λe=>by have:=(App.iM We.a2 e).1;omega⟩
    have abN:∀l,l<O.N->Ke.hp l=Oa.hp l:=λl h1=>by
     obtain⟨u1,u2,u3⟩:=fP l h1;rw[anF l Λ u1 u2 u3,mD.hp l Λ]
    have ca:∀l,l<Oa.N->Oa.hp l≠φ .tok->l≠O1.N+1->Ke.hp l=Oa.hp l:=λl h1 h2 h3=>by
     rw[anF l Λ h3 (λe=>h2 (App.tok We.a1 e)) (λe=>h2 (App.tok We.a2 e)),mD.hp l Λ]
    have aiV:=(ca (O.N+1) Λ (by rw[hba,dX];simp) Λ).trans (hba.trans dX);simp only[gV,ja,aq];refine ae cY ?_;refine VC.al ?_;rintro LJ ⟨Kx,abM,Uw⟩;refine ο cY abM ?_;refine VL.ud aa (bb:=γ) (b:=Α) z10 z24 (.inr ⟨rfl,rfl⟩) z11 z11 rfl rfl rfl rfl ?_;refine ae cY ?_;refine ο cY ew ?_;refine aw.N (j+1,S3,Vi,tb') ⟨bu,asS,cE,Rh,asR.ge Kx,(hBa.mv Λ λl hl e=>abN l Λ).ge Kx,?_,Λ,dC.ge ⟨by have:=KW.1;omega,λl h1 h2=>(abN l h1).trans (KW.2 l h1 h2)⟩ Kx⟩;rw[Kx.hp _ Λ,aiV,dX]
 rintro⟨S',t1,t2,M,mx⟩ O6 ⟨EU,rfl,BY,kH,mQ,rK,LV⟩;have xt:=EU.cell;simp only[aS,aev,aja]at xt;rw[dX]at kH;refine θ (aF cY xt kH ?_);refine ν cY ?_;exact⟨rK.set (.inl Λ) _,⟨t1,rfl⟩,BY.mv (Rn _) λi _ hi=>VH.sx,LV⟩
def cO:=TR cY<|TR T46<|TR T3 T29
def gM(L:Χ):Η:=L.map λx=>.v (Ι Κ x)
def pX(L:Χ):(gM L).length=Ζ L:=an5 _
def OM(A B:Χ):gM (A++B)=gM A++gM B:=as0 ..
def Kz(L:Χ)(h:i<Ζ L):(gM L)[i]?=φ (.v (Ι Κ L[i])):=by
 unfold gM;rw[List.getElem?_map,Ro h];rfl
def Wf{α :Type}(P Q:List α)(x y: α)(h:Ζ P=i):(P++x::Q).set i y=P++y::Q:=by
 subst h;rw[List.set_append_right _ _ (Rn _),asl,List.set_cons_zero]
def Wg{α :Type}(P Q:List α)(x: α)(h:Ζ P=i):(P++x::Q)[i]?=φ x:=by
 subst h;rw[List.getElem?_append_right (Rn _),asl,asc]
def apC{c:Nat}{sp:Η}(X:Χ)(h:O.hp k=φ (.cells (gM X++sp)))(hk:k<O.N)(hn:Ζ X=n+1)(hm:n<=1000000):VF Ε 19 [.bk k 0 (n+1) c] O (aC λ_ O'=>O'.hp k=φ (.cells (gM X.reverse++sp))/\aL O (φ k) O'/\O'.N=O.N):=by
 have sN:(((n+1:Nat):Int) - 1)=(n:Int):=Λ
 refine ω 28 [] func19 ?_;refine ξ cO sN ?_;refine Γ ?_;refine Υ [2,3] [0] (λx:Nat×Nat×Χ×Χ×Χ=>[mi x.1,mi x.2.1]) (λx O'=>Ζ x.2.2.1=x.1/\(Ζ x.2.2.2.2)=x.1/\(Ζ x.2.2.2.1)+x.1=x.2.1+1/\x.1+x.2.1=n/\X=x.2.2.1++x.2.2.2.1++x.2.2.2.2/\O'.hp k=φ (.cells (gM (x.2.2.2.2.reverse++x.2.2.2.1++x.2.2.1.reverse)++sp))/\aL O (φ k) O'/\O'.N=O.N) (λx=>x.2.1) ((0,n,[],X,[])) ?_ ?_;exact⟨rfl,rfl,hn,Nat.zero_add _,z10,by simpa using h,aL.refl _ _,rfl⟩;rintro⟨i,j,A,M,B⟩ O2 ⟨hA,hB,hM,nj,hX,hc,hu,oa⟩;dsimp only at hA hB hM nj hX hc ⊢;by_cases bI:i<j;rotate_left
 ·have hMr:M.reverse=M:=by
   match M,hM with
   | [],_=>rfl
   | [a],_=>rfl
   | a::b::r,h=>simp only[apF]at h;omega
  have hXr:X.reverse=B.reverse++M++A.reverse:=by rw[hX,apI,apI,hMr,an6]
  rw[hXr];refine ν cO ?_;exact⟨hc,hu,oa⟩
 obtain⟨a,M',b,rfl⟩:∃a M' b,M=a::(M'++[b]):=by
  cases M with
  | nil=>simp only[ai8]at hM;omega
  | cons a M=>
    (have hne:M≠[]:=λe=>by subst e;simp only[apF,ai8]at hM;omega);exact⟨a,M.dropLast,M.getLast hne,by rw[List.dropLast_concat_getLast]⟩
 simp only[List.length_cons,List.length_append,List.length_nil]at hM;have yS:=jSx i;have ew:((j:Int) - 1)=((j - 1:Nat):Int):=Λ
 have gK:O2.hp k=φ (.cells (gM B.reverse++ .v (Ι Κ a)::(gM M'++ .v (Ι Κ b)::(gM A.reverse++sp)))):=by rw[hc];simp[gM]
 have hP:(gM B.reverse).length=i:=by rw[pX,List.length_reverse,hB]
 have hR:(gM M').length=Ζ M':=pX _;have tG:gM B.reverse++ .v (Ι Κ b)::(gM M'++ .v (Ι Κ a)::(gM A.reverse++sp))=gM ((b::B).reverse++M'++(A++[a]).reverse)++sp:=by simp[gM]
 generalize gM B.reverse=P at*;generalize gM M'=R at*;generalize gM A.reverse++sp=T at*;have g1:=Wg P (R++ .v (Ι Κ b)::T) (.v (Ι Κ a)) hP
 have g2:(P++ .v (Ι Κ a)::(R++ .v (Ι Κ b)::T))[j]?=φ (.v (Ι Κ b)):=by
  have:=Wg (P++ .v (Ι Κ a)::R) T (.v (Ι Κ b)) (i:=j) (by rw[ai_,apF];omega)
  rwa [an6,aev]at this
 have s1:((P++ .v (Ι Κ a)::(R++ .v (Ι Κ b)::T)).set i (.v (Ι Κ b))).set j (.v (Ι Κ a))=P++ .v (Ι Κ b)::(R++ .v (Ι Κ a)::T):=by
  rw[Wf _ _ _ _ hP];have:=Wf (P++ .v (Ι Κ b)::R) T (.v (Ι Κ b)) (.v (Ι Κ a)) (i:=j) (by rw[ai_,apF];omega)
  rwa [an6,an6,aev,aev]at this
 have hCl:(P++ .v (Ι Κ a)::(R++ .v (Ι Κ b)::T):Η).length=n+1+(Ζ T) - i:=by simp;omega
 generalize (P++ .v (Ι Κ a)::(R++ .v (Ι Κ b)::T):Η)=C at*;clear hc;refine κ cO ?_;refine Δ (Γ ?_);refine WC.bM .any [(0,.au),(1,.au),(2,.au),(3,.au),(4,.au),(5,.au),(6,.au),(8,.au),(9,.au),(10,.au),(7,.fk),(11,.one),(12,.au),(13,.one),(14,.au),(15,.one)] ?_;refine ae cO ?_;refine VL.IC (m1:=.v (Ι Κ b)) (m2:=.v (Ι Κ a)) ?_ ?_ (WL.sound aa ?_);exact xi cO gK @g1 @g2;exact xi cO gK @g1 @g2;refine bo cO gK @g1 @g2 ?_;refine ι (aF cO yS ew ?_);refine aw.N (i+1,j - 1,A++[a],M',b::B) ⟨by simp[hA],by simp[hB],by dsimp only;omega,by dsimp only;omega,by dsimp only;rw[hX];simp,?_,(hu.trans aL.set).trans aL.set,oa⟩;rw[υ];exact congrArg _ (congrArg _ (s1.trans tG))
def alj(t:Tok)(O:VH):VF Ε 19 [.l 0 [] t] O (aC λ_ O'=>O'=O):=by
 refine ω 28 [] func19 ?_;refine κ cO ?_;refine Γ ?_;refine Υ [2,3] [0] (λ_:Unit=>[mi 0,mi (-1)]) (λ_ O'=>O'=O) (λ_=>0) (()) ?_ ?_;rfl;rintro _ O2 eO;rw[eO];clear eO O2;refine ν cO ?_;try trivial
def aiW(k c:Nat)(O:VH):VF Ε 19 [.bk k 0 0 c] O (aC λ_ O'=>O'=O):=by
 refine ω 28 [] func19 ?_;refine κ cO ?_;refine Γ ?_;refine Υ [2,3] [0] (λ_:Unit=>[mi 0,mi (-1)]) (λ_ O'=>O'=O) (λ_=>0) (()) ?_ ?_;rfl;rintro _ O2 eO;rw[eO];clear eO O2;refine ν cO ?_;try trivial
def Al(h:pU N)(k:Nat):(fT N k).length<=k:=by
 induction k using Nat.strongRecOn with
 | _ k ih=>
   rcases Nat.eq_zero_or_pos k with rfl | hk;exact Rn _
   ·cases hc:N[k]? with
    | none=>
      unfold fT;rw[zw,if_pos Λ,an7,hc];exact abT _
    | some c=>
      obtain⟨a1,a2,_⟩:=h.p k c hc hk;have:=ih c.up.toNat Λ;rw[pW h hk hc,ai_,an2];omega
def GR.geQ{el:TypeId}{p:MV}{X:Η}(h:GR O1 el sz B p n X)(hg:O.Ge O1)(hB:O.N<=B)(u:aL O1 (gid p) O2):O.Ge O2:=by
 rcases h with⟨_,_,rfl | rfl⟩ | ⟨k,c,rfl,_,_,hr⟩;exact aL.geN hg u;exact aL.geN hg u;exact aL.ge hg u (apH hB hr.lo)
def aiX(h:pU N)(tk:Tok)(i:Nat)(O:VH)(hi:i<Ζ N)(hN:Ζ N<=4096):VF Ε 8 [.l (Ζ N) (N.flatMap ij) tk,mi i] O (aC λm O'=>O.Ge O'/\GR O' 3 1 O.N m (fT N i).length (gM (fT N i))):=by
 have hlen:=aP dY N;refine ω 29 [.tmp 4] func8 ?_;refine κ cO ?_;refine Ξ [4] (λx:MV×Χ=>[x.1]) (λx O'=>O.Ge O'/\GR O' 3 1 O.N x.1 (Ζ x.2) (gM x.2)/\fT N i=x.2.reverse) ?_ ?_
 ·refine Γ ?_;refine Υ [1,4] [0] (λx:Nat×MV×Χ=>[mi x.1,x.2.1]) (λx O'=>x.1<(Ζ N)/\(Ζ x.2.2)+x.1<=i/\O.Ge O'/\GR O' 3 1 O.N x.2.1 (Ζ x.2.2) (gM x.2.2)/\fT N i=fT N x.1++x.2.2.reverse) (λx=>x.1) ((i,.l 0 [] .nil,[])) ?_ ?_;exact⟨hi,z10,VH.Ge.refl _,.inl ⟨rfl,rfl,.inl rfl⟩,z10⟩;rintro⟨j,p,L⟩ O2 ⟨hj,hl,ax,fR,hP⟩;dsimp only at hj hl fR hP ⊢;by_cases h0:0<j;rotate_left
  ·obtain rfl:j=0:=Λ
   rw[Gn,aja]at hP;refine ν cO ?_;exact aE.mk (p,L) ⟨ax,fR,hP⟩
  have hb:=Ro hj;obtain⟨b1,b2,b0,_⟩:=h.p j _ hb h0;(((((have Kv:(N.flatMap ij)[j*13+2]?=φ (mi N[j].od):=by simpa using dP (sp:=[]) dY hb (i:=2) rfl);have kF:(N.flatMap ij)[j*13]?=φ (mi N[j].up):=by simpa using dP (sp:=[]) dY hb (i:=0) rfl);rw[pW h h0 hb]at hP;generalize N[j]=b at*;obtain⟨u,hu⟩:∃u:Nat,b.up=u:=⟨b.up.toNat,Λ⟩);generalize b.od=od at*;rw[hu]at b1 b2 kF hP;rw[an7]at hP;simp only[aq]at Kv kF;refine κ cO ?_;refine Γ ?_;refine ξ cO Kv ?_;refine VL.grow aa (.inl rfl) (te:=⟨_,1,8,_⟩) (dx:=.slice 3) (q:=.l 1 [.v (Ι Κ od)] .full) (j:=1) (ds:=[.v (Ι Κ od)]) fR rfl rfl (by rw[T46];rfl) T3 (by rw[T46];rfl) trivial z18 z13 z31 rfl rfl rfl rfl ?_;intro m O4 GU cC AW DC;refine ae cO ?_;refine ο cO kF ?_;refine aw.N (u,m,L++[od]) ⟨by dsimp only;omega,by simp;omega,fR.geQ ax (Rn _) cC,?_,?_⟩);rw[OM,ai_];exact GU);rw[hP];simp
 rintro⟨p,L⟩ O2 ⟨ax,fR,hP⟩;have hle:=Al h i;rw[hP]at hle ⊢;rw[List.length_reverse]at hle ⊢;dsimp only at fR hle ⊢;have anG:=fR;rcases fR with⟨h0,h1,h2⟩ | ⟨k,c,rfl,hc,hl,hr⟩
 ·obtain rfl:L=[]:=List.eq_nil_of_length_eq_zero h0;rcases h2 with rfl | rfl
  all_goals
   refine κ cO ?_;refine π (alj _ O2) ?_;rintro _ O3 rfl;refine ae cO ?_;refine ν cO ?_;exact⟨ax,anG⟩
 obtain⟨sp,ju,lU⟩:=hr.cells;cases L with
 | nil=>
   refine κ cO ?_;refine π (aiW k c O2) ?_;rintro _ O3 rfl;refine ae cO ?_;refine ν cO ?_;exact⟨ax,anG⟩
 | cons x L'=>
   refine κ cO ?_;refine π (apC (x::L') ju hr.hi rfl (by simp at hle;omega)) ?_;rintro _ O3 ⟨h3,cx,ea⟩;refine ae cO ?_;refine ν cO ?_;refine⟨aL.ge ax cx hr.lo,.inr ⟨k,c,rfl,hc,by simp[gM],hr.to cx h3 ?_⟩⟩;rw[<-lU];simp[gM];omega
def Wh(h:pU N)(tk:Tok)(i:Nat)(O:VH)(hi:i<Ζ N)(hN:Ζ N<=4096):VF Ε 8 [.l (Ζ N) (N.flatMap ij) tk,mi i] O (aC λm O'=>O.Ge O'/\∃t,m= .l (fT N i).length (gM (fT N i)) t):=by
 have cz:=pX (fT N i);refine VF.JN (aiX h tk i O hi hN) ?_;rintro m O' ⟨hg,hr⟩;rcases hr with⟨h0,h1,h2⟩ | ⟨k,c,rfl,_,_,hr⟩;rw[h0,h1];rcases h2 with rfl | rfl;exact .inl ⟨hg,_,rfl⟩;exact .inl ⟨hg,_,rfl⟩;obtain⟨sp,h1,_⟩:=hr.cells;refine .inr ⟨k,0,_,c,(fT N i).length,_,rfl,h1,by rw[ai_,cz];omega,hg.kill hr.lo,if c=(fT N i).length then .full else .av,?_⟩;rw[ats, <-cz,List.take_left'];rfl
def aiY(h:pU N)(tk:Tok)(hN:Ζ N<=4096):∀(i:Nat)(O:VH),i<(Ζ N)->VF Ε 10 [.l (Ζ N) (N.flatMap ij) tk,mi i] O (aC λm O'=>O.Ge O'/\∃t,m= .l (fT N i).length (gM (fT N i)) t/\App O' O.N 1 t):=by
 intro i;induction i using Nat.strongRecOn with
 | _ i ih=>
 intro O hi;have hlen:=aP dY N;by_cases h0:0<i;rotate_left
 ·obtain rfl:i=0:=Λ
  refine ω 27 [.tmp 4] func10 ?_;refine κ cO ?_;refine κ cO ?_;exact⟨VH.Ge.refl _,.nil,rfl,trivial⟩
 have hb:=Ro hi;obtain⟨b1,b2,b0,_⟩:=h.p i _ hb h0;have Kv:(N.flatMap ij)[i*13+2]?=φ (mi N[i].od):=by simpa using dP (sp:=[]) dY hb (i:=2) rfl
 have kF:(N.flatMap ij)[i*13]?=φ (mi N[i].up):=by simpa using dP (sp:=[]) dY hb (i:=0) rfl
 rw[pW h h0 hb];generalize N[i]=b at*;obtain⟨u,hu⟩:∃u:Nat,b.up=u:=⟨b.up.toNat,Λ⟩
 generalize b.od=od at*;rw[hu]at b1 b2 kF ⊢;rw[an7];have hp:=λO'=>ih u Λ O' Λ
 have hle:=Al h u;rw[ai_,OM,an2];have qM:=pX (fT N u);generalize (fT N u).length=pl at*;generalize gM (fT N u)=PM at*;simp only[aq]at Kv kF hp;refine ω 27 [.tmp 4] func10 ?_;refine κ cO ?_;refine κ cO ?_;refine Δ ?_;refine VC.ot [14] ?_;refine auW 0 cO kF ?_;refine auW 1 cO kF ?_;refine auW 2 cO kF ?_;refine auW 3 cO kF ?_;refine auW 4 cO kF ?_;refine auW 5 cO kF ?_;refine auW 7 cO Kv ?_;refine auW 8 cO Kv ?_;refine auW 9 cO Kv ?_;refine auW 10 cO Kv ?_;refine auW 11 cO Kv ?_;refine auS (i:=6) (j:=12) ?_ ?_;refine aQ.iH (hp O) ?_;rintro m O2 ⟨ax,t,rfl,iO⟩;simp only[ag];refine⟨ax,?_⟩;refine ab.op (i:=12) ?_;refine ae cO ?_;refine⟨ax,?_⟩;have cQ:=bE (tk:=t) (tk':=.full) (n:=pl) (k:=1) (cs:=PM) (ds:=[.v (Ι Κ od)]) T46 T3 iO Λ;refine ab.op (i:=13) ?_;rw[eN];refine ak cO cQ ?_;refine⟨ax.after iO (Rn _),?_⟩;refine ab.bM [(14,.au)] ?_;refine ae cO ?_;refine ν cO ?_;exact⟨ax.after iO (Rn _),_,rfl,App.after ax.N⟩;refine aQ.o1 ?_;refine ae cO ?_;refine⟨VH.Ge.refl _,?_⟩;refine ab.one (i:=6) (aQ.iH (hp O) ?_);rintro m O2 ⟨ax,t,rfl,iO⟩;simp only[ag];refine⟨ax,?_⟩;have cQ:=bE (tk:=t) (tk':=.full) (n:=pl) (k:=1) (cs:=PM) (ds:=[.v (Ι Κ od)]) T46 T3 iO Λ;refine ab.op (i:=13) ?_;rw[eN];refine ak cO cQ ?_;refine⟨ax.after iO (Rn _),?_⟩;refine ab.bM [(14,.au)] ?_;refine ae cO ?_;refine ν cO ?_;exact⟨ax.after iO (Rn _),_,rfl,App.after ax.N⟩
def aiZ(A B:Χ)(ta tb:Tok)(O:VH)(hA:Ζ A<=1000000)(hB:Ζ B<=1000000):VF Ε 9 [.l (Ζ A) (gM A) ta,.l (Ζ B) (gM B) tb] O (aC λm O'=>m=mb (kU A B)/\O'=O):=by
 have Aq:=pX A;have um:=pX B;have hAa:=λi h=>Kz A (i:=i) h
 have hBa:=λi h=>Kz B (i:=i) h
 generalize gM A=AM at*;generalize gM B=BM at*;refine ω 39 [.tmp 4] func9 ?_;refine κ cO ?_;refine Ξ [0,1] (λ_:Unit=>[.l (Ζ A) AM ta,.l (Ζ B) BM tb]) (λ_ O'=>O'=O/\kU A B=decide (Ζ A<Ζ B)) ?_ ?_
 ·refine κ cO ?_;refine Γ ?_;refine Υ [8] [0,1,7] (λi:Nat=>[mi i]) (λi O'=>O'=O/\i<=(Ζ A)/\i<=(Ζ B)/\kU A B=kU (A.drop i) (B.drop i)) (λi=>(Ζ A) - i) (0) ?_ ?_;exact⟨rfl,abT _,abT _,rfl⟩;rintro i Ox ⟨eO,hi,hiB,bH⟩;rw[eO];clear eO Ox;by_cases fQ:i<Ζ A;rotate_left
  ·obtain rfl:i=Ζ A:=Λ
   have he:kU A B=decide (Ζ A<Ζ B):=by
    rw[bH,apE (Rn _)];by_cases hl:Ζ A<Ζ B;rw[an3 hl,kU,decide_eq_true hl];rw[apE Λ,kU,decide_eq_false hl]
   refine ν cO ?_;exact aE.mk () ⟨rfl,he⟩
  have yS:=jSx i;have ha:=hAa i fQ;rw[an3 fQ]at bH;refine κ cO ?_;refine κ cO ?_;refine Δ (Γ ?_);by_cases bV:i<Ζ B;rotate_left;rw[apE (l:=B) Λ,kU]at bH;rw[bH];refine κ cO ?_;refine κ cO ?_;(try trivial);have hb:=hBa i bV;rw[an3 bV,kU]at bH;generalize A[i]=x at*;generalize B[i]=y at*;refine κ cO ?_;refine κ cO ?_;refine ι ?_;refine WC.reads ?_;by_cases Qm:x=y
  ·have e1:(x != y)=γ:=by simp[Qm]
   rw[if_pos Qm]at bH;refine bo cO ha hb e1 ?_;refine ο cO yS ?_;exact aw.N (i+1) ⟨rfl,fQ,bV,bH⟩
  ·have e1:(x != y)=Α:=by simpa using Qm
   rw[if_neg Qm]at bH;refine bo cO ha hb e1 ?_;refine ι ?_;refine WC.reads ?_;refine aF cO ha hb ?_;rw[bH]
 rintro _ Ox ⟨eO,bH⟩;rw[eO];clear eO Ox;rw[bH];refine κ cO ?_;refine ν cO ?_;simp
def cH:=TR eR<|TR PK<|TR ue<|TR T53<|TR T4<|TR T3<|TR T5<|TR T55<|TR T57<|TR T22<|TR IF<|TR T9 Eo
def ZT(c:UInt8):((97<=c.toNat/\c.toNat<=122)\/(65<=c.toNat/\c.toNat<=90)\/(48<=c.toNat/\c.toNat<=57)\/c.toNat=46\/c.toNat=45\/c.toNat=95)\/((123<=c.toNat)\/(91<=c.toNat/\c.toNat<=96/\c.toNat≠95)\/(58<=c.toNat/\c.toNat<=64)\/(c.toNat<=47/\c.toNat≠45/\c.toNat≠46)):=Λ
def Wi(s:Bs)(O:VH)(hs:Ζ s<=maxLen):VF Ε 32 [.s s] O (aC λm O'=>(∃b,m=mb b)/\O'=O):=by
 have hm:(Ζ s:Int)<=9223372036854775807:=by simp[maxLen]at hs;omega
 refine χ 57 [.tmp 2] func32 ?_;refine ae cH ?_;refine WC.cj [3] [0] (λj:Nat=>[mi j]) (λj O'=>O'=O/\j<=Ζ s) (λj=>(Ζ s) - j) (0) ?_ ?_;exact⟨rfl,abT _⟩;rintro j O2 ⟨rfl,hj⟩;by_cases h2:j<Ζ s
 ·have hc:=ZT s[j];have pq:=Ro h2;generalize s[j]=c at*;rcases hc with hc | hc
  ·rcases hc with hc | hc | hc | hc | hc | hc
   all_goals
    refine aF cH pq @aA ?_;exact aw.N (j+1) ⟨rfl,Λ⟩
  ·rcases hc with hc | hc | hc | hc
   all_goals
    refine aF cH pq @aA ?_;exact⟨γ,rfl⟩
 ·obtain rfl:j=Ζ s:=Λ
  by_cases h0:0<Ζ s;by_cases BK:Ζ s<65;refine ae cH ?_;exact⟨Α,rfl⟩;refine ae cH ?_;exact⟨γ,rfl⟩;refine ae cH ?_;exact⟨γ,rfl⟩
def ZU(x:Gv)(O:VH)(hx:gG x):VF Ε 23 [.agg (aS x)] O (aC λm O'=>(∃b,m=mb b)/\O.Ge O'):=by
 obtain⟨g,a,v⟩:=x;obtain⟨h1,h2,h3⟩:=hx;dsimp only at h1 h2 h3;simp only[aS];refine ω 16 [.tmp 2] func23 ?_;refine κ cH ?_;refine VC.bx ?_;rintro O1 ⟨aM,dz,dq⟩;refine ξ cH dz ?_;refine π (Wi g O1 h1) ?_;rintro _ O2 ⟨⟨b,rfl⟩,rfl⟩;cases b;refine ak cH dz ?_;refine ν cH ?_;exact⟨⟨_,rfl⟩,aM⟩;refine ak cH dz ?_;refine π (Wi a O2 h2) ?_;rintro _ O3 ⟨⟨b,rfl⟩,rfl⟩;cases b;refine ak cH dz ?_;refine ν cH ?_;exact⟨⟨_,rfl⟩,aM⟩;refine ak cH dz ?_;refine π (akn v O3 h3) ?_;rintro _ O4 ⟨rfl,rfl⟩;refine ak cH dz ?_;refine ν cH ?_;exact⟨⟨_,rfl⟩,aM⟩
def apD(G:List Gv)(t1:Tok)(c2 c3 c4:MV)(hk:O.hp k=φ (.cells [.l (Ζ G) (G.flatMap aS) t1,c2,c3,c4]))(j6:k<O.N)(hG:Ζ G<=1000000)(g:Gv):VF Ε 24 [.p k 0,.agg (aS g)] O (aC λm O'=>(∃z:Int,m=mi z)/\O.Ge O'):=by
 have hlen:=aP nI G;obtain⟨g1,g2,g3⟩:=g;simp only[aS];refine ω 22 [.tmp 4] func24 ?_;refine κ cH ?_;refine VC.bx ?_;rintro O1 ⟨aM,dz,dq⟩;have du:=aM.at hk;have at6:k<O1.N:=an4 j6 aM.N;refine Ξ [] (λ_:Unit=>[]) (λ_ O'=>O.Ge O') ?_ ?_;rotate_left;rintro _ O2 ax;refine κ cH ?_;refine ν cH ?_;exact⟨⟨-1,rfl⟩,ax⟩;refine ξ cH du ?_;refine Γ ?_;refine Υ [12] [3,10,11] (λj:Nat=>[mi j]) (λj O'=>O1.Ge O'/\j<=Ζ G) (λj=>(Ζ G) - j) (0) ?_ ?_;exact⟨VH.Ge.refl _,abT _⟩;rintro j O2 ⟨ax,hj⟩;by_cases bu:j<Ζ G;rotate_left
 ·obtain rfl:j=Ζ G:=Λ
  refine ν cH ?_;exact aE.mk () (aM.trans ax)
 have ew:=jSx j;have bh:=bY nI G j bu;generalize G[j]=y at*;obtain⟨y1,y2,y3⟩:=y;simp only[aS]at bh;have eG:=ax.N;have dQ:=ax.at dz;refine κ cH ?_;refine κ cH ?_;refine Δ (Γ ?_);refine ξ cH bh ?_;refine VC.al ?_;rintro O3 ⟨aB,eH,ea⟩;have ON:=aB.at dQ;refine θ (aF cH eH ON ?_);refine VL.ud aa (bb:=((y1==g1)&&((y2==g2)&&((y3==g3)&&Α)))) (b:=((y1==g1)&&((y2==g2)&&((y3==g3)&&Α)))) z10 z24 (.inl ⟨rfl,rfl⟩) z11 z11 rfl rfl rfl rfl ?_;cases((y1==g1)&&((y2==g2)&&((y3==g3)&&Α)));refine ae cH ?_;refine VC.oc rfl ?_;refine ν cH ?_;refine ο cH ew ?_;exact aw.N (j+1) ⟨ax.trans aB,bu⟩;refine ae cH ?_;refine VC.qI rfl ?_;refine κ cH ?_;refine ν cH ?_;exact⟨⟨j,rfl⟩,(aM.trans ax).trans aB⟩
structure KA(O:VH)(W:Nat->Prop)(k n:Nat):Prop where
 ex:∃(G:List Gv)(T:List Bs)(R:List Bool)(t1 t2 t3:Tok),(Ζ G=n/\(Ζ T)=n/\(Ζ R)=n)/\O.hp k=φ (.cells [.l n (G.flatMap aS) t1,.l n (T.map .s) t2,.l n (R.map mb) t3,mi 0])/\App O 0 3 t1/\App O 0 1 t2/\App O 0 1 t3/\(∀i,Tok.id t1=φ i->W i/\Tok.id t2≠φ i/\Tok.id t3≠φ i)/\(∀i,Tok.id t2=φ i->W i/\Tok.id t3≠φ i)/\(∀i,Tok.id t3=φ i->W i)
 k:W k
 lt:∀i,W i->i<O.N
def App.atW(h:App O B sz tk)(hn:O.N<=O'.N)(hw:∀i,Tok.id tk=φ i->W i)(hi:∀i,W i->O'.hp i=O.hp i):App O' B sz tk:=App.at h hn λi e=>hi i (hw i e)
def KA.mv(h:KA O W k n)(hn:O.N<=O'.N)(hi:∀i,W i->O'.hp i=O.hp i):KA O' W k n:=by
 obtain⟨⟨G,T,R,t1,t2,t3,hl,hc,a1,a2,a3,e1,e2,e3⟩,hk,bI⟩:=h;exact⟨⟨G,T,R,t1,t2,t3,hl,(hi k hk).trans hc,a1.atW hn (λi e=>(e1 i e).1) hi,a2.atW hn (λi e=>(e2 i e).1) hi,a3.atW hn e3 hi,e1,e2,e3⟩,hk,λi h=>an4 (bI i h) hn⟩
def KA.ge(h:KA O W k n)(g:O.Ge O'):KA O' W k n:=h.mv g.N λi e=>g.hp i (h.lt i e)
def alk(h:KA O W k n)(hn:n<1024)(g:Gv)(t:Bs)(gD:gG g):VF Ε 13 [.p k 0,.agg (aS g),.s t] O (aC λm O'=>dC W O O'/\∃W' n',KA O' W' k n'/\n'<=n+1/\∀i,W' i->W i\/O.N<=i):=by
 have Cb:=λO'=>ZU g O' gD
 have bK:=λ(O':VH)(u:O.Ge O')=>h.ge u
 have bh:=λ(O':VH) G t1 c2 c3 c4 h1 h2 h3=>apD (O:=O') (k:=k) G t1 c2 c3 c4 h1 h2 h3 g
 have anH:∀O',O.Ge O'->dC W O O'/\∃W' n',KA O' W' k n'/\n'<=n+1/\∀i,W' i->W i\/O.N<=i:=λO' u=>⟨.dG u,W,n,bK O' u,Nat.le_succ _,λi h=>.inl h⟩
 obtain⟨g1,g2,g3⟩:=g;simp only[aS]at Cb bh ⊢;refine ω 49 [.tmp 6] func13 ?_;refine κ cH ?_;refine VC.bx ?_;rintro O1 ⟨aM,dz,dq⟩;refine ξ cH dz ?_;refine π (Cb O1) ?_;rintro _ O2 ⟨⟨b,rfl⟩,ax⟩;have ei:=aM.trans ax;have eG:=ax.N;have dQ:=ax.at dz;cases b;refine ae cH ?_;exact anH _ ei;refine ae cH ?_;obtain⟨G,T,R,t1,t2,t3,⟨hG,hT,hR⟩,fz,a1,a2,a3,e1,e2,e3⟩:=(bK O2 ei).ex;have J_:=(bK O2 ei).lt;have hW:=h.k;have j6:=h.lt k hW;have w5:=bh O2 G t1 _ _ _ (by rw[hG];exact fz) (J_ k hW) Λ;refine ξ cH dQ ?_;refine π w5 ?_;rintro _ O3 ⟨⟨z,rfl⟩,aB⟩;have dk:=ei.trans aB;have tI:=aB.N;have at7:=J_ k hW;have eH:=aB.at dQ;have en:=aB.at fz;have b1:=a1.ge aB;have b2:=a2.ge aB;have b3:=a3.ge aB;have ea:=dk.N;clear bh w5 Cb fz dQ dz a1 a2 a3;by_cases hz:z>=0;have hd:decide (z>=0)=Α:=decide_eq_true hz;have nS:decide (0<=z)=Α:=decide_eq_true hz;refine aF cH hd nS ?_;exact anH _ dk;have hd:decide (z>=0)=γ:=decide_eq_false hz;have nS:decide (0<=z)=γ:=decide_eq_false hz;refine aF cH hd nS ?_;simp only[aq]at en;have hGl:=aP nI G;have PV:(T.map MV.s).length=n*1:=by rw[an5];omega
 have PQ:(R.map mb).length=n*1:=by rw[an5];omega
 refine ξ cH en ?_;have cQ:=bE (tk:=t1) (tk':=.full) (n:=n) (k:=1) (cs:=G.flatMap aS) (ds:=[.s g1,.s g2,.s g3]) PK Eo.1.1 b1 Λ;have kJ:∀j,j<O3.N->O3.hp j≠φ .tok->(O3.after t1).hp j=O3.hp j:=λj h1 h2=>App.off b1 h1 h2
 have J6:=(kJ k Λ (by rw[en];simp)).trans en;refine Δ ?_;refine WC.bM (.held [10]) [(0,.rd),(1,.rd),(2,.rd),(3,.rd),(4,.rd),(5,.rd),(6,.one),(7,.one),(8,.one),(9,.rd),(10,.one)] ?_;refine aF cH en eH ?_;refine VL.app cQ ?_;refine ak cH J6 ?_;have Fb:=dR.after b1;have YY:(O3.after t1).N=O3.N+1:=VH.fL _ _;have cA1:App (O3.after t1) 0 3 (.own O3.N 3):=App.after (abT _);have cA2:App (O3.after t1) 0 1 t2:=Fb.app b2 (λi e=>(e1 i e).2.1);have cA3:App (O3.after t1) 0 1 t3:=Fb.app b3 (λi e=>(e1 i e).2.2);refine VC.gen ?_;intro O4 e4;have fe:O4.N=O3.N+1:=by rw[e4];exact YY
 have ff:O4.hp k=φ (.cells [.l (n+1) (G.flatMap aS++[.s g1,.s g2,.s g3]) (.own O3.N 3),.l n (T.map .s) t2,.l n (R.map mb) t3,.v (Ι Κ 0)]):=by rw[e4];exact υ _ _ _
 have f4:∀i,i<O3.N->i≠k->Tok.id t1≠φ i->O4.hp i=O3.hp i:=λi h1 h2 h3=>by rw[e4,τ _ _ h2,Fb.hp i h1 h3]
 have d1:App O4 0 3 (.own O3.N 3):=by rw[e4];exact cA1.iV (by rw[J6];simp)
 have d2:App O4 0 1 t2:=by rw[e4];exact cA2.iV (by rw[J6];simp)
 have d3:App O4 0 1 t3:=by rw[e4];exact cA3.iV (by rw[J6];simp)
 clear e4;have w6:=bE (tk:=t2) (tk':=.full) (n:=n) (k:=1) (cs:=T.map .s) (ds:=[.s t]) ue T9 d2 PV;have V7:=(App.off d2 (i:=k) Λ (by rw[ff];simp)).trans ff;refine ξ cH ff ?_;refine VL.app w6 ?_;refine ak cH V7 ?_;have hKB:=dR.after d2;have ZE:(O4.after t2).N=O4.N+1:=VH.fL _ _;have cB1:App (O4.after t2) 0 3 (.own O3.N 3):=hKB.app d1 (λi e e'=>by injection e' with e';have:=(App.iM b2 e).2;omega);have cB2:App (O4.after t2) 0 1 (.own O4.N 1):=App.after (abT _);have cB3:App (O4.after t2) 0 1 t3:=hKB.app d3 (λi e=>(e2 i e).2);refine VC.gen ?_;intro O5 e5;have ie:O5.N=O4.N+1:=by rw[e5];exact ZE
 have fY:O5.hp k=φ (.cells [.l (n+1) (G.flatMap aS++[.s g1,.s g2,.s g3]) (.own O3.N 3),.l (n+1) (T.map .s++[.s t]) (.own O4.N 1),.l n (R.map mb) t3,.v (Ι Κ 0)]):=by rw[e5];exact υ _ _ _
 have f5:∀i,i<O4.N->i≠k->Tok.id t2≠φ i->O5.hp i=O4.hp i:=λi h1 h2 h3=>by rw[e5,τ _ _ h2,hKB.hp i h1 h3]
 have j1:App O5 0 3 (.own O3.N 3):=by rw[e5];exact cB1.iV (by rw[V7];simp)
 have j2:App O5 0 1 (.own O4.N 1):=by rw[e5];exact cB2.iV (by rw[V7];simp)
 have j3:App O5 0 1 t3:=by rw[e5];exact cB3.iV (by rw[V7];simp)
 clear e5;have nD:=bE (tk:=t3) (tk':=.full) (n:=n) (k:=1) (cs:=R.map mb) (ds:=[.v (.bool γ)]) T53 T4 j3 PQ;have hcC:=(App.off j3 (i:=k) Λ (by rw[fY];simp)).trans fY;refine ξ cH fY ?_;refine VL.app nD ?_;refine ak cH hcC ?_;have hKC:=dR.after j3;have hnC:(O5.after t3).N=O5.N+1:=VH.fL _ _;have cC1:App (O5.after t3) 0 3 (.own O3.N 3):=hKC.app j1 (λi e e'=>by injection e' with e';have:=(App.iM b3 e).2;omega);have cC2:App (O5.after t3) 0 1 (.own O4.N 1):=hKC.app j2 (λi e e'=>by injection e' with e';have:=(App.iM b3 e).2;omega);have cC3:App (O5.after t3) 0 1 (.own O5.N 1):=App.after (abT _);refine VC.gen ?_;intro O6 e6;have mQ:O6.N=O5.N+1:=by rw[e6];exact hnC
 have xt:O6.hp k=φ (.cells [.l (n+1) (G.flatMap aS++[.s g1,.s g2,.s g3]) (.own O3.N 3),.l (n+1) (T.map .s++[.s t]) (.own O4.N 1),.l (n+1) (R.map mb++[.v (.bool γ)]) (.own O5.N 1),.v (Ι Κ 0)]):=by rw[e6];exact υ _ _ _
 have f6:∀i,i<O5.N->i≠k->Tok.id t3≠φ i->O6.hp i=O5.hp i:=λi h1 h2 h3=>by rw[e6,τ _ _ h2,hKC.hp i h1 h3]
 have l1:App O6 0 3 (.own O3.N 3):=by rw[e6];exact cC1.iV (by rw[hcC];simp)
 have l2:App O6 0 1 (.own O4.N 1):=by rw[e6];exact cC2.iV (by rw[hcC];simp)
 have l3:App O6 0 1 (.own O5.N 1):=by rw[e6];exact cC3.iV (by rw[hcC];simp)
 clear e6;refine ν cH ?_;refine⟨⟨Λ,λi hi VV=>?_⟩,λi=>W i\/(O.N<=i/\i<O6.N),n+1,⟨⟨G++[⟨g1,g2,g3⟩],T++[t],R++[γ],_,_,_,⟨by simp[hG],by simp[hT],by simp[hR]⟩,?_,l1,l2,l3,λi e=>?_,λi e=>?_,λi e=>?_⟩,.inl hW,λi hi=>?_⟩,Rn _,λi hi=>hi.imp id And.left⟩
 ·have hk:i≠k:=λe=>VV (e▸hW)
  rw[f6 i Λ hk (λe=>VV (e3 i e)),f5 i Λ hk (λe=>VV (e2 i e).1),f4 i Λ hk (λe=>VV (e1 i e).1)];exact dk.hp i hi
 ·rw[xt];simp[aS,aq,bg]
 ·injection e with e;subst e;exact⟨.inr ⟨Λ,Λ⟩,λe=>by injection e with e;omega,λe=>by injection e with e;omega⟩
 ·injection e with e;subst e;exact⟨.inr ⟨Λ,Λ⟩,λe=>by injection e with e;omega⟩
 ·injection e with e;subst e;exact .inr ⟨Λ,Λ⟩
 ·rcases hi with hi | hi;have:=h.lt i hi;omega;exact hi.2
structure uB(O:VH)(U:Nat->Prop)(k:Nat)(S:List (Gv×Bs)):Prop where
 lt:∀i,U i->i<O.N
 ok:∀x∈S,iq x.1=Α/\(Ζ x.2)<=65536
 ex:∃(L:List (Gv×Bs×Bool))(E V:gx)(ke kv ce cv:Nat)(r a:Int),S=L.map (λx=>(x.1,x.2.1))/\Dy O k L E V ke kv ce cv r a/\(U k/\U ke/\U kv)/\(∀p∈E,∀q,p.2.1= .p q 0->U q)/\(∀p∈V,∀n cs tk x,p.2.1= .l n cs tk->Tok.id tk=φ x->U x)/\(∀l:List Bs,Ζ l=2->∃tk,uN γ (.l 0 [] .nil) (fD l V)= .l (gL S l).length ((gL S l).map .s) tk)
def uB.mv(h:uB O U k S)(hn:O.N<=O'.N)(hi:∀i,U i->O'.hp i=O.hp i):uB O' U k S:=by
 obtain⟨bI,bH,L,E,V,ke,kv,ce,cv,r,a,hS,hs,⟨u1,u2,u3⟩,uq,ut,hv⟩:=h;refine⟨λi h=>an4 (bI i h) hn,bH,L,E,V,ke,kv,ce,cv,r,a,hS,⟨hs.st.of hn (hi _ u1) (hi _ u2) (hi _ u3),hs.len,λi g t o e=>?_,hs.dis,⟨λp hp=>?_,hs.mf.one⟩⟩,⟨u1,u2,u3⟩,uq,ut,hv⟩;obtain⟨q,c,h1,h2,h3⟩:=hs.G6 i g t o e;exact⟨q,c,h1,Λ,(hi q (uq _ (List.mem_of_getElem? h1) q rfl)).trans h3⟩
 ·obtain⟨n,cs,tk,h1,h2,h3,h4,h5⟩:=hs.mf.row p hp;refine⟨n,cs,tk,h1,h2,h3,?_,h5⟩;cases tk with
  | own t j=>exact⟨h4.1,(hi t (ut p hp _ _ _ t h1 rfl)).trans h4.2.1,h4.2.2.1,by have:=h4.2.2.2;omega⟩
  | nil=>trivial
  | full=>trivial
  | av=>exact h4.elim
def uB.ge(h:uB O U k S)(g:O.Ge O'):uB O' U k S:=h.mv g.N λi e=>g.hp i (h.lt i e)
def uB.toG(h:uB O U k S)(hA:∀i,U i->A.1<=i/\i≠A.2):o5 O A O.N k S:=by
 obtain⟨bI,bH,L,E,V,ke,kv,ce,cv,r,a,hS,hs,⟨u1,u2,u3⟩,uq,ut,hv⟩:=h;have hU:∀i,U i->A.1<=i/\i<O.N/\i≠A.2:=λi h=>⟨(hA i h).1,bI i h,(hA i h).2⟩
 exact⟨Rn _,bH,L,E,V,ke,kv,ce,cv,r,a,hS,hs,⟨hU _ u1,hU _ u2,hU _ u3,λp hp q e=>hU _ (uq p hp q e),λp hp n cs tk x e e2=>hU _ (ut p hp n cs tk x e e2),hv⟩⟩
def abO(h:uB O U k S)(hS:Ζ S<1024)(g:Gv)(t:Bs)(gD:gG g)(ht:Ζ t<=65536):VF Ε 12 [.p k 0,.agg (aS g),.s t] O (aC λm O'=>m=mi (Gd S g)/\dC U O O'/\∃U',uB O' U' k (Bf S g t)/\∀i,U' i->U i\/O.N<=i):=by
 have bK:=λ(O':VH)(u:O.Ge O')=>h.ge u
 obtain⟨asU,bH,L,E,V,ke,kv,ce,cv,r,a,hSL,hs,⟨u1,u2,u3⟩,uq,ut,hvv⟩:=h;have iw:=hs.any g;rw[<-hSL]at iw;cases hm:iq g with
 | false=>
   refine VF.lG (aa8 hs g t gD (.inl hm)) ?_;rintro m O' ⟨rfl,hg⟩;unfold Bf Gd;rw[hm];exact⟨rfl,.dG hg,U,bK O' hg,λi h=>.inl h⟩
 | true=>
   cases hh:S.any (·.1==g)with
   | true=>
     rw[hh]at iw;refine VF.lG (aa8 hs g t gD (.inr iw)) ?_;rintro m O' ⟨rfl,hg⟩;unfold Bf Gd;rw[hm,hh];exact⟨rfl,.dG hg,U,bK O' hg,λi h=>.inl h⟩
   | false=>
     have cZ:∀x∈L,x.1≠g:=λx hx e=>by
      have:=List.any_eq_false.1 hh (x.1,x.2.1) (by rw[hSL];exact List.mem_map.2 ⟨x,hx,rfl⟩);exact this (by simp[e])
     refine VF.lG (ao1 hs g t hm gD cZ (by rw[hSL,an5]at hS;exact hS)) ?_;rintro m O' ⟨rfl,⟨q,x,n,cs,tk,ce',cv',mF,hq,hx,Pr,uv⟩,Pc⟩;((have Lw:Gd S g=0:=by unfold Gd;rw[hm,hh];rfl);have E8:Bf S g t=S++[(g,t)]:=by unfold Bf;rw[if_pos Lw]);rw[Lw,E8];have bI:=Pr.st.lt;obtain⟨tkv,hvk⟩:=hvv (jY ⟨g.g,g.a⟩) rfl;have KB:=mF;rw[mF]at hvk;injection hvk with e1 e2 e3;subst e1;subst e2;subst e3
     have fP:∀i,Tok.id tk=φ i->U i:=λi e=>by
      unfold uN fD at KB;cases hf:List.find? (λx=>x.1==jY ⟨g.g,g.a⟩) V with
      | none=>rw[hf]at KB;injection KB with _ _ KB;subst KB;cases e
      | some p=>
        rw[hf]at KB;exact ut p (List.mem_of_find?_eq_some hf) _ _ _ i KB e
     refine⟨rfl,⟨Pc,λi hi hn=>uv i hi (λe=>hn (e▸u2)) (λe=>hn (e▸u3)) (λe=>hn (fP i e))⟩,λi=>U i\/(O.N<=i/\i<O'.N),⟨λi h=>?_,?_,L++[(g,t,γ)],_,_,ke,kv,ce',cv',r,a,?_,Pr,⟨.inl u1,.inl u2,.inl u3⟩,λp hp q' e=>?_,λp hp n' cs' tk' y e e2=>?_,λl hl=>?_⟩,λi h=>h.imp id And.left⟩;rcases h with h | h;exact an4 (asU i h) Pc;exact h.2;intro x hx;rcases apG.1 hx with hx | hx;exact bH x hx;rw[ai9.1 hx];exact⟨hm,ht⟩;rw[hSL,as0];rfl;obtain⟨i,hi,rfl⟩:=List.mem_iff_getElem.1 hp;(((((have YT:i<(L++[(g,t,γ)]).length:=by rw[<-Pr.len];exact hi);obtain⟨q2,c2,k1,k2,_⟩:=Pr.G6 i _ _ _ (Ro YT);rw[Ro hi]at k1;injection k1 with k1;rcases apG.1 hp with hp | hp);exact .inl (uq _ hp q' e));rw[ai9.1 hp]at e k1;injection e with e;injection k1 with _ k1;injection k1 with k1;injection k1 with k1;exact .inr Λ);obtain⟨n2,Qc,S8,k1,_,_,k4,_⟩:=Pr.mf.row p hp;rw[k1]at e;injection e with _ _ e;subst e;have Av:=(App.iM k4 e2).2;unfold kY at hp;split at hp;obtain⟨p',hp',rfl⟩:=List.mem_map.1 hp;split at k1;injection k1 with _ _ k1;subst k1;injection e2 with e2;exact .inr Λ;exact .inl (ut p' hp' _ _ _ y k1 e2);rcases apG.1 hp with hp | hp;exact .inl (ut p hp _ _ _ y k1 e2);rw[ai9.1 hp]at k1;injection k1 with _ _ k1;subst k1;injection e2 with e2;exact .inr Λ);rw[JS,UK];by_cases e:l=jY ⟨g.g,g.a⟩;rw[if_pos e,if_pos e,e];exact⟨_,by rw[ai_,as0];rfl⟩;rw[if_neg e,if_neg e,List.append_nil];exact hvv l hl
def Rj(O:VH):VF Ε 11 [] O (aC λm O'=>m= .p (O.N+2) 0/\(∃U,uB O' U (O.N+2) []/\∀i,U i->O.N<=i)/\O.Ge O'):=by
 refine VF.lG (akE O) ?_;rintro m O' ⟨rfl,hs,hg⟩;have bI:=hs.st.lt;exact⟨rfl,⟨λi=>O.N<=i/\i<O'.N,⟨λi h=>h.2,z10,[],[],[],_,_,_,_,_,_,rfl,hs,⟨⟨Λ,bI.1⟩,⟨Λ,bI.2.1⟩,⟨Λ,bI.2.2⟩⟩,z10,z10,λl hl=>⟨.nil,rfl⟩⟩,λi h=>h.1⟩,hg⟩
def dC.geB{P:Nat->Prop}(h:O.Ge O1)(f:dC P O1 O2)(hp:∀i,P i->O.N<=i):O.Ge O2:=⟨apH h.N f.1,λi hi=>(f.2 i (an4 hi h.N) (λe=>by have:=hp i e;omega)).trans (h.hp i hi)⟩
structure Rk(O O':VH)(k k2 j:Nat):Prop where
 ex:∃(U W:Nat->Prop)(Z:List (Gv×Bs))(n:Nat),uB O' U k Z/\KA O' W k2 n/\(∀i,U i->¬W i)/\(∀i,U i->O.N<=i)/\(∀i,W i->O.N<=i)/\(Ζ Z<=j/\(Ζ Z)<=40)/\(n<=j/\n<=40)
 ge:O.Ge O'
def Rk.to(h:Rk O O' k k2 j)(g:O'.Ge O2):Rk O O2 k k2 j:=by
 obtain⟨⟨U,W,Z,n,h1,h2,h3⟩,hg⟩:=h;exact⟨⟨U,W,Z,n,h1.ge g,h2.ge g,h3⟩,hg.trans g⟩
def Rk.up(h:Rk O O' k k2 j):Rk O O' k k2 (j+1):=by
 obtain⟨⟨U,W,Z,n,h1,h2,h3,h4,h5,h6,h7⟩,hg⟩:=h;exact⟨⟨U,W,Z,n,h1,h2,h3,h4,h5,⟨Λ,h6.2⟩,⟨Λ,h7.2⟩⟩,hg⟩
def KC(x:Gv×Bs):Η:=aS x.1++[.s x.2]
def KD(x:Gv×Bs):(KC x).length=4:=rfl
def aet(S:List (Gv×Bs))(g:Gv)(t:Bs):(Bf S g t).length<=Ζ S+1:=by
 unfold Bf;split;simp;exact Nat.le_succ _
def alm(L:List (Gv×Bs))(tk:Tok)(O:VH)(hL:∀x∈L,gG x.1)(hn:Ζ L<=maxLen):VF Ε 4 [.l (Ζ L) (L.flatMap KC) tk] O (aC λm O'=>O.Ge O'/\∃(A:Nat×Nat)(k k2:Nat)(Z:List (Gv×Bs)),m= .tuple [.p k 0,.p k2 0]/\O.N<=A.1/\o5 O' A O'.N k Z/\(Ζ Z)<=40):=by
 have hlen:=aP KD L;have KJ:(Ζ L:Int)<=9223372036854775807:=by simp[maxLen]at hn;omega
 refine ω 41 [.tmp 2,.tmp 3] func4 ?_;refine κ cH ?_;refine κ cH ?_;refine π (Rj O) ?_;rintro _ O1 ⟨rfl,⟨U1,hU1,sO⟩,aM⟩;refine ae cH ?_;refine VC.bx ?_;rintro O2 ⟨ax,dQ,eG⟩;have dq:=aM.N;have Yo:Rk O O2 (O.N+2) O1.N 0:=⟨⟨U1,λi=>i=O1.N,[],0,hU1.ge ax,⟨⟨[],[],[],.nil,.nil,.nil,⟨rfl,rfl,rfl⟩,dQ,trivial,trivial,trivial,(λi e=>by cases e),(λi e=>by cases e),(λi e=>by cases e)⟩,rfl,λi e=>by subst e;omega⟩,λi h e=>by have:=hU1.lt i h;omega,sO,λi e=>Λ,⟨Rn _,abT _⟩,⟨Rn _,abT _⟩⟩,aM.trans ax⟩;have du:O1.N<O2.N:=Λ
 generalize O1.N=k2 at*;generalize O.N+2=k at*;refine Ξ [4,5] (λ_:Unit=>[.p k 0,.p k2 0]) (λ_ O'=>∃j,Rk O O' k k2 j) ?_ ?_;rotate_left;rintro _ O3 ⟨j,⟨U,W,Z,n,h1,h2,h3,h4,h5,h6,h7⟩,hg⟩;refine κ cH ?_;refine ν cH ?_;exact⟨hg,(O.N,O3.N),k,k2,Z,rfl,Rn _,h1.toG λi e=>⟨h4 i e,by have:=h1.lt i e;dsimp only;omega⟩,h6.2⟩;refine κ cH ?_;refine Γ ?_;refine Υ [13] [4,5,11,12] (λj:Nat=>[mi j]) (λj O'=>j<=(Ζ L)/\Rk O O' k k2 j) (λj=>(Ζ L) - j) (0) ?_ ?_;exact⟨abT _,Yo⟩;rintro j O3 ⟨hj,BR⟩;by_cases bu:j<Ζ L;rotate_left
 ·obtain rfl:j=Ζ L:=Λ
  refine ν cH ?_;exact aE.mk () ⟨_,BR⟩
 have ew:=jSx j;have bh:=bY KD L j bu;have gD:=hL _ (apJ bu);generalize L[j]=y at*;obtain⟨⟨g1,g2,g3⟩,t⟩:=y;dsimp only at gD;have It:KC (⟨g1,g2,g3⟩,t)=[.s g1,.s g2,.s g3,.s t]:=rfl;rw[It]at bh;refine κ cH ?_;refine κ cH ?_;refine Δ (Γ ?_);refine ξ cH bh ?_;refine VC.al ?_;rintro O4 ⟨aV,iD,fe⟩;have hF4:=BR.to aV;by_cases h40:j<40;rotate_left;refine ξ cH iD ?_;refine VC.oc rfl ?_;refine ν cH ?_;refine ο cH ew ?_;exact aw.N (j+1) ⟨bu,hF4.up⟩;by_cases h3:Ζ t<=3000;rotate_left;refine ξ cH iD ?_;refine VC.oc rfl ?_;refine ν cH ?_;refine ο cH ew ?_;exact aw.N (j+1) ⟨bu,hF4.up⟩;obtain⟨⟨U,W,Z,n,h1,h2,oU,h4,h5,h6,h7⟩,hg⟩:=BR;have rT:=abO (h1.ge aV) Λ ⟨g1,g2,g3⟩ t gD Λ;have V4:=aet Z ⟨g1,g2,g3⟩ t;simp only[aS]at rT;have aua:=aV.N;refine ξ cH iD ?_;refine VC.qI rfl ?_;refine ξ cH iD ?_;refine π rT ?_;rintro _ O5 ⟨rfl,JW,U',hU5,hU'⟩;have Vb:KA O5 W k2 n:=(h2.ge aV).mv JW.1 λi hi=>JW.2 i ((h2.ge aV).lt i hi) (λe=>oU i e hi)
 have qY:=JW.at Λ (λe=>by have:=h1.lt _ e;omega) iD;have yC:=alk Vb Λ ⟨g1,g2,g3⟩ t gD;simp only[aS]at yC;refine ak cH qY ?_;refine ο cH qY ?_;refine π yC ?_;rintro m O6 ⟨rK,W',n',LG,Pc,hW'⟩;have Qu:=(h2.ge aV).lt
 have hU6:uB O6 U' k (Bf Z ⟨g1,g2,g3⟩ t):=hU5.mv rK.1 λi hi=>rK.2 i (hU5.lt i hi) (λe=>by
  rcases hU' i hi with hu | hu;exact oU i hu e;have:=Qu i e;omega)
 refine ae cH ?_;refine ο cH ew ?_;have ie:=JW.1;have xk:=hg.N;refine aw.N (j+1) ⟨bu,⟨U',W',_,n',hU6,LG,λi hu hw=>?_,λi hu=>?_,λi hw=>?_,⟨Λ,Λ⟩,⟨Λ,Λ⟩⟩,dC.geB (dC.geB (hg.trans aV) JW h4) rK h5⟩;rcases hW' i hw with e | e;rcases hU' i hu with f | f;exact oU i f e;have:=Qu i e;omega;have:=hU5.lt i hu;omega;rcases hU' i hu with f | f;exact h4 i f;omega;rcases hW' i hw with e | e;exact h5 i e;omega
def Wl(h:o5 O A B k Z)(V4:Ζ Z<=1024)(g:Gv)(hg:gG g):
  VF Ε 5 [.p k 0,.agg (aS g)] O (aC λm O'=>dC (λi=>A.1<=i/\i<B/\i≠A.2) O O'/\match uA Z g []with
   | .ok y=>(∃t,m= .tuple [.l (Ζ y.1.1) (y.1.1.flatMap ij) t,.agg (gV ja)])/\V_ y.1
   | .error x=>m= .tuple [.l 0 [] .nil,.agg (gV x)]):=by
 have hAB:A.1<=k/\k<B/\k≠A.2:=by
  obtain⟨_,_,_,_,_,_,_,_,_,_,_,_,_,hb⟩:=h;exact hb.k
 have hle:=h.le;have hT:=λ(O':VH)(bb md:Nat)(hB:BW O' A B k bb md Z [])=>aiU hB V4 g hg
 obtain⟨X,hX⟩:∃X,uA Z g []=X:=⟨_,rfl⟩
 rw[hX]at hT ⊢;obtain⟨g1,g2,g3⟩:=g;simp only[aS]at hT ⊢;refine ω 13 [.tmp 4,.cell 5 34] func5 ?_;refine κ cY ?_;refine VC.gen ?_;intro O1 e1;obtain⟨aM,dq,eo,cS⟩:=jS _ _ e1;clear e1;refine Δ ?_;refine VC.vZ [7,8] (λO'=>O'.hp O.N=φ (.cells [.s g1,.s g2,.s g3])) (eo) ?_;refine ρ 0 cY ?_;refine ρ 1 cY ?_;refine δ (m:=.agg [.s g1,.s g2,.s g3]) 3 ?_ ?_;rintro O2 j1;exact dT cY j1
 simp only[ag];refine ab.call (i:=2) (alf k O1) ?_;rintro _ O2 ⟨rfl,ax,hm2,bV,eG⟩;simp only[ag];have iO:=ax.at eo;have fR:=ax.at cS;refine⟨iO,?_⟩;have qX:BW O2 A B k (O1.N+1) O1.N Z []:=⟨(h.ge aM).ge ax,⟨[],0,bV,hm2,⟨z10,z10⟩,λg=>rfl⟩,⟨Λ,Λ,Λ,Λ,Λ,Λ⟩,λx h=>by cases h⟩;refine ab.call (i:=4) (hT O2 _ _ qX) ?_;rintro m O3 ⟨ku,h3⟩;simp only[ag];have gu:=ku.at Λ Λ fR;have ea:=ku.1;refine⟨ku.at Λ Λ iO,?_⟩;have anI:dC (λi=>A.1<=i/\i<B/\i≠A.2) O O3:=⟨Λ,λi hi hn=>(ku.2 i Λ Λ).trans ((ax.hp i Λ).trans (aM.hp i hi))⟩;cases X with
 | error x=>
   dsimp only at h3;subst h3;simp only[gV,aq]at gu ⊢;refine ρ 5 cY ?_;refine ρ 6 cY ?_;refine ab.bM [(7,.au),(8,.one)] ?_;refine ak cY gu ?_;refine ν cY ?_;exact anI.set (.inl Λ) _
 | ok y=>
   obtain⟨⟨t,rfl⟩,_,LV⟩:=h3;simp only[gV,ja,aq]at gu ⊢;refine ρ 5 cY ?_;refine ρ 6 cY ?_;refine ab.bM [(7,.au),(8,.one)] ?_;refine ak cY gu ?_;refine ν cY ?_;exact⟨anI.set (.inl Λ) _,⟨t,rfl⟩,LV⟩
def fH:=TR cY<|TR cH<|TR T95<|TR GF<|TR GG<|TR Eo<|TR wK T79
def gS:Bs:=[103]
def v1:Bs:=[49]
def Bm(g:Gv)(D:List Dp):Pm:=⟨γ,⟨[],[],[]⟩,g.g,g.a,g.v,[],[],[],D⟩
def D2(a v:Bs)(s:Int):Dp:=⟨gS,a,v,[],[],s,0,[]⟩
mutual
def ndB:Nd->Bool
 | .mk n a k t=>decide (Ζ n<=1000000)&&(decide (Ζ t<=1000000)&&(a.all (λx=>decide (Ζ x.1<=1000000)&&decide (Ζ x.2<=1000000))&&(decide (Ζ a<=1000000)&&(decide (Ζ k<=1000000)&&abP k))))
def abP:List Nd->Bool
 | []=>Α
 | x::r=>ndB x&&abP r
end
mutual
def abQ:∀x:Nd,ndB x=Α->I2 x
 | .mk n a k t,h=>by
   rw[ndB]at h;simp only[apK,decide_eq_true_eq,List.all_eq_true]at h;obtain⟨h1,h2,h3,h4,h5,h6⟩:=h;rw[I2];exact⟨h1,h2,h3,h4,h5,Wm k h6⟩
def Wm:∀x:List Nd,abP x=Α->BN x
 | [],_=>by rw[BN];trivial
 | x::r,h=>by
   rw[abP,apK]at h;rw[BN];exact⟨abQ x h.1,Wm r h.2⟩
end
def Gr(g:Gv)(D:List Dp):Bs:=oC (tf (Bm g D))
def ZV(g:Gv)(D:List Dp)(S:List (Gv×Bs)):Bool:=ndB (tf (Bm g D))&&(decide ((Gr g D).length<=65536)&&(decide (Ζ D<=1000)&&(D.all (λd=>decide (Ζ d.x<=1000))&&(iq g&&(!S.any (·.1==g)&&decide (Ζ S<1000))))))
def Rl(a v:Bs)(s:Int)(O:VH):VF Ε 16 [.s a,.s v,mi s] O (aC λm O'=>m= .agg (aG (D2 a v s))/\O.Ge O'):=by
 refine VF.fg ?_;simp only[D2,gS,aG,aq,ai8,alp];refine ω 11 [.cell 6 64] func16 ?_;refine κ fH ?_;refine κ fH ?_;refine ν fH ?_;exact((VH.Ge.refl O).push _).set (Rn _) _
def Wn(O:VH):VF Ε 18 [] O (aC λm O'=>m= .agg (aS ⟨gS,[97],v1⟩)/\O.Ge O'):=by
 simp only[gS,v1,aS];refine ω 2 [.cell 0 24] func18 ?_;refine κ fH ?_;refine κ fH ?_;refine ν fH ?_;exact((VH.Ge.refl O).push _).set (Rn _) _
def aln(h:uB O U k S)(n v:Bs)(D:List Dp)(tk:Tok)(hc:ZV ⟨gS,n,v⟩ D S=Α):
  VF Ε 17 [.p k 0,.s n,.s v,.l (Ζ D) (D.flatMap aG) tk] O (aC λm O'=>m=mb Α/\dC U O O'/\∃U',uB O' U' k (S++[(⟨gS,n,v⟩,Gr ⟨gS,n,v⟩ D)])/\∀i,U' i->U i\/O.N<=i):=by
 unfold ZV at hc;simp only[apK,decide_eq_true_eq,List.all_eq_true,Bool.not_eq_true']at hc;obtain⟨c1,c2,c3,c4,c5,c6,c7⟩:=hc;have nQ:=yZ c5
 have gD:gG ⟨gS,n,v⟩:=by
  have:(64:Nat)<=maxLen:=by decide
  exact⟨Λ,Λ,Λ⟩
 have Lw:Gd S ⟨gS,n,v⟩=0:=by unfold Gd;rw[c5,c6];rfl
 have hw:=λO'=>agm (O:=O') (Bm ⟨gS,n,v⟩ D) (by simp[Bm]) (by simp[Bm]) (by show (Ζ D)<=_;omega) (λd hd=>by
  simp only[Bm,aja]at hd;have:=c4 d hd;omega)
 have hp:=λO'=>adB (tf (Bm ⟨gS,n,v⟩ D)) O' (apH c2 z12) (abQ _ c1)
 have Ga:=λ(O':VH)(u:O.Ge O')=>abO (h.ge u) Λ ⟨gS,n,v⟩ (Gr ⟨gS,n,v⟩ D) gD c2
 have E8:Bf S ⟨gS,n,v⟩ (Gr ⟨gS,n,v⟩ D)=S++[(⟨gS,n,v⟩,Gr ⟨gS,n,v⟩ D)]:=by unfold Bf;rw[if_pos Lw]
 rw[E8,Lw]at Ga;unfold Gr at*;generalize oC (tf (Bm ⟨gS,n,v⟩ D))=T at*;generalize tf (Bm ⟨gS,n,v⟩ D)=X at*;simp only[Bm,dy,aS,gS,aq,bg,ai8,alp]at hw Ga ⊢;refine ω 23 [.tmp 8] func17 ?_;refine κ fH ?_;refine κ fH ?_;refine VC.al ?_;rintro O1 ⟨aM,dz,dq⟩;refine VC.YS dz (cs':=[.v (.bool γ),.s [],.s [],.s [],.s [103],.s n,.s v,.s [],.l 0 [] .av,.l 0 [] .av,.l (Ζ D) (D.flatMap aG) .av]) ?_ ?_
 ·repeat' first
   | exact fw.refl _
   | exact Wk.refl _
   | exact Wk.tok
   | refine fw.cons ?_ ?_
 refine VC.gen ?_;intro O2 e2;have dQ:O2.hp O.N=φ (.cells [.v (.bool γ),.s [],.s [],.s [],.s [103],.s n,.s v,.s [],.l 0 [] .av,.l 0 [] .av,.l (Ζ D) (D.flatMap aG) .av]):=by rw[e2];exact υ _ _ _
 have ax:O.Ge O2:=by rw[e2];exact aM.set (Rn _) _
 clear e2;refine ξ fH dQ ?_;refine π (hw O2) ?_;rintro _ O3 ⟨rfl,aB⟩;refine ae fH ?_;refine π (hp O3) ?_;rintro _ O4 ⟨rfl,aV⟩;refine ae fH ?_;have jk:=(ax.trans aB).trans aV;refine π (Ga O4 jk) ?_;rintro _ O5 ⟨rfl,JW,U',eD,hU'⟩;have fe:=jk.N;refine ae fH ?_;refine ν fH ?_;exact⟨(dC.dG jk).trans JW,U',eD,λi hi=>(hU' i hi).imp id λe=>Λ⟩
def KE(h:uB O U k S){n v:Bs}{D:List Dp}{cs:Η}{l:Nat}(vK:cs=D.flatMap aG)(hl:l=Ζ D)(hc:ZV ⟨gS,n,v⟩ D S=Α):
  VF Ε 17 [.p k 0,.s n,.s v,.l l cs tk] O (aC λm O'=>m=mb Α/\dC U O O'/\∃U',uB O' U' k (S++[(⟨gS,n,v⟩,Gr ⟨gS,n,v⟩ D)])/\∀i,U' i->U i\/O.N<=i):=by
 subst vK;subst hl;exact aln h n v D tk hc
def gA:Gv:=⟨gS,[97],v1⟩
def ai0:gG gA:=⟨z12,z12,z12⟩
def exD:Dp:=⟨gS,[98],v1,[],[],0,0,[⟨[42],[99]⟩]⟩
def Rm(l:List (Bs×List Dp)):List (Gv×Bs):=l.map λx=>(⟨gS,x.1,v1⟩,Gr ⟨gS,x.1,v1⟩ x.2)
def anJ:List (Bs×List Dp):=[([97],[D2 [98] v1 0]),([98],[D2 [99] v1 2,D2 [100] v1 5]),([99],[])]
def anK:List (Bs×List Dp):=[([97],[exD]),([98],[D2 [99] v1 2])]
def KF:List Br:=[⟨-1,0,0,⟨gS,[97],Bi,[]⟩,v1,(γ,v1,[]),0,γ⟩,⟨0,1,0,⟨gS,[98],Bi,[]⟩,v1,(γ,v1,[]),1,γ⟩,⟨1,2,0,⟨gS,[99],Bi,[]⟩,v1,(γ,v1,[]),2,γ⟩]
def anL:List Br:=[⟨-1,0,0,⟨gS,[97],Bi,[]⟩,v1,(γ,v1,[]),0,γ⟩,⟨0,1,0,⟨gS,[98],Bi,[]⟩,v1,(γ,v1,[]),1,γ⟩]
def D3(x:Except fa (j_×List (Gv×eM))):Option (List Br):=match x with
 | .ok y=>φ y.1.1
 | .error _=>Β
def Wo{x:Except fa (j_×List (Gv×eM))}(h:D3 x=φ N):∃y,x= .ok y/\y.1.1=N:=by
 cases x with
 | ok y=>exact⟨y,rfl,by injection h⟩
 | error e=>cases h
def asV:D3 (uA (Rm anJ) gA [])=φ KF:=by kernel_rfl
def asW:D3 (uA (Rm anK) gA [])=φ anL:=by kernel_rfl
def abR(h:uB O U k Z)(V4:Ζ Z<=1024)(hg:gG g)(hN:D3 (uA Z g [])=φ N)(A:Nat×Nat)(hA:∀i,U i->A.1<=i/\i≠A.2):
  VF Ε 5 [.p k 0,.agg (aS g)] O (aC λm O'=>(∃t,m= .tuple [.l (Ζ N) (N.flatMap ij) t,.agg (gV ja)])/\dC (λi=>A.1<=i/\i<O.N/\i≠A.2) O O'):=by
 obtain⟨y,hy,rfl⟩:=Wo hN;refine VF.lG (Wl (h.toG hA) V4 g hg) ?_;rintro m O' ⟨hf,h2⟩;rw[hy]at h2;exact⟨h2.1,hf⟩
def Gs(O:VH):VF Ε 6 [] O (aC λm O'=>m=mb Α):=by
 refine ω 106 [.tmp 0] func6 ?_;refine κ fH ?_;refine κ fH ?_;refine π (Rj O) ?_;rintro _ O1 ⟨rfl,⟨U1,sN,ry⟩,aM⟩;have nO1:=aM.N;generalize O.N+2=k0 at*;refine ae fH ?_;refine κ fH ?_;have xr:=Rl [98] [49] 0 O1;simp only[D2,aG,aq,gS,ai8,alp]at xr;refine π xr ?_;rintro _ O2 ⟨rfl,ax⟩;have nO2:=ax.N;refine ae fH ?_;refine VC.al ?_;rintro O3 ⟨aB,eH,ea⟩;have hs3:=sN.ge (ax.trans aB);have nO3:=aB.N;have b1:∀i,U1 i->i≠O2.N:=λi h=>by have:=sN.lt i h;omega
 refine ξ fH eH ?_;refine π (KE (hs3) (n:=[97]) (D:=[D2 [98] v1 0]) rfl rfl z11) ?_;rintro _ O4 ⟨rfl,nY,U4,YQ,cC⟩;have nO4:=(nY).1;refine ae fH ?_;have iD:=nY.at Λ (λe=>b1 _ e rfl) eH;have b4:∀i,U4 i->i≠O2.N:=λi e=>by rcases cC i e with e | e;exact b1 i e;omega
 have xr:=Rl [99] [49] 2 O4;simp only[D2,aG,aq,gS,ai8,alp]at xr;refine π xr ?_;clear xr;rintro _ O5 ⟨rfl,bB⟩;have nO5:=(bB).N;refine ae fH ?_;have xr:=Rl [100] [49] 5 O5;simp only[D2,aG,aq,gS,ai8,alp]at xr;refine π xr ?_;clear xr;rintro _ O6 ⟨rfl,dU⟩;have nO6:=(dU).N;refine ae fH ?_;refine π (KE (YQ.ge (bB.trans dU)) (n:=[98]) (D:=[D2 [99] v1 2,D2 [100] v1 5]) rfl rfl z11) ?_;rintro _ O7 ⟨rfl,QX,U7,hs7,oy⟩;have nO7:=(QX).1;refine ae fH ?_;have Ay:=QX.at Λ (λe=>b4 _ e rfl) ((bB.trans dU).at iD);have b7:∀i,U7 i->i≠O2.N:=λi e=>by rcases oy i e with e | e;exact b4 i e;omega
 refine π (KE (hs7) (n:=[99]) (D:=[]) rfl rfl z11) ?_;rintro _ O8 ⟨rfl,vw,U8,hs8,Lh⟩;have nO8:=(vw).1;refine ae fH ?_;have Ax:=vw.at Λ (λe=>b7 _ e rfl) Ay;have b8:∀i,U8 i->i≠O2.N:=λi e=>by rcases Lh i e with e | e;exact b7 i e;omega
 have anM:uB O8 U8 k0 (Rm anJ):=hs8;clear sN hs3 YQ hs7 hs8 eH iD Ay nY QX vw cC oy Lh b1 b4 b7 ry;refine κ fH ?_;have Cm:=Wn O8;simp only[aS,gS,v1]at Cm;refine π Cm ?_;rintro _ O9 ⟨rfl,bq⟩;have n9:=bq.N;refine ae fH ?_;have ZW:=abR (anM.ge bq) z12 (g:=gA) ai0 asV (0,O2.N) (λi e=>⟨abT _,b8 i e⟩);simp only[aS,gA,gS,v1]at ZW;refine π ZW ?_;rintro _ fb ⟨⟨tk1,rfl⟩,Wc⟩;have n10:=Wc.1;have anN:=Wc.at Λ (λe=>e.2.2 rfl) (bq.at Ax);simp only[gV,ja,aq];refine ae fH ?_;refine VC.al ?_;rintro j9 ⟨mD,anO,M5⟩;have OK:=mD.at anN;have n11:=mD.N;clear Ax anM ZW Cm Wc anN b8;refine κ fH ?_;refine π (Rj j9) ?_;rintro _ Ke ⟨rfl,⟨zp,ai1,abS⟩,Bk⟩;have Bl:=Bk.at OK;have anP:=Bk.at anO;have n12:=Bk.N;obtain⟨k2,bC⟩:∃k2,k2=j9.N+2:=⟨_,rfl⟩
 rw[<-bC]at ai1 ⊢;refine ae fH ?_;refine ξ fH Bl ?_;refine VC.gen ?_;intro LJ IX;have ON:LJ.hp O2.N=φ (.cells [.s [103],.s [98],.s [49],.s [],.s [],.v (Ι Κ 0),.v (Ι Κ 0),.l 1 [.s [42],.s [99]] .full]):=by rw[IX];exact υ _ _ _
 have anQ:∀j,j≠O2.N->LJ.hp j=Ke.hp j:=λj hj=>by rw[IX];exact τ _ _ hj
 have Uw:LJ.N=Ke.N:=by rw[IX];rfl
 clear IX;refine VC.YS ON (cs':=[.s [103],.s [98],.s [49],.s [],.s [],.v (Ι Κ 0),.v (Ι Κ 0),.l 1 [.s [42],.s [99]] .av]) ?_ ?_
 ·repeat' first
   | exact fw.refl _
   | exact Wk.refl _
   | exact Wk.tok
   | refine fw.cons ?_ ?_
 refine VC.gen ?_;intro O14 e14;have anR:O14.hp O2.N=φ (.cells [.s [103],.s [98],.s [49],.s [],.s [],.v (Ι Κ 0),.v (Ι Κ 0),.l 1 [.s [42],.s [99]] .av]):=by rw[e14];exact υ _ _ _
 have ai2:∀j,j≠O2.N->O14.hp j=Ke.hp j:=λj hj=>by rw[e14,τ _ _ hj];exact anQ j hj
 have aub:O14.N=Ke.N:=by rw[e14];exact Uw
 have anS:uB O14 zp k2 []:=ai1.mv Λ λj hj=>ai2 j (by have:=abS j hj;omega)
 have anT:=(ai2 _ Λ).trans anP;clear e14 ON anQ Uw Bl ai1 anP OK anO ai2;refine ξ fH anR ?_;refine π (KE (anS) (n:=[97]) (D:=[exD]) rfl rfl z11) ?_;rintro _ O15 ⟨rfl,Ov,U15,anU,anV⟩;have auc:=(Ov).1;refine ae fH ?_;have l15:∀i,U15 i->j9.N<=i:=λi e=>by rcases anV i e with e | e;exact abS i e;omega
 have anW:=Ov.at Λ (λe=>by have:=abS _ e;omega) anT;have xr:=Rl [99] [49] 2 O15;simp only[D2,aG,aq,gS,ai8,alp]at xr;refine π xr ?_;clear xr;rintro _ O16 ⟨rfl,ai3⟩;have aud:=(ai3).N;refine ae fH ?_;refine π (KE (anU.ge ai3) (n:=[98]) (D:=[D2 [99] v1 2]) rfl rfl z11) ?_;rintro _ O17 ⟨rfl,Ow,U17,anX,anY⟩;have aue:=(Ow).1;refine ae fH ?_;have l17:∀i,U17 i->j9.N<=i:=λi e=>by rcases anY i e with e | e;exact l15 i e;omega
 have anZ:=Ow.at Λ (λe=>by have:=l15 _ e;omega) (ai3.at anW);have ZX:uB O17 U17 k2 (Rm anK):=anX;clear anS anU anX anR Ov Ow anT anW anV anY l15 abS;refine κ fH ?_;have Cm:=Wn O17;simp only[aS,gS,v1]at Cm;refine π Cm ?_;rintro _ O18 ⟨rfl,ai4⟩;have n18:=ai4.N;refine ae fH ?_;have ZW:=abR (ZX.ge ai4) z12 (g:=gA) ai0 asW (j9.N,O18.N) (λi e=>⟨l17 i e,by have:=ZX.lt i e;dsimp only;omega⟩);simp only[aS,gA,gS,v1]at ZW;refine π ZW ?_;rintro _ O19 ⟨⟨S8,rfl⟩,ai5⟩;have n19:=ai5.1;have an0:=ai5.at Λ (λe=>by have:=e.1;omega) (ai4.at anZ);simp only[gV,ja,aq];refine ae fH ?_;refine VC.al ?_;rintro VT ⟨asX,asY,asx⟩;have asZ:=asX.at an0;clear anZ ZX ZW Cm ai5 an0;have c1:(KF.flatMap ij)[24]?=φ (.v (Ι Κ 1)):=rfl;have c2:(KF.flatMap ij)[30]?=φ (.s [99]):=rfl;have c3:(KF.flatMap ij)[37]?=φ (.v (Ι Κ 2)):=rfl;have c4:(KF.flatMap ij)[26]?=φ (.v (Ι Κ 1)):=rfl;have c5:Ζ KF=3:=rfl;have c6:Ζ anL=2:=rfl;generalize KF.flatMap ij=C1 at*;rw[c5,c6];refine ξ fH asZ ?_;refine VL.ud aa (bb:=Α) (b:=Α) z10 z24 (.inl ⟨rfl,rfl⟩) z11 z11 rfl rfl rfl rfl ?_;refine ak fH asY ?_;refine VL.ud aa (bb:=Α) (b:=Α) z10 z24 (.inl ⟨rfl,rfl⟩) z11 z11 rfl rfl rfl rfl ?_;refine Em fH c1 c2 c3 c4 (show(([99]:Ρ)==[99])=Α from rfl) ?_;refine ν fH ?_;try trivial
def cu:=TR fH cO
section
variable{Z:List (Gv×Bs)}{g:Gv}
def ZY{S S':j_}{b:Br}{od:Nat}{n:mw}(h:pR Z g M S i b od n= .ok S')(hl:Ζ S.1<=4096)(r:Br)(h0:S.1[0]?=φ r):Ζ S'.1<=4096/\S'.1[0]?=φ r:=by
 unfold pR at h;split at h;injection h with h;subst h;exact⟨hl,h0⟩;split at h;cases h;split at h;cases h;injection h with h;subst h;refine⟨by rw[ai_,an2];omega,?_⟩;rw[List.getElem?_append_left (ahB.1 h0).1];exact h0
def Gt{M:List Dp}{i:Nat}{b r:Br}:∀(l:List mw)(od:Nat) {S S':j_},mz Z g M i b l od S= .ok S'->Ζ S.1<=4096->S.1[0]?=φ r->Ζ S'.1<=4096/\S'.1[0]?=φ r
 | [],od,S,S',h,hl,h0=>by rw[mz]at h;injection h with h;subst h;exact⟨hl,h0⟩
 | n::l,od,S,S',h,hl,h0=>by
   rw[mz]at h;obtain⟨S1,h1,h2⟩:=lu h;obtain⟨a1,a2⟩:=ZY h1 hl r h0;exact Gt l (od+1) h2 a1 a2
def Cn{r:Br}:∀(f i:Nat) {M:List Dp} {S:j_} {mm:List (Gv×eM)} {y:j_×List (Gv×eM)},mW Z g f i M S mm= .ok y->Ζ S.1<=4096->S.1[0]?=φ r->Ζ y.1.1<=4096/\y.1.1[0]?=φ r
 | 0,i,M,S,mm,y,h,hl,h0=>by rw[mW]at h;injection h with h;subst h;exact⟨hl,h0⟩
 | f+1,i,M,S,mm,y,h,hl,h0=>by
   rw[mW]at h;split at h;injection h with h;subst h;exact⟨hl,h0⟩;split at h;exact Cn f (i+1) h hl h0;obtain⟨Y,h1,h2⟩:=lu h;obtain⟨S1,h3,h4⟩:=lu h2;obtain⟨a1,a2⟩:=Gt _ 0 h3 hl h0;exact Cn f (i+1) h4 a1 a2
def ZZ{mm:List (Gv×eM)}{y:j_×List (Gv×eM)}(h:uA Z g mm= .ok y):Ζ y.1.1<=4096/\y.1.1[0]?=φ (oT g):=Cn 5000 0 h (by show(1:Nat)<=4096;decide) rfl
end
def alo(L:List (Gv×Bs))(tk:Tok)(g:Gv)(O:VH)(hL:∀x∈L,gG x.1)(hn:Ζ L<=maxLen)(hg:gG g):
  VF Ε 3 [.l (Ζ L) (L.flatMap KC) tk,.agg (aS g)] O (aC λm O'=>m=mb Α):=by
 have hT:=λ(O':VH)(A:Nat×Nat)(k:Nat)(Z:List (Gv×Bs))(h:o5 O' A O'.N k Z)(hZ:Ζ Z<=40)=>Wl h (apH hZ z12) g hg
 have hne:=λZ=>Fo Z g 5000 0 [] ([oT g],[[]]) []
 have Z0:=λ(Z:List (Gv×Bs)) y=>ZZ (Z:=Z) (g:=g) (mm:=[]) (y:=y)
 obtain⟨g1,g2,g3⟩:=g;simp only[aS]at hT ⊢;refine ω 165 [.tmp 4] func3 ?_;refine κ cu ?_;refine VC.bx ?_;rintro O1 ⟨aM,dz,dq⟩;refine κ cu ?_;refine π (alm L tk O1 hL hn) ?_;rintro _ O2 ⟨ax,A,k,k2,Z,rfl,hA,GN,hZ⟩;have dQ:=ax.at dz;have nX:=hT O2 A k Z GN hZ;refine ae cu ?_;refine ξ cu dQ ?_;refine π nX ?_;rintro m O3 ⟨ku,h3⟩;have eH:=ku.at z31 Λ dQ;obtain⟨X,hX⟩:∃X,uA Z ⟨g1,g2,g3⟩ []=X:=⟨_,rfl⟩
 rw[hX]at h3;cases X with
 | error x=>
   dsimp only at h3;subst h3;have hE:=Ai ((hne Z).ne x hX);have m9:=wm x;rw[hE]at m9;simp only[gV,ja,aq]at m9 ⊢;refine ae cu ?_;refine VC.al ?_;rintro O4 ⟨aV,yQ,fe⟩;refine ξ cu yQ ?_;refine VL.ud aa (bb:=Α) (b:=γ) z10 z24 (.inr ⟨rfl,rfl⟩) m9 z11 rfl rfl rfl rfl ?_;refine ae cu ?_;refine π (Gs O4) ?_;rintro _ O5 rfl;refine ae cu ?_;trivial
 | ok y=>
 obtain⟨⟨t,rfl⟩,_⟩:=h3;have n2:=ax.N;have n3:=ku.1;have hO:=ZS hX;obtain⟨hN,hr0⟩:=Z0 Z y hX;generalize y.1.1=N at*;clear hT nX hne Z0;simp only[gV,ja,aq];refine ae cu ?_;refine VC.al ?_;rintro O4 ⟨aV,yQ,fe⟩;have iD:=aV.at eH;refine ξ cu yQ ?_;refine VL.ud aa (bb:=γ) (b:=Α) z10 z24 (.inr ⟨rfl,rfl⟩) z11 z11 rfl rfl rfl rfl ?_;refine ae cu ?_;have hlen:=aP dY N;refine Ξ [7] (λ_:Unit=>[.l (Ζ N) (N.flatMap ij) t]) (λ_ _=>True) ?_ ?_
 ·
  have Gz:=(ahB.1 hr0).1;((have c0:(N.flatMap ij)[0]?=φ (.v (Ι Κ (-1))):=by simpa using dP (sp:=[]) dY hr0 (i:=0) (m:=.v (Ι Κ (-1))) rfl);have c1:(N.flatMap ij)[1]?=φ (.v (Ι Κ 0)):=by simpa using dP (sp:=[]) dY hr0 (i:=1) (m:=.v (Ι Κ 0)) rfl);have Co:(N.flatMap ij)[11]?=φ (.v (Ι Κ 0)):=by simpa using dP (sp:=[]) dY hr0 (i:=11) (m:=.v (Ι Κ 0)) rfl
  have tW:(N.flatMap ij).take 13=ij (oT ⟨g1,g2,g3⟩):=by
   have:=bY dY N 0 Gz;rw[(ahB.1 hr0).2]at this;simpa using this
  have ZK:=Rb (oT ⟨g1,g2,g3⟩) O4;rw[show zq (oT ⟨g1,g2,g3⟩)=⟨g1,g2,g3⟩from rfl]at ZK;simp only[aS]at ZK;generalize ij (oT ⟨g1,g2,g3⟩)=R0 at*;refine Δ ?_;have hE0:Ir Ε (iv Ε) 9 24 (.agg [.s g1,.s g2,.s g3]) (.agg [.s g1,.s g2,.s g3])=φ Α:=(show _=φ ((g1==g1)&&((g2==g2)&&((g3==g3)&&Α))) by kernel_rfl).trans z10;refine VC.vZ [] (λO'=>O'.hp O.N=φ (.cells [.s g1,.s g2,.s g3])) (iD) ?_;refine ab.au 0 ?_;refine bo cu c0 tW @iG ?_;refine ab.au 1 ?_;refine bo cu c0 tW @iG ?_;refine ab.au 2 ?_;refine bo cu c0 tW @iG ?_;refine ab.au 3 ?_;refine bo cu c0 tW @iG ?_;refine ab.au 4 ?_;refine bo cu c0 tW @iG ?_;refine ab.au 5 ?_;refine bo cu c0 tW @iG ?_;refine ab.au 6 ?_;refine bo cu c0 tW @iG ?_;refine ab.au 7 ?_;refine bo cu c0 tW @iG ?_;refine ab.au 8 ?_;refine bo cu c0 tW @iG ?_;refine ab.au 9 ?_;refine bo cu c0 tW @iG ?_;refine ab.au 10 ?_;refine bo cu c0 tW @iG ?_;refine ab.au 11 ?_;refine bo cu c0 tW @iG ?_;refine ab.au 12 ?_;refine bo cu c0 tW @iG ?_;refine ab.au 13 ?_;refine bo cu c0 tW @iG ?_;refine δ (m:=.agg [.s g1,.s g2,.s g3]) 15 ?_ ?_;rintro O2 j1;exact dT cu j1;simp only[ag];refine ab.call (i:=14) ZK ?_;rintro _ O5 ⟨rfl,bB⟩;simp only[ag];refine⟨bB.at iD,?_⟩;refine ab.pure 16 (d_.ud (b:=Α) (bb:=γ) aa (.inr ⟨rfl,rfl⟩) hE0 z11 rfl rfl) ?_;refine ab.au 17 ?_;refine aF cu c1 Co ?_;refine ab.au 18 ?_;refine aF cu c1 Co ?_;refine ab.au 19 ?_;refine aF cu c1 Co ?_;refine ab.au 20 ?_;refine aF cu c1 Co ?_;refine ab.au 21 ?_;refine aF cu c1 Co ?_;refine ab.au 22 ?_;refine aF cu c1 Co ?_;refine ab.au 23 ?_;refine aF cu c1 Co ?_;refine ab.au 24 ?_;refine aF cu c1 Co ?_;refine ab.au 25 ?_;refine aF cu c1 Co ?_;refine ab.au 26 ?_;refine aF cu c1 Co ?_;refine ab.au 27 ?_;refine aF cu c1 Co ?_;refine ab.au 28 ?_;refine aF cu c1 Co ?_;refine ab.au 29 ?_;refine aF cu c1 Co ?_;refine ab.au 30 ?_;refine aF cu c1 Co ?_;refine ab.au 31 ?_;refine aF cu c1 Co ?_;refine ab.bM [] ?_;refine ae cu ?_;refine VC.oc rfl ?_;refine ν cu ?_;exact aE.mk () trivial
 rintro _ O5 _;clear iD yQ eH dQ dz;refine Ξ [] (λ_:Unit=>[]) (λ_ _=>True) ?_ ?_;rotate_left;rintro _ O6 _;refine κ cu ?_;refine π (Gs O6) ?_;rintro _ O7 rfl;refine ae cu ?_;refine ν cu ?_;try trivial
 refine κ cu ?_;refine Γ ?_;refine Υ [69] [7,67,68] (λi:Nat=>[mi i]) (λi _=>i<=Ζ N) (λi=>(Ζ N) - i) (0) ?_ ?_;exact abT _;rintro i O6 hi;by_cases fQ:i<Ζ N;rotate_left
 ·obtain rfl:i=Ζ N:=Λ
  refine ν cu ?_;exact aE.mk () trivial
 have yS:=jSx i;have bh:=bY dY N i fQ;have UI:N[i]?=φ N[i]:=Ro fQ;have Tg:=λh0=>hO.p i _ UI h0
 generalize N[i]=x at*;have ON:ij x=[.v (Ι Κ x.up),.v (Ι Κ x.dp),.v (Ι Κ x.od),.s x.k.g,.s x.k.a,.s x.k.t,.s x.k.c,.s x.v,.v (.bool x.r.1),.s x.r.2.1,.l (Ζ x.r.2.2) (x.r.2.2.flatMap fy) .av,.v (Ι Κ x.sc),.v (.bool x.rd)]:=rfl;rw[ON]at bh;refine κ cu ?_;refine κ cu ?_;refine Δ (Γ ?_);refine ξ cu bh ?_;refine VC.al ?_;rintro O7 ⟨dB,Ay,sk⟩;by_cases h0:0<i;rotate_left
 ·have Lc:((i:Int)==0)=Α:=by simpa using Nat.eq_zero_of_not_pos h0
  refine ξ cu Lc ?_;refine ο cu yS ?_;exact aw.N (i+1) fQ
 have Lc:((i:Int)==0)=γ:=by simp;omega
 obtain⟨p1,p2,p3,c,p4,p5,p6⟩:=Tg h0;obtain⟨u,hu⟩:∃u:Nat,x.up=u:=⟨x.up.toNat,Λ⟩
 have hq:N[i - 1]?=φ N[i - 1]:=Ro Λ;have Df:=hO.dp i (i - 1) _ x Λ hq UI;have hlp:=hO.path i (i - 1) _ x Λ hq UI;have cz:=Ck hO i x UI;have d1:(N.flatMap ij)[(i - 1)*13+1]?=φ (mi N[i - 1].dp):=by simpa using dP (sp:=[]) dY hq (i:=1) rfl
 rw[hu]at p1 p2 p4 Ay;rw[an7]at p4;have ua:=(ahB.1 p4).1;have d2:(N.flatMap ij)[u*13+1]?=φ (mi c.dp):=by simpa using dP (sp:=[]) dY p4 (i:=1) rfl
 have d3:(N.flatMap ij)[u*13+12]?=φ (mb c.rd):=by simpa using dP (sp:=[]) dY p4 (i:=12) rfl
 rw[p5]at d3;rw[p6]at Ay Df hlp cz;generalize N[i - 1]=q at*;generalize c.dp=cd at*;generalize q.dp=qd at*;have him:((i:Int) - 1)=((i - 1:Nat):Int):=Λ
 have hP1:=λO'=>Wh hO t (i - 1) O' Λ hN
 have hP2:=λO'=>Wh hO t i O' Λ hN
 have hP3:=λO'=>aiY hO t hN i O' fQ
 have Ei:=Al hO (i - 1);have ph:=Al hO i;have hLs:=λta tb O'=>aiZ (fT N (i - 1)) (fT N i) ta tb O' Λ Λ
 have hPa:=λk h=>Kz (fT N i) (i:=k) h
 have qM:=pX (fT N i);generalize fT N (i - 1)=P1 at*;generalize fT N i=P2 at*;simp only[aq,bg]at d1 d2 d3 hP1 hP2 hP3;refine ξ cu Lc ?_;refine Δ ?_;have e1:(cd+1 != cd+1)=γ:=by simp
 refine ι ?_;refine WC.reads ?_;refine SO cu Ay @d1 @d2 @d3 him e1 ?_;refine ξ cu him ?_;refine π (hP1 O7) ?_;rintro _ O8 ⟨gR,t8,rfl⟩;refine ae cu ?_;refine π (hP2 O8) ?_;rintro _ O9 ⟨bq,t9,rfl⟩;have n7:=dB.N;have n8:=gR.N;have QG:=bq.at (gR.at Ay);refine ae cu ?_;have ai6:((Ζ P2:Int) != cd+1)=γ:=by simp[cz]
 refine Ξ [7,9,12,67,68,69] (λ_:Unit=>[.l (Ζ N) (N.flatMap ij) t,.v (Ι Κ i),.l (Ζ P2) (gM P2) t9,.l (Ζ N) (N.flatMap ij) t,.v (Ι Κ (Ζ N)),.v (Ι Κ i)]) (λ_ _=>True) ?_ ?_
 ·
  by_cases he:qd=cd+1
  ·have he2:(qd==cd+1)=Α:=by simpa using he
   have PI:=hLs t8 t9 O9;rw[hlp he]at PI;refine Δ ?_;refine WC.bM .any [(0,.au),(1,.au),(2,.au),(3,.one),(4,.au),(5,.au),(6,.au),(7,.au),(8,.au),(9,.au),(10,.au),(11,.au),(12,.au),(13,.one),(14,.au),(15,.au),(16,.au),(17,.au),(18,.one),(19,.au),(20,.au),(21,.au)] ?_;refine SO cu QG @d1 him ai6 he2 @iG ?_;refine π PI ?_;rintro _ fb ⟨rfl,rfl⟩;refine ae cu ?_;refine VC.oc rfl ?_;refine ν cu ?_;exact aE.mk () trivial
  ·have he2:(qd==cd+1)=γ:=by simpa using he
   refine Δ ?_;refine WC.bM .any [(0,.au),(1,.au),(2,.au),(3,.one),(4,.au),(5,.au),(6,.au),(7,.au),(8,.au),(9,.au),(10,.au),(11,.au),(12,.au),(13,.one),(14,.au),(15,.au),(16,.au),(17,.au),(18,.one),(19,.au),(20,.au),(21,.au)] ?_;refine SO cu QG @d1 him ai6 he2 @iG ?_;refine VC.oc rfl ?_;refine ν cu ?_;exact aE.mk () trivial
 rintro _ Oa _;refine κ cu ?_;refine π (hP3 Oa) ?_;rintro _ Ob ⟨DG,tb,rfl,_⟩;refine ae cu ?_;refine κ cu ?_;refine Γ ?_;refine Υ [150] [7,12,13,67,68,69,149] (λk:Nat=>[mi k]) (λk _=>k<=Ζ P2) (λk=>(Ζ P2) - k) (0) ?_ ?_;exact abT _;rintro j Oc hj;by_cases bu:j<Ζ P2;rotate_left
 ·have hje:j=Ζ P2:=Λ
  rw[hje];refine ν cu ?_;refine ο cu yS ?_;exact aw.N (i+1) fQ
 have ew:=jSx j;have hpa:=hPa j bu;generalize P2[j]=z at*;have e3:(z != z)=γ:=by simp
 refine κ cu ?_;refine κ cu ?_;refine Δ (Γ ?_);refine κ cu ?_;refine ι ?_;refine WC.reads ?_;refine aF cu hpa e3 ?_;refine ο cu ew ?_;exact aw.N (j+1) bu
open Go.ChangeShapes
section
variable{H:Type}{enc:TypeId×Value->H}{P:Program}{w:World}{sp:Nat->Bool}{held:Bool}{t e:TypeId}
def El.aeu{Φ :Η->Prop}(h:El enc P w sp held t Φ){d:DataW H}(hd:DataW.Trod enc P w 0 sp held t (.agg us) d ps):∃ms,VR (G0 w) (.agg ms) (.agg us)/\ Φ ms:=by
 obtain⟨fuel,h1⟩:=hd;obtain⟨ms,h2,h3⟩:=h _ _ _ h1;refine⟨ms,?_,h3⟩;have:(Value.agg us)= .agg us.toList.toArray:=by simp
 rw[this];exact .agg h2.1 h2.2
end
section
variable{H:Type}{enc:TypeId×Value->H}{P:Program}{w:World}{sp:Nat->Bool}{held:Bool}{t e:TypeId}{α β :Type}
def sI(enc:TypeId×Value->H)(P:Program)(w:World)(sp:Nat->Bool)(held:Bool)(t:TypeId)(f: α ->Η)(p: α ->Prop):Prop:=El enc P w sp held t λms=>∃y,ms=f y/\p y
def sI.str(ht:P.underlying t=φ .string):sI enc P w sp held t (λl:Ρ=>[.s l]) (λl=>Ζ l<=maxLen):=El.str ht
def OP{f: α ->Η}{p: α ->Prop}:∀{rows:List Η},(∀r∈rows,∃x,r=f x/\p x)->∃xs:List α,Ζ rows=(Ζ xs)/\rows.flatten=xs.flatMap f/\∀x∈xs,p x
 | [],_=>⟨[],rfl,rfl,z10⟩
 | r::rows,h=>by
   obtain⟨xs,h1,h2,h3⟩:=OP λr hr=>h r (List.mem_cons_of_mem _ hr)
   obtain⟨x,h4,h5⟩:=h r (List.mem_cons_self ..)
   exact⟨x::xs,by simp[h1],by rw[h4];simp[h2],λy hy=>by
    rcases List.mem_cons.1 hy with rfl | hy;exact h5;exact h3 y hy⟩
def sI.slice{f: α ->Η}{p: α ->Prop}(ht:P.underlying t=φ (.slice e))(mH:0<P.cellsOf e)(he:sI enc P w sp held e f p):
  sI enc P w sp held t (λy:List α ×Tok=>[.l (Ζ y.1) (y.1.flatMap f) y.2]) (λy=>(∀x∈y.1,p x)/\(Ζ y.1)<=maxLen):=
 (El.slice ht he mH).imp λms ⟨rows,tk,h1,h2,h3⟩=>by
  obtain⟨xs,h4,h5,h6⟩:=OP h2;exact⟨(xs,tk),by rw[h1,h4,h5],h6,by show (Ζ xs)<=maxLen;omega⟩
def xA(enc:TypeId×Value->H)(P:Program)(w:World)(sp:Nat->Bool)(held:Bool)(fs:List Field)(k N:Nat)(f: α ->Η)(p: α ->Prop):Prop:=
 ∀cs:List Value,Ζ cs=N->(∀g∈fs,k<=g.offset)/\((∀g∈fs,∃fuel x,DataW.trod enc P w 0 sp held fuel g.type ((cs.drop (g.offset - k)).take (P.cellsOf g.type))=φ x)->∃y,aX (G0 w) (f y) cs/\p y)
def xA.one{g:Field}{f: α ->Η}{p: α ->Prop}(ho:g.offset=k)(hn:P.cellsOf g.type=n)(he:sI enc P w sp held g.type f p):xA enc P w sp held [g] k n f p:=by
 intro cs ju;refine⟨λg' hg=>by rw[ai9.1 hg];omega,λh=>?_⟩;obtain⟨fuel,x,hx⟩:=h g z10;rw[ho,asl,ats,hn,List.take_of_length_le Λ]at hx;obtain⟨ms,h1,y,rfl,h3⟩:=he _ _ _ hx;exact⟨y,h1,h3⟩
def xA.cons{g:Field}{fs:List Field}{N:Nat}{f: α ->Η}{p: α ->Prop}{f': β ->Η}{p': β ->Prop}(ho:g.offset=k)(hn:P.cellsOf g.type=n)(he:sI enc P w sp held g.type f p)(hr:xA enc P w sp held fs (k+n) N f' p'):
  xA enc P w sp held (g::fs) k (n+N) (λy: α × β =>f y.1++f' y.2) (λy=>p y.1/\p' y.2):=by
 intro cs ju;obtain⟨Lj,hr'⟩:=hr (cs.drop n) (by rw[List.length_drop];omega);refine⟨λg' hg=>?_,λh=>?_⟩;rcases List.mem_cons.1 hg with rfl | hg;omega;have:=Lj g' hg;omega
 ·obtain⟨fuel,x,hx⟩:=h g z10;rw[ho,asl,ats,hn]at hx;obtain⟨ms,h1,y,rfl,h3⟩:=he _ _ _ hx
  obtain⟨z,h4,h5⟩:=hr' λg' hg=>by
   obtain⟨fuel,x,hx⟩:=h g' (List.mem_cons_of_mem _ hg);have:=Lj g' hg;refine⟨fuel,x,?_⟩;rw[List.drop_drop,show n+(g'.offset - (k+n))=g'.offset - k by omega];exact hx
  refine⟨(y,z),?_,h3,h5⟩;have:=aX.append h1 h4
  rwa [List.take_append_drop]at this
def sI.struct{fs:Array Field}{N:Nat}{f: α ->Η}{p: α ->Prop}(ht:P.underlying t=φ (.struct fs))(mH:P.cellsOf t=N)(hf:xA enc P w sp held fs.toList 0 N f p):sI enc P w sp held t f p:=by
 intro fuel cs x h;obtain⟨xs,n,rfl,rfl,hl,vS,hfi⟩:=DataW.trod_struct ht h;obtain⟨_,h2⟩:=hf cs Λ
 obtain⟨y,h3,h4⟩:=h2 λg hg=>by
  obtain⟨i,hi,rfl⟩:=List.getElem_of_mem hg;have h5:=hfi i fs.toList[i] (by rw[<-Array.getElem?_toList,Ro]);(have auf:Ζ fs.toList=fs.size:=by simp);rw[Ro Λ]at h5;exact⟨_,_,h5⟩
 exact⟨_,h3,y,rfl,h4⟩
def sI.arg{f: α ->Η}{p: α ->Prop}(h:sI enc P w sp held t f p){v:Value}{d:DataW H}(hd:DataW.Trod enc P w 0 sp held t v d ps)(hc:v.cells= #[v]):∃m y,VR (G0 w) m v/\[m]=f y/\p y:=by
 obtain⟨m,h1,y,h2,h3⟩:=El.arg h hd hc;exact⟨m,y,h1,h2,h3⟩
def sI.aeu{f: α ->Η}{p: α ->Prop}(h:sI enc P w sp held t f p){d:DataW H}(hd:DataW.Trod enc P w 0 sp held t (.agg us) d ps):∃y,VR (G0 w) (.agg (f y)) (.agg us)/\p y:=by
 obtain⟨ms,h1,y,rfl,h3⟩:=El.aeu h hd;exact⟨y,h1,h3⟩
end
abbrev EnT:=(Bs×Bs×Bs)×Bs
def ai7(y:EnT):Gv×Bs:=(⟨y.1.1,y.1.2.1,y.1.2.2⟩,y.2)
def an1(y:Bs×Bs×Bs):Prop:=Ζ y.1<=maxLen/\(Ζ y.2.1)<=maxLen/\(Ζ y.2.2)<=maxLen
def Wp(y:List EnT×Tok)(z:Bs×Bs×Bs)(O:VH)(hp:(∀x∈y.1,an1 x.1/\(Ζ x.2)<=maxLen)/\(Ζ y.1)<=maxLen)(hz:an1 z):VF Ε 3 [.l (Ζ y.1) (y.1.flatMap λx=>KC (ai7 x)) y.2,.agg (aS ⟨z.1,z.2.1,z.2.2⟩)] O (aC λm O'=>m=mb Α):=by
 have h:=alo (y.1.map ai7) y.2 ⟨z.1,z.2.1,z.2.2⟩ O (λx hx=>by
  obtain⟨a,ha,rfl⟩:=List.mem_map.1 hx;exact(hp.1 a ha).1) (by rw[an5];exact hp.2) hz
 rw[an5,List.flatMap_map]at h;exact h
end Go.Proofs.YtnfdmplcieacjaaGreatDoor
