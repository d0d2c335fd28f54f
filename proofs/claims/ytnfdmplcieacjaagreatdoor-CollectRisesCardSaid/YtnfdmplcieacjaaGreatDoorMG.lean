import Derived.Test.YtnfdmplcieacjaaGreatDoorMF
set_option linter.unusedVariables false
set_option linter.defProp false
set_option maxHeartbeats 8000000
set_option linter.unusedSimpArgs false
namespace Go.Proofs.YtnfdmplcieacjaaGreatDoor
open Go.RowKit
open _root_.Nat renaming reduceLT → y0, reduceAdd → y10, reduceMul → y11, reduceSub → y12, reduceBEq → y14, reduceEqDiff → y16
open _root_.Int renaming reduceToNat → y18
open _root_.Go.Proofs.Tryz
open Go.Value renaming int → Ι
open Go.IntKind renaming i64 → Κ
open _root_.List renaming length → Ζ
open _root_.Go.Proofs.Tryz renaming prog → Ε
open _root_.Option renaming some → φ, none → Β
open _root_.Bool renaming false → γ, true → Α
open _root_.List renaming cons_append → Ro, nil_append → TR, getElem?_eq_some_iff → ahB, length_cons → ai8, length_append → ai9, length_nil → ai_, mem_singleton → alp, getElem_mem → an3, drop_eq_getElem_cons → an4, length_singleton → an5, getElem?_eq_getElem → an6, mem_append → an7, flatMap_append → apE, mem_cons_of_mem → apG, mem_cons_self → apJ, mem_cons → apK, eq_nil_of_length_eq_zero → asc, contains_iff_mem → asl, flatMap_nil → ats, mem_of_find?_eq_some → atM, getElem?_append_left → aug, not_mem_nil → auj, drop_length → aum, all_eq_true → auo, mem_filter → aur
open _root_.Nat renaming le_refl → Rn, le_trans → aev, lt_of_lt_of_le → aja, zero_le → an2, lt_succ_self → apH, eq_zero_or_pos → apI, zero_add → aui, le_add_right → aun
open _root_.And renaming intro → abT
open _root_.Option renaming bind_eq_some_iff → auh, map_some → auk, map_eq_some_iff → auq, map_none → aus
open _root_.Int renaming toNat_natCast → aul
open _root_.Bool renaming or_eq_true_iff → apF, and_eq_true_iff → as0
variable{listed:Array Bool}{s:Bs}{c:Code}{d:Dp}{e:Env}{f:FuncId}{g:Gv}{kn:Int}{S Z:List (Gv×Bs)}{D:List Deferred}{L M:List Dp}{cs xs:List MV}{brk:List Nat}{B a b ba bb bx cd cm cr gb i j k kd kr md mm n od sz tb:Nat}{P:Nat->Prop}{A:Nat×Nat}{t1 t2 tk:Tok}{F O O':VH}{K:VH->Prop}{Q:VQ}{X y:bO}{R:eL}{x:iR}
set_option maxRecDepth 10000
section
variable{O O':VH}{wb bb tb kr kd cr:Nat}{g:Gv}{p:Pm}{W:List Gv}{tw tk:Tok}{L:List (Bs×Bs)}{R:eL}{st:cT}
def QU(h:j5 O wb bb tb kr kd g p W tw L R cr tk st)(s w:Bs)(em:Bool)(hs:Ζ s<=100000:=by omega):VF Ε 123 [.p wb 0,.s s,.s w,mb em] O (MQ (λi=>i=tb\/i=kd) O (QT R g s w em st) λy m O'=>m= .s y.1/\j5 O' wb bb tb kr kd g p W tw L R cr tk y.2):=by
 obtain⟨R9,hR⟩:∃R9,QT R g s w em st=R9:=⟨_,rfl⟩
 rw[hR];unfold QT at hR;have cz:=λy=> @vv R g s w st y
 refine ω 29 [.tmp 8] func123 ?_;refine κ df ?_;refine κ df ?_;refine ah.mq (Hy h s w hs) hR ?_ ?_;rintro e O9 jG rfl;refine ak df @wd ?_;exact⟨jG,rfl⟩
 clear hR;rintro y m O2 LD jh h2 hR;have nQ:=cz y LD;obtain⟨y,Qy⟩:=y;obtain⟨rfl,h2⟩:=h2;dsimp only at hR nQ h2;refine ae df ?_;refine κ df ?_;refine π (vW y O2 (aev nQ z12)) ?_;rintro _ O3 ⟨rfl,aB⟩;have h3:=h2.ge aB;have ku:=jh.ge aB;cases hi:iZ y with
 | true=>
   rw[hi,if_pos z10]at hR;subst hR;refine ak df hi ?_;refine ν df ?_;exact⟨ku,rfl,h3⟩
 | false=>
   cases em with
   | false=>
     rw[hi,if_neg z10]at hR;subst hR;refine ak df hi ?_;refine η (kD h3.cell 20 w) ?_;refine ak df @wd ?_;exact⟨ku,rfl⟩
   | true=>
     cases hy:(y==[])with
     | true=>
       rw[hi,hy,if_pos z10]at hR;subst hR;refine aF df hi hy ?_;refine ν df ?_;exact⟨ku,rfl,h3⟩
     | false=>
       rw[hi,hy,if_neg z10]at hR;subst hR;refine aF df hi hy ?_;refine η (kD h3.cell 20 w) ?_;refine ak df @wd ?_;exact⟨ku,rfl⟩
def J5(n:Nat)(O:VH)(hn:n<=1000000000:=by omega):VF Ε 94 [mi n] O (aC λm O'=>m= .s (lg n)/\O'=O):=by
 have Dd:=rQ n;refine χ 17 [.tmp 2] func94 ?_;refine ae df ?_;refine WC.cj [0,3] [] (λx:Nat×Bs=>[mi x.1,.s x.2]) (λx O'=>O'=O/\lg n=lg x.1++x.2/\x.1<=n) (λx=>x.1) ((n,[])) ?_ ?_;exact⟨rfl,z10,Rn _⟩;rintro⟨k,s⟩ O2 ⟨eO,hk,Bv⟩;dsimp only at hk Bv ⊢;rw[eO];clear eO O2;rcases apI k with rfl | hp;have h0:lg 0=[]:=rfl;rw[h0,TR]at hk;refine ae df ?_;exact congrArg MV.s hk.symm;have hd:=To (k % 10);(((have hl:(lg n).length=(lg k).length+Ζ s:=by rw[hk,ai9]);have hr:(k:Int).tmod 10=((k % 10:Nat):Int):=by rw[Int.tmod_eq_emod_of_nonneg Λ];rfl);have hq:(k:Int).tdiv 10=((k / 10:Nat):Int):=by rw[Int.tdiv_eq_ediv_of_nonneg Λ];rfl);refine bo df hr hq hd ?_;refine aw.N (k / 10,Tn k++s) ⟨rfl,?_,by dsimp only;omega⟩;rw[hk,EA hp,List.append_assoc]
def mu(L:List Iv):de (L.flatMap fy)=L.flatMap fy:=iI (λx=>by simp only[fy,iS,Ro,TR,bg,aq,wu]) L
def ahY(x:fa):av (tQ x)=tQ x:=by
 obtain⟨e,⟨g,a,v⟩,p1,p2,p3,w⟩:=x;simp only[tQ,gV,aq,wu]
def MQ.fg{α :Type}{F:Except fa α}{K: α ->MV->VH->Prop}(h:VF Ε f xs O (MQ P O F λy m O'=>K y (uK m) O')):VF Ε f xs O (MQ P O F K):=VF.fgR (VF.mono (λr O' hr=>by
 cases r with
 | ret m=>
   cases F with
   | ok y=>exact hr
   | error e=>exact hr
 | panic m=>
   obtain⟨h1,h2⟩:=hr;refine(⟨h1,?_⟩:MQ P O F K (.panic (av m)) O');cases F with
   | ok y=>exact h2
   | error e=>
     replace h2:m=tQ e:=h2
     show av m=tQ e;rw[h2,ahY]) h)
def N2(hw:O.hp wb=φ (.cells (w7 tb bb g p W tw)))(qu:wb<O.N)(s w:Bs)(hs:Ζ s<=10000)(uc:Ζ w<=2000000:=by omega):VF Ε 99 [.p wb 0,.s s,.s w] O (MQ (λ_=>False) O (oQ g s w) λy m _=>m= .agg (jo y .av)):=by
 refine MQ.fg ?_;have G_:=λO'=>J3 s O' hs
 have nT:oQ g s w=if(ee s).2=0 then .ok (ee s).1 else .error ⟨(ee s).2,g,0,0,0,w++J4⟩:=rfl
 generalize oQ g s w=F at*;obtain⟨⟨⟨hd,v,L0⟩,e⟩,hPD⟩:∃x,ee s=x:=⟨_,rfl⟩
 rw[hPD]at G_ nT;dsimp only at nT G_;simp only[jo,aq,bg]at G_ ⊢;refine ω 22 [.cell 6 42] func99 ?_;refine κ df ?_;refine VC.bx ?_;rintro O1 ⟨aM,dz,dq⟩;refine κ df ?_;refine π (G_ _) ?_;rintro _ O2 ⟨S8,rfl,ax⟩;have dQ:=ax.at dz;have eG:=ax.N;refine ae df ?_;refine VC.al ?_;rintro O3 ⟨aB,eH,ea⟩;have ahZ:=aB.at dQ;have dk:=(aM.trans ax).trans aB;have GW:=(dk.hp _ qu).trans hw;by_cases he:e=0;rw[if_pos he]at nT;subst nT;((have hb:(e != 0)=γ:=by simpa using he);refine ξ df hb ?_;refine ι (aF df eH ahZ ?_);exact⟨.dG (dk.set Λ _),by simp only[wu,mu]⟩);rw[if_neg he]at nT;subst nT;(have hb:(e != 0)=Α:=by simpa using he);refine ξ df hb ?_;refine η (kD GW e (w++J4)) ?_;refine ak df @wd ?_;exact⟨dC.dG dk,rfl⟩
def dC.amz{O1 O2:VH}(h:dC (λ_=>False) O1 O2):O1.Ge O2:=⟨h.1,λi hi=>h.2 i hi (λe=>e)⟩
def aei{t:Bs}(h:Ζ t<=1024):(N1 t).length<=1024:=by
 unfold N1;split;decide;exact h
def N3(h:j5 O wb bb tb kr kd g p W tw L R cr tk st)(d:Dp)(w:Bs)(hd:Az d)(uc:Ζ w<=1000000:=by omega):VF Ε 95 [.p wb 0,.agg (aG d),.s w] O (MQ (λi=>i=tb\/i=kd) O (wA R g d w st) λy m O'=>m= .agg (aG y.1)/\j5 O' wb bb tb kr kd g p W tw L R cr tk y.2):=by
 obtain⟨R9,hR⟩:∃R9,wA R g d w st=R9:=⟨_,rfl⟩
 rw[hR];unfold wA at hR;have PV:=h.T.lt;have qu:=h.lt;obtain⟨hdg,hda,hdv,Sg,hdc,_,hdx⟩:=hd;obtain⟨dg,da,dv,dt,dc,gl,dO,dx⟩:=d;dsimp only at hdg hda hdv Sg hdc hdx hR ⊢;have xG:=aei Sg;have hW0:=h;have ly:dC (λi=>i=tb\/i=kd) O O:=.refl;simp only[aG,aq];refine ω 55 [.cell 6 64] func95 ?_;refine κ df ?_;refine VC.gen ?_;intro O1 e1;obtain⟨hG1,arQ,eo,cS⟩:=jS _ _ e1;have dq:O.N+2<=O1.N:=Λ
 have aM:dC (λi=>i=tb\/i=kd) O O1:=.dG hG1;have QV:=h.ge hG1;clear e1 hG1 arQ hW0 ly;refine ξ df eo ?_;refine ah.mq (QU QV dg (w++amv) γ) hR ?_ ?_;rintro e O9 jG rfl;refine ak df @wd ?_;exact⟨aM.trans jG,rfl⟩;clear hR;rintro y2 m O2p atG U3 h2p hR;obtain⟨y2,Qy⟩:=y2;obtain⟨rfl,h2p⟩:=h2p;dsimp only at hR h2p;have amA:=U3.at (show O.N<O1.N by omega) z17 eo;have amB:=U3.at (show O.N+1<O1.N by omega) z17 cS;have atH:=U3.1;refine ak df amA ?_;refine VC.gen ?_;intro O2 e2;have ax:dC (λi=>i=tb\/i=kd) O O2:=by rw[e2];exact(aM.trans U3).set (.inl (Rn _)) _
 have iO:O2.hp O.N=φ (.cells [.s y2,.s da,.s dv,.s dt,.s dc,.v (Ι Κ gl),.v (Ι Κ dO),.l (Ζ dx) (List.flatMap cI dx) .av]):=by rw[e2];exact υ _ _ _
 have bV:O2.hp (O.N+1)=φ (.cells [.s [],.s [],.s [],.s [],.s [],.v (Ι Κ 0),.v (Ι Κ 0),.l 0 [] .nil]):=by rw[e2];exact Θ amB
 have eG:O.N+2<=O2.N:=by rw[e2];show _<=O2p.N;omega
 have vn:j5 O2 wb bb tb kr kd g p W tw L R cr tk Qy:=by rw[e2];exact h2p.mv (Rn _) λi _ hi=>VH.sx
 clear e2 amA amB h2p U3;refine ξ df iO ?_;refine ah.mq (QU vn da (w++amw) γ) hR ?_ ?_;rintro e O9 jG rfl;refine ak df @wd ?_;exact⟨ax.trans jG,rfl⟩;clear hR;rintro y3 m O3p atI U_ h3p hR;obtain⟨y3,LA⟩:=y3;obtain⟨rfl,h3p⟩:=h3p;dsimp only at hR h3p;have amC:=U_.at (show O.N<O2.N by omega) z17 iO;have amD:=U_.at (show O.N+1<O2.N by omega) z17 bV;have atJ:=U_.1;refine ak df amC ?_;refine VC.gen ?_;intro O3 e3;have aB:dC (λi=>i=tb\/i=kd) O O3:=by rw[e3];exact(ax.trans U_).set (.inl (Rn _)) _
 have oY:O3.hp O.N=φ (.cells [.s y2,.s y3,.s dv,.s dt,.s dc,.v (Ι Κ gl),.v (Ι Κ dO),.l (Ζ dx) (List.flatMap cI dx) .av]):=by rw[e3];exact υ _ _ _
 have cE:O3.hp (O.N+1)=φ (.cells [.s [],.s [],.s [],.s [],.s [],.v (Ι Κ 0),.v (Ι Κ 0),.l 0 [] .nil]):=by rw[e3];exact Θ amD
 have ea:O.N+2<=O3.N:=by rw[e3];show _<=O3p.N;omega
 have AB:j5 O3 wb bb tb kr kd g p W tw L R cr tk LA:=by rw[e3];exact h3p.mv (Rn _) λi _ hi=>VH.sx
 clear e3 amC amD h3p U_;refine ξ df oY ?_;refine ah.mq (Hy AB dv (w++J4)) hR ?_ ?_;rintro e O9 jG rfl;refine ak df @wd ?_;exact⟨aB.trans jG,rfl⟩;clear hR;rintro y4 m O4p arR Va h4p hR;have Ya:=vv arR;obtain⟨y4,Fa⟩:=y4;obtain⟨rfl,h4p⟩:=h4p;dsimp only at hR h4p;have amE:=Va.at (show O.N<O3.N by omega) z17 oY;have amF:=Va.at (show O.N+1<O3.N by omega) z17 cE;have atK:=Va.1;refine ak df amE ?_;refine VC.gen ?_;intro O4 e4;have aV:dC (λi=>i=tb\/i=kd) O O4:=by rw[e4];exact(aB.trans Va).set (.inl (Rn _)) _
 have jx:O4.hp O.N=φ (.cells [.s y2,.s y3,.s y4,.s dt,.s dc,.v (Ι Κ gl),.v (Ι Κ dO),.l (Ζ dx) (List.flatMap cI dx) .av]):=by rw[e4];exact υ _ _ _
 have c8:O4.hp (O.N+1)=φ (.cells [.s [],.s [],.s [],.s [],.s [],.v (Ι Κ 0),.v (Ι Κ 0),.l 0 [] .nil]):=by rw[e4];exact Θ amF
 have fe:O.N+2<=O4.N:=by rw[e4];show _<=O4p.N;omega
 have xz:j5 O4 wb bb tb kr kd g p W tw L R cr tk Fa:=by rw[e4];exact h4p.mv (Rn _) λi _ hi=>VH.sx
 clear e4 amE amF h4p Va;dsimp only at Ya;refine Ξ [0,2,4,6] (λ_:Unit=>[.p wb 0,.s w,.p O.N 0,.p (O.N+1) 0]) (λ_ O'=>O4.Ge O'/\∃r,(if y4=[]then .ok ((γ,[],[]):Rg)else oQ g y4 w)= .ok r) ?_ ?_
 ·by_cases e:y4=[]
  ·have CR:(y4==[])=Α:=by simpa using e
   refine ι (aF df jx CR ?_);exact aE.mk () ⟨VH.Ge.refl _,_,if_pos e⟩
  ·have CR:(y4==[])=γ:=by simpa using e
   rw[if_neg e]at hR ⊢;refine ι (aF df jx CR ?_);refine ah.mq (N2 xz.cell xz.lt y4 w Λ) hR ?_ ?_;rintro e O9 jG rfl;refine ak df @wd ?_;exact⟨aV.trans (jG.mono λ_ _ h=>h.elim),rfl⟩;clear hR;rintro y5 m O5p arS arT h5p hR;subst h5p;refine ae df ?_;exact aE.mk () ⟨arT.amz,_,arS⟩
 rintro _ O5 ⟨N4,r5,nU⟩;rw[nU]at hR;dsimp only[fp]at hR;have e_:=N4.at jx;have dX:=N4.at c8;have bB:=aV.ge N4;have Vb:=xz.ge N4;have ie:O.N+2<=O5.N:=by have:=N4.N;omega
 clear N4 jx c8 nU;refine Ξ [0,2,4,6] (λ_:Unit=>[.p wb 0,.s w,.p O.N 0,.p (O.N+1) 0]) (λ_ O'=>dC (λi=>i=tb\/i=kd) O O'/\O.N+2<=O'.N/\O'.hp O.N=φ (.cells [.s y2,.s y3,.s y4,.s (N1 dt),.s dc,.v (Ι Κ gl),.v (Ι Κ dO),.l (Ζ dx) (List.flatMap cI dx) .av])/\O'.hp (O.N+1)=φ (.cells [.s [],.s [],.s [],.s [],.s [],.v (Ι Κ 0),.v (Ι Κ 0),.l 0 [] .nil])/\j5 O' wb bb tb kr kd g p W tw L R cr tk Fa) ?_ ?_
 ·by_cases e:dt=[];subst e;have he0:(([]:Bs)==[])=Α:=rfl;refine ι (aF df e_ he0 ?_);exact aE.mk () ⟨bB.set (.inl (Rn _)) _,by show _<=O5.N;omega,υ _ _ _,Θ dX,Vb.mv (Rn _) λi _ hi=>VH.sx⟩
  ·have he0:(dt==[])=γ:=by simpa using e
   have htf:N1 dt=dt:=if_neg e;rw[htf];refine ι (aF df e_ he0 ?_);exact aE.mk () ⟨bB,Λ,e_,dX,Vb⟩
 clear e_ dX bB Vb ie aM ax aB eo cS iO bV oY cE QV vn AB xz aV dq eG ea fe;rintro _ O6 ⟨dU,mQ,Aw,kH,LG⟩;generalize N1 dt=T at*;refine ξ df Aw ?_;refine ah.mq (QU LG T (w++amx) γ) hR ?_ ?_;rintro e O9 jG rfl;refine ak df @wd ?_;exact⟨dU.trans jG,rfl⟩;clear hR;rintro y7 m O7p ah0 Vc h7p hR;obtain⟨y7,st7⟩:=y7;obtain⟨rfl,h7p⟩:=h7p;dsimp only at hR h7p;have amG:=Vc.at (show O.N<O6.N by omega) z17 Aw;have Vd:=Vc.at (show O.N+1<O6.N by omega) z17 kH;have atL:=Vc.1;refine ak df amG ?_;refine VC.gen ?_;intro O7 e7;have dB:dC (λi=>i=tb\/i=kd) O O7:=by rw[e7];exact(dU.trans Vc).set (.inl (Rn _)) _
 have G3:O7.hp O.N=φ (.cells [.s y2,.s y3,.s y4,.s y7,.s dc,.v (Ι Κ gl),.v (Ι Κ dO),.l (Ζ dx) (List.flatMap cI dx) .av]):=by rw[e7];exact υ _ _ _
 have yp:O7.hp (O.N+1)=φ (.cells [.s [],.s [],.s [],.s [],.s [],.v (Ι Κ 0),.v (Ι Κ 0),.l 0 [] .nil]):=by rw[e7];exact Θ Vd
 have sk:O.N+2<=O7.N:=by rw[e7];show _<=O7p.N;omega
 have JM:j5 O7 wb bb tb kr kd g p W tw L R cr tk st7:=by rw[e7];exact h7p.mv (Rn _) λi _ hi=>VH.sx
 clear e7 amG Vd h7p Vc;refine ξ df G3 ?_;refine ah.mq (QU JM dc (w++amy) Α) hR ?_ ?_;rintro e O9 jG rfl;refine ak df @wd ?_;exact⟨dB.trans jG,rfl⟩;clear hR;rintro y8 m O8p atN Ve h8p hR;obtain⟨y8,st8⟩:=y8;obtain⟨rfl,h8p⟩:=h8p;dsimp only at hR h8p;have amH:=Ve.at (show O.N<O7.N by omega) z17 G3;have amI:=Ve.at (show O.N+1<O7.N by omega) z17 yp;have atO:=Ve.1;refine ak df amH ?_;refine VC.gen ?_;intro O8 e8;have gR:dC (λi=>i=tb\/i=kd) O O8:=by rw[e8];exact(dB.trans Ve).set (.inl (Rn _)) _
 have ha8:O8.hp O.N=φ (.cells [.s y2,.s y3,.s y4,.s y7,.s y8,.v (Ι Κ gl),.v (Ι Κ dO),.l (Ζ dx) (List.flatMap cI dx) .av]):=by rw[e8];exact υ _ _ _
 have yf:O8.hp (O.N+1)=φ (.cells [.s [],.s [],.s [],.s [],.s [],.v (Ι Κ 0),.v (Ι Κ 0),.l 0 [] .nil]):=by rw[e8];exact Θ amI
 have Ar:O.N+2<=O8.N:=by rw[e8];show _<=O8p.N;omega
 have Cf:j5 O8 wb bb tb kr kd g p W tw L R cr tk st8:=by rw[e8];exact h8p.mv (Rn _) λi _ hi=>VH.sx
 clear e8 amH amI h8p Ve;subst hR;refine ι (aF df ha8 yf ?_);exact⟨gR.set (.inl Λ) _,rfl,Cf.mv (Rn _) λi _ hi=>VH.sx⟩
end
def eW:=abT df<|abT GG<|abT T39<|abT aqm<|abT aqn<|abT aql<|abT SR<|abT IG SQ
def DP(a b:Ky):Bool:=(a.g==b.g)&&((a.a==b.a)&&((a.t==b.t)&&((a.c==b.c)&&Α)))
def akT(L:List Dp)(tk:Tok)(id:FuncId)(cs:Η)(p:Dp->Bool)(O:VH)(hid:cV Ε id=Α)(hc:∀x∈L,∀O',O.Ge O'->VF Ε id ([.agg (aG x)]++cs) O' (aC λm mS=>m=mb (p x)/\O'.Ge mS))(hn:Ζ L<=100000000):
  VF Ε 125 [.l (Ζ L) (L.flatMap aG) tk,.func (.func id) [] cs] O (aC λm O'=>m=mi (idxFrom p 0 L)/\O.Ge O'):=by
 have cz:=aP cW L;refine χ 19 [.tmp 4] func125 ?_;refine ae eW ?_;refine WC.cj [8] [0,1,7] (λj:Nat=>[mi j]) (λj O'=>O.Ge O'/\j<=(Ζ L)/\idxFrom p 0 L=idxFrom p j (L.drop j)) (λj=>(Ζ L) - j) (0) ?_ ?_;exact⟨VH.Ge.refl _,an2 _,rfl⟩;rintro j O2 ⟨ax,hj,bH⟩;by_cases h2:j<Ζ L;have bh:=bY cW L j h2;have Ye:=hc L[j] (an3 h2) O2 ax;rw[an4 h2,idxFrom]at bH;generalize L[j]=y at*;refine ak eW bh ?_;refine π Ye ?_ (hb:=hid);rintro _ O3 ⟨rfl,aB⟩;cases hi:p y;rw[hi]at bH;refine ae eW ?_;exact aw.N (j+1) ⟨ax.trans aB,Λ,bH⟩;rw[hi,if_pos rfl]at bH;rw[bH];refine ae eW ?_;exact ax.trans aB
 ·obtain rfl:j=Ζ L:=Λ
  rw[List.drop_of_length_le Λ]at bH;rw[bH];refine ae eW ?_;exact⟨rfl,ax⟩
def akU(x:Dp)(k:Ky)(b:Nat)(O:VH)(hb:O.hp b=φ (.cells (iL k)))(xm:b<O.N):VF Ε 126 [.agg (aG x),.p b 0] O (aC λm O'=>m=mb (DP (bZ x) k)/\O.Ge O'):=by
 have qZ:=λO'=>yT x O'
 generalize bZ x=K at*;obtain⟨k1,k2,k3,k4⟩:=k;obtain⟨x1,x2,x3,x4⟩:=K;obtain⟨dg,da,dv,dt,dc,gl,dO,dx⟩:=x;simp only[aG,iL,aq]at hb qZ ⊢;have hE:DP ⟨x1,x2,x3,x4⟩ ⟨k1,k2,k3,k4⟩=((x1==k1)&&((x2==k2)&&((x3==k3)&&((x4==k4)&&Α)))):=rfl;refine ω 8 [.tmp 3] func126 ?_;refine κ eW ?_;refine VC.bx ?_;rintro O1 ⟨aM,dz,dq⟩;have cS:=aM.at hb;refine Δ ?_;refine VC.tA [] (O.N) (b) (dz) (cS) ?_ (hne:=Λ);intro X1 X2;refine ε (m:=.agg [.s dg,.s da,.s dv,.s dt,.s dc,.v (Ι Κ gl),.v (Ι Κ dO),.l (Ζ dx) (dx.flatMap cI) .av]) 0 (λ_ h=>h.1) (λ_ h=>h.1) ?_ ?_;exact ez eW;simp only[ag];refine ε (m:=.agg [.s k1,.s k2,.s k3,.s k4]) 2 (λ_ h=>h.2) (λ_ h=>h.2) ?_ ?_;exact ez eW;simp only[ag];have hJ:GO O.N b X1 X2 ((O1.set O.N (.obj X1)).set b (.obj X2)):=⟨Θ (υ _ _ _),υ _ _ _⟩;have ea:((O1.set O.N (.obj X1)).set b (.obj X2)).N=O1.N:=rfl;have mh:∀i,i≠O.N->i≠b->((O1.set O.N (.obj X1)).set b (.obj X2)).hp i=O1.hp i:=λi h1 h2=>by rw[τ _ _ h2,τ _ _ h1]
 generalize (O1.set O.N (.obj X1)).set b (.obj X2)=O3 at*;refine ab.call (i:=1) (qZ O3) ?_;rintro _ O4 ⟨rfl,aV⟩;simp only[ag];refine⟨⟨aV.at hJ.1,aV.at hJ.2⟩,?_⟩;refine ab.pure 3 (d_.ud (b:=DP ⟨x1,x2,x3,x4⟩ ⟨k1,k2,k3,k4⟩) aa (.inl ⟨rfl,rfl⟩) z11 z11 rfl rfl) ?_;simp only[ag];refine ρ 4 eW ?_;refine ab.pZ [] ?_ (hne:=Λ);refine ae eW ?_;refine ν eW ?_;have fe:=aV.N;refine⟨by show O.N<=O4.N;omega,λi hi=>?_⟩;by_cases e:i=b;subst e;rw[υ];exact hb.symm;rw[τ _ _ e,VH.sx,aV.hp i Λ,mh i Λ e,aM.hp i hi]
def N5(d:Dp):Option Dp->Dp
 | none=>d
 | some m=>⟨d.g,d.a,if d.v=[]then m.v else d.v,d.t,d.c,if d.s=0 then m.s else d.s,if d.o=0 then m.o else d.o,if (Ζ d.x)=0 then m.x else d.x⟩
def DQ(L:List Dp)(d:Dp):Dp:=N5 d (L.find? λx=>DP (bZ x) (bZ d))
def N6{α :Type}(p: α ->Bool):∀(M:List α)(j:Nat),(idxFrom p j M= -1/\M.find? p=Β)\/∃i m,idxFrom p j M=((j+i:Nat):Int)/\(∃h:i<Ζ M,M[i]=m)/\M.find? p=φ m
 | [],j=>.inl ⟨rfl,rfl⟩
 | x::M,j=>by
   rw[idxFrom,List.find?_cons];cases hx:p x with
   | true=>exact .inr ⟨0,x,rfl,⟨Nat.zero_lt_succ _,rfl⟩,rfl⟩
   | false=>
     rcases N6 p M (j+1)with⟨h1,h2⟩ | ⟨i,m,h1,⟨h2,h3⟩,h4⟩;exact .inl ⟨by rw[if_neg z10];exact h1,h2⟩;exact .inr ⟨i+1,m,by rw[if_neg z10,h1];omega,⟨Nat.succ_lt_succ h2,h3⟩,h4⟩
def Zj(d:Dp)(L:List Dp)(tk:Tok)(O:VH)(hx:Ζ d.x<=10000)(hL:Ζ L<=100000000)(hLx:∀m∈L,Ζ m.x<=10000):VF Ε 98 [.agg (aG d),.l (Ζ L) (L.flatMap aG) tk] O (aC λm O'=>m= .agg (aG (DQ L d))/\O.Ge O'):=by
 have hk:=λO'=>yT d O'
 have cz:=aP cW L;have CW:=λ(O':VH)(b:Nat)(h1:O'.hp b=φ (.cells (iL (bZ d))))(h2:b<O'.N)=>akT L tk 126 [.p b 0] (λx=>DP (bZ x) (bZ d)) O' z11 (λx _ O2 g=>akU x (bZ d) b O2 (g.at h1) (aja h2 g.N)) hL
 have hfi:=N6 (λx=>DP (bZ x) (bZ d)) L 0;unfold DQ;generalize idxFrom (λx=>DP (bZ x) (bZ d)) 0 L=I at*;generalize L.find? (λx=>DP (bZ x) (bZ d))=F at*;generalize bZ d=K at*;obtain⟨k1,k2,k3,k4⟩:=K;obtain⟨dg,da,dv,dt,dc,gl,dO,dx⟩:=d;dsimp only at hx;obtain⟨LL,hLL⟩:∃LL,LL=L.flatMap aG:=⟨_,rfl⟩
 rw[<-hLL]at CW cz ⊢;simp only[iL]at hk CW;have DE:aG ⟨dg,da,dv,dt,dc,gl,dO,dx⟩=[.s dg,.s da,.s dv,.s dt,.s dc,.v (Ι Κ gl),.v (Ι Κ dO),.l (Ζ dx) (dx.flatMap cI) .av]:=rfl;rw[DE]at hk ⊢;refine ω 49 [.cell 4 64] func98 ?_;refine κ eW ?_;refine VC.gen ?_;intro O1 e1;obtain⟨aM,dq,eo,cS⟩:=jS _ _ e1;clear e1;refine ξ eW eo ?_;refine π (hk _) ?_;rintro _ O2 ⟨rfl,ax⟩;have arU:=aM.trans ax;have iO:=ax.at eo;have bV:=ax.at cS;have eG:=ax.N;clear eo cS hk aM ax;refine ae eW ?_;refine VC.al ?_;rintro O3 ⟨aB,eH,ea⟩;have amJ:=arU.trans aB;have oY:=aB.at iO;have cE:=aB.at bV;clear iO bV;refine κ eW ?_;refine π (CW O3 O2.N eH Λ) ?_;rintro _ O4 ⟨rfl,aV⟩;have amK:=amJ.trans aV;have jx:=aV.at oY;have c8:=aV.at cE;have fe:=aV.N;clear oY cE amJ CW;refine ae eW ?_;refine Ξ [2,4] (λ_:Unit=>[.p O.N 0,.p (O.N+1) 0]) (λ_ O'=>O.Ge O'/\O.N+2<=O'.N/\O'.hp O.N=φ (.cells (aG (N5 ⟨dg,da,dv,dt,dc,gl,dO,dx⟩ F)))/\O'.hp (O.N+1)=φ (.cells [.s [],.s [],.s [],.s [],.s [],.v (Ι Κ 0),.v (Ι Κ 0),.l 0 [] .nil])) ?_ ?_
 ·rcases hfi with⟨rfl,rfl⟩ | ⟨i,m,rfl,⟨hi,hm⟩,rfl⟩;refine ν eW ?_;exact aE.mk () ⟨amK,Λ,jx,c8⟩
  ·have e0:((0+i:Nat):Int)=(i:Int):=Λ
   rw[e0];have An:=hLx m (hm▸List.getElem_mem hi);have bh:=bY cW L i hi;rw[hm, <-hLL]at bh;obtain⟨mg,ma,mv,mt,mc,ms,mo,mx⟩:=m;simp only[aG,aq]at bh;dsimp only at An;have e1:decide ((i:Int)>=0)=Α:=decide_eq_true Λ;have e2:decide ((0:Int)<=i)=Α:=e1;refine ξ @eW (And.intro e1 e2) ?_;refine VC.qI rfl ?_;refine ξ @eW @bh ?_;refine VC.al ?_;rintro O5 ⟨ah1,G9,ie⟩;have bB:=amK.trans ah1;have Jp:O4.N<O5.N:=Λ;have e_:=ah1.at jx;have dX:=ah1.at c8;refine Ξ [2,4,7] (λ_:Unit=>[.p O.N 0,.p (O.N+1) 0,.p O4.N 0]) (λ_ O'=>O.Ge O'/\O4.N<O'.N/\O'.hp O.N=φ (.cells [.s dg,.s da,.s (if dv=[]then mv else dv),.s dt,.s dc,.v (Ι Κ gl),.v (Ι Κ dO),.l (Ζ dx) (dx.flatMap cI) .av])/\O'.hp (O.N+1)=φ (.cells [.s [],.s [],.s [],.s [],.s [],.v (Ι Κ 0),.v (Ι Κ 0),.l 0 [] .nil])/\O'.hp O4.N=φ (.cells [.s mg,.s ma,.s mv,.s mt,.s mc,.v (Ι Κ ms),.v (Ι Κ mo),.l (Ζ mx) (mx.flatMap cI) .av])) ?_ ?_
   ·by_cases e:dv=[]
    ·have uR:(dv==[])=Α:=by simpa using e
     refine ι (bo eW e_ G9 uR ?_);exact aE.mk () ⟨bB.set (Rn _) _,Jp,by first | exact υ _ _ _ | (simp only[if_pos e];exact υ _ _ _),Θ dX,Θ G9⟩
    ·have uR:(dv==[])=γ:=by simpa using e
     refine ι (aF eW e_ uR ?_);exact aE.mk () ⟨bB,Jp,by first | exact e_ | (simp only[if_neg e];exact e_),dX,G9⟩
   rintro _ O6 ⟨dU,Yp,Aw,kH,AE⟩;refine Ξ [2,4,7] (λ_:Unit=>[.p O.N 0,.p (O.N+1) 0,.p O4.N 0]) (λ_ O'=>O.Ge O'/\O4.N<O'.N/\O'.hp O.N=φ (.cells [.s dg,.s da,.s (if dv=[]then mv else dv),.s dt,.s dc,.v (Ι Κ (if gl=0 then ms else gl)),.v (Ι Κ dO),.l (Ζ dx) (dx.flatMap cI) .av])/\O'.hp (O.N+1)=φ (.cells [.s [],.s [],.s [],.s [],.s [],.v (Ι Κ 0),.v (Ι Κ 0),.l 0 [] .nil])/\O'.hp O4.N=φ (.cells [.s mg,.s ma,.s mv,.s mt,.s mc,.v (Ι Κ ms),.v (Ι Κ mo),.l (Ζ mx) (mx.flatMap cI) .av])) ?_ ?_
   ·by_cases e:gl=0
    ·have uR:(gl==0)=Α:=by simpa using e
     refine ι (bo eW Aw AE uR ?_);exact aE.mk () ⟨dU.set (Rn _) _,Yp,by first | exact υ _ _ _ | (simp only[if_pos e];exact υ _ _ _),Θ kH,Θ AE⟩
    ·have uR:(gl==0)=γ:=by simpa using e
     refine ι (aF eW Aw uR ?_);exact aE.mk () ⟨dU,Yp,by first | exact Aw | (simp only[if_neg e];exact Aw),kH,AE⟩
   rintro _ O7 ⟨dB,hl7,G3,yp,hm7⟩;refine Ξ [2,4,7] (λ_:Unit=>[.p O.N 0,.p (O.N+1) 0,.p O4.N 0]) (λ_ O'=>O.Ge O'/\O4.N<O'.N/\O'.hp O.N=φ (.cells [.s dg,.s da,.s (if dv=[]then mv else dv),.s dt,.s dc,.v (Ι Κ (if gl=0 then ms else gl)),.v (Ι Κ (if dO=0 then mo else dO)),.l (Ζ dx) (dx.flatMap cI) .av])/\O'.hp (O.N+1)=φ (.cells [.s [],.s [],.s [],.s [],.s [],.v (Ι Κ 0),.v (Ι Κ 0),.l 0 [] .nil])/\O'.hp O4.N=φ (.cells [.s mg,.s ma,.s mv,.s mt,.s mc,.v (Ι Κ ms),.v (Ι Κ mo),.l (Ζ mx) (mx.flatMap cI) .av])) ?_ ?_
   ·by_cases e:dO=0
    ·have uR:(dO==0)=Α:=by simpa using e
     refine ι (bo eW G3 hm7 uR ?_);exact aE.mk () ⟨dB.set (Rn _) _,hl7,by first | exact υ _ _ _ | (simp only[if_pos e];exact υ _ _ _),Θ yp,Θ hm7⟩
    ·have uR:(dO==0)=γ:=by simpa using e
     refine ι (aF eW G3 uR ?_);exact aE.mk () ⟨dB,hl7,by first | exact G3 | (simp only[if_neg e];exact G3),yp,hm7⟩
   rintro _ O8 ⟨gR,GK,ha8,yf,hm8⟩;have Y3:aG (N5 ⟨dg,da,dv,dt,dc,gl,dO,dx⟩ (φ ⟨mg,ma,mv,mt,mc,ms,mo,mx⟩))=[.s dg,.s da,.s (if dv=[]then mv else dv),.s dt,.s dc,.v (Ι Κ (if gl=0 then ms else gl)),.v (Ι Κ (if dO=0 then mo else dO)),.l (if (Ζ dx)=0 then mx else dx).length ((if (Ζ dx)=0 then mx else dx).flatMap cI) .av]:=rfl;rw[Y3];clear Y3;generalize (if dv=[]then mv else dv)=nv at*;generalize (if gl=0 then ms else gl)=ns at*;generalize (if dO=0 then mo else dO)=no at*;cases dx with
   | nil=>
     refine ι (aF eW ha8 hm8 ?_);exact aE.mk () ⟨gR.set (Rn _) _,by show O.N+2<=O8.N;omega,υ _ _ _,Θ yf⟩
   | cons x r=>
     (have hne:(((x::r).length:Nat):Int)≠0:=by simp;omega);have uR:((((x::r).length:Nat):Int)==0)=γ:=by simpa using hne
     generalize hXR:x::r=XR at*;(have Gz:(if (Ζ XR)=0 then mx else XR)=XR:=by rw[<-hXR];rfl);refine ι (aF eW ha8 uR ?_);exact aE.mk () ⟨gR,Λ,by rw[Gz];exact ha8,yf⟩
 rintro _ O9 ⟨bq,yP,ha9,kK⟩
 have QG:(N5 ⟨dg,da,dv,dt,dc,gl,dO,dx⟩ F).x.length<=10000:=by
  rcases hfi with⟨rfl,rfl⟩ | ⟨i,m,rfl,⟨hi,hm⟩,rfl⟩;exact hx;have:=hLx m (hm▸an3 hi);dsimp only[N5];split<;>omega
 generalize (N5 ⟨dg,da,dv,dt,dc,gl,dO,dx⟩ F)=D at*;obtain⟨zg,za,zv,zt,zc,zs,zo,zx⟩:=D;simp only[aG,aq]at ha9 ⊢;dsimp only at QG;refine ξ eW ha9 ?_;refine π (sy zx .av _) ?_;rintro _ O4 ⟨rfl,aV⟩;have jx:=aV.at ha9;have c8:=aV.at kK;refine ak eW jx ?_;refine ο eW c8 ?_;exact((bq.trans aV).set (Rn _) _).set (Nat.le_succ _) _
structure Zk(O:VH)(gb mb B:Nat)(L:List Dp)(M:gx)(cm:Nat)(tk:Tok):Prop where
 cell:O.hp gb=φ (.cells [.l (Ζ L) (L.flatMap aG) tk,.map mb])
 map:O.hp mb=φ (.map (dw M) cm)
 ok:uM 4 M
 app:App O B 8 tk
 lt:gb<O.N/\mb<O.N
 ne:gb≠mb
def Zk.ge{mb:Nat}{M:gx}(h:Zk O gb mb B L M cm tk)(g:O.Ge O'):Zk O' gb mb B L M cm tk:=
 ⟨(g.hp _ h.lt.1).trans h.cell,(g.hp _ h.lt.2).trans h.map,h.ok,h.app.ge g,⟨aja h.lt.1 g.N,aja h.lt.2 g.N⟩,h.ne⟩
def apc{mb:Nat}{M:gx}(h:Zk O gb mb B L M cm tk)(d:Dp)(hd:oL d)(hL:Ζ L<=100000000)(hB:B<=O.N)(cZ:∀p∈M,p.1≠dm (bZ d)):
  VF Ε 96 [.p gb 0,.agg (aG d)] O (aC λ_ O'=>(∃tk',Zk O' gb mb B (L++[d]) (M++[(dm (bZ d),.v (.bool Α),cm)]) (cm+1) tk'/\(∀i,Tok.id tk'=φ i->O.N<=i))/\O.N<=O'.N/\∀i,i<O.N->i≠gb->i≠mb->Tok.id tk≠φ i->O'.hp i=O.hp i):=by
 have qZ:=λO'=>yT d O'
 have ym:=yU hd;have Y4:(iL (bZ d))=(dm (bZ d)).map .s:=rfl;have hud:de (aG d)=aG d:=by simpa using iC [d]
 have KY:=px cZ
 have GS:M.any (·.1==dm (bZ d))=γ:=by
  rw[List.any_eq_false];intro p hp Lw;exact cZ p hp (eq_of_beq Lw)
 have hgm:∃es:Dp,es=d:=⟨_,rfl⟩
 generalize hK:bZ d=K at*;obtain⟨k1,k2,k3,k4⟩:=K;obtain⟨dg,da,dv,dt,dc,gl,dO,dx⟩:=d;simp only[aG,aq,iL]at qZ hud ⊢;refine ω 29 [] func96 ?_;refine κ eW ?_;refine VC.bx ?_;rintro O1 ⟨aM,dz,dq⟩;refine ξ eW dz ?_;refine π (qZ _) ?_;rintro _ O2 ⟨rfl,ax⟩;refine ae eW ?_;refine VC.al ?_;rintro O3 ⟨aB,eH,ea⟩;have dk:=(aM.trans ax).trans aB;have arV:=(ax.trans aB).at dz;have h3:=h.ge dk;have en:=h3.cell;refine Δ ?_;refine WC.bM (.held []) [(0,.rd),(1,.rd),(2,.rd),(3,.rd),(4,.rd),(5,.rd),(6,.rd)] ?_;refine aF eW en eH ?_;refine VL.hold (.inr rfl) rfl rfl (gf.kP sA aa (l:=dm ⟨k1,k2,k3,k4⟩) (te:=⟨_,1,1,[.v (.bool γ)]⟩) Tryz.underlying215 T4 rfl rfl h3.map h3.ok rfl rfl ym) (WL.sound aa ?_);rw[KY];refine ae eW ?_;refine VC.qI rfl ?_;refine Δ ?_;refine WC.bM (.held [5]) [(0,.rd),(1,.rd),(2,.rd),(3,.rd),(4,.rd),(5,.one)] ?_;refine aF eW en eH ?_;refine VL.vP rfl rfl (vO.kY sA (l:=dm ⟨k1,k2,k3,k4⟩) (b:=mb) (ck:=cm) (M:=M) Tryz.underlying215 rfl h3.map h3.ok rfl rfl ym rfl) (λbrk hb i hi=>?_) (WL.sound aa ?_)
 ·cases hb
  rcases i with _ | _ | _ | _ | _ | _ | i<;>first
   | rfl
   | (exfalso;revert hi;simp)
 have qO:=uO (y:=.v (.bool Α)) (ck:=cm) h3.ok (l:=dm ⟨k1,k2,k3,k4⟩) rfl ym;unfold kY at qO;unfold kY XC;rw[GS]at qO ⊢;have DG:=h3.ne;have Dm:=h3.lt;refine ae eW ?_;refine VC.gen ?_;intro O4 e4;have fe:O4.N=O3.N:=by rw[e4];rfl
 have sP:∀i,i≠mb->O4.hp i=O3.hp i:=λi h1=>by rw[e4,τ _ _ h1]
 have DC:O4.hp mb=φ (.map (dw (M++[(dm ⟨k1,k2,k3,k4⟩,MV.v (.bool Α),cm)])) (cm+1)):=by rw[e4];exact υ _ _ _
 clear e4;have ff:=(sP gb DG).trans en;have yG:=(sP O.N (λe=>by subst e;have:=h.lt;omega)).trans arV;have lh:App O4 B 8 tk:=h3.app.mv Λ λi hi e=>(sP i (λe2=>by subst e2;rw[h3.map]at e;cases e)).trans e
 have arW:=bE (tk:=tk) (tk':=.full) (n:=Ζ L) (k:=1) (cs:=L.flatMap aG) (ds:=[.s dg,.s da,.s dv,.s dt,.s dc,.v (Ι Κ gl),.v (Ι Κ dO),.l (Ζ dx) (dx.flatMap cI) .av]) GG GF.1.1 lh (aP cW L);have kJ:∀i,i<O4.N->O4.hp i≠φ .tok->(O4.after tk).hp i=O4.hp i:=λi h1 h2=>App.off lh h1 h2
 have J6:=(kJ gb Λ (by rw[ff];simp)).trans ff;have hmA:=(kJ mb Λ (by rw[DC];simp)).trans DC;refine WC.bM (.held [10]) [(0,.rd),(1,.rd),(2,.rd),(3,.rd),(4,.rd),(5,.rd),(6,.one),(7,.one),(8,.one),(9,.rd),(10,.one)] ?_;refine aF eW ff yG ?_;refine VL.app arW ?_;refine ak eW J6 ?_;have Fb:=dR.after lh;refine⟨⟨.own O4.N 8,⟨?_,?_,qO,?_,?_,DG⟩,λi hi=>by injection hi with hi;have:=dk.N;omega⟩,?_,?_⟩;rw[ai9,apE];exact υ _ _ _;exact(τ _ _ (Ne.symm DG)).trans hmA;exact(App.after (by have:=dk.N;omega)).iV (by rw[J6];simp);have:=Fb.N;exact⟨by show _<(O4.after tk).N;omega,by show _<(O4.after tk).N;omega⟩;have:=Fb.N;have:=dk.N;show _<=(O4.after tk).N;omega;intro i h1 h2 h3 h4;have:=dk.N;rw[τ _ _ h2,Fb.hp i Λ h4,sP i h3,dk.hp i h1]
structure nM(O:VH)(gb mb B:Nat)(L:List Dp)(tk:Tok):Prop where
 ex:∃M cm,Zk O gb mb B L M cm tk/\∀kl,fD kl M=if L.any (λx=>dm (bZ x)==kl)then φ (.v (.bool Α))else Β
def nN(L:List Dp)(d:Dp):List Dp:=if L.any (λx=>dm (bZ x)==dm (bZ d))then L else L++[d]
def nM.ge{mb:Nat}(h:nM O gb mb B L tk)(g:O.Ge O'):nM O' gb mb B L tk:=by
 obtain⟨M,cm,h1,h2⟩:=h;exact⟨M,cm,h1.ge g,h2⟩
def nM.mv{mb:Nat}(h:nM O gb mb B L tk)(hn:O.N<=O'.N)(hi:∀i,i<O.N->i=gb\/i=mb\/Tok.id tk=φ i->O'.hp i=O.hp i):nM O' gb mb B L tk:=by
 obtain⟨M,cm,h1,h2⟩:=h;refine⟨M,cm,⟨(hi _ h1.lt.1 (.inl rfl)).trans h1.cell,(hi _ h1.lt.2 (.inr (.inl rfl))).trans h1.map,h1.ok,?_,⟨by have:=h1.lt.1;omega,by have:=h1.lt.2;omega⟩,h1.ne⟩,h2⟩;have ha:=h1.app;cases tk with
 | own t j=>exact⟨ha.1,(hi t ha.2.2.2 (.inr (.inr rfl))).trans ha.2.1,ha.2.2.1,by have:=ha.2.2.2;omega⟩
 | nil=>trivial
 | full=>trivial
 | av=>exact ha.elim
def akV{mb:Nat}{M:gx}(h:Zk O gb mb B L M cm tk)(d:Dp)(hd:oL d)(KY:fD (dm (bZ d)) M=φ (.v (.bool Α))):
  VF Ε 96 [.p gb 0,.agg (aG d)] O (aC λ_ O'=>O.Ge O'):=by
 have qZ:=λO'=>yT d O'
 have ym:=yU hd;generalize hK:bZ d=K at*;obtain⟨k1,k2,k3,k4⟩:=K;obtain⟨dg,da,dv,dt,dc,gl,dO,dx⟩:=d;simp only[aG,aq,iL]at qZ ⊢;refine ω 29 [] func96 ?_;refine κ eW ?_;refine VC.bx ?_;rintro O1 ⟨aM,dz,dq⟩;refine ξ eW dz ?_;refine π (qZ _) ?_;rintro _ O2 ⟨rfl,ax⟩;refine ae eW ?_;refine VC.al ?_;rintro O3 ⟨aB,eH,ea⟩;have dk:=(aM.trans ax).trans aB;have h3:=h.ge dk;have en:=h3.cell;refine Δ ?_;refine WC.bM (.held []) [(0,.rd),(1,.rd),(2,.rd),(3,.rd),(4,.rd),(5,.rd),(6,.rd)] ?_;refine aF eW en eH ?_;refine VL.hold (.inr rfl) rfl rfl (gf.kP sA aa (l:=dm ⟨k1,k2,k3,k4⟩) (te:=⟨_,1,1,[.v (.bool γ)]⟩) Tryz.underlying215 T4 rfl rfl h3.map h3.ok rfl rfl ym) (WL.sound aa ?_);rw[KY];refine ae eW ?_;refine VC.oc rfl ?_;refine ν eW ?_;exact dk
def QW{mb:Nat}(h:nM O gb mb B L tk)(d:Dp)(hd:oL d)(hL:Ζ L<=100000000)(hB:B<=O.N):
  VF Ε 96 [.p gb 0,.agg (aG d)] O (aC λ_ O'=>∃tk',nM O' gb mb B (nN L d) tk'/\Ex O tk tk'/\O.N<=O'.N/\∀i,i<O.N->i≠gb->i≠mb->Tok.id tk≠φ i->O'.hp i=O.hp i):=by
 obtain⟨M,cm,h1,h2⟩:=h;have hk:=h2 (dm (bZ d));unfold nN;cases iw:L.any (λx=>dm (bZ x)==dm (bZ d))with
 | true=>
   rw[iw,if_pos rfl]at hk;refine VF.lG (akV h1 d hd hk) ?_;intro m O' g;rw[if_pos rfl];exact⟨tk,⟨M,cm,h1.ge g,h2⟩,.inl rfl,g.N,λi hi _ _ _=>g.hp i hi⟩
 | false=>
   rw[iw,if_neg z10]at hk;refine VF.lG (apc h1 d hd hL hB (wj hk)) ?_;rintro m O' ⟨⟨tk',hG,ht⟩,hn,hi⟩;rw[if_neg z10];refine⟨tk',⟨_,_,hG,λkl=>?_⟩,.inr ht,hn,hi⟩;rw[List.any_append];by_cases e:kl=dm (bZ d);subst e;rw[yY (wj hk)];simp;rw[yX e,h2];(have:([d].any λx=>dm (bZ x)==kl)=γ:=by simpa using Ne.symm e);rw[this,Bool.or_false]
def abj{C:Dp->Prop}(hL:∀x∈L,C x)(hd:C d):∀x∈nN L d,C x:=λx hx=>by
 unfold nN at hx;split at hx;exact hL x hx;rcases an7.1 hx with hx | hx;exact hL x hx;rw[alp.1 hx];exact hd
def N7(L:List Dp)(d:Dp):(nN L d).length<=Ζ L+1:=by
 unfold nN;split;exact Nat.le_succ _;rw[ai9];exact Rn _
def eS:=abT eW<|abT T3<|abT PK T9
def App.at(h:App O B sz tk)(hn:O.N<=O'.N)(hi:∀i,Tok.id tk=φ i->O'.hp i=O.hp i):App O' B sz tk:=by
 cases tk with
 | own t k=>exact⟨h.1,(hi t rfl).trans h.2.1,h.2.2.1,aja h.2.2.2 hn⟩
 | nil=>trivial
 | full=>trivial
 | av=>exact h.elim
def App.tok(h:App O B sz tk)(e:Tok.id tk=φ i):O.hp i=φ .tok:=by
 cases tk with
 | own t k=>injection e with e;subst e;exact h.2.1
 | nil=>cases e
 | full=>cases e
 | av=>cases e
structure rJ(d:Dp):Prop where
 g:Ζ d.g<=4096
 a:Ζ d.a<=4096
 v:Ζ d.v<=4096
 t:Ζ d.t<=4096
 c:Ζ d.c<=4096
 s:0<=d.s/\d.s<=6
 x:Ζ d.x<=1024
 pv:d.v=[]\/(ee d.v).2=0
def rJ.ok(h:rJ d):oL d:=⟨aev h.g z12,aev h.a z12,aev h.v z12,aev h.t z12,aev h.c z12,aev h.x z12⟩
def lu{α β :Type}{F:Except fa α}{k: α ->Except fa β}{y: β}(h:fp F k= .ok y):∃x,F= .ok x/\k x= .ok y:=by
 unfold fp at h;split at h;cases h;exact⟨_,rfl,h⟩
def ah2{α β :Type}{F:Except fa α}{k: α ->Except fa β}{e:fa}(h:fp F k= .error e):F= .error e\/∃x,F= .ok x/\k x= .error e:=by
 unfold fp at h;split at h;injection h with h;subst h;exact .inl rfl;exact .inr ⟨_,rfl,h⟩
def DR{w:Bs}{em:Bool}{st:cT}{y:Bs×cT}(h:QT R g s w em st= .ok y):Ζ y.1<=4096:=by
 obtain⟨x,h1,h2⟩:=lu h;split at h2;injection h2 with h2;subst h2;exact vv h1;cases h2
def Fc{R:eL}{g:Gv}{d:Dp}{w:Bs}{st:cT}{y:Dp×cT}(hd:Az d)(h:wA R g d w st= .ok y):rJ y.1:=by
 obtain⟨y1,h1,h⟩:=lu h;obtain⟨y2,h2,h⟩:=lu h;obtain⟨y3,h3,h⟩:=lu h;obtain⟨y4,h4,h⟩:=lu h;obtain⟨y5,h5,h⟩:=lu h;obtain⟨y6,h6,h⟩:=lu h;injection h with h;subst h;refine⟨DR h1,DR h2,vv h3,DR h5,DR h6,hd.s,hd.x,?_⟩;split at h4;left;assumption;right;unfold oQ at h4;split at h4;assumption;cases h4
def abk(hL:∀m∈L,rJ m)(hd:rJ d):rJ (DQ L d):=by
 unfold DQ;cases hf:L.find? λx=>DP (bZ x) (bZ d)with
 | none=>exact hd
 | some m=>
   have hm:=hL m (atM hf);refine⟨hd.g,hd.a,?_,hd.t,hd.c,?_,?_,?_⟩;show(if d.v=[]then m.v else d.v).length<=4096;split;exact hm.v;exact hd.v;show 0<=(if d.s=0 then m.s else d.s)/\(if d.s=0 then m.s else d.s)<=6;split;exact hm.s;exact hd.s;show(if (Ζ d.x)=0 then m.x else d.x).length<=1024;split;exact hm.x;exact hd.x;show(if d.v=[]then m.v else d.v)=[]\/(ee (if d.v=[]then m.v else d.v)).2=0;split;exact hm.pv;exact hd.pv
structure mw where
 k:Ky
 r:Rg
 s:Int
 o:Bool
 x:List iR
def eK(n:mw):Η:=iL n.k++jo n.r .av++[mi n.s,mb n.o,.l (Ζ n.x) (n.x.flatMap cI) .av]
def pQ(x:mw):(eK x).length=10:=rfl
def J7(n:mw):de (eK n)=eK n:=by simp only[eK,iL,jo,List.cons_append,List.nil_append,aq,bg,wu,uX,mu]
def rS(L:List mw):de (L.flatMap eK)=L.flatMap eK:=iI J7 L
def Vf(i:Nat):Bs:=[100,101,112,101,110,100,101,110,99,121,91]++lg (i+1)++[93]
def J8(d:Dp):mw:=⟨bZ d,(ee d.v).1,max d.s 1,d.o==1,d.x⟩
def N8(A:List Dp)(N:List mw)(d:Dp):List mw:=if A.any (λx=>dm (bZ x)==dm (bZ d))then N else N++[J8 d]
def oR(R:eL)(g:Gv)(bL:List Dp):List Dp->Nat->List Dp->List mw->cT->Except fa (List mw×cT)
 | [],_,_,N,st=>.ok (N,st)
 | d::r,i,A,N,st=>fp (wA R g d (Vf i) st) λy=>if(DQ bL y.1).v=[]then .error ⟨26,g,0,0,0,Vf i++J4⟩else oR R g bL r (i+1) (nN A (DQ bL y.1)) (N8 A N (DQ bL y.1)) y.2
section
variable{O O':VH}{wb bb tb kr kd cr:Nat}{g:Gv}{p:Pm}{W:List Gv}{tw tk:Tok}{L:List (Bs×Bs)}{R:eL}{st:cT}
def MQ.ret{α :Type}{y: α}{K: α ->MV->VH->Prop}(h:VF Ε f xs O (MQ P O (.ok y) K)):VF Ε f xs O (aC λm O'=>dC P O O'/\K y m O'):=VF.mono (λr O' hr=>by
 cases r with
 | ret m=>exact hr
 | panic m=>exact hr.2.elim) h
def aej(h:j5 O wb bb tb kr kd g p W tw L R cr tk st)(bL:List Dp)(t:Tok)(Vg:∀m∈bL,rJ m)(nQ:Ζ bL<=100000000)(sM:∀d∈p.dH,Az d)(cz:Ζ p.dH<=100000):
  VF Ε 74 [.p wb 0,.l (Ζ bL) (bL.flatMap aG) t] O (MQ (λi=>i=tb\/i=kd) O (oR R g bL p.dH 0 [] [] st) λy m O'=>(∃t',m= .l (Ζ y.1) (y.1.flatMap eK) t')/\j5 O' wb bb tb kr kd g p W tw L R cr tk y.2):=by
 obtain⟨R9,hR⟩:∃R9,oR R g bL p.dH 0 [] [] st=R9:=⟨_,rfl⟩
 rw[hR];have PV:=h.T.lt;have qu:=h.lt;have hTn:=h.ne;have Zl:=aP cW p.dH;obtain⟨MM,Y3⟩:∃MM,MM=bL.flatMap aG:=⟨_,rfl⟩
 have y_:=λ(d:Dp)(hx:Ζ d.x<=10000)(O':VH)=>Zj d bL t O' hx nQ (λm hm=>aev (Vg m hm).x z12)
 rw[<-Y3]at y_ ⊢;have hw:O.hp wb=φ (.cells [.p tb 0,.p bb 0,.s g.g,.s g.a,.s g.v,mb p.hp,.s p.par.g,.s p.par.a,.s p.par.v,.s p.g,.s p.a,.s p.v,.s p.pk,.l (Ζ p.props) (p.props.flatMap bp) .av,.l (Ζ p.bL) (p.bL.flatMap aG) .av,.l (Ζ p.dH) (p.dH.flatMap aG) .av,.l (Ζ W) (W.flatMap aS) tw]):=h.cell;have vR:Pu (m_ [(0,1),(1,1)]) [.l 0 [] .nil,.v (.map Β)] (.map O.N) [] (φ (1,1))=φ [.l 0 [] .nil,.map O.N]:=rfl;obtain⟨Dl,hDl⟩:∃Dl,Dl=p.dH:=⟨_,rfl⟩
 rw[<-hDl]at hR Zl sM cz hw;simp only[bg]at hw;refine ω 76 [.tmp 4] func74 ?_;refine κ eS ?_;refine ξ eS vR ?_;refine VC.gen ?_;intro O1 e1;obtain⟨aM,dq,Cc,gN⟩:=jS _ _ e1;clear e1;have GB:=(aM.hp _ qu).trans hw;have QV:=h.ge aM;refine κ eS ?_;refine Ξ [6] (λx:List mw×Tok=>[.l (Ζ x.1) (x.1.flatMap eK) x.2]) (λx O'=>dC (λi=>i=tb\/i=kd) O O'/\∃st',R9= .ok (x.1,st')/\j5 O' wb bb tb kr kd g p W tw L R cr tk st') ?_ ?_;rotate_left;rintro⟨N,t'⟩ O9 ⟨bq,st',hR9,hW9⟩;subst hR9;dsimp only;refine ν eS ?_;exact⟨bq,⟨t',rfl⟩,hW9⟩;refine ξ eS GB ?_;refine Γ ?_;refine Υ [6,20] [0,1,5,18,19] (λx:Nat×List Dp×List mw×Tok×Tok×cT=>[.l (Ζ x.2.2.1) (x.2.2.1.flatMap eK) x.2.2.2.1,mi x.1]) (λx O'=>x.1<=(Ζ Dl)/\dC (λi=>i=tb\/i=kd) O O'/\O.N+2<=O'.N/\j5 O' wb bb tb kr kd g p W tw L R cr tk x.2.2.2.2.2/\App O' O.N 10 x.2.2.2.1/\nM O' (O.N+1) O.N O.N x.2.1 x.2.2.2.2.1/\(∀i,Tok.id x.2.2.2.2.1=φ i->Tok.id x.2.2.2.1≠φ i)/\(Ζ x.2.1)=(Ζ x.2.2.1)/\(Ζ x.2.1)<=x.1/\oR R g bL (Dl.drop x.1) x.1 x.2.1 x.2.2.1 x.2.2.2.2.2=R9) (λx=>(Ζ Dl) - x.1) ((0,[],[],.nil,.nil,st)) ?_ ?_;exact⟨an2 _,.dG aM,Λ,QV,trivial,⟨[],0,⟨gN,Cc,⟨z10,z10⟩,trivial,⟨Λ,Λ⟩,Λ⟩,λkl=>rfl⟩,(λi h=>by cases h),rfl,Rn _,hR⟩;clear hR QV GB gN Cc aM;rintro⟨j,A,N,tl,ta,st⟩ O2 ⟨hj,ax,eG,vn,w6,Fe,By,hAN,hAj,hR⟩;dsimp only at hj vn w6 Fe By hAN hAj hR ⊢;by_cases bu:j<Ζ Dl;rotate_left
 ·obtain rfl:j=Ζ Dl:=Λ
  rw[aum]at hR;refine ν eS ?_;exact aE.mk (N,tl) ⟨ax,st,hR.symm,vn⟩
 have bh:=bY cW Dl j bu;have Lk:=sM Dl[j] (an3 bu);rw[an4 bu,oR]at hR;generalize Dl[j]=d at*;have ah3:=λO'=>J5 (j+1) O'
 have Dd:=rQ (j+1);have ew:=jSx j;have hWe:Vf j=100::101::112::101::110::100::101::110::99::121::91::(lg (j+1)++[93]):=rfl
 have Qu:(Vf j).length<=200000:=by
  rw[hWe];simp only[ai8,ai9,ai_];omega
 generalize Vf j=Wj at*;obtain⟨zg,za,zv,zt,zc,zs,zo,zx⟩:=d;simp only[aG,aq]at bh;refine κ eS ?_;refine κ eS ?_;refine Δ (Γ ?_);refine ξ eS bh ?_;refine VC.al ?_;rintro O3 ⟨aB,eH,ea⟩;refine ξ eS ew ?_;refine Ω (ah3 _) ?_;refine ae eS ?_;rw[<-hWe];have xn:=N3 (vn.ge aB) ⟨zg,za,zv,zt,zc,zs,zo,zx⟩ Wj Lk;have hrR:=λy=> @Fc R g ⟨zg,za,zv,zt,zc,zs,zo,zx⟩ Wj st y Lk
 simp only[aG,aq]at xn;refine ξ eS eH ?_;refine ah.mq (xn) hR ?_ ?_;rintro e O9 jG rfl;refine ak eS @wd ?_;exact⟨ax.trans ((dC.dG aB).trans jG),rfl⟩;clear hR;rintro y4 m O4 jU nY h4 hR;have Ff:=hrR y4 jU;obtain⟨D0,Fa⟩:=y4;obtain⟨rfl,xz⟩:=h4;dsimp only at hR Ff xz;have hDR:=abk Vg Ff;have amL:=y_ D0 (aev Ff.x z12);have iD:=nY.at Λ z17 eH;have fe:=nY.1;clear xn hrR jU Lk Ff;refine ae eS ?_;refine π (amL _) ?_;rintro _ O5 ⟨rfl,bB⟩;have qY:=bB.at iD;have ie:=bB.N;have Vb:=xz.ge bB;have amM:dC (λi=>i=tb\/i=kd) O2 O5:=((dC.dG aB).trans nY).ge bB;generalize DQ bL D0=D at*;have hud:=iC [D];have amN:=hDR.ok;have qZ:=λO'=>yT D O'
 have w8:=λ(O':VH)(hG:nM O' (O.N+1) O.N O.N A ta)(h2:O.N<=O'.N)=>QW hG D amN Λ h2
 have UN:=λ(O':VH)(hW:j5 O' wb bb tb kr kd g p W tw L R cr tk Fa)=>N2 hW.cell hW.lt D.v Wj (aev hDR.v z12)
 have hnG:J8 D=⟨bZ D,(ee D.v).1,max D.s 1,D.o==1,D.x⟩:=rfl;have nT:D.v≠[]->oQ g D.v Wj= .ok (ee D.v).1:=λe=>by unfold oQ;rw[if_pos (hDR.pv.resolve_left e)]
 have hAa:nN A D=if A.any (λx=>dm (bZ x)==dm (bZ D))then A else A++[D]:=rfl
 have hNa:N8 A N D=if A.any (λx=>dm (bZ x)==dm (bZ D))then N else N++[J8 D]:=rfl
 generalize nN A D=A' at*;generalize N8 A N D=N' at*;generalize J8 D=F at*;generalize oQ g D.v Wj=PX at*;generalize (ee D.v).1=rg at*;generalize A.any (λx=>dm (bZ x)==dm (bZ D))=bA at*;clear amL xz iD hDR amN eH;generalize bZ D=K at*;obtain⟨k1,k2,k3,k4⟩:=K;obtain⟨dg,da,dv,dt,dc,gl,dO,dx⟩:=D;dsimp only at hnG UN nT hR;simp only[aG,aq,iL,bg]at qZ w8;have DE:aG ⟨dg,da,dv,dt,dc,gl,dO,dx⟩=[.s dg,.s da,.s dv,.s dt,.s dc,.v (Ι Κ gl),.v (Ι Κ dO),.l (Ζ dx) (dx.flatMap cI) .av]:=rfl;rw[DE];refine ak eS qY ?_;refine VC.gen ?_;intro O6 e6;have DT:dC (λi=>i=tb\/i=kd) O2 O6:=by rw[e6];exact amM.set (.inl (Rn _)) _
 have uu:O6.hp O2.N=φ (.cells [.s dg,.s da,.s dv,.s dt,.s dc,.v (Ι Κ gl),.v (Ι Κ dO),.l (Ζ dx) (dx.flatMap cI) .av]):=by rw[e6];exact υ _ _ _
 have mQ:O2.N+1<=O6.N:=by rw[e6];show _<=O5.N;omega
 have LG:j5 O6 wb bb tb kr kd g p W tw L R cr tk Fa:=by rw[e6];exact Vb.mv (Rn _) λi hi e=>VH.sx
 clear e6 qY Vb amM ie;by_cases hv:dv=[];rw[if_pos hv]at hR;subst hR;(have CR:(dv==[])=Α:=by simpa using hv);refine θ (aF eS uu CR ?_);refine η (kD LG.cell 26 (Wj++J4)) ?_;refine ak eS @wd ?_;exact⟨ax.trans DT,rfl⟩
 rw[if_neg hv]at hR;have CR:(dv==[])=γ:=by simpa using hv
 rw[nT hv]at UN;have J9:=λO' hW=>VF.lG (MQ.ret (UN O' hW)) (Φ':=λm O2=>m= .agg (jo rg .av)/\VH.Ge O' O2) λm O2 h=>⟨h.2,h.1.amz⟩
 clear UN nT;refine θ (aF eS uu CR ?_);obtain⟨rh,rv,rl⟩:=rg;simp only[jo,bg]at J9;have abl:=λ(A:VH)(h1:O6.N<=A.N)(h2:∀i,i<O6.N->i≠O2.N->A.hp i=O6.hp i)=>LG.mv h1 λi hi e=>h2 i hi Λ
 refine Ξ [0,1,5,6,8,10,18,19,20] (λnb:Nat=>[.p wb 0,.l (Ζ bL) MM t,.p (O.N+1) 0,.l (Ζ N) (N.flatMap eK) tl,.p O2.N 0,.p nb 0,.l (Ζ Dl) (Dl.flatMap aG) .av,.v (Ι Κ (Ζ Dl)),.v (Ι Κ j)]) (λnb O'=>O6.Ge O'/\O6.N<=nb/\nb<O'.N/\O'.hp nb=φ (.cells (eK F))) ?_ ?_;(·subst hnG;refine VC.tB [17] (O2.N) (λO'=>O6.N<=O'.N/\∀i,i<O6.N->i≠O2.N->O'.hp i=O6.hp i) (uu) (λX=>⟨Rn _,λi _ h=>τ _ _ h⟩) ?_;intro X;refine ε (m:=.agg [.s dg,.s da,.s dv,.s dt,.s dc,.v (Ι Κ gl),.v (Ι Κ dO),.l (Ζ dx) (dx.flatMap cI) .av]) 0 (λ_ h=>h.1) (λ_ h=>h) ?_ ?_;exact ez eS;simp only[ag];refine ρ 2 eS ?_;refine ρ 3 eS ?_;refine ε (m:=.s dv) 4 (λ_ h=>h.1) (λ_ h=>h) ?_ ?_;exact ez eS;simp only[ag];refine ρ 5 eS ?_;refine ρ 7 eS ?_;refine ε (m:=.v (Ι Κ gl)) 8 (λ_ h=>h.1) (λ_ h=>h) ?_ ?_;exact ez eS;simp only[ag];refine ρ 9 eS ?_;refine ρ 10 eS ?_;refine ε (m:=.v (Ι Κ dO)) 11 (λ_ h=>h.1) (λ_ h=>h) ?_ ?_;exact ez eS;simp only[ag];refine ρ 12 eS ?_;refine ρ 13 eS ?_;refine ε (m:=.l (Ζ dx) (dx.flatMap cI) .av) 14 (λ_ h=>h.1) (λ_ h=>h) ?_ ?_;exact ez eS;simp only[ag];((((((((have jH:∀A B:VH,A.Ge B->(A.hp O2.N=φ (.obj X)/\O6.N<=A.N/\∀i,i<O6.N->i≠O2.N->A.hp i=O6.hp i)->(B.hp O2.N=φ (.obj X)/\O6.N<=B.N/\∀i,i<O6.N->i≠O2.N->B.hp i=O6.hp i):=λA B g h=>⟨g.at h.1,aev h.2.1 g.N,λi h1 h2=>(g.hp i Λ).trans (h.2.2 i h1 h2)⟩);have hJ8:(O6.set O2.N (.obj X)).hp O2.N=φ (.obj X)/\O6.N<=(O6.set O2.N (.obj X)).N/\∀i,i<O6.N->i≠O2.N->(O6.set O2.N (.obj X)).hp i=O6.hp i:=⟨υ _ _ _,Rn _,λi _ h=>τ _ _ h⟩);generalize O6.set O2.N (.obj X)=O8 at*;have nT:∀A:VH,A.Ge (A.push (.cells [.s [],.s [],.s [],.s [],.v (.bool γ),.s [],.l 0 [] .nil,.v (Ι Κ 0),.v (.bool γ),.l 0 [] .nil])):=λA=>(VH.Ge.refl A).push _);have QC:∀A:VH,(A.push (.cells [.s [],.s [],.s [],.s [],.v (.bool γ),.s [],.l 0 [] .nil,.v (Ι Κ 0),.v (.bool γ),.l 0 [] .nil])).hp A.N=φ (.cells [.s [],.s [],.s [],.s [],.v (.bool γ),.s [],.l 0 [] .nil,.v (Ι Κ 0),.v (.bool γ),.l 0 [] .nil]):=λA=>ζ _ _);refine ab.meet [1,6,15,16] [0,1,5,6,8,10,18,19,20,58] (λnb:Nat=>[.p wb 0,.l (Ζ bL) MM t,.p (O.N+1) 0,.l (Ζ N) (N.flatMap eK) tl,.p O2.N 0,.p nb 0,.l (Ζ Dl) (Dl.flatMap aG) .av,.v (Ι Κ (Ζ Dl)),.v (Ι Κ j),.agg [.s k1,.s k2,.s k3,.s k4,.v (.bool rh),.s rv,.l (Ζ rl) (rl.flatMap fy) .av,.v (Ι Κ (max gl 1)),.v (.bool (dO==1)),.l (Ζ dx) (dx.flatMap cI) .av]]) (λnb O'=>(O'.hp O2.N=φ (.obj X)/\O6.N<=O'.N/\∀i,i<O6.N->i≠O2.N->O'.hp i=O6.hp i)/\O6.N<=nb/\nb<O'.N/\O'.hp nb=φ (.cells [.s [],.s [],.s [],.s [],.v (.bool γ),.s [],.l 0 [] .nil,.v (Ι Κ 0),.v (.bool γ),.l 0 [] .nil])) 1 ?_ ?_;rotate_left);rintro nb O9 ⟨Ek,h6,hl,hz⟩;refine ab.tC [(17,.one)] ?_;have Bu:=(τ (k:=O2.N) _ (.cells [.s dg,.s da,.s dv,.s dt,.s dc,.v (Ι Κ gl),.v (Ι Κ dO),.l (Ζ dx) (dx.flatMap cI) .av]) (show nb≠O2.N by omega)).trans hz;refine aF eS hz Bu ?_;refine aE.mk nb ⟨⟨Ek.2.1,λi h1=>?_⟩,h6,hl,υ _ _ _⟩;rw[VH.sx];by_cases e:i=O2.N;subst e;rw[υ];exact uu.symm;rw[τ _ _ e];exact Ek.2.2 i h1 e);intro K9;refine auS (i:=1) (j:=16) ?_ ?_);refine aQ.iH (qZ O8) ?_;rintro _ O9 ⟨rfl,bq⟩;simp only[ag];have LH:=jH _ _ bq hJ8;refine⟨LH,?_⟩;refine auS (i:=6) (j:=16) ?_ ?_;refine aQ.iH (J9 O9 (abl _ LH.2.1 LH.2.2)) ?_;rintro _ fb ⟨rfl,N9⟩;simp only[ag];have tR:=jH _ _ N9 LH;refine⟨tR,?_⟩;refine ρ 15 eS ?_;refine ab.op (i:=16) ?_;refine ae eS ?_;have Gj:=jH _ _ (nT fb) tR;refine⟨⟨tR.1,Gj.2⟩,?_⟩;exact K9 (fb.N) _ _ _ ⟨Gj,tR.2.1,apH fb.N,QC fb⟩ z11 rfl;refine aQ.o1 ?_;refine ae eS ?_;have tR:=jH _ _ (nT O9) LH;refine⟨⟨LH.1,tR.2⟩,?_⟩;refine ab.call (i:=6) (J9 _ (abl _ tR.2.1 tR.2.2)) ?_;rintro _ j9 ⟨rfl,mD⟩;simp only[ag];have Gj:=jH _ _ mD tR;refine⟨Gj,?_⟩;refine ρ 15 eS ?_;exact K9 (O9.N) _ _ _ ⟨Gj,LH.2.1,aja (apH O9.N) mD.N,(mD.hp _ (apH _)).trans (QC O9)⟩ z11 rfl);refine aQ.o1 ?_;refine ae eS ?_;have LH:=jH _ _ (nT O8) hJ8;refine⟨⟨hJ8.1,LH.2⟩,?_⟩;refine ab.call (i:=1) (qZ _) ?_;rintro _ fb ⟨rfl,N9⟩;simp only[ag];have tR:=jH _ _ N9 LH;refine⟨tR,?_⟩;refine ab.call (i:=6) (J9 _ (abl _ tR.2.1 tR.2.2)) ?_;rintro _ j9 ⟨rfl,mD⟩;simp only[ag];have Gj:=jH _ _ mD tR;refine⟨Gj,?_⟩;refine ρ 15 eS ?_;exact K9 (O8.N) _ _ _ ⟨Gj,hJ8.2.1,aja (apH O8.N) (N9.trans mD).N,((N9.trans mD).hp _ (apH _)).trans (QC O8)⟩ z11 rfl)
 rintro nb O7 ⟨dB,atP,hnb,Ay⟩;have amO:=dB.at uu;have Vh:=DT.ge dB;have ah4:=ax.trans Vh;have sk:=dB.N;have JM:=LG.ge dB;have hFu:=J7 F;have hFM:eK F=[.s F.k.g,.s F.k.a,.s F.k.t,.s F.k.c,.v (.bool F.r.1),.s F.r.2.1,.l (Ζ F.r.2.2) (F.r.2.2.flatMap fy) .av,.v (Ι Κ F.s),.v (.bool F.o),.l (Ζ F.x) (F.x.flatMap cI) .av]:=rfl;rw[hFM]at Ay hFu
 have hG7:nM O7 (O.N+1) O.N O.N A ta:=Fe.mv Vh.1 λi hi e=>Vh.2 i hi (by
  obtain⟨M,cm,hGG,_⟩:=Fe;rcases e with e | e | e;omega;omega;have:=(hGG.app.iM e).1;omega)
 have jl:App O7 O.N 10 tl:=w6.at Vh.1 λi e=>Vh.2 i (w6.iM e).2 (by have:=(w6.iM e).1;omega)
 clear abl J9 qZ;refine ξ eS amO ?_;refine π (w8 O7 hG7 Λ) ?_;rintro _ O8 ⟨Vi,Fg,ah5,Ar,AD⟩;obtain⟨M7,cm7,abm,_⟩:=hG7;have arX:=Fg;obtain⟨M8,cm8,DU,_⟩:=arX;have hc8:=DU.cell;have Ax:=(AD nb hnb Λ Λ (λe=>by obtain⟨M,cm,hGG,_⟩:=Fe;have:=(hGG.app.iM e).2;omega)).trans Ay;have nF:App O8 O.N 10 tl:=jl.at Ar λi e=>AD i (jl.iM e).2 (λe2=>by have:=jl.tok e;rw[e2,abm.cell]at this;cases this) (λe2=>by have:=jl.tok e;rw[e2,abm.map]at this;cases this) (λe2=>By i e2 e)
 have abn:∀i,Tok.id Vi=φ i->Tok.id tl≠φ i:=λi e e2=>by
  rcases ah5 with e3 | e3;rw[e3]at e;exact By i e e2;have:=e3 i e;have:=(jl.iM e2).2;omega
 have vw:dC (λi=>i=tb\/i=kd) O O8:=⟨by have:=ah4.1;omega,λi hi hn=>(AD i Λ Λ Λ (λe=>by have:=(abm.app.iM e).1;omega)).trans (ah4.2 i hi hn)⟩;have Cf:j5 O8 wb bb tb kr kd g p W tw L R cr tk Fa:=JM.mv Ar λi hi e=>AD i hi Λ Λ (λe2=>by have:=(abm.app.iM e2).1;omega)
 clear w8 AD jl JM ah4 Ay amO Fe w6;cases bA with
 | true=>
   rw[if_pos rfl]at hAa hNa;subst hAa;subst hNa;(have bI:decide ((Ζ N':Int)<((Ζ A':Nat):Int))=γ:=by rw[decide_eq_false_iff_not];omega);have J_:decide (((Ζ A':Nat):Int)>(Ζ N':Int))=γ:=bI;refine ae eS ?_;refine ι (aF eS hc8 (abT bI J_) ?_);refine ο eS ew ?_;exact aw.N (j+1,A',N',tl,Vi,Fa) ⟨bu,vw,Λ,Cf,nF,Fg,abn,hAN,by dsimp only;omega,hR⟩
 | false=>
   rw[if_neg z10]at hAa hNa;(((((((have arY:Ζ A'=Ζ N+1:=by rw[hAa,ai9,hAN];rfl);have arZ:Ζ N'=Ζ N+1:=by rw[hNa,ai9];rfl);have ar0:N'.flatMap eK=N.flatMap eK++eK F:=by rw[hNa,apE];simp);have bI:decide ((Ζ N:Int)<((Ζ N+1:Nat):Int))=Α:=by rw[decide_eq_true_iff];omega);have J_:decide (((Ζ N+1:Nat):Int)>(Ζ N:Int))=Α:=bI;rw[arY]at hc8;obtain⟨mE,iT,oX⟩:=jj (n:=Ζ N) (cs:=N.flatMap eK) (ds:=[.s F.k.g,.s F.k.a,.s F.k.t,.s F.k.c,.v (.bool F.r.1),.s F.r.2.1,.l (Ζ F.r.2.2) (F.r.2.2.flatMap fy) .av,.v (Ι Κ F.s),.v (.bool F.o),.l (Ζ F.x) (F.x.flatMap cI) .av]) (es:=eK F) IG SR.1.1 nF (aP pQ N) rfl rfl z12 Λ z13 (rS N) hFu;refine ae eS ?_;refine ι (bo eS hc8 Ax (abT bI J_) ?_);refine VL.o7 iT oX ?_;refine ae eS ?_;refine ο eS ew ?_;have Fh:=dR.after nF;have Gg:∀i,i<O8.N->(∀(e:Tok.id tl=φ i),False)->(O8.after tl).hp i=O8.hp i:=λi hi hn=>Fh.hp i hi λe=>hn e);refine aw.N (j+1,A',N',.own O8.N 10,Vi,Fa) ⟨bu,⟨by have:=vw.1;have:=Fh.N;omega,λi hi hn=>(Gg i (by have:=vw.1;omega) (λe=>by have:=(nF.iM e).1;omega)).trans (vw.2 i hi hn)⟩,by have:=Fh.N;omega,Cf.mv Fh.N λi hi e=>Gg i hi (λe2=>by have:=(nF.iM e2).1;omega),App.after,Fg.mv Fh.N λi hi e=>Gg i hi (λe2=>?_),λi e e2=>?_,by dsimp only;omega,by dsimp only;omega,hR⟩ (hl:=(by dsimp only;rw[ar0,arZ];rfl)));rcases e with e | e | e;have:=nF.tok e2;rw[e,DU.cell]at this;cases this;have:=nF.tok e2;rw[e,DU.map]at this;cases this;exact abn i e e2);injection e2 with e2;have:=(DU.app.iM e).2;omega
end
def b9:=abT eS<|abT alL<|abT alM<|abT FP IG
structure eM where
 g:Gv
 pk:Bs
 props:List (Bs×Bs)
 bL:List Dp
 Cg:List mw
def qC(m:eM):Η:=aS m.g++[.s m.pk,.l (Ζ m.props) (m.props.flatMap bp) .av,.l (Ζ m.bL) (m.bL.flatMap aG) .av,.l (Ζ m.Cg) (m.Cg.flatMap eK) .av]
structure Hc(n:mw):Prop where
 k:Ζ n.k.g<=4096/\(Ζ n.k.a)<=4096/\(Ζ n.k.t)<=4096/\(Ζ n.k.c)<=4096
 r:∃v:Bs,Ζ v<=4096/\(ee v).2=0/\n.r=(ee v).1
 s:1<=n.s/\n.s<=6
 x:Ζ n.x<=1024
structure MdB(m:eM):Prop where
 pl:Ζ m.props<=100000
 ml:Ζ m.bL<=1024
 mn:∀d∈m.bL,rJ d
 nl:Ζ m.Cg<=100000
 nn:∀n∈m.Cg,Hc n
structure BW(O:VH)(A:Nat×Nat)(B k bb md:Nat)(S:List (Gv×Bs))(MM:List (Gv×eM)):Prop where
 st:o5 O A B k S
 bd:∃MD cm,O.hp bb=φ (.cells [.p k 0,.map md])/\O.hp md=φ (.map (dw MD) cm)/\uM 3 MD/\∀g,fD (eP g) MD=(MM.find? (·.1==g)).map λx=>.agg (qC x.2)
 lt:A.1<=B/\B<=bb/\B<=md/\bb<O.N/\md<O.N/\bb≠md
 ok:∀x∈MM,MdB x.2
def BW.mv{MM:List (Gv×eM)}(h:BW O A B k bb md S MM)(hn:O.N<=O'.N)(hi:∀i,i<O.N->(A.1<=i/\i<B/\i≠A.2)\/i=bb\/i=md->O'.hp i=O.hp i):BW O' A B k bb md S MM:=by
 obtain⟨h1,⟨MD,cm,b1,b2,b3,b4⟩,l,h4⟩:=h;have:=h1.le;exact⟨h1.mvX hn λi a=>hi i Λ (.inl a),⟨MD,cm,(hi _ Λ Λ).trans b1,(hi _ Λ Λ).trans b2,b3,b4⟩,⟨l.1,l.2.1,l.2.2.1,Λ,Λ,l.2.2.2.2.2⟩,h4⟩
def BW.ge{MM:List (Gv×eM)}(h:BW O A B k bb md S MM)(g:O.Ge O'):BW O' A B k bb md S MM:=h.mv g.N λi hi _=>g.hp i hi
def N_:∀(k:Nat)(t:Bs) {Z:List Iv},uw k t=φ Z->Ζ Z<=(Ζ t)/\∀p∈Z,Ζ p.1.2.1<=(Ζ t)/\(Ζ p.2.2.1)<=Ζ t
 | 0,t,Z,h=>by cases h
 | k+1,t,Z,h=>by
   rw[uw]at h;split at h;injection h with h;subst h;exact⟨an2 _,z10⟩;rename_i hne;split at h;obtain⟨p,h1,h2⟩:=auh.1 h;obtain⟨Y,h3,rfl⟩:=auq.1 h2;have i1:=J2 h1;have i2:=N_ k _ h3;have d1:=k9 ib (t.drop 1);have d2:=k9 ib p.2;rw[List.length_drop]at d1;refine⟨by rw[ai8];have:=i2.1;omega,λq hq=>?_⟩;rcases apK.1 hq with rfl | hq;omega;have:=i2.2 q hq;omega;cases h
def sF(s:Bs):(ee s).1.2.1.length<=(Ζ s)/\(ee s).1.2.2.length<=(Ζ s)/\∀p∈(ee s).1.2.2,Ζ p.1.2.1<=(Ζ s)/\(Ζ p.2.2.1)<=Ζ s:=by
 have ht:=BL s;unfold ee QR;cases h:tJ (trimB s)with
 | none=>exact⟨an2 _,an2 _,λp hp=>by cases hp⟩
 | some r=>
   show (Ζ r.2.1)<=_/\(Ζ r.2.2)<=_/\∀p∈r.2.2,_
   unfold tJ at h;split at h;obtain⟨Z,h1,h2⟩:=auh.1 h;split at h2;injection h2 with h2;subst h2;unfold rI Ce at h1;rw[if_pos rfl]at h1;obtain⟨p,h3,h4⟩:=auh.1 h1;obtain⟨Y,h5,rfl⟩:=auq.1 h4;have i1:=J2 h3;have i2:=N_ _ _ h5;have d2:=k9 ib p.2;refine⟨an2 _,by show(p.1::Y).length<=_;rw[ai8];have:=i2.1;omega,λq hq=>?_⟩;rcases apK.1 hq with rfl | hq;omega;have:=i2.2 q hq;omega;cases h2;split at h;injection h with h;subst h;exact⟨ht,an2 _,λp hp=>by cases hp⟩;cases h
def Ka(h:Ζ s<=10000:=by omega):DN (ee s).1:=by
 have:=sF s;exact⟨by simp only[maxLen];omega,by simp only[maxLen];omega,λp hp=>by have:=this.2.2 p hp;omega⟩
def Od(i:Nat):Bs:=[109,97,110,97,103,101,100,91]++lg (i+1)++[93]
def Vj:Bs:=[47,115,99,111,112,101]
def Vk:Bs:=[112,111,109]
def amP:Bs:=[109,97,110,97,103,101,100]
def ah6(d:Dp):Bool:=(ee d.v).2 != 0||((ee d.v).1.1||(d.t != Vk||d.c != []))
def Bj(R:eL)(g:Gv):List Dp->Nat->List Dp->List (Gv×Bs)->cT->Except fa ((List Dp×List (Gv×Bs))×cT)
 | [],_,A,V,st=>.ok ((A,V),st)
 | d::r,i,A,V,st=>fp (wA R g d (Od i) st) λy=>
   if y.1.s≠6 then Bj R g r (i+1) (nN A y.1) V y.2 else if ah6 y.1=Α then .error ⟨20,g,0,0,0,Od i++Vj⟩
   else Bj R g r (i+1) A (V++[(⟨y.1.g,y.1.a,(ee y.1.v).1.2.1⟩,Od i)]) y.2
def Kb(lP:List (Gv×eM)->Gv->Except fa (eM×List (Gv×eM)))(g:Gv)(W:List Gv):List (Gv×Bs)->List Dp->List (Gv×eM)->Except fa (List Dp×List (Gv×eM))
 | [],A,mm=>.ok (A,mm)
 | x::r,A,mm=>if W.contains x.1 then .error ⟨24,g,0,0,0,x.2⟩else if 32<=(Ζ W) then .error ⟨2,g,0,0,0,x.2⟩else fp (lP mm x.1) λy=>Kb lP g W r (y.1.bL.foldl nN A) y.2
def vx(lP:List (Gv×eM)->Gv->Except fa (eM×List (Gv×eM)))(R:eL)(g:Gv)(W:List Gv)(l:List Dp)(st:cT)(mm:List (Gv×eM)):Except fa ((List Dp×cT)×List (Gv×eM)):=
 fp (Bj R g l 0 [] [] st) λa=>fp (Kb lP g W a.1.2 a.1.1 mm) λb=>if (Ζ b.1)>1024 then .error ⟨2,g,0,0,0,amP⟩else .ok ((b.1,a.2),b.2)
def Oe :∀{A:List Dp},(∀d∈A,rJ d)->(∀d∈M,rJ d)->(M.foldl nN A).length<=Ζ A+(Ζ M)/\∀d∈M.foldl nN A,rJ d:=by
 induction M with
 | nil=>exactλh _=>⟨Rn _,h⟩
 | cons x M ih=>
   intro A h1 h2;(have h3:=ih (abj (C:=rJ) h1 (h2 x (apJ ..))) λd hd=>h2 d (apG _ hd));have h4:=N7 A x;refine⟨?_,h3.2⟩;rw[List.foldl_cons,ai8];have:=h3.1;omega
def tS(x:Gv×Bs):Η:=aS x.1++[.s x.2]
def Fi(x:Gv×Bs):(tS x).length=4:=rfl
def aek(L:List (Gv×Bs)):de (L.flatMap tS)=L.flatMap tS:=iI (λx=>by simp only[tS,aS,Ro,TR,wu]) L
def Zm(A:Nat×Nat)(B k bb md:Nat)(S:List (Gv×Bs))(W:List Gv)(lP:List (Gv×eM)->Gv->Except fa (eM×List (Gv×eM))):Prop:=
 ∀(O:VH)(mm:List (Gv×eM))(g:Gv)(tw:Tok),BW O A B k bb md S mm->gG g->VF Ε 36 [.p bb 0,.agg (aS g),.l (Ζ W) (W.flatMap aS) tw] O (MQ (λi=>(A.1<=i/\i<B/\i≠A.2)\/i=md) O (lP mm g) λy m O'=>m= .agg (qC y.1)/\BW O' A B k bb md S y.2/\MdB y.1)
section
variable{O O':VH}{wb bb tb kr kd cr:Nat}{g:Gv}{p:Pm}{W:List Gv}{tw tk:Tok}{L:List (Bs×Bs)}{R:eL}{st:cT}
structure amQ(O O':VH)(wb bb tb kr kd:Nat)(g:Gv)(p:Pm)(W:List Gv)(tw:Tok)(L:List (Bs×Bs))(R:eL)(cr:Nat)(tk:Tok)(st:cT)(n:Nat)(A:List Dp)(V:List (Gv×Bs))(ti ta:Tok):Prop where
 fr:dC (λi=>i=tb\/i=kd) O O'
 nx:O.N+2<=O'.N
 wk:j5 O' wb bb tb kr kd g p W tw L R cr tk st
 im:App O' O.N 4 ti
 ga:nM O' (O.N+1) O.N O.N A ta
 tt:∀i,Tok.id ta=φ i->Tok.id ti≠φ i
 al:Ζ A<=n
 vl:Ζ V<=n
 ar:∀d∈A,rJ d
 vo:∀x∈V,gG x.1
def Vl{mm:List (Gv×eM)}{lP:List (Gv×eM)->Gv->Except fa (eM×List (Gv×eM))}(ah7:Ζ W<32->Zm A B k bb md S W lP)(h:j5 O wb bb tb kr kd g p W tw L R cr tk st)(hB:BW O A B k bb md S mm)(bI:bb<wb/\md<wb/\bb<tb/\md<tb/\bb<kr/\md<kr/\bb<kd/\md<kd)(sM:∀d∈p.bL,Az d)(cz:Ζ p.bL<=32768)(Qu:Ζ W<=100):
  VF Ε 73 [.p wb 0] O (MQ (λi=>(A.1<=i/\i<B/\i≠A.2)\/i=md\/i=tb\/i=kd) O (vx lP R g W p.bL st mm) λy m O'=>(∃t',m= .l (Ζ y.1.1) (y.1.1.flatMap aG) t')/\j5 O' wb bb tb kr kd g p W tw L R cr tk y.1.2/\BW O' A B k bb md S y.2/\(∀d∈y.1.1,rJ d)/\(Ζ y.1.1)<=1024):=by
 obtain⟨R9,hR⟩:∃R9,vx lP R g W p.bL st mm=R9:=⟨_,rfl⟩
 rw[hR];unfold vx at hR;have PV:=h.T.lt;have qu:=h.lt;have hTn:=h.ne;have um:=hB.lt;have Zl:=aP cW p.bL;have hw:O.hp wb=φ (.cells [.p tb 0,.p bb 0,.s g.g,.s g.a,.s g.v,mb p.hp,.s p.par.g,.s p.par.a,.s p.par.v,.s p.g,.s p.a,.s p.v,.s p.pk,.l (Ζ p.props) (p.props.flatMap bp) .av,.l (Ζ p.bL) (p.bL.flatMap aG) .av,.l (Ζ p.dH) (p.dH.flatMap aG) .av,.l (Ζ W) (W.flatMap aS) tw]):=h.cell;have vR:Pu (m_ [(0,1),(1,1)]) [.l 0 [] .nil,.v (.map Β)] (.map O.N) [] (φ (1,1))=φ [.l 0 [] .nil,.map O.N]:=rfl;obtain⟨Dl,hDl⟩:∃Dl,Dl=p.bL:=⟨_,rfl⟩
 rw[<-hDl]at hR Zl sM cz hw;simp only[bg]at hw;refine ω 145 [.tmp 2] func73 ?_;refine κ b9 ?_;refine ξ b9 vR ?_;refine VC.gen ?_;intro O1 e1;obtain⟨aM,dq,Cc,gN⟩:=jS _ _ e1;clear e1;have GB:=(aM.hp _ qu).trans hw;have QV:=h.ge aM;refine κ b9 ?_;refine Ξ [0,3,4] (λx:List Dp×List (Gv×Bs)×Tok×Tok×cT=>[.p wb 0,.p (O.N+1) 0,.l (Ζ x.2.1) (x.2.1.flatMap tS) x.2.2.1]) (λx O'=>amQ O O' wb bb tb kr kd g p W tw L R cr tk x.2.2.2.2 32768 x.1 x.2.1 x.2.2.1 x.2.2.2.1/\Bj R g Dl 0 [] [] st= .ok ((x.1,x.2.1),x.2.2.2.2)) ?_ ?_
 ·refine ξ b9 GB ?_;refine Γ ?_;refine Υ [4,23] [0,3,21,22] (λx:Nat×List Dp×List (Gv×Bs)×Tok×Tok×cT=>[.l (Ζ x.2.2.1) (x.2.2.1.flatMap tS) x.2.2.2.1,mi x.1]) (λx O'=>x.1<=(Ζ Dl)/\amQ O O' wb bb tb kr kd g p W tw L R cr tk x.2.2.2.2.2 x.1 x.2.1 x.2.2.1 x.2.2.2.1 x.2.2.2.2.1/\Bj R g (Dl.drop x.1) x.1 x.2.1 x.2.2.1 x.2.2.2.2.2=Bj R g Dl 0 [] [] st) (λx=>(Ζ Dl) - x.1) ((0,[],[],.nil,.nil,st)) ?_ ?_;exact⟨an2 _,⟨.dG aM,Λ,QV,trivial,⟨[],0,⟨gN,Cc,⟨z10,z10⟩,trivial,⟨Λ,Λ⟩,Λ⟩,λkl=>rfl⟩,(λi h=>by cases h),Rn _,Rn _,z10,z10⟩,rfl⟩;generalize hF0:Bj R g Dl 0 [] [] st=F0 at*;clear QV GB gN Cc aM;rintro⟨j,A',V,ti,ta,st⟩ O2 ⟨hj,hI,hA⟩;dsimp only at hj hI hA ⊢;by_cases bu:j<Ζ Dl;rotate_left
  ·obtain rfl:j=Ζ Dl:=Λ
   rw[aum]at hA;refine ν b9 ?_;exact aE.mk (A',V,ti,ta,st) ⟨⟨hI.fr,hI.nx,hI.wk,hI.im,hI.ga,hI.tt,aev hI.al cz,aev hI.vl cz,hI.ar,hI.vo⟩,hA.symm⟩
  have ax:=hI.fr;have eG:=hI.nx;have m5:=hI.al;have sK:=hI.vl;have bh:=bY cW Dl j bu;have Lk:=sM Dl[j] (an3 bu);rw[an4 bu,Bj]at hA;generalize Dl[j]=d at*;((have ah3:=λO'=>J5 (j+1) O');have Dd:=rQ (j+1);have ew:=jSx j);have hWe:Od j=109::97::110::97::103::101::100::91::(lg (j+1)++[93]):=rfl
  have Qu:(Od j).length<=200000:=by
   rw[hWe];simp only[ai8,ai9,ai_];omega
  generalize Od j=Wj at*;obtain⟨zg,za,zv,zt,zc,zs,zo,zx⟩:=d;simp only[aG,aq]at bh;refine κ b9 ?_;refine κ b9 ?_;refine Δ (Γ ?_);refine ξ b9 bh ?_;refine VC.al ?_;rintro O3 ⟨aB,eH,ea⟩;refine ξ b9 ew ?_;refine Ω (ah3 _) ?_;refine ae b9 ?_;rw[<-hWe];have xn:=N3 (hI.wk.ge aB) ⟨zg,za,zv,zt,zc,zs,zo,zx⟩ Wj Lk;(((((((((have hrR:=λy=> @Fc R g ⟨zg,za,zv,zt,zc,zs,zo,zx⟩ Wj st y Lk);simp only[aG,aq]at xn;refine ξ b9 eH ?_;refine ah.mq (xn) hA ?_ ?_);rintro e O9 jG rfl;obtain rfl:Except.error e=R9:=hR;refine ak b9 @wd ?_;exact⟨((ax.ge aB).trans jG).mono λi _ e=>Λ,rfl⟩);clear hA;rintro y4 m O4 jU nY h4 hA;have Ff:=hrR y4 jU;obtain⟨D,Fa⟩:=y4;obtain⟨DC,xz⟩:=h4;dsimp only at hA Ff xz DC;have iD:=nY.at Λ z17 eH;have fe:=nY.1;have amR:dC (λi=>i=tb\/i=kd) O2 O4:=(dC.dG aB).trans nY;clear xn hrR jU Lk nY;have Lo:=sF D.v;have G_:=λO'=>J3 D.v O' (aev Ff.v z12));have w8:=λ(O':VH)(hG:nM O' (O.N+1) O.N O.N A' ta)(h2:O.N<=O'.N)=>QW hG D Ff.ok Λ h2);have haB:=abj (L:=A') (d:=D) (C:=rJ) hI.ar Ff;have haL:=N7 A' D;have hvg:=Ff.v;have hvo:gG ⟨D.g,D.a,(ee D.v).1.2.1⟩:=⟨aev Ff.g z12,aev Ff.a z12,aev Lo.1 (aev Ff.v z12)⟩;obtain⟨dg,da,dv,dt,dc,gl,dO,dx⟩:=D;dsimp only at hA G_ Lo hvg hvo;have DE:aG ⟨dg,da,dv,dt,dc,gl,dO,dx⟩=[.s dg,.s da,.s dv,.s dt,.s dc,.v (Ι Κ gl),.v (Ι Κ dO),.l (Ζ dx) (dx.flatMap cI) .av]:=rfl;rw[DE]at w8;clear DE;dsimp only at DC;subst DC;refine ak b9 iD ?_;refine VC.gen ?_;intro O6 e6;have DT:dC (λi=>i=tb\/i=kd) O2 O6:=by rw[e6];exact amR.set (.inl (Rn _)) _);have uu:O6.hp O2.N=φ (.cells [.s dg,.s da,.s dv,.s dt,.s dc,.v (Ι Κ gl),.v (Ι Κ dO),.l (Ζ dx) (dx.flatMap cI) .av]):=by rw[e6];exact υ _ _ _);have mQ:O2.N+1<=O6.N:=by rw[e6];show _<=O4.N;omega);have LG:j5 O6 wb bb tb kr kd g p W tw L R cr tk Fa:=by rw[e6];exact xz.mv (Rn _) λi hi e=>VH.sx);clear e6 iD xz amR;obtain⟨M2,cm2,ar1,hGk⟩:=hI.ga
  have hG6:nM O6 (O.N+1) O.N O.N A' ta:=hI.ga.mv DT.1 λi hi e=>DT.2 i hi (by
   rcases e with e | e | e;omega;omega;have:=(ar1.app.iM e).1;omega)
  (have iU:App O6 O.N 4 ti:=hI.im.at DT.1 λi e=>DT.2 i (hI.im.iM e).2 (by have:=(hI.im.iM e).1;omega));have By:=hI.tt;have ar2:=hI.ar;have amS:=hI.vo;by_cases hs:gl=6
  ·rw[if_neg (by simpa using hs)]at hA;((have vL:(gl != 6)=γ:=by simpa using hs);refine θ (aF b9 uu vL ?_);refine ξ b9 uu ?_;refine π (G_ O6) ?_;rintro _ O7 ⟨tkr,rfl,dB⟩;have Ay:=dB.at uu;obtain⟨⟨⟨rh,rv,rl⟩,pe⟩,hPD⟩:∃x,ee dv=x:=⟨_,rfl⟩);have LI:ah6 ⟨dg,da,dv,dt,dc,gl,dO,dx⟩=(pe != 0||(rh||(dt != Vk||dc != []))):=by unfold ah6;rw[hPD]
   rw[hPD]at hA Lo hvo ⊢;dsimp only at hA Lo hvo;simp only[jo,aq,bg];have sk:=dB.N;refine ae b9 ?_;refine VC.al ?_;rintro O8 ⟨gR,Ln,Ar⟩;have Ax:=gR.at Ay;have Vm:=(DT.ge dB).ge gR;have Cf:=(LG.ge dB).ge gR;cases h1:(pe != 0)with
   | true=>
     rw[h1,Bool.true_or]at LI;refine θ (bo b9 Ln Ax h1 ?_);rw[if_pos (by rw[LI]<;>rfl)]at hA;subst hA
     replace hR:Except.error _=R9:=hR
     subst hR;refine η (kD Cf.cell 20 (Wj++Vj)) ?_;refine ak b9 @wd ?_;exact⟨(ax.trans Vm).mono λi _ e=>Λ,rfl⟩
   | false=>
   cases rh with
   | true=>
     rw[h1]at LI;refine θ (bo b9 Ln Ax h1 ?_);rw[if_pos (by rw[LI]<;>rfl)]at hA;subst hA
     replace hR:Except.error _=R9:=hR
     subst hR;refine η (kD Cf.cell 20 (Wj++Vj)) ?_;refine ak b9 @wd ?_;exact⟨(ax.trans Vm).mono λi _ e=>Λ,rfl⟩
   | false=>
   cases h3:(!dt==[112,111,109])with
   | true=>
     rw[h1,show(dt != Vk)=Α from h3]at LI;refine θ (bo b9 Ln Ax (abT h1 h3) ?_);rw[if_pos (by rw[LI]<;>rfl)]at hA;subst hA
     replace hR:Except.error _=R9:=hR
     subst hR;refine η (kD Cf.cell 20 (Wj++Vj)) ?_;refine ak b9 @wd ?_;exact⟨(ax.trans Vm).mono λi _ e=>Λ,rfl⟩
   | false=>
   cases h4:(!dc==[])with
   | true=>
     rw[h1,show(dt != Vk)=γ from h3,show(dc != [])=Α from h4]at LI;refine θ (bo b9 Ln Ax (abT h1 (abT h3 h4)) ?_);rw[if_pos (by rw[LI]<;>rfl)]at hA;subst hA
     replace hR:Except.error _=R9:=hR
     subst hR;refine η (kD Cf.cell 20 (Wj++Vj)) ?_;refine ak b9 @wd ?_;exact⟨(ax.trans Vm).mono λi _ e=>Λ,rfl⟩
   | false=>
   rw[h1,show(dt != Vk)=γ from h3,show(dc != [])=γ from h4]at LI;(rw[if_neg (by rw[LI]<;>decide)]at hA;have nF:=(iU.ge dB).ge gR;have Fg:=(hG6.ge dB).ge gR;have hVl:(V++[((⟨dg,da,rv⟩:Gv),Wj)]).length=Ζ V+1:=by rw[ai9];rfl);have hVf:(V++[((⟨dg,da,rv⟩:Gv),Wj)]).flatMap tS=V.flatMap tS++tS (⟨dg,da,rv⟩,Wj):=by rw[apE];simp
   have hVo:∀x∈V++[((⟨dg,da,rv⟩:Gv),Wj)],gG x.1:=λx hx=>by
    rcases an7.1 hx with hx | hx;exact amS x hx;rw[alp.1 hx];exact hvo
   obtain⟨mE,iT,oX⟩:=jj (n:=Ζ V) (cs:=V.flatMap tS) (ds:=[.s dg,.s da,.s rv,.s Wj]) (es:=tS (⟨dg,da,rv⟩,Wj)) alL alM.1.1 nF (aP Fi V) rfl rfl z12 Λ z13 (aek V) (by simp only[tS,aS,Ro,TR,wu]);refine θ (Em b9 Ln Ax h1 h3 h4 ?_);refine ι (aF b9 Ln Ax ?_);refine VL.o7 iT oX ?_;refine ae b9 ?_;refine ο b9 ew ?_;have Fh:=dR.after nF;have amT:=ax.trans Vm;have GK:=amT.1;obtain⟨M8,cm8,DU,_⟩:=Fg;refine aw.N (j+1,A',V++[(⟨dg,da,rv⟩,Wj)],.own O8.N 4,ta,Fa) ⟨bu,⟨⟨by have:=Fh.N;omega,λi hi hn=>(Fh.hp i Λ (λe=>by have:=(nF.iM e).1;omega)).trans (amT.2 i hi hn)⟩,by have:=Fh.N;omega,Cf.mv Fh.N λi hi e=>Fh.hp i hi (λe2=>by have:=(nF.iM e2).1;omega),App.after,nM.mv ⟨M8,cm8,DU, ‹_›⟩ Fh.N λi hi e=>Fh.hp i hi (λe2=>?_),λi e e2=>?_,by dsimp only;omega,by dsimp only;omega,ar2,hVo⟩,hA⟩ (hl:=(by dsimp only;rw[hVf,hVl];rfl));rcases e with e | e | e;have:=nF.tok e2;rw[e,DU.cell]at this;cases this;have:=nF.tok e2;rw[e,DU.map]at this;cases this;exact By i e e2;injection e2 with e2;have:=(DU.app.iM e).2;omega
  ·rw[if_pos hs]at hA;(have vL:(gl != 6)=Α:=by simpa using hs);refine θ (aF b9 uu vL ?_);refine π (w8 O6 hG6 Λ) ?_;rintro _ O8 ⟨Vi,Fg,ah5,Ar,AD⟩;obtain⟨M6,cm6,abo,_⟩:=hG6;have nF:App O8 O.N 4 ti:=iU.at Ar λi e=>AD i (iU.iM e).2 (λe2=>by have:=iU.tok e;rw[e2,abo.cell]at this;cases this) (λe2=>by have:=iU.tok e;rw[e2,abo.map]at this;cases this) (λe2=>By i e2 e)
   have abn:∀i,Tok.id Vi=φ i->Tok.id ti≠φ i:=λi e e2=>by
    rcases ah5 with e3 | e3;rw[e3]at e;exact By i e e2;have:=e3 i e;have:=(iU.iM e2).2;omega
   have amU:=ax.trans DT;have Yp:=amU.1;have vw:dC (λi=>i=tb\/i=kd) O O8:=⟨Λ,λi hi hn=>(AD i Λ Λ Λ (λe=>by have:=(abo.app.iM e).1;omega)).trans (amU.2 i hi hn)⟩;(have Cf:j5 O8 wb bb tb kr kd g p W tw L R cr tk Fa:=LG.mv Ar λi hi e=>AD i hi Λ Λ (λe2=>by have:=(abo.app.iM e2).1;omega));refine ae b9 ?_;refine ο b9 ew ?_;exact aw.N (j+1,nN A' ⟨dg,da,dv,dt,dc,gl,dO,dx⟩,V,ti,Vi,Fa) ⟨bu,⟨vw,Λ,Cf,nF,Fg,abn,by dsimp only;omega,by dsimp only;omega,haB,amS⟩,hA⟩
 rintro⟨A',V,ti,ta,st'⟩ O2 ⟨hI,hA⟩;dsimp only at hI hA ⊢;rw[hA]at hR;dsimp only[fp]at hR;have qX:BW O2 A B k bb md S mm:=hB.mv hI.fr.1 λi hi e=>hI.fr.2 i hi Λ
 have jh:dC (λi=>(A.1<=i/\i<B/\i≠A.2)\/i=md\/i=tb\/i=kd) O O2:=hI.fr.mono λi _ e=>Λ
 have eG:=hI.nx;have vn:=hI.wk;have Fe:=hI.ga;have m5:=hI.al;have sK:=hI.vl;have Zn:=hI.ar;have hvo:=hI.vo;clear hI hA QV GB Cc gN aM;obtain⟨F1,Yn⟩:∃F1,Kb lP g W V A' mm=F1:=⟨_,rfl⟩
 rw[Yn]at hR;have atQ:=aP Fi V;have hws:∀(O':VH)(s':cT),j5 O' wb bb tb kr kd g p W tw L R cr tk s'->O'.hp wb=φ (.cells [.p tb 0,.p bb 0,.s g.g,.s g.a,.s g.v,.v (.bool p.hp),.s p.par.g,.s p.par.a,.s p.par.v,.s p.g,.s p.a,.s p.v,.s p.pk,.l (Ζ p.props) (p.props.flatMap bp) .av,.l (Ζ p.bL) (p.bL.flatMap aG) .av,.l (Ζ p.dH) (p.dH.flatMap aG) .av,.l (Ζ W) (W.flatMap aS) tw]):=λO' s' h=>h.cell
 refine Ξ [0,3] (λ_:List Dp×Tok×List (Gv×eM)=>[.p wb 0,.p (O.N+1) 0]) (λx O'=>dC (λi=>(A.1<=i/\i<B/\i≠A.2)\/i=md\/i=tb\/i=kd) O O'/\O.N+2<=O'.N/\j5 O' wb bb tb kr kd g p W tw L R cr tk st'/\nM O' (O.N+1) O.N O.N x.1 x.2.1/\BW O' A B k bb md S x.2.2/\(∀d∈x.1,rJ d)/\(Ζ x.1)<=90000000/\F1= .ok (x.1,x.2.2)) ?_ ?_
 ·refine κ b9 ?_;refine Γ ?_;refine Υ [84] [0,3,82,83] (λx:Nat×List Dp×Tok×List (Gv×eM)=>[mi x.1]) (λx O'=>x.1<=(Ζ V)/\dC (λi=>(A.1<=i/\i<B/\i≠A.2)\/i=md\/i=tb\/i=kd) O O'/\O.N+2<=O'.N/\j5 O' wb bb tb kr kd g p W tw L R cr tk st'/\nM O' (O.N+1) O.N O.N x.2.1 x.2.2.1/\BW O' A B k bb md S x.2.2.2/\(∀d∈x.2.1,rJ d)/\(Ζ x.2.1)<=32768+1024*x.1/\Kb lP g W (V.drop x.1) x.2.1 x.2.2.2=F1) (λx=>(Ζ V) - x.1) ((0,A',ta,mm)) ?_ ?_;exact⟨an2 _,jh,eG,vn,Fe,qX,Zn,by dsimp only;omega,Yn⟩;clear Yn qX jh eG vn Fe Zn m5 hB;rintro⟨j,A2,ta,mm⟩ O2 ⟨hj,jh,eG,vn,Fe,qX,Zn,m5,hM⟩;dsimp only at hj Fe qX Zn m5 hM ⊢;by_cases bu:j<Ζ V;rotate_left
  ·obtain rfl:j=Ζ V:=Λ
   rw[aum]at hM;refine ν b9 ?_;exact aE.mk (A2,ta,mm) ⟨jh,eG,vn,Fe,qX,Zn,by dsimp only;omega,hM.symm⟩
  have bh:=bY Fi V j bu;have hxo:=hvo V[j] (an3 bu);rw[an4 bu,Kb]at hM;generalize V[j]=x at*;obtain⟨xg,xw⟩:=x;dsimp only at hxo hM;(((have uE:=λO' tk=>UM W tk xg O' Λ);have G5:=λ(G8:Ζ W<32)(O':VH)(h':BW O' A B k bb md S mm)=>ah7 G8 O' mm xg tw h' hxo);have ew:=jSx j);obtain⟨x1,x2,x3⟩:=xg;simp only[tS,aS,Ro,TR]at bh uE G5;refine κ b9 ?_;refine κ b9 ?_;refine Δ (Γ ?_);refine ξ b9 bh ?_;refine VC.al ?_;rintro O3 ⟨aB,eH,ea⟩;have GW:=aB.at (hws O2 st' vn);have DB:=qX.ge aB;have AB:=vn.ge aB;have ku:=jh.ge aB;simp only[bg]at uE;refine Ξ [0,3,11,82,83,84] (λ_:Unit=>[.p wb 0,.p (O.N+1) 0,.p O2.N 0,.l (Ζ V) (V.flatMap tS) ti,.v (Ι Κ (Ζ V)),.v (Ι Κ j)]) (λ_ O'=>O3.Ge O'/\W.contains ⟨x1,x2,x3⟩=γ/\¬32<=Ζ W) ?_ ?_
  ·refine Γ ?_;refine Δ ?_;refine VC.tA [] (wb) (O2.N) (GW) (eH) ?_ (hne:=Λ);intro X1 X2;refine ρ 0 b9 ?_;refine ρ 1 b9 ?_;refine ρ 2 b9 ?_;refine ε (m:=.l (Ζ W) (W.flatMap aS) tw) 3 (λ_ h=>h.1) (λ_ h=>h.1) ?_ ?_;exact ez b9;simp only[ag];refine ρ 4 b9 ?_;refine ε (m:=.agg [.s x1,.s x2,.s x3]) 5 (λ_ h=>h.2) (λ_ h=>h.2) ?_ ?_;exact ez b9;simp only[ag];have hJ:GO wb O2.N X1 X2 ((O3.set wb (.obj X1)).set O2.N (.obj X2)):=⟨Θ (υ _ _ _),υ _ _ _⟩;have ie:((O3.set wb (.obj X1)).set O2.N (.obj X2)).N=O3.N:=rfl;(have jz:∀i,i≠wb->i≠O2.N->((O3.set wb (.obj X1)).set O2.N (.obj X2)).hp i=O3.hp i:=λi h1 h2=>by rw[τ _ _ h2,τ _ _ h1]);generalize (O3.set wb (.obj X1)).set O2.N (.obj X2)=O5 at*
   have apd:∀O6:VH,O5.Ge O6->O3.Ge ((O6.set wb (.cells [.p tb 0,.p bb 0,.s g.g,.s g.a,.s g.v,.v (.bool p.hp),.s p.par.g,.s p.par.a,.s p.par.v,.s p.g,.s p.a,.s p.v,.s p.pk,.l (Ζ p.props) (p.props.flatMap bp) .av,.l (Ζ p.bL) (p.bL.flatMap aG) .av,.l (Ζ p.dH) (p.dH.flatMap aG) .av,.l (Ζ W) (W.flatMap aS) tw])).set O2.N (.cells [.s x1,.s x2,.s x3,.s xw])):=λO6 dU=>⟨by show O3.N<=O6.N;have:=dU.N;omega,λi hi=>by
    by_cases e1:i=O2.N;rw[e1,υ];exact eH.symm;rw[τ _ _ e1];by_cases e2:i=wb;rw[e2,υ];exact GW.symm;rw[τ _ _ e2,dU.hp i Λ,jz i e2 e1]⟩
   refine ab.call (i:=6) (uE O5 tw) ?_;rintro _ O6 ⟨rfl,dU⟩;simp only[ag];refine⟨⟨dU.at hJ.1,dU.at hJ.2⟩,?_⟩;refine ρ 7 b9 ?_;refine ab.pZ [] ?_ (hne:=Λ);have dB:=apd O6 dU;have hw7:((O6.set wb (.cells [.p tb 0,.p bb 0,.s g.g,.s g.a,.s g.v,.v (.bool p.hp),.s p.par.g,.s p.par.a,.s p.par.v,.s p.g,.s p.a,.s p.v,.s p.pk,.l (Ζ p.props) (p.props.flatMap bp) .av,.l (Ζ p.bL) (p.bL.flatMap aG) .av,.l (Ζ p.dH) (p.dH.flatMap aG) .av,.l (Ζ W) (W.flatMap aS) tw])).set O2.N (.cells [.s x1,.s x2,.s x3,.s xw])).hp wb=φ (.cells (w7 tb bb g p W tw)):=Θ (υ _ _ _);cases hc:W.contains (⟨x1,x2,x3⟩:Gv)with
   | true=>
     rw[hc,if_pos rfl]at hM;subst hM
     replace hR:Except.error _=R9:=hR
     subst hR;refine ae b9 ?_;refine VC.qI rfl ?_;refine ν b9 ?_;refine η (kD hw7 24 xw) ?_;refine ak b9 @wd ?_;exact⟨ku.ge dB,rfl⟩
   | false=>
     rw[hc,if_neg z10]at hM;by_cases G8:32<=Ζ W
     ·rw[if_pos G8]at hM;subst hM
      replace hR:Except.error _=R9:=hR
      subst hR;have e1:decide ((Ζ W:Int)>=32)=Α:=decide_eq_true Λ;have e2:decide ((32:Int)<=(Ζ W:Int))=Α:=e1;refine ae b9 ?_;refine VC.oc rfl ?_;refine ο b9 (abT e1 e2) ?_;refine η (kD hw7 2 xw) ?_;refine ak b9 @wd ?_;exact⟨ku.ge dB,rfl⟩
     ·have e1:decide ((Ζ W:Int)>=32)=γ:=decide_eq_false Λ;have e2:decide ((32:Int)<=(Ζ W:Int))=γ:=e1;refine ae b9 ?_;refine VC.oc rfl ?_;refine ο b9 (abT e1 e2) ?_;exact aE.mk () ⟨dB,G8⟩
  rintro _ O4 ⟨aV,hc,G8⟩;rw[hc,if_neg z10,if_neg G8]at hM;have iD:=aV.at eH;have LB:=aV.at GW;have Ds:=DB.ge aV;have xz:=AB.ge aV;have nY:=ku.ge aV;have fe:=aV.N;have hG4:=(Fe.ge aB).ge aV;clear aV eH GW DB AB ku qX vn jh uE hc Fe aB;refine Δ ?_;refine VC.tA [] (wb) (O2.N) (LB) (iD) ?_ (hne:=Λ);intro X1 X2;refine ρ 0 b9 ?_;refine ρ 1 b9 ?_;refine ρ 2 b9 ?_;refine ε (m:=.p bb 0) 3 (λ_ h=>h.1) (λ_ h=>h.1) ?_ ?_;exact ez b9;simp only[ag];refine ρ 4 b9 ?_;refine ε (m:=.agg [.s x1,.s x2,.s x3]) 5 (λ_ h=>h.2) (λ_ h=>h.2) ?_ ?_;exact ez b9;simp only[ag];refine ρ 6 b9 ?_;refine ρ 7 b9 ?_;refine ρ 8 b9 ?_;refine ε (m:=.l (Ζ W) (W.flatMap aS) tw) 9 (λ_ h=>h.1) (λ_ h=>h.1) ?_ ?_;exact ez b9;simp only[ag];refine ρ 13 b9 ?_;have hJ:GO wb O2.N X1 X2 ((O4.set wb (.obj X1)).set O2.N (.obj X2)):=⟨Θ (υ _ _ _),υ _ _ _⟩;have ie:((O4.set wb (.obj X1)).set O2.N (.obj X2)).N=O4.N:=rfl;(((have jz:∀i,i≠wb->i≠O2.N->((O4.set wb (.obj X1)).set O2.N (.obj X2)).hp i=O4.hp i:=λi h1 h2=>by rw[τ _ _ h2,τ _ _ h1]);generalize (O4.set wb (.obj X1)).set O2.N (.obj X2)=O5 at*;have yh:BW O5 A B k bb md S mm:=Ds.mv Λ λi hi e=>jz i Λ Λ);have dX:=G5 Λ O5 yh;obtain⟨XB,hXB⟩:∃XB,lP mm ⟨x1,x2,x3⟩=XB:=⟨_,rfl⟩);rw[hXB]at hM dX;refine ab.ahu (i:=10) wb dX ?_ ?_ (λ_ h=>h.1);rotate_left
  ·rintro m O6 ⟨rK,h6⟩;cases XB with
   | ok y=>exact h6.elim
   | error e=>
     replace hM:Except.error e=F1:=hM
     subst hM
     replace hR:Except.error e=R9:=hR
     subst hR
     replace h6:m=tQ e:=h6
     subst h6;have Yp:=rK.1;refine⟨rK.at Λ Λ hJ.1,?_⟩;refine ak b9 @wd ?_;refine⟨⟨by have:=nY.1;show O.N<=O6.N;omega,λi hi hn=>?_⟩,rfl⟩;have fX:=nY.1;by_cases e2:i=wb;rw[e2,υ];exact(hws O st h).symm;rw[τ _ _ e2,rK.2 i Λ (λe=>hn Λ),jz i e2 Λ];exact nY.2 i hi hn
  rintro m O6 ⟨rK,h6⟩;cases XB with
  | error e=>exact h6.elim
  | ok y=>
  dsimp only[fp]at hM;obtain⟨y,Vn⟩:=y;obtain⟨AE,BY,hMd⟩:=h6;dsimp only at hM AE BY hMd;have hmd:qC y=[.s y.g.g,.s y.g.a,.s y.g.v,.s y.pk,.l (Ζ y.props) (y.props.flatMap bp) .av,.l (Ζ y.bL) (y.bL.flatMap aG) .av,.l (Ζ y.Cg) (y.Cg.flatMap eK) .av]:=rfl;rw[hmd]at AE;clear hmd;subst AE;have Yp:=rK.1;simp only[ag];refine⟨⟨rK.at Λ Λ hJ.1,rK.at Λ Λ hJ.2⟩,?_⟩;refine ρ 11 b9 ?_;refine ρ 12 b9 ?_;refine ab.pZ [] ?_ (hne:=Λ);refine ae b9 ?_;refine VC.gen ?_;intro O7 e7
  have xx:∀i,i<O4.N->¬((A.1<=i/\i<B/\i≠A.2)\/i=md)->O7.hp i=O4.hp i:=λi hi hn=>by
   rw[e7];by_cases e1:i=O2.N;rw[e1,υ];exact iD.symm;rw[τ _ _ e1];by_cases e2:i=wb;rw[e2,υ];exact LB.symm;rw[τ _ _ e2,rK.2 i Λ hn,jz i e2 e1]
  (have sk:O4.N<=O7.N:=by rw[e7];show _<=O6.N;omega);have Lq:BW O7 A B k bb md S Vn:=by rw[e7];exact BY.mv (Rn _) λi hi e=>by rw[VH.sx,VH.sx]
  have QX:dC (λi=>(A.1<=i/\i<B/\i≠A.2)\/i=md\/i=tb\/i=kd) O O7:=⟨by have:=nY.1;omega,λi hi hn=>(xx i (by have:=nY.1;omega) (λe=>hn Λ)).trans (nY.2 i hi hn)⟩;(have JM:j5 O7 wb bb tb kr kd g p W tw L R cr tk st':=xz.mv sk λi hi e=>xx i hi Λ);have ar3:=hG4;obtain⟨M4,cm4,ar4,_⟩:=ar3
  have hG7:nM O7 (O.N+1) O.N O.N A2 ta:=hG4.mv sk λi hi e=>xx i hi (by
   rcases e with e | e | e;omega;omega;have:=(ar4.app.iM e).1;omega)
  clear e7 xx rK BY jz hJ yh xz Ds hG4 LB iD dX;have hpm:=aP cW y.bL;have Vo:=hMd.mn;have hmL:=hMd.ml;have atS:=Lq.lt;generalize hMn:y.bL=MN at*;refine Γ ?_;refine Υ [124] [0,3,82,83,84,122,123] (λx:Nat×Tok=>[mi x.1]) (λx O'=>x.1<=(Ζ MN)/\dC (λi=>(A.1<=i/\i<B/\i≠A.2)\/i=md\/i=tb\/i=kd) O O'/\O.N+2<=O'.N/\j5 O' wb bb tb kr kd g p W tw L R cr tk st'/\nM O' (O.N+1) O.N O.N ((MN.take x.1).foldl nN A2) x.2/\BW O' A B k bb md S Vn) (λx=>(Ζ MN) - x.1) ((0,ta)) ?_ ?_;exact⟨an2 _,QX,Λ,JM,hG7,Lq⟩;clear QX JM hG7 Lq;rintro⟨q,tq⟩ O8 ⟨hq,vw,Ar,Cf,Fg,Qq⟩;dsimp only at hq Fg ⊢;by_cases JC:q<Ζ MN;rotate_left
  ·obtain rfl:q=Ζ MN:=Λ
   rw[List.take_length]at Fg;have EH:=Oe Zn Vo;refine ν b9 ?_;refine ο b9 ew ?_;exact aw.N (j+1,MN.foldl nN A2,tq,Vn) ⟨bu,vw,Ar,Cf,Fg,Qq,EH.2,by have:=EH.1;dsimp only;omega,hM⟩
  have amV:=bY cW MN q JC;have hq1:=jSx q;(((((have fP:(MN.take (q+1)).foldl nN A2=nN ((MN.take q).foldl nN A2) MN[q]:=by rw[bN MN q JC,List.foldl_append];rfl);have hdq:=Vo MN[q] (an3 JC);have EH:=Oe (M:=MN.take q) Zn λd hd=>Vo d (List.mem_of_mem_take hd));have xG:(MN.take q).length<=1024:=by rw[List.length_take];omega);generalize MN[q]=d at*;generalize (MN.take q).foldl nN A2=A3 at*;have w8:=λ(O':VH)(hG:nM O' (O.N+1) O.N O.N A3 tq)(h2:O.N<=O'.N)=>QW hG d hdq.ok (by have:=EH.1;omega) h2);have DE:aG d=[.s d.g,.s d.a,.s d.v,.s d.t,.s d.c,.v (Ι Κ d.s),.v (Ι Κ d.o),.l (Ζ d.x) (d.x.flatMap cI) .av]:=rfl;rw[DE]at w8 amV;clear DE;refine κ b9 ?_;refine κ b9 ?_;refine Δ (Γ ?_);refine ξ b9 amV ?_;refine VC.al ?_;rintro O9 ⟨bq,QG,yP⟩;refine ο b9 QG ?_;refine π (w8 O9 (Fg.ge bq) Λ) ?_;rintro _ fb ⟨t10,ar5,as_,wQ,lR⟩;have YV:=Fg.ge bq;obtain⟨M9,cm9,ar6,_⟩:=YV;have jG:=vw.ge bq;have hl9:=jG.1;have Zo:∀i,i<O.N->fb.hp i=O9.hp i:=λi hi=>lR i Λ Λ Λ (λe=>by have:=(ar6.app.iM e).1;omega));refine ae b9 ?_;refine ο b9 hq1 ?_;exact aw.N (q+1,t10) ⟨JC,⟨Λ,λi hi hn=>(Zo i hi).trans (jG.2 i hi hn)⟩,Λ,(Cf.ge bq).mv wQ λi hi e=>Zo i Λ,by dsimp only;rw[fP];exact ar5,(Qq.ge bq).mv wQ λi hi e=>Zo i Λ⟩
 rintro⟨A3,t3,Vn⟩ O3 ⟨ku,ea,AB,hG3,DB,hR3,hL3,amW⟩;dsimp only at hG3 DB hR3 hL3 amW ⊢;rw[amW]at hR;dsimp only[fp]at hR;have ar7:=hG3;obtain⟨M3,cm3,ar8,_⟩:=ar7;have en:=ar8.cell;by_cases F2:Ζ A3>1024;rw[if_pos F2]at hR;subst hR;have e1:decide ((Ζ A3:Int)>1024)=Α:=decide_eq_true Λ;have e2:decide ((1024:Int)<(Ζ A3:Int))=Α:=e1;refine θ (aF b9 en (abT e1 e2) ?_);refine η (kD AB.cell 2 amP) ?_;refine ak b9 @wd ?_;exact⟨ku,rfl⟩;rw[if_neg F2]at hR;subst hR;have e1:decide ((Ζ A3:Int)>1024)=γ:=decide_eq_false Λ;have e2:decide ((1024:Int)<(Ζ A3:Int))=γ:=e1;refine θ (aF b9 en (abT e1 e2) ?_);refine ο b9 en ?_;exact⟨ku,⟨t3,rfl⟩,AB,DB,hR3,by dsimp only;omega⟩
end
def oS:=abT b9<|abT iA<|abT FP<|abT IG<|abT SR<|abT T40<|abT SV<|abT Ep AT
def Vp:Bs:=[112,114,111,106,101,99,116,46,103,114,111,117,112,73,100]
def Vq:Bs:=[112,114,111,106,101,99,116,46,97,114,116,105,102,97,99,116,73,100]
def Vr:Bs:=[112,114,111,106,101,99,116,46,118,101,114,115,105,111,110]
def Vs:Bs:=[112,114,111,106,101,99,116,46,112,97,114,101,110,116,46,103,114,111,117,112,73,100]
def Vt:Bs:=[112,114,111,106,101,99,116,46,112,97,114,101,110,116,46,97,114,116,105,102,97,99,116,73,100]
def Vu:Bs:=[112,114,111,106,101,99,116,46,112,97,114,101,110,116,46,118,101,114,115,105,111,110]
def nO(p:Pm):List (Bs×Bs):=bif p.hp then jA (jA p.props [(Vp,p.g),(Vq,p.a),(Vr,p.v)]) [(Vs,p.par.g),(Vt,p.par.a),(Vu,p.par.v)]else jA p.props [(Vp,p.g),(Vq,p.a),(Vr,p.v)]
def Kc:∀{M L:List (Bs×Bs)},(jA L M).length<=Ζ L+Ζ M
 | [],L=>aun _ _
 | x::M,L=>by
   have:=Kc (M:=M) (L:=lr x.1 x.2 L);have h2:=Ah x.1 x.2 L;have h1:(jA L (x::M)).length<=(lr x.1 x.2 L).length+Ζ M:=this;rw[ai8];omega
def akW{p:Pm}(hp:Y6 32 p):(nO p).length<=40000/\∀e∈nO p,Ha e:=by
 obtain⟨t1,t2,t3,t4,t5,t6,t7⟩:=hp.tx
 have h1:∀e∈[(Vp,p.g),(Vq,p.a),(Vr,p.v)],Ha e:=λe he=>by
  simp only[apK,auj,or_false]at he;rcases he with rfl | rfl | rfl;exact⟨(by decide:Ζ Vp<=100000),t4⟩;exact⟨(by decide:Ζ Vq<=100000),t5⟩;exact⟨(by decide:Ζ Vr<=100000),t6⟩
 have h2:∀e∈[(Vs,p.par.g),(Vt,p.par.a),(Vu,p.par.v)],Ha e:=λe he=>by
  simp only[apK,auj,or_false]at he;rcases he with rfl | rfl | rfl;exact⟨(by decide:Ζ Vs<=100000),t1⟩;exact⟨(by decide:Ζ Vt<=100000),t2⟩;exact⟨(by decide:Ζ Vu<=100000),t3⟩
 have o1:=DJ hp.pn h1;have o2:=DJ o1.2 h2;have hl:=hp.pl;unfold nO;cases p.hp with
 | false=>exact⟨by have:=o1.1;simp only[cond_false,ai8,ai_]at this ⊢;omega,o1.2⟩
 | true=>exact⟨by have:=o1.1;have:=o2.1;simp only[cond_true,ai8,ai_]at*;omega,o2.2⟩
def Of(p:Pm)(O:VH)(hp:Ζ p.props<=50000):VF Ε 67 [.agg (dy p)] O (aC λm O'=>(∃t,m= .l (nO p).length ((nO p).flatMap bp) t)/\O.Ge O'):=by
 have Ei:=Kc (L:=p.props) (M:=[(Vp,p.g),(Vq,p.a),(Vr,p.v)]);have t_:=λ(O':VH)(t1 t2:Tok)=>JO p.props [(Vp,p.g),(Vq,p.a),(Vr,p.v)] t1 t2 O' (by simp only[ai8,ai_];omega)
 have D7:=λ(O':VH)(t1 t2:Tok)=>JO (jA p.props [(Vp,p.g),(Vq,p.a),(Vr,p.v)]) [(Vs,p.par.g),(Vt,p.par.a),(Vu,p.par.v)] t1 t2 O' (by simp only[ai8,ai_]at Ei ⊢;omega)
 unfold nO;obtain⟨b,⟨pg,pa,pv⟩,pG,pA,pV,pk,P,M,D⟩:=p;simp only[Vp,Vq,Vr,Vs,Vt,Vu,ats,ai8,ai_,aui,List.flatMap_cons,List.append_nil,bp,Ro,TR]at t_ D7 ⊢;simp only[dy,bg];refine ω 35 [.tmp 2] func67 ?_;refine κ oS ?_;refine VC.bx ?_;rintro O1 ⟨aM,dz,dq⟩;refine ξ oS dz ?_;refine π (t_ O1 _ _) ?_;rintro _ O2 ⟨⟨t,rfl⟩,ax⟩;have dQ:=ax.at dz;cases b with
 | false=>
   refine ae oS ?_;refine ο oS dQ ?_;exact⟨⟨t,rfl⟩,aM.trans ax⟩
 | true=>
   refine ae oS ?_;refine ξ oS dQ ?_;refine π (D7 O2 _ _) ?_;rintro _ O3 ⟨⟨t3,rfl⟩,aB⟩;refine ae oS ?_;refine ν oS ?_;exact⟨⟨t3,rfl⟩,(aM.trans ax).trans aB⟩
def ah8(x:Iv):(fy x).length=6:=rfl
def ael(L:List Iv)(tk:Tok)(O:VH)(hn:Ζ L<=100000):VF Ε 64 [.l (Ζ L) (L.flatMap fy) tk] O (aC λm O'=>∃t,m= .l (Ζ L) (L.flatMap fy) t/\App O' O.N 6 t/\O.Ge O'):=by
 have cz:=aP ah8 L;refine χ 8 [.tmp 2] func64 ?_;refine ak oS @nH ?_;refine auV (qy Tryz.underlying40 rfl) ?_;rintro _ O1 ⟨eO,b,rfl,hb⟩;rw[eO];clear eO O1;refine WL.sound aa ?_;cases b
 ·refine ae oS ?_;by_cases h0:Ζ L=0;have hL:L=[]:=asc h0;subst hL;refine VL.app (m:=.l 0 [] .full) (O':=O) (by simp[jO,T40,SV.1.1]) ?_ (ht:=aa) (hx:=rfl) (hy:=rfl);refine ae oS ?_;exact⟨.full,rfl,trivial,VH.Ge.refl _⟩
  ·have fX:(L.flatMap fy).all dF=Α:=by
    rw[List.all_flatMap,auo];intro p _;rfl
   have o_:=bE (tk:=.full) (tk':=tk) (B:=O.N) (n:=0) (k:=Ζ L) (cs:=[]) (ds:=L.flatMap fy) T40 SV.1.1 (O:=O) trivial rfl cz fX z12 h0 Λ z41;rw[aui,TR]at o_;refine VL.o7 o_ (by rw[uL,mu]) ?_;refine ae oS ?_;exact⟨_,rfl,App.after (Rn _),dR.Te (tk:=.full) (sz:=6) trivial (dR.after (sz:=6) (B:=0) trivial)⟩
 ·obtain⟨h0,h1⟩:=hb rfl;rw[h0,h1];refine ae oS ?_;exact⟨.nil,rfl,trivial,VH.Ge.refl _⟩
def Zp(L:List Iv)(tk:Tok)(O:VH)(hn:Ζ L<=100000):VF Ε 64 [.l (Ζ L) (L.flatMap fy) tk] O (aC λm O'=>m= .l (Ζ L) (L.flatMap fy) .av/\O.Ge O'):=
 VF.wkR (ael L tk O hn) λm O' ⟨t,h1,h2,h3⟩=>⟨_,h1▸Wk.tok,rfl,h3⟩
def Zq(L:List mw)(tk:Tok)(O:VH)(hn:Ζ L<=100000):VF Ε 62 [.l (Ζ L) (L.flatMap eK) tk] O (aC λm O'=>O.Ge O'/\GR O' 112 10 O.N m (Ζ L) (L.flatMap eK)):=by
 have cz:=aP pQ L
 have fX:(L.flatMap eK).all dF=Α:=by
  rw[List.all_flatMap,auo];intro p _;rfl
 refine χ 8 [.tmp 2] func62 ?_;refine ak oS @nH ?_;refine auV (qy Tryz.underlying105 rfl) ?_;rintro _ O1 ⟨eO,b,rfl,hb⟩;rw[eO];clear eO O1;refine WL.sound aa ?_;cases b;refine ae oS ?_;refine VL.grow aa (.inl rfl) (te:=⟨_,10,_,_⟩) (B:=O.N) (n':=0) (L:=[]) (dx:=.slice 112) (p:=.l 0 [] .full) (q:=.l (Ζ L) (L.flatMap eK) tk) (j:=Ζ L) (ds:=L.flatMap eK) (.inl ⟨rfl,rfl,.inr rfl⟩) (by simp[sW,cz]) fX (by rw[IG];rfl) SR.1.1 (by rw[IG];rfl) trivial z18 z13 (Rn _) rfl rfl rfl rfl ?_;intro m O' h1 h2 h3 h4;rw[aui,TR]at h1;refine ae oS ?_;exact⟨h3 rfl,h1⟩;obtain⟨h0,h1⟩:=hb rfl;rw[h0,h1];refine ae oS ?_;exact⟨VH.Ge.refl _,.inl ⟨rfl,rfl,.inl rfl⟩⟩
def VC.ah9{P:Program}{n':Sz}{p:Nat}{el:TypeId}{m:MV}{A E:Η}(h:GR O el sz B m n cs)(hp:O.hp p=φ (.cells (A++m::E)))(sM:p<B)(hl:Ζ cs=n*sz)(K:∀tm O3,O3.N=O.N->O3.hp p=φ (.cells (A++ .l n cs tm::E))->(∀i,i≠p->gid m≠φ i->O3.hp i=O.hp i)->VC P n' D c e O3 Q):VC P n' D c e O Q:=by
 rcases h with⟨h0,h1,h2⟩ | ⟨k,cp,rfl,_,_,hr⟩;subst h0;subst h1;rcases h2 with rfl | rfl;((exact K _ O rfl hp λ_ _ _=>rfl);exact K _ O rfl hp λ_ _ _=>rfl);obtain⟨sp,hc,lU⟩:=hr.cells;have hk:=hr.lo;refine VC.zV hc hp Λ (sz:=n*sz) (by rw[ai9,hl];omega) ?_;(have fP:((cs++sp).drop 0).take (n*sz)=cs:=by rw[List.drop_zero,List.take_append_of_le_length (by rw[hl];exact Rn _), <-hl,List.take_length]);rw[fP];exact K .av _ rfl (υ _ _ _) λi h1 h2=>(τ _ _ h1).trans (VH.lF _ λe=>h2 (by rw[e];rfl))
def Og{el:TypeId}{p:MV}{L:Η}(h:GR O el sz B p n L):p= .l 0 [] .nil\/p= .l 0 [] .full\/∃k c,p= .bk k 0 n c:=by
 rcases h with⟨_,_,h | h⟩ | ⟨k,c,h,_⟩;exact .inl h;exact .inr (.inl h);exact .inr (.inr ⟨k,c,h⟩)
def dh:=oS
def akX(m:eM)(O:VH)(hm:MdB m):VF Ε 35 [.agg (qC m)] O (aC λr O'=>r= .agg (qC m)/\O.Ge O'):=by
 refine VF.fg ?_;obtain⟨⟨g1,g2,g3⟩,pk,P,M,L⟩:=m;have hp:=hm.pl;have nQ:=hm.ml;have hn:=hm.nl;have An:∀d∈M,Ζ d.x<=10000:=λd hd=>aev (hm.mn d hd).x z12
 have hx:∀n∈L,Ζ n.x<=10000/\(Ζ n.r.2.2)<=10000:=λn h=>by
  have:=hm.nn n h;obtain⟨v,h1,_,h3⟩:=this.r;refine⟨aev this.x z12,?_⟩;rw[h3];have:=(sF v).2.1;omega
 dsimp only at hp nQ hn;clear hm;simp only[qC,aS,Ro,TR];have cz:=aP pQ L;have hpm:=aP cW M;refine ω 70 [.cell 2 107] func35 ?_;refine κ dh ?_;refine VC.gen ?_;intro O1 e1;obtain⟨aM,dq,eo,cS⟩:=jS _ _ e1;clear e1;refine Ξ [1,2] (λ_:MV×MV=>[.p O.N 0,.p (O.N+1) 0]) (λx O'=>O.Ge O'/\O.N+2<=O'.N/\O'.hp O.N=φ (.cells [.s g1,.s g2,.s g3,.s pk,.l (Ζ P) (P.flatMap bp) .av,x.1,x.2])/\O'.hp (O.N+1)=φ (.cells [.s [],.s [],.s [],.s [],.l 0 [] .nil,.l 0 [] .nil,.l 0 [] .nil])/\GR O' 64 8 (O.N+2) x.1 (Ζ M) (M.flatMap aG)/\GR O' 112 10 (O.N+2) x.2 (Ζ L) (L.flatMap eK)/\∀i,gid x.1=φ i->gid x.2≠φ i) ?_ ?_
 ·refine VC.mJ [10,11,12,13,14] (O.N) (eo) ?_;intro X;refine ρ 0 dh ?_;refine auQ (m:=.l (Ζ P) (P.flatMap bp) .av) 1 ?_ ?_;exact ez dh;simp only[ag];refine ρ 3 dh ?_;refine auQ (m:=.l (Ζ M) (M.flatMap aG) .av) 4 ?_ ?_;exact ez dh;simp only[ag];refine ρ 6 dh ?_;refine auQ (m:=.l (Ζ L) (L.flatMap eK) .av) 7 ?_ ?_;exact ez dh;simp only[ag];have DI:(O1.set O.N (.obj X)).hp O.N=φ (.obj X):=υ _ _ _;((have fQ:∀i,i≠O.N->(O1.set O.N (.obj X)).hp i=O1.hp i:=λi h=>τ _ _ h);have eG:(O1.set O.N (.obj X)).N=O1.N:=rfl;generalize O1.set O.N (.obj X)=O2 at*;refine ab.call (i:=2) (Jq P .av O2) ?_;rintro _ O3 ⟨rfl,aB⟩;simp only[ag];refine⟨aB.at DI,?_⟩;refine ρ 9 dh ?_;refine ab.call (i:=5) (BZ M .av O3) ?_;rintro mM O4 ⟨aV,ah_⟩;simp only[ag];refine⟨(aB.trans aV).at DI,?_⟩;refine ab.call (i:=8) (Zq L .av O4 Λ) ?_;rintro mN O5 ⟨bB,abp⟩;simp only[ag];have Oh:=(aB.trans aV).trans bB;refine⟨Oh.at DI,?_⟩;refine ab.mK [(10,.one),(11,.au),(12,.one),(13,.au),(14,.one)] ?_;have dX:=Oh.at ((fQ _ Λ).trans cS);have ea:=aB.N;have fe:=aV.N;have ie:=Oh.N;have jz:∀i,i<O.N->O5.hp i=O.hp i:=λi h=>(Oh.hp i Λ).trans ((fQ i Λ).trans (aM.hp i h)));have aia:GR O5 64 8 O3.N mM (Ζ M) (M.flatMap aG):=ah_.fr bB.N (λk hk=>bB.hp k (ah_.fF k hk).2.1) (λj k t n _ hj=>bB.hp j hj);have hne:∀i,gid mM=φ i->gid mN≠φ i:=λi e e2=>by have:=(ah_.fF i e).2.1;have:=(abp.fF i e2).1;omega
  have tG:∀O6:VH,O6.N=O5.N->O6.hp O.N=φ (.cells [.s g1,.s g2,.s g3,.s pk,.l (Ζ P) (P.flatMap bp) .av,mM,mN])->(∀i,i≠O.N->O6.hp i=O5.hp i)->O.Ge O6/\O.N+2<=O6.N/\O6.hp O.N=φ (.cells [.s g1,.s g2,.s g3,.s pk,.l (Ζ P) (P.flatMap bp) .av,mM,mN])/\O6.hp (O.N+1)=φ (.cells [.s [],.s [],.s [],.s [],.l 0 [] .nil,.l 0 [] .nil,.l 0 [] .nil])/\GR O6 64 8 (O.N+2) mM (Ζ M) (M.flatMap aG)/\GR O6 112 10 (O.N+2) mN (Ζ L) (L.flatMap eK)/\∀i,gid mM=φ i->gid mN≠φ i:=λO6 h1 h2 h3=>
   ⟨⟨Λ,λi hi=>(h3 i Λ).trans (jz i hi)⟩,Λ,h2,(h3 _ Λ).trans dX,(aia.less Λ).fr Λ (λk hk=>h3 k (by have:=(aia.fF k hk).1;omega)) (λj k t n e _=>h3 j (λe2=>by subst e2;have:=(Oh.at DI);rw[this]at e;cases e)),(abp.less Λ).fr Λ (λk hk=>h3 k (by have:=(abp.fF k hk).1;omega)) (λj k t n e _=>h3 j (λe2=>by subst e2;have:=(Oh.at DI);rw[this]at e;cases e)),hne⟩
  rcases Og aia with rfl | rfl | ⟨kM,cM,rfl⟩<;>rcases Og abp with rfl | rfl | ⟨kN,cN,rfl⟩
  all_goals
   refine ae dh ?_;exact aE.mk (_,_) (tG _ rfl (υ _ _ _) λi hi=>by repeat rw[τ _ _ hi])
 rintro⟨mM,mN⟩ O2 ⟨ax,eG,dQ,bV,AF,hgN,hne⟩;dsimp only at dQ AF hgN hne ⊢;refine Ξ [1,2] (λ_:Unit=>[.p O.N 0,.p (O.N+1) 0]) (λ_ O'=>O2.Ge O') ?_ ?_
 ·rcases AF with⟨h0,_,hp⟩ | ⟨k,c,rfl,xf,_,ca⟩;obtain rfl:M=[]:=asc h0;rcases hp with rfl | rfl;refine ξ dh dQ ?_;refine Γ ?_;refine Υ [20] [1,2,19] (λ_:Nat=>[mi 0]) (λ_ O'=>O'=O2) (λx=>x) (0) ?_ ?_;rfl;rintro _ O7 e7;rw[e7];refine ν dh ?_;exact aE.mk () (VH.Ge.refl _);refine ξ dh dQ ?_;refine Γ ?_;refine Υ [20] [1,2,19] (λ_:Nat=>[mi 0]) (λ_ O'=>O'=O2) (λx=>x) (0) ?_ ?_;rfl;rintro _ O7 e7;rw[e7];refine ν dh ?_;exact aE.mk () (VH.Ge.refl _);obtain⟨sp,hc,lU⟩:=ca.cells;have j6:=ca.lo;have TO:=ca.hi;refine ξ dh dQ ?_;refine Γ ?_;refine Υ [20] [1,2,19] (λj:Nat=>[mi j]) (λj O'=>O2.Ge O'/\j<=Ζ M) (λj=>(Ζ M) - j) (0) ?_ ?_;exact⟨VH.Ge.refl _,an2 _⟩;rintro j O7 ⟨dB,hj⟩;by_cases bu:j<Ζ M;rotate_left
  ·obtain rfl:j=Ζ M:=Λ
   refine ν dh ?_;exact aE.mk () dB
  have Gk:=dB.at dQ;have Oi:=(dB.hp k Λ).trans hc;have bh:(M.flatMap aG++sp)[j*8+7]?=φ (.l M[j].x.length (M[j].x.flatMap cI) .av):=dP cW (List.getElem?_eq_getElem bu) rfl;have hxj:=An M[j] (List.getElem_mem bu);generalize M[j].x=X at*;generalize M.flatMap aG++sp=C at*;have jD:=vk bh;have GK:=(List.getElem?_eq_some_iff.1 bh).1;have ew:=jSx j;have sk:=dB.N;refine κ dh ?_;refine κ dh ?_;refine Δ (Γ ?_);refine κ dh ?_;refine VC.tA [10,11,12] (O.N) (k) (Gk) (Oi) ?_ (hne:=Λ);intro X1 X2;refine ρ 0 dh ?_;refine ε (m:=.bk k 0 (Ζ M) c) 1 (λ_ h=>h.1) (λ_ h=>h.1) ?_ ?_;exact ez dh;simp only[ag];refine ρ 2 dh ?_;refine ρ 3 dh ?_;refine ε (m:=.bk k 0 (Ζ M) c) 4 (λ_ h=>h.1) (λ_ h=>h.1) ?_ ?_;exact ez dh;simp only[ag];refine ρ 5 dh ?_;refine ρ 6 dh ?_;refine ρ 7 dh ?_;refine ε (m:=.l (Ζ X) (X.flatMap cI) .av) 8 (λ_ h=>h.2) (λ_ h=>h.2) ?_ ?_;exact dT dh bh;simp only[ag];have Vv:GO O.N k X1 X2 ((O7.set O.N (.obj X1)).set k (.obj X2)):=⟨Θ (υ _ _ _),υ _ _ _⟩;have ar9:((O7.set O.N (.obj X1)).set k (.obj X2)).N=O7.N:=rfl;(have aib:∀i,i≠O.N->i≠k->((O7.set O.N (.obj X1)).set k (.obj X2)).hp i=O7.hp i:=λi h1 h2=>by rw[τ _ _ h2,τ _ _ h1]);generalize (O7.set O.N (.obj X1)).set k (.obj X2)=O8 at*;refine ab.call (i:=9) (sy X .av O8) ?_;rintro _ O9 ⟨rfl,DV⟩;simp only[ag];refine⟨⟨DV.at Vv.1,DV.at Vv.2⟩,?_⟩;refine ab.pZ [(10,.au),(11,.au),(12,.one)] ?_ (hne:=Λ);refine aF dh bh jD ?_;refine VC.gen ?_;intro fb Kd
  have Fj:VH.Ge O7 fb:=by
   refine⟨by rw[Kd];show _<=VH.N O9;have:=DV.N;omega,λi h=>?_⟩;rw[Kd];by_cases e1:i=k;subst e1;rw[υ];exact Oi.symm
   ·by_cases e2:i=O.N;subst e2;first | (rw[τ _ _ e1,τ _ _ e1,υ];exact Gk.symm) | (rw[τ _ _ e1,υ];exact Gk.symm)
    ·(first | rw[τ _ _ e1,τ _ _ e1,τ _ _ e2] | rw[τ _ _ e1,τ _ _ e2]);exact(DV.hp i Λ).trans (aib i e2 e1)
  clear Kd;refine ο dh ew ?_;exact aw.N (j+1) ⟨dB.trans Fj,bu⟩
 rintro _ O3 aB;have Vw:GR O3 64 8 (O.N+2) mM (Ζ M) (M.flatMap aG):=AF.fr aB.N (λk hk=>aB.hp k (AF.fF k hk).2.1) (λj k t n _ hj=>aB.hp j hj);have aic:GR O3 112 10 (O.N+2) mN (Ζ L) (L.flatMap eK):=hgN.fr aB.N (λk hk=>aB.hp k (hgN.fF k hk).2.1) (λj k t n _ hj=>aB.hp j hj);refine VC.ah9 (A:=[.s g1,.s g2,.s g3,.s pk,.l (Ζ P) (P.flatMap bp) .av]) (E:=[mN]) Vw (aB.at dQ) Λ hpm ?_;intro tm O4 fe iD sP;simp only[Ro,TR]at iD;have ea:=aB.N;have c8:=(sP (O.N+1) Λ (λe=>by have:=(Vw.fF _ e).1;omega)).trans (aB.at bV);have aid:GR O4 112 10 (O.N+2) mN (Ζ L) (L.flatMap eK):=aic.fr Λ (λk hk=>sP k (by have:=(aic.fF k hk).1;omega) (λe=>hne k e hk)) (λj k t n e _=>sP j (λe2=>by subst e2;rw[aB.at dQ]at e;cases e) (λe2=>?_));rotate_left;rcases Vw with⟨_,_,h2 | h2⟩ | ⟨k2,c2,h2,_,_,hr⟩;rw[h2]at e2;cases e2;rw[h2]at e2;cases e2;obtain⟨sp,hc,_⟩:=hr.cells;rw[h2]at e2;injection e2 with e2;subst e2;rw[hc]at e;cases e;have aV:O.Ge O4:=⟨by have:=ax.N;omega,λi hi=>(sP i Λ (λe=>by have:=(Vw.fF i e).1;omega)).trans ((ax.trans aB).hp i hi)⟩;clear AF hgN Vw aic dQ bV hne sP aB;refine Ξ [1,2] (λ_:Unit=>[.p O.N 0,.p (O.N+1) 0]) (λ_ O'=>O4.Ge O') ?_ ?_
 ·rcases aid with⟨h0,_,hp⟩ | ⟨k,c,rfl,xf,_,ca⟩;obtain rfl:L=[]:=asc h0;rcases hp with rfl | rfl;refine ξ dh iD ?_;refine Γ ?_;refine Υ [39] [1,2,38] (λ_:Nat=>[mi 0]) (λ_ O'=>O'=O4) (λx=>x) (0) ?_ ?_;rfl;rintro _ O7 e7;rw[e7];refine ν dh ?_;exact aE.mk () (VH.Ge.refl _);refine ξ dh iD ?_;refine Γ ?_;refine Υ [39] [1,2,38] (λ_:Nat=>[mi 0]) (λ_ O'=>O'=O4) (λx=>x) (0) ?_ ?_;rfl;rintro _ O7 e7;rw[e7];refine ν dh ?_;exact aE.mk () (VH.Ge.refl _);obtain⟨sp,hc,lU⟩:=ca.cells;have j6:=ca.lo;have TO:=ca.hi;refine ξ dh iD ?_;refine Γ ?_;refine Υ [39] [1,2,38] (λj:Nat=>[mi j]) (λj O'=>O4.Ge O'/\j<=Ζ L) (λj=>(Ζ L) - j) (0) ?_ ?_;exact⟨VH.Ge.refl _,an2 _⟩;rintro j O7 ⟨dB,hj⟩;by_cases bu:j<Ζ L;rotate_left
  ·obtain rfl:j=Ζ L:=Λ
   refine ν dh ?_;exact aE.mk () dB
  have Gk:=dB.at iD;have Oi:=(dB.hp k Λ).trans hc;have bh:(L.flatMap eK++sp)[j*10+9]?=φ (.l L[j].x.length (L[j].x.flatMap cI) .av):=dP pQ (List.getElem?_eq_getElem bu) rfl;have w5:(L.flatMap eK++sp)[j*10+6]?=φ (.l L[j].r.2.2.length (L[j].r.2.2.flatMap fy) .av):=dP pQ (List.getElem?_eq_getElem bu) rfl;have hxj:=(hx L[j] (List.getElem_mem bu)).1;have hxr:=(hx L[j] (List.getElem_mem bu)).2;generalize L[j].x=X at*;generalize L[j].r.2.2=Y at*;generalize L.flatMap eK++sp=C at*;have jD:=vk bh;have B6:=vk w5;have GK:=(List.getElem?_eq_some_iff.1 bh).1;have ew:=jSx j;have sk:=dB.N;refine κ dh ?_;refine κ dh ?_;refine Δ (Γ ?_);refine κ dh ?_;refine Δ ?_;refine VC.tA [10,11,12] (O.N) (k) (Gk) (Oi) ?_ (hne:=Λ);intro X1 X2;refine ρ 0 dh ?_;refine ε (m:=.bk k 0 (Ζ L) c) 1 (λ_ h=>h.1) (λ_ h=>h.1) ?_ ?_;exact ez dh;simp only[ag];refine ρ 2 dh ?_;refine ρ 3 dh ?_;refine ε (m:=.bk k 0 (Ζ L) c) 4 (λ_ h=>h.1) (λ_ h=>h.1) ?_ ?_;exact ez dh;simp only[ag];refine ρ 5 dh ?_;refine ρ 6 dh ?_;refine ρ 7 dh ?_;refine ε (m:=.l (Ζ X) (X.flatMap cI) .av) 8 (λ_ h=>h.2) (λ_ h=>h.2) ?_ ?_;exact dT dh bh;simp only[ag];have Vv:GO O.N k X1 X2 ((O7.set O.N (.obj X1)).set k (.obj X2)):=⟨Θ (υ _ _ _),υ _ _ _⟩;have ar9:((O7.set O.N (.obj X1)).set k (.obj X2)).N=O7.N:=rfl;(have aib:∀i,i≠O.N->i≠k->((O7.set O.N (.obj X1)).set k (.obj X2)).hp i=O7.hp i:=λi h1 h2=>by rw[τ _ _ h2,τ _ _ h1]);generalize (O7.set O.N (.obj X1)).set k (.obj X2)=O8 at*;refine ab.call (i:=9) (sy X .av O8) ?_;rintro _ O9 ⟨rfl,DV⟩;simp only[ag];refine⟨⟨DV.at Vv.1,DV.at Vv.2⟩,?_⟩;refine ab.pZ [(10,.au),(11,.au),(12,.one)] ?_ (hne:=Λ);refine aF dh bh jD ?_;refine VC.gen ?_;intro fb Kd
  have Fj:VH.Ge O7 fb:=by
   refine⟨by rw[Kd];show _<=VH.N O9;have:=DV.N;omega,λi h=>?_⟩;rw[Kd];by_cases e1:i=k;subst e1;rw[υ];exact Oi.symm
   ·by_cases e2:i=O.N;subst e2;first | (rw[τ _ _ e1,τ _ _ e1,υ];exact Gk.symm) | (rw[τ _ _ e1,υ];exact Gk.symm)
    ·(first | rw[τ _ _ e1,τ _ _ e1,τ _ _ e2] | rw[τ _ _ e1,τ _ _ e2]);exact(DV.hp i Λ).trans (aib i e2 e1)
  clear Kd;have Zr:=Fj.at Gk;have aie:=(Fj.hp k Λ).trans Oi;have ata:=Fj.N;refine VC.tA [11,12,13,14] (O.N) (k) (Zr) (aie) ?_ (hne:=Λ);intro X3 X4;refine ρ 0 dh ?_;refine ε (m:=.bk k 0 (Ζ L) c) 1 (λ_ h=>h.1) (λ_ h=>h.1) ?_ ?_;exact ez dh;simp only[ag];refine ρ 2 dh ?_;refine ρ 3 dh ?_;refine ε (m:=.bk k 0 (Ζ L) c) 4 (λ_ h=>h.1) (λ_ h=>h.1) ?_ ?_;exact ez dh;simp only[ag];refine ρ 5 dh ?_;refine ρ 6 dh ?_;refine ρ 7 dh ?_;refine ρ 8 dh ?_;refine ε (m:=.l (Ζ Y) (Y.flatMap fy) .av) 9 (λ_ h=>h.2) (λ_ h=>h.2) ?_ ?_;exact dT dh w5;simp only[ag];have aif:GO O.N k X3 X4 ((fb.set O.N (.obj X3)).set k (.obj X4)):=⟨Θ (υ _ _ _),υ _ _ _⟩;have atb:((fb.set O.N (.obj X3)).set k (.obj X4)).N=fb.N:=rfl;(have ape:∀i,i≠O.N->i≠k->((fb.set O.N (.obj X3)).set k (.obj X4)).hp i=fb.hp i:=λi h1 h2=>by rw[τ _ _ h2,τ _ _ h1]);generalize (fb.set O.N (.obj X3)).set k (.obj X4)=j9 at*;refine ab.call (i:=10) (Zp Y .av j9 Λ) ?_;rintro _ Ke ⟨rfl,QY⟩;simp only[ag];refine⟨⟨QY.at aif.1,QY.at aif.2⟩,?_⟩;refine ab.pZ [(11,.au),(12,.au),(13,.au),(14,.one)] ?_ (hne:=Λ);refine aF dh w5 B6 ?_;refine VC.gen ?_;intro LJ aih
  have apf:VH.Ge fb LJ:=by
   refine⟨by rw[aih];show _<=VH.N Ke;have:=QY.N;omega,λi h=>?_⟩;rw[aih];by_cases e1:i=k;subst e1;rw[υ];exact aie.symm
   ·by_cases e2:i=O.N;subst e2;first | (rw[τ _ _ e1,τ _ _ e1,υ];exact Zr.symm) | (rw[τ _ _ e1,υ];exact Zr.symm)
    ·(first | rw[τ _ _ e1,τ _ _ e1,τ _ _ e2] | rw[τ _ _ e1,τ _ _ e2]);exact(QY.hp i Λ).trans (ape i e2 e1)
  clear aih;refine ο dh ew ?_;exact aw.N (j+1) ⟨(dB.trans Fj).trans apf,bu⟩
 rintro _ O5 bB;have aii:GR O5 112 10 (O.N+2) mN (Ζ L) (L.flatMap eK):=aid.fr bB.N (λk hk=>bB.hp k (aid.fF k hk).2.1) (λj k t n _ hj=>bB.hp j hj);refine VC.ah9 (A:=[.s g1,.s g2,.s g3,.s pk,.l (Ζ P) (P.flatMap bp) .av,.l (Ζ M) (M.flatMap aG) tm]) (E:=[]) aii (bB.at iD) Λ cz ?_;intro tn O6 mQ uu JL;simp only[Ro,TR]at uu;have ie:=bB.N;have kH:=(JL (O.N+1) Λ (λe=>by have:=(aii.fF _ e).1;omega)).trans (bB.at c8);have dU:O.Ge O6:=⟨by have:=aV.N;omega,λi hi=>(JL i Λ (λe=>by have:=(aii.fF i e).1;omega)).trans ((aV.trans bB).hp i hi)⟩;refine ι (aF dh uu kH ?_);exact⟨by simp only[wu,ic,iC,rS],dU.set Λ _⟩
def amX:Bs:=[112,114,111,106,101,99,116,47,103,114,111,117,112,73,100]
def amY:Bs:=[112,114,111,106,101,99,116,47,97,114,116,105,102,97,99,116,73,100]
def amZ:Bs:=[112,114,111,106,101,99,116,47,118,101,114,115,105,111,110]
def abq:Bs:=[112,114,111,106,101,99,116,47,112,97,99,107,97,103,105,110,103]
def aij:Bs:=[112,114,111,106,101,99,116,47,112,114,111,112,101,114,116,105,101,115]
def abr(R:eL)(g:Gv)(L:List (Bs×Bs))(st:cT):Except fa (List (Bs×Bs)×cT):=match qz R L [] st with
 | .ok y=>.ok y
 | .error e=>.error ⟨e.1,g,0,0,0,aij⟩
def QZ(s:Bs):Bs:=if s=[]then Bi else s
def Hz(lP:List (Gv×eM)->Gv->Except fa (eM×List (Gv×eM)))(mm:List (Gv×eM))(g:Gv)(W:List Gv)(p:Pm)(T:List (Bs×Bs)×eL×Nat):Except fa (eM×List (Gv×eM)):=
 fp (wv T.2.1 g amX p.g g.g ([],0)) λs1=>fp (wv T.2.1 g amY p.a g.a s1) λs2=>fp (wv T.2.1 g amZ p.v g.v s2) λs3=>
 fp (Bh T.2.1 g p.pk abq s3) λy=>if iZ (QZ y.1)=γ then .error ⟨20,g,0,0,0,abq⟩else
 fp (abr T.2.1 g T.1 y.2) λa=>fp (vx lP T.2.1 g (W++[g]) p.bL a.2 mm) λb=>fp (oR T.2.1 g b.1.1 p.dH 0 [] [] b.1.2) λc=>
 .ok (⟨g,QZ y.1,a.1,b.1.1,c.1⟩,(g,⟨g,QZ y.1,a.1,b.1.1,c.1⟩)::b.2)
def my(S:List (Gv×Bs)):Nat->List (Gv×eM)->Gv->List Gv->Except fa (eM×List (Gv×eM))
 | 0,_,g,_=>.error ⟨2,g,0,0,0,[]⟩
 | n+1,mm,g,W=>match mm.find? (·.1==g)with
   | some x=>.ok (x.2,mm)
   | none=>fp (oO S g) λp=>Hz (λmm g'=>my S n mm g' (W++[g])) mm g W p (mC (nO p) [] ([],0))
def Q0:∀{l P:List (Bs×Bs)} {R:eL×Nat},(∀e∈l,Ha e)->(∀e∈P,Ha e)->(∀e∈R.1,Ζ e.2.1<=1024)->(mC l P R).1.length<=Ζ P+(Ζ l)/\(∀e∈(mC l P R).1,Ha e)/\∀e∈(mC l P R).2.1,Ζ e.2.1<=1024
 | [],P,R,_,hP,hR=>⟨aun _ _,hP,hR⟩
 | x::l,P,R,hl,hP,hR=>by
   have hx:=hl x (apJ ..);((have HO:∀e∈l,Ha e:=λe he=>hl e (apG _ he));rw[mC];split);have:=Q0 (l:=l) (P:=P) (R:=R) HO hP hR;exact⟨by rw[ai8];have:=this.1;omega,this.2⟩
   ·have:=Q0 (l:=l) (P:=P++[x]) (R:=(R.1++[(x.1,x.2,R.2)],R.2+1)) HO (λe he=>by
     rcases an7.1 he with he | he;exact hP e he
     ·rw[alp.1 he];exact hx) (λe he=>by
     rcases an7.1 he with he | he;exact hR e he;rw[alp.1 he];exact hx.2)
    refine⟨?_,this.2⟩;have:=this.1;rw[ai9]at this;rw[ai8];simp only[ai8,ai_]at this;omega
def Oj{R:eL}:∀{l P:List (Bs×Bs)} {st:cT} {y:List (Bs×Bs)×cT},qz R l P st= .ok y->Ζ y.1=Ζ P+Ζ l
 | [],P,st,y,h=>by rw[qz]at h;injection h with h;subst h;rfl
 | x::l,P,st,y,h=>by
   rw[qz]at h;split at h;cases h;have:=Oj h;rw[this,ai9,ai8,ai8,ai_];omega
def aik(hd:rJ d)(hv:d.v≠[]):Hc (J8 d):=by
 refine⟨⟨hd.g,hd.a,?_,hd.c⟩,⟨d.v,hd.v,hd.pv.resolve_left hv,rfl⟩,?_,hd.x⟩;show(bZ d).t.length<=4096;unfold bZ;dsimp only;split;decide;exact hd.t;show 1<=max d.s 1/\max d.s 1<=6;have:=hd.s;omega
def Ok{R:eL}{g:Gv}{bL:List Dp}(Vg:∀m∈bL,rJ m):∀{l:List Dp} {i:Nat} {A:List Dp} {N:List mw} {st:cT} {y:List mw×cT},oR R g bL l i A N st= .ok y->(∀d∈l,Az d)->(∀n∈N,Hc n)->Ζ y.1<=Ζ N+(Ζ l)/\∀n∈y.1,Hc n
 | [],i,A,N,st,y,h,_,hN=>by rw[oR]at h;injection h with h;subst h;exact⟨aun _ _,hN⟩
 | d::r,i,A,N,st,y,h,hl,hN=>by
   rw[oR]at h;obtain⟨x,h1,h2⟩:=lu h;split at h2;cases h2
   ·rename_i hv;have hR:=abk Vg (Fc (hl d (apJ ..)) h1)
    have:=Ok Vg h2 (λe he=>hl e (apG _ he)) (λn hn=>by
     unfold N8 at hn;split at hn;exact hN n hn;rcases an7.1 hn with hn | hn;exact hN n hn;rw[alp.1 hn];exact aik hR hv)
    refine⟨?_,this.2⟩;have h3:=this.1
    have h4:(N8 A N (DQ bL x.1)).length<=Ζ N+1:=by
     unfold N8;split;exact Nat.le_succ _;rw[ai9];exact Rn _
    rw[ai8];omega
def aZ:=abT oS<|abT bf<|abT alF<|abT alE<|abT alI<|abT T79 T25
section
variable{P:Program}{n:Sz}{D:List Deferred}{ops:Array Oper}{e:Env}{O:VH}{Q:VQ}
def ab.am0{Ψ :Gh->Prop}{J:ϰ}{Z:Prop}{fuel:Nat} 
  (h1:aQ P n D ops i e O Q λe' O'=>J O'/\ab P n D ops brk J Ψ Z fuel (listed.setIfInBounds i Α) e' O' Q) (h2:aQ P n D ops j e O Q λe' O'=>J O'/\ab P n D ops brk J Ψ Z fuel (listed.setIfInBounds j Α) e' O' Q)
  (h3:aQ P n D ops k e O Q λe' O'=>J O'/\ab P n D ops brk J Ψ Z fuel (listed.setIfInBounds k Α) e' O' Q) (hr:Region.ready .any ops listed=[i,j,k]:=by kernel_rfl):ab P n D ops brk J Ψ Z (fuel+1) listed e O Q:=by
 intro hΨ hZ hJ G a w hψ hw aY
 have key:∀x,(aQ P n D ops x e O Q λe' O'=>J O'/\ab P n D ops brk J Ψ Z fuel (listed.setIfInBounds x Α) e' O' Q)->wpOp P ops (cU G n D Q) x (λa' w'=>TE brk G J x w'/\jI P .any ops (cU G n D Q) (TE brk G J) fuel (listed.setIfInBounds x Α) a' w') a w:=λx h=>
  wpOp_mono (λa' w' ⟨e',O',H,h1,h2,h3,h4,h5⟩=>⟨TE.mk ⟨H,O',h1,h2,h4⟩,jf (λ_ _ _=>cU.le h1) _ _ _ _ (λk _ x hT=>hT.le h1) (h5 hΨ hZ h4 H a' w' (hΨ _ _ h1 hψ) h2 h3)⟩) (h G a w hw aY)
 refine kc hr z10 λx hx=>?_
 simp only[apK,auj,or_false]at hx;rcases hx with rfl | rfl | rfl;exact key _ h1;exact key _ h2;exact key _ h3
end
def akY{O3:VH}{pb og:Nat}{gc:bO}(cQ:App F B sz tk)(hB:O3.N<=B)(rA:pb<O3.N)(hog:og<O3.N)(j:F.hp pb=φ X/\F.hp og=φ gc/\O3.N<=F.N/\∀i,i<O3.N->i≠pb->F.hp i=O3.hp i):(F.after tk).hp pb=φ X/\(F.after tk).hp og=φ gc/\O3.N<=(F.after tk).N/\∀i,i<O3.N->i≠pb->(F.after tk).hp i=O3.hp i:=by
 have Fb:=dR.after cQ;have hs:∀i,i<O3.N->(F.after tk).hp i=F.hp i:=λi h=>Fb.hp i (aja h j.2.2.1) (λe=>by have:=(App.iM cQ e).1;omega)
 exact⟨(hs _ rA).trans j.1,(hs _ hog).trans j.2.1,aev j.2.2.1 Fb.N,λi h1 h2=>(hs i h1).trans (j.2.2.2 i h1 h2)⟩
def DW{ops:Array Oper}{listed:Array Bool}{i:Nat}:∀{k m:Nat},k<=m->∀j,j∈kW ops listed i k->j∈kW ops listed i m
 | 0,_,_,j,h=>by cases h
 | k+1,0,hm,j,h=>Λ
 | k+1,m+1,hm,j,h=>by
   have ih:=DW (ops:=ops) (listed:=listed) (i:=i) (k:=k) (m:=m) Λ;rw[kW,aur]at h ⊢;refine⟨h.1,?_⟩;obtain⟨h1,h2⟩:=as0.1 h.2;refine as0.2 ⟨h1,?_⟩;cases ho:ops[j]? with
   | none=>rw[ho]at h2;cases h2
   | some o=>
     rw[ho]at h2;simp only[auk,Option.getD_some,Array.any_eq_true']at h2 ⊢;obtain⟨e,he,h3⟩:=h2;obtain⟨h4,h5⟩:=as0.1 h3;refine⟨e,he,as0.2 ⟨h4,?_⟩⟩;rcases apF.1 h5 with h6 | h6;exact apF.2 (.inl h6);exact apF.2 (.inr (asl.2 (ih _ (asl.1 h6))))
def ail{ops:Array Oper}(k:Nat)(hk:k<=ops.size)(h:(brk.all λj=>listed.getD j Α||j==i||(kW ops listed i k).contains j)=Α):mI ops brk listed i=Α:=by
 unfold mI;rw[auo]at h ⊢;intro j hj;have:=h j hj;rcases apF.1 this with h1 | h1;exact apF.2 (.inl h1);exact apF.2 (.inr (asl.2 (DW hk _ (asl.1 h1))))
def qD(p:Pm):dy p=[.v (.bool p.hp),.s p.par.g,.s p.par.a,.s p.par.v,.s p.g,.s p.a,.s p.v,.s p.pk,.l (Ζ p.props) (p.props.flatMap bp) .av,.l (Ζ p.bL) (p.bL.flatMap aG) .av,.l (Ζ p.dH) (p.dH.flatMap aG) .av]:=rfl
def akZ(x:fa):gV x=[.v (Ι Κ x.e),.s x.g.g,.s x.g.a,.s x.g.v,.v (Ι Κ x.p1),.v (Ι Κ x.p2),.v (Ι Κ x.p3),.s x.w]:=rfl
def flW(t b n:Nat)(cs:Η)(tk:Tok)(x1 x2 x3:MV)(p:Pm):Pu (m_ [(0,1),(1,1),(2,3),(5,11),(16,1)]) [.v (.pointer Β),.v (.pointer Β),.s [],.s [],.s [],.v (.bool γ),.s [],.s [],.s [],.s [],.s [],.s [],.s [],.l 0 [] .nil,.l 0 [] .nil,.l 0 [] .nil,.l 0 [] .nil] (.p t 0) [(1,.p b 0),(2,.agg [x1,x2,x3]),(3,.agg (dy p)),(4,.l n cs tk)] (φ (0,1))=φ ([.p t 0,.p b 0,x1,x2,x3]++dy p++[.l n cs tk]):=by kernel_rfl
def Wk.mdl(a1 a2 a3 a4:MV)(n1 n2 n3:Nat)(c1 c2 c3:Η)(t1 t2 t3:Tok):fw [a1,a2,a3,a4,.l n1 c1 t1,.l n2 c2 t2,.l n3 c3 t3] [a1,a2,a3,a4,.l n1 c1 .av,.l n2 c2 .av,.l n3 c3 .av]:=
 by repeat' first
  | exact fw.refl _
  | exact Wk.refl _
  | exact Wk.tok
  | refine fw.cons ?_ ?_
def aim{L:List (Bs×Bs)}{D:eL}(h:AA O tb kr kd L R D cr cd tk kn)(h1:tb≠b)(h2:kr≠b)(h3:kd≠b):AA (O.set b X) tb kr kd L R D cr cd tk kn:=
 ⟨(τ _ _ h1).trans h.cell,(τ _ _ h2).trans h.raw,(τ _ _ h3).trans h.done,h.lt,h.ne⟩
def Zs{t7:Tok}(cQ:App F B sz t7){L:List (Bs×Bs)}{D:eL}(h:AA F tb kr kd L R D cr cd tk kn):AA (F.after t7) tb kr kd L R D cr cd tk kn:=by
 have hn:=(dR.after cQ).N;have hl:=h.lt;exact⟨(App.off cQ hl.1 (by rw[h.cell];simp)).trans h.cell,(App.off cQ hl.2.1 (by rw[h.raw];simp)).trans h.raw,(App.off cQ hl.2.2 (by rw[h.done];simp)).trans h.done,Λ,h.ne⟩
abbrev tT:Η:=[.s [],.s [],.s [],.s [],.l 0 [] .nil,.l 0 [] .nil,.l 0 [] .nil]
structure AG(O:VH)(A:Nat×Nat)(B k bb md pb wb mB tb kr kd:Nat)(S:List (Gv×Bs))(mm:List (Gv×eM))(g:Gv)(p:Pm)(W:List Gv)(tw:Tok)(L:List (Bs×Bs))(R:eL)(cr:Nat)(tk:Tok)(st:cT)(cs:Η)(O':VH):Prop where
 fr:dC (λi=>(A.1<=i/\i<B/\i≠A.2)\/i=md) O O'
 wk:j5 O' wb bb tb kr kd g p W tw L R cr tk st
 bw:BW O' A B k bb md S mm
 mo:O'.hp mB=φ (.cells cs)
 pc:O'.hp pb=φ (.cells (dy p))
 gc:O'.hp O.N=φ (.cells (aS g))
 zc:O'.hp (O.N+1)=φ (.cells tT)
 lt:B<=O.N/\md<O.N/\bb<O.N/\O.N+2<=pb/\pb<wb/\pb<tb/\pb<kr/\pb<kd/\wb<mB/\tb<mB/\kr<mB/\kd<mB/\mB<O'.N
section
variable{O:VH}{A:Nat×Nat}{B k bb md pb wb mB tb kr kd:Nat}{S:List (Gv×Bs)}{mm Vn:List (Gv×eM)}{g:Gv}{p:Pm}{W:List Gv}{tw:Tok}{L:List (Bs×Bs)}{R:eL}{cr:Nat}{tk:Tok}{st st':cT}{cs cs':Η}{O' O2:VH}
def AG.step(h:AG O A B k bb md pb wb mB tb kr kd S mm g p W tw L R cr tk st cs O')(hf:dC (λi=>i=tb\/i=kd) O' O2)(hw:j5 O2 wb bb tb kr kd g p W tw L R cr tk st'):AG O A B k bb md pb wb mB tb kr kd S mm g p W tw L R cr tk st' cs O2:=by
 have hl:=h.lt;have hn:=hf.1;exact⟨h.fr.after hf λi hi e=>Λ,hw,h.bw.mv hn λi hi e=>hf.2 i hi (by have:=h.bw.lt;omega),hf.at Λ Λ h.mo,hf.at Λ Λ h.pc,hf.at Λ Λ h.gc,hf.at Λ Λ h.zc,Λ⟩
def AG.ge(h:AG O A B k bb md pb wb mB tb kr kd S mm g p W tw L R cr tk st cs O')(hf:O'.Ge O2):AG O A B k bb md pb wb mB tb kr kd S mm g p W tw L R cr tk st cs O2:=h.step (.dG hf) (h.wk.ge hf)
def AG.bL(h:AG O A B k bb md pb wb mB tb kr kd S mm g p W tw L R cr tk st cs O')(hf:dC (λi=>(A.1<=i/\i<B/\i≠A.2)\/i=md\/i=tb\/i=kd) O' O2)(hw:j5 O2 wb bb tb kr kd g p W tw L R cr tk st')(hb:BW O2 A B k bb md S Vn):AG O A B k bb md pb wb mB tb kr kd S Vn g p W tw L R cr tk st' cs O2:=by
 have hl:=h.lt;have hn:=hf.1;exact⟨h.fr.after hf λi hi e=>Λ,hw,hb,hf.at Λ Λ h.mo,hf.at Λ Λ h.pc,hf.at Λ Λ h.gc,hf.at Λ Λ h.zc,Λ⟩
def AG.put(h:AG O A B k bb md pb wb mB tb kr kd S mm g p W tw L R cr tk st cs O'):AG O A B k bb md pb wb mB tb kr kd S mm g p W tw L R cr tk st cs' (O'.set mB (.cells cs')):=by
 have hl:=h.lt;have hb:=h.bw.lt;have hn:=h.fr.1;exact⟨h.fr.set (.inl Λ) _,h.wk.mv (Rn _) λi _ e=>VH.sx,h.bw.mv (Rn _) λi _ e=>VH.sx,υ _ _ _,(VH.sx).trans h.pc,(VH.sx).trans h.gc,(VH.sx).trans h.zc,hl⟩
def VC.bus{P:Program}{n:Sz}(h:AG O A B k bb md pb wb mB tb kr kd S mm g p W tw L R cr tk st cs O')(kk:∀O2,AG O A B k bb md pb wb mB tb kr kd S mm g p W tw L R cr tk st cs' O2->VC P n D c e O2 Q):VC P n D c e (O'.set mB (.cells cs')) Q:=kk _ h.put
end
def Kf{A B:VH}{x:bO}(u:dC P A B)(h:A.hp i=φ x/\A.hp j=φ y)(h1:i<A.N:=by omega)(h2:¬P i:=by omega)(h3:j<A.N:=by omega)(h4:¬P j:=by omega):B.hp i=φ x/\B.hp j=φ y:=
 ⟨(u.2 i h1 h2).trans h.1,(u.2 j h3 h4).trans h.2⟩
def qe{A:VH}{x Z:bO}(h:A.hp i=φ x/\A.hp j=φ y)(hi:i<A.N:=by omega)(hj:j<A.N:=by omega):∃B,VH.push A Z=B/\A.Ge B/\B.hp A.N=φ Z/\B.N=A.N+1/\B.hp i=φ x/\B.hp j=φ y:=
 ⟨_,rfl,(VH.Ge.refl _).push _,ζ _ _,rfl,((VH.Ge.refl _).push _).at h.1,((VH.Ge.refl _).push _).at h.2⟩
def aem{mm:List (Gv×eM)}{W:List Gv}(ah7:Ζ W<31->∀g,Zm A B k bb md S (W++[g]) (λmm g'=>my S n mm g' (W++[g])))(hB:BW O A B k bb md S mm)(g:Gv)(hg:gG g)(tw:Tok)(Qu:Ζ W<=31):
  VF Ε 36 [.p bb 0,.agg (aS g),.l (Ζ W) (W.flatMap aS) tw] O (MQ (λi=>(A.1<=i/\i<B/\i≠A.2)\/i=md) O (my S (n+1) mm g W) λy m O'=>m= .agg (qC y.1)/\BW O' A B k bb md S y.2/\MdB y.1):=by
 refine MQ.fg ?_;obtain⟨R9,hR⟩:∃R9,my S (n+1) mm g W=R9:=⟨_,rfl⟩
 rw[hR];rw[my]at hR;have um:=hB.lt;have D4:=Dt hg;have y_:=λ(O':VH)(h':o5 O' A B k S)=>Y8 h' g hg
 have Vo:=λp=> @Y7 S g p hB.st.ok
 have hmn:=λx=> @Gf S g x
 have hWf:=aP nI W;obtain⟨MD,cm,ar_,asa,Vx,am1⟩:=hB.bd;have eU:=am1 g;generalize Cb:oO S g=FM at*;have AF:aS g=[.s g.g,.s g.a,.s g.v]:=rfl;rw[AF]at y_ ⊢;generalize S6:g.g=g1 at*;generalize kZ:g.a=g2 at*;generalize rf:g.v=g3 at*;refine ω 120 [.cell 6 107] func36 ?_;refine κ aZ ?_;refine VC.gen ?_;intro O1 e1;obtain⟨aM,dq,eo,cS⟩:=jS _ _ e1;clear e1;have sO:=hB.ge aM;have abt:=(aM.hp bb um.2.2.2.1).trans ar_;have Ol:=(aM.hp md um.2.2.2.2.1).trans asa;refine Ξ [0,2,4,6] (λ_:Unit=>[.p bb 0,.l (Ζ W) (W.flatMap aS) tw,.p O.N 0,.p (O.N+1) 0]) (λ_ O'=>O1.Ge O'/\mm.find? (·.1==g)=Β) ?_ ?_
 ·refine Δ ?_;refine VC.vZ [11] (λO'=>O'.hp bb=φ (.cells [.p k 0,.map md])/\O'.hp O.N=φ (.cells [.s g1,.s g2,.s g3])/\O1.Ge O') (⟨abt,eo,VH.Ge.refl _⟩) ?_;refine ρ 0 aZ ?_;refine ρ 1 aZ ?_;refine ρ 2 aZ ?_;refine δ (m:=.map md) 3 ?_ ?_;rintro O2 ⟨j0,j1,j2⟩;exact dT aZ j0;simp only[ag];refine δ (m:=.agg [.s g1,.s g2,.s g3]) 4 ?_ ?_;rintro O2 ⟨j0,j1,j2⟩;exact dT aZ j1;simp only[ag];(((have jH:∀A B:VH,A.Ge B->(A.hp bb=φ (.cells [.p k 0,.map md])/\A.hp O.N=φ (.cells [.s g1,.s g2,.s g3])/\O1.Ge A)->(B.hp bb=φ (.cells [.p k 0,.map md])/\B.hp O.N=φ (.cells [.s g1,.s g2,.s g3])/\O1.Ge B):=λA B g h=>⟨(g.hp _ (by have:=h.2.2.N;omega)).trans h.1,(g.hp _ (by have:=h.2.2.N;omega)).trans h.2.1,h.2.2.trans g⟩);have uy:O1.hp bb=φ (.cells [.p k 0,.map md])/\O1.hp O.N=φ (.cells [.s g1,.s g2,.s g3])/\O1.Ge O1:=⟨abt,eo,VH.Ge.refl _⟩;have nT:∀A:VH,A.Ge (A.push (.cells tT)):=λA=>(VH.Ge.refl A).push _);have Vy:∀cs,((O1.push (.cells tT)).set O1.N (.cells cs)).hp bb=φ (.cells [.p k 0,.map md])/\((O1.push (.cells tT)).set O1.N (.cells cs)).hp O.N=φ (.cells [.s g1,.s g2,.s g3])/\O1.Ge ((O1.push (.cells tT)).set O1.N (.cells cs)):=λcs=>jH O1 _ ((nT O1).set (Rn _) _) uy);have abu:eP ⟨g1,g2,g3⟩=eP g:=by rw[<-S6, <-kZ, <-rf]
  rw[<-abu]at eU D4;cases hf:mm.find? (·.1==g)with
  | none=>
    rw[hf]at eU
    replace eU:fD (eP ⟨g1,g2,g3⟩) MD=Β:=eU
    refine auS (i:=5) (j:=9) ?_ ?_;refine aQ.sD (gf.kP yL aa (l:=eP ⟨g1,g2,g3⟩) (te:=⟨_,7,136,tT⟩) Tryz.underlying114 FP.1.1 rfl rfl Ol Vx rfl rfl D4) ?_;rw[eU];refine⟨uy,?_⟩;refine ρ 6 aZ ?_;refine ρ 7 aZ ?_;refine ρ 8 aZ ?_;refine ab.op (i:=9) ?_;refine ae aZ ?_;refine⟨⟨uy.1,uy.2.1,nT _⟩,?_⟩;refine ab.op (i:=10) ?_;refine ae aZ ?_;refine⟨⟨uy.1,uy.2.1,(Vy tT).2.2⟩,?_⟩;refine ab.bM [(11,.one)] ?_;have dB:=(Vy tT).2.2;refine ae aZ ?_;refine ν aZ ?_;exact aE.mk () ((nT O1).set (Rn _) _);refine aQ.o1 ?_;refine ae aZ ?_;refine⟨⟨uy.1,uy.2.1,nT _⟩,?_⟩;refine ab.one (i:=5) (aQ.sD (gf.kP yL aa (l:=eP ⟨g1,g2,g3⟩) (te:=⟨_,7,136,tT⟩) Tryz.underlying114 FP.1.1 rfl rfl ((nT _).hp _ Λ |>.trans Ol) Vx rfl rfl D4) ?_);rw[eU];refine⟨jH _ _ (nT _) uy,?_⟩;refine ρ 6 aZ ?_;refine ρ 7 aZ ?_;refine ρ 8 aZ ?_;refine ab.op (i:=10) ?_;refine ae aZ ?_;refine⟨⟨uy.1,uy.2.1,(Vy tT).2.2⟩,?_⟩;refine ab.bM [(11,.one)] ?_;have dB:=(Vy tT).2.2;refine ae aZ ?_;refine ν aZ ?_;exact aE.mk () ((nT O1).set (Rn _) _)
  | some x=>
    rw[hf]at eU hR;dsimp only at hR;have hMx:=hB.ok x (atM hf);obtain⟨xg,⟨⟨mg,ma,mv⟩,Zt,mP,mM,mN⟩⟩:=x;subst hR
    replace eU:fD (eP ⟨g1,g2,g3⟩) MD=φ (.agg [.s mg,.s ma,.s mv,.s Zt,.l (Ζ mP) (mP.flatMap bp) .av,.l (Ζ mM) (mM.flatMap aG) .av,.l (Ζ mN) (mN.flatMap eK) .av]):=eU
    refine auS (i:=5) (j:=9) ?_ ?_;refine aQ.sD (gf.kP yL aa (l:=eP ⟨g1,g2,g3⟩) (te:=⟨_,7,136,tT⟩) Tryz.underlying114 FP.1.1 rfl rfl Ol Vx rfl rfl D4) ?_;rw[eU];refine⟨uy,?_⟩;refine ρ 6 aZ ?_;refine ρ 7 aZ ?_;refine ρ 8 aZ ?_;refine ab.op (i:=9) ?_;refine ae aZ ?_;refine⟨⟨uy.1,uy.2.1,nT _⟩,?_⟩;refine ab.op (i:=10) ?_;refine ae aZ ?_;refine⟨⟨uy.1,uy.2.1,(Vy [.s mg,.s ma,.s mv,.s Zt,.l (Ζ mP) (mP.flatMap bp) .av,.l (Ζ mM) (mM.flatMap aG) .av,.l (Ζ mN) (mN.flatMap eK) .av]).2.2⟩,?_⟩;refine ab.bM [(11,.one)] ?_;have dB:=(Vy [.s mg,.s ma,.s mv,.s Zt,.l (Ζ mP) (mP.flatMap bp) .av,.l (Ζ mM) (mM.flatMap aG) .av,.l (Ζ mN) (mN.flatMap eK) .av]).2.2;refine ae aZ ?_;refine ν aZ ?_;refine ak aZ cS ?_;(exact⟨.dG ((aM.trans dB).set Λ _),by simp only[wu,ic,iC,rS]<;>rfl,(sO.ge dB).mv (Rn _) λi _ e=>VH.sx,hMx⟩);refine aQ.o1 ?_;refine ae aZ ?_;refine⟨⟨uy.1,uy.2.1,nT _⟩,?_⟩;refine ab.one (i:=5) (aQ.sD (gf.kP yL aa (l:=eP ⟨g1,g2,g3⟩) (te:=⟨_,7,136,tT⟩) Tryz.underlying114 FP.1.1 rfl rfl ((nT _).hp _ Λ |>.trans Ol) Vx rfl rfl D4) ?_);rw[eU];refine⟨jH _ _ (nT _) uy,?_⟩;refine ρ 6 aZ ?_;refine ρ 7 aZ ?_;refine ρ 8 aZ ?_;refine ab.op (i:=10) ?_;refine ae aZ ?_;refine⟨⟨uy.1,uy.2.1,(Vy [.s mg,.s ma,.s mv,.s Zt,.l (Ζ mP) (mP.flatMap bp) .av,.l (Ζ mM) (mM.flatMap aG) .av,.l (Ζ mN) (mN.flatMap eK) .av]).2.2⟩,?_⟩;refine ab.bM [(11,.one)] ?_;have dB:=(Vy [.s mg,.s ma,.s mv,.s Zt,.l (Ζ mP) (mP.flatMap bp) .av,.l (Ζ mM) (mM.flatMap aG) .av,.l (Ζ mN) (mN.flatMap eK) .av]).2.2;refine ae aZ ?_;refine ν aZ ?_;refine ak aZ cS ?_;exact⟨.dG ((aM.trans dB).set Λ _),by simp only[wu,ic,iC,rS]<;>rfl,(sO.ge dB).mv (Rn _) λi _ e=>VH.sx,hMx⟩
 rintro _ O2 ⟨ax,hf⟩;rw[hf]at hR;dsimp only at hR;have am2:=aM.trans ax;have bV:=ax.at cS;have Q1:O2.hp bb=φ (.cells [.p k 0,.map md])/\O2.hp O.N=φ (.cells [.s g1,.s g2,.s g3]):=⟨ax.at abt,ax.at eo⟩;have am3:=ax.at Ol;have qX:=sO.ge ax;have TO2:=qX.st;have FO2:o0 O2 O2 A B:=o0.refl _ _ _;have eG:=ax.N;clear aM ax eo cS sO abt Ol;refine Ξ [0,2,4,6,9,10] (λx:Nat×Nat=>[.p bb 0,.l (Ζ W) (W.flatMap aS) tw,.p O.N 0,.p (O.N+1) 0,.p x.1 0,.p x.2 0]) (λx O'=>x.1≠x.2/\O2.N<=x.1/\O2.N<=x.2/\x.1<O'.N/\x.2<O'.N/\O'.hp x.1=φ (.cells (dy (rP FM)))/\O'.hp x.2=φ (.cells (gV (rX FM)))/\o5 O' A B k S/\o0 O2 O' A B) ?_ ?_;(·refine VC.vZ [12] (λO'=>O'.hp bb=φ (.cells [.p k 0,.map md])/\O'.hp O.N=φ (.cells [.s g1,.s g2,.s g3])) (Q1) ?_;refine ρ 0 aZ ?_;refine ρ 1 aZ ?_;refine ρ 2 aZ ?_;refine δ (m:=.p k 0) 3 ?_ ?_;rintro O2 ⟨j0,j1⟩;exact dT aZ j0;simp only[ag];refine δ (m:=.agg [.s g1,.s g2,.s g3]) 4 ?_ ?_;rintro O2 ⟨j0,j1⟩;exact dT aZ j1;simp only[ag];refine ab.meet [5,6,7,8,9,10] [0,2,4,6,9,10,34,35] (λx:Nat×Nat=>[.p bb 0,.l (Ζ W) (W.flatMap aS) tw,.p O.N 0,.p (O.N+1) 0,.p x.1 0,.p x.2 0,.agg (dy (rP FM)),.agg (gV (rX FM))]) (λx O'=>(O'.hp bb=φ (.cells [.p k 0,.map md])/\O'.hp O.N=φ (.cells [.s g1,.s g2,.s g3]))/\x.1≠x.2/\O2.N<=x.1/\O2.N<=x.2/\x.1<O'.N/\x.2<O'.N/\O'.hp x.1=φ (.cells yJ)/\O'.hp x.2=φ (.cells [.v (Ι Κ 0),.s [],.s [],.s [],.v (Ι Κ 0),.v (Ι Κ 0),.v (Ι Κ 0),.s []])/\o5 O' A B k S/\o0 O2 O' A B) 2 ?_ ?_;rotate_left;rintro⟨pb,xb⟩ O9 ⟨LK,hne,Ei,ph,Dm,QF,hcp,Za,TO9,FO9⟩;dsimp only at hne Ei ph Dm QF hcp Za ⊢;refine ab.op (i:=11) ?_;refine aF aZ hcp @qD ?_;refine⟨LK,?_⟩;refine ab.bM [(12,.one)] ?_;refine gy aZ hcp Za @qD @akZ ?_;exact aE.mk (pb,xb) ⟨hne,Ei,ph,Dm,QF,(τ _ _ hne).trans (υ _ _ _),υ _ _ _,TO9.mv (Rn _) (λi _ hi=>by rw[VH.sx,VH.sx]),(FO9.set Λ _).set Λ _⟩;intro K4;refine ab.am0 (i:=5) (j:=9) (k:=10) ?_ ?_ ?_;refine aQ.iH (y_ O2 TO2) ?_;rintro _ O2m ⟨am4,hu,rfl⟩;have atT:=hu.1;have am5:=FO2.trans hu;have Vz:=Kf hu Q1;clear hu;simp only[ag];refine⟨Vz,?_⟩;refine ρ 6 aZ ?_;refine ρ 7 aZ ?_;refine ρ 8 aZ ?_;refine auS (i:=9) (j:=10) ?_ ?_;refine aQ.o1 ?_;refine ae aZ ?_;refine⟨Vz,?_⟩;obtain⟨asb,ain,aio,VA,atc,aip⟩:=qe (Z:=.cells yJ) Vz;rw[ain];clear ain;have apg:=am4.ge aio;have aph:=am5.ge aio;refine ab.op (i:=10) ?_;refine ae aZ ?_;refine⟨aip,?_⟩;obtain⟨atd,abv,Q2,LN,as2,ak0⟩:=qe (Z:=.cells [.v (Ι Κ 0),.s [],.s [],.s [],.v (Ι Κ 0),.v (Ι Κ 0),.v (Ι Κ 0),.s []]) aip;rw[abv];clear abv;have ak1:=apg.ge Q2;have ak2:=aph.ge Q2;have Q3:=(Q2.hp _ Λ).trans VA;exact K4 (O2m.N,asb.N) _ _ _ ⟨ak0,by dsimp only;omega,by dsimp only;omega,by dsimp only;omega,by dsimp only;omega,by dsimp only;omega,Q3,LN,ak1,ak2⟩ z11 rfl;refine aQ.o1 ?_;refine ae aZ ?_;refine⟨Vz,?_⟩;obtain⟨asd,aiq,air,VB,ate,ais⟩:=qe (Z:=.cells [.v (Ι Κ 0),.s [],.s [],.s [],.v (Ι Κ 0),.v (Ι Κ 0),.v (Ι Κ 0),.s []]) Vz;rw[aiq];clear aiq;have api:=am4.ge air;have apj:=am5.ge air;refine ab.op (i:=9) ?_;refine ae aZ ?_;refine⟨ais,?_⟩;obtain⟨atf,abw,Q4,LO,as3,ak3⟩:=qe (Z:=.cells yJ) ais;rw[abw];clear abw;have ak4:=api.ge Q4;have ak5:=apj.ge Q4;have Q5:=(Q4.hp _ Λ).trans VB;exact K4 (asd.N,O2m.N) _ _ _ ⟨ak3,by dsimp only;omega,by dsimp only;omega,by dsimp only;omega,by dsimp only;omega,by dsimp only;omega,LO,Q5,ak4,ak5⟩ z11 rfl;refine aQ.o1 ?_;refine ae aZ ?_;refine⟨Q1,?_⟩;obtain⟨O2p,am6,am7,Om,atU,ait⟩:=qe (Z:=.cells yJ) Q1;rw[am6];clear am6;have am8:=TO2.ge am7;have am9:=FO2.ge am7;refine auS (i:=5) (j:=10) ?_ ?_;refine aQ.iH (y_ O2p am8) ?_;rintro _ ase ⟨apk,hu,rfl⟩;have atg:=hu.1;have apl:=am9.trans hu;have Zu:=Kf hu ait;have Zv:=(hu.2 _ Λ Λ).trans Om;clear hu;simp only[ag];refine⟨Zu,?_⟩;refine ρ 6 aZ ?_;refine ρ 7 aZ ?_;refine ρ 8 aZ ?_;refine ab.op (i:=10) ?_;refine ae aZ ?_;refine⟨Zu,?_⟩;obtain⟨ath,abx,Q6,LP,as4,ak6⟩:=qe (Z:=.cells [.v (Ι Κ 0),.s [],.s [],.s [],.v (Ι Κ 0),.v (Ι Κ 0),.v (Ι Κ 0),.s []]) Zu;rw[abx];clear abx;have ak7:=apk.ge Q6;have ak8:=apl.ge Q6;have VD:=(Q6.hp _ Λ).trans Zv;exact K4 (O2.N,ase.N) _ _ _ ⟨ak6,by dsimp only;omega,by dsimp only;omega,by dsimp only;omega,by dsimp only;omega,by dsimp only;omega,VD,LP,ak7,ak8⟩ z11 rfl;refine aQ.o1 ?_;refine ae aZ ?_;refine⟨ait,?_⟩;obtain⟨asf,aiu,Zw,VE,ati,apm⟩:=qe (Z:=.cells [.v (Ι Κ 0),.s [],.s [],.s [],.v (Ι Κ 0),.v (Ι Κ 0),.v (Ι Κ 0),.s []]) ait;rw[aiu];clear aiu;have apn:=am8.ge Zw;have apo:=am9.ge Zw;have Zx:=(Zw.hp _ Λ).trans Om;refine ab.call (i:=5) (y_ asf apn) ?_;rintro _ atj ⟨ak9,hu,rfl⟩;have as5:=hu.1;have ak_:=apo.trans hu;have aby:=Kf hu apm;have VG:=(hu.2 _ Λ Λ).trans Zx;have Q7:=(hu.2 _ Λ Λ).trans VE;clear hu;simp only[ag];refine⟨aby,?_⟩;refine ρ 6 aZ ?_;refine ρ 7 aZ ?_;refine ρ 8 aZ ?_;exact K4 (O2.N,O2p.N) _ _ _ ⟨aby,by dsimp only;omega,by dsimp only;omega,by dsimp only;omega,by dsimp only;omega,by dsimp only;omega,VG,Q7,ak9,ak_⟩ z11 rfl;refine aQ.o1 ?_;refine ae aZ ?_;refine⟨Q1,?_⟩;obtain⟨O2x,am_,ana,On,atV,aiv⟩:=qe (Z:=.cells [.v (Ι Κ 0),.s [],.s [],.s [],.v (Ι Κ 0),.v (Ι Κ 0),.v (Ι Κ 0),.s []]) Q1;rw[am_];clear am_;have anb:=TO2.ge ana;have anc:=FO2.ge ana;refine auS (i:=5) (j:=9) ?_ ?_;refine aQ.iH (y_ O2x anb) ?_;rintro _ asg ⟨apq,hu,rfl⟩;have atk:=hu.1;have apr:=anc.trans hu;have Zy:=Kf hu aiv;have Zz:=(hu.2 _ Λ Λ).trans On;clear hu;simp only[ag];refine⟨Zy,?_⟩;refine ρ 6 aZ ?_;refine ρ 7 aZ ?_;refine ρ 8 aZ ?_;refine ab.op (i:=9) ?_;refine ae aZ ?_;refine⟨Zy,?_⟩;obtain⟨atl,abz,Q8,LQ,as6,ala⟩:=qe (Z:=.cells yJ) Zy;rw[abz];clear abz;have alb:=apq.ge Q8;have alc:=apr.ge Q8;have VI:=(Q8.hp _ Λ).trans Zz;exact K4 (asg.N,O2.N) _ _ _ ⟨ala,by dsimp only;omega,by dsimp only;omega,by dsimp only;omega,by dsimp only;omega,by dsimp only;omega,LQ,VI,alb,alc⟩ z11 rfl;refine aQ.o1 ?_;refine ae aZ ?_;refine⟨aiv,?_⟩;obtain⟨ash,aiw,ZA,VJ,atm,aps⟩:=qe (Z:=.cells yJ) aiv;rw[aiw];clear aiw;have apt:=anb.ge ZA;have apu:=anc.ge ZA;have ZB:=(ZA.hp _ Λ).trans On;refine ab.call (i:=5) (y_ ash apt) ?_;rintro _ atn ⟨ald,hu,rfl⟩;have as7:=hu.1;have ale:=apu.trans hu;have abA:=Kf hu aps;have VK:=(hu.2 _ Λ Λ).trans ZB;have Q9:=(hu.2 _ Λ Λ).trans VJ;clear hu;simp only[ag];refine⟨abA,?_⟩;refine ρ 6 aZ ?_;refine ρ 7 aZ ?_;refine ρ 8 aZ ?_;exact K4 (O2x.N,O2.N) _ _ _ ⟨abA,by dsimp only;omega,by dsimp only;omega,by dsimp only;omega,by dsimp only;omega,by dsimp only;omega,Q9,VK,ald,ale⟩ z11 rfl)
 rintro⟨pb,xb⟩ O3 ⟨asi,asj,ahZ,ane,asm,qx,eH,G7,BR⟩;dsimp only at asi asj ahZ ane asm qx eH ⊢;have ea:=BR.1;have j3:O3.hp bb=φ (.cells [.p k 0,.map md])/\O3.hp O.N=φ (.cells [.s g1,.s g2,.s g3]):=⟨BR.at Λ Λ Q1.1,BR.at Λ Λ Q1.2⟩;have cE:=BR.at Λ Λ bV;have anf:=BR.at Λ Λ am3;have DB:BW O3 A B k bb md S mm:=⟨G7,⟨MD,cm,j3.1,anf,Vx,am1⟩,⟨um.1,um.2.1,um.2.2.1,Λ,Λ,um.2.2.2.2.2⟩,hB.ok⟩;have ku:dC (λi=>(A.1<=i/\i<B/\i≠A.2)\/i=md) O O3:=⟨Λ,λi hi hn=>(BR.2 i Λ (λe=>hn (.inl e))).trans (am2.hp i hi)⟩;clear y_ TO2 FO2 qX Q1 bV am3 G7;cases FM with
 | error x=>
   replace hR:Except.error x=R9:=hR
   subst hR;have hE:pbE x=γ:=Ai (hmn x rfl);have m9:=wm x;rw[hE]at m9;simp only[rX]at eH;obtain⟨xe,⟨xg,xa,xv⟩,x1,x2,x3,xw⟩:=x;simp only[gV,ja,aq]at m9 eH;refine ξ aZ eH ?_;refine VL.ud aa (bb:=Α) (b:=γ) z10 z24 (.inr ⟨rfl,rfl⟩) m9 z11 rfl rfl rfl rfl ?_;refine ae aZ ?_;refine gy aZ @wi @wd @amu eH ?_;refine VL.panic rfl rfl rfl ?_;refine ae @wd ?_;exact⟨ku,rfl⟩
 | ok p=>
   replace hR:Hz (λmm g'=>my S n mm g' (W++[g])) mm g W p (mC (nO p) [] ([],0))=R9:=hR
   have sM:=Vo p rfl;have m9:=wm ja;(have Tg:Ζ p.props<=50000:=by have:=sM.pl;omega);have htB:=akW sM;have xG:(nO p).length<=100000:=aev htB.1 z12
   have Qg:∀T t',w7 T bb g p (W++[g]) t'=[.p T 0,.p bb 0,.s g1,.s g2,.s g3]++dy p++[.l (Ζ W+1) (W.flatMap aS++[.s g1,.s g2,.s g3]) t']:=λT t'=>by
    simp only[w7,AF,Ro,TR,ai9,ai8,ai_,apE,List.flatMap_cons,ats,List.append_nil]
   simp only[rP,rX]at qx eH;simp only[gV,ja,aq]at m9 eH;refine ξ aZ eH ?_;refine VL.ud aa (bb:=γ) (b:=Α) z10 z24 (.inr ⟨rfl,rfl⟩) m9 z11 rfl rfl rfl rfl ?_;refine ae aZ ?_;refine Ξ [0,4,6,9,11] (λx:Nat×Nat=>[.p bb 0,.p O.N 0,.p (O.N+1) 0,.p pb 0,.p x.1 0]) (λx O'=>O3.Ge O'/\O3.N<=x.1/\x.1<O'.N/\(∃t',O'.hp x.1=φ (.cells (w7 x.2 bb g p (W++[g]) t')))/\∃kr kd t,AA O' x.2 kr kd (mC (nO p) [] ([],0)).1 (mC (nO p) [] ([],0)).2.1 [] (mC (nO p) [] ([],0)).2.2 0 t 0/\O3.N<=kr/\O3.N<=kd/\O3.N<=x.2/\x.2≠x.1/\kd≠x.1/\kr≠x.1) ?_ ?_;((·refine VC.tB [13] (pb) (λO'=>O'.hp O.N=φ (.cells [.s g1,.s g2,.s g3])/\O3.N<=O'.N/\∀i,i<O3.N->i≠pb->O'.hp i=O3.hp i) (qx) (λX=>⟨Θ j3.2,Rn _,λi _ h=>τ _ _ h⟩) ?_;intro X;refine ε (m:=.agg (dy p)) 0 (λ_ h=>h.1) (λ_ h=>h) ?_ ?_;exact dT aZ @qD;simp only[ag];refine ρ 3 aZ ?_;refine δ (m:=.agg [.s g1,.s g2,.s g3]) 4 ?_ ?_;rintro O2 ⟨j0,j1,j2⟩;exact dT aZ j1;simp only[ag];refine ε (m:=.agg (dy p)) 5 (λ_ h=>h.1) (λ_ h=>h) ?_ ?_;exact dT aZ @qD;simp only[ag];refine ρ 6 aZ ?_;refine δ (m:=.agg [.s g1,.s g2,.s g3]) 8 ?_ ?_;rintro O2 ⟨j0,j1,j2⟩;exact dT aZ j1;simp only[ag];(((((((have jH:∀A B:VH,A.Ge B->(A.hp pb=φ (.obj X)/\A.hp O.N=φ (.cells [.s g1,.s g2,.s g3])/\O3.N<=A.N/\∀i,i<O3.N->i≠pb->A.hp i=O3.hp i)->(B.hp pb=φ (.obj X)/\B.hp O.N=φ (.cells [.s g1,.s g2,.s g3])/\O3.N<=B.N/\∀i,i<O3.N->i≠pb->B.hp i=O3.hp i):=λA B g h=>⟨g.at h.1,g.at h.2.1,aev h.2.2.1 g.N,λi h1 h2=>(g.hp i Λ).trans (h.2.2.2 i h1 h2)⟩);have VM:(O3.set pb (.obj X)).hp pb=φ (.obj X)/\(O3.set pb (.obj X)).hp O.N=φ (.cells [.s g1,.s g2,.s g3])/\O3.N<=(O3.set pb (.obj X)).N/\∀i,i<O3.N->i≠pb->(O3.set pb (.obj X)).hp i=O3.hp i:=⟨υ _ _ _,Θ j3.2,Rn _,λi _ h=>τ _ _ h⟩);have nA0:(O3.set pb (.obj X)).N=O3.N:=rfl;generalize O3.set pb (.obj X)=A0 at*;have asn:O.N<O3.N:=by omega);refine ab.meet [1,2,7,9] [0,4,6,9,43,44,45,46,48,50] (λx:Nat×Nat×Tok×Tok=>[.p bb 0,.p O.N 0,.p (O.N+1) 0,.p pb 0,.p (x.1+2) 0,.p bb 0,.agg [.s g1,.s g2,.s g3],.agg (dy p),.l (Ζ W) (W.flatMap aS) x.2.2.1,.l 1 [.s g1,.s g2,.s g3] .full]) (λx O'=>(O'.hp pb=φ (.obj X)/\O'.hp O.N=φ (.cells [.s g1,.s g2,.s g3])/\O3.N<=O'.N/\∀i,i<O3.N->i≠pb->O'.hp i=O3.hp i)/\App O' x.2.1 3 x.2.2.1/\AA O' (x.1+2) x.1 (x.1+1) (mC (nO p) [] ([],0)).1 (mC (nO p) [] ([],0)).2.1 [] (mC (nO p) [] ([],0)).2.2 0 x.2.2.2 0/\O3.N<=x.1/\O3.N<=x.2.1) 4 ?_ ?_;rotate_left);rintro⟨tb,B9,t7,t2⟩ O9 ⟨LK,cQ,aix,aso,hlB⟩;dsimp only at cQ aix aso hlB ⊢;have yP:=LK.2.2.1;have o_:=bE (tk:=t7) (tk':=.full) (n:=Ζ W) (k:=1) (cs:=W.flatMap aS) (ds:=[.s g1,.s g2,.s g3]) PK Eo.1.1 cQ hWf;refine ab.op (i:=10) ?_;rw[eN];refine ak aZ o_ ?_;have jK:=akY cQ hlB ane asn LK;refine⟨jK,?_⟩;have vR:=flW (tb+2) bb (Ζ W+1) (W.flatMap aS++[.s g1,.s g2,.s g3]) (.own (VH.N O9) 3) (.s g1) (.s g2) (.s g3) p;refine ab.au 11 ?_ (hb:=(ail 1 (Nat.le_of_ble_eq_true z11) z11));refine ak aZ vR ?_;have hTA:=Zs cQ aix;have lTF:=(aix).lt;have nFA:(VH.after O9 t7).N=VH.N O9+1:=VH.fL _ _;generalize VH.after O9 t7=FA at*;refine ab.op (i:=12) ?_;refine ae aZ ?_;refine⟨⟨jK.1,jK.2.1,Nat.le_succ_of_le jK.2.2.1,λi h1 h2=>(VH.gY _ _ Λ).trans (jK.2.2.2 i h1 h2)⟩,?_⟩;refine ab.tC [(13,.one)] ?_;refine ae aZ ?_;refine aE.mk (VH.N FA,tb+2) ⟨⟨?_,λi h1=>?_⟩,jK.2.2.1,apH _,⟨.own (VH.N O9) 3,by rw[Qg];exact(τ _ _ z33).trans (ζ _ _)⟩,tb,tb+1,t2,aim (hTA.ge ((VH.Ge.refl FA).push _)) z33 z33 z33,?_,?_,?_,?_,?_,?_⟩;show O3.N<=FA.N+1;omega;by_cases e:i=pb;subst e;rw[υ];exact qx.symm;rw[τ _ _ e,VH.gY _ _ Λ];exact jK.2.2.2 i h1 e;(((((first | omega | (dsimp only;omega));first | omega | (dsimp only;omega));first | omega | (dsimp only;omega));first | omega | (dsimp only;omega));first | omega | (dsimp only;omega));first | omega | (dsimp only;omega));intro K7;refine auS (i:=1) (j:=9) ?_ ?_);refine aQ.iH (Of p A0 Tg) ?_;rintro _ VN ⟨⟨t1,rfl⟩,VO⟩;simp only[ag];have zj:=jH _ _ VO VM;have asp:=VO.N;refine⟨zj,?_⟩;refine auS (i:=2) (j:=9) ?_ ?_;refine aQ.iH (QA (nO p) t1 VN xG) ?_;rintro _ tU ⟨rfl,zm,t2,rL⟩;simp only[ag];have kT:=jH _ _ zm zj;have aiy:=zm.N;have abB:=rL.lt;refine⟨kT,?_⟩;refine auS (i:=7) (j:=9) ?_ ?_;refine aQ.iH (Aa W tw tU) ?_;rintro _ ZC ⟨t7,rfl,cQ,kE⟩;simp only[ag];have nh:=jH _ _ kE kT;have Q_:=kE.N;have lB7:O3.N<=tU.N:=kT.2.2.1;have sG:=rL.ge kE;refine⟨nh,?_⟩;refine ab.op (i:=9) ?_;refine ae aZ ?_;refine⟨nh,?_⟩;exact K7 (VN.N,tU.N,t7,t2) _ _ _ ⟨nh,cQ,sG,zj.2.2.1,kT.2.2.1⟩ z11 rfl;refine aQ.o1 ?_;refine ae aZ ?_;refine⟨kT,?_⟩;refine ab.call (i:=7) (Aa W tw tU) ?_;rintro _ ZC ⟨t7,rfl,cQ,kE⟩;simp only[ag];have nh:=jH _ _ kE kT;have Q_:=kE.N;have lB7:O3.N<=tU.N:=kT.2.2.1;have sG:=rL.ge kE;refine⟨nh,?_⟩;exact K7 (VN.N,tU.N,t7,t2) _ _ _ ⟨nh,cQ,sG,zj.2.2.1,kT.2.2.1⟩ z11 rfl;refine aQ.o1 ?_;refine ae aZ ?_;refine⟨zj,?_⟩;refine ab.call (i:=2) (QA (nO p) t1 VN xG) ?_;rintro _ tU ⟨rfl,zm,t2,rL⟩;simp only[ag];have kT:=jH _ _ zm zj;have aiy:=zm.N;have abB:=rL.lt;refine⟨kT,?_⟩;refine ab.call (i:=7) (Aa W tw tU) ?_;rintro _ ZC ⟨t7,rfl,cQ,kE⟩;simp only[ag];have nh:=jH _ _ kE kT;have Q_:=kE.N;have lB7:O3.N<=tU.N:=kT.2.2.1;have sG:=rL.ge kE;refine⟨nh,?_⟩;exact K7 (VN.N,tU.N,t7,t2) _ _ _ ⟨nh,cQ,sG,zj.2.2.1,kT.2.2.1⟩ z11 rfl);refine aQ.o1 ?_;refine ae aZ ?_;refine⟨VM,?_⟩;refine ab.call (i:=1) (Of p A0 Tg) ?_;rintro _ VN ⟨⟨t1,rfl⟩,VO⟩;simp only[ag];have zj:=jH _ _ VO VM;have asp:=VO.N;refine⟨zj,?_⟩;refine ab.call (i:=2) (QA (nO p) t1 VN xG) ?_;rintro _ tU ⟨rfl,zm,t2,rL⟩;simp only[ag];have kT:=jH _ _ zm zj;have aiy:=zm.N;have abB:=rL.lt;refine⟨kT,?_⟩;refine ab.call (i:=7) (Aa W tw tU) ?_;rintro _ ZC ⟨t7,rfl,cQ,kE⟩;simp only[ag];have nh:=jH _ _ kE kT;have Q_:=kE.N;have lB7:O3.N<=tU.N:=kT.2.2.1;have sG:=rL.ge kE;refine⟨nh,?_⟩;exact K7 (VN.N,tU.N,t7,t2) _ _ _ ⟨nh,cQ,sG,zj.2.2.1,kT.2.2.1⟩ z11 rfl));rintro⟨wb,tb⟩ O4 ⟨aV,asq,Gi,⟨tw',LB⟩,kr,kd,t7,xy,hkr,Am,htb,abC,AN,UP⟩;dsimp only at asq Gi LB xy htb abC AN UP ⊢;have fe:=aV.N;have htG:=Q0 (l:=nO p) (P:=[]) (R:=([],0)) htB.2 z10 z10;generalize mC (nO p) [] ([],0)=T at*;have xz:j5 O4 wb bb tb kr kd g p (W++[g]) tw' T.1 T.2.1 T.2.2 t7 ([],0):=⟨⟨⟨0,xy⟩,z10⟩,LB,Gi,⟨Ne.symm abC,Ne.symm UP,Ne.symm AN⟩,λe he=>aev (htG.2.2 e he) z12⟩;have hlT:=xy.lt;unfold Hz at hR;rw[S6,kZ,rf]at hR;have jx:=aV.at j3.2;refine ξ aZ jx ?_;refine VC.al ?_;rintro O5 ⟨bB,G9,ie⟩;have nC:=aV.trans bB;have U5:AG O A B k bb md pb wb O4.N tb kr kd S mm g p (W++[g]) tw' T.1 T.2.1 T.2.2 t7 ([],0) [.s g1,.s g2,.s g3,.s [],.l 0 [] .nil,.l 0 [] .nil,.l 0 [] .nil] O5:=⟨ku.ge nC,xz.ge bB,DB.ge nC,G9,nC.at qx,(nC.at j3.2).trans (by rw[AF]),nC.at cE,Λ⟩;clear aV bB nC G9 ie jx xz LB xy DB ku j3 qx eH cE anf BR Qg am2;have rz:=sM.tx;have hlU:=U5.lt;have Qb:=U5.pc;have e_:=U5.gc;((((((((have hwB:wb<O5.N:=Λ;refine θ (gy aZ Qb e_ @qD AF ?_);refine ah.mq (E_ U5.wk amX p.g g1) hR ?_ ?_);rintro e O9 jG rfl;refine ak aZ @wd ?_;exact⟨U5.fr.after jG λi hi e=>Λ,rfl⟩);clear hR;rintro s6 m O6 hX6 rK h6 hR;have U6:=U5.step rK h6;clear U5 Qb e_ rK h6 hwB hX6;have Uk:=U6.pc;have Aw:=U6.gc;refine ae aZ ?_;refine θ (gy aZ Uk Aw @qD AF ?_);refine ah.mq (E_ U6.wk amY p.a g2) hR ?_ ?_);rintro e O9 jG rfl;refine ak aZ @wd ?_;exact⟨U6.fr.after jG λi hi e=>Λ,rfl⟩);clear hR;rintro s7 m O7 hX7 QX h7 hR;have U7:=U6.step QX h7;clear U6 Uk Aw QX h7 hX7;have hp7:=U7.pc;have G3:=U7.gc;refine ae aZ ?_;refine θ (gy aZ hp7 G3 @qD AF ?_);refine ah.mq (E_ U7.wk amZ p.v g3) hR ?_ ?_);rintro e O9 jG rfl;refine ak aZ @wd ?_;exact⟨U7.fr.after jG λi hi e=>Λ,rfl⟩);clear hR;rintro s8 m O8 hX8 vw h8 hR;have U8:=U7.step vw h8;clear U7 hp7 G3 vw h8 hX8;have Ul:=U8.pc;refine ae aZ ?_;refine θ (aF aZ Ul @qD ?_);refine ah.mq (Hy U8.wk p.pk abq) hR ?_ ?_);rintro e O9 jG rfl;refine ak aZ @wd ?_;exact⟨U8.fr.after jG λi hi e=>Λ,rfl⟩);clear hR;rintro y9 m O9 hX9 jG h9 hR;have hy9:=vv hX9;obtain⟨y9,s9⟩:=y9;obtain⟨rfl,h9⟩:=h9;dsimp only at hR hy9 h9;have U9:=U8.step jG h9;clear U8 Ul jG h9 hX9;have hm9:=U9.mo;refine ak aZ hm9 ?_;refine VC.bus U9 ?_;rintro fb U10;clear hm9 U9;have Oo:=U10.mo;refine Ξ [0,4,6,9,11,12] (λ_:Unit=>[.p bb 0,.p O.N 0,.p (O.N+1) 0,.p pb 0,.p wb 0,.p O4.N 0]) (λ_ O'=>AG O A B k bb md pb wb O4.N tb kr kd S mm g p (W++[g]) tw' T.1 T.2.1 T.2.2 t7 s9 [.s g1,.s g2,.s g3,.s (QZ y9),.l 0 [] .nil,.l 0 [] .nil,.l 0 [] .nil] O') ?_ ?_
   ·by_cases ep:y9=[]
    ·have ep1:(y9==[])=Α:=by simpa using ep
     rw[show QZ y9=Bi from if_pos ep];refine θ (aF aZ Oo ep1 ?_);refine ο aZ Oo ?_;exact aE.mk () U10.put
    ·have ep1:(y9==[])=γ:=by simpa using ep
     rw[show QZ y9=y9 from if_neg ep];refine θ (aF aZ Oo ep1 ?_);refine ν aZ ?_;exact aE.mk () U10
   rintro _ j9 U11;clear U10 Oo
   have cz:(QZ y9).length<=4096:=by
    unfold QZ;split;decide;exact hy9
   generalize QZ y9=pk at*;have Oq:=U11.mo;refine ξ aZ Oq ?_;refine π (vW pk j9 (aev cz z12)) ?_;rintro _ Ke ⟨rfl,Bk⟩;have zp:=U11.ge Bk;clear Oq U11 Bk;cases hi:iZ pk with
   | false=>
     rw[hi,if_pos rfl]at hR;subst hR;refine ae aZ ?_;refine η (kD zp.wk.cell 20 abq) ?_;refine ak aZ @wd ?_;exact⟨zp.fr,rfl⟩
   | true=>
   rw[hi,if_neg z10]at hR;refine ae aZ ?_;have aiz:=zp.wk.cell;((obtain⟨A0,Rq⟩:∃A0,w7 tb bb g p (W++[g]) tw'= .p tb 0::A0:=⟨_,rfl⟩);rw[Rq]at aiz;unfold abr at hR;have ia:=akJ zp.wk.hR zp.wk.T (by have:=htG.1;have:=htB.1;simp only[ai_]at*;omega);have hae:=λe=> @EV T.2.1 T.1 [] s9 e);have m5:=λy=> @Oj T.2.1 T.1 [] s9 y
   generalize qz T.2.1 T.1 [] s9=XA at*;refine ξ aZ aiz ?_;refine π ia ?_;rintro m LJ ⟨hFr,Ot⟩;have Ou:dC (λi=>i=tb\/i=kd) Ke LJ:=⟨hFr.1,λi hi hn=>hFr.2 i hi (λe=>hn (.inl e)) (λe=>hn (.inr e))⟩;have ato:=zp.lt;cases XA with
   | error e=>
     obtain⟨e,x⟩:=e;dsimp only at Ot
     replace hR:Except.error (⟨e,g,0,0,0,aij⟩:fa)=R9:=hR
     subst hR;subst Ot;(have IU:(e != 0)=Α:=by simpa using hae (e,x) rfl);have asr:LJ.hp wb=φ (.cells (w7 tb bb g p (W++[g]) tw')):=Ou.at Λ (by have:=zp.wk.ne;omega) zp.wk.cell;simp only[aq];refine ae aZ ?_;refine ξ aZ IU ?_;refine η (kD asr e aij) ?_;refine ak aZ @wd ?_;exact⟨zp.fr.after Ou λi hi e=>Λ,rfl⟩
   | ok y13=>
   have Av:=m5 y13 rfl;obtain⟨ZD,s13⟩:=y13;obtain⟨⟨tP,rfl⟩,aiA⟩:=Ot;dsimp only[fp]at hR aiA Av;have U13:=zp.step Ou (st':=s13) ⟨aiA,Ou.at Λ (by have:=zp.wk.ne;omega) zp.wk.cell,by have:=Ou.1;omega,zp.wk.ne,zp.wk.hR⟩;clear zp aiz ia hae m5 Ou hFr aiA;simp only[aq];refine ae aZ ?_;refine κ aZ ?_;have Ot:=U13.mo;refine ξ aZ Ot ?_;refine VC.bus U13 ?_;rintro O14 U14;clear Ot U13;have atp:=U14.lt;refine κ aZ ?_;refine ah.mq (Vl (λh=>ah7 (by rw[ai9,ai8,ai_]at h;omega) g) U14.wk U14.bw Λ sM.mn (by have:=sM.ml;omega) (by rw[ai9,ai8,ai_];omega)) hR ?_ ?_;rintro e O9 jG rfl;refine ak aZ @wd ?_;exact⟨U14.fr.after jG λi hi e=>Λ,rfl⟩;clear hR;rintro y15 m O15 ass Ov h15 hR;obtain⟨⟨VP,s15⟩,atX⟩:=y15;obtain⟨⟨tM,rfl⟩,aiB,aiC,abD,ang⟩:=h15;dsimp only at hR aiB aiC abD ang;have U15:=U14.bL Ov aiB aiC;clear U14 Ov aiB aiC ass;have anh:=U15.mo;refine ak aZ anh ?_;refine VC.bus U15 ?_;rintro O16 U16;clear anh U15;have ani:=U16.mo;refine ξ aZ ani ?_;refine ah.mq (aej U16.wk VP tM abD Λ sM.dn (by have:=sM.dl;omega)) hR ?_ ?_;rintro e O9 jG rfl;refine ak aZ @wd ?_;exact⟨U16.fr.after jG λi hi e=>by have:=U16.lt;omega,rfl⟩;clear hR;rintro y17 m O17 anj Ow h17 hR;have ZE:=Ok abD anj sM.dn z10;obtain⟨ZF,s17⟩:=y17;obtain⟨⟨tN,rfl⟩,aiD⟩:=h17;dsimp only at hR aiD ZE;have U17:=U16.step Ow aiD;clear U16 Ow aiD anj ani;have ank:=U17.mo;refine ak aZ ank ?_;refine VC.bus U17 ?_;rintro O18 U18;clear ank U17;refine VC.YS U18.mo (Wk.mdl _ _ _ _ _ _ _ _ _ _ _ _ _) ?_;refine VC.bus U18 ?_;rintro O19 LR;clear U18;subst hR;have Vo:MdB ⟨g,pk,ZD,VP,ZF⟩:=⟨by have:=htG.1;have:=htB.1;simp only[ai_]at*;omega,ang,abD,by have:=ZE.1;have:=sM.dl;simp only[ai_]at*;omega,ZE.2⟩
   have hmm:(.agg [.s g1,.s g2,.s g3,.s pk,.l (Ζ ZD) (ZD.flatMap bp) .av,.l (Ζ VP) (VP.flatMap aG) .av,.l (Ζ ZF) (ZF.flatMap eK) .av]:MV)= .agg (qC ⟨g,pk,ZD,VP,ZF⟩):=by
    simp only[qC,AF,Ro,TR]
   obtain⟨MD',cm',anl,ast,anm,apv⟩:=LR.bw.bd;have ann:=LR.mo;have asu:=LR.gc;have asv:=LR.zc;have hlU:=LR.lt;have si:=LR.bw.lt;((have abu:eP ⟨g1,g2,g3⟩=eP g:=by rw[<-S6, <-kZ, <-rf]);rw[<-abu]at D4;have qO:=uO (y:=.agg (qC ⟨g,pk,ZD,VP,ZF⟩)) (ck:=cm') anm (l:=eP ⟨g1,g2,g3⟩) rfl D4;have asw:=λk=>JS (M:=MD') (eP ⟨g1,g2,g3⟩) k (.agg (qC ⟨g,pk,ZD,VP,ZF⟩)) cm');refine Δ ?_;refine WC.bM (.held [6]) [(0,.rd),(1,.rd),(2,.rd),(3,.rd),(4,.rd),(5,.rd),(6,.one)] ?_;refine gy aZ anl asu ann AF ?_;rw[hmm];refine VL.vP rfl rfl (vO.kY yL (l:=eP ⟨g1,g2,g3⟩) (b:=md) (ck:=cm') (M:=MD') Tryz.underlying114 rfl ast anm rfl rfl D4 rfl) (λbrk hb i hi=>?_) (WL.sound aa ?_)
   ·cases hb
    rcases i with _ | _ | _ | _ | _ | _ | _ | i<;>first
     | rfl
     | (exfalso;revert hi;simp)
   generalize kY (eP ⟨g1,g2,g3⟩) (.agg (qC ⟨g,pk,ZD,VP,ZF⟩)) cm' MD'=MDn at*;generalize XC (eP ⟨g1,g2,g3⟩) cm' MD'=cmn at*;refine ae aZ ?_;refine VC.gen ?_;intro VT e20;(((((((have VU:∀i,i≠md->VT.hp i=O19.hp i:=λi hi=>by rw[e20];exact τ _ _ hi);have asx:VT.N=O19.N:=by rw[e20];rfl);have asy:VT.hp md=φ (.map (dw MDn) cmn):=by rw[e20];exact υ _ _ _);clear e20;have asz:=(VU O4.N Λ).trans ann;have asA:=(VU (O.N+1) Λ).trans asv;refine θ (aF aZ asz asA ?_);refine ν aZ ?_;have apw:dC (λi=>(A.1<=i/\i<B/\i≠A.2)\/i=md) O VT:=⟨by have:=LR.fr.1;omega,λi hi hn=>(VU i (λe=>hn (.inr e))).trans (LR.fr.2 i hi hn)⟩;refine⟨apw.set (.inl Λ) _,?_,⟨?_,⟨MDn,cmn,?_,?_,qO,λg'=>?_⟩,⟨si.1,si.2.1,si.2.2.1,?_,?_,si.2.2.2.2.2⟩,λx hx=>?_⟩,Vo⟩);rw[<-hmm];simp only[wu,ic,iC,rS]);exact LR.bw.st.mv (by show O19.N<=VT.N;omega) λi h1 h2=>(VH.sx).trans (VU i Λ));exact(VH.sx).trans ((VU bb Λ).trans anl));exact(VH.sx).trans asy
   ·rw[asw,List.find?_cons,abu];by_cases e:g=g';subst e;rw[if_pos rfl];simp
    ·have e2:(g==g')=γ:=by simpa using e
     rw[if_neg (λh=>e (EO h).symm),e2];exact apv g'
   ·show bb<VT.N;omega
   ·show md<VT.N;omega
   ·rcases apK.1 hx with rfl | hx;exact Vo;exact LR.bw.ok x hx
def Oy{A:Nat×Nat}{B k bb md:Nat}{S:List (Gv×Bs)}:∀(n:Nat)(W:List Gv),Ζ W+n=32->Ζ W<32->Zm A B k bb md S W (λmm g'=>my S n mm g' W)
 | 0,W,h,hl=>Λ
 | n+1,W,h,hl=>λO mm g tw hB hg=>aem (λhW g=>Oy n (W++[g]) (by rw[ai9,ai8,ai_];omega) (by rw[ai9,ai8,ai_];omega)) hB g hg tw Λ
def lS:=abT aZ<|abT T34 FP
def alf(k:Nat)(O:VH):VF Ε 15 [.p k 0] O (aC λm O'=>m= .p (O.N+1) 0/\O.Ge O'/\O'.hp O.N=φ (.map [] 0)/\O'.hp (O.N+1)=φ (.cells [.p k 0,.map O.N])/\O'.N=O.N+2):=by
 refine ω 7 [.tmp 2] func15 ?_;have vR:Pu (m_ [(0,1),(1,1)]) [.v (.pointer Β),.v (.map Β)] (.p k 0) [(1,.map O.N)] (φ (0,1))=φ [.p k 0,.map O.N]:=rfl;refine κ lS ?_;refine ο lS vR ?_;obtain⟨hg,hn,h1,h2⟩:=jS (O:=O) (.map [] 0) (.cells [.p k 0,.map O.N]) rfl;exact hg
def aiE(h:K O):fM Ε 34 [.p a 0,.p b 0] Β O K:=by
 refine fM.rec (d:=5) func34 (Nat.lt_of_lt_of_eq (by decide:5<13) rfl) ?_;show WC _ _ ⟨13,0⟩ _ _ _ _ _;simp only[cX,aui,y10,wI];refine ak lS @wi ?_;refine VL.pure z10 (λ_=>.inl rfl) rfl rfl (d_.IB (bb:=Α) Tryz.underlying20 rfl (.inl ⟨rfl,rfl⟩)) ?_;refine WL.sound aa ?_;refine ak lS @wi ?_;exact h
def aiF{x:fa}{y z:Η}(ha:O.hp a=φ (.cells y))(Av:Ζ y=7)(hb:O.hp b=φ (.cells z))(Tx:Ζ z=8)(Qk:a<O.N)(xm:b<O.N)(EH:a≠b)
  (h:∀O',O.N<=O'.N->(∀i,i<O.N->i≠a->i≠b->O'.hp i=O.hp i)->O'.hp a=φ (.cells tT)->O'.hp b=φ (.cells (gV x))->K O'):fM Ε 34 [.p a 0,.p b 0] (φ (tQ x)) O K:=by
 refine fM.rec (d:=5) func34 (Nat.lt_of_lt_of_eq (by decide:5<13) rfl) ?_;show WC _ _ ⟨13,0⟩ _ _ _ _ _
 match y,Av with
 | [y1,y2,y3,y4,y5,y6,y7],_=>
 match z,Tx with
 | [z1,z2,z3,z4,z5,z6,z7,z8],_=>
 simp only[cX,aui,y10,wI,tQ];refine ak lS @wi ?_;refine VL.pure z10 (λ_=>.inl rfl) rfl rfl (d_.CQ (bb:=γ) Tryz.underlying20 rfl (.inl ⟨rfl,rfl⟩)) ?_;refine WL.sound aa ?_;refine ak lS @wi ?_;refine VL.pure z10 (λ_=>.inl rfl) rfl rfl (d_.asT Tryz.underlying34 (λ_ h=>by cases h) rfl) ?_;refine WL.sound aa ?_;refine ak lS @wi ?_;refine VC.al ?_;rintro O2 ⟨ax,dQ,eG⟩;have iO:=ax.at ha;have bV:=ax.at hb;simp only[gV,aq]at dQ ⊢;refine VC.mJ [] (O.N) (dQ) ?_;intro X;have jx:(O2.set O.N (.obj X)).hp a=φ (.cells [y1,y2,y3,y4,y5,y6,y7]):=Θ iO;have c8:(O2.set O.N (.obj X)).hp b=φ (.cells [z1,z2,z3,z4,z5,z6,z7,z8]):=Θ bV;have jU:(O2.set O.N (.obj X)).hp O.N=φ (.obj X):=υ _ _ _;have fe:(O2.set O.N (.obj X)).N=O.N+1:=eG;have aV:O.Ge (O2.set O.N (.obj X)):=ax.set (Rn _) _;generalize hO4:O2.set O.N (.obj X)=O4 at*;refine ρ 0 lS ?_;refine auQ (m:=.agg [.v (Ι Κ x.e),.s x.g.g,.s x.g.a,.s x.g.v,.v (Ι Κ x.p1),.v (Ι Κ x.p2),.v (Ι Κ x.p3),.s x.w]) 1 ?_ ?_;exact ez lS;simp only[ag];refine ab.op (i:=2) ?_;refine ak lS jx ?_;refine⟨jU,?_⟩;refine ab.op (i:=3) ?_;refine ak lS c8 ?_;refine⟨jU,?_⟩;refine ab.mK [] ?_;refine ae lS ?_;refine h _ (by show O.N<=O4.N;omega) (λi hi h1 h2=>?_) ?_ ?_;rw[VH.sx,VH.sx,VH.sx];exact aV.hp i hi;rw[VH.sx,VH.sx];exact υ _ _ _;rw[VH.sx];exact υ _ _ _
def ano:eM:=⟨⟨[],[],[]⟩,[],[],[],[]⟩
def aen{mm:List (Gv×eM)}(hB:BW O A B k bb md S mm)(g:Gv)(hg:gG g):
  VF Ε 25 [.p bb 0,.agg (aS g)] O (aC λm O'=>dC (λi=>(A.1<=i/\i<B/\i≠A.2)\/i=md) O O'/\match my S 32 mm g []with
   | .ok y=>m= .tuple [.agg (qC y.1),.agg (gV ja)]/\BW O' A B k bb md S y.2/\MdB y.1
   | .error x=>m= .tuple [.agg (qC ano),.agg (gV x)]):=by
 refine VF.fg ?_;have G5:=λ(O':VH)(u:O.Ge O')=>Oy (A:=A) (B:=B) (k:=k) (bb:=bb) (md:=md) (S:=S) 32 [] rfl z12 O' mm g .nil (hB.ge u) hg
 have um:=hB.lt;obtain⟨X,hX⟩:∃X,my S 32 mm g []=X:=⟨_,rfl⟩
 dsimp only at G5;rw[hX]at G5 ⊢;obtain⟨g1,g2,g3⟩:=g;simp only[aS,ai_,ats]at G5 ⊢;refine VF.I9 (lo:=6) (k:=17) (rs:=[.cell 4 107,.cell 5 34]) func25 (Enters.w_) ?_;simp only[cX,aui,y10];refine ae lS ?_;refine VC.gen ?_;rintro O1 vf;obtain⟨aM,dq,eo,cS,gN⟩:=yB _ _ _ vf;clear vf;refine ν lS ?_;refine⟨_,rfl,λD'=>?_⟩;refine θ (aF lS @wd eo ?_);refine ah.ex X (G5 O1 aM) ?_ ?_
 ·rintro x m O2 rfl ⟨jh,h2⟩
  replace h2:m=tQ x:=h2
  subst h2;have bV:=jh.at Λ Λ cS;have fz:=jh.at Λ Λ gN;have eG:=jh.1;refine ak lS @wd ?_;refine aiF bV rfl fz rfl Λ Λ Λ ?_;intro O3 ea mh cE en;simp only[gV,aq]at en ⊢;refine bo lS @wd cE en ?_;exact⟨⟨Λ,λi hi VV=>(mh i Λ Λ Λ).trans ((jh.2 i Λ VV).trans (aM.hp i hi))⟩,rfl⟩
 rintro y m O2 rfl ⟨jh,h2⟩;obtain⟨rfl,qX,ZG⟩:=h2;obtain⟨⟨⟨m1,m2,m3⟩,pk,P,M,L⟩,Vn⟩:=y;have anp:=λO'=>akX ⟨⟨m1,m2,m3⟩,pk,P,M,L⟩ O' ZG
 simp only[qC,aS,Ro,TR]at anp ⊢;refine ak lS @wd ?_;refine π (anp O2) ?_;rintro _ O3 ⟨rfl,aB⟩;have eG:=jh.1;have cE:=aB.at (jh.at Λ Λ cS);have en:=aB.at (jh.at Λ Λ gN);have ea:=aB.N;refine bo lS @wd cE en ?_;refine ο lS @wd ?_;refine aiE ?_;simp only[gV,ja,aq];refine ak lS @wd ?_;have aY:dC (λi=>(A.1<=i/\i<B/\i≠A.2)\/i=md) O O3:=⟨Λ,λi hi VV=>(aB.hp i Λ).trans ((jh.2 i Λ VV).trans (aM.hp i hi))⟩;refine⟨(aY.set (.inl Λ) _).set (.inl Λ) _,?_,(qX.ge aB).mv (Rn _) λi _ hi=>?_,ZG⟩;simp only[wu,ic,iC,rS];rw[VH.sx,VH.sx]
def aH:=abT lS<|abT ap_<|abT ap9<|abT T29<|abT T44<|abT alD<|abT SQ<|abT T69<|abT alC<|abT aqc<|abT T42<|abT GF<|abT SR<|abT T39<|abT Eo T34
structure Br where
 up:Int
 dp:Int
 od:Int
 k:Ky
 v:Bs
 r:Rg
 sc:Int
 rd:Bool
def fW(k:Ky):iR:=⟨k.g,k.a⟩
def zq(b:Br):Gv:=⟨b.k.g,b.k.a,b.v⟩
abbrev j_:=List Br×List (List iR)
def zr(N:List Br)(p:Nat->Bool):Nat->Int->Bool
 | 0,_=>γ
 | f+1,i=>if i<0 then γ else p i.toNat||match N[i.toNat]? with
   | none=>γ
   | some b=>zr N p f b.up
def Kg(M:List Dp)(k:Ky):Option Dp:=M.reverse.find? λd=>decide (bZ d=k)
def rM(M:List Dp)(i:Nat)(b:Br)(n:mw):Int:=if i=0 then n.s else if n.o then 0 else Tc b.sc (match Kg M n.k with
 | some d=>if d.s≠0 then d.s else n.s
 | none=>n.s)
def jB(M:List Dp)(i:Nat)(n:mw):Rg:=if 0<i then match Kg M n.k with
 | some d=>if d.v≠[]then(ee d.v).1 else n.r
 | none=>n.r
 else n.r
def Ra(S:j_)(i:Nat)(x:iR):Bool:=zr S.1 (λk=>(S.2.getD k []).any (FW · x)) (i+1) i
def Ak(S:j_)(i:Nat)(x:iR):Bool:=zr S.1 (λk=>match S.1[k]? with
    | none=>γ
    | some b=>fW b.k==x) (i+1) i
def Ups(N:List Br):Prop:=∀(i:Nat)(b:Br),N[i]?=φ b-> -1<=b.up/\b.up<(i:Int)/\0<=b.dp/\b.dp<=(i:Int)
def ij(b:Br):Η:=[mi b.up,mi b.dp,mi b.od]++iL b.k++[.s b.v]++jo b.r .av++[mi b.sc,mb b.rd]
def dY(b:Br):(ij b).length=13:=rfl
def aiG(L:List Br):de (L.flatMap ij)=L.flatMap ij:=iI (λx=>by simp only[ij,iL,jo,Ro,TR,aq,bg,wu,mu]) L
def Ch(x:List iR):Η:=[.l (Ζ x) (x.flatMap cI) .av]
def VW(x:List iR):(Ch x).length=1:=rfl
def VY(L:List (List iR)):de (L.flatMap Ch)=L.flatMap Ch:=iI (λx=>by simp only[Ch,wu,uX]) L
def aiH(k:Ky)(O:VH):VF Ε 37 [.agg (iL k)] O (aC λm O'=>m= .agg (cI (fW k))/\O.Ge O'):=by
 obtain⟨k1,k2,k3,k4⟩:=k;simp only[iL,cI,fW];refine ω 8 [.cell 2 69] func37 ?_;refine κ aH ?_;refine VC.gen ?_;intro O1 e1;obtain⟨aM,dq,eo,cS⟩:=jS _ _ e1;clear e1;refine θ (aF aH eo cS ?_);refine ν aH ?_;exact aM.set Λ _
def Rb(b:Br)(O:VH):VF Ε 7 [.agg (ij b)] O (aC λm O'=>m= .agg (aS (zq b))/\O.Ge O'):=by
 obtain⟨up,dp,od,⟨k1,k2,k3,k4⟩,v,⟨r1,r2,r3⟩,sc,rd⟩:=b;simp only[ij,iL,jo,aS,zq,aq,bg,Ro,TR];refine ω 12 [.cell 2 24] func7 ?_;refine κ aH ?_;refine VC.gen ?_;intro O1 e1;obtain⟨aM,dq,eo,cS⟩:=jS _ _ e1;clear e1;refine θ (aF aH eo cS ?_);refine ν aH ?_;exact aM.set Λ _
def MgS(O:VH)(mm:Nat)(M:List Dp):Prop:=∃MD cm,O.hp mm=φ (.map (dw MD) cm)/\uM 4 MD/\∀k,fD (dm k) MD=(Kg M k).map λd=>.agg (aG d)
structure q_(O:VH)(tb k bb mm:Nat)(g:Gv)(M:List Dp)(S:j_)(t1 t2:Tok)(B:Nat):Prop where
 cell:O.hp tb=φ (.cells ([.p k 0,.p bb 0]++aS g++[.map mm,.l (Ζ S.1) (S.1.flatMap ij) t1,.l (Ζ S.2) (S.2.flatMap Ch) t2]))
 map:MgS O mm M
 a1:App O B 13 t1
 a2:App O B 1 t2
 ne:∀i,Tok.id t1=φ i->Tok.id t2≠φ i
 lt:tb<O.N/\mm<O.N/\tb≠mm
 len:Ζ S.1=Ζ S.2
 up:Ups S.1
 mr:∀d∈M,rJ d
def q_.ge{S:j_}(h:q_ O tb k bb mm g M S t1 t2 B)(u:O.Ge O'):q_ O' tb k bb mm g M S t1 t2 B:=by
 obtain⟨MD,cm,h1,h2⟩:=h.map;exact⟨(u.hp _ h.lt.1).trans h.cell,⟨MD,cm,(u.hp _ h.lt.2.1).trans h1,h2⟩,h.a1.ge u,h.a2.ge u,h.ne,⟨aja h.lt.1 u.N,aja h.lt.2.1 u.N,h.lt.2.2⟩,h.len,h.up,h.mr⟩
def Hc.key{n:mw}(h:Hc n):∀s∈dm n.k,Ζ s<=maxLen:=by
 obtain⟨h1,h2,h3,h4⟩:=h.k;intro s hs;simp only[dm,apK,auj,or_false]at hs;simp only[maxLen];rcases hs with rfl | rfl | rfl | rfl<;>omega
def Kh{k:Ky}(h:Kg M k=φ d):d∈M:=List.mem_reverse.1 (atM h)
abbrev anq:Η:=[.s [],.s [],.s [],.s [],.s [],.v (Ι Κ 0),.v (Ι Κ 0),.l 0 [] .nil]
def aeo{S:j_}(h:q_ O tb k bb mm g M S t1 t2 B){b:Br}(hb:S.1[i]?=φ b)(n:mw)(hn:Hc n):
  VF Ε 38 [.p tb 0,mi i,.agg (eK n)] O (aC λm O'=>m=mi (rM M i b n)/\O.Ge O'):=by
 have ym:=hn.key;have bh:(S.1.flatMap ij)[i*13+11]?=φ (mi b.sc):=by simpa using dP (sp:=[]) dY hb (i:=11) rfl
 have Qx:=(ahB.1 hb).1;have hc:=h.cell;have bI:=h.lt;have ZH:=λ(O':VH)(u:O.Ge O')=>h.ge u
 unfold rM;obtain⟨⟨k1,k2,k3,k4⟩,⟨r1,r2,r3⟩,s,o,x⟩:=n;dsimp only;simp only[eK,iL,jo,aS,aq,bg,Ro,TR,ai_,ats]at hc bh ⊢;refine ω 39 [.tmp 6] func38 ?_;refine κ aH ?_;refine VC.bx ?_;rintro O1 ⟨aM,dz,dq⟩;by_cases hi:i=0
 ·have uv:((i:Int)==0)=Α:=by simpa using hi
  rw[if_pos hi];refine θ (aF aH uv dz ?_);exact aM
 rw[if_neg hi];have uv:((i:Int)==0)=γ:=by simpa using hi
 refine ξ aH uv ?_;cases o;rotate_left;rw[if_pos rfl];refine ξ aH dz ?_;exact aM
 rw[if_neg z12];refine ξ aH dz ?_;refine ξ aH dz ?_;have h1:=ZH O1 aM;have gN:=h1.cell;obtain⟨MD,cm,Cc,VZ,nQ⟩:=h1.map;have eU:=nQ ⟨k1,k2,k3,k4⟩;simp only[aS,Ro,TR]at gN;refine Δ (Δ ?_);refine WC.bM (.held [8]) [(0,.rd),(1,.rd),(2,.rd),(3,.rd),(4,.rd),(5,.rd),(6,.rd),(7,.one),(8,.one)] ?_;refine aF aH gN dz ?_;refine VL.hold (.inr rfl) rfl rfl (gf.kP sA aa (l:=dm ⟨k1,k2,k3,k4⟩) (te:=⟨_,8,120,anq⟩) Tryz.underlying101 GF.1.1 rfl rfl Cc VZ rfl rfl ym) (WL.sound aa ?_);rw[eU];cases Cb:Kg M ⟨k1,k2,k3,k4⟩with
 | none=>
   simp only[aus];refine ae aH ?_;refine VC.al ?_;rintro O2 ⟨ax,dQ,eG⟩;have ei:=aM.trans ax;have fz:=(ZH O2 ei).cell;simp only[aS,Ro,TR]at fz;refine ο aH dQ ?_;refine θ (aF aH fz bh ?_);refine π (Ew b.sc s _) ?_;rintro _ O3 ⟨rfl,e3⟩;rw[e3];refine ae aH ?_;refine ν aH ?_;exact ei
 | some d=>
   obtain⟨d1,d2,d3,d4,d5,d6,d7,d8⟩:=d;simp only[auk,aG,aq];refine ae aH ?_;refine VC.al ?_;rintro O2 ⟨ax,dQ,eG⟩;have ei:=aM.trans ax;have fz:=(ZH O2 ei).cell;simp only[aS,Ro,TR]at fz;by_cases h6:d6=0;subst h6;rw[if_neg z10];refine ο aH dQ ?_;refine θ (aF aH fz bh ?_);refine π (Ew b.sc s _) ?_;rintro _ O3 ⟨rfl,e3⟩;rw[e3];refine ae aH ?_;refine ν aH ?_;exact ei;rw[if_pos h6];have h6':(d6==0)=γ:=beq_eq_false_iff_ne.2 h6;refine ι (bo aH dQ h6' Bool.not_false ?_);refine ξ aH dQ ?_;refine aF aH fz bh ?_;refine π (Ew b.sc d6 _) ?_;rintro _ O3 ⟨rfl,e3⟩;rw[e3];refine ae aH ?_;refine ν aH ?_;exact ei
def ZI{S:j_}(h:q_ O tb k bb mm g M S t1 t2 B)(i:Nat)(n:mw)(hn:Hc n):
  VF Ε 44 [.p tb 0,mi i,.agg (eK n)] O (aC λm O'=>m= .agg (jo (jB M i n) .av)/\O.Ge O'):=by
 refine VF.fg ?_;have ym:=hn.key;have ZH:=λ(O':VH)(u:O.Ge O')=>h.ge u
 obtain⟨⟨k1,k2,k3,k4⟩,⟨r1,r2,r3⟩,s,o,x⟩:=n;have hR0:jB M i ⟨⟨k1,k2,k3,k4⟩,⟨r1,r2,r3⟩,s,o,x⟩=if 0<i then match Kg M ⟨k1,k2,k3,k4⟩with | some d=>if d.v≠[]then(ee d.v).1 else(r1,r2,r3) | none=>(r1,r2,r3)else(r1,r2,r3):=rfl
 generalize jB M i ⟨⟨k1,k2,k3,k4⟩,⟨r1,r2,r3⟩,s,o,x⟩=RW at*;simp only[eK,iL,jo,aq,bg,Ro,TR,ai_,ats];refine ω 33 [.cell 6 42] func44 ?_;refine κ aH ?_;refine VC.gen ?_;intro O1 e1;obtain⟨aM,dq,dz,sL⟩:=jS _ _ e1;clear e1;have h1:=ZH O1 aM;have gN:=h1.cell;obtain⟨MD,cm,Cc,VZ,nQ⟩:=h1.map;have eU:=nQ ⟨k1,k2,k3,k4⟩;simp only[aS,Ro,TR]at gN;refine Δ (Δ ?_);refine WC.bM (.held [8]) [(0,.rd),(1,.rd),(2,.rd),(3,.rd),(4,.rd),(5,.rd),(6,.rd),(7,.one),(8,.one)] ?_;refine aF aH gN dz ?_;refine VL.hold (.inr rfl) rfl rfl (gf.kP sA aa (l:=dm ⟨k1,k2,k3,k4⟩) (te:=⟨_,8,120,anq⟩) Tryz.underlying101 GF.1.1 rfl rfl Cc VZ rfl rfl ym) (WL.sound aa ?_);rw[eU];subst hR0;by_cases hi:(i:Int)>0;rotate_left
 ·have uv:decide ((i:Int)>0)=γ:=decide_eq_false hi;have fQ:decide (0<(i:Int))=γ:=decide_eq_false hi;rw[if_neg Λ];cases Cb:Kg M ⟨k1,k2,k3,k4⟩with
  | none=>
    simp only[aus];refine ae aH ?_;refine VC.al ?_;rintro O2 ⟨ax,dQ,eG⟩;have ei:=aM.trans ax;have Bl:=ax.at dz;have Gl:=ax.at sL;refine ι (bo aH dQ uv fQ ?_);refine θ (aF aH Bl Gl ?_);refine ν aH ?_;exact⟨by simp only[wu,mu],ei.set Λ _⟩
  | some d=>
    obtain⟨d1,d2,d3,d4,d5,d6,d7,d8⟩:=d;simp only[auk,aG,aq];refine ae aH ?_;refine VC.al ?_;rintro O2 ⟨ax,dQ,eG⟩;have ei:=aM.trans ax;have Bl:=ax.at dz;have Gl:=ax.at sL;refine ι (bo aH dQ uv fQ ?_);refine θ (aF aH Bl Gl ?_);refine ν aH ?_;exact⟨by simp only[wu,mu],ei.set Λ _⟩
 have uv:decide ((i:Int)>0)=Α:=decide_eq_true hi;have fQ:decide (0<(i:Int))=Α:=decide_eq_true hi;rw[if_pos Λ];cases Cb:Kg M ⟨k1,k2,k3,k4⟩with
 | none=>
   simp only[aus];refine ae aH ?_;refine VC.al ?_;rintro O2 ⟨ax,dQ,eG⟩;have ei:=aM.trans ax;have Bl:=ax.at dz;have Gl:=ax.at sL;refine ι (bo aH dQ uv fQ ?_);refine θ (aF aH Bl Gl ?_);refine ν aH ?_;exact⟨by simp only[wu,mu],ei.set Λ _⟩
 | some d=>
   have hd:=h.mr d (Kh Cb);have sK:=hd.v;obtain⟨d1,d2,d3,d4,d5,d6,d7,d8⟩:=d;dsimp only at sK;simp only[auk,aG,aq];refine ae aH ?_;refine VC.al ?_;rintro O2 ⟨ax,dQ,eG⟩;have ei:=aM.trans ax;have Bl:=ax.at dz;have Gl:=ax.at sL;by_cases h3:d3=[];subst h3;rw[if_neg z10];refine ι (bo aH dQ uv fQ ?_);refine θ (aF aH Bl Gl ?_);refine ν aH ?_;exact⟨by simp only[wu,mu],ei.set Λ _⟩;rw[if_pos h3];have oU:(d3==[])=γ:=beq_eq_false_iff_ne.2 h3;refine ι (Em aH dQ uv fQ oU Bool.not_false ?_);refine ak aH dQ ?_;refine π (J3 d3 O2 Λ) ?_;rintro _ O3 ⟨tk,rfl,aB⟩;have dk:=ei.trans aB;have gu:=aB.at Gl;have ea:=aB.N;(obtain⟨⟨p1,p2,p3⟩,hP⟩:∃r,(ee d3).1=r:=⟨_,rfl⟩);rw[hP];simp only[jo,bg,aq];refine ae aH ?_;refine ak aH gu ?_;exact⟨by simp only[wu,mu],((dk.push _).set Λ _).set Λ _⟩
section
variable{n:Sz}{D:List Deferred}{e:Env}{P:Program}{tab:cB}{O:VH}{ops:Array Oper}{Q:VQ}
end
def alg(L:List iR)(tk:Tok)(id:FuncId)(cs:Η)(p:iR->Bool)(O:VH)(hid:cV Ε id=Α)(hc:∀x∈L,∀O',O.Ge O'->VF Ε id ([.agg (cI x)]++cs) O' (aC λm mS=>m=mb (p x)/\O'.Ge mS))(hn:Ζ L<=1000000):
  VF Ε 76 [.l (Ζ L) (L.flatMap cI) tk,.func (.func id) [] cs] O (aC λm O'=>m=mi (idxFrom p 0 L)/\O.Ge O'):=by
 have cz:=aP uW L;refine χ 19 [.tmp 4] func76 ?_;refine ae aH ?_;refine WC.cj [8] [0,1,7] (λj:Nat=>[mi j]) (λj O'=>O.Ge O'/\j<=(Ζ L)/\idxFrom p 0 L=idxFrom p j (L.drop j)) (λj=>(Ζ L) - j) (0) ?_ ?_;exact⟨VH.Ge.refl _,an2 _,rfl⟩;rintro j O2 ⟨ax,hj,bH⟩;by_cases h2:j<Ζ L;have bh:=bY uW L j h2;have Ye:=hc L[j] (an3 h2) O2 ax;rw[an4 h2,idxFrom]at bH;generalize L[j]=y at*;refine ak aH bh ?_;refine π Ye ?_ (hb:=hid);rintro _ O3 ⟨rfl,aB⟩;cases hi:p y;rw[hi]at bH;refine ae aH ?_;exact aw.N (j+1) ⟨ax.trans aB,Λ,bH⟩;rw[hi,if_pos rfl]at bH;rw[bH];refine ae aH ?_;exact ax.trans aB
 ·obtain rfl:j=Ζ L:=Λ
  rw[List.drop_of_length_le Λ]at bH;rw[bH];refine ae aH ?_;exact⟨rfl,ax⟩
def alh(L:List iR)(tk:Tok)(id:FuncId)(cs:Η)(p:iR->Bool)(O:VH)(hid:cV Ε id=Α)(hc:∀x∈L,∀O',O.Ge O'->VF Ε id ([.agg (cI x)]++cs) O' (aC λm mS=>m=mb (p x)/\O'.Ge mS))(hn:Ζ L<=1000000):
  VF Ε 41 [.l (Ζ L) (L.flatMap cI) tk,.func (.func id) [] cs] O (aC λm O'=>m=mb (L.any p)/\O.Ge O'):=by
 rw[<-I8 p L 0];refine χ 9 [.tmp 4] func41 ?_;refine ae aH ?_;refine π (alg L tk id cs p O hid hc hn) ?_;rintro _ O2 ⟨rfl,ax⟩;refine ae aH ?_;exact ax
def ali(q x:iR)(k:Nat)(O:VH)(hk:O.hp k=φ (.cells (cI x)))(Bv:k<O.N):VF Ε 42 ([.agg (cI q)]++[.p k 0]) O (aC λm O'=>m=mb (FW q x)/\O.Ge O'):=by
 have hm:=λO'=>XU q x O'
 obtain⟨q1,q2⟩:=q;obtain⟨x1,x2⟩:=x;simp only[cI]at hm hk ⊢;show VF _ _ [.agg [.s q1,.s q2],.p k 0] _ _;refine ω 7 [.tmp 3] func42 ?_;refine κ aH ?_;refine VC.bx ?_;rintro O1 ⟨aM,dz,dq⟩;have du:=(aM.hp k Bv).trans hk;refine θ (aF aH dz du ?_);refine π (hm O1) ?_;rintro _ O2 ⟨rfl,ax⟩;refine ae aH ?_;refine ν aH ?_;exact aM.trans ax
def apx{S:j_}(h:q_ O tb k bb mm g M S t1 t2 B)(ha:O.hp ba=φ (.cells [.p tb 0]))(hx:O.hp bx=φ (.cells (cI x)))(m5:ba<O.N)(vS:bx<O.N)(hi:i<Ζ S.2)(hX:∀y∈S.2,Ζ y<=1000000):
  VF Ε 40 ([mi i]++[.p ba 0,.p bx 0]) O (aC λm O'=>m=mb ((S.2.getD i []).any (FW · x))/\O.Ge O'):=by
 have hg:S.2[i]?=φ S.2[i]:=an6 hi;have bh:(S.2.flatMap Ch)[i*1+0]?=φ (.l S.2[i].length (S.2[i].flatMap cI) .av):=by simpa using dP (sp:=[]) VW hg (i:=0) rfl
 rw[List.getD_eq_getElem?_getD,hg,Option.getD_some];have Av:=hX _ (an3 hi);generalize S.2[i]=Y at*;have hc:=h.cell;obtain⟨g1,g2,g3⟩:=g;simp only[aS,Ro,TR]at hc;show VF _ _ [mi i,.p ba 0,.p bx 0] _ _;simp only[aq];refine ω 14 [.tmp 4] func40 ?_;refine κ aH ?_;have asB:(S.2.flatMap Ch)[i]?=φ (.l (Ζ Y) (Y.flatMap cI) .av):=by simpa using bh
 refine θ (bo aH ha hc asB ?_);refine π (alh Y .av 42 [.p bx 0] (FW · x) O z11 (λq _ O' u=>ali q x bx O' ((u.hp _ vS).trans hx) (aja vS u.N)) Av) ?_;rintro _ O2 ⟨rfl,ax⟩;refine ae aH ?_;refine ν aH ?_;exact ax
def apy{S:j_}(h:q_ O tb k bb mm g M S t1 t2 B)(ha:O.hp ba=φ (.cells [.p tb 0]))(hx:O.hp bx=φ (.cells (cI x)))(m5:ba<O.N)(vS:bx<O.N){b:Br}(hb:S.1[i]?=φ b):
  VF Ε 48 ([mi i]++[.p ba 0,.p bx 0]) O (aC λm O'=>m=mb (fW b.k==x)/\O.Ge O'):=by
 have bh:((S.1.flatMap ij).drop (i*13+3)).take 4=iL b.k:=by
  obtain⟨hi,e⟩:=ahB.1 hb;have h1:=bY dY S.1 i hi;rw[e]at h1;have h2:=congrArg (λl=>(l.drop 3).take 4) h1;simp only[List.drop_take,List.take_take,List.drop_drop]at h2;exact h2
 have abE:=(ahB.1 hb).1;have abF:=aP dY S.1;have hc:=h.cell;have XI:=λO'=>aiH b.k O'
 generalize b.k=K at*;obtain⟨k1,k2,k3,k4⟩:=K;obtain⟨x1,x2⟩:=x;obtain⟨g1,g2,g3⟩:=g;simp only[aS,iL,cI,fW,Ro,TR]at hc bh hx XI;show VF _ _ [mi i,.p ba 0,.p bx 0] _ _;simp only[aq];refine ω 16 [.tmp 4] func48 ?_;refine κ aH ?_;refine Δ ?_;refine VC.tB [10,11] (tb) (λO'=>O'.hp ba=φ (.cells [.p tb 0])/\O'.hp bx=φ (.cells [.s x1,.s x2])) (hc) (λX=>⟨(τ _ _ (λe=>by rw[e,hc]at ha;cases ha)).trans ha,(τ _ _ (λe=>by rw[e,hc]at hx;cases hx)).trans hx⟩) ?_;intro X;refine δ (m:=.p tb 0) 0 ?_ ?_;rintro O2 ⟨j0,j1,j2⟩;exact dT aH j1;simp only[ag];refine ρ 1 aH ?_;refine ρ 2 aH ?_;refine ε (m:=.l (Ζ S.1) (S.1.flatMap ij) t1) 3 (λ_ h=>h.1) (λ_ h=>h) ?_ ?_;exact ez aH;simp only[ag];refine ρ 4 aH ?_;refine ρ 5 aH ?_;refine ρ 6 aH ?_;refine δ (m:=.agg [.s k1,.s k2,.s k3,.s k4]) 7 ?_ ?_;rintro O2 ⟨j0,j1,j2⟩;exact dT aH bh;simp only[ag];refine δ (m:=.agg [.s x1,.s x2]) 9 ?_ ?_;rintro O2 ⟨j0,j1,j2⟩;exact dT aH j2;simp only[ag];have abC:ba≠tb:=λe=>by rw[e,hc]at ha;cases ha
 have AN:bx≠tb:=λe=>by rw[e,hc]at hx;cases hx
 have atY:=h.lt.1;have hO1:(O.set tb (.obj X)).N=O.N:=rfl;have ew:(O.set tb (.obj X)).hp tb=φ (.obj X)/\(O.set tb (.obj X)).hp ba=φ (.cells [.p tb 0])/\(O.set tb (.obj X)).hp bx=φ (.cells [.s x1,.s x2]):=⟨υ _ _ _,(τ _ _ abC).trans ha,(τ _ _ AN).trans hx⟩;have yS:∀i,i≠tb->(O.set tb (.obj X)).hp i=O.hp i:=λi hi=>τ _ _ hi
 generalize O.set tb (.obj X)=O1 at*;refine ab.call (i:=8) (XI O1) ?_;rintro _ O2 ⟨rfl,ax⟩;simp only[ag];refine⟨⟨ax.at ew.1,ax.at ew.2.1,ax.at ew.2.2⟩,?_⟩;refine ab.tC [(10,.au),(11,.au)] ?_;refine ae aH ?_;refine VL.ud aa (bb:=(k1==x1)&&((k2==x2)&&Α)) (b:=(k1==x1)&&((k2==x2)&&Α)) z10 z10 (.inl ⟨rfl,rfl⟩) z11 z11 rfl rfl rfl rfl ?_;refine ae aH ?_;refine ν aH ?_;refine⟨?_,⟨by show _<=O2.N;have:=ax.N;omega,λi hi=>?_⟩⟩
 ·(congr 2);rw[Bool.eq_iff_iff];simp[fW]
 ·by_cases e:i=tb;subst e;rw[υ];exact hc.symm;rw[τ _ _ e,ax.hp i Λ,yS i e]
def V0{S:j_}(h:q_ O tb k bb mm g M S t1 t2 B){id:FuncId}(p:Nat->Bool)(hid:cV Ε id=Α)(hc:∀j,j<(Ζ S.1)->∀O',O.Ge O'->VF Ε id ([mi j]++cs) O' (aC λm mS=>m=mb (p j)/\O'.Ge mS))(hi:i<Ζ S.1):
  VF Ε 39 [.p tb 0,mi i,.func (.func id) [] cs] O (aC λm O'=>m=mb (zr S.1 p (i+1) i)/\O.Ge O'):=by
 have kF:=h.up;have ZH:=λ(O':VH)(u:O.Ge O')=>h.ge u
 have abF:=aP dY S.1;generalize hZ:zr S.1 p (i+1) i=Z;refine χ 20 [.tmp 6] func39 ?_;refine ae aH ?_;refine WC.cj [1] [0,2] (λx:Int×Nat=>[mi x.1]) (λx O'=>O.Ge O'/\ -1<=x.1/\x.1<(Ζ S.1)/\x.1<x.2/\Z=zr S.1 p x.2 x.1) (λx=>(x.1+1).toNat) (((i:Int),i+1)) ?_ ?_;exact⟨VH.Ge.refl _,by dsimp only;omega,by dsimp only;omega,by dsimp only;omega,hZ.symm⟩;rintro⟨j,f⟩ O2 ⟨ax,h1,h2,h3,bH⟩;dsimp only at h1 h2 h3 bH ⊢;by_cases hj:j>=0;rotate_left
 ·have hd:decide (j>=0)=γ:=decide_eq_false hj;have nS:decide (0<=j)=γ:=decide_eq_false hj
  have hf:zr S.1 p f j=γ:=by
   cases f;rfl;unfold zr;rw[if_pos Λ]
  rw[bH,hf];refine aF aH hd nS ?_;exact ax
 have hd:decide (j>=0)=Α:=decide_eq_true hj;have nS:decide (0<=j)=Α:=decide_eq_true hj;obtain⟨m,rfl⟩:∃m:Nat,j=m:=⟨j.toNat,Λ⟩
 obtain⟨f,rfl⟩:∃f',f=f'+1:=⟨f - 1,Λ⟩
 have hm:m<Ζ S.1:=Λ
 have hb:S.1[m]?=φ S.1[m]:=an6 hm;have hu:=kF m _ hb;have bh:(S.1.flatMap ij)[m*13]?=φ (mi S.1[m].up):=by simpa using dP (sp:=[]) dY hb (i:=0) rfl
 have hcm:=hc m hm O2 ax;rw[zr,if_neg Λ,aul,hb]at bH;dsimp only at bH;generalize S.1[m].up=u at*;simp only[aq]at bh hcm;refine aF aH hd nS ?_;refine π hcm ?_ (hb:=hid);rintro _ O3 ⟨rfl,aB⟩;have en:=(ZH O3 (ax.trans aB)).cell;simp only[aS,Ro,TR]at en;cases hp:p m;rw[hp,Bool.false_or]at bH;refine aF aH en bh ?_;exact aw.N (u,f) ⟨ax.trans aB,hu.1,by dsimp only;omega,by dsimp only;omega,bH⟩;rw[hp,Bool.true_or]at bH;rw[bH];refine ae aH ?_;exact ax.trans aB
abbrev ZJ:Η:=[.v (Ι Κ 0),.v (Ι Κ 0),.v (Ι Κ 0),.s [],.s [],.s [],.s [],.s [],.v (.bool γ),.s [],.l 0 [] .nil,.v (Ι Κ 0),.v (.bool γ)]
def aiI(g:Gv):fa:=⟨2,g,0,0,0,[116,114,101,101]⟩
def Fk(Z:List (Gv×Bs))(r:Rg)(x:iR):Option Bs:=if r.1=Α then(if(ux ((br (gL Z (jY x))).filter (nL r ·))).2=Α then φ (ux ((br (gL Z (jY x))).filter (nL r ·))).1 else Β)else φ r.2.1
def pR(Z:List (Gv×Bs))(g:Gv)(M:List Dp)(S:j_)(i:Nat)(b:Br)(od:Nat)(n:mw):Except fa j_:=
 if rM M i b n=0\/Ra S i (fW n.k)=Α then .ok S
 else if 4096<=(Ζ S.1) then .error (aiI g)
 else match Fk Z (jB M i n) (fW n.k)with
  | none=>.error ⟨27,zq b,0,0,0,zR n.k⟩
  | some v=>.ok (S.1++[⟨i,b.dp+1,od,n.k,v,jB M i n,rM M i b n,Ak S i (fW n.k)⟩],S.2++[n.x])
def Fm{n:mw}(hM:∀d∈M,rJ d)(hn:Hc n):DN (jB M i n):=by
 have h0:DN n.r:=by
  obtain⟨v,h1,_,h2⟩:=hn.r;rw[h2];exact Ka
 unfold jB;split;split;rename_i d hd;have:=(hM d (Kh hd)).v;split;exact Ka;exact h0;exact h0;exact h0
def V3{l:List Bs}(h:∀x∈Z,iq x.1=Α/\(Ζ x.2)<=65536):(gL Z l).length<=(Ζ Z)/\∀v∈gL Z l,Ζ v<=64:=by
 unfold gL;refine⟨by rw[List.length_map];exact List.length_filter_le _ _,λv hv=>?_⟩;obtain⟨x,hx,rfl⟩:=List.mem_map.1 hv;exact(yZ (h x ((aur.1 hx).1)).1).2.2
def apz{O7 fb:VH}{nb:Nat}{Z:bO}(_:O7.hp nb=φ Z)(h1:O.Ge fb)(h2:O7.N<=fb.N)(h3:∀j,j<O7.N->j≠nb->fb.hp j=O7.hp j)(h4:O.N<=nb):∃X,fb.set nb Z=X/\X.hp nb=φ Z/\(∀j,j<O7.N->j≠nb->X.hp j=O7.hp j)/\O7.N<=X.N/\O.Ge X:=
 ⟨_,rfl,υ _ _ _,λj a b=>(τ _ _ b).trans (h3 j a b),h2,h1.set h4 _⟩
def aiJ{O5 O9:VH}{Z:bO}{x:Option bO}(_:O5.hp k=φ Z)(h:j≠k)(h2:O9.hp j=x):(O9.set k Z).hp j=x:=(τ _ _ h).trans h2
def DY(A:VH)(Z:bO):∃B,VH.push A Z=B/\A.Ge B/\B.hp A.N=φ Z/\B.N=A.N+1:=
 ⟨_,rfl,(VH.Ge.refl _).push _,ζ _ _,rfl⟩
def aiK{S:j_}{B2:Nat}{A2:Nat×Nat}(h:q_ O tb k bb mm g M S t1 t2 B)(hB:B<=O.N)(hZ:o5 O A2 B2 k Z)(V4:Ζ Z<=1024){b:Br}(hb:S.1[i]?=φ b)(od:Nat)(n:mw)(hn:Hc n)(hX:∀y∈S.2,Ζ y<=1000000)(hl:Ζ S.1<=4096):
  VF Ε 27 [.p tb 0,mi i,mi od,.agg (eK n)] O (aC λm O'=>match pR Z g M S i b od n with
   | .error x=>m= .agg (gV x)/\O.Ge O'
   | .ok S'=>m= .agg (gV ja)/\∃t1' t2',q_ O' tb k bb mm g M S' t1' t2' B/\O.N<=O'.N/\∀j,j<O.N->j≠tb->Tok.id t1≠φ j->Tok.id t2≠φ j->O'.hp j=O.hp j):=by
 have abE:=(ahB.1 hb).1;have hlen:=h.len;have bI:=h.lt;have hsc:=λ(O':VH)(u:O.Ge O')=>aeo (h.ge u) hb n hn
 have Lm:=λ(O':VH)(u:O.Ge O')=>ZI (h.ge u) i n hn
 have XI:=λO'=>aiH n.k O'
 have hex:=λ(O':VH)(u:O.Ge O')(ba bx:Nat)(ha:O'.hp ba=φ (.cells [.p tb 0]))(hx:O'.hp bx=φ (.cells (cI (fW n.k))))(m5:ba<O'.N)(vS:bx<O'.N)=>
  V0 (h.ge u) (id:=40) (cs:=[.p ba 0,.p bx 0]) (λj=>(S.2.getD j []).any (FW · (fW n.k))) z11 (λj hj O2 u2=>apx (h.ge (u.trans u2)) ((u2.hp _ m5).trans ha) ((u2.hp _ vS).trans hx) (aja m5 u2.N) (aja vS u2.N) (by rw[<-hlen];exact hj) hX) abE
 have Rc:=λ(O':VH)(u:O.Ge O')(ba bx:Nat)(ha:O'.hp ba=φ (.cells [.p tb 0]))(hx:O'.hp bx=φ (.cells (cI (fW n.k))))(m5:ba<O'.N)(vS:bx<O'.N)=>
  V0 (h.ge u) (id:=48) (cs:=[.p ba 0,.p bx 0]) (λj=>match S.1[j]? with
   | none=>γ
   | some b=>fW b.k==fW n.k) z11 (λj hj O2 u2=>by
     have:=apy (h.ge (u.trans u2)) ((u2.hp _ m5).trans ha) ((u2.hp _ vS).trans hx) (aja m5 u2.N) (aja vS u2.N) (an6 hj);rw[an6 hj];exact this) abE
 have gK:=h.cell;obtain⟨MD,cm,L3,VZ,nQ⟩:=h.map;have eo:=h.a1;have iO:=h.a2;have hne:=h.ne;have kF:=h.up;have Df:(S.1.flatMap ij)[i*13+1]?=φ (mi b.dp):=by simpa using dP (sp:=[]) dY hb (i:=1) rfl
 have abF:=aP dY S.1;have Ei:=aP VW S.2;have Nl:=aiG S.1;have ry:=VY S.2
 have hE:pR Z g M S i b od n=if rM M i b n=0\/Ra S i (fW n.k)=Α then .ok S else if 4096<=(Ζ S.1) then .error (aiI g)else match Fk Z (jB M i n) (fW n.k)with
  | none=>.error ⟨27,zq b,0,0,0,zR n.k⟩
  | some v=>.ok (S.1++[⟨i,b.dp+1,od,n.k,v,jB M i n,rM M i b n,Ak S i (fW n.k)⟩],S.2++[n.x]):=rfl
 rw[hE];clear hE;have asC:=Fm (i:=i) h.mr hn;have ZK:=λO'=>Rb b O'
 have qO:=λO'=>Td n.k O' (by have:=hn.k;omega) (by have:=hn.k;omega) (by have:=hn.k;omega) (by have:=hn.k;omega)
 have nP:=λ(O':VH)(u:O.Ge O')=>ahF (hZ.ge u) V4 (fW n.k) (by have:=hn.k;simp only[fW,maxLen];omega) (by have:=hn.k;simp only[fW,maxLen];omega)
 have hvB:=V3 (l:=jY (fW n.k)) hZ.ok;have uU:(br (gL Z (jY (fW n.k)))).length<=10000:=by rw[gZ];omega
 have Th:∀v∈br (gL Z (jY (fW n.k))),Ζ v<=10000:=λv hv=>aev (hvB.2 v ((vi eT).1 hv)) z12
 have Uu:=λ(tl:Tok)(O':VH)=>akS (jB M i n) .av (br (gL Z (jY (fW n.k)))) tl O' asC uU Th
 have LS:Fk Z (jB M i n) (fW n.k)=if(jB M i n).1=Α then(if(ux ((br (gL Z (jY (fW n.k)))).filter (nL (jB M i n) ·))).2=Α then φ (ux ((br (gL Z (jY (fW n.k)))).filter (nL (jB M i n) ·))).1 else Β)else φ (jB M i n).2.1:=rfl
 generalize ux ((br (gL Z (jY (fW n.k)))).filter (nL (jB M i n) ·))=HF at*;obtain⟨u1,u2⟩:=HF;dsimp only at LS Uu;generalize Fk Z (jB M i n) (fW n.k)=PG at*;generalize br (gL Z (jY (fW n.k)))=VS at*;have anr:Ra S i (fW n.k)=zr S.1 (λj=>(S.2.getD j []).any (FW · (fW n.k))) (i+1) i:=rfl
 have ans:Ak S i (fW n.k)=zr S.1 (λj=>match S.1[j]? with
   | none=>γ
   | some b=>fW b.k==fW n.k) (i+1) i:=rfl
 rw[<-anr]at hex;rw[<-ans]at Rc;clear anr ans;have Dk:=kF i b hb
 have w8:∀v w,Ups (S.1++[⟨i,b.dp+1,od,n.k,v,w,rM M i b n,Ak S i (fW n.k)⟩]):=by
  intro v w j c hj;rw[List.getElem?_append]at hj;split at hj;exact kF j c hj;rename_i J_;have:=List.mem_of_getElem? hj;rw[alp]at this;subst this;dsimp only;omega
 have IU:=hn;generalize rM M i b n=sc at*;generalize jB M i n=WR at*;obtain⟨w1,w2,w3⟩:=WR;generalize Ra S i (fW n.k)=ex at*;generalize Ak S i (fW n.k)=rd at*;obtain⟨⟨k1,k2,k3,k4⟩,⟨r1,r2,r3⟩,s,o,x⟩:=n;obtain⟨g1,g2,g3⟩:=g;dsimp only at w8 LS ⊢;have hux:de [MV.l (Ζ x) (x.flatMap cI) .av]=[MV.l (Ζ x) (x.flatMap cI) .av]:=by simpa[Ch]using VY [x]
 simp only[eK,iL,jo,aS,cI,fW,aq,bg,Ro,TR]at hsc Lm XI hex Rc gK Df nP Uu qO ⊢;refine ω 126 [.cell 8 34] func27 ?_;refine κ aH ?_;refine VC.gen ?_;intro O1 e1;obtain⟨aM,dq,hA1,sO,hC1⟩:=yB _ _ _ e1;clear e1;refine ξ aH sO ?_;refine π (XI O1) ?_;rintro _ O2 ⟨rfl,ax⟩;have ei:=aM.trans ax;have eG:=ax.N;refine ae aH ?_;refine VC.al ?_;rintro O3 ⟨aB,hX3,ea⟩;have dk:=ei.trans aB;have hA3:=(ax.trans aB).at hA1;have DB:=(ax.trans aB).at sO;have hC3:=(ax.trans aB).at hC1;refine θ (aF aH hA3 DB ?_);refine π (hsc O3 dk) ?_;rintro _ O4 ⟨rfl,aV⟩;have jk:=dk.trans aV;have fe:=aV.N;have hA4:=aV.at hA3;have Ds:=aV.at DB;have hC4:=aV.at hC3;have jU:=aV.at hX3;refine ae aH ?_;refine ξ aH hA4 ?_;refine π (hex O4 jk O.N O2.N hA4 jU Λ Λ) ?_;rintro _ O5 ⟨rfl,bB⟩;have mA:=jk.trans bB;have ie:=bB.N;have hA5:=bB.at hA4;have yh:=bB.at Ds;have hC5:=bB.at hC4;have hX5:=bB.at jU;clear aM ax aB aV bB hA1 hA3 hA4 sO DB Ds hC1 hC3 hC4 hX3 jU ei dk jk;refine ae aH ?_;have h5:=h.ge mA;have asD:=mA.N;have tV:=h5.cell;simp only[aS,Ro,TR]at tV
 have aiL:∀X,q_ (O5.set (O.N+2) X) tb k bb mm ⟨g1,g2,g3⟩ M S t1 t2 B/\O.N<=(O5.set (O.N+2) X).N/\∀j,j<O.N->j≠tb->Tok.id t1≠φ j->Tok.id t2≠φ j->(O5.set (O.N+2) X).hp j=O.hp j:=λX=>
  ⟨h.ge (mA.set Λ X),asD,λj h1 _ _ _=>Θ (mA.hp j h1)⟩
 have atZ:(.agg [.v (Ι Κ 0),.s [],.s [],.s [],.v (Ι Κ 0),.v (Ι Κ 0),.v (Ι Κ 0),.s []]:MV)= .agg (gV ja):=rfl;by_cases gN:sc=0
 ·have e1:(sc==0)=Α:=by simpa using gN
  rw[if_pos (.inl gN)];refine θ (aF aH e1 hC5 ?_);exact⟨rfl,t1,t2,aiL _⟩
 have e1:(sc==0)=γ:=by simpa using gN
 cases ex;rotate_left;rw[if_pos (.inr rfl)];refine θ (aF aH e1 hC5 ?_);exact⟨rfl,t1,t2,aiL _⟩;rw[if_neg (by rintro(h | h);exact gN h;cases h)];by_cases fz:4096<=Ζ S.1;have e2:decide (Ζ S.1>=(4096:Int))=Α:=decide_eq_true Λ;have e3:decide ((4096:Int)<=Ζ S.1)=Α:=decide_eq_true Λ;rw[if_pos fz];refine θ (SO aH e1 e2 e3 hA5 tV hC5 ?_);exact⟨rfl,mA.set Λ _⟩;rw[if_neg fz];have e2:decide (Ζ S.1>=(4096:Int))=γ:=decide_eq_false Λ;have e3:decide ((4096:Int)<=Ζ S.1)=γ:=decide_eq_false Λ;refine θ (SO aH e1 e2 e3 hA5 tV hC5 ?_);refine Ξ [1,4,7,8,9,12] (λnb:Nat=>[mi i,.p O.N 0,.p (O.N+1) 0,.p (O.N+2) 0,.p O2.N 0,.p nb 0]) (λnb O'=>O5.Ge O'/\O5.N<=nb/\nb<O'.N/\O'.hp nb=φ (.cells [.v (Ι Κ i),.v (Ι Κ (b.dp+1)),.v (Ι Κ od),.s k1,.s k2,.s k3,.s k4,.s [],.v (.bool w1),.s w2,.l (Ζ w3) (w3.flatMap fy) .av,.v (Ι Κ sc),.v (.bool γ)])) ?_ ?_
 ·have at0:tb≠O.N+1:=Λ
  obtain⟨J,hJ⟩:∃J:VH->Prop,∀O',J O' ↔ (O'.hp tb=O5.hp tb/\O'.hp O.N=O5.hp O.N/\O.Ge O'/\O5.N<=O'.N/\∀j,j<O5.N->j≠O.N+1->O'.hp j=O5.hp j):=⟨_,λ_=>Iff.rfl⟩
  refine VC.tB [20] (O.N+1) (J) (yh) (λX=>(hJ _).2 ⟨VH.sx,VH.sx,mA.set Λ _,Rn _,λj _ h=>τ _ _ h⟩) ?_;intro X
  have jH:∀A B:VH,A.Ge B->(A.hp (O.N+1)=φ (.obj X)/\J A)->(B.hp (O.N+1)=φ (.obj X)/\J B):=λA B g h=>by
   have h2:=(hJ _).1 h.2;exact⟨g.at h.1,(hJ _).2 ⟨g.at h2.1,g.at h2.2.1,h2.2.2.1.trans g,aev h2.2.2.2.1 g.N,λj h3 h4=>g.at (h2.2.2.2.2 j h3 h4)⟩⟩
  refine ρ 0 aH ?_;refine δ (m:=.p tb 0) 1 ?_ ?_;rintro O2 ⟨i0,i1⟩;exact dT aH (((hJ _).1 i1).2.1.trans hA5);simp only[ag];refine ρ 2 aH ?_;refine ρ 3 aH ?_;refine ρ 5 aH ?_;refine ρ 10 aH ?_;refine ρ 11 aH ?_;refine ε (m:=.agg [.s k1,.s k2,.s k3,.s k4]) 12 (λ_ h=>h.1) (λ_ h=>h) ?_ ?_;exact ez aH;simp only[ag];refine δ (m:=.p tb 0) 13 ?_ ?_;rintro O2 ⟨i0,i1⟩;exact dT aH (((hJ _).1 i1).2.1.trans hA5);simp only[ag];refine ρ 14 aH ?_;refine ε (m:=.agg [.s k1,.s k2,.s k3,.s k4,.v (.bool r1),.s r2,.l (Ζ r3) (r3.flatMap fy) .av,.v (Ι Κ s),.v (.bool o),.l (Ζ x) (x.flatMap cI) .av]) 15 (λ_ h=>h.1) (λ_ h=>h) ?_ ?_;exact ez aH;simp only[ag];refine ρ 17 aH ?_;have LU:(O5.set (O.N+1) (.obj X)).hp (O.N+1)=φ (.obj X)/\J (O5.set (O.N+1) (.obj X)):=⟨υ _ _ _,(hJ _).2 ⟨VH.sx,VH.sx,mA.set Λ _,Rn _,λj _ h=>τ _ _ h⟩⟩;have nO7:(O5.set (O.N+1) (.obj X)).N=O5.N:=rfl;generalize O5.set (O.N+1) (.obj X)=O7 at*;refine ab.meet [4,6,7,8,9,16,18,19] [1,4,7,8,9,12,63] (λnb:Nat=>[mi i,.p O.N 0,.p (O.N+1) 0,.p (O.N+2) 0,.p O2.N 0,.p nb 0,.agg [.v (Ι Κ i),.v (Ι Κ (b.dp+1)),.v (Ι Κ od),.s k1,.s k2,.s k3,.s k4,.s [],.v (.bool w1),.s w2,.l (Ζ w3) (w3.flatMap fy) .av,.v (Ι Κ sc),.v (.bool γ)]]) (λnb O'=>(O'.hp (O.N+1)=φ (.obj X)/\J O')/\O5.N<=nb/\nb<O'.N/\O'.hp nb=φ (.cells ZJ)) 1 ?_ ?_;rotate_left;rintro nb O9 ⟨LK,asE,ahm,Qv⟩;have Za:=Qv;have Ek:=LK;have TF:=((hJ _).1 Ek.2).2.2.2.1;have ant:=aiJ yh (show nb≠O.N+1 by omega) Za;refine ab.tC [(20,.one)] ?_;simp only[ZJ]at Za ant;refine aF aH Za ant ?_;refine aE.mk nb ⟨⟨by show O5.N<=O9.N;omega,λj h1=>?_⟩,Λ,by show nb<O9.N;omega,υ _ _ _⟩;rw[VH.sx];by_cases e:j=O.N+1;subst e;rw[υ];exact yh.symm;rw[τ _ _ e];exact((hJ _).1 Ek.2).2.2.2.2 j h1 e;intro K8;refine ab.am0 (i:=4) (j:=16) (k:=19) ?_ ?_ ?_;have jt:=((hJ _).1 LU.2).1.trans tV;refine aQ.o1 ?_;refine ak aH jt ?_;refine⟨LU,?_⟩;refine ρ 6 aH ?_;refine ρ 7 aH ?_;refine δ (m:=.v (Ι Κ b.dp)) 8 ?_ ?_;rintro O2 ⟨i0,i1⟩;exact dT aH Df;simp only[ag];refine ρ 9 aH ?_;refine auS (i:=16) (j:=19) ?_ ?_;refine aQ.iH (Lm O7 ((hJ _).1 LU.2).2.2.1) ?_;rintro _ ZL ⟨rfl,V5⟩;simp only[ag];have zu:=jH _ _ V5 LU;have asF:=V5.N;refine⟨zu,?_⟩;refine ρ 18 aH ?_;refine ab.op (i:=19) ?_;refine ae aH ?_;obtain⟨anu,Ki,Kj,Kk,aiM⟩:=DY ZL (.cells ZJ);rw[Ki];have pS:=jH _ _ Kj zu;refine⟨by first | exact pS | exact⟨zu.1,pS.2⟩,?_⟩;exact K8 (ZL.N) _ _ _ ⟨pS,Λ,Λ,Kk⟩ z11 rfl;refine aQ.o1 ?_;refine ae aH ?_;obtain⟨O7a,aiN,aiO,abG,asG⟩:=DY O7 (.cells ZJ);rw[aiN];have vy:=jH _ _ aiO LU;refine⟨by first | exact vy | exact⟨LU.1,vy.2⟩,?_⟩;refine ab.call (i:=16) (Lm O7a ((hJ _).1 vy.2).2.2.1) ?_;rintro _ anv ⟨rfl,sH⟩;simp only[ag];have uz:=jH _ _ sH vy;have aiP:=sH.N;refine⟨uz,?_⟩;have Kl:=sH.at abG;refine ρ 18 aH ?_;exact K8 (O7.N) _ _ _ ⟨uz,Λ,Λ,Kl⟩ z11 rfl;refine aQ.iH (Lm O7 ((hJ _).1 LU.2).2.2.1) ?_;rintro _ ZL ⟨rfl,V5⟩;simp only[ag];have zu:=jH _ _ V5 LU;have asF:=V5.N;refine⟨zu,?_⟩;refine auS (i:=4) (j:=19) ?_ ?_;have jt:=((hJ _).1 zu.2).1.trans tV;refine aQ.o1 ?_;refine ak aH jt ?_;refine⟨zu,?_⟩;refine ρ 6 aH ?_;refine ρ 7 aH ?_;refine δ (m:=.v (Ι Κ b.dp)) 8 ?_ ?_;rintro O2 ⟨i0,i1⟩;exact dT aH Df;simp only[ag];refine ρ 9 aH ?_;refine ρ 18 aH ?_;refine ab.op (i:=19) ?_;refine ae aH ?_;obtain⟨anu,Ki,Kj,Kk,aiM⟩:=DY ZL (.cells ZJ);rw[Ki];have pS:=jH _ _ Kj zu;refine⟨by first | exact pS | exact⟨zu.1,pS.2⟩,?_⟩;exact K8 (ZL.N) _ _ _ ⟨pS,Λ,Λ,Kk⟩ z11 rfl;refine aQ.o1 ?_;refine ae aH ?_;obtain⟨anu,Ki,Kj,Kk,aiM⟩:=DY ZL (.cells ZJ);rw[Ki];have pS:=jH _ _ Kj zu;refine⟨by first | exact pS | exact⟨zu.1,pS.2⟩,?_⟩;have jt:=((hJ _).1 pS.2).1.trans tV;refine ab.op (i:=4) ?_;refine ak aH jt ?_;refine⟨pS,?_⟩;refine ρ 6 aH ?_;refine ρ 7 aH ?_;refine δ (m:=.v (Ι Κ b.dp)) 8 ?_ ?_;rintro O2 ⟨i0,i1⟩;exact dT aH Df;simp only[ag];refine ρ 9 aH ?_;refine ρ 18 aH ?_;exact K8 (ZL.N) _ _ _ ⟨pS,Λ,Λ,Kk⟩ z11 rfl;refine aQ.o1 ?_;refine ae aH ?_;obtain⟨O7a,aiN,aiO,abG,asG⟩:=DY O7 (.cells ZJ);rw[aiN];have vy:=jH _ _ aiO LU;refine⟨by first | exact vy | exact⟨LU.1,vy.2⟩,?_⟩;refine auS (i:=4) (j:=16) ?_ ?_;have jt:=((hJ _).1 vy.2).1.trans tV;refine aQ.o1 ?_;refine ak aH jt ?_;refine⟨vy,?_⟩;refine ρ 6 aH ?_;refine ρ 7 aH ?_;refine δ (m:=.v (Ι Κ b.dp)) 8 ?_ ?_;rintro O2 ⟨i0,i1⟩;exact dT aH Df;simp only[ag];refine ρ 9 aH ?_;refine ab.call (i:=16) (Lm O7a ((hJ _).1 vy.2).2.2.1) ?_;rintro _ anv ⟨rfl,sH⟩;simp only[ag];have uz:=jH _ _ sH vy;have aiP:=sH.N;refine⟨uz,?_⟩;have Kl:=sH.at abG;refine ρ 18 aH ?_;exact K8 (O7.N) _ _ _ ⟨uz,Λ,Λ,Kl⟩ z11 rfl;refine aQ.iH (Lm O7a ((hJ _).1 vy.2).2.2.1) ?_;rintro _ anv ⟨rfl,sH⟩;simp only[ag];have uz:=jH _ _ sH vy;have aiP:=sH.N;refine⟨uz,?_⟩;have Kl:=sH.at abG;have jt:=((hJ _).1 uz.2).1.trans tV;refine ab.op (i:=4) ?_;refine ak aH jt ?_;refine⟨uz,?_⟩;refine ρ 6 aH ?_;refine ρ 7 aH ?_;refine δ (m:=.v (Ι Κ b.dp)) 8 ?_ ?_;rintro O2 ⟨i0,i1⟩;exact dT aH Df;simp only[ag];refine ρ 9 aH ?_;refine ρ 18 aH ?_;exact K8 (O7.N) _ _ _ ⟨uz,Λ,Λ,Kl⟩ z11 rfl
 rintro nb O6 ⟨dU,asE,ahm,kH⟩;have aaX:=mA.trans dU;have mQ:=dU.N;refine ξ aH kH ?_;refine VC.gen ?_;intro O7 e7;have yp:O7.hp nb=φ (.cells [.v (Ι Κ i),.v (Ι Κ (b.dp+1)),.v (Ι Κ od),.s k1,.s k2,.s k3,.s k4,.s w2,.v (.bool w1),.s w2,.l (Ζ w3) (w3.flatMap fy) .av,.v (Ι Κ sc),.v (.bool γ)]):=by rw[e7];exact υ _ _ _
 have xx:∀j,j≠nb->O7.hp j=O6.hp j:=λj hj=>by rw[e7];exact τ _ _ hj
 have sk:O7.N=O6.N:=by rw[e7];rfl
 have wS:O.Ge O7:=by rw[e7];exact aaX.set Λ _
 clear e7;have hA7:=(xx _ Λ).trans (dU.at hA5);have Lq:=(xx _ Λ).trans (dU.at yh);have hC7:=(xx _ Λ).trans (dU.at hC5);have hX7:=(xx _ Λ).trans (dU.at hX5);have HA:=(h.ge wS).cell;simp only[aS,Ro,TR]at HA;have at1:=h.lt;have at2:=wS.N;refine Ξ [1,4,7,8,9,12] (λ_:Bs=>[mi i,.p O.N 0,.p (O.N+1) 0,.p (O.N+2) 0,.p O2.N 0,.p nb 0]) (λv O'=>PG=φ v/\O7.N<=O'.N/\O'.hp nb=φ (.cells [.v (Ι Κ i),.v (Ι Κ (b.dp+1)),.v (Ι Κ od),.s k1,.s k2,.s k3,.s k4,.s v,.v (.bool w1),.s w2,.l (Ζ w3) (w3.flatMap fy) .av,.v (Ι Κ sc),.v (.bool γ)])/\∀j,j<O7.N->j≠nb->O'.hp j=O7.hp j) ?_ ?_
 ·cases w1;rw[if_neg z12]at LS;refine ο aH yp ?_;exact aE.mk w2 ⟨LS,Rn _,yp,λ_ _ _=>rfl⟩;rw[if_pos rfl]at LS;refine ο aH yp ?_;(obtain⟨J,hJ⟩:∃J:VH->Prop,∀O',J O' ↔ (O.Ge O'/\O7.N<=O'.N/\∀j,j<O7.N->j≠nb->O'.hp j=O7.hp j):=⟨_,λ_=>Iff.rfl⟩);refine VC.tB [9,10,11,12,13] (nb) (J) (yp) (λX=>(hJ _).2 ⟨wS.set Λ _,Rn _,λj _ h=>τ _ _ h⟩) ?_;intro X
  have jH:∀A B:VH,A.Ge B->(A.hp nb=φ (.obj X)/\J A)->(B.hp nb=φ (.obj X)/\J B):=λA B g h=>by
   have h2:=(hJ _).1 h.2;exact⟨g.at h.1,(hJ _).2 ⟨h2.1.trans g,aev h2.2.1 g.N,λj h3 h4=>g.at (h2.2.2 j h3 h4)⟩⟩
  have hJx:∀O',J O'->O'.hp O2.N=φ (.cells [.s k1,.s k2]):=λO' i1=>(((hJ _).1 i1).2.2 O2.N Λ Λ).trans hX7
  refine ρ 0 aH ?_;refine ε (m:=.agg [.v (.bool Α),.s w2,.l (Ζ w3) (w3.flatMap fy) .av]) 1 (λ_ h=>h.1) (λ_ h=>h) ?_ ?_;exact ez aH;simp only[ag];refine δ (m:=.p tb 0) 2 ?_ ?_;rintro O2 ⟨i0,i1⟩;exact dT aH ((((hJ _).1 i1).2.2 O.N Λ Λ).trans hA7);simp only[ag];refine ρ 3 aH ?_;refine ρ 4 aH ?_;refine δ (m:=.p k 0) 5 ?_ ?_;rintro O2 ⟨i0,i1⟩;exact dT aH ((((hJ _).1 i1).2.2 tb Λ Λ).trans HA);simp only[ag];refine δ (m:=.agg [.s k1,.s k2]) 6 ?_ ?_;rintro O2 ⟨i0,i1⟩;exact dT aH (hJx _ i1);simp only[ag];have jO8:(O7.set nb (.obj X)).hp nb=φ (.obj X)/\J (O7.set nb (.obj X)):=⟨υ _ _ _,(hJ _).2 ⟨wS.set Λ _,Rn _,λj _ h=>τ _ _ h⟩⟩;generalize O7.set nb (.obj X)=O8 at*;refine ab.call (i:=7) (nP O8 ((hJ _).1 jO8.2).1) ?_;rintro _ O9 ⟨⟨tv,rfl⟩,s9⟩;have LK:=jH _ _ s9 jO8;simp only[ag];refine⟨LK,?_⟩;refine ab.call (i:=8) (Uu tv O9) ?_;rintro _ fb ⟨rfl,s10⟩;have aiQ:=jH _ _ s10 LK;simp only[ag];refine⟨aiQ,?_⟩;have abH:=(hJ _).1 aiQ.2;obtain⟨j9,Re,N0,lR,wQ,N9⟩:=apz yp abH.1 abH.2.1 abH.2.2 Λ;refine ab.tC [(9,.au),(10,.au),(11,.au),(12,.au),(13,.au)] ?_;rw[Re];clear Re;refine ae aH ?_;cases u2;rotate_left;rw[if_pos rfl]at LS;refine ak aH N0 ?_;exact aE.mk u1 ⟨LS,wQ,υ _ _ _,λj h1 h2=>(τ _ _ h2).trans (lR j h1 h2)⟩;rw[if_neg z12]at LS;rw[LS];have Km:=(lR tb Λ Λ).trans HA;have asH:=(lR O.N Λ Λ).trans hA7;have asI:=(lR (O.N+1) Λ Λ).trans Lq;have V6:=(lR (O.N+2) Λ Λ).trans hC7;have ca:=bY dY S.1 i abE;rw[show S.1[i]=b from(ahB.1 hb).2]at ca;((have abI:∀j,j<O.N->j9.hp j=O7.hp j:=λj hj=>lR j Λ Λ);clear lR N0 abH jO8 LK aiQ s9 s10 jH hJx hJ J;simp only[ij,iL,jo,aS,zq,aq,bg,Ro,TR]at ca ZK;refine ae aH ?_;obtain⟨J,hJ⟩:∃J:VH->Prop,∀O',J O' ↔ (j9.N<=O'.N/\∀j,j<j9.N->j≠tb->O'.hp j=j9.hp j):=⟨_,λ_=>Iff.rfl⟩);refine VC.tB [11,12] (tb) (J) (Km) (λX=>(hJ _).2 ⟨Rn _,λj _ h=>τ _ _ h⟩) ?_;intro X
  have jH:∀A B:VH,A.Ge B->(A.hp tb=φ (.obj X)/\J A)->(B.hp tb=φ (.obj X)/\J B):=λA B g h=>by
   have h2:=(hJ _).1 h.2;exact⟨g.at h.1,(hJ _).2 ⟨aev h2.1 g.N,λj h3 h4=>g.at (h2.2 j h3 h4)⟩⟩
  refine δ (m:=.p tb 0) 0 ?_ ?_;rintro O2 ⟨i0,i1⟩;exact dT aH ((((hJ _).1 i1).2 O.N Λ Λ).trans asH);simp only[ag];refine ρ 1 aH ?_;refine ρ 2 aH ?_;refine ε (m:=.l (Ζ S.1) (S.1.flatMap ij) t1) 3 (λ_ h=>h.1) (λ_ h=>h) ?_ ?_;exact ez aH;simp only[ag];refine ρ 4 aH ?_;refine ρ 5 aH ?_;refine ρ 8 aH ?_;refine δ (m:=.agg [.s k1,.s k2,.s k3,.s k4]) 9 ?_ ?_;rintro O2 ⟨i0,i1⟩;exact dT aH ((((hJ _).1 i1).2 (O.N+1) Λ Λ).trans asI);simp only[ag];have VM:(j9.set tb (.obj X)).hp tb=φ (.obj X)/\J (j9.set tb (.obj X)):=⟨υ _ _ _,(hJ _).2 ⟨Rn _,λj _ h=>τ _ _ h⟩⟩;generalize j9.set tb (.obj X)=A0 at*;refine ab.op (i:=6) ?_;refine ak aH ca ?_;refine⟨VM,?_⟩;refine ab.call (i:=7) (ZK A0) ?_;rintro _ A1 ⟨rfl,sA1⟩;simp only[ag];have jA1:=jH _ _ sA1 VM;refine⟨jA1,?_⟩;refine ab.call (i:=10) (qO A1) ?_;rintro _ A2 ⟨rfl,sA2⟩;simp only[ag];have jA2:=jH _ _ sA2 jA1;refine⟨jA2,?_⟩;have hz:=(hJ _).1 jA2.2;have hzn:=hz.1;have hzC:=(hz.2 (O.N+2) Λ Λ).trans V6;refine ab.tC [(11,.au),(12,.one)] ?_;refine ak aH hzC ?_;refine⟨rfl,⟨by show O.N<=A2.N;omega,λj hj=>?_⟩⟩;rw[VH.sx];by_cases e:j=tb;subst e;rw[υ];exact gK.symm;rw[τ _ _ e];exact(hz.2 j Λ e).trans ((abI j Λ).trans (wS.hp j hj))
 rintro v P7 ⟨hPG,at3,Vd,OI⟩;rw[hPG];dsimp only;have ZM:O.Ge P7:=⟨Λ,λj hj=>(OI j Λ Λ).trans (wS.hp j hj)⟩;have abJ:=(OI _ Λ Λ).trans hA7;have anw:=(OI _ Λ Λ).trans Lq;have anx:=(OI _ Λ Λ).trans hC7;have ah0:=(OI _ Λ Λ).trans hX7;clear hA5 yh hC5 hX5 hA7 Lq hC7 hX7 kH yp xx OI wS aaX dU HA hex hsc Lm XI nP Uu qO ZK LS;refine ξ aH abJ ?_;refine π (Rc P7 ZM O.N O2.N abJ ah0 Λ Λ) ?_;rintro _ O8 ⟨rfl,gR⟩;have Ar:=gR.N;have yf:=gR.at Vd;refine ak aH yf ?_;refine VC.gen ?_;intro O9 e9;have kK:O9.hp nb=φ (.cells [.v (Ι Κ i),.v (Ι Κ (b.dp+1)),.v (Ι Κ od),.s k1,.s k2,.s k3,.s k4,.s v,.v (.bool w1),.s w2,.l (Ζ w3) (w3.flatMap fy) .av,.v (Ι Κ sc),.v (.bool rd)]):=by rw[e9];exact υ _ _ _
 have E5:∀j,j≠nb->O9.hp j=O8.hp j:=λj hj=>by rw[e9];exact τ _ _ hj
 have yP:O9.N=O8.N:=by rw[e9];rfl
 have vm:O.Ge O9:=by rw[e9];exact(ZM.trans gR).set Λ _
 clear e9;have hA9:=(E5 _ Λ).trans (gR.at abJ);have hB9:=(E5 _ Λ).trans (gR.at anw);have hC9:=(E5 _ Λ).trans (gR.at anx);clear abJ anw anx ah0 Vd yf E5 ZM gR Rc;have h9:=h.ge vm;have HB:=h9.cell;simp only[aS,Ro,TR]at HB;have cQ:=bE (tk:=t1) (tk':=.full) (n:=Ζ S.1) (k:=1) (cs:=S.1.flatMap ij) (ds:=[.v (Ι Κ i),.v (Ι Κ (b.dp+1)),.v (Ι Κ od),.s k1,.s k2,.s k3,.s k4,.s v,.v (.bool w1),.s w2,.l (Ζ w3) (w3.flatMap fy) .av,.v (Ι Κ sc),.v (.bool rd)]) T29 T44.1.1 h9.a1 abF;have kJ:∀j,j<O9.N->O9.hp j≠φ .tok->(O9.after t1).hp j=O9.hp j:=λj h1 h2=>App.off h9.a1 h1 h2
 have J6:=(kJ tb Λ (by rw[HB];simp)).trans HB;refine Δ ?_;refine WC.bM (.held [10]) [(0,.rd),(1,.rd),(2,.rd),(3,.rd),(4,.rd),(5,.rd),(6,.one),(7,.one),(8,.one),(9,.rd),(10,.one)] ?_;refine bo aH hA9 HB kK ?_;refine VL.app cQ ?_;refine ak aH J6 ?_
 have hN:(S.1.flatMap ij++[.v (Ι Κ i),.v (Ι Κ (b.dp+1)),.v (Ι Κ od),.s k1,.s k2,.s k3,.s k4,.s v,.v (.bool w1),.s w2,.l (Ζ w3) (w3.flatMap fy) .av,.v (Ι Κ sc),.v (.bool rd)]:Η)=(S.1++[(⟨i,b.dp+1,od,⟨k1,k2,k3,k4⟩,v,(w1,w2,w3),sc,rd⟩:Br)]).flatMap ij:=by
  rw[apE,List.flatMap_singleton];rfl
 have hNl:Ζ S.1+1=(S.1++[(⟨i,b.dp+1,od,⟨k1,k2,k3,k4⟩,v,(w1,w2,w3),sc,rd⟩:Br)]).length:=by simp
 rw[hN];have Fb:=dR.after h9.a1;have YY:(O9.after t1).N=O9.N+1:=VH.fL _ _;have hAp:App (O9.after t1) B 13 (.own O9.N 13):=App.after (by have:=vm.N;omega);have asJ:App (O9.after t1) B 1 t2:=Fb.app h9.a2 hne;refine VC.gen ?_;intro fb P_;have wQ:fb.N=O9.N+1:=by rw[P_];exact YY
 have Kn:fb.hp tb=φ (.cells [.p k 0,.p bb 0,.s g1,.s g2,.s g3,.map mm,.l (Ζ S.1+1) ((S.1++[(⟨i,b.dp+1,od,⟨k1,k2,k3,k4⟩,v,(w1,w2,w3),sc,rd⟩:Br)]).flatMap ij) (.own O9.N 13),.l (Ζ S.2) (S.2.flatMap Ch) t2]):=by rw[P_];exact υ _ _ _
 have lR:∀j,j≠tb->fb.hp j=(O9.after t1).hp j:=λj hj=>by rw[P_];exact τ _ _ hj
 have Zf:App fb B 13 (.own O9.N 13):=by rw[P_];exact hAp.iV (by rw[J6];simp)
 have ZN:App fb B 1 t2:=by rw[P_];exact asJ.iV (by rw[J6];simp)
 clear P_;have asK:=(lR _ Λ).trans ((kJ _ Λ (by rw[hA9];simp)).trans hA9);have aiR:=(lR _ Λ).trans ((kJ _ Λ (by rw[hB9];simp)).trans hB9);have anz:=(lR _ Λ).trans ((kJ _ Λ (by rw[hC9];simp)).trans hC9);have w6:=bE (tk:=t2) (tk':=.full) (n:=Ζ S.2) (k:=1) (cs:=S.2.flatMap Ch) (ds:=[.l (Ζ x) (x.flatMap cI) .av]) alD SQ ZN Ei;have aiS:∀j,j<fb.N->fb.hp j≠φ .tok->(fb.after t2).hp j=fb.hp j:=λj h1 h2=>App.off ZN h1 h2
 have V7:=(aiS tb Λ (by rw[Kn];simp)).trans Kn;refine Δ ?_;refine WC.bM (.held [11]) [(0,.rd),(1,.rd),(2,.rd),(3,.rd),(4,.rd),(5,.rd),(6,.rd),(7,.one),(8,.one),(9,.one),(10,.rd),(11,.one)] ?_;refine bo aH asK Kn aiR ?_;refine VL.app w6 ?_;refine ak aH V7 ?_
 have hX:(S.2.flatMap Ch++[.l (Ζ x) (x.flatMap cI) .av]:Η)=(S.2++[x]).flatMap Ch:=by
  rw[apE,List.flatMap_singleton];rfl
 rw[hX];have hKB:=dR.after ZN;have ZE:(fb.after t2).N=fb.N+1:=VH.fL _ _;have hBp:App (fb.after t2) B 1 (.own fb.N 1):=App.after (by have:=vm.N;omega)
 have asL:App (fb.after t2) B 13 (.own O9.N 13):=hKB.app Zf (λj h1 h2=>by
  injection h2 with h2;subst h2;have:=(App.iM h9.a2 h1).2;omega)
 refine VC.gen ?_;intro j9 Re;have M5:j9.N=fb.N+1:=by rw[Re];exact ZE
 have Km:j9.hp tb=φ (.cells [.p k 0,.p bb 0,.s g1,.s g2,.s g3,.map mm,.l (Ζ S.1+1) ((S.1++[(⟨i,b.dp+1,od,⟨k1,k2,k3,k4⟩,v,(w1,w2,w3),sc,rd⟩:Br)]).flatMap ij) (.own O9.N 13),.l (Ζ S.2+1) ((S.2++[x]).flatMap Ch) (.own fb.N 1)]):=by rw[Re];exact υ _ _ _
 have abI:∀j,j≠tb->j9.hp j=(fb.after t2).hp j:=λj hj=>by rw[Re];exact τ _ _ hj
 have apA:App j9 B 13 (.own O9.N 13):=by rw[Re];exact asL.iV (by rw[V7];simp)
 have apB:App j9 B 1 (.own fb.N 1):=by rw[Re];exact hBp.iV (by rw[V7];simp)
 clear Re;have V6:=(abI _ Λ).trans ((aiS _ Λ (by rw[anz];simp)).trans anz);refine ξ aH V6 ?_;refine ν aH ?_
 have aY:∀j,j<O.N->j≠tb->Tok.id t1≠φ j->Tok.id t2≠φ j->j9.hp j=O.hp j:=λj h1 h2 h3 h4=>by
  rw[abI j h2,hKB.hp j (by have:=vm.N;omega) h4,lR j h2,Fb.hp j (by have:=vm.N;omega) h3,vm.hp j h1]
 have hmm:mm≠tb:=λe=>bI.2.2 e.symm
 have Oq:j9.hp mm=φ (.map (dw MD) cm):=(aY mm bI.2.1 hmm (λe=>by have:=App.tok eo e;rw[L3]at this;cases this) (λe=>by have:=App.tok iO e;rw[L3]at this;cases this)).trans L3;have hng:=vm.N;refine⟨rfl,.own O9.N 13,.own fb.N 1,⟨?_,⟨MD,cm,Θ Oq,VZ,nQ⟩,apA.iV (by rw[V6];simp),apB.iV (by rw[V6];simp),?_,?_,?_,w8 v _,h.mr⟩,?_,?_⟩;rw[VH.sx,Km];simp[aS];intro j h1 h2;injection h1 with h1;injection h2 with h2;omega;show tb<j9.N/\mm<j9.N/\tb≠mm;omega;simp[hlen];show O.N<=j9.N;omega;intro j h1 h2 h3 h4;rw[VH.sx];exact aY j h1 h2 h3 h4
structure nZ{α :Type}(F:Except fa α):Prop where
 ne:∀x,F= .error x->x.e≠0
def nZ.ok{α :Type}(y: α):nZ (.ok y:Except fa α):=⟨λx h=>by cases h⟩
def nZ.err{α :Type}{p:fa}(h:p.e≠0):nZ (.error p:Except fa α):=⟨λx e=>by injection e with e;subst e;exact h⟩
def nZ.fp{α β :Type}{F:Except fa α}{k: α ->Except fa β}(h:nZ F)(g:∀y,nZ (k y)):nZ (fp F k):=⟨λx e=>by
 rcases ah2 e with e | ⟨y,_,e⟩;exact h.ne x e;exact(g y).ne x e⟩
def nZ.ite{α :Type}{c:Prop}[Decidable c]{F G:Except fa α}(h:nZ F)(g:nZ G):nZ (if c then F else G):=by split<;>assumption
def DZ(R:eL)(g:Gv)(s w:Bs)(st:cT):nZ (Bh R g s w st):=⟨λx h=>by
 unfold Bh at h;split at h;cases h;rename_i e he;injection h with h;subst h;exact ES he⟩
def Ci(R:eL)(g:Gv)(w s t:Bs)(st:cT):nZ (wv R g w s t st):=.fp (DZ ..) λ_=>.ite (.ok _) (.err z10)
def HC(R:eL)(g:Gv)(s w:Bs)(em:Bool)(st:cT):nZ (QT R g s w em st):=.fp (DZ ..) λ_=>.ite (.ok _) (.err z10)
def ZO(g:Gv)(s w:Bs):nZ (oQ g s w):=⟨λx h=>by
 unfold oQ at h;split at h;cases h;rename_i h0;injection h with h;subst h;exact h0⟩
def Ko(R:eL)(g:Gv)(d:Dp)(w:Bs)(st:cT):nZ (wA R g d w st):=
 .fp (HC ..) λ_=>.fp (HC ..) λ_=>.fp (DZ ..) λ_=>.fp (.ite (.ok _) (ZO ..)) λ_=>.fp (HC ..) λ_=>.fp (HC ..) λ_=>.ok _
def Kq(R:eL)(g:Gv)(bL:List Dp):∀(l:List Dp)(i:Nat)(A:List Dp)(N:List mw)(st:cT),nZ (oR R g bL l i A N st)
 | [],_,_,_,_=>.ok _
 | d::r,i,A,N,st=>by
   rw[oR];exact .fp (Ko ..) λ_=>.ite (.err z10) (Kq R g bL r _ _ _ _)
def Kr(R:eL)(g:Gv):∀(l:List Dp)(i:Nat)(A:List Dp)(V:List (Gv×Bs))(st:cT),nZ (Bj R g l i A V st)
 | [],_,_,_,_=>.ok _
 | d::r,i,A,V,st=>by
   rw[Bj];exact .fp (Ko ..) λ_=>.ite (Kr R g r _ _ _ _) (.ite (.err z10) (Kr R g r _ _ _ _))
def V8{lP:List (Gv×eM)->Gv->Except fa (eM×List (Gv×eM))}(hb:∀mm g,nZ (lP mm g))(g:Gv)(W:List Gv):∀(l:List (Gv×Bs))(A:List Dp)(mm:List (Gv×eM)),nZ (Kb lP g W l A mm)
 | [],_,_=>.ok _
 | x::r,A,mm=>by
   rw[Kb];exact .ite (.err z10) (.ite (.err z10) (.fp (hb _ _) λ_=>V8 hb g W r _ _))
def Rf{lP:List (Gv×eM)->Gv->Except fa (eM×List (Gv×eM))}(hb:∀mm g,nZ (lP mm g))(R:eL)(g:Gv)(W:List Gv)(l:List Dp)(st:cT)(mm:List (Gv×eM)):nZ (vx lP R g W l st mm):=
 .fp (Kr ..) λ_=>.fp (V8 hb ..) λ_=>.ite (.err z10) (.ok _)
def V9(R:eL):∀(l P:List (Bs×Bs))(st:cT)(e:yV),qz R l P st= .error e->e.1≠0
 | [],P,st,e,h=>by rw[qz]at h;cases h
 | x::l,P,st,e,h=>by
   rw[qz]at h;split at h;rename_i hx;injection h with h;subst h;exact Ag _ _ _ _ _ hx;exact V9 R l _ _ e h
def aiT(R:eL)(g:Gv)(L:List (Bs×Bs))(st:cT):nZ (abr R g L st):=⟨λx h=>by
 unfold abr at h;split at h;cases h;rename_i he;injection h with h;subst h;exact V9 _ _ _ _ _ he⟩
def ZP{lP:List (Gv×eM)->Gv->Except fa (eM×List (Gv×eM))}(hb:∀mm g,nZ (lP mm g))(mm:List (Gv×eM))(g:Gv)(W:List Gv)(p:Pm)(T:List (Bs×Bs)×eL×Nat):nZ (Hz lP mm g W p T):=
 .fp (Ci ..) λ_=>.fp (Ci ..) λ_=>.fp (Ci ..) λ_=>.fp (DZ ..) λ_=>.ite (.err z10) (.fp (aiT ..) λ_=>.fp (Rf hb ..) λ_=>.fp (Kq ..) λ_=>.ok _)
def Cj(Z:List (Gv×Bs)):∀(n:Nat)(mm:List (Gv×eM))(g:Gv)(W:List Gv),nZ (my Z n mm g W)
 | 0,_,_,_=>.err z10
 | n+1,mm,g,W=>by
   rw[my];split;exact .ok _;exact .fp ⟨λx h=>Gf h⟩ λ_=>ZP (λmm g'=>Cj Z n mm g' _) ..
def OJ(Z:List (Gv×Bs))(g:Gv)(M:List Dp)(S:j_)(i:Nat)(b:Br)(od:Nat)(n:mw):nZ (pR Z g M S i b od n):=by
 unfold pR;refine .ite (.ok _) (.ite (.err (by simp[aiI])) ?_);split;exact .err z10;exact .ok _
def mz(Z:List (Gv×Bs))(g:Gv)(M:List Dp)(i:Nat)(b:Br):List mw->Nat->j_->Except fa j_
 | [],_,S=>.ok S
 | n::l,od,S=>fp (pR Z g M S i b od n) λS'=>mz Z g M i b l (od+1) S'
def mW(Z:List (Gv×Bs))(g:Gv):Nat->Nat->List Dp->j_->List (Gv×eM)->Except fa (j_×List (Gv×eM))
 | 0,_,_,S,mm=>.ok (S,mm)
 | f+1,i,M,S,mm=>match S.1[i]? with
   | none=>.ok (S,mm)
   | some b=>if b.rd=Α then mW Z g f (i+1) M S mm else
     fp (my Z 32 mm (zq b) []) λy=>fp (mz Z g (if i=0 then M++y.1.bL else M) i b y.1.Cg 0 S) λS'=>mW Z g f (i+1) (if i=0 then M++y.1.bL else M) S' y.2
def oT(g:Gv):Br:=⟨-1,0,0,⟨g.g,g.a,Bi,[]⟩,g.v,(γ,g.v,[]),0,γ⟩
def uA(Z:List (Gv×Bs))(g:Gv)(mm:List (Gv×eM)):Except fa (j_×List (Gv×eM)):=mW Z g 5000 0 [] ([oT g],[[]]) mm
def Kt(Z:List (Gv×Bs))(g:Gv)(M:List Dp)(i:Nat)(b:Br):∀(l:List mw)(od:Nat)(S:j_),nZ (mz Z g M i b l od S)
 | [],_,_=>.ok _
 | n::l,od,S=>by
   rw[mz];exact .fp (OJ ..) λ_=>Kt Z g M i b l _ _
def Fo(Z:List (Gv×Bs))(g:Gv):∀(f i:Nat)(M:List Dp)(S:j_)(mm:List (Gv×eM)),nZ (mW Z g f i M S mm)
 | 0,_,_,_,_=>.ok _
 | f+1,i,M,S,mm=>by
   rw[mW];split;exact .ok _;exact .ite (Fo Z g f _ _ _ _) (.fp (Cj ..) λ_=>.fp (Kt ..) λ_=>Fo Z g f _ _ _ _)
structure V_(S:j_):Prop where
 l:Ζ S.1<=4096
 g:∀b∈S.1,gG (zq b)
 x:∀y∈S.2,Ζ y<=1000000
 r:∀b∈S.1,DN b.r/\(0<=b.up->Ζ b.v<=10000)
def aep{n:mw}(hM:∀d∈M,rJ d)(hn:Hc n):(jB M i n).2.1.length<=10000:=by
 have h0:Ζ n.r.2.1<=10000:=by
  obtain⟨v,h1,_,h2⟩:=hn.r;rw[h2];have:=(sF v).1;omega
 unfold jB;split;split;rename_i d hd;have h1:=(hM d (Kh hd)).v;have h2:=(sF d.v).1;split;omega;exact h0;exact h0;exact h0
def Wa{r:Rg}{v:Bs}(hZ:∀x∈Z,iq x.1=Α/\(Ζ x.2)<=65536){m:Nat}(BK:64<=m)(hr:Ζ r.2.1<=m)(h:Fk Z r x=φ v):Ζ v<=m:=by
 unfold Fk at h;split at h
 ·split at h
  ·rename_i h2;injection h with h;subst h;have hB:=V3 (l:=jY x) hZ
   have hm:∀l:List Ρ,(∀v∈l,Ζ v<=64)->(ux l).1.length<=64:=by
    intro l hl;cases l with
    | nil=>exact an2 _
    | cons a l=>
      show(tO a l).length<=64;have ha:=hl a (apJ ..);have HO:=λv hv=>hl v (apG _ hv)
      clear hl;induction l generalizing a with
      | nil=>exact ha
      | cons c l ih=>
        rw[tO];(((refine ih _ ?_ λv hv=>HO v (apG _ hv));split);exact HO c (apJ ..));exact ha
   have:=hm ((br (gL Z (jY x))).filter (nL r ·)) (λv hv=>hB.2 v ((vi eT).1 (aur.1 hv).1));exact aev this BK
  ·cases h
 ·injection h with h;subst h;exact hr
def ZQ{S S':j_}{b:Br}{n:mw}(h:pR Z g M S i b od n= .ok S')(hZ:∀x∈Z,iq x.1=Α/\(Ζ x.2)<=65536)(hM:∀d∈M,rJ d)(hn:Hc n)(hS:V_ S)(hi:S.1[i]?=φ b):V_ S'/\S'.1[i]?=φ b:=by
 unfold pR at h;split at h;injection h with h;subst h;exact⟨hS,hi⟩;split at h;cases h;split at h;cases h;rename_i v hv;injection h with h;subst h;have hk:=hn.k;refine⟨⟨by rw[ai9,an5];omega,λc hc=>?_,λy hy=>?_,λc hc=>?_⟩,by rw[aug (ahB.1 hi).1];exact hi⟩;rcases an7.1 hc with hc | hc;exact hS.g c hc;rw[alp.1 hc];exact⟨aev hk.1 z12,aev hk.2.1 z12,Wa hZ z12 (Fm hM hn).1 hv⟩;rcases an7.1 hy with hy | hy;exact hS.x y hy;rw[alp.1 hy];exact aev hn.x z12;rcases an7.1 hc with hc | hc;exact hS.r c hc;rw[alp.1 hc];exact⟨Fm hM hn,λ_=>Wa hZ z12 (aep hM hn) hv⟩
structure pU(N:List Br):Prop where
 z:∃b,N[0]?=φ b/\b.up= -1/\b.dp=0
 p:∀(j:Nat)(b:Br),N[j]?=φ b->0<j->0<=b.up/\b.up<(j:Int)/\0<=b.od/\∃c,N[b.up.toNat]?=φ c/\c.rd=γ/\b.dp=c.dp+1
 o:∀(j:Nat)(b c:Br),N[j]?=φ b->N[j+1]?=φ c->0<j->b.up<c.up\/b.up=c.up/\b.od<c.od
def Wb(b c:Br):Prop:=b.up<c.up\/b.up=c.up/\b.od<c.od
def Wb.trans{a b c:Br}(h:Wb a b)(g:Wb b c):Wb a c:=by
 unfold Wb at*;omega
def pU.ord{N:List Br}(h:pU N){j:Nat}{b:Br}(hj:0<j)(hb:N[j]?=φ b):∀(d:Nat)(c:Br),N[j+1+d]?=φ c->Wb b c
 | 0,c,hc=>h.o j b c hb hc hj
 | d+1,c,hc=>by
   have hl:=(ahB.1 hc).1;have he:N[j+1+d]?=φ N[j+1+d]:=an6 Λ;exact(h.ord hj hb d _ he).trans (h.o (j+1+d) _ c he hc Λ)
def pU.anA{N:List Br}(h:pU N){b c:Br}(hj:0<j)(Gy:j<k)(hb:N[j]?=φ b)(hc:N[k]?=φ c):Wb b c:=
 h.ord hj hb (k - (j+1)) c (by rw[show j+1+(k - (j+1))=k by omega];exact hc)
def pU.dp0{N:List Br}(h:pU N):∀(k:Nat)(c:Br),N[k]?=φ c->0<=c.dp:=by
 intro k;induction k using Nat.strongRecOn with
 | _ k ih=>
   intro c hc;rcases apI k with rfl | hk;obtain⟨b,h1,_,h3⟩:=h.z;rw[h1]at hc;injection hc with hc;subst hc;omega;obtain⟨h1,h2,_,d,h3,_,h5⟩:=h.p k c hc hk;have:=ih _ Λ d h3;omega
def pU.dp{N:List Br}(h:pU N):∀(k j:Nat)(b c:Br),j<=k->N[j]?=φ b->N[k]?=φ c->b.dp<=c.dp:=by
 intro k;induction k using Nat.strongRecOn with
 | _ k ih=>
   intro j b c Gy hb hc;rcases apI j with rfl | hj;obtain⟨a,h1,_,h3⟩:=h.z;rw[h1]at hb;injection hb with hb;subst hb;have:=h.dp0 k c hc;omega;rcases Nat.eq_or_lt_of_le Gy with rfl | bI;rw[hb]at hc;injection hc with hc;subst hc;exact Int.le_refl _;have ho:=h.anA hj bI hb hc;obtain⟨b1,b2,_,d,b3,_,b5⟩:=h.p j b hb hj;obtain⟨c1,c2,_,e,c3,_,c5⟩:=h.p k c hc Λ;have:=ih c.up.toNat Λ b.up.toNat d e (by unfold Wb at ho;omega) b3 c3;omega
def zw(N:List Br):Nat->Int->List Int
 | 0,_=>[]
 | f+1,i=>if 0<i then match N[i.toNat]? with
   | some b=>zw N f b.up++[b.od]
   | none=>[]
   else[]
def Gm{N:List Br}(h:pU N):∀(f g:Nat)(i:Int),i.toNat<f->i.toNat<g->zw N f i=zw N g i
 | 0,_,_,h1,_=>Λ
 | _+1,0,_,_,h2=>Λ
 | f+1,g+1,i,h1,h2=>by
   rw[zw,zw];by_cases hi:0<i
   ·rw[if_pos hi,if_pos hi];cases hb:N[i.toNat]? with
    | none=>rfl
    | some b=>
      obtain⟨a1,a2,_⟩:=h.p _ b hb Λ;dsimp only;rw[Gm h f g b.up Λ Λ]
   ·rw[if_neg hi,if_neg hi]
def fT(N:List Br)(i:Nat):Χ:=zw N (i+1) i
def Gn(N:List Br):fT N 0=[]:=rfl
def pW{N:List Br}(h:pU N){b:Br}(hi:0<i)(hb:N[i]?=φ b):fT N i=fT N b.up.toNat++[b.od]:=by
 obtain⟨a1,a2,_⟩:=h.p _ b hb hi;unfold fT;rw[zw,if_pos Λ,aul,hb];dsimp only;rw[Gm h i (b.up.toNat+1) b.up Λ Λ,Int.toNat_of_nonneg a1]
def Ck{N:List Br}(h:pU N):∀(k:Nat)(c:Br),N[k]?=φ c->((fT N k).length:Int)=c.dp:=by
 intro k;induction k using Nat.strongRecOn with
 | _ k ih=>
   intro c hc;rcases apI k with rfl | hk;obtain⟨b,h1,_,h3⟩:=h.z;rw[h1]at hc;injection hc with hc;subst hc;rw[Gn,h3];rfl;obtain⟨a1,a2,_,d,h3,_,h5⟩:=h.p k c hc hk;have:=ih _ Λ d h3;rw[pW h hk hc,ai9,an5];omega
def kU:Χ->List Int->Bool
 | [],[]=>γ
 | [],_::_=>Α
 | _::_,[]=>γ
 | x::a,y::b=>if x=y then kU a b else decide (x<y)
def Gp:∀(p:Χ) {x y:Int},x<y->kU (p++[x]) (p++[y])=Α
 | [],x,y,h=>by
   rw[TR,TR,kU,if_neg Λ];exact decide_eq_true h
 | z::p,x,y,h=>by
   rw[Ro,Ro,kU,if_pos rfl];exact Gp p h
def Ku:∀(p q:Χ) {x y:Int},Ζ p=(Ζ q)->kU p q=Α->kU (p++[x]) (q++[y])=Α
 | [],[],_,_,_,h=>by cases h
 | [],_::_,_,_,hl,_=>by cases hl
 | _::_,[],_,_,hl,_=>by cases hl
 | a::p,b::q,x,y,hl,h=>by
   rw[kU]at h;rw[Ro,Ro,kU];split at h;rename_i e;rw[if_pos e];exact Ku p q z37 h;rename_i e;rw[if_neg e];exact h
def pU.path{N:List Br}(h:pU N):∀(k j:Nat)(b c:Br),j<k->N[j]?=φ b->N[k]?=φ c->b.dp=c.dp->kU (fT N j) (fT N k)=Α:=by
 intro k;induction k using Nat.strongRecOn with
 | _ k ih=>
   intro j b c Gy hb hc hd;obtain⟨c1,c2,_,e,c3,_,c5⟩:=h.p k c hc Λ;have he0:=h.dp0 _ e c3;rcases apI j with rfl | hj;obtain⟨a,h1,_,h3⟩:=h.z;rw[h1]at hb;injection hb with hb;subst hb;omega;obtain⟨b1,b2,_,d,b3,_,b5⟩:=h.p j b hb hj;rw[pW h hj hb,pW h Λ hc];rcases h.anA hj Gy hb hc with ho | ⟨ho,Kv⟩;refine Ku _ _ ?_ (ih c.up.toNat Λ b.up.toNat d e Λ b3 c3 Λ);have l1:=Ck h _ d b3;have l2:=Ck h _ e c3;omega;rw[ho];exact Gp _ Kv
def Fp(N:List Br)(i od:Nat):Prop:=∀(j:Nat)(c:Br),N[j]?=φ c->0<j->c.up<(i:Int)\/c.up=(i:Int)/\c.od<(od:Int)
def pU.snoc{N:List Br}(h:pU N){b n:Br}(hb:N[i]?=φ b)(hr:b.rd=γ)(ha:Fp N i od)(h1:n.up=i)(h2:n.od=od)(h3:n.dp=b.dp+1):pU (N++[n])/\Fp (N++[n]) i (od+1):=by
 have Qx:=(ahB.1 hb).1
 have ow:∀(j:Nat)(c:Br),(N++[n])[j]?=φ c->N[j]?=φ c/\j<(Ζ N)\/j=(Ζ N)/\c=n:=by
  intro j c hj;rw[List.getElem?_append]at hj;split at hj;exact .inl ⟨hj,by assumption⟩;have hl:=(ahB.1 hj).1;simp only[an5]at hl;have e:j - (Ζ N)=0:=Λ;rw[e,List.getElem?_cons_zero]at hj;injection hj with hj;exact .inr ⟨Λ,hj.symm⟩
 have hold:∀(j:Nat)(c:Br),N[j]?=φ c->(N++[n])[j]?=φ c:=λj c hj=>by
  rw[aug (ahB.1 hj).1];exact hj
 refine⟨⟨?_,?_,?_⟩,?_⟩;obtain⟨z,z1,z2⟩:=h.z;exact⟨z,hold _ _ z1,z2⟩;intro j c hj J1;rcases ow j c hj with⟨hj,_⟩ | ⟨rfl,rfl⟩;obtain⟨a1,a2,a0,d,a3,a4⟩:=h.p j c hj J1;exact⟨a1,a2,a0,d,hold _ _ a3,a4⟩;refine⟨Λ,Λ,Λ,b,?_,hr,h3⟩;rw[h1,aul];exact hold _ _ hb;intro j c d hj hd J1;rcases ow (j+1) d hd with⟨hd,_⟩ | ⟨e,rfl⟩;rcases ow j c hj with⟨hj,_⟩ | ⟨e,rfl⟩;exact h.o j c d hj hd J1;have:=(ahB.1 hd).1;omega;rcases ow j c hj with⟨hj,_⟩ | ⟨e2,rfl⟩;have:=ha j c hj J1;rw[h1,h2];exact this;omega;intro j c hj J1;rcases ow j c hj with⟨hj,_⟩ | ⟨rfl,rfl⟩;have:=ha j c hj J1;omega;exact .inr ⟨h1,Λ⟩
section
variable{Z:List (Gv×Bs)}{g:Gv}{M:List Dp}
def Fp.mono{N:List Br}(h:Fp N i od):Fp N i (od+1):=λj c hj h0=>by
 have:=h j c hj h0;omega
def Fp.up{N:List Br}(h:Fp N i od):Fp N (i+1) 0:=λj c hj h0=>by
 have:=h j c hj h0;omega
def ZR{S S':j_}{b:Br}{n:mw}(h:pR Z g M S i b od n= .ok S')(hO:pU S.1)(hb:S.1[i]?=φ b)(hr:b.rd=γ)(ha:Fp S.1 i od):pU S'.1/\S'.1[i]?=φ b/\Fp S'.1 i (od+1):=by
 unfold pR at h;split at h;injection h with h;subst h;exact⟨hO,hb,ha.mono⟩;split at h;cases h;split at h;cases h;rename_i v _;injection h with h;subst h;have:=hO.snoc (n:=⟨i,b.dp+1,od,n.k,v,jB M i n,rM M i b n,Ak S i (fW n.k)⟩) hb hr ha rfl rfl rfl;exact⟨this.1,by rw[aug (ahB.1 hb).1];exact hb,this.2⟩
def Gq{i:Nat}{b:Br}(hr:b.rd=γ):∀(l:List mw)(od:Nat) {S S':j_},mz Z g M i b l od S= .ok S'->pU S.1->S.1[i]?=φ b->Fp S.1 i od->pU S'.1/\S'.1[i]?=φ b/\∃od',Fp S'.1 i od'
 | [],od,S,S',h,hO,hb,ha=>by rw[mz]at h;injection h with h;subst h;exact⟨hO,hb,od,ha⟩
 | n::l,od,S,S',h,hO,hb,ha=>by
   rw[mz]at h;obtain⟨S1,h1,h2⟩:=lu h;obtain⟨a1,a2,a3⟩:=ZR h1 hO hb hr ha;exact Gq hr l (od+1) h2 a1 a2 a3
def Cl:∀(f i:Nat) {M:List Dp} {S:j_} {mm:List (Gv×eM)} {y:j_×List (Gv×eM)},mW Z g f i M S mm= .ok y->pU S.1->Fp S.1 i 0->pU y.1.1
 | 0,i,M,S,mm,y,h,hO,_=>by rw[mW]at h;injection h with h;subst h;exact hO
 | f+1,i,M,S,mm,y,h,hO,ha=>by
   rw[mW]at h;split at h;injection h with h;subst h;exact hO;rename_i b hb;split at h;exact Cl f (i+1) h hO ha.up;rename_i hr;obtain⟨Y,h1,h2⟩:=lu h;obtain⟨S1,h3,h4⟩:=lu h2;obtain⟨a1,a2,od',a3⟩:=Gq (by simpa using hr) _ 0 h3 hO hb ha;exact Cl f (i+1) h4 a1 a3.up
def ZS{mm:List (Gv×eM)}{y:j_×List (Gv×eM)}(h:uA Z g mm= .ok y):pU y.1.1:=by
 refine Cl 5000 0 h ⟨⟨_,rfl,rfl,rfl⟩,λj b hb hj=>?_,λj b c hb hc hj=>?_⟩ λj c hj h0=>?_
 ·have:=(ahB.1 hb).1;simp only[an5]at this;omega
 ·have:=(ahB.1 hb).1;simp only[an5]at this;omega
 ·have:=(ahB.1 hj).1;simp only[an5]at this;omega
end
end Go.Proofs.YtnfdmplcieacjaaGreatDoor
