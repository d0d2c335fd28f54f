import Derived.Test.YtoclnkfdahmnhaaGreatDoorMF
import Derived.RangeFuncSeq
set_option linter.unusedVariables false
set_option linter.unusedSimpArgs false
namespace Go.Proofs.YtoclnkfdahmnhaaGreatDoor
open Go.RowKit
set_option maxRecDepth 10000
set_option linter.defProp false in
def dA:=And.intro aR<|And.intro xw<|And.intro aeM<|And.intro Eo HB
structure Plain (S:List (Gv×List Dp)):Prop where
 c:∀p∈S,Calm p.1 p.2
 ne:S.Pairwise fun x y=>x.1≠y.1
def ab6:Option (List Br)->Gv->MV->Prop
 | none,g,m=>m= .tuple [.sl 0 [] .nil,.agg (oW (Tx g))]
 | some N,_,m=>∃t,m= .tuple [.sl N.length (N.flatMap qm) t,.agg (oW iN)]
theorem FV {S:List (Gv×List Dp)} {g:Gv} {l:List oD} (h:my S g=some l):∃(i:Nat) (D:List Dp),S[i]?=some (g,D)/\l=D.map fb:=by
 unfold my at h;obtain⟨p,h1,rfl⟩:=Option.map_eq_some_iff.1 h;obtain⟨g',D⟩:=p;have h2:=List.find?_some h1;have h2:g'=g:=by simpa using h2
 subst h2;obtain⟨i,hi,e⟩:=List.mem_iff_getElem.1 (List.mem_of_find?_eq_some h1);exact⟨i,D,by rw[List.getElem?_eq_getElem hi,e],rfl⟩
theorem ab7 {d:Dp} (h:Oo d):FM (fb d)/\(fb d).x.length<=1:=by
 have:=h.a.len;refine⟨⟨?_,?_,?_,?_⟩,h.xl⟩
 ·show d.g.length<=_;rw[h.g];decide
 ·show d.a.length<=_;omega
 ·show(if vz d.t=[]then lq else vz d.t).length<=_;rw[h.t];decide
 ·show d.c.length<=_;rw[h.c];decide
theorem r9.mv {O O':VH} {tb k bb mm:Nat} {g:Gv} {S:qd} {t1 t2:Tok} {B:Nat} (h:r9 O tb k bb mm g S t1 t2 B) (hn:O.next<=O'.next) (h1:B<=tb) (h2:B<=mm) (hf:∀j,B<=j->j<O.next->O'.hp j=O.hp j):r9 O' tb k bb mm g S t1 t2 B:=by
 have hl:=h.lt;exact⟨(hf _ h1 hl.1).trans h.cell,(hf _ h2 hl.2).trans h.map,h.a1.at hn (fun i e=>hf i (App.pB h.a1 e).1 (App.pB h.a1 e).2),h.a2.at hn (fun i e=>hf i (App.pB h.a2 e).1 (App.pB h.a2 e).2),h.ne,⟨by omega,by omega⟩,h.len,h.up⟩
theorem RT {S S':qd} {i:Nat} {b:Br} {od:Nat} {n:oD} (h:yF S i b od n=some S') (hl:S.1.length<=4096) (hi:S.1[i]?=some b):S'.1.length<=4096/\S'.1[i]?=some b/\∀y∈S'.2,y∈S.2\/y=n.x:=by
 unfold yF at h;split at h
 ·injection h with h;subst h
  exact⟨hl,hi,fun y hy=>.inl hy⟩
 ·split at h
  ·cases h
  ·injection h with h;subst h
   unfold afP;refine⟨by rw[List.length_append];simp;omega,by rw[List.getElem?_append_left (List.getElem?_eq_some_iff.1 hi).1];exact hi,fun y hy=>?_⟩;rcases List.mem_append.1 hy with hy | hy
   ·exact .inl hy
   ·exact .inr (List.mem_singleton.1 hy)
set_option maxHeartbeats 4000000 in
theorem ael {O:VH} {U:Nat->Prop} {k bb md:Nat} {S:List (Gv×List Dp)} (h:CB O U k bb md S) (hS:Plain S) (g:Gv) {r:Option (List Br)} (hr:RQ (my S) g=some r):
  VF Tryz.prog 50 [.ptr k 0,.ptr bb 0,.agg (bN g)] O (aH fun m O'=>ab6 r g m/\O.next<=O'.next/\∀j,¬U j->j<O.next->O'.hp j=O.hp j):=by
 obtain⟨g1,g2,g3⟩:=g;simp only[bN];refine VF.bL 116 [.tmp 6,.cell 7 71] Tryz.func50 ?_;refine VC.ag aa (ae @dA ?_);refine VC.gen ?_;intro O1 e1;obtain⟨aU,du,cC,ct⟩:=gJ _ _ e1;clear e1;have nq:Gc (kO [(0,1),(1,1),(2,3),(5,1),(6,1),(7,1)]) [.ptr k 0,.ptr bb 0,.str g1,.str g2,.str g3,.v (.map none),.sl 0 [] .nil,.sl 0 [] .nil] (.map O1.next) [] (some (5,1))=some [.ptr k 0,.ptr bb 0,.str g1,.str g2,.str g3,.map O1.next,.sl 0 [] .nil,.sl 0 [] .nil]:=rfl;refine VC.ag aa (aN @dA @cC @nq ?_);refine VC.gen ?_;intro O2 e2;obtain⟨aC,jB,hm2,Fc⟩:=gJ _ _ e2;clear e2;have iS:=aC.at cC;have bZ:=aC.at ct;refine VC.ag aa (aN @dA @iS @Fc ?_);refine VC.gen ?_;intro O3 e3;have ht3:O3.hp (O1.next+1)=some (.cells [.ptr k 0,.ptr bb 0,.str g1,.str g2,.str g3,.map O1.next,.sl 1 [.v (.int .i64 (-1)),.v (.int .i64 0),.v (.int .i64 0),.str g1,.str g2,.str [106,97,114],.str [],.str g3,.v (.bool false),.str g3,.sl 0 [] .nil,.v (.int .i64 0),.v (.bool false)] .full,.sl 0 [] .nil]):=by rw[e3];exact VH.an _ _ _
 have As:∀j,j≠O1.next+1->O3.hp j=O2.hp j:=fun j hj=>by rw[e3];exact VH.ak _ _ hj
 have iH:O3.next=O2.next:=by rw[e3];rfl
 clear e3;refine VC.ag aa (ao @dA @ht3 ?_);refine VC.gen ?_;intro O4 e4;have Wh:O4.hp (O1.next+1)=some (.cells [.ptr k 0,.ptr bb 0,.str g1,.str g2,.str g3,.map O1.next,.sl 1 [.v (.int .i64 (-1)),.v (.int .i64 0),.v (.int .i64 0),.str g1,.str g2,.str [106,97,114],.str [],.str g3,.v (.bool false),.str g3,.sl 0 [] .nil,.v (.int .i64 0),.v (.bool false)] .full,.sl 1 [.sl 0 [] .nil] .full]):=by rw[e4];exact VH.an _ _ _
 have ra:∀j,j≠O1.next+1->O4.hp j=O2.hp j:=fun j hj=>by rw[e4,VH.ak _ _ hj];exact As j hj
 have ib:O4.next=O2.next:=by rw[e4];exact iH
 clear e4 ht3 As iH;refine VC.WJ Wh (cs':=[.ptr k 0,.ptr bb 0]++bN ⟨g1,g2,g3⟩++[.map O1.next,.sl [yH ⟨g1,g2,g3⟩].length ([yH ⟨g1,g2,g3⟩].flatMap qm) .full,.sl [([]:List fI)].length ([([]:List fI)].flatMap yI) .full]) ?_ ?_
 ·simp only[bN,yH,lq,qm,f_,vx,yI,List.flatMap_singleton,List.cons_append,List.nil_append,List.length_singleton,List.length_nil,List.flatMap_nil,ar,aY]
  repeat' first
   | exact eD.refl _
   | exact Wk.refl _
   | exact Wk.tok
   | refine eD.cons ?_ ?_
   | refine Wk.sl ?_
 refine VC.gen ?_;intro O5 e5
 have ajG:r9 O5 (O1.next+1) k bb O1.next ⟨g1,g2,g3⟩ ([yH ⟨g1,g2,g3⟩],[[]]) .full .full O.next:=by
  refine⟨by rw[e5];exact VH.an _ _ _,?_,trivial,trivial,fun i h=>(by cases h),?_,rfl,?_⟩
  ·rw[e5,VH.ak _ _ (by omega),ra _ (by omega)];exact hm2
  ·rw[e5];show O1.next+1<O4.next/\O1.next<O4.next;omega
  ·intro j c hj;have hl:=(List.getElem?_eq_some_iff.1 hj).1;simp only[List.length_singleton]at hl;obtain rfl:j=0:=by omega
   simp only[List.getElem?_cons_zero,Option.some.injEq]at hj;subst hj;simp[yH]
 have jF:∀j,j<O2.next->j≠O1.next+1->O5.hp j=O2.hp j:=fun j _ h2=>by rw[e5,VH.ak _ _ h2,ra j h2]
 have gD:O5.next=O2.next:=by rw[e5];exact ib
 have cV:=(jF _ (by omega) (by omega)).trans bZ;have ns:O.Ge O5:=⟨by rw[gD,jB];omega,fun j hj=>(jF j (by omega) (by omega)).trans ((aU.trans aC).hp j hj)⟩;clear e5 ra ib Wh jF;refine VC.bu [7,8] (fun _:qd×Tok×Tok=>[.ptr (O.next+1) 0,.ptr (O1.next+1) 0]) (fun x O'=>r9 O' (O1.next+1) k bb O1.next ⟨g1,g2,g3⟩ x.1 x.2.1 x.2.2 O.next/\r=some x.1.1/\O'.hp (O.next+1)=O5.hp (O.next+1)/\O5.next<=O'.next/\∀j,¬U j->j<O.next->O'.hp j=O.hp j) ?_ ?_
 ·refine VC.ag aa (ae @dA ?_);refine VC.az ?_;refine VC.bq [9] [1,7,8] (fun x:Nat×qd×Tok×Tok=>[mi x.1]) (fun x O'=>x.1<=x.2.1.1.length/\x.2.1.1.length<=4096/\yG (my S) (5000 - x.1) x.1 x.2.1=some r/\r9 O' (O1.next+1) k bb O1.next ⟨g1,g2,g3⟩ x.2.1 x.2.2.1 x.2.2.2 O.next/\CB O' U k bb md S/\O'.hp (O.next+1)=O5.hp (O.next+1)/\(∀y∈x.2.1.2,y.length<=1000000)/\O5.next<=O'.next/\∀j,¬U j->j<O.next->O'.hp j=O.hp j) (fun x=>5000 - x.1) ((0,([yH ⟨g1,g2,g3⟩],[[]]),.full,.full)) ?_ ?_
  ·exact⟨Nat.zero_le _,by show(1:Nat)<=4096;decide,hr,ajG,h.ge ns,rfl,by simp,Nat.le_refl _,fun j _ hj=>ns.hp j hj⟩
  rintro⟨i,S',t1,t2⟩ O6 ⟨hi,hl,mY,wV,hC6,iQ,hX6,lS,Ou⟩;dsimp only at hi hl mY wV hX6 ⊢;have s8:=wV.cell;simp only[bN,List.cons_append,List.nil_append]at s8;have Tw:=aJ lM S'.1;by_cases jJ:i<S'.1.length;rotate_left
  ·obtain rfl:i=S'.1.length:=by omega
   have HT:r=some S'.1:=by
    rw[show 5000 - S'.1.length=(4999 - S'.1.length)+1 by omega,yG,List.getElem?_eq_none (Nat.le_refl _)]at mY;injection mY with mY;exact mY.symm
   refine WC.sound aa (ao @dA @s8 ?_);exact aA.mk (S',t1,t2) ⟨wV,HT,iQ,lS,Ou⟩
  have Q7:((i:Int)+1)=((i+1:Nat):Int):=by omega
  have hb:S'.1[i]?=some S'.1[i]:=List.getElem?_eq_getElem jJ;have br:=bB lM S'.1 i jJ;generalize S'.1[i]=b at*;have BF:(S'.1.flatMap qm)[i*13+12]?=some (mb b.rd):=by simpa using gy (sp:=[]) lM hb (i:=12) rfl
  simp only[aY]at BF;rw[show 5000 - i=(4999 - i)+1 by omega,yG,hb]at mY;dsimp only at mY;refine VC.ag aa (ao @dA @s8 ?_);refine VC.bu [1,7,8,9] (fun _:qd×Tok×Tok=>[.ptr bb 0,.ptr (O.next+1) 0,.ptr (O1.next+1) 0,mi i]) (fun x O'=>i+1<=x.1.1.length/\x.1.1.length<=4096/\yG (my S) (4999 - i) (i+1) x.1=some r/\r9 O' (O1.next+1) k bb O1.next ⟨g1,g2,g3⟩ x.1 x.2.1 x.2.2 O.next/\CB O' U k bb md S/\O'.hp (O.next+1)=O5.hp (O.next+1)/\(∀y∈x.1.2,y.length<=1000000)/\O5.next<=O'.next/\∀j,¬U j->j<O.next->O'.hp j=O.hp j) ?_ ?_;rotate_left
  ·rintro⟨S2,ta,tb⟩ O7 ⟨q1,q2,q3,q4,q5,q6,q7,q8,q9⟩;refine WC.sound aa (ao @dA @Q7 ?_);exact ay.next (i+1,S2,ta,tb) ⟨q1,q2,by rw[show 5000 - (i+1)=4999 - i by omega];exact q3,q4,q5,q6,q7,q8,q9⟩ (hm:=(by dsimp only at q1 q2 ⊢;omega))
  refine VC.az ?_;cases RR:b.rd;rotate_left
  ·rw[RR]at mY BF;rw[if_pos rfl]at mY;refine WC.sound aa (aN @dA @s8 @BF ?_);exact aA.mk (S',t1,t2) ⟨jJ,hl,mY,wV,hC6,iQ,hX6,lS,Ou⟩
  rw[RR]at mY BF;rw[if_neg (by decide)]at mY;cases hm:my S (qD b)with
  | none=>rw[hm]at mY;cases mY
  | some l=>
  rw[hm]at mY;dsimp only at mY;obtain⟨q,D,hq,rfl⟩:=FV hm;have Ka:=hS.c _ (List.mem_of_getElem? hq);dsimp only at Ka;have Bv:=fun(O':VH) (u:O6.Ge O')=>Xt (hC6.ge u) hq Ka hS.ne
  have hM:lu (iC (qD b) (de (qD b) D))=[.str (qD b).g,.str (qD b).a,.str (qD b).v,.str lq,.sl 3 ((g_ (de (qD b) D)).flatMap a_) .au,.sl 0 [] .au,.sl (D.map fb).length ((D.map fb).flatMap dJ) .au]:=rfl;rw[hM]at Bv;generalize (g_ (de (qD b) D)).flatMap a_=X1 at*;simp only[oW,iN,ar]at Bv;refine VC.ag aa (aN @dA @s8 @BF ?_);refine VC.ag aa (aN @dA @s8 @br ?_);refine ah.rt (aeg b O6) ?_;rintro _ O7 ⟨rfl,dM⟩;refine ae @dA ?_;refine ah.rt (Bv O7 dM) ?_;rintro _ O8 ⟨rfl,hC8,CC,hf8⟩;refine ae @dA ?_;refine VC.gen ?_;intro O9 e9;have hUl:∀j,U j->j<O.next:=h.lt
  have WY:O9.hp O8.next=some (.cells [.str (qD b).g,.str (qD b).a,.str (qD b).v,.str lq,.sl 3 X1 .au,.sl 0 [] .au,.sl (D.map fb).length ((D.map fb).flatMap dJ) .au]):=by rw[e9,VH.ak _ _ (by omega)];exact VH.an _ _ _
  have hp9:O9.hp (O8.next+1)=some (.cells [.v (.int .i64 0),.str [],.str [],.str [],.v (.int .i64 0),.v (.int .i64 0),.v (.int .i64 0),.str []]):=by rw[e9];exact VH.an _ _ _
  have ab8:O8.Ge O9:=by rw[e9];exact((((VH.Ge.refl _).push _).push _).set (Nat.le_refl _) _).set (by omega) _
  have Ff:O9.next=O8.next+2:=by rw[e9];rfl
  clear e9;have rM:=dM.next;have Tz:∀j,¬U j->j<O6.next->O9.hp j=O6.hp j:=fun j h1 h2=>by rw[ab8.hp j (by omega),hf8 j h1 (by omega),dM.hp j h2]
  have hT9:r9 O9 (O1.next+1) k bb O1.next ⟨g1,g2,g3⟩ S' t1 t2 O.next:=wV.mv (by omega) (by omega) (by omega) fun j h1 h2=>Tz j (fun hu=>by have:=hUl j hu;omega) h2
  have hC9:=hC8.ge ab8;have bC:O9.hp (O.next+1)=O5.hp (O.next+1):=(Tz _ (fun hu=>by have:=hUl _ hu;omega) (by omega)).trans iQ;have hf9:∀j,¬U j->j<O.next->O9.hp j=O.hp j:=fun j h1 h2=>(Tz j h1 (by omega)).trans (Ou j h1 h2)
  clear Bv hC8 hf8 dM ab8 Tz wV hC6 iQ Ou s8 br BF;refine VC.ag aa (ao @dA @hp9 ?_);refine VL.su aa (bb:=false) (b:=true) (by simp) (by simp[gT]) (.inr ⟨rfl,rfl⟩) (by kernel_rfl) (by kernel_rfl) rfl rfl rfl rfl ?_;refine ae @dA ?_;refine VC.bu [1,7,8,9,10] (fun _:Unit=>[.ptr bb 0,.ptr (O.next+1) 0,.ptr (O1.next+1) 0,mi i,.ptr O8.next 0]) (fun _ O'=>O'=O9) ?_ ?_
  ·by_cases h0:i=0
   ·have h0':((i:Int)==0)=true:=by simpa using h0
    refine VC.ag aa (ao @dA @h0' ?_);refine VC.DO rfl ?_;refine VC.ag aa (ao @dA @WY ?_);refine VC.az ?_;refine VC.bq [81] [1,7,8,9,10,79,80] (fun _:Nat=>[mi 0]) (fun _ O'=>O'=O9) (fun x=>x) (0) ?_ ?_
    ·rfl
    rintro _ fL rL;rw[rL];refine WC.sound aa (ae @dA ?_);exact aA.mk () rfl
   ·have h0':((i:Int)==0)=false:=by simpa using h0
    refine WC.sound aa (ao @dA @h0' ?_);exact aA.mk () rfl
  rintro _ fL rL;rw[rL];clear rL fL;refine VC.ag aa (ao @dA @WY ?_)
  have hne:∀n∈D.map fb,FM n/\n.x.length<=1:=fun n hn=>by
   obtain⟨d,hd,rfl⟩:=List.mem_map.1 hn;exact ab7 (Ka.d d hd)
  have zG:(D.map fb).length<=40:=by rw[List.length_map];exact Ka.n
  generalize D.map fb=L at*;clear WY hp9 hM;refine VC.az ?_;refine VC.bq [96] [1,7,8,9,94,95] (fun x:Nat×qd×Tok×Tok=>[mi x.1]) (fun x O'=>x.1<=L.length/\x.2.1.1.length<=4096/\x.2.1.1[i]?=some b/\wL i b (L.drop x.1) x.1 x.2.1=wL i b L 0 S'/\r9 O' (O1.next+1) k bb O1.next ⟨g1,g2,g3⟩ x.2.1 x.2.2.1 x.2.2.2 O.next/\CB O' U k bb md S/\O'.hp (O.next+1)=O5.hp (O.next+1)/\(∀y∈x.2.1.2,y.length<=1000000)/\O9.next<=O'.next/\∀j,¬U j->j<O.next->O'.hp j=O.hp j) (fun x=>L.length - x.1) ((0,S',t1,t2)) ?_ ?_
  ·exact⟨Nat.zero_le _,hl,hb,rfl,hT9,hC9,bC,hX6,Nat.le_refl _,hf9⟩
  rintro⟨j,S2,ta,tb⟩ fL ⟨hj,qL,Mq,Ov,xr,On,Ic,TA,HI,ab9⟩;dsimp only at hj qL Mq Ov xr TA ⊢;have hii:=(List.getElem?_eq_some_iff.1 Mq).1;by_cases bf:j<L.length;rotate_left
  ·obtain rfl:j=L.length:=by omega
   rw[List.drop_length,wL]at Ov;rw[<-Ov]at mY;refine WC.sound aa (ae @dA ?_);exact aA.mk (S2,ta,tb) ⟨hii,qL,mY,xr,On,Ic,TA,by omega,ab9⟩
  have cY:((j:Int)+1)=((j+1:Nat):Int):=by omega
  have afY:=bB nJ L j bf;obtain⟨fF,qh⟩:=hne _ (List.getElem_mem bf);rw[List.drop_eq_getElem_cons bf,wL]at Ov;generalize L[j]=n at*;have CH:=fun(O':VH) (u:fL.Ge O')=>aek (xr.ge u) (by have:=u.next;omega) Mq j n fF TA qL
  have hinv:=fun S3 (h:yF S2 i b j n=some S3)=>RT h qL Mq
  generalize yF S2 i b j n=R at*;obtain⟨⟨k1,k2,k3,k4⟩,v,s,o,x⟩:=n;dsimp only at qh;simp only[dJ,f_,vx,ar,aY,List.cons_append,List.nil_append,List.length_nil,List.flatMap_nil]at afY CH;have akE:=aJ nJ L;refine VC.ag aa (ae @dA ?_);refine VC.ag aa (ae @dA ?_);refine VC.bj (VC.az ?_);refine VC.ag aa (ao @dA @afY ?_);refine VC.al ?_;rintro ua ⟨oM,ajH,aeZ⟩;refine VC.ag aa (ao @dA @ajH ?_);refine ah.rt (CH ua oM) ?_;intro m WT Kb;have akF:=cV;cases R with
  | none=>
    dsimp only at Kb Ov;rw[<-Ov]at mY;dsimp only at mY;injection mY with mY;subst mY;obtain⟨rfl,Fx⟩:=Kb;have ab_:=(Fx.hp _ (by have:=oM.next;omega)).trans (oM.at (Ic.trans cV));have ahn:=oM.next;have No:=Fx.next;simp only[oW,Tx,ar];refine ae @dA ?_;refine VC.al ?_;rintro O13 ⟨FW,TB,Ni⟩;have ajI:=FW.at ab_;refine WC.sound aa (ao @dA @TB ?_);refine VL.su aa (bb:=true) (b:=false) (by simp) (by simp[gT]) (.inr ⟨rfl,rfl⟩) (by kernel_rfl) (by kernel_rfl) rfl rfl rfl rfl ?_;refine ae @dA ?_;refine WC.bH .any [(1,.aw),(0,.one),(2,.one)] ?_;refine aN @dA @TB @ajI ?_
    exact⟨rfl,by show O.next<=O13.next;omega,fun l h1 h2=>by
     rw[VH.ak _ _ (by omega),FW.hp l (by omega),Fx.hp l (by omega),oM.hp l (by omega)];exact ab9 l h1 h2⟩
  | some S3=>
    dsimp only at Kb Ov;obtain⟨rfl,ta',tb',Tt,No,afZ⟩:=Kb;obtain⟨mZ,cc,kV⟩:=hinv S3 rfl;have ahn:=oM.next;have fl:∀l,l<O.next->l≠O1.next+1/\Tok.id ta≠some l/\Tok.id tb≠some l:=fun l h1=>⟨by omega,fun e=>by have:=(App.pB xr.a1 e).1;omega,fun e=>by have:=(App.pB xr.a2 e).1;omega⟩
    have TC:∀l,l<O.next->WT.hp l=fL.hp l:=fun l h1=>by
     obtain⟨u1,u2,u3⟩:=fl l h1;rw[afZ l (by omega) u1 u2 u3,oM.hp l (by omega)]
    have cH:∀l,l<fL.next->fL.hp l≠some .tok->l≠O1.next+1->WT.hp l=fL.hp l:=fun l h1 h2 h3=>by
     rw[afZ l (by omega) h3 (fun e=>h2 (App.tok xr.a1 e)) (fun e=>h2 (App.tok xr.a2 e)),oM.hp l (by omega)]
    have ab_:=(cH (O.next+1) (by omega) (by rw[Ic,cV];simp) (by omega)).trans (Ic.trans cV);simp only[oW,iN,ar];refine ae @dA ?_;refine VC.al ?_;rintro O13 ⟨FW,TB,Ni⟩;refine WC.sound aa (ao @dA @TB ?_);refine VL.su aa (bb:=false) (b:=true) (by simp) (by simp[gT]) (.inr ⟨rfl,rfl⟩) (by kernel_rfl) (by kernel_rfl) rfl rfl rfl rfl ?_;refine ae @dA ?_;refine WC.sound aa (ao @dA @cY ?_);refine ay.next (j+1,S3,ta',tb') ⟨bf,mZ,cc,Ov,Tt.ge FW,(On.mv (by omega) fun l hl=>TC l (hUl l hl)).ge FW,?_,?_,by omega,fun l h1 h2=>?_⟩
    ·rw[FW.hp _ (by omega),ab_,cV]
    ·intro y hy;rcases kV y hy with hy | rfl
     ·exact TA y hy
     ·exact Nat.le_trans qh (by decide)
    ·rw[FW.hp l (by omega),TC l h2];exact ab9 l h1 h2
 rintro⟨S',t1,t2⟩ O6 ⟨wV,rfl,iQ,lS,Ou⟩;have Bw:=wV.cell;simp only[bN,List.cons_append,List.nil_append]at Bw;rw[cV]at iQ;refine VC.ag aa (aN @dA @Bw @iQ ?_);refine WC.sound aa (ae @dA ?_);exact⟨⟨t1,rfl⟩,by show O.next<=O6.next;omega,fun j h1 h2=>VH.sn (Ou j h1 h2)⟩
def rowsOf (S:List (Gv×List Dp)):List (Gv×Bs×Option Pm):=S.map fun p=>(p.1,b9 (fw (de p.1 p.2)),none)
theorem aem {O:VH} {k ke kv ce cv:Nat} {L:List (Gv×Bs×Option Pm)} {E V:fe} {r a:Int} (h:m7 O k L E V ke kv ce cv r a) {j:Nat} (hj:Own k ke kv E V j):j<O.next:=by
 have hl:=h.st.lt;rcases hj with rfl | rfl | rfl | ⟨i,c,p,hi⟩ | ⟨p,hp,n,cs,tk,e1,e2⟩
 ·exact hl.1
 ·exact hl.2.1
 ·exact hl.2.2
 ·have eb:=(List.getElem?_eq_some_iff.1 hi).1;rw[h.len]at eb;obtain⟨q,c',h1,h2,_⟩:=h.Jy i L[i].1 L[i].2.1 L[i].2.2 (List.getElem?_eq_getElem eb);rw[hi]at h1;injection h1 with h1;simp only[Prod.mk.injEq,MV.ptr.injEq]at h1;omega
 ·obtain⟨n',cs',tk',k1,k2,k3,k4,k5⟩:=h.ver.row p hp;rw[e1]at k1;injection k1 with _ _ k1;subst k1;exact(App.pB k4 e2).2
theorem aen {O:VH} {k ke kv ce cv:Nat} {E V:fe} {rd at':Int} {S:List (Gv×List Dp)} (h:m7 O k (rowsOf S) E V ke kv ce cv rd at') (hS:Plain S) (g:Gv) {r:Option (List Br)} (hr:RQ (my S) g=some r):
  VF Tryz.prog 30 [.ptr k 0,.agg (bN g)] O (aH fun m O'=>ab6 r g m/\O.next<=O'.next/\∀j,¬Own k ke kv E V j->j<O.next->O'.hp j=O.hp j):=by
 have hO:= @aem _ _ _ _ _ _ _ _ _ _ _ h;have hl:=h.st.lt
 have hcb:∀O2 bb md,O.Ge O2->O.next<=bb->O.next<=md->bb<O2.next->md<O2.next->O2.hp md=some (.map [] 0)->O2.hp bb=some (.cells [.ptr k 0,.map md])->CB O2 (fun j=>Own k ke kv E V j\/j=bb\/j=md) k bb md S:=fun O2 bb md u h1 h2 h3 h4 h5 h6=>by
  refine⟨⟨rowsOf S,E,V,ke,kv,ce,cv,rd,at',[],0,h.ge u,⟨h6,h5,BD 3,h3,h4⟩,by simp[rowsOf],fun i g D hi=>⟨none,by simp[rowsOf,hi],.inl ⟨rfl,rfl⟩⟩,⟨by omega,by omega⟩,fun j hj=>.inl hj⟩,fun j hj=>?_,.inr (.inl rfl),.inr (.inr rfl)⟩;rcases hj with hj | rfl | rfl
  ·have:=hO hj;have:=u.next;omega
  ·exact h3
  ·exact h4
 obtain⟨g1,g2,g3⟩:=g;simp only[bN];refine VF.bL 13 [.tmp 4,.cell 5 71] Tryz.func30 ?_;refine VC.ag aa (ae @dA ?_);refine VC.gen ?_;intro O1 e1;obtain⟨aU,du,cC,ct⟩:=gJ _ _ e1;clear e1;refine VC.bj ?_;refine VC.sJ [8] (fun O'=>O'.hp O.next=some (.cells [.str g1,.str g2,.str g3])/\O.next+2<=O'.next) (⟨cC,by omega⟩) ?_;refine ab.aw 0 ?_;refine ae @dA ?_;refine ab.aw 1 ?_;refine ae @dA ?_;refine ab.mC (m:=.agg [.str g1,.str g2,.str g3]) 3 ?_ ?_
 ·rintro O2 ⟨j0,j1⟩;exact dq @dA @j0
 simp only[aj];refine ab.call (i:=2) (ad1 k O1) ?_;rintro _ O2 ⟨rfl,aC,hm2,bZ,jB⟩;simp only[aj];have iS:=aC.at cC;have fy:=aC.at ct;refine⟨⟨iS,by omega⟩,?_⟩;refine ab.call (i:=4) (ael (hcb O2 (O1.next+1) O1.next (aU.trans aC) (by omega) (by omega) (by omega) (by omega) hm2 bZ) hS ⟨g1,g2,g3⟩ hr) ?_;rintro m O3 ⟨hm,iH,Cu⟩;simp only[aj]
 have hU:∀j,j<O1.next->¬Own k ke kv E V j->¬(Own k ke kv E V j\/j=O1.next+1\/j=O1.next):=fun j h1 h2 h3=>by
  rcases h3 with h3 | h3 | h3
  ·exact h2 h3
  ·omega
  ·omega
 have fF:∀j,O.next<=j->¬Own k ke kv E V j:=fun j h1 h2=>by have:=hO h2;omega
 have tX:=(Cu O.next (hU _ (by omega) (fF _ (Nat.le_refl _))) (by omega)).trans iS;have gO:=(Cu (O.next+1) (hU _ (by omega) (fF _ (by omega))) (by omega)).trans fy;refine⟨⟨tX,by omega⟩,?_⟩
 have mq:∀X j,¬Own k ke kv E V j->j<O.next->(O3.set (O.next+1) X).hp j=O.hp j:=fun X j h1 h2=>by
  rw[VH.ak _ _ (by omega),Cu j (hU j (by omega) h1) (by omega),aC.hp j (by omega),aU.hp j h2]
 cases r with
 | none=>
   obtain rfl:=hm;simp only[oW,Tx,ar];refine ab.aw 5 ?_;refine ae @dA ?_;refine ab.aw 6 ?_;refine ae @dA ?_;refine ab.aw 7 ?_;refine ae @dA ?_;refine ab.bH [(8,.one)] ?_;refine ao @dA @gO ?_;refine WC.sound aa (ae @dA ?_);exact⟨rfl,by show O.next<=O3.next;omega,mq _⟩
 | some N=>
   obtain⟨t,rfl⟩:=hm;simp only[oW,iN,ar];refine ab.aw 5 ?_;refine ae @dA ?_;refine ab.aw 6 ?_;refine ae @dA ?_;refine ab.aw 7 ?_;refine ae @dA ?_;refine ab.bH [(8,.one)] ?_;refine ao @dA @gO ?_;refine WC.sound aa (ae @dA ?_);exact⟨⟨t,rfl⟩,by show O.next<=O3.next;omega,mq _⟩
set_option linter.defProp false in
def qG:=And.intro dA<|And.intro LX<|And.intro AX<|And.intro uO<|And.intro AY<|And.intro tq SA
mutual
theorem aca:∀x:Nd,qa x->(b9 x).length<=1000000->z7 x
 | .mk n a k t,h,hl=>by
   rw[qa]at h;obtain⟨hn,rfl,rfl,hk,h⟩:=h;rw[jw hn.ne hk]at hl
   have qg:sF k/\k.length<=1000000:=by
    rcases h with⟨s,hs,rfl⟩ | h
    ·rw[jI,b9,if_pos rfl,FG hs.all]at hl;refine⟨?_,by simp⟩;simp only[sF,z7];exact⟨⟨by simp,by omega,by simp,by simp,by simp,trivial⟩,trivial⟩
    ·obtain⟨h1,h2⟩:=TD k h (by omega);exact⟨h1,by omega⟩
   rw[z7];exact⟨by omega,by simp,by simp,by simp,qg.2,qg.1⟩
theorem TD:∀K:List Nd,xt K->(aT K).length<=1000000->sF K/\K.length<=(aT K).length
 | [],_,_=>by rw[sF];exact⟨trivial,by simp⟩
 | x::K,h,hl=>by
   rw[xt]at h;rw[aT,List.length_append]at hl ⊢;have h1:=aca x h.1 (by omega);have h2:=TD K h.2 (by omega)
   have h3:1<=(b9 x).length:=by
    obtain⟨n,a,k,t⟩:=x;have hx:=h.1;rw[qa]at hx;obtain⟨hn,rfl,rfl,hk,_⟩:=hx;rw[jw hn.ne hk];omega
   rw[sF,List.length_cons];exact⟨⟨h1,h2.1⟩,by omega⟩
end
theorem Xu {g:Gv} {D:List Dp} (h:Xf (de g D)):xt (ew g D):=by
 refine mw fun x hx=>?_
 unfold ew at hx;rcases List.mem_append.1 hx with hx | hx
 ·simp only[List.mem_cons,List.not_mem_nil,or_false]at hx;rcases hx with rfl | rfl | rfl
  ·exact sZ Db h.g
  ·exact sZ Dc h.a
  ·exact sZ J6 h.v
 ·by_cases e:D=[]
  ·rw[if_pos e]at hx;cases hx
  ·rw[if_neg e,List.mem_singleton]at hx;rw[hx,qa]
   exact⟨CS _ (by decide) (by decide),rfl,rfl,fun e2=>e (List.map_eq_nil_iff.1 e2),.inr (mw fun y hy=>by
    obtain⟨d,hd,rfl⟩:=List.mem_map.1 hy;exact(Iq (h.dX d hd)).1)⟩
theorem Calm.nd {g:Gv} {D:List Dp} (h:Calm g D):z7 (fw (de g D)):=by
 have ht:=h.text;have he:=sY h.w;rw[he]at ht ⊢;refine aca _ ?_ (Nat.le_trans ht (by decide));rw[qa];exact⟨CS _ (by decide) (by decide),rfl,rfl,by unfold ew;simp,.inr (Xu h.w)⟩
theorem Ow (a v:Bs) (s:Int) (O:VH):VF Tryz.prog 29 [.str a,.str v,mi s] O (aH fun m O'=>m= .agg (aQ (ng a v s))/\O.Ge O'):=by
 refine VF.fg ?_;simp only[ng,gS,aQ,ar,List.length_nil,List.flatMap_nil];refine VF.bL 11 [.cell 6 63] Tryz.func29 ?_;refine VC.ag aa (ae @qG ?_);refine VC.ag aa (ae @qG ?_);refine WC.sound aa (ae @qG ?_);exact((VH.Ge.refl O).push _).set (Nat.le_refl _) _
theorem aeo (O:VH):VF Tryz.prog 31 [] O (aH fun m O'=>m= .agg (bN ⟨gS,[97],v1⟩)/\O.Ge O'):=by
 simp only[gS,v1,bN];refine VF.bL 2 [.cell 0 67] Tryz.func31 ?_;refine VC.ag aa (ae @qG ?_);refine VC.ag aa (ae @qG ?_);refine WC.sound aa (ae @qG ?_);exact((VH.Ge.refl O).push _).set (Nat.le_refl _) _
theorem aho {O:VH} {k ke kv ce cv:Nat} {E V:fe} {r a:Int} {S:List (Gv×List Dp)} (h:m7 O k (rowsOf S) E V ke kv ce cv r a) (n v:Bs) (D:List Dp) (tk:Tok) (hc:Calm ⟨gS,n,v⟩ D) (fF:∀p∈S,p.1≠⟨gS,n,v⟩) (hS:S.length<1024):
  VF Tryz.prog 28 [.ptr k 0,.str n,.str v,.sl D.length (D.flatMap aQ) tk] O (aH fun m O'=>m=mb true/\(∃E' V' Q9 Q_,m7 O' k (rowsOf (S++[(⟨gS,n,v⟩,D)])) E' V' ke kv Q9 Q_ r a)/\O.next<=O'.next/\∀i cs,i<O.next->O.hp i=some (.cells cs)->O'.hp i=some (.cells cs)):=by
 have hw:=fun O'=>ZT (O:=O') (de ⟨gS,n,v⟩ D) (by simp[de]) (by simp[de]) (by show D.length<=_;have:=hc.n;omega) (fun d hd=>by
  simp only[de,List.nil_append]at hd;have:=(hc.d d hd).xl;omega)
 have hp:=fun O'=>VO (fw (de ⟨gS,n,v⟩ D)) O' (Nat.le_trans hc.text (by decide)) hc.nd
 have af0:=fun(O':VH) (u:O.Ge O')=>agZ (h.ge u) ⟨gS,n,v⟩ (b9 (fw (de ⟨gS,n,v⟩ D))) hc.may hc.gav (fun x hx=>by
  obtain⟨p,hp,rfl⟩:=List.mem_map.1 hx;exact fF p hp) (by simp[rowsOf];exact hS)
 have cH:rowsOf (S++[(⟨gS,n,v⟩,D)])=rowsOf S++[(⟨gS,n,v⟩,b9 (fw (de ⟨gS,n,v⟩ D)),none)]:=by simp[rowsOf]
 rw[cH];generalize b9 (fw (de ⟨gS,n,v⟩ D))=T at*;generalize fw (de ⟨gS,n,v⟩ D)=X at*;simp only[de,gh,bN,gS,ar,aY,List.length_nil,List.flatMap_nil]at hw af0 ⊢;refine VF.bL 23 [.tmp 8] Tryz.func28 ?_;refine VC.ag aa (ae @qG ?_);refine VC.ag aa (ae @qG ?_);refine VC.al ?_;rintro O1 ⟨aU,fK,du⟩;refine VC.WJ fK (cs':=[.v (.bool false),.str [],.str [],.str [],.str [103],.str n,.str v,.str [],.sl 0 [] .au,.sl 0 [] .au,.sl D.length (D.flatMap aQ) .au]) ?_ ?_
 ·repeat' first
   | exact eD.refl _
   | exact Wk.refl _
   | exact Wk.tok
   | refine eD.cons ?_ ?_
 refine VC.gen ?_;intro O2 e2;have ki:O2.hp O.next=some (.cells [.v (.bool false),.str [],.str [],.str [],.str [103],.str n,.str v,.str [],.sl 0 [] .au,.sl 0 [] .au,.sl D.length (D.flatMap aQ) .au]):=by rw[e2];exact VH.an _ _ _
 have aC:O.Ge O2:=by rw[e2];exact aU.set (Nat.le_refl _) _
 clear e2;refine VC.ag aa (ao @qG @ki ?_);refine ah.rt (hw O2) ?_;rintro _ O3 ⟨rfl,aL⟩;refine ae @qG ?_;refine ah.rt (hp O3) ?_;rintro _ O4 ⟨rfl,aZ⟩;refine ae @qG ?_;have gZ:=(aC.trans aL).trans aZ;refine ah.rt (af0 O4 gZ) ?_;rintro _ O5 ⟨rfl,c5,gD,W6⟩;have ib:=gZ.next;refine ae @qG ?_;refine WC.sound aa (ae @qG ?_);exact⟨c5,by omega,fun i cs h1 h2=>W6 i cs (by omega) ((gZ.hp i h1).trans h2)⟩
theorem Oy (c:UInt8) (h:lA c=true) (h2:c≠36):ri [c]:=nmi (by simp[h]) (by simp) (by simpa using h2)
theorem De {n:Bs} {s:Int} (hn:ri n) (hs:s=0\/s=1\/s=2\/s=3\/s=4\/s=5):Oo (ng n v1 s):=⟨rfl,hn,.one,rfl,rfl,hs,.inl rfl,by simp[ng],by simp[ng]⟩
def gA:Gv:=⟨gS,[97],v1⟩
theorem ahp:ri [97]:=Oy _ (by decide) (by decide)
theorem acb:ri [98]:=Oy _ (by decide) (by decide)
theorem acd:ri [99]:=Oy _ (by decide) (by decide)
theorem Kc:ri [100]:=Oy _ (by decide) (by decide)
theorem wM {O:VH} {k ke kv ce cv:Nat} {E V:fe} {r a:Int} {S:List (Gv×List Dp)} (h:m7 O k (rowsOf S) E V ke kv ce cv r a) {n v:Bs} {D:List Dp} {tk:Tok} {ds:List MV} {l:Nat} (qO:ds=D.flatMap aQ) (hl:l=D.length) (hc:Calm ⟨gS,n,v⟩ D) (fF:∀p∈S,p.1≠⟨gS,n,v⟩) (hS:S.length<1024):
  VF Tryz.prog 28 [.ptr k 0,.str n,.str v,.sl l ds tk] O (aH fun m O'=>m=mb true/\(∃E' V' Q9 Q_,m7 O' k (rowsOf (S++[(⟨gS,n,v⟩,D)])) E' V' ke kv Q9 Q_ r a)/\O.next<=O'.next/\∀i cs,i<O.next->O.hp i=some (.cells cs)->O'.hp i=some (.cells cs)):=by
 subst qO;subst hl
 exact aho h n v D tk hc fF hS
set_option linter.defProp false in
def ji:=And.intro qG aq
def v2:Bs:=[50]
def OI:List (Gv×List Dp):=[(gA,[ng [98] v1 0,ng [99] v1 0]),(⟨gS,[98],v1⟩,[ng [100] v1 0]),(⟨gS,[99],v1⟩,[ng [100] v2 0]),(⟨gS,[100],v1⟩,[]),(⟨gS,[100],v2⟩,[ng [101] v1 0]),(⟨gS,[101],v1⟩,[])]
def TF:List Br:=[⟨-1,0,0,⟨gS,[97],lq,[]⟩,v1,0,false⟩,⟨0,1,0,⟨gS,[98],lq,[]⟩,v1,1,false⟩,⟨0,1,1,⟨gS,[99],lq,[]⟩,v1,1,false⟩,⟨1,2,0,⟨gS,[100],lq,[]⟩,v1,1,false⟩,⟨2,2,0,⟨gS,[100],lq,[]⟩,v2,1,false⟩,⟨4,3,0,⟨gS,[101],lq,[]⟩,v1,1,false⟩]
theorem ajJ:RQ (my OI) gA=some (some TF):=by kernel_rfl
def bnB (b:Br):Bn:=⟨b.up,b.dp,b.od,b.k,b.v,false,b.v,0,[],.au,b.sc,b.rd⟩
def AE:List Bn:=TF.map bnB
theorem aep:TF.flatMap qm=AE.flatMap eH:=rfl
def TG:List Ch:=[⟨⟨gS,[97],lq,[]⟩,0,v1,0⟩,⟨⟨gS,[98],lq,[]⟩,1,v1,1⟩,⟨⟨gS,[99],lq,[]⟩,2,v1,1⟩,⟨⟨gS,[100],lq,[]⟩,3,v1,1⟩]
theorem aeq:fW AE=TG:=by kernel_rfl
theorem aer:(cS AE).2.1=[true,true,true,true,true,false]:=by kernel_rfl
theorem ace:ri [101]:=Oy _ (by decide) (by decide)
theorem acf {n:Bs} (hn:ri n):Oo (ng n v2 0):=⟨rfl,hn,.inr rfl,rfl,rfl,.inl rfl,.inl rfl,by simp[ng],by simp[ng]⟩
theorem OJ:Calm gA [ng [98] v1 0,ng [99] v1 0]:=⟨rfl,ahp,.one,by simp[De acb,De acd],by simp[ng],by simp⟩
theorem OK:Calm ⟨gS,[98],v1⟩ [ng [100] v1 0]:=⟨rfl,acb,.one,by simp[De Kc],by simp,by simp⟩
theorem OL:Calm ⟨gS,[99],v1⟩ [ng [100] v2 0]:=⟨rfl,acd,.one,by simp[acf Kc],by simp,by simp⟩
theorem OM:Calm ⟨gS,[100],v1⟩ []:=⟨rfl,Kc,.one,by simp,by simp,by simp⟩
theorem ON:Calm ⟨gS,[100],v2⟩ [ng [101] v1 0]:=⟨rfl,Kc,.inr rfl,by simp[De ace],by simp,by simp⟩
theorem OP:Calm ⟨gS,[101],v1⟩ []:=⟨rfl,ace,.one,by simp,by simp,by simp⟩
theorem aes:Plain OI:=⟨by simp[OI,OJ,OK,OL,OM,OP,ON],by simp[OI,gA,v1,v2]⟩
set_option maxHeartbeats 4000000 in
theorem acg (hc:BA):vE:=by
 intro O;refine VF.bL 97 [.tmp 0] Tryz.func11 ?_;refine VC.ag aa (ae @ji ?_);refine VC.ag aa (ae @ji ?_);refine ah.rt (adQ O) ?_;rintro _ O1 ⟨rfl,sP,aU⟩;have sW:=sP.st.lt;generalize O.next=k0 at*;refine ae @ji ?_;refine VC.ag aa (ae @ji ?_);have s9:=Ow [98] [49] 0 O1;simp only[ng,aQ,ar,gS,List.length_nil,List.flatMap_nil]at s9;refine ah.rt s9 ?_;clear s9;rintro _ O2 ⟨rfl,aC⟩;have nO2:=(aC).next;refine ae @ji ?_;have s9:=Ow [99] [49] 0 O2;simp only[ng,aQ,ar,gS,List.length_nil,List.flatMap_nil]at s9;refine ah.rt s9 ?_;clear s9;rintro _ O3 ⟨rfl,aL⟩;have nO3:=(aL).next;refine ae @ji ?_;have hs3:m7 O3 (k0+2) (rowsOf []) [] [] k0 (k0+1) 0 0 0 0:=sP.ge (aC.trans aL);refine ah.rt (wM (hs3) (n:=[97]) (v:=v1) (D:=[ng [98] v1 0,ng [99] v1 0]) rfl rfl (OJ) (by decide) (by decide)) ?_;rintro _ O4 ⟨rfl,⟨E4,V4,ce4,cv4,Ng⟩,nO4,hf4⟩;refine ae @ji ?_;have s9:=Ow [100] [49] 0 O4;simp only[ng,aQ,ar,gS,List.length_nil,List.flatMap_nil]at s9;refine ah.rt s9 ?_;clear s9;rintro _ O5 ⟨rfl,bz⟩;have nO5:=(bz).next;refine ae @ji ?_;refine ah.rt (wM (Ng.ge bz) (n:=[98]) (v:=v1) (D:=[ng [100] v1 0]) rfl rfl (OK) (by decide) (by decide)) ?_;rintro _ O6 ⟨rfl,⟨E6,V6,ce6,cv6,Gu⟩,nO6,Ou⟩;refine ae @ji ?_;have s9:=Ow [100] [50] 0 O6;simp only[ng,aQ,ar,gS,List.length_nil,List.flatMap_nil]at s9;refine ah.rt s9 ?_;clear s9;rintro _ O7 ⟨rfl,dM⟩;have nO7:=(dM).next;refine ae @ji ?_;refine ah.rt (wM (Gu.ge dM) (n:=[99]) (v:=v1) (D:=[ng [100] v2 0]) rfl rfl (OL) (by decide) (by decide)) ?_;rintro _ O8 ⟨rfl,⟨E8,V8,ce8,cv8,WG⟩,nO8,hf8⟩;refine ae @ji ?_;refine ah.rt (wM (WG) (n:=[100]) (v:=v1) (D:=[]) rfl rfl (OM) (by decide) (by decide)) ?_;rintro _ O9 ⟨rfl,⟨E9,V9,ce9,cv9,hs9⟩,nO9,hf9⟩;refine ae @ji ?_;have s9:=Ow [101] [49] 0 O9;simp only[ng,aQ,ar,gS,List.length_nil,List.flatMap_nil]at s9;refine ah.rt s9 ?_;clear s9;rintro _ Oa ⟨rfl,hga⟩;have nOa:=(hga).next;refine ae @ji ?_;refine ah.rt (wM (hs9.ge hga) (n:=[100]) (v:=v2) (D:=[ng [101] v1 0]) rfl rfl (ON) (by decide) (by decide)) ?_;rintro _ Ob ⟨rfl,⟨Eb,Vb,ceb,cvb,hsb⟩,nOb,hfb⟩;refine ae @ji ?_;refine ah.rt (wM (hsb) (n:=[101]) (v:=v1) (D:=[]) rfl rfl (OP) (by decide) (by decide)) ?_;rintro _ Oc ⟨rfl,⟨Ec,Vc,cec,cvc,J9⟩,nOc,Lp⟩;refine ae @ji ?_;have af1:m7 Oc (k0+2) (rowsOf OI) Ec Vc k0 (k0+1) cec cvc 0 0:=J9;clear sP hs3 Ng Gu WG hs9 hsb J9 hf4 Ou hf8 hf9 hfb Lp;refine VC.ag aa (ae @ji ?_);have RU:=aeo Oc;simp only[bN,gS,v1]at RU;refine ah.rt RU ?_;rintro _ Od ⟨rfl,P6⟩;refine ae @ji ?_;have Nx:=aen (af1.ge P6) aes gA ajJ;simp only[bN,gA,gS,v1]at Nx;refine ah.rt Nx ?_;rintro _ Oe ⟨⟨tk1,rfl⟩,ne,AO⟩;clear Nx RU AO af1;simp only[oW,iN,ar];rw[aep,show TF.length=AE.length from rfl];have kU:∀b∈AE,∀s∈dj b.k,s.length<=maxLen:=by decide
 have qW:=fun O=>hc AE tk1 O (by decide) kU
 have gI:=fun O=>J1 AE tk1 (by decide) kU O
 rw[aeq]at qW;rw[aer]at gI;have h6:AE.length=6:=rfl;rw[h6];simp only[h6,List.map_cons,List.map_nil,aY]at gI qW;generalize AE.flatMap eH=C1 at*;refine ae @ji ?_;refine VC.al ?_;rintro Of ⟨hgf,hpf,hnf⟩;refine VC.ag aa (ae @ji ?_);refine ah.rt (qW Of) ?_;rintro _ Og ⟨⟨t2,rfl⟩,WQ⟩;refine ae @ji ?_;refine VC.ag aa (ae @ji ?_);refine ah.rt (gI Og) ?_;rintro _ Oh ⟨lb,rfl,hgh,tR,RG,gN⟩;refine ae @ji ?_;refine VC.ag aa (ae @ji ?_);have hfi:=Tv TG t2 ⟨gS,[100],lq,[]⟩ Oh (by decide);simp only[f_,gS,lq]at hfi;refine ah.rt hfi ?_;rintro _ Oi ⟨oQ,rfl⟩;have Gn:RH (TG.find? fun c=>k6 c.k ⟨[103],[100],[106,97,114],[]⟩)= .tuple [.agg [.str [103],.str [100],.str [106,97,114],.str [],mi 3,.str [49],mi 1],mb true]:=rfl;rw[Gn,show TG.length=4 from rfl];clear Gn hfi qW gI kU;refine ae @ji ?_;refine VC.al ?_;rintro Oj ⟨CK,hpj,hnj⟩;have n1:=WQ.next;have n2:=hgh.next;have n3:=oQ.next;have n4:=hgf.next
 have hq:=CK.at (oQ.at (hgh.at (WQ.at hpf)));have hv:=CK.at (oQ.at gN);refine VC.ag aa (ao @ji @hq ?_);refine VL.su aa (bb:=true) (b:=true) (by simp) (by simp[gT]) (.inl ⟨rfl,rfl⟩) (by kernel_rfl) (by kernel_rfl) rfl rfl rfl rfl ?_;refine cU @ji @hpj @hv (show(([49]:List UInt8)==[49])=true from rfl) ?_;refine WC.sound aa (ae @ji ?_);try trivial
section
variable {G H:Gh} {n:Sz} {D:List Deferred} {e e':Env} {a:Act} {P:Program} {tab:bV} {O O':VH} {w:World} {m m':MV} {u v:Value} {ops:Array Oper} {Q:VQ} {c d:Code}
def RV (ops:Array Oper):Bool:=ops.all fun o=>match o.op with
 | .defer _=>false
 | _=>true
theorem Xv {o:Oper} {i:Nat} (h:RV ops=true) (ho:ops[i]?=some o):∀c,o.op≠ .defer c:=fun c hc=>by
 have:=Array.all_eq_true'.1 h o (Array.mem_of_getElem? ho);rw[hc]at this;cases this
def Xw (ro:Option Nat):Fence:={Fence.wide with round:=ro}
theorem vK {ro:Option Nat} {Q:Exit->Act->World->Prop} {K:Act->World->Prop} (hL:¬LetsOut Q) (hd:ro=none\/RV ops=true) (l2:List Nat) (hK:∀a w,K a w->wpOpsIn (Xw ro) 0 P ops Q l2 a w):
  ∀(l1:List Nat) (a:Act) (w:World),wpOps P ops (Exit.then K Q) l1 a w->wpOpsIn (Xw ro) 0 P ops Q (l1++l2) a w:=by
 intro l1;induction l1 with
 | nil=>intro a w h;exact hK a w h
 | cons i rest ih=>
   intro a w h;simp only[wpOps]at h;simp only[List.cons_append,wpOpsIn];cases ho:ops[i]? with
   | none=>simp only[ho]at h;exact ih a w h
   | some o=>
     simp only[ho]at h;by_cases hw:Region.wanted o (yielded ops a.tmps)=true
     ·simp only[hw,if_true]at h ⊢;have hL':¬LetsOut (Exit.then K Q):=hL;rcases h with h | h
      ·refine⟨fun _ _=>trivial,?_⟩
       have hs:o.semAt ro a.eval=execOp a.eval o:=by
        rcases hd with rfl | hd
        ·rfl
        ·exact Oper.semAt_eq _ _ _ (Xv hd ho)
       show o.uponIn (Xw ro) 0 P a _ Q ((o.semAt ro a.eval).run P w);rw[hs];unfold Oper.wp at h;generalize (execOp a.eval o).run P w=r at h ⊢;cases r with
       | ok nx w'=>
         cases nx with
         | value v=>exact ih _ _ h
         | skip=>exact ih _ _ h
         | «defer» d=>exact ih _ _ h
         | enter f args=>
           refine⟨(fun h=>by cases h),?_⟩;have h1:CallsIn (Xw ro) (0 - 1) P f args w' _:=callsIn_wide.2 h;refine h1.mono ?_;intro x F3 hx;cases x with
           | returned v=>exact ih _ _ hx
           | panicked c=>exact hx
           | outgrown=>exact absurd hx hL'
         | row row args=>
           refine⟨(fun h=>by cases h),?_⟩;intro c cs _;obtain⟨v,F3,r,s⟩:=h c cs;exact⟨v,F3,ih _ _ r,stepsIn_wide.2 s⟩
         | _=>exact h.elim
       | halt x w'=>
         cases x<;>first
          | exact h
          | exact False.elim h
      ·exact absurd h.2 hL'
     ·simp only[hw,if_false,Bool.false_eq_true]at h ⊢;exact⟨fun _ _=>trivial,ih _ _ h⟩
theorem BG:¬LetsOut (cg G n D Q):=by
 rintro⟨a,w,x,e,O,H,_,_,_,h,_⟩;cases x<;>exact h
theorem then_self {Q:Exit->Act->World->Prop}:Exit.then (Q .normal) Q=Q:=by
 funext y a w
 cases y<;>rfl
def GL (P:Program) (n:Sz) (y:Nat) (c:Code) (e:Env) (O:VH) (Q:VQ):Prop:=∀G a w,WR G O w->FR G n [] e a->c.wpIn (Xw (some y)) 0 P (cg G n [] Q) a w
theorem Kd (l:List Oper) (L:List Oper) (k:Nat) (hL:∀j,L[j]?=none\/L[j]?=l[k+j]?) (h:VL P n D .plain ⟨l⟩ (L.map (Fl.one, ·)) e O Q):il P n D ⟨l⟩ (List.range' k L.length) e O Q:=by
 have:=h 0 #[] _ (uE (ops:=⟨l⟩) L k fun j=>by simpa using hL j) (fun h=>absurd rfl h);simp only[Yg,List.map_map]at this;rw[show((fun x:Nat×Fl=>x.1) ∘ fun x=>(x,Fl.one))=_root_.id from rfl,List.map_id]at this;exact this
theorem GL.region {y id:Nat} {l:List Oper} (h:WL P tab n [] .plain ⟨l⟩ Q (l.map (Fl.one, ·)) e O) (ht:aM P tab:=by exact aa) (hd:RV ⟨l⟩=true:=by kernel_rfl):GL P n y (.region id ⟨l⟩ false) e O Q:=by
 intro G a w hw hf;have h1:=Kd l l 0 (fun j=>.inr (by simp)) (WL.sound ht h);refine wpIn_region ?_;rw[show(⟨l⟩:Array Oper).size=l.length from rfl,List.range_eq_range', <-List.append_nil (List.range' 0 l.length)];exact vK (K:=cg G n [] Q .normal) BG (.inr hd) [] (fun _ _ h=>h) _ a w (by rw[then_self];exact h1 G a w hw hf)
theorem GL.block {y id:Nat} (h:GL P n y c e O (iq id Q)):GL P n y (.block id c) e O Q:=by
 intro G a w hw hf;refine wpIn_block (wpIn_mono (h G a w hw hf) ?_);rintro y a' w' ⟨x,e',O',H,h1,h2,h3,h4,h5⟩;cases y with
 | exit j=>
   cases x with
   | exit i=>
     obtain rfl:i=j:=h4;simp only[Exit.inBlock];simp only[iq]at h5;split
     ·rename_i hi;rw[if_pos hi]at h5;exact⟨.normal,e',O',H,h1,h2,h3,trivial,h5⟩
     ·rename_i hi;rw[if_neg hi]at h5;exact⟨.exit i,e',O',H,h1,h2,h3,rfl,h5⟩
   | _=>exact False.elim h4
 | _=>cases x<;>first
   | exact False.elim h4
   | exact⟨_,e',O',H,h1,h2,h3,h4,h5⟩
def VY (P:Program) (y:Nat) (ms:List MV) (O:VH) (R:MV->VH->Prop):Prop:=∀G w vs,WR G O w->aO G ms vs->YieldAt Fence.wide 0 P y vs.toArray w fun x w'=>∃v m O' H,x= .returned v/\Gh.Le G H/\WR H O' w'/\VR H m v/\R m O'
def lpF (k y:Nat) (ts:Array Value) (n:Sz) (e:Env):GP:=⟨fun G=>G.bJ k=some y/\FR G n [] e {tmps:=ts,defers:=[]},fun hl h=>⟨hl.bJ h.1,h.2.mono hl⟩⟩
def rj:List Tmp->List MV->Env->Env
 | t::ts,m::ms,e=>rj ts ms ((t,m)::e)
 | _,_,e=>e
theorem FR.rj:∀{ps:List Tmp} {ms:List MV} {vs:List Value} {e:Env} {ts:Array Value},FR G n D e {tmps:=ts,defers:=D}->aO G ms vs->ps.all (fun t=>decide (t<n.n))=true->
  FR G n D (rj ps ms e) {tmps:=(ps.zip vs).foldl (fun t (p:Tmp×Value)=>t.setIfInBounds p.1 p.2) ts,defers:=D}
 | [],ms,vs,e,ts,h,_,_=>by simpa[Go.Proofs.YtoclnkfdahmnhaaGreatDoor.rj]using h
 | t::ps,[],vs,e,ts,h,hv,_=>by rw[hv.ic];simpa[Go.Proofs.YtoclnkfdahmnhaaGreatDoor.rj]using h
 | t::ps,m::ms,vs,e,ts,h,hv,ha=>by
   obtain⟨u,us,rfl,h1,h2⟩:=hv.eh;simp only[List.all_cons,Bool.and_eq_true,decide_eq_true_eq]at ha;exact FR.rj (ps:=ps) (h.put ha.1 h1) h2 ha.2
def RdB (k:Nat) (r:Loop) (R:MV->VH->Prop):VQ:=fun x _ O2=>x= .normal/\O2.hp k=some (.obj (.loop {r with state:=.busy}))/\R (.v (.bool true)) (O2.set k (.obj (.loop {r with pending:=none})))
def RdA (P:Program) (n:Sz) (y k:Nat) (r:Loop) (body:Code) (R:MV->VH->Prop):VQ:=fun x e1 O1=>x= .normal/\O1.hp k=some (.obj (.loop r))/\GL P n y body e1 (O1.set k (.obj (.loop {r with state:=.busy}))) (RdB k r R)
theorem VY.round {y k j:Nat} {r:Loop} {ps:List Tmp} {ms:List MV} {R:MV->VH->Prop} (hk:O.hp k=some (.obj (.loop r))) (hj:O.hp j=some (.fact (lpF k y r.tmps n e))) (hr:r.state= .ready) (hp:r.params.toList=ps) (hn:ps.all (fun t=>decide (t<n.n))=true) (hl:ms.length=ps.length)
  (h:GL P n y r.assign (rj ps ms e) O (RdA P n y k r r.body R)):VY P y ms O R:=by
 intro G w vs hw hv;obtain⟨b,hb,hh⟩:=hw.obj k _ hk;obtain⟨ee,aS⟩:=hw.AG j _ hj;rw[ee]at hb;injection hb with hb;subst hb
 have oc:vs.toArray.size=r.params.size:=by
  rw[show vs.toArray.size=vs.length from rfl,hv.1,hl, <-hp];rfl
 refine⟨r.fn,_,r.assign,r.body,run_yield hh oc,roundIn_of_wpIn trivial ?_⟩
 have ajK:FR G n [] (rj ps ms e) {tmps:=(r.params.zip vs.toArray).foldl (fun t (p:Tmp×Value)=>t.setIfInBounds p.1 p.2) r.tmps,defers:=[]}:=by
  rw[<-Array.foldl_toList,Array.toList_zip,hp];exact FR.rj aS hv hn
 refine wpIn_mono (h G _ w hw ajK) ?_;rintro x a1 w1 ⟨x',e1,O1,H,g1,g2,g3,g4,rfl,dN,ahq⟩
 cases x<;>first
  | exact False.elim g4
  | skip
 have ach:=g1.bJ ee;obtain⟨b,hb,hh1⟩:=g2.obj k _ dN;rw[ach]at hb;injection hb with hb;subst hb
 have oP:=g2.setObj (Y:=.loop {r with state:=.busy}) dN ach (fun _ _ _ e=>by cases e);refine⟨_,run_beginRound hh1 hr,wpIn_mono (ahq H a1 _ oP g3) ?_⟩;rintro x a2 w2 ⟨x',e2,O2,H2,q1,q2,q3,q4,rfl,bt,hR⟩
 cases x<;>first
  | exact False.elim q4
  | skip
 have af2:=q1.bJ ach;obtain⟨b,hb,hh2⟩:=q2.obj k _ bt;rw[af2]at hb;injection hb with hb;subst hb
 refine⟨_,_,run_endRound none hh2,_,_,_,H2,rfl,g1.trans q1,q2.setObj bt af2 (fun _ _ _ e=>by cases e),.v rfl,?_⟩;have:({r with state:=.ready,pending:=none}:Loop)={r with pending:=none}:=by rw[<-hr]
 simp only[Option.isNone_none,if_true];rw[this];exact hR
def YW (P:Program) (tab:bV) (n:Sz) (D:List Deferred) (l:List Oper) (k:Nat) (o:Oper) (x:Operand) (as_:Array Operand) (Q:VQ):VQ:=fun z e1 O1=>z= .normal/\∃y ms R,aK ⟨l⟩ o e1=some true/\ev e1 x=some (.func (.yield y) [] [])/\fE e1 as_.toList=some ms/\bh n o.dst=true/\VY P y ms O1 R/\
   ∀m O',R m O'->WL P tab n D .plain ⟨l⟩ Q ((l.drop (k+1)).map (Fl.one, ·)) (aV o.dst m e1) O'
theorem YW.mk {l:List Oper} {k:Nat} {o:Oper} {x:Operand} {as_:Array Operand} {y:Nat} {ms:List MV} {R:MV->VH->Prop} (hv:VY P y ms O R) (h:∀m O',R m O'->WL P tab n D .plain ⟨l⟩ Q ((l.drop (k+1)).map (Fl.one, ·)) (aV o.dst m e) O') (h1:aK ⟨l⟩ o e=some true:=by exact rfl) (h2:ev e x=some (.func (.yield y) [] []):=by exact rfl) (h3:fE e as_.toList=some ms:=by exact rfl) (h4:bh n o.dst=true:=by exact rfl):YW P tab n D l k o x as_ Q .normal e O:=
 ⟨rfl,y,ms,R,h1,h2,h3,h4,hv,h⟩
theorem VC.yield {id:Nat} (k:Nat) {l:List Oper} {o:Oper} {ca:Call} {x:Operand} (hk:l[k]?=some o) (si:o.op= .call ca) (hc:ca.callee= .value x)
  (h:WL P tab n D .plain ⟨l⟩ (YW P tab n D l k o x ca.args Q) ((l.take k).map (Fl.one, ·)) e O) (ht:aM P tab:=by exact aa):VC P n D (.region id ⟨l⟩ false) e O Q:=by
 intro G a w hw hf;have kU:k<l.length:=(List.getElem?_eq_some_iff.1 hk).1;rw[<-wpIn_wide (n:=0)];refine wpIn_region ?_;have hlen:(l.take k).length=k:=by rw[List.length_take];omega
 have h1:=Kd l (l.take k) 0 (fun j=>by
  by_cases hj:j<k
  ·rw[List.getElem?_take,if_pos hj,Nat.zero_add];exact .inr rfl
  ·exact .inl (by rw[List.getElem?_take,if_neg hj])) (WL.sound ht h)
 rw[hlen]at h1
 have aet:List.range (⟨l⟩:Array Oper).size=List.range' 0 k++k::List.range' (k+1) (l.drop (k+1)).length:=by
  rw[show(⟨l⟩:Array Oper).size=l.length from rfl,List.range_eq_range',List.length_drop];obtain⟨j,hj⟩:∃j,l.length=k+(j+1):=⟨l.length - k - 1,by omega⟩
  rw[hj,show k+(j+1) - (k+1)=j from by omega, <-List.range'_append_1,Nat.zero_add,List.range'_succ]
 rw[aet]
 refine vK (ro:=none) (K:=fun a1 w1=>∃e1 O1 H,Gh.Le G H/\WR H O1 w1/\FR H n D e1 a1/\∃y ms R,aK ⟨l⟩ o e1=some true/\ev e1 x=some (.func (.yield y) [] [])/\fE e1 ca.args.toList=some ms/\bh n o.dst=true/\VY P y ms O1 R/\
   ∀m O',R m O'->WL P tab n D .plain ⟨l⟩ Q ((l.drop (k+1)).map (Fl.one, ·)) (aV o.dst m e1) O') BG (.inl rfl) _ ?_ _ a w ?_
 ·rintro a1 w1 ⟨e1,O1,H,g1,g2,g3,y,ms,R,q1,q2,q3,q4,q5,q6⟩;have ED:(⟨l⟩:Array Oper)[k]?=some o:=by simpa using hk
  simp only[wpOpsIn,ED,bd g3 q1,if_true];refine⟨fun _ _=>trivial,?_⟩;have rB:=g3.ev q2;generalize AO:a1.eval x=fv at rB;cases rB with
  | func h1 h2 h3 h4=>
    rename_i us vs;have iX:us=[]:=List.eq_nil_of_length_eq_zero h1;have nS:vs=[]:=List.eq_nil_of_length_eq_zero h3;subst iX;subst nS
    have gH:=g3.fE q3;obtain⟨fn,tmps,asg,body,bU,aeu⟩:=q5 H w1 _ g2 gH
    have hex:(execOp a1.eval o).run P w1= .ok (.round y fn tmps asg body) w1:=by
     have ha: #[]++ca.args.map a1.eval=(ca.args.toList.map a1.eval).toArray:=by apply Array.ext';simp
     simp only[execOp,si,resolve,hc,AO,Deferred.ofValue,Sem.run_bind,Sem.run_pure,Result.andThen_ok,invoke];rw[ha];exact bU
    show o.uponIn (Xw none) 0 P a1 _ _ ((execOp a1.eval o).run P w1);rw[hex,Oper.uponIn_round];refine⟨(fun h=>by cases h),RoundIn.mono aeu ?_⟩;rintro x w2 ⟨v,m,O',H2,rfl,p1,p2,p3,p4⟩;have h2:=Kd l (l.drop (k+1)) (k+1) (fun j=>.inr (by rw[List.getElem?_drop])) (WL.sound ht (q6 m O' p4));have h3:=h2 H2 (a1.put o.dst v) w2 p2 ((g3.mono p1).aV q4 p3);have h4:=lP (fun _ _ _=>cg.le (g1.trans p1)) _ _ _ h3;have:=vK (ro:=none) (K:=cg G n D Q .normal) BG (.inl rfl) [] (fun _ _ h=>h) _ _ w2 (by rw[then_self];exact h4);rw[List.append_nil]at this;exact this
 ·refine lP ?_ _ _ _ (h1 G a w hw hf);rintro y a1 w1 ⟨z,e1,O1,H,g1,g2,g3,g4,rfl,g5⟩
  cases y<;>first
   | exact False.elim g4
   | exact⟨e1,O1,H,g1,g2,g3,g5⟩
def OQ (G:Gh):List Nat->List Deferred->Prop
 | [],[]=>True
 | j::js,d::D=>(∃b,G.bJ j=some b/\d={target:=.collected b,args:= #[]})/\OQ G js D
 | _,_=>False
theorem OQ.mono (h:G.Le H):∀{js:List Nat} {D:List Deferred},OQ G js D->OQ H js D
 | [],[],_=>trivial
 | _::_,_::_,⟨⟨b,h1,h2⟩,h3⟩=>⟨⟨b,h.bJ h1,h2⟩,h3.mono h⟩
 | [],_::_,h=>h.elim
 | _::_,[],h=>h.elim
abbrev GM:=VX->Env->VH->List Nat->Prop
def o5 (G:Gh) (n:Sz) (Q:GM):Exit->Act->World->Prop:=fun y a w=>∃x e O H js D,Gh.Le G H/\WR H O w/\FR H n D e a/\OQ H js D/\XR H x y/\Q x e O js
theorem o5.le (h:G.Le H) {Q:GM} {y:Exit} (hp:o5 H n Q y a w):o5 G n Q y a w:=by
 obtain⟨x,e,O,K,js,D,h1,h2⟩:=hp;exact⟨x,e,O,K,js,D,h.trans h1,h2⟩
def VM (P:Program) (n:Sz) (js:List Nat) (c:Code) (e:Env) (O:VH) (Q:GM):Prop:=∀G D a w,WR G O w->OQ G js D->FR G n D e a->c.wp P (o5 G n Q) a w
def j6 (P:Program) (n:Sz) (js:List Nat) (c:Code) (Q:GM):Env->VH->Prop:=fun e O=>VM P n js c e O Q
def AtM (Q:GM) (js:List Nat):VQ:=fun x e O=>Q x e O js
variable {js:List Nat} {M:GM}
theorem FRX.fr {x:VX} (h:FRX G n D x e a):FR G n D e a:=by
 cases x<;>first
  | exact h
  | exact h.2
theorem j6.mk (h:VM P n js c e O M):j6 P n js c M e O:=h
theorem VM.Gj (h:∀D,VC P n D c e O (AtM M js)):VM P n js c e O M:=fun G D a w hw hm hf=>wp_mono (h D G a w hw hf) fun y a' w' ⟨x,e',O',H,h1,h2,h3,h4,h5⟩=>⟨x,e',O',H,js,D,h1,h2,h3.fr,hm.mono h1,h4,h5⟩
theorem VM.ag (h:∀D,VC P n D c e O (qp (j6 P n js d M) (AtM M js))):VM P n js (.seq c d) e O M:=by
 intro G D a w hw hm hf;refine wp_seq (wp_mono (h D G a w hw hf) ?_);rintro y a1 w1 ⟨x,e',O',H,g1,g2,g3,g4,g5⟩
 cases y<;>cases x<;>first
  | exact False.elim g4
  | exact wp_mono (g5 H D a1 w1 g2 (hm.mono g1) g3) fun _ _ _=>o5.le g1
  | exact⟨_,e',O',H,js,D,g1,g2,g3.fr,hm.mono g1,g4,g5⟩
  | exact⟨_,e',O',H,js,D,g1,g2,g3,hm.mono g1,g4,g5⟩
theorem VM.qH (h:∀D,WC P tab n D c e O (qp (j6 P n js d M) (AtM M js))) (ht:aM P tab:=by exact aa):VM P n js (.seq c d) e O M:=VM.ag fun D=>WC.sound ht (h D)
theorem VM.seq (h:VM P n js c e O fun x e O js=>match x with
  | .normal=>VM P n js d e O M
  | x=>M x e O js):VM P n js (.seq c d) e O M:=by
 intro G D a w hw hm hf;refine wp_seq (wp_mono (h G D a w hw hm hf) ?_);rintro y a1 w1 ⟨x,e',O',H,vL,D',g1,g2,g3,g4,g5,g6⟩
 cases y<;>cases x<;>first
  | exact False.elim g5
  | exact wp_mono (g6 H D' a1 w1 g2 g4 g3) fun _ _ _=>o5.le g1
  | exact⟨_,e',O',H,vL,D',g1,g2,g3,g4,g5,g6⟩
theorem VM.join {σ :Type} (l:List Nat) (ms: σ ->List MV) (I: σ ->VH->List Nat->Prop) (h1:VM P n js c e O fun x e O js=>match x with
  | .normal=>∃s,looks e l=some (ms s)/\I s O js
  | x=>M x e O js) (h2:∀s O js,I s O js->VM P n js d (iY l (ms s) []) O M):VM P n js (.seq c d) e O M:=by
 refine VM.seq fun G D a w hw hm hf=>wp_mono (h1 G D a w hw hm hf) ?_
 rintro y a1 w1 ⟨x,e',O',H,vL,D',g1,g2,g3,g4,g5,g6⟩;cases x with
 | normal=>
   obtain⟨s,h3,h4⟩:=g6;exact⟨.normal,iY l (ms s) [],O',H,vL,D',g1,g2,g3.less (iu (e0:=[]) (fun t x h=>by simp[look]at h) h3),g4,g5,h2 s O' vL h4⟩
 | _=>exact⟨_,e',O',H,vL,D',g1,g2,g3,g4,g5,g6⟩
theorem VM.cond {x:Operand} {t:Bool} {c1 c2:Code} (hc:ev e x=some (mb t)) (h:VM P n js (if t then c1 else c2) e O M):VM P n js (.cond x c1 c2) e O M:=by
 intro G D a w hw hm hf;have hv:=hf.ev hc;generalize hx:a.eval x=u at hv;have:=VR.iD hv;subst this;exact wp_cond hx (h G D a w hw hm hf)
def Ir (id:Nat) (M:GM):GM:=fun x e O js=>match x with
 | .exit i=>if i=id then M .normal e O js else M (.exit i) e O js
 | x=>M x e O js
theorem Ir.ex {id:Nat} (h:M .normal e O js):AtM (Ir id M) js (.exit id) e O:=by
 show(if id=id then M .normal e O js else M (.exit id) e O js);rw[if_pos rfl];exact h
theorem VM.block {id:Nat} (h:VM P n js c e O (Ir id M)):VM P n js (.block id c) e O M:=by
 intro G D a w hw hm hf;refine wp_block (wp_mono (h G D a w hw hm hf) ?_);rintro y a' w' ⟨x,e',O',H,vL,D',h1,h2,h3,h4,h5,h6⟩;cases y with
 | exit j=>
   cases x with
   | exit i=>
     obtain rfl:i=j:=h5;simp only[Exit.inBlock];simp only[Ir]at h6;split
     ·rename_i hi;rw[if_pos hi]at h6;exact⟨.normal,e',O',H,vL,D',h1,h2,h3,h4,trivial,h6⟩
     ·rename_i hi;rw[if_neg hi]at h6;exact⟨.exit i,e',O',H,vL,D',h1,h2,h3,h4,rfl,h6⟩
   | _=>exact False.elim h5
 | _=>cases x<;>first
   | exact False.elim h5
   | exact⟨_,e',O',H,vL,D',h1,h2,h3,h4,h5,h6⟩
theorem VM.loop {σ :Type} {ks:List MV} (l K:List Nat) (ms: σ ->List MV) (I: σ ->VH->List Nat->Prop) (μ : σ ->Nat) (s0: σ) (hI:I s0 O js)
  (step:∀s O js,I s O js->VM P n js c (iY l (ms s) (iY K ks [])) O fun x e' O' vL=>match x with
   | .normal=>looks e' K=some ks/\∃s',looks e' l=some (ms s')/\I s' O' vL/\ μ s'< μ s
   | x=>M x e' O' vL) (h0:looks e l=some (ms s0):=by exact rfl) (hk:looks e K=some ks:=by exact rfl):VM P n js (.loop c) e O M:=by
 intro G D a w hw hm hf;refine wp_loop_rounds (μ s0+1) ?_
 suffices h:∀(k:Nat) (s: σ) (e:Env) (O:VH) (js:List Nat) (G:Gh) (D:List Deferred) (a:Act) (w:World), μ s=k->looks e l=some (ms s)->looks e K=some ks->I s O js->WR G O w->OQ G js D->FR G n D e a->Code.rounds P c (o5 G n M) (k+1) a w from
  h _ s0 e O js G D a w rfl h0 hk hI hw hm hf
 intro k;induction k using Nat.strongRecOn with
 | _ k ih=>
   intro s e O js G D a w hs hl hK hI hw hm hf;rw[rounds_succ];refine wp_mono (step s O js hI G D a w hw hm (hf.less (iu (iu (e0:=[]) (fun t x h=>by simp[look]at h) hK) hl))) ?_;rintro y a' w' ⟨x,e',O',H,vL,D',h1,h2,h3,h4,h5,h6⟩
   cases y<;>cases x<;>first
    | exact False.elim h5
    | exact⟨_,e',O',H,vL,D',h1,h2,h3,h4,h5,h6⟩
    | (obtain⟨q1,s',q2,q3,q4⟩:=h6
       exact xL (μ s'+1) k a' w' (by omega) (sk (fun _ _ _=>o5.le h1) _ _ _ (ih (μ s') (by omega) s' e' O' vL H D' a' w' rfl q2 q1 q3 h2 h4 h3)))
theorem WR.Xx (h:WR G O w) (p:GP) (hp:p.p G):WR G (O.push (.fact p)) w:=by
 have hne:∀{j x},bn O.hp O.next (some (.fact p)) j=some x->(∀q,x≠ .fact q)->O.hp j=some x:=fun{j x} hj hx=>by
  by_cases e:j=O.next
  ·subst e;rw[aE]at hj;injection hj with hj;exact absurd hj.symm (hx _)
  ·rwa [ax _ _ e]at hj
 have gI:∀j b,G.bJ j=some b->bn O.hp O.next (some (.fact p)) j≠none->O.hp j≠none:=fun j b hj hn=>by
  rwa [ax _ _ (fun e=>by subst e;rw[h.l0.1]at hj;cases hj)]at hn
 refine⟨h.base,h.d_,fun j hj=>?_,fun j c hj=>?_,fun i j c li lj hi hj=>h.inj i j c (gI i c hi li) (gI j c hj lj) hi hj,fun j cs hj=>h.cells j cs (hne hj (by simp)),fun j es ck hj=>h.map j es ck (hne hj (by simp)),fun t ht=>h.tok t (hne ht (by simp)),fun s t c x y hs ht=>h.k9 s t c x y (hne hs (by simp)) (hne ht (by simp)),fun j k' t' n' hj=>h.nP j k' t' n' (hne hj (by simp)),fun j x hj=>h.obj j x (hne hj (by simp)),h.qf,fun j q hj=>?_⟩
 ·have hj:O.next+1<=j:=hj;obtain⟨h1,h2,h3⟩:=h.o8 j (by omega);exact⟨h1,h2,by show bn _ _ _ _=_;rw[ax _ _ (by omega)];exact h3⟩
 ·obtain⟨p1,p2,p3⟩:=h.jX j c hj;exact⟨p1,p2,fun hn=>p3 (gI j c hj hn)⟩
 ·have hj:bn O.hp O.next (some (.fact p)) j=some (.fact q):=hj;by_cases e:j=O.next
  ·subst e;rw[aE]at hj;injection hj with hj;injection hj with hj;subst hj;exact hp
  ·rw[ax _ _ e]at hj;exact h.AG j q hj
def lpO (O:VH) (r:Loop) (y:Nat) (n:Sz) (e:Env):VH:=((O.push (.obj (.deferred (some [])))).push (.obj (.loop r))).push (.fact (lpF (O.next+1) y r.tmps n e))
theorem VM.aev {g:Operand} {ps:Array Tmp} {asg body:Code} {gf:FuncId} {cs:List MV} (hg:ev e g=some (.func (.func gf) [] cs)) (hE:Enters P gf)
  (hit:∀(y:Nat) (r:Loop) (F:VH),F=lpO O r y n e->r.state= .ready->r.pending=none->r.params=ps->r.assign=asg->r.body=body->VF P gf (.func (.yield y) [] []::cs) F
   (aH fun _ O'=>O'.hp (O.next+1)=some (.obj (.loop r))/\M .normal e (O'.set (O.next+1) (.obj (.loop {r with state:=.exhausted}))) (O.next::js))):
  VM P n js (.rangeFunc g ps asg body) e O M:=by
 intro G D a w hw hm hf;rw[<-wpIn_wide (n:=0)];refine wpIn_rangeFunc ?_;intro fn _;have rB:=hf.ev hg;generalize AO:a.eval g=fv at rB;cases rB with
 | func h1 h2 h3 h4=>
   rename_i us vs;have iX:us=[]:=List.eq_nil_of_length_eq_zero h1;subst iX;obtain⟨r,hr⟩:∃r:Loop,r={state:=.ready,pending:=none,fn,tmps:=a.tmps,params:=ps,assign:=asg,body,defers:=w.heap.size}:=⟨_,rfl⟩
   obtain⟨le1,w1⟩:=hw.LO (.deferred (some []));obtain⟨RW,w2⟩:=w1.LO (.loop r);rw[size_alloc]at RW w2;generalize hG1:({G with bJ:=bn G.bJ O.next (some w.heap.size)}:Gh)=G1 at le1 w1 RW w2;generalize hG2:({G1 with bJ:=bn G1.bJ (O.push (.obj (.deferred (some [])))).next (some (w.heap.size+1))}:Gh)=G2 at RW w2;have p1:G1.bJ O.next=some w.heap.size:=by rw[<-hG1];exact aE _ _ _
   have p2:G2.bJ (O.next+1)=some (w.heap.size+1):=by rw[<-hG2];exact aE _ _ _
   have kI:r.tmps=a.tmps:=by rw[hr]
   have ajL:FR G2 n [] e {tmps:=r.tmps,defers:=[]}:=by
    rw[kI];exact(show FR G n [] e {tmps:=a.tmps,defers:=[]}from⟨rfl,hf.size,hf.get⟩).mono (le1.trans RW)
   have w3:=w2.Xx (lpF (O.next+1) (w.heap.size+1) r.tmps n e) ⟨p2,ajL⟩;have dP:aO G2 cs vs:=aO.mono (le1.trans RW) ⟨h3,h4⟩;have ahr:=hit (w.heap.size+1) r _ rfl (by rw[hr]) (by rw[hr]) (by rw[hr]) (by rw[hr]) (by rw[hr]) G2 _ (.func (.yield (w.heap.size+1)) #[] #[]::vs) w3 (aO.cons (.func (us:=[]) (vs:=[]) rfl (fun i c u h=>by simp at h) rfl (fun i c u h=>by simp at h)) dP);refine⟨w.heap.size+1,[{target:=.collected w.heap.size,args:= #[]}],(w.alloc (.deferred (some []))).alloc (.loop r),{target:=.fn (.func gf) vs.toArray,args:= #[.func (.yield (w.heap.size+1)) #[] #[]]},(w.alloc (.deferred (some []))).alloc (.loop r),gf,(.func (.yield (w.heap.size+1)) #[] #[]::vs).toArray,(w.alloc (.deferred (some []))).alloc (.loop r),?_,?_,fun _ _=>trivial,?_,(fun h=>by cases h),?_⟩
   ·rw[hr];exact run_enterLoop_outer _ _ _ _ _
   ·simp only[resolve,AO];simp[go_sem]
   ·have:(#[.func (.yield (w.heap.size+1)) #[] #[]]++vs.toArray:Array Value)=(.func (.yield (w.heap.size+1)) #[] #[]::vs).toArray:=by apply Array.ext';simp
    show(callFunc gf (#[.func (.yield (w.heap.size+1)) #[] #[]]++vs.toArray)).run P _=_;rw[this];exact hE _ _
   ·refine(callsIn_wide.2 ahr).mono ?_;rintro x w4 ⟨rr,O4,H,q1,q2,q3,q4⟩;cases rr with
    | panic m=>exact q4.elim
    | ret m=>
      cases x with
      | panicked c=>exact q3.elim
      | outgrown=>exact q3.elim
      | returned v=>
        obtain⟨jl,hM⟩:=q4;have af3:=q1.bJ p2;obtain⟨b,hb,hh4⟩:=q2.obj _ _ jl;rw[af3]at hb;injection hb with hb;subst hb
        have hle:Gh.Le G H:=le1.trans (RW.trans q1);refine⟨r.pending,_,run_endLoop hh4 (by rw[hr];simp),?_⟩
        have mq:o5 G n M .normal {tmps:=a.tmps,defers:=[{target:=.collected w.heap.size,args:= #[]}]++a.defers} (w4.putObj (w.heap.size+1) (.loop {r with state:=.exhausted})):=
         ⟨.normal,e,_,H,O.next::js,{target:=.collected w.heap.size,args:= #[]}::D,hle,q2.setObj jl af3 (fun _ _ _ e=>by cases e),⟨by show _::a.defers=_;rw[hf.defers],hf.size,(hf.mono hle).get⟩,⟨⟨w.heap.size,q1.bJ (RW.bJ p1),rfl⟩,hm.mono hle⟩,trivial,hM⟩
        generalize w4.putObj (w.heap.size+1) (.loop {r with state:=.exhausted})=w5 at mq;split
        ·exact mq
        ·rename_i c hc;rw[hr]at hc;cases hc
theorem xx {fn:Func} {tmps:Array Value} {R:Ending->World->Prop} {N:Nat}:∀(js:List Nat) (D:List Deferred) (G:Gh) (O:VH) (w:World),OQ G js D->WR G O w->js.Nodup->(∀j∈js,O.hp j=some (.obj (.deferred (some []))))->
  (∀O' w',WR G O' w'->O'.next=O.next->(∀i,i ∉ js->O'.hp i=O.hp i)->∃v,(results fn tmps).run P w'= .ok v w'/\R (.returned v) w')->LeavesInM Fence.wide N P fn tmps R D .returning w
 | [],[],G,O,w,_,hw,_,_,h=>h O w hw rfl fun _ _=>rfl
 | j::js,d::D,G,O,w,⟨⟨b,hb,hd⟩,hm⟩,hw,Ko,ho,h=>by
   obtain⟨b',mz,hh⟩:=hw.obj j _ (ho j (by simp));rw[hb]at mz;injection mz with mz;subst mz
   have hj:=(List.nodup_cons.1 Ko).1;have oP:=hw.setObj (Y:=.deferred none) (ho j (by simp)) hb (fun _ _ _ e=>by cases e);refine⟨by simp,.inl ⟨b,_,by rw[hd],run_takeDeferred hh,?_⟩⟩;refine xx js D G _ _ hm oP (List.nodup_cons.1 Ko).2 (fun i hi=>?_) fun O' w' g1 g2 g3=>h O' w' g1 g2 fun i hi=>?_
   ·rw[VH.ak _ _ (fun e=>hj (by rw[<-e];exact hi))];exact ho i (by simp[hi])
   ·rw[List.mem_cons,not_or]at hi;rw[g3 i hi.2,VH.ak _ _ hi.1]
 | [],_::_,_,_,_,h,_,_,_,_=>h.elim
 | _::_,[],_,_,_,h,_,_,_,_=>h.elim
def ajM (tab:bV) (rs:List ResultVar) (R:fO->VH->Prop):GM:=fun x e O js=>(x= .normal\/x= .ret)/\js.Nodup/\(∀j∈js,O.hp j=some (.obj (.deferred (some []))))/\∀O',O'.next=O.next->(∀i,i ∉ js->O'.hp i=O.hp i)->∃m,iO (fun r O'=>r= .ret m/\R r O') O' (iw tab e O' rs)
theorem VF.inM {f:FuncId} {fn:Func} {c:Code} {args:List MV} {R:fO->VH->Prop} (k:Nat) (rs:List ResultVar) (hf:P.funcs[f]?=some fn) (h:VM P ⟨k,0⟩ [] c (cf 0 args) O (ajM tab rs R)) (ht:aM P tab:=by exact aa) (hb:fn.body=some c:=by exact rfl) (hk:(⟨fn.ntmps,0⟩:Sz)=⟨k,0⟩:=by exact rfl) (hr:fn.results.toList=rs:=by exact rfl) (hn:args.length<=k:=by exact Nat.le_of_ble_eq_true rfl):VF P f args O R:=by
 have hk:fn.ntmps=k:=by injection hk
 intro G w vs hw hv
 have aS:FR G ⟨k,0⟩ [] (cf 0 args) {tmps:=vs.toArray++Array.replicate (fn.ntmps - vs.toArray.size) undef,defers:=[]}:=by
  have hl:=hv.1;refine⟨rfl,by simp;omega,fun t x hx=>?_⟩;rw[im,if_pos (Nat.zero_le _),Nat.sub_zero]at hx;obtain⟨u,h1,h2⟩:=hv.get hx;refine⟨u,?_,h2⟩;have eb:=(List.getElem?_eq_some_iff.1 h1).1;rw[Array.getElem?_append_left (by simpa using eb)];simpa using h1
 refine callsIn_wide.1 (callsIn_of_wp_marks (n:=0) hf hb trivial (wpIn_wide.2 (wp_mono (h G [] _ w hw trivial aS) ?_)));rintro y a' w' ⟨x,e',O',H,js,D,h1,h2,h3,h4,h5,h6,h7,h8,h9⟩
 have fin:LeavesInM Fence.wide 0 P fn a'.tmps (fun x w'=>∃r O' H,Gh.Le G H/\WR H O' w'/\ER H r x/\R r O') a'.defers .returning w':=by
  rw[h3.defers];refine xx js D H O' w' h4 h2 h7 h8 fun O2 w2 g1 g2 g3=>?_
  obtain⟨m,hm⟩:=h9 O2 g2 g3
  have key:∃m',c8 tab fn e' O2=some m'/\R (.ret m') O2:=by
   unfold c8;rw[hr, <-rF];generalize iw tab e' O2 rs=z at hm;unfold iO at hm;split at hm
   ·exact hm.elim
   ·exact⟨_,rfl,hm.2⟩
   ·rename_i l hl;refine⟨.tuple l,?_,hm.2⟩
    match l,hl with
    | [],_=>rfl
    | [m],hl=>exact absurd rfl (hl m)
    | _::_::_,_=>rfl
  obtain⟨m',k1,k2⟩:=key;obtain⟨u,k3,k4⟩:=kN (P:=P) ht g1 h3 k1;exact⟨u,k3,.ret m',O2,H,h1,g1,k4,k2⟩
 cases y with
 | normal=>exact fin
 | ret=>exact fin
 | panic c=>rcases h6 with rfl | rfl<;>exact False.elim h5
 | exit i=>rcases h6 with rfl | rfl<;>exact False.elim h5
 | goto i=>rcases h6 with rfl | rfl<;>exact False.elim h5
 | outgrown=>rcases h6 with rfl | rfl<;>exact False.elim h5
end
theorem Xy (vb:Nat) (k:Ky) (O:VH):VF Tryz.prog 33 [.ptr vb 0,.agg (f_ k)] O (aH fun m O'=>m= .func (.func 52) [] [.ptr O.next 0,.ptr (O.next+1) 0]/\O'=(O.push (.cells [.ptr vb 0])).push (.cells (f_ k))):=by
 obtain⟨k1,k2,k3,k4⟩:=k;simp only[f_];refine VF.bL 6 [.tmp 4] Tryz.func33 ?_;refine VC.ag aa (ae @aq ?_);refine WC.sound aa (ae @aq ?_);try trivial
set_option maxHeartbeats 4000000 in
theorem RX (L:List Bn) (tk:Tok) (V:List Bool) (hL:L.length<=1000000) (hV:V.length=L.length) (k:Ky) (y b1 b2 vb lb cb mp:Nat) (J:Nat->VH->Prop) (hJ:∀j A B,J j A->A.Ge B->J j B)
  (hd:∀j A,J j A->(b1<A.next/\b2<A.next/\vb<A.next/\lb<A.next)/\A.hp b1=some (.cells [.ptr vb 0])/\A.hp b2=some (.cells (f_ k))/\A.hp vb=some (.cells [.sl L.length (L.flatMap eH) tk,.bm lb 0 L.length L.length,.bm cb 0 L.length L.length,.map mp])/\A.hp lb=some (.cells (V.map mb)))
  (hs:∀j (h:j<L.length),(V.getD j false&&k6 L[j].k k)=false->∀A,J j A->J (j+1) A)
  (hy:∀j (h:j<L.length),(V.getD j false&&k6 L[j].k k)=true->∀A,J j A->VY Tryz.prog y [.agg (eH L[j])] A fun m O'=>m=mb true/\J (j+1) O') (O:VH) (h0:J 0 O):
  VF Tryz.prog 52 [.func (.yield y) [] [],.ptr b1 0,.ptr b2 0] O (aH fun _ O'=>J L.length O'):=by
 obtain⟨k1,k2,k3,k4⟩:=k;simp only[f_]at hd;have hlen:=aJ dR L;have jy:iW (eA Tryz.prog) 22 (.sl L.length (L.flatMap eH) tk)=some (.v (.int .i64 L.length)):=gR Ek;have gI:(V.map mb).length=L.length:=by simp[hV]
 have W8:∀u,u<L.length->(V.map mb)[u]?=some (.v (.bool (V.getD u false))):=fun u hu=>by
  rw[List.getElem?_map,List.getD_eq_getElem?_getD,List.getElem?_eq_getElem (by omega)];rfl
 obtain⟨_,ha0,uS,I0,F_⟩:=hd 0 O h0;refine VF.bL 36 [] Tryz.func52 ?_;refine VC.ag aa (cU @aq @ha0 @I0 @jy ?_);refine VC.az ?_;refine VC.bq [11] [0,1,2,9,10] (fun j:Nat=>[mi j]) (fun j O'=>j<=L.length/\J j O') (fun j=>L.length - j) (0) ?_ ?_
 ·exact⟨Nat.zero_le _,h0⟩
 clear ha0 uS I0 F_;rintro j O3 ⟨hj,CO⟩;by_cases bf:j<L.length;rotate_left
 ·obtain rfl:j=L.length:=by omega
  refine WC.sound aa (ae @aq ?_);exact CO
 have cY:((j:Int)+1)=((j+1:Nat):Int):=by omega
 have br:=bB dR L j bf;have N1:=W8 j bf;have hsj:=hs j bf;have hyj:=hy j bf;generalize L[j]=b at*;obtain⟨up,dp,od,⟨q1,q2,q3,q4⟩,v,hdd,rv,nn,iv,yA,s,rd⟩:=b;simp only[eH,ar,aY]at br hyj;dsimp only at hsj hyj;generalize V.getD j false=vj at*;refine VC.ag aa (ae @aq ?_);refine VC.ag aa (ae @aq ?_);refine VC.bj (VC.az ?_);refine VC.ag aa (ao @aq @br ?_);refine VC.al ?_;rintro O4 ⟨aZ,iy,ib⟩;have hJ4:=hJ j O3 O4 CO aZ;obtain⟨⟨akG,ajx,afh,aiW⟩,lU,cL,Az,p7⟩:=hd j O4 hJ4;cases vj
 ·have hJ5:=hsj (by rw[Bool.false_and]) O4 hJ4;refine VC.ag aa (AW @aq @lU @Az @p7 @gI @N1 ?_);refine WC.sound aa (ae @aq ?_);refine WC.sound aa (ao @aq @cY ?_);exact ay.next (j+1) ⟨bf,hJ5⟩
 rw[Bool.true_and]at hsj hyj;have hE:uL Tryz.prog (eA Tryz.prog) 9 30 (.agg [.str q1,.str q2,.str q3,.str q4]) (.agg [.str k1,.str k2,.str k3,.str k4])=some (k6 ⟨q1,q2,q3,q4⟩ ⟨k1,k2,k3,k4⟩):=by kernel_rfl
 generalize k6 ⟨q1,q2,q3,q4⟩ ⟨k1,k2,k3,k4⟩=ek at*;cases ek
 ·have hJ5:=hsj rfl O4 hJ4;refine VC.ag aa (Qj @aq @lU @Az @p7 @gI @N1 @iy @cL ?_);refine VL.su aa (bb:=false) (b:=false) (by simp) (by simp[gT]) (.inl ⟨rfl,rfl⟩) hE (by kernel_rfl) rfl rfl rfl rfl ?_;refine ae @aq ?_;refine WC.sound aa (ae @aq ?_);refine WC.sound aa (ao @aq @cY ?_);exact ay.next (j+1) ⟨bf,hJ5⟩
 refine VC.bj ?_;refine VC.yield 16 rfl rfl rfl ?_;simp only[List.take_succ_cons,List.take_zero,List.map_cons,List.map_nil,List.drop_succ_cons,List.drop_zero];refine Qj @aq @lU @Az @p7 @gI @N1 @iy @cL ?_;refine VL.su aa (bb:=true) (b:=true) (by simp) (by simp[gT]) (.inl ⟨rfl,rfl⟩) hE (by kernel_rfl) rfl rfl rfl rfl ?_;refine ao @aq @iy ?_;refine YW.mk (hyj rfl O4 hJ4) ?_;rintro _ O5 ⟨rfl,hJ5⟩;refine ae @aq ?_;refine WC.sound aa (ae @aq ?_);refine WC.sound aa (ao @aq @cY ?_);exact ay.next (j+1) ⟨bf,hJ5⟩
theorem Ke {j:Nat} {js:List Nat} {N:Nat} (h:js.Nodup) (hl:∀i∈js,i<N) (hj:N<=j):(j::js).Nodup:=List.nodup_cons.2 ⟨fun hm=>by have:=hl j hm;omega,h⟩
def Kf (O O':VH) (js:List Nat):Prop:=js.Nodup/\∀j∈js,O.next<=j/\j<O'.next/\O'.hp j=some (.obj (.deferred (some [])))
theorem Kf.ge {O A B:VH} {js:List Nat} (h:Kf O A js) (hg:A.Ge B):Kf O B js:=⟨h.1,fun j hj=>by
 obtain⟨h1,h2,h3⟩:=h.2 j hj;exact⟨h1,Nat.lt_of_lt_of_le h2 hg.next,hg.at h3⟩⟩
theorem GR.dS {O7 O6 O1:VH} {el:TypeId} {sz B n:Nat} {p:MV} {X:List MV} (h:GR O7 el sz B p n X) (hg:O1.Ge O7) (hB:O1.next<=B) (u:bl O7 (gid p) O6):O1.Ge O6:=by
 rcases h with⟨_,_,rfl | rfl⟩ | ⟨k,c,rfl,_,_,hr⟩
 ·exact bl.geN hg u
 ·exact bl.geN hg u
 ·exact bl.ge hg u (Nat.le_trans hB hr.lo)
theorem Kf.bn {O A B:VH} {js:List Nat} {el:TypeId} {sz b n:Nat} {p:MV} {X:List MV} (h:Kf O A js) (hr:GR A el sz b p n X) (u:bl A (gid p) B):Kf O B js:=⟨h.1,fun j hj=>by
 obtain⟨h1,h2,h3⟩:=h.2 j hj;refine⟨h1,Nat.lt_of_lt_of_le h2 u.next,(u.hp j h2 fun e=>?_).trans h3⟩;rcases hr with⟨_,_,rfl | rfl⟩ | ⟨k,c,rfl,_,_,hr⟩
 ·cases e
 ·cases e
 ·injection e with e;subst e;obtain⟨sp,h4,_⟩:=hr.cells;rw[h3]at h4;cases h4⟩
theorem GR.marks {A B:VH} {js:List Nat} {el:TypeId} {sz b n:Nat} {p:MV} {X:List MV} (hr:GR A el sz b p n X) (hn:B.next=A.next) (hi:∀i,i ∉ js->B.hp i=A.hp i) (hj:∀j∈js,A.hp j=some (.obj (.deferred (some [])))):GR B el sz b p n X:=by
 rcases hr with h | ⟨k,c,rfl,h1,h2,⟨sp,h3,h4⟩,⟨j,h5,h6,h7⟩,h8,h9⟩
 ·exact .inl h
 ·exact .inr ⟨k,c,rfl,h1,h2,⟨sp,(hi k fun h=>by rw[hj k h]at h3;cases h3).trans h3,h4⟩,⟨j,h5,by rw[hn];exact h6,(hi j fun h=>by rw[hj j h]at h7;cases h7).trans h7⟩,h8,by rw[hn];exact h9⟩
theorem VF.Xz {P:Program} {f:FuncId} {args:List MV} {O:VH} {Φ Φ':MV->VH->Prop} (h:VF P f args O (aH Φ)) (hf:∀m O', Φ m O'-> Φ' m O'\/∃k o n c sz cs,m= .bm k o n c/\O'.hp k=some (.cells cs)/\o+sz<=cs.length/\ Φ' (.sl n ((cs.drop o).take sz) (if c=n then .full else .au)) (O'.kill k)):VF P f args O (aH Φ'):=by
 intro G w vs hw hv;refine(h G w vs hw hv).mono fun x w' ⟨r,O',H,h1,h2,h3,h4⟩=>?_
 cases r with
 | panic m=>exact h4.elim
 | ret m=>
   cases x with
   | panicked c=>exact h3.elim
   | outgrown=>exact h3.elim
   | returned v=>
     rcases hf m O' h4 with g | ⟨k,o,n,c,sz,cs,rfl,g1,g2,g3⟩
     ·exact⟨.ret _,O',H,h1,h2,h3,g⟩
     ·obtain⟨H',e1,e2,e3⟩:=h2.freeze g1 h3 g2;exact⟨.ret _,_,H',h1.trans e1,e2,e3,g3⟩
theorem GR.wider {O:VH} {el:TypeId} {sz B B' n:Nat} {p:MV} {X:List MV} (h:GR O el sz B p n X) (hB:B'<=B):GR O el sz B' p n X:=by
 rcases h with h | ⟨k,c,h1,h2,h3,h4⟩
 ·exact .inl h
 ·exact .inr ⟨k,c,h1,h2,h3,h4.wider hB⟩
theorem OS (b:Bn) (M:List (Bn×Bool)) (h:¬b.dp>1):nc b M=b.s:=by
 have:∀(M:List (Bn×Bool)) (s:Int),M.foldl (fun s p=>if decide (b.dp>1)&&(p.2&&k6 p.1.k b.k)then fN s p.1.s else s) s=s:=by
  intro M;induction M with
  | nil=>intro s;rfl
  | cons p M ih=>intro s;rw[List.foldl_cons,decide_eq_false h,Bool.false_and,if_neg (by decide)];simpa[h]using ih s
 exact this M b.s
theorem j6.al {P:Program} {n:Sz} {js:List Nat} {c:Code} {M:GM} {e:Env} {O:VH} {z cs:List MV} (h:∀O3,pC O cs O3->VM P n js c e O3 M):j6 P n js c M e ((O.push (.cells z)).set O.next (.cells cs)):=h _ pC.al
theorem RdA.al {P:Program} {n:Sz} {y k:Nat} {r:Loop} {R:MV->VH->Prop} {body:Code} {e:Env} {O:VH} {z cs:List MV} (h:∀O3,pC O cs O3->RdA P n y k r body R .normal e O3):RdA P n y k r body R .normal e ((O.push (.cells z)).set O.next (.cells cs)):=h _ pC.al
set_option maxHeartbeats 8000000 in
theorem XA (L:List Bn) (tk:Tok) (O:VH) (hL:L.length<=1000000) (hk:∀b∈L,∀s∈dj b.k,s.length<=maxLen):VF Tryz.prog 13 [.sl L.length (L.flatMap eH) tk] O (aH fun m O'=>O.Ge O'/\GR O' 39 7 O.next m (fW L).length ((fW L).flatMap fM)):=by
 have hlen:=aJ dR L;have jy:iW (eA Tryz.prog) 22 (.sl L.length (L.flatMap eH) tk)=some (.v (.int .i64 L.length)):=gR Ek;have fP:=nK L;have hde:=Ii L tk hL hk O;unfold fW;refine VF.inM 53 [.tmp 2] Tryz.func13 ?_;simp only[cf,Nat.zero_add,Nat.reduceAdd];refine VM.qH fun D=>?_
 refine ae @aq ?_;refine j6.mk ?_;refine VM.qH fun D=>?_
 refine ae @aq ?_;refine ah.rt hde ?_;clear hde;rintro _ O1 ⟨vb,lb,cb,mp,rfl,hvd⟩;generalize cS L=DD at*;obtain⟨C,V,K⟩:=DD;dsimp only at fP hvd ⊢;clear K;obtain⟨aU,ob,sW,gm,tR,RG⟩:=hvd;have xT:(C.map mb).length=L.length:=by simp[fP.1]
 have W8:∀(W:List Bool),W.length=L.length->∀u,u<L.length->(W.map mb)[u]?=some (.v (.bool (W.getD u false))):=fun W h u hu=>by
  rw[List.getElem?_map,List.getD_eq_getElem?_getD,List.getElem?_eq_getElem (by omega)];rfl
 refine ae @aq ?_;refine j6.mk ?_;refine VM.join [2] (fun p:MV=>[p]) (fun p O' js=>O.Ge O'/\GR O' 39 7 O.next p (oE L C V L.length).length ((oE L C V L.length).flatMap fM)/\Kf O O' js) ?_ ?_
 ·refine VM.qH fun D=>?_
  refine ao @aq @jy ?_;refine j6.mk ?_;refine VM.block ?_;refine VM.loop [2,12] [3,10,11] (fun x:Nat×MV=>[x.2,mi x.1]) (fun x O' js=>x.1<=L.length/\O1.Ge O'/\GR O' 39 7 O1.next x.2 (oE L C V x.1).length ((oE L C V x.1).flatMap fM)/\Kf O O' js) (fun x=>L.length - x.1) (0,.sl 0 [] .nil) ?_ ?_
  ·exact⟨Nat.zero_le _,VH.Ge.refl _,.inl ⟨rfl,rfl,.inl rfl⟩,List.nodup_nil,fun j hj=>by cases hj⟩
  rintro⟨j,t1⟩ O3 js ⟨hj,aL,cC,mD⟩;dsimp only at hj cC;by_cases bf:j<L.length;rotate_left
  ·obtain rfl:j=L.length:=by omega
   refine VM.qH fun D=>?_
   refine ae @aq ?_;refine j6.mk ?_;refine VM.qH fun D=>?_
   refine ae @aq ?_;exact Ir.ex ⟨t1,rfl,aU.trans aL,cC.wider aU.next,mD⟩
  have cY:((j:Int)+1)=((j+1:Nat):Int):=by omega
  have br:=bB dR L j bf;have dP:oE L C V (j+1)=oE L C V j++if C.getD j false then[⟨L[j].k,j,L[j].v,nc L[j] (L.zip V)⟩]else[]:=by rw[oE,List.getElem?_eq_getElem bf]
  obtain⟨g,kP,RL,qP⟩:=FE L[j] L V fP.2;generalize L[j]=b at*;obtain⟨up,dp,od,⟨k1,k2,k3,k4⟩,v,hd,rv,nn,iv,yA,s,rd⟩:=b;simp only[eH,ar,aY]at br;dsimp only at kP RL dP;have yB:=W8 C fP.1 j bf;have gN:=vD L C V j;have hv3:=aL.at ob;have eR:=aL.at gm;have mZ:=aL.at sW;have n3:=aL.next;have n1:=aU.next;refine VM.qH fun D=>?_
  refine ae @aq ?_;refine j6.mk ?_;refine VM.qH fun D=>?_
  refine ae @aq ?_;refine j6.mk ?_;refine VM.seq (VM.block ?_);refine VM.qH fun D=>?_
  refine ao @aq @br ?_;refine j6.al ?_;rintro O4 ⟨aZ,iy,ib⟩;have Az:=aZ.at hv3;have ff:=aZ.at eR;have p7:=aZ.at mZ;cases hc:C.getD j false
  ·rw[hc]at yB dP;rw[if_neg (by decide),List.append_nil]at dP;refine VM.qH fun D=>?_
   refine ia @aq @Az @ff @xT @yB ?_;refine Ir.ex (VM.Gj fun D=>?_);refine WC.sound aa (ao @aq @cY ?_);exact⟨rfl,(j+1,t1),rfl,⟨bf,aL.trans aZ,by rw[dP];exact cC.xP (bl.lF aZ),mD.ge aZ⟩,by dsimp only;omega⟩
  rw[hc]at yB dP;rw[if_pos rfl]at dP;refine VM.qH fun D=>?_
  refine ia @aq @Az @ff @xT @yB ?_;refine j6.mk ?_;refine VM.qH fun D=>?_
  refine ao @aq @iy ?_;refine j6.al ?_;rintro O5 ⟨bz,jE,gD⟩;have cV:=bz.at iy;have oB:=bz.at Az;have GJ:=bz.at p7;have TI:=mD.ge (aZ.trans bz);refine VM.join [2,3,6,10,11,12] (fun _:Unit=>[t1,.ptr vb 0,.ptr O4.next 0,.sl L.length (L.flatMap eH) tk,.v (.int .i64 L.length),.v (.int .i64 j)]) (fun _ O' vL=>O4.Ge O'/\O4.next<O'.next/\O'.hp O4.next=some (.cells [.str k1,.str k2,.str k3,.str k4,.v (.int .i64 j),.str v,.v (.int .i64 (nc ⟨up,dp,od,⟨k1,k2,k3,k4⟩,v,hd,rv,nn,iv,yA,s,rd⟩ (L.zip V)))])/\Kf O O' vL) ?_ ?_
  ·by_cases h2:dp>1;rotate_left
   ·have e1:decide (dp>=2)=false:=decide_eq_false (by omega);have e2:decide (2<=dp)=false:=e1;refine VM.Gj fun D=>?_
    refine WC.sound aa (cU @aq @cV @e1 @e2 ?_);exact⟨(),rfl,bz,by omega,by rw[OS _ _ h2];exact jE,TI⟩
   have e1:decide (dp>=2)=true:=decide_eq_true (by omega);have e2:decide (2<=dp)=true:=e1;have e3:decide (dp>1)=true:=decide_eq_true h2;simp only[e3,Bool.true_and]at RL;refine VM.qH fun D=>?_
   refine cU @aq @cV @e1 @e2 ?_;refine j6.mk ?_;refine VM.cond (t:=true) rfl ?_;rw[if_pos rfl];have aci:=Xy vb ⟨k1,k2,k3,k4⟩ O5;simp only[f_]at aci;refine VM.qH fun D=>?_
   refine ao @aq @cV ?_;refine ah.rt aci ?_;clear aci;rintro _ O6 ⟨rfl,e6⟩;obtain⟨dL,lS,sR,nj⟩:=gJ _ _ e6;clear e6;refine ae @aq ?_;refine j6.mk ?_;refine VM.block ?_;refine VM.aev rfl (Enters.sr (by kernel_rfl)) ?_;intro y r F eF ni fy gO Gt wR;obtain⟨RY,Ra,QM,Jl,QN⟩:=lT _ _ _ eF;clear eF;have hcF:F.hp O4.next=some (.cells [.str k1,.str k2,.str k3,.str k4,.v (.int .i64 j),.str v,.v (.int .i64 (g 0))]):=by rw[kP];exact RY.at (dL.at jE)
   have haF:=RY.at sR;have hkF:=RY.at nj;have hvF:=RY.at (dL.at oB);have hlF:=RY.at (dL.at GJ);have n6:=dL.next;refine VF.mono ?_ (RX L tk V hL fP.2 ⟨k1,k2,k3,k4⟩ y O5.next (O5.next+1) vb lb cb mp (fun k A=>F.next<=A.next/\(∀i,i<F.next->i≠O4.next->A.hp i=F.hp i)/\A.hp O4.next=some (.cells [.str k1,.str k2,.str k3,.str k4,.v (.int .i64 j),.str v,.v (.int .i64 (g k))])) ?_ ?_ ?_ ?_ F ⟨Nat.le_refl _,fun _ _ _=>rfl,hcF⟩)
   ·rintro(m | m) A hA;rotate_left
    ·exact hA.elim
    obtain⟨hA1,hA2,Xn⟩:=hA;rw[qP]at Xn;refine⟨(hA2 _ (by omega) (by omega)).trans Jl,?_⟩;refine⟨(),rfl,⟨?_,?_⟩,?_,?_,?_,?_⟩
    ·show O4.next<=A.next;omega
    ·intro i hi;rw[VH.ak _ _ (by omega),hA2 i (by omega) (by omega),RY.hp i (by omega),dL.hp i (by omega),bz.hp i hi]
    ·show O4.next<A.next;omega
    ·rw[VH.ak _ _ (by omega)];exact Xn
    ·refine Ke TI.1 (N:=O5.next) (fun i hi=>(TI.2 i hi).2.1) (by omega)
    ·intro i hi;rcases List.mem_cons.1 hi with rfl | hi
     ·refine⟨by omega,by show _<A.next;omega,?_⟩;rw[VH.ak _ _ (by omega),hA2 _ (by omega) (by omega)];exact QM
     ·obtain⟨q1,q2,q3⟩:=TI.2 i hi;refine⟨q1,by show _<A.next;omega,?_⟩;have hne:i≠O4.next:=fun e=>by subst e;rw[jE]at q3;cases q3
      rw[VH.ak _ _ (by omega),hA2 i (by omega) hne,RY.hp i (by omega),dL.hp i (by omega)];exact q3
   ·rintro k A B ⟨h1,h2,h3⟩ hAB;have:=hAB.next;exact⟨by omega,fun i hi hne=>(hAB.hp i (by omega)).trans (h2 i hi hne),(hAB.hp _ (by omega)).trans h3⟩
   ·rintro k A ⟨h1,h2,h3⟩;exact⟨by omega,(h2 _ (by omega) (by omega)).trans haF,(h2 _ (by omega) (by omega)).trans hkF,(h2 _ (by omega) (by omega)).trans hvF,(h2 _ (by omega) (by omega)).trans hlF⟩
   ·rintro k bt DE A ⟨h1,h2,h3⟩;have:=RL k bt;rw[DE,if_neg (by decide)]at this;exact⟨h1,h2,by rw[this];exact h3⟩
   ·rintro k bt DE A ⟨h1,h2,h3⟩;have fq:=RL k bt;rw[DE,if_pos rfl]at fq;clear DE;generalize L[k]=z at*;obtain⟨zu,zd,zo,⟨z1,z2,z3,z4⟩,zv,zh,zr,zn,zi,zt,zs,zq⟩:=z;simp only[eH,ar,aY];dsimp only at fq;have hkA:=(h2 (O6.next+1) (by omega) (by omega)).trans Jl;refine VY.round (ps:=[40]) hkA ((h2 (O6.next+2) (by omega) (by omega)).trans QN) ni (by rw[gO]) rfl rfl ?_;rw[Gt,wR];refine GL.region ?_;simp only[rj];refine ae @aq ?_;refine RdA.al ?_;rintro A1 ⟨re,hzA,hnA⟩;have JH:=re.at h3 (hk:=by omega);refine⟨rfl,re.at hkA (hk:=by omega),?_⟩;refine GL.block (GL.region ?_);have hw:=W7 (g k) zs (A1.set (O6.next+1) (.obj (.loop {r with state:=.busy})));simp only[ar]at hw;have mz:=VH.an A1 (O6.next+1) (.obj (.loop {r with state:=.busy}));refine aN @aq @JH @hzA ?_;refine ah.rt hw ?_;clear hw;rintro _ Ox ⟨rfl,eO⟩;rw[eO];clear eO Ox
    rw[<-fq];refine ao @aq @JH ?_;refine⟨rfl,(VH.ak _ _ (by omega)).trans mz,rfl,?_,?_,?_⟩
    ·show F.next<=A1.next;omega
    ·intro i hi hne;by_cases e:i=O6.next+1
     ·subst e;rw[VH.an,Jl]
      congr 3
      rw[<-fy]
     ·rw[VH.ak _ _ e,VH.ak _ _ hne,VH.ak _ _ e,re.hp i (by omega)];exact h2 i hi hne
    ·rw[VH.ak _ _ (by omega)];exact VH.an _ _ _
  rintro _ O7 js7 ⟨dM,rM,hc7,ajN⟩;have lI:=aL.trans (aZ.trans dM);have Jo:=cC.xP (bl.lF (aZ.trans dM));refine VM.Gj fun D=>?_
  refine WC.sound aa (ao @aq @hc7 ?_);refine VL.grow aa (.inl rfl) (te:=⟨_,7,96,_⟩) (dx:=.slice 39) (q:=.sl 1 [.str k1,.str k2,.str k3,.str k4,.v (.int .i64 j),.str v,.v (.int .i64 (nc ⟨up,dp,od,⟨k1,k2,k3,k4⟩,v,hd,rv,nn,iv,yA,s,rd⟩ (L.zip V)))] .full) (j:=1) (ds:=[.str k1,.str k2,.str k3,.str k4,.v (.int .i64 j),.str v,.v (.int .i64 (nc ⟨up,dp,od,⟨k1,k2,k3,k4⟩,v,hd,rv,nn,iv,yA,s,rd⟩ (L.zip V)))]) Jo rfl rfl (by rw[Ql];rfl) T39.1.1 (by rw[Ql];rfl) trivial (by dsimp only;omega) (by simp only[maxLen];omega) lI.next rfl rfl rfl rfl ?_;intro m8 O8 gY ql _ _;refine ae @aq ?_;refine VM.Gj fun D=>?_
  refine WC.sound aa (ao @aq @cY ?_);exact⟨rfl,(j+1,m8),rfl,⟨bf,Jo.dS lI (Nat.le_refl _) ql,by rw[dP,List.length_append,List.flatMap_append,List.flatMap_singleton];exact gY,ajN.bn Jo ql⟩,by dsimp only;omega⟩
 rintro t O2 js ⟨aC,fy,TK⟩;refine VM.qH fun D=>?_
 refine ae @aq ?_;refine j6.mk ?_;refine VM.Gj fun D=>?_
 refine WC.sound aa (ae @aq ?_);refine⟨.inr rfl,TK.1,fun j hj=>(TK.2 j hj).2.2,fun O' hn hi=>⟨_,rfl,⟨?_,fun i h=>?_⟩,fy.marks hn hi fun j hj=>(TK.2 j hj).2.2⟩⟩
 ·rw[hn];exact aC.next
 ·rw[hi i (fun hm=>by have:=(TK.2 i hm).1;omega)];exact aC.hp i h
theorem yJ:BA:=by
 intro L tk O hL hk;refine VF.Xz (XA L tk O hL hk) ?_;rintro m O' ⟨hg,hr⟩;rcases hr with⟨h1,h2,rfl | rfl⟩ | ⟨k,c,rfl,h1,h2,h3⟩
 ·exact .inl ⟨⟨.nil,by rw[h1,h2]⟩,hg⟩
 ·exact .inl ⟨⟨.full,by rw[h1,h2]⟩,hg⟩
 ·obtain⟨sp,h4,h5⟩:=h3.cells;exact .inr ⟨k,0,_,c,(fW L).length*7,_,rfl,h4,by rw[List.length_append];omega,⟨_,by rw[List.drop_zero,List.take_append_of_le_length (by omega),List.take_of_length_le (by omega)]⟩,hg.kill h3.lo⟩
theorem OT (L:List Bn) (C V:List Bool):∀(n:Nat) (c:Ch),c∈oE L C V n->∃j b,j<n/\L[j]?=some b/\C.getD j false=true/\c=⟨b.k,j,b.v,nc b (L.zip V)⟩
 | 0,c,h=>by cases h
 | n+1,c,h=>by
   rw[oE,List.mem_append]at h;rcases h with h | h
   ·obtain⟨j,b,h1,h2⟩:=OT L C V n c h;exact⟨j,b,by omega,h2⟩
   ·cases hL:L[n]? with
    | none=>rw[hL]at h;cases h
    | some b=>
      rw[hL]at h;dsimp only at h;by_cases hc:C.getD n false=true
      ·rw[if_pos hc]at h;exact⟨n,b,by omega,hL,hc,by simpa using h⟩
      ·rw[if_neg hc]at h;cases h
theorem TL (a b:Int):jS a<=jS (fN a b)/\jS b<=jS (fN a b):=by
 unfold fN;split<;>omega
theorem acj (b:Bn) (M:List (Bn×Bool)) (h:b.dp>1) (p:Bn×Bool) (hp:p∈M) (h1:p.2=true) (h2:k6 p.1.k b.k=true):fN (nc b M) p.1.s=nc b M:=by
 have key:∀(M:List (Bn×Bool)) (s:Int),jS s<=jS (M.foldl (fun s p=>if decide (b.dp>1)&&(p.2&&k6 p.1.k b.k)then fN s p.1.s else s) s)/\(p∈M->jS p.1.s<=jS (M.foldl (fun s p=>if decide (b.dp>1)&&(p.2&&k6 p.1.k b.k)then fN s p.1.s else s) s)):=by
  intro M;induction M with
  | nil=>intro s;exact⟨Int.le_refl _,fun h=>by cases h⟩
  | cons q M ih=>
    intro s;rw[List.foldl_cons];obtain⟨i1,i2⟩:=ih (if decide (b.dp>1)&&(q.2&&k6 q.1.k b.k)then fN s q.1.s else s);refine⟨Int.le_trans ?_ i1,fun hm=>?_⟩
    ·split
     ·exact(TL _ _).1
     ·exact Int.le_refl _
    ·rcases List.mem_cons.1 hm with rfl | hm
     ·refine Int.le_trans ?_ i1;rw[h1,h2,decide_eq_true h];exact(TL _ _).2
     ·exact i2 hm
 have:=(key M b.s).2 hp;show fN (nc b M) p.1.s=_;unfold fN;rw[if_neg];unfold nc;omega
section
variable {P:Program} {tab:bV} {n:Sz} {D:List Deferred} {e:Env} {O:VH} {Q:VQ}
theorem fG.su (ht:aM P tab) {op:BinOp} {t t' ty:TypeId} {d:Option Tmp} {x y:Operand} {ps:String} {af:Array Edge} {g:Option (Nat×Bool)} {xs ys:List MV} {b bb:Bool}
  (si:(op= .eql/\bb=b)\/(op= .neq/\bb= !b)) (hq:uL P tab 9 t (.agg xs) (.agg ys)=some b) (hgt:P.eqGuardType P.depth t=false) (hx:ev e x=some (.agg xs)) (hy:ev e y=some (.agg ys)):fG P n D (.mk d (.binOp op t x y t') ty ps af g) e (.v (.bool bb)):=by
 intro G a hf;have h1:=hf.ev hx;have h2:=hf.ev hy;have hr:=fun w=>D8 (P:=P) ht 9 hq h1 h2 9991 w
 generalize hu:a.eval x=u at h1 hr;generalize hv:a.eval y=v at h2 hr;cases h1 with
 | agg a1 a2=>
   cases h2 with
   | agg b1 b2=>
     rename_i us vs;refine c6.of (s:=do eqGuard op t x y (.agg us.toArray) (.agg vs.toArray);binOp op t (.agg us.toArray) (.agg vs.toArray)) (aW.of (u:=.bool bb) (fun w _=>?_) (.v rfl)) (by simp[execOp,hu,hv]);rw[Sem.run_bind,run_eqGuard_agg w op t x y _ _ hgt,Result.andThen_ok];rcases si with⟨rfl,rfl⟩ | ⟨rfl,rfl⟩
     ·rw[run_eql_struct,hr w];rfl
     ·rw[run_neq_struct,hr w];rfl
theorem ab.pure (i:Nat) {brk:List Nat} {Ψ :Gh->Prop} {J:VH->Prop} {Z:Prop} {fuel:Nat} {listed:Array Bool} {l:List Oper} {o:Oper} {m:MV} (hp:fG P n D o e m) (h:ab P n D ⟨l⟩ brk J Ψ Z fuel (listed.setIfInBounds i true) (aV o.dst m e) O Q) (ho:l[i]?=some o:=by exact rfl) (hs:Region.noSelect ⟨l⟩=true:=by kernel_rfl) (hf:Region.free .any ⟨l⟩ listed i=true:=by kernel_rfl) (hr:(Region.ready .any ⟨l⟩ listed).contains i=true:=by kernel_rfl) (hb:lQ ⟨l⟩ brk listed i=true:=by kernel_rfl) (hg:aK ⟨l⟩ o e=some true:=by exact rfl) (hd:bh n o.dst=true:=by exact rfl):ab P n D ⟨l⟩ brk J Ψ Z (fuel+1) listed e O Q:=
 ab.take (by simpa using ho) hs hf hr hb hd (fun G a w _ _ _ hw aS=>by
  obtain⟨u,hu,bU⟩:=hp G a aS;exact⟨u,hu,.inl ⟨bd aS hg,fun x hx=>bU x hx.ss⟩⟩) h
end
set_option maxHeartbeats 8000000 in
theorem aew (hl:vE) (L0:List Bn) (J2:Tok) (h0:L0.length<=maxLen) (hk0:∀b∈L0,∀s∈dj b.k,s.length<=maxLen) (O:VH):VF Tryz.prog 4 [.sl L0.length (L0.flatMap eH) J2] O (aH fun m O'=>m=mb true):=by
 have xd:=FB L0 J2 h0 O;have hL:(L0.take 60).length<=60:=by rw[List.length_take];omega
 have hk:∀b∈L0.take 60,∀s∈dj b.k,s.length<=maxLen:=fun b hb=>hk0 b (List.mem_of_mem_take hb)
 generalize L0.take 60=L at*;have fP:=nK L;have hlen:=aJ dR L;have jy:iW (eA Tryz.prog) 22 (.sl L.length (L.flatMap eH) J2)=some (.v (.int .i64 L.length)):=gR Ek;clear jy;refine VF.bL 81 [.tmp 2] Tryz.func4 ?_;refine VC.ag aa (ae @aq ?_);refine VC.ag aa (ae @aq ?_);refine ah.rt xd ?_;rintro _ Ox ⟨⟨tk,rfl⟩,eO⟩;rw[eO];clear eO Ox xd
 have jy:iW (eA Tryz.prog) 22 (.sl L.length (L.flatMap eH) tk)=some (.v (.int .i64 L.length)):=gR Ek;refine ae @aq ?_;refine VC.ag aa (ae @aq ?_);refine ah.rt (J1 L tk (by omega) hk O) ?_;rintro _ O2 ⟨lb,rfl,aC,tR,RG,gI⟩;refine ae @aq ?_
 have NT:∀u,u<L.length->((cS L).2.1.map mb)[u]?=some (.v (.bool ((cS L).2.1.getD u false))):=fun u hu=>by
  rw[List.getElem?_map,List.getD_eq_getElem?_getD,List.getElem?_eq_getElem (by omega)];rfl
 have W_:((cS L).2.1.map mb).length=L.length:=by simp[fP.2]
 refine VC.ag aa (ao @aq (show((L.length:Int) != L.length)=false from by simp) ?_);have qW:=yJ L tk O2 (by omega) hk;unfold fW at qW;have gN:=vD L (cS L).1 (cS L).2.1 L.length;have H8:=OT L (cS L).1 (cS L).2.1 L.length;have jz:=fP.2;generalize (cS L).1=C at*;generalize (cS L).2.1=V at*;generalize oE L C V L.length=X at*;refine VC.bu [] (fun _:Unit=>[]) (fun _ _=>True) ?_ ?_;rotate_left
 ·rintro _ O4 _;refine VC.ag aa (ae @aq ?_);refine ah.rt (hl _) ?_;rintro _ O5 rfl;simp only[aY];refine ae @aq ?_;refine WC.sound aa (ae @aq ?_);trivial
 have hlx:=aJ eL X;refine VC.ag aa (ae @aq ?_);refine ah.rt qW ?_;clear qW;rintro _ O3 ⟨⟨t1,rfl⟩,aL⟩;have hvx:iW (eA Tryz.prog) 36 (.sl X.length (X.flatMap fM) t1)=some (.v (.int .i64 X.length)):=gR Ql;refine ao @aq @hvx ?_;have ajO:=aL.at gI;have akH:lb<O3.next:=by have:=aL.next;omega
 refine VC.az ?_;refine VC.bq [20] [0,3,18,19] (fun j:Nat=>[mi j]) (fun j O'=>O3.Ge O'/\j<=X.length) (fun j=>X.length - j) (0) ?_ ?_
 ·exact⟨VH.Ge.refl _,Nat.zero_le _⟩
 rintro j O4 ⟨aZ,hj⟩;by_cases bf:j<X.length;rotate_left
 ·obtain rfl:j=X.length:=by omega
  refine WC.sound aa (ae @aq ?_);exact aA.mk () trivial
 have cY:((j:Int)+1)=((j+1:Nat):Int):=by omega
 have br:=bB eL X j bf;obtain⟨i,b,hi,yl,GD,jR⟩:=H8 X[j] (List.getElem_mem bf);rw[jR]at br;have tU:(L.flatMap eH)[i*13+1]?=some (mi b.dp):=by simpa using gy (sp:=[]) dR yl (i:=1) rfl
 have J9:(L.flatMap eH)[i*13+11]?=some (mi b.s):=by simpa using gy (sp:=[]) dR yl (i:=11) rfl
 have h1c:=OS b (L.zip V);have h2c:=acj b (L.zip V);generalize hS:nc b (L.zip V)=S at*;obtain⟨up,dp,od,⟨k1,k2,k3,k4⟩,v,hd,rv,nn,iv,yA,s,rd⟩:=b;simp only[fM,ar]at br tU J9;dsimp only at h1c h2c;clear jR H8;have ajP:=aZ.at ajO;have e1:decide ((i:Int)<0)=false:=decide_eq_false (by omega);have e2:decide ((i:Int)>=L.length)=false:=decide_eq_false (by omega);have e3:decide ((L.length:Int)<=i)=false:=e2;refine VC.ag aa (ae @aq ?_);refine VC.ag aa (ae @aq ?_);refine VC.bj (VC.az ?_);refine VC.ag aa (ao @aq @br ?_);refine VC.al ?_;rintro O5 ⟨bz,jE,gD⟩;have ajQ:=bz.at ajP (hk:=by have:=aZ.next;omega);refine VC.ag aa (ia @aq @jE @jy @e1 (And.intro e2 e3) ?_);by_cases jz:dp<2
 ·have e4:decide (dp<2)=true:=decide_eq_true jz;have hss:=h1c (by omega);subst hss;refine VC.ag aa (ia @aq @jE @hlen @tU @e4 ?_);refine WC.reads ?_;refine ia @aq @jE @hlen @J9 (show(S != S)=false from by simp) ?_;refine WC.sound aa (ao @aq @cY ?_);exact ay.next (j+1) ⟨aZ.trans bz,bf⟩
 have e4:decide (dp<2)=false:=decide_eq_false jz;refine VC.ag aa (ia @aq @jE @hlen @tU @e4 ?_);refine VC.ag aa (ao @aq @jy ?_);refine VC.az ?_;refine VC.bq [52] [0,3,5,18,19,20,50,51] (fun k:Nat=>[mi k]) (fun k O'=>O5.Ge O'/\k<=L.length) (fun k=>L.length - k) (0) ?_ ?_
 ·exact⟨VH.Ge.refl _,Nat.zero_le _⟩
 rintro k O6 ⟨dL,nj⟩;by_cases bt:k<L.length;rotate_left
 ·obtain rfl:k=L.length:=by omega
  refine WC.sound aa (ae @aq ?_);refine WC.sound aa (ao @aq @cY ?_);exact ay.next (j+1) ⟨aZ.trans (bz.trans dL),bf⟩
 have qx:((k:Int)+1)=((k+1:Nat):Int):=by omega
 have N0:=bB dR L k bt;have N1:=NT k bt
 have hzk:(L[k],V.getD k false)∈L.zip V:=by
  refine List.mem_iff_getElem.2 ⟨k,by simp;omega,?_⟩;rw[List.getElem_zip,List.getD_eq_getElem?_getD,List.getElem?_eq_getElem (by omega)];rfl
 have h2k:=h2c (by omega) _ hzk;generalize L[k]=z at*;obtain⟨zu,zd,zo,⟨z1,z2,z3,z4⟩,zv,zh,zr,zn,zi,zt,zs,zq⟩:=z;simp only[eH,ar,aY]at N0;dsimp only at h2k;clear h2c hzk;generalize V.getD k false=vk at*;refine VC.ag aa (ae @aq ?_);refine VC.ag aa (ae @aq ?_);refine VC.bj (VC.az ?_);refine VC.ag aa (ao @aq @N0 ?_);refine VC.al ?_;rintro O7 ⟨dM,hz7,rM⟩;have n6:=dL.next;have n5:=bz.next;have n4:=aZ.next;have Bu:=dM.at (dL.at jE);have ajR:=dM.at (dL.at ajQ);refine VC.bj ?_;refine VC.nB [19,20] ?_;refine ab.aw 0 ?_;refine ao @aq @W_ ?_;refine ab.aw 1 ?_;refine ao @aq @W_ ?_;refine ab.aw 2 ?_;refine ao @aq @W_ ?_;refine ab.ld (m:=.v (.bool vk)) 3 ?_ ?_
 ·exact kt4 @aq @ajR @W_ @N1
 simp only[aj];refine ab.aw 4 ?_;refine ae @aq ?_;cases vk
 ·refine ab.skip 5 ?_;simp only[aj];refine ab.skip 6 ?_;simp only[aj];refine ab.skip 7 ?_;simp only[aj];refine ab.skip 8 ?_;simp only[aj];refine ab.skip 9 ?_;simp only[aj];refine ab.aw 10 ?_;refine ae @aq ?_;refine ab.aw 11 ?_;refine ae @aq ?_;refine ab.skip 12 ?_;simp only[aj];refine ab.skip 13 ?_;simp only[aj];refine ab.skip 14 ?_;simp only[aj];refine ab.skip 15 ?_;simp only[aj];refine ab.skip 16 ?_;simp only[aj];refine ab.skip 17 ?_;simp only[aj];refine ab.skip 18 ?_;simp only[aj];refine ab.bH [(19,.aw),(20,.aw)] ?_;refine ae @aq ?_;refine WC.sound aa (ae @aq ?_);refine WC.sound aa (ao @aq @qx ?_);exact ay.next (k+1) ⟨dL.trans dM,bt⟩
 refine ab.aw 5 ?_;refine ae @aq ?_;refine ab.ld (m:=.agg [.str z1,.str z2,.str z3,.str z4]) 6 ?_ ?_
 ·exact dq @aq @hz7
 simp only[aj];refine ab.aw 7 ?_;refine ae @aq ?_;refine ab.ld (m:=.agg [.str k1,.str k2,.str k3,.str k4]) 8 ?_ ?_
 ·exact dq @aq @Bu
 simp only[aj];have hE:uL Tryz.prog (eA Tryz.prog) 9 30 (.agg [.str z1,.str z2,.str z3,.str z4]) (.agg [.str k1,.str k2,.str k3,.str k4])=some (k6 ⟨z1,z2,z3,z4⟩ ⟨k1,k2,k3,k4⟩):=by kernel_rfl
 generalize k6 ⟨z1,z2,z3,z4⟩ ⟨k1,k2,k3,k4⟩=ek at*;refine ab.pure 9 (fG.su aa (.inl ⟨rfl,rfl⟩) hE (by kernel_rfl) rfl rfl) ?_;simp only[aj];refine ab.aw 10 ?_;refine ae @aq ?_;refine ab.aw 11 ?_;refine ae @aq ?_;cases ek
 ·refine ab.skip 12 ?_;simp only[aj];refine ab.skip 13 ?_;simp only[aj];refine ab.skip 14 ?_;simp only[aj];refine ab.skip 15 ?_;simp only[aj];refine ab.skip 16 ?_;simp only[aj];refine ab.skip 17 ?_;simp only[aj];refine ab.skip 18 ?_;simp only[aj];refine ab.bH [(19,.aw),(20,.aw)] ?_;refine ae @aq ?_;refine WC.sound aa (ae @aq ?_);refine WC.sound aa (ao @aq @qx ?_);exact ay.next (k+1) ⟨dL.trans dM,bt⟩
 have oP:=Ij S zs O7;rw[h2k rfl rfl]at oP;simp only[ar]at oP;refine ab.aw 12 ?_;refine ae @aq ?_;refine ab.ld (m:=.v (.int .i64 S)) 13 ?_ ?_
 ·exact dq @aq @Bu
 simp only[aj];refine ab.aw 14 ?_;refine ae @aq ?_;refine ab.ld (m:=.v (.int .i64 zs)) 15 ?_ ?_
 ·exact dq @aq @hz7
 simp only[aj];refine ab.aw 17 ?_;refine ae @aq ?_;refine ab.ld (m:=.v (.int .i64 S)) 18 ?_ ?_
 ·exact dq @aq @Bu
 simp only[aj];refine ab.call (i:=16) (oP) ?_;rintro _ OX ⟨rfl,eX⟩;simp only[aj];rw[eX];clear eX OX
 refine⟨VH.Ge.refl _,?_⟩;refine ab.bH [(19,.aw),(20,.aw)] ?_;refine ao @aq (show(S != S)=false from by simp) ?_;refine WC.sound aa (ae @aq ?_);refine WC.sound aa (ao @aq @qx ?_);exact ay.next (k+1) ⟨dL.trans dM,bt⟩
theorem ack {α :Type} {f: α ->List MV} {sz:Nat} (hf:∀x,(f x).length=sz) (L:List α) (tk:Tok):∃tk',∀u b z,Gb L.length 0 (min (L.length:Int) 60).toNat (L.flatMap f) tk (some ⟨u,sz,b,z⟩)=some (.sl (L.take 60).length ((L.take 60).flatMap f) tk'):=by
 have hlen:(L.flatMap f).length=L.length*sz:=aJ hf L;by_cases h:L.length<=60
 ·exact⟨tk,fun u b z=>by rw[D_ rfl (by omega),List.take_of_length_le h]⟩
 ·refine⟨oO tk sz ((min (L.length:Int) 60).toNat==L.length),fun u b z=>?_⟩;rw[AT (.inr (by omega)) (by omega) (by omega) hlen,show(min (L.length:Int) 60).toNat=60 by omega,List.length_take,Nat.min_eq_left (by omega),Fy hf];simp
def zCh:Ch:=⟨⟨[],[],[],[]⟩,0,[],0⟩
set_option maxHeartbeats 4000000 in
theorem ahs (hl:vE) (L0:List Bn) (A0 B0:List Ch) (J2 ta0 tb0:Tok) (h0:L0.length<=maxLen) (h1:A0.length<=maxLen) (h2:B0.length<=maxLen) (O:VH):VF Tryz.prog 6 [.sl L0.length (L0.flatMap eH) J2,.sl A0.length (A0.flatMap fM) ta0,.sl B0.length (B0.flatMap fM) tb0] O (aH fun m O'=>m=mb true):=by
 have xd:=FB L0 J2 h0 O;have hL:(L0.take 60).length<=60:=by rw[List.length_take];omega
 have hA:(A0.take 60).length<=60:=by rw[List.length_take];omega
 have hB:(B0.take 60).length<=60:=by rw[List.length_take];omega
 obtain⟨ta,hsa⟩:=ack eL A0 ta0;obtain⟨tb,hsb⟩:=ack eL B0 tb0;simp only[maxLen]at h1 h2;have hva:iW (eA Tryz.prog) 36 (.sl A0.length (A0.flatMap fM) ta0)=some (.v (.int .i64 A0.length)):=gR Ql;have hvb:iW (eA Tryz.prog) 36 (.sl B0.length (B0.flatMap fM) tb0)=some (.v (.int .i64 B0.length)):=gR Ql;generalize L0.take 60=L at*;generalize A0.take 60=A at*;generalize B0.take 60=B at*;have hms:=fun O'=>NY A B ta tb O' (by omega) (by omega)
 have GA:=fun O'=>NX A B ta tb O' (by omega) (by omega)
 generalize m_ A B=sm at*;simp only[aY]at hms GA;have hlen:=aJ dR L;have af4:=aJ eL A;refine VF.bL 148 [.tmp 6] Tryz.func6 ?_;refine VC.ag aa (ae @aq ?_);refine VC.ag aa (ae @aq ?_);refine ah.rt xd ?_;rintro _ Ox ⟨⟨tk,rfl⟩,eO⟩;rw[eO];clear eO Ox xd
 refine ae @aq ?_;refine VC.bj ?_;refine WC.reads ?_;refine ia @aq @hva @hvb @hsa @hsb ?_;clear hsa hsb hva hvb;refine VC.ag aa (ae @aq ?_);refine ah.rt (hms O) ?_;rintro _ Ox ⟨rfl,eO⟩;rw[eO];clear eO Ox
 refine ae @aq ?_;refine ah.rt (GA O) ?_;rintro _ Ox ⟨rfl,eO⟩;rw[eO];clear eO Ox
 refine ao @aq (show(!(sm==sm))=false from by simp) ?_;refine VC.bu [0,1] (fun _:Unit=>[.sl L.length (L.flatMap eH) tk,.sl A.length (A.flatMap fM) ta]) (fun _ O'=>True) ?_ ?_
 ·refine VC.ag aa (ae @aq ?_);refine VC.az ?_;refine VC.bq [43] [0,1,41,42] (fun j:Nat=>[mi j]) (fun j O'=>j<=L.length) (fun j=>L.length - j) (0) ?_ ?_
  ·exact Nat.zero_le _
  rintro j O3 hj;by_cases bf:j<L.length;rotate_left
  ·obtain rfl:j=L.length:=by omega
   refine WC.sound aa (ae @aq ?_);exact aA.mk () trivial
  have cY:((j:Int)+1)=((j+1:Nat):Int):=by omega
  have br:=bB dR L j bf;generalize L[j]=b at*;obtain⟨up,dp,od,⟨k1,k2,k3,k4⟩,v,hd,rv,nn,iv,yA,s,rd⟩:=b;simp only[eH,ar,aY]at br;refine VC.ag aa (ae @aq ?_);refine VC.ag aa (ae @aq ?_);refine VC.bj (VC.az ?_);refine VC.ag aa (ao @aq @br ?_);refine VC.al ?_;rintro O4 ⟨aZ,iy,ib⟩;refine VC.ag aa (ae @aq ?_);refine VC.al ?_;rintro O5 ⟨bz,hw5,gD⟩;have jE:=bz.at iy;have h45:O3.next<O4.next/\O4.next<O5.next:=by omega
  have rB:=fun O'=>Tv A ta ⟨k1,k2,k3,k4⟩ O' (by omega)
  simp only[f_]at rB;generalize hp:(fun c:Ch=>k6 c.k ⟨k1,k2,k3,k4⟩)=p at*;refine VC.bu [0,1,8,9,10,41,42,43] (fun _:Unit=>[.sl L.length (L.flatMap eH) tk,.sl A.length (A.flatMap fM) ta,.ptr O3.next 0,.ptr O4.next 0,.v (.bool (A.find? p).isSome),.sl L.length (L.flatMap eH) tk,.v (.int .i64 L.length),.v (.int .i64 j)]) (fun _ O'=>O'.hp O3.next=O5.hp O3.next/\O'.hp O4.next=some (.cells (fM ((A.find? p).getD zCh)))/\O5.next<=O'.next) ?_ ?_
  ·refine VC.ag aa (ae @aq ?_);refine VC.az ?_;refine VC.bq [10,11] [0,1,8,9,41,42,43] (fun i:Nat=>[mb ((A.drop i).find? p).isSome,mi ((i:Int) - 1)]) (fun i O'=>i<=A.length/\O'.hp O3.next=O5.hp O3.next/\O'.hp O4.next=some (.cells (fM (((A.drop i).find? p).getD zCh)))/\O5.next<=O'.next) (fun i=>i) A.length ?_ ?_ (h0:=by rw[List.drop_length];rfl)
   ·exact⟨Nat.le_refl _,rfl,by rw[List.drop_length];exact hw5,Nat.le_refl _⟩
   rintro i O6 ⟨hi,ku,Gq,lS⟩;rcases Nat.eq_zero_or_pos i with hi0 | hi0
   ·subst hi0;rw[List.drop_zero]at Gq ⊢;have e1:decide (((0:Nat):Int) - 1>=0)=false:=rfl;have e2:decide ((0:Int)<=((0:Nat):Int) - 1)=false:=rfl;refine WC.sound aa (aN @aq @e1 @e2 ?_);exact aA.mk () ⟨ku,Gq,lS⟩
   obtain⟨q,rfl⟩:∃q,i=q+1:=⟨i - 1,by omega⟩
   have hq:((q+1:Nat):Int) - 1=(q:Int):=by omega
   have e1:decide ((q:Int)>=0)=true:=decide_eq_true (by omega);have e2:decide ((0:Int)<=q)=true:=e1;have hqA:q<A.length:=by omega
   have acm:=bB eL A q hqA;have acn:=FC acm 0 4 (by decide);rw[Nat.add_zero,List.drop_zero]at acn;have Jn:=List.drop_eq_getElem_cons hqA;generalize A[q]=y at*;obtain⟨⟨y1,y2,y3,y4⟩,ya,yv,ys⟩:=y;simp only[fM,ar,List.take_succ_cons,List.take_zero]at acm acn;have hpy:p ⟨⟨y1,y2,y3,y4⟩,ya,yv,ys⟩=((y1==k1)&&((y2==k2)&&((y3==k3)&&((y4==k4)&&true)))):=by rw[<-hp];rfl
   have RZ:(A.drop q).find? p=if p ⟨⟨y1,y2,y3,y4⟩,ya,yv,ys⟩then some ⟨⟨y1,y2,y3,y4⟩,ya,yv,ys⟩else(A.drop (q+1)).find? p:=by
    rw[Jn,List.find?_cons];cases p ⟨⟨y1,y2,y3,y4⟩,ya,yv,ys⟩<;>rfl
   rw[hpy]at RZ;have Bu:=ku.trans jE;rw[hq];refine VC.ag aa (aN @aq @e1 @e2 ?_);refine VC.bj (VC.az ?_);refine VC.bj ?_;refine WC.reads ?_;refine cU @aq @af4 @acn @Bu ?_;refine VL.su aa (bb:=(y1==k1)&&((y2==k2)&&((y3==k3)&&((y4==k4)&&true)))) (b:=(y1==k1)&&((y2==k2)&&((y3==k3)&&((y4==k4)&&true)))) (by simp) (by simp) (.inl ⟨rfl,rfl⟩) (by kernel_rfl) (by kernel_rfl) rfl rfl rfl rfl ?_;clear hpy;generalize ((y1==k1)&&((y2==k2)&&((y3==k3)&&((y4==k4)&&true))))=r at*;cases r
   ·rw[if_neg (by decide)]at RZ;refine ae @aq ?_;refine WC.sound aa (ae @aq ?_);refine WC.sound aa (ae @aq ?_);exact ay.next q ⟨by omega,ku,by rw[RZ];exact Gq,lS⟩ (hl:=by rw[RZ];rfl) (hm:=Nat.lt_succ_self q)
   ·rw[if_pos rfl]at RZ;refine ae @aq ?_;refine VC.DO rfl ?_;refine VC.ag aa (cU @aq @af4 @acm @Gq ?_);refine WC.sound aa (ae @aq ?_);refine WC.sound aa (ae @aq ?_);exact ay.next q ⟨by omega,(VH.ak _ _ (by omega)).trans ku,by rw[RZ];exact VH.an _ _ _,lS⟩ (hl:=by rw[RZ];rfl) (hm:=Nat.lt_succ_self q)
  rintro _ O6 ⟨ku,Gq,lS⟩;have Bu:=ku.trans jE;have af5:=rB O6;refine VC.ag aa (ao @aq @Bu ?_);refine ah.rt af5 ?_;clear af5;rintro _ O7 ⟨dM,rfl⟩;have hw7:=dM.at Gq
  have hE:∀c:Ch,uL Tryz.prog (eA Tryz.prog) 9 39 (.agg (fM c)) (.agg (fM c))=some true:=fun c=>by
   have h:uL Tryz.prog (eA Tryz.prog) 9 39 (.agg (fM c)) (.agg (fM c))=some (JZ c c):=by
    obtain⟨⟨c1,c2,c3,c4⟩,ca,cv,cs⟩:=c;kernel_rfl
   rw[h,Ik]
  generalize A.find? p=fo at*
  obtain⟨c,ok,hc,cu,hm⟩:∃(c:Ch) (ok:Bool),fo.getD zCh=c/\fo.isSome=ok/\RH fo= .tuple [.agg (fM c),mb ok]:=by
   cases fo
   ·exact⟨zCh,false,rfl,rfl,rfl⟩
   ·exact⟨_,true,rfl,rfl,rfl⟩
  rw[hm,cu];rw[hc]at hw7;clear hm cu hc;have hEc:=hE c;have gN:(fM c).length=7:=rfl;obtain⟨⟨c1,c2,c3,c4⟩,ca,cv,cs⟩:=c;simp only[fM,ar,aY]at hw7 hEc ⊢;refine ae @aq ?_;refine VC.al ?_;rintro O8 ⟨gY,hy8,CC⟩;have hw8:=gY.at hw7 (hk:=by have:=dM.next;omega);refine VC.ag aa (aN @aq @hy8 @hw8 ?_);refine VL.su aa (bb:=false) (b:=true) (by simp) (by simp[gT]) (.inr ⟨rfl,rfl⟩) hEc (by kernel_rfl) rfl rfl rfl rfl ?_;refine ao @aq (show(!(ok==ok))=false from by simp) ?_;refine WC.sound aa (ae @aq ?_);refine WC.sound aa (ao @aq @cY ?_);exact ay.next (j+1) (by show j+1<=L.length;omega)
 rintro _ O3 _;clear hms GA;refine VC.bu [] (fun _:Unit=>[]) (fun _ _=>True) ?_ ?_;rotate_left
 ·rintro _ O4 _;refine VC.ag aa (ae @aq ?_);refine ah.rt (hl _) ?_;rintro _ O5 rfl;simp only[aY];refine ae @aq ?_;refine WC.sound aa (ae @aq ?_);trivial
 refine VC.ag aa (ae @aq ?_);refine VC.az ?_;refine VC.bq [14] [0,1] (fun q:Nat=>[mi ((q:Int) - 1)]) (fun q _=>q<=L.length+2) (fun q=>L.length+2 - q) (0) ?_ ?_
 ·exact Nat.zero_le _
 rintro q O4 hq;by_cases yj:q<=L.length+1;rotate_left
 ·have e1:decide ((q:Int) - 1<=L.length)=false:=decide_eq_false (by omega);refine WC.sound aa (ao @aq @e1 ?_);exact aA.mk () trivial
 have e1:decide ((q:Int) - 1<=L.length)=true:=decide_eq_true (by omega);have WI:((q:Int) - 1+1)=((q+1:Nat):Int) - 1:=by omega
 have L7: -1<=(q:Int) - 1/\(q:Int) - 1<=61:=by omega
 refine VC.ag aa (ao @aq @e1 ?_);refine VC.bj (VC.az ?_);generalize hi:(q:Int) - 1=i at*;refine VC.ag aa (ae @aq ?_);refine VC.bu [0,1,14,15] (fun t:Tok=>[.sl L.length (L.flatMap eH) tk,.sl A.length (A.flatMap fM) ta,.v (.int .i64 i),.sl (gV L A i L.length).length ((gV L A i L.length).map mi) t]) (fun _ _=>True) ?_ ?_
 ·refine VC.ag aa (ae @aq ?_);refine VC.az ?_
  refine VC.bq [15,16] [0,1,14] (fun x:Nat×Tok=>[.sl (gV L A i x.1).length ((gV L A i x.1).map mi) x.2,mi x.1]) (fun x O'=>1<=x.1/\(x.1<=L.length\/x.1=1)/\O4.Ge O'/\App O' O4.next 1 x.2) (fun x=>L.length+1 - x.1) (1,.nil) ?_ ?_ (h0:=by
   have:gV L A i 1=[]:=by
    rw[gV,gV];cases L[0]?<;>rfl
   dsimp only;rw[this];rfl)
  ·exact⟨Nat.le_refl _,.inr rfl,VH.Ge.refl _,trivial⟩
  rintro⟨k,t1⟩ O5 ⟨dN,bt,bz,ft⟩;dsimp only at dN bt ft ⊢;by_cases dB:k<L.length;rotate_left
  ·have e2:decide ((k:Int)<L.length)=false:=decide_eq_false (by omega)
   have qg:gV L A i k=gV L A i L.length:=by
    rcases bt with h | h
    ·rw[show k=L.length by omega]
    ·rcases Nat.lt_or_ge 0 L.length with h3 | h3
     ·rw[show k=L.length by omega]
     ·have:L=[]:=List.eq_nil_of_length_eq_zero (by omega);subst this;rw[h];rfl
   refine WC.sound aa (ao @aq @e2 ?_);exact aA.mk t1 trivial (h1:=by rw[qg];rfl)
  have e2:decide ((k:Int)<L.length)=true:=decide_eq_true (by omega);have hkj:((k:Int)+1)=((k+1:Nat):Int):=by omega
  have nG:(L.flatMap eH)[k*13]?=some (mi L[k].up):=by simpa using gy (sp:=[]) dR (List.getElem?_eq_getElem dB) (i:=0) rfl
  have dP:gV L A i (k+1)=gV L A i k++if N2 A i k L[k]then[(k:Int)]else[]:=by rw[gV,List.getElem?_eq_getElem dB]
  have gN:=wJ L A i k;unfold N2 at dP;rw[decide_eq_true (show 0<k by omega),Bool.true_and]at dP;generalize L[k].up=up at*;simp only[ar]at nG;refine VC.ag aa (ao @aq @e2 ?_);refine VC.bj (VC.az ?_);refine VC.ag aa (ae @aq ?_);refine VC.bu [0,1,14,15,16,17] (fun _:Unit=>[.sl L.length (L.flatMap eH) tk,.sl A.length (A.flatMap fM) ta,.v (.int .i64 i),.sl (gV L A i k).length ((gV L A i k).map mi) t1,.v (.int .i64 k),.v (.bool (A.any fun c=>c.at'==(k:Int)))]) (fun _ O'=>O5.Ge O') ?_ ?_
  ·refine VC.ag aa (ae @aq ?_);refine VC.az ?_;refine VC.bq [17,97] [0,1,14,15,16,95,96] (fun p:Nat=>[mb ((A.take p).any fun c=>c.at'==(k:Int)),mi p]) (fun p O'=>p<=A.length/\O5.Ge O') (fun p=>A.length - p) 0 ?_ ?_
   ·exact⟨Nat.zero_le _,VH.Ge.refl _⟩
   rintro p O6 ⟨hp,dL⟩;by_cases qI:p<A.length;rotate_left
   ·obtain rfl:p=A.length:=by omega
    rw[List.take_length];refine WC.sound aa (ae @aq ?_);exact aA.mk () dL
   have nv:((p:Int)+1)=((p+1:Nat):Int):=by omega
   have af6:=bB eL A p qI
   have qh:((A.take (p+1)).any fun c=>c.at'==(k:Int))=(((A.take p).any fun c=>c.at'==(k:Int))||A[p].at'==(k:Int)):=by
    rw[<-List.take_append_getElem qI,List.any_append];simp
   generalize A[p]=y at*;obtain⟨⟨y1,y2,y3,y4⟩,ya,yv,ys⟩:=y;simp only[fM,ar]at af6;dsimp only at qh;generalize ((A.take p).any fun c=>c.at'==(k:Int))=fd at*;refine VC.ag aa (ae @aq ?_);refine VC.ag aa (ae @aq ?_);refine VC.bj (VC.az ?_);refine VC.ag aa (ao @aq @af6 ?_);refine VC.al ?_;rintro O7 ⟨dM,hy7,rM⟩;cases fd
   ·rw[Bool.false_or]at qh;refine WC.sound aa (ao @aq @hy7 ?_);refine WC.sound aa (ao @aq @nv ?_);exact ay.next (p+1) ⟨qI,dL.trans dM⟩ (hl:=by rw[qh];rfl)
   ·rw[Bool.true_or]at qh;refine WC.sound aa (ao @aq @hy7 ?_);refine WC.sound aa (ao @aq @nv ?_);exact ay.next (p+1) ⟨qI,dL.trans dM⟩ (hl:=by rw[qh];rfl)
  rintro _ O6 dL;have pN:=bz.trans dL;have sR:=ft.ge dL;generalize (A.any fun c=>c.at'==(k:Int))=fd at*;cases fd
  ·rw[Bool.and_false,if_neg (by decide),List.append_nil]at dP;refine VC.ag aa (ae @aq ?_);refine WC.sound aa (ae @aq ?_);refine WC.sound aa (ao @aq @hkj ?_);exact ay.next (k+1,t1) ⟨by omega,by omega,pN,sR⟩ (hl:=by dsimp only;rw[dP];rfl)
  rw[Bool.and_true]at dP;cases hui:up==i
  ·rw[hui,if_neg (by decide),List.append_nil]at dP;refine VC.ag aa (cU @aq @hlen @nG @hui ?_);refine WC.sound aa (ae @aq ?_);refine WC.sound aa (ao @aq @hkj ?_);exact ay.next (k+1,t1) ⟨by omega,by omega,pN,sR⟩ (hl:=by dsimp only;rw[dP];rfl)
  rw[hui,if_pos rfl]at dP;have ob:=bg (tk:=t1) (tk':=.full) (n:=(gV L A i k).length) (k:=1) (cs:=(gV L A i k).map mi) (ds:=[.v (.int .i64 k)]) T28 T3 sR (by rw[List.length_map,Nat.mul_one]) rfl rfl (by decide) (by decide) (by omega) (by simp only[maxLen];omega);refine VC.ag aa (cU @aq @hlen @nG @hui ?_);refine WC.sound aa (ae @aq ?_);refine VL.app ob ?_;refine ae @aq ?_;refine WC.sound aa (ao @aq @hkj ?_);exact ay.next (k+1,.own O6.next 1) ⟨by omega,by omega,cA.dS pN sR (cA.after sR),App.after pN.next⟩ (hl:=by dsimp only;rw[dP,List.length_append,List.map_append];rfl)
 rintro t O5 _;have rz:=abN L A i tk ta (by omega) (by omega) O5;have akb:=wJ L A i L.length;generalize gV L A i L.length=W at*;rw[ar]at rz;have nW:(W.map mi).length=W.length:=List.length_map ..
 have hwg:∀u,u<W.length->(W.map mi)[u]?=some (.v (.int .i64 (W.getD u 0))):=fun u hu=>by
  rw[List.getElem?_map,List.getD_eq_getElem?_getD,List.getElem?_eq_getElem hu];rfl
 refine VC.ag aa (ae @aq ?_);refine ah.rt rz ?_;rintro _ O6 ⟨⟨t2,rfl⟩,dL⟩;refine ae @aq ?_;refine VC.ag aa (ao @aq (show((W.length:Int) != W.length)=false from by simp) ?_);refine VC.ag aa (ae @aq ?_);refine VC.az ?_;refine VC.bq [134] [0,1,14,15,20,133] (fun u:Nat=>[mi u]) (fun u _=>u<=W.length) (fun u=>W.length - u) (0) ?_ ?_
 ·exact Nat.zero_le _
 rintro u O7 hu;by_cases cZ:u<W.length;rotate_left
 ·obtain rfl:u=W.length:=by omega
  refine WC.sound aa (ae @aq ?_);refine WC.sound aa (ao @aq @WI ?_);exact ay.next (q+1) (by show q+1<=L.length+2;omega) (hl:=by rw[show((q+1:Nat):Int) - 1=(q:Int) by omega];rfl)
 have rE:((u:Int)+1)=((u+1:Nat):Int):=by omega
 have hwu:=hwg u cZ;generalize W.getD u 0=x at*;refine VC.ag aa (ae @aq ?_);refine VC.ag aa (ae @aq ?_);refine VC.bj (VC.az ?_);refine VC.ag aa (ae @aq ?_);refine VC.bj ?_;refine WC.reads ?_;refine cU @aq @nW @hwu (show(x != x)=false from by simp) ?_;refine WC.sound aa (ae @aq ?_);refine WC.sound aa (ao @aq @rE ?_);exact ay.next (u+1) (by show u+1<=W.length;omega)
open Go.ChangeShapes
section
variable {H:Type} {enc:TypeId×Value->H} {P:Program} {w:World} {sp:Nat->Bool} {held:Bool} {t e:TypeId} {α β :Type}
def cG (enc:TypeId×Value->H) (P:Program) (w:World) (sp:Nat->Bool) (held:Bool) (t:TypeId) (f: α ->List MV) (p: α ->Prop):Prop:=El enc P w sp held t fun ms=>∃y,ms=f y/\p y
theorem cG.int {k:IntKind} (ht:P.underlying t=some (.int k)):cG enc P w sp held t (fun n:Int=>[.v (.int k n)]) (Ja k):=El.ail ht
theorem cG.bool (ht:P.underlying t=some .bool):cG enc P w sp held t (fun b:Bool=>[mb b]) (fun _=>True):=El.agI ht
theorem cG.str (ht:P.underlying t=some .string):cG enc P w sp held t (fun l:List UInt8=>[.str l]) (fun l=>l.length<=maxLen):=El.str ht
theorem Is {f: α ->List MV} {p: α ->Prop}:∀{rows:List (List MV)},(∀r∈rows,∃x,r=f x/\p x)->∃xs:List α,rows.length=xs.length/\rows.flatten=xs.flatMap f/\∀x∈xs,p x
 | [],_=>⟨[],rfl,rfl,by simp⟩
 | r::rows,h=>by
   obtain⟨xs,h1,h2,h3⟩:=Is fun r hr=>h r (List.mem_cons_of_mem _ hr)
   obtain⟨x,h4,h5⟩:=h r (List.mem_cons_self ..)
   exact⟨x::xs,by simp[h1],by rw[h4];simp[h2],fun y hy=>by
    rcases List.mem_cons.1 hy with rfl | hy
    ·exact h5
    ·exact h3 y hy⟩
theorem cG.slice {f: α ->List MV} {p: α ->Prop} (ht:P.underlying t=some (.slice e)) (oc:0<P.cellsOf e) (he:cG enc P w sp held e f p):
  cG enc P w sp held t (fun y:List α ×Tok=>[.sl y.1.length (y.1.flatMap f) y.2]) (fun y=>(∀x∈y.1,p x)/\y.1.length<=maxLen):=
 (El.slice ht he oc).imp fun ms ⟨rows,tk,h1,h2,h3⟩=>by
  obtain⟨xs,h4,h5,h6⟩:=Is h2;exact⟨(xs,tk),by rw[h1,h4,h5],h6,by show xs.length<=maxLen;omega⟩
def bX (enc:TypeId×Value->H) (P:Program) (w:World) (sp:Nat->Bool) (held:Bool) (fs:List Field) (k N:Nat) (f: α ->List MV) (p: α ->Prop):Prop:=
 ∀cs:List Value,cs.length=N->(∀g∈fs,k<=g.offset)/\((∀g∈fs,∃fuel x,DataW.trod enc P w 0 sp held fuel g.type ((cs.drop (g.offset - k)).take (P.cellsOf g.type))=some x)->∃y,aO (G0 w) (f y) cs/\p y)
theorem bX.one {g:Field} {k n:Nat} {f: α ->List MV} {p: α ->Prop} (ho:g.offset=k) (hn:P.cellsOf g.type=n) (he:cG enc P w sp held g.type f p):bX enc P w sp held [g] k n f p:=by
 intro cs dP;refine⟨fun g' hg=>by rw[List.mem_singleton.1 hg];omega,fun h=>?_⟩;obtain⟨fuel,x,hx⟩:=h g (by simp);rw[ho,Nat.sub_self,List.drop_zero,hn,List.take_of_length_le (by omega)]at hx;obtain⟨ms,h1,y,rfl,h3⟩:=he _ _ _ hx;exact⟨y,h1,h3⟩
theorem bX.cons {g:Field} {fs:List Field} {k n N:Nat} {f: α ->List MV} {p: α ->Prop} {f': β ->List MV} {p': β ->Prop} (ho:g.offset=k) (hn:P.cellsOf g.type=n) (he:cG enc P w sp held g.type f p) (hr:bX enc P w sp held fs (k+n) N f' p'):
  bX enc P w sp held (g::fs) k (n+N) (fun y: α × β =>f y.1++f' y.2) (fun y=>p y.1/\p' y.2):=by
 intro cs dP;obtain⟨CF,hr'⟩:=hr (cs.drop n) (by rw[List.length_drop];omega);refine⟨fun g' hg=>?_,fun h=>?_⟩
 ·rcases List.mem_cons.1 hg with rfl | hg
  ·omega
  ·have:=CF g' hg;omega
 ·obtain⟨fuel,x,hx⟩:=h g (by simp);rw[ho,Nat.sub_self,List.drop_zero,hn]at hx;obtain⟨ms,h1,y,rfl,h3⟩:=he _ _ _ hx
  obtain⟨z,h4,h5⟩:=hr' fun g' hg=>by
   obtain⟨fuel,x,hx⟩:=h g' (List.mem_cons_of_mem _ hg);have:=CF g' hg;refine⟨fuel,x,?_⟩;rw[List.drop_drop,show n+(g'.offset - (k+n))=g'.offset - k by omega];exact hx
  refine⟨(y,z),?_,h3,h5⟩;have:=aO.append h1 h4
  rwa [List.take_append_drop]at this
theorem cG.struct {fs:Array Field} {N:Nat} {f: α ->List MV} {p: α ->Prop} (ht:P.underlying t=some (.struct fs)) (oc:P.cellsOf t=N) (hf:bX enc P w sp held fs.toList 0 N f p):cG enc P w sp held t f p:=by
 intro fuel cs x h;obtain⟨xs,n,rfl,rfl,hl,CA,hfi⟩:=DataW.trod_struct ht h;obtain⟨_,h2⟩:=hf cs (by omega)
 obtain⟨y,h3,h4⟩:=h2 fun g hg=>by
  obtain⟨i,hi,rfl⟩:=List.getElem_of_mem hg;have h5:=hfi i fs.toList[i] (by rw[<-Array.getElem?_toList,List.getElem?_eq_getElem]);have akI:fs.toList.length=fs.size:=by simp
  rw[List.getElem?_eq_getElem (by omega)]at h5;exact⟨_,_,h5⟩
 exact⟨_,h3,y,rfl,h4⟩
theorem cG.arg {f: α ->List MV} {p: α ->Prop} (h:cG enc P w sp held t f p) {v:Value} {d:DataW H} {ps:List MemPlace} (hd:DataW.Trod enc P w 0 sp held t v d ps) (hc:v.cells= #[v]):∃m y,VR (G0 w) m v/\[m]=f y/\p y:=by
 obtain⟨m,h1,y,h2,h3⟩:=El.arg h hd hc;exact⟨m,y,h1,h2,h3⟩
end
abbrev IvT:=(Bool×Bs×Bool)×Bool×Bs×Bool
abbrev XB:=Int×Int×Int×(Bs×Bs×Bs×Bs)×Bs×(Bool×Bs×List IvT×Tok)×Int×Bool
abbrev ChT:=(Bs×Bs×Bs×Bs)×Int×Bs×Int
def ajS (y:IvT):List MV:=[mb y.1.1,.str y.1.2.1,mb y.1.2.2,mb y.2.1,.str y.2.2.1,mb y.2.2.2]
def Cp (y:XB):Bn:=⟨y.1,y.2.1,y.2.2.1,⟨y.2.2.2.1.1,y.2.2.2.1.2.1,y.2.2.2.1.2.2.1,y.2.2.2.1.2.2.2⟩,y.2.2.2.2.1,y.2.2.2.2.2.1.1,y.2.2.2.2.2.1.2.1,y.2.2.2.2.2.1.2.2.1.length,y.2.2.2.2.2.1.2.2.1.flatMap ajS,y.2.2.2.2.2.1.2.2.2,y.2.2.2.2.2.2.1,y.2.2.2.2.2.2.2⟩
def TM (y:ChT):Ch:=⟨⟨y.1.1,y.1.2.1,y.1.2.2.1,y.1.2.2.2⟩,y.2.1,y.2.2.1,y.2.2.2⟩
def af7 (y:Bs×Bs×Bs×Bs):Prop:=y.1.length<=maxLen/\y.2.1.length<=maxLen/\y.2.2.1.length<=maxLen/\y.2.2.2.length<=maxLen
def ivP (y:IvT):Prop:=(True/\y.1.2.1.length<=maxLen/\True)/\True/\y.2.2.1.length<=maxLen/\True
def brP (y:XB):Prop:=Ja .i64 y.1/\Ja .i64 y.2.1/\Ja .i64 y.2.2.1/\af7 y.2.2.2.1/\y.2.2.2.2.1.length<=maxLen/\(True/\y.2.2.2.2.2.1.2.1.length<=maxLen/\(∀z∈y.2.2.2.2.2.1.2.2.1,ivP z)/\y.2.2.2.2.2.1.2.2.1.length<=maxLen)/\Ja .i64 y.2.2.2.2.2.2.1/\True
def chP (y:ChT):Prop:=af7 y.1/\Ja .i64 y.2.1/\y.2.2.1.length<=maxLen/\Ja .i64 y.2.2.2
theorem It {l:List XB} (h:∀x∈l,brP x):∀b∈l.map Cp,∀s∈dj b.k,s.length<=maxLen:=by
 intro b hb s hs;obtain⟨x,hx,rfl⟩:=List.mem_map.1 hb;obtain⟨_,_,_,⟨h1,h2,h3,h4⟩,_⟩:=h x hx;simp only[dj,Cp,List.mem_cons,List.not_mem_nil,or_false]at hs;rcases hs with rfl | rfl | rfl | rfl<;>assumption
theorem liv:vE:=acg yJ
theorem Iu (y:List XB×Tok) (O:VH) (hp:(∀x∈y.1,brP x)/\y.1.length<=maxLen):VF Tryz.prog 5 [.sl y.1.length (y.1.flatMap fun x=>eH (Cp x)) y.2] O (aH fun m O'=>m=mb true):=by
 have h:=W9 yJ liv (y.1.map Cp) y.2 (by rw[List.length_map];exact hp.2) (It hp.1) O;rw[List.length_map,List.flatMap_map]at h;exact h
theorem OW (y:List XB×Tok) (O:VH) (hp:(∀x∈y.1,brP x)/\y.1.length<=maxLen):VF Tryz.prog 4 [.sl y.1.length (y.1.flatMap fun x=>eH (Cp x)) y.2] O (aH fun m O'=>m=mb true):=by
 have h:=aew liv (y.1.map Cp) y.2 (by rw[List.length_map];exact hp.2) (It hp.1) O;rw[List.length_map,List.flatMap_map]at h;exact h
theorem TN (y:List XB×Tok) (a b:List ChT×Tok) (O:VH) (hp:(∀x∈y.1,brP x)/\y.1.length<=maxLen) (ha:(∀x∈a.1,chP x)/\a.1.length<=maxLen) (hb:(∀x∈b.1,chP x)/\b.1.length<=maxLen):
  VF Tryz.prog 6 [.sl y.1.length (y.1.flatMap fun x=>eH (Cp x)) y.2,.sl a.1.length (a.1.flatMap fun x=>fM (TM x)) a.2,.sl b.1.length (b.1.flatMap fun x=>fM (TM x)) b.2] O (aH fun m O'=>m=mb true):=by
 have h:=ahs liv (y.1.map Cp) (a.1.map TM) (b.1.map TM) y.2 a.2 b.2 (by rw[List.length_map];exact hp.2) (by rw[List.length_map];exact ha.2) (by rw[List.length_map];exact hb.2) O;simp only[List.length_map,List.flatMap_map]at h;exact h
end Go.Proofs.YtoclnkfdahmnhaaGreatDoor
