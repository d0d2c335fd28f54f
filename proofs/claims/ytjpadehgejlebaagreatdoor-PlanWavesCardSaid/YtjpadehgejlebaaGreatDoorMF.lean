import Derived.Test.YtjpadehgejlebaaGreatDoorME
import Derived.RangeFuncSeq
set_option linter.unusedVariables false
set_option linter.defProp false
set_option maxHeartbeats 8000000
set_option linter.unusedSimpArgs false
namespace Go.Proofs.YtjpadehgejlebaaGreatDoor
open Go.RowKit
open _root_.List renaming replicate → Μ
open _root_.Go.Proofs.Tryz
open Go.Value renaming int → Ι
open Go.IntKind renaming i64 → Κ
open _root_.List renaming length → Ζ
open _root_.Go.Proofs.Tryz renaming prog → Ε
open _root_.Option renaming some → φ, none → Β
open _root_.Bool renaming false → γ, true → Α
open _root_.List renaming cons_append → Ca, nil_append → Th, length_nil → Ti, getElem?_eq_some_iff → YI, length_cons → abx, flatMap_nil → af_, mem_cons_self → aga, getElem?_eq_getElem → agc, length_append → akb, mem_cons_of_mem → akc, mem_singleton → akd, length_map → ake, append_assoc → akf, map_eq_nil_iff → alO, eq_nil_of_length_eq_zero → alP, mem_append → alQ, append_nil → alT, mem_map → alU, not_mem_nil → aoT, mem_cons → ap2, contains_iff_mem → ap6, length_singleton → ap8, getElem_mem → ap_, getD_eq_getElem?_getD → aqa, drop_eq_getElem_cons → aqb, take_append_getElem → aqc, flatMap_singleton → aqe, map_cons → aqh, singleton_append → aqk, getElem?_map → aqn, getElem?_append_left → aqo, pairwise_iff_getElem → aqp, all_eq_true → aqq, any_eq_true → aqr, length_drop → aqs, length_set → aqu
open _root_.Nat renaming le_refl → agb, lt_of_lt_of_le → aka, le_trans → alR, mul_le_mul_right → ap4, zero_add → ap5, le_of_ble_eq_true → ap7, le_succ_of_le → aqd, lt_succ_self → aqf, zero_le → aqg, add_zero → aqt
open _root_.And renaming intro → WT
open _root_.Int renaming toNat_natCast → aqm
open _root_.Bool renaming false_eq_true → alS, or_eq_true_iff → alV, and_eq_true_iff → ap3, false_and → ap9, true_and → aqi, and_eq_true → aqj, eq_iff_iff → aql
variable{listed:Array Bool}{n name r s t v:Bs}{right:Bs->Bool}{d:Dp}{g:Gv}{a kn:Int}{L:List (Gv×Bs×Option Pm)}{S:List (Gv×List Dp)}{D:List Dp}{W cs cs':List MV}{brk:List Nat}{K:List Nd}{l:List Oper}{B b ba bb bx cd ce cm cr cv i j k kd ke kr kv mB md mm o sz tb wb y:Nat}{U:Nat->Prop}{x:Operand}{p:PS}{t1 t2 tk:Tok}{c:UInt8}{F O O' O2:VH}{X:cx}{E MD V:gI}{R:xz}
set_option maxRecDepth 10000
def aU:=WT du<|WT cO<|WT aiI<|WT aiH<|WT aiN<|WT T82 T50
section
variable{P:Program}{n:Sz}{D:List Deferred}{ops:Array Oper}{e:Env}{O:VH}{Q:VQ}
def ab.aez{Ψ :Gh->Prop}{J:ϰ}{Z:Prop}{fuel:Nat} 
  (h1:aI P n D ops i e O Q λe' O'=>J O'/\ab P n D ops brk J Ψ Z fuel (listed.setIfInBounds i Α) e' O' Q) (h2:aI P n D ops j e O Q λe' O'=>J O'/\ab P n D ops brk J Ψ Z fuel (listed.setIfInBounds j Α) e' O' Q)
  (h3:aI P n D ops k e O Q λe' O'=>J O'/\ab P n D ops brk J Ψ Z fuel (listed.setIfInBounds k Α) e' O' Q) (hr:Region.ready .any ops listed=[i,j,k]:=by kernel_rfl):ab P n D ops brk J Ψ Z (fuel+1) listed e O Q:=by
 intro hΨ hZ hJ G a w hψ hw aZ
 have key:∀x,(aI P n D ops x e O Q λe' O'=>J O'/\ab P n D ops brk J Ψ Z fuel (listed.setIfInBounds x Α) e' O' Q)->wpOp P ops (c7 G n D Q) x (λa' w'=>TE brk G J x w'/\kF P .any ops (c7 G n D Q) (TE brk G J) fuel (listed.setIfInBounds x Α) a' w') a w:=λx h=>
  wpOp_mono (λa' w' ⟨e',O',H,h1,h2,h3,h4,h5⟩=>⟨TE.mk ⟨H,O',h1,h2,h4⟩,k7 (λ_ _ _=>c7.le h1) _ _ _ _ (λk _ x hT=>hT.le h1) (h5 hΨ hZ h4 H a' w' (hΨ _ _ h1 hψ) h2 h3)⟩) (h G a w hw aZ)
 refine k6 hr (by simp) λx hx=>?_
 simp only[ap2,aoT,or_false]at hx;rcases hx with rfl | rfl | rfl;exact key _ h1;exact key _ h2;exact key _ h3
end
def GS{O3:VH}{pb og:Nat}{gc:cx}(cH:App F B sz tk)(hB:O3.N<=B)(qB:pb<O3.N)(hog:og<O3.N)(j:F.hp pb=φ X/\F.hp og=φ gc/\O3.N<=F.N/\∀i,i<O3.N->i≠pb->F.hp i=O3.hp i):(F.after tk).hp pb=φ X/\(F.after tk).hp og=φ gc/\O3.N<=(F.after tk).N/\∀i,i<O3.N->i≠pb->(F.after tk).hp i=O3.hp i:=by
 have NV:=cy.after cH;have hs:∀i,i<O3.N->(F.after tk).hp i=F.hp i:=λi h=>NV.hp i (aka h j.2.2.1) (λe=>by have:=(App.nZ cH e).1;omega)
 exact⟨(hs _ qB).trans j.1,(hs _ hog).trans j.2.1,alR j.2.2.1 NV.N,λi h1 h2=>(hs i h1).trans (j.2.2.2 i h1 h2)⟩
def DQ{ops:Array Oper}{listed:Array Bool}{i:Nat}:∀{k m:Nat},k<=m->∀j,j∈mh ops listed i k->j∈mh ops listed i m
 | 0,_,_,j,h=>by cases h
 | k+1,0,hm,j,h=>by omega
 | k+1,m+1,hm,j,h=>by
   have ih:=DQ (ops:=ops) (listed:=listed) (i:=i) (k:=k) (m:=m) (by omega);rw[mh,List.mem_filter]at h ⊢;refine⟨h.1,?_⟩;obtain⟨h1,h2⟩:=ap3.1 h.2;refine ap3.2 ⟨h1,?_⟩;cases ho:ops[j]? with
   | none=>rw[ho]at h2;cases h2
   | some o=>
     rw[ho]at h2;simp only[Option.map_some,Option.getD_some,Array.any_eq_true']at h2 ⊢;obtain⟨e,he,h3⟩:=h2;obtain⟨h4,h5⟩:=ap3.1 h3;refine⟨e,he,ap3.2 ⟨h4,?_⟩⟩;rcases alV.1 h5 with h6 | h6;exact alV.2 (.inl h6);exact alV.2 (.inr (ap6.2 (ih _ (ap6.1 h6))))
def DT{ops:Array Oper}(k:Nat)(hk:k<=ops.size)(h:(brk.all λj=>listed.getD j Α||j==i||(mh ops listed i k).contains j)=Α:=by kernel_rfl):oz ops brk listed i=Α:=by
 unfold oz;rw[aqq]at h ⊢;intro j hj;have:=h j hj;rcases alV.1 this with h1 | h1;exact alV.2 (.inl h1);exact alV.2 (.inr (ap6.2 (DQ hk _ (ap6.1 h1))))
def flW(t b n:Nat)(cs:Η)(tk:Tok)(x1 x2 x3 y1 y2 y3 y4 y5 y6 y7 y8 y9 y10 y11:MV):Ga (lq [(0,1),(1,1),(2,3),(5,11),(16,1)]) [.v (.pointer Β),.v (.pointer Β),.s [],.s [],.s [],.v (.bool γ),.s [],.s [],.s [],.s [],.s [],.s [],.s [],.l 0 [] .nil,.l 0 [] .nil,.l 0 [] .nil,.l 0 [] .nil] (.p t 0) [(1,.p b 0),(2,.agg [x1,x2,x3]),(3,.agg [y1,y2,y3,y4,y5,y6,y7,y8,y9,y10,y11]),(4,.l n cs tk)] (φ (0,1))=φ [.p t 0,.p b 0,x1,x2,x3,y1,y2,y3,y4,y5,y6,y7,y8,y9,y10,y11,.l n cs tk]:=by kernel_rfl
structure MS(O:VH)(wb mB:Nat)(W cs:Η)(O':VH):Prop where
 ge:O.Ge O'
 w:O'.hp wb=φ (.cells W)
 m:O'.hp mB=φ (.cells cs)
 w0:O.N<=wb
 wl:wb<O'.N
 m0:O.N<=mB
 ml:mB<O'.N
 ne:wb≠mB
def MS.go(h:MS O wb mB W cs O')(g:O'.Ge O2):MS O wb mB W cs O2:=
 ⟨h.ge.trans g,(g.hp _ h.wl).trans h.w,(g.hp _ h.ml).trans h.m,h.w0,aka h.wl g.N,h.m0,aka h.ml g.N,h.ne⟩
def MS.st(h:MS O wb mB W cs O'):MS O wb mB W cs' (O'.set mB (.cells cs')):=
 ⟨h.ge.set h.m0 _,(π _ _ h.ne).trans h.w,υ _ _ _,h.w0,h.wl,h.m0,h.ml,h.ne⟩
def VC.ms{P:Program}{n:Sz}{D:List Deferred}{c:Code}{e:Env}{Q:VQ}(h:MS O wb mB W cs O')(k:∀O2,MS O wb mB W cs' O2->(∀i,i≠mB->O2.hp i=O'.hp i)->O2.N=O'.N->VC P n D c e O2 Q):VC P n D c e (O'.set mB (.cells cs')) Q:=k _ h.st (λi hi=>π _ _ hi) rfl
def MS.mv(h:MS O wb mB W cs O')(hn:O'.N<=O2.N)(hf:∀i,i<O'.N->i≠tb->i≠kd->O2.hp i=O'.hp i)(h1:O.N<=tb)(h2:O.N<=kd)(h3:tb≠wb)(h4:kd≠wb)(h5:tb≠mB)(h6:kd≠mB):MS O wb mB W cs O2:=by
 have hl:=h.ge.N;have hw:=h.wl;have hm:=h.ml;exact⟨⟨by omega,λi hi=>(hf i (by omega) (by omega) (by omega)).trans (h.ge.hp i hi)⟩,(hf _ hw (Ne.symm h3) (Ne.symm h4)).trans h.w,(hf _ hm (Ne.symm h5) (Ne.symm h6)).trans h.m,h.w0,by omega,h.m0,by omega,h.ne⟩
def VK{OF:VH}{q c:Nat}{r r' a':Int}(h:p9 O k L E V ke kv ce cv r a){p:Pm}{es:xQ}(hi:L[i]?=φ (g,t,Β))(hE:E[i]?=φ (fL g,.p q 0,c))(hk:OF.hp k=φ (.cells [.map ke,.map kv,mi r',mi a']))
  (hq:OF.hp q=φ (.cells (kB t 1 0 p jd))) (hn:O.N<=OF.N) (hf:∀j,j<O.N->j≠k->j≠q->j≠md->OF.hp j=O.hp j) (hmd:O.hp md=φ (.map es cm)) (iD:md≠ke/\md≠kv):p9 OF k (L.set i (g,t,φ p)) E V ke kv ce cv r' a':=by
 obtain⟨q2,c2,e1,qy,Gt⟩:=h.NK i g t Β hi;rw[hE]at e1;injection e1 with e1;injection e1 with _ e1;injection e1 with e1 _;injection e1 with e1 _;subst e1;have dm:=h.st.lt;have hke:ke≠q:=λe=>by have:=h.st.FV;rw[e,Gt]at this;cases this
 have Gr:kv≠q:=λe=>by have:=h.st.Lu;rw[e,Gt]at this;cases this
 have hli:=(YI.1 hi).1;refine⟨⟨hk,(hf _ dm.2.1 (Ne.symm h.st.ne.1) hke (Ne.symm iD.1)).trans h.st.FV,(hf _ dm.2.2 (Ne.symm h.st.ne.2.1) Gr (Ne.symm iD.2)).trans h.st.Lu,h.st.Rf,h.st.vok,h.st.ptr,⟨by omega,by omega,by omega⟩,h.st.ne⟩,by rw[aqu];exact h.len,λj g' t' o hj=>?_,h.NL,?_⟩;by_cases e:i=j;subst e;rw[List.getElem?_set_self hli]at hj;injection hj with hj;simp only[Prod.mk.injEq]at hj;obtain⟨rfl,rfl,rfl⟩:=hj;exact⟨q,c,hE,by omega,hq⟩;rw[List.getElem?_set_ne e]at hj;obtain⟨q',c',k1,k2,k3⟩:=h.NK j g' t' o hj;refine⟨q',c',k1,by omega,(hf q' k2 (λe2=>?_) (λe2=>?_) (λe2=>?_)).trans k3⟩;rw[e2,h.st.cell]at k3;injection k3 with k3;injection k3 with k3;cases o<;>cases k3;subst e2;exact e (h.NL i j _ _ q' hE k1 rfl rfl);rw[e2,hmd]at k3;cases k3;rw[aqu];(((refine h.ver.mv hn λj hj e=>(hf j hj (λe2=>?_) (λe2=>?_) (λe2=>?_)).trans e);rw[e2,h.st.cell]at e;cases e);rw[e2,Gt]at e;cases e);rw[e2,hmd]at e;cases e
def rP.off{L:List (Bs×Bs)}{D:xz}(h:rP O tb kr kd L R D cr cd tk kn)(hi:∀i,i≠mB->O'.hp i=O.hp i)(hn:O'.N=O.N)(h1:tb<mB)(h2:kr<mB)(h3:kd<mB):rP O' tb kr kd L R D cr cd tk kn:=
 ⟨(hi _ (by omega)).trans h.cell,(hi _ (by omega)).trans h.raw,(hi _ (by omega)).trans h.done,by rw[hn];exact h.lt,h.ne⟩
def Wk.mdl(a1 a2 a3 a4:MV)(n1 n2 n3:Nat)(c1 c2 c3:Η)(t1 t2 t3:Tok):fR [a1,a2,a3,a4,.l n1 c1 t1,.l n2 c2 t2,.l n3 c3 t3] [a1,a2,a3,a4,.l n1 c1 .au,.l n2 c2 .au,.l n3 c3 .au]:=
 by repeat' first
  | exact fR.refl _
  | exact Wk.refl _
  | exact Wk.tok
  | refine fR.cons ?_ ?_
def DU{L:List (Bs×Bs)}{D:xz}(h:rP O tb kr kd L R D cr cd tk kn)(h1:tb≠b)(h2:kr≠b)(h3:kd≠b):rP (O.set b X) tb kr kd L R D cr cd tk kn:=
 ⟨(π _ _ h1).trans h.cell,(π _ _ h2).trans h.raw,(π _ _ h3).trans h.done,h.lt,h.ne⟩
def wN{t7:Tok}(cH:App F B sz t7){L:List (Bs×Bs)}{D:xz}(h:rP F tb kr kd L R D cr cd tk kn):rP (F.after t7) tb kr kd L R D cr cd tk kn:=by
 have hn:=(cy.after cH).N;have hl:=h.lt;exact⟨(App.off cH hl.1 (by rw[h.cell];simp)).trans h.cell,(App.off cH hl.2.1 (by rw[h.raw];simp)).trans h.raw,(App.off cH hl.2.2 (by rw[h.done];simp)).trans h.done,by omega,h.ne⟩
abbrev o0:Η:=[.s [],.s [],.s [],.s [],.l 0 [] .nil,.l 0 [] .nil,.l 0 [] .nil]
def aeA{r:Int}(hB:VJ O bb md k MD cm)(h:p9 O k L E V ke kv ce cv r a){n:Nd}{p:Pm}(hi:L[i]?=φ (g,t,Β))(hg:wH g)(ht:Ζ t<=65536)(hb:jF t= .ok n)(hr:rJ n= .ok p)(hq:PmQ p g)(dh:jC (fL g) MD=Β)(iD:md≠ke/\md≠kv):
  VF Ε 105 [.p bb 0,.agg (cD g),.l 0 [] .nil] O (aH λm O'=>m= .agg (nT (j5 g p))/\∃q c,E[i]?=φ (fL g,.p q 0,c)/\(∃r' a',p9 O' k (L.set i (g,t,φ p)) E V ke kv ce cv r' a')/\VJ O' bb md k (MD++[(fL g,.agg (nT (j5 g p)),cm)]) (cm+1)/\O.N<=O'.N/\∀j,j<O.N->j≠k->j≠q->j≠md->O'.hp j=O.hp j):=by
 have zc:=λ(O':VH)(g':O.Ge O')=>aaS (h.ge g') hi hg ht hb hr hq.c
 have n9:=yS hg;have hBc:=λ(O':VH)(g':O.Ge O')=>(hB.ge g')
 obtain⟨g1,g2,g3⟩:=g;simp only[cD,iR,pf,jd,aq,bB]at zc;simp only[cD];refine ω 120 [.cell 6 215] func105 ?_;refine κ aU ?_;refine VC.gen ?_;intro O1 e1;obtain⟨aK,dd,cJ,cC⟩:=iY _ _ e1;clear e1;have qi:=hBc O1 aK;have hlB:=hB.lt;refine Ξ [0,2,4,6,8] (λ_:Unit=>[.p bb 0,.l 0 [] .nil,.p O.N 0,.p (O.N+1) 0,mb γ]) (λ_ O'=>O1.Ge O') ?_ ?_;refine Γ ?_;refine VC.sU [11] (λO'=>O'.hp bb=φ (.cells [.p k 0,.map md])/\O'.hp O.N=φ (.cells [.s g1,.s g2,.s g3])/\O1.Ge O') (⟨qi.cell,cJ,VH.Ge.refl _⟩) ?_;refine ρ 0 aU ?_;refine ρ 1 aU ?_;refine ρ 2 aU ?_;refine ε (m:=.map md) 3 ?_ ?_;rintro O2 ⟨j0,j1,j2⟩;exact eD aU j0;simp only[ak];refine ε (m:=.agg [.s g1,.s g2,.s g3]) 4 ?_ ?_;rintro O2 ⟨j0,j1,j2⟩;exact eD aU j1;simp only[ak];((((have mY:∀A B:VH,A.Ge B->(A.hp bb=φ (.cells [.p k 0,.map md])/\A.hp O.N=φ (.cells [.s g1,.s g2,.s g3])/\O1.Ge A)->(B.hp bb=φ (.cells [.p k 0,.map md])/\B.hp O.N=φ (.cells [.s g1,.s g2,.s g3])/\O1.Ge B):=λA B g h=>⟨(g.hp _ (by have:=h.2.2.N;have:=qi.lt;omega)).trans h.1,(g.hp _ (by have:=h.2.2.N;omega)).trans h.2.1,h.2.2.trans g⟩);have th:O1.hp bb=φ (.cells [.p k 0,.map md])/\O1.hp O.N=φ (.cells [.s g1,.s g2,.s g3])/\O1.Ge O1:=⟨qi.cell,cJ,VH.Ge.refl _⟩;have xn:∀A:VH,A.Ge (A.push (.cells o0)):=λA=>(VH.Ge.refl A).push _);have hJs:((O1.push (.cells o0)).set O1.N (.cells o0)).hp bb=φ (.cells [.p k 0,.map md])/\((O1.push (.cells o0)).set O1.N (.cells o0)).hp O.N=φ (.cells [.s g1,.s g2,.s g3])/\O1.Ge ((O1.push (.cells o0)).set O1.N (.cells o0)):=mY O1 _ ((xn O1).set (agb _) _) th;refine aqJ (i:=5) (j:=9) ?_ ?_);refine aI.uJ (gJ.lV yR aa (l:=fL ⟨g1,g2,g3⟩) (te:=⟨_,7,136,o0⟩) Tryz.underlying172 HZ.1.1 rfl rfl qi.map qi.ok rfl rfl n9) ?_;rw[dh];refine⟨th,?_⟩;refine ρ 6 aU ?_;refine ρ 7 aU ?_;refine ρ 8 aU ?_;refine ab.op (i:=9) ?_;refine ae aU ?_;refine⟨⟨th.1,th.2.1,xn _⟩,?_⟩;refine ab.op (i:=10) ?_;refine ae aU ?_;refine⟨⟨th.1,th.2.1,hJs.2.2⟩,?_⟩;refine ab.bW [(11,.one)] ?_;refine ae aU ?_;refine ν aU ?_;exact aB.mk () ((xn O1).set (agb _) _));refine aI.o1 ?_;refine ae aU ?_;refine⟨⟨th.1,th.2.1,xn _⟩,?_⟩;refine ab.one (i:=5) (aI.uJ (gJ.lV yR aa (l:=fL ⟨g1,g2,g3⟩) (te:=⟨_,7,136,o0⟩) Tryz.underlying172 HZ.1.1 rfl rfl ((xn _).hp _ qi.lt.2 |>.trans qi.map) qi.ok rfl rfl n9) ?_);rw[dh];refine⟨mY _ _ (xn _) th,?_⟩;refine ρ 6 aU ?_;refine ρ 7 aU ?_;refine ρ 8 aU ?_;refine ab.op (i:=10) ?_;refine ae aU ?_;refine⟨⟨th.1,th.2.1,hJs.2.2⟩,?_⟩;refine ab.bW [(11,.one)] ?_;refine ae aU ?_;refine ν aU ?_;exact aB.mk () ((xn O1).set (agb _) _)
 rintro _ O2 aC;have F1:=aK.trans aC;have EM:=hBc O2 F1;have wO:O2.hp bb=φ (.cells [.p k 0,.map md])/\O2.hp O.N=φ (.cells [.s g1,.s g2,.s g3]):=⟨EM.cell,aC.at cJ⟩;have cG:=aC.at cC;have gO2:=VH.Ge.refl O2;have fc:=aC.N;obtain⟨q0,c,rZ,ajc,Gt,hE0⟩:=h.some hi;have gW:=h.st.lt.1;have vc:bb≠k:=λe=>by have:=hB.cell;rw[e,h.st.cell]at this;simp at this
 have hbq:bb≠q0:=λe=>by have:=hB.cell;rw[e,Gt]at this;simp[ad8,kB]at this
 refine Ξ [0,2,4,6,9,10] (λx:Nat×Nat=>[.p bb 0,.l 0 [] .nil,.p O.N 0,.p (O.N+1) 0,.p x.1 0,.p x.2 0]) (λx O'=>x.1≠x.2/\O2.N<=x.1/\O2.N<=x.2/\x.1<O'.N/\x.2<O'.N/\O'.hp x.1=φ (.cells (iR p))/\O'.hp x.2=φ (.cells (pf jd))/\(∃r' a',O'.hp k=φ (.cells [.map ke,.map kv,mi r',mi a']))/\O'.hp q0=φ (.cells (kB t 1 0 p jd))/\ec O2 k q0 O') ?_ ?_
 ·have hpm:∃P0,P0=iR p:=⟨_,rfl⟩
  refine VC.sU [12] (λO'=>O'.hp bb=φ (.cells [.p k 0,.map md])/\O'.hp O.N=φ (.cells [.s g1,.s g2,.s g3])) (wO) ?_;refine ρ 0 aU ?_;refine ρ 1 aU ?_;refine ρ 2 aU ?_;refine ε (m:=.p k 0) 3 ?_ ?_;rintro O2 ⟨j0,j1⟩;exact eD aU j0;simp only[ak];refine ε (m:=.agg [.s g1,.s g2,.s g3]) 4 ?_ ?_;rintro O2 ⟨j0,j1⟩;exact eD aU j1;simp only[ak];refine ab.aez (i:=5) (j:=9) (k:=10) ?_ ?_ ?_;refine aI.lr (zc O2 (F1.trans gO2)) ?_;rintro _ qk ⟨rfl,q,DV,X9,⟨r',a',aeB⟩,aeC,hu⟩;(((((obtain rfl:q=q0:=by rw[DV]at rZ;injection rZ with e;injection e);have apx:=hu.N;have X_:=(ec.of (k:=k) (q:=q) gO2).trans hu;have ao4:=hu.hp;clear hu;have IT:qk.hp bb=φ (.cells [.p k 0,.map md])/\qk.hp O.N=φ (.cells [.s g1,.s g2,.s g3]):=⟨(X_.hp bb (by omega) vc hbq).trans wO.1,(X_.hp O.N (by omega) (by omega) (by omega)).trans wO.2⟩;simp only[ak];refine⟨IT,?_⟩;refine ρ 6 aU ?_;refine ρ 7 aU ?_;refine ρ 8 aU ?_;refine aqJ (i:=9) (j:=10) ?_ ?_);refine aI.o1 ?_;refine ae aU ?_;refine⟨IT,?_⟩;have IU:VH.Ge qk (VH.push qk (.cells gB)):=(VH.Ge.refl _).push _;have Sb:(VH.push qk (.cells gB)).hp (qk.N)=φ (.cells gB):=ζ _ _;have ao5:(VH.push qk (.cells gB)).N=qk.N+1:=rfl;have VN:(VH.push qk (.cells gB)).hp bb=φ (.cells [.p k 0,.map md])/\(VH.push qk (.cells gB)).hp O.N=φ (.cells [.s g1,.s g2,.s g3]):=⟨IU.at IT.1,IU.at IT.2⟩;generalize VH.push qk (.cells gB)=vB at*;have ahQ:=IU.at aeB;have ahR:=IU.at aeC;have ald:=X_.ge IU;refine ab.op (i:=10) ?_;refine ae aU ?_;refine⟨VN,?_⟩;have As:VH.Ge vB (VH.push vB (.cells [.v (Ι Κ 0),.s [],.s [],.s [],.v (Ι Κ 0),.v (Ι Κ 0),.v (Ι Κ 0),.s []])):=(VH.Ge.refl _).push _;have Ka:(VH.push vB (.cells [.v (Ι Κ 0),.s [],.s [],.s [],.v (Ι Κ 0),.v (Ι Κ 0),.v (Ι Κ 0),.s []])).hp (vB.N)=φ (.cells [.v (Ι Κ 0),.s [],.s [],.s [],.v (Ι Κ 0),.v (Ι Κ 0),.v (Ι Κ 0),.s []]):=ζ _ _;have aoV:(VH.push vB (.cells [.v (Ι Κ 0),.s [],.s [],.s [],.v (Ι Κ 0),.v (Ι Κ 0),.v (Ι Κ 0),.s []])).N=vB.N+1:=rfl;have NZ:(VH.push vB (.cells [.v (Ι Κ 0),.s [],.s [],.s [],.v (Ι Κ 0),.v (Ι Κ 0),.v (Ι Κ 0),.s []])).hp bb=φ (.cells [.p k 0,.map md])/\(VH.push vB (.cells [.v (Ι Κ 0),.s [],.s [],.s [],.v (Ι Κ 0),.v (Ι Κ 0),.v (Ι Κ 0),.s []])).hp O.N=φ (.cells [.s g1,.s g2,.s g3]):=⟨As.at VN.1,As.at VN.2⟩;generalize VH.push vB (.cells [.v (Ι Κ 0),.s [],.s [],.s [],.v (Ι Κ 0),.v (Ι Κ 0),.v (Ι Κ 0),.s []])=VO at*;have aeD:=As.at ahQ;have aeE:=As.at ahR;have Ya:=ald.ge As;have N0:=As.at Sb;have xB:=N0;have l_:=Ka;(((((have hne:qk.N≠vB.N:=by omega);have ph:O2.N<=qk.N:=by omega);have ni:O2.N<=vB.N:=by omega);have p5:qk.N<VH.N VO:=by omega);have rS:vB.N<VH.N VO:=by omega);refine ab.op (i:=11) ?_;refine ao aU xB ?_;refine⟨by first | exact⟨Δ (And.left NZ),Δ (And.right NZ)⟩ | exact NZ,?_⟩;refine ab.bW [(12,.one)] ?_;refine aE aU xB l_ ?_;exact aB.mk (qk.N,vB.N) ⟨hne,ph,ni,p5,rS,(π _ _ hne).trans (υ _ _ _),υ _ _ _,⟨r',a',Δ (Δ aeD)⟩,Δ (Δ aeE),⟨(by show O2.N<=VH.N VO;exact ec.N Ya),λi h1 h2 h3=>by rw[VH.sx,VH.sx];exact ec.hp Ya i h1 h2 h3⟩⟩);refine aI.o1 ?_;refine ae aU ?_;refine⟨IT,?_⟩;have IV:VH.Ge qk (VH.push qk (.cells [.v (Ι Κ 0),.s [],.s [],.s [],.v (Ι Κ 0),.v (Ι Κ 0),.v (Ι Κ 0),.s []])):=(VH.Ge.refl _).push _;have Sc:(VH.push qk (.cells [.v (Ι Κ 0),.s [],.s [],.s [],.v (Ι Κ 0),.v (Ι Κ 0),.v (Ι Κ 0),.s []])).hp (qk.N)=φ (.cells [.v (Ι Κ 0),.s [],.s [],.s [],.v (Ι Κ 0),.v (Ι Κ 0),.v (Ι Κ 0),.s []]):=ζ _ _;have ao6:(VH.push qk (.cells [.v (Ι Κ 0),.s [],.s [],.s [],.v (Ι Κ 0),.v (Ι Κ 0),.v (Ι Κ 0),.s []])).N=qk.N+1:=rfl;have VP:(VH.push qk (.cells [.v (Ι Κ 0),.s [],.s [],.s [],.v (Ι Κ 0),.v (Ι Κ 0),.v (Ι Κ 0),.s []])).hp bb=φ (.cells [.p k 0,.map md])/\(VH.push qk (.cells [.v (Ι Κ 0),.s [],.s [],.s [],.v (Ι Κ 0),.v (Ι Κ 0),.v (Ι Κ 0),.s []])).hp O.N=φ (.cells [.s g1,.s g2,.s g3]):=⟨IV.at IT.1,IV.at IT.2⟩;generalize VH.push qk (.cells [.v (Ι Κ 0),.s [],.s [],.s [],.v (Ι Κ 0),.v (Ι Κ 0),.v (Ι Κ 0),.s []])=vC at*;have ahS:=IV.at aeB;have ahT:=IV.at aeC;have ale:=X_.ge IV;refine ab.op (i:=9) ?_;refine ae aU ?_;refine⟨VP,?_⟩;have At:VH.Ge vC (VH.push vC (.cells gB)):=(VH.Ge.refl _).push _;have Kb:(VH.push vC (.cells gB)).hp (vC.N)=φ (.cells gB):=ζ _ _;have aoW:(VH.push vC (.cells gB)).N=vC.N+1:=rfl;have N1:(VH.push vC (.cells gB)).hp bb=φ (.cells [.p k 0,.map md])/\(VH.push vC (.cells gB)).hp O.N=φ (.cells [.s g1,.s g2,.s g3]):=⟨At.at VP.1,At.at VP.2⟩;generalize VH.push vC (.cells gB)=VS at*;have aeF:=At.at ahS;have aeG:=At.at ahT;have Yb:=ale.ge At;have N2:=At.at Sc;have xB:=Kb;have l_:=N2;(((((have hne:vC.N≠qk.N:=by omega);have ph:O2.N<=vC.N:=by omega);have ni:O2.N<=qk.N:=by omega);have p5:vC.N<VH.N VS:=by omega);have rS:qk.N<VH.N VS:=by omega);refine ab.op (i:=11) ?_;refine ao aU xB ?_;refine⟨by first | exact⟨Δ (And.left N1),Δ (And.right N1)⟩ | exact N1,?_⟩;refine ab.bW [(12,.one)] ?_;refine aE aU xB l_ ?_;exact aB.mk (vC.N,qk.N) ⟨hne,ph,ni,p5,rS,(π _ _ hne).trans (υ _ _ _),υ _ _ _,⟨r',a',Δ (Δ aeF)⟩,Δ (Δ aeG),⟨(by show O2.N<=VH.N VS;exact ec.N Yb),λi h1 h2 h3=>by rw[VH.sx,VH.sx];exact ec.hp Yb i h1 h2 h3⟩⟩);refine aI.o1 ?_;refine ae aU ?_;refine⟨wO,?_⟩;have aeH:VH.Ge O2 (VH.push O2 (.cells gB)):=(VH.Ge.refl _).push _;have LS:(VH.push O2 (.cells gB)).hp (O2.N)=φ (.cells gB):=ζ _ _;have apy:(VH.push O2 (.cells gB)).N=O2.N+1:=rfl;have aeI:(VH.push O2 (.cells gB)).hp bb=φ (.cells [.p k 0,.map md])/\(VH.push O2 (.cells gB)).hp O.N=φ (.cells [.s g1,.s g2,.s g3]):=⟨aeH.at wO.1,aeH.at wO.2⟩;generalize VH.push O2 (.cells gB)=Cb at*;have aeJ:=gO2.trans aeH;refine aqJ (i:=5) (j:=10) ?_ ?_;refine aI.lr (zc Cb (F1.trans aeJ)) ?_;rintro _ tj ⟨rfl,q,DV,X9,⟨r',a',ahU⟩,ahV,hu⟩;(((((((obtain rfl:q=q0:=by rw[DV]at rZ;injection rZ with e;injection e);have ao7:=hu.N;have VT:=(ec.of (k:=k) (q:=q) aeJ).trans hu;have ahW:=hu.hp;clear hu;have N3:tj.hp bb=φ (.cells [.p k 0,.map md])/\tj.hp O.N=φ (.cells [.s g1,.s g2,.s g3]):=⟨(VT.hp bb (by omega) vc hbq).trans wO.1,(VT.hp O.N (by omega) (by omega) (by omega)).trans wO.2⟩;have VU:=(ahW O2.N (by omega) (by omega) (by omega)).trans LS;simp only[ak];refine⟨N3,?_⟩;refine ρ 6 aU ?_;refine ρ 7 aU ?_;refine ρ 8 aU ?_;refine ab.op (i:=10) ?_;refine ae aU ?_;refine⟨N3,?_⟩;have Au:VH.Ge tj (VH.push tj (.cells [.v (Ι Κ 0),.s [],.s [],.s [],.v (Ι Κ 0),.v (Ι Κ 0),.v (Ι Κ 0),.s []])):=(VH.Ge.refl _).push _;have Kc:(VH.push tj (.cells [.v (Ι Κ 0),.s [],.s [],.s [],.v (Ι Κ 0),.v (Ι Κ 0),.v (Ι Κ 0),.s []])).hp (tj.N)=φ (.cells [.v (Ι Κ 0),.s [],.s [],.s [],.v (Ι Κ 0),.v (Ι Κ 0),.v (Ι Κ 0),.s []]):=ζ _ _;have aoX:(VH.push tj (.cells [.v (Ι Κ 0),.s [],.s [],.s [],.v (Ι Κ 0),.v (Ι Κ 0),.v (Ι Κ 0),.s []])).N=tj.N+1:=rfl;have N4:(VH.push tj (.cells [.v (Ι Κ 0),.s [],.s [],.s [],.v (Ι Κ 0),.v (Ι Κ 0),.v (Ι Κ 0),.s []])).hp bb=φ (.cells [.p k 0,.map md])/\(VH.push tj (.cells [.v (Ι Κ 0),.s [],.s [],.s [],.v (Ι Κ 0),.v (Ι Κ 0),.v (Ι Κ 0),.s []])).hp O.N=φ (.cells [.s g1,.s g2,.s g3]):=⟨Au.at N3.1,Au.at N3.2⟩;generalize VH.push tj (.cells [.v (Ι Κ 0),.s [],.s [],.s [],.v (Ι Κ 0),.v (Ι Κ 0),.v (Ι Κ 0),.s []])=VV at*;have aeK:=Au.at ahU;have aeL:=Au.at ahV;have Yc:=VT.ge Au;have Sd:=Au.at VU;have xB:=Sd;have l_:=Kc;have hne:O2.N≠tj.N:=by omega);have ph:O2.N<=O2.N:=by omega);have ni:O2.N<=tj.N:=by omega);have p5:O2.N<VH.N VV:=by omega);have rS:tj.N<VH.N VV:=by omega);refine ab.op (i:=11) ?_;refine ao aU xB ?_;refine⟨by first | exact⟨Δ (And.left N4),Δ (And.right N4)⟩ | exact N4,?_⟩;refine ab.bW [(12,.one)] ?_;refine aE aU xB l_ ?_;exact aB.mk (O2.N,tj.N) ⟨hne,ph,ni,p5,rS,(π _ _ hne).trans (υ _ _ _),υ _ _ _,⟨r',a',Δ (Δ aeK)⟩,Δ (Δ aeL),⟨(by show O2.N<=VH.N VV;exact ec.N Yc),λi h1 h2 h3=>by rw[VH.sx,VH.sx];exact ec.hp Yc i h1 h2 h3⟩⟩);refine aI.o1 ?_;refine ae aU ?_;refine⟨aeI,?_⟩;have N5:VH.Ge Cb (VH.push Cb (.cells [.v (Ι Κ 0),.s [],.s [],.s [],.v (Ι Κ 0),.v (Ι Κ 0),.v (Ι Κ 0),.s []])):=(VH.Ge.refl _).push _;have Se:(VH.push Cb (.cells [.v (Ι Κ 0),.s [],.s [],.s [],.v (Ι Κ 0),.v (Ι Κ 0),.v (Ι Κ 0),.s []])).hp (Cb.N)=φ (.cells [.v (Ι Κ 0),.s [],.s [],.s [],.v (Ι Κ 0),.v (Ι Κ 0),.v (Ι Κ 0),.s []]):=ζ _ _;have ao8:(VH.push Cb (.cells [.v (Ι Κ 0),.s [],.s [],.s [],.v (Ι Κ 0),.v (Ι Κ 0),.v (Ι Κ 0),.s []])).N=Cb.N+1:=rfl;have ao9:(VH.push Cb (.cells [.v (Ι Κ 0),.s [],.s [],.s [],.v (Ι Κ 0),.v (Ι Κ 0),.v (Ι Κ 0),.s []])).hp bb=φ (.cells [.p k 0,.map md])/\(VH.push Cb (.cells [.v (Ι Κ 0),.s [],.s [],.s [],.v (Ι Κ 0),.v (Ι Κ 0),.v (Ι Κ 0),.s []])).hp O.N=φ (.cells [.s g1,.s g2,.s g3]):=⟨N5.at aeI.1,N5.at aeI.2⟩;generalize VH.push Cb (.cells [.v (Ι Κ 0),.s [],.s [],.s [],.v (Ι Κ 0),.v (Ι Κ 0),.v (Ι Κ 0),.s []])=anK at*;have aeM:=aeJ.trans N5;have VW:=N5.at LS;refine ab.call (i:=5) (zc anK (F1.trans aeM)) ?_;rintro _ IW ⟨rfl,q,DV,X9,⟨r',a',aeN⟩,aeO,hu⟩;((((((obtain rfl:q=q0:=by rw[DV]at rZ;injection rZ with e;injection e);have aoY:=hu.N;have GU:=(ec.of (k:=k) (q:=q) aeM).trans hu;have Sf:=hu.hp;clear hu;have GV:IW.hp bb=φ (.cells [.p k 0,.map md])/\IW.hp O.N=φ (.cells [.s g1,.s g2,.s g3]):=⟨(GU.hp bb (by omega) vc hbq).trans wO.1,(GU.hp O.N (by omega) (by omega) (by omega)).trans wO.2⟩;have Sg:=(Sf O2.N (by omega) (by omega) (by omega)).trans VW;have N6:=(Sf Cb.N (by omega) (by omega) (by omega)).trans Se;simp only[ak];refine⟨GV,?_⟩;refine ρ 6 aU ?_;refine ρ 7 aU ?_;refine ρ 8 aU ?_;have xB:=Sg;have l_:=N6;have hne:O2.N≠Cb.N:=by omega);have ph:O2.N<=O2.N:=by omega);have ni:O2.N<=Cb.N:=by omega);have p5:O2.N<VH.N IW:=by omega);have rS:Cb.N<VH.N IW:=by omega);refine ab.op (i:=11) ?_;refine ao aU xB ?_;refine⟨by first | exact⟨Δ (And.left GV),Δ (And.right GV)⟩ | exact GV,?_⟩;refine ab.bW [(12,.one)] ?_;refine aE aU xB l_ ?_;exact aB.mk (O2.N,Cb.N) ⟨hne,ph,ni,p5,rS,(π _ _ hne).trans (υ _ _ _),υ _ _ _,⟨r',a',Δ (Δ aeN)⟩,Δ (Δ aeO),⟨(by show O2.N<=VH.N IW;exact ec.N GU),λi h1 h2 h3=>by rw[VH.sx,VH.sx];exact ec.hp GU i h1 h2 h3⟩⟩);refine aI.o1 ?_;refine ae aU ?_;refine⟨wO,?_⟩;have aeP:VH.Ge O2 (VH.push O2 (.cells [.v (Ι Κ 0),.s [],.s [],.s [],.v (Ι Κ 0),.v (Ι Κ 0),.v (Ι Κ 0),.s []])):=(VH.Ge.refl _).push _;have LU:(VH.push O2 (.cells [.v (Ι Κ 0),.s [],.s [],.s [],.v (Ι Κ 0),.v (Ι Κ 0),.v (Ι Κ 0),.s []])).hp (O2.N)=φ (.cells [.v (Ι Κ 0),.s [],.s [],.s [],.v (Ι Κ 0),.v (Ι Κ 0),.v (Ι Κ 0),.s []]):=ζ _ _;have apz:(VH.push O2 (.cells [.v (Ι Κ 0),.s [],.s [],.s [],.v (Ι Κ 0),.v (Ι Κ 0),.v (Ι Κ 0),.s []])).N=O2.N+1:=rfl;have aeQ:(VH.push O2 (.cells [.v (Ι Κ 0),.s [],.s [],.s [],.v (Ι Κ 0),.v (Ι Κ 0),.v (Ι Κ 0),.s []])).hp bb=φ (.cells [.p k 0,.map md])/\(VH.push O2 (.cells [.v (Ι Κ 0),.s [],.s [],.s [],.v (Ι Κ 0),.v (Ι Κ 0),.v (Ι Κ 0),.s []])).hp O.N=φ (.cells [.s g1,.s g2,.s g3]):=⟨aeP.at wO.1,aeP.at wO.2⟩;generalize VH.push O2 (.cells [.v (Ι Κ 0),.s [],.s [],.s [],.v (Ι Κ 0),.v (Ι Κ 0),.v (Ι Κ 0),.s []])=Cc at*;have aeR:=gO2.trans aeP;refine aqJ (i:=5) (j:=9) ?_ ?_;refine aI.lr (zc Cc (F1.trans aeR)) ?_;rintro _ tn ⟨rfl,q,DV,X9,⟨r',a',ahX⟩,ahY,hu⟩;(((((((obtain rfl:q=q0:=by rw[DV]at rZ;injection rZ with e;injection e);have ao_:=hu.N;have VZ:=(ec.of (k:=k) (q:=q) aeR).trans hu;have ahZ:=hu.hp;clear hu;have N7:tn.hp bb=φ (.cells [.p k 0,.map md])/\tn.hp O.N=φ (.cells [.s g1,.s g2,.s g3]):=⟨(VZ.hp bb (by omega) vc hbq).trans wO.1,(VZ.hp O.N (by omega) (by omega) (by omega)).trans wO.2⟩;have V0:=(ahZ O2.N (by omega) (by omega) (by omega)).trans LU;simp only[ak];refine⟨N7,?_⟩;refine ρ 6 aU ?_;refine ρ 7 aU ?_;refine ρ 8 aU ?_;refine ab.op (i:=9) ?_;refine ae aU ?_;refine⟨N7,?_⟩;have Av:VH.Ge tn (VH.push tn (.cells gB)):=(VH.Ge.refl _).push _;have Kd:(VH.push tn (.cells gB)).hp (tn.N)=φ (.cells gB):=ζ _ _;have aoZ:(VH.push tn (.cells gB)).N=tn.N+1:=rfl;have N8:(VH.push tn (.cells gB)).hp bb=φ (.cells [.p k 0,.map md])/\(VH.push tn (.cells gB)).hp O.N=φ (.cells [.s g1,.s g2,.s g3]):=⟨Av.at N7.1,Av.at N7.2⟩;generalize VH.push tn (.cells gB)=V1 at*;have aeS:=Av.at ahX;have aeT:=Av.at ahY;have Yd:=VZ.ge Av;have Sh:=Av.at V0;have xB:=Kd;have l_:=Sh;have hne:tn.N≠O2.N:=by omega);have ph:O2.N<=tn.N:=by omega);have ni:O2.N<=O2.N:=by omega);have p5:tn.N<VH.N V1:=by omega);have rS:O2.N<VH.N V1:=by omega);refine ab.op (i:=11) ?_;refine ao aU xB ?_;refine⟨by first | exact⟨Δ (And.left N8),Δ (And.right N8)⟩ | exact N8,?_⟩;refine ab.bW [(12,.one)] ?_;refine aE aU xB l_ ?_;exact aB.mk (tn.N,O2.N) ⟨hne,ph,ni,p5,rS,(π _ _ hne).trans (υ _ _ _),υ _ _ _,⟨r',a',Δ (Δ aeS)⟩,Δ (Δ aeT),⟨(by show O2.N<=VH.N V1;exact ec.N Yd),λi h1 h2 h3=>by rw[VH.sx,VH.sx];exact ec.hp Yd i h1 h2 h3⟩⟩);refine aI.o1 ?_;refine ae aU ?_;refine⟨aeQ,?_⟩;have N9:VH.Ge Cc (VH.push Cc (.cells gB)):=(VH.Ge.refl _).push _;have Si:(VH.push Cc (.cells gB)).hp (Cc.N)=φ (.cells gB):=ζ _ _;have apa:(VH.push Cc (.cells gB)).N=Cc.N+1:=rfl;have apb:(VH.push Cc (.cells gB)).hp bb=φ (.cells [.p k 0,.map md])/\(VH.push Cc (.cells gB)).hp O.N=φ (.cells [.s g1,.s g2,.s g3]):=⟨N9.at aeQ.1,N9.at aeQ.2⟩;generalize VH.push Cc (.cells gB)=anL at*;have aeU:=aeR.trans N9;have V2:=N9.at LU;refine ab.call (i:=5) (zc anL (F1.trans aeU)) ?_;rintro _ IX ⟨rfl,q,DV,X9,⟨r',a',aeV⟩,aeW,hu⟩;((((((obtain rfl:q=q0:=by rw[DV]at rZ;injection rZ with e;injection e);have ao0:=hu.N;have GW:=(ec.of (k:=k) (q:=q) aeU).trans hu;have Sj:=hu.hp;clear hu;have GX:IX.hp bb=φ (.cells [.p k 0,.map md])/\IX.hp O.N=φ (.cells [.s g1,.s g2,.s g3]):=⟨(GW.hp bb (by omega) vc hbq).trans wO.1,(GW.hp O.N (by omega) (by omega) (by omega)).trans wO.2⟩;have Sk:=(Sj O2.N (by omega) (by omega) (by omega)).trans V2;have N_:=(Sj Cc.N (by omega) (by omega) (by omega)).trans Si;simp only[ak];refine⟨GX,?_⟩;refine ρ 6 aU ?_;refine ρ 7 aU ?_;refine ρ 8 aU ?_;have xB:=N_;have l_:=Sk;have hne:Cc.N≠O2.N:=by omega);have ph:O2.N<=Cc.N:=by omega);have ni:O2.N<=O2.N:=by omega);have p5:Cc.N<VH.N IX:=by omega);have rS:O2.N<VH.N IX:=by omega);refine ab.op (i:=11) ?_;refine ao aU xB ?_;refine⟨by first | exact⟨Δ (And.left GX),Δ (And.right GX)⟩ | exact GX,?_⟩;refine ab.bW [(12,.one)] ?_;refine aE aU xB l_ ?_;exact aB.mk (Cc.N,O2.N) ⟨hne,ph,ni,p5,rS,(π _ _ hne).trans (υ _ _ _),υ _ _ _,⟨r',a',Δ (Δ aeV)⟩,Δ (Δ aeW),⟨(by show O2.N<=VH.N IX;exact ec.N GW),λi h1 h2 h3=>by rw[VH.sx,VH.sx];exact ec.hp GW i h1 h2 h3⟩⟩
 rintro⟨pb,xb⟩ O3 ⟨aeX,anM,aer,Bk,anN,rK,kD,⟨r',a',en⟩,qF,dF⟩;dsimp only at aeX anM aer Bk anN rK kD ⊢;have ij:=dF.N;have j3:O3.hp bb=φ (.cells [.p k 0,.map md])/\O3.hp O.N=φ (.cells [.s g1,.s g2,.s g3]):=⟨(dF.hp bb (by omega) vc hbq).trans wO.1,(dF.hp O.N (by omega) (by omega) (by omega)).trans wO.2⟩;have cN:=(dF.hp (O.N+1) (by omega) (by omega) (by omega)).trans cG;have ajs:md≠k:=λe=>by have:=hB.map;rw[e,h.st.cell]at this;cases this
 have ajt:md≠q0:=λe=>by have:=hB.map;rw[e,Gt]at this;cases this
 have zb:=(dF.hp md (by omega) ajs ajt).trans EM.map;have IP:=kD;simp only[pf,jd,aq]at IP;refine ξ aU IP ?_;refine VL.HK aa (bb:=γ) (b:=Α) (by simp) (by simp[kK]) (.inr ⟨rfl,rfl⟩) (by kernel_rfl) (by kernel_rfl) rfl rfl rfl rfl ?_;refine ae aU ?_;simp only[iR,bB]at rK;refine Ξ [0,4,6,9,11] (λx:Nat×Nat=>[.p bb 0,.p O.N 0,.p (O.N+1) 0,.p pb 0,.p x.1 0]) (λx O'=>O3.Ge O'/\O3.N<=x.1/\x.1<O'.N/\(∃tw,O'.hp x.1=φ (.cells (vA x.2 bb ⟨g1,g2,g3⟩ p tw)))/\∃kr kd R cr t,rP O' x.2 kr kd (jG p) R [] cr 0 t 0/\(∀x∈jG p,AN x.1 R=φ x.2)/\O3.N<=kr/\O3.N<=kd/\O3.N<=x.2/\x.2≠x.1/\kd≠x.1/\kr≠x.1) ?_ ?_;refine VC.Dr [13] (pb) (λO'=>O'.hp O.N=φ (.cells [.s g1,.s g2,.s g3])/\O3.N<=O'.N/\∀i,i<O3.N->i≠pb->O'.hp i=O3.hp i) (rK) (λX=>⟨Δ j3.2,agb _,λi _ h=>π _ _ h⟩) ?_;intro X;refine aqK (m:=.agg [.v (.bool p.hp),.s p.par.g,.s p.par.a,.s p.par.v,.s p.g,.s p.a,.s p.v,.s p.pk,.l (Ζ p.props) (p.props.flatMap bH) .au,.l (Ζ p.fF) (p.fF.flatMap aX) .au,.l (Ζ p.ft) (p.ft.flatMap aX) .au]) 0 (λ_ h=>h.1) (λ_ h=>h) ?_ ?_;exact ff aU;simp only[ak];refine ρ 3 aU ?_;refine ε (m:=.agg [.s g1,.s g2,.s g3]) 4 ?_ ?_;rintro O2 ⟨j0,j1,j2⟩;exact eD aU j1;simp only[ak];refine aqK (m:=.agg [.v (.bool p.hp),.s p.par.g,.s p.par.a,.s p.par.v,.s p.g,.s p.a,.s p.v,.s p.pk,.l (Ζ p.props) (p.props.flatMap bH) .au,.l (Ζ p.fF) (p.fF.flatMap aX) .au,.l (Ζ p.ft) (p.ft.flatMap aX) .au]) 5 (λ_ h=>h.1) (λ_ h=>h) ?_ ?_;exact ff aU;simp only[ak];refine ρ 6 aU ?_;refine ε (m:=.agg [.s g1,.s g2,.s g3]) 8 ?_ ?_;rintro O2 ⟨j0,j1,j2⟩;exact eD aU j1;simp only[ak];(((((have mY:∀A B:VH,A.Ge B->(A.hp pb=φ (.obj X)/\A.hp O.N=φ (.cells [.s g1,.s g2,.s g3])/\O3.N<=A.N/\∀i,i<O3.N->i≠pb->A.hp i=O3.hp i)->(B.hp pb=φ (.obj X)/\B.hp O.N=φ (.cells [.s g1,.s g2,.s g3])/\O3.N<=B.N/\∀i,i<O3.N->i≠pb->B.hp i=O3.hp i):=λA B g h=>⟨g.at h.1,g.at h.2.1,alR h.2.2.1 g.N,λi h1 h2=>(g.hp i (by omega)).trans (h.2.2.2 i h1 h2)⟩);have jA0:(O3.set pb (.obj X)).hp pb=φ (.obj X)/\(O3.set pb (.obj X)).hp O.N=φ (.cells [.s g1,.s g2,.s g3])/\O3.N<=(O3.set pb (.obj X)).N/\∀i,i<O3.N->i≠pb->(O3.set pb (.obj X)).hp i=O3.hp i:=⟨υ _ _ _,Δ j3.2,agb _,λi _ h=>π _ _ h⟩);have nA0:(O3.set pb (.obj X)).N=O3.N:=rfl;generalize O3.set pb (.obj X)=A0 at*;have Ye:O.N<O3.N:=by omega);refine aqJ (i:=1) (j:=9) ?_ ?_);refine aI.lr (R6 p A0 hq.c.hp hq.props) ?_;rintro _ vD ⟨⟨t1,rfl⟩,Sl⟩;simp only[ak,Ti,af_];have IY:=mY _ _ Sl jA0;have anO:=Sl.N;refine⟨IY,?_⟩;refine aqJ (i:=2) (j:=9) ?_ ?_;refine aI.lr (NR (jG p) t1 vD (by simp[jG]) (zf p)) ?_;rintro _ Bl ⟨rfl,zj,R,cr,t2,sh,hR⟩;simp only[ak,Ti,af_];have p_:=mY _ _ zj IY;have aeY:=zj.N;have Yf:=sh.lt;refine⟨p_,?_⟩;refine aqJ (i:=7) (j:=9) ?_ ?_;refine aI.lr (Am [] .nil Bl) ?_;rintro _ lE ⟨t7,rfl,cH,lF⟩;simp only[ak,Ti,af_];have ov:=mY _ _ lF p_;have Oc:=lF.N;have V3:O3.N<=Bl.N:=p_.2.2.1;have mZ:=sh.ge lF;refine⟨ov,?_⟩;refine ab.op (i:=9) ?_;refine ae aU ?_;refine⟨ov,?_⟩;have lg:=aP (tk:=t7) (tk':=.full) (n:=0) (k:=1) (cs:=[]) (ds:=[.s g1,.s g2,.s g3]) Bb Da.1.1 cH rfl rfl rfl (by decide) (by decide) (by decide) (by decide);rw[ap5,Th]at lg;refine ab.op (i:=10) ?_;rw[dP];refine ao aU lg ?_;have jK:=GS cH V3 Bk Ye ov;refine⟨jK,?_⟩;have lC:=flW (vD.N+2) bb 1 [.s g1,.s g2,.s g3] (.own (VH.N lE) 3) (.s g1) (.s g2) (.s g3) (.v (.bool p.hp)) (.s p.par.g) (.s p.par.a) (.s p.par.v) (.s p.g) (.s p.a) (.s p.v) (.s p.pk) (.l (Ζ p.props) (p.props.flatMap bH) .au) (.l (Ζ p.fF) (p.fF.flatMap aX) .au) (.l (Ζ p.ft) (p.ft.flatMap aX) .au);refine ab.bh 11 ?_ (hb:=(DT 1 (ap7 (by kernel_rfl))));refine ao aU lC ?_;have V5:=wN cH mZ;have lTF:=(mZ).lt;have nFA:(VH.after lE t7).N=VH.N lE+1:=VH.dC _ _;generalize VH.after lE t7=FA at*;refine ab.op (i:=12) ?_;refine ae aU ?_;refine⟨⟨jK.1,jK.2.1,aqd jK.2.2.1,λi h1 h2=>(η _ _).trans (jK.2.2.2 i h1 h2)⟩,?_⟩;refine ab.lA [(13,.one)] ?_;refine ae aU ?_;refine aB.mk (VH.N FA,vD.N+2) ⟨⟨?_,λi h1=>?_⟩,jK.2.2.1,aqf _,⟨_,(π _ _ (by first | omega | (dsimp only;omega))).trans (ζ _ _)⟩,vD.N,vD.N+1,R,cr,t2,DU (V5.ge ((VH.Ge.refl FA).push _)) (by first | omega | (dsimp only;omega)) (by first | omega | (dsimp only;omega)) (by first | omega | (dsimp only;omega)),hR,?_,?_,?_,?_,?_,?_⟩;show O3.N<=FA.N+1;omega;by_cases e:i=pb;subst e;rw[υ];exact rK.symm;rw[π _ _ e,η _ _ (by omega)];exact jK.2.2.2 i h1 e;(((((((first | omega | (dsimp only;omega));first | omega | (dsimp only;omega));first | omega | (dsimp only;omega));first | omega | (dsimp only;omega));first | omega | (dsimp only;omega));first | omega | (dsimp only;omega));refine aI.o1 ?_;refine ae aU ?_;refine⟨p_,?_⟩;refine ab.call (i:=7) (Am [] .nil Bl) ?_;rintro _ lE ⟨t7,rfl,cH,lF⟩;simp only[ak,Ti,af_];have ov:=mY _ _ lF p_;have Oc:=lF.N;have V3:O3.N<=Bl.N:=p_.2.2.1;have mZ:=sh.ge lF;refine⟨ov,?_⟩;have lg:=aP (tk:=t7) (tk':=.full) (n:=0) (k:=1) (cs:=[]) (ds:=[.s g1,.s g2,.s g3]) Bb Da.1.1 cH rfl rfl rfl (by decide) (by decide) (by decide) (by decide);rw[ap5,Th]at lg;refine ab.op (i:=10) ?_;rw[dP];refine ao aU lg ?_;have jK:=GS cH V3 Bk Ye ov;refine⟨jK,?_⟩;have lC:=flW (vD.N+2) bb 1 [.s g1,.s g2,.s g3] (.own (VH.N lE) 3) (.s g1) (.s g2) (.s g3) (.v (.bool p.hp)) (.s p.par.g) (.s p.par.a) (.s p.par.v) (.s p.g) (.s p.a) (.s p.v) (.s p.pk) (.l (Ζ p.props) (p.props.flatMap bH) .au) (.l (Ζ p.fF) (p.fF.flatMap aX) .au) (.l (Ζ p.ft) (p.ft.flatMap aX) .au);refine ab.bh 11 ?_ (hb:=(DT 1 (ap7 (by kernel_rfl))));refine ao aU lC ?_;have V5:=wN cH mZ;have lTF:=(mZ).lt;have nFA:(VH.after lE t7).N=VH.N lE+1:=VH.dC _ _;generalize VH.after lE t7=FA at*;refine ab.op (i:=12) ?_;refine ae aU ?_;refine⟨⟨jK.1,jK.2.1,aqd jK.2.2.1,λi h1 h2=>(η _ _).trans (jK.2.2.2 i h1 h2)⟩,?_⟩;refine ab.lA [(13,.one)] ?_;refine ae aU ?_;refine aB.mk (VH.N FA,vD.N+2) ⟨⟨?_,λi h1=>?_⟩,jK.2.2.1,aqf _,⟨_,(π _ _ (by first | omega | (dsimp only;omega))).trans (ζ _ _)⟩,vD.N,vD.N+1,R,cr,t2,DU (V5.ge ((VH.Ge.refl FA).push _)) (by first | omega | (dsimp only;omega)) (by first | omega | (dsimp only;omega)) (by first | omega | (dsimp only;omega)),hR,?_,?_,?_,?_,?_,?_⟩;show O3.N<=FA.N+1;omega;by_cases e:i=pb;subst e;rw[υ];exact rK.symm;rw[π _ _ e,η _ _ (by omega)];exact jK.2.2.2 i h1 e;(((((first | omega | (dsimp only;omega));first | omega | (dsimp only;omega));first | omega | (dsimp only;omega));first | omega | (dsimp only;omega));first | omega | (dsimp only;omega));first | omega | (dsimp only;omega));refine aI.o1 ?_;refine ae aU ?_;refine⟨IY,?_⟩;refine ab.call (i:=2) (NR (jG p) t1 vD (by simp[jG]) (zf p)) ?_;rintro _ Bl ⟨rfl,zj,R,cr,t2,sh,hR⟩;simp only[ak,Ti,af_];have p_:=mY _ _ zj IY;have aeY:=zj.N;have Yf:=sh.lt;refine⟨p_,?_⟩;refine ab.call (i:=7) (Am [] .nil Bl) ?_;rintro _ lE ⟨t7,rfl,cH,lF⟩;simp only[ak,Ti,af_];have ov:=mY _ _ lF p_;have Oc:=lF.N;have V3:O3.N<=Bl.N:=p_.2.2.1;have mZ:=sh.ge lF;refine⟨ov,?_⟩;have lg:=aP (tk:=t7) (tk':=.full) (n:=0) (k:=1) (cs:=[]) (ds:=[.s g1,.s g2,.s g3]) Bb Da.1.1 cH rfl rfl rfl (by decide) (by decide) (by decide) (by decide);rw[ap5,Th]at lg;refine ab.op (i:=10) ?_;rw[dP];refine ao aU lg ?_;have jK:=GS cH V3 Bk Ye ov;refine⟨jK,?_⟩;have lC:=flW (vD.N+2) bb 1 [.s g1,.s g2,.s g3] (.own (VH.N lE) 3) (.s g1) (.s g2) (.s g3) (.v (.bool p.hp)) (.s p.par.g) (.s p.par.a) (.s p.par.v) (.s p.g) (.s p.a) (.s p.v) (.s p.pk) (.l (Ζ p.props) (p.props.flatMap bH) .au) (.l (Ζ p.fF) (p.fF.flatMap aX) .au) (.l (Ζ p.ft) (p.ft.flatMap aX) .au);refine ab.bh 11 ?_ (hb:=(DT 1 (ap7 (by kernel_rfl))));refine ao aU lC ?_;have V5:=wN cH mZ;have lTF:=(mZ).lt;have nFA:(VH.after lE t7).N=VH.N lE+1:=VH.dC _ _;generalize VH.after lE t7=FA at*;refine ab.op (i:=12) ?_;refine ae aU ?_;refine⟨⟨jK.1,jK.2.1,aqd jK.2.2.1,λi h1 h2=>(η _ _).trans (jK.2.2.2 i h1 h2)⟩,?_⟩;refine ab.lA [(13,.one)] ?_;refine ae aU ?_;refine aB.mk (VH.N FA,vD.N+2) ⟨⟨?_,λi h1=>?_⟩,jK.2.2.1,aqf _,⟨_,(π _ _ (by first | omega | (dsimp only;omega))).trans (ζ _ _)⟩,vD.N,vD.N+1,R,cr,t2,DU (V5.ge ((VH.Ge.refl FA).push _)) (by first | omega | (dsimp only;omega)) (by first | omega | (dsimp only;omega)) (by first | omega | (dsimp only;omega)),hR,?_,?_,?_,?_,?_,?_⟩;show O3.N<=FA.N+1;omega;by_cases e:i=pb;subst e;rw[υ];exact rK.symm;rw[π _ _ e,η _ _ (by omega)];exact jK.2.2.2 i h1 e;(((((first | omega | (dsimp only;omega));first | omega | (dsimp only;omega));first | omega | (dsimp only;omega));first | omega | (dsimp only;omega));first | omega | (dsimp only;omega));first | omega | (dsimp only;omega));refine aI.o1 ?_;refine ae aU ?_;refine⟨jA0,?_⟩;refine ab.call (i:=1) (R6 p A0 hq.c.hp hq.props) ?_;rintro _ vD ⟨⟨t1,rfl⟩,Sl⟩;simp only[ak,Ti,af_];have IY:=mY _ _ Sl jA0;have anO:=Sl.N;refine⟨IY,?_⟩;refine ab.call (i:=2) (NR (jG p) t1 vD (by simp[jG]) (zf p)) ?_;rintro _ Bl ⟨rfl,zj,R,cr,t2,sh,hR⟩;simp only[ak,Ti,af_];have p_:=mY _ _ zj IY;have aeY:=zj.N;have Yf:=sh.lt;refine⟨p_,?_⟩;refine ab.call (i:=7) (Am [] .nil Bl) ?_;rintro _ lE ⟨t7,rfl,cH,lF⟩;simp only[ak,Ti,af_];have ov:=mY _ _ lF p_;have Oc:=lF.N;have V3:O3.N<=Bl.N:=p_.2.2.1;have mZ:=sh.ge lF;refine⟨ov,?_⟩;have lg:=aP (tk:=t7) (tk':=.full) (n:=0) (k:=1) (cs:=[]) (ds:=[.s g1,.s g2,.s g3]) Bb Da.1.1 cH rfl rfl rfl (by decide) (by decide) (by decide) (by decide);rw[ap5,Th]at lg;refine ab.op (i:=10) ?_;rw[dP];refine ao aU lg ?_;have jK:=GS cH V3 Bk Ye ov;refine⟨jK,?_⟩;have lC:=flW (vD.N+2) bb 1 [.s g1,.s g2,.s g3] (.own (VH.N lE) 3) (.s g1) (.s g2) (.s g3) (.v (.bool p.hp)) (.s p.par.g) (.s p.par.a) (.s p.par.v) (.s p.g) (.s p.a) (.s p.v) (.s p.pk) (.l (Ζ p.props) (p.props.flatMap bH) .au) (.l (Ζ p.fF) (p.fF.flatMap aX) .au) (.l (Ζ p.ft) (p.ft.flatMap aX) .au);refine ab.bh 11 ?_ (hb:=(DT 1 (ap7 (by kernel_rfl))));refine ao aU lC ?_;have V5:=wN cH mZ;have lTF:=(mZ).lt;have nFA:(VH.after lE t7).N=VH.N lE+1:=VH.dC _ _;generalize VH.after lE t7=FA at*;refine ab.op (i:=12) ?_;refine ae aU ?_;refine⟨⟨jK.1,jK.2.1,aqd jK.2.2.1,λi h1 h2=>(η _ _).trans (jK.2.2.2 i h1 h2)⟩,?_⟩;refine ab.lA [(13,.one)] ?_;refine ae aU ?_;refine aB.mk (VH.N FA,vD.N+2) ⟨⟨?_,λi h1=>?_⟩,jK.2.2.1,aqf _,⟨_,(π _ _ (by first | omega | (dsimp only;omega))).trans (ζ _ _)⟩,vD.N,vD.N+1,R,cr,t2,DU (V5.ge ((VH.Ge.refl FA).push _)) (by first | omega | (dsimp only;omega)) (by first | omega | (dsimp only;omega)) (by first | omega | (dsimp only;omega)),hR,?_,?_,?_,?_,?_,?_⟩;show O3.N<=FA.N+1;omega;by_cases e:i=pb;subst e;rw[υ];exact rK.symm;rw[π _ _ e,η _ _ (by omega)];exact jK.2.2.2 i h1 e;(((((first | omega | (dsimp only;omega));first | omega | (dsimp only;omega));first | omega | (dsimp only;omega));first | omega | (dsimp only;omega));first | omega | (dsimp only;omega));first | omega | (dsimp only;omega)
 rintro⟨wb,tb⟩ O4 ⟨aT,aju,ajv,⟨tw,R4⟩,kr,kd,R,cr,t7,qG,hR4,hkr,vW,htb,Yg,Yh,aeX⟩;dsimp only at aju ajv R4 qG htb Yg Yh aeX ⊢;have egg:=hq.gg;have ega:=hq.ga;have egv:=hq.gv;dsimp only at egg ega egv;have fT:=aT.N;have gd:=aT.at j3.2;have NH:=(aT.hp _ Bk).trans rK;rw[egg,ega,egv]at NH;refine ξ aU gd ?_;refine VC.al ?_;rintro O5 ⟨bO,ra,eJ⟩;have M5:MS O3 wb O4.N (vA tb bb ⟨g1,g2,g3⟩ p tw) [.s g1,.s g2,.s g3,.s [],.l 0 [] .nil,.l 0 [] .nil,.l 0 [] .nil] O5:=⟨aT.trans bO,(bO.hp _ ajv).trans R4,ra,aju,by omega,fT,by omega,by omega⟩;have Gu:=qG.ge bO;have LV:=qG.lt;clear R4 ra bO eJ qG;have QV:=(M5.ge.hp _ Bk).trans rK;rw[egg,ega,egv]at QV;have dW:=M5.ge.at j3.2;have hwB:wb<O5.N:=M5.wl;refine θ (aE aU QV dW ?_);refine τ (EU M5.w g1 _ hq.tg) ?_;rintro _ O6 gN;have M6:=M5.go gN;have AP:=Gu.ge gN;clear QV dW M5 Gu gN hwB;have hp6:=(M6.ge.hp _ Bk).trans rK;rw[egg,ega,egv]at hp6;have pe:=M6.ge.at j3.2;refine ae aU ?_;refine θ (aE aU hp6 pe ?_);refine τ (EU M6.w g2 _ hq.ta) ?_;rintro _ O7 fG;have M7:=M6.go fG;have J_:=AP.ge fG;clear hp6 pe M6 AP fG;have hp7:=(M7.ge.hp _ Bk).trans rK;rw[egg,ega,egv]at hp7;have wK:=M7.ge.at j3.2;refine ae aU ?_;refine θ (aE aU hp7 wK ?_);refine τ (EU M7.w g3 _ hq.tv) ?_;rintro _ O8 iC;have M8:=M7.go iC;have hT8:=J_.ge iC;clear hp7 wK M7 J_ iC;have DK:=(M8.ge.hp _ Bk).trans rK;refine ae aU ?_;refine ξ aU DK ?_;refine τ (NU M8.w p.pk _ hq.tp) ?_;rintro _ O9 ⟨rfl,bI⟩;have M9:=M8.go bI;have hT9:=hT8.ge bI;clear DK M8 hT8 bI;have hm9:=M9.m;refine ao aU hm9 ?_;refine VC.ms M9 ?_;rintro fM M10 qo H9;have Bm:rP fM tb kr kd (jG p) R [] cr 0 t7 0:=hT9.off qo H9 LV.1 LV.2.1 LV.2.2;clear hm9 qo H9 hT9 M9;have aeZ:=M10.m;refine Ξ [0,4,6,9,11,12] (λ_:Unit=>[.p bb 0,.p O.N 0,.p (O.N+1) 0,.p pb 0,.p wb 0,.p O4.N 0]) (λ_ O'=>MS O3 wb O4.N (vA tb bb ⟨g1,g2,g3⟩ p tw) [.s g1,.s g2,.s g3,.s (Gy p.pk),.l 0 [] .nil,.l 0 [] .nil,.l 0 [] .nil] O'/\rP O' tb kr kd (jG p) R [] cr 0 t7 0) ?_ ?_
 ·by_cases ep:p.pk=[]
  ·have ep1:(p.pk==[])=Α:=by simpa using ep
   refine θ (aE aU aeZ ep1 ?_);refine ο aU aeZ ?_;exact aB.mk () ⟨by rw[show Gy p.pk=mX from if_pos ep];exact M10.st,Bm.off (λi hi=>π _ _ hi) rfl LV.1 LV.2.1 LV.2.2⟩
  ·have ep1:(p.pk==[])=γ:=by simpa using ep
   refine θ (aE aU aeZ ep1 ?_);refine ν aU ?_;exact aB.mk () ⟨by rw[show Gy p.pk=p.pk from if_neg ep];exact M10,Bm⟩
 rintro _ rR ⟨M11,ajw⟩;have Yi:=M11.m;have J7:=hq.pi
 have dD:(Gy p.pk).length<=maxLen:=by
  have h1:=hq.tp.2;(((have h2:(4096:Nat)<=maxLen:=by decide);unfold Gy;split);decide);omega
 have DO:=λO'=>wg (Gy p.pk) O' dD
 rw[J7]at DO;refine ξ aU Yi ?_;refine τ (DO _) ?_;rintro _ AQ ⟨rfl,IZ⟩;have M12:=M11.go IZ;have Yj:=ajw.ge IZ;clear Yi M11 ajw IZ DO;refine ae aU ?_;have ae0:=M12.w;have hW:vA tb bb ⟨g1,g2,g3⟩ p tw= .p tb 0:: .p bb 0::(cD ⟨g1,g2,g3⟩++iR p++[.l 1 (cD ⟨g1,g2,g3⟩) tw]):=rfl;rw[hW]at ae0;refine ξ aU ae0 ?_;refine τ (ahL Yj (by simp[jG]) hR4 (zf p) ?_) ?_;intro x hx;simp only[jG,ap2,aoT,or_false]at hx;have h1:=hq.tg;have h2:=hq.ta;have h3:=hq.tv;rcases hx with rfl | rfl | rfl;show jg p.g;rw[egg];exact h1;show jg p.a;rw[ega];exact h2;show jg p.v;rw[egv];exact h3;rintro _ O13 ⟨⟨tP,rfl⟩,RL,ajx⟩;have M13:=M12.mv RL ajx htb vW Yg Yh (by omega) (by omega);clear ae0 M12 Yj RL ajx;refine ae aU ?_;refine κ aU ?_;have ajy:=M13.m;refine ξ aU ajy ?_;refine VC.ms M13 ?_;rintro O14 M14 anP anQ;clear ajy anP anQ M13;refine κ aU ?_;refine τ (VA M14.w M14.wl hq.fF) ?_;rintro _ O15 ⟨rfl,ajz⟩;have M15:=M14.go ajz;clear M14 ajz;have ajA:=M15.m;refine ao aU ajA ?_;refine VC.ms M15 ?_;rintro O16 M16 anR anS;clear ajA anR anS M15;have ajB:=M16.m;refine ξ aU ajB ?_;refine τ (aeu M16.w M16.wl hq.ft hq.len hq.keys .nil) ?_;rintro _ O17 ⟨⟨tN,rfl⟩,ajC⟩;have M17:=M16.go ajC;clear M16 ajC ajB;have ajD:=M17.m;refine ao aU ajD ?_;refine VC.ms M17 ?_;rintro O18 M18 anT anU;clear ajD anT anU M17;refine VC.wkH M18.m (Wk.mdl _ _ _ _ _ _ _ _ _ _ _ _ _) ?_;refine VC.ms M18 ?_;rintro Sm M19 anV anW;clear anV anW M18;have ajE:=M19.m;have ajF:=M19.ge.at j3.1;have anX:=M19.ge.at j3.2;have anY:=M19.ge.at cN;have ae1:=M19.ge.at zb
 have hmm:(.agg [.s g1,.s g2,.s g3,.s (Gy p.pk),.l (jG p).length ((jG p).flatMap bH) .au,.l 0 [] .au,.l (Ζ p.ft) ((p.ft.map gQ).flatMap eZ) .au]:MV)= .agg (nT (j5 ⟨g1,g2,g3⟩ p)):=by
  simp only[nT,j5,cD,ake,Ca,Th]
 refine Γ ?_;refine WC.bW (.held [6]) [(0,.rd),(1,.rd),(2,.rd),(3,.rd),(4,.rd),(5,.rd),(6,.one)] ?_;refine cB aU ajF anX ajE ?_;rw[hmm];refine VL.qw rfl rfl (qv.jX yR (l:=fL ⟨g1,g2,g3⟩) (b:=md) (ck:=cm) (M:=MD) Tryz.underlying172 rfl ae1 hB.ok rfl rfl n9 rfl) (λbrk hb i hi=>?_) (WL.sound aa ?_)
 ·cases hb
  rcases i with _ | _ | _ | _ | _ | _ | _ | i<;>first
   | rfl
   | (exfalso;revert hi;simp)
 have xt:MD.any (·.1==fL ⟨g1,g2,g3⟩)=γ:=by
  rw[List.any_eq_false];intro x hx hxe;exact IL dh x hx (eq_of_beq hxe)
 have mw:=sF (y:=.agg (nT (j5 ⟨g1,g2,g3⟩ p))) (ck:=cm) hB.ok (l:=fL ⟨g1,g2,g3⟩) rfl n9;unfold jX at mw;unfold jX M4;rw[xt]at mw ⊢;rw[if_neg (by decide)]at mw;refine ae aU ?_;have anZ:O4.N≠md:=by omega
 have an0:(Sm.set md (.map (db (MD++[(fL ⟨g1,g2,g3⟩,.agg (nT (j5 ⟨g1,g2,g3⟩ p)),cm)])) (cm+1))).hp O4.N=_:=(π _ _ anZ).trans ajE;have an1:(Sm.set md (.map (db (MD++[(fL ⟨g1,g2,g3⟩,.agg (nT (j5 ⟨g1,g2,g3⟩ p)),cm)])) (cm+1))).hp (O.N+1)=_:=Δ anY;have an2:(Sm.set md (.map (db (MD++[(fL ⟨g1,g2,g3⟩,.agg (nT (j5 ⟨g1,g2,g3⟩ p)),cm)])) (cm+1))).hp md=_:=υ _ _ _;have ajG:∀i,i≠md->(Sm.set md (.map (db (MD++[(fL ⟨g1,g2,g3⟩,.agg (nT (j5 ⟨g1,g2,g3⟩ p)),cm)])) (cm+1))).hp i=Sm.hp i:=λi hi=>π _ _ hi
 have apA:(Sm.set md (.map (db (MD++[(fL ⟨g1,g2,g3⟩,.agg (nT (j5 ⟨g1,g2,g3⟩ p)),cm)])) (cm+1))).N=Sm.N:=rfl;generalize Sm.set md (.map (db (MD++[(fL ⟨g1,g2,g3⟩,.agg (nT (j5 ⟨g1,g2,g3⟩ p)),cm)])) (cm+1))=O20 at*;refine θ (aE aU an0 an1 ?_);refine ν aU ?_;have V8:=M19.ge;have hng:=V8.N;have apB:=F1.N;have apC:=dF.N;rw[hmm]
 have aZ:∀j,j<O.N->j≠k->j≠q0->j≠md->(O20.set (O.N+1) (.cells [.s g1,.s g2,.s g3,.s (Gy p.pk),.l (jG p).length ((jG p).flatMap bH) .au,.l 0 [] .au,.l (Ζ p.ft) ((p.ft.map gQ).flatMap eZ) .au])).hp j=O.hp j:=λj h1 h2 h3 h4=>by
  rw[VH.sx,ajG j h4,V8.hp j (by omega),dF.hp j (by omega) h2 h3,F1.hp j h1]
 have hold:∀j,j<O3.N->j≠O.N+1->j≠md->(O20.set (O.N+1) (.cells [.s g1,.s g2,.s g3,.s (Gy p.pk),.l (jG p).length ((jG p).flatMap bH) .au,.l 0 [] .au,.l (Ζ p.ft) ((p.ft.map gQ).flatMap eZ) .au])).hp j=O3.hp j:=λj h1 h2 h4=>by
  rw[π _ _ h2,ajG j h4,V8.hp j h1]
 refine⟨rfl,q0,c,hE0,⟨r',a',VK (md:=md) h hi hE0 ?_ ?_ ?_ aZ hB.map iD⟩,⟨?_,?_,mw,?_⟩,?_,aZ⟩;rw[hold k (by omega) (by omega) (Ne.symm ajs)];exact en;rw[hold q0 (by omega) (by omega) (Ne.symm ajt)];exact qF;show O.N<=O20.N;omega;rw[hold bb (by omega) (by omega) (λe=>by rw[<-e,ajF]at ae1;cases ae1)];exact j3.1;rw[VH.sx];exact an2;show bb<O20.N/\md<O20.N;omega;show O.N<=O20.N;omega
def dQ:=WT nS<|WT HV<|WT T48<|WT Qp<|WT amD<|WT amC<|WT T37 T40
structure Bn where
 up:Int
 dp:Int
 od:Int
 k:Ky
 v:Bs
 hd:Bool
 rv:Bs
 n:Nat
 iv:Η
 tk:Tok
 s:Int
 rd:Bool
def gu(b:Bn):Η:=[mi b.up,mi b.dp,mi b.od,.s b.k.g,.s b.k.a,.s b.k.t,.s b.k.c,.s b.v,mb b.hd,.s b.rv,.l b.n b.iv b.tk,mi b.s,mb b.rd]
def m4(b:Bn):(gu b).length=13:=rfl
def I0(C:List Bool)(b:Bn):Bool:=Ζ C==0||(decide (0<=b.up)&&(decide (b.up<(Ζ C:Int))&&C.getD b.up.toNat γ))
def kL(x:List Bool×List Bool×List Ky)(b:Bn):List Bool×List Bool×List Ky:=
 (x.1++[I0 x.1 b&& !x.2.2.contains b.k],x.2.1++[I0 x.1 b],if I0 x.1 b&& !x.2.2.contains b.k then x.2.2++[b.k]else x.2.2)
def o5(L:List Bn):List Bool×List Bool×List Ky:=L.foldl kL ([],[],[])
def V9(L:List Bn)(b:Bn):o5 (L++[b])=kL (o5 L) b:=by simp[o5]
def LW:∀L:List Bn,(o5 L).1.length=(Ζ L)/\(o5 L).2.1.length=Ζ L:=by
 intro L
 have:∀(L:List Bn) x,(L.foldl kL x).1.length=Ζ x.1+(Ζ L)/\(L.foldl kL x).2.1.length=Ζ x.2.1+Ζ L:=by
  intro L;induction L with
  | nil=>intro x;exact⟨rfl,rfl⟩
  | cons b L ih=>
    intro x;rw[List.foldl_cons];have:=ih (kL x b);simp only[kL,akb,abx,Ti]at this ⊢;omega
 simpa[o5]using this L ([],[],[])
structure Vd(O O':VH)(vb lb cb mp:Nat)(L:List Bn)(tk:Tok)(C V:List Bool):Prop where
 ge:O.Ge O'
 v:O'.hp vb=φ (.cells [.l (Ζ L) (L.flatMap gu) tk,.aS lb 0 (Ζ L) (Ζ L),.aS cb 0 (Ζ L) (Ζ L),.map mp])
 l:O'.hp lb=φ (.cells (V.map mb))
 c:O'.hp cb=φ (.cells (C.map mb))
 lo:O.N<=vb/\O.N<=lb/\O.N<=cb/\O.N<=mp
 hi:lb<vb/\cb<vb/\mp<vb/\lb≠cb/\lb≠mp/\cb≠mp/\vb<O'.N
def xk{tab:cL}{t el:TypeId}{u:TypeDesc}{a d:Nat}{z:Η}{y:MV}(h:tab t=φ ⟨.slice el,a,b,z⟩)(h2:tab el=φ ⟨u,1,d,[y]⟩)(O:VH)(n:Nat)(hb:d*n<=281474976710656)(hn:n<=9223372036854775807):
  oP tab O t (.v (Ι Κ n)) (.v (Ι Κ n))=φ (.aS O.N 0 n n,O.push (.cells (Μ n y))):=by
 simp only[oP,h,h2,Option.map_some,aqm];rw[if_pos ⟨Int.natCast_nonneg _,Int.le_refl _,by omega,by rw[<-Int.natCast_mul];omega,Nat.zero_lt_one⟩,Nat.mul_one];congr 4
 apply List.ext_getElem?;intro i;simp only[jP,aqn,List.getElem?_replicate];by_cases h:i<n;rw[List.getElem?_range h,if_pos h];simp[Nat.mod_one];rw[List.getElem?_eq_none (by simp;omega),if_neg h];rfl
def LX{a b:Ky}(h:dK a=dK b):a=b:=by
 obtain⟨a1,a2,a3,a4⟩:=a;obtain⟨b1,b2,b3,b4⟩:=b;simp only[dK,List.cons.injEq,and_true]at h;obtain⟨rfl,rfl,rfl,rfl⟩:=h;rfl
def ae2{M:gI}{K:List Ky}(h:M.map (·.1)=K.map dK)(k:Ky):(jC (dK k) M).isSome=K.contains k:=by
 have h1:(jC (dK k) M).isSome=(M.map (·.1)).any (· ==dK k):=by
  unfold jC;rw[Option.isSome_map,List.any_map,aql,List.find?_isSome,aqr];rfl
 rw[h1,h,List.any_map,List.contains_eq_any_beq,aql,aqr,aqr];constructor;rintro⟨x,hx,e⟩;exact⟨x,hx,by simpa using(LX (eq_of_beq e)).symm⟩;rintro⟨x,hx,e⟩;exact⟨x,hx,by rw[eq_of_beq e];simp⟩
def aaW(L:List Bn)(tk:Tok)(hL:Ζ L<=1000000)(hk:∀b∈L,∀s∈dK b.k,Ζ s<=maxLen)(O:VH):VF Ε 118 [.l (Ζ L) (L.flatMap gu) tk] O (aH λm O'=>∃vb lb cb mp,m= .p vb 0/\Vd O O' vb lb cb mp L tk (o5 L).1 (o5 L).2.1):=by
 have iD:=λO'=>xk (tab:=bR Ε) Qp T4 O' (Ζ L) (by omega) (by omega)
 have hlen:=bk m4 L;have lC:∀a b c,Ga (lq [(0,1),(1,1),(2,1),(3,1)]) [.l (Ζ L) (L.flatMap gu) tk,.l 0 [] .nil,.l 0 [] .nil,.v (.map Β)] (.aS a 0 (Ζ L) (Ζ L)) [(2,.aS b 0 (Ζ L) (Ζ L)),(3,.map c)] (φ (1,1))=φ [.l (Ζ L) (L.flatMap gu) tk,.aS a 0 (Ζ L) (Ζ L),.aS b 0 (Ζ L) (Ζ L),.map c]:=λ_ _ _=>rfl
 refine ω 90 [.tmp 2] func118 ?_;refine κ dQ ?_;refine Ξ [3,0] (λx:Nat×Nat×Nat×Nat=>[.p x.1 0,.l (Ζ L) (L.flatMap gu) tk]) (λx O'=>O.Ge O'/\O'.hp x.1=φ (.cells [.l (Ζ L) (L.flatMap gu) tk,.aS x.2.1 0 (Ζ L) (Ζ L),.aS x.2.2.1 0 (Ζ L) (Ζ L),.map x.2.2.2])/\O'.hp x.2.1=φ (.cells (Μ (Ζ L) (mb γ)))/\O'.hp x.2.2.1=φ (.cells (Μ (Ζ L) (mb γ)))/\O'.hp x.2.2.2=φ (.map [] 0)/\(O.N<=x.1/\O.N<=x.2.1/\O.N<=x.2.2.1/\O.N<=x.2.2.2)/\(x.2.1<x.1/\x.2.2.1<x.1/\x.2.2.2<x.1/\x.2.1≠x.2.2.1/\x.2.1≠x.2.2.2/\x.2.2.1≠x.2.2.2/\x.1<O'.N)) ?_ ?_;refine VC.sU [8,9,10] (λO'=>True) (trivial) ?_;refine ρ 0 dQ ?_;refine ρ 1 dQ ?_;refine ab.ql 2 dQ @oB ?_;refine ρ 4 dQ ?_;refine ab.ql 5 dQ @oB ?_;refine ab.aez (i:=3) (j:=6) (k:=7) ?_ ?_ ?_;refine aI.o1 ?_;refine ao dQ iD ?_;refine aqJ (i:=6) (j:=7) ?_ ?_;refine aI.o1 ?_;refine ao dQ iD ?_;refine ab.op (i:=7) ?_;refine ao dQ iD ?_;((((((obtain⟨F,eF⟩:∃F,F=((O.push (.cells (Μ (Ζ L) (.v (.bool γ))))).push (.cells (Μ (Ζ L) (.v (.bool γ))))).push (.map [] 0):=⟨_,rfl⟩);rw[<-eF];obtain⟨gF,nF,aF,bF,cF⟩:=mQ _ _ _ eF;clear eF;refine ab.bW [(8,.one),(9,.one),(10,.one)] ?_;refine ao dQ lC ?_;refine aB.mk (F.N,O.N,(O.N+1),(O.N+2)) ⟨gF.push _,ζ _ _,(η (k:=O.N) F _ (by omega)).trans aF,(η (k:=(O.N+1)) F _ (by omega)).trans bF,(η (k:=(O.N+2)) F _ (by omega)).trans cF,?_,?_⟩);show O.N<=F.N/\O.N<=O.N/\O.N<=(O.N+1)/\O.N<=(O.N+2);omega);show O.N<F.N/\(O.N+1)<F.N/\(O.N+2)<F.N/\O.N≠(O.N+1)/\O.N≠(O.N+2)/\(O.N+1)≠(O.N+2)/\F.N<F.N+1;omega);refine aI.o1 ?_;refine ao dQ iD ?_;refine ab.op (i:=6) ?_;refine ao dQ iD ?_;(((obtain⟨F,eF⟩:∃F,F=((O.push (.cells (Μ (Ζ L) (.v (.bool γ))))).push (.map [] 0)).push (.cells (Μ (Ζ L) (.v (.bool γ)))):=⟨_,rfl⟩);rw[<-eF];obtain⟨gF,nF,aF,bF,cF⟩:=mQ _ _ _ eF;clear eF;refine ab.bW [(8,.one),(9,.one),(10,.one)] ?_;refine ao dQ lC ?_;refine aB.mk (F.N,O.N,(O.N+2),(O.N+1)) ⟨gF.push _,ζ _ _,(η (k:=O.N) F _ (by omega)).trans aF,(η (k:=(O.N+2)) F _ (by omega)).trans cF,(η (k:=(O.N+1)) F _ (by omega)).trans bF,?_,?_⟩);show O.N<=F.N/\O.N<=O.N/\O.N<=(O.N+2)/\O.N<=(O.N+1);omega);show O.N<F.N/\(O.N+2)<F.N/\(O.N+1)<F.N/\O.N≠(O.N+2)/\O.N≠(O.N+1)/\(O.N+2)≠(O.N+1)/\F.N<F.N+1;omega);refine aI.o1 ?_;refine ao dQ iD ?_;refine aqJ (i:=3) (j:=7) ?_ ?_;refine aI.o1 ?_;refine ao dQ iD ?_;refine ab.op (i:=7) ?_;refine ao dQ iD ?_;((((obtain⟨F,eF⟩:∃F,F=((O.push (.cells (Μ (Ζ L) (.v (.bool γ))))).push (.cells (Μ (Ζ L) (.v (.bool γ))))).push (.map [] 0):=⟨_,rfl⟩);rw[<-eF];obtain⟨gF,nF,aF,bF,cF⟩:=mQ _ _ _ eF;clear eF;refine ab.bW [(8,.one),(9,.one),(10,.one)] ?_;refine ao dQ lC ?_;refine aB.mk (F.N,(O.N+1),O.N,(O.N+2)) ⟨gF.push _,ζ _ _,(η (k:=(O.N+1)) F _ (by omega)).trans bF,(η (k:=O.N) F _ (by omega)).trans aF,(η (k:=(O.N+2)) F _ (by omega)).trans cF,?_,?_⟩);show O.N<=F.N/\O.N<=(O.N+1)/\O.N<=O.N/\O.N<=(O.N+2);omega);show(O.N+1)<F.N/\O.N<F.N/\(O.N+2)<F.N/\(O.N+1)≠O.N/\(O.N+1)≠(O.N+2)/\O.N≠(O.N+2)/\F.N<F.N+1;omega);refine aI.o1 ?_;refine ao dQ iD ?_;refine ab.op (i:=3) ?_;refine ao dQ iD ?_;(((obtain⟨F,eF⟩:∃F,F=((O.push (.cells (Μ (Ζ L) (.v (.bool γ))))).push (.map [] 0)).push (.cells (Μ (Ζ L) (.v (.bool γ)))):=⟨_,rfl⟩);rw[<-eF];obtain⟨gF,nF,aF,bF,cF⟩:=mQ _ _ _ eF;clear eF;refine ab.bW [(8,.one),(9,.one),(10,.one)] ?_;refine ao dQ lC ?_;refine aB.mk (F.N,(O.N+2),O.N,(O.N+1)) ⟨gF.push _,ζ _ _,(η (k:=(O.N+2)) F _ (by omega)).trans cF,(η (k:=O.N) F _ (by omega)).trans aF,(η (k:=(O.N+1)) F _ (by omega)).trans bF,?_,?_⟩);show O.N<=F.N/\O.N<=(O.N+2)/\O.N<=O.N/\O.N<=(O.N+1);omega);show(O.N+2)<F.N/\O.N<F.N/\(O.N+1)<F.N/\(O.N+2)≠O.N/\(O.N+2)≠(O.N+1)/\O.N≠(O.N+1)/\F.N<F.N+1;omega);refine aI.o1 ?_;refine ao dQ iD ?_;refine aqJ (i:=3) (j:=6) ?_ ?_;refine aI.o1 ?_;refine ao dQ iD ?_;refine ab.op (i:=6) ?_;refine ao dQ iD ?_;((((obtain⟨F,eF⟩:∃F,F=((O.push (.map [] 0)).push (.cells (Μ (Ζ L) (.v (.bool γ))))).push (.cells (Μ (Ζ L) (.v (.bool γ)))):=⟨_,rfl⟩);rw[<-eF];obtain⟨gF,nF,aF,bF,cF⟩:=mQ _ _ _ eF;clear eF;refine ab.bW [(8,.one),(9,.one),(10,.one)] ?_;refine ao dQ lC ?_;refine aB.mk (F.N,(O.N+1),(O.N+2),O.N) ⟨gF.push _,ζ _ _,(η (k:=(O.N+1)) F _ (by omega)).trans bF,(η (k:=(O.N+2)) F _ (by omega)).trans cF,(η (k:=O.N) F _ (by omega)).trans aF,?_,?_⟩);show O.N<=F.N/\O.N<=(O.N+1)/\O.N<=(O.N+2)/\O.N<=O.N;omega);show(O.N+1)<F.N/\(O.N+2)<F.N/\O.N<F.N/\(O.N+1)≠(O.N+2)/\(O.N+1)≠O.N/\(O.N+2)≠O.N/\F.N<F.N+1;omega);refine aI.o1 ?_;refine ao dQ iD ?_;refine ab.op (i:=3) ?_;refine ao dQ iD ?_;(((obtain⟨F,eF⟩:∃F,F=((O.push (.map [] 0)).push (.cells (Μ (Ζ L) (.v (.bool γ))))).push (.cells (Μ (Ζ L) (.v (.bool γ)))):=⟨_,rfl⟩);rw[<-eF];obtain⟨gF,nF,aF,bF,cF⟩:=mQ _ _ _ eF;clear eF;refine ab.bW [(8,.one),(9,.one),(10,.one)] ?_;refine ao dQ lC ?_;refine aB.mk (F.N,(O.N+2),(O.N+1),O.N) ⟨gF.push _,ζ _ _,(η (k:=(O.N+2)) F _ (by omega)).trans cF,(η (k:=(O.N+1)) F _ (by omega)).trans bF,(η (k:=O.N) F _ (by omega)).trans aF,?_,?_⟩);show O.N<=F.N/\O.N<=(O.N+2)/\O.N<=(O.N+1)/\O.N<=O.N;omega);show(O.N+2)<F.N/\(O.N+1)<F.N/\O.N<F.N/\(O.N+2)≠(O.N+1)/\(O.N+2)≠O.N/\(O.N+1)≠O.N/\F.N<F.N+1;omega
 rintro⟨vb,lb,cb,mp⟩ O1 ⟨aK,je,ph,fK,ET,jn,hhi⟩;dsimp only at je ph fK ET jn hhi ⊢;clear iD lC;refine Ξ [3] (λ_:Unit=>[.p vb 0]) (λ_ O'=>Vd O O' vb lb cb mp L tk (o5 L).1 (o5 L).2.1) ?_ ?_
 ·refine ξ dQ @oB ?_;refine χ ?_;refine Θ [20] [3,18,19] (λj:Nat=>[mi j]) (λj O'=>j<=(Ζ L)/\O1.N<=O'.N/\(∀i,i<O1.N->i≠lb->i≠cb->i≠mp->O'.hp i=O1.hp i)/\O'.hp lb=φ (.cells (((o5 (L.take j)).2.1++Μ ((Ζ L) - j) γ).map mb))/\O'.hp cb=φ (.cells (((o5 (L.take j)).1++Μ ((Ζ L) - j) γ).map mb))/\∃M ck,O'.hp mp=φ (.map (db M) ck)/\pL 4 M/\M.map (·.1)=(o5 (L.take j)).2.2.map dK) (λj=>(Ζ L) - j) (0) ?_ ?_;exact⟨aqg _,agb _,λ_ _ _ _ _=>rfl,by rw[ph];simp[o5],by rw[fK];simp[o5],[],0,ET,⟨by simp,by simp⟩,by simp[o5]⟩;rintro j O3 ⟨hj,ij,qU,p5,fw,M,ck,zb,hM,hMk⟩;by_cases aM:j<Ζ L;rotate_left
  ·obtain rfl:j=Ζ L:=by omega
   rw[List.take_length,Nat.sub_self,List.replicate_zero,alT]at p5 fw;refine ν dQ ?_;exact aB.mk () ⟨⟨by have:=aK.N;omega,λi hi=>(qU i (by have:=aK.N;omega) (by omega) (by omega) (by omega)).trans (aK.hp i hi)⟩,(qU vb hhi.2.2.2.2.2.2 (by omega) (by omega) (by omega)).trans je,p5,fw,jn,by omega⟩
  have cA:=jSx j;have bG:=c9 m4 L j aM;(have di:L.take (j+1)=L.take j++[L[j]]:=by rw[aqc aM]);have vX:=hk L[j] (ap_ aM);have kV:=LW (L.take j);rw[List.length_take,Nat.min_eq_left hj]at kV;have cX:=V9 (L.take j) L[j];rw[<-di]at cX;rw[show (Ζ L) - j=((Ζ L) - (j+1))+1 by omega,List.replicate_succ]at p5 fw;generalize L[j]=b at*;generalize hDD:o5 (L.take j)=D at*;generalize hr:(Ζ L) - (j+1)=r at*;obtain⟨C,V,K⟩:=D;dsimp only at kV p5 fw hMk;obtain⟨up,dp,od,⟨k1,k2,k3,k4⟩,v,hd,rv,nn,iv,Sn,s,rd⟩:=b;simp only[gu,aq,bB]at bG;have hv3:=(qU vb hhi.2.2.2.2.2.2 (by omega) (by omega) (by omega)).trans je;refine κ dQ ?_;refine κ dQ ?_;refine Γ (χ ?_);refine ξ dQ bG ?_;refine VC.al ?_;rintro O4 ⟨aT,lz,fT⟩;have DW:=aT.at hv3;have rS:=aT.at p5;have fP:=aT.at fw;have sf:=aT.at zb;have gU:Ζ C=j:=kV.1
  have fz:∀(W:List Bool)(a:Bool),Ζ W=j->((W++γ::Μ r γ).map mb).set j (.v (.bool a))=(W++a::Μ r γ).map mb:=λW a h=>by
   rw[List.map_append,aqh,List.set_append_right _ _ (by rw[ake,h];exact agb _),ake,h,Nat.sub_self];simp[mb]
  have hsV:=λa=>fz V a kV.2
  have U6:∀u,u<j->((C++γ::Μ r γ).map mb)[u]?=φ (.v (.bool (C.getD u γ))):=λu hu=>by
   rw[aqn,aqo (by omega),aqa,agc (by omega)];rfl
  (have Eu:(List.map mb (V++γ::Μ r γ)).length=j+1+r:=by simp;omega);have UJ:(List.map mb (C++γ::Μ r γ)).length=j+1+r:=by simp;omega
  generalize kX:I0 C ⟨up,dp,od,⟨k1,k2,k3,k4⟩,v,hd,rv,nn,iv,Sn,s,rd⟩=al at*;have an3:=kX;simp only[kL,an3]at cX;unfold I0 at kX;dsimp only at kX;rw[gU]at kX;refine Ξ [3,4,5,18,19,20] (λ_:Unit=>[.p vb 0,.v (Ι Κ j),.p O3.N 0,.l (Ζ L) (L.flatMap gu) tk,.v (Ι Κ (Ζ L)),.v (Ι Κ j)]) (λ_ O'=>O'=O4.set lb (.cells ((V++al::Μ r γ).map mb))) ?_ ?_
  ·refine WC.bW (.held [29]) [(0,.rd),(1,.rd),(2,.rd),(3,.rd),(4,.rd),(5,.rd),(6,.rd),(7,.rd),(8,.rd),(9,.rd),(10,.rd),(11,.rd),(12,.rd),(13,.rd),(14,.rd),(15,.rd),(16,.rd),(17,.rd),(18,.rd),(19,.rd),(20,.rd),(21,.rd),(22,.rd),(23,.rd),(24,.rd),(25,.rd),(26,.rd),(27,.rd),(28,.rd),(29,.one)] ?_;by_cases h0:j=0
   ·have e0:((j:Int)==0)=Α:=by simp[h0]
    (have ea:al=Α:=by rw[<-kX];simp[h0]);subst ea;refine Nf dQ DW lz e0 rS Eu hsV ?_;exact aB.mk () rfl
   have e0:((j:Int)==0)=γ:=by simpa using h0
   rw[show(j==0)=γ by simpa using h0,Bool.false_or]at kX;by_cases h1:0<=up;rotate_left;have e1:decide (0<=up)=γ:=decide_eq_false h1;have e2:decide (up>=0)=γ:=e1;rw[e1,ap9]at kX;subst kX;refine kw9 dQ DW lz e0 e1 e2 rS Eu hsV ?_;exact aB.mk () rfl;obtain⟨u,rfl⟩:=Int.eq_ofNat_of_zero_le h1;have e1:decide (0<=(u:Int))=Α:=decide_eq_true h1;have e2:decide ((u:Int)>=0)=Α:=e1;rw[e1,aqi]at kX;by_cases h2:u<j;rotate_left;have e3:decide ((u:Int)<j)=γ:=decide_eq_false (by omega);rw[e3,ap9]at kX;subst kX;refine kw9 dQ DW lz e0 (WT e1 e2) e3 rS Eu hsV ?_;exact aB.mk () rfl;have e3:decide ((u:Int)<j)=Α:=decide_eq_true (by omega);rw[e3,aqi]at kX;have V_:=U6 u h2;rw[aqm]at kX;rw[kX]at V_;refine kw9 dQ DW lz e0 (WT e1 e2) e3 (WT rS Eu) (WT fP UJ) (WT V_ hsV) ?_;exact aB.mk () rfl
  rintro _ O5 e5;(((have Ke:O5.hp lb=φ (.cells ((V++al::Μ r γ).map mb)):=by rw[e5];exact υ _ _ _);have dS:∀i,i≠lb->O5.hp i=O4.hp i:=λi h=>by rw[e5];exact π _ _ h);have rN:=(dS vb (by omega)).trans DW;have mA:=(dS O3.N (by omega)).trans lz;have gD:=(dS cb (by omega)).trans fP;have ra:=(dS mp (by omega)).trans sf;have eJ:O5.N=O4.N:=by rw[e5];rfl);have hsC:=fz C Α gU;clear e5 DW lz fP sf rS Eu hsV U6 fz;have fa:=ae2 hMk ⟨k1,k2,k3,k4⟩;refine Γ ?_;refine WC.bW (.held []) [(0,.rd),(1,.rd),(2,.rd),(3,.rd),(4,.rd),(5,.rd),(6,.rd),(7,.rd),(8,.rd),(9,.rd),(10,.rd),(11,.rd)] ?_;refine aE dQ rN mA ?_;refine VL.hold (.inr rfl) rfl rfl (gJ.lV qD aa (l:=dK ⟨k1,k2,k3,k4⟩) (te:=⟨_,1,8,[.v (Ι Κ 0)]⟩) Tryz.underlying37 T3 rfl rfl ra hM rfl rfl vX) (WL.sound aa ?_)
  have hgV:((V++al::Μ r γ).map mb)[j]?=φ (.v (.bool al)):=by
   rw[aqn,List.getElem?_append_right (by omega),kV.2,Nat.sub_self];rfl
  (have Eu:(List.map mb (V++al::Μ r γ)).length=j+1+r:=by simp;omega);have Kf:∀i,i<O1.N->i≠lb->i≠cb->i≠mp->O5.hp i=O1.hp i:=λi a1 a2 a3 a4=>(dS i a2).trans ((aT.hp i (by omega)).trans (qU i a1 a2 a3 a4))
  have apD:O3.N<=O5.N:=by rw[eJ,fT];omega
  generalize Bo:K.contains (⟨k1,k2,k3,k4⟩:Ky)=con at*;cases gO:jC (dK ⟨k1,k2,k3,k4⟩) M with
  | some m=>
    rw[gO]at fa;obtain rfl:con=Α:=fa.symm;refine ae dQ ?_;cases al;refine θ (iV dQ rN Ke Eu hgV ?_);refine ν dQ ?_;refine ο dQ cA ?_;refine az.N (j+1) ⟨aM,by omega,Kf,?_,?_,M,ck,ra,hM,?_⟩;rw[cX,hr,Ke];simp;rw[cX,hr,gD];simp;rw[cX];simpa using hMk;refine θ (iV dQ rN Ke Eu hgV ?_);refine ν dQ ?_;refine ο dQ cA ?_;refine az.N (j+1) ⟨aM,by omega,Kf,?_,?_,M,ck,ra,hM,?_⟩;rw[cX,hr,Ke];simp;rw[cX,hr,gD];simp;rw[cX];simpa using hMk
  | none=>
    rw[gO]at fa;obtain rfl:con=γ:=fa.symm;refine ae dQ ?_;cases al;refine θ (iV dQ rN Ke Eu hgV ?_);refine ν dQ ?_;refine ο dQ cA ?_;refine az.N (j+1) ⟨aM,by omega,Kf,?_,?_,M,ck,ra,hM,?_⟩;rw[cX,hr,Ke];simp;rw[cX,hr,gD];simp;rw[cX];simpa using hMk
    ·refine θ (iV dQ rN Ke Eu hgV ?_)
     have k8:(M.any λp=>p.1==dK ⟨k1,k2,k3,k4⟩)=γ:=by
      unfold jC at gO;rw[Option.map_eq_none_iff,List.find?_eq_none]at gO;rw[List.any_eq_false];exact gO
     refine VC.pC rfl ?_;refine θ (iV dQ rN gD UJ hsC ?_);refine VC.gen ?_;intro O6 e6;(((have lP:∀i,i≠cb->O6.hp i=O5.hp i:=λi h=>by rw[e6];exact π _ _ h);have AM:O6.hp cb=φ (.cells ((C++Α::Μ r γ).map mb)):=by rw[e6];exact υ _ _ _);have oD:O6.N=O5.N:=by rw[e6];rfl);clear e6;have hv6:=(lP vb (by omega)).trans rN;have oo:=(lP O3.N (by omega)).trans mA;have hm6:=(lP mp (by omega)).trans ra;refine WC.bW (.held [7]) [(0,.rd),(1,.rd),(2,.rd),(3,.rd),(4,.rd),(5,.rd),(6,.rd),(7,.one)] ?_;refine aE dQ hv6 oo ?_;refine VL.qw rfl rfl (qv.jX qD (l:=dK ⟨k1,k2,k3,k4⟩) (b:=mp) (ck:=ck) (M:=M) Tryz.underlying37 rfl hm6 hM rfl rfl vX rfl) (λbrk hb i hi=>?_) (WL.sound aa ?_)
     ·cases hb
      rcases i with _ | _ | _ | _ | _ | _ | _ | _ | i<;>first
       | rfl
       | (exfalso;revert hi;simp)
     have mw:=sF (y:=.v (Ι Κ j)) (ck:=ck) hM (l:=dK ⟨k1,k2,k3,k4⟩) rfl vX;unfold jX at mw;unfold jX M4;rw[k8]at mw ⊢;refine ae dQ ?_;refine VC.gen ?_;intro O7 e7;((((((have yZ:∀i,i≠mp->O7.hp i=O6.hp i:=λi h=>by rw[e7];exact π _ _ h);have hm7:O7.hp mp=φ (.map (db (M++[(dK ⟨k1,k2,k3,k4⟩,.v (Ι Κ j),ck)])) (ck+1)):=by rw[e7];exact υ _ _ _);have xp:O7.N=O6.N:=by rw[e7];rfl);clear e7;refine ο dQ cA ?_;refine az.N (j+1) ⟨aM,by omega,λi a1 a2 a3 a4=>(yZ i a4).trans ((lP i a3).trans (Kf i a1 a2 a3 a4)),?_,?_,_,_,hm7,mw,?_⟩);rw[cX,hr,yZ lb (by omega),lP lb (by omega),Ke];simp);rw[cX,hr,yZ cb (by omega),AM];simp);rw[cX];simp[hMk]
 rintro _ O2 h2;refine κ dQ ?_;refine ν dQ ?_;exact⟨vb,lb,cb,mp,rfl,h2⟩
def dj:=WT dQ<|WT Ng<|WT T42 fZ
structure Ch where
 k:Ky
 at':Int
 v:Bs
 s:Int
 deriving DecidableEq
def ju(c:Ch):Η:=[.s c.k.g,.s c.k.a,.s c.k.t,.s c.k.c,mi c.at',.s c.v,mi c.s]
def qa(c:Ch):(ju c).length=7:=rfl
def tS(x y:Ky):Bool:=(x.g==y.g)&&((x.a==y.a)&&((x.t==y.t)&&((x.c==y.c)&&Α)))
def So(x y:Ky):tS x y=(x==y):=by
 obtain⟨a,b,c,d⟩:=x;obtain⟨a',b',c',d'⟩:=y;rw[aql];simp[tS]
def ah0(L:List Ch)(tk:Tok)(id:FuncId)(cs:Η)(p:Ch->Bool)(O:VH)(hid:dA Ε id=Α)(hc:∀x∈L,∀O',O.Ge O'->VF Ε id ([.agg (ju x)]++cs) O' (aH λm n5=>m=mb (p x)/\O'.Ge n5))(hn:Ζ L<=1000000):
  VF Ε 43 [.l (Ζ L) (L.flatMap ju) tk,.func (.func id) [] cs] O (aH λm O'=>m=mi (idxFrom p 0 L)/\O.Ge O'):=by
 have dD:=bk qa L;refine Υ 19 [.tmp 4] func43 ?_;refine ae dj ?_;refine WC.kh [8] [0,1,7] (λj:Nat=>[mi j]) (λj O'=>O.Ge O'/\j<=(Ζ L)/\idxFrom p 0 L=idxFrom p j (L.drop j)) (λj=>(Ζ L) - j) (0) ?_ ?_;exact⟨VH.Ge.refl _,aqg _,rfl⟩;rintro j O2 ⟨aC,hj,dw⟩;by_cases h2:j<Ζ L;have bG:=c9 qa L j h2;have JY:=hc L[j] (ap_ h2) O2 aC;rw[aqb h2,idxFrom]at dw;generalize L[j]=y at*;refine ao dj bG ?_;refine τ JY ?_ (hb:=hid);rintro _ O3 ⟨rfl,aJ⟩;cases hi:p y;rw[hi]at dw;refine ae dj ?_;exact az.N (j+1) ⟨aC.trans aJ,by omega,dw⟩;rw[hi,if_pos rfl]at dw;rw[dw];refine ae dj ?_;exact aC.trans aJ
 ·obtain rfl:j=Ζ L:=by omega
  rw[List.drop_of_length_le (by omega)]at dw;rw[dw];refine ae dj ?_;exact⟨rfl,aC⟩
def ui(s:Int):Int:=if s<1\/s>5 then 0 else 6 - s
def DY(a b:Int):Int:=if ui b>ui a then b else a
def Sq(s:Int)(O:VH):VF Ε 148 [mi s] O (aH λm O'=>m=mi (ui s)/\O'=O):=by
 unfold ui;simp only[aq];refine ω 11 [.tmp 2] func148 ?_;refine κ dj ?_;by_cases h1:s<1;have e1:decide (s<1)=Α:=decide_eq_true h1;rw[if_pos (.inl h1)];refine ξ dj e1 ?_;trivial;have e1:decide (s<1)=γ:=decide_eq_false h1;by_cases h2:s>5;have e2:decide (s>5)=Α:=decide_eq_true h2;have e3:decide (5<s)=Α:=e2;rw[if_pos (.inr h2)];refine θ (cB dj e1 e2 e3 ?_);trivial;have e2:decide (s>5)=γ:=decide_eq_false h2;have e3:decide (5<s)=γ:=e2;rw[if_neg (by omega)];refine θ (cB dj e1 e2 e3 ?_);refine κ dj ?_;refine ν dj ?_;trivial
def aaX(a b:Int)(O:VH):VF Ε 120 [mi a,mi b] O (aH λm O'=>m=mi (DY a b)/\O'=O):=by
 unfold DY;have ha:=Sq a O;have hb:=Sq b O;simp only[aq]at ha hb ⊢;refine ω 12 [.tmp 4] func120 ?_;refine κ dj ?_;refine κ dj ?_;refine Ω hb ?_;refine ae dj ?_;refine Ω ha ?_;by_cases h:ui b>ui a;have e1:decide (ui b>ui a)=Α:=decide_eq_true h;have e2:decide (ui a<ui b)=Α:=e1;rw[if_pos h];refine aE dj e1 e2 ?_;trivial;have e1:decide (ui b>ui a)=γ:=decide_eq_false h;have e2:decide (ui a<ui b)=γ:=e1;rw[if_neg h];refine aE dj e1 e2 ?_;refine κ dj ?_;refine ν dj ?_;trivial
def Bp(b:Bn)(M:List (Bn×Bool)):Int:=M.foldl (λs p=>if decide (b.dp>1)&&(p.2&&tS p.1.k b.k)then DY s p.1.s else s) b.s
def I1(L:List Bn)(C V:List Bool):Nat->List Ch
 | 0=>[]
 | j+1=>I1 L C V j++match L[j]? with
   | some b=>if C.getD j γ then[⟨b.k,j,b.v,Bp b (L.zip V)⟩]else[]
   | none=>[]
def c_(L:List Bn):List Ch:=I1 L (o5 L).1 (o5 L).2.1 (Ζ L)
def Sr(L:List Bn)(C V:List Bool):∀j,(I1 L C V j).length<=j
 | 0=>agb _
 | j+1=>by
   have:=Sr L C V j;rw[I1,akb];split;split<;>simp<;>omega;simp;omega
def Wa(b:Bn)(L:List Bn)(V:List Bool)(hV:Ζ V=Ζ L):∃g:Nat->Int,g 0=b.s/\(∀k (h:k<Ζ L),g (k+1)=if decide (b.dp>1)&&(V.getD k γ&&tS L[k].k b.k)then DY (g k) L[k].s else g k)/\g (Ζ L)=Bp b (L.zip V):=by
 refine⟨λk=>Bp b ((L.take k).zip (V.take k)),by simp[Bp],λk h=>?_,by dsimp only;rw[List.take_length,List.take_of_length_le (Nat.le_of_eq hV)]⟩;dsimp only;rw[<-aqc h, <-aqc (show k<(Ζ V) by omega),List.zip_append (by simp;omega),aqa,agc (show k<(Ζ V) by omega)];unfold Bp;rw[List.foldl_append];simp
def aaY:Prop:=∀(L:List Bn)(tk:Tok)(O:VH),Ζ L<=1000000->(∀b∈L,∀s∈dK b.k,Ζ s<=maxLen)->VF Ε 96 [.l (Ζ L) (L.flatMap gu) tk] O (aH λm O'=>(∃t,m= .l (c_ L).length ((c_ L).flatMap ju) t)/\O.Ge O')
def Wb(c:UInt8):Bool:=k9 c||c==42
structure nG(s:Bs):Prop where
 ne:s≠[]
 all:∀c∈s,Wb c=Α
structure DZ(s:Bs):Prop where
 ne:s≠[]
 hd:nN (s.headD 0)=Α
 all:∀c∈s,k9 c=Α
def D2(h:Wb c=Α):c≠60/\c≠38/\c≠62/\c≠13/\oS c=Α/\oa c=γ:=by
 have:∀c:UInt8,Wb c=Α->(c≠60/\c≠38/\c≠62/\c≠13/\oS c=Α/\oa c=γ):=by
  intro c h;simp only[Wb,k9,nN,sG,Ld,Bool.or_eq_true,aqj,decide_eq_true_eq,beq_iff_eq, <-UInt8.toNat_inj]at h;simp only[oS,oa,ne_eq, <-UInt8.toNat_inj,decide_eq_true_eq,decide_eq_false_iff_not];have e1:(60:UInt8).toNat=60:=rfl;have e2:(38:UInt8).toNat=38:=rfl;have e3:(62:UInt8).toNat=62:=rfl;have e4:(13:UInt8).toNat=13:=rfl;have e5:(42:UInt8).toNat=42:=rfl;rw[e5]at h;rw[e1,e2,e3,e4];omega
 exact this c h
def ae3(h:nN c=Α):c≠33/\c≠63/\c≠47:=by
 simp only[nN,decide_eq_true_eq]at h;simp only[ne_eq, <-UInt8.toNat_inj];have e1:(33:UInt8).toNat=33:=rfl;have e2:(63:UInt8).toNat=63:=rfl;have e3:(47:UInt8).toNat=47:=rfl;rw[e1,e2,e3];omega
def I2(h:∀c∈s,Wb c=Α):oU γ s=s:=by
 induction s with
 | nil=>rfl
 | cons c s ih=>
   have hc:=D2 (h c (aga ..));((have ih:=ih λd hd=>h d (akc _ hd));unfold oU at ih ⊢;rw[List.flatMap_cons,ih];have:rX γ c=[c]:=by simp[rX,hc.1,hc.2.1,hc.2.2.1,hc.2.2.2.1]);rw[this];rfl
def lR{a b:Bs}(h:t.drop o=a++b):t.drop (o+Ζ a)=b:=by
 rw[<-List.drop_drop,h,List.drop_left]
def rf{b:Bs}(h:t.drop o=c::b):o<Ζ t:=by
 have:=congrArg List.length h;rw[aqs,abx]at this;omega
def aaZ{a:Bs}(h:t.drop o=a)(ha:a≠[]):Ζ t=o+Ζ a:=by
 have:=congrArg List.length h;rw[aqs]at this;have:(Ζ a)≠0:=λe=>ha (alP e)
 omega
def ae4{p:UInt8->Bool}(h:∀x∈n,p x=Α)(hc:p c=γ):(n++c::r).takeWhile p=n:=by
 induction n with
 | nil=>simp[hc]
 | cons x n ih=>rw[Ca,List.takeWhile_cons,h x (aga ..),if_pos rfl,ih λy hy=>h y (akc _ hy)]
def Ss(h:DZ n)(hc:k9 c=γ):lL (n++c::r)=Ζ n:=by
 unfold lL;rw[ae4 h.all hc];obtain⟨x,m,rfl⟩:∃x m,n=x::m:=by cases n with | nil=>exact absurd rfl h.ne | cons x m=>exact⟨x,m,rfl⟩
 have:=h.hd;simp only[List.headD_cons]at this;simp[this]
def LY{e:Int}(hd:t.drop o=n++c::r)(h:DZ n)(hc:k9 c=γ):kO t o e= .ok (n,o+Ζ n):=by
 obtain⟨x,m,hx⟩:∃x m,n=x::m:=by cases n with | nil=>exact absurd rfl h.ne | cons x m=>exact⟨x,m,rfl⟩
 have dm:=rf (hd.trans (by rw[hx];rfl:_=x::(m++c::r)));unfold kO;rw[if_neg (by omega),hd,Ss h hc,if_neg (by rw[hx];simp),List.take_left]
def tr{d:UInt8}{p:Bs}:eX (c::s) (d::p)=(c==d&&eX s p):=by
 simp only[eX,abx,List.take_succ_cons];rfl
def vE :eX s []=Α:=by simp[eX]
def St(hd:t.drop o=c::r):ku t o [c]= .ok ((),o+1):=by
 unfold ku;rw[if_neg (by have:=rf hd;omega),hd,tr,vE,if_pos (by simp)];rfl
def ae5(hd:t.drop o=c::r)(hc:oa c=γ:=by decide):l0 t o=0:=by
 unfold l0;rw[hd,List.takeWhile_cons,hc];rfl
def Su:k9 62=γ:=by decide
def LZ(h:DZ n)(hd:t.drop o=[60]++(n++62::r)):oX t o= .ok (⟨1,n,[],[],o⟩,o+(Ζ n+2)):=by
 obtain⟨x,m,hx⟩:∃x m,n=x::m:=by cases n with | nil=>exact absurd rfl h.ne | cons x m=>exact⟨x,m,rfl⟩
 have hf:=h.hd;rw[hx,List.headD_cons]at hf;obtain⟨h33,h63,h47⟩:=ae3 hf;have pZ:=lR hd;have kW:=lR pZ;have hn:kO t (o+1) 11= .ok (n,o+1+Ζ n):=LY pZ h Su
 have bG:nQ t (Ζ t+1 - (o+1+Ζ n)) (o+1+Ζ n) []= .ok ([],o+1+Ζ n):=by
  have hb:=ae5 kW;rw[ap8]at hb;generalize (Ζ t)+1 - (o+1+Ζ n)=k;cases k with
  | zero=>rfl
  | succ k=>unfold nQ;rw[hb,if_pos (.inl rfl),aqt]
 rw[ap8]at kW;have uB:t.drop o=60::x::(m++62::r):=by rw[hd,hx];rfl
 unfold oX uG;simp only[uB,tr,vE,beq_eq_false_iff_ne.2 h33,beq_eq_false_iff_ne.2 h63,beq_eq_false_iff_ne.2 h47,Bool.and_false,ap9,Bool.and_true,aqi,beq_self_eq_true,alS,if_false,if_true,and_false];unfold yI;rw[hn];dsimp only;rw[bG];dsimp only;rw[kW,tr,vE];rw[if_neg (by decide),St kW];simp only[xf];rw[show o+1+Ζ n+1=o+(Ζ n+2) by omega]
def I3(h:DZ n)(hd:t.drop o=[60,47]++(n++62::r)):oX t o= .ok (⟨3,n,[],[],o⟩,o+(Ζ n+3)):=by
 have pZ:=lR hd;have kW:=lR pZ;rw[show[(60:UInt8),47].length=2 from rfl]at pZ kW;have hn:kO t (o+2) 11= .ok (n,o+2+Ζ n):=LY pZ h Su;have hb:=ae5 kW;have uB:t.drop o=60::47::(n++62::r):=hd;unfold oX uG;simp only[uB,tr,vE,show((47:UInt8)==33)=γ from rfl,show((47:UInt8)==63)=γ from rfl,Bool.and_false,ap9,Bool.and_true,aqi,beq_self_eq_true,alS,if_false,if_true,and_false];unfold ud;rw[hn];dsimp only;rw[hb,aqt,St kW];simp only[xf];rw[show o+2+Ζ n+1=o+(Ζ n+3) by omega]
def Sv{t:Bs}{r:Bs}:∀(s:Bs)(k o:Nat)(acc:Bs),(∀c∈s,Wb c=Α)->t.drop o=s++60::r->Ζ s<k->fQ t 60 k o acc= .ok (acc++s,o+Ζ s)
 | s,0,_,_,_,_,hk=>by omega
 | [],k+1,o,acc,_,hd,_=>by
   have:=rf hd
   have hg:t[o]?=φ 60:=by
    (have h0:(t.drop o)[0]?=φ 60:=by rw[hd];rfl);simpa using h0
   unfold fQ;rw[hg];dsimp only;rw[if_pos rfl,alT,Ti,aqt]
 | c::s,k+1,o,acc,h,hd,hk=>by
   have hg:t[o]?=φ c:=by
    (have h0:(t.drop o)[0]?=φ c:=by rw[hd];rfl);simpa using h0
   obtain⟨QG,h38,_,_,yp,_⟩:=D2 (h c (aga ..));unfold fQ;rw[hg];dsimp only;rw[if_neg QG,if_neg h38,if_neg (by rw[yp];simp[QG]),Sv s k (o+1) (acc++[c]) (λd hd=>h d (akc _ hd)) (lR (a:=[c]) hd) (by rw[abx]at hk;omega)];rw[akf,abx,show o+1+Ζ s=o+(Ζ s+1) by omega];rfl
def aa0(h:nG s)(hd:t.drop o=s++60::r):oX t o= .ok (⟨4,[],[],s,o⟩,o+Ζ s):=by
 obtain⟨x,m,hx⟩:∃x m,s=x::m:=by cases s with | nil=>exact absurd rfl h.ne | cons x m=>exact⟨x,m,rfl⟩
 obtain⟨QG,_⟩:=D2 (h.all x (by rw[hx];exact aga ..));have hlen:=aaZ hd (by simp);rw[akb,abx]at hlen;have hl:=Sv s (Ζ t+1 - o) o [] h.all hd (by omega);have uB:t.drop o=x::(m++60::r):=by rw[hd,hx];rfl
 unfold oX uG;simp only[uB,tr,vE,beq_eq_false_iff_ne.2 QG,ap9,alS,if_false,and_false];rw[hl,Th];rfl
mutual
def tu:Nd->Prop
 | .mk n a k t=>DZ n/\a=[]/\t=[]/\k≠[]/\((∃s,nG s/\k=[.mk [] [] [] s])\/Bq k)
def Bq:List Nd->Prop
 | []=>True
 | x::r=>tu x/\Bq r
end
mutual
def wP:Nd->Nat
 | .mk _ _ k _=>1+qp k
def qp:List Nd->Nat
 | []=>0
 | x::r=>max (wP x) (qp r)
end
def ah1(K:List Nd)(L:List Tk):Prop:=∀(p:PS)(n:Bs)(a:List (Bs×Bs))(K0:List Nd)(S:List (Bs×List (Bs×Bs)×List Nd))(R:List Tk),p.st=(n,a,K0)::S->p.dn=γ->p.bP+cI K<=4096->Ζ S+1+qp K<=64->
 ∃b,kS (L++R) p=kS R ⟨(n,a,K0++K)::S,p.bP+cI K,γ,b,p.z⟩
def tA{x:Tk}{l:List Tk}{q:PS}(h:l9 x p= .ok q):kS (x::l) p=kS l q:=by rw[kS,h]
def I4(hd:p.dn=γ)(hl:Ζ p.st<64)(hc:p.bP+1<=4096):l9 ⟨1,n,[],[],o⟩ p= .ok ⟨(n,[],[])::p.st,p.bP+1,p.dn,γ,p.z⟩:=by
 unfold l9 vu;rw[if_neg (by dsimp only;decide),if_pos rfl,hd];simp only[alS,if_false];rw[if_neg (by omega),if_neg (by omega)]
def F2{a:List (Bs×Bs)}{S:List (Bs×List (Bs×Bs)×List Nd)}(h:p.st=(n,a,K)::S):l9 ⟨3,n,[],[],o⟩ p= .ok (wL p):=by
 unfold l9;rw[if_neg (by dsimp only;decide),if_neg (by dsimp only;decide),if_neg (by dsimp only;decide),if_pos rfl,h];dsimp only;rw[if_pos rfl]
def Wc{a:List (Bs×Bs)}{S:List (Bs×List (Bs×Bs)×List Nd)}(h:p.st=(n,a,K)::S)(hs:s≠[])(ht:p.tx=γ)(hc:p.bP+1<=4096):l9 ⟨4,[],[],s,o⟩ p= .ok ⟨(n,a,K++[.mk [] [] [] s])::S,p.bP+1,p.dn,Α,p.z⟩:=by
 unfold l9 p8;rw[if_pos rfl,h];dsimp only;rw[if_neg hs,ht];simp only[alS,if_false];rw[if_neg (by omega)];try rfl
def Cd{k:List Nd}(hn:n≠[])(hk:k≠[]):cV (.mk n [] k [])=[60]++(n++62::(bf k++([60,47]++(n++[62])))):=by
 rw[cV,if_neg hn];have:(Ζ k)≠0:=λe=>hk (alP e)
 simp only[if_neg this,BX,Ib,af_,alT];rw[if_neg (by decide),if_neg (by decide),if_neg (by decide),if_pos trivial];simp only[akf,Ca,Th]
def tB{x:Tk}{o':Nat}{l:List Tk}(ho:o<Ζ t)(h:oX t o= .ok (x,o')):ky t (k+1) o l=ky t k o' (l++[x]):=by
 rw[ky,if_neg (by omega),h]
def Od(K:List Nd):Prop:=∀(t:Bs)(o k:Nat)(l:List Tk)(r:Bs),t.drop o=bf K++r->(bf K).length<=k->∃j L,j<=(bf K).length/\ky t k o l=ky t (k - j) (o+(bf K).length) (l++L)/\ah1 K L
def lG(x:Nd):bf [x]=cV x:=by rw[bf,bf,List.append_nil]
def nH(x:Nd):cI [x]=fi x:=by rw[cI,cI,Nat.add_zero]
def Aw(x:Nd):qp [x]=wP x:=by rw[qp,qp];omega
def aa1{k:List Nd}(hn:DZ n)(hk:k≠[])(h:(∃s,nG s/\k=[.mk [] [] [] s])\/Od k):Od [.mk n [] k []]:=by
 intro t o f l r hd hf;rw[lG,Cd hn.ne hk]at hd hf ⊢;have pZ:t.drop o=[60]++(n++62::(bf k++([60,47]++(n++62::r)))):=by rw[hd];simp only[akf,Ca,Th]
 have kW:t.drop (o+(Ζ n+2))=bf k++([60,47]++(n++62::r)):=by
  have:=lR (a:=[60]++n++[62]) (b:=bf k++([60,47]++(n++62::r))) (pZ.trans (by simp only[List.append_assoc,List.cons_append,List.nil_append]));have hL:List.length ([(60:UInt8)]++n++[62])=Ζ n+2:=by simp
  rwa [hL]at this
 have yL:=lR kW;have hlen:([60]++(n++62::(bf k++([60,47]++(n++[62]))))).length=(Ζ n+2)+(bf k).length+(Ζ n+3):=by simp;omega
 rw[hlen]at hf ⊢;have ho1:=rf pZ;have ho3:=rf yL
 have key:∃j L,j<=(bf k).length/\ky t (f - 1) (o+(Ζ n+2)) (l++[⟨1,n,[],[],o⟩])=ky t (f - 1 - j) (o+(Ζ n+2)+(bf k).length) (l++[⟨1,n,[],[],o⟩]++L)/\∀(p:PS)(S:List (Bs×List (Bs×Bs)×List Nd))(R:List Tk),p.st=(n,[],[])::S->p.tx=γ->p.dn=γ->p.bP+cI k<=4096->Ζ S+1+qp k<=64->∃b,kS (L++R) p=kS R ⟨(n,[],k)::S,p.bP+cI k,γ,b,p.z⟩:=by
  rcases h with⟨s,hs,rfl⟩ | h
  ·have hp:bf [.mk [] [] [] s]=s:=by rw[lG,cV,if_pos rfl,I2 hs.all]
   rw[hp]at kW hf ⊢;(((obtain⟨x,m,hx⟩:∃x m,s=x::m:=by cases s with | nil=>exact absurd rfl hs.ne | cons x m=>exact⟨x,m,rfl⟩);refine⟨1,[⟨4,[],[],s,o+(Ζ n+2)⟩],by rw[hx];simp,?_,?_⟩);rw[show f - 1=(f - 1 - 1)+1 by rw[hx]at hf;simp only[abx]at hf;omega,tB (rf (kW.trans (by rw[hx];rfl:_=x::(m++([60,47]++(n++62::r)))))) (aa0 hs kW)];rfl);intro p S R h1 h2 h3 h4 h5;rw[nH,fi,cI]at h4 ⊢;refine⟨Α,?_⟩;rw[aqk,tA (Wc h1 hs.ne h2 h4),h3];rfl
  ·obtain⟨j,L,hj,he,hr⟩:=h t (o+(Ζ n+2)) (f - 1) (l++[⟨1,n,[],[],o⟩]) _ kW (by omega);refine⟨j,L,hj,he,?_⟩;intro p S R h1 h2 h3 h4 h5;have:=hr p n [] [] S R h1 h3 h4 h5;simpa using this
 obtain⟨j,L,hj,he,hr⟩:=key;refine⟨j+2,⟨1,n,[],[],o⟩::(L++[⟨3,n,[],[],o+(Ζ n+2)+(bf k).length⟩]),by omega,?_,?_⟩;rw[show f=(f - 1)+1 by omega,tB ho1 (LZ hn pZ),he,show f - 1 - j=(f - 1 - j - 1)+1 by omega,tB ho3 (I3 hn yL)];((((congr 1);omega);omega);simp);intro p n' a' K0 S R h1 h2 h3 h4;rw[nH,fi]at h3 ⊢;rw[Aw,wP]at h4;rw[Ca,tA (I4 h2 (by rw[h1,abx];omega) (by omega)),h2,akf];obtain⟨b,hb⟩:=hr ⟨(n,[],[])::p.st,p.bP+1,γ,γ,p.z⟩ p.st ([⟨3,n,[],[],o+(Ζ n+2)+(bf k).length⟩]++R) rfl rfl rfl (by dsimp only;omega) (by rw[h1,abx];omega);refine⟨γ,?_⟩;rw[hb,aqk,tA (F2 (p:=⟨(n,[],k)::p.st,p.bP+1+cI k,γ,b,p.z⟩) rfl)];unfold wL;dsimp only;rw[h1];dsimp only;rw[show p.bP+1+cI k=p.bP+(1+cI k) by omega]
mutual
def ah2:∀x:Nd,tu x->Od [x]
 | .mk n a k t,h=>by
   rw[tu]at h;obtain⟨hn,rfl,rfl,hk,h⟩:=h;refine aa1 hn hk ?_;rcases h with h | h;exact .inl h;exact .inr (I5 k h)
def I5:∀K:List Nd,Bq K->Od K
 | [],_=>by
   intro t o k l r hd hk;refine⟨0,[],agb _,by rw[bf];simp,?_⟩;intro p n a K0 S R h1 h2 h3 h4;refine⟨p.tx,?_⟩;rw[cI,Th,alT,aqt, <-h2, <-h1]
 | x::K,h=>by
   rw[Bq]at h;have hx:=ah2 x h.1;have hK:=I5 K h.2;intro t o k l r hd hk;(((have hp:bf (x::K)=bf [x]++bf K:=by rw[lG,bf]);rw[hp]at hd hk ⊢;rw[akf]at hd;rw[akb]at hk ⊢;obtain⟨j1,L1,cA,Vk,lK⟩:=hx t o k l _ hd (by omega);obtain⟨j2,L2,aM,NG,iA⟩:=hK t (o+(bf [x]).length) (k - j1) (l++L1) r (lR hd) (by omega);refine⟨j1+j2,L1++L2,by omega,?_,?_⟩);rw[Vk,NG,akf,Nat.add_assoc,Nat.sub_sub]);intro p n a K0 S R h1 h2 h3 h4;((have hs:cI (x::K)=cI [x]+cI K:=by rw[nH,cI]);have Ds:qp (x::K)=max (qp [x]) (qp K):=by rw[Aw,qp]);rw[hs]at h3 ⊢;rw[Ds]at h4;obtain⟨b1,e1⟩:=lK p n a K0 S (L2++R) h1 h2 (by omega) (by omega);obtain⟨b2,e2⟩:=iA ⟨(n,a,K0++[x])::S,p.bP+cI [x],γ,b1,p.z⟩ n a (K0++[x]) S R rfl rfl (by dsimp only;omega) (by omega);refine⟨b2,?_⟩;rw[akf,e1,e2,akf,Nat.add_assoc];rfl
end
def Oe{k:List Nd}(hn:DZ n)(hk:k≠[])(hs:Bq k)(hc:1+cI k<=4096)(hd:qp k<=63):jF (cV (.mk n [] k []))= .ok (.mk n [] k []):=by
 have hp:=Cd hn.ne hk;generalize ht:cV (.mk n [] k [])=t at hp;have pZ:t.drop 0=[60]++(n++62::(bf k++([60,47]++(n++[62])))):=by rw[List.drop_zero,hp]
 have hlen:Ζ t=(Ζ n+2)+(bf k).length+(Ζ n+3):=by rw[hp];simp;omega
 have kW:t.drop (0+(Ζ n+2))=bf k++([60,47]++(n++62::[])):=by
  have:=lR (a:=[60]++n++[62]) (b:=bf k++([60,47]++(n++62::[]))) (pZ.trans (by simp only[List.append_assoc,List.cons_append,List.nil_append]));have hL:List.length ([(60:UInt8)]++n++[62])=Ζ n+2:=by simp
  rwa [hL]at this
 have yL:=lR kW;obtain⟨j,L,hj,he,hr⟩:=I5 k hs t (0+(Ζ n+2)) (Ζ t) ([]++[⟨1,n,[],[],0⟩]) _ kW (by omega)
 have ja:xh t= .ok ([]++[⟨1,n,[],[],0⟩]++L++[⟨3,n,[],[],0+(Ζ n+2)+(bf k).length⟩]):=by
  unfold xh;rw[tB (rf pZ) (LZ hn pZ),he,show (Ζ t) - j=((Ζ t) - j - 1)+1 by omega,tB (rf yL) (I3 hn yL)];generalize (Ζ t) - j - 1=f;cases f with
  | zero=>rfl
  | succ f=>rw[ky,if_pos (by omega)]
 have cT:∃q:PS,kS ([]++[⟨1,n,[],[],0⟩]++L++[⟨3,n,[],[],0+(Ζ n+2)+(bf k).length⟩]) p0= .ok q/\q.st=[]/\q.dn=Α/\q.z= .mk n [] k []:=by
  rw[Th,aqk,Ca,tA (I4 rfl (by decide) (by decide))];obtain⟨b,hb⟩:=hr ⟨(n,[],[])::p0.st,p0.bP+1,p0.dn,γ,p0.z⟩ n [] [] [] [⟨3,n,[],[],0+(Ζ n+2)+(bf k).length⟩] rfl rfl (by show 0+1+cI k<=4096;omega) (by show 0+1+qp k<=64;omega);rw[hb,tA (F2 (p:=⟨[(n,[],[]++k)],p0.bP+1+cI k,γ,b,p0.z⟩) rfl),kS];exact⟨_,rfl,rfl,rfl,rfl⟩
 obtain⟨q,h1,h2,h3,h4⟩:=cT;unfold jF;rw[ja];dsimp only;rw[h1];dsimp only;rw[h2,h3,h4];simp
def lf(n s:Bs):Nd:=.mk n [] [.mk [] [] [] s] []
def kU{L:List Nd}(h:s≠[]):cP L n s=L++[lf n s]:=by unfold cP;rw[if_neg h];rfl
def Ce{L:List Nd} :cP L n []=L:=by unfold cP;rw[if_pos rfl]
def aa2(h:nG s):trimB s=s:=by
 have h1:s.dropWhile oa=s:=by
  cases s with
  | nil=>rfl
  | cons c s=>rw[List.dropWhile_cons,(D2 (h.all c (aga ..))).2.2.2.2.2];rfl
 unfold trimB Nl;rw[h1]
 have h2:s.reverse.dropWhile oa=s.reverse:=by
  cases hr:s.reverse with
  | nil=>rfl
  | cons c r=>
    (have:c∈s:=by rw[<-List.mem_reverse,hr];exact aga ..);rw[List.dropWhile_cons,(D2 (h.all c this)).2.2.2.2.2];rfl
 rw[h2,List.reverse_reverse]
def aa3{w:Bs}{e:Bool}(h:nG s)(hl:Ζ s<=1024):sP (lf n s) w e= .ok s:=by
 have h1:wm (lf n s)=s:=by
  unfold wm;(have:ki (lf n s).kids=s:=by simp[ki,lf,Nd.kids,Nd.nm,Nd.tx]);rw[this,aa2 h]
 have h2:de (lf n s) []=[]:=by simp[de,lf,Nd.kids,lY,Nd.nm]
 unfold sP;rw[h1,h2,if_neg];rintro(h | h | h);exact absurd h (by simp);omega;exact h.1 |> λe=> ‹nG s›.ne e
def lS{x:Nd}{w:Bs}{vh:Bool}(hk:de x name=[lf name s])(h:nG s)(hl:Ζ s<=1024)(hr:right s=Α):cz x w name vh right= .ok s:=by
 unfold cz cW;rw[hk];dsimp only;rw[aa3 h hl];simp only[Ns,hr,if_true]
def vF{x:Nd}{w:Bs}(hk:de x name=[]):cz x w name γ right= .ok []:=by
 unfold cz cW;rw[hk];rfl
def F3{a:List (Bs×Bs)}(hn:name≠[])(h:∀y∈K,y.nm=name):de (.mk n a K t) name=K:=by
 unfold de;rw[Nd.kids,List.filter_eq_self];intro y hy;simp[lY,h y hy,hn]
structure Of(d:Dp):Prop where
 g:nG d.g
 a:nG d.a
 v:nG d.v
 gl:Ζ d.g<=1024
 al:Ζ d.a<=1024
 vl:Ζ d.v<=1024
 t:d.t=[]
 c:d.c=[]
 s:d.s=0\/d.s=1\/d.s=2\/d.s=3\/d.s=4\/d.s=5
 o:d.o=0\/d.o=1
 x:∀i∈d.x,(nG i.g/\(Ζ i.g)<=1024/\jD i.g=Α)/\nG i.a/\(Ζ i.a)<=1024/\jD i.a=Α
 xl:Ζ d.x<=1024
def ah3{i:iB}{w:Bs}(h:(nG i.g/\(Ζ i.g)<=1024/\jD i.g=Α)/\nG i.a/\(Ζ i.a)<=1024/\jD i.a=Α):exE (jb i,w)= .ok i:=by
 have hk:jb i= .mk w9 [] [lf fb i.g,lf eU i.a] []:=by
  unfold jb;rw[kU h.1.1.ne,kU h.2.1.ne];rfl
 unfold exE;dsimp only;rw[hk,lS (s:=i.g) rfl h.1.1 h.1.2.1 h.1.2.2];dsimp only;rw[lS (s:=i.a) rfl h.2.1 h.2.2.1 h.2.2.2]
def Sw:∀(X:List iB)(ws:List (Nd×Bs))(Y:List iB),(∀i∈X,(nG i.g/\(Ζ i.g)<=1024/\jD i.g=Α)/\nG i.a/\(Ζ i.a)<=1024/\jD i.a=Α)->ws.map (·.1)=X.map jb->Be ws Y= .ok (Y++X)
 | [],ws,Y,_,hw=>by
   rw[List.map_nil,alO]at hw;rw[hw,Be,alT]
 | i::X,ws,Y,h,hw=>by
   cases ws with
   | nil=>cases hw
   | cons p ws=>
     rw[aqh,aqh,List.cons.injEq]at hw;obtain⟨q,w⟩:=p;obtain⟨rfl,hw⟩:=hw;rw[Be,ah3 (h i (aga ..))];dsimp only;rw[Sw X ws (Y++[i]) (λj hj=>h j (akc _ hj)) hw,akf];rfl
def L0(w name:Bs)(K:List Nd):(sR w name K).map (·.1)=K:=by
 unfold sR;apply List.ext_getElem;simp;intro i h1 h2;simp
def fV(d:Dp):List Nd:=[lf fb d.g,lf eU d.a,lf gX d.v]++(if d.s=0 then[]else[lf ua (gL d.s)])++(if d.o=1 then[lf oT lW]else[])++(if d.x=[]then[]else[.mk n0 [] (d.x.map jb) []])
def EX(h:Of d):gm d= .mk nO [] (fV d) []:=by
 unfold gm BW fV ly;dsimp only;rw[h.t,h.c,kU h.g.ne,kU h.a.ne,kU h.v.ne,Ce,Ce];have hx:(d.x.map jb=[]) ↔ d.x=[]:=alO
 have hs:cP ([]++[lf fb d.g]++[lf eU d.a]++[lf gX d.v]) ua (gL d.s)=[lf fb d.g,lf eU d.a,lf gX d.v]++(if d.s=0 then[]else[lf ua (gL d.s)]):=by
  rcases h.s with e | e | e | e | e | e<;>rw[e]<;>rfl
 rw[hs];rcases h.o with e | e<;>rw[e]<;>by_cases ex:d.x=[]<;>simp[ex,kU,lW]
def zm{n:Int}(h:n=1\/n=2\/n=3\/n=4\/n=5):nB γ (gL n)=Α/\((nw (gL n)).1:Int)=n/\nG (gL n)/\(gL n).length<=1024:=by
 rcases h with e | e | e | e | e<;>rw[e]<;>exact⟨by decide,by decide,⟨by decide,by decide⟩,by decide⟩
def alf :de (.mk nO [] (fV d) []) fb=[lf fb d.g]:=by
 unfold fV;by_cases h1:d.s=0<;>by_cases h2:d.o=1<;>by_cases h3:d.x=[]<;>simp only[h1,h2,h3,if_true,if_false]<;>rfl
def alg :de (.mk nO [] (fV d) []) eU=[lf eU d.a]:=by
 unfold fV;by_cases h1:d.s=0<;>by_cases h2:d.o=1<;>by_cases h3:d.x=[]<;>simp only[h1,h2,h3,if_true,if_false]<;>rfl
def alh :de (.mk nO [] (fV d) []) gX=[lf gX d.v]:=by
 unfold fV;by_cases h1:d.s=0<;>by_cases h2:d.o=1<;>by_cases h3:d.x=[]<;>simp only[h1,h2,h3,if_true,if_false]<;>rfl
def ali :de (.mk nO [] (fV d) []) Di=[]:=by
 unfold fV;by_cases h1:d.s=0<;>by_cases h2:d.o=1<;>by_cases h3:d.x=[]<;>simp only[h1,h2,h3,if_true,if_false]<;>rfl
def alj :de (.mk nO [] (fV d) []) Dj=[]:=by
 unfold fV;by_cases h1:d.s=0<;>by_cases h2:d.o=1<;>by_cases h3:d.x=[]<;>simp only[h1,h2,h3,if_true,if_false]<;>rfl
def alk :de (.mk nO [] (fV d) []) ua=if d.s=0 then[]else[lf ua (gL d.s)]:=by
 unfold fV;by_cases h1:d.s=0<;>by_cases h2:d.o=1<;>by_cases h3:d.x=[]<;>simp only[h1,h2,h3,if_true,if_false]<;>rfl
def alm :de (.mk nO [] (fV d) []) oT=if d.o=1 then[lf oT lW]else[]:=by
 unfold fV;by_cases h1:d.s=0<;>by_cases h2:d.o=1<;>by_cases h3:d.x=[]<;>simp only[h1,h2,h3,if_true,if_false]<;>rfl
def aln :de (.mk nO [] (fV d) []) n0=if d.x=[]then[]else[.mk n0 [] (d.x.map jb) []]:=by
 unfold fV;by_cases h1:d.s=0<;>by_cases h2:d.o=1<;>by_cases h3:d.x=[]<;>simp only[h1,h2,h3,if_true,if_false]<;>rfl
def ae6{w:Bs}(h:Of d):yE (.mk nO [] (fV d) []) w= .ok d.x:=by
 unfold yE cW;rw[aln];by_cases e:d.x=[];rw[if_pos e,e]
 ·rw[if_neg e];dsimp only
  have hk:de (.mk n0 [] (d.x.map jb) []) w9=d.x.map jb:=F3 (by decide) λy hy=>by
   obtain⟨i,_,rfl⟩:=alU.1 hy;rfl
  unfold pP;rw[hk,if_neg (by rw[ake];have:=h.xl;omega)];dsimp only;rw[Sw d.x _ [] h.x (L0 _ _ _),Th]
def ae7{w:Bs}(h:Of d):Ip (gm d) w γ= .ok d:=by
 rw[EX h];unfold Ip;rw[lS alf h.g h.gl rfl];dsimp only;rw[lS alg h.a h.al rfl];dsimp only;rw[lS alh h.v h.vl rfl];dsimp only;rw[vF ali];dsimp only;rw[vF alj];dsimp only
 have hs:∃y,cz (.mk nO [] (fV d) []) w ua γ (nB γ)= .ok y/\((nw y).1:Int)=d.s:=by
  have hk:=alk (d:=d);by_cases e:d.s=0;rw[if_pos e]at hk;exact⟨[],vF hk,by rw[e];rfl⟩;rw[if_neg e]at hk;obtain⟨h1,h2,h3,h4⟩:=zm (h.s.resolve_left e);exact⟨_,lS hk h3 h4 h1,h2⟩
 obtain⟨y,hy,TZ⟩:=hs;rw[hy];dsimp only
 have ho:∃z,cz (.mk nO [] (fV d) []) w oT γ oV= .ok z/\adu z=d.o:=by
  have hk:=alm (d:=d);rcases h.o with e | e;rw[if_neg (by omega)]at hk;exact⟨[],vF hk,by rw[e];decide⟩;rw[if_pos e]at hk;exact⟨lW,lS hk ⟨by decide,by decide⟩ (by decide) (by decide),by rw[e];decide⟩
 obtain⟨z,hz,hzs⟩:=ho;rw[hz];dsimp only;rw[ae6 h,TZ,hzs];unfold rI;have h1:=h.t;have h2:=h.c;obtain⟨g,a,v,t,c,s,o,x⟩:=d;dsimp only at h1 h2;rw[h1,h2]
def L3:∀(D:List Dp)(ws:List (Nd×Bs))(Y:List Dp),(∀d∈D,Of d)->ws.map (·.1)=D.map gm->uF γ ws Y= .ok (Y++D)
 | [],ws,Y,_,hw=>by
   rw[List.map_nil,alO]at hw;rw[hw,uF,alT]
 | d::D,ws,Y,h,hw=>by
   cases ws with
   | nil=>cases hw
   | cons p ws=>
     rw[aqh,aqh,List.cons.injEq]at hw;obtain⟨q,w⟩:=p;obtain⟨rfl,hw⟩:=hw;rw[uF,ae7 (h d (aga ..))];dsimp only;rw[L3 D ws (Y++[d]) (λj hj=>h j (akc _ hj)) hw,akf];rfl
structure PmW(p:Pm):Prop where
 g:nG p.g
 a:nG p.a
 v:nG p.v
 gl:Ζ p.g<=1024
 al:Ζ p.a<=1024
 vl:Ζ p.v<=1024
 ft:∀d∈p.ft,Of d
 len:Ζ p.ft<=900
def eu(g:Gv)(D:List Dp):Pm:=⟨γ,⟨[],[],[]⟩,g.g,g.a,g.v,[],[],[],D⟩
def fN(g:Gv)(D:List Dp):List Nd:=[lf fb g.g,lf eU g.a,lf gX g.v]++(if D=[]then[]else[.mk n4 [] (D.map gm) []])
def wQ(h:PmW (eu g D)):ia (eu g D)= .mk iW [] (fN g D) []:=by
 unfold ia qN Nq H7 fN;have h1:=h.g.ne;have h2:=h.a.ne;have h3:=h.v.ne;simp only[eu]at h1 h2 h3 ⊢;simp only[alS,if_false];rw[kU h1,kU h2,kU h3,Ce];unfold ly;by_cases e:D=[]<;>simp[e]
def aa4(h:PmW (eu g D)):rJ (ia (eu g D))= .ok (eu g D):=by
 rw[wQ h];have kg:de (.mk iW [] (fN g D) []) fb=[lf fb g.g]:=by unfold fN;by_cases e:D=[]<;>simp only[e,if_true,if_false]<;>rfl
 have ka:de (.mk iW [] (fN g D) []) eU=[lf eU g.a]:=by unfold fN;by_cases e:D=[]<;>simp only[e,if_true,if_false]<;>rfl
 have kv:de (.mk iW [] (fN g D) []) gX=[lf gX g.v]:=by unfold fN;by_cases e:D=[]<;>simp only[e,if_true,if_false]<;>rfl
 have kp:de (.mk iW [] (fN g D) []) yz=[]:=by unfold fN;by_cases e:D=[]<;>simp only[e,if_true,if_false]<;>rfl
 have kk:de (.mk iW [] (fN g D) []) Bd=[]:=by unfold fN;by_cases e:D=[]<;>simp only[e,if_true,if_false]<;>rfl
 have kr:de (.mk iW [] (fN g D) []) nu=[]:=by unfold fN;by_cases e:D=[]<;>simp only[e,if_true,if_false]<;>rfl
 have km:de (.mk iW [] (fN g D) []) ve=[]:=by unfold fN;by_cases e:D=[]<;>simp only[e,if_true,if_false]<;>rfl
 have kd:de (.mk iW [] (fN g D) []) n4=if D=[]then[]else[.mk n4 [] (D.map gm) []]:=by unfold fN;by_cases e:D=[]<;>simp only[e,if_true,if_false]<;>rfl
 have Tx:(Nd.mk iW [] (fN g D) []).nm=iW:=rfl;generalize Nd.mk iW [] (fN g D) []=X at*;unfold rJ;rw[Tx];have hp:yQ X iW= .ok (γ,⟨[],[],[]⟩):=by unfold yQ cW;rw[kp]
 have hr:ny X iW= .ok []:=by unfold ny cW;rw[kr]
 have hm:yP X iW= .ok []:=by unfold yP cW;rw[km]
 have hd:n7 X iW γ= .ok D:=by
  unfold n7 cW;rw[kd];by_cases e:D=[];rw[if_pos e,e]
  ·rw[if_neg e];dsimp only
   have hk:de (.mk n4 [] (D.map gm) []) nO=D.map gm:=F3 (by decide) λy hy=>by
    obtain⟨d,hd,rfl⟩:=alU.1 hy;rfl
   unfold pP;rw[hk,if_neg (by rw[ake];have:=h.len;simp only[eu]at this;omega)];dsimp only;rw[L3 D _ [] h.ft (L0 _ _ _),Th]
 rw[hp,hr,hm,hd];dsimp only;rw[lS kg h.g h.gl rfl];dsimp only;rw[lS ka h.a h.al rfl];dsimp only;rw[lS kv h.v h.vl rfl];dsimp only;rw[vF kk];rfl
def Gz(s:Bs)(h:(s.headD 0 |> nN)=Α:=by decide)(h2:s.all k9=Α:=by decide):DZ s:=⟨λe=>(by rw[e]at h;revert h;decide),h,aqq.1 h2⟩
def wR(hn:DZ n)(h:nG s):tu (lf n s):=by
 rw[lf,tu];exact⟨hn,rfl,rfl,by simp,.inl ⟨s,h,rfl⟩⟩
def o7:∀{K:List Nd},(∀x∈K,tu x)->Bq K
 | [],_=>trivial
 | x::K,h=>by rw[Bq];exact⟨h x (aga ..),o7 λy hy=>h y (akc _ hy)⟩
def qb{B:Nat}:∀{K:List Nd},(∀x∈K,fi x<=B)->cI K<=(Ζ K)*B
 | [],_=>by rw[cI];omega
 | x::K,h=>by
   have h1:=h x (aga ..);(have h2:=qb λy hy=>h y (akc (a:=y) x hy));rw[cI,abx,Nat.succ_mul];omega
def vG{B:Nat}:∀{K:List Nd},(∀x∈K,wP x<=B)->qp K<=B
 | [],_=>by rw[qp];omega
 | x::K,h=>by
   have h1:=h x (aga ..);(have h2:=vG λy hy=>h y (akc (a:=y) x hy));rw[qp];omega
def oH :fi (lf n s)=2:=by rw[lf,fi,nH,fi,cI]
def GY :wP (lf n s)=2:=by rw[lf,wP,Aw,wP,qp]
def Sy{i:iB}(h:nG i.g)(h2:nG i.a):jb i= .mk w9 [] [lf fb i.g,lf eU i.a] []:=by
 unfold jb;rw[kU h.ne,kU h2.ne];rfl
def GZ:DZ fb:=Gz _
def G3:DZ eU:=Gz _
def Og:DZ gX:=Gz _
def ae8{i:iB}(h:nG i.g)(h2:nG i.a):tu (jb i)/\fi (jb i)=5/\wP (jb i)=3:=by
 rw[Sy h h2];refine⟨?_,?_,?_⟩;rw[tu];exact⟨Gz _,rfl,rfl,by simp,.inr (o7 (by simp[wR GZ h,wR G3 h2]))⟩;rw[fi,cI,nH,oH,oH];rw[wP,qp,Aw,GY,GY];rfl
def Cf(h:Of d):∀x∈fV d,tu x/\fi x<=1+(Ζ d.x)*5+1/\wP x<=4:=by
 intro x hx;unfold fV at hx;have Oh:∀n s,DZ n->nG s->tu (lf n s)/\fi (lf n s)<=1+(Ζ d.x)*5+1/\wP (lf n s)<=4:=λn s hn hs=>⟨wR hn hs,by rw[oH];omega,by rw[GY];omega⟩
 rcases alQ.1 hx with hx | hx;rcases alQ.1 hx with hx | hx;rcases alQ.1 hx with hx | hx;simp only[ap2,aoT,or_false]at hx;rcases hx with rfl | rfl | rfl;exact Oh _ _ GZ h.g;exact Oh _ _ G3 h.a;exact Oh _ _ Og h.v;by_cases e:d.s=0;rw[if_pos e]at hx;cases hx;rw[if_neg e,akd]at hx;rw[hx];exact Oh _ _ (Gz _) (zm (h.s.resolve_left e)).2.2.1;by_cases e:d.o=1;rw[if_pos e,akd]at hx;rw[hx];exact Oh _ _ (Gz _) ⟨by decide,by decide⟩;rw[if_neg e]at hx;cases hx
 ·by_cases e:d.x=[];rw[if_pos e]at hx;cases hx
  ·rw[if_neg e,akd]at hx;rw[hx]
   have hm:∀y∈d.x.map jb,tu y/\fi y=5/\wP y=3:=λy hy=>by
    obtain⟨i,hi,rfl⟩:=alU.1 hy;exact ae8 (h.x i hi).1.1 (h.x i hi).2.1
   refine⟨?_,?_,?_⟩;rw[tu];exact⟨Gz _,rfl,rfl,λe2=>e (alO.1 e2),.inr (o7 λy hy=>(hm y hy).1)⟩;rw[fi];((have:=qb (B:=5) λy hy=>Nat.le_of_eq (hm y hy).2.1);rw[ake]at this;omega);rw[wP];(have:=vG (B:=3) λy hy=>Nat.le_of_eq (hm y hy).2.2);omega
def I6(d:Dp):(fV d).length<=6:=by
 unfold fV;by_cases h1:d.s=0<;>by_cases h2:d.o=1<;>by_cases h3:d.x=[]<;>simp[h1,h2,h3]
def L4(h:Of d):tu (gm d)/\fi (gm d)<=13+(Ζ d.x)*30/\wP (gm d)<=5:=by
 rw[EX h];refine⟨?_,?_,?_⟩;rw[tu];exact⟨Gz _,rfl,rfl,by unfold fV;simp,.inr (o7 λy hy=>(Cf h y hy).1)⟩;rw[fi];((have h1:=qb (B:=1+(Ζ d.x)*5+1) λy hy=>(Cf h y hy).2.1);have h2:=I6 d;have h3:(fV d).length*(1+(Ζ d.x)*5+1)<=6*(1+(Ζ d.x)*5+1):=ap4 _ h2;omega);rw[wP];(have:=vG (B:=4) λy hy=>(Cf h y hy).2.2);omega
def aa5(h:PmW (eu g D))(hx:∀d∈D,Ζ d.x<=1)(hl:Ζ D<=40):jF (cV (ia (eu g D)))= .ok (ia (eu g D)):=by
 have hD:∀y∈D.map gm,tu y/\fi y<=43/\wP y<=5:=λy hy=>by
  obtain⟨d,hd,rfl⟩:=alU.1 hy;obtain⟨h1,h2,h3⟩:=L4 (h.ft d hd);have:=hx d hd;exact⟨h1,by omega,h3⟩
 have hm:∀x∈fN g D,tu x/\fi x<=1+40*43+1/\wP x<=6:=by
  intro x hx;unfold fN at hx;(((have Oh:∀n s,DZ n->nG s->tu (lf n s)/\fi (lf n s)<=1+40*43+1/\wP (lf n s)<=6:=λn s hn hs=>⟨wR hn hs,by rw[oH];omega,by rw[GY];omega⟩);rcases alQ.1 hx with hx | hx);simp only[ap2,aoT,or_false]at hx;rcases hx with rfl | rfl | rfl;exact Oh _ _ GZ h.g;exact Oh _ _ G3 h.a;exact Oh _ _ Og h.v);by_cases e:D=[];rw[if_pos e]at hx;cases hx;rw[if_neg e,akd]at hx;rw[hx];refine⟨?_,?_,?_⟩;rw[tu];exact⟨Gz _,rfl,rfl,λe2=>e (alO.1 e2),.inr (o7 λy hy=>(hD y hy).1)⟩;rw[fi];((have h1:=qb (B:=43) λy hy=>(hD y hy).2.1);rw[ake]at h1;have:(Ζ D)*43<=40*43:=ap4 _ hl;omega);rw[wP];(have:=vG (B:=5) λy hy=>(hD y hy).2.2);omega
 rw[wQ h]
 have hc:cI (fN g D)<=6+(1+40*43):=by
  have hs:cI (fN g D)=6+cI (if D=[]then[]else[.mk n4 [] (D.map gm) []]):=by
   unfold fN;rw[Ca,Ca,Ca,Th,cI,cI,cI,oH,oH,oH];omega
  rw[hs];by_cases e:D=[];rw[if_pos e,cI];omega;rw[if_neg e,nH,fi];(have h1:=qb (B:=43) λy hy=>(hD y hy).2.1);rw[ake]at h1;have:(Ζ D)*43<=40*43:=ap4 _ hl;omega
 exact Oe (Gz _) (by unfold fN;simp) (o7 λx hx=>(hm x hx).1) (by omega) (alR (vG (B:=6) λx hx=>(hm x hx).2.2) (by decide))
def si{B:Nat}:∀{K:List Nd},(∀x∈K,(cV x).length<=B)->(bf K).length<=(Ζ K)*B
 | [],_=>by rw[bf];simp
 | x::K,h=>by
   have h1:=h x (aga ..);(have h2:=si λy hy=>h y (akc (a:=y) x hy));rw[bf,akb,abx,Nat.succ_mul];omega
def lh{k:List Nd}(hn:n≠[])(hk:k≠[]):(cV (.mk n [] k [])).length=2*(Ζ n)+5+(bf k).length:=by
 rw[Cd hn hk];simp only[akb,abx,Ti];omega
def sj(hn:n≠[])(h:nG s):(cV (lf n s)).length=2*(Ζ n)+5+Ζ s:=by
 rw[lf,lh hn (by simp),lG,cV,if_pos rfl,I2 h.all]
structure ae9(g:Gv)(D:List Dp):Prop where
 g:Ζ g.g<=64/\(Ζ g.a)<=64/\(Ζ g.v)<=64
 d:∀d∈D,Ζ d.g<=64/\(Ζ d.a)<=64/\(Ζ d.v)<=64/\(Ζ d.x)<=1/\∀i∈d.x,Ζ i.g<=64/\(Ζ i.a)<=64
 n:Ζ D<=40
def aa6{i:iB}(h:nG i.g)(h2:nG i.a)(hl:Ζ i.g<=64/\(Ζ i.a)<=64):(cV (jb i)).length<=200:=by
 rw[Sy h h2,lh (by decide) (by simp),bf,lG,akb,sj (by decide) h,sj (by decide) h2];simp only[abx,Ti];omega
def Wd(h:Of d)(hl:Ζ d.g<=64/\(Ζ d.a)<=64/\(Ζ d.v)<=64/\(Ζ d.x)<=1/\∀i∈d.x,Ζ i.g<=64/\(Ζ i.a)<=64):(cV (gm d)).length<=1400:=by
 obtain⟨l1,l2,l3,l4,l5⟩:=hl
 have hb:∀x∈fV d,(cV x).length<=225:=by
  intro x hx;unfold fV at hx;rcases alQ.1 hx with hx | hx;rcases alQ.1 hx with hx | hx;rcases alQ.1 hx with hx | hx;simp only[ap2,aoT,or_false]at hx;rcases hx with rfl | rfl | rfl;rw[sj (by decide) h.g];simp only[abx,Ti];omega;rw[sj (by decide) h.a];simp only[abx,Ti];omega;rw[sj (by decide) h.v];simp only[abx,Ti];omega;by_cases e:d.s=0;rw[if_pos e]at hx;cases hx;rw[if_neg e,akd]at hx;rw[hx,sj (by decide) (zm (h.s.resolve_left e)).2.2.1];rcases h.s.resolve_left e with e | e | e | e | e<;>rw[e]<;>decide;by_cases e:d.o=1;rw[if_pos e,akd]at hx;rw[hx];decide;rw[if_neg e]at hx;cases hx
  ·by_cases e:d.x=[];rw[if_pos e]at hx;cases hx
   ·rw[if_neg e,akd]at hx
    have h1:=si (B:=200) (K:=d.x.map jb) λy hy=>by
     obtain⟨i,hi,rfl⟩:=alU.1 hy;exact aa6 (h.x i hi).1.1 (h.x i hi).2.1 (l5 i hi)
    rw[ake]at h1;rw[hx,lh (by decide) (λe2=>e (alO.1 e2))];simp only[abx,Ti];omega
 have h1:=si hb;have h2:=I6 d;have h3:(fV d).length*225<=6*225:=ap4 _ h2;rw[EX h,lh (by decide) (by unfold fV;simp)];simp only[abx,Ti];omega
def aa7(h:PmW (eu g D))(hs:ae9 g D):(cV (ia (eu g D))).length<=65536:=by
 obtain⟨l1,l2,l3⟩:=hs.g
 have h1:=si (B:=1400) (K:=D.map gm) λy hy=>by
  obtain⟨d,hd,rfl⟩:=alU.1 hy;exact Wd (h.ft d hd) (hs.d d hd)
 rw[ake]at h1;have h2:(Ζ D)*1400<=40*1400:=ap4 _ hs.n
 have h3:(bf (if D=[]then[]else[.mk n4 [] (D.map gm) []])).length<=56100:=by
  by_cases e:D=[];rw[if_pos e,bf];simp;rw[if_neg e,lG,lh (by decide) (λe2=>e (alO.1 e2))];simp only[abx,Ti];omega
 rw[wQ h,lh (by decide) (by unfold fN;simp)]
 have hs:bf (fN g D)=cV (lf fb g.g)++(cV (lf eU g.a)++(cV (lf gX g.v)++bf (if D=[]then[]else[.mk n4 [] (D.map gm) []]))):=by
  unfold fN;rw[Ca,Ca,Ca,Th,bf,bf,bf]
 have hg:(cV (lf fb g.g)).length=_:=sj (by decide) h.g;have ha:(cV (lf eU g.a)).length=_:=sj (by decide) h.a;have hv:(cV (lf gX g.v)).length=_:=sj (by decide) h.v;rw[hs,akb,akb,akb,hg,ha,hv];have e1:Ζ fb=7:=rfl;have e2:Ζ eU=10:=rfl;have e3:Ζ gX=7:=rfl;have e4:Ζ iW=7:=rfl;omega
structure Br where
 up:Int
 dp:Int
 od:Int
 k:Ky
 v:Bs
 sc:Int
 rd:Bool
def mu(k:Ky):iB:=⟨k.g,k.a⟩
def uj(b:Br):Gv:=⟨b.k.g,b.k.a,b.v⟩
abbrev tC:=List Br×List (List iB)
def zp(N:List Br)(p:Nat->Bool):Nat->Int->Bool
 | 0,_=>γ
 | f+1,i=>if i<0 then γ else p i.toNat||match N[i.toNat]? with
   | none=>γ
   | some b=>zp N p f b.up
def uk(i:Nat)(b:Br)(n:rQ):Int:=if i=0 then n.s else if n.o then 0 else QA b.sc n.s
def Oi(S:tC)(i:Nat)(x:iB):Bool:=zp S.1 (λk=>(S.2.getD k []).any (FI · x)) (i+1) i
def D3(S:tC)(i:Nat)(x:iB):Bool:=zp S.1 (λk=>match S.1[k]? with
    | none=>γ
    | some b=>mu b.k==x) (i+1) i
def ajH(S:tC)(i:Nat)(b:Br)(od:Nat)(n:rQ):tC:=(S.1++[⟨i,b.dp+1,od,n.k,n.v,uk i b n,D3 S i (mu n.k)⟩],S.2++[n.x])
def Cg(S:tC)(i:Nat)(b:Br)(od:Nat)(n:rQ):Option tC:=
 if uk i b n=0\/Oi S i (mu n.k)=Α then φ S
 else if 4096<=(Ζ S.1) then Β
 else φ (ajH S i b od n)
def Ax(i:Nat)(b:Br):List rQ->Nat->tC->Option tC
 | [],_,S=>φ S
 | n::l,od,S=>match Cg S i b od n with
   | none=>Β
   | some S'=>Ax i b l (od+1) S'
def Ci(ms:Gv->Option (List rQ)):Nat->Nat->tC->Option (Option (List Br))
 | 0,_,_=>Β
 | f+1,i,S=>match S.1[i]? with
   | none=>φ (φ S.1)
   | some b=>if b.rd then Ci ms f (i+1) S else match ms (uj b)with
     | none=>Β
     | some l=>match Ax i b l 0 S with
       | none=>φ Β
       | some S'=>Ci ms f (i+1) S'
def Cj(g:Gv):Br:=⟨-1,0,0,⟨g.g,g.a,mX,[]⟩,g.v,0,γ⟩
def Ck(ms:Gv->Option (List rQ))(g:Gv):Option (Option (List Br)):=Ci ms 5000 0 ([Cj g],[[]])
def jL(S:List (Gv×List Dp))(g:Gv):Option (List rQ):=(S.find? (·.1==g)).map λp=>p.2.map gQ
def Ups(N:List Br):Prop:=∀(i:Nat)(b:Br),N[i]?=φ b-> -1<=b.up/\b.up<(i:Int)/\0<=b.dp/\b.dp<=(i:Int)
def gS:Bs:=[103]
def v1:Bs:=[49]
def xC(a v:Bs)(s:Int):Dp:=⟨gS,a,v,[],[],s,0,[]⟩
section
variable(f:Nat->Bs)
end
variable{f:Nat->Bs}
section
variable(p:Nat->Nat->Bs)(rt:Bs)(w:Nat)
end
section
variable{p:Nat->Nat->Bs}{rt:Bs}{w:Nat}
end
def aV:=WT du<|WT amx<|WT amw<|WT HV<|WT T48<|WT aiM<|WT HW<|WT FE<|WT aiL<|WT T72<|WT T46<|WT Eo<|WT Qs<|WT T40<|WT Da Qq
def oI(b:Br):Η:=[mi b.up,mi b.dp,mi b.od]++iP b.k++[.s b.v]++ze (γ,b.v,[]) .au++[mi b.sc,mb b.rd]
def oq(b:Br):(oI b).length=13:=rfl
def ae_(L:List Br):dz (L.flatMap oI)=L.flatMap oI:=lx (λx=>by simp only[oI,iP,ze,Ca,Th,aq,bB,wu,Ti,af_]) L
def Cl(x:List iB):Η:=[.l (Ζ x) (x.flatMap cM) .au]
def SA(x:List iB):(Cl x).length=1:=rfl
def SB(L:List (List iB)):dz (L.flatMap Cl)=L.flatMap Cl:=lx (λx=>by simp only[Cl,wu,pO]) L
def afa(k:Ky)(O:VH):VF Ε 106 [.agg (iP k)] O (aH λm O'=>m= .agg (cM (mu k))/\O.Ge O'):=by
 obtain⟨k1,k2,k3,k4⟩:=k;simp only[iP,cM,mu];refine ω 8 [.cell 2 150] func106 ?_;refine κ aV ?_;refine VC.gen ?_;intro O1 e1;obtain⟨aK,dd,cJ,cC⟩:=iY _ _ e1;clear e1;refine θ (aE aV cJ cC ?_);refine ν aV ?_;exact aK.set (by omega) _
def ah4(b:Br)(O:VH):VF Ε 92 [.agg (oI b)] O (aH λm O'=>m= .agg (cD (uj b))/\O.Ge O'):=by
 obtain⟨up,dp,od,⟨k1,k2,k3,k4⟩,v,sc,rd⟩:=b;simp only[oI,iP,ze,cD,uj,aq,bB,Ca,Th,Ti,af_];refine ω 12 [.cell 2 60] func92 ?_;refine κ aV ?_;refine VC.gen ?_;intro O1 e1;obtain⟨aK,dd,cJ,cC⟩:=iY _ _ e1;clear e1;refine θ (aE aV cJ cC ?_);refine ν aV ?_;exact aK.set (by omega) _
structure vH(O:VH)(tb k bb mm:Nat)(g:Gv)(S:tC)(t1 t2:Tok)(B:Nat):Prop where
 cell:O.hp tb=φ (.cells ([.p k 0,.p bb 0]++cD g++[.map mm,.l (Ζ S.1) (S.1.flatMap oI) t1,.l (Ζ S.2) (S.2.flatMap Cl) t2]))
 map:O.hp mm=φ (.map (db []) 0)
 a1:App O B 13 t1
 a2:App O B 1 t2
 ne:∀i,Tok.id t1=φ i->Tok.id t2≠φ i
 lt:tb<O.N/\mm<O.N
 len:Ζ S.1=Ζ S.2
 up:Ups S.1
def vH.ge{S:tC}(h:vH O tb k bb mm g S t1 t2 B)(u:O.Ge O'):vH O' tb k bb mm g S t1 t2 B:=
 ⟨(u.hp _ h.lt.1).trans h.cell,(u.hp _ h.lt.2).trans h.map,h.a1.ge u,h.a2.ge u,h.ne,⟨aka h.lt.1 u.N,aka h.lt.2 u.N⟩,h.len,h.up⟩
def I7(n:rQ):Prop:=Ζ n.k.g<=100000/\(Ζ n.k.a)<=100000/\(Ζ n.k.t)<=100000/\(Ζ n.k.c)<=100000
def I7.key{n:rQ}(h:I7 n):∀s∈dK n.k,Ζ s<=maxLen:=by
 obtain⟨h1,h2,h3,h4⟩:=h;intro s hs;simp only[dK,ap2,aoT,or_false]at hs;simp only[maxLen];rcases hs with rfl | rfl | rfl | rfl<;>omega
abbrev ajI:Η:=[.s [],.s [],.s [],.s [],.s [],.v (Ι Κ 0),.v (Ι Κ 0),.l 0 [] .nil]
def EY(N:Nat):pL N []:=⟨by simp,by simp⟩
def aa8{S:tC}(h:vH O tb k bb mm g S t1 t2 B){b:Br}(hb:S.1[i]?=φ b)(n:rQ)(hn:I7 n):
  VF Ε 107 [.p tb 0,mi i,.agg (eZ n)] O (aH λm O'=>m=mi (uk i b n)/\O.Ge O'):=by
 have BY:=hn.key;have bG:(S.1.flatMap oI)[i*13+11]?=φ (mi b.sc):=by simpa using lD (sp:=[]) oq hb (i:=11) rfl
 have RN:=(YI.1 hb).1;have hc:=h.cell;have dm:=h.lt;have hTg:=λ(O':VH)(u:O.Ge O')=>h.ge u
 unfold uk;obtain⟨⟨k1,k2,k3,k4⟩,v,s,o,x⟩:=n;dsimp only;simp only[eZ,iP,ze,cD,aq,bB,Ca,Th,Ti,af_]at hc bG ⊢;refine ω 39 [.tmp 6] func107 ?_;refine κ aV ?_;refine VC.bx ?_;rintro O1 ⟨aK,eS,dd⟩;by_cases hi:i=0
 ·have tR:((i:Int)==0)=Α:=by simpa using hi
  rw[if_pos hi];refine θ (aE aV tR eS ?_);exact aK
 rw[if_neg hi];have tR:((i:Int)==0)=γ:=by simpa using hi
 refine ξ aV tR ?_;cases o;rotate_left;rw[if_pos rfl];refine ξ aV eS ?_;exact aK;rw[if_neg (by decide)];refine ξ aV eS ?_;refine ξ aV eS ?_;have h1:=hTg O1 aK;have fK:=h1.cell;simp only[cD,Ca,Th]at fK;refine Γ (Γ ?_);refine WC.bW (.held [8]) [(0,.rd),(1,.rd),(2,.rd),(3,.rd),(4,.rd),(5,.rd),(6,.rd),(7,.one),(8,.one)] ?_;refine aE aV fK eS ?_;refine VL.hold (.inr rfl) rfl rfl (gJ.lV qD aa (l:=dK ⟨k1,k2,k3,k4⟩) (te:=⟨_,8,120,ajI⟩) Tryz.underlying209 Eo.1.1 rfl rfl h1.map (EY 4) rfl rfl BY) (WL.sound aa ?_);rw[show jC (dK ⟨k1,k2,k3,k4⟩) ([]:gI)=Β from rfl];refine ae aV ?_;refine VC.al ?_;rintro O2 ⟨aC,jY,fc⟩;have gy:=aK.trans aC;have jm:=(hTg O2 gy).cell;simp only[cD,Ca,Th]at jm;refine ο aV jY ?_;refine θ (aE aV jm bG ?_);refine τ (aak b.sc s _) ?_;rintro _ O3 ⟨rfl,e3⟩;rw[e3];refine ae aV ?_;refine ν aV ?_;exact gy
def aa9{S:tC}(h:vH O tb k bb mm g S t1 t2 B)(i:Nat)(n:rQ)(hn:I7 n):
  VF Ε 113 [.p tb 0,mi i,.agg (eZ n)] O (aH λm O'=>m= .agg (ze (γ,n.v,[]) .au)/\O.Ge O'):=by
 have BY:=hn.key;have hTg:=λ(O':VH)(u:O.Ge O')=>h.ge u
 obtain⟨⟨k1,k2,k3,k4⟩,v,s,o,x⟩:=n;dsimp only;simp only[eZ,iP,ze,aq,bB,Ca,Th,Ti,af_];refine ω 33 [.cell 6 46] func113 ?_;refine κ aV ?_;refine VC.gen ?_;intro O1 e1;obtain⟨aK,dd,eS,lK⟩:=iY _ _ e1;clear e1;have h1:=hTg O1 aK;have fK:=h1.cell;simp only[cD,Ca,Th]at fK;refine Γ (Γ ?_);refine WC.bW (.held [8]) [(0,.rd),(1,.rd),(2,.rd),(3,.rd),(4,.rd),(5,.rd),(6,.rd),(7,.one),(8,.one)] ?_;refine aE aV fK eS ?_;refine VL.hold (.inr rfl) rfl rfl (gJ.lV qD aa (l:=dK ⟨k1,k2,k3,k4⟩) (te:=⟨_,8,120,ajI⟩) Tryz.underlying209 Eo.1.1 rfl rfl h1.map (EY 4) rfl rfl BY) (WL.sound aa ?_);rw[show jC (dK ⟨k1,k2,k3,k4⟩) ([]:gI)=Β from rfl];refine ae aV ?_;refine VC.al ?_;rintro O2 ⟨aC,jY,fc⟩;have gy:=aK.trans aC;have SC:=aC.at eS;have ajJ:=aC.at lK;by_cases hi:(i:Int)>0;have tR:decide ((i:Int)>0)=Α:=decide_eq_true hi;have cn:decide (0<(i:Int))=Α:=decide_eq_true hi;refine ι (cB aV jY tR cn ?_);refine θ (aE aV SC ajJ ?_);refine ν aV ?_;exact gy.set (by omega) _;have tR:decide ((i:Int)>0)=γ:=decide_eq_false hi;have cn:decide (0<(i:Int))=γ:=decide_eq_false hi;refine ι (cB aV jY tR cn ?_);refine θ (aE aV SC ajJ ?_);refine ν aV ?_;exact gy.set (by omega) _
section
variable{n:Sz}{D:List Deferred}{e:Env}{P:Program}{tab:cL}{O:VH}{ops:Array Oper}{Q:VQ}
end
def ah5(L:List iB)(tk:Tok)(id:FuncId)(cs:Η)(p:iB->Bool)(O:VH)(hid:dA Ε id=Α)(hc:∀x∈L,∀O',O.Ge O'->VF Ε id ([.agg (cM x)]++cs) O' (aH λm n5=>m=mb (p x)/\O'.Ge n5))(hn:Ζ L<=1000000):
  VF Ε 142 [.l (Ζ L) (L.flatMap cM) tk,.func (.func id) [] cs] O (aH λm O'=>m=mi (idxFrom p 0 L)/\O.Ge O'):=by
 have dD:=bk pN L;refine Υ 19 [.tmp 4] func142 ?_;refine ae aV ?_;refine WC.kh [8] [0,1,7] (λj:Nat=>[mi j]) (λj O'=>O.Ge O'/\j<=(Ζ L)/\idxFrom p 0 L=idxFrom p j (L.drop j)) (λj=>(Ζ L) - j) (0) ?_ ?_;exact⟨VH.Ge.refl _,aqg _,rfl⟩;rintro j O2 ⟨aC,hj,dw⟩;by_cases h2:j<Ζ L;have bG:=c9 pN L j h2;have JY:=hc L[j] (ap_ h2) O2 aC;rw[aqb h2,idxFrom]at dw;generalize L[j]=y at*;refine ao aV bG ?_;refine τ JY ?_ (hb:=hid);rintro _ O3 ⟨rfl,aJ⟩;cases hi:p y;rw[hi]at dw;refine ae aV ?_;exact az.N (j+1) ⟨aC.trans aJ,by omega,dw⟩;rw[hi,if_pos rfl]at dw;rw[dw];refine ae aV ?_;exact aC.trans aJ
 ·obtain rfl:j=Ζ L:=by omega
  rw[List.drop_of_length_le (by omega)]at dw;rw[dw];refine ae aV ?_;exact⟨rfl,aC⟩
def ah6(L:List iB)(tk:Tok)(id:FuncId)(cs:Η)(p:iB->Bool)(O:VH)(hid:dA Ε id=Α)(hc:∀x∈L,∀O',O.Ge O'->VF Ε id ([.agg (cM x)]++cs) O' (aH λm n5=>m=mb (p x)/\O'.Ge n5))(hn:Ζ L<=1000000):
  VF Ε 110 [.l (Ζ L) (L.flatMap cM) tk,.func (.func id) [] cs] O (aH λm O'=>m=mb (L.any p)/\O.Ge O'):=by
 rw[<-Il p L 0];refine Υ 9 [.tmp 4] func110 ?_;refine ae aV ?_;refine τ (ah5 L tk id cs p O hid hc hn) ?_;rintro _ O2 ⟨rfl,aC⟩;refine ae aV ?_;exact aC
def ah7(q x:iB)(k:Nat)(O:VH)(hk:O.hp k=φ (.cells (cM x)))(BJ:k<O.N):VF Ε 111 ([.agg (cM q)]++[.p k 0]) O (aH λm O'=>m=mb (FI q x)/\O.Ge O'):=by
 have hm:=λO'=>UL q x O'
 obtain⟨q1,q2⟩:=q;obtain⟨x1,x2⟩:=x;simp only[cM]at hm hk ⊢;show VF _ _ [.agg [.s q1,.s q2],.p k 0] _ _;refine ω 7 [.tmp 3] func111 ?_;refine κ aV ?_;refine VC.bx ?_;rintro O1 ⟨aK,eS,dd⟩;have cK:=(aK.hp k BJ).trans hk;refine θ (aE aV eS cK ?_);refine τ (hm O1) ?_;rintro _ O2 ⟨rfl,aC⟩;refine ae aV ?_;refine ν aV ?_;exact aK.trans aC
def alo{S:tC}(h:vH O tb k bb mm g S t1 t2 B){x:iB}(ha:O.hp ba=φ (.cells [.p tb 0]))(hx:O.hp bx=φ (.cells (cM x)))(kX:ba<O.N)(AH:bx<O.N)(hi:i<Ζ S.2)(hX:∀y∈S.2,Ζ y<=1000000):
  VF Ε 109 ([mi i]++[.p ba 0,.p bx 0]) O (aH λm O'=>m=mb ((S.2.getD i []).any (FI · x))/\O.Ge O'):=by
 have hg:S.2[i]?=φ S.2[i]:=agc hi;have bG:(S.2.flatMap Cl)[i*1+0]?=φ (.l S.2[i].length (S.2[i].flatMap cM) .au):=by simpa using lD (sp:=[]) SA hg (i:=0) rfl
 rw[aqa,hg,Option.getD_some];have hyl:=hX _ (ap_ hi);generalize S.2[i]=Y at*;have hc:=h.cell;obtain⟨g1,g2,g3⟩:=g;simp only[cD,Ca,Th]at hc;show VF _ _ [mi i,.p ba 0,.p bx 0] _ _;simp only[aq];refine ω 14 [.tmp 4] func109 ?_;refine κ aV ?_;have an4:(S.2.flatMap Cl)[i]?=φ (.l (Ζ Y) (Y.flatMap cM) .au):=by simpa using bG
 refine θ (cB aV ha hc an4 ?_);refine τ (ah6 Y .au 111 [.p bx 0] (FI · x) O (by kernel_rfl) (λq _ O' u=>ah7 q x bx O' ((u.hp _ AH).trans hx) (aka AH u.N)) hyl) ?_;rintro _ O2 ⟨rfl,aC⟩;refine ae aV ?_;refine ν aV ?_;exact aC
def alp{S:tC}(h:vH O tb k bb mm g S t1 t2 B){x:iB}(ha:O.hp ba=φ (.cells [.p tb 0]))(hx:O.hp bx=φ (.cells (cM x)))(kX:ba<O.N)(AH:bx<O.N){b:Br}(hb:S.1[i]?=φ b):
  VF Ε 117 ([mi i]++[.p ba 0,.p bx 0]) O (aH λm O'=>m=mb (mu b.k==x)/\O.Ge O'):=by
 have bG:((S.1.flatMap oI).drop (i*13+3)).take 4=iP b.k:=by
  obtain⟨hi,e⟩:=YI.1 hb;have h1:=c9 oq S.1 i hi;rw[e]at h1;have h2:=congrArg (λl=>(l.drop 3).take 4) h1;simp only[List.drop_take,List.take_take,List.drop_drop]at h2;exact h2
 have afb:=(YI.1 hb).1;have Yk:=bk oq S.1;have hc:=h.cell;have IQ:=λO'=>afa b.k O'
 generalize b.k=K at*;obtain⟨k1,k2,k3,k4⟩:=K;obtain⟨x1,x2⟩:=x;obtain⟨g1,g2,g3⟩:=g;simp only[cD,iP,cM,mu,Ca,Th]at hc bG hx IQ;show VF _ _ [mi i,.p ba 0,.p bx 0] _ _;simp only[aq];refine ω 16 [.tmp 4] func117 ?_;refine κ aV ?_;refine Γ ?_;refine VC.Dr [10,11] (tb) (λO'=>O'.hp ba=φ (.cells [.p tb 0])/\O'.hp bx=φ (.cells [.s x1,.s x2])) (hc) (λX=>⟨(π _ _ (λe=>by rw[e,hc]at ha;cases ha)).trans ha,(π _ _ (λe=>by rw[e,hc]at hx;cases hx)).trans hx⟩) ?_;intro X;refine ε (m:=.p tb 0) 0 ?_ ?_;rintro O2 ⟨j0,j1,j2⟩;exact eD aV j1;simp only[ak];refine ρ 1 aV ?_;refine ρ 2 aV ?_;refine aqK (m:=.l (Ζ S.1) (S.1.flatMap oI) t1) 3 (λ_ h=>h.1) (λ_ h=>h) ?_ ?_;exact ff aV;simp only[ak];refine ρ 4 aV ?_;refine ρ 5 aV ?_;refine ρ 6 aV ?_;refine ε (m:=.agg [.s k1,.s k2,.s k3,.s k4]) 7 ?_ ?_;rintro O2 ⟨j0,j1,j2⟩;exact eD aV bG;simp only[ak];refine ε (m:=.agg [.s x1,.s x2]) 9 ?_ ?_;rintro O2 ⟨j0,j1,j2⟩;exact eD aV j2;simp only[ak];have Yg:ba≠tb:=λe=>by rw[e,hc]at ha;cases ha
 have Yh:bx≠tb:=λe=>by rw[e,hc]at hx;cases hx
 have apE:=h.lt.1;have hO1:(O.set tb (.obj X)).N=O.N:=rfl;have cA:(O.set tb (.obj X)).hp tb=φ (.obj X)/\(O.set tb (.obj X)).hp ba=φ (.cells [.p tb 0])/\(O.set tb (.obj X)).hp bx=φ (.cells [.s x1,.s x2]):=⟨υ _ _ _,(π _ _ Yg).trans ha,(π _ _ Yh).trans hx⟩;have gh:∀i,i≠tb->(O.set tb (.obj X)).hp i=O.hp i:=λi hi=>π _ _ hi
 generalize O.set tb (.obj X)=O1 at*;refine ab.call (i:=8) (IQ O1) ?_;rintro _ O2 ⟨rfl,aC⟩;simp only[ak];refine⟨⟨aC.at cA.1,aC.at cA.2.1,aC.at cA.2.2⟩,?_⟩;refine ab.lA [(10,.bh),(11,.bh)] ?_;refine ae aV ?_;refine VL.HK aa (bb:=(k1==x1)&&((k2==x2)&&Α)) (b:=(k1==x1)&&((k2==x2)&&Α)) (by simp) (by simp) (.inl ⟨rfl,rfl⟩) (by kernel_rfl) (by kernel_rfl) rfl rfl rfl rfl ?_;refine ae aV ?_;refine ν aV ?_;refine⟨?_,⟨by show _<=O2.N;have:=aC.N;omega,λi hi=>?_⟩⟩
 ·(congr 2);rw[aql];simp[mu]
 ·by_cases e:i=tb;subst e;rw[υ];exact hc.symm;rw[π _ _ e,aC.hp i (by omega),gh i e]
def SD{S:tC}(h:vH O tb k bb mm g S t1 t2 B){id:FuncId}(p:Nat->Bool)(hid:dA Ε id=Α)(hc:∀j,j<(Ζ S.1)->∀O',O.Ge O'->VF Ε id ([mi j]++cs) O' (aH λm n5=>m=mb (p j)/\O'.Ge n5))(hi:i<Ζ S.1):
  VF Ε 108 [.p tb 0,mi i,.func (.func id) [] cs] O (aH λm O'=>m=mb (zp S.1 p (i+1) i)/\O.Ge O'):=by
 have mT:=h.up;have hTg:=λ(O':VH)(u:O.Ge O')=>h.ge u
 have Yk:=bk oq S.1;generalize hZ:zp S.1 p (i+1) i=Z;refine Υ 20 [.tmp 6] func108 ?_;refine ae aV ?_;refine WC.kh [1] [0,2] (λx:Int×Nat=>[mi x.1]) (λx O'=>O.Ge O'/\ -1<=x.1/\x.1<(Ζ S.1)/\x.1<x.2/\Z=zp S.1 p x.2 x.1) (λx=>(x.1+1).toNat) (((i:Int),i+1)) ?_ ?_;exact⟨VH.Ge.refl _,by dsimp only;omega,by dsimp only;omega,by dsimp only;omega,hZ.symm⟩;rintro⟨j,f⟩ O2 ⟨aC,h1,h2,h3,dw⟩;dsimp only at h1 h2 h3 dw ⊢;by_cases hj:j>=0;rotate_left
 ·have hd:decide (j>=0)=γ:=decide_eq_false hj;have kW:decide (0<=j)=γ:=decide_eq_false hj
  have hf:zp S.1 p f j=γ:=by
   cases f;rfl;unfold zp;rw[if_pos (by omega)]
  rw[dw,hf];refine aE aV hd kW ?_;exact aC
 have hd:decide (j>=0)=Α:=decide_eq_true hj;have kW:decide (0<=j)=Α:=decide_eq_true hj;obtain⟨m,rfl⟩:∃m:Nat,j=m:=⟨j.toNat,by omega⟩
 obtain⟨f,rfl⟩:∃f',f=f'+1:=⟨f - 1,by omega⟩
 have hm:m<Ζ S.1:=by omega
 have hb:S.1[m]?=φ S.1[m]:=agc hm;have hu:=mT m _ hb;have bG:(S.1.flatMap oI)[m*13]?=φ (mi S.1[m].up):=by simpa using lD (sp:=[]) oq hb (i:=0) rfl
 have hcm:=hc m hm O2 aC;rw[zp,if_neg (by omega),aqm,hb]at dw;dsimp only at dw;generalize S.1[m].up=u at*;simp only[aq]at bG hcm;refine aE aV hd kW ?_;refine τ hcm ?_ (hb:=hid);rintro _ O3 ⟨rfl,aJ⟩;have fw:=(hTg O3 (aC.trans aJ)).cell;simp only[cD,Ca,Th]at fw;cases hp:p m;rw[hp,Bool.false_or]at dw;refine aE aV fw bG ?_;exact az.N (u,f) ⟨aC.trans aJ,hu.1,by dsimp only;omega,by dsimp only;omega,dw⟩;rw[hp,Bool.true_or]at dw;rw[dw];refine ae aV ?_;exact aC.trans aJ
abbrev oJ:Η:=[.v (Ι Κ 0),.v (Ι Κ 0),.v (Ι Κ 0),.s [],.s [],.s [],.s [],.s [],.v (.bool γ),.s [],.l 0 [] .nil,.v (Ι Κ 0),.v (.bool γ)]
def afc(g:Gv):Prb:=⟨2,g,0,0,0,[116,114,101,101]⟩
def ah8{S:tC}(h:vH O tb k bb mm g S t1 t2 B)(hB:B<=O.N){b:Br}(hb:S.1[i]?=φ b)(od:Nat)(n:rQ)(hn:I7 n)(hX:∀y∈S.2,Ζ y<=1000000)(hl:Ζ S.1<=4096):
  VF Ε 94 [.p tb 0,mi i,mi od,.agg (eZ n)] O (aH λm O'=>match Cg S i b od n with
   | none=>m= .agg (pf (afc g))/\O.Ge O'
   | some S'=>m= .agg (pf jd)/\∃t1' t2',vH O' tb k bb mm g S' t1' t2' B/\O.N<=O'.N/\∀j,j<O.N->j≠tb->Tok.id t1≠φ j->Tok.id t2≠φ j->O'.hp j=O.hp j):=by
 have afb:=(YI.1 hb).1;have hlen:=h.len;have dm:=h.lt;have We:=λ(O':VH)(u:O.Ge O')=>aa8 (h.ge u) hb n hn
 have EB:=λ(O':VH)(u:O.Ge O')=>aa9 (h.ge u) i n hn
 have IQ:=λO'=>afa n.k O'
 have hex:=λ(O':VH)(u:O.Ge O')(ba bx:Nat)(ha:O'.hp ba=φ (.cells [.p tb 0]))(hx:O'.hp bx=φ (.cells (cM (mu n.k))))(kX:ba<O'.N)(AH:bx<O'.N)=>
  SD (h.ge u) (id:=109) (cs:=[.p ba 0,.p bx 0]) (λj=>(S.2.getD j []).any (FI · (mu n.k))) (by kernel_rfl) (λj hj O2 u2=>alo (h.ge (u.trans u2)) ((u2.hp _ kX).trans ha) ((u2.hp _ AH).trans hx) (aka kX u2.N) (aka AH u2.N) (by rw[<-hlen];exact hj) hX) afb
 have Oj:=λ(O':VH)(u:O.Ge O')(ba bx:Nat)(ha:O'.hp ba=φ (.cells [.p tb 0]))(hx:O'.hp bx=φ (.cells (cM (mu n.k))))(kX:ba<O'.N)(AH:bx<O'.N)=>
  SD (h.ge u) (id:=117) (cs:=[.p ba 0,.p bx 0]) (λj=>match S.1[j]? with
   | none=>γ
   | some b=>mu b.k==mu n.k) (by kernel_rfl) (λj hj O2 u2=>by
     have:=alp (h.ge (u.trans u2)) ((u2.hp _ kX).trans ha) ((u2.hp _ AH).trans hx) (aka kX u2.N) (aka AH u2.N) (agc hj);rw[agc hj];exact this) afb
 have cj:=h.cell;have Kq:=h.map;have cJ:=h.a1;have fy:=h.a2;have hne:=h.ne;have mT:=h.up;have Ds:(S.1.flatMap oI)[i*13+1]?=φ (mi b.dp):=by simpa using lD (sp:=[]) oq hb (i:=1) rfl
 have Yk:=bk oq S.1;have ph:=bk SA S.2;have xg:=ae_ S.1;have uZ:=SB S.2;have hE:Cg S i b od n=if uk i b n=0\/Oi S i (mu n.k)=Α then φ S else if 4096<=(Ζ S.1) then Β else φ (S.1++[⟨i,b.dp+1,od,n.k,n.v,uk i b n,D3 S i (mu n.k)⟩],S.2++[n.x]):=rfl
 rw[hE];clear hE;have ajK:Oi S i (mu n.k)=zp S.1 (λj=>(S.2.getD j []).any (FI · (mu n.k))) (i+1) i:=rfl
 have ajL:D3 S i (mu n.k)=zp S.1 (λj=>match S.1[j]? with
   | none=>γ
   | some b=>mu b.k==mu n.k) (i+1) i:=rfl
 rw[<-ajK]at hex;rw[<-ajL]at Oj;clear ajK ajL;have Dz:=mT i b hb
 have L5:Ups (S.1++[⟨i,b.dp+1,od,n.k,n.v,uk i b n,D3 S i (mu n.k)⟩]):=by
  intro j c hj;rw[List.getElem?_append]at hj;split at hj;exact mT j c hj;rename_i an5;have:=List.mem_of_getElem? hj;rw[akd]at this;subst this;dsimp only;omega
 have hn0:=hn;generalize uk i b n=sc at*;generalize Oi S i (mu n.k)=ex at*;generalize D3 S i (mu n.k)=rd at*;obtain⟨⟨k1,k2,k3,k4⟩,v,s,o,x⟩:=n;obtain⟨g1,g2,g3⟩:=g;dsimp only at L5 ⊢;have hux:dz [MV.l (Ζ x) (x.flatMap cM) .au]=[MV.l (Ζ x) (x.flatMap cM) .au]:=by simpa[Cl]using SB [x]
 simp only[eZ,iP,ze,cD,cM,mu,aq,bB,Ca,Th,Ti,af_]at We EB IQ hex Oj cj Ds ⊢;refine ω 126 [.cell 8 110] func94 ?_;refine κ aV ?_;refine VC.gen ?_;intro O1 e1;obtain⟨aK,dd,hA1,qi,hC1⟩:=mQ _ _ _ e1;clear e1;refine ξ aV qi ?_;refine τ (IQ O1) ?_;rintro _ O2 ⟨rfl,aC⟩;have gy:=aK.trans aC;have fc:=aC.N;refine ae aV ?_;refine VC.al ?_;rintro O3 ⟨aJ,hX3,ij⟩;have eW:=gy.trans aJ;have hA3:=(aC.trans aJ).at hA1;have hB3:=(aC.trans aJ).at qi;have hC3:=(aC.trans aJ).at hC1;refine θ (aE aV hA3 hB3 ?_);refine τ (We O3 eW) ?_;rintro _ O4 ⟨rfl,aT⟩;have iS:=eW.trans aT;have fT:=aT.N;have hA4:=aT.at hA3;have hB4:=aT.at hB3;have hC4:=aT.at hC3;have s8:=aT.at hX3;refine ae aV ?_;refine ξ aV hA4 ?_;refine τ (hex O4 iS O.N O2.N hA4 s8 (by omega) (by omega)) ?_;rintro _ O5 ⟨rfl,bO⟩;have qn:=iS.trans bO;have eJ:=bO.N;have hA5:=bO.at hA4;have tE:=bO.at hB4;have hC5:=bO.at hC4;have hX5:=bO.at s8;clear aK aC aJ aT bO hA1 hA3 hA4 qi hB3 hB4 hC1 hC3 hC4 hX3 s8 gy eW iS;refine ae aV ?_;have h5:=h.ge qn;have an6:=qn.N;have um:=h5.cell;simp only[cD,Ca,Th]at um
 have Ok:∀X,vH (O5.set (O.N+2) X) tb k bb mm ⟨g1,g2,g3⟩ S t1 t2 B/\O.N<=(O5.set (O.N+2) X).N/\∀j,j<O.N->j≠tb->Tok.id t1≠φ j->Tok.id t2≠φ j->(O5.set (O.N+2) X).hp j=O.hp j:=λX=>
  ⟨h.ge (qn.set (by omega) X),an6,λj h1 _ _ _=>Δ (qn.hp j h1)⟩
 have apF:(.agg [.v (Ι Κ 0),.s [],.s [],.s [],.v (Ι Κ 0),.v (Ι Κ 0),.v (Ι Κ 0),.s []]:MV)= .agg (pf jd):=rfl;by_cases fK:sc=0
 ·have e1:(sc==0)=Α:=by simpa using fK
  rw[if_pos (.inl fK)];refine θ (aE aV e1 hC5 ?_);exact⟨rfl,t1,t2,Ok _⟩
 have e1:(sc==0)=γ:=by simpa using fK
 cases ex;rotate_left;rw[if_pos (.inr rfl)];refine θ (aE aV e1 hC5 ?_);exact⟨rfl,t1,t2,Ok _⟩;rw[if_neg (by rintro(h | h);exact fK h;cases h)];by_cases jm:4096<=Ζ S.1;have e2:decide (Ζ S.1>=(4096:Int))=Α:=decide_eq_true (by omega);have e3:decide ((4096:Int)<=Ζ S.1)=Α:=decide_eq_true (by omega);rw[if_pos jm];refine θ (Nf aV e1 e2 e3 hA5 um hC5 ?_);exact⟨rfl,qn.set (by omega) _⟩;rw[if_neg jm];have e2:decide (Ζ S.1>=(4096:Int))=γ:=decide_eq_false (by omega);have e3:decide ((4096:Int)<=Ζ S.1)=γ:=decide_eq_false (by omega);refine θ (Nf aV e1 e2 e3 hA5 um hC5 ?_);refine Ξ [1,4,7,8,9,12] (λnb:Nat=>[mi i,.p O.N 0,.p (O.N+1) 0,.p (O.N+2) 0,.p O2.N 0,.p nb 0]) (λnb O'=>O5.Ge O'/\O5.N<=nb/\nb<O'.N/\O'.hp nb=φ (.cells [.v (Ι Κ i),.v (Ι Κ (b.dp+1)),.v (Ι Κ od),.s k1,.s k2,.s k3,.s k4,.s [],.v (.bool γ),.s v,.l 0 [] .au,.v (Ι Κ sc),.v (.bool γ)])) ?_ ?_
 ·have apG:tb≠O.N+1:=by omega
  obtain⟨J,hJ⟩:∃J:VH->Prop,∀O',J O' ↔ (O'.hp tb=O5.hp tb/\O'.hp O.N=O5.hp O.N/\O.Ge O'/\O5.N<=O'.N/\∀j,j<O5.N->j≠O.N+1->O'.hp j=O5.hp j):=⟨_,λ_=>Iff.rfl⟩
  refine VC.Dr [20] (O.N+1) (J) (tE) (λX=>(hJ _).2 ⟨VH.sx,VH.sx,qn.set (by omega) _,agb _,λj _ h=>π _ _ h⟩) ?_;intro X
  have mY:∀A B:VH,A.Ge B->(A.hp (O.N+1)=φ (.obj X)/\J A)->(B.hp (O.N+1)=φ (.obj X)/\J B):=λA B g h=>by
   have h2:=(hJ _).1 h.2;exact⟨g.at h.1,(hJ _).2 ⟨g.at h2.1,g.at h2.2.1,h2.2.2.1.trans g,alR h2.2.2.2.1 g.N,λj h3 h4=>g.at (h2.2.2.2.2 j h3 h4)⟩⟩
  refine ρ 0 aV ?_;refine ε (m:=.p tb 0) 1 ?_ ?_;rintro O2 ⟨i0,i1⟩;exact eD aV (((hJ _).1 i1).2.1.trans hA5);simp only[ak];refine ρ 2 aV ?_;refine ρ 3 aV ?_;refine ρ 5 aV ?_;refine ρ 10 aV ?_;refine ρ 11 aV ?_;refine aqK (m:=.agg [.s k1,.s k2,.s k3,.s k4]) 12 (λ_ h=>h.1) (λ_ h=>h) ?_ ?_;exact ff aV;simp only[ak];refine ε (m:=.p tb 0) 13 ?_ ?_;rintro O2 ⟨i0,i1⟩;exact eD aV (((hJ _).1 i1).2.1.trans hA5);simp only[ak];refine ρ 14 aV ?_;refine aqK (m:=.agg [.s k1,.s k2,.s k3,.s k4,.v (.bool γ),.s v,.l 0 [] .au,.v (Ι Κ s),.v (.bool o),.l (Ζ x) (x.flatMap cM) .au]) 15 (λ_ h=>h.1) (λ_ h=>h) ?_ ?_;exact ff aV;simp only[ak];refine ρ 17 aV ?_;have Kg:(O5.set (O.N+1) (.obj X)).hp (O.N+1)=φ (.obj X)/\J (O5.set (O.N+1) (.obj X)):=⟨υ _ _ _,(hJ _).2 ⟨VH.sx,VH.sx,qn.set (by omega) _,agb _,λj _ h=>π _ _ h⟩⟩;have nO7:(O5.set (O.N+1) (.obj X)).N=O5.N:=rfl;generalize O5.set (O.N+1) (.obj X)=O7 at*;refine ab.aez (i:=4) (j:=16) (k:=19) ?_ ?_ ?_;have jt:=((hJ _).1 Kg.2).1.trans um;refine aI.o1 ?_;refine ao aV jt ?_;refine⟨Kg,?_⟩;refine ρ 6 aV ?_;refine ρ 7 aV ?_;refine ε (m:=.v (Ι Κ b.dp)) 8 ?_ ?_;rintro O2 ⟨i0,i1⟩;exact eD aV Ds;simp only[ak];refine ρ 9 aV ?_;refine aqJ (i:=16) (j:=19) ?_ ?_;refine aI.lr (EB O7 ((hJ _).1 Kg.2).2.2.1) ?_;rintro _ oK ⟨rfl,SE⟩;simp only[ak];have zw:=mY _ _ SE Kg;have an7:=SE.N;refine⟨zw,?_⟩;refine ρ 18 aV ?_;refine ab.op (i:=19) ?_;refine ae aV ?_;have I8:VH.Ge oK (VH.push oK (.cells oJ)):=(VH.Ge.refl _).push _;have qI:=mY _ _ I8 zw;have I9:(VH.push oK (.cells oJ)).hp oK.N=φ (.cells oJ):=ζ _ _;have afd:(VH.push oK (.cells oJ)).N=oK.N+1:=rfl;refine⟨?_,?_⟩;((((((first | exact qI | exact⟨zw.1,qI.2⟩);generalize VH.push oK (.cells oJ)=zx at*;have l_:=I9;have nX:=qI;have wE:=((hJ _).1 nX.2).2.2.2.1;have ri:=(π (k:=O.N+1) zx (.cells [.s k1,.s k2,.s k3,.s k4,.v (.bool γ),.s v,.l 0 [] .au,.v (Ι Κ s),.v (.bool o),.l (Ζ x) (x.flatMap cM) .au]) (show oK.N≠O.N+1 by omega)).trans l_;refine ab.lA [(20,.one)] ?_;simp only[oJ]at l_ ri;refine aE aV l_ ri ?_;refine aB.mk oK.N ⟨⟨by show O5.N<=zx.N;omega,λj h1=>?_⟩,by omega,by show oK.N<zx.N;omega,υ _ _ _⟩;rw[VH.sx];by_cases e:j=O.N+1);subst e;rw[υ];exact tE.symm);rw[π _ _ e];exact((hJ _).1 nX.2).2.2.2.2 j h1 e);refine aI.o1 ?_;refine ae aV ?_;have afe:VH.Ge O7 (VH.push O7 (.cells oJ)):=(VH.Ge.refl _).push _;have vI:=mY _ _ afe Kg;have Yl:(VH.push O7 (.cells oJ)).hp O7.N=φ (.cells oJ):=ζ _ _;have an8:(VH.push O7 (.cells oJ)).N=O7.N+1:=rfl;refine⟨?_,?_⟩;(((first | exact vI | exact⟨Kg.1,vI.2⟩);generalize VH.push O7 (.cells oJ)=O7a at*;refine ab.call (i:=16) (EB O7a ((hJ _).1 vI.2).2.2.1) ?_;rintro _ zy ⟨rfl,tF⟩;simp only[ak];have uO:=mY _ _ tF vI;have aff:=tF.N;refine⟨uO,?_⟩;have I_:=tF.at Yl;refine ρ 18 aV ?_;have l_:=I_;have nX:=uO;have wE:=((hJ _).1 nX.2).2.2.2.1;have ri:=(π (k:=O.N+1) zy (.cells [.s k1,.s k2,.s k3,.s k4,.v (.bool γ),.s v,.l 0 [] .au,.v (Ι Κ s),.v (.bool o),.l (Ζ x) (x.flatMap cM) .au]) (show O7.N≠O.N+1 by omega)).trans l_;refine ab.lA [(20,.one)] ?_;simp only[oJ]at l_ ri;refine aE aV l_ ri ?_;refine aB.mk O7.N ⟨⟨by show O5.N<=zy.N;omega,λj h1=>?_⟩,by omega,by show O7.N<zy.N;omega,υ _ _ _⟩;rw[VH.sx];by_cases e:j=O.N+1);subst e;rw[υ];exact tE.symm);rw[π _ _ e];exact((hJ _).1 nX.2).2.2.2.2 j h1 e);refine aI.lr (EB O7 ((hJ _).1 Kg.2).2.2.1) ?_;rintro _ oK ⟨rfl,SE⟩;simp only[ak];have zw:=mY _ _ SE Kg;have an7:=SE.N;refine⟨zw,?_⟩;refine aqJ (i:=4) (j:=19) ?_ ?_;have jt:=((hJ _).1 zw.2).1.trans um;refine aI.o1 ?_;refine ao aV jt ?_;refine⟨zw,?_⟩;refine ρ 6 aV ?_;refine ρ 7 aV ?_;refine ε (m:=.v (Ι Κ b.dp)) 8 ?_ ?_;rintro O2 ⟨i0,i1⟩;exact eD aV Ds;simp only[ak];refine ρ 9 aV ?_;refine ρ 18 aV ?_;refine ab.op (i:=19) ?_;refine ae aV ?_;have I8:VH.Ge oK (VH.push oK (.cells oJ)):=(VH.Ge.refl _).push _;have qI:=mY _ _ I8 zw;have I9:(VH.push oK (.cells oJ)).hp oK.N=φ (.cells oJ):=ζ _ _;have afd:(VH.push oK (.cells oJ)).N=oK.N+1:=rfl;refine⟨?_,?_⟩;((((first | exact qI | exact⟨zw.1,qI.2⟩);generalize VH.push oK (.cells oJ)=zx at*;have l_:=I9;have nX:=qI;have wE:=((hJ _).1 nX.2).2.2.2.1;have ri:=(π (k:=O.N+1) zx (.cells [.s k1,.s k2,.s k3,.s k4,.v (.bool γ),.s v,.l 0 [] .au,.v (Ι Κ s),.v (.bool o),.l (Ζ x) (x.flatMap cM) .au]) (show oK.N≠O.N+1 by omega)).trans l_;refine ab.lA [(20,.one)] ?_;simp only[oJ]at l_ ri;refine aE aV l_ ri ?_;refine aB.mk oK.N ⟨⟨by show O5.N<=zx.N;omega,λj h1=>?_⟩,by omega,by show oK.N<zx.N;omega,υ _ _ _⟩;rw[VH.sx];by_cases e:j=O.N+1);subst e;rw[υ];exact tE.symm);rw[π _ _ e];exact((hJ _).1 nX.2).2.2.2.2 j h1 e);refine aI.o1 ?_;refine ae aV ?_;have I8:VH.Ge oK (VH.push oK (.cells oJ)):=(VH.Ge.refl _).push _;have qI:=mY _ _ I8 zw;have I9:(VH.push oK (.cells oJ)).hp oK.N=φ (.cells oJ):=ζ _ _;have afd:(VH.push oK (.cells oJ)).N=oK.N+1:=rfl;refine⟨?_,?_⟩;(((((first | exact qI | exact⟨zw.1,qI.2⟩);generalize VH.push oK (.cells oJ)=zx at*;have jt:=((hJ _).1 qI.2).1.trans um;refine ab.op (i:=4) ?_;refine ao aV jt ?_;refine⟨qI,?_⟩;refine ρ 6 aV ?_;refine ρ 7 aV ?_;refine ε (m:=.v (Ι Κ b.dp)) 8 ?_ ?_);rintro O2 ⟨i0,i1⟩;exact eD aV Ds);simp only[ak];refine ρ 9 aV ?_;refine ρ 18 aV ?_;have l_:=I9;have nX:=qI;have wE:=((hJ _).1 nX.2).2.2.2.1;have ri:=(π (k:=O.N+1) zx (.cells [.s k1,.s k2,.s k3,.s k4,.v (.bool γ),.s v,.l 0 [] .au,.v (Ι Κ s),.v (.bool o),.l (Ζ x) (x.flatMap cM) .au]) (show oK.N≠O.N+1 by omega)).trans l_;refine ab.lA [(20,.one)] ?_;simp only[oJ]at l_ ri;refine aE aV l_ ri ?_;refine aB.mk oK.N ⟨⟨by show O5.N<=zx.N;omega,λj h1=>?_⟩,by omega,by show oK.N<zx.N;omega,υ _ _ _⟩;rw[VH.sx];by_cases e:j=O.N+1);subst e;rw[υ];exact tE.symm);rw[π _ _ e];exact((hJ _).1 nX.2).2.2.2.2 j h1 e);refine aI.o1 ?_;refine ae aV ?_;have afe:VH.Ge O7 (VH.push O7 (.cells oJ)):=(VH.Ge.refl _).push _;have vI:=mY _ _ afe Kg;have Yl:(VH.push O7 (.cells oJ)).hp O7.N=φ (.cells oJ):=ζ _ _;have an8:(VH.push O7 (.cells oJ)).N=O7.N+1:=rfl;refine⟨?_,?_⟩;(((first | exact vI | exact⟨Kg.1,vI.2⟩);generalize VH.push O7 (.cells oJ)=O7a at*;refine aqJ (i:=4) (j:=16) ?_ ?_);have jt:=((hJ _).1 vI.2).1.trans um;refine aI.o1 ?_;refine ao aV jt ?_;refine⟨vI,?_⟩;refine ρ 6 aV ?_;refine ρ 7 aV ?_;refine ε (m:=.v (Ι Κ b.dp)) 8 ?_ ?_;rintro O2 ⟨i0,i1⟩;exact eD aV Ds;simp only[ak];refine ρ 9 aV ?_;refine ab.call (i:=16) (EB O7a ((hJ _).1 vI.2).2.2.1) ?_;rintro _ zy ⟨rfl,tF⟩;simp only[ak];have uO:=mY _ _ tF vI;have aff:=tF.N;refine⟨uO,?_⟩;have I_:=tF.at Yl;refine ρ 18 aV ?_;have l_:=I_;have nX:=uO;have wE:=((hJ _).1 nX.2).2.2.2.1;have ri:=(π (k:=O.N+1) zy (.cells [.s k1,.s k2,.s k3,.s k4,.v (.bool γ),.s v,.l 0 [] .au,.v (Ι Κ s),.v (.bool o),.l (Ζ x) (x.flatMap cM) .au]) (show O7.N≠O.N+1 by omega)).trans l_;refine ab.lA [(20,.one)] ?_;simp only[oJ]at l_ ri;refine aE aV l_ ri ?_;refine aB.mk O7.N ⟨⟨by show O5.N<=zy.N;omega,λj h1=>?_⟩,by omega,by show O7.N<zy.N;omega,υ _ _ _⟩;rw[VH.sx];by_cases e:j=O.N+1;subst e;rw[υ];exact tE.symm;rw[π _ _ e];exact((hJ _).1 nX.2).2.2.2.2 j h1 e);refine aI.lr (EB O7a ((hJ _).1 vI.2).2.2.1) ?_;rintro _ zy ⟨rfl,tF⟩;simp only[ak];have uO:=mY _ _ tF vI;have aff:=tF.N;refine⟨uO,?_⟩;have I_:=tF.at Yl;have jt:=((hJ _).1 uO.2).1.trans um;refine ab.op (i:=4) ?_;refine ao aV jt ?_;refine⟨uO,?_⟩;refine ρ 6 aV ?_;refine ρ 7 aV ?_;refine ε (m:=.v (Ι Κ b.dp)) 8 ?_ ?_;rintro O2 ⟨i0,i1⟩;exact eD aV Ds;simp only[ak];refine ρ 9 aV ?_;refine ρ 18 aV ?_;have l_:=I_;have nX:=uO;have wE:=((hJ _).1 nX.2).2.2.2.1;have ri:=(π (k:=O.N+1) zy (.cells [.s k1,.s k2,.s k3,.s k4,.v (.bool γ),.s v,.l 0 [] .au,.v (Ι Κ s),.v (.bool o),.l (Ζ x) (x.flatMap cM) .au]) (show O7.N≠O.N+1 by omega)).trans l_;refine ab.lA [(20,.one)] ?_;simp only[oJ]at l_ ri;refine aE aV l_ ri ?_;refine aB.mk O7.N ⟨⟨by show O5.N<=zy.N;omega,λj h1=>?_⟩,by omega,by show O7.N<zy.N;omega,υ _ _ _⟩;rw[VH.sx];by_cases e:j=O.N+1;subst e;rw[υ];exact tE.symm;rw[π _ _ e];exact((hJ _).1 nX.2).2.2.2.2 j h1 e
 rintro nb O6 ⟨gN,apH,apI,jr⟩;have LA:=qn.trans gN;have oD:=gN.N;refine ξ aV jr ?_;refine VC.gen ?_;intro O7 e7;have BZ:O7.hp nb=φ (.cells [.v (Ι Κ i),.v (Ι Κ (b.dp+1)),.v (Ι Κ od),.s k1,.s k2,.s k3,.s k4,.s v,.v (.bool γ),.s v,.l 0 [] .au,.v (Ι Κ sc),.v (.bool γ)]):=by rw[e7];exact υ _ _ _
 have yZ:∀j,j≠nb->O7.hp j=O6.hp j:=λj hj=>by rw[e7];exact π _ _ hj
 have xp:O7.N=O6.N:=by rw[e7];rfl
 have FK:O.Ge O7:=by rw[e7];exact LA.set (by omega) _
 clear e7;have hA7:=(yZ _ (by omega)).trans (gN.at hA5);have hB7:=(yZ _ (by omega)).trans (gN.at tE);have hC7:=(yZ _ (by omega)).trans (gN.at hC5);have hX7:=(yZ _ (by omega)).trans (gN.at hX5);refine ξ aV BZ ?_;refine ξ aV hA7 ?_;refine τ (Oj O7 FK O.N O2.N hA7 hX7 (by omega) (by omega)) ?_;rintro _ O8 ⟨rfl,iC⟩;have Es:=iC.N;have uC:=iC.at BZ;refine ao aV uC ?_;refine VC.gen ?_;intro O9 e9;have b9:O9.hp nb=φ (.cells [.v (Ι Κ i),.v (Ι Κ (b.dp+1)),.v (Ι Κ od),.s k1,.s k2,.s k3,.s k4,.s v,.v (.bool γ),.s v,.l 0 [] .au,.v (Ι Κ sc),.v (.bool rd)]):=by rw[e9];exact υ _ _ _
 have uL:∀j,j≠nb->O9.hp j=O8.hp j:=λj hj=>by rw[e9];exact π _ _ hj
 have AL:O9.N=O8.N:=by rw[e9];rfl
 have vw:O.Ge O9:=by rw[e9];exact(FK.trans iC).set (by omega) _
 clear e9;have hA9:=(uL _ (by omega)).trans (iC.at hA7);have hB9:=(uL _ (by omega)).trans (iC.at hB7);have hC9:=(uL _ (by omega)).trans (iC.at hC7);clear hA5 hA7 tE hB7 hC5 hC7 hX5 hX7 jr BZ uC yZ uL FK LA gN iC Oj hex We EB IQ;have h9:=h.ge vw;have G4:=h9.cell;simp only[cD,Ca,Th]at G4;have cH:=aP (tk:=t1) (tk':=.full) (n:=Ζ S.1) (k:=1) (cs:=S.1.flatMap oI) (ds:=[.v (Ι Κ i),.v (Ι Κ (b.dp+1)),.v (Ι Κ od),.s k1,.s k2,.s k3,.s k4,.s v,.v (.bool γ),.s v,.l 0 [] .au,.v (Ι Κ sc),.v (.bool rd)]) HV T48.1.1 h9.a1 Yk;have mU:∀j,j<O9.N->O9.hp j≠φ .tok->(O9.after t1).hp j=O9.hp j:=λj h1 h2=>App.off h9.a1 h1 h2
 have Gw:=(mU tb (by omega) (by rw[G4];simp)).trans G4;refine Γ ?_;refine WC.bW (.held [10]) [(0,.rd),(1,.rd),(2,.rd),(3,.rd),(4,.rd),(5,.rd),(6,.one),(7,.one),(8,.one),(9,.rd),(10,.one)] ?_;refine cB aV hA9 G4 b9 ?_;refine VL.app cH ?_;refine ao aV Gw ?_
 have hN:(S.1.flatMap oI++[.v (Ι Κ i),.v (Ι Κ (b.dp+1)),.v (Ι Κ od),.s k1,.s k2,.s k3,.s k4,.s v,.v (.bool γ),.s v,.l 0 [] .au,.v (Ι Κ sc),.v (.bool rd)]:Η)=(S.1++[(⟨i,b.dp+1,od,⟨k1,k2,k3,k4⟩,v,sc,rd⟩:Br)]).flatMap oI:=by
  rw[List.flatMap_append,aqe];rfl
 have hNl:Ζ S.1+1=(S.1++[(⟨i,b.dp+1,od,⟨k1,k2,k3,k4⟩,v,sc,rd⟩:Br)]).length:=by simp
 rw[hN];have NV:=cy.after h9.a1;have AO:(O9.after t1).N=O9.N+1:=VH.dC _ _;have hAp:App (O9.after t1) B 13 (.own O9.N 13):=App.after (by have:=vw.N;omega);have an9:App (O9.after t1) B 1 t2:=NV.app h9.a2 hne;refine VC.gen ?_;intro fM rG;have H9:fM.N=O9.N+1:=by rw[rG];exact AO
 have Ja:fM.hp tb=φ (.cells [.p k 0,.p bb 0,.s g1,.s g2,.s g3,.map mm,.l (Ζ S.1+1) ((S.1++[(⟨i,b.dp+1,od,⟨k1,k2,k3,k4⟩,v,sc,rd⟩:Br)]).flatMap oI) (.own O9.N 13),.l (Ζ S.2) (S.2.flatMap Cl) t2]):=by rw[rG];exact υ _ _ _
 have qo:∀j,j≠tb->fM.hp j=(O9.after t1).hp j:=λj hj=>by rw[rG];exact π _ _ hj
 have Jb:App fM B 13 (.own O9.N 13):=by rw[rG];exact hAp.qW (by rw[Gw];simp)
 have Wf:App fM B 1 t2:=by rw[rG];exact an9.qW (by rw[Gw];simp)
 clear rG;have an_:=(qo _ (by omega)).trans ((mU _ (by omega) (by rw[hA9];simp)).trans hA9);have aoa:=(qo _ (by omega)).trans ((mU _ (by omega) (by rw[hB9];simp)).trans hB9);have SF:=(qo _ (by omega)).trans ((mU _ (by omega) (by rw[hC9];simp)).trans hC9);have DP:=aP (tk:=t2) (tk':=.full) (n:=Ζ S.2) (k:=1) (cs:=S.2.flatMap Cl) (ds:=[.l (Ζ x) (x.flatMap cM) .au]) aiM HW Wf ph;have afg:∀j,j<fM.N->fM.hp j≠φ .tok->(fM.after t2).hp j=fM.hp j:=λj h1 h2=>App.off Wf h1 h2
 have hcB:=(afg tb (by omega) (by rw[Ja];simp)).trans Ja;refine Γ ?_;refine WC.bW (.held [11]) [(0,.rd),(1,.rd),(2,.rd),(3,.rd),(4,.rd),(5,.rd),(6,.rd),(7,.one),(8,.one),(9,.one),(10,.rd),(11,.one)] ?_;refine cB aV an_ Ja aoa ?_;refine VL.app DP ?_;refine ao aV hcB ?_
 have hX:(S.2.flatMap Cl++[.l (Ζ x) (x.flatMap cM) .au]:Η)=(S.2++[x]).flatMap Cl:=by
  rw[List.flatMap_append,aqe];rfl
 rw[hX];have hKB:=cy.after Wf;have hnB:(fM.after t2).N=fM.N+1:=VH.dC _ _;have hBp:App (fM.after t2) B 1 (.own fM.N 1):=App.after (by have:=vw.N;omega)
 have aob:App (fM.after t2) B 13 (.own O9.N 13):=hKB.app Jb (λj h1 h2=>by
  injection h2 with h2;subst h2;have:=(App.nZ h9.a2 h1).2;omega)
 refine VC.gen ?_;intro rR e11;have aiT:rR.N=fM.N+1:=by rw[e11];exact hnB
 have afh:rR.hp tb=φ (.cells [.p k 0,.p bb 0,.s g1,.s g2,.s g3,.map mm,.l (Ζ S.1+1) ((S.1++[(⟨i,b.dp+1,od,⟨k1,k2,k3,k4⟩,v,sc,rd⟩:Br)]).flatMap oI) (.own O9.N 13),.l (Ζ S.2+1) ((S.2++[x]).flatMap Cl) (.own fM.N 1)]):=by rw[e11];exact υ _ _ _
 have ajM:∀j,j≠tb->rR.hp j=(fM.after t2).hp j:=λj hj=>by rw[e11];exact π _ _ hj
 have alq:App rR B 13 (.own O9.N 13):=by rw[e11];exact aob.qW (by rw[hcB];simp)
 have alr:App rR B 1 (.own fM.N 1):=by rw[e11];exact hBp.qW (by rw[hcB];simp)
 clear e11;have afi:=(ajM _ (by omega)).trans ((afg _ (by omega) (by rw[SF];simp)).trans SF);refine ξ aV afi ?_;refine ν aV ?_
 have aZ:∀j,j<O.N->j≠tb->Tok.id t1≠φ j->Tok.id t2≠φ j->rR.hp j=O.hp j:=λj h1 h2 h3 h4=>by
  rw[ajM j h2,hKB.hp j (by have:=vw.N;omega) h4,qo j h2,NV.hp j (by have:=vw.N;omega) h3,vw.hp j h1]
 have hmm:mm≠tb:=λe=>by have:=h.map;rw[e,cj]at this;cases this
 have Yi:rR.hp mm=φ (.map (db []) 0):=(aZ mm dm.2 hmm (λe=>by have:=App.tok cJ e;rw[Kq]at this;cases this) (λe=>by have:=App.tok fy e;rw[Kq]at this;cases this)).trans Kq;have hng:=vw.N;refine⟨rfl,.own O9.N 13,.own fM.N 1,⟨?_,Δ Yi,alq.qW (by rw[afi];simp),alr.qW (by rw[afi];simp),?_,?_,?_,L5⟩,?_,?_⟩;rw[VH.sx,afh];simp[cD];intro j h1 h2;injection h1 with h1;injection h2 with h2;omega;show tb<rR.N/\mm<rR.N;omega;simp[hlen];show O.N<=rR.N;omega;intro j h1 h2 h3 h4;rw[VH.sx];exact aZ j h1 h2 h3 h4
structure xD(s:Bs):Prop where
 id:gk s=Α
 pl:∀c∈s,k9 c=Α/\c≠36
def nmi(h:s.all nY=Α)(h2:1<=(Ζ s)/\(Ζ s)<=64)(h3:∀c∈s,c≠36):xD s:=by
 refine⟨by unfold gk;rw[h,decide_eq_true h2.1,decide_eq_true h2.2];rfl,λc hc=>⟨?_,h3 c hc⟩⟩;have:=aqq.1 h c hc;unfold nY at this;exact(ap3.1 this).1
def xD.vl(h:xD s):nG s:=by
 have h1:=h.id;unfold gk at h1;simp only[aqj,decide_eq_true_eq]at h1;exact⟨λe=>by rw[e]at h1;simp at h1,λc hc=>by unfold Wb;rw[(h.pl c hc).1];rfl⟩
def xD.len(h:xD s):Ζ s<=64:=by
 have h1:=h.id;unfold gk at h1;simp only[aqj,decide_eq_true_eq]at h1;exact h1.2
def vJ(h:∀c∈s,c≠36:=by simp):uM s:=by
 unfold uM;induction s with
 | nil=>decide
 | cons b l ih=>
   have hb:=h b (aga ..);(have ih:=ih λc hc=>h c (akc _ hc));have jQ:=Lib.index_ge l [36,123]
   have hp:([36,123]:Bs).isPrefixOf (b::l)=γ:=by
    rw[List.isPrefixOf,show((36:UInt8)==b)=γ from beq_eq_false_iff_ne.2 (Ne.symm hb),ap9]
   unfold Lib.index;rw[hp,if_neg (by decide)];rw[show Lib.index l [36,123]= -1 by omega];decide
def xD.plain(h:xD s):jg s:=⟨vJ λc hc=>(h.pl c hc).2,alR h.len (by decide)⟩
def EZ:xD gS:=nmi (by decide) (by decide) (by decide)
def GA(v:Bs):Prop:=v=v1\/v=[50]
def GA.one:GA v1:=.inl rfl
def GA.vl(h:GA v):nG v:=by rcases h with rfl | rfl<;>exact⟨by decide,by decide⟩
def GA.plain(h:GA v):jg v:=by rcases h with rfl | rfl<;>exact⟨vJ (by decide),by decide⟩
def GA.parse(h:GA v):uh v=((γ,v,[]),0):=by
 rcases h with rfl | rfl;kernel_rfl;kernel_rfl
def GA.len(h:GA v):Ζ v=1:=by rcases h with rfl | rfl<;>rfl
structure Wg(d:Dp):Prop where
 g:d.g=gS
 a:xD d.a
 v:GA d.v
 t:d.t=[]
 c:d.c=[]
 s:d.s=0\/d.s=1\/d.s=2\/d.s=3\/d.s=4\/d.s=5
 o:d.o=0\/d.o=1
 x:∀i∈d.x,(i.g=[42]\/xD i.g)/\xD i.a
 xl:Ζ d.x<=1
def Jc(h:s=[42]\/xD s):nG s/\(Ζ s)<=64/\jD s=Α:=by
 rcases h with rfl | h;exact⟨⟨by decide,by decide⟩,by decide,by decide⟩;refine⟨h.vl,h.len,?_⟩;unfold jD Dg Ag;rw[h.id];simp
def Wg.w(h:Wg d):Of d:=by
 have hg:=h.g;have hv:=h.v;refine⟨by rw[hg];exact EZ.vl,h.a.vl,hv.vl,by rw[hg];decide,alR h.a.len (by decide),by rw[hv.len];decide,h.t,h.c,h.s,h.o,λi hi=>?_,by have:=h.xl;omega⟩;obtain⟨h1,h2⟩:=h.x i hi;obtain⟨a1,a2,a3⟩:=Jc h1;obtain⟨b1,b2,b3⟩:=Jc (.inr h2);exact⟨⟨a1,by omega,a3⟩,b1,by omega,b3⟩
def Wg.q(h:Wg d):Vy d:=by
 have hg:=h.g;have hv:=h.v;refine⟨by rw[hg];exact EZ.plain,by rw[hg];exact EZ.id,h.a.plain,h.a.id,hv.plain,(λe=>by have:=hv.len;rw[e]at this;cases this),hv.parse,by rw[h.t];exact⟨vJ,by decide⟩,.inr h.t,by rw[h.c];exact⟨vJ,by decide⟩,.inr h.c,by have:=h.xl;omega⟩
structure Calm(g:Gv)(D:List Dp):Prop where
 hg:g.g=gS
 ha:xD g.a
 hv:GA g.v
 d:∀d∈D,Wg d
 ne:D.Pairwise λx y=>x.a≠y.a
 n:Ζ D<=40
section
variable{g:Gv}{D:List Dp}
def Calm.w(h:Calm g D):PmW (eu g D):=
 ⟨by show nG g.g;rw[h.hg];exact EZ.vl,h.ha.vl,h.hv.vl,by show (Ζ g.g)<=_;rw[h.hg];decide,alR h.ha.len (by decide),by show (Ζ g.v)<=_;rw[h.hv.len];decide,λd hd=>(h.d d hd).w,alR h.n (by decide)⟩
def Calm.short(h:Calm g D):ae9 g D:=
 ⟨⟨by rw[h.hg];decide,h.ha.len,by rw[h.hv.len];decide⟩,λd hd=>by
   have hd:=h.d d hd;refine⟨by rw[hd.g];decide,hd.a.len,by rw[hd.v.len];decide,hd.xl,λi hi=>⟨(Jc (hd.x i hi).1).2.1,(hd.x i hi).2.len⟩⟩,h.n⟩
def Calm.build(h:Calm g D):jF (cV (ia (eu g D)))= .ok (ia (eu g D)):=aa5 h.w (λd hd=>(h.d d hd).xl) h.n
def Calm.read(h:Calm g D):rJ (ia (eu g D))= .ok (eu g D):=aa4 h.w
def Calm.text(h:Calm g D):(cV (ia (eu g D))).length<=65536:=aa7 h.w h.short
def Calm.gav(h:Calm g D):wH g:=by
 obtain⟨h1,h2,h3⟩:=h.short.g;have:(64:Nat)<=maxLen:=by decide
 exact⟨by omega,by omega,by omega⟩
def Calm.may(h:Calm g D):Df g=Α:=by
 unfold Df;rw[h.hg,EZ.id,h.ha.id];simp only[Bool.and_self,aqi];rcases h.hv with e | e<;>rw[e]<;>decide
def Calm.q(h:Calm g D):PmQ (eu g D) g:=by
 have hs:=h.short.g;refine⟨⟨⟨by show(0:Nat)<=_;omega,by show(0:Nat)<=_;omega,by show (Ζ D)<=_;have:=h.n;omega,by simp[eu],λd hd=>by have:=(h.d d hd).xl;omega⟩,rfl,by simp[eu],λd hd=>?_,by simp[eu]⟩,rfl,rfl,rfl,?_,h.ha.plain,?_,⟨vJ (by simp[eu]),by show(0:Nat)<=_;omega⟩,by show gk (Gy [])=Α;decide,rfl,rfl,λd hd=>(h.d d hd).q,by show (Ζ D)<=_;have:=h.n;omega,?_⟩;have hd:=h.d d hd;have:=hd.a.len;refine⟨by rw[hd.g];decide,by omega,by rw[hd.v.len];decide,by rw[hd.t];decide,by rw[hd.c];decide,by have:=hd.xl;omega⟩;show jg g.g;rw[h.hg];exact EZ.plain;exact h.hv.plain
 ·refine h.ne.imp λ{x y} hxy e=>hxy ?_
  have:=congrArg Ky.a e;exact this
end
def Bt:=WT aU<|WT Qq HZ
def aa_(hB:VJ O bb md k MD cm)(hg:wH g){M:Mdl}(SG:jC (fL g) MD=φ (.agg (nT M))):
  VF Ε 105 [.p bb 0,.agg (cD g),.l 0 [] .nil] O (aH λm O'=>m= .agg (nT M)/\O.Ge O'):=by
 have n9:=yS hg;have hBc:=λ(O':VH)(g':O.Ge O')=>(hB.ge g')
 obtain⟨g1,g2,g3⟩:=g;obtain⟨⟨m1,m2,m3⟩,pk,P,L⟩:=M;simp only[nT,cD,Ca,Th]at SG ⊢;refine ω 120 [.cell 6 215] func105 ?_;refine κ aU ?_;refine VC.gen ?_;intro O1 e1;obtain⟨aK,dd,cJ,cC⟩:=iY _ _ e1;clear e1;have qi:=hBc O1 aK;have hlB:=hB.lt;(have gU:∀M:Η,O1.Ge ((O1.push (.cells o0)).set O1.N (.cells M))/\((O1.push (.cells o0)).set O1.N (.cells M)).hp O1.N=φ (.cells M)/\((O1.push (.cells o0)).set O1.N (.cells M)).hp (O.N+1)=φ (.cells [.s [],.s [],.s [],.s [],.l 0 [] .nil,.l 0 [] .nil,.l 0 [] .nil]):=λM=>⟨(((VH.Ge.refl O1).push _)).set (agb _) _,υ _ _ _,Δ ((η _ _).trans cC)⟩);refine Γ (Γ ?_);refine VC.sU [11] (λO'=>O'.hp bb=φ (.cells [.p k 0,.map md])/\O'.hp O.N=φ (.cells [.s g1,.s g2,.s g3])/\O1.Ge O') (⟨qi.cell,cJ,VH.Ge.refl _⟩) ?_;refine ρ 0 aU ?_;refine ρ 1 aU ?_;refine ρ 2 aU ?_;refine ε (m:=.map md) 3 ?_ ?_;rintro O2 ⟨j0,j1,j2⟩;exact eD aU j0;simp only[ak];refine ε (m:=.agg [.s g1,.s g2,.s g3]) 4 ?_ ?_;rintro O2 ⟨j0,j1,j2⟩;exact eD aU j1;simp only[ak];(((((have mY:∀A B:VH,A.Ge B->(A.hp bb=φ (.cells [.p k 0,.map md])/\A.hp O.N=φ (.cells [.s g1,.s g2,.s g3])/\O1.Ge A)->(B.hp bb=φ (.cells [.p k 0,.map md])/\B.hp O.N=φ (.cells [.s g1,.s g2,.s g3])/\O1.Ge B):=λA B g h=>⟨(g.hp _ (by have:=h.2.2.N;have:=qi.lt;omega)).trans h.1,(g.hp _ (by have:=h.2.2.N;omega)).trans h.2.1,h.2.2.trans g⟩);have th:O1.hp bb=φ (.cells [.p k 0,.map md])/\O1.hp O.N=φ (.cells [.s g1,.s g2,.s g3])/\O1.Ge O1:=⟨qi.cell,cJ,VH.Ge.refl _⟩;have xn:∀A:VH,A.Ge (A.push (.cells o0)):=λA=>(VH.Ge.refl A).push _);have hJs:∀X,((O1.push (.cells o0)).set O1.N X).hp bb=φ (.cells [.p k 0,.map md])/\((O1.push (.cells o0)).set O1.N X).hp O.N=φ (.cells [.s g1,.s g2,.s g3])/\O1.Ge ((O1.push (.cells o0)).set O1.N X):=λX=>mY O1 _ ((xn O1).set (agb _) _) th);refine aqJ (i:=5) (j:=9) ?_ ?_);refine aI.uJ (gJ.lV yR aa (l:=fL ⟨g1,g2,g3⟩) (te:=⟨_,7,136,o0⟩) Tryz.underlying172 HZ.1.1 rfl rfl qi.map qi.ok rfl rfl n9) ?_;rw[SG];refine⟨th,?_⟩;refine ρ 6 aU ?_;refine ρ 7 aU ?_;refine ρ 8 aU ?_;refine ab.op (i:=9) ?_;refine ae aU ?_;refine⟨⟨th.1,th.2.1,xn _⟩,?_⟩;refine ab.op (i:=10) ?_;refine ae aU ?_;refine⟨⟨th.1,th.2.1,(hJs _).2.2⟩,?_⟩;refine ab.bW [(11,.one)] ?_;refine ae aU ?_;obtain⟨c1,c2,c3⟩:=gU [.s m1,.s m2,.s m3,.s pk,.l (Ζ P) (P.flatMap bH) .au,.l 0 [] .au,.l (Ζ L) (L.flatMap eZ) .au];generalize (O1.push (.cells o0)).set O1.N (.cells [.s m1,.s m2,.s m3,.s pk,.l (Ζ P) (P.flatMap bH) .au,.l 0 [] .au,.l (Ζ L) (L.flatMap eZ) .au])=O3 at*;refine ι (aE aU c2 c3 ?_);exact(aK.trans c1).set (by omega) _);refine aI.o1 ?_;refine ae aU ?_;refine⟨⟨th.1,th.2.1,xn _⟩,?_⟩;refine ab.one (i:=5) (aI.uJ (gJ.lV yR aa (l:=fL ⟨g1,g2,g3⟩) (te:=⟨_,7,136,o0⟩) Tryz.underlying172 HZ.1.1 rfl rfl ((xn _).hp _ qi.lt.2 |>.trans qi.map) qi.ok rfl rfl n9) ?_);rw[SG];refine⟨mY _ _ (xn _) th,?_⟩;refine ρ 6 aU ?_;refine ρ 7 aU ?_;refine ρ 8 aU ?_;refine ab.op (i:=10) ?_;refine ae aU ?_;refine⟨⟨th.1,th.2.1,(hJs _).2.2⟩,?_⟩;refine ab.bW [(11,.one)] ?_;refine ae aU ?_;obtain⟨c1,c2,c3⟩:=gU [.s m1,.s m2,.s m3,.s pk,.l (Ζ P) (P.flatMap bH) .au,.l 0 [] .au,.l (Ζ L) (L.flatMap eZ) .au];generalize (O1.push (.cells o0)).set O1.N (.cells [.s m1,.s m2,.s m3,.s pk,.l (Ζ P) (P.flatMap bH) .au,.l 0 [] .au,.l (Ζ L) (L.flatMap eZ) .au])=O3 at*;refine ι (aE aU c2 c3 ?_);exact(aK.trans c1).set (by omega) _
def afj{a:Nat}{K:ϰ}(h:K O):iO Ε 103 [.p a 0,.p b 0] Β O K:=by
 refine iO.rec (d:=5) func103 (Nat.lt_of_lt_of_eq (by decide:5<13) rfl) ?_;show WC _ _ ⟨13,0⟩ _ _ _ _ _;simp only[cZ,ap5,Nat.reduceAdd,C6];refine ao Bt @wi ?_;refine VL.pure (by simp) (λ_=>.inl rfl) rfl rfl (jW.HR (bb:=Α) Tryz.underlying20 rfl (.inl ⟨rfl,rfl⟩)) ?_;refine WL.sound aa ?_;refine ao Bt @wi ?_;exact h
def SH{l:List Bs}{M:gI}{p:List Bs×MV×Nat}:jC l (M++[p])=match jC l M with
  | some x=>φ x
  | none=>if p.1=l then φ p.2.1 else Β:=by
 unfold jC;rw[List.find?_append];cases h:M.find? (·.1==l)with
 | some x=>rfl
 | none=>
   simp only[Option.map_none,Option.none_or,List.find?_cons,List.find?_nil];by_cases e:p.1=l;rw[if_pos e,show(p.1==l)=Α by simpa using e];rfl;rw[if_neg e,show(p.1==l)=γ by simpa using e];rfl
def Own(k ke kv:Nat)(E V:gI)(j:Nat):Prop:=j=k\/j=ke\/j=kv\/(∃(i c:Nat)(p:List Bs),E[i]?=φ (p,MV.p j 0,c))\/∃p∈V,∃n cs tk,p.2.1=MV.l n cs tk/\Tok.id tk=φ j
structure CB(O:VH)(U:Nat->Prop)(k bb md:Nat)(S:List (Gv×List Dp)):Prop where
 ex:∃L E V ke kv ce cv r a MD cm,p9 O k L E V ke kv ce cv r a/\VJ O bb md k MD cm/\(Ζ L)=(Ζ S)/\(∀(i:Nat)(g:Gv)(D:List Dp),S[i]?=φ (g,D)->∃o,L[i]?=φ (g,cV (ia (eu g D)),o)/\((o=Β/\jC (fL g) MD=Β)\/(o=φ (eu g D)/\jC (fL g) MD=φ (.agg (nT (j5 g (eu g D)))))))
  /\(md≠ke/\md≠kv)/\∀j,Own k ke kv E V j->U j
 lt:∀j,U j->j<O.N
 b:U bb/\U md
def y_.low{N:Nat}(h:y_ O V N)(hb:∀p∈V,∀n cs tk (i:Nat),p.2.1=MV.l n cs tk->Tok.id tk=φ i->U i)(hn:O.N<=O'.N)(hi:∀i,U i->O'.hp i=O.hp i):y_ O' V N:=
 ⟨λp hp=>by
  obtain⟨n,cs,tk,h1,h2,h3,h4,h5⟩:=h.row p hp;exact⟨n,cs,tk,h1,h2,h3,h4.at hn (λi e=>hi i (hb p hp n cs tk i h1 e)),h5⟩,h.one⟩
def p9.mv{r:Int}(hS:p9 O k L E V ke kv ce cv r a)(hU:∀j,Own k ke kv E V j->U j)(hn:O.N<=O'.N)(hi:∀i,U i->O'.hp i=O.hp i):p9 O' k L E V ke kv ce cv r a:=by
 have h1:=hU k (.inl rfl);have h2:=hU ke (.inr (.inl rfl));have h3:=hU kv (.inr (.inr (.inl rfl)));have hl:=hS.st.lt;refine⟨⟨(hi _ h1).trans hS.st.cell,(hi _ h2).trans hS.st.FV,(hi _ h3).trans hS.st.Lu,hS.st.Rf,hS.st.vok,hS.st.ptr,⟨by omega,by omega,by omega⟩,hS.st.ne⟩,hS.len,λi g t o e=>?_,hS.NL,hS.ver.low (λp hp n cs tk i e1 e2=>hU i (.inr (.inr (.inr (.inr ⟨p,hp,n,cs,tk,e1,e2⟩))))) hn hi⟩;obtain⟨q,c,k1,k2,k3⟩:=hS.NK i g t o e;exact⟨q,c,k1,by omega,(hi _ (hU q (.inr (.inr (.inr (.inl ⟨i,c,_,k1⟩)))))).trans k3⟩
def CB.mv(h:CB O U k bb md S)(hn:O.N<=O'.N)(hi:∀i,U i->O'.hp i=O.hp i):CB O' U k bb md S:=by
 obtain⟨⟨L,E,V,ke,kv,ce,cv,r,a,MD,cm,hS,hB,hL,NN,iD,hU⟩,dm,cC,cG⟩:=h;refine⟨⟨L,E,V,ke,kv,ce,cv,r,a,MD,cm,hS.mv hU hn hi,?_,hL,NN,iD,hU⟩,λj hj=>aka (dm j hj) hn,cC,cG⟩;have hl:=hB.lt;exact⟨(hi _ cC).trans hB.cell,(hi _ cG).trans hB.map,hB.ok,by omega,by omega⟩
def CB.ge(h:CB O U k bb md S)(u:O.Ge O'):CB O' U k bb md S:=h.mv u.N λi hi=>u.hp i (h.lt i hi)
def aba(h:CB O U k bb md S)(hi:S[i]?=φ (g,D))(hc:Calm g D)(hS:S.Pairwise λx y=>x.1≠y.1):
  VF Ε 105 [.p bb 0,.agg (cD g),.l 0 [] .nil] O (aH λm O'=>m= .agg (nT (j5 g (eu g D)))/\CB O' U k bb md S/\O.N<=O'.N/\∀j,¬U j->j<O.N->O'.hp j=O.hp j):=by
 have h0:=h;obtain⟨⟨L,E,V,ke,kv,ce,cv,r,a,MD,cm,hSt,hB,hL,NN,iD,hU⟩,dm,cC,cG⟩:=h;obtain⟨o,Gq,ho⟩:=NN i g D hi;rcases ho with⟨rfl,dh⟩ | ⟨rfl,SG⟩;rotate_left
 ·refine VF.mono ?_ (aa_ hB hc.gav SG);rintro r O' hr;cases r with
  | panic m=>exact hr.elim
  | ret m=>
    obtain⟨rfl,u⟩:=hr;exact⟨rfl,h0.ge u,u.N,λj _ hj=>u.hp j hj⟩
 refine VF.mono ?_ (aeA hB hSt Gq hc.gav hc.text hc.build hc.read hc.q dh iD);rintro r O' hr;cases r with
 | panic m=>exact hr.elim
 | ret m=>
   obtain⟨rfl,q,c,hEq,⟨r',a',aoc⟩,hB',hn,hf⟩:=hr;have hqU:=hU q (.inr (.inr (.inr (.inl ⟨i,c,_,hEq⟩))));have hkU:=hU k (.inl rfl);refine⟨rfl,⟨⟨L.set i (g,cV (ia (eu g D)),φ (eu g D)),E,V,ke,kv,ce,cv,r',a',_,_,aoc,hB',by rw[aqu];exact hL,?_,iD,hU⟩,λj hj=>aka (dm j hj) hn,cC,cG⟩,hn,λj h5 h6=>hf j h6 (λe=>h5 (e▸hkU)) (λe=>h5 (e▸hqU)) (λe=>h5 (e▸cG))⟩;intro j g' D' hj;obtain⟨o',hLj,Nt⟩:=NN j g' D' hj;by_cases e:j=i;subst e;rw[hi]at hj;injection hj with hj;injection hj with e1 e2;subst e1;subst e2;refine⟨φ (eu g D),by rw[List.getElem?_set_self (YI.1 Gq).1],.inr ⟨rfl,?_⟩⟩;rw[SH,dh];dsimp only;rw[if_pos rfl]
   ·have hne:g'≠g:=by
     have h7:=(YI.1 hj);have h8:=(YI.1 hi);obtain⟨l7,e7⟩:=h7;obtain⟨l8,e8⟩:=h8;rcases Nat.lt_or_gt_of_ne e with dm | dm;have:=(aqp.1 hS) j i l7 l8 dm;rw[e7,e8]at this;exact this;have:=(aqp.1 hS) i j l8 l7 dm;rw[e7,e8]at this;exactλe=>this e.symm
    refine⟨o',by rw[List.getElem?_set_ne (λe2=>e e2.symm)];exact hLj,?_⟩;rw[SH];rcases Nt with⟨e1,e2⟩ | ⟨e1,e2⟩;refine .inl ⟨e1,?_⟩;rw[e2];dsimp only;rw[if_neg (λe3=>hne (LD e3).symm)];refine .inr ⟨e1,?_⟩;rw[e2]
def abb(h:CB O U k bb md S)(hi:S[i]?=φ (g,D))(hc:Calm g D)(hS:S.Pairwise λx y=>x.1≠y.1):
  VF Ε 91 [.p bb 0,.agg (cD g)] O (aH λm O'=>m= .tuple [.agg (nT (j5 g (eu g D))),.agg (pf jd)]/\CB O' U k bb md S/\O.N<=O'.N/\∀j,¬U j->j<O.N->O'.hp j=O.hp j):=by
 refine VF.fg ?_;have EP:=λ(O':VH)(u:O.Ge O')=>aba (h.ge u) hi hc hS
 have ajN:=λO'=>ahP (j5 g (eu g D)) O' (by show(3:Nat)<=_;omega) (by show(D.map gQ).length<=_;rw[ake];have:=hc.n;omega) (by
  intro n hn;obtain⟨d,hd,rfl⟩:=alU.1 hn;have:=(hc.d d hd).xl;show (Ζ d.x)<=_;omega)
 have gU:=λj=>h.lt j
 obtain⟨g1,g2,g3⟩:=g;have hM:nT (j5 ⟨g1,g2,g3⟩ (eu ⟨g1,g2,g3⟩ D))=[.s g1,.s g2,.s g3,.s mX,.l 3 ((jG (eu ⟨g1,g2,g3⟩ D)).flatMap bH) .au,.l 0 [] .au,.l (D.map gQ).length ((D.map gQ).flatMap eZ) .au]:=rfl;have uZ:=iI (jG (eu ⟨g1,g2,g3⟩ D));have dB:=Ar (D.map gQ);rw[hM]at EP ajN ⊢;generalize (jG (eu ⟨g1,g2,g3⟩ D)).flatMap bH=X1 at*;generalize (D.map gQ).flatMap eZ=X2 at*;generalize (D.map gQ).length=n2 at*;simp only[cD,pf,jd,aq]at EP ⊢;refine VF.Im (lo:=6) (k:=17) (rs:=[.cell 4 215,.cell 5 110]) func91 (Enters.u9) ?_;simp only[cZ,ap5,Nat.reduceAdd];refine ae Bt ?_;refine VC.gen ?_;rintro O1 vq;obtain⟨aK,dd,cJ,cC,fK⟩:=mQ _ _ _ vq;clear vq;refine ν Bt ?_;refine⟨_,rfl,λD'=>?_⟩;refine θ (aE Bt @wd cJ ?_);refine τ (EP O1 aK) ?_;rintro _ O2 ⟨rfl,Hb,fc,jI⟩;refine ao Bt @wd ?_;refine τ (ajN O2) ?_;rintro _ O3 ⟨rfl,aJ⟩;have cN:=aJ.at ((jI _ (λhu=>by have:=gU _ hu;omega) (by omega)).trans cC);have fw:=aJ.at ((jI _ (λhu=>by have:=gU _ hu;omega) (by omega)).trans fK);have ij:=aJ.N;refine cB Bt @wd cN fw ?_;refine ο Bt @wd ?_;refine afj ?_;refine ao Bt @wd ?_;rw[uZ,dB];refine⟨rfl,(Hb.ge aJ).mv (agb _) λj hj=>?_,by omega,λj hj hl=>?_⟩;have:=gU j hj;rw[VH.sx,VH.sx];rw[VH.sx,VH.sx,aJ.hp j (by omega),jI j hj (by omega),aK.hp j hl]
def iz:=WT aV<|WT Bt<|WT aiL<|WT HZ La
structure Plain(S:List (Gv×List Dp)):Prop where
 c:∀p∈S,Calm p.1 p.2
 ne:S.Pairwise λx y=>x.1≠y.1
def als:Option (List Br)->Gv->MV->Prop
 | none,g,m=>m= .tuple [.l 0 [] .nil,.agg (pf (afc g))]
 | some N,_,m=>∃t,m= .tuple [.l (Ζ N) (N.flatMap oI) t,.agg (pf jd)]
def Jd{l:List rQ}(h:jL S g=φ l):∃(i:Nat)(D:List Dp),S[i]?=φ (g,D)/\l=D.map gQ:=by
 unfold jL at h;obtain⟨p,h1,rfl⟩:=Option.map_eq_some_iff.1 h;obtain⟨g',D⟩:=p;have h2:=List.find?_some h1;have h2:g'=g:=by simpa using h2
 subst h2;obtain⟨i,hi,e⟩:=List.mem_iff_getElem.1 (List.mem_of_find?_eq_some h1);exact⟨i,D,by rw[agc hi,e],rfl⟩
def afk(h:Wg d):I7 (gQ d)/\(gQ d).x.length<=1:=by
 have:=h.a.len;refine⟨⟨?_,?_,?_,?_⟩,h.xl⟩;show (Ζ d.g)<=_;rw[h.g];decide;show (Ζ d.a)<=_;omega;show(if zg d.t=[]then mX else zg d.t).length<=_;rw[h.t];decide;show (Ζ d.c)<=_;rw[h.c];decide
def vH.mv{S:tC}(h:vH O tb k bb mm g S t1 t2 B)(hn:O.N<=O'.N)(h1:B<=tb)(h2:B<=mm)(hf:∀j,B<=j->j<O.N->O'.hp j=O.hp j):vH O' tb k bb mm g S t1 t2 B:=by
 have hl:=h.lt;exact⟨(hf _ h1 hl.1).trans h.cell,(hf _ h2 hl.2).trans h.map,h.a1.at hn (λi e=>hf i (App.nZ h.a1 e).1 (App.nZ h.a1 e).2),h.a2.at hn (λi e=>hf i (App.nZ h.a2 e).1 (App.nZ h.a2 e).2),h.ne,⟨by omega,by omega⟩,h.len,h.up⟩
def Wh{S S':tC}{b:Br}{od:Nat}{n:rQ}(h:Cg S i b od n=φ S')(hl:Ζ S.1<=4096)(hi:S.1[i]?=φ b):Ζ S'.1<=4096/\S'.1[i]?=φ b/\∀y∈S'.2,y∈S.2\/y=n.x:=by
 unfold Cg at h;split at h;injection h with h;subst h;exact⟨hl,hi,λy hy=>.inl hy⟩;split at h;cases h;injection h with h;subst h;unfold ajH;refine⟨by rw[akb];simp;omega,by rw[aqo (YI.1 hi).1];exact hi,λy hy=>?_⟩;rcases alQ.1 hy with hy | hy;exact .inl hy;exact .inr (akd.1 hy)
def ah9(h:CB O U k bb md S)(hS:Plain S)(g:Gv){r:Option (List Br)}(hr:Ck (jL S) g=φ r):
  VF Ε 78 [.p k 0,.p bb 0,.agg (cD g)] O (aH λm O'=>als r g m/\O.N<=O'.N/\∀j,¬U j->j<O.N->O'.hp j=O.hp j):=by
 obtain⟨g1,g2,g3⟩:=g;simp only[cD];refine ω 116 [.tmp 6,.cell 7 110] func78 ?_;refine κ iz ?_;refine VC.gen ?_;intro O1 e1;obtain⟨aK,dd,cJ,cC⟩:=iY _ _ e1;clear e1;have lC:Ga (lq [(0,1),(1,1),(2,3),(5,1),(6,1),(7,1)]) [.p k 0,.p bb 0,.s g1,.s g2,.s g3,.v (.map Β),.l 0 [] .nil,.l 0 [] .nil] (.map O1.N) [] (φ (5,1))=φ [.p k 0,.p bb 0,.s g1,.s g2,.s g3,.map O1.N,.l 0 [] .nil,.l 0 [] .nil]:=rfl;refine θ (aE iz cJ lC ?_);refine VC.gen ?_;intro O2 e2;obtain⟨aC,fc,rT,uI⟩:=iY _ _ e2;clear e2;have fy:=aC.at cJ;have cG:=aC.at cC;refine θ (aE iz fy uI ?_);refine VC.gen ?_;intro O3 e3;have ht3:O3.hp (O1.N+1)=φ (.cells [.p k 0,.p bb 0,.s g1,.s g2,.s g3,.map O1.N,.l 1 [.v (Ι Κ (-1)),.v (Ι Κ 0),.v (Ι Κ 0),.s g1,.s g2,.s [106,97,114],.s [],.s g3,.v (.bool γ),.s g3,.l 0 [] .nil,.v (Ι Κ 0),.v (.bool γ)] .full,.l 0 [] .nil]):=by rw[e3];exact υ _ _ _
 have vz:∀j,j≠O1.N+1->O3.hp j=O2.hp j:=λj hj=>by rw[e3];exact π _ _ hj
 have ij:O3.N=O2.N:=by rw[e3];rfl
 clear e3;refine ξ iz ht3 ?_;refine VC.gen ?_;intro O4 e4;have Gm:O4.hp (O1.N+1)=φ (.cells [.p k 0,.p bb 0,.s g1,.s g2,.s g3,.map O1.N,.l 1 [.v (Ι Κ (-1)),.v (Ι Κ 0),.v (Ι Κ 0),.s g1,.s g2,.s [106,97,114],.s [],.s g3,.v (.bool γ),.s g3,.l 0 [] .nil,.v (Ι Κ 0),.v (.bool γ)] .full,.l 1 [.l 0 [] .nil] .full]):=by rw[e4];exact υ _ _ _
 have gE:∀j,j≠O1.N+1->O4.hp j=O2.hp j:=λj hj=>by rw[e4,π _ _ hj];exact vz j hj
 have fT:O4.N=O2.N:=by rw[e4];exact ij
 clear e4 ht3 vz ij;refine VC.wkH Gm (cs':=[.p k 0,.p bb 0]++cD ⟨g1,g2,g3⟩++[.map O1.N,.l [Cj ⟨g1,g2,g3⟩].length ([Cj ⟨g1,g2,g3⟩].flatMap oI) .full,.l [([]:List iB)].length ([([]:List iB)].flatMap Cl) .full]) ?_ ?_
 ·simp only[cD,Cj,mX,oI,iP,ze,Cl,aqe,Ca,Th,ap8,Ti,af_,aq,bB]
  repeat' first
   | exact fR.refl _
   | exact Wk.refl _
   | exact Wk.tok
   | refine fR.cons ?_ ?_
   | refine Wk.l ?_
 refine VC.gen ?_;intro O5 e5
 have aod:vH O5 (O1.N+1) k bb O1.N ⟨g1,g2,g3⟩ ([Cj ⟨g1,g2,g3⟩],[[]]) .full .full O.N:=by
  refine⟨by rw[e5];exact υ _ _ _,?_,trivial,trivial,λi h=>(by cases h),?_,rfl,?_⟩;rw[e5,VH.sx,gE _ (by omega)];exact rT;rw[e5];show O1.N+1<O4.N/\O1.N<O4.N;omega;intro j c hj;have hl:=(YI.1 hj).1;simp only[ap8]at hl;(obtain rfl:j=0:=by omega);simp only[List.getElem?_cons_zero,Option.some.injEq]at hj;subst hj;simp[Cj]
 have dS:∀j,j<O2.N->j≠O1.N+1->O5.hp j=O2.hp j:=λj _ h2=>by rw[e5,π _ _ h2,gE j h2]
 have eJ:O5.N=O2.N:=by rw[e5];exact fT
 have dG:=(dS _ (by omega) (by omega)).trans cG;have qn:O.Ge O5:=⟨by rw[eJ,fc];omega,λj hj=>(dS j (by omega) (by omega)).trans ((aK.trans aC).hp j hj)⟩;clear e5 gE fT Gm dS;refine Ξ [7,8] (λ_:tC×Tok×Tok=>[.p (O.N+1) 0,.p (O1.N+1) 0]) (λx O'=>vH O' (O1.N+1) k bb O1.N ⟨g1,g2,g3⟩ x.1 x.2.1 x.2.2 O.N/\r=φ x.1.1/\O'.hp (O.N+1)=O5.hp (O.N+1)/\O5.N<=O'.N/\∀j,¬U j->j<O.N->O'.hp j=O.hp j) ?_ ?_
 ·refine κ iz ?_;refine χ ?_;refine Θ [9] [1,7,8] (λx:Nat×tC×Tok×Tok=>[mi x.1]) (λx O'=>x.1<=(Ζ x.2.1.1)/\(Ζ x.2.1.1)<=4096/\Ci (jL S) (5000 - x.1) x.1 x.2.1=φ r/\vH O' (O1.N+1) k bb O1.N ⟨g1,g2,g3⟩ x.2.1 x.2.2.1 x.2.2.2 O.N/\CB O' U k bb md S/\O'.hp (O.N+1)=O5.hp (O.N+1)/\(∀y∈x.2.1.2,Ζ y<=1000000)/\O5.N<=O'.N/\∀j,¬U j->j<O.N->O'.hp j=O.hp j) (λx=>5000 - x.1) ((0,([Cj ⟨g1,g2,g3⟩],[[]]),.full,.full)) ?_ ?_;exact⟨aqg _,by show(1:Nat)<=4096;decide,hr,aod,h.ge qn,rfl,by simp,agb _,λj _ hj=>qn.hp j hj⟩;rintro⟨i,S',t1,t2⟩ O6 ⟨hi,hl,pX,AP,hC6,jr,hX6,oD,GB⟩;dsimp only at hi hl pX AP hX6 ⊢;have wS:=AP.cell;simp only[cD,Ca,Th]at wS;have Yk:=bk oq S'.1;by_cases cn:i<Ζ S'.1;rotate_left
  ·obtain rfl:i=Ζ S'.1:=by omega
   have Lr:r=φ S'.1:=by
    rw[show 5000 - (Ζ S'.1)=(4999 - (Ζ S'.1))+1 by omega,Ci,List.getElem?_eq_none (agb _)]at pX;injection pX with pX;exact pX.symm
   refine ο iz wS ?_;exact aB.mk (S',t1,t2) ⟨AP,Lr,jr,oD,GB⟩
  have gh:=jSx i;have hb:S'.1[i]?=φ S'.1[i]:=agc cn;have bG:=c9 oq S'.1 i cn;generalize S'.1[i]=b at*;((((have E0:(S'.1.flatMap oI)[i*13+12]?=φ (mb b.rd):=by simpa using lD (sp:=[]) oq hb (i:=12) rfl);simp only[bB]at E0;rw[show 5000 - i=(4999 - i)+1 by omega,Ci,hb]at pX;dsimp only at pX;refine ξ iz wS ?_;refine Ξ [1,7,8,9] (λ_:tC×Tok×Tok=>[.p bb 0,.p (O.N+1) 0,.p (O1.N+1) 0,mi i]) (λx O'=>i+1<=(Ζ x.1.1)/\(Ζ x.1.1)<=4096/\Ci (jL S) (4999 - i) (i+1) x.1=φ r/\vH O' (O1.N+1) k bb O1.N ⟨g1,g2,g3⟩ x.1 x.2.1 x.2.2 O.N/\CB O' U k bb md S/\O'.hp (O.N+1)=O5.hp (O.N+1)/\(∀y∈x.1.2,Ζ y<=1000000)/\O5.N<=O'.N/\∀j,¬U j->j<O.N->O'.hp j=O.hp j) ?_ ?_;rotate_left);rintro⟨S2,ta,tb⟩ O7 ⟨q1,q2,q3,q4,q5,q6,q7,q8,q9⟩;refine ο iz gh ?_;exact az.N (i+1,S2,ta,tb) ⟨q1,q2,by rw[show 5000 - (i+1)=4999 - i by omega];exact q3,q4,q5,q6,q7,q8,q9⟩ (hm:=(by dsimp only at q1 q2 ⊢;omega)));refine χ ?_;cases Oj:b.rd;rotate_left);rw[Oj]at pX E0;rw[if_pos rfl]at pX;refine ι (aE iz wS E0 ?_);exact aB.mk (S',t1,t2) ⟨cn,hl,pX,AP,hC6,jr,hX6,oD,GB⟩
  rw[Oj]at pX E0;rw[if_neg (by decide)]at pX;cases hm:jL S (uj b)with
  | none=>rw[hm]at pX;cases pX
  | some l=>
  rw[hm]at pX;dsimp only at pX;obtain⟨q,D,hq,rfl⟩:=Jd hm;have Ol:=hS.c _ (List.mem_of_getElem? hq);dsimp only at Ol;(((((((((have EP:=λ(O':VH)(u:O6.Ge O')=>abb (hC6.ge u) hq Ol hS.ne);have hM:nT (j5 (uj b) (eu (uj b) D))=[.s (uj b).g,.s (uj b).a,.s (uj b).v,.s mX,.l 3 ((jG (eu (uj b) D)).flatMap bH) .au,.l 0 [] .au,.l (D.map gQ).length ((D.map gQ).flatMap eZ) .au]:=rfl;rw[hM]at EP;generalize (jG (eu (uj b) D)).flatMap bH=X1 at*;simp only[pf,jd,aq]at EP;refine θ (aE iz wS E0 ?_);refine θ (aE iz wS bG ?_);refine τ (ah4 b O6) ?_;rintro _ O7 ⟨rfl,fG⟩;refine ae iz ?_;refine τ (EP O7 fG) ?_;rintro _ O8 ⟨rfl,hC8,Es,hf8⟩;refine ae iz ?_;refine VC.gen ?_;intro O9 e9;have hUl:∀j,U j->j<O.N:=h.lt);have hm9:O9.hp O8.N=φ (.cells [.s (uj b).g,.s (uj b).a,.s (uj b).v,.s mX,.l 3 X1 .au,.l 0 [] .au,.l (D.map gQ).length ((D.map gQ).flatMap eZ) .au]):=by rw[e9,VH.sx];exact υ _ _ _);have hp9:O9.hp (O8.N+1)=φ (.cells [.v (Ι Κ 0),.s [],.s [],.s [],.v (Ι Κ 0),.v (Ι Κ 0),.v (Ι Κ 0),.s []]):=by rw[e9];exact υ _ _ _);have afl:O8.Ge O9:=by rw[e9];exact((((VH.Ge.refl _).push _).push _).set (agb _) _).set (by omega) _);have AL:O9.N=O8.N+2:=by rw[e9];rfl);clear e9;have xp:=fG.N;have Ym:∀j,¬U j->j<O6.N->O9.hp j=O6.hp j:=λj h1 h2=>by rw[afl.hp j (by omega),hf8 j h1 (by omega),fG.hp j h2]);have hT9:vH O9 (O1.N+1) k bb O1.N ⟨g1,g2,g3⟩ S' t1 t2 O.N:=AP.mv (by omega) (by omega) (by omega) λj h1 h2=>Ym j (λhu=>by have:=hUl j hu;omega) h2);have hC9:=hC8.ge afl;have b9:O9.hp (O.N+1)=O5.hp (O.N+1):=(Ym _ (λhu=>by have:=hUl _ hu;omega) (by omega)).trans jr;have hf9:∀j,¬U j->j<O.N->O9.hp j=O.hp j:=λj h1 h2=>(Ym j h1 (by omega)).trans (GB j h1 h2));clear EP hC8 hf8 fG afl Ym AP hC6 jr GB wS bG E0;refine ξ iz hp9 ?_;refine VL.HK aa (bb:=γ) (b:=Α) (by simp) (by simp[kK]) (.inr ⟨rfl,rfl⟩) (by kernel_rfl) (by kernel_rfl) rfl rfl rfl rfl ?_;refine ae iz ?_;refine Ξ [1,7,8,9,10] (λ_:Unit=>[.p bb 0,.p (O.N+1) 0,.p (O1.N+1) 0,mi i,.p O8.N 0]) (λ_ O'=>O'=O9) ?_ ?_
  ·by_cases h0:i=0
   ·have h0':((i:Int)==0)=Α:=by simpa using h0
    refine ξ iz h0' ?_;refine VC.pC rfl ?_;refine ξ iz hm9 ?_;refine χ ?_;refine Θ [81] [1,7,8,9,10,79,80] (λ_:Nat=>[mi 0]) (λ_ O'=>O'=O9) (λx=>x) (0) ?_ ?_;rfl;rintro _ fM rG;rw[rG];refine ν iz ?_;exact aB.mk () rfl
   ·have h0':((i:Int)==0)=γ:=by simpa using h0
    refine ο iz h0' ?_;exact aB.mk () rfl
  rintro _ fM rG;rw[rG];clear rG fM;refine ξ iz hm9 ?_
  have hne:∀n∈D.map gQ,I7 n/\(Ζ n.x)<=1:=λn hn=>by
   obtain⟨d,hd,rfl⟩:=alU.1 hn;exact afk (Ol.d d hd)
  (have AF:(D.map gQ).length<=40:=by rw[ake];exact Ol.n);generalize D.map gQ=L at*;clear hm9 hp9 hM;refine χ ?_;refine Θ [96] [1,7,8,9,94,95] (λx:Nat×tC×Tok×Tok=>[mi x.1]) (λx O'=>x.1<=(Ζ L)/\(Ζ x.2.1.1)<=4096/\x.2.1.1[i]?=φ b/\Ax i b (L.drop x.1) x.1 x.2.1=Ax i b L 0 S'/\vH O' (O1.N+1) k bb O1.N ⟨g1,g2,g3⟩ x.2.1 x.2.2.1 x.2.2.2 O.N/\CB O' U k bb md S/\O'.hp (O.N+1)=O5.hp (O.N+1)/\(∀y∈x.2.1.2,Ζ y<=1000000)/\O9.N<=O'.N/\∀j,¬U j->j<O.N->O'.hp j=O.hp j) (λx=>(Ζ L) - x.1) ((0,S',t1,t2)) ?_ ?_
  ·exact⟨aqg _,hl,hb,rfl,hT9,hC9,b9,hX6,agb _,hf9⟩
  rintro⟨j,S2,ta,tb⟩ fM ⟨hj,ni,Gk,SI,Bm,SF,LR,Yn,H9,afm⟩;dsimp only at hj ni Gk SI Bm Yn ⊢;have hii:=(YI.1 Gk).1;by_cases aM:j<Ζ L;rotate_left
  ·obtain rfl:j=Ζ L:=by omega
   rw[List.drop_length,Ax]at SI;rw[<-SI]at pX;refine ν iz ?_;exact aB.mk (S2,ta,tb) ⟨hii,ni,pX,Bm,SF,LR,Yn,by omega,afm⟩
  have cA:=jSx j;have ajO:=c9 qH L j aM;obtain⟨dh,rA⟩:=hne _ (ap_ aM);rw[aqb aM,Ax]at SI;generalize L[j]=n at*;(have Gl:=λ(O':VH)(u:fM.Ge O')=>ah8 (Bm.ge u) (by have:=u.N;omega) Gk j n dh Yn ni);have hinv:=λS3 (h:Cg S2 i b j n=φ S3)=>Wh h ni Gk
  generalize Cg S2 i b j n=R at*;obtain⟨⟨k1,k2,k3,k4⟩,v,s,o,x⟩:=n;dsimp only at rA;simp only[eZ,iP,ze,aq,bB,Ca,Th,Ti,af_]at ajO Gl;have apJ:=bk qH L;refine κ iz ?_;refine κ iz ?_;refine Γ (χ ?_);refine ξ iz ajO ?_;refine VC.al ?_;rintro rR ⟨r4,aoe,aiT⟩;refine ξ iz aoe ?_;refine τ (Gl rR r4) ?_;intro m AQ Om;have apK:=dG;cases R with
  | none=>
    dsimp only at Om SI;rw[<-SI]at pX;dsimp only at pX;injection pX with pX;subst pX;obtain⟨rfl,IZ⟩:=Om;have afn:=(IZ.hp _ (by have:=r4.N;omega)).trans (r4.at (LR.trans dG));have alu:=r4.N;have LN:=IZ.N;simp only[pf,afc,aq];refine ae iz ?_;refine VC.al ?_;rintro O13 ⟨Je,Yo,RL⟩;have aof:=Je.at afn;refine ο iz Yo ?_;refine VL.HK aa (bb:=Α) (b:=γ) (by simp) (by simp[kK]) (.inr ⟨rfl,rfl⟩) (by kernel_rfl) (by kernel_rfl) rfl rfl rfl rfl ?_;refine ae iz ?_;refine WC.bW .any [(1,.bh),(0,.one),(2,.one)] ?_;refine aE iz Yo aof ?_
    exact⟨rfl,by show O.N<=O13.N;omega,λl h1 h2=>by
     rw[VH.sx,Je.hp l (by omega),IZ.hp l (by omega),r4.hp l (by omega)];exact afm l h1 h2⟩
  | some S3=>
    dsimp only at Om SI;obtain⟨rfl,ta',tb',Yj,LN,ajP⟩:=Om;obtain⟨p5,cN,kD⟩:=hinv S3 rfl;have alu:=r4.N;have di:∀l,l<O.N->l≠O1.N+1/\Tok.id ta≠φ l/\Tok.id tb≠φ l:=λl h1=>⟨by omega,λe=>by have:=(App.nZ Bm.a1 e).1;omega,λe=>by have:=(App.nZ Bm.a2 e).1;omega⟩
    have Yp:∀l,l<O.N->AQ.hp l=fM.hp l:=λl h1=>by
     obtain⟨u1,u2,u3⟩:=di l h1;rw[ajP l (by omega) u1 u2 u3,r4.hp l (by omega)]
    have cU:∀l,l<fM.N->fM.hp l≠φ .tok->l≠O1.N+1->AQ.hp l=fM.hp l:=λl h1 h2 h3=>by
     rw[ajP l (by omega) h3 (λe=>h2 (App.tok Bm.a1 e)) (λe=>h2 (App.tok Bm.a2 e)),r4.hp l (by omega)]
    have afn:=(cU (O.N+1) (by omega) (by rw[LR,dG];simp) (by omega)).trans (LR.trans dG);simp only[pf,jd,aq];refine ae iz ?_;refine VC.al ?_;rintro O13 ⟨Je,Yo,RL⟩;refine ο iz Yo ?_;refine VL.HK aa (bb:=γ) (b:=Α) (by simp) (by simp[kK]) (.inr ⟨rfl,rfl⟩) (by kernel_rfl) (by kernel_rfl) rfl rfl rfl rfl ?_;refine ae iz ?_;refine ο iz cA ?_;refine az.N (j+1,S3,ta',tb') ⟨aM,p5,cN,SI,Yj.ge Je,(SF.mv (by omega) λl hl=>Yp l (hUl l hl)).ge Je,?_,?_,by omega,λl h1 h2=>?_⟩;rw[Je.hp _ (by omega),afn,dG];intro y hy;rcases kD y hy with hy | rfl;exact Yn y hy;exact alR rA (by decide);rw[Je.hp l (by omega),Yp l h2];exact afm l h1 h2
 rintro⟨S',t1,t2⟩ O6 ⟨AP,rfl,jr,oD,GB⟩;have AM:=AP.cell;simp only[cD,Ca,Th]at AM;rw[dG]at jr;refine θ (aE iz AM jr ?_);refine ν iz ?_;exact⟨⟨t1,rfl⟩,by show O.N<=O6.N;omega,λj h1 h2=>Δ (GB j h1 h2)⟩
def rowsOf(S:List (Gv×List Dp)):List (Gv×Bs×Option Pm):=S.map λp=>(p.1,cV (ia (eu p.1 p.2)),Β)
def Yq{O:VH}{k ke kv ce cv:Nat}{L:List (Gv×Bs×Option Pm)}{E V:gI}{r a:Int}(h:p9 O k L E V ke kv ce cv r a){j:Nat}(hj:Own k ke kv E V j):j<O.N:=by
 have hl:=h.st.lt;rcases hj with rfl | rfl | rfl | ⟨i,c,p,hi⟩ | ⟨p,hp,n,cs,tk,e1,e2⟩;exact hl.1;exact hl.2.1;exact hl.2.2;have dm:=(YI.1 hi).1;rw[h.len]at dm;obtain⟨q,c',h1,h2,_⟩:=h.NK i L[i].1 L[i].2.1 L[i].2.2 (agc dm);rw[hi]at h1;injection h1 with h1;simp only[Prod.mk.injEq,MV.p.injEq]at h1;omega;obtain⟨n',cs',tk',k1,k2,k3,k4,k5⟩:=h.ver.row p hp;rw[e1]at k1;injection k1 with _ _ k1;subst k1;exact(App.nZ k4 e2).2
def uo:=WT iz<|WT T86<|WT Eo<|WT HX<|WT Da<|WT Gf T82
mutual
def afo:∀x:Nd,tu x->(cV x).length<=1000000->Dl x
 | .mk n a k t,h,hl=>by
   rw[tu]at h;obtain⟨hn,rfl,rfl,hk,h⟩:=h;rw[lh hn.ne hk]at hl
   have AB:wj k/\(Ζ k)<=1000000:=by
    rcases h with⟨s,hs,rfl⟩ | h;rw[lG,cV,if_pos rfl,I2 hs.all]at hl;refine⟨?_,by simp⟩;simp only[wj,Dl];exact⟨⟨by simp,by omega,by simp,by simp,by simp,trivial⟩,trivial⟩;obtain⟨h1,h2⟩:=Yr k h (by omega);exact⟨h1,by omega⟩
   rw[Dl];exact⟨by omega,by simp,by simp,by simp,AB.2,AB.1⟩
def Yr:∀K:List Nd,Bq K->(bf K).length<=1000000->wj K/\(Ζ K)<=(bf K).length
 | [],_,_=>by rw[wj];exact⟨trivial,by simp⟩
 | x::K,h,hl=>by
   rw[Bq]at h;rw[bf,akb]at hl ⊢;have h1:=afo x h.1 (by omega);have h2:=Yr K h.2 (by omega)
   have h3:1<=(cV x).length:=by
    obtain⟨n,a,k,t⟩:=x;have hx:=h.1;rw[tu]at hx;obtain⟨hn,rfl,rfl,hk,_⟩:=hx;rw[lh hn.ne hk];omega
   rw[wj,abx];exact⟨⟨h1,h2.1⟩,by omega⟩
end
def abc(h:PmW (eu g D)):Bq (fN g D):=by
 refine o7 λx hx=>?_
 unfold fN at hx;rcases alQ.1 hx with hx | hx;simp only[ap2,aoT,or_false]at hx;rcases hx with rfl | rfl | rfl;exact wR GZ h.g;exact wR G3 h.a;exact wR Og h.v
 ·by_cases e:D=[];rw[if_pos e]at hx;cases hx
  ·rw[if_neg e,akd]at hx;rw[hx,tu]
   exact⟨Gz _,rfl,rfl,λe2=>e (alO.1 e2),.inr (o7 λy hy=>by
    obtain⟨d,hd,rfl⟩:=alU.1 hy;exact(L4 (h.ft d hd)).1)⟩
def Calm.nd(h:Calm g D):Dl (ia (eu g D)):=by
 have ht:=h.text;have he:=wQ h.w;rw[he]at ht ⊢;refine afo _ ?_ (alR ht (by decide));rw[tu];exact⟨Gz _,rfl,rfl,by unfold fN;simp,.inr (abc h.w)⟩
def afp(a v:Bs)(s:Int)(O:VH):VF Ε 20 [.s a,.s v,mi s] O (aH λm O'=>m= .agg (aX (xC a v s))/\O.Ge O'):=by
 refine VF.fg ?_;simp only[xC,gS,aX,aq,Ti,af_];refine ω 11 [.cell 6 56] func20 ?_;refine κ uo ?_;refine κ uo ?_;refine ν uo ?_;exact((VH.Ge.refl O).push _).set (agb _) _
def ah_(O:VH):VF Ε 23 [] O (aH λm O'=>m= .agg (cD ⟨gS,[97],v1⟩)/\O.Ge O'):=by
 simp only[gS,v1,cD];refine ω 2 [.cell 0 60] func23 ?_;refine κ uo ?_;refine κ uo ?_;refine ν uo ?_;exact((VH.Ge.refl O).push _).set (agb _) _
def alv{r:Int}(h:p9 O k (rowsOf S) E V ke kv ce cv r a)(n v:Bs)(D:List Dp)(tk:Tok)(hc:Calm ⟨gS,n,v⟩ D)(dh:∀p∈S,p.1≠⟨gS,n,v⟩)(hS:Ζ S<1024):
  VF Ε 21 [.p k 0,.s n,.s v,.l (Ζ D) (D.flatMap aX) tk] O (aH λm O'=>m=mb Α/\(∃E' V' Vu Vv,p9 O' k (rowsOf (S++[(⟨gS,n,v⟩,D)])) E' V' ke kv Vu Vv r a)/\O.N<=O'.N/\∀i cs,i<O.N->O.hp i=φ (.cells cs)->O'.hp i=φ (.cells cs)):=by
 have hw:=λO'=>adl (O:=O') (eu ⟨gS,n,v⟩ D) (by simp[eu]) (by simp[eu]) (by show (Ζ D)<=_;have:=hc.n;omega) (λd hd=>by
  simp only[eu,Th]at hd;have:=(hc.d d hd).xl;omega)
 have hp:=λO'=>aao (ia (eu ⟨gS,n,v⟩ D)) O' (alR hc.text (by decide)) hc.nd
 have ajQ:=λ(O':VH)(u:O.Ge O')=>ak4 (h.ge u) ⟨gS,n,v⟩ (cV (ia (eu ⟨gS,n,v⟩ D))) hc.may hc.gav (λx hx=>by
  obtain⟨p,hp,rfl⟩:=alU.1 hx;exact dh p hp) (by simp[rowsOf];exact hS)
 have cU:rowsOf (S++[(⟨gS,n,v⟩,D)])=rowsOf S++[(⟨gS,n,v⟩,cV (ia (eu ⟨gS,n,v⟩ D)),Β)]:=by simp[rowsOf]
 rw[cU];generalize cV (ia (eu ⟨gS,n,v⟩ D))=T at*;generalize ia (eu ⟨gS,n,v⟩ D)=X at*;simp only[eu,iR,cD,gS,aq,bB,Ti,af_]at hw ajQ ⊢;refine ω 23 [.tmp 8] func21 ?_;refine κ uo ?_;refine κ uo ?_;refine VC.al ?_;rintro O1 ⟨aK,eS,dd⟩;refine VC.wkH eS (cs':=[.v (.bool γ),.s [],.s [],.s [],.s [103],.s n,.s v,.s [],.l 0 [] .au,.l 0 [] .au,.l (Ζ D) (D.flatMap aX) .au]) ?_ ?_
 ·repeat' first
   | exact fR.refl _
   | exact Wk.refl _
   | exact Wk.tok
   | refine fR.cons ?_ ?_
 refine VC.gen ?_;intro O2 e2;have jY:O2.hp O.N=φ (.cells [.v (.bool γ),.s [],.s [],.s [],.s [103],.s n,.s v,.s [],.l 0 [] .au,.l 0 [] .au,.l (Ζ D) (D.flatMap aX) .au]):=by rw[e2];exact υ _ _ _
 have aC:O.Ge O2:=by rw[e2];exact aK.set (agb _) _
 clear e2;refine ξ uo jY ?_;refine τ (hw O2) ?_;rintro _ O3 ⟨rfl,aJ⟩;refine ae uo ?_;refine τ (hp O3) ?_;rintro _ O4 ⟨rfl,aT⟩;refine ae uo ?_;have iS:=(aC.trans aJ).trans aT;refine τ (ajQ O4 iS) ?_;rintro _ O5 ⟨rfl,cX,eJ,Kf⟩;have fT:=iS.N;refine ae uo ?_;refine ν uo ?_;exact⟨cX,by omega,λi cs h1 h2=>Kf i cs (by omega) ((iS.hp i h1).trans h2)⟩
def afq(c:UInt8)(h:nY c=Α:=by decide)(h2:c≠36:=by decide):xD [c]:=nmi (by simp[h]) (by simp) (by simpa using h2)
def On{s:Int}(hn:xD n)(hs:s=0\/s=1\/s=2\/s=3\/s=4\/s=5):Wg (xC n v1 s):=⟨rfl,hn,.one,rfl,rfl,hs,.inl rfl,by simp[xC],by simp[xC]⟩
def gA:Gv:=⟨gS,[97],v1⟩
def alw:xD [97]:=afq _
def afr:xD [98]:=afq _
def Wi:xD [99]:=afq _
def Oo{r:Int}(h:p9 O k (rowsOf S) E V ke kv ce cv r a){ds:Η}{l:Nat}(uB:ds=D.flatMap aX)(hl:l=Ζ D)(hc:Calm ⟨gS,n,v⟩ D)(dh:∀p∈S,p.1≠⟨gS,n,v⟩)(hS:Ζ S<1024):
  VF Ε 21 [.p k 0,.s n,.s v,.l l ds tk] O (aH λm O'=>m=mb Α/\(∃E' V' Vu Vv,p9 O' k (rowsOf (S++[(⟨gS,n,v⟩,D)])) E' V' ke kv Vu Vv r a)/\O.N<=O'.N/\∀i cs,i<O.N->O.hp i=φ (.cells cs)->O'.hp i=φ (.cells cs)):=by
 subst uB;subst hl;exact alv h n v D tk hc dh hS
def bnB(b:Br):Bn:=⟨b.up,b.dp,b.od,b.k,b.v,γ,b.v,0,[],.au,b.sc,b.rd⟩
def SJ:Calm gA [xC [98] v1 0,xC [99] v1 0]:=⟨rfl,alw,.one,by simp[On afr,On Wi],by simp[xC],by simp⟩
section
variable{G H:Gh}{n:Sz}{D:List Deferred}{e e':Env}{a:Act}{P:Program}{tab:cL}{O O':VH}{w:World}{m m':MV}{u v:Value}{ops:Array Oper}{Q:VQ}{c d:Code}
def Wj(ops:Array Oper):Bool:=ops.all λo=>match o.op with
 | .defer _=>γ
 | _=>Α
def abd{o:Oper}(h:Wj ops=Α)(ho:ops[i]?=φ o):∀c,o.op≠ .defer c:=λc hc=>by
 have:=Array.all_eq_true'.1 h o (Array.mem_of_getElem? ho);rw[hc]at this;cases this
def FFr(ro:ϑ):Fence:={Fence.wide with round:=ro}
def zA{ro:ϑ}{Q:Exit->Act->World->Prop}{K:Act->World->Prop}(hL:¬LetsOut Q)(hd:ro=Β\/Wj ops=Α)(l2:Τ)(hK:∀a w,K a w->wpOpsIn (FFr ro) 0 P ops Q l2 a w):
  ∀(l1:Τ)(a:Act)(w:World),wpOps P ops (Exit.then K Q) l1 a w->wpOpsIn (FFr ro) 0 P ops Q (l1++l2) a w:=by
 intro l1;induction l1 with
 | nil=>intro a w h;exact hK a w h
 | cons i rest ih=>
   intro a w h;simp only[wpOps]at h;simp only[Ca,wpOpsIn];cases ho:ops[i]? with
   | none=>simp only[ho]at h;exact ih a w h
   | some o=>
     simp only[ho]at h;by_cases hw:Region.wanted o (yielded ops a.tmps)=Α
     ·simp only[hw,if_true]at h ⊢;have hL':¬LetsOut (Exit.then K Q):=hL;rcases h with h | h
      ·refine⟨λ_ _=>trivial,?_⟩
       have hs:o.semAt ro a.eval=execOp a.eval o:=by
        rcases hd with rfl | hd;rfl;exact Oper.semAt_eq _ _ _ (abd hd ho)
       show o.uponIn (FFr ro) 0 P a _ Q ((o.semAt ro a.eval).run P w);rw[hs];unfold Oper.wp at h;generalize (execOp a.eval o).run P w=r at h ⊢;cases r with
       | ok nx w'=>
         cases nx with
         | value v=>exact ih _ _ h
         | skip=>exact ih _ _ h
         | «defer» d=>exact ih _ _ h
         | enter f args=>
           refine⟨(λh=>by cases h),?_⟩;have h1:CallsIn (FFr ro) (0 - 1) P f args w' _:=callsIn_wide.2 h;refine h1.mono ?_;intro x JG hx;cases x with
           | returned v=>exact ih _ _ hx
           | panicked c=>exact hx
           | outgrown=>exact absurd hx hL'
         | row row args=>
           refine⟨(λh=>by cases h),?_⟩;intro c cs _;obtain⟨v,JG,r,s⟩:=h c cs;exact⟨v,JG,ih _ _ r,stepsIn_wide.2 s⟩
         | _=>exact h.elim
       | halt x w'=>
         cases x<;>first
          | exact h
          | exact False.elim h
      ·exact absurd h.2 hL'
     ·simp only[hw,if_false,alS]at h ⊢;exact⟨λ_ _=>trivial,ih _ _ h⟩
def E5:¬LetsOut (c7 G n D Q):=by
 rintro⟨a,w,x,e,O,H,_,_,_,h,_⟩;cases x<;>exact h
def then_self{Q:Exit->Act->World->Prop}:Exit.then (Q .normal) Q=Q:=by
 funext y a w
 cases y<;>rfl
def Kh(P:Program)(n:Sz)(y:Nat)(c:Code)(e:Env)(O:VH)(Q:VQ):Prop:=∀G a w,WR G O w->FR G n [] e a->c.wpIn (FFr (φ y)) 0 P (c7 G n [] Q) a w
def Oq(l:ϕ)(L:ϕ)(k:Nat)(hL:∀j,L[j]?=Β\/L[j]?=l[k+j]?)(h:VL P n D .plain ⟨l⟩ (L.map (Fl.one, ·)) e O Q):jR P n D ⟨l⟩ (List.range' k (Ζ L)) e O Q:=by
 have:=h 0 #[] _ (yf (ops:=⟨l⟩) L k λj=>by simpa using hL j) (λh=>absurd rfl h);simp only[abU,List.map_map]at this;rw[show((λx:Nat×Fl=>x.1) ∘ λx=>(x,Fl.one))=_root_.id from rfl,List.map_id]at this;exact this
def Kh.region{id:Nat}(h:WL P tab n [] .plain ⟨l⟩ Q (l.map (Fl.one, ·)) e O)(ht:aR P tab:=by exact aa)(hd:Wj ⟨l⟩=Α:=by kernel_rfl):Kh P n y (.region id ⟨l⟩ γ) e O Q:=by
 intro G a w hw hf;have h1:=Oq l l 0 (λj=>.inr (by simp)) (WL.sound ht h);refine wpIn_region ?_;rw[show(⟨l⟩:Array Oper).size=(Ζ l) from rfl,List.range_eq_range', <-alT (List.range' 0 (Ζ l))];exact zA (K:=c7 G n [] Q .normal) E5 (.inr hd) [] (λ_ _ h=>h) _ a w (by rw[then_self];exact h1 G a w hw hf)
def Kh.block{id:Nat}(h:Kh P n y c e O (jT id Q)):Kh P n y (.block id c) e O Q:=by
 intro G a w hw hf;refine wpIn_block (wpIn_mono (h G a w hw hf) ?_);rintro y a' w' ⟨x,e',O',H,h1,h2,h3,h4,h5⟩;cases y with
 | exit j=>
   cases x with
   | exit i=>
     obtain rfl:i=j:=h4;simp only[Exit.inBlock];simp only[jT]at h5;split;rename_i hi;rw[if_pos hi]at h5;exact⟨.normal,e',O',H,h1,h2,h3,trivial,h5⟩;rename_i hi;rw[if_neg hi]at h5;exact⟨.exit i,e',O',H,h1,h2,h3,rfl,h5⟩
   | _=>exact False.elim h4
 | _=>cases x<;>first
   | exact False.elim h4
   | exact⟨_,e',O',H,h1,h2,h3,h4,h5⟩
def VY(P:Program)(y:Nat)(ms:Η)(O:VH)(R:MV->VH->Prop):Prop:=∀G w vs,WR G O w->aW G ms vs->YieldAt Fence.wide 0 P y vs.toArray w λx w'=>∃v m O' H,x= .returned v/\Gh.Le G H/\WR H O' w'/\VR H m v/\R m O'
def lpF(k y:Nat)(ts:Array Value)(n:Sz)(e:Env):GP:=⟨λG=>G.cu k=φ y/\FR G n [] e {tmps:=ts,defers:=[]},λhl h=>⟨hl.cu h.1,h.2.mono hl⟩⟩
def uP:List Tmp->Η->Env->Env
 | t::ts,m::ms,e=>uP ts ms ((t,m)::e)
 | _,_,e=>e
def FR.uP:∀{ps:List Tmp} {ms:Η} {vs:List Value} {e:Env} {ts:Array Value},FR G n D e {tmps:=ts,defers:=D}->aW G ms vs->ps.all (λt=>decide (t<n.n))=Α->
  FR G n D (uP ps ms e) {tmps:=(ps.zip vs).foldl (λt (p:Tmp×Value)=>t.setIfInBounds p.1 p.2) ts,defers:=D}
 | [],ms,vs,e,ts,h,_,_=>by simpa[Go.Proofs.YtjpadehgejlebaaGreatDoor.uP]using h
 | t::ps,[],vs,e,ts,h,hv,_=>by rw[hv.jN];simpa[Go.Proofs.YtjpadehgejlebaaGreatDoor.uP]using h
 | t::ps,m::ms,vs,e,ts,h,hv,ha=>by
   obtain⟨u,us,rfl,h1,h2⟩:=hv.fH;simp only[List.all_cons,aqj,decide_eq_true_eq]at ha;exact FR.uP (ps:=ps) (h.put ha.1 h1) h2 ha.2
def RdB(k:Nat)(r:Loop)(R:MV->VH->Prop):VQ:=λx _ O2=>x= .normal/\O2.hp k=φ (.obj (.loop {r with state:=.busy}))/\R (.v (.bool Α)) (O2.set k (.obj (.loop {r with pending:=Β})))
def RdA(P:Program)(n:Sz)(y k:Nat)(r:Loop)(body:Code)(R:MV->VH->Prop):VQ:=λx e1 O1=>x= .normal/\O1.hp k=φ (.obj (.loop r))/\Kh P n y body e1 (O1.set k (.obj (.loop {r with state:=.busy}))) (RdB k r R)
def VY.round{r:Loop}{ps:List Tmp}{ms:Η}{R:MV->VH->Prop}(hk:O.hp k=φ (.obj (.loop r)))(hj:O.hp j=φ (.fact (lpF k y r.tmps n e)))(hr:r.state= .ready)(hp:r.params.toList=ps)(hn:ps.all (λt=>decide (t<n.n))=Α)(hl:Ζ ms=Ζ ps)
  (h:Kh P n y r.assign (uP ps ms e) O (RdA P n y k r r.body R)):VY P y ms O R:=by
 intro G w vs hw hv;obtain⟨b,hb,hh⟩:=hw.obj k _ hk;obtain⟨fC,aZ⟩:=hw.Eb j _ hj;rw[fC]at hb;injection hb with hb;subst hb
 have r7:vs.toArray.size=r.params.size:=by
  rw[show vs.toArray.size=(Ζ vs) from rfl,hv.1,hl, <-hp];rfl
 refine⟨r.fn,_,r.assign,r.body,run_yield hh r7,roundIn_of_wpIn trivial ?_⟩
 have aog:FR G n [] (uP ps ms e) {tmps:=(r.params.zip vs.toArray).foldl (λt (p:Tmp×Value)=>t.setIfInBounds p.1 p.2) r.tmps,defers:=[]}:=by
  rw[<-Array.foldl_toList,Array.toList_zip,hp];exact FR.uP aZ hv hn
 refine wpIn_mono (h G _ w hw aog) ?_;rintro x a1 w1 ⟨x',e1,O1,H,g1,g2,g3,g4,rfl,cK,alx⟩
 cases x<;>first
  | exact False.elim g4
  | skip
 have afs:=g1.cu fC;obtain⟨b,hb,hh1⟩:=g2.obj k _ cK;rw[afs]at hb;injection hb with hb;subst hb;have oA:=g2.setObj (Y:=.loop {r with state:=.busy}) cK afs (λ_ _ _ e=>by cases e);refine⟨_,run_beginRound hh1 hr,wpIn_mono (alx H a1 _ oA g3) ?_⟩;rintro x a2 w2 ⟨x',e2,O2,H2,q1,q2,q3,q4,rfl,bY,hR⟩
 cases x<;>first
  | exact False.elim q4
  | skip
 have ajR:=q1.cu afs;obtain⟨b,hb,hh2⟩:=q2.obj k _ bY;rw[ajR]at hb;injection hb with hb;subst hb;refine⟨_,_,run_endRound Β hh2,_,_,_,H2,rfl,g1.trans q1,q2.setObj bY ajR (λ_ _ _ e=>by cases e),.v rfl,?_⟩;have:({r with state:=.ready,pending:=Β}:Loop)={r with pending:=Β}:=by rw[<-hr]
 simp only[Option.isNone_none,if_true];rw[this];exact hR
def YW(P:Program)(tab:cL)(n:Sz)(D:List Deferred)(l:ϕ)(k:Nat)(o:Oper)(x:Operand)(as_:Array Operand)(Q:VQ):VQ:=λz e1 O1=>z= .normal/\∃y ms R,aQ ⟨l⟩ o e1=φ Α/\ev e1 x=φ (.func (.yield y) [] [])/\il e1 as_.toList=φ ms/\bL n o.dst=Α/\VY P y ms O1 R/\
   ∀m O',R m O'->WL P tab n D .plain ⟨l⟩ Q ((l.drop (k+1)).map (Fl.one, ·)) (bt o.dst m e1) O'
def YW.mk{o:Oper}{as_:Array Operand}{ms:Η}{R:MV->VH->Prop}(hv:VY P y ms O R)(h:∀m O',R m O'->WL P tab n D .plain ⟨l⟩ Q ((l.drop (k+1)).map (Fl.one, ·)) (bt o.dst m e) O')(h1:aQ ⟨l⟩ o e=φ Α:=by exact rfl)(h2:ev e x=φ (.func (.yield y) [] []):=by exact rfl)(h3:il e as_.toList=φ ms:=by exact rfl)(h4:bL n o.dst=Α:=by exact rfl):YW P tab n D l k o x as_ Q .normal e O:=
 ⟨rfl,y,ms,R,h1,h2,h3,h4,hv,h⟩
def VC.yield{id:Nat}(k:Nat){o:Oper}{ca:Call}(hk:l[k]?=φ o)(ux:o.op= .call ca)(hc:ca.callee= .value x)
  (h:WL P tab n D .plain ⟨l⟩ (YW P tab n D l k o x ca.args Q) ((l.take k).map (Fl.one, ·)) e O) (ht:aR P tab:=by exact aa):VC P n D (.region id ⟨l⟩ γ) e O Q:=by
 intro G a w hw hf;have gW:k<Ζ l:=(YI.1 hk).1;rw[<-wpIn_wide (n:=0)];refine wpIn_region ?_;have hlen:(l.take k).length=k:=by rw[List.length_take];omega
 have h1:=Oq l (l.take k) 0 (λj=>by
  by_cases hj:j<k;rw[List.getElem?_take,if_pos hj,ap5];exact .inr rfl;exact .inl (by rw[List.getElem?_take,if_neg hj])) (WL.sound ht h)
 rw[hlen]at h1
 have aia:List.range (⟨l⟩:Array Oper).size=List.range' 0 k++k::List.range' (k+1) (l.drop (k+1)).length:=by
  rw[show(⟨l⟩:Array Oper).size=(Ζ l) from rfl,List.range_eq_range',aqs];(obtain⟨j,hj⟩:∃j,Ζ l=k+(j+1):=⟨(Ζ l) - k - 1,by omega⟩);rw[hj,show k+(j+1) - (k+1)=j from by omega, <-List.range'_append_1,ap5,List.range'_succ]
 rw[aia]
 refine zA (ro:=Β) (K:=λa1 w1=>∃e1 O1 H,Gh.Le G H/\WR H O1 w1/\FR H n D e1 a1/\∃y ms R,aQ ⟨l⟩ o e1=φ Α/\ev e1 x=φ (.func (.yield y) [] [])/\il e1 ca.args.toList=φ ms/\bL n o.dst=Α/\VY P y ms O1 R/\
   ∀m O',R m O'->WL P tab n D .plain ⟨l⟩ Q ((l.drop (k+1)).map (Fl.one, ·)) (bt o.dst m e1) O') E5 (.inl rfl) _ ?_ _ a w ?_
 ·rintro a1 w1 ⟨e1,O1,H,g1,g2,g3,y,ms,R,q1,q2,q3,q4,q5,q6⟩;have BY:(⟨l⟩:Array Oper)[k]?=φ o:=by simpa using hk
  simp only[wpOpsIn,BY,bN g3 q1,if_true];refine⟨λ_ _=>trivial,?_⟩;have xS:=g3.ev q2;generalize Cy:a1.eval x=fv at xS;cases xS with
  | func h1 h2 h3 h4=>
    rename_i us vs;have kI:us=[]:=alP h1;have qQ:vs=[]:=alP h3;subst kI;subst qQ;have jH:=g3.il q3;obtain⟨fn,tmps,asg,body,cT,aib⟩:=q5 H w1 _ g2 jH
    have hex:(execOp a1.eval o).run P w1= .ok (.round y fn tmps asg body) w1:=by
     (have ha: #[]++ca.args.map a1.eval=(ca.args.toList.map a1.eval).toArray:=by apply Array.ext';simp);simp only[execOp,ux,resolve,hc,Cy,Deferred.ofValue,Sem.run_bind,Sem.run_pure,Result.andThen_ok,invoke];rw[ha];exact cT
    show o.uponIn (FFr Β) 0 P a1 _ _ ((execOp a1.eval o).run P w1);rw[hex,Oper.uponIn_round];refine⟨(λh=>by cases h),RoundIn.mono aib ?_⟩;rintro x w2 ⟨v,m,O',H2,rfl,p1,p2,p3,p4⟩;have h2:=Oq l (l.drop (k+1)) (k+1) (λj=>.inr (by rw[List.getElem?_drop])) (WL.sound ht (q6 m O' p4));have h3:=h2 H2 (a1.put o.dst v) w2 p2 ((g3.mono p1).bt q4 p3);have h4:=oy (λ_ _ _=>c7.le (g1.trans p1)) _ _ _ h3;have:=zA (ro:=Β) (K:=c7 G n D Q .normal) E5 (.inl rfl) [] (λ_ _ h=>h) _ _ w2 (by rw[then_self];exact h4);rw[alT]at this;exact this
 ·refine oy ?_ _ _ _ (h1 G a w hw hf);rintro y a1 w1 ⟨z,e1,O1,H,g1,g2,g3,g4,rfl,g5⟩
  cases y<;>first
   | exact False.elim g4
   | exact⟨e1,O1,H,g1,g2,g3,g5⟩
def SK(G:Gh):Τ->List Deferred->Prop
 | [],[]=>True
 | j::js,d::D=>(∃b,G.cu j=φ b/\d={target:=.collected b,args:= #[]})/\SK G js D
 | _,_=>False
def SK.mono(h:G.Le H):∀{js:Τ} {D:List Deferred},SK G js D->SK H js D
 | [],[],_=>trivial
 | _::_,_::_,⟨⟨b,h1,h2⟩,h3⟩=>⟨⟨b,h.cu h1,h2⟩,h3.mono h⟩
 | [],_::_,h=>h.elim
 | _::_,[],h=>h.elim
abbrev Ki:=VX->Env->VH->List Nat->Prop
def sk(G:Gh)(n:Sz)(Q:Ki):Exit->Act->World->Prop:=λy a w=>∃x e O H js D,Gh.Le G H/\WR H O w/\FR H n D e a/\SK H js D/\XR H x y/\Q x e O js
def sk.le(h:G.Le H){Q:Ki}{y:Exit}(hp:sk H n Q y a w):sk G n Q y a w:=by
 obtain⟨x,e,O,K,js,D,h1,h2⟩:=hp;exact⟨x,e,O,K,js,D,h.trans h1,h2⟩
def VM(P:Program)(n:Sz)(js:Τ)(c:Code)(e:Env)(O:VH)(Q:Ki):Prop:=∀G D a w,WR G O w->SK G js D->FR G n D e a->c.wp P (sk G n Q) a w
def ma(P:Program)(n:Sz)(js:Τ)(c:Code)(Q:Ki):Env->VH->Prop:=λe O=>VM P n js c e O Q
def AtM(Q:Ki)(js:Τ):VQ:=λx e O=>Q x e O js
variable{js:Τ}{M:Ki}
def FRX.fr{x:VX}(h:FRX G n D x e a):FR G n D e a:=by
 cases x<;>first
  | exact h
  | exact h.2
def ma.mk(h:VM P n js c e O M):ma P n js c M e O:=h
def VM.JR(h:∀D,VC P n D c e O (AtM M js)):VM P n js c e O M:=λG D a w hw hm hf=>wp_mono (h D G a w hw hf) λy a' w' ⟨x,e',O',H,h1,h2,h3,h4,h5⟩=>⟨x,e',O',H,js,D,h1,h2,h3.fr,hm.mono h1,h4,h5⟩
def VM.ag(h:∀D,VC P n D c e O (tW (ma P n js d M) (AtM M js))):VM P n js (.seq c d) e O M:=by
 intro G D a w hw hm hf;refine wp_seq (wp_mono (h D G a w hw hf) ?_);rintro y a1 w1 ⟨x,e',O',H,g1,g2,g3,g4,g5⟩
 cases y<;>cases x<;>first
  | exact False.elim g4
  | exact wp_mono (g5 H D a1 w1 g2 (hm.mono g1) g3) λ_ _ _=>sk.le g1
  | exact⟨_,e',O',H,js,D,g1,g2,g3.fr,hm.mono g1,g4,g5⟩
  | exact⟨_,e',O',H,js,D,g1,g2,g3,hm.mono g1,g4,g5⟩
def VM.uq(h:∀D,WC P tab n D c e O (tW (ma P n js d M) (AtM M js)))(ht:aR P tab:=by exact aa):VM P n js (.seq c d) e O M:=VM.ag λD=>WC.sound ht (h D)
def VM.seq (h:VM P n js c e O λx e O js=>match x with
  | .normal=>VM P n js d e O M
  | x=>M x e O js):VM P n js (.seq c d) e O M:=by
 intro G D a w hw hm hf;refine wp_seq (wp_mono (h G D a w hw hm hf) ?_);rintro y a1 w1 ⟨x,e',O',H,zB,D',g1,g2,g3,g4,g5,g6⟩
 cases y<;>cases x<;>first
  | exact False.elim g5
  | exact wp_mono (g6 H D' a1 w1 g2 g4 g3) λ_ _ _=>sk.le g1
  | exact⟨_,e',O',H,zB,D',g1,g2,g3,g4,g5,g6⟩
def VM.join{σ :Type}(l:Τ)(ms: σ ->Η)(I: σ ->VH->List Nat->Prop) (h1:VM P n js c e O λx e O js=>match x with
  | .normal=>∃s,looks e l=φ (ms s)/\I s O js
  | x=>M x e O js) (h2:∀s O js,I s O js->VM P n js d (kJ l (ms s) []) O M):VM P n js (.seq c d) e O M:=by
 refine VM.seq λG D a w hw hm hf=>wp_mono (h1 G D a w hw hm hf) ?_
 rintro y a1 w1 ⟨x,e',O',H,zB,D',g1,g2,g3,g4,g5,g6⟩;cases x with
 | normal=>
   obtain⟨s,h3,h4⟩:=g6;exact⟨.normal,kJ l (ms s) [],O',H,zB,D',g1,g2,g3.less (jU (e0:=[]) (λt x h=>by simp[look]at h) h3),g4,g5,h2 s O' zB h4⟩
 | _=>exact⟨_,e',O',H,zB,D',g1,g2,g3,g4,g5,g6⟩
def VM.cond{t:Bool}{c1 c2:Code}(hc:ev e x=φ (mb t))(h:VM P n js (if t then c1 else c2) e O M):VM P n js (.cond x c1 c2) e O M:=by
 intro G D a w hw hm hf;have hv:=hf.ev hc;generalize hx:a.eval x=u at hv;have:=VR.j8 hv;subst this;exact wp_cond hx (h G D a w hw hm hf)
def L6(id:Nat)(M:Ki):Ki:=λx e O js=>match x with
 | .exit i=>if i=id then M .normal e O js else M (.exit i) e O js
 | x=>M x e O js
def L6.ex{id:Nat}(h:M .normal e O js):AtM (L6 id M) js (.exit id) e O:=by
 show(if id=id then M .normal e O js else M (.exit id) e O js);rw[if_pos rfl];exact h
def VM.block{id:Nat}(h:VM P n js c e O (L6 id M)):VM P n js (.block id c) e O M:=by
 intro G D a w hw hm hf;refine wp_block (wp_mono (h G D a w hw hm hf) ?_);rintro y a' w' ⟨x,e',O',H,zB,D',h1,h2,h3,h4,h5,h6⟩;cases y with
 | exit j=>
   cases x with
   | exit i=>
     obtain rfl:i=j:=h5;simp only[Exit.inBlock];simp only[L6]at h6;split;rename_i hi;rw[if_pos hi]at h6;exact⟨.normal,e',O',H,zB,D',h1,h2,h3,h4,trivial,h6⟩;rename_i hi;rw[if_neg hi]at h6;exact⟨.exit i,e',O',H,zB,D',h1,h2,h3,h4,rfl,h6⟩
   | _=>exact False.elim h5
 | _=>cases x<;>first
   | exact False.elim h5
   | exact⟨_,e',O',H,zB,D',h1,h2,h3,h4,h5,h6⟩
def VM.loop{σ :Type}{ks:Η}(l K:Τ)(ms: σ ->Η)(I: σ ->VH->List Nat->Prop)(μ : σ ->Nat)(s0: σ)(hI:I s0 O js)
  (step:∀s O js,I s O js->VM P n js c (kJ l (ms s) (kJ K ks [])) O λx e' O' zB=>match x with
   | .normal=>looks e' K=φ ks/\∃s',looks e' l=φ (ms s')/\I s' O' zB/\ μ s'< μ s
   | x=>M x e' O' zB) (h0:looks e l=φ (ms s0):=by exact rfl) (hk:looks e K=φ ks:=by exact rfl):VM P n js (.loop c) e O M:=by
 intro G D a w hw hm hf;refine wp_loop_rounds (μ s0+1) ?_
 suffices h:∀(k:Nat)(s: σ)(e:Env)(O:VH)(js:Τ)(G:Gh)(D:List Deferred)(a:Act)(w:World), μ s=k->looks e l=φ (ms s)->looks e K=φ ks->I s O js->WR G O w->SK G js D->FR G n D e a->Code.rounds P c (sk G n M) (k+1) a w from
  h _ s0 e O js G D a w rfl h0 hk hI hw hm hf
 intro k;induction k using Nat.strongRecOn with
 | _ k ih=>
   intro s e O js G D a w hs hl hK hI hw hm hf;rw[rounds_succ];refine wp_mono (step s O js hI G D a w hw hm (hf.less (jU (jU (e0:=[]) (λt x h=>by simp[look]at h) hK) hl))) ?_;rintro y a' w' ⟨x,e',O',H,zB,D',h1,h2,h3,h4,h5,h6⟩
   cases y<;>cases x<;>first
    | exact False.elim h5
    | exact⟨_,e',O',H,zB,D',h1,h2,h3,h4,h5,h6⟩
    | (obtain⟨q1,s',q2,q3,q4⟩:=h6
       exact BL (μ s'+1) k a' w' (by omega) (vZ (λ_ _ _=>sk.le h1) _ _ _ (ih (μ s') (by omega) s' e' O' zB H D' a' w' rfl q2 q1 q3 h2 h4 h3)))
def WR.abe(h:WR G O w)(p:GP)(hp:p.p G):WR G (O.push (.fact p)) w:=by
 have hne:∀{j x},bS O.hp O.N (φ (.fact p)) j=φ x->(∀q,x≠ .fact q)->O.hp j=φ x:=λ{j x} hj hx=>by
  by_cases e:j=O.N;subst e;rw[aN]at hj;injection hj with hj;exact absurd hj.symm (hx _)
  ·rwa [aA _ _ e]at hj
 have ll:∀j b,G.cu j=φ b->bS O.hp O.N (φ (.fact p)) j≠Β->O.hp j≠Β:=λj b hj hn=>by
  rwa [aA _ _ (λe=>by subst e;rw[h.oM.1]at hj;cases hj)]at hn
 refine⟨h.base,h.fB,λj hj=>?_,λj c hj=>?_,λi j c li lj hi hj=>h.inj i j c (ll i c hi li) (ll j c hj lj) hi hj,λj cs hj=>h.cells j cs (hne hj (by simp)),λj es ck hj=>h.map j es ck (hne hj (by simp)),λt ht=>h.tok t (hne ht (by simp)),λs t c x y hs ht=>h.nM s t c x y (hne hs (by simp)) (hne ht (by simp)),λj k' t' n' hj=>h.mC j k' t' n' (hne hj (by simp)),λj x hj=>h.obj j x (hne hj (by simp)),h.tI,λj q hj=>?_⟩;have hj:O.N+1<=j:=hj;obtain⟨h1,h2,h3⟩:=h.sq j (by omega);exact⟨h1,h2,by show bS _ _ _ _=_;rw[aA _ _ (by omega)];exact h3⟩;obtain⟨p1,p2,p3⟩:=h.lU j c hj;exact⟨p1,p2,λhn=>p3 (ll j c hj hn)⟩;have hj:bS O.hp O.N (φ (.fact p)) j=φ (.fact q):=hj;by_cases e:j=O.N;subst e;rw[aN]at hj;injection hj with hj;injection hj with hj;subst hj;exact hp;rw[aA _ _ e]at hj;exact h.Eb j q hj
def lpO(O:VH)(r:Loop)(y:Nat)(n:Sz)(e:Env):VH:=((O.push (.obj (.deferred (φ [])))).push (.obj (.loop r))).push (.fact (lpF (O.N+1) y r.tmps n e))
def VM.aic{g:Operand}{ps:Array Tmp}{asg body:Code}{gf:FuncId}(hg:ev e g=φ (.func (.func gf) [] cs))(hE:Enters P gf)
  (hit:∀(y:Nat)(r:Loop)(F:VH),F=lpO O r y n e->r.state= .ready->r.pending=Β->r.params=ps->r.assign=asg->r.body=body->VF P gf (.func (.yield y) [] []::cs) F
   (aH λ_ O'=>O'.hp (O.N+1)=φ (.obj (.loop r))/\M .normal e (O'.set (O.N+1) (.obj (.loop {r with state:=.exhausted}))) (O.N::js))):
  VM P n js (.rangeFunc g ps asg body) e O M:=by
 intro G D a w hw hm hf;rw[<-wpIn_wide (n:=0)];refine wpIn_rangeFunc ?_;intro fn _;have xS:=hf.ev hg;generalize Cy:a.eval g=fv at xS;cases xS with
 | func h1 h2 h3 h4=>
   rename_i us vs;have kI:us=[]:=alP h1;subst kI;(((obtain⟨r,hr⟩:∃r:Loop,r={state:=.ready,pending:=Β,fn,tmps:=a.tmps,params:=ps,assign:=asg,body,defers:=w.heap.size}:=⟨_,rfl⟩);obtain⟨le1,w1⟩:=hw.Qi (.deferred (φ []));obtain⟨Wl,w2⟩:=w1.Qi (.loop r);rw[size_alloc]at Wl w2;generalize hG1:({G with cu:=bS G.cu O.N (φ w.heap.size)}:Gh)=G1 at le1 w1 Wl w2;generalize hG2:({G1 with cu:=bS G1.cu (O.push (.obj (.deferred (φ [])))).N (φ (w.heap.size+1))}:Gh)=G2 at Wl w2;have p1:G1.cu O.N=φ w.heap.size:=by rw[<-hG1];exact aN _ _ _);have p2:G2.cu (O.N+1)=φ (w.heap.size+1):=by rw[<-hG2];exact aN _ _ _);have lB:r.tmps=a.tmps:=by rw[hr]
   have aoh:FR G2 n [] e {tmps:=r.tmps,defers:=[]}:=by
    rw[lB];exact(show FR G n [] e {tmps:=a.tmps,defers:=[]}from⟨rfl,hf.size,hf.get⟩).mono (le1.trans Wl)
   have w3:=w2.abe (lpF (O.N+1) (w.heap.size+1) r.tmps n e) ⟨p2,aoh⟩;have gV:aW G2 cs vs:=aW.mono (le1.trans Wl) ⟨h3,h4⟩;have aly:=hit (w.heap.size+1) r _ rfl (by rw[hr]) (by rw[hr]) (by rw[hr]) (by rw[hr]) (by rw[hr]) G2 _ (.func (.yield (w.heap.size+1)) #[] #[]::vs) w3 (aW.cons (.func (us:=[]) (vs:=[]) rfl (λi c u h=>by simp at h) rfl (λi c u h=>by simp at h)) gV);refine⟨w.heap.size+1,[{target:=.collected w.heap.size,args:= #[]}],(w.alloc (.deferred (φ []))).alloc (.loop r),{target:=.fn (.func gf) vs.toArray,args:= #[.func (.yield (w.heap.size+1)) #[] #[]]},(w.alloc (.deferred (φ []))).alloc (.loop r),gf,(.func (.yield (w.heap.size+1)) #[] #[]::vs).toArray,(w.alloc (.deferred (φ []))).alloc (.loop r),?_,?_,λ_ _=>trivial,?_,(λh=>by cases h),?_⟩;rw[hr];exact run_enterLoop_outer _ _ _ _ _;simp only[resolve,Cy];simp[go_sem]
   ·(have:(#[.func (.yield (w.heap.size+1)) #[] #[]]++vs.toArray:Array Value)=(.func (.yield (w.heap.size+1)) #[] #[]::vs).toArray:=by apply Array.ext';simp);show(callFunc gf (#[.func (.yield (w.heap.size+1)) #[] #[]]++vs.toArray)).run P _=_;rw[this];exact hE _ _
   ·refine(callsIn_wide.2 aly).mono ?_;rintro x w4 ⟨rr,O4,H,q1,q2,q3,q4⟩;cases rr with
    | panic m=>exact q4.elim
    | ret m=>
      cases x with
      | panicked c=>exact q3.elim
      | outgrown=>exact q3.elim
      | returned v=>
        obtain⟨nD,hM⟩:=q4;have ajS:=q1.cu p2;obtain⟨b,hb,hh4⟩:=q2.obj _ _ nD;rw[ajS]at hb;injection hb with hb;subst hb;have hle:Gh.Le G H:=le1.trans (Wl.trans q1);refine⟨r.pending,_,run_endLoop hh4 (by rw[hr];simp),?_⟩
        have q_:sk G n M .normal {tmps:=a.tmps,defers:=[{target:=.collected w.heap.size,args:= #[]}]++a.defers} (w4.putObj (w.heap.size+1) (.loop {r with state:=.exhausted})):=
         ⟨.normal,e,_,H,O.N::js,{target:=.collected w.heap.size,args:= #[]}::D,hle,q2.setObj nD ajS (λ_ _ _ e=>by cases e),⟨by show _::a.defers=_;rw[hf.defers],hf.size,(hf.mono hle).get⟩,⟨⟨w.heap.size,q1.cu (Wl.cu p1),rfl⟩,hm.mono hle⟩,trivial,hM⟩
        generalize w4.putObj (w.heap.size+1) (.loop {r with state:=.exhausted})=w5 at q_;split;exact q_;rename_i c hc;rw[hr]at hc;cases hc
def Bu{fn:Func}{tmps:Array Value}{R:Ending->World->Prop}{N:Nat}:∀(js:Τ)(D:List Deferred)(G:Gh)(O:VH)(w:World),SK G js D->WR G O w->js.Nodup->(∀j∈js,O.hp j=φ (.obj (.deferred (φ []))))->
  (∀O' w',WR G O' w'->O'.N=O.N->(∀i,i ∉ js->O'.hp i=O.hp i)->∃v,(results fn tmps).run P w'= .ok v w'/\R (.returned v) w')->LeavesInM Fence.wide N P fn tmps R D .returning w
 | [],[],G,O,w,_,hw,_,_,h=>h O w hw rfl λ_ _=>rfl
 | j::js,d::D,G,O,w,⟨⟨b,hb,hd⟩,hm⟩,hw,eN,ho,h=>by
   obtain⟨b',o_,hh⟩:=hw.obj j _ (ho j (by simp));rw[hb]at o_;injection o_ with o_;subst o_;have hj:=(List.nodup_cons.1 eN).1;have oA:=hw.setObj (Y:=.deferred Β) (ho j (by simp)) hb (λ_ _ _ e=>by cases e);refine⟨by simp,.inl ⟨b,_,by rw[hd],run_takeDeferred hh,?_⟩⟩;((refine Bu js D G _ _ hm oA (List.nodup_cons.1 eN).2 (λi hi=>?_) λO' w' g1 g2 g3=>h O' w' g1 g2 λi hi=>?_);rw[π _ _ (λe=>hj (by rw[<-e];exact hi))];exact ho i (by simp[hi]));rw[ap2,not_or]at hi;rw[g3 i hi.2,π _ _ hi.1]
 | [],_::_,_,_,_,h,_,_,_,_=>h.elim
 | _::_,[],_,_,_,h,_,_,_,_=>h.elim
def aoi(tab:cL)(rs:List ResultVar)(R:iE->VH->Prop):Ki:=λx e O js=>(x= .normal\/x= .ret)/\js.Nodup/\(∀j∈js,O.hp j=φ (.obj (.deferred (φ []))))/\∀O',O'.N=O.N->(∀i,i ∉ js->O'.hp i=O.hp i)->∃m,kA (λr O'=>r= .ret m/\R r O') O' (jV tab e O' rs)
def VF.inM{f:FuncId}{fn:Func}{c:Code}{args:Η}{R:iE->VH->Prop}(k:Nat)(rs:List ResultVar)(hf:P.funcs[f]?=φ fn)(h:VM P ⟨k,0⟩ [] c (cZ 0 args) O (aoi tab rs R))(ht:aR P tab:=by exact aa)(hb:fn.body=φ c:=by exact rfl)(hk:(⟨fn.ntmps,0⟩:Sz)=⟨k,0⟩:=by exact rfl)(hr:fn.results.toList=rs:=by exact rfl)(hn:Ζ args<=k:=by exact Nat.le_of_ble_eq_true rfl):VF P f args O R:=by
 have hk:fn.ntmps=k:=by injection hk
 intro G w vs hw hv
 have aZ:FR G ⟨k,0⟩ [] (cZ 0 args) {tmps:=vs.toArray++Array.replicate (fn.ntmps - vs.toArray.size) undef,defers:=[]}:=by
  have hl:=hv.1;refine⟨rfl,by simp;omega,λt x hx=>?_⟩;rw[jS,if_pos (aqg _),Nat.sub_zero]at hx;obtain⟨u,h1,h2⟩:=hv.get hx;refine⟨u,?_,h2⟩;have dm:=(YI.1 h1).1;rw[Array.getElem?_append_left (by simpa using dm)];simpa using h1
 refine callsIn_wide.1 (callsIn_of_wp_marks (n:=0) hf hb trivial (wpIn_wide.2 (wp_mono (h G [] _ w hw trivial aZ) ?_)));rintro y a' w' ⟨x,e',O',H,js,D,h1,h2,h3,h4,h5,h6,h7,h8,h9⟩
 have fin:LeavesInM Fence.wide 0 P fn a'.tmps (λx w'=>∃r O' H,Gh.Le G H/\WR H O' w'/\ER H r x/\R r O') a'.defers .returning w':=by
  rw[h3.defers];(refine Bu js D H O' w' h4 h2 h7 h8 λO2 w2 g1 g2 g3=>?_);obtain⟨m,hm⟩:=h9 O2 g2 g3
  have key:∃m',ee tab fn e' O2=φ m'/\R (.ret m') O2:=by
   unfold ee;rw[hr, <-u7];generalize jV tab e' O2 rs=z at hm;unfold kA at hm;split at hm;exact hm.elim;exact⟨_,rfl,hm.2⟩
   ·rename_i l hl;refine⟨.tuple l,?_,hm.2⟩
    match l,hl with
    | [],_=>rfl
    | [m],hl=>exact absurd rfl (hl m)
    | _::_::_,_=>rfl
  obtain⟨m',k1,k2⟩:=key;obtain⟨u,k3,k4⟩:=np (P:=P) ht g1 h3 k1;exact⟨u,k3,.ret m',O2,H,h1,g1,k4,k2⟩
 cases y with
 | normal=>exact fin
 | ret=>exact fin
 | panic c=>rcases h6 with rfl | rfl<;>exact False.elim h5
 | exit i=>rcases h6 with rfl | rfl<;>exact False.elim h5
 | goto i=>rcases h6 with rfl | rfl<;>exact False.elim h5
 | outgrown=>rcases h6 with rfl | rfl<;>exact False.elim h5
end
end Go.Proofs.YtjpadehgejlebaaGreatDoor
