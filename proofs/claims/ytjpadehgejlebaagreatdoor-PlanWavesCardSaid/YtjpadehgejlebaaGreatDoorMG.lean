import Derived.Test.YtjpadehgejlebaaGreatDoorMF
set_option linter.unusedVariables false
set_option linter.defProp false
set_option maxHeartbeats 8000000
set_option linter.unusedSimpArgs false
namespace Go.Proofs.YtjpadehgejlebaaGreatDoor
open Go.RowKit
open _root_.List renaming range → Ν
open _root_.List renaming replicate → Μ
open _root_.Go.Proofs.Tryz
open Go.Value renaming int → Ι
open Go.IntKind renaming i64 → Κ
open _root_.List renaming length → Ζ
open _root_.Go.Proofs.Tryz renaming prog → Ε
open _root_.Option renaming some → φ, none → Β
open _root_.Bool renaming false → γ, true → Α
open _root_.List renaming getElem?_eq_getElem → Ca, mem_cons → Th, mem_cons_self → Ti, length_map → WT, getElem?_map → YI, mem_cons_of_mem → af_, getElem_mem → agc, length_append → aka, take_length → akb, getElem?_eq_none → akc, getD_eq_getElem?_getD → akd, mem_singleton → ake, take_append_getElem → akf, mem_append → alO, getElem?_eq_some_iff → alP, length_cons → alQ, pairwise_cons → alR, mem_range → alT, getElem?_range → alU, getElem?_set_self → alV, getElem?_set_ne → aoT, take_of_length_le → ap3, length_singleton → ap4, append_nil → ap5, map_append → ap6, take_add_one → ap7, length_take → ap9, mem_map → aqa, getElem?_replicate → aqb, nodup_cons → aqd, ext_getElem? → aqf, length_range → aqg, mem_append_left → aqi, flatMap_append → aqk, nil_append → aql, countP_append → aqn, mem_singleton_self → aqo, take_zero → aqp, drop_zero → aqq, getElem?_set → aqr, countP_le_length → aqt, countP_cons → aqu, all_eq_true → aqv, cons_append → aqw, not_mem_nil → aqx, contains_append → aqy, mem_of_mem_take → aqz, range_succ → aqA, map_congr_left → aqB, nodup_nil → aqC, map_cons → aqD, getElem?_append_left → aqE, flatMap_cons → aqF, flatMap_nil → aqG, length_nil → aqI
open _root_.Nat renaming le_refl → abx, zero_le → agb, le_trans → alS, min_eq_left → ap2, mul_one → ap_, le_of_lt → aqh
open _root_.And renaming intro → aga
open _root_.Option renaming map_some → aqe, map_none → aqH
open _root_.Int renaming eq_ofNat_of_zero_le → aqc, toNat_natCast → aqs
open _root_.Bool renaming eq_false_iff → ap8, and_eq_true → aqj, false_eq_true → aqm, true_and → aqN
variable{e:Env}{l1 l2 l3 mo st u1 u2 u3:Int}{S:List (Gv×List Dp)}{g:List (List Int)}{X:List Ch}{D F Q r:List Int}{L R cs y z:List MV}{js l:List Nat}{cv gv p po pw rv:MV}{Φ:MV->VH->Prop}{B N a b b' bb bn bo bp br bs c ck d f i j k ke m md n sz u v x:Nat}{G R':Nat->List Int}{U:Nat->Prop}{T:Nat->Tok}{P:Program}{t tc tk:Tok}{A C O O' O2 O5:VH}{tab:cL}
set_option maxRecDepth 10000
def abf(vb:Nat)(k:Ky)(O:VH):VF Ε 119 [.p vb 0,.agg (iP k)] O (aH λm O'=>m= .func (.func 147) [] [.p O.N 0,.p (O.N+1) 0]/\O'=(O.push (.cells [.p vb 0])).push (.cells (iP k))):=by
 obtain⟨k1,k2,k3,k4⟩:=k;simp only[iP];refine ω 6 [.tmp 4] func119 ?_;refine κ dj ?_;refine ν dj ?_;try trivial
def Wm(L:List Bn)(tk:Tok)(V:List Bool)(hL:Ζ L<=1000000)(hV:Ζ V=Ζ L)(k:Ky)(y b1 b2 vb lb cb mp:Nat)(J:Nat->VH->Prop)(hJ:∀j A B,J j A->A.Ge B->J j B)
  (hd:∀j A,J j A->(b1<A.N/\b2<A.N/\vb<A.N/\lb<A.N)/\A.hp b1=φ (.cells [.p vb 0])/\A.hp b2=φ (.cells (iP k))/\A.hp vb=φ (.cells [.l (Ζ L) (L.flatMap gu) tk,.aS lb 0 (Ζ L) (Ζ L),.aS cb 0 (Ζ L) (Ζ L),.map mp])/\A.hp lb=φ (.cells (V.map mb)))
  (hs:∀j (h:j<Ζ L),(V.getD j γ&&tS L[j].k k)=γ->∀A,J j A->J (j+1) A)
  (hy:∀j (h:j<Ζ L),(V.getD j γ&&tS L[j].k k)=Α->∀A,J j A->VY Ε y [.agg (gu L[j])] A λm O'=>m=mb Α/\J (j+1) O') (O:VH) (h0:J 0 O):
  VF Ε 147 [.func (.yield y) [] [],.p b1 0,.p b2 0] O (aH λ_ O'=>J (Ζ L) O'):=by
 obtain⟨k1,k2,k3,k4⟩:=k;simp only[iP]at hd;have hlen:=bk m4 L;have ll:(V.map mb).length=Ζ L:=by simp[hV]
 have hgB:∀u,u<(Ζ L)->(V.map mb)[u]?=φ (.v (.bool (V.getD u γ))):=λu hu=>by
  rw[YI,akd,Ca (by omega)];rfl
 obtain⟨_,ha0,oE,Gb,F9⟩:=hd 0 O h0;refine ω 36 [] func147 ?_;refine θ (cB dj ha0 Gb @oB ?_);refine χ ?_;refine Θ [11] [0,1,2,9,10] (λj:Nat=>[mi j]) (λj O'=>j<=(Ζ L)/\J j O') (λj=>(Ζ L) - j) (0) ?_ ?_;exact⟨agb _,h0⟩;clear ha0 oE Gb F9;rintro j O3 ⟨hj,Gs⟩;by_cases aM:j<Ζ L;rotate_left
 ·obtain rfl:j=Ζ L:=by omega
  refine ν dj ?_;exact Gs
 have cA:=jSx j;have bG:=c9 m4 L j aM;have hgv:=hgB j aM;have hsj:=hs j aM;have hyj:=hy j aM;generalize L[j]=b at*;obtain⟨up,dp,od,⟨q1,q2,q3,q4⟩,v,hdd,rv,nn,iv,Sn,s,rd⟩:=b;simp only[gu,aq,bB]at bG hyj;dsimp only at hsj hyj;generalize V.getD j γ=vj at*;refine κ dj ?_;refine κ dj ?_;refine Γ (χ ?_);refine ξ dj bG ?_;refine VC.al ?_;rintro O4 ⟨aT,lz,fT⟩;have hJ4:=hJ j O3 O4 Gs aT;obtain⟨⟨apL,an5,aja,anv⟩,gd,dy,DW,rS⟩:=hd j O4 hJ4;cases vj;have hJ5:=hsj (by rw[Bool.false_and]) O4 hJ4;refine θ (wc dj gd DW rS ll hgv ?_);refine ν dj ?_;refine ο dj cA ?_;exact az.N (j+1) ⟨aM,hJ5⟩;rw[aqN]at hsj hyj;have hE:PU Ε (bR Ε) 9 40 (.agg [.s q1,.s q2,.s q3,.s q4]) (.agg [.s k1,.s k2,.s k3,.s k4])=φ (tS ⟨q1,q2,q3,q4⟩ ⟨k1,k2,k3,k4⟩):=by kernel_rfl
 generalize tS ⟨q1,q2,q3,q4⟩ ⟨k1,k2,k3,k4⟩=ek at*;cases ek;have hJ5:=hsj rfl O4 hJ4;refine θ (JS dj gd DW rS ll hgv lz dy ?_);refine VL.HK aa (bb:=γ) (b:=γ) (by simp) (by simp[kK]) (.inl ⟨rfl,rfl⟩) hE (by kernel_rfl) rfl rfl rfl rfl ?_;refine ae dj ?_;refine ν dj ?_;refine ο dj cA ?_;exact az.N (j+1) ⟨aM,hJ5⟩;refine Γ ?_;refine VC.yield 16 rfl rfl rfl ?_;simp only[List.take_succ_cons,aqp,aqD,List.map_nil,List.drop_succ_cons,aqq];refine JS dj gd DW rS ll hgv lz dy ?_;refine VL.HK aa (bb:=Α) (b:=Α) (by simp) (by simp[kK]) (.inl ⟨rfl,rfl⟩) hE (by kernel_rfl) rfl rfl rfl rfl ?_;refine ao dj lz ?_;refine YW.mk (hyj rfl O4 hJ4) ?_;rintro _ O5 ⟨rfl,hJ5⟩;refine ae dj ?_;refine ν dj ?_;refine ο dj cA ?_;exact az.N (j+1) ⟨aM,hJ5⟩
def Ot(h:js.Nodup)(hl:∀i∈js,i<N)(hj:N<=j):(j::js).Nodup:=aqd.2 ⟨λhm=>by have:=hl j hm;omega,h⟩
def Ou(O O':VH)(js:Τ):Prop:=js.Nodup/\∀j∈js,O.N<=j/\j<O'.N/\O'.hp j=φ (.obj (.deferred (φ [])))
def Ou.ge{B:VH}(h:Ou O A js)(hg:A.Ge B):Ou O B js:=⟨h.1,λj hj=>by
 obtain⟨h1,h2,h3⟩:=h.2 j hj;exact⟨h1,Nat.lt_of_lt_of_le h2 hg.N,hg.at h3⟩⟩
def GR.eR{O7 O6 O1:VH}{el:TypeId}{X:Η}(h:GR O7 el sz B p n X)(hg:O1.Ge O7)(hB:O1.N<=B)(u:bM O7 (gid p) O6):O1.Ge O6:=by
 rcases h with⟨_,_,rfl | rfl⟩ | ⟨k,c,rfl,_,_,hr⟩;exact bM.geN hg u;exact bM.geN hg u;exact bM.ge hg u (alS hB hr.lo)
def Ou.bS{B:VH}{el:TypeId}{X:Η}(h:Ou O A js)(hr:GR A el sz b p n X)(u:bM A (gid p) B):Ou O B js:=⟨h.1,λj hj=>by
 obtain⟨h1,h2,h3⟩:=h.2 j hj;refine⟨h1,Nat.lt_of_lt_of_le h2 u.N,(u.hp j h2 λe=>?_).trans h3⟩;rcases hr with⟨_,_,rfl | rfl⟩ | ⟨k,c,rfl,_,_,hr⟩;cases e;cases e;injection e with e;subst e;obtain⟨sp,h4,_⟩:=hr.cells;rw[h3]at h4;cases h4⟩
def GR.marks{B:VH}{el:TypeId}{X:Η}(hr:GR A el sz b p n X)(hn:B.N=A.N)(hi:∀i,i ∉ js->B.hp i=A.hp i)(hj:∀j∈js,A.hp j=φ (.obj (.deferred (φ [])))):GR B el sz b p n X:=by
 rcases hr with h | ⟨k,c,rfl,h1,h2,⟨sp,h3,h4⟩,⟨j,h5,h6,h7⟩,h8,h9⟩;exact .inl h;exact .inr ⟨k,c,rfl,h1,h2,⟨sp,(hi k λh=>by rw[hj k h]at h3;cases h3).trans h3,h4⟩,⟨j,h5,by rw[hn];exact h6,(hi j λh=>by rw[hj j h]at h7;cases h7).trans h7⟩,h8,by rw[hn];exact h9⟩
def VF.abg{f:FuncId}{args:Η}{Φ':MV->VH->Prop}(h:VF P f args O (aH Φ))(hf:∀m O', Φ m O'-> Φ' m O'\/∃k o n c sz cs,m= .aS k o n c/\O'.hp k=φ (.cells cs)/\o+sz<=(Ζ cs)/\ Φ' (.l n ((cs.drop o).take sz) (if c=n then .full else .au)) (O'.kill k)):VF P f args O (aH Φ'):=by
 intro G w vs hw hv;refine(h G w vs hw hv).mono λx w' ⟨r,O',H,h1,h2,h3,h4⟩=>?_
 cases r with
 | panic m=>exact h4.elim
 | ret m=>
   cases x with
   | panicked c=>exact h3.elim
   | outgrown=>exact h3.elim
   | returned v=>
     rcases hf m O' h4 with g | ⟨k,o,n,c,sz,cs,rfl,g1,g2,g3⟩;exact⟨.ret _,O',H,h1,h2,h3,g⟩;obtain⟨H',e1,e2,e3⟩:=h2.freeze g1 h3 g2;exact⟨.ret _,_,H',h1.trans e1,e2,e3,g3⟩
def GR.wider{el:TypeId}{B':Nat}{X:Η}(h:GR O el sz B p n X)(hB:B'<=B):GR O el sz B' p n X:=by
 rcases h with h | ⟨k,c,h1,h2,h3,h4⟩;exact .inl h;exact .inr ⟨k,c,h1,h2,h3,h4.wider hB⟩
def aft(b:Bn)(M:List (Bn×Bool))(h:¬b.dp>1):Bp b M=b.s:=by
 have:∀(M:List (Bn×Bool))(s:Int),M.foldl (λs p=>if decide (b.dp>1)&&(p.2&&tS p.1.k b.k)then DY s p.1.s else s) s=s:=by
  intro M;induction M with
  | nil=>intro s;rfl
  | cons p M ih=>intro s;rw[List.foldl_cons,decide_eq_false h,Bool.false_and,if_neg (by decide)];simpa[h]using ih s
 exact this M b.s
def ma.al{n:Sz}{c:Code}{M:Ki}(h:∀O3,pM O cs O3->VM P n js c e O3 M):ma P n js c M e ((O.push (.cells z)).set O.N (.cells cs)):=h _ pM.al
def RdA.al{n:Sz}{y:Nat}{r:Loop}{R:MV->VH->Prop}{body:Code}(h:∀O3,pM O cs O3->RdA P n y k r body R .normal e O3):RdA P n y k r body R .normal e ((O.push (.cells z)).set O.N (.cells cs)):=h _ pM.al
def abh(L:List Bn)(tk:Tok)(O:VH)(hL:Ζ L<=1000000)(hk:∀b∈L,∀s∈dK b.k,Ζ s<=maxLen):VF Ε 96 [.l (Ζ L) (L.flatMap gu) tk] O (aH λm O'=>O.Ge O'/\GR O' 42 7 O.N m (c_ L).length ((c_ L).flatMap ju)):=by
 have hlen:=bk m4 L;have kV:=LW L;have hde:=aaW L tk hL hk O;unfold c_;refine VF.inM 53 [.tmp 2] func96 ?_;simp only[cZ,Nat.zero_add,Nat.reduceAdd];refine VM.uq λD=>?_
 refine ae dj ?_;refine ma.mk ?_;refine VM.uq λD=>?_
 refine ae dj ?_;refine τ hde ?_;clear hde;rintro _ O1 ⟨vb,lb,cb,mp,rfl,hvd⟩;generalize o5 L=DD at*;obtain⟨C,V,K⟩:=DD;dsimp only at kV hvd ⊢;clear K;obtain⟨aK,je,ph,fK,jn,hhi⟩:=hvd;have UJ:(C.map mb).length=Ζ L:=by simp[kV.1]
 have hgB:∀(W:List Bool),Ζ W=(Ζ L)->∀u,u<(Ζ L)->(W.map mb)[u]?=φ (.v (.bool (W.getD u γ))):=λW h u hu=>by
  rw[YI,akd,Ca (by omega)];rfl
 refine ae dj ?_;refine ma.mk ?_;refine VM.join [2] (λp:MV=>[p]) (λp O' js=>O.Ge O'/\GR O' 42 7 O.N p (I1 L C V (Ζ L)).length ((I1 L C V (Ζ L)).flatMap ju)/\Ou O O' js) ?_ ?_
 ·refine VM.uq λD=>?_
  refine ao dj @oB ?_;refine ma.mk ?_;refine VM.block ?_;refine VM.loop [2,12] [3,10,11] (λx:Nat×MV=>[x.2,mi x.1]) (λx O' js=>x.1<=(Ζ L)/\O1.Ge O'/\GR O' 42 7 O1.N x.2 (I1 L C V x.1).length ((I1 L C V x.1).flatMap ju)/\Ou O O' js) (λx=>(Ζ L) - x.1) (0,.l 0 [] .nil) ?_ ?_;exact⟨agb _,VH.Ge.refl _,.inl ⟨rfl,rfl,.inl rfl⟩,aqC,λj hj=>by cases hj⟩;rintro⟨j,t1⟩ O3 js ⟨hj,aJ,cJ,iD⟩;dsimp only at hj cJ;by_cases aM:j<Ζ L;rotate_left
  ·obtain rfl:j=Ζ L:=by omega
   refine VM.uq λD=>?_
   refine ae dj ?_;refine ma.mk ?_;(refine VM.uq λD=>?_);refine ae dj ?_;exact L6.ex ⟨t1,rfl,aK.trans aJ,cJ.wider aK.N,iD⟩
  have cA:=jSx j;have bG:=c9 m4 L j aM;((((((have gV:I1 L C V (j+1)=I1 L C V j++if C.getD j γ then[⟨L[j].k,j,L[j].v,Bp L[j] (L.zip V)⟩]else[]:=by rw[I1,Ca aM]);obtain⟨g,oC,E8,qf⟩:=Wa L[j] L V kV.2;generalize L[j]=b at*;obtain⟨up,dp,od,⟨k1,k2,k3,k4⟩,v,hd,rv,nn,iv,Sn,s,rd⟩:=b;simp only[gu,aq,bB]at bG;dsimp only at oC E8 gV;have V_:=hgB C kV.1 j aM;have gU:=Sr L C V j;have hv3:=aJ.at je;have fw:=aJ.at fK;have p5:=aJ.at ph;have n3:=aJ.N;have n1:=aK.N;refine VM.uq λD=>?_);refine ae dj ?_;refine ma.mk ?_;refine VM.uq λD=>?_);refine ae dj ?_;refine ma.mk ?_;refine VM.seq (VM.block ?_);refine VM.uq λD=>?_);refine ao dj bG ?_;refine ma.al ?_;rintro O4 ⟨aT,lz,fT⟩;have DW:=aT.at hv3;have fP:=aT.at fw;have rS:=aT.at p5;cases hc:C.getD j γ);rw[hc]at V_ gV;rw[if_neg (by decide),ap5]at gV;(refine VM.uq λD=>?_);refine iV dj DW fP UJ V_ ?_;refine L6.ex (VM.JR λD=>?_);refine ο dj cA ?_;exact⟨rfl,(j+1,t1),rfl,⟨aM,aJ.trans aT,by rw[gV];exact cJ.BO (bM.mJ aT),iD.ge aT⟩,by dsimp only;omega⟩);rw[hc]at V_ gV;rw[if_pos rfl]at gV;((refine VM.uq λD=>?_);refine iV dj DW fP UJ V_ ?_;refine ma.mk ?_;refine VM.uq λD=>?_);refine ao dj lz ?_;refine ma.al ?_;rintro O5 ⟨bO,mA,eJ⟩;have dG:=bO.at lz;have rN:=bO.at DW;have Ke:=bO.at rS;have Ys:=iD.ge (aT.trans bO);refine VM.join [2,3,6,10,11,12] (λ_:Unit=>[t1,.p vb 0,.p O4.N 0,.l (Ζ L) (L.flatMap gu) tk,.v (Ι Κ (Ζ L)),.v (Ι Κ j)]) (λ_ O' zB=>O4.Ge O'/\O4.N<O'.N/\O'.hp O4.N=φ (.cells [.s k1,.s k2,.s k3,.s k4,.v (Ι Κ j),.s v,.v (Ι Κ (Bp ⟨up,dp,od,⟨k1,k2,k3,k4⟩,v,hd,rv,nn,iv,Sn,s,rd⟩ (L.zip V)))])/\Ou O O' zB) ?_ ?_
  ·by_cases h2:dp>1;rotate_left;have e1:decide (dp>=2)=γ:=decide_eq_false (by omega);have e2:decide (2<=dp)=γ:=e1;(((((((refine VM.JR λD=>?_);refine ι (cB dj dG e1 e2 ?_);exact⟨(),rfl,bO,by omega,by rw[aft _ _ h2];exact mA,Ys⟩);have e1:decide (dp>=2)=Α:=decide_eq_true (by omega);have e2:decide (2<=dp)=Α:=e1;have e3:decide (dp>1)=Α:=decide_eq_true h2;simp only[e3,aqN]at E8;(((refine VM.uq λD=>?_);refine cB dj dG e1 e2 ?_;refine ma.mk ?_;refine VM.cond (t:=Α) rfl ?_;rw[if_pos rfl];have afu:=abf vb ⟨k1,k2,k3,k4⟩ O5;simp only[iP]at afu;refine VM.uq λD=>?_);refine ao dj dG ?_;refine τ afu ?_;clear afu;rintro _ O6 ⟨rfl,e6⟩;obtain⟨gN,oD,pe,qg⟩:=iY _ _ e6;clear e6;refine ae dj ?_;refine ma.mk ?_;refine VM.block ?_;refine VM.aic rfl (Enters.u9) ?_;intro y r F eF lK iA jJ J2 AK;obtain⟨Ov,Vw,U4,Nu,U5⟩:=mQ _ _ _ eF;clear eF;have hcF:F.hp O4.N=φ (.cells [.s k1,.s k2,.s k3,.s k4,.v (Ι Κ j),.s v,.v (Ι Κ (g 0))]):=by rw[oC];exact Ov.at (gN.at mA));have haF:=Ov.at pe;have hkF:=Ov.at qg;have hvF:=Ov.at (gN.at rN);have hlF:=Ov.at (gN.at Ke);have n6:=gN.N;refine VF.mono ?_ (Wm L tk V hL kV.2 ⟨k1,k2,k3,k4⟩ y O5.N (O5.N+1) vb lb cb mp (λk A=>F.N<=A.N/\(∀i,i<F.N->i≠O4.N->A.hp i=F.hp i)/\A.hp O4.N=φ (.cells [.s k1,.s k2,.s k3,.s k4,.v (Ι Κ j),.s v,.v (Ι Κ (g k))])) ?_ ?_ ?_ ?_ F ⟨abx _,λ_ _ _=>rfl,hcF⟩));(·rintro(m | m) A hA;rotate_left;exact hA.elim;obtain⟨hA1,hA2,hA3⟩:=hA;rw[qf]at hA3;refine⟨(hA2 _ (by omega) (by omega)).trans Nu,?_⟩;refine⟨(),rfl,⟨?_,?_⟩,?_,?_,?_,?_⟩;show O4.N<=A.N;omega;intro i hi;rw[VH.sx,hA2 i (by omega) (by omega),Ov.hp i (by omega),gN.hp i (by omega),bO.hp i hi];show O4.N<A.N;omega;rw[VH.sx];exact hA3;refine Ot Ys.1 (N:=O5.N) (λi hi=>(Ys.2 i hi).2.1) (by omega);intro i hi;rcases Th.1 hi with rfl | hi;refine⟨by omega,by show _<A.N;omega,?_⟩;rw[VH.sx,hA2 _ (by omega) (by omega)];exact U4;obtain⟨q1,q2,q3⟩:=Ys.2 i hi;refine⟨q1,by show _<A.N;omega,?_⟩;(have hne:i≠O4.N:=λe=>by subst e;rw[mA]at q3;cases q3);rw[VH.sx,hA2 i (by omega) hne,Ov.hp i (by omega),gN.hp i (by omega)];exact q3));rintro k A B ⟨h1,h2,h3⟩ hAB;have:=hAB.N;exact⟨by omega,λi hi hne=>(hAB.hp i (by omega)).trans (h2 i hi hne),(hAB.hp _ (by omega)).trans h3⟩);rintro k A ⟨h1,h2,h3⟩;exact⟨by omega,(h2 _ (by omega) (by omega)).trans haF,(h2 _ (by omega) (by omega)).trans hkF,(h2 _ (by omega) (by omega)).trans hvF,(h2 _ (by omega) (by omega)).trans hlF⟩);rintro k bY Hi A ⟨h1,h2,h3⟩;have:=E8 k bY;rw[Hi,if_neg (by decide)]at this;exact⟨h1,h2,by rw[this];exact h3⟩);rintro k bY Hi A ⟨h1,h2,h3⟩;have ir:=E8 k bY;rw[Hi,if_pos rfl]at ir;clear Hi;generalize L[k]=z at*;obtain⟨zu,zd,zo,⟨z1,z2,z3,z4⟩,zv,zh,zr,zn,zi,zt,zs,zq⟩:=z;simp only[gu,aq,bB];dsimp only at ir;have Jf:=(h2 (O6.N+1) (by omega) (by omega)).trans Nu;refine VY.round (ps:=[40]) Jf ((h2 (O6.N+2) (by omega) (by omega)).trans U5) lK (by rw[jJ]) rfl rfl ?_;rw[J2,AK];refine Kh.region ?_;simp only[uP];refine ae dj ?_;refine RdA.al ?_;rintro A1 ⟨uN,hzA,AO⟩;have Gw:=uN.at h3 (hk:=by omega);refine⟨rfl,uN.at Jf (hk:=by omega),?_⟩;refine Kh.block (Kh.region ?_);have hw:=aaX (g k) zs (A1.set (O6.N+1) (.obj (.loop {r with state:=.busy})));simp only[aq]at hw;have o_:=υ A1 (O6.N+1) (.obj (.loop {r with state:=.busy}));refine aE dj Gw hzA ?_;refine τ hw ?_;clear hw;rintro _ Ox ⟨rfl,eO⟩;rw[eO];clear eO Ox;rw[<-ir];refine ao dj Gw ?_;refine⟨rfl,(VH.sx).trans o_,rfl,?_,?_,?_⟩;show F.N<=A1.N;omega;intro i hi hne;by_cases e:i=O6.N+1;subst e;rw[υ,Nu];(((congr 3);rw[<-iA]);rw[π _ _ e,π _ _ hne,π _ _ e,uN.hp i (by omega)];exact h2 i hi hne);rw[VH.sx];exact υ _ _ _
  rintro _ O7 js7 ⟨fG,xp,hc7,aoj⟩;have nv:=aJ.trans (aT.trans fG);have Ny:=cJ.BO (bM.mJ (aT.trans fG));((refine VM.JR λD=>?_);refine ο dj hc7 ?_;refine VL.grow aa (.inl rfl) (te:=⟨_,7,96,_⟩) (dx:=.slice 42) (q:=.l 1 [.s k1,.s k2,.s k3,.s k4,.v (Ι Κ j),.s v,.v (Ι Κ (Bp ⟨up,dp,od,⟨k1,k2,k3,k4⟩,v,hd,rv,nn,iv,Sn,s,rd⟩ (L.zip V)))] .full) (j:=1) (ds:=[.s k1,.s k2,.s k3,.s k4,.v (Ι Κ j),.s v,.v (Ι Κ (Bp ⟨up,dp,od,⟨k1,k2,k3,k4⟩,v,hd,rv,nn,iv,Sn,s,rd⟩ (L.zip V)))]) Ny rfl rfl (by rw[Ng];rfl) T42.1.1 (by rw[Ng];rfl) trivial (by dsimp only;omega) (by simp only[maxLen];omega) nv.N rfl rfl rfl rfl ?_;intro m8 O8 iC tJ _ _;refine ae dj ?_;refine VM.JR λD=>?_);refine ο dj cA ?_;exact⟨rfl,(j+1,m8),rfl,⟨aM,Ny.eR nv (abx _) tJ,by rw[gV,aka,aqk,List.flatMap_singleton];exact iC,aoj.bS Ny tJ⟩,by dsimp only;omega⟩
 rintro t O2 js ⟨aC,iA,Yt⟩;refine VM.uq λD=>?_
 refine ae dj ?_;refine ma.mk ?_;refine VM.JR λD=>?_
 refine ν dj ?_;refine⟨.inr rfl,Yt.1,λj hj=>(Yt.2 j hj).2.2,λO' hn hi=>⟨_,rfl,⟨?_,λi h=>?_⟩,iA.marks hn hi λj hj=>(Yt.2 j hj).2.2⟩⟩;rw[hn];exact aC.N;rw[hi i (λhm=>by have:=(Yt.2 i hm).1;omega)];exact aC.hp i h
def Wn:aaY:=by
 intro L tk O hL hk;refine VF.abg (abh L tk O hL hk) ?_;rintro m O' ⟨hg,hr⟩;rcases hr with⟨h1,h2,rfl | rfl⟩ | ⟨k,c,rfl,h1,h2,h3⟩;exact .inl ⟨⟨.nil,by rw[h1,h2]⟩,hg⟩;exact .inl ⟨⟨.full,by rw[h1,h2]⟩,hg⟩;obtain⟨sp,h4,h5⟩:=h3.cells;exact .inr ⟨k,0,_,c,(c_ L).length*7,_,rfl,h4,by rw[aka];omega,⟨_,by rw[aqq,List.take_append_of_le_length (by omega),ap3 (by omega)]⟩,hg.kill h3.lo⟩
def bV:=aga uo<|aga dj<|aga fZ<|aga T3<|aga Ng<|aga T42<|aga T37<|aga T38<|aga qV<|aga T48<|aga HV T40
def dH(n:Nat)(R:Nat->List Int)(T:Nat->Tok):Η:=(Ν n).map λu=>.l (R u).length ((R u).map mi) (T u)
def fW(n:Nat)(R:Nat->List Int)(T:Nat->Tok):(dH n R T).length=n:=by simp[dH]
def lT(R:Nat->List Int)(T:Nat->Tok)(h:u<n):(dH n R T)[u]?=φ (.l (R u).length ((R u).map mi) (T u)):=by
 unfold dH;rw[YI,alU h];rfl
def zC(n:Nat):dH n (λ_=>[]) (λ_=>.nil)=Μ n (.l 0 [] .nil):=
 List.eq_replicate_iff.2 ⟨fW _ _ _,λb hb=>by
  obtain⟨u,_,rfl⟩:=aqa.1 hb;rfl⟩
def jh{R:Nat->List Int}(T:Nat->Tok)(h:∀u,u<n->R u=R' u):dH n R T=dH n R' T:=by
 unfold dH;refine aqB λu hu=>?_
 rw[h u (alT.1 hu)]
def Cm{R:Nat->List Int}(T:Nat->Tok){x:Int}(t:Tok)(hu:u<n)(h1:R' u=R u++[x])(h:∀v,v<n->v≠u->R' v=R v):
  (dH n R T).set u (.l ((R u).length+1) ((R u).map mi++[mi x]) t)=dH n R' (λv=>if v=u then t else T v):=by
 refine aqf λi=>?_
 rw[aqr,fW];by_cases e:u=i;subst e;rw[if_pos rfl,if_pos hu,lT _ _ hu,h1,if_pos rfl,aka,ap6];rfl;rw[if_neg e];by_cases hi:i<n;rw[lT _ _ hi,lT _ _ hi,h i hi (Ne.symm e),if_neg (Ne.symm e)];rw[akc (by rw[fW];omega),akc (by rw[fW];omega)]
def xE(n:Nat)(T:Nat->Tok)(B:Nat)(O:VH):Prop:=(∀u,u<n->App O B 1 (T u))/\∀u v,u<n->v<n->u≠v->∀i,Tok.id (T u)=φ i->Tok.id (T v)≠φ i
def xE.ge(h:xE n T B O)(g:O.Ge A):xE n T B A:=⟨λu hu=>(h.1 u hu).ge g,h.2⟩
def ow{B:VH}(h:App A b sz t)(hi:∀i,b<=i->B.hp i=A.hp i)(hn:A.N<=B.N:=by omega):App B b sz t:=by
 cases t with
 | own t k=>
   obtain⟨g1,g2,g3,g4⟩:=h;exact⟨g1,(hi t g3).trans g2,g3,by omega⟩
 | _=>exact h
def xE.zero(n B:Nat)(O:VH):xE n (λ_=>.nil) B O:=⟨λu _=>trivial,λu v _ _ _ i h=>by cases h⟩
def xE.put(h:xE n T B O)(hu:u<n)(hB:B<=O.N)(hA:A.N=(O.after (T u)).N)(hi:∀i,B<=i->A.hp i=(O.after (T u)).hp i):xE n (λv=>if v=u then .own O.N 1 else T v) B A:=by
 have cH:=h.1 u hu;refine⟨λw hw=>ow (A:=O.after (T u)) ?_ hi (by omega),?_⟩;dsimp only;by_cases e:w=u;rw[if_pos e];exact App.after;rw[if_neg e];exact cy.app (cy.after cH) (h.1 w hw) (λi e'=>h.2 u w hu hw (Ne.symm e) i e');intro w x hw hx hne i hi cn;dsimp only at hi cn;by_cases e:w=u;rw[if_pos e]at hi;injection hi with hi;subst hi;rw[if_neg (λe'=>hne (e.trans e'.symm))]at cn;have:=((h.1 x hx).nZ cn).2;omega;rw[if_neg e]at hi;by_cases e':x=u;rw[if_pos e']at cn;injection cn with cn;subst cn;have:=((h.1 w hw).nZ hi).2;omega;rw[if_neg e']at cn;exact h.2 w x hw hx hne i hi cn
abbrev zD:=List (Int×Χ×Tok×Nat)
def ur(M:zD):xQ:=M.map λp=>(mi p.1,.l (Ζ p.2.1) (p.2.1.map mi) p.2.2.1,p.2.2.2)
def oL(k:Int):zD->Option (Χ×Tok)
 | []=>Β
 | p::M=>if k==p.1 then φ (p.2.1,p.2.2.1)else oL k M
def Jg(k:Int):zD->Nat
 | []=>0
 | p::M=>if k==p.1 then 0 else Jg k M+1
def vK(k:Int)(l:Χ)(t:Tok)(ck:Nat):zD->zD
 | []=>[(k,l,t,ck)]
 | p::M=>if k==p.1 then(p.1,l,t,p.2.2.2)::M else p::vK k l t ck M
def ckR(k:Int)(ck:Nat)(M:zD):Nat:=if(oL k M).isSome then ck else ck+1
def rwM(x:Option (Χ×Tok)):MV:=match x with
 | some (l,t)=>.l (Ζ l) (l.map mi) t
 | none=>.l 0 [] .nil
def Ow(k:Int):∀(M:zD)(i:Nat),sy (.int .i64) (mi k) (ur M) i=φ ((oL k M).map λx=>(i+Jg k M,rwM (φ x)))
 | [],i=>rfl
 | p::M,i=>by
   have ih:=Ow k M (i+1)
   have e:sy (.int .i64) (mi k) (ur (p::M)) i=match(if IntKind.i64=IntKind.i64 then φ (k==p.1)else Β)with
    | some Α=>φ (φ (i,.l (Ζ p.2.1) (p.2.1.map mi) p.2.2.1))
    | some γ=>sy (.int .i64) (mi k) (ur M) (i+1)
    | none=>Β:=rfl
   rw[e,if_pos rfl,oL,Jg];cases h:k==p.1;dsimp only;rw[ih,if_neg (by decide),if_neg (by decide),show i+1+Jg k M=i+(Jg k M+1) by omega];rfl
def L7(k:Int)(l:Χ)(t:Tok)(ck:Nat):∀M:zD,ur (vK k l t ck M)=if(oL k M).isSome then setAt (ur M) (Jg k M) (mi k) (.l (Ζ l) (l.map mi) t)else ur M++[(mi k,.l (Ζ l) (l.map mi) t,ck)]
 | []=>rfl
 | p::M=>by
   have ih:=L7 k l t ck M;rw[vK,oL,Jg];cases h:k==p.1;simp only[aqm,if_false];rw[show ur (p::vK k l t ck M)=(mi p.1,.l (Ζ p.2.1) (p.2.1.map mi) p.2.2.1,p.2.2.2)::ur (vK k l t ck M)from rfl,ih];cases(oL k M).isSome;rfl;simp[ur,setAt]
   ·have h':k=p.1:=by simpa using h
    subst h';rfl
def Yu{t kt et:TypeId}{M:zD}{k:Int}{te:c6}(h:tab t=φ ⟨.map kt et,a,b',z⟩)(hk:tab kt=φ ⟨.int .i64,c,d,y⟩)(he:tab et=φ te)(hz:zZ te=φ (.l 0 [] .nil))(hb:O.hp b=φ (.map (ur M) ck)):
  i_ tab O t (.map b) (.v (Ι Κ k)) γ=φ (rwM (oL k M)):=by
 have hj:=Ow k M 0;rw[aq]at hj;unfold i_;simp only[h,hk,he,aqe,mapOf,hb,Option.bind_some,hj,AT,decide_true];cases oL k M with
 | none=>simp only[aqH,hz,aqe];rfl
 | some x=>rfl
def alz{t kt et:TypeId}{M:zD}{k:Int}{l:Χ}(h:tab t=φ ⟨.map kt et,a,b',z⟩)(hk:tab kt=φ ⟨.int .i64,c,d,y⟩)(hb:O.hp b=φ (.map (ur M) ck))(hn:n=Ζ l)(hc:cs=l.map mi):
  e_ tab O t (.map b) (.v (Ι Κ k)) (.l n cs tk)=φ (O.set b (.map (ur (vK k l tk ck M)) (ckR k ck M))):=by
 subst hn;subst hc
 have hj:=Ow k M 0;rw[aq]at hj;unfold e_ ckR;rw[L7,aq];simp only[h,hk,aqe,hb,hj,AT,decide_true];cases oL k M with
 | none=>rfl
 | some x=>simp
def SL(k:Int)(l:Χ)(t:Tok)(ck:Nat)(k':Int):∀M:zD,oL k' (vK k l t ck M)=if k'=k then φ (l,t)else oL k' M
 | []=>by
   show(if k'==k then φ (l,t)else Β)=if k'=k then φ (l,t)else Β
   by_cases e:k'=k;rw[if_pos (by simp[e]),if_pos e];rw[if_neg (by simpa using e),if_neg e]
 | p::M=>by
   have ih:=SL k l t ck k' M;rw[vK];cases h:k==p.1;simp only[aqm,if_false];rw[oL,ih,oL];by_cases e:k'=k;subst e;simp[h];simp only[if_neg e]
   ·have h':k=p.1:=by simpa using h
    subst h';rw[if_pos rfl,oL,oL];by_cases e:k'=p.1;rw[if_pos (by simp[e]),if_pos e];rw[if_neg (by simpa using e),if_neg e,if_neg (by simpa using e)]
def GC(M:zD)(B:Nat)(O:VH):Prop:=(∀p∈M,App O B 1 p.2.2.1)/\M.Pairwise λp q=>∀i,Tok.id p.2.2.1=φ i->Tok.id q.2.2.1≠φ i
def GC.ge{M:zD}(h:GC M B O)(g:O.Ge A):GC M B A:=⟨λp hp=>(h.1 p hp).ge g,h.2⟩
def Jh{k:Int}{l:Χ}{t:Tok}:∀{M:zD},oL k M=φ (l,t)->∃p∈M,p.2.1=l/\p.2.2.1=t
 | [],h=>by cases h
 | p::M,h=>by
   rw[oL]at h;split at h;injection h with h;injection h with h1 h2;exact⟨p,Ti,h1,h2⟩;obtain⟨q,h1,h2⟩:=Jh h;exact⟨q,af_ _ h1,h2⟩
def GC.app{M:zD}(h:GC M B O){k:Int}{l:Χ}(hk:oL k M=φ (l,t)):App O B 1 t:=by
 obtain⟨p,h1,_,rfl⟩:=Jh hk;exact h.1 p h1
def GC.put{B:Nat}{O A:VH}{k:Int}{l:Χ}{ck:Nat}{tk:Tok}:∀{M:zD},GC M B O->(tk=match oL k M with | some x=>x.2 | none=>.nil)->B<=O.N->App O B 1 tk->A.N=(O.after tk).N->(∀i,B<=i->A.hp i=(O.after tk).hp i)->GC (vK k l (.own O.N 1) ck M) B A
 | [],h,ht,hB,ha,hn,hi=>⟨λp hp=>by
   rw[ake.1 hp];exact ow (App.after hB) hi,List.pairwise_singleton _ _⟩
 | p::M,h,ht,hB,ha,hn,hi=>by
   obtain⟨h1,h2⟩:=h;obtain⟨h3,h4⟩:=alR.1 h2;have oR:App A B 1 (.own O.N 1):=ow (App.after hB) hi;rw[oL]at ht;rw[vK];cases e:k==p.1
   ·rw[e,if_neg (by decide)]at ht;rw[if_neg (by decide)];have ih:=GC.put (k:=k) (l:=l) (ck:=ck) (M:=M) ⟨λq hq=>h1 q (af_ _ hq),h4⟩ ht hB ha hn hi
    have hne:∀i,Tok.id tk=φ i->Tok.id p.2.2.1≠φ i:=λi e1 e2=>by
     cases hl:oL k M with
     | none=>rw[hl]at ht;rw[ht]at e1;cases e1
     | some x=>
       rw[hl]at ht;obtain⟨x1,x2⟩:=x;obtain⟨q,hq,_,wM⟩:=Jh hl;dsimp only at ht;exact h3 q hq i e2 (by rw[wM, <-ht];exact e1)
    have hp:=cy.app (cy.after ha) (h1 p Ti) hne;refine⟨λq hq=>?_,alR.2 ⟨λq hq i e1 e2=>?_,ih.2⟩⟩;rcases Th.1 hq with rfl | hq;exact ow hp hi;exact ih.1 q hq
    ·have dm:=((h1 p Ti).nZ e1).2
     have:q.2.2.1= .own O.N 1\/∃q'∈M,q'.2.2.1=q.2.2.1:=by
      clear ih h1 h2 h3 h4 ht hne hp e1 e2;induction M with
      | nil=>rw[vK,ake]at hq;rw[hq];exact .inl rfl
      | cons r M ihM=>
        rw[vK]at hq;split at hq;rcases Th.1 hq with rfl | hq;exact .inl rfl;exact .inr ⟨q,af_ _ hq,rfl⟩;rcases Th.1 hq with rfl | hq;exact .inr ⟨_,Ti,rfl⟩;rcases ihM hq with h | ⟨q',g1,g2⟩;exact .inl h;exact .inr ⟨q',af_ _ g1,g2⟩
     rcases this with h | ⟨q',g1,g2⟩;rw[h]at e2;injection e2 with e2;omega;exact h3 q' g1 i e1 (by rw[g2];exact e2)
   ·rw[e,if_pos rfl]at ht;dsimp only at ht;rw[if_pos rfl];refine⟨λq hq=>?_,alR.2 ⟨λq hq i e1 e2=>?_,h4⟩⟩;rcases Th.1 hq with rfl | hq;exact oR;exact ow (cy.app (cy.after ha) (h1 q (af_ _ hq)) λi e1=>h3 q hq i (by rw[<-ht];exact e1)) hi;injection e1 with e1;subst e1;have:=((h1 q (af_ _ hq)).nZ e2).2;omega
def rj(X:List Ch)(k:Ky):ϑ:=X.findIdx? λc=>tS c.k k
def Wo(X:List Ch)(c:Ch)(k:Ky):rj (X++[c]) k=match rj X k with
  | some i=>φ i
  | none=>if tS c.k k then φ (Ζ X) else Β:=by
 unfold rj;rw[List.findIdx?_append];cases h:X.findIdx? λc=>tS c.k k with
 | some i=>rfl
 | none=>
   cases h2:tS c.k k<;>simp[List.findIdx?_cons,h2]
def Ji{k:Ky}(h:rj X k=φ i):i<Ζ X:=by
 unfold rj at h;rw[List.findIdx?_eq_some_iff_getElem]at h;exact h.1
def xF(X:List Ch)(a:Int):Nat->List Int
 | 0=>[]
 | j+1=>xF X a j++match X[j]? with
   | some c=>if c.at'=a then[(j:Int)]else[]
   | none=>[]
def SM(X:List Ch)(a:Int):∀(j:Nat)(x:Int),x∈xF X a j ↔ ∃(i:Nat)(c:Ch),x=i/\i<j/\X[i]?=φ c/\c.at'=a
 | 0,x=>⟨(λh=>by cases h),λ⟨i,c,_,h,_⟩=>by omega⟩
 | j+1,x=>by
   rw[xF,alO,SM X a j x];constructor
   ·rintro(⟨i,c,h1,h2,h3⟩ | h);exact⟨i,c,h1,by omega,h3⟩
    ·cases hX:X[j]? with
     | none=>rw[hX]at h;cases h
     | some c=>
       rw[hX]at h;dsimp only at h;split at h;rename_i hc;exact⟨j,c,ake.1 h,by omega,hX,hc⟩;cases h
   ·rintro⟨i,c,h1,h2,h3,h4⟩;by_cases e:i=j;subst e;refine .inr ?_;rw[h3];dsimp only;rw[if_pos h4,h1];exact aqo _;exact .inl ⟨i,c,h1,by omega,h3,h4⟩
def Jj(X:List Ch)(a:Int):∀j,(xF X a j).length<=j
 | 0=>abx _
 | j+1=>by
   have:=Jj X a j;rw[xF,aka];split;split<;>simp<;>omega;simp;omega
def vL(l:Χ)(k:Nat):Χ:=if l.contains (k:Int)then l else l++[(k:Int)]
def SN(l:Χ)(k:Nat):vL (vL l k) k=vL l k:=by
 unfold vL;by_cases h:l.contains (k:Int)=Α;rw[if_pos h,if_pos h];rw[if_neg h,if_pos (by simp)]
def L8(l:Χ)(k:Nat):(vL l k).length<=Ζ l+1:=by
 unfold vL;split<;>simp
def Jk(X:List Ch)(L:List Bn)(a:Int):Nat->List Int
 | 0=>[]
 | j+1=>match L[j]? with
   | some b=>if 0<j/\b.up=a then match rj X b.k with
     | some k=>vL (Jk X L a j) k
     | none=>Jk X L a j
     else Jk X L a j
   | none=>Jk X L a j
def SO(X:List Ch)(L:List Bn)(a:Int):∀j,(Jk X L a j).length<=j
 | 0=>abx _
 | j+1=>by
   have:=SO X L a j;rw[Jk];split;split;split;have:=L8 (Jk X L a j) (by assumption);omega;omega;omega;omega
def gF(X:List Ch)(L:List Bn)(j:Nat)(u:Nat):Χ:=match X[u]? with
 | some c=>Jk X L c.at' j
 | none=>[]
def aid(l:Χ)(k:Int)(tk:Tok)(O:VH)(hl:Ζ l<=1000000):VF Ε 34 [.l (Ζ l) (l.map mi) tk,mi k] O (aH λm O'=>(∃i:Int,m=mi i/\decide (0<=i)=l.contains k)/\O'=O):=by
 have n9:∀(j:Nat)(y:Int),l[j]?=φ y->(l.map mi)[j]?=φ (MV.v (Ι Κ y)):=λj y h=>by rw[YI,h];rfl
 have tT:(l.map mi).length=Ζ l:=WT _;rw[aq];generalize l.map mi=cs at*;refine ω 19 [.tmp 4] func34 ?_;refine κ bV ?_;refine Ξ [] (λ_:Unit=>[]) (λ_ O'=>O'=O/\l.contains k=γ) ?_ ?_
 ·refine ξ bV @oB ?_;refine χ ?_;refine Θ [8] [0,1,7] (λj:Nat=>[mi j]) (λj O'=>O'=O/\j<=(Ζ l)/\(l.take j).contains k=γ) (λj=>(Ζ l) - j) (0) ?_ ?_;exact⟨rfl,agb _,rfl⟩;rintro j Ox ⟨eO,hj,dh⟩;rw[eO];clear eO Ox;by_cases aM:j<Ζ l;rotate_left
  ·obtain rfl:j=Ζ l:=by omega
   rw[akb]at dh;refine ν bV ?_;exact aB.mk () ⟨rfl,dh⟩
  have cA:=jSx j;have bG:=n9 j l[j] (Ca aM);(((have di:l.take (j+1)=l.take j++[l[j]]:=by rw[akf aM]);have nR:=agc aM;generalize l[j]=y at*;refine κ bV ?_;refine κ bV ?_;refine Γ (χ ?_);refine κ bV ?_;cases hy:k==y);refine ι (cB bV bG tT hy ?_);refine ο bV cA ?_;refine az.N (j+1) ⟨rfl,aM,?_⟩;rw[di,aqy,dh,Bool.false_or];simpa using hy);refine ι (cB bV bG tT hy ?_);refine⟨j,rfl,?_⟩;(have e:k=y:=by simpa using hy);subst e;simpa using nR
 rintro _ Ox ⟨eO,dh⟩;rw[eO];clear eO Ox;refine ν bV ?_;exact⟨-1,rfl,by rw[dh];rfl⟩
def Yv(l:Χ)(k:Int)(tk:Tok)(O:VH)(hl:Ζ l<=1000000):VF Ε 18 [.l (Ζ l) (l.map mi) tk,mi k] O (aH λm O'=>m=mb (l.contains k)/\O'=O):=by
 have h:=aid l k tk O hl;rw[aq]at h ⊢;refine Υ 9 [.tmp 4] func18 ?_;refine ae bV ?_;refine τ (h) ?_;rintro _ O2 ⟨⟨i,rfl,hi⟩,e2⟩;rw[e2];clear e2 O2;rw[aq];have tR:decide (i>=0)=l.contains k:=hi;refine aE bV @hi tR ?_;trivial
structure Bv(X:List Ch)(j:Nat)(bn bo:Nat)(O:VH):Prop where
 n:∃M ck,O.hp bn=φ (.map (db M) ck)/\pL 4 M/\∀k:Ky,jC (dK k) M=(rj (X.take j) k).map λi=>mi (i:Nat)
 o:∃M ck,O.hp bo=φ (.map (ur M) ck)/\GC M (bo+1) O/\∀a:Int,((oL a M).map (·.1)).getD []=xF X a j
def Bv.ge(h:Bv X j bn bo O)(g:O.Ge A)(h1:bn<O.N)(h2:bo<O.N):Bv X j bn bo A:=by
 obtain⟨⟨M,c,m1,m2,m3⟩,⟨M',c',o1,o2,o3⟩⟩:=h;exact⟨⟨M,c,g.at m1,m2,m3⟩,⟨M',c',g.at o1,o2.ge g,o3⟩⟩
def Bv.fr{q:Nat}(h:Bv X j bn bo O)(hq:O.hp q=φ (.cells cs))(hn:O.N<=A.N)(hi:∀i,i<O.N->i≠q->A.hp i=O.hp i)(h1:bn<O.N)(h2:bo<O.N):Bv X j bn bo A:=by
 obtain⟨⟨M,c,m1,m2,m3⟩,⟨M',c',o1,o2,o3⟩⟩:=h;have e1:bn≠q:=λe=>by rw[e,hq]at m1;cases m1
 have e2:bo≠q:=λe=>by rw[e,hq]at o1;cases o1
 exact⟨⟨M,c,(hi bn h1 e1).trans m1,m2,m3⟩,⟨M',c',(hi bo h2 e2).trans o1,⟨λp hp=>(o2.1 p hp).mv hn λi tR e=>(hi i tR λe'=>by rw[e',hq]at e;cases e).trans e,o2.2⟩,o3⟩⟩
def afv{M:zD}{a:Int}(h:((oL a M).map (·.1)).getD []=r):∃t,rwM (oL a M)= .l (Ζ r) (r.map mi) t/\t=(match oL a M with | some x=>x.2 | none=>.nil):=by
 cases hl:oL a M with
 | none=>rw[hl]at h;subst h;exact⟨.nil,rfl,rfl⟩
 | some x=>rw[hl]at h;subst h;exact⟨x.2,rfl,rfl⟩
def abi(M:gI)(p:List Bs×MV×Nat)(l:List Bs):jC l (M++[p])=(jC l M).or (if p.1==l then φ p.2.1 else Β):=by
 unfold jC;rw[List.find?_append];cases M.find? (·.1==l)with
 | some x=>rfl
 | none=>
   cases h:p.1==l<;>simp[h]
def afw{a b:Ky}:(dK a==dK b)=tS a b:=by
 rw[So,Bool.eq_iff_iff];constructor;intro h;rw[LX (eq_of_beq h)];simp;intro h;rw[eq_of_beq h];simp
def Rm(F:Χ)(G:Nat->List Int)(k m v:Nat):Χ:=if(F.take m).contains (v:Int)then vL (G v) k else G v
def alA(hm:F[m]?=φ (u:Int))(h:v≠u):Rm F G k (m+1) v=Rm F G k m v:=by
 unfold Rm;rw[ap7,hm,aqy]
 have:([(u:Int)]:Χ).contains (v:Int)=γ:=by
  rw[Bool.eq_false_iff];intro e;(have:(v:Int)=u:=by simpa using e);omega
 rw[show((φ (u:Int)).toList:Χ)=[(u:Int)]from rfl,this,Bool.or_false]
def alC(hm:F[m]?=φ (u:Int)):Rm F G k (m+1) u=vL (Rm F G k m u) k:=by
 unfold Rm;rw[List.take_add_one,hm,List.contains_append];have:((φ (u:Int)).toList:Χ).contains (u:Int)=Α:=by simp
 rw[this,Bool.or_true,if_pos rfl];split;rw[SN];rfl
def afx(F:Χ)(G:Nat->List Int)(k v:Nat):Rm F G k 0 v=G v:=by
 unfold Rm;rw[aqp,if_neg (by simp)]
def aie(F:Χ)(G:Nat->List Int)(k m v:Nat):(Rm F G k m v).length<=(G v).length+1:=by
 unfold Rm;split;exact L8 _ _;omega
def Yw(X:List Ch)(L:List Bn)(j u:Nat):(gF X L j u).length<=j:=by
 unfold gF;split;exact SO _ _ _ _;exact agb _
def afy{X:List Ch}{L:List Bn}{j u:Nat}{b:Bn}{c:Ch}(hb:L[j]?=φ b)(hu:X[u]?=φ c):gF X L (j+1) u=if 0<j/\b.up=c.at' then match rj X b.k with
  | some k=>vL (gF X L j u) k
  | none=>gF X L j u
 else gF X L j u:=by
 unfold gF;rw[hu];dsimp only;rw[Jk,hb]<;>rfl
def SP(L:List Bn)(X:List Ch)(tk tx:Tok)(hL:Ζ L<=1000)(hX:Ζ X<=1000)(D4:∀b∈L,∀s∈dK b.k,Ζ s<=maxLen)(DL:∀c∈X,∀s∈dK c.k,Ζ s<=maxLen)(O:VH):
  VF Ε 7 [.l (Ζ L) (L.flatMap gu) tk,.l (Ζ X) (X.flatMap ju) tx] O (aH λm O'=>(∃T t,m= .l (Ζ X) (dH (Ζ X) (gF X L (Ζ L)) T) t)/\O.Ge O'):=by
 have hlX:=bk qa X;have hlL:=bk m4 L;have hvL:cS (bR Ε) 22 (.l (Ζ L) (L.flatMap gu) tk)=φ (.v (Ι Κ (Ζ L))):=bC HV;have hvX:cS (bR Ε) 23 (.l (Ζ X) (X.flatMap ju) tx)=φ (.v (Ι Κ (Ζ X))):=bC Ng;have iD:=λO'=>xk (tab:=bR Ε) qV fZ O' (Ζ X) (by omega) (by omega)
 refine ω 103 [.tmp 4] func7 ?_;refine κ bV ?_;refine κ bV ?_;refine VC.gen ?_;intro O1 e1;obtain⟨aK,dd,cJ,cC⟩:=iY _ _ e1;clear e1;refine Ξ [0,1,5,6] (λ_:Unit=>[.l (Ζ L) (L.flatMap gu) tk,.l (Ζ X) (X.flatMap ju) tx,.map O.N,.map (O.N+1)]) (λ_ O'=>O.Ge O'/\O.N+2<=O'.N/\Bv X (Ζ X) O.N (O.N+1) O') ?_ ?_
 ·refine ξ bV @oB ?_;refine χ ?_;refine Θ [22] [0,1,5,6,20,21] (λj:Nat=>[mi j]) (λj O'=>j<=(Ζ X)/\O.Ge O'/\O.N+2<=O'.N/\Bv X j O.N (O.N+1) O') (λj=>(Ζ X) - j) (0) ?_ ?_;exact⟨agb _,aK,by omega,⟨[],0,cJ,⟨by simp,by simp⟩,λk=>rfl⟩,⟨[],0,cC,⟨by simp,List.Pairwise.nil⟩,λa=>rfl⟩⟩;rintro j O3 ⟨hj,aJ,ij,hN3⟩;by_cases aM:j<Ζ X;rotate_left
  ·obtain rfl:j=Ζ X:=by omega
   refine ν bV ?_;exact aB.mk () ⟨aJ,ij,hN3⟩
  have cA:=jSx j;have bG:=c9 qa X j aM;have RH:=DL X[j] (agc aM);(((have di:X.take (j+1)=X.take j++[X[j]]:=by rw[akf aM]);have sb:∀a,xF X a (j+1)=xF X a j++if X[j].at'=a then[(j:Int)]else[]:=λa=>by rw[xF,Ca aM]);have Oy:=λk=>Wo (X.take j) X[j] k);rw[<-di,ap9,ap2 hj]at Oy;clear di;generalize X[j]=c at*;obtain⟨⟨k1,k2,k3,k4⟩,at',v,s⟩:=c;simp only[ju,aq]at bG;dsimp only at sb Oy;refine κ bV ?_;refine κ bV ?_;refine Γ (χ ?_);refine ξ bV bG ?_;refine VC.al ?_;rintro O4 ⟨aT,lz,fT⟩;have hN4:=hN3.ge aT (by omega) (by omega);have iS:=aJ.trans aT;clear hN3;obtain⟨⟨M,ck,m1,m2,m3⟩,⟨W,cw,w1,w2,w3⟩⟩:=hN4;refine Ξ [0,1,5,6,7,8,20,21,22] (λ_:Unit=>[.l (Ζ L) (L.flatMap gu) tk,.l (Ζ X) (X.flatMap ju) tx,.map O.N,.map (O.N+1),mi j,.p O3.N 0,.l (Ζ X) (X.flatMap ju) tx,mi (Ζ X),mi j]) (λ_ O'=>O4.N<=O'.N/\(∀i,i≠O.N->O'.hp i=O4.hp i)/\∃M ck,O'.hp O.N=φ (.map (db M) ck)/\pL 4 M/\∀k:Ky,jC (dK k) M=(rj (X.take (j+1)) k).map λi=>mi (i:Nat)) ?_ ?_
  ·refine ξ bV lz ?_;refine VL.hold (.inl ⟨rfl,.inl rfl⟩) rfl rfl (gJ.lV qD aa (l:=dK ⟨k1,k2,k3,k4⟩) (te:=⟨_,1,8,[.v (Ι Κ 0)]⟩) Tryz.underlying37 T3 rfl rfl m1 m2 rfl rfl RH) (WL.sound aa ?_);have fa:=m3 ⟨k1,k2,k3,k4⟩;have apM:=Oy ⟨k1,k2,k3,k4⟩;cases hid:rj (X.take j) ⟨k1,k2,k3,k4⟩with
   | some i0=>
     rw[hid]at fa;simp only[aqe]at fa;rw[fa,aq];refine ae bV ?_;refine ν bV ?_;refine aB.mk () ⟨abx _,λi _=>rfl,M,ck,m1,m2,λk=>?_⟩;rw[m3 k,Oy k];cases h5:rj (X.take j) k with
     | some i5=>rfl
     | none=>
       dsimp only;cases h6:tS ⟨k1,k2,k3,k4⟩ k;rfl;rw[So]at h6;rw[<-eq_of_beq h6,hid]at h5;cases h5
   | none=>
     rw[hid]at fa;simp only[aqH]at fa;rw[fa];refine ae bV ?_;refine ο bV lz ?_;refine VL.qw rfl rfl (qv.jX qD (l:=dK ⟨k1,k2,k3,k4⟩) (b:=O.N) (ck:=ck) (M:=M) Tryz.underlying37 rfl m1 m2 rfl rfl RH rfl) (λbrk hb=>by cases hb) (WL.sound aa ?_);have mw:=sF (y:=.v (Ι Κ j)) (ck:=ck) m2 (l:=dK ⟨k1,k2,k3,k4⟩) rfl RH
     have k8:(M.any λp=>p.1==dK ⟨k1,k2,k3,k4⟩)=γ:=by
      unfold jC at fa;rw[Option.map_eq_none_iff,List.find?_eq_none]at fa;rw[List.any_eq_false];exact fa
     unfold jX at mw;unfold jX M4;rw[k8]at mw ⊢;refine ae bV ?_;refine aB.mk () ⟨abx _,λi hi=>π _ _ hi,_,_,υ _ _ _,mw,λk=>?_⟩;rw[abi,m3 k,Oy k];dsimp only;rw[afw];cases h5:rj (X.take j) k with
     | some i5=>rfl
     | none=>
       dsimp only;cases h6:tS ⟨k1,k2,k3,k4⟩ k<;>rfl
  rintro _ O5 ⟨eJ,dS,hN5⟩;have mA:=(dS O3.N (by omega)).trans lz;have hw5:=(dS (O.N+1) (by omega)).trans w1;have Gu:GC W (O.N+2) O5:=⟨λp hp=>ow (w2.1 p hp) (λi hi=>dS i (by omega)) eJ,w2.2⟩;obtain⟨t,kx,ht⟩:=afv (w3 at');have fa:i_ (bR Ε) O5 38 (.map (O.N+1)) (.v (Ι Κ at')) γ=φ (rwM (oL at' W)):=Yu T38 T3 fZ rfl hw5;rw[kx]at fa
  have cH:App O5 (O.N+2) 1 t:=by
   cases hl:oL at' W with
   | none=>rw[hl]at ht;rw[ht];trivial
   | some x=>rw[hl]at ht;rw[ht];exact Gu.app (show oL at' W=φ (x.1,x.2)from hl)
  have pW:=Jj X at' j;have aok:=sb at';rw[if_pos rfl]at aok;generalize hr:xF X at' j=r at*;have je:=aP (tk:=t) (tk':=.full) (n:=Ζ r) (k:=1) (cs:=r.map mi) (ds:=[.v (Ι Κ j)]) fZ T3 cH (by rw[WT,ap_]);have hwA:=VH.jo cH hw5;have mT:e_ (bR Ε) (O5.after t) 38 (.map (O.N+1)) (.v (Ι Κ at')) (.l (Ζ r+1) (r.map mi++[.v (Ι Κ j)]) (.own O5.N 1))=φ ((O5.after t).set (O.N+1) (.map (ur (vK at' (r++[(j:Int)]) (.own O5.N 1) cw W)) (ckR at' cw W))):=alz T38 T3 hwA (by simp) (by simp[aq]);have ir:=cy.after cH;refine WC.bW (.held [10]) [(0,.rd),(1,.rd),(2,.rd),(3,.rd),(4,.rd),(5,.rd),(6,.rd),(7,.rd),(8,.one),(9,.one),(10,.one)] ?_;refine aE bV mA fa ?_;refine VL.app je ?_;refine ao bV mT ?_;obtain⟨M',ck',q1,q2,q3⟩:=hN5;have AO:=VH.dC O5 t;refine ο bV cA ?_;(((((have vM:∀i,Tok.id t=φ i->O.N+2<=i:=λi e=>(cH.nZ e).1);refine az.N (j+1) ⟨aM,⟨by show O.N<=(O5.after t).N;have:=iS.N;omega,λi hi=>?_⟩,by show O.N+2<=(O5.after t).N;omega,⟨M',ck',?_,q2,q3⟩,⟨_,_,υ _ _ _,?_,λa=>?_⟩⟩);rw[VH.sx,ir.hp i (by have:=iS.N;omega) (λe=>by have:=vM i e;omega),dS i (by omega)];exact iS.hp i hi);exact(VH.sx).trans (VH.jo cH q1));exact GC.put (k:=at') Gu ht (by omega) cH rfl λi hi=>VH.sx);rw[SL,sb a];by_cases e:a=at';subst e;rw[if_pos rfl,if_pos rfl,hr];rfl;rw[if_neg e,if_neg (Ne.symm e),ap5];exact w3 a
 rintro _ O2 ⟨aC,fc,hN2⟩;clear cJ cC aK dd O1;refine θ (aE bV hvX iD ?_);refine VC.bx ?_;rintro O3 ⟨aJ,kY,ij⟩;rw[<-zC]at kY;have hN3:=hN2.ge aJ (by omega) (by omega);have eW:=aC.trans aJ;clear hN2;refine Ξ [11] (λ_:Unit=>[.aS O2.N 0 (Ζ X) (Ζ X)]) (λ_ O'=>O.Ge O'/\O2.N<O'.N/\∃T,O'.hp O2.N=φ (.cells (dH (Ζ X) (gF X L (Ζ L)) T))) ?_ ?_
 ·refine ξ bV hvL ?_;refine χ ?_;refine Θ [56] [5,6,11,54,55] (λj:Nat=>[mi j]) (λj O'=>j<=(Ζ L)/\(∀i,i<O3.N->i≠O2.N->O'.hp i=O3.hp i)/\O3.N<=O'.N/\∃T,O'.hp O2.N=φ (.cells (dH (Ζ X) (gF X L j) T))/\xE (Ζ X) T O3.N O') (λj=>(Ζ L) - j) (0) ?_ ?_;exact⟨agb _,λ_ _ _=>rfl,abx _,_,(by rw[jh _ (R':=λ_=>[]) (λu hu=>by unfold gF;rw[Ca hu];rfl)];exact kY),xE.zero _ _ _⟩;rintro j O4 ⟨hj,GD,fT,T,gd,Gm⟩;have hN4:=hN3.fr kY fT GD (by omega) (by omega);have aT:O.Ge O4:=⟨by have:=eW.N;omega,λi hi=>(GD i (by have:=eW.N;omega) (by omega)).trans (eW.hp i hi)⟩;by_cases aM:j<Ζ L;rotate_left
  ·obtain rfl:j=Ζ L:=by omega
   refine ν bV ?_;exact aB.mk () ⟨aT,by omega,T,gd⟩
  have cA:=jSx j;have bG:=c9 m4 L j aM;have vX:=D4 L[j] (agc aM)
  have E8:∀(u:Nat)(c:Ch),X[u]?=φ c->gF X L (j+1) u=if 0<j/\L[j].up=c.at' then match rj X L[j].k with
    | some k=>vL (gF X L j u) k
    | none=>gF X L j u
   else gF X L j u:=λu c hu=>afy (Ca aM) hu
  generalize L[j]=b at*;obtain⟨up,dp,od,⟨q1,q2,q3,q4⟩,bv,hd,rv,nn,iv,Sn,bs,rd⟩:=b;simp only[gu,aq,bB]at bG;dsimp only at E8;refine κ bV ?_;refine κ bV ?_;refine Γ (χ ?_);refine ξ bV bG ?_;refine VC.al ?_;rintro O5 ⟨bO,mA,eJ⟩;have hN5:=hN4.ge bO (by omega) (by omega);have dW:=bO.at gd;obtain⟨⟨M,ck,m1,m2,m3⟩,⟨W,cw,w1,w2,w3⟩⟩:=hN5;rw[akb]at m3;refine ξ bV mA ?_;refine VL.hold (.inl ⟨rfl,.inl rfl⟩) rfl rfl (gJ.lV qD aa (l:=dK ⟨q1,q2,q3,q4⟩) (te:=⟨_,1,8,[.v (Ι Κ 0)]⟩) Tryz.underlying37 T3 rfl rfl m1 m2 rfl rfl vX) (WL.sound aa ?_);have fa:=m3 ⟨q1,q2,q3,q4⟩;cases hid:rj X ⟨q1,q2,q3,q4⟩with
  | none=>
    rw[hid]at fa E8;simp only[aqH]at fa;dsimp only at E8
    have ru:∀u,u<(Ζ X)->gF X L (j+1) u=gF X L j u:=λu hu=>by
     rw[E8 u X[u] (Ca hu)];split<;>rfl
    have hN5:Bv X (Ζ X) O.N (O.N+1) O5:=hN4.ge bO (by omega) (by omega);rw[fa];refine ae bV ?_;by_cases h0:j=0
    ·have e0:((j:Int)==0)=Α:=by simp[h0]
     refine ο bV e0 ?_;refine ο bV cA ?_;refine az.N (j+1) ⟨aM,λi h1 h2=>(bO.hp i (by omega)).trans (GD i h1 h2),by omega,T,?_,Gm.ge bO⟩;rw[jh T (R:=gF X L (j+1)) (R':=gF X L j) ru];exact dW
    ·have e0:((j:Int)==0)=γ:=by simpa using h0
     refine ο bV e0 ?_;refine ο bV cA ?_;refine az.N (j+1) ⟨aM,λi h1 h2=>(bO.hp i (by omega)).trans (GD i h1 h2),by omega,T,?_,Gm.ge bO⟩;rw[jh T (R:=gF X L (j+1)) (R':=gF X L j) ru];exact dW
  | some k=>
  rw[hid]at fa E8;simp only[aqe]at fa;dsimp only at E8;have apN:=Ji hid;rw[fa,aq];refine ae bV ?_;by_cases h0:0<j;rotate_left
  ·have e0:((j:Int)==0)=Α:=by simp;omega
   have ru:∀u,u<(Ζ X)->gF X L (j+1) u=gF X L j u:=λu hu=>by
    rw[E8 u X[u] (Ca hu),if_neg (λh=>h0 h.1)]
   have hN5:Bv X (Ζ X) O.N (O.N+1) O5:=hN4.ge bO (by omega) (by omega);refine ο bV e0 ?_;refine ο bV cA ?_;refine az.N (j+1) ⟨aM,λi h1 h2=>(bO.hp i (by omega)).trans (GD i h1 h2),by omega,T,?_,Gm.ge bO⟩;rw[jh T (R:=gF X L (j+1)) (R':=gF X L j) ru];exact dW
  (have e0:((j:Int)==0)=γ:=by simp;omega);obtain⟨t,kx,ht⟩:=afv (w3 up);have LQ:i_ (bR Ε) O5 38 (.map (O.N+1)) (.v (Ι Κ up)) γ=φ (rwM (oL up W)):=Yu T38 T3 fZ rfl w1;rw[kx]at LQ;have hvF:cS (bR Ε) 29 (.l (xF X up (Ζ X)).length ((xF X up (Ζ X)).map mi) t)=φ (.v (Ι Κ (xF X up (Ζ X)).length)):=bC fZ;have hFm:=λx=>SM X up (Ζ X) x
  have hFl:=Jj X up (Ζ X);(have Ov:∀(m:Nat)(y:Int),(xF X up (Ζ X))[m]?=φ y->((xF X up (Ζ X)).map mi)[m]?=φ (MV.v (Ι Κ y)):=λm y h=>by rw[YI,h];rfl);have aol:((xF X up (Ζ X)).map mi).length=(xF X up (Ζ X)).length:=WT _;generalize hFF:xF X up (Ζ X)=F at*;generalize F.map mi=FM at*;refine ξ bV e0 ?_;refine VC.BR [5,6,11,54,55,56] (λ_:Unit=>[.map O.N,.map (O.N+1),.aS O2.N 0 (Ζ X) (Ζ X),.l (Ζ L) (L.flatMap gu) tk,mi (Ζ L),mi j]) (λ_ O'=>O5.N<=O'.N/\(∀i,i<O3.N->i≠O2.N->O'.hp i=O5.hp i)/\∃T,O'.hp O2.N=φ (.cells (dH (Ζ X) (gF X L (j+1)) T))/\xE (Ζ X) T O3.N O') ?_ ?_
  ·refine θ (cB bV mA LQ hvF ?_);refine χ ?_;refine Θ [79] [5,6,11,14,54,55,56,77,78] (λm:Nat=>[mi m]) (λm O'=>m<=(Ζ F)/\O5.N<=O'.N/\(∀i,i<O3.N->i≠O2.N->O'.hp i=O5.hp i)/\∃T,O'.hp O2.N=φ (.cells (dH (Ζ X) (Rm F (gF X L j) k m) T))/\xE (Ζ X) T O3.N O') (λm=>(Ζ F) - m) (0) ?_ ?_;exact⟨agb _,abx _,λ_ _ _=>rfl,T,(by rw[jh T (λu _=>afx F (gF X L j) k u)];exact dW),Gm.ge bO⟩;clear dW gd Gm;rintro m O6 ⟨hm,oD,lP,T6,pe,SQ⟩;by_cases rT:m<Ζ F;rotate_left
   ·obtain rfl:m=Ζ F:=by omega
    refine ν bV ?_;refine aB.mk () ⟨oD,lP,T6,?_,SQ⟩;rw[jh T6 (R:=gF X L (j+1)) (R':=Rm F (gF X L j) k (Ζ F))];exact pe;intro u hu;rw[E8 u X[u] (Ca hu)];unfold Rm;rw[akb];by_cases e:up=X[u].at';rw[if_pos ⟨h0,e⟩,if_pos];rw[List.contains_iff_mem];exact(hFm u).2 ⟨u,X[u],rfl,hu,Ca hu,e.symm⟩;rw[if_neg (λh=>e h.2),if_neg];rw[List.contains_iff_mem];intro h;obtain⟨i,c,a1,a2,a3,a4⟩:=(hFm u).1 h;(have:u=i:=by omega);subst this;rw[Ca hu]at a3;injection a3 with a3;rw[a3]at e;exact e a4.symm
   have ET:=jSx m;obtain⟨u,c,uZ,dB,dF,eK⟩:=(hFm F[m]).1 (List.getElem_mem rT);((((((have hFu:F[m]?=φ (u:Int):=by rw[List.getElem?_eq_getElem rT,uZ]);have hgm:=Ov m u hFu;have hrn:=λv h=>alA (G:=gF X L j) (k:=k) (v:=v) hFu h);have Wp:=alC (G:=gF X L j) (k:=k) hFu;have Jl:=lT (Rm F (gF X L j) k m) T6 dB;have pW:=fW (Ζ X) (Rm F (gF X L j) k m) T6;have apc:=aie F (gF X L j) k m u;have apd:=Yw X L j u;have Bo:=Yv (Rm F (gF X L j) k m u) k (T6 u) O6 (by omega);rw[aq]at Bo;have fz:=λt=>Cm (R:=Rm F (gF X L j) k m) (R':=Rm F (gF X L j) k (m+1)) (x:=(k:Int)) T6 t dB);unfold vL at Wp;have cH:=SQ.1 u dB;generalize hR:Rm F (gF X L j) k m=R at*;generalize hRr:dH (Ζ X) R T6=RR at*;refine κ bV ?_;refine κ bV ?_;refine Γ (χ ?_);refine θ (aE bV hgm aol ?_);refine θ (cB bV pe pW Jl ?_);refine τ Bo ?_;rintro _ O7 ⟨rfl,eO⟩;rw[eO];clear eO O7 Bo);cases Mv:(R u).contains (k:Int));rw[Mv,if_neg (by decide)]at Wp;have je:=aP (tk:=T6 u) (tk':=.full) (n:=(R u).length) (k:=1) (cs:=(R u).map mi) (ds:=[.v (Ι Κ k)]) fZ T3 cH (by rw[WT,ap_]);have Wq:=VH.jo cH pe;have cX:=fz (.own O6.N 1) Wp (λv _ hv=>hrn v hv);rw[aq]at cX;refine ae bV ?_;refine ι (cB bV pe pW Jl ?_);refine VL.app je ?_;have AO:=VH.dC O6 (T6 u);have ir:=cy.after cH;(have vM:∀i,Tok.id (T6 u)=φ i->O3.N<=i:=λi e=>(cH.nZ e).1);refine cB bV Wq pW cX ?_;refine ο bV ET ?_;refine az.N (m+1) ⟨rT,by show O5.N<=(O6.after (T6 u)).N;omega,λi h1 h2=>?_,_,υ _ _ _,SQ.put dB (by omega) rfl λi hi=>VH.sx⟩;rw[π _ _ h2,ir.hp i (by omega) (λe=>by have:=vM i e;omega)];exact lP i h1 h2);rw[Mv,if_pos rfl]at Wp;refine ae bV ?_;refine ν bV ?_;refine ο bV ET ?_;refine az.N (m+1) ⟨rT,oD,lP,T6,?_,SQ⟩;rw[jh T6 (R:=Rm F (gF X L j) k (m+1)) (R':=R),hRr];exact pe;intro v _;by_cases e:v=u;rw[e];exact Wp;exact hrn v e
  rintro _ O8 ⟨Es,rO,T8,EV,ht8⟩;refine ο bV cA ?_;exact az.N (j+1) ⟨aM,λi h1 h2=>(rO i h1 h2).trans ((bO.hp i (by omega)).trans (GD i h1 h2)),by omega,T8,EV,ht8⟩
 rintro _ O9 ⟨bI,AL,T,SR⟩;refine VC.freeze 11 (sz:=Ζ X) rfl SR (by rw[fW];omega) ?_
 have di:((dH (Ζ X) (gF X L (Ζ L)) T).drop 0).take (Ζ X)=dH (Ζ X) (gF X L (Ζ L)) T:=by
  rw[aqq,ap3 (by rw[fW];exact abx _)]
 rw[di,if_pos rfl];generalize hG:dH (Ζ X) (gF X L (Ζ L)) T=G at*;refine κ bV ?_;refine ν bV ?_;exact⟨⟨T,.full,by rw[hG]⟩,bI.kill (by have:=aC.N;omega)⟩
def SU(n:Nat)(R:Nat->List Int)(T:Nat->Tok)(t:Tok):dH n R T++[.l (R n).length ((R n).map mi) t]=dH (n+1) R (λv=>if v=n then t else T v):=by
 unfold dH;rw[aqA,ap6,List.map_singleton];congr 1
 ·refine aqB λu hu=>?_
  have:=alT.1 hu;dsimp only;rw[if_neg (by omega)]
 ·dsimp only;rw[if_pos rfl]
def abj(l:Χ)(t1 t2:Tok)(O:VH)(hl:Ζ l<=1000000):VF Ε 13 [.l (Ζ l) (l.map mi) t1,.l (Ζ l) (l.map mi) t2] O (aH λm O'=>m=mb Α/\O'=O):=by
 have ew:=λt=>(bC fZ:cS (bR Ε) 29 (.l (Ζ l) (l.map mi) t)=φ (.v (Ι Κ (Ζ l))))
 have h1:=ew t1;have h2:=ew t2;have hne:((Ζ l:Int) != (Ζ l))=γ:=by simp
 have tT:(l.map mi).length=Ζ l:=WT _;refine ω 26 [.tmp 4] func13 ?_;refine κ bV ?_;refine θ (cB bV h1 h2 @hne ?_);refine Ξ [] (λ_:Unit=>[]) (λ_ O'=>O'=O) ?_ ?_
 ·refine ξ bV h1 ?_;refine χ ?_;refine Θ [13] [0,1,12] (λj:Nat=>[mi j]) (λj O'=>O'=O/\j<=Ζ l) (λj=>(Ζ l) - j) (0) ?_ ?_;exact⟨rfl,agb _⟩;rintro j Ox ⟨eO,hj⟩;rw[eO];clear eO Ox;by_cases aM:j<Ζ l;rotate_left
  ·obtain rfl:j=Ζ l:=by omega
   refine ν bV ?_;exact aB.mk () rfl
  have cA:=jSx j;((have bG:(l.map mi)[j]?=φ (.v (Ι Κ l[j])):=by rw[YI,Ca aM];rfl);generalize l[j]=y at*;have hyy:(y != y)=γ:=by simp);refine κ bV ?_;refine κ bV ?_;refine Γ (χ ?_);refine κ bV ?_;refine Γ ?_;refine WC.reads ?_;refine cB bV bG tT hyy ?_;refine ν bV ?_;refine ο bV cA ?_;exact az.N (j+1) ⟨rfl,aM⟩
 rintro _ Ox eO;rw[eO];clear eO Ox;refine ν bV ?_;trivial
def afz(n:Nat)(R:Nat->List Int)(T1 T2:Nat->Tok)(t1 t2:Tok)(hn:n<=100000)(hR:∀u,u<n->(R u).length<=1000000)(O:VH):VF Ε 6 [.l n (dH n R T1) t1,.l n (dH n R T2) t2] O (aH λm O'=>m=mb Α/\O'=O):=by
 have h1:=(bC qV:cS (bR Ε) 25 (.l n (dH n R T1) t1)=φ (.v (Ι Κ n)));have h2:=(bC qV:cS (bR Ε) 25 (.l n (dH n R T2) t2)=φ (.v (Ι Κ n)));have hne:((n:Int) != n)=γ:=by simp
 have ph:=fW n R T1;have ni:=fW n R T2;have aK:=λu h=>lT (n:=n) R T1 (u:=u) h
 have aC:=λu h=>lT (n:=n) R T2 (u:=u) h
 generalize dH n R T1=A at*;generalize dH n R T2=B at*;refine ω 27 [.tmp 4] func6 ?_;refine κ bV ?_;refine θ (cB bV h1 h2 @hne ?_);refine Ξ [] (λ_:Unit=>[]) (λ_ O'=>O'=O) ?_ ?_
 ·refine ξ bV h1 ?_;refine χ ?_;refine Θ [13] [0,1,12] (λj:Nat=>[mi j]) (λj O'=>O'=O/\j<=n) (λj=>n - j) (0) ?_ ?_;exact⟨rfl,agb _⟩;rintro j Ox ⟨eO,hj⟩;rw[eO];clear eO Ox;by_cases aM:j<n;rotate_left
  ·obtain rfl:j=n:=by omega
   refine ν bV ?_;exact aB.mk () rfl
  have cA:=jSx j;have g1:=aK j aM;have g2:=aC j aM;have hs:=abj (R j) (T1 j) (T2 j) O (hR j aM);refine κ bV ?_;refine κ bV ?_;refine Γ (χ ?_);refine κ bV ?_;refine Γ ?_;refine VC.pF [9] ?_;refine ab.ql 0 bV ph ?_;refine ab.ql 1 bV ph ?_;refine ab.ql 2 bV ph ?_;refine ab.ql 3 bV @g1 ?_;refine ab.ql 4 bV ni ?_;refine ab.ql 5 bV ni ?_;refine ab.ql 6 bV ni ?_;refine ab.ql 7 bV @g2 ?_;refine ab.call (i:=8) (hs) ?_;rintro _ O2 ⟨rfl,eO⟩;simp only[ak];rw[eO];clear eO O2;refine⟨VH.Ge.refl _,?_⟩;refine ab.bW [(9,.bh)] ?_;refine ae bV ?_;refine ν bV ?_;refine ο bV cA ?_;exact az.N (j+1) ⟨rfl,aM⟩
 rintro _ Ox eO;rw[eO];clear eO Ox;refine ν bV ?_;trivial
def fX(g:Ο)(a b:Nat):Prop:=∃l,g[a]?=φ l/\(b:Int)∈l
def ot(g:Ο):Prop:=∀l∈g,∀x∈l,0<=x/\x<(Ζ g:Int)
inductive gY(g:Ο)(a:Nat):Nat->Prop
 | base:gY g a a
 | step {x y:Nat}:gY g a x->fX g x y->gY g a y
def gY.trans(h:gY g a b)(h2:gY g b c):gY g a c:=by
 induction h2 with
 | base=>exact h
 | step _ e ih=>exact .step ih e
def gY.closed{S:Nat->Prop}(h:gY g a b)(ha:S a)(hs:∀x y,S x->fX g x y->S y):S b:=by
 induction h with
 | base=>exact ha
 | step _ e ih=>exact hs _ _ ih e
def m5(D:Χ)(x:Nat):Prop:=∃d,D[x]?=φ d/\0<=d
def L9{v:Int}(hv:0<=v)(h:m5 D x):m5 (D.set k v) x:=by
 obtain⟨d,h1,h2⟩:=h;by_cases e:k=x;subst e;have hk:=(alP.1 h1).1;exact⟨v,by rw[alV hk],hv⟩;exact⟨d,by rw[aoT e];exact h1,h2⟩
def L_{v:Int}(hv:0<=v)(hk:k<Ζ D):m5 (D.set k v) k:=⟨v,by rw[alV hk],hv⟩
def Cn{v:Int}(h:m5 (D.set k v) x)(hx:x≠k):m5 D x:=by
 obtain⟨d,h1,h2⟩:=h;rw[aoT (Ne.symm hx)]at h1;exact⟨d,h1,h2⟩
def nU(D:Χ):Nat:=D.countP λd=>decide (0<=d)
def Jm(D:Χ):nU D<=Ζ D:=aqt
def Ay:∀{D:Χ} {k:Nat} {v:Int},0<=v->(∃d,D[k]?=φ d/\d<0)->nU (D.set k v)=nU D+1
 | [],k,v,_,⟨d,h,_⟩=>by simp at h
 | e::D,0,v,hv,⟨d,h,hd⟩=>by
   simp only[List.getElem?_cons_zero,Option.some.injEq]at h;subst h;simp only[nU,List.set_cons_zero,aqu];rw[decide_eq_true hv,decide_eq_false (show ¬0<=e by omega)];simp
 | e::D,k+1,v,hv,⟨d,h,hd⟩=>by
   rw[List.getElem?_cons_succ]at h;have ih:=Ay (D:=D) (k:=k) hv ⟨d,h,hd⟩;simp only[nU,List.set_cons_succ,aqu]at ih ⊢;omega
structure vN(g:Ο)(f:Nat)(D Q:Χ)(n:Nat)(j:Nat):Prop where
 len:Ζ D=Ζ g
 fr:m5 D f
 sound:∀x,m5 D x->gY g f x
 bound:∀(x:Nat)(d:Int),D[x]?=φ d->d+1<=nU D
 low:∀(x:Nat)(d:Int),D[x]?=φ d-> -1<=d
 q:∀x∈Q,∃k:Nat,x=k/\m5 D k
 closed:∀x,m5 D x->x=n\/(x:Int)∈Q\/∀y,fX g x y->m5 D y
 part:∀l,g[n]?=φ l->∀y:Nat,(y:Int)∈l.take j->m5 D y
def vN.init(hf:f<Ζ g):vN g f ((List.replicate (Ζ g) (-1)).set f 0) [(f:Int)] (Ζ g) 0:=by
 have hl:((Μ (Ζ g) (-1:Int)).set f 0).length=Ζ g:=by simp
 have hm:∀x,m5 ((Μ (Ζ g) (-1:Int)).set f 0) x->x=f:=λx h=>by
  by_cases e:x=f;exact e;obtain⟨d,h1,h2⟩:=Cn h e;rw[aqb]at h1;split at h1;injection h1 with h1;omega;cases h1
 have JW:m5 ((Μ (Ζ g) (-1:Int)).set f 0) f:=L_ (by omega) (by simpa using hf);refine⟨hl,JW,λx h=>by rw[hm x h];exact .base,λx d h=>?_,λx d h=>?_,λx h=>⟨f,by simpa using h,JW⟩,λx h=>.inr (.inl (by rw[hm x h];simp)),λl h=>by rw[akc (abx _)]at h;cases h⟩;by_cases e:f=x;subst e;rw[alV (by simpa using hf)]at h;injection h with h;have:nU ((Μ (Ζ g) (-1:Int)).set f 0)=nU (Μ (Ζ g) (-1:Int))+1:=Ay (by omega) ⟨-1,by rw[aqb,if_pos hf],by omega⟩;omega;rw[aoT e,aqb]at h;split at h;injection h with h;omega;cases h;by_cases e:f=x;subst e;rw[alV (by simpa using hf)]at h;injection h with h;omega;rw[aoT e,aqb]at h;split at h;injection h with h;omega;cases h
def vN.pop(hn:Ζ g<=n)(h:vN g f D ((m:Int)::Q) n j):vN g f D Q m 0:=by
 refine⟨h.len,h.fr,h.sound,h.bound,h.low,λx hx=>h.q x (af_ _ hx),λx hx=>?_,λl _ y hy=>by simp at hy⟩;rcases h.closed x hx with rfl | h1 | h1;obtain⟨d,h2,_⟩:=hx;have:=(alP.1 h2).1;have:=h.len;omega;rcases Th.1 h1 with e | h1;exact .inl (by omega);exact .inr (.inl h1);exact .inr (.inr h1)
def vN.skip{l:Χ}(h:vN g f D Q n j)(hl:g[n]?=φ l)(hk:l[j]?=φ (k:Int))(hm:m5 D k):vN g f D Q n (j+1):=by
 refine⟨h.len,h.fr,h.sound,h.bound,h.low,h.q,h.closed,λl' uw y hy=>?_⟩;rw[hl]at uw;injection uw with uw;subst uw;rw[ap7,hk]at hy;rcases alO.1 hy with hy | hy;exact h.part l hl y hy
 ·have:(y:Int)=k:=by simpa using hy
  have:y=k:=by omega
  rw[this];exact hm
def vN.add{l:Χ}{d e:Int}(h:vN g f D Q n j)(hl:g[n]?=φ l)(hk:l[j]?=φ (k:Int))(hd:D[n]?=φ d)(h0:0<=d)(he:D[k]?=φ e)(hm:e<0):vN g f (D.set k (d+1)) (Q++[(k:Int)]) n (j+1):=by
 have gW:=(alP.1 he).1;have hn:nU (D.set k (d+1))=nU D+1:=Ay (by omega) ⟨e,he,hm⟩;have hme:fX g n k:=⟨l,hl,List.mem_of_getElem? hk⟩;have mT:∀x,m5 D x->m5 (D.set k (d+1)) x:=λx hx=>L9 (by omega) hx
 have RT:m5 (D.set k (d+1)) k:=L_ (by omega) gW;refine⟨by rw[List.length_set];exact h.len,mT _ h.fr,λx hx=>?_,λx c hc=>?_,λx c hc=>?_,λx hx=>?_,λx hx=>?_,λl' uw y hy=>?_⟩;by_cases e:x=k;subst e;exact .step (h.sound n ⟨d,hd,h0⟩) hme;exact h.sound x (Cn hx e);by_cases e:k=x;subst e;rw[alV gW]at hc;injection hc with hc;have:=h.bound n d hd;omega;rw[aoT e]at hc;have:=h.bound x c hc;omega;by_cases e:k=x;subst e;rw[alV gW]at hc;injection hc with hc;omega;rw[aoT e]at hc;exact h.low x c hc;rcases alO.1 hx with hx | hx;obtain⟨i,h1,h2⟩:=h.q x hx;exact⟨i,h1,mT i h2⟩;exact⟨k,by simpa using hx,RT⟩;by_cases e:x=k;subst e;exact .inr (.inl (by simp));rcases h.closed x (Cn hx e)with h1 | h1 | h1;exact .inl h1;exact .inr (.inl (aqi _ h1));exact .inr (.inr λy hy=>mT y (h1 y hy))
 ·rw[hl]at uw;injection uw with uw;subst uw;rw[ap7,hk]at hy;rcases alO.1 hy with hy | hy;exact mT y (h.part l hl y hy)
  ·have:(y:Int)=k:=by simpa using hy
   have:y=k:=by omega
   rw[this];exact RT
def vN.fin{l:Χ}(h:vN g f D Q n (Ζ l))(hl:g[n]?=φ l):vN g f D Q (Ζ g) 0:=by
 refine⟨h.len,h.fr,h.sound,h.bound,h.low,h.q,λx hx=>?_,λl hl=>by rw[akc (abx _)]at hl;cases hl⟩;rcases h.closed x hx with rfl | h1;refine .inr (.inr λy hy=>?_);obtain⟨l',h2,h3⟩:=hy;rw[hl]at h2;injection h2 with h2;subst h2;exact h.part l hl y (by rw[akb];exact h3);exact .inr h1
def vN.all(h:vN g f D [] (Ζ g) j)(x:Nat):m5 D x ↔ gY g f x:=by
 refine⟨h.sound x,λhr=>hr.closed (S:=m5 D) h.fr λx y hx he=>?_⟩;rcases h.closed x hx with rfl | h1 | h1;obtain⟨d,h2,_⟩:=hx;have:=(alP.1 h2).1;have:=h.len;omega;simp at h1;exact h1 y he
def nI(hm:ot g)(h:fX g a b):a<(Ζ g)/\b<Ζ g:=by
 obtain⟨l,h1,h2⟩:=h;have:=hm l (List.mem_of_getElem? h1) b h2;exact⟨(alP.1 h1).1,by omega⟩
def gY.PQ{t:Ο}(ht:∀a b,fX t a b ↔ fX g b a)(h:gY g a b):gY t b a:=by
 induction h with
 | base=>exact .base
 | step _ e ih=>exact gY.trans (.step .base ((ht _ _).2 e)) ih
def Ma{t:Ο}(ht:∀a b,fX t a b ↔ fX g b a)(a b:Nat):gY g a b ↔ gY t b a:=⟨λh=>h.PQ ht,λh=>h.PQ λa b=>(ht b a).symm⟩
def aD:=aga bV Qp
def bz(g:Ο)(T:Nat->Tok):Η:=dH (Ζ g) (λu=>g.getD u []) T
def eM(g:Ο)(T:Nat->Tok):(bz g T).length=Ζ g:=fW _ _ _
def iw(g:Ο)(T:Nat->Tok)(h:u<Ζ g):(bz g T)[u]?=φ (.l g[u].length (g[u].map mi) (T u)):=by
 unfold bz;rw[lT _ _ h,akd,Ca h];rfl
def sm(m:Nat)(g:Ο):Prop:=Ζ g<=1000/\∀l∈g,Ζ l<=m
def m6(g:Ο):Bool:=g.all λl=>l.all λx=>decide (0<=x)&&decide (x<(Ζ g:Int))
def jv(g:Ο):m6 g=Α ↔ ot g:=by
 unfold m6 ot;simp only[aqv,aqj,decide_eq_true_eq]
def Mb(n:Nat)(cs:Η)(tk:Tok)(k:Int)(O:VH):VF Ε 46 [.l n cs tk,mi k] O (aH λm O'=>m=mb (decide (0<=k)&&decide (k<(n:Int)))/\O'=O):=by
 rw[aq,bB];refine Υ 13 [.tmp 4] func46 ?_;refine ae aD ?_;by_cases h0:0<=k;have e1:decide (0<=k)=Α:=decide_eq_true h0;have e2:decide (k>=0)=Α:=e1;refine cB aD @oB e1 e2 ?_;trivial;have e1:decide (0<=k)=γ:=decide_eq_false h0;have e2:decide (k>=0)=γ:=e1;refine cB aD @oB e1 e2 ?_;trivial
def zE(g:Ο)(T:Nat->Tok)(tk:Tok)(O:VH)(hs:sm 1000000 g):VF Ε 29 [.l (Ζ g) (bz g T) tk] O (aH λm O'=>m=mb (m6 g)/\O'=O):=by
 have n9:=eM g T;have Co:=λu h=>iw g T (u:=u) h
 have dh:=λk=>Mb (Ζ g) (bz g T) tk k O
 generalize bz g T=A at*;refine ω 25 [.tmp 2] func29 ?_;refine κ aD ?_;refine Ξ [] (λ_:Unit=>[]) (λ_ O'=>O'=O/\m6 g=Α) ?_ ?_
 ·refine ξ aD @oB ?_;refine χ ?_;refine Θ [9] [0,7,8] (λi:Nat=>[mi i]) (λi O'=>O'=O/\i<=(Ζ g)/\∀l∈g.take i,∀x∈l,0<=x/\x<(Ζ g:Int)) (λi=>(Ζ g) - i) (0) ?_ ?_;exact⟨rfl,agb _,λl h=>by simp at h⟩;rintro i Ox ⟨eO,hi,dw⟩;rw[eO];clear eO Ox;by_cases cn:i<Ζ g;rotate_left
  ·obtain rfl:i=Ζ g:=by omega
   rw[akb]at dw;refine ν aD ?_;exact aB.mk () ⟨rfl,(jv g).2 dw⟩
  have gh:=jSx i;have bG:=Co i cn;(have di:g.take (i+1)=g.take i++[g[i]]:=by rw[akf cn]);have tf:=agc cn;have tO:=hs.2 _ tf;have xG:=hs.1;generalize g[i]=l at*;have tT:(l.map mi).length=Ζ l:=WT _;refine κ aD ?_;refine κ aD ?_;refine Γ (χ ?_);refine θ (aE aD bG n9 ?_);refine VC.BR [0,7,8,9] (λ_:Unit=>[.l (Ζ g) A tk,.l (Ζ g) A tk,mi (Ζ g),mi i]) (λ_ O'=>O'=O/\∀x∈l,0<=x/\x<(Ζ g:Int)) ?_ ?_
  ·(have zF:∀(j:Nat)(y:Int),l[j]?=φ y->(l.map mi)[j]?=φ (MV.v (Ι Κ y)):=λj y h=>by rw[YI,h];rfl);generalize l.map mi=cs at*;refine ξ aD @oB ?_;refine χ ?_;refine Θ [15] [0,7,8,9,13,14] (λj:Nat=>[mi j]) (λj O'=>O'=O/\j<=(Ζ l)/\∀x∈l.take j,0<=x/\x<(Ζ g:Int)) (λj=>(Ζ l) - j) (0) ?_ ?_
   ·exact⟨rfl,agb _,λx h=>by simp at h⟩
   rintro j Ox ⟨eO,hj,Jn⟩;rw[eO];clear eO Ox;by_cases aM:j<Ζ l;rotate_left
   ·obtain rfl:j=Ζ l:=by omega
    rw[akb]at Jn;refine ν aD ?_;exact aB.mk () ⟨rfl,Jn⟩
   have cA:=jSx j;have oh:=zF j l[j] (Ca aM);(have AR:l.take (j+1)=l.take j++[l[j]]:=by rw[akf aM]);have pB:=agc aM;have rA:=dh l[j];generalize l[j]=x at*;rw[aq]at rA;refine κ aD ?_;refine κ aD ?_;refine Γ (χ ?_);refine θ (aE aD oh tT ?_);refine κ aD ?_;refine Ω rA ?_;cases IP:decide (0<=x)&&decide (x<(Ζ g:Int))
   ·refine ae aD ?_;refine ν aD ?_
    have:m6 g=γ:=by
     rw[ap8];intro h;have:=(jv g).1 h l tf x pB;rw[decide_eq_true this.1,decide_eq_true this.2]at IP;cases IP
    rw[this]
   ·refine ae aD ?_;refine ν aD ?_;refine ο aD cA ?_;refine az.N (j+1) ⟨rfl,aM,λy hy=>?_⟩;rw[AR,alO]at hy;rcases hy with hy | hy;exact Jn y hy;rw[ake.1 hy];simpa using IP
  rintro _ Ox ⟨eO,hl⟩;rw[eO];clear eO Ox;refine ο aD gh ?_;refine az.N (i+1) ⟨rfl,cn,λy hy=>?_⟩;rw[di,alO]at hy;rcases hy with hy | hy;exact dw y hy;rw[ake.1 hy];exact hl
 rintro _ Ox ⟨eO,hm⟩;rw[eO];clear eO Ox;rw[hm];refine ν aD ?_;trivial
structure E9(g:Ο)(i j:Nat)(R:Nat->List Int):Prop where
 mem:∀u,u<(Ζ g)->∀x,x∈R u ↔ ∃a:Nat,x=a/\((a<i/\fX g a u)\/(a=i/\∃l,g[i]?=φ l/\(u:Int)∈l.take j))
 len:∀u,u<(Ζ g)->(R u).length<=i*1000+j
def E9.zero(g:Ο):E9 g 0 0 (λ_=>[]):=
 ⟨λu _ x=>⟨(λh=>by cases h),λ⟨a,_,h⟩=>by
  rcases h with⟨h,_⟩ | ⟨_,l,_,h⟩;omega;rw[aqp]at h;cases h⟩,λu _=>agb _⟩
def E9.row{R:Nat->List Int}{l:Χ}(h:E9 g i (Ζ l) R)(hl:g[i]?=φ l)(hle:Ζ l<=1000):E9 g (i+1) 0 R:=by
 refine⟨λu hu x=>(h.mem u hu x).trans ⟨?_,?_⟩,λu hu=>by have:=h.len u hu;omega⟩;rintro⟨a,e,⟨h1,h2⟩ | ⟨h1,l',h2,h3⟩⟩;exact⟨a,e,.inl ⟨by omega,h2⟩⟩;rw[hl]at h2;injection h2 with h2;subst h2;rw[akb]at h3;exact⟨a,e,.inl ⟨by omega,l,by rw[h1];exact hl,h3⟩⟩;rintro⟨a,e,⟨h1,h2⟩ | ⟨h1,l',h2,h3⟩⟩;by_cases e2:a=i;obtain⟨l',h3,h4⟩:=h2;rw[e2,hl]at h3;injection h3 with h3;subst h3;exact⟨a,e,.inr ⟨e2,l,hl,by rw[akb];exact h4⟩⟩;exact⟨a,e,.inl ⟨by omega,h2⟩⟩;rw[aqp]at h3;cases h3
def E9.step{R:Nat->List Int}{l:Χ}(h:E9 g i j R)(hl:g[i]?=φ l)(hj:l[j]?=φ (u:Int))(h1:R' u=R u++[(i:Int)])(h2:∀v,v<(Ζ g)->v≠u->R' v=R v)(hu:u<Ζ g):E9 g i (j+1) R':=by
 have di:l.take (j+1)=l.take j++[(u:Int)]:=by rw[List.take_add_one,hj];rfl
 refine⟨λv hv x=>?_,λv hv=>?_⟩;by_cases e:v=u;subst e;rw[h1,alO,h.mem v hv x];constructor;rintro(⟨a,e1,h5 | ⟨h6,l',h7,h8⟩⟩ | h9);exact⟨a,e1,.inl h5⟩;refine⟨a,e1,.inr ⟨h6,l,hl,?_⟩⟩;rw[hl]at h7;injection h7 with h7;subst h7;rw[di];exact aqi _ h8;exact⟨i,ake.1 h9,.inr ⟨rfl,l,hl,by rw[di];simp⟩⟩;rintro⟨a,e1,h5 | ⟨h6,l',h7,h8⟩⟩;exact .inl ⟨a,e1,.inl h5⟩;subst h6;exact .inr (by rw[e1];exact aqo _);rw[h2 v hv e,h.mem v hv x];constructor;rintro⟨a,e1,h5 | ⟨h6,l',h7,h8⟩⟩;exact⟨a,e1,.inl h5⟩;refine⟨a,e1,.inr ⟨h6,l,hl,?_⟩⟩;rw[hl]at h7;injection h7 with h7;subst h7;rw[di];exact aqi _ h8;rintro⟨a,e1,h5 | ⟨h6,l',h7,h8⟩⟩;exact⟨a,e1,.inl h5⟩;refine⟨a,e1,.inr ⟨h6,l,hl,?_⟩⟩;rw[hl]at h7;injection h7 with h7;subst h7;rw[di,alO]at h8;rcases h8 with h8 | h8;exact h8;exfalso;have:=ake.1 h8;omega;by_cases e:v=u;subst e;rw[h1,aka];have:=h.len v hv;simp;omega;rw[h2 v hv e];have:=h.len v hv;omega
def SV(n:Nat)(R:Nat->List Int)(T:Nat->Tok):dH n R T=bz ((List.range n).map R) T:=by
 unfold bz;rw[WT,aqg];refine jh T λu hu=>?_
 rw[akd,YI,alU hu];rfl
def abk(g:Ο)(T:Nat->Tok)(tk:Tok)(O:VH)(hs:sm 1000 g):VF Ε 26 [.l (Ζ g) (bz g T) tk] O (aH λm O'=>O.Ge O'/\((m6 g=Α/\∃t T' tk',m= .l (Ζ g) (bz t T') tk'/\(Ζ t)=(Ζ g)/\(∀a b,fX t a b ↔ fX g b a)/\sm 1000000 t/\ot t)\/(m6 g=γ/\m= .l 0 [] .nil))):=by
 have E_:sm 1000000 g:=⟨hs.1,λl hl=>alS (hs.2 l hl) (by decide)⟩;have xG:=hs.1;have iD:=λO'=>xk (tab:=bR Ε) qV fZ O' (Ζ g) (by omega) (by omega)
 have qq:=zE g T tk O E_;have n9:=eM g T;have Co:=λu h=>iw g T (u:=u) h
 generalize bz g T=A at*;refine ω 40 [.tmp 2] func26 ?_;refine κ aD ?_;refine κ aD ?_;refine τ qq ?_;rintro _ Ox ⟨rfl,eO⟩;rw[eO];clear eO Ox qq;cases hm:m6 g;refine ae aD ?_;exact⟨VH.Ge.refl _,.inr (by simp)⟩;have tf:=(jv g).1 hm;refine ae aD ?_;refine θ (aE aD @oB iD ?_);refine VC.bx ?_;rintro O1 ⟨aK,cJ,dd⟩;rw[<-zC]at cJ;refine Ξ [3] (λ_:Unit=>[.aS O.N 0 (Ζ g) (Ζ g)]) (λ_ O'=>O.Ge O'/\O.N<O'.N/\∃R T',O'.hp O.N=φ (.cells (dH (Ζ g) R T'))/\E9 g (Ζ g) 0 R) ?_ ?_
 ·refine ξ aD @oB ?_;refine χ ?_;refine Θ [16] [3,14,15] (λi:Nat=>[mi i]) (λi O'=>i<=(Ζ g)/\O.Ge O'/\O1.N<=O'.N/\∃R T',O'.hp O.N=φ (.cells (dH (Ζ g) R T'))/\xE (Ζ g) T' O1.N O'/\E9 g i 0 R) (λi=>(Ζ g) - i) (0) ?_ ?_;exact⟨agb _,aK,abx _,_,_,cJ,xE.zero _ _ _,E9.zero g⟩;clear cJ;rintro i O2 ⟨hi,aC,fc,R,T2,fy,uI,hR⟩;by_cases cn:i<Ζ g;rotate_left
  ·obtain rfl:i=Ζ g:=by omega
   refine ν aD ?_;exact aB.mk () ⟨aC,by omega,R,T2,fy,hR⟩
  have gh:=jSx i;have bG:=Co i cn;have rE:g[i]?=φ g[i]:=Ca cn;have pB:=tf g[i] (agc cn);have tO:=hs.2 g[i] (agc cn);generalize g[i]=l at*;have tT:(l.map mi).length=Ζ l:=WT _;(have zF:∀(j:Nat)(y:Int),l[j]?=φ y->(l.map mi)[j]?=φ (MV.v (Ι Κ y)):=λj y h=>by rw[YI,h];rfl);generalize l.map mi=cs at*;refine κ aD ?_;refine κ aD ?_;refine Γ (χ ?_);refine θ (aE aD bG n9 ?_);refine VC.BR [3,14,15,16] (λ_:Unit=>[.aS O.N 0 (Ζ g) (Ζ g),.l (Ζ g) A tk,mi (Ζ g),mi i]) (λ_ O'=>O.Ge O'/\O1.N<=O'.N/\∃R T',O'.hp O.N=φ (.cells (dH (Ζ g) R T'))/\xE (Ζ g) T' O1.N O'/\E9 g i (Ζ l) R) ?_ ?_
  ·refine ξ aD @oB ?_;refine χ ?_;refine Θ [23] [3,4,14,15,16,21,22] (λj:Nat=>[mi j]) (λj O'=>j<=(Ζ l)/\O.Ge O'/\O1.N<=O'.N/\∃R T',O'.hp O.N=φ (.cells (dH (Ζ g) R T'))/\xE (Ζ g) T' O1.N O'/\E9 g i j R) (λj=>(Ζ l) - j) (0) ?_ ?_;exact⟨agb _,aC,fc,R,T2,fy,uI,hR⟩;clear fy uI hR aC fc R T2 O2;rintro j O2 ⟨hj,aC,fc,R,T2,fy,uI,hR⟩;by_cases aM:j<Ζ l;rotate_left
   ·obtain rfl:j=Ζ l:=by omega
    refine ν aD ?_;exact aB.mk () ⟨aC,fc,R,T2,fy,uI,hR⟩
   have cA:=jSx j;have hx:=pB l[j] (agc aM);have NA:l[j]?=φ l[j]:=Ca aM;have oh:=zF j l[j] NA;generalize l[j]=x at*;obtain⟨u,rfl⟩:=aqc hx.1;(((have hu:u<Ζ g:=by omega);have Jl:=lT R T2 hu;have pW:=fW (Ζ g) R T2;have fz:=λt=>Cm (R:=R) (R':=λv=>if v=u then R u++[(i:Int)]else R v) (x:=(i:Int)) T2 t hu (if_pos rfl) (λv _ hv=>if_neg hv));have cH:=uI.1 u hu;have Rr:=hR.len u hu;have cX:=fz (.own O2.N 1);rw[aq]at cX;have alD:=hR.step (R':=λv=>if v=u then R u++[(i:Int)]else R v) rE NA (if_pos rfl) (λv _ hv=>if_neg hv) hu;have hii:i*1000<=1000*1000:=Nat.mul_le_mul_right _ (by omega);have je:=aP (tk:=T2 u) (tk':=.full) (n:=(R u).length) (k:=1) (cs:=(R u).map mi) (ds:=[.v (Ι Κ i)]) fZ T3 cH (by rw[WT,ap_]);have Wq:=VH.jo cH fy;have AO:=VH.dC O2 (T2 u);have ir:=cy.after cH;have vM:∀i,Tok.id (T2 u)=φ i->O1.N<=i:=λi e=>(cH.nZ e).1);generalize dH (Ζ g) R T2=RR at*;refine κ aD ?_;refine κ aD ?_;refine Γ (χ ?_);refine θ (aE aD oh tT ?_);refine ι (cB aD fy pW Jl ?_);refine VL.app je ?_;refine cB aD Wq pW cX ?_;refine ο aD cA ?_;refine az.N (j+1) ⟨aM,⟨by show O.N<=(O2.after (T2 u)).N;have:=aC.N;omega,λi h=>?_⟩,by show O1.N<=(O2.after (T2 u)).N;omega,_,_,υ _ _ _,uI.put hu (by omega) rfl λi hi=>VH.sx,alD⟩;rw[VH.sx,ir.hp i (by have:=aC.N;omega) (λe=>by have:=vM i e;omega)];exact aC.hp i h
  clear fy uI hR aC fc R T2;rintro _ O3 ⟨aC,fc,R,T2,fy,uI,hR⟩;refine ο aD gh ?_;exact az.N (i+1) ⟨cn,aC,fc,R,T2,fy,uI,hR.row rE tO⟩
 rintro _ O9 ⟨bI,AL,R,T9,SR,hR⟩;refine VC.freeze 3 (sz:=Ζ g) rfl SR (by rw[fW];omega) ?_
 have di:((dH (Ζ g) R T9).drop 0).take (Ζ g)=bz ((Ν (Ζ g)).map R) T9:=by
  rw[aqq,ap3 (by rw[fW];exact abx _),SV]
 rw[di,if_pos rfl];generalize hG:bz ((Ν (Ζ g)).map R) T9=G at*;refine κ aD ?_;refine ν aD ?_;refine⟨bI.kill (abx _),.inl ⟨(Ν (Ζ g)).map R,T9,.full,by rw[hG],by simp,λa b=>?_,?_,?_⟩⟩
 ·constructor
  ·rintro⟨l,h1,h2⟩
   have ha:a<Ζ g:=by
    have:=(alP.1 h1).1;simpa using this
   rw[YI,alU ha]at h1;injection h1 with h1;subst h1;obtain⟨c,e,h3 | ⟨_,l',h4,_⟩⟩:=(hR.mem a ha b).1 h2
   ·have:b=c:=by omega
    subst this;exact h3.2
   ·rw[akc (abx _)]at h4;cases h4
  ·intro h1;obtain⟨h2,h3⟩:=nI tf h1;exact⟨R a,by rw[YI,alU h3];rfl,(hR.mem a h3 b).2 ⟨b,rfl,.inl ⟨h2,h1⟩⟩⟩
 ·refine⟨by simpa using xG,λl hl=>?_⟩;obtain⟨u,hu,rfl⟩:=aqa.1 hl;have:=hR.len u (alT.1 hu);have:=Nat.mul_le_mul_right 1000 xG;omega
 ·intro l hl x hx;obtain⟨u,hu,rfl⟩:=aqa.1 hl;obtain⟨c,e,h3 | ⟨_,l',h4,_⟩⟩:=(hR.mem u (alT.1 hu) x).1 hx;have:=h3.1;rw[WT,aqg];omega;rw[akc (abx _)]at h4;cases h4
def alE{x:MV}(hc:Ζ cs=n):qS (bR Ε) 29 (.l (n+1) (x::cs) tk) (φ (.v (Ι Κ 1))) (.v (Ι Κ ((n+1:Nat):Int))) (.v (Ι Κ ((n+1:Nat):Int)))=φ (.l n cs .full):=by
 simp only[qS,fZ,T3,aqe,dR];rw[if_pos (by decide:(0:Int)<=1)];dsimp only;rw[if_pos ⟨by omega,by omega,by omega,abx _⟩,aqs,if_pos ⟨abx _,by rw[alQ,hc];omega⟩,if_neg (by omega)];by_cases h:n+1=(1:Int).toNat
 ·have:n=0:=by simpa using h
  subst this;rw[if_pos h,List.length_eq_zero_iff.1 hc]
 ·rw[if_neg h,if_pos trivial];(have e1:n+1 - (1:Int).toNat=n:=by simp);have e2:(1:Int).toNat*1=1:=rfl;rw[e1,e2,List.drop_one,List.tail_cons,ap_,ap3 (by omega)]
def afA(g:Ο)(T:Nat->Tok)(tk:Tok)(f:Int)(O:VH)(hs:sm 1000000 g):VF Ε 45 [.l (Ζ g) (bz g T) tk,mi f] O (aH λm O'=>O.Ge O'/\((m6 g=Α/\0<=f/\f<(Ζ g:Int)/\∃D t,m= .l (Ζ g) (D.map mi) t/\(Ζ D)=(Ζ g)/\∀x,m5 D x ↔ gY g f.toNat x)\/((m6 g=γ\/f<0\/(Ζ g:Int)<=f)/\m= .l 0 [] .nil))):=by
 have xG:=hs.1;have iD:=λO'=>xk (tab:=bR Ε) fZ T3 O' (Ζ g) (by omega) (by omega)
 have qq:=zE g T tk O hs;have dh:=Mb (Ζ g) (bz g T) tk f O;have n9:=eM g T;have Co:=λu h=>iw g T (u:=u) h
 generalize bz g T=A at*;rw[aq]at dh ⊢;refine ω 77 [.tmp 4] func45 ?_;refine κ aD ?_;refine κ aD ?_;refine τ qq ?_;rintro _ Ox ⟨rfl,eO⟩;rw[eO];clear eO Ox qq;cases hm:m6 g;refine ae aD ?_;exact⟨VH.Ge.refl _,by simp⟩;have tf:=(jv g).1 hm;refine ae aD ?_;refine τ dh ?_;rintro _ Ox ⟨rfl,eO⟩;rw[eO];clear eO Ox dh;by_cases hf:0<=f/\f<(Ζ g:Int);rotate_left
 ·have e:(decide (0<=f)&&decide (f<(Ζ g:Int)))=γ:=by
   rw[ap8];intro h;rw[aqj,decide_eq_true_eq,decide_eq_true_eq]at h;exact hf h
  rw[e];refine ae aD ?_;exact⟨VH.Ge.refl _,.inr (by first | exact⟨by omega,rfl⟩ | (simp;omega))⟩
 rw[decide_eq_true hf.1,decide_eq_true hf.2];obtain⟨f,rfl⟩:=aqc hf.1;have jI:f<Ζ g:=by omega
 refine aE aD @oB iD ?_;refine θ (aE aD @oB iD ?_);refine VC.bx ?_;rintro O1 ⟨aK,cJ,dd⟩;have hva:cS (bR Ε) 29 (.aS O.N 0 (Ζ g) (Ζ g))=φ (.v (Ι Κ (Ζ g))):=rfl;refine Ξ [0,1,5] (λ_:Unit=>[.l (Ζ g) A tk,mi f,.aS O.N 0 (Ζ g) (Ζ g)]) (λ_ O'=>O.Ge O'/\O.N<O'.N/\O'.hp O.N=φ (.cells ((Μ (Ζ g) (-1)).map mi))) ?_ ?_
 ·refine ξ aD hva ?_;refine χ ?_;refine Θ [25] [0,1,5,24] (λi:Nat=>[mi i]) (λi O'=>i<=(Ζ g)/\O.Ge O'/\O.N<O'.N/\O'.hp O.N=φ (.cells (Μ i (mi (-1))++Μ ((Ζ g) - i) (mi 0)))) (λi=>(Ζ g) - i) (0) ?_ ?_;exact⟨agb _,aK,by omega,by rw[cJ];rfl⟩;clear cJ;rintro i O2 ⟨hi,aC,fc,fy⟩;by_cases cn:i<Ζ g;rotate_left
  ·obtain rfl:i=Ζ g:=by omega
   rw[Nat.sub_self,List.replicate_zero,ap5]at fy;refine ν aD ?_;exact aB.mk () ⟨aC,fc,by rw[fy,List.map_replicate]⟩
  have gh:=jSx i
  have cX:(Μ i (mi (-1))++Μ ((Ζ g) - i) (mi 0)).set i (.v (Ι Κ (-1)))=Μ (i+1) (mi (-1))++Μ ((Ζ g) - (i+1)) (mi 0):=by
   rw[List.set_append_right _ _ (by simp),List.length_replicate,Nat.sub_self,show (Ζ g) - i=((Ζ g) - (i+1))+1 by omega,List.replicate_succ,List.set_cons_zero,List.replicate_succ' (n:=i),List.append_assoc];rfl
  (have gU:(Μ i (mi (-1))++Μ ((Ζ g) - i) (mi 0)).length=Ζ g:=by simp;omega);generalize Μ i (mi (-1))++Μ ((Ζ g) - i) (mi 0)=C at*;refine κ aD ?_;refine κ aD ?_;refine Γ (χ ?_);refine κ aD ?_;refine ι (cB aD fy gU cX ?_);refine ο aD gh ?_;exact az.N (i+1) ⟨cn,aC.set (abx _) _,fc,υ _ _ _⟩
 clear aK cJ dd O1;rintro _ O2 ⟨aC,fc,fy⟩;have gU:((Μ (Ζ g) (-1:Int)).map mi).length=Ζ g:=by simp
 have cX:((Μ (Ζ g) (-1:Int)).map mi).set f (.v (Ι Κ 0))=((Μ (Ζ g) (-1:Int)).set f 0).map mi:=by rw[List.map_set];rfl
 have hB0:=vN.init jI;generalize (Μ (Ζ g) (-1:Int)).set f 0=D0 at*;generalize (Μ (Ζ g) (-1:Int)).map mi=C at*;refine θ (cB aD fy gU cX ?_);refine VC.gen ?_;intro O3 e3;have aJ:O.Ge O3:=by rw[e3];exact aC.set (abx _) _
 have kY:O3.hp O.N=φ (.cells (D0.map mi)):=by rw[e3];exact υ _ _ _
 have ij:O.N<O3.N:=by rw[e3];exact fc
 clear e3 cX gU fy aC fc O2;refine κ aD ?_;refine Ξ [5] (λ_:Unit=>[.aS O.N 0 (Ζ g) (Ζ g)]) (λ_ O'=>O.Ge O'/\∃D,O'.hp O.N=φ (.cells (D.map mi))/\(Ζ D)=(Ζ g)/\∀x,m5 D x ↔ gY g f x) ?_ ?_
 ·refine χ ?_;refine Θ [7] [0,5] (λs:Χ×Χ×Tok=>[.l (Ζ s.2.1) (s.2.1.map mi) s.2.2]) (λs O'=>O.Ge O'/\O3.N<=O'.N/\O'.hp O.N=φ (.cells (s.1.map mi))/\vN g f s.1 s.2.1 (Ζ g) 0/\App O' O3.N 1 s.2.2/\(Ζ s.2.1)<=nU s.1) (λs=>2*((Ζ g) - nU s.1)+Ζ s.2.1) ((D0,[(f:Int)],.full)) ?_ ?_;refine⟨aJ,abx _,kY,hB0,trivial,?_⟩;obtain⟨d,h1,h2⟩:=hB0.fr;have:=hB0.bound f d h1;show 1<=nU D0;omega
  clear hB0 kY aJ;rintro⟨D,Q,tq⟩ O4 ⟨aT,fT,gd,hB,cH,hQ4⟩;dsimp only at gd hB cH hQ4 ⊢;have hvQ:cS (bR Ε) 29 (.l (Ζ Q) (Q.map mi) tq)=φ (.v (Ι Κ (Ζ Q))):=bC fZ;cases Q with
  | nil=>
    refine ξ aD hvQ ?_;exact aB.mk () ⟨aT,D,gd,hB.len,hB.all⟩
  | cons m Q=>
  obtain⟨n,rfl,Jo⟩:=hB.q m Ti
  have AI:n<Ζ g:=by
   obtain⟨d,h1,_⟩:=Jo;have:=(alP.1 h1).1;have:=hB.len;omega
  have yX:=hB.pop (Nat.le_refl _);have Gt:(((n:Int)::Q).map mi)[0]?=φ (MV.v (Ι Κ n)):=rfl;((have qy:(((n:Int)::Q).map mi).length=Ζ Q+1:=by simp);have EL:=alE (n:=Ζ Q) (x:=mi n) (cs:=Q.map mi) (tk:=tq) (WT _);have T0:decide ((((n:Int)::Q).length:Int)>0)=Α:=decide_eq_true (by rw[alQ];omega);have Yx:decide ((0:Int)<(((n:Int)::Q).length:Int))=Α:=T0;rw[alQ]at hQ4;have hmD:=Jm D;rw[hB.len]at hmD;have qf:g[n]?=φ g[n]:=Ca AI;have bG:=Co n AI;have pB:=tf g[n] (agc AI);have tO:=hs.2 g[n] (agc AI);generalize g[n]=l at*;have qR:cS (bR Ε) 29 (.l (Ζ l) (l.map mi) (T n))=φ (.v (Ι Κ (Ζ l))):=bC fZ;have tT:(l.map mi).length=Ζ l:=WT _;have zF:∀(j:Nat)(y:Int),l[j]?=φ y->(l.map mi)[j]?=φ (MV.v (Ι Κ y)):=λj y h=>by rw[YI,h];rfl);generalize l.map mi=cs at*;rw[aqD]at hvQ Gt qy;rw[alQ]at hvQ T0 Yx;simp only[alQ,aqD];generalize hmq:Q.map mi=mq at*;simp only[aq]at hvQ Gt qy EL ⊢;refine θ (cB aD hvQ T0 Yx ?_);refine χ ?_;refine θ (aE aD Gt qy ?_);refine θ (aE aD hvQ EL ?_);subst hmq;refine VC.BR [0,5,7] (λx:Χ×Χ×Tok=>[.l (Ζ g) A tk,.aS O.N 0 (Ζ g) (Ζ g),.l (Ζ x.2.1) (x.2.1.map mi) x.2.2]) (λx O'=>O.Ge O'/\O3.N<=O'.N/\O'.hp O.N=φ (.cells (x.1.map mi))/\vN g f x.1 x.2.1 n (Ζ l)/\App O' O3.N 1 x.2.2/\(Ζ x.2.1)<=nU x.1/\2*((Ζ g) - nU x.1)+Ζ x.2.1<=2*((Ζ g) - nU D)+Ζ Q) ?_ ?_
  ·refine θ (cB aD bG n9 qR ?_);refine χ ?_;refine Θ [7,54] [0,5,8,52,53] (λs:Χ×Χ×Tok×Nat=>[.l (Ζ s.2.1) (s.2.1.map mi) s.2.2.1,mi s.2.2.2]) (λs O'=>s.2.2.2<=(Ζ l)/\O.Ge O'/\O3.N<=O'.N/\O'.hp O.N=φ (.cells (s.1.map mi))/\vN g f s.1 s.2.1 n s.2.2.2/\m5 s.1 n/\App O' O3.N 1 s.2.2.1/\(Ζ s.2.1)<=nU s.1/\2*((Ζ g) - nU s.1)+Ζ s.2.1<=2*((Ζ g) - nU D)+Ζ Q) (λs=>(Ζ l) - s.2.2.2) ((D,Q,.full,0)) ?_ ?_;exact⟨agb _,aT,fT,gd,yX,Jo,trivial,by show (Ζ Q)<=nU D;omega,abx _⟩;clear gd aT fT cH hB yX Jo;rintro⟨D1,Q1,t1,j⟩ O5 ⟨hj,bO,eJ,dW,tE,ra,gx,hQ5,hM5⟩;dsimp only at hj dW tE ra gx hQ5 hM5 ⊢;by_cases aM:j<Ζ l;rotate_left
   ·obtain rfl:j=Ζ l:=by omega
    refine ν aD ?_;exact aB.mk (D1,Q1,t1) ⟨bO,eJ,dW,tE,gx,hQ5,hM5⟩
   have cA:=jSx j;have hx:=pB l[j] (agc aM);have NA:l[j]?=φ l[j]:=Ca aM;have oh:=zF j l[j] NA;generalize l[j]=x at*;obtain⟨k,rfl⟩:=aqc hx.1;((((((((((((have gW:k<Ζ D1:=by rw[tE.len];omega);have hDk:D1[k]?=φ D1[k]:=Ca gW;have ir:(D1.map mi)[k]?=φ (MV.v (Ι Κ D1[k])):=by rw[YI,hDk];rfl);have aom:=tE.low k _ hDk;obtain⟨d,AD,SW⟩:=ra;have aon:(D1.map mi)[n]?=φ (MV.v (Ι Κ d)):=by rw[YI,AD];rfl);have hdb:=tE.bound n d AD;have aoo:=Jm D1;rw[tE.len]at aoo;have hDl:(D1.map mi).length=Ζ g:=by rw[WT,tE.len]);have cX:(D1.map mi).set k (.v (Ι Κ (d+1)))=(D1.set k (d+1)).map mi:=by rw[List.map_set];rfl);have L5:=λh=>tE.add qf NA AD SW hDk h);have Ok:=λh=>tE.skip qf NA h);have hms:=λ(h:D1[k]<0)=>Ay (D:=D1) (k:=k) (v:=d+1) (by omega) ⟨D1[k],hDk,h⟩);generalize D1[k]=e at*;generalize hDm:D1.map mi=DM at*;refine κ aD ?_;refine κ aD ?_;refine Γ (χ ?_);refine θ (aE aD oh tT ?_);by_cases he:e<0;rotate_left);have e1:decide (e<0)=γ:=decide_eq_false he;refine ι (iV aD dW ir hDl e1 ?_);refine ο aD cA ?_;exact az.N (D1,Q1,t1,j+1) ⟨aM,bO,eJ,by rw[hDm];exact dW,Ok ⟨e,hDk,by omega⟩,⟨d,AD,SW⟩,gx,hQ5,hM5⟩);have e1:decide (e<0)=Α:=decide_eq_true he;have apO:=hms he;have alF:=L5 he;have aop:=Jm (D1.set k (d+1));rw[List.length_set,tE.len]at aop;have gN:O.Ge (O5.set O.N (.cells ((D1.set k (d+1)).map mi))):=bO.set (Nat.le_refl _) _;have oc:App (O5.set O.N (.cells ((D1.set k (d+1)).map mi))) O3.N 1 t1:=ow gx (λi hi=>VH.sx) (Nat.le_refl _);have pe:(O5.set O.N (.cells ((D1.set k (d+1)).map mi))).hp O.N=φ (.cells ((D1.set k (d+1)).map mi)):=υ _ _ _;have oD:O3.N<=(O5.set O.N (.cells ((D1.set k (d+1)).map mi))).N:=eJ;have je:=aP (tk:=t1) (tk':=.full) (n:=Ζ Q1) (k:=1) (cs:=Q1.map mi) (ds:=[.v (Ι Κ k)]) fZ T3 oc (by rw[List.length_map,Nat.mul_one]);refine ι (wc @aD @dW (And.intro ir aon) @hDl @e1 @cX ?_);generalize O5.set O.N (.cells ((D1.set k (d+1)).map mi))=O6 at*;refine VL.app je ?_;refine ae @aD ?_;refine ο @aD @cA ?_;refine az.N (D1.set k (d+1),Q1++[(k:Int)],.own O6.N 1,j+1) ⟨aM,gN.after oc (by omega),by rw[VH.dC];omega,VH.jo oc pe,alF,L9 (by omega) ⟨d,AD,SW⟩,App.after,?_,?_⟩ (hl:=by dsimp only;rw[List.length_append,List.map_append];rfl));show(Q1++[(k:Int)]).length<=nU (D1.set k (d+1));rw[aka,ap4];omega);show 2*((Ζ g) - nU (D1.set k (d+1)))+(Q1++[(k:Int)]).length<=_;rw[aka,ap4];omega
  clear gd cH hB yX;rintro⟨D1,Q1,t1⟩ O5 ⟨bO,eJ,dW,tE,gx,hQ5,hM5⟩;dsimp only at dW tE gx hQ5 hM5;exact⟨rfl,(D1,Q1,t1),rfl,⟨bO,eJ,dW,tE.fin qf,gx,hQ5⟩,by dsimp only;rw[alQ];omega⟩
 rintro _ O9 ⟨bI,D,SR,hDl,hD⟩;refine VC.freeze 5 (sz:=Ζ g) rfl SR (by rw[WT];omega) ?_
 have di:((D.map mi).drop 0).take (Ζ g)=D.map mi:=by
  rw[aqq,ap3 (by rw[WT];omega)]
 rw[di,if_pos rfl];generalize hG:D.map mi=G at*;refine κ aD ?_;refine ν aD ?_;refine⟨bI.kill (abx _),.inl ⟨hf.1,hf.2,D,.full,by rw[hG],hDl,hD⟩⟩
def cQ(p:Nat->Bool)(n:Nat):Χ:=((Ν n).filter p).map λi:Nat=>(i:Int)
def qJ(p:Nat->Bool)(n:Nat):cQ p (n+1)=cQ p n++if p n then[(n:Int)]else[]:=by
 unfold cQ;rw[aqA,List.filter_append,ap6];congr 1
 cases h:p n<;>simp[h]
def jM(p:Nat->Bool)(n:Nat):(cQ p n).length<=n:=by
 unfold cQ;rw[WT];have:=List.length_filter_le p (Ν n)
 rwa [aqg]at this
def SX{p q:Nat->Bool}(h:∀x,x<n->p x=q x):cQ p n=cQ q n:=by
 unfold cQ;rw[List.filter_congr λx hx=>h x (alT.1 hx)]
def iy{p:Nat->Bool}{x:Int}:x∈cQ p n ↔ ∃i:Nat,x=i/\i<n/\p i=Α:=by
 unfold cQ;rw[aqa];constructor;rintro⟨i,h,rfl⟩;obtain⟨h1,h2⟩:=List.mem_filter.1 h;exact⟨i,rfl,alT.1 h1,h2⟩;rintro⟨i,rfl,h1,h2⟩;exact⟨i,List.mem_filter.2 ⟨alT.2 h1,h2⟩,rfl⟩
def afB(g:Ο)(T:Nat->Tok)(tk:Tok)(f:Int)(O:VH)(hs:sm 1000000 g):VF Ε 27 [.l (Ζ g) (bz g T) tk,mi f] O (aH λm O'=>O.Ge O'/\∃p t,m= .l (cQ p (Ζ g)).length ((cQ p (Ζ g)).map mi) t/\∀x,x<(Ζ g)->(p x=Α ↔ m6 g=Α/\0<=f/\f<(Ζ g:Int)/\gY g f.toNat x)):=by
 have xG:=hs.1;have hd:=afA g T tk f O hs;generalize bz g T=A at*;rw[aq]at hd ⊢;refine ω 24 [.tmp 4] func27 ?_;refine κ aD ?_;refine Ξ [4] (λx:(Nat->Bool)×Tok=>[.l (cQ x.1 (Ζ g)).length ((cQ x.1 (Ζ g)).map mi) x.2]) (λx O'=>O.Ge O'/\∀y,y<(Ζ g)->(x.1 y=Α ↔ m6 g=Α/\0<=f/\f<(Ζ g:Int)/\gY g f.toNat y)) ?_ ?_
 ·refine κ aD ?_;refine τ hd ?_;rintro m O1 ⟨aK,⟨hm,D5,jI,D,t,rfl,hDl,hD⟩ | ⟨dh,rfl⟩⟩;rotate_left;refine ae aD ?_;refine χ ?_;have Gb:cS (bR Ε) 29 (.l 0 [] .nil)=φ (.v (Ι Κ 0)):=bC fZ;refine Θ [4,11] [9,10] (λ_:Unit=>[.l 0 [] .nil,mi 0]) (λ_ O'=>O'=O1) (λ_=>0) (()) ?_ ?_;rfl;rintro _ Ox eO;rw[eO];clear eO Ox;refine ν @aD ?_;(((((have e0:cQ (λ_:Nat=>γ) (Ζ g)=[]:=by unfold cQ;simp);refine aB.mk (λ_=>γ,.nil) ⟨aK,λy _=>⟨(λh=>by cases h),λh=>?_⟩⟩ (h1:=by dsimp only;rw[e0];rfl);rcases dh with dh | dh | dh);rw[dh]at h;cases h.1);omega);omega);have hDm:(D.map mi).length=Ζ g:=by rw[WT,hDl]
  (have hgD:∀(j:Nat)(y:Int),D[j]?=φ y->(D.map mi)[j]?=φ (MV.v (Ι Κ y)):=λj y h=>by rw[YI,h];rfl);obtain⟨p,hp⟩:∃p:Nat->Bool,p=λx=>decide (0<=D.getD x (-1)):=⟨_,rfl⟩
  have hpm:∀x,p x=Α ↔ m5 D x:=λx=>by
   rw[hp];dsimp only;rw[decide_eq_true_eq,akd];constructor
   ·intro h;cases hx:D[x]? with
    | none=>rw[hx]at h;simp at h
    | some d=>rw[hx]at h;exact⟨d,hx,h⟩
   ·rintro⟨d,h1,h2⟩;rw[h1];exact h2
  generalize D.map mi=cs at*;refine ao aD @oB ?_;refine χ ?_;refine Θ [4,11] [9,10] (λs:Nat×Tok=>[.l (cQ p s.1).length ((cQ p s.1).map mi) s.2,mi s.1]) (λs O'=>s.1<=(Ζ g)/\O.Ge O'/\App O' O.N 1 s.2) (λs=>(Ζ g) - s.1) ((0,.nil)) ?_ ?_;exact⟨agb _,aK,trivial⟩;rintro⟨j,t1⟩ O3 ⟨hj,aJ,kY⟩;dsimp only at hj kY ⊢;by_cases aM:j<Ζ g;rotate_left
  ·obtain rfl:j=Ζ g:=by omega
   refine ν aD ?_;refine aB.mk (p,t1) ⟨aJ,λy _=>?_⟩;dsimp only;rw[hpm,hD];exact⟨λh=>⟨hm,D5,jI,h⟩,λh=>h.2.2.2⟩
  have cA:=jSx j;have hDj:D[j]?=φ D[j]:=Ca (by omega);have bG:=hgD j _ hDj;have vO:=qJ p j;have RN:=jM p j;(((have hpj:p j=decide (0<=D[j]):=by rw[hp];dsimp only;rw[akd,hDj];rfl);generalize D[j]=d at*;generalize cQ p j=P at*;refine κ aD ?_;refine κ aD ?_;refine Γ (χ ?_);refine θ (aE aD bG hDm ?_);by_cases SW:0<=d);have e1:decide (0<=d)=Α:=decide_eq_true SW;have e2:decide (d>=0)=Α:=e1;rw[hpj,e1,if_pos rfl]at vO;have je:=aP (tk:=t1) (tk':=.full) (n:=Ζ P) (k:=1) (cs:=P.map mi) (ds:=[.v (Ι Κ j)]) fZ T3 kY (by rw[WT,ap_]);refine ι (aE aD e1 e2 ?_);refine VL.app je ?_;refine ae aD ?_;refine ο aD cA ?_;exact az.N (j+1,.own O3.N 1) ⟨aM,cy.eR aJ kY (cy.after kY),App.after aJ.N⟩ (hl:=by dsimp only;rw[vO,aka,ap6];rfl));have e1:decide (0<=d)=γ:=decide_eq_false SW;have e2:decide (d>=0)=γ:=e1;rw[hpj,e1,if_neg (by decide),ap5]at vO;refine ι (aE aD e1 e2 ?_);refine ο aD cA ?_;exact az.N (j+1,t1) ⟨aM,aJ,kY⟩ (hl:=by dsimp only;rw[vO];rfl)
 rintro⟨p,t⟩ O9 ⟨bI,hp⟩;refine κ aD ?_;refine ν aD ?_;exact⟨bI,p,t,rfl,hp⟩
def ib(n:Nat)(q:Nat->Bool):Η:=(Ν n).map λx=>mb (q x)
def m7(n:Nat)(q:Nat->Bool):(ib n q).length=n:=by simp[ib]
def qK(q:Nat->Bool)(h:x<n):(ib n q)[x]?=φ (.v (.bool (q x))):=by
 unfold ib;rw[YI,alU h];rfl
def D6(n:Nat):List.replicate n (MV.v (.bool γ))=ib n λ_=>γ:=by
 unfold ib
 exact(List.eq_replicate_iff.2 ⟨by simp,λb hb=>by
  obtain⟨u,_,rfl⟩:=aqa.1 hb;rfl⟩).symm
def Mc(q:Nat->Bool)(k:Nat)(b:Bool):Nat->Bool:=λv=>if v=k then b else q v
def F4(q:Nat->Bool)(b:Bool)(hk:k<n):(ib n q).set k (.v (.bool b))=ib n (Mc q k b):=by
 refine aqf λi=>?_
 rw[aqr,m7];by_cases e:k=i;subst e;rw[if_pos rfl,if_pos hk,qK _ hk];unfold Mc;rw[if_pos rfl];rw[if_neg e];by_cases hi:i<n;rw[qK _ hi,qK _ hi];unfold Mc;rw[if_neg (Ne.symm e)];rw[akc (by rw[m7];omega),akc (by rw[m7];omega)]
def Wr(g:Ο)(T:Nat->Tok)(tk:Tok)(C:Χ)(tc:Tok)(O:VH)(hs:sm 1000 g)(hC:Ζ C<=100000):VF Ε 11 [.l (Ζ g) (bz g T) tk,.l (Ζ C) (C.map mi) tc] O (aH λm O'=>O.Ge O'/\((m6 g=Α/\∃q t,m= .l (cQ q (Ζ g)).length ((cQ q (Ζ g)).map mi) t/\∀x,x<(Ζ g)->(q x=Α ↔ ∃c∈C,0<=c/\c<(Ζ g:Int)/\gY g x c.toNat))\/(m6 g=γ/\∃t,m= .l 0 [] t))):=by
 have htu:=abk g T tk O hs;have hCm:(C.map mi).length=Ζ C:=WT _;have U6:∀(j:Nat)(y:Int),C[j]?=φ y->(C.map mi)[j]?=φ (MV.v (Ι Κ y)):=λj y h=>by rw[YI,h];rfl
 generalize C.map mi=CM at*;refine ω 51 [.tmp 4] func11 ?_;refine κ aD ?_;refine κ aD ?_;refine τ htu ?_;rintro m O1 ⟨aK,hm⟩
 obtain⟨t,T1,Ws,rfl,cX,hmt,alG⟩:∃t T1 Ws,m= .l (Ζ t) (bz t T1) Ws/\sm 1000000 t/\ot t/\((m6 g=Α/\(Ζ t)=(Ζ g)/\∀a b,fX t a b ↔ fX g b a)\/(m6 g=γ/\t=[])):=by
  rcases hm with⟨h1,t,T1,Ws,h2,h3,h4,h5,h6⟩ | ⟨h1,h2⟩;exact⟨t,T1,Ws,by rw[h2,h3],h5,h6,.inl ⟨h1,h3,h4⟩⟩;exact⟨[],λ_=>.nil,.nil,h2,⟨agb _,by simp⟩,(by intro l hl;cases hl),.inr ⟨h1,rfl⟩⟩
 clear hm htu;have GF:=(jv t).2 hmt;have xG:=cX.1;have Wp:=λf O'=>afB t T1 Ws f O' cX
 have iD:=λO'=>xk (tab:=bR Ε) Qp T4 O' (Ζ t) (by omega) (by omega)
 generalize bz t T1=A at*;refine ae aD ?_;refine θ (aE aD @oB iD ?_);refine VC.bx ?_;rintro O2 ⟨aC,fy,fc⟩;rw[D6]at fy;have gy:=aK.trans aC;refine Ξ [4,6] (λ_:Unit=>[.l 0 [] .nil,.aS O1.N 0 (Ζ t) (Ζ t)]) (λ_ O'=>O.Ge O'/\O1.N<O'.N/\∃q,O'.hp O1.N=φ (.cells (ib (Ζ t) q))/\∀x,x<(Ζ t)->(q x=Α ↔ ∃c∈C,0<=c/\c<(Ζ t:Int)/\gY t c.toNat x)) ?_ ?_
 ·refine ξ aD @oB ?_;refine χ ?_;refine Θ [20] [4,5,6,18,19] (λi:Nat=>[mi i]) (λi O'=>i<=(Ζ C)/\O.Ge O'/\O1.N<O'.N/\∃q,O'.hp O1.N=φ (.cells (ib (Ζ t) q))/\∀x,x<(Ζ t)->(q x=Α ↔ ∃c∈C.take i,0<=c/\c<(Ζ t:Int)/\gY t c.toNat x)) (λi=>(Ζ C) - i) (0) ?_ ?_;exact⟨agb _,gy,by omega,_,fy,λx _=>⟨(λh=>by cases h),λ⟨c,h,_⟩=>by simp at h⟩⟩;clear fy;rintro i O3 ⟨hi,aJ,ij,q,kY,hq⟩;by_cases cn:i<Ζ C;rotate_left
  ·obtain rfl:i=Ζ C:=by omega
   rw[akb]at hq;refine ν aD ?_;exact aB.mk () ⟨aJ,ij,q,kY,hq⟩
  have gh:=jSx i;have IQ:C[i]?=φ C[i]:=Ca cn;have bG:=U6 i _ IQ;(have di:C.take (i+1)=C.take i++[C[i]]:=by rw[akf cn]);generalize C[i]=c at*;have wJ:=Wp c O3;rw[aq]at wJ;refine κ aD ?_;refine κ aD ?_;refine Γ (χ ?_);refine θ (aE aD bG hCm ?_);refine VC.BR [4,5,6,18,19,20] (λ_:Unit=>[.l 0 [] .nil,.l (Ζ t) A Ws,.aS O1.N 0 (Ζ t) (Ζ t),.l (Ζ C) CM tc,mi (Ζ C),mi i]) (λ_ O'=>O.Ge O'/\O1.N<O'.N/\∃q,O'.hp O1.N=φ (.cells (ib (Ζ t) q))/\∀x,x<(Ζ t)->(q x=Α ↔ ∃c∈C.take (i+1),0<=c/\c<(Ζ t:Int)/\gY t c.toNat x)) ?_ ?_
  ·refine κ aD ?_;refine τ wJ ?_;rintro _ O4 ⟨aT,p,tp,rfl,hp⟩;have hIm:((cQ p (Ζ t)).map mi).length=(cQ p (Ζ t)).length:=WT _;((((have hgI:∀(j:Nat)(y:Int),(cQ p (Ζ t))[j]?=φ y->((cQ p (Ζ t)).map mi)[j]?=φ (MV.v (Ι Κ y)):=λj y h=>by rw[YI,h];rfl);have afC:=λx=>iy (p:=p) (n:=Ζ t) (x:=x));have hIl:=jM p (Ζ t);generalize cQ p (Ζ t)=I at*;generalize I.map mi=IM at*;have gd:=aT.at kY;refine ao aD @oB ?_;refine χ ?_;refine Θ [28] [4,5,6,18,19,20,26,27] (λj:Nat=>[mi j]) (λj O'=>j<=(Ζ I)/\O.Ge O'/\O1.N<O'.N/\∃q',O'.hp O1.N=φ (.cells (ib (Ζ t) q'))/\∀x,x<(Ζ t)->(q' x=Α ↔ q x=Α\/(x:Int)∈I.take j)) (λj=>(Ζ I) - j) (0) ?_ ?_);exact⟨agb _,aJ.trans aT,by have:=aT.N;omega,q,gd,λx _=>⟨.inl,λh=>h.elim id λh=>by simp at h⟩⟩);clear gd;rintro j O5 ⟨hj,bO,eJ,q',dW,VD⟩;by_cases aM:j<Ζ I;rotate_left
   ·obtain rfl:j=Ζ I:=by omega
    rw[akb]at VD;refine ν aD ?_;refine aB.mk () ⟨bO,eJ,q',dW,λx hx=>?_⟩;rw[VD x hx,hq x hx,afC];constructor
    ·rintro(⟨c',h1,h2⟩ | ⟨k,h1,h2,h3⟩);exact⟨c',by rw[di];exact aqi _ h1,h2⟩
     ·have:x=k:=by omega
      subst this;obtain⟨_,h4,h5,h6⟩:=(hp x hx).1 h3;exact⟨c,by rw[di];simp,h4,h5,h6⟩
    ·rintro⟨c',h1,h2,h3,h4⟩;rw[di,alO]at h1;rcases h1 with h1 | h1;exact .inl ⟨c',h1,h2,h3,h4⟩;rw[ake.1 h1]at h2 h3 h4;exact .inr ⟨x,rfl,hx,(hp x hx).2 ⟨GF,h2,h3,h4⟩⟩
   have cA:=jSx j;have hIj:I[j]?=φ I[j]:=List.getElem?_eq_getElem aM;obtain⟨k,cK,bY,en⟩:=(afC I[j]).1 (List.getElem_mem aM);rw[cK]at hIj;have oh:=hgI j _ hIj;(((have AR:I.take (j+1)=I.take j++[(k:Int)]:=by rw[List.take_add_one,hIj];rfl);have fz:=F4 q' Α bY;have gU:=m7 (Ζ t) q';generalize Rn:ib (Ζ t) q'=CQ at*;refine κ aD ?_;refine κ aD ?_;refine Γ (χ ?_);refine θ (aE aD oh hIm ?_);refine ι (cB aD dW gU fz ?_);refine ο aD cA ?_;refine az.N (j+1) ⟨aM,bO.set (by have:=aK.N;omega) _,eJ,_,υ _ _ _,λx hx=>?_⟩;unfold Mc;by_cases e:x=k);subst e;rw[if_pos rfl,AR];exact⟨λ_=>.inr (by simp),λ_=>rfl⟩);rw[if_neg e,VD x hx,AR,alO];constructor;rintro(h | h);exact .inl h;exact .inr (.inl h);rintro(h | h | h);exact .inl h;exact .inr h;exfalso;have:=ake.1 h;omega
  clear kY hq ij aJ q;rintro _ O4 ⟨aT,fT,q,gd,hq⟩;refine ο aD gh ?_;exact az.N (i+1) ⟨cn,aT,fT,q,gd,hq⟩
 clear fy;rintro _ O3 ⟨aJ,ij,q,kY,hq⟩;have hva:cS (bR Ε) 69 (.aS O1.N 0 (Ζ t) (Ζ t))=φ (.v (Ι Κ (Ζ t))):=rfl;refine Ξ [4] (λt4:Tok=>[.l (cQ q (Ζ t)).length ((cQ q (Ζ t)).map mi) t4]) (λ_ O'=>O.Ge O') ?_ ?_
 ·refine ξ aD hva ?_;refine χ ?_;refine Θ [4,39] [37,38] (λs:Nat×Tok=>[.l (cQ q s.1).length ((cQ q s.1).map mi) s.2,mi s.1]) (λs O'=>s.1<=(Ζ t)/\O3.Ge O'/\App O' O3.N 1 s.2) (λs=>(Ζ t) - s.1) ((0,.nil)) ?_ ?_;exact⟨agb _,VH.Ge.refl _,trivial⟩;rintro⟨j,t1⟩ O5 ⟨hj,bO,dW⟩;dsimp only at hj dW ⊢;by_cases aM:j<Ζ t;rotate_left
  ·obtain rfl:j=Ζ t:=by omega
   refine ν aD ?_;exact aB.mk t1 (aJ.trans bO)
  have cA:=jSx j;have bG:=qK q aM;have gU:=m7 (Ζ t) q;have gO:=bO.at kY;have vO:=qJ q j;have RN:=jM q j;generalize q j=b at*;generalize cQ q j=P at*;generalize ib (Ζ t) q=CQ at*;refine κ aD ?_;refine κ aD ?_;refine Γ (χ ?_);refine θ (cB aD gO bG gU ?_);cases b;rw[if_neg (by decide),ap5]at vO;refine ν aD ?_;refine ο aD cA ?_;exact az.N (j+1,t1) ⟨aM,bO,dW⟩ (hl:=by dsimp only;rw[vO];rfl);rw[if_pos rfl]at vO;have je:=aP (tk:=t1) (tk':=.full) (n:=Ζ P) (k:=1) (cs:=P.map mi) (ds:=[.v (Ι Κ j)]) fZ T3 dW (by rw[WT,ap_]);refine ν aD ?_;refine VL.app je ?_;refine ae aD ?_;refine ο aD cA ?_;exact az.N (j+1,.own O5.N 1) ⟨aM,cy.eR bO dW (cy.after dW),App.after bO.N⟩ (hl:=by dsimp only;rw[vO,aka,ap6];rfl)
 rintro t4 O9 bI;refine κ aD ?_;refine ν aD ?_;refine⟨bI,?_⟩;rcases alG with⟨h1,h2,h3⟩ | ⟨h1,rfl⟩;refine .inl ⟨h1,q,t4,by rw[h2],λx hx=>?_⟩;rw[hq x (by omega),h2];constructor;rintro⟨c,a1,a2,a3,a4⟩;exact⟨c,a1,a2,a3,(Ma h3 x c.toNat).2 a4⟩;rintro⟨c,a1,a2,a3,a4⟩;exact⟨c,a1,a2,a3,(Ma h3 x c.toNat).1 a4⟩;exact .inr ⟨h1,t4,rfl⟩
def dY:=aga aD T72
def zG(X:Ο)(T:Nat->Tok)(w:Χ)(t:Tok):bz X T++[.l (Ζ w) (w.map mi) t]=bz (X++[w]) (λv=>if v=(Ζ X) then t else T v):=by
 unfold bz;rw[aka,ap4, <-SU];have h1:(X++[w]).getD (Ζ X) []=w:=by simp
 rw[h1];congr 1
 exact jh T λu hu=>by
  rw[akd,akd,aqE hu]
def aif(l:Χ)(tk:Tok)(fin:FuncId)(cin:Η)(p:Int->Bool)(O:VH)(hl:Ζ l<=1000000)(hc:dA Ε fin=Α)(hf:∀x∈l,VF Ε fin (mi x::cin) O (aH λm O'=>m=mb (p x)/\O'=O)):
  VF Ε 47 [.l (Ζ l) (l.map mi) tk,.func (.func fin) [] cin] O (aH λm O'=>(∃i:Int,m=mi i/\decide (0<=i)=l.any p)/\O'=O):=by
 have n9:∀(j:Nat)(y:Int),l[j]?=φ y->(l.map mi)[j]?=φ (MV.v (Ι Κ y)):=λj y h=>by rw[YI,h];rfl
 have tT:(l.map mi).length=Ζ l:=WT _;generalize l.map mi=cs at*;refine ω 19 [.tmp 4] func47 ?_;refine κ dY ?_;refine Ξ [] (λ_:Unit=>[]) (λ_ O'=>O'=O/\l.any p=γ) ?_ ?_
 ·refine ξ dY @oB ?_;refine χ ?_;refine Θ [8] [0,1,7] (λj:Nat=>[mi j]) (λj O'=>O'=O/\j<=(Ζ l)/\(l.take j).any p=γ) (λj=>(Ζ l) - j) (0) ?_ ?_;exact⟨rfl,agb _,rfl⟩;rintro j Ox ⟨eO,hj,dh⟩;rw[eO];clear eO Ox;by_cases aM:j<Ζ l;rotate_left
  ·obtain rfl:j=Ζ l:=by omega
   rw[akb]at dh;refine ν dY ?_;exact aB.mk () ⟨rfl,dh⟩
  have cA:=jSx j;have bG:=n9 j l[j] (Ca aM);((((have di:l.take (j+1)=l.take j++[l[j]]:=by rw[akf aM]);have nR:=agc aM;have hfx:=hf l[j] nR;generalize l[j]=y at*;rw[aq]at hfx;refine κ dY ?_;refine κ dY ?_;refine Γ (χ ?_);refine κ dY ?_;refine θ (aE dY bG tT ?_);refine τ hfx ?_ (hb:=hc);rintro _ Ox ⟨rfl,eO⟩;rw[eO];clear eO Ox);cases hy:p y);refine ae dY ?_;refine ν dY ?_;refine ο dY cA ?_;refine az.N (j+1) ⟨rfl,aM,?_⟩;rw[di,List.any_append,dh,Bool.false_or];simpa using hy);refine ae dY ?_;refine ν dY ?_;refine⟨j,rfl,?_⟩;rw[List.any_eq_true.2 ⟨y,nR,hy⟩];simp
 rintro _ Ox ⟨eO,dh⟩;rw[eO];clear eO Ox;refine ν dY ?_;exact⟨-1,rfl,by rw[dh];rfl⟩
def afD(l:Χ)(tk:Tok)(fin:FuncId)(cin:Η)(p:Int->Bool)(O:VH)(hl:Ζ l<=1000000)(hc:dA Ε fin=Α)(hf:∀x∈l,VF Ε fin (mi x::cin) O (aH λm O'=>m=mb (p x)/\O'=O)):
  VF Ε 31 [.l (Ζ l) (l.map mi) tk,.func (.func fin) [] cin] O (aH λm O'=>m=mb (l.any p)/\O'=O):=by
 have h:=aif l tk fin cin p O hl hc hf;refine Υ 9 [.tmp 4] func31 ?_;refine ae dY ?_;refine τ (h) ?_;rintro _ O2 ⟨⟨i,rfl,hi⟩,e2⟩;rw[e2];clear e2 O2;rw[aq];have tR:decide (i>=0)=l.any p:=hi;refine aE dY @hi tR ?_;trivial
def fp(g:Ο)(d:Nat->Bool)(n:Nat):Bool:= !d n&& !((g.getD n []).any λk=> !d k.toNat)
def eB(d:Nat->Bool)(w:Χ):Nat->Bool:=λv=>d v||w.contains (v:Int)
def b_(g:Ο)(d:Nat->Bool):Χ:=cQ (fp g d) (Ζ g)
def df(g:Ο):Nat->(Nat->Bool)->List Χ
 | 0,_=>[]
 | f+1,d=>if(b_ g d).length=0 then[]else b_ g d::df g f (eB d (b_ g d))
def o8(d:Nat->Bool)(n:Nat):Nat:=(Ν n).countP λv=> !d v
def Cp{d:Nat->Bool}(h:(b_ g d).length≠0):o8 (eB d (b_ g d)) (Ζ g)<o8 d (Ζ g):=by
 obtain⟨x,hx⟩:=List.exists_mem_of_ne_nil (b_ g d) (λe=>h (by rw[e];rfl));obtain⟨i,h1,h2,h3⟩:=(iy (p:=fp g d)).1 hx
 have hdi:d i=γ:=by
  unfold fp at h3;rw[aqj]at h3;simpa using h3.1
 have hle:∀(l:Τ),(l.countP λv=> !eB d (b_ g d) v)<=l.countP λv=> !d v:=λl=>List.countP_mono_left λv _ hv=>by
  unfold eB at hv;cases hd:d v;rfl;rw[hd]at hv;simp at hv
 unfold o8;obtain⟨l1,l2,e⟩:=List.append_of_mem (alT.2 h2);rw[e,aqn,aqn,aqu,aqu];have a1:=hle l1;have a2:=hle l2
 have m1:eB d (b_ g d) i=Α:=by
  unfold eB;(have:(b_ g d).contains (i:Int)=Α:=by rw[List.contains_iff_mem, <-h1];exact hx);rw[this,Bool.or_true]
 rw[m1,hdi];simp only[Bool.not_true,Bool.not_false,aqm,if_false,if_true];omega
def SY(d:Nat->Bool)(n:Nat):o8 d n<=n:=by
 have:=aqt (p:=λv=> !d v) (l:=Ν n)
 rwa [aqg]at this
def afE(g:Ο)(T:Nat->Tok)(tk:Tok)(d:Nat->Bool)(n bd bq bg:Nat)(O:VH)(hs:sm 1000000 g)(hm:ot g)(hn:n<Ζ g)(h1:O.hp bd=φ (.cells [.aS bq 0 (Ζ g) (Ζ g)]))(h2:O.hp bq=φ (.cells (ib (Ζ g) d)))(h3:O.hp bg=φ (.cells [.l (Ζ g) (bz g T) tk])):
  VF Ε 30 [mi n,.p bd 0,.p bg 0] O (aH λm O'=>m=mb (fp g d n)/\O'=O):=by
 have bG:=iw g T hn;have n9:=eM g T;have gU:=m7 (Ζ g) d;have hcd:=qK d hn
 have ajT:∀x∈g[n],VF Ε 32 [mi x,.p bd 0] O (aH λm O'=>m=mb (!d x.toNat)/\O'=O):=λx hx=>by
  obtain⟨h4,h5⟩:=hm _ (agc hn) x hx;obtain⟨k,rfl⟩:=aqc h4;have HU:=qK d (show k<(Ζ g) by omega);rw[aq,aqs];generalize ib (Ζ g) d=CB at*;refine ω 9 [.tmp 3] func32 ?_;refine κ dY ?_;refine ι (iV dY h1 h2 HU gU ?_);trivial
 have Bo:=afD g[n] (T n) 32 [.p bd 0] (λk=> !d k.toNat) O (hs.2 _ (agc hn)) (by kernel_rfl) ajT
 have Cy:fp g d n=(!d n&& !(g[n].any λk=> !d k.toNat)):=by
  unfold fp;rw[akd,Ca hn];rfl
 rw[Cy,aq];clear ajT Cy;generalize ib (Ζ g) d=CB at*;generalize bz g T=A at*;generalize (g[n].any λk=> !d k.toNat)=z at*;generalize d n=dn at*;refine ω 19 [.tmp 4] func30 ?_;refine κ dY ?_;cases dn;refine θ (wc dY h1 h2 (aga hcd gU) h3 (aga bG n9) ?_);refine Ω Bo ?_;refine ae dY ?_;refine ν dY ?_;trivial;refine θ (cB dY h1 h2 (aga hcd gU) ?_);refine ν dY ?_;trivial
def SZ(g:Ο)(T:Nat->Tok)(tk:Tok)(O:VH)(hs:sm 1000000 g):VF Ε 15 [.l (Ζ g) (bz g T) tk] O (aH λm O'=>O.Ge O'/\((m6 g=Α/\∃T' t,m= .l (df g (Ζ g+1) λ_=>γ).length (bz (df g (Ζ g+1) λ_=>γ) T') t)\/(m6 g=γ/\m= .l 0 [] .nil))):=by
 have xG:=hs.1;have ew:cS (bR Ε) 25 (.l (Ζ g) (bz g T) tk)=φ (.v (Ι Κ (Ζ g))):=bC qV;have iD:=λO'=>xk (tab:=bR Ε) Qp T4 O' (Ζ g) (by omega) (by omega)
 have qq:=λO'=>zE g T tk O' hs
 obtain⟨A,hA⟩:∃A,A=bz g T:=⟨_,rfl⟩
 rw[<-hA]at ew qq ⊢;refine ω 47 [.tmp 2] func15 ?_;refine κ dY ?_;refine VC.bx ?_;rintro O1 ⟨aK,eS,dd⟩;refine ξ dY eS ?_;refine τ (qq O1) ?_;rintro _ Ox ⟨rfl,eO⟩;rw[eO];clear eO Ox qq;cases hm:m6 g;refine ae dY ?_;exact⟨aK,.inr (by simp)⟩;have tf:=(jv g).1 hm;refine ae dY ?_;refine θ (cB dY eS ew iD ?_);refine VC.gen ?_;intro O2 e2;have fc:O2.N=O.N+3:=by rw[e2];show O1.N+1+1=_;omega
 have wM:O2.hp O1.N=φ (.cells (ib (Ζ g) λ_=>γ)):=by
  rw[e2,π _ _ (by show O1.N≠O1.N+1;omega),VH.mG _ _ (by show O1.N≠O1.N+1;omega), <-D6];exact ζ _ _
 have kW:O2.hp (O1.N+1)=φ (.cells [.aS O1.N 0 (Ζ g) (Ζ g)]):=by rw[e2];exact υ _ _ _
 have aC:O1.Ge O2:=by rw[e2];exact(((VH.Ge.refl O1).push _).push _).set (Nat.le_succ _) _
 clear e2;have cG:=aC.at eS;have gy:=aK.trans aC;obtain⟨W,hW⟩:∃W,W=df g (Ζ g+1) (λ_=>γ):=⟨_,rfl⟩
 rw[<-hW]
 have Vs:Ζ W<=1001:=by
  have:∀(f:Nat) d,(df g f d).length<=f:=λf=>by
   induction f with
   | zero=>intro d;exact abx _
   | succ f ih=>
     intro d;rw[df];split;exact agb _;rw[alQ];have:=ih (eB d (b_ g d));omega
  have:=this (Ζ g+1) (λ_=>γ);rw[hW];omega
 refine κ dY ?_;refine χ ?_;refine Θ [2] [1,3,4] (λs:Ο×(Nat->Tok)×Tok×(Nat->Bool)=>[.l (Ζ s.1) (bz s.1 s.2.1) s.2.2.1]) (λs O'=>O.Ge O'/\O2.N<=O'.N/\O'.hp O1.N=φ (.cells (ib (Ζ g) s.2.2.2))/\O'.hp (O1.N+1)=φ (.cells [.aS O1.N 0 (Ζ g) (Ζ g)])/\O'.hp O.N=φ (.cells [.l (Ζ g) A tk])/\App O' O2.N 1 s.2.2.1/\∃f,o8 s.2.2.2 (Ζ g)<f/\W=s.1++df g f s.2.2.2) (λs=>o8 s.2.2.2 (Ζ g)) (([],(λ_=>.nil),.nil,(λ_=>γ))) ?_ ?_;exact⟨gy,abx _,wM,kW,cG,trivial,Ζ g+1,Nat.lt_succ_of_le (SY _ _),hW⟩;clear wM kW cG eS gy;rintro⟨X,TX,tX,d⟩ O3 ⟨aJ,ij,qF,yL,cN,kM,f,hf,xH⟩;dsimp only at qF kM hf xH ⊢;obtain⟨f,rfl⟩:∃f',f=f'+1:=⟨f - 1,by omega⟩
 have H6:Ζ X<=Ζ W:=by rw[xH,aka];omega
 refine χ ?_;refine κ dY ?_;refine Ξ [1,2,3,4,5] (λt:Tok=>[.p O.N 0,.l (Ζ X) (bz X TX) tX,.p (O1.N+1) 0,.func (.func 30) [] [.p (O1.N+1) 0,.p O.N 0],.l (b_ g d).length ((b_ g d).map mi) t]) (λt O'=>O3.Ge O'/\App O' O3.N 1 t) ?_ ?_
 ·refine θ (aE dY cN ew ?_);refine χ ?_;refine Θ [5,18] [1,2,3,4,17] (λs:Nat×Tok=>[.l (cQ (fp g d) s.1).length ((cQ (fp g d) s.1).map mi) s.2,mi s.1]) (λs O'=>s.1<=(Ζ g)/\O3.Ge O'/\App O' O3.N 1 s.2) (λs=>(Ζ g) - s.1) ((0,.nil)) ?_ ?_;exact⟨agb _,VH.Ge.refl _,trivial⟩;rintro⟨j,t1⟩ O4 ⟨hj,aT,gd⟩;dsimp only at hj gd ⊢;by_cases aM:j<Ζ g;rotate_left
  ·obtain rfl:j=Ζ g:=by omega
   refine ν dY ?_;exact aB.mk t1 ⟨aT,gd⟩
  have cA:=jSx j;have aZ:=afE g T tk d j (O1.N+1) O1.N O.N O4 hs tf aM (aT.at yL) (aT.at qF) (by rw[<-hA];exact aT.at cN);rw[aq]at aZ;have vO:=qJ (fp g d) j;have RN:=jM (fp g d) j;generalize fp g d j=b at*;generalize cQ (fp g d) j=P at*;refine κ dY ?_;refine κ dY ?_;refine Γ (χ ?_);refine κ dY ?_;refine κ dY ?_;refine τ aZ ?_;rintro _ Ox ⟨rfl,eO⟩;rw[eO];clear eO Ox aZ;cases b;rw[if_neg (by decide),ap5]at vO;refine ae dY ?_;refine ν dY ?_;refine ο dY cA ?_;exact az.N (j+1,t1) ⟨aM,aT,gd⟩ (hl:=by dsimp only;rw[vO];rfl);rw[if_pos rfl]at vO;have je:=aP (tk:=t1) (tk':=.full) (n:=Ζ P) (k:=1) (cs:=P.map mi) (ds:=[.v (Ι Κ j)]) fZ T3 gd (by rw[WT,ap_]);refine ae dY ?_;refine ν dY ?_;refine VL.app je ?_;refine ae dY ?_;refine ο dY cA ?_;exact az.N (j+1,.own O4.N 1) ⟨aM,cy.eR aT gd (cy.after gd),App.after aT.N⟩ (hl:=by dsimp only;rw[vO,aka,ap6];rfl)
 rintro tw O4 ⟨aT,gd⟩;have pY:cS (bR Ε) 29 (.l (b_ g d).length ((b_ g d).map mi) tw)=φ (.v (Ι Κ (b_ g d).length)):=bC fZ;have lZ:(b_ g d).length<=Ζ g:=jM _ _;have ajU:=Cp (g:=g) (d:=d);have Fa:=λx=>iy (p:=fp g d) (n:=Ζ g) (x:=x)
 rw[df]at xH;rw[show cQ (fp g d) (Ζ g)=b_ g d from rfl]at Fa;obtain⟨w,hw⟩:∃w,w=b_ g d:=⟨_,rfl⟩
 rw[<-hw]at pY lZ ajU Fa xH ⊢;have yY:=aT.at qF;have Dy:=aT.at yL;have dy:=aT.at cN;by_cases h0:Ζ w=0
 ·have e0:((Ζ w:Int)==0)=Α:=by simp[h0]
  rw[if_pos h0,ap5]at xH;subst xH;refine θ (aE dY pY e0 ?_);exact⟨aJ.trans aT,.inl ⟨TX,tX,rfl⟩⟩
 have e0:((Ζ w:Int)==0)=γ:=by simpa using h0
 rw[if_neg h0]at xH;have ape:=ajU h0;refine θ (aE dY pY e0 ?_);have S0:(w.map mi).length=Ζ w:=WT _;have xI:∀(j:Nat)(y:Int),w[j]?=φ y->(w.map mi)[j]?=φ (MV.v (Ι Κ y)):=λj y h=>by rw[YI,h];rfl
 refine Ξ [1,2,3,4,5] (λ_:Unit=>[.p O.N 0,.l (Ζ X) (bz X TX) tX,.p (O1.N+1) 0,.func (.func 30) [] [.p (O1.N+1) 0,.p O.N 0],.l (Ζ w) (w.map mi) tw]) (λ_ O'=>O'.N=O4.N/\(∀i,i≠O1.N->O'.hp i=O4.hp i)/\O'.hp O1.N=φ (.cells (ib (Ζ g) (eB d w)))) ?_ ?_
 ·generalize hwc:w.map mi=WM at*;refine ξ dY pY ?_;refine χ ?_;refine Θ [35] [1,2,3,4,5,33,34] (λj:Nat=>[mi j]) (λj O'=>j<=(Ζ w)/\O'.N=O4.N/\(∀i,i≠O1.N->O'.hp i=O4.hp i)/\O'.hp O1.N=φ (.cells (ib (Ζ g) (eB d (w.take j))))) (λj=>(Ζ w) - j) (0) ?_ ?_;exact⟨agb _,rfl,λ_ _=>rfl,by rw[yY];congr 3;funext v;unfold eB;simp⟩;rintro j O5 ⟨hj,eJ,dS,sN⟩;by_cases aM:j<Ζ w;rotate_left
  ·obtain rfl:j=Ζ w:=by omega
   rw[akb]at sN;refine ν dY ?_;exact aB.mk () ⟨eJ,dS,sN⟩
  have cA:=jSx j;have zH:w[j]?=φ w[j]:=List.getElem?_eq_getElem aM;obtain⟨k,cK,bY,en⟩:=(Fa w[j]).1 (List.getElem_mem aM);rw[cK]at zH;have oh:=xI j _ zH;(have AR:w.take (j+1)=w.take j++[(k:Int)]:=by rw[List.take_add_one,zH];rfl);have fz:=F4 (eB d (w.take j)) Α bY;have gU:=m7 (Ζ g) (eB d (w.take j))
  have hse:Mc (eB d (w.take j)) k Α=eB d (w.take (j+1)):=by
   (funext v);unfold Mc eB;rw[AR,aqy];by_cases e:v=k
   ·subst e;rw[if_pos rfl];simp
   ·rw[if_neg e]
    have:([(k:Int)]:Χ).contains (v:Int)=γ:=by
     rw[ap8];intro h;(have:(v:Int)=k:=by simpa using h);omega
    rw[this,Bool.or_false]
  rw[hse]at fz;have EE:=(dS (O1.N+1) (by omega)).trans Dy;generalize Rn:ib (Ζ g) (eB d (w.take j))=CQ at*;refine κ dY ?_;refine κ dY ?_;refine Γ (χ ?_);refine θ (aE dY oh S0 ?_);refine ι (iV dY EE sN gU fz ?_);refine ο dY cA ?_;exact az.N (j+1) ⟨aM,eJ,λi hi=>(π _ _ hi).trans (dS i hi),υ _ _ _⟩
 rintro _ O5 ⟨eJ,dS,sN⟩;have EE:=(dS (O1.N+1) (by omega)).trans Dy;have dG:=(dS O.N (by omega)).trans dy;have fT:=aT.N;have mP:=kM.ge aT;have gx:App O5 O2.N 1 tX:=ow mP (λi hi=>dS i (by have:=aC.N;omega));have hXr:=eM X TX;have hY:=zG X TX w tw;have je:=aP (tk:=tX) (tk':=.full) (n:=Ζ X) (k:=1) (cs:=bz X TX) (ds:=[.l (Ζ w) (w.map mi) tw]) qV fZ gx (by rw[hXr,ap_]);have hqA:=VH.jo gx sN (by simp) (by have:=aC.N;omega);have B1:=VH.jo gx EE;have B2:=VH.jo gx dG;have AO:=VH.dC O5 tX;have ir:=cy.after gx;have vM:∀i,Tok.id tX=φ i->O2.N<=i:=λi e=>(gx.nZ e).1
 refine ν dY ?_;refine VL.app je ?_;refine ae dY ?_;refine az.N (X++[w],(λv=>if v=(Ζ X) then tw else TX v),.own O5.N 1,eB d w) ⟨⟨by rw[AO];have:=aJ.N;omega,λi hi=>?_⟩,by rw[AO];omega,hqA,B1,B2,App.after,f,by show o8 (eB d w) (Ζ g)<f;omega,by rw[xH,List.append_assoc];rfl⟩ (hl:=by dsimp only;rw[<-hY,aka];rfl);have:=aJ.N;have:=aK.N;rw[ir.hp i (by omega) (λe=>by have:=vM i e;omega),dS i (by omega),aT.hp i (by omega)];exact aJ.hp i hi
def bD:=aga bV<|aga dX<|aga amj<|aga T57<|aga amg<|aga amh<|aga amt<|aga ami<|aga amz<|aga amo<|aga amk<|aga Qq<|aga Ng<|aga T42<|aga HV<|aga T48<|aga T46<|aga T44<|aga T50<|aga T95<|aga Da T3
def dL(k bb:Nat)(g:Gv)(mo st u1 l1:Int)(tl:MV)(u2 l2:Int)(cv:MV)(u3 l3:Int)(rv:MV)(R:Η):Η:=
 .p k 0:: .p bb 0:: .s g.g:: .s g.a:: .s g.v::mi mo::mi st:: .v (.int .u32 u1):: .v (.int .i32 l1):: .v (.int .u32 0)::tl::mi 0:: .s []:: .s []:: .s []::mi 0::mi 0::mi 0:: .s []::
 .v (.int .u32 u2):: .v (.int .i32 l2):: .v (.int .u32 0)::cv:: .v (.int .u32 u3):: .v (.int .i32 l3):: .v (.int .u32 0)::rv::R
def Yy:Η:=[.v (.int .u32 0),.v (.int .i32 0),.v (.int .u32 0),.l 0 [] .nil,.v (.int .u32 0),.v (.int .i32 0),.v (.int .u32 0),mi 0,.l 0 [] .nil,mi 0,.l 0 [] .nil,.l 0 [] .nil,mi 0,.s [],.s [],.s [],mi 0,mi 0,mi 0,.s []]
def m9:MV:=.l 0 [] .nil
def aih(k:Nat)(g:Gv)(mo:Int)(O:VH):VF Ε 22 [.p k 0,.agg (cD g),mi mo] O (aH λm O'=>∃ke bb,m= .p ke 0/\O.Ge O'/\O.N<bb/\bb<ke/\ke<O'.N/\O'.hp (bb - 1)=φ (.map [] 0)/\O'.hp bb=φ (.cells [.p k 0,.map (bb - 1)])/\O'.hp ke=φ (.cells (dL k bb g mo 0 0 0 m9 0 0 m9 0 0 m9 Yy))):=by
 obtain⟨g1,g2,g3⟩:=g;simp only[cD,aq];refine ω 14 [.tmp 6] func22 ?_;refine κ bD ?_;refine VC.bx ?_;rintro O1 ⟨aK,eS,dd⟩;refine Γ ?_;refine VC.pF [5,6,7] ?_;refine ρ 0 bD ?_;refine ρ 1 bD ?_;refine ab.ld (m:=.agg [.s g1,.s g2,.s g3]) 3 ?_ ?_;exact eD bD eS;simp only[ak];refine ρ 4 bD ?_;refine ab.call (i:=2) (ahO k O1) ?_;rintro _ O2 ⟨rfl,aC,rT,cG,fc⟩;simp only[ak];refine⟨aC,?_⟩;have lC:∀b,Ga (lq [(0,1),(1,1),(2,3),(5,1),(6,1),(7,12),(19,4),(23,4),(27,4),(31,16)]) (dL 0 0 ⟨[],[],[]⟩ 0 0 0 0 m9 0 0 m9 0 0 m9 Yy) (.p k 0) [(1,.p b 0),(2,.agg [.s g1,.s g2,.s g3]),(3,mi mo)] (φ (0,1))=φ (dL k b ⟨g1,g2,g3⟩ mo 0 0 0 m9 0 0 m9 0 0 m9 Yy):=λ_=>rfl
 refine ab.bW [(5,.bh),(6,.one),(7,.bh)] ?_;refine ao bD lC ?_;have gy:=aK.trans aC;obtain⟨aJ,en,ij⟩:=(pM.bx:pM O2 (dL k (O1.N+1) ⟨g1,g2,g3⟩ mo 0 0 0 m9 0 0 m9 0 0 m9 Yy) _);refine ν bD ?_;exact⟨O2.N,O1.N+1,rfl,gy.trans aJ,by omega,by omega,by omega,aJ.at rT,aJ.at cG,en⟩
section
variable{P:Program}{tab:cL}{n:Sz}{D:List Deferred}{Q:VQ}{e:Env}{O:VH}
def ab.afF{brk:Τ}{Ψ :Gh->Prop}{J:ϰ}{Z:Prop}{fuel:Nat}{listed:Array Bool}{l:ϕ}{d:Option Tmp}{f:Operand}{ax:Array Operand}{ts:Array TypeId}{ty:TypeId}{ps:String}{af:Array Edge}{g:Option (Nat×Bool)}{id:FuncId}{fs ms xs:Η}(hR:VF P id xs O (aH Φ))
  (h:∀m O', Φ m O'->J O'/\ab P n D ⟨l⟩ brk J Ψ Z fuel (listed.setIfInBounds i Α) (bt d m e) O' Q) (hr:Region.ready .any ⟨l⟩ listed=[i]:=by kernel_rfl) (ho:l[i]?=φ (.mk d (.call {callee:=.value f,args:=ax,argTypes:=ts}) ty ps af g):=by exact rfl) (hg:aQ ⟨l⟩ (.mk d (.call {callee:=.value f,args:=ax,argTypes:=ts}) ty ps af g) e=φ Α:=by exact rfl) (hf:ev e f=φ (.func (.func id) fs cs):=by exact rfl) (hm:il e ax.toList=φ ms:=by exact rfl) (ha:fs++ms++cs=xs:=by exact rfl) (hb:dA P id=Α:=by kernel_rfl) (hd:bL n d=Α:=by exact rfl):ab P n D ⟨l⟩ brk J Ψ Z (fuel+1) listed e O Q:=
 ab.one (aI.call (o:=.mk d (.call {callee:=.value f,args:=ax,argTypes:=ts}) ty ps af g) (by simpa using ho) hg rfl rfl hf hm (Enters.u9 hb) hd (by rw[ha];exact hR) λr O' hr=>by
  cases r with
  | ret m=>exact h m O' hr
  | panic m=>exact hr.elim) (hr:=hr)
end
def abl{g:Gv}{tl:MV}{N:List Br}(gW:ke<O.N)(D7:¬U ke)(hk:O.hp ke=φ (.cells (dL k bb g mo st u1 l1 tl u2 l2 cv u3 l3 rv R)))(hc:CB O U k bb md S)(hS:Plain S)(hr:Ck (jL S) g=φ (φ N)):
  VF Ε 63 [.p ke 0] O (aH λm O'=>(∃t,m= .agg (.l (Ζ N) (N.flatMap oI) t::pf jd))/\O.N<=O'.N/\∀j,¬U j->j<O.N->O'.hp j=O.hp j):=by
 have hw:=λO' (h:CB O' U k bb md S)=>ah9 h hS g hr
 have dm:=hc.lt;obtain⟨g1,g2,g3⟩:=g;simp only[dL,aq,cD]at hk hw;refine ω 22 [.cell 2 112] func63 ?_;refine κ bD ?_;refine VC.gen ?_;intro O1 e1;obtain⟨aK,eS,dd⟩:pM O [.l 0 [] .nil,.v (Ι Κ 0),.s [],.s [],.s [],.v (Ι Κ 0),.v (Ι Κ 0),.v (Ι Κ 0),.s []] O1:=by rw[e1];exact pM.bx
 clear e1;have cK:=aK.at hk;refine Γ ?_;refine VC.sU [14,15,16,17,18,19] (λO'=>O'.hp O.N=φ (.cells [.l 0 [] .nil,.v (Ι Κ 0),.s [],.s [],.s [],.v (Ι Κ 0),.v (Ι Κ 0),.v (Ι Κ 0),.s []])/\O'.hp ke=O1.hp ke) (⟨eS,rfl⟩) ?_;refine ρ 0 bD ?_;refine ρ 1 bD ?_;refine ρ 2 bD ?_;rw[cK];refine ε (m:=.p k 0) 3 ?_ ?_;rintro O2 ⟨j1,j2⟩;exact eD bD j2;simp only[ak];refine ρ 4 bD ?_;refine ρ 5 bD ?_;refine ρ 6 bD ?_;refine ε (m:=.p bb 0) 7 ?_ ?_;rintro O2 ⟨j1,j2⟩;exact eD bD j2;simp only[ak];refine ρ 8 bD ?_;refine ρ 9 bD ?_;refine ρ 10 bD ?_;refine ε (m:=.agg [.s g1,.s g2,.s g3]) 11 ?_ ?_;rintro O2 ⟨j1,j2⟩;exact eD bD j2;simp only[ak];refine ab.call (i:=12) (hw O1 (hc.ge aK)) ?_;rintro m O2 ⟨⟨t,rfl⟩,fc,jI⟩;simp only[ak];have hUn:¬U O.N:=λe=>by have:=dm _ e;omega
 refine⟨⟨(jI _ hUn (by omega)).trans eS,(jI ke D7 (by omega)).trans cK⟩,?_⟩;simp only[pf,jd,aq];refine ρ 13 bD ?_;refine ab.bW [(14,.bh),(15,.bh),(16,.bh),(17,.one),(18,.bh),(19,.one)] ?_;have jY:=(jI _ hUn (by omega)).trans eS;refine ao bD jY ?_;refine ν bD ?_;exact⟨⟨t,rfl⟩,by show O.N<=O2.N;omega,λj hj BU=>by rw[VH.sx,VH.sx,VH.sx,jI j hj (by omega)];exact aK.hp j BU⟩
def Out(U:Nat->Prop)(ke:Nat)(O O':VH):Prop:=O.N<=O'.N/\∀j,¬U j->j≠ke->j<O.N->O'.hp j=O.hp j
def afG{g:Gv}{N:List Br}(gW:ke<O.N)(D7:¬U ke)(hk:O.hp ke=φ (.cells (dL k bb g mo st u1 l1 m9 u2 l2 cv u3 l3 rv R)))(hc:CB O U k bb md S)(hS:Plain S)(hr:Ck (jL S) g=φ (φ N))
  (hs:O.hp bs=φ (.cells [.p ke 6])) (Wt:O.hp br=φ (.cells [.func (.func 63) [.p ke 0] []])) (hp:O.hp bp=φ (.cells [.p ke 7])) (h1:bs<O.N) (h2:br<O.N) (h3:bp<O.N) (n1:¬U bs) (n2:¬U br) (n3:¬U bp):
  VF Ε 76 [.p bs 0,.p br 0,.p bp 0] O (aH λ_ O'=>(∃mc t,O'.hp ke=φ (.cells (dL k bb g mo mc u1 l1 (.l (Ζ N) (N.flatMap oI) t) u2 l2 cv u3 l3 rv R)))/\Out U ke O O'):=by
 have e1:br≠ke:=λe=>by rw[e,hk]at Wt;cases Wt
 have e2:bp≠ke:=λe=>by rw[e,hk]at hp;cases hp
 have sw:=hk;simp only[dL,aq]at sw;refine ω 10 [] func76 ?_;refine ξ bD hs ?_;refine τ (yU 1 sw rfl) ?_;rintro m O1 ⟨rfl,OI⟩;have cK:O1.hp ke=φ (.cells (dL k bb g mo (IntKind.i64.wrap (st+1)) u1 l1 m9 u2 l2 cv u3 l3 rv R)):=by rw[OI];exact υ _ _ _
 have dd:O1.N=O.N:=by rw[OI];rfl
 have gh:∀i,i≠ke->O1.hp i=O.hp i:=λi hi=>by rw[OI];exact π _ _ hi
 clear OI;have fK:CB O1 U k bb md S:=hc.mv (by omega) λi hi=>gh i λe=>D7 (e▸hi)
 have lK:=(gh br e1).trans Wt;have nC:=(gh bp e2).trans hp;generalize IntKind.i64.wrap (st+1)=IN at*;refine ae bD ?_;have lB:=abl (by omega) D7 cK fK hS hr;refine VC.sU [3,4,5] (λO'=>O'.hp ke=φ (.cells (dL k bb g mo IN u1 l1 m9 u2 l2 cv u3 l3 rv R))/\O'.hp bp=O1.hp bp/\O'.hp br=O1.hp br) (⟨cK,rfl,rfl⟩) ?_;rw[nC,lK];refine ε (m:=.p ke 7) 0 ?_ ?_;rintro O2 ⟨j1,j2,j3⟩;exact eD bD j2;simp only[ak];have Mp:eP Tryz.t177.desc=γ:=rfl;refine ab.op (i:=1) ?_;refine aE bD lK Mp ?_;refine⟨(by first | exact⟨cK,nC,lK⟩ | exact⟨cK,nC⟩ | exact cK),?_⟩;refine ab.afF (i:=2) lB ?_;rintro m O2 ⟨⟨t,rfl⟩,fc,jI⟩;simp only[ak];have bY:=(jI ke D7 (by omega)).trans cK;refine⟨⟨bY,(jI bp n3 (by omega)).trans nC,(jI br n2 (by omega)).trans lK⟩,?_⟩;refine ab.bW [(3,.bh),(4,.bh),(5,.one)] ?_;simp only[pf,jd,aq];have zI:=bY;simp only[dL,m9,aq]at zI;refine ao bD zI ?_;exact⟨⟨IN,t,rfl⟩,by show O.N<=O2.N;omega,λj h1 h2 h3=>by rw[π _ _ h2,jI j h1 (by omega)];exact gh j h2⟩
def aii{g:Gv}{N:List Br}(gW:ke<O.N)(D7:¬U ke)(hk:O.hp ke=φ (.cells (dL k bb g mo st 0 0 m9 u2 l2 cv u3 l3 rv R)))(hc:CB O U k bb md S)(hS:Plain S)(hr:Ck (jL S) g=φ (φ N)):
  VF Ε 62 [.p ke 7,.p ke 6,.func (.func 63) [.p ke 0] []] O (aH λm O'=>∃mc t,m= .agg (.l (Ζ N) (N.flatMap oI) t::pf jd)/\O'.hp ke=φ (.cells (dL k bb g mo mc 1 0 (.l (Ζ N) (N.flatMap oI) t) u2 l2 cv u3 l3 rv R))/\Out U ke O O'):=by
 have dm:=hc.lt;have Mp:eP Tryz.t177.desc=γ:=rfl;refine ω 16 [.cell 6 112] func62 ?_;refine κ bD ?_;refine VC.gen ?_;intro O1 e1;obtain⟨aK,dd,cJ,cC,fK,pZ⟩:=Io _ _ _ _ e1;clear e1;have cK:=aK.at hk;have aoq:=hc.ge aK;have hU:∀i,O.N<=i->¬U i:=λi h1 h2=>by have:=dm i h2;omega
 refine ξ bD cJ ?_;have fz:(dL k bb g mo st 0 0 m9 u2 l2 cv u3 l3 rv R).set (7+1) (.v (.int .i32 1))=dL k bb g mo st 0 1 m9 u2 l2 cv u3 l3 rv R:=rfl;have xy:∀{i:Nat} {y:Option cx},i≠ke->O1.hp i=y->(O1.set ke (.cells (dL k bb g mo st 0 1 m9 u2 l2 cv u3 l3 rv R))).hp i=y:=λhi hy=>(π _ _ hi).trans hy
 refine τ (adP (off:=7) (Φ :=λO'=>(∃mc t,O'.hp ke=φ (.cells (dL k bb g mo mc 0 1 (.l (Ζ N) (N.flatMap oI) t) u2 l2 cv u3 l3 rv R)))/\Out U ke (O1.set ke (.cells (dL k bb g mo st 0 1 m9 u2 l2 cv u3 l3 rv R))) O') (g:=76) (xs:=[.p (O.N+1) 0,.p (O.N+2) 0,.p O.N 0]) cK rfl rfl (by kernel_rfl) (by rw[fz];exact afG (by show ke<O1.N;omega) D7 (υ _ _ _) (aoq.mv (abx _) λi hi=>π _ _ λe=>D7 (e▸hi)) hS hr (xy (by omega) cC) (xy (by omega) fK) (xy (by omega) cJ) (by show O.N+1<O1.N;omega) (by show O.N+2<O1.N;omega) (by show O.N<O1.N;omega) (hU _ (by omega)) (hU _ (by omega)) (hU _ (by omega))) (λO' Ex=>?_)) ?_;obtain⟨⟨mc,t,h⟩,_⟩:=Ex;exact⟨_,h,rfl,rfl⟩;rintro m O2 ⟨OX,cs',⟨⟨mc,t,DL⟩,hnX,hfX⟩,gV,e2⟩;rw[DL]at gV;injection gV with gV;injection gV with gV;subst gV;have n8:((dL k bb g mo mc 0 1 (.l (Ζ N) (N.flatMap oI) t) u2 l2 cv u3 l3 rv R).set 7 (.v (.int .u32 1))).set (7+1) (.v (.int .i32 0))=dL k bb g mo mc 1 0 (.l (Ζ N) (N.flatMap oI) t) u2 l2 cv u3 l3 rv R:=rfl;rw[n8]at e2;have bY:O2.hp ke=φ (.cells (dL k bb g mo mc 1 0 (.l (Ζ N) (N.flatMap oI) t) u2 l2 cv u3 l3 rv R)):=by rw[e2];exact υ _ _ _
 have jI:∀j,¬U j->j≠ke->j<O1.N->O2.hp j=O1.hp j:=λj h1 h2 h3=>by
  rw[e2,π _ _ h2,hfX j h1 h2 h3];exact π _ _ h2
 have fc:O1.N<=O2.N:=by rw[e2];exact hnX
 clear e2 hfX hnX DL fz n8 xy;have fy:=(jI O.N (hU _ (by omega)) (by omega) (by omega)).trans cJ;have kW:=(jI (O.N+3) (hU _ (by omega)) (by omega) (by omega)).trans pZ;have zI:=bY;simp only[dL,aq]at zI;refine ae bD ?_;refine θ (cB bD fy zI kW ?_);refine ν bD ?_;exact⟨mc,t,rfl,bY,by show O.N<=O2.N;omega,λj h1 h2 h3=>by rw[VH.sx,jI j h1 h2 (by omega)];exact aK.hp j h3⟩
def afH{g:Gv}(g0:FuncId)(xs:Η)(gW:ke<O.N)(hk:O.hp ke=φ (.cells (dL k bb g mo st 1 l1 (.l n cs tk) u2 l2 cv u3 l3 rv R))):
  VF Ε 62 [.p ke 7,.p ke 6,.func (.func g0) xs []] O (aH λm O'=>m= .agg (.l n cs tk::pf jd)/\O.Ge O'):=by
 refine ω 16 [.cell 6 112] func62 ?_;refine κ bD ?_;refine VC.gen ?_;intro O1 e1;obtain⟨aK,dd,cJ,cC,fK,pZ⟩:=Io _ _ _ _ e1;clear e1;have cK:=aK.at hk;refine ξ bD cJ ?_;refine τ (adQ _ _ (x:=1) (by decide) cK rfl) ?_;rintro m O2 e2;rw[e2];clear e2 O2;have sw:=cK;simp only[dL,aq]at sw;refine ae bD ?_;refine θ (cB bD cJ sw pZ ?_);refine ν bD ?_;exact⟨rfl,aK.set (by omega) _⟩
def aij{g:Gv}{N:List Br}(gW:ke<O.N)(D7:¬U ke)(hk:O.hp ke=φ (.cells (dL k bb g mo st 0 0 m9 u2 l2 cv u3 l3 rv R)))(hc:CB O U k bb md S)(hS:Plain S)(hr:Ck (jL S) g=φ (φ N)):
  VF Ε 39 [.p ke 0] O (aH λm O'=>m= .agg (pf jd)/\∃mc t,O'.hp ke=φ (.cells (dL k bb g mo mc 1 0 (.l (Ζ N) (N.flatMap oI) t) u2 l2 cv u3 l3 rv R))/\Out U ke O O'):=by
 have dm:=hc.lt;refine ω 16 [.cell 2 110] func39 ?_;refine κ bD ?_;refine VC.bx ?_;rintro O1 ⟨aK,eS,dd⟩;have cK:=aK.at hk;have hU:¬U O.N:=λh2=>by have:=dm _ h2;omega
 refine κ bD ?_;refine Γ ?_;refine WC.bW (.any) [(0,.bh),(1,.bh),(2,.bh),(3,.bh),(4,.bh),(5,.bh),(6,.bh),(7,.bh),(8,.one),(9,.bh),(10,.one)] ?_;refine ae bD ?_;refine τ (aii (by omega) D7 cK (hc.ge aK) hS hr) ?_;rintro m O2 ⟨mc,t,rfl,bY,fc,jI⟩;have jY:=(jI O.N hU (by omega) (by omega)).trans eS;simp only[pf,jd,aq];refine ao bD jY ?_;refine ν bD ?_;exact⟨mc,t,bY,by show O.N<=O2.N;omega,λj h1 h2 h3=>by rw[VH.sx,jI j h1 h2 (by omega)];exact aK.hp j h3⟩
section
variable{O:VH}{ke k bb:Nat}{g:Gv}{mo st l1 u2 l2 u3 l3:Int}{cv rv:MV}{R:Η}{n:Nat}{cs:Η}{tk:Tok}
def Yz(gW:ke<O.N)(hk:O.hp ke=φ (.cells (dL k bb g mo st 1 l1 (.l n cs tk) u2 l2 cv u3 l3 rv R))):VF Ε 66 [.p ke 0] O (aH λm O'=>m= .l n cs tk/\O.Ge O'):=by
 refine ω 13 [.tmp 2] func66 ?_;refine κ bD ?_;refine Γ ?_;refine WC.bW (.any) [(0,.bh),(1,.bh),(2,.bh),(3,.bh),(4,.bh),(5,.bh),(6,.bh),(7,.bh),(8,.one),(9,.bh),(10,.bh)] ?_;refine ae bD ?_;refine τ (afH _ [.p ke 0] (by omega) hk) ?_;rintro m O2 ⟨rfl,aC⟩;simp only[pf,jd,aq];refine ae bD ?_;refine ν bD ?_;exact aC
end
section
variable{O:VH}{ke k bb:Nat}{g:Gv}{mo st l1 u2 l2 u3 l3:Int}{cv rv:MV}{R:Η}{tk:Tok}{L:List Bn}
def Keys(L:List Bn):Prop:=∀b∈L,∀s∈dK b.k,Ζ s<=maxLen
def aik(hL:Ζ L<=100000)(D4:Keys L)(gW:ke<O.N)(hk:O.hp ke=φ (.cells (dL k bb g mo st 1 l1 (.l (Ζ L) (L.flatMap gu) tk) u2 l2 cv u3 l3 rv R))):VF Ε 80 [.p ke 0] O (aH λm O'=>(∃t,m= .l (c_ L).length ((c_ L).flatMap ju) t)/\O.Ge O'):=by
 refine ω 6 [.tmp 2] func80 ?_;refine κ bD ?_;refine κ bD ?_;refine τ (Yz gW hk) ?_;rintro m O1 ⟨rfl,aK⟩;refine ae bD ?_;refine τ (Wn L tk O1 (by omega) D4) ?_;rintro _ O2 ⟨⟨t,rfl⟩,aC⟩;refine ae bD ?_;refine ν bD ?_;exact⟨⟨t,rfl⟩,aK.trans aC⟩
def afI(hL:Ζ L<=100000)(D4:Keys L)(gW:ke<O.N)(hk:O.hp ke=φ (.cells (dL k bb g mo st 1 l1 (.l (Ζ L) (L.flatMap gu) tk) u2 l2 cv u3 l3 rv R)))
  (hs:O.hp bs=φ (.cells [.p ke 6])) (Wt:O.hp br=φ (.cells [.func (.func 80) [.p ke 0] []])) (hp:O.hp bp=φ (.cells [.p ke 19])) (h1:bs<O.N) (h2:br<O.N) (h3:bp<O.N):
  VF Ε 95 [.p bs 0,.p br 0,.p bp 0] O (aH λ_ O'=>(∃mc t,O'.hp ke=φ (.cells (dL k bb g mo mc 1 l1 (.l (Ζ L) (L.flatMap gu) tk) u2 l2 (.l (c_ L).length ((c_ L).flatMap ju) t) u3 l3 rv R)))/\bM O (φ ke) O'):=by
 have e1:br≠ke:=λe=>by rw[e,hk]at Wt;cases Wt
 have e2:bp≠ke:=λe=>by rw[e,hk]at hp;cases hp
 have sw:=hk;simp only[dL,aq]at sw;refine ω 10 [] func95 ?_;refine ξ bD hs ?_;refine τ (yU 1 sw rfl) ?_;rintro m O1 ⟨rfl,OI⟩;have cK:O1.hp ke=φ (.cells (dL k bb g mo (IntKind.i64.wrap (st+1)) 1 l1 (.l (Ζ L) (L.flatMap gu) tk) u2 l2 cv u3 l3 rv R)):=by rw[OI];exact υ _ _ _
 have dd:O1.N=O.N:=by rw[OI];rfl
 have gh:∀i,i≠ke->O1.hp i=O.hp i:=λi hi=>by rw[OI];exact π _ _ hi
 clear OI;have lK:=(gh br e1).trans Wt;have nC:=(gh bp e2).trans hp;generalize IntKind.i64.wrap (st+1)=IN at*;refine ae bD ?_;have lB:=aik hL D4 (by omega) cK;refine VC.sU [3,4,5] (λO'=>O'.hp ke=φ (.cells (dL k bb g mo IN 1 l1 (.l (Ζ L) (L.flatMap gu) tk) u2 l2 cv u3 l3 rv R))/\O'.hp bp=O1.hp bp/\O'.hp br=O1.hp br) (⟨cK,rfl,rfl⟩) ?_;rw[nC,lK];refine ε (m:=.p ke 19) 0 ?_ ?_;rintro O2 ⟨j1,j2,j3⟩;exact eD bD j2;simp only[ak];have Mp:eP Tryz.t134.desc=γ:=rfl;refine ab.op (i:=1) ?_;refine aE bD lK Mp ?_;refine⟨(by first | exact⟨cK,nC,lK⟩ | exact⟨cK,nC⟩ | exact cK),?_⟩;refine ab.afF (i:=2) lB ?_;rintro m O2 ⟨⟨t,rfl⟩,aC⟩;simp only[ak];have bY:=aC.at cK;refine⟨⟨bY,aC.at nC,aC.at lK⟩,?_⟩;refine ab.bW [(3,.bh),(4,.bh),(5,.one)] ?_;have zI:=bY;simp only[dL,aq]at zI;refine ao bD zI ?_;have fc:=aC.N;refine⟨⟨IN,t,rfl⟩,by show O.N<=O2.N;omega,λj h3 h2=>?_⟩;have QB:j≠ke:=λe=>h2 (by rw[e])
 rw[π _ _ QB,aC.hp j (by omega)];exact gh j QB
def ail(hL:Ζ L<=100000)(D4:Keys L)(gW:ke<O.N)(hk:O.hp ke=φ (.cells (dL k bb g mo st 1 l1 (.l (Ζ L) (L.flatMap gu) tk) 0 0 cv u3 l3 rv R))):
  VF Ε 79 [.p ke 19,.p ke 6,.func (.func 80) [.p ke 0] []] O (aH λm O'=>∃mc t,m= .l (c_ L).length ((c_ L).flatMap ju) t/\O'.hp ke=φ (.cells (dL k bb g mo mc 1 l1 (.l (Ζ L) (L.flatMap gu) tk) 1 0 (.l (c_ L).length ((c_ L).flatMap ju) t) u3 l3 rv R))/\bM O (φ ke) O'):=by
 have Mp:eP Tryz.t134.desc=γ:=rfl;refine ω 16 [.tmp 6] func79 ?_;refine κ bD ?_;refine VC.gen ?_;intro O1 e1;obtain⟨aK,dd,cJ,cC,fK⟩:=mQ _ _ _ e1;clear e1;have cK:=aK.at hk;refine ξ bD cJ ?_;have fz:(dL k bb g mo st 1 l1 (.l (Ζ L) (L.flatMap gu) tk) 0 0 cv u3 l3 rv R).set (19+1) (.v (.int .i32 1))=dL k bb g mo st 1 l1 (.l (Ζ L) (L.flatMap gu) tk) 0 1 cv u3 l3 rv R:=rfl;have xy:∀{i:Nat} {y:Option cx},i≠ke->O1.hp i=y->(O1.set ke (.cells (dL k bb g mo st 1 l1 (.l (Ζ L) (L.flatMap gu) tk) 0 1 cv u3 l3 rv R))).hp i=y:=λhi hy=>(π _ _ hi).trans hy
 refine τ (adP (off:=19) (Φ :=λO'=>(∃mc t,O'.hp ke=φ (.cells (dL k bb g mo mc 1 l1 (.l (Ζ L) (L.flatMap gu) tk) 0 1 (.l (c_ L).length ((c_ L).flatMap ju) t) u3 l3 rv R)))/\bM (O1.set ke (.cells (dL k bb g mo st 1 l1 (.l (Ζ L) (L.flatMap gu) tk) 0 1 cv u3 l3 rv R))) (φ ke) O') (g:=95) (xs:=[.p (O.N+1) 0,.p (O.N+2) 0,.p O.N 0]) cK rfl rfl (by kernel_rfl) (by rw[fz];exact afI hL D4 (by show ke<O1.N;omega) (υ _ _ _) (xy (by omega) cC) (xy (by omega) fK) (xy (by omega) cJ) (by show O.N+1<O1.N;omega) (by show O.N+2<O1.N;omega) (by show O.N<O1.N;omega)) (λO' Ex=>?_)) ?_;obtain⟨⟨mc,t,h⟩,_⟩:=Ex;exact⟨_,h,rfl,rfl⟩;rintro m O2 ⟨OX,cs',⟨⟨mc,t,DL⟩,huX⟩,gV,e2⟩;rw[DL]at gV;injection gV with gV;injection gV with gV;subst gV;have n8:((dL k bb g mo mc 1 l1 (.l (Ζ L) (L.flatMap gu) tk) 0 1 (.l (c_ L).length ((c_ L).flatMap ju) t) u3 l3 rv R).set 19 (.v (.int .u32 1))).set (19+1) (.v (.int .i32 0))=dL k bb g mo mc 1 l1 (.l (Ζ L) (L.flatMap gu) tk) 1 0 (.l (c_ L).length ((c_ L).flatMap ju) t) u3 l3 rv R:=rfl;rw[n8]at e2;have bY:O2.hp ke=φ (.cells (dL k bb g mo mc 1 l1 (.l (Ζ L) (L.flatMap gu) tk) 1 0 (.l (c_ L).length ((c_ L).flatMap ju) t) u3 l3 rv R)):=by rw[e2];exact υ _ _ _
 have dB:bM O1 (φ ke) O2:=by rw[e2];exact(bM.set.trans huX).trans bM.set
 clear e2 huX DL fz n8 xy;have fc:=dB.N;have fy:=(dB.hp O.N (by omega) (λe=>by injection e with e;omega)).trans cJ;have zI:=bY;simp only[dL,aq]at zI;refine ae bD ?_;refine θ (aE bD fy zI ?_);refine ν bD ?_;exact⟨mc,t,rfl,bY,(bM.mJ aK).any.trans dB⟩
def afJ(g0:FuncId)(xs:Η)(gW:ke<O.N)(hk:O.hp ke=φ (.cells (dL k bb g mo st 1 l1 (.l (Ζ L) (L.flatMap gu) tk) 1 l2 (.l n cs tc) u3 l3 rv R))):
  VF Ε 79 [.p ke 19,.p ke 6,.func (.func g0) xs []] O (aH λm O'=>m= .l n cs tc/\O.Ge O'):=by
 refine ω 16 [.tmp 6] func79 ?_;refine κ bD ?_;refine VC.gen ?_;intro O1 e1;obtain⟨aK,dd,cJ,cC,fK⟩:=mQ _ _ _ e1;clear e1;have cK:=aK.at hk;refine ξ bD cJ ?_;refine τ (adQ _ _ (x:=1) (by decide) cK rfl) ?_;rintro m O2 e2;rw[e2];clear e2 O2;have sw:=cK;simp only[dL,aq]at sw;refine ae bD ?_;refine θ (aE bD cJ sw ?_);refine ν bD ?_;exact aK
def afK(X:List Ch):dz (X.flatMap ju)=X.flatMap ju:=lx (λx=>by simp only[ju,aq,wu]) X
def Me(L:List Ch)(tk:Tok)(O:VH)(hn:Ζ L<=100000):VF Ε 64 [.l (Ζ L) (L.flatMap ju) tk] O (aH λm O'=>(∃t,m= .l (Ζ L) (L.flatMap ju) t)/\O.Ge O'):=by
 have dD:=bk qa L;refine Υ 8 [.tmp 2] func64 ?_;refine ao bD @oZ ?_;refine VL.rB (qZ Tryz.underlying23 rfl) ?_;rintro _ O1 ⟨eO,b,rfl,hb⟩;rw[eO];clear eO O1;refine WL.sound aa ?_;cases b
 ·refine ae bD ?_;by_cases h0:Ζ L=0;have hL:L=[]:=List.eq_nil_of_length_eq_zero h0;subst hL;refine VL.app (m:=.l 0 [] .full) (O':=O) (by simp[jx,Ng,T42.1.1]) ?_ (ht:=aa) (hx:=rfl) (hy:=rfl);refine ae bD ?_;exact⟨⟨.full,rfl⟩,VH.Ge.refl _⟩
  ·have jy:(L.flatMap ju).all eI=Α:=by
    rw[List.all_flatMap,aqv];intro p _;rfl
   have lg:=aP (tk:=.full) (tk':=tk) (B:=O.N) (n:=0) (k:=Ζ L) (cs:=[]) (ds:=L.flatMap ju) Ng T42.1.1 (O:=O) trivial rfl dD jy (by decide) h0 (by omega) (by simp[maxLen];omega);rw[Nat.zero_add,aql]at lg;refine aqM lg (by rw[sE,afK]) ?_;refine ae bD ?_;exact⟨⟨_,rfl⟩,cy.Er (tk:=.full) (sz:=7) trivial (cy.after (sz:=7) (B:=0) trivial)⟩
 ·obtain⟨h0,h1⟩:=hb rfl;rw[h0,h1];refine ae bD ?_;exact⟨⟨.nil,rfl⟩,VH.Ge.refl _⟩
def aim(hL:Ζ L<=100000)(hX:(c_ L).length<=100000)(D4:Keys L)(gW:ke<O.N)(hk:O.hp ke=φ (.cells (dL k bb g mo st 1 l1 (.l (Ζ L) (L.flatMap gu) tk) 0 0 cv u3 l3 rv R))):
  VF Ε 40 [.p ke 0] O (aH λm O'=>(∃t,m= .l (c_ L).length ((c_ L).flatMap ju) t)/\∃mc t,O'.hp ke=φ (.cells (dL k bb g mo mc 1 l1 (.l (Ζ L) (L.flatMap gu) tk) 1 0 (.l (c_ L).length ((c_ L).flatMap ju) t) u3 l3 rv R))/\bM O (φ ke) O'):=by
 have tQ:VF Ε 65 [.p ke 0] O (aH λm O'=>∃mc t,m= .l (c_ L).length ((c_ L).flatMap ju) t/\O'.hp ke=φ (.cells (dL k bb g mo mc 1 l1 (.l (Ζ L) (L.flatMap gu) tk) 1 0 (.l (c_ L).length ((c_ L).flatMap ju) t) u3 l3 rv R))/\bM O (φ ke) O'):=by
  refine ω 12 [.tmp 2] func65 ?_;refine κ bD ?_;refine Γ ?_;refine WC.bW (.any) [(0,.bh),(1,.bh),(2,.bh),(3,.bh),(4,.bh),(5,.bh),(6,.bh),(7,.bh),(8,.one),(9,.bh)] ?_;refine ae bD ?_;refine τ (ail hL D4 gW hk) ?_;rintro m O2 ⟨mc,t,rfl,h1,h2⟩;refine ae bD ?_;refine ν bD ?_;exact⟨mc,t,rfl,h1,h2⟩
 refine ω 8 [.tmp 2] func40 ?_;refine κ bD ?_;refine κ bD ?_;refine κ bD ?_;refine τ tQ ?_;rintro m O1 ⟨mc,t,rfl,h1,h2⟩;have dd:=h2.N;refine ae bD ?_;refine τ (Me _ t O1 hX) ?_;rintro _ O2 ⟨⟨t2,rfl⟩,aC⟩;refine ae bD ?_;refine ν bD ?_;exact⟨⟨t2,rfl⟩,mc,t,aC.at h1,h2.trans (bM.mJ aC).any⟩
def afL(hX:Ζ X<=100000)(gW:ke<O.N)(hk:O.hp ke=φ (.cells (dL k bb g mo st 1 l1 (.l (Ζ L) (L.flatMap gu) tk) 1 l2 (.l (Ζ X) (X.flatMap ju) tc) u3 l3 rv R))):
  VF Ε 40 [.p ke 0] O (aH λm O'=>(∃t,m= .l (Ζ X) (X.flatMap ju) t)/\O.Ge O'):=by
 have tQ:VF Ε 65 [.p ke 0] O (aH λm O'=>m= .l (Ζ X) (X.flatMap ju) tc/\O.Ge O'):=by
  refine ω 12 [.tmp 2] func65 ?_;refine κ bD ?_;refine Γ ?_;refine WC.bW (.any) [(0,.bh),(1,.bh),(2,.bh),(3,.bh),(4,.bh),(5,.bh),(6,.bh),(7,.bh),(8,.one),(9,.bh)] ?_;refine ae bD ?_;refine τ (afJ _ [.p ke 0] gW hk) ?_;rintro m O2 ⟨rfl,h2⟩;refine ae bD ?_;refine ν bD ?_;exact h2
 refine ω 8 [.tmp 2] func40 ?_;refine κ bD ?_;refine κ bD ?_;refine κ bD ?_;refine τ tQ ?_;rintro m O1 ⟨rfl,aK⟩;refine ae bD ?_;refine τ (Me _ tc O1 hX) ?_;rintro _ O2 ⟨⟨t2,rfl⟩,aC⟩;refine ae bD ?_;refine ν bD ?_;exact⟨⟨t2,rfl⟩,aK.trans aC⟩
def ain(hd:Bool)(v:Bs)(tk:Tok)(O:VH):VF Ε 67 [.agg [mb hd,.s v,.l 0 [] tk]] O (aH λm O'=>m= .agg [mb hd,.s v,.l 0 [] .au]/\O.Ge O'):=by
 have gU:=λO'=>IS tk O'
 rw[bB];refine ω 8 [.cell 2 46] func67 ?_;refine κ bD ?_;refine VC.gen ?_;intro O1 e1;obtain⟨aK,dd,cJ,cC⟩:=iY _ _ e1;clear e1;refine ξ bD cJ ?_;refine τ (gU O1) ?_;rintro m O2 ⟨rfl,e2⟩;rw[e2];clear e2 O2;refine ao bD cJ ?_;refine VC.gen ?_;intro O3 e3;have aJ:O.Ge O3:=by rw[e3];exact aK.set (abx _) _
 have kY:O3.hp O.N=φ (.cells [.v (.bool hd),.s v,.l 0 [] .au]):=by rw[e3];exact υ _ _ _
 have cN:O3.hp (O.N+1)=O1.hp (O.N+1):=by rw[e3];exact VH.sx
 have X0:=cN.trans cC;clear e3 cN;refine θ (aE bD kY X0 ?_);refine ν bD ?_;exact aJ.set (by omega) _
def Flat(L:List Bn):Prop:=∀b∈L,b.n=0/\b.iv=[]/\b.tk= .au
def S1(hL:Ζ L<=100000)(hF:Flat L)(gW:ke<O.N)(hk:O.hp ke=φ (.cells (dL k bb g mo st 1 l1 (.l (Ζ L) (L.flatMap gu) tk) u2 l2 cv u3 l3 rv R))):
  VF Ε 41 [.p ke 0] O (aH λm O'=>(∃t,m= .l (Ζ L) (L.flatMap gu) t)/\O.Ge O'):=by
 have hlen:=bk m4 L;refine ω 24 [.tmp 2] func41 ?_;refine κ bD ?_;refine κ bD ?_;refine Ξ [2] (λt:Tok=>[.l (Ζ L) (L.flatMap gu) t]) (λ_ O'=>O.Ge O') ?_ ?_
 ·refine κ bD ?_;refine τ (Yz gW hk) ?_;rintro m O1 ⟨rfl,aK⟩;refine ao bD @oB ?_;refine χ ?_;refine Θ [2,10] [8,9] (λx:Nat×Tok=>[.l x.1 ((L.take x.1).flatMap gu) x.2,mi x.1]) (λx O'=>x.1<=(Ζ L)/\O.Ge O'/\App O' O.N 13 x.2) (λx=>(Ζ L) - x.1) ((0,.nil)) ?_ ?_;exact⟨agb _,aK,trivial⟩;rintro⟨j,t1⟩ O3 ⟨hj,aJ,kY⟩;dsimp only at hj kY ⊢;by_cases aM:j<Ζ L;rotate_left
  ·obtain rfl:j=Ζ L:=by omega
   rw[akb];refine ν bD ?_;exact aB.mk t1 aJ
  have cA:=jSx j;have bG:=c9 m4 L j aM;have lC:=hF L[j] (agc aM);((((((have di:(L.take (j+1)).flatMap gu=(L.take j).flatMap gu++gu L[j]:=by rw[<-akf aM,aqk];simp);have dD:((L.take j).flatMap gu).length=j*13:=by rw[bk m4,ap9,ap2 hj]);generalize (L.take j).flatMap gu=P at*;generalize L[j]=b at*;obtain⟨up,dp,od,⟨q1,q2,q3,q4⟩,bv,hd,rv,nn,iv,Sn,bs,rd⟩:=b;obtain⟨rfl,rfl,rfl⟩:=lC;simp only[gu,aq,bB]at bG di;have how:=λO'=>ain hd rv .au O');rw[bB]at how;refine κ bD ?_;refine κ bD ?_;refine Γ (χ ?_);refine ξ bD bG ?_;refine VC.al ?_;rintro O4 ⟨aT,lz,fT⟩;refine ξ bD lz ?_;refine τ (how O4) ?_;rintro _ O5 ⟨rfl,bO⟩;have mA:=bO.at lz;have eJ:=bO.N;refine ao bD mA ?_;refine VC.gen ?_;intro O6 e6;have oo:O6.hp O3.N=φ (.cells [.v (Ι Κ up),.v (Ι Κ dp),.v (Ι Κ od),.s q1,.s q2,.s q3,.s q4,.s bv,.v (.bool hd),.s rv,.l 0 [] .au,.v (Ι Κ bs),.v (.bool rd)]):=by rw[e6];exact υ _ _ _);have QD:O3.Ge O6:=by rw[e6];exact(aT.trans bO).set (abx _) _);have oD:O6.N=O5.N:=by rw[e6];rfl);clear e6;have nv:=aJ.trans QD;have cH:=kY.ge QD;have je:=aP (tk:=t1) (tk':=.full) (n:=j) (k:=1) (cs:=P) (ds:=[.v (Ι Κ up),.v (Ι Κ dp),.v (Ι Κ od),.s q1,.s q2,.s q3,.s q4,.s bv,.v (.bool hd),.s rv,.l 0 [] .au,.v (Ι Κ bs),.v (.bool rd)]) HV T48.1.1 cH dD;refine ο bD oo ?_;refine VL.app je ?_;refine ae bD ?_;refine ο bD cA ?_;exact az.N (j+1,.own O6.N 13) ⟨aM,cy.eR nv cH (cy.after cH),App.after nv.N⟩ (hl:=by dsimp only;rw[di];rfl)
 rintro t O9 bI;refine κ bD ?_;refine ν bD ?_;exact⟨⟨t,rfl⟩,bI⟩
end
def bw:=aga bD<|aga dY<|aga T65<|aga T62 T68
def S4(c:Ch):Η:=[.s c.k.g,.s c.k.a,.s c.k.t,.s c.k.c,.s c.v]
def YA(c:Ch)(O:VH):VF Ε 42 [.agg (ju c)] O (aH λm O'=>m= .agg (S4 c)/\O.Ge O'):=by
 obtain⟨⟨k1,k2,k3,k4⟩,at',v,s⟩:=c;simp only[ju,S4,aq];refine ω 8 [.cell 2 68] func42 ?_;refine κ bw ?_;refine VC.gen ?_;intro O1 e1;obtain⟨aK,dd,cJ,cC⟩:=iY _ _ e1;clear e1;refine θ (aE bw cJ cC ?_);refine ν bw ?_;exact aK.set (by omega) _
def nJ(X:List Ch)(L:List Bn):Ο:=(Ν (Ζ X)).map (gF X L (Ζ L))
def rk(X:List Ch)(L:List Bn):(nJ X L).length=Ζ X:=by simp[nJ]
def D8(X:List Ch)(L:List Bn)(T:Nat->Tok):dH (Ζ X) (gF X L (Ζ L)) T=bz (nJ X L) T:=SV _ _ _
def vP(X:List Ch)(L:List Bn)(a:Int):∀(j:Nat)(x:Int),x∈Jk X L a j->∃k:Nat,x=k/\k<Ζ X
 | 0,x,h=>by cases h
 | j+1,x,h=>by
   rw[Jk]at h;split at h;split at h;split at h;rename_i k hk;unfold vL at h;split at h;exact vP X L a j x h;rcases alO.1 h with h | h;exact vP X L a j x h;exact⟨k,ake.1 h,Ji hk⟩;exact vP X L a j x h;exact vP X L a j x h;exact vP X L a j x h
def Cq{L:List Bn}(hX:Ζ X<=1000)(hL:Ζ L<=1000):sm 1000 (nJ X L):=by
 refine⟨by rw[rk];exact hX,λl hl=>?_⟩;obtain⟨u,_,rfl⟩:=aqa.1 hl;have:=Yw X L (Ζ L) u;omega
def F5(X:List Ch)(L:List Bn):ot (nJ X L):=by
 intro l hl x hx;obtain⟨u,hu,rfl⟩:=aqa.1 hl;unfold gF at hx;rw[Ca (alT.1 hu)]at hx;obtain⟨k,h1,h2⟩:=vP X L _ _ x hx;rw[rk];omega
def F6(g:Ο):∀(f:Nat)(d:Nat->Bool),∀w∈df g f d,Ζ w<=(Ζ g)/\∀x∈w,∃i:Nat,x=i/\i<Ζ g
 | 0,d,w,h=>by cases h
 | f+1,d,w,h=>by
   rw[df]at h;split at h;cases h
   ·rcases Th.1 h with rfl | h
    ·exact⟨jM _ _,λx hx=>by
      obtain⟨i,h1,h2,_⟩:=iy.1 hx;exact⟨i,h1,h2⟩⟩
    ·exact F6 g f _ w h
def F7(g:Ο):∀(f:Nat)(d:Nat->Bool),(df g f d).length<=f
 | 0,d=>abx _
 | f+1,d=>by
   rw[df];split;exact agb _;rw[alQ];have:=F7 g f (eB d (b_ g d));omega
def uQ(X:List Ch)(k:Int):Η:=match X[k.toNat]? with
 | some c=>S4 c
 | none=>[]
def OJ{c:Ch}(h:X[k]?=φ c):uQ X (k:Int)=S4 c:=by unfold uQ;rw[Int.toNat_natCast,h]
def Jp{X:List Ch}:∀{w:Χ},(∀x∈w,∃i:Nat,x=i/\i<Ζ X)->(w.flatMap (uQ X)).length=(Ζ w)*5
 | [],_=>rfl
 | x::w,h=>by
   obtain⟨i,rfl,hi⟩:=h x Ti;rw[aqF,aka,OJ (Ca hi),Jp λy hy=>h y (af_ _ hy),alQ];show 5+_=_;omega
def uR(X:List Ch)(W:Ο)(T:Nat->Tok):Η:=(Ν (Ζ W)).map λu=>.l (W.getD u []).length ((W.getD u []).flatMap (uQ X)) (T u)
def Wu(X:List Ch)(W:Ο)(T:Nat->Tok):(uR X W T).length=Ζ W:=by simp[uR]
def S5(X:List Ch)(W:Ο)(T:Nat->Tok)(w:Χ)(t:Tok):uR X W T++[.l (Ζ w) (w.flatMap (uQ X)) t]=uR X (W++[w]) (λv=>if v=(Ζ W) then t else T v):=by
 unfold uR;rw[aka,ap4,aqA,ap6,List.map_singleton];congr 1
 ·refine aqB λu hu=>?_
  have:=alT.1 hu;dsimp only;rw[if_neg (by omega),akd,akd,aqE this]
 ·dsimp only;rw[if_pos rfl];simp
def OK(W:Ο)(n:Nat)(h:∀w∈W,Ζ w<=n):Ζ W.flatten<=(Ζ W)*n:=by
 induction W with
 | nil=>simp
 | cons w W ih=>
   rw[List.flatten_cons,aka,alQ,Nat.succ_mul];have:=h w Ti;(have:=ih λx hx=>h x (af_ _ hx));omega
def aio(N:List Br):N.flatMap oI=(N.map bnB).flatMap gu:=by
 rw[List.flatMap_map];rfl
def S6(N:List Br):Flat (N.map bnB):=λb hb=>by
 obtain⟨x,_,rfl⟩:=aqa.1 hb;exact⟨rfl,rfl,rfl⟩
def aor{g:Gv}{N:List Br}{L:List Bn}(gW:ke<O.N)(D7:¬U ke)(hk:O.hp ke=φ (.cells (dL k bb g mo st 0 0 m9 0 0 cv u3 l3 rv R)))(hc:CB O U k bb md S)(hS:Plain S)(hr:Ck (jL S) g=φ (φ N))
  (hLN:L=N.map bnB) (hXL:X=c_ L) (hL:Ζ L<=1000) (hX:Ζ X<=1000) (D4:Keys L) (DL:∀c∈X,∀s∈dK c.k,Ζ s<=maxLen) {W:Ο} (hW:W=df (nJ X L) (Ζ X+1) λ_=>γ):
  VF Ε 24 [.p ke 0] O (aH λm O'=>(∃T t,m= .tuple [.l (Ζ W) (uR X W T) t,mb (Ζ W.flatten==Ζ X)])/\ke<O'.N/\∃mc t1 t2,O'.hp ke=φ (.cells (dL k bb g mo mc 1 0 (.l (Ζ L) (L.flatMap gu) t1) 1 0 (.l (Ζ X) (X.flatMap ju) t2) u3 l3 rv R))):=by
 have hWm:∀w∈W,Ζ w<=(Ζ X)/\∀x∈w,∃i:Nat,x=i/\i<Ζ X:=λw hw=>by
  have:=F6 (nJ X L) _ _ w (by rw[<-hW];exact hw)
  rwa [rk]at this
 have Vs:Ζ W<=1001:=by rw[hW];exact alS (F7 _ _ _) (by omega)
 have lC:Flat L:=by rw[hLN];exact S6 N
 have Va:=aij gW D7 hk hc hS hr;rw[aio, <-hLN,show (Ζ N)=(Ζ L) by rw[hLN,WT]]at Va;simp only[pf,jd,aq]at Va;refine ω 56 [.tmp 2,.tmp 3] func24 ?_;refine κ bw ?_;refine κ bw ?_;refine τ Va ?_;rintro _ O1 ⟨rfl,IN,t1,cK,dd,_⟩;clear Va;refine ae bw ?_;refine VL.HK aa (bb:=γ) (b:=Α) (by simp) (by simp[kK]) (.inr ⟨rfl,rfl⟩) (by kernel_rfl) (by kernel_rfl) rfl rfl rfl rfl ?_;refine ae bw ?_;have tQ:=aim (L:=L) (by omega) (by rw[<-hXL];omega) D4 (show ke<O1.N by omega) cK;rw[<-hXL]at tQ;refine κ bw ?_;refine τ tQ ?_;rintro _ O2 ⟨⟨t2,rfl⟩,st2,t3,bY,dB⟩;clear tQ;have fc:=dB.N;refine ae bw ?_;refine κ bw ?_;have NT:=S1 (L:=L) (by omega) lC (show ke<O2.N by omega) bY;refine Ξ [2,4,5] (λx:(Nat->Tok)×Tok=>[.l (Ζ W) (uR X W x.1) x.2,.l (Ζ X) (X.flatMap ju) t2,mi (Ζ W.flatten)]) (λ_ O'=>ke<O'.N/\O'.hp ke=φ (.cells (dL k bb g mo st2 1 0 (.l (Ζ L) (L.flatMap gu) t1) 1 0 (.l (Ζ X) (X.flatMap ju) t3) u3 l3 rv R))) ?_ ?_
 ·refine κ bw ?_;refine τ NT ?_;rintro _ O3 ⟨⟨t4,rfl⟩,aJ⟩;clear NT;refine ae bw ?_;refine τ (SP L X t4 t2 hL hX D4 DL O3) ?_;rintro _ O4 ⟨⟨T5,t5,rfl⟩,aT⟩;have pY:=SZ (nJ X L) T5 t5 O4 ⟨(Cq hX hL).1,λl hl=>alS ((Cq hX hL).2 l hl) (by decide)⟩;rw[<-D8,rk,(jv _).2 (F5 X L), <-hW]at pY;generalize dH (Ζ X) (gF X L (Ζ L)) T5=GG at*;refine ae bw ?_;refine τ pY ?_;rintro m O5 ⟨bO,hm⟩
  obtain⟨T6,t6,rfl⟩:∃T' t,m= .l (Ζ W) (bz W T') t:=by
   rcases hm with⟨_,h⟩ | ⟨h,_⟩;exact h;cases h
  clear hm pY;(((have hgW:=λu h=>iw W T6 (u:=u) h);have hWr:=eM W T6;generalize bz W T6=RW at*;refine ao bw @oB ?_;have F0:=(aJ.trans aT).trans bO;have gO:=F0.at bY;have eJ:=F0.N;refine χ ?_;refine Θ [2,5,23] [4,21,22] (λs:Nat×(Nat->Tok)×Tok=>[.l s.1 (uR X (W.take s.1) s.2.1) s.2.2,mi (W.take s.1).flatten.length,mi s.1]) (λs O'=>s.1<=(Ζ W)/\O5.Ge O'/\App O' O5.N 1 s.2.2) (λs=>(Ζ W) - s.1) ((0,(λ_=>.nil),.nil)) ?_ ?_);exact⟨agb _,VH.Ge.refl _,trivial⟩);rintro⟨i,T7,t7⟩ O6 ⟨hi,gN,pe⟩;dsimp only at hi pe ⊢;by_cases cn:i<Ζ W;rotate_left
  ·obtain rfl:i=Ζ W:=by omega
   rw[akb];refine ν bw ?_;exact aB.mk (T7,t7) ⟨by have:=gN.N;omega,gN.at gO⟩
  have gh:=jSx i;have bG:=hgW i cn;(((((have di:W.take (i+1)=W.take i++[W[i]]:=by rw[akf cn]);obtain⟨lZ,Fa⟩:=hWm W[i] (agc cn);have hY:=λt=>S5 X (W.take i) T7 W[i] t);rw[<-di]at hY;have hri:=Wu X (W.take i) T7;rw[ap9,ap2 hi]at hri hY;have aos:(W.take (i+1)).flatten.length=(W.take i).flatten.length+W[i].length:=by rw[di,List.flatten_append,aka];simp);have aot:=OK (W.take i) (Ζ X) λw hw=>(hWm w (aqz hw)).1);rw[ap9,ap2 hi]at aot;have apP:i*(Ζ X)<=1001*1000:=Nat.mul_le_mul (by omega) hX;generalize (W.take i).flatten.length=nf at*;generalize uR X (W.take i) T7=RI at*;generalize W[i]=w at*;have S0:(w.map mi).length=Ζ w:=WT _;have xI:∀(j:Nat)(y:Int),w[j]?=φ y->(w.map mi)[j]?=φ (MV.v (Ι Κ y)):=λj y h=>by rw[YI,h];rfl);generalize w.map mi=WM at*;refine κ bw ?_;refine κ bw ?_;refine Γ (χ ?_);refine θ (aE bw bG hWr ?_);refine κ bw ?_;refine Ξ [2,4,5,8,21,22,23] (λt:Tok=>[.l i RI t7,.l (Ζ X) (X.flatMap ju) t2,mi nf,.l (Ζ w) (w.flatMap (uQ X)) t,.l (Ζ W) RW t6,mi (Ζ W),mi i]) (λ_ O'=>O6.Ge O') ?_ ?_
  ·refine ξ bw @oB ?_;refine χ ?_;refine Θ [8,29] [2,4,5,21,22,23,27,28] (λs:Nat×Tok=>[.l s.1 ((w.take s.1).flatMap (uQ X)) s.2,mi s.1]) (λs O'=>s.1<=(Ζ w)/\O6.Ge O'/\App O' O6.N 5 s.2) (λs=>(Ζ w) - s.1) ((0,.nil)) ?_ ?_;exact⟨agb _,VH.Ge.refl _,trivial⟩;rintro⟨j,t8⟩ O7 ⟨hj,fG,wK⟩;dsimp only at hj wK ⊢;by_cases aM:j<Ζ w;rotate_left
   ·obtain rfl:j=Ζ w:=by omega
    rw[akb];refine ν bw ?_;exact aB.mk t8 fG
   have cA:=jSx j;have zH:w[j]?=φ w[j]:=Ca aM;obtain⟨c,fK,jm⟩:=Fa w[j] (agc aM);rw[fK]at zH;have oh:=xI j _ zH;have hXc:X[c]?=φ X[c]:=Ca jm;have hct:=c9 qa X c jm;have gU:=bk qa X;((have AR:(w.take (j+1)).flatMap (uQ X)=(w.take j).flatMap (uQ X)++S4 X[c]:=by rw[ap7,zH,aqk];simp[OJ hXc]);have dD:((w.take j).flatMap (uQ X)).length=j*5:=by rw[Jp λx hx=>Fa x (aqz hx),ap9,ap2 hj]);have hit:=YA X[c] O7;generalize (w.take j).flatMap (uQ X)=P at*;generalize X[c]=x at*;obtain⟨⟨k1,k2,k3,k4⟩,at',v,s⟩:=x;simp only[ju,S4,aq]at hct hit AR;refine κ bw ?_;refine κ bw ?_;refine Γ (χ ?_);refine θ (aE bw oh S0 ?_);refine ι (aE bw hct gU ?_);refine τ hit ?_;rintro _ O8 ⟨rfl,iC⟩;have EV:=wK.ge iC;have je:=aP (tk:=t8) (tk':=.full) (n:=j) (k:=1) (cs:=P) (ds:=[.s k1,.s k2,.s k3,.s k4,.s v]) T65 T68.1.1 EV dD;refine ae bw ?_;refine VL.app je ?_;refine ae bw ?_;refine ο bw cA ?_;have S7:=fG.trans iC;exact az.N (j+1,.own O8.N 5) ⟨aM,cy.eR S7 EV (cy.after EV),App.after S7.N⟩ (hl:=by dsimp only;rw[AR];rfl)
  rintro t8 O7 fG;have rb:=gN.trans fG;have wK:=pe.ge fG;(have hni:(nf:Int)+Ζ w=((nf+Ζ w:Nat):Int):=by omega);have aou:=hY t8;generalize w.flatMap (uQ X)=WF at*;have px:=aP (tk:=t7) (tk':=.full) (n:=i) (k:=1) (cs:=RI) (ds:=[.l (Ζ w) WF t8]) T62 T65 wK (by rw[hri,ap_]);refine θ (aE bw @oB hni ?_);refine ν bw ?_;refine VL.app px ?_;refine ae bw ?_;refine ο bw gh ?_;exact az.N (i+1,(λv=>if v=i then t8 else T7 v),.own O7.N 1) ⟨cn,cy.eR rb wK (cy.after wK),App.after rb.N⟩ (hl:=by dsimp only;rw[<-aou,aos];rfl)
 rintro⟨T9,t9⟩ O9 ⟨AL,J9⟩;dsimp only;have hvX:cS (bR Ε) 23 (.l (Ζ X) (X.flatMap ju) t2)=φ (.v (Ι Κ (Ζ X))):=bC Ng
 have hb:((Ζ W.flatten:Int)==(Ζ X:Int))=(Ζ W.flatten==Ζ X):=by
  rw[Bool.eq_iff_iff,beq_iff_eq,beq_iff_eq];omega
 refine θ (aE bw hvX hb ?_);refine ν bw ?_;exact⟨⟨T9,t9,rfl⟩,AL,st2,t1,t3,J9⟩
def aip(x:Ch)(k:Ky)(b:Nat)(O:VH)(hb:O.hp b=φ (.cells (iP k)))(yA:b<O.N):VF Ε 44 [.agg (ju x),.p b 0] O (aH λm O'=>m=mb (tS x.k k)/\O.Ge O'):=by
 obtain⟨⟨x1,x2,x3,x4⟩,xa,xv,xs⟩:=x;obtain⟨k1,k2,k3,k4⟩:=k;simp only[ju,iP,aq]at hb ⊢;refine ω 8 [.tmp 3] func44 ?_;refine κ bw ?_;refine VC.bx ?_;rintro O1 ⟨aK,eS,dd⟩;have cC:=aK.at hb;refine θ (aE bw eS cC ?_);refine VL.HK aa (bb:=(x1==k1)&&((x2==k2)&&((x3==k3)&&((x4==k4)&&Α)))) (b:=(x1==k1)&&((x2==k2)&&((x3==k3)&&((x4==k4)&&Α)))) (by simp) (by simp[kK]) (.inl ⟨rfl,rfl⟩) (by kernel_rfl) (by kernel_rfl) rfl rfl rfl rfl ?_;refine ae bw ?_;refine ν bw ?_;exact⟨by simp[mb,tS],aK⟩
def Wv(X:List Ch)(k:Ky):∀j:Nat,idxFrom (λc=>tS c.k k) j X=match rj X k with
  | some i=>((j+i:Nat):Int)
  | none=> -1:=by
 induction X with
 | nil=>intro j;rfl
 | cons c X ih=>
   intro j;rw[idxFrom];unfold rj at ih ⊢;rw[List.findIdx?_cons];cases h:tS c.k k
   ·simp only[aqm,if_false];rw[ih (j+1)];cases X.findIdx? λc=>tS c.k k with
    | none=>rfl
    | some i=>
      show((j+1+i:Nat):Int)=((j+(i+1):Nat):Int);omega
   ·rfl
def afM{g:Gv}{t1 t2:Tok}{L:List Bn}(key:Ky)(hi:rj X key=φ i)(gW:ke<O.N)(hk:O.hp ke=φ (.cells (dL k bb g mo st 1 l1 (.l (Ζ L) (L.flatMap gu) t1) 1 l2 (.l (Ζ X) (X.flatMap ju) t2) u3 l3 rv R)))
  (lC:Flat L) (hL:Ζ L<=1000) (hX:Ζ X<=1000) (D4:Keys L) (DL:∀c∈X,∀s∈dK c.k,Ζ s<=maxLen):
  VF Ε 25 [.p ke 0,.agg (iP key)] O (aH λm O'=>(∃q t,m= .l (cQ q (Ζ X)).length ((cQ q (Ζ X)).flatMap (uQ X)) t/\∀x,x<(Ζ X)->(q x=Α ↔ gY (nJ X L) x i))/\O.Ge O'):=by
 have tQ:=λO' h1 h2=>afL (O:=O') (L:=L) (X:=X) (tc:=t2) (k:=k) (bb:=bb) (g:=g) (mo:=mo) (st:=st) (l1:=l1) (l2:=l2) (u3:=u3) (l3:=l3) (rv:=rv) (R:=R) (tk:=t1) (by omega) (ke:=ke) h1 h2
 have NT:=λO' h1 h2=>S1 (O:=O') (L:=L) (k:=k) (bb:=bb) (g:=g) (mo:=mo) (st:=st) (l1:=l1) (u2:=1) (l2:=l2) (u3:=u3) (l3:=l3) (rv:=rv) (R:=R) (tk:=t1) (cv:=.l (Ζ X) (X.flatMap ju) t2) (by omega) lC (ke:=ke) h1 h2
 have hiX:=Ji hi;have Oy:=λ(tk:Tok)(O':VH)(b:Nat)(hb:O'.hp b=φ (.cells (iP key)))(yA:b<O'.N)=>ah0 X tk 44 [.p b 0] (λc=>tS c.k key) O' (by kernel_rfl) (λx _ n5 hg=>aip x key b n5 (hg.at hb) (by have:=hg.N;omega)) (by omega)
 rw[Wv,hi]at Oy;obtain⟨q1,q2,q3,q4⟩:=key;simp only[iP,aq,Nat.zero_add]at Oy ⊢;refine ω 38 [.tmp 4] func25 ?_;refine κ bw ?_;refine VC.bx ?_;rintro O1 ⟨aK,eS,dd⟩;have cK:=aK.at hk;refine κ bw ?_;refine τ (tQ O1 (by omega) cK) ?_;rintro _ O2 ⟨⟨t3,rfl⟩,aC⟩;have jY:=aC.at eS;have fc:=aC.N;refine ae bw ?_;refine κ bw ?_;refine τ (Oy t3 O2 O.N jY (by omega)) ?_;rintro _ O3 ⟨rfl,aJ⟩;have ij:=aJ.N;have en:=aJ.at (aC.at cK);have e0:decide ((i:Int)<0)=γ:=decide_eq_false (by omega);refine ae bw ?_;refine ξ bw e0 ?_;have eW:=(aK.trans aC).trans aJ;refine Ξ [4] (λx:(Nat->Bool)×Tok=>[.l (cQ x.1 (Ζ X)).length ((cQ x.1 (Ζ X)).flatMap (uQ X)) x.2]) (λx O'=>O.Ge O'/\∀y,y<(Ζ X)->(x.1 y=Α ↔ gY (nJ X L) y i)) ?_ ?_
 ·refine κ bw ?_;refine τ (NT O3 (by omega) en) ?_;rintro _ O4 ⟨⟨t4,rfl⟩,aT⟩;refine ae bw ?_;refine τ (SP L X t4 t3 hL hX D4 DL O4) ?_;rintro _ O5 ⟨⟨T5,t5,rfl⟩,bO⟩;(have qX:=λtc=>Wr (nJ X L) T5 t5 [(i:Int)] tc O5 (Cq hX hL) (by simp));rw[<-D8,rk,(jv _).2 (F5 X L)]at qX;simp only[ap4,aqD,List.map_nil,aq]at qX;generalize dH (Ζ X) (gF X L (Ζ L)) T5=GG at*;refine ae bw ?_;refine τ (qX _) ?_;rintro m O6 ⟨gN,hm⟩
  obtain⟨q,t6,rfl,hq⟩:∃q t,m= .l (cQ q (Ζ X)).length ((cQ q (Ζ X)).map mi) t/\∀x,x<(Ζ X)->(q x=Α ↔ gY (nJ X L) x i):=by
   rcases hm with⟨_,q,t,h1,h2⟩ | ⟨h,_⟩;refine⟨q,t,h1,λx hx=>(h2 x hx).trans ?_⟩;constructor;rintro⟨c,a1,a2,a3,a4⟩;rw[ake.1 a1,aqs]at a4;exact a4;intro a4;exact⟨i,aqo _,by omega,by omega,by rw[aqs];exact a4⟩;cases h
  clear hm qX;have hvI:cS (bR Ε) 29 (.l (cQ q (Ζ X)).length ((cQ q (Ζ X)).map mi) t6)=φ (.v (Ι Κ (cQ q (Ζ X)).length)):=bC fZ;have hIm:((cQ q (Ζ X)).map mi).length=(cQ q (Ζ X)).length:=WT _;(((((have hgI:∀(j:Nat)(y:Int),(cQ q (Ζ X))[j]?=φ y->((cQ q (Ζ X)).map mi)[j]?=φ (MV.v (Ι Κ y)):=λj y h=>by rw[YI,h];rfl);have Fa:=λx hx=>(iy (p:=q) (n:=Ζ X) (x:=x)).1 hx);have hIl:=jM q (Ζ X);have LA:=((eW.trans aT).trans bO).trans gN;obtain⟨w,hw⟩:∃w,w=cQ q (Ζ X):=⟨_,rfl⟩);rw[<-hw]at hvI hIm hgI Fa hIl;rw[<-hw];generalize hWM:w.map mi=WM at*;refine ao bw hvI ?_;refine χ ?_;refine Θ [4,24] [5,22,23] (λs:Nat×Tok=>[.l s.1 ((w.take s.1).flatMap (uQ X)) s.2,mi s.1]) (λs O'=>s.1<=(Ζ w)/\O6.Ge O'/\App O' O6.N 5 s.2) (λs=>(Ζ w) - s.1) ((0,.nil)) ?_ ?_);exact⟨agb _,VH.Ge.refl _,trivial⟩);rintro⟨j,t8⟩ O7 ⟨hj,fG,wK⟩;dsimp only at hj wK ⊢;by_cases aM:j<Ζ w;rotate_left
  ·obtain rfl:j=Ζ w:=by omega
   rw[akb];refine ν bw ?_;exact aB.mk (q,t8) ⟨LA.trans fG,hq⟩ (h1:=by dsimp only;rw[<-hw];rfl)
  have cA:=jSx j;have zH:w[j]?=φ w[j]:=Ca aM;obtain⟨c,fK,jm,_⟩:=Fa w[j] (agc aM);rw[fK]at zH;have oh:=hgI j _ zH;have hXc:X[c]?=φ X[c]:=Ca jm;have hct:=c9 qa X c jm;have gU:=bk qa X;have AR:(w.take (j+1)).flatMap (uQ X)=(w.take j).flatMap (uQ X)++S4 X[c]:=by rw[ap7,zH,aqk];simp[OJ hXc]
  have dD:((w.take j).flatMap (uQ X)).length=j*5:=by
   rw[Jp (λx hx=>by obtain⟨i,a,b,_⟩:=Fa x (aqz hx);exact⟨i,a,b⟩),ap9,ap2 hj]
  have hit:=YA X[c] O7;generalize (w.take j).flatMap (uQ X)=P at*;generalize X[c]=x at*;obtain⟨⟨k1,k2,k3,k4⟩,at',v,s⟩:=x;simp only[ju,S4,aq]at hct hit AR;refine κ bw ?_;refine κ bw ?_;refine Γ (χ ?_);refine θ (aE bw oh hIm ?_);refine ι (aE bw hct gU ?_);refine τ hit ?_;rintro _ O8 ⟨rfl,iC⟩;have EV:=wK.ge iC;have je:=aP (tk:=t8) (tk':=.full) (n:=j) (k:=1) (cs:=P) (ds:=[.s k1,.s k2,.s k3,.s k4,.s v]) T65 T68.1.1 EV dD;refine ae bw ?_;refine VL.app je ?_;refine ae bw ?_;refine ο bw cA ?_;have S7:=fG.trans iC;exact az.N (j+1,.own O8.N 5) ⟨aM,cy.eR S7 EV (cy.after EV),App.after S7.N⟩ (hl:=by dsimp only;rw[AR];rfl)
 rintro⟨q,t9⟩ O9 ⟨bI,hq⟩;refine κ bw ?_;refine ν bw ?_;exact⟨⟨q,t9,rfl,hq⟩,bI⟩
def aiq{kv ce cv:Nat}{E V:gI}{rd at':Int}(h:p9 O k (rowsOf S) E V ke kv ce cv rd at')(u:O.Ge O2)(h1:O.N<=bb)(h2:O.N<=md)(h3:bb<O2.N)(h4:md<O2.N)(h5:O2.hp md=φ (.map [] 0))(h6:O2.hp bb=φ (.cells [.p k 0,.map md])):CB O2 (λj=>Own k ke kv E V j\/j=bb\/j=md) k bb md S:=by
 have hO:= @Yq _ _ _ _ _ _ _ _ _ _ _ h;have hl:=h.st.lt;refine⟨⟨rowsOf S,E,V,ke,kv,ce,cv,rd,at',[],0,h.ge u,⟨h6,h5,EY 3,h3,h4⟩,by simp[rowsOf],λi g D hi=>⟨Β,by simp[rowsOf,hi],.inl ⟨rfl,rfl⟩⟩,⟨by omega,by omega⟩,λj hj=>.inl hj⟩,λj hj=>?_,.inr (.inl rfl),.inr (.inr rfl)⟩;rcases hj with hj | rfl | rfl;have:=hO hj;have:=u.N;omega;exact h3;exact h4
def Jq:List (Gv×List Dp):=[(gA,[xC [98] v1 0,xC [99] v1 0]),(⟨gS,[98],v1⟩,[xC [99] v1 0]),(⟨gS,[99],v1⟩,[])]
def Ww:List Br:=[⟨-1,0,0,⟨gS,[97],mX,[]⟩,v1,0,γ⟩,⟨0,1,0,⟨gS,[98],mX,[]⟩,v1,1,γ⟩,⟨0,1,1,⟨gS,[99],mX,[]⟩,v1,1,γ⟩,⟨1,2,0,⟨gS,[99],mX,[]⟩,v1,1,γ⟩]
def alH:Ck (jL Jq) gA=φ (φ Ww):=by kernel_rfl
def OL:List Bn:=Ww.map bnB
def wT:List Ch:=[⟨⟨gS,[97],mX,[]⟩,0,v1,0⟩,⟨⟨gS,[98],mX,[]⟩,1,v1,1⟩,⟨⟨gS,[99],mX,[]⟩,2,v1,1⟩]
def afN:c_ OL=wT:=by kernel_rfl
def afO:nJ wT OL=[[1,2],[2],[]]:=by kernel_rfl
def alI:df [[1,2],[2],[]] 4 (λ_=>γ)=[[2],[1],[0]]:=by kernel_rfl
def Mf:Calm ⟨gS,[98],v1⟩ [xC [99] v1 0]:=⟨rfl,afr,.one,by simp[On Wi],by simp,by simp⟩
def Mg:Calm ⟨gS,[99],v1⟩ []:=⟨rfl,Wi,.one,by simp,by simp,by simp⟩
def afP:Plain Jq:=⟨by simp[Jq,SJ,Mf,Mg],by simp[Jq,gA,v1]⟩
def alJ(x:Nat)(hx:x<3):gY [[1,2],[2],[]] x 2:=by
 rcases x with _ | _ | _ | x;exact .step .base ⟨[1,2],rfl,by simp⟩;exact .step .base ⟨[2],rfl,by simp⟩;exact .base;omega
def Jr(O:VH):VF Ε 9 [] O (aH λm O'=>m=mb Α):=by
 refine ω 86 [.tmp 0] func9 ?_;refine κ bw ?_;refine κ bw ?_;refine τ (ahD O) ?_;rintro _ O1 ⟨rfl,qE,aK⟩;have ph:=qE.st.lt;generalize O.N=k0 at*;refine ae bw ?_;refine κ bw ?_;refine κ bw ?_;have Js:=afp [98] [49] 0 O1;simp only[xC,aX,aq,gS,aqI,aqG]at Js;refine τ Js ?_;clear Js;rintro _ O2 ⟨rfl,aC⟩;have nO2:=(aC).N;refine ae bw ?_;have Js:=afp [99] [49] 0 O2;simp only[xC,aX,aq,gS,aqI,aqG]at Js;refine τ Js ?_;clear Js;rintro _ O3 ⟨rfl,aJ⟩;have nO3:=(aJ).N;refine ae bw ?_;have EL:p9 O3 (k0+2) (rowsOf []) [] [] k0 (k0+1) 0 0 0 0:=qE.ge (aC.trans aJ);refine τ (Oo (EL) (n:=[97]) (v:=v1) (D:=[xC [98] v1 0,xC [99] v1 0]) rfl rfl (SJ) (by decide) (by decide)) ?_;rintro _ O4 ⟨rfl,⟨E4,V4,ce4,cv4,xy⟩,nO4,GD⟩;refine ae bw ?_;have Js:=afp [99] [49] 0 O4;simp only[xC,aX,aq,gS,aqI,aqG]at Js;refine τ Js ?_;clear Js;rintro _ O5 ⟨rfl,bO⟩;have nO5:=(bO).N;refine ae bw ?_;refine τ (Oo (xy.ge bO) (n:=[98]) (v:=v1) (D:=[xC [99] v1 0]) rfl rfl (Mf) (by decide) (by decide)) ?_;rintro _ O6 ⟨rfl,⟨E6,V6,ce6,cv6,J3⟩,nO6,GB⟩;refine ae bw ?_;refine τ (Oo (J3) (n:=[99]) (v:=v1) (D:=[]) rfl rfl (Mg) (by decide) (by decide)) ?_;rintro _ O7 ⟨rfl,⟨E7,V7,ce7,cv7,hs7⟩,nO7,hf7⟩;refine ae bw ?_;have aov:p9 O7 (k0+2) (rowsOf Jq) E7 V7 k0 (k0+1) ce7 cv7 0 0:=hs7;clear qE EL xy J3 hs7 GD GB hf7;refine κ bw ?_;have Wx:=ah_ O7;simp only[cD,gS,v1]at Wx;refine τ Wx ?_;rintro _ O8 ⟨rfl,iC⟩;have hs8:=aov.ge iC;refine ae bw ?_;have oR:=aih (k0+2) gA 10 O8;simp only[cD,gA,gS,v1,aq]at oR;refine τ oR ?_;rintro _ O9 ⟨ke,bb,rfl,bI,xL,hke,gW,hmd,hbc,hek⟩;clear oR Wx;have hcb:=aiq hs8 bI (show O8.N<=bb by omega) (show O8.N<=bb - 1 by omega) (by omega) (by omega) hmd hbc
 have D7:¬(Own (k0+2) k0 (k0+1) E7 V7 ke\/ke=bb\/ke=bb - 1):=by
  rintro(h | h | h);have:=Yq hs8 h;omega;omega;omega
 refine ae bw ?_;have sb:=aor (W:=[[2],[1],[0]]) gW D7 hek hcb afP alH (L:=OL) (X:=wT) rfl afN.symm (by decide) (by decide) (by unfold Keys;decide) (by decide) (by rw[afO];exact alI.symm);refine κ bw ?_;refine τ sb ?_;rintro _ Oa ⟨⟨T1,ta,rfl⟩,hka,IN,tb,tc,hea⟩;clear sb;refine ae bw ?_;have haf:=afM (key:=⟨gS,[99],mX,[]⟩) (i:=2) (X:=wT) (L:=OL) (by rfl) hka hea (S6 Ww) (by decide) (by decide) (by unfold Keys;decide) (by decide);simp only[iP,gS,mX]at haf;have hro:uR wT [[2],[1],[0]] T1=[.l 1 [.s gS,.s [99],.s mX,.s [],.s v1] (T1 0),.l 1 [.s gS,.s [98],.s mX,.s [],.s v1] (T1 1),.l 1 [.s gS,.s [97],.s mX,.s [],.s v1] (T1 2)]:=rfl;rw[hro,show([[2],[1],[0]]:Ο).length=3 from rfl,show(([[2],[1],[0]]:Ο).flatten.length==Ζ wT)=Α from rfl];simp only[gS,mX,v1];refine κ bw ?_;refine τ haf ?_;rintro _ Ob ⟨⟨q,tq,rfl,hq⟩,hgb⟩;clear haf
 have qF:cQ q (Ζ wT)=[0,1,2]:=by
  rw[show (Ζ wT)=3 from rfl]at hq ⊢;rw[afO]at hq;(have:cQ q 3=cQ (λ_=>Α) 3:=SX λx hx=>(hq x hx).2 (alJ x hx));rw[this];rfl
 rw[qF,show([0,1,2]:Χ).length=3 from rfl];generalize ([0,1,2]:Χ).flatMap (uQ wT)=CX at*;have e1:(([99]:Ρ)==[99])=Α:=rfl;have e2:(([97]:Ρ)==[97])=Α:=rfl;have e3:((3:Int)==3)=Α:=rfl;have e4:((1:Int)==1)=Α:=rfl;refine ae bw ?_;refine ι (iV bw e1 e2 e3 e4 ?_);trivial
open Go.ChangeShapes
section
variable{H:Type}{enc:TypeId×Value->H}{P:Program}{w:World}{sp:Nat->Bool}{held:Bool}{t e:TypeId}{α β :Type}
def G5(enc:TypeId×Value->H)(P:Program)(w:World)(sp:Nat->Bool)(held:Bool)(t:TypeId)(f: α ->Η)(p: α ->Prop):Prop:=El enc P w sp held t λms=>∃y,ms=f y/\p y
def G5.int{k:IntKind}(ht:P.underlying t=φ (.int k)):G5 enc P w sp held t (λn:Int=>[.v (.int k n)]) (InK k):=El.amX ht
def Mh{f: α ->Η}{p: α ->Prop}:∀{rows:List Η},(∀r∈rows,∃x,r=f x/\p x)->∃xs:List α,Ζ rows=(Ζ xs)/\rows.flatten=xs.flatMap f/\∀x∈xs,p x
 | [],_=>⟨[],rfl,rfl,by simp⟩
 | r::rows,h=>by
   obtain⟨xs,h1,h2,h3⟩:=Mh λr hr=>h r (af_ _ hr)
   obtain⟨x,h4,h5⟩:=h r (Ti ..)
   exact⟨x::xs,by simp[h1],by rw[h4];simp[h2],λy hy=>by
    rcases Th.1 hy with rfl | hy;exact h5;exact h3 y hy⟩
def G5.slice{f: α ->Η}{p: α ->Prop}(ht:P.underlying t=φ (.slice e))(r7:0<P.cellsOf e)(he:G5 enc P w sp held e f p):
  G5 enc P w sp held t (λy:List α ×Tok=>[.l (Ζ y.1) (y.1.flatMap f) y.2]) (λy=>(∀x∈y.1,p x)/\(Ζ y.1)<=maxLen):=
 (El.slice ht he r7).imp λms ⟨rows,tk,h1,h2,h3⟩=>by
  obtain⟨xs,h4,h5,h6⟩:=Mh h2;exact⟨(xs,tk),by rw[h1,h4,h5],h6,by show (Ζ xs)<=maxLen;omega⟩
def G5.arg{f: α ->Η}{p: α ->Prop}(h:G5 enc P w sp held t f p){v:Value}{d:DataW H}{ps:List MemPlace}(hd:DataW.Trod enc P w 0 sp held t v d ps)(hc:v.cells= #[v]):∃m y,VR (G0 w) m v/\[m]=f y/\p y:=by
 obtain⟨m,h1,y,h2,h3⟩:=El.arg h hd hc;exact⟨m,y,h1,h2,h3⟩
end
def abm(g:Ο)(T:Nat->Tok)(tk:Tok)(O:VH)(hs:sm 1000000 g):VF Ε 12 [.l (Ζ g) (bz g T) tk] O (aH λm O'=>m=mb (m6 g)/\O'=O):=by
 have n9:=eM g T;have Co:=λu h=>iw g T (u:=u) h
 generalize bz g T=A at*;refine ω 29 [.tmp 2] func12 ?_;refine κ aD ?_;refine Ξ [] (λ_:Unit=>[]) (λ_ O'=>O'=O/\m6 g=Α) ?_ ?_
 ·refine ξ aD @oB ?_;refine χ ?_;refine Θ [9] [0,7,8] (λi:Nat=>[mi i]) (λi O'=>O'=O/\i<=(Ζ g)/\∀l∈g.take i,∀x∈l,0<=x/\x<(Ζ g:Int)) (λi=>(Ζ g) - i) (0) ?_ ?_;exact⟨rfl,agb _,λl h=>by simp at h⟩;rintro i Ox ⟨eO,hi,dw⟩;rw[eO];clear eO Ox;by_cases cn:i<Ζ g;rotate_left
  ·obtain rfl:i=Ζ g:=by omega
   rw[akb]at dw;refine ν aD ?_;exact aB.mk () ⟨rfl,(jv g).2 dw⟩
  have gh:=jSx i;have bG:=Co i cn;((have di:g.take (i+1)=g.take i++[g[i]]:=by rw[akf cn]);have tf:=agc cn;have tO:=hs.2 _ tf;have xG:=hs.1;generalize g[i]=l at*;have tT:(l.map mi).length=Ζ l:=WT _;have zF:∀(j:Nat)(y:Int),l[j]?=φ y->(l.map mi)[j]?=φ (MV.v (Ι Κ y)):=λj y h=>by rw[YI,h];rfl);generalize l.map mi=cs at*;refine κ aD ?_;refine κ aD ?_;refine Γ (χ ?_);refine θ (aE aD bG n9 ?_);refine VC.BR [0,7,8,9] (λ_:Unit=>[.l (Ζ g) A tk,.l (Ζ g) A tk,mi (Ζ g),mi i]) (λ_ O'=>O'=O/\∀x∈l,0<=x/\x<(Ζ g:Int)) ?_ ?_
  ·refine ξ aD @oB ?_;refine χ ?_;refine Θ [15] [0,7,8,9,13,14] (λj:Nat=>[mi j]) (λj O'=>O'=O/\j<=(Ζ l)/\∀x∈l.take j,0<=x/\x<(Ζ g:Int)) (λj=>(Ζ l) - j) (0) ?_ ?_;exact⟨rfl,agb _,λx h=>by simp at h⟩;rintro j Ox ⟨eO,hj,Jn⟩;rw[eO];clear eO Ox;by_cases aM:j<Ζ l;rotate_left
   ·obtain rfl:j=Ζ l:=by omega
    rw[akb]at Jn;refine ν aD ?_;exact aB.mk () ⟨rfl,Jn⟩
   have cA:=jSx j;have oh:=zF j l[j] (Ca aM);(have AR:l.take (j+1)=l.take j++[l[j]]:=by rw[akf aM]);have pB:=agc aM;generalize l[j]=x at*
   have bad:¬(0<=x/\x<(Ζ g:Int))->m6 g=γ:=λh=>by
    rw[ap8];intro h2;exact h ((jv g).1 h2 l tf x pB)
   refine κ aD ?_;refine κ aD ?_;refine Γ (χ ?_);refine θ (aE aD oh tT ?_);by_cases h0:x<0;have e1:decide (x<0)=Α:=decide_eq_true h0;rw[bad (by omega)];refine θ (aE aD @oB e1 ?_);refine ν aD ?_;trivial;have e1:decide (x<0)=γ:=decide_eq_false h0;by_cases h1:(Ζ g:Int)<=x;have e2:decide ((Ζ g:Int)<=x)=Α:=decide_eq_true h1;have e3:decide (x>=(Ζ g:Int))=Α:=e2;rw[bad (by omega)];refine θ (iV aD @oB e1 e2 e3 ?_);refine ν aD ?_;trivial;have e2:decide ((Ζ g:Int)<=x)=γ:=decide_eq_false h1;have e3:decide (x>=(Ζ g:Int))=γ:=e2;refine ι (iV aD @oB e1 e2 e3 ?_);refine ο aD cA ?_;refine az.N (j+1) ⟨rfl,aM,λy hy=>?_⟩;rw[AR,alO]at hy;rcases hy with hy | hy;exact Jn y hy;rw[ake.1 hy];omega
  rintro _ Ox ⟨eO,hl⟩;rw[eO];clear eO Ox;refine ο aD gh ?_;refine az.N (i+1) ⟨rfl,cn,λy hy=>?_⟩;rw[di,alO]at hy;rcases hy with hy | hy;exact dw y hy;rw[ake.1 hy];exact hl
 rintro _ Ox ⟨eO,hm⟩;rw[eO];clear eO Ox;rw[hm];refine ν aD ?_;trivial
def S8(g:Ο):Bool:=decide (Ζ g<=30)&&g.all λl=>decide (Ζ l<=40)
def air(h:S8 g=Α):sm 1000 g:=by
 unfold S8 at h;rw[aqj,decide_eq_true_eq,aqv]at h;exact⟨by omega,λl hl=>by have:=h.2 l hl;rw[decide_eq_true_eq]at this;omega⟩
def Wz(g:Ο)(T:Nat->Tok)(tk:Tok)(O:VH)(hg:Ζ g<=maxLen)(hr:∀l∈g,Ζ l<=maxLen):VF Ε 10 [.l (Ζ g) (bz g T) tk] O (aH λm O'=>m=mb (S8 g)/\O'=O):=by
 have n9:=eM g T;have Co:=λu h=>iw g T (u:=u) h
 simp only[maxLen]at hg hr;generalize bz g T=A at*;refine ω 18 [.tmp 2] func10 ?_;refine κ bw ?_;by_cases h30:Ζ g<=30;rotate_left;have e1:decide ((Ζ g:Int)>30)=Α:=decide_eq_true (by omega);have e2:decide ((30:Int)<Ζ g)=Α:=e1;(have:S8 g=γ:=by unfold S8;rw[decide_eq_false h30,Bool.false_and]);rw[this];refine θ (cB bw @oB e1 e2 ?_);trivial
 have e1:decide ((Ζ g:Int)>30)=γ:=decide_eq_false (by omega);have e2:decide ((30:Int)<Ζ g)=γ:=e1;have hlg:S8 g=g.all λl=>decide (Ζ l<=40):=by unfold S8;rw[decide_eq_true h30,Bool.true_and]
 rw[hlg];refine θ (cB bw @oB e1 e2 ?_);refine Ξ [] (λ_:Unit=>[]) (λ_ O'=>O'=O/\(g.all λl=>decide (Ζ l<=40))=Α) ?_ ?_
 ·refine ξ bw @oB ?_;refine χ ?_;refine Θ [10] [8,9] (λi:Nat=>[mi i]) (λi O'=>O'=O/\i<=(Ζ g)/\((g.take i).all λl=>decide (Ζ l<=40))=Α) (λi=>(Ζ g) - i) (0) ?_ ?_;exact⟨rfl,agb _,rfl⟩;rintro i Ox ⟨eO,hi,dw⟩;rw[eO];clear eO Ox;by_cases cn:i<Ζ g;rotate_left
  ·obtain rfl:i=Ζ g:=by omega
   rw[akb]at dw;refine ν bw ?_;exact aB.mk () ⟨rfl,dw⟩
  have gh:=jSx i;have bG:=Co i cn;((have di:g.take (i+1)=g.take i++[g[i]]:=by rw[akf cn]);have tf:=agc cn;have tO:=hr _ tf;generalize g[i]=l at*;generalize l.map mi=cs at*;refine κ bw ?_;refine κ bw ?_;refine Γ (χ ?_);refine θ (aE bw bG n9 ?_);by_cases h40:Ζ l<=40);have f1:decide ((Ζ l:Int)>40)=γ:=decide_eq_false (by omega);have f2:decide ((40:Int)<Ζ l)=γ:=f1;refine ι (cB bw @oB @f1 @f2 ?_);refine ο bw gh ?_;refine az.N (i+1) ⟨rfl,cn,?_⟩;rw[di,List.all_append,dw,aqN];simpa using h40
  ·have f1:decide ((Ζ l:Int)>40)=Α:=decide_eq_true (by omega);have f2:decide ((40:Int)<Ζ l)=Α:=f1
   have:(g.all λl=>decide (Ζ l<=40))=γ:=by
    rw[ap8];intro h;have:=aqv.1 h l tf;rw[decide_eq_true_eq]at this;exact h40 this
   rw[this];refine ι (cB bw @oB @f1 @f2 ?_);trivial
 rintro _ Ox ⟨eO,hm⟩;rw[eO];clear eO Ox;rw[hm];refine ν bw ?_;trivial
def YB:∀l:Χ,(l.flatMap λn=>[MV.v (Ι Κ n)])=l.map mi
 | []=>rfl
 | x::r=>by rw[aqF,YB r];rfl
def afQ(y:List (Χ×Tok))(u:Nat):Tok:=match y[u]? with
 | some r=>r.2
 | none=>.nil
def afR(y:List (Χ×Tok)):(y.flatMap λr=>[MV.l (Ζ r.1) (r.1.flatMap λn=>[MV.v (Ι Κ n)]) r.2])=bz (y.map (·.1)) (afQ y):=by
 have e:(y.flatMap λr=>[MV.l (Ζ r.1) (r.1.flatMap λn=>[MV.v (Ι Κ n)]) r.2])=y.map λr=>MV.l (Ζ r.1) (r.1.map mi) r.2:=by
  induction y with
  | nil=>rfl
  | cons r y ih=>rw[aqF,ih,YB];rfl
 rw[e];refine aqf λi=>?_
 by_cases hi:i<Ζ y;rw[YI,Ca hi,iw _ _ (by rw[WT];exact hi),List.getElem_map];unfold afQ;rw[Ca hi];rfl;rw[akc (by rw[WT];omega),akc (by rw[eM,WT];omega)]
structure Fd where
 met:Nat->Nat
 low:Nat->Nat
 fY:Nat->Nat
 j6:Nat->Bool
 eT:Τ
 dN:Τ
 bP:Nat
 ou:Nat->Nat
 last:Nat
def dM{α :Type}(f:Nat-> α)(n:Nat)(x: α):Nat-> α :=λv=>if v=n then x else f v
def ji{α :Type}(f:Nat-> α)(n:Nat)(x: α):dM f n x n=x:=if_pos rfl
def j7{α :Type}(f:Nat-> α)(x: α)(h:v≠n):dM f n x v=f v:=if_neg h
def qc(m:Nat->Nat)(N:Nat):Nat:=(Ν N).countP λv=>m v==0
structure TI(g:Ο)(pd:Option (Nat×Nat))(s:Fd):Prop where
 may:ot g
 nd:s.eT.Nodup
 lt:∀v∈s.eT,v<Ζ g
 j6:∀v,s.j6 v=Α ↔ v∈s.eT
 sub:s.dN.Sublist s.eT
 dec:s.eT.Pairwise λa b=>s.met b<s.met a
 Bw:∀v∈s.eT,s.met v≠0
 Bx:∀v,s.met v<=s.bP
 num:s.bP+qc s.met (Ζ g)=Ζ g
 lo:s.last+Ζ s.eT<=s.bP
 c0:∀v,v<(Ζ g)->s.met v≠0->v ∉ s.eT->s.ou v<s.last
 c1:∀v,v<(Ζ g)->s.met v≠0->v ∉ s.eT->∀b,fX g v b->s.met b≠0/\b ∉ s.eT/\s.ou b<=s.ou v
 c2:∀v w,v<(Ζ g)->w<(Ζ g)->s.met v≠0->s.met w≠0->v ∉ s.eT->w ∉ s.eT->s.ou v=s.ou w->gY g v w
 c3:∀k,k<s.last->∃v,v<(Ζ g)/\s.met v≠0/\v ∉ s.eT/\s.ou v=k
 zJ:∀v∈s.eT,s.low v<=s.met v
 zK:∀v∈s.eT,∃w∈s.eT,s.met w=s.low v/\gY g v w
 path:∀v∈s.eT,∀w∈s.dN,s.met w<=s.met v->gY g w v
 fin:∀v∈s.eT,v ∉ s.dN->s.low v<s.met v
 e1:∀v∈s.eT,v ∉ s.dN->∀b,fX g v b->s.met b≠0
 e2:∀v∈s.eT,v ∉ s.dN->∃w∈s.dN,s.met w<=s.met v/\(∀x∈s.dN,s.met x<=s.met v->s.met x<=s.met w)/\∀b,fX g v b->b∈s.eT->s.low w<=s.met b
 nx:∀v∈s.dN,∀l,g[v]?=φ l->s.fY v<=Ζ l
 p1:∀v∈s.dN,∀l,g[v]?=φ l->∀b:Nat,(b:Int)∈l.take (s.fY v)->pd=φ (v,b)\/(s.met b≠0/\(b∈s.eT->s.low v<=s.met b\/∃l1 l2,s.dN=l1++b::v::l2))
 S9:∀v,s.met v=0->s.fY v=0
section
variable{g:Ο}{s:Fd}{pd:Option (Nat×Nat)}
def TI.r5(h:TI g pd s)(hv:v∈s.dN):v∈s.eT:=h.sub.subset hv
def TI.down(h:TI g pd s):∀(n v:Nat),s.met v=n->v∈s.eT->∃w∈s.dN,s.met w<=s.met v/\gY g v w:=by
 intro n;induction n using Nat.strongRecOn with
 | ind n ih=>
   intro v hn hv;by_cases hw:v∈s.dN;exact⟨v,hw,abx _,.base⟩;have h1:=h.fin v hv hw;obtain⟨x,hx,eS,jY⟩:=h.zK v hv;obtain⟨w,g1,g2,g3⟩:=ih (s.met x) (by omega) x rfl hx;exact⟨w,g1,by omega,jY.trans g3⟩
def TI.empty(h:TI g pd s)(hw:s.dN=[]):s.eT=[]:=by
 cases ho:s.eT with
 | nil=>rfl
 | cons v l=>
   obtain⟨w,h1,_⟩:=h.down _ v rfl (by rw[ho];exact Ti);rw[hw]at h1;cases h1
def TI.top(h:TI g pd s)(hw:s.dN=u::l):∀w∈l,s.met w<s.met u:=by
 have:=h.dec.sublist h.sub;rw[hw]at this;exact(alR.1 this).1
def TI.YC(h:TI g pd s)(hw:s.dN=u::l):∀w∈s.dN,s.met w<=s.met u:=λw lI=>by
 rw[hw]at lI;rcases Th.1 lI with rfl | lI;exact abx _;exact aqh (h.top hw w lI)
def Jt{m:Nat->Nat}:∀{l:Τ},l.Pairwise (λa b=>m b<m a)->∀v∈l,∀w∈l,m v=m w->v=w
 | [],_,v,hv,_,_,_=>by cases hv
 | x::l,h,v,hv,w,hw,e=>by
   obtain⟨h1,h2⟩:=alR.1 h;rcases Th.1 hv with rfl | px<;>rcases Th.1 hw with rfl | oA;rfl;have:=h1 w oA;omega;have:=h1 v px;omega;exact Jt h2 v px w oA e
def abn(m:Nat->Nat)(N:Nat):qc m N<=N:=by
 have:=aqt (p:=λv=>m v==0) (l:=Ν N)
 rwa [aqg]at this
def Cr{p q:Nat->Bool}{n:Nat}(hp:p n=Α)(hq:q n=γ)(he:∀v,v≠n->q v=p v):∀N,n<N->(Ν N).countP q+1=(Ν N).countP p
 | 0,h=>by omega
 | N+1,h=>by
   rw[aqA,aqn,aqn];by_cases e:n=N
   ·subst e
    have:(Ν n).countP q=(Ν n).countP p:=List.countP_congr λv hv=>by
     have:=alT.1 hv;rw[he v (by omega)]
    simp[hp,hq,this]
   ·have ih:=Cr hp hq he N (by omega);have:q N=p N:=he N (λe'=>e e'.symm);simp only[List.countP_singleton,this];omega
def iU(s:Fd)(n:Nat):Fd:={s with met:=dM s.met n (s.bP+1),low:=dM s.low n (s.bP+1),j6:=dM s.j6 n Α,eT:=n::s.eT,dN:=n::s.dN,bP:=s.bP+1}
def TI.enter(h:TI g pd s)(hn:n<Ζ g)(h0:s.met n=0)(mT:(pd=Β/\s.dN=[])\/∃u l,pd=φ (u,n)/\s.dN=u::l/\fX g u n):TI g Β (iU s n):=by
 have dh:n ∉ s.eT:=λe=>h.Bw n e h0
 have mn:∀{v},v≠n->(iU s n).met v=s.met v:=λe=>j7 _ _ e
 have ln:∀{v},v≠n->(iU s n).low v=s.low v:=λe=>j7 _ _ e
 have me:(iU s n).met n=s.bP+1:=ji _ _ _;have le:(iU s n).low n=s.bP+1:=ji _ _ _;have on:∀{v},v∈s.eT->v≠n:=λhv e=>dh (e▸hv)
 have cl:∀{v},(iU s n).met v≠0->v ∉ (iU s n).eT->v≠n/\s.met v≠0/\v ∉ s.eT:=λ{v} h1 h2=>by
  (have e:v≠n:=λe=>h2 (by rw[e];exact Ti));rw[mn e]at h1;exact⟨e,h1,λh3=>h2 (af_ _ h3)⟩
 refine⟨h.may,aqd.2 ⟨dh,h.nd⟩,λv hv=>?_,λv=>?_,h.sub.cons_cons n,alR.2 ⟨λv hv=>?_,h.dec.imp_of_mem λ{a b} ha hb hab=>?_⟩,λv hv=>?_,λv=>?_,?_,?_,λv hv h1 h2=>?_,λv hv h1 h2 b hb=>?_,λv w hv hw h1 h2 h3 h4 h5=>?_,λk hk=>?_,λv hv=>?_,λv hv=>?_,λv hv w hw hle=>?_,λv hv hw=>?_,λv hv hw b hb=>?_,λv hv hw=>?_,λv hv l hl=>?_,λv hv l hl b hb=>?_,λv hv=>?_⟩;rcases Th.1 hv with rfl | hv;exact hn;exact h.lt v hv;by_cases e:v=n;subst e;exact⟨λ_=>Ti,λ_=>ji _ _ _⟩;rw[show(iU s n).j6 v=s.j6 v from j7 _ _ e,h.j6 v];exact⟨af_ _,λh1=>(Th.1 h1).resolve_left e⟩;rw[me,mn (on hv)];have:=h.Bx v;omega;rw[mn (on ha),mn (on hb)];exact hab;rcases Th.1 hv with rfl | hv;rw[me];omega;rw[mn (on hv)];exact h.Bw v hv;by_cases e:v=n;subst e;rw[me];exact abx _;rw[mn e];exact Nat.le_succ_of_le (h.Bx v);have hu:=Cr (p:=λv=>s.met v==0) (q:=λv=>(iU s n).met v==0) (n:=n) (by simp[h0]) (by simp[me]) (λv hv=>by rw[mn hv]) (Ζ g) hn;have:=h.num;unfold qc at this ⊢;show s.bP+1+_=_;omega;have:=h.lo;show s.last+(Ζ s.eT+1)<=s.bP+1;omega;obtain⟨_,a,b⟩:=cl h1 h2;exact h.c0 v hv a b;obtain⟨_,a1,a2⟩:=cl h1 h2;obtain⟨b1,b2,b3⟩:=h.c1 v hv a1 a2 b hb;((((((have e:b≠n:=λe=>b1 (by rw[e];exact h0));exact⟨by rw[mn e];exact b1,λh6=>b2 ((Th.1 h6).resolve_left e),b3⟩);obtain⟨_,a1,a2⟩:=cl h1 h3;obtain⟨_,b1,b2⟩:=cl h2 h4;exact h.c2 v w hv hw a1 b1 a2 b2 h5);obtain⟨v,a1,a2,a3,a4⟩:=h.c3 k hk;(have e:v≠n:=λe=>a2 (by rw[e];exact h0));exact⟨v,a1,by rw[mn e];exact a2,λh6=>a3 ((Th.1 h6).resolve_left e),a4⟩);rcases Th.1 hv with rfl | hv;rw[me,le];exact abx _;rw[mn (on hv),ln (on hv)];exact h.zJ v hv);rcases Th.1 hv with rfl | hv;exact⟨v,Ti,by rw[me,le],.base⟩;obtain⟨w,a1,a2,a3⟩:=h.zK v hv;exact⟨w,af_ _ a1,by rw[mn (on a1),ln (on hv)];exact a2,a3⟩);rcases Th.1 hv with e1 | px;rcases Th.1 hw with e2 | oA;rw[e1,e2];exact .base;rw[e1];rcases mT with⟨_,e⟩ | ⟨u,l,_,e,he⟩;rw[e]at oA;cases oA;exact .step (h.path u (h.r5 (by rw[e];exact Ti)) w oA (h.YC e w oA)) he;rcases Th.1 hw with e2 | oA;rw[e2,me,mn (on px)]at hle;have:=h.Bx v;omega;rw[mn (on px),mn (on (h.r5 oA))]at hle;exact h.path v px w oA hle
 ·(have vT:v∈s.eT:=(Th.1 hv).resolve_left λe=>hw (by rw[e];exact Ti));rw[mn (on vT),ln (on vT)];exact h.fin v vT λh6=>hw (af_ _ h6)
 ·(have vT:v∈s.eT:=(Th.1 hv).resolve_left λe=>hw (by rw[e];exact Ti));have:=h.e1 v vT (λh6=>hw (af_ _ h6)) b hb;by_cases e:b=n
  ·rw[e,me];omega
  ·rw[mn e];exact this
 ·(have vT:v∈s.eT:=(Th.1 hv).resolve_left λe=>hw (by rw[e];exact Ti));have lI:v ∉ s.dN:=λh6=>hw (af_ _ h6)
  obtain⟨w,a1,a2,a3,a4⟩:=h.e2 v vT lI;have wn:=on (h.r5 a1);refine⟨w,af_ _ a1,by rw[mn wn,mn (on vT)];exact a2,λx hx hle=>?_,λb hb ho=>?_⟩;rcases Th.1 hx with rfl | hx;rw[me,mn (on vT)]at hle;have:=h.Bx v;omega;rw[mn (on (h.r5 hx)),mn wn];rw[mn (on (h.r5 hx)),mn (on vT)]at hle;exact a3 x hx hle;rcases Th.1 ho with rfl | ho;exact absurd h0 (h.e1 v vT lI b hb);rw[ln wn,mn (on ho)];exact a4 b hb ho
 ·rcases Th.1 hv with rfl | hv;rw[show(iU s v).fY v=0 from h.S9 v h0];exact agb _;exact h.nx v hv l hl
 ·rcases Th.1 hv with rfl | hv;rw[show(iU s v).fY v=0 from h.S9 v h0,aqp]at hb;cases hb
  ·refine .inr ?_;rcases h.p1 v hv l hl b hb with hp | ⟨a1,a2⟩;rcases mT with⟨e,_⟩ | ⟨u,l',e,e2,_⟩;rw[e]at hp;cases hp;rw[e]at hp;injection hp with hp;injection hp with nC AJ;subst nC;subst AJ;exact⟨by rw[me];omega,λ_=>.inr ⟨[],l',by show n::s.dN=_;rw[e2];rfl⟩⟩
   ·(have e:b≠n:=λe=>a1 (by rw[e];exact h0));refine⟨by rw[mn e];exact a1,λh6=>?_⟩;rw[mn e,ln (on (h.r5 hv))];rcases a2 ((Th.1 h6).resolve_left e)with h7 | ⟨l1,l2,h7⟩
    ·exact .inl h7
    ·exact .inr ⟨n::l1,l2,by show n::s.dN=_;rw[h7];rfl⟩
 ·(have e:v≠n:=λe=>by rw[e,me]at hv;omega);rw[mn e]at hv;exact h.S9 v hv
def TI.aow(h:TI g Β s)(hw:s.dN=u::l)(hr:g[u]?=φ r)(hk:r[s.fY u]?=φ (k:Int)):TI g (φ (u,k)) {s with fY:=dM s.fY u (s.fY u+1)}:=by
 have hu:u∈s.dN:=by rw[hw];exact Ti
 have dm:=(alP.1 hk).1;refine⟨h.may,h.nd,h.lt,h.j6,h.sub,h.dec,h.Bw,h.Bx,h.num,h.lo,h.c0,h.c1,h.c2,h.c3,h.zJ,h.zK,h.path,h.fin,h.e1,h.e2,λv hv l hl=>?_,λv hv l hl b hb=>?_,λv hv=>?_⟩;by_cases e:v=u;subst e;rw[hr]at hl;injection hl with hl;subst hl;show dM s.fY v (s.fY v+1) v<=_;rw[ji];omega;show dM s.fY u (s.fY u+1) v<=_;rw[j7 _ _ e];exact h.nx v hv l hl
 ·by_cases e:v=u
  ·subst e;rw[hr]at hl;injection hl with hl;subst hl
   replace hb:(b:Int)∈r.take (dM s.fY v (s.fY v+1) v):=hb
   rw[ji,ap7,hk]at hb;rcases alO.1 hb with hb | hb;rcases h.p1 v hv r hr b hb with h1 | h1;cases h1;exact .inr h1
   ·have:(b:Int)=k:=by simpa using hb
    have:b=k:=by omega
    exact .inl (by rw[this])
  ·replace hb:(b:Int)∈l.take (dM s.fY u (s.fY u+1) v):=hb
   rw[j7 _ _ e]at hb;rcases h.p1 v hv l hl b hb with h1 | h1;cases h1;exact .inr h1
 ·(have e:v≠u:=λe=>h.Bw u (h.r5 hu) (by rw[<-e];exact hv));show dM s.fY u (s.fY u+1) v=0;rw[j7 _ _ e];exact h.S9 v hv
def TI.skip(h:TI g (φ (u,k)) s)(hk:s.met k≠0)(ho:k∈s.eT->s.low u<=s.met k):TI g Β s:=
 ⟨h.may,h.nd,h.lt,h.j6,h.sub,h.dec,h.Bw,h.Bx,h.num,h.lo,h.c0,h.c1,h.c2,h.c3,h.zJ,h.zK,h.path,h.fin,h.e1,h.e2,h.nx,λv hv l hl b hb=>by
  rcases h.p1 v hv l hl b hb with h1 | h1;injection h1 with h1;injection h1 with h1 h2;subst h1;subst h2;exact .inr ⟨hk,λh6=>.inl (ho h6)⟩;exact .inr h1,h.S9⟩
def TI.back(h:TI g (φ (u,k)) s)(hw:s.dN=u::l)(he:fX g u k)(ho:k∈s.eT):TI g Β {s with low:=dM s.low u (min (s.low u) (s.met k))}:=by
 have hu:u∈s.dN:=by rw[hw];exact Ti
 have hle:∀v,dM s.low u (min (s.low u) (s.met k)) v<=s.low v:=λv=>by
  by_cases e:v=u;subst e;rw[ji];exact Nat.min_le_left _ _;rw[j7 _ _ e];exact abx _
 refine TI.skip (u:=u) (k:=k) ⟨h.may,h.nd,h.lt,h.j6,h.sub,h.dec,h.Bw,h.Bx,h.num,h.lo,h.c0,h.c1,h.c2,h.c3,λv hv=>alS (hle v) (h.zJ v hv),λv hv=>?_,h.path,λv hv hw=>Nat.lt_of_le_of_lt (hle v) (h.fin v hv hw),h.e1,λv hv hw=>?_,h.nx,λv hv l hl b hb=>?_,h.S9⟩ (h.Bw k ho) λ_=>by
   show dM s.low u _ u<=_;rw[ji];exact Nat.min_le_right _ _
 ·show ∃w∈s.eT,s.met w=dM s.low u (min (s.low u) (s.met k)) v/\gY g v w
  by_cases e:v=u;subst e;rw[ji];by_cases e2:s.low v<=s.met k;rw[ap2 e2];exact h.zK v hv;rw[Nat.min_eq_right (by omega)];exact⟨k,ho,rfl,.step .base he⟩;rw[j7 _ _ e];exact h.zK v hv
 ·obtain⟨w,a1,a2,a3,a4⟩:=h.e2 v hv hw;exact⟨w,a1,a2,a3,λb hb S_=>alS (hle w) (a4 b hb S_)⟩
 ·rcases h.p1 v hv l hl b hb with h1 | ⟨h1,h2⟩;exact .inl h1;exact .inr ⟨h1,λh6=>(h2 h6).imp (λh7=>alS (hle v) h7) id⟩
def Mi{n:Nat}{l rest:Τ}:∀{P:Τ},n ∉ P->(n::l).Sublist (P++n::rest)->l.Sublist rest
 | [],_,h=>by
   rw[aql]at h;exact List.cons_sublist_cons.1 h
 | p::P,hP,h=>by
   rw[aqw]at h;cases h with
   | cons _ h=>exact Mi (λe=>hP (af_ _ e)) h
   | cons_cons _ h=>exact absurd Ti hP
def TI.own(h:TI g Β s)(hw:s.dN=n::l)(hr:g[n]?=φ r)(hx:s.fY n=Ζ r)(hb:fX g n b):s.met b≠0/\(b∈s.eT->s.low n<=s.met b):=by
 obtain⟨r',h1,h2⟩:=hb;rw[hr]at h1;injection h1 with h1;subst h1;have hn:n∈s.dN:=by rw[hw];exact Ti
 rcases h.p1 n hn r hr b (by rw[hx,akb];exact h2)with h3 | ⟨h3,h4⟩;cases h3
 ·refine⟨h3,λh6=>?_⟩;rcases h4 h6 with h7 | ⟨l1,l2,h7⟩;exact h7
  ·exfalso;have eN:=h.nd.sublist h.sub;rw[hw]at h7 eN;obtain⟨h8,_⟩:=aqd.1 eN;cases l1 with
   | nil=>
     rw[aql]at h7;injection h7 with _ h7;exact h8 (by rw[h7];exact Ti)
   | cons x l1=>
     rw[aqw]at h7;injection h7 with _ h7;exact h8 (by rw[h7];simp)
def TI.qT(h:TI g Β s){up:Nat}(hw:s.dN=n::up::l)(hr:g[n]?=φ r)(hx:s.fY n=Ζ r)(hl:s.low n≠s.met n):TI g Β {s with dN:=up::l,low:=dM s.low up (min (s.low up) (s.low n))}:=by
 have hn:n∈s.dN:=by rw[hw];exact Ti
 have mT:up∈s.dN:=by rw[hw];simp
 have dh:=h.r5 hn;have dm:s.low n<s.met n:=Nat.lt_of_le_of_ne (h.zJ n dh) hl;have fE:s.met up<s.met n:=h.top hw up (by simp);have hne:n≠up:=λe=>by rw[e]at fE;omega
 have hle:∀v,dM s.low up (min (s.low up) (s.low n)) v<=s.low v:=λv=>by
  by_cases e:v=up;subst e;rw[ji];exact Nat.min_le_left _ _;rw[j7 _ _ e];exact abx _
 have afS:dM s.low up (min (s.low up) (s.low n)) up<=s.low n:=by rw[ji];exact Nat.min_le_right _ _
 have xd:∀{v},v∈up::l->v∈s.dN:=λhv=>by rw[hw];exact af_ _ hv
 have jj:∀x∈up::l,s.met x<=s.met up:=λx hx=>by
  have:=h.dec.sublist h.sub;rw[hw]at this;obtain⟨_,h2⟩:=alR.1 this;rcases Th.1 hx with rfl | hx;exact abx _;exact aqh ((alR.1 h2).1 x hx)
 have px:∀{v},v ∉ up::l->v≠n->v ∉ s.dN:=λh1 h2 h3=>by
  rw[hw]at h3;rcases Th.1 h3 with h3 | h3;exact h2 h3;exact h1 h3
 refine⟨h.may,h.nd,h.lt,h.j6,(List.sublist_cons_self n (up::l)).trans (hw▸h.sub),h.dec,h.Bw,h.Bx,h.num,h.lo,h.c0,h.c1,h.c2,h.c3,λv hv=>alS (hle v) (h.zJ v hv),λv hv=>?_,λv hv w lI afT=>h.path v hv w (xd lI) afT,λv hv lI=>?_,λv hv lI b hb=>?_,λv hv lI=>?_,λv hv=>h.nx v (xd hv),λv hv l' uw b hb=>?_,h.S9⟩
 ·show ∃w∈s.eT,s.met w=dM s.low up (min (s.low up) (s.low n)) v/\gY g v w
  by_cases e:v=up;subst e;rw[ji];by_cases e2:s.low v<=s.low n;rw[ap2 e2];exact h.zK v hv;rw[Nat.min_eq_right (by omega)];obtain⟨w,a1,a2,a3⟩:=h.zK n dh;exact⟨w,a1,a2,(h.path n dh v mT (aqh fE)).trans a3⟩;rw[j7 _ _ e];exact h.zK v hv
 ·refine Nat.lt_of_le_of_lt (hle v) ?_;by_cases e:v=n;subst e;exact dm;exact h.fin v hv (px lI e)
 ·by_cases e:v=n;subst e;exact(h.own hw hr hx hb).1;exact h.e1 v hv (px lI e) b hb
 ·by_cases e:v=n;subst e;exact⟨up,Ti,aqh fE,λx hx _=>jj x hx,λb hb ho=>alS afS ((h.own hw hr hx hb).2 ho)⟩;obtain⟨w,a1,a2,a3,a4⟩:=h.e2 v hv (px lI e);by_cases e2:w=n;subst e2;exact⟨up,Ti,by show s.met up<=s.met v;omega,λx hx _=>jj x hx,λb hb ho=>alS afS (a4 b hb ho)⟩;have a1':=a1;rw[hw]at a1';exact⟨w,(Th.1 a1').resolve_left e2,a2,λx hx afT=>a3 x (xd hx) afT,λb hb ho=>alS (hle w) (a4 b hb ho)⟩
 ·rcases h.p1 v (xd hv) l' uw b hb with h1 | ⟨h1,h2⟩;cases h1
  ·refine .inr ⟨h1,λh6=>?_⟩;rcases h2 h6 with h7 | ⟨l1,l2,h7⟩;exact .inl (alS (hle v) h7)
   ·rw[hw]at h7;cases l1 with
    | nil=>
      rw[aql]at h7;injection h7 with h7 h8;injection h8 with h8 h9;subst h7;subst h8;exact .inl (alS afS (aqh dm))
    | cons x l1=>
      rw[aqw]at h7;injection h7 with _ h8;exact .inr ⟨l1,l2,h8⟩
def TI.below(h:TI g Β s)(hw:s.dN=n::l)(hl:s.low n≠s.met n):l≠[]:=λe=>by
 subst e;have hn:n∈s.dN:=by rw[hw];exact Ti
 have dm:s.low n<s.met n:=Nat.lt_of_le_of_ne (h.zJ n (h.r5 hn)) hl;obtain⟨w,a1,a2,_⟩:=h.zK n (h.r5 hn);obtain⟨x,b1,b2,_⟩:=h.down _ w rfl a1;rw[hw]at b1;have:=ake.1 b1;subst this;omega
def Ju(s:Fd)(Q rest dN:Τ):Fd:={s with eT:=rest,dN:=dN,j6:=λv=>s.j6 v&& !Q.contains v,ou:=λv=>if Q.contains v then s.last else s.ou v,last:=s.last+1}
def TI.pop(h:TI g Β s){P rest:Τ}(hw:s.dN=n::l)(hr:g[n]?=φ r)(hx:s.fY n=Ζ r)(hl:s.low n=s.met n)(ho:s.eT=P++n::rest):TI g Β (Ju s (P++[n]) rest l):=by
 have hn:n∈s.dN:=by rw[hw];exact Ti
 have dh:=h.r5 hn;have eN:=h.nd;have YD:=h.dec;rw[ho]at eN YD;obtain⟨d1,d2,d3⟩:=List.nodup_append.1 eN;obtain⟨d4,d5⟩:=aqd.1 d2;obtain⟨q1,q2,q3⟩:=List.pairwise_append.1 YD;obtain⟨q4,q5⟩:=alR.1 q2;have hnP:n ∉ P:=λe=>d3 n e n Ti rfl
 have E_:=h.sub;rw[hw,ho]at E_;have mem:∀{v},v∈s.eT ↔ v∈P++[n]\/v∈rest:=λ{v}=>by rw[ho];simp[or_assoc]
 have NL:∀{v},v∈P++[n]->v ∉ rest:=λ{v} h1 h2=>by
  rcases alO.1 h1 with h1 | h1;exact d3 v h1 v (af_ _ h2) rfl;rw[ake.1 h1]at h2;exact d4 h2
 have hi:∀{v},v∈P++[n]->s.met n<=s.met v:=λ{v} h1=>by
  rcases alO.1 h1 with h1 | h1;exact aqh (q3 v h1 n Ti);rw[ake.1 h1];exact abx _
 have jn:∀{v},v∈rest->s.met v<s.met n:=λ{v} h1=>q4 v h1
 have ro:∀{v},v∈rest->v∈s.eT:=λh1=>mem.2 (.inr h1)
 have up:∀{v},v∈s.eT->s.met n<=s.met v->v∈P++[n]:=λ{v} h1 h2=>by
  rcases mem.1 h1 with h3 | h3;exact h3;have:=jn h3;omega
 have down:∀{v},v∈s.eT->s.met v<s.met n->v∈rest:=λ{v} h1 h2=>by
  rcases mem.1 h1 with h3 | h3;have:=hi h3;omega;exact h3
 have hlw:∀{v},v∈l->v∈s.dN:=λh1=>by rw[hw];exact af_ _ h1
 have gq:∀{v},v∈P++[n]->(Ju s (P++[n]) rest l).ou v=s.last:=λ{v} h1=>if_pos (by simpa using h1)
 have gn:∀{v},v ∉ P++[n]->(Ju s (P++[n]) rest l).ou v=s.ou v:=λ{v} h1=>if_neg (by simpa using h1)
 have cl:∀{v},v ∉ rest->v∈P++[n]\/(v ∉ P++[n]/\v ∉ s.eT):=λ{v} h1=>by
  by_cases h2:v∈P++[n];exact .inl h2;exact .inr ⟨h2,λh3=>(mem.1 h3).elim h2 h1⟩
 have YE:∀{v},v∈P++[n]->∀b,fX g v b->s.met b≠0/\(b∈s.eT->s.met n<=s.met b):=λ{v} h1 b hb=>by
  by_cases e:v=n;subst e;obtain⟨a1,a2⟩:=h.own hw hr hx hb;exact⟨a1,λh6=>by have:=a2 h6;omega⟩
  ·have hvo:v∈s.eT:=mem.2 (.inl h1);have hvm:=hi h1
   have hvw:v ∉ s.dN:=λh6=>by
    have:=h.YC hw v h6;exact e (Jt h.dec v hvo n dh (by omega))
   refine⟨h.e1 v hvo hvw b hb,λh6=>?_⟩;obtain⟨w,a1,a2,a3,a4⟩:=h.e2 v hvo hvw;have b1:=a3 n hn hvm;have b2:=h.YC hw w a1;have:w=n:=Jt h.dec w (h.r5 a1) n dh (by omega);subst this;have:=a4 b hb h6;omega
 refine⟨h.may,d5,λv hv=>h.lt v (ro hv),λv=>?_,Mi hnP E_,q5,λv hv=>h.Bw v (ro hv),h.Bx,h.num,?_,λv hv h1 h2=>?_,λv hv h1 h2 b hb=>?_,λv w hv lI h1 h2 h3 h4 h5=>?_,λk hk=>?_,λv hv=>h.zJ v (ro hv),λv hv=>?_,λv hv w lI hle=>h.path v (ro hv) w (hlw lI) hle,λv hv lI=>?_,λv hv lI b hb=>?_,λv hv lI=>?_,λv hv=>h.nx v (hlw hv),λv hv l' uw b hb=>?_,h.S9⟩
 ·show(s.j6 v&& !(P++[n]).contains v)=Α ↔ v∈rest;rw[aqj,h.j6 v,mem];constructor
  ·rintro⟨h1,h2⟩;rcases h1 with h1 | h1
   ·have:(P++[n]).contains v=Α:=by simpa using h1
    rw[this]at h2;cases h2
   ·exact h1
  ·intro h1;refine⟨.inr h1,?_⟩
   have:(P++[n]).contains v=γ:=by
    rw[ap8];intro h2;exact NL (by simpa using h2) h1
   rw[this];rfl
 ·have:=h.lo;rw[ho,aka,alQ]at this;show s.last+1+Ζ rest<=s.bP;omega
 ·rcases cl h2 with h3 | ⟨h3,h4⟩;rw[gq h3];exact Nat.lt_succ_self _;rw[gn h3];exact Nat.lt_succ_of_lt (h.c0 v hv h1 h4)
 ·rcases cl h2 with h3 | ⟨h3,h4⟩
  ·obtain⟨a1,a2⟩:=YE h3 b hb;have hbN:=(nI h.may hb).2;by_cases h6:b∈s.eT;have h7:=up h6 (a2 h6);exact⟨a1,NL h7,by rw[gq h7,gq h3];exact abx _⟩
   ·have h7:b ∉ P++[n]:=λe=>h6 (mem.2 (.inl e))
    exact⟨a1,λe=>h6 (ro e),by rw[gn h7,gq h3];exact aqh (h.c0 b hbN a1 h6)⟩
  ·obtain⟨a1,a2,a3⟩:=h.c1 v hv h1 h4 b hb;(have h7:b ∉ P++[n]:=λe=>a2 (mem.2 (.inl e)));exact⟨a1,λe=>a2 (ro e),by rw[gn h7,gn h3];exact a3⟩
 ·have all:∀{v},v∈P++[n]->gY g v n:=λ{v} h6=>by
   have hvo:v∈s.eT:=mem.2 (.inl h6);obtain⟨x,b1,b2,b3⟩:=h.down _ v rfl hvo;exact b3.trans (h.path n dh x b1 (h.YC hw x b1))
  rcases cl h3 with h6 | ⟨h6,h7⟩<;>rcases cl h4 with h8 | ⟨h8,h9⟩;exact(all h6).trans (h.path w (mem.2 (.inl h8)) n hn (hi h8));rw[gq h6,gn h8]at h5;have:=h.c0 w lI h2 h9;omega;rw[gn h6,gq h8]at h5;have:=h.c0 v hv h1 h7;omega;rw[gn h6,gn h8]at h5;exact h.c2 v w hv lI h1 h2 h7 h9 h5
 ·by_cases e:k=s.last;subst e;((have hnq:n∈P++[n]:=by simp);exact⟨n,h.lt n dh,h.Bw n dh,NL hnq,gq hnq⟩);obtain⟨v,a1,a2,a3,a4⟩:=h.c3 k (by have:k<s.last+1:=hk;omega);exact⟨v,a1,a2,λe'=>a3 (ro e'),by rw[gn λe'=>a3 (mem.2 (.inl e'))];exact a4⟩
 ·obtain⟨w,a1,a2,a3⟩:=h.zK v (ro hv);have:=h.zJ v (ro hv);have:=jn hv;exact⟨w,down a1 (by omega),a2,a3⟩
 ·refine h.fin v (ro hv) λe=>lI ?_
  rw[hw]at e;exact(Th.1 e).resolve_left λe'=>d4 (e'▸hv)
 ·refine h.e1 v (ro hv) (λe=>lI ?_) b hb;rw[hw]at e;exact(Th.1 e).resolve_left λe'=>d4 (e'▸hv)
 ·have hvw:v ∉ s.dN:=λe=>lI (by
   rw[hw]at e;exact(Th.1 e).resolve_left λe'=>d4 (e'▸hv))
  obtain⟨w,a1,a2,a3,a4⟩:=h.e2 v (ro hv) hvw;have:=jn hv;have a1':=a1;rw[hw]at a1';exact⟨w,(Th.1 a1').resolve_left λe=>by rw[e]at a2;omega,a2,λx hx=>a3 x (hlw hx),λb hb S_=>a4 b hb (ro S_)⟩
 ·rcases h.p1 v (hlw hv) l' uw b hb with h1 | ⟨h1,h2⟩;cases h1
  ·refine .inr ⟨h1,λh6=>?_⟩;rcases h2 (ro h6)with h7 | ⟨l1,l2,h7⟩;exact .inl h7
   ·rw[hw]at h7;cases l1 with
    | nil=>
      rw[aql]at h7;injection h7 with h7 _;subst h7;exact absurd h6 d4
    | cons x l1=>
      rw[aqw]at h7;injection h7 with _ h8;exact .inr ⟨l1,l2,h8⟩
def TI.first(hm:ot g):TI g Β ⟨λ_=>0,λ_=>0,λ_=>0,λ_=>γ,[],[],0,λ_=>0,0⟩:=by
 refine⟨hm,aqC,by simp,by simp,.slnil,.nil,by simp,by simp,?_,by simp,by simp,by simp,by simp,by simp,by simp,by simp,by simp,by simp,by simp,by simp,by simp,by simp,by simp⟩;show 0+qc (λ_=>0) (Ζ g)=Ζ g;unfold qc;simp
end
section
variable{P:Program}{n:Sz}{D:List Deferred}{ops:Array Oper}{Q:VQ}
end
def GR.fr{el:TypeId}(h:GR O el sz B p n L)(hn:O.N<=O'.N)(hq:∀k,gid p=φ k->O'.hp k=O.hp k)(hs:∀j k t n,O.hp j=φ (.shape k t n)->j<O.N->O'.hp j=O.hp j):GR O' el sz B p n L:=by
 rcases h with h | ⟨k,c,rfl,g1,g2,g3⟩;exact .inl h;obtain⟨sp,r1,r2⟩:=g3.cells;obtain⟨i,i1,i2,i3⟩:=g3.mC;exact .inr ⟨k,c,rfl,g1,g2,⟨sp,(hq k rfl).trans r1,r2⟩,⟨i,i1,by omega,(hs i _ _ _ i3 i2).trans i3⟩,g3.lo,by have:=g3.hi;omega⟩
def GR.ic{el:TypeId}(h:GR O el sz B p n L):∀k,gid p=φ k->B<=k/\k<O.N/\∃cs,O.hp k=φ (.cells cs):=by
 intro k hk;rcases h with⟨_,_,rfl | rfl⟩ | ⟨k',c,rfl,_,_,hr⟩;cases hk;cases hk;injection hk with hk;subst hk;obtain⟨sp,r1,_⟩:=hr.cells;exact⟨hr.lo,hr.hi,_,r1⟩
def GR.u_{el:TypeId}{t:TypeId}(h:GR O el sz B p n L):u_ (φ ⟨.slice t,a,b,z⟩) p=φ (.v (Ι Κ n)):=by
 rcases h with⟨rfl,_,rfl | rfl⟩ | ⟨k,c,rfl,_,_,_⟩;rfl;rfl;rfl
def GR.pop{el:TypeId}{x:MV}(h:GR O el 1 B (.aS k 0 (n+1) c) (n+1) (L++[x]))(hL:Ζ L=n):GR O el 1 B (.aS k 0 n c) n L:=by
 rcases h with⟨h0,_⟩ | ⟨k',c',e,g1,g2,g3⟩;cases h0;injection e with e1 e2 e3 e4;subst e1;subst e4;obtain⟨sp,r1,r2⟩:=g3.cells;exact .inr ⟨_,_,rfl,by omega,by omega,⟨x::sp,by rw[r1];simp,by rw[<-r2];simp⟩,g3.mC,g3.lo,g3.hi⟩
def cR(f:Nat->Nat)(N:Nat):Η:=(Ν N).map λv=>mi (f v)
def nV(f:Nat->Bool)(N:Nat):Η:=(Ν N).map λv=>mb (f v)
def gZ(l:Τ):Η:=l.map λv:Nat=>mi v
def ef(f:Nat->Nat)(N:Nat):(cR f N).length=N:=by simp[cR]
def nK(f:Nat->Bool)(N:Nat):(nV f N).length=N:=by simp[nV]
def iK(f:Nat->Nat)(h:v<N):(cR f N)[v]?=φ (mi (f v)):=by
 unfold cR;rw[YI,alU h];rfl
def zL(f:Nat->Bool)(h:v<N):(nV f N)[v]?=φ (mb (f v)):=by
 unfold nV;rw[YI,alU h];rfl
def nL(f:Nat->Nat)(h:v<N):(cR f N).set v (mi x)=cR (dM f v x) N:=by
 refine aqf λi=>?_
 rw[aqr,ef];by_cases e:v=i;subst e;rw[if_pos rfl,if_pos h,iK _ h,ji];rw[if_neg e];by_cases hi:i<N;rw[iK _ hi,iK _ hi,j7 _ _ (Ne.symm e)];rw[akc (by rw[ef];omega),akc (by rw[ef];omega)]
def Fb(f:Nat->Bool){x:Bool}(h:v<N):(nV f N).set v (mb x)=nV (dM f v x) N:=by
 refine aqf λi=>?_
 rw[aqr,nK];by_cases e:v=i;subst e;rw[if_pos rfl,if_pos h,zL _ h,ji];rw[if_neg e];by_cases hi:i<N;rw[zL _ hi,zL _ hi,j7 _ _ (Ne.symm e)];rw[akc (by rw[nK];omega),akc (by rw[nK];omega)]
structure pj where
 f:Nat
 m:Nat
 l:Nat
 n:Nat
 i:Nat
 g:Nat
def pj.all(b:pj):Τ:=[b.f,b.m,b.l,b.n,b.i,b.g]
def m_(b:pj)(gv:MV)(N:Nat)(po pw:MV)(s:Fd):Η:=[gv,.aS b.m 0 N N,.aS b.l 0 N N,.aS b.n 0 N N,.aS b.i 0 N N,po,pw,mi s.bP,.aS b.g 0 N N,mi s.last]
structure FS(C:VH)(B:Nat)(b:pj)(gv:MV)(N:Nat)(po pw:MV)(s:Fd)(O:VH):Prop where
 ge:C.Ge O
 cell:O.hp b.f=φ (.cells (m_ b gv N po pw s))
 met:O.hp b.m=φ (.cells (cR s.met N))
 low:O.hp b.l=φ (.cells (cR s.low N))
 fY:O.hp b.n=φ (.cells (cR s.fY N))
 j6:O.hp b.i=φ (.cells (nV s.j6 N))
 ou:O.hp b.g=φ (.cells (cR s.ou N))
 go:GR O 3 1 B po (Ζ s.eT) (gZ s.eT.reverse)
 gw:GR O 3 1 B pw (Ζ s.dN) (gZ s.dN.reverse)
 ne:∀k,gid po=φ k->gid pw≠φ k
 nd:b.all.Nodup
 lo:∀k∈b.all,C.N<=k/\k<B
 hi:B<=O.N
def ay:=aga aD<|aga amq<|aga Qp amp
def Az{m:MV}(h:(∃k c,m= .aS k 0 n c/\(gid p=φ k\/(O.N<=k/\1≠0)))\/(1=0/\m=p/\O'=O)):∃k c,m= .aS k 0 n c:=by
 rcases h with⟨k,c,e,_⟩ | ⟨h,_⟩;exact⟨k,c,e⟩;cases h
def GR.mC{el:TypeId}(h:GR O el sz B p n L)(hu:bM O (gid p) O'):∀j k t n,O.hp j=φ (.shape k t n)->j<O.N->O'.hp j=O.hp j:=λj k t n hj hl=>hu.hp j hl (λe=>by obtain⟨_,_,cs,gV⟩:=h.ic j e;rw[gV]at hj;cases hj)
section
variable{O3 O4:VH}{B n n':Nat}{po pw m m2:MV}{L L' L2:Η}
def D9(hne:∀k,gid po=φ k->gid pw≠φ k)(h1:GR O3 3 1 B po n L)(h2:GR O3 3 1 B pw n' L')(hm:(∃k c,m= .aS k 0 (n+1) c/\(gid po=φ k\/(O3.N<=k/\1≠0)))\/(1=0/\m=po/\O4=O3)):∀k,gid m=φ k->gid pw≠φ k:=by
 intro k hk e;rcases hm with⟨k',c,rfl,h4⟩ | ⟨h4,_⟩;injection hk with hk;subst hk;rcases h4 with h4 | ⟨h4,_⟩;exact hne _ h4 e;have:=(h2.ic _ e).2.1;omega;cases h4
def OM(hne:∀k,gid po=φ k->gid pw≠φ k)(h1:GR O3 3 1 B po n L)(h2:GR O3 3 1 B pw n' L')(h3:GR O4 3 1 B m (n+1) L2)(hm:(∃k c,m= .aS k 0 (n+1) c/\(gid po=φ k\/(O3.N<=k/\1≠0)))\/(1=0/\m=po/\O4=O3))(rT:(∃k c,m2= .aS k 0 (n'+1) c/\(gid pw=φ k\/(O4.N<=k/\1≠0)))\/(1=0/\m2=pw/\O5=O4))(hn:O3.N<=O4.N):∀k,gid m=φ k->gid m2≠φ k:=by
 intro k hk e;rcases rT with⟨k',c,rfl,h4⟩ | ⟨h4,_⟩;injection e with e;subst e;rcases h4 with h4 | ⟨h4,_⟩;exact D9 hne h1 h2 hm _ hk h4;have:=(h3.ic _ hk).2.1;omega;cases h4
end
def ON{b:pj}{m m2:MV}{s:Fd}(h:FS C B b gv N po pw s O)(fc:O2.N=O.N)(hold:∀i,i≠b.f->i≠b.m->i≠b.l->i≠b.i->O2.hp i=O.hp i)(rT:O2.hp b.m=φ (.cells (cR (dM s.met v (s.bP+1)) N)))(ni:O2.hp b.l=φ (.cells (cR (dM s.low v (s.bP+1)) N)))(cG:O2.hp b.i=φ (.cells (nV (dM s.j6 v Α) N)))
  (h5:∀i,i<B->i≠b.f->O5.hp i=O2.hp i) (eJ:O2.N<=O5.N) (hx:∀k t n,O5.hp b.f≠φ (.shape k t n)) (go:GR O5 3 1 B m (Ζ s.eT+1) (gZ s.eT.reverse++[.v (Ι Κ v)])) (gw:GR O5 3 1 B m2 (Ζ s.dN+1) (gZ s.dN.reverse++[.v (Ι Κ v)])) (hne:∀k,gid m=φ k->gid m2≠φ k):FS C B b gv N m m2 (iU s v) (O5.set b.f (.cells (m_ b gv N m m2 (iU s v)))):=by
 have eN:=h.nd;have jn:=h.lo;simp only[pj.all,aqd,Th,aqx,or_false,not_or,aqC,and_true]at eN;simp only[pj.all,Th,aqx,or_false,forall_eq_or_imp,forall_eq]at jn;obtain⟨l1,l2,l3,l4,l5,l6⟩:=jn;have hB:=h.hi;have h6:∀i,i≠b.f->(O5.set b.f (.cells (m_ b gv N m m2 (iU s v)))).hp i=O5.hp i:=λi hi=>π _ _ hi
 have mS:∀{p:MV} {n:Nat} {L:Η},GR O5 3 1 B p n L->GR (O5.set b.f (.cells (m_ b gv N m m2 (iU s v)))) 3 1 B p n L:=λ{p n L} hg=>hg.fr (abx _) (λk hk=>by have:=(hg.ic k hk).1;exact h6 k (by omega)) (λj k t n hj _=>h6 j (λe=>hx _ _ _ (e▸hj)))
 have hr:∀l:Τ,gZ (v::l).reverse=gZ l.reverse++[mi v]:=λl=>by simp[gZ]
 have hC:∀i,i<C.N->(O5.set b.f (.cells (m_ b gv N m m2 (iU s v)))).hp i=C.hp i:=λi hi=>
  (h6 i (by omega)).trans ((h5 i (by omega) (by omega)).trans ((hold i (by omega) (by omega) (by omega) (by omega)).trans (h.ge.hp i hi)))
 have hk:∀i,i<B->i≠b.f->(O5.set b.f (.cells (m_ b gv N m m2 (iU s v)))).hp i=O2.hp i:=λi h1 h2=>(h6 i h2).trans (h5 i h1 h2)
 have hCn:=h.ge.N;refine⟨⟨by show C.N<=O5.N;omega,hC⟩,υ _ _ _,(hk _ l2.2 (by omega)).trans rT,(hk _ l3.2 (by omega)).trans ni,(hk _ l4.2 (by omega)).trans ((hold _ (by omega) (by omega) (by omega) (by omega)).trans h.fY),(hk _ l5.2 (by omega)).trans cG,(hk _ l6.2 (by omega)).trans ((hold _ (by omega) (by omega) (by omega) (by omega)).trans h.ou),?_,?_,hne,h.nd,h.lo,by show B<=O5.N;omega⟩;show GR _ _ _ _ _ (v::s.eT).length (gZ (v::s.eT).reverse);rw[hr];exact mS go;show GR _ _ _ _ _ (v::s.dN).length (gZ (v::s.dN).reverse);rw[hr];exact mS gw
def Ta{b:pj}{s:Fd}(h:FS C B b gv N po pw s O)(hv:v<N)(hN:N<=1000000)(hc:s.bP<=N)(ho:Ζ s.eT<=N)(hw:Ζ s.dN<=N):
  VF Ε 82 [.p b.f 0,mi v] O (aH λ_ O'=>∃Jv Jw,FS C B b gv N Jv Jw (iU s v) O'):=by
 have cj:=h.cell;have eN:=h.nd;have We:((s.bP:Int)+1)=((s.bP+1:Nat):Int):=by omega
 unfold m_ at cj;simp only[pj.all,aqd,Th,aqx,or_false,not_or,aqC,and_true]at eN;refine ω 57 [] func82 ?_;refine θ (aE ay cj We ?_);refine VC.gen ?_;intro O1 e1;have D5:O1.hp b.f=φ (.cells (m_ b gv N po pw {s with bP:=s.bP+1})):=by rw[e1];exact υ _ _ _
 have gh:∀i,i≠b.f->O1.hp i=O.hp i:=λi hi=>by rw[e1];exact π _ _ hi
 have dd:O1.N=O.N:=by rw[e1];rfl
 clear e1 cj;unfold m_ at D5;simp only[aq]at D5;have ET:=(gh b.m (Ne.symm eN.1.1)).trans h.met;have ph:=(gh b.l (Ne.symm eN.1.2.1)).trans h.low;have cC:=(gh b.i (Ne.symm eN.1.2.2.2.1)).trans h.j6;have qE:(cR s.met N).set v (.v (Ι Κ ((s.bP+1:Nat):Int)))=cR (dM s.met v (s.bP+1)) N:=nL _ hv;have wh:(cR s.low N).set v (.v (Ι Κ ((s.bP+1:Nat):Int)))=cR (dM s.low v (s.bP+1)) N:=nL _ hv;have EL:(nV s.j6 N).set v (.v (.bool Α))=nV (dM s.j6 v Α) N:=Fb _ hv;have uU:=ef s.met N;have n_:=ef s.low N;have Ee:=nK s.j6 N;refine Γ ?_;refine VC.pI [5,6,7,9,10,11,12,14,19,20,21,23,24,25,26,27,28] (b.f) (D5) ?_;intro X;refine aqL 5 ?_;refine ae ay ?_;refine aqL 6 ?_;refine ae ay ?_;refine aqL 7 ?_;refine ae ay ?_;refine aqL 9 ?_;refine ae ay ?_;refine aqL 10 ?_;refine ae ay ?_;refine aqL 11 ?_;refine ae ay ?_;refine aqL 12 ?_;refine ae ay ?_;refine aqL 14 ?_;refine ae ay ?_;refine aqL 19 ?_;refine ae ay ?_;refine aqL 20 ?_;refine ae ay ?_;refine aqL 21 ?_;refine ae ay ?_;refine ρ 0 ay ?_;refine ρ 1 ay ?_;refine ρ 2 ay ?_;refine δ (m:=.aS b.m 0 N N) 3 ?_ ?_;exact ff ay;simp only[ak];refine ρ 4 ay ?_;refine δ (m:=.aS b.l 0 N N) 8 ?_ ?_;exact ff ay;simp only[ak];refine δ (m:=.aS b.i 0 N N) 13 ?_ ?_;exact ff ay;simp only[ak];refine ρ 15 ay ?_;refine ρ 16 ay ?_;refine ρ 17 ay ?_;refine δ (m:=.v (Ι Κ ((s.bP+1:Nat):Int))) 18 ?_ ?_;exact ff ay;simp only[ak];refine δ (m:=.v (Ι Κ ((s.bP+1:Nat):Int))) 22 ?_ ?_;exact ff ay;simp only[ak];refine aqQ [(23,.bh),(24,.one),(25,.bh),(26,.one),(27,.bh),(28,.one)] ?_;rw[VH.vk O1 b.f D5];refine wc ay ET ph cC (aga qE (aga wh EL)) (aga uU (aga n_ Ee)) ?_;refine VC.gen ?_;intro O2 e2;have fc:O2.N=O.N:=by rw[e2];exact dd
 have cn:∀i,i≠b.m->i≠b.l->i≠b.i->O2.hp i=O1.hp i:=λi h1 h2 h3=>by rw[e2];exact(π _ _ h3).trans ((π _ _ h2).trans (π _ _ h1))
 have rT:O2.hp b.m=φ (.cells (cR (dM s.met v (s.bP+1)) N)):=by rw[e2];exact(π _ _ eN.2.1.2.2.1).trans ((π _ _ eN.2.1.1).trans (υ _ _ _))
 have ni:O2.hp b.l=φ (.cells (cR (dM s.low v (s.bP+1)) N)):=by rw[e2];exact(π _ _ eN.2.2.1.2.1).trans (υ _ _ _)
 have cG:O2.hp b.i=φ (.cells (nV (dM s.j6 v Α) N)):=by rw[e2];exact υ _ _ _
 clear e2 ph cC ET qE wh EL uU n_ Ee;have jI:=(cn b.f eN.1.1 eN.1.2.1 eN.1.2.2.2.1).trans D5;have jn:∀k∈b.all,k<B:=λk hk=>(h.lo k hk).2
 simp only[pj.all,Th,aqx,or_false,forall_eq_or_imp,forall_eq]at jn;have hold:∀i,i≠b.f->i≠b.m->i≠b.l->i≠b.i->O2.hp i=O.hp i:=λi h0 h1 h2 h3=>(cn i h1 h2 h3).trans (gh i h0)
 have mS:∀{p:MV} {n:Nat} {L:Η},GR O 3 1 B p n L->GR O2 3 1 B p n L:=λ{p n L} hg=>hg.fr (by omega) (λk hk=>by have:=(hg.ic k hk).1;exact hold k (by omega) (by omega) (by omega) (by omega)) (λj k t n hj _=>hold j (λe=>by rw[e,h.cell]at hj;cases hj) (λe=>by rw[e,h.met]at hj;cases hj) (λe=>by rw[e,h.low]at hj;cases hj) (λe=>by rw[e,h.j6]at hj;cases hj))
 have nv:=mS h.go;have xI:=mS h.gw;clear mS;refine VC.pI [1,9,10,11,13,16,17,18,19,20,21] (b.f) (jI) ?_;intro X;refine aqL 1 ?_;refine ae ay ?_;refine aqL 9 ?_;refine ae ay ?_;refine aqL 10 ?_;refine ae ay ?_;refine aqL 11 ?_;refine ae ay ?_;refine aqL 13 ?_;refine ae ay ?_;refine ρ 0 ay ?_;refine ρ 2 ay ?_;refine ρ 3 ay ?_;refine ρ 4 ay ?_;refine δ (m:=po) 5 ?_ ?_;exact ff ay;simp only[ak];refine ρ 6 ay ?_;refine δ (m:=pw) 12 ?_ ?_;exact ff ay;simp only[ak];have qU:(O2.set b.f (.obj X)).hp b.f=φ (.obj X):=υ _ _ _;have vz:∀i,i≠b.f->(O2.set b.f (.obj X)).hp i=O2.hp i:=λi hi=>π _ _ hi
 have ij:(O2.set b.f (.obj X)).N=O2.N:=rfl;have mS:∀{p:MV} {n:Nat} {L:Η},GR O2 3 1 B p n L->GR (O2.set b.f (.obj X)) 3 1 B p n L:=λ{p n L} hg=>hg.fr (abx _) (λk hk=>by have:=(hg.ic k hk).1;exact vz k (by omega)) (λj k t n hj _=>vz j (λe=>by rw[e,jI]at hj;cases hj))
 have tG:=mS nv;have xm:=mS xI;have hB:=h.hi;clear mS nv xI;generalize O2.set b.f (.obj X)=O3 at*;refine aqJ (i:=7) (j:=14) ?_ ?_;refine aI.o1 ?_;refine ae ay ?_;refine⟨qU,?_⟩;refine aqJ (i:=8) (j:=14) ?_ ?_;refine aI.st (wA aa (te:=⟨_,1,8,_⟩) (q:=.l 1 [.v (Ι Κ v)] .full) (j:=1) (ds:=[.v (Ι Κ v)]) (dx:=.slice 3) tG rfl rfl (by rw[fZ];rfl) T3 (by rw[fZ];rfl) trivial (by dsimp only;omega) (by simp only[maxLen];omega) (by omega) rfl rfl) ?_;rintro m O4 ⟨aT,eK, -,sf⟩;obtain⟨k4,c4,rfl⟩:=Az sf;have fT:=eK.N;((((have gE:∀i,i<B->O4.hp i=O3.hp i:=λi hi=>eK.hp i (by omega) (λe=>by have:=(tG.ic i e).1;omega));have zM:=xm.fr fT (λk hk=>eK.hp k (xm.ic k hk).2.1 (λe=>h.ne k e hk)) (tG.mC eK);refine⟨(gE _ jn.1).trans qU,?_⟩;refine ab.op (i:=14) ?_;refine ae ay ?_;refine⟨(gE _ jn.1).trans qU,?_⟩;refine ab.st (i:=15) (wA aa (te:=⟨_,1,8,_⟩) (q:=.l 1 [.v (Ι Κ v)] .full) (j:=1) (ds:=[.v (Ι Κ v)]) (dx:=.slice 3) zM rfl rfl (by rw[fZ];rfl) T3 (by rw[fZ];rfl) trivial (by dsimp only;omega) (by simp only[maxLen];omega) (by omega) rfl rfl) ?_;rintro m2 O5 ⟨bO,lX, -,ra⟩;obtain⟨k5,c5,rfl⟩:=Az ra;have eJ:=lX.N;have dS:∀i,i<B->O5.hp i=O4.hp i:=λi hi=>lX.hp i (by omega) (λe=>by have:=(zM.ic i e).1;omega));have hne:=OM (λk e e'=>h.ne k e e') tG xm aT sf ra fT;have Tb:=aT.fr eJ (λk hk=>lX.hp k (aT.ic k hk).2.1 (λe=>(D9 (λk e e'=>h.ne k e e') tG xm sf k hk e))) (zM.mC lX);refine⟨(dS _ jn.1).trans ((gE _ jn.1).trans qU),?_⟩;refine aqQ [(16,.bh),(17,.bh),(18,.one),(19,.bh),(20,.bh),(21,.one)] ?_;refine ae ay ?_;rw[aqR,aqR];exact⟨_,_,ON h fc hold rT ni cG (λi h1 h2=>(dS i h1).trans ((gE i h1).trans (vz i h2))) (by omega) (λk t n e=>by rw[(dS _ jn.1).trans ((gE _ jn.1).trans qU)]at e;cases e) Tb bO hne⟩);refine aI.o1 ?_;refine ae ay ?_;refine⟨qU,?_⟩;refine ab.st (i:=8) (wA aa (te:=⟨_,1,8,_⟩) (q:=.l 1 [.v (Ι Κ v)] .full) (j:=1) (ds:=[.v (Ι Κ v)]) (dx:=.slice 3) tG rfl rfl (by rw[fZ];rfl) T3 (by rw[fZ];rfl) trivial (by dsimp only;omega) (by simp only[maxLen];omega) (by omega) rfl rfl) ?_;rintro m O4 ⟨aT,eK, -,sf⟩;obtain⟨k4,c4,rfl⟩:=Az sf;have fT:=eK.N;((have gE:∀i,i<B->O4.hp i=O3.hp i:=λi hi=>eK.hp i (by omega) (λe=>by have:=(tG.ic i e).1;omega));have zM:=xm.fr fT (λk hk=>eK.hp k (xm.ic k hk).2.1 (λe=>h.ne k e hk)) (tG.mC eK);refine⟨(gE _ jn.1).trans qU,?_⟩;refine ab.st (i:=15) (wA aa (te:=⟨_,1,8,_⟩) (q:=.l 1 [.v (Ι Κ v)] .full) (j:=1) (ds:=[.v (Ι Κ v)]) (dx:=.slice 3) zM rfl rfl (by rw[fZ];rfl) T3 (by rw[fZ];rfl) trivial (by dsimp only;omega) (by simp only[maxLen];omega) (by omega) rfl rfl) ?_;rintro m2 O5 ⟨bO,lX, -,ra⟩;obtain⟨k5,c5,rfl⟩:=Az ra;have eJ:=lX.N;have dS:∀i,i<B->O5.hp i=O4.hp i:=λi hi=>lX.hp i (by omega) (λe=>by have:=(zM.ic i e).1;omega));have hne:=OM (λk e e'=>h.ne k e e') tG xm aT sf ra fT;have Tb:=aT.fr eJ (λk hk=>lX.hp k (aT.ic k hk).2.1 (λe=>(D9 (λk e e'=>h.ne k e e') tG xm sf k hk e))) (zM.mC lX);refine⟨(dS _ jn.1).trans ((gE _ jn.1).trans qU),?_⟩;refine aqQ [(16,.bh),(17,.bh),(18,.one),(19,.bh),(20,.bh),(21,.one)] ?_;refine ae ay ?_;rw[aqR,aqR];exact⟨_,_,ON h fc hold rT ni cG (λi h1 h2=>(dS i h1).trans ((gE i h1).trans (vz i h2))) (by omega) (λk t n e=>by rw[(dS _ jn.1).trans ((gE _ jn.1).trans qU)]at e;cases e) Tb bO hne⟩);refine aI.o1 ?_;refine ae ay ?_;refine⟨qU,?_⟩;refine ab.op (i:=7) ?_;refine ae ay ?_;refine⟨qU,?_⟩;refine ab.st (i:=8) (wA aa (te:=⟨_,1,8,_⟩) (q:=.l 1 [.v (Ι Κ v)] .full) (j:=1) (ds:=[.v (Ι Κ v)]) (dx:=.slice 3) tG rfl rfl (by rw[fZ];rfl) T3 (by rw[fZ];rfl) trivial (by dsimp only;omega) (by simp only[maxLen];omega) (by omega) rfl rfl) ?_;rintro m O4 ⟨aT,eK, -,sf⟩;obtain⟨k4,c4,rfl⟩:=Az sf;have fT:=eK.N;((have gE:∀i,i<B->O4.hp i=O3.hp i:=λi hi=>eK.hp i (by omega) (λe=>by have:=(tG.ic i e).1;omega));have zM:=xm.fr fT (λk hk=>eK.hp k (xm.ic k hk).2.1 (λe=>h.ne k e hk)) (tG.mC eK);refine⟨(gE _ jn.1).trans qU,?_⟩;refine ab.st (i:=15) (wA aa (te:=⟨_,1,8,_⟩) (q:=.l 1 [.v (Ι Κ v)] .full) (j:=1) (ds:=[.v (Ι Κ v)]) (dx:=.slice 3) zM rfl rfl (by rw[fZ];rfl) T3 (by rw[fZ];rfl) trivial (by dsimp only;omega) (by simp only[maxLen];omega) (by omega) rfl rfl) ?_;rintro m2 O5 ⟨bO,lX, -,ra⟩;obtain⟨k5,c5,rfl⟩:=Az ra;have eJ:=lX.N;have dS:∀i,i<B->O5.hp i=O4.hp i:=λi hi=>lX.hp i (by omega) (λe=>by have:=(zM.ic i e).1;omega));have hne:=OM (λk e e'=>h.ne k e e') tG xm aT sf ra fT;have Tb:=aT.fr eJ (λk hk=>lX.hp k (aT.ic k hk).2.1 (λe=>(D9 (λk e e'=>h.ne k e e') tG xm sf k hk e))) (zM.mC lX);refine⟨(dS _ jn.1).trans ((gE _ jn.1).trans qU),?_⟩;refine aqQ [(16,.bh),(17,.bh),(18,.one),(19,.bh),(20,.bh),(21,.one)] ?_;refine ae ay ?_;rw[aqR,aqR];exact⟨_,_,ON h fc hold rT ni cG (λi h1 h2=>(dS i h1).trans ((gE i h1).trans (vz i h2))) (by omega) (λk t n e=>by rw[(dS _ jn.1).trans ((gE _ jn.1).trans qU)]at e;cases e) Tb bO hne⟩
end Go.Proofs.YtjpadehgejlebaaGreatDoor
