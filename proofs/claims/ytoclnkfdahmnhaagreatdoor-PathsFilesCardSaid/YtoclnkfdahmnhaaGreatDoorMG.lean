import Derived.Test.YtoclnkfdahmnhaaGreatDoorMF
import Derived.Shelf.Strings.Replace
import Derived.Shelf.Strings.Repeat
import Derived.Test.YtoclnkfdahmnhaaGreatDoorProg
set_option linter.unusedVariables false
set_option linter.unusedSimpArgs false
namespace Go.Proofs.YtoclnkfdahmnhaaGreatDoor
open Go.RowKit
set_option maxRecDepth 10000
theorem WK (vb:Nat) (k:Ky) (O:VH):VF Tryz.prog 33 [.ptr vb 0,.agg (fQ k)] O (aD fun m O'=>m= .func (.func 52) [] [.ptr O.next 0,.ptr (O.next+1) 0]/\O'=(O.push (.cells [.ptr vb 0])).push (.cells (fQ k))):=by
 obtain⟨k1,k2,k3,k4⟩:=k;simp only[fQ];refine VF.bO 6 [.tmp 4] Tryz.func33 ?_;refine VC.ag aa (ae @bM ?_);refine WC.sound aa (ae @bM ?_);try trivial
set_option maxHeartbeats 4000000 in
theorem Q6 (L:List Bn) (tk:Tok) (V:List Bool) (hL:L.length<=1000000) (hV:V.length=L.length) (k:Ky) (y b1 b2 vb lb cb mp:Nat) (J:Nat->VH->Prop) (hJ:∀j A B,J j A->A.Ge B->J j B)
  (hd:∀j A,J j A->(b1<A.next/\b2<A.next/\vb<A.next/\lb<A.next)/\A.hp b1=some (.cells [.ptr vb 0])/\A.hp b2=some (.cells (fQ k))/\A.hp vb=some (.cells [.sl L.length (L.flatMap jR) tk,.bp lb 0 L.length L.length,.bp cb 0 L.length L.length,.map mp])/\A.hp lb=some (.cells (V.map mb)))
  (hs:∀j (h:j<L.length),(V.getD j false&&qo L[j].k k)=false->∀A,J j A->J (j+1) A)
  (hy:∀j (h:j<L.length),(V.getD j false&&qo L[j].k k)=true->∀A,J j A->VY Tryz.prog y [.agg (jR L[j])] A fun m O'=>m=mb true/\J (j+1) O') (O:VH) (h0:J 0 O):
  VF Tryz.prog 52 [.func (.yield y) [] [],.ptr b1 0,.ptr b2 0] O (aD fun _ O'=>J L.length O'):=by
 obtain⟨k1,k2,k3,k4⟩:=k;simp only[fQ]at hd;have hlen:=aT lQ L;have jk:jJ (fF Tryz.prog) 22 (.sl L.length (L.flatMap jR) tk)=some (.v (.int .i64 L.length)):=iS Iz;have iR:(V.map mb).length=L.length:=by simp[hV]
 have hgB:∀u,u<L.length->(V.map mb)[u]?=some (.v (.bool (V.getD u false))):=fun u hu=>by
  rw[List.getElem?_map,List.getD_eq_getElem?_getD,List.getElem?_eq_getElem (by omega)];rfl
 obtain⟨_,ha0,rM,Cf,ze⟩:=hd 0 O h0;refine VF.bO 36 [] Tryz.func52 ?_;refine VC.ag aa (de @bM @ha0 @Cf @jk ?_);refine VC.aB ?_;refine VC.bP [11] [0,1,2,9,10] (fun j:Nat=>[mi j]) (fun j O'=>j<=L.length/\J j O') (fun j=>L.length - j) (0) ?_ ?_
 ·exact⟨Nat.zero_le _,h0⟩
 clear ha0 rM Cf ze;rintro j O3 ⟨hj,CC⟩;by_cases aX:j<L.length;rotate_left
 ·obtain rfl:j=L.length:=by omega
  refine WC.sound aa (ae @bM ?_);exact CC
 have dd:((j:Int)+1)=((j+1:Nat):Int):=by omega
 have bA:=cg lQ L j aX;have hgv:=hgB j aX;have hsj:=hs j aX;have hyj:=hy j aX;generalize L[j]=b at*;obtain⟨up,dp,od,⟨q1,q2,q3,q4⟩,v,hdd,rv,nn,iv,Jt,s,rd⟩:=b;simp only[jR,ar,a_]at bA hyj;dsimp only at hsj hyj;generalize V.getD j false=vj at*;refine VC.ag aa (ae @bM ?_);refine VC.ag aa (ae @bM ?_);refine VC.bC (VC.aB ?_);refine VC.ag aa (ao @bM @bA ?_);refine VC.al ?_;rintro O4 ⟨bg,gy,gM⟩;have hJ4:=hJ j O3 O4 CC bg;obtain⟨⟨akv,ajh,aeR,aiJ⟩,kG,cQ,Am,n7⟩:=hd j O4 hJ4;cases vj
 ·have hJ5:=hsj (by rw[Bool.false_and]) O4 hJ4;refine VC.ag aa (La @bM @kG @Am @n7 @iR @hgv ?_);refine WC.sound aa (ae @bM ?_);refine WC.sound aa (ao @bM @dd ?_);exact az.next (j+1) ⟨aX,hJ5⟩
 rw[Bool.true_and]at hsj hyj;have hE:Ku Tryz.prog (fF Tryz.prog) 9 30 (.agg [.str q1,.str q2,.str q3,.str q4]) (.agg [.str k1,.str k2,.str k3,.str k4])=some (qo ⟨q1,q2,q3,q4⟩ ⟨k1,k2,k3,k4⟩):=by kernel_rfl
 generalize qo ⟨q1,q2,q3,q4⟩ ⟨k1,k2,k3,k4⟩=ek at*;cases ek
 ·have hJ5:=hsj rfl O4 hJ4;refine VC.ag aa (UK @bM @kG @Am @n7 @iR @hgv @gy @cQ ?_);refine VL.DK aa (bb:=false) (b:=false) (by simp) (by simp[iU]) (.inl ⟨rfl,rfl⟩) hE (by kernel_rfl) rfl rfl rfl rfl ?_;refine ae @bM ?_;refine WC.sound aa (ae @bM ?_);refine WC.sound aa (ao @bM @dd ?_);exact az.next (j+1) ⟨aX,hJ5⟩
 refine VC.bC ?_;refine VC.yield 16 rfl rfl rfl ?_;simp only[List.take_succ_cons,List.take_zero,List.map_cons,List.map_nil,List.drop_succ_cons,List.drop_zero];refine UK @bM @kG @Am @n7 @iR @hgv @gy @cQ ?_;refine VL.DK aa (bb:=true) (b:=true) (by simp) (by simp[iU]) (.inl ⟨rfl,rfl⟩) hE (by kernel_rfl) rfl rfl rfl rfl ?_;refine ao @bM @gy ?_;refine YW.mk (hyj rfl O4 hJ4) ?_;rintro _ O5 ⟨rfl,hJ5⟩;refine ae @bM ?_;refine WC.sound aa (ae @bM ?_);refine WC.sound aa (ao @bM @dd ?_);exact az.next (j+1) ⟨aX,hJ5⟩
theorem JF {j:Nat} {js:List Nat} {N:Nat} (h:js.Nodup) (hl:∀i∈js,i<N) (hj:N<=j):(j::js).Nodup:=List.nodup_cons.2 ⟨fun hm=>by have:=hl j hm;omega,h⟩
def JG (O O':VH) (js:List Nat):Prop:=js.Nodup/\∀j∈js,O.next<=j/\j<O'.next/\O'.hp j=some (.obj (.deferred (some [])))
theorem JG.ge {O A B:VH} {js:List Nat} (h:JG O A js) (hg:A.Ge B):JG O B js:=⟨h.1,fun j hj=>by
 obtain⟨h1,h2,h3⟩:=h.2 j hj;exact⟨h1,Nat.lt_of_lt_of_le h2 hg.next,hg.at h3⟩⟩
theorem GR.eo {O7 O6 O1:VH} {el:TypeId} {sz B n:Nat} {p:MV} {X:List MV} (h:GR O7 el sz B p n X) (hg:O1.Ge O7) (hB:O1.next<=B) (u:bq O7 (gid p) O6):O1.Ge O6:=by
 rcases h with⟨_,_,rfl | rfl⟩ | ⟨k,c,rfl,_,_,hr⟩
 ·exact bq.geN hg u
 ·exact bq.geN hg u
 ·exact bq.ge hg u (Nat.le_trans hB hr.lo)
theorem JG.br {O A B:VH} {js:List Nat} {el:TypeId} {sz b n:Nat} {p:MV} {X:List MV} (h:JG O A js) (hr:GR A el sz b p n X) (u:bq A (gid p) B):JG O B js:=⟨h.1,fun j hj=>by
 obtain⟨h1,h2,h3⟩:=h.2 j hj;refine⟨h1,Nat.lt_of_lt_of_le h2 u.next,(u.hp j h2 fun e=>?_).trans h3⟩;rcases hr with⟨_,_,rfl | rfl⟩ | ⟨k,c,rfl,_,_,hr⟩
 ·cases e
 ·cases e
 ·injection e with e;subst e;obtain⟨sp,h4,_⟩:=hr.cells;rw[h3]at h4;cases h4⟩
theorem GR.marks {A B:VH} {js:List Nat} {el:TypeId} {sz b n:Nat} {p:MV} {X:List MV} (hr:GR A el sz b p n X) (hn:B.next=A.next) (hi:∀i,i ∉ js->B.hp i=A.hp i) (hj:∀j∈js,A.hp j=some (.obj (.deferred (some [])))):GR B el sz b p n X:=by
 rcases hr with h | ⟨k,c,rfl,h1,h2,⟨sp,h3,h4⟩,⟨j,h5,h6,h7⟩,h8,h9⟩
 ·exact .inl h
 ·exact .inr ⟨k,c,rfl,h1,h2,⟨sp,(hi k fun h=>by rw[hj k h]at h3;cases h3).trans h3,h4⟩,⟨j,h5,by rw[hn];exact h6,(hi j fun h=>by rw[hj j h]at h7;cases h7).trans h7⟩,h8,by rw[hn];exact h9⟩
theorem VF.WM {P:Program} {f:FuncId} {args:List MV} {O:VH} {Φ Φ':MV->VH->Prop} (h:VF P f args O (aD Φ)) (hf:∀m O', Φ m O'-> Φ' m O'\/∃k o n c sz cs,m= .bp k o n c/\O'.hp k=some (.cells cs)/\o+sz<=cs.length/\ Φ' (.sl n ((cs.drop o).take sz) (if c=n then .full else .aq)) (O'.kill k)):VF P f args O (aD Φ'):=by
 intro G w vs hw hv;refine(h G w vs hw hv).mono fun x w' ⟨r,O',H,h1,h2,h3,h4⟩=>?_
 cases r with
 | panic m=>exact h4.elim
 | ret m=>
   cases x with
   | panicked c=>exact h3.elim
   | outgrown=>exact h3.elim
   | returned v=>
     rcases hf m O' h4 with g | ⟨k,o,n,c,sz,cs,rfl,g1,g2,g3⟩
     ·exact⟨.ret _,O',H,h1,h2,h3,g⟩
     ·obtain⟨H',e1,e2,e3⟩:=h2.freeze g1 h3 g2;exact⟨.ret _,_,H',h1.trans e1,e2,e3,g3⟩
theorem GR.wider {O:VH} {el:TypeId} {sz B B' n:Nat} {p:MV} {X:List MV} (h:GR O el sz B p n X) (hB:B'<=B):GR O el sz B' p n X:=by
 rcases h with h | ⟨k,c,h1,h2,h3,h4⟩
 ·exact .inl h
 ·exact .inr ⟨k,c,h1,h2,h3,h4.wider hB⟩
theorem abB (b:Bn) (M:List (Bn×Bool)) (h:¬b.dp>1):xw b M=b.s:=by
 have:∀(M:List (Bn×Bool)) (s:Int),M.foldl (fun s p=>if decide (b.dp>1)&&(p.2&&qo p.1.k b.k)then Ao s p.1.s else s) s=s:=by
  intro M;induction M with
  | nil=>intro s;rfl
  | cons p M ih=>intro s;rw[List.foldl_cons,decide_eq_false h,Bool.false_and,if_neg (by decide)];simpa[h]using ih s
 exact this M b.s
theorem j7.al {P:Program} {n:Sz} {js:List Nat} {c:Code} {M:Gf} {e:Env} {O:VH} {z cs:List MV} (h:∀O3,pF O cs O3->VM P n js c e O3 M):j7 P n js c M e ((O.push (.cells z)).set O.next (.cells cs)):=h _ pF.al
theorem RdA.al {P:Program} {n:Sz} {y k:Nat} {r:Loop} {R:MV->VH->Prop} {body:Code} {e:Env} {O:VH} {z cs:List MV} (h:∀O3,pF O cs O3->RdA P n y k r body R .normal e O3):RdA P n y k r body R .normal e ((O.push (.cells z)).set O.next (.cells cs)):=h _ pF.al
set_option maxHeartbeats 8000000 in
theorem WN (L:List Bn) (tk:Tok) (O:VH) (hL:L.length<=1000000) (hk:∀b∈L,∀s∈dW b.k,s.length<=maxLen):VF Tryz.prog 13 [.sl L.length (L.flatMap jR) tk] O (aD fun m O'=>O.Ge O'/\GR O' 39 7 O.next m (qc L).length ((qc L).flatMap qb)):=by
 have hlen:=aT lQ L;have jk:jJ (fF Tryz.prog) 22 (.sl L.length (L.flatMap jR) tk)=some (.v (.int .i64 L.length)):=iS Iz;have lW:=Bj L;have hde:=HK L tk hL hk O;unfold qc;refine VF.inM 53 [.tmp 2] Tryz.func13 ?_;simp only[cw,Nat.zero_add,Nat.reduceAdd];refine VM.qL fun D=>?_
 refine ae @bM ?_;refine j7.mk ?_;refine VM.qL fun D=>?_
 refine ae @bM ?_;refine ah.rt hde ?_;clear hde;rintro _ O1 ⟨vb,lb,cb,mp,rfl,hvd⟩;generalize kj L=DD at*;obtain⟨C,V,K⟩:=DD;dsimp only at lW hvd ⊢;clear K;obtain⟨aM,oP,p9,fN,wN,hhi⟩:=hvd;have D3:(C.map mb).length=L.length:=by simp[lW.1]
 have hgB:∀(W:List Bool),W.length=L.length->∀u,u<L.length->(W.map mb)[u]?=some (.v (.bool (W.getD u false))):=fun W h u hu=>by
  rw[List.getElem?_map,List.getD_eq_getElem?_getD,List.getElem?_eq_getElem (by omega)];rfl
 refine ae @bM ?_;refine j7.mk ?_;refine VM.join [2] (fun p:MV=>[p]) (fun p O' js=>O.Ge O'/\GR O' 39 7 O.next p (E6 L C V L.length).length ((E6 L C V L.length).flatMap qb)/\JG O O' js) ?_ ?_
 ·refine VM.qL fun D=>?_
  refine ao @bM @jk ?_;refine j7.mk ?_;refine VM.block ?_;refine VM.loop [2,12] [3,10,11] (fun x:Nat×MV=>[x.2,mi x.1]) (fun x O' js=>x.1<=L.length/\O1.Ge O'/\GR O' 39 7 O1.next x.2 (E6 L C V x.1).length ((E6 L C V x.1).flatMap qb)/\JG O O' js) (fun x=>L.length - x.1) (0,.sl 0 [] .nil) ?_ ?_
  ·exact⟨Nat.zero_le _,VH.Ge.refl _,.inl ⟨rfl,rfl,.inl rfl⟩,List.nodup_nil,fun j hj=>by cases hj⟩
  rintro⟨j,t1⟩ O3 js ⟨hj,aJ,cS,lP⟩;dsimp only at hj cS;by_cases aX:j<L.length;rotate_left
  ·obtain rfl:j=L.length:=by omega
   refine VM.qL fun D=>?_
   refine ae @bM ?_;refine j7.mk ?_;refine VM.qL fun D=>?_
   refine ae @bM ?_;exact HQ.ex ⟨t1,rfl,aM.trans aJ,cS.wider aM.next,lP⟩
  have dd:((j:Int)+1)=((j+1:Nat):Int):=by omega
  have bA:=cg lQ L j aX;have ic:E6 L C V (j+1)=E6 L C V j++if C.getD j false then[⟨L[j].k,j,L[j].v,xw L[j] (L.zip V)⟩]else[]:=by rw[E6,List.getElem?_eq_getElem aX]
  obtain⟨g,kU,hgs,sG⟩:=QW L[j] L V lW.2;generalize L[j]=b at*;obtain⟨up,dp,od,⟨k1,k2,k3,k4⟩,v,hd,rv,nn,iv,Jt,s,rd⟩:=b;simp only[jR,ar,a_]at bA;dsimp only at kU hgs ic;have QV:=hgB C lW.1 j aX;have mO:=Nb L C V j;have hv3:=aJ.at oP;have eE:=aJ.at fN;have lN:=aJ.at p9;have n3:=aJ.next;have n1:=aM.next;refine VM.qL fun D=>?_
  refine ae @bM ?_;refine j7.mk ?_;refine VM.qL fun D=>?_
  refine ae @bM ?_;refine j7.mk ?_;refine VM.seq (VM.block ?_);refine VM.qL fun D=>?_
  refine ao @bM @bA ?_;refine j7.al ?_;rintro O4 ⟨bg,gy,gM⟩;have Am:=bg.at hv3;have eX:=bg.at eE;have n7:=bg.at lN;cases hc:C.getD j false
  ·rw[hc]at QV ic;rw[if_neg (by decide),List.append_nil]at ic;refine VM.qL fun D=>?_
   refine gW @bM @Am @eX @D3 @QV ?_;refine HQ.ex (VM.FO fun D=>?_);refine WC.sound aa (ao @bM @dd ?_);exact⟨rfl,(j+1,t1),rfl,⟨aX,aJ.trans bg,by rw[ic];exact cS.xP (bq.lI bg),lP.ge bg⟩,by dsimp only;omega⟩
  rw[hc]at QV ic;rw[if_pos rfl]at ic;refine VM.qL fun D=>?_
  refine gW @bM @Am @eX @D3 @QV ?_;refine j7.mk ?_;refine VM.qL fun D=>?_
  refine ao @bM @gy ?_;refine j7.al ?_;rintro O5 ⟨bW,mI,gu⟩;have cV:=bW.at gy;have oD:=bW.at Am;have F_:=bW.at n7;have SP:=lP.ge (bg.trans bW);refine VM.join [2,3,6,10,11,12] (fun _:Unit=>[t1,.ptr vb 0,.ptr O4.next 0,.sl L.length (L.flatMap jR) tk,.v (.int .i64 L.length),.v (.int .i64 j)]) (fun _ O' vK=>O4.Ge O'/\O4.next<O'.next/\O'.hp O4.next=some (.cells [.str k1,.str k2,.str k3,.str k4,.v (.int .i64 j),.str v,.v (.int .i64 (xw ⟨up,dp,od,⟨k1,k2,k3,k4⟩,v,hd,rv,nn,iv,Jt,s,rd⟩ (L.zip V)))])/\JG O O' vK) ?_ ?_
  ·by_cases h2:dp>1;rotate_left
   ·have e1:decide (dp>=2)=false:=decide_eq_false (by omega);have e2:decide (2<=dp)=false:=e1;refine VM.FO fun D=>?_
    refine WC.sound aa (de @bM @cV @e1 @e2 ?_);exact⟨(),rfl,bW,by omega,by rw[abB _ _ h2];exact mI,SP⟩
   have e1:decide (dp>=2)=true:=decide_eq_true (by omega);have e2:decide (2<=dp)=true:=e1;have e3:decide (dp>1)=true:=decide_eq_true h2;simp only[e3,Bool.true_and]at hgs;refine VM.qL fun D=>?_
   refine de @bM @cV @e1 @e2 ?_;refine j7.mk ?_;refine VM.cond (t:=true) rfl ?_;rw[if_pos rfl];have abC:=WK vb ⟨k1,k2,k3,k4⟩ O5;simp only[fQ]at abC;refine VM.qL fun D=>?_
   refine ao @bM @cV ?_;refine ah.rt abC ?_;clear abC;rintro _ O6 ⟨rfl,e6⟩;obtain⟨fC,ov,AZ,oR⟩:=gk _ _ e6;clear e6;refine ae @bM ?_;refine j7.mk ?_;refine VM.block ?_;refine VM.adV rfl (Enters.sA (by kernel_rfl)) ?_;intro y r F eF nj fi gI FZ qn;obtain⟨Q7,Qn,PV,IN,PW⟩:=lG _ _ _ eF;clear eF;have hcF:F.hp O4.next=some (.cells [.str k1,.str k2,.str k3,.str k4,.v (.int .i64 j),.str v,.v (.int .i64 (g 0))]):=by rw[kU];exact Q7.at (fC.at mI)
   have haF:=Q7.at AZ;have hkF:=Q7.at oR;have hvF:=Q7.at (fC.at oD);have hlF:=Q7.at (fC.at F_);have n6:=fC.next;refine VF.mono ?_ (Q6 L tk V hL lW.2 ⟨k1,k2,k3,k4⟩ y O5.next (O5.next+1) vb lb cb mp (fun k A=>F.next<=A.next/\(∀i,i<F.next->i≠O4.next->A.hp i=F.hp i)/\A.hp O4.next=some (.cells [.str k1,.str k2,.str k3,.str k4,.v (.int .i64 j),.str v,.v (.int .i64 (g k))])) ?_ ?_ ?_ ?_ F ⟨Nat.le_refl _,fun _ _ _=>rfl,hcF⟩)
   ·rintro(m | m) A hA;rotate_left
    ·exact hA.elim
    obtain⟨Wt,hA2,Wu⟩:=hA;rw[sG]at Wu;refine⟨(hA2 _ (by omega) (by omega)).trans IN,?_⟩;refine⟨(),rfl,⟨?_,?_⟩,?_,?_,?_,?_⟩
    ·show O4.next<=A.next;omega
    ·intro i hi;rw[VH.ak _ _ (by omega),hA2 i (by omega) (by omega),Q7.hp i (by omega),fC.hp i (by omega),bW.hp i hi]
    ·show O4.next<A.next;omega
    ·rw[VH.ak _ _ (by omega)];exact Wu
    ·refine JF SP.1 (N:=O5.next) (fun i hi=>(SP.2 i hi).2.1) (by omega)
    ·intro i hi;rcases List.mem_cons.1 hi with rfl | hi
     ·refine⟨by omega,by show _<A.next;omega,?_⟩;rw[VH.ak _ _ (by omega),hA2 _ (by omega) (by omega)];exact PV
     ·obtain⟨q1,q2,q3⟩:=SP.2 i hi;refine⟨q1,by show _<A.next;omega,?_⟩;have hne:i≠O4.next:=fun e=>by subst e;rw[mI]at q3;cases q3
      rw[VH.ak _ _ (by omega),hA2 i (by omega) hne,Q7.hp i (by omega),fC.hp i (by omega)];exact q3
   ·rintro k A B ⟨h1,h2,h3⟩ hAB;have:=hAB.next;exact⟨by omega,fun i hi hne=>(hAB.hp i (by omega)).trans (h2 i hi hne),(hAB.hp _ (by omega)).trans h3⟩
   ·rintro k A ⟨h1,h2,h3⟩;exact⟨by omega,(h2 _ (by omega) (by omega)).trans haF,(h2 _ (by omega) (by omega)).trans hkF,(h2 _ (by omega) (by omega)).trans hvF,(h2 _ (by omega) (by omega)).trans hlF⟩
   ·rintro k bR Dg A ⟨h1,h2,h3⟩;have:=hgs k bR;rw[Dg,if_neg (by decide)]at this;exact⟨h1,h2,by rw[this];exact h3⟩
   ·rintro k bR Dg A ⟨h1,h2,h3⟩;have jm:=hgs k bR;rw[Dg,if_pos rfl]at jm;clear Dg;generalize L[k]=z at*;obtain⟨zu,zd,zo,⟨z1,z2,z3,z4⟩,zv,zh,zr,zn,zi,zt,zs,zq⟩:=z;simp only[jR,ar,a_];dsimp only at jm;have hkA:=(h2 (O6.next+1) (by omega) (by omega)).trans IN;refine VY.round (ps:=[40]) hkA ((h2 (O6.next+2) (by omega) (by omega)).trans PW) nj (by rw[gI]) rfl rfl ?_;rw[FZ,qn];refine Gd.region ?_;simp only[rj];refine ae @bM ?_;refine RdA.al ?_;rintro A1 ⟨rf,hzA,hnA⟩;have Jb:=rf.at h3 (hk:=by omega);refine⟨rfl,rf.at hkA (hk:=by omega),?_⟩;refine Gd.block (Gd.region ?_);have hw:=Wb (g k) zs (A1.set (O6.next+1) (.obj (.loop {r with state:=.busy})));simp only[ar]at hw;have mF:=VH.an A1 (O6.next+1) (.obj (.loop {r with state:=.busy}));refine aI @bM @Jb @hzA ?_;refine ah.rt hw ?_;clear hw;rintro _ Ox ⟨rfl,eO⟩;rw[eO];clear eO Ox
    rw[<-jm];refine ao @bM @Jb ?_;refine⟨rfl,(VH.ak _ _ (by omega)).trans mF,rfl,?_,?_,?_⟩
    ·show F.next<=A1.next;omega
    ·intro i hi hne;by_cases e:i=O6.next+1
     ·subst e;rw[VH.an,IN]
      congr 3
      rw[<-fi]
     ·rw[VH.ak _ _ e,VH.ak _ _ hne,VH.ak _ _ e,rf.hp i (by omega)];exact h2 i hi hne
    ·rw[VH.ak _ _ (by omega)];exact VH.an _ _ _
  rintro _ O7 js7 ⟨fc,tV,hc7,ajy⟩;have lF:=aJ.trans (bg.trans fc);have IQ:=cS.xP (bq.lI (bg.trans fc));refine VM.FO fun D=>?_
  refine WC.sound aa (ao @bM @hc7 ?_);refine VL.grow aa (.inl rfl) (te:=⟨_,7,96,_⟩) (dx:=.slice 39) (q:=.sl 1 [.str k1,.str k2,.str k3,.str k4,.v (.int .i64 j),.str v,.v (.int .i64 (xw ⟨up,dp,od,⟨k1,k2,k3,k4⟩,v,hd,rv,nn,iv,Jt,s,rd⟩ (L.zip V)))] .full) (j:=1) (ds:=[.str k1,.str k2,.str k3,.str k4,.v (.int .i64 j),.str v,.v (.int .i64 (xw ⟨up,dp,od,⟨k1,k2,k3,k4⟩,v,hd,rv,nn,iv,Jt,s,rd⟩ (L.zip V)))]) IQ rfl rfl (by rw[T36];rfl) T39.1.1 (by rw[T36];rfl) trivial (by dsimp only;omega) (by simp only[maxLen];omega) lF.next rfl rfl rfl rfl ?_;intro m8 O8 ik ql _ _;refine ae @bM ?_;refine VM.FO fun D=>?_
  refine WC.sound aa (ao @bM @dd ?_);exact⟨rfl,(j+1,m8),rfl,⟨aX,IQ.eo lF (Nat.le_refl _) ql,by rw[ic,List.length_append,List.flatMap_append,List.flatMap_singleton];exact ik,ajy.br IQ ql⟩,by dsimp only;omega⟩
 rintro t O2 js ⟨ax,fi,SQ⟩;refine VM.qL fun D=>?_
 refine ae @bM ?_;refine j7.mk ?_;refine VM.FO fun D=>?_
 refine WC.sound aa (ae @bM ?_);refine⟨.inr rfl,SQ.1,fun j hj=>(SQ.2 j hj).2.2,fun O' hn hi=>⟨_,rfl,⟨?_,fun i h=>?_⟩,fi.marks hn hi fun j hj=>(SQ.2 j hj).2.2⟩⟩
 ·rw[hn];exact ax.next
 ·rw[hi i (fun hm=>by have:=(SQ.2 i hm).1;omega)];exact ax.hp i h
theorem Q8:Wc:=by
 intro L tk O hL hk;refine VF.WM (WN L tk O hL hk) ?_;rintro m O' ⟨hg,hr⟩;rcases hr with⟨h1,h2,rfl | rfl⟩ | ⟨k,c,rfl,h1,h2,h3⟩
 ·exact .inl ⟨⟨.nil,by rw[h1,h2]⟩,hg⟩
 ·exact .inl ⟨⟨.full,by rw[h1,h2]⟩,hg⟩
 ·obtain⟨sp,h4,h5⟩:=h3.cells;exact .inr ⟨k,0,_,c,(qc L).length*7,_,rfl,h4,by rw[List.length_append];omega,⟨_,by rw[List.drop_zero,List.take_append_of_le_length (by omega),List.take_of_length_le (by omega)]⟩,hg.kill h3.lo⟩
theorem ag6 {α :Type} {f: α ->List MV} {sz:Nat} (hf:∀x,(f x).length=sz) (L:List α) (tk:Tok):∃tk',∀u b z,Ih L.length 0 (min (L.length:Int) 60).toNat (L.flatMap f) tk (some ⟨u,sz,b,z⟩)=some (.sl (L.take 60).length ((L.take 60).flatMap f) tk'):=by
 have hlen:(L.flatMap f).length=L.length*sz:=aT hf L;by_cases h:L.length<=60
 ·exact⟨tk,fun u b z=>by rw[KD rfl (by omega),List.take_of_length_le h]⟩
 ·refine⟨qs tk sz ((min (L.length:Int) 60).toNat==L.length),fun u b z=>?_⟩;rw[GY (.inr (by omega)) (by omega) (by omega) hlen,show(min (L.length:Int) 60).toNat=60 by omega,List.length_take,Nat.min_eq_left (by omega),M_ hf];simp
open Go.ChangeShapes
section
variable {H:Type} {enc:TypeId×Value->H} {P:Program} {w:World} {sp:Nat->Bool} {held:Bool} {t e:TypeId} {α β :Type}
def rk (enc:TypeId×Value->H) (P:Program) (w:World) (sp:Nat->Bool) (held:Bool) (t:TypeId) (f: α ->List MV) (p: α ->Prop):Prop:=El enc P w sp held t fun ms=>∃y,ms=f y/\p y
theorem rk.str (ht:P.underlying t=some .string):rk enc P w sp held t (fun l:List UInt8=>[.str l]) (fun l=>l.length<=maxLen):=El.str ht
theorem HR {f: α ->List MV} {p: α ->Prop}:∀{rows:List (List MV)},(∀r∈rows,∃x,r=f x/\p x)->∃xs:List α,rows.length=xs.length/\rows.flatten=xs.flatMap f/\∀x∈xs,p x
 | [],_=>⟨[],rfl,rfl,by simp⟩
 | r::rows,h=>by
   obtain⟨xs,h1,h2,h3⟩:=HR fun r hr=>h r (List.mem_cons_of_mem _ hr)
   obtain⟨x,h4,h5⟩:=h r (List.mem_cons_self ..)
   exact⟨x::xs,by simp[h1],by rw[h4];simp[h2],fun y hy=>by
    rcases List.mem_cons.1 hy with rfl | hy
    ·exact h5
    ·exact h3 y hy⟩
theorem rk.slice {f: α ->List MV} {p: α ->Prop} (ht:P.underlying t=some (.slice e)) (oc:0<P.cellsOf e) (he:rk enc P w sp held e f p):
  rk enc P w sp held t (fun y:List α ×Tok=>[.sl y.1.length (y.1.flatMap f) y.2]) (fun y=>(∀x∈y.1,p x)/\y.1.length<=maxLen):=
 (El.slice ht he oc).imp fun ms ⟨rows,tk,h1,h2,h3⟩=>by
  obtain⟨xs,h4,h5,h6⟩:=HR h2;exact⟨(xs,tk),by rw[h1,h4,h5],h6,by show xs.length<=maxLen;omega⟩
def tc (enc:TypeId×Value->H) (P:Program) (w:World) (sp:Nat->Bool) (held:Bool) (fs:List Field) (k N:Nat) (f: α ->List MV) (p: α ->Prop):Prop:=
 ∀cs:List Value,cs.length=N->(∀g∈fs,k<=g.offset)/\((∀g∈fs,∃fuel x,DataW.trod enc P w 0 sp held fuel g.type ((cs.drop (g.offset - k)).take (P.cellsOf g.type))=some x)->∃y,aO (G0 w) (f y) cs/\p y)
theorem tc.one {g:Field} {k n:Nat} {f: α ->List MV} {p: α ->Prop} (ho:g.offset=k) (hn:P.cellsOf g.type=n) (he:rk enc P w sp held g.type f p):tc enc P w sp held [g] k n f p:=by
 intro cs ic;refine⟨fun g' hg=>by rw[List.mem_singleton.1 hg];omega,fun h=>?_⟩;obtain⟨fuel,x,hx⟩:=h g (by simp);rw[ho,Nat.sub_self,List.drop_zero,hn,List.take_of_length_le (by omega)]at hx;obtain⟨ms,h1,y,rfl,h3⟩:=he _ _ _ hx;exact⟨y,h1,h3⟩
theorem tc.cons {g:Field} {fs:List Field} {k n N:Nat} {f: α ->List MV} {p: α ->Prop} {f': β ->List MV} {p': β ->Prop} (ho:g.offset=k) (hn:P.cellsOf g.type=n) (he:rk enc P w sp held g.type f p) (hr:tc enc P w sp held fs (k+n) N f' p'):
  tc enc P w sp held (g::fs) k (n+N) (fun y: α × β =>f y.1++f' y.2) (fun y=>p y.1/\p' y.2):=by
 intro cs ic;obtain⟨Cq,hr'⟩:=hr (cs.drop n) (by rw[List.length_drop];omega);refine⟨fun g' hg=>?_,fun h=>?_⟩
 ·rcases List.mem_cons.1 hg with rfl | hg
  ·omega
  ·have:=Cq g' hg;omega
 ·obtain⟨fuel,x,hx⟩:=h g (by simp);rw[ho,Nat.sub_self,List.drop_zero,hn]at hx;obtain⟨ms,h1,y,rfl,h3⟩:=he _ _ _ hx
  obtain⟨z,h4,h5⟩:=hr' fun g' hg=>by
   obtain⟨fuel,x,hx⟩:=h g' (List.mem_cons_of_mem _ hg);have:=Cq g' hg;refine⟨fuel,x,?_⟩;rw[List.drop_drop,show n+(g'.offset - (k+n))=g'.offset - k by omega];exact hx
  refine⟨(y,z),?_,h3,h5⟩;have:=aO.append h1 h4
  rwa [List.take_append_drop]at this
theorem rk.struct {fs:Array Field} {N:Nat} {f: α ->List MV} {p: α ->Prop} (ht:P.underlying t=some (.struct fs)) (oc:P.cellsOf t=N) (hf:tc enc P w sp held fs.toList 0 N f p):rk enc P w sp held t f p:=by
 intro fuel cs x h;obtain⟨xs,n,rfl,rfl,hl,Cm,hfi⟩:=DataW.trod_struct ht h;obtain⟨_,h2⟩:=hf cs (by omega)
 obtain⟨y,h3,h4⟩:=h2 fun g hg=>by
  obtain⟨i,hi,rfl⟩:=List.getElem_of_mem hg;have h5:=hfi i fs.toList[i] (by rw[<-Array.getElem?_toList,List.getElem?_eq_getElem]);have akw:fs.toList.length=fs.size:=by simp
  rw[List.getElem?_eq_getElem (by omega)]at h5;exact⟨_,_,h5⟩
 exact⟨_,h3,y,rfl,h4⟩
theorem rk.arg {f: α ->List MV} {p: α ->Prop} (h:rk enc P w sp held t f p) {v:Value} {d:DataW H} {ps:List MemPlace} (hd:DataW.Trod enc P w 0 sp held t v d ps) (hc:v.cells= #[v]):∃m y,VR (G0 w) m v/\[m]=f y/\p y:=by
 obtain⟨m,h1,y,h2,h3⟩:=El.arg h hd hc;exact⟨m,y,h1,h2,h3⟩
end
def ajz (y:Bs×Bs×Bs×Bs):Prop:=y.1.length<=maxLen/\y.2.1.length<=maxLen/\y.2.2.1.length<=maxLen/\y.2.2.2.length<=maxLen
theorem adW {A B:VH} {b sz:Nat} {t:Tok} (h:App A b sz t) (hi:∀i,b<=i->B.hp i=A.hp i) (hn:A.next<=B.next):App B b sz t:=by
 cases t with
 | own t k=>
   obtain⟨g1,g2,g3,g4⟩:=h;exact⟨g1,(hi t g3).trans g2,g3,by omega⟩
 | _=>exact h
theorem WR.below {G:Gh} {O:VH} {w w':World} (h:WR G O w) (hb:Below w.heap.size w w'):WR G O w':=by
 have hh:∀{b:Nat} {x:Obj},w.heap[b]?=some x->w'.heap[b]?=some x:=fun{b x} hx=>(hb.block b (nQ hx)).trans hx
 refine⟨h.base.trans (hb.mono h.S4),fun b o u hc=>?_,h.oN,fun k b hk=>?_,h.inj,fun k cs hk=>?_,fun k es ck hk=>?_,fun t ht=>?_,h.kA,fun j k t n hj=>?_,fun k x hk=>?_,h.pd,h.yz⟩
 ·have h1:=h.dX b o u hc;have h2:=hb.block b (World.block_lt_of_cell? w _ h1);unfold World.cell? at h1 ⊢;rw[h2];exact h1
 ·obtain⟨h1,h2,h3⟩:=h.jI k b hk;exact⟨h1,Nat.lt_of_lt_of_le h2 hb.size,h3⟩
 ·obtain⟨b,C,T,h1,h2,h3⟩:=h.cells k cs hk;exact⟨b,C,T,h1,hh h2,h3⟩
 ·obtain⟨b,E,h1,h2,h3⟩:=h.map k es ck hk;exact⟨b,E,h1,hh h2,h3⟩
 ·obtain⟨b,f,k,r,C,T,h1,h2,h3,h4⟩:=h.tok t ht;exact⟨b,f,k,r,C,T,h1,h2,hh h3,h4⟩
 ·obtain⟨b,h1,h2⟩:=h.nw j k t n hj;exact⟨b,h1,gG (fun x hx=>hh hx) h2⟩
 ·obtain⟨b,h1,h2⟩:=h.obj k x hk;exact⟨b,h1,hh h2⟩
theorem adX (l:List (List UInt8)) (sep:List UInt8) (tk:Tok) (O:VH) (hn:l.length<=140737488355328) (hlen:(Lib.join l sep).length<=140737488355328):VF Tryz.prog 57 [.sl l.length (l.map .str) tk,.str sep] O (aD fun m O'=>m= .str (Lib.join l sep)/\O'=O):=by
 intro G w vs hw hv;obtain⟨u,us,rfl,h1,h2⟩:=hv.cB;obtain⟨u2,Po,rfl,h3,h4⟩:=h2.cB;rw[h4.fw];cases h3
 have empty:∀(a:Option Addr) (c:Nat),l=[]->Calls Tryz.prog 57 (#[.slice a 0 c,.string ⟨⟨sep⟩⟩]) w fun x w'=>∃r O' H,Gh.Le G H/\WR H O' w'/\ER H r x/\aD (fun m O'=>m= .str (Lib.join l sep)/\O'=O) r O':=fun a c hl=>
  (Tryz.strings_Join_none a c ⟨⟨sep⟩⟩ w).mono fun e w' ⟨he,qM⟩=>by
   subst qM;subst he;subst hl
   exact⟨.ret (.str []),O,G,Gh.Le.refl G,hw,.str,rfl,rfl⟩
 generalize D3:l.map MV.str=cs at h1;generalize tT:l.length=n at h1;have ze:n=0->l=[]:=fun e=>List.eq_nil_of_length_eq_zero (by omega)
 cases h1 with
 | slnil=>exact empty _ _ (ze rfl)
 | nP h=>exact empty _ _ (ze rfl)
 | jH=>exact empty _ _ (ze rfl)
 | sl g1 g2 g3 g4 g5 g6=>
   rename_i us c b o;by_cases he:l=[]
   ·subst he;simp only[List.length_nil]at tT;subst tT;exact empty _ _ rfl
   have iu:us=l.map fun s=>Value.string ⟨⟨s⟩⟩:=by
    refine List.ext_getElem? fun i=>?_
    rcases Nat.lt_or_ge i us.length with hi | hi
    ·have e1:=List.getElem?_eq_getElem hi;have Qo:i<l.length:=by rw[g1, <-D3]at hi;simpa using hi
     have e2:cs[i]?=some (.str l[i]):=by rw[<-D3];simp[Qo]
     have:=g3 i _ _ e2 e1;rw[e1,List.getElem?_map,List.getElem?_eq_getElem Qo];generalize us[i]=v at*;cases this;rfl
    ·rw[List.getElem?_eq_none hi,List.getElem?_eq_none (by rw[g1, <-D3]at hi;simpa using hi)]
   have iQ:∀(j:Nat) x,(l.map fun s=>(⟨⟨s⟩⟩:ByteArray))[j]?=some x->w.cell? ⟨b,o+j,none⟩=some (.string x):=fun j x hj=>by
    refine hw.dX _ _ _ (g2 j _ ?_);rw[iu];rw[List.getElem?_map]at hj ⊢;obtain⟨s,hs,rfl⟩:=Option.map_eq_some_iff.1 hj;rw[hs];rfl
   have rJ:b<w.heap.size:=by
    obtain⟨s,r,rfl⟩:=List.exists_cons_of_ne_nil he;exact World.block_lt_of_cell? w _ (iQ 0 _ rfl)
   have QS:(l.map fun s=>(⟨⟨s⟩⟩:ByteArray)).map (·.data.toList)=l:=by rw[List.map_map];exact(List.map_congr_left (g:=id) fun _ _=>rfl).trans (List.map_id _)
   have key:=Tryz.strings_Join b o c (l.map fun s=>(⟨⟨s⟩⟩:ByteArray)) ⟨⟨sep⟩⟩ w iQ rJ (by rw[List.length_map];exact hn) (by rw[List.length_map];omega) (by rw[QS];exact hlen);rw[QS,List.length_map,tT]at key;refine key.mono fun e w' ⟨he,qM⟩=>?_
   subst he;exact⟨.ret (.str (Lib.join l sep)),O,G,Gh.Le.refl G,hw.below qM,.str,rfl,rfl⟩
open Go.Shelf
def Tryz.As:Go.Shelf.Ren:=⟨fun | 155=>42 | 154=>58 | 138=>80 | 165=>79 | 143=>81 | 166=>65 | 197=>82 | 169=>68 | 195=>106 | 218=>107 | 240=>85 | 241=>105 | 219=>108 | 260=>109 | 276=>113 | 277=>138 | 217=>139 | 225=>140 | 224=>141 | 267=>142 | 266=>169 | 314=>170 | n=>n,fun | 9=>9 | 3=>3 | 4=>4 | 72=>145 | 0=>0 | 76=>149 | 105=>184 | 21=>21 | 5=>5 | 70=>142 | 20=>20 | 37=>143 | 75=>148 | 127=>189 | 164=>210 | 46=>202 | 119=>252 | 139=>255 | 138=>254 | 146=>246 | 51=>128 | 80=>156 | n=>n,fun | 1=>0 | 3=>1 | 4=>2 | n=>n⟩
theorem Tryz.abD:Go.Proofs.Lays.n155 Tryz.prog Tryz.As:={
 mixed:=by kernel_rfl
 f138:=Tryz.func80.trans (congrArg some (by kernel_rfl))
 f143:=Tryz.func81.trans (congrArg some (by kernel_rfl))
 f154:=Tryz.func58.trans (congrArg some (by kernel_rfl))
 f155:=Tryz.func42.trans (congrArg some (by kernel_rfl))
 f165:=Tryz.func79.trans (congrArg some (by kernel_rfl))
 f166:=Tryz.func65.trans (congrArg some (by kernel_rfl))
 f169:=Tryz.func68.trans (congrArg some (by kernel_rfl))
 f195:=Tryz.func106.trans (congrArg some (by kernel_rfl))
 f197:=Tryz.func82.trans (congrArg some (by kernel_rfl))
 f217:=Tryz.func139.trans (congrArg some (by kernel_rfl))
 f218:=Tryz.func107.trans (congrArg some (by kernel_rfl))
 f219:=Tryz.func108.trans (congrArg some (by kernel_rfl))
 f224:=Tryz.func141.trans (congrArg some (by kernel_rfl))
 f225:=Tryz.func140.trans (congrArg some (by kernel_rfl))
 f240:=Tryz.func85.trans (congrArg some (by kernel_rfl))
 f241:=Tryz.func105.trans (congrArg some (by kernel_rfl))
 f260:=Tryz.func109.trans (congrArg some (by kernel_rfl))
 f266:=Tryz.func169.trans (congrArg some (by kernel_rfl))
 f267:=Tryz.func142.trans (congrArg some (by kernel_rfl))
 f276:=Tryz.func113.trans (congrArg some (by kernel_rfl))
 f277:=Tryz.func138.trans (congrArg some (by kernel_rfl))
 f314:=Tryz.func170.trans (congrArg some (by kernel_rfl))
 t0:=Tryz.underlying0
 a0:=Tryz.isAgg0
 z0:=Tryz.sizeOf0
 v0:=Tryz.zeroValue0
 t3:=Tryz.underlying3
 a3:=Tryz.isAgg3
 z3:=Tryz.sizeOf3
 v3:=Tryz.zeroValue3
 t4:=Tryz.underlying4
 a4:=Tryz.isAgg4
 z4:=Tryz.sizeOf4
 v4:=Tryz.zeroValue4
 t5:=Tryz.underlying5
 a5:=Tryz.isAgg5
 z5:=Tryz.sizeOf5
 v5:=Tryz.zeroValue5
 t9:=Tryz.underlying9
 a9:=Tryz.isAgg9
 z9:=Tryz.sizeOf9
 v9:=Tryz.zeroValue9
 t20:=Tryz.underlying20
 a20:=Tryz.isAgg20
 z20:=Tryz.sizeOf20
 v20:=Tryz.zeroValue20
 t21:=Tryz.underlying21
 a21:=Tryz.isAgg21
 z21:=Tryz.sizeOf21
 v21:=Tryz.zeroValue21
 t37:=Tryz.underlying143
 a37:=Tryz.isAgg143
 z37:=Tryz.sizeOf143
 v37:=Tryz.zeroValue143
 t46:=Tryz.underlying202
 a46:=Tryz.isAgg202
 z46:=Tryz.sizeOf202
 v46:=Tryz.zeroValue202
 t51:=Tryz.underlying128
 a51:=Tryz.isAgg128
 z51:=Tryz.sizeOf128
 v51:=Tryz.zeroValue128
 t70:=Tryz.underlying142
 a70:=Tryz.isAgg142
 z70:=Tryz.sizeOf142
 v70:=Tryz.zeroValue142
 t72:=Tryz.underlying145
 a72:=Tryz.isAgg145
 z72:=Tryz.sizeOf145
 v72:=Tryz.zeroValue145
 t75:=Tryz.underlying148
 a75:=Tryz.isAgg148
 z75:=Tryz.sizeOf148
 v75:=Tryz.zeroValue148
 t76:=Tryz.underlying149
 a76:=Tryz.isAgg149
 z76:=Tryz.sizeOf149
 v76:=Tryz.zeroValue149
 t105:=Tryz.underlying184
 a105:=Tryz.isAgg184
 z105:=Tryz.sizeOf184
 v105:=Tryz.zeroValue184
 t119:=Tryz.underlying252
 a119:=Tryz.isAgg252
 z119:=Tryz.sizeOf252
 t127:=Tryz.underlying189
 a127:=Tryz.isAgg189
 z127:=Tryz.sizeOf189
 v127:=Tryz.zeroValue189
 t138:=Tryz.underlying254
 a138:=Tryz.isAgg254
 z138:=Tryz.sizeOf254
 v138:=Tryz.zeroValue254
 t139:=Tryz.underlying255
 a139:=Tryz.isAgg255
 z139:=Tryz.sizeOf255
 v139:=Tryz.zeroValue255
 t146:=Tryz.underlying246
 a146:=Tryz.isAgg246
 z146:=Tryz.sizeOf246
 v146:=Tryz.zeroValue246
 t164:=Tryz.underlying210
 a164:=Tryz.isAgg210
 z164:=Tryz.sizeOf210
 v164:=Tryz.zeroValue210
 g1:=by kernel_rfl
 g3:=by kernel_rfl
 g4:=by kernel_rfl}
theorem Tryz.yy:Builder.Extra Tryz.prog Tryz.As:={
 sizeBuilder:=by kernel_rfl
 liesBuilder:=by kernel_rfl
 t5:=Tryz.underlying5
 a5:=Tryz.isAgg5
 z5:=Tryz.sizeOf5
 v5:=Tryz.zeroValue5
 infoByte:=by kernel_rfl
 cellsByte:=by kernel_rfl
 sizeByte:=by kernel_rfl
 neB5:=by decide}
open Go.Lib in
theorem Tryz.strings_ReplaceAll (s oW new:ByteArray) (m:Int) (w:World) (hs:s.size<4294967281) (hm:w.cell? ⟨0,0,none⟩=some (.int .i64 m)) (h1:1<=oW.size) (hlen:s.size+Lib.countB s oW*new.size<=140737488355328):
  Calls Tryz.prog 42 #[.string s,.string oW,.string new] w fun e w'=>
   e= .returned (.string ⟨(Lib.replaceAll s.data.toList oW.data.toList new.data.toList).toArray⟩)/\Below w.heap.size w w':=Any.strings_ReplaceAll Tryz.abD Tryz.yy s oW new m w hs hm h1 hlen
def Tryz.JH:Go.Shelf.Ren:=⟨fun | 105=>76 | 212=>102 | 99=>103 | 165=>79 | 166=>65 | 170=>104 | 169=>68 | 263=>135 | 264=>136 | 206=>137 | 240=>85 | 241=>105 | 276=>113 | 277=>138 | n=>n,fun | 9=>9 | 3=>3 | 4=>4 | 20=>20 | 0=>0 | 46=>202 | 109=>203 | 5=>5 | 72=>145 | 76=>149 | 51=>128 | 146=>246 | 53=>248 | 148=>249 | 70=>142 | 37=>143 | 75=>148 | 127=>189 | 164=>210 | 80=>156 | n=>n,fun | n=>n⟩
theorem Tryz.Nu:Go.Proofs.Lays.n105 Tryz.prog Tryz.JH:={
 mixed:=by kernel_rfl
 f99:=Tryz.func103.trans (congrArg some (by kernel_rfl))
 f105:=Tryz.func76.trans (congrArg some (by kernel_rfl))
 f165:=Tryz.func79.trans (congrArg some (by kernel_rfl))
 f166:=Tryz.func65.trans (congrArg some (by kernel_rfl))
 f169:=Tryz.func68.trans (congrArg some (by kernel_rfl))
 f170:=Tryz.func104.trans (congrArg some (by kernel_rfl))
 f206:=Tryz.func137.trans (congrArg some (by kernel_rfl))
 f212:=Tryz.func102.trans (congrArg some (by kernel_rfl))
 f240:=Tryz.func85.trans (congrArg some (by kernel_rfl))
 f241:=Tryz.func105.trans (congrArg some (by kernel_rfl))
 f263:=Tryz.func135.trans (congrArg some (by kernel_rfl))
 f264:=Tryz.func136.trans (congrArg some (by kernel_rfl))
 f276:=Tryz.func113.trans (congrArg some (by kernel_rfl))
 f277:=Tryz.func138.trans (congrArg some (by kernel_rfl))
 t0:=Tryz.underlying0
 a0:=Tryz.isAgg0
 z0:=Tryz.sizeOf0
 v0:=Tryz.zeroValue0
 t3:=Tryz.underlying3
 a3:=Tryz.isAgg3
 z3:=Tryz.sizeOf3
 v3:=Tryz.zeroValue3
 t4:=Tryz.underlying4
 a4:=Tryz.isAgg4
 z4:=Tryz.sizeOf4
 v4:=Tryz.zeroValue4
 t5:=Tryz.underlying5
 a5:=Tryz.isAgg5
 z5:=Tryz.sizeOf5
 v5:=Tryz.zeroValue5
 t9:=Tryz.underlying9
 a9:=Tryz.isAgg9
 z9:=Tryz.sizeOf9
 v9:=Tryz.zeroValue9
 t20:=Tryz.underlying20
 a20:=Tryz.isAgg20
 z20:=Tryz.sizeOf20
 v20:=Tryz.zeroValue20
 t37:=Tryz.underlying143
 a37:=Tryz.isAgg143
 z37:=Tryz.sizeOf143
 v37:=Tryz.zeroValue143
 t46:=Tryz.underlying202
 a46:=Tryz.isAgg202
 z46:=Tryz.sizeOf202
 v46:=Tryz.zeroValue202
 t51:=Tryz.underlying128
 a51:=Tryz.isAgg128
 z51:=Tryz.sizeOf128
 v51:=Tryz.zeroValue128
 t53:=Tryz.underlying248
 a53:=Tryz.isAgg248
 z53:=Tryz.sizeOf248
 v53:=Tryz.zeroValue248
 t70:=Tryz.underlying142
 a70:=Tryz.isAgg142
 z70:=Tryz.sizeOf142
 v70:=Tryz.zeroValue142
 t72:=Tryz.underlying145
 a72:=Tryz.isAgg145
 z72:=Tryz.sizeOf145
 v72:=Tryz.zeroValue145
 t75:=Tryz.underlying148
 a75:=Tryz.isAgg148
 z75:=Tryz.sizeOf148
 v75:=Tryz.zeroValue148
 t76:=Tryz.underlying149
 a76:=Tryz.isAgg149
 z76:=Tryz.sizeOf149
 v76:=Tryz.zeroValue149
 t109:=Tryz.underlying203
 a109:=Tryz.isAgg203
 z109:=Tryz.sizeOf203
 v109:=Tryz.zeroValue203
 t127:=Tryz.underlying189
 a127:=Tryz.isAgg189
 z127:=Tryz.sizeOf189
 v127:=Tryz.zeroValue189
 t146:=Tryz.underlying246
 a146:=Tryz.isAgg246
 z146:=Tryz.sizeOf246
 v146:=Tryz.zeroValue246
 t148:=Tryz.underlying249
 a148:=Tryz.isAgg249
 z148:=Tryz.sizeOf249
 v148:=Tryz.zeroValue249
 t164:=Tryz.underlying210
 a164:=Tryz.isAgg210
 z164:=Tryz.sizeOf210
 v164:=Tryz.zeroValue210}
theorem Tryz.strings_Repeat_zero (s:ByteArray) (w:World):
  Calls Tryz.prog 76 #[.string s,.int .i64 0] w fun e w'=>e= .returned (.string ⟨#[]⟩)/\w'=w:=Any.strings_Repeat_zero Tryz.Nu s w
theorem Tryz.strings_Repeat_one (s:ByteArray) (w:World):
  Calls Tryz.prog 76 #[.string s,.int .i64 1] w fun e w'=>e= .returned (.string s)/\w'=w:=Any.strings_Repeat_one Tryz.Nu s w
set_option linter.defProp false in
def aZ:=And.intro aju<|And.intro T48<|And.intro T50 uO
def lS (b:UInt8):UInt8:=if b=46 then 47 else b
theorem SR:∀s:Bs,Lib.replaceK [46] [47] (Lib.count s [46]) s=s.map lS
 | []=>by
   rw[Lib.count_miss (s:=[]) (by rfl)];rfl
 | b::l=>by
   have ih:=SR l;by_cases hb:b=46
   ·subst hb;have hi:Lib.index (46::l) [46]=(0:Nat):=by simp[Lib.index]
    rw[Lib.count_hit (by simp) hi,Nat.add_comm,Lib.replaceK_hit _ _ _ _ 0 hi];simp only[List.take_zero,List.nil_append,List.length_cons,List.length_nil,Nat.zero_add,List.drop_succ_cons,List.drop_zero,List.map_cons];rw[ih];rfl
   ·have hp:([46]:Bs).isPrefixOf (b::l)=false:=by
     show((46==b)&&List.isPrefixOf [] l)=false;rw[show((46:UInt8)==b)=false from beq_eq_false_iff_ne.2 (Ne.symm hb),Bool.false_and]
    have hr:lS b=b:=if_neg hb;by_cases hm:Lib.index l [46]= -1
    ·have hi:Lib.index (b::l) [46]= -1:=by rw[Lib.index,hp,hm];rfl
     rw[Lib.count_miss hm]at ih;rw[Lib.count_miss hi,List.map_cons,hr, <-ih];rfl
    ·obtain⟨i,hi⟩:∃i:Nat,Lib.index l [46]=i:=⟨(Lib.index l [46]).toNat,by have:=Lib.index_ge l [46];omega⟩
     have gd:Lib.index (b::l) [46]=((i+1:Nat):Int):=by
      rw[Lib.index,hp,if_neg (by decide),hi,if_neg (by simp)];omega
     rw[Lib.count_hit (by simp) hi,Nat.add_comm,Lib.replaceK_hit _ _ _ _ i hi]at ih;rw[Lib.count_hit (by simp) gd,Nat.add_comm,Lib.replaceK_hit _ _ _ _ (i+1) gd,List.map_cons,hr, <-ih];simp only[List.take_succ_cons,List.length_cons,List.length_nil,Nat.zero_add,List.drop_succ_cons,List.cons_append]
theorem ag7 (s:Bs):Lib.countB ⟨⟨s⟩⟩ ⟨⟨[46]⟩⟩<=s.length:=Lib.countB_le ⟨⟨[46]⟩⟩ (by decide) s.length ⟨⟨s⟩⟩ (Nat.le_refl _)
theorem WO (s:Bs) (O:VH) (hs:s.length<=100000):VF Tryz.prog 42 [.str s,.str [46],.str [47]] O (aD fun m O'=>m= .str (s.map lS)/\O'=O):=by
 intro G w vs hw hv;obtain⟨u,us,rfl,h1,h2⟩:=hv.cB;obtain⟨u2,Po,rfl,h3,h4⟩:=h2.cB;obtain⟨u3,us3,rfl,h5,h6⟩:=h4.cB;rw[h6.fw];cases h1;cases h3;cases h5;obtain⟨m,hm⟩:=hw.ad6 (g:=0) (by decide);have hc:=ag7 s;refine(Tryz.strings_ReplaceAll ⟨⟨s⟩⟩ ⟨⟨[46]⟩⟩ ⟨⟨[47]⟩⟩ m w (show s.length<4294967281 by omega) hm (by decide) (show s.length+Lib.countB ⟨⟨s⟩⟩ ⟨⟨[46]⟩⟩*1<=140737488355328 by omega)).mono fun e w' ⟨he,qM⟩=>?_
 subst he
 have hr:Lib.replaceAll s [46] [47]=s.map lS:=by
  rw[<-SR s];unfold Lib.replaceAll Lib.replace Lib.replaceNum;rw[if_neg (by decide),if_pos (.inl (by decide))]
 refine⟨.ret (.str (s.map lS)),O,G,Gh.Le.refl G,hw.below qM,?_,rfl,rfl⟩;show VR G _ (.string ⟨(Lib.replaceAll s [46] [47]).toArray⟩);rw[hr];exact .str
theorem adY (s:Bs) (O:VH):VF Tryz.prog 76 [.str s,.v (.int .i64 0)] O (aD fun m O'=>m= .str []/\O'=O):=by
 intro G w vs hw hv;obtain⟨u,us,rfl,h1,h2⟩:=hv.cB;obtain⟨u2,Po,rfl,h3,h4⟩:=h2.cB;rw[h4.fw];cases h1;cases h3;refine(Tryz.strings_Repeat_zero ⟨⟨s⟩⟩ w).mono fun e w' ⟨he,qM⟩=>?_
 subst qM;subst he
 exact⟨.ret (.str []),O,G,Gh.Le.refl G,hw,.str,rfl,rfl⟩
theorem adZ (s:Bs) (O:VH):VF Tryz.prog 76 [.str s,.v (.int .i64 1)] O (aD fun m O'=>m= .str s/\O'=O):=by
 intro G w vs hw hv;obtain⟨u,us,rfl,h1,h2⟩:=hv.cB;obtain⟨u2,Po,rfl,h3,h4⟩:=h2.cB;rw[h4.fw];cases h1;cases h3;refine(Tryz.strings_Repeat_one ⟨⟨s⟩⟩ w).mono fun e w' ⟨he,qM⟩=>?_
 subst qM;subst he
 exact⟨.ret (.str s),O,G,Gh.Le.refl G,hw,.str,rfl,rfl⟩
theorem Fk (mark:Bs) (n:Nat) (cs:List MV) (l:List Bs) (tk:Tok) (r:Bs) (O:VH) (hn:l.length=n) (hc:l.map MV.str=cs) (hr:Lib.join l mark=r) (hl:l.length<=1000) (hlen:r.length<=1000000):VF Tryz.prog 41 [.str mark,.sl n cs tk] O (aD fun m O'=>m= .str r/\O'=O):=by
 subst hn;subst hc;subst hr
 have hj:=adX l mark tk O (by omega) (by omega);generalize Lib.join l mark=r at*;generalize l.map MV.str=cs at*;generalize l.length=n at*;refine VF.bO 8 [.tmp 4] Tryz.func41 ?_;refine VC.ag aa (ae @aZ ?_);refine VC.ag aa (ae @aZ ?_);refine ah.rt hj ?_;rintro _ Ox ⟨rfl,eO⟩;rw[eO];clear eO Ox
 refine ae @aZ ?_;refine WC.sound aa (ae @aZ ?_);trivial
structure Gg where
 k:Ky
 v:Bs
def wY (x:Gg):List MV:=[.str x.k.g,.str x.k.a,.str x.k.t,.str x.k.c,.str x.v]
theorem se (x:Gg):(wY x).length=5:=rfl
def Nv (x:Gg):Prop:=x.k.g.length<=500/\x.k.a.length<=500/\x.k.t.length<=500/\x.k.c.length<=500/\x.v.length<=500
def Bq (x:Gg):Bs:=if x.k.c=[]then x.k.a++[45]++x.v else(x.k.a++[45]++x.v)++[45]++x.k.c
def jG (x:Gg):Bs:=x.k.g.map lS++[47]++x.k.a++[47]++x.v++[47]++(Bq x++[46]++x.k.t)
set_option maxHeartbeats 4000000 in
theorem JI (x:Gg) (O:VH) (hx:Nv x):VF Tryz.prog 24 [.agg (wY x)] O (aD fun m O'=>m= .str (jG x)/\O.Ge O'):=by
 obtain⟨⟨g,a,t,c⟩,v⟩:=x;obtain⟨h1,h2,h3,h4,h5⟩:=hx;dsimp only at h1 h2 h3 h4 h5;unfold jG Bq;simp only[wY];have j2:∀(p q m:Bs) (tk:Tok) (O':VH),p.length<=5000->q.length<=5000->m.length<=10->VF Tryz.prog 41 [.str m,.sl 2 [.str p,.str q] tk] O' (aD fun r j4=>r= .str (p++m++q)/\j4=O'):=fun p q m tk O' hp hq hm=>Fk m 2 _ [p,q] tk _ O' rfl rfl (by simp[Lib.join]) (by simp) (by simp only[List.length_append];omega)
 refine VF.bO 38 [.tmp 2] Tryz.func24 ?_;refine VC.ag aa (ae @aZ ?_);refine VC.bx ?_;rintro O1 ⟨aM,dw,c5⟩;refine VC.ag aa (ao @aZ @dw ?_);refine ah.rt (j2 a v [45] _ O1 (by omega) (by omega) (by decide)) ?_;rintro _ Ox ⟨rfl,eO⟩;rw[eO];clear eO Ox
 refine ae @aZ ?_
 have zN:(Bq ⟨⟨g,a,t,c⟩,v⟩).length<=2000:=by
  unfold Bq;dsimp only;split<;>simp only[List.length_append,List.length_cons,List.length_nil]<;>omega
 unfold Bq at zN;dsimp only at zN ⊢;refine VC.bJ [1,3] (fun _:Unit=>[.ptr O.next 0,.str (if c=[]then a++[45]++v else a++[45]++v++[45]++c)]) (fun _ O'=>O'=O1) ?_ ?_
 ·by_cases hc:c=[]
  ·have e1:(c==([]:Bs))=true:=by simp[hc]
   rw[if_pos hc];refine WC.sound aa (aI @aZ @dw @e1 ?_);exact aA.mk () rfl
  ·have e1:(c==([]:Bs))=false:=by simpa using hc
   rw[if_neg hc];refine WC.sound aa (aI @aZ @dw @e1 ?_);refine ah.rt (j2 (a++[45]++v) c [45] _ O1 (by simp only[List.length_append,List.length_cons,List.length_nil];omega) (by omega) (by decide)) ?_;rintro _ Ox ⟨rfl,eO⟩;rw[eO];clear eO Ox
   refine ae @aZ ?_;exact aA.mk () rfl
 rintro _ Ox eO;rw[eO];clear eO Ox
 generalize (if c=[]then a++[45]++v else a++[45]++v++[45]++c)=nm at*;have hra:=fun O'=>WO g O' (by omega)
 have dd:=fun O' tk=>j2 nm t [46] tk O' (by omega) (by omega) (by decide)
 have aX:=fun O' tk=>Fk [47] 4 [.str (g.map lS),.str a,.str v,.str (nm++[46]++t)] [g.map lS,a,v,nm++[46]++t] tk (g.map lS++[47]++a++[47]++v++[47]++(nm++[46]++t)) O' rfl rfl (by simp[Lib.join]) (by simp) (by simp only[List.length_append,List.length_map,List.length_cons,List.length_nil];omega)
 refine VC.bC ?_;refine VC.lY [15,16,17] ?_;refine ab.av 0 ?_;refine ae @aZ ?_;refine ab.av 1 ?_;refine ae @aZ ?_;refine ab.ld (m:=.str g) 2 ?_ ?_
 ·exact c9 @aZ @dw
 simp only[aj];refine ab.av 4 ?_;refine ae @aZ ?_;refine ab.av 5 ?_;refine ae @aZ ?_;refine ab.ld (m:=.str a) 6 ?_ ?_
 ·exact c9 @aZ @dw
 simp only[aj];refine ab.av 7 ?_;refine ae @aZ ?_;refine ab.ld (m:=.str v) 8 ?_ ?_
 ·exact c9 @aZ @dw
 simp only[aj];refine ab.av 9 ?_;refine ae @aZ ?_;refine ab.av 10 ?_;refine ae @aZ ?_;refine ab.av 11 ?_;refine ae @aZ ?_;refine ab.ld (m:=.str t) 12 ?_ ?_
 ·exact c9 @aZ @dw
 simp only[aj];refine ab.pair (i:=3) (j:=13) ?_ ?_
 ·refine aH.iW (hra _) ?_;rintro _ Ox ⟨rfl,eO⟩;rw[eO];clear eO Ox
  simp only[aj];refine⟨VH.Ge.refl _,?_⟩;refine ab.op (i:=13) ?_;refine ae @aZ ?_;refine⟨VH.Ge.refl _,?_⟩;refine ab.call (i:=14) (dd _ _) ?_;rintro _ Ox ⟨rfl,eO⟩;simp only[aj];rw[eO];clear eO Ox
  refine⟨VH.Ge.refl _,?_⟩;refine ab.bH [(15,.one),(16,.one),(17,.av)] ?_;refine ae @aZ ?_;refine ah.rt (aX _ _) ?_;rintro _ Ox ⟨rfl,eO⟩;rw[eO];clear eO Ox
  refine ae @aZ ?_;refine WC.sound aa (ae @aZ ?_);exact aM
 ·refine aH.o1 ?_;refine ae @aZ ?_;refine⟨VH.Ge.refl _,?_⟩;refine ab.call (i:=3) (hra _) ?_;rintro _ Ox ⟨rfl,eO⟩;simp only[aj];rw[eO];clear eO Ox
  refine⟨VH.Ge.refl _,?_⟩;refine ab.call (i:=14) (dd _ _) ?_;rintro _ Ox ⟨rfl,eO⟩;simp only[aj];rw[eO];clear eO Ox
  refine⟨VH.Ge.refl _,?_⟩;refine ab.bH [(15,.one),(16,.one),(17,.av)] ?_;refine ae @aZ ?_;refine ah.rt (aX _ _) ?_;rintro _ Ox ⟨rfl,eO⟩;rw[eO];clear eO Ox
  refine ae @aZ ?_;refine WC.sound aa (ae @aZ ?_);exact aM
set_option maxHeartbeats 4000000 in
theorem abE (x:Gg) (O:VH) (hx:Nv x):VF Tryz.prog 23 [.agg (wY x)] O (aD fun m O'=>m= .str (jG x)/\O.Ge O'):=by
 obtain⟨⟨g,a,t,c⟩,v⟩:=x;obtain⟨h1,h2,h3,h4,h5⟩:=hx;dsimp only at h1 h2 h3 h4 h5
 have wQ:jG ⟨⟨g,a,t,c⟩,v⟩=(if c=[]then g.map lS++([47]++a++[47]++v++[47]++a++[45]++v)else g.map lS++([47]++a++[47]++v++[47]++a++[45]++v)++([45]++c))++[46]++t:=by
  unfold jG Bq;dsimp only;split<;>simp
 rw[wQ];clear wQ;simp only[wY];refine VF.bO 65 [.tmp 2] Tryz.func23 ?_;refine VC.ag aa (ae @aZ ?_);refine VC.bx ?_;rintro O1 ⟨aM,dw,c5⟩;refine VC.ag aa (ae @aZ ?_);refine VC.bJ [1,3] (fun _:Unit=>[.ptr O.next 0,.str (g.map lS)]) (fun _ O'=>O'=O1) ?_ ?_
 ·refine VC.ag aa (ae @aZ ?_);refine VC.aB ?_;refine VC.bP [3,4] [1] (fun j:Nat=>[.str ((g.take j).map lS),mi j]) (fun j O'=>O'=O1/\j<=g.length) (fun j=>g.length - j) (0) ?_ ?_
  ·exact⟨rfl,Nat.zero_le _⟩
  rintro j Ox ⟨eO,hj⟩;rw[eO];clear eO Ox
  by_cases aX:j<g.length;rotate_left
  ·obtain rfl:j=g.length:=by omega
   rw[List.take_length];refine WC.sound aa (ao @aZ @dw ?_);exact aA.mk () rfl
  have dd:((j:Int)+1)=((j+1:Nat):Int):=by omega
  have eb:(g.take (j+1)).map lS=(g.take j).map lS++[lS g[j]]:=by rw[<-List.take_append_getElem aX,List.map_append];rfl
  have np:g[j]?=some g[j]:=List.getElem?_eq_getElem aX;generalize g[j]=b at*;refine VC.ag aa (ao @aZ @dw ?_);refine VC.bC (VC.aB ?_);refine VC.ag aa (de @aZ @dw @np @aE ?_);have hlm:((g.take j).map lS).length=j:=by rw[List.length_map,List.length_take,Nat.min_eq_left hj]
  generalize (g.take j).map lS=P at*;by_cases hb:b=46
  ·have e1:((b.toNat:Int)==46)=true:=by simp[hb]
   refine WC.sound aa (aI @aZ @e1 @hlm ?_);refine WC.sound aa (ao @aZ @dd ?_);exact az.next (j+1) ⟨rfl,aX⟩ (hl:=by rw[eb];subst hb;rfl)
  ·have e1:((b.toNat:Int)==46)=false:=by
    rw[beq_eq_false_iff_ne];intro e;exact hb (UInt8.toNat_inj.1 (by have h46:(46:UInt8).toNat=46:=rfl;omega))
   have hsb:(g.drop j).take (j+1 - j)=[b]:=by
    rw[List.drop_eq_getElem_cons aX,Nat.add_sub_cancel_left,List.take_succ_cons,List.take_zero];rw[List.getElem?_eq_getElem aX]at np;injection np with np;rw[np]
   refine WC.sound aa (gW @aZ @e1 @hlm @dw @hsb ?_);refine WC.sound aa (ao @aZ @dd ?_);exact az.next (j+1) ⟨rfl,aX⟩ (hl:=by rw[eb,show lS b=b from if_neg hb];rfl)
 rintro _ Ox eO;rw[eO];clear eO Ox
 have hlg:(g.map lS).length=g.length:=List.length_map _;generalize g.map lS=g' at*;refine VC.ag aa (aI @aZ @dw @hlg ?_);by_cases hc:c=[]
 ·have e1:(c==([]:Bs))=true:=by simp[hc]
  rw[if_pos hc];refine VC.ag aa (aI @aZ @dw @e1 ?_);refine VC.ag aa (ao @aZ @dw ?_);refine WC.sound aa (ae @aZ ?_);exact aM
 ·have e1:(c==([]:Bs))=false:=by simpa using hc
  rw[if_neg hc];refine VC.ag aa (aI @aZ @dw @e1 ?_);refine VC.ag aa (ao @aZ @dw ?_);refine WC.sound aa (ae @aZ ?_);exact aM
theorem abF (L:List Gg) (tk:Tok) (O:VH) (hL:L.length<=60) (hk:∀x∈L,Nv x):VF Tryz.prog 22 [.sl L.length (L.flatMap wY) tk] O (aD fun m O'=>(∃t,m= .sl L.length (L.map fun x=>.str (jG x)) t)/\O.Ge O'):=by
 have hlen:=aT se L;have jk:jJ (fF Tryz.prog) 48 (.sl L.length (L.flatMap wY) tk)=some (.v (.int .i64 L.length)):=iS T48;refine VF.bO 18 [.tmp 2] Tryz.func22 ?_;refine VC.ag aa (ae @aZ ?_);refine VC.bJ [2] (fun t:Tok=>[.sl L.length (L.map fun x=>.str (jG x)) t]) (fun _ O'=>O.Ge O') ?_ ?_
 ·refine VC.ag aa (ao @aZ @jk ?_);refine VC.aB ?_;refine VC.bP [2,7] [5,6] (fun x:Nat×Tok=>[.sl x.1 ((L.take x.1).map fun x=>.str (jG x)) x.2,mi x.1]) (fun x O'=>x.1<=L.length/\O.Ge O'/\App O' O.next 1 x.2) (fun x=>L.length - x.1) ((0,.nil)) ?_ ?_
  ·exact⟨Nat.zero_le _,VH.Ge.refl _,trivial⟩
  rintro⟨j,t1⟩ O3 ⟨hj,aJ,oV⟩;dsimp only at hj oV ⊢;by_cases aX:j<L.length;rotate_left
  ·obtain rfl:j=L.length:=by omega
   rw[List.take_length];refine WC.sound aa (ae @aZ ?_);exact aA.mk t1 aJ
  have dd:((j:Int)+1)=((j+1:Nat):Int):=by omega
  have bA:=cg se L j aX;have cW:=hk L[j] (List.getElem_mem aX);have eb:(L.take (j+1)).map (fun x=>MV.str (jG x))=(L.take j).map (fun x=>MV.str (jG x))++[.str (jG L[j])]:=by rw[<-List.take_append_getElem aX,List.map_append];rfl
  have hlm:((L.take j).map fun x=>MV.str (jG x)).length=j:=by rw[List.length_map,List.length_take,Nat.min_eq_left hj]
  have rB:=fun O'=>JI L[j] O' cW
  generalize (L.take j).map (fun x=>MV.str (jG x))=P at*;generalize L[j]=x at*;generalize jG x=fx at*;obtain⟨⟨g,a,t,c⟩,v⟩:=x;simp only[wY]at bA rB;refine VC.ag aa (ae @aZ ?_);refine VC.ag aa (ae @aZ ?_);refine VC.bC (VC.aB ?_);refine VC.ag aa (ao @aZ @bA ?_);refine VC.al ?_;rintro O4 ⟨bg,gy,gM⟩;refine WC.sound aa (ao @aZ @gy ?_);refine ah.rt (rB O4) ?_;rintro _ O5 ⟨rfl,bW⟩;have lF:=aJ.trans (bg.trans bW);have cH:=(oV.ge bg).ge bW;have oP:=bo (tk:=t1) (tk':=.full) (n:=j) (k:=1) (cs:=P) (ds:=[.str fx]) uO T9 cH (by rw[hlm,Nat.mul_one]) rfl rfl (by decide) (by decide) (by omega) (by simp only[maxLen];omega);refine ae @aZ ?_;refine VL.app oP ?_;refine ae @aZ ?_;refine WC.sound aa (ao @aZ @dd ?_);exact az.next (j+1,.own O5.next 1) ⟨aX,cP.eo lF cH (cP.after cH),App.after lF.next⟩ (hl:=by dsimp only;rw[eb];rfl)
 rintro t O2 h2;refine VC.ag aa (ae @aZ ?_);refine WC.sound aa (ae @aZ ?_);exact⟨⟨t,rfl⟩,h2⟩
set_option linter.defProp false in
def bh:=And.intro aZ<|And.intro aei<|And.intro T93 T91
def Fm (u j:Nat) (b:Bn):Bool:=decide (0<j)&&(decide (b.up=(u:Int))&&decide (u<j))
def en (L:List Bn) (u:Nat):Nat->List Int
 | 0=>[]
 | j+1=>en L u j++match L[j]? with
   | some b=>if Fm u j b then[(j:Int)]else[]
   | none=>[]
theorem vL (L:List Bn) (u:Nat):∀j,(en L u j).length<=j
 | 0=>Nat.le_refl _
 | j+1=>by
   have:=vL L u j;rw[en,List.length_append];split
   ·split<;>simp<;>omega
   ·simp;omega
theorem Cb (L:List Bn) (u:Nat):∀(j:Nat) (k:Int),k∈en L u j->∃(i:Nat) (b:Bn),k=i/\i<j/\L[i]?=some b/\b.up=u/\u<i
 | 0,k,h=>by cases h
 | j+1,k,h=>by
   rw[en,List.mem_append]at h;rcases h with h | h
   ·obtain⟨i,b,h1,h2,h3⟩:=Cb L u j k h;exact⟨i,b,h1,by omega,h3⟩
   ·cases hL:L[j]? with
    | none=>rw[hL]at h;cases h
    | some b=>
      rw[hL]at h;dsimp only at h;cases hk:Fm u j b with
      | false=>rw[hk]at h;simp at h
      | true=>
        rw[hk]at h;simp only[Fm,Bool.and_eq_true,decide_eq_true_eq]at hk;exact⟨j,b,by simpa using h,by omega,hL,hk.2.1,hk.2.2⟩
def j8 (L:List Bn) (j:Nat) (T:Nat->Tok):List MV:=(List.range L.length).map fun u=>.sl (en L u j).length ((en L u j).map mi) (T u)
theorem nL (L:List Bn) (j:Nat) (T:Nat->Tok):(j8 L j T).length=L.length:=by simp[j8]
theorem sf (L:List Bn) (j:Nat) (T:Nat->Tok) (u:Nat) (h:u<L.length):(j8 L j T)[u]?=some (.sl (en L u j).length ((en L u j).map mi) (T u)):=by
 unfold j8;rw[List.getElem?_map,List.getElem?_range h];rfl
theorem Nw (L:List Bn):j8 L 0 (fun _=>.nil)=List.replicate L.length (.sl 0 [] .nil):=
 List.eq_replicate_iff.2 ⟨nL _ _ _,fun b hb=>by
  obtain⟨u,_,rfl⟩:=List.mem_map.1 hb;rfl⟩
theorem Nx (L:List Bn) (j:Nat) (T:Nat->Tok) (h:∀u,u<L.length->en L u (j+1)=en L u j):j8 L (j+1) T=j8 L j T:=by
 unfold j8;refine List.map_congr_left fun u hu=>?_
 rw[h u (List.mem_range.1 hu)]
theorem Q9 (L:List Bn) (j:Nat) (T:Nat->Tok) (u:Nat) (t:Tok) (hu:u<L.length) (h:∀v,v<L.length->en L v (j+1)=en L v j++if v=u then[(j:Int)]else[]):
  (j8 L j T).set u (.sl ((en L u j).length+1) ((en L u j).map mi++[mi j]) t)=j8 L (j+1) (fun v=>if v=u then t else T v):=by
 refine List.ext_getElem? fun i=>?_
 rw[List.getElem?_set,nL];by_cases e:u=i
 ·subst e;rw[if_pos rfl,if_pos hu,sf _ _ _ _ hu,h u hu,if_pos rfl,if_pos rfl,List.length_append,List.map_append];rfl
 ·rw[if_neg e];by_cases hi:i<L.length
  ·rw[sf _ _ _ _ hi,sf _ _ _ _ hi,h i hi,if_neg (Ne.symm e),if_neg (Ne.symm e),List.append_nil]
  ·rw[List.getElem?_eq_none (by rw[nL];omega),List.getElem?_eq_none (by rw[nL];omega)]
def TkO (n:Nat) (T:Nat->Tok) (B:Nat) (O:VH):Prop:=(∀u,u<n->App O B 1 (T u))/\∀u v,u<n->v<n->u≠v->∀i,Tok.id (T u)=some i->Tok.id (T v)≠some i
theorem TkO.ge {n B:Nat} {T:Nat->Tok} {O A:VH} (h:TkO n T B O) (g:O.Ge A):TkO n T B A:=⟨fun u hu=>(h.1 u hu).ge g,h.2⟩
set_option maxHeartbeats 4000000 in
theorem abG (L:List Bn) (tk:Tok) (O:VH) (hL:L.length<=1000):VF Tryz.prog 59 [.sl L.length (L.flatMap jR) tk] O (aD fun m O'=>∃T,m= .bp O.next 0 L.length L.length/\O.Ge O'/\O.next<O'.next/\O'.hp O.next=some (.cells (j8 L L.length T))):=by
 have hlen:=aT lQ L;have jk:jJ (fF Tryz.prog) 22 (.sl L.length (L.flatMap jR) tk)=some (.v (.int .i64 L.length)):=iS Iz;have lP:=fun O'=>afn (tab:=fF Tryz.prog) aei T28 O' L.length (by omega) (by omega)
 refine VF.bO 43 [.tmp 2] Tryz.func59 ?_;refine VC.ag aa (ae @bh ?_);refine VC.ag aa (aI @bh @jk @lP ?_);refine VC.bx ?_;rintro O1 ⟨aM,cS,c5⟩;rw[<-Nw]at cS;refine VC.bJ [3] (fun _:Unit=>[.bp O.next 0 L.length L.length]) (fun _ O'=>O.Ge O'/\O.next<O'.next/\∃T,O'.hp O.next=some (.cells (j8 L L.length T))) ?_ ?_
 ·refine VC.ag aa (ao @bh @jk ?_);refine VC.aB ?_;refine VC.bP [11] [3,9,10] (fun j:Nat=>[mi j]) (fun j O'=>j<=L.length/\O.Ge O'/\O1.next<=O'.next/\∃T,O'.hp O.next=some (.cells (j8 L j T))/\TkO L.length T O1.next O') (fun j=>L.length - j) (0) ?_ ?_
  ·exact⟨Nat.zero_le _,aM,Nat.le_refl _,_,cS,fun u _=>trivial,fun u v _ _ _ i h=>by cases h⟩
  clear cS;rintro j O3 ⟨hj,aJ,gL,T,oV,ht3⟩;by_cases aX:j<L.length;rotate_left
  ·obtain rfl:j=L.length:=by omega
   refine WC.sound aa (ae @bh ?_);exact aA.mk () ⟨aJ,by omega,T,oV⟩
  have dd:((j:Int)+1)=((j+1:Nat):Int):=by omega
  have bA:=cg lQ L j aX;have FV:∀u,en L u (j+1)=en L u j++if Fm u j L[j]then[(j:Int)]else[]:=fun u=>by rw[en,List.getElem?_eq_getElem aX]
  generalize L[j]=b at*;obtain⟨up,dp,od,⟨q1,q2,q3,q4⟩,v,hd,rv,nn,iv,Jt,s,rd⟩:=b;simp only[jR,ar,a_]at bA;unfold Fm at FV;dsimp only at FV;refine VC.ag aa (ae @bh ?_);refine VC.ag aa (ae @bh ?_);refine VC.bC (VC.aB ?_);refine VC.ag aa (ao @bh @bA ?_);refine VC.al ?_;rintro O4 ⟨bg,gy,gM⟩;have kG:=bg.at oV
  have skip:(∀u,u<L.length->en L u (j+1)=en L u j)->(j+1<=L.length/\O.Ge O4/\O1.next<=O4.next/\∃T,O4.hp O.next=some (.cells (j8 L (j+1) T))/\TkO L.length T O1.next O4):=fun h=>
   ⟨aX,aJ.trans bg,by omega,T,by rw[Nx L j T h];exact kG,ht3.ge bg⟩
  by_cases h0:0<j;rotate_left
  ·have e1:decide ((j:Int)>0)=false:=decide_eq_false (by omega);have e2:decide ((0:Int)<j)=false:=e1;have hs:=skip fun u _=>by rw[FV,decide_eq_false h0,Bool.false_and];simp
   refine VC.ag aa (aI @bh @gy (And.intro e1 e2) ?_);refine WC.sound aa (ae @bh ?_);refine WC.sound aa (ao @bh @dd ?_);exact az.next (j+1) hs
  have e1:decide ((j:Int)>0)=true:=decide_eq_true (by omega);have e2:decide ((0:Int)<j)=true:=e1;by_cases h1:0<=up;rotate_left
  ·have e3:decide (up>=0)=false:=decide_eq_false h1;have e4:decide ((0:Int)<=up)=false:=e3;have hs:=skip fun u _=>by rw[FV,decide_eq_false (show ¬up=(u:Int) by omega)];simp
   refine VC.ag aa (de @bh @gy (And.intro e1 e2) (And.intro e3 e4) ?_);refine WC.sound aa (ae @bh ?_);refine WC.sound aa (ao @bh @dd ?_);exact az.next (j+1) hs
  have e3:decide (up>=0)=true:=decide_eq_true h1;have e4:decide ((0:Int)<=up)=true:=e3;obtain⟨u,rfl⟩:=Int.eq_ofNat_of_zero_le h1;by_cases h2:u<j;rotate_left
  ·have e5:decide ((u:Int)<j)=false:=decide_eq_false (by omega)
   have hs:=skip fun w _=>by
    rw[FV];by_cases e:u=w
    ·subst e;rw[decide_eq_false h2];simp
    ·rw[decide_eq_false (show ¬(u:Int)=(w:Int) by omega)];simp
   refine VC.ag aa (gW @bh @gy (And.intro e1 e2) (And.intro e3 e4) @e5 ?_);refine WC.sound aa (ae @bh ?_);refine WC.sound aa (ao @bh @dd ?_);exact az.next (j+1) hs
  have e5:decide ((u:Int)<j)=true:=decide_eq_true (by omega);clear skip
  have ajA:∀w,w<L.length->en L w (j+1)=en L w j++if w=u then[(j:Int)]else[]:=fun w _=>by
   rw[FV,decide_eq_true h0,Bool.true_and];by_cases e:w=u
   ·subst e;rw[decide_eq_true rfl,decide_eq_true h2,if_pos rfl];rfl
   ·rw[decide_eq_false (show ¬(u:Int)=(w:Int) by omega),if_neg e];rfl
  have hru:=sf L j T u (by omega);have kh:=fun t=>Q9 L j T u t (by omega) ajA
  have u9:=nL L j T;have jY:=vL L u j;have AT:=ht3.ge bg;have cH:=AT.1 u (by omega);have oP:=bo (tk:=T u) (tk':=.full) (n:=(en L u j).length) (k:=1) (cs:=(en L u j).map mi) (ds:=[.v (.int .i64 j)]) T28 T3 cH (by rw[List.length_map,Nat.mul_one]) rfl rfl (by decide) (by decide) (by omega) (by simp only[maxLen];omega);simp only[ar]at kh oP hru;refine VC.ag aa (gW @bh @gy (And.intro e1 e2) (And.intro e3 e4) @e5 ?_);refine VC.AA rfl ?_;refine WC.bH (.held [12]) [(0,.rd),(1,.rd),(2,.rd),(3,.rd),(4,.rd),(5,.rd),(6,.rd),(7,.rd),(8,.rd),(9,.one),(10,.one),(11,.rd),(12,.one)] ?_;generalize hR:j8 L j T=R at*;refine gW @bh @gy @kG @u9 @hru ?_;refine VL.app oP ?_;have fl:=VH.o_ cH kG (by simp) (by omega);have gu:=VH.eN O4 (T u);have gO:∀i,i<O4.next->i<O1.next->(O4.after (T u)).hp i=O4.hp i:=fun i h h'=>(cP.after cH).hp i h fun e=>by have:=(cH.ou e).1;omega
  have htA:∀w,w<L.length->w≠u->App (O4.after (T u)) O1.next 1 (T w):=fun w hw hne=>cP.app (cP.after cH) (AT.1 w hw) (fun i e=>AT.2 u w (by omega) hw (Ne.symm hne) i e)
  have lq:App (O4.after (T u)) O1.next 1 (.own O4.next 1):=App.after (by omega);generalize O4.after (T u)=O5 at*;refine de @bh @fl @u9 @kh ?_;have aj1:=kh (.own O4.next 1);refine WC.sound aa (ao @bh @dd ?_);refine az.next (j+1) ⟨aX,⟨by show O.next<=O5.next;have:=aJ.next;omega,fun i hi=>?_⟩,by show O1.next<=O5.next;omega,_,VH.an _ _ _,fun w hw=>?_,?_⟩
  ·rw[VH.ak _ _ (by omega),gO i (by have:=aJ.next;omega) (by omega),bg.hp i (by have:=aJ.next;omega)];exact aJ.hp i hi
  ·refine adW (A:=O5) ?_ (fun i hi=>VH.ak _ _ (by omega)) (Nat.le_refl _);dsimp only;by_cases e:w=u
   ·rw[if_pos e];exact lq
   ·rw[if_neg e];exact htA w hw e
  ·intro w x hw hx hne i hi gd;dsimp only at hi gd;by_cases e:w=u
   ·rw[if_pos e]at hi;injection hi with hi;subst hi;rw[if_neg (fun e'=>hne (e.trans e'.symm))]at gd;have:=((AT.1 x hx).ou gd).2;omega
   ·rw[if_neg e]at hi;by_cases e':x=u
    ·rw[if_pos e']at gd;injection gd with gd;subst gd;have:=((AT.1 w hw).ou hi).2;omega
    ·rw[if_neg e']at gd;exact AT.2 w x hw hx hne i hi gd
 rintro _ O2 ⟨ax,iB,T,jc⟩;refine VC.ag aa (ae @bh ?_);refine WC.sound aa (ae @bh ?_);exact⟨T,ax,iB,jc⟩
def mD (L:List Bn) (p:Nat->Bool):Nat->Nat->List Int
 | 0,_=>[]
 | f+1,i=>(en L i L.length).flatMap fun k=>if p k.toNat then k::mD L p f k.toNat else[]
set_option maxHeartbeats 4000000 in
theorem WQ (L:List Bn) (T:Nat->Tok) (hL:L.length<=1000) (p:Nat->Bool) (fin JJ:FuncId) (cin Q_:List MV) (bu bi bd bf ob:Nat) (St:List Int->VH->Prop) (Bi:cM Tryz.prog fin=true) (ZG:cM Tryz.prog JJ=true)
  (hf:∀X A,St X A->A.hp bu=some (.cells [.bp ob 0 L.length L.length])/\A.hp ob=some (.cells (j8 L L.length T))/\A.hp bi=some (.cells [.func (.func fin) [] cin])/\A.hp bd=some (.cells [.func (.func JJ) [] Q_])/\A.hp bf=some (.cells [.func (.func 60) [] [.ptr bu 0,.ptr bi 0,.ptr bd 0,.ptr bf 0]]))
  (KZ:∀X A (k:Nat),St X A->k<L.length->VF Tryz.prog fin (mi k::cin) A (aD fun m A'=>m=mb (p k)/\St X A'))
  (Rt:List Int) (hdo:∀X A (k:Nat),St X A->k<L.length->p k=true->(∃Z,Rt=X++(k:Int)::Z)->VF Tryz.prog JJ (mi k::Q_) A (aD fun _ A'=>St (X++[(k:Int)]) A')):
  ∀(f i:Nat) (X Z:List Int) (O:VH),Rt=X++mD L p f i++Z->i<L.length->L.length - i<=f->St X O->VF Tryz.prog 60 [mi i,.ptr bu 0,.ptr bi 0,.ptr bd 0,.ptr bf 0] O (aD fun _ O'=>St (X++mD L p f i) O'):=by
 intro f;induction f with
 | zero=>intro i X Z O hR h1 h2;omega
 | succ f ih=>
   intro i X Z O hR hi hif hs;obtain⟨hu,ho,Cp,cK,hbf⟩:=hf X O hs;have hru:=sf L L.length T i hi;have u9:=nL L L.length T;have Ms:=Cb L i L.length;have jY:=vL L i L.length;unfold mD at hR ⊢;generalize en L i L.length=K at*;generalize j8 L L.length T=R at*;rw[ar];refine VF.bO 27 [] Tryz.func60 ?_;refine VC.ag aa (gW @bh @hu @ho @u9 @hru ?_);refine VC.aB ?_;refine VC.bP [13] [2,3,4,11,12] (fun j:Nat=>[mi j]) (fun j O'=>j<=K.length/\St (X++(K.take j).flatMap fun k=>if p k.toNat then k::mD L p f k.toNat else[]) O') (fun j=>K.length - j) (0) ?_ ?_
   ·exact⟨Nat.zero_le _,by simpa using hs⟩
   clear hu ho Cp cK hbf hs;rintro j O3 ⟨hj,IY⟩;by_cases aX:j<K.length;rotate_left
   ·obtain rfl:j=K.length:=by omega
    rw[List.take_length]at IY;refine WC.sound aa (ae @bh ?_);exact IY
   have dd:((j:Int)+1)=((j+1:Nat):Int):=by omega
   obtain⟨k,b,sm,dT,bR,dG,ja⟩:=Ms K[j] (List.getElem_mem aX);have jm:(K.map mi)[j]?=some (.v (.int .i64 k)):=by rw[List.getElem?_map,List.getElem?_eq_getElem aX,sm];rfl
   have eb:(K.take (j+1)).flatMap (fun k=>if p k.toNat then k::mD L p f k.toNat else[])=(K.take j).flatMap (fun k=>if p k.toNat then k::mD L p f k.toNat else[])++if p k then(k:Int)::mD L p f k else[]:=by
    rw[<-List.take_append_getElem aX,List.flatMap_append,sm];simp
   have IV:Rt=X++(K.take j).flatMap (fun k=>if p k.toNat then k::mD L p f k.toNat else[])++((if p k then(k:Int)::mD L p f k else[])++((K.drop (j+1)).flatMap (fun k=>if p k.toNat then k::mD L p f k.toNat else[])++Z)):=by
    have h1:K.flatMap (fun k=>if p k.toNat then k::mD L p f k.toNat else[])=(K.take (j+1)).flatMap (fun k=>if p k.toNat then k::mD L p f k.toNat else[])++(K.drop (j+1)).flatMap (fun k=>if p k.toNat then k::mD L p f k.toNat else[]):=by rw[<-List.flatMap_append,List.take_append_drop]
    rw[hR,h1,eb];simp
   have fO:(K.map mi).length=K.length:=List.length_map _;generalize (K.take j).flatMap (fun k=>if p k.toNat then k::mD L p f k.toNat else[])=Y at*;obtain⟨_,_,Cp,cK,hbf⟩:=hf _ O3 IY;have ua:=KZ _ O3 k IY (by omega);simp only[ar]at ua;refine VC.ag aa (ae @bh ?_);refine VC.ag aa (ae @bh ?_);refine VC.bC (VC.aB ?_);refine VC.ag aa (aI @bh @fO @jm ?_);refine VC.ag aa (ao @bh @Cp ?_);refine ah.rt ua ?_ (hb:=Bi);clear ua;rintro _ O4 ⟨rfl,Cv⟩;cases jl:p k
   ·rw[jl,if_neg (by decide),List.append_nil]at eb;simp only[a_];refine ae @bh ?_;refine WC.sound aa (ae @bh ?_);refine WC.sound aa (ao @bh @dd ?_);exact az.next (j+1) ⟨aX,by rw[eb];exact Cv⟩
   rw[jl,if_pos rfl]at eb;simp only[a_];refine ae @bh ?_;refine VC.AA rfl ?_;obtain⟨_,_,akx,ajB,aky⟩:=hf _ O4 Cv;rw[jl,if_pos rfl]at IV;have x_:=hdo _ O4 k Cv (by omega) jl ⟨_,IV⟩;simp only[ar]at x_;refine VC.ag aa (ao @bh @ajB ?_);refine ah.rt x_ ?_ (hb:=ZG);clear x_;rintro _ O5 hs5;obtain⟨_,_,akz,akA,ajC⟩:=hf _ O5 hs5;have qn:=ih k _ _ O5 (by rw[IV];simp only[List.append_assoc,List.cons_append,List.nil_append];rfl) (by omega) (by omega) hs5;simp only[ar]at qn;refine ae @bh ?_;refine WC.sound aa (ao @bh @ajC ?_);refine ah.rt qn ?_;clear qn;rintro _ O6 Ez;refine ae @bh ?_;refine WC.sound aa (ao @bh @dd ?_);exact az.next (j+1) ⟨aX,by rw[eb];simpa using Ez⟩
set_option maxHeartbeats 4000000 in
theorem abH (L:List Bn) (tk:Tok) (hL:L.length<=1000) (h0:0<L.length) (p:Nat->Bool) (fin JJ:FuncId) (cin Q_:List MV) (St:List Int->VH->Prop) (O:VH) (Bi:cM Tryz.prog fin=true) (ZG:cM Tryz.prog JJ=true)
  (hS0:St [] O) (hSg:∀X A B,St X A->A.Ge B->St X B)
  (KZ:∀X A (k:Nat),St X A->k<L.length->VF Tryz.prog fin (mi k::cin) A (aD fun m A'=>m=mb (p k)/\A.Ge A'))
  (hdo:∀X A (k:Nat),St X A->k<L.length->p k=true->(∃Z,mD L p L.length 0=X++(k:Int)::Z)->VF Tryz.prog JJ (mi k::Q_) A (aD fun _ A'=>St (X++[(k:Int)]) A'/\A.next<=A'.next/\∀i cs,O.next<=i->A.hp i=some (.cells cs)->i<A.next->A'.hp i=some (.cells cs))):
  VF Tryz.prog 45 [.sl L.length (L.flatMap jR) tk,.func (.func fin) [] cin,.func (.func JJ) [] Q_] O (aD fun _ O'=>St (mD L p L.length 0) O'):=by
 have jk:jJ (fF Tryz.prog) 22 (.sl L.length (L.flatMap jR) tk)=some (.v (.int .i64 L.length)):=iS Iz;refine VF.bO 16 [] Tryz.func45 ?_;refine VC.ag aa (ae @bh ?_);refine VC.gen ?_;intro O1 e1;obtain⟨aM,c5,cS,cA⟩:=gk _ _ e1;clear e1;refine VC.ag aa (ae @bh ?_);refine ah.rt (abG L tk O1 hL) ?_;rintro _ O2 ⟨T,rfl,ax,iB,fi⟩;refine ae @bh ?_;refine VC.al ?_;rintro O3 ⟨aJ,cN,gL⟩;refine VC.ag aa (ae @bh ?_);refine VC.bx ?_;rintro O4 ⟨bg,hf4,gM⟩;refine VC.ag aa (ao @bh @hf4 ?_);refine VC.gen ?_;intro O5 e5;have gO:∀i,i≠O3.next->O5.hp i=O4.hp i:=fun i h=>by rw[e5];exact VH.ak _ _ h
 have Ju:O5.hp O3.next=some (.cells [.func (.func 60) [] [.ptr O2.next 0,.ptr O.next 0,.ptr (O.next+1) 0,.ptr O3.next 0]]):=by rw[e5];exact VH.an _ _ _
 have gu:O5.next=O4.next:=by rw[e5];rfl
 clear e5 hf4;have fl:=(gO O.next (by omega)).trans (bg.at (aJ.at (ax.at cS)));have cV:=(gO (O.next+1) (by omega)).trans (bg.at (aJ.at (ax.at cA)));have qn:=(gO O1.next (by omega)).trans (bg.at (aJ.at fi));have oQ:=(gO O2.next (by omega)).trans (bg.at cN);have lF:O.Ge O5:=⟨by omega,fun i hi=>(gO i (by omega)).trans ((bg.hp i (by omega)).trans ((aJ.hp i (by omega)).trans ((ax.hp i (by omega)).trans (aM.hp i hi))))⟩;have hs5:=hSg _ _ _ hS0 lF
 have hw:=WQ L T hL p fin JJ cin Q_ O2.next O.next (O.next+1) O3.next O1.next (fun X A=>St X A/\O5.next<=A.next/\A.hp O2.next=some (.cells [.bp O1.next 0 L.length L.length])/\A.hp O1.next=some (.cells (j8 L L.length T))/\A.hp O.next=some (.cells [.func (.func fin) [] cin])/\A.hp (O.next+1)=some (.cells [.func (.func JJ) [] Q_])/\A.hp O3.next=some (.cells [.func (.func 60) [] [.ptr O2.next 0,.ptr O.next 0,.ptr (O.next+1) 0,.ptr O3.next 0]])) Bi ZG (fun X A h=>h.2.2)
  (fun X A k ⟨h1,h2,h3,h4,h5,h6,h7⟩ hk=>VF.mono (fun r A' h=>by
   cases r with
   | panic m=>exact h
   | ret m=>exact⟨h.1,hSg _ _ _ h1 h.2,Nat.le_trans h2 h.2.next,h.2.at h3,h.2.at h4,h.2.at h5,h.2.at h6,h.2.at h7⟩) (KZ X A k h1 hk))
  (mD L p L.length 0) (fun X A k ⟨h1,h2,h3,h4,h5,h6,h7⟩ hk hp hZ=>VF.mono (fun r A' h=>by
   cases r with
   | panic m=>exact h
   | ret m=>
     obtain⟨g1,g2,g3⟩:=h;exact⟨g1,Nat.le_trans h2 g2,g3 _ _ (by omega) h3 (by omega),g3 _ _ (by omega) h4 (by omega),g3 _ _ (by omega) h5 (by omega),g3 _ _ (by omega) h6 (by omega),g3 _ _ (by omega) h7 (by omega)⟩) (hdo X A k h1 hk hp hZ))
  L.length 0 [] [] O5 (by simp) h0 (by omega) ⟨hs5,Nat.le_refl _,oQ,qn,fl,cV,Ju⟩
 simp only[ar]at hw;have e9:decide ((L.length:Int)>0)=true:=decide_eq_true (by omega);have e8:decide ((0:Int)<L.length)=true:=e9;refine WC.sound aa (de @bh @jk (And.intro e9 e8) @Ju ?_);refine ah.rt hw ?_;rintro _ O6 ⟨Ez,_⟩;refine ae @bh ?_;simpa using Ez
section
variable {G H:Gh} {n:Sz} {D:List Deferred} {e:Env} {P:Program} {tab:b9} {O:VH} {Q:VQ} {ops:Array Oper}
def JF3 (k0 k1 k2:Nat) (X0 X1 X2:Obj) (J0:VH->Prop) (A:VH):Prop:=A.hp k0=some (.obj X0)/\A.hp k1=some (.obj X1)/\A.hp k2=some (.obj X2)/\J0 A
def PF3 (c0 c1 c2:List MV) (X0 X1 X2:Obj) (G:Gh):Prop:=ij c0 X0 G/\ij c1 X1 G/\ij c2 X2 G
theorem VC.ad0 {id:Nat} (brk:List Nat) (k0 k1 k2:Nat) (J0:VH->Prop) {c0 c1 c2:List MV} (h0:O.hp k0=some (.cells c0)) (h1:O.hp k1=some (.cells c1)) (h2:O.hp k2=some (.cells c2)) (n1:k1≠k0) (n2:k2≠k0) (n3:k2≠k1)
  (hJ:∀X0 X1 X2,J0 (((O.set k0 (.obj X0)).set k1 (.obj X1)).set k2 (.obj X2)))
  (h:∀X0 X1 X2,ab P n D ops brk (JF3 k0 k1 k2 X0 X1 X2 J0) (PF3 c0 c1 c2 X0 X1 X2) True ops.size (Array.replicate ops.size false) e (((O.set k0 (.obj X0)).set k1 (.obj X1)).set k2 (.obj X2)) Q) (hm:P.follows .mixedOrders=true:=by kernel_rfl):VC P n D (.region id ops true) e O Q:=
 fun G a w hw hf=>by
  obtain⟨X0,hx0,hw0⟩:=(hw.drawn _).fix h0;obtain⟨X1,dw,DT⟩:=hw0.fix (k:=k1) (cs:=c1) ((VH.ak _ _ n1).trans h1);obtain⟨X2,iL,qk⟩:=DT.fix (k:=k2) (cs:=c2) ((VH.ak _ _ n3).trans ((VH.ak _ _ n2).trans h2))
  exact wp_region_any hm (jo _ _ _ _ (h X0 X1 X2 (fun _ _ hl hx=>⟨ij.mono hl hx.1,ij.mono hl hx.2.1,ij.mono hl hx.2.2⟩) trivial
   ⟨(VH.ak _ _ (Ne.symm n2)).trans ((VH.ak _ _ (Ne.symm n1)).trans (VH.an _ _ _)),(VH.ak _ _ (Ne.symm n3)).trans (VH.an _ _ _),VH.an _ _ _,hJ _ _ _⟩ G a _ ⟨hx0,dw,iL⟩ qk hf))
theorem ab.ad1 (ix:List (Nat×Fl)) {brk:List Nat} {k0 k1 k2:Nat} {c0 c1 c2:List MV} {X0 X1 X2:Obj} {J0:VH->Prop} {fuel:Nat} {listed:Array Bool} {l:List Oper} {L:List (Fl×Oper)} (n1:k1≠k0) (n2:k2≠k0) (n3:k2≠k1)
  (h:WL P tab n D .any ⟨l⟩ Q L e (((O.set k0 (.cells c0)).set k1 (.cells c1)).set k2 (.cells c2))) (ht:aK P tab:=by exact aa) (hb:((List.range listed.size).all fun j=>listed.getD j true||brk.contains j)=true:=by kernel_rfl) (hs:Region.noSelect ⟨l⟩=true:=by kernel_rfl) (hp:cE .any ⟨l⟩ fuel listed ix=true:=by kernel_rfl) (hL:mQ l ix=some L:=by exact rfl):ab P n D ⟨l⟩ brk (JF3 k0 k1 k2 X0 X1 X2 J0) (PF3 c0 c1 c2 X0 X1 X2) True fuel listed e O Q:=by
 have h':=cf.bH ix h (ht:=ht) (hs:=hs) (hp:=hp) (hL:=hL);intro hΨ hZ hJ G a w hψ hw aS;refine kT _ _ _ _ (fun j hj x hs=>⟨hs,fun hh=>?_⟩) (h' G a w (((hw.rF hJ.1 hψ.1).rF (k:=k1) ((VH.ak _ _ n1).trans hJ.2.1) hψ.2.1).rF (k:=k2) ((VH.ak _ _ n3).trans ((VH.ak _ _ n2).trans hJ.2.2.1)) hψ.2.2) aS);rcases Nat.lt_or_ge j listed.size with hl | hl
 ·have:=List.all_eq_true.1 hb j (List.mem_range.2 hl);rw[hj,Bool.false_or]at this;rw[this]at hh;cases hh
 ·rw[Array.getD_eq_getD_getElem?,Array.getElem?_eq_none (by simpa using hl)]at hj;cases hj
end
set_option maxHeartbeats 4000000 in
theorem SU (L:List Bn) (X:List Ch) (tk tx:Tok) (k:Nat) (b:Bn) (hb:L[k]?=some b) (hL:L.length<=1000) (s:Bs) (R:List Bs) (hR:R.length<=1000) (t:Tok) (ko kl kc B:Nat) (O:VH) (ho:O.hp ko=some (.cells [.sl R.length (R.map .str) t])) (hl:O.hp kl=some (.cells [.sl L.length (L.flatMap jR) tk])) (hc:O.hp kc=some (.cells [.sl X.length (X.flatMap qb) tx]))
  (n1:kl≠ko) (n2:kc≠ko) (n3:kc≠kl) (hk:ko<O.next/\kl<O.next/\kc<O.next) (cH:App O B 1 t) (hB:B<=O.next) (Fo:∀A,VF Tryz.prog 55 [.agg (jR b),mi k,.sl X.length (X.flatMap qb) tx] A (aD fun m A'=>m= .str s/\A.Ge A')):
  VF Tryz.prog 54 [mi k,.ptr ko 0,.ptr kl 0,.ptr kc 0] O (aD fun _ O'=>∃t',O'.hp ko=some (.cells [.sl (R.length+1) ((R++[s]).map .str) t'])/\App O' B 1 t'/\O.next<=O'.next/\∀i cs,i<O.next->i≠ko->O.hp i=some (.cells cs)->O'.hp i=some (.cells cs)):=by
 have hlen:=aT lQ L;obtain⟨jY,ZM⟩:=List.getElem?_eq_some_iff.1 hb;have bA:=cg lQ L k jY;rw[ZM]at bA;obtain⟨up,dp,od,⟨q1,q2,q3,q4⟩,v,hd,rv,nn,iv,Jt,sc,rd⟩:=b;simp only[jR,ar,a_]at bA Fo;rw[ar];obtain⟨h0,h1,h2⟩:=hk;refine VF.bO 15 [] Tryz.func54 ?_;refine VC.ad0 [9,10] ko kl kc (fun A=>O.next<=A.next/\∀i,i<O.next->i≠ko->i≠kl->i≠kc->A.hp i=O.hp i) ho hl hc n1 n2 n3 (fun X0 X1 X2=>⟨Nat.le_refl _,fun i _ g1 g2 g3=>by rw[VH.ak _ _ g3,VH.ak _ _ g2,VH.ak _ _ g1]⟩) ?_;intro X0 X1 X2;obtain⟨A,hA⟩:∃A,A=((O.set ko (.obj X0)).set kl (.obj X1)).set kc (.obj X2):=⟨_,rfl⟩
 have hJA:JF3 ko kl kc X0 X1 X2 (fun A=>O.next<=A.next/\∀i,i<O.next->i≠ko->i≠kl->i≠kc->A.hp i=O.hp i) A:=by
  rw[hA];exact⟨(VH.ak _ _ (Ne.symm n2)).trans ((VH.ak _ _ (Ne.symm n1)).trans (VH.an _ _ _)),(VH.ak _ _ (Ne.symm n3)).trans (VH.an _ _ _),VH.an _ _ _,Nat.le_refl _,fun i _ g1 g2 g3=>by rw[VH.ak _ _ g3,VH.ak _ _ g2,VH.ak _ _ g1]⟩
 rw[<-hA];clear hA;refine ab.nX (m:=.sl R.length (R.map .str) t) 0 (fun _ h=>h.1) (fun _ h=>h.1) ?_ ?_
 ·exact eW @bh
 simp only[aj];refine ab.nX (m:=.sl L.length (L.flatMap jR) tk) 1 (fun _ h=>h.2.1) (fun _ h=>h.2.1) ?_ ?_
 ·exact eW @bh
 simp only[aj];refine ab.av 2 ?_;refine ae @bh ?_;refine ab.av 3 ?_;refine ae @bh ?_;refine ab.av 4 ?_;refine ao @bh @bA ?_;refine ab.av 5 ?_;refine ae @bh ?_;refine ab.nX (m:=.sl X.length (X.flatMap qb) tx) 6 (fun _ h=>h.2.2.1) (fun _ h=>h.2.2) ?_ ?_
 ·exact eW @bh
 simp only[aj];refine ab.call (i:=7) (Fo A) ?_;rintro _ A1 ⟨rfl,aM⟩;simp only[aj];have c5:=aM.next;have Wt:=hJA.2.2.2;have nf:JF3 ko kl kc X0 X1 X2 (fun A=>O.next<=A.next/\∀i,i<O.next->i≠ko->i≠kl->i≠kc->A.hp i=O.hp i) A1:=⟨aM.at hJA.1,aM.at hJA.2.1,aM.at hJA.2.2.1,by omega,fun i hi g1 g2 g3=>(aM.hp i (by omega)).trans (Wt.2 i hi g1 g2 g3)⟩;refine⟨nf,?_⟩;refine ab.op (i:=8) ?_;refine ae @bh ?_;refine⟨nf,?_⟩;refine ab.ad1 [(9,.one),(10,.one)] n1 n2 n3 ?_;refine WL.gen ?_;intro A2 e2;have Px:A2.hp ko=some (.cells [.sl R.length (R.map .str) t]):=by rw[e2,VH.ak _ _ (Ne.symm n2),VH.ak _ _ (Ne.symm n1),VH.an]
 have ax:O.Ge A2:=by
  refine⟨by rw[e2];exact nf.2.2.2.1,fun i hi=>?_⟩;rw[e2];by_cases g3:i=kc
  ·subst g3;rw[VH.an,hc]
  ·rw[VH.ak _ _ g3];by_cases g2:i=kl
   ·subst g2;rw[VH.an,hl]
   ·rw[VH.ak _ _ g2];by_cases g1:i=ko
    ·subst g1;rw[VH.an,ho]
    ·rw[VH.ak _ _ g1];exact nf.2.2.2.2 i hi g1 g2 g3
 clear e2 nf hJA Wt aM c5;have B7:=cH.ge ax;have iB:=ax.next;have oP:=bo (tk:=t) (tk':=.full) (n:=R.length) (k:=1) (cs:=R.map .str) (ds:=[.str s]) uO T9 B7 (by rw[List.length_map,Nat.mul_one]) rfl rfl (by decide) (by decide) (by omega) (by simp only[maxLen];omega);refine ae @bh ?_;refine VL.app oP ?_;have Wg:=VH.o_ B7 Px (by simp) (by omega);have gL:=VH.eN A2 t;have dG:∀i cs,i<O.next->O.hp i=some (.cells cs)->(A2.after t).hp i=some (.cells cs):=fun i cs hi h=>VH.o_ B7 (ax.at h (hk:=hi)) (by simp) (by omega)
 have jw:App (A2.after t) B 1 (.own A2.next 1):=App.after (by omega);generalize A2.after t=A3 at*;refine ao @bh @Wg ?_;refine⟨.own A2.next 1,?_,?_,?_,?_⟩
 ·rw[List.map_append];rfl
 ·exact⟨jw.1,(VH.ak _ _ (by have:=jw.2.2.2;intro e;have h9:=jw.2.1;rw[e,Wg]at h9;cases h9)).trans jw.2.1,jw.2.2⟩
 ·show O.next<=A3.next;omega
 ·intro i cs hi hne h;rw[VH.ak _ _ hne];exact dG i cs hi h
theorem abI (V:List Bool) (k:Nat) (hk:k<V.length) (n bl lb:Nat) (hn:V.length=n) (O:VH) (h1:O.hp bl=some (.cells [.bp lb 0 n n])) (h2:O.hp lb=some (.cells (V.map mb))):
  VF Tryz.prog 56 [mi k,.ptr bl 0] O (aD fun m O'=>m=mb (V.getD k false)/\O.Ge O'):=by
 have hg:(V.map mb)[k]?=some (.v (.bool (V.getD k false))):=by
  rw[List.getElem?_map,List.getD_eq_getElem?_getD,List.getElem?_eq_getElem hk];rfl
 have iR:(V.map mb).length=n:=by rw[List.length_map,hn]
 subst hn;rw[ar];refine VF.bO 8 [.tmp 3] Tryz.func56 ?_;refine VC.ag aa (ae @bh ?_);refine VC.ag aa (gW @bh @h1 @h2 @iR @hg ?_);refine WC.sound aa (ae @bh ?_);exact VH.Ge.refl _
set_option maxHeartbeats 4000000 in
theorem WS (L:List Bn) (X:List Ch) (tk tx:Tok) (hL:L.length<=1000) (h0:0<L.length) (hk:∀b∈L,∀s∈dW b.k,s.length<=maxLen) (f:Nat->Bs) (Fo:∀(k:Nat) (b:Bn) A,L[k]?=some b->VF Tryz.prog 55 [.agg (jR b),mi k,.sl X.length (X.flatMap qb) tx] A (aD fun m A'=>m= .str (f k)/\A.Ge A')) (O:VH)
  (R:List Int) (hR:mD L (fun k=>(kj L).2.1.getD k false) L.length 0=R) (Qb:R.length<=900):
  VF Tryz.prog 40 [.sl L.length (L.flatMap jR) tk,.sl X.length (X.flatMap qb) tx] O (aD fun m O'=>∃t,m= .sl (R.length+1) ((f 0::R.map fun k=>f k.toNat).map .str) t/\O.next<=O'.next/\∀i cs,i<O.next->O.hp i=some (.cells cs)->O'.hp i=some (.cells cs)):=by
 have jk:jJ (fF Tryz.prog) 22 (.sl L.length (L.flatMap jR) tk)=some (.v (.int .i64 L.length)):=iS Iz;have rM:=List.getElem?_eq_getElem h0;have jV:=(Bj L).2;refine VF.bO 20 [.cell 4 51] Tryz.func40 ?_;refine VC.ag aa (ae @bh ?_);refine VC.gen ?_;intro O1 e1;obtain⟨aM,c5,p9,fN,Pw⟩:=lG _ _ _ e1;clear e1;refine VC.ag aa (de @bh @p9 @jk (show((L.length:Int)==0)=false from by rw[beq_eq_false_iff_ne];omega) ?_);refine VC.ag aa (ao @bh @p9 ?_);refine ah.rt (adD L tk (by omega) hk O1) ?_;rintro _ O2 ⟨lb,rfl,ax,wN,hhi,iR⟩;generalize (kj L).2.1=V at*;refine ae @bh ?_;refine VC.al ?_;rintro O3 ⟨aJ,cu,gL⟩;have n2:=ax.next;have lN:=aJ.at (ax.at p9);have eE:=aJ.at (ax.at fN);have Wg:=aJ.at (ax.at Pw);have ajD:=aJ.at iR;refine VC.ag aa (ae @bh ?_);have ht:=SU L X tk tx 0 _ rM hL (f 0) [] (by simp) .nil (O.next+2) O.next (O.next+1) O3.next O3 Wg lN eE (by omega) (by omega) (by omega) (by omega) trivial (Nat.le_refl _) (fun A=>Fo 0 _ A rM);rw[ar]at ht;refine VC.ag aa (ae @bh ?_);refine ah.rt ht ?_;clear ht;rintro _ O4 ⟨t4,ho4,lM,gM,ja⟩;have n7:=ja _ _ (by omega) (by omega) lN;have eX:=ja _ _ (by omega) (by omega) eE;have cQ:=ja _ _ (by omega) (by omega) cu;have ajE:=ja _ _ (by omega) (by omega) ajD;have hO4:∀i cs,i<O.next->O.hp i=some (.cells cs)->O4.hp i=some (.cells cs):=fun i cs hi h=>ja i cs (by omega) (by omega) (aJ.at (ax.at (aM.at h)))
 refine ae @bh ?_
 have hw:=abH L tk hL h0 (fun k=>V.getD k false) 56 54 [.ptr O2.next 0] [.ptr (O.next+2) 0,.ptr O.next 0,.ptr (O.next+1) 0] (fun Y A=>∃t,A.hp (O.next+2)=some (.cells [.sl (Y.length+1) ((f 0::Y.map fun k=>f k.toNat).map .str) t])/\App A O3.next 1 t/\O4.next<=A.next/\A.hp O.next=some (.cells [.sl L.length (L.flatMap jR) tk])/\A.hp (O.next+1)=some (.cells [.sl X.length (X.flatMap qb) tx])/\A.hp O2.next=some (.cells [.bp lb 0 L.length L.length])/\A.hp lb=some (.cells (V.map mb))/\∀i cs,i<O.next->O.hp i=some (.cells cs)->A.hp i=some (.cells cs)) O4 (by kernel_rfl) (by kernel_rfl)
  ⟨t4,ho4,lM,Nat.le_refl _,n7,eX,cQ,ajE,hO4⟩
  (fun Y A C ⟨t,g1,g2,g3,g4,g5,g6,g7,g8⟩ hg=>⟨t,hg.at g1,g2.ge hg,Nat.le_trans g3 hg.next,hg.at g4,hg.at g5,hg.at g6,hg.at g7,fun i cs hi h=>hg.at (g8 i cs hi h)⟩)
  (fun Y A k ⟨t,g1,g2,g3,g4,g5,g6,g7,_⟩ hk=>abI V k (by omega) L.length O2.next lb jV A g6 g7)
  (fun Y A k ⟨t,g1,g2,g3,g4,g5,g6,g7,g8⟩ hk _ ⟨Z,hZ⟩=>by
   have hYl:Y.length<=900:=by
    rw[hR]at hZ;rw[hZ,List.length_append]at Qb;omega
   have hlen:(f 0::Y.map fun k=>f k.toNat).length=Y.length+1:=by simp
   have hb:=List.getElem?_eq_getElem hk;rw[<-hlen]at g1;refine VF.mono ?_ (SU L X tk tx k _ hb hL (f k) (f 0::Y.map fun k=>f k.toNat) (by omega) t (O.next+2) O.next (O.next+1) O3.next A g1 g4 g5 (by omega) (by omega) (by omega) (by omega) g2 (by omega) (fun A=>Fo k _ A hb));rintro(m | m) A' h;rotate_left
   ·exact h
   obtain⟨t',q1,q2,q3,q4⟩:=h;refine⟨⟨t',?_,q2,by omega,q4 _ _ (by omega) (by omega) g4,q4 _ _ (by omega) (by omega) g5,q4 _ _ (by omega) (by omega) g6,q4 _ _ (by omega) (by omega) g7,fun i cs hi h=>q4 i cs (by omega) (by omega) (g8 i cs hi h)⟩,q3,fun i cs h1 h2 h3=>q4 i cs h3 (by omega) h2⟩;rw[q1,hlen];simp)
 rw[hR]at hw;refine VC.ag aa (ao @bh @n7 ?_);refine ah.rt hw ?_;clear hw;rintro _ O5 ⟨t,g1,g2,g3,g4,g5,g6,g7,g8⟩;refine ae @bh ?_;refine VC.ag aa (ao @bh @g1 ?_);refine WC.sound aa (ae @bh ?_);exact⟨t,rfl,by show O.next<=O5.next;omega,fun i cs hi h=>(VH.ak _ _ (by omega)).trans (g8 i cs hi h)⟩
def SV (rp:Bs) (b:Bn):Bs:=if dR b.s=[]then rp++(mj b.k++[58]++b.v)else rp++(mj b.k++[58]++b.v)++[32]++dR b.s
theorem Ny (n:Int):(dR n).length<=20:=by
 unfold dR;repeat' split
 all_goals simp
set_option maxHeartbeats 4000000 in
theorem SW (b:Bn) (i:Nat) (X:List Ch) (tx:Tok) (c:Ch) (rp:Bs) (hrp:(b.dp=0/\rp=[])\/(b.dp=1/\rp=[32,32])) (hX:X.length<=1000) (hc:X.find? (fun c=>qo c.k b.k)=some c) (hca:c.at'=(i:Int)) (ic:c.s=b.s) (Gb:b.rd=false)
  (h1:b.k.g.length<=500) (h2:b.k.a.length<=500) (h3:b.k.t.length<=500) (h4:b.k.c.length<=500) (h5:b.v.length<=500) (O:VH):VF Tryz.prog 55 [.agg (jR b),mi i,.sl X.length (X.flatMap qb) tx] O (aD fun m O'=>m= .str (SV rp b)/\O.Ge O'):=by
 obtain⟨up,dp,od,⟨k1,k2,k3,k4⟩,v,hd,rv,nn,iv,Jt,s,rd⟩:=b;dsimp only at hrp hc ic Gb h1 h2 h3 h4 h5;subst Gb;have jl:=fun O'=>Lm ⟨k1,k2,k3,k4⟩ O' (by dsimp only;omega) (by dsimp only;omega) (by dsimp only;omega) (by dsimp only;omega)
 have dK:(mj ⟨k1,k2,k3,k4⟩).length<=2100:=by
  unfold mj;split<;>simp only[List.length_append,List.length_cons,List.length_nil]<;>omega
 have hfi:=fun O'=>adF X tx ⟨k1,k2,k3,k4⟩ O' (by omega)
 rw[hc]at hfi;obtain⟨⟨c1,c2,c3,c4⟩,ca,cv,cs⟩:=c;dsimp only at hca ic;subst hca;subst ic
 have ox:=Ny cs;have VV:=fun O'=>IG cs O'
 unfold SV;dsimp only;have j2:∀(p q m:Bs) (tk:Tok) (O':VH),p.length<=5000->q.length<=5000->m.length<=10->VF Tryz.prog 41 [.str m,.sl 2 [.str p,.str q] tk] O' (aD fun r j4=>r= .str (p++m++q)/\j4=O'):=fun p q m tk O' hp hq hm=>Fk m 2 _ [p,q] tk _ O' rfl rfl (by simp[Lib.join]) (by simp) (by simp only[List.length_append];omega)
 have dd:=fun O' tk=>j2 (mj ⟨k1,k2,k3,k4⟩) v [58] tk O' (by omega) (by omega) (by decide)
 have u9:rp.length<=2:=by rcases hrp with⟨_,rfl⟩ | ⟨_,rfl⟩<;>decide
 have Nz:∀O',VF Tryz.prog 76 [.str [32,32],.v (.int .i64 (max dp 0))] O' (aD fun m j4=>m= .str rp/\j4=O'):=fun O'=>by
  rcases hrp with⟨rfl,rfl⟩ | ⟨rfl,rfl⟩
  ·exact adY _ _
  ·exact adZ _ _
 clear hrp hc;simp only[jR,fQ,ar,a_,aa_,qb]at jl hfi VV ⊢;generalize mj ⟨k1,k2,k3,k4⟩=pk at*;generalize hsw:dR cs=w at*;have aX:=fun O' tk=>j2 (rp++(pk++[58]++v)) w [32] tk O' (by simp only[List.length_append,List.length_cons,List.length_nil];omega) (by omega) (by decide)
 refine VF.bO 82 [.tmp 6] Tryz.func55 ?_;refine VC.ag aa (ae @bh ?_);refine VC.bx ?_;rintro O1 ⟨aM,dw,c5⟩;refine VC.bC ?_;refine VC.lY [11,12] ?_;refine ab.av 0 ?_;refine ae @bh ?_;refine ab.ld (m:=.v (.int .i64 dp)) 1 ?_ ?_
 ·exact c9 @bh @dw
 simp only[aj];refine ab.av 2 ?_;refine ae @bh ?_;refine ab.av 4 ?_;refine ae @bh ?_;refine ab.ld (m:=.agg [.str k1,.str k2,.str k3,.str k4]) 5 ?_ ?_
 ·exact c9 @bh @dw
 simp only[aj];refine ab.av 7 ?_;refine ae @bh ?_;refine ab.ld (m:=.str v) 8 ?_ ?_
 ·exact c9 @bh @dw
 simp only[aj];refine ab.call (i:=3) (Nz O1) ?_;rintro _ Ox ⟨rfl,eO⟩;simp only[aj];rw[eO];clear eO Ox
 refine⟨VH.Ge.refl _,?_⟩;refine ab.call (i:=6) (jl O1) ?_;rintro _ O2 ⟨rfl,ax⟩;simp only[aj];refine⟨ax,?_⟩;refine ab.op (i:=9) ?_;refine ae @bh ?_;refine⟨ax,?_⟩;refine ab.call (i:=10) (dd O2 _) ?_;rintro _ Ox ⟨rfl,eO⟩;simp only[aj];rw[eO];clear eO Ox
 refine⟨ax,?_⟩;refine ab.bH [(11,.av),(12,.av)] ?_;refine ae @bh ?_;have iL:=ax.at dw;refine VC.bJ [1,2,3,7] (fun _:Unit=>[.v (.int .i64 i),.sl X.length (X.flatMap qb) tx,.ptr O.next 0,.str (if w=[]then rp++(pk++[58]++v)else rp++(pk++[58]++v)++[32]++w)]) (fun _ O'=>O'=O2) ?_ ?_
 ·refine VC.ag aa (ao @bh @iL ?_);refine ah.rt (VV O2) ?_;rintro _ Ox ⟨rfl,eO⟩;rw[eO];clear eO Ox
  refine ae @bh ?_;by_cases hw:w=[]
  ·have e1:(w==([]:Bs))=true:=by simp[hw]
   rw[if_pos hw];refine WC.sound aa (ao @bh @e1 ?_);exact aA.mk () rfl
  ·have e1:(w==([]:Bs))=false:=by simpa using hw
   rw[if_neg hw];refine WC.sound aa (ao @bh @e1 ?_);refine ah.rt (aX O2 _) ?_;rintro _ Ox ⟨rfl,eO⟩;rw[eO];clear eO Ox
   refine ae @bh ?_;exact aA.mk () rfl
 rintro _ Ox eO;rw[eO];clear eO Ox
 generalize (if w=[]then rp++(pk++[58]++v)else rp++(pk++[58]++v)++[32]++w)=s1 at*;refine VC.ag aa (ao @bh @iL ?_);refine ah.rt (hfi O2) ?_;rintro _ O3 ⟨aJ,rfl⟩;refine ae @bh ?_;refine VC.al ?_;rintro O4 ⟨bg,PH,gM⟩;have gy:=bg.at (aJ.at iL (hk:=by have:=ax.next;omega)) (hk:=by have:=ax.next;have:=aJ.next;omega);have lF:=aM.trans (ax.trans (aJ.trans bg));refine VC.ag aa (gW @bh @PH @gy (show((i:Int)==i)=true from by simp) (show(cs != cs)=false from by simp) ?_);refine VC.ag aa (ao @bh @gy ?_);refine WC.sound aa (ae @bh ?_);exact lF
def NA:List (Gv×List Dp):=[(gA,[Ga [98] v1 0]),(⟨gS,[98],v1⟩,[])]
def SX:List Br:=[⟨-1,0,0,⟨gS,[97],qF,[]⟩,v1,0,false⟩,⟨0,1,0,⟨gS,[98],qF,[]⟩,v1,1,false⟩]
theorem ajF:Q0 (mC NA) gA=some (some SX):=by kernel_rfl
def vM:List Bn:=SX.map bnB
theorem ad2:SX.flatMap qp=vM.flatMap jR:=rfl
def HS:List Ch:=[⟨⟨gS,[97],qF,[]⟩,0,v1,0⟩,⟨⟨gS,[98],qF,[]⟩,1,v1,1⟩]
theorem ad3:qc vM=HS:=by kernel_rfl
theorem ajG:mD vM (fun k=>(kj vM).2.1.getD k false) vM.length 0=[1]:=by kernel_rfl
theorem NB:Calm gA [Ga [98] v1 0]:=⟨rfl,ag3,.one,by simp[adS abz],by simp[Ga],by simp⟩
theorem NC:Calm ⟨gS,[98],v1⟩ []:=⟨rfl,abz,.one,by simp,by simp,by simp⟩
theorem ad4:Plain NA:=⟨by simp[NA,NB,NC],by simp[NA,gA,v1]⟩
def afD (k:Nat):Bs:=match k with
 | 0=>[103,58,97,58,106,97,114,58,49]
 | _=>[32,32,103,58,98,58,106,97,114,58,49,32,99,111,109,112,105,108,101]
def abJ:Prop:=∀O:VH,VF Tryz.prog 21 [] O (aD fun m O'=>m=mb true)
set_option maxHeartbeats 4000000 in
theorem sh:abJ:=by
 intro O;refine VF.bO 50 [.tmp 0] Tryz.func21 ?_;refine VC.ag aa (ae @bh ?_);refine VC.ag aa (ae @bh ?_);refine ah.rt (adg O) ?_;rintro _ O1 ⟨rfl,sU,aM⟩;have p9:=sU.st.lt;generalize O.next=k0 at*;refine ae @bh ?_;refine VC.ag aa (ae @bh ?_);have hon:=ajt [98] [49] 0 O1;simp only[Ga,aQ,ar,gS,List.length_nil,List.flatMap_nil]at hon;refine ah.rt hon ?_;clear hon;rintro _ O2 ⟨rfl,ax⟩;have nO2:=(ax).next;refine ae @bh ?_;have IY:nc O2 (k0+2) (rowsOf []) [] [] k0 (k0+1) 0 0 0 0:=sU.ge ax;refine ah.rt (SO (IY) (n:=[97]) (v:=v1) (D:=[Ga [98] v1 0]) rfl rfl (NB) (by decide) (by decide)) ?_;rintro _ O4 ⟨rfl,⟨E4,V4,ce4,cv4,Cv⟩,nO4,hf4⟩;refine ae @bh ?_;refine ah.rt (SO (Cv) (n:=[98]) (v:=v1) (D:=[]) rfl rfl (NC) (by decide) (by decide)) ?_;rintro _ Oc ⟨rfl,⟨Ec,Vc,cec,cvc,Ws⟩,nOc,Kt⟩;refine ae @bh ?_;have afE:nc Oc (k0+2) (rowsOf NA) Ec Vc k0 (k0+1) cec cvc 0 0:=Ws;clear sU IY Cv Ws hf4 Kt;refine VC.ag aa (ae @bh ?_);have Ra:=adR Oc;simp only[bS,gS,v1]at Ra;refine ah.rt Ra ?_;rintro _ Od ⟨rfl,OU⟩;refine ae @bh ?_;have MG:=adQ (afE.ge OU) ad4 gA ajF;simp only[bS,gA,gS,v1]at MG;refine ah.rt MG ?_;rintro _ Oe ⟨⟨tk1,rfl⟩,ne,wQ⟩;clear MG Ra wQ afE;simp only[oZ,iH,ar];rw[ad2,show SX.length=vM.length from rfl];have jY:∀b∈vM,∀s∈dW b.k,s.length<=maxLen:=by decide
 have vg:=fun O=>Q8 vM tk1 O (by decide) jY
 rw[ad3]at vg
 have Nz:=fun(tx:Tok) (O:VH)=>WS vM HS tk1 tx (by decide) (by decide) jY afD (fun k b A hb=>by
  have bR:k<2:=(List.getElem?_eq_some_iff.1 hb).1;obtain rfl | rfl:k=0\/k=1:=by omega
  ·injection hb with hb;subst hb;exact SW _ 0 HS tx _ [] (.inl ⟨rfl,rfl⟩) (by decide) rfl rfl rfl rfl (by decide) (by decide) (by decide) (by decide) (by decide) A
  ·injection hb with hb;subst hb;exact SW _ 1 HS tx _ [32,32] (.inr ⟨rfl,rfl⟩) (by decide) rfl rfl rfl rfl (by decide) (by decide) (by decide) (by decide) (by decide) A) O [1] ajG (by decide)
 have SY:=fun O=>JI ⟨⟨[111,114,103,46,120],[97],[106,97,114],[115,114,99]⟩,[49]⟩ O ⟨by decide,by decide,by decide,by decide,by decide⟩
 rw[show jG ⟨⟨[111,114,103,46,120],[97],[106,97,114],[115,114,99]⟩,[49]⟩=[111,114,103,47,120,47,97,47,49,47,97,45,49,45,115,114,99,46,106,97,114]from by kernel_rfl]at SY;have h6:vM.length=2:=rfl;have h7:HS.length=2:=rfl;rw[h6];simp only[h6,h7,List.map_cons,List.map_nil,List.length_cons,List.length_nil,Nat.reduceAdd,afD,wY]at vg Nz SY;generalize vM.flatMap jR=C1 at*;generalize HS.flatMap qb=C2 at*;refine ae @bh ?_;refine VC.al ?_;rintro Of ⟨hgf,hpf,hnf⟩;refine VC.ag aa (ae @bh ?_);refine ah.rt (vg Of) ?_;rintro _ Og ⟨⟨t2,rfl⟩,VZ⟩;refine ae @bh ?_;refine ah.rt (Nz t2 Og) ?_;rintro _ Oh ⟨t3,rfl,hnh,Z7⟩;have n1:=VZ.next;have Kw:=Z7 _ _ (by omega) (VZ.at hpf);clear Z7 Nz vg hpf;refine ae @bh ?_;refine VC.ag aa (ae @bh ?_);refine ah.rt (SY Oh) ?_;rintro _ Oi ⟨rfl,np⟩;have Qk:=np.at Kw;clear SY Kw;refine ae @bh ?_;refine VC.ag aa (ao @bh @Qk ?_);refine VL.DK aa (bb:=true) (b:=true) (by simp) (by simp[iU]) (.inl ⟨rfl,rfl⟩) (by kernel_rfl) (by kernel_rfl) rfl rfl rfl rfl ?_;refine aI @bh (show(([111,114,103,47,120,47,97,47,49,47,97,45,49,45,115,114,99,46,106,97,114]:Bs)==[111,114,103,47,120,47,97,47,49,47,97,45,49,45,115,114,99,46,106,97,114])=true from rfl) (show(([32,32,103,58,98,58,106,97,114,58,49,32,99,111,109,112,105,108,101]:Bs)==[32,32,103,58,98,58,106,97,114,58,49,32,99,111,109,112,105,108,101])=true from rfl) ?_;refine WC.sound aa (ae @bh ?_);try trivial
set_option maxHeartbeats 8000000 in
theorem ad5 (L0:List Gg) (tk0:Tok) (h0:L0.length<=maxLen) (O:VH):VF Tryz.prog 7 [.sl L0.length (L0.flatMap wY) tk0] O (aD fun m O'=>m=mb true):=by
 obtain⟨tk,hs⟩:=ag6 se L0 tk0;have hL:(L0.take 60).length<=60:=by rw[List.length_take];omega
 have Cf:jJ (fF Tryz.prog) 48 (.sl L0.length (L0.flatMap wY) tk0)=some (.v (.int .i64 L0.length)):=iS T48;simp only[maxLen]at h0;generalize L0.take 60=L at*;have hlen:=aT se L;have jk:jJ (fF Tryz.prog) 48 (.sl L.length (L.flatMap wY) tk)=some (.v (.int .i64 L.length)):=iS T48;refine VF.bO 85 [.tmp 2] Tryz.func7 ?_;refine VC.ag aa (ae @aZ ?_);refine VC.ag aa (aI @aZ @Cf @hs ?_);clear hs Cf;refine VC.bJ [0] (fun _:Unit=>[.sl L.length (L.flatMap wY) tk]) (fun _ O'=>∀x∈L,Nv x) ?_ ?_
 ·refine VC.ag aa (ao @aZ @jk ?_);refine VC.aB ?_;refine VC.bP [15] [0,13,14] (fun j:Nat=>[mi j]) (fun j O'=>j<=L.length/\∀x∈L.take j,Nv x) (fun j=>L.length - j) (0) ?_ ?_
  ·exact⟨Nat.zero_le _,fun x h=>by simp at h⟩
  rintro j O3 ⟨hj,cW⟩;by_cases aX:j<L.length;rotate_left
  ·obtain rfl:j=L.length:=by omega
   rw[List.take_length]at cW;refine WC.sound aa (ae @aZ ?_);exact aA.mk () cW
  have dd:((j:Int)+1)=((j+1:Nat):Int):=by omega
  have bA:=cg se L j aX;have eb:L.take (j+1)=L.take j++[L[j]]:=by rw[List.take_append_getElem aX]
  generalize L[j]=x at*;obtain⟨⟨g,a,t,c⟩,v⟩:=x;simp only[wY]at bA;refine VC.ag aa (ae @aZ ?_);refine VC.ag aa (ae @aZ ?_);refine VC.bC (VC.aB ?_);refine VC.ag aa (ao @aZ @bA ?_);refine VC.al ?_;rintro O4 ⟨bg,gy,gM⟩;by_cases h1:v.length>500
  ·have e1:decide ((v.length:Int)>500)=true:=decide_eq_true (by omega);have e2:decide ((500:Int)<v.length)=true:=e1;refine VC.ag aa (aI @aZ @gy (And.intro e1 e2) ?_);refine WC.sound aa (ae @aZ ?_);refine ah.rt (sh _) ?_;rintro _ O5 rfl;simp only[a_];refine ae @aZ ?_;trivial
  have e1:decide ((v.length:Int)>500)=false:=decide_eq_false (by omega);have e2:decide ((500:Int)<v.length)=false:=e1;by_cases h2:g.length>500
  ·have f1:decide ((g.length:Int)>500)=true:=decide_eq_true (by omega);have f2:decide ((500:Int)<g.length)=true:=f1;refine VC.ag aa (aI @aZ @gy (And.intro (And.intro e1 e2) (And.intro f1 f2)) ?_);refine WC.sound aa (ae @aZ ?_);refine ah.rt (sh _) ?_;rintro _ O5 rfl;simp only[a_];refine ae @aZ ?_;trivial
  have f1:decide ((g.length:Int)>500)=false:=decide_eq_false (by omega);have f2:decide ((500:Int)<g.length)=false:=f1;by_cases h3:a.length>500
  ·have i1:decide ((a.length:Int)>500)=true:=decide_eq_true (by omega);have i2:decide ((500:Int)<a.length)=true:=i1;refine VC.ag aa (aI @aZ @gy (And.intro (And.intro e1 e2) (And.intro (And.intro f1 f2) (And.intro i1 i2))) ?_);refine WC.sound aa (ae @aZ ?_);refine ah.rt (sh _) ?_;rintro _ O5 rfl;simp only[a_];refine ae @aZ ?_;trivial
  have i1:decide ((a.length:Int)>500)=false:=decide_eq_false (by omega);have i2:decide ((500:Int)<a.length)=false:=i1;by_cases h4:t.length>500
  ·have j1:decide ((t.length:Int)>500)=true:=decide_eq_true (by omega);have j2:decide ((500:Int)<t.length)=true:=j1;refine VC.ag aa (aI @aZ @gy (And.intro (And.intro e1 e2) (And.intro (And.intro f1 f2) (And.intro (And.intro i1 i2) (And.intro j1 j2)))) ?_);refine WC.sound aa (ae @aZ ?_);refine ah.rt (sh _) ?_;rintro _ O5 rfl;simp only[a_];refine ae @aZ ?_;trivial
  have j1:decide ((t.length:Int)>500)=false:=decide_eq_false (by omega);have j2:decide ((500:Int)<t.length)=false:=j1;by_cases h5:c.length>500
  ·have k1:decide ((c.length:Int)>500)=true:=decide_eq_true (by omega);have k2:decide ((500:Int)<c.length)=true:=k1;refine VC.ag aa (aI @aZ @gy (And.intro (And.intro e1 e2) (And.intro (And.intro f1 f2) (And.intro (And.intro i1 i2) (And.intro (And.intro j1 j2) (And.intro k1 k2))))) ?_);refine WC.sound aa (ae @aZ ?_);refine ah.rt (sh _) ?_;rintro _ O5 rfl;simp only[a_];refine ae @aZ ?_;trivial
  have k1:decide ((c.length:Int)>500)=false:=decide_eq_false (by omega);have k2:decide ((500:Int)<c.length)=false:=k1;refine VC.ag aa (aI @aZ @gy (And.intro (And.intro e1 e2) (And.intro (And.intro f1 f2) (And.intro (And.intro i1 i2) (And.intro (And.intro j1 j2) (And.intro k1 k2))))) ?_);refine WC.sound aa (ae @aZ ?_);refine WC.sound aa (ao @aZ @dd ?_);refine az.next (j+1) ⟨aX,fun x hx=>?_⟩;rw[eb,List.mem_append]at hx;rcases hx with hx | hx
  ·exact cW x hx
  ·rw[List.mem_singleton.1 hx];exact⟨by dsimp only;omega,by dsimp only;omega,by dsimp only;omega,by dsimp only;omega,by dsimp only;omega⟩
 rintro _ O2 cW;refine VC.ag aa (ae @aZ ?_);refine ah.rt (abF L tk O2 hL cW) ?_;rintro _ O3 ⟨⟨t3,rfl⟩,aJ⟩;refine ae @aZ ?_;refine VC.ag aa (aI @aZ @jk (show((L.length:Int) != L.length)=false from by simp) ?_);refine VC.bJ [] (fun _:Unit=>[]) (fun _ O'=>True) ?_ ?_;rotate_left
 ·rintro _ O4 _;refine VC.ag aa (ae @aZ ?_);refine ah.rt (sh _) ?_;rintro _ O5 rfl;simp only[a_];refine ae @aZ ?_;refine WC.sound aa (ae @aZ ?_);trivial
 have wM:(L.map fun x=>MV.str (jG x)).length=L.length:=List.length_map _;refine VC.ag aa (ao @aZ @jk ?_);refine VC.aB ?_;refine VC.bP [62] [5,60,61] (fun j:Nat=>[mi j]) (fun j O'=>j<=L.length) (fun j=>L.length - j) (0) ?_ ?_
 ·exact Nat.zero_le _
 rintro j O4 hj;by_cases aX:j<L.length;rotate_left
 ·obtain rfl:j=L.length:=by omega
  refine WC.sound aa (ae @aZ ?_);exact aA.mk () trivial
 have dd:((j:Int)+1)=((j+1:Nat):Int):=by omega
 have bA:=cg se L j aX;have hx:=cW L[j] (List.getElem_mem aX);have Cw:(L.map fun x=>MV.str (jG x))[j]?=some (.str (jG L[j])):=by rw[List.getElem?_map,List.getElem?_eq_getElem aX];rfl
 have hf1:=fun O'=>abE L[j] O' hx
 have tS:=fun O'=>JI L[j] O' hx
 generalize L[j]=x at*;generalize jG x=fx at*;obtain⟨⟨g,a,t,c⟩,v⟩:=x;simp only[wY]at bA hf1 tS;refine VC.ag aa (ae @aZ ?_);refine VC.ag aa (ae @aZ ?_);refine VC.bC (VC.aB ?_);refine VC.ag aa (ao @aZ @bA ?_);refine VC.al ?_;rintro O5 ⟨bW,mI,gu⟩;refine VC.bC ?_;have e9:(!(fx==fx))=false:=by simp
 have e8:(fx==fx)=true:=by simp
 refine VC.lY [14,15] ?_;refine ab.av 0 ?_;refine ao @aZ @wM ?_;refine ab.av 1 ?_;refine ao @aZ @wM ?_;refine ab.av 2 ?_;refine ao @aZ @wM ?_;refine ab.av 3 ?_;refine ao @aZ @Cw ?_;refine ab.ld (m:=.agg [.str g,.str a,.str t,.str c,.str v]) 4 ?_ ?_
 ·exact c9 @aZ @mI
 simp only[aj];refine ab.call (i:=5) (hf1 O5) ?_;rintro _ O6 ⟨rfl,fC⟩;simp only[aj];refine⟨fC,?_⟩;have n4:=fC.at mI;refine ab.av 6 ?_;refine ao @aZ @e8 ?_;refine ab.av 7 ?_;refine ae @aZ ?_;refine ab.ld (m:=.agg [.str g,.str a,.str t,.str c,.str v]) 8 ?_ ?_
 ·exact c9 @aZ @mI
 simp only[aj];refine ab.av 10 ?_;refine ao @aZ @wM ?_;refine ab.av 11 ?_;refine ao @aZ @wM ?_;refine ab.av 12 ?_;refine ao @aZ @wM ?_;refine ab.av 13 ?_;refine ao @aZ @Cw ?_;refine ab.call (i:=9) (tS O6) ?_;rintro _ O7 ⟨rfl,fc⟩;simp only[aj];refine⟨fC.trans fc,?_⟩;refine ab.bH [(14,.av),(15,.av)] ?_;refine ao @aZ @e8 ?_;refine WC.sound aa (ae @aZ ?_);refine WC.sound aa (ao @aZ @dd ?_);exact az.next (j+1) aX
abbrev ItT:=(Bs×Bs×Bs×Bs)×Bs
def afF (y:ItT):Gg:=⟨⟨y.1.1,y.1.2.1,y.1.2.2.1,y.1.2.2.2⟩,y.2⟩
def itP (y:ItT):Prop:=ajz y.1/\y.2.length<=maxLen
theorem NH (y:List ItT×Tok) (O:VH) (hp:(∀x∈y.1,itP x)/\y.1.length<=maxLen):VF Tryz.prog 7 [.sl y.1.length (y.1.flatMap fun x=>wY (afF x)) y.2] O (aD fun m O'=>m=mb true):=by
 have h:=ad5 (y.1.map afF) y.2 (by rw[List.length_map];exact hp.2) O;rw[List.length_map,List.flatMap_map]at h;exact h
end Go.Proofs.YtoclnkfdahmnhaaGreatDoor
