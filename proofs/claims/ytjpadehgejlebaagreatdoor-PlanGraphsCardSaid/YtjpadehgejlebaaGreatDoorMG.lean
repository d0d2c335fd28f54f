import Derived.Test.YtjpadehgejlebaaGreatDoorMF
set_option linter.unusedVariables false
set_option linter.unusedSimpArgs false
namespace Go.Proofs.YtjpadehgejlebaaGreatDoor
open Go.RowKit
open _root_.List renaming getElem?_eq_getElem → zP, length_map → Ma, getElem?_map → Qm, length_append → Zj, getD_eq_getElem?_getD → adW, take_length → adX, getElem_mem → adY, take_append_getElem → adZ, mem_cons_of_mem → agc, mem_singleton → ahJ, getElem?_eq_some_iff → ahK, getElem?_eq_none → ahL, mem_append → ahM, length_take → ahN, length_cons → ahO, take_of_length_le → ahP, mem_cons_self → ajk, mem_cons → ajl, mem_range → ajm, getElem?_set_self → ajn, getElem?_set_ne → ajo, map_append → ajp, mem_map → ajr, length_singleton → ajt, append_nil → aju, mem_of_mem_take → ajv, drop_zero → al_, getElem?_range → am5, getElem?_replicate → am6, take_add_one → am9, contains_append → am_, mem_append_left → ana, flatMap_append → anb, mem_singleton_self → ane, length_range → anf, countP_cons → anh, map_congr_left → ani, take_zero → anj, pairwise_cons → ank, map_cons → anl, getElem?_append_left → ann, flatMap_nil → anp, range_succ → anu, length_nil → anv
open _root_.Nat renaming zero_le → Qn, le_refl → Zk, min_eq_left → ajq, mul_one → ajs, le_trans → anq, sub_self → anr
open _root_.And renaming intro → Vq
open _root_.Option renaming map_some → am8, map_none → ans
open _root_.Int renaming eq_ofNat_of_zero_le → am7, toNat_natCast → ang
open _root_.Bool renaming false_eq_true → anc, eq_false_iff → anm, and_eq_true → ano, eq_iff_iff → ant, false_or → anE, or_false → anF
set_option maxRecDepth 10000
theorem Y4 (vb:Nat) (k:Ky) (O:VH):VF Tryz.prog 119 [.ptr vb 0,.agg (gR k)] O (aD fun m O'=>m= .func (.func 147) [] [.ptr O.N 0,.ptr (O.N+1) 0]/\O'=(O.push (.cells [.ptr vb 0])).push (.cells (gR k))):=by
 obtain⟨k1,k2,k3,k4⟩:=k;simp only[gR];refine υ 6 [.tmp 4] Tryz.func119 ?_;refine κ @cU ?_;refine ν @cU ?_;try trivial
set_option maxHeartbeats 4000000 in
theorem Tg (L:List Bn) (tk:Tok) (V:List Bool) (hL:L.length<=1000000) (hV:V.length=L.length) (k:Ky) (y b1 b2 vb lb cb mp:Nat) (J:Nat->VH->Prop) (hJ:∀j A B,J j A->A.Ge B->J j B)
  (hd:∀j A,J j A->(b1<A.N/\b2<A.N/\vb<A.N/\lb<A.N)/\A.hp b1=some (.cells [.ptr vb 0])/\A.hp b2=some (.cells (gR k))/\A.hp vb=some (.cells [.sl L.length (L.flatMap eB) tk,.bB lb 0 L.length L.length,.bB cb 0 L.length L.length,.map mp])/\A.hp lb=some (.cells (V.map mb)))
  (hs:∀j (h:j<L.length),(V.getD j false&&oN L[j].k k)=false->∀A,J j A->J (j+1) A)
  (hy:∀j (h:j<L.length),(V.getD j false&&oN L[j].k k)=true->∀A,J j A->VY Tryz.prog y [.agg (eB L[j])] A fun m O'=>m=mb true/\J (j+1) O') (O:VH) (h0:J 0 O):
  VF Tryz.prog 147 [.func (.yield y) [] [],.ptr b1 0,.ptr b2 0] O (aD fun _ O'=>J L.length O'):=by
 obtain⟨k1,k2,k3,k4⟩:=k;simp only[gR]at hd;have hlen:=aV jg L;have ib:dy (bY Tryz.prog) 22 (.sl L.length (L.flatMap eB) tk)=some (.v (.int .i64 L.length)):=bR B6;have kK:(V.map mb).length=L.length:=by simp[hV]
 have hgB:∀u,u<L.length->(V.map mb)[u]?=some (.v (.bool (V.getD u false))):=fun u hu=>by
  rw[Qm,adW,zP (by omega)];rfl
 obtain⟨_,ha0,v8,HI,HB⟩:=hd 0 O h0;refine υ 36 [] Tryz.func147 ?_;refine θ (cR @cU @ha0 @HI @ib ?_);refine τ ?_;refine Γ [11] [0,1,2,9,10] (fun j:Nat=>[mi j]) (fun j O'=>j<=L.length/\J j O') (fun j=>L.length - j) (0) ?_ ?_
 ·exact⟨Qn _,h0⟩
 clear ha0 v8 HI HB;rintro j O3 ⟨hj,D2⟩;by_cases aM:j<L.length;rotate_left
 ·obtain rfl:j=L.length:=by omega
  refine ν @cU ?_;exact D2
 have cI:((j:Int)+1)=((j+1:Nat):Int):=by omega
 have bG:=ct jg L j aM;have hgv:=hgB j aM;have hsj:=hs j aM;have hyj:=hy j aM;generalize L[j]=b at*;obtain⟨up,dp,od,⟨q1,q2,q3,q4⟩,v,hdd,rv,nn,iv,LH,s,rd⟩:=b;simp only[eB,aq,bw]at bG hyj;dsimp only at hsj hyj;generalize V.getD j false=vj at*;refine κ @cU ?_;refine κ @cU ?_;refine χ (τ ?_);refine ξ @cU @bG ?_;refine VC.al ?_;rintro O4 ⟨aY,jo,gO⟩;have hJ4:=hJ j O3 O4 D2 aY;obtain⟨⟨amZ,alH,agT,ak6⟩,fM,dd,BH,ra⟩:=hd j O4 hJ4;cases vj
 ·have hJ5:=hsj (by rw[Bool.false_and]) O4 hJ4;refine θ (HJ @cU @fM @BH @ra @kK @hgv ?_);refine ν @cU ?_;refine ο @cU @cI ?_;exact az.N (j+1) ⟨aM,hJ5⟩
 rw[Bool.true_and]at hsj hyj;have hE:Fm Tryz.prog (bY Tryz.prog) 9 40 (.agg [.str q1,.str q2,.str q3,.str q4]) (.agg [.str k1,.str k2,.str k3,.str k4])=some (oN ⟨q1,q2,q3,q4⟩ ⟨k1,k2,k3,k4⟩):=by kernel_rfl
 generalize oN ⟨q1,q2,q3,q4⟩ ⟨k1,k2,k3,k4⟩=ek at*;cases ek
 ·have hJ5:=hsj rfl O4 hJ4;refine θ (Xi @cU @fM @BH @ra @kK @hgv @jo @dd ?_);refine VL.B3 aa (bb:=false) (b:=false) (by simp) (by simp[iB]) (.inl ⟨rfl,rfl⟩) hE (by kernel_rfl) rfl rfl rfl rfl ?_;refine ab @cU ?_;refine ν @cU ?_;refine ο @cU @cI ?_;exact az.N (j+1) ⟨aM,hJ5⟩
 refine χ ?_;refine VC.yield 16 rfl rfl rfl ?_;simp only[List.take_succ_cons,anj,anl,List.map_nil,List.drop_succ_cons,al_];refine Xi @cU @fM @BH @ra @kK @hgv @jo @dd ?_;refine VL.B3 aa (bb:=true) (b:=true) (by simp) (by simp[iB]) (.inl ⟨rfl,rfl⟩) hE (by kernel_rfl) rfl rfl rfl rfl ?_;refine ao @cU @jo ?_;refine YW.mk (hyj rfl O4 hJ4) ?_;rintro _ O5 ⟨rfl,hJ5⟩;refine ab @cU ?_;refine ν @cU ?_;refine ο @cU @cI ?_;exact az.N (j+1) ⟨aM,hJ5⟩
theorem LX {j:Nat} {js:List Nat} {N:Nat} (h:js.Nodup) (hl:∀i∈js,i<N) (hj:N<=j):(j::js).Nodup:=List.nodup_cons.2 ⟨fun hm=>by have:=hl j hm;omega,h⟩
def LY (O O':VH) (js:List Nat):Prop:=js.Nodup/\∀j∈js,O.N<=j/\j<O'.N/\O'.hp j=some (.obj (.deferred (some [])))
theorem LY.ge {O A B:VH} {js:List Nat} (h:LY O A js) (hg:A.Ge B):LY O B js:=⟨h.1,fun j hj=>by
 obtain⟨h1,h2,h3⟩:=h.2 j hj;exact⟨h1,Nat.lt_of_lt_of_le h2 hg.N,hg.at h3⟩⟩
theorem GR.en {O7 O6 O1:VH} {el:TypeId} {sz B n:Nat} {p:MV} {X:List MV} (h:GR O7 el sz B p n X) (hg:O1.Ge O7) (hB:O1.N<=B) (u:bz O7 (gid p) O6):O1.Ge O6:=by
 rcases h with⟨_,_,rfl | rfl⟩ | ⟨k,c,rfl,_,_,hr⟩
 ·exact bz.geN hg u
 ·exact bz.geN hg u
 ·exact bz.ge hg u (anq hB hr.lo)
theorem LY.bH {O A B:VH} {js:List Nat} {el:TypeId} {sz b n:Nat} {p:MV} {X:List MV} (h:LY O A js) (hr:GR A el sz b p n X) (u:bz A (gid p) B):LY O B js:=⟨h.1,fun j hj=>by
 obtain⟨h1,h2,h3⟩:=h.2 j hj;refine⟨h1,Nat.lt_of_lt_of_le h2 u.N,(u.hp j h2 fun e=>?_).trans h3⟩;rcases hr with⟨_,_,rfl | rfl⟩ | ⟨k,c,rfl,_,_,hr⟩
 ·cases e
 ·cases e
 ·injection e with e;subst e;obtain⟨sp,h4,_⟩:=hr.cells;rw[h3]at h4;cases h4⟩
theorem GR.marks {A B:VH} {js:List Nat} {el:TypeId} {sz b n:Nat} {p:MV} {X:List MV} (hr:GR A el sz b p n X) (hn:B.N=A.N) (hi:∀i,i ∉ js->B.hp i=A.hp i) (hj:∀j∈js,A.hp j=some (.obj (.deferred (some [])))):GR B el sz b p n X:=by
 rcases hr with h | ⟨k,c,rfl,h1,h2,⟨sp,h3,h4⟩,⟨j,h5,h6,h7⟩,h8,h9⟩
 ·exact .inl h
 ·exact .inr ⟨k,c,rfl,h1,h2,⟨sp,(hi k fun h=>by rw[hj k h]at h3;cases h3).trans h3,h4⟩,⟨j,h5,by rw[hn];exact h6,(hi j fun h=>by rw[hj j h]at h7;cases h7).trans h7⟩,h8,by rw[hn];exact h9⟩
theorem VF.Y5 {P:Program} {f:FuncId} {args:List MV} {O:VH} {Φ Φ':MV->VH->Prop} (h:VF P f args O (aD Φ)) (hf:∀m O', Φ m O'-> Φ' m O'\/∃k o n c sz cs,m= .bB k o n c/\O'.hp k=some (.cells cs)/\o+sz<=cs.length/\ Φ' (.sl n ((cs.drop o).take sz) (if c=n then .full else .au)) (O'.kill k)):VF P f args O (aD Φ'):=by
 intro G w vs hw hv;refine(h G w vs hw hv).mono fun x w' ⟨r,O',H,h1,h2,h3,h4⟩=>?_
 cases r with
 | panic m=>exact h4.elim
 | ret m=>
   cases x with
   | panicked c=>exact h3.elim
   | outgrown=>exact h3.elim
   | returned v=>
     rcases hf m O' h4 with g | ⟨k,o,n,c,sz,cs,rfl,g1,g2,g3⟩
     ·exact⟨.ret _,O',H,h1,h2,h3,g⟩
     ·obtain⟨H',e1,e2,e3⟩:=h2.freeze g1 h3 g2;exact⟨.ret _,_,H',h1.trans e1,e2,e3,g3⟩
theorem GR.wider {O:VH} {el:TypeId} {sz B B' n:Nat} {p:MV} {X:List MV} (h:GR O el sz B p n X) (hB:B'<=B):GR O el sz B' p n X:=by
 rcases h with h | ⟨k,c,h1,h2,h3,h4⟩
 ·exact .inl h
 ·exact .inr ⟨k,c,h1,h2,h3,h4.wider hB⟩
theorem adr (b:Bn) (M:List (Bn×Bool)) (h:¬b.dp>1):yM b M=b.s:=by
 have:∀(M:List (Bn×Bool)) (s:Int),M.foldl (fun s p=>if decide (b.dp>1)&&(p.2&&oN p.1.k b.k)then BI s p.1.s else s) s=s:=by
  intro M;induction M with
  | nil=>intro s;rfl
  | cons p M ih=>intro s;rw[List.foldl_cons,decide_eq_false h,Bool.false_and,if_neg (by decide)];simpa[h]using ih s
 exact this M b.s
theorem kQ.al {P:Program} {n:Sz} {js:List Nat} {c:Code} {M:H9} {e:Env} {O:VH} {z cs:List MV} (h:∀O3,nU O cs O3->VM P n js c e O3 M):kQ P n js c M e ((O.push (.cells z)).set O.N (.cells cs)):=h _ nU.al
theorem RdA.al {P:Program} {n:Sz} {y k:Nat} {r:Loop} {R:MV->VH->Prop} {body:Code} {e:Env} {O:VH} {z cs:List MV} (h:∀O3,nU O cs O3->RdA P n y k r body R .normal e O3):RdA P n y k r body R .normal e ((O.push (.cells z)).set O.N (.cells cs)):=h _ nU.al
set_option maxHeartbeats 8000000 in
theorem Y6 (L:List Bn) (tk:Tok) (O:VH) (hL:L.length<=1000000) (hk:∀b∈L,∀s∈cQ b.k,s.length<=maxLen):VF Tryz.prog 96 [.sl L.length (L.flatMap eB) tk] O (aD fun m O'=>O.Ge O'/\GR O' 42 7 O.N m (cO L).length ((cO L).flatMap fz)):=by
 have hlen:=aV jg L;have ib:dy (bY Tryz.prog) 22 (.sl L.length (L.flatMap eB) tk)=some (.v (.int .i64 L.length)):=bR B6;have mR:=JB L;have hde:=YA L tk hL hk O;unfold cO;refine VF.inM 53 [.tmp 2] Tryz.func96 ?_;simp only[cK,Nat.zero_add,Nat.reduceAdd];refine VM.rY fun D=>?_
 refine ab @cU ?_;refine kQ.mk ?_;refine VM.rY fun D=>?_
 refine ab @cU ?_;refine ah.rt hde ?_;clear hde;rintro _ O1 ⟨vb,lb,cb,mp,rfl,hvd⟩;generalize nv L=DD at*;obtain⟨C,V,K⟩:=DD;dsimp only at mR hvd ⊢;clear K;obtain⟨aI,ji,q_,eS,y_,hhi⟩:=hvd;have RB:(C.map mb).length=L.length:=by simp[mR.1]
 have hgB:∀(W:List Bool),W.length=L.length->∀u,u<L.length->(W.map mb)[u]?=some (.v (.bool (W.getD u false))):=fun W h u hu=>by
  rw[Qm,adW,zP (by omega)];rfl
 refine ab @cU ?_;refine kQ.mk ?_;refine VM.join [2] (fun p:MV=>[p]) (fun p O' js=>O.Ge O'/\GR O' 42 7 O.N p (GN L C V L.length).length ((GN L C V L.length).flatMap fz)/\LY O O' js) ?_ ?_
 ·refine VM.rY fun D=>?_
  refine ao @cU @ib ?_;refine kQ.mk ?_;refine VM.block ?_;refine VM.loop [2,12] [3,10,11] (fun x:Nat×MV=>[x.2,mi x.1]) (fun x O' js=>x.1<=L.length/\O1.Ge O'/\GR O' 42 7 O1.N x.2 (GN L C V x.1).length ((GN L C V x.1).flatMap fz)/\LY O O' js) (fun x=>L.length - x.1) (0,.sl 0 [] .nil) ?_ ?_
  ·exact⟨Qn _,VH.Ge.refl _,.inl ⟨rfl,rfl,.inl rfl⟩,List.nodup_nil,fun j hj=>by cases hj⟩
  rintro⟨j,t1⟩ O3 js ⟨hj,aH,cz,jQ⟩;dsimp only at hj cz;by_cases aM:j<L.length;rotate_left
  ·obtain rfl:j=L.length:=by omega
   refine VM.rY fun D=>?_
   refine ab @cU ?_;refine kQ.mk ?_;refine VM.rY fun D=>?_
   refine ab @cU ?_;exact JK.ex ⟨t1,rfl,aI.trans aH,cz.wider aI.N,jQ⟩
  have cI:((j:Int)+1)=((j+1:Nat):Int):=by omega
  have bG:=ct jg L j aM;have gq:GN L C V (j+1)=GN L C V j++if C.getD j false then[⟨L[j].k,j,L[j].v,yM L[j] (L.zip V)⟩]else[]:=by rw[GN,zP aM]
  obtain⟨g,mT,CH,qC⟩:=S6 L[j] L V mR.2;generalize L[j]=b at*;obtain⟨up,dp,od,⟨k1,k2,k3,k4⟩,v,hd,rv,nn,iv,LH,s,rd⟩:=b;simp only[eB,aq,bw]at bG;dsimp only at mT CH gq;have S5:=hgB C mR.1 j aM;have ia:=PM L C V j;have hv3:=aH.at ji;have fy:=aH.at eS;have n8:=aH.at q_;have n3:=aH.N;have n1:=aI.N;refine VM.rY fun D=>?_
  refine ab @cU ?_;refine kQ.mk ?_;refine VM.rY fun D=>?_
  refine ab @cU ?_;refine kQ.mk ?_;refine VM.seq (VM.block ?_);refine VM.rY fun D=>?_
  refine ao @cU @bG ?_;refine kQ.al ?_;rintro O4 ⟨aY,jo,gO⟩;have BH:=aY.at hv3;have fR:=aY.at fy;have ra:=aY.at n8;cases hc:C.getD j false
  ·rw[hc]at S5 gq;rw[if_neg (by decide),aju]at gq;refine VM.rY fun D=>?_
   refine iN @cU @BH @fR @RB @S5 ?_;refine JK.ex (VM.HH fun D=>?_);refine ο @cU @cI ?_;exact⟨rfl,(j+1,t1),rfl,⟨aM,aH.trans aY,by rw[gq];exact cz.zm (bz.lp aY),jQ.ge aY⟩,by dsimp only;omega⟩
  rw[hc]at S5 gq;rw[if_pos rfl]at gq;refine VM.rY fun D=>?_
  refine iN @cU @BH @fR @RB @S5 ?_;refine kQ.mk ?_;refine VM.rY fun D=>?_
  refine ao @cU @jo ?_;refine kQ.al ?_;rintro O5 ⟨bD,mD,eU⟩;have du:=bD.at jo;have pR:=bD.at BH;have H6:=bD.at ra;have Vi:=jQ.ge (aY.trans bD);refine VM.join [2,3,6,10,11,12] (fun _:Unit=>[t1,.ptr vb 0,.ptr O4.N 0,.sl L.length (L.flatMap eB) tk,.v (.int .i64 L.length),.v (.int .i64 j)]) (fun _ O' w7=>O4.Ge O'/\O4.N<O'.N/\O'.hp O4.N=some (.cells [.str k1,.str k2,.str k3,.str k4,.v (.int .i64 j),.str v,.v (.int .i64 (yM ⟨up,dp,od,⟨k1,k2,k3,k4⟩,v,hd,rv,nn,iv,LH,s,rd⟩ (L.zip V)))])/\LY O O' w7) ?_ ?_
  ·by_cases h2:dp>1;rotate_left
   ·have e1:decide (dp>=2)=false:=decide_eq_false (by omega);have e2:decide (2<=dp)=false:=e1;refine VM.HH fun D=>?_
    refine ι (cR @cU @du @e1 @e2 ?_);exact⟨(),rfl,bD,by omega,by rw[adr _ _ h2];exact mD,Vi⟩
   have e1:decide (dp>=2)=true:=decide_eq_true (by omega);have e2:decide (2<=dp)=true:=e1;have e3:decide (dp>1)=true:=decide_eq_true h2;simp only[e3,Bool.true_and]at CH;refine VM.rY fun D=>?_
   refine cR @cU @du @e1 @e2 ?_;refine kQ.mk ?_;refine VM.cond (t:=true) rfl ?_;rw[if_pos rfl];have ads:=Y4 vb ⟨k1,k2,k3,k4⟩ O5;simp only[gR]at ads;refine VM.rY fun D=>?_
   refine ao @cU @du ?_;refine ah.rt ads ?_;clear ads;rintro _ O6 ⟨rfl,e6⟩;obtain⟨fi,mU,oa,p9⟩:=hY _ _ e6;clear e6;refine ab @cU ?_;refine kQ.mk ?_;refine VM.block ?_;refine VM.afY rfl (Enters.sH (by kernel_rfl)) ?_;intro y r F eF kA gu iL HS xZ;obtain⟨LZ,Su,R1,KS,R3⟩:=lx _ _ _ eF;clear eF;have hcF:F.hp O4.N=some (.cells [.str k1,.str k2,.str k3,.str k4,.v (.int .i64 j),.str v,.v (.int .i64 (g 0))]):=by rw[mT];exact LZ.at (fi.at mD)
   have haF:=LZ.at oa;have hkF:=LZ.at p9;have hvF:=LZ.at (fi.at pR);have hlF:=LZ.at (fi.at H6);have n6:=fi.N;refine VF.mono ?_ (Tg L tk V hL mR.2 ⟨k1,k2,k3,k4⟩ y O5.N (O5.N+1) vb lb cb mp (fun k A=>F.N<=A.N/\(∀i,i<F.N->i≠O4.N->A.hp i=F.hp i)/\A.hp O4.N=some (.cells [.str k1,.str k2,.str k3,.str k4,.v (.int .i64 j),.str v,.v (.int .i64 (g k))])) ?_ ?_ ?_ ?_ F ⟨Zk _,fun _ _ _=>rfl,hcF⟩)
   ·rintro(m | m) A hA;rotate_left
    ·exact hA.elim
    obtain⟨hA1,hA2,YS⟩:=hA;rw[qC]at YS;refine⟨(hA2 _ (by omega) (by omega)).trans KS,?_⟩;refine⟨(),rfl,⟨?_,?_⟩,?_,?_,?_,?_⟩
    ·show O4.N<=A.N;omega
    ·intro i hi;rw[π _ _ (by omega),hA2 i (by omega) (by omega),LZ.hp i (by omega),fi.hp i (by omega),bD.hp i hi]
    ·show O4.N<A.N;omega
    ·rw[π _ _ (by omega)];exact YS
    ·refine LX Vi.1 (N:=O5.N) (fun i hi=>(Vi.2 i hi).2.1) (by omega)
    ·intro i hi;rcases ajl.1 hi with rfl | hi
     ·refine⟨by omega,by show _<A.N;omega,?_⟩;rw[π _ _ (by omega),hA2 _ (by omega) (by omega)];exact R1
     ·obtain⟨q1,q2,q3⟩:=Vi.2 i hi;refine⟨q1,by show _<A.N;omega,?_⟩;have hne:i≠O4.N:=fun e=>by subst e;rw[mD]at q3;cases q3
      rw[π _ _ (by omega),hA2 i (by omega) hne,LZ.hp i (by omega),fi.hp i (by omega)];exact q3
   ·rintro k A B ⟨h1,h2,h3⟩ hAB;have:=hAB.N;exact⟨by omega,fun i hi hne=>(hAB.hp i (by omega)).trans (h2 i hi hne),(hAB.hp _ (by omega)).trans h3⟩
   ·rintro k A ⟨h1,h2,h3⟩;exact⟨by omega,(h2 _ (by omega) (by omega)).trans haF,(h2 _ (by omega) (by omega)).trans hkF,(h2 _ (by omega) (by omega)).trans hvF,(h2 _ (by omega) (by omega)).trans hlF⟩
   ·rintro k bM EL A ⟨h1,h2,h3⟩;have:=CH k bM;rw[EL,if_neg (by decide)]at this;exact⟨h1,h2,by rw[this];exact h3⟩
   ·rintro k bM EL A ⟨h1,h2,h3⟩;have il:=CH k bM;rw[EL,if_pos rfl]at il;clear EL;generalize L[k]=z at*;obtain⟨zu,zd,zo,⟨z1,z2,z3,z4⟩,zv,zh,zr,zn,zi,zt,zs,zq⟩:=z;simp only[eB,aq,bw];dsimp only at il;have hkA:=(h2 (O6.N+1) (by omega) (by omega)).trans KS;refine VY.round (ps:=[40]) hkA ((h2 (O6.N+2) (by omega) (by omega)).trans R3) kA (by rw[iL]) rfl rfl ?_;rw[HS,xZ];refine H8.region ?_;simp only[sr];refine ab @cU ?_;refine RdA.al ?_;rintro A1 ⟨so,hzA,GB⟩;have Lm:=so.at h3 (hk:=by omega);refine⟨rfl,so.at hkA (hk:=by omega),?_⟩;refine H8.block (H8.region ?_);have hw:=YD (g k) zs (A1.set (O6.N+1) (.obj (.loop {r with state:=.busy})));simp only[aq]at hw;have nC:=ρ A1 (O6.N+1) (.obj (.loop {r with state:=.busy}));refine aG @cU @Lm @hzA ?_;refine ah.rt hw ?_;clear hw;rintro _ Ox ⟨rfl,eO⟩;rw[eO];clear eO Ox
    rw[<-il];refine ao @cU @Lm ?_;refine⟨rfl,(π _ _ (by omega)).trans nC,rfl,?_,?_,?_⟩
    ·show F.N<=A1.N;omega
    ·intro i hi hne;by_cases e:i=O6.N+1
     ·subst e;rw[ρ,KS]
      congr 3
      rw[<-gu]
     ·rw[π _ _ e,π _ _ hne,π _ _ e,so.hp i (by omega)];exact h2 i hi hne
    ·rw[π _ _ (by omega)];exact ρ _ _ _
  rintro _ O7 js7 ⟨eV,uY,hc7,alW⟩;have o5:=aH.trans (aY.trans eV);have KU:=cz.zm (bz.lp (aY.trans eV));refine VM.HH fun D=>?_
  refine ο @cU @hc7 ?_;refine VL.grow aa (.inl rfl) (te:=⟨_,7,96,_⟩) (dx:=.slice 42) (q:=.sl 1 [.str k1,.str k2,.str k3,.str k4,.v (.int .i64 j),.str v,.v (.int .i64 (yM ⟨up,dp,od,⟨k1,k2,k3,k4⟩,v,hd,rv,nn,iv,LH,s,rd⟩ (L.zip V)))] .full) (j:=1) (ds:=[.str k1,.str k2,.str k3,.str k4,.v (.int .i64 j),.str v,.v (.int .i64 (yM ⟨up,dp,od,⟨k1,k2,k3,k4⟩,v,hd,rv,nn,iv,LH,s,rd⟩ (L.zip V)))]) KU rfl rfl (by rw[FC];rfl) Xk.1.1 (by rw[FC];rfl) trivial (by dsimp only;omega) (by simp only[maxLen];omega) o5.N rfl rfl rfl rfl ?_;intro m8 O8 fV rB _ _;refine ab @cU ?_;refine VM.HH fun D=>?_
  refine ο @cU @cI ?_;exact⟨rfl,(j+1,m8),rfl,⟨aM,KU.en o5 (Zk _) rB,by rw[gq,Zj,anb,List.flatMap_singleton];exact fV,alW.bH KU rB⟩,by dsimp only;omega⟩
 rintro t O2 js ⟨aB,gu,Vj⟩;refine VM.rY fun D=>?_
 refine ab @cU ?_;refine kQ.mk ?_;refine VM.HH fun D=>?_
 refine ν @cU ?_;refine⟨.inr rfl,Vj.1,fun j hj=>(Vj.2 j hj).2.2,fun O' hn hi=>⟨_,rfl,⟨?_,fun i h=>?_⟩,gu.marks hn hi fun j hj=>(Vj.2 j hj).2.2⟩⟩
 ·rw[hn];exact aB.N
 ·rw[hi i (fun hm=>by have:=(Vj.2 i hm).1;omega)];exact aB.hp i h
theorem Th:YE:=by
 intro L tk O hL hk;refine VF.Y5 (Y6 L tk O hL hk) ?_;rintro m O' ⟨hg,hr⟩;rcases hr with⟨h1,h2,rfl | rfl⟩ | ⟨k,c,rfl,h1,h2,h3⟩
 ·exact .inl ⟨⟨.nil,by rw[h1,h2]⟩,hg⟩
 ·exact .inl ⟨⟨.full,by rw[h1,h2]⟩,hg⟩
 ·obtain⟨sp,h4,h5⟩:=h3.cells;exact .inr ⟨k,0,_,c,(cO L).length*7,_,rfl,h4,by rw[Zj];omega,⟨_,by rw[al_,List.take_append_of_le_length (by omega),ahP (by omega)]⟩,hg.kill h3.lo⟩
set_option linter.defProp false in
def aP:=Vq rX<|Vq cU<|Vq lN<|Vq T3<|Vq FC<|Vq Xk<|Vq T37<|Vq T38<|Vq AN<|Vq Xl<|Vq B6 Xj
def c5 (n:Nat) (R:Nat->List Int) (T:Nat->Tok):List MV:=(List.range n).map fun u=>.sl (R u).length ((R u).map mi) (T u)
theorem fO (n:Nat) (R:Nat->List Int) (T:Nat->Tok):(c5 n R T).length=n:=by simp[c5]
theorem ny {n:Nat} (R:Nat->List Int) (T:Nat->Tok) {u:Nat} (h:u<n):(c5 n R T)[u]?=some (.sl (R u).length ((R u).map mi) (T u)):=by
 unfold c5;rw[Qm,am5 h];rfl
theorem Dv (n:Nat):c5 n (fun _=>[]) (fun _=>.nil)=List.replicate n (.sl 0 [] .nil):=
 List.eq_replicate_iff.2 ⟨fO _ _ _,fun b hb=>by
  obtain⟨u,_,rfl⟩:=ajr.1 hb;rfl⟩
theorem ir {n:Nat} {R R':Nat->List Int} (T:Nat->Tok) (h:∀u,u<n->R u=R' u):c5 n R T=c5 n R' T:=by
 unfold c5;refine ani fun u hu=>?_
 rw[h u (ajm.1 hu)]
theorem G7 {n:Nat} {R R':Nat->List Int} (T:Nat->Tok) {u:Nat} {x:Int} (t:Tok) (hu:u<n) (h1:R' u=R u++[x]) (h:∀v,v<n->v≠u->R' v=R v):
  (c5 n R T).set u (.sl ((R u).length+1) ((R u).map mi++[mi x]) t)=c5 n R' (fun v=>if v=u then t else T v):=by
 refine List.ext_getElem? fun i=>?_
 rw[List.getElem?_set,fO];by_cases e:u=i
 ·subst e;rw[if_pos rfl,if_pos hu,ny _ _ hu,h1,if_pos rfl,Zj,ajp];rfl
 ·rw[if_neg e];by_cases hi:i<n
  ·rw[ny _ _ hi,ny _ _ hi,h i hi (Ne.symm e),if_neg (Ne.symm e)]
  ·rw[ahL (by rw[fO];omega),ahL (by rw[fO];omega)]
def ye (n:Nat) (T:Nat->Tok) (B:Nat) (O:VH):Prop:=(∀u,u<n->App O B 1 (T u))/\∀u v,u<n->v<n->u≠v->∀i,Tok.id (T u)=some i->Tok.id (T v)≠some i
theorem ye.ge {n B:Nat} {T:Nat->Tok} {O A:VH} (h:ye n T B O) (g:O.Ge A):ye n T B A:=⟨fun u hu=>(h.1 u hu).ge g,h.2⟩
theorem rZ {A B:VH} {b sz:Nat} {t:Tok} (h:App A b sz t) (hi:∀i,b<=i->B.hp i=A.hp i) (hn:A.N<=B.N):App B b sz t:=by
 cases t with
 | own t k=>
   obtain⟨g1,g2,g3,g4⟩:=h;exact⟨g1,(hi t g3).trans g2,g3,by omega⟩
 | _=>exact h
theorem ye.zero (n B:Nat) (O:VH):ye n (fun _=>.nil) B O:=⟨fun u _=>trivial,fun u v _ _ _ i h=>by cases h⟩
theorem ye.put {n B:Nat} {T:Nat->Tok} {O A:VH} {u:Nat} (h:ye n T B O) (hu:u<n) (hB:B<=O.N) (hA:A.N=(O.after (T u)).N) (hi:∀i,B<=i->A.hp i=(O.after (T u)).hp i):ye n (fun v=>if v=u then .own O.N 1 else T v) B A:=by
 have cf:=h.1 u hu;refine⟨fun w hw=>rZ (A:=O.after (T u)) ?_ hi (by omega),?_⟩
 ·dsimp only;by_cases e:w=u
  ·rw[if_pos e];exact App.after (by omega)
  ·rw[if_neg e];exact b_.app (b_.after cf) (h.1 w hw) (fun i e'=>h.2 u w hu hw (Ne.symm e) i e')
 ·intro w x hw hx hne i hi ei;dsimp only at hi ei;by_cases e:w=u
  ·rw[if_pos e]at hi;injection hi with hi;subst hi;rw[if_neg (fun e'=>hne (e.trans e'.symm))]at ei;have:=((h.1 x hx).nD ei).2;omega
  ·rw[if_neg e]at hi;by_cases e':x=u
   ·rw[if_pos e']at ei;injection ei with ei;subst ei;have:=((h.1 w hw).nD hi).2;omega
   ·rw[if_neg e']at ei;exact h.2 w x hw hx hne i hi ei
abbrev w8:=List (Int×List Int×Tok×Nat)
def r3 (M:w8):vx:=M.map fun p=>(mi p.1,.sl p.2.1.length (p.2.1.map mi) p.2.2.1,p.2.2.2)
def m5 (k:Int):w8->Option (List Int×Tok)
 | []=>none
 | p::M=>if k==p.1 then some (p.2.1,p.2.2.1)else m5 k M
def G8 (k:Int):w8->Nat
 | []=>0
 | p::M=>if k==p.1 then 0 else G8 k M+1
def tu (k:Int) (l:List Int) (t:Tok) (ck:Nat):w8->w8
 | []=>[(k,l,t,ck)]
 | p::M=>if k==p.1 then(p.1,l,t,p.2.2.2)::M else p::tu k l t ck M
def ckR (k:Int) (ck:Nat) (M:w8):Nat:=if(m5 k M).isSome then ck else ck+1
def rwM (x:Option (List Int×Tok)):MV:=match x with
 | some (l,t)=>.sl l.length (l.map mi) t
 | none=>.sl 0 [] .nil
theorem L3 (k:Int):∀(M:w8) (i:Nat),qq (.int .i64) (mi k) (r3 M) i=some ((m5 k M).map fun x=>(i+G8 k M,rwM (some x)))
 | [],i=>rfl
 | p::M,i=>by
   have ih:=L3 k M (i+1)
   have e:qq (.int .i64) (mi k) (r3 (p::M)) i=match(if IntKind.i64=IntKind.i64 then some (k==p.1)else none)with
    | some true=>some (some (i,.sl p.2.1.length (p.2.1.map mi) p.2.2.1))
    | some false=>qq (.int .i64) (mi k) (r3 M) (i+1)
    | none=>none:=rfl
   rw[e,if_pos rfl,m5,G8];cases h:k==p.1
   ·dsimp only;rw[ih,if_neg (by decide),if_neg (by decide),show i+1+G8 k M=i+(G8 k M+1) by omega]
   ·rfl
theorem JL (k:Int) (l:List Int) (t:Tok) (ck:Nat):∀M:w8,r3 (tu k l t ck M)=if(m5 k M).isSome then setAt (r3 M) (G8 k M) (mi k) (.sl l.length (l.map mi) t)else r3 M++[(mi k,.sl l.length (l.map mi) t,ck)]
 | []=>rfl
 | p::M=>by
   have ih:=JL k l t ck M;rw[tu,m5,G8];cases h:k==p.1
   ·simp only[anc,if_false];rw[show r3 (p::tu k l t ck M)=(mi p.1,.sl p.2.1.length (p.2.1.map mi) p.2.2.1,p.2.2.2)::r3 (tu k l t ck M)from rfl,ih];cases(m5 k M).isSome
    ·rfl
    ·simp[r3,setAt]
   ·have h':k=p.1:=by simpa using h
    subst h';rfl
theorem Vk {tab:cj} {O:VH} {t kt et:TypeId} {a b' c d:Nat} {z y:List MV} {b ck:Nat} {M:w8} {k:Int} {te:cL} (h:tab t=some ⟨.map kt et,a,b',z⟩) (hk:tab kt=some ⟨.int .i64,c,d,y⟩) (he:tab et=some te) (hz:xn te=some (.sl 0 [] .nil)) (hb:O.hp b=some (.map (r3 M) ck)):
  ie tab O t (.map b) (.v (.int .i64 k)) false=some (rwM (m5 k M)):=by
 have hj:=L3 k M 0;rw[aq]at hj;unfold ie;simp only[h,hk,he,am8,mapOf,hb,Option.bind_some,hj,yi,decide_true];cases m5 k M with
 | none=>simp only[ans,hz,am8];rfl
 | some x=>rfl
theorem aja {tab:cj} {O:VH} {t kt et:TypeId} {a b' c d:Nat} {z y:List MV} {b ck:Nat} {M:w8} {k:Int} {l:List Int} {tk:Tok} {n:Nat} {cs:List MV} (h:tab t=some ⟨.map kt et,a,b',z⟩) (hk:tab kt=some ⟨.int .i64,c,d,y⟩) (hb:O.hp b=some (.map (r3 M) ck)) (hn:n=l.length) (hc:cs=l.map mi):
  eC tab O t (.map b) (.v (.int .i64 k)) (.sl n cs tk)=some (O.set b (.map (r3 (tu k l tk ck M)) (ckR k ck M))):=by
 subst hn;subst hc
 have hj:=L3 k M 0;rw[aq]at hj;unfold eC ckR;rw[JL,aq];simp only[h,hk,am8,hb,hj,yi,decide_true];cases m5 k M with
 | none=>rfl
 | some x=>simp
theorem P8 (k:Int) (l:List Int) (t:Tok) (ck:Nat) (k':Int):∀M:w8,m5 k' (tu k l t ck M)=if k'=k then some (l,t)else m5 k' M
 | []=>by
   show(if k'==k then some (l,t)else none)=if k'=k then some (l,t)else none
   by_cases e:k'=k
   ·rw[if_pos (by simp[e]),if_pos e]
   ·rw[if_neg (by simpa using e),if_neg e]
 | p::M=>by
   have ih:=P8 k l t ck k' M;rw[tu];cases h:k==p.1
   ·simp only[anc,if_false];rw[m5,ih,m5];by_cases e:k'=k
    ·subst e;simp[h]
    ·simp only[if_neg e]
   ·have h':k=p.1:=by simpa using h
    subst h';rw[if_pos rfl,m5,m5];by_cases e:k'=p.1
    ·rw[if_pos (by simp[e]),if_pos e]
    ·rw[if_neg (by simpa using e),if_neg e,if_neg (by simpa using e)]
def D9 (M:w8) (B:Nat) (O:VH):Prop:=(∀p∈M,App O B 1 p.2.2.1)/\M.Pairwise fun p q=>∀i,Tok.id p.2.2.1=some i->Tok.id q.2.2.1≠some i
theorem D9.ge {M:w8} {B:Nat} {O A:VH} (h:D9 M B O) (g:O.Ge A):D9 M B A:=⟨fun p hp=>(h.1 p hp).ge g,h.2⟩
theorem G9 {k:Int} {l:List Int} {t:Tok}:∀{M:w8},m5 k M=some (l,t)->∃p∈M,p.2.1=l/\p.2.2.1=t
 | [],h=>by cases h
 | p::M,h=>by
   rw[m5]at h;split at h
   ·injection h with h;injection h with h1 h2;exact⟨p,ajk,h1,h2⟩
   ·obtain⟨q,h1,h2⟩:=G9 h;exact⟨q,agc _ h1,h2⟩
theorem D9.app {M:w8} {B:Nat} {O:VH} (h:D9 M B O) {k:Int} {l:List Int} {t:Tok} (hk:m5 k M=some (l,t)):App O B 1 t:=by
 obtain⟨p,h1,_,rfl⟩:=G9 hk;exact h.1 p h1
theorem D9.put {B:Nat} {O A:VH} {k:Int} {l:List Int} {ck:Nat} {tk:Tok}:∀{M:w8},D9 M B O->(tk=match m5 k M with | some x=>x.2 | none=>.nil)->B<=O.N->App O B 1 tk->A.N=(O.after tk).N->(∀i,B<=i->A.hp i=(O.after tk).hp i)->D9 (tu k l (.own O.N 1) ck M) B A
 | [],h,ht,hB,ha,hn,hi=>⟨fun p hp=>by
   rw[ahJ.1 hp];exact rZ (App.after hB) hi (by omega),List.pairwise_singleton _ _⟩
 | p::M,h,ht,hB,ha,hn,hi=>by
   obtain⟨h1,h2⟩:=h;obtain⟨h3,h4⟩:=ank.1 h2;have nc:App A B 1 (.own O.N 1):=rZ (App.after hB) hi (by omega);rw[m5]at ht;rw[tu];cases e:k==p.1
   ·rw[e,if_neg (by decide)]at ht;rw[if_neg (by decide)];have ih:=D9.put (k:=k) (l:=l) (ck:=ck) (M:=M) ⟨fun q hq=>h1 q (agc _ hq),h4⟩ ht hB ha hn hi
    have hne:∀i,Tok.id tk=some i->Tok.id p.2.2.1≠some i:=fun i e1 e2=>by
     cases hl:m5 k M with
     | none=>rw[hl]at ht;rw[ht]at e1;cases e1
     | some x=>
       rw[hl]at ht;obtain⟨x1,x2⟩:=x;obtain⟨q,hq,_,ux⟩:=G9 hl;dsimp only at ht;exact h3 q hq i e2 (by rw[ux, <-ht];exact e1)
    have hp:=b_.app (b_.after ha) (h1 p ajk) hne;refine⟨fun q hq=>?_,ank.2 ⟨fun q hq i e1 e2=>?_,ih.2⟩⟩
    ·rcases ajl.1 hq with rfl | hq
     ·exact rZ hp hi (by omega)
     ·exact ih.1 q hq
    ·have eh:=((h1 p ajk).nD e1).2
     have:q.2.2.1= .own O.N 1\/∃q'∈M,q'.2.2.1=q.2.2.1:=by
      clear ih h1 h2 h3 h4 ht hne hp e1 e2;induction M with
      | nil=>rw[tu,ahJ]at hq;rw[hq];exact .inl rfl
      | cons r M ihM=>
        rw[tu]at hq;split at hq
        ·rcases ajl.1 hq with rfl | hq
         ·exact .inl rfl
         ·exact .inr ⟨q,agc _ hq,rfl⟩
        ·rcases ajl.1 hq with rfl | hq
         ·exact .inr ⟨_,ajk,rfl⟩
         ·rcases ihM hq with h | ⟨q',g1,g2⟩
          ·exact .inl h
          ·exact .inr ⟨q',agc _ g1,g2⟩
     rcases this with h | ⟨q',g1,g2⟩
     ·rw[h]at e2;injection e2 with e2;omega
     ·exact h3 q' g1 i e1 (by rw[g2];exact e2)
   ·rw[e,if_pos rfl]at ht;dsimp only at ht;rw[if_pos rfl];refine⟨fun q hq=>?_,ank.2 ⟨fun q hq i e1 e2=>?_,h4⟩⟩
    ·rcases ajl.1 hq with rfl | hq
     ·exact nc
     ·exact rZ (b_.app (b_.after ha) (h1 q (agc _ hq)) fun i e1=>h3 q hq i (by rw[<-ht];exact e1)) hi (by omega)
    ·injection e1 with e1;subst e1;have:=((h1 q (agc _ hq)).nD e2).2;omega
def kF (X:List Ch) (k:Ky):Option Nat:=X.findIdx? fun c=>oN c.k k
theorem z6 (X:List Ch) (c:Ch) (k:Ky):kF (X++[c]) k=match kF X k with
  | some i=>some i
  | none=>if oN c.k k then some X.length else none:=by
 unfold kF;rw[List.findIdx?_append];cases h:X.findIdx? fun c=>oN c.k k with
 | some i=>rfl
 | none=>
   cases h2:oN c.k k<;>simp[List.findIdx?_cons,h2]
theorem G_ {X:List Ch} {k:Ky} {i:Nat} (h:kF X k=some i):i<X.length:=by
 unfold kF at h;rw[List.findIdx?_eq_some_iff_getElem]at h;exact h.1
def vk (X:List Ch) (a:Int):Nat->List Int
 | 0=>[]
 | j+1=>vk X a j++match X[j]? with
   | some c=>if c.at'=a then[(j:Int)]else[]
   | none=>[]
theorem P9 (X:List Ch) (a:Int):∀(j:Nat) (x:Int),x∈vk X a j ↔ ∃(i:Nat) (c:Ch),x=i/\i<j/\X[i]?=some c/\c.at'=a
 | 0,x=>⟨(fun h=>by cases h),fun⟨i,c,_,h,_⟩=>by omega⟩
 | j+1,x=>by
   rw[vk,ahM,P9 X a j x];constructor
   ·rintro(⟨i,c,h1,h2,h3⟩ | h)
    ·exact⟨i,c,h1,by omega,h3⟩
    ·cases hX:X[j]? with
     | none=>rw[hX]at h;cases h
     | some c=>
       rw[hX]at h;dsimp only at h;split at h
       ·rename_i hc;exact⟨j,c,ahJ.1 h,by omega,hX,hc⟩
       ·cases h
   ·rintro⟨i,c,h1,h2,h3,h4⟩;by_cases e:i=j
    ·subst e;refine .inr ?_;rw[h3];dsimp only;rw[if_pos h4,h1];exact ane _
    ·exact .inl ⟨i,c,h1,by omega,h3,h4⟩
theorem Ha (X:List Ch) (a:Int):∀j,(vk X a j).length<=j
 | 0=>Zk _
 | j+1=>by
   have:=Ha X a j;rw[vk,Zj];split
   ·split<;>simp<;>omega
   ·simp;omega
def ry (l:List Int) (k:Nat):List Int:=if l.contains (k:Int)then l else l++[(k:Int)]
theorem P_ (l:List Int) (k:Nat):ry (ry l k) k=ry l k:=by
 unfold ry;by_cases h:l.contains (k:Int)=true
 ·rw[if_pos h,if_pos h]
 ·rw[if_neg h,if_pos (by simp)]
theorem JM (l:List Int) (k:Nat):(ry l k).length<=l.length+1:=by
 unfold ry;split<;>simp
def po (X:List Ch) (L:List Bn) (a:Int):Nat->List Int
 | 0=>[]
 | j+1=>match L[j]? with
   | some b=>if 0<j/\b.up=a then match kF X b.k with
     | some k=>ry (po X L a j) k
     | none=>po X L a j
     else po X L a j
   | none=>po X L a j
theorem Hb (X:List Ch) (L:List Bn) (a:Int):∀j,(po X L a j).length<=j
 | 0=>Zk _
 | j+1=>by
   have:=Hb X L a j;rw[po];split
   ·split
    ·split
     ·have:=JM (po X L a j) (by assumption);omega
     ·omega
    ·omega
   ·omega
def gF (X:List Ch) (L:List Bn) (j:Nat) (u:Nat):List Int:=match X[u]? with
 | some c=>po X L c.at' j
 | none=>[]
theorem afZ (l:List Int) (k:Int) (tk:Tok) (O:VH) (hl:l.length<=1000000):VF Tryz.prog 34 [.sl l.length (l.map mi) tk,mi k] O (aD fun m O'=>(∃i:Int,m=mi i/\decide (0<=i)=l.contains k)/\O'=O):=by
 have ib:dy (bY Tryz.prog) 29 (.sl l.length (l.map mi) tk)=some (.v (.int .i64 l.length)):=bR lN;have r4:∀(j:Nat) (y:Int),l[j]?=some y->(l.map mi)[j]?=some (MV.v (.int .i64 y)):=fun j y h=>by rw[Qm,h];rfl
 have D_:(l.map mi).length=l.length:=Ma _;rw[aq];generalize l.map mi=cs at*;refine υ 19 [.tmp 4] Tryz.func34 ?_;refine κ @aP ?_;refine Θ [] (fun _:Unit=>[]) (fun _ O'=>O'=O/\l.contains k=false) ?_ ?_
 ·refine ξ @aP @ib ?_;refine τ ?_;refine Γ [8] [0,1,7] (fun j:Nat=>[mi j]) (fun j O'=>O'=O/\j<=l.length/\(l.take j).contains k=false) (fun j=>l.length - j) (0) ?_ ?_
  ·exact⟨rfl,Qn _,rfl⟩
  rintro j Ox ⟨eO,hj,dF⟩;rw[eO];clear eO Ox
  by_cases aM:j<l.length;rotate_left
  ·obtain rfl:j=l.length:=by omega
   rw[adX]at dF;refine ν @aP ?_;exact aA.mk () ⟨rfl,dF⟩
  have cI:((j:Int)+1)=((j+1:Nat):Int):=by omega
  have bG:=r4 j l[j] (zP aM);have dh:l.take (j+1)=l.take j++[l[j]]:=by rw[adZ aM]
  have Dm:=adY aM;generalize l[j]=y at*;refine κ @aP ?_;refine κ @aP ?_;refine χ (τ ?_);refine κ @aP ?_;cases hy:k==y
  ·refine ι (cR @aP @bG @D_ @hy ?_);refine ο @aP @cI ?_;refine az.N (j+1) ⟨rfl,aM,?_⟩;rw[dh,am_,dF,anE];simpa using hy
  ·refine ι (cR @aP @bG @D_ @hy ?_);refine⟨j,rfl,?_⟩;have e:k=y:=by simpa using hy
   subst e;simpa using Dm
 rintro _ Ox ⟨eO,dF⟩;rw[eO];clear eO Ox
 refine ν @aP ?_;exact⟨-1,rfl,by rw[dF];rfl⟩
theorem af0 (l:List Int) (k:Int) (tk:Tok) (O:VH) (hl:l.length<=1000000):VF Tryz.prog 18 [.sl l.length (l.map mi) tk,mi k] O (aD fun m O'=>m=mb (l.contains k)/\O'=O):=by
 have h:=afZ l k tk O hl;rw[aq]at h ⊢;refine Δ 9 [.tmp 4] Tryz.func18 ?_;refine ab @aP ?_;refine ah.rt (h) ?_;rintro _ O2 ⟨⟨i,rfl,hi⟩,e2⟩;rw[e2];clear e2 O2
 rw[aq];have rE:decide (i>=0)=l.contains k:=hi;refine aG @aP @hi @rE ?_;trivial
structure yQ (X:List Ch) (j:Nat) (bn bo:Nat) (O:VH):Prop where
 n:∃M ck,O.hp bn=some (.map (cP M) ck)/\nT 4 M/\∀k:Ky,iC (cQ k) M=(kF (X.take j) k).map fun i=>mi (i:Nat)
 o:∃M ck,O.hp bo=some (.map (r3 M) ck)/\D9 M (bo+1) O/\∀a:Int,((m5 a M).map (·.1)).getD []=vk X a j
theorem yQ.ge {X:List Ch} {j bn bo:Nat} {O A:VH} (h:yQ X j bn bo O) (g:O.Ge A) (h1:bn<O.N) (h2:bo<O.N):yQ X j bn bo A:=by
 obtain⟨⟨M,c,m1,m2,m3⟩,⟨M',c',o1,o2,o3⟩⟩:=h;exact⟨⟨M,c,g.at m1,m2,m3⟩,⟨M',c',g.at o1,o2.ge g,o3⟩⟩
theorem yQ.fr {X:List Ch} {j bn bo q:Nat} {cs:List MV} {O A:VH} (h:yQ X j bn bo O) (hq:O.hp q=some (.cells cs)) (hn:O.N<=A.N) (hi:∀i,i<O.N->i≠q->A.hp i=O.hp i) (h1:bn<O.N) (h2:bo<O.N):yQ X j bn bo A:=by
 obtain⟨⟨M,c,m1,m2,m3⟩,⟨M',c',o1,o2,o3⟩⟩:=h;have e1:bn≠q:=fun e=>by rw[e,hq]at m1;cases m1
 have e2:bo≠q:=fun e=>by rw[e,hq]at o1;cases o1
 exact⟨⟨M,c,(hi bn h1 e1).trans m1,m2,m3⟩,⟨M',c',(hi bo h2 e2).trans o1,⟨fun p hp=>(o2.1 p hp).mv hn fun i rE e=>(hi i rE fun e'=>by rw[e',hq]at e;cases e).trans e,o2.2⟩,o3⟩⟩
theorem adt {M:w8} {a:Int} {r:List Int} (h:((m5 a M).map (·.1)).getD []=r):∃t,rwM (m5 a M)= .sl r.length (r.map mi) t/\t=(match m5 a M with | some x=>x.2 | none=>.nil):=by
 cases hl:m5 a M with
 | none=>rw[hl]at h;subst h;exact⟨.nil,rfl,rfl⟩
 | some x=>rw[hl]at h;subst h;exact⟨x.2,rfl,rfl⟩
theorem Y7 (M:fG) (p:List Bs×MV×Nat) (l:List Bs):iC l (M++[p])=(iC l M).or (if p.1==l then some p.2.1 else none):=by
 unfold iC;rw[List.find?_append];cases M.find? (·.1==l)with
 | some x=>rfl
 | none=>
   cases h:p.1==l<;>simp[h]
theorem adu {a b:Ky}:(cQ a==cQ b)=oN a b:=by
 rw[PJ,ant];constructor
 ·intro h;rw[JD (eq_of_beq h)];simp
 ·intro h;rw[eq_of_beq h];simp
def Rm (F:List Int) (G:Nat->List Int) (k m v:Nat):List Int:=if(F.take m).contains (v:Int)then ry (G v) k else G v
theorem ajb {F:List Int} {G:Nat->List Int} {k m u v:Nat} (hm:F[m]?=some (u:Int)) (h:v≠u):Rm F G k (m+1) v=Rm F G k m v:=by
 unfold Rm;rw[am9,hm,am_]
 have:([(u:Int)]:List Int).contains (v:Int)=false:=by
  rw[Bool.eq_false_iff];intro e;have:(v:Int)=u:=by simpa using e
  omega
 rw[show((some (u:Int)).toList:List Int)=[(u:Int)]from rfl,this,anF]
theorem ajc {F:List Int} {G:Nat->List Int} {k m u:Nat} (hm:F[m]?=some (u:Int)):Rm F G k (m+1) u=ry (Rm F G k m u) k:=by
 unfold Rm;rw[List.take_add_one,hm,List.contains_append];have:((some (u:Int)).toList:List Int).contains (u:Int)=true:=by simp
 rw[this,Bool.or_true,if_pos rfl];split
 ·rw[P_]
 ·rfl
theorem adv (F:List Int) (G:Nat->List Int) (k v:Nat):Rm F G k 0 v=G v:=by
 unfold Rm;rw[anj,if_neg (by simp)]
theorem af1 (F:List Int) (G:Nat->List Int) (k m v:Nat):(Rm F G k m v).length<=(G v).length+1:=by
 unfold Rm;split
 ·exact JM _ _
 ·omega
theorem L4 (X:List Ch) (L:List Bn) (j u:Nat):(gF X L j u).length<=j:=by
 unfold gF;split
 ·exact Hb _ _ _ _
 ·exact Qn _
theorem adw {X:List Ch} {L:List Bn} {j u:Nat} {b:Bn} {c:Ch} (hb:L[j]?=some b) (hu:X[u]?=some c):gF X L (j+1) u=if 0<j/\b.up=c.at' then match kF X b.k with
  | some k=>ry (gF X L j u) k
  | none=>gF X L j u
 else gF X L j u:=by
 unfold gF;rw[hu];dsimp only;rw[po,hb]<;>rfl
set_option maxHeartbeats 8000000 in
theorem Hc (L:List Bn) (X:List Ch) (tk tx:Tok) (hL:L.length<=1000) (hX:X.length<=1000) (yf:∀b∈L,∀s∈cQ b.k,s.length<=maxLen) (yb:∀c∈X,∀s∈cQ c.k,s.length<=maxLen) (O:VH):
  VF Tryz.prog 7 [.sl L.length (L.flatMap eB) tk,.sl X.length (X.flatMap fz) tx] O (aD fun m O'=>(∃T t,m= .sl X.length (c5 X.length (gF X L L.length) T) t)/\O.Ge O'):=by
 have hlX:=aV jR X;have Ti:dy (bY Tryz.prog) 23 (.sl X.length (X.flatMap fz) tx)=some (.v (.int .i64 X.length)):=bR FC;have hlL:=aV jg L;have hvL:dy (bY Tryz.prog) 22 (.sl L.length (L.flatMap eB) tk)=some (.v (.int .i64 L.length)):=bR B6;have jQ:=fun O'=>JC (tab:=bY Tryz.prog) AN lN O' X.length (by omega) (by omega)
 refine υ 103 [.tmp 4] Tryz.func7 ?_;refine κ @aP ?_;refine κ @aP ?_;refine VC.gen ?_;intro O1 e1;obtain⟨aI,cW,cz,cD⟩:=hY _ _ e1;clear e1;refine Θ [0,1,5,6] (fun _:Unit=>[.sl L.length (L.flatMap eB) tk,.sl X.length (X.flatMap fz) tx,.map O.N,.map (O.N+1)]) (fun _ O'=>O.Ge O'/\O.N+2<=O'.N/\yQ X X.length O.N (O.N+1) O') ?_ ?_
 ·refine ξ @aP @Ti ?_;refine τ ?_;refine Γ [22] [0,1,5,6,20,21] (fun j:Nat=>[mi j]) (fun j O'=>j<=X.length/\O.Ge O'/\O.N+2<=O'.N/\yQ X j O.N (O.N+1) O') (fun j=>X.length - j) (0) ?_ ?_
  ·exact⟨Qn _,aI,by omega,⟨[],0,cz,⟨by simp,by simp⟩,fun k=>rfl⟩,⟨[],0,cD,⟨by simp,List.Pairwise.nil⟩,fun a=>rfl⟩⟩
  rintro j O3 ⟨hj,aH,gy,hN3⟩;by_cases aM:j<X.length;rotate_left
  ·obtain rfl:j=X.length:=by omega
   refine ν @aP ?_;exact aA.mk () ⟨aH,gy,hN3⟩
  have cI:((j:Int)+1)=((j+1:Nat):Int):=by omega
  have bG:=ct jR X j aM;have OZ:=yb X[j] (adY aM);have dh:X.take (j+1)=X.take j++[X[j]]:=by rw[adZ aM]
  have qc:∀a,vk X a (j+1)=vk X a j++if X[j].at'=a then[(j:Int)]else[]:=fun a=>by rw[vk,zP aM]
  have L5:=fun k=>z6 (X.take j) X[j] k
  rw[<-dh,ahN,ajq hj]at L5;clear dh;generalize X[j]=c at*;obtain⟨⟨k1,k2,k3,k4⟩,at',v,s⟩:=c;simp only[fz,aq]at bG;dsimp only at qc L5;refine κ @aP ?_;refine κ @aP ?_;refine χ (τ ?_);refine ξ @aP @bG ?_;refine VC.al ?_;rintro O4 ⟨aY,jo,gO⟩;have hN4:=hN3.ge aY (by omega) (by omega);have gW:=aH.trans aY;clear hN3;obtain⟨⟨M,ck,m1,m2,m3⟩,⟨W,cw,w1,w2,w3⟩⟩:=hN4;refine Θ [0,1,5,6,7,8,20,21,22] (fun _:Unit=>[.sl L.length (L.flatMap eB) tk,.sl X.length (X.flatMap fz) tx,.map O.N,.map (O.N+1),mi j,.ptr O3.N 0,.sl X.length (X.flatMap fz) tx,mi X.length,mi j]) (fun _ O'=>O4.N<=O'.N/\(∀i,i≠O.N->O'.hp i=O4.hp i)/\∃M ck,O'.hp O.N=some (.map (cP M) ck)/\nT 4 M/\∀k:Ky,iC (cQ k) M=(kF (X.take (j+1)) k).map fun i=>mi (i:Nat)) ?_ ?_
  ·refine ξ @aP @jo ?_;refine VL.hold (.inl ⟨rfl,.inl rfl⟩) rfl rfl (δ oL aa (l:=cQ ⟨k1,k2,k3,k4⟩) (te:=⟨_,1,8,[.v (.int .i64 0)]⟩) Tryz.underlying37 T3 rfl rfl m1 m2 rfl rfl OZ) (WL.sound aa ?_);have eD:=m3 ⟨k1,k2,k3,k4⟩;have am0:=L5 ⟨k1,k2,k3,k4⟩;cases hid:kF (X.take j) ⟨k1,k2,k3,k4⟩with
   | some i0=>
     rw[hid]at eD;simp only[am8]at eD;rw[eD,aq];refine ab @aP ?_;refine ν @aP ?_;refine aA.mk () ⟨Zk _,fun i _=>rfl,M,ck,m1,m2,fun k=>?_⟩;rw[m3 k,L5 k];cases h5:kF (X.take j) k with
     | some i5=>rfl
     | none=>
       dsimp only;cases h6:oN ⟨k1,k2,k3,k4⟩ k
       ·rfl
       ·rw[PJ]at h6;rw[<-eq_of_beq h6,hid]at h5;cases h5
   | none=>
     rw[hid]at eD;simp only[ans]at eD;rw[eD];refine ab @aP ?_;refine ο @aP @jo ?_;refine VL.oE rfl rfl (oD.ja oL (l:=cQ ⟨k1,k2,k3,k4⟩) (b:=O.N) (ck:=ck) (M:=M) Tryz.underlying37 rfl m1 m2 rfl rfl OZ rfl) (fun brk hb=>by cases hb) (WL.sound aa ?_);have kZ:=qz (y:=.v (.int .i64 j)) (ck:=ck) m2 (l:=cQ ⟨k1,k2,k3,k4⟩) rfl OZ
     have jY:(M.any fun p=>p.1==cQ ⟨k1,k2,k3,k4⟩)=false:=by
      unfold iC at eD;rw[Option.map_eq_none_iff,List.find?_eq_none]at eD;rw[List.any_eq_false];exact eD
     unfold ja at kZ;unfold ja KB;rw[jY]at kZ ⊢;refine ab @aP ?_;refine aA.mk () ⟨Zk _,fun i hi=>π _ _ hi,_,_,ρ _ _ _,kZ,fun k=>?_⟩;rw[Y7,m3 k,L5 k];dsimp only;rw[adu];cases h5:kF (X.take j) k with
     | some i5=>rfl
     | none=>
       dsimp only;cases h6:oN ⟨k1,k2,k3,k4⟩ k<;>rfl
  rintro _ O5 ⟨eU,gM,hN5⟩;have mD:=(gM O3.N (by omega)).trans jo;have hw5:=(gM (O.N+1) (by omega)).trans w1;have Sy:D9 W (O.N+2) O5:=⟨fun p hp=>rZ (w2.1 p hp) (fun i hi=>gM i (by omega)) eU,w2.2⟩;obtain⟨t,jT,ht⟩:=adt (w3 at');have eD:ie (bY Tryz.prog) O5 38 (.map (O.N+1)) (.v (.int .i64 at')) false=some (rwM (m5 at' W)):=Vk T38 T3 lN rfl hw5;rw[jT]at eD
  have cf:App O5 (O.N+2) 1 t:=by
   cases hl:m5 at' W with
   | none=>rw[hl]at ht;rw[ht];trivial
   | some x=>rw[hl]at ht;rw[ht];exact Sy.app (show m5 at' W=some (x.1,x.2)from hl)
  have sf:=Ha X at' j;have alX:=qc at';rw[if_pos rfl]at alX;generalize hr:vk X at' j=r at*;have ji:=aR (tk:=t) (tk':=.full) (n:=r.length) (k:=1) (cs:=r.map mi) (ds:=[.v (.int .i64 j)]) lN T3 cf (by rw[Ma,ajs]) rfl rfl (by decide) (by decide) (by omega) (by simp only[maxLen];omega);have hwA:=VH.jF cf hw5 (by simp) (by omega);have nG:eC (bY Tryz.prog) (O5.after t) 38 (.map (O.N+1)) (.v (.int .i64 at')) (.sl (r.length+1) (r.map mi++[.v (.int .i64 j)]) (.own O5.N 1))=some ((O5.after t).set (O.N+1) (.map (r3 (tu at' (r++[(j:Int)]) (.own O5.N 1) cw W)) (ckR at' cw W))):=aja T38 T3 hwA (by simp) (by simp[aq]);have il:=b_.after cf;refine WC.bP (.held [10]) [(0,.rd),(1,.rd),(2,.rd),(3,.rd),(4,.rd),(5,.rd),(6,.rd),(7,.rd),(8,.one),(9,.one),(10,.one)] ?_;refine aG @aP @mD @eD ?_;refine VL.app ji ?_;refine ao @aP @nG ?_;obtain⟨M',ck',q1,q2,q3⟩:=hN5;have GB:=VH.dZ O5 t;refine ο @aP @cI ?_;have Hd:∀i,Tok.id t=some i->O.N+2<=i:=fun i e=>(cf.nD e).1
  refine az.N (j+1) ⟨aM,⟨by show O.N<=(O5.after t).N;have:=gW.N;omega,fun i hi=>?_⟩,by show O.N+2<=(O5.after t).N;omega,⟨M',ck',?_,q2,q3⟩,⟨_,_,ρ _ _ _,?_,fun a=>?_⟩⟩
  ·rw[π _ _ (by omega),il.hp i (by have:=gW.N;omega) (fun e=>by have:=Hd i e;omega),gM i (by omega)];exact gW.hp i hi
  ·exact(π _ _ (by omega)).trans (VH.jF cf q1 (by simp) (by omega))
  ·exact D9.put (k:=at') Sy ht (by omega) cf rfl fun i hi=>π _ _ (by omega)
  ·rw[P8,qc a];by_cases e:a=at'
   ·subst e;rw[if_pos rfl,if_pos rfl,hr];rfl
   ·rw[if_neg e,if_neg (Ne.symm e),aju];exact w3 a
 rintro _ O2 ⟨aB,eZ,hN2⟩;clear cz cD aI cW O1;refine θ (aG @aP @Ti @jQ ?_);refine VC.bx ?_;rintro O3 ⟨aH,jv,gy⟩;rw[<-Dv]at jv;have hN3:=hN2.ge aH (by omega) (by omega);have ew:=aB.trans aH;clear hN2;refine Θ [11] (fun _:Unit=>[.bB O2.N 0 X.length X.length]) (fun _ O'=>O.Ge O'/\O2.N<O'.N/\∃T,O'.hp O2.N=some (.cells (c5 X.length (gF X L L.length) T))) ?_ ?_
 ·refine ξ @aP @hvL ?_;refine τ ?_;refine Γ [56] [5,6,11,54,55] (fun j:Nat=>[mi j]) (fun j O'=>j<=L.length/\(∀i,i<O3.N->i≠O2.N->O'.hp i=O3.hp i)/\O3.N<=O'.N/\∃T,O'.hp O2.N=some (.cells (c5 X.length (gF X L j) T))/\ye X.length T O3.N O') (fun j=>L.length - j) (0) ?_ ?_
  ·exact⟨Qn _,fun _ _ _=>rfl,Zk _,_,(by rw[ir _ (R':=fun _=>[]) (fun u hu=>by unfold gF;rw[zP hu];rfl)];exact jv),ye.zero _ _ _⟩
  rintro j O4 ⟨hj,Qa,gO,T,fM,DT⟩;have hN4:=hN3.fr jv gO Qa (by omega) (by omega);have aY:O.Ge O4:=⟨by have:=ew.N;omega,fun i hi=>(Qa i (by have:=ew.N;omega) (by omega)).trans (ew.hp i hi)⟩;by_cases aM:j<L.length;rotate_left
  ·obtain rfl:j=L.length:=by omega
   refine ν @aP ?_;exact aA.mk () ⟨aY,by omega,T,fM⟩
  have cI:((j:Int)+1)=((j+1:Nat):Int):=by omega
  have bG:=ct jg L j aM;have tO:=yf L[j] (adY aM)
  have CH:∀(u:Nat) (c:Ch),X[u]?=some c->gF X L (j+1) u=if 0<j/\L[j].up=c.at' then match kF X L[j].k with
    | some k=>ry (gF X L j u) k
    | none=>gF X L j u
   else gF X L j u:=fun u c hu=>adw (zP aM) hu
  generalize L[j]=b at*;obtain⟨up,dp,od,⟨q1,q2,q3,q4⟩,bv,hd,rv,nn,iv,LH,bs,rd⟩:=b;simp only[eB,aq,bw]at bG;dsimp only at CH;refine κ @aP ?_;refine κ @aP ?_;refine χ (τ ?_);refine ξ @aP @bG ?_;refine VC.al ?_;rintro O5 ⟨bD,mD,eU⟩;have hN5:=hN4.ge bD (by omega) (by omega);have dS:=bD.at fM;obtain⟨⟨M,ck,m1,m2,m3⟩,⟨W,cw,w1,w2,w3⟩⟩:=hN5;rw[adX]at m3;refine ξ @aP @mD ?_;refine VL.hold (.inl ⟨rfl,.inl rfl⟩) rfl rfl (δ oL aa (l:=cQ ⟨q1,q2,q3,q4⟩) (te:=⟨_,1,8,[.v (.int .i64 0)]⟩) Tryz.underlying37 T3 rfl rfl m1 m2 rfl rfl tO) (WL.sound aa ?_);have eD:=m3 ⟨q1,q2,q3,q4⟩;cases hid:kF X ⟨q1,q2,q3,q4⟩with
  | none=>
    rw[hid]at eD CH;simp only[ans]at eD;dsimp only at CH
    have px:∀u,u<X.length->gF X L (j+1) u=gF X L j u:=fun u hu=>by
     rw[CH u X[u] (zP hu)];split<;>rfl
    have hN5:yQ X X.length O.N (O.N+1) O5:=hN4.ge bD (by omega) (by omega);rw[eD];refine ab @aP ?_;by_cases h0:j=0
    ·have e0:((j:Int)==0)=true:=by simp[h0]
     refine ο @aP @e0 ?_;refine ο @aP @cI ?_;refine az.N (j+1) ⟨aM,fun i h1 h2=>(bD.hp i (by omega)).trans (Qa i h1 h2),by omega,T,?_,DT.ge bD⟩;rw[ir T (R:=gF X L (j+1)) (R':=gF X L j) px];exact dS
    ·have e0:((j:Int)==0)=false:=by simpa using h0
     refine ο @aP @e0 ?_;refine ο @aP @cI ?_;refine az.N (j+1) ⟨aM,fun i h1 h2=>(bD.hp i (by omega)).trans (Qa i h1 h2),by omega,T,?_,DT.ge bD⟩;rw[ir T (R:=gF X L (j+1)) (R':=gF X L j) px];exact dS
  | some k=>
  rw[hid]at eD CH;simp only[am8]at eD;dsimp only at CH;have ahB:=G_ hid;rw[eD,aq];refine ab @aP ?_;by_cases h0:0<j;rotate_left
  ·have e0:((j:Int)==0)=true:=by simp;omega
   have px:∀u,u<X.length->gF X L (j+1) u=gF X L j u:=fun u hu=>by
    rw[CH u X[u] (zP hu),if_neg (fun h=>h0 h.1)]
   have hN5:yQ X X.length O.N (O.N+1) O5:=hN4.ge bD (by omega) (by omega);refine ο @aP @e0 ?_;refine ο @aP @cI ?_;refine az.N (j+1) ⟨aM,fun i h1 h2=>(bD.hp i (by omega)).trans (Qa i h1 h2),by omega,T,?_,DT.ge bD⟩;rw[ir T (R:=gF X L (j+1)) (R':=gF X L j) px];exact dS
  have e0:((j:Int)==0)=false:=by simp;omega
  obtain⟨t,jT,ht⟩:=adt (w3 up);have Jw:ie (bY Tryz.prog) O5 38 (.map (O.N+1)) (.v (.int .i64 up)) false=some (rwM (m5 up W)):=Vk T38 T3 lN rfl w1;rw[jT]at Jw;have hvF:dy (bY Tryz.prog) 29 (.sl (vk X up X.length).length ((vk X up X.length).map mi) t)=some (.v (.int .i64 (vk X up X.length).length)):=bR lN;have hFm:=fun x=>P9 X up X.length x
  have hFl:=Ha X up X.length;have LZ:∀(m:Nat) (y:Int),(vk X up X.length)[m]?=some y->((vk X up X.length).map mi)[m]?=some (MV.v (.int .i64 y)):=fun m y h=>by rw[Qm,h];rfl
  have alY:((vk X up X.length).map mi).length=(vk X up X.length).length:=Ma _;generalize hFF:vk X up X.length=F at*;generalize F.map mi=FM at*;refine ξ @aP @e0 ?_;refine VC.zw [5,6,11,54,55,56] (fun _:Unit=>[.map O.N,.map (O.N+1),.bB O2.N 0 X.length X.length,.sl L.length (L.flatMap eB) tk,mi L.length,mi j]) (fun _ O'=>O5.N<=O'.N/\(∀i,i<O3.N->i≠O2.N->O'.hp i=O5.hp i)/\∃T,O'.hp O2.N=some (.cells (c5 X.length (gF X L (j+1)) T))/\ye X.length T O3.N O') ?_ ?_
  ·refine θ (cR @aP @mD @Jw @hvF ?_);refine τ ?_;refine Γ [79] [5,6,11,14,54,55,56,77,78] (fun m:Nat=>[mi m]) (fun m O'=>m<=F.length/\O5.N<=O'.N/\(∀i,i<O3.N->i≠O2.N->O'.hp i=O5.hp i)/\∃T,O'.hp O2.N=some (.cells (c5 X.length (Rm F (gF X L j) k m) T))/\ye X.length T O3.N O') (fun m=>F.length - m) (0) ?_ ?_
   ·exact⟨Qn _,Zk _,fun _ _ _=>rfl,T,(by rw[ir T (fun u _=>adv F (gF X L j) k u)];exact dS),DT.ge bD⟩
   clear dS fM DT;rintro m O6 ⟨hm,mU,ov,T6,oa,ht6⟩;by_cases BM:m<F.length;rotate_left
   ·obtain rfl:m=F.length:=by omega
    refine ν @aP ?_;refine aA.mk () ⟨mU,ov,T6,?_,ht6⟩;rw[ir T6 (R:=gF X L (j+1)) (R':=Rm F (gF X L j) k F.length)]
    ·exact oa
    ·intro u hu;rw[CH u X[u] (zP hu)];unfold Rm;rw[adX];by_cases e:up=X[u].at'
     ·rw[if_pos ⟨h0,e⟩,if_pos];rw[List.contains_iff_mem];exact(hFm u).2 ⟨u,X[u],rfl,hu,zP hu,e.symm⟩
     ·rw[if_neg (fun h=>e h.2),if_neg];rw[List.contains_iff_mem];intro h;obtain⟨i,c,a1,a2,a3,a4⟩:=(hFm u).1 h;have:u=i:=by omega
      subst this;rw[zP hu]at a3;injection a3 with a3;rw[a3]at e;exact e a4.symm
   have Bx:((m:Int)+1)=((m+1:Nat):Int):=by omega
   obtain⟨u,c,sF,c8,c9,fD⟩:=(hFm F[m]).1 (List.getElem_mem BM);have hFu:F[m]?=some (u:Int):=by rw[List.getElem?_eq_getElem BM,sF]
   have hgm:=LZ m u hFu;have hrn:=fun v h=>ajb (G:=gF X L j) (k:=k) (v:=v) hFu h
   have Tj:=ajc (G:=gF X L j) (k:=k) hFu;have hru:=ny (Rm F (gF X L j) k m) T6 c8;have sf:=fO X.length (Rm F (gF X L j) k m) T6;have amt:=af1 F (gF X L j) k m u;have amu:=L4 X L j u;have JE:=af0 (Rm F (gF X L j) k m u) k (T6 u) O6 (by omega);rw[aq]at JE;have gL:=fun t=>G7 (R:=Rm F (gF X L j) k m) (R':=Rm F (gF X L j) k (m+1)) (x:=(k:Int)) T6 t c8
   unfold ry at Tj;have cf:=ht6.1 u c8;generalize hR:Rm F (gF X L j) k m=R at*;generalize hRr:c5 X.length R T6=RR at*;refine κ @aP ?_;refine κ @aP ?_;refine χ (τ ?_);refine θ (aG @aP @hgm @alY ?_);refine θ (cR @aP @oa @sf @hru ?_);refine ah.rt JE ?_;rintro _ O7 ⟨rfl,eO⟩;rw[eO];clear eO O7 JE
   cases DE:(R u).contains (k:Int)
   ·rw[DE,if_neg (by decide)]at Tj;have ji:=aR (tk:=T6 u) (tk':=.full) (n:=(R u).length) (k:=1) (cs:=(R u).map mi) (ds:=[.v (.int .i64 k)]) lN T3 cf (by rw[Ma,ajs]) rfl rfl (by decide) (by decide) (by omega) (by simp only[maxLen];omega);have haA:=VH.jF cf oa (by simp) (by omega);have cX:=gL (.own O6.N 1) Tj (fun v _ hv=>hrn v hv);rw[aq]at cX;refine ab @aP ?_;refine ι (cR @aP @oa @sf @hru ?_);refine VL.app ji ?_;have GB:=VH.dZ O6 (T6 u);have il:=b_.after cf;have Hd:∀i,Tok.id (T6 u)=some i->O3.N<=i:=fun i e=>(cf.nD e).1
    refine cR @aP @haA @sf @cX ?_;refine ο @aP @Bx ?_;refine az.N (m+1) ⟨BM,by show O5.N<=(O6.after (T6 u)).N;omega,fun i h1 h2=>?_,_,ρ _ _ _,ht6.put c8 (by omega) rfl fun i hi=>π _ _ (by omega)⟩;rw[π _ _ h2,il.hp i (by omega) (fun e=>by have:=Hd i e;omega)];exact ov i h1 h2
   ·rw[DE,if_pos rfl]at Tj;refine ab @aP ?_;refine ν @aP ?_;refine ο @aP @Bx ?_;refine az.N (m+1) ⟨BM,mU,ov,T6,?_,ht6⟩;rw[ir T6 (R:=Rm F (gF X L j) k (m+1)) (R':=R),hRr]
    ·exact oa
    ·intro v _;by_cases e:v=u
     ·rw[e];exact Tj
     ·exact hrn v e
  rintro _ O8 ⟨DN,wO,T8,CA,ht8⟩;refine ο @aP @cI ?_;exact az.N (j+1) ⟨aM,fun i h1 h2=>(wO i h1 h2).trans ((bD.hp i (by omega)).trans (Qa i h1 h2)),by omega,T8,CA,ht8⟩
 rintro _ O9 ⟨bj,zM,T,ha9⟩;refine VC.freeze 11 (sz:=X.length) rfl ha9 (by rw[fO];omega) ?_
 have dh:((c5 X.length (gF X L L.length) T).drop 0).take X.length=c5 X.length (gF X L L.length) T:=by
  rw[al_,ahP (by rw[fO];exact Zk _)]
 rw[dh,if_pos rfl];generalize hG:c5 X.length (gF X L L.length) T=G at*;refine κ @aP ?_;refine ν @aP ?_;exact⟨⟨T,.full,by rw[hG]⟩,bj.kill (by have:=aB.N;omega)⟩
theorem Dw (n:Nat) (R:Nat->List Int) (T:Nat->Tok) (t:Tok):c5 n R T++[.sl (R n).length ((R n).map mi) t]=c5 (n+1) R (fun v=>if v=n then t else T v):=by
 unfold c5;rw[anu,ajp,List.map_singleton]
 congr 1
 ·refine ani fun u hu=>?_
  have:=ajm.1 hu;dsimp only;rw[if_neg (by omega)]
 ·dsimp only;rw[if_pos rfl]
set_option maxHeartbeats 4000000 in
theorem Y8 (l:List Int) (t1 t2:Tok) (O:VH) (hl:l.length<=1000000):VF Tryz.prog 13 [.sl l.length (l.map mi) t1,.sl l.length (l.map mi) t2] O (aD fun m O'=>m=mb true/\O'=O):=by
 have ib:=fun t=>(bR lN:dy (bY Tryz.prog) 29 (.sl l.length (l.map mi) t)=some (.v (.int .i64 l.length)))
 have h1:=ib t1;have h2:=ib t2;have hne:((l.length:Int) != l.length)=false:=by simp
 have D_:(l.map mi).length=l.length:=Ma _;refine υ 26 [.tmp 4] Tryz.func13 ?_;refine κ @aP ?_;refine θ (cR @aP @h1 @h2 @hne ?_);refine Θ [] (fun _:Unit=>[]) (fun _ O'=>O'=O) ?_ ?_
 ·refine ξ @aP @h1 ?_;refine τ ?_;refine Γ [13] [0,1,12] (fun j:Nat=>[mi j]) (fun j O'=>O'=O/\j<=l.length) (fun j=>l.length - j) (0) ?_ ?_
  ·exact⟨rfl,Qn _⟩
  rintro j Ox ⟨eO,hj⟩;rw[eO];clear eO Ox
  by_cases aM:j<l.length;rotate_left
  ·obtain rfl:j=l.length:=by omega
   refine ν @aP ?_;exact aA.mk () rfl
  have cI:((j:Int)+1)=((j+1:Nat):Int):=by omega
  have bG:(l.map mi)[j]?=some (.v (.int .i64 l[j])):=by rw[Qm,zP aM];rfl
  generalize l[j]=y at*;have Kj:(y != y)=false:=by simp
  refine κ @aP ?_;refine κ @aP ?_;refine χ (τ ?_);refine κ @aP ?_;refine χ ?_;refine WC.reads ?_;refine cR @aP @bG @D_ @Kj ?_;refine ν @aP ?_;refine ο @aP @cI ?_;exact az.N (j+1) ⟨rfl,aM⟩
 rintro _ Ox eO;rw[eO];clear eO Ox
 refine ν @aP ?_;trivial
set_option maxHeartbeats 4000000 in
theorem adx (n:Nat) (R:Nat->List Int) (T1 T2:Nat->Tok) (t1 t2:Tok) (hn:n<=100000) (hR:∀u,u<n->(R u).length<=1000000) (O:VH):VF Tryz.prog 6 [.sl n (c5 n R T1) t1,.sl n (c5 n R T2) t2] O (aD fun m O'=>m=mb true/\O'=O):=by
 have h1:=(bR AN:dy (bY Tryz.prog) 25 (.sl n (c5 n R T1) t1)=some (.v (.int .i64 n)));have h2:=(bR AN:dy (bY Tryz.prog) 25 (.sl n (c5 n R T2) t2)=some (.v (.int .i64 n)));have hne:((n:Int) != n)=false:=by simp
 have q_:=fO n R T1;have pB:=fO n R T2;have aI:=fun u h=>ny (n:=n) R T1 (u:=u) h
 have aB:=fun u h=>ny (n:=n) R T2 (u:=u) h
 generalize c5 n R T1=A at*;generalize c5 n R T2=B at*;refine υ 27 [.tmp 4] Tryz.func6 ?_;refine κ @aP ?_;refine θ (cR @aP @h1 @h2 @hne ?_);refine Θ [] (fun _:Unit=>[]) (fun _ O'=>O'=O) ?_ ?_
 ·refine ξ @aP @h1 ?_;refine τ ?_;refine Γ [13] [0,1,12] (fun j:Nat=>[mi j]) (fun j O'=>O'=O/\j<=n) (fun j=>n - j) (0) ?_ ?_
  ·exact⟨rfl,Qn _⟩
  rintro j Ox ⟨eO,hj⟩;rw[eO];clear eO Ox
  by_cases aM:j<n;rotate_left
  ·obtain rfl:j=n:=by omega
   refine ν @aP ?_;exact aA.mk () rfl
  have cI:((j:Int)+1)=((j+1:Nat):Int):=by omega
  have g1:=aI j aM;have g2:=aB j aM;have hs:=Y8 (R j) (T1 j) (T2 j) O (hR j aM);refine κ @aP ?_;refine κ @aP ?_;refine χ (τ ?_);refine κ @aP ?_;refine χ ?_;refine VC.nP [9] ?_;refine ae.ar 0 ?_;refine ao @aP @q_ ?_;refine ae.ar 1 ?_;refine ao @aP @q_ ?_;refine ae.ar 2 ?_;refine ao @aP @q_ ?_;refine ae.ar 3 ?_;refine ao @aP @g1 ?_;refine ae.ar 4 ?_;refine ao @aP @pB ?_;refine ae.ar 5 ?_;refine ao @aP @pB ?_;refine ae.ar 6 ?_;refine ao @aP @pB ?_;refine ae.ar 7 ?_;refine ao @aP @g2 ?_;refine ae.call (i:=8) (hs) ?_;rintro _ O2 ⟨rfl,eO⟩;simp only[ak];rw[eO];clear eO O2
  refine⟨VH.Ge.refl _,?_⟩;refine ae.bP [(9,.ar)] ?_;refine ab @aP ?_;refine ν @aP ?_;refine ο @aP @cI ?_;exact az.N (j+1) ⟨rfl,aM⟩
 rintro _ Ox eO;rw[eO];clear eO Ox
 refine ν @aP ?_;trivial
theorem Ea {X:List Ch} {k:Ky} {i:Nat} (hi:i<X.length) (h:kF (X.take i) k=none) (he:oN X[i].k k=false):kF (X.take (i+1)) k=none:=by
 rw[<-adZ hi,z6,h];dsimp only;rw[he,if_neg (by decide)]
theorem ady {X:List Ch} {k:Ky} {i:Nat} (hi:i<X.length) (h:kF (X.take i) k=none) (he:oN X[i].k k=true):kF X k=some i:=by
 have h1:kF (X.take (i+1)) k=some i:=by
  rw[<-adZ hi,z6,h];dsimp only;rw[he,if_pos rfl,ahN,ajq (by omega)]
 rw[<-List.take_append_drop (i+1) X];unfold kF at h1 ⊢;rw[List.findIdx?_append,h1];rfl
theorem Y9 (l:List Int) (k:Int) {j:Nat} (hj:j<l.length):(l.take (j+1)).contains k=((l.take j).contains k||l[j]==k):=by
 rw[<-adZ hj,am_]
 congr 1
 rw[ant];simp only[List.contains_cons,List.contains_nil,anF,beq_iff_eq];exact eq_comm
set_option maxHeartbeats 16000000 in
theorem Y_ (L:List Bn) (X:List Ch) (tk tx:Tok) (hL:L.length<=1000) (hX:X.length<=1000) (O:VH):
  VF Tryz.prog 8 [.sl L.length (L.flatMap eB) tk,.sl X.length (X.flatMap fz) tx] O (aD fun m O'=>(∃T t,m= .sl X.length (c5 X.length (gF X L L.length) T) t)/\O.Ge O'):=by
 have hlX:=aV jR X;have Ti:dy (bY Tryz.prog) 23 (.sl X.length (X.flatMap fz) tx)=some (.v (.int .i64 X.length)):=bR FC;have hlL:=aV jg L;have hvL:dy (bY Tryz.prog) 22 (.sl L.length (L.flatMap eB) tk)=some (.v (.int .i64 L.length)):=bR B6;refine υ 77 [.tmp 4] Tryz.func8 ?_;refine κ @aP ?_;refine κ @aP ?_;refine Θ [5] (fun x:(Nat->Tok)×Tok=>[.sl X.length (c5 X.length (gF X L L.length) x.1) x.2]) (fun _ O'=>O.Ge O') ?_ ?_
 ·refine ξ @aP @Ti ?_;refine τ ?_;refine Γ [5,18] [0,1,16,17] (fun x:Nat×(Nat->Tok)×Tok=>[.sl x.1 (c5 x.1 (gF X L L.length) x.2.1) x.2.2,mi x.1]) (fun x O'=>x.1<=X.length/\O.Ge O'/\App O' O.N 1 x.2.2) (fun x=>X.length - x.1) ((0,(fun _=>.nil),.nil)) ?_ ?_
  ·exact⟨Qn _,VH.Ge.refl _,trivial⟩
  rintro⟨i,T,t1⟩ O1 ⟨hi,aI,cz⟩;dsimp only at hi cz ⊢;by_cases ei:i<X.length;rotate_left
  ·obtain rfl:i=X.length:=by omega
   refine ν @aP ?_;exact aA.mk (T,t1) aI
  have ou:((i:Int)+1)=((i+1:Nat):Int):=by omega
  have bG:=ct jR X i ei;have pJ:gF X L L.length i=po X L X[i].at' L.length:=by unfold gF;rw[zP ei]
  have gY:=fun t=>Dw i (gF X L L.length) T t
  have sf:=fO i (gF X L L.length) T;rw[pJ]at gY;generalize c5 i (gF X L L.length) T=G at*;generalize X[i]=c at*;obtain⟨⟨k1,k2,k3,k4⟩,at',v,s⟩:=c;simp only[fz,aq]at bG;dsimp only at gY;refine κ @aP ?_;refine κ @aP ?_;refine χ (τ ?_);refine ξ @aP @bG ?_;refine VC.al ?_;rintro O2 ⟨aB,jb,eZ⟩;refine κ @aP ?_;have BG:=aI.trans aB;refine Θ [0,1,5,8,16,17,18] (fun t:Tok=>[.sl L.length (L.flatMap eB) tk,.sl X.length (X.flatMap fz) tx,.sl i G t1,.sl (po X L at' L.length).length ((po X L at' L.length).map mi) t,.sl X.length (X.flatMap fz) tx,mi X.length,mi i]) (fun _ O'=>O2.Ge O') ?_ ?_
  ·refine ξ @aP @hvL ?_;refine τ ?_;refine Γ [8,24] [0,1,5,7,16,17,18,22,23] (fun x:Nat×Tok=>[.sl (po X L at' x.1).length ((po X L at' x.1).map mi) x.2,mi x.1]) (fun x O'=>x.1<=L.length/\O2.Ge O'/\App O' O2.N 1 x.2) (fun x=>L.length - x.1) ((0,.nil)) ?_ ?_
   ·exact⟨Qn _,VH.Ge.refl _,trivial⟩
   rintro⟨j,t2⟩ O3 ⟨hj,aH,jv⟩;dsimp only at hj jv ⊢;by_cases aM:j<L.length;rotate_left
   ·obtain rfl:j=L.length:=by omega
    refine ν @aP ?_;exact aA.mk t2 aH
   have cI:((j:Int)+1)=((j+1:Nat):Int):=by omega
   have qW:=ct jg L j aM
   have ql:po X L at' (j+1)=if 0<j/\L[j].up=at' then match kF X L[j].k with
     | some k=>ry (po X L at' j) k
     | none=>po X L at' j
    else po X L at' j:=by rw[po,zP aM]<;>rfl
   have uZ:=Hb X L at' j;generalize L[j]=b at*;obtain⟨up,dp,od,⟨q1,q2,q3,q4⟩,bv,hd,rv,nn,iv,LH,bs,rd⟩:=b;simp only[eB,aq,bw]at qW;dsimp only at ql;refine κ @aP ?_;refine κ @aP ?_;refine χ (τ ?_);refine ξ @aP @qW ?_;refine VC.al ?_;rintro O4 ⟨aY,jo,gO⟩;have gy:=aH.N;have ahC:=aY.at (aH.at jb);have JN:=aH.trans aY;have fM:=jv.ge aY;by_cases h0:0<j;rotate_left
   ·have e0:((j:Int)==0)=true:=by simp;omega
    rw[if_neg (fun h=>h0 h.1)]at ql;refine ξ @aP @e0 ?_;refine ο @aP @cI ?_;exact az.N (j+1,t2) ⟨aM,⟨JN,fM⟩⟩ (hl:=by dsimp only;rw[ql];rfl)
   have e0:((j:Int)==0)=false:=by simp;omega
   by_cases h1:up=at';rotate_left
   ·have e1:(up != at')=true:=by simpa using h1
    rw[if_neg (fun h=>h1 h.2)]at ql;refine θ (iN @aP @e0 @e1 @jo @ahC ?_);refine ο @aP @cI ?_;exact az.N (j+1,t2) ⟨aM,⟨JN,fM⟩⟩ (hl:=by dsimp only;rw[ql];rfl)
   have e1:(up != at')=false:=by simpa using h1
   rw[if_pos ⟨h0,h1⟩]at ql;refine θ (iN @aP @e0 @e1 @jo @ahC ?_);generalize po X L at' j=P at*;refine VC.zw [0,1,5,7,8,16,17,18,22,23,24] (fun t:Tok=>[.sl L.length (L.flatMap eB) tk,.sl X.length (X.flatMap fz) tx,.sl i G t1,.ptr O1.N 0,.sl (po X L at' (j+1)).length ((po X L at' (j+1)).map mi) t,.sl X.length (X.flatMap fz) tx,mi X.length,mi i,.sl L.length (L.flatMap eB) tk,mi L.length,mi j]) (fun t O'=>O2.Ge O'/\App O' O2.N 1 t) ?_ ?_
   ·refine ξ @aP @Ti ?_;refine τ ?_;refine Γ [8,40] [0,1,5,7,10,16,17,18,22,23,24,38,39] (fun x:Nat=>[.sl P.length (P.map mi) t2,mi x]) (fun x O'=>x<=X.length/\O4.Ge O'/\kF (X.take x) ⟨q1,q2,q3,q4⟩=none) (fun x=>X.length - x) (0) ?_ ?_
    ·exact⟨Qn _,VH.Ge.refl _,rfl⟩
    rintro d O5 ⟨zL,bD,dF⟩;dsimp only at zL ⊢;by_cases iM:d<X.length;rotate_left
    ·obtain rfl:d=X.length:=by omega
     rw[adX]at dF;rw[dF]at ql;dsimp only at ql;refine ν @aP ?_;exact aA.mk t2 ⟨JN.trans bD,fM.ge bD⟩ (h1:=by rw[ql];rfl)
    have n7:((d:Int)+1)=((d+1:Nat):Int):=by omega
    have Qb:=ct jR X d iM;have hnn:=fun h=>Ea (k:=⟨q1,q2,q3,q4⟩) iM dF h
    have hia:=fun h=>ady (k:=⟨q1,q2,q3,q4⟩) iM dF h
    generalize X[d]=c at*;obtain⟨⟨p1,p2,p3,p4⟩,cat,cv,cs⟩:=c;simp only[fz,aq]at Qb;dsimp only at hnn hia;refine κ @aP ?_;refine κ @aP ?_;refine χ (τ ?_);refine ξ @aP @Qb ?_;refine VC.al ?_;rintro O6 ⟨fi,nI,mU⟩;have eU:=bD.N;have ahD:=fi.at (bD.at jo);cases he:oN ⟨p1,p2,p3,p4⟩ ⟨q1,q2,q3,q4⟩
    ·rw[he]at hnn;refine θ (aG @aP @nI @ahD ?_);refine VL.B3 aa (bb:=true) (b:=false) (by simp) (by simp[iB]) (.inr ⟨rfl,rfl⟩) (by rw[show Fm Tryz.prog (bY Tryz.prog) 9 40 (.agg [.str p1,.str p2,.str p3,.str p4]) (.agg [.str q1,.str q2,.str q3,.str q4])=some (oN ⟨p1,p2,p3,p4⟩ ⟨q1,q2,q3,q4⟩) by kernel_rfl,he]) (by kernel_rfl) rfl rfl rfl rfl ?_;refine ab @aP ?_;refine ο @aP @n7 ?_;exact az.N (d+1) ⟨iM,bD.trans fi,hnn rfl⟩
    ·have hid:=hia he;rw[hid]at ql;dsimp only at ql;refine θ (aG @aP @nI @ahD ?_);refine VL.B3 aa (bb:=false) (b:=true) (by simp) (by simp[iB]) (.inr ⟨rfl,rfl⟩) (by rw[show Fm Tryz.prog (bY Tryz.prog) 9 40 (.agg [.str p1,.str p2,.str p3,.str p4]) (.agg [.str q1,.str q2,.str q3,.str q4])=some (oN ⟨p1,p2,p3,p4⟩ ⟨q1,q2,q3,q4⟩) by kernel_rfl,he]) (by kernel_rfl) rfl rfl rfl rfl ?_;refine ab @aP ?_;have hPl:P.length<=j:=uZ;have hvP:dy (bY Tryz.prog) 29 (.sl P.length (P.map mi) t2)=some (.v (.int .i64 P.length)):=bR lN;have hgP:∀(m:Nat) (y:Int),P[m]?=some y->(P.map mi)[m]?=some (MV.v (.int .i64 y)):=fun m y h=>by rw[Qm,h];rfl
     have hPm:(P.map mi).length=P.length:=Ma _;have haP:=fun m (h:m<P.length)=>Y9 P (d:Int) h
     unfold ry at ql;refine κ @aP ?_;refine Θ [0,1,5,7,8,11,13,16,17,18,22,23,24] (fun _:Unit=>[.sl L.length (L.flatMap eB) tk,.sl X.length (X.flatMap fz) tx,.sl i G t1,.ptr O1.N 0,.sl P.length (P.map mi) t2,mi d,mb (P.contains (d:Int)),.sl X.length (X.flatMap fz) tx,mi X.length,mi i,.sl L.length (L.flatMap eB) tk,mi L.length,mi j]) (fun _ O'=>O'=O6) ?_ ?_
     ·refine ξ @aP @hvP ?_;refine τ ?_;refine Γ [13,52] [0,1,5,7,8,11,16,17,18,22,23,24,50,51] (fun m:Nat=>[mb ((P.take m).contains (d:Int)),mi m]) (fun m O'=>O'=O6/\m<=P.length) (fun m=>P.length - m) (0) ?_ ?_
      ·exact⟨rfl,Qn _⟩
      rintro m Ox ⟨eO,hm⟩;rw[eO];clear eO Ox
      by_cases BM:m<P.length;rotate_left
      ·obtain rfl:m=P.length:=by omega
       rw[adX];refine ν @aP ?_;exact aA.mk () rfl
      have Bx:((m:Int)+1)=((m+1:Nat):Int):=by omega
      have hgm:=hgP m P[m] (zP BM);have He:=haP m BM;generalize P[m]=y at*;refine κ @aP ?_;refine κ @aP ?_;refine χ (τ ?_);refine θ (aG @aP @hgm @hPm ?_);cases eS:(P.take m).contains (d:Int)
      ·rw[eS,anE]at He;cases Kj:y==(d:Int)
       ·rw[Kj]at He;refine ο @aP @Kj ?_;refine ο @aP @Bx ?_;exact az.N (m+1) ⟨rfl,BM⟩ (hl:=by rw[He];rfl)
       ·rw[Kj]at He;refine ο @aP @Kj ?_;refine ο @aP @Bx ?_;exact az.N (m+1) ⟨rfl,BM⟩ (hl:=by rw[He];rfl)
      ·rw[eS,Bool.true_or]at He;refine ν @aP ?_;refine ο @aP @Bx ?_;exact az.N (m+1) ⟨rfl,BM⟩ (hl:=by rw[He];rfl)
     rintro _ Ox eO;rw[eO];clear eO Ox
     have yC:=bD.trans fi;have oa:=fM.ge yC;cases DE:P.contains (d:Int)
     ·rw[DE,if_neg (by decide)]at ql;have ji:=aR (tk:=t2) (tk':=.full) (n:=P.length) (k:=1) (cs:=P.map mi) (ds:=[.v (.int .i64 d)]) lN T3 oa (by rw[Ma,ajs]) rfl rfl (by decide) (by decide) (by omega) (by simp only[maxLen];omega);refine ν @aP ?_;refine VL.app ji ?_;refine ab @aP ?_;exact aA.mk (.own O6.N 1) ⟨b_.en (JN.trans yC) oa (b_.after oa),App.after (JN.trans yC).N⟩ (h1:=by rw[ql,Zj,ajp];rfl)
     ·rw[DE,if_pos rfl]at ql;refine ν @aP ?_;exact aA.mk t2 ⟨JN.trans yC,oa⟩ (h1:=by rw[ql];rfl)
   rintro t O8 ⟨fV,CA⟩;refine ο @aP @cI ?_;exact az.N (j+1,t) ⟨aM,fV,CA⟩
  rintro t O8 fV;have ahE:=BG.trans fV;have cf:=cz.ge (aB.trans fV);have ji:=aR (tk:=t1) (tk':=.full) (n:=i) (k:=1) (cs:=G) (ds:=[.sl (po X L at' L.length).length ((po X L at' L.length).map mi) t]) AN lN cf (by rw[sf,ajs]) rfl rfl (by decide) (by decide) (by omega) (by simp only[maxLen];omega);refine ν @aP ?_;refine VL.app ji ?_;refine ab @aP ?_;refine ο @aP @ou ?_;exact az.N (i+1,(fun v=>if v=i then t else T v),.own O8.N 1) ⟨ei,b_.en ahE cf (b_.after cf),App.after ahE.N⟩ (hl:=by dsimp only;rw[gY];rfl)
 rintro⟨T,t⟩ O9 bj;refine ν @aP ?_;exact⟨⟨T,t,rfl⟩,bj⟩
def om (g:List (List Int)) (a b:Nat):Prop:=∃l,g[a]?=some l/\(b:Int)∈l
def Hf (g:List (List Int)):Prop:=∀l∈g,∀x∈l,0<=x/\x<(g.length:Int)
inductive jh (g:List (List Int)) (a:Nat):Nat->Prop
 | base:jh g a a
 | step {x y:Nat}:jh g a x->om g x y->jh g a y
theorem jh.trans {g:List (List Int)} {a b c:Nat} (h:jh g a b) (h2:jh g b c):jh g a c:=by
 induction h2 with
 | base=>exact h
 | step _ e ih=>exact .step ih e
theorem jh.closed {g:List (List Int)} {a b:Nat} {S:Nat->Prop} (h:jh g a b) (ha:S a) (hs:∀x y,S x->om g x y->S y):S b:=by
 induction h with
 | base=>exact ha
 | step _ e ih=>exact hs _ _ ih e
def lG (D:List Int) (x:Nat):Prop:=∃d,D[x]?=some d/\0<=d
theorem JO {D:List Int} {k:Nat} {v:Int} (hv:0<=v) {x:Nat} (h:lG D x):lG (D.set k v) x:=by
 obtain⟨d,h1,h2⟩:=h;by_cases e:k=x
 ·subst e;have hk:=(ahK.1 h1).1;exact⟨v,by rw[ajn hk],hv⟩
 ·exact⟨d,by rw[ajo e];exact h1,h2⟩
theorem JP {D:List Int} {k:Nat} {v:Int} (hv:0<=v) (hk:k<D.length):lG (D.set k v) k:=⟨v,by rw[ajn hk],hv⟩
theorem z7 {D:List Int} {k:Nat} {v:Int} {x:Nat} (h:lG (D.set k v) x) (hx:x≠k):lG D x:=by
 obtain⟨d,h1,h2⟩:=h;rw[ajo (Ne.symm hx)]at h1;exact⟨d,h1,h2⟩
def mj (D:List Int):Nat:=D.countP fun d=>decide (0<=d)
theorem Hg (D:List Int):mj D<=D.length:=List.countP_le_length
theorem xT:∀{D:List Int} {k:Nat} {v:Int},0<=v->(∃d,D[k]?=some d/\d<0)->mj (D.set k v)=mj D+1
 | [],k,v,_,⟨d,h,_⟩=>by simp at h
 | e::D,0,v,hv,⟨d,h,hd⟩=>by
   simp only[List.getElem?_cons_zero,Option.some.injEq]at h;subst h;simp only[mj,List.set_cons_zero,anh];rw[decide_eq_true hv,decide_eq_false (show ¬0<=e by omega)];simp
 | e::D,k+1,v,hv,⟨d,h,hd⟩=>by
   rw[List.getElem?_cons_succ]at h;have ih:=xT (D:=D) (k:=k) hv ⟨d,h,hd⟩;simp only[mj,List.set_cons_succ,anh]at ih ⊢;omega
structure tA (g:List (List Int)) (f:Nat) (D Q:List Int) (n:Nat) (j:Nat):Prop where
 len:D.length=g.length
 fr:lG D f
 sound:∀x,lG D x->jh g f x
 bound:∀(x:Nat) (d:Int),D[x]?=some d->d+1<=mj D
 low:∀(x:Nat) (d:Int),D[x]?=some d-> -1<=d
 q:∀x∈Q,∃k:Nat,x=k/\lG D k
 closed:∀x,lG D x->x=n\/(x:Int)∈Q\/∀y,om g x y->lG D y
 part:∀l,g[n]?=some l->∀y:Nat,(y:Int)∈l.take j->lG D y
theorem tA.init {g:List (List Int)} {f:Nat} (hf:f<g.length):tA g f ((List.replicate g.length (-1)).set f 0) [(f:Int)] g.length 0:=by
 have hl:((List.replicate g.length (-1:Int)).set f 0).length=g.length:=by simp
 have hm:∀x,lG ((List.replicate g.length (-1:Int)).set f 0) x->x=f:=fun x h=>by
  by_cases e:x=f
  ·exact e
  ·obtain⟨d,h1,h2⟩:=z7 h e;rw[am6]at h1;split at h1
   ·injection h1 with h1;omega
   ·cases h1
 have HO:lG ((List.replicate g.length (-1:Int)).set f 0) f:=JP (by omega) (by simpa using hf);refine⟨hl,HO,fun x h=>by rw[hm x h];exact .base,fun x d h=>?_,fun x d h=>?_,fun x h=>⟨f,by simpa using h,HO⟩,fun x h=>.inr (.inl (by rw[hm x h];simp)),fun l h=>by rw[ahL (Zk _)]at h;cases h⟩
 ·by_cases e:f=x
  ·subst e;rw[ajn (by simpa using hf)]at h;injection h with h;have:mj ((List.replicate g.length (-1:Int)).set f 0)=mj (List.replicate g.length (-1:Int))+1:=xT (by omega) ⟨-1,by rw[am6,if_pos hf],by omega⟩;omega
  ·rw[ajo e,am6]at h;split at h
   ·injection h with h;omega
   ·cases h
 ·by_cases e:f=x
  ·subst e;rw[ajn (by simpa using hf)]at h;injection h with h;omega
  ·rw[ajo e,am6]at h;split at h
   ·injection h with h;omega
   ·cases h
theorem tA.pop {g:List (List Int)} {f:Nat} {D Q:List Int} {n m:Nat} {j:Nat} (hn:g.length<=n) (h:tA g f D ((m:Int)::Q) n j):tA g f D Q m 0:=by
 refine⟨h.len,h.fr,h.sound,h.bound,h.low,fun x hx=>h.q x (agc _ hx),fun x hx=>?_,fun l _ y hy=>by simp at hy⟩;rcases h.closed x hx with rfl | h1 | h1
 ·obtain⟨d,h2,_⟩:=hx;have:=(ahK.1 h2).1;have:=h.len;omega
 ·rcases ajl.1 h1 with e | h1
  ·exact .inl (by omega)
  ·exact .inr (.inl h1)
 ·exact .inr (.inr h1)
theorem tA.skip {g:List (List Int)} {f:Nat} {D Q:List Int} {n j k:Nat} {l:List Int} (h:tA g f D Q n j) (hl:g[n]?=some l) (hk:l[j]?=some (k:Int)) (hm:lG D k):tA g f D Q n (j+1):=by
 refine⟨h.len,h.fr,h.sound,h.bound,h.low,h.q,h.closed,fun l' vv y hy=>?_⟩;rw[hl]at vv;injection vv with vv;subst vv;rw[am9,hk]at hy;rcases ahM.1 hy with hy | hy
 ·exact h.part l hl y hy
 ·have:(y:Int)=k:=by simpa using hy
  have:y=k:=by omega
  rw[this];exact hm
theorem tA.add {g:List (List Int)} {f:Nat} {D Q:List Int} {n j k:Nat} {l:List Int} {d e:Int} (h:tA g f D Q n j) (hl:g[n]?=some l) (hk:l[j]?=some (k:Int)) (hd:D[n]?=some d) (h0:0<=d) (he:D[k]?=some e) (hm:e<0):tA g f (D.set k (d+1)) (Q++[(k:Int)]) n (j+1):=by
 have fQ:=(ahK.1 he).1;have hn:mj (D.set k (d+1))=mj D+1:=xT (by omega) ⟨e,he,hm⟩;have hme:om g n k:=⟨l,hl,List.mem_of_getElem? hk⟩;have nG:∀x,lG D x->lG (D.set k (d+1)) x:=fun x hx=>JO (by omega) hx
 have hkm:lG (D.set k (d+1)) k:=JP (by omega) fQ;refine⟨by rw[List.length_set];exact h.len,nG _ h.fr,fun x hx=>?_,fun x c hc=>?_,fun x c hc=>?_,fun x hx=>?_,fun x hx=>?_,fun l' vv y hy=>?_⟩
 ·by_cases e:x=k
  ·subst e;exact .step (h.sound n ⟨d,hd,h0⟩) hme
  ·exact h.sound x (z7 hx e)
 ·by_cases e:k=x
  ·subst e;rw[ajn fQ]at hc;injection hc with hc;have:=h.bound n d hd;omega
  ·rw[ajo e]at hc;have:=h.bound x c hc;omega
 ·by_cases e:k=x
  ·subst e;rw[ajn fQ]at hc;injection hc with hc;omega
  ·rw[ajo e]at hc;exact h.low x c hc
 ·rcases ahM.1 hx with hx | hx
  ·obtain⟨i,h1,h2⟩:=h.q x hx;exact⟨i,h1,nG i h2⟩
  ·exact⟨k,by simpa using hx,hkm⟩
 ·by_cases e:x=k
  ·subst e;exact .inr (.inl (by simp))
  ·rcases h.closed x (z7 hx e)with h1 | h1 | h1
   ·exact .inl h1
   ·exact .inr (.inl (ana _ h1))
   ·exact .inr (.inr fun y hy=>nG y (h1 y hy))
 ·rw[hl]at vv;injection vv with vv;subst vv;rw[am9,hk]at hy;rcases ahM.1 hy with hy | hy
  ·exact nG y (h.part l hl y hy)
  ·have:(y:Int)=k:=by simpa using hy
   have:y=k:=by omega
   rw[this];exact hkm
theorem tA.fin {g:List (List Int)} {f:Nat} {D Q:List Int} {n:Nat} {l:List Int} (h:tA g f D Q n l.length) (hl:g[n]?=some l):tA g f D Q g.length 0:=by
 refine⟨h.len,h.fr,h.sound,h.bound,h.low,h.q,fun x hx=>?_,fun l hl=>by rw[ahL (Zk _)]at hl;cases hl⟩;rcases h.closed x hx with rfl | h1
 ·refine .inr (.inr fun y hy=>?_);obtain⟨l',h2,h3⟩:=hy;rw[hl]at h2;injection h2 with h2;subst h2;exact h.part l hl y (by rw[adX];exact h3)
 ·exact .inr h1
theorem tA.all {g:List (List Int)} {f:Nat} {D:List Int} {j:Nat} (h:tA g f D [] g.length j) (x:Nat):lG D x ↔ jh g f x:=by
 refine⟨h.sound x,fun hr=>hr.closed (S:=lG D) h.fr fun x y hx he=>?_⟩;rcases h.closed x hx with rfl | h1 | h1
 ·obtain⟨d,h2,_⟩:=hx;have:=(ahK.1 h2).1;have:=h.len;omega
 ·simp at h1
 ·exact h1 y he
theorem Za {g:List (List Int)} {a b:Nat} (hm:Hf g) (h:om g a b):a<g.length/\b<g.length:=by
 obtain⟨l,h1,h2⟩:=h;have:=hm l (List.mem_of_getElem? h1) b h2;exact⟨(ahK.1 h1).1,by omega⟩
theorem jh.MY {g t:List (List Int)} (ht:∀a b,om t a b ↔ om g b a) {a b:Nat} (h:jh g a b):jh t b a:=by
 induction h with
 | base=>exact .base
 | step _ e ih=>exact jh.trans (.step .base ((ht _ _).2 e)) ih
theorem JQ {g t:List (List Int)} (ht:∀a b,om t a b ↔ om g b a) (a b:Nat):jh g a b ↔ jh t b a:=⟨fun h=>h.MY ht,fun h=>h.MY fun a b=>(ht b a).symm⟩
set_option linter.defProp false in
def a_:=Vq aP T69
def di (g:List (List Int)) (T:Nat->Tok):List MV:=c5 g.length (fun u=>g.getD u []) T
theorem oP (g:List (List Int)) (T:Nat->Tok):(di g T).length=g.length:=fO _ _ _
theorem tB (g:List (List Int)) (T:Nat->Tok) {u:Nat} (h:u<g.length):(di g T)[u]?=some (.sl g[u].length (g[u].map mi) (T u)):=by
 unfold di;rw[ny _ _ h,adW,zP h];rfl
def Hh (m:Nat) (g:List (List Int)):Prop:=g.length<=1000/\∀l∈g,l.length<=m
def nA (g:List (List Int)):Bool:=g.all fun l=>l.all fun x=>decide (0<=x)&&decide (x<(g.length:Int))
theorem nB (g:List (List Int)):nA g=true ↔ Hf g:=by
 unfold nA Hf;simp only[List.all_eq_true,ano,decide_eq_true_eq]
theorem JR (n:Nat) (cs:List MV) (tk:Tok) (k:Int) (O:VH):VF Tryz.prog 46 [.sl n cs tk,mi k] O (aD fun m O'=>m=mb (decide (0<=k)&&decide (k<(n:Int)))/\O'=O):=by
 have hv:dy (bY Tryz.prog) 25 (.sl n cs tk)=some (.v (.int .i64 n)):=bR AN;rw[aq,bw];refine Δ 13 [.tmp 4] Tryz.func46 ?_;refine ab @a_ ?_;by_cases h0:0<=k
 ·have e1:decide (0<=k)=true:=decide_eq_true h0;have e2:decide (k>=0)=true:=e1;refine cR @a_ @hv @e1 @e2 ?_;trivial
 ·have e1:decide (0<=k)=false:=decide_eq_false h0;have e2:decide (k>=0)=false:=e1;refine cR @a_ @hv @e1 @e2 ?_;trivial
set_option maxHeartbeats 4000000 in
theorem Hi (g:List (List Int)) (T:Nat->Tok) (tk:Tok) (O:VH) (hs:Hh 1000000 g):VF Tryz.prog 29 [.sl g.length (di g T) tk] O (aD fun m O'=>m=mb (nA g)/\O'=O):=by
 have ib:dy (bY Tryz.prog) 25 (.sl g.length (di g T) tk)=some (.v (.int .i64 g.length)):=bR AN;have r4:=oP g T;have hga:=fun u h=>tB g T (u:=u) h
 have dF:=fun k=>JR g.length (di g T) tk k O
 generalize di g T=A at*;refine υ 25 [.tmp 2] Tryz.func29 ?_;refine κ @a_ ?_;refine Θ [] (fun _:Unit=>[]) (fun _ O'=>O'=O/\nA g=true) ?_ ?_
 ·refine ξ @a_ @ib ?_;refine τ ?_;refine Γ [9] [0,7,8] (fun i:Nat=>[mi i]) (fun i O'=>O'=O/\i<=g.length/\∀l∈g.take i,∀x∈l,0<=x/\x<(g.length:Int)) (fun i=>g.length - i) (0) ?_ ?_
  ·exact⟨rfl,Qn _,fun l h=>by simp at h⟩
  rintro i Ox ⟨eO,hi,dP⟩;rw[eO];clear eO Ox
  by_cases ei:i<g.length;rotate_left
  ·obtain rfl:i=g.length:=by omega
   rw[adX]at dP;refine ν @a_ ?_;exact aA.mk () ⟨rfl,(nB g).2 dP⟩
  have ou:((i:Int)+1)=((i+1:Nat):Int):=by omega
  have bG:=hga i ei;have dh:g.take (i+1)=g.take i++[g[i]]:=by rw[adZ ei]
  have Cw:=adY ei;have u9:=hs.2 _ Cw;have Tl:=hs.1;generalize g[i]=l at*;have EB:dy (bY Tryz.prog) 29 (.sl l.length (l.map mi) (T i))=some (.v (.int .i64 l.length)):=bR lN;have D_:(l.map mi).length=l.length:=Ma _;refine κ @a_ ?_;refine κ @a_ ?_;refine χ (τ ?_);refine θ (aG @a_ @bG @r4 ?_);refine VC.zw [0,7,8,9] (fun _:Unit=>[.sl g.length A tk,.sl g.length A tk,mi g.length,mi i]) (fun _ O'=>O'=O/\∀x∈l,0<=x/\x<(g.length:Int)) ?_ ?_
  ·have Qc:∀(j:Nat) (y:Int),l[j]?=some y->(l.map mi)[j]?=some (MV.v (.int .i64 y)):=fun j y h=>by rw[Qm,h];rfl
   generalize l.map mi=cs at*;refine ξ @a_ @EB ?_;refine τ ?_;refine Γ [15] [0,7,8,9,13,14] (fun j:Nat=>[mi j]) (fun j O'=>O'=O/\j<=l.length/\∀x∈l.take j,0<=x/\x<(g.length:Int)) (fun j=>l.length - j) (0) ?_ ?_
   ·exact⟨rfl,Qn _,fun x h=>by simp at h⟩
   rintro j Ox ⟨eO,hj,adz⟩;rw[eO];clear eO Ox
   by_cases aM:j<l.length;rotate_left
   ·obtain rfl:j=l.length:=by omega
    rw[adX]at adz;refine ν @a_ ?_;exact aA.mk () ⟨rfl,adz⟩
   have cI:((j:Int)+1)=((j+1:Nat):Int):=by omega
   have qW:=Qc j l[j] (zP aM);have Eb:l.take (j+1)=l.take j++[l[j]]:=by rw[adZ aM]
   have tH:=adY aM;have tQ:=dF l[j];generalize l[j]=x at*;rw[aq]at tQ;refine κ @a_ ?_;refine κ @a_ ?_;refine χ (τ ?_);refine θ (aG @a_ @qW @D_ ?_);refine κ @a_ ?_;refine ah.rt tQ ?_;rintro _ Ox ⟨rfl,eO⟩;rw[eO];clear eO Ox
   cases GA:decide (0<=x)&&decide (x<(g.length:Int))
   ·refine ab @a_ ?_;refine ν @a_ ?_
    have:nA g=false:=by
     rw[anm];intro h;have:=(nB g).1 h l Cw x tH;rw[decide_eq_true this.1,decide_eq_true this.2]at GA;cases GA
    rw[this]
   ·refine ab @a_ ?_;refine ν @a_ ?_;refine ο @a_ @cI ?_;refine az.N (j+1) ⟨rfl,aM,fun y hy=>?_⟩;rw[Eb,ahM]at hy;rcases hy with hy | hy
    ·exact adz y hy
    ·rw[ahJ.1 hy];simpa using GA
  rintro _ Ox ⟨eO,hl⟩;rw[eO];clear eO Ox
  refine ο @a_ @ou ?_;refine az.N (i+1) ⟨rfl,ei,fun y hy=>?_⟩;rw[dh,ahM]at hy;rcases hy with hy | hy
  ·exact dP y hy
  ·rw[ahJ.1 hy];exact hl
 rintro _ Ox ⟨eO,hm⟩;rw[eO];clear eO Ox
 rw[hm];refine ν @a_ ?_;trivial
structure CI (g:List (List Int)) (i j:Nat) (R:Nat->List Int):Prop where
 mem:∀u,u<g.length->∀x,x∈R u ↔ ∃a:Nat,x=a/\((a<i/\om g a u)\/(a=i/\∃l,g[i]?=some l/\(u:Int)∈l.take j))
 len:∀u,u<g.length->(R u).length<=i*1000+j
theorem CI.zero (g:List (List Int)):CI g 0 0 (fun _=>[]):=
 ⟨fun u _ x=>⟨(fun h=>by cases h),fun⟨a,_,h⟩=>by
  rcases h with⟨h,_⟩ | ⟨_,l,_,h⟩
  ·omega
  ·rw[anj]at h;cases h⟩,fun u _=>Qn _⟩
theorem CI.row {g:List (List Int)} {i:Nat} {R:Nat->List Int} {l:List Int} (h:CI g i l.length R) (hl:g[i]?=some l) (hle:l.length<=1000):CI g (i+1) 0 R:=by
 refine⟨fun u hu x=>(h.mem u hu x).trans ⟨?_,?_⟩,fun u hu=>by have:=h.len u hu;omega⟩
 ·rintro⟨a,e,⟨h1,h2⟩ | ⟨h1,l',h2,h3⟩⟩
  ·exact⟨a,e,.inl ⟨by omega,h2⟩⟩
  ·rw[hl]at h2;injection h2 with h2;subst h2;rw[adX]at h3;exact⟨a,e,.inl ⟨by omega,l,by rw[h1];exact hl,h3⟩⟩
 ·rintro⟨a,e,⟨h1,h2⟩ | ⟨h1,l',h2,h3⟩⟩
  ·by_cases e2:a=i
   ·obtain⟨l',h3,h4⟩:=h2;rw[e2,hl]at h3;injection h3 with h3;subst h3;exact⟨a,e,.inr ⟨e2,l,hl,by rw[adX];exact h4⟩⟩
   ·exact⟨a,e,.inl ⟨by omega,h2⟩⟩
  ·rw[anj]at h3;cases h3
theorem CI.step {g:List (List Int)} {i j u:Nat} {R R':Nat->List Int} {l:List Int} (h:CI g i j R) (hl:g[i]?=some l) (hj:l[j]?=some (u:Int)) (h1:R' u=R u++[(i:Int)]) (h2:∀v,v<g.length->v≠u->R' v=R v) (hu:u<g.length):CI g i (j+1) R':=by
 have dh:l.take (j+1)=l.take j++[(u:Int)]:=by rw[List.take_add_one,hj];rfl
 refine⟨fun v hv x=>?_,fun v hv=>?_⟩
 ·by_cases e:v=u
  ·subst e;rw[h1,ahM,h.mem v hv x];constructor
   ·rintro(⟨a,e1,h5 | ⟨h6,l',h7,h8⟩⟩ | h9)
    ·exact⟨a,e1,.inl h5⟩
    ·refine⟨a,e1,.inr ⟨h6,l,hl,?_⟩⟩;rw[hl]at h7;injection h7 with h7;subst h7
     rw[dh];exact ana _ h8
    ·exact⟨i,ahJ.1 h9,.inr ⟨rfl,l,hl,by rw[dh];simp⟩⟩
   ·rintro⟨a,e1,h5 | ⟨h6,l',h7,h8⟩⟩
    ·exact .inl ⟨a,e1,.inl h5⟩
    ·subst h6;exact .inr (by rw[e1];exact ane _)
  ·rw[h2 v hv e,h.mem v hv x];constructor
   ·rintro⟨a,e1,h5 | ⟨h6,l',h7,h8⟩⟩
    ·exact⟨a,e1,.inl h5⟩
    ·refine⟨a,e1,.inr ⟨h6,l,hl,?_⟩⟩;rw[hl]at h7;injection h7 with h7;subst h7
     rw[dh];exact ana _ h8
   ·rintro⟨a,e1,h5 | ⟨h6,l',h7,h8⟩⟩
    ·exact⟨a,e1,.inl h5⟩
    ·refine⟨a,e1,.inr ⟨h6,l,hl,?_⟩⟩;rw[hl]at h7;injection h7 with h7;subst h7
     rw[dh,ahM]at h8;rcases h8 with h8 | h8
     ·exact h8
     ·exfalso;have:=ahJ.1 h8;omega
 ·by_cases e:v=u
  ·subst e;rw[h1,Zj];have:=h.len v hv;simp;omega
  ·rw[h2 v hv e];have:=h.len v hv;omega
theorem Qd (n:Nat) (R:Nat->List Int) (T:Nat->Tok):c5 n R T=di ((List.range n).map R) T:=by
 unfold di;rw[Ma,anf];refine ir T fun u hu=>?_
 rw[adW,Qm,am5 hu];rfl
set_option maxHeartbeats 8000000 in
theorem Zb (g:List (List Int)) (T:Nat->Tok) (tk:Tok) (O:VH) (hs:Hh 1000 g):VF Tryz.prog 26 [.sl g.length (di g T) tk] O (aD fun m O'=>O.Ge O'/\((nA g=true/\∃t T' tk',m= .sl g.length (di t T') tk'/\t.length=g.length/\(∀a b,om t a b ↔ om g b a)/\Hh 1000000 t/\Hf t)\/(nA g=false/\m= .sl 0 [] .nil))):=by
 have hsb:Hh 1000000 g:=⟨hs.1,fun l hl=>anq (hs.2 l hl) (by decide)⟩;have Tl:=hs.1;have jQ:=fun O'=>JC (tab:=bY Tryz.prog) AN lN O' g.length (by omega) (by omega)
 have ib:dy (bY Tryz.prog) 25 (.sl g.length (di g T) tk)=some (.v (.int .i64 g.length)):=bR AN;have BN:=Hi g T tk O hsb;have r4:=oP g T;have hga:=fun u h=>tB g T (u:=u) h
 generalize di g T=A at*;refine υ 40 [.tmp 2] Tryz.func26 ?_;refine κ @a_ ?_;refine κ @a_ ?_;refine ah.rt BN ?_;rintro _ Ox ⟨rfl,eO⟩;rw[eO];clear eO Ox BN
 cases hm:nA g
 ·refine ab @a_ ?_;exact⟨VH.Ge.refl _,.inr (by simp)⟩
 have Cw:=(nB g).1 hm;refine ab @a_ ?_;refine θ (aG @a_ @ib @jQ ?_);refine VC.bx ?_;rintro O1 ⟨aI,cz,cW⟩;rw[<-Dv]at cz;refine Θ [3] (fun _:Unit=>[.bB O.N 0 g.length g.length]) (fun _ O'=>O.Ge O'/\O.N<O'.N/\∃R T',O'.hp O.N=some (.cells (c5 g.length R T'))/\CI g g.length 0 R) ?_ ?_
 ·refine ξ @a_ @ib ?_;refine τ ?_;refine Γ [16] [3,14,15] (fun i:Nat=>[mi i]) (fun i O'=>i<=g.length/\O.Ge O'/\O1.N<=O'.N/\∃R T',O'.hp O.N=some (.cells (c5 g.length R T'))/\ye g.length T' O1.N O'/\CI g i 0 R) (fun i=>g.length - i) (0) ?_ ?_
  ·exact⟨Qn _,aI,Zk _,_,_,cz,ye.zero _ _ _,CI.zero g⟩
  clear cz;rintro i O2 ⟨hi,aB,eZ,R,T2,fj,si,hR⟩;by_cases ei:i<g.length;rotate_left
  ·obtain rfl:i=g.length:=by omega
   refine ν @a_ ?_;exact aA.mk () ⟨aB,by omega,R,T2,fj,hR⟩
  have ou:((i:Int)+1)=((i+1:Nat):Int):=by omega
  have bG:=hga i ei;have pJ:g[i]?=some g[i]:=zP ei;have tH:=Cw g[i] (adY ei);have u9:=hs.2 g[i] (adY ei);generalize g[i]=l at*;have EB:dy (bY Tryz.prog) 29 (.sl l.length (l.map mi) (T i))=some (.v (.int .i64 l.length)):=bR lN;have D_:(l.map mi).length=l.length:=Ma _;have Qc:∀(j:Nat) (y:Int),l[j]?=some y->(l.map mi)[j]?=some (MV.v (.int .i64 y)):=fun j y h=>by rw[Qm,h];rfl
  generalize l.map mi=cs at*;refine κ @a_ ?_;refine κ @a_ ?_;refine χ (τ ?_);refine θ (aG @a_ @bG @r4 ?_);refine VC.zw [3,14,15,16] (fun _:Unit=>[.bB O.N 0 g.length g.length,.sl g.length A tk,mi g.length,mi i]) (fun _ O'=>O.Ge O'/\O1.N<=O'.N/\∃R T',O'.hp O.N=some (.cells (c5 g.length R T'))/\ye g.length T' O1.N O'/\CI g i l.length R) ?_ ?_
  ·refine ξ @a_ @EB ?_;refine τ ?_;refine Γ [23] [3,4,14,15,16,21,22] (fun j:Nat=>[mi j]) (fun j O'=>j<=l.length/\O.Ge O'/\O1.N<=O'.N/\∃R T',O'.hp O.N=some (.cells (c5 g.length R T'))/\ye g.length T' O1.N O'/\CI g i j R) (fun j=>l.length - j) (0) ?_ ?_
   ·exact⟨Qn _,aB,eZ,R,T2,fj,si,hR⟩
   clear fj si hR aB eZ R T2 O2;rintro j O2 ⟨hj,aB,eZ,R,T2,fj,si,hR⟩;by_cases aM:j<l.length;rotate_left
   ·obtain rfl:j=l.length:=by omega
    refine ν @a_ ?_;exact aA.mk () ⟨aB,eZ,R,T2,fj,si,hR⟩
   have cI:((j:Int)+1)=((j+1:Nat):Int):=by omega
   have hx:=tH l[j] (adY aM);have Ok:l[j]?=some l[j]:=zP aM;have qW:=Qc j l[j] Ok;generalize l[j]=x at*;obtain⟨u,rfl⟩:=am7 hx.1;have hu:u<g.length:=by omega
   have hru:=ny R T2 hu;have sf:=fO g.length R T2;have gL:=fun t=>G7 (R:=R) (R':=fun v=>if v=u then R u++[(i:Int)]else R v) (x:=(i:Int)) T2 t hu (if_pos rfl) (fun v _ hv=>if_neg hv)
   have cf:=si.1 u hu;have Yb:=hR.len u hu;have cX:=gL (.own O2.N 1);rw[aq]at cX;have ajd:=hR.step (R':=fun v=>if v=u then R u++[(i:Int)]else R v) pJ Ok (if_pos rfl) (fun v _ hv=>if_neg hv) hu;have hii:i*1000<=1000*1000:=Nat.mul_le_mul_right _ (by omega);have ji:=aR (tk:=T2 u) (tk':=.full) (n:=(R u).length) (k:=1) (cs:=(R u).map mi) (ds:=[.v (.int .i64 i)]) lN T3 cf (by rw[Ma,ajs]) rfl rfl (by decide) (by decide) (by omega) (by simp only[maxLen];omega);have haA:=VH.jF cf fj (by simp) (by omega);have GB:=VH.dZ O2 (T2 u);have il:=b_.after cf;have Hd:∀i,Tok.id (T2 u)=some i->O1.N<=i:=fun i e=>(cf.nD e).1
   generalize c5 g.length R T2=RR at*;refine κ @a_ ?_;refine κ @a_ ?_;refine χ (τ ?_);refine θ (aG @a_ @qW @D_ ?_);refine ι (cR @a_ @fj @sf @hru ?_);refine VL.app ji ?_;refine cR @a_ @haA @sf @cX ?_;refine ο @a_ @cI ?_;refine az.N (j+1) ⟨aM,⟨by show O.N<=(O2.after (T2 u)).N;have:=aB.N;omega,fun i h=>?_⟩,by show O1.N<=(O2.after (T2 u)).N;omega,_,_,ρ _ _ _,si.put hu (by omega) rfl fun i hi=>π _ _ (by omega),ajd⟩;rw[π _ _ (by omega),il.hp i (by have:=aB.N;omega) (fun e=>by have:=Hd i e;omega)];exact aB.hp i h
  clear fj si hR aB eZ R T2;rintro _ O3 ⟨aB,eZ,R,T2,fj,si,hR⟩;refine ο @a_ @ou ?_;exact az.N (i+1) ⟨ei,aB,eZ,R,T2,fj,si,hR.row pJ u9⟩
 rintro _ O9 ⟨bj,zM,R,T9,ha9,hR⟩;refine VC.freeze 3 (sz:=g.length) rfl ha9 (by rw[fO];omega) ?_
 have dh:((c5 g.length R T9).drop 0).take g.length=di ((List.range g.length).map R) T9:=by
  rw[al_,ahP (by rw[fO];exact Zk _),Qd]
 rw[dh,if_pos rfl];generalize hG:di ((List.range g.length).map R) T9=G at*;refine κ @a_ ?_;refine ν @a_ ?_;refine⟨bj.kill (Zk _),.inl ⟨(List.range g.length).map R,T9,.full,by rw[hG],by simp,fun a b=>?_,?_,?_⟩⟩
 ·constructor
  ·rintro⟨l,h1,h2⟩
   have ha:a<g.length:=by
    have:=(ahK.1 h1).1;simpa using this
   rw[Qm,am5 ha]at h1;injection h1 with h1;subst h1;obtain⟨c,e,h3 | ⟨_,l',h4,_⟩⟩:=(hR.mem a ha b).1 h2
   ·have:b=c:=by omega
    subst this;exact h3.2
   ·rw[ahL (Zk _)]at h4;cases h4
  ·intro h1;obtain⟨h2,h3⟩:=Za Cw h1;exact⟨R a,by rw[Qm,am5 h3];rfl,(hR.mem a h3 b).2 ⟨b,rfl,.inl ⟨h2,h1⟩⟩⟩
 ·refine⟨by simpa using Tl,fun l hl=>?_⟩;obtain⟨u,hu,rfl⟩:=ajr.1 hl;have:=hR.len u (ajm.1 hu);have:=Nat.mul_le_mul_right 1000 Tl;omega
 ·intro l hl x hx;obtain⟨u,hu,rfl⟩:=ajr.1 hl;obtain⟨c,e,h3 | ⟨_,l',h4,_⟩⟩:=(hR.mem u (ajm.1 hu) x).1 hx
  ·have:=h3.1;rw[Ma,anf];omega
  ·rw[ahL (Zk _)]at h4;cases h4
theorem aje {n:Nat} {x:MV} {cs:List MV} {tk:Tok} (hc:cs.length=n):oZ (bY Tryz.prog) 29 (.sl (n+1) (x::cs) tk) (some (.v (.int .i64 1))) (.v (.int .i64 ((n+1:Nat):Int))) (.v (.int .i64 ((n+1:Nat):Int)))=some (.sl n cs .full):=by
 simp only[oZ,lN,T3,am8,dq];rw[if_pos (by decide:(0:Int)<=1)];dsimp only;rw[if_pos ⟨by omega,by omega,by omega,Zk _⟩,ang,if_pos ⟨Zk _,by rw[ahO,hc];omega⟩,if_neg (by omega)];by_cases h:n+1=(1:Int).toNat
 ·have:n=0:=by simpa using h
  subst this;rw[if_pos h,List.length_eq_zero_iff.1 hc]
 ·rw[if_neg h,if_pos trivial];have e1:n+1 - (1:Int).toNat=n:=by simp
  have e2:(1:Int).toNat*1=1:=rfl;rw[e1,e2,List.drop_one,List.tail_cons,ajs,ahP (by omega)]
set_option maxHeartbeats 8000000 in
theorem adA (g:List (List Int)) (T:Nat->Tok) (tk:Tok) (f:Int) (O:VH) (hs:Hh 1000000 g):VF Tryz.prog 45 [.sl g.length (di g T) tk,mi f] O (aD fun m O'=>O.Ge O'/\((nA g=true/\0<=f/\f<(g.length:Int)/\∃D t,m= .sl g.length (D.map mi) t/\D.length=g.length/\∀x,lG D x ↔ jh g f.toNat x)\/((nA g=false\/f<0\/(g.length:Int)<=f)/\m= .sl 0 [] .nil))):=by
 have Tl:=hs.1;have jQ:=fun O'=>JC (tab:=bY Tryz.prog) lN T3 O' g.length (by omega) (by omega)
 have ib:dy (bY Tryz.prog) 25 (.sl g.length (di g T) tk)=some (.v (.int .i64 g.length)):=bR AN;have BN:=Hi g T tk O hs;have dF:=JR g.length (di g T) tk f O;have r4:=oP g T;have hga:=fun u h=>tB g T (u:=u) h
 generalize di g T=A at*;rw[aq]at dF ⊢;refine υ 77 [.tmp 4] Tryz.func45 ?_;refine κ @a_ ?_;refine κ @a_ ?_;refine ah.rt BN ?_;rintro _ Ox ⟨rfl,eO⟩;rw[eO];clear eO Ox BN
 cases hm:nA g
 ·refine ab @a_ ?_;exact⟨VH.Ge.refl _,by simp⟩
 have Cw:=(nB g).1 hm;refine ab @a_ ?_;refine ah.rt dF ?_;rintro _ Ox ⟨rfl,eO⟩;rw[eO];clear eO Ox dF
 by_cases hf:0<=f/\f<(g.length:Int);rotate_left
 ·have e:(decide (0<=f)&&decide (f<(g.length:Int)))=false:=by
   rw[anm];intro h;rw[ano,decide_eq_true_eq,decide_eq_true_eq]at h;exact hf h
  rw[e];refine ab @a_ ?_;exact⟨VH.Ge.refl _,.inr (by first | exact⟨by omega,rfl⟩ | (simp;omega))⟩
 rw[decide_eq_true hf.1,decide_eq_true hf.2];obtain⟨f,rfl⟩:=am7 hf.1;have kY:f<g.length:=by omega
 refine aG @a_ @ib @jQ ?_;refine θ (aG @a_ @ib @jQ ?_);refine VC.bx ?_;rintro O1 ⟨aI,cz,cW⟩;have hva:dy (bY Tryz.prog) 29 (.bB O.N 0 g.length g.length)=some (.v (.int .i64 g.length)):=rfl;refine Θ [0,1,5] (fun _:Unit=>[.sl g.length A tk,mi f,.bB O.N 0 g.length g.length]) (fun _ O'=>O.Ge O'/\O.N<O'.N/\O'.hp O.N=some (.cells ((List.replicate g.length (-1)).map mi))) ?_ ?_
 ·refine ξ @a_ @hva ?_;refine τ ?_;refine Γ [25] [0,1,5,24] (fun i:Nat=>[mi i]) (fun i O'=>i<=g.length/\O.Ge O'/\O.N<O'.N/\O'.hp O.N=some (.cells (List.replicate i (mi (-1))++List.replicate (g.length - i) (mi 0)))) (fun i=>g.length - i) (0) ?_ ?_
  ·exact⟨Qn _,aI,by omega,by rw[cz];rfl⟩
  clear cz;rintro i O2 ⟨hi,aB,eZ,fj⟩;by_cases ei:i<g.length;rotate_left
  ·obtain rfl:i=g.length:=by omega
   rw[anr,List.replicate_zero,aju]at fj;refine ν @a_ ?_;exact aA.mk () ⟨aB,eZ,by rw[fj,List.map_replicate]⟩
  have ou:((i:Int)+1)=((i+1:Nat):Int):=by omega
  have cX:(List.replicate i (mi (-1))++List.replicate (g.length - i) (mi 0)).set i (.v (.int .i64 (-1)))=List.replicate (i+1) (mi (-1))++List.replicate (g.length - (i+1)) (mi 0):=by
   rw[List.set_append_right _ _ (by simp),List.length_replicate,anr,show g.length - i=(g.length - (i+1))+1 by omega,List.replicate_succ,List.set_cons_zero,List.replicate_succ' (n:=i),List.append_assoc];rfl
  have ia:(List.replicate i (mi (-1))++List.replicate (g.length - i) (mi 0)).length=g.length:=by simp;omega
  generalize List.replicate i (mi (-1))++List.replicate (g.length - i) (mi 0)=C at*;refine κ @a_ ?_;refine κ @a_ ?_;refine χ (τ ?_);refine κ @a_ ?_;refine ι (cR @a_ @fj @ia @cX ?_);refine ο @a_ @ou ?_;exact az.N (i+1) ⟨ei,aB.set (Zk _) _,eZ,ρ _ _ _⟩
 clear aI cz cW O1;rintro _ O2 ⟨aB,eZ,fj⟩;have ia:((List.replicate g.length (-1:Int)).map mi).length=g.length:=by simp
 have cX:((List.replicate g.length (-1:Int)).map mi).set f (.v (.int .i64 0))=((List.replicate g.length (-1:Int)).set f 0).map mi:=by rw[List.map_set];rfl
 have hB0:=tA.init kY;generalize (List.replicate g.length (-1:Int)).set f 0=D0 at*;generalize (List.replicate g.length (-1:Int)).map mi=C at*;refine θ (cR @a_ @fj @ia @cX ?_);refine VC.gen ?_;intro O3 e3;have aH:O.Ge O3:=by rw[e3];exact aB.set (Zk _) _
 have jv:O3.hp O.N=some (.cells (D0.map mi)):=by rw[e3];exact ρ _ _ _
 have gy:O.N<O3.N:=by rw[e3];exact eZ
 clear e3 cX ia fj aB eZ O2;refine κ @a_ ?_;refine Θ [5] (fun _:Unit=>[.bB O.N 0 g.length g.length]) (fun _ O'=>O.Ge O'/\∃D,O'.hp O.N=some (.cells (D.map mi))/\D.length=g.length/\∀x,lG D x ↔ jh g f x) ?_ ?_
 ·refine τ ?_;refine Γ [7] [0,5] (fun s:List Int×List Int×Tok=>[.sl s.2.1.length (s.2.1.map mi) s.2.2]) (fun s O'=>O.Ge O'/\O3.N<=O'.N/\O'.hp O.N=some (.cells (s.1.map mi))/\tA g f s.1 s.2.1 g.length 0/\App O' O3.N 1 s.2.2/\s.2.1.length<=mj s.1) (fun s=>2*(g.length - mj s.1)+s.2.1.length) ((D0,[(f:Int)],.full)) ?_ ?_
  ·refine⟨aH,Zk _,jv,hB0,trivial,?_⟩;obtain⟨d,h1,h2⟩:=hB0.fr;have:=hB0.bound f d h1;show 1<=mj D0;omega
  clear hB0 jv aH;rintro⟨D,Q,tq⟩ O4 ⟨aY,gO,fM,hB,cf,hQ4⟩;dsimp only at fM hB cf hQ4 ⊢;have Zc:dy (bY Tryz.prog) 29 (.sl Q.length (Q.map mi) tq)=some (.v (.int .i64 Q.length)):=bR lN;cases Q with
  | nil=>
    refine ξ @a_ @Zc ?_;exact aA.mk () ⟨aY,D,fM,hB.len,hB.all⟩
  | cons m Q=>
  obtain⟨n,rfl,hmn⟩:=hB.q m ajk
  have uZ:n<g.length:=by
   obtain⟨d,h1,_⟩:=hmn;have:=(ahK.1 h1).1;have:=hB.len;omega
  have Jj:=hB.pop (Nat.le_refl _);have D3:(((n:Int)::Q).map mi)[0]?=some (MV.v (.int .i64 n)):=rfl;have oG:(((n:Int)::Q).map mi).length=Q.length+1:=by simp
  have Sj:=aje (n:=Q.length) (x:=mi n) (cs:=Q.map mi) (tk:=tq) (Ma _);have hgt:decide ((((n:Int)::Q).length:Int)>0)=true:=decide_eq_true (by rw[ahO];omega);have ahF:decide ((0:Int)<(((n:Int)::Q).length:Int))=true:=hgt;rw[ahO]at hQ4;have hmD:=Hg D;rw[hB.len]at hmD;have qC:g[n]?=some g[n]:=zP uZ;have bG:=hga n uZ;have tH:=Cw g[n] (adY uZ);have u9:=hs.2 g[n] (adY uZ);generalize g[n]=l at*;have EB:dy (bY Tryz.prog) 29 (.sl l.length (l.map mi) (T n))=some (.v (.int .i64 l.length)):=bR lN;have D_:(l.map mi).length=l.length:=Ma _;have Qc:∀(j:Nat) (y:Int),l[j]?=some y->(l.map mi)[j]?=some (MV.v (.int .i64 y)):=fun j y h=>by rw[Qm,h];rfl
  generalize l.map mi=cs at*;rw[anl]at Zc D3 oG;rw[ahO]at Zc hgt ahF;simp only[ahO,anl];generalize hmq:Q.map mi=mq at*;simp only[aq]at Zc D3 oG Sj ⊢;refine θ (cR @a_ @Zc @hgt @ahF ?_);refine τ ?_;refine θ (aG @a_ @D3 @oG ?_);refine θ (aG @a_ @Zc @Sj ?_);subst hmq;refine VC.zw [0,5,7] (fun x:List Int×List Int×Tok=>[.sl g.length A tk,.bB O.N 0 g.length g.length,.sl x.2.1.length (x.2.1.map mi) x.2.2]) (fun x O'=>O.Ge O'/\O3.N<=O'.N/\O'.hp O.N=some (.cells (x.1.map mi))/\tA g f x.1 x.2.1 n l.length/\App O' O3.N 1 x.2.2/\x.2.1.length<=mj x.1/\2*(g.length - mj x.1)+x.2.1.length<=2*(g.length - mj D)+Q.length) ?_ ?_
  ·refine θ (cR @a_ @bG @r4 @EB ?_);refine τ ?_;refine Γ [7,54] [0,5,8,52,53] (fun s:List Int×List Int×Tok×Nat=>[.sl s.2.1.length (s.2.1.map mi) s.2.2.1,mi s.2.2.2]) (fun s O'=>s.2.2.2<=l.length/\O.Ge O'/\O3.N<=O'.N/\O'.hp O.N=some (.cells (s.1.map mi))/\tA g f s.1 s.2.1 n s.2.2.2/\lG s.1 n/\App O' O3.N 1 s.2.2.1/\s.2.1.length<=mj s.1/\2*(g.length - mj s.1)+s.2.1.length<=2*(g.length - mj D)+Q.length) (fun s=>l.length - s.2.2.2) ((D,Q,.full,0)) ?_ ?_
   ·exact⟨Qn _,aY,gO,fM,Jj,hmn,trivial,by show Q.length<=mj D;omega,Zk _⟩
   clear fM aY gO cf hB Jj hmn;rintro⟨D1,Q1,t1,j⟩ O5 ⟨hj,bD,eU,dS,rq,zO,gJ,Zd,hM5⟩;dsimp only at hj dS rq zO gJ Zd hM5 ⊢;by_cases aM:j<l.length;rotate_left
   ·obtain rfl:j=l.length:=by omega
    refine ν @a_ ?_;exact aA.mk (D1,Q1,t1) ⟨bD,eU,dS,rq,gJ,Zd,hM5⟩
   have cI:((j:Int)+1)=((j+1:Nat):Int):=by omega
   have hx:=tH l[j] (adY aM);have Ok:l[j]?=some l[j]:=zP aM;have qW:=Qc j l[j] Ok;generalize l[j]=x at*;obtain⟨k,rfl⟩:=am7 hx.1;have fQ:k<D1.length:=by rw[rq.len];omega
   have hDk:D1[k]?=some D1[k]:=zP fQ;have il:(D1.map mi)[k]?=some (MV.v (.int .i64 D1[k])):=by rw[Qm,hDk];rfl
   have am1:=rq.low k _ hDk;obtain⟨d,xV,Ze⟩:=zO;have alZ:(D1.map mi)[n]?=some (MV.v (.int .i64 d)):=by rw[Qm,xV];rfl
   have hdb:=rq.bound n d xV;have al0:=Hg D1;rw[rq.len]at al0;have Zf:(D1.map mi).length=g.length:=by rw[Ma,rq.len]
   have cX:(D1.map mi).set k (.v (.int .i64 (d+1)))=(D1.set k (d+1)).map mi:=by rw[List.map_set];rfl
   have U_:=fun h=>rq.add qC Ok xV Ze hDk h
   have LQ:=fun h=>rq.skip qC Ok h
   have hms:=fun(h:D1[k]<0)=>xT (D:=D1) (k:=k) (v:=d+1) (by omega) ⟨D1[k],hDk,h⟩
   generalize D1[k]=e at*;generalize hDm:D1.map mi=DM at*;refine κ @a_ ?_;refine κ @a_ ?_;refine χ (τ ?_);refine θ (aG @a_ @qW @D_ ?_);by_cases he:e<0;rotate_left
   ·have e1:decide (e<0)=false:=decide_eq_false he;refine ι (iN @a_ @dS @il @Zf @e1 ?_);refine ο @a_ @cI ?_;exact az.N (D1,Q1,t1,j+1) ⟨aM,bD,eU,by rw[hDm];exact dS,LQ ⟨e,hDk,by omega⟩,⟨d,xV,Ze⟩,gJ,Zd,hM5⟩
   have e1:decide (e<0)=true:=decide_eq_true he;have am2:=hms he;have ajf:=U_ he;have al1:=Hg (D1.set k (d+1));rw[List.length_set,rq.len]at al1;have fi:O.Ge (O5.set O.N (.cells ((D1.set k (d+1)).map mi))):=bD.set (Nat.le_refl _) _;have mH:App (O5.set O.N (.cells ((D1.set k (d+1)).map mi))) O3.N 1 t1:=rZ gJ (fun i hi=>π _ _ (by omega)) (Nat.le_refl _);have oa:(O5.set O.N (.cells ((D1.set k (d+1)).map mi))).hp O.N=some (.cells ((D1.set k (d+1)).map mi)):=ρ _ _ _;have mU:O3.N<=(O5.set O.N (.cells ((D1.set k (d+1)).map mi))).N:=eU;have ji:=aR (tk:=t1) (tk':=.full) (n:=Q1.length) (k:=1) (cs:=Q1.map mi) (ds:=[.v (.int .i64 k)]) lN T3 mH (by rw[List.length_map,Nat.mul_one]) rfl rfl (by decide) (by decide) (by omega) (by simp only[maxLen];omega);refine ι (HJ @a_ @dS (And.intro il alZ) @Zf @e1 @cX ?_);generalize O5.set O.N (.cells ((D1.set k (d+1)).map mi))=O6 at*;refine VL.app ji ?_;refine ab @a_ ?_;refine ο @a_ @cI ?_;refine az.N (D1.set k (d+1),Q1++[(k:Int)],.own O6.N 1,j+1) ⟨aM,fi.after mH (by omega),by rw[VH.dZ];omega,VH.jF mH oa (by simp) (by omega),ajf,JO (by omega) ⟨d,xV,Ze⟩,App.after (by omega),?_,?_⟩ (hl:=by dsimp only;rw[List.length_append,List.map_append];rfl)
   ·show(Q1++[(k:Int)]).length<=mj (D1.set k (d+1));rw[Zj,ajt];omega
   ·show 2*(g.length - mj (D1.set k (d+1)))+(Q1++[(k:Int)]).length<=_;rw[Zj,ajt];omega
  clear fM cf hB Jj;rintro⟨D1,Q1,t1⟩ O5 ⟨bD,eU,dS,rq,gJ,Zd,hM5⟩;dsimp only at dS rq gJ Zd hM5;exact⟨rfl,(D1,Q1,t1),rfl,⟨bD,eU,dS,rq.fin qC,gJ,Zd⟩,by dsimp only;rw[ahO];omega⟩
 rintro _ O9 ⟨bj,D,ha9,Zf,hD⟩;refine VC.freeze 5 (sz:=g.length) rfl ha9 (by rw[Ma];omega) ?_
 have dh:((D.map mi).drop 0).take g.length=D.map mi:=by
  rw[al_,ahP (by rw[Ma];omega)]
 rw[dh,if_pos rfl];generalize hG:D.map mi=G at*;refine κ @a_ ?_;refine ν @a_ ?_;refine⟨bj.kill (Zk _),.inl ⟨hf.1,hf.2,D,.full,by rw[hG],Zf,hD⟩⟩
def dm (p:Nat->Bool) (n:Nat):List Int:=((List.range n).filter p).map fun i:Nat=>(i:Int)
theorem z8 (p:Nat->Bool) (n:Nat):dm p (n+1)=dm p n++if p n then[(n:Int)]else[]:=by
 unfold dm;rw[anu,List.filter_append,ajp]
 congr 1
 cases h:p n<;>simp[h]
theorem oQ (p:Nat->Bool) (n:Nat):(dm p n).length<=n:=by
 unfold dm;rw[Ma];have:=List.length_filter_le p (List.range n)
 rwa [anf]at this
theorem Qe {p q:Nat->Bool} {n:Nat} (h:∀x,x<n->p x=q x):dm p n=dm q n:=by
 unfold dm;rw[List.filter_congr fun x hx=>h x (ajm.1 hx)]
theorem tC {p:Nat->Bool} {n:Nat} {x:Int}:x∈dm p n ↔ ∃i:Nat,x=i/\i<n/\p i=true:=by
 unfold dm;rw[ajr];constructor
 ·rintro⟨i,h,rfl⟩;obtain⟨h1,h2⟩:=List.mem_filter.1 h;exact⟨i,rfl,ajm.1 h1,h2⟩
 ·rintro⟨i,rfl,h1,h2⟩;exact⟨i,List.mem_filter.2 ⟨ajm.2 h1,h2⟩,rfl⟩
theorem adB (g:List (List Int)) (T:Nat->Tok) (tk:Tok) (f:Int) (O:VH) (hs:Hh 1000000 g):VF Tryz.prog 27 [.sl g.length (di g T) tk,mi f] O (aD fun m O'=>O.Ge O'/\∃p t,m= .sl (dm p g.length).length ((dm p g.length).map mi) t/\∀x,x<g.length->(p x=true ↔ nA g=true/\0<=f/\f<(g.length:Int)/\jh g f.toNat x)):=by
 have Tl:=hs.1;have hd:=adA g T tk f O hs;generalize di g T=A at*;rw[aq]at hd ⊢;refine υ 24 [.tmp 4] Tryz.func27 ?_;refine κ @a_ ?_;refine Θ [4] (fun x:(Nat->Bool)×Tok=>[.sl (dm x.1 g.length).length ((dm x.1 g.length).map mi) x.2]) (fun x O'=>O.Ge O'/\∀y,y<g.length->(x.1 y=true ↔ nA g=true/\0<=f/\f<(g.length:Int)/\jh g f.toNat y)) ?_ ?_
 ·refine κ @a_ ?_;refine ah.rt hd ?_;rintro m O1 ⟨aI,⟨hm,hf1,kY,D,t,rfl,Zf,hD⟩ | ⟨dF,rfl⟩⟩;rotate_left
  ·refine ab @a_ ?_;refine τ ?_;have HI:dy (bY Tryz.prog) 29 (.sl 0 [] .nil)=some (.v (.int .i64 0)):=bR lN;refine Γ [4,11] [9,10] (fun _:Unit=>[.sl 0 [] .nil,mi 0]) (fun _ O'=>O'=O1) (fun _=>0) (()) ?_ ?_
   ·rfl
   rintro _ Ox eO;rw[eO];clear eO Ox
   refine ν @a_ ?_;have e0:dm (fun _:Nat=>false) g.length=[]:=by unfold dm;simp
   refine aA.mk (fun _=>false,.nil) ⟨aI,fun y _=>⟨(fun h=>by cases h),fun h=>?_⟩⟩ (h1:=by dsimp only;rw[e0];rfl);rcases dF with dF | dF | dF
   ·rw[dF]at h;cases h.1
   ·omega
   ·omega
  have hvD:dy (bY Tryz.prog) 29 (.sl g.length (D.map mi) t)=some (.v (.int .i64 g.length)):=bR lN;have hDm:(D.map mi).length=g.length:=by rw[Ma,Zf]
  have hgD:∀(j:Nat) (y:Int),D[j]?=some y->(D.map mi)[j]?=some (MV.v (.int .i64 y)):=fun j y h=>by rw[Qm,h];rfl
  obtain⟨p,hp⟩:∃p:Nat->Bool,p=fun x=>decide (0<=D.getD x (-1)):=⟨_,rfl⟩
  have hpm:∀x,p x=true ↔ lG D x:=fun x=>by
   rw[hp];dsimp only;rw[decide_eq_true_eq,adW];constructor
   ·intro h;cases hx:D[x]? with
    | none=>rw[hx]at h;simp at h
    | some d=>rw[hx]at h;exact⟨d,hx,h⟩
   ·rintro⟨d,h1,h2⟩;rw[h1];exact h2
  generalize D.map mi=cs at*;refine ao @a_ @hvD ?_;refine τ ?_;refine Γ [4,11] [9,10] (fun s:Nat×Tok=>[.sl (dm p s.1).length ((dm p s.1).map mi) s.2,mi s.1]) (fun s O'=>s.1<=g.length/\O.Ge O'/\App O' O.N 1 s.2) (fun s=>g.length - s.1) ((0,.nil)) ?_ ?_
  ·exact⟨Qn _,aI,trivial⟩
  rintro⟨j,t1⟩ O3 ⟨hj,aH,jv⟩;dsimp only at hj jv ⊢;by_cases aM:j<g.length;rotate_left
  ·obtain rfl:j=g.length:=by omega
   refine ν @a_ ?_;refine aA.mk (p,t1) ⟨aH,fun y _=>?_⟩;dsimp only;rw[hpm,hD];exact⟨fun h=>⟨hm,hf1,kY,h⟩,fun h=>h.2.2.2⟩
  have cI:((j:Int)+1)=((j+1:Nat):Int):=by omega
  have hDj:D[j]?=some D[j]:=zP (by omega);have bG:=hgD j _ hDj;have BO:=z8 p j;have Sv:=oQ p j;have hpj:p j=decide (0<=D[j]):=by rw[hp];dsimp only;rw[adW,hDj];rfl
  generalize D[j]=d at*;generalize dm p j=P at*;refine κ @a_ ?_;refine κ @a_ ?_;refine χ (τ ?_);refine θ (aG @a_ @bG @hDm ?_);by_cases Ze:0<=d
  ·have e1:decide (0<=d)=true:=decide_eq_true Ze;have e2:decide (d>=0)=true:=e1;rw[hpj,e1,if_pos rfl]at BO;have ji:=aR (tk:=t1) (tk':=.full) (n:=P.length) (k:=1) (cs:=P.map mi) (ds:=[.v (.int .i64 j)]) lN T3 jv (by rw[Ma,ajs]) rfl rfl (by decide) (by decide) (by omega) (by simp only[maxLen];omega);refine ι (aG @a_ @e1 @e2 ?_);refine VL.app ji ?_;refine ab @a_ ?_;refine ο @a_ @cI ?_;exact az.N (j+1,.own O3.N 1) ⟨aM,b_.en aH jv (b_.after jv),App.after aH.N⟩ (hl:=by dsimp only;rw[BO,Zj,ajp];rfl)
  ·have e1:decide (0<=d)=false:=decide_eq_false Ze;have e2:decide (d>=0)=false:=e1;rw[hpj,e1,if_neg (by decide),aju]at BO;refine ι (aG @a_ @e1 @e2 ?_);refine ο @a_ @cI ?_;exact az.N (j+1,t1) ⟨aM,aH,jv⟩ (hl:=by dsimp only;rw[BO];rfl)
 rintro⟨p,t⟩ O9 ⟨bj,hp⟩;refine κ @a_ ?_;refine ν @a_ ?_;exact⟨bj,p,t,rfl,hp⟩
def fY (n:Nat) (q:Nat->Bool):List MV:=(List.range n).map fun x=>mb (q x)
theorem lH (n:Nat) (q:Nat->Bool):(fY n q).length=n:=by simp[fY]
theorem oR {n:Nat} (q:Nat->Bool) {x:Nat} (h:x<n):(fY n q)[x]?=some (.v (.bool (q x))):=by
 unfold fY;rw[Qm,am5 h];rfl
theorem BQ (n:Nat):List.replicate n (MV.v (.bool false))=fY n fun _=>false:=by
 unfold fY
 exact(List.eq_replicate_iff.2 ⟨by simp,fun b hb=>by
  obtain⟨u,_,rfl⟩:=ajr.1 hb;rfl⟩).symm
def JS (q:Nat->Bool) (k:Nat) (b:Bool):Nat->Bool:=fun v=>if v=k then b else q v
theorem Dx {n:Nat} (q:Nat->Bool) {k:Nat} (b:Bool) (hk:k<n):(fY n q).set k (.v (.bool b))=fY n (JS q k b):=by
 refine List.ext_getElem? fun i=>?_
 rw[List.getElem?_set,lH];by_cases e:k=i
 ·subst e;rw[if_pos rfl,if_pos hk,oR _ hk];unfold JS;rw[if_pos rfl]
 ·rw[if_neg e];by_cases hi:i<n
  ·rw[oR _ hi,oR _ hi];unfold JS;rw[if_neg (Ne.symm e)]
  ·rw[ahL (by rw[lH];omega),ahL (by rw[lH];omega)]
set_option maxHeartbeats 8000000 in
theorem Tm (g:List (List Int)) (T:Nat->Tok) (tk:Tok) (C:List Int) (tc:Tok) (O:VH) (hs:Hh 1000 g) (hC:C.length<=100000):VF Tryz.prog 11 [.sl g.length (di g T) tk,.sl C.length (C.map mi) tc] O (aD fun m O'=>O.Ge O'/\((nA g=true/\∃q t,m= .sl (dm q g.length).length ((dm q g.length).map mi) t/\∀x,x<g.length->(q x=true ↔ ∃c∈C,0<=c/\c<(g.length:Int)/\jh g x c.toNat))\/(nA g=false/\∃t,m= .sl 0 [] t))):=by
 have htu:=Zb g T tk O hs;have hvC:dy (bY Tryz.prog) 29 (.sl C.length (C.map mi) tc)=some (.v (.int .i64 C.length)):=bR lN;have hCm:(C.map mi).length=C.length:=Ma _;have R4:∀(j:Nat) (y:Int),C[j]?=some y->(C.map mi)[j]?=some (MV.v (.int .i64 y)):=fun j y h=>by rw[Qm,h];rfl
 generalize C.map mi=CM at*;refine υ 51 [.tmp 4] Tryz.func11 ?_;refine κ @a_ ?_;refine κ @a_ ?_;refine ah.rt htu ?_;rintro m O1 ⟨aI,hm⟩
 obtain⟨t,T1,Tn,rfl,cX,ZA,ajg⟩:∃t T1 Tn,m= .sl t.length (di t T1) Tn/\Hh 1000000 t/\Hf t/\((nA g=true/\t.length=g.length/\∀a b,om t a b ↔ om g b a)\/(nA g=false/\t=[])):=by
  rcases hm with⟨h1,t,T1,Tn,h2,h3,h4,h5,h6⟩ | ⟨h1,h2⟩
  ·exact⟨t,T1,Tn,by rw[h2,h3],h5,h6,.inl ⟨h1,h3,h4⟩⟩
  ·exact⟨[],fun _=>.nil,.nil,h2,⟨Qn _,by simp⟩,(by intro l hl;cases hl),.inr ⟨h1,rfl⟩⟩
 clear hm htu;have hmb:=(nB t).2 ZA;have Tl:=cX.1;have Tj:=fun f O'=>adB t T1 Tn f O' cX
 have hvt:dy (bY Tryz.prog) 25 (.sl t.length (di t T1) Tn)=some (.v (.int .i64 t.length)):=bR AN;have jQ:=fun O'=>JC (tab:=bY Tryz.prog) T69 T4 O' t.length (by omega) (by omega)
 generalize di t T1=A at*;refine ab @a_ ?_;refine θ (aG @a_ @hvt @jQ ?_);refine VC.bx ?_;rintro O2 ⟨aB,fj,eZ⟩;rw[BQ]at fj;have fA:=aI.trans aB;refine Θ [4,6] (fun _:Unit=>[.sl 0 [] .nil,.bB O1.N 0 t.length t.length]) (fun _ O'=>O.Ge O'/\O1.N<O'.N/\∃q,O'.hp O1.N=some (.cells (fY t.length q))/\∀x,x<t.length->(q x=true ↔ ∃c∈C,0<=c/\c<(t.length:Int)/\jh t c.toNat x)) ?_ ?_
 ·refine ξ @a_ @hvC ?_;refine τ ?_;refine Γ [20] [4,5,6,18,19] (fun i:Nat=>[mi i]) (fun i O'=>i<=C.length/\O.Ge O'/\O1.N<O'.N/\∃q,O'.hp O1.N=some (.cells (fY t.length q))/\∀x,x<t.length->(q x=true ↔ ∃c∈C.take i,0<=c/\c<(t.length:Int)/\jh t c.toNat x)) (fun i=>C.length - i) (0) ?_ ?_
  ·exact⟨Qn _,fA,by omega,_,fj,fun x _=>⟨(fun h=>by cases h),fun⟨c,h,_⟩=>by simp at h⟩⟩
  clear fj;rintro i O3 ⟨hi,aH,gy,q,jv,hq⟩;by_cases ei:i<C.length;rotate_left
  ·obtain rfl:i=C.length:=by omega
   rw[adX]at hq;refine ν @a_ ?_;exact aA.mk () ⟨aH,gy,q,jv,hq⟩
  have ou:((i:Int)+1)=((i+1:Nat):Int):=by omega
  have GC:C[i]?=some C[i]:=zP ei;have bG:=R4 i _ GC;have dh:C.take (i+1)=C.take i++[C[i]]:=by rw[adZ ei]
  generalize C[i]=c at*;have uu:=Tj c O3;rw[aq]at uu;refine κ @a_ ?_;refine κ @a_ ?_;refine χ (τ ?_);refine θ (aG @a_ @bG @hCm ?_);refine VC.zw [4,5,6,18,19,20] (fun _:Unit=>[.sl 0 [] .nil,.sl t.length A Tn,.bB O1.N 0 t.length t.length,.sl C.length CM tc,mi C.length,mi i]) (fun _ O'=>O.Ge O'/\O1.N<O'.N/\∃q,O'.hp O1.N=some (.cells (fY t.length q))/\∀x,x<t.length->(q x=true ↔ ∃c∈C.take (i+1),0<=c/\c<(t.length:Int)/\jh t c.toNat x)) ?_ ?_
  ·refine κ @a_ ?_;refine ah.rt uu ?_;rintro _ O4 ⟨aY,p,tp,rfl,hp⟩;have hvp:dy (bY Tryz.prog) 29 (.sl (dm p t.length).length ((dm p t.length).map mi) tp)=some (.v (.int .i64 (dm p t.length).length)):=bR lN;have hIm:((dm p t.length).map mi).length=(dm p t.length).length:=Ma _;have hgI:∀(j:Nat) (y:Int),(dm p t.length)[j]?=some y->((dm p t.length).map mi)[j]?=some (MV.v (.int .i64 y)):=fun j y h=>by rw[Qm,h];rfl
   have adC:=fun x=>tC (p:=p) (n:=t.length) (x:=x)
   have hIl:=oQ p t.length;generalize dm p t.length=I at*;generalize I.map mi=IM at*;have fM:=aY.at jv;refine ao @a_ @hvp ?_;refine τ ?_;refine Γ [28] [4,5,6,18,19,20,26,27] (fun j:Nat=>[mi j]) (fun j O'=>j<=I.length/\O.Ge O'/\O1.N<O'.N/\∃q',O'.hp O1.N=some (.cells (fY t.length q'))/\∀x,x<t.length->(q' x=true ↔ q x=true\/(x:Int)∈I.take j)) (fun j=>I.length - j) (0) ?_ ?_
   ·exact⟨Qn _,aH.trans aY,by have:=aY.N;omega,q,fM,fun x _=>⟨.inl,fun h=>h.elim id fun h=>by simp at h⟩⟩
   clear fM;rintro j O5 ⟨hj,bD,eU,q',dS,SF⟩;by_cases aM:j<I.length;rotate_left
   ·obtain rfl:j=I.length:=by omega
    rw[adX]at SF;refine ν @a_ ?_;refine aA.mk () ⟨bD,eU,q',dS,fun x hx=>?_⟩;rw[SF x hx,hq x hx,adC];constructor
    ·rintro(⟨c',h1,h2⟩ | ⟨k,h1,h2,h3⟩)
     ·exact⟨c',by rw[dh];exact ana _ h1,h2⟩
     ·have:x=k:=by omega
      subst this;obtain⟨_,h4,h5,h6⟩:=(hp x hx).1 h3;exact⟨c,by rw[dh];simp,h4,h5,h6⟩
    ·rintro⟨c',h1,h2,h3,h4⟩;rw[dh,ahM]at h1;rcases h1 with h1 | h1
     ·exact .inl ⟨c',h1,h2,h3,h4⟩
     ·rw[ahJ.1 h1]at h2 h3 h4;exact .inr ⟨x,rfl,hx,(hp x hx).2 ⟨hmb,h2,h3,h4⟩⟩
   have cI:((j:Int)+1)=((j+1:Nat):Int):=by omega
   have hIj:I[j]?=some I[j]:=List.getElem?_eq_getElem aM;obtain⟨k,cA,bM,dR⟩:=(adC I[j]).1 (List.getElem_mem aM);rw[cA]at hIj;have qW:=hgI j _ hIj;have Eb:I.take (j+1)=I.take j++[(k:Int)]:=by rw[List.take_add_one,hIj];rfl
   have gL:=Dx q' true bM;have ia:=lH t.length q';generalize Ov:fY t.length q'=CQ at*;refine κ @a_ ?_;refine κ @a_ ?_;refine χ (τ ?_);refine θ (aG @a_ @qW @hIm ?_);refine ι (cR @a_ @dS @ia @gL ?_);refine ο @a_ @cI ?_;refine az.N (j+1) ⟨aM,bD.set (by have:=aI.N;omega) _,eU,_,ρ _ _ _,fun x hx=>?_⟩;unfold JS;by_cases e:x=k
   ·subst e;rw[if_pos rfl,Eb];exact⟨fun _=>.inr (by simp),fun _=>rfl⟩
   ·rw[if_neg e,SF x hx,Eb,ahM];constructor
    ·rintro(h | h)
     ·exact .inl h
     ·exact .inr (.inl h)
    ·rintro(h | h | h)
     ·exact .inl h
     ·exact .inr h
     ·exfalso;have:=ahJ.1 h;omega
  clear jv hq gy aH q;rintro _ O4 ⟨aY,gO,q,fM,hq⟩;refine ο @a_ @ou ?_;exact az.N (i+1) ⟨ei,aY,gO,q,fM,hq⟩
 clear fj;rintro _ O3 ⟨aH,gy,q,jv,hq⟩;have hva:dy (bY Tryz.prog) 69 (.bB O1.N 0 t.length t.length)=some (.v (.int .i64 t.length)):=rfl;refine Θ [4] (fun t4:Tok=>[.sl (dm q t.length).length ((dm q t.length).map mi) t4]) (fun _ O'=>O.Ge O') ?_ ?_
 ·refine ξ @a_ @hva ?_;refine τ ?_;refine Γ [4,39] [37,38] (fun s:Nat×Tok=>[.sl (dm q s.1).length ((dm q s.1).map mi) s.2,mi s.1]) (fun s O'=>s.1<=t.length/\O3.Ge O'/\App O' O3.N 1 s.2) (fun s=>t.length - s.1) ((0,.nil)) ?_ ?_
  ·exact⟨Qn _,VH.Ge.refl _,trivial⟩
  rintro⟨j,t1⟩ O5 ⟨hj,bD,dS⟩;dsimp only at hj dS ⊢;by_cases aM:j<t.length;rotate_left
  ·obtain rfl:j=t.length:=by omega
   refine ν @a_ ?_;exact aA.mk t1 (aH.trans bD)
  have cI:((j:Int)+1)=((j+1:Nat):Int):=by omega
  have bG:=oR q aM;have ia:=lH t.length q;have gK:=bD.at jv;have BO:=z8 q j;have Sv:=oQ q j;generalize q j=b at*;generalize dm q j=P at*;generalize fY t.length q=CQ at*;refine κ @a_ ?_;refine κ @a_ ?_;refine χ (τ ?_);refine θ (cR @a_ @gK @bG @ia ?_);cases b
  ·rw[if_neg (by decide),aju]at BO;refine ν @a_ ?_;refine ο @a_ @cI ?_;exact az.N (j+1,t1) ⟨aM,bD,dS⟩ (hl:=by dsimp only;rw[BO];rfl)
  ·rw[if_pos rfl]at BO;have ji:=aR (tk:=t1) (tk':=.full) (n:=P.length) (k:=1) (cs:=P.map mi) (ds:=[.v (.int .i64 j)]) lN T3 dS (by rw[Ma,ajs]) rfl rfl (by decide) (by decide) (by omega) (by simp only[maxLen];omega);refine ν @a_ ?_;refine VL.app ji ?_;refine ab @a_ ?_;refine ο @a_ @cI ?_;exact az.N (j+1,.own O5.N 1) ⟨aM,b_.en bD dS (b_.after dS),App.after bD.N⟩ (hl:=by dsimp only;rw[BO,Zj,ajp];rfl)
 rintro t4 O9 bj;refine κ @a_ ?_;refine ν @a_ ?_;refine⟨bj,?_⟩;rcases ajg with⟨h1,h2,h3⟩ | ⟨h1,rfl⟩
 ·refine .inl ⟨h1,q,t4,by rw[h2],fun x hx=>?_⟩;rw[hq x (by omega),h2];constructor
  ·rintro⟨c,a1,a2,a3,a4⟩;exact⟨c,a1,a2,a3,(JQ h3 x c.toNat).2 a4⟩
  ·rintro⟨c,a1,a2,a3,a4⟩;exact⟨c,a1,a2,a3,(JQ h3 x c.toNat).1 a4⟩
 ·exact .inr ⟨h1,t4,rfl⟩
set_option linter.defProp false in
def dC:=Vq a_ T72
theorem Qf (X:List (List Int)) (T:Nat->Tok) (w:List Int) (t:Tok):di X T++[.sl w.length (w.map mi) t]=di (X++[w]) (fun v=>if v=X.length then t else T v):=by
 unfold di;rw[Zj,ajt, <-Dw];have h1:(X++[w]).getD X.length []=w:=by simp
 rw[h1]
 congr 1
 exact ir T fun u hu=>by
  rw[adW,adW,ann hu]
theorem af2 (l:List Int) (tk:Tok) (fin:FuncId) (cin:List MV) (p:Int->Bool) (O:VH) (hl:l.length<=1000000) (hc:db Tryz.prog fin=true) (hf:∀x∈l,VF Tryz.prog fin (mi x::cin) O (aD fun m O'=>m=mb (p x)/\O'=O)):
  VF Tryz.prog 47 [.sl l.length (l.map mi) tk,.func (.func fin) [] cin] O (aD fun m O'=>(∃i:Int,m=mi i/\decide (0<=i)=l.any p)/\O'=O):=by
 have ib:dy (bY Tryz.prog) 29 (.sl l.length (l.map mi) tk)=some (.v (.int .i64 l.length)):=bR lN;have r4:∀(j:Nat) (y:Int),l[j]?=some y->(l.map mi)[j]?=some (MV.v (.int .i64 y)):=fun j y h=>by rw[Qm,h];rfl
 have D_:(l.map mi).length=l.length:=Ma _;generalize l.map mi=cs at*;refine υ 19 [.tmp 4] Tryz.func47 ?_;refine κ @dC ?_;refine Θ [] (fun _:Unit=>[]) (fun _ O'=>O'=O/\l.any p=false) ?_ ?_
 ·refine ξ @dC @ib ?_;refine τ ?_;refine Γ [8] [0,1,7] (fun j:Nat=>[mi j]) (fun j O'=>O'=O/\j<=l.length/\(l.take j).any p=false) (fun j=>l.length - j) (0) ?_ ?_
  ·exact⟨rfl,Qn _,rfl⟩
  rintro j Ox ⟨eO,hj,dF⟩;rw[eO];clear eO Ox
  by_cases aM:j<l.length;rotate_left
  ·obtain rfl:j=l.length:=by omega
   rw[adX]at dF;refine ν @dC ?_;exact aA.mk () ⟨rfl,dF⟩
  have cI:((j:Int)+1)=((j+1:Nat):Int):=by omega
  have bG:=r4 j l[j] (zP aM);have dh:l.take (j+1)=l.take j++[l[j]]:=by rw[adZ aM]
  have Dm:=adY aM;have hfx:=hf l[j] Dm;generalize l[j]=y at*;rw[aq]at hfx;refine κ @dC ?_;refine κ @dC ?_;refine χ (τ ?_);refine κ @dC ?_;refine θ (aG @dC @bG @D_ ?_);refine ah.rt hfx ?_ (hb:=hc);rintro _ Ox ⟨rfl,eO⟩;rw[eO];clear eO Ox
  cases hy:p y
  ·refine ab @dC ?_;refine ν @dC ?_;refine ο @dC @cI ?_;refine az.N (j+1) ⟨rfl,aM,?_⟩;rw[dh,List.any_append,dF,anE];simpa using hy
  ·refine ab @dC ?_;refine ν @dC ?_;refine⟨j,rfl,?_⟩;rw[List.any_eq_true.2 ⟨y,Dm,hy⟩];simp
 rintro _ Ox ⟨eO,dF⟩;rw[eO];clear eO Ox
 refine ν @dC ?_;exact⟨-1,rfl,by rw[dF];rfl⟩
theorem adD (l:List Int) (tk:Tok) (fin:FuncId) (cin:List MV) (p:Int->Bool) (O:VH) (hl:l.length<=1000000) (hc:db Tryz.prog fin=true) (hf:∀x∈l,VF Tryz.prog fin (mi x::cin) O (aD fun m O'=>m=mb (p x)/\O'=O)):
  VF Tryz.prog 31 [.sl l.length (l.map mi) tk,.func (.func fin) [] cin] O (aD fun m O'=>m=mb (l.any p)/\O'=O):=by
 have h:=af2 l tk fin cin p O hl hc hf;refine Δ 9 [.tmp 4] Tryz.func31 ?_;refine ab @dC ?_;refine ah.rt (h) ?_;rintro _ O2 ⟨⟨i,rfl,hi⟩,e2⟩;rw[e2];clear e2 O2
 rw[aq];have rE:decide (i>=0)=l.any p:=hi;refine aG @dC @hi @rE ?_;trivial
def oo (g:List (List Int)) (d:Nat->Bool) (n:Nat):Bool:= !d n&& !((g.getD n []).any fun k=> !d k.toNat)
def kx (d:Nat->Bool) (w:List Int):Nat->Bool:=fun v=>d v||w.contains (v:Int)
def ky (g:List (List Int)) (d:Nat->Bool):List Int:=dm (oo g d) g.length
def kX (g:List (List Int)):Nat->(Nat->Bool)->List (List Int)
 | 0,_=>[]
 | f+1,d=>if(ky g d).length=0 then[]else ky g d::kX g f (kx d (ky g d))
def Hj (d:Nat->Bool) (n:Nat):Nat:=(List.range n).countP fun v=> !d v
theorem To {g:List (List Int)} {d:Nat->Bool} (h:(ky g d).length≠0):Hj (kx d (ky g d)) g.length<Hj d g.length:=by
 obtain⟨x,hx⟩:=List.exists_mem_of_ne_nil (ky g d) (fun e=>h (by rw[e];rfl));obtain⟨i,h1,h2,h3⟩:=(tC (p:=oo g d)).1 hx
 have hdi:d i=false:=by
  unfold oo at h3;rw[ano]at h3;simpa using h3.1
 have hle:∀(l:List Nat),(l.countP fun v=> !kx d (ky g d) v)<=l.countP fun v=> !d v:=fun l=>List.countP_mono_left fun v _ hv=>by
  unfold kx at hv;cases hd:d v
  ·rfl
  ·rw[hd]at hv;simp at hv
 unfold Hj;obtain⟨l1,l2,e⟩:=List.append_of_mem (ajm.2 h2);rw[e,List.countP_append,List.countP_append,anh,anh];have a1:=hle l1;have a2:=hle l2
 have m1:kx d (ky g d) i=true:=by
  unfold kx;have:(ky g d).contains (i:Int)=true:=by rw[List.contains_iff_mem, <-h1];exact hx
  rw[this,Bool.or_true]
 rw[m1,hdi];simp only[Bool.not_true,Bool.not_false,anc,if_false,if_true];omega
theorem adE (d:Nat->Bool) (n:Nat):Hj d n<=n:=by
 have:=List.countP_le_length (p:=fun v=> !d v) (l:=List.range n)
 rwa [anf]at this
theorem adF (g:List (List Int)) (T:Nat->Tok) (tk:Tok) (d:Nat->Bool) (n bd bq bg:Nat) (O:VH) (hs:Hh 1000000 g) (hm:Hf g) (hn:n<g.length) (h1:O.hp bd=some (.cells [.bB bq 0 g.length g.length])) (h2:O.hp bq=some (.cells (fY g.length d))) (h3:O.hp bg=some (.cells [.sl g.length (di g T) tk])):
  VF Tryz.prog 30 [mi n,.ptr bd 0,.ptr bg 0] O (aD fun m O'=>m=mb (oo g d n)/\O'=O):=by
 have bG:=tB g T hn;have r4:=oP g T;have ia:=lH g.length d;have hcd:=oR d hn
 have ahG:∀x∈g[n],VF Tryz.prog 32 [mi x,.ptr bd 0] O (aD fun m O'=>m=mb (!d x.toNat)/\O'=O):=fun x hx=>by
  obtain⟨h4,h5⟩:=hm _ (adY hn) x hx;obtain⟨k,rfl⟩:=am7 h4;have FB:=oR d (show k<g.length by omega);rw[aq,ang];generalize fY g.length d=CB at*;refine υ 9 [.tmp 3] Tryz.func32 ?_;refine κ @dC ?_;refine ι (iN @dC @h1 @h2 @FB @ia ?_);trivial
 have JE:=adD g[n] (T n) 32 [.ptr bd 0] (fun k=> !d k.toNat) O (hs.2 _ (adY hn)) (by kernel_rfl) ahG
 have Af:oo g d n=(!d n&& !(g[n].any fun k=> !d k.toNat)):=by
  unfold oo;rw[adW,zP hn];rfl
 rw[Af,aq];clear ahG Af;generalize fY g.length d=CB at*;generalize di g T=A at*;generalize (g[n].any fun k=> !d k.toNat)=z at*;generalize d n=dn at*;refine υ 19 [.tmp 4] Tryz.func30 ?_;refine κ @dC ?_;cases dn
 ·refine θ (HJ @dC @h1 @h2 (Vq hcd ia) @h3 (Vq bG r4) ?_);refine ah.rt JE ?_;rintro _ Ox ⟨rfl,eO⟩;rw[eO];clear eO Ox
  refine ab @dC ?_;refine ν @dC ?_;trivial
 ·refine θ (cR @dC @h1 @h2 (Vq hcd ia) ?_);refine ν @dC ?_;trivial
set_option maxHeartbeats 8000000 in
theorem adG (g:List (List Int)) (T:Nat->Tok) (tk:Tok) (O:VH) (hs:Hh 1000000 g):VF Tryz.prog 15 [.sl g.length (di g T) tk] O (aD fun m O'=>O.Ge O'/\((nA g=true/\∃T' t,m= .sl (kX g (g.length+1) fun _=>false).length (di (kX g (g.length+1) fun _=>false) T') t)\/(nA g=false/\m= .sl 0 [] .nil))):=by
 have Tl:=hs.1;have ib:dy (bY Tryz.prog) 25 (.sl g.length (di g T) tk)=some (.v (.int .i64 g.length)):=bR AN;have jQ:=fun O'=>JC (tab:=bY Tryz.prog) T69 T4 O' g.length (by omega) (by omega)
 have BN:=fun O'=>Hi g T tk O' hs
 obtain⟨A,hA⟩:∃A,A=di g T:=⟨_,rfl⟩
 rw[<-hA]at ib BN ⊢;refine υ 47 [.tmp 2] Tryz.func15 ?_;refine κ @dC ?_;refine VC.bx ?_;rintro O1 ⟨aI,eP,cW⟩;refine ξ @dC @eP ?_;refine ah.rt (BN O1) ?_;rintro _ Ox ⟨rfl,eO⟩;rw[eO];clear eO Ox BN
 cases hm:nA g
 ·refine ab @dC ?_;exact⟨aI,.inr (by simp)⟩
 have Cw:=(nB g).1 hm;refine ab @dC ?_;refine θ (cR @dC @eP @ib @jQ ?_);refine VC.gen ?_;intro O2 e2;have eZ:O2.N=O.N+3:=by rw[e2];show O1.N+1+1=_;omega
 have ux:O2.hp O1.N=some (.cells (fY g.length fun _=>false)):=by
  rw[e2,π _ _ (by show O1.N≠O1.N+1;omega),VH.o0 _ _ (by show O1.N≠O1.N+1;omega), <-BQ];exact Ξ _ _
 have iM:O2.hp (O1.N+1)=some (.cells [.bB O1.N 0 g.length g.length]):=by rw[e2];exact ρ _ _ _
 have aB:O1.Ge O2:=by rw[e2];exact(((VH.Ge.refl O1).push _).push _).set (Nat.le_succ _) _
 clear e2;have cJ:=aB.at eP;have fA:=aI.trans aB;obtain⟨W,hW⟩:∃W,W=kX g (g.length+1) (fun _=>false):=⟨_,rfl⟩
 rw[<-hW]
 have hWl:W.length<=1001:=by
  have:∀(f:Nat) d,(kX g f d).length<=f:=fun f=>by
   induction f with
   | zero=>intro d;exact Zk _
   | succ f ih=>
     intro d;rw[kX];split
     ·exact Qn _
     ·rw[ahO];have:=ih (kx d (ky g d));omega
  have:=this (g.length+1) (fun _=>false);rw[hW];omega
 refine κ @dC ?_;refine τ ?_;refine Γ [2] [1,3,4] (fun s:List (List Int)×(Nat->Tok)×Tok×(Nat->Bool)=>[.sl s.1.length (di s.1 s.2.1) s.2.2.1]) (fun s O'=>O.Ge O'/\O2.N<=O'.N/\O'.hp O1.N=some (.cells (fY g.length s.2.2.2))/\O'.hp (O1.N+1)=some (.cells [.bB O1.N 0 g.length g.length])/\O'.hp O.N=some (.cells [.sl g.length A tk])/\App O' O2.N 1 s.2.2.1/\∃f,Hj s.2.2.2 g.length<f/\W=s.1++kX g f s.2.2.2) (fun s=>Hj s.2.2.2 g.length) (([],(fun _=>.nil),.nil,(fun _=>false))) ?_ ?_
 ·exact⟨fA,Zk _,ux,iM,cJ,trivial,g.length+1,Nat.lt_succ_of_le (adE _ _),hW⟩
 clear ux iM cJ eP fA;rintro⟨X,TX,tX,d⟩ O3 ⟨aH,gy,qX,wB,cB,lu,f,hf,Qg⟩;dsimp only at qX lu hf Qg ⊢;obtain⟨f,rfl⟩:∃f',f=f'+1:=⟨f - 1,by omega⟩
 have HM:X.length<=W.length:=by rw[Qg,Zj];omega
 refine τ ?_;refine κ @dC ?_;refine Θ [1,2,3,4,5] (fun t:Tok=>[.ptr O.N 0,.sl X.length (di X TX) tX,.ptr (O1.N+1) 0,.func (.func 30) [] [.ptr (O1.N+1) 0,.ptr O.N 0],.sl (ky g d).length ((ky g d).map mi) t]) (fun t O'=>O3.Ge O'/\App O' O3.N 1 t) ?_ ?_
 ·refine θ (aG @dC @cB @ib ?_);refine τ ?_;refine Γ [5,18] [1,2,3,4,17] (fun s:Nat×Tok=>[.sl (dm (oo g d) s.1).length ((dm (oo g d) s.1).map mi) s.2,mi s.1]) (fun s O'=>s.1<=g.length/\O3.Ge O'/\App O' O3.N 1 s.2) (fun s=>g.length - s.1) ((0,.nil)) ?_ ?_
  ·exact⟨Qn _,VH.Ge.refl _,trivial⟩
  rintro⟨j,t1⟩ O4 ⟨hj,aY,fM⟩;dsimp only at hj fM ⊢;by_cases aM:j<g.length;rotate_left
  ·obtain rfl:j=g.length:=by omega
   refine ν @dC ?_;exact aA.mk t1 ⟨aY,fM⟩
  have cI:((j:Int)+1)=((j+1:Nat):Int):=by omega
  have aW:=adF g T tk d j (O1.N+1) O1.N O.N O4 hs Cw aM (aY.at wB) (aY.at qX) (by rw[<-hA];exact aY.at cB);rw[aq]at aW;have BO:=z8 (oo g d) j;have Sv:=oQ (oo g d) j;generalize oo g d j=b at*;generalize dm (oo g d) j=P at*;refine κ @dC ?_;refine κ @dC ?_;refine χ (τ ?_);refine κ @dC ?_;refine κ @dC ?_;refine ah.rt aW ?_;rintro _ Ox ⟨rfl,eO⟩;rw[eO];clear eO Ox aW
  cases b
  ·rw[if_neg (by decide),aju]at BO;refine ab @dC ?_;refine ν @dC ?_;refine ο @dC @cI ?_;exact az.N (j+1,t1) ⟨aM,aY,fM⟩ (hl:=by dsimp only;rw[BO];rfl)
  ·rw[if_pos rfl]at BO;have ji:=aR (tk:=t1) (tk':=.full) (n:=P.length) (k:=1) (cs:=P.map mi) (ds:=[.v (.int .i64 j)]) lN T3 fM (by rw[Ma,ajs]) rfl rfl (by decide) (by decide) (by omega) (by simp only[maxLen];omega);refine ab @dC ?_;refine ν @dC ?_;refine VL.app ji ?_;refine ab @dC ?_;refine ο @dC @cI ?_;exact az.N (j+1,.own O4.N 1) ⟨aM,b_.en aY fM (b_.after fM),App.after aY.N⟩ (hl:=by dsimp only;rw[BO,Zj,ajp];rfl)
 rintro tw O4 ⟨aY,fM⟩;have rC:dy (bY Tryz.prog) 29 (.sl (ky g d).length ((ky g d).map mi) tw)=some (.v (.int .i64 (ky g d).length)):=bR lN;have oI:(ky g d).length<=g.length:=oQ _ _;have ahH:=To (g:=g) (d:=d);have H_:=fun x=>tC (p:=oo g d) (n:=g.length) (x:=x)
 rw[kX]at Qg;rw[show dm (oo g d) g.length=ky g d from rfl]at H_;obtain⟨w,hw⟩:∃w,w=ky g d:=⟨_,rfl⟩
 rw[<-hw]at rC oI ahH H_ Qg ⊢;have Gx:=aY.at qX;have Bj:=aY.at wB;have dd:=aY.at cB;by_cases h0:w.length=0
 ·have e0:((w.length:Int)==0)=true:=by simp[h0]
  rw[if_pos h0,aju]at Qg;subst Qg;refine θ (aG @dC @rC @e0 ?_);exact⟨aH.trans aY,.inl ⟨TX,tX,rfl⟩⟩
 have e0:((w.length:Int)==0)=false:=by simpa using h0
 rw[if_neg h0]at Qg;have amv:=ahH h0;refine θ (aG @dC @rC @e0 ?_);have adH:(w.map mi).length=w.length:=Ma _;have hgw:∀(j:Nat) (y:Int),w[j]?=some y->(w.map mi)[j]?=some (MV.v (.int .i64 y)):=fun j y h=>by rw[Qm,h];rfl
 refine Θ [1,2,3,4,5] (fun _:Unit=>[.ptr O.N 0,.sl X.length (di X TX) tX,.ptr (O1.N+1) 0,.func (.func 30) [] [.ptr (O1.N+1) 0,.ptr O.N 0],.sl w.length (w.map mi) tw]) (fun _ O'=>O'.N=O4.N/\(∀i,i≠O1.N->O'.hp i=O4.hp i)/\O'.hp O1.N=some (.cells (fY g.length (kx d w)))) ?_ ?_
 ·generalize hwc:w.map mi=WM at*;refine ξ @dC @rC ?_;refine τ ?_;refine Γ [35] [1,2,3,4,5,33,34] (fun j:Nat=>[mi j]) (fun j O'=>j<=w.length/\O'.N=O4.N/\(∀i,i≠O1.N->O'.hp i=O4.hp i)/\O'.hp O1.N=some (.cells (fY g.length (kx d (w.take j))))) (fun j=>w.length - j) (0) ?_ ?_
  ·exact⟨Qn _,rfl,fun _ _=>rfl,by rw[Gx];congr 3;funext v;unfold kx;simp⟩
  rintro j O5 ⟨hj,eU,gM,v_⟩;by_cases aM:j<w.length;rotate_left
  ·obtain rfl:j=w.length:=by omega
   rw[adX]at v_;refine ν @dC ?_;exact aA.mk () ⟨eU,gM,v_⟩
  have cI:((j:Int)+1)=((j+1:Nat):Int):=by omega
  have Hk:w[j]?=some w[j]:=List.getElem?_eq_getElem aM;obtain⟨k,cA,bM,dR⟩:=(H_ w[j]).1 (List.getElem_mem aM);rw[cA]at Hk;have qW:=hgw j _ Hk;have Eb:w.take (j+1)=w.take j++[(k:Int)]:=by rw[List.take_add_one,Hk];rfl
  have gL:=Dx (kx d (w.take j)) true bM;have ia:=lH g.length (kx d (w.take j))
  have hse:JS (kx d (w.take j)) k true=kx d (w.take (j+1)):=by
   funext v
   unfold JS kx;rw[Eb,am_];by_cases e:v=k
   ·subst e;rw[if_pos rfl];simp
   ·rw[if_neg e]
    have:([(k:Int)]:List Int).contains (v:Int)=false:=by
     rw[anm];intro h
     have:(v:Int)=k:=by simpa using h
     omega
    rw[this,anF]
  rw[hse]at gL;have zL:=(gM (O1.N+1) (by omega)).trans Bj;generalize Ov:fY g.length (kx d (w.take j))=CQ at*;refine κ @dC ?_;refine κ @dC ?_;refine χ (τ ?_);refine θ (aG @dC @qW @adH ?_);refine ι (iN @dC @zL @v_ @ia @gL ?_);refine ο @dC @cI ?_;exact az.N (j+1) ⟨aM,eU,fun i hi=>(π _ _ hi).trans (gM i hi),ρ _ _ _⟩
 rintro _ O5 ⟨eU,gM,v_⟩;have zL:=(gM (O1.N+1) (by omega)).trans Bj;have du:=(gM O.N (by omega)).trans dd;have gO:=aY.N;have mJ:=lu.ge aY;have gJ:App O5 O2.N 1 tX:=rZ mJ (fun i hi=>gM i (by have:=aB.N;omega)) (by omega);have hXr:=oP X TX;have gY:=Qf X TX w tw;have ji:=aR (tk:=tX) (tk':=.full) (n:=X.length) (k:=1) (cs:=di X TX) (ds:=[.sl w.length (w.map mi) tw]) AN lN gJ (by rw[hXr,ajs]) rfl rfl (by decide) (by decide) (by omega) (by simp only[maxLen];omega);have hqA:=VH.jF gJ v_ (by simp) (by have:=aB.N;omega);have Cf:=VH.jF gJ zL (by simp) (by omega);have Cg:=VH.jF gJ du (by simp) (by omega);have GB:=VH.dZ O5 tX;have il:=b_.after gJ;have Hd:∀i,Tok.id tX=some i->O2.N<=i:=fun i e=>(gJ.nD e).1
 refine ν @dC ?_;refine VL.app ji ?_;refine ab @dC ?_;refine az.N (X++[w],(fun v=>if v=X.length then tw else TX v),.own O5.N 1,kx d w) ⟨⟨by rw[GB];have:=aH.N;omega,fun i hi=>?_⟩,by rw[GB];omega,hqA,Cf,Cg,App.after (by omega),f,by show Hj (kx d w) g.length<f;omega,by rw[Qg,List.append_assoc];rfl⟩ (hl:=by dsimp only;rw[<-gY,Zj];rfl);have:=aH.N;have:=aI.N;rw[il.hp i (by omega) (fun e=>by have:=Hd i e;omega),gM i (by omega),aY.hp i (by omega)];exact aH.hp i hi
set_option linter.defProp false in
def bk:=Vq aP<|Vq dB<|Vq ajU<|Vq T57<|Vq ajR<|Vq ajS<|Vq aj2<|Vq ajT<|Vq aj8<|Vq ajZ<|Vq ajV<|Vq NB<|Vq FC<|Vq Xk<|Vq B6<|Vq Xl<|Vq T46<|Vq T44<|Vq T50<|Vq T95<|Vq AO T3
def df (k bb:Nat) (g:Gv) (mo st u1 l1:Int) (tl:MV) (u2 l2:Int) (cv:MV) (u3 l3:Int) (rv:MV) (R:List MV):List MV:=
 .ptr k 0:: .ptr bb 0:: .str g.g:: .str g.a:: .str g.v::mi mo::mi st:: .v (.int .u32 u1):: .v (.int .i32 l1):: .v (.int .u32 0)::tl::mi 0:: .str []:: .str []:: .str []::mi 0::mi 0::mi 0:: .str []::
 .v (.int .u32 u2):: .v (.int .i32 l2):: .v (.int .u32 0)::cv:: .v (.int .u32 u3):: .v (.int .i32 l3):: .v (.int .u32 0)::rv::R
def Vl:List MV:=[.v (.int .u32 0),.v (.int .i32 0),.v (.int .u32 0),.sl 0 [] .nil,.v (.int .u32 0),.v (.int .i32 0),.v (.int .u32 0),mi 0,.sl 0 [] .nil,mi 0,.sl 0 [] .nil,.sl 0 [] .nil,mi 0,.str [],.str [],.str [],mi 0,mi 0,mi 0,.str []]
def lI:MV:=.sl 0 [] .nil
theorem af3 (k:Nat) (g:Gv) (mo:Int) (O:VH):VF Tryz.prog 22 [.ptr k 0,.agg (bZ g),mi mo] O (aD fun m O'=>∃ke bb,m= .ptr ke 0/\O.Ge O'/\O.N<bb/\bb<ke/\ke<O'.N/\O'.hp (bb - 1)=some (.map [] 0)/\O'.hp bb=some (.cells [.ptr k 0,.map (bb - 1)])/\O'.hp ke=some (.cells (df k bb g mo 0 0 0 lI 0 0 lI 0 0 lI Vl))):=by
 obtain⟨g1,g2,g3⟩:=g;simp only[bZ,aq];refine υ 14 [.tmp 6] Tryz.func22 ?_;refine κ @bk ?_;refine VC.bx ?_;rintro O1 ⟨aI,eP,cW⟩;refine χ ?_;refine VC.nP [5,6,7] ?_;refine ae.ar 0 ?_;refine ab @bk ?_;refine ae.ar 1 ?_;refine ab @bk ?_;refine ae.ld (m:=.agg [.str g1,.str g2,.str g3]) 3 ?_ ?_
 ·exact dX @bk @eP
 simp only[ak];refine ae.ar 4 ?_;refine ab @bk ?_;refine ae.call (i:=2) (afz k O1) ?_;rintro _ O2 ⟨rfl,aB,BM,cJ,eZ⟩;simp only[ak];refine⟨aB,?_⟩;have k8:∀b,Fp (kU [(0,1),(1,1),(2,3),(5,1),(6,1),(7,12),(19,4),(23,4),(27,4),(31,16)]) (df 0 0 ⟨[],[],[]⟩ 0 0 0 0 lI 0 0 lI 0 0 lI Vl) (.ptr k 0) [(1,.ptr b 0),(2,.agg [.str g1,.str g2,.str g3]),(3,mi mo)] (some (0,1))=some (df k b ⟨g1,g2,g3⟩ mo 0 0 0 lI 0 0 lI 0 0 lI Vl):=fun _=>rfl
 refine ae.bP [(5,.ar),(6,.one),(7,.ar)] ?_;refine ao @bk @k8 ?_;have fA:=aI.trans aB;obtain⟨aH,dR,gy⟩:=(nU.bx:nU O2 (df k (O1.N+1) ⟨g1,g2,g3⟩ mo 0 0 0 lI 0 0 lI 0 0 lI Vl) _);refine ν @bk ?_;exact⟨O2.N,O1.N+1,rfl,fA.trans aH,by omega,by omega,by omega,aH.at BM,aH.at cJ,dR⟩
section
variable {P:Program} {tab:cj} {n:Sz} {D:List Deferred} {Q:VQ} {e:Env} {O:VH}
theorem ae.adI {brk:List Nat} {Ψ :Gh->Prop} {J:VH->Prop} {Z:Prop} {fuel i:Nat} {listed:Array Bool} {l:List Oper} {d:Option Tmp} {f:Operand} {ax:Array Operand} {ts:Array TypeId} {ty:TypeId} {ps:String} {af:Array Edge} {g:Option (Nat×Bool)} {id:FuncId} {fs ms cs xs:List MV} {Φ :MV->VH->Prop} (hR:VF P id xs O (aD Φ))
  (h:∀m O', Φ m O'->J O'/\ae P n D ⟨l⟩ brk J Ψ Z fuel (listed.setIfInBounds i true) (aZ d m e) O' Q) (hr:Region.ready .any ⟨l⟩ listed=[i]:=by kernel_rfl) (ho:l[i]?=some (.mk d (.call {callee:=.value f,args:=ax,argTypes:=ts}) ty ps af g):=by exact rfl) (hg:aN ⟨l⟩ (.mk d (.call {callee:=.value f,args:=ax,argTypes:=ts}) ty ps af g) e=some true:=by exact rfl) (hf:ev e f=some (.func (.func id) fs cs):=by exact rfl) (hm:gh e ax.toList=some ms:=by exact rfl) (ha:fs++ms++cs=xs:=by exact rfl) (hb:db P id=true:=by kernel_rfl) (hd:bC n d=true:=by exact rfl):ae P n D ⟨l⟩ brk J Ψ Z (fuel+1) listed e O Q:=
 ae.one (aL.call (o:=.mk d (.call {callee:=.value f,args:=ax,argTypes:=ts}) ty ps af g) (by simpa using ho) hg rfl rfl hf hm (Enters.sH hb) hd (by rw[ha];exact hR) fun r O' hr=>by
  cases r with
  | ret m=>exact h m O' hr
  | panic m=>exact hr.elim) (hr:=hr)
end
theorem Zg {O:VH} {U:Nat->Prop} {ke k bb md:Nat} {S:List (Gv×List Dp)} {g:Gv} {mo st u1 l1 u2 l2 u3 l3:Int} {tl cv rv:MV} {R:List MV} {N:List Br} (fQ:ke<O.N) (BR:¬U ke) (hk:O.hp ke=some (.cells (df k bb g mo st u1 l1 tl u2 l2 cv u3 l3 rv R))) (hc:CB O U k bb md S) (hS:Plain S) (hr:zY (iO S) g=some (some N)):
  VF Tryz.prog 63 [.ptr ke 0] O (aD fun m O'=>(∃t,m= .agg (.sl N.length (N.flatMap mY) t::nH ik))/\O.N<=O'.N/\∀j,¬U j->j<O.N->O'.hp j=O.hp j):=by
 have hw:=fun O' (h:CB O' U k bb md S)=>afU h hS g hr
 have eh:=hc.lt;obtain⟨g1,g2,g3⟩:=g;simp only[df,aq,bZ]at hk hw;refine υ 22 [.cell 2 112] Tryz.func63 ?_;refine κ @bk ?_;refine VC.gen ?_;intro O1 e1;obtain⟨aI,eP,cW⟩:nU O [.sl 0 [] .nil,.v (.int .i64 0),.str [],.str [],.str [],.v (.int .i64 0),.v (.int .i64 0),.v (.int .i64 0),.str []] O1:=by rw[e1];exact nU.bx
 clear e1;have cA:=aI.at hk;refine χ ?_;refine VC.qO [14,15,16,17,18,19] (fun O'=>O'.hp O.N=some (.cells [.sl 0 [] .nil,.v (.int .i64 0),.str [],.str [],.str [],.v (.int .i64 0),.v (.int .i64 0),.v (.int .i64 0),.str []])/\O'.hp ke=O1.hp ke) (⟨eP,rfl⟩) ?_;refine ae.ar 0 ?_;refine ab @bk ?_;refine ae.ar 1 ?_;refine ab @bk ?_;refine ae.ar 2 ?_;refine ab @bk ?_;rw[cA];refine Ω (m:=.ptr k 0) 3 ?_ ?_
 ·rintro O2 ⟨j1,j2⟩;exact dX @bk @j2
 simp only[ak];refine ae.ar 4 ?_;refine ab @bk ?_;refine ae.ar 5 ?_;refine ab @bk ?_;refine ae.ar 6 ?_;refine ab @bk ?_;refine Ω (m:=.ptr bb 0) 7 ?_ ?_
 ·rintro O2 ⟨j1,j2⟩;exact dX @bk @j2
 simp only[ak];refine ae.ar 8 ?_;refine ab @bk ?_;refine ae.ar 9 ?_;refine ab @bk ?_;refine ae.ar 10 ?_;refine ab @bk ?_;refine Ω (m:=.agg [.str g1,.str g2,.str g3]) 11 ?_ ?_
 ·rintro O2 ⟨j1,j2⟩;exact dX @bk @j2
 simp only[ak];refine ae.call (i:=12) (hw O1 (hc.ge aI)) ?_;rintro m O2 ⟨⟨t,rfl⟩,eZ,kY⟩;simp only[ak];have hUn:¬U O.N:=fun e=>by have:=eh _ e;omega
 refine⟨⟨(kY _ hUn (by omega)).trans eP,(kY ke BR (by omega)).trans cA⟩,?_⟩;simp only[nH,ik,aq];refine ae.ar 13 ?_;refine ab @bk ?_;refine ae.bP [(14,.ar),(15,.ar),(16,.ar),(17,.one),(18,.ar),(19,.one)] ?_;have jb:=(kY _ hUn (by omega)).trans eP;refine ao @bk @jb ?_;refine ν @bk ?_;exact⟨⟨t,rfl⟩,by show O.N<=O2.N;omega,fun j hj zy=>by rw[π _ _ (by omega),π _ _ (by omega),π _ _ (by omega),kY j hj (by omega)];exact aI.hp j zy⟩
def Out (U:Nat->Prop) (ke:Nat) (O O':VH):Prop:=O.N<=O'.N/\∀j,¬U j->j≠ke->j<O.N->O'.hp j=O.hp j
theorem adJ {O:VH} {U:Nat->Prop} {ke k bb md bs br bp:Nat} {S:List (Gv×List Dp)} {g:Gv} {mo st u1 l1 u2 l2 u3 l3:Int} {cv rv:MV} {R:List MV} {N:List Br} (fQ:ke<O.N) (BR:¬U ke) (hk:O.hp ke=some (.cells (df k bb g mo st u1 l1 lI u2 l2 cv u3 l3 rv R))) (hc:CB O U k bb md S) (hS:Plain S) (hr:zY (iO S) g=some (some N))
  (hs:O.hp bs=some (.cells [.ptr ke 6])) (Tp:O.hp br=some (.cells [.func (.func 63) [.ptr ke 0] []])) (hp:O.hp bp=some (.cells [.ptr ke 7])) (h1:bs<O.N) (h2:br<O.N) (h3:bp<O.N) (n1:¬U bs) (n2:¬U br) (n3:¬U bp):
  VF Tryz.prog 76 [.ptr bs 0,.ptr br 0,.ptr bp 0] O (aD fun _ O'=>(∃kR t,O'.hp ke=some (.cells (df k bb g mo kR u1 l1 (.sl N.length (N.flatMap mY) t) u2 l2 cv u3 l3 rv R)))/\Out U ke O O'):=by
 have e1:br≠ke:=fun e=>by rw[e,hk]at Tp;cases Tp
 have e2:bp≠ke:=fun e=>by rw[e,hk]at hp;cases hp
 have qp:=hk;simp only[df,aq]at qp;refine υ 10 [] Tryz.func76 ?_;refine ξ @bk @hs ?_;refine ah.rt (wK 1 qp rfl) ?_;rintro m O1 ⟨rfl,L6⟩;have cA:O1.hp ke=some (.cells (df k bb g mo (IntKind.i64.wrap (st+1)) u1 l1 lI u2 l2 cv u3 l3 rv R)):=by rw[L6];exact ρ _ _ _
 have cW:O1.N=O.N:=by rw[L6];rfl
 have ou:∀i,i≠ke->O1.hp i=O.hp i:=fun i hi=>by rw[L6];exact π _ _ hi
 clear L6;have eS:CB O1 U k bb md S:=hc.mv (by omega) fun i hi=>ou i fun e=>BR (e▸hi)
 have kA:=(ou br e1).trans Tp;have lJ:=(ou bp e2).trans hp;generalize IntKind.i64.wrap (st+1)=Gz at*;refine ab @bk ?_;have kh:=Zg (by omega) BR cA eS hS hr;refine VC.qO [3,4,5] (fun O'=>O'.hp ke=some (.cells (df k bb g mo Gz u1 l1 lI u2 l2 cv u3 l3 rv R))/\O'.hp bp=O1.hp bp/\O'.hp br=O1.hp br) (⟨cA,rfl,rfl⟩) ?_;rw[lJ,kA];refine Ω (m:=.ptr ke 7) 0 ?_ ?_
 ·rintro O2 ⟨j1,j2,j3⟩;exact dX @bk @j2
 simp only[ak];have JX:ef Tryz.t177.desc=false:=rfl;refine ae.op (i:=1) ?_;refine aG @bk @kA @JX ?_;refine⟨(by first | exact⟨cA,lJ,kA⟩ | exact⟨cA,lJ⟩ | exact cA),?_⟩;refine ae.adI (i:=2) kh ?_;rintro m O2 ⟨⟨t,rfl⟩,eZ,kY⟩;simp only[ak];have bM:=(kY ke BR (by omega)).trans cA;refine⟨⟨bM,(kY bp n3 (by omega)).trans lJ,(kY br n2 (by omega)).trans kA⟩,?_⟩;refine ae.bP [(3,.ar),(4,.ar),(5,.one)] ?_;simp only[nH,ik,aq];have w9:=bM;simp only[df,lI,aq]at w9;refine ao @bk @w9 ?_;exact⟨⟨Gz,t,rfl⟩,by show O.N<=O2.N;omega,fun j h1 h2 h3=>by rw[π _ _ h2,kY j h1 (by omega)];exact ou j h2⟩
theorem af4 {O:VH} {U:Nat->Prop} {ke k bb md:Nat} {S:List (Gv×List Dp)} {g:Gv} {mo st u2 l2 u3 l3:Int} {cv rv:MV} {R:List MV} {N:List Br} (fQ:ke<O.N) (BR:¬U ke) (hk:O.hp ke=some (.cells (df k bb g mo st 0 0 lI u2 l2 cv u3 l3 rv R))) (hc:CB O U k bb md S) (hS:Plain S) (hr:zY (iO S) g=some (some N)):
  VF Tryz.prog 62 [.ptr ke 7,.ptr ke 6,.func (.func 63) [.ptr ke 0] []] O (aD fun m O'=>∃kR t,m= .agg (.sl N.length (N.flatMap mY) t::nH ik)/\O'.hp ke=some (.cells (df k bb g mo kR 1 0 (.sl N.length (N.flatMap mY) t) u2 l2 cv u3 l3 rv R))/\Out U ke O O'):=by
 have eh:=hc.lt;have JX:ef Tryz.t177.desc=false:=rfl;refine υ 16 [.cell 6 112] Tryz.func62 ?_;refine κ @bk ?_;refine VC.gen ?_;intro O1 e1;obtain⟨aI,cW,cz,cD,eS,n7⟩:=F6 _ _ _ _ e1;clear e1;have cA:=aI.at hk;have al2:=hc.ge aI;have hU:∀i,O.N<=i->¬U i:=fun i h1 h2=>by have:=eh i h2;omega
 refine ξ @bk @cz ?_;have gL:(df k bb g mo st 0 0 lI u2 l2 cv u3 l3 rv R).set (7+1) (.v (.int .i32 1))=df k bb g mo st 0 1 lI u2 l2 cv u3 l3 rv R:=rfl;have ve:∀{i:Nat} {y:Option cg},i≠ke->O1.hp i=y->(O1.set ke (.cells (df k bb g mo st 0 1 lI u2 l2 cv u3 l3 rv R))).hp i=y:=fun hi hy=>(π _ _ hi).trans hy
 refine ah.rt (abJ (off:=7) (Φ :=fun O'=>(∃kR t,O'.hp ke=some (.cells (df k bb g mo kR 0 1 (.sl N.length (N.flatMap mY) t) u2 l2 cv u3 l3 rv R)))/\Out U ke (O1.set ke (.cells (df k bb g mo st 0 1 lI u2 l2 cv u3 l3 rv R))) O') (g:=76) (xs:=[.ptr (O.N+1) 0,.ptr (O.N+2) 0,.ptr O.N 0]) cA rfl rfl (by kernel_rfl) (by rw[gL];exact adJ (by show ke<O1.N;omega) BR (ρ _ _ _) (al2.mv (Zk _) fun i hi=>π _ _ fun e=>BR (e▸hi)) hS hr (ve (by omega) cD) (ve (by omega) eS) (ve (by omega) cz) (by show O.N+1<O1.N;omega) (by show O.N+2<O1.N;omega) (by show O.N<O1.N;omega) (hU _ (by omega)) (hU _ (by omega)) (hU _ (by omega))) (fun O' Cd=>?_)) ?_
 ·obtain⟨⟨kR,t,h⟩,_⟩:=Cd;exact⟨_,h,rfl,rfl⟩
 rintro m O2 ⟨OX,cs',⟨⟨kR,t,yb⟩,hnX,hfX⟩,gq,e2⟩;rw[yb]at gq;injection gq with gq;injection gq with gq
 subst gq;have mC:((df k bb g mo kR 0 1 (.sl N.length (N.flatMap mY) t) u2 l2 cv u3 l3 rv R).set 7 (.v (.int .u32 1))).set (7+1) (.v (.int .i32 0))=df k bb g mo kR 1 0 (.sl N.length (N.flatMap mY) t) u2 l2 cv u3 l3 rv R:=rfl;rw[mC]at e2;have bM:O2.hp ke=some (.cells (df k bb g mo kR 1 0 (.sl N.length (N.flatMap mY) t) u2 l2 cv u3 l3 rv R)):=by rw[e2];exact ρ _ _ _
 have kY:∀j,¬U j->j≠ke->j<O1.N->O2.hp j=O1.hp j:=fun j h1 h2 h3=>by
  rw[e2,π _ _ h2,hfX j h1 h2 h3];exact π _ _ h2
 have eZ:O1.N<=O2.N:=by rw[e2];exact hnX
 clear e2 hfX hnX yb gL mC ve;have fj:=(kY O.N (hU _ (by omega)) (by omega) (by omega)).trans cz;have iM:=(kY (O.N+3) (hU _ (by omega)) (by omega) (by omega)).trans n7;have w9:=bM;simp only[df,aq]at w9;refine ab @bk ?_;refine θ (cR @bk @fj @w9 @iM ?_);refine ν @bk ?_;exact⟨kR,t,rfl,bM,by show O.N<=O2.N;omega,fun j h1 h2 h3=>by rw[π _ _ (by omega),kY j h1 h2 (by omega)];exact aI.hp j h3⟩
theorem adK {O:VH} {ke k bb:Nat} {g:Gv} {mo st l1 u2 l2 u3 l3:Int} {cv rv:MV} {R:List MV} {n:Nat} {cs:List MV} {tk:Tok} (g0:FuncId) (xs:List MV) (fQ:ke<O.N) (hk:O.hp ke=some (.cells (df k bb g mo st 1 l1 (.sl n cs tk) u2 l2 cv u3 l3 rv R))):
  VF Tryz.prog 62 [.ptr ke 7,.ptr ke 6,.func (.func g0) xs []] O (aD fun m O'=>m= .agg (.sl n cs tk::nH ik)/\O.Ge O'):=by
 refine υ 16 [.cell 6 112] Tryz.func62 ?_;refine κ @bk ?_;refine VC.gen ?_;intro O1 e1;obtain⟨aI,cW,cz,cD,eS,n7⟩:=F6 _ _ _ _ e1;clear e1;have cA:=aI.at hk;refine ξ @bk @cz ?_;refine ah.rt (abK _ _ (x:=1) (by decide) cA rfl) ?_;rintro m O2 e2;rw[e2];clear e2 O2
 have qp:=cA;simp only[df,aq]at qp;refine ab @bk ?_;refine θ (cR @bk @cz @qp @n7 ?_);refine ν @bk ?_;exact⟨rfl,aI.set (by omega) _⟩
theorem af5 {O:VH} {U:Nat->Prop} {ke k bb md:Nat} {S:List (Gv×List Dp)} {g:Gv} {mo st u2 l2 u3 l3:Int} {cv rv:MV} {R:List MV} {N:List Br} (fQ:ke<O.N) (BR:¬U ke) (hk:O.hp ke=some (.cells (df k bb g mo st 0 0 lI u2 l2 cv u3 l3 rv R))) (hc:CB O U k bb md S) (hS:Plain S) (hr:zY (iO S) g=some (some N)):
  VF Tryz.prog 39 [.ptr ke 0] O (aD fun m O'=>m= .agg (nH ik)/\∃kR t,O'.hp ke=some (.cells (df k bb g mo kR 1 0 (.sl N.length (N.flatMap mY) t) u2 l2 cv u3 l3 rv R))/\Out U ke O O'):=by
 have eh:=hc.lt;refine υ 16 [.cell 2 110] Tryz.func39 ?_;refine κ @bk ?_;refine VC.bx ?_;rintro O1 ⟨aI,eP,cW⟩;have cA:=aI.at hk;have hU:¬U O.N:=fun h2=>by have:=eh _ h2;omega
 refine κ @bk ?_;refine χ ?_;refine WC.bP (.any) [(0,.ar),(1,.ar),(2,.ar),(3,.ar),(4,.ar),(5,.ar),(6,.ar),(7,.ar),(8,.one),(9,.ar),(10,.one)] ?_;refine ab @bk ?_;refine ah.rt (af4 (by omega) BR cA (hc.ge aI) hS hr) ?_;rintro m O2 ⟨kR,t,rfl,bM,eZ,kY⟩;have jb:=(kY O.N hU (by omega) (by omega)).trans eP;simp only[nH,ik,aq];refine ao @bk @jb ?_;refine ν @bk ?_;exact⟨kR,t,bM,by show O.N<=O2.N;omega,fun j h1 h2 h3=>by rw[π _ _ (by omega),kY j h1 h2 (by omega)];exact aI.hp j h3⟩
section
variable {O:VH} {ke k bb:Nat} {g:Gv} {mo st l1 u2 l2 u3 l3:Int} {cv rv:MV} {R:List MV} {n:Nat} {cs:List MV} {tk:Tok}
theorem Vm (fQ:ke<O.N) (hk:O.hp ke=some (.cells (df k bb g mo st 1 l1 (.sl n cs tk) u2 l2 cv u3 l3 rv R))):VF Tryz.prog 66 [.ptr ke 0] O (aD fun m O'=>m= .sl n cs tk/\O.Ge O'):=by
 refine υ 13 [.tmp 2] Tryz.func66 ?_;refine κ @bk ?_;refine χ ?_;refine WC.bP (.any) [(0,.ar),(1,.ar),(2,.ar),(3,.ar),(4,.ar),(5,.ar),(6,.ar),(7,.ar),(8,.one),(9,.ar),(10,.ar)] ?_;refine ab @bk ?_;refine ah.rt (adK _ [.ptr ke 0] (by omega) hk) ?_;rintro m O2 ⟨rfl,aB⟩;simp only[nH,ik,aq];refine ab @bk ?_;refine ν @bk ?_;exact aB
end
section
variable {O:VH} {ke k bb:Nat} {g:Gv} {mo st l1 u2 l2 u3 l3:Int} {cv rv:MV} {R:List MV} {tk:Tok} {L:List Bn}
def Keys (L:List Bn):Prop:=∀b∈L,∀s∈cQ b.k,s.length<=maxLen
theorem af6 (hL:L.length<=100000) (yf:Keys L) (fQ:ke<O.N) (hk:O.hp ke=some (.cells (df k bb g mo st 1 l1 (.sl L.length (L.flatMap eB) tk) u2 l2 cv u3 l3 rv R))):VF Tryz.prog 80 [.ptr ke 0] O (aD fun m O'=>(∃t,m= .sl (cO L).length ((cO L).flatMap fz) t)/\O.Ge O'):=by
 refine υ 6 [.tmp 2] Tryz.func80 ?_;refine κ @bk ?_;refine κ @bk ?_;refine ah.rt (Vm fQ hk) ?_;rintro m O1 ⟨rfl,aI⟩;refine ab @bk ?_;refine ah.rt (Th L tk O1 (by omega) yf) ?_;rintro _ O2 ⟨⟨t,rfl⟩,aB⟩;refine ab @bk ?_;refine ν @bk ?_;exact⟨⟨t,rfl⟩,aI.trans aB⟩
theorem adL {bs br bp:Nat} (hL:L.length<=100000) (yf:Keys L) (fQ:ke<O.N) (hk:O.hp ke=some (.cells (df k bb g mo st 1 l1 (.sl L.length (L.flatMap eB) tk) u2 l2 cv u3 l3 rv R)))
  (hs:O.hp bs=some (.cells [.ptr ke 6])) (Tp:O.hp br=some (.cells [.func (.func 80) [.ptr ke 0] []])) (hp:O.hp bp=some (.cells [.ptr ke 19])) (h1:bs<O.N) (h2:br<O.N) (h3:bp<O.N):
  VF Tryz.prog 95 [.ptr bs 0,.ptr br 0,.ptr bp 0] O (aD fun _ O'=>(∃kR t,O'.hp ke=some (.cells (df k bb g mo kR 1 l1 (.sl L.length (L.flatMap eB) tk) u2 l2 (.sl (cO L).length ((cO L).flatMap fz) t) u3 l3 rv R)))/\bz O (some ke) O'):=by
 have e1:br≠ke:=fun e=>by rw[e,hk]at Tp;cases Tp
 have e2:bp≠ke:=fun e=>by rw[e,hk]at hp;cases hp
 have qp:=hk;simp only[df,aq]at qp;refine υ 10 [] Tryz.func95 ?_;refine ξ @bk @hs ?_;refine ah.rt (wK 1 qp rfl) ?_;rintro m O1 ⟨rfl,L6⟩;have cA:O1.hp ke=some (.cells (df k bb g mo (IntKind.i64.wrap (st+1)) 1 l1 (.sl L.length (L.flatMap eB) tk) u2 l2 cv u3 l3 rv R)):=by rw[L6];exact ρ _ _ _
 have cW:O1.N=O.N:=by rw[L6];rfl
 have ou:∀i,i≠ke->O1.hp i=O.hp i:=fun i hi=>by rw[L6];exact π _ _ hi
 clear L6;have kA:=(ou br e1).trans Tp;have lJ:=(ou bp e2).trans hp;generalize IntKind.i64.wrap (st+1)=Gz at*;refine ab @bk ?_;have kh:=af6 hL yf (by omega) cA;refine VC.qO [3,4,5] (fun O'=>O'.hp ke=some (.cells (df k bb g mo Gz 1 l1 (.sl L.length (L.flatMap eB) tk) u2 l2 cv u3 l3 rv R))/\O'.hp bp=O1.hp bp/\O'.hp br=O1.hp br) (⟨cA,rfl,rfl⟩) ?_;rw[lJ,kA];refine Ω (m:=.ptr ke 19) 0 ?_ ?_
 ·rintro O2 ⟨j1,j2,j3⟩;exact dX @bk @j2
 simp only[ak];have JX:ef Tryz.t134.desc=false:=rfl;refine ae.op (i:=1) ?_;refine aG @bk @kA @JX ?_;refine⟨(by first | exact⟨cA,lJ,kA⟩ | exact⟨cA,lJ⟩ | exact cA),?_⟩;refine ae.adI (i:=2) kh ?_;rintro m O2 ⟨⟨t,rfl⟩,aB⟩;simp only[ak];have bM:=aB.at cA;refine⟨⟨bM,aB.at lJ,aB.at kA⟩,?_⟩;refine ae.bP [(3,.ar),(4,.ar),(5,.one)] ?_;have w9:=bM;simp only[df,aq]at w9;refine ao @bk @w9 ?_;have eZ:=aB.N;refine⟨⟨Gz,t,rfl⟩,by show O.N<=O2.N;omega,fun j h3 h2=>?_⟩;have NN:j≠ke:=fun e=>h2 (by rw[e])
 rw[π _ _ NN,aB.hp j (by omega)];exact ou j NN
theorem af7 (hL:L.length<=100000) (yf:Keys L) (fQ:ke<O.N) (hk:O.hp ke=some (.cells (df k bb g mo st 1 l1 (.sl L.length (L.flatMap eB) tk) 0 0 cv u3 l3 rv R))):
  VF Tryz.prog 79 [.ptr ke 19,.ptr ke 6,.func (.func 80) [.ptr ke 0] []] O (aD fun m O'=>∃kR t,m= .sl (cO L).length ((cO L).flatMap fz) t/\O'.hp ke=some (.cells (df k bb g mo kR 1 l1 (.sl L.length (L.flatMap eB) tk) 1 0 (.sl (cO L).length ((cO L).flatMap fz) t) u3 l3 rv R))/\bz O (some ke) O'):=by
 have JX:ef Tryz.t134.desc=false:=rfl;refine υ 16 [.tmp 6] Tryz.func79 ?_;refine κ @bk ?_;refine VC.gen ?_;intro O1 e1;obtain⟨aI,cW,cz,cD,eS⟩:=lx _ _ _ e1;clear e1;have cA:=aI.at hk;refine ξ @bk @cz ?_;have gL:(df k bb g mo st 1 l1 (.sl L.length (L.flatMap eB) tk) 0 0 cv u3 l3 rv R).set (19+1) (.v (.int .i32 1))=df k bb g mo st 1 l1 (.sl L.length (L.flatMap eB) tk) 0 1 cv u3 l3 rv R:=rfl;have ve:∀{i:Nat} {y:Option cg},i≠ke->O1.hp i=y->(O1.set ke (.cells (df k bb g mo st 1 l1 (.sl L.length (L.flatMap eB) tk) 0 1 cv u3 l3 rv R))).hp i=y:=fun hi hy=>(π _ _ hi).trans hy
 refine ah.rt (abJ (off:=19) (Φ :=fun O'=>(∃kR t,O'.hp ke=some (.cells (df k bb g mo kR 1 l1 (.sl L.length (L.flatMap eB) tk) 0 1 (.sl (cO L).length ((cO L).flatMap fz) t) u3 l3 rv R)))/\bz (O1.set ke (.cells (df k bb g mo st 1 l1 (.sl L.length (L.flatMap eB) tk) 0 1 cv u3 l3 rv R))) (some ke) O') (g:=95) (xs:=[.ptr (O.N+1) 0,.ptr (O.N+2) 0,.ptr O.N 0]) cA rfl rfl (by kernel_rfl) (by rw[gL];exact adL hL yf (by show ke<O1.N;omega) (ρ _ _ _) (ve (by omega) cD) (ve (by omega) eS) (ve (by omega) cz) (by show O.N+1<O1.N;omega) (by show O.N+2<O1.N;omega) (by show O.N<O1.N;omega)) (fun O' Cd=>?_)) ?_
 ·obtain⟨⟨kR,t,h⟩,_⟩:=Cd;exact⟨_,h,rfl,rfl⟩
 rintro m O2 ⟨OX,cs',⟨⟨kR,t,yb⟩,huX⟩,gq,e2⟩;rw[yb]at gq;injection gq with gq;injection gq with gq
 subst gq;have mC:((df k bb g mo kR 1 l1 (.sl L.length (L.flatMap eB) tk) 0 1 (.sl (cO L).length ((cO L).flatMap fz) t) u3 l3 rv R).set 19 (.v (.int .u32 1))).set (19+1) (.v (.int .i32 0))=df k bb g mo kR 1 l1 (.sl L.length (L.flatMap eB) tk) 1 0 (.sl (cO L).length ((cO L).flatMap fz) t) u3 l3 rv R:=rfl;rw[mC]at e2;have bM:O2.hp ke=some (.cells (df k bb g mo kR 1 l1 (.sl L.length (L.flatMap eB) tk) 1 0 (.sl (cO L).length ((cO L).flatMap fz) t) u3 l3 rv R)):=by rw[e2];exact ρ _ _ _
 have c8:bz O1 (some ke) O2:=by rw[e2];exact(bz.set.trans huX).trans bz.set
 clear e2 huX yb gL mC ve;have eZ:=c8.N;have fj:=(c8.hp O.N (by omega) (fun e=>by injection e with e;omega)).trans cz;have w9:=bM;simp only[df,aq]at w9;refine ab @bk ?_;refine θ (aG @bk @fj @w9 ?_);refine ν @bk ?_;exact⟨kR,t,rfl,bM,(bz.lp aI).any.trans c8⟩
theorem adM {n:Nat} {cs:List MV} {tc:Tok} (g0:FuncId) (xs:List MV) (fQ:ke<O.N) (hk:O.hp ke=some (.cells (df k bb g mo st 1 l1 (.sl L.length (L.flatMap eB) tk) 1 l2 (.sl n cs tc) u3 l3 rv R))):
  VF Tryz.prog 79 [.ptr ke 19,.ptr ke 6,.func (.func g0) xs []] O (aD fun m O'=>m= .sl n cs tc/\O.Ge O'):=by
 refine υ 16 [.tmp 6] Tryz.func79 ?_;refine κ @bk ?_;refine VC.gen ?_;intro O1 e1;obtain⟨aI,cW,cz,cD,eS⟩:=lx _ _ _ e1;clear e1;have cA:=aI.at hk;refine ξ @bk @cz ?_;refine ah.rt (abK _ _ (x:=1) (by decide) cA rfl) ?_;rintro m O2 e2;rw[e2];clear e2 O2
 have qp:=cA;simp only[df,aq]at qp;refine ab @bk ?_;refine θ (aG @bk @cz @qp ?_);refine ν @bk ?_;exact aI
theorem adN (X:List Ch):c7 (X.flatMap fz)=X.flatMap fz:=j9 (fun x=>by simp only[fz,aq,wu]) X
theorem JT (L:List Ch) (tk:Tok) (O:VH) (hn:L.length<=100000):VF Tryz.prog 64 [.sl L.length (L.flatMap fz) tk] O (aD fun m O'=>(∃t,m= .sl L.length (L.flatMap fz) t)/\O.Ge O'):=by
 have dH:=aV jR L;refine Δ 8 [.tmp 2] Tryz.func64 ?_;refine ao @bk @ns ?_;refine VL.pE (o_ Tryz.underlying23 rfl) ?_;rintro _ O1 ⟨eO,b,rfl,hb⟩;rw[eO];clear eO O1
 refine WL.sound aa ?_;cases b
 ·refine ab @bk ?_;by_cases h0:L.length=0
  ·have hL:L=[]:=List.eq_nil_of_length_eq_zero h0;subst hL;refine VL.app (m:=.sl 0 [] .full) (O':=O) (by simp[iy,FC,Xk.1.1]) ?_ (ht:=aa) (hx:=rfl) (hy:=rfl);refine ab @bk ?_;exact⟨⟨.full,rfl⟩,VH.Ge.refl _⟩
  ·have iz:(L.flatMap fz).all ec=true:=by
    rw[List.all_flatMap,List.all_eq_true];intro p _;rfl
   have j5:=aR (tk:=.full) (tk':=tk) (B:=O.N) (n:=0) (k:=L.length) (cs:=[]) (ds:=L.flatMap fz) FC Xk.1.1 (O:=O) trivial rfl dH iz (by decide) h0 (by omega) (by simp[maxLen];omega);rw[Nat.zero_add,List.nil_append]at j5;refine η j5 (by rw[qy,adN]) ?_;refine ab @bk ?_;exact⟨⟨_,rfl⟩,b_.B9 (tk:=.full) (sz:=7) trivial (b_.after (sz:=7) (B:=0) trivial)⟩
 ·obtain⟨h0,h1⟩:=hb rfl;rw[h0,h1];refine ab @bk ?_;exact⟨⟨.nil,rfl⟩,VH.Ge.refl _⟩
theorem af8 (hL:L.length<=100000) (hX:(cO L).length<=100000) (yf:Keys L) (fQ:ke<O.N) (hk:O.hp ke=some (.cells (df k bb g mo st 1 l1 (.sl L.length (L.flatMap eB) tk) 0 0 cv u3 l3 rv R))):
  VF Tryz.prog 40 [.ptr ke 0] O (aD fun m O'=>(∃t,m= .sl (cO L).length ((cO L).flatMap fz) t)/\∃kR t,O'.hp ke=some (.cells (df k bb g mo kR 1 l1 (.sl L.length (L.flatMap eB) tk) 1 0 (.sl (cO L).length ((cO L).flatMap fz) t) u3 l3 rv R))/\bz O (some ke) O'):=by
 have rD:VF Tryz.prog 65 [.ptr ke 0] O (aD fun m O'=>∃kR t,m= .sl (cO L).length ((cO L).flatMap fz) t/\O'.hp ke=some (.cells (df k bb g mo kR 1 l1 (.sl L.length (L.flatMap eB) tk) 1 0 (.sl (cO L).length ((cO L).flatMap fz) t) u3 l3 rv R))/\bz O (some ke) O'):=by
  refine υ 12 [.tmp 2] Tryz.func65 ?_;refine κ @bk ?_;refine χ ?_;refine WC.bP (.any) [(0,.ar),(1,.ar),(2,.ar),(3,.ar),(4,.ar),(5,.ar),(6,.ar),(7,.ar),(8,.one),(9,.ar)] ?_;refine ab @bk ?_;refine ah.rt (af7 hL yf fQ hk) ?_;rintro m O2 ⟨kR,t,rfl,h1,h2⟩;refine ab @bk ?_;refine ν @bk ?_;exact⟨kR,t,rfl,h1,h2⟩
 refine υ 8 [.tmp 2] Tryz.func40 ?_;refine κ @bk ?_;refine κ @bk ?_;refine κ @bk ?_;refine ah.rt rD ?_;rintro m O1 ⟨kR,t,rfl,h1,h2⟩;have cW:=h2.N;refine ab @bk ?_;refine ah.rt (JT _ t O1 hX) ?_;rintro _ O2 ⟨⟨t2,rfl⟩,aB⟩;refine ab @bk ?_;refine ν @bk ?_;exact⟨⟨t2,rfl⟩,kR,t,aB.at h1,h2.trans (bz.lp aB).any⟩
theorem adO {X:List Ch} {tc:Tok} (hX:X.length<=100000) (fQ:ke<O.N) (hk:O.hp ke=some (.cells (df k bb g mo st 1 l1 (.sl L.length (L.flatMap eB) tk) 1 l2 (.sl X.length (X.flatMap fz) tc) u3 l3 rv R))):
  VF Tryz.prog 40 [.ptr ke 0] O (aD fun m O'=>(∃t,m= .sl X.length (X.flatMap fz) t)/\O.Ge O'):=by
 have rD:VF Tryz.prog 65 [.ptr ke 0] O (aD fun m O'=>m= .sl X.length (X.flatMap fz) tc/\O.Ge O'):=by
  refine υ 12 [.tmp 2] Tryz.func65 ?_;refine κ @bk ?_;refine χ ?_;refine WC.bP (.any) [(0,.ar),(1,.ar),(2,.ar),(3,.ar),(4,.ar),(5,.ar),(6,.ar),(7,.ar),(8,.one),(9,.ar)] ?_;refine ab @bk ?_;refine ah.rt (adM _ [.ptr ke 0] fQ hk) ?_;rintro m O2 ⟨rfl,h2⟩;refine ab @bk ?_;refine ν @bk ?_;exact h2
 refine υ 8 [.tmp 2] Tryz.func40 ?_;refine κ @bk ?_;refine κ @bk ?_;refine κ @bk ?_;refine ah.rt rD ?_;rintro m O1 ⟨rfl,aI⟩;refine ab @bk ?_;refine ah.rt (JT _ tc O1 hX) ?_;rintro _ O2 ⟨⟨t2,rfl⟩,aB⟩;refine ab @bk ?_;refine ν @bk ?_;exact⟨⟨t2,rfl⟩,aI.trans aB⟩
theorem af9 (hd:Bool) (v:Bs) (tk:Tok) (O:VH):VF Tryz.prog 67 [.agg [mb hd,.str v,.sl 0 [] tk]] O (aD fun m O'=>m= .agg [mb hd,.str v,.sl 0 [] .au]/\O.Ge O'):=by
 have ia:=fun O'=>GD tk O'
 rw[bw];refine υ 8 [.cell 2 46] Tryz.func67 ?_;refine κ @bk ?_;refine VC.gen ?_;intro O1 e1;obtain⟨aI,cW,cz,cD⟩:=hY _ _ e1;clear e1;refine ξ @bk @cz ?_;refine ah.rt (ia O1) ?_;rintro m O2 ⟨rfl,e2⟩;rw[e2];clear e2 O2
 refine ao @bk @cz ?_;refine VC.gen ?_;intro O3 e3;have aH:O.Ge O3:=by rw[e3];exact aI.set (Zk _) _
 have jv:O3.hp O.N=some (.cells [.v (.bool hd),.str v,.sl 0 [] .au]):=by rw[e3];exact ρ _ _ _
 have cB:O3.hp (O.N+1)=O1.hp (O.N+1):=by rw[e3];exact π _ _ (by omega)
 have UO:=cB.trans cD;clear e3 cB;refine θ (aG @bk @jv @UO ?_);refine ν @bk ?_;exact aH.set (by omega) _
def Flat (L:List Bn):Prop:=∀b∈L,b.n=0/\b.iv=[]/\b.tk= .au
set_option maxHeartbeats 4000000 in
theorem Qh (hL:L.length<=100000) (hF:Flat L) (fQ:ke<O.N) (hk:O.hp ke=some (.cells (df k bb g mo st 1 l1 (.sl L.length (L.flatMap eB) tk) u2 l2 cv u3 l3 rv R))):
  VF Tryz.prog 41 [.ptr ke 0] O (aD fun m O'=>(∃t,m= .sl L.length (L.flatMap eB) t)/\O.Ge O'):=by
 have hlen:=aV jg L;have ib:dy (bY Tryz.prog) 22 (.sl L.length (L.flatMap eB) tk)=some (.v (.int .i64 L.length)):=bR B6;refine υ 24 [.tmp 2] Tryz.func41 ?_;refine κ @bk ?_;refine κ @bk ?_;refine Θ [2] (fun t:Tok=>[.sl L.length (L.flatMap eB) t]) (fun _ O'=>O.Ge O') ?_ ?_
 ·refine κ @bk ?_;refine ah.rt (Vm fQ hk) ?_;rintro m O1 ⟨rfl,aI⟩;refine ao @bk @ib ?_;refine τ ?_;refine Γ [2,10] [8,9] (fun x:Nat×Tok=>[.sl x.1 ((L.take x.1).flatMap eB) x.2,mi x.1]) (fun x O'=>x.1<=L.length/\O.Ge O'/\App O' O.N 13 x.2) (fun x=>L.length - x.1) ((0,.nil)) ?_ ?_
  ·exact⟨Qn _,aI,trivial⟩
  rintro⟨j,t1⟩ O3 ⟨hj,aH,jv⟩;dsimp only at hj jv ⊢;by_cases aM:j<L.length;rotate_left
  ·obtain rfl:j=L.length:=by omega
   rw[adX];refine ν @bk ?_;exact aA.mk t1 aH
  have cI:((j:Int)+1)=((j+1:Nat):Int):=by omega
  have bG:=ct jg L j aM;have k8:=hF L[j] (adY aM);have dh:(L.take (j+1)).flatMap eB=(L.take j).flatMap eB++eB L[j]:=by rw[<-adZ aM,anb];simp
  have dH:((L.take j).flatMap eB).length=j*13:=by rw[aV jg,ahN,ajq hj]
  generalize (L.take j).flatMap eB=P at*;generalize L[j]=b at*;obtain⟨up,dp,od,⟨q1,q2,q3,q4⟩,bv,hd,rv,nn,iv,LH,bs,rd⟩:=b;obtain⟨rfl,rfl,rfl⟩:=k8;simp only[eB,aq,bw]at bG dh;have how:=fun O'=>af9 hd rv .au O'
  rw[bw]at how;refine κ @bk ?_;refine κ @bk ?_;refine χ (τ ?_);refine ξ @bk @bG ?_;refine VC.al ?_;rintro O4 ⟨aY,jo,gO⟩;refine ξ @bk @jo ?_;refine ah.rt (how O4) ?_;rintro _ O5 ⟨rfl,bD⟩;have mD:=bD.at jo;have eU:=bD.N;refine ao @bk @mD ?_;refine VC.gen ?_;intro O6 e6;have nI:O6.hp O3.N=some (.cells [.v (.int .i64 up),.v (.int .i64 dp),.v (.int .i64 od),.str q1,.str q2,.str q3,.str q4,.str bv,.v (.bool hd),.str rv,.sl 0 [] .au,.v (.int .i64 bs),.v (.bool rd)]):=by rw[e6];exact ρ _ _ _
  have NP:O3.Ge O6:=by rw[e6];exact(aY.trans bD).set (Zk _) _
  have mU:O6.N=O5.N:=by rw[e6];rfl
  clear e6;have o5:=aH.trans NP;have cf:=jv.ge NP;have ji:=aR (tk:=t1) (tk':=.full) (n:=j) (k:=1) (cs:=P) (ds:=[.v (.int .i64 up),.v (.int .i64 dp),.v (.int .i64 od),.str q1,.str q2,.str q3,.str q4,.str bv,.v (.bool hd),.str rv,.sl 0 [] .au,.v (.int .i64 bs),.v (.bool rd)]) B6 Xl.1.1 cf dH rfl rfl (by decide) (by decide) (by omega) (by simp only[maxLen];omega);refine ο @bk @nI ?_;refine VL.app ji ?_;refine ab @bk ?_;refine ο @bk @cI ?_;exact az.N (j+1,.own O6.N 13) ⟨aM,b_.en o5 cf (b_.after cf),App.after o5.N⟩ (hl:=by dsimp only;rw[dh];rfl)
 rintro t O9 bj;refine κ @bk ?_;refine ν @bk ?_;exact⟨⟨t,rfl⟩,bj⟩
end
set_option linter.defProp false in
def bO:=Vq bk<|Vq dC<|Vq T65<|Vq T62 T68
def Qi (c:Ch):List MV:=[.str c.k.g,.str c.k.a,.str c.k.t,.str c.k.c,.str c.v]
theorem Vn (c:Ch) (O:VH):VF Tryz.prog 42 [.agg (fz c)] O (aD fun m O'=>m= .agg (Qi c)/\O.Ge O'):=by
 obtain⟨⟨k1,k2,k3,k4⟩,at',v,s⟩:=c;simp only[fz,Qi,aq];refine υ 8 [.cell 2 68] Tryz.func42 ?_;refine κ @bO ?_;refine VC.gen ?_;intro O1 e1;obtain⟨aI,cW,cz,cD⟩:=hY _ _ e1;clear e1;refine θ (aG @bO @cz @cD ?_);refine ν @bO ?_;exact aI.set (by omega) _
def l9 (X:List Ch) (L:List Bn):List (List Int):=(List.range X.length).map (gF X L L.length)
theorem pq (X:List Ch) (L:List Bn):(l9 X L).length=X.length:=by simp[l9]
theorem BT (X:List Ch) (L:List Bn) (T:Nat->Tok):c5 X.length (gF X L L.length) T=di (l9 X L) T:=Qd _ _ _
theorem tE (X:List Ch) (L:List Bn) (a:Int):∀(j:Nat) (x:Int),x∈po X L a j->∃k:Nat,x=k/\k<X.length
 | 0,x,h=>by cases h
 | j+1,x,h=>by
   rw[po]at h;split at h
   ·split at h
    ·split at h
     ·rename_i k hk;unfold ry at h;split at h
      ·exact tE X L a j x h
      ·rcases ahM.1 h with h | h
       ·exact tE X L a j x h
       ·exact⟨k,ahJ.1 h,G_ hk⟩
     ·exact tE X L a j x h
    ·exact tE X L a j x h
   ·exact tE X L a j x h
theorem z_ {X:List Ch} {L:List Bn} (hX:X.length<=1000) (hL:L.length<=1000):Hh 1000 (l9 X L):=by
 refine⟨by rw[pq];exact hX,fun l hl=>?_⟩;obtain⟨u,_,rfl⟩:=ajr.1 hl;have:=L4 X L L.length u;omega
theorem Dy (X:List Ch) (L:List Bn):Hf (l9 X L):=by
 intro l hl x hx;obtain⟨u,hu,rfl⟩:=ajr.1 hl;unfold gF at hx;rw[zP (ajm.1 hu)]at hx;obtain⟨k,h1,h2⟩:=tE X L _ _ x hx;rw[pq];omega
theorem Dz (g:List (List Int)):∀(f:Nat) (d:Nat->Bool),∀w∈kX g f d,w.length<=g.length/\∀x∈w,∃i:Nat,x=i/\i<g.length
 | 0,d,w,h=>by cases h
 | f+1,d,w,h=>by
   rw[kX]at h;split at h
   ·cases h
   ·rcases ajl.1 h with rfl | h
    ·exact⟨oQ _ _,fun x hx=>by
      obtain⟨i,h1,h2,_⟩:=tC.1 hx;exact⟨i,h1,h2⟩⟩
    ·exact Dz g f _ w h
theorem DA (g:List (List Int)):∀(f:Nat) (d:Nat->Bool),(kX g f d).length<=f
 | 0,d=>Zk _
 | f+1,d=>by
   rw[kX];split
   ·exact Qn _
   ·rw[ahO];have:=DA g f (kx d (ky g d));omega
def su (X:List Ch) (k:Int):List MV:=match X[k.toNat]? with
 | some c=>Qi c
 | none=>[]
theorem L7 {X:List Ch} {k:Nat} {c:Ch} (h:X[k]?=some c):su X (k:Int)=Qi c:=by unfold su;rw[Int.toNat_natCast,h]
theorem Hl {X:List Ch}:∀{w:List Int},(∀x∈w,∃i:Nat,x=i/\i<X.length)->(w.flatMap (su X)).length=w.length*5
 | [],_=>rfl
 | x::w,h=>by
   obtain⟨i,rfl,hi⟩:=h x ajk;rw[List.flatMap_cons,Zj,L7 (zP hi),Hl fun y hy=>h y (agc _ hy),ahO];show 5+_=_;omega
def sw (X:List Ch) (W:List (List Int)) (T:Nat->Tok):List MV:=(List.range W.length).map fun u=>.sl (W.getD u []).length ((W.getD u []).flatMap (su X)) (T u)
theorem Tq (X:List Ch) (W:List (List Int)) (T:Nat->Tok):(sw X W T).length=W.length:=by simp[sw]
theorem Qj (X:List Ch) (W:List (List Int)) (T:Nat->Tok) (w:List Int) (t:Tok):sw X W T++[.sl w.length (w.flatMap (su X)) t]=sw X (W++[w]) (fun v=>if v=W.length then t else T v):=by
 unfold sw;rw[Zj,ajt,anu,ajp,List.map_singleton]
 congr 1
 ·refine ani fun u hu=>?_
  have:=ajm.1 hu;dsimp only;rw[if_neg (by omega),adW,adW,ann this]
 ·dsimp only;rw[if_pos rfl];simp
theorem L8 (W:List (List Int)) (n:Nat) (h:∀w∈W,w.length<=n):W.flatten.length<=W.length*n:=by
 induction W with
 | nil=>simp
 | cons w W ih=>
   rw[List.flatten_cons,Zj,ahO,Nat.succ_mul];have:=h w ajk;have:=ih fun x hx=>h x (agc _ hx)
   omega
theorem af_ (N:List Br):N.flatMap mY=(N.map bnB).flatMap eB:=by
 rw[List.flatMap_map];rfl
theorem Qk (N:List Br):Flat (N.map bnB):=fun b hb=>by
 obtain⟨x,_,rfl⟩:=ajr.1 hb;exact⟨rfl,rfl,rfl⟩
set_option maxHeartbeats 8000000 in
theorem al3 {O:VH} {U:Nat->Prop} {ke k bb md:Nat} {S:List (Gv×List Dp)} {g:Gv} {mo st u3 l3:Int} {cv rv:MV} {R:List MV} {N:List Br} {L:List Bn} {X:List Ch} (fQ:ke<O.N) (BR:¬U ke) (hk:O.hp ke=some (.cells (df k bb g mo st 0 0 lI 0 0 cv u3 l3 rv R))) (hc:CB O U k bb md S) (hS:Plain S) (hr:zY (iO S) g=some (some N))
  (hLN:L=N.map bnB) (hXL:X=cO L) (hL:L.length<=1000) (hX:X.length<=1000) (yf:Keys L) (yb:∀c∈X,∀s∈cQ c.k,s.length<=maxLen) {W:List (List Int)} (hW:W=kX (l9 X L) (X.length+1) fun _=>false):
  VF Tryz.prog 24 [.ptr ke 0] O (aD fun m O'=>(∃T t,m= .tuple [.sl W.length (sw X W T) t,mb (W.flatten.length==X.length)])/\ke<O'.N/\∃kR t1 t2,O'.hp ke=some (.cells (df k bb g mo kR 1 0 (.sl L.length (L.flatMap eB) t1) 1 0 (.sl X.length (X.flatMap fz) t2) u3 l3 rv R))):=by
 have hWm:∀w∈W,w.length<=X.length/\∀x∈w,∃i:Nat,x=i/\i<X.length:=fun w hw=>by
  have:=Dz (l9 X L) _ _ w (by rw[<-hW];exact hw)
  rwa [pq]at this
 have hWl:W.length<=1001:=by rw[hW];exact anq (DA _ _ _) (by omega)
 have k8:Flat L:=by rw[hLN];exact Qk N
 have R_:=af5 fQ BR hk hc hS hr;rw[af_, <-hLN,show N.length=L.length by rw[hLN,Ma]]at R_;simp only[nH,ik,aq]at R_;refine υ 56 [.tmp 2,.tmp 3] Tryz.func24 ?_;refine κ @bO ?_;refine κ @bO ?_;refine ah.rt R_ ?_;rintro _ O1 ⟨rfl,Gz,t1,cA,cW,_⟩;clear R_;refine ab @bO ?_;refine VL.B3 aa (bb:=false) (b:=true) (by simp) (by simp[iB]) (.inr ⟨rfl,rfl⟩) (by kernel_rfl) (by kernel_rfl) rfl rfl rfl rfl ?_;refine ab @bO ?_;have rD:=af8 (L:=L) (by omega) (by rw[<-hXL];omega) yf (show ke<O1.N by omega) cA;rw[<-hXL]at rD;refine κ @bO ?_;refine ah.rt rD ?_;rintro _ O2 ⟨⟨t2,rfl⟩,st2,t3,bM,c8⟩;clear rD;have eZ:=c8.N;refine ab @bO ?_;refine κ @bO ?_;have Lk:=Qh (L:=L) (by omega) k8 (show ke<O2.N by omega) bM;refine Θ [2,4,5] (fun x:(Nat->Tok)×Tok=>[.sl W.length (sw X W x.1) x.2,.sl X.length (X.flatMap fz) t2,mi W.flatten.length]) (fun _ O'=>ke<O'.N/\O'.hp ke=some (.cells (df k bb g mo st2 1 0 (.sl L.length (L.flatMap eB) t1) 1 0 (.sl X.length (X.flatMap fz) t3) u3 l3 rv R))) ?_ ?_
 ·refine κ @bO ?_;refine ah.rt Lk ?_;rintro _ O3 ⟨⟨t4,rfl⟩,aH⟩;clear Lk;refine ab @bO ?_;refine ah.rt (Hc L X t4 t2 hL hX yf yb O3) ?_;rintro _ O4 ⟨⟨T5,t5,rfl⟩,aY⟩;have rC:=adG (l9 X L) T5 t5 O4 ⟨(z_ hX hL).1,fun l hl=>anq ((z_ hX hL).2 l hl) (by decide)⟩;rw[<-BT,pq,(nB _).2 (Dy X L), <-hW]at rC;generalize c5 X.length (gF X L L.length) T5=GG at*;refine ab @bO ?_;refine ah.rt rC ?_;rintro m O5 ⟨bD,hm⟩
  obtain⟨T6,t6,rfl⟩:∃T' t,m= .sl W.length (di W T') t:=by
   rcases hm with⟨_,h⟩ | ⟨h,_⟩
   ·exact h
   ·cases h
  clear hm rC;have hvW:dy (bY Tryz.prog) 25 (.sl W.length (di W T6) t6)=some (.v (.int .i64 W.length)):=bR AN;have hgW:=fun u h=>tB W T6 (u:=u) h
  have hWr:=oP W T6;generalize di W T6=RW at*;refine ao @bO @hvW ?_;have Dr:=(aH.trans aY).trans bD;have gK:=Dr.at bM;have eU:=Dr.N;refine τ ?_;refine Γ [2,5,23] [4,21,22] (fun s:Nat×(Nat->Tok)×Tok=>[.sl s.1 (sw X (W.take s.1) s.2.1) s.2.2,mi (W.take s.1).flatten.length,mi s.1]) (fun s O'=>s.1<=W.length/\O5.Ge O'/\App O' O5.N 1 s.2.2) (fun s=>W.length - s.1) ((0,(fun _=>.nil),.nil)) ?_ ?_
  ·exact⟨Qn _,VH.Ge.refl _,trivial⟩
  rintro⟨i,T7,t7⟩ O6 ⟨hi,fi,oa⟩;dsimp only at hi oa ⊢;by_cases ei:i<W.length;rotate_left
  ·obtain rfl:i=W.length:=by omega
   rw[adX];refine ν @bO ?_;exact aA.mk (T7,t7) ⟨by have:=fi.N;omega,fi.at gK⟩
  have ou:((i:Int)+1)=((i+1:Nat):Int):=by omega
  have bG:=hgW i ei;have dh:W.take (i+1)=W.take i++[W[i]]:=by rw[adZ ei]
  obtain⟨oI,H_⟩:=hWm W[i] (adY ei);have gY:=fun t=>Qj X (W.take i) T7 W[i] t
  rw[<-dh]at gY;have hri:=Tq X (W.take i) T7;rw[ahN,ajq hi]at hri gY;have al4:(W.take (i+1)).flatten.length=(W.take i).flatten.length+W[i].length:=by rw[dh,List.flatten_append,Zj];simp
  have al5:=L8 (W.take i) X.length fun w hw=>(hWm w (ajv hw)).1
  rw[ahN,ajq hi]at al5;have am3:i*X.length<=1001*1000:=Nat.mul_le_mul (by omega) hX;generalize (W.take i).flatten.length=nf at*;generalize sw X (W.take i) T7=RI at*;generalize W[i]=w at*;have hvw:dy (bY Tryz.prog) 29 (.sl w.length (w.map mi) (T6 i))=some (.v (.int .i64 w.length)):=bR lN;have adH:(w.map mi).length=w.length:=Ma _;have hgw:∀(j:Nat) (y:Int),w[j]?=some y->(w.map mi)[j]?=some (MV.v (.int .i64 y)):=fun j y h=>by rw[Qm,h];rfl
  generalize w.map mi=WM at*;refine κ @bO ?_;refine κ @bO ?_;refine χ (τ ?_);refine θ (aG @bO @bG @hWr ?_);refine κ @bO ?_;refine Θ [2,4,5,8,21,22,23] (fun t:Tok=>[.sl i RI t7,.sl X.length (X.flatMap fz) t2,mi nf,.sl w.length (w.flatMap (su X)) t,.sl W.length RW t6,mi W.length,mi i]) (fun _ O'=>O6.Ge O') ?_ ?_
  ·refine ξ @bO @hvw ?_;refine τ ?_;refine Γ [8,29] [2,4,5,21,22,23,27,28] (fun s:Nat×Tok=>[.sl s.1 ((w.take s.1).flatMap (su X)) s.2,mi s.1]) (fun s O'=>s.1<=w.length/\O6.Ge O'/\App O' O6.N 5 s.2) (fun s=>w.length - s.1) ((0,.nil)) ?_ ?_
   ·exact⟨Qn _,VH.Ge.refl _,trivial⟩
   rintro⟨j,t8⟩ O7 ⟨hj,eV,uv⟩;dsimp only at hj uv ⊢;by_cases aM:j<w.length;rotate_left
   ·obtain rfl:j=w.length:=by omega
    rw[adX];refine ν @bO ?_;exact aA.mk t8 eV
   have cI:((j:Int)+1)=((j+1:Nat):Int):=by omega
   have Hk:w[j]?=some w[j]:=zP aM;obtain⟨c,eS,iH⟩:=H_ w[j] (adY aM);rw[eS]at Hk;have qW:=hgw j _ Hk;have hXc:X[c]?=some X[c]:=zP iH;have Qb:=ct jR X c iH;have ia:=aV jR X;have Eb:(w.take (j+1)).flatMap (su X)=(w.take j).flatMap (su X)++Qi X[c]:=by rw[am9,Hk,anb];simp[L7 hXc]
   have dH:((w.take j).flatMap (su X)).length=j*5:=by rw[Hl fun x hx=>H_ x (ajv hx),ahN,ajq hj]
   have hit:=Vn X[c] O7;generalize (w.take j).flatMap (su X)=P at*;generalize X[c]=x at*;obtain⟨⟨k1,k2,k3,k4⟩,at',v,s⟩:=x;simp only[fz,Qi,aq]at Qb hit Eb;refine κ @bO ?_;refine κ @bO ?_;refine χ (τ ?_);refine θ (aG @bO @qW @adH ?_);refine ι (aG @bO @Qb @ia ?_);refine ah.rt hit ?_;rintro _ O8 ⟨rfl,fV⟩;have CA:=uv.ge fV;have ji:=aR (tk:=t8) (tk':=.full) (n:=j) (k:=1) (cs:=P) (ds:=[.str k1,.str k2,.str k3,.str k4,.str v]) T65 T68.1.1 CA dH rfl rfl (by decide) (by decide) (by omega) (by simp only[maxLen];omega);refine ab @bO ?_;refine VL.app ji ?_;refine ab @bO ?_;refine ο @bO @cI ?_;have Ql:=eV.trans fV;exact az.N (j+1,.own O8.N 5) ⟨aM,b_.en Ql CA (b_.after CA),App.after Ql.N⟩ (hl:=by dsimp only;rw[Eb];rfl)
  rintro t8 O7 eV;have pe:=fi.trans eV;have uv:=oa.ge eV;have hvI:dy (bY Tryz.prog) 65 (.sl w.length (w.flatMap (su X)) t8)=some (.v (.int .i64 w.length)):=bR T65;have hni:(nf:Int)+w.length=((nf+w.length:Nat):Int):=by omega
  have al6:=gY t8;generalize w.flatMap (su X)=WF at*;have DB:=aR (tk:=t7) (tk':=.full) (n:=i) (k:=1) (cs:=RI) (ds:=[.sl w.length WF t8]) T62 T65 uv (by rw[hri,ajs]) rfl rfl (by decide) (by decide) (by omega) (by simp only[maxLen];omega);refine θ (aG @bO @hvI @hni ?_);refine ν @bO ?_;refine VL.app DB ?_;refine ab @bO ?_;refine ο @bO @ou ?_;exact az.N (i+1,(fun v=>if v=i then t8 else T7 v),.own O7.N 1) ⟨ei,b_.en pe uv (b_.after uv),App.after pe.N⟩ (hl:=by dsimp only;rw[<-al6,al4];rfl)
 rintro⟨T9,t9⟩ O9 ⟨zM,hk9⟩;dsimp only;have Ti:dy (bY Tryz.prog) 23 (.sl X.length (X.flatMap fz) t2)=some (.v (.int .i64 X.length)):=bR FC
 have hb:((W.flatten.length:Int)==(X.length:Int))=(W.flatten.length==X.length):=by
  rw[ant,beq_iff_eq,beq_iff_eq];omega
 refine θ (aG @bO @Ti @hb ?_);refine ν @bO ?_;exact⟨⟨T9,t9,rfl⟩,zM,st2,t1,t3,hk9⟩
theorem aga (x:Ch) (k:Ky) (b:Nat) (O:VH) (hb:O.hp b=some (.cells (gR k))) (RJ:b<O.N):VF Tryz.prog 44 [.agg (fz x),.ptr b 0] O (aD fun m O'=>m=mb (oN x.k k)/\O.Ge O'):=by
 obtain⟨⟨x1,x2,x3,x4⟩,xa,xv,xs⟩:=x;obtain⟨k1,k2,k3,k4⟩:=k;simp only[fz,gR,aq]at hb ⊢;refine υ 8 [.tmp 3] Tryz.func44 ?_;refine κ @bO ?_;refine VC.bx ?_;rintro O1 ⟨aI,eP,cW⟩;have cD:=aI.at hb;refine θ (aG @bO @eP @cD ?_);refine VL.B3 aa (bb:=(x1==k1)&&((x2==k2)&&((x3==k3)&&((x4==k4)&&true)))) (b:=(x1==k1)&&((x2==k2)&&((x3==k3)&&((x4==k4)&&true)))) (by simp) (by simp[iB]) (.inl ⟨rfl,rfl⟩) (by kernel_rfl) (by kernel_rfl) rfl rfl rfl rfl ?_;refine ab @bO ?_;refine ν @bO ?_;exact⟨by simp[mb,oN],aI⟩
theorem Tr (X:List Ch) (k:Ky):∀j:Nat,idxFrom (fun c=>oN c.k k) j X=match kF X k with
  | some i=>((j+i:Nat):Int)
  | none=> -1:=by
 induction X with
 | nil=>intro j;rfl
 | cons c X ih=>
   intro j;rw[idxFrom];unfold kF at ih ⊢;rw[List.findIdx?_cons];cases h:oN c.k k
   ·simp only[anc,if_false];rw[ih (j+1)];cases X.findIdx? fun c=>oN c.k k with
    | none=>rfl
    | some i=>
      show((j+1+i:Nat):Int)=((j+(i+1):Nat):Int);omega
   ·rfl
set_option maxHeartbeats 4000000 in
theorem adP {O:VH} {ke k bb:Nat} {g:Gv} {mo st l1 l2 u3 l3:Int} {t1 t2:Tok} {rv:MV} {R:List MV} {L:List Bn} {X:List Ch} (key:Ky) {i:Nat} (hi:kF X key=some i) (fQ:ke<O.N) (hk:O.hp ke=some (.cells (df k bb g mo st 1 l1 (.sl L.length (L.flatMap eB) t1) 1 l2 (.sl X.length (X.flatMap fz) t2) u3 l3 rv R)))
  (k8:Flat L) (hL:L.length<=1000) (hX:X.length<=1000) (yf:Keys L) (yb:∀c∈X,∀s∈cQ c.k,s.length<=maxLen):
  VF Tryz.prog 25 [.ptr ke 0,.agg (gR key)] O (aD fun m O'=>(∃q t,m= .sl (dm q X.length).length ((dm q X.length).flatMap (su X)) t/\∀x,x<X.length->(q x=true ↔ jh (l9 X L) x i))/\O.Ge O'):=by
 have rD:=fun O' h1 h2=>adO (O:=O') (L:=L) (X:=X) (tc:=t2) (k:=k) (bb:=bb) (g:=g) (mo:=mo) (st:=st) (l1:=l1) (l2:=l2) (u3:=u3) (l3:=l3) (rv:=rv) (R:=R) (tk:=t1) (by omega) (ke:=ke) h1 h2
 have Lk:=fun O' h1 h2=>Qh (O:=O') (L:=L) (k:=k) (bb:=bb) (g:=g) (mo:=mo) (st:=st) (l1:=l1) (u2:=1) (l2:=l2) (u3:=u3) (l3:=l3) (rv:=rv) (R:=R) (tk:=t1) (cv:=.sl X.length (X.flatMap fz) t2) (by omega) k8 (ke:=ke) h1 h2
 have hiX:=G_ hi;have L5:=fun(tk:Tok) (O':VH) (b:Nat) (hb:O'.hp b=some (.cells (gR key))) (RJ:b<O'.N)=>afL X tk 44 [.ptr b 0] (fun c=>oN c.k key) O' (by kernel_rfl) (fun x _ mz hg=>aga x key b mz (hg.at hb) (by have:=hg.N;omega)) (by omega)
 rw[Tr,hi]at L5;obtain⟨q1,q2,q3,q4⟩:=key;simp only[gR,aq,Nat.zero_add]at L5 ⊢;refine υ 38 [.tmp 4] Tryz.func25 ?_;refine κ @bO ?_;refine VC.bx ?_;rintro O1 ⟨aI,eP,cW⟩;have cA:=aI.at hk;refine κ @bO ?_;refine ah.rt (rD O1 (by omega) cA) ?_;rintro _ O2 ⟨⟨t3,rfl⟩,aB⟩;have jb:=aB.at eP;have eZ:=aB.N;refine ab @bO ?_;refine κ @bO ?_;refine ah.rt (L5 t3 O2 O.N jb (by omega)) ?_;rintro _ O3 ⟨rfl,aH⟩;have gy:=aH.N;have dR:=aH.at (aB.at cA);have e0:decide ((i:Int)<0)=false:=decide_eq_false (by omega);refine ab @bO ?_;refine ξ @bO @e0 ?_;have ew:=(aI.trans aB).trans aH;refine Θ [4] (fun x:(Nat->Bool)×Tok=>[.sl (dm x.1 X.length).length ((dm x.1 X.length).flatMap (su X)) x.2]) (fun x O'=>O.Ge O'/\∀y,y<X.length->(x.1 y=true ↔ jh (l9 X L) y i)) ?_ ?_
 ·refine κ @bO ?_;refine ah.rt (Lk O3 (by omega) dR) ?_;rintro _ O4 ⟨⟨t4,rfl⟩,aY⟩;refine ab @bO ?_;refine ah.rt (Hc L X t4 t3 hL hX yf yb O4) ?_;rintro _ O5 ⟨⟨T5,t5,rfl⟩,bD⟩;have o8:=fun tc=>Tm (l9 X L) T5 t5 [(i:Int)] tc O5 (z_ hX hL) (by simp)
  rw[<-BT,pq,(nB _).2 (Dy X L)]at o8;simp only[ajt,anl,List.map_nil,aq]at o8;generalize c5 X.length (gF X L L.length) T5=GG at*;refine ab @bO ?_;refine ah.rt (o8 _) ?_;rintro m O6 ⟨fi,hm⟩
  obtain⟨q,t6,rfl,hq⟩:∃q t,m= .sl (dm q X.length).length ((dm q X.length).map mi) t/\∀x,x<X.length->(q x=true ↔ jh (l9 X L) x i):=by
   rcases hm with⟨_,q,t,h1,h2⟩ | ⟨h,_⟩
   ·refine⟨q,t,h1,fun x hx=>(h2 x hx).trans ?_⟩;constructor
    ·rintro⟨c,a1,a2,a3,a4⟩;rw[ahJ.1 a1,ang]at a4;exact a4
    ·intro a4;exact⟨i,ane _,by omega,by omega,by rw[ang];exact a4⟩
   ·cases h
  clear hm o8;have hvI:dy (bY Tryz.prog) 29 (.sl (dm q X.length).length ((dm q X.length).map mi) t6)=some (.v (.int .i64 (dm q X.length).length)):=bR lN;have hIm:((dm q X.length).map mi).length=(dm q X.length).length:=Ma _;have hgI:∀(j:Nat) (y:Int),(dm q X.length)[j]?=some y->((dm q X.length).map mi)[j]?=some (MV.v (.int .i64 y)):=fun j y h=>by rw[Qm,h];rfl
  have H_:=fun x hx=>(tC (p:=q) (n:=X.length) (x:=x)).1 hx
  have hIl:=oQ q X.length;have Jm:=((ew.trans aY).trans bD).trans fi;obtain⟨w,hw⟩:∃w,w=dm q X.length:=⟨_,rfl⟩
  rw[<-hw]at hvI hIm hgI H_ hIl;rw[<-hw];generalize hWM:w.map mi=WM at*;refine ao @bO @hvI ?_;refine τ ?_;refine Γ [4,24] [5,22,23] (fun s:Nat×Tok=>[.sl s.1 ((w.take s.1).flatMap (su X)) s.2,mi s.1]) (fun s O'=>s.1<=w.length/\O6.Ge O'/\App O' O6.N 5 s.2) (fun s=>w.length - s.1) ((0,.nil)) ?_ ?_
  ·exact⟨Qn _,VH.Ge.refl _,trivial⟩
  rintro⟨j,t8⟩ O7 ⟨hj,eV,uv⟩;dsimp only at hj uv ⊢;by_cases aM:j<w.length;rotate_left
  ·obtain rfl:j=w.length:=by omega
   rw[adX];refine ν @bO ?_;exact aA.mk (q,t8) ⟨Jm.trans eV,hq⟩ (h1:=by dsimp only;rw[<-hw];rfl)
  have cI:((j:Int)+1)=((j+1:Nat):Int):=by omega
  have Hk:w[j]?=some w[j]:=zP aM;obtain⟨c,eS,iH,_⟩:=H_ w[j] (adY aM);rw[eS]at Hk;have qW:=hgI j _ Hk;have hXc:X[c]?=some X[c]:=zP iH;have Qb:=ct jR X c iH;have ia:=aV jR X;have Eb:(w.take (j+1)).flatMap (su X)=(w.take j).flatMap (su X)++Qi X[c]:=by rw[am9,Hk,anb];simp[L7 hXc]
  have dH:((w.take j).flatMap (su X)).length=j*5:=by
   rw[Hl (fun x hx=>by obtain⟨i,a,b,_⟩:=H_ x (ajv hx);exact⟨i,a,b⟩),ahN,ajq hj]
  have hit:=Vn X[c] O7;generalize (w.take j).flatMap (su X)=P at*;generalize X[c]=x at*;obtain⟨⟨k1,k2,k3,k4⟩,at',v,s⟩:=x;simp only[fz,Qi,aq]at Qb hit Eb;refine κ @bO ?_;refine κ @bO ?_;refine χ (τ ?_);refine θ (aG @bO @qW @hIm ?_);refine ι (aG @bO @Qb @ia ?_);refine ah.rt hit ?_;rintro _ O8 ⟨rfl,fV⟩;have CA:=uv.ge fV;have ji:=aR (tk:=t8) (tk':=.full) (n:=j) (k:=1) (cs:=P) (ds:=[.str k1,.str k2,.str k3,.str k4,.str v]) T65 T68.1.1 CA dH rfl rfl (by decide) (by decide) (by omega) (by simp only[maxLen];omega);refine ab @bO ?_;refine VL.app ji ?_;refine ab @bO ?_;refine ο @bO @cI ?_;have Ql:=eV.trans fV;exact az.N (j+1,.own O8.N 5) ⟨aM,b_.en Ql CA (b_.after CA),App.after Ql.N⟩ (hl:=by dsimp only;rw[Eb];rfl)
 rintro⟨q,t9⟩ O9 ⟨bj,hq⟩;refine κ @bO ?_;refine ν @bO ?_;exact⟨⟨q,t9,rfl,hq⟩,bj⟩
theorem agb {O O2:VH} {k ke kv ce cv bb md:Nat} {E V:fG} {rd at':Int} {S:List (Gv×List Dp)} (h:oc O k (rowsOf S) E V ke kv ce cv rd at') (u:O.Ge O2) (h1:O.N<=bb) (h2:O.N<=md) (h3:bb<O2.N) (h4:md<O2.N) (h5:O2.hp md=some (.map [] 0)) (h6:O2.hp bb=some (.cells [.ptr k 0,.map md])):CB O2 (fun j=>Own k ke kv E V j\/j=bb\/j=md) k bb md S:=by
 have hO:= @Vg _ _ _ _ _ _ _ _ _ _ _ h;have hl:=h.st.lt;refine⟨⟨rowsOf S,E,V,ke,kv,ce,cv,rd,at',[],0,h.ge u,⟨h6,h5,CD 3,h3,h4⟩,by simp[rowsOf],fun i g D hi=>⟨none,by simp[rowsOf,hi],.inl ⟨rfl,rfl⟩⟩,⟨by omega,by omega⟩,fun j hj=>.inl hj⟩,fun j hj=>?_,.inr (.inl rfl),.inr (.inr rfl)⟩;rcases hj with hj | rfl | rfl
 ·have:=hO hj;have:=u.N;omega
 ·exact h3
 ·exact h4
def Hm:List (Gv×List Dp):=[(gA,[vh [98] v1 0,vh [99] v1 0]),(⟨gS,[98],v1⟩,[vh [99] v1 0]),(⟨gS,[99],v1⟩,[])]
def Ts:List Br:=[⟨-1,0,0,⟨gS,[97],lC,[]⟩,v1,0,false⟩,⟨0,1,0,⟨gS,[98],lC,[]⟩,v1,1,false⟩,⟨0,1,1,⟨gS,[99],lC,[]⟩,v1,1,false⟩,⟨1,2,0,⟨gS,[99],lC,[]⟩,v1,1,false⟩]
theorem ajh:zY (iO Hm) gA=some (some Ts):=by kernel_rfl
def L9:List Bn:=Ts.map bnB
def uE:List Ch:=[⟨⟨gS,[97],lC,[]⟩,0,v1,0⟩,⟨⟨gS,[98],lC,[]⟩,1,v1,1⟩,⟨⟨gS,[99],lC,[]⟩,2,v1,1⟩]
theorem adQ:cO L9=uE:=by kernel_rfl
theorem adR:l9 uE L9=[[1,2],[2],[]]:=by kernel_rfl
theorem aji:kX [[1,2],[2],[]] 4 (fun _=>false)=[[2],[1],[0]]:=by kernel_rfl
theorem JU:Calm ⟨gS,[98],v1⟩ [vh [99] v1 0]:=⟨rfl,adp,.one,by simp[LU Td],by simp,by simp⟩
theorem JV:Calm ⟨gS,[99],v1⟩ []:=⟨rfl,Td,.one,by simp,by simp,by simp⟩
theorem adS:Plain Hm:=⟨by simp[Hm,P6,JU,JV],by simp[Hm,gA,v1]⟩
theorem ajj (x:Nat) (hx:x<3):jh [[1,2],[2],[]] x 2:=by
 rcases x with _ | _ | _ | x
 ·exact .step .base ⟨[1,2],rfl,by simp⟩
 ·exact .step .base ⟨[2],rfl,by simp⟩
 ·exact .base
 ·omega
set_option maxHeartbeats 4000000 in
theorem adT (O:VH):VF Tryz.prog 9 [] O (aD fun m O'=>m=mb true):=by
 refine υ 86 [.tmp 0] Tryz.func9 ?_;refine κ @bO ?_;refine κ @bO ?_;refine ah.rt (afo O) ?_;rintro _ O1 ⟨rfl,uq,aI⟩;have q_:=uq.st.lt;generalize O.N=k0 at*;refine ab @bO ?_;refine κ @bO ?_;refine κ @bO ?_;have Hn:=adn [98] [49] 0 O1;simp only[vh,aU,aq,gS,anv,anp]at Hn;refine ah.rt Hn ?_;clear Hn;rintro _ O2 ⟨rfl,aB⟩;have nO2:=(aB).N;refine ab @bO ?_;have Hn:=adn [99] [49] 0 O2;simp only[vh,aU,aq,gS,anv,anp]at Hn;refine ah.rt Hn ?_;clear Hn;rintro _ O3 ⟨rfl,aH⟩;have nO3:=(aH).N;refine ab @bO ?_;have Sj:oc O3 (k0+2) (rowsOf []) [] [] k0 (k0+1) 0 0 0 0:=uq.ge (aB.trans aH);refine ah.rt (LV (Sj) (n:=[97]) (v:=v1) (D:=[vh [98] v1 0,vh [99] v1 0]) rfl rfl (P6) (by decide) (by decide)) ?_;rintro _ O4 ⟨rfl,⟨E4,V4,ce4,cv4,ve⟩,nO4,Qa⟩;refine ab @bO ?_;have Hn:=adn [99] [49] 0 O4;simp only[vh,aU,aq,gS,anv,anp]at Hn;refine ah.rt Hn ?_;clear Hn;rintro _ O5 ⟨rfl,bD⟩;have nO5:=(bD).N;refine ab @bO ?_;refine ah.rt (LV (ve.ge bD) (n:=[98]) (v:=v1) (D:=[vh [99] v1 0]) rfl rfl (JU) (by decide) (by decide)) ?_;rintro _ O6 ⟨rfl,⟨E6,V6,ce6,cv6,HT⟩,nO6,P4⟩;refine ab @bO ?_;refine ah.rt (LV (HT) (n:=[99]) (v:=v1) (D:=[]) rfl rfl (JV) (by decide) (by decide)) ?_;rintro _ O7 ⟨rfl,⟨E7,V7,ce7,cv7,hs7⟩,nO7,hf7⟩;refine ab @bO ?_;have al7:oc O7 (k0+2) (rowsOf Hm) E7 V7 k0 (k0+1) ce7 cv7 0 0:=hs7;clear uq Sj ve HT hs7 Qa P4 hf7;refine κ @bO ?_;have Tt:=afV O7;simp only[bZ,gS,v1]at Tt;refine ah.rt Tt ?_;rintro _ O8 ⟨rfl,fV⟩;have Yk:=al7.ge fV;refine ab @bO ?_;have nc:=af3 (k0+2) gA 10 O8;simp only[bZ,gA,gS,v1,aq]at nc;refine ah.rt nc ?_;rintro _ O9 ⟨ke,bb,rfl,bj,yR,hke,fQ,hmd,hbc,hek⟩;clear nc Tt;have hcb:=agb Yk bj (show O8.N<=bb by omega) (show O8.N<=bb - 1 by omega) (by omega) (by omega) hmd hbc
 have BR:¬(Own (k0+2) k0 (k0+1) E7 V7 ke\/ke=bb\/ke=bb - 1):=by
  rintro(h | h | h)
  ·have:=Vg Yk h;omega
  ·omega
  ·omega
 refine ab @bO ?_;have qc:=al3 (W:=[[2],[1],[0]]) fQ BR hek hcb adS ajh (L:=L9) (X:=uE) rfl adQ.symm (by decide) (by decide) (by unfold Keys;decide) (by decide) (by rw[adR];exact aji.symm);refine κ @bO ?_;refine ah.rt qc ?_;rintro _ Oa ⟨⟨T1,ta,rfl⟩,hka,Gz,tb,tc,hea⟩;clear qc;refine ab @bO ?_;have haf:=adP (key:=⟨gS,[99],lC,[]⟩) (i:=2) (X:=uE) (L:=L9) (by rfl) hka hea (Qk Ts) (by decide) (by decide) (by unfold Keys;decide) (by decide);simp only[gR,gS,lC]at haf;have hro:sw uE [[2],[1],[0]] T1=[.sl 1 [.str gS,.str [99],.str lC,.str [],.str v1] (T1 0),.sl 1 [.str gS,.str [98],.str lC,.str [],.str v1] (T1 1),.sl 1 [.str gS,.str [97],.str lC,.str [],.str v1] (T1 2)]:=rfl;rw[hro,show([[2],[1],[0]]:List (List Int)).length=3 from rfl,show(([[2],[1],[0]]:List (List Int)).flatten.length==uE.length)=true from rfl];simp only[gS,lC,v1];refine κ @bO ?_;refine ah.rt haf ?_;rintro _ Ob ⟨⟨q,tq,rfl,hq⟩,hgb⟩;clear haf
 have qX:dm q uE.length=[0,1,2]:=by
  rw[show uE.length=3 from rfl]at hq ⊢;rw[adR]at hq;have:dm q 3=dm (fun _=>true) 3:=Qe fun x hx=>(hq x hx).2 (ajj x hx)
  rw[this];rfl
 rw[qX,show([0,1,2]:List Int).length=3 from rfl];generalize ([0,1,2]:List Int).flatMap (su uE)=CX at*;have e1:(([99]:List UInt8)==[99])=true:=rfl;have e2:(([97]:List UInt8)==[97])=true:=rfl;have e3:((3:Int)==3)=true:=rfl;have e4:((1:Int)==1)=true:=rfl;refine ab @bO ?_;refine ι (iN @bO @e1 @e2 @e3 @e4 ?_);trivial
open Go.ChangeShapes
section
variable {H:Type} {enc:TypeId×Value->H} {P:Program} {w:World} {sp:Nat->Bool} {held:Bool} {t e:TypeId} {α β :Type}
def iP (enc:TypeId×Value->H) (P:Program) (w:World) (sp:Nat->Bool) (held:Bool) (t:TypeId) (f: α ->List MV) (p: α ->Prop):Prop:=El enc P w sp held t fun ms=>∃y,ms=f y/\p y
theorem iP.int {k:IntKind} (ht:P.underlying t=some (.int k)):iP enc P w sp held t (fun n:Int=>[.v (.int k n)]) (KJ k):=El.akv ht
theorem iP.bool (ht:P.underlying t=some .bool):iP enc P w sp held t (fun b:Bool=>[mb b]) (fun _=>True):=El.aip ht
theorem iP.str (ht:P.underlying t=some .string):iP enc P w sp held t (fun l:List UInt8=>[.str l]) (fun l=>l.length<=maxLen):=El.str ht
theorem JW {f: α ->List MV} {p: α ->Prop}:∀{rows:List (List MV)},(∀r∈rows,∃x,r=f x/\p x)->∃xs:List α,rows.length=xs.length/\rows.flatten=xs.flatMap f/\∀x∈xs,p x
 | [],_=>⟨[],rfl,rfl,by simp⟩
 | r::rows,h=>by
   obtain⟨xs,h1,h2,h3⟩:=JW fun r hr=>h r (agc _ hr)
   obtain⟨x,h4,h5⟩:=h r (ajk ..)
   exact⟨x::xs,by simp[h1],by rw[h4];simp[h2],fun y hy=>by
    rcases ajl.1 hy with rfl | hy
    ·exact h5
    ·exact h3 y hy⟩
theorem iP.slice {f: α ->List MV} {p: α ->Prop} (ht:P.underlying t=some (.slice e)) (pC:0<P.cellsOf e) (he:iP enc P w sp held e f p):
  iP enc P w sp held t (fun y:List α ×Tok=>[.sl y.1.length (y.1.flatMap f) y.2]) (fun y=>(∀x∈y.1,p x)/\y.1.length<=maxLen):=
 (El.slice ht he pC).imp fun ms ⟨rows,tk,h1,h2,h3⟩=>by
  obtain⟨xs,h4,h5,h6⟩:=JW h2;exact⟨(xs,tk),by rw[h1,h4,h5],h6,by show xs.length<=maxLen;omega⟩
def iI (enc:TypeId×Value->H) (P:Program) (w:World) (sp:Nat->Bool) (held:Bool) (fs:List Field) (k N:Nat) (f: α ->List MV) (p: α ->Prop):Prop:=
 ∀cs:List Value,cs.length=N->(∀g∈fs,k<=g.offset)/\((∀g∈fs,∃fuel x,DataW.trod enc P w 0 sp held fuel g.type ((cs.drop (g.offset - k)).take (P.cellsOf g.type))=some x)->∃y,aQ (G0 w) (f y) cs/\p y)
theorem iI.one {g:Field} {k n:Nat} {f: α ->List MV} {p: α ->Prop} (ho:g.offset=k) (hn:P.cellsOf g.type=n) (he:iP enc P w sp held g.type f p):iI enc P w sp held [g] k n f p:=by
 intro cs gq;refine⟨fun g' hg=>by rw[ahJ.1 hg];omega,fun h=>?_⟩;obtain⟨fuel,x,hx⟩:=h g (by simp);rw[ho,anr,al_,hn,ahP (by omega)]at hx;obtain⟨ms,h1,y,rfl,h3⟩:=he _ _ _ hx;exact⟨y,h1,h3⟩
theorem iI.cons {g:Field} {fs:List Field} {k n N:Nat} {f: α ->List MV} {p: α ->Prop} {f': β ->List MV} {p': β ->Prop} (ho:g.offset=k) (hn:P.cellsOf g.type=n) (he:iP enc P w sp held g.type f p) (hr:iI enc P w sp held fs (k+n) N f' p'):
  iI enc P w sp held (g::fs) k (n+N) (fun y: α × β =>f y.1++f' y.2) (fun y=>p y.1/\p' y.2):=by
 intro cs gq;obtain⟨DQ,hr'⟩:=hr (cs.drop n) (by rw[List.length_drop];omega);refine⟨fun g' hg=>?_,fun h=>?_⟩
 ·rcases ajl.1 hg with rfl | hg
  ·omega
  ·have:=DQ g' hg;omega
 ·obtain⟨fuel,x,hx⟩:=h g (by simp);rw[ho,anr,al_,hn]at hx;obtain⟨ms,h1,y,rfl,h3⟩:=he _ _ _ hx
  obtain⟨z,h4,h5⟩:=hr' fun g' hg=>by
   obtain⟨fuel,x,hx⟩:=h g' (agc _ hg);have:=DQ g' hg;refine⟨fuel,x,?_⟩;rw[List.drop_drop,show n+(g'.offset - (k+n))=g'.offset - k by omega];exact hx
  refine⟨(y,z),?_,h3,h5⟩;have:=aQ.append h1 h4
  rwa [List.take_append_drop]at this
theorem iP.struct {fs:Array Field} {N:Nat} {f: α ->List MV} {p: α ->Prop} (ht:P.underlying t=some (.struct fs)) (pC:P.cellsOf t=N) (hf:iI enc P w sp held fs.toList 0 N f p):iP enc P w sp held t f p:=by
 intro fuel cs x h;obtain⟨xs,n,rfl,rfl,hl,DL,hfi⟩:=DataW.trod_struct ht h;obtain⟨_,h2⟩:=hf cs (by omega)
 obtain⟨y,h3,h4⟩:=h2 fun g hg=>by
  obtain⟨i,hi,rfl⟩:=List.getElem_of_mem hg;have h5:=hfi i fs.toList[i] (by rw[<-Array.getElem?_toList,zP]);have am4:fs.toList.length=fs.size:=by simp
  rw[zP (by omega)]at h5;exact⟨_,_,h5⟩
 exact⟨_,h3,y,rfl,h4⟩
theorem iP.arg {f: α ->List MV} {p: α ->Prop} (h:iP enc P w sp held t f p) {v:Value} {d:DataW H} {ps:List MemPlace} (hd:DataW.Trod enc P w 0 sp held t v d ps) (hc:v.cells= #[v]):∃m y,VR (G0 w) m v/\[m]=f y/\p y:=by
 obtain⟨m,h1,y,h2,h3⟩:=El.arg h hd hc;exact⟨m,y,h1,h2,h3⟩
end
abbrev IvT:=(Bool×Bs×Bool)×Bool×Bs×Bool
abbrev BrT:=Int×Int×Int×(Bs×Bs×Bs×Bs)×Bs×(Bool×Bs×List IvT×Tok)×Int×Bool
abbrev ChT:=(Bs×Bs×Bs×Bs)×Int×Bs×Int
def al8 (y:IvT):List MV:=[mb y.1.1,.str y.1.2.1,mb y.1.2.2,mb y.2.1,.str y.2.2.1,mb y.2.2.2]
def Vo (y:BrT):Bn:=⟨y.1,y.2.1,y.2.2.1,⟨y.2.2.2.1.1,y.2.2.2.1.2.1,y.2.2.2.1.2.2.1,y.2.2.2.1.2.2.2⟩,y.2.2.2.2.1,y.2.2.2.2.2.1.1,y.2.2.2.2.2.1.2.1,y.2.2.2.2.2.1.2.2.1.length,y.2.2.2.2.2.1.2.2.1.flatMap al8,y.2.2.2.2.2.1.2.2.2,y.2.2.2.2.2.2.1,y.2.2.2.2.2.2.2⟩
def Vp (y:ChT):Ch:=⟨⟨y.1.1,y.1.2.1,y.1.2.2.1,y.1.2.2.2⟩,y.2.1,y.2.2.1,y.2.2.2⟩
def ahI (y:Bs×Bs×Bs×Bs):Prop:=y.1.length<=maxLen/\y.2.1.length<=maxLen/\y.2.2.1.length<=maxLen/\y.2.2.2.length<=maxLen
def ivP (y:IvT):Prop:=(True/\y.1.2.1.length<=maxLen/\True)/\True/\y.2.2.1.length<=maxLen/\True
def brP (y:BrT):Prop:=KJ .i64 y.1/\KJ .i64 y.2.1/\KJ .i64 y.2.2.1/\ahI y.2.2.2.1/\y.2.2.2.2.1.length<=maxLen/\(True/\y.2.2.2.2.2.1.2.1.length<=maxLen/\(∀z∈y.2.2.2.2.2.1.2.2.1,ivP z)/\y.2.2.2.2.2.1.2.2.1.length<=maxLen)/\KJ .i64 y.2.2.2.2.2.2.1/\True
def chP (y:ChT):Prop:=ahI y.1/\KJ .i64 y.2.1/\y.2.2.1.length<=maxLen/\KJ .i64 y.2.2.2
theorem Zh {l:List BrT} (h:∀x∈l,brP x):∀b∈l.map Vo,∀s∈cQ b.k,s.length<=maxLen:=by
 intro b hb s hs;obtain⟨x,hx,rfl⟩:=ajr.1 hb;obtain⟨_,_,_,⟨h1,h2,h3,h4⟩,_⟩:=h x hx;simp only[cQ,Vo,ajl,List.not_mem_nil,or_false]at hs;rcases hs with rfl | rfl | rfl | rfl<;>assumption
theorem adU {α :Type} {f: α ->List MV} {sz:Nat} (hf:∀x,(f x).length=sz) (L:List α) (tk:Tok):∃tk',∀u b z,Kl L.length 0 (min (L.length:Int) 60).toNat (L.flatMap f) tk (some ⟨u,sz,b,z⟩)=some (.sl (L.take 60).length ((L.take 60).flatMap f) tk'):=by
 have hlen:(L.flatMap f).length=L.length*sz:=aV hf L;by_cases h:L.length<=60
 ·exact⟨tk,fun u b z=>by rw[Nb rfl (by omega),ahP h]⟩
 ·refine⟨rH tk sz ((min (L.length:Int) 60).toNat==L.length),fun u b z=>?_⟩;rw[IP (.inr (by omega)) (by omega) (by omega) hlen,show(min (L.length:Int) 60).toNat=60 by omega,ahN,ajq (by omega),PK hf];simp
set_option maxHeartbeats 4000000 in
theorem adV (L0:List Bn) (X0:List Ch) (tk0 tx0:Tok) (h0:L0.length<=maxLen) (h1:X0.length<=maxLen) (yf:∀b∈L0,∀s∈cQ b.k,s.length<=maxLen) (yb:∀c∈X0,∀s∈cQ c.k,s.length<=maxLen) (O:VH):VF Tryz.prog 3 [.sl L0.length (L0.flatMap eB) tk0,.sl X0.length (X0.flatMap fz) tx0] O (aD fun m O'=>m=mb true):=by
 have hL:(L0.take 60).length<=60:=by rw[ahN];omega
 have hX:(X0.take 60).length<=60:=by rw[ahN];omega
 have al9:∀b∈L0.take 60,∀s∈cQ b.k,s.length<=maxLen:=fun b hb=>yf b (ajv hb)
 have ahB:∀c∈X0.take 60,∀s∈cQ c.k,s.length<=maxLen:=fun c hc=>yb c (ajv hc)
 obtain⟨tk,u9⟩:=adU jg L0 tk0;obtain⟨tx,hsx⟩:=adU jR X0 tx0;have ib:dy (bY Tryz.prog) 22 (.sl L0.length (L0.flatMap eB) tk0)=some (.v (.int .i64 L0.length)):=bR B6;have hvx:dy (bY Tryz.prog) 23 (.sl X0.length (X0.flatMap fz) tx0)=some (.v (.int .i64 X0.length)):=bR FC;simp only[maxLen]at h0 h1;generalize L0.take 60=L at*;generalize X0.take 60=X at*;have hg:=fun O'=>Hc L X tk tx (by omega) (by omega) al9 ahB O'
 have hr:=fun O'=>Y_ L X tk tx (by omega) (by omega) O'
 have kc:=fun T1 T2 t1 t2 O'=>adx X.length (gF X L L.length) T1 T2 t1 t2 (by omega) (fun u _=>by have:=L4 X L L.length u;omega) O'
 refine υ 25 [.tmp 4] Tryz.func3 ?_;refine κ @bO ?_;refine χ ?_;refine WC.reads ?_;refine iN @bO @ib @hvx @u9 @hsx ?_;refine κ @bO ?_;refine ah.rt (hg _) ?_;rintro _ O1 ⟨⟨T1,t1,rfl⟩,aI⟩;refine ab @bO ?_;refine ah.rt (hr _) ?_;rintro _ O2 ⟨⟨T2,t2,rfl⟩,aB⟩;have jV:=kc T1 T2 t1 t2 O2;generalize c5 X.length (gF X L L.length) T1=A at*;generalize c5 X.length (gF X L L.length) T2=B at*;refine ab @bO ?_;refine ah.rt jV ?_;rintro _ O3 ⟨rfl,e3⟩;rw[e3];clear e3 O3
 refine ab @bO ?_;refine ah.rt (adT _) ?_;rintro _ O4 rfl;simp only[bw];refine ab @bO ?_;refine ν @bO ?_;trivial
theorem Zi {l:List ChT} (h:∀x∈l,chP x):∀c∈l.map Vp,∀s∈cQ c.k,s.length<=maxLen:=by
 intro b hb s hs;obtain⟨x,hx,rfl⟩:=ajr.1 hb;obtain⟨⟨h1,h2,h3,h4⟩,_⟩:=h x hx;simp only[cQ,Vp,ajl,List.not_mem_nil,or_false]at hs;rcases hs with rfl | rfl | rfl | rfl<;>assumption
theorem Mb (y:List BrT×Tok) (a:List ChT×Tok) (O:VH) (hp:(∀x∈y.1,brP x)/\y.1.length<=maxLen) (ha:(∀x∈a.1,chP x)/\a.1.length<=maxLen):
  VF Tryz.prog 3 [.sl y.1.length (y.1.flatMap fun x=>eB (Vo x)) y.2,.sl a.1.length (a.1.flatMap fun x=>fz (Vp x)) a.2] O (aD fun m O'=>m=mb true):=by
 have h:=adV (y.1.map Vo) (a.1.map Vp) y.2 a.2 (by rw[Ma];exact hp.2) (by rw[Ma];exact ha.2) (Zh hp.1) (Zi ha.1) O;simp only[Ma,List.flatMap_map]at h;exact h
end Go.Proofs.YtjpadehgejlebaaGreatDoor
