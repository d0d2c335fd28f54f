import Derived.Test.YtjpadehgejlebaaGreatDoorMF
set_option linter.unusedVariables false
set_option linter.unusedSimpArgs false
namespace Go.Proofs.YtjpadehgejlebaaGreatDoor
open Go.RowKit
open _root_.List renaming getElem?_eq_getElem → zW, length_map → Ml, getElem?_map → Mm, length_append → Mn, getElem_mem → aeb, take_length → aed, take_append_getElem → aee, getD_eq_getElem?_getD → agu, getElem?_eq_some_iff → ahV, mem_singleton → ahW, getElem?_set_ne → ahX, mem_append → ahY, getElem?_eq_none → ahZ, mem_cons_of_mem → ah0, getElem?_set_self → ajv, map_append → ajw, length_cons → ajy, mem_cons_self → ajz, mem_range → ajA, take_of_length_le → ajB, append_nil → ame, take_add_one → am_, getElem?_range → anb, length_singleton → anc, mem_map → ane, mem_cons → anf, getElem?_append_left → anh, mem_of_getElem? → ani, mem_append_left → anj, length_take → ank, getElem?_replicate → anl, drop_zero → anp, flatMap_append → anq, mem_singleton_self → ant, length_range → anu, countP_cons → anv, all_eq_true → anw, contains_append → anz, mem_of_mem_take → anA, take_append_of_le_length → anB, range_succ → anC, map_congr_left → anD, take_zero → anE, pairwise_cons → anF, map_cons → anG, ext_getElem? → anH, flatMap_cons → anI, flatMap_nil → anJ, length_nil → anN
open _root_.Nat renaming zero_le → VI, le_refl → aec, mul_one → ana, min_eq_left → ann, le_trans → ans
open _root_.And renaming intro → ZA
open _root_.Option renaming map_some → anm, map_none → anK
open _root_.Int renaming eq_ofNat_of_zero_le → ajx, toNat_natCast → ang
open _root_.Bool renaming eq_false_iff → ano, false_eq_true → anr, and_eq_true → anx, eq_iff_iff → anL, true_and → anS
set_option maxRecDepth 10000
theorem Zl (vb:Nat) (k:Ky) (O:VH):VF Tryz.prog 119 [.ptr vb 0,.agg (gV k)] O (aE fun m O'=>m= .func (.func 147) [] [.ptr O.N 0,.ptr (O.N+1) 0]/\O'=(O.push (.cells [.ptr vb 0])).push (.cells (gV k))):=by
 obtain⟨k1,k2,k3,k4⟩:=k;simp only[gV];refine χ 6 [.tmp 4] Tryz.func119 ?_;refine κ @cX ?_;refine ν @cX ?_;try trivial
set_option maxHeartbeats 4000000 in
theorem Tt (L:List Bn) (tk:Tok) (V:List Bool) (hL:L.length<=1000000) (hV:V.length=L.length) (k:Ky) (y b1 b2 vb lb cb mp:Nat) (J:Nat->VH->Prop) (hJ:∀j A B,J j A->A.Ge B->J j B)
  (hd:∀j A,J j A->(b1<A.N/\b2<A.N/\vb<A.N/\lb<A.N)/\A.hp b1=some (.cells [.ptr vb 0])/\A.hp b2=some (.cells (gV k))/\A.hp vb=some (.cells [.sl L.length (L.flatMap fB) tk,.bz lb 0 L.length L.length,.bz cb 0 L.length L.length,.map mp])/\A.hp lb=some (.cells (V.map mb)))
  (hs:∀j (h:j<L.length),(V.getD j false&&rG L[j].k k)=false->∀A,J j A->J (j+1) A)
  (hy:∀j (h:j<L.length),(V.getD j false&&rG L[j].k k)=true->∀A,J j A->VY Tryz.prog y [.agg (fB L[j])] A fun m O'=>m=mb true/\J (j+1) O') (O:VH) (h0:J 0 O):
  VF Tryz.prog 147 [.func (.yield y) [] [],.ptr b1 0,.ptr b2 0] O (aE fun _ O'=>J L.length O'):=by
 obtain⟨k1,k2,k3,k4⟩:=k;simp only[gV]at hd;have hlen:=aX lF L;have eP:de (bX Tryz.prog) 22 (.sl L.length (L.flatMap fB) tk)=some (.v (.int .i64 L.length)):=bL FJ;have j6:(V.map mb).length=L.length:=by simp[hV]
 have hgB:∀u,u<L.length->(V.map mb)[u]?=some (.v (.bool (V.getD u false))):=fun u hu=>by
  rw[Mm,agu,zW (by omega)];rfl
 obtain⟨_,ha0,wj,DQ,HK⟩:=hd 0 O h0;refine χ 36 [] Tryz.func147 ?_;refine θ (cJ @cX @ha0 @DQ @eP ?_);refine υ ?_;refine Δ [11] [0,1,2,9,10] (fun j:Nat=>[mi j]) (fun j O'=>j<=L.length/\J j O') (fun j=>L.length - j) (0) ?_ ?_
 ·exact⟨VI _,h0⟩
 clear ha0 wj DQ HK;rintro j O3 ⟨hj,Ea⟩;by_cases aM:j<L.length;rotate_left
 ·obtain rfl:j=L.length:=by omega
  refine ν @cX ?_;exact Ea
 have cB:((j:Int)+1)=((j+1:Nat):Int):=by omega
 have bE:=cP lF L j aM;have hgv:=hgB j aM;have hsj:=hs j aM;have hyj:=hy j aM;generalize L[j]=b at*;obtain⟨up,dp,od,⟨q1,q2,q3,q4⟩,v,hdd,rv,nn,iv,PY,s,rd⟩:=b;simp only[fB,aq,bu]at bE hyj;dsimp only at hsj hyj;generalize V.getD j false=vj at*;refine κ @cX ?_;refine κ @cX ?_;refine ω (υ ?_);refine ξ @cX @bE ?_;refine VC.al ?_;rintro O4 ⟨aY,kc,h_⟩;have hJ4:=hJ j O3 O4 Ea aY;obtain⟨⟨am4,alN,ag_,alb⟩,fb,di,BK,re⟩:=hd j O4 hJ4;cases vj
 ·have hJ5:=hsj (by rw[Bool.false_and]) O4 hJ4;refine θ (FI @cX @fb @BK @re @j6 @hgv ?_);refine ν @cX ?_;refine ο @cX @cB ?_;exact az.N (j+1) ⟨aM,hJ5⟩
 rw[anS]at hsj hyj;have hE:Nh Tryz.prog (bX Tryz.prog) 9 40 (.agg [.str q1,.str q2,.str q3,.str q4]) (.agg [.str k1,.str k2,.str k3,.str k4])=some (rG ⟨q1,q2,q3,q4⟩ ⟨k1,k2,k3,k4⟩):=by kernel_rfl
 generalize rG ⟨q1,q2,q3,q4⟩ ⟨k1,k2,k3,k4⟩=ek at*;cases ek
 ·have hJ5:=hsj rfl O4 hJ4;refine θ (XA @cX @fb @BK @re @j6 @hgv @kc @di ?_);refine VL.Ft aa (bb:=false) (b:=false) (by simp) (by simp[jF]) (.inl ⟨rfl,rfl⟩) hE (by kernel_rfl) rfl rfl rfl rfl ?_;refine ab @cX ?_;refine ν @cX ?_;refine ο @cX @cB ?_;exact az.N (j+1) ⟨aM,hJ5⟩
 refine ω ?_;refine VC.yield 16 rfl rfl rfl ?_;simp only[List.take_succ_cons,anE,anG,List.map_nil,List.drop_succ_cons,anp];refine XA @cX @fb @BK @re @j6 @hgv @kc @di ?_;refine VL.Ft aa (bb:=true) (b:=true) (by simp) (by simp[jF]) (.inl ⟨rfl,rfl⟩) hE (by kernel_rfl) rfl rfl rfl rfl ?_;refine ao @cX @kc ?_;refine YW.mk (hyj rfl O4 hJ4) ?_;rintro _ O5 ⟨rfl,hJ5⟩;refine ab @cX ?_;refine ν @cX ?_;refine ο @cX @cB ?_;exact az.N (j+1) ⟨aM,hJ5⟩
theorem L7 {j:Nat} {js:List Nat} {N:Nat} (h:js.Nodup) (hl:∀i∈js,i<N) (hj:N<=j):(j::js).Nodup:=List.nodup_cons.2 ⟨fun hm=>by have:=hl j hm;omega,h⟩
def L8 (O O':VH) (js:List Nat):Prop:=js.Nodup/\∀j∈js,O.N<=j/\j<O'.N/\O'.hp j=some (.obj (.deferred (some [])))
theorem L8.ge {O A B:VH} {js:List Nat} (h:L8 O A js) (hg:A.Ge B):L8 O B js:=⟨h.1,fun j hj=>by
 obtain⟨h1,h2,h3⟩:=h.2 j hj;exact⟨h1,Nat.lt_of_lt_of_le h2 hg.N,hg.at h3⟩⟩
theorem GR.ee {O7 O6 O1:VH} {el:TypeId} {sz B n:Nat} {p:MV} {X:List MV} (h:GR O7 el sz B p n X) (hg:O1.Ge O7) (hB:O1.N<=B) (u:bB O7 (gid p) O6):O1.Ge O6:=by
 rcases h with⟨_,_,rfl | rfl⟩ | ⟨k,c,rfl,_,_,hr⟩
 ·exact bB.geN hg u
 ·exact bB.geN hg u
 ·exact bB.ge hg u (ans hB hr.lo)
theorem L8.bH {O A B:VH} {js:List Nat} {el:TypeId} {sz b n:Nat} {p:MV} {X:List MV} (h:L8 O A js) (hr:GR A el sz b p n X) (u:bB A (gid p) B):L8 O B js:=⟨h.1,fun j hj=>by
 obtain⟨h1,h2,h3⟩:=h.2 j hj;refine⟨h1,Nat.lt_of_lt_of_le h2 u.N,(u.hp j h2 fun e=>?_).trans h3⟩;rcases hr with⟨_,_,rfl | rfl⟩ | ⟨k,c,rfl,_,_,hr⟩
 ·cases e
 ·cases e
 ·injection e with e;subst e;obtain⟨sp,h4,_⟩:=hr.cells;rw[h3]at h4;cases h4⟩
theorem GR.marks {A B:VH} {js:List Nat} {el:TypeId} {sz b n:Nat} {p:MV} {X:List MV} (hr:GR A el sz b p n X) (hn:B.N=A.N) (hi:∀i,i ∉ js->B.hp i=A.hp i) (hj:∀j∈js,A.hp j=some (.obj (.deferred (some [])))):GR B el sz b p n X:=by
 rcases hr with h | ⟨k,c,rfl,h1,h2,⟨sp,h3,h4⟩,⟨j,h5,h6,h7⟩,h8,h9⟩
 ·exact .inl h
 ·exact .inr ⟨k,c,rfl,h1,h2,⟨sp,(hi k fun h=>by rw[hj k h]at h3;cases h3).trans h3,h4⟩,⟨j,h5,by rw[hn];exact h6,(hi j fun h=>by rw[hj j h]at h7;cases h7).trans h7⟩,h8,by rw[hn];exact h9⟩
theorem VF.Zm {P:Program} {f:FuncId} {args:List MV} {O:VH} {Φ Φ':MV->VH->Prop} (h:VF P f args O (aE Φ)) (hf:∀m O', Φ m O'-> Φ' m O'\/∃k o n c sz cs,m= .bz k o n c/\O'.hp k=some (.cells cs)/\o+sz<=cs.length/\ Φ' (.sl n ((cs.drop o).take sz) (if c=n then .full else .ar)) (O'.kill k)):VF P f args O (aE Φ'):=by
 intro G w vs hw hv;refine(h G w vs hw hv).mono fun x w' ⟨r,O',H,h1,h2,h3,h4⟩=>?_
 cases r with
 | panic m=>exact h4.elim
 | ret m=>
   cases x with
   | panicked c=>exact h3.elim
   | outgrown=>exact h3.elim
   | returned v=>
     rcases hf m O' h4 with g | ⟨k,o,n,c,sz,cs,rfl,g1,g2,g3⟩
     ·exact⟨.ret _,O',H,h1,h2,h3,g⟩
     ·obtain⟨H',e1,e2,e3⟩:=h2.freeze g1 h3 g2;exact⟨.ret _,_,H',h1.trans e1,e2,e3,g3⟩
theorem GR.wider {O:VH} {el:TypeId} {sz B B' n:Nat} {p:MV} {X:List MV} (h:GR O el sz B p n X) (hB:B'<=B):GR O el sz B' p n X:=by
 rcases h with h | ⟨k,c,h1,h2,h3,h4⟩
 ·exact .inl h
 ·exact .inr ⟨k,c,h1,h2,h3,h4.wider hB⟩
theorem adI (b:Bn) (M:List (Bn×Bool)) (h:¬b.dp>1):yU b M=b.s:=by
 have:∀(M:List (Bn×Bool)) (s:Int),M.foldl (fun s p=>if decide (b.dp>1)&&(p.2&&rG p.1.k b.k)then BL s p.1.s else s) s=s:=by
  intro M;induction M with
  | nil=>intro s;rfl
  | cons p M ih=>intro s;rw[List.foldl_cons,decide_eq_false h,Bool.false_and,if_neg (by decide)];simpa[h]using ih s
 exact this M b.s
theorem kO.al {P:Program} {n:Sz} {js:List Nat} {c:Code} {M:Ii} {e:Env} {O:VH} {z cs:List MV} (h:∀O3,nU O cs O3->VM P n js c e O3 M):kO P n js c M e ((O.push (.cells z)).set O.N (.cells cs)):=h _ nU.al
theorem RdA.al {P:Program} {n:Sz} {y k:Nat} {r:Loop} {R:MV->VH->Prop} {body:Code} {e:Env} {O:VH} {z cs:List MV} (h:∀O3,nU O cs O3->RdA P n y k r body R .normal e O3):RdA P n y k r body R .normal e ((O.push (.cells z)).set O.N (.cells cs)):=h _ nU.al
set_option maxHeartbeats 8000000 in
theorem Zn (L:List Bn) (tk:Tok) (O:VH) (hL:L.length<=1000000) (hk:∀b∈L,∀s∈dk b.k,s.length<=maxLen):VF Tryz.prog 96 [.sl L.length (L.flatMap fB) tk] O (aE fun m O'=>O.Ge O'/\GR O' 42 7 O.N m (cQ L).length ((cQ L).flatMap iy)):=by
 have hlen:=aX lF L;have eP:de (bX Tryz.prog) 22 (.sl L.length (L.flatMap fB) tk)=some (.v (.int .i64 L.length)):=bL FJ;have mW:=JK L;have hde:=YS L tk hL hk O;unfold cQ;refine VF.inM 53 [.tmp 2] Tryz.func96 ?_;simp only[cL,Nat.zero_add,Nat.reduceAdd];refine VM.rZ fun D=>?_
 refine ab @cX ?_;refine kO.mk ?_;refine VM.rZ fun D=>?_
 refine ab @cX ?_;refine π hde ?_;clear hde;rintro _ O1 ⟨vb,lb,cb,mp,rfl,hvd⟩;generalize nC L=DD at*;obtain⟨C,V,K⟩:=DD;dsimp only at mW hvd ⊢;clear K;obtain⟨aJ,jB,sq,fj,zp,hhi⟩:=hvd;have RT:(C.map mb).length=L.length:=by simp[mW.1]
 have hgB:∀(W:List Bool),W.length=L.length->∀u,u<L.length->(W.map mb)[u]?=some (.v (.bool (W.getD u false))):=fun W h u hu=>by
  rw[Mm,agu,zW (by omega)];rfl
 refine ab @cX ?_;refine kO.mk ?_;refine VM.join [2] (fun p:MV=>[p]) (fun p O' js=>O.Ge O'/\GR O' 42 7 O.N p (GY L C V L.length).length ((GY L C V L.length).flatMap iy)/\L8 O O' js) ?_ ?_
 ·refine VM.rZ fun D=>?_
  refine ao @cX @eP ?_;refine kO.mk ?_;refine VM.block ?_;refine VM.loop [2,12] [3,10,11] (fun x:Nat×MV=>[x.2,mi x.1]) (fun x O' js=>x.1<=L.length/\O1.Ge O'/\GR O' 42 7 O1.N x.2 (GY L C V x.1).length ((GY L C V x.1).flatMap iy)/\L8 O O' js) (fun x=>L.length - x.1) (0,.sl 0 [] .nil) ?_ ?_
  ·exact⟨VI _,VH.Ge.refl _,.inl ⟨rfl,rfl,.inl rfl⟩,List.nodup_nil,fun j hj=>by cases hj⟩
  rintro⟨j,t1⟩ O3 js ⟨hj,aG,cz,jP⟩;dsimp only at hj cz;by_cases aM:j<L.length;rotate_left
  ·obtain rfl:j=L.length:=by omega
   refine VM.rZ fun D=>?_
   refine ab @cX ?_;refine kO.mk ?_;refine VM.rZ fun D=>?_
   refine ab @cX ?_;exact JU.ex ⟨t1,rfl,aJ.trans aG,cz.wider aJ.N,jP⟩
  have cB:((j:Int)+1)=((j+1:Nat):Int):=by omega
  have bE:=cP lF L j aM;have gN:GY L C V (j+1)=GY L C V j++if C.getD j false then[⟨L[j].k,j,L[j].v,yU L[j] (L.zip V)⟩]else[]:=by rw[GY,zW aM]
  obtain⟨g,mY,CO,qE⟩:=Th L[j] L V mW.2;generalize L[j]=b at*;obtain⟨up,dp,od,⟨k1,k2,k3,k4⟩,v,hd,rv,nn,iv,PY,s,rd⟩:=b;simp only[fB,aq,bu]at bE;dsimp only at mY CO gN;have Tg:=hgB C mW.1 j aM;have fY:=P2 L C V j;have hv3:=aG.at jB;have fA:=aG.at fj;have n8:=aG.at sq;have n3:=aG.N;have n1:=aJ.N;refine VM.rZ fun D=>?_
  refine ab @cX ?_;refine kO.mk ?_;refine VM.rZ fun D=>?_
  refine ab @cX ?_;refine kO.mk ?_;refine VM.seq (VM.block ?_);refine VM.rZ fun D=>?_
  refine ao @cX @bE ?_;refine kO.al ?_;rintro O4 ⟨aY,kc,h_⟩;have BK:=aY.at hv3;have fR:=aY.at fA;have re:=aY.at n8;cases hc:C.getD j false
  ·rw[hc]at Tg gN;rw[if_neg (by decide),ame]at gN;refine VM.rZ fun D=>?_
   refine iw @cX @BK @fR @RT @Tg ?_;refine JU.ex (VM.HQ fun D=>?_);refine ο @cX @cB ?_;exact⟨rfl,(j+1,t1),rfl,⟨aM,aG.trans aY,by rw[gN];exact cz.zD (bB.ll aY),jP.ge aY⟩,by dsimp only;omega⟩
  rw[hc]at Tg gN;rw[if_pos rfl]at gN;refine VM.rZ fun D=>?_
  refine iw @cX @BK @fR @RT @Tg ?_;refine kO.mk ?_;refine VM.rZ fun D=>?_
  refine ao @cX @kc ?_;refine kO.al ?_;rintro O5 ⟨bG,mI,e_⟩;have dy:=bG.at kc;have pP:=bG.at BK;have Ic:=bG.at re;have Vx:=jP.ge (aY.trans bG);refine VM.join [2,3,6,10,11,12] (fun _:Unit=>[t1,.ptr vb 0,.ptr O4.N 0,.sl L.length (L.flatMap fB) tk,.v (.int .i64 L.length),.v (.int .i64 j)]) (fun _ O' xf=>O4.Ge O'/\O4.N<O'.N/\O'.hp O4.N=some (.cells [.str k1,.str k2,.str k3,.str k4,.v (.int .i64 j),.str v,.v (.int .i64 (yU ⟨up,dp,od,⟨k1,k2,k3,k4⟩,v,hd,rv,nn,iv,PY,s,rd⟩ (L.zip V)))])/\L8 O O' xf) ?_ ?_
  ·by_cases h2:dp>1;rotate_left
   ·have e1:decide (dp>=2)=false:=decide_eq_false (by omega);have e2:decide (2<=dp)=false:=e1;refine VM.HQ fun D=>?_
    refine ι (cJ @cX @dy @e1 @e2 ?_);exact⟨(),rfl,bG,by omega,by rw[adI _ _ h2];exact mI,Vx⟩
   have e1:decide (dp>=2)=true:=decide_eq_true (by omega);have e2:decide (2<=dp)=true:=e1;have e3:decide (dp>1)=true:=decide_eq_true h2;simp only[e3,anS]at CO;refine VM.rZ fun D=>?_
   refine cJ @cX @dy @e1 @e2 ?_;refine kO.mk ?_;refine VM.cond (t:=true) rfl ?_;rw[if_pos rfl];have adJ:=Zl vb ⟨k1,k2,k3,k4⟩ O5;simp only[gV]at adJ;refine VM.rZ fun D=>?_
   refine ao @cX @dy ?_;refine π adJ ?_;clear adJ;rintro _ O6 ⟨rfl,e6⟩;obtain⟨eZ,nH,mQ,p8⟩:=ib _ _ e6;clear e6;refine ab @cX ?_;refine kO.mk ?_;refine VM.block ?_;refine VM.agd rfl (Enters.sI (by kernel_rfl)) ?_;intro y r F eF kz gu gO Bm yl;obtain⟨L9,SK,Sg,K_,Sh⟩:=lu _ _ _ eF;clear eF;have hcF:F.hp O4.N=some (.cells [.str k1,.str k2,.str k3,.str k4,.v (.int .i64 j),.str v,.v (.int .i64 (g 0))]):=by rw[mY];exact L9.at (eZ.at mI)
   have haF:=L9.at mQ;have hkF:=L9.at p8;have hvF:=L9.at (eZ.at pP);have hlF:=L9.at (eZ.at Ic);have n6:=eZ.N;refine VF.mono ?_ (Tt L tk V hL mW.2 ⟨k1,k2,k3,k4⟩ y O5.N (O5.N+1) vb lb cb mp (fun k A=>F.N<=A.N/\(∀i,i<F.N->i≠O4.N->A.hp i=F.hp i)/\A.hp O4.N=some (.cells [.str k1,.str k2,.str k3,.str k4,.v (.int .i64 j),.str v,.v (.int .i64 (g k))])) ?_ ?_ ?_ ?_ F ⟨aec _,fun _ _ _=>rfl,hcF⟩)
   ·rintro(m | m) A hA;rotate_left
    ·exact hA.elim
    obtain⟨hA1,hA2,Za⟩:=hA;rw[qE]at Za;refine⟨(hA2 _ (by omega) (by omega)).trans K_,?_⟩;refine⟨(),rfl,⟨?_,?_⟩,?_,?_,?_,?_⟩
    ·show O4.N<=A.N;omega
    ·intro i hi;rw[ρ _ _ (by omega),hA2 i (by omega) (by omega),L9.hp i (by omega),eZ.hp i (by omega),bG.hp i hi]
    ·show O4.N<A.N;omega
    ·rw[ρ _ _ (by omega)];exact Za
    ·refine L7 Vx.1 (N:=O5.N) (fun i hi=>(Vx.2 i hi).2.1) (by omega)
    ·intro i hi;rcases anf.1 hi with rfl | hi
     ·refine⟨by omega,by show _<A.N;omega,?_⟩;rw[ρ _ _ (by omega),hA2 _ (by omega) (by omega)];exact Sg
     ·obtain⟨q1,q2,q3⟩:=Vx.2 i hi;refine⟨q1,by show _<A.N;omega,?_⟩;have hne:i≠O4.N:=fun e=>by subst e;rw[mI]at q3;cases q3
      rw[ρ _ _ (by omega),hA2 i (by omega) hne,L9.hp i (by omega),eZ.hp i (by omega)];exact q3
   ·rintro k A B ⟨h1,h2,h3⟩ hAB;have:=hAB.N;exact⟨by omega,fun i hi hne=>(hAB.hp i (by omega)).trans (h2 i hi hne),(hAB.hp _ (by omega)).trans h3⟩
   ·rintro k A ⟨h1,h2,h3⟩;exact⟨by omega,(h2 _ (by omega) (by omega)).trans haF,(h2 _ (by omega) (by omega)).trans hkF,(h2 _ (by omega) (by omega)).trans hvF,(h2 _ (by omega) (by omega)).trans hlF⟩
   ·rintro k bN ES A ⟨h1,h2,h3⟩;have:=CO k bN;rw[ES,if_neg (by decide)]at this;exact⟨h1,h2,by rw[this];exact h3⟩
   ·rintro k bN ES A ⟨h1,h2,h3⟩;have gR:=CO k bN;rw[ES,if_pos rfl]at gR;clear ES;generalize L[k]=z at*;obtain⟨zu,zd,zo,⟨z1,z2,z3,z4⟩,zv,zh,zr,zn,zi,zt,zs,zq⟩:=z;simp only[fB,aq,bu];dsimp only at gR;have hkA:=(h2 (O6.N+1) (by omega) (by omega)).trans K_;refine VY.round (ps:=[40]) hkA ((h2 (O6.N+2) (by omega) (by omega)).trans Sh) kz (by rw[gO]) rfl rfl ?_;rw[Bm,yl];refine Ih.region ?_;simp only[su];refine ab @cX ?_;refine RdA.al ?_;rintro A1 ⟨so,hzA,GJ⟩;have Lw:=so.at h3 (hk:=by omega);refine⟨rfl,so.at hkA (hk:=by omega),?_⟩;refine Ih.block (Ih.region ?_);have hw:=YV (g k) zs (A1.set (O6.N+1) (.obj (.loop {r with state:=.busy})));simp only[aq]at hw;have lK:=τ A1 (O6.N+1) (.obj (.loop {r with state:=.busy}));refine aH @cX @Lw @hzA ?_;refine π hw ?_;clear hw;rintro _ Ox ⟨rfl,eO⟩;rw[eO];clear eO Ox
    rw[<-gR];refine ao @cX @Lw ?_;refine⟨rfl,(ρ _ _ (by omega)).trans lK,rfl,?_,?_,?_⟩
    ·show F.N<=A1.N;omega
    ·intro i hi hne;by_cases e:i=O6.N+1
     ·subst e;rw[τ,K_]
      congr 3
      rw[<-gu]
     ·rw[ρ _ _ e,ρ _ _ hne,ρ _ _ e,so.hp i (by omega)];exact h2 i hi hne
    ·rw[ρ _ _ (by omega)];exact τ _ _ _
  rintro _ O7 js7 ⟨eV,vg,hc7,al2⟩;have o7:=aG.trans (aY.trans eV);have Lc:=cz.zD (bB.ll (aY.trans eV));refine VM.HQ fun D=>?_
  refine ο @cX @hc7 ?_;refine VL.grow aa (.inl rfl) (te:=⟨_,7,96,_⟩) (dx:=.slice 42) (q:=.sl 1 [.str k1,.str k2,.str k3,.str k4,.v (.int .i64 j),.str v,.v (.int .i64 (yU ⟨up,dp,od,⟨k1,k2,k3,k4⟩,v,hd,rv,nn,iv,PY,s,rd⟩ (L.zip V)))] .full) (j:=1) (ds:=[.str k1,.str k2,.str k3,.str k4,.v (.int .i64 j),.str v,.v (.int .i64 (yU ⟨up,dp,od,⟨k1,k2,k3,k4⟩,v,hd,rv,nn,iv,PY,s,rd⟩ (L.zip V)))]) Lc rfl rfl (by rw[KN];rfl) XC.1.1 (by rw[KN];rfl) trivial (by dsimp only;omega) (by simp only[maxLen];omega) o7.N rfl rfl rfl rfl ?_;intro m8 O8 gQ rC _ _;refine ab @cX ?_;refine VM.HQ fun D=>?_
  refine ο @cX @cB ?_;exact⟨rfl,(j+1,m8),rfl,⟨aM,Lc.ee o7 (aec _) rC,by rw[gN,Mn,anq,List.flatMap_singleton];exact gQ,al2.bH Lc rC⟩,by dsimp only;omega⟩
 rintro t O2 js ⟨aC,gu,Vy⟩;refine VM.rZ fun D=>?_
 refine ab @cX ?_;refine kO.mk ?_;refine VM.HQ fun D=>?_
 refine ν @cX ?_;refine⟨.inr rfl,Vy.1,fun j hj=>(Vy.2 j hj).2.2,fun O' hn hi=>⟨_,rfl,⟨?_,fun i h=>?_⟩,gu.marks hn hi fun j hj=>(Vy.2 j hj).2.2⟩⟩
 ·rw[hn];exact aC.N
 ·rw[hi i (fun hm=>by have:=(Vy.2 i hm).1;omega)];exact aC.hp i h
theorem Tu:YX:=by
 intro L tk O hL hk;refine VF.Zm (Zn L tk O hL hk) ?_;rintro m O' ⟨hg,hr⟩;rcases hr with⟨h1,h2,rfl | rfl⟩ | ⟨k,c,rfl,h1,h2,h3⟩
 ·exact .inl ⟨⟨.nil,by rw[h1,h2]⟩,hg⟩
 ·exact .inl ⟨⟨.full,by rw[h1,h2]⟩,hg⟩
 ·obtain⟨sp,h4,h5⟩:=h3.cells;exact .inr ⟨k,0,_,c,(cQ L).length*7,_,rfl,h4,by rw[Mn];omega,⟨_,by rw[anp,anB (by omega),ajB (by omega)]⟩,hg.kill h3.lo⟩
set_option linter.defProp false in
def cu:=ZA rY<|ZA cX<|ZA jr<|ZA T3<|ZA KN<|ZA XC<|ZA T37<|ZA T38<|ZA zH<|ZA XD<|ZA FJ XB
def eR (n:Nat) (R:Nat->List Int) (T:Nat->Tok):List MV:=(List.range n).map fun u=>.sl (R u).length ((R u).map mi) (T u)
theorem iI (n:Nat) (R:Nat->List Int) (T:Nat->Tok):(eR n R T).length=n:=by simp[eR]
theorem qk {n:Nat} (R:Nat->List Int) (T:Nat->Tok) {u:Nat} (h:u<n):(eR n R T)[u]?=some (.sl (R u).length ((R u).map mi) (T u)):=by
 unfold eR;rw[Mm,anb h];rfl
theorem DE (n:Nat):eR n (fun _=>[]) (fun _=>.nil)=List.replicate n (.sl 0 [] .nil):=
 List.eq_replicate_iff.2 ⟨iI _ _ _,fun b hb=>by
  obtain⟨u,_,rfl⟩:=ane.1 hb;rfl⟩
theorem ir {n:Nat} {R R':Nat->List Int} (T:Nat->Tok) (h:∀u,u<n->R u=R' u):eR n R T=eR n R' T:=by
 unfold eR;refine anD fun u hu=>?_
 rw[h u (ajA.1 hu)]
theorem He {n:Nat} {R R':Nat->List Int} (T:Nat->Tok) {u:Nat} {x:Int} (t:Tok) (hu:u<n) (h1:R' u=R u++[x]) (h:∀v,v<n->v≠u->R' v=R v):
  (eR n R T).set u (.sl ((R u).length+1) ((R u).map mi++[mi x]) t)=eR n R' (fun v=>if v=u then t else T v):=by
 refine anH fun i=>?_
 rw[List.getElem?_set,iI];by_cases e:u=i
 ·subst e;rw[if_pos rfl,if_pos hu,qk _ _ hu,h1,if_pos rfl,Mn,ajw];rfl
 ·rw[if_neg e];by_cases hi:i<n
  ·rw[qk _ _ hi,qk _ _ hi,h i hi (Ne.symm e),if_neg (Ne.symm e)]
  ·rw[ahZ (by rw[iI];omega),ahZ (by rw[iI];omega)]
def yr (n:Nat) (T:Nat->Tok) (B:Nat) (O:VH):Prop:=(∀u,u<n->App O B 1 (T u))/\∀u v,u<n->v<n->u≠v->∀i,Tok.id (T u)=some i->Tok.id (T v)≠some i
theorem yr.ge {n B:Nat} {T:Nat->Tok} {O A:VH} (h:yr n T B O) (g:O.Ge A):yr n T B A:=⟨fun u hu=>(h.1 u hu).ge g,h.2⟩
theorem r3 {A B:VH} {b sz:Nat} {t:Tok} (h:App A b sz t) (hi:∀i,b<=i->B.hp i=A.hp i) (hn:A.N<=B.N):App B b sz t:=by
 cases t with
 | own t k=>
   obtain⟨g1,g2,g3,g4⟩:=h;exact⟨g1,(hi t g3).trans g2,g3,by omega⟩
 | _=>exact h
theorem yr.zero (n B:Nat) (O:VH):yr n (fun _=>.nil) B O:=⟨fun u _=>trivial,fun u v _ _ _ i h=>by cases h⟩
theorem yr.put {n B:Nat} {T:Nat->Tok} {O A:VH} {u:Nat} (h:yr n T B O) (hu:u<n) (hB:B<=O.N) (hA:A.N=(O.after (T u)).N) (hi:∀i,B<=i->A.hp i=(O.after (T u)).hp i):yr n (fun v=>if v=u then .own O.N 1 else T v) B A:=by
 have cy:=h.1 u hu;refine⟨fun w hw=>r3 (A:=O.after (T u)) ?_ hi (by omega),?_⟩
 ·dsimp only;by_cases e:w=u
  ·rw[if_pos e];exact App.after (by omega)
  ·rw[if_neg e];exact cc.app (cc.after cy) (h.1 w hw) (fun i e'=>h.2 u w hu hw (Ne.symm e) i e')
 ·intro w x hw hx hne i hi dA;dsimp only at hi dA;by_cases e:w=u
  ·rw[if_pos e]at hi;injection hi with hi;subst hi;rw[if_neg (fun e'=>hne (e.trans e'.symm))]at dA;have:=((h.1 x hx).nE dA).2;omega
  ·rw[if_neg e]at hi;by_cases e':x=u
   ·rw[if_pos e']at dA;injection dA with dA;subst dA;have:=((h.1 w hw).nE hi).2;omega
   ·rw[if_neg e']at dA;exact h.2 w x hw hx hne i hi dA
abbrev xg:=List (Int×List Int×Tok×Nat)
def r4 (M:xg):vE:=M.map fun p=>(mi p.1,.sl p.2.1.length (p.2.1.map mi) p.2.2.1,p.2.2.2)
def m_ (k:Int):xg->Option (List Int×Tok)
 | []=>none
 | p::M=>if k==p.1 then some (p.2.1,p.2.2.1)else m_ k M
def Hf (k:Int):xg->Nat
 | []=>0
 | p::M=>if k==p.1 then 0 else Hf k M+1
def tC (k:Int) (l:List Int) (t:Tok) (ck:Nat):xg->xg
 | []=>[(k,l,t,ck)]
 | p::M=>if k==p.1 then(p.1,l,t,p.2.2.2)::M else p::tC k l t ck M
def ckR (k:Int) (ck:Nat) (M:xg):Nat:=if(m_ k M).isSome then ck else ck+1
def rwM (x:Option (List Int×Tok)):MV:=match x with
 | some (l,t)=>.sl l.length (l.map mi) t
 | none=>.sl 0 [] .nil
theorem L_ (k:Int):∀(M:xg) (i:Nat),qt (.int .i64) (mi k) (r4 M) i=some ((m_ k M).map fun x=>(i+Hf k M,rwM (some x)))
 | [],i=>rfl
 | p::M,i=>by
   have ih:=L_ k M (i+1)
   have e:qt (.int .i64) (mi k) (r4 (p::M)) i=match(if IntKind.i64=IntKind.i64 then some (k==p.1)else none)with
    | some true=>some (some (i,.sl p.2.1.length (p.2.1.map mi) p.2.2.1))
    | some false=>qt (.int .i64) (mi k) (r4 M) (i+1)
    | none=>none:=rfl
   rw[e,if_pos rfl,m_,Hf];cases h:k==p.1
   ·dsimp only;rw[ih,if_neg (by decide),if_neg (by decide),show i+1+Hf k M=i+(Hf k M+1) by omega]
   ·rfl
theorem JV (k:Int) (l:List Int) (t:Tok) (ck:Nat):∀M:xg,r4 (tC k l t ck M)=if(m_ k M).isSome then setAt (r4 M) (Hf k M) (mi k) (.sl l.length (l.map mi) t)else r4 M++[(mi k,.sl l.length (l.map mi) t,ck)]
 | []=>rfl
 | p::M=>by
   have ih:=JV k l t ck M;rw[tC,m_,Hf];cases h:k==p.1
   ·simp only[anr,if_false];rw[show r4 (p::tC k l t ck M)=(mi p.1,.sl p.2.1.length (p.2.1.map mi) p.2.2.1,p.2.2.2)::r4 (tC k l t ck M)from rfl,ih];cases(m_ k M).isSome
    ·rfl
    ·simp[r4,setAt]
   ·have h':k=p.1:=by simpa using h
    subst h';rfl
theorem Vz {tab:cg} {O:VH} {t kt et:TypeId} {a b' c d:Nat} {z y:List MV} {b ck:Nat} {M:xg} {k:Int} {te:cM} (h:tab t=some ⟨.map kt et,a,b',z⟩) (hk:tab kt=some ⟨.int .i64,c,d,y⟩) (he:tab et=some te) (hz:xA te=some (.sl 0 [] .nil)) (hb:O.hp b=some (.map (r4 M) ck)):
  ig tab O t (.map b) (.v (.int .i64 k)) false=some (rwM (m_ k M)):=by
 have hj:=L_ k M 0;rw[aq]at hj;unfold ig;simp only[h,hk,he,anm,mapOf,hb,Option.bind_some,hj,yy,decide_true];cases m_ k M with
 | none=>simp only[anK,hz,anm];rfl
 | some x=>rfl
theorem ajk {tab:cg} {O:VH} {t kt et:TypeId} {a b' c d:Nat} {z y:List MV} {b ck:Nat} {M:xg} {k:Int} {l:List Int} {tk:Tok} {n:Nat} {cs:List MV} (h:tab t=some ⟨.map kt et,a,b',z⟩) (hk:tab kt=some ⟨.int .i64,c,d,y⟩) (hb:O.hp b=some (.map (r4 M) ck)) (hn:n=l.length) (hc:cs=l.map mi):
  eB tab O t (.map b) (.v (.int .i64 k)) (.sl n cs tk)=some (O.set b (.map (r4 (tC k l tk ck M)) (ckR k ck M))):=by
 subst hn;subst hc
 have hj:=L_ k M 0;rw[aq]at hj;unfold eB ckR;rw[JV,aq];simp only[h,hk,anm,hb,hj,yy,decide_true];cases m_ k M with
 | none=>rfl
 | some x=>simp
theorem Qk (k:Int) (l:List Int) (t:Tok) (ck:Nat) (k':Int):∀M:xg,m_ k' (tC k l t ck M)=if k'=k then some (l,t)else m_ k' M
 | []=>by
   show(if k'==k then some (l,t)else none)=if k'=k then some (l,t)else none
   by_cases e:k'=k
   ·rw[if_pos (by simp[e]),if_pos e]
   ·rw[if_neg (by simpa using e),if_neg e]
 | p::M=>by
   have ih:=Qk k l t ck k' M;rw[tC];cases h:k==p.1
   ·simp only[anr,if_false];rw[m_,ih,m_];by_cases e:k'=k
    ·subst e;simp[h]
    ·simp only[if_neg e]
   ·have h':k=p.1:=by simpa using h
    subst h';rw[if_pos rfl,m_,m_];by_cases e:k'=p.1
    ·rw[if_pos (by simp[e]),if_pos e]
    ·rw[if_neg (by simpa using e),if_neg e,if_neg (by simpa using e)]
def Eh (M:xg) (B:Nat) (O:VH):Prop:=(∀p∈M,App O B 1 p.2.2.1)/\M.Pairwise fun p q=>∀i,Tok.id p.2.2.1=some i->Tok.id q.2.2.1≠some i
theorem Eh.ge {M:xg} {B:Nat} {O A:VH} (h:Eh M B O) (g:O.Ge A):Eh M B A:=⟨fun p hp=>(h.1 p hp).ge g,h.2⟩
theorem Hg {k:Int} {l:List Int} {t:Tok}:∀{M:xg},m_ k M=some (l,t)->∃p∈M,p.2.1=l/\p.2.2.1=t
 | [],h=>by cases h
 | p::M,h=>by
   rw[m_]at h;split at h
   ·injection h with h;injection h with h1 h2;exact⟨p,ajz,h1,h2⟩
   ·obtain⟨q,h1,h2⟩:=Hg h;exact⟨q,ah0 _ h1,h2⟩
theorem Eh.app {M:xg} {B:Nat} {O:VH} (h:Eh M B O) {k:Int} {l:List Int} {t:Tok} (hk:m_ k M=some (l,t)):App O B 1 t:=by
 obtain⟨p,h1,_,rfl⟩:=Hg hk;exact h.1 p h1
theorem Eh.put {B:Nat} {O A:VH} {k:Int} {l:List Int} {ck:Nat} {tk:Tok}:∀{M:xg},Eh M B O->(tk=match m_ k M with | some x=>x.2 | none=>.nil)->B<=O.N->App O B 1 tk->A.N=(O.after tk).N->(∀i,B<=i->A.hp i=(O.after tk).hp i)->Eh (tC k l (.own O.N 1) ck M) B A
 | [],h,ht,hB,ha,hn,hi=>⟨fun p hp=>by
   rw[ahW.1 hp];exact r3 (App.after hB) hi (by omega),List.pairwise_singleton _ _⟩
 | p::M,h,ht,hB,ha,hn,hi=>by
   obtain⟨h1,h2⟩:=h;obtain⟨h3,h4⟩:=anF.1 h2;have np:App A B 1 (.own O.N 1):=r3 (App.after hB) hi (by omega);rw[m_]at ht;rw[tC];cases e:k==p.1
   ·rw[e,if_neg (by decide)]at ht;rw[if_neg (by decide)];have ih:=Eh.put (k:=k) (l:=l) (ck:=ck) (M:=M) ⟨fun q hq=>h1 q (ah0 _ hq),h4⟩ ht hB ha hn hi
    have hne:∀i,Tok.id tk=some i->Tok.id p.2.2.1≠some i:=fun i e1 e2=>by
     cases hl:m_ k M with
     | none=>rw[hl]at ht;rw[ht]at e1;cases e1
     | some x=>
       rw[hl]at ht;obtain⟨x1,x2⟩:=x;obtain⟨q,hq,_,si⟩:=Hg hl;dsimp only at ht;exact h3 q hq i e2 (by rw[si, <-ht];exact e1)
    have hp:=cc.app (cc.after ha) (h1 p ajz) hne;refine⟨fun q hq=>?_,anF.2 ⟨fun q hq i e1 e2=>?_,ih.2⟩⟩
    ·rcases anf.1 hq with rfl | hq
     ·exact r3 hp hi (by omega)
     ·exact ih.1 q hq
    ·have ei:=((h1 p ajz).nE e1).2
     have:q.2.2.1= .own O.N 1\/∃q'∈M,q'.2.2.1=q.2.2.1:=by
      clear ih h1 h2 h3 h4 ht hne hp e1 e2;induction M with
      | nil=>rw[tC,ahW]at hq;rw[hq];exact .inl rfl
      | cons r M ihM=>
        rw[tC]at hq;split at hq
        ·rcases anf.1 hq with rfl | hq
         ·exact .inl rfl
         ·exact .inr ⟨q,ah0 _ hq,rfl⟩
        ·rcases anf.1 hq with rfl | hq
         ·exact .inr ⟨_,ajz,rfl⟩
         ·rcases ihM hq with h | ⟨q',g1,g2⟩
          ·exact .inl h
          ·exact .inr ⟨q',ah0 _ g1,g2⟩
     rcases this with h | ⟨q',g1,g2⟩
     ·rw[h]at e2;injection e2 with e2;omega
     ·exact h3 q' g1 i e1 (by rw[g2];exact e2)
   ·rw[e,if_pos rfl]at ht;dsimp only at ht;rw[if_pos rfl];refine⟨fun q hq=>?_,anF.2 ⟨fun q hq i e1 e2=>?_,h4⟩⟩
    ·rcases anf.1 hq with rfl | hq
     ·exact np
     ·exact r3 (cc.app (cc.after ha) (h1 q (ah0 _ hq)) fun i e1=>h3 q hq i (by rw[<-ht];exact e1)) hi (by omega)
    ·injection e1 with e1;subst e1;have:=((h1 q (ah0 _ hq)).nE e2).2;omega
def pq (X:List Ch) (k:Ky):Option Nat:=X.findIdx? fun c=>rG c.k k
theorem Tv (X:List Ch) (c:Ch) (k:Ky):pq (X++[c]) k=match pq X k with
  | some i=>some i
  | none=>if rG c.k k then some X.length else none:=by
 unfold pq;rw[List.findIdx?_append];cases h:X.findIdx? fun c=>rG c.k k with
 | some i=>rfl
 | none=>
   cases h2:rG c.k k<;>simp[List.findIdx?_cons,h2]
theorem Hh {X:List Ch} {k:Ky} {i:Nat} (h:pq X k=some i):i<X.length:=by
 unfold pq at h;rw[List.findIdx?_eq_some_iff_getElem]at h;exact h.1
def vx (X:List Ch) (a:Int):Nat->List Int
 | 0=>[]
 | j+1=>vx X a j++match X[j]? with
   | some c=>if c.at'=a then[(j:Int)]else[]
   | none=>[]
theorem Ql (X:List Ch) (a:Int):∀(j:Nat) (x:Int),x∈vx X a j ↔ ∃(i:Nat) (c:Ch),x=i/\i<j/\X[i]?=some c/\c.at'=a
 | 0,x=>⟨(fun h=>by cases h),fun⟨i,c,_,h,_⟩=>by omega⟩
 | j+1,x=>by
   rw[vx,ahY,Ql X a j x];constructor
   ·rintro(⟨i,c,h1,h2,h3⟩ | h)
    ·exact⟨i,c,h1,by omega,h3⟩
    ·cases hX:X[j]? with
     | none=>rw[hX]at h;cases h
     | some c=>
       rw[hX]at h;dsimp only at h;split at h
       ·rename_i hc;exact⟨j,c,ahW.1 h,by omega,hX,hc⟩
       ·cases h
   ·rintro⟨i,c,h1,h2,h3,h4⟩;by_cases e:i=j
    ·subst e;refine .inr ?_;rw[h3];dsimp only;rw[if_pos h4,h1];exact ant _
    ·exact .inl ⟨i,c,h1,by omega,h3,h4⟩
theorem Hi (X:List Ch) (a:Int):∀j,(vx X a j).length<=j
 | 0=>aec _
 | j+1=>by
   have:=Hi X a j;rw[vx,Mn];split
   ·split<;>simp<;>omega
   ·simp;omega
def tE (l:List Int) (k:Nat):List Int:=if l.contains (k:Int)then l else l++[(k:Int)]
theorem Qm (l:List Int) (k:Nat):tE (tE l k) k=tE l k:=by
 unfold tE;by_cases h:l.contains (k:Int)=true
 ·rw[if_pos h,if_pos h]
 ·rw[if_neg h,if_pos (by simp)]
theorem JW (l:List Int) (k:Nat):(tE l k).length<=l.length+1:=by
 unfold tE;split<;>simp
def Hj (X:List Ch) (L:List Bn) (a:Int):Nat->List Int
 | 0=>[]
 | j+1=>match L[j]? with
   | some b=>if 0<j/\b.up=a then match pq X b.k with
     | some k=>tE (Hj X L a j) k
     | none=>Hj X L a j
     else Hj X L a j
   | none=>Hj X L a j
theorem Qn (X:List Ch) (L:List Bn) (a:Int):∀j,(Hj X L a j).length<=j
 | 0=>aec _
 | j+1=>by
   have:=Qn X L a j;rw[Hj];split
   ·split
    ·split
     ·have:=JW (Hj X L a j) (by assumption);omega
     ·omega
    ·omega
   ·omega
def gF (X:List Ch) (L:List Bn) (j:Nat) (u:Nat):List Int:=match X[u]? with
 | some c=>Hj X L c.at' j
 | none=>[]
theorem age (l:List Int) (k:Int) (tk:Tok) (O:VH) (hl:l.length<=1000000):VF Tryz.prog 34 [.sl l.length (l.map mi) tk,mi k] O (aE fun m O'=>(∃i:Int,m=mi i/\decide (0<=i)=l.contains k)/\O'=O):=by
 have eP:de (bX Tryz.prog) 29 (.sl l.length (l.map mi) tk)=some (.v (.int .i64 l.length)):=bL jr;have ox:∀(j:Nat) (y:Int),l[j]?=some y->(l.map mi)[j]?=some (MV.v (.int .i64 y)):=fun j y h=>by rw[Mm,h];rfl
 have yu:(l.map mi).length=l.length:=Ml _;rw[aq];generalize l.map mi=cs at*;refine χ 19 [.tmp 4] Tryz.func34 ?_;refine κ @cu ?_;refine Ξ [] (fun _:Unit=>[]) (fun _ O'=>O'=O/\l.contains k=false) ?_ ?_
 ·refine ξ @cu @eP ?_;refine υ ?_;refine Δ [8] [0,1,7] (fun j:Nat=>[mi j]) (fun j O'=>O'=O/\j<=l.length/\(l.take j).contains k=false) (fun j=>l.length - j) (0) ?_ ?_
  ·exact⟨rfl,VI _,rfl⟩
  rintro j Ox ⟨eO,hj,ec⟩;rw[eO];clear eO Ox
  by_cases aM:j<l.length;rotate_left
  ·obtain rfl:j=l.length:=by omega
   rw[aed]at ec;refine ν @cu ?_;exact aB.mk () ⟨rfl,ec⟩
  have cB:((j:Int)+1)=((j+1:Nat):Int):=by omega
  have bE:=ox j l[j] (zW aM);have cT:l.take (j+1)=l.take j++[l[j]]:=by rw[aee aM]
  have Dw:=aeb aM;generalize l[j]=y at*;refine κ @cu ?_;refine κ @cu ?_;refine ω (υ ?_);refine κ @cu ?_;cases hy:k==y
  ·refine ι (cJ @cu @bE @yu @hy ?_);refine ο @cu @cB ?_;refine az.N (j+1) ⟨rfl,aM,?_⟩;rw[cT,anz,ec,Bool.false_or];simpa using hy
  ·refine ι (cJ @cu @bE @yu @hy ?_);refine⟨j,rfl,?_⟩;have e:k=y:=by simpa using hy
   subst e;simpa using Dw
 rintro _ Ox ⟨eO,ec⟩;rw[eO];clear eO Ox
 refine ν @cu ?_;exact⟨-1,rfl,by rw[ec];rfl⟩
theorem agf (l:List Int) (k:Int) (tk:Tok) (O:VH) (hl:l.length<=1000000):VF Tryz.prog 18 [.sl l.length (l.map mi) tk,mi k] O (aE fun m O'=>m=mb (l.contains k)/\O'=O):=by
 have h:=age l k tk O hl;rw[aq]at h ⊢;refine Θ 9 [.tmp 4] Tryz.func18 ?_;refine ab @cu ?_;refine π (h) ?_;rintro _ O2 ⟨⟨i,rfl,hi⟩,e2⟩;rw[e2];clear e2 O2
 rw[aq];have rF:decide (i>=0)=l.contains k:=hi;refine aH @cu @hi @rF ?_;trivial
structure yY (X:List Ch) (j:Nat) (bn bo:Nat) (O:VH):Prop where
 n:∃M ck,O.hp bn=some (.map (cS M) ck)/\nT 4 M/\∀k:Ky,iD (dk k) M=(pq (X.take j) k).map fun i=>mi (i:Nat)
 o:∃M ck,O.hp bo=some (.map (r4 M) ck)/\Eh M (bo+1) O/\∀a:Int,((m_ a M).map (·.1)).getD []=vx X a j
theorem yY.ge {X:List Ch} {j bn bo:Nat} {O A:VH} (h:yY X j bn bo O) (g:O.Ge A) (h1:bn<O.N) (h2:bo<O.N):yY X j bn bo A:=by
 obtain⟨⟨M,c,m1,m2,m3⟩,⟨M',c',o1,o2,o3⟩⟩:=h;exact⟨⟨M,c,g.at m1,m2,m3⟩,⟨M',c',g.at o1,o2.ge g,o3⟩⟩
theorem yY.fr {X:List Ch} {j bn bo q:Nat} {cs:List MV} {O A:VH} (h:yY X j bn bo O) (hq:O.hp q=some (.cells cs)) (hn:O.N<=A.N) (hi:∀i,i<O.N->i≠q->A.hp i=O.hp i) (h1:bn<O.N) (h2:bo<O.N):yY X j bn bo A:=by
 obtain⟨⟨M,c,m1,m2,m3⟩,⟨M',c',o1,o2,o3⟩⟩:=h;have e1:bn≠q:=fun e=>by rw[e,hq]at m1;cases m1
 have e2:bo≠q:=fun e=>by rw[e,hq]at o1;cases o1
 exact⟨⟨M,c,(hi bn h1 e1).trans m1,m2,m3⟩,⟨M',c',(hi bo h2 e2).trans o1,⟨fun p hp=>(o2.1 p hp).mv hn fun i rF e=>(hi i rF fun e'=>by rw[e',hq]at e;cases e).trans e,o2.2⟩,o3⟩⟩
theorem adK {M:xg} {a:Int} {r:List Int} (h:((m_ a M).map (·.1)).getD []=r):∃t,rwM (m_ a M)= .sl r.length (r.map mi) t/\t=(match m_ a M with | some x=>x.2 | none=>.nil):=by
 cases hl:m_ a M with
 | none=>rw[hl]at h;subst h;exact⟨.nil,rfl,rfl⟩
 | some x=>rw[hl]at h;subst h;exact⟨x.2,rfl,rfl⟩
theorem Zo (M:fI) (p:List Bs×MV×Nat) (l:List Bs):iD l (M++[p])=(iD l M).or (if p.1==l then some p.2.1 else none):=by
 unfold iD;rw[List.find?_append];cases M.find? (·.1==l)with
 | some x=>rfl
 | none=>
   cases h:p.1==l<;>simp[h]
theorem adL {a b:Ky}:(dk a==dk b)=rG a b:=by
 rw[PZ,anL];constructor
 ·intro h;rw[JM (eq_of_beq h)];simp
 ·intro h;rw[eq_of_beq h];simp
def Rm (F:List Int) (G:Nat->List Int) (k m v:Nat):List Int:=if(F.take m).contains (v:Int)then tE (G v) k else G v
theorem ajl {F:List Int} {G:Nat->List Int} {k m u v:Nat} (hm:F[m]?=some (u:Int)) (h:v≠u):Rm F G k (m+1) v=Rm F G k m v:=by
 unfold Rm;rw[am_,hm,anz]
 have:([(u:Int)]:List Int).contains (v:Int)=false:=by
  rw[Bool.eq_false_iff];intro e;have:(v:Int)=u:=by simpa using e
  omega
 rw[show((some (u:Int)).toList:List Int)=[(u:Int)]from rfl,this,Bool.or_false]
theorem ajm {F:List Int} {G:Nat->List Int} {k m u:Nat} (hm:F[m]?=some (u:Int)):Rm F G k (m+1) u=tE (Rm F G k m u) k:=by
 unfold Rm;rw[List.take_add_one,hm,List.contains_append];have:((some (u:Int)).toList:List Int).contains (u:Int)=true:=by simp
 rw[this,Bool.or_true,if_pos rfl];split
 ·rw[Qm]
 ·rfl
theorem adM (F:List Int) (G:Nat->List Int) (k v:Nat):Rm F G k 0 v=G v:=by
 unfold Rm;rw[anE,if_neg (by simp)]
theorem agh (F:List Int) (G:Nat->List Int) (k m v:Nat):(Rm F G k m v).length<=(G v).length+1:=by
 unfold Rm;split
 ·exact JW _ _
 ·omega
theorem VA (X:List Ch) (L:List Bn) (j u:Nat):(gF X L j u).length<=j:=by
 unfold gF;split
 ·exact Qn _ _ _ _
 ·exact VI _
theorem adN {X:List Ch} {L:List Bn} {j u:Nat} {b:Bn} {c:Ch} (hb:L[j]?=some b) (hu:X[u]?=some c):gF X L (j+1) u=if 0<j/\b.up=c.at' then match pq X b.k with
  | some k=>tE (gF X L j u) k
  | none=>gF X L j u
 else gF X L j u:=by
 unfold gF;rw[hu];dsimp only;rw[Hj,hb]<;>rfl
set_option maxHeartbeats 8000000 in
theorem Qo (L:List Bn) (X:List Ch) (tk tx:Tok) (hL:L.length<=1000) (hX:X.length<=1000) (BQ:∀b∈L,∀s∈dk b.k,s.length<=maxLen) (BB:∀c∈X,∀s∈dk c.k,s.length<=maxLen) (O:VH):
  VF Tryz.prog 7 [.sl L.length (L.flatMap fB) tk,.sl X.length (X.flatMap iy) tx] O (aE fun m O'=>(∃T t,m= .sl X.length (eR X.length (gF X L L.length) T) t)/\O.Ge O'):=by
 have hlX:=aX oe X;have hvX:de (bX Tryz.prog) 23 (.sl X.length (X.flatMap iy) tx)=some (.v (.int .i64 X.length)):=bL KN;have hlL:=aX lF L;have hvL:de (bX Tryz.prog) 22 (.sl L.length (L.flatMap fB) tk)=some (.v (.int .i64 L.length)):=bL FJ;have jP:=fun O'=>JL (tab:=bX Tryz.prog) zH jr O' X.length (by omega) (by omega)
 refine χ 103 [.tmp 4] Tryz.func7 ?_;refine κ @cu ?_;refine κ @cu ?_;refine VC.gen ?_;intro O1 e1;obtain⟨aJ,cW,cz,cE⟩:=ib _ _ e1;clear e1;refine Ξ [0,1,5,6] (fun _:Unit=>[.sl L.length (L.flatMap fB) tk,.sl X.length (X.flatMap iy) tx,.map O.N,.map (O.N+1)]) (fun _ O'=>O.Ge O'/\O.N+2<=O'.N/\yY X X.length O.N (O.N+1) O') ?_ ?_
 ·refine ξ @cu @hvX ?_;refine υ ?_;refine Δ [22] [0,1,5,6,20,21] (fun j:Nat=>[mi j]) (fun j O'=>j<=X.length/\O.Ge O'/\O.N+2<=O'.N/\yY X j O.N (O.N+1) O') (fun j=>X.length - j) (0) ?_ ?_
  ·exact⟨VI _,aJ,by omega,⟨[],0,cz,⟨by simp,by simp⟩,fun k=>rfl⟩,⟨[],0,cE,⟨by simp,List.Pairwise.nil⟩,fun a=>rfl⟩⟩
  rintro j O3 ⟨hj,aG,gE,hN3⟩;by_cases aM:j<X.length;rotate_left
  ·obtain rfl:j=X.length:=by omega
   refine ν @cu ?_;exact aB.mk () ⟨aG,gE,hN3⟩
  have cB:((j:Int)+1)=((j+1:Nat):Int):=by omega
  have bE:=cP oe X j aM;have Pl:=BB X[j] (aeb aM);have cT:X.take (j+1)=X.take j++[X[j]]:=by rw[aee aM]
  have qb:∀a,vx X a (j+1)=vx X a j++if X[j].at'=a then[(j:Int)]else[]:=fun a=>by rw[vx,zW aM]
  have Ma:=fun k=>Tv (X.take j) X[j] k
  rw[<-cT,ank,ann hj]at Ma;clear cT;generalize X[j]=c at*;obtain⟨⟨k1,k2,k3,k4⟩,at',v,s⟩:=c;simp only[iy,aq]at bE;dsimp only at qb Ma;refine κ @cu ?_;refine κ @cu ?_;refine ω (υ ?_);refine ξ @cu @bE ?_;refine VC.al ?_;rintro O4 ⟨aY,kc,h_⟩;have hN4:=hN3.ge aY (by omega) (by omega);have gZ:=aG.trans aY;clear hN3;obtain⟨⟨M,ck,m1,m2,m3⟩,⟨W,cw,w1,w2,w3⟩⟩:=hN4;refine Ξ [0,1,5,6,7,8,20,21,22] (fun _:Unit=>[.sl L.length (L.flatMap fB) tk,.sl X.length (X.flatMap iy) tx,.map O.N,.map (O.N+1),mi j,.ptr O3.N 0,.sl X.length (X.flatMap iy) tx,mi X.length,mi j]) (fun _ O'=>O4.N<=O'.N/\(∀i,i≠O.N->O'.hp i=O4.hp i)/\∃M ck,O'.hp O.N=some (.map (cS M) ck)/\nT 4 M/\∀k:Ky,iD (dk k) M=(pq (X.take (j+1)) k).map fun i=>mi (i:Nat)) ?_ ?_
  ·refine ξ @cu @kc ?_;refine VL.hold (.inl ⟨rfl,.inl rfl⟩) rfl rfl (fJ.kI oN aa (l:=dk ⟨k1,k2,k3,k4⟩) (te:=⟨_,1,8,[.v (.int .i64 0)]⟩) Tryz.underlying37 T3 rfl rfl m1 m2 rfl rfl Pl) (WL.sound aa ?_);have eC:=m3 ⟨k1,k2,k3,k4⟩;have am5:=Ma ⟨k1,k2,k3,k4⟩;cases hid:pq (X.take j) ⟨k1,k2,k3,k4⟩with
   | some i0=>
     rw[hid]at eC;simp only[anm]at eC;rw[eC,aq];refine ab @cu ?_;refine ν @cu ?_;refine aB.mk () ⟨aec _,fun i _=>rfl,M,ck,m1,m2,fun k=>?_⟩;rw[m3 k,Ma k];cases h5:pq (X.take j) k with
     | some i5=>rfl
     | none=>
       dsimp only;cases h6:rG ⟨k1,k2,k3,k4⟩ k
       ·rfl
       ·rw[PZ]at h6;rw[<-eq_of_beq h6,hid]at h5;cases h5
   | none=>
     rw[hid]at eC;simp only[anK]at eC;rw[eC];refine ab @cu ?_;refine ο @cu @kc ?_;refine VL.oF rfl rfl (oE.i_ oN (l:=dk ⟨k1,k2,k3,k4⟩) (b:=O.N) (ck:=ck) (M:=M) Tryz.underlying37 rfl m1 m2 rfl rfl Pl rfl) (fun brk hb=>by cases hb) (WL.sound aa ?_);have kY:=qB (y:=.v (.int .i64 j)) (ck:=ck) m2 (l:=dk ⟨k1,k2,k3,k4⟩) rfl Pl
     have jX:(M.any fun p=>p.1==dk ⟨k1,k2,k3,k4⟩)=false:=by
      unfold iD at eC;rw[Option.map_eq_none_iff,List.find?_eq_none]at eC;rw[List.any_eq_false];exact eC
     unfold i_ at kY;unfold i_ KI;rw[jX]at kY ⊢;refine ab @cu ?_;refine aB.mk () ⟨aec _,fun i hi=>ρ _ _ hi,_,_,τ _ _ _,kY,fun k=>?_⟩;rw[Zo,m3 k,Ma k];dsimp only;rw[adL];cases h5:pq (X.take j) k with
     | some i5=>rfl
     | none=>
       dsimp only;cases h6:rG ⟨k1,k2,k3,k4⟩ k<;>rfl
  rintro _ O5 ⟨e_,gM,hN5⟩;have mI:=(gM O3.N (by omega)).trans kc;have hw5:=(gM (O.N+1) (by omega)).trans w1;have SL:Eh W (O.N+2) O5:=⟨fun p hp=>r3 (w2.1 p hp) (fun i hi=>gM i (by omega)) e_,w2.2⟩;obtain⟨t,jT,ht⟩:=adK (w3 at');have eC:ig (bX Tryz.prog) O5 38 (.map (O.N+1)) (.v (.int .i64 at')) false=some (rwM (m_ at' W)):=Vz T38 T3 jr rfl hw5;rw[jT]at eC
  have cy:App O5 (O.N+2) 1 t:=by
   cases hl:m_ at' W with
   | none=>rw[hl]at ht;rw[ht];trivial
   | some x=>rw[hl]at ht;rw[ht];exact SL.app (show m_ at' W=some (x.1,x.2)from hl)
  have uv:=Hi X at' j;have al3:=qb at';rw[if_pos rfl]at al3;generalize hr:vx X at' j=r at*;have jB:=aT (tk:=t) (tk':=.full) (n:=r.length) (k:=1) (cs:=r.map mi) (ds:=[.v (.int .i64 j)]) jr T3 cy (by rw[Ml,ana]) rfl rfl (by decide) (by decide) (by omega) (by simp only[maxLen];omega);have hwA:=VH.jD cy hw5 (by simp) (by omega);have lZ:eB (bX Tryz.prog) (O5.after t) 38 (.map (O.N+1)) (.v (.int .i64 at')) (.sl (r.length+1) (r.map mi++[.v (.int .i64 j)]) (.own O5.N 1))=some ((O5.after t).set (O.N+1) (.map (r4 (tC at' (r++[(j:Int)]) (.own O5.N 1) cw W)) (ckR at' cw W))):=ajk T38 T3 hwA (by simp) (by simp[aq]);have gR:=cc.after cy;refine WC.bQ (.held [10]) [(0,.rd),(1,.rd),(2,.rd),(3,.rd),(4,.rd),(5,.rd),(6,.rd),(7,.rd),(8,.one),(9,.one),(10,.one)] ?_;refine aH @cu @mI @eC ?_;refine VL.app jB ?_;refine ao @cu @lZ ?_;obtain⟨M',ck',q1,q2,q3⟩:=hN5;have GJ:=VH.dY O5 t;refine ο @cu @cB ?_;have Hk:∀i,Tok.id t=some i->O.N+2<=i:=fun i e=>(cy.nE e).1
  refine az.N (j+1) ⟨aM,⟨by show O.N<=(O5.after t).N;have:=gZ.N;omega,fun i hi=>?_⟩,by show O.N+2<=(O5.after t).N;omega,⟨M',ck',?_,q2,q3⟩,⟨_,_,τ _ _ _,?_,fun a=>?_⟩⟩
  ·rw[ρ _ _ (by omega),gR.hp i (by have:=gZ.N;omega) (fun e=>by have:=Hk i e;omega),gM i (by omega)];exact gZ.hp i hi
  ·exact(ρ _ _ (by omega)).trans (VH.jD cy q1 (by simp) (by omega))
  ·exact Eh.put (k:=at') SL ht (by omega) cy rfl fun i hi=>ρ _ _ (by omega)
  ·rw[Qk,qb a];by_cases e:a=at'
   ·subst e;rw[if_pos rfl,if_pos rfl,hr];rfl
   ·rw[if_neg e,if_neg (Ne.symm e),ame];exact w3 a
 rintro _ O2 ⟨aC,eJ,hN2⟩;clear cz cE aJ cW O1;refine θ (aH @cu @hvX @jP ?_);refine VC.bx ?_;rintro O3 ⟨aG,iH,gE⟩;rw[<-DE]at iH;have hN3:=hN2.ge aG (by omega) (by omega);have eu:=aC.trans aG;clear hN2;refine Ξ [11] (fun _:Unit=>[.bz O2.N 0 X.length X.length]) (fun _ O'=>O.Ge O'/\O2.N<O'.N/\∃T,O'.hp O2.N=some (.cells (eR X.length (gF X L L.length) T))) ?_ ?_
 ·refine ξ @cu @hvL ?_;refine υ ?_;refine Δ [56] [5,6,11,54,55] (fun j:Nat=>[mi j]) (fun j O'=>j<=L.length/\(∀i,i<O3.N->i≠O2.N->O'.hp i=O3.hp i)/\O3.N<=O'.N/\∃T,O'.hp O2.N=some (.cells (eR X.length (gF X L j) T))/\yr X.length T O3.N O') (fun j=>L.length - j) (0) ?_ ?_
  ·exact⟨VI _,fun _ _ _=>rfl,aec _,_,(by rw[ir _ (R':=fun _=>[]) (fun u hu=>by unfold gF;rw[zW hu];rfl)];exact iH),yr.zero _ _ _⟩
  rintro j O4 ⟨hj,Qp,h_,T,fb,D4⟩;have hN4:=hN3.fr iH h_ Qp (by omega) (by omega);have aY:O.Ge O4:=⟨by have:=eu.N;omega,fun i hi=>(Qp i (by have:=eu.N;omega) (by omega)).trans (eu.hp i hi)⟩;by_cases aM:j<L.length;rotate_left
  ·obtain rfl:j=L.length:=by omega
   refine ν @cu ?_;exact aB.mk () ⟨aY,by omega,T,fb⟩
  have cB:((j:Int)+1)=((j+1:Nat):Int):=by omega
  have bE:=cP lF L j aM;have tT:=BQ L[j] (aeb aM)
  have CO:∀(u:Nat) (c:Ch),X[u]?=some c->gF X L (j+1) u=if 0<j/\L[j].up=c.at' then match pq X L[j].k with
    | some k=>tE (gF X L j u) k
    | none=>gF X L j u
   else gF X L j u:=fun u c hu=>adN (zW aM) hu
  generalize L[j]=b at*;obtain⟨up,dp,od,⟨q1,q2,q3,q4⟩,bv,hd,rv,nn,iv,PY,bs,rd⟩:=b;simp only[fB,aq,bu]at bE;dsimp only at CO;refine κ @cu ?_;refine κ @cu ?_;refine ω (υ ?_);refine ξ @cu @bE ?_;refine VC.al ?_;rintro O5 ⟨bG,mI,e_⟩;have hN5:=hN4.ge bG (by omega) (by omega);have db:=bG.at fb;obtain⟨⟨M,ck,m1,m2,m3⟩,⟨W,cw,w1,w2,w3⟩⟩:=hN5;rw[aed]at m3;refine ξ @cu @mI ?_;refine VL.hold (.inl ⟨rfl,.inl rfl⟩) rfl rfl (fJ.kI oN aa (l:=dk ⟨q1,q2,q3,q4⟩) (te:=⟨_,1,8,[.v (.int .i64 0)]⟩) Tryz.underlying37 T3 rfl rfl m1 m2 rfl rfl tT) (WL.sound aa ?_);have eC:=m3 ⟨q1,q2,q3,q4⟩;cases hid:pq X ⟨q1,q2,q3,q4⟩with
  | none=>
    rw[hid]at eC CO;simp only[anK]at eC;dsimp only at CO
    have nJ:∀u,u<X.length->gF X L (j+1) u=gF X L j u:=fun u hu=>by
     rw[CO u X[u] (zW hu)];split<;>rfl
    have hN5:yY X X.length O.N (O.N+1) O5:=hN4.ge bG (by omega) (by omega);rw[eC];refine ab @cu ?_;by_cases h0:j=0
    ·have e0:((j:Int)==0)=true:=by simp[h0]
     refine ο @cu @e0 ?_;refine ο @cu @cB ?_;refine az.N (j+1) ⟨aM,fun i h1 h2=>(bG.hp i (by omega)).trans (Qp i h1 h2),by omega,T,?_,D4.ge bG⟩;rw[ir T (R:=gF X L (j+1)) (R':=gF X L j) nJ];exact db
    ·have e0:((j:Int)==0)=false:=by simpa using h0
     refine ο @cu @e0 ?_;refine ο @cu @cB ?_;refine az.N (j+1) ⟨aM,fun i h1 h2=>(bG.hp i (by omega)).trans (Qp i h1 h2),by omega,T,?_,D4.ge bG⟩;rw[ir T (R:=gF X L (j+1)) (R':=gF X L j) nJ];exact db
  | some k=>
  rw[hid]at eC CO;simp only[anm]at eC;dsimp only at CO;have am6:=Hh hid;rw[eC,aq];refine ab @cu ?_;by_cases h0:0<j;rotate_left
  ·have e0:((j:Int)==0)=true:=by simp;omega
   have nJ:∀u,u<X.length->gF X L (j+1) u=gF X L j u:=fun u hu=>by
    rw[CO u X[u] (zW hu),if_neg (fun h=>h0 h.1)]
   have hN5:yY X X.length O.N (O.N+1) O5:=hN4.ge bG (by omega) (by omega);refine ο @cu @e0 ?_;refine ο @cu @cB ?_;refine az.N (j+1) ⟨aM,fun i h1 h2=>(bG.hp i (by omega)).trans (Qp i h1 h2),by omega,T,?_,D4.ge bG⟩;rw[ir T (R:=gF X L (j+1)) (R':=gF X L j) nJ];exact db
  have e0:((j:Int)==0)=false:=by simp;omega
  obtain⟨t,jT,ht⟩:=adK (w3 up);have JF:ig (bX Tryz.prog) O5 38 (.map (O.N+1)) (.v (.int .i64 up)) false=some (rwM (m_ up W)):=Vz T38 T3 jr rfl w1;rw[jT]at JF;have hvF:de (bX Tryz.prog) 29 (.sl (vx X up X.length).length ((vx X up X.length).map mi) t)=some (.v (.int .i64 (vx X up X.length).length)):=bL jr;have hFm:=fun x=>Ql X up X.length x
  have hFl:=Hi X up X.length;have L9:∀(m:Nat) (y:Int),(vx X up X.length)[m]?=some y->((vx X up X.length).map mi)[m]?=some (MV.v (.int .i64 y)):=fun m y h=>by rw[Mm,h];rfl
  have al4:((vx X up X.length).map mi).length=(vx X up X.length).length:=Ml _;generalize hFF:vx X up X.length=F at*;generalize F.map mi=FM at*;refine ξ @cu @e0 ?_;refine VC.wc [5,6,11,54,55,56] (fun _:Unit=>[.map O.N,.map (O.N+1),.bz O2.N 0 X.length X.length,.sl L.length (L.flatMap fB) tk,mi L.length,mi j]) (fun _ O'=>O5.N<=O'.N/\(∀i,i<O3.N->i≠O2.N->O'.hp i=O5.hp i)/\∃T,O'.hp O2.N=some (.cells (eR X.length (gF X L (j+1)) T))/\yr X.length T O3.N O') ?_ ?_
  ·refine θ (cJ @cu @mI @JF @hvF ?_);refine υ ?_;refine Δ [79] [5,6,11,14,54,55,56,77,78] (fun m:Nat=>[mi m]) (fun m O'=>m<=F.length/\O5.N<=O'.N/\(∀i,i<O3.N->i≠O2.N->O'.hp i=O5.hp i)/\∃T,O'.hp O2.N=some (.cells (eR X.length (Rm F (gF X L j) k m) T))/\yr X.length T O3.N O') (fun m=>F.length - m) (0) ?_ ?_
   ·exact⟨VI _,aec _,fun _ _ _=>rfl,T,(by rw[ir T (fun u _=>adM F (gF X L j) k u)];exact db),D4.ge bG⟩
   clear db fb D4;rintro m O6 ⟨hm,nH,ot,T6,mQ,ht6⟩;by_cases Qf:m<F.length;rotate_left
   ·obtain rfl:m=F.length:=by omega
    refine ν @cu ?_;refine aB.mk () ⟨nH,ot,T6,?_,ht6⟩;rw[ir T6 (R:=gF X L (j+1)) (R':=Rm F (gF X L j) k F.length)]
    ·exact mQ
    ·intro u hu;rw[CO u X[u] (zW hu)];unfold Rm;rw[aed];by_cases e:up=X[u].at'
     ·rw[if_pos ⟨h0,e⟩,if_pos];rw[List.contains_iff_mem];exact(hFm u).2 ⟨u,X[u],rfl,hu,zW hu,e.symm⟩
     ·rw[if_neg (fun h=>e h.2),if_neg];rw[List.contains_iff_mem];intro h;obtain⟨i,c,a1,a2,a3,a4⟩:=(hFm u).1 h;have:u=i:=by omega
      subst this;rw[zW hu]at a3;injection a3 with a3;rw[a3]at e;exact e a4.symm
   have H7:((m:Int)+1)=((m+1:Nat):Int):=by omega
   obtain⟨u,c,sG,c9,c_,ff⟩:=(hFm F[m]).1 (List.getElem_mem Qf);have hFu:F[m]?=some (u:Int):=by rw[List.getElem?_eq_getElem Qf,sG]
   have hgm:=L9 m u hFu;have hrn:=fun v h=>ajl (G:=gF X L j) (k:=k) (v:=v) hFu h
   have Tw:=ajm (G:=gF X L j) (k:=k) hFu;have hru:=qk (Rm F (gF X L j) k m) T6 c9;have uv:=iI X.length (Rm F (gF X L j) k m) T6;have amy:=agh F (gF X L j) k m u;have amz:=VA X L j u;have JN:=agf (Rm F (gF X L j) k m u) k (T6 u) O6 (by omega);rw[aq]at JN;have gL:=fun t=>He (R:=Rm F (gF X L j) k m) (R':=Rm F (gF X L j) k (m+1)) (x:=(k:Int)) T6 t c9
   unfold tE at Tw;have cy:=ht6.1 u c9;generalize hR:Rm F (gF X L j) k m=R at*;generalize hRr:eR X.length R T6=RR at*;refine κ @cu ?_;refine κ @cu ?_;refine ω (υ ?_);refine θ (aH @cu @hgm @al4 ?_);refine θ (cJ @cu @mQ @uv @hru ?_);refine π JN ?_;rintro _ O7 ⟨rfl,eO⟩;rw[eO];clear eO O7 JN
   cases Kb:(R u).contains (k:Int)
   ·rw[Kb,if_neg (by decide)]at Tw;have jB:=aT (tk:=T6 u) (tk':=.full) (n:=(R u).length) (k:=1) (cs:=(R u).map mi) (ds:=[.v (.int .i64 k)]) jr T3 cy (by rw[Ml,ana]) rfl rfl (by decide) (by decide) (by omega) (by simp only[maxLen];omega);have haA:=VH.jD cy mQ (by simp) (by omega);have cY:=gL (.own O6.N 1) Tw (fun v _ hv=>hrn v hv);rw[aq]at cY;refine ab @cu ?_;refine ι (cJ @cu @mQ @uv @hru ?_);refine VL.app jB ?_;have GJ:=VH.dY O6 (T6 u);have gR:=cc.after cy;have Hk:∀i,Tok.id (T6 u)=some i->O3.N<=i:=fun i e=>(cy.nE e).1
    refine cJ @cu @haA @uv @cY ?_;refine ο @cu @H7 ?_;refine az.N (m+1) ⟨Qf,by show O5.N<=(O6.after (T6 u)).N;omega,fun i h1 h2=>?_,_,τ _ _ _,ht6.put c9 (by omega) rfl fun i hi=>ρ _ _ (by omega)⟩;rw[ρ _ _ h2,gR.hp i (by omega) (fun e=>by have:=Hk i e;omega)];exact ot i h1 h2
   ·rw[Kb,if_pos rfl]at Tw;refine ab @cu ?_;refine ν @cu ?_;refine ο @cu @H7 ?_;refine az.N (m+1) ⟨Qf,nH,ot,T6,?_,ht6⟩;rw[ir T6 (R:=Rm F (gF X L j) k (m+1)) (R':=R),hRr]
    ·exact mQ
    ·intro v _;by_cases e:v=u
     ·rw[e];exact Tw
     ·exact hrn v e
  rintro _ O8 ⟨DY,wV,T8,GL,ht8⟩;refine ο @cu @cB ?_;exact az.N (j+1) ⟨aM,fun i h1 h2=>(wV i h1 h2).trans ((bG.hp i (by omega)).trans (Qp i h1 h2)),by omega,T8,GL,ht8⟩
 rintro _ O9 ⟨bh,zT,T,Tx⟩;refine VC.freeze 11 (sz:=X.length) rfl Tx (by rw[iI];omega) ?_
 have cT:((eR X.length (gF X L L.length) T).drop 0).take X.length=eR X.length (gF X L L.length) T:=by
  rw[anp,ajB (by rw[iI];exact aec _)]
 rw[cT,if_pos rfl];generalize hG:eR X.length (gF X L L.length) T=G at*;refine κ @cu ?_;refine ν @cu ?_;exact⟨⟨T,.full,by rw[hG]⟩,bh.kill (by have:=aC.N;omega)⟩
theorem Qq (n:Nat) (R:Nat->List Int) (T:Nat->Tok) (t:Tok):eR n R T++[.sl (R n).length ((R n).map mi) t]=eR (n+1) R (fun v=>if v=n then t else T v):=by
 unfold eR;rw[anC,ajw,List.map_singleton]
 congr 1
 ·refine anD fun u hu=>?_
  have:=ajA.1 hu;dsimp only;rw[if_neg (by omega)]
 ·dsimp only;rw[if_pos rfl]
set_option maxHeartbeats 4000000 in
theorem Zp (l:List Int) (t1 t2:Tok) (O:VH) (hl:l.length<=1000000):VF Tryz.prog 13 [.sl l.length (l.map mi) t1,.sl l.length (l.map mi) t2] O (aE fun m O'=>m=mb true/\O'=O):=by
 have eP:=fun t=>(bL jr:de (bX Tryz.prog) 29 (.sl l.length (l.map mi) t)=some (.v (.int .i64 l.length)))
 have h1:=eP t1;have h2:=eP t2;have hne:((l.length:Int) != l.length)=false:=by simp
 have yu:(l.map mi).length=l.length:=Ml _;refine χ 26 [.tmp 4] Tryz.func13 ?_;refine κ @cu ?_;refine θ (cJ @cu @h1 @h2 @hne ?_);refine Ξ [] (fun _:Unit=>[]) (fun _ O'=>O'=O) ?_ ?_
 ·refine ξ @cu @h1 ?_;refine υ ?_;refine Δ [13] [0,1,12] (fun j:Nat=>[mi j]) (fun j O'=>O'=O/\j<=l.length) (fun j=>l.length - j) (0) ?_ ?_
  ·exact⟨rfl,VI _⟩
  rintro j Ox ⟨eO,hj⟩;rw[eO];clear eO Ox
  by_cases aM:j<l.length;rotate_left
  ·obtain rfl:j=l.length:=by omega
   refine ν @cu ?_;exact aB.mk () rfl
  have cB:((j:Int)+1)=((j+1:Nat):Int):=by omega
  have bE:(l.map mi)[j]?=some (.v (.int .i64 l[j])):=by rw[Mm,zW aM];rfl
  generalize l[j]=y at*;have hyy:(y != y)=false:=by simp
  refine κ @cu ?_;refine κ @cu ?_;refine ω (υ ?_);refine κ @cu ?_;refine ω ?_;refine WC.reads ?_;refine cJ @cu @bE @yu @hyy ?_;refine ν @cu ?_;refine ο @cu @cB ?_;exact az.N (j+1) ⟨rfl,aM⟩
 rintro _ Ox eO;rw[eO];clear eO Ox
 refine ν @cu ?_;trivial
def nc (g:List (List Int)) (a b:Nat):Prop:=∃l,g[a]?=some l/\(b:Int)∈l
def BR (g:List (List Int)):Prop:=∀l∈g,∀x∈l,0<=x/\x<(g.length:Int)
inductive fP (g:List (List Int)) (a:Nat):Nat->Prop
 | base:fP g a a
 | step {x y:Nat}:fP g a x->nc g x y->fP g a y
theorem fP.trans {g:List (List Int)} {a b c:Nat} (h:fP g a b) (h2:fP g b c):fP g a c:=by
 induction h2 with
 | base=>exact h
 | step _ e ih=>exact .step ih e
theorem fP.closed {g:List (List Int)} {a b:Nat} {S:Nat->Prop} (h:fP g a b) (ha:S a) (hs:∀x y,S x->nc g x y->S y):S b:=by
 induction h with
 | base=>exact ha
 | step _ e ih=>exact hs _ _ ih e
def gq (D:List Int) (x:Nat):Prop:=∃d,D[x]?=some d/\0<=d
theorem CP {D:List Int} {k:Nat} {v:Int} (hv:0<=v) {x:Nat} (h:gq D x):gq (D.set k v) x:=by
 obtain⟨d,h1,h2⟩:=h;by_cases e:k=x
 ·subst e;have hk:=(ahV.1 h1).1;exact⟨v,by rw[ajv hk],hv⟩
 ·exact⟨d,by rw[ahX e];exact h1,h2⟩
theorem CR {D:List Int} {k:Nat} {v:Int} (hv:0<=v) (hk:k<D.length):gq (D.set k v) k:=⟨v,by rw[ajv hk],hv⟩
theorem uK {D:List Int} {k:Nat} {v:Int} {x:Nat} (h:gq (D.set k v) x) (hx:x≠k):gq D x:=by
 obtain⟨d,h1,h2⟩:=h;rw[ahX (Ne.symm hx)]at h1;exact⟨d,h1,h2⟩
def mu (D:List Int):Nat:=D.countP fun d=>decide (0<=d)
theorem Hl (D:List Int):mu D<=D.length:=List.countP_le_length
theorem yc:∀{D:List Int} {k:Nat} {v:Int},0<=v->(∃d,D[k]?=some d/\d<0)->mu (D.set k v)=mu D+1
 | [],k,v,_,⟨d,h,_⟩=>by simp at h
 | e::D,0,v,hv,⟨d,h,hd⟩=>by
   simp only[List.getElem?_cons_zero,Option.some.injEq]at h;subst h;simp only[mu,List.set_cons_zero,anv];rw[decide_eq_true hv,decide_eq_false (show ¬0<=e by omega)];simp
 | e::D,k+1,v,hv,⟨d,h,hd⟩=>by
   rw[List.getElem?_cons_succ]at h;have ih:=yc (D:=D) (k:=k) hv ⟨d,h,hd⟩;simp only[mu,List.set_cons_succ,anv]at ih ⊢;omega
structure tF (g:List (List Int)) (f:Nat) (D Q:List Int) (n:Nat) (j:Nat):Prop where
 len:D.length=g.length
 fr:gq D f
 sound:∀x,gq D x->fP g f x
 bound:∀(x:Nat) (d:Int),D[x]?=some d->d+1<=mu D
 low:∀(x:Nat) (d:Int),D[x]?=some d-> -1<=d
 q:∀x∈Q,∃k:Nat,x=k/\gq D k
 closed:∀x,gq D x->x=n\/(x:Int)∈Q\/∀y,nc g x y->gq D y
 part:∀l,g[n]?=some l->∀y:Nat,(y:Int)∈l.take j->gq D y
theorem tF.init {g:List (List Int)} {f:Nat} (hf:f<g.length):tF g f ((List.replicate g.length (-1)).set f 0) [(f:Int)] g.length 0:=by
 have hl:((List.replicate g.length (-1:Int)).set f 0).length=g.length:=by simp
 have hm:∀x,gq ((List.replicate g.length (-1:Int)).set f 0) x->x=f:=fun x h=>by
  by_cases e:x=f
  ·exact e
  ·obtain⟨d,h1,h2⟩:=uK h e;rw[anl]at h1;split at h1
   ·injection h1 with h1;omega
   ·cases h1
 have HV:gq ((List.replicate g.length (-1:Int)).set f 0) f:=CR (by omega) (by simpa using hf);refine⟨hl,HV,fun x h=>by rw[hm x h];exact .base,fun x d h=>?_,fun x d h=>?_,fun x h=>⟨f,by simpa using h,HV⟩,fun x h=>.inr (.inl (by rw[hm x h];simp)),fun l h=>by rw[ahZ (aec _)]at h;cases h⟩
 ·by_cases e:f=x
  ·subst e;rw[ajv (by simpa using hf)]at h;injection h with h;have:mu ((List.replicate g.length (-1:Int)).set f 0)=mu (List.replicate g.length (-1:Int))+1:=yc (by omega) ⟨-1,by rw[anl,if_pos hf],by omega⟩;omega
  ·rw[ahX e,anl]at h;split at h
   ·injection h with h;omega
   ·cases h
 ·by_cases e:f=x
  ·subst e;rw[ajv (by simpa using hf)]at h;injection h with h;omega
  ·rw[ahX e,anl]at h;split at h
   ·injection h with h;omega
   ·cases h
theorem tF.pop {g:List (List Int)} {f:Nat} {D Q:List Int} {n m:Nat} {j:Nat} (hn:g.length<=n) (h:tF g f D ((m:Int)::Q) n j):tF g f D Q m 0:=by
 refine⟨h.len,h.fr,h.sound,h.bound,h.low,fun x hx=>h.q x (ah0 _ hx),fun x hx=>?_,fun l _ y hy=>by simp at hy⟩;rcases h.closed x hx with rfl | h1 | h1
 ·obtain⟨d,h2,_⟩:=hx;have:=(ahV.1 h2).1;have:=h.len;omega
 ·rcases anf.1 h1 with e | h1
  ·exact .inl (by omega)
  ·exact .inr (.inl h1)
 ·exact .inr (.inr h1)
theorem tF.skip {g:List (List Int)} {f:Nat} {D Q:List Int} {n j k:Nat} {l:List Int} (h:tF g f D Q n j) (hl:g[n]?=some l) (hk:l[j]?=some (k:Int)) (hm:gq D k):tF g f D Q n (j+1):=by
 refine⟨h.len,h.fr,h.sound,h.bound,h.low,h.q,h.closed,fun l' oz y hy=>?_⟩;rw[hl]at oz;injection oz with oz;subst oz;rw[am_,hk]at hy;rcases ahY.1 hy with hy | hy
 ·exact h.part l hl y hy
 ·have:(y:Int)=k:=by simpa using hy
  have:y=k:=by omega
  rw[this];exact hm
theorem tF.add {g:List (List Int)} {f:Nat} {D Q:List Int} {n j k:Nat} {l:List Int} {d e:Int} (h:tF g f D Q n j) (hl:g[n]?=some l) (hk:l[j]?=some (k:Int)) (hd:D[n]?=some d) (h0:0<=d) (he:D[k]?=some e) (hm:e<0):tF g f (D.set k (d+1)) (Q++[(k:Int)]) n (j+1):=by
 have fF:=(ahV.1 he).1;have hn:mu (D.set k (d+1))=mu D+1:=yc (by omega) ⟨e,he,hm⟩;have hme:nc g n k:=⟨l,hl,ani hk⟩;have lZ:∀x,gq D x->gq (D.set k (d+1)) x:=fun x hx=>CP (by omega) hx
 have hkm:gq (D.set k (d+1)) k:=CR (by omega) fF;refine⟨by rw[List.length_set];exact h.len,lZ _ h.fr,fun x hx=>?_,fun x c hc=>?_,fun x c hc=>?_,fun x hx=>?_,fun x hx=>?_,fun l' oz y hy=>?_⟩
 ·by_cases e:x=k
  ·subst e;exact .step (h.sound n ⟨d,hd,h0⟩) hme
  ·exact h.sound x (uK hx e)
 ·by_cases e:k=x
  ·subst e;rw[ajv fF]at hc;injection hc with hc;have:=h.bound n d hd;omega
  ·rw[ahX e]at hc;have:=h.bound x c hc;omega
 ·by_cases e:k=x
  ·subst e;rw[ajv fF]at hc;injection hc with hc;omega
  ·rw[ahX e]at hc;exact h.low x c hc
 ·rcases ahY.1 hx with hx | hx
  ·obtain⟨i,h1,h2⟩:=h.q x hx;exact⟨i,h1,lZ i h2⟩
  ·exact⟨k,by simpa using hx,hkm⟩
 ·by_cases e:x=k
  ·subst e;exact .inr (.inl (by simp))
  ·rcases h.closed x (uK hx e)with h1 | h1 | h1
   ·exact .inl h1
   ·exact .inr (.inl (anj _ h1))
   ·exact .inr (.inr fun y hy=>lZ y (h1 y hy))
 ·rw[hl]at oz;injection oz with oz;subst oz;rw[am_,hk]at hy;rcases ahY.1 hy with hy | hy
  ·exact lZ y (h.part l hl y hy)
  ·have:(y:Int)=k:=by simpa using hy
   have:y=k:=by omega
   rw[this];exact hkm
theorem tF.fin {g:List (List Int)} {f:Nat} {D Q:List Int} {n:Nat} {l:List Int} (h:tF g f D Q n l.length) (hl:g[n]?=some l):tF g f D Q g.length 0:=by
 refine⟨h.len,h.fr,h.sound,h.bound,h.low,h.q,fun x hx=>?_,fun l hl=>by rw[ahZ (aec _)]at hl;cases hl⟩;rcases h.closed x hx with rfl | h1
 ·refine .inr (.inr fun y hy=>?_);obtain⟨l',h2,h3⟩:=hy;rw[hl]at h2;injection h2 with h2;subst h2;exact h.part l hl y (by rw[aed];exact h3)
 ·exact .inr h1
theorem tF.all {g:List (List Int)} {f:Nat} {D:List Int} {j:Nat} (h:tF g f D [] g.length j) (x:Nat):gq D x ↔ fP g f x:=by
 refine⟨h.sound x,fun hr=>hr.closed (S:=gq D) h.fr fun x y hx he=>?_⟩;rcases h.closed x hx with rfl | h1 | h1
 ·obtain⟨d,h2,_⟩:=hx;have:=(ahV.1 h2).1;have:=h.len;omega
 ·simp at h1
 ·exact h1 y he
theorem VB:∀(k:Nat) (D:List Int),(∀i:Nat,i<=k->(i:Int)∈D)->k+1<=D.length
 | 0,D,h=>by
   have:=List.length_pos_of_mem (h 0 (aec _));omega
 | k+1,D,h=>by
   have hm:=h (k+1) (aec _);have ih:=VB k (D.erase ((k+1:Nat):Int)) fun i hi=>(List.mem_erase_of_ne (by omega)).2 (h i (by omega))
   rw[List.length_erase_of_mem hm]at ih;have:=List.length_pos_of_mem hm;omega
structure pr (g:List (List Int)) (f:Nat) (D:List Int) (k a j:Nat):Prop where
 len:D.length=g.length
 fr:gq D f
 sound:∀x,gq D x->fP g f x
 Ty:∀(x:Nat) (d:Int),D[x]?=some d-> -1<=d/\d<=(k:Int)+1
 chain:∀(x:Nat) (d:Int),D[x]?=some d->0<d->∃y:Nat,D[y]?=some (d - 1)
 done:∀(x:Nat) (d:Int),D[x]?=some d->0<=d->d<k\/(d=k/\x<a)->∀y,nc g x y->gq D y
 part:∀l,g[a]?=some l->D[a]?=some (k:Int)->∀y:Nat,(y:Int)∈l.take j->gq D y
theorem pr.init {g:List (List Int)} {f:Nat} {D:List Int} (hl:D.length=g.length) (hf:f<g.length) (hD:∀i,i<g.length->D[i]?=some (if i=f then 0 else -1)):pr g f D 0 0 0:=by
 have hm:∀x,gq D x->x=f:=fun x ⟨d,h1,h2⟩=>by
  have hx:=(ahV.1 h1).1;rw[hD x (by omega)]at h1;injection h1 with h1;by_cases e:x=f
  ·exact e
  ·rw[if_neg e]at h1;omega
 have hv:∀(x:Nat) (d:Int),D[x]?=some d-> -1<=d/\d<=0:=fun x d h=>by
  have hx:=(ahV.1 h).1;rw[hD x (by omega)]at h;injection h with h;split at h<;>omega
 refine⟨hl,⟨0,by rw[hD f hf,if_pos rfl],by omega⟩,fun x h=>by rw[hm x h];exact .base,fun x d h=>⟨(hv x d h).1,by have:=(hv x d h).2;omega⟩,fun x d h h0=>by have:=(hv x d h).2;omega,fun x d h h0 h1=>by have:=(hv x d h).2;omega,fun l _ _ y hy=>by simp at hy⟩
theorem pr.N {g:List (List Int)} {f:Nat} {D:List Int} {k a:Nat} (h:pr g f D k a 0) (hk:D[a]?≠some (k:Int)):pr g f D k (a+1) 0:=by
 refine⟨h.len,h.fr,h.sound,h.Ty,h.chain,fun x d hx h0 h1=>?_,fun l _ _ y hy=>by simp at hy⟩;rcases h1 with h1 | ⟨h1,h2⟩
 ·exact h.done x d hx h0 (.inl h1)
 ·by_cases e:x=a
  ·subst e;rw[h1]at hx;exact absurd hx hk
  ·exact h.done x d hx h0 (.inr ⟨h1,by omega⟩)
theorem pr.skip {g:List (List Int)} {f:Nat} {D:List Int} {k a j b:Nat} {l:List Int} (h:pr g f D k a j) (hl:g[a]?=some l) (hb:l[j]?=some (b:Int)) (hm:gq D b):pr g f D k a (j+1):=by
 refine⟨h.len,h.fr,h.sound,h.Ty,h.chain,h.done,fun l' oz hk y hy=>?_⟩;rw[hl]at oz;injection oz with oz;subst oz;rw[am_,hb]at hy;rcases ahY.1 hy with hy | hy
 ·exact h.part l hl hk y hy
 ·have:(y:Int)=b:=by simpa using hy
  have:y=b:=by omega
  rw[this];exact hm
theorem pr.add {g:List (List Int)} {f:Nat} {D:List Int} {k a j b:Nat} {l:List Int} {e:Int} (h:pr g f D k a j) (hl:g[a]?=some l) (hb:l[j]?=some (b:Int)) (ha:D[a]?=some (k:Int)) (he:D[b]?=some e) (hm:e<0):pr g f (D.set b ((k:Int)+1)) k a (j+1):=by
 have o5:=(ahV.1 he).1;have lZ:∀x,gq D x->gq (D.set b ((k:Int)+1)) x:=fun x hx=>CP (by omega) hx
 have hbm:gq (D.set b ((k:Int)+1)) b:=CR (by omega) o5;have Yj:b≠a:=fun e'=>by subst e';rw[ha]at he;injection he with he;omega
 have hold:∀(x:Nat) (d:Int),0<=d->D[x]?=some d->(D.set b ((k:Int)+1))[x]?=some d:=fun x d h0 hx=>by
  rw[ahX fun e'=>by subst e';rw[hx]at he;injection he with he;omega];exact hx
 refine⟨by rw[List.length_set];exact h.len,lZ _ h.fr,fun x hx=>?_,fun x d hx=>?_,fun x d hx h0=>?_,fun x d hx h0 h1 y hy=>?_,fun l' oz hk y hy=>?_⟩
 ·by_cases e:x=b
  ·subst e;exact .step (h.sound a ⟨k,ha,by omega⟩) ⟨l,hl,ani hb⟩
  ·exact h.sound x (uK hx e)
 ·by_cases e:b=x
  ·subst e;rw[ajv o5]at hx;injection hx with hx;omega
  ·rw[ahX e]at hx;exact h.Ty x d hx
 ·by_cases e:b=x
  ·subst e;rw[ajv o5]at hx;injection hx with hx;exact⟨a,by rw[ahX Yj,ha];congr 1;omega⟩
  ·rw[ahX e]at hx;obtain⟨y,hy⟩:=h.chain x d hx h0;exact⟨y,hold y _ (by omega) hy⟩
 ·by_cases e:b=x
  ·subst e;rw[ajv o5]at hx;injection hx with hx;omega
  ·rw[ahX e]at hx;exact lZ y (h.done x d hx h0 h1 y hy)
 ·rw[hl]at oz;injection oz with oz;subst oz;rw[am_,hb]at hy;rcases ahY.1 hy with hy | hy
  ·exact lZ y (h.part l hl ha y hy)
  ·have:(y:Int)=b:=by simpa using hy
   have:y=b:=by omega
   rw[this];exact hbm
theorem pr.row {g:List (List Int)} {f:Nat} {D:List Int} {k a:Nat} {l:List Int} (h:pr g f D k a l.length) (hl:g[a]?=some l) (ha:D[a]?=some (k:Int)):pr g f D k (a+1) 0:=by
 refine⟨h.len,h.fr,h.sound,h.Ty,h.chain,fun x d hx h0 h1 y hy=>?_,fun l _ _ y hy=>by simp at hy⟩;rcases h1 with h1 | ⟨h1,h2⟩
 ·exact h.done x d hx h0 (.inl h1) y hy
 ·by_cases e:x=a
  ·subst e;obtain⟨l',h3,h4⟩:=hy;rw[hl]at h3;injection h3 with h3;subst h3;exact h.part l hl ha y (by rw[aed];exact h4)
  ·exact h.done x d hx h0 (.inr ⟨h1,by omega⟩) y hy
theorem pr.up {g:List (List Int)} {f:Nat} {D:List Int} {k:Nat} (h:pr g f D k g.length 0):pr g f D (k+1) 0 0:=by
 refine⟨h.len,h.fr,h.sound,fun x d hx=>⟨(h.Ty x d hx).1,by have:=(h.Ty x d hx).2;omega⟩,h.chain,fun x d hx h0 h1 y hy=>?_,fun l _ _ y hy=>by simp at hy⟩;have DW:=(ahV.1 hx).1;have:=h.len;refine h.done x d hx h0 ?_ y hy;rcases h1 with h1 | ⟨_,h2⟩
 ·by_cases e:d=k
  ·exact .inr ⟨e,by omega⟩
  ·exact .inl (by omega)
 ·omega
theorem pr.all {g:List (List Int)} {f:Nat} {D:List Int} (h:pr g f D g.length 0 0) (x:Nat):gq D x ↔ fP g f x:=by
 have ajn:∀(n:Nat) (x:Nat),D[x]?=some (n:Int)->∀i:Nat,i<=n->(i:Int)∈D:=fun n=>by
  induction n with
  | zero=>intro x hx i hi;obtain rfl:i=0:=by omega
          exact ani hx
  | succ n ih=>
    intro x hx i hi;by_cases e:i=n+1
    ·subst e;exact ani hx
    ·obtain⟨y,hy⟩:=h.chain x _ hx (by omega);exact ih y (by rw[hy];congr 1;omega) i (by omega)
 refine⟨h.sound x,fun hr=>hr.closed (S:=gq D) h.fr fun x y ⟨d,hx,h0⟩ he=>h.done x d hx h0 (.inl ?_) y he⟩;obtain⟨n,rfl⟩:=ajx h0;have:=VB n D (ajn n x hx);have:=h.len;omega
theorem Zq {g:List (List Int)} {a b:Nat} (hm:BR g) (h:nc g a b):a<g.length/\b<g.length:=by
 obtain⟨l,h1,h2⟩:=h;have:=hm l (ani h1) b h2;exact⟨(ahV.1 h1).1,by omega⟩
theorem fP.Ng {g t:List (List Int)} (ht:∀a b,nc t a b ↔ nc g b a) {a b:Nat} (h:fP g a b):fP t b a:=by
 induction h with
 | base=>exact .base
 | step _ e ih=>exact fP.trans (.step .base ((ht _ _).2 e)) ih
theorem JX {g t:List (List Int)} (ht:∀a b,nc t a b ↔ nc g b a) (a b:Nat):fP g a b ↔ fP t b a:=⟨fun h=>h.Ng ht,fun h=>h.Ng fun a b=>(ht b a).symm⟩
set_option linter.defProp false in
def aA:=ZA cu T69
def bY (g:List (List Int)) (T:Nat->Tok):List MV:=eR g.length (fun u=>g.getD u []) T
theorem jn (g:List (List Int)) (T:Nat->Tok):(bY g T).length=g.length:=iI _ _ _
theorem l_ (g:List (List Int)) (T:Nat->Tok) {u:Nat} (h:u<g.length):(bY g T)[u]?=some (.sl g[u].length (g[u].map mi) (T u)):=by
 unfold bY;rw[qk _ _ h,agu,zW h];rfl
def xh (m:Nat) (g:List (List Int)):Prop:=g.length<=1000/\∀l∈g,l.length<=m
def lG (g:List (List Int)):Bool:=g.all fun l=>l.all fun x=>decide (0<=x)&&decide (x<(g.length:Int))
theorem jR (g:List (List Int)):lG g=true ↔ BR g:=by
 unfold lG BR;simp only[anw,anx,decide_eq_true_eq]
theorem JY (n:Nat) (cs:List MV) (tk:Tok) (k:Int) (O:VH):VF Tryz.prog 46 [.sl n cs tk,mi k] O (aE fun m O'=>m=mb (decide (0<=k)&&decide (k<(n:Int)))/\O'=O):=by
 have hv:de (bX Tryz.prog) 25 (.sl n cs tk)=some (.v (.int .i64 n)):=bL zH;rw[aq,bu];refine Θ 13 [.tmp 4] Tryz.func46 ?_;refine ab @aA ?_;by_cases h0:0<=k
 ·have e1:decide (0<=k)=true:=decide_eq_true h0;have e2:decide (k>=0)=true:=e1;refine cJ @aA @hv @e1 @e2 ?_;trivial
 ·have e1:decide (0<=k)=false:=decide_eq_false h0;have e2:decide (k>=0)=false:=e1;refine cJ @aA @hv @e1 @e2 ?_;trivial
set_option maxHeartbeats 4000000 in
theorem Hm (g:List (List Int)) (T:Nat->Tok) (tk:Tok) (O:VH) (hs:xh 1000000 g):VF Tryz.prog 29 [.sl g.length (bY g T) tk] O (aE fun m O'=>m=mb (lG g)/\O'=O):=by
 have eP:de (bX Tryz.prog) 25 (.sl g.length (bY g T) tk)=some (.v (.int .i64 g.length)):=bL zH;have ox:=jn g T;have Hn:=fun u h=>l_ g T (u:=u) h
 have ec:=fun k=>JY g.length (bY g T) tk k O
 generalize bY g T=A at*;refine χ 25 [.tmp 2] Tryz.func29 ?_;refine κ @aA ?_;refine Ξ [] (fun _:Unit=>[]) (fun _ O'=>O'=O/\lG g=true) ?_ ?_
 ·refine ξ @aA @eP ?_;refine υ ?_;refine Δ [9] [0,7,8] (fun i:Nat=>[mi i]) (fun i O'=>O'=O/\i<=g.length/\∀l∈g.take i,∀x∈l,0<=x/\x<(g.length:Int)) (fun i=>g.length - i) (0) ?_ ?_
  ·exact⟨rfl,VI _,fun l h=>by simp at h⟩
  rintro i Ox ⟨eO,hi,dh⟩;rw[eO];clear eO Ox
  by_cases dA:i<g.length;rotate_left
  ·obtain rfl:i=g.length:=by omega
   rw[aed]at dh;refine ν @aA ?_;exact aB.mk () ⟨rfl,(jR g).2 dh⟩
  have mH:((i:Int)+1)=((i+1:Nat):Int):=by omega
  have bE:=Hn i dA;have cT:g.take (i+1)=g.take i++[g[i]]:=by rw[aee dA]
  have ra:=aeb dA;have uq:=hs.2 _ ra;have Ij:=hs.1;generalize g[i]=l at*;have ve:de (bX Tryz.prog) 29 (.sl l.length (l.map mi) (T i))=some (.v (.int .i64 l.length)):=bL jr;have yu:(l.map mi).length=l.length:=Ml _;refine κ @aA ?_;refine κ @aA ?_;refine ω (υ ?_);refine θ (aH @aA @bE @ox ?_);refine VC.wc [0,7,8,9] (fun _:Unit=>[.sl g.length A tk,.sl g.length A tk,mi g.length,mi i]) (fun _ O'=>O'=O/\∀x∈l,0<=x/\x<(g.length:Int)) ?_ ?_
  ·have BT:∀(j:Nat) (y:Int),l[j]?=some y->(l.map mi)[j]?=some (MV.v (.int .i64 y)):=fun j y h=>by rw[Mm,h];rfl
   generalize l.map mi=cs at*;refine ξ @aA @ve ?_;refine υ ?_;refine Δ [15] [0,7,8,9,13,14] (fun j:Nat=>[mi j]) (fun j O'=>O'=O/\j<=l.length/\∀x∈l.take j,0<=x/\x<(g.length:Int)) (fun j=>l.length - j) (0) ?_ ?_
   ·exact⟨rfl,VI _,fun x h=>by simp at h⟩
   rintro j Ox ⟨eO,hj,Ho⟩;rw[eO];clear eO Ox
   by_cases aM:j<l.length;rotate_left
   ·obtain rfl:j=l.length:=by omega
    rw[aed]at Ho;refine ν @aA ?_;exact aB.mk () ⟨rfl,Ho⟩
   have cB:((j:Int)+1)=((j+1:Nat):Int):=by omega
   have o_:=BT j l[j] (zW aM);have BU:l.take (j+1)=l.take j++[l[j]]:=by rw[aee aM]
   have qq:=aeb aM;have tU:=ec l[j];generalize l[j]=x at*;rw[aq]at tU;refine κ @aA ?_;refine κ @aA ?_;refine ω (υ ?_);refine θ (aH @aA @o_ @yu ?_);refine κ @aA ?_;refine π tU ?_;rintro _ Ox ⟨rfl,eO⟩;rw[eO];clear eO Ox
   cases GI:decide (0<=x)&&decide (x<(g.length:Int))
   ·refine ab @aA ?_;refine ν @aA ?_
    have:lG g=false:=by
     rw[ano];intro h;have:=(jR g).1 h l ra x qq;rw[decide_eq_true this.1,decide_eq_true this.2]at GI;cases GI
    rw[this]
   ·refine ab @aA ?_;refine ν @aA ?_;refine ο @aA @cB ?_;refine az.N (j+1) ⟨rfl,aM,fun y hy=>?_⟩;rw[BU,ahY]at hy;rcases hy with hy | hy
    ·exact Ho y hy
    ·rw[ahW.1 hy];simpa using GI
  rintro _ Ox ⟨eO,hl⟩;rw[eO];clear eO Ox
  refine ο @aA @mH ?_;refine az.N (i+1) ⟨rfl,dA,fun y hy=>?_⟩;rw[cT,ahY]at hy;rcases hy with hy | hy
  ·exact dh y hy
  ·rw[ahW.1 hy];exact hl
 rintro _ Ox ⟨eO,hm⟩;rw[eO];clear eO Ox
 rw[hm];refine ν @aA ?_;trivial
structure CS (g:List (List Int)) (i j:Nat) (R:Nat->List Int):Prop where
 mem:∀u,u<g.length->∀x,x∈R u ↔ ∃a:Nat,x=a/\((a<i/\nc g a u)\/(a=i/\∃l,g[i]?=some l/\(u:Int)∈l.take j))
 len:∀u,u<g.length->(R u).length<=i*1000+j
theorem CS.zero (g:List (List Int)):CS g 0 0 (fun _=>[]):=
 ⟨fun u _ x=>⟨(fun h=>by cases h),fun⟨a,_,h⟩=>by
  rcases h with⟨h,_⟩ | ⟨_,l,_,h⟩
  ·omega
  ·rw[anE]at h;cases h⟩,fun u _=>VI _⟩
theorem CS.row {g:List (List Int)} {i:Nat} {R:Nat->List Int} {l:List Int} (h:CS g i l.length R) (hl:g[i]?=some l) (hle:l.length<=1000):CS g (i+1) 0 R:=by
 refine⟨fun u hu x=>(h.mem u hu x).trans ⟨?_,?_⟩,fun u hu=>by have:=h.len u hu;omega⟩
 ·rintro⟨a,e,⟨h1,h2⟩ | ⟨h1,l',h2,h3⟩⟩
  ·exact⟨a,e,.inl ⟨by omega,h2⟩⟩
  ·rw[hl]at h2;injection h2 with h2;subst h2;rw[aed]at h3;exact⟨a,e,.inl ⟨by omega,l,by rw[h1];exact hl,h3⟩⟩
 ·rintro⟨a,e,⟨h1,h2⟩ | ⟨h1,l',h2,h3⟩⟩
  ·by_cases e2:a=i
   ·obtain⟨l',h3,h4⟩:=h2;rw[e2,hl]at h3;injection h3 with h3;subst h3;exact⟨a,e,.inr ⟨e2,l,hl,by rw[aed];exact h4⟩⟩
   ·exact⟨a,e,.inl ⟨by omega,h2⟩⟩
  ·rw[anE]at h3;cases h3
theorem CS.step {g:List (List Int)} {i j u:Nat} {R R':Nat->List Int} {l:List Int} (h:CS g i j R) (hl:g[i]?=some l) (hj:l[j]?=some (u:Int)) (h1:R' u=R u++[(i:Int)]) (h2:∀v,v<g.length->v≠u->R' v=R v) (hu:u<g.length):CS g i (j+1) R':=by
 have cT:l.take (j+1)=l.take j++[(u:Int)]:=by rw[List.take_add_one,hj];rfl
 refine⟨fun v hv x=>?_,fun v hv=>?_⟩
 ·by_cases e:v=u
  ·subst e;rw[h1,ahY,h.mem v hv x];constructor
   ·rintro(⟨a,e1,h5 | ⟨h6,l',h7,h8⟩⟩ | h9)
    ·exact⟨a,e1,.inl h5⟩
    ·refine⟨a,e1,.inr ⟨h6,l,hl,?_⟩⟩;rw[hl]at h7;injection h7 with h7;subst h7
     rw[cT];exact anj _ h8
    ·exact⟨i,ahW.1 h9,.inr ⟨rfl,l,hl,by rw[cT];simp⟩⟩
   ·rintro⟨a,e1,h5 | ⟨h6,l',h7,h8⟩⟩
    ·exact .inl ⟨a,e1,.inl h5⟩
    ·subst h6;exact .inr (by rw[e1];exact ant _)
  ·rw[h2 v hv e,h.mem v hv x];constructor
   ·rintro⟨a,e1,h5 | ⟨h6,l',h7,h8⟩⟩
    ·exact⟨a,e1,.inl h5⟩
    ·refine⟨a,e1,.inr ⟨h6,l,hl,?_⟩⟩;rw[hl]at h7;injection h7 with h7;subst h7
     rw[cT];exact anj _ h8
   ·rintro⟨a,e1,h5 | ⟨h6,l',h7,h8⟩⟩
    ·exact⟨a,e1,.inl h5⟩
    ·refine⟨a,e1,.inr ⟨h6,l,hl,?_⟩⟩;rw[hl]at h7;injection h7 with h7;subst h7
     rw[cT,ahY]at h8;rcases h8 with h8 | h8
     ·exact h8
     ·exfalso;have:=ahW.1 h8;omega
 ·by_cases e:v=u
  ·subst e;rw[h1,Mn];have:=h.len v hv;simp;omega
  ·rw[h2 v hv e];have:=h.len v hv;omega
theorem Qr (n:Nat) (R:Nat->List Int) (T:Nat->Tok):eR n R T=bY ((List.range n).map R) T:=by
 unfold bY;rw[Ml,anu];refine ir T fun u hu=>?_
 rw[agu,Mm,anb hu];rfl
set_option maxHeartbeats 8000000 in
theorem Zr (g:List (List Int)) (T:Nat->Tok) (tk:Tok) (O:VH) (hs:xh 1000 g):VF Tryz.prog 26 [.sl g.length (bY g T) tk] O (aE fun m O'=>O.Ge O'/\((lG g=true/\∃t T' tk',m= .sl g.length (bY t T') tk'/\t.length=g.length/\(∀a b,nc t a b ↔ nc g b a)/\xh 1000000 t/\BR t)\/(lG g=false/\m= .sl 0 [] .nil))):=by
 have hsb:xh 1000000 g:=⟨hs.1,fun l hl=>ans (hs.2 l hl) (by decide)⟩;have Ij:=hs.1;have jP:=fun O'=>JL (tab:=bX Tryz.prog) zH jr O' g.length (by omega) (by omega)
 have eP:de (bX Tryz.prog) 25 (.sl g.length (bY g T) tk)=some (.v (.int .i64 g.length)):=bL zH;have BV:=Hm g T tk O hsb;have ox:=jn g T;have Hn:=fun u h=>l_ g T (u:=u) h
 generalize bY g T=A at*;refine χ 40 [.tmp 2] Tryz.func26 ?_;refine κ @aA ?_;refine κ @aA ?_;refine π BV ?_;rintro _ Ox ⟨rfl,eO⟩;rw[eO];clear eO Ox BV
 cases hm:lG g
 ·refine ab @aA ?_;exact⟨VH.Ge.refl _,.inr (by simp)⟩
 have ra:=(jR g).1 hm;refine ab @aA ?_;refine θ (aH @aA @eP @jP ?_);refine VC.bx ?_;rintro O1 ⟨aJ,cz,cW⟩;rw[<-DE]at cz;refine Ξ [3] (fun _:Unit=>[.bz O.N 0 g.length g.length]) (fun _ O'=>O.Ge O'/\O.N<O'.N/\∃R T',O'.hp O.N=some (.cells (eR g.length R T'))/\CS g g.length 0 R) ?_ ?_
 ·refine ξ @aA @eP ?_;refine υ ?_;refine Δ [16] [3,14,15] (fun i:Nat=>[mi i]) (fun i O'=>i<=g.length/\O.Ge O'/\O1.N<=O'.N/\∃R T',O'.hp O.N=some (.cells (eR g.length R T'))/\yr g.length T' O1.N O'/\CS g i 0 R) (fun i=>g.length - i) (0) ?_ ?_
  ·exact⟨VI _,aJ,aec _,_,_,cz,yr.zero _ _ _,CS.zero g⟩
  clear cz;rintro i O2 ⟨hi,aC,eJ,R,T2,eA,sh,hR⟩;by_cases dA:i<g.length;rotate_left
  ·obtain rfl:i=g.length:=by omega
   refine ν @aA ?_;exact aB.mk () ⟨aC,by omega,R,T2,eA,hR⟩
  have mH:((i:Int)+1)=((i+1:Nat):Int):=by omega
  have bE:=Hn i dA;have qG:g[i]?=some g[i]:=zW dA;have qq:=ra g[i] (aeb dA);have uq:=hs.2 g[i] (aeb dA);generalize g[i]=l at*;have ve:de (bX Tryz.prog) 29 (.sl l.length (l.map mi) (T i))=some (.v (.int .i64 l.length)):=bL jr;have yu:(l.map mi).length=l.length:=Ml _;have BT:∀(j:Nat) (y:Int),l[j]?=some y->(l.map mi)[j]?=some (MV.v (.int .i64 y)):=fun j y h=>by rw[Mm,h];rfl
  generalize l.map mi=cs at*;refine κ @aA ?_;refine κ @aA ?_;refine ω (υ ?_);refine θ (aH @aA @bE @ox ?_);refine VC.wc [3,14,15,16] (fun _:Unit=>[.bz O.N 0 g.length g.length,.sl g.length A tk,mi g.length,mi i]) (fun _ O'=>O.Ge O'/\O1.N<=O'.N/\∃R T',O'.hp O.N=some (.cells (eR g.length R T'))/\yr g.length T' O1.N O'/\CS g i l.length R) ?_ ?_
  ·refine ξ @aA @ve ?_;refine υ ?_;refine Δ [23] [3,4,14,15,16,21,22] (fun j:Nat=>[mi j]) (fun j O'=>j<=l.length/\O.Ge O'/\O1.N<=O'.N/\∃R T',O'.hp O.N=some (.cells (eR g.length R T'))/\yr g.length T' O1.N O'/\CS g i j R) (fun j=>l.length - j) (0) ?_ ?_
   ·exact⟨VI _,aC,eJ,R,T2,eA,sh,hR⟩
   clear eA sh hR aC eJ R T2 O2;rintro j O2 ⟨hj,aC,eJ,R,T2,eA,sh,hR⟩;by_cases aM:j<l.length;rotate_left
   ·obtain rfl:j=l.length:=by omega
    refine ν @aA ?_;exact aB.mk () ⟨aC,eJ,R,T2,eA,sh,hR⟩
   have cB:((j:Int)+1)=((j+1:Nat):Int):=by omega
   have hx:=qq l[j] (aeb aM);have D5:l[j]?=some l[j]:=zW aM;have o_:=BT j l[j] D5;generalize l[j]=x at*;obtain⟨u,rfl⟩:=ajx hx.1;have hu:u<g.length:=by omega
   have hru:=qk R T2 hu;have uv:=iI g.length R T2;have gL:=fun t=>He (R:=R) (R':=fun v=>if v=u then R u++[(i:Int)]else R v) (x:=(i:Int)) T2 t hu (if_pos rfl) (fun v _ hv=>if_neg hv)
   have cy:=sh.1 u hu;have Yt:=hR.len u hu;have cY:=gL (.own O2.N 1);rw[aq]at cY;have ajo:=hR.step (R':=fun v=>if v=u then R u++[(i:Int)]else R v) qG D5 (if_pos rfl) (fun v _ hv=>if_neg hv) hu;have hii:i*1000<=1000*1000:=Nat.mul_le_mul_right _ (by omega);have jB:=aT (tk:=T2 u) (tk':=.full) (n:=(R u).length) (k:=1) (cs:=(R u).map mi) (ds:=[.v (.int .i64 i)]) jr T3 cy (by rw[Ml,ana]) rfl rfl (by decide) (by decide) (by omega) (by simp only[maxLen];omega);have haA:=VH.jD cy eA (by simp) (by omega);have GJ:=VH.dY O2 (T2 u);have gR:=cc.after cy;have Hk:∀i,Tok.id (T2 u)=some i->O1.N<=i:=fun i e=>(cy.nE e).1
   generalize eR g.length R T2=RR at*;refine κ @aA ?_;refine κ @aA ?_;refine ω (υ ?_);refine θ (aH @aA @o_ @yu ?_);refine ι (cJ @aA @eA @uv @hru ?_);refine VL.app jB ?_;refine cJ @aA @haA @uv @cY ?_;refine ο @aA @cB ?_;refine az.N (j+1) ⟨aM,⟨by show O.N<=(O2.after (T2 u)).N;have:=aC.N;omega,fun i h=>?_⟩,by show O1.N<=(O2.after (T2 u)).N;omega,_,_,τ _ _ _,sh.put hu (by omega) rfl fun i hi=>ρ _ _ (by omega),ajo⟩;rw[ρ _ _ (by omega),gR.hp i (by have:=aC.N;omega) (fun e=>by have:=Hk i e;omega)];exact aC.hp i h
  clear eA sh hR aC eJ R T2;rintro _ O3 ⟨aC,eJ,R,T2,eA,sh,hR⟩;refine ο @aA @mH ?_;exact az.N (i+1) ⟨dA,aC,eJ,R,T2,eA,sh,hR.row qG uq⟩
 rintro _ O9 ⟨bh,zT,R,T9,Tx,hR⟩;refine VC.freeze 3 (sz:=g.length) rfl Tx (by rw[iI];omega) ?_
 have cT:((eR g.length R T9).drop 0).take g.length=bY ((List.range g.length).map R) T9:=by
  rw[anp,ajB (by rw[iI];exact aec _),Qr]
 rw[cT,if_pos rfl];generalize hG:bY ((List.range g.length).map R) T9=G at*;refine κ @aA ?_;refine ν @aA ?_;refine⟨bh.kill (aec _),.inl ⟨(List.range g.length).map R,T9,.full,by rw[hG],by simp,fun a b=>?_,?_,?_⟩⟩
 ·constructor
  ·rintro⟨l,h1,h2⟩
   have ha:a<g.length:=by
    have:=(ahV.1 h1).1;simpa using this
   rw[Mm,anb ha]at h1;injection h1 with h1;subst h1;obtain⟨c,e,h3 | ⟨_,l',h4,_⟩⟩:=(hR.mem a ha b).1 h2
   ·have:b=c:=by omega
    subst this;exact h3.2
   ·rw[ahZ (aec _)]at h4;cases h4
  ·intro h1;obtain⟨h2,h3⟩:=Zq ra h1;exact⟨R a,by rw[Mm,anb h3];rfl,(hR.mem a h3 b).2 ⟨b,rfl,.inl ⟨h2,h1⟩⟩⟩
 ·refine⟨by simpa using Ij,fun l hl=>?_⟩;obtain⟨u,hu,rfl⟩:=ane.1 hl;have:=hR.len u (ajA.1 hu);have:=Nat.mul_le_mul_right 1000 Ij;omega
 ·intro l hl x hx;obtain⟨u,hu,rfl⟩:=ane.1 hl;obtain⟨c,e,h3 | ⟨_,l',h4,_⟩⟩:=(hR.mem u (ajA.1 hu) x).1 hx
  ·have:=h3.1;rw[Ml,anu];omega
  ·rw[ahZ (aec _)]at h4;cases h4
theorem ajp {n:Nat} {x:MV} {cs:List MV} {tk:Tok} (hc:cs.length=n):oZ (bX Tryz.prog) 29 (.sl (n+1) (x::cs) tk) (some (.v (.int .i64 1))) (.v (.int .i64 ((n+1:Nat):Int))) (.v (.int .i64 ((n+1:Nat):Int)))=some (.sl n cs .full):=by
 simp only[oZ,jr,T3,anm,dw];rw[if_pos (by decide:(0:Int)<=1)];dsimp only;rw[if_pos ⟨by omega,by omega,by omega,aec _⟩,ang,if_pos ⟨aec _,by rw[ajy,hc];omega⟩,if_neg (by omega)];by_cases h:n+1=(1:Int).toNat
 ·have:n=0:=by simpa using h
  subst this;rw[if_pos h,List.length_eq_zero_iff.1 hc]
 ·rw[if_neg h,if_pos trivial];have e1:n+1 - (1:Int).toNat=n:=by simp
  have e2:(1:Int).toNat*1=1:=rfl;rw[e1,e2,List.drop_one,List.tail_cons,ana,ajB (by omega)]
set_option maxHeartbeats 8000000 in
theorem adO (g:List (List Int)) (T:Nat->Tok) (tk:Tok) (f:Int) (O:VH) (hs:xh 1000000 g):VF Tryz.prog 45 [.sl g.length (bY g T) tk,mi f] O (aE fun m O'=>O.Ge O'/\((lG g=true/\0<=f/\f<(g.length:Int)/\∃D t,m= .sl g.length (D.map mi) t/\D.length=g.length/\∀x,gq D x ↔ fP g f.toNat x)\/((lG g=false\/f<0\/(g.length:Int)<=f)/\m= .sl 0 [] .nil))):=by
 have Ij:=hs.1;have jP:=fun O'=>JL (tab:=bX Tryz.prog) jr T3 O' g.length (by omega) (by omega)
 have eP:de (bX Tryz.prog) 25 (.sl g.length (bY g T) tk)=some (.v (.int .i64 g.length)):=bL zH;have BV:=Hm g T tk O hs;have ec:=JY g.length (bY g T) tk f O;have ox:=jn g T;have Hn:=fun u h=>l_ g T (u:=u) h
 generalize bY g T=A at*;rw[aq]at ec ⊢;refine χ 77 [.tmp 4] Tryz.func45 ?_;refine κ @aA ?_;refine κ @aA ?_;refine π BV ?_;rintro _ Ox ⟨rfl,eO⟩;rw[eO];clear eO Ox BV
 cases hm:lG g
 ·refine ab @aA ?_;exact⟨VH.Ge.refl _,by simp⟩
 have ra:=(jR g).1 hm;refine ab @aA ?_;refine π ec ?_;rintro _ Ox ⟨rfl,eO⟩;rw[eO];clear eO Ox ec
 by_cases hf:0<=f/\f<(g.length:Int);rotate_left
 ·have e:(decide (0<=f)&&decide (f<(g.length:Int)))=false:=by
   rw[ano];intro h;rw[anx,decide_eq_true_eq,decide_eq_true_eq]at h;exact hf h
  rw[e];refine ab @aA ?_;exact⟨VH.Ge.refl _,.inr (by first | exact⟨by omega,rfl⟩ | (simp;omega))⟩
 rw[decide_eq_true hf.1,decide_eq_true hf.2];obtain⟨f,rfl⟩:=ajx hf.1;have kX:f<g.length:=by omega
 refine aH @aA @eP @jP ?_;refine θ (aH @aA @eP @jP ?_);refine VC.bx ?_;rintro O1 ⟨aJ,cz,cW⟩;have hva:de (bX Tryz.prog) 29 (.bz O.N 0 g.length g.length)=some (.v (.int .i64 g.length)):=rfl;refine Ξ [0,1,5] (fun _:Unit=>[.sl g.length A tk,mi f,.bz O.N 0 g.length g.length]) (fun _ O'=>O.Ge O'/\O.N<O'.N/\O'.hp O.N=some (.cells ((List.replicate g.length (-1)).map mi))) ?_ ?_
 ·refine ξ @aA @hva ?_;refine υ ?_;refine Δ [25] [0,1,5,24] (fun i:Nat=>[mi i]) (fun i O'=>i<=g.length/\O.Ge O'/\O.N<O'.N/\O'.hp O.N=some (.cells (List.replicate i (mi (-1))++List.replicate (g.length - i) (mi 0)))) (fun i=>g.length - i) (0) ?_ ?_
  ·exact⟨VI _,aJ,by omega,by rw[cz];rfl⟩
  clear cz;rintro i O2 ⟨hi,aC,eJ,eA⟩;by_cases dA:i<g.length;rotate_left
  ·obtain rfl:i=g.length:=by omega
   rw[Nat.sub_self,List.replicate_zero,ame]at eA;refine ν @aA ?_;exact aB.mk () ⟨aC,eJ,by rw[eA,List.map_replicate]⟩
  have mH:((i:Int)+1)=((i+1:Nat):Int):=by omega
  have cY:(List.replicate i (mi (-1))++List.replicate (g.length - i) (mi 0)).set i (.v (.int .i64 (-1)))=List.replicate (i+1) (mi (-1))++List.replicate (g.length - (i+1)) (mi 0):=by
   rw[List.set_append_right _ _ (by simp),List.length_replicate,Nat.sub_self,show g.length - i=(g.length - (i+1))+1 by omega,List.replicate_succ,List.set_cons_zero,List.replicate_succ' (n:=i),List.append_assoc];rfl
  have fY:(List.replicate i (mi (-1))++List.replicate (g.length - i) (mi 0)).length=g.length:=by simp;omega
  generalize List.replicate i (mi (-1))++List.replicate (g.length - i) (mi 0)=C at*;refine κ @aA ?_;refine κ @aA ?_;refine ω (υ ?_);refine κ @aA ?_;refine ι (cJ @aA @eA @fY @cY ?_);refine ο @aA @mH ?_;exact az.N (i+1) ⟨dA,aC.set (aec _) _,eJ,τ _ _ _⟩
 clear aJ cz cW O1;rintro _ O2 ⟨aC,eJ,eA⟩;have fY:((List.replicate g.length (-1:Int)).map mi).length=g.length:=by simp
 have cY:((List.replicate g.length (-1:Int)).map mi).set f (.v (.int .i64 0))=((List.replicate g.length (-1:Int)).set f 0).map mi:=by rw[List.map_set];rfl
 have hB0:=tF.init kX;generalize (List.replicate g.length (-1:Int)).set f 0=D0 at*;generalize (List.replicate g.length (-1:Int)).map mi=C at*;refine θ (cJ @aA @eA @fY @cY ?_);refine VC.gen ?_;intro O3 e3;have aG:O.Ge O3:=by rw[e3];exact aC.set (aec _) _
 have iH:O3.hp O.N=some (.cells (D0.map mi)):=by rw[e3];exact τ _ _ _
 have gE:O.N<O3.N:=by rw[e3];exact eJ
 clear e3 cY fY eA aC eJ O2;refine κ @aA ?_;refine Ξ [5] (fun _:Unit=>[.bz O.N 0 g.length g.length]) (fun _ O'=>O.Ge O'/\∃D,O'.hp O.N=some (.cells (D.map mi))/\D.length=g.length/\∀x,gq D x ↔ fP g f x) ?_ ?_
 ·refine υ ?_;refine Δ [7] [0,5] (fun s:List Int×List Int×Tok=>[.sl s.2.1.length (s.2.1.map mi) s.2.2]) (fun s O'=>O.Ge O'/\O3.N<=O'.N/\O'.hp O.N=some (.cells (s.1.map mi))/\tF g f s.1 s.2.1 g.length 0/\App O' O3.N 1 s.2.2/\s.2.1.length<=mu s.1) (fun s=>2*(g.length - mu s.1)+s.2.1.length) ((D0,[(f:Int)],.full)) ?_ ?_
  ·refine⟨aG,aec _,iH,hB0,trivial,?_⟩;obtain⟨d,h1,h2⟩:=hB0.fr;have:=hB0.bound f d h1;show 1<=mu D0;omega
  clear hB0 iH aG;rintro⟨D,Q,tq⟩ O4 ⟨aY,h_,fb,hB,cy,hQ4⟩;dsimp only at fb hB cy hQ4 ⊢;have Zs:de (bX Tryz.prog) 29 (.sl Q.length (Q.map mi) tq)=some (.v (.int .i64 Q.length)):=bL jr;cases Q with
  | nil=>
    refine ξ @aA @Zs ?_;exact aB.mk () ⟨aY,D,fb,hB.len,hB.all⟩
  | cons m Q=>
  obtain⟨n,rfl,hmn⟩:=hB.q m ajz
  have yi:n<g.length:=by
   obtain⟨d,h1,_⟩:=hmn;have:=(ahV.1 h1).1;have:=hB.len;omega
  have Js:=hB.pop (Nat.le_refl _);have Eb:(((n:Int)::Q).map mi)[0]?=some (MV.v (.int .i64 n)):=rfl;have oH:(((n:Int)::Q).map mi).length=Q.length+1:=by simp
  have SA:=ajp (n:=Q.length) (x:=mi n) (cs:=Q.map mi) (tk:=tq) (Ml _);have hgt:decide ((((n:Int)::Q).length:Int)>0)=true:=decide_eq_true (by rw[ajy];omega);have ahS:decide ((0:Int)<(((n:Int)::Q).length:Int))=true:=hgt;rw[ajy]at hQ4;have hmD:=Hl D;rw[hB.len]at hmD;have qE:g[n]?=some g[n]:=zW yi;have bE:=Hn n yi;have qq:=ra g[n] (aeb yi);have uq:=hs.2 g[n] (aeb yi);generalize g[n]=l at*;have ve:de (bX Tryz.prog) 29 (.sl l.length (l.map mi) (T n))=some (.v (.int .i64 l.length)):=bL jr;have yu:(l.map mi).length=l.length:=Ml _;have BT:∀(j:Nat) (y:Int),l[j]?=some y->(l.map mi)[j]?=some (MV.v (.int .i64 y)):=fun j y h=>by rw[Mm,h];rfl
  generalize l.map mi=cs at*;rw[anG]at Zs Eb oH;rw[ajy]at Zs hgt ahS;simp only[ajy,anG];generalize hmq:Q.map mi=mq at*;simp only[aq]at Zs Eb oH SA ⊢;refine θ (cJ @aA @Zs @hgt @ahS ?_);refine υ ?_;refine θ (aH @aA @Eb @oH ?_);refine θ (aH @aA @Zs @SA ?_);subst hmq;refine VC.wc [0,5,7] (fun x:List Int×List Int×Tok=>[.sl g.length A tk,.bz O.N 0 g.length g.length,.sl x.2.1.length (x.2.1.map mi) x.2.2]) (fun x O'=>O.Ge O'/\O3.N<=O'.N/\O'.hp O.N=some (.cells (x.1.map mi))/\tF g f x.1 x.2.1 n l.length/\App O' O3.N 1 x.2.2/\x.2.1.length<=mu x.1/\2*(g.length - mu x.1)+x.2.1.length<=2*(g.length - mu D)+Q.length) ?_ ?_
  ·refine θ (cJ @aA @bE @ox @ve ?_);refine υ ?_;refine Δ [7,54] [0,5,8,52,53] (fun s:List Int×List Int×Tok×Nat=>[.sl s.2.1.length (s.2.1.map mi) s.2.2.1,mi s.2.2.2]) (fun s O'=>s.2.2.2<=l.length/\O.Ge O'/\O3.N<=O'.N/\O'.hp O.N=some (.cells (s.1.map mi))/\tF g f s.1 s.2.1 n s.2.2.2/\gq s.1 n/\App O' O3.N 1 s.2.2.1/\s.2.1.length<=mu s.1/\2*(g.length - mu s.1)+s.2.1.length<=2*(g.length - mu D)+Q.length) (fun s=>l.length - s.2.2.2) ((D,Q,.full,0)) ?_ ?_
   ·exact⟨VI _,aY,h_,fb,Js,hmn,trivial,by show Q.length<=mu D;omega,aec _⟩
   clear fb aY h_ cy hB Js hmn;rintro⟨D1,Q1,t1,j⟩ O5 ⟨hj,bG,e_,db,ry,zV,gJ,Zt,hM5⟩;dsimp only at hj db ry zV gJ Zt hM5 ⊢;by_cases aM:j<l.length;rotate_left
   ·obtain rfl:j=l.length:=by omega
    refine ν @aA ?_;exact aB.mk (D1,Q1,t1) ⟨bG,e_,db,ry,gJ,Zt,hM5⟩
   have cB:((j:Int)+1)=((j+1:Nat):Int):=by omega
   have hx:=qq l[j] (aeb aM);have D5:l[j]?=some l[j]:=zW aM;have o_:=BT j l[j] D5;generalize l[j]=x at*;obtain⟨k,rfl⟩:=ajx hx.1;have fF:k<D1.length:=by rw[ry.len];omega
   have Mb:D1[k]?=some D1[k]:=zW fF;have gR:(D1.map mi)[k]?=some (MV.v (.int .i64 D1[k])):=by rw[Mm,Mb];rfl
   have am7:=ry.low k _ Mb;obtain⟨d,tY,Hp⟩:=zV;have al5:(D1.map mi)[n]?=some (MV.v (.int .i64 d)):=by rw[Mm,tY];rfl
   have hdb:=ry.bound n d tY;have al6:=Hl D1;rw[ry.len]at al6;have Ik:(D1.map mi).length=g.length:=by rw[Ml,ry.len]
   have cY:(D1.map mi).set k (.v (.int .i64 (d+1)))=(D1.set k (d+1)).map mi:=by rw[List.map_set];rfl
   have JT:=fun h=>ry.add qE D5 tY Hp Mb h
   have CJ:=fun h=>ry.skip qE D5 h
   have hms:=fun(h:D1[k]<0)=>yc (D:=D1) (k:=k) (v:=d+1) (by omega) ⟨D1[k],Mb,h⟩
   generalize D1[k]=e at*;generalize Zu:D1.map mi=DM at*;refine κ @aA ?_;refine κ @aA ?_;refine ω (υ ?_);refine θ (aH @aA @o_ @yu ?_);by_cases he:e<0;rotate_left
   ·have e1:decide (e<0)=false:=decide_eq_false he;refine ι (iw @aA @db @gR @Ik @e1 ?_);refine ο @aA @cB ?_;exact az.N (D1,Q1,t1,j+1) ⟨aM,bG,e_,by rw[Zu];exact db,CJ ⟨e,Mb,by omega⟩,⟨d,tY,Hp⟩,gJ,Zt,hM5⟩
   have e1:decide (e<0)=true:=decide_eq_true he;have am8:=hms he;have ajq:=JT he;have al7:=Hl (D1.set k (d+1));rw[List.length_set,ry.len]at al7;have eZ:O.Ge (O5.set O.N (.cells ((D1.set k (d+1)).map mi))):=bG.set (Nat.le_refl _) _;have mM:App (O5.set O.N (.cells ((D1.set k (d+1)).map mi))) O3.N 1 t1:=r3 gJ (fun i hi=>ρ _ _ (by omega)) (Nat.le_refl _);have mQ:(O5.set O.N (.cells ((D1.set k (d+1)).map mi))).hp O.N=some (.cells ((D1.set k (d+1)).map mi)):=τ _ _ _;have nH:O3.N<=(O5.set O.N (.cells ((D1.set k (d+1)).map mi))).N:=e_;have jB:=aT (tk:=t1) (tk':=.full) (n:=Q1.length) (k:=1) (cs:=Q1.map mi) (ds:=[.v (.int .i64 k)]) jr T3 mM (by rw[List.length_map,Nat.mul_one]) rfl rfl (by decide) (by decide) (by omega) (by simp only[maxLen];omega);refine ι (FI @aA @db (And.intro gR al5) @Ik @e1 @cY ?_);generalize O5.set O.N (.cells ((D1.set k (d+1)).map mi))=O6 at*;refine VL.app jB ?_;refine ab @aA ?_;refine ο @aA @cB ?_;refine az.N (D1.set k (d+1),Q1++[(k:Int)],.own O6.N 1,j+1) ⟨aM,eZ.after mM (by omega),by rw[VH.dY];omega,VH.jD mM mQ (by simp) (by omega),ajq,CP (by omega) ⟨d,tY,Hp⟩,App.after (by omega),?_,?_⟩ (hl:=by dsimp only;rw[List.length_append,List.map_append];rfl)
   ·show(Q1++[(k:Int)]).length<=mu (D1.set k (d+1));rw[Mn,anc];omega
   ·show 2*(g.length - mu (D1.set k (d+1)))+(Q1++[(k:Int)]).length<=_;rw[Mn,anc];omega
  clear fb cy hB Js;rintro⟨D1,Q1,t1⟩ O5 ⟨bG,e_,db,ry,gJ,Zt,hM5⟩;dsimp only at db ry gJ Zt hM5;exact⟨rfl,(D1,Q1,t1),rfl,⟨bG,e_,db,ry.fin qE,gJ,Zt⟩,by dsimp only;rw[ajy];omega⟩
 rintro _ O9 ⟨bh,D,Tx,Ik,hD⟩;refine VC.freeze 5 (sz:=g.length) rfl Tx (by rw[Ml];omega) ?_
 have cT:((D.map mi).drop 0).take g.length=D.map mi:=by
  rw[anp,ajB (by rw[Ml];omega)]
 rw[cT,if_pos rfl];generalize hG:D.map mi=G at*;refine κ @aA ?_;refine ν @aA ?_;refine⟨bh.kill (aec _),.inl ⟨hf.1,hf.2,D,.full,by rw[hG],Ik,hD⟩⟩
def cR (p:Nat->Bool) (n:Nat):List Int:=((List.range n).filter p).map fun i:Nat=>(i:Int)
theorem uL (p:Nat->Bool) (n:Nat):cR p (n+1)=cR p n++if p n then[(n:Int)]else[]:=by
 unfold cR;rw[anC,List.filter_append,ajw]
 congr 1
 cases h:p n<;>simp[h]
theorem ma (p:Nat->Bool) (n:Nat):(cR p n).length<=n:=by
 unfold cR;rw[Ml];have:=List.length_filter_le p (List.range n)
 rwa [anu]at this
theorem DF {p q:Nat->Bool} {n:Nat} (h:∀x,x<n->p x=q x):cR p n=cR q n:=by
 unfold cR;rw[List.filter_congr fun x hx=>h x (ajA.1 hx)]
theorem tG {p:Nat->Bool} {n:Nat} {x:Int}:x∈cR p n ↔ ∃i:Nat,x=i/\i<n/\p i=true:=by
 unfold cR;rw[ane];constructor
 ·rintro⟨i,h,rfl⟩;obtain⟨h1,h2⟩:=List.mem_filter.1 h;exact⟨i,rfl,ajA.1 h1,h2⟩
 ·rintro⟨i,rfl,h1,h2⟩;exact⟨i,List.mem_filter.2 ⟨ajA.2 h1,h2⟩,rfl⟩
theorem adP (g:List (List Int)) (T:Nat->Tok) (tk:Tok) (f:Int) (O:VH) (hs:xh 1000000 g):VF Tryz.prog 27 [.sl g.length (bY g T) tk,mi f] O (aE fun m O'=>O.Ge O'/\∃p t,m= .sl (cR p g.length).length ((cR p g.length).map mi) t/\∀x,x<g.length->(p x=true ↔ lG g=true/\0<=f/\f<(g.length:Int)/\fP g f.toNat x)):=by
 have Ij:=hs.1;have hd:=adO g T tk f O hs;generalize bY g T=A at*;rw[aq]at hd ⊢;refine χ 24 [.tmp 4] Tryz.func27 ?_;refine κ @aA ?_;refine Ξ [4] (fun x:(Nat->Bool)×Tok=>[.sl (cR x.1 g.length).length ((cR x.1 g.length).map mi) x.2]) (fun x O'=>O.Ge O'/\∀y,y<g.length->(x.1 y=true ↔ lG g=true/\0<=f/\f<(g.length:Int)/\fP g f.toNat y)) ?_ ?_
 ·refine κ @aA ?_;refine π hd ?_;rintro m O1 ⟨aJ,⟨hm,hf1,kX,D,t,rfl,Ik,hD⟩ | ⟨ec,rfl⟩⟩;rotate_left
  ·refine ab @aA ?_;refine υ ?_;have DQ:de (bX Tryz.prog) 29 (.sl 0 [] .nil)=some (.v (.int .i64 0)):=bL jr;refine Δ [4,11] [9,10] (fun _:Unit=>[.sl 0 [] .nil,mi 0]) (fun _ O'=>O'=O1) (fun _=>0) (()) ?_ ?_
   ·rfl
   rintro _ Ox eO;rw[eO];clear eO Ox
   refine ν @aA ?_;have e0:cR (fun _:Nat=>false) g.length=[]:=by unfold cR;simp
   refine aB.mk (fun _=>false,.nil) ⟨aJ,fun y _=>⟨(fun h=>by cases h),fun h=>?_⟩⟩ (h1:=by dsimp only;rw[e0];rfl);rcases ec with ec | ec | ec
   ·rw[ec]at h;cases h.1
   ·omega
   ·omega
  have hvD:de (bX Tryz.prog) 29 (.sl g.length (D.map mi) t)=some (.v (.int .i64 g.length)):=bL jr;have Zu:(D.map mi).length=g.length:=by rw[Ml,Ik]
  have hgD:∀(j:Nat) (y:Int),D[j]?=some y->(D.map mi)[j]?=some (MV.v (.int .i64 y)):=fun j y h=>by rw[Mm,h];rfl
  obtain⟨p,hp⟩:∃p:Nat->Bool,p=fun x=>decide (0<=D.getD x (-1)):=⟨_,rfl⟩
  have hpm:∀x,p x=true ↔ gq D x:=fun x=>by
   rw[hp];dsimp only;rw[decide_eq_true_eq,agu];constructor
   ·intro h;cases hx:D[x]? with
    | none=>rw[hx]at h;simp at h
    | some d=>rw[hx]at h;exact⟨d,hx,h⟩
   ·rintro⟨d,h1,h2⟩;rw[h1];exact h2
  generalize D.map mi=cs at*;refine ao @aA @hvD ?_;refine υ ?_;refine Δ [4,11] [9,10] (fun s:Nat×Tok=>[.sl (cR p s.1).length ((cR p s.1).map mi) s.2,mi s.1]) (fun s O'=>s.1<=g.length/\O.Ge O'/\App O' O.N 1 s.2) (fun s=>g.length - s.1) ((0,.nil)) ?_ ?_
  ·exact⟨VI _,aJ,trivial⟩
  rintro⟨j,t1⟩ O3 ⟨hj,aG,iH⟩;dsimp only at hj iH ⊢;by_cases aM:j<g.length;rotate_left
  ·obtain rfl:j=g.length:=by omega
   refine ν @aA ?_;refine aB.mk (p,t1) ⟨aG,fun y _=>?_⟩;dsimp only;rw[hpm,hD];exact⟨fun h=>⟨hm,hf1,kX,h⟩,fun h=>h.2.2.2⟩
  have cB:((j:Int)+1)=((j+1:Nat):Int):=by omega
  have hDj:D[j]?=some D[j]:=zW (by omega);have bE:=hgD j _ hDj;have uM:=uL p j;have Pp:=ma p j;have hpj:p j=decide (0<=D[j]):=by rw[hp];dsimp only;rw[agu,hDj];rfl
  generalize D[j]=d at*;generalize cR p j=P at*;refine κ @aA ?_;refine κ @aA ?_;refine ω (υ ?_);refine θ (aH @aA @bE @Zu ?_);by_cases Hp:0<=d
  ·have e1:decide (0<=d)=true:=decide_eq_true Hp;have e2:decide (d>=0)=true:=e1;rw[hpj,e1,if_pos rfl]at uM;have jB:=aT (tk:=t1) (tk':=.full) (n:=P.length) (k:=1) (cs:=P.map mi) (ds:=[.v (.int .i64 j)]) jr T3 iH (by rw[Ml,ana]) rfl rfl (by decide) (by decide) (by omega) (by simp only[maxLen];omega);refine ι (aH @aA @e1 @e2 ?_);refine VL.app jB ?_;refine ab @aA ?_;refine ο @aA @cB ?_;exact az.N (j+1,.own O3.N 1) ⟨aM,cc.ee aG iH (cc.after iH),App.after aG.N⟩ (hl:=by dsimp only;rw[uM,Mn,ajw];rfl)
  ·have e1:decide (0<=d)=false:=decide_eq_false Hp;have e2:decide (d>=0)=false:=e1;rw[hpj,e1,if_neg (by decide),ame]at uM;refine ι (aH @aA @e1 @e2 ?_);refine ο @aA @cB ?_;exact az.N (j+1,t1) ⟨aM,aG,iH⟩ (hl:=by dsimp only;rw[uM];rfl)
 rintro⟨p,t⟩ O9 ⟨bh,hp⟩;refine κ @aA ?_;refine ν @aA ?_;exact⟨bh,p,t,rfl,hp⟩
def fX (n:Nat) (q:Nat->Bool):List MV:=(List.range n).map fun x=>mb (q x)
theorem lH (n:Nat) (q:Nat->Bool):(fX n q).length=n:=by simp[fX]
theorem oR {n:Nat} (q:Nat->Bool) {x:Nat} (h:x<n):(fX n q)[x]?=some (.v (.bool (q x))):=by
 unfold fX;rw[Mm,anb h];rfl
theorem BW (n:Nat):List.replicate n (MV.v (.bool false))=fX n fun _=>false:=by
 unfold fX
 exact(List.eq_replicate_iff.2 ⟨by simp,fun b hb=>by
  obtain⟨u,_,rfl⟩:=ane.1 hb;rfl⟩).symm
def JZ (q:Nat->Bool) (k:Nat) (b:Bool):Nat->Bool:=fun v=>if v=k then b else q v
theorem DG {n:Nat} (q:Nat->Bool) {k:Nat} (b:Bool) (hk:k<n):(fX n q).set k (.v (.bool b))=fX n (JZ q k b):=by
 refine anH fun i=>?_
 rw[List.getElem?_set,lH];by_cases e:k=i
 ·subst e;rw[if_pos rfl,if_pos hk,oR _ hk];unfold JZ;rw[if_pos rfl]
 ·rw[if_neg e];by_cases hi:i<n
  ·rw[oR _ hi,oR _ hi];unfold JZ;rw[if_neg (Ne.symm e)]
  ·rw[ahZ (by rw[lH];omega),ahZ (by rw[lH];omega)]
set_option maxHeartbeats 8000000 in
theorem Hq (g:List (List Int)) (T:Nat->Tok) (tk:Tok) (C:List Int) (tc:Tok) (O:VH) (hs:xh 1000 g) (hC:C.length<=100000):VF Tryz.prog 11 [.sl g.length (bY g T) tk,.sl C.length (C.map mi) tc] O (aE fun m O'=>O.Ge O'/\((lG g=true/\∃q t,m= .sl (cR q g.length).length ((cR q g.length).map mi) t/\∀x,x<g.length->(q x=true ↔ ∃c∈C,0<=c/\c<(g.length:Int)/\fP g x c.toNat))\/(lG g=false/\∃t,m= .sl 0 [] t))):=by
 have htu:=Zr g T tk O hs;have Tz:de (bX Tryz.prog) 29 (.sl C.length (C.map mi) tc)=some (.v (.int .i64 C.length)):=bL jr;have hCm:(C.map mi).length=C.length:=Ml _;have La:∀(j:Nat) (y:Int),C[j]?=some y->(C.map mi)[j]?=some (MV.v (.int .i64 y)):=fun j y h=>by rw[Mm,h];rfl
 generalize C.map mi=CM at*;refine χ 51 [.tmp 4] Tryz.func11 ?_;refine κ @aA ?_;refine κ @aA ?_;refine π htu ?_;rintro m O1 ⟨aJ,hm⟩
 obtain⟨t,T1,TA,rfl,cY,ZQ,ajr⟩:∃t T1 TA,m= .sl t.length (bY t T1) TA/\xh 1000000 t/\BR t/\((lG g=true/\t.length=g.length/\∀a b,nc t a b ↔ nc g b a)\/(lG g=false/\t=[])):=by
  rcases hm with⟨h1,t,T1,TA,h2,h3,h4,h5,h6⟩ | ⟨h1,h2⟩
  ·exact⟨t,T1,TA,by rw[h2,h3],h5,h6,.inl ⟨h1,h3,h4⟩⟩
  ·exact⟨[],fun _=>.nil,.nil,h2,⟨VI _,by simp⟩,(by intro l hl;cases hl),.inr ⟨h1,rfl⟩⟩
 clear hm htu;have Zv:=(jR t).2 ZQ;have Ij:=cY.1;have Tw:=fun f O'=>adP t T1 TA f O' cY
 have hvt:de (bX Tryz.prog) 25 (.sl t.length (bY t T1) TA)=some (.v (.int .i64 t.length)):=bL zH;have jP:=fun O'=>JL (tab:=bX Tryz.prog) T69 T4 O' t.length (by omega) (by omega)
 generalize bY t T1=A at*;refine ab @aA ?_;refine θ (aH @aA @hvt @jP ?_);refine VC.bx ?_;rintro O2 ⟨aC,eA,eJ⟩;rw[BW]at eA;have fC:=aJ.trans aC;refine Ξ [4,6] (fun _:Unit=>[.sl 0 [] .nil,.bz O1.N 0 t.length t.length]) (fun _ O'=>O.Ge O'/\O1.N<O'.N/\∃q,O'.hp O1.N=some (.cells (fX t.length q))/\∀x,x<t.length->(q x=true ↔ ∃c∈C,0<=c/\c<(t.length:Int)/\fP t c.toNat x)) ?_ ?_
 ·refine ξ @aA @Tz ?_;refine υ ?_;refine Δ [20] [4,5,6,18,19] (fun i:Nat=>[mi i]) (fun i O'=>i<=C.length/\O.Ge O'/\O1.N<O'.N/\∃q,O'.hp O1.N=some (.cells (fX t.length q))/\∀x,x<t.length->(q x=true ↔ ∃c∈C.take i,0<=c/\c<(t.length:Int)/\fP t c.toNat x)) (fun i=>C.length - i) (0) ?_ ?_
  ·exact⟨VI _,fC,by omega,_,eA,fun x _=>⟨(fun h=>by cases h),fun⟨c,h,_⟩=>by simp at h⟩⟩
  clear eA;rintro i O3 ⟨hi,aG,gE,q,iH,hq⟩;by_cases dA:i<C.length;rotate_left
  ·obtain rfl:i=C.length:=by omega
   rw[aed]at hq;refine ν @aA ?_;exact aB.mk () ⟨aG,gE,q,iH,hq⟩
  have mH:((i:Int)+1)=((i+1:Nat):Int):=by omega
  have GK:C[i]?=some C[i]:=zW dA;have bE:=La i _ GK;have cT:C.take (i+1)=C.take i++[C[i]]:=by rw[aee dA]
  generalize C[i]=c at*;have uB:=Tw c O3;rw[aq]at uB;refine κ @aA ?_;refine κ @aA ?_;refine ω (υ ?_);refine θ (aH @aA @bE @hCm ?_);refine VC.wc [4,5,6,18,19,20] (fun _:Unit=>[.sl 0 [] .nil,.sl t.length A TA,.bz O1.N 0 t.length t.length,.sl C.length CM tc,mi C.length,mi i]) (fun _ O'=>O.Ge O'/\O1.N<O'.N/\∃q,O'.hp O1.N=some (.cells (fX t.length q))/\∀x,x<t.length->(q x=true ↔ ∃c∈C.take (i+1),0<=c/\c<(t.length:Int)/\fP t c.toNat x)) ?_ ?_
  ·refine κ @aA ?_;refine π uB ?_;rintro _ O4 ⟨aY,p,tp,rfl,hp⟩;have hvp:de (bX Tryz.prog) 29 (.sl (cR p t.length).length ((cR p t.length).map mi) tp)=some (.v (.int .i64 (cR p t.length).length)):=bL jr;have hIm:((cR p t.length).map mi).length=(cR p t.length).length:=Ml _;have hgI:∀(j:Nat) (y:Int),(cR p t.length)[j]?=some y->((cR p t.length).map mi)[j]?=some (MV.v (.int .i64 y)):=fun j y h=>by rw[Mm,h];rfl
   have adQ:=fun x=>tG (p:=p) (n:=t.length) (x:=x)
   have hIl:=ma p t.length;generalize cR p t.length=I at*;generalize I.map mi=IM at*;have fb:=aY.at iH;refine ao @aA @hvp ?_;refine υ ?_;refine Δ [28] [4,5,6,18,19,20,26,27] (fun j:Nat=>[mi j]) (fun j O'=>j<=I.length/\O.Ge O'/\O1.N<O'.N/\∃q',O'.hp O1.N=some (.cells (fX t.length q'))/\∀x,x<t.length->(q' x=true ↔ q x=true\/(x:Int)∈I.take j)) (fun j=>I.length - j) (0) ?_ ?_
   ·exact⟨VI _,aG.trans aY,by have:=aY.N;omega,q,fb,fun x _=>⟨.inl,fun h=>h.elim id fun h=>by simp at h⟩⟩
   clear fb;rintro j O5 ⟨hj,bG,e_,q',db,SR⟩;by_cases aM:j<I.length;rotate_left
   ·obtain rfl:j=I.length:=by omega
    rw[aed]at SR;refine ν @aA ?_;refine aB.mk () ⟨bG,e_,q',db,fun x hx=>?_⟩;rw[SR x hx,hq x hx,adQ];constructor
    ·rintro(⟨c',h1,h2⟩ | ⟨k,h1,h2,h3⟩)
     ·exact⟨c',by rw[cT];exact anj _ h1,h2⟩
     ·have:x=k:=by omega
      subst this;obtain⟨_,h4,h5,h6⟩:=(hp x hx).1 h3;exact⟨c,by rw[cT];simp,h4,h5,h6⟩
    ·rintro⟨c',h1,h2,h3,h4⟩;rw[cT,ahY]at h1;rcases h1 with h1 | h1
     ·exact .inl ⟨c',h1,h2,h3,h4⟩
     ·rw[ahW.1 h1]at h2 h3 h4;exact .inr ⟨x,rfl,hx,(hp x hx).2 ⟨Zv,h2,h3,h4⟩⟩
   have cB:((j:Int)+1)=((j+1:Nat):Int):=by omega
   have hIj:I[j]?=some I[j]:=List.getElem?_eq_getElem aM;obtain⟨k,cA,bN,dR⟩:=(adQ I[j]).1 (List.getElem_mem aM);rw[cA]at hIj;have o_:=hgI j _ hIj;have BU:I.take (j+1)=I.take j++[(k:Int)]:=by rw[List.take_add_one,hIj];rfl
   have gL:=DG q' true bN;have fY:=lH t.length q';generalize OS:fX t.length q'=CQ at*;refine κ @aA ?_;refine κ @aA ?_;refine ω (υ ?_);refine θ (aH @aA @o_ @hIm ?_);refine ι (cJ @aA @db @fY @gL ?_);refine ο @aA @cB ?_;refine az.N (j+1) ⟨aM,bG.set (by have:=aJ.N;omega) _,e_,_,τ _ _ _,fun x hx=>?_⟩;unfold JZ;by_cases e:x=k
   ·subst e;rw[if_pos rfl,BU];exact⟨fun _=>.inr (by simp),fun _=>rfl⟩
   ·rw[if_neg e,SR x hx,BU,ahY];constructor
    ·rintro(h | h)
     ·exact .inl h
     ·exact .inr (.inl h)
    ·rintro(h | h | h)
     ·exact .inl h
     ·exact .inr h
     ·exfalso;have:=ahW.1 h;omega
  clear iH hq gE aG q;rintro _ O4 ⟨aY,h_,q,fb,hq⟩;refine ο @aA @mH ?_;exact az.N (i+1) ⟨dA,aY,h_,q,fb,hq⟩
 clear eA;rintro _ O3 ⟨aG,gE,q,iH,hq⟩;have hva:de (bX Tryz.prog) 69 (.bz O1.N 0 t.length t.length)=some (.v (.int .i64 t.length)):=rfl;refine Ξ [4] (fun t4:Tok=>[.sl (cR q t.length).length ((cR q t.length).map mi) t4]) (fun _ O'=>O.Ge O') ?_ ?_
 ·refine ξ @aA @hva ?_;refine υ ?_;refine Δ [4,39] [37,38] (fun s:Nat×Tok=>[.sl (cR q s.1).length ((cR q s.1).map mi) s.2,mi s.1]) (fun s O'=>s.1<=t.length/\O3.Ge O'/\App O' O3.N 1 s.2) (fun s=>t.length - s.1) ((0,.nil)) ?_ ?_
  ·exact⟨VI _,VH.Ge.refl _,trivial⟩
  rintro⟨j,t1⟩ O5 ⟨hj,bG,db⟩;dsimp only at hj db ⊢;by_cases aM:j<t.length;rotate_left
  ·obtain rfl:j=t.length:=by omega
   refine ν @aA ?_;exact aB.mk t1 (aG.trans bG)
  have cB:((j:Int)+1)=((j+1:Nat):Int):=by omega
  have bE:=oR q aM;have fY:=lH t.length q;have gK:=bG.at iH;have uM:=uL q j;have Pp:=ma q j;generalize q j=b at*;generalize cR q j=P at*;generalize fX t.length q=CQ at*;refine κ @aA ?_;refine κ @aA ?_;refine ω (υ ?_);refine θ (cJ @aA @gK @bE @fY ?_);cases b
  ·rw[if_neg (by decide),ame]at uM;refine ν @aA ?_;refine ο @aA @cB ?_;exact az.N (j+1,t1) ⟨aM,bG,db⟩ (hl:=by dsimp only;rw[uM];rfl)
  ·rw[if_pos rfl]at uM;have jB:=aT (tk:=t1) (tk':=.full) (n:=P.length) (k:=1) (cs:=P.map mi) (ds:=[.v (.int .i64 j)]) jr T3 db (by rw[Ml,ana]) rfl rfl (by decide) (by decide) (by omega) (by simp only[maxLen];omega);refine ν @aA ?_;refine VL.app jB ?_;refine ab @aA ?_;refine ο @aA @cB ?_;exact az.N (j+1,.own O5.N 1) ⟨aM,cc.ee bG db (cc.after db),App.after bG.N⟩ (hl:=by dsimp only;rw[uM,Mn,ajw];rfl)
 rintro t4 O9 bh;refine κ @aA ?_;refine ν @aA ?_;refine⟨bh,?_⟩;rcases ajr with⟨h1,h2,h3⟩ | ⟨h1,rfl⟩
 ·refine .inl ⟨h1,q,t4,by rw[h2],fun x hx=>?_⟩;rw[hq x (by omega),h2];constructor
  ·rintro⟨c,a1,a2,a3,a4⟩;exact⟨c,a1,a2,a3,(JX h3 x c.toNat).2 a4⟩
  ·rintro⟨c,a1,a2,a3,a4⟩;exact⟨c,a1,a2,a3,(JX h3 x c.toNat).1 a4⟩
 ·exact .inr ⟨h1,t4,rfl⟩
set_option linter.defProp false in
def dE:=ZA aA T72
theorem Qs (X:List (List Int)) (T:Nat->Tok) (w:List Int) (t:Tok):bY X T++[.sl w.length (w.map mi) t]=bY (X++[w]) (fun v=>if v=X.length then t else T v):=by
 unfold bY;rw[Mn,anc, <-Qq];have h1:(X++[w]).getD X.length []=w:=by simp
 rw[h1]
 congr 1
 exact ir T fun u hu=>by
  rw[agu,agu,anh hu]
theorem agi (l:List Int) (tk:Tok) (fin:FuncId) (cin:List MV) (p:Int->Bool) (O:VH) (hl:l.length<=1000000) (hc:df Tryz.prog fin=true) (hf:∀x∈l,VF Tryz.prog fin (mi x::cin) O (aE fun m O'=>m=mb (p x)/\O'=O)):
  VF Tryz.prog 47 [.sl l.length (l.map mi) tk,.func (.func fin) [] cin] O (aE fun m O'=>(∃i:Int,m=mi i/\decide (0<=i)=l.any p)/\O'=O):=by
 have eP:de (bX Tryz.prog) 29 (.sl l.length (l.map mi) tk)=some (.v (.int .i64 l.length)):=bL jr;have ox:∀(j:Nat) (y:Int),l[j]?=some y->(l.map mi)[j]?=some (MV.v (.int .i64 y)):=fun j y h=>by rw[Mm,h];rfl
 have yu:(l.map mi).length=l.length:=Ml _;generalize l.map mi=cs at*;refine χ 19 [.tmp 4] Tryz.func47 ?_;refine κ @dE ?_;refine Ξ [] (fun _:Unit=>[]) (fun _ O'=>O'=O/\l.any p=false) ?_ ?_
 ·refine ξ @dE @eP ?_;refine υ ?_;refine Δ [8] [0,1,7] (fun j:Nat=>[mi j]) (fun j O'=>O'=O/\j<=l.length/\(l.take j).any p=false) (fun j=>l.length - j) (0) ?_ ?_
  ·exact⟨rfl,VI _,rfl⟩
  rintro j Ox ⟨eO,hj,ec⟩;rw[eO];clear eO Ox
  by_cases aM:j<l.length;rotate_left
  ·obtain rfl:j=l.length:=by omega
   rw[aed]at ec;refine ν @dE ?_;exact aB.mk () ⟨rfl,ec⟩
  have cB:((j:Int)+1)=((j+1:Nat):Int):=by omega
  have bE:=ox j l[j] (zW aM);have cT:l.take (j+1)=l.take j++[l[j]]:=by rw[aee aM]
  have Dw:=aeb aM;have hfx:=hf l[j] Dw;generalize l[j]=y at*;rw[aq]at hfx;refine κ @dE ?_;refine κ @dE ?_;refine ω (υ ?_);refine κ @dE ?_;refine θ (aH @dE @bE @yu ?_);refine π hfx ?_ (hb:=hc);rintro _ Ox ⟨rfl,eO⟩;rw[eO];clear eO Ox
  cases hy:p y
  ·refine ab @dE ?_;refine ν @dE ?_;refine ο @dE @cB ?_;refine az.N (j+1) ⟨rfl,aM,?_⟩;rw[cT,List.any_append,ec,Bool.false_or];simpa using hy
  ·refine ab @dE ?_;refine ν @dE ?_;refine⟨j,rfl,?_⟩;rw[List.any_eq_true.2 ⟨y,Dw,hy⟩];simp
 rintro _ Ox ⟨eO,ec⟩;rw[eO];clear eO Ox
 refine ν @dE ?_;exact⟨-1,rfl,by rw[ec];rfl⟩
theorem adR (l:List Int) (tk:Tok) (fin:FuncId) (cin:List MV) (p:Int->Bool) (O:VH) (hl:l.length<=1000000) (hc:df Tryz.prog fin=true) (hf:∀x∈l,VF Tryz.prog fin (mi x::cin) O (aE fun m O'=>m=mb (p x)/\O'=O)):
  VF Tryz.prog 31 [.sl l.length (l.map mi) tk,.func (.func fin) [] cin] O (aE fun m O'=>m=mb (l.any p)/\O'=O):=by
 have h:=agi l tk fin cin p O hl hc hf;refine Θ 9 [.tmp 4] Tryz.func31 ?_;refine ab @dE ?_;refine π (h) ?_;rintro _ O2 ⟨⟨i,rfl,hi⟩,e2⟩;rw[e2];clear e2 O2
 rw[aq];have rF:decide (i>=0)=l.any p:=hi;refine aH @dE @hi @rF ?_;trivial
def om (g:List (List Int)) (d:Nat->Bool) (n:Nat):Bool:= !d n&& !((g.getD n []).any fun k=> !d k.toNat)
def ku (d:Nat->Bool) (w:List Int):Nat->Bool:=fun v=>d v||w.contains (v:Int)
def kx (g:List (List Int)) (d:Nat->Bool):List Int:=cR (om g d) g.length
def kW (g:List (List Int)):Nat->(Nat->Bool)->List (List Int)
 | 0,_=>[]
 | f+1,d=>if(kx g d).length=0 then[]else kx g d::kW g f (ku d (kx g d))
def Hr (d:Nat->Bool) (n:Nat):Nat:=(List.range n).countP fun v=> !d v
theorem TB {g:List (List Int)} {d:Nat->Bool} (h:(kx g d).length≠0):Hr (ku d (kx g d)) g.length<Hr d g.length:=by
 obtain⟨x,hx⟩:=List.exists_mem_of_ne_nil (kx g d) (fun e=>h (by rw[e];rfl));obtain⟨i,h1,h2,h3⟩:=(tG (p:=om g d)).1 hx
 have hdi:d i=false:=by
  unfold om at h3;rw[anx]at h3;simpa using h3.1
 have hle:∀(l:List Nat),(l.countP fun v=> !ku d (kx g d) v)<=l.countP fun v=> !d v:=fun l=>List.countP_mono_left fun v _ hv=>by
  unfold ku at hv;cases hd:d v
  ·rfl
  ·rw[hd]at hv;simp at hv
 unfold Hr;obtain⟨l1,l2,e⟩:=List.append_of_mem (ajA.2 h2);rw[e,List.countP_append,List.countP_append,anv,anv];have a1:=hle l1;have a2:=hle l2
 have m1:ku d (kx g d) i=true:=by
  unfold ku;have:(kx g d).contains (i:Int)=true:=by rw[List.contains_iff_mem, <-h1];exact hx
  rw[this,Bool.or_true]
 rw[m1,hdi];simp only[Bool.not_true,Bool.not_false,anr,if_false,if_true];omega
theorem adS (d:Nat->Bool) (n:Nat):Hr d n<=n:=by
 have:=List.countP_le_length (p:=fun v=> !d v) (l:=List.range n)
 rwa [anu]at this
theorem adT (g:List (List Int)) (T:Nat->Tok) (tk:Tok) (d:Nat->Bool) (n bd bq bg:Nat) (O:VH) (hs:xh 1000000 g) (hm:BR g) (hn:n<g.length) (h1:O.hp bd=some (.cells [.bz bq 0 g.length g.length])) (h2:O.hp bq=some (.cells (fX g.length d))) (h3:O.hp bg=some (.cells [.sl g.length (bY g T) tk])):
  VF Tryz.prog 30 [mi n,.ptr bd 0,.ptr bg 0] O (aE fun m O'=>m=mb (om g d n)/\O'=O):=by
 have bE:=l_ g T hn;have ox:=jn g T;have fY:=lH g.length d;have hcd:=oR d hn
 have ahT:∀x∈g[n],VF Tryz.prog 32 [mi x,.ptr bd 0] O (aE fun m O'=>m=mb (!d x.toNat)/\O'=O):=fun x hx=>by
  obtain⟨h4,h5⟩:=hm _ (aeb hn) x hx;obtain⟨k,rfl⟩:=ajx h4;have FH:=oR d (show k<g.length by omega);rw[aq,ang];generalize fX g.length d=CB at*;refine χ 9 [.tmp 3] Tryz.func32 ?_;refine κ @dE ?_;refine ι (iw @dE @h1 @h2 @FH @fY ?_);trivial
 have JN:=adR g[n] (T n) 32 [.ptr bd 0] (fun k=> !d k.toNat) O (hs.2 _ (aeb hn)) (by kernel_rfl) ahT
 have Ak:om g d n=(!d n&& !(g[n].any fun k=> !d k.toNat)):=by
  unfold om;rw[agu,zW hn];rfl
 rw[Ak,aq];clear ahT Ak;generalize fX g.length d=CB at*;generalize bY g T=A at*;generalize (g[n].any fun k=> !d k.toNat)=z at*;generalize d n=dn at*;refine χ 19 [.tmp 4] Tryz.func30 ?_;refine κ @dE ?_;cases dn
 ·refine θ (FI @dE @h1 @h2 (ZA hcd fY) @h3 (ZA bE ox) ?_);refine π JN ?_;rintro _ Ox ⟨rfl,eO⟩;rw[eO];clear eO Ox
  refine ab @dE ?_;refine ν @dE ?_;trivial
 ·refine θ (cJ @dE @h1 @h2 (ZA hcd fY) ?_);refine ν @dE ?_;trivial
set_option maxHeartbeats 8000000 in
theorem adU (g:List (List Int)) (T:Nat->Tok) (tk:Tok) (O:VH) (hs:xh 1000000 g):VF Tryz.prog 15 [.sl g.length (bY g T) tk] O (aE fun m O'=>O.Ge O'/\((lG g=true/\∃T' t,m= .sl (kW g (g.length+1) fun _=>false).length (bY (kW g (g.length+1) fun _=>false) T') t)\/(lG g=false/\m= .sl 0 [] .nil))):=by
 have Ij:=hs.1;have eP:de (bX Tryz.prog) 25 (.sl g.length (bY g T) tk)=some (.v (.int .i64 g.length)):=bL zH;have jP:=fun O'=>JL (tab:=bX Tryz.prog) T69 T4 O' g.length (by omega) (by omega)
 have BV:=fun O'=>Hm g T tk O' hs
 obtain⟨A,hA⟩:∃A,A=bY g T:=⟨_,rfl⟩
 rw[<-hA]at eP BV ⊢;refine χ 47 [.tmp 2] Tryz.func15 ?_;refine κ @dE ?_;refine VC.bx ?_;rintro O1 ⟨aJ,eQ,cW⟩;refine ξ @dE @eQ ?_;refine π (BV O1) ?_;rintro _ Ox ⟨rfl,eO⟩;rw[eO];clear eO Ox BV
 cases hm:lG g
 ·refine ab @dE ?_;exact⟨aJ,.inr (by simp)⟩
 have ra:=(jR g).1 hm;refine ab @dE ?_;refine θ (cJ @dE @eQ @eP @jP ?_);refine VC.gen ?_;intro O2 e2;have eJ:O2.N=O.N+3:=by rw[e2];show O1.N+1+1=_;omega
 have si:O2.hp O1.N=some (.cells (fX g.length fun _=>false)):=by
  rw[e2,ρ _ _ (by show O1.N≠O1.N+1;omega),VH.o0 _ _ (by show O1.N≠O1.N+1;omega), <-BW];exact Υ _ _
 have jS:O2.hp (O1.N+1)=some (.cells [.bz O1.N 0 g.length g.length]):=by rw[e2];exact τ _ _ _
 have aC:O1.Ge O2:=by rw[e2];exact(((VH.Ge.refl O1).push _).push _).set (Nat.le_succ _) _
 clear e2;have cK:=aC.at eQ;have fC:=aJ.trans aC;obtain⟨W,hW⟩:∃W,W=kW g (g.length+1) (fun _=>false):=⟨_,rfl⟩
 rw[<-hW]
 have hWl:W.length<=1001:=by
  have:∀(f:Nat) d,(kW g f d).length<=f:=fun f=>by
   induction f with
   | zero=>intro d;exact aec _
   | succ f ih=>
     intro d;rw[kW];split
     ·exact VI _
     ·rw[ajy];have:=ih (ku d (kx g d));omega
  have:=this (g.length+1) (fun _=>false);rw[hW];omega
 refine κ @dE ?_;refine υ ?_;refine Δ [2] [1,3,4] (fun s:List (List Int)×(Nat->Tok)×Tok×(Nat->Bool)=>[.sl s.1.length (bY s.1 s.2.1) s.2.2.1]) (fun s O'=>O.Ge O'/\O2.N<=O'.N/\O'.hp O1.N=some (.cells (fX g.length s.2.2.2))/\O'.hp (O1.N+1)=some (.cells [.bz O1.N 0 g.length g.length])/\O'.hp O.N=some (.cells [.sl g.length A tk])/\App O' O2.N 1 s.2.2.1/\∃f,Hr s.2.2.2 g.length<f/\W=s.1++kW g f s.2.2.2) (fun s=>Hr s.2.2.2 g.length) (([],(fun _=>.nil),.nil,(fun _=>false))) ?_ ?_
 ·exact⟨fC,aec _,si,jS,cK,trivial,g.length+1,Nat.lt_succ_of_le (adS _ _),hW⟩
 clear si jS cK eQ fC;rintro⟨X,TX,tX,d⟩ O3 ⟨aG,gE,qZ,wI,cC,lr,f,hf,Qt⟩;dsimp only at qZ lr hf Qt ⊢;obtain⟨f,rfl⟩:∃f',f=f'+1:=⟨f - 1,by omega⟩
 have HT:X.length<=W.length:=by rw[Qt,Mn];omega
 refine υ ?_;refine κ @dE ?_;refine Ξ [1,2,3,4,5] (fun t:Tok=>[.ptr O.N 0,.sl X.length (bY X TX) tX,.ptr (O1.N+1) 0,.func (.func 30) [] [.ptr (O1.N+1) 0,.ptr O.N 0],.sl (kx g d).length ((kx g d).map mi) t]) (fun t O'=>O3.Ge O'/\App O' O3.N 1 t) ?_ ?_
 ·refine θ (aH @dE @cC @eP ?_);refine υ ?_;refine Δ [5,18] [1,2,3,4,17] (fun s:Nat×Tok=>[.sl (cR (om g d) s.1).length ((cR (om g d) s.1).map mi) s.2,mi s.1]) (fun s O'=>s.1<=g.length/\O3.Ge O'/\App O' O3.N 1 s.2) (fun s=>g.length - s.1) ((0,.nil)) ?_ ?_
  ·exact⟨VI _,VH.Ge.refl _,trivial⟩
  rintro⟨j,t1⟩ O4 ⟨hj,aY,fb⟩;dsimp only at hj fb ⊢;by_cases aM:j<g.length;rotate_left
  ·obtain rfl:j=g.length:=by omega
   refine ν @dE ?_;exact aB.mk t1 ⟨aY,fb⟩
  have cB:((j:Int)+1)=((j+1:Nat):Int):=by omega
  have aV:=adT g T tk d j (O1.N+1) O1.N O.N O4 hs ra aM (aY.at wI) (aY.at qZ) (by rw[<-hA];exact aY.at cC);rw[aq]at aV;have uM:=uL (om g d) j;have Pp:=ma (om g d) j;generalize om g d j=b at*;generalize cR (om g d) j=P at*;refine κ @dE ?_;refine κ @dE ?_;refine ω (υ ?_);refine κ @dE ?_;refine κ @dE ?_;refine π aV ?_;rintro _ Ox ⟨rfl,eO⟩;rw[eO];clear eO Ox aV
  cases b
  ·rw[if_neg (by decide),ame]at uM;refine ab @dE ?_;refine ν @dE ?_;refine ο @dE @cB ?_;exact az.N (j+1,t1) ⟨aM,aY,fb⟩ (hl:=by dsimp only;rw[uM];rfl)
  ·rw[if_pos rfl]at uM;have jB:=aT (tk:=t1) (tk':=.full) (n:=P.length) (k:=1) (cs:=P.map mi) (ds:=[.v (.int .i64 j)]) jr T3 fb (by rw[Ml,ana]) rfl rfl (by decide) (by decide) (by omega) (by simp only[maxLen];omega);refine ab @dE ?_;refine ν @dE ?_;refine VL.app jB ?_;refine ab @dE ?_;refine ο @dE @cB ?_;exact az.N (j+1,.own O4.N 1) ⟨aM,cc.ee aY fb (cc.after fb),App.after aY.N⟩ (hl:=by dsimp only;rw[uM,Mn,ajw];rfl)
 rintro tw O4 ⟨aY,fb⟩;have rD:de (bX Tryz.prog) 29 (.sl (kx g d).length ((kx g d).map mi) tw)=some (.v (.int .i64 (kx g d).length)):=bL jr;have oJ:(kx g d).length<=g.length:=ma _ _;have ahU:=TB (g:=g) (d:=d);have Il:=fun x=>tG (p:=om g d) (n:=g.length) (x:=x)
 rw[kW]at Qt;rw[show cR (om g d) g.length=kx g d from rfl]at Il;obtain⟨w,hw⟩:∃w,w=kx g d:=⟨_,rfl⟩
 rw[<-hw]at rD oJ ahU Il Qt ⊢;have GD:=aY.at qZ;have Bo:=aY.at wI;have di:=aY.at cC;by_cases h0:w.length=0
 ·have e0:((w.length:Int)==0)=true:=by simp[h0]
  rw[if_pos h0,ame]at Qt;subst Qt;refine θ (aH @dE @rD @e0 ?_);exact⟨aG.trans aY,.inl ⟨TX,tX,rfl⟩⟩
 have e0:((w.length:Int)==0)=false:=by simpa using h0
 rw[if_neg h0]at Qt;have amA:=ahU h0;refine θ (aH @dE @rD @e0 ?_);have adV:(w.map mi).length=w.length:=Ml _;have hgw:∀(j:Nat) (y:Int),w[j]?=some y->(w.map mi)[j]?=some (MV.v (.int .i64 y)):=fun j y h=>by rw[Mm,h];rfl
 refine Ξ [1,2,3,4,5] (fun _:Unit=>[.ptr O.N 0,.sl X.length (bY X TX) tX,.ptr (O1.N+1) 0,.func (.func 30) [] [.ptr (O1.N+1) 0,.ptr O.N 0],.sl w.length (w.map mi) tw]) (fun _ O'=>O'.N=O4.N/\(∀i,i≠O1.N->O'.hp i=O4.hp i)/\O'.hp O1.N=some (.cells (fX g.length (ku d w)))) ?_ ?_
 ·generalize hwc:w.map mi=WM at*;refine ξ @dE @rD ?_;refine υ ?_;refine Δ [35] [1,2,3,4,5,33,34] (fun j:Nat=>[mi j]) (fun j O'=>j<=w.length/\O'.N=O4.N/\(∀i,i≠O1.N->O'.hp i=O4.hp i)/\O'.hp O1.N=some (.cells (fX g.length (ku d (w.take j))))) (fun j=>w.length - j) (0) ?_ ?_
  ·exact⟨VI _,rfl,fun _ _=>rfl,by rw[GD];congr 3;funext v;unfold ku;simp⟩
  rintro j O5 ⟨hj,e_,gM,wm⟩;by_cases aM:j<w.length;rotate_left
  ·obtain rfl:j=w.length:=by omega
   rw[aed]at wm;refine ν @dE ?_;exact aB.mk () ⟨e_,gM,wm⟩
  have cB:((j:Int)+1)=((j+1:Nat):Int):=by omega
  have Hs:w[j]?=some w[j]:=List.getElem?_eq_getElem aM;obtain⟨k,cA,bN,dR⟩:=(Il w[j]).1 (List.getElem_mem aM);rw[cA]at Hs;have o_:=hgw j _ Hs;have BU:w.take (j+1)=w.take j++[(k:Int)]:=by rw[List.take_add_one,Hs];rfl
  have gL:=DG (ku d (w.take j)) true bN;have fY:=lH g.length (ku d (w.take j))
  have hse:JZ (ku d (w.take j)) k true=ku d (w.take (j+1)):=by
   funext v
   unfold JZ ku;rw[BU,anz];by_cases e:v=k
   ·subst e;rw[if_pos rfl];simp
   ·rw[if_neg e]
    have:([(k:Int)]:List Int).contains (v:Int)=false:=by
     rw[ano];intro h
     have:(v:Int)=k:=by simpa using h
     omega
    rw[this,Bool.or_false]
  rw[hse]at gL;have Cq:=(gM (O1.N+1) (by omega)).trans Bo;generalize OS:fX g.length (ku d (w.take j))=CQ at*;refine κ @dE ?_;refine κ @dE ?_;refine ω (υ ?_);refine θ (aH @dE @o_ @adV ?_);refine ι (iw @dE @Cq @wm @fY @gL ?_);refine ο @dE @cB ?_;exact az.N (j+1) ⟨aM,e_,fun i hi=>(ρ _ _ hi).trans (gM i hi),τ _ _ _⟩
 rintro _ O5 ⟨e_,gM,wm⟩;have Cq:=(gM (O1.N+1) (by omega)).trans Bo;have dy:=(gM O.N (by omega)).trans di;have h_:=aY.N;have mP:=lr.ge aY;have gJ:App O5 O2.N 1 tX:=r3 mP (fun i hi=>gM i (by have:=aC.N;omega)) (by omega);have hXr:=jn X TX;have iF:=Qs X TX w tw;have jB:=aT (tk:=tX) (tk':=.full) (n:=X.length) (k:=1) (cs:=bY X TX) (ds:=[.sl w.length (w.map mi) tw]) zH jr gJ (by rw[hXr,ana]) rfl rfl (by decide) (by decide) (by omega) (by simp only[maxLen];omega);have hqA:=VH.jD gJ wm (by simp) (by have:=aC.N;omega);have Cl:=VH.jD gJ Cq (by simp) (by omega);have Cm:=VH.jD gJ dy (by simp) (by omega);have GJ:=VH.dY O5 tX;have gR:=cc.after gJ;have Hk:∀i,Tok.id tX=some i->O2.N<=i:=fun i e=>(gJ.nE e).1
 refine ν @dE ?_;refine VL.app jB ?_;refine ab @dE ?_;refine az.N (X++[w],(fun v=>if v=X.length then tw else TX v),.own O5.N 1,ku d w) ⟨⟨by rw[GJ];have:=aG.N;omega,fun i hi=>?_⟩,by rw[GJ];omega,hqA,Cl,Cm,App.after (by omega),f,by show Hr (ku d w) g.length<f;omega,by rw[Qt,List.append_assoc];rfl⟩ (hl:=by dsimp only;rw[<-iF,Mn];rfl);have:=aG.N;have:=aJ.N;rw[gR.hp i (by omega) (fun e=>by have:=Hk i e;omega),gM i (by omega),aY.hp i (by omega)];exact aG.hp i hi
set_option linter.defProp false in
def bl:=ZA cu<|ZA dD<|ZA aj0<|ZA T57<|ZA ajX<|ZA ajY<|ZA aj8<|ZA ajZ<|ZA akd<|ZA aj5<|ZA aj1<|ZA NO<|ZA KN<|ZA XC<|ZA FJ<|ZA XD<|ZA T46<|ZA T44<|ZA T50<|ZA T95<|ZA AS T3
def dm (k bb:Nat) (g:Gv) (mo st u1 l1:Int) (tl:MV) (u2 l2:Int) (cv:MV) (u3 l3:Int) (rv:MV) (R:List MV):List MV:=
 .ptr k 0:: .ptr bb 0:: .str g.g:: .str g.a:: .str g.v::mi mo::mi st:: .v (.int .u32 u1):: .v (.int .i32 l1):: .v (.int .u32 0)::tl::mi 0:: .str []:: .str []:: .str []::mi 0::mi 0::mi 0:: .str []::
 .v (.int .u32 u2):: .v (.int .i32 l2):: .v (.int .u32 0)::cv:: .v (.int .u32 u3):: .v (.int .i32 l3):: .v (.int .u32 0)::rv::R
def VD:List MV:=[.v (.int .u32 0),.v (.int .i32 0),.v (.int .u32 0),.sl 0 [] .nil,.v (.int .u32 0),.v (.int .i32 0),.v (.int .u32 0),mi 0,.sl 0 [] .nil,mi 0,.sl 0 [] .nil,.sl 0 [] .nil,mi 0,.str [],.str [],.str [],mi 0,mi 0,mi 0,.str []]
def lI:MV:=.sl 0 [] .nil
theorem agj (k:Nat) (g:Gv) (mo:Int) (O:VH):VF Tryz.prog 22 [.ptr k 0,.agg (bZ g),mi mo] O (aE fun m O'=>∃ke bb,m= .ptr ke 0/\O.Ge O'/\O.N<bb/\bb<ke/\ke<O'.N/\O'.hp (bb - 1)=some (.map [] 0)/\O'.hp bb=some (.cells [.ptr k 0,.map (bb - 1)])/\O'.hp ke=some (.cells (dm k bb g mo 0 0 0 lI 0 0 lI 0 0 lI VD))):=by
 obtain⟨g1,g2,g3⟩:=g;simp only[bZ,aq];refine χ 14 [.tmp 6] Tryz.func22 ?_;refine κ @bl ?_;refine VC.bx ?_;rintro O1 ⟨aJ,eQ,cW⟩;refine ω ?_;refine VC.oD [5,6,7] ?_;refine ae.au 0 ?_;refine ab @bl ?_;refine ae.au 1 ?_;refine ab @bl ?_;refine ae.ld (m:=.agg [.str g1,.str g2,.str g3]) 3 ?_ ?_
 ·exact dW @bl @eQ
 simp only[ak];refine ae.au 4 ?_;refine ab @bl ?_;refine ae.call (i:=2) (afP k O1) ?_;rintro _ O2 ⟨rfl,aC,Qf,cK,eJ⟩;simp only[ak];refine⟨aC,?_⟩;have k7:∀b,Fv (kT [(0,1),(1,1),(2,3),(5,1),(6,1),(7,12),(19,4),(23,4),(27,4),(31,16)]) (dm 0 0 ⟨[],[],[]⟩ 0 0 0 0 lI 0 0 lI 0 0 lI VD) (.ptr k 0) [(1,.ptr b 0),(2,.agg [.str g1,.str g2,.str g3]),(3,mi mo)] (some (0,1))=some (dm k b ⟨g1,g2,g3⟩ mo 0 0 0 lI 0 0 lI 0 0 lI VD):=fun _=>rfl
 refine ae.bQ [(5,.au),(6,.one),(7,.au)] ?_;refine ao @bl @k7 ?_;have fC:=aJ.trans aC;obtain⟨aG,dR,gE⟩:=(nU.bx:nU O2 (dm k (O1.N+1) ⟨g1,g2,g3⟩ mo 0 0 0 lI 0 0 lI 0 0 lI VD) _);refine ν @bl ?_;exact⟨O2.N,O1.N+1,rfl,fC.trans aG,by omega,by omega,by omega,aG.at Qf,aG.at cK,dR⟩
section
variable {P:Program} {tab:cg} {n:Sz} {D:List Deferred} {Q:VQ} {e:Env} {O:VH}
theorem ae.adW {brk:List Nat} {Ψ :Gh->Prop} {J:VH->Prop} {Z:Prop} {fuel i:Nat} {listed:Array Bool} {l:List Oper} {d:Option Tmp} {f:Operand} {ax:Array Operand} {ts:Array TypeId} {ty:TypeId} {ps:String} {af:Array Edge} {g:Option (Nat×Bool)} {id:FuncId} {fs ms cs xs:List MV} {Φ :MV->VH->Prop} (hR:VF P id xs O (aE Φ))
  (h:∀m O', Φ m O'->J O'/\ae P n D ⟨l⟩ brk J Ψ Z fuel (listed.setIfInBounds i true) (aZ d m e) O' Q) (hr:Region.ready .any ⟨l⟩ listed=[i]:=by kernel_rfl) (ho:l[i]?=some (.mk d (.call {callee:=.value f,args:=ax,argTypes:=ts}) ty ps af g):=by exact rfl) (hg:aO ⟨l⟩ (.mk d (.call {callee:=.value f,args:=ax,argTypes:=ts}) ty ps af g) e=some true:=by exact rfl) (hf:ev e f=some (.func (.func id) fs cs):=by exact rfl) (hm:gh e ax.toList=some ms:=by exact rfl) (ha:fs++ms++cs=xs:=by exact rfl) (hb:df P id=true:=by kernel_rfl) (hd:bD n d=true:=by exact rfl):ae P n D ⟨l⟩ brk J Ψ Z (fuel+1) listed e O Q:=
 ae.one (aN.call (o:=.mk d (.call {callee:=.value f,args:=ax,argTypes:=ts}) ty ps af g) (by simpa using ho) hg rfl rfl hf hm (Enters.sI hb) hd (by rw[ha];exact hR) fun r O' hr=>by
  cases r with
  | ret m=>exact h m O' hr
  | panic m=>exact hr.elim) (hr:=hr)
end
theorem Zw {O:VH} {U:Nat->Prop} {ke k bb md:Nat} {S:List (Gv×List Dp)} {g:Gv} {mo st u1 l1 u2 l2 u3 l3:Int} {tl cv rv:MV} {R:List MV} {N:List Br} (fF:ke<O.N) (BX:¬U ke) (hk:O.hp ke=some (.cells (dm k bb g mo st u1 l1 tl u2 l2 cv u3 l3 rv R))) (hc:CB O U k bb md S) (hS:Plain S) (hr:Ab (iO S) g=some (some N)):
  VF Tryz.prog 63 [.ptr ke 0] O (aE fun m O'=>(∃t,m= .agg (.sl N.length (N.flatMap m6) t::nI il))/\O.N<=O'.N/\∀j,¬U j->j<O.N->O'.hp j=O.hp j):=by
 have hw:=fun O' (h:CB O' U k bb md S)=>af_ h hS g hr
 have ei:=hc.lt;obtain⟨g1,g2,g3⟩:=g;simp only[dm,aq,bZ]at hk hw;refine χ 22 [.cell 2 112] Tryz.func63 ?_;refine κ @bl ?_;refine VC.gen ?_;intro O1 e1;obtain⟨aJ,eQ,cW⟩:nU O [.sl 0 [] .nil,.v (.int .i64 0),.str [],.str [],.str [],.v (.int .i64 0),.v (.int .i64 0),.v (.int .i64 0),.str []] O1:=by rw[e1];exact nU.bx
 clear e1;have cA:=aJ.at hk;refine ω ?_;refine VC.qR [14,15,16,17,18,19] (fun O'=>O'.hp O.N=some (.cells [.sl 0 [] .nil,.v (.int .i64 0),.str [],.str [],.str [],.v (.int .i64 0),.v (.int .i64 0),.v (.int .i64 0),.str []])/\O'.hp ke=O1.hp ke) (⟨eQ,rfl⟩) ?_;refine ae.au 0 ?_;refine ab @bl ?_;refine ae.au 1 ?_;refine ab @bl ?_;refine ae.au 2 ?_;refine ab @bl ?_;rw[cA];refine ζ (m:=.ptr k 0) 3 ?_ ?_
 ·rintro O2 ⟨j1,j2⟩;exact dW @bl @j2
 simp only[ak];refine ae.au 4 ?_;refine ab @bl ?_;refine ae.au 5 ?_;refine ab @bl ?_;refine ae.au 6 ?_;refine ab @bl ?_;refine ζ (m:=.ptr bb 0) 7 ?_ ?_
 ·rintro O2 ⟨j1,j2⟩;exact dW @bl @j2
 simp only[ak];refine ae.au 8 ?_;refine ab @bl ?_;refine ae.au 9 ?_;refine ab @bl ?_;refine ae.au 10 ?_;refine ab @bl ?_;refine ζ (m:=.agg [.str g1,.str g2,.str g3]) 11 ?_ ?_
 ·rintro O2 ⟨j1,j2⟩;exact dW @bl @j2
 simp only[ak];refine ae.call (i:=12) (hw O1 (hc.ge aJ)) ?_;rintro m O2 ⟨⟨t,rfl⟩,eJ,kX⟩;simp only[ak];have hUn:¬U O.N:=fun e=>by have:=ei _ e;omega
 refine⟨⟨(kX _ hUn (by omega)).trans eQ,(kX ke BX (by omega)).trans cA⟩,?_⟩;simp only[nI,il,aq];refine ae.au 13 ?_;refine ab @bl ?_;refine ae.bQ [(14,.au),(15,.au),(16,.au),(17,.one),(18,.au),(19,.one)] ?_;have jv:=(kX _ hUn (by omega)).trans eQ;refine ao @bl @jv ?_;refine ν @bl ?_;exact⟨⟨t,rfl⟩,by show O.N<=O2.N;omega,fun j hj zG=>by rw[ρ _ _ (by omega),ρ _ _ (by omega),ρ _ _ (by omega),kX j hj (by omega)];exact aJ.hp j zG⟩
def Out (U:Nat->Prop) (ke:Nat) (O O':VH):Prop:=O.N<=O'.N/\∀j,¬U j->j≠ke->j<O.N->O'.hp j=O.hp j
theorem adX {O:VH} {U:Nat->Prop} {ke k bb md bs br bp:Nat} {S:List (Gv×List Dp)} {g:Gv} {mo st u1 l1 u2 l2 u3 l3:Int} {cv rv:MV} {R:List MV} {N:List Br} (fF:ke<O.N) (BX:¬U ke) (hk:O.hp ke=some (.cells (dm k bb g mo st u1 l1 lI u2 l2 cv u3 l3 rv R))) (hc:CB O U k bb md S) (hS:Plain S) (hr:Ab (iO S) g=some (some N))
  (hs:O.hp bs=some (.cells [.ptr ke 6])) (TC:O.hp br=some (.cells [.func (.func 63) [.ptr ke 0] []])) (hp:O.hp bp=some (.cells [.ptr ke 7])) (h1:bs<O.N) (h2:br<O.N) (h3:bp<O.N) (n1:¬U bs) (n2:¬U br) (n3:¬U bp):
  VF Tryz.prog 76 [.ptr bs 0,.ptr br 0,.ptr bp 0] O (aE fun _ O'=>(∃kP t,O'.hp ke=some (.cells (dm k bb g mo kP u1 l1 (.sl N.length (N.flatMap m6) t) u2 l2 cv u3 l3 rv R)))/\Out U ke O O'):=by
 have e1:br≠ke:=fun e=>by rw[e,hk]at TC;cases TC
 have e2:bp≠ke:=fun e=>by rw[e,hk]at hp;cases hp
 have qs:=hk;simp only[dm,aq]at qs;refine χ 10 [] Tryz.func76 ?_;refine ξ @bl @hs ?_;refine π (wR 1 qs rfl) ?_;rintro m O1 ⟨rfl,Mc⟩;have cA:O1.hp ke=some (.cells (dm k bb g mo (IntKind.i64.wrap (st+1)) u1 l1 lI u2 l2 cv u3 l3 rv R)):=by rw[Mc];exact τ _ _ _
 have cW:O1.N=O.N:=by rw[Mc];rfl
 have mH:∀i,i≠ke->O1.hp i=O.hp i:=fun i hi=>by rw[Mc];exact ρ _ _ hi
 clear Mc;have fj:CB O1 U k bb md S:=hc.mv (by omega) fun i hi=>mH i fun e=>BX (e▸hi)
 have kz:=(mH br e1).trans TC;have lJ:=(mH bp e2).trans hp;generalize IntKind.i64.wrap (st+1)=GH at*;refine ab @bl ?_;have jx:=Zw (by omega) BX cA fj hS hr;refine VC.qR [3,4,5] (fun O'=>O'.hp ke=some (.cells (dm k bb g mo GH u1 l1 lI u2 l2 cv u3 l3 rv R))/\O'.hp bp=O1.hp bp/\O'.hp br=O1.hp br) (⟨cA,rfl,rfl⟩) ?_;rw[lJ,kz];refine ζ (m:=.ptr ke 7) 0 ?_ ?_
 ·rintro O2 ⟨j1,j2,j3⟩;exact dW @bl @j2
 simp only[ak];have J6:eg Tryz.t177.desc=false:=rfl;refine ae.op (i:=1) ?_;refine aH @bl @kz @J6 ?_;refine⟨(by first | exact⟨cA,lJ,kz⟩ | exact⟨cA,lJ⟩ | exact cA),?_⟩;refine ae.adW (i:=2) jx ?_;rintro m O2 ⟨⟨t,rfl⟩,eJ,kX⟩;simp only[ak];have bN:=(kX ke BX (by omega)).trans cA;refine⟨⟨bN,(kX bp n3 (by omega)).trans lJ,(kX br n2 (by omega)).trans kz⟩,?_⟩;refine ae.bQ [(3,.au),(4,.au),(5,.one)] ?_;simp only[nI,il,aq];have xi:=bN;simp only[dm,lI,aq]at xi;refine ao @bl @xi ?_;exact⟨⟨GH,t,rfl⟩,by show O.N<=O2.N;omega,fun j h1 h2 h3=>by rw[ρ _ _ h2,kX j h1 (by omega)];exact mH j h2⟩
theorem agk {O:VH} {U:Nat->Prop} {ke k bb md:Nat} {S:List (Gv×List Dp)} {g:Gv} {mo st u2 l2 u3 l3:Int} {cv rv:MV} {R:List MV} {N:List Br} (fF:ke<O.N) (BX:¬U ke) (hk:O.hp ke=some (.cells (dm k bb g mo st 0 0 lI u2 l2 cv u3 l3 rv R))) (hc:CB O U k bb md S) (hS:Plain S) (hr:Ab (iO S) g=some (some N)):
  VF Tryz.prog 62 [.ptr ke 7,.ptr ke 6,.func (.func 63) [.ptr ke 0] []] O (aE fun m O'=>∃kP t,m= .agg (.sl N.length (N.flatMap m6) t::nI il)/\O'.hp ke=some (.cells (dm k bb g mo kP 1 0 (.sl N.length (N.flatMap m6) t) u2 l2 cv u3 l3 rv R))/\Out U ke O O'):=by
 have ei:=hc.lt;have J6:eg Tryz.t177.desc=false:=rfl;refine χ 16 [.cell 6 112] Tryz.func62 ?_;refine κ @bl ?_;refine VC.gen ?_;intro O1 e1;obtain⟨aJ,cW,cz,cE,fj,oL⟩:=Gb _ _ _ _ e1;clear e1;have cA:=aJ.at hk;have al8:=hc.ge aJ;have hU:∀i,O.N<=i->¬U i:=fun i h1 h2=>by have:=ei i h2;omega
 refine ξ @bl @cz ?_;have gL:(dm k bb g mo st 0 0 lI u2 l2 cv u3 l3 rv R).set (7+1) (.v (.int .i32 1))=dm k bb g mo st 0 1 lI u2 l2 cv u3 l3 rv R:=rfl;have vq:∀{i:Nat} {y:Option cf},i≠ke->O1.hp i=y->(O1.set ke (.cells (dm k bb g mo st 0 1 lI u2 l2 cv u3 l3 rv R))).hp i=y:=fun hi hy=>(ρ _ _ hi).trans hy
 refine π (ab0 (off:=7) (Φ :=fun O'=>(∃kP t,O'.hp ke=some (.cells (dm k bb g mo kP 0 1 (.sl N.length (N.flatMap m6) t) u2 l2 cv u3 l3 rv R)))/\Out U ke (O1.set ke (.cells (dm k bb g mo st 0 1 lI u2 l2 cv u3 l3 rv R))) O') (g:=76) (xs:=[.ptr (O.N+1) 0,.ptr (O.N+2) 0,.ptr O.N 0]) cA rfl rfl (by kernel_rfl) (by rw[gL];exact adX (by show ke<O1.N;omega) BX (τ _ _ _) (al8.mv (aec _) fun i hi=>ρ _ _ fun e=>BX (e▸hi)) hS hr (vq (by omega) cE) (vq (by omega) fj) (vq (by omega) cz) (by show O.N+1<O1.N;omega) (by show O.N+2<O1.N;omega) (by show O.N<O1.N;omega) (hU _ (by omega)) (hU _ (by omega)) (hU _ (by omega))) (fun O' Ci=>?_)) ?_
 ·obtain⟨⟨kP,t,h⟩,_⟩:=Ci;exact⟨_,h,rfl,rfl⟩
 rintro m O2 ⟨OX,cs',⟨⟨kP,t,BB⟩,hnX,hfX⟩,gN,e2⟩;rw[BB]at gN;injection gN with gN;injection gN with gN
 subst gN;have mG:((dm k bb g mo kP 0 1 (.sl N.length (N.flatMap m6) t) u2 l2 cv u3 l3 rv R).set 7 (.v (.int .u32 1))).set (7+1) (.v (.int .i32 0))=dm k bb g mo kP 1 0 (.sl N.length (N.flatMap m6) t) u2 l2 cv u3 l3 rv R:=rfl;rw[mG]at e2;have bN:O2.hp ke=some (.cells (dm k bb g mo kP 1 0 (.sl N.length (N.flatMap m6) t) u2 l2 cv u3 l3 rv R)):=by rw[e2];exact τ _ _ _
 have kX:∀j,¬U j->j≠ke->j<O1.N->O2.hp j=O1.hp j:=fun j h1 h2 h3=>by
  rw[e2,ρ _ _ h2,hfX j h1 h2 h3];exact ρ _ _ h2
 have eJ:O1.N<=O2.N:=by rw[e2];exact hnX
 clear e2 hfX hnX BB gL mG vq;have eA:=(kX O.N (hU _ (by omega)) (by omega) (by omega)).trans cz;have jS:=(kX (O.N+3) (hU _ (by omega)) (by omega) (by omega)).trans oL;have xi:=bN;simp only[dm,aq]at xi;refine ab @bl ?_;refine θ (cJ @bl @eA @xi @jS ?_);refine ν @bl ?_;exact⟨kP,t,rfl,bN,by show O.N<=O2.N;omega,fun j h1 h2 h3=>by rw[ρ _ _ (by omega),kX j h1 h2 (by omega)];exact aJ.hp j h3⟩
theorem adY {O:VH} {ke k bb:Nat} {g:Gv} {mo st l1 u2 l2 u3 l3:Int} {cv rv:MV} {R:List MV} {n:Nat} {cs:List MV} {tk:Tok} (g0:FuncId) (xs:List MV) (fF:ke<O.N) (hk:O.hp ke=some (.cells (dm k bb g mo st 1 l1 (.sl n cs tk) u2 l2 cv u3 l3 rv R))):
  VF Tryz.prog 62 [.ptr ke 7,.ptr ke 6,.func (.func g0) xs []] O (aE fun m O'=>m= .agg (.sl n cs tk::nI il)/\O.Ge O'):=by
 refine χ 16 [.cell 6 112] Tryz.func62 ?_;refine κ @bl ?_;refine VC.gen ?_;intro O1 e1;obtain⟨aJ,cW,cz,cE,fj,oL⟩:=Gb _ _ _ _ e1;clear e1;have cA:=aJ.at hk;refine ξ @bl @cz ?_;refine π (ab1 _ _ (x:=1) (by decide) cA rfl) ?_;rintro m O2 e2;rw[e2];clear e2 O2
 have qs:=cA;simp only[dm,aq]at qs;refine ab @bl ?_;refine θ (cJ @bl @cz @qs @oL ?_);refine ν @bl ?_;exact⟨rfl,aJ.set (by omega) _⟩
theorem agl {O:VH} {U:Nat->Prop} {ke k bb md:Nat} {S:List (Gv×List Dp)} {g:Gv} {mo st u2 l2 u3 l3:Int} {cv rv:MV} {R:List MV} {N:List Br} (fF:ke<O.N) (BX:¬U ke) (hk:O.hp ke=some (.cells (dm k bb g mo st 0 0 lI u2 l2 cv u3 l3 rv R))) (hc:CB O U k bb md S) (hS:Plain S) (hr:Ab (iO S) g=some (some N)):
  VF Tryz.prog 39 [.ptr ke 0] O (aE fun m O'=>m= .agg (nI il)/\∃kP t,O'.hp ke=some (.cells (dm k bb g mo kP 1 0 (.sl N.length (N.flatMap m6) t) u2 l2 cv u3 l3 rv R))/\Out U ke O O'):=by
 have ei:=hc.lt;refine χ 16 [.cell 2 110] Tryz.func39 ?_;refine κ @bl ?_;refine VC.bx ?_;rintro O1 ⟨aJ,eQ,cW⟩;have cA:=aJ.at hk;have hU:¬U O.N:=fun h2=>by have:=ei _ h2;omega
 refine κ @bl ?_;refine ω ?_;refine WC.bQ (.any) [(0,.au),(1,.au),(2,.au),(3,.au),(4,.au),(5,.au),(6,.au),(7,.au),(8,.one),(9,.au),(10,.one)] ?_;refine ab @bl ?_;refine π (agk (by omega) BX cA (hc.ge aJ) hS hr) ?_;rintro m O2 ⟨kP,t,rfl,bN,eJ,kX⟩;have jv:=(kX O.N hU (by omega) (by omega)).trans eQ;simp only[nI,il,aq];refine ao @bl @jv ?_;refine ν @bl ?_;exact⟨kP,t,bN,by show O.N<=O2.N;omega,fun j h1 h2 h3=>by rw[ρ _ _ (by omega),kX j h1 h2 (by omega)];exact aJ.hp j h3⟩
section
variable {O:VH} {ke k bb:Nat} {g:Gv} {mo st l1 u2 l2 u3 l3:Int} {cv rv:MV} {R:List MV} {n:Nat} {cs:List MV} {tk:Tok}
theorem VE (fF:ke<O.N) (hk:O.hp ke=some (.cells (dm k bb g mo st 1 l1 (.sl n cs tk) u2 l2 cv u3 l3 rv R))):VF Tryz.prog 66 [.ptr ke 0] O (aE fun m O'=>m= .sl n cs tk/\O.Ge O'):=by
 refine χ 13 [.tmp 2] Tryz.func66 ?_;refine κ @bl ?_;refine ω ?_;refine WC.bQ (.any) [(0,.au),(1,.au),(2,.au),(3,.au),(4,.au),(5,.au),(6,.au),(7,.au),(8,.one),(9,.au),(10,.au)] ?_;refine ab @bl ?_;refine π (adY _ [.ptr ke 0] (by omega) hk) ?_;rintro m O2 ⟨rfl,aC⟩;simp only[nI,il,aq];refine ab @bl ?_;refine ν @bl ?_;exact aC
end
section
variable {O:VH} {ke k bb:Nat} {g:Gv} {mo st l1 u2 l2 u3 l3:Int} {cv rv:MV} {R:List MV} {tk:Tok} {L:List Bn}
def Keys (L:List Bn):Prop:=∀b∈L,∀s∈dk b.k,s.length<=maxLen
theorem agm (hL:L.length<=100000) (BQ:Keys L) (fF:ke<O.N) (hk:O.hp ke=some (.cells (dm k bb g mo st 1 l1 (.sl L.length (L.flatMap fB) tk) u2 l2 cv u3 l3 rv R))):VF Tryz.prog 80 [.ptr ke 0] O (aE fun m O'=>(∃t,m= .sl (cQ L).length ((cQ L).flatMap iy) t)/\O.Ge O'):=by
 refine χ 6 [.tmp 2] Tryz.func80 ?_;refine κ @bl ?_;refine κ @bl ?_;refine π (VE fF hk) ?_;rintro m O1 ⟨rfl,aJ⟩;refine ab @bl ?_;refine π (Tu L tk O1 (by omega) BQ) ?_;rintro _ O2 ⟨⟨t,rfl⟩,aC⟩;refine ab @bl ?_;refine ν @bl ?_;exact⟨⟨t,rfl⟩,aJ.trans aC⟩
theorem adZ {bs br bp:Nat} (hL:L.length<=100000) (BQ:Keys L) (fF:ke<O.N) (hk:O.hp ke=some (.cells (dm k bb g mo st 1 l1 (.sl L.length (L.flatMap fB) tk) u2 l2 cv u3 l3 rv R)))
  (hs:O.hp bs=some (.cells [.ptr ke 6])) (TC:O.hp br=some (.cells [.func (.func 80) [.ptr ke 0] []])) (hp:O.hp bp=some (.cells [.ptr ke 19])) (h1:bs<O.N) (h2:br<O.N) (h3:bp<O.N):
  VF Tryz.prog 95 [.ptr bs 0,.ptr br 0,.ptr bp 0] O (aE fun _ O'=>(∃kP t,O'.hp ke=some (.cells (dm k bb g mo kP 1 l1 (.sl L.length (L.flatMap fB) tk) u2 l2 (.sl (cQ L).length ((cQ L).flatMap iy) t) u3 l3 rv R)))/\bB O (some ke) O'):=by
 have e1:br≠ke:=fun e=>by rw[e,hk]at TC;cases TC
 have e2:bp≠ke:=fun e=>by rw[e,hk]at hp;cases hp
 have qs:=hk;simp only[dm,aq]at qs;refine χ 10 [] Tryz.func95 ?_;refine ξ @bl @hs ?_;refine π (wR 1 qs rfl) ?_;rintro m O1 ⟨rfl,Mc⟩;have cA:O1.hp ke=some (.cells (dm k bb g mo (IntKind.i64.wrap (st+1)) 1 l1 (.sl L.length (L.flatMap fB) tk) u2 l2 cv u3 l3 rv R)):=by rw[Mc];exact τ _ _ _
 have cW:O1.N=O.N:=by rw[Mc];rfl
 have mH:∀i,i≠ke->O1.hp i=O.hp i:=fun i hi=>by rw[Mc];exact ρ _ _ hi
 clear Mc;have kz:=(mH br e1).trans TC;have lJ:=(mH bp e2).trans hp;generalize IntKind.i64.wrap (st+1)=GH at*;refine ab @bl ?_;have jx:=agm hL BQ (by omega) cA;refine VC.qR [3,4,5] (fun O'=>O'.hp ke=some (.cells (dm k bb g mo GH 1 l1 (.sl L.length (L.flatMap fB) tk) u2 l2 cv u3 l3 rv R))/\O'.hp bp=O1.hp bp/\O'.hp br=O1.hp br) (⟨cA,rfl,rfl⟩) ?_;rw[lJ,kz];refine ζ (m:=.ptr ke 19) 0 ?_ ?_
 ·rintro O2 ⟨j1,j2,j3⟩;exact dW @bl @j2
 simp only[ak];have J6:eg Tryz.t134.desc=false:=rfl;refine ae.op (i:=1) ?_;refine aH @bl @kz @J6 ?_;refine⟨(by first | exact⟨cA,lJ,kz⟩ | exact⟨cA,lJ⟩ | exact cA),?_⟩;refine ae.adW (i:=2) jx ?_;rintro m O2 ⟨⟨t,rfl⟩,aC⟩;simp only[ak];have bN:=aC.at cA;refine⟨⟨bN,aC.at lJ,aC.at kz⟩,?_⟩;refine ae.bQ [(3,.au),(4,.au),(5,.one)] ?_;have xi:=bN;simp only[dm,aq]at xi;refine ao @bl @xi ?_;have eJ:=aC.N;refine⟨⟨GH,t,rfl⟩,by show O.N<=O2.N;omega,fun j h3 h2=>?_⟩;have NY:j≠ke:=fun e=>h2 (by rw[e])
 rw[ρ _ _ NY,aC.hp j (by omega)];exact mH j NY
theorem agn (hL:L.length<=100000) (BQ:Keys L) (fF:ke<O.N) (hk:O.hp ke=some (.cells (dm k bb g mo st 1 l1 (.sl L.length (L.flatMap fB) tk) 0 0 cv u3 l3 rv R))):
  VF Tryz.prog 79 [.ptr ke 19,.ptr ke 6,.func (.func 80) [.ptr ke 0] []] O (aE fun m O'=>∃kP t,m= .sl (cQ L).length ((cQ L).flatMap iy) t/\O'.hp ke=some (.cells (dm k bb g mo kP 1 l1 (.sl L.length (L.flatMap fB) tk) 1 0 (.sl (cQ L).length ((cQ L).flatMap iy) t) u3 l3 rv R))/\bB O (some ke) O'):=by
 have J6:eg Tryz.t134.desc=false:=rfl;refine χ 16 [.tmp 6] Tryz.func79 ?_;refine κ @bl ?_;refine VC.gen ?_;intro O1 e1;obtain⟨aJ,cW,cz,cE,fj⟩:=lu _ _ _ e1;clear e1;have cA:=aJ.at hk;refine ξ @bl @cz ?_;have gL:(dm k bb g mo st 1 l1 (.sl L.length (L.flatMap fB) tk) 0 0 cv u3 l3 rv R).set (19+1) (.v (.int .i32 1))=dm k bb g mo st 1 l1 (.sl L.length (L.flatMap fB) tk) 0 1 cv u3 l3 rv R:=rfl;have vq:∀{i:Nat} {y:Option cf},i≠ke->O1.hp i=y->(O1.set ke (.cells (dm k bb g mo st 1 l1 (.sl L.length (L.flatMap fB) tk) 0 1 cv u3 l3 rv R))).hp i=y:=fun hi hy=>(ρ _ _ hi).trans hy
 refine π (ab0 (off:=19) (Φ :=fun O'=>(∃kP t,O'.hp ke=some (.cells (dm k bb g mo kP 1 l1 (.sl L.length (L.flatMap fB) tk) 0 1 (.sl (cQ L).length ((cQ L).flatMap iy) t) u3 l3 rv R)))/\bB (O1.set ke (.cells (dm k bb g mo st 1 l1 (.sl L.length (L.flatMap fB) tk) 0 1 cv u3 l3 rv R))) (some ke) O') (g:=95) (xs:=[.ptr (O.N+1) 0,.ptr (O.N+2) 0,.ptr O.N 0]) cA rfl rfl (by kernel_rfl) (by rw[gL];exact adZ hL BQ (by show ke<O1.N;omega) (τ _ _ _) (vq (by omega) cE) (vq (by omega) fj) (vq (by omega) cz) (by show O.N+1<O1.N;omega) (by show O.N+2<O1.N;omega) (by show O.N<O1.N;omega)) (fun O' Ci=>?_)) ?_
 ·obtain⟨⟨kP,t,h⟩,_⟩:=Ci;exact⟨_,h,rfl,rfl⟩
 rintro m O2 ⟨OX,cs',⟨⟨kP,t,BB⟩,huX⟩,gN,e2⟩;rw[BB]at gN;injection gN with gN;injection gN with gN
 subst gN;have mG:((dm k bb g mo kP 1 l1 (.sl L.length (L.flatMap fB) tk) 0 1 (.sl (cQ L).length ((cQ L).flatMap iy) t) u3 l3 rv R).set 19 (.v (.int .u32 1))).set (19+1) (.v (.int .i32 0))=dm k bb g mo kP 1 l1 (.sl L.length (L.flatMap fB) tk) 1 0 (.sl (cQ L).length ((cQ L).flatMap iy) t) u3 l3 rv R:=rfl;rw[mG]at e2;have bN:O2.hp ke=some (.cells (dm k bb g mo kP 1 l1 (.sl L.length (L.flatMap fB) tk) 1 0 (.sl (cQ L).length ((cQ L).flatMap iy) t) u3 l3 rv R)):=by rw[e2];exact τ _ _ _
 have c9:bB O1 (some ke) O2:=by rw[e2];exact(bB.set.trans huX).trans bB.set
 clear e2 huX BB gL mG vq;have eJ:=c9.N;have eA:=(c9.hp O.N (by omega) (fun e=>by injection e with e;omega)).trans cz;have xi:=bN;simp only[dm,aq]at xi;refine ab @bl ?_;refine θ (aH @bl @eA @xi ?_);refine ν @bl ?_;exact⟨kP,t,rfl,bN,(bB.ll aJ).any.trans c9⟩
theorem ad0 {n:Nat} {cs:List MV} {tc:Tok} (g0:FuncId) (xs:List MV) (fF:ke<O.N) (hk:O.hp ke=some (.cells (dm k bb g mo st 1 l1 (.sl L.length (L.flatMap fB) tk) 1 l2 (.sl n cs tc) u3 l3 rv R))):
  VF Tryz.prog 79 [.ptr ke 19,.ptr ke 6,.func (.func g0) xs []] O (aE fun m O'=>m= .sl n cs tc/\O.Ge O'):=by
 refine χ 16 [.tmp 6] Tryz.func79 ?_;refine κ @bl ?_;refine VC.gen ?_;intro O1 e1;obtain⟨aJ,cW,cz,cE,fj⟩:=lu _ _ _ e1;clear e1;have cA:=aJ.at hk;refine ξ @bl @cz ?_;refine π (ab1 _ _ (x:=1) (by decide) cA rfl) ?_;rintro m O2 e2;rw[e2];clear e2 O2
 have qs:=cA;simp only[dm,aq]at qs;refine ab @bl ?_;refine θ (aH @bl @cz @qs ?_);refine ν @bl ?_;exact aJ
theorem ad1 (X:List Ch):c8 (X.flatMap iy)=X.flatMap iy:=j9 (fun x=>by simp only[iy,aq,wu]) X
theorem J1 (L:List Ch) (tk:Tok) (O:VH) (hn:L.length<=100000):VF Tryz.prog 64 [.sl L.length (L.flatMap iy) tk] O (aE fun m O'=>(∃t,m= .sl L.length (L.flatMap iy) t)/\O.Ge O'):=by
 have dI:=aX oe L;refine Θ 8 [.tmp 2] Tryz.func64 ?_;refine ao @bl @nA ?_;refine VL.pD (pc Tryz.underlying23 rfl) ?_;rintro _ O1 ⟨eO,b,rfl,hb⟩;rw[eO];clear eO O1
 refine WL.sound aa ?_;cases b
 ·refine ab @bl ?_;by_cases h0:L.length=0
  ·have hL:L=[]:=List.eq_nil_of_length_eq_zero h0;subst hL;refine VL.app (m:=.sl 0 [] .full) (O':=O) (by simp[iA,KN,XC.1.1]) ?_ (ht:=aa) (hx:=rfl) (hy:=rfl);refine ab @bl ?_;exact⟨⟨.full,rfl⟩,VH.Ge.refl _⟩
  ·have iB:(L.flatMap iy).all eb=true:=by
    rw[List.all_flatMap,anw];intro p _;rfl
   have j4:=aT (tk:=.full) (tk':=tk) (B:=O.N) (n:=0) (k:=L.length) (cs:=[]) (ds:=L.flatMap iy) KN XC.1.1 (O:=O) trivial rfl dI iB (by decide) h0 (by omega) (by simp[maxLen];omega);rw[Nat.zero_add,List.nil_append]at j4;refine δ j4 (by rw[qA,ad1]) ?_;refine ab @bl ?_;exact⟨⟨_,rfl⟩,cc.Cc (tk:=.full) (sz:=7) trivial (cc.after (sz:=7) (B:=0) trivial)⟩
 ·obtain⟨h0,h1⟩:=hb rfl;rw[h0,h1];refine ab @bl ?_;exact⟨⟨.nil,rfl⟩,VH.Ge.refl _⟩
theorem ago (hL:L.length<=100000) (hX:(cQ L).length<=100000) (BQ:Keys L) (fF:ke<O.N) (hk:O.hp ke=some (.cells (dm k bb g mo st 1 l1 (.sl L.length (L.flatMap fB) tk) 0 0 cv u3 l3 rv R))):
  VF Tryz.prog 40 [.ptr ke 0] O (aE fun m O'=>(∃t,m= .sl (cQ L).length ((cQ L).flatMap iy) t)/\∃kP t,O'.hp ke=some (.cells (dm k bb g mo kP 1 l1 (.sl L.length (L.flatMap fB) tk) 1 0 (.sl (cQ L).length ((cQ L).flatMap iy) t) u3 l3 rv R))/\bB O (some ke) O'):=by
 have rE:VF Tryz.prog 65 [.ptr ke 0] O (aE fun m O'=>∃kP t,m= .sl (cQ L).length ((cQ L).flatMap iy) t/\O'.hp ke=some (.cells (dm k bb g mo kP 1 l1 (.sl L.length (L.flatMap fB) tk) 1 0 (.sl (cQ L).length ((cQ L).flatMap iy) t) u3 l3 rv R))/\bB O (some ke) O'):=by
  refine χ 12 [.tmp 2] Tryz.func65 ?_;refine κ @bl ?_;refine ω ?_;refine WC.bQ (.any) [(0,.au),(1,.au),(2,.au),(3,.au),(4,.au),(5,.au),(6,.au),(7,.au),(8,.one),(9,.au)] ?_;refine ab @bl ?_;refine π (agn hL BQ fF hk) ?_;rintro m O2 ⟨kP,t,rfl,h1,h2⟩;refine ab @bl ?_;refine ν @bl ?_;exact⟨kP,t,rfl,h1,h2⟩
 refine χ 8 [.tmp 2] Tryz.func40 ?_;refine κ @bl ?_;refine κ @bl ?_;refine κ @bl ?_;refine π rE ?_;rintro m O1 ⟨kP,t,rfl,h1,h2⟩;have cW:=h2.N;refine ab @bl ?_;refine π (J1 _ t O1 hX) ?_;rintro _ O2 ⟨⟨t2,rfl⟩,aC⟩;refine ab @bl ?_;refine ν @bl ?_;exact⟨⟨t2,rfl⟩,kP,t,aC.at h1,h2.trans (bB.ll aC).any⟩
theorem ad2 {X:List Ch} {tc:Tok} (hX:X.length<=100000) (fF:ke<O.N) (hk:O.hp ke=some (.cells (dm k bb g mo st 1 l1 (.sl L.length (L.flatMap fB) tk) 1 l2 (.sl X.length (X.flatMap iy) tc) u3 l3 rv R))):
  VF Tryz.prog 40 [.ptr ke 0] O (aE fun m O'=>(∃t,m= .sl X.length (X.flatMap iy) t)/\O.Ge O'):=by
 have rE:VF Tryz.prog 65 [.ptr ke 0] O (aE fun m O'=>m= .sl X.length (X.flatMap iy) tc/\O.Ge O'):=by
  refine χ 12 [.tmp 2] Tryz.func65 ?_;refine κ @bl ?_;refine ω ?_;refine WC.bQ (.any) [(0,.au),(1,.au),(2,.au),(3,.au),(4,.au),(5,.au),(6,.au),(7,.au),(8,.one),(9,.au)] ?_;refine ab @bl ?_;refine π (ad0 _ [.ptr ke 0] fF hk) ?_;rintro m O2 ⟨rfl,h2⟩;refine ab @bl ?_;refine ν @bl ?_;exact h2
 refine χ 8 [.tmp 2] Tryz.func40 ?_;refine κ @bl ?_;refine κ @bl ?_;refine κ @bl ?_;refine π rE ?_;rintro m O1 ⟨rfl,aJ⟩;refine ab @bl ?_;refine π (J1 _ tc O1 hX) ?_;rintro _ O2 ⟨⟨t2,rfl⟩,aC⟩;refine ab @bl ?_;refine ν @bl ?_;exact⟨⟨t2,rfl⟩,aJ.trans aC⟩
theorem agp (hd:Bool) (v:Bs) (tk:Tok) (O:VH):VF Tryz.prog 67 [.agg [mb hd,.str v,.sl 0 [] tk]] O (aE fun m O'=>m= .agg [mb hd,.str v,.sl 0 [] .ar]/\O.Ge O'):=by
 have fY:=fun O'=>GM tk O'
 rw[bu];refine χ 8 [.cell 2 46] Tryz.func67 ?_;refine κ @bl ?_;refine VC.gen ?_;intro O1 e1;obtain⟨aJ,cW,cz,cE⟩:=ib _ _ e1;clear e1;refine ξ @bl @cz ?_;refine π (fY O1) ?_;rintro m O2 ⟨rfl,e2⟩;rw[e2];clear e2 O2
 refine ao @bl @cz ?_;refine VC.gen ?_;intro O3 e3;have aG:O.Ge O3:=by rw[e3];exact aJ.set (aec _) _
 have iH:O3.hp O.N=some (.cells [.v (.bool hd),.str v,.sl 0 [] .ar]):=by rw[e3];exact τ _ _ _
 have cC:O3.hp (O.N+1)=O1.hp (O.N+1):=by rw[e3];exact ρ _ _ (by omega)
 have U7:=cC.trans cE;clear e3 cC;refine θ (aH @bl @iH @U7 ?_);refine ν @bl ?_;exact aG.set (by omega) _
def Flat (L:List Bn):Prop:=∀b∈L,b.n=0/\b.iv=[]/\b.tk= .ar
set_option maxHeartbeats 4000000 in
theorem Qu (hL:L.length<=100000) (hF:Flat L) (fF:ke<O.N) (hk:O.hp ke=some (.cells (dm k bb g mo st 1 l1 (.sl L.length (L.flatMap fB) tk) u2 l2 cv u3 l3 rv R))):
  VF Tryz.prog 41 [.ptr ke 0] O (aE fun m O'=>(∃t,m= .sl L.length (L.flatMap fB) t)/\O.Ge O'):=by
 have hlen:=aX lF L;have eP:de (bX Tryz.prog) 22 (.sl L.length (L.flatMap fB) tk)=some (.v (.int .i64 L.length)):=bL FJ;refine χ 24 [.tmp 2] Tryz.func41 ?_;refine κ @bl ?_;refine κ @bl ?_;refine Ξ [2] (fun t:Tok=>[.sl L.length (L.flatMap fB) t]) (fun _ O'=>O.Ge O') ?_ ?_
 ·refine κ @bl ?_;refine π (VE fF hk) ?_;rintro m O1 ⟨rfl,aJ⟩;refine ao @bl @eP ?_;refine υ ?_;refine Δ [2,10] [8,9] (fun x:Nat×Tok=>[.sl x.1 ((L.take x.1).flatMap fB) x.2,mi x.1]) (fun x O'=>x.1<=L.length/\O.Ge O'/\App O' O.N 13 x.2) (fun x=>L.length - x.1) ((0,.nil)) ?_ ?_
  ·exact⟨VI _,aJ,trivial⟩
  rintro⟨j,t1⟩ O3 ⟨hj,aG,iH⟩;dsimp only at hj iH ⊢;by_cases aM:j<L.length;rotate_left
  ·obtain rfl:j=L.length:=by omega
   rw[aed];refine ν @bl ?_;exact aB.mk t1 aG
  have cB:((j:Int)+1)=((j+1:Nat):Int):=by omega
  have bE:=cP lF L j aM;have k7:=hF L[j] (aeb aM);have cT:(L.take (j+1)).flatMap fB=(L.take j).flatMap fB++fB L[j]:=by rw[<-aee aM,anq];simp
  have dI:((L.take j).flatMap fB).length=j*13:=by rw[aX lF,ank,ann hj]
  generalize (L.take j).flatMap fB=P at*;generalize L[j]=b at*;obtain⟨up,dp,od,⟨q1,q2,q3,q4⟩,bv,hd,rv,nn,iv,PY,bs,rd⟩:=b;obtain⟨rfl,rfl,rfl⟩:=k7;simp only[fB,aq,bu]at bE cT;have how:=fun O'=>agp hd rv .ar O'
  rw[bu]at how;refine κ @bl ?_;refine κ @bl ?_;refine ω (υ ?_);refine ξ @bl @bE ?_;refine VC.al ?_;rintro O4 ⟨aY,kc,h_⟩;refine ξ @bl @kc ?_;refine π (how O4) ?_;rintro _ O5 ⟨rfl,bG⟩;have mI:=bG.at kc;have e_:=bG.N;refine ao @bl @mI ?_;refine VC.gen ?_;intro O6 e6;have oO:O6.hp O3.N=some (.cells [.v (.int .i64 up),.v (.int .i64 dp),.v (.int .i64 od),.str q1,.str q2,.str q3,.str q4,.str bv,.v (.bool hd),.str rv,.sl 0 [] .ar,.v (.int .i64 bs),.v (.bool rd)]):=by rw[e6];exact τ _ _ _
  have N0:O3.Ge O6:=by rw[e6];exact(aY.trans bG).set (aec _) _
  have nH:O6.N=O5.N:=by rw[e6];rfl
  clear e6;have o7:=aG.trans N0;have cy:=iH.ge N0;have jB:=aT (tk:=t1) (tk':=.full) (n:=j) (k:=1) (cs:=P) (ds:=[.v (.int .i64 up),.v (.int .i64 dp),.v (.int .i64 od),.str q1,.str q2,.str q3,.str q4,.str bv,.v (.bool hd),.str rv,.sl 0 [] .ar,.v (.int .i64 bs),.v (.bool rd)]) FJ XD.1.1 cy dI rfl rfl (by decide) (by decide) (by omega) (by simp only[maxLen];omega);refine ο @bl @oO ?_;refine VL.app jB ?_;refine ab @bl ?_;refine ο @bl @cB ?_;exact az.N (j+1,.own O6.N 13) ⟨aM,cc.ee o7 cy (cc.after cy),App.after o7.N⟩ (hl:=by dsimp only;rw[cT];rfl)
 rintro t O9 bh;refine κ @bl ?_;refine ν @bl ?_;exact⟨⟨t,rfl⟩,bh⟩
end
set_option linter.defProp false in
def bt:=ZA bl<|ZA dE<|ZA T65<|ZA T62 T68
def Qv (c:Ch):List MV:=[.str c.k.g,.str c.k.a,.str c.k.t,.str c.k.c,.str c.v]
theorem VG (c:Ch) (O:VH):VF Tryz.prog 42 [.agg (iy c)] O (aE fun m O'=>m= .agg (Qv c)/\O.Ge O'):=by
 obtain⟨⟨k1,k2,k3,k4⟩,at',v,s⟩:=c;simp only[iy,Qv,aq];refine χ 8 [.cell 2 68] Tryz.func42 ?_;refine κ @bt ?_;refine VC.gen ?_;intro O1 e1;obtain⟨aJ,cW,cz,cE⟩:=ib _ _ e1;clear e1;refine θ (aH @bt @cz @cE ?_);refine ν @bt ?_;exact aJ.set (by omega) _
def mc (X:List Ch) (L:List Bn):List (List Int):=(List.range X.length).map (gF X L L.length)
theorem pw (X:List Ch) (L:List Bn):(mc X L).length=X.length:=by simp[mc]
theorem BY (X:List Ch) (L:List Bn) (T:Nat->Tok):eR X.length (gF X L L.length) T=bY (mc X L) T:=Qr _ _ _
theorem tH (X:List Ch) (L:List Bn) (a:Int):∀(j:Nat) (x:Int),x∈Hj X L a j->∃k:Nat,x=k/\k<X.length
 | 0,x,h=>by cases h
 | j+1,x,h=>by
   rw[Hj]at h;split at h
   ·split at h
    ·split at h
     ·rename_i k hk;unfold tE at h;split at h
      ·exact tH X L a j x h
      ·rcases ahY.1 h with h | h
       ·exact tH X L a j x h
       ·exact⟨k,ahW.1 h,Hh hk⟩
     ·exact tH X L a j x h
    ·exact tH X L a j x h
   ·exact tH X L a j x h
theorem Ad {X:List Ch} {L:List Bn} (hX:X.length<=1000) (hL:L.length<=1000):xh 1000 (mc X L):=by
 refine⟨by rw[pw];exact hX,fun l hl=>?_⟩;obtain⟨u,_,rfl⟩:=ane.1 hl;have:=VA X L L.length u;omega
theorem DH (X:List Ch) (L:List Bn):BR (mc X L):=by
 intro l hl x hx;obtain⟨u,hu,rfl⟩:=ane.1 hl;unfold gF at hx;rw[zW (ajA.1 hu)]at hx;obtain⟨k,h1,h2⟩:=tH X L _ _ x hx;rw[pw];omega
theorem DI (g:List (List Int)):∀(f:Nat) (d:Nat->Bool),∀w∈kW g f d,w.length<=g.length/\∀x∈w,∃i:Nat,x=i/\i<g.length
 | 0,d,w,h=>by cases h
 | f+1,d,w,h=>by
   rw[kW]at h;split at h
   ·cases h
   ·rcases anf.1 h with rfl | h
    ·exact⟨ma _ _,fun x hx=>by
      obtain⟨i,h1,h2,_⟩:=tG.1 hx;exact⟨i,h1,h2⟩⟩
    ·exact DI g f _ w h
theorem DJ (g:List (List Int)):∀(f:Nat) (d:Nat->Bool),(kW g f d).length<=f
 | 0,d=>aec _
 | f+1,d=>by
   rw[kW];split
   ·exact VI _
   ·rw[ajy];have:=DJ g f (ku d (kx g d));omega
def sw (X:List Ch) (k:Int):List MV:=match X[k.toNat]? with
 | some c=>Qv c
 | none=>[]
theorem Me {X:List Ch} {k:Nat} {c:Ch} (h:X[k]?=some c):sw X (k:Int)=Qv c:=by unfold sw;rw[Int.toNat_natCast,h]
theorem Ht {X:List Ch}:∀{w:List Int},(∀x∈w,∃i:Nat,x=i/\i<X.length)->(w.flatMap (sw X)).length=w.length*5
 | [],_=>rfl
 | x::w,h=>by
   obtain⟨i,rfl,hi⟩:=h x ajz;rw[anI,Mn,Me (zW hi),Ht fun y hy=>h y (ah0 _ hy),ajy];show 5+_=_;omega
def sy (X:List Ch) (W:List (List Int)) (T:Nat->Tok):List MV:=(List.range W.length).map fun u=>.sl (W.getD u []).length ((W.getD u []).flatMap (sw X)) (T u)
theorem TD (X:List Ch) (W:List (List Int)) (T:Nat->Tok):(sy X W T).length=W.length:=by simp[sy]
theorem Qw (X:List Ch) (W:List (List Int)) (T:Nat->Tok) (w:List Int) (t:Tok):sy X W T++[.sl w.length (w.flatMap (sw X)) t]=sy X (W++[w]) (fun v=>if v=W.length then t else T v):=by
 unfold sy;rw[Mn,anc,anC,ajw,List.map_singleton]
 congr 1
 ·refine anD fun u hu=>?_
  have:=ajA.1 hu;dsimp only;rw[if_neg (by omega),agu,agu,anh this]
 ·dsimp only;rw[if_pos rfl];simp
theorem Mf (W:List (List Int)) (n:Nat) (h:∀w∈W,w.length<=n):W.flatten.length<=W.length*n:=by
 induction W with
 | nil=>simp
 | cons w W ih=>
   rw[List.flatten_cons,Mn,ajy,Nat.succ_mul];have:=h w ajz;have:=ih fun x hx=>h x (ah0 _ hx)
   omega
theorem agq (N:List Br):N.flatMap m6=(N.map bnB).flatMap fB:=by
 rw[List.flatMap_map];rfl
theorem Qx (N:List Br):Flat (N.map bnB):=fun b hb=>by
 obtain⟨x,_,rfl⟩:=ane.1 hb;exact⟨rfl,rfl,rfl⟩
set_option maxHeartbeats 8000000 in
theorem al9 {O:VH} {U:Nat->Prop} {ke k bb md:Nat} {S:List (Gv×List Dp)} {g:Gv} {mo st u3 l3:Int} {cv rv:MV} {R:List MV} {N:List Br} {L:List Bn} {X:List Ch} (fF:ke<O.N) (BX:¬U ke) (hk:O.hp ke=some (.cells (dm k bb g mo st 0 0 lI 0 0 cv u3 l3 rv R))) (hc:CB O U k bb md S) (hS:Plain S) (hr:Ab (iO S) g=some (some N))
  (hLN:L=N.map bnB) (hXL:X=cQ L) (hL:L.length<=1000) (hX:X.length<=1000) (BQ:Keys L) (BB:∀c∈X,∀s∈dk c.k,s.length<=maxLen) {W:List (List Int)} (hW:W=kW (mc X L) (X.length+1) fun _=>false):
  VF Tryz.prog 24 [.ptr ke 0] O (aE fun m O'=>(∃T t,m= .tuple [.sl W.length (sy X W T) t,mb (W.flatten.length==X.length)])/\ke<O'.N/\∃kP t1 t2,O'.hp ke=some (.cells (dm k bb g mo kP 1 0 (.sl L.length (L.flatMap fB) t1) 1 0 (.sl X.length (X.flatMap iy) t2) u3 l3 rv R))):=by
 have hWm:∀w∈W,w.length<=X.length/\∀x∈w,∃i:Nat,x=i/\i<X.length:=fun w hw=>by
  have:=DI (mc X L) _ _ w (by rw[<-hW];exact hw)
  rwa [pw]at this
 have hWl:W.length<=1001:=by rw[hW];exact ans (DJ _ _ _) (by omega)
 have k7:Flat L:=by rw[hLN];exact Qx N
 have Sn:=agl fF BX hk hc hS hr;rw[agq, <-hLN,show N.length=L.length by rw[hLN,Ml]]at Sn;simp only[nI,il,aq]at Sn;refine χ 56 [.tmp 2,.tmp 3] Tryz.func24 ?_;refine κ @bt ?_;refine κ @bt ?_;refine π Sn ?_;rintro _ O1 ⟨rfl,GH,t1,cA,cW,_⟩;clear Sn;refine ab @bt ?_;refine VL.Ft aa (bb:=false) (b:=true) (by simp) (by simp[jF]) (.inr ⟨rfl,rfl⟩) (by kernel_rfl) (by kernel_rfl) rfl rfl rfl rfl ?_;refine ab @bt ?_;have rE:=ago (L:=L) (by omega) (by rw[<-hXL];omega) BQ (show ke<O1.N by omega) cA;rw[<-hXL]at rE;refine κ @bt ?_;refine π rE ?_;rintro _ O2 ⟨⟨t2,rfl⟩,st2,t3,bN,c9⟩;clear rE;have eJ:=c9.N;refine ab @bt ?_;refine κ @bt ?_;have Lu:=Qu (L:=L) (by omega) k7 (show ke<O2.N by omega) bN;refine Ξ [2,4,5] (fun x:(Nat->Tok)×Tok=>[.sl W.length (sy X W x.1) x.2,.sl X.length (X.flatMap iy) t2,mi W.flatten.length]) (fun _ O'=>ke<O'.N/\O'.hp ke=some (.cells (dm k bb g mo st2 1 0 (.sl L.length (L.flatMap fB) t1) 1 0 (.sl X.length (X.flatMap iy) t3) u3 l3 rv R))) ?_ ?_
 ·refine κ @bt ?_;refine π Lu ?_;rintro _ O3 ⟨⟨t4,rfl⟩,aG⟩;clear Lu;refine ab @bt ?_;refine π (Qo L X t4 t2 hL hX BQ BB O3) ?_;rintro _ O4 ⟨⟨T5,t5,rfl⟩,aY⟩;have rD:=adU (mc X L) T5 t5 O4 ⟨(Ad hX hL).1,fun l hl=>ans ((Ad hX hL).2 l hl) (by decide)⟩;rw[<-BY,pw,(jR _).2 (DH X L), <-hW]at rD;generalize eR X.length (gF X L L.length) T5=GG at*;refine ab @bt ?_;refine π rD ?_;rintro m O5 ⟨bG,hm⟩
  obtain⟨T6,t6,rfl⟩:∃T' t,m= .sl W.length (bY W T') t:=by
   rcases hm with⟨_,h⟩ | ⟨h,_⟩
   ·exact h
   ·cases h
  clear hm rD;have hvW:de (bX Tryz.prog) 25 (.sl W.length (bY W T6) t6)=some (.v (.int .i64 W.length)):=bL zH;have hgW:=fun u h=>l_ W T6 (u:=u) h
  have hWr:=jn W T6;generalize bY W T6=RW at*;refine ao @bt @hvW ?_;have Dz:=(aG.trans aY).trans bG;have gK:=Dz.at bN;have e_:=Dz.N;refine υ ?_;refine Δ [2,5,23] [4,21,22] (fun s:Nat×(Nat->Tok)×Tok=>[.sl s.1 (sy X (W.take s.1) s.2.1) s.2.2,mi (W.take s.1).flatten.length,mi s.1]) (fun s O'=>s.1<=W.length/\O5.Ge O'/\App O' O5.N 1 s.2.2) (fun s=>W.length - s.1) ((0,(fun _=>.nil),.nil)) ?_ ?_
  ·exact⟨VI _,VH.Ge.refl _,trivial⟩
  rintro⟨i,T7,t7⟩ O6 ⟨hi,eZ,mQ⟩;dsimp only at hi mQ ⊢;by_cases dA:i<W.length;rotate_left
  ·obtain rfl:i=W.length:=by omega
   rw[aed];refine ν @bt ?_;exact aB.mk (T7,t7) ⟨by have:=eZ.N;omega,eZ.at gK⟩
  have mH:((i:Int)+1)=((i+1:Nat):Int):=by omega
  have bE:=hgW i dA;have cT:W.take (i+1)=W.take i++[W[i]]:=by rw[aee dA]
  obtain⟨oJ,Il⟩:=hWm W[i] (aeb dA);have iF:=fun t=>Qw X (W.take i) T7 W[i] t
  rw[<-cT]at iF;have hri:=TD X (W.take i) T7;rw[ank,ann hi]at hri iF;have al_:(W.take (i+1)).flatten.length=(W.take i).flatten.length+W[i].length:=by rw[cT,List.flatten_append,Mn];simp
  have ama:=Mf (W.take i) X.length fun w hw=>(hWm w (anA hw)).1
  rw[ank,ann hi]at ama;have am9:i*X.length<=1001*1000:=Nat.mul_le_mul (by omega) hX;generalize (W.take i).flatten.length=nf at*;generalize sy X (W.take i) T7=RI at*;generalize W[i]=w at*;have hvw:de (bX Tryz.prog) 29 (.sl w.length (w.map mi) (T6 i))=some (.v (.int .i64 w.length)):=bL jr;have adV:(w.map mi).length=w.length:=Ml _;have hgw:∀(j:Nat) (y:Int),w[j]?=some y->(w.map mi)[j]?=some (MV.v (.int .i64 y)):=fun j y h=>by rw[Mm,h];rfl
  generalize w.map mi=WM at*;refine κ @bt ?_;refine κ @bt ?_;refine ω (υ ?_);refine θ (aH @bt @bE @hWr ?_);refine κ @bt ?_;refine Ξ [2,4,5,8,21,22,23] (fun t:Tok=>[.sl i RI t7,.sl X.length (X.flatMap iy) t2,mi nf,.sl w.length (w.flatMap (sw X)) t,.sl W.length RW t6,mi W.length,mi i]) (fun _ O'=>O6.Ge O') ?_ ?_
  ·refine ξ @bt @hvw ?_;refine υ ?_;refine Δ [8,29] [2,4,5,21,22,23,27,28] (fun s:Nat×Tok=>[.sl s.1 ((w.take s.1).flatMap (sw X)) s.2,mi s.1]) (fun s O'=>s.1<=w.length/\O6.Ge O'/\App O' O6.N 5 s.2) (fun s=>w.length - s.1) ((0,.nil)) ?_ ?_
   ·exact⟨VI _,VH.Ge.refl _,trivial⟩
   rintro⟨j,t8⟩ O7 ⟨hj,eV,uC⟩;dsimp only at hj uC ⊢;by_cases aM:j<w.length;rotate_left
   ·obtain rfl:j=w.length:=by omega
    rw[aed];refine ν @bt ?_;exact aB.mk t8 eV
   have cB:((j:Int)+1)=((j+1:Nat):Int):=by omega
   have Hs:w[j]?=some w[j]:=zW aM;obtain⟨c,fj,iL⟩:=Il w[j] (aeb aM);rw[fj]at Hs;have o_:=hgw j _ Hs;have hXc:X[c]?=some X[c]:=zW iL;have hct:=cP oe X c iL;have fY:=aX oe X;have BU:(w.take (j+1)).flatMap (sw X)=(w.take j).flatMap (sw X)++Qv X[c]:=by rw[am_,Hs,anq];simp[Me hXc]
   have dI:((w.take j).flatMap (sw X)).length=j*5:=by rw[Ht fun x hx=>Il x (anA hx),ank,ann hj]
   have hit:=VG X[c] O7;generalize (w.take j).flatMap (sw X)=P at*;generalize X[c]=x at*;obtain⟨⟨k1,k2,k3,k4⟩,at',v,s⟩:=x;simp only[iy,Qv,aq]at hct hit BU;refine κ @bt ?_;refine κ @bt ?_;refine ω (υ ?_);refine θ (aH @bt @o_ @adV ?_);refine ι (aH @bt @hct @fY ?_);refine π hit ?_;rintro _ O8 ⟨rfl,gQ⟩;have GL:=uC.ge gQ;have jB:=aT (tk:=t8) (tk':=.full) (n:=j) (k:=1) (cs:=P) (ds:=[.str k1,.str k2,.str k3,.str k4,.str v]) T65 T68.1.1 GL dI rfl rfl (by decide) (by decide) (by omega) (by simp only[maxLen];omega);refine ab @bt ?_;refine VL.app jB ?_;refine ab @bt ?_;refine ο @bt @cB ?_;have Qy:=eV.trans gQ;exact az.N (j+1,.own O8.N 5) ⟨aM,cc.ee Qy GL (cc.after GL),App.after Qy.N⟩ (hl:=by dsimp only;rw[BU];rfl)
  rintro t8 O7 eV;have pf:=eZ.trans eV;have uC:=mQ.ge eV;have hvI:de (bX Tryz.prog) 65 (.sl w.length (w.flatMap (sw X)) t8)=some (.v (.int .i64 w.length)):=bL T65;have hni:(nf:Int)+w.length=((nf+w.length:Nat):Int):=by omega
  have amb:=iF t8;generalize w.flatMap (sw X)=WF at*;have DL:=aT (tk:=t7) (tk':=.full) (n:=i) (k:=1) (cs:=RI) (ds:=[.sl w.length WF t8]) T62 T65 uC (by rw[hri,ana]) rfl rfl (by decide) (by decide) (by omega) (by simp only[maxLen];omega);refine θ (aH @bt @hvI @hni ?_);refine ν @bt ?_;refine VL.app DL ?_;refine ab @bt ?_;refine ο @bt @mH ?_;exact az.N (i+1,(fun v=>if v=i then t8 else T7 v),.own O7.N 1) ⟨dA,cc.ee pf uC (cc.after uC),App.after pf.N⟩ (hl:=by dsimp only;rw[<-amb,al_];rfl)
 rintro⟨T9,t9⟩ O9 ⟨zT,hk9⟩;dsimp only;have hvX:de (bX Tryz.prog) 23 (.sl X.length (X.flatMap iy) t2)=some (.v (.int .i64 X.length)):=bL KN
 have hb:((W.flatten.length:Int)==(X.length:Int))=(W.flatten.length==X.length):=by
  rw[anL,beq_iff_eq,beq_iff_eq];omega
 refine θ (aH @bt @hvX @hb ?_);refine ν @bt ?_;exact⟨⟨T9,t9,rfl⟩,zT,st2,t1,t3,hk9⟩
theorem agr (x:Ch) (k:Ky) (b:Nat) (O:VH) (hb:O.hp b=some (.cells (gV k))) (R3:b<O.N):VF Tryz.prog 44 [.agg (iy x),.ptr b 0] O (aE fun m O'=>m=mb (rG x.k k)/\O.Ge O'):=by
 obtain⟨⟨x1,x2,x3,x4⟩,xa,xv,xs⟩:=x;obtain⟨k1,k2,k3,k4⟩:=k;simp only[iy,gV,aq]at hb ⊢;refine χ 8 [.tmp 3] Tryz.func44 ?_;refine κ @bt ?_;refine VC.bx ?_;rintro O1 ⟨aJ,eQ,cW⟩;have cE:=aJ.at hb;refine θ (aH @bt @eQ @cE ?_);refine VL.Ft aa (bb:=(x1==k1)&&((x2==k2)&&((x3==k3)&&((x4==k4)&&true)))) (b:=(x1==k1)&&((x2==k2)&&((x3==k3)&&((x4==k4)&&true)))) (by simp) (by simp[jF]) (.inl ⟨rfl,rfl⟩) (by kernel_rfl) (by kernel_rfl) rfl rfl rfl rfl ?_;refine ab @bt ?_;refine ν @bt ?_;exact⟨by simp[mb,rG],aJ⟩
theorem TF (X:List Ch) (k:Ky):∀j:Nat,idxFrom (fun c=>rG c.k k) j X=match pq X k with
  | some i=>((j+i:Nat):Int)
  | none=> -1:=by
 induction X with
 | nil=>intro j;rfl
 | cons c X ih=>
   intro j;rw[idxFrom];unfold pq at ih ⊢;rw[List.findIdx?_cons];cases h:rG c.k k
   ·simp only[anr,if_false];rw[ih (j+1)];cases X.findIdx? fun c=>rG c.k k with
    | none=>rfl
    | some i=>
      show((j+1+i:Nat):Int)=((j+(i+1):Nat):Int);omega
   ·rfl
set_option maxHeartbeats 4000000 in
theorem ad3 {O:VH} {ke k bb:Nat} {g:Gv} {mo st l1 l2 u3 l3:Int} {t1 t2:Tok} {rv:MV} {R:List MV} {L:List Bn} {X:List Ch} (key:Ky) {i:Nat} (hi:pq X key=some i) (fF:ke<O.N) (hk:O.hp ke=some (.cells (dm k bb g mo st 1 l1 (.sl L.length (L.flatMap fB) t1) 1 l2 (.sl X.length (X.flatMap iy) t2) u3 l3 rv R)))
  (k7:Flat L) (hL:L.length<=1000) (hX:X.length<=1000) (BQ:Keys L) (BB:∀c∈X,∀s∈dk c.k,s.length<=maxLen):
  VF Tryz.prog 25 [.ptr ke 0,.agg (gV key)] O (aE fun m O'=>(∃q t,m= .sl (cR q X.length).length ((cR q X.length).flatMap (sw X)) t/\∀x,x<X.length->(q x=true ↔ fP (mc X L) x i))/\O.Ge O'):=by
 have rE:=fun O' h1 h2=>ad2 (O:=O') (L:=L) (X:=X) (tc:=t2) (k:=k) (bb:=bb) (g:=g) (mo:=mo) (st:=st) (l1:=l1) (l2:=l2) (u3:=u3) (l3:=l3) (rv:=rv) (R:=R) (tk:=t1) (by omega) (ke:=ke) h1 h2
 have Lu:=fun O' h1 h2=>Qu (O:=O') (L:=L) (k:=k) (bb:=bb) (g:=g) (mo:=mo) (st:=st) (l1:=l1) (u2:=1) (l2:=l2) (u3:=u3) (l3:=l3) (rv:=rv) (R:=R) (tk:=t1) (cv:=.sl X.length (X.flatMap iy) t2) (by omega) k7 (ke:=ke) h1 h2
 have hiX:=Hh hi;have Ma:=fun(tk:Tok) (O':VH) (b:Nat) (hb:O'.hp b=some (.cells (gV key))) (R3:b<O'.N)=>af1 X tk 44 [.ptr b 0] (fun c=>rG c.k key) O' (by kernel_rfl) (fun x _ mD hg=>agr x key b mD (hg.at hb) (by have:=hg.N;omega)) (by omega)
 rw[TF,hi]at Ma;obtain⟨q1,q2,q3,q4⟩:=key;simp only[gV,aq,Nat.zero_add]at Ma ⊢;refine χ 38 [.tmp 4] Tryz.func25 ?_;refine κ @bt ?_;refine VC.bx ?_;rintro O1 ⟨aJ,eQ,cW⟩;have cA:=aJ.at hk;refine κ @bt ?_;refine π (rE O1 (by omega) cA) ?_;rintro _ O2 ⟨⟨t3,rfl⟩,aC⟩;have jv:=aC.at eQ;have eJ:=aC.N;refine ab @bt ?_;refine κ @bt ?_;refine π (Ma t3 O2 O.N jv (by omega)) ?_;rintro _ O3 ⟨rfl,aG⟩;have gE:=aG.N;have dR:=aG.at (aC.at cA);have e0:decide ((i:Int)<0)=false:=decide_eq_false (by omega);refine ab @bt ?_;refine ξ @bt @e0 ?_;have eu:=(aJ.trans aC).trans aG;refine Ξ [4] (fun x:(Nat->Bool)×Tok=>[.sl (cR x.1 X.length).length ((cR x.1 X.length).flatMap (sw X)) x.2]) (fun x O'=>O.Ge O'/\∀y,y<X.length->(x.1 y=true ↔ fP (mc X L) y i)) ?_ ?_
 ·refine κ @bt ?_;refine π (Lu O3 (by omega) dR) ?_;rintro _ O4 ⟨⟨t4,rfl⟩,aY⟩;refine ab @bt ?_;refine π (Qo L X t4 t3 hL hX BQ BB O4) ?_;rintro _ O5 ⟨⟨T5,t5,rfl⟩,bG⟩;have n0:=fun tc=>Hq (mc X L) T5 t5 [(i:Int)] tc O5 (Ad hX hL) (by simp)
  rw[<-BY,pw,(jR _).2 (DH X L)]at n0;simp only[anc,anG,List.map_nil,aq]at n0;generalize eR X.length (gF X L L.length) T5=GG at*;refine ab @bt ?_;refine π (n0 _) ?_;rintro m O6 ⟨eZ,hm⟩
  obtain⟨q,t6,rfl,hq⟩:∃q t,m= .sl (cR q X.length).length ((cR q X.length).map mi) t/\∀x,x<X.length->(q x=true ↔ fP (mc X L) x i):=by
   rcases hm with⟨_,q,t,h1,h2⟩ | ⟨h,_⟩
   ·refine⟨q,t,h1,fun x hx=>(h2 x hx).trans ?_⟩;constructor
    ·rintro⟨c,a1,a2,a3,a4⟩;rw[ahW.1 a1,ang]at a4;exact a4
    ·intro a4;exact⟨i,ant _,by omega,by omega,by rw[ang];exact a4⟩
   ·cases h
  clear hm n0;have hvI:de (bX Tryz.prog) 29 (.sl (cR q X.length).length ((cR q X.length).map mi) t6)=some (.v (.int .i64 (cR q X.length).length)):=bL jr;have hIm:((cR q X.length).map mi).length=(cR q X.length).length:=Ml _;have hgI:∀(j:Nat) (y:Int),(cR q X.length)[j]?=some y->((cR q X.length).map mi)[j]?=some (MV.v (.int .i64 y)):=fun j y h=>by rw[Mm,h];rfl
  have Il:=fun x hx=>(tG (p:=q) (n:=X.length) (x:=x)).1 hx
  have hIl:=ma q X.length;have Jv:=((eu.trans aY).trans bG).trans eZ;obtain⟨w,hw⟩:∃w,w=cR q X.length:=⟨_,rfl⟩
  rw[<-hw]at hvI hIm hgI Il hIl;rw[<-hw];generalize hWM:w.map mi=WM at*;refine ao @bt @hvI ?_;refine υ ?_;refine Δ [4,24] [5,22,23] (fun s:Nat×Tok=>[.sl s.1 ((w.take s.1).flatMap (sw X)) s.2,mi s.1]) (fun s O'=>s.1<=w.length/\O6.Ge O'/\App O' O6.N 5 s.2) (fun s=>w.length - s.1) ((0,.nil)) ?_ ?_
  ·exact⟨VI _,VH.Ge.refl _,trivial⟩
  rintro⟨j,t8⟩ O7 ⟨hj,eV,uC⟩;dsimp only at hj uC ⊢;by_cases aM:j<w.length;rotate_left
  ·obtain rfl:j=w.length:=by omega
   rw[aed];refine ν @bt ?_;exact aB.mk (q,t8) ⟨Jv.trans eV,hq⟩ (h1:=by dsimp only;rw[<-hw];rfl)
  have cB:((j:Int)+1)=((j+1:Nat):Int):=by omega
  have Hs:w[j]?=some w[j]:=zW aM;obtain⟨c,fj,iL,_⟩:=Il w[j] (aeb aM);rw[fj]at Hs;have o_:=hgI j _ Hs;have hXc:X[c]?=some X[c]:=zW iL;have hct:=cP oe X c iL;have fY:=aX oe X;have BU:(w.take (j+1)).flatMap (sw X)=(w.take j).flatMap (sw X)++Qv X[c]:=by rw[am_,Hs,anq];simp[Me hXc]
  have dI:((w.take j).flatMap (sw X)).length=j*5:=by
   rw[Ht (fun x hx=>by obtain⟨i,a,b,_⟩:=Il x (anA hx);exact⟨i,a,b⟩),ank,ann hj]
  have hit:=VG X[c] O7;generalize (w.take j).flatMap (sw X)=P at*;generalize X[c]=x at*;obtain⟨⟨k1,k2,k3,k4⟩,at',v,s⟩:=x;simp only[iy,Qv,aq]at hct hit BU;refine κ @bt ?_;refine κ @bt ?_;refine ω (υ ?_);refine θ (aH @bt @o_ @hIm ?_);refine ι (aH @bt @hct @fY ?_);refine π hit ?_;rintro _ O8 ⟨rfl,gQ⟩;have GL:=uC.ge gQ;have jB:=aT (tk:=t8) (tk':=.full) (n:=j) (k:=1) (cs:=P) (ds:=[.str k1,.str k2,.str k3,.str k4,.str v]) T65 T68.1.1 GL dI rfl rfl (by decide) (by decide) (by omega) (by simp only[maxLen];omega);refine ab @bt ?_;refine VL.app jB ?_;refine ab @bt ?_;refine ο @bt @cB ?_;have Qy:=eV.trans gQ;exact az.N (j+1,.own O8.N 5) ⟨aM,cc.ee Qy GL (cc.after GL),App.after Qy.N⟩ (hl:=by dsimp only;rw[BU];rfl)
 rintro⟨q,t9⟩ O9 ⟨bh,hq⟩;refine κ @bt ?_;refine ν @bt ?_;exact⟨⟨q,t9,rfl,hq⟩,bh⟩
theorem ags {O O2:VH} {k ke kv ce cv bb md:Nat} {E V:fI} {rd at':Int} {S:List (Gv×List Dp)} (h:ob O k (rowsOf S) E V ke kv ce cv rd at') (u:O.Ge O2) (h1:O.N<=bb) (h2:O.N<=md) (h3:bb<O2.N) (h4:md<O2.N) (h5:O2.hp md=some (.map [] 0)) (h6:O2.hp bb=some (.cells [.ptr k 0,.map md])):CB O2 (fun j=>Own k ke kv E V j\/j=bb\/j=md) k bb md S:=by
 have hO:= @Vv _ _ _ _ _ _ _ _ _ _ _ h;have hl:=h.st.lt;refine⟨⟨rowsOf S,E,V,ke,kv,ce,cv,rd,at',[],0,h.ge u,⟨h6,h5,CI 3,h3,h4⟩,by simp[rowsOf],fun i g D hi=>⟨none,by simp[rowsOf,hi],.inl ⟨rfl,rfl⟩⟩,⟨by omega,by omega⟩,fun j hj=>.inl hj⟩,fun j hj=>?_,.inr (.inl rfl),.inr (.inr rfl)⟩;rcases hj with hj | rfl | rfl
 ·have:=hO hj;have:=u.N;omega
 ·exact h3
 ·exact h4
def Hu:List (Gv×List Dp):=[(gA,[vv [98] v1 0,vv [99] v1 0]),(⟨gS,[98],v1⟩,[vv [99] v1 0]),(⟨gS,[99],v1⟩,[])]
def TG:List Br:=[⟨-1,0,0,⟨gS,[97],lB,[]⟩,v1,0,false⟩,⟨0,1,0,⟨gS,[98],lB,[]⟩,v1,1,false⟩,⟨0,1,1,⟨gS,[99],lB,[]⟩,v1,1,false⟩,⟨1,2,0,⟨gS,[99],lB,[]⟩,v1,1,false⟩]
theorem ajs:Ab (iO Hu) gA=some (some TG):=by kernel_rfl
def Mg:List Bn:=TG.map bnB
def uN:List Ch:=[⟨⟨gS,[97],lB,[]⟩,0,v1,0⟩,⟨⟨gS,[98],lB,[]⟩,1,v1,1⟩,⟨⟨gS,[99],lB,[]⟩,2,v1,1⟩]
theorem ad4:cQ Mg=uN:=by kernel_rfl
theorem ad5:mc uN Mg=[[1,2],[2],[]]:=by kernel_rfl
theorem ajt:kW [[1,2],[2],[]] 4 (fun _=>false)=[[2],[1],[0]]:=by kernel_rfl
theorem J2:Calm ⟨gS,[98],v1⟩ [vv [99] v1 0]:=⟨rfl,adG,.one,by simp[L4 Tq],by simp,by simp⟩
theorem J3:Calm ⟨gS,[99],v1⟩ []:=⟨rfl,Tq,.one,by simp,by simp,by simp⟩
theorem ad6:Plain Hu:=⟨by simp[Hu,Qi,J2,J3],by simp[Hu,gA,v1]⟩
theorem aju (x:Nat) (hx:x<3):fP [[1,2],[2],[]] x 2:=by
 rcases x with _ | _ | _ | x
 ·exact .step .base ⟨[1,2],rfl,by simp⟩
 ·exact .step .base ⟨[2],rfl,by simp⟩
 ·exact .base
 ·omega
set_option maxHeartbeats 4000000 in
theorem BZ (O:VH):VF Tryz.prog 9 [] O (aE fun m O'=>m=mb true):=by
 refine χ 86 [.tmp 0] Tryz.func9 ?_;refine κ @bt ?_;refine κ @bt ?_;refine π (afE O) ?_;rintro _ O1 ⟨rfl,uz,aJ⟩;have sq:=uz.st.lt;generalize O.N=k0 at*;refine ab @bt ?_;refine κ @bt ?_;refine κ @bt ?_;have Hv:=adE [98] [49] 0 O1;simp only[vv,aU,aq,gS,anN,anJ]at Hv;refine π Hv ?_;clear Hv;rintro _ O2 ⟨rfl,aC⟩;have nO2:=(aC).N;refine ab @bt ?_;have Hv:=adE [99] [49] 0 O2;simp only[vv,aU,aq,gS,anN,anJ]at Hv;refine π Hv ?_;clear Hv;rintro _ O3 ⟨rfl,aG⟩;have nO3:=(aG).N;refine ab @bt ?_;have SA:ob O3 (k0+2) (rowsOf []) [] [] k0 (k0+1) 0 0 0 0:=uz.ge (aC.trans aG);refine π (L5 (SA) (n:=[97]) (v:=v1) (D:=[vv [98] v1 0,vv [99] v1 0]) rfl rfl (Qi) (by decide) (by decide)) ?_;rintro _ O4 ⟨rfl,⟨E4,V4,ce4,cv4,vq⟩,nO4,Qp⟩;refine ab @bt ?_;have Hv:=adE [99] [49] 0 O4;simp only[vv,aU,aq,gS,anN,anJ]at Hv;refine π Hv ?_;clear Hv;rintro _ O5 ⟨rfl,bG⟩;have nO5:=(bG).N;refine ab @bt ?_;refine π (L5 (vq.ge bG) (n:=[98]) (v:=v1) (D:=[vv [99] v1 0]) rfl rfl (J2) (by decide) (by decide)) ?_;rintro _ O6 ⟨rfl,⟨E6,V6,ce6,cv6,HZ⟩,nO6,Qg⟩;refine ab @bt ?_;refine π (L5 (HZ) (n:=[99]) (v:=v1) (D:=[]) rfl rfl (J3) (by decide) (by decide)) ?_;rintro _ O7 ⟨rfl,⟨E7,V7,ce7,cv7,hs7⟩,nO7,hf7⟩;refine ab @bt ?_;have amc:ob O7 (k0+2) (rowsOf Hu) E7 V7 k0 (k0+1) ce7 cv7 0 0:=hs7;clear uz SA vq HZ hs7 Qp Qg hf7;refine κ @bt ?_;have TI:=aga O7;simp only[bZ,gS,v1]at TI;refine π TI ?_;rintro _ O8 ⟨rfl,gQ⟩;have YC:=amc.ge gQ;refine ab @bt ?_;have np:=agj (k0+2) gA 10 O8;simp only[bZ,gA,gS,v1,aq]at np;refine π np ?_;rintro _ O9 ⟨ke,bb,rfl,bh,yZ,hke,fF,hmd,hbc,hek⟩;clear np TI;have hcb:=ags YC bh (show O8.N<=bb by omega) (show O8.N<=bb - 1 by omega) (by omega) (by omega) hmd hbc
 have BX:¬(Own (k0+2) k0 (k0+1) E7 V7 ke\/ke=bb\/ke=bb - 1):=by
  rintro(h | h | h)
  ·have:=Vv YC h;omega
  ·omega
  ·omega
 refine ab @bt ?_;have qb:=al9 (W:=[[2],[1],[0]]) fF BX hek hcb ad6 ajs (L:=Mg) (X:=uN) rfl ad4.symm (by decide) (by decide) (by unfold Keys;decide) (by decide) (by rw[ad5];exact ajt.symm);refine κ @bt ?_;refine π qb ?_;rintro _ Oa ⟨⟨T1,ta,rfl⟩,hka,GH,tb,tc,hea⟩;clear qb;refine ab @bt ?_;have haf:=ad3 (key:=⟨gS,[99],lB,[]⟩) (i:=2) (X:=uN) (L:=Mg) (by rfl) hka hea (Qx TG) (by decide) (by decide) (by unfold Keys;decide) (by decide);simp only[gV,gS,lB]at haf;have hro:sy uN [[2],[1],[0]] T1=[.sl 1 [.str gS,.str [99],.str lB,.str [],.str v1] (T1 0),.sl 1 [.str gS,.str [98],.str lB,.str [],.str v1] (T1 1),.sl 1 [.str gS,.str [97],.str lB,.str [],.str v1] (T1 2)]:=rfl;rw[hro,show([[2],[1],[0]]:List (List Int)).length=3 from rfl,show(([[2],[1],[0]]:List (List Int)).flatten.length==uN.length)=true from rfl];simp only[gS,lB,v1];refine κ @bt ?_;refine π haf ?_;rintro _ Ob ⟨⟨q,tq,rfl,hq⟩,hgb⟩;clear haf
 have qZ:cR q uN.length=[0,1,2]:=by
  rw[show uN.length=3 from rfl]at hq ⊢;rw[ad5]at hq;have:cR q 3=cR (fun _=>true) 3:=DF fun x hx=>(hq x hx).2 (aju x hx)
  rw[this];rfl
 rw[qZ,show([0,1,2]:List Int).length=3 from rfl];generalize ([0,1,2]:List Int).flatMap (sw uN)=CX at*;have e1:(([99]:List UInt8)==[99])=true:=rfl;have e2:(([97]:List UInt8)==[97])=true:=rfl;have e3:((3:Int)==3)=true:=rfl;have e4:((1:Int)==1)=true:=rfl;refine ab @bt ?_;refine ι (iw @bt @e1 @e2 @e3 @e4 ?_);trivial
open Go.ChangeShapes
section
variable {H:Type} {enc:TypeId×Value->H} {P:Program} {w:World} {sp:Nat->Bool} {held:Bool} {t e:TypeId} {α β :Type}
def DK (enc:TypeId×Value->H) (P:Program) (w:World) (sp:Nat->Bool) (held:Bool) (t:TypeId) (f: α ->List MV) (p: α ->Prop):Prop:=El enc P w sp held t fun ms=>∃y,ms=f y/\p y
theorem DK.int {k:IntKind} (ht:P.underlying t=some (.int k)):DK enc P w sp held t (fun n:Int=>[.v (.int k n)]) (InK k):=El.akB ht
theorem J4 {f: α ->List MV} {p: α ->Prop}:∀{rows:List (List MV)},(∀r∈rows,∃x,r=f x/\p x)->∃xs:List α,rows.length=xs.length/\rows.flatten=xs.flatMap f/\∀x∈xs,p x
 | [],_=>⟨[],rfl,rfl,by simp⟩
 | r::rows,h=>by
   obtain⟨xs,h1,h2,h3⟩:=J4 fun r hr=>h r (ah0 _ hr)
   obtain⟨x,h4,h5⟩:=h r (ajz ..)
   exact⟨x::xs,by simp[h1],by rw[h4];simp[h2],fun y hy=>by
    rcases anf.1 hy with rfl | hy
    ·exact h5
    ·exact h3 y hy⟩
theorem DK.slice {f: α ->List MV} {p: α ->Prop} (ht:P.underlying t=some (.slice e)) (p7:0<P.cellsOf e) (he:DK enc P w sp held e f p):
  DK enc P w sp held t (fun y:List α ×Tok=>[.sl y.1.length (y.1.flatMap f) y.2]) (fun y=>(∀x∈y.1,p x)/\y.1.length<=maxLen):=
 (El.slice ht he p7).imp fun ms ⟨rows,tk,h1,h2,h3⟩=>by
  obtain⟨xs,h4,h5,h6⟩:=J4 h2;exact⟨(xs,tk),by rw[h1,h4,h5],h6,by show xs.length<=maxLen;omega⟩
theorem DK.arg {f: α ->List MV} {p: α ->Prop} (h:DK enc P w sp held t f p) {v:Value} {d:DataW H} {ps:List MemPlace} (hd:DataW.Trod enc P w 0 sp held t v d ps) (hc:v.cells= #[v]):∃m y,VR (G0 w) m v/\[m]=f y/\p y:=by
 obtain⟨m,h1,y,h2,h3⟩:=El.arg h hd hc;exact⟨m,y,h1,h2,h3⟩
end
set_option maxHeartbeats 4000000 in
theorem Zx (g:List (List Int)) (T:Nat->Tok) (tk:Tok) (O:VH) (hs:xh 1000000 g):VF Tryz.prog 12 [.sl g.length (bY g T) tk] O (aE fun m O'=>m=mb (lG g)/\O'=O):=by
 have eP:de (bX Tryz.prog) 25 (.sl g.length (bY g T) tk)=some (.v (.int .i64 g.length)):=bL zH;have ox:=jn g T;have Hn:=fun u h=>l_ g T (u:=u) h
 generalize bY g T=A at*;refine χ 29 [.tmp 2] Tryz.func12 ?_;refine κ @aA ?_;refine Ξ [] (fun _:Unit=>[]) (fun _ O'=>O'=O/\lG g=true) ?_ ?_
 ·refine ξ @aA @eP ?_;refine υ ?_;refine Δ [9] [0,7,8] (fun i:Nat=>[mi i]) (fun i O'=>O'=O/\i<=g.length/\∀l∈g.take i,∀x∈l,0<=x/\x<(g.length:Int)) (fun i=>g.length - i) (0) ?_ ?_
  ·exact⟨rfl,VI _,fun l h=>by simp at h⟩
  rintro i Ox ⟨eO,hi,dh⟩;rw[eO];clear eO Ox
  by_cases dA:i<g.length;rotate_left
  ·obtain rfl:i=g.length:=by omega
   rw[aed]at dh;refine ν @aA ?_;exact aB.mk () ⟨rfl,(jR g).2 dh⟩
  have mH:((i:Int)+1)=((i+1:Nat):Int):=by omega
  have bE:=Hn i dA;have cT:g.take (i+1)=g.take i++[g[i]]:=by rw[aee dA]
  have ra:=aeb dA;have uq:=hs.2 _ ra;have Ij:=hs.1;generalize g[i]=l at*;have ve:de (bX Tryz.prog) 29 (.sl l.length (l.map mi) (T i))=some (.v (.int .i64 l.length)):=bL jr;have yu:(l.map mi).length=l.length:=Ml _;have BT:∀(j:Nat) (y:Int),l[j]?=some y->(l.map mi)[j]?=some (MV.v (.int .i64 y)):=fun j y h=>by rw[Mm,h];rfl
  generalize l.map mi=cs at*;refine κ @aA ?_;refine κ @aA ?_;refine ω (υ ?_);refine θ (aH @aA @bE @ox ?_);refine VC.wc [0,7,8,9] (fun _:Unit=>[.sl g.length A tk,.sl g.length A tk,mi g.length,mi i]) (fun _ O'=>O'=O/\∀x∈l,0<=x/\x<(g.length:Int)) ?_ ?_
  ·refine ξ @aA @ve ?_;refine υ ?_;refine Δ [15] [0,7,8,9,13,14] (fun j:Nat=>[mi j]) (fun j O'=>O'=O/\j<=l.length/\∀x∈l.take j,0<=x/\x<(g.length:Int)) (fun j=>l.length - j) (0) ?_ ?_
   ·exact⟨rfl,VI _,fun x h=>by simp at h⟩
   rintro j Ox ⟨eO,hj,Ho⟩;rw[eO];clear eO Ox
   by_cases aM:j<l.length;rotate_left
   ·obtain rfl:j=l.length:=by omega
    rw[aed]at Ho;refine ν @aA ?_;exact aB.mk () ⟨rfl,Ho⟩
   have cB:((j:Int)+1)=((j+1:Nat):Int):=by omega
   have o_:=BT j l[j] (zW aM);have BU:l.take (j+1)=l.take j++[l[j]]:=by rw[aee aM]
   have qq:=aeb aM;generalize l[j]=x at*
   have bad:¬(0<=x/\x<(g.length:Int))->lG g=false:=fun h=>by
    rw[ano];intro h2;exact h ((jR g).1 h2 l ra x qq)
   refine κ @aA ?_;refine κ @aA ?_;refine ω (υ ?_);refine θ (aH @aA @o_ @yu ?_);by_cases h0:x<0
   ·have e1:decide (x<0)=true:=decide_eq_true h0;rw[bad (by omega)];refine θ (aH @aA @eP @e1 ?_);refine ν @aA ?_;trivial
   have e1:decide (x<0)=false:=decide_eq_false h0;by_cases h1:(g.length:Int)<=x
   ·have e2:decide ((g.length:Int)<=x)=true:=decide_eq_true h1;have e3:decide (x>=(g.length:Int))=true:=e2;rw[bad (by omega)];refine θ (iw @aA @eP @e1 @e2 @e3 ?_);refine ν @aA ?_;trivial
   have e2:decide ((g.length:Int)<=x)=false:=decide_eq_false h1;have e3:decide (x>=(g.length:Int))=false:=e2;refine ι (iw @aA @eP @e1 @e2 @e3 ?_);refine ο @aA @cB ?_;refine az.N (j+1) ⟨rfl,aM,fun y hy=>?_⟩;rw[BU,ahY]at hy;rcases hy with hy | hy
   ·exact Ho y hy
   ·rw[ahW.1 hy];omega
  rintro _ Ox ⟨eO,hl⟩;rw[eO];clear eO Ox
  refine ο @aA @mH ?_;refine az.N (i+1) ⟨rfl,dA,fun y hy=>?_⟩;rw[cT,ahY]at hy;rcases hy with hy | hy
  ·exact dh y hy
  ·rw[ahW.1 hy];exact hl
 rintro _ Ox ⟨eO,hm⟩;rw[eO];clear eO Ox
 rw[hm];refine ν @aA ?_;trivial
def xj (f:Nat) (n:Nat):List Int:=(List.range n).map fun i=>if i=f then 0 else -1
theorem TK (f n:Nat):xj f (n+1)=xj f n++[if n=f then 0 else -1]:=by
 unfold xj;rw[anC,ajw];rfl
set_option maxHeartbeats 8000000 in
theorem Zy (g:List (List Int)) (T:Nat->Tok) (tk:Tok) (f:Nat) (O:VH) (hs:xh 1000000 g) (ra:BR g) (hf:f<g.length):VF Tryz.prog 28 [.sl g.length (bY g T) tk,mi f] O (aE fun m O'=>O.Ge O'/\∃D t,m= .sl g.length (D.map mi) t/\D.length=g.length/\∀x,gq D x ↔ fP g f x):=by
 have Ij:=hs.1;have eP:de (bX Tryz.prog) 25 (.sl g.length (bY g T) tk)=some (.v (.int .i64 g.length)):=bL zH;have ox:=jn g T;have Hn:=fun u h=>l_ g T (u:=u) h
 generalize bY g T=A at*;rw[aq];refine χ 65 [.tmp 4] Tryz.func28 ?_;refine κ @aA ?_;refine κ @aA ?_;refine Ξ [0,5] (fun x:Nat×Nat=>[.sl g.length A tk,.bz x.1 0 g.length x.2]) (fun x O'=>O.Ge O'/\O.N<=x.1/\g.length<=x.2/\x.1<O'.N/\∃sp,O'.hp x.1=some (.cells ((xj f g.length).map mi++sp))/\((xj f g.length).map mi++sp).length=x.2) ?_ ?_
 ·refine ξ @aA @eP ?_;refine υ ?_;refine Δ [5,13] [0,1,12] (fun s:Nat×MV=>[s.2,mi s.1]) (fun s O'=>s.1<=g.length/\O.Ge O'/\GR O' 3 1 O.N s.2 s.1 ((xj f s.1).map mi)) (fun s=>g.length - s.1) ((0,.sl 0 [] .nil)) ?_ ?_
  ·exact⟨VI _,VH.Ge.refl _,.inl ⟨rfl,rfl,.inl rfl⟩⟩
  rintro⟨i,p⟩ O3 ⟨hi,aG,gO⟩;dsimp only at hi gO ⊢;by_cases dA:i<g.length;rotate_left
  ·obtain rfl:i=g.length:=by omega
   rcases gO with⟨h0,_⟩ | ⟨k,c,rfl,h1,h2,h3⟩
   ·omega
   obtain⟨sp,h4,h5⟩:=h3.cells;refine ν @aA ?_;exact aB.mk (k,c) ⟨aG,h3.lo,h1,h3.hi,sp,h4,by rw[h5,ana]⟩
  have mH:((i:Int)+1)=((i+1:Nat):Int):=by omega
  have hD:=TK f i;refine κ @aA ?_;refine κ @aA ?_;refine ω (υ ?_);refine κ @aA ?_;by_cases hif:i=f
  ·have e1:((i:Int)==f)=true:=by simp[hif]
   refine ο @aA @e1 ?_;refine VL.grow aa (.inl rfl) (te:=⟨_,1,8,_⟩) (dx:=.slice 3) (q:=.sl 1 [.v (.int .i64 0)] .full) (j:=1) (ds:=[.v (.int .i64 0)]) gO rfl rfl (by rw[jr];rfl) T3 (by rw[jr];rfl) trivial (by dsimp only;omega) (by simp only[maxLen];omega) (by have:=aG.N;omega) rfl rfl rfl rfl ?_;intro m O4 Bm ff amd Ln;refine ab @aA ?_;refine ο @aA @mH ?_;refine az.N (i+1,m) ⟨dA,gO.ee aG (aec _) ff,?_⟩;rw[hD,ajw,if_pos (by omega)];exact Bm
  ·have e1:((i:Int)==f)=false:=by rw[beq_eq_false_iff_ne];omega
   refine ο @aA @e1 ?_;refine VL.grow aa (.inl rfl) (te:=⟨_,1,8,_⟩) (dx:=.slice 3) (q:=.sl 1 [.v (.int .i64 (-1))] .full) (j:=1) (ds:=[.v (.int .i64 (-1))]) gO rfl rfl (by rw[jr];rfl) T3 (by rw[jr];rfl) trivial (by dsimp only;omega) (by simp only[maxLen];omega) (by have:=aG.N;omega) rfl rfl rfl rfl ?_;intro m O4 Bm ff amd Ln;refine ab @aA ?_;refine ο @aA @mH ?_;refine az.N (i+1,m) ⟨dA,gO.ee aG (aec _) ff,?_⟩;rw[hD,ajw,if_neg (by omega)];exact Bm
 rintro⟨k,c⟩ O3 ⟨aG,hk,hc,fF,sp,iH,fY⟩;dsimp only at hk hc fF iH fY ⊢;have ad7:(xj f g.length).length=g.length:=by unfold xj;simp
 have hL0:pr g f (xj f g.length) 0 0 0:=pr.init ad7 hf fun i hi=>by
  unfold xj;rw[Mm,anb hi];rfl
 generalize xj f g.length=D0 at*;refine Ξ [5] (fun _:Unit=>[.bz k 0 g.length c]) (fun _ O'=>O.Ge O'/\∃D,O'.hp k=some (.cells (D.map mi++sp))/\D.length=g.length/\∀x,gq D x ↔ fP g f x) ?_ ?_
 ·refine κ @aA ?_;refine υ ?_;refine Δ [7] [0,5] (fun s:Nat×List Int=>[mi s.1]) (fun s O'=>s.1<=g.length/\O.Ge O'/\O'.hp k=some (.cells (s.2.map mi++sp))/\pr g f s.2 s.1 0 0) (fun s=>g.length - s.1) ((0,D0)) ?_ ?_
  ·exact⟨VI _,aG,iH,hL0⟩
  clear iH aG hL0;rintro⟨lv,D⟩ O4 ⟨j6,aY,fb,hL⟩;dsimp only at j6 fb hL ⊢;by_cases qp:lv<g.length;rotate_left
  ·obtain rfl:lv=g.length:=by omega
   have e0:decide ((g.length:Int)<g.length)=false:=decide_eq_false (by omega);refine θ (aH @aA @eP @e0 ?_);exact aB.mk () ⟨aY,D,fb,hL.len,hL.all⟩
  have e0:decide ((lv:Int)<g.length)=true:=decide_eq_true (by omega);have sq:((lv:Int)+1)=((lv+1:Nat):Int):=by omega
  refine θ (aH @aA @eP @e0 ?_);refine Ξ [0,5,7] (fun _:List Int=>[.sl g.length A tk,.bz k 0 g.length c,mi lv]) (fun D' O'=>O.Ge O'/\O'.hp k=some (.cells (D'.map mi++sp))/\pr g f D' lv g.length 0) ?_ ?_
  ·refine υ ?_;refine ξ @aA @eP ?_;refine υ ?_;refine Δ [34] [0,5,7,33] (fun s:Nat×List Int=>[mi s.1]) (fun s O'=>s.1<=g.length/\O.Ge O'/\O'.hp k=some (.cells (s.2.map mi++sp))/\pr g f s.2 lv s.1 0) (fun s=>g.length - s.1) ((0,D)) ?_ ?_
   ·exact⟨VI _,aY,fb,hL⟩
   clear fb aY hL;rintro⟨a,D1⟩ O5 ⟨ha,bG,db,Ck⟩;dsimp only at ha db Ck ⊢;by_cases eA:a<g.length;rotate_left
   ·obtain rfl:a=g.length:=by omega
    refine ν @aA ?_;exact aB.mk D1 ⟨bG,db,Ck⟩
   have cz:((a:Int)+1)=((a+1:Nat):Int):=by omega
   have haD:a<D1.length:=by rw[Ck.len];exact eA
   have Ae:D1[a]?=some D1[a]:=zW haD
   have Ie:(D1.map mi++sp)[a]?=some (MV.v (.int .i64 D1[a])):=by
    rw[anh (by rw[Ml,Ck.len];exact eA),Mm,Ae];rfl
   have Hw:(D1.map mi++sp).length=c:=by rw[Mn,Ml,Ck.len];rw[Mn,Ml,ad7]at fY;exact fY
   generalize hCC:D1.map mi++sp=CC at*;refine κ @aA ?_;refine κ @aA ?_;refine ω (υ ?_);refine κ @aA ?_;by_cases RV:D1[a]=(lv:Int);rotate_left
   ·have e1:(D1[a] != (lv:Int))=true:=by simpa using RV
    refine θ (iw @aA @db @Ie @Hw @e1 ?_);refine ο @aA @cz ?_;exact az.N (a+1,D1) ⟨eA,bG,by rw[hCC];exact db,Ck.N (by rw[Ae];intro e;injection e with e;exact RV e)⟩
   have e1:(D1[a] != (lv:Int))=false:=by simpa using RV
   rw[RV]at Ae;have ad8:g[a]?=some g[a]:=zW eA;have bE:=Hn a eA;have qq:=ra g[a] (aeb eA);have uq:=hs.2 g[a] (aeb eA);generalize g[a]=l at*;have ve:de (bX Tryz.prog) 29 (.sl l.length (l.map mi) (T a))=some (.v (.int .i64 l.length)):=bL jr;have yu:(l.map mi).length=l.length:=Ml _;have BT:∀(j:Nat) (y:Int),l[j]?=some y->(l.map mi)[j]?=some (MV.v (.int .i64 y)):=fun j y h=>by rw[Mm,h];rfl
   generalize l.map mi=cs at*;refine θ (iw @aA @db @Ie @Hw @e1 ?_);subst hCC;refine VC.wc [0,5,7,33,34] (fun _:List Int=>[.sl g.length A tk,.bz k 0 g.length c,mi lv,mi g.length,mi a]) (fun D' O'=>O.Ge O'/\O'.hp k=some (.cells (D'.map mi++sp))/\pr g f D' lv a l.length/\D'[a]?=some (lv:Int)) ?_ ?_
   ·refine θ (cJ @aA @bE @ox @ve ?_);refine υ ?_;refine Δ [48] [0,5,7,33,34,46,47] (fun s:Nat×List Int=>[mi s.1]) (fun s O'=>s.1<=l.length/\O.Ge O'/\O'.hp k=some (.cells (s.2.map mi++sp))/\pr g f s.2 lv a s.1/\s.2[a]?=some (lv:Int)) (fun s=>l.length - s.1) ((0,D1)) ?_ ?_
    ·exact⟨VI _,bG,db,Ck,Ae⟩
    clear db bG Ck Ae Ie Hw e1 RV haD;rintro⟨j,D1⟩ O6 ⟨hj,eZ,mQ,Mh,Ae⟩;dsimp only at hj mQ Mh Ae ⊢;by_cases aM:j<l.length;rotate_left
    ·obtain rfl:j=l.length:=by omega
     refine ν @aA ?_;exact aB.mk D1 ⟨eZ,mQ,Mh,Ae⟩
    have cB:((j:Int)+1)=((j+1:Nat):Int):=by omega
    have hx:=qq l[j] (aeb aM);have D5:l[j]?=some l[j]:=zW aM;have o_:=BT j l[j] D5;generalize l[j]=x at*;obtain⟨b,rfl⟩:=ajx hx.1;have o5:b<D1.length:=by rw[Mh.len];omega
    have TL:D1[b]?=some D1[b]:=zW o5
    have Ie:(D1.map mi++sp)[b]?=some (MV.v (.int .i64 D1[b])):=by
     rw[anh (by rw[Ml];exact o5),Mm,TL];rfl
    have Hw:(D1.map mi++sp).length=c:=by rw[Mn,Ml,Mh.len];rw[Mn,Ml,ad7]at fY;exact fY
    have cY:(D1.map mi++sp).set b (.v (.int .i64 ((lv:Int)+1)))=(D1.set b ((lv:Int)+1)).map mi++sp:=by
     rw[List.set_append_left _ _ (by rw[Ml];exact o5),List.map_set];rfl
    have CJ:=fun h=>Mh.skip ad8 D5 h
    have JT:=fun h=>Mh.add ad8 D5 Ae TL h
    have hdb:=Mh.Ty b _ TL;generalize D1[b]=e at*;generalize hCC:D1.map mi++sp=CC at*;refine κ @aA ?_;refine κ @aA ?_;refine ω (υ ?_);refine θ (aH @aA @o_ @yu ?_);by_cases he:e<0;rotate_left
    ·have e1:decide (e<0)=false:=decide_eq_false he;refine ι (iw @aA @mQ @Ie @Hw @e1 ?_);refine ο @aA @cB ?_;exact az.N (j+1,D1) ⟨aM,eZ,by rw[hCC];exact mQ,CJ ⟨e,TL,by omega⟩,Ae⟩
    have e1:decide (e<0)=true:=decide_eq_true he;have hba:b≠a:=fun e'=>by rw[e',Ae]at TL;injection TL with TL;omega
    refine ι (FI @aA @mQ @Ie @Hw @e1 @cY ?_);refine ο @aA @cB ?_;exact az.N (j+1,D1.set b ((lv:Int)+1)) ⟨aM,eZ.set hk _,τ _ _ _,JT he,by rw[ahX hba];exact Ae⟩
   clear db bG Ck Ae Ie Hw e1 RV haD;rintro D1 O6 ⟨eZ,mQ,Mh,Ae⟩;refine ο @aA @cz ?_;exact az.N (a+1,D1) ⟨eA,eZ,mQ,Mh.row ad8 Ae⟩
  clear fb aY hL;rintro D1 O5 ⟨bG,db,Ck⟩;refine ο @aA @sq ?_;exact az.N (lv+1,D1) ⟨qp,bG,db,Ck.up⟩
 rintro _ O9 ⟨bh,D,Tx,Ik,hD⟩;refine VC.freeze 5 (sz:=g.length) rfl Tx (by rw[Mn,Ml];omega) ?_
 have cT:((D.map mi++sp).drop 0).take g.length=D.map mi:=by
  rw[anp,anB (by rw[Ml];omega),ajB (by rw[Ml];omega)]
 rw[cT];generalize hG:D.map mi=G at*;generalize (if c=g.length then Tok.full else Tok.ar)=tf;refine κ @aA ?_;refine ν @aA ?_;exact⟨bh.kill hk,D,tf,by rw[hG],Ik,hD⟩
theorem tI {P:Int->Prop} (C:List Int) (c:Int):(∃x∈C++[c],P x) ↔ (∃x∈C,P x)\/P c:=by
 constructor
 ·rintro⟨x,h,h2⟩;rcases ahY.1 h with h | h
  ·exact .inl ⟨x,h,h2⟩
  ·rw[ahW.1 h]at h2;exact .inr h2
 ·rintro(⟨x,h,h2⟩ | h)
  ·exact⟨x,anj _ h,h2⟩
  ·exact⟨c,by simp,h⟩
set_option maxHeartbeats 8000000 in
theorem Qz (g:List (List Int)) (T:Nat->Tok) (tk:Tok) (C:List Int) (tc:Tok) (O:VH) (hs:xh 1000 g) (ra:BR g) (hC:C.length<=100000):VF Tryz.prog 14 [.sl g.length (bY g T) tk,.sl C.length (C.map mi) tc] O (aE fun m O'=>O.Ge O'/\∃q t,m= .sl (cR q g.length).length ((cR q g.length).map mi) t/\∀x,x<g.length->(q x=true ↔ ∃c∈C,0<=c/\c<(g.length:Int)/\fP g x c.toNat)):=by
 have Ij:=hs.1;have hsb:xh 1000000 g:=⟨hs.1,fun l hl=>ans (hs.2 l hl) (by decide)⟩;have yj:=fun x hx O'=>Zy g T tk x O' hsb ra hx
 obtain⟨q,hq⟩:∃q:Nat->Bool,∀x,q x=true ↔ ∃c∈C,0<=c/\c<(g.length:Int)/\fP g x c.toNat:=⟨fun x=> @decide _ (Classical.propDecidable (∃c∈C,0<=c/\c<(g.length:Int)/\fP g x c.toNat)),fun x=> @decide_eq_true_iff _ (Classical.propDecidable _)⟩
 have eP:de (bX Tryz.prog) 25 (.sl g.length (bY g T) tk)=some (.v (.int .i64 g.length)):=bL zH;have Tz:de (bX Tryz.prog) 29 (.sl C.length (C.map mi) tc)=some (.v (.int .i64 C.length)):=bL jr;have hCm:(C.map mi).length=C.length:=Ml _;have La:∀(j:Nat) (y:Int),C[j]?=some y->(C.map mi)[j]?=some (MV.v (.int .i64 y)):=fun j y h=>by rw[Mm,h];rfl
 generalize bY g T=A at*;generalize C.map mi=CM at*;refine χ 51 [.tmp 4] Tryz.func14 ?_;refine κ @aA ?_;refine κ @aA ?_;refine Ξ [5] (fun t:Tok=>[.sl (cR q g.length).length ((cR q g.length).map mi) t]) (fun _ O'=>O.Ge O') ?_ ?_
 ·refine ξ @aA @eP ?_;refine υ ?_;refine Δ [5,13] [0,1,12] (fun s:Nat×Tok=>[.sl (cR q s.1).length ((cR q s.1).map mi) s.2,mi s.1]) (fun s O'=>s.1<=g.length/\O.Ge O'/\App O' O.N 1 s.2) (fun s=>g.length - s.1) ((0,.nil)) ?_ ?_
  ·exact⟨VI _,VH.Ge.refl _,trivial⟩
  rintro⟨n,t1⟩ O3 ⟨hn,aG,iH⟩;dsimp only at hn iH ⊢;by_cases eJ:n<g.length;rotate_left
  ·obtain rfl:n=g.length:=by omega
   refine ν @aA ?_;exact aB.mk t1 aG
  have cW:((n:Int)+1)=((n+1:Nat):Int):=by omega
  have tY:=yj n eJ O3;rw[aq]at tY;have uM:=uL q n;have Pp:=ma q n;have hqn:=hq n;generalize q n=qn at*;generalize cR q n=P at*;refine κ @aA ?_;refine κ @aA ?_;refine ω (υ ?_);refine κ @aA ?_;refine κ @aA ?_;refine π tY ?_;rintro _ O4 ⟨aY,D,td,rfl,Ik,hD⟩;have Zu:(D.map mi).length=g.length:=by rw[Ml,Ik]
  have hgD:∀(j:Nat) (y:Int),D[j]?=some y->(D.map mi)[j]?=some (MV.v (.int .i64 y)):=fun j y h=>by rw[Mm,h];rfl
  generalize D.map mi=DM at*;refine ab @aA ?_;refine κ @aA ?_;refine Ξ [0,1,5,6,8,12,13] (fun _:Unit=>[.sl g.length A tk,.sl C.length CM tc,.sl P.length (P.map mi) t1,mi n,mb qn,mi g.length,mi n]) (fun _ O'=>O'=O4) ?_ ?_
  ·refine ξ @aA @Tz ?_;refine υ ?_;refine Δ [8,21] [0,1,5,6,7,12,13,19,20] (fun s:Bool×Nat=>[mb s.1,mi s.2]) (fun s O'=>s.2<=C.length/\O'=O4/\(s.1=true ↔ ∃c∈C.take s.2,0<=c/\c<(g.length:Int)/\fP g n c.toNat)) (fun s=>C.length - s.2) ((false,0)) ?_ ?_
   ·exact⟨VI _,rfl,(fun h=>by cases h),fun⟨c,h,_⟩=>by simp at h⟩
   rintro⟨b,j⟩ Ox ⟨hj,eO,hb⟩;rw[eO];clear eO Ox
   dsimp only at hj hb ⊢;by_cases aM:j<C.length;rotate_left
   ·obtain rfl:j=C.length:=by omega
    rw[aed, <-hqn]at hb;have:b=qn:=by cases b<;>cases qn<;>simp_all
    subst this;refine ν @aA ?_;exact aB.mk () rfl
   have cB:((j:Int)+1)=((j+1:Nat):Int):=by omega
   have hCj:C[j]?=some C[j]:=zW aM;have o_:=La j _ hCj;have cT:C.take (j+1)=C.take j++[C[j]]:=by rw[aee aM]
   generalize C[j]=c at*;refine κ @aA ?_;refine κ @aA ?_;refine ω (υ ?_);refine θ (aH @aA @o_ @hCm ?_);cases b;rotate_left
   ·refine ν @aA ?_;refine ο @aA @cB ?_;refine az.N (true,j+1) ⟨aM,rfl,?_⟩;rw[cT,tI];exact⟨fun _=>.inl (hb.1 rfl),fun _=>rfl⟩
   have lK:¬ ∃c∈C.take j,0<=c/\c<(g.length:Int)/\fP g n c.toNat:=fun h=>by have:=hb.2 h;cases this
   by_cases h0:0<=c;rotate_left
   ·have e1:decide (0<=c)=false:=decide_eq_false h0;have e2:decide (c>=0)=false:=e1;refine ι (aH @aA @e1 @e2 ?_);refine ο @aA @cB ?_;refine az.N (false,j+1) ⟨aM,rfl,?_⟩;rw[cT,tI];exact⟨(fun h=>by cases h),fun h=>h.elim (fun h=>absurd h lK) fun h=>absurd h.1 h0⟩
   have e1:decide (0<=c)=true:=decide_eq_true h0;have e2:decide (c>=0)=true:=e1;by_cases h1:c<(g.length:Int);rotate_left
   ·have e3:decide (c<(g.length:Int))=false:=decide_eq_false h1;refine ι (iw @aA @e1 @e2 @eP @e3 ?_);refine ο @aA @cB ?_;refine az.N (false,j+1) ⟨aM,rfl,?_⟩;rw[cT,tI];exact⟨(fun h=>by cases h),fun h=>h.elim (fun h=>absurd h lK) fun h=>absurd h.2.1 h1⟩
   have e3:decide (c<(g.length:Int))=true:=decide_eq_true h1;obtain⟨k,rfl⟩:=ajx h0;have Mb:D[k]?=some D[k]:=zW (by omega);have gR:=hgD k _ Mb
   have hDr:0<=D[k] ↔ fP g n k:=by
    rw[<-hD k];exact⟨fun h=>⟨_,Mb,h⟩,fun⟨d,h1,h2⟩=>by rw[Mb]at h1;injection h1 with h1;omega⟩
   generalize D[k]=d at*;by_cases Hp:0<=d
   ·have e4:decide (0<=d)=true:=decide_eq_true Hp;have e5:decide (d>=0)=true:=e4;refine ι (Xz @aA @e1 @e2 @eP @e3 (ZA gR Zu) (ZA e4 e5) ?_);refine ο @aA @cB ?_;refine az.N (true,j+1) ⟨aM,rfl,?_⟩;rw[cT,tI];exact⟨fun _=>.inr ⟨h0,h1,by rw[ang];exact hDr.1 Hp⟩,fun _=>rfl⟩
   ·have e4:decide (0<=d)=false:=decide_eq_false Hp;have e5:decide (d>=0)=false:=e4;refine ι (Xz @aA @e1 @e2 @eP @e3 (ZA gR Zu) (ZA e4 e5) ?_);refine ο @aA @cB ?_;refine az.N (false,j+1) ⟨aM,rfl,?_⟩;rw[cT,tI];exact⟨(fun h=>by cases h),fun h=>h.elim (fun h=>absurd h lK) fun h=>absurd (hDr.2 (by have:=h.2.2;rwa [ang]at this)) Hp⟩
  rintro _ Ox eO;rw[eO];clear eO Ox
  have ad9:=aG.trans aY;have fb:=iH.ge aY;cases qn
  ·rw[if_neg (by decide),ame]at uM;refine ν @aA ?_;refine ο @aA @cW ?_;exact az.N (n+1,t1) ⟨eJ,ad9,fb⟩ (hl:=by dsimp only;rw[uM];rfl)
  ·rw[if_pos rfl]at uM;have jB:=aT (tk:=t1) (tk':=.full) (n:=P.length) (k:=1) (cs:=P.map mi) (ds:=[.v (.int .i64 n)]) jr T3 fb (by rw[Ml,ana]) rfl rfl (by decide) (by decide) (by omega) (by simp only[maxLen];omega);refine ν @aA ?_;refine VL.app jB ?_;refine ab @aA ?_;refine ο @aA @cW ?_;exact az.N (n+1,.own O4.N 1) ⟨eJ,cc.ee ad9 fb (cc.after fb),App.after ad9.N⟩ (hl:=by dsimp only;rw[uM,Mn,ajw];rfl)
 rintro t O9 bh;refine κ @aA ?_;refine ν @aA ?_;exact⟨bh,q,t,rfl,fun x _=>hq x⟩
def QA (g:List (List Int)):Bool:=decide (g.length<=30)&&g.all fun l=>decide (l.length<=40)
theorem agt {g:List (List Int)} (h:QA g=true):xh 1000 g:=by
 unfold QA at h;rw[anx,decide_eq_true_eq,anw]at h;exact⟨by omega,fun l hl=>by have:=h.2 l hl;rw[decide_eq_true_eq]at this;omega⟩
set_option maxHeartbeats 4000000 in
theorem TM (g:List (List Int)) (T:Nat->Tok) (tk:Tok) (O:VH) (hg:g.length<=maxLen) (hr:∀l∈g,l.length<=maxLen):VF Tryz.prog 10 [.sl g.length (bY g T) tk] O (aE fun m O'=>m=mb (QA g)/\O'=O):=by
 have eP:de (bX Tryz.prog) 25 (.sl g.length (bY g T) tk)=some (.v (.int .i64 g.length)):=bL zH;have ox:=jn g T;have Hn:=fun u h=>l_ g T (u:=u) h
 simp only[maxLen]at hg hr;generalize bY g T=A at*;refine χ 18 [.tmp 2] Tryz.func10 ?_;refine κ @bt ?_;by_cases h30:g.length<=30;rotate_left
 ·have e1:decide ((g.length:Int)>30)=true:=decide_eq_true (by omega);have e2:decide ((30:Int)<g.length)=true:=e1;have:QA g=false:=by unfold QA;rw[decide_eq_false h30,Bool.false_and]
  rw[this];refine θ (cJ @bt @eP @e1 @e2 ?_);trivial
 have e1:decide ((g.length:Int)>30)=false:=decide_eq_false (by omega);have e2:decide ((30:Int)<g.length)=false:=e1;have hlg:QA g=g.all fun l=>decide (l.length<=40):=by unfold QA;rw[decide_eq_true h30,Bool.true_and]
 rw[hlg];refine θ (cJ @bt @eP @e1 @e2 ?_);refine Ξ [] (fun _:Unit=>[]) (fun _ O'=>O'=O/\(g.all fun l=>decide (l.length<=40))=true) ?_ ?_
 ·refine ξ @bt @eP ?_;refine υ ?_;refine Δ [10] [8,9] (fun i:Nat=>[mi i]) (fun i O'=>O'=O/\i<=g.length/\((g.take i).all fun l=>decide (l.length<=40))=true) (fun i=>g.length - i) (0) ?_ ?_
  ·exact⟨rfl,VI _,rfl⟩
  rintro i Ox ⟨eO,hi,dh⟩;rw[eO];clear eO Ox
  by_cases dA:i<g.length;rotate_left
  ·obtain rfl:i=g.length:=by omega
   rw[aed]at dh;refine ν @bt ?_;exact aB.mk () ⟨rfl,dh⟩
  have mH:((i:Int)+1)=((i+1:Nat):Int):=by omega
  have bE:=Hn i dA;have cT:g.take (i+1)=g.take i++[g[i]]:=by rw[aee dA]
  have ra:=aeb dA;have uq:=hr _ ra;generalize g[i]=l at*;have ve:de (bX Tryz.prog) 29 (.sl l.length (l.map mi) (T i))=some (.v (.int .i64 l.length)):=bL jr;generalize l.map mi=cs at*;refine κ @bt ?_;refine κ @bt ?_;refine ω (υ ?_);refine θ (aH @bt @bE @ox ?_);by_cases h40:l.length<=40
  ·have f1:decide ((l.length:Int)>40)=false:=decide_eq_false (by omega);have f2:decide ((40:Int)<l.length)=false:=f1;refine ι (cJ @bt @ve @f1 @f2 ?_);refine ο @bt @mH ?_;refine az.N (i+1) ⟨rfl,dA,?_⟩;rw[cT,List.all_append,dh,anS];simpa using h40
  ·have f1:decide ((l.length:Int)>40)=true:=decide_eq_true (by omega);have f2:decide ((40:Int)<l.length)=true:=f1
   have:(g.all fun l=>decide (l.length<=40))=false:=by
    rw[ano];intro h;have:=anw.1 h l ra;rw[decide_eq_true_eq]at this;exact h40 this
   rw[this];refine ι (cJ @bt @ve @f1 @f2 ?_);trivial
 rintro _ Ox ⟨eO,hm⟩;rw[eO];clear eO Ox
 rw[hm];refine ν @bt ?_;trivial
set_option maxHeartbeats 4000000 in
theorem Zz (g:List (List Int)) (T:Nat->Tok) (tk:Tok) (C:List Int) (tc:Tok) (O:VH) (hg:g.length<=maxLen) (hr:∀l∈g,l.length<=maxLen) (hC:C.length<=maxLen):VF Tryz.prog 4 [.sl g.length (bY g T) tk,.sl C.length (C.map mi) tc] O (aE fun m O'=>m=mb true):=by
 have hli:=TM g T tk O hg hr;have Tz:de (bX Tryz.prog) 29 (.sl C.length (C.map mi) tc)=some (.v (.int .i64 C.length)):=bL jr;simp only[maxLen]at hC;obtain⟨A,hA⟩:∃A,A=bY g T:=⟨_,rfl⟩
 obtain⟨CM,hCM⟩:∃CM,CM=C.map mi:=⟨_,rfl⟩
 rw[<-hA]at hli ⊢;rw[<-hCM]at Tz ⊢;refine χ 35 [.tmp 4] Tryz.func4 ?_;refine κ @bt ?_;refine κ @bt ?_;refine π hli ?_;rintro _ O1 ⟨rfl,e1⟩;rw[e1];clear e1 O1 hli
 cases hl:QA g
 ·refine ab @bt ?_;refine π (BZ _) ?_;rintro _ O9 rfl;simp only[bu];refine ab @bt ?_;trivial
 have RY:=agt hl;have hsb:xh 1000000 g:=⟨RY.1,fun l hl=>ans (RY.2 l hl) (by decide)⟩;by_cases h40:C.length<=40;rotate_left
 ·have f1:decide ((C.length:Int)>40)=true:=decide_eq_true (by omega);have f2:decide ((40:Int)<C.length)=true:=f1;refine cJ @bt @Tz @f1 @f2 ?_;refine π (BZ _) ?_;rintro _ O9 rfl;simp only[bu];refine ab @bt ?_;trivial
 have f1:decide ((C.length:Int)>40)=false:=decide_eq_false (by omega);have f2:decide ((40:Int)<C.length)=false:=f1;have n0:=Hq g T tk C tc O RY (by omega);have jx:=fun O' h=>Qz g T tk C tc O' RY h (by omega)
 have hmy:=fun O'=>Zx g T tk O' hsb
 rw[<-hA, <-hCM]at n0;simp only[<-hA, <-hCM]at jx hmy;refine cJ @bt @Tz @f1 @f2 ?_;refine κ @bt ?_;refine π n0 ?_;rintro m O1 ⟨aJ,hm⟩;rcases hm with⟨Zv,q,t,rfl,hq⟩ | ⟨Zv,t,rfl⟩
 ·refine ab @bt ?_;refine κ @bt ?_;refine π (hmy O1) ?_;rintro _ O2 ⟨rfl,e2⟩;rw[e2,Zv];clear e2 O2
  refine ab @bt ?_;refine κ @bt ?_;refine π (jx O1 ((jR g).1 Zv)) ?_;rintro _ O3 ⟨aG,q2,t2,rfl,si⟩
  have hqq:cR q2 g.length=cR q g.length:=DF fun x hx=>by
   rw[anL,si x hx,hq x hx]
  rw[hqq];have nJ:=Zp (cR q g.length) t t2 O3 (by have:=ma q g.length;have:=RY.1;omega);generalize cR q g.length=I at*;generalize I.map mi=IM at*;refine ab @bt ?_;refine π nJ ?_;rintro _ O4 ⟨rfl,e4⟩;rw[e4];clear e4 O4
  refine ab @bt ?_;refine π (BZ _) ?_;rintro _ O9 rfl;simp only[bu];refine ab @bt ?_;refine ν @bt ?_;trivial
 ·have DQ:de (bX Tryz.prog) 29 (.sl 0 [] t)=some (.v (.int .i64 0)):=bL jr;refine ab @bt ?_;refine κ @bt ?_;refine π (hmy O1) ?_;rintro _ O2 ⟨rfl,e2⟩;rw[e2,Zv];clear e2 O2
  have e0:((0:Int)==0)=true:=rfl;refine aH @bt @DQ @e0 ?_;refine π (BZ _) ?_;rintro _ O9 rfl;simp only[bu];refine ab @bt ?_;trivial
theorem Mi:∀l:List Int,(l.flatMap fun n=>[MV.v (.int .i64 n)])=l.map mi
 | []=>rfl
 | x::r=>by rw[anI,Mi r];rfl
def ad_ (y:List (List Int×Tok)) (u:Nat):Tok:=match y[u]? with
 | some r=>r.2
 | none=>.nil
theorem aea (y:List (List Int×Tok)):(y.flatMap fun r=>[MV.sl r.1.length (r.1.flatMap fun n=>[MV.v (.int .i64 n)]) r.2])=bY (y.map (·.1)) (ad_ y):=by
 have e:(y.flatMap fun r=>[MV.sl r.1.length (r.1.flatMap fun n=>[MV.v (.int .i64 n)]) r.2])=y.map fun r=>MV.sl r.1.length (r.1.map mi) r.2:=by
  induction y with
  | nil=>rfl
  | cons r y ih=>rw[anI,ih,Mi];rfl
 rw[e];refine anH fun i=>?_
 by_cases hi:i<y.length
 ·rw[Mm,zW hi,l_ _ _ (by rw[Ml];exact hi),List.getElem_map];unfold ad_;rw[zW hi];rfl
 ·rw[ahZ (by rw[Ml];omega),ahZ (by rw[jn,Ml];omega)]
theorem J5 (y:List (List Int×Tok)×Tok) (z:List Int×Tok) (O:VH) (hy:(∀r∈y.1,(∀n∈r.1,InK .i64 n)/\r.1.length<=maxLen)/\y.1.length<=maxLen) (hz:(∀n∈z.1,InK .i64 n)/\z.1.length<=maxLen):
  VF Tryz.prog 4 [.sl y.1.length (y.1.flatMap fun r=>[.sl r.1.length (r.1.flatMap fun n=>[.v (.int .i64 n)]) r.2]) y.2,.sl z.1.length (z.1.flatMap fun n=>[.v (.int .i64 n)]) z.2] O (aE fun m O'=>m=mb true):=by
 have h:=Zz (y.1.map (·.1)) (ad_ y.1) y.2 z.1 z.2 O (by rw[Ml];exact hy.2) (fun l hl=>by
  obtain⟨r,hr,rfl⟩:=ane.1 hl;exact(hy.1 r hr).2) hz.2
 rw[Ml, <-aea, <-Mi]at h;exact h
end Go.Proofs.YtjpadehgejlebaaGreatDoor
