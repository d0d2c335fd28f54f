import Derived.Test.YtoclnkfdahmnhaaGreatDoorME
set_option linter.unusedVariables false
set_option linter.unusedSimpArgs false
namespace Go.Proofs.YtoclnkfdahmnhaaGreatDoor
open Go.RowKit
open _root_.List renaming nil_append → yP, cons_append → Km, length_nil → RZ, getElem?_eq_getElem → TP, length_cons → XN, getElem?_eq_some_iff → XO, flatMap_nil → acs, length_append → acu, mem_cons_self → acv, mem_cons_of_mem → ags, length_map → agt, mem_singleton → agu, append_assoc → agv, getD_eq_getElem?_getD → agw, map_eq_nil_iff → agx, take_append_getElem → ahY, mem_append → ah0, mem_map → ah3, not_mem_nil → ah5, append_nil → ah6, mem_cons → alD, eq_nil_of_length_eq_zero → alE, flatMap_singleton → alF, contains_iff_mem → alG, getElem?_map → alI, length_singleton → alJ, getElem_mem → alK, drop_eq_getElem_cons → alL, take_of_length_le → alQ, map_cons → alS, singleton_append → alT, take_succ_cons → alU, flatMap_append → alV, getElem?_append_left → alW, flatMap_cons → alX, pairwise_iff_getElem → alZ, contains_eq_any_beq → al0, all_eq_true → al2, any_eq_true → al3, take_length → al4, length_set → al9, zip_append → amc, drop_drop → ame, any_cons → amj
open _root_.Nat renaming le_refl → acw, lt_of_lt_of_le → agr, le_trans → ah1, mul_le_mul_right → akF, zero_le → alC, le_of_ble_eq_true → alH, zero_add → alN, le_succ_of_le → alO, lt_succ_self → alR, le_of_eq → al7, add_zero → al8, min_eq_left → ama
open _root_.And renaming intro → Kn
open _root_.Option renaming getD_some → al1
open _root_.Int renaming toNat_natCast → alP
open _root_.Bool renaming false_and → ahX, true_and → ahZ, false_eq_true → ah2, or_eq_true_iff → ah4, and_eq_true_iff → ah7, eq_iff_iff → alM, and_true → alY, and_eq_true → al5, and_false → amf, false_or → ami, or_false → amk
set_option maxRecDepth 10000
set_option linter.defProp false in
def aP:=Kn cN<|Kn b_<|Kn ae6<|Kn ae5<|Kn ae9<|Kn SB T58
section
variable {P:Program} {n:Sz} {D:List Deferred} {ops:Array Oper} {e:Env} {O:VH} {Q:VQ}
theorem ab.abi {brk:List Nat} {Ψ :Gh->Prop} {J:VH->Prop} {Z:Prop} {fuel i j k:Nat} {listed:Array Bool}
  (h1:aK P n D ops i e O Q fun e' O'=>J O'/\ab P n D ops brk J Ψ Z fuel (listed.setIfInBounds i true) e' O' Q) (h2:aK P n D ops j e O Q fun e' O'=>J O'/\ab P n D ops brk J Ψ Z fuel (listed.setIfInBounds j true) e' O' Q)
  (h3:aK P n D ops k e O Q fun e' O'=>J O'/\ab P n D ops brk J Ψ Z fuel (listed.setIfInBounds k true) e' O' Q) (hr:Region.ready .any ops listed=[i,j,k]:=by kernel_rfl):ab P n D ops brk J Ψ Z (fuel+1) listed e O Q:=by
 intro hΨ hZ hJ G a w hψ hw aU
 have key:∀x,(aK P n D ops x e O Q fun e' O'=>J O'/\ab P n D ops brk J Ψ Z fuel (listed.setIfInBounds x true) e' O' Q)->wpOp P ops (cz G n D Q) x (fun a' w'=>TE brk G J x w'/\je P .any ops (cz G n D Q) (TE brk G J) fuel (listed.setIfInBounds x true) a' w') a w:=fun x h=>
  wpOp_mono (fun a' w' ⟨e',O',H,h1,h2,h3,h4,h5⟩=>⟨TE.mk ⟨H,O',h1,h2,h4⟩,jH (fun _ _ _=>cz.le h1) _ _ _ _ (fun k _ x hT=>hT.le h1) (h5 hΨ hZ h4 H a' w' (hΨ _ _ h1 hψ) h2 h3)⟩) (h G a w hw aU)
 refine jG hr (by simp) fun x hx=>?_
 simp only[alD,ah5,or_false]at hx;rcases hx with rfl | rfl | rfl
 ·exact key _ h1
 ·exact key _ h2
 ·exact key _ h3
end
theorem Ds {F O3:VH} {B sz pb og:Nat} {tk:Tok} {X gc:cf} (cC:App F B sz tk) (hB:O3.next<=B) (nO:pb<O3.next) (hog:og<O3.next) (j:F.hp pb=some X/\F.hp og=some gc/\O3.next<=F.next/\∀i,i<O3.next->i≠pb->F.hp i=O3.hp i):(F.after tk).hp pb=some X/\(F.after tk).hp og=some gc/\O3.next<=(F.after tk).next/\∀i,i<O3.next->i≠pb->(F.after tk).hp i=O3.hp i:=by
 have JN:=cL.after cC;have hs:∀i,i<O3.next->(F.after tk).hp i=F.hp i:=fun i h=>JN.hp i (agr h j.2.2.1) (fun e=>by have:=(App.n8 cC e).1;omega)
 exact⟨(hs _ nO).trans j.1,(hs _ hog).trans j.2.1,ah1 j.2.2.1 JN.next,fun i h1 h2=>(hs i h1).trans (j.2.2.2 i h1 h2)⟩
theorem AN {ops:Array Oper} {listed:Array Bool} {i:Nat}:∀{k m:Nat},k<=m->∀j,j∈kD ops listed i k->j∈kD ops listed i m
 | 0,_,_,j,h=>by cases h
 | k+1,0,hm,j,h=>by omega
 | k+1,m+1,hm,j,h=>by
   have ih:=AN (ops:=ops) (listed:=listed) (i:=i) (k:=k) (m:=m) (by omega);rw[kD,List.mem_filter]at h ⊢;refine⟨h.1,?_⟩;obtain⟨h1,h2⟩:=ah7.1 h.2;refine ah7.2 ⟨h1,?_⟩;cases ho:ops[j]? with
   | none=>rw[ho]at h2;cases h2
   | some o=>
     rw[ho]at h2;simp only[Option.map_some,al1,Array.any_eq_true']at h2 ⊢;obtain⟨e,he,h3⟩:=h2;obtain⟨h4,h5⟩:=ah7.1 h3;refine⟨e,he,ah7.2 ⟨h4,?_⟩⟩;rcases ah4.1 h5 with h6 | h6
     ·exact ah4.2 (.inl h6)
     ·exact ah4.2 (.inr (alG.2 (ih _ (alG.1 h6))))
theorem AO {ops:Array Oper} {brk:List Nat} {listed:Array Bool} {i:Nat} (k:Nat) (hk:k<=ops.size) (h:(brk.all fun j=>listed.getD j true||j==i||(kD ops listed i k).contains j)=true):nI ops brk listed i=true:=by
 unfold nI;rw[al2]at h ⊢;intro j hj;have:=h j hj;rcases ah4.1 this with h1 | h1
 ·exact ah4.2 (.inl h1)
 ·exact ah4.2 (.inr (alG.2 (AN hk _ (alG.1 h1))))
theorem flW (t b n:Nat) (cs:List MV) (tk:Tok) (x1 x2 x3 y1 y2 y3 y4 y5 y6 y7 y8 y9 y10 y11:MV):Gi (k9 [(0,1),(1,1),(2,3),(5,11),(16,1)]) [.v (.pointer none),.v (.pointer none),.str [],.str [],.str [],.v (.bool false),.str [],.str [],.str [],.str [],.str [],.str [],.str [],.sl 0 [] .nil,.sl 0 [] .nil,.sl 0 [] .nil,.sl 0 [] .nil] (.ptr t 0) [(1,.ptr b 0),(2,.agg [x1,x2,x3]),(3,.agg [y1,y2,y3,y4,y5,y6,y7,y8,y9,y10,y11]),(4,.sl n cs tk)] (some (0,1))=some [.ptr t 0,.ptr b 0,x1,x2,x3,y1,y2,y3,y4,y5,y6,y7,y8,y9,y10,y11,.sl n cs tk]:=by kernel_rfl
structure MS (O:VH) (wb mB:Nat) (W cs:List MV) (O':VH):Prop where
 ge:O.Ge O'
 w:O'.hp wb=some (.cells W)
 m:O'.hp mB=some (.cells cs)
 w0:O.next<=wb
 wl:wb<O'.next
 m0:O.next<=mB
 ml:mB<O'.next
 ne:wb≠mB
theorem MS.go {O O' O2:VH} {wb mB:Nat} {W cs:List MV} (h:MS O wb mB W cs O') (g:O'.Ge O2):MS O wb mB W cs O2:=
 ⟨h.ge.trans g,(g.hp _ h.wl).trans h.w,(g.hp _ h.ml).trans h.m,h.w0,agr h.wl g.next,h.m0,agr h.ml g.next,h.ne⟩
theorem MS.st {O O':VH} {wb mB:Nat} {W cs cs':List MV} (h:MS O wb mB W cs O'):MS O wb mB W cs' (O'.set mB (.cells cs')):=
 ⟨h.ge.set h.m0 _,(VH.ak _ _ h.ne).trans h.w,VH.an _ _ _,h.w0,h.wl,h.m0,h.ml,h.ne⟩
theorem VC.ms {P:Program} {n:Sz} {D:List Deferred} {c:Code} {e:Env} {Q:VQ} {O O':VH} {wb mB:Nat} {W cs cs':List MV} (h:MS O wb mB W cs O') (k:∀O2,MS O wb mB W cs' O2->(∀i,i≠mB->O2.hp i=O'.hp i)->O2.next=O'.next->VC P n D c e O2 Q):VC P n D c e (O'.set mB (.cells cs')) Q:=k _ h.st (fun i hi=>VH.ak _ _ hi) rfl
theorem MS.mv {O O' O2:VH} {wb mB tb kd:Nat} {W cs:List MV} (h:MS O wb mB W cs O') (hn:O'.next<=O2.next) (hf:∀i,i<O'.next->i≠tb->i≠kd->O2.hp i=O'.hp i) (h1:O.next<=tb) (h2:O.next<=kd) (h3:tb≠wb) (h4:kd≠wb) (h5:tb≠mB) (h6:kd≠mB):MS O wb mB W cs O2:=by
 have hl:=h.ge.next;have hw:=h.wl;have hm:=h.ml;exact⟨⟨by omega,fun i hi=>(hf i (by omega) (by omega) (by omega)).trans (h.ge.hp i hi)⟩,(hf _ hw (Ne.symm h3) (Ne.symm h4)).trans h.w,(hf _ hm (Ne.symm h5) (Ne.symm h6)).trans h.m,h.w0,by omega,h.m0,by omega,h.ne⟩
theorem Ri {O OF:VH} {k ke kv ce cv md q c:Nat} {L:List (Gv×Bs×Option Pm)} {E V:fy} {r a r' a':Int} (h:nr O k L E V ke kv ce cv r a) {i:Nat} {g:Gv} {t:Bs} {p:Pm} {es:uB} {cm:Nat} (hi:L[i]?=some (g,t,none)) (hE:E[i]?=some (eJ g,.ptr q 0,c)) (hk:OF.hp k=some (.cells [.map ke,.map kv,mi r',mi a']))
  (hq:OF.hp q=some (.cells (ja t 1 0 p iZ))) (hn:O.next<=OF.next) (hf:∀j,j<O.next->j≠k->j≠q->j≠md->OF.hp j=O.hp j) (hmd:O.hp md=some (.map es cm)) (lY:md≠ke/\md≠kv):nr OF k (L.set i (g,t,some p)) E V ke kv ce cv r' a':=by
 obtain⟨q2,c2,e1,oc,Np⟩:=h.JC i g t none hi;rw[hE]at e1;injection e1 with e1;injection e1 with _ e1;injection e1 with e1 _;injection e1 with e1 _
 subst e1;have ew:=h.st.lt;have hke:ke≠q:=fun e=>by have:=h.st.CA;rw[e,Np]at this;cases this
 have C9:kv≠q:=fun e=>by have:=h.st.HY;rw[e,Np]at this;cases this
 have hli:=(XO.1 hi).1;refine⟨⟨hk,(hf _ ew.2.1 (Ne.symm h.st.ne.1) hke (Ne.symm lY.1)).trans h.st.CA,(hf _ ew.2.2 (Ne.symm h.st.ne.2.1) C9 (Ne.symm lY.2)).trans h.st.HY,h.st.MG,h.st.vok,h.st.ptr,⟨by omega,by omega,by omega⟩,h.st.ne⟩,by rw[al9];exact h.len,fun j g' t' o hj=>?_,h.dis,?_⟩
 ·by_cases e:i=j
  ·subst e;rw[List.getElem?_set_self hli]at hj;injection hj with hj;simp only[Prod.mk.injEq]at hj;obtain⟨rfl,rfl,rfl⟩:=hj;exact⟨q,c,hE,by omega,hq⟩
  ·rw[List.getElem?_set_ne e]at hj;obtain⟨q',c',k1,k2,k3⟩:=h.JC j g' t' o hj;refine⟨q',c',k1,by omega,(hf q' k2 (fun e2=>?_) (fun e2=>?_) (fun e2=>?_)).trans k3⟩
   ·rw[e2,h.st.cell]at k3;injection k3 with k3;injection k3 with k3
    cases o<;>cases k3
   ·subst e2;exact e (h.dis i j _ _ q' hE k1 rfl rfl)
   ·rw[e2,hmd]at k3;cases k3
 ·rw[al9];refine h.ver.mv hn fun j hj e=>(hf j hj (fun e2=>?_) (fun e2=>?_) (fun e2=>?_)).trans e
  ·rw[e2,h.st.cell]at e;cases e
  ·rw[e2,Np]at e;cases e
  ·rw[e2,hmd]at e;cases e
theorem oQ.off {O O':VH} {tb kr kd mB:Nat} {L:List (Bs×Bs)} {R D:uo} {cr cd:Nat} {tk:Tok} {kn:Int} (h:oQ O tb kr kd L R D cr cd tk kn) (hi:∀i,i≠mB->O'.hp i=O.hp i) (hn:O'.next=O.next) (h1:tb<mB) (h2:kr<mB) (h3:kd<mB):oQ O' tb kr kd L R D cr cd tk kn:=
 ⟨(hi _ (by omega)).trans h.cell,(hi _ (by omega)).trans h.raw,(hi _ (by omega)).trans h.done,by rw[hn];exact h.lt,h.ne⟩
theorem Wk.mdl (a1 a2 a3 a4:MV) (n1 n2 n3:Nat) (c1 c2 c3:List MV) (t1 t2 t3:Tok):eS [a1,a2,a3,a4,.sl n1 c1 t1,.sl n2 c2 t2,.sl n3 c3 t3] [a1,a2,a3,a4,.sl n1 c1 .ar,.sl n2 c2 .ar,.sl n3 c3 .ar]:=
 by repeat' first
  | exact eS.refl _
  | exact Wk.refl _
  | exact Wk.tok
  | refine eS.cons ?_ ?_
theorem AP {O:VH} {tb kr kd b:Nat} {X:cf} {L:List (Bs×Bs)} {R D:uo} {cr cd:Nat} {tk:Tok} {kn:Int} (h:oQ O tb kr kd L R D cr cd tk kn) (h1:tb≠b) (h2:kr≠b) (h3:kd≠b):oQ (O.set b X) tb kr kd L R D cr cd tk kn:=
 ⟨(VH.ak _ _ h1).trans h.cell,(VH.ak _ _ h2).trans h.raw,(VH.ak _ _ h3).trans h.done,h.lt,h.ne⟩
theorem tu {F:VH} {B sz:Nat} {t7:Tok} (cC:App F B sz t7) {tb kr kd:Nat} {L:List (Bs×Bs)} {R D:uo} {cr cd:Nat} {tk:Tok} {kn:Int} (h:oQ F tb kr kd L R D cr cd tk kn):oQ (F.after t7) tb kr kd L R D cr cd tk kn:=by
 have hn:=(cL.after cC).next;have hl:=h.lt;exact⟨(App.off cC hl.1 (by rw[h.cell];simp)).trans h.cell,(App.off cC hl.2.1 (by rw[h.raw];simp)).trans h.raw,(App.off cC hl.2.2 (by rw[h.done];simp)).trans h.done,by omega,h.ne⟩
abbrev mI:List MV:=[.str [],.str [],.str [],.str [],.sl 0 [] .nil,.sl 0 [] .nil,.sl 0 [] .nil]
set_option maxHeartbeats 4000000 in
theorem abj {O:VH} {bb md k ke kv ce cv:Nat} {MD:fy} {cm:Nat} {L:List (Gv×Bs×Option Pm)} {E V:fy} {r a:Int} (hB:Rh O bb md k MD cm) (h:nr O k L E V ke kv ce cv r a) {i:Nat} {g:Gv} {t:Bs} {n:Nd} {p:Pm} (hi:L[i]?=some (g,t,none)) (hg:tf g) (ht:t.length<=65536) (hb:ie t= .ok n) (hr:oL n= .ok p) (hq:PmQ p g) (fG:jk (eJ g) MD=none) (lY:md≠ke/\md≠kv):
  VF Tryz.prog 90 [.ptr bb 0,.agg (bW g),.sl 0 [] .nil] O (aE fun m O'=>m= .agg (lI (iN g p))/\∃q c,E[i]?=some (eJ g,.ptr q 0,c)/\(∃r' a',nr O' k (L.set i (g,t,some p)) E V ke kv ce cv r' a')/\Rh O' bb md k (MD++[(eJ g,.agg (lI (iN g p)),cm)]) (cm+1)/\O.next<=O'.next/\∀j,j<O.next->j≠k->j≠q->j≠md->O'.hp j=O.hp j):=by
 have Db:=fun(O':VH) (g':O.Ge O')=>WN (h.ge g') hi hg ht hb hr hq.c
 have Iw:=vG hg;have hBc:=fun(O':VH) (g':O.Ge O')=>(hB.ge g')
 obtain⟨g1,g2,g3⟩:=g;simp only[bW,gC,pd,iZ,aq,a_]at Db;simp only[bW];refine VF.bN 120 [.cell 6 169] Tryz.func90 ?_;refine VC.ag aa (ae @aP ?_);refine VC.gen ?_;intro O1 e1;obtain⟨aM,cW,cJ,cA⟩:=gj _ _ e1;clear e1;have nA:=hBc O1 aM;have hlB:=hB.lt;refine VC.bC [0,2,4,6,8] (fun _:Unit=>[.ptr bb 0,.sl 0 [] .nil,.ptr O.next 0,.ptr (O.next+1) 0,mb false]) (fun _ O'=>O1.Ge O') ?_ ?_
 ·refine VC.bB ?_;refine VC.s8 [11] (fun O'=>O'.hp bb=some (.cells [.ptr k 0,.map md])/\O'.hp O.next=some (.cells [.str g1,.str g2,.str g3])/\O1.Ge O') (⟨nA.cell,cJ,VH.Ge.refl _⟩) ?_;refine ab.av 0 ?_;refine ae @aP ?_;refine ab.av 1 ?_;refine ae @aP ?_;refine ab.av 2 ?_;refine ae @aP ?_;refine ab.mP (m:=.map md) 3 ?_ ?_
  ·rintro O2 ⟨j0,j1,j2⟩;exact dq @aP @j0
  simp only[aj];refine ab.mP (m:=.agg [.str g1,.str g2,.str g3]) 4 ?_ ?_
  ·rintro O2 ⟨j0,j1,j2⟩;exact dq @aP @j1
  simp only[aj];have kX:∀A B:VH,A.Ge B->(A.hp bb=some (.cells [.ptr k 0,.map md])/\A.hp O.next=some (.cells [.str g1,.str g2,.str g3])/\O1.Ge A)->(B.hp bb=some (.cells [.ptr k 0,.map md])/\B.hp O.next=some (.cells [.str g1,.str g2,.str g3])/\O1.Ge B):=fun A B g h=>⟨(g.hp _ (by have:=h.2.2.next;have:=nA.lt;omega)).trans h.1,(g.hp _ (by have:=h.2.2.next;omega)).trans h.2.1,h.2.2.trans g⟩
  have ns:O1.hp bb=some (.cells [.ptr k 0,.map md])/\O1.hp O.next=some (.cells [.str g1,.str g2,.str g3])/\O1.Ge O1:=⟨nA.cell,cJ,VH.Ge.refl _⟩;have ug:∀A:VH,A.Ge (A.push (.cells mI)):=fun A=>(VH.Ge.refl A).push _
  have hJs:((O1.push (.cells mI)).set O1.next (.cells mI)).hp bb=some (.cells [.ptr k 0,.map md])/\((O1.push (.cells mI)).set O1.next (.cells mI)).hp O.next=some (.cells [.str g1,.str g2,.str g3])/\O1.Ge ((O1.push (.cells mI)).set O1.next (.cells mI)):=kX O1 _ ((ug O1).set (acw _) _) ns;refine ab.pair (i:=5) (j:=9) ?_ ?_
  ·refine aK.rF (fQ.lK vF aa (l:=eJ ⟨g1,g2,g3⟩) (te:=⟨_,7,136,mI⟩) Tryz.underlying177 Ex.1.1 rfl rfl nA.map nA.ok rfl rfl Iw) ?_;rw[fG];refine⟨ns,?_⟩;refine ab.av 6 ?_;refine ae @aP ?_;refine ab.av 7 ?_;refine ae @aP ?_;refine ab.av 8 ?_;refine ae @aP ?_;refine ab.op (i:=9) ?_;refine ae @aP ?_;refine⟨⟨ns.1,ns.2.1,ug _⟩,?_⟩;refine ab.op (i:=10) ?_;refine ae @aP ?_;refine⟨⟨ns.1,ns.2.1,hJs.2.2⟩,?_⟩;refine ab.bO [(11,.one)] ?_;refine ae @aP ?_;refine WC.sound aa (ae @aP ?_);exact aA.mk () ((ug O1).set (acw _) _)
  ·refine aK.o1 ?_;refine ae @aP ?_;refine⟨⟨ns.1,ns.2.1,ug _⟩,?_⟩;refine ab.one (i:=5) (aK.rF (fQ.lK vF aa (l:=eJ ⟨g1,g2,g3⟩) (te:=⟨_,7,136,mI⟩) Tryz.underlying177 Ex.1.1 rfl rfl ((ug _).hp _ nA.lt.2 |>.trans nA.map) nA.ok rfl rfl Iw) ?_);rw[fG];refine⟨kX _ _ (ug _) ns,?_⟩;refine ab.av 6 ?_;refine ae @aP ?_;refine ab.av 7 ?_;refine ae @aP ?_;refine ab.av 8 ?_;refine ae @aP ?_;refine ab.op (i:=10) ?_;refine ae @aP ?_;refine⟨⟨ns.1,ns.2.1,hJs.2.2⟩,?_⟩;refine ab.bO [(11,.one)] ?_;refine ae @aP ?_;refine WC.sound aa (ae @aP ?_);exact aA.mk () ((ug O1).set (acw _) _)
 rintro _ O2 ay;have CG:=aM.trans ay;have BM:=hBc O2 CG;have tA:O2.hp bb=some (.cells [.ptr k 0,.map md])/\O2.hp O.next=some (.cells [.str g1,.str g2,.str g3]):=⟨BM.cell,ay.at cJ⟩;have ct:=ay.at cA;have gO2:=VH.Ge.refl O2;have iq:=ay.next;obtain⟨q0,c,oW,afA,Np,hE0⟩:=h.some hi;have kj:=h.st.lt.1;have rY:bb≠k:=fun e=>by have:=hB.cell;rw[e,h.st.cell]at this;simp at this
 have WW:bb≠q0:=fun e=>by have:=hB.cell;rw[e,Np]at this;simp[aaP,ja]at this
 refine VC.bC [0,2,4,6,9,10] (fun x:Nat×Nat=>[.ptr bb 0,.sl 0 [] .nil,.ptr O.next 0,.ptr (O.next+1) 0,.ptr x.1 0,.ptr x.2 0]) (fun x O'=>x.1≠x.2/\O2.next<=x.1/\O2.next<=x.2/\x.1<O'.next/\x.2<O'.next/\O'.hp x.1=some (.cells (gC p))/\O'.hp x.2=some (.cells (pd iZ))/\(∃r' a',O'.hp k=some (.cells [.map ke,.map kv,mi r',mi a']))/\O'.hp q0=some (.cells (ja t 1 0 p iZ))/\de O2 k q0 O') ?_ ?_
 ·have hpm:∃P0,P0=gC p:=⟨_,rfl⟩
  refine VC.s8 [12] (fun O'=>O'.hp bb=some (.cells [.ptr k 0,.map md])/\O'.hp O.next=some (.cells [.str g1,.str g2,.str g3])) (tA) ?_;refine ab.av 0 ?_;refine ae @aP ?_;refine ab.av 1 ?_;refine ae @aP ?_;refine ab.av 2 ?_;refine ae @aP ?_;refine ab.mP (m:=.ptr k 0) 3 ?_ ?_
  ·rintro O2 ⟨j0,j1⟩;exact dq @aP @j0
  simp only[aj];refine ab.mP (m:=.agg [.str g1,.str g2,.str g3]) 4 ?_ ?_
  ·rintro O2 ⟨j0,j1⟩;exact dq @aP @j1
  simp only[aj];refine ab.abi (i:=5) (j:=9) (k:=10) ?_ ?_ ?_
  ·refine aK.jj (Db O2 (CG.trans gO2)) ?_;rintro _ nC ⟨rfl,q,AQ,Th,⟨r',a',abk⟩,abl,hu⟩;obtain rfl:q=q0:=by rw[AQ]at oW;injection oW with e;injection e
   have ale:=hu.next;have Ti:=(de.of (k:=k) (q:=q) gO2).trans hu;have akQ:=hu.hp;clear hu;have Fw:nC.hp bb=some (.cells [.ptr k 0,.map md])/\nC.hp O.next=some (.cells [.str g1,.str g2,.str g3]):=⟨(Ti.hp bb (by omega) rY WW).trans tA.1,(Ti.hp O.next (by omega) (by omega) (by omega)).trans tA.2⟩;simp only[aj];refine⟨Fw,?_⟩;refine ab.av 6 ?_;refine ae @aP ?_;refine ab.av 7 ?_;refine ae @aP ?_;refine ab.av 8 ?_;refine ae @aP ?_;refine ab.pair (i:=9) (j:=10) ?_ ?_
   ·refine aK.o1 ?_;refine ae @aP ?_;refine⟨Fw,?_⟩;have Fx:VH.Ge nC (VH.push nC (.cells fb)):=(VH.Ge.refl _).push _;have ND:(VH.push nC (.cells fb)).hp (nC.next)=some (.cells fb):=VH.aW _ _;have akR:(VH.push nC (.cells fb)).next=nC.next+1:=rfl;have Rj:(VH.push nC (.cells fb)).hp bb=some (.cells [.ptr k 0,.map md])/\(VH.push nC (.cells fb)).hp O.next=some (.cells [.str g1,.str g2,.str g3]):=⟨Fx.at Fw.1,Fx.at Fw.2⟩;generalize VH.push nC (.cells fb)=sm at*;have ad_:=Fx.at abk;have aea:=Fx.at abl;have ahy:=Ti.ge Fx;refine ab.op (i:=10) ?_;refine ae @aP ?_;refine⟨Rj,?_⟩;have w7:VH.Ge sm (VH.push sm (.cells [.v (.int .i64 0),.str [],.str [],.str [],.v (.int .i64 0),.v (.int .i64 0),.v (.int .i64 0),.str []])):=(VH.Ge.refl _).push _;have GG:(VH.push sm (.cells [.v (.int .i64 0),.str [],.str [],.str [],.v (.int .i64 0),.v (.int .i64 0),.v (.int .i64 0),.str []])).hp (sm.next)=some (.cells [.v (.int .i64 0),.str [],.str [],.str [],.v (.int .i64 0),.v (.int .i64 0),.v (.int .i64 0),.str []]):=VH.aW _ _;have akH:(VH.push sm (.cells [.v (.int .i64 0),.str [],.str [],.str [],.v (.int .i64 0),.v (.int .i64 0),.v (.int .i64 0),.str []])).next=sm.next+1:=rfl;have JR:(VH.push sm (.cells [.v (.int .i64 0),.str [],.str [],.str [],.v (.int .i64 0),.v (.int .i64 0),.v (.int .i64 0),.str []])).hp bb=some (.cells [.ptr k 0,.map md])/\(VH.push sm (.cells [.v (.int .i64 0),.str [],.str [],.str [],.v (.int .i64 0),.v (.int .i64 0),.v (.int .i64 0),.str []])).hp O.next=some (.cells [.str g1,.str g2,.str g3]):=⟨w7.at Rj.1,w7.at Rj.2⟩;generalize VH.push sm (.cells [.v (.int .i64 0),.str [],.str [],.str [],.v (.int .i64 0),.v (.int .i64 0),.v (.int .i64 0),.str []])=Rk at*;have abm:=w7.at ad_;have abn:=w7.at aea;have Tj:=ahy.ge w7;have JS:=w7.at ND;have vR:=JS;have kY:=GG;have hne:nC.next≠sm.next:=by omega
    have qg:O2.next<=nC.next:=by omega
    have ra:O2.next<=sm.next:=by omega
    have lW:nC.next<VH.next Rk:=by omega
    have ot:sm.next<VH.next Rk:=by omega
    refine ab.op (i:=11) ?_;refine ao @aP @vR ?_;refine⟨by first | exact⟨VH.sn (And.left JR),VH.sn (And.right JR)⟩ | exact JR,?_⟩;refine ab.bO [(12,.one)] ?_;refine aJ @aP @vR @kY ?_;exact aA.mk (nC.next,sm.next) ⟨hne,qg,ra,lW,ot,(VH.ak _ _ hne).trans (VH.an _ _ _),VH.an _ _ _,⟨r',a',VH.sn (VH.sn abm)⟩,VH.sn (VH.sn abn),⟨(by show O2.next<=VH.next Rk;exact de.next Tj),fun i h1 h2 h3=>by rw[VH.ak _ _ (by omega),VH.ak _ _ (by omega)];exact de.hp Tj i h1 h2 h3⟩⟩
   ·refine aK.o1 ?_;refine ae @aP ?_;refine⟨Fw,?_⟩;have Fy:VH.Ge nC (VH.push nC (.cells [.v (.int .i64 0),.str [],.str [],.str [],.v (.int .i64 0),.v (.int .i64 0),.v (.int .i64 0),.str []])):=(VH.Ge.refl _).push _;have NG:(VH.push nC (.cells [.v (.int .i64 0),.str [],.str [],.str [],.v (.int .i64 0),.v (.int .i64 0),.v (.int .i64 0),.str []])).hp (nC.next)=some (.cells [.v (.int .i64 0),.str [],.str [],.str [],.v (.int .i64 0),.v (.int .i64 0),.v (.int .i64 0),.str []]):=VH.aW _ _;have akS:(VH.push nC (.cells [.v (.int .i64 0),.str [],.str [],.str [],.v (.int .i64 0),.v (.int .i64 0),.v (.int .i64 0),.str []])).next=nC.next+1:=rfl;have Rl:(VH.push nC (.cells [.v (.int .i64 0),.str [],.str [],.str [],.v (.int .i64 0),.v (.int .i64 0),.v (.int .i64 0),.str []])).hp bb=some (.cells [.ptr k 0,.map md])/\(VH.push nC (.cells [.v (.int .i64 0),.str [],.str [],.str [],.v (.int .i64 0),.v (.int .i64 0),.v (.int .i64 0),.str []])).hp O.next=some (.cells [.str g1,.str g2,.str g3]):=⟨Fy.at Fw.1,Fy.at Fw.2⟩;generalize VH.push nC (.cells [.v (.int .i64 0),.str [],.str [],.str [],.v (.int .i64 0),.v (.int .i64 0),.v (.int .i64 0),.str []])=so at*;have aeb:=Fy.at abk;have aec:=Fy.at abl;have ahz:=Ti.ge Fy;refine ab.op (i:=9) ?_;refine ae @aP ?_;refine⟨Rl,?_⟩;have w8:VH.Ge so (VH.push so (.cells fb)):=(VH.Ge.refl _).push _;have GH:(VH.push so (.cells fb)).hp (so.next)=some (.cells fb):=VH.aW _ _;have akI:(VH.push so (.cells fb)).next=so.next+1:=rfl;have JT:(VH.push so (.cells fb)).hp bb=some (.cells [.ptr k 0,.map md])/\(VH.push so (.cells fb)).hp O.next=some (.cells [.str g1,.str g2,.str g3]):=⟨w8.at Rl.1,w8.at Rl.2⟩;generalize VH.push so (.cells fb)=Rm at*;have abo:=w8.at aeb;have abp:=w8.at aec;have Tl:=ahz.ge w8;have JU:=w8.at NG;have vR:=GH;have kY:=JU;have hne:so.next≠nC.next:=by omega
    have qg:O2.next<=so.next:=by omega
    have ra:O2.next<=nC.next:=by omega
    have lW:so.next<VH.next Rm:=by omega
    have ot:nC.next<VH.next Rm:=by omega
    refine ab.op (i:=11) ?_;refine ao @aP @vR ?_;refine⟨by first | exact⟨VH.sn (And.left JT),VH.sn (And.right JT)⟩ | exact JT,?_⟩;refine ab.bO [(12,.one)] ?_;refine aJ @aP @vR @kY ?_;exact aA.mk (so.next,nC.next) ⟨hne,qg,ra,lW,ot,(VH.ak _ _ hne).trans (VH.an _ _ _),VH.an _ _ _,⟨r',a',VH.sn (VH.sn abo)⟩,VH.sn (VH.sn abp),⟨(by show O2.next<=VH.next Rm;exact de.next Tl),fun i h1 h2 h3=>by rw[VH.ak _ _ (by omega),VH.ak _ _ (by omega)];exact de.hp Tl i h1 h2 h3⟩⟩
  ·refine aK.o1 ?_;refine ae @aP ?_;refine⟨tA,?_⟩;have abq:VH.Ge O2 (VH.push O2 (.cells fb)):=(VH.Ge.refl _).push _;have Ig:(VH.push O2 (.cells fb)).hp (O2.next)=some (.cells fb):=VH.aW _ _;have alf:(VH.push O2 (.cells fb)).next=O2.next+1:=rfl;have abr:(VH.push O2 (.cells fb)).hp bb=some (.cells [.ptr k 0,.map md])/\(VH.push O2 (.cells fb)).hp O.next=some (.cells [.str g1,.str g2,.str g3]):=⟨abq.at tA.1,abq.at tA.2⟩;generalize VH.push O2 (.cells fb)=yR at*;have abt:=gO2.trans abq;refine ab.pair (i:=5) (j:=10) ?_ ?_
   ·refine aK.jj (Db yR (CG.trans abt)) ?_;rintro _ qh ⟨rfl,q,AQ,Th,⟨r',a',aed⟩,aee,hu⟩;obtain rfl:q=q0:=by rw[AQ]at oW;injection oW with e;injection e
    have akT:=hu.next;have Rn:=(de.of (k:=k) (q:=q) abt).trans hu;have aef:=hu.hp;clear hu;have JV:qh.hp bb=some (.cells [.ptr k 0,.map md])/\qh.hp O.next=some (.cells [.str g1,.str g2,.str g3]):=⟨(Rn.hp bb (by omega) rY WW).trans tA.1,(Rn.hp O.next (by omega) (by omega) (by omega)).trans tA.2⟩;have Ro:=(aef O2.next (by omega) (by omega) (by omega)).trans Ig;simp only[aj];refine⟨JV,?_⟩;refine ab.av 6 ?_;refine ae @aP ?_;refine ab.av 7 ?_;refine ae @aP ?_;refine ab.av 8 ?_;refine ae @aP ?_;refine ab.op (i:=10) ?_;refine ae @aP ?_;refine⟨JV,?_⟩;have w9:VH.Ge qh (VH.push qh (.cells [.v (.int .i64 0),.str [],.str [],.str [],.v (.int .i64 0),.v (.int .i64 0),.v (.int .i64 0),.str []])):=(VH.Ge.refl _).push _;have GI:(VH.push qh (.cells [.v (.int .i64 0),.str [],.str [],.str [],.v (.int .i64 0),.v (.int .i64 0),.v (.int .i64 0),.str []])).hp (qh.next)=some (.cells [.v (.int .i64 0),.str [],.str [],.str [],.v (.int .i64 0),.v (.int .i64 0),.v (.int .i64 0),.str []]):=VH.aW _ _;have akJ:(VH.push qh (.cells [.v (.int .i64 0),.str [],.str [],.str [],.v (.int .i64 0),.v (.int .i64 0),.v (.int .i64 0),.str []])).next=qh.next+1:=rfl;have JW:(VH.push qh (.cells [.v (.int .i64 0),.str [],.str [],.str [],.v (.int .i64 0),.v (.int .i64 0),.v (.int .i64 0),.str []])).hp bb=some (.cells [.ptr k 0,.map md])/\(VH.push qh (.cells [.v (.int .i64 0),.str [],.str [],.str [],.v (.int .i64 0),.v (.int .i64 0),.v (.int .i64 0),.str []])).hp O.next=some (.cells [.str g1,.str g2,.str g3]):=⟨w9.at JV.1,w9.at JV.2⟩;generalize VH.push qh (.cells [.v (.int .i64 0),.str [],.str [],.str [],.v (.int .i64 0),.v (.int .i64 0),.v (.int .i64 0),.str []])=Rp at*;have abu:=w9.at aed;have abv:=w9.at aee;have Tm:=Rn.ge w9;have NH:=w9.at Ro;have vR:=NH;have kY:=GI;have hne:O2.next≠qh.next:=by omega
    have qg:O2.next<=O2.next:=by omega
    have ra:O2.next<=qh.next:=by omega
    have lW:O2.next<VH.next Rp:=by omega
    have ot:qh.next<VH.next Rp:=by omega
    refine ab.op (i:=11) ?_;refine ao @aP @vR ?_;refine⟨by first | exact⟨VH.sn (And.left JW),VH.sn (And.right JW)⟩ | exact JW,?_⟩;refine ab.bO [(12,.one)] ?_;refine aJ @aP @vR @kY ?_;exact aA.mk (O2.next,qh.next) ⟨hne,qg,ra,lW,ot,(VH.ak _ _ hne).trans (VH.an _ _ _),VH.an _ _ _,⟨r',a',VH.sn (VH.sn abu)⟩,VH.sn (VH.sn abv),⟨(by show O2.next<=VH.next Rp;exact de.next Tm),fun i h1 h2 h3=>by rw[VH.ak _ _ (by omega),VH.ak _ _ (by omega)];exact de.hp Tm i h1 h2 h3⟩⟩
   ·refine aK.o1 ?_;refine ae @aP ?_;refine⟨abr,?_⟩;have JX:VH.Ge yR (VH.push yR (.cells [.v (.int .i64 0),.str [],.str [],.str [],.v (.int .i64 0),.v (.int .i64 0),.v (.int .i64 0),.str []])):=(VH.Ge.refl _).push _;have NI:(VH.push yR (.cells [.v (.int .i64 0),.str [],.str [],.str [],.v (.int .i64 0),.v (.int .i64 0),.v (.int .i64 0),.str []])).hp (yR.next)=some (.cells [.v (.int .i64 0),.str [],.str [],.str [],.v (.int .i64 0),.v (.int .i64 0),.v (.int .i64 0),.str []]):=VH.aW _ _;have akU:(VH.push yR (.cells [.v (.int .i64 0),.str [],.str [],.str [],.v (.int .i64 0),.v (.int .i64 0),.v (.int .i64 0),.str []])).next=yR.next+1:=rfl;have akV:(VH.push yR (.cells [.v (.int .i64 0),.str [],.str [],.str [],.v (.int .i64 0),.v (.int .i64 0),.v (.int .i64 0),.str []])).hp bb=some (.cells [.ptr k 0,.map md])/\(VH.push yR (.cells [.v (.int .i64 0),.str [],.str [],.str [],.v (.int .i64 0),.v (.int .i64 0),.v (.int .i64 0),.str []])).hp O.next=some (.cells [.str g1,.str g2,.str g3]):=⟨JX.at abr.1,JX.at abr.2⟩;generalize VH.push yR (.cells [.v (.int .i64 0),.str [],.str [],.str [],.v (.int .i64 0),.v (.int .i64 0),.v (.int .i64 0),.str []])=ajN at*;have abw:=abt.trans JX;have Rq:=JX.at Ig;refine ab.call (i:=5) (Db ajN (CG.trans abw)) ?_;rintro _ FB ⟨rfl,q,AQ,Th,⟨r',a',abx⟩,aby,hu⟩;obtain rfl:q=q0:=by rw[AQ]at oW;injection oW with e;injection e
    have akK:=hu.next;have Dt:=(de.of (k:=k) (q:=q) abw).trans hu;have NJ:=hu.hp;clear hu;have Du:FB.hp bb=some (.cells [.ptr k 0,.map md])/\FB.hp O.next=some (.cells [.str g1,.str g2,.str g3]):=⟨(Dt.hp bb (by omega) rY WW).trans tA.1,(Dt.hp O.next (by omega) (by omega) (by omega)).trans tA.2⟩;have NK:=(NJ O2.next (by omega) (by omega) (by omega)).trans Rq;have JY:=(NJ yR.next (by omega) (by omega) (by omega)).trans NI;simp only[aj];refine⟨Du,?_⟩;refine ab.av 6 ?_;refine ae @aP ?_;refine ab.av 7 ?_;refine ae @aP ?_;refine ab.av 8 ?_;refine ae @aP ?_;have vR:=NK;have kY:=JY;have hne:O2.next≠yR.next:=by omega
    have qg:O2.next<=O2.next:=by omega
    have ra:O2.next<=yR.next:=by omega
    have lW:O2.next<VH.next FB:=by omega
    have ot:yR.next<VH.next FB:=by omega
    refine ab.op (i:=11) ?_;refine ao @aP @vR ?_;refine⟨by first | exact⟨VH.sn (And.left Du),VH.sn (And.right Du)⟩ | exact Du,?_⟩;refine ab.bO [(12,.one)] ?_;refine aJ @aP @vR @kY ?_;exact aA.mk (O2.next,yR.next) ⟨hne,qg,ra,lW,ot,(VH.ak _ _ hne).trans (VH.an _ _ _),VH.an _ _ _,⟨r',a',VH.sn (VH.sn abx)⟩,VH.sn (VH.sn aby),⟨(by show O2.next<=VH.next FB;exact de.next Dt),fun i h1 h2 h3=>by rw[VH.ak _ _ (by omega),VH.ak _ _ (by omega)];exact de.hp Dt i h1 h2 h3⟩⟩
  ·refine aK.o1 ?_;refine ae @aP ?_;refine⟨tA,?_⟩;have abz:VH.Ge O2 (VH.push O2 (.cells [.v (.int .i64 0),.str [],.str [],.str [],.v (.int .i64 0),.v (.int .i64 0),.v (.int .i64 0),.str []])):=(VH.Ge.refl _).push _;have Ih:(VH.push O2 (.cells [.v (.int .i64 0),.str [],.str [],.str [],.v (.int .i64 0),.v (.int .i64 0),.v (.int .i64 0),.str []])).hp (O2.next)=some (.cells [.v (.int .i64 0),.str [],.str [],.str [],.v (.int .i64 0),.v (.int .i64 0),.v (.int .i64 0),.str []]):=VH.aW _ _;have alg:(VH.push O2 (.cells [.v (.int .i64 0),.str [],.str [],.str [],.v (.int .i64 0),.v (.int .i64 0),.v (.int .i64 0),.str []])).next=O2.next+1:=rfl;have abA:(VH.push O2 (.cells [.v (.int .i64 0),.str [],.str [],.str [],.v (.int .i64 0),.v (.int .i64 0),.v (.int .i64 0),.str []])).hp bb=some (.cells [.ptr k 0,.map md])/\(VH.push O2 (.cells [.v (.int .i64 0),.str [],.str [],.str [],.v (.int .i64 0),.v (.int .i64 0),.v (.int .i64 0),.str []])).hp O.next=some (.cells [.str g1,.str g2,.str g3]):=⟨abz.at tA.1,abz.at tA.2⟩;generalize VH.push O2 (.cells [.v (.int .i64 0),.str [],.str [],.str [],.v (.int .i64 0),.v (.int .i64 0),.v (.int .i64 0),.str []])=yS at*;have abB:=gO2.trans abz;refine ab.pair (i:=5) (j:=9) ?_ ?_
   ·refine aK.jj (Db yS (CG.trans abB)) ?_;rintro _ qi ⟨rfl,q,AQ,Th,⟨r',a',aeg⟩,aeh,hu⟩;obtain rfl:q=q0:=by rw[AQ]at oW;injection oW with e;injection e
    have akW:=hu.next;have Rr:=(de.of (k:=k) (q:=q) abB).trans hu;have aei:=hu.hp;clear hu;have JZ:qi.hp bb=some (.cells [.ptr k 0,.map md])/\qi.hp O.next=some (.cells [.str g1,.str g2,.str g3]):=⟨(Rr.hp bb (by omega) rY WW).trans tA.1,(Rr.hp O.next (by omega) (by omega) (by omega)).trans tA.2⟩;have Rs:=(aei O2.next (by omega) (by omega) (by omega)).trans Ih;simp only[aj];refine⟨JZ,?_⟩;refine ab.av 6 ?_;refine ae @aP ?_;refine ab.av 7 ?_;refine ae @aP ?_;refine ab.av 8 ?_;refine ae @aP ?_;refine ab.op (i:=9) ?_;refine ae @aP ?_;refine⟨JZ,?_⟩;have w_:VH.Ge qi (VH.push qi (.cells fb)):=(VH.Ge.refl _).push _;have GJ:(VH.push qi (.cells fb)).hp (qi.next)=some (.cells fb):=VH.aW _ _;have akL:(VH.push qi (.cells fb)).next=qi.next+1:=rfl;have J1:(VH.push qi (.cells fb)).hp bb=some (.cells [.ptr k 0,.map md])/\(VH.push qi (.cells fb)).hp O.next=some (.cells [.str g1,.str g2,.str g3]):=⟨w_.at JZ.1,w_.at JZ.2⟩;generalize VH.push qi (.cells fb)=Ru at*;have abC:=w_.at aeg;have abD:=w_.at aeh;have Tn:=Rr.ge w_;have NL:=w_.at Rs;have vR:=GJ;have kY:=NL;have hne:qi.next≠O2.next:=by omega
    have qg:O2.next<=qi.next:=by omega
    have ra:O2.next<=O2.next:=by omega
    have lW:qi.next<VH.next Ru:=by omega
    have ot:O2.next<VH.next Ru:=by omega
    refine ab.op (i:=11) ?_;refine ao @aP @vR ?_;refine⟨by first | exact⟨VH.sn (And.left J1),VH.sn (And.right J1)⟩ | exact J1,?_⟩;refine ab.bO [(12,.one)] ?_;refine aJ @aP @vR @kY ?_;exact aA.mk (qi.next,O2.next) ⟨hne,qg,ra,lW,ot,(VH.ak _ _ hne).trans (VH.an _ _ _),VH.an _ _ _,⟨r',a',VH.sn (VH.sn abC)⟩,VH.sn (VH.sn abD),⟨(by show O2.next<=VH.next Ru;exact de.next Tn),fun i h1 h2 h3=>by rw[VH.ak _ _ (by omega),VH.ak _ _ (by omega)];exact de.hp Tn i h1 h2 h3⟩⟩
   ·refine aK.o1 ?_;refine ae @aP ?_;refine⟨abA,?_⟩;have J2:VH.Ge yS (VH.push yS (.cells fb)):=(VH.Ge.refl _).push _;have NM:(VH.push yS (.cells fb)).hp (yS.next)=some (.cells fb):=VH.aW _ _;have akX:(VH.push yS (.cells fb)).next=yS.next+1:=rfl;have akY:(VH.push yS (.cells fb)).hp bb=some (.cells [.ptr k 0,.map md])/\(VH.push yS (.cells fb)).hp O.next=some (.cells [.str g1,.str g2,.str g3]):=⟨J2.at abA.1,J2.at abA.2⟩;generalize VH.push yS (.cells fb)=ajO at*;have abE:=abB.trans J2;have Rv:=J2.at Ih;refine ab.call (i:=5) (Db ajO (CG.trans abE)) ?_;rintro _ FC ⟨rfl,q,AQ,Th,⟨r',a',abF⟩,abG,hu⟩;obtain rfl:q=q0:=by rw[AQ]at oW;injection oW with e;injection e
    have akM:=hu.next;have Dv:=(de.of (k:=k) (q:=q) abE).trans hu;have NN:=hu.hp;clear hu;have Dw:FC.hp bb=some (.cells [.ptr k 0,.map md])/\FC.hp O.next=some (.cells [.str g1,.str g2,.str g3]):=⟨(Dv.hp bb (by omega) rY WW).trans tA.1,(Dv.hp O.next (by omega) (by omega) (by omega)).trans tA.2⟩;have NO:=(NN O2.next (by omega) (by omega) (by omega)).trans Rv;have J3:=(NN yS.next (by omega) (by omega) (by omega)).trans NM;simp only[aj];refine⟨Dw,?_⟩;refine ab.av 6 ?_;refine ae @aP ?_;refine ab.av 7 ?_;refine ae @aP ?_;refine ab.av 8 ?_;refine ae @aP ?_;have vR:=J3;have kY:=NO;have hne:yS.next≠O2.next:=by omega
    have qg:O2.next<=yS.next:=by omega
    have ra:O2.next<=O2.next:=by omega
    have lW:yS.next<VH.next FC:=by omega
    have ot:O2.next<VH.next FC:=by omega
    refine ab.op (i:=11) ?_;refine ao @aP @vR ?_;refine⟨by first | exact⟨VH.sn (And.left Dw),VH.sn (And.right Dw)⟩ | exact Dw,?_⟩;refine ab.bO [(12,.one)] ?_;refine aJ @aP @vR @kY ?_;exact aA.mk (yS.next,O2.next) ⟨hne,qg,ra,lW,ot,(VH.ak _ _ hne).trans (VH.an _ _ _),VH.an _ _ _,⟨r',a',VH.sn (VH.sn abF)⟩,VH.sn (VH.sn abG),⟨(by show O2.next<=VH.next FC;exact de.next Dv),fun i h1 h2 h3=>by rw[VH.ak _ _ (by omega),VH.ak _ _ (by omega)];exact de.hp Dv i h1 h2 h3⟩⟩
 rintro⟨pb,xb⟩ O3 ⟨abH,ajP,aba,xQ,ajQ,oM,lq,⟨r',a',dz⟩,vJ,cP⟩;dsimp only at abH ajP aba xQ ajQ oM lq ⊢;have gm:=cP.next;have j3:O3.hp bb=some (.cells [.ptr k 0,.map md])/\O3.hp O.next=some (.cells [.str g1,.str g2,.str g3]):=⟨(cP.hp bb (by omega) rY WW).trans tA.1,(cP.hp O.next (by omega) (by omega) (by omega)).trans tA.2⟩;have cg:=(cP.hp (O.next+1) (by omega) (by omega) (by omega)).trans ct;have afQ:md≠k:=fun e=>by have:=hB.map;rw[e,h.st.cell]at this;cases this
 have afR:md≠q0:=fun e=>by have:=hB.map;rw[e,Np]at this;cases this
 have GD:=(cP.hp md (by omega) afQ afR).trans BM.map;have Q7:=lq;simp only[pd,iZ,aq]at Q7;refine VC.ag aa (ao @aP @Q7 ?_);refine VL.Bj aa (bb:=false) (b:=true) (by simp) (by simp[iE]) (.inr ⟨rfl,rfl⟩) (by kernel_rfl) (by kernel_rfl) rfl rfl rfl rfl ?_;refine ae @aP ?_;simp only[gC,a_]at oM;refine VC.bC [0,4,6,9,11] (fun x:Nat×Nat=>[.ptr bb 0,.ptr O.next 0,.ptr (O.next+1) 0,.ptr pb 0,.ptr x.1 0]) (fun x O'=>O3.Ge O'/\O3.next<=x.1/\x.1<O'.next/\(∃tw,O'.hp x.1=some (.cells (sk x.2 bb ⟨g1,g2,g3⟩ p tw)))/\∃kr kd R cr t,oQ O' x.2 kr kd (ij p) R [] cr 0 t 0/\(∀x∈ij p,xp x.1 R=some x.2)/\O3.next<=kr/\O3.next<=kd/\O3.next<=x.2/\x.2≠x.1/\kd≠x.1/\kr≠x.1) ?_ ?_
 ·refine VC.Aq [13] (pb) (fun O'=>O'.hp O.next=some (.cells [.str g1,.str g2,.str g3])/\O3.next<=O'.next/\∀i,i<O3.next->i≠pb->O'.hp i=O3.hp i) (oM) (fun X=>⟨VH.sn j3.2,acw _,fun i _ h=>VH.ak _ _ h⟩) ?_;intro X;refine ab.oe (m:=.agg [.v (.bool p.hp),.str p.par.g,.str p.par.a,.str p.par.v,.str p.g,.str p.a,.str p.v,.str p.pk,.sl p.props.length (p.props.flatMap bh) .ar,.sl p.eE.length (p.eE.flatMap aS) .ar,.sl p.en.length (p.en.flatMap aS) .ar]) 0 (fun _ h=>h.1) (fun _ h=>h) ?_ ?_
  ·exact fe @aP
  simp only[aj];refine ab.av 3 ?_;refine ae @aP ?_;refine ab.mP (m:=.agg [.str g1,.str g2,.str g3]) 4 ?_ ?_
  ·rintro O2 ⟨j0,j1,j2⟩;exact dq @aP @j1
  simp only[aj];refine ab.oe (m:=.agg [.v (.bool p.hp),.str p.par.g,.str p.par.a,.str p.par.v,.str p.g,.str p.a,.str p.v,.str p.pk,.sl p.props.length (p.props.flatMap bh) .ar,.sl p.eE.length (p.eE.flatMap aS) .ar,.sl p.en.length (p.en.flatMap aS) .ar]) 5 (fun _ h=>h.1) (fun _ h=>h) ?_ ?_
  ·exact fe @aP
  simp only[aj];refine ab.av 6 ?_;refine ae @aP ?_;refine ab.mP (m:=.agg [.str g1,.str g2,.str g3]) 8 ?_ ?_
  ·rintro O2 ⟨j0,j1,j2⟩;exact dq @aP @j1
  simp only[aj];have kX:∀A B:VH,A.Ge B->(A.hp pb=some (.obj X)/\A.hp O.next=some (.cells [.str g1,.str g2,.str g3])/\O3.next<=A.next/\∀i,i<O3.next->i≠pb->A.hp i=O3.hp i)->(B.hp pb=some (.obj X)/\B.hp O.next=some (.cells [.str g1,.str g2,.str g3])/\O3.next<=B.next/\∀i,i<O3.next->i≠pb->B.hp i=O3.hp i):=fun A B g h=>⟨g.at h.1,g.at h.2.1,ah1 h.2.2.1 g.next,fun i h1 h2=>(g.hp i (by omega)).trans (h.2.2.2 i h1 h2)⟩
  have jA0:(O3.set pb (.obj X)).hp pb=some (.obj X)/\(O3.set pb (.obj X)).hp O.next=some (.cells [.str g1,.str g2,.str g3])/\O3.next<=(O3.set pb (.obj X)).next/\∀i,i<O3.next->i≠pb->(O3.set pb (.obj X)).hp i=O3.hp i:=⟨VH.an _ _ _,VH.sn j3.2,acw _,fun i _ h=>VH.ak _ _ h⟩
  have nA0:(O3.set pb (.obj X)).next=O3.next:=rfl;generalize O3.set pb (.obj X)=A0 at*;have To:O.next<O3.next:=by omega
  refine ab.pair (i:=1) (j:=9) ?_ ?_
  ·refine aK.jj (Nw p A0 hq.c.hp hq.props) ?_;rintro _ sq ⟨⟨t1,rfl⟩,NP⟩;simp only[aj,RZ,acs];have FD:=kX _ _ NP jA0;have ajR:=NP.next;refine⟨FD,?_⟩;refine ab.pair (i:=2) (j:=9) ?_ ?_
   ·refine aK.jj (JJ (ij p) t1 sq (by simp[ij]) (vO p)) ?_;rintro _ xR ⟨rfl,vS,R,cr,t2,pf,hR⟩;simp only[aj,RZ,acs];have nu:=kX _ _ vS FD;have abI:=vS.next;have Tp:=pf.lt;refine⟨nu,?_⟩;refine ab.pair (i:=7) (j:=9) ?_ ?_
    ·refine aK.jj (wV [] .nil xR (by decide)) ?_;rintro _ jR ⟨t7,rfl,cC,jS⟩;simp only[aj,RZ,acs];have l0:=kX _ _ jS nu;have J4:=jS.next;have Rw:O3.next<=xR.next:=nu.2.2.1;have kZ:=pf.ge jS;refine⟨l0,?_⟩;refine ab.op (i:=9) ?_;refine ae @aP ?_;refine⟨l0,?_⟩;have kT:=bj (tk:=t7) (tk':=.full) (n:=0) (k:=1) (cs:=[]) (ds:=[.str g1,.str g2,.str g3]) xF Bp.1.1 cC rfl rfl rfl (by decide) (by decide) (by decide) (by decide);rw[alN,yP]at kT;refine ab.op (i:=10) ?_;rw[cX];refine ao @aP @kT ?_;have jK:=Ds cC Rw xQ To l0;refine⟨jK,?_⟩;have nB:=flW (sq.next+2) bb 1 [.str g1,.str g2,.str g3] (.own (VH.next jR) 3) (.str g1) (.str g2) (.str g3) (.v (.bool p.hp)) (.str p.par.g) (.str p.par.a) (.str p.par.v) (.str p.g) (.str p.a) (.str p.v) (.str p.pk) (.sl p.props.length (p.props.flatMap bh) .ar) (.sl p.eE.length (p.eE.flatMap aS) .ar) (.sl p.en.length (p.en.flatMap aS) .ar);refine ab.av 11 ?_ (hb:=(AO 1 (alH (by kernel_rfl)) (by kernel_rfl)));refine ao @aP @nB ?_;have Rx:=tu cC kZ;have lTF:=(kZ).lt;have nFA:(VH.after jR t7).next=VH.next jR+1:=VH.dU _ _;generalize VH.after jR t7=FA at*;refine ab.op (i:=12) ?_;refine ae @aP ?_;refine⟨⟨jK.1,jK.2.1,alO jK.2.2.1,fun i h1 h2=>(VH.bA _ _ (by omega)).trans (jK.2.2.2 i h1 h2)⟩,?_⟩;refine ab.jQ [(13,.one)] ?_;refine ae @aP ?_;refine aA.mk (VH.next FA,sq.next+2) ⟨⟨?_,fun i h1=>?_⟩,jK.2.2.1,alR _,⟨_,(VH.ak _ _ (by first | omega | (dsimp only;omega))).trans (VH.aW _ _)⟩,sq.next,sq.next+1,R,cr,t2,AP (Rx.ge ((VH.Ge.refl FA).push _)) (by first | omega | (dsimp only;omega)) (by first | omega | (dsimp only;omega)) (by first | omega | (dsimp only;omega)),hR,?_,?_,?_,?_,?_,?_⟩
     ·show O3.next<=FA.next+1;omega
     ·by_cases e:i=pb
      ·subst e;rw[VH.an];exact oM.symm
      ·rw[VH.ak _ _ e,VH.bA _ _ (by omega)];exact jK.2.2.2 i h1 e
     ·first | omega | (dsimp only;omega)
     ·first | omega | (dsimp only;omega)
     ·first | omega | (dsimp only;omega)
     ·first | omega | (dsimp only;omega)
     ·first | omega | (dsimp only;omega)
     ·first | omega | (dsimp only;omega)
    ·refine aK.o1 ?_;refine ae @aP ?_;refine⟨nu,?_⟩;refine ab.call (i:=7) (wV [] .nil xR (by decide)) ?_;rintro _ jR ⟨t7,rfl,cC,jS⟩;simp only[aj,RZ,acs];have l0:=kX _ _ jS nu;have J4:=jS.next;have Rw:O3.next<=xR.next:=nu.2.2.1;have kZ:=pf.ge jS;refine⟨l0,?_⟩;have kT:=bj (tk:=t7) (tk':=.full) (n:=0) (k:=1) (cs:=[]) (ds:=[.str g1,.str g2,.str g3]) xF Bp.1.1 cC rfl rfl rfl (by decide) (by decide) (by decide) (by decide);rw[alN,yP]at kT;refine ab.op (i:=10) ?_;rw[cX];refine ao @aP @kT ?_;have jK:=Ds cC Rw xQ To l0;refine⟨jK,?_⟩;have nB:=flW (sq.next+2) bb 1 [.str g1,.str g2,.str g3] (.own (VH.next jR) 3) (.str g1) (.str g2) (.str g3) (.v (.bool p.hp)) (.str p.par.g) (.str p.par.a) (.str p.par.v) (.str p.g) (.str p.a) (.str p.v) (.str p.pk) (.sl p.props.length (p.props.flatMap bh) .ar) (.sl p.eE.length (p.eE.flatMap aS) .ar) (.sl p.en.length (p.en.flatMap aS) .ar);refine ab.av 11 ?_ (hb:=(AO 1 (alH (by kernel_rfl)) (by kernel_rfl)));refine ao @aP @nB ?_;have Rx:=tu cC kZ;have lTF:=(kZ).lt;have nFA:(VH.after jR t7).next=VH.next jR+1:=VH.dU _ _;generalize VH.after jR t7=FA at*;refine ab.op (i:=12) ?_;refine ae @aP ?_;refine⟨⟨jK.1,jK.2.1,alO jK.2.2.1,fun i h1 h2=>(VH.bA _ _ (by omega)).trans (jK.2.2.2 i h1 h2)⟩,?_⟩;refine ab.jQ [(13,.one)] ?_;refine ae @aP ?_;refine aA.mk (VH.next FA,sq.next+2) ⟨⟨?_,fun i h1=>?_⟩,jK.2.2.1,alR _,⟨_,(VH.ak _ _ (by first | omega | (dsimp only;omega))).trans (VH.aW _ _)⟩,sq.next,sq.next+1,R,cr,t2,AP (Rx.ge ((VH.Ge.refl FA).push _)) (by first | omega | (dsimp only;omega)) (by first | omega | (dsimp only;omega)) (by first | omega | (dsimp only;omega)),hR,?_,?_,?_,?_,?_,?_⟩
     ·show O3.next<=FA.next+1;omega
     ·by_cases e:i=pb
      ·subst e;rw[VH.an];exact oM.symm
      ·rw[VH.ak _ _ e,VH.bA _ _ (by omega)];exact jK.2.2.2 i h1 e
     ·first | omega | (dsimp only;omega)
     ·first | omega | (dsimp only;omega)
     ·first | omega | (dsimp only;omega)
     ·first | omega | (dsimp only;omega)
     ·first | omega | (dsimp only;omega)
     ·first | omega | (dsimp only;omega)
   ·refine aK.o1 ?_;refine ae @aP ?_;refine⟨FD,?_⟩;refine ab.call (i:=2) (JJ (ij p) t1 sq (by simp[ij]) (vO p)) ?_;rintro _ xR ⟨rfl,vS,R,cr,t2,pf,hR⟩;simp only[aj,RZ,acs];have nu:=kX _ _ vS FD;have abI:=vS.next;have Tp:=pf.lt;refine⟨nu,?_⟩;refine ab.call (i:=7) (wV [] .nil xR (by decide)) ?_;rintro _ jR ⟨t7,rfl,cC,jS⟩;simp only[aj,RZ,acs];have l0:=kX _ _ jS nu;have J4:=jS.next;have Rw:O3.next<=xR.next:=nu.2.2.1;have kZ:=pf.ge jS;refine⟨l0,?_⟩;have kT:=bj (tk:=t7) (tk':=.full) (n:=0) (k:=1) (cs:=[]) (ds:=[.str g1,.str g2,.str g3]) xF Bp.1.1 cC rfl rfl rfl (by decide) (by decide) (by decide) (by decide);rw[alN,yP]at kT;refine ab.op (i:=10) ?_;rw[cX];refine ao @aP @kT ?_;have jK:=Ds cC Rw xQ To l0;refine⟨jK,?_⟩;have nB:=flW (sq.next+2) bb 1 [.str g1,.str g2,.str g3] (.own (VH.next jR) 3) (.str g1) (.str g2) (.str g3) (.v (.bool p.hp)) (.str p.par.g) (.str p.par.a) (.str p.par.v) (.str p.g) (.str p.a) (.str p.v) (.str p.pk) (.sl p.props.length (p.props.flatMap bh) .ar) (.sl p.eE.length (p.eE.flatMap aS) .ar) (.sl p.en.length (p.en.flatMap aS) .ar);refine ab.av 11 ?_ (hb:=(AO 1 (alH (by kernel_rfl)) (by kernel_rfl)));refine ao @aP @nB ?_;have Rx:=tu cC kZ;have lTF:=(kZ).lt;have nFA:(VH.after jR t7).next=VH.next jR+1:=VH.dU _ _;generalize VH.after jR t7=FA at*;refine ab.op (i:=12) ?_;refine ae @aP ?_;refine⟨⟨jK.1,jK.2.1,alO jK.2.2.1,fun i h1 h2=>(VH.bA _ _ (by omega)).trans (jK.2.2.2 i h1 h2)⟩,?_⟩;refine ab.jQ [(13,.one)] ?_;refine ae @aP ?_;refine aA.mk (VH.next FA,sq.next+2) ⟨⟨?_,fun i h1=>?_⟩,jK.2.2.1,alR _,⟨_,(VH.ak _ _ (by first | omega | (dsimp only;omega))).trans (VH.aW _ _)⟩,sq.next,sq.next+1,R,cr,t2,AP (Rx.ge ((VH.Ge.refl FA).push _)) (by first | omega | (dsimp only;omega)) (by first | omega | (dsimp only;omega)) (by first | omega | (dsimp only;omega)),hR,?_,?_,?_,?_,?_,?_⟩
    ·show O3.next<=FA.next+1;omega
    ·by_cases e:i=pb
     ·subst e;rw[VH.an];exact oM.symm
     ·rw[VH.ak _ _ e,VH.bA _ _ (by omega)];exact jK.2.2.2 i h1 e
    ·first | omega | (dsimp only;omega)
    ·first | omega | (dsimp only;omega)
    ·first | omega | (dsimp only;omega)
    ·first | omega | (dsimp only;omega)
    ·first | omega | (dsimp only;omega)
    ·first | omega | (dsimp only;omega)
  ·refine aK.o1 ?_;refine ae @aP ?_;refine⟨jA0,?_⟩;refine ab.call (i:=1) (Nw p A0 hq.c.hp hq.props) ?_;rintro _ sq ⟨⟨t1,rfl⟩,NP⟩;simp only[aj,RZ,acs];have FD:=kX _ _ NP jA0;have ajR:=NP.next;refine⟨FD,?_⟩;refine ab.call (i:=2) (JJ (ij p) t1 sq (by simp[ij]) (vO p)) ?_;rintro _ xR ⟨rfl,vS,R,cr,t2,pf,hR⟩;simp only[aj,RZ,acs];have nu:=kX _ _ vS FD;have abI:=vS.next;have Tp:=pf.lt;refine⟨nu,?_⟩;refine ab.call (i:=7) (wV [] .nil xR (by decide)) ?_;rintro _ jR ⟨t7,rfl,cC,jS⟩;simp only[aj,RZ,acs];have l0:=kX _ _ jS nu;have J4:=jS.next;have Rw:O3.next<=xR.next:=nu.2.2.1;have kZ:=pf.ge jS;refine⟨l0,?_⟩;have kT:=bj (tk:=t7) (tk':=.full) (n:=0) (k:=1) (cs:=[]) (ds:=[.str g1,.str g2,.str g3]) xF Bp.1.1 cC rfl rfl rfl (by decide) (by decide) (by decide) (by decide);rw[alN,yP]at kT;refine ab.op (i:=10) ?_;rw[cX];refine ao @aP @kT ?_;have jK:=Ds cC Rw xQ To l0;refine⟨jK,?_⟩;have nB:=flW (sq.next+2) bb 1 [.str g1,.str g2,.str g3] (.own (VH.next jR) 3) (.str g1) (.str g2) (.str g3) (.v (.bool p.hp)) (.str p.par.g) (.str p.par.a) (.str p.par.v) (.str p.g) (.str p.a) (.str p.v) (.str p.pk) (.sl p.props.length (p.props.flatMap bh) .ar) (.sl p.eE.length (p.eE.flatMap aS) .ar) (.sl p.en.length (p.en.flatMap aS) .ar);refine ab.av 11 ?_ (hb:=(AO 1 (alH (by kernel_rfl)) (by kernel_rfl)));refine ao @aP @nB ?_;have Rx:=tu cC kZ;have lTF:=(kZ).lt;have nFA:(VH.after jR t7).next=VH.next jR+1:=VH.dU _ _;generalize VH.after jR t7=FA at*;refine ab.op (i:=12) ?_;refine ae @aP ?_;refine⟨⟨jK.1,jK.2.1,alO jK.2.2.1,fun i h1 h2=>(VH.bA _ _ (by omega)).trans (jK.2.2.2 i h1 h2)⟩,?_⟩;refine ab.jQ [(13,.one)] ?_;refine ae @aP ?_;refine aA.mk (VH.next FA,sq.next+2) ⟨⟨?_,fun i h1=>?_⟩,jK.2.2.1,alR _,⟨_,(VH.ak _ _ (by first | omega | (dsimp only;omega))).trans (VH.aW _ _)⟩,sq.next,sq.next+1,R,cr,t2,AP (Rx.ge ((VH.Ge.refl FA).push _)) (by first | omega | (dsimp only;omega)) (by first | omega | (dsimp only;omega)) (by first | omega | (dsimp only;omega)),hR,?_,?_,?_,?_,?_,?_⟩
   ·show O3.next<=FA.next+1;omega
   ·by_cases e:i=pb
    ·subst e;rw[VH.an];exact oM.symm
    ·rw[VH.ak _ _ e,VH.bA _ _ (by omega)];exact jK.2.2.2 i h1 e
   ·first | omega | (dsimp only;omega)
   ·first | omega | (dsimp only;omega)
   ·first | omega | (dsimp only;omega)
   ·first | omega | (dsimp only;omega)
   ·first | omega | (dsimp only;omega)
   ·first | omega | (dsimp only;omega)
 rintro⟨wb,tb⟩ O4 ⟨aY,afS,afT,⟨tw,Nt⟩,kr,kd,R,cr,t7,vM,hR4,hkr,uC,htb,Tq,Tr,abH⟩;dsimp only at afS afT Nt vM htb Tq Tr abH ⊢;have WX:=hq.gg;have WY:=hq.ga;have WZ:=hq.gv;dsimp only at WX WY WZ;have gI:=aY.next;have kR:=aY.at j3.2;have Jy:=(aY.hp _ xQ).trans oM;rw[WX,WY,WZ]at Jy;refine VC.ag aa (ao @aP @kR ?_);refine VC.al ?_;rintro O5 ⟨bH,xn,fS⟩;have M5:MS O3 wb O4.next (sk tb bb ⟨g1,g2,g3⟩ p tw) [.str g1,.str g2,.str g3,.str [],.sl 0 [] .nil,.sl 0 [] .nil,.sl 0 [] .nil] O5:=⟨aY.trans bH,(bH.hp _ afT).trans Nt,xn,afS,by omega,gI,by omega,by omega⟩;have hT5:=vM.ge bH;have Ii:=vM.lt;clear Nt xn bH fS vM;have Mm:=(M5.ge.hp _ xQ).trans oM;rw[WX,WY,WZ]at Mm;have fz:=M5.ge.at j3.2;have hwB:wb<O5.next:=M5.wl;refine VC.ag aa (aJ @aP @Mm @fz ?_);refine ah.rt (BW M5.w g1 _ hq.tg) ?_;rintro _ O6 fJ;have M6:=M5.go fJ;have xq:=hT5.ge fJ;clear Mm fz M5 hT5 fJ hwB;have hp6:=(M6.ge.hp _ xQ).trans oM;rw[WX,WY,WZ]at hp6;have BK:=M6.ge.at j3.2;refine ae @aP ?_;refine VC.ag aa (aJ @aP @hp6 @BK ?_);refine ah.rt (BW M6.w g2 _ hq.ta) ?_;rintro _ O7 fC;have M7:=M6.go fC;have GF:=xq.ge fC;clear hp6 BK M6 xq fC;have hp7:=(M7.ge.hp _ xQ).trans oM;rw[WX,WY,WZ]at hp7;have Jw:=M7.ge.at j3.2;refine ae @aP ?_;refine VC.ag aa (aJ @aP @hp7 @Jw ?_);refine ah.rt (BW M7.w g3 _ hq.tv) ?_;rintro _ O8 iI;have M8:=M7.go iI;have hT8:=GF.ge iI;clear hp7 Jw M7 GF iI;have AK:=(M8.ge.hp _ xQ).trans oM;refine ae @aP ?_;refine VC.ag aa (ao @aP @AK ?_);refine ah.rt (JL M8.w p.pk _ hq.tp) ?_;rintro _ O9 ⟨rfl,bo⟩;have M9:=M8.go bo;have hT9:=hT8.ge bo;clear AK M8 hT8 bo;have NQ:=M9.m;refine ao @aP @NQ ?_;refine VC.ms M9 ?_;rintro fT M10 AM HK;have xS:oQ fT tb kr kd (ij p) R [] cr 0 t7 0:=hT9.off AM HK Ii.1 Ii.2.1 Ii.2.2;clear NQ AM HK hT9 M9;have abJ:=M10.m;refine VC.bC [0,4,6,9,11,12] (fun _:Unit=>[.ptr bb 0,.ptr O.next 0,.ptr (O.next+1) 0,.ptr pb 0,.ptr wb 0,.ptr O4.next 0]) (fun _ O'=>MS O3 wb O4.next (sk tb bb ⟨g1,g2,g3⟩ p tw) [.str g1,.str g2,.str g3,.str (Dd p.pk),.sl 0 [] .nil,.sl 0 [] .nil,.sl 0 [] .nil] O'/\oQ O' tb kr kd (ij p) R [] cr 0 t7 0) ?_ ?_
 ·by_cases ep:p.pk=[]
  ·have ep1:(p.pk==[])=true:=by simpa using ep
   refine VC.ag aa (aJ @aP @abJ @ep1 ?_);refine WC.sound aa (ao @aP @abJ ?_);exact aA.mk () ⟨by rw[show Dd p.pk=qS from if_pos ep];exact M10.st,xS.off (fun i hi=>VH.ak _ _ hi) rfl Ii.1 Ii.2.1 Ii.2.2⟩
  ·have ep1:(p.pk==[])=false:=by simpa using ep
   refine VC.ag aa (aJ @aP @abJ @ep1 ?_);refine WC.sound aa (ae @aP ?_);exact aA.mk () ⟨by rw[show Dd p.pk=p.pk from if_neg ep];exact M10,xS⟩
 rintro _ ur ⟨M11,afU⟩;have Ts:=M11.m;have Q2:=hq.pi
 have dL:(Dd p.pk).length<=maxLen:=by
  have h1:=hq.tp.2;have h2:(4096:Nat)<=maxLen:=by decide
  unfold Dd;split
  ·decide
  ·omega
 have AL:=fun O'=>sV (Dd p.pk) O' dL
 rw[Q2]at AL;refine VC.ag aa (ao @aP @Ts ?_);refine ah.rt (AL _) ?_;rintro _ WV ⟨rfl,FE⟩;have M12:=M11.go FE;have Tt:=afU.ge FE;clear Ts M11 afU FE AL;refine ae @aP ?_;have abK:=M12.w;have hW:sk tb bb ⟨g1,g2,g3⟩ p tw= .ptr tb 0:: .ptr bb 0::(bW ⟨g1,g2,g3⟩++gC p++[.sl 1 (bW ⟨g1,g2,g3⟩) tw]):=rfl;rw[hW]at abK;refine VC.ag aa (ao @aP @abK ?_);refine ah.rt (ad5 Tt (by simp[ij]) hR4 (vO p) ?_) ?_
 ·intro x hx;simp only[ij,alD,ah5,or_false]at hx;have h1:=hq.tg;have h2:=hq.ta;have h3:=hq.tv;rcases hx with rfl | rfl | rfl
  ·show gT p.g;rw[WX];exact h1
  ·show gT p.a;rw[WY];exact h2
  ·show gT p.v;rw[WZ];exact h3
 rintro _ O13 ⟨⟨tP,rfl⟩,Nf,afV⟩;have M13:=M12.mv Nf afV htb uC Tq Tr (by omega) (by omega);clear abK M12 Tt Nf afV;refine ae @aP ?_;refine VC.ag aa (ae @aP ?_);have afW:=M13.m;refine VC.ag aa (ao @aP @afW ?_);refine VC.ms M13 ?_;rintro O14 M14 ajS ajT;clear afW ajS ajT M13;refine VC.ag aa (ae @aP ?_);refine ah.rt (Ra M14.w M14.wl hq.eE) ?_;rintro _ O15 ⟨rfl,afX⟩;have M15:=M14.go afX;clear M14 afX;have afY:=M15.m;refine ao @aP @afY ?_;refine VC.ms M15 ?_;rintro O16 M16 ajU ajV;clear afY ajU ajV M15;have afZ:=M16.m;refine VC.ag aa (ao @aP @afZ ?_);refine ah.rt (abd M16.w M16.wl hq.en hq.len hq.keys .nil) ?_;rintro _ O17 ⟨⟨tN,rfl⟩,af0⟩;have M17:=M16.go af0;clear M16 af0 afZ;have af1:=M17.m;refine ao @aP @af1 ?_;refine VC.ms M17 ?_;rintro O18 M18 ajW ajX;clear af1 ajW ajX M17;refine VC.WK M18.m (Wk.mdl _ _ _ _ _ _ _ _ _ _ _ _ _) ?_;refine VC.ms M18 ?_;rintro NR W0 ajY ajZ;clear ajY ajZ M18;have af2:=W0.m;have af3:=W0.ge.at j3.1;have aj0:=W0.ge.at j3.2;have aj1:=W0.ge.at cg;have abL:=W0.ge.at GD
 have Ry:(.agg [.str g1,.str g2,.str g3,.str (Dd p.pk),.sl (ij p).length ((ij p).flatMap bh) .ar,.sl 0 [] .ar,.sl p.en.length ((p.en.map fw).flatMap dR) .ar]:MV)= .agg (lI (iN ⟨g1,g2,g3⟩ p)):=by
  simp only[lI,iN,bW,agt,Km,yP]
 refine VC.bB ?_;refine WC.bO (.held [6]) [(0,.rd),(1,.rd),(2,.rd),(3,.rd),(4,.rd),(5,.rd),(6,.one)] ?_;refine c_ @aP @af3 @aj0 @af2 ?_;rw[Ry];refine VL.oH rfl rfl (oG.jI vF (l:=eJ ⟨g1,g2,g3⟩) (b:=md) (ck:=cm) (M:=MD) Tryz.underlying177 rfl abL hB.ok rfl rfl Iw rfl) (fun brk hb i hi=>?_) (WL.sound aa ?_)
 ·cases hb
  rcases i with _ | _ | _ | _ | _ | _ | _ | i<;>first
   | rfl
   | (exfalso;revert hi;simp)
 have uj:MD.any (·.1==eJ ⟨g1,g2,g3⟩)=false:=by
  rw[List.any_eq_false];intro x hx ZE;exact Fu fG x hx (eq_of_beq ZE)
 have jC:=rW (y:=.agg (lI (iN ⟨g1,g2,g3⟩ p))) (ck:=cm) hB.ok (l:=eJ ⟨g1,g2,g3⟩) rfl Iw;unfold jI at jC;unfold jI LP;rw[uj]at jC ⊢;rw[if_neg (by decide)]at jC;refine ae @aP ?_;have aj2:O4.next≠md:=by omega
 have aj3:(NR.set md (.map (cI (MD++[(eJ ⟨g1,g2,g3⟩,.agg (lI (iN ⟨g1,g2,g3⟩ p)),cm)])) (cm+1))).hp O4.next=_:=(VH.ak _ _ aj2).trans af2;have aj4:(NR.set md (.map (cI (MD++[(eJ ⟨g1,g2,g3⟩,.agg (lI (iN ⟨g1,g2,g3⟩ p)),cm)])) (cm+1))).hp (O.next+1)=_:=VH.sn aj1;have aj5:(NR.set md (.map (cI (MD++[(eJ ⟨g1,g2,g3⟩,.agg (lI (iN ⟨g1,g2,g3⟩ p)),cm)])) (cm+1))).hp md=_:=VH.an _ _ _;have af4:∀i,i≠md->(NR.set md (.map (cI (MD++[(eJ ⟨g1,g2,g3⟩,.agg (lI (iN ⟨g1,g2,g3⟩ p)),cm)])) (cm+1))).hp i=NR.hp i:=fun i hi=>VH.ak _ _ hi
 have alh:(NR.set md (.map (cI (MD++[(eJ ⟨g1,g2,g3⟩,.agg (lI (iN ⟨g1,g2,g3⟩ p)),cm)])) (cm+1))).next=NR.next:=rfl;generalize NR.set md (.map (cI (MD++[(eJ ⟨g1,g2,g3⟩,.agg (lI (iN ⟨g1,g2,g3⟩ p)),cm)])) (cm+1))=W4 at*;refine VC.ag aa (aJ @aP @aj3 @aj4 ?_);refine WC.sound aa (ae @aP ?_);have Rz:=W0.ge;have hng:=Rz.next;have ali:=CG.next;have alj:=cP.next;rw[Ry]
 have aU:∀j,j<O.next->j≠k->j≠q0->j≠md->(W4.set (O.next+1) (.cells [.str g1,.str g2,.str g3,.str (Dd p.pk),.sl (ij p).length ((ij p).flatMap bh) .ar,.sl 0 [] .ar,.sl p.en.length ((p.en.map fw).flatMap dR) .ar])).hp j=O.hp j:=fun j h1 h2 h3 h4=>by
  rw[VH.ak _ _ (by omega),af4 j h4,Rz.hp j (by omega),cP.hp j (by omega) h2 h3,CG.hp j h1]
 have hold:∀j,j<O3.next->j≠O.next+1->j≠md->(W4.set (O.next+1) (.cells [.str g1,.str g2,.str g3,.str (Dd p.pk),.sl (ij p).length ((ij p).flatMap bh) .ar,.sl 0 [] .ar,.sl p.en.length ((p.en.map fw).flatMap dR) .ar])).hp j=O3.hp j:=fun j h1 h2 h4=>by
  rw[VH.ak _ _ h2,af4 j h4,Rz.hp j h1]
 refine⟨rfl,q0,c,hE0,⟨r',a',Ri (md:=md) h hi hE0 ?_ ?_ ?_ aU hB.map lY⟩,⟨?_,?_,jC,?_⟩,?_,aU⟩
 ·rw[hold k (by omega) (by omega) (Ne.symm afQ)];exact dz
 ·rw[hold q0 (by omega) (by omega) (Ne.symm afR)];exact vJ
 ·show O.next<=W4.next;omega
 ·rw[hold bb (by omega) (by omega) (fun e=>by rw[<-e,af3]at abL;cases abL)];exact j3.1
 ·rw[VH.ak _ _ (by omega)];exact aj5
 ·show bb<W4.next/\md<W4.next;omega
 ·show O.next<=W4.next;omega
set_option linter.defProp false in
def cY:=Kn lH<|Kn xh<|Kn T35<|Kn T26<|Kn T77<|Kn T78<|Kn T75 ZQ
structure Bn where
 up:Int
 dp:Int
 od:Int
 k:Ky
 v:Bs
 hd:Bool
 rv:Bs
 n:Nat
 iv:List MV
 tk:Tok
 s:Int
 rd:Bool
def dZ (b:Bn):List MV:=[mi b.up,mi b.dp,mi b.od,.str b.k.g,.str b.k.a,.str b.k.t,.str b.k.c,.str b.v,mb b.hd,.str b.rv,.sl b.n b.iv b.tk,mi b.s,mb b.rd]
theorem dX (b:Bn):(dZ b).length=13:=rfl
def vT (C:List Bool) (b:Bn):Bool:=C.length==0||(decide (0<=b.up)&&(decide (b.up<(C.length:Int))&&C.getD b.up.toNat false))
def im (x:List Bool×List Bool×List Ky) (b:Bn):List Bool×List Bool×List Ky:=
 (x.1++[vT x.1 b&& !x.2.2.contains b.k],x.2.1++[vT x.1 b],if vT x.1 b&& !x.2.2.contains b.k then x.2.2++[b.k]else x.2.2)
def eD (L:List Bn):List Bool×List Bool×List Ky:=L.foldl im ([],[],[])
theorem yT (L:List Bn) (b:Bn):eD (L++[b])=im (eD L) b:=by simp[eD]
theorem pr:∀L:List Bn,(eD L).1.length=L.length/\(eD L).2.1.length=L.length:=by
 intro L
 have:∀(L:List Bn) x,(L.foldl im x).1.length=x.1.length+L.length/\(L.foldl im x).2.1.length=x.2.1.length+L.length:=by
  intro L;induction L with
  | nil=>intro x;exact⟨rfl,rfl⟩
  | cons b L ih=>
    intro x;rw[List.foldl_cons];have:=ih (im x b);simp only[im,acu,XN,RZ]at this ⊢;omega
 simpa[eD]using this L ([],[],[])
structure Vd (O O':VH) (vb lb cb mp:Nat) (L:List Bn) (tk:Tok) (C V:List Bool):Prop where
 ge:O.Ge O'
 v:O'.hp vb=some (.cells [.sl L.length (L.flatMap dZ) tk,.bq lb 0 L.length L.length,.bq cb 0 L.length L.length,.map mp])
 l:O'.hp lb=some (.cells (V.map mb))
 c:O'.hp cb=some (.cells (C.map mb))
 lo:O.next<=vb/\O.next<=lb/\O.next<=cb/\O.next<=mp
 hi:lb<vb/\cb<vb/\mp<vb/\lb≠cb/\lb≠mp/\cb≠mp/\vb<O'.next
theorem af5 {tab:bY} {t el:TypeId} {u:TypeDesc} {a b d:Nat} {z:List MV} {y:MV} (h:tab t=some ⟨.slice el,a,b,z⟩) (h2:tab el=some ⟨u,1,d,[y]⟩) (O:VH) (n:Nat) (hb:d*n<=281474976710656) (hn:n<=9223372036854775807):
  mr tab O t (.v (.int .i64 n)) (.v (.int .i64 n))=some (.bq O.next 0 n n,O.push (.cells (List.replicate n y))):=by
 simp only[mr,h,h2,Option.map_some,alP];rw[if_pos ⟨Int.natCast_nonneg _,Int.le_refl _,by omega,by rw[<-Int.natCast_mul];omega,Nat.zero_lt_one⟩,Nat.mul_one]
 congr 4
 apply List.ext_getElem?;intro i;simp only[iu,alI,List.getElem?_replicate];by_cases h:i<n
 ·rw[List.getElem?_range h,if_pos h];simp[Nat.mod_one]
 ·rw[List.getElem?_eq_none (by simp;omega),if_neg h];rfl
theorem W5 {a b:Ky} (h:eb a=eb b):a=b:=by
 obtain⟨a1,a2,a3,a4⟩:=a;obtain⟨b1,b2,b3,b4⟩:=b;simp only[eb,List.cons.injEq,and_true]at h;obtain⟨rfl,rfl,rfl,rfl⟩:=h;rfl
theorem abM {M:fy} {K:List Ky} (h:M.map (·.1)=K.map eb) (k:Ky):(jk (eb k) M).isSome=K.contains k:=by
 have h1:(jk (eb k) M).isSome=(M.map (·.1)).any (· ==eb k):=by
  unfold jk;rw[Option.isSome_map,List.any_map,alM,List.find?_isSome,al3];rfl
 rw[h1,h,List.any_map,al0,alM,al3,al3];constructor
 ·rintro⟨x,hx,e⟩;exact⟨x,hx,by simpa using(W5 (eq_of_beq e)).symm⟩
 ·rintro⟨x,hx,e⟩;exact⟨x,hx,by rw[eq_of_beq e];simp⟩
set_option maxHeartbeats 4000000 in
theorem Ij (L:List Bn) (tk:Tok) (hL:L.length<=1000000) (hk:∀b∈L,∀s∈eb b.k,s.length<=maxLen) (O:VH):VF Tryz.prog 32 [.sl L.length (L.flatMap dZ) tk] O (aE fun m O'=>∃vb lb cb mp,m= .ptr vb 0/\Vd O O' vb lb cb mp L tk (eD L).1 (eD L).2.1):=by
 have lY:=fun O'=>af5 (tab:=eh Tryz.prog) T26 T4 O' L.length (by omega) (by omega)
 have hlen:=aQ dX L;have gP:gZ (eh Tryz.prog) 22 (.sl L.length (L.flatMap dZ) tk)=some (.v (.int .i64 L.length)):=fj xh;have nB:∀a b c,Gi (k9 [(0,1),(1,1),(2,1),(3,1)]) [.sl L.length (L.flatMap dZ) tk,.sl 0 [] .nil,.sl 0 [] .nil,.v (.map none)] (.bq a 0 L.length L.length) [(2,.bq b 0 L.length L.length),(3,.map c)] (some (1,1))=some [.sl L.length (L.flatMap dZ) tk,.bq a 0 L.length L.length,.bq b 0 L.length L.length,.map c]:=fun _ _ _=>rfl
 refine VF.bN 90 [.tmp 2] Tryz.func32 ?_;refine VC.ag aa (ae @cY ?_);refine VC.bC [3,0] (fun x:Nat×Nat×Nat×Nat=>[.ptr x.1 0,.sl L.length (L.flatMap dZ) tk]) (fun x O'=>O.Ge O'/\O'.hp x.1=some (.cells [.sl L.length (L.flatMap dZ) tk,.bq x.2.1 0 L.length L.length,.bq x.2.2.1 0 L.length L.length,.map x.2.2.2])/\O'.hp x.2.1=some (.cells (List.replicate L.length (mb false)))/\O'.hp x.2.2.1=some (.cells (List.replicate L.length (mb false)))/\O'.hp x.2.2.2=some (.map [] 0)/\(O.next<=x.1/\O.next<=x.2.1/\O.next<=x.2.2.1/\O.next<=x.2.2.2)/\(x.2.1<x.1/\x.2.2.1<x.1/\x.2.2.2<x.1/\x.2.1≠x.2.2.1/\x.2.1≠x.2.2.2/\x.2.2.1≠x.2.2.2/\x.1<O'.next)) ?_ ?_
 ·refine VC.s8 [8,9,10] (fun O'=>True) (trivial) ?_;refine ab.av 0 ?_;refine ae @cY ?_;refine ab.av 1 ?_;refine ae @cY ?_;refine ab.av 2 ?_;refine ao @cY @gP ?_;refine ab.av 4 ?_;refine ae @cY ?_;refine ab.av 5 ?_;refine ao @cY @gP ?_;refine ab.abi (i:=3) (j:=6) (k:=7) ?_ ?_ ?_
  ·refine aK.o1 ?_;refine ao @cY @lY ?_;refine ab.pair (i:=6) (j:=7) ?_ ?_
   ·refine aK.o1 ?_;refine ao @cY @lY ?_;refine ab.op (i:=7) ?_;refine ao @cY @lY ?_;obtain⟨F,eF⟩:∃F,F=((O.push (.cells (List.replicate L.length (.v (.bool false))))).push (.cells (List.replicate L.length (.v (.bool false))))).push (.map [] 0):=⟨_,rfl⟩
    rw[<-eF];obtain⟨gF,nF,aF,bF,cF⟩:=lP _ _ _ eF;clear eF;refine ab.bO [(8,.one),(9,.one),(10,.one)] ?_;refine ao @cY @nB ?_;refine aA.mk (F.next,O.next,(O.next+1),(O.next+2)) ⟨gF.push _,VH.aW _ _,(VH.bA (k:=O.next) F _ (by omega)).trans aF,(VH.bA (k:=(O.next+1)) F _ (by omega)).trans bF,(VH.bA (k:=(O.next+2)) F _ (by omega)).trans cF,?_,?_⟩
    ·show O.next<=F.next/\O.next<=O.next/\O.next<=(O.next+1)/\O.next<=(O.next+2);omega
    ·show O.next<F.next/\(O.next+1)<F.next/\(O.next+2)<F.next/\O.next≠(O.next+1)/\O.next≠(O.next+2)/\(O.next+1)≠(O.next+2)/\F.next<F.next+1;omega
   ·refine aK.o1 ?_;refine ao @cY @lY ?_;refine ab.op (i:=6) ?_;refine ao @cY @lY ?_;obtain⟨F,eF⟩:∃F,F=((O.push (.cells (List.replicate L.length (.v (.bool false))))).push (.map [] 0)).push (.cells (List.replicate L.length (.v (.bool false)))):=⟨_,rfl⟩
    rw[<-eF];obtain⟨gF,nF,aF,bF,cF⟩:=lP _ _ _ eF;clear eF;refine ab.bO [(8,.one),(9,.one),(10,.one)] ?_;refine ao @cY @nB ?_;refine aA.mk (F.next,O.next,(O.next+2),(O.next+1)) ⟨gF.push _,VH.aW _ _,(VH.bA (k:=O.next) F _ (by omega)).trans aF,(VH.bA (k:=(O.next+2)) F _ (by omega)).trans cF,(VH.bA (k:=(O.next+1)) F _ (by omega)).trans bF,?_,?_⟩
    ·show O.next<=F.next/\O.next<=O.next/\O.next<=(O.next+2)/\O.next<=(O.next+1);omega
    ·show O.next<F.next/\(O.next+2)<F.next/\(O.next+1)<F.next/\O.next≠(O.next+2)/\O.next≠(O.next+1)/\(O.next+2)≠(O.next+1)/\F.next<F.next+1;omega
  ·refine aK.o1 ?_;refine ao @cY @lY ?_;refine ab.pair (i:=3) (j:=7) ?_ ?_
   ·refine aK.o1 ?_;refine ao @cY @lY ?_;refine ab.op (i:=7) ?_;refine ao @cY @lY ?_;obtain⟨F,eF⟩:∃F,F=((O.push (.cells (List.replicate L.length (.v (.bool false))))).push (.cells (List.replicate L.length (.v (.bool false))))).push (.map [] 0):=⟨_,rfl⟩
    rw[<-eF];obtain⟨gF,nF,aF,bF,cF⟩:=lP _ _ _ eF;clear eF;refine ab.bO [(8,.one),(9,.one),(10,.one)] ?_;refine ao @cY @nB ?_;refine aA.mk (F.next,(O.next+1),O.next,(O.next+2)) ⟨gF.push _,VH.aW _ _,(VH.bA (k:=(O.next+1)) F _ (by omega)).trans bF,(VH.bA (k:=O.next) F _ (by omega)).trans aF,(VH.bA (k:=(O.next+2)) F _ (by omega)).trans cF,?_,?_⟩
    ·show O.next<=F.next/\O.next<=(O.next+1)/\O.next<=O.next/\O.next<=(O.next+2);omega
    ·show(O.next+1)<F.next/\O.next<F.next/\(O.next+2)<F.next/\(O.next+1)≠O.next/\(O.next+1)≠(O.next+2)/\O.next≠(O.next+2)/\F.next<F.next+1;omega
   ·refine aK.o1 ?_;refine ao @cY @lY ?_;refine ab.op (i:=3) ?_;refine ao @cY @lY ?_;obtain⟨F,eF⟩:∃F,F=((O.push (.cells (List.replicate L.length (.v (.bool false))))).push (.map [] 0)).push (.cells (List.replicate L.length (.v (.bool false)))):=⟨_,rfl⟩
    rw[<-eF];obtain⟨gF,nF,aF,bF,cF⟩:=lP _ _ _ eF;clear eF;refine ab.bO [(8,.one),(9,.one),(10,.one)] ?_;refine ao @cY @nB ?_;refine aA.mk (F.next,(O.next+2),O.next,(O.next+1)) ⟨gF.push _,VH.aW _ _,(VH.bA (k:=(O.next+2)) F _ (by omega)).trans cF,(VH.bA (k:=O.next) F _ (by omega)).trans aF,(VH.bA (k:=(O.next+1)) F _ (by omega)).trans bF,?_,?_⟩
    ·show O.next<=F.next/\O.next<=(O.next+2)/\O.next<=O.next/\O.next<=(O.next+1);omega
    ·show(O.next+2)<F.next/\O.next<F.next/\(O.next+1)<F.next/\(O.next+2)≠O.next/\(O.next+2)≠(O.next+1)/\O.next≠(O.next+1)/\F.next<F.next+1;omega
  ·refine aK.o1 ?_;refine ao @cY @lY ?_;refine ab.pair (i:=3) (j:=6) ?_ ?_
   ·refine aK.o1 ?_;refine ao @cY @lY ?_;refine ab.op (i:=6) ?_;refine ao @cY @lY ?_;obtain⟨F,eF⟩:∃F,F=((O.push (.map [] 0)).push (.cells (List.replicate L.length (.v (.bool false))))).push (.cells (List.replicate L.length (.v (.bool false)))):=⟨_,rfl⟩
    rw[<-eF];obtain⟨gF,nF,aF,bF,cF⟩:=lP _ _ _ eF;clear eF;refine ab.bO [(8,.one),(9,.one),(10,.one)] ?_;refine ao @cY @nB ?_;refine aA.mk (F.next,(O.next+1),(O.next+2),O.next) ⟨gF.push _,VH.aW _ _,(VH.bA (k:=(O.next+1)) F _ (by omega)).trans bF,(VH.bA (k:=(O.next+2)) F _ (by omega)).trans cF,(VH.bA (k:=O.next) F _ (by omega)).trans aF,?_,?_⟩
    ·show O.next<=F.next/\O.next<=(O.next+1)/\O.next<=(O.next+2)/\O.next<=O.next;omega
    ·show(O.next+1)<F.next/\(O.next+2)<F.next/\O.next<F.next/\(O.next+1)≠(O.next+2)/\(O.next+1)≠O.next/\(O.next+2)≠O.next/\F.next<F.next+1;omega
   ·refine aK.o1 ?_;refine ao @cY @lY ?_;refine ab.op (i:=3) ?_;refine ao @cY @lY ?_;obtain⟨F,eF⟩:∃F,F=((O.push (.map [] 0)).push (.cells (List.replicate L.length (.v (.bool false))))).push (.cells (List.replicate L.length (.v (.bool false)))):=⟨_,rfl⟩
    rw[<-eF];obtain⟨gF,nF,aF,bF,cF⟩:=lP _ _ _ eF;clear eF;refine ab.bO [(8,.one),(9,.one),(10,.one)] ?_;refine ao @cY @nB ?_;refine aA.mk (F.next,(O.next+2),(O.next+1),O.next) ⟨gF.push _,VH.aW _ _,(VH.bA (k:=(O.next+2)) F _ (by omega)).trans cF,(VH.bA (k:=(O.next+1)) F _ (by omega)).trans bF,(VH.bA (k:=O.next) F _ (by omega)).trans aF,?_,?_⟩
    ·show O.next<=F.next/\O.next<=(O.next+2)/\O.next<=(O.next+1)/\O.next<=O.next;omega
    ·show(O.next+2)<F.next/\(O.next+1)<F.next/\O.next<F.next/\(O.next+2)≠(O.next+1)/\(O.next+2)≠O.next/\(O.next+1)≠O.next/\F.next<F.next+1;omega
 rintro⟨vb,lb,cb,mp⟩ O1 ⟨aM,mT,qg,fW,JE,xe,hhi⟩;dsimp only at mT qg fW JE xe hhi ⊢;clear lY nB;refine VC.bC [3] (fun _:Unit=>[.ptr vb 0]) (fun _ O'=>Vd O O' vb lb cb mp L tk (eD L).1 (eD L).2.1) ?_ ?_
 ·refine VC.ag aa (ao @cY @gP ?_);refine VC.az ?_;refine VC.bG [20] [3,18,19] (fun j:Nat=>[mi j]) (fun j O'=>j<=L.length/\O1.next<=O'.next/\(∀i,i<O1.next->i≠lb->i≠cb->i≠mp->O'.hp i=O1.hp i)/\O'.hp lb=some (.cells (((eD (L.take j)).2.1++List.replicate (L.length - j) false).map mb))/\O'.hp cb=some (.cells (((eD (L.take j)).1++List.replicate (L.length - j) false).map mb))/\∃M ck,O'.hp mp=some (.map (cI M) ck)/\n5 4 M/\M.map (·.1)=(eD (L.take j)).2.2.map eb) (fun j=>L.length - j) (0) ?_ ?_
  ·exact⟨alC _,acw _,fun _ _ _ _ _=>rfl,by rw[qg];simp[eD],by rw[fW];simp[eD],[],0,JE,⟨by simp,by simp⟩,by simp[eD]⟩
  rintro j O3 ⟨hj,gm,CP,lW,eN,M,ck,GD,hM,W6⟩;by_cases aX:j<L.length;rotate_left
  ·obtain rfl:j=L.length:=by omega
   rw[al4,Nat.sub_self,List.replicate_zero,ah6]at lW eN;refine WC.sound aa (ae @cY ?_);exact aA.mk () ⟨⟨by have:=aM.next;omega,fun i hi=>(CP i (by have:=aM.next;omega) (by omega) (by omega) (by omega)).trans (aM.hp i hi)⟩,(CP vb hhi.2.2.2.2.2.2 (by omega) (by omega) (by omega)).trans mT,lW,eN,xe,by omega⟩
  have cT:((j:Int)+1)=((j+1:Nat):Int):=by omega
  have bw:=bU dX L j aX;have eR:L.take (j+1)=L.take j++[L[j]]:=by rw[ahY aX]
  have uD:=hk L[j] (alK aX);have hY:=pr (L.take j);rw[List.length_take,ama hj]at hY;have dd:=yT (L.take j) L[j];rw[<-eR]at dd;rw[show L.length - j=(L.length - (j+1))+1 by omega,List.replicate_succ]at lW eN;generalize L[j]=b at*;generalize hDD:eD (L.take j)=D at*;generalize hr:L.length - (j+1)=r at*;obtain⟨C,V,K⟩:=D;dsimp only at hY lW eN W6;obtain⟨up,dp,od,⟨k1,k2,k3,k4⟩,v,hd,rv,nn,iv,xr,s,rd⟩:=b;simp only[dZ,aq,a_]at bw;have hv3:=(CP vb hhi.2.2.2.2.2.2 (by omega) (by omega) (by omega)).trans mT;refine VC.ag aa (ae @cY ?_);refine VC.ag aa (ae @cY ?_);refine VC.bB (VC.az ?_);refine VC.ag aa (ao @cY @bw ?_);refine VC.al ?_;rintro O4 ⟨aY,eA,gI⟩;have AR:=aY.at hv3;have ot:=aY.at lW;have ff:=aY.at eN;have Fv:=aY.at GD;have jX:C.length=j:=hY.1
  have kF:∀(W:List Bool) (a:Bool),W.length=j->((W++false::List.replicate r false).map mb).set j (.v (.bool a))=(W++a::List.replicate r false).map mb:=fun W a h=>by
   rw[List.map_append,alS,List.set_append_right _ _ (by rw[agt,h];exact acw _),agt,h,Nat.sub_self];simp[mb]
  have hsV:=fun a=>kF V a hY.2
  have Mr:∀u,u<j->((C++false::List.replicate r false).map mb)[u]?=some (.v (.bool (C.getD u false))):=fun u hu=>by
   rw[alI,alW (by omega),agw,TP (by omega)];rfl
  have Bv:(List.map mb (V++false::List.replicate r false)).length=j+1+r:=by simp;omega
  have sU:(List.map mb (C++false::List.replicate r false)).length=j+1+r:=by simp;omega
  generalize gh:vT C ⟨up,dp,od,⟨k1,k2,k3,k4⟩,v,hd,rv,nn,iv,xr,s,rd⟩=al at*;have aj6:=gh;simp only[im,aj6]at dd;unfold vT at gh;dsimp only at gh;rw[jX]at gh;refine VC.bC [3,4,5,18,19,20] (fun _:Unit=>[.ptr vb 0,.v (.int .i64 j),.ptr O3.next 0,.sl L.length (L.flatMap dZ) tk,.v (.int .i64 L.length),.v (.int .i64 j)]) (fun _ O'=>O'=O4.set lb (.cells ((V++al::List.replicate r false).map mb))) ?_ ?_
  ·refine WC.bO (.held [29]) [(0,.rd),(1,.rd),(2,.rd),(3,.rd),(4,.rd),(5,.rd),(6,.rd),(7,.rd),(8,.rd),(9,.rd),(10,.rd),(11,.rd),(12,.rd),(13,.rd),(14,.rd),(15,.rd),(16,.rd),(17,.rd),(18,.rd),(19,.rd),(20,.rd),(21,.rd),(22,.rd),(23,.rd),(24,.rd),(25,.rd),(26,.rd),(27,.rd),(28,.rd),(29,.one)] ?_;by_cases h0:j=0
   ·have e0:((j:Int)==0)=true:=by simp[h0]
    have ea:al=true:=by rw[<-gh];simp[h0]
    subst ea;refine ZO @cY @AR @eA @e0 @ot @Bv @hsV ?_;exact aA.mk () rfl
   have e0:((j:Int)==0)=false:=by simpa using h0
   rw[show(j==0)=false by simpa using h0,ami]at gh;by_cases h1:0<=up;rotate_left
   ·have e1:decide (0<=up)=false:=decide_eq_false h1;have e2:decide (up>=0)=false:=e1;rw[e1,ahX]at gh;subst gh;refine kw9 @cY @AR @eA @e0 @e1 @e2 @ot @Bv @hsV ?_;exact aA.mk () rfl
   obtain⟨u,rfl⟩:=Int.eq_ofNat_of_zero_le h1;have e1:decide (0<=(u:Int))=true:=decide_eq_true h1;have e2:decide ((u:Int)>=0)=true:=e1;rw[e1,ahZ]at gh;by_cases h2:u<j;rotate_left
   ·have e3:decide ((u:Int)<j)=false:=decide_eq_false (by omega);rw[e3,ahX]at gh;subst gh;refine kw9 @cY @AR @eA @e0 (Kn e1 e2) @e3 @ot @Bv @hsV ?_;exact aA.mk () rfl
   have e3:decide ((u:Int)<j)=true:=decide_eq_true (by omega);rw[e3,ahZ]at gh;have yU:=Mr u h2;rw[alP]at gh;rw[gh]at yU;refine kw9 cY AR eA e0 (Kn e1 e2) e3 (Kn ot Bv) (Kn ff sU) (Kn yU hsV) ?_;exact aA.mk () rfl
  rintro _ O5 e5;have GK:O5.hp lb=some (.cells ((V++al::List.replicate r false).map mb)):=by rw[e5];exact VH.an _ _ _
  have ia:∀i,i≠lb->O5.hp i=O4.hp i:=fun i h=>by rw[e5];exact VH.ak _ _ h
  have oP:=(ia vb (by omega)).trans AR;have lz:=(ia O3.next (by omega)).trans eA;have fK:=(ia cb (by omega)).trans ff;have xn:=(ia mp (by omega)).trans Fv;have fS:O5.next=O4.next:=by rw[e5];rfl
  have hsC:=kF C true jX;clear e5 AR eA ff Fv ot Bv hsV Mr kF;have ey:=abM W6 ⟨k1,k2,k3,k4⟩;refine VC.bB ?_;refine WC.bO (.held []) [(0,.rd),(1,.rd),(2,.rd),(3,.rd),(4,.rd),(5,.rd),(6,.rd),(7,.rd),(8,.rd),(9,.rd),(10,.rd),(11,.rd)] ?_;refine aJ @cY @oP @lz ?_;refine VL.hold (.inr rfl) rfl rfl (fQ.lK rC aa (l:=eb ⟨k1,k2,k3,k4⟩) (te:=⟨_,1,8,[.v (.int .i64 0)]⟩) Tryz.underlying75 T3 rfl rfl xn hM rfl rfl uD) (WL.sound aa ?_)
  have hgV:((V++al::List.replicate r false).map mb)[j]?=some (.v (.bool al)):=by
   rw[alI,List.getElem?_append_right (by omega),hY.2,Nat.sub_self];rfl
  have Bv:(List.map mb (V++al::List.replicate r false)).length=j+1+r:=by simp;omega
  have J5:∀i,i<O1.next->i≠lb->i≠cb->i≠mp->O5.hp i=O1.hp i:=fun i a1 a2 a3 a4=>(ia i a2).trans ((aY.hp i (by omega)).trans (CP i a1 a2 a3 a4))
  have alk:O3.next<=O5.next:=by rw[fS,gI];omega
  generalize alm:K.contains (⟨k1,k2,k3,k4⟩:Ky)=con at*;cases gq:jk (eb ⟨k1,k2,k3,k4⟩) M with
  | some m=>
    rw[gq]at ey;obtain rfl:con=true:=ey.symm;refine ae @cY ?_;cases al
    ·refine VC.ag aa (gQ @cY @oP @GK @Bv @hgV ?_);refine WC.sound aa (ae @cY ?_);refine WC.sound aa (ao @cY @cT ?_);refine ax.next (j+1) ⟨aX,by omega,J5,?_,?_,M,ck,xn,hM,?_⟩
     ·rw[dd,hr,GK];simp
     ·rw[dd,hr,fK];simp
     ·rw[dd];simpa using W6
    ·refine VC.ag aa (gQ @cY @oP @GK @Bv @hgV ?_);refine WC.sound aa (ae @cY ?_);refine WC.sound aa (ao @cY @cT ?_);refine ax.next (j+1) ⟨aX,by omega,J5,?_,?_,M,ck,xn,hM,?_⟩
     ·rw[dd,hr,GK];simp
     ·rw[dd,hr,fK];simp
     ·rw[dd];simpa using W6
  | none=>
    rw[gq]at ey;obtain rfl:con=false:=ey.symm;refine ae @cY ?_;cases al
    ·refine VC.ag aa (gQ @cY @oP @GK @Bv @hgV ?_);refine WC.sound aa (ae @cY ?_);refine WC.sound aa (ao @cY @cT ?_);refine ax.next (j+1) ⟨aX,by omega,J5,?_,?_,M,ck,xn,hM,?_⟩
     ·rw[dd,hr,GK];simp
     ·rw[dd,hr,fK];simp
     ·rw[dd];simpa using W6
    ·refine VC.ag aa (gQ @cY @oP @GK @Bv @hgV ?_)
     have kE:(M.any fun p=>p.1==eb ⟨k1,k2,k3,k4⟩)=false:=by
      unfold jk at gq;rw[Option.map_eq_none_iff,List.find?_eq_none]at gq;rw[List.any_eq_false];exact gq
     refine VC.Bg rfl ?_;refine VC.ag aa (gQ @cY @oP @fK @sU @hsC ?_);refine VC.gen ?_;intro O6 e6;have pe:∀i,i≠cb->O6.hp i=O5.hp i:=fun i h=>by rw[e6];exact VH.ak _ _ h
     have BT:O6.hp cb=some (.cells ((C++true::List.replicate r false).map mb)):=by rw[e6];exact VH.an _ _ _
     have n9:O6.next=O5.next:=by rw[e6];rfl
     clear e6;have hv6:=(pe vb (by omega)).trans oP;have nq:=(pe O3.next (by omega)).trans lz;have WM:=(pe mp (by omega)).trans xn;refine WC.bO (.held [7]) [(0,.rd),(1,.rd),(2,.rd),(3,.rd),(4,.rd),(5,.rd),(6,.rd),(7,.one)] ?_;refine aJ @cY @hv6 @nq ?_;refine VL.oH rfl rfl (oG.jI rC (l:=eb ⟨k1,k2,k3,k4⟩) (b:=mp) (ck:=ck) (M:=M) Tryz.underlying75 rfl WM hM rfl rfl uD rfl) (fun brk hb i hi=>?_) (WL.sound aa ?_)
     ·cases hb
      rcases i with _ | _ | _ | _ | _ | _ | _ | _ | i<;>first
       | rfl
       | (exfalso;revert hi;simp)
     have jC:=rW (y:=.v (.int .i64 j)) (ck:=ck) hM (l:=eb ⟨k1,k2,k3,k4⟩) rfl uD;unfold jI at jC;unfold jI LP;rw[kE]at jC ⊢;refine ae @cY ?_;refine VC.gen ?_;intro O7 e7;have vK:∀i,i≠mp->O7.hp i=O6.hp i:=fun i h=>by rw[e7];exact VH.ak _ _ h
     have hm7:O7.hp mp=some (.map (cI (M++[(eb ⟨k1,k2,k3,k4⟩,.v (.int .i64 j),ck)])) (ck+1)):=by rw[e7];exact VH.an _ _ _
     have uh:O7.next=O6.next:=by rw[e7];rfl
     clear e7;refine WC.sound aa (ao @cY @cT ?_);refine ax.next (j+1) ⟨aX,by omega,fun i a1 a2 a3 a4=>(vK i a4).trans ((pe i a3).trans (J5 i a1 a2 a3 a4)),?_,?_,_,_,hm7,jC,?_⟩
     ·rw[dd,hr,vK lb (by omega),pe lb (by omega),GK];simp
     ·rw[dd,hr,vK cb (by omega),BT];simp
     ·rw[dd];simp[W6]
 rintro _ O2 h2;refine VC.ag aa (ae @cY ?_);refine WC.sound aa (ae @cY ?_);exact⟨vb,lb,cb,mp,rfl,h2⟩
set_option linter.defProp false in
def aB:=Kn cY<|Kn Vz<|Kn VA ZP
structure Ch where
 k:Ky
 at':Int
 v:Bs
 s:Int
 deriving DecidableEq
def jz (c:Ch):List MV:=[.str c.k.g,.str c.k.a,.str c.k.t,.str c.k.c,mi c.at',.str c.v,mi c.s]
theorem qk (c:Ch):(jz c).length=7:=rfl
def ou (x y:Ky):Bool:=(x.g==y.g)&&((x.a==y.a)&&((x.t==y.t)&&((x.c==y.c)&&true)))
theorem abN (x y:Ky):ou x y=(x==y):=by
 obtain⟨a,b,c,d⟩:=x;obtain⟨a',b',c',d'⟩:=y;rw[alM];simp[ou]
theorem aej (L:List Bn) (tk:Tok) (hL:L.length<=1000000) (hk:∀b∈L,∀s∈eb b.k,s.length<=maxLen) (O:VH):VF Tryz.prog 12 [.sl L.length (L.flatMap dZ) tk] O (aE fun m O'=>∃lb,m= .bq lb 0 L.length L.length/\O.Ge O'/\O.next<=lb/\lb<O'.next/\O'.hp lb=some (.cells ((eD L).2.1.map mb))):=by
 refine VF.bN 8 [.tmp 2] Tryz.func12 ?_;refine VC.ag aa (ae @aB ?_);refine VC.ag aa (ae @aB ?_);refine ah.rt (Ij L tk hL hk O) ?_;rintro _ O2 ⟨vb,lb,cb,mp,rfl,h⟩;have hv:=h.v;refine ao @aB @hv ?_;refine WC.sound aa (ae @aB ?_);exact⟨lb,rfl,h.ge,h.lo.2.1,by have:=h.hi;omega,h.l⟩
theorem NS {α :Type} {f: α ->List MV} {sz:Nat} (hf:∀x,(f x).length=sz):∀(L:List α) (k:Nat),(L.take k).flatMap f=(L.flatMap f).take (k*sz)
 | [],k=>by simp
 | x::L,0=>by simp
 | x::L,k+1=>by
   rw[alU,alX,alX,NS hf L k,List.take_append,hf,Nat.succ_mul,Nat.add_sub_cancel,alQ (l:=f x) (by rw[hf];exact Nat.le_add_left _ _)]
theorem aek (L:List Ch) (tk:Tok) (id:FuncId) (cs:List MV) (p:Ch->Bool) (O:VH) (hid:cR Tryz.prog id=true) (hc:∀x∈L,∀O',O.Ge O'->VF Tryz.prog id ([.agg (jz x)]++cs) O' (aE fun m kx=>m=mb (p x)/\O'.Ge kx)) (hn:L.length<=1000000):
  VF Tryz.prog 36 [.sl L.length (L.flatMap jz) tk,.func (.func id) [] cs] O (aE fun m O'=>m=mi (idxFrom p 0 L)/\O.Ge O'):=by
 have dL:=aQ qk L;refine VF.dy 19 [.tmp 4] Tryz.func36 ?_;refine ae @aB ?_;refine WC.iS [8] [0,1,7] (fun j:Nat=>[mi j]) (fun j O'=>O.Ge O'/\j<=L.length/\idxFrom p 0 L=idxFrom p j (L.drop j)) (fun j=>L.length - j) (0) ?_ ?_
 ·exact⟨VH.Ge.refl _,alC _,rfl⟩
 rintro j O2 ⟨ay,hj,cK⟩;by_cases h2:j<L.length
 ·have bw:=bU qk L j h2;have Z_:=hc L[j] (alK h2) O2 ay;rw[alL h2,idxFrom]at cK;generalize L[j]=y at*;refine ao @aB @bw ?_;refine ah.rt Z_ ?_ (hb:=hid);rintro _ O3 ⟨rfl,aG⟩;cases hi:p y
  ·rw[hi]at cK;refine ae @aB ?_;exact ax.next (j+1) ⟨ay.trans aG,by omega,cK⟩
  ·rw[hi,if_pos rfl]at cK;rw[cK];refine ae @aB ?_;exact ay.trans aG
 ·obtain rfl:j=L.length:=by omega
  rw[List.drop_of_length_le (by omega)]at cK;rw[cK];refine ae @aB ?_;exact⟨rfl,ay⟩
theorem abO (x:Ch) (k:Ky) (b:Nat) (O:VH) (hb:O.hp b=some (.cells (fY k))) (VW:b<O.next):VF Tryz.prog 37 [.agg (jz x),.ptr b 0] O (aE fun m O'=>m=mb (ou x.k k)/\O.Ge O'):=by
 obtain⟨⟨x1,x2,x3,x4⟩,xa,xv,xs⟩:=x;obtain⟨k1,k2,k3,k4⟩:=k;simp only[jz,fY,aq]at hb ⊢;refine VF.bN 8 [.tmp 3] Tryz.func37 ?_;refine VC.ag aa (ae @aB ?_);refine VC.bx ?_;rintro O1 ⟨aM,ez,cW⟩;have cA:=aM.at hb;refine VC.ag aa (aJ @aB @ez @cA ?_);refine VL.Bj aa (bb:=(x1==k1)&&((x2==k2)&&((x3==k3)&&((x4==k4)&&true)))) (b:=(x1==k1)&&((x2==k2)&&((x3==k3)&&((x4==k4)&&true)))) (by simp) (by simp[iE]) (.inl ⟨rfl,rfl⟩) (by kernel_rfl) (by kernel_rfl) rfl rfl rfl rfl ?_;refine ae @aB ?_;refine WC.sound aa (ae @aB ?_);exact⟨by simp[mb,ou],aM⟩
def abP:Option Ch->MV
 | some c=>.tuple [.agg (jz c),mb true]
 | none=>.tuple [.agg (jz ⟨⟨[],[],[],[]⟩,0,[],0⟩),mb false]
theorem ael (L:List Ch) (tk:Tok) (k:Ky) (O:VH) (hn:L.length<=1000000):VF Tryz.prog 19 [.sl L.length (L.flatMap jz) tk,.agg (fY k)] O (aE fun m O'=>O.Ge O'/\m=abP (L.find? fun c=>ou c.k k)):=by
 have hix:(idxFrom (fun c=>ou c.k k) 0 L<0/\L.find? (fun c=>ou c.k k)=none)\/∃i c,idxFrom (fun c=>ou c.k k) 0 L=((i:Nat):Int)/\i<L.length/\L[i]?=some c/\L.find? (fun c=>ou c.k k)=some c:=by
  have key:∀(M:List Ch) (j:Nat),(idxFrom (fun c=>ou c.k k) j M<0/\M.find? (fun c=>ou c.k k)=none)\/∃i c,idxFrom (fun c=>ou c.k k) j M=((j+i:Nat):Int)/\i<M.length/\M[i]?=some c/\M.find? (fun c=>ou c.k k)=some c:=by
   intro M;induction M with
   | nil=>intro j;exact .inl ⟨by simp[idxFrom],rfl⟩
   | cons x M ih=>
     intro j;rw[idxFrom,List.find?_cons];cases hx:ou x.k k with
     | true=>exact .inr ⟨0,x,by simp,by simp,rfl,rfl⟩
     | false=>
       rcases ih (j+1)with⟨a,b⟩ | ⟨i,c,a,b,d,e⟩
       ·exact .inl ⟨by simpa using a,b⟩
       ·exact .inr ⟨i+1,c,by simp only[ah2,if_false];rw[a];congr 1;omega,by simp only[XN];omega,d,e⟩
  simpa using key L 0
 obtain⟨k1,k2,k3,k4⟩:=k;have hlen:=aQ qk L;simp only[fY];refine VF.bN 17 [.cell 4 39,.tmp 5] Tryz.func19 ?_;refine VC.ag aa (ae @aB ?_);refine VC.gen ?_;intro O1 e1;obtain⟨aM,cW,cJ,cA⟩:=gj _ _ e1;clear e1;refine VC.ag aa (ae @aB ?_);refine ah.rt (aek L tk 37 [.ptr O.next 0] (fun c=>ou c.k ⟨k1,k2,k3,k4⟩) O1 (by kernel_rfl) (fun x hx O2 ay=>abO x ⟨k1,k2,k3,k4⟩ O.next O2 (ay.at cJ) (by have:=ay.next;omega)) hn) ?_;rintro _ O2 ⟨rfl,ay⟩;have ct:=ay.at cA;have jn:=aM.trans ay;refine ae @aB ?_;rcases hix with⟨h1,h2⟩ | ⟨i,c,h1,h2,h3,h4⟩
 ·have e1:decide (idxFrom (fun c=>ou c.k ⟨k1,k2,k3,k4⟩) 0 L<0)=true:=decide_eq_true h1;rw[h2];refine VC.ag aa (aJ @aB @e1 @ct ?_);exact⟨jn.set (show O.next<=O.next+1 by omega) _,rfl⟩
 ·rw[h1,h4];have e1:decide (((i:Nat):Int)<0)=false:=decide_eq_false (by omega);have bw:=bU qk L i h2;rw[TP h2]at h3;injection h3 with h3;rw[h3]at bw;simp only[jz,aq]at bw;refine VC.ag aa (ao @aB @e1 ?_);refine VC.ag aa (aJ @aB @bw @ct ?_);refine WC.sound aa (ae @aB ?_);exact⟨jn.set (show O.next<=O.next+1 by omega) _,rfl⟩
def ov (s:Int):Int:=if s<1\/s>5 then 0 else 6 - s
def l9 (a b:Int):Int:=if ov b>ov a then b else a
theorem NT (s:Int) (O:VH):VF Tryz.prog 53 [mi s] O (aE fun m O'=>m=mi (ov s)/\O'=O):=by
 unfold ov;simp only[aq];refine VF.bN 11 [.tmp 2] Tryz.func53 ?_;refine VC.ag aa (ae @aB ?_);by_cases h1:s<1
 ·have e1:decide (s<1)=true:=decide_eq_true h1;rw[if_pos (.inl h1)];refine VC.ag aa (ao @aB @e1 ?_);trivial
 have e1:decide (s<1)=false:=decide_eq_false h1;by_cases h2:s>5
 ·have e2:decide (s>5)=true:=decide_eq_true h2;have e3:decide (5<s)=true:=e2;rw[if_pos (.inr h2)];refine VC.ag aa (c_ @aB @e1 @e2 @e3 ?_);trivial
 have e2:decide (s>5)=false:=decide_eq_false h2;have e3:decide (5<s)=false:=e2;rw[if_neg (by omega)];refine VC.ag aa (c_ @aB @e1 @e2 @e3 ?_);refine VC.ag aa (ae @aB ?_);refine WC.sound aa (ae @aB ?_);trivial
theorem W7 (a b:Int) (O:VH):VF Tryz.prog 34 [mi a,mi b] O (aE fun m O'=>m=mi (l9 a b)/\O'=O):=by
 unfold l9;have ha:=NT a O;have hb:=NT b O;simp only[aq]at ha hb ⊢;refine VF.bN 12 [.tmp 4] Tryz.func34 ?_;refine VC.ag aa (ae @aB ?_);refine VC.ag aa (ae @aB ?_);refine ah.rt hb ?_;rintro _ Ox ⟨rfl,eO⟩;rw[eO];clear eO Ox
 refine ae @aB ?_;refine ah.rt ha ?_;rintro _ Ox ⟨rfl,eO⟩;rw[eO];clear eO Ox
 by_cases h:ov b>ov a
 ·have e1:decide (ov b>ov a)=true:=decide_eq_true h;have e2:decide (ov a<ov b)=true:=e1;rw[if_pos h];refine aJ @aB @e1 @e2 ?_;trivial
 ·have e1:decide (ov b>ov a)=false:=decide_eq_false h;have e2:decide (ov a<ov b)=false:=e1;rw[if_neg h];refine aJ @aB @e1 @e2 ?_;refine VC.ag aa (ae @aB ?_);refine WC.sound aa (ae @aB ?_);trivial
theorem W8 (a b:Int) (O:VH):VF Tryz.prog 15 [mi a,mi b] O (aE fun m O'=>m=mi (l9 a b)/\O'=O):=by
 simp only[aq];refine VF.bN 19 [.tmp 4] Tryz.func15 ?_;refine VC.ag aa (ae @aB ?_);refine VC.bC [0,1] (fun _:Unit=>[.v (.int .i64 a),.v (.int .i64 b)]) (fun _ O'=>O'=O/\(a<1\/5<a)/\(b<1\/5<b)) ?_ ?_
 ·refine VC.ag aa (ae @aB ?_);refine VC.az ?_;refine VC.bG [5] [0,1] (fun j:Nat=>[mi (j+1)]) (fun j O'=>O'=O/\j<=5/\(a<1\/j<a)/\(b<1\/j<b)) (fun j=>5 - j) (0) ?_ ?_
  ·exact⟨rfl,by omega,by omega,by omega⟩
  rintro j O2 ⟨eO,hj,h1,h2⟩;rw[eO];clear eO O2
  by_cases rA:j<5;rotate_left
  ·obtain rfl:j=5:=by omega
   have e1:decide (((5:Nat):Int)+1<=5)=false:=rfl;refine WC.sound aa (ao @aB @e1 ?_);exact aA.mk () ⟨rfl,h1,h2⟩
  have e1:decide ((j:Int)+1<=5)=true:=decide_eq_true (by omega);have cT:((j:Int)+1+1)=((j+1:Nat):Int)+1:=by omega
  refine VC.ag aa (ao @aB @e1 ?_);refine VC.bB (VC.az ?_);by_cases h3:a=(j:Int)+1
  ·have e2:(a==(j:Int)+1)=true:=by simpa using h3
   have e3:l9 a b=a:=by unfold l9 ov;split<;>omega
   rw[e3];refine VC.ag aa (ao @aB @e2 ?_);trivial
  have e2:(a==(j:Int)+1)=false:=by simpa using h3
  refine VC.ag aa (ao @aB @e2 ?_);by_cases h4:b=(j:Int)+1
  ·have e3:(b==(j:Int)+1)=true:=by simpa using h4
   have e4:l9 a b=b:=by unfold l9 ov;split<;>omega
   rw[e4];refine VC.ag aa (ao @aB @e3 ?_);refine WC.sound aa (ae @aB ?_);trivial
  have e3:(b==(j:Int)+1)=false:=by simpa using h4
  refine VC.ag aa (ao @aB @e3 ?_);refine WC.sound aa (ae @aB ?_);refine WC.sound aa (ao @aB @cT ?_);exact ax.next (j+1) ⟨rfl,rA,by omega,by omega⟩
 rintro _ O2 ⟨eO,h1,h2⟩;rw[eO];clear eO O2
 have e3:l9 a b=a:=by unfold l9 ov;split<;>omega
 rw[e3];refine VC.ag aa (ae @aB ?_);refine WC.sound aa (ae @aB ?_);trivial
theorem RA (L:List Bn) (k:Ky):(eD L).2.2.contains k=(L.zip (eD L).1).any fun p=>p.2&&(p.1.k==k):=by
 have h:∀(n:Nat) (L:List Bn),L.length=n->(eD L).2.2.contains k=(L.zip (eD L).1).any fun p=>p.2&&(p.1.k==k):=by
  intro n;induction n with
  | zero=>intro L hl;rw[alE hl];rfl
  | succ n ih=>
    intro L hl;obtain⟨M,b,rfl⟩:∃M b,L=M++[b]:=⟨L.dropLast,L.getLast (by intro e;rw[e]at hl;simp at hl),(List.dropLast_concat_getLast _).symm⟩
    have hm:M.length=n:=by simpa using hl
    have:=ih M hm;have hd:=pr M;rw[yT,im];dsimp only;rw[amc hd.1.symm,List.any_append, <-this];cases hc:vT (eD M).1 b&& !(eD M).2.2.contains b.k
    ·simp
    ·simp only[if_true,List.contains_append,List.zip_cons_cons,List.zip_nil_right,amj,List.any_nil,amk,ahZ]
     congr 1
     rw[al0];simp only[amj,List.any_nil,amk];rw[alM];simp only[beq_iff_eq];exact eq_comm
 exact h L.length L rfl
theorem RB {l ds:List MV} {a n:Nat} (h:(l.drop a).take n=ds) (i m:Nat) (him:i+m<=n):(l.drop (a+i)).take m=(ds.drop i).take m:=by
 rw[<-h,List.drop_take,ame,List.take_take,ama (by omega)]
set_option maxHeartbeats 4000000 in
theorem RD (L:List Bn) (tk:Tok) (hL:L.length<=1000000) (O:VH):VF Tryz.prog 16 [.sl L.length (L.flatMap dZ) tk] O (aE fun m O'=>(∃t1 t2,m= .tuple [.sl (eD L).1.length ((eD L).1.map mb) t1,.sl (eD L).2.1.length ((eD L).2.1.map mb) t2])/\O.Ge O'):=by
 have hlen:=aQ dX L;have gP:gZ (eh Tryz.prog) 22 (.sl L.length (L.flatMap dZ) tk)=some (.v (.int .i64 L.length)):=fj xh;refine VF.bN 69 [.tmp 2,.tmp 3] Tryz.func16 ?_;refine VC.ag aa (ae @aB ?_);refine VC.ag aa (ae @aB ?_);refine VC.bC [4,5] (fun x:Tok×Tok=>[.sl (eD L).1.length ((eD L).1.map mb) x.1,.sl (eD L).2.1.length ((eD L).2.1.map mb) x.2]) (fun _ O'=>O.Ge O') ?_ ?_
 ·refine VC.ag aa (ao @aB @gP ?_);refine VC.az ?_;refine VC.bG [4,5,13] [0,11,12] (fun x:Nat×Tok×Tok=>[.sl (eD (L.take x.1)).1.length ((eD (L.take x.1)).1.map mb) x.2.1,.sl (eD (L.take x.1)).2.1.length ((eD (L.take x.1)).2.1.map mb) x.2.2,mi x.1]) (fun x O'=>x.1<=L.length/\O.Ge O'/\App O' O.next 1 x.2.1/\App O' O.next 1 x.2.2/\∀i,Tok.id x.2.1=some i->Tok.id x.2.2≠some i) (fun x=>L.length - x.1) ((0,.nil,.nil)) ?_ ?_
  ·exact⟨alC _,VH.Ge.refl _,trivial,trivial,fun i h=>by cases h⟩
  rintro⟨j,t1,t2⟩ O3 ⟨hj,aG,cJ,iK,hne⟩;dsimp only at hj cJ iK hne;by_cases aX:j<L.length;rotate_left
  ·obtain rfl:j=L.length:=by omega
   rw[al4];refine WC.sound aa (ae @aB ?_);exact aA.mk (t1,t2) aG
  have cT:((j:Int)+1)=((j+1:Nat):Int):=by omega
  have bw:=bU dX L j aX;have aj7:=fun k hk=>RB (bU dX L k hk) 3 4 (by decide)
  have eR:L.take (j+1)=L.take j++[L[j]]:=by rw[ahY aX]
  have hY:=pr (L.take j);rw[List.length_take,ama hj]at hY;have dd:=yT (L.take j) L[j];rw[<-eR]at dd;have pB:=RA (L.take j) L[j].k;generalize hb:L[j]=b at*;generalize hDD:eD (L.take j)=D at*;obtain⟨C,V,K⟩:=D;dsimp only at hY pB ⊢;obtain⟨up,dp,od,⟨k1,k2,k3,k4⟩,v,hd,rv,nn,iv,xr,s,rd⟩:=b;simp only[dZ,aq,a_]at bw;refine VC.ag aa (ae @aB ?_);refine VC.ag aa (ae @aB ?_);refine VC.bB (VC.az ?_);refine VC.ag aa (ao @aB @bw ?_);refine VC.al ?_;rintro O4 ⟨aY,eA,gI⟩;have jX:C.length=j:=hY.1
  have Mr:∀u,u<j->(C.map mb)[u]?=some (.v (.bool (C.getD u false))):=fun u hu=>by
   rw[alI,agw,TP (by omega)];rfl
  have sU:(List.map mb C).length=j:=by simp[jX]
  generalize gh:vT C ⟨up,dp,od,⟨k1,k2,k3,k4⟩,v,hd,rv,nn,iv,xr,s,rd⟩=al at*;simp only[im,gh]at dd;unfold vT at gh;dsimp only at gh;rw[jX]at gh;refine VC.bC [0,4,5,6,7,8,11,12,13] (fun _:Unit=>[.sl L.length (L.flatMap dZ) tk,.sl C.length (C.map mb) t1,.sl V.length (V.map mb) t2,.v (.int .i64 j),.ptr O3.next 0,.v (.bool al),.sl L.length (L.flatMap dZ) tk,.v (.int .i64 L.length),.v (.int .i64 j)]) (fun _ O'=>O'=O4) ?_ ?_
  ·rw[jX];by_cases h0:j=0
   ·have e0:((j:Int)==0)=true:=by simp[h0]
    have ea:al=true:=by rw[<-gh];simp[h0]
    subst ea;refine WC.sound aa (aJ @aB @eA @e0 ?_);exact aA.mk () rfl
   have e0:((j:Int)==0)=false:=by simpa using h0
   rw[show(j==0)=false by simpa using h0,ami]at gh;by_cases h1:0<=up;rotate_left
   ·have e1:decide (0<=up)=false:=decide_eq_false h1;have e2:decide (up>=0)=false:=e1;rw[e1,ahX]at gh;subst gh;refine WC.sound aa (gQ @aB @eA @e0 @e1 @e2 ?_);exact aA.mk () rfl
   obtain⟨u,rfl⟩:=Int.eq_ofNat_of_zero_le h1;have e1:decide (0<=(u:Int))=true:=decide_eq_true h1;have e2:decide ((u:Int)>=0)=true:=e1;rw[e1,ahZ]at gh;by_cases h2:u<j;rotate_left
   ·have e3:decide ((u:Int)<j)=false:=decide_eq_false (by omega);rw[e3,ahX]at gh;subst gh;refine WC.sound aa (Bm @aB @eA @e0 @e1 @e2 @e3 ?_);exact aA.mk () rfl
   have e3:decide ((u:Int)<j)=true:=decide_eq_true (by omega);rw[e3,ahZ]at gh;have yU:=Mr u h2;rw[alP]at gh;rw[gh]at yU;refine WC.sound aa (P8 @aB @eA @e0 @e1 @e2 @e3 @sU @yU ?_);exact aA.mk () rfl
  rintro _ Ox eO;rw[eO];clear eO Ox
  obtain⟨f,hf0,hfs,hfj⟩:∃f:Nat->Bool,f 0=al/\(∀k (h:k<j) (h2:k<L.length),f (k+1)=(f k&& !(C.getD k false&&(L[k].k==⟨k1,k2,k3,k4⟩))))/\f j=(al&& !K.contains ⟨k1,k2,k3,k4⟩):=by
   refine⟨fun k=>al&& !((L.take k).zip (C.take k)).any fun p=>p.2&&(p.1.k==⟨k1,k2,k3,k4⟩),by simp,fun k h h2=>?_,?_⟩
   ·dsimp only;rw[<-ahY h2, <-ahY (show k<C.length by omega),amc (by simp;omega),List.any_append,agw,TP (show k<C.length by omega)];simp only[List.zip_cons_cons,List.zip_nil_right,amj,List.any_nil,amk,al1];rw[Bool.not_or,Bool.and_assoc]
   ·dsimp only;rw[alQ (al7 jX),pB]
  clear pB gh;rw[jX,hY.2];refine VC.ag aa (ae @aB ?_);refine VC.bC [0,4,5,7,8,9,11,12,13] (fun _:Unit=>[.sl L.length (L.flatMap dZ) tk,.sl j (C.map mb) t1,.sl j (V.map mb) t2,.ptr O3.next 0,.v (.bool al),.v (.bool (al&& !K.contains ⟨k1,k2,k3,k4⟩)),.sl L.length (L.flatMap dZ) tk,.v (.int .i64 L.length),.v (.int .i64 j)]) (fun _ O'=>O'=O4) ?_ ?_
  ·refine VC.ag aa (ae @aB ?_);refine VC.az ?_;refine VC.bG [9,10] [0,4,5,6,7,8,11,12,13] (fun k:Nat=>[mb (f k),mi k]) (fun k O'=>O'=O4/\k<=j) (fun k=>j - k) 0 ?_ ?_ (h0:=by rw[hf0];rfl)
   ·exact⟨rfl,alC _⟩
   rintro k Ox ⟨eO,hkj⟩;rw[eO];clear eO Ox
   by_cases bJ:k<j;rotate_left
   ·have aj8:k=j:=by omega
    have e1:decide ((k:Int)<j)=false:=decide_eq_false (by omega);refine WC.sound aa (ao @aB @e1 ?_);exact aA.mk () rfl (h1:=by rw[aj8,hfj];rfl)
   have e1:decide ((k:Int)<j)=true:=decide_eq_true (by omega);have xL:((k:Int)+1)=((k+1:Nat):Int):=by omega
   have hkL:k<L.length:=by omega
   have fu:=Mr k bJ;have CS:=aj7 k hkL;have qw:=hfs k bJ hkL;generalize L[k]=y at*;obtain⟨_,_,_,⟨y1,y2,y3,y4⟩,_,_,_,_,_,_,_,_⟩:=y;simp only[dZ,List.drop_succ_cons,List.drop_zero,alU,List.take_zero]at CS;dsimp only at qw;rw[<-abN]at qw;refine VC.ag aa (ao @aB @e1 ?_);refine VC.bB (VC.az ?_);refine VC.bB ?_;refine WC.reads ?_;cases hc:C.getD k false
   ·rw[hc]at fu qw;rw[ahX,Bool.not_false,alY]at qw;refine aJ @aB @sU @fu ?_;refine WC.sound aa (ae @aB ?_);refine WC.sound aa (ao @aB @xL ?_);exact ax.next (k+1) ⟨rfl,bJ⟩ (hl:=by rw[qw];rfl)
   ·rw[hc]at fu qw;rw[ahZ]at qw;refine Bm @aB @sU @fu @hlen @CS @eA ?_;refine VL.Bj aa (bb:=(y1==k1)&&((y2==k2)&&((y3==k3)&&((y4==k4)&&true)))) (b:=(y1==k1)&&((y2==k2)&&((y3==k3)&&((y4==k4)&&true)))) (by simp) (by simp) (.inl ⟨rfl,rfl⟩) (by kernel_rfl) (by kernel_rfl) rfl rfl rfl rfl ?_;unfold ou at qw;dsimp only at qw;generalize ((y1==k1)&&((y2==k2)&&((y3==k3)&&((y4==k4)&&true))))=q at*;cases q
    ·rw[Bool.not_false,alY]at qw;refine ae @aB ?_;refine WC.sound aa (ae @aB ?_);refine WC.sound aa (ao @aB @xL ?_);exact ax.next (k+1) ⟨rfl,bJ⟩ (hl:=by rw[qw];rfl)
    ·rw[Bool.not_true,amf]at qw;refine ae @aB ?_;refine WC.sound aa (ae @aB ?_);refine WC.sound aa (ao @aB @xL ?_);exact ax.next (k+1) ⟨rfl,bJ⟩ (hl:=by rw[qw];rfl)
  rintro _ Ox eO;rw[eO];clear eO Ox
  clear hfs hf0 hfj f;generalize (al&& !K.contains ⟨k1,k2,k3,k4⟩)=c at*;have cC:=cJ.ge aY;have vQ:=iK.ge aY;have mT:=bj (tk:=t1) (tk':=.full) (n:=j) (k:=1) (cs:=C.map mb) (ds:=[.v (.bool c)]) T26 T4 cC (by rw[sU,Nat.mul_one]) rfl rfl (by decide) (by decide) (by omega) (by simp only[maxLen];omega);refine VC.ag aa (ae @aB ?_);refine VL.app mT ?_;refine ae @aB ?_;have gq:=cL.after cC;have af6:=aG.trans aY;have bH:=cL.ei af6 cC gq;have jL:=gq.app vQ hne;have fS:(O4.after t1).next=O4.next+1:=VH.dU _ _;have cA:App (O4.after t1) O.next 1 (.own O4.next 1):=App.after af6.next;have hid:∀i,Tok.id t2=some i->i<O4.next:=fun i h=>(vQ.n8 h).2
  generalize O4.after t1=O5 at*;have CK:=bj (tk:=t2) (tk':=.full) (n:=j) (k:=1) (cs:=V.map mb) (ds:=[.v (.bool al)]) T26 T4 jL (by rw[agt,hY.2,Nat.mul_one]) rfl rfl (by decide) (by decide) (by omega) (by simp only[maxLen];omega);refine WC.sound aa (ae @aB ?_);refine VL.app CK ?_;refine ae @aB ?_;have nM:=cL.after jL;have fJ:=cL.ei bH jL nM
  have ct:=nM.app cA fun i h e=>by
   have:=hid i h;injection e with e;omega
  have cg:App (O5.after t2) O.next 1 (.own O5.next 1):=App.after bH.next;refine WC.sound aa (ao @aB @cT ?_);exact ax.next (j+1,.own O4.next 1,.own O5.next 1) ⟨aX,fJ,ct,cg,fun i h e=>by injection h with h;injection e with e;omega⟩ (hl:=by dsimp only;rw[dd];simp[jX,hY.2,mb,mi];rfl)
 rintro⟨t1,t2⟩ O2 h2;refine VC.ag aa (ae @aB ?_);refine WC.sound aa (ae @aB ?_);exact⟨⟨t1,t2,rfl⟩,h2⟩
def sr (b:Bn) (M:List (Bn×Bool)):Int:=M.foldl (fun s p=>if decide (b.dp>1)&&(p.2&&ou p.1.k b.k)then l9 s p.1.s else s) b.s
def qC (L:List Bn) (C V:List Bool):Nat->List Ch
 | 0=>[]
 | j+1=>qC L C V j++match L[j]? with
   | some b=>if C.getD j false then[⟨b.k,j,b.v,sr b (L.zip V)⟩]else[]
   | none=>[]
def j7 (L:List Bn):List Ch:=qC L (eD L).1 (eD L).2.1 L.length
theorem AS (L:List Bn) (C V:List Bool):∀j,(qC L C V j).length<=j
 | 0=>acw _
 | j+1=>by
   have:=AS L C V j;rw[qC,acu];split
   ·split<;>simp<;>omega
   ·simp;omega
theorem FG (b:Bn) (L:List Bn) (V:List Bool) (hV:V.length=L.length):∃g:Nat->Int,g 0=b.s/\(∀k (h:k<L.length),g (k+1)=if decide (b.dp>1)&&(V.getD k false&&ou L[k].k b.k)then l9 (g k) L[k].s else g k)/\g L.length=sr b (L.zip V):=by
 refine⟨fun k=>sr b ((L.take k).zip (V.take k)),by simp[sr],fun k h=>?_,by dsimp only;rw[al4,alQ (al7 hV)]⟩;dsimp only;rw[<-ahY h, <-ahY (show k<V.length by omega),amc (by simp;omega),agw,TP (show k<V.length by omega)];unfold sr;rw[List.foldl_append];simp
set_option maxHeartbeats 4000000 in
theorem RE (L:List Bn) (tk:Tok) (hL:L.length<=1000000) (O:VH):VF Tryz.prog 17 [.sl L.length (L.flatMap dZ) tk] O (aE fun m O'=>(∃t,m= .sl (j7 L).length ((j7 L).flatMap jz) t)/\O.Ge O'):=by
 have hlen:=aQ dX L;have gP:gZ (eh Tryz.prog) 22 (.sl L.length (L.flatMap dZ) tk)=some (.v (.int .i64 L.length)):=fj xh;have hY:=pr L;have tn:=RD L tk hL O;unfold j7;refine VF.bN 70 [.tmp 2] Tryz.func17 ?_;refine VC.ag aa (ae @aB ?_);refine VC.ag aa (ae @aB ?_);refine ah.rt tn ?_;clear tn;rintro _ O1 ⟨⟨u1,u2,rfl⟩,aM⟩;rw[hY.1,hY.2];refine ae @aB ?_;refine VC.ag aa (ae @aB ?_);generalize eD L=D at*;obtain⟨C,V,K⟩:=D;dsimp only at hY ⊢;clear K;have sU:(C.map mb).length=L.length:=by simp[hY.1]
 have ir:(V.map mb).length=L.length:=by simp[hY.2]
 have W9:∀(W:List Bool),W.length=L.length->∀u,u<L.length->(W.map mb)[u]?=some (.v (.bool (W.getD u false))):=fun W h u hu=>by
  rw[alI,agw,TP (by omega)];rfl
 refine VC.bC [5] (fun t:Tok=>[.sl (qC L C V L.length).length ((qC L C V L.length).flatMap jz) t]) (fun _ O'=>O.Ge O') ?_ ?_
 ·refine VC.ag aa (ao @aB @gP ?_);refine VC.az ?_;refine VC.bG [5,18] [0,3,4,16,17] (fun x:Nat×Tok=>[.sl (qC L C V x.1).length ((qC L C V x.1).flatMap jz) x.2,mi x.1]) (fun x O'=>x.1<=L.length/\O1.Ge O'/\App O' O1.next 7 x.2) (fun x=>L.length - x.1) ((0,.nil)) ?_ ?_
  ·exact⟨alC _,VH.Ge.refl _,trivial⟩
  rintro⟨j,t1⟩ O3 ⟨hj,aG,cJ⟩;dsimp only at hj cJ;by_cases aX:j<L.length;rotate_left
  ·obtain rfl:j=L.length:=by omega
   refine WC.sound aa (ae @aB ?_);exact aA.mk t1 (aM.trans aG)
  have cT:((j:Int)+1)=((j+1:Nat):Int):=by omega
  have bw:=bU dX L j aX;have gk:qC L C V (j+1)=qC L C V j++if C.getD j false then[⟨L[j].k,j,L[j].v,sr L[j] (L.zip V)⟩]else[]:=by rw[qC,TP aX]
  obtain⟨g,kh,RF,rj⟩:=FG L[j] L V hY.2;generalize L[j]=b at*;obtain⟨up,dp,od,⟨k1,k2,k3,k4⟩,v,hd,rv,nn,iv,xr,s,rd⟩:=b;simp only[dZ,aq,a_]at bw;dsimp only at kh RF gk;have yU:=W9 C hY.1 j aX;have jX:=AS L C V j;refine VC.ag aa (ae @aB ?_);refine VC.ag aa (ae @aB ?_);refine VC.bB (VC.az ?_);refine VC.ag aa (ao @aB @bw ?_);refine VC.al ?_;rintro O4 ⟨aY,eA,gI⟩;cases hc:C.getD j false
  ·rw[hc]at yU gk;rw[if_neg (by decide),ah6]at gk;refine VC.ag aa (aJ @aB @sU @yU ?_);refine WC.sound aa (ao @aB @cT ?_);exact ax.next (j+1,t1) ⟨aX,aG.trans aY,cJ.ge aY⟩ (hl:=by dsimp only;rw[gk];rfl)
  rw[hc]at yU gk;rw[if_pos rfl]at gk;refine VC.ag aa (aJ @aB @sU @yU ?_);refine VC.ag aa (ao @aB @eA ?_);refine VC.bC [0,3,4,5,6,7,8,16,17,18] (fun _:Unit=>[.sl L.length (L.flatMap dZ) tk,.sl L.length (C.map mb) u1,.sl L.length (V.map mb) u2,.sl (qC L C V j).length ((qC L C V j).flatMap jz) t1,.v (.int .i64 j),.ptr O3.next 0,.v (.int .i64 (sr ⟨up,dp,od,⟨k1,k2,k3,k4⟩,v,hd,rv,nn,iv,xr,s,rd⟩ (L.zip V))),.sl L.length (L.flatMap dZ) tk,.v (.int .i64 L.length),.v (.int .i64 j)]) (fun _ O'=>O4.Ge O') ?_ ?_
  ·refine VC.ag aa (ao @aB @gP ?_);refine VC.az ?_;refine VC.bG [8,32] [0,3,4,5,6,7,16,17,18,30,31] (fun k:Nat=>[mi (g k),mi k]) (fun k O'=>O4.Ge O'/\k<=L.length) (fun k=>L.length - k) 0 ?_ ?_ (h0:=by rw[kh];rfl)
   ·exact⟨VH.Ge.refl _,alC _⟩
   rintro k O5 ⟨bH,hkj⟩;by_cases bJ:k<L.length;rotate_left
   ·obtain rfl:k=L.length:=by omega
    rw[<-rj];refine WC.sound aa (ae @aB ?_);exact aA.mk () bH
   have xL:((k:Int)+1)=((k+1:Nat):Int):=by omega
   have af7:=bU dX L k bJ;have W_:=W9 V hY.2 k bJ;have fu:=RF k bJ;generalize L[k]=y at*;obtain⟨yu,yd,yo,⟨y1,y2,y3,y4⟩,yv,yh,yr,yn,yi,yt,ys,yq⟩:=y;simp only[dZ,aq,a_]at af7;dsimp only at fu;generalize V.getD k false=vk at*;have lz:=bH.at eA;refine VC.ag aa (ae @aB ?_);refine VC.ag aa (ae @aB ?_);refine VC.bB (VC.az ?_);refine VC.ag aa (ao @aB @af7 ?_);refine VC.al ?_;rintro O6 ⟨fJ,hy6,n9⟩;have nq:=fJ.at lz (hk:=by have:=bH.next;omega);have xI:=bH.trans fJ;by_cases h1:dp>1;rotate_left
   ·have e1:decide (dp>1)=false:=decide_eq_false h1;have e2:decide (1<dp)=false:=e1;rw[e1,ahX,if_neg (by decide)]at fu;refine VC.ag aa (c_ @aB @nq @e1 @e2 ?_);refine WC.sound aa (ae @aB ?_);refine WC.sound aa (ao @aB @xL ?_);exact ax.next (k+1) ⟨xI,bJ⟩ (hl:=by rw[fu];rfl)
   have e1:decide (dp>1)=true:=decide_eq_true h1;have e2:decide (1<dp)=true:=e1;rw[e1,ahZ]at fu;cases vk
   ·rw[ahX,if_neg (by decide)]at fu;refine VC.ag aa (Bm @aB @nq @e1 @e2 @ir @W_ ?_);refine WC.sound aa (ae @aB ?_);refine WC.sound aa (ao @aB @xL ?_);exact ax.next (k+1) ⟨xI,bJ⟩ (hl:=by rw[fu];rfl)
   rw[ahZ]at fu;refine VC.ag aa (ZO @aB @nq @e1 @e2 @ir @W_ @hy6 ?_);refine VL.Bj aa (bb:=(y1==k1)&&((y2==k2)&&((y3==k3)&&((y4==k4)&&true)))) (b:=(y1==k1)&&((y2==k2)&&((y3==k3)&&((y4==k4)&&true)))) (by simp) (by simp[iE]) (.inl ⟨rfl,rfl⟩) (by kernel_rfl) (by kernel_rfl) rfl rfl rfl rfl ?_;unfold ou at fu;dsimp only at fu;generalize ((y1==k1)&&((y2==k2)&&((y3==k3)&&((y4==k4)&&true))))=q at*;cases q
   ·rw[if_neg (by decide)]at fu;refine ae @aB ?_;refine WC.sound aa (ae @aB ?_);refine WC.sound aa (ao @aB @xL ?_);exact ax.next (k+1) ⟨xI,bJ⟩ (hl:=by rw[fu];rfl)
   ·rw[if_pos rfl]at fu;have hw:=W8 (g k) ys O6;simp only[aq]at hw;refine ae @aB ?_;refine WC.sound aa (ao @aB @hy6 ?_);refine ah.rt hw ?_;rintro _ Ox ⟨rfl,eO⟩;rw[eO];clear eO Ox
    refine ae @aB ?_;refine WC.sound aa (ao @aB @xL ?_);exact ax.next (k+1) ⟨xI,bJ⟩ (hl:=by rw[fu];rfl)
  rintro _ O5 bH;have lz:=bH.at eA;have cC:=(cJ.ge aY).ge bH;have jn:=aG.trans (aY.trans bH);have mT:=bj (tk:=t1) (tk':=.full) (n:=(qC L C V j).length) (k:=1) (cs:=(qC L C V j).flatMap jz) (ds:=[.str k1,.str k2,.str k3,.str k4,.v (.int .i64 j),.str v,.v (.int .i64 (sr ⟨up,dp,od,⟨k1,k2,k3,k4⟩,v,hd,rv,nn,iv,xr,s,rd⟩ (L.zip V)))]) Vz VA.1.1 cC (aQ qk _) rfl rfl (by decide) (by decide) (by omega) (by simp only[maxLen];omega);refine WC.sound aa (ao @aB @lz ?_);refine VL.app mT ?_;refine ae @aB ?_;refine WC.sound aa (ao @aB @cT ?_);exact ax.next (j+1,.own O5.next 7) ⟨aX,cL.ei jn cC (cL.after cC),App.after jn.next⟩ (hl:=by dsimp only;rw[gk,acu,alV,alF];rfl)
 rintro t O2 h2;refine VC.ag aa (ae @aB ?_);refine WC.sound aa (ae @aB ?_);exact⟨⟨t,rfl⟩,h2⟩
def Xa:Prop:=∀(L:List Bn) (tk:Tok) (O:VH),L.length<=1000000->(∀b∈L,∀s∈eb b.k,s.length<=maxLen)->VF Tryz.prog 13 [.sl L.length (L.flatMap dZ) tk] O (aE fun m O'=>(∃t,m= .sl (j7 L).length ((j7 L).flatMap jz) t)/\O.Ge O')
def RG (c:UInt8):Bool:=jJ c||c==42
structure lA (s:Bs):Prop where
 ne:s≠[]
 all:∀c∈s,RG c=true
structure AT (s:Bs):Prop where
 ne:s≠[]
 hd:lD (s.headD 0)=true
 all:∀c∈s,jJ c=true
theorem AU {c:UInt8} (h:RG c=true):c≠60/\c≠38/\c≠62/\c≠13/\mw c=true/\lS c=false:=by
 have:∀c:UInt8,RG c=true->(c≠60/\c≠38/\c≠62/\c≠13/\mw c=true/\lS c=false):=by
  intro c h;simp only[RG,jJ,lD,pM,HH,Bool.or_eq_true,al5,decide_eq_true_eq,beq_iff_eq, <-UInt8.toNat_inj]at h;simp only[mw,lS,ne_eq, <-UInt8.toNat_inj,decide_eq_true_eq,decide_eq_false_iff_not];have e1:(60:UInt8).toNat=60:=rfl;have e2:(38:UInt8).toNat=38:=rfl;have e3:(62:UInt8).toNat=62:=rfl;have e4:(13:UInt8).toNat=13:=rfl;have e5:(42:UInt8).toNat=42:=rfl;rw[e5]at h;rw[e1,e2,e3,e4];omega
 exact this c h
theorem abQ {c:UInt8} (h:lD c=true):c≠33/\c≠63/\c≠47:=by
 simp only[lD,decide_eq_true_eq]at h;simp only[ne_eq, <-UInt8.toNat_inj];have e1:(33:UInt8).toNat=33:=rfl;have e2:(63:UInt8).toNat=63:=rfl;have e3:(47:UInt8).toNat=47:=rfl;rw[e1,e2,e3];omega
theorem FH {s:Bs} (h:∀c∈s,RG c=true):mA false s=s:=by
 induction s with
 | nil=>rfl
 | cons c s ih=>
   have hc:=AU (h c (acv ..));have ih:=ih fun d hd=>h d (ags _ hd)
   unfold mA at ih ⊢;rw[alX,ih];have:oV false c=[c]:=by simp[oV,hc.1,hc.2.1,hc.2.2.1,hc.2.2.2.1]
   rw[this];rfl
theorem j9 {t:Bs} {o:Nat} {a b:Bs} (h:t.drop o=a++b):t.drop (o+a.length)=b:=by
 rw[<-ame,h,List.drop_left]
theorem ow {t:Bs} {o:Nat} {c:UInt8} {b:Bs} (h:t.drop o=c::b):o<t.length:=by
 have:=congrArg List.length h;rw[List.length_drop,XN]at this;omega
theorem Xb {t:Bs} {o:Nat} {a:Bs} (h:t.drop o=a) (ha:a≠[]):t.length=o+a.length:=by
 have:=congrArg List.length h;rw[List.length_drop]at this;have:a.length≠0:=fun e=>ha (alE e)
 omega
theorem abR {p:UInt8->Bool} {n:Bs} {c:UInt8} {r:Bs} (h:∀x∈n,p x=true) (hc:p c=false):(n++c::r).takeWhile p=n:=by
 induction n with
 | nil=>simp[hc]
 | cons x n ih=>rw[Km,List.takeWhile_cons,h x (acv ..),if_pos rfl,ih fun y hy=>h y (ags _ hy)]
theorem NU {n:Bs} {c:UInt8} {r:Bs} (h:AT n) (hc:jJ c=false):jZ (n++c::r)=n.length:=by
 unfold jZ;rw[abR h.all hc];obtain⟨x,m,rfl⟩:∃x m,n=x::m:=by cases n with | nil=>exact absurd rfl h.ne | cons x m=>exact⟨x,m,rfl⟩
 have:=h.hd;simp only[List.headD_cons]at this;simp[this]
theorem Ik {t:Bs} {o:Nat} {n:Bs} {c:UInt8} {r:Bs} {e:Int} (hd:t.drop o=n++c::r) (h:AT n) (hc:jJ c=false):jr t o e= .ok (n,o+n.length):=by
 obtain⟨x,m,hx⟩:∃x m,n=x::m:=by cases n with | nil=>exact absurd rfl h.ne | cons x m=>exact⟨x,m,rfl⟩
 have ew:=ow (hd.trans (by rw[hx];rfl:_=x::(m++c::r)));unfold jr;rw[if_neg (by omega),hd,NU h hc,if_neg (by rw[hx];simp),List.take_left]
theorem ql {s:Bs} {c d:UInt8} {p:Bs}:dP (c::s) (d::p)=(c==d&&dP s p):=by
 simp only[dP,XN,alU];rfl
theorem su {s:Bs}:dP s []=true:=by simp[dP]
theorem NV {t:Bs} {o:Nat} {c:UInt8} {r:Bs} (hd:t.drop o=c::r):iV t o [c]= .ok ((),o+1):=by
 unfold iV;rw[if_neg (by have:=ow hd;omega),hd,ql,su,if_pos (by simp)];rfl
theorem abS {t:Bs} {o:Nat} {c:UInt8} {r:Bs} (hd:t.drop o=c::r) (hc:lS c=false):ky t o=0:=by
 unfold ky;rw[hd,List.takeWhile_cons,hc];rfl
theorem NW:jJ 62=false:=by decide
theorem Il {t:Bs} {o:Nat} {n r:Bs} (h:AT n) (hd:t.drop o=[60]++(n++62::r)):mF t o= .ok (⟨1,n,[],[],o⟩,o+(n.length+2)):=by
 obtain⟨x,m,hx⟩:∃x m,n=x::m:=by cases n with | nil=>exact absurd rfl h.ne | cons x m=>exact⟨x,m,rfl⟩
 have hf:=h.hd;rw[hx,List.headD_cons]at hf;obtain⟨h33,h63,Wd⟩:=abQ hf;have qd:=j9 hd;have kf:=j9 qd;have hn:jr t (o+1) 11= .ok (n,o+1+n.length):=Ik qd h NW
 have bw:lG t (t.length+1 - (o+1+n.length)) (o+1+n.length) []= .ok ([],o+1+n.length):=by
  have hb:=abS kf (by decide);rw[alJ]at hb;generalize t.length+1 - (o+1+n.length)=k;cases k with
  | zero=>rfl
  | succ k=>unfold lG;rw[hb,if_pos (.inl rfl),al8]
 rw[alJ]at kf;have ri:t.drop o=60::x::(m++62::r):=by rw[hd,hx];rfl
 unfold mF rz;simp only[ri,ql,su,beq_eq_false_iff_ne.2 h33,beq_eq_false_iff_ne.2 h63,beq_eq_false_iff_ne.2 Wd,amf,ahX,alY,ahZ,beq_self_eq_true,ah2,if_false,if_true,and_false];unfold vv;rw[hn];dsimp only;rw[bw];dsimp only;rw[kf,ql,su];rw[if_neg (by decide),NV kf];simp only[tZ];rw[show o+1+n.length+1=o+(n.length+2) by omega]
theorem FI {t:Bs} {o:Nat} {n r:Bs} (h:AT n) (hd:t.drop o=[60,47]++(n++62::r)):mF t o= .ok (⟨3,n,[],[],o⟩,o+(n.length+3)):=by
 have qd:=j9 hd;have kf:=j9 qd;rw[show[(60:UInt8),47].length=2 from rfl]at qd kf;have hn:jr t (o+2) 11= .ok (n,o+2+n.length):=Ik qd h NW;have hb:=abS kf (by decide);have ri:t.drop o=60::47::(n++62::r):=hd;unfold mF rz;simp only[ri,ql,su,show((47:UInt8)==33)=false from rfl,show((47:UInt8)==63)=false from rfl,amf,ahX,alY,ahZ,beq_self_eq_true,ah2,if_false,if_true,and_false];unfold qM;rw[hn];dsimp only;rw[hb,al8,NV kf];simp only[tZ];rw[show o+2+n.length+1=o+(n.length+3) by omega]
theorem NX {t:Bs} {r:Bs}:∀(s:Bs) (k o:Nat) (acc:Bs),(∀c∈s,RG c=true)->t.drop o=s++60::r->s.length<k->eQ t 60 k o acc= .ok (acc++s,o+s.length)
 | s,0,_,_,_,_,hk=>by omega
 | [],k+1,o,acc,_,hd,_=>by
   have:=ow hd
   have hg:t[o]?=some 60:=by
    have h0:(t.drop o)[0]?=some 60:=by rw[hd];rfl
    simpa using h0
   unfold eQ;rw[hg];dsimp only;rw[if_pos rfl,ah6,RZ,al8]
 | c::s,k+1,o,acc,h,hd,hk=>by
   have hg:t[o]?=some c:=by
    have h0:(t.drop o)[0]?=some c:=by rw[hd];rfl
    simpa using h0
   obtain⟨L9,Z2,_,_,uZ,_⟩:=AU (h c (acv ..));unfold eQ;rw[hg];dsimp only;rw[if_neg L9,if_neg Z2,if_neg (by rw[uZ];simp[L9]),NX s k (o+1) (acc++[c]) (fun d hd=>h d (ags _ hd)) (j9 (a:=[c]) hd) (by rw[XN]at hk;omega)];rw[agv,XN,show o+1+s.length=o+(s.length+1) by omega];rfl
theorem Xc {t:Bs} {o:Nat} {s r:Bs} (h:lA s) (hd:t.drop o=s++60::r):mF t o= .ok (⟨4,[],[],s,o⟩,o+s.length):=by
 obtain⟨x,m,hx⟩:∃x m,s=x::m:=by cases s with | nil=>exact absurd rfl h.ne | cons x m=>exact⟨x,m,rfl⟩
 obtain⟨L9,_⟩:=AU (h.all x (by rw[hx];exact acv ..));have hlen:=Xb hd (by simp);rw[acu,XN]at hlen;have hl:=NX s (t.length+1 - o) o [] h.all hd (by omega);have ri:t.drop o=x::(m++60::r):=by rw[hd,hx];rfl
 unfold mF rz;simp only[ri,ql,su,beq_eq_false_iff_ne.2 L9,ahX,ah2,if_false,and_false];rw[hl,yP];rfl
mutual
def qm:Nd->Prop
 | .mk n a k t=>AT n/\a=[]/\t=[]/\k≠[]/\((∃s,lA s/\k=[.mk [] [] [] s])\/xT k)
def xT:List Nd->Prop
 | []=>True
 | x::r=>qm x/\xT r
end
mutual
def tB:Nd->Nat
 | .mk _ _ k _=>1+nE k
def nE:List Nd->Nat
 | []=>0
 | x::r=>max (tB x) (nE r)
end
def aem (K:List Nd) (L:List Tk):Prop:=∀(p:PS) (n:Bs) (a:List (Bs×Bs)) (K0:List Nd) (S:List (Bs×List (Bs×Bs)×List Nd)) (R:List Tk),p.st=(n,a,K0)::S->p.dn=false->p.b9+bX K<=4096->S.length+1+nE K<=64->
 ∃b,jx (L++R) p=jx R ⟨(n,a,K0++K)::S,p.b9+bX K,false,b,p.z⟩
theorem qn {x:Tk} {l:List Tk} {p q:PS} (h:kz x p= .ok q):jx (x::l) p=jx l q:=by rw[jx,h]
theorem FJ {n:Bs} {o:Nat} {p:PS} (hd:p.dn=false) (hl:p.st.length<64) (hc:p.b9+1<=4096):kz ⟨1,n,[],[],o⟩ p= .ok ⟨(n,[],[])::p.st,p.b9+1,p.dn,false,p.z⟩:=by
 unfold kz sf;rw[if_neg (by dsimp only;decide),if_pos rfl,hd];simp only[ah2,if_false];rw[if_neg (by omega),if_neg (by omega)]
theorem CH {n:Bs} {o:Nat} {p:PS} {a:List (Bs×Bs)} {K:List Nd} {S:List (Bs×List (Bs×Bs)×List Nd)} (h:p.st=(n,a,K)::S):kz ⟨3,n,[],[],o⟩ p= .ok (tq p):=by
 unfold kz;rw[if_neg (by dsimp only;decide),if_neg (by dsimp only;decide),if_neg (by dsimp only;decide),if_pos rfl,h];dsimp only;rw[if_pos rfl]
theorem RH {s:Bs} {o:Nat} {p:PS} {n:Bs} {a:List (Bs×Bs)} {K:List Nd} {S:List (Bs×List (Bs×Bs)×List Nd)} (h:p.st=(n,a,K)::S) (hs:s≠[]) (ht:p.tx=false) (hc:p.b9+1<=4096):kz ⟨4,[],[],s,o⟩ p= .ok ⟨(n,a,K++[.mk [] [] [] s])::S,p.b9+1,p.dn,true,p.z⟩:=by
 unfold kz np;rw[if_pos rfl,h];dsimp only;rw[if_neg hs,ht];simp only[ah2,if_false];rw[if_neg (by omega)];try rfl
theorem yV {n:Bs} {k:List Nd} (hn:n≠[]) (hk:k≠[]):cu (.mk n [] k [])=[60]++(n++62::(aT k++([60,47]++(n++[62])))):=by
 rw[cu,if_neg hn];have:k.length≠0:=fun e=>hk (alE e)
 simp only[if_neg this,yD,EH,acs,ah6];rw[if_neg (by decide),if_neg (by decide),if_neg (by decide),if_pos trivial];simp only[agv,Km,yP]
theorem qo {t:Bs} {x:Tk} {o o' k:Nat} {l:List Tk} (ho:o<t.length) (h:mF t o= .ok (x,o')):iW t (k+1) o l=iW t k o' (l++[x]):=by
 rw[iW,if_neg (by omega),h]
def J6 (K:List Nd):Prop:=∀(t:Bs) (o k:Nat) (l:List Tk) (r:Bs),t.drop o=aT K++r->(aT K).length<=k->∃j L,j<=(aT K).length/\iW t k o l=iW t (k - j) (o+(aT K).length) (l++L)/\aem K L
theorem jT (x:Nd):aT [x]=cu x:=by rw[aT,aT,List.append_nil]
theorem lB (x:Nd):bX [x]=ef x:=by rw[bX,bX,Nat.add_zero]
theorem xc (x:Nd):nE [x]=tB x:=by rw[nE,nE];omega
theorem Xd {n:Bs} {k:List Nd} (hn:AT n) (hk:k≠[]) (h:(∃s,lA s/\k=[.mk [] [] [] s])\/J6 k):J6 [.mk n [] k []]:=by
 intro t o f l r hd hf;rw[jT,yV hn.ne hk]at hd hf ⊢;have qd:t.drop o=[60]++(n++62::(aT k++([60,47]++(n++62::r)))):=by rw[hd];simp only[agv,Km,yP]
 have kf:t.drop (o+(n.length+2))=aT k++([60,47]++(n++62::r)):=by
  have:=j9 (a:=[60]++n++[62]) (b:=aT k++([60,47]++(n++62::r))) (qd.trans (by simp only[List.append_assoc,List.cons_append,List.nil_append]));have hL:List.length ([(60:UInt8)]++n++[62])=n.length+2:=by simp
  rwa [hL]at this
 have Az:=j9 kf;have hlen:([60]++(n++62::(aT k++([60,47]++(n++[62]))))).length=(n.length+2)+(aT k).length+(n.length+3):=by simp;omega
 rw[hlen]at hf ⊢;have Ji:=ow qd;have De:=ow Az
 have key:∃j L,j<=(aT k).length/\iW t (f - 1) (o+(n.length+2)) (l++[⟨1,n,[],[],o⟩])=iW t (f - 1 - j) (o+(n.length+2)+(aT k).length) (l++[⟨1,n,[],[],o⟩]++L)/\∀(p:PS) (S:List (Bs×List (Bs×Bs)×List Nd)) (R:List Tk),p.st=(n,[],[])::S->p.tx=false->p.dn=false->p.b9+bX k<=4096->S.length+1+nE k<=64->∃b,jx (L++R) p=jx R ⟨(n,[],k)::S,p.b9+bX k,false,b,p.z⟩:=by
  rcases h with⟨s,hs,rfl⟩ | h
  ·have hp:aT [.mk [] [] [] s]=s:=by rw[jT,cu,if_pos rfl,FH hs.all]
   rw[hp]at kf hf ⊢;obtain⟨x,m,hx⟩:∃x m,s=x::m:=by cases s with | nil=>exact absurd rfl hs.ne | cons x m=>exact⟨x,m,rfl⟩
   refine⟨1,[⟨4,[],[],s,o+(n.length+2)⟩],by rw[hx];simp,?_,?_⟩
   ·rw[show f - 1=(f - 1 - 1)+1 by rw[hx]at hf;simp only[XN]at hf;omega,qo (ow (kf.trans (by rw[hx];rfl:_=x::(m++([60,47]++(n++62::r)))))) (Xc hs kf)];rfl
   ·intro p S R h1 h2 h3 h4 h5;rw[lB,ef,bX]at h4 ⊢;refine⟨true,?_⟩;rw[alT,qn (RH h1 hs.ne h2 h4),h3];rfl
  ·obtain⟨j,L,hj,he,hr⟩:=h t (o+(n.length+2)) (f - 1) (l++[⟨1,n,[],[],o⟩]) _ kf (by omega);refine⟨j,L,hj,he,?_⟩;intro p S R h1 h2 h3 h4 h5;have:=hr p n [] [] S R h1 h3 h4 h5;simpa using this
 obtain⟨j,L,hj,he,hr⟩:=key;refine⟨j+2,⟨1,n,[],[],o⟩::(L++[⟨3,n,[],[],o+(n.length+2)+(aT k).length⟩]),by omega,?_,?_⟩
 ·rw[show f=(f - 1)+1 by omega,qo Ji (Il hn qd),he,show f - 1 - j=(f - 1 - j - 1)+1 by omega,qo De (FI hn Az)]
  congr 1
  ·omega
  ·omega
  ·simp
 ·intro p n' a' K0 S R h1 h2 h3 h4;rw[lB,ef]at h3 ⊢;rw[xc,tB]at h4;rw[Km,qn (FJ h2 (by rw[h1,XN];omega) (by omega)),h2,agv];obtain⟨b,hb⟩:=hr ⟨(n,[],[])::p.st,p.b9+1,false,false,p.z⟩ p.st ([⟨3,n,[],[],o+(n.length+2)+(aT k).length⟩]++R) rfl rfl rfl (by dsimp only;omega) (by rw[h1,XN];omega);refine⟨false,?_⟩;rw[hb,alT,qn (CH (p:=⟨(n,[],k)::p.st,p.b9+1+bX k,false,b,p.z⟩) rfl)];unfold tq;dsimp only;rw[h1];dsimp only;rw[show p.b9+1+bX k=p.b9+(1+bX k) by omega]
mutual
theorem aen:∀x:Nd,qm x->J6 [x]
 | .mk n a k t,h=>by
   rw[qm]at h;obtain⟨hn,rfl,rfl,hk,h⟩:=h;refine Xd hn hk ?_;rcases h with h | h
   ·exact .inl h
   ·exact .inr (FK k h)
theorem FK:∀K:List Nd,xT K->J6 K
 | [],_=>by
   intro t o k l r hd hk;refine⟨0,[],acw _,by rw[aT];simp,?_⟩;intro p n a K0 S R h1 h2 h3 h4;refine⟨p.tx,?_⟩;rw[bX,yP,ah6,al8, <-h2, <-h1]
 | x::K,h=>by
   rw[xT]at h;have hx:=aen x h.1;have hK:=FK K h.2;intro t o k l r hd hk;have hp:aT (x::K)=aT [x]++aT K:=by rw[jT,aT]
   rw[hp]at hd hk ⊢;rw[agv]at hd;rw[acu]at hk ⊢;obtain⟨j1,L1,cT,he1,ny⟩:=hx t o k l _ hd (by omega);obtain⟨j2,L2,aX,he2,fl⟩:=hK t (o+(aT [x]).length) (k - j1) (l++L1) r (j9 hd) (by omega);refine⟨j1+j2,L1++L2,by omega,?_,?_⟩
   ·rw[he1,he2,agv,Nat.add_assoc,Nat.sub_sub]
   ·intro p n a K0 S R h1 h2 h3 h4;have hs:bX (x::K)=bX [x]+bX K:=by rw[lB,bX]
    have As:nE (x::K)=max (nE [x]) (nE K):=by rw[xc,nE]
    rw[hs]at h3 ⊢;rw[As]at h4;obtain⟨b1,e1⟩:=ny p n a K0 S (L2++R) h1 h2 (by omega) (by omega);obtain⟨b2,e2⟩:=fl ⟨(n,a,K0++[x])::S,p.b9+bX [x],false,b1,p.z⟩ n a (K0++[x]) S R rfl rfl (by dsimp only;omega) (by omega);refine⟨b2,?_⟩;rw[agv,e1,e2,agv,Nat.add_assoc];rfl
end
theorem J7 {n:Bs} {k:List Nd} (hn:AT n) (hk:k≠[]) (hs:xT k) (hc:1+bX k<=4096) (hd:nE k<=63):ie (cu (.mk n [] k []))= .ok (.mk n [] k []):=by
 have hp:=yV hn.ne hk;generalize ht:cu (.mk n [] k [])=t at hp;have qd:t.drop 0=[60]++(n++62::(aT k++([60,47]++(n++[62])))):=by rw[List.drop_zero,hp]
 have hlen:t.length=(n.length+2)+(aT k).length+(n.length+3):=by rw[hp];simp;omega
 have kf:t.drop (0+(n.length+2))=aT k++([60,47]++(n++62::[])):=by
  have:=j9 (a:=[60]++n++[62]) (b:=aT k++([60,47]++(n++62::[]))) (qd.trans (by simp only[List.append_assoc,List.cons_append,List.nil_append]));have hL:List.length ([(60:UInt8)]++n++[62])=n.length+2:=by simp
  rwa [hL]at this
 have Az:=j9 kf;obtain⟨j,L,hj,he,hr⟩:=FK k hs t (0+(n.length+2)) t.length ([]++[⟨1,n,[],[],0⟩]) _ kf (by omega)
 have kC:ua t= .ok ([]++[⟨1,n,[],[],0⟩]++L++[⟨3,n,[],[],0+(n.length+2)+(aT k).length⟩]):=by
  unfold ua;rw[qo (ow qd) (Il hn qd),he,show t.length - j=(t.length - j - 1)+1 by omega,qo (ow Az) (FI hn Az)];generalize t.length - j - 1=f;cases f with
  | zero=>rfl
  | succ f=>rw[iW,if_pos (by omega)]
 have cj:∃q:PS,jx ([]++[⟨1,n,[],[],0⟩]++L++[⟨3,n,[],[],0+(n.length+2)+(aT k).length⟩]) p0= .ok q/\q.st=[]/\q.dn=true/\q.z= .mk n [] k []:=by
  rw[yP,alT,Km,qn (FJ rfl (by decide) (by decide))];obtain⟨b,hb⟩:=hr ⟨(n,[],[])::p0.st,p0.b9+1,p0.dn,false,p0.z⟩ n [] [] [] [⟨3,n,[],[],0+(n.length+2)+(aT k).length⟩] rfl rfl (by show 0+1+bX k<=4096;omega) (by show 0+1+nE k<=64;omega);rw[hb,qn (CH (p:=⟨[(n,[],[]++k)],p0.b9+1+bX k,false,b,p0.z⟩) rfl),jx];exact⟨_,rfl,rfl,rfl,rfl⟩
 obtain⟨q,h1,h2,h3,h4⟩:=cj;unfold ie;rw[kC];dsimp only;rw[h1];dsimp only;rw[h2,h3,h4];simp
def lf (n s:Bs):Nd:=.mk n [] [.mk [] [] [] s] []
theorem jA {L:List Nd} {n s:Bs} (h:s≠[]):cc L n s=L++[lf n s]:=by unfold cc;rw[if_neg h];rfl
theorem yW {L:List Nd} {n:Bs}:cc L n []=L:=by unfold cc;rw[if_pos rfl]
theorem Xe {s:Bs} (h:lA s):trimB s=s:=by
 have h1:s.dropWhile lS=s:=by
  cases s with
  | nil=>rfl
  | cons c s=>rw[List.dropWhile_cons,(AU (h.all c (acv ..))).2.2.2.2.2];rfl
 unfold trimB Jd;rw[h1]
 have h2:s.reverse.dropWhile lS=s.reverse:=by
  cases hr:s.reverse with
  | nil=>rfl
  | cons c r=>
    have:c∈s:=by rw[<-List.mem_reverse,hr];exact acv ..
    rw[List.dropWhile_cons,(AU (h.all c this)).2.2.2.2.2];rfl
 rw[h2,List.reverse_reverse]
theorem Xf {n s w:Bs} {e:Bool} (h:lA s) (hl:s.length<=1024):pX (lf n s) w e= .ok s:=by
 have h1:sX (lf n s)=s:=by
  unfold sX;have:iT (lf n s).kids=s:=by simp[iT,lf,Nd.kids,Nd.nm,Nd.tx]
  rw[this,Xe h]
 have h2:cE (lf n s) []=[]:=by simp[cE,lf,Nd.kids,ku,Nd.nm]
 unfold pX;rw[h1,h2,if_neg];rintro(h | h | h)
 ·exact absurd h (by simp)
 ·omega
 ·exact h.1 |> fun e=> ‹lA s›.ne e
theorem j_ {x:Nd} {w name s:Bs} {r8:Bool} {right:Bs->Bool} (hk:cE x name=[lf name s]) (h:lA s) (hl:s.length<=1024) (hr:right s=true):bS x w name r8 right= .ok s:=by
 unfold bS cw;rw[hk];dsimp only;rw[Xf h hl];simp only[Jm,hr,if_true]
theorem sw {x:Nd} {w name:Bs} {right:Bs->Bool} (hk:cE x name=[]):bS x w name false right= .ok []:=by
 unfold bS cw;rw[hk];rfl
theorem CI {n:Bs} {a:List (Bs×Bs)} {t name:Bs} {K:List Nd} (hn:name≠[]) (h:∀y∈K,y.nm=name):cE (.mk n a K t) name=K:=by
 unfold cE;rw[Nd.kids,List.filter_eq_self];intro y hy;simp[ku,h y hy,hn]
structure J8 (d:Dp):Prop where
 g:lA d.g
 a:lA d.a
 v:lA d.v
 gl:d.g.length<=1024
 al:d.a.length<=1024
 vl:d.v.length<=1024
 t:d.t=[]
 c:d.c=[]
 s:d.s=0\/d.s=1\/d.s=2\/d.s=3\/d.s=4\/d.s=5
 o:d.o=0\/d.o=1
 x:∀i∈d.x,(lA i.g/\i.g.length<=1024/\h_ i.g=true)/\lA i.a/\i.a.length<=1024/\h_ i.a=true
 xl:d.x.length<=1024
theorem aeo {i:fR} {w:Bs} (h:(lA i.g/\i.g.length<=1024/\h_ i.g=true)/\lA i.a/\i.a.length<=1024/\h_ i.a=true):exE (gM i,w)= .ok i:=by
 have hk:gM i= .mk tV [] [lf dW i.g,lf dM i.a] []:=by
  unfold gM;rw[jA h.1.1.ne,jA h.2.1.ne];rfl
 unfold exE;dsimp only;rw[hk,j_ (s:=i.g) rfl h.1.1 h.1.2.1 h.1.2.2];dsimp only;rw[j_ (s:=i.a) rfl h.2.1 h.2.2.1 h.2.2.2]
theorem NY:∀(X:List fR) (ws:List (Nd×Bs)) (Y:List fR),(∀i∈X,(lA i.g/\i.g.length<=1024/\h_ i.g=true)/\lA i.a/\i.a.length<=1024/\h_ i.a=true)->ws.map (·.1)=X.map gM->xJ ws Y= .ok (Y++X)
 | [],ws,Y,_,hw=>by
   rw[List.map_nil,agx]at hw;rw[hw,xJ,ah6]
 | i::X,ws,Y,h,hw=>by
   cases ws with
   | nil=>cases hw
   | cons p ws=>
     rw[alS,alS,List.cons.injEq]at hw;obtain⟨q,w⟩:=p;obtain⟨rfl,hw⟩:=hw;rw[xJ,aeo (h i (acv ..))];dsimp only;rw[NY X ws (Y++[i]) (fun j hj=>h j (ags _ hj)) hw,agv];rfl
theorem Im (w name:Bs) (K:List Nd):(pZ w name K).map (·.1)=K:=by
 unfold pZ;apply List.ext_getElem
 ·simp
 ·intro i h1 h2;simp
def eV (d:Dp):List Nd:=[lf dW d.g,lf dM d.a,lf fA d.v]++(if d.s=0 then[]else[lf qK (dS d.s)])++(if d.o=1 then[lf mz ki]else[])++(if d.x=[]then[]else[.mk lN [] (d.x.map gM) []])
theorem BY {d:Dp} (h:J8 d):fa d= .mk lE [] (eV d) []:=by
 unfold fa yC eV jP;dsimp only;rw[h.t,h.c,jA h.g.ne,jA h.a.ne,jA h.v.ne,yW,yW];have hx:(d.x.map gM=[]) ↔ d.x=[]:=agx
 have hs:cc ([]++[lf dW d.g]++[lf dM d.a]++[lf fA d.v]) qK (dS d.s)=[lf dW d.g,lf dM d.a,lf fA d.v]++(if d.s=0 then[]else[lf qK (dS d.s)]):=by
  rcases h.s with e | e | e | e | e | e<;>rw[e]<;>rfl
 rw[hs];rcases h.o with e | e<;>rw[e]<;>by_cases ex:d.x=[]<;>simp[ex,jA,ki]
theorem vU {n:Int} (h:n=1\/n=2\/n=3\/n=4\/n=5):lx false (dS n)=true/\((lr (dS n)).1:Int)=n/\lA (dS n)/\(dS n).length<=1024:=by
 rcases h with e | e | e | e | e<;>rw[e]<;>exact⟨by decide,by decide,⟨by decide,by decide⟩,by decide⟩
theorem ahA {d:Dp}:cE (.mk lE [] (eV d) []) dW=[lf dW d.g]:=by
 unfold eV;by_cases h1:d.s=0<;>by_cases h2:d.o=1<;>by_cases h3:d.x=[]<;>simp only[h1,h2,h3,if_true,if_false]<;>rfl
theorem ahB {d:Dp}:cE (.mk lE [] (eV d) []) dM=[lf dM d.a]:=by
 unfold eV;by_cases h1:d.s=0<;>by_cases h2:d.o=1<;>by_cases h3:d.x=[]<;>simp only[h1,h2,h3,if_true,if_false]<;>rfl
theorem ahC {d:Dp}:cE (.mk lE [] (eV d) []) fA=[lf fA d.v]:=by
 unfold eV;by_cases h1:d.s=0<;>by_cases h2:d.o=1<;>by_cases h3:d.x=[]<;>simp only[h1,h2,h3,if_true,if_false]<;>rfl
theorem ahD {d:Dp}:cE (.mk lE [] (eV d) []) Ak=[]:=by
 unfold eV;by_cases h1:d.s=0<;>by_cases h2:d.o=1<;>by_cases h3:d.x=[]<;>simp only[h1,h2,h3,if_true,if_false]<;>rfl
theorem ahE {d:Dp}:cE (.mk lE [] (eV d) []) Al=[]:=by
 unfold eV;by_cases h1:d.s=0<;>by_cases h2:d.o=1<;>by_cases h3:d.x=[]<;>simp only[h1,h2,h3,if_true,if_false]<;>rfl
theorem ahF {d:Dp}:cE (.mk lE [] (eV d) []) qK=if d.s=0 then[]else[lf qK (dS d.s)]:=by
 unfold eV;by_cases h1:d.s=0<;>by_cases h2:d.o=1<;>by_cases h3:d.x=[]<;>simp only[h1,h2,h3,if_true,if_false]<;>rfl
theorem ahG {d:Dp}:cE (.mk lE [] (eV d) []) mz=if d.o=1 then[lf mz ki]else[]:=by
 unfold eV;by_cases h1:d.s=0<;>by_cases h2:d.o=1<;>by_cases h3:d.x=[]<;>simp only[h1,h2,h3,if_true,if_false]<;>rfl
theorem ahH {d:Dp}:cE (.mk lE [] (eV d) []) lN=if d.x=[]then[]else[.mk lN [] (d.x.map gM) []]:=by
 unfold eV;by_cases h1:d.s=0<;>by_cases h2:d.o=1<;>by_cases h3:d.x=[]<;>simp only[h1,h2,h3,if_true,if_false]<;>rfl
theorem abT {d:Dp} {w:Bs} (h:J8 d):vi (.mk lE [] (eV d) []) w= .ok d.x:=by
 unfold vi cw;rw[ahH];by_cases e:d.x=[]
 ·rw[if_pos e,e]
 ·rw[if_neg e];dsimp only
  have hk:cE (.mk lN [] (d.x.map gM) []) tV=d.x.map gM:=CI (by decide) fun y hy=>by
   obtain⟨i,_,rfl⟩:=ah3.1 hy;rfl
  unfold m9;rw[hk,if_neg (by rw[agt];have:=h.xl;omega)];dsimp only;rw[NY d.x _ [] h.x (Im _ _ _),yP]
theorem abU {d:Dp} {w:Bs} (h:J8 d):EV (fa d) w false= .ok d:=by
 rw[BY h];unfold EV;rw[j_ ahA h.g h.gl rfl];dsimp only;rw[j_ ahB h.a h.al rfl];dsimp only;rw[j_ ahC h.v h.vl rfl];dsimp only;rw[sw ahD];dsimp only;rw[sw ahE];dsimp only
 have hs:∃y,bS (.mk lE [] (eV d) []) w qK false (lx false)= .ok y/\((lr y).1:Int)=d.s:=by
  have hk:=ahF (d:=d);by_cases e:d.s=0
  ·rw[if_pos e]at hk;exact⟨[],sw hk,by rw[e];rfl⟩
  ·rw[if_neg e]at hk;obtain⟨h1,h2,h3,h4⟩:=vU (h.s.resolve_left e);exact⟨_,j_ hk h3 h4 h1,h2⟩
 obtain⟨y,hy,Py⟩:=hs;rw[hy];dsimp only
 have ho:∃z,bS (.mk lE [] (eV d) []) w mz false mC= .ok z/\aad z=d.o:=by
  have hk:=ahG (d:=d);rcases h.o with e | e
  ·rw[if_neg (by omega)]at hk;exact⟨[],sw hk,by rw[e];decide⟩
  ·rw[if_pos e]at hk;exact⟨ki,j_ hk ⟨by decide,by decide⟩ (by decide) (by decide),by rw[e];decide⟩
 obtain⟨z,hz,hzs⟩:=ho;rw[hz];dsimp only;rw[abT h,Py,hzs];unfold oK;have h1:=h.t;have h2:=h.c;obtain⟨g,a,v,t,c,s,o,x⟩:=d;dsimp only at h1 h2;rw[h1,h2]
theorem Io:∀(D:List Dp) (ws:List (Nd×Bs)) (Y:List Dp),(∀d∈D,J8 d)->ws.map (·.1)=D.map fa->ru false ws Y= .ok (Y++D)
 | [],ws,Y,_,hw=>by
   rw[List.map_nil,agx]at hw;rw[hw,ru,ah6]
 | d::D,ws,Y,h,hw=>by
   cases ws with
   | nil=>cases hw
   | cons p ws=>
     rw[alS,alS,List.cons.injEq]at hw;obtain⟨q,w⟩:=p;obtain⟨rfl,hw⟩:=hw;rw[ru,abU (h d (acv ..))];dsimp only;rw[Io D ws (Y++[d]) (fun j hj=>h j (ags _ hj)) hw,agv];rfl
structure Xg (p:Pm):Prop where
 g:lA p.g
 a:lA p.a
 v:lA p.v
 gl:p.g.length<=1024
 al:p.a.length<=1024
 vl:p.v.length<=1024
 en:∀d∈p.en,J8 d
 len:p.en.length<=900
def dk (g:Gv) (D:List Dp):Pm:=⟨false,⟨[],[],[]⟩,g.g,g.a,g.v,[],[],[],D⟩
def eK (g:Gv) (D:List Dp):List Nd:=[lf dW g.g,lf dM g.a,lf fA g.v]++(if D=[]then[]else[.mk lO [] (D.map fa) []])
theorem tC {g:Gv} {D:List Dp} (h:Xg (dk g D)):fE (dk g D)= .mk gH [] (eK g D) []:=by
 unfold fE nW Jk EC eK;have h1:=h.g.ne;have h2:=h.a.ne;have h3:=h.v.ne;simp only[dk]at h1 h2 h3 ⊢;simp only[ah2,if_false];rw[jA h1,jA h2,jA h3,yW];unfold jP;by_cases e:D=[]<;>simp[e]
theorem Xh {g:Gv} {D:List Dp} (h:Xg (dk g D)):oL (fE (dk g D))= .ok (dk g D):=by
 rw[tC h];have kg:cE (.mk gH [] (eK g D) []) dW=[lf dW g.g]:=by unfold eK;by_cases e:D=[]<;>simp only[e,if_true,if_false]<;>rfl
 have ka:cE (.mk gH [] (eK g D) []) dM=[lf dM g.a]:=by unfold eK;by_cases e:D=[]<;>simp only[e,if_true,if_false]<;>rfl
 have kv:cE (.mk gH [] (eK g D) []) fA=[lf fA g.v]:=by unfold eK;by_cases e:D=[]<;>simp only[e,if_true,if_false]<;>rfl
 have kp:cE (.mk gH [] (eK g D) []) vd=[]:=by unfold eK;by_cases e:D=[]<;>simp only[e,if_true,if_false]<;>rfl
 have kk:cE (.mk gH [] (eK g D) []) xH=[]:=by unfold eK;by_cases e:D=[]<;>simp only[e,if_true,if_false]<;>rfl
 have kr:cE (.mk gH [] (eK g D) []) lp=[]:=by unfold eK;by_cases e:D=[]<;>simp only[e,if_true,if_false]<;>rfl
 have km:cE (.mk gH [] (eK g D) []) r3=[]:=by unfold eK;by_cases e:D=[]<;>simp only[e,if_true,if_false]<;>rfl
 have kd:cE (.mk gH [] (eK g D) []) lO=if D=[]then[]else[.mk lO [] (D.map fa) []]:=by unfold eK;by_cases e:D=[]<;>simp only[e,if_true,if_false]<;>rfl
 have Pc:(Nd.mk gH [] (eK g D) []).nm=gH:=rfl;generalize Nd.mk gH [] (eK g D) []=X at*;unfold oL;rw[Pc];have hp:vE X gH= .ok (false,⟨[],[],[]⟩):=by unfold vE cw;rw[kp]
 have hr:lu X gH= .ok []:=by unfold lu cw;rw[kr]
 have hm:vD X gH= .ok []:=by unfold vD cw;rw[km]
 have hd:lQ X gH false= .ok D:=by
  unfold lQ cw;rw[kd];by_cases e:D=[]
  ·rw[if_pos e,e]
  ·rw[if_neg e];dsimp only
   have hk:cE (.mk lO [] (D.map fa) []) lE=D.map fa:=CI (by decide) fun y hy=>by
    obtain⟨d,hd,rfl⟩:=ah3.1 hy;rfl
   unfold m9;rw[hk,if_neg (by rw[agt];have:=h.len;simp only[dk]at this;omega)];dsimp only;rw[Io D _ [] h.en (Im _ _ _),yP]
 rw[hp,hr,hm,hd];dsimp only;rw[j_ kg h.g h.gl rfl];dsimp only;rw[j_ ka h.a h.al rfl];dsimp only;rw[j_ kv h.v h.vl rfl];dsimp only;rw[sw kk];rfl
theorem Df (s:Bs) (h:(s.headD 0 |> lD)=true) (h2:s.all jJ=true):AT s:=⟨fun e=>(by rw[e]at h;revert h;decide),h,al2.1 h2⟩
theorem tE {n s:Bs} (hn:AT n) (h:lA s):qm (lf n s):=by
 rw[lf,qm];exact⟨hn,rfl,rfl,by simp,.inl ⟨s,h,rfl⟩⟩
theorem mJ:∀{K:List Nd},(∀x∈K,qm x)->xT K
 | [],_=>trivial
 | x::K,h=>by rw[xT];exact⟨h x (acv ..),mJ fun y hy=>h y (ags _ hy)⟩
theorem nv {B:Nat}:∀{K:List Nd},(∀x∈K,ef x<=B)->bX K<=K.length*B
 | [],_=>by rw[bX];omega
 | x::K,h=>by
   have h1:=h x (acv ..);have h2:=nv fun y hy=>h y (ags (a:=y) x hy)
   rw[bX,XN,Nat.succ_mul];omega
theorem sy {B:Nat}:∀{K:List Nd},(∀x∈K,tB x<=B)->nE K<=B
 | [],_=>by rw[nE];omega
 | x::K,h=>by
   have h1:=h x (acv ..);have h2:=sy fun y hy=>h y (ags (a:=y) x hy)
   rw[nE];omega
theorem mg {n s:Bs}:ef (lf n s)=2:=by rw[lf,ef,lB,ef,bX]
theorem Dx {n s:Bs}:tB (lf n s)=2:=by rw[lf,tB,xc,tB,nE]
theorem NZ {i:fR} (h:lA i.g) (h2:lA i.a):gM i= .mk tV [] [lf dW i.g,lf dM i.a] []:=by
 unfold gM;rw[jA h.ne,jA h2.ne];rfl
theorem Dy:AT dW:=Df _ (by decide) (by decide)
theorem Dz:AT dM:=Df _ (by decide) (by decide)
theorem J9:AT fA:=Df _ (by decide) (by decide)
theorem abV {i:fR} (h:lA i.g) (h2:lA i.a):qm (gM i)/\ef (gM i)=5/\tB (gM i)=3:=by
 rw[NZ h h2];refine⟨?_,?_,?_⟩
 ·rw[qm];exact⟨Df _ (by decide) (by decide),rfl,rfl,by simp,.inr (mJ (by simp[tE Dy h,tE Dz h2]))⟩
 ·rw[ef,bX,lB,mg,mg]
 ·rw[tB,nE,xc,Dx,Dx];rfl
theorem yX {d:Dp} (h:J8 d):∀x∈eV d,qm x/\ef x<=1+d.x.length*5+1/\tB x<=4:=by
 intro x hx;unfold eV at hx;have J_:∀n s,AT n->lA s->qm (lf n s)/\ef (lf n s)<=1+d.x.length*5+1/\tB (lf n s)<=4:=fun n s hn hs=>⟨tE hn hs,by rw[mg];omega,by rw[Dx];omega⟩
 rcases ah0.1 hx with hx | hx
 ·rcases ah0.1 hx with hx | hx
  ·rcases ah0.1 hx with hx | hx
   ·simp only[alD,ah5,or_false]at hx;rcases hx with rfl | rfl | rfl
    ·exact J_ _ _ Dy h.g
    ·exact J_ _ _ Dz h.a
    ·exact J_ _ _ J9 h.v
   ·by_cases e:d.s=0
    ·rw[if_pos e]at hx;cases hx
    ·rw[if_neg e,agu]at hx;rw[hx];exact J_ _ _ (Df _ (by decide) (by decide)) (vU (h.s.resolve_left e)).2.2.1
  ·by_cases e:d.o=1
   ·rw[if_pos e,agu]at hx;rw[hx];exact J_ _ _ (Df _ (by decide) (by decide)) ⟨by decide,by decide⟩
   ·rw[if_neg e]at hx;cases hx
 ·by_cases e:d.x=[]
  ·rw[if_pos e]at hx;cases hx
  ·rw[if_neg e,agu]at hx;rw[hx]
   have hm:∀y∈d.x.map gM,qm y/\ef y=5/\tB y=3:=fun y hy=>by
    obtain⟨i,hi,rfl⟩:=ah3.1 hy;exact abV (h.x i hi).1.1 (h.x i hi).2.1
   refine⟨?_,?_,?_⟩
   ·rw[qm];exact⟨Df _ (by decide) (by decide),rfl,rfl,fun e2=>e (agx.1 e2),.inr (mJ fun y hy=>(hm y hy).1)⟩
   ·rw[ef];have:=nv (B:=5) fun y hy=>al7 (hm y hy).2.1
    rw[agt]at this;omega
   ·rw[tB];have:=sy (B:=3) fun y hy=>al7 (hm y hy).2.2
    omega
theorem FM (d:Dp):(eV d).length<=6:=by
 unfold eV;by_cases h1:d.s=0<;>by_cases h2:d.o=1<;>by_cases h3:d.x=[]<;>simp[h1,h2,h3]
theorem Ip {d:Dp} (h:J8 d):qm (fa d)/\ef (fa d)<=13+d.x.length*30/\tB (fa d)<=5:=by
 rw[BY h];refine⟨?_,?_,?_⟩
 ·rw[qm];exact⟨Df _ (by decide) (by decide),rfl,rfl,by unfold eV;simp,.inr (mJ fun y hy=>(yX h y hy).1)⟩
 ·rw[ef];have h1:=nv (B:=1+d.x.length*5+1) fun y hy=>(yX h y hy).2.1
  have h2:=FM d;have h3:(eV d).length*(1+d.x.length*5+1)<=6*(1+d.x.length*5+1):=akF _ h2;omega
 ·rw[tB];have:=sy (B:=4) fun y hy=>(yX h y hy).2.2
  omega
theorem Xi {g:Gv} {D:List Dp} (h:Xg (dk g D)) (hx:∀d∈D,d.x.length<=1) (hl:D.length<=40):ie (cu (fE (dk g D)))= .ok (fE (dk g D)):=by
 have hD:∀y∈D.map fa,qm y/\ef y<=43/\tB y<=5:=fun y hy=>by
  obtain⟨d,hd,rfl⟩:=ah3.1 hy;obtain⟨h1,h2,h3⟩:=Ip (h.en d hd);have:=hx d hd;exact⟨h1,by omega,h3⟩
 have hm:∀x∈eK g D,qm x/\ef x<=1+40*43+1/\tB x<=6:=by
  intro x hx;unfold eK at hx;have J_:∀n s,AT n->lA s->qm (lf n s)/\ef (lf n s)<=1+40*43+1/\tB (lf n s)<=6:=fun n s hn hs=>⟨tE hn hs,by rw[mg];omega,by rw[Dx];omega⟩
  rcases ah0.1 hx with hx | hx
  ·simp only[alD,ah5,or_false]at hx;rcases hx with rfl | rfl | rfl
   ·exact J_ _ _ Dy h.g
   ·exact J_ _ _ Dz h.a
   ·exact J_ _ _ J9 h.v
  ·by_cases e:D=[]
   ·rw[if_pos e]at hx;cases hx
   ·rw[if_neg e,agu]at hx;rw[hx];refine⟨?_,?_,?_⟩
    ·rw[qm];exact⟨Df _ (by decide) (by decide),rfl,rfl,fun e2=>e (agx.1 e2),.inr (mJ fun y hy=>(hD y hy).1)⟩
    ·rw[ef];have h1:=nv (B:=43) fun y hy=>(hD y hy).2.1
     rw[agt]at h1;have:D.length*43<=40*43:=akF _ hl;omega
    ·rw[tB];have:=sy (B:=5) fun y hy=>(hD y hy).2.2
     omega
 rw[tC h]
 have hc:bX (eK g D)<=6+(1+40*43):=by
  have hs:bX (eK g D)=6+bX (if D=[]then[]else[.mk lO [] (D.map fa) []]):=by
   unfold eK;rw[Km,Km,Km,yP,bX,bX,bX,mg,mg,mg];omega
  rw[hs];by_cases e:D=[]
  ·rw[if_pos e,bX];omega
  ·rw[if_neg e,lB,ef];have h1:=nv (B:=43) fun y hy=>(hD y hy).2.1
   rw[agt]at h1;have:D.length*43<=40*43:=akF _ hl;omega
 exact J7 (Df _ (by decide) (by decide)) (by unfold eK;simp) (mJ fun x hx=>(hm x hx).1) (by omega) (ah1 (sy (B:=6) fun x hx=>(hm x hx).2.2) (by decide))
theorem ph {B:Nat}:∀{K:List Nd},(∀x∈K,(cu x).length<=B)->(aT K).length<=K.length*B
 | [],_=>by rw[aT];simp
 | x::K,h=>by
   have h1:=h x (acv ..);have h2:=ph fun y hy=>h y (ags (a:=y) x hy)
   rw[aT,acu,XN,Nat.succ_mul];omega
theorem jN {n:Bs} {k:List Nd} (hn:n≠[]) (hk:k≠[]):(cu (.mk n [] k [])).length=2*n.length+5+(aT k).length:=by
 rw[yV hn hk];simp only[acu,XN,RZ];omega
theorem pj {n s:Bs} (hn:n≠[]) (h:lA s):(cu (lf n s)).length=2*n.length+5+s.length:=by
 rw[lf,jN hn (by simp),jT,cu,if_pos rfl,FH h.all]
structure abW (g:Gv) (D:List Dp):Prop where
 g:g.g.length<=64/\g.a.length<=64/\g.v.length<=64
 d:∀d∈D,d.g.length<=64/\d.a.length<=64/\d.v.length<=64/\d.x.length<=1/\∀i∈d.x,i.g.length<=64/\i.a.length<=64
 n:D.length<=40
theorem Xj {i:fR} (h:lA i.g) (h2:lA i.a) (hl:i.g.length<=64/\i.a.length<=64):(cu (gM i)).length<=200:=by
 rw[NZ h h2,jN (by decide) (by simp),aT,jT,acu,pj (by decide) h,pj (by decide) h2];simp only[XN,RZ];omega
theorem RI {d:Dp} (h:J8 d) (hl:d.g.length<=64/\d.a.length<=64/\d.v.length<=64/\d.x.length<=1/\∀i∈d.x,i.g.length<=64/\i.a.length<=64):(cu (fa d)).length<=1400:=by
 obtain⟨l1,l2,l3,l4,l5⟩:=hl
 have hb:∀x∈eV d,(cu x).length<=225:=by
  intro x hx;unfold eV at hx;rcases ah0.1 hx with hx | hx
  ·rcases ah0.1 hx with hx | hx
   ·rcases ah0.1 hx with hx | hx
    ·simp only[alD,ah5,or_false]at hx;rcases hx with rfl | rfl | rfl
     ·rw[pj (by decide) h.g];simp only[XN,RZ];omega
     ·rw[pj (by decide) h.a];simp only[XN,RZ];omega
     ·rw[pj (by decide) h.v];simp only[XN,RZ];omega
    ·by_cases e:d.s=0
     ·rw[if_pos e]at hx;cases hx
     ·rw[if_neg e,agu]at hx;rw[hx,pj (by decide) (vU (h.s.resolve_left e)).2.2.1];rcases h.s.resolve_left e with e | e | e | e | e<;>rw[e]<;>decide
   ·by_cases e:d.o=1
    ·rw[if_pos e,agu]at hx;rw[hx];decide
    ·rw[if_neg e]at hx;cases hx
  ·by_cases e:d.x=[]
   ·rw[if_pos e]at hx;cases hx
   ·rw[if_neg e,agu]at hx
    have h1:=ph (B:=200) (K:=d.x.map gM) fun y hy=>by
     obtain⟨i,hi,rfl⟩:=ah3.1 hy;exact Xj (h.x i hi).1.1 (h.x i hi).2.1 (l5 i hi)
    rw[agt]at h1;rw[hx,jN (by decide) (fun e2=>e (agx.1 e2))];simp only[XN,RZ];omega
 have h1:=ph hb;have h2:=FM d;have h3:(eV d).length*225<=6*225:=akF _ h2;rw[BY h,jN (by decide) (by unfold eV;simp)];simp only[XN,RZ];omega
theorem Xk {g:Gv} {D:List Dp} (h:Xg (dk g D)) (hs:abW g D):(cu (fE (dk g D))).length<=65536:=by
 obtain⟨l1,l2,l3⟩:=hs.g
 have h1:=ph (B:=1400) (K:=D.map fa) fun y hy=>by
  obtain⟨d,hd,rfl⟩:=ah3.1 hy;exact RI (h.en d hd) (hs.d d hd)
 rw[agt]at h1;have h2:D.length*1400<=40*1400:=akF _ hs.n
 have h3:(aT (if D=[]then[]else[.mk lO [] (D.map fa) []])).length<=56100:=by
  by_cases e:D=[]
  ·rw[if_pos e,aT];simp
  ·rw[if_neg e,jT,jN (by decide) (fun e2=>e (agx.1 e2))];simp only[XN,RZ];omega
 rw[tC h,jN (by decide) (by unfold eK;simp)]
 have hs:aT (eK g D)=cu (lf dW g.g)++(cu (lf dM g.a)++(cu (lf fA g.v)++aT (if D=[]then[]else[.mk lO [] (D.map fa) []]))):=by
  unfold eK;rw[Km,Km,Km,yP,aT,aT,aT]
 have hg:(cu (lf dW g.g)).length=_:=pj (by decide) h.g;have ha:(cu (lf dM g.a)).length=_:=pj (by decide) h.a;have hv:(cu (lf fA g.v)).length=_:=pj (by decide) h.v;rw[hs,acu,acu,acu,hg,ha,hv];have e1:dW.length=7:=rfl;have e2:dM.length=10:=rfl;have e3:fA.length=7:=rfl;have e4:gH.length=7:=rfl;omega
structure Br where
 up:Int
 dp:Int
 od:Int
 k:Ky
 v:Bs
 sc:Int
 rd:Bool
def kH (k:Ky):fR:=⟨k.g,k.a⟩
def qT (b:Br):Gv:=⟨b.k.g,b.k.a,b.v⟩
abbrev qp:=List Br×List (List fR)
def vV (N:List Br) (p:Nat->Bool):Nat->Int->Bool
 | 0,_=>false
 | f+1,i=>if i<0 then false else p i.toNat||match N[i.toNat]? with
   | none=>false
   | some b=>vV N p f b.up
def qU (i:Nat) (b:Br) (n:oR):Int:=if i=0 then n.s else if n.o then 0 else L5 b.sc n.s
def Ka (S:qp) (i:Nat) (x:fR):Bool:=vV S.1 (fun k=>(S.2.getD k []).any (Cs · x)) (i+1) i
def AV (S:qp) (i:Nat) (x:fR):Bool:=vV S.1 (fun k=>match S.1[k]? with
    | none=>false
    | some b=>kH b.k==x) (i+1) i
def af8 (S:qp) (i:Nat) (b:Br) (od:Nat) (n:oR):qp:=(S.1++[⟨i,b.dp+1,od,n.k,n.v,qU i b n,AV S i (kH n.k)⟩],S.2++[n.x])
def yY (S:qp) (i:Nat) (b:Br) (od:Nat) (n:oR):Option qp:=
 if qU i b n=0\/Ka S i (kH n.k)=true then some S
 else if 4096<=S.1.length then none
 else some (af8 S i b od n)
def xd (i:Nat) (b:Br):List oR->Nat->qp->Option qp
 | [],_,S=>some S
 | n::l,od,S=>match yY S i b od n with
   | none=>none
   | some S'=>xd i b l (od+1) S'
def yZ (ms:Gv->Option (List oR)):Nat->Nat->qp->Option (Option (List Br))
 | 0,_,_=>none
 | f+1,i,S=>match S.1[i]? with
   | none=>some (some S.1)
   | some b=>if b.rd then yZ ms f (i+1) S else match ms (qT b)with
     | none=>none
     | some l=>match xd i b l 0 S with
       | none=>some none
       | some S'=>yZ ms f (i+1) S'
def y_ (g:Gv):Br:=⟨-1,0,0,⟨g.g,g.a,qS,[]⟩,g.v,0,false⟩
def RJ (ms:Gv->Option (List oR)) (g:Gv):Option (Option (List Br)):=yZ ms 5000 0 ([y_ g],[[]])
def mK (S:List (Gv×List Dp)) (g:Gv):Option (List oR):=(S.find? (·.1==g)).map fun p=>p.2.map fw
def Ups (N:List Br):Prop:=∀(i:Nat) (b:Br),N[i]?=some b-> -1<=b.up/\b.up<(i:Int)/\0<=b.dp/\b.dp<=(i:Int)
def gS:Bs:=[103]
def v1:Bs:=[49]
def GL (a v:Bs) (s:Int):Dp:=⟨gS,a,v,[],[],s,0,[]⟩
section
variable (f:Nat->Bs)
end
variable {f:Nat->Bs}
section
variable (p:Nat->Nat->Bs) (rt:Bs) (w:Nat)
end
section
variable {p:Nat->Nat->Bs} {rt:Bs} {w:Nat}
end
set_option linter.defProp false in
def aR:=Kn cN<|Kn aiw<|Kn aiv<|Kn xh<|Kn T35<|Kn ae4<|Kn Ev<|Kn Cp<|Kn ae3<|Kn T91<|Kn T33<|Kn Bo<|Kn LV<|Kn ZQ<|Kn Bp T71
def qD (b:Br):List MV:=[mi b.up,mi b.dp,mi b.od]++fY b.k++[.str b.v]++vN (false,b.v,[]) .ar++[mi b.sc,mb b.rd]
theorem lZ (b:Br):(qD b).length=13:=rfl
theorem abX (L:List Br):cS (L.flatMap qD)=L.flatMap qD:=kP (fun x=>by simp only[qD,fY,vN,Km,yP,aq,a_,wu,RZ,acs]) L
def zb (x:List fR):List MV:=[.sl x.length (x.flatMap bZ) .ar]
theorem N0 (x:List fR):(zb x).length=1:=rfl
theorem N1 (L:List (List fR)):cS (L.flatMap zb)=L.flatMap zb:=kP (fun x=>by simp only[zb,wu,m7]) L
theorem abY (k:Ky) (O:VH):VF Tryz.prog 91 [.agg (fY k)] O (aE fun m O'=>m= .agg (bZ (kH k))/\O.Ge O'):=by
 obtain⟨k1,k2,k3,k4⟩:=k;simp only[fY,bZ,kH];refine VF.bN 8 [.cell 2 140] Tryz.func91 ?_;refine VC.ag aa (ae @aR ?_);refine VC.gen ?_;intro O1 e1;obtain⟨aM,cW,cJ,cA⟩:=gj _ _ e1;clear e1;refine VC.ag aa (aJ @aR @cJ @cA ?_);refine WC.sound aa (ae @aR ?_);exact aM.set (by omega) _
theorem aep (b:Br) (O:VH):VF Tryz.prog 73 [.agg (qD b)] O (aE fun m O'=>m= .agg (bW (qT b))/\O.Ge O'):=by
 obtain⟨up,dp,od,⟨k1,k2,k3,k4⟩,v,sc,rd⟩:=b;simp only[qD,fY,vN,bW,qT,aq,a_,Km,yP,RZ,acs];refine VF.bN 12 [.cell 2 67] Tryz.func73 ?_;refine VC.ag aa (ae @aR ?_);refine VC.gen ?_;intro O1 e1;obtain⟨aM,cW,cJ,cA⟩:=gj _ _ e1;clear e1;refine VC.ag aa (aJ @aR @cJ @cA ?_);refine WC.sound aa (ae @aR ?_);exact aM.set (by omega) _
structure sA (O:VH) (tb k bb mm:Nat) (g:Gv) (S:qp) (t1 t2:Tok) (B:Nat):Prop where
 cell:O.hp tb=some (.cells ([.ptr k 0,.ptr bb 0]++bW g++[.map mm,.sl S.1.length (S.1.flatMap qD) t1,.sl S.2.length (S.2.flatMap zb) t2]))
 map:O.hp mm=some (.map (cI []) 0)
 a1:App O B 13 t1
 a2:App O B 1 t2
 ne:∀i,Tok.id t1=some i->Tok.id t2≠some i
 lt:tb<O.next/\mm<O.next
 len:S.1.length=S.2.length
 up:Ups S.1
theorem sA.ge {O O':VH} {tb k bb mm:Nat} {g:Gv} {S:qp} {t1 t2:Tok} {B:Nat} (h:sA O tb k bb mm g S t1 t2 B) (u:O.Ge O'):sA O' tb k bb mm g S t1 t2 B:=
 ⟨(u.hp _ h.lt.1).trans h.cell,(u.hp _ h.lt.2).trans h.map,h.a1.ge u,h.a2.ge u,h.ne,⟨agr h.lt.1 u.next,agr h.lt.2 u.next⟩,h.len,h.up⟩
def FN (n:oR):Prop:=n.k.g.length<=100000/\n.k.a.length<=100000/\n.k.t.length<=100000/\n.k.c.length<=100000
theorem FN.key {n:oR} (h:FN n):∀s∈eb n.k,s.length<=maxLen:=by
 obtain⟨h1,h2,h3,h4⟩:=h;intro s hs;simp only[eb,alD,ah5,or_false]at hs;simp only[maxLen];rcases hs with rfl | rfl | rfl | rfl<;>omega
abbrev af9:List MV:=[.str [],.str [],.str [],.str [],.str [],.v (.int .i64 0),.v (.int .i64 0),.sl 0 [] .nil]
theorem BZ (N:Nat):n5 N []:=⟨by simp,by simp⟩
theorem Xl {O:VH} {tb k bb mm:Nat} {g:Gv} {S:qp} {t1 t2:Tok} {B:Nat} (h:sA O tb k bb mm g S t1 t2 B) {i:Nat} {b:Br} (hb:S.1[i]?=some b) (n:oR) (hn:FN n):
  VF Tryz.prog 92 [.ptr tb 0,mi i,.agg (dR n)] O (aE fun m O'=>m=mi (qU i b n)/\O.Ge O'):=by
 have EN:=hn.key;have bw:(S.1.flatMap qD)[i*13+11]?=some (mi b.sc):=by simpa using iY (sp:=[]) lZ hb (i:=11) rfl
 have Q6:=(XO.1 hb).1;have hc:=h.cell;have ew:=h.lt;have Xm:=fun(O':VH) (u:O.Ge O')=>h.ge u
 unfold qU;obtain⟨⟨k1,k2,k3,k4⟩,v,s,o,x⟩:=n;dsimp only;simp only[dR,fY,vN,bW,aq,a_,Km,yP,RZ,acs]at hc bw ⊢;refine VF.bN 39 [.tmp 6] Tryz.func92 ?_;refine VC.ag aa (ae @aR ?_);refine VC.bx ?_;rintro O1 ⟨aM,ez,cW⟩;by_cases hi:i=0
 ·have xm:((i:Int)==0)=true:=by simpa using hi
  rw[if_pos hi];refine VC.ag aa (aJ @aR @xm @ez ?_);exact aM
 rw[if_neg hi];have xm:((i:Int)==0)=false:=by simpa using hi
 refine VC.ag aa (ao @aR @xm ?_);cases o;rotate_left
 ·rw[if_pos rfl];refine VC.ag aa (ao @aR @ez ?_);exact aM
 rw[if_neg (by decide)];refine VC.ag aa (ao @aR @ez ?_);refine VC.ag aa (ao @aR @ez ?_);have h1:=Xm O1 aM;have fW:=h1.cell;simp only[bW,Km,yP]at fW;refine VC.bB (VC.bB ?_);refine WC.bO (.held [8]) [(0,.rd),(1,.rd),(2,.rd),(3,.rd),(4,.rd),(5,.rd),(6,.rd),(7,.one),(8,.one)] ?_;refine aJ @aR @fW @ez ?_;refine VL.hold (.inr rfl) rfl rfl (fQ.lK rC aa (l:=eb ⟨k1,k2,k3,k4⟩) (te:=⟨_,8,120,af9⟩) Tryz.underlying163 Bo.1.1 rfl rfl h1.map (BZ 4) rfl rfl EN) (WL.sound aa ?_);rw[show jk (eb ⟨k1,k2,k3,k4⟩) ([]:fy)=none from rfl];refine ae @aR ?_;refine VC.al ?_;rintro O2 ⟨ay,jc,iq⟩;have gN:=aM.trans ay;have jB:=(Xm O2 gN).cell;simp only[bW,Km,yP]at jB;refine WC.sound aa (ao @aR @jc ?_);refine VC.ag aa (aJ @aR @jB @bw ?_);refine ah.rt (VN b.sc s _) ?_;rintro _ O3 ⟨rfl,e3⟩;rw[e3];refine ae @aR ?_;refine WC.sound aa (ae @aR ?_);exact gN
theorem Xn {O:VH} {tb k bb mm:Nat} {g:Gv} {S:qp} {t1 t2:Tok} {B:Nat} (h:sA O tb k bb mm g S t1 t2 B) (i:Nat) (n:oR) (hn:FN n):
  VF Tryz.prog 98 [.ptr tb 0,mi i,.agg (dR n)] O (aE fun m O'=>m= .agg (vN (false,n.v,[]) .ar)/\O.Ge O'):=by
 have EN:=hn.key;have Xm:=fun(O':VH) (u:O.Ge O')=>h.ge u
 obtain⟨⟨k1,k2,k3,k4⟩,v,s,o,x⟩:=n;dsimp only;simp only[dR,fY,vN,aq,a_,Km,yP,RZ,acs];refine VF.bN 33 [.cell 6 33] Tryz.func98 ?_;refine VC.ag aa (ae @aR ?_);refine VC.gen ?_;intro O1 e1;obtain⟨aM,cW,ez,ny⟩:=gj _ _ e1;clear e1;have h1:=Xm O1 aM;have fW:=h1.cell;simp only[bW,Km,yP]at fW;refine VC.bB (VC.bB ?_);refine WC.bO (.held [8]) [(0,.rd),(1,.rd),(2,.rd),(3,.rd),(4,.rd),(5,.rd),(6,.rd),(7,.one),(8,.one)] ?_;refine aJ @aR @fW @ez ?_;refine VL.hold (.inr rfl) rfl rfl (fQ.lK rC aa (l:=eb ⟨k1,k2,k3,k4⟩) (te:=⟨_,8,120,af9⟩) Tryz.underlying163 Bo.1.1 rfl rfl h1.map (BZ 4) rfl rfl EN) (WL.sound aa ?_);rw[show jk (eb ⟨k1,k2,k3,k4⟩) ([]:fy)=none from rfl];refine ae @aR ?_;refine VC.al ?_;rintro O2 ⟨ay,jc,iq⟩;have gN:=aM.trans ay;have af_:=ay.at ez;have aga:=ay.at ny;by_cases hi:(i:Int)>0
 ·have xm:decide ((i:Int)>0)=true:=decide_eq_true hi;have gG:decide (0<(i:Int))=true:=decide_eq_true hi;refine WC.sound aa (c_ @aR @jc @xm @gG ?_);refine VC.ag aa (aJ @aR @af_ @aga ?_);refine WC.sound aa (ae @aR ?_);exact gN.set (by omega) _
 ·have xm:decide ((i:Int)>0)=false:=decide_eq_false hi;have gG:decide (0<(i:Int))=false:=decide_eq_false hi;refine WC.sound aa (c_ @aR @jc @xm @gG ?_);refine VC.ag aa (aJ @aR @af_ @aga ?_);refine WC.sound aa (ae @aR ?_);exact gN.set (by omega) _
section
variable {n:Sz} {D:List Deferred} {e:Env} {P:Program} {tab:bY} {O:VH} {ops:Array Oper} {Q:VQ}
end
theorem aeq (L:List fR) (tk:Tok) (id:FuncId) (cs:List MV) (p:fR->Bool) (O:VH) (hid:cR Tryz.prog id=true) (hc:∀x∈L,∀O',O.Ge O'->VF Tryz.prog id ([.agg (bZ x)]++cs) O' (aE fun m kx=>m=mb (p x)/\O'.Ge kx)) (hn:L.length<=1000000):
  VF Tryz.prog 130 [.sl L.length (L.flatMap bZ) tk,.func (.func id) [] cs] O (aE fun m O'=>m=mi (idxFrom p 0 L)/\O.Ge O'):=by
 have dL:=aQ m6 L;refine VF.dy 19 [.tmp 4] Tryz.func130 ?_;refine ae @aR ?_;refine WC.iS [8] [0,1,7] (fun j:Nat=>[mi j]) (fun j O'=>O.Ge O'/\j<=L.length/\idxFrom p 0 L=idxFrom p j (L.drop j)) (fun j=>L.length - j) (0) ?_ ?_
 ·exact⟨VH.Ge.refl _,alC _,rfl⟩
 rintro j O2 ⟨ay,hj,cK⟩;by_cases h2:j<L.length
 ·have bw:=bU m6 L j h2;have Z_:=hc L[j] (alK h2) O2 ay;rw[alL h2,idxFrom]at cK;generalize L[j]=y at*;refine ao @aR @bw ?_;refine ah.rt Z_ ?_ (hb:=hid);rintro _ O3 ⟨rfl,aG⟩;cases hi:p y
  ·rw[hi]at cK;refine ae @aR ?_;exact ax.next (j+1) ⟨ay.trans aG,by omega,cK⟩
  ·rw[hi,if_pos rfl]at cK;rw[cK];refine ae @aR ?_;exact ay.trans aG
 ·obtain rfl:j=L.length:=by omega
  rw[List.drop_of_length_le (by omega)]at cK;rw[cK];refine ae @aR ?_;exact⟨rfl,ay⟩
theorem aer (L:List fR) (tk:Tok) (id:FuncId) (cs:List MV) (p:fR->Bool) (O:VH) (hid:cR Tryz.prog id=true) (hc:∀x∈L,∀O',O.Ge O'->VF Tryz.prog id ([.agg (bZ x)]++cs) O' (aE fun m kx=>m=mb (p x)/\O'.Ge kx)) (hn:L.length<=1000000):
  VF Tryz.prog 95 [.sl L.length (L.flatMap bZ) tk,.func (.func id) [] cs] O (aE fun m O'=>m=mb (L.any p)/\O.Ge O'):=by
 rw[<-ET p L 0];refine VF.dy 9 [.tmp 4] Tryz.func95 ?_;refine ae @aR ?_;refine ah.rt (aeq L tk id cs p O hid hc hn) ?_;rintro _ O2 ⟨rfl,ay⟩;refine ae @aR ?_;exact ay
theorem aes (q x:fR) (k:Nat) (O:VH) (hk:O.hp k=some (.cells (bZ x))) (yj:k<O.next):VF Tryz.prog 96 ([.agg (bZ q)]++[.ptr k 0]) O (aE fun m O'=>m=mb (Cs q x)/\O.Ge O'):=by
 have hm:=fun O'=>Qi q x O'
 obtain⟨q1,q2⟩:=q;obtain⟨x1,x2⟩:=x;simp only[bZ]at hm hk ⊢;show VF _ _ [.agg [.str q1,.str q2],.ptr k 0] _ _;refine VF.bN 7 [.tmp 3] Tryz.func96 ?_;refine VC.ag aa (ae @aR ?_);refine VC.bx ?_;rintro O1 ⟨aM,ez,cW⟩;have dY:=(aM.hp k yj).trans hk;refine VC.ag aa (aJ @aR @ez @dY ?_);refine ah.rt (hm O1) ?_;rintro _ O2 ⟨rfl,ay⟩;refine ae @aR ?_;refine WC.sound aa (ae @aR ?_);exact aM.trans ay
theorem ahI {O:VH} {tb k bb mm:Nat} {g:Gv} {S:qp} {t1 t2:Tok} {B:Nat} (h:sA O tb k bb mm g S t1 t2 B) {ba bx:Nat} {x:fR} (ha:O.hp ba=some (.cells [.ptr tb 0])) (hx:O.hp bx=some (.cells (bZ x))) (gh:ba<O.next) (Bt:bx<O.next) {i:Nat} (hi:i<S.2.length) (hX:∀y∈S.2,y.length<=1000000):
  VF Tryz.prog 94 ([mi i]++[.ptr ba 0,.ptr bx 0]) O (aE fun m O'=>m=mb ((S.2.getD i []).any (Cs · x))/\O.Ge O'):=by
 have hg:S.2[i]?=some S.2[i]:=TP hi;have bw:(S.2.flatMap zb)[i*1+0]?=some (.sl S.2[i].length (S.2[i].flatMap bZ) .ar):=by simpa using iY (sp:=[]) N0 hg (i:=0) rfl
 rw[agw,hg,al1];have hyl:=hX _ (alK hi);generalize S.2[i]=Y at*;have hc:=h.cell;obtain⟨g1,g2,g3⟩:=g;simp only[bW,Km,yP]at hc;show VF _ _ [mi i,.ptr ba 0,.ptr bx 0] _ _;simp only[aq];refine VF.bN 14 [.tmp 4] Tryz.func94 ?_;refine VC.ag aa (ae @aR ?_);have aj9:(S.2.flatMap zb)[i]?=some (.sl Y.length (Y.flatMap bZ) .ar):=by simpa using bw
 refine VC.ag aa (c_ @aR @ha @hc @aj9 ?_);refine ah.rt (aer Y .ar 96 [.ptr bx 0] (Cs · x) O (by kernel_rfl) (fun q _ O' u=>aes q x bx O' ((u.hp _ Bt).trans hx) (agr Bt u.next)) hyl) ?_;rintro _ O2 ⟨rfl,ay⟩;refine ae @aR ?_;refine WC.sound aa (ae @aR ?_);exact ay
theorem ahJ {O:VH} {tb k bb mm:Nat} {g:Gv} {S:qp} {t1 t2:Tok} {B:Nat} (h:sA O tb k bb mm g S t1 t2 B) {ba bx:Nat} {x:fR} (ha:O.hp ba=some (.cells [.ptr tb 0])) (hx:O.hp bx=some (.cells (bZ x))) (gh:ba<O.next) (Bt:bx<O.next) {i:Nat} {b:Br} (hb:S.1[i]?=some b):
  VF Tryz.prog 101 ([mi i]++[.ptr ba 0,.ptr bx 0]) O (aE fun m O'=>m=mb (kH b.k==x)/\O.Ge O'):=by
 have bw:((S.1.flatMap qD).drop (i*13+3)).take 4=fY b.k:=by
  obtain⟨hi,e⟩:=XO.1 hb;have h1:=bU lZ S.1 i hi;rw[e]at h1;have h2:=congrArg (fun l=>(l.drop 3).take 4) h1;simp only[List.drop_take,List.take_take,ame]at h2;exact h2
 have abZ:=(XO.1 hb).1;have Tu:=aQ lZ S.1;have hc:=h.cell;have BX:=fun O'=>abY b.k O'
 generalize b.k=K at*;obtain⟨k1,k2,k3,k4⟩:=K;obtain⟨x1,x2⟩:=x;obtain⟨g1,g2,g3⟩:=g;simp only[bW,fY,bZ,kH,Km,yP]at hc bw hx BX;show VF _ _ [mi i,.ptr ba 0,.ptr bx 0] _ _;simp only[aq];refine VF.bN 16 [.tmp 4] Tryz.func101 ?_;refine VC.ag aa (ae @aR ?_);refine VC.bB ?_;refine VC.Aq [10,11] (tb) (fun O'=>O'.hp ba=some (.cells [.ptr tb 0])/\O'.hp bx=some (.cells [.str x1,.str x2])) (hc) (fun X=>⟨(VH.ak _ _ (fun e=>by rw[e,hc]at ha;cases ha)).trans ha,(VH.ak _ _ (fun e=>by rw[e,hc]at hx;cases hx)).trans hx⟩) ?_;intro X;refine ab.mP (m:=.ptr tb 0) 0 ?_ ?_
 ·rintro O2 ⟨j0,j1,j2⟩;exact dq @aR @j1
 simp only[aj];refine ab.av 1 ?_;refine ae @aR ?_;refine ab.av 2 ?_;refine ae @aR ?_;refine ab.oe (m:=.sl S.1.length (S.1.flatMap qD) t1) 3 (fun _ h=>h.1) (fun _ h=>h) ?_ ?_
 ·exact fe @aR
 simp only[aj];refine ab.av 4 ?_;refine ae @aR ?_;refine ab.av 5 ?_;refine ae @aR ?_;refine ab.av 6 ?_;refine ae @aR ?_;refine ab.mP (m:=.agg [.str k1,.str k2,.str k3,.str k4]) 7 ?_ ?_
 ·rintro O2 ⟨j0,j1,j2⟩;exact dq @aR @bw
 simp only[aj];refine ab.mP (m:=.agg [.str x1,.str x2]) 9 ?_ ?_
 ·rintro O2 ⟨j0,j1,j2⟩;exact dq @aR @j2
 simp only[aj];have Tq:ba≠tb:=fun e=>by rw[e,hc]at ha;cases ha
 have Tr:bx≠tb:=fun e=>by rw[e,hc]at hx;cases hx
 have aln:=h.lt.1;have hO1:(O.set tb (.obj X)).next=O.next:=rfl;have cT:(O.set tb (.obj X)).hp tb=some (.obj X)/\(O.set tb (.obj X)).hp ba=some (.cells [.ptr tb 0])/\(O.set tb (.obj X)).hp bx=some (.cells [.str x1,.str x2]):=⟨VH.an _ _ _,(VH.ak _ _ Tq).trans ha,(VH.ak _ _ Tr).trans hx⟩;have Q0:∀i,i≠tb->(O.set tb (.obj X)).hp i=O.hp i:=fun i hi=>VH.ak _ _ hi
 generalize O.set tb (.obj X)=O1 at*;refine ab.call (i:=8) (BX O1) ?_;rintro _ O2 ⟨rfl,ay⟩;simp only[aj];refine⟨⟨ay.at cT.1,ay.at cT.2.1,ay.at cT.2.2⟩,?_⟩;refine ab.jQ [(10,.av),(11,.av)] ?_;refine ae @aR ?_;refine VL.Bj aa (bb:=(k1==x1)&&((k2==x2)&&true)) (b:=(k1==x1)&&((k2==x2)&&true)) (by simp) (by simp) (.inl ⟨rfl,rfl⟩) (by kernel_rfl) (by kernel_rfl) rfl rfl rfl rfl ?_;refine ae @aR ?_;refine WC.sound aa (ae @aR ?_);refine⟨?_,⟨by show _<=O2.next;have:=ay.next;omega,fun i hi=>?_⟩⟩
 ·congr 2
  rw[alM];simp[kH]
 ·by_cases e:i=tb
  ·subst e;rw[VH.an];exact hc.symm
  ·rw[VH.ak _ _ e,ay.hp i (by omega),Q0 i e]
theorem N2 {O:VH} {tb k bb mm:Nat} {g:Gv} {S:qp} {t1 t2:Tok} {B:Nat} (h:sA O tb k bb mm g S t1 t2 B) {id:FuncId} {cs:List MV} (p:Nat->Bool) (hid:cR Tryz.prog id=true) (hc:∀j,j<S.1.length->∀O',O.Ge O'->VF Tryz.prog id ([mi j]++cs) O' (aE fun m kx=>m=mb (p j)/\O'.Ge kx)) {i:Nat} (hi:i<S.1.length):
  VF Tryz.prog 93 [.ptr tb 0,mi i,.func (.func id) [] cs] O (aE fun m O'=>m=mb (vV S.1 p (i+1) i)/\O.Ge O'):=by
 have mQ:=h.up;have Xm:=fun(O':VH) (u:O.Ge O')=>h.ge u
 have Tu:=aQ lZ S.1;generalize hZ:vV S.1 p (i+1) i=Z;refine VF.dy 20 [.tmp 6] Tryz.func93 ?_;refine ae @aR ?_;refine WC.iS [1] [0,2] (fun x:Int×Nat=>[mi x.1]) (fun x O'=>O.Ge O'/\ -1<=x.1/\x.1<S.1.length/\x.1<x.2/\Z=vV S.1 p x.2 x.1) (fun x=>(x.1+1).toNat) (((i:Int),i+1)) ?_ ?_
 ·exact⟨VH.Ge.refl _,by dsimp only;omega,by dsimp only;omega,by dsimp only;omega,hZ.symm⟩
 rintro⟨j,f⟩ O2 ⟨ay,h1,h2,h3,cK⟩;dsimp only at h1 h2 h3 cK ⊢;by_cases hj:j>=0;rotate_left
 ·have hd:decide (j>=0)=false:=decide_eq_false hj;have kf:decide (0<=j)=false:=decide_eq_false hj
  have hf:vV S.1 p f j=false:=by
   cases f
   ·rfl
   ·unfold vV;rw[if_pos (by omega)]
  rw[cK,hf];refine aJ @aR @hd @kf ?_;exact ay
 have hd:decide (j>=0)=true:=decide_eq_true hj;have kf:decide (0<=j)=true:=decide_eq_true hj;obtain⟨m,rfl⟩:∃m:Nat,j=m:=⟨j.toNat,by omega⟩
 obtain⟨f,rfl⟩:∃f',f=f'+1:=⟨f - 1,by omega⟩
 have hm:m<S.1.length:=by omega
 have hb:S.1[m]?=some S.1[m]:=TP hm;have hu:=mQ m _ hb;have bw:(S.1.flatMap qD)[m*13]?=some (mi S.1[m].up):=by simpa using iY (sp:=[]) lZ hb (i:=0) rfl
 have hcm:=hc m hm O2 ay;rw[vV,if_neg (by omega),alP,hb]at cK;dsimp only at cK;generalize S.1[m].up=u at*;simp only[aq]at bw hcm;refine aJ @aR @hd @kf ?_;refine ah.rt hcm ?_ (hb:=hid);rintro _ O3 ⟨rfl,aG⟩;have eN:=(Xm O3 (ay.trans aG)).cell;simp only[bW,Km,yP]at eN;cases hp:p m
 ·rw[hp,ami]at cK;refine aJ @aR @eN @bw ?_;exact ax.next (u,f) ⟨ay.trans aG,hu.1,by dsimp only;omega,by dsimp only;omega,cK⟩
 ·rw[hp,Bool.true_or]at cK;rw[cK];refine ae @aR ?_;exact ay.trans aG
abbrev mh:List MV:=[.v (.int .i64 0),.v (.int .i64 0),.v (.int .i64 0),.str [],.str [],.str [],.str [],.str [],.v (.bool false),.str [],.sl 0 [] .nil,.v (.int .i64 0),.v (.bool false)]
def Tv (g:Gv):Prb:=⟨2,g,0,0,0,[116,114,101,101]⟩
set_option maxHeartbeats 4000000 in
theorem aet {O:VH} {tb k bb mm:Nat} {g:Gv} {S:qp} {t1 t2:Tok} {B:Nat} (h:sA O tb k bb mm g S t1 t2 B) (hB:B<=O.next) {i:Nat} {b:Br} (hb:S.1[i]?=some b) (od:Nat) (n:oR) (hn:FN n) (hX:∀y∈S.2,y.length<=1000000) (hl:S.1.length<=4096):
  VF Tryz.prog 75 [.ptr tb 0,mi i,mi od,.agg (dR n)] O (aE fun m O'=>match yY S i b od n with
   | none=>m= .agg (pd (Tv g))/\O.Ge O'
   | some S'=>m= .agg (pd iZ)/\∃t1' t2',sA O' tb k bb mm g S' t1' t2' B/\O.next<=O'.next/\∀j,j<O.next->j≠tb->Tok.id t1≠some j->Tok.id t2≠some j->O'.hp j=O.hp j):=by
 have abZ:=(XO.1 hb).1;have hlen:=h.len;have ew:=h.lt;have Xo:=fun(O':VH) (u:O.Ge O')=>Xl (h.ge u) hb n hn
 have BA:=fun(O':VH) (u:O.Ge O')=>Xn (h.ge u) i n hn
 have BX:=fun O'=>abY n.k O'
 have hex:=fun(O':VH) (u:O.Ge O') (ba bx:Nat) (ha:O'.hp ba=some (.cells [.ptr tb 0])) (hx:O'.hp bx=some (.cells (bZ (kH n.k)))) (gh:ba<O'.next) (Bt:bx<O'.next)=>
  N2 (h.ge u) (id:=94) (cs:=[.ptr ba 0,.ptr bx 0]) (fun j=>(S.2.getD j []).any (Cs · (kH n.k))) (by kernel_rfl) (fun j hj O2 u2=>ahI (h.ge (u.trans u2)) ((u2.hp _ gh).trans ha) ((u2.hp _ Bt).trans hx) (agr gh u2.next) (agr Bt u2.next) (by rw[<-hlen];exact hj) hX) abZ
 have GM:=fun(O':VH) (u:O.Ge O') (ba bx:Nat) (ha:O'.hp ba=some (.cells [.ptr tb 0])) (hx:O'.hp bx=some (.cells (bZ (kH n.k)))) (gh:ba<O'.next) (Bt:bx<O'.next)=>
  N2 (h.ge u) (id:=101) (cs:=[.ptr ba 0,.ptr bx 0]) (fun j=>match S.1[j]? with
   | none=>false
   | some b=>kH b.k==kH n.k) (by kernel_rfl) (fun j hj O2 u2=>by
     have:=ahJ (h.ge (u.trans u2)) ((u2.hp _ gh).trans ha) ((u2.hp _ Bt).trans hx) (agr gh u2.next) (agr Bt u2.next) (TP hj);rw[TP hj];exact this) abZ
 have jh:=h.cell;have GZ:=h.map;have cJ:=h.a1;have iK:=h.a2;have hne:=h.ne;have mQ:=h.up;have As:(S.1.flatMap qD)[i*13+1]?=some (mi b.dp):=by simpa using iY (sp:=[]) lZ hb (i:=1) rfl
 have Tu:=aQ lZ S.1;have qg:=aQ N0 S.2;have t_:=abX S.1;have ue:=N1 S.2;have hE:yY S i b od n=if qU i b n=0\/Ka S i (kH n.k)=true then some S else if 4096<=S.1.length then none else some (S.1++[⟨i,b.dp+1,od,n.k,n.v,qU i b n,AV S i (kH n.k)⟩],S.2++[n.x]):=rfl
 rw[hE];clear hE;have agb:Ka S i (kH n.k)=vV S.1 (fun j=>(S.2.getD j []).any (Cs · (kH n.k))) (i+1) i:=rfl
 have agc:AV S i (kH n.k)=vV S.1 (fun j=>match S.1[j]? with
   | none=>false
   | some b=>kH b.k==kH n.k) (i+1) i:=rfl
 rw[<-agb]at hex;rw[<-agc]at GM;clear agb agc;have AA:=mQ i b hb
 have agd:Ups (S.1++[⟨i,b.dp+1,od,n.k,n.v,qU i b n,AV S i (kH n.k)⟩]):=by
  intro j c hj;rw[List.getElem?_append]at hj;split at hj
  ·exact mQ j c hj
  ·rename_i aj_;have:=List.mem_of_getElem? hj;rw[agu]at this;subst this;dsimp only;omega
 have hn0:=hn;generalize qU i b n=sc at*;generalize Ka S i (kH n.k)=ex at*;generalize AV S i (kH n.k)=rd at*;obtain⟨⟨k1,k2,k3,k4⟩,v,s,o,x⟩:=n;obtain⟨g1,g2,g3⟩:=g;dsimp only at agd ⊢;have hux:cS [MV.sl x.length (x.flatMap bZ) .ar]=[MV.sl x.length (x.flatMap bZ) .ar]:=by simpa[zb]using N1 [x]
 simp only[dR,fY,vN,bW,bZ,kH,aq,a_,Km,yP,RZ,acs]at Xo BA BX hex GM jh As ⊢;refine VF.bN 126 [.cell 8 71] Tryz.func75 ?_;refine VC.ag aa (ae @aR ?_);refine VC.gen ?_;intro O1 e1;obtain⟨aM,cW,Xp,nA,hC1⟩:=lP _ _ _ e1;clear e1;refine VC.ag aa (ao @aR @nA ?_);refine ah.rt (BX O1) ?_;rintro _ O2 ⟨rfl,ay⟩;have gN:=aM.trans ay;have iq:=ay.next;refine ae @aR ?_;refine VC.al ?_;rintro O3 ⟨aG,Wg,gm⟩;have eP:=gN.trans aG;have Xq:=(ay.trans aG).at Xp;have hB3:=(ay.trans aG).at nA;have hC3:=(ay.trans aG).at hC1;refine VC.ag aa (aJ @aR @Xq @hB3 ?_);refine ah.rt (Xo O3 eP) ?_;rintro _ O4 ⟨rfl,aY⟩;have ig:=eP.trans aY;have gI:=aY.next;have hA4:=aY.at Xq;have hB4:=aY.at hB3;have Wl:=aY.at hC3;have qc:=aY.at Wg;refine ae @aR ?_;refine VC.ag aa (ao @aR @hA4 ?_);refine ah.rt (hex O4 ig O.next O2.next hA4 qc (by omega) (by omega)) ?_;rintro _ O5 ⟨rfl,bH⟩;have nD:=ig.trans bH;have fS:=bH.next;have Xr:=bH.at hA4;have Kb:=bH.at hB4;have Xs:=bH.at Wl;have hX5:=bH.at qc;clear aM ay aG aY bH Xp Xq hA4 nA hB3 hB4 hC1 hC3 Wl Wg qc gN eP ig;refine ae @aR ?_;have h5:=h.ge nD;have aka:=nD.next;have qV:=h5.cell;simp only[bW,Km,yP]at qV
 have ab0:∀X,sA (O5.set (O.next+2) X) tb k bb mm ⟨g1,g2,g3⟩ S t1 t2 B/\O.next<=(O5.set (O.next+2) X).next/\∀j,j<O.next->j≠tb->Tok.id t1≠some j->Tok.id t2≠some j->(O5.set (O.next+2) X).hp j=O.hp j:=fun X=>
  ⟨h.ge (nD.set (by omega) X),aka,fun j h1 _ _ _=>VH.sn (nD.hp j h1)⟩
 have alo:(.agg [.v (.int .i64 0),.str [],.str [],.str [],.v (.int .i64 0),.v (.int .i64 0),.v (.int .i64 0),.str []]:MV)= .agg (pd iZ):=rfl;by_cases fW:sc=0
 ·have e1:(sc==0)=true:=by simpa using fW
  rw[if_pos (.inl fW)];refine VC.ag aa (aJ @aR @e1 @Xs ?_);exact⟨rfl,t1,t2,ab0 _⟩
 have e1:(sc==0)=false:=by simpa using fW
 cases ex;rotate_left
 ·rw[if_pos (.inr rfl)];refine VC.ag aa (aJ @aR @e1 @Xs ?_);exact⟨rfl,t1,t2,ab0 _⟩
 rw[if_neg (by rintro(h | h);exact fW h;cases h)];by_cases jB:4096<=S.1.length
 ·have e2:decide (S.1.length>=(4096:Int))=true:=decide_eq_true (by omega);have e3:decide ((4096:Int)<=S.1.length)=true:=decide_eq_true (by omega);rw[if_pos jB];refine VC.ag aa (ZO @aR @e1 @e2 @e3 @Xr @qV @Xs ?_);exact⟨rfl,nD.set (by omega) _⟩
 rw[if_neg jB];have e2:decide (S.1.length>=(4096:Int))=false:=decide_eq_false (by omega);have e3:decide ((4096:Int)<=S.1.length)=false:=decide_eq_false (by omega);refine VC.ag aa (ZO @aR @e1 @e2 @e3 @Xr @qV @Xs ?_);refine VC.bC [1,4,7,8,9,12] (fun nb:Nat=>[mi i,.ptr O.next 0,.ptr (O.next+1) 0,.ptr (O.next+2) 0,.ptr O2.next 0,.ptr nb 0]) (fun nb O'=>O5.Ge O'/\O5.next<=nb/\nb<O'.next/\O'.hp nb=some (.cells [.v (.int .i64 i),.v (.int .i64 (b.dp+1)),.v (.int .i64 od),.str k1,.str k2,.str k3,.str k4,.str [],.v (.bool false),.str v,.sl 0 [] .ar,.v (.int .i64 sc),.v (.bool false)])) ?_ ?_
 ·have alp:tb≠O.next+1:=by omega
  obtain⟨J,hJ⟩:∃J:VH->Prop,∀O',J O' ↔ (O'.hp tb=O5.hp tb/\O'.hp O.next=O5.hp O.next/\O.Ge O'/\O5.next<=O'.next/\∀j,j<O5.next->j≠O.next+1->O'.hp j=O5.hp j):=⟨_,fun _=>Iff.rfl⟩
  refine VC.Aq [20] (O.next+1) (J) (Kb) (fun X=>(hJ _).2 ⟨VH.ak _ _ (by omega),VH.ak _ _ (by omega),nD.set (by omega) _,acw _,fun j _ h=>VH.ak _ _ h⟩) ?_;intro X
  have kX:∀A B:VH,A.Ge B->(A.hp (O.next+1)=some (.obj X)/\J A)->(B.hp (O.next+1)=some (.obj X)/\J B):=fun A B g h=>by
   have h2:=(hJ _).1 h.2;exact⟨g.at h.1,(hJ _).2 ⟨g.at h2.1,g.at h2.2.1,h2.2.2.1.trans g,ah1 h2.2.2.2.1 g.next,fun j h3 h4=>g.at (h2.2.2.2.2 j h3 h4)⟩⟩
  refine ab.av 0 ?_;refine ae @aR ?_;refine ab.mP (m:=.ptr tb 0) 1 ?_ ?_
  ·rintro O2 ⟨i0,i1⟩;exact dq @aR (((hJ _).1 i1).2.1.trans Xr)
  simp only[aj];refine ab.av 2 ?_;refine ae @aR ?_;refine ab.av 3 ?_;refine ae @aR ?_;refine ab.av 5 ?_;refine ae @aR ?_;refine ab.av 10 ?_;refine ae @aR ?_;refine ab.av 11 ?_;refine ae @aR ?_;refine ab.oe (m:=.agg [.str k1,.str k2,.str k3,.str k4]) 12 (fun _ h=>h.1) (fun _ h=>h) ?_ ?_
  ·exact fe @aR
  simp only[aj];refine ab.mP (m:=.ptr tb 0) 13 ?_ ?_
  ·rintro O2 ⟨i0,i1⟩;exact dq @aR (((hJ _).1 i1).2.1.trans Xr)
  simp only[aj];refine ab.av 14 ?_;refine ae @aR ?_;refine ab.oe (m:=.agg [.str k1,.str k2,.str k3,.str k4,.v (.bool false),.str v,.sl 0 [] .ar,.v (.int .i64 s),.v (.bool o),.sl x.length (x.flatMap bZ) .ar]) 15 (fun _ h=>h.1) (fun _ h=>h) ?_ ?_
  ·exact fe @aR
  simp only[aj];refine ab.av 17 ?_;refine ae @aR ?_;have GN:(O5.set (O.next+1) (.obj X)).hp (O.next+1)=some (.obj X)/\J (O5.set (O.next+1) (.obj X)):=⟨VH.an _ _ _,(hJ _).2 ⟨VH.ak _ _ (by omega),VH.ak _ _ (by omega),nD.set (by omega) _,acw _,fun j _ h=>VH.ak _ _ h⟩⟩;have nO7:(O5.set (O.next+1) (.obj X)).next=O5.next:=rfl;generalize O5.set (O.next+1) (.obj X)=O7 at*;refine ab.abi (i:=4) (j:=16) (k:=19) ?_ ?_ ?_
  ·have jt:=((hJ _).1 GN.2).1.trans qV;refine aK.o1 ?_;refine ao @aR @jt ?_;refine⟨GN,?_⟩;refine ab.av 6 ?_;refine ae @aR ?_;refine ab.av 7 ?_;refine ae @aR ?_;refine ab.mP (m:=.v (.int .i64 b.dp)) 8 ?_ ?_
   ·rintro O2 ⟨i0,i1⟩;exact dq @aR @As
   simp only[aj];refine ab.av 9 ?_;refine ae @aR ?_;refine ab.pair (i:=16) (j:=19) ?_ ?_
   ·refine aK.jj (BA O7 ((hJ _).1 GN.2).2.2.1) ?_;rintro _ mj ⟨rfl,N3⟩;simp only[aj];have vW:=kX _ _ N3 GN;have akb:=N3.next;refine⟨vW,?_⟩;refine ab.av 18 ?_;refine ae @aR ?_;refine ab.op (i:=19) ?_;refine ae @aR ?_;have FO:VH.Ge mj (VH.push mj (.cells mh)):=(VH.Ge.refl _).push _;have nS:=kX _ _ FO vW;have FP:(VH.push mj (.cells mh)).hp mj.next=some (.cells mh):=VH.aW _ _;have ab1:(VH.push mj (.cells mh)).next=mj.next+1:=rfl;refine⟨?_,?_⟩
    ·first | exact nS | exact⟨vW.1,nS.2⟩
    generalize VH.push mj (.cells mh)=vX at*;have kY:=FP;have lL:=nS;have rA:=((hJ _).1 lL.2).2.2.2.1;have ox:=(VH.ak (k:=O.next+1) vX (.cells [.str k1,.str k2,.str k3,.str k4,.v (.bool false),.str v,.sl 0 [] .ar,.v (.int .i64 s),.v (.bool o),.sl x.length (x.flatMap bZ) .ar]) (show mj.next≠O.next+1 by omega)).trans kY;refine ab.jQ [(20,.one)] ?_;simp only[mh]at kY ox;refine aJ @aR @kY @ox ?_;refine aA.mk mj.next ⟨⟨by show O5.next<=vX.next;omega,fun j h1=>?_⟩,by omega,by show mj.next<vX.next;omega,VH.an _ _ _⟩;rw[VH.ak _ _ (by omega)];by_cases e:j=O.next+1
    ·subst e;rw[VH.an];exact Kb.symm
    ·rw[VH.ak _ _ e];exact((hJ _).1 lL.2).2.2.2.2 j h1 e
   ·refine aK.o1 ?_;refine ae @aR ?_;have ab2:VH.Ge O7 (VH.push O7 (.cells mh)):=(VH.Ge.refl _).push _;have sB:=kX _ _ ab2 GN;have Tw:(VH.push O7 (.cells mh)).hp O7.next=some (.cells mh):=VH.aW _ _;have akc:(VH.push O7 (.cells mh)).next=O7.next+1:=rfl;refine⟨?_,?_⟩
    ·first | exact sB | exact⟨GN.1,sB.2⟩
    generalize VH.push O7 (.cells mh)=O7a at*;refine ab.call (i:=16) (BA O7a ((hJ _).1 sB.2).2.2.1) ?_;rintro _ vY ⟨rfl,qq⟩;simp only[aj];have rJ:=kX _ _ qq sB;have ab3:=qq.next;refine⟨rJ,?_⟩;have FT:=qq.at Tw;refine ab.av 18 ?_;refine ae @aR ?_;have kY:=FT;have lL:=rJ;have rA:=((hJ _).1 lL.2).2.2.2.1;have ox:=(VH.ak (k:=O.next+1) vY (.cells [.str k1,.str k2,.str k3,.str k4,.v (.bool false),.str v,.sl 0 [] .ar,.v (.int .i64 s),.v (.bool o),.sl x.length (x.flatMap bZ) .ar]) (show O7.next≠O.next+1 by omega)).trans kY;refine ab.jQ [(20,.one)] ?_;simp only[mh]at kY ox;refine aJ @aR @kY @ox ?_;refine aA.mk O7.next ⟨⟨by show O5.next<=vY.next;omega,fun j h1=>?_⟩,by omega,by show O7.next<vY.next;omega,VH.an _ _ _⟩;rw[VH.ak _ _ (by omega)];by_cases e:j=O.next+1
    ·subst e;rw[VH.an];exact Kb.symm
    ·rw[VH.ak _ _ e];exact((hJ _).1 lL.2).2.2.2.2 j h1 e
  ·refine aK.jj (BA O7 ((hJ _).1 GN.2).2.2.1) ?_;rintro _ mj ⟨rfl,N3⟩;simp only[aj];have vW:=kX _ _ N3 GN;have akb:=N3.next;refine⟨vW,?_⟩;refine ab.pair (i:=4) (j:=19) ?_ ?_
   ·have jt:=((hJ _).1 vW.2).1.trans qV;refine aK.o1 ?_;refine ao @aR @jt ?_;refine⟨vW,?_⟩;refine ab.av 6 ?_;refine ae @aR ?_;refine ab.av 7 ?_;refine ae @aR ?_;refine ab.mP (m:=.v (.int .i64 b.dp)) 8 ?_ ?_
    ·rintro O2 ⟨i0,i1⟩;exact dq @aR @As
    simp only[aj];refine ab.av 9 ?_;refine ae @aR ?_;refine ab.av 18 ?_;refine ae @aR ?_;refine ab.op (i:=19) ?_;refine ae @aR ?_;have FO:VH.Ge mj (VH.push mj (.cells mh)):=(VH.Ge.refl _).push _;have nS:=kX _ _ FO vW;have FP:(VH.push mj (.cells mh)).hp mj.next=some (.cells mh):=VH.aW _ _;have ab1:(VH.push mj (.cells mh)).next=mj.next+1:=rfl;refine⟨?_,?_⟩
    ·first | exact nS | exact⟨vW.1,nS.2⟩
    generalize VH.push mj (.cells mh)=vX at*;have kY:=FP;have lL:=nS;have rA:=((hJ _).1 lL.2).2.2.2.1;have ox:=(VH.ak (k:=O.next+1) vX (.cells [.str k1,.str k2,.str k3,.str k4,.v (.bool false),.str v,.sl 0 [] .ar,.v (.int .i64 s),.v (.bool o),.sl x.length (x.flatMap bZ) .ar]) (show mj.next≠O.next+1 by omega)).trans kY;refine ab.jQ [(20,.one)] ?_;simp only[mh]at kY ox;refine aJ @aR @kY @ox ?_;refine aA.mk mj.next ⟨⟨by show O5.next<=vX.next;omega,fun j h1=>?_⟩,by omega,by show mj.next<vX.next;omega,VH.an _ _ _⟩;rw[VH.ak _ _ (by omega)];by_cases e:j=O.next+1
    ·subst e;rw[VH.an];exact Kb.symm
    ·rw[VH.ak _ _ e];exact((hJ _).1 lL.2).2.2.2.2 j h1 e
   ·refine aK.o1 ?_;refine ae @aR ?_;have FO:VH.Ge mj (VH.push mj (.cells mh)):=(VH.Ge.refl _).push _;have nS:=kX _ _ FO vW;have FP:(VH.push mj (.cells mh)).hp mj.next=some (.cells mh):=VH.aW _ _;have ab1:(VH.push mj (.cells mh)).next=mj.next+1:=rfl;refine⟨?_,?_⟩
    ·first | exact nS | exact⟨vW.1,nS.2⟩
    generalize VH.push mj (.cells mh)=vX at*;have jt:=((hJ _).1 nS.2).1.trans qV;refine ab.op (i:=4) ?_;refine ao @aR @jt ?_;refine⟨nS,?_⟩;refine ab.av 6 ?_;refine ae @aR ?_;refine ab.av 7 ?_;refine ae @aR ?_;refine ab.mP (m:=.v (.int .i64 b.dp)) 8 ?_ ?_
    ·rintro O2 ⟨i0,i1⟩;exact dq @aR @As
    simp only[aj];refine ab.av 9 ?_;refine ae @aR ?_;refine ab.av 18 ?_;refine ae @aR ?_;have kY:=FP;have lL:=nS;have rA:=((hJ _).1 lL.2).2.2.2.1;have ox:=(VH.ak (k:=O.next+1) vX (.cells [.str k1,.str k2,.str k3,.str k4,.v (.bool false),.str v,.sl 0 [] .ar,.v (.int .i64 s),.v (.bool o),.sl x.length (x.flatMap bZ) .ar]) (show mj.next≠O.next+1 by omega)).trans kY;refine ab.jQ [(20,.one)] ?_;simp only[mh]at kY ox;refine aJ @aR @kY @ox ?_;refine aA.mk mj.next ⟨⟨by show O5.next<=vX.next;omega,fun j h1=>?_⟩,by omega,by show mj.next<vX.next;omega,VH.an _ _ _⟩;rw[VH.ak _ _ (by omega)];by_cases e:j=O.next+1
    ·subst e;rw[VH.an];exact Kb.symm
    ·rw[VH.ak _ _ e];exact((hJ _).1 lL.2).2.2.2.2 j h1 e
  ·refine aK.o1 ?_;refine ae @aR ?_;have ab2:VH.Ge O7 (VH.push O7 (.cells mh)):=(VH.Ge.refl _).push _;have sB:=kX _ _ ab2 GN;have Tw:(VH.push O7 (.cells mh)).hp O7.next=some (.cells mh):=VH.aW _ _;have akc:(VH.push O7 (.cells mh)).next=O7.next+1:=rfl;refine⟨?_,?_⟩
   ·first | exact sB | exact⟨GN.1,sB.2⟩
   generalize VH.push O7 (.cells mh)=O7a at*;refine ab.pair (i:=4) (j:=16) ?_ ?_
   ·have jt:=((hJ _).1 sB.2).1.trans qV;refine aK.o1 ?_;refine ao @aR @jt ?_;refine⟨sB,?_⟩;refine ab.av 6 ?_;refine ae @aR ?_;refine ab.av 7 ?_;refine ae @aR ?_;refine ab.mP (m:=.v (.int .i64 b.dp)) 8 ?_ ?_
    ·rintro O2 ⟨i0,i1⟩;exact dq @aR @As
    simp only[aj];refine ab.av 9 ?_;refine ae @aR ?_;refine ab.call (i:=16) (BA O7a ((hJ _).1 sB.2).2.2.1) ?_;rintro _ vY ⟨rfl,qq⟩;simp only[aj];have rJ:=kX _ _ qq sB;have ab3:=qq.next;refine⟨rJ,?_⟩;have FT:=qq.at Tw;refine ab.av 18 ?_;refine ae @aR ?_;have kY:=FT;have lL:=rJ;have rA:=((hJ _).1 lL.2).2.2.2.1;have ox:=(VH.ak (k:=O.next+1) vY (.cells [.str k1,.str k2,.str k3,.str k4,.v (.bool false),.str v,.sl 0 [] .ar,.v (.int .i64 s),.v (.bool o),.sl x.length (x.flatMap bZ) .ar]) (show O7.next≠O.next+1 by omega)).trans kY;refine ab.jQ [(20,.one)] ?_;simp only[mh]at kY ox;refine aJ @aR @kY @ox ?_;refine aA.mk O7.next ⟨⟨by show O5.next<=vY.next;omega,fun j h1=>?_⟩,by omega,by show O7.next<vY.next;omega,VH.an _ _ _⟩;rw[VH.ak _ _ (by omega)];by_cases e:j=O.next+1
    ·subst e;rw[VH.an];exact Kb.symm
    ·rw[VH.ak _ _ e];exact((hJ _).1 lL.2).2.2.2.2 j h1 e
   ·refine aK.jj (BA O7a ((hJ _).1 sB.2).2.2.1) ?_;rintro _ vY ⟨rfl,qq⟩;simp only[aj];have rJ:=kX _ _ qq sB;have ab3:=qq.next;refine⟨rJ,?_⟩;have FT:=qq.at Tw;have jt:=((hJ _).1 rJ.2).1.trans qV;refine ab.op (i:=4) ?_;refine ao @aR @jt ?_;refine⟨rJ,?_⟩;refine ab.av 6 ?_;refine ae @aR ?_;refine ab.av 7 ?_;refine ae @aR ?_;refine ab.mP (m:=.v (.int .i64 b.dp)) 8 ?_ ?_
    ·rintro O2 ⟨i0,i1⟩;exact dq @aR @As
    simp only[aj];refine ab.av 9 ?_;refine ae @aR ?_;refine ab.av 18 ?_;refine ae @aR ?_;have kY:=FT;have lL:=rJ;have rA:=((hJ _).1 lL.2).2.2.2.1;have ox:=(VH.ak (k:=O.next+1) vY (.cells [.str k1,.str k2,.str k3,.str k4,.v (.bool false),.str v,.sl 0 [] .ar,.v (.int .i64 s),.v (.bool o),.sl x.length (x.flatMap bZ) .ar]) (show O7.next≠O.next+1 by omega)).trans kY;refine ab.jQ [(20,.one)] ?_;simp only[mh]at kY ox;refine aJ @aR @kY @ox ?_;refine aA.mk O7.next ⟨⟨by show O5.next<=vY.next;omega,fun j h1=>?_⟩,by omega,by show O7.next<vY.next;omega,VH.an _ _ _⟩;rw[VH.ak _ _ (by omega)];by_cases e:j=O.next+1
    ·subst e;rw[VH.an];exact Kb.symm
    ·rw[VH.ak _ _ e];exact((hJ _).1 lL.2).2.2.2.2 j h1 e
 rintro nb O6 ⟨fJ,alq,alr,jb⟩;have S5:=nD.trans fJ;have n9:=fJ.next;refine VC.ag aa (ao @aR @jb ?_);refine VC.gen ?_;intro O7 e7;have yE:O7.hp nb=some (.cells [.v (.int .i64 i),.v (.int .i64 (b.dp+1)),.v (.int .i64 od),.str k1,.str k2,.str k3,.str k4,.str v,.v (.bool false),.str v,.sl 0 [] .ar,.v (.int .i64 sc),.v (.bool false)]):=by rw[e7];exact VH.an _ _ _
 have vK:∀j,j≠nb->O7.hp j=O6.hp j:=fun j hj=>by rw[e7];exact VH.ak _ _ hj
 have uh:O7.next=O6.next:=by rw[e7];rfl
 have Cu:O.Ge O7:=by rw[e7];exact S5.set (by omega) _
 clear e7;have hA7:=(vK _ (by omega)).trans (fJ.at Xr);have hB7:=(vK _ (by omega)).trans (fJ.at Kb);have hC7:=(vK _ (by omega)).trans (fJ.at Xs);have hX7:=(vK _ (by omega)).trans (fJ.at hX5);refine VC.ag aa (ao @aR @yE ?_);refine VC.ag aa (ao @aR @hA7 ?_);refine ah.rt (GM O7 Cu O.next O2.next hA7 hX7 (by omega) (by omega)) ?_;rintro _ O8 ⟨rfl,iI⟩;have EE:=iI.next;have sS:=iI.at yE;refine ao @aR @sS ?_;refine VC.gen ?_;intro O9 e9;have bI:O9.hp nb=some (.cells [.v (.int .i64 i),.v (.int .i64 (b.dp+1)),.v (.int .i64 od),.str k1,.str k2,.str k3,.str k4,.str v,.v (.bool false),.str v,.sl 0 [] .ar,.v (.int .i64 sc),.v (.bool rd)]):=by rw[e9];exact VH.an _ _ _
 have BV:∀j,j≠nb->O9.hp j=O8.hp j:=fun j hj=>by rw[e9];exact VH.ak _ _ hj
 have BN:O9.next=O8.next:=by rw[e9];rfl
 have sh:O.Ge O9:=by rw[e9];exact(Cu.trans iI).set (by omega) _
 clear e9;have hA9:=(BV _ (by omega)).trans (iI.at hA7);have hB9:=(BV _ (by omega)).trans (iI.at hB7);have hC9:=(BV _ (by omega)).trans (iI.at hC7);clear Xr hA7 Kb hB7 Xs hC7 hX5 hX7 jb yE sS vK BV Cu S5 fJ iI GM hex Xo BA BX;have h9:=h.ge sh;have DA:=h9.cell;simp only[bW,Km,yP]at DA;have cC:=bj (tk:=t1) (tk':=.full) (n:=S.1.length) (k:=1) (cs:=S.1.flatMap qD) (ds:=[.v (.int .i64 i),.v (.int .i64 (b.dp+1)),.v (.int .i64 od),.str k1,.str k2,.str k3,.str k4,.str v,.v (.bool false),.str v,.sl 0 [] .ar,.v (.int .i64 sc),.v (.bool rd)]) xh T35.1.1 h9.a1 Tu rfl rfl (by decide) (by decide) (by omega) (by simp only[maxLen];omega);have kS:∀j,j<O9.next->O9.hp j≠some .tok->(O9.after t1).hp j=O9.hp j:=fun j h1 h2=>App.off h9.a1 h1 h2
 have JM:=(kS tb (by omega) (by rw[DA];simp)).trans DA;refine VC.bB ?_;refine WC.bO (.held [10]) [(0,.rd),(1,.rd),(2,.rd),(3,.rd),(4,.rd),(5,.rd),(6,.one),(7,.one),(8,.one),(9,.rd),(10,.one)] ?_;refine c_ @aR @hA9 @DA @bI ?_;refine VL.app cC ?_;refine ao @aR @JM ?_
 have hN:(S.1.flatMap qD++[.v (.int .i64 i),.v (.int .i64 (b.dp+1)),.v (.int .i64 od),.str k1,.str k2,.str k3,.str k4,.str v,.v (.bool false),.str v,.sl 0 [] .ar,.v (.int .i64 sc),.v (.bool rd)]:List MV)=(S.1++[(⟨i,b.dp+1,od,⟨k1,k2,k3,k4⟩,v,sc,rd⟩:Br)]).flatMap qD:=by
  rw[alV,alF];rfl
 have hNl:S.1.length+1=(S.1++[(⟨i,b.dp+1,od,⟨k1,k2,k3,k4⟩,v,sc,rd⟩:Br)]).length:=by simp
 rw[hN];have JN:=cL.after h9.a1;have hnA:(O9.after t1).next=O9.next+1:=VH.dU _ _;have hAp:App (O9.after t1) B 13 (.own O9.next 13):=App.after (by have:=sh.next;omega);have akd:App (O9.after t1) B 1 t2:=JN.app h9.a2 hne;refine VC.gen ?_;intro fT r5;have HK:fT.next=O9.next+1:=by rw[r5];exact hnA
 have FU:fT.hp tb=some (.cells [.ptr k 0,.ptr bb 0,.str g1,.str g2,.str g3,.map mm,.sl (S.1.length+1) ((S.1++[(⟨i,b.dp+1,od,⟨k1,k2,k3,k4⟩,v,sc,rd⟩:Br)]).flatMap qD) (.own O9.next 13),.sl S.2.length (S.2.flatMap zb) t2]):=by rw[r5];exact VH.an _ _ _
 have AM:∀j,j≠tb->fT.hp j=(O9.after t1).hp j:=fun j hj=>by rw[r5];exact VH.ak _ _ hj
 have ahK:App fT B 13 (.own O9.next 13):=by rw[r5];exact hAp.oh (by rw[JM];simp)
 have RL:App fT B 1 t2:=by rw[r5];exact akd.oh (by rw[JM];simp)
 clear r5;have ake:=(AM _ (by omega)).trans ((kS _ (by omega) (by rw[hA9];simp)).trans hA9);have akf:=(AM _ (by omega)).trans ((kS _ (by omega) (by rw[hB9];simp)).trans hB9);have N4:=(AM _ (by omega)).trans ((kS _ (by omega) (by rw[hC9];simp)).trans hC9);have vQ:=bj (tk:=t2) (tk':=.full) (n:=S.2.length) (k:=1) (cs:=S.2.flatMap zb) (ds:=[.sl x.length (x.flatMap bZ) .ar]) ae4 Ev RL qg rfl rfl (by decide) (by decide) (by omega) (by simp only[maxLen];omega);have ab4:∀j,j<fT.next->fT.hp j≠some .tok->(fT.after t2).hp j=fT.hp j:=fun j h1 h2=>App.off RL h1 h2
 have hcB:=(ab4 tb (by omega) (by rw[FU];simp)).trans FU;refine VC.bB ?_;refine WC.bO (.held [11]) [(0,.rd),(1,.rd),(2,.rd),(3,.rd),(4,.rd),(5,.rd),(6,.rd),(7,.one),(8,.one),(9,.one),(10,.rd),(11,.one)] ?_;refine c_ @aR @ake @FU @akf ?_;refine VL.app vQ ?_;refine ao @aR @hcB ?_
 have hX:(S.2.flatMap zb++[.sl x.length (x.flatMap bZ) .ar]:List MV)=(S.2++[x]).flatMap zb:=by
  rw[alV,alF];rfl
 rw[hX];have hKB:=cL.after RL;have hnB:(fT.after t2).next=fT.next+1:=VH.dU _ _;have hBp:App (fT.after t2) B 1 (.own fT.next 1):=App.after (by have:=sh.next;omega)
 have akg:App (fT.after t2) B 13 (.own O9.next 13):=hKB.app ahK (fun j h1 h2=>by
  injection h2 with h2;subst h2;have:=(App.n8 h9.a2 h1).2;omega)
 refine VC.gen ?_;intro ur Xt;have aff:ur.next=fT.next+1:=by rw[Xt];exact hnB
 have ab5:ur.hp tb=some (.cells [.ptr k 0,.ptr bb 0,.str g1,.str g2,.str g3,.map mm,.sl (S.1.length+1) ((S.1++[(⟨i,b.dp+1,od,⟨k1,k2,k3,k4⟩,v,sc,rd⟩:Br)]).flatMap qD) (.own O9.next 13),.sl (S.2.length+1) ((S.2++[x]).flatMap zb) (.own fT.next 1)]):=by rw[Xt];exact VH.an _ _ _
 have age:∀j,j≠tb->ur.hp j=(fT.after t2).hp j:=fun j hj=>by rw[Xt];exact VH.ak _ _ hj
 have ahL:App ur B 13 (.own O9.next 13):=by rw[Xt];exact akg.oh (by rw[hcB];simp)
 have ahM:App ur B 1 (.own fT.next 1):=by rw[Xt];exact hBp.oh (by rw[hcB];simp)
 clear Xt;have ab6:=(age _ (by omega)).trans ((ab4 _ (by omega) (by rw[N4];simp)).trans N4);refine VC.ag aa (ao @aR @ab6 ?_);refine WC.sound aa (ae @aR ?_)
 have aU:∀j,j<O.next->j≠tb->Tok.id t1≠some j->Tok.id t2≠some j->ur.hp j=O.hp j:=fun j h1 h2 h3 h4=>by
  rw[age j h2,hKB.hp j (by have:=sh.next;omega) h4,AM j h2,JN.hp j (by have:=sh.next;omega) h3,sh.hp j h1]
 have Ry:mm≠tb:=fun e=>by have:=h.map;rw[e,jh]at this;cases this
 have Ts:ur.hp mm=some (.map (cI []) 0):=(aU mm ew.2 Ry (fun e=>by have:=App.tok cJ e;rw[GZ]at this;cases this) (fun e=>by have:=App.tok iK e;rw[GZ]at this;cases this)).trans GZ;have hng:=sh.next;refine⟨rfl,.own O9.next 13,.own fT.next 1,⟨?_,VH.sn Ts,ahL.oh (by rw[ab6];simp),ahM.oh (by rw[ab6];simp),?_,?_,?_,agd⟩,?_,?_⟩
 ·rw[VH.ak _ _ (by omega),ab5];simp[bW]
 ·intro j h1 h2;injection h1 with h1;injection h2 with h2;omega
 ·show tb<ur.next/\mm<ur.next;omega
 ·simp[hlen]
 ·show O.next<=ur.next;omega
 ·intro j h1 h2 h3 h4;rw[VH.ak _ _ (by omega)];exact aU j h1 h2 h3 h4
structure vZ (s:Bs):Prop where
 id:e_ s=true
 pl:∀c∈s,jJ c=true/\c≠36
theorem nmi {s:Bs} (h:s.all lM=true) (h2:1<=s.length/\s.length<=64) (h3:∀c∈s,c≠36):vZ s:=by
 refine⟨by unfold e_;rw[h,decide_eq_true h2.1,decide_eq_true h2.2];rfl,fun c hc=>⟨?_,h3 c hc⟩⟩;have:=al2.1 h c hc;unfold lM at this;exact(ah7.1 this).1
theorem vZ.vl {s:Bs} (h:vZ s):lA s:=by
 have h1:=h.id;unfold e_ at h1;simp only[al5,decide_eq_true_eq]at h1;exact⟨fun e=>by rw[e]at h1;simp at h1,fun c hc=>by unfold RG;rw[(h.pl c hc).1];rfl⟩
theorem vZ.len {s:Bs} (h:vZ s):s.length<=64:=by
 have h1:=h.id;unfold e_ at h1;simp only[al5,decide_eq_true_eq]at h1;exact h1.2
theorem sC {s:Bs} (h:∀c∈s,c≠36):rH s:=by
 unfold rH;induction s with
 | nil=>decide
 | cons b l ih=>
   have hb:=h b (acv ..);have ih:=ih fun c hc=>h c (ags _ hc)
   have iy:=Lib.index_ge l [36,123]
   have hp:([36,123]:Bs).isPrefixOf (b::l)=false:=by
    rw[List.isPrefixOf,show((36:UInt8)==b)=false from beq_eq_false_iff_ne.2 (Ne.symm hb),ahX]
   unfold Lib.index;rw[hp,if_neg (by decide)];rw[show Lib.index l [36,123]= -1 by omega];decide
theorem vZ.plain {s:Bs} (h:vZ s):gT s:=⟨sC fun c hc=>(h.pl c hc).2,ah1 h.len (by decide)⟩
theorem B0:vZ gS:=nmi (by decide) (by decide) (by decide)
def Dg (v:Bs):Prop:=v=v1\/v=[50]
theorem Dg.one:Dg v1:=.inl rfl
theorem Dg.vl {v:Bs} (h:Dg v):lA v:=by rcases h with rfl | rfl<;>exact⟨by decide,by decide⟩
theorem Dg.plain {v:Bs} (h:Dg v):gT v:=by rcases h with rfl | rfl<;>exact⟨sC (by decide),by decide⟩
theorem Dg.parse {v:Bs} (h:Dg v):qR v=((false,v,[]),0):=by
 rcases h with rfl | rfl
 ·kernel_rfl
 ·kernel_rfl
theorem Dg.len {v:Bs} (h:Dg v):v.length=1:=by rcases h with rfl | rfl<;>rfl
structure RM (d:Dp):Prop where
 g:d.g=gS
 a:vZ d.a
 v:Dg d.v
 t:d.t=[]
 c:d.c=[]
 s:d.s=0\/d.s=1\/d.s=2\/d.s=3\/d.s=4\/d.s=5
 o:d.o=0\/d.o=1
 x:∀i∈d.x,(i.g=[42]\/vZ i.g)/\vZ i.a
 xl:d.x.length<=1
theorem FV {s:Bs} (h:s=[42]\/vZ s):lA s/\s.length<=64/\h_ s=true:=by
 rcases h with rfl | h
 ·exact⟨⟨by decide,by decide⟩,by decide,by decide⟩
 ·refine⟨h.vl,h.len,?_⟩;unfold h_ Ai wO;rw[h.id];simp
theorem RM.w {d:Dp} (h:RM d):J8 d:=by
 have hg:=h.g;have hv:=h.v;refine⟨by rw[hg];exact B0.vl,h.a.vl,hv.vl,by rw[hg];decide,ah1 h.a.len (by decide),by rw[hv.len];decide,h.t,h.c,h.s,h.o,fun i hi=>?_,by have:=h.xl;omega⟩;obtain⟨h1,h2⟩:=h.x i hi;obtain⟨a1,a2,a3⟩:=FV h1;obtain⟨b1,b2,b3⟩:=FV (.inr h2);exact⟨⟨a1,by omega,a3⟩,b1,by omega,b3⟩
theorem RM.q {d:Dp} (h:RM d):Q9 d:=by
 have hg:=h.g;have hv:=h.v;refine⟨by rw[hg];exact B0.plain,by rw[hg];exact B0.id,h.a.plain,h.a.id,hv.plain,(fun e=>by have:=hv.len;rw[e]at this;cases this),hv.parse,by rw[h.t];exact⟨sC (by simp),by decide⟩,.inr h.t,by rw[h.c];exact⟨sC (by simp),by decide⟩,.inr h.c,by have:=h.xl;omega⟩
structure Calm (g:Gv) (D:List Dp):Prop where
 hg:g.g=gS
 ha:vZ g.a
 hv:Dg g.v
 d:∀d∈D,RM d
 ne:D.Pairwise fun x y=>x.a≠y.a
 n:D.length<=40
section
variable {g:Gv} {D:List Dp}
theorem Calm.w (h:Calm g D):Xg (dk g D):=
 ⟨by show lA g.g;rw[h.hg];exact B0.vl,h.ha.vl,h.hv.vl,by show g.g.length<=_;rw[h.hg];decide,ah1 h.ha.len (by decide),by show g.v.length<=_;rw[h.hv.len];decide,fun d hd=>(h.d d hd).w,ah1 h.n (by decide)⟩
theorem Calm.short (h:Calm g D):abW g D:=
 ⟨⟨by rw[h.hg];decide,h.ha.len,by rw[h.hv.len];decide⟩,fun d hd=>by
   have hd:=h.d d hd;refine⟨by rw[hd.g];decide,hd.a.len,by rw[hd.v.len];decide,hd.xl,fun i hi=>⟨(FV (hd.x i hi).1).2.1,(hd.x i hi).2.len⟩⟩,h.n⟩
theorem Calm.build (h:Calm g D):ie (cu (fE (dk g D)))= .ok (fE (dk g D)):=Xi h.w (fun d hd=>(h.d d hd).xl) h.n
theorem Calm.read (h:Calm g D):oL (fE (dk g D))= .ok (dk g D):=Xh h.w
theorem Calm.text (h:Calm g D):(cu (fE (dk g D))).length<=65536:=Xk h.w h.short
theorem Calm.gav (h:Calm g D):tf g:=by
 obtain⟨h1,h2,h3⟩:=h.short.g;have:(64:Nat)<=maxLen:=by decide
 exact⟨by omega,by omega,by omega⟩
theorem Calm.may (h:Calm g D):Ah g=true:=by
 unfold Ah;rw[h.hg,B0.id,h.ha.id];simp only[Bool.and_self,ahZ];rcases h.hv with e | e<;>rw[e]<;>decide
theorem Calm.q (h:Calm g D):PmQ (dk g D) g:=by
 have hs:=h.short.g;refine⟨⟨⟨by show(0:Nat)<=_;omega,by show(0:Nat)<=_;omega,by show D.length<=_;have:=h.n;omega,by simp[dk],fun d hd=>by have:=(h.d d hd).xl;omega⟩,rfl,by simp[dk],fun d hd=>?_,by simp[dk]⟩,rfl,rfl,rfl,?_,h.ha.plain,?_,⟨sC (by simp[dk]),by show(0:Nat)<=_;omega⟩,by show e_ (Dd [])=true;decide,rfl,rfl,fun d hd=>(h.d d hd).q,by show D.length<=_;have:=h.n;omega,?_⟩
 ·have hd:=h.d d hd;have:=hd.a.len;refine⟨by rw[hd.g];decide,by omega,by rw[hd.v.len];decide,by rw[hd.t];decide,by rw[hd.c];decide,by have:=hd.xl;omega⟩
 ·show gT g.g;rw[h.hg];exact B0.plain
 ·exact h.hv.plain
 ·refine h.ne.imp fun{x y} hxy e=>hxy ?_
  have:=congrArg Ky.a e;exact this
end
set_option linter.defProp false in
def xU:=Kn aP<|Kn T71 Ex
theorem Xu {O:VH} {bb md k:Nat} {MD:fy} {cm:Nat} (hB:Rh O bb md k MD cm) {g:Gv} (hg:tf g) {M:Mdl} (N5:jk (eJ g) MD=some (.agg (lI M))):
  VF Tryz.prog 90 [.ptr bb 0,.agg (bW g),.sl 0 [] .nil] O (aE fun m O'=>m= .agg (lI M)/\O.Ge O'):=by
 have Iw:=vG hg;have hBc:=fun(O':VH) (g':O.Ge O')=>(hB.ge g')
 obtain⟨g1,g2,g3⟩:=g;obtain⟨⟨m1,m2,m3⟩,pk,P,L⟩:=M;simp only[lI,bW,Km,yP]at N5 ⊢;refine VF.bN 120 [.cell 6 169] Tryz.func90 ?_;refine VC.ag aa (ae @aP ?_);refine VC.gen ?_;intro O1 e1;obtain⟨aM,cW,cJ,cA⟩:=gj _ _ e1;clear e1;have nA:=hBc O1 aM;have hlB:=hB.lt;have jX:∀M:List MV,O1.Ge ((O1.push (.cells mI)).set O1.next (.cells M))/\((O1.push (.cells mI)).set O1.next (.cells M)).hp O1.next=some (.cells M)/\((O1.push (.cells mI)).set O1.next (.cells M)).hp (O.next+1)=some (.cells [.str [],.str [],.str [],.str [],.sl 0 [] .nil,.sl 0 [] .nil,.sl 0 [] .nil]):=fun M=>⟨(((VH.Ge.refl O1).push _)).set (acw _) _,VH.an _ _ _,VH.sn ((VH.bA _ _ (by omega)).trans cA)⟩
 ·refine VC.bB (VC.bB ?_);refine VC.s8 [11] (fun O'=>O'.hp bb=some (.cells [.ptr k 0,.map md])/\O'.hp O.next=some (.cells [.str g1,.str g2,.str g3])/\O1.Ge O') (⟨nA.cell,cJ,VH.Ge.refl _⟩) ?_;refine ab.av 0 ?_;refine ae @aP ?_;refine ab.av 1 ?_;refine ae @aP ?_;refine ab.av 2 ?_;refine ae @aP ?_;refine ab.mP (m:=.map md) 3 ?_ ?_
  ·rintro O2 ⟨j0,j1,j2⟩;exact dq @aP @j0
  simp only[aj];refine ab.mP (m:=.agg [.str g1,.str g2,.str g3]) 4 ?_ ?_
  ·rintro O2 ⟨j0,j1,j2⟩;exact dq @aP @j1
  simp only[aj];have kX:∀A B:VH,A.Ge B->(A.hp bb=some (.cells [.ptr k 0,.map md])/\A.hp O.next=some (.cells [.str g1,.str g2,.str g3])/\O1.Ge A)->(B.hp bb=some (.cells [.ptr k 0,.map md])/\B.hp O.next=some (.cells [.str g1,.str g2,.str g3])/\O1.Ge B):=fun A B g h=>⟨(g.hp _ (by have:=h.2.2.next;have:=nA.lt;omega)).trans h.1,(g.hp _ (by have:=h.2.2.next;omega)).trans h.2.1,h.2.2.trans g⟩
  have ns:O1.hp bb=some (.cells [.ptr k 0,.map md])/\O1.hp O.next=some (.cells [.str g1,.str g2,.str g3])/\O1.Ge O1:=⟨nA.cell,cJ,VH.Ge.refl _⟩;have ug:∀A:VH,A.Ge (A.push (.cells mI)):=fun A=>(VH.Ge.refl A).push _
  have hJs:∀X,((O1.push (.cells mI)).set O1.next X).hp bb=some (.cells [.ptr k 0,.map md])/\((O1.push (.cells mI)).set O1.next X).hp O.next=some (.cells [.str g1,.str g2,.str g3])/\O1.Ge ((O1.push (.cells mI)).set O1.next X):=fun X=>kX O1 _ ((ug O1).set (acw _) _) ns
  refine ab.pair (i:=5) (j:=9) ?_ ?_
  ·refine aK.rF (fQ.lK vF aa (l:=eJ ⟨g1,g2,g3⟩) (te:=⟨_,7,136,mI⟩) Tryz.underlying177 Ex.1.1 rfl rfl nA.map nA.ok rfl rfl Iw) ?_;rw[N5];refine⟨ns,?_⟩;refine ab.av 6 ?_;refine ae @aP ?_;refine ab.av 7 ?_;refine ae @aP ?_;refine ab.av 8 ?_;refine ae @aP ?_;refine ab.op (i:=9) ?_;refine ae @aP ?_;refine⟨⟨ns.1,ns.2.1,ug _⟩,?_⟩;refine ab.op (i:=10) ?_;refine ae @aP ?_;refine⟨⟨ns.1,ns.2.1,(hJs _).2.2⟩,?_⟩;refine ab.bO [(11,.one)] ?_;refine ae @aP ?_;obtain⟨c1,c2,c3⟩:=jX [.str m1,.str m2,.str m3,.str pk,.sl P.length (P.flatMap bh) .ar,.sl 0 [] .ar,.sl L.length (L.flatMap dR) .ar];generalize (O1.push (.cells mI)).set O1.next (.cells [.str m1,.str m2,.str m3,.str pk,.sl P.length (P.flatMap bh) .ar,.sl 0 [] .ar,.sl L.length (L.flatMap dR) .ar])=O3 at*;refine WC.sound aa (aJ @aP @c2 @c3 ?_);exact(aM.trans c1).set (by omega) _
  ·refine aK.o1 ?_;refine ae @aP ?_;refine⟨⟨ns.1,ns.2.1,ug _⟩,?_⟩;refine ab.one (i:=5) (aK.rF (fQ.lK vF aa (l:=eJ ⟨g1,g2,g3⟩) (te:=⟨_,7,136,mI⟩) Tryz.underlying177 Ex.1.1 rfl rfl ((ug _).hp _ nA.lt.2 |>.trans nA.map) nA.ok rfl rfl Iw) ?_);rw[N5];refine⟨kX _ _ (ug _) ns,?_⟩;refine ab.av 6 ?_;refine ae @aP ?_;refine ab.av 7 ?_;refine ae @aP ?_;refine ab.av 8 ?_;refine ae @aP ?_;refine ab.op (i:=10) ?_;refine ae @aP ?_;refine⟨⟨ns.1,ns.2.1,(hJs _).2.2⟩,?_⟩;refine ab.bO [(11,.one)] ?_;refine ae @aP ?_;obtain⟨c1,c2,c3⟩:=jX [.str m1,.str m2,.str m3,.str pk,.sl P.length (P.flatMap bh) .ar,.sl 0 [] .ar,.sl L.length (L.flatMap dR) .ar];generalize (O1.push (.cells mI)).set O1.next (.cells [.str m1,.str m2,.str m3,.str pk,.sl P.length (P.flatMap bh) .ar,.sl 0 [] .ar,.sl L.length (L.flatMap dR) .ar])=O3 at*;refine WC.sound aa (aJ @aP @c2 @c3 ?_);exact(aM.trans c1).set (by omega) _
theorem ab7 {O:VH} {a b:Nat} {K:VH->Prop} (h:K O):gy Tryz.prog 88 [.ptr a 0,.ptr b 0] none O K:=by
 refine gy.rec (d:=5) Tryz.func88 (Nat.lt_of_lt_of_eq (by decide:5<13) rfl) ?_;show WC _ _ ⟨13,0⟩ _ _ _ _ _;simp only[cx,alN,Nat.reduceAdd,z6];refine ao @xU @wi ?_;refine VL.pure (by simp) (fun _=>.inl rfl) rfl rfl (iG.Er (bb:=true) Tryz.underlying20 rfl (.inl ⟨rfl,rfl⟩)) ?_;refine WL.sound aa ?_;refine ao @xU @wi ?_;exact h
theorem N6 {l:List Bs} {M:fy} {p:List Bs×MV×Nat}:jk l (M++[p])=match jk l M with
  | some x=>some x
  | none=>if p.1=l then some p.2.1 else none:=by
 unfold jk;rw[List.find?_append];cases h:M.find? (·.1==l)with
 | some x=>rfl
 | none=>
   simp only[Option.map_none,Option.none_or,List.find?_cons,List.find?_nil];by_cases e:p.1=l
   ·rw[if_pos e,show(p.1==l)=true by simpa using e];rfl
   ·rw[if_neg e,show(p.1==l)=false by simpa using e];rfl
def Own (k ke kv:Nat) (E V:fy) (j:Nat):Prop:=j=k\/j=ke\/j=kv\/(∃(i c:Nat) (p:List Bs),E[i]?=some (p,MV.ptr j 0,c))\/∃p∈V,∃n cs tk,p.2.1=MV.sl n cs tk/\Tok.id tk=some j
structure CB (O:VH) (U:Nat->Prop) (k bb md:Nat) (S:List (Gv×List Dp)):Prop where
 ex:∃L E V ke kv ce cv r a MD cm,nr O k L E V ke kv ce cv r a/\Rh O bb md k MD cm/\L.length=S.length/\(∀(i:Nat) (g:Gv) (D:List Dp),S[i]?=some (g,D)->∃o,L[i]?=some (g,cu (fE (dk g D)),o)/\((o=none/\jk (eJ g) MD=none)\/(o=some (dk g D)/\jk (eJ g) MD=some (.agg (lI (iN g (dk g D)))))))
  /\(md≠ke/\md≠kv)/\∀j,Own k ke kv E V j->U j
 lt:∀j,U j->j<O.next
 b:U bb/\U md
theorem vL.low {O O':VH} {V:fy} {N:Nat} {U:Nat->Prop} (h:vL O V N) (hb:∀p∈V,∀n cs tk (i:Nat),p.2.1=MV.sl n cs tk->Tok.id tk=some i->U i) (hn:O.next<=O'.next) (hi:∀i,U i->O'.hp i=O.hp i):vL O' V N:=
 ⟨fun p hp=>by
  obtain⟨n,cs,tk,h1,h2,h3,h4,h5⟩:=h.row p hp;exact⟨n,cs,tk,h1,h2,h3,h4.at hn (fun i e=>hi i (hb p hp n cs tk i h1 e)),h5⟩,h.one⟩
theorem nr.mv {O O':VH} {U:Nat->Prop} {k ke kv ce cv:Nat} {L:List (Gv×Bs×Option Pm)} {E V:fy} {r a:Int} (hS:nr O k L E V ke kv ce cv r a) (hU:∀j,Own k ke kv E V j->U j) (hn:O.next<=O'.next) (hi:∀i,U i->O'.hp i=O.hp i):nr O' k L E V ke kv ce cv r a:=by
 have h1:=hU k (.inl rfl);have h2:=hU ke (.inr (.inl rfl));have h3:=hU kv (.inr (.inr (.inl rfl)));have hl:=hS.st.lt;refine⟨⟨(hi _ h1).trans hS.st.cell,(hi _ h2).trans hS.st.CA,(hi _ h3).trans hS.st.HY,hS.st.MG,hS.st.vok,hS.st.ptr,⟨by omega,by omega,by omega⟩,hS.st.ne⟩,hS.len,fun i g t o e=>?_,hS.dis,hS.ver.low (fun p hp n cs tk i e1 e2=>hU i (.inr (.inr (.inr (.inr ⟨p,hp,n,cs,tk,e1,e2⟩))))) hn hi⟩;obtain⟨q,c,k1,k2,k3⟩:=hS.JC i g t o e;exact⟨q,c,k1,by omega,(hi _ (hU q (.inr (.inr (.inr (.inl ⟨i,c,_,k1⟩)))))).trans k3⟩
theorem CB.mv {O O':VH} {U:Nat->Prop} {k bb md:Nat} {S:List (Gv×List Dp)} (h:CB O U k bb md S) (hn:O.next<=O'.next) (hi:∀i,U i->O'.hp i=O.hp i):CB O' U k bb md S:=by
 obtain⟨⟨L,E,V,ke,kv,ce,cv,r,a,MD,cm,hS,hB,hL,JF,lY,hU⟩,ew,cA,ct⟩:=h;refine⟨⟨L,E,V,ke,kv,ce,cv,r,a,MD,cm,hS.mv hU hn hi,?_,hL,JF,lY,hU⟩,fun j hj=>agr (ew j hj) hn,cA,ct⟩;have hl:=hB.lt;exact⟨(hi _ cA).trans hB.cell,(hi _ ct).trans hB.map,hB.ok,by omega,by omega⟩
theorem CB.ge {O O':VH} {U:Nat->Prop} {k bb md:Nat} {S:List (Gv×List Dp)} (h:CB O U k bb md S) (u:O.Ge O'):CB O' U k bb md S:=h.mv u.next fun i hi=>u.hp i (h.lt i hi)
theorem Xv {O:VH} {U:Nat->Prop} {k bb md:Nat} {S:List (Gv×List Dp)} (h:CB O U k bb md S) {i:Nat} {g:Gv} {D:List Dp} (hi:S[i]?=some (g,D)) (hc:Calm g D) (hS:S.Pairwise fun x y=>x.1≠y.1):
  VF Tryz.prog 90 [.ptr bb 0,.agg (bW g),.sl 0 [] .nil] O (aE fun m O'=>m= .agg (lI (iN g (dk g D)))/\CB O' U k bb md S/\O.next<=O'.next/\∀j,¬U j->j<O.next->O'.hp j=O.hp j):=by
 have h0:=h;obtain⟨⟨L,E,V,ke,kv,ce,cv,r,a,MD,cm,hSt,hB,hL,JF,lY,hU⟩,ew,cA,ct⟩:=h;obtain⟨o,C8,ho⟩:=JF i g D hi;rcases ho with⟨rfl,fG⟩ | ⟨rfl,N5⟩;rotate_left
 ·refine VF.mono ?_ (Xu hB hc.gav N5);rintro r O' hr;cases r with
  | panic m=>exact hr.elim
  | ret m=>
    obtain⟨rfl,u⟩:=hr;exact⟨rfl,h0.ge u,u.next,fun j _ hj=>u.hp j hj⟩
 refine VF.mono ?_ (abj hB hSt C8 hc.gav hc.text hc.build hc.read hc.q fG lY);rintro r O' hr;cases r with
 | panic m=>exact hr.elim
 | ret m=>
   obtain⟨rfl,q,c,hEq,⟨r',a',akh⟩,hB',hn,hf⟩:=hr;have hqU:=hU q (.inr (.inr (.inr (.inl ⟨i,c,_,hEq⟩))));have hkU:=hU k (.inl rfl);refine⟨rfl,⟨⟨L.set i (g,cu (fE (dk g D)),some (dk g D)),E,V,ke,kv,ce,cv,r',a',_,_,akh,hB',by rw[al9];exact hL,?_,lY,hU⟩,fun j hj=>agr (ew j hj) hn,cA,ct⟩,hn,fun j h5 h6=>hf j h6 (fun e=>h5 (e▸hkU)) (fun e=>h5 (e▸hqU)) (fun e=>h5 (e▸ct))⟩;intro j g' D' hj;obtain⟨o',hLj,CY⟩:=JF j g' D' hj;by_cases e:j=i
   ·subst e;rw[hi]at hj;injection hj with hj;injection hj with e1 e2
    subst e1;subst e2
    refine⟨some (dk g D),by rw[List.getElem?_set_self (XO.1 C8).1],.inr ⟨rfl,?_⟩⟩;rw[N6,fG];dsimp only;rw[if_pos rfl]
   ·have hne:g'≠g:=by
     have h7:=(XO.1 hj);have h8:=(XO.1 hi);obtain⟨l7,e7⟩:=h7;obtain⟨l8,e8⟩:=h8;rcases Nat.lt_or_gt_of_ne e with ew | ew
     ·have:=(alZ.1 hS) j i l7 l8 ew;rw[e7,e8]at this;exact this
     ·have:=(alZ.1 hS) i j l8 l7 ew;rw[e7,e8]at this;exact fun e=>this e.symm
    refine⟨o',by rw[List.getElem?_set_ne (fun e2=>e e2.symm)];exact hLj,?_⟩;rw[N6];rcases CY with⟨e1,e2⟩ | ⟨e1,e2⟩
    ·refine .inl ⟨e1,?_⟩;rw[e2];dsimp only;rw[if_neg (fun e3=>hne (H7 e3).symm)]
    ·refine .inr ⟨e1,?_⟩;rw[e2]
theorem Xw {O:VH} {U:Nat->Prop} {k bb md:Nat} {S:List (Gv×List Dp)} (h:CB O U k bb md S) {i:Nat} {g:Gv} {D:List Dp} (hi:S[i]?=some (g,D)) (hc:Calm g D) (hS:S.Pairwise fun x y=>x.1≠y.1):
  VF Tryz.prog 72 [.ptr bb 0,.agg (bW g)] O (aE fun m O'=>m= .tuple [.agg (lI (iN g (dk g D))),.agg (pd iZ)]/\CB O' U k bb md S/\O.next<=O'.next/\∀j,¬U j->j<O.next->O'.hp j=O.hp j):=by
 refine VF.fg ?_;have BR:=fun(O':VH) (u:O.Ge O')=>Xv (h.ge u) hi hc hS
 have agf:=fun O'=>ad9 (iN g (dk g D)) O' (by show(3:Nat)<=_;omega) (by show(D.map fw).length<=_;rw[agt];have:=hc.n;omega) (by
  intro n hn;obtain⟨d,hd,rfl⟩:=ah3.1 hn;have:=(hc.d d hd).xl;show d.x.length<=_;omega)
 have jX:=fun j=>h.lt j
 obtain⟨g1,g2,g3⟩:=g;have hM:lI (iN ⟨g1,g2,g3⟩ (dk ⟨g1,g2,g3⟩ D))=[.str g1,.str g2,.str g3,.str qS,.sl 3 ((ij (dk ⟨g1,g2,g3⟩ D)).flatMap bh) .ar,.sl 0 [] .ar,.sl (D.map fw).length ((D.map fw).flatMap dR) .ar]:=rfl;have ue:=f_ (ij (dk ⟨g1,g2,g3⟩ D));have dm:=w6 (D.map fw);rw[hM]at BR agf ⊢;generalize (ij (dk ⟨g1,g2,g3⟩ D)).flatMap bh=X1 at*;generalize (D.map fw).flatMap dR=X2 at*;generalize (D.map fw).length=n2 at*;simp only[bW,pd,iZ,aq]at BR ⊢;refine VF.EU (lo:=6) (k:=17) (rs:=[.cell 4 169,.cell 5 71]) Tryz.func72 (Enters.sN (by kernel_rfl)) ?_;simp only[cx,alN,Nat.reduceAdd];refine ae @xU ?_;refine VC.gen ?_;rintro O1 sd;obtain⟨aM,cW,cJ,cA,fW⟩:=lP _ _ _ sd;clear sd;refine WC.sound aa (ae @xU ?_);refine⟨_,rfl,fun D'=>?_⟩;refine VC.ag aa (aJ @xU @wd @cJ ?_);refine ah.rt (BR O1 aM) ?_;rintro _ O2 ⟨rfl,DI,iq,yx⟩;refine ao @xU @wd ?_;refine ah.rt (agf O2) ?_;rintro _ O3 ⟨rfl,aG⟩;have cg:=aG.at ((yx _ (fun hu=>by have:=jX _ hu;omega) (by omega)).trans cA);have eN:=aG.at ((yx _ (fun hu=>by have:=jX _ hu;omega) (by omega)).trans fW);have gm:=aG.next;refine c_ @xU @wd @cg @eN ?_;refine WC.sound aa (ao @xU @wd ?_);refine ab7 ?_;refine ao @xU @wd ?_;rw[ue,dm];refine⟨rfl,(DI.ge aG).mv (acw _) fun j hj=>?_,by omega,fun j hj hl=>?_⟩
 ·have:=jX j hj;rw[VH.ak _ _ (by omega),VH.ak _ _ (by omega)]
 ·rw[VH.ak _ _ (by omega),VH.ak _ _ (by omega),aG.hp j (by omega),yx j hj (by omega),aM.hp j hl]
set_option linter.defProp false in
def dH:=Kn aR<|Kn xU<|Kn ae3<|Kn Ex HD
structure Plain (S:List (Gv×List Dp)):Prop where
 c:∀p∈S,Calm p.1 p.2
 ne:S.Pairwise fun x y=>x.1≠y.1
def ab8:Option (List Br)->Gv->MV->Prop
 | none,g,m=>m= .tuple [.sl 0 [] .nil,.agg (pd (Tv g))]
 | some N,_,m=>∃t,m= .tuple [.sl N.length (N.flatMap qD) t,.agg (pd iZ)]
theorem FW {S:List (Gv×List Dp)} {g:Gv} {l:List oR} (h:mK S g=some l):∃(i:Nat) (D:List Dp),S[i]?=some (g,D)/\l=D.map fw:=by
 unfold mK at h;obtain⟨p,h1,rfl⟩:=Option.map_eq_some_iff.1 h;obtain⟨g',D⟩:=p;have h2:=List.find?_some h1;have h2:g'=g:=by simpa using h2
 subst h2;obtain⟨i,hi,e⟩:=List.mem_iff_getElem.1 (List.mem_of_find?_eq_some h1);exact⟨i,D,by rw[TP hi,e],rfl⟩
theorem ab9 {d:Dp} (h:RM d):FN (fw d)/\(fw d).x.length<=1:=by
 have:=h.a.len;refine⟨⟨?_,?_,?_,?_⟩,h.xl⟩
 ·show d.g.length<=_;rw[h.g];decide
 ·show d.a.length<=_;omega
 ·show(if vP d.t=[]then qS else vP d.t).length<=_;rw[h.t];decide
 ·show d.c.length<=_;rw[h.c];decide
theorem sA.mv {O O':VH} {tb k bb mm:Nat} {g:Gv} {S:qp} {t1 t2:Tok} {B:Nat} (h:sA O tb k bb mm g S t1 t2 B) (hn:O.next<=O'.next) (h1:B<=tb) (h2:B<=mm) (hf:∀j,B<=j->j<O.next->O'.hp j=O.hp j):sA O' tb k bb mm g S t1 t2 B:=by
 have hl:=h.lt;exact⟨(hf _ h1 hl.1).trans h.cell,(hf _ h2 hl.2).trans h.map,h.a1.at hn (fun i e=>hf i (App.n8 h.a1 e).1 (App.n8 h.a1 e).2),h.a2.at hn (fun i e=>hf i (App.n8 h.a2 e).1 (App.n8 h.a2 e).2),h.ne,⟨by omega,by omega⟩,h.len,h.up⟩
theorem RN {S S':qp} {i:Nat} {b:Br} {od:Nat} {n:oR} (h:yY S i b od n=some S') (hl:S.1.length<=4096) (hi:S.1[i]?=some b):S'.1.length<=4096/\S'.1[i]?=some b/\∀y∈S'.2,y∈S.2\/y=n.x:=by
 unfold yY at h;split at h
 ·injection h with h;subst h
  exact⟨hl,hi,fun y hy=>.inl hy⟩
 ·split at h
  ·cases h
  ·injection h with h;subst h
   unfold af8;refine⟨by rw[acu];simp;omega,by rw[alW (XO.1 hi).1];exact hi,fun y hy=>?_⟩;rcases ah0.1 hy with hy | hy
   ·exact .inl hy
   ·exact .inr (agu.1 hy)
set_option maxHeartbeats 4000000 in
theorem aeu {O:VH} {U:Nat->Prop} {k bb md:Nat} {S:List (Gv×List Dp)} (h:CB O U k bb md S) (hS:Plain S) (g:Gv) {r:Option (List Br)} (hr:RJ (mK S) g=some r):
  VF Tryz.prog 50 [.ptr k 0,.ptr bb 0,.agg (bW g)] O (aE fun m O'=>ab8 r g m/\O.next<=O'.next/\∀j,¬U j->j<O.next->O'.hp j=O.hp j):=by
 obtain⟨g1,g2,g3⟩:=g;simp only[bW];refine VF.bN 116 [.tmp 6,.cell 7 71] Tryz.func50 ?_;refine VC.ag aa (ae @dH ?_);refine VC.gen ?_;intro O1 e1;obtain⟨aM,cW,cJ,cA⟩:=gj _ _ e1;clear e1;have nB:Gi (k9 [(0,1),(1,1),(2,3),(5,1),(6,1),(7,1)]) [.ptr k 0,.ptr bb 0,.str g1,.str g2,.str g3,.v (.map none),.sl 0 [] .nil,.sl 0 [] .nil] (.map O1.next) [] (some (5,1))=some [.ptr k 0,.ptr bb 0,.str g1,.str g2,.str g3,.map O1.next,.sl 0 [] .nil,.sl 0 [] .nil]:=rfl;refine VC.ag aa (aJ @dH @cJ @nB ?_);refine VC.gen ?_;intro O2 e2;obtain⟨ay,iq,hm2,Fj⟩:=gj _ _ e2;clear e2;have iK:=ay.at cJ;have ct:=ay.at cA;refine VC.ag aa (aJ @dH @iK @Fj ?_);refine VC.gen ?_;intro O3 e3;have ht3:O3.hp (O1.next+1)=some (.cells [.ptr k 0,.ptr bb 0,.str g1,.str g2,.str g3,.map O1.next,.sl 1 [.v (.int .i64 (-1)),.v (.int .i64 0),.v (.int .i64 0),.str g1,.str g2,.str [106,97,114],.str [],.str g3,.v (.bool false),.str g3,.sl 0 [] .nil,.v (.int .i64 0),.v (.bool false)] .full,.sl 0 [] .nil]):=by rw[e3];exact VH.an _ _ _
 have uq:∀j,j≠O1.next+1->O3.hp j=O2.hp j:=fun j hj=>by rw[e3];exact VH.ak _ _ hj
 have gm:O3.next=O2.next:=by rw[e3];rfl
 clear e3;refine VC.ag aa (ao @dH @ht3 ?_);refine VC.gen ?_;intro O4 e4;have BE:O4.hp (O1.next+1)=some (.cells [.ptr k 0,.ptr bb 0,.str g1,.str g2,.str g3,.map O1.next,.sl 1 [.v (.int .i64 (-1)),.v (.int .i64 0),.v (.int .i64 0),.str g1,.str g2,.str [106,97,114],.str [],.str g3,.v (.bool false),.str g3,.sl 0 [] .nil,.v (.int .i64 0),.v (.bool false)] .full,.sl 1 [.sl 0 [] .nil] .full]):=by rw[e4];exact VH.an _ _ _
 have rG:∀j,j≠O1.next+1->O4.hp j=O2.hp j:=fun j hj=>by rw[e4,VH.ak _ _ hj];exact uq j hj
 have gI:O4.next=O2.next:=by rw[e4];exact gm
 clear e4 ht3 uq gm;refine VC.WK BE (cs':=[.ptr k 0,.ptr bb 0]++bW ⟨g1,g2,g3⟩++[.map O1.next,.sl [y_ ⟨g1,g2,g3⟩].length ([y_ ⟨g1,g2,g3⟩].flatMap qD) .full,.sl [([]:List fR)].length ([([]:List fR)].flatMap zb) .full]) ?_ ?_
 ·simp only[bW,y_,qS,qD,fY,vN,zb,alF,Km,yP,alJ,RZ,acs,aq,a_]
  repeat' first
   | exact eS.refl _
   | exact Wk.refl _
   | exact Wk.tok
   | refine eS.cons ?_ ?_
   | refine Wk.sl ?_
 refine VC.gen ?_;intro O5 e5
 have aki:sA O5 (O1.next+1) k bb O1.next ⟨g1,g2,g3⟩ ([y_ ⟨g1,g2,g3⟩],[[]]) .full .full O.next:=by
  refine⟨by rw[e5];exact VH.an _ _ _,?_,trivial,trivial,fun i h=>(by cases h),?_,rfl,?_⟩
  ·rw[e5,VH.ak _ _ (by omega),rG _ (by omega)];exact hm2
  ·rw[e5];show O1.next+1<O4.next/\O1.next<O4.next;omega
  ·intro j c hj;have hl:=(XO.1 hj).1;simp only[alJ]at hl;obtain rfl:j=0:=by omega
   simp only[List.getElem?_cons_zero,Option.some.injEq]at hj;subst hj;simp[y_]
 have ia:∀j,j<O2.next->j≠O1.next+1->O5.hp j=O2.hp j:=fun j _ h2=>by rw[e5,VH.ak _ _ h2,rG j h2]
 have fS:O5.next=O2.next:=by rw[e5];exact gI
 have cZ:=(ia _ (by omega) (by omega)).trans ct;have nD:O.Ge O5:=⟨by rw[fS,iq];omega,fun j hj=>(ia j (by omega) (by omega)).trans ((aM.trans ay).hp j hj)⟩;clear e5 rG gI BE ia;refine VC.bC [7,8] (fun _:qp×Tok×Tok=>[.ptr (O.next+1) 0,.ptr (O1.next+1) 0]) (fun x O'=>sA O' (O1.next+1) k bb O1.next ⟨g1,g2,g3⟩ x.1 x.2.1 x.2.2 O.next/\r=some x.1.1/\O'.hp (O.next+1)=O5.hp (O.next+1)/\O5.next<=O'.next/\∀j,¬U j->j<O.next->O'.hp j=O.hp j) ?_ ?_
 ·refine VC.ag aa (ae @dH ?_);refine VC.az ?_;refine VC.bG [9] [1,7,8] (fun x:Nat×qp×Tok×Tok=>[mi x.1]) (fun x O'=>x.1<=x.2.1.1.length/\x.2.1.1.length<=4096/\yZ (mK S) (5000 - x.1) x.1 x.2.1=some r/\sA O' (O1.next+1) k bb O1.next ⟨g1,g2,g3⟩ x.2.1 x.2.2.1 x.2.2.2 O.next/\CB O' U k bb md S/\O'.hp (O.next+1)=O5.hp (O.next+1)/\(∀y∈x.2.1.2,y.length<=1000000)/\O5.next<=O'.next/\∀j,¬U j->j<O.next->O'.hp j=O.hp j) (fun x=>5000 - x.1) ((0,([y_ ⟨g1,g2,g3⟩],[[]]),.full,.full)) ?_ ?_
  ·exact⟨alC _,by show(1:Nat)<=4096;decide,hr,aki,h.ge nD,rfl,by simp,acw _,fun j _ hj=>nD.hp j hj⟩
  rintro⟨i,S',t1,t2⟩ O6 ⟨hi,hl,nh,xq,hC6,jb,hX6,n9,Xx⟩;dsimp only at hi hl nh xq hX6 ⊢;have tF:=xq.cell;simp only[bW,Km,yP]at tF;have Tu:=aQ lZ S'.1;by_cases gG:i<S'.1.length;rotate_left
  ·obtain rfl:i=S'.1.length:=by omega
   have HV:r=some S'.1:=by
    rw[show 5000 - S'.1.length=(4999 - S'.1.length)+1 by omega,yZ,List.getElem?_eq_none (acw _)]at nh;injection nh with nh;exact nh.symm
   refine WC.sound aa (ao @dH @tF ?_);exact aA.mk (S',t1,t2) ⟨xq,HV,jb,n9,Xx⟩
  have Q0:((i:Int)+1)=((i+1:Nat):Int):=by omega
  have hb:S'.1[i]?=some S'.1[i]:=TP gG;have bw:=bU lZ S'.1 i gG;generalize S'.1[i]=b at*;have B1:(S'.1.flatMap qD)[i*13+12]?=some (mb b.rd):=by simpa using iY (sp:=[]) lZ hb (i:=12) rfl
  simp only[a_]at B1;rw[show 5000 - i=(4999 - i)+1 by omega,yZ,hb]at nh;dsimp only at nh;refine VC.ag aa (ao @dH @tF ?_);refine VC.bC [1,7,8,9] (fun _:qp×Tok×Tok=>[.ptr bb 0,.ptr (O.next+1) 0,.ptr (O1.next+1) 0,mi i]) (fun x O'=>i+1<=x.1.1.length/\x.1.1.length<=4096/\yZ (mK S) (4999 - i) (i+1) x.1=some r/\sA O' (O1.next+1) k bb O1.next ⟨g1,g2,g3⟩ x.1 x.2.1 x.2.2 O.next/\CB O' U k bb md S/\O'.hp (O.next+1)=O5.hp (O.next+1)/\(∀y∈x.1.2,y.length<=1000000)/\O5.next<=O'.next/\∀j,¬U j->j<O.next->O'.hp j=O.hp j) ?_ ?_;rotate_left
  ·rintro⟨S2,ta,tb⟩ O7 ⟨q1,q2,q3,q4,q5,q6,q7,q8,q9⟩;refine WC.sound aa (ao @dH @Q0 ?_);exact ax.next (i+1,S2,ta,tb) ⟨q1,q2,by rw[show 5000 - (i+1)=4999 - i by omega];exact q3,q4,q5,q6,q7,q8,q9⟩ (hm:=(by dsimp only at q1 q2 ⊢;omega))
  refine VC.az ?_;cases GM:b.rd;rotate_left
  ·rw[GM]at nh B1;rw[if_pos rfl]at nh;refine WC.sound aa (aJ @dH @tF @B1 ?_);exact aA.mk (S',t1,t2) ⟨gG,hl,nh,xq,hC6,jb,hX6,n9,Xx⟩
  rw[GM]at nh B1;rw[if_neg (by decide)]at nh;cases hm:mK S (qT b)with
  | none=>rw[hm]at nh;cases nh
  | some l=>
  rw[hm]at nh;dsimp only at nh;obtain⟨q,D,hq,rfl⟩:=FW hm;have Kc:=hS.c _ (List.mem_of_getElem? hq);dsimp only at Kc;have BR:=fun(O':VH) (u:O6.Ge O')=>Xw (hC6.ge u) hq Kc hS.ne
  have hM:lI (iN (qT b) (dk (qT b) D))=[.str (qT b).g,.str (qT b).a,.str (qT b).v,.str qS,.sl 3 ((ij (dk (qT b) D)).flatMap bh) .ar,.sl 0 [] .ar,.sl (D.map fw).length ((D.map fw).flatMap dR) .ar]:=rfl;rw[hM]at BR;generalize (ij (dk (qT b) D)).flatMap bh=X1 at*;simp only[pd,iZ,aq]at BR;refine VC.ag aa (aJ @dH @tF @B1 ?_);refine VC.ag aa (aJ @dH @tF @bw ?_);refine ah.rt (aep b O6) ?_;rintro _ O7 ⟨rfl,fC⟩;refine ae @dH ?_;refine ah.rt (BR O7 fC) ?_;rintro _ O8 ⟨rfl,hC8,EE,hf8⟩;refine ae @dH ?_;refine VC.gen ?_;intro O9 e9;have hUl:∀j,U j->j<O.next:=h.lt
  have NQ:O9.hp O8.next=some (.cells [.str (qT b).g,.str (qT b).a,.str (qT b).v,.str qS,.sl 3 X1 .ar,.sl 0 [] .ar,.sl (D.map fw).length ((D.map fw).flatMap dR) .ar]):=by rw[e9,VH.ak _ _ (by omega)];exact VH.an _ _ _
  have hp9:O9.hp (O8.next+1)=some (.cells [.v (.int .i64 0),.str [],.str [],.str [],.v (.int .i64 0),.v (.int .i64 0),.v (.int .i64 0),.str []]):=by rw[e9];exact VH.an _ _ _
  have ab_:O8.Ge O9:=by rw[e9];exact((((VH.Ge.refl _).push _).push _).set (acw _) _).set (by omega) _
  have BN:O9.next=O8.next+2:=by rw[e9];rfl
  clear e9;have uh:=fC.next;have Tx:∀j,¬U j->j<O6.next->O9.hp j=O6.hp j:=fun j h1 h2=>by rw[ab_.hp j (by omega),hf8 j h1 (by omega),fC.hp j h2]
  have hT9:sA O9 (O1.next+1) k bb O1.next ⟨g1,g2,g3⟩ S' t1 t2 O.next:=xq.mv (by omega) (by omega) (by omega) fun j h1 h2=>Tx j (fun hu=>by have:=hUl j hu;omega) h2
  have hC9:=hC8.ge ab_;have bI:O9.hp (O.next+1)=O5.hp (O.next+1):=(Tx _ (fun hu=>by have:=hUl _ hu;omega) (by omega)).trans jb;have hf9:∀j,¬U j->j<O.next->O9.hp j=O.hp j:=fun j h1 h2=>(Tx j h1 (by omega)).trans (Xx j h1 h2)
  clear BR hC8 hf8 fC ab_ Tx xq hC6 jb Xx tF bw B1;refine VC.ag aa (ao @dH @hp9 ?_);refine VL.Bj aa (bb:=false) (b:=true) (by simp) (by simp[iE]) (.inr ⟨rfl,rfl⟩) (by kernel_rfl) (by kernel_rfl) rfl rfl rfl rfl ?_;refine ae @dH ?_;refine VC.bC [1,7,8,9,10] (fun _:Unit=>[.ptr bb 0,.ptr (O.next+1) 0,.ptr (O1.next+1) 0,mi i,.ptr O8.next 0]) (fun _ O'=>O'=O9) ?_ ?_
  ·by_cases h0:i=0
   ·have h0':((i:Int)==0)=true:=by simpa using h0
    refine VC.ag aa (ao @dH @h0' ?_);refine VC.Bg rfl ?_;refine VC.ag aa (ao @dH @NQ ?_);refine VC.az ?_;refine VC.bG [81] [1,7,8,9,10,79,80] (fun _:Nat=>[mi 0]) (fun _ O'=>O'=O9) (fun x=>x) (0) ?_ ?_
    ·rfl
    rintro _ fT r5;rw[r5];refine WC.sound aa (ae @dH ?_);exact aA.mk () rfl
   ·have h0':((i:Int)==0)=false:=by simpa using h0
    refine WC.sound aa (ao @dH @h0' ?_);exact aA.mk () rfl
  rintro _ fT r5;rw[r5];clear r5 fT;refine VC.ag aa (ao @dH @NQ ?_)
  have hne:∀n∈D.map fw,FN n/\n.x.length<=1:=fun n hn=>by
   obtain⟨d,hd,rfl⟩:=ah3.1 hn;exact ab9 (Kc.d d hd)
  have rT:(D.map fw).length<=40:=by rw[agt];exact Kc.n
  generalize D.map fw=L at*;clear NQ hp9 hM;refine VC.az ?_;refine VC.bG [96] [1,7,8,9,94,95] (fun x:Nat×qp×Tok×Tok=>[mi x.1]) (fun x O'=>x.1<=L.length/\x.2.1.1.length<=4096/\x.2.1.1[i]?=some b/\xd i b (L.drop x.1) x.1 x.2.1=xd i b L 0 S'/\sA O' (O1.next+1) k bb O1.next ⟨g1,g2,g3⟩ x.2.1 x.2.2.1 x.2.2.2 O.next/\CB O' U k bb md S/\O'.hp (O.next+1)=O5.hp (O.next+1)/\(∀y∈x.2.1.2,y.length<=1000000)/\O9.next<=O'.next/\∀j,¬U j->j<O.next->O'.hp j=O.hp j) (fun x=>L.length - x.1) ((0,S',t1,t2)) ?_ ?_
  ·exact⟨alC _,hl,hb,rfl,hT9,hC9,bI,hX6,acw _,hf9⟩
  rintro⟨j,S2,ta,tb⟩ fT ⟨hj,ra,CX,N7,xS,N4,Ie,Ty,HK,aca⟩;dsimp only at hj ra CX N7 xS Ty ⊢;have hii:=(XO.1 CX).1;by_cases aX:j<L.length;rotate_left
  ·obtain rfl:j=L.length:=by omega
   rw[List.drop_length,xd]at N7;rw[<-N7]at nh;refine WC.sound aa (ae @dH ?_);exact aA.mk (S2,ta,tb) ⟨hii,ra,nh,xS,N4,Ie,Ty,by omega,aca⟩
  have cT:((j:Int)+1)=((j+1:Nat):Int):=by omega
  have agh:=bU nR L j aX;obtain⟨fG,xf⟩:=hne _ (alK aX);rw[alL aX,xd]at N7;generalize L[j]=n at*;have CZ:=fun(O':VH) (u:fT.Ge O')=>aet (xS.ge u) (by have:=u.next;omega) CX j n fG Ty ra
  have hinv:=fun S3 (h:yY S2 i b j n=some S3)=>RN h ra CX
  generalize yY S2 i b j n=R at*;obtain⟨⟨k1,k2,k3,k4⟩,v,s,o,x⟩:=n;dsimp only at xf;simp only[dR,fY,vN,aq,a_,Km,yP,RZ,acs]at agh CZ;have als:=aQ nR L;refine VC.ag aa (ae @dH ?_);refine VC.ag aa (ae @dH ?_);refine VC.bB (VC.az ?_);refine VC.ag aa (ao @dH @agh ?_);refine VC.al ?_;rintro ur ⟨oY,akj,aff⟩;refine VC.ag aa (ao @dH @akj ?_);refine ah.rt (CZ ur oY) ?_;intro m WV Kd;have alu:=cZ;cases R with
  | none=>
    dsimp only at Kd N7;rw[<-N7]at nh;dsimp only at nh;injection nh with nh;subst nh;obtain⟨rfl,FE⟩:=Kd;have acb:=(FE.hp _ (by have:=oY.next;omega)).trans (oY.at (Ie.trans cZ));have ahN:=oY.next;have Nl:=FE.next;simp only[pd,Tv,aq];refine ae @dH ?_;refine VC.al ?_;rintro O13 ⟨FX,Tz,Nf⟩;have akk:=FX.at acb;refine WC.sound aa (ao @dH @Tz ?_);refine VL.Bj aa (bb:=true) (b:=false) (by simp) (by simp[iE]) (.inr ⟨rfl,rfl⟩) (by kernel_rfl) (by kernel_rfl) rfl rfl rfl rfl ?_;refine ae @dH ?_;refine WC.bO .any [(1,.av),(0,.one),(2,.one)] ?_;refine aJ @dH @Tz @akk ?_
    exact⟨rfl,by show O.next<=O13.next;omega,fun l h1 h2=>by
     rw[VH.ak _ _ (by omega),FX.hp l (by omega),FE.hp l (by omega),oY.hp l (by omega)];exact aca l h1 h2⟩
  | some S3=>
    dsimp only at Kd N7;obtain⟨rfl,ta',tb',Tt,Nl,agi⟩:=Kd;obtain⟨lW,cg,lq⟩:=hinv S3 rfl;have ahN:=oY.next;have eR:∀l,l<O.next->l≠O1.next+1/\Tok.id ta≠some l/\Tok.id tb≠some l:=fun l h1=>⟨by omega,fun e=>by have:=(App.n8 xS.a1 e).1;omega,fun e=>by have:=(App.n8 xS.a2 e).1;omega⟩
    have TA:∀l,l<O.next->WV.hp l=fT.hp l:=fun l h1=>by
     obtain⟨u1,u2,u3⟩:=eR l h1;rw[agi l (by omega) u1 u2 u3,oY.hp l (by omega)]
    have cQ:∀l,l<fT.next->fT.hp l≠some .tok->l≠O1.next+1->WV.hp l=fT.hp l:=fun l h1 h2 h3=>by
     rw[agi l (by omega) h3 (fun e=>h2 (App.tok xS.a1 e)) (fun e=>h2 (App.tok xS.a2 e)),oY.hp l (by omega)]
    have acb:=(cQ (O.next+1) (by omega) (by rw[Ie,cZ];simp) (by omega)).trans (Ie.trans cZ);simp only[pd,iZ,aq];refine ae @dH ?_;refine VC.al ?_;rintro O13 ⟨FX,Tz,Nf⟩;refine WC.sound aa (ao @dH @Tz ?_);refine VL.Bj aa (bb:=false) (b:=true) (by simp) (by simp[iE]) (.inr ⟨rfl,rfl⟩) (by kernel_rfl) (by kernel_rfl) rfl rfl rfl rfl ?_;refine ae @dH ?_;refine WC.sound aa (ao @dH @cT ?_);refine ax.next (j+1,S3,ta',tb') ⟨aX,lW,cg,N7,Tt.ge FX,(N4.mv (by omega) fun l hl=>TA l (hUl l hl)).ge FX,?_,?_,by omega,fun l h1 h2=>?_⟩
    ·rw[FX.hp _ (by omega),acb,cZ]
    ·intro y hy;rcases lq y hy with hy | rfl
     ·exact Ty y hy
     ·exact ah1 xf (by decide)
    ·rw[FX.hp l (by omega),TA l h2];exact aca l h1 h2
 rintro⟨S',t1,t2⟩ O6 ⟨xq,rfl,jb,n9,Xx⟩;have BT:=xq.cell;simp only[bW,Km,yP]at BT;rw[cZ]at jb;refine VC.ag aa (aJ @dH @BT @jb ?_);refine WC.sound aa (ae @dH ?_);exact⟨⟨t1,rfl⟩,by show O.next<=O6.next;omega,fun j h1 h2=>VH.sn (Xx j h1 h2)⟩
def rowsOf (S:List (Gv×List Dp)):List (Gv×Bs×Option Pm):=S.map fun p=>(p.1,cu (fE (dk p.1 p.2)),none)
theorem aev {O:VH} {k ke kv ce cv:Nat} {L:List (Gv×Bs×Option Pm)} {E V:fy} {r a:Int} (h:nr O k L E V ke kv ce cv r a) {j:Nat} (hj:Own k ke kv E V j):j<O.next:=by
 have hl:=h.st.lt;rcases hj with rfl | rfl | rfl | ⟨i,c,p,hi⟩ | ⟨p,hp,n,cs,tk,e1,e2⟩
 ·exact hl.1
 ·exact hl.2.1
 ·exact hl.2.2
 ·have ew:=(XO.1 hi).1;rw[h.len]at ew;obtain⟨q,c',h1,h2,_⟩:=h.JC i L[i].1 L[i].2.1 L[i].2.2 (TP ew);rw[hi]at h1;injection h1 with h1;simp only[Prod.mk.injEq,MV.ptr.injEq]at h1;omega
 ·obtain⟨n',cs',tk',k1,k2,k3,k4,k5⟩:=h.ver.row p hp;rw[e1]at k1;injection k1 with _ _ k1;subst k1;exact(App.n8 k4 e2).2
theorem aew {O:VH} {k ke kv ce cv:Nat} {E V:fy} {rd at':Int} {S:List (Gv×List Dp)} (h:nr O k (rowsOf S) E V ke kv ce cv rd at') (hS:Plain S) (g:Gv) {r:Option (List Br)} (hr:RJ (mK S) g=some r):
  VF Tryz.prog 30 [.ptr k 0,.agg (bW g)] O (aE fun m O'=>ab8 r g m/\O.next<=O'.next/\∀j,¬Own k ke kv E V j->j<O.next->O'.hp j=O.hp j):=by
 have hO:= @aev _ _ _ _ _ _ _ _ _ _ _ h;have hl:=h.st.lt
 have hcb:∀O2 bb md,O.Ge O2->O.next<=bb->O.next<=md->bb<O2.next->md<O2.next->O2.hp md=some (.map [] 0)->O2.hp bb=some (.cells [.ptr k 0,.map md])->CB O2 (fun j=>Own k ke kv E V j\/j=bb\/j=md) k bb md S:=fun O2 bb md u h1 h2 h3 h4 h5 h6=>by
  refine⟨⟨rowsOf S,E,V,ke,kv,ce,cv,rd,at',[],0,h.ge u,⟨h6,h5,BZ 3,h3,h4⟩,by simp[rowsOf],fun i g D hi=>⟨none,by simp[rowsOf,hi],.inl ⟨rfl,rfl⟩⟩,⟨by omega,by omega⟩,fun j hj=>.inl hj⟩,fun j hj=>?_,.inr (.inl rfl),.inr (.inr rfl)⟩;rcases hj with hj | rfl | rfl
  ·have:=hO hj;have:=u.next;omega
  ·exact h3
  ·exact h4
 obtain⟨g1,g2,g3⟩:=g;simp only[bW];refine VF.bN 13 [.tmp 4,.cell 5 71] Tryz.func30 ?_;refine VC.ag aa (ae @dH ?_);refine VC.gen ?_;intro O1 e1;obtain⟨aM,cW,cJ,cA⟩:=gj _ _ e1;clear e1;refine VC.bB ?_;refine VC.s8 [8] (fun O'=>O'.hp O.next=some (.cells [.str g1,.str g2,.str g3])/\O.next+2<=O'.next) (⟨cJ,by omega⟩) ?_;refine ab.av 0 ?_;refine ae @dH ?_;refine ab.av 1 ?_;refine ae @dH ?_;refine ab.mP (m:=.agg [.str g1,.str g2,.str g3]) 3 ?_ ?_
 ·rintro O2 ⟨j0,j1⟩;exact dq @dH @j0
 simp only[aj];refine ab.call (i:=2) (ad8 k O1) ?_;rintro _ O2 ⟨rfl,ay,hm2,ct,iq⟩;simp only[aj];have iK:=ay.at cJ;have fl:=ay.at cA;refine⟨⟨iK,by omega⟩,?_⟩;refine ab.call (i:=4) (aeu (hcb O2 (O1.next+1) O1.next (aM.trans ay) (by omega) (by omega) (by omega) (by omega) hm2 ct) hS ⟨g1,g2,g3⟩ hr) ?_;rintro m O3 ⟨hm,gm,CP⟩;simp only[aj]
 have hU:∀j,j<O1.next->¬Own k ke kv E V j->¬(Own k ke kv E V j\/j=O1.next+1\/j=O1.next):=fun j h1 h2 h3=>by
  rcases h3 with h3 | h3 | h3
  ·exact h2 h3
  ·omega
  ·omega
 have fG:∀j,O.next<=j->¬Own k ke kv E V j:=fun j h1 h2=>by have:=hO h2;omega
 have rB:=(CP O.next (hU _ (by omega) (fG _ (acw _))) (by omega)).trans iK;have gX:=(CP (O.next+1) (hU _ (by omega) (fG _ (by omega))) (by omega)).trans fl;refine⟨⟨rB,by omega⟩,?_⟩
 have mH:∀X j,¬Own k ke kv E V j->j<O.next->(O3.set (O.next+1) X).hp j=O.hp j:=fun X j h1 h2=>by
  rw[VH.ak _ _ (by omega),CP j (hU j (by omega) h1) (by omega),ay.hp j (by omega),aM.hp j h2]
 cases r with
 | none=>
   obtain rfl:=hm;simp only[pd,Tv,aq];refine ab.av 5 ?_;refine ae @dH ?_;refine ab.av 6 ?_;refine ae @dH ?_;refine ab.av 7 ?_;refine ae @dH ?_;refine ab.bO [(8,.one)] ?_;refine ao @dH @gX ?_;refine WC.sound aa (ae @dH ?_);exact⟨rfl,by show O.next<=O3.next;omega,mH _⟩
 | some N=>
   obtain⟨t,rfl⟩:=hm;simp only[pd,iZ,aq];refine ab.av 5 ?_;refine ae @dH ?_;refine ab.av 6 ?_;refine ae @dH ?_;refine ab.av 7 ?_;refine ae @dH ?_;refine ab.bO [(8,.one)] ?_;refine ao @dH @gX ?_;refine WC.sound aa (ae @dH ?_);exact⟨⟨t,rfl⟩,by show O.next<=O3.next;omega,mH _⟩
set_option linter.defProp false in
def qW:=Kn dH<|Kn LS<|Kn Bo<|Kn u_<|Kn Bp<|Kn tS SB
mutual
theorem acd:∀x:Nd,qm x->(cu x).length<=1000000->An x
 | .mk n a k t,h,hl=>by
   rw[qm]at h;obtain⟨hn,rfl,rfl,hk,h⟩:=h;rw[jN hn.ne hk]at hl
   have pB:sW k/\k.length<=1000000:=by
    rcases h with⟨s,hs,rfl⟩ | h
    ·rw[jT,cu,if_pos rfl,FH hs.all]at hl;refine⟨?_,by simp⟩;simp only[sW,An];exact⟨⟨by simp,by omega,by simp,by simp,by simp,trivial⟩,trivial⟩
    ·obtain⟨h1,h2⟩:=TB k h (by omega);exact⟨h1,by omega⟩
   rw[An];exact⟨by omega,by simp,by simp,by simp,pB.2,pB.1⟩
theorem TB:∀K:List Nd,xT K->(aT K).length<=1000000->sW K/\K.length<=(aT K).length
 | [],_,_=>by rw[sW];exact⟨trivial,by simp⟩
 | x::K,h,hl=>by
   rw[xT]at h;rw[aT,acu]at hl ⊢;have h1:=acd x h.1 (by omega);have h2:=TB K h.2 (by omega)
   have h3:1<=(cu x).length:=by
    obtain⟨n,a,k,t⟩:=x;have hx:=h.1;rw[qm]at hx;obtain⟨hn,rfl,rfl,hk,_⟩:=hx;rw[jN hn.ne hk];omega
   rw[sW,XN];exact⟨⟨h1,h2.1⟩,by omega⟩
end
theorem Xy {g:Gv} {D:List Dp} (h:Xg (dk g D)):xT (eK g D):=by
 refine mJ fun x hx=>?_
 unfold eK at hx;rcases ah0.1 hx with hx | hx
 ·simp only[alD,ah5,or_false]at hx;rcases hx with rfl | rfl | rfl
  ·exact tE Dy h.g
  ·exact tE Dz h.a
  ·exact tE J9 h.v
 ·by_cases e:D=[]
  ·rw[if_pos e]at hx;cases hx
  ·rw[if_neg e,agu]at hx;rw[hx,qm]
   exact⟨Df _ (by decide) (by decide),rfl,rfl,fun e2=>e (agx.1 e2),.inr (mJ fun y hy=>by
    obtain⟨d,hd,rfl⟩:=ah3.1 hy;exact(Ip (h.en d hd)).1)⟩
theorem Calm.nd {g:Gv} {D:List Dp} (h:Calm g D):An (fE (dk g D)):=by
 have ht:=h.text;have he:=tC h.w;rw[he]at ht ⊢;refine acd _ ?_ (ah1 ht (by decide));rw[qm];exact⟨Df _ (by decide) (by decide),rfl,rfl,by unfold eK;simp,.inr (Xy h.w)⟩
theorem akl (a v:Bs) (s:Int) (O:VH):VF Tryz.prog 29 [.str a,.str v,mi s] O (aE fun m O'=>m= .agg (aS (GL a v s))/\O.Ge O'):=by
 refine VF.fg ?_;simp only[GL,gS,aS,aq,RZ,acs];refine VF.bN 11 [.cell 6 63] Tryz.func29 ?_;refine VC.ag aa (ae @qW ?_);refine VC.ag aa (ae @qW ?_);refine WC.sound aa (ae @qW ?_);exact((VH.Ge.refl O).push _).set (acw _) _
theorem aex (O:VH):VF Tryz.prog 31 [] O (aE fun m O'=>m= .agg (bW ⟨gS,[97],v1⟩)/\O.Ge O'):=by
 simp only[gS,v1,bW];refine VF.bN 2 [.cell 0 67] Tryz.func31 ?_;refine VC.ag aa (ae @qW ?_);refine VC.ag aa (ae @qW ?_);refine WC.sound aa (ae @qW ?_);exact((VH.Ge.refl O).push _).set (acw _) _
theorem ahO {O:VH} {k ke kv ce cv:Nat} {E V:fy} {r a:Int} {S:List (Gv×List Dp)} (h:nr O k (rowsOf S) E V ke kv ce cv r a) (n v:Bs) (D:List Dp) (tk:Tok) (hc:Calm ⟨gS,n,v⟩ D) (fG:∀p∈S,p.1≠⟨gS,n,v⟩) (hS:S.length<1024):
  VF Tryz.prog 28 [.ptr k 0,.str n,.str v,.sl D.length (D.flatMap aS) tk] O (aE fun m O'=>m=mb true/\(∃E' V' Q3 Q4,nr O' k (rowsOf (S++[(⟨gS,n,v⟩,D)])) E' V' ke kv Q3 Q4 r a)/\O.next<=O'.next/\∀i cs,i<O.next->O.hp i=some (.cells cs)->O'.hp i=some (.cells cs)):=by
 have hw:=fun O'=>Z1 (O:=O') (dk ⟨gS,n,v⟩ D) (by simp[dk]) (by simp[dk]) (by show D.length<=_;have:=hc.n;omega) (fun d hd=>by
  simp only[dk,yP]at hd;have:=(hc.d d hd).xl;omega)
 have hp:=fun O'=>VV (fE (dk ⟨gS,n,v⟩ D)) O' (ah1 hc.text (by decide)) hc.nd
 have agj:=fun(O':VH) (u:O.Ge O')=>aho (h.ge u) ⟨gS,n,v⟩ (cu (fE (dk ⟨gS,n,v⟩ D))) hc.may hc.gav (fun x hx=>by
  obtain⟨p,hp,rfl⟩:=ah3.1 hx;exact fG p hp) (by simp[rowsOf];exact hS)
 have cQ:rowsOf (S++[(⟨gS,n,v⟩,D)])=rowsOf S++[(⟨gS,n,v⟩,cu (fE (dk ⟨gS,n,v⟩ D)),none)]:=by simp[rowsOf]
 rw[cQ];generalize cu (fE (dk ⟨gS,n,v⟩ D))=T at*;generalize fE (dk ⟨gS,n,v⟩ D)=X at*;simp only[dk,gC,bW,gS,aq,a_,RZ,acs]at hw agj ⊢;refine VF.bN 23 [.tmp 8] Tryz.func28 ?_;refine VC.ag aa (ae @qW ?_);refine VC.ag aa (ae @qW ?_);refine VC.al ?_;rintro O1 ⟨aM,ez,cW⟩;refine VC.WK ez (cs':=[.v (.bool false),.str [],.str [],.str [],.str [103],.str n,.str v,.str [],.sl 0 [] .ar,.sl 0 [] .ar,.sl D.length (D.flatMap aS) .ar]) ?_ ?_
 ·repeat' first
   | exact eS.refl _
   | exact Wk.refl _
   | exact Wk.tok
   | refine eS.cons ?_ ?_
 refine VC.gen ?_;intro O2 e2;have jc:O2.hp O.next=some (.cells [.v (.bool false),.str [],.str [],.str [],.str [103],.str n,.str v,.str [],.sl 0 [] .ar,.sl 0 [] .ar,.sl D.length (D.flatMap aS) .ar]):=by rw[e2];exact VH.an _ _ _
 have ay:O.Ge O2:=by rw[e2];exact aM.set (acw _) _
 clear e2;refine VC.ag aa (ao @qW @jc ?_);refine ah.rt (hw O2) ?_;rintro _ O3 ⟨rfl,aG⟩;refine ae @qW ?_;refine ah.rt (hp O3) ?_;rintro _ O4 ⟨rfl,aY⟩;refine ae @qW ?_;have ig:=(ay.trans aG).trans aY;refine ah.rt (agj O4 ig) ?_;rintro _ O5 ⟨rfl,dd,fS,J5⟩;have gI:=ig.next;refine ae @qW ?_;refine WC.sound aa (ae @qW ?_);exact⟨dd,by omega,fun i cs h1 h2=>J5 i cs (by omega) ((ig.hp i h1).trans h2)⟩
theorem agk (c:UInt8) (h:lM c=true) (h2:c≠36):vZ [c]:=nmi (by simp[h]) (by simp) (by simpa using h2)
theorem aey {n:Bs} {s:Int} (hn:vZ n) (hs:s=0\/s=1\/s=2\/s=3\/s=4\/s=5):RM (GL n v1 s):=⟨rfl,hn,.one,rfl,rfl,hs,.inl rfl,by simp[GL],by simp[GL]⟩
def gA:Gv:=⟨gS,[97],v1⟩
theorem ahP:vZ [97]:=agk _ (by decide) (by decide)
theorem ace:vZ [98]:=agk _ (by decide) (by decide)
theorem TC {O:VH} {k ke kv ce cv:Nat} {E V:fy} {r a:Int} {S:List (Gv×List Dp)} (h:nr O k (rowsOf S) E V ke kv ce cv r a) {n v:Bs} {D:List Dp} {tk:Tok} {ds:List MV} {l:Nat} (ri:ds=D.flatMap aS) (hl:l=D.length) (hc:Calm ⟨gS,n,v⟩ D) (fG:∀p∈S,p.1≠⟨gS,n,v⟩) (hS:S.length<1024):
  VF Tryz.prog 28 [.ptr k 0,.str n,.str v,.sl l ds tk] O (aE fun m O'=>m=mb true/\(∃E' V' Q3 Q4,nr O' k (rowsOf (S++[(⟨gS,n,v⟩,D)])) E' V' ke kv Q3 Q4 r a)/\O.next<=O'.next/\∀i cs,i<O.next->O.hp i=some (.cells cs)->O'.hp i=some (.cells cs)):=by
 subst ri;subst hl
 exact ahO h n v D tk hc fG hS
set_option linter.defProp false in
def akm:=Kn qW aB
def bnB (b:Br):Bn:=⟨b.up,b.dp,b.od,b.k,b.v,false,b.v,0,[],.ar,b.sc,b.rd⟩
end Go.Proofs.YtoclnkfdahmnhaaGreatDoor
