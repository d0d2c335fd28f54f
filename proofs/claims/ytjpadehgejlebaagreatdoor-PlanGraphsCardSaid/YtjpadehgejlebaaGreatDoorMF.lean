import Derived.Test.YtjpadehgejlebaaGreatDoorME
import Derived.RangeFuncSeq
set_option linter.unusedVariables false
set_option linter.unusedSimpArgs false
namespace Go.Proofs.YtjpadehgejlebaaGreatDoor
open Go.RowKit
open _root_.List renaming cons_append → zP, nil_append → Ma, length_nil → Qm, getElem?_eq_some_iff → Vq, length_cons → Zj, flatMap_nil → Zk, mem_cons_self → adW, getElem?_eq_getElem → adY, length_append → agc, mem_cons_of_mem → ahJ, mem_singleton → ahK, length_map → ahL, append_assoc → ahM, map_eq_nil_iff → ahN, eq_nil_of_length_eq_zero → ahO, mem_append → ahP, append_nil → ajm, mem_map → ajn, not_mem_nil → ajp, mem_cons → ajq, contains_iff_mem → aju, length_singleton → al_, getElem_mem → am6, getD_eq_getElem?_getD → am7, drop_eq_getElem_cons → am8, take_append_getElem → am9, flatMap_singleton → ana, map_cons → ane, singleton_append → anh, getElem?_map → ank, getElem?_append_left → anl, flatMap_cons → anm, pairwise_iff_getElem → ann, all_eq_true → ano, any_eq_true → anp, length_drop → anq, length_set → ans
open _root_.Nat renaming le_refl → adX, lt_of_lt_of_le → adZ, le_trans → ajk, mul_le_mul_right → ajs, zero_add → ajt, le_of_ble_eq_true → ajv, le_succ_of_le → am_, lt_succ_self → anb, zero_le → anc, add_zero → anr
open _root_.And renaming intro → Qn
open _root_.Int renaming toNat_natCast → anj
open _root_.Bool renaming false_eq_true → ajl, or_eq_true_iff → ajo, and_eq_true_iff → ajr, false_and → am5, true_and → anf, and_eq_true → ang, eq_iff_iff → ani
set_option maxRecDepth 10000
set_option linter.defProp false in
def aS:=Qn cZ<|Qn cx<|Qn agq<|Qn agp<|Qn agv<|Qn T82 T50
section
variable {P:Program} {n:Sz} {D:List Deferred} {ops:Array Oper} {e:Env} {O:VH} {Q:VQ}
theorem ae.acv {brk:List Nat} {Ψ :Gh->Prop} {J:VH->Prop} {Z:Prop} {fuel i j k:Nat} {listed:Array Bool}
  (h1:aL P n D ops i e O Q fun e' O'=>J O'/\ae P n D ops brk J Ψ Z fuel (listed.setIfInBounds i true) e' O' Q) (h2:aL P n D ops j e O Q fun e' O'=>J O'/\ae P n D ops brk J Ψ Z fuel (listed.setIfInBounds j true) e' O' Q)
  (h3:aL P n D ops k e O Q fun e' O'=>J O'/\ae P n D ops brk J Ψ Z fuel (listed.setIfInBounds k true) e' O' Q) (hr:Region.ready .any ops listed=[i,j,k]:=by kernel_rfl):ae P n D ops brk J Ψ Z (fuel+1) listed e O Q:=by
 intro hΨ hZ hJ G a w hψ hw aW
 have key:∀x,(aL P n D ops x e O Q fun e' O'=>J O'/\ae P n D ops brk J Ψ Z fuel (listed.setIfInBounds x true) e' O' Q)->wpOp P ops (cM G n D Q) x (fun a' w'=>TE brk G J x w'/\jB P .any ops (cM G n D Q) (TE brk G J) fuel (listed.setIfInBounds x true) a' w') a w:=fun x h=>
  wpOp_mono (fun a' w' ⟨e',O',H,h1,h2,h3,h4,h5⟩=>⟨TE.mk ⟨H,O',h1,h2,h4⟩,jX (fun _ _ _=>cM.le h1) _ _ _ _ (fun k _ x hT=>hT.le h1) (h5 hΨ hZ h4 H a' w' (hΨ _ _ h1 hψ) h2 h3)⟩) (h G a w hw aW)
 refine jW hr (by simp) fun x hx=>?_
 simp only[ajq,ajp,or_false]at hx;rcases hx with rfl | rfl | rfl
 ·exact key _ h1
 ·exact key _ h2
 ·exact key _ h3
end
theorem Em {F O3:VH} {B sz pb og:Nat} {tk:Tok} {X gc:cg} (cf:App F B sz tk) (hB:O3.N<=B) (oJ:pb<O3.N) (hog:og<O3.N) (j:F.hp pb=some X/\F.hp og=some gc/\O3.N<=F.N/\∀i,i<O3.N->i≠pb->F.hp i=O3.hp i):(F.after tk).hp pb=some X/\(F.after tk).hp og=some gc/\O3.N<=(F.after tk).N/\∀i,i<O3.N->i≠pb->(F.after tk).hp i=O3.hp i:=by
 have Ln:=b_.after cf;have hs:∀i,i<O3.N->(F.after tk).hp i=F.hp i:=fun i h=>Ln.hp i (adZ h j.2.2.1) (fun e=>by have:=(App.nD cf e).1;omega)
 exact⟨(hs _ oJ).trans j.1,(hs _ hog).trans j.2.1,ajk j.2.2.1 Ln.N,fun i h1 h2=>(hs i h1).trans (j.2.2.2 i h1 h2)⟩
theorem BB {ops:Array Oper} {listed:Array Bool} {i:Nat}:∀{k m:Nat},k<=m->∀j,j∈kT ops listed i k->j∈kT ops listed i m
 | 0,_,_,j,h=>by cases h
 | k+1,0,hm,j,h=>by omega
 | k+1,m+1,hm,j,h=>by
   have ih:=BB (ops:=ops) (listed:=listed) (i:=i) (k:=k) (m:=m) (by omega);rw[kT,List.mem_filter]at h ⊢;refine⟨h.1,?_⟩;obtain⟨h1,h2⟩:=ajr.1 h.2;refine ajr.2 ⟨h1,?_⟩;cases ho:ops[j]? with
   | none=>rw[ho]at h2;cases h2
   | some o=>
     rw[ho]at h2;simp only[Option.map_some,Option.getD_some,Array.any_eq_true']at h2 ⊢;obtain⟨e,he,h3⟩:=h2;obtain⟨h4,h5⟩:=ajr.1 h3;refine⟨e,he,ajr.2 ⟨h4,?_⟩⟩;rcases ajo.1 h5 with h6 | h6
     ·exact ajo.2 (.inl h6)
     ·exact ajo.2 (.inr (aju.2 (ih _ (aju.1 h6))))
theorem BD {ops:Array Oper} {brk:List Nat} {listed:Array Bool} {i:Nat} (k:Nat) (hk:k<=ops.size) (h:(brk.all fun j=>listed.getD j true||j==i||(kT ops listed i k).contains j)=true):oA ops brk listed i=true:=by
 unfold oA;rw[ano]at h ⊢;intro j hj;have:=h j hj;rcases ajo.1 this with h1 | h1
 ·exact ajo.2 (.inl h1)
 ·exact ajo.2 (.inr (aju.2 (BB hk _ (aju.1 h1))))
theorem flW (t b n:Nat) (cs:List MV) (tk:Tok) (x1 x2 x3 y1 y2 y3 y4 y5 y6 y7 y8 y9 y10 y11:MV):Fp (kU [(0,1),(1,1),(2,3),(5,11),(16,1)]) [.v (.pointer none),.v (.pointer none),.str [],.str [],.str [],.v (.bool false),.str [],.str [],.str [],.str [],.str [],.str [],.str [],.sl 0 [] .nil,.sl 0 [] .nil,.sl 0 [] .nil,.sl 0 [] .nil] (.ptr t 0) [(1,.ptr b 0),(2,.agg [x1,x2,x3]),(3,.agg [y1,y2,y3,y4,y5,y6,y7,y8,y9,y10,y11]),(4,.sl n cs tk)] (some (0,1))=some [.ptr t 0,.ptr b 0,x1,x2,x3,y1,y2,y3,y4,y5,y6,y7,y8,y9,y10,y11,.sl n cs tk]:=by kernel_rfl
structure MS (O:VH) (wb mB:Nat) (W cs:List MV) (O':VH):Prop where
 ge:O.Ge O'
 w:O'.hp wb=some (.cells W)
 m:O'.hp mB=some (.cells cs)
 w0:O.N<=wb
 wl:wb<O'.N
 m0:O.N<=mB
 ml:mB<O'.N
 ne:wb≠mB
theorem MS.go {O O' O2:VH} {wb mB:Nat} {W cs:List MV} (h:MS O wb mB W cs O') (g:O'.Ge O2):MS O wb mB W cs O2:=
 ⟨h.ge.trans g,(g.hp _ h.wl).trans h.w,(g.hp _ h.ml).trans h.m,h.w0,adZ h.wl g.N,h.m0,adZ h.ml g.N,h.ne⟩
theorem MS.st {O O':VH} {wb mB:Nat} {W cs cs':List MV} (h:MS O wb mB W cs O'):MS O wb mB W cs' (O'.set mB (.cells cs')):=
 ⟨h.ge.set h.m0 _,(π _ _ h.ne).trans h.w,ρ _ _ _,h.w0,h.wl,h.m0,h.ml,h.ne⟩
theorem VC.ms {P:Program} {n:Sz} {D:List Deferred} {c:Code} {e:Env} {Q:VQ} {O O':VH} {wb mB:Nat} {W cs cs':List MV} (h:MS O wb mB W cs O') (k:∀O2,MS O wb mB W cs' O2->(∀i,i≠mB->O2.hp i=O'.hp i)->O2.N=O'.N->VC P n D c e O2 Q):VC P n D c e (O'.set mB (.cells cs')) Q:=k _ h.st (fun i hi=>π _ _ hi) rfl
theorem MS.mv {O O' O2:VH} {wb mB tb kd:Nat} {W cs:List MV} (h:MS O wb mB W cs O') (hn:O'.N<=O2.N) (hf:∀i,i<O'.N->i≠tb->i≠kd->O2.hp i=O'.hp i) (h1:O.N<=tb) (h2:O.N<=kd) (h3:tb≠wb) (h4:kd≠wb) (h5:tb≠mB) (h6:kd≠mB):MS O wb mB W cs O2:=by
 have hl:=h.ge.N;have hw:=h.wl;have hm:=h.ml;exact⟨⟨by omega,fun i hi=>(hf i (by omega) (by omega) (by omega)).trans (h.ge.hp i hi)⟩,(hf _ hw (Ne.symm h3) (Ne.symm h4)).trans h.w,(hf _ hm (Ne.symm h5) (Ne.symm h6)).trans h.m,h.w0,by omega,h.m0,by omega,h.ne⟩
theorem SK {O OF:VH} {k ke kv ce cv md q c:Nat} {L:List (Gv×Bs×Option Pm)} {E V:fG} {r a r' a':Int} (h:oc O k L E V ke kv ce cv r a) {i:Nat} {g:Gv} {t:Bs} {p:Pm} {es:vx} {cm:Nat} (hi:L[i]?=some (g,t,none)) (hE:E[i]?=some (fa g,.ptr q 0,c)) (hk:OF.hp k=some (.cells [.map ke,.map kv,mi r',mi a']))
  (hq:OF.hp q=some (.cells (jy t 1 0 p ik))) (hn:O.N<=OF.N) (hf:∀j,j<O.N->j≠k->j≠q->j≠md->OF.hp j=O.hp j) (hmd:O.hp md=some (.map es cm)) (jQ:md≠ke/\md≠kv):oc OF k (L.set i (g,t,some p)) E V ke kv ce cv r' a':=by
 obtain⟨q2,c2,e1,oG,D3⟩:=h.Lb i g t none hi;rw[hE]at e1;injection e1 with e1;injection e1 with _ e1;injection e1 with e1 _;injection e1 with e1 _
 subst e1;have eh:=h.st.lt;have hke:ke≠q:=fun e=>by have:=h.st.Dj;rw[e,D3]at this;cases this
 have DY:kv≠q:=fun e=>by have:=h.st.Jg;rw[e,D3]at this;cases this
 have hli:=(Vq.1 hi).1;refine⟨⟨hk,(hf _ eh.2.1 (Ne.symm h.st.ne.1) hke (Ne.symm jQ.1)).trans h.st.Dj,(hf _ eh.2.2 (Ne.symm h.st.ne.2.1) DY (Ne.symm jQ.2)).trans h.st.Jg,h.st.Ol,h.st.vok,h.st.ptr,⟨by omega,by omega,by omega⟩,h.st.ne⟩,by rw[ans];exact h.len,fun j g' t' o hj=>?_,h.dis,?_⟩
 ·by_cases e:i=j
  ·subst e;rw[List.getElem?_set_self hli]at hj;injection hj with hj;simp only[Prod.mk.injEq]at hj;obtain⟨rfl,rfl,rfl⟩:=hj;exact⟨q,c,hE,by omega,hq⟩
  ·rw[List.getElem?_set_ne e]at hj;obtain⟨q',c',k1,k2,k3⟩:=h.Lb j g' t' o hj;refine⟨q',c',k1,by omega,(hf q' k2 (fun e2=>?_) (fun e2=>?_) (fun e2=>?_)).trans k3⟩
   ·rw[e2,h.st.cell]at k3;injection k3 with k3;injection k3 with k3
    cases o<;>cases k3
   ·subst e2;exact e (h.dis i j _ _ q' hE k1 rfl rfl)
   ·rw[e2,hmd]at k3;cases k3
 ·rw[ans];refine h.ver.mv hn fun j hj e=>(hf j hj (fun e2=>?_) (fun e2=>?_) (fun e2=>?_)).trans e
  ·rw[e2,h.st.cell]at e;cases e
  ·rw[e2,D3]at e;cases e
  ·rw[e2,hmd]at e;cases e
theorem pS.off {O O':VH} {tb kr kd mB:Nat} {L:List (Bs×Bs)} {R D:vf} {cr cd:Nat} {tk:Tok} {kn:Int} (h:pS O tb kr kd L R D cr cd tk kn) (hi:∀i,i≠mB->O'.hp i=O.hp i) (hn:O'.N=O.N) (h1:tb<mB) (h2:kr<mB) (h3:kd<mB):pS O' tb kr kd L R D cr cd tk kn:=
 ⟨(hi _ (by omega)).trans h.cell,(hi _ (by omega)).trans h.raw,(hi _ (by omega)).trans h.done,by rw[hn];exact h.lt,h.ne⟩
theorem Wk.mdl (a1 a2 a3 a4:MV) (n1 n2 n3:Nat) (c1 c2 c3:List MV) (t1 t2 t3:Tok):ff [a1,a2,a3,a4,.sl n1 c1 t1,.sl n2 c2 t2,.sl n3 c3 t3] [a1,a2,a3,a4,.sl n1 c1 .au,.sl n2 c2 .au,.sl n3 c3 .au]:=
 by repeat' first
  | exact ff.refl _
  | exact Wk.refl _
  | exact Wk.tok
  | refine ff.cons ?_ ?_
theorem BE {O:VH} {tb kr kd b:Nat} {X:cg} {L:List (Bs×Bs)} {R D:vf} {cr cd:Nat} {tk:Tok} {kn:Int} (h:pS O tb kr kd L R D cr cd tk kn) (h1:tb≠b) (h2:kr≠b) (h3:kd≠b):pS (O.set b X) tb kr kd L R D cr cd tk kn:=
 ⟨(π _ _ h1).trans h.cell,(π _ _ h2).trans h.raw,(π _ _ h3).trans h.done,h.lt,h.ne⟩
theorem uy {F:VH} {B sz:Nat} {t7:Tok} (cf:App F B sz t7) {tb kr kd:Nat} {L:List (Bs×Bs)} {R D:vf} {cr cd:Nat} {tk:Tok} {kn:Int} (h:pS F tb kr kd L R D cr cd tk kn):pS (F.after t7) tb kr kd L R D cr cd tk kn:=by
 have hn:=(b_.after cf).N;have hl:=h.lt;exact⟨(App.off cf hl.1 (by rw[h.cell];simp)).trans h.cell,(App.off cf hl.2.1 (by rw[h.raw];simp)).trans h.raw,(App.off cf hl.2.2 (by rw[h.done];simp)).trans h.done,by omega,h.ne⟩
abbrev nu:List MV:=[.str [],.str [],.str [],.str [],.sl 0 [] .nil,.sl 0 [] .nil,.sl 0 [] .nil]
set_option maxHeartbeats 4000000 in
theorem acw {O:VH} {bb md k ke kv ce cv:Nat} {MD:fG} {cm:Nat} {L:List (Gv×Bs×Option Pm)} {E V:fG} {r a:Int} (hB:SJ O bb md k MD cm) (h:oc O k L E V ke kv ce cv r a) {i:Nat} {g:Gv} {t:Bs} {n:Nd} {p:Pm} (hi:L[i]?=some (g,t,none)) (hg:uo g) (ht:t.length<=65536) (hb:iG t= .ok n) (hr:pN n= .ok p) (hq:PmQ p g) (dF:iC (fa g) MD=none) (jQ:md≠ke/\md≠kv):
  VF Tryz.prog 105 [.ptr bb 0,.agg (bZ g),.sl 0 [] .nil] O (aD fun m O'=>m= .agg (mh (jf g p))/\∃q c,E[i]?=some (fa g,.ptr q 0,c)/\(∃r' a',oc O' k (L.set i (g,t,some p)) E V ke kv ce cv r' a')/\SJ O' bb md k (MD++[(fa g,.agg (mh (jf g p)),cm)]) (cm+1)/\O.N<=O'.N/\∀j,j<O.N->j≠k->j≠q->j≠md->O'.hp j=O.hp j):=by
 have D4:=fun(O':VH) (g':O.Ge O')=>Yo (h.ge g') hi hg ht hb hr hq.c
 have r4:=wI hg;have hBc:=fun(O':VH) (g':O.Ge O')=>(hB.ge g')
 obtain⟨g1,g2,g3⟩:=g;simp only[bZ,gU,nH,ik,aq,bw]at D4;simp only[bZ];refine υ 120 [.cell 6 215] Tryz.func105 ?_;refine κ @aS ?_;refine VC.gen ?_;intro O1 e1;obtain⟨aI,cW,cz,cD⟩:=hY _ _ e1;clear e1;have ot:=hBc O1 aI;have hlB:=hB.lt;refine Θ [0,2,4,6,8] (fun _:Unit=>[.ptr bb 0,.sl 0 [] .nil,.ptr O.N 0,.ptr (O.N+1) 0,mb false]) (fun _ O'=>O1.Ge O') ?_ ?_
 ·refine χ ?_;refine VC.qO [11] (fun O'=>O'.hp bb=some (.cells [.ptr k 0,.map md])/\O'.hp O.N=some (.cells [.str g1,.str g2,.str g3])/\O1.Ge O') (⟨ot.cell,cz,VH.Ge.refl _⟩) ?_;refine ae.ar 0 ?_;refine ab @aS ?_;refine ae.ar 1 ?_;refine ab @aS ?_;refine ae.ar 2 ?_;refine ab @aS ?_;refine Ω (m:=.map md) 3 ?_ ?_
  ·rintro O2 ⟨j0,j1,j2⟩;exact dX @aS @j0
  simp only[ak];refine Ω (m:=.agg [.str g1,.str g2,.str g3]) 4 ?_ ?_
  ·rintro O2 ⟨j0,j1,j2⟩;exact dX @aS @j1
  simp only[ak];have lD:∀A B:VH,A.Ge B->(A.hp bb=some (.cells [.ptr k 0,.map md])/\A.hp O.N=some (.cells [.str g1,.str g2,.str g3])/\O1.Ge A)->(B.hp bb=some (.cells [.ptr k 0,.map md])/\B.hp O.N=some (.cells [.str g1,.str g2,.str g3])/\O1.Ge B):=fun A B g h=>⟨(g.hp _ (by have:=h.2.2.N;have:=ot.lt;omega)).trans h.1,(g.hp _ (by have:=h.2.2.N;omega)).trans h.2.1,h.2.2.trans g⟩
  have qZ:O1.hp bb=some (.cells [.ptr k 0,.map md])/\O1.hp O.N=some (.cells [.str g1,.str g2,.str g3])/\O1.Ge O1:=⟨ot.cell,cz,VH.Ge.refl _⟩;have uX:∀A:VH,A.Ge (A.push (.cells nu)):=fun A=>(VH.Ge.refl A).push _
  have hJs:((O1.push (.cells nu)).set O1.N (.cells nu)).hp bb=some (.cells [.ptr k 0,.map md])/\((O1.push (.cells nu)).set O1.N (.cells nu)).hp O.N=some (.cells [.str g1,.str g2,.str g3])/\O1.Ge ((O1.push (.cells nu)).set O1.N (.cells nu)):=lD O1 _ ((uX O1).set (adX _) _) qZ;refine ae.pair (i:=5) (j:=9) ?_ ?_
  ·refine aL.sj (δ wH aa (l:=fa ⟨g1,g2,g3⟩) (te:=⟨_,7,136,nu⟩) Tryz.underlying172 FH.1.1 rfl rfl ot.map ot.ok rfl rfl r4) ?_;rw[dF];refine⟨qZ,?_⟩;refine ae.ar 6 ?_;refine ab @aS ?_;refine ae.ar 7 ?_;refine ab @aS ?_;refine ae.ar 8 ?_;refine ab @aS ?_;refine ae.op (i:=9) ?_;refine ab @aS ?_;refine⟨⟨qZ.1,qZ.2.1,uX _⟩,?_⟩;refine ae.op (i:=10) ?_;refine ab @aS ?_;refine⟨⟨qZ.1,qZ.2.1,hJs.2.2⟩,?_⟩;refine ae.bP [(11,.one)] ?_;refine ab @aS ?_;refine ν @aS ?_;exact aA.mk () ((uX O1).set (adX _) _)
  ·refine aL.o1 ?_;refine ab @aS ?_;refine⟨⟨qZ.1,qZ.2.1,uX _⟩,?_⟩;refine ae.one (i:=5) (aL.sj (δ wH aa (l:=fa ⟨g1,g2,g3⟩) (te:=⟨_,7,136,nu⟩) Tryz.underlying172 FH.1.1 rfl rfl ((uX _).hp _ ot.lt.2 |>.trans ot.map) ot.ok rfl rfl r4) ?_);rw[dF];refine⟨lD _ _ (uX _) qZ,?_⟩;refine ae.ar 6 ?_;refine ab @aS ?_;refine ae.ar 7 ?_;refine ab @aS ?_;refine ae.ar 8 ?_;refine ab @aS ?_;refine ae.op (i:=10) ?_;refine ab @aS ?_;refine⟨⟨qZ.1,qZ.2.1,hJs.2.2⟩,?_⟩;refine ae.bP [(11,.one)] ?_;refine ab @aS ?_;refine ν @aS ?_;exact aA.mk () ((uX O1).set (adX _) _)
 rintro _ O2 aB;have Ds:=aI.trans aB;have Cr:=hBc O2 Ds;have uz:O2.hp bb=some (.cells [.ptr k 0,.map md])/\O2.hp O.N=some (.cells [.str g1,.str g2,.str g3]):=⟨Cr.cell,aB.at cz⟩;have cJ:=aB.at cD;have gO2:=VH.Ge.refl O2;have eZ:=aB.N;obtain⟨q0,c,p5,agV,D3,hE0⟩:=h.some hi;have fQ:=h.st.lt.1;have xX:bb≠k:=fun e=>by have:=hB.cell;rw[e,h.st.cell]at this;simp at this
 have Yt:bb≠q0:=fun e=>by have:=hB.cell;rw[e,D3]at this;simp[ab0,jy]at this
 refine Θ [0,2,4,6,9,10] (fun x:Nat×Nat=>[.ptr bb 0,.sl 0 [] .nil,.ptr O.N 0,.ptr (O.N+1) 0,.ptr x.1 0,.ptr x.2 0]) (fun x O'=>x.1≠x.2/\O2.N<=x.1/\O2.N<=x.2/\x.1<O'.N/\x.2<O'.N/\O'.hp x.1=some (.cells (gU p))/\O'.hp x.2=some (.cells (nH ik))/\(∃r' a',O'.hp k=some (.cells [.map ke,.map kv,mi r',mi a']))/\O'.hp q0=some (.cells (jy t 1 0 p ik))/\dI O2 k q0 O') ?_ ?_
 ·have hpm:∃P0,P0=gU p:=⟨_,rfl⟩
  refine VC.qO [12] (fun O'=>O'.hp bb=some (.cells [.ptr k 0,.map md])/\O'.hp O.N=some (.cells [.str g1,.str g2,.str g3])) (uz) ?_;refine ae.ar 0 ?_;refine ab @aS ?_;refine ae.ar 1 ?_;refine ab @aS ?_;refine ae.ar 2 ?_;refine ab @aS ?_;refine Ω (m:=.ptr k 0) 3 ?_ ?_
  ·rintro O2 ⟨j0,j1⟩;exact dX @aS @j0
  simp only[ak];refine Ω (m:=.agg [.str g1,.str g2,.str g3]) 4 ?_ ?_
  ·rintro O2 ⟨j0,j1⟩;exact dX @aS @j1
  simp only[ak];refine ae.acv (i:=5) (j:=9) (k:=10) ?_ ?_ ?_
  ·refine aL.j8 (D4 O2 (Ds.trans gO2)) ?_;rintro _ ow ⟨rfl,q,BF,UU,⟨r',a',acx⟩,acy,hu⟩;obtain rfl:q=q0:=by rw[BF]at p5;injection p5 with e;injection e
   have amL:=hu.N;have UW:=(dI.of (k:=k) (q:=q) gO2).trans hu;have amk:=hu.hp;clear hu;have GF:ow.hp bb=some (.cells [.ptr k 0,.map md])/\ow.hp O.N=some (.cells [.str g1,.str g2,.str g3]):=⟨(UW.hp bb (by omega) xX Yt).trans uz.1,(UW.hp O.N (by omega) (by omega) (by omega)).trans uz.2⟩;simp only[ak];refine⟨GF,?_⟩;refine ae.ar 6 ?_;refine ab @aS ?_;refine ae.ar 7 ?_;refine ab @aS ?_;refine ae.ar 8 ?_;refine ab @aS ?_;refine ae.pair (i:=9) (j:=10) ?_ ?_
   ·refine aL.o1 ?_;refine ab @aS ?_;refine⟨GF,?_⟩;have GH:VH.Ge ow (VH.push ow (.cells fB)):=(VH.Ge.refl _).push _;have Pw:(VH.push ow (.cells fB)).hp (ow.N)=some (.cells fB):=Ξ _ _;have aml:(VH.push ow (.cells fB)).N=ow.N+1:=rfl;have SL:(VH.push ow (.cells fB)).hp bb=some (.cells [.ptr k 0,.map md])/\(VH.push ow (.cells fB)).hp O.N=some (.cells [.str g1,.str g2,.str g3]):=⟨GH.at GF.1,GH.at GF.2⟩;generalize VH.push ow (.cells fB)=s8 at*;have afB:=GH.at acx;have afC:=GH.at acy;have aiQ:=UW.ge GH;refine ae.op (i:=10) ?_;refine ab @aS ?_;refine⟨SL,?_⟩;have xN:VH.Ge s8 (VH.push s8 (.cells [.v (.int .i64 0),.str [],.str [],.str [],.v (.int .i64 0),.v (.int .i64 0),.v (.int .i64 0),.str []])):=(VH.Ge.refl _).push _;have H0:(VH.push s8 (.cells [.v (.int .i64 0),.str [],.str [],.str [],.v (.int .i64 0),.v (.int .i64 0),.v (.int .i64 0),.str []])).hp (s8.N)=some (.cells [.v (.int .i64 0),.str [],.str [],.str [],.v (.int .i64 0),.v (.int .i64 0),.v (.int .i64 0),.str []]):=Ξ _ _;have amb:(VH.push s8 (.cells [.v (.int .i64 0),.str [],.str [],.str [],.v (.int .i64 0),.v (.int .i64 0),.v (.int .i64 0),.str []])).N=s8.N+1:=rfl;have Lr:(VH.push s8 (.cells [.v (.int .i64 0),.str [],.str [],.str [],.v (.int .i64 0),.v (.int .i64 0),.v (.int .i64 0),.str []])).hp bb=some (.cells [.ptr k 0,.map md])/\(VH.push s8 (.cells [.v (.int .i64 0),.str [],.str [],.str [],.v (.int .i64 0),.v (.int .i64 0),.v (.int .i64 0),.str []])).hp O.N=some (.cells [.str g1,.str g2,.str g3]):=⟨xN.at SL.1,xN.at SL.2⟩;generalize VH.push s8 (.cells [.v (.int .i64 0),.str [],.str [],.str [],.v (.int .i64 0),.v (.int .i64 0),.v (.int .i64 0),.str []])=SM at*;have acz:=xN.at afB;have acA:=xN.at afC;have UX:=aiQ.ge xN;have Ls:=xN.at Pw;have wT:=Ls;have lE:=H0;have hne:ow.N≠s8.N:=by omega
    have q_:O2.N<=ow.N:=by omega
    have pB:O2.N<=s8.N:=by omega
    have n8:ow.N<VH.N SM:=by omega
    have ra:s8.N<VH.N SM:=by omega
    refine ae.op (i:=11) ?_;refine ao @aS @wT ?_;refine⟨by first | exact⟨ω (And.left Lr),ω (And.right Lr)⟩ | exact Lr,?_⟩;refine ae.bP [(12,.one)] ?_;refine aG @aS @wT @lE ?_;exact aA.mk (ow.N,s8.N) ⟨hne,q_,pB,n8,ra,(π _ _ hne).trans (ρ _ _ _),ρ _ _ _,⟨r',a',ω (ω acz)⟩,ω (ω acA),⟨(by show O2.N<=VH.N SM;exact dI.N UX),fun i h1 h2 h3=>by rw[π _ _ (by omega),π _ _ (by omega)];exact dI.hp UX i h1 h2 h3⟩⟩
   ·refine aL.o1 ?_;refine ab @aS ?_;refine⟨GF,?_⟩;have GI:VH.Ge ow (VH.push ow (.cells [.v (.int .i64 0),.str [],.str [],.str [],.v (.int .i64 0),.v (.int .i64 0),.v (.int .i64 0),.str []])):=(VH.Ge.refl _).push _;have Px:(VH.push ow (.cells [.v (.int .i64 0),.str [],.str [],.str [],.v (.int .i64 0),.v (.int .i64 0),.v (.int .i64 0),.str []])).hp (ow.N)=some (.cells [.v (.int .i64 0),.str [],.str [],.str [],.v (.int .i64 0),.v (.int .i64 0),.v (.int .i64 0),.str []]):=Ξ _ _;have amm:(VH.push ow (.cells [.v (.int .i64 0),.str [],.str [],.str [],.v (.int .i64 0),.v (.int .i64 0),.v (.int .i64 0),.str []])).N=ow.N+1:=rfl;have SN:(VH.push ow (.cells [.v (.int .i64 0),.str [],.str [],.str [],.v (.int .i64 0),.v (.int .i64 0),.v (.int .i64 0),.str []])).hp bb=some (.cells [.ptr k 0,.map md])/\(VH.push ow (.cells [.v (.int .i64 0),.str [],.str [],.str [],.v (.int .i64 0),.v (.int .i64 0),.v (.int .i64 0),.str []])).hp O.N=some (.cells [.str g1,.str g2,.str g3]):=⟨GI.at GF.1,GI.at GF.2⟩;generalize VH.push ow (.cells [.v (.int .i64 0),.str [],.str [],.str [],.v (.int .i64 0),.v (.int .i64 0),.v (.int .i64 0),.str []])=s9 at*;have afD:=GI.at acx;have afE:=GI.at acy;have aiR:=UW.ge GI;refine ae.op (i:=9) ?_;refine ab @aS ?_;refine⟨SN,?_⟩;have xO:VH.Ge s9 (VH.push s9 (.cells fB)):=(VH.Ge.refl _).push _;have H3:(VH.push s9 (.cells fB)).hp (s9.N)=some (.cells fB):=Ξ _ _;have amc:(VH.push s9 (.cells fB)).N=s9.N+1:=rfl;have Lt:(VH.push s9 (.cells fB)).hp bb=some (.cells [.ptr k 0,.map md])/\(VH.push s9 (.cells fB)).hp O.N=some (.cells [.str g1,.str g2,.str g3]):=⟨xO.at SN.1,xO.at SN.2⟩;generalize VH.push s9 (.cells fB)=SO at*;have acB:=xO.at afD;have acC:=xO.at afE;have UY:=aiR.ge xO;have Lu:=xO.at Px;have wT:=H3;have lE:=Lu;have hne:s9.N≠ow.N:=by omega
    have q_:O2.N<=s9.N:=by omega
    have pB:O2.N<=ow.N:=by omega
    have n8:s9.N<VH.N SO:=by omega
    have ra:ow.N<VH.N SO:=by omega
    refine ae.op (i:=11) ?_;refine ao @aS @wT ?_;refine⟨by first | exact⟨ω (And.left Lt),ω (And.right Lt)⟩ | exact Lt,?_⟩;refine ae.bP [(12,.one)] ?_;refine aG @aS @wT @lE ?_;exact aA.mk (s9.N,ow.N) ⟨hne,q_,pB,n8,ra,(π _ _ hne).trans (ρ _ _ _),ρ _ _ _,⟨r',a',ω (ω acB)⟩,ω (ω acC),⟨(by show O2.N<=VH.N SO;exact dI.N UY),fun i h1 h2 h3=>by rw[π _ _ (by omega),π _ _ (by omega)];exact dI.hp UY i h1 h2 h3⟩⟩
  ·refine aL.o1 ?_;refine ab @aS ?_;refine⟨uz,?_⟩;have acD:VH.Ge O2 (VH.push O2 (.cells fB)):=(VH.Ge.refl _).push _;have Jy:(VH.push O2 (.cells fB)).hp (O2.N)=some (.cells fB):=Ξ _ _;have amM:(VH.push O2 (.cells fB)).N=O2.N+1:=rfl;have acE:(VH.push O2 (.cells fB)).hp bb=some (.cells [.ptr k 0,.map md])/\(VH.push O2 (.cells fB)).hp O.N=some (.cells [.str g1,.str g2,.str g3]):=⟨acD.at uz.1,acD.at uz.2⟩;generalize VH.push O2 (.cells fB)=zQ at*;have acF:=gO2.trans acD;refine ae.pair (i:=5) (j:=10) ?_ ?_
   ·refine aL.j8 (D4 zQ (Ds.trans acF)) ?_;rintro _ rb ⟨rfl,q,BF,UU,⟨r',a',afF⟩,afG,hu⟩;obtain rfl:q=q0:=by rw[BF]at p5;injection p5 with e;injection e
    have amn:=hu.N;have SP:=(dI.of (k:=k) (q:=q) acF).trans hu;have afH:=hu.hp;clear hu;have Lv:rb.hp bb=some (.cells [.ptr k 0,.map md])/\rb.hp O.N=some (.cells [.str g1,.str g2,.str g3]):=⟨(SP.hp bb (by omega) xX Yt).trans uz.1,(SP.hp O.N (by omega) (by omega) (by omega)).trans uz.2⟩;have SQ:=(afH O2.N (by omega) (by omega) (by omega)).trans Jy;simp only[ak];refine⟨Lv,?_⟩;refine ae.ar 6 ?_;refine ab @aS ?_;refine ae.ar 7 ?_;refine ab @aS ?_;refine ae.ar 8 ?_;refine ab @aS ?_;refine ae.op (i:=10) ?_;refine ab @aS ?_;refine⟨Lv,?_⟩;have xP:VH.Ge rb (VH.push rb (.cells [.v (.int .i64 0),.str [],.str [],.str [],.v (.int .i64 0),.v (.int .i64 0),.v (.int .i64 0),.str []])):=(VH.Ge.refl _).push _;have H4:(VH.push rb (.cells [.v (.int .i64 0),.str [],.str [],.str [],.v (.int .i64 0),.v (.int .i64 0),.v (.int .i64 0),.str []])).hp (rb.N)=some (.cells [.v (.int .i64 0),.str [],.str [],.str [],.v (.int .i64 0),.v (.int .i64 0),.v (.int .i64 0),.str []]):=Ξ _ _;have amd:(VH.push rb (.cells [.v (.int .i64 0),.str [],.str [],.str [],.v (.int .i64 0),.v (.int .i64 0),.v (.int .i64 0),.str []])).N=rb.N+1:=rfl;have Lw:(VH.push rb (.cells [.v (.int .i64 0),.str [],.str [],.str [],.v (.int .i64 0),.v (.int .i64 0),.v (.int .i64 0),.str []])).hp bb=some (.cells [.ptr k 0,.map md])/\(VH.push rb (.cells [.v (.int .i64 0),.str [],.str [],.str [],.v (.int .i64 0),.v (.int .i64 0),.v (.int .i64 0),.str []])).hp O.N=some (.cells [.str g1,.str g2,.str g3]):=⟨xP.at Lv.1,xP.at Lv.2⟩;generalize VH.push rb (.cells [.v (.int .i64 0),.str [],.str [],.str [],.v (.int .i64 0),.v (.int .i64 0),.v (.int .i64 0),.str []])=SR at*;have acG:=xP.at afF;have acH:=xP.at afG;have UZ:=SP.ge xP;have Py:=xP.at SQ;have wT:=Py;have lE:=H4;have hne:O2.N≠rb.N:=by omega
    have q_:O2.N<=O2.N:=by omega
    have pB:O2.N<=rb.N:=by omega
    have n8:O2.N<VH.N SR:=by omega
    have ra:rb.N<VH.N SR:=by omega
    refine ae.op (i:=11) ?_;refine ao @aS @wT ?_;refine⟨by first | exact⟨ω (And.left Lw),ω (And.right Lw)⟩ | exact Lw,?_⟩;refine ae.bP [(12,.one)] ?_;refine aG @aS @wT @lE ?_;exact aA.mk (O2.N,rb.N) ⟨hne,q_,pB,n8,ra,(π _ _ hne).trans (ρ _ _ _),ρ _ _ _,⟨r',a',ω (ω acG)⟩,ω (ω acH),⟨(by show O2.N<=VH.N SR;exact dI.N UZ),fun i h1 h2 h3=>by rw[π _ _ (by omega),π _ _ (by omega)];exact dI.hp UZ i h1 h2 h3⟩⟩
   ·refine aL.o1 ?_;refine ab @aS ?_;refine⟨acE,?_⟩;have Lx:VH.Ge zQ (VH.push zQ (.cells [.v (.int .i64 0),.str [],.str [],.str [],.v (.int .i64 0),.v (.int .i64 0),.v (.int .i64 0),.str []])):=(VH.Ge.refl _).push _;have Pz:(VH.push zQ (.cells [.v (.int .i64 0),.str [],.str [],.str [],.v (.int .i64 0),.v (.int .i64 0),.v (.int .i64 0),.str []])).hp (zQ.N)=some (.cells [.v (.int .i64 0),.str [],.str [],.str [],.v (.int .i64 0),.v (.int .i64 0),.v (.int .i64 0),.str []]):=Ξ _ _;have amo:(VH.push zQ (.cells [.v (.int .i64 0),.str [],.str [],.str [],.v (.int .i64 0),.v (.int .i64 0),.v (.int .i64 0),.str []])).N=zQ.N+1:=rfl;have amp:(VH.push zQ (.cells [.v (.int .i64 0),.str [],.str [],.str [],.v (.int .i64 0),.v (.int .i64 0),.v (.int .i64 0),.str []])).hp bb=some (.cells [.ptr k 0,.map md])/\(VH.push zQ (.cells [.v (.int .i64 0),.str [],.str [],.str [],.v (.int .i64 0),.v (.int .i64 0),.v (.int .i64 0),.str []])).hp O.N=some (.cells [.str g1,.str g2,.str g3]):=⟨Lx.at acE.1,Lx.at acE.2⟩;generalize VH.push zQ (.cells [.v (.int .i64 0),.str [],.str [],.str [],.v (.int .i64 0),.v (.int .i64 0),.v (.int .i64 0),.str []])=alj at*;have acI:=acF.trans Lx;have SU:=Lx.at Jy;refine ae.call (i:=5) (D4 alj (Ds.trans acI)) ?_;rintro _ GJ ⟨rfl,q,BF,UU,⟨r',a',acJ⟩,acK,hu⟩;obtain rfl:q=q0:=by rw[BF]at p5;injection p5 with e;injection e
    have ame:=hu.N;have En:=(dI.of (k:=k) (q:=q) acI).trans hu;have PA:=hu.hp;clear hu;have Eo:GJ.hp bb=some (.cells [.ptr k 0,.map md])/\GJ.hp O.N=some (.cells [.str g1,.str g2,.str g3]):=⟨(En.hp bb (by omega) xX Yt).trans uz.1,(En.hp O.N (by omega) (by omega) (by omega)).trans uz.2⟩;have PB:=(PA O2.N (by omega) (by omega) (by omega)).trans SU;have Ly:=(PA zQ.N (by omega) (by omega) (by omega)).trans Pz;simp only[ak];refine⟨Eo,?_⟩;refine ae.ar 6 ?_;refine ab @aS ?_;refine ae.ar 7 ?_;refine ab @aS ?_;refine ae.ar 8 ?_;refine ab @aS ?_;have wT:=PB;have lE:=Ly;have hne:O2.N≠zQ.N:=by omega
    have q_:O2.N<=O2.N:=by omega
    have pB:O2.N<=zQ.N:=by omega
    have n8:O2.N<VH.N GJ:=by omega
    have ra:zQ.N<VH.N GJ:=by omega
    refine ae.op (i:=11) ?_;refine ao @aS @wT ?_;refine⟨by first | exact⟨ω (And.left Eo),ω (And.right Eo)⟩ | exact Eo,?_⟩;refine ae.bP [(12,.one)] ?_;refine aG @aS @wT @lE ?_;exact aA.mk (O2.N,zQ.N) ⟨hne,q_,pB,n8,ra,(π _ _ hne).trans (ρ _ _ _),ρ _ _ _,⟨r',a',ω (ω acJ)⟩,ω (ω acK),⟨(by show O2.N<=VH.N GJ;exact dI.N En),fun i h1 h2 h3=>by rw[π _ _ (by omega),π _ _ (by omega)];exact dI.hp En i h1 h2 h3⟩⟩
  ·refine aL.o1 ?_;refine ab @aS ?_;refine⟨uz,?_⟩;have acL:VH.Ge O2 (VH.push O2 (.cells [.v (.int .i64 0),.str [],.str [],.str [],.v (.int .i64 0),.v (.int .i64 0),.v (.int .i64 0),.str []])):=(VH.Ge.refl _).push _;have Jz:(VH.push O2 (.cells [.v (.int .i64 0),.str [],.str [],.str [],.v (.int .i64 0),.v (.int .i64 0),.v (.int .i64 0),.str []])).hp (O2.N)=some (.cells [.v (.int .i64 0),.str [],.str [],.str [],.v (.int .i64 0),.v (.int .i64 0),.v (.int .i64 0),.str []]):=Ξ _ _;have amN:(VH.push O2 (.cells [.v (.int .i64 0),.str [],.str [],.str [],.v (.int .i64 0),.v (.int .i64 0),.v (.int .i64 0),.str []])).N=O2.N+1:=rfl;have acM:(VH.push O2 (.cells [.v (.int .i64 0),.str [],.str [],.str [],.v (.int .i64 0),.v (.int .i64 0),.v (.int .i64 0),.str []])).hp bb=some (.cells [.ptr k 0,.map md])/\(VH.push O2 (.cells [.v (.int .i64 0),.str [],.str [],.str [],.v (.int .i64 0),.v (.int .i64 0),.v (.int .i64 0),.str []])).hp O.N=some (.cells [.str g1,.str g2,.str g3]):=⟨acL.at uz.1,acL.at uz.2⟩;generalize VH.push O2 (.cells [.v (.int .i64 0),.str [],.str [],.str [],.v (.int .i64 0),.v (.int .i64 0),.v (.int .i64 0),.str []])=zR at*;have acN:=gO2.trans acL;refine ae.pair (i:=5) (j:=9) ?_ ?_
   ·refine aL.j8 (D4 zR (Ds.trans acN)) ?_;rintro _ re ⟨rfl,q,BF,UU,⟨r',a',afI⟩,afJ,hu⟩;obtain rfl:q=q0:=by rw[BF]at p5;injection p5 with e;injection e
    have amq:=hu.N;have SV:=(dI.of (k:=k) (q:=q) acN).trans hu;have afK:=hu.hp;clear hu;have LA:re.hp bb=some (.cells [.ptr k 0,.map md])/\re.hp O.N=some (.cells [.str g1,.str g2,.str g3]):=⟨(SV.hp bb (by omega) xX Yt).trans uz.1,(SV.hp O.N (by omega) (by omega) (by omega)).trans uz.2⟩;have SW:=(afK O2.N (by omega) (by omega) (by omega)).trans Jz;simp only[ak];refine⟨LA,?_⟩;refine ae.ar 6 ?_;refine ab @aS ?_;refine ae.ar 7 ?_;refine ab @aS ?_;refine ae.ar 8 ?_;refine ab @aS ?_;refine ae.op (i:=9) ?_;refine ab @aS ?_;refine⟨LA,?_⟩;have xQ:VH.Ge re (VH.push re (.cells fB)):=(VH.Ge.refl _).push _;have H5:(VH.push re (.cells fB)).hp (re.N)=some (.cells fB):=Ξ _ _;have amf:(VH.push re (.cells fB)).N=re.N+1:=rfl;have LB:(VH.push re (.cells fB)).hp bb=some (.cells [.ptr k 0,.map md])/\(VH.push re (.cells fB)).hp O.N=some (.cells [.str g1,.str g2,.str g3]):=⟨xQ.at LA.1,xQ.at LA.2⟩;generalize VH.push re (.cells fB)=SX at*;have acO:=xQ.at afI;have acP:=xQ.at afJ;have U0:=SV.ge xQ;have PC:=xQ.at SW;have wT:=H5;have lE:=PC;have hne:re.N≠O2.N:=by omega
    have q_:O2.N<=re.N:=by omega
    have pB:O2.N<=O2.N:=by omega
    have n8:re.N<VH.N SX:=by omega
    have ra:O2.N<VH.N SX:=by omega
    refine ae.op (i:=11) ?_;refine ao @aS @wT ?_;refine⟨by first | exact⟨ω (And.left LB),ω (And.right LB)⟩ | exact LB,?_⟩;refine ae.bP [(12,.one)] ?_;refine aG @aS @wT @lE ?_;exact aA.mk (re.N,O2.N) ⟨hne,q_,pB,n8,ra,(π _ _ hne).trans (ρ _ _ _),ρ _ _ _,⟨r',a',ω (ω acO)⟩,ω (ω acP),⟨(by show O2.N<=VH.N SX;exact dI.N U0),fun i h1 h2 h3=>by rw[π _ _ (by omega),π _ _ (by omega)];exact dI.hp U0 i h1 h2 h3⟩⟩
   ·refine aL.o1 ?_;refine ab @aS ?_;refine⟨acM,?_⟩;have LC:VH.Ge zR (VH.push zR (.cells fB)):=(VH.Ge.refl _).push _;have PD:(VH.push zR (.cells fB)).hp (zR.N)=some (.cells fB):=Ξ _ _;have amr:(VH.push zR (.cells fB)).N=zR.N+1:=rfl;have ams:(VH.push zR (.cells fB)).hp bb=some (.cells [.ptr k 0,.map md])/\(VH.push zR (.cells fB)).hp O.N=some (.cells [.str g1,.str g2,.str g3]):=⟨LC.at acM.1,LC.at acM.2⟩;generalize VH.push zR (.cells fB)=alk at*;have acQ:=acN.trans LC;have SY:=LC.at Jz;refine ae.call (i:=5) (D4 alk (Ds.trans acQ)) ?_;rintro _ GK ⟨rfl,q,BF,UU,⟨r',a',acR⟩,acS,hu⟩;obtain rfl:q=q0:=by rw[BF]at p5;injection p5 with e;injection e
    have amg:=hu.N;have Ep:=(dI.of (k:=k) (q:=q) acQ).trans hu;have PF:=hu.hp;clear hu;have Er:GK.hp bb=some (.cells [.ptr k 0,.map md])/\GK.hp O.N=some (.cells [.str g1,.str g2,.str g3]):=⟨(Ep.hp bb (by omega) xX Yt).trans uz.1,(Ep.hp O.N (by omega) (by omega) (by omega)).trans uz.2⟩;have PG:=(PF O2.N (by omega) (by omega) (by omega)).trans SY;have LD:=(PF zR.N (by omega) (by omega) (by omega)).trans PD;simp only[ak];refine⟨Er,?_⟩;refine ae.ar 6 ?_;refine ab @aS ?_;refine ae.ar 7 ?_;refine ab @aS ?_;refine ae.ar 8 ?_;refine ab @aS ?_;have wT:=LD;have lE:=PG;have hne:zR.N≠O2.N:=by omega
    have q_:O2.N<=zR.N:=by omega
    have pB:O2.N<=O2.N:=by omega
    have n8:zR.N<VH.N GK:=by omega
    have ra:O2.N<VH.N GK:=by omega
    refine ae.op (i:=11) ?_;refine ao @aS @wT ?_;refine⟨by first | exact⟨ω (And.left Er),ω (And.right Er)⟩ | exact Er,?_⟩;refine ae.bP [(12,.one)] ?_;refine aG @aS @wT @lE ?_;exact aA.mk (zR.N,O2.N) ⟨hne,q_,pB,n8,ra,(π _ _ hne).trans (ρ _ _ _),ρ _ _ _,⟨r',a',ω (ω acR)⟩,ω (ω acS),⟨(by show O2.N<=VH.N GK;exact dI.N Ep),fun i h1 h2 h3=>by rw[π _ _ (by omega),π _ _ (by omega)];exact dI.hp Ep i h1 h2 h3⟩⟩
 rintro⟨pb,xb⟩ O3 ⟨acT,alm,acm,yJ,aln,pO,lS,⟨r',a',dR⟩,qX,c9⟩;dsimp only at acT alm acm yJ aln pO lS ⊢;have gy:=c9.N;have j3:O3.hp bb=some (.cells [.ptr k 0,.map md])/\O3.hp O.N=some (.cells [.str g1,.str g2,.str g3]):=⟨(c9.hp bb (by omega) xX Yt).trans uz.1,(c9.hp O.N (by omega) (by omega) (by omega)).trans uz.2⟩;have cB:=(c9.hp (O.N+1) (by omega) (by omega) (by omega)).trans cJ;have ag_:md≠k:=fun e=>by have:=hB.map;rw[e,h.st.cell]at this;cases this
 have aha:md≠q0:=fun e=>by have:=hB.map;rw[e,D3]at this;cases this
 have hm3:=(c9.hp md (by omega) ag_ aha).trans Cr.map;have GA:=lS;simp only[nH,ik,aq]at GA;refine ξ @aS @GA ?_;refine VL.B3 aa (bb:=false) (b:=true) (by simp) (by simp[iB]) (.inr ⟨rfl,rfl⟩) (by kernel_rfl) (by kernel_rfl) rfl rfl rfl rfl ?_;refine ab @aS ?_;simp only[gU,bw]at pO;refine Θ [0,4,6,9,11] (fun x:Nat×Nat=>[.ptr bb 0,.ptr O.N 0,.ptr (O.N+1) 0,.ptr pb 0,.ptr x.1 0]) (fun x O'=>O3.Ge O'/\O3.N<=x.1/\x.1<O'.N/\(∃tw,O'.hp x.1=some (.cells (sZ x.2 bb ⟨g1,g2,g3⟩ p tw)))/\∃kr kd R cr t,pS O' x.2 kr kd (iJ p) R [] cr 0 t 0/\(∀x∈iJ p,yc x.1 R=some x.2)/\O3.N<=kr/\O3.N<=kd/\O3.N<=x.2/\x.2≠x.1/\kd≠x.1/\kr≠x.1) ?_ ?_
 ·refine VC.Bb [13] (pb) (fun O'=>O'.hp O.N=some (.cells [.str g1,.str g2,.str g3])/\O3.N<=O'.N/\∀i,i<O3.N->i≠pb->O'.hp i=O3.hp i) (pO) (fun X=>⟨ω j3.2,adX _,fun i _ h=>π _ _ h⟩) ?_;intro X;refine ζ (m:=.agg [.v (.bool p.hp),.str p.par.g,.str p.par.a,.str p.par.v,.str p.g,.str p.a,.str p.v,.str p.pk,.sl p.props.length (p.props.flatMap bm) .au,.sl p.eT.length (p.eT.flatMap aU) .au,.sl p.eK.length (p.eK.flatMap aU) .au]) 0 (fun _ h=>h.1) (fun _ h=>h) ?_ ?_
  ·exact fU @aS
  simp only[ak];refine ae.ar 3 ?_;refine ab @aS ?_;refine Ω (m:=.agg [.str g1,.str g2,.str g3]) 4 ?_ ?_
  ·rintro O2 ⟨j0,j1,j2⟩;exact dX @aS @j1
  simp only[ak];refine ζ (m:=.agg [.v (.bool p.hp),.str p.par.g,.str p.par.a,.str p.par.v,.str p.g,.str p.a,.str p.v,.str p.pk,.sl p.props.length (p.props.flatMap bm) .au,.sl p.eT.length (p.eT.flatMap aU) .au,.sl p.eK.length (p.eK.flatMap aU) .au]) 5 (fun _ h=>h.1) (fun _ h=>h) ?_ ?_
  ·exact fU @aS
  simp only[ak];refine ae.ar 6 ?_;refine ab @aS ?_;refine Ω (m:=.agg [.str g1,.str g2,.str g3]) 8 ?_ ?_
  ·rintro O2 ⟨j0,j1,j2⟩;exact dX @aS @j1
  simp only[ak];have lD:∀A B:VH,A.Ge B->(A.hp pb=some (.obj X)/\A.hp O.N=some (.cells [.str g1,.str g2,.str g3])/\O3.N<=A.N/\∀i,i<O3.N->i≠pb->A.hp i=O3.hp i)->(B.hp pb=some (.obj X)/\B.hp O.N=some (.cells [.str g1,.str g2,.str g3])/\O3.N<=B.N/\∀i,i<O3.N->i≠pb->B.hp i=O3.hp i):=fun A B g h=>⟨g.at h.1,g.at h.2.1,ajk h.2.2.1 g.N,fun i h1 h2=>(g.hp i (by omega)).trans (h.2.2.2 i h1 h2)⟩
  have jA0:(O3.set pb (.obj X)).hp pb=some (.obj X)/\(O3.set pb (.obj X)).hp O.N=some (.cells [.str g1,.str g2,.str g3])/\O3.N<=(O3.set pb (.obj X)).N/\∀i,i<O3.N->i≠pb->(O3.set pb (.obj X)).hp i=O3.hp i:=⟨ρ _ _ _,ω j3.2,adX _,fun i _ h=>π _ _ h⟩
  have nA0:(O3.set pb (.obj X)).N=O3.N:=rfl;generalize O3.set pb (.obj X)=A0 at*;have U3:O.N<O3.N:=by omega
  refine ae.pair (i:=1) (j:=9) ?_ ?_
  ·refine aL.j8 (Pq p A0 hq.c.hp hq.props) ?_;rintro _ s_ ⟨⟨t1,rfl⟩,PH⟩;simp only[ak,Qm,Zk];have GL:=lD _ _ PH jA0;have alo:=PH.N;refine⟨GL,?_⟩;refine ae.pair (i:=2) (j:=9) ?_ ?_
   ·refine aL.j8 (Li (iJ p) t1 s_ (by simp[iJ]) (wR p)) ?_;rintro _ yK ⟨rfl,wU,R,cr,t2,qf,hR⟩;simp only[ak,Qm,Zk];have oe:=lD _ _ wU GL;have acU:=wU.N;have U4:=qf.lt;refine⟨oe,?_⟩;refine ae.pair (i:=7) (j:=9) ?_ ?_
    ·refine aL.j8 (xH [] .nil yK (by decide)) ?_;rintro _ kj ⟨t7,rfl,cf,ko⟩;simp only[ak,Qm,Zk];have mO:=lD _ _ ko oe;have LG:=ko.N;have SZ:O3.N<=yK.N:=oe.2.2.1;have lF:=qf.ge ko;refine⟨mO,?_⟩;refine ae.op (i:=9) ?_;refine ab @aS ?_;refine⟨mO,?_⟩;have j5:=aR (tk:=t7) (tk':=.full) (n:=0) (k:=1) (cs:=[]) (ds:=[.str g1,.str g2,.str g3]) yz AO.1.1 cf rfl rfl rfl (by decide) (by decide) (by decide) (by decide);rw[ajt,Ma]at j5;refine ae.op (i:=10) ?_;rw[dj];refine ao @aS @j5 ?_;have jK:=Em cf SZ yJ U3 mO;refine⟨jK,?_⟩;have k8:=flW (s_.N+2) bb 1 [.str g1,.str g2,.str g3] (.own (VH.N kj) 3) (.str g1) (.str g2) (.str g3) (.v (.bool p.hp)) (.str p.par.g) (.str p.par.a) (.str p.par.v) (.str p.g) (.str p.a) (.str p.v) (.str p.pk) (.sl p.props.length (p.props.flatMap bm) .au) (.sl p.eT.length (p.eT.flatMap aU) .au) (.sl p.eK.length (p.eK.flatMap aU) .au);refine ae.ar 11 ?_ (hb:=(BD 1 (ajv (by kernel_rfl)) (by kernel_rfl)));refine ao @aS @k8 ?_;have S0:=uy cf lF;have lTF:=(lF).lt;have nFA:(VH.after kj t7).N=VH.N kj+1:=VH.dZ _ _;generalize VH.after kj t7=FA at*;refine ae.op (i:=12) ?_;refine ab @aS ?_;refine⟨⟨jK.1,jK.2.1,am_ jK.2.2.1,fun i h1 h2=>(Υ _ _ (by omega)).trans (jK.2.2.2 i h1 h2)⟩,?_⟩;refine ae.kf [(13,.one)] ?_;refine ab @aS ?_;refine aA.mk (VH.N FA,s_.N+2) ⟨⟨?_,fun i h1=>?_⟩,jK.2.2.1,anb _,⟨_,(π _ _ (by first | omega | (dsimp only;omega))).trans (Ξ _ _)⟩,s_.N,s_.N+1,R,cr,t2,BE (S0.ge ((VH.Ge.refl FA).push _)) (by first | omega | (dsimp only;omega)) (by first | omega | (dsimp only;omega)) (by first | omega | (dsimp only;omega)),hR,?_,?_,?_,?_,?_,?_⟩
     ·show O3.N<=FA.N+1;omega
     ·by_cases e:i=pb
      ·subst e;rw[ρ];exact pO.symm
      ·rw[π _ _ e,Υ _ _ (by omega)];exact jK.2.2.2 i h1 e
     ·first | omega | (dsimp only;omega)
     ·first | omega | (dsimp only;omega)
     ·first | omega | (dsimp only;omega)
     ·first | omega | (dsimp only;omega)
     ·first | omega | (dsimp only;omega)
     ·first | omega | (dsimp only;omega)
    ·refine aL.o1 ?_;refine ab @aS ?_;refine⟨oe,?_⟩;refine ae.call (i:=7) (xH [] .nil yK (by decide)) ?_;rintro _ kj ⟨t7,rfl,cf,ko⟩;simp only[ak,Qm,Zk];have mO:=lD _ _ ko oe;have LG:=ko.N;have SZ:O3.N<=yK.N:=oe.2.2.1;have lF:=qf.ge ko;refine⟨mO,?_⟩;have j5:=aR (tk:=t7) (tk':=.full) (n:=0) (k:=1) (cs:=[]) (ds:=[.str g1,.str g2,.str g3]) yz AO.1.1 cf rfl rfl rfl (by decide) (by decide) (by decide) (by decide);rw[ajt,Ma]at j5;refine ae.op (i:=10) ?_;rw[dj];refine ao @aS @j5 ?_;have jK:=Em cf SZ yJ U3 mO;refine⟨jK,?_⟩;have k8:=flW (s_.N+2) bb 1 [.str g1,.str g2,.str g3] (.own (VH.N kj) 3) (.str g1) (.str g2) (.str g3) (.v (.bool p.hp)) (.str p.par.g) (.str p.par.a) (.str p.par.v) (.str p.g) (.str p.a) (.str p.v) (.str p.pk) (.sl p.props.length (p.props.flatMap bm) .au) (.sl p.eT.length (p.eT.flatMap aU) .au) (.sl p.eK.length (p.eK.flatMap aU) .au);refine ae.ar 11 ?_ (hb:=(BD 1 (ajv (by kernel_rfl)) (by kernel_rfl)));refine ao @aS @k8 ?_;have S0:=uy cf lF;have lTF:=(lF).lt;have nFA:(VH.after kj t7).N=VH.N kj+1:=VH.dZ _ _;generalize VH.after kj t7=FA at*;refine ae.op (i:=12) ?_;refine ab @aS ?_;refine⟨⟨jK.1,jK.2.1,am_ jK.2.2.1,fun i h1 h2=>(Υ _ _ (by omega)).trans (jK.2.2.2 i h1 h2)⟩,?_⟩;refine ae.kf [(13,.one)] ?_;refine ab @aS ?_;refine aA.mk (VH.N FA,s_.N+2) ⟨⟨?_,fun i h1=>?_⟩,jK.2.2.1,anb _,⟨_,(π _ _ (by first | omega | (dsimp only;omega))).trans (Ξ _ _)⟩,s_.N,s_.N+1,R,cr,t2,BE (S0.ge ((VH.Ge.refl FA).push _)) (by first | omega | (dsimp only;omega)) (by first | omega | (dsimp only;omega)) (by first | omega | (dsimp only;omega)),hR,?_,?_,?_,?_,?_,?_⟩
     ·show O3.N<=FA.N+1;omega
     ·by_cases e:i=pb
      ·subst e;rw[ρ];exact pO.symm
      ·rw[π _ _ e,Υ _ _ (by omega)];exact jK.2.2.2 i h1 e
     ·first | omega | (dsimp only;omega)
     ·first | omega | (dsimp only;omega)
     ·first | omega | (dsimp only;omega)
     ·first | omega | (dsimp only;omega)
     ·first | omega | (dsimp only;omega)
     ·first | omega | (dsimp only;omega)
   ·refine aL.o1 ?_;refine ab @aS ?_;refine⟨GL,?_⟩;refine ae.call (i:=2) (Li (iJ p) t1 s_ (by simp[iJ]) (wR p)) ?_;rintro _ yK ⟨rfl,wU,R,cr,t2,qf,hR⟩;simp only[ak,Qm,Zk];have oe:=lD _ _ wU GL;have acU:=wU.N;have U4:=qf.lt;refine⟨oe,?_⟩;refine ae.call (i:=7) (xH [] .nil yK (by decide)) ?_;rintro _ kj ⟨t7,rfl,cf,ko⟩;simp only[ak,Qm,Zk];have mO:=lD _ _ ko oe;have LG:=ko.N;have SZ:O3.N<=yK.N:=oe.2.2.1;have lF:=qf.ge ko;refine⟨mO,?_⟩;have j5:=aR (tk:=t7) (tk':=.full) (n:=0) (k:=1) (cs:=[]) (ds:=[.str g1,.str g2,.str g3]) yz AO.1.1 cf rfl rfl rfl (by decide) (by decide) (by decide) (by decide);rw[ajt,Ma]at j5;refine ae.op (i:=10) ?_;rw[dj];refine ao @aS @j5 ?_;have jK:=Em cf SZ yJ U3 mO;refine⟨jK,?_⟩;have k8:=flW (s_.N+2) bb 1 [.str g1,.str g2,.str g3] (.own (VH.N kj) 3) (.str g1) (.str g2) (.str g3) (.v (.bool p.hp)) (.str p.par.g) (.str p.par.a) (.str p.par.v) (.str p.g) (.str p.a) (.str p.v) (.str p.pk) (.sl p.props.length (p.props.flatMap bm) .au) (.sl p.eT.length (p.eT.flatMap aU) .au) (.sl p.eK.length (p.eK.flatMap aU) .au);refine ae.ar 11 ?_ (hb:=(BD 1 (ajv (by kernel_rfl)) (by kernel_rfl)));refine ao @aS @k8 ?_;have S0:=uy cf lF;have lTF:=(lF).lt;have nFA:(VH.after kj t7).N=VH.N kj+1:=VH.dZ _ _;generalize VH.after kj t7=FA at*;refine ae.op (i:=12) ?_;refine ab @aS ?_;refine⟨⟨jK.1,jK.2.1,am_ jK.2.2.1,fun i h1 h2=>(Υ _ _ (by omega)).trans (jK.2.2.2 i h1 h2)⟩,?_⟩;refine ae.kf [(13,.one)] ?_;refine ab @aS ?_;refine aA.mk (VH.N FA,s_.N+2) ⟨⟨?_,fun i h1=>?_⟩,jK.2.2.1,anb _,⟨_,(π _ _ (by first | omega | (dsimp only;omega))).trans (Ξ _ _)⟩,s_.N,s_.N+1,R,cr,t2,BE (S0.ge ((VH.Ge.refl FA).push _)) (by first | omega | (dsimp only;omega)) (by first | omega | (dsimp only;omega)) (by first | omega | (dsimp only;omega)),hR,?_,?_,?_,?_,?_,?_⟩
    ·show O3.N<=FA.N+1;omega
    ·by_cases e:i=pb
     ·subst e;rw[ρ];exact pO.symm
     ·rw[π _ _ e,Υ _ _ (by omega)];exact jK.2.2.2 i h1 e
    ·first | omega | (dsimp only;omega)
    ·first | omega | (dsimp only;omega)
    ·first | omega | (dsimp only;omega)
    ·first | omega | (dsimp only;omega)
    ·first | omega | (dsimp only;omega)
    ·first | omega | (dsimp only;omega)
  ·refine aL.o1 ?_;refine ab @aS ?_;refine⟨jA0,?_⟩;refine ae.call (i:=1) (Pq p A0 hq.c.hp hq.props) ?_;rintro _ s_ ⟨⟨t1,rfl⟩,PH⟩;simp only[ak,Qm,Zk];have GL:=lD _ _ PH jA0;have alo:=PH.N;refine⟨GL,?_⟩;refine ae.call (i:=2) (Li (iJ p) t1 s_ (by simp[iJ]) (wR p)) ?_;rintro _ yK ⟨rfl,wU,R,cr,t2,qf,hR⟩;simp only[ak,Qm,Zk];have oe:=lD _ _ wU GL;have acU:=wU.N;have U4:=qf.lt;refine⟨oe,?_⟩;refine ae.call (i:=7) (xH [] .nil yK (by decide)) ?_;rintro _ kj ⟨t7,rfl,cf,ko⟩;simp only[ak,Qm,Zk];have mO:=lD _ _ ko oe;have LG:=ko.N;have SZ:O3.N<=yK.N:=oe.2.2.1;have lF:=qf.ge ko;refine⟨mO,?_⟩;have j5:=aR (tk:=t7) (tk':=.full) (n:=0) (k:=1) (cs:=[]) (ds:=[.str g1,.str g2,.str g3]) yz AO.1.1 cf rfl rfl rfl (by decide) (by decide) (by decide) (by decide);rw[ajt,Ma]at j5;refine ae.op (i:=10) ?_;rw[dj];refine ao @aS @j5 ?_;have jK:=Em cf SZ yJ U3 mO;refine⟨jK,?_⟩;have k8:=flW (s_.N+2) bb 1 [.str g1,.str g2,.str g3] (.own (VH.N kj) 3) (.str g1) (.str g2) (.str g3) (.v (.bool p.hp)) (.str p.par.g) (.str p.par.a) (.str p.par.v) (.str p.g) (.str p.a) (.str p.v) (.str p.pk) (.sl p.props.length (p.props.flatMap bm) .au) (.sl p.eT.length (p.eT.flatMap aU) .au) (.sl p.eK.length (p.eK.flatMap aU) .au);refine ae.ar 11 ?_ (hb:=(BD 1 (ajv (by kernel_rfl)) (by kernel_rfl)));refine ao @aS @k8 ?_;have S0:=uy cf lF;have lTF:=(lF).lt;have nFA:(VH.after kj t7).N=VH.N kj+1:=VH.dZ _ _;generalize VH.after kj t7=FA at*;refine ae.op (i:=12) ?_;refine ab @aS ?_;refine⟨⟨jK.1,jK.2.1,am_ jK.2.2.1,fun i h1 h2=>(Υ _ _ (by omega)).trans (jK.2.2.2 i h1 h2)⟩,?_⟩;refine ae.kf [(13,.one)] ?_;refine ab @aS ?_;refine aA.mk (VH.N FA,s_.N+2) ⟨⟨?_,fun i h1=>?_⟩,jK.2.2.1,anb _,⟨_,(π _ _ (by first | omega | (dsimp only;omega))).trans (Ξ _ _)⟩,s_.N,s_.N+1,R,cr,t2,BE (S0.ge ((VH.Ge.refl FA).push _)) (by first | omega | (dsimp only;omega)) (by first | omega | (dsimp only;omega)) (by first | omega | (dsimp only;omega)),hR,?_,?_,?_,?_,?_,?_⟩
   ·show O3.N<=FA.N+1;omega
   ·by_cases e:i=pb
    ·subst e;rw[ρ];exact pO.symm
    ·rw[π _ _ e,Υ _ _ (by omega)];exact jK.2.2.2 i h1 e
   ·first | omega | (dsimp only;omega)
   ·first | omega | (dsimp only;omega)
   ·first | omega | (dsimp only;omega)
   ·first | omega | (dsimp only;omega)
   ·first | omega | (dsimp only;omega)
   ·first | omega | (dsimp only;omega)
 rintro⟨wb,tb⟩ O4 ⟨aY,ahb,ahc,⟨tw,Po⟩,kr,kd,R,cr,t7,wP,hR4,hkr,vy,htb,U5,U6,acT⟩;dsimp only at ahb ahc Po wP htb U5 U6 acT ⊢;have Yu:=hq.gg;have Yv:=hq.ga;have Yw:=hq.gv;dsimp only at Yu Yv Yw;have gO:=aY.N;have fM:=aY.at j3.2;have KY:=(aY.hp _ yJ).trans pO;rw[Yu,Yv,Yw]at KY;refine ξ @aS @fM ?_;refine VC.al ?_;rintro O5 ⟨bD,zO,eU⟩;have M5:MS O3 wb O4.N (sZ tb bb ⟨g1,g2,g3⟩ p tw) [.str g1,.str g2,.str g3,.str [],.sl 0 [] .nil,.sl 0 [] .nil,.sl 0 [] .nil] O5:=⟨aY.trans bD,(bD.hp _ ahc).trans Po,zO,ahb,by omega,gO,by omega,by omega⟩;have Sy:=wP.ge bD;have JA:=wP.lt;clear Po zO bD eU wP;have N4:=(M5.ge.hp _ yJ).trans pO;rw[Yu,Yv,Yw]at N4;have dS:=M5.ge.at j3.2;have hwB:wb<O5.N:=M5.wl;refine θ (aG @aS @N4 @dS ?_);refine ah.rt (Cz M5.w g1 _ hq.tg) ?_;rintro _ O6 fi;have M6:=M5.go fi;have yd:=Sy.ge fi;clear N4 dS M5 Sy fi hwB;have hp6:=(M6.ge.hp _ yJ).trans pO;rw[Yu,Yv,Yw]at hp6;have oa:=M6.ge.at j3.2;refine ab @aS ?_;refine θ (aG @aS @hp6 @oa ?_);refine ah.rt (Cz M6.w g2 _ hq.ta) ?_;rintro _ O7 eV;have M7:=M6.go eV;have HZ:=yd.ge eV;clear hp6 oa M6 yd eV;have hp7:=(M7.ge.hp _ yJ).trans pO;rw[Yu,Yv,Yw]at hp7;have uv:=M7.ge.at j3.2;refine ab @aS ?_;refine θ (aG @aS @hp7 @uv ?_);refine ah.rt (Cz M7.w g3 _ hq.tv) ?_;rintro _ O8 fV;have M8:=M7.go fV;have hT8:=HZ.ge fV;clear hp7 uv M7 HZ fV;have Bw:=(M8.ge.hp _ yJ).trans pO;refine ab @aS ?_;refine ξ @aS @Bw ?_;refine ah.rt (Ll M8.w p.pk _ hq.tp) ?_;rintro _ O9 ⟨rfl,bj⟩;have M9:=M8.go bj;have hT9:=hT8.ge bj;clear Bw M8 hT8 bj;have Yx:=M9.m;refine ao @aS @Yx ?_;refine VC.ms M9 ?_;rintro gB M10 BA I3;have yL:pS gB tb kr kd (iJ p) R [] cr 0 t7 0:=hT9.off BA I3 JA.1 JA.2.1 JA.2.2;clear Yx BA I3 hT9 M9;have acV:=M10.m;refine Θ [0,4,6,9,11,12] (fun _:Unit=>[.ptr bb 0,.ptr O.N 0,.ptr (O.N+1) 0,.ptr pb 0,.ptr wb 0,.ptr O4.N 0]) (fun _ O'=>MS O3 wb O4.N (sZ tb bb ⟨g1,g2,g3⟩ p tw) [.str g1,.str g2,.str g3,.str (D6 p.pk),.sl 0 [] .nil,.sl 0 [] .nil,.sl 0 [] .nil] O'/\pS O' tb kr kd (iJ p) R [] cr 0 t7 0) ?_ ?_
 ·by_cases ep:p.pk=[]
  ·have ep1:(p.pk==[])=true:=by simpa using ep
   refine θ (aG @aS @acV @ep1 ?_);refine ο @aS @acV ?_;exact aA.mk () ⟨by rw[show D6 p.pk=lC from if_pos ep];exact M10.st,yL.off (fun i hi=>π _ _ hi) rfl JA.1 JA.2.1 JA.2.2⟩
  ·have ep1:(p.pk==[])=false:=by simpa using ep
   refine θ (aG @aS @acV @ep1 ?_);refine ν @aS ?_;exact aA.mk () ⟨by rw[show D6 p.pk=p.pk from if_neg ep];exact M10,yL⟩
 rintro _ vg ⟨M11,ahd⟩;have U7:=M11.m;have hpi:=hq.pi
 have dH:(D6 p.pk).length<=maxLen:=by
  have h1:=hq.tp.2;have h2:(4096:Nat)<=maxLen:=by decide
  unfold D6;split
  ·decide
  ·omega
 have Bz:=fun O'=>uc (D6 p.pk) O' dH
 rw[hpi]at Bz;refine ξ @aS @U7 ?_;refine ah.rt (Bz _) ?_;rintro _ Ys ⟨rfl,BG⟩;have M12:=M11.go BG;have U8:=ahd.ge BG;clear U7 M11 ahd BG Bz;refine ab @aS ?_;have acW:=M12.w;have hW:sZ tb bb ⟨g1,g2,g3⟩ p tw= .ptr tb 0:: .ptr bb 0::(bZ ⟨g1,g2,g3⟩++gU p++[.sl 1 (bZ ⟨g1,g2,g3⟩) tw]):=rfl;rw[hW]at acW;refine ξ @aS @acW ?_;refine ah.rt (afw U8 (by simp[iJ]) hR4 (wR p) ?_) ?_
 ·intro x hx;simp only[iJ,ajq,ajp,or_false]at hx;have h1:=hq.tg;have h2:=hq.ta;have h3:=hq.tv;rcases hx with rfl | rfl | rfl
  ·show iq p.g;rw[Yu];exact h1
  ·show iq p.a;rw[Yv];exact h2
  ·show iq p.v;rw[Yw];exact h3
 rintro _ O13 ⟨⟨tP,rfl⟩,Pb,ahe⟩;have M13:=M12.mv Pb ahe htb vy U5 U6 (by omega) (by omega);clear acW M12 U8 Pb ahe;refine ab @aS ?_;refine κ @aS ?_;have ahf:=M13.m;refine ξ @aS @ahf ?_;refine VC.ms M13 ?_;rintro O14 M14 alp alq;clear ahf alp alq M13;refine κ @aS ?_;refine ah.rt (SD M14.w M14.wl hq.eT) ?_;rintro _ O15 ⟨rfl,ahg⟩;have M15:=M14.go ahg;clear M14 ahg;have ahh:=M15.m;refine ao @aS @ahh ?_;refine VC.ms M15 ?_;rintro O16 M16 alr als;clear ahh alr als M15;have ahi:=M16.m;refine ξ @aS @ahi ?_;refine ah.rt (acp M16.w M16.wl hq.eK hq.len hq.keys .nil) ?_;rintro _ O17 ⟨⟨tN,rfl⟩,ahj⟩;have M17:=M16.go ahj;clear M16 ahj ahi;have ahk:=M17.m;refine ao @aS @ahk ?_;refine VC.ms M17 ?_;rintro O18 M18 alu alv;clear ahk alu alv M17;refine VC.Ym M18.m (Wk.mdl _ _ _ _ _ _ _ _ _ _ _ _ _) ?_;refine VC.ms M18 ?_;rintro PI Yy alw alx;clear alw alx M18;have ahl:=Yy.m;have ahm:=Yy.ge.at j3.1;have aly:=Yy.ge.at j3.2;have alz:=Yy.ge.at cB;have acX:=Yy.ge.at hm3
 have hmm:(.agg [.str g1,.str g2,.str g3,.str (D6 p.pk),.sl (iJ p).length ((iJ p).flatMap bm) .au,.sl 0 [] .au,.sl p.eK.length ((p.eK.map fN).flatMap eA) .au]:MV)= .agg (mh (jf ⟨g1,g2,g3⟩ p)):=by
  simp only[mh,jf,bZ,ahL,zP,Ma]
 refine χ ?_;refine WC.bP (.held [6]) [(0,.rd),(1,.rd),(2,.rd),(3,.rd),(4,.rd),(5,.rd),(6,.one)] ?_;refine cR @aS @ahm @aly @ahl ?_;rw[hmm];refine VL.oE rfl rfl (oD.ja wH (l:=fa ⟨g1,g2,g3⟩) (b:=md) (ck:=cm) (M:=MD) Tryz.underlying172 rfl acX hB.ok rfl rfl r4 rfl) (fun brk hb i hi=>?_) (WL.sound aa ?_)
 ·cases hb
  rcases i with _ | _ | _ | _ | _ | _ | _ | i<;>first
   | rfl
   | (exfalso;revert hi;simp)
 have u_:MD.any (·.1==fa ⟨g1,g2,g3⟩)=false:=by
  rw[List.any_eq_false];intro x hx hxe;exact Gy dF x hx (eq_of_beq hxe)
 have kZ:=qz (y:=.agg (mh (jf ⟨g1,g2,g3⟩ p))) (ck:=cm) hB.ok (l:=fa ⟨g1,g2,g3⟩) rfl r4;unfold ja at kZ;unfold ja KB;rw[u_]at kZ ⊢;rw[if_neg (by decide)]at kZ;refine ab @aS ?_;have alA:O4.N≠md:=by omega
 have alC:(PI.set md (.map (cP (MD++[(fa ⟨g1,g2,g3⟩,.agg (mh (jf ⟨g1,g2,g3⟩ p)),cm)])) (cm+1))).hp O4.N=_:=(π _ _ alA).trans ahl;have alD:(PI.set md (.map (cP (MD++[(fa ⟨g1,g2,g3⟩,.agg (mh (jf ⟨g1,g2,g3⟩ p)),cm)])) (cm+1))).hp (O.N+1)=_:=ω alz;have alE:(PI.set md (.map (cP (MD++[(fa ⟨g1,g2,g3⟩,.agg (mh (jf ⟨g1,g2,g3⟩ p)),cm)])) (cm+1))).hp md=_:=ρ _ _ _;have ahn:∀i,i≠md->(PI.set md (.map (cP (MD++[(fa ⟨g1,g2,g3⟩,.agg (mh (jf ⟨g1,g2,g3⟩ p)),cm)])) (cm+1))).hp i=PI.hp i:=fun i hi=>π _ _ hi
 have amO:(PI.set md (.map (cP (MD++[(fa ⟨g1,g2,g3⟩,.agg (mh (jf ⟨g1,g2,g3⟩ p)),cm)])) (cm+1))).N=PI.N:=rfl;generalize PI.set md (.map (cP (MD++[(fa ⟨g1,g2,g3⟩,.agg (mh (jf ⟨g1,g2,g3⟩ p)),cm)])) (cm+1))=Yz at*;refine θ (aG @aS @alC @alD ?_);refine ν @aS ?_;have S1:=Yy.ge;have hng:=S1.N;have amP:=Ds.N;have amQ:=c9.N;rw[hmm]
 have aW:∀j,j<O.N->j≠k->j≠q0->j≠md->(Yz.set (O.N+1) (.cells [.str g1,.str g2,.str g3,.str (D6 p.pk),.sl (iJ p).length ((iJ p).flatMap bm) .au,.sl 0 [] .au,.sl p.eK.length ((p.eK.map fN).flatMap eA) .au])).hp j=O.hp j:=fun j h1 h2 h3 h4=>by
  rw[π _ _ (by omega),ahn j h4,S1.hp j (by omega),c9.hp j (by omega) h2 h3,Ds.hp j h1]
 have hold:∀j,j<O3.N->j≠O.N+1->j≠md->(Yz.set (O.N+1) (.cells [.str g1,.str g2,.str g3,.str (D6 p.pk),.sl (iJ p).length ((iJ p).flatMap bm) .au,.sl 0 [] .au,.sl p.eK.length ((p.eK.map fN).flatMap eA) .au])).hp j=O3.hp j:=fun j h1 h2 h4=>by
  rw[π _ _ h2,ahn j h4,S1.hp j h1]
 refine⟨rfl,q0,c,hE0,⟨r',a',SK (md:=md) h hi hE0 ?_ ?_ ?_ aW hB.map jQ⟩,⟨?_,?_,kZ,?_⟩,?_,aW⟩
 ·rw[hold k (by omega) (by omega) (Ne.symm ag_)];exact dR
 ·rw[hold q0 (by omega) (by omega) (Ne.symm aha)];exact qX
 ·show O.N<=Yz.N;omega
 ·rw[hold bb (by omega) (by omega) (fun e=>by rw[<-e,ahm]at acX;cases acX)];exact j3.1
 ·rw[π _ _ (by omega)];exact alE
 ·show bb<Yz.N/\md<Yz.N;omega
 ·show O.N<=Yz.N;omega
set_option linter.defProp false in
def dk:=Qn mg<|Qn B6<|Qn Xl<|Qn T69<|Qn akb<|Qn aka<|Qn T37 Xj
structure Bn where
 up:Int
 dp:Int
 od:Int
 k:Ky
 v:Bs
 hd:Bool
 rv:Bs
 n:Nat
 iv:List MV
 tk:Tok
 s:Int
 rd:Bool
def eB (b:Bn):List MV:=[mi b.up,mi b.dp,mi b.od,.str b.k.g,.str b.k.a,.str b.k.t,.str b.k.c,.str b.v,mb b.hd,.str b.rv,.sl b.n b.iv b.tk,mi b.s,mb b.rd]
theorem jg (b:Bn):(eB b).length=13:=rfl
def GM (C:List Bool) (b:Bn):Bool:=C.length==0||(decide (0<=b.up)&&(decide (b.up<(C.length:Int))&&C.getD b.up.toNat false))
def jH (x:List Bool×List Bool×List Ky) (b:Bn):List Bool×List Bool×List Ky:=
 (x.1++[GM x.1 b&& !x.2.2.contains b.k],x.2.1++[GM x.1 b],if GM x.1 b&& !x.2.2.contains b.k then x.2.2++[b.k]else x.2.2)
def nv (L:List Bn):List Bool×List Bool×List Ky:=L.foldl jH ([],[],[])
theorem S4 (L:List Bn) (b:Bn):nv (L++[b])=jH (nv L) b:=by simp[nv]
theorem JB:∀L:List Bn,(nv L).1.length=L.length/\(nv L).2.1.length=L.length:=by
 intro L
 have:∀(L:List Bn) x,(L.foldl jH x).1.length=x.1.length+L.length/\(L.foldl jH x).2.1.length=x.2.1.length+L.length:=by
  intro L;induction L with
  | nil=>intro x;exact⟨rfl,rfl⟩
  | cons b L ih=>
    intro x;rw[List.foldl_cons];have:=ih (jH x b);simp only[jH,agc,Zj,Qm]at this ⊢;omega
 simpa[nv]using this L ([],[],[])
structure Vd (O O':VH) (vb lb cb mp:Nat) (L:List Bn) (tk:Tok) (C V:List Bool):Prop where
 ge:O.Ge O'
 v:O'.hp vb=some (.cells [.sl L.length (L.flatMap eB) tk,.bB lb 0 L.length L.length,.bB cb 0 L.length L.length,.map mp])
 l:O'.hp lb=some (.cells (V.map mb))
 c:O'.hp cb=some (.cells (C.map mb))
 lo:O.N<=vb/\O.N<=lb/\O.N<=cb/\O.N<=mp
 hi:lb<vb/\cb<vb/\mp<vb/\lb≠cb/\lb≠mp/\cb≠mp/\vb<O'.N
theorem JC {tab:cj} {t el:TypeId} {u:TypeDesc} {a b d:Nat} {z:List MV} {y:MV} (h:tab t=some ⟨.slice el,a,b,z⟩) (h2:tab el=some ⟨u,1,d,[y]⟩) (O:VH) (n:Nat) (hb:d*n<=281474976710656) (hn:n<=9223372036854775807):
  m_ tab O t (.v (.int .i64 n)) (.v (.int .i64 n))=some (.bB O.N 0 n n,O.push (.cells (List.replicate n y))):=by
 simp only[m_,h,h2,Option.map_some,anj];rw[if_pos ⟨Int.natCast_nonneg _,Int.le_refl _,by omega,by rw[<-Int.natCast_mul];omega,Nat.zero_lt_one⟩,Nat.mul_one]
 congr 4
 apply List.ext_getElem?;intro i;simp only[iS,ank,List.getElem?_replicate];by_cases h:i<n
 ·rw[List.getElem?_range h,if_pos h];simp[Nat.mod_one]
 ·rw[List.getElem?_eq_none (by simp;omega),if_neg h];rfl
theorem JD {a b:Ky} (h:cQ a=cQ b):a=b:=by
 obtain⟨a1,a2,a3,a4⟩:=a;obtain⟨b1,b2,b3,b4⟩:=b;simp only[cQ,List.cons.injEq,and_true]at h;obtain⟨rfl,rfl,rfl,rfl⟩:=h;rfl
theorem acY {M:fG} {K:List Ky} (h:M.map (·.1)=K.map cQ) (k:Ky):(iC (cQ k) M).isSome=K.contains k:=by
 have h1:(iC (cQ k) M).isSome=(M.map (·.1)).any (· ==cQ k):=by
  unfold iC;rw[Option.isSome_map,List.any_map,ani,List.find?_isSome,anp];rfl
 rw[h1,h,List.any_map,List.contains_eq_any_beq,ani,anp,anp];constructor
 ·rintro⟨x,hx,e⟩;exact⟨x,hx,by simpa using(JD (eq_of_beq e)).symm⟩
 ·rintro⟨x,hx,e⟩;exact⟨x,hx,by rw[eq_of_beq e];simp⟩
set_option maxHeartbeats 4000000 in
theorem YA (L:List Bn) (tk:Tok) (hL:L.length<=1000000) (hk:∀b∈L,∀s∈cQ b.k,s.length<=maxLen) (O:VH):VF Tryz.prog 118 [.sl L.length (L.flatMap eB) tk] O (aD fun m O'=>∃vb lb cb mp,m= .ptr vb 0/\Vd O O' vb lb cb mp L tk (nv L).1 (nv L).2.1):=by
 have jQ:=fun O'=>JC (tab:=bY Tryz.prog) T69 T4 O' L.length (by omega) (by omega)
 have hlen:=aV jg L;have ib:dy (bY Tryz.prog) 22 (.sl L.length (L.flatMap eB) tk)=some (.v (.int .i64 L.length)):=bR B6;have k8:∀a b c,Fp (kU [(0,1),(1,1),(2,1),(3,1)]) [.sl L.length (L.flatMap eB) tk,.sl 0 [] .nil,.sl 0 [] .nil,.v (.map none)] (.bB a 0 L.length L.length) [(2,.bB b 0 L.length L.length),(3,.map c)] (some (1,1))=some [.sl L.length (L.flatMap eB) tk,.bB a 0 L.length L.length,.bB b 0 L.length L.length,.map c]:=fun _ _ _=>rfl
 refine υ 90 [.tmp 2] Tryz.func118 ?_;refine κ @dk ?_;refine Θ [3,0] (fun x:Nat×Nat×Nat×Nat=>[.ptr x.1 0,.sl L.length (L.flatMap eB) tk]) (fun x O'=>O.Ge O'/\O'.hp x.1=some (.cells [.sl L.length (L.flatMap eB) tk,.bB x.2.1 0 L.length L.length,.bB x.2.2.1 0 L.length L.length,.map x.2.2.2])/\O'.hp x.2.1=some (.cells (List.replicate L.length (mb false)))/\O'.hp x.2.2.1=some (.cells (List.replicate L.length (mb false)))/\O'.hp x.2.2.2=some (.map [] 0)/\(O.N<=x.1/\O.N<=x.2.1/\O.N<=x.2.2.1/\O.N<=x.2.2.2)/\(x.2.1<x.1/\x.2.2.1<x.1/\x.2.2.2<x.1/\x.2.1≠x.2.2.1/\x.2.1≠x.2.2.2/\x.2.2.1≠x.2.2.2/\x.1<O'.N)) ?_ ?_
 ·refine VC.qO [8,9,10] (fun O'=>True) (trivial) ?_;refine ae.ar 0 ?_;refine ab @dk ?_;refine ae.ar 1 ?_;refine ab @dk ?_;refine ae.ar 2 ?_;refine ao @dk @ib ?_;refine ae.ar 4 ?_;refine ab @dk ?_;refine ae.ar 5 ?_;refine ao @dk @ib ?_;refine ae.acv (i:=3) (j:=6) (k:=7) ?_ ?_ ?_
  ·refine aL.o1 ?_;refine ao @dk @jQ ?_;refine ae.pair (i:=6) (j:=7) ?_ ?_
   ·refine aL.o1 ?_;refine ao @dk @jQ ?_;refine ae.op (i:=7) ?_;refine ao @dk @jQ ?_;obtain⟨F,eF⟩:∃F,F=((O.push (.cells (List.replicate L.length (.v (.bool false))))).push (.cells (List.replicate L.length (.v (.bool false))))).push (.map [] 0):=⟨_,rfl⟩
    rw[<-eF];obtain⟨gF,nF,aF,bF,cF⟩:=lx _ _ _ eF;clear eF;refine ae.bP [(8,.one),(9,.one),(10,.one)] ?_;refine ao @dk @k8 ?_;refine aA.mk (F.N,O.N,(O.N+1),(O.N+2)) ⟨gF.push _,Ξ _ _,(Υ (k:=O.N) F _ (by omega)).trans aF,(Υ (k:=(O.N+1)) F _ (by omega)).trans bF,(Υ (k:=(O.N+2)) F _ (by omega)).trans cF,?_,?_⟩
    ·show O.N<=F.N/\O.N<=O.N/\O.N<=(O.N+1)/\O.N<=(O.N+2);omega
    ·show O.N<F.N/\(O.N+1)<F.N/\(O.N+2)<F.N/\O.N≠(O.N+1)/\O.N≠(O.N+2)/\(O.N+1)≠(O.N+2)/\F.N<F.N+1;omega
   ·refine aL.o1 ?_;refine ao @dk @jQ ?_;refine ae.op (i:=6) ?_;refine ao @dk @jQ ?_;obtain⟨F,eF⟩:∃F,F=((O.push (.cells (List.replicate L.length (.v (.bool false))))).push (.map [] 0)).push (.cells (List.replicate L.length (.v (.bool false)))):=⟨_,rfl⟩
    rw[<-eF];obtain⟨gF,nF,aF,bF,cF⟩:=lx _ _ _ eF;clear eF;refine ae.bP [(8,.one),(9,.one),(10,.one)] ?_;refine ao @dk @k8 ?_;refine aA.mk (F.N,O.N,(O.N+2),(O.N+1)) ⟨gF.push _,Ξ _ _,(Υ (k:=O.N) F _ (by omega)).trans aF,(Υ (k:=(O.N+2)) F _ (by omega)).trans cF,(Υ (k:=(O.N+1)) F _ (by omega)).trans bF,?_,?_⟩
    ·show O.N<=F.N/\O.N<=O.N/\O.N<=(O.N+2)/\O.N<=(O.N+1);omega
    ·show O.N<F.N/\(O.N+2)<F.N/\(O.N+1)<F.N/\O.N≠(O.N+2)/\O.N≠(O.N+1)/\(O.N+2)≠(O.N+1)/\F.N<F.N+1;omega
  ·refine aL.o1 ?_;refine ao @dk @jQ ?_;refine ae.pair (i:=3) (j:=7) ?_ ?_
   ·refine aL.o1 ?_;refine ao @dk @jQ ?_;refine ae.op (i:=7) ?_;refine ao @dk @jQ ?_;obtain⟨F,eF⟩:∃F,F=((O.push (.cells (List.replicate L.length (.v (.bool false))))).push (.cells (List.replicate L.length (.v (.bool false))))).push (.map [] 0):=⟨_,rfl⟩
    rw[<-eF];obtain⟨gF,nF,aF,bF,cF⟩:=lx _ _ _ eF;clear eF;refine ae.bP [(8,.one),(9,.one),(10,.one)] ?_;refine ao @dk @k8 ?_;refine aA.mk (F.N,(O.N+1),O.N,(O.N+2)) ⟨gF.push _,Ξ _ _,(Υ (k:=(O.N+1)) F _ (by omega)).trans bF,(Υ (k:=O.N) F _ (by omega)).trans aF,(Υ (k:=(O.N+2)) F _ (by omega)).trans cF,?_,?_⟩
    ·show O.N<=F.N/\O.N<=(O.N+1)/\O.N<=O.N/\O.N<=(O.N+2);omega
    ·show(O.N+1)<F.N/\O.N<F.N/\(O.N+2)<F.N/\(O.N+1)≠O.N/\(O.N+1)≠(O.N+2)/\O.N≠(O.N+2)/\F.N<F.N+1;omega
   ·refine aL.o1 ?_;refine ao @dk @jQ ?_;refine ae.op (i:=3) ?_;refine ao @dk @jQ ?_;obtain⟨F,eF⟩:∃F,F=((O.push (.cells (List.replicate L.length (.v (.bool false))))).push (.map [] 0)).push (.cells (List.replicate L.length (.v (.bool false)))):=⟨_,rfl⟩
    rw[<-eF];obtain⟨gF,nF,aF,bF,cF⟩:=lx _ _ _ eF;clear eF;refine ae.bP [(8,.one),(9,.one),(10,.one)] ?_;refine ao @dk @k8 ?_;refine aA.mk (F.N,(O.N+2),O.N,(O.N+1)) ⟨gF.push _,Ξ _ _,(Υ (k:=(O.N+2)) F _ (by omega)).trans cF,(Υ (k:=O.N) F _ (by omega)).trans aF,(Υ (k:=(O.N+1)) F _ (by omega)).trans bF,?_,?_⟩
    ·show O.N<=F.N/\O.N<=(O.N+2)/\O.N<=O.N/\O.N<=(O.N+1);omega
    ·show(O.N+2)<F.N/\O.N<F.N/\(O.N+1)<F.N/\(O.N+2)≠O.N/\(O.N+2)≠(O.N+1)/\O.N≠(O.N+1)/\F.N<F.N+1;omega
  ·refine aL.o1 ?_;refine ao @dk @jQ ?_;refine ae.pair (i:=3) (j:=6) ?_ ?_
   ·refine aL.o1 ?_;refine ao @dk @jQ ?_;refine ae.op (i:=6) ?_;refine ao @dk @jQ ?_;obtain⟨F,eF⟩:∃F,F=((O.push (.map [] 0)).push (.cells (List.replicate L.length (.v (.bool false))))).push (.cells (List.replicate L.length (.v (.bool false)))):=⟨_,rfl⟩
    rw[<-eF];obtain⟨gF,nF,aF,bF,cF⟩:=lx _ _ _ eF;clear eF;refine ae.bP [(8,.one),(9,.one),(10,.one)] ?_;refine ao @dk @k8 ?_;refine aA.mk (F.N,(O.N+1),(O.N+2),O.N) ⟨gF.push _,Ξ _ _,(Υ (k:=(O.N+1)) F _ (by omega)).trans bF,(Υ (k:=(O.N+2)) F _ (by omega)).trans cF,(Υ (k:=O.N) F _ (by omega)).trans aF,?_,?_⟩
    ·show O.N<=F.N/\O.N<=(O.N+1)/\O.N<=(O.N+2)/\O.N<=O.N;omega
    ·show(O.N+1)<F.N/\(O.N+2)<F.N/\O.N<F.N/\(O.N+1)≠(O.N+2)/\(O.N+1)≠O.N/\(O.N+2)≠O.N/\F.N<F.N+1;omega
   ·refine aL.o1 ?_;refine ao @dk @jQ ?_;refine ae.op (i:=3) ?_;refine ao @dk @jQ ?_;obtain⟨F,eF⟩:∃F,F=((O.push (.map [] 0)).push (.cells (List.replicate L.length (.v (.bool false))))).push (.cells (List.replicate L.length (.v (.bool false)))):=⟨_,rfl⟩
    rw[<-eF];obtain⟨gF,nF,aF,bF,cF⟩:=lx _ _ _ eF;clear eF;refine ae.bP [(8,.one),(9,.one),(10,.one)] ?_;refine ao @dk @k8 ?_;refine aA.mk (F.N,(O.N+2),(O.N+1),O.N) ⟨gF.push _,Ξ _ _,(Υ (k:=(O.N+2)) F _ (by omega)).trans cF,(Υ (k:=(O.N+1)) F _ (by omega)).trans bF,(Υ (k:=O.N) F _ (by omega)).trans aF,?_,?_⟩
    ·show O.N<=F.N/\O.N<=(O.N+2)/\O.N<=(O.N+1)/\O.N<=O.N;omega
    ·show(O.N+2)<F.N/\(O.N+1)<F.N/\O.N<F.N/\(O.N+2)≠(O.N+1)/\(O.N+2)≠O.N/\(O.N+1)≠O.N/\F.N<F.N+1;omega
 rintro⟨vb,lb,cb,mp⟩ O1 ⟨aI,ji,q_,eS,Bx,y_,hhi⟩;dsimp only at ji q_ eS Bx y_ hhi ⊢;clear jQ k8;refine Θ [3] (fun _:Unit=>[.ptr vb 0]) (fun _ O'=>Vd O O' vb lb cb mp L tk (nv L).1 (nv L).2.1) ?_ ?_
 ·refine ξ @dk @ib ?_;refine τ ?_;refine Γ [20] [3,18,19] (fun j:Nat=>[mi j]) (fun j O'=>j<=L.length/\O1.N<=O'.N/\(∀i,i<O1.N->i≠lb->i≠cb->i≠mp->O'.hp i=O1.hp i)/\O'.hp lb=some (.cells (((nv (L.take j)).2.1++List.replicate (L.length - j) false).map mb))/\O'.hp cb=some (.cells (((nv (L.take j)).1++List.replicate (L.length - j) false).map mb))/\∃M ck,O'.hp mp=some (.map (cP M) ck)/\nT 4 M/\M.map (·.1)=(nv (L.take j)).2.2.map cQ) (fun j=>L.length - j) (0) ?_ ?_
  ·exact⟨anc _,adX _,fun _ _ _ _ _=>rfl,by rw[q_];simp[nv],by rw[eS];simp[nv],[],0,Bx,⟨by simp,by simp⟩,by simp[nv]⟩
  rintro j O3 ⟨hj,gy,Ns,n8,fy,M,ck,hm3,hM,YB⟩;by_cases aM:j<L.length;rotate_left
  ·obtain rfl:j=L.length:=by omega
   rw[List.take_length,Nat.sub_self,List.replicate_zero,ajm]at n8 fy;refine ν @dk ?_;exact aA.mk () ⟨⟨by have:=aI.N;omega,fun i hi=>(Ns i (by have:=aI.N;omega) (by omega) (by omega) (by omega)).trans (aI.hp i hi)⟩,(Ns vb hhi.2.2.2.2.2.2 (by omega) (by omega) (by omega)).trans ji,n8,fy,y_,by omega⟩
  have cI:((j:Int)+1)=((j+1:Nat):Int):=by omega
  have bG:=ct jg L j aM;have dh:L.take (j+1)=L.take j++[L[j]]:=by rw[am9 aM]
  have tO:=hk L[j] (am6 aM);have mR:=JB (L.take j);rw[List.length_take,Nat.min_eq_left hj]at mR;have cX:=S4 (L.take j) L[j];rw[<-dh]at cX;rw[show L.length - j=(L.length - (j+1))+1 by omega,List.replicate_succ]at n8 fy;generalize L[j]=b at*;generalize hDD:nv (L.take j)=D at*;generalize hr:L.length - (j+1)=r at*;obtain⟨C,V,K⟩:=D;dsimp only at mR n8 fy YB;obtain⟨up,dp,od,⟨k1,k2,k3,k4⟩,v,hd,rv,nn,iv,LH,s,rd⟩:=b;simp only[eB,aq,bw]at bG;have hv3:=(Ns vb hhi.2.2.2.2.2.2 (by omega) (by omega) (by omega)).trans ji;refine κ @dk ?_;refine κ @dk ?_;refine χ (τ ?_);refine ξ @dk @bG ?_;refine VC.al ?_;rintro O4 ⟨aY,jo,gO⟩;have BH:=aY.at hv3;have ra:=aY.at n8;have fR:=aY.at fy;have Sw:=aY.at hm3;have ia:C.length=j:=mR.1
  have gL:∀(W:List Bool) (a:Bool),W.length=j->((W++false::List.replicate r false).map mb).set j (.v (.bool a))=(W++a::List.replicate r false).map mb:=fun W a h=>by
   rw[List.map_append,ane,List.set_append_right _ _ (by rw[ahL,h];exact adX _),ahL,h,Nat.sub_self];simp[mb]
  have hsV:=fun a=>gL V a mR.2
  have R4:∀u,u<j->((C++false::List.replicate r false).map mb)[u]?=some (.v (.bool (C.getD u false))):=fun u hu=>by
   rw[ank,anl (by omega),am7,adY (by omega)];rfl
  have Ca:(List.map mb (V++false::List.replicate r false)).length=j+1+r:=by simp;omega
  have RB:(List.map mb (C++false::List.replicate r false)).length=j+1+r:=by simp;omega
  generalize kc:GM C ⟨up,dp,od,⟨k1,k2,k3,k4⟩,v,hd,rv,nn,iv,LH,s,rd⟩=al at*;have alF:=kc;simp only[jH,alF]at cX;unfold GM at kc;dsimp only at kc;rw[ia]at kc;refine Θ [3,4,5,18,19,20] (fun _:Unit=>[.ptr vb 0,.v (.int .i64 j),.ptr O3.N 0,.sl L.length (L.flatMap eB) tk,.v (.int .i64 L.length),.v (.int .i64 j)]) (fun _ O'=>O'=O4.set lb (.cells ((V++al::List.replicate r false).map mb))) ?_ ?_
  ·refine WC.bP (.held [29]) [(0,.rd),(1,.rd),(2,.rd),(3,.rd),(4,.rd),(5,.rd),(6,.rd),(7,.rd),(8,.rd),(9,.rd),(10,.rd),(11,.rd),(12,.rd),(13,.rd),(14,.rd),(15,.rd),(16,.rd),(17,.rd),(18,.rd),(19,.rd),(20,.rd),(21,.rd),(22,.rd),(23,.rd),(24,.rd),(25,.rd),(26,.rd),(27,.rd),(28,.rd),(29,.one)] ?_;by_cases h0:j=0
   ·have e0:((j:Int)==0)=true:=by simp[h0]
    have ea:al=true:=by rw[<-kc];simp[h0]
    subst ea;refine kw7 @dk @BH @jo @e0 @ra @Ca @hsV ?_;exact aA.mk () rfl
   have e0:((j:Int)==0)=false:=by simpa using h0
   rw[show(j==0)=false by simpa using h0,Bool.false_or]at kc;by_cases h1:0<=up;rotate_left
   ·have e1:decide (0<=up)=false:=decide_eq_false h1;have e2:decide (up>=0)=false:=e1;rw[e1,am5]at kc;subst kc;refine kw9 @dk @BH @jo @e0 @e1 @e2 @ra @Ca @hsV ?_;exact aA.mk () rfl
   obtain⟨u,rfl⟩:=Int.eq_ofNat_of_zero_le h1;have e1:decide (0<=(u:Int))=true:=decide_eq_true h1;have e2:decide ((u:Int)>=0)=true:=e1;rw[e1,anf]at kc;by_cases h2:u<j;rotate_left
   ·have e3:decide ((u:Int)<j)=false:=decide_eq_false (by omega);rw[e3,am5]at kc;subst kc;refine kw9 @dk @BH @jo @e0 (Qn e1 e2) @e3 @ra @Ca @hsV ?_;exact aA.mk () rfl
   have e3:decide ((u:Int)<j)=true:=decide_eq_true (by omega);rw[e3,anf]at kc;have S5:=R4 u h2;rw[anj]at kc;rw[kc]at S5;refine kw9 dk BH jo e0 (Qn e1 e2) e3 (Qn ra Ca) (Qn fR RB) (Qn S5 hsV) ?_;exact aA.mk () rfl
  rintro _ O5 e5;have H6:O5.hp lb=some (.cells ((V++al::List.replicate r false).map mb)):=by rw[e5];exact ρ _ _ _
  have gM:∀i,i≠lb->O5.hp i=O4.hp i:=fun i h=>by rw[e5];exact π _ _ h
  have pR:=(gM vb (by omega)).trans BH;have mD:=(gM O3.N (by omega)).trans jo;have gd:=(gM cb (by omega)).trans fR;have zO:=(gM mp (by omega)).trans Sw;have eU:O5.N=O4.N:=by rw[e5];rfl
  have hsC:=gL C true ia;clear e5 BH jo fR Sw ra Ca hsV R4 gL;have eD:=acY YB ⟨k1,k2,k3,k4⟩;refine χ ?_;refine WC.bP (.held []) [(0,.rd),(1,.rd),(2,.rd),(3,.rd),(4,.rd),(5,.rd),(6,.rd),(7,.rd),(8,.rd),(9,.rd),(10,.rd),(11,.rd)] ?_;refine aG @dk @pR @mD ?_;refine VL.hold (.inr rfl) rfl rfl (δ oL aa (l:=cQ ⟨k1,k2,k3,k4⟩) (te:=⟨_,1,8,[.v (.int .i64 0)]⟩) Tryz.underlying37 T3 rfl rfl zO hM rfl rfl tO) (WL.sound aa ?_)
  have hgV:((V++al::List.replicate r false).map mb)[j]?=some (.v (.bool al)):=by
   rw[ank,List.getElem?_append_right (by omega),mR.2,Nat.sub_self];rfl
  have Ca:(List.map mb (V++al::List.replicate r false)).length=j+1+r:=by simp;omega
  have YC:∀i,i<O1.N->i≠lb->i≠cb->i≠mp->O5.hp i=O1.hp i:=fun i a1 a2 a3 a4=>(gM i a2).trans ((aY.hp i (by omega)).trans (Ns i a1 a2 a3 a4))
  have amR:O3.N<=O5.N:=by rw[eU,gO];omega
  generalize JE:K.contains (⟨k1,k2,k3,k4⟩:Ky)=con at*;cases gK:iC (cQ ⟨k1,k2,k3,k4⟩) M with
  | some m=>
    rw[gK]at eD;obtain rfl:con=true:=eD.symm;refine ab @dk ?_;cases al
    ·refine θ (iN @dk @pR @H6 @Ca @hgV ?_);refine ν @dk ?_;refine ο @dk @cI ?_;refine az.N (j+1) ⟨aM,by omega,YC,?_,?_,M,ck,zO,hM,?_⟩
     ·rw[cX,hr,H6];simp
     ·rw[cX,hr,gd];simp
     ·rw[cX];simpa using YB
    ·refine θ (iN @dk @pR @H6 @Ca @hgV ?_);refine ν @dk ?_;refine ο @dk @cI ?_;refine az.N (j+1) ⟨aM,by omega,YC,?_,?_,M,ck,zO,hM,?_⟩
     ·rw[cX,hr,H6];simp
     ·rw[cX,hr,gd];simp
     ·rw[cX];simpa using YB
  | none=>
    rw[gK]at eD;obtain rfl:con=false:=eD.symm;refine ab @dk ?_;cases al
    ·refine θ (iN @dk @pR @H6 @Ca @hgV ?_);refine ν @dk ?_;refine ο @dk @cI ?_;refine az.N (j+1) ⟨aM,by omega,YC,?_,?_,M,ck,zO,hM,?_⟩
     ·rw[cX,hr,H6];simp
     ·rw[cX,hr,gd];simp
     ·rw[cX];simpa using YB
    ·refine θ (iN @dk @pR @H6 @Ca @hgV ?_)
     have jY:(M.any fun p=>p.1==cQ ⟨k1,k2,k3,k4⟩)=false:=by
      unfold iC at gK;rw[Option.map_eq_none_iff,List.find?_eq_none]at gK;rw[List.any_eq_false];exact gK
     refine VC.Kb rfl ?_;refine θ (iN @dk @pR @gd @RB @hsC ?_);refine VC.gen ?_;intro O6 e6;have ov:∀i,i≠cb->O6.hp i=O5.hp i:=fun i h=>by rw[e6];exact π _ _ h
     have Cv:O6.hp cb=some (.cells ((C++true::List.replicate r false).map mb)):=by rw[e6];exact ρ _ _ _
     have mU:O6.N=O5.N:=by rw[e6];rfl
     clear e6;have hv6:=(ov vb (by omega)).trans pR;have nI:=(ov O3.N (by omega)).trans mD;have Yn:=(ov mp (by omega)).trans zO;refine WC.bP (.held [7]) [(0,.rd),(1,.rd),(2,.rd),(3,.rd),(4,.rd),(5,.rd),(6,.rd),(7,.one)] ?_;refine aG @dk @hv6 @nI ?_;refine VL.oE rfl rfl (oD.ja oL (l:=cQ ⟨k1,k2,k3,k4⟩) (b:=mp) (ck:=ck) (M:=M) Tryz.underlying37 rfl Yn hM rfl rfl tO rfl) (fun brk hb i hi=>?_) (WL.sound aa ?_)
     ·cases hb
      rcases i with _ | _ | _ | _ | _ | _ | _ | _ | i<;>first
       | rfl
       | (exfalso;revert hi;simp)
     have kZ:=qz (y:=.v (.int .i64 j)) (ck:=ck) hM (l:=cQ ⟨k1,k2,k3,k4⟩) rfl tO;unfold ja at kZ;unfold ja KB;rw[jY]at kZ ⊢;refine ab @dk ?_;refine VC.gen ?_;intro O7 e7;have wM:∀i,i≠mp->O7.hp i=O6.hp i:=fun i h=>by rw[e7];exact π _ _ h
     have hm7:O7.hp mp=some (.map (cP (M++[(cQ ⟨k1,k2,k3,k4⟩,.v (.int .i64 j),ck)])) (ck+1)):=by rw[e7];exact ρ _ _ _
     have uY:O7.N=O6.N:=by rw[e7];rfl
     clear e7;refine ο @dk @cI ?_;refine az.N (j+1) ⟨aM,by omega,fun i a1 a2 a3 a4=>(wM i a4).trans ((ov i a3).trans (YC i a1 a2 a3 a4)),?_,?_,_,_,hm7,kZ,?_⟩
     ·rw[cX,hr,wM lb (by omega),ov lb (by omega),H6];simp
     ·rw[cX,hr,wM cb (by omega),Cv];simp
     ·rw[cX];simp[YB]
 rintro _ O2 h2;refine κ @dk ?_;refine ν @dk ?_;exact⟨vb,lb,cb,mp,rfl,h2⟩
set_option linter.defProp false in
def cU:=Qn dk<|Qn FC<|Qn Xk lN
structure Ch where
 k:Ky
 at':Int
 v:Bs
 s:Int
 deriving DecidableEq
def fz (c:Ch):List MV:=[.str c.k.g,.str c.k.a,.str c.k.t,.str c.k.c,mi c.at',.str c.v,mi c.s]
theorem jR (c:Ch):(fz c).length=7:=rfl
def oN (x y:Ky):Bool:=(x.g==y.g)&&((x.a==y.a)&&((x.t==y.t)&&((x.c==y.c)&&true)))
theorem PJ (x y:Ky):oN x y=(x==y):=by
 obtain⟨a,b,c,d⟩:=x;obtain⟨a',b',c',d'⟩:=y;rw[ani];simp[oN]
theorem PK {α :Type} {f: α ->List MV} {sz:Nat} (hf:∀x,(f x).length=sz):∀(L:List α) (k:Nat),(L.take k).flatMap f=(L.flatMap f).take (k*sz)
 | [],k=>by simp
 | x::L,0=>by simp
 | x::L,k+1=>by
   rw[List.take_succ_cons,anm,anm,PK hf L k,List.take_append,hf,Nat.succ_mul,Nat.add_sub_cancel,List.take_of_length_le (l:=f x) (by rw[hf];exact Nat.le_add_left _ _)]
theorem afL (L:List Ch) (tk:Tok) (id:FuncId) (cs:List MV) (p:Ch->Bool) (O:VH) (hid:db Tryz.prog id=true) (hc:∀x∈L,∀O',O.Ge O'->VF Tryz.prog id ([.agg (fz x)]++cs) O' (aD fun m mz=>m=mb (p x)/\O'.Ge mz)) (hn:L.length<=1000000):
  VF Tryz.prog 43 [.sl L.length (L.flatMap fz) tk,.func (.func id) [] cs] O (aD fun m O'=>m=mi (idxFrom p 0 L)/\O.Ge O'):=by
 have dH:=aV jR L;refine Δ 19 [.tmp 4] Tryz.func43 ?_;refine ab @cU ?_;refine WC.jm [8] [0,1,7] (fun j:Nat=>[mi j]) (fun j O'=>O.Ge O'/\j<=L.length/\idxFrom p 0 L=idxFrom p j (L.drop j)) (fun j=>L.length - j) (0) ?_ ?_
 ·exact⟨VH.Ge.refl _,anc _,rfl⟩
 rintro j O2 ⟨aB,hj,dP⟩;by_cases h2:j<L.length
 ·have bG:=ct jR L j h2;have hcj:=hc L[j] (am6 h2) O2 aB;rw[am8 h2,idxFrom]at dP;generalize L[j]=y at*;refine ao @cU @bG ?_;refine ah.rt hcj ?_ (hb:=hid);rintro _ O3 ⟨rfl,aH⟩;cases hi:p y
  ·rw[hi]at dP;refine ab @cU ?_;exact az.N (j+1) ⟨aB.trans aH,by omega,dP⟩
  ·rw[hi,if_pos rfl]at dP;rw[dP];refine ab @cU ?_;exact aB.trans aH
 ·obtain rfl:j=L.length:=by omega
  rw[List.drop_of_length_le (by omega)]at dP;rw[dP];refine ab @cU ?_;exact⟨rfl,aB⟩
def rT (s:Int):Int:=if s<1\/s>5 then 0 else 6 - s
def BI (a b:Int):Int:=if rT b>rT a then b else a
theorem PL (s:Int) (O:VH):VF Tryz.prog 148 [mi s] O (aD fun m O'=>m=mi (rT s)/\O'=O):=by
 unfold rT;simp only[aq];refine υ 11 [.tmp 2] Tryz.func148 ?_;refine κ @cU ?_;by_cases h1:s<1
 ·have e1:decide (s<1)=true:=decide_eq_true h1;rw[if_pos (.inl h1)];refine ξ @cU @e1 ?_;trivial
 have e1:decide (s<1)=false:=decide_eq_false h1;by_cases h2:s>5
 ·have e2:decide (s>5)=true:=decide_eq_true h2;have e3:decide (5<s)=true:=e2;rw[if_pos (.inr h2)];refine θ (cR @cU @e1 @e2 @e3 ?_);trivial
 have e2:decide (s>5)=false:=decide_eq_false h2;have e3:decide (5<s)=false:=e2;rw[if_neg (by omega)];refine θ (cR @cU @e1 @e2 @e3 ?_);refine κ @cU ?_;refine ν @cU ?_;trivial
theorem YD (a b:Int) (O:VH):VF Tryz.prog 120 [mi a,mi b] O (aD fun m O'=>m=mi (BI a b)/\O'=O):=by
 unfold BI;have ha:=PL a O;have hb:=PL b O;simp only[aq]at ha hb ⊢;refine υ 12 [.tmp 4] Tryz.func120 ?_;refine κ @cU ?_;refine κ @cU ?_;refine ah.rt hb ?_;rintro _ Ox ⟨rfl,eO⟩;rw[eO];clear eO Ox
 refine ab @cU ?_;refine ah.rt ha ?_;rintro _ Ox ⟨rfl,eO⟩;rw[eO];clear eO Ox
 by_cases h:rT b>rT a
 ·have e1:decide (rT b>rT a)=true:=decide_eq_true h;have e2:decide (rT a<rT b)=true:=e1;rw[if_pos h];refine aG @cU @e1 @e2 ?_;trivial
 ·have e1:decide (rT b>rT a)=false:=decide_eq_false h;have e2:decide (rT a<rT b)=false:=e1;rw[if_neg h];refine aG @cU @e1 @e2 ?_;refine κ @cU ?_;refine ν @cU ?_;trivial
def yM (b:Bn) (M:List (Bn×Bool)):Int:=M.foldl (fun s p=>if decide (b.dp>1)&&(p.2&&oN p.1.k b.k)then BI s p.1.s else s) b.s
def GN (L:List Bn) (C V:List Bool):Nat->List Ch
 | 0=>[]
 | j+1=>GN L C V j++match L[j]? with
   | some b=>if C.getD j false then[⟨b.k,j,b.v,yM b (L.zip V)⟩]else[]
   | none=>[]
def cO (L:List Bn):List Ch:=GN L (nv L).1 (nv L).2.1 L.length
theorem PM (L:List Bn) (C V:List Bool):∀j,(GN L C V j).length<=j
 | 0=>adX _
 | j+1=>by
   have:=PM L C V j;rw[GN,agc];split
   ·split<;>simp<;>omega
   ·simp;omega
theorem S6 (b:Bn) (L:List Bn) (V:List Bool) (hV:V.length=L.length):∃g:Nat->Int,g 0=b.s/\(∀k (h:k<L.length),g (k+1)=if decide (b.dp>1)&&(V.getD k false&&oN L[k].k b.k)then BI (g k) L[k].s else g k)/\g L.length=yM b (L.zip V):=by
 refine⟨fun k=>yM b ((L.take k).zip (V.take k)),by simp[yM],fun k h=>?_,by dsimp only;rw[List.take_length,List.take_of_length_le (Nat.le_of_eq hV)]⟩;dsimp only;rw[<-am9 h, <-am9 (show k<V.length by omega),List.zip_append (by simp;omega),am7,adY (show k<V.length by omega)];unfold yM;rw[List.foldl_append];simp
def YE:Prop:=∀(L:List Bn) (tk:Tok) (O:VH),L.length<=1000000->(∀b∈L,∀s∈cQ b.k,s.length<=maxLen)->VF Tryz.prog 96 [.sl L.length (L.flatMap eB) tk] O (aD fun m O'=>(∃t,m= .sl (cO L).length ((cO L).flatMap fz) t)/\O.Ge O')
def S7 (c:UInt8):Bool:=jZ c||c==42
structure lZ (s:Bs):Prop where
 ne:s≠[]
 all:∀c∈s,S7 c=true
structure BJ (s:Bs):Prop where
 ne:s≠[]
 hd:ma (s.headD 0)=true
 all:∀c∈s,jZ c=true
theorem BK {c:UInt8} (h:S7 c=true):c≠60/\c≠38/\c≠62/\c≠13/\ng c=true/\mF c=false:=by
 have:∀c:UInt8,S7 c=true->(c≠60/\c≠38/\c≠62/\c≠13/\ng c=true/\mF c=false):=by
  intro c h;simp only[S7,jZ,ma,qA,I0,Bool.or_eq_true,ang,decide_eq_true_eq,beq_iff_eq, <-UInt8.toNat_inj]at h;simp only[ng,mF,ne_eq, <-UInt8.toNat_inj,decide_eq_true_eq,decide_eq_false_iff_not];have e1:(60:UInt8).toNat=60:=rfl;have e2:(38:UInt8).toNat=38:=rfl;have e3:(62:UInt8).toNat=62:=rfl;have e4:(13:UInt8).toNat=13:=rfl;have e5:(42:UInt8).toNat=42:=rfl;rw[e5]at h;rw[e1,e2,e3,e4];omega
 exact this c h
theorem acZ {c:UInt8} (h:ma c=true):c≠33/\c≠63/\c≠47:=by
 simp only[ma,decide_eq_true_eq]at h;simp only[ne_eq, <-UInt8.toNat_inj];have e1:(33:UInt8).toNat=33:=rfl;have e2:(63:UInt8).toNat=63:=rfl;have e3:(47:UInt8).toNat=47:=rfl;rw[e1,e2,e3];omega
theorem GO {s:Bs} (h:∀c∈s,S7 c=true):ni false s=s:=by
 induction s with
 | nil=>rfl
 | cons c s ih=>
   have hc:=BK (h c (adW ..));have ih:=ih fun d hd=>h d (ahJ _ hd)
   unfold ni at ih ⊢;rw[anm,ih];have:pZ false c=[c]:=by simp[pZ,hc.1,hc.2.1,hc.2.2.1,hc.2.2.2.1]
   rw[this];rfl
theorem kH {t:Bs} {o:Nat} {a b:Bs} (h:t.drop o=a++b):t.drop (o+a.length)=b:=by
 rw[<-List.drop_drop,h,List.drop_left]
theorem ph {t:Bs} {o:Nat} {c:UInt8} {b:Bs} (h:t.drop o=c::b):o<t.length:=by
 have:=congrArg List.length h;rw[anq,Zj]at this;omega
theorem YF {t:Bs} {o:Nat} {a:Bs} (h:t.drop o=a) (ha:a≠[]):t.length=o+a.length:=by
 have:=congrArg List.length h;rw[anq]at this;have:a.length≠0:=fun e=>ha (ahO e)
 omega
theorem ac0 {p:UInt8->Bool} {n:Bs} {c:UInt8} {r:Bs} (h:∀x∈n,p x=true) (hc:p c=false):(n++c::r).takeWhile p=n:=by
 induction n with
 | nil=>simp[hc]
 | cons x n ih=>rw[zP,List.takeWhile_cons,h x (adW ..),if_pos rfl,ih fun y hy=>h y (ahJ _ hy)]
theorem PN {n:Bs} {c:UInt8} {r:Bs} (h:BJ n) (hc:jZ c=false):kB (n++c::r)=n.length:=by
 unfold kB;rw[ac0 h.all hc];obtain⟨x,m,rfl⟩:∃x m,n=x::m:=by cases n with | nil=>exact absurd rfl h.ne | cons x m=>exact⟨x,m,rfl⟩
 have:=h.hd;simp only[List.headD_cons]at this;simp[this]
theorem JF {t:Bs} {o:Nat} {n:Bs} {c:UInt8} {r:Bs} {e:Int} (hd:t.drop o=n++c::r) (h:BJ n) (hc:jZ c=false):jJ t o e= .ok (n,o+n.length):=by
 obtain⟨x,m,hx⟩:∃x m,n=x::m:=by cases n with | nil=>exact absurd rfl h.ne | cons x m=>exact⟨x,m,rfl⟩
 have eh:=ph (hd.trans (by rw[hx];rfl:_=x::(m++c::r)));unfold jJ;rw[if_neg (by omega),hd,PN h hc,if_neg (by rw[hx];simp),List.take_left]
theorem rf {s:Bs} {c d:UInt8} {p:Bs}:ey (c::s) (d::p)=(c==d&&ey s p):=by
 simp only[ey,Zj,List.take_succ_cons];rfl
theorem td {s:Bs}:ey s []=true:=by simp[ey]
theorem PO {t:Bs} {o:Nat} {c:UInt8} {r:Bs} (hd:t.drop o=c::r):jr t o [c]= .ok ((),o+1):=by
 unfold jr;rw[if_neg (by have:=ph hd;omega),hd,rf,td,if_pos (by simp)];rfl
theorem ac1 {t:Bs} {o:Nat} {c:UInt8} {r:Bs} (hd:t.drop o=c::r) (hc:mF c=false):kO t o=0:=by
 unfold kO;rw[hd,List.takeWhile_cons,hc];rfl
theorem PQ:jZ 62=false:=by decide
theorem JG {t:Bs} {o:Nat} {n r:Bs} (h:BJ n) (hd:t.drop o=[60]++(n++62::r)):nq t o= .ok (⟨1,n,[],[],o⟩,o+(n.length+2)):=by
 obtain⟨x,m,hx⟩:∃x m,n=x::m:=by cases n with | nil=>exact absurd rfl h.ne | cons x m=>exact⟨x,m,rfl⟩
 have hf:=h.hd;rw[hx,List.headD_cons]at hf;obtain⟨h33,h63,XO⟩:=acZ hf;have n7:=kH hd;have iM:=kH n7;have hn:jJ t (o+1) 11= .ok (n,o+1+n.length):=JF n7 h PQ
 have bG:mf t (t.length+1 - (o+1+n.length)) (o+1+n.length) []= .ok ([],o+1+n.length):=by
  have hb:=ac1 iM (by decide);rw[al_]at hb;generalize t.length+1 - (o+1+n.length)=k;cases k with
  | zero=>rfl
  | succ k=>unfold mf;rw[hb,if_pos (.inl rfl),anr]
 rw[al_]at iM;have r9:t.drop o=60::x::(m++62::r):=by rw[hd,hx];rfl
 unfold nq se;simp only[r9,rf,td,beq_eq_false_iff_ne.2 h33,beq_eq_false_iff_ne.2 h63,beq_eq_false_iff_ne.2 XO,Bool.and_false,am5,Bool.and_true,anf,beq_self_eq_true,ajl,if_false,if_true,and_false];unfold wq;rw[hn];dsimp only;rw[bG];dsimp only;rw[iM,rf,td];rw[if_neg (by decide),PO iM];simp only[uS];rw[show o+1+n.length+1=o+(n.length+2) by omega]
theorem GQ {t:Bs} {o:Nat} {n r:Bs} (h:BJ n) (hd:t.drop o=[60,47]++(n++62::r)):nq t o= .ok (⟨3,n,[],[],o⟩,o+(n.length+3)):=by
 have n7:=kH hd;have iM:=kH n7;rw[show[(60:UInt8),47].length=2 from rfl]at n7 iM;have hn:jJ t (o+2) 11= .ok (n,o+2+n.length):=JF n7 h PQ;have hb:=ac1 iM (by decide);have r9:t.drop o=60::47::(n++62::r):=hd;unfold nq se;simp only[r9,rf,td,show((47:UInt8)==33)=false from rfl,show((47:UInt8)==63)=false from rfl,Bool.and_false,am5,Bool.and_true,anf,beq_self_eq_true,ajl,if_false,if_true,and_false];unfold rO;rw[hn];dsimp only;rw[hb,anr,PO iM];simp only[uS];rw[show o+2+n.length+1=o+(n.length+3) by omega]
theorem PR {t:Bs} {r:Bs}:∀(s:Bs) (k o:Nat) (acc:Bs),(∀c∈s,S7 c=true)->t.drop o=s++60::r->s.length<k->fe t 60 k o acc= .ok (acc++s,o+s.length)
 | s,0,_,_,_,_,hk=>by omega
 | [],k+1,o,acc,_,hd,_=>by
   have:=ph hd
   have hg:t[o]?=some 60:=by
    have h0:(t.drop o)[0]?=some 60:=by rw[hd];rfl
    simpa using h0
   unfold fe;rw[hg];dsimp only;rw[if_pos rfl,ajm,Qm,anr]
 | c::s,k+1,o,acc,h,hd,hk=>by
   have hg:t[o]?=some c:=by
    have h0:(t.drop o)[0]?=some c:=by rw[hd];rfl
    simpa using h0
   obtain⟨NR,h38,_,_,vU,_⟩:=BK (h c (adW ..));unfold fe;rw[hg];dsimp only;rw[if_neg NR,if_neg h38,if_neg (by rw[vU];simp[NR]),PR s k (o+1) (acc++[c]) (fun d hd=>h d (ahJ _ hd)) (kH (a:=[c]) hd) (by rw[Zj]at hk;omega)];rw[ahM,Zj,show o+1+s.length=o+(s.length+1) by omega];rfl
theorem YG {t:Bs} {o:Nat} {s r:Bs} (h:lZ s) (hd:t.drop o=s++60::r):nq t o= .ok (⟨4,[],[],s,o⟩,o+s.length):=by
 obtain⟨x,m,hx⟩:∃x m,s=x::m:=by cases s with | nil=>exact absurd rfl h.ne | cons x m=>exact⟨x,m,rfl⟩
 obtain⟨NR,_⟩:=BK (h.all x (by rw[hx];exact adW ..));have hlen:=YF hd (by simp);rw[agc,Zj]at hlen;have hl:=PR s (t.length+1 - o) o [] h.all hd (by omega);have r9:t.drop o=x::(m++60::r):=by rw[hd,hx];rfl
 unfold nq se;simp only[r9,rf,td,beq_eq_false_iff_ne.2 NR,am5,ajl,if_false,and_false];rw[hl,Ma];rfl
mutual
def ri:Nd->Prop
 | .mk n a k t=>BJ n/\a=[]/\t=[]/\k≠[]/\((∃s,lZ s/\k=[.mk [] [] [] s])\/yN k)
def yN:List Nd->Prop
 | []=>True
 | x::r=>ri x/\yN r
end
mutual
def uA:Nd->Nat
 | .mk _ _ k _=>1+oy k
def oy:List Nd->Nat
 | []=>0
 | x::r=>max (uA x) (oy r)
end
def afM (K:List Nd) (L:List Tk):Prop:=∀(p:PS) (n:Bs) (a:List (Bs×Bs)) (K0:List Nd) (S:List (Bs×List (Bs×Bs)×List Nd)) (R:List Tk),p.st=(n,a,K0)::S->p.dn=false->p.cu+cc K<=4096->S.length+1+oy K<=64->
 ∃b,jO (L++R) p=jO R ⟨(n,a,K0++K)::S,p.cu+cc K,false,b,p.z⟩
theorem rj {x:Tk} {l:List Tk} {p q:PS} (h:kP x p= .ok q):jO (x::l) p=jO l q:=by rw[jO,h]
theorem GS {n:Bs} {o:Nat} {p:PS} (hd:p.dn=false) (hl:p.st.length<64) (hc:p.cu+1<=4096):kP ⟨1,n,[],[],o⟩ p= .ok ⟨(n,[],[])::p.st,p.cu+1,p.dn,false,p.z⟩:=by
 unfold kP sV;rw[if_neg (by dsimp only;decide),if_pos rfl,hd];simp only[ajl,if_false];rw[if_neg (by omega),if_neg (by omega)]
theorem Dt {n:Bs} {o:Nat} {p:PS} {a:List (Bs×Bs)} {K:List Nd} {S:List (Bs×List (Bs×Bs)×List Nd)} (h:p.st=(n,a,K)::S):kP ⟨3,n,[],[],o⟩ p= .ok (uw p):=by
 unfold kP;rw[if_neg (by dsimp only;decide),if_neg (by dsimp only;decide),if_neg (by dsimp only;decide),if_pos rfl,h];dsimp only;rw[if_pos rfl]
theorem S8 {s:Bs} {o:Nat} {p:PS} {n:Bs} {a:List (Bs×Bs)} {K:List Nd} {S:List (Bs×List (Bs×Bs)×List Nd)} (h:p.st=(n,a,K)::S) (hs:s≠[]) (ht:p.tx=false) (hc:p.cu+1<=4096):kP ⟨4,[],[],s,o⟩ p= .ok ⟨(n,a,K++[.mk [] [] [] s])::S,p.cu+1,p.dn,true,p.z⟩:=by
 unfold kP ob;rw[if_pos rfl,h];dsimp only;rw[if_neg hs,ht];simp only[ajl,if_false];rw[if_neg (by omega)];try rfl
theorem zS {n:Bs} {k:List Nd} (hn:n≠[]) (hk:k≠[]):cG (.mk n [] k [])=[60]++(n++62::(aX k++([60,47]++(n++[62])))):=by
 rw[cG,if_neg hn];have:k.length≠0:=fun e=>hk (ahO e)
 simp only[if_neg this,zC,FV,Zk,ajm];rw[if_neg (by decide),if_neg (by decide),if_neg (by decide),if_pos trivial];simp only[ahM,zP,Ma]
theorem rk {t:Bs} {x:Tk} {o o' k:Nat} {l:List Tk} (ho:o<t.length) (h:nq t o= .ok (x,o')):ju t (k+1) o l=ju t k o' (l++[x]):=by
 rw[ju,if_neg (by omega),h]
def LI (K:List Nd):Prop:=∀(t:Bs) (o k:Nat) (l:List Tk) (r:Bs),t.drop o=aX K++r->(aX K).length<=k->∃j L,j<=(aX K).length/\ju t k o l=ju t (k - j) (o+(aX K).length) (l++L)/\afM K L
theorem ku (x:Nd):aX [x]=cG x:=by rw[aX,aX,List.append_nil]
theorem l0 (x:Nd):cc [x]=eI x:=by rw[cc,cc,Nat.add_zero]
theorem xR (x:Nd):oy [x]=uA x:=by rw[oy,oy];omega
theorem YH {n:Bs} {k:List Nd} (hn:BJ n) (hk:k≠[]) (h:(∃s,lZ s/\k=[.mk [] [] [] s])\/LI k):LI [.mk n [] k []]:=by
 intro t o f l r hd hf;rw[ku,zS hn.ne hk]at hd hf ⊢;have n7:t.drop o=[60]++(n++62::(aX k++([60,47]++(n++62::r)))):=by rw[hd];simp only[ahM,zP,Ma]
 have iM:t.drop (o+(n.length+2))=aX k++([60,47]++(n++62::r)):=by
  have:=kH (a:=[60]++n++[62]) (b:=aX k++([60,47]++(n++62::r))) (n7.trans (by simp only[List.append_assoc,List.cons_append,List.nil_append]));have hL:List.length ([(60:UInt8)]++n++[62])=n.length+2:=by simp
  rwa [hL]at this
 have wB:=kH iM;have hlen:([60]++(n++62::(aX k++([60,47]++(n++[62]))))).length=(n.length+2)+(aX k).length+(n.length+3):=by simp;omega
 rw[hlen]at hf ⊢;have ho1:=ph n7;have ho3:=ph wB
 have key:∃j L,j<=(aX k).length/\ju t (f - 1) (o+(n.length+2)) (l++[⟨1,n,[],[],o⟩])=ju t (f - 1 - j) (o+(n.length+2)+(aX k).length) (l++[⟨1,n,[],[],o⟩]++L)/\∀(p:PS) (S:List (Bs×List (Bs×Bs)×List Nd)) (R:List Tk),p.st=(n,[],[])::S->p.tx=false->p.dn=false->p.cu+cc k<=4096->S.length+1+oy k<=64->∃b,jO (L++R) p=jO R ⟨(n,[],k)::S,p.cu+cc k,false,b,p.z⟩:=by
  rcases h with⟨s,hs,rfl⟩ | h
  ·have hp:aX [.mk [] [] [] s]=s:=by rw[ku,cG,if_pos rfl,GO hs.all]
   rw[hp]at iM hf ⊢;obtain⟨x,m,hx⟩:∃x m,s=x::m:=by cases s with | nil=>exact absurd rfl hs.ne | cons x m=>exact⟨x,m,rfl⟩
   refine⟨1,[⟨4,[],[],s,o+(n.length+2)⟩],by rw[hx];simp,?_,?_⟩
   ·rw[show f - 1=(f - 1 - 1)+1 by rw[hx]at hf;simp only[Zj]at hf;omega,rk (ph (iM.trans (by rw[hx];rfl:_=x::(m++([60,47]++(n++62::r)))))) (YG hs iM)];rfl
   ·intro p S R h1 h2 h3 h4 h5;rw[l0,eI,cc]at h4 ⊢;refine⟨true,?_⟩;rw[anh,rj (S8 h1 hs.ne h2 h4),h3];rfl
  ·obtain⟨j,L,hj,he,hr⟩:=h t (o+(n.length+2)) (f - 1) (l++[⟨1,n,[],[],o⟩]) _ iM (by omega);refine⟨j,L,hj,he,?_⟩;intro p S R h1 h2 h3 h4 h5;have:=hr p n [] [] S R h1 h3 h4 h5;simpa using this
 obtain⟨j,L,hj,he,hr⟩:=key;refine⟨j+2,⟨1,n,[],[],o⟩::(L++[⟨3,n,[],[],o+(n.length+2)+(aX k).length⟩]),by omega,?_,?_⟩
 ·rw[show f=(f - 1)+1 by omega,rk ho1 (JG hn n7),he,show f - 1 - j=(f - 1 - j - 1)+1 by omega,rk ho3 (GQ hn wB)]
  congr 1
  ·omega
  ·omega
  ·simp
 ·intro p n' a' K0 S R h1 h2 h3 h4;rw[l0,eI]at h3 ⊢;rw[xR,uA]at h4;rw[zP,rj (GS h2 (by rw[h1,Zj];omega) (by omega)),h2,ahM];obtain⟨b,hb⟩:=hr ⟨(n,[],[])::p.st,p.cu+1,false,false,p.z⟩ p.st ([⟨3,n,[],[],o+(n.length+2)+(aX k).length⟩]++R) rfl rfl rfl (by dsimp only;omega) (by rw[h1,Zj];omega);refine⟨false,?_⟩;rw[hb,anh,rj (Dt (p:=⟨(n,[],k)::p.st,p.cu+1+cc k,false,b,p.z⟩) rfl)];unfold uw;dsimp only;rw[h1];dsimp only;rw[show p.cu+1+cc k=p.cu+(1+cc k) by omega]
mutual
theorem afN:∀x:Nd,ri x->LI [x]
 | .mk n a k t,h=>by
   rw[ri]at h;obtain⟨hn,rfl,rfl,hk,h⟩:=h;refine YH hn hk ?_;rcases h with h | h
   ·exact .inl h
   ·exact .inr (GU k h)
theorem GU:∀K:List Nd,yN K->LI K
 | [],_=>by
   intro t o k l r hd hk;refine⟨0,[],adX _,by rw[aX];simp,?_⟩;intro p n a K0 S R h1 h2 h3 h4;refine⟨p.tx,?_⟩;rw[cc,Ma,ajm,anr, <-h2, <-h1]
 | x::K,h=>by
   rw[yN]at h;have hx:=afN x h.1;have hK:=GU K h.2;intro t o k l r hd hk;have hp:aX (x::K)=aX [x]++aX K:=by rw[ku,aX]
   rw[hp]at hd hk ⊢;rw[ahM]at hd;rw[agc]at hk ⊢;obtain⟨j1,L1,cI,he1,kA⟩:=hx t o k l _ hd (by omega);obtain⟨j2,L2,aM,he2,gu⟩:=hK t (o+(aX [x]).length) (k - j1) (l++L1) r (kH hd) (by omega);refine⟨j1+j2,L1++L2,by omega,?_,?_⟩
   ·rw[he1,he2,ahM,Nat.add_assoc,Nat.sub_sub]
   ·intro p n a K0 S R h1 h2 h3 h4;have hs:cc (x::K)=cc [x]+cc K:=by rw[l0,cc]
    have Bd:oy (x::K)=max (oy [x]) (oy K):=by rw[xR,oy]
    rw[hs]at h3 ⊢;rw[Bd]at h4;obtain⟨b1,e1⟩:=kA p n a K0 S (L2++R) h1 h2 (by omega) (by omega);obtain⟨b2,e2⟩:=gu ⟨(n,a,K0++[x])::S,p.cu+cc [x],false,b1,p.z⟩ n a (K0++[x]) S R rfl rfl (by dsimp only;omega) (by omega);refine⟨b2,?_⟩;rw[ahM,e1,e2,ahM,Nat.add_assoc];rfl
end
theorem LJ {n:Bs} {k:List Nd} (hn:BJ n) (hk:k≠[]) (hs:yN k) (hc:1+cc k<=4096) (hd:oy k<=63):iG (cG (.mk n [] k []))= .ok (.mk n [] k []):=by
 have hp:=zS hn.ne hk;generalize ht:cG (.mk n [] k [])=t at hp;have n7:t.drop 0=[60]++(n++62::(aX k++([60,47]++(n++[62])))):=by rw[List.drop_zero,hp]
 have hlen:t.length=(n.length+2)+(aX k).length+(n.length+3):=by rw[hp];simp;omega
 have iM:t.drop (0+(n.length+2))=aX k++([60,47]++(n++62::[])):=by
  have:=kH (a:=[60]++n++[62]) (b:=aX k++([60,47]++(n++62::[]))) (n7.trans (by simp only[List.append_assoc,List.cons_append,List.nil_append]));have hL:List.length ([(60:UInt8)]++n++[62])=n.length+2:=by simp
  rwa [hL]at this
 have wB:=kH iM;obtain⟨j,L,hj,he,hr⟩:=GU k hs t (0+(n.length+2)) t.length ([]++[⟨1,n,[],[],0⟩]) _ iM (by omega)
 have jV:uU t= .ok ([]++[⟨1,n,[],[],0⟩]++L++[⟨3,n,[],[],0+(n.length+2)+(aX k).length⟩]):=by
  unfold uU;rw[rk (ph n7) (JG hn n7),he,show t.length - j=(t.length - j - 1)+1 by omega,rk (ph wB) (GQ hn wB)];generalize t.length - j - 1=f;cases f with
  | zero=>rfl
  | succ f=>rw[ju,if_pos (by omega)]
 have cC:∃q:PS,jO ([]++[⟨1,n,[],[],0⟩]++L++[⟨3,n,[],[],0+(n.length+2)+(aX k).length⟩]) p0= .ok q/\q.st=[]/\q.dn=true/\q.z= .mk n [] k []:=by
  rw[Ma,anh,zP,rj (GS rfl (by decide) (by decide))];obtain⟨b,hb⟩:=hr ⟨(n,[],[])::p0.st,p0.cu+1,p0.dn,false,p0.z⟩ n [] [] [] [⟨3,n,[],[],0+(n.length+2)+(aX k).length⟩] rfl rfl (by show 0+1+cc k<=4096;omega) (by show 0+1+oy k<=64;omega);rw[hb,rj (Dt (p:=⟨[(n,[],[]++k)],p0.cu+1+cc k,false,b,p0.z⟩) rfl),jO];exact⟨_,rfl,rfl,rfl,rfl⟩
 obtain⟨q,h1,h2,h3,h4⟩:=cC;unfold iG;rw[jV];dsimp only;rw[h1];dsimp only;rw[h2,h3,h4];simp
def lf (n s:Bs):Nd:=.mk n [] [.mk [] [] [] s] []
theorem jS {L:List Nd} {n s:Bs} (h:s≠[]):cy L n s=L++[lf n s]:=by unfold cy;rw[if_neg h];rfl
theorem zT {L:List Nd} {n:Bs}:cy L n []=L:=by unfold cy;rw[if_pos rfl]
theorem YI {s:Bs} (h:lZ s):trimB s=s:=by
 have h1:s.dropWhile mF=s:=by
  cases s with
  | nil=>rfl
  | cons c s=>rw[List.dropWhile_cons,(BK (h.all c (adW ..))).2.2.2.2.2];rfl
 unfold trimB KL;rw[h1]
 have h2:s.reverse.dropWhile mF=s.reverse:=by
  cases hr:s.reverse with
  | nil=>rfl
  | cons c r=>
    have:c∈s:=by rw[<-List.mem_reverse,hr];exact adW ..
    rw[List.dropWhile_cons,(BK (h.all c this)).2.2.2.2.2];rfl
 rw[h2,List.reverse_reverse]
theorem YJ {n s w:Bs} {e:Bool} (h:lZ s) (hl:s.length<=1024):qJ (lf n s) w e= .ok s:=by
 have h1:ue (lf n s)=s:=by
  unfold ue;have:jn (lf n s).kids=s:=by simp[jn,lf,Nd.kids,Nd.nm,Nd.tx]
  rw[this,YI h]
 have h2:cS (lf n s) []=[]:=by simp[cS,lf,Nd.kids,kN,Nd.nm]
 unfold qJ;rw[h1,h2,if_neg];rintro(h | h | h)
 ·exact absurd h (by simp)
 ·omega
 ·exact h.1 |> fun e=> ‹lZ s›.ne e
theorem kI {x:Nd} {w name s:Bs} {sP:Bool} {right:Bs->Bool} (hk:cS x name=[lf name s]) (h:lZ s) (hl:s.length<=1024) (hr:right s=true):bX x w name sP right= .ok s:=by
 unfold bX cH;rw[hk];dsimp only;rw[YJ h hl];simp only[KR,hr,if_true]
theorem tf {x:Nd} {w name:Bs} {right:Bs->Bool} (hk:cS x name=[]):bX x w name false right= .ok []:=by
 unfold bX cH;rw[hk];rfl
theorem Du {n:Bs} {a:List (Bs×Bs)} {t name:Bs} {K:List Nd} (hn:name≠[]) (h:∀y∈K,y.nm=name):cS (.mk n a K t) name=K:=by
 unfold cS;rw[Nd.kids,List.filter_eq_self];intro y hy;simp[kN,h y hy,hn]
structure LK (d:Dp):Prop where
 g:lZ d.g
 a:lZ d.a
 v:lZ d.v
 gl:d.g.length<=1024
 al:d.a.length<=1024
 vl:d.v.length<=1024
 t:d.t=[]
 c:d.c=[]
 s:d.s=0\/d.s=1\/d.s=2\/d.s=3\/d.s=4\/d.s=5
 o:d.o=0\/d.o=1
 x:∀i∈d.x,(lZ i.g/\i.g.length<=1024/\iE i.g=true)/\lZ i.a/\i.a.length<=1024/\iE i.a=true
 xl:d.x.length<=1024
theorem afO {i:gx} {w:Bs} (h:(lZ i.g/\i.g.length<=1024/\iE i.g=true)/\lZ i.a/\i.a.length<=1024/\iE i.a=true):exE (ig i,w)= .ok i:=by
 have hk:ig i= .mk uO [] [lf eE i.g,lf eo i.a] []:=by
  unfold ig;rw[jS h.1.1.ne,jS h.2.1.ne];rfl
 unfold exE;dsimp only;rw[hk,kI (s:=i.g) rfl h.1.1 h.1.2.1 h.1.2.2];dsimp only;rw[kI (s:=i.a) rfl h.2.1 h.2.2.1 h.2.2.2]
theorem PU:∀(X:List gx) (ws:List (Nd×Bs)) (Y:List gx),(∀i∈X,(lZ i.g/\i.g.length<=1024/\iE i.g=true)/\lZ i.a/\i.a.length<=1024/\iE i.a=true)->ws.map (·.1)=X.map ig->yD ws Y= .ok (Y++X)
 | [],ws,Y,_,hw=>by
   rw[List.map_nil,ahN]at hw;rw[hw,yD,ajm]
 | i::X,ws,Y,h,hw=>by
   cases ws with
   | nil=>cases hw
   | cons p ws=>
     rw[ane,ane,List.cons.injEq]at hw;obtain⟨q,w⟩:=p;obtain⟨rfl,hw⟩:=hw;rw[yD,afO (h i (adW ..))];dsimp only;rw[PU X ws (Y++[i]) (fun j hj=>h j (ahJ _ hj)) hw,ahM];rfl
theorem JH (w name:Bs) (K:List Nd):(qL w name K).map (·.1)=K:=by
 unfold qL;apply List.ext_getElem
 ·simp
 ·intro i h1 h2;simp
def fm (d:Dp):List Nd:=[lf eE d.g,lf eo d.a,lf fS d.v]++(if d.s=0 then[]else[lf rM (fJ d.s)])++(if d.o=1 then[lf nh kM]else[])++(if d.x=[]then[]else[.mk mw [] (d.x.map ig) []])
theorem CC {d:Dp} (h:LK d):fx d= .mk mc [] (fm d) []:=by
 unfold fx zB fm j_;dsimp only;rw[h.t,h.c,jS h.g.ne,jS h.a.ne,jS h.v.ne,zT,zT];have hx:(d.x.map ig=[]) ↔ d.x=[]:=ahN
 have hs:cy ([]++[lf eE d.g]++[lf eo d.a]++[lf fS d.v]) rM (fJ d.s)=[lf eE d.g,lf eo d.a,lf fS d.v]++(if d.s=0 then[]else[lf rM (fJ d.s)]):=by
  rcases h.s with e | e | e | e | e | e<;>rw[e]<;>rfl
 rw[hs];rcases h.o with e | e<;>rw[e]<;>by_cases ex:d.x=[]<;>simp[ex,jS,kM]
theorem wV {n:Int} (h:n=1\/n=2\/n=3\/n=4\/n=5):lW false (fJ n)=true/\((lT (fJ n)).1:Int)=n/\lZ (fJ n)/\(fJ n).length<=1024:=by
 rcases h with e | e | e | e | e<;>rw[e]<;>exact⟨by decide,by decide,⟨by decide,by decide⟩,by decide⟩
theorem aiS {d:Dp}:cS (.mk mc [] (fm d) []) eE=[lf eE d.g]:=by
 unfold fm;by_cases h1:d.s=0<;>by_cases h2:d.o=1<;>by_cases h3:d.x=[]<;>simp only[h1,h2,h3,if_true,if_false]<;>rfl
theorem aiT {d:Dp}:cS (.mk mc [] (fm d) []) eo=[lf eo d.a]:=by
 unfold fm;by_cases h1:d.s=0<;>by_cases h2:d.o=1<;>by_cases h3:d.x=[]<;>simp only[h1,h2,h3,if_true,if_false]<;>rfl
theorem aiU {d:Dp}:cS (.mk mc [] (fm d) []) fS=[lf fS d.v]:=by
 unfold fm;by_cases h1:d.s=0<;>by_cases h2:d.o=1<;>by_cases h3:d.x=[]<;>simp only[h1,h2,h3,if_true,if_false]<;>rfl
theorem aiV {d:Dp}:cS (.mk mc [] (fm d) []) AW=[]:=by
 unfold fm;by_cases h1:d.s=0<;>by_cases h2:d.o=1<;>by_cases h3:d.x=[]<;>simp only[h1,h2,h3,if_true,if_false]<;>rfl
theorem aiW {d:Dp}:cS (.mk mc [] (fm d) []) AX=[]:=by
 unfold fm;by_cases h1:d.s=0<;>by_cases h2:d.o=1<;>by_cases h3:d.x=[]<;>simp only[h1,h2,h3,if_true,if_false]<;>rfl
theorem aiX {d:Dp}:cS (.mk mc [] (fm d) []) rM=if d.s=0 then[]else[lf rM (fJ d.s)]:=by
 unfold fm;by_cases h1:d.s=0<;>by_cases h2:d.o=1<;>by_cases h3:d.x=[]<;>simp only[h1,h2,h3,if_true,if_false]<;>rfl
theorem aiY {d:Dp}:cS (.mk mc [] (fm d) []) nh=if d.o=1 then[lf nh kM]else[]:=by
 unfold fm;by_cases h1:d.s=0<;>by_cases h2:d.o=1<;>by_cases h3:d.x=[]<;>simp only[h1,h2,h3,if_true,if_false]<;>rfl
theorem aiZ {d:Dp}:cS (.mk mc [] (fm d) []) mw=if d.x=[]then[]else[.mk mw [] (d.x.map ig) []]:=by
 unfold fm;by_cases h1:d.s=0<;>by_cases h2:d.o=1<;>by_cases h3:d.x=[]<;>simp only[h1,h2,h3,if_true,if_false]<;>rfl
theorem ac2 {d:Dp} {w:Bs} (h:LK d):wh (.mk mc [] (fm d) []) w= .ok d.x:=by
 unfold wh cH;rw[aiZ];by_cases e:d.x=[]
 ·rw[if_pos e,e]
 ·rw[if_neg e];dsimp only
  have hk:cS (.mk mw [] (d.x.map ig) []) uO=d.x.map ig:=Du (by decide) fun y hy=>by
   obtain⟨i,_,rfl⟩:=ajn.1 hy;rfl
  unfold nX;rw[hk,if_neg (by rw[ahL];have:=h.xl;omega)];dsimp only;rw[PU d.x _ [] h.x (JH _ _ _),Ma]
theorem ac3 {d:Dp} {w:Bs} (h:LK d):F7 (fx d) w false= .ok d:=by
 rw[CC h];unfold F7;rw[kI aiS h.g h.gl rfl];dsimp only;rw[kI aiT h.a h.al rfl];dsimp only;rw[kI aiU h.v h.vl rfl];dsimp only;rw[tf aiV];dsimp only;rw[tf aiW];dsimp only
 have hs:∃y,bX (.mk mc [] (fm d) []) w rM false (lW false)= .ok y/\((lT y).1:Int)=d.s:=by
  have hk:=aiX (d:=d);by_cases e:d.s=0
  ·rw[if_pos e]at hk;exact⟨[],tf hk,by rw[e];rfl⟩
  ·rw[if_neg e]at hk;obtain⟨h1,h2,h3,h4⟩:=wV (h.s.resolve_left e);exact⟨_,kI hk h3 h4 h1,h2⟩
 obtain⟨y,hy,QY⟩:=hs;rw[hy];dsimp only
 have ho:∃z,bX (.mk mc [] (fm d) []) w nh false nj= .ok z/\abl z=d.o:=by
  have hk:=aiY (d:=d);rcases h.o with e | e
  ·rw[if_neg (by omega)]at hk;exact⟨[],tf hk,by rw[e];decide⟩
  ·rw[if_pos e]at hk;exact⟨kM,kI hk ⟨by decide,by decide⟩ (by decide) (by decide),by rw[e];decide⟩
 obtain⟨z,hz,hzs⟩:=ho;rw[hz];dsimp only;rw[ac2 h,QY,hzs];unfold pM;have h1:=h.t;have h2:=h.c;obtain⟨g,a,v,t,c,s,o,x⟩:=d;dsimp only at h1 h2;rw[h1,h2]
theorem JI:∀(D:List Dp) (ws:List (Nd×Bs)) (Y:List Dp),(∀d∈D,LK d)->ws.map (·.1)=D.map fx->sd false ws Y= .ok (Y++D)
 | [],ws,Y,_,hw=>by
   rw[List.map_nil,ahN]at hw;rw[hw,sd,ajm]
 | d::D,ws,Y,h,hw=>by
   cases ws with
   | nil=>cases hw
   | cons p ws=>
     rw[ane,ane,List.cons.injEq]at hw;obtain⟨q,w⟩:=p;obtain⟨rfl,hw⟩:=hw;rw[sd,ac3 (h d (adW ..))];dsimp only;rw[JI D ws (Y++[d]) (fun j hj=>h j (ahJ _ hj)) hw,ahM];rfl
structure YK (p:Pm):Prop where
 g:lZ p.g
 a:lZ p.a
 v:lZ p.v
 gl:p.g.length<=1024
 al:p.a.length<=1024
 vl:p.v.length<=1024
 eK:∀d∈p.eK,LK d
 len:p.eK.length<=900
def dN (g:Gv) (D:List Dp):Pm:=⟨false,⟨[],[],[]⟩,g.g,g.a,g.v,[],[],[],D⟩
def fb (g:Gv) (D:List Dp):List Nd:=[lf eE g.g,lf eo g.a,lf fS g.v]++(if D=[]then[]else[.mk my [] (D.map fx) []])
theorem uB {g:Gv} {D:List Dp} (h:YK (dN g D)):fX (dN g D)= .mk gZ [] (fb g D) []:=by
 unfold fX oU KP FO fb;have h1:=h.g.ne;have h2:=h.a.ne;have h3:=h.v.ne;simp only[dN]at h1 h2 h3 ⊢;simp only[ajl,if_false];rw[jS h1,jS h2,jS h3,zT];unfold j_;by_cases e:D=[]<;>simp[e]
theorem YL {g:Gv} {D:List Dp} (h:YK (dN g D)):pN (fX (dN g D))= .ok (dN g D):=by
 rw[uB h];have kg:cS (.mk gZ [] (fb g D) []) eE=[lf eE g.g]:=by unfold fb;by_cases e:D=[]<;>simp only[e,if_true,if_false]<;>rfl
 have ka:cS (.mk gZ [] (fb g D) []) eo=[lf eo g.a]:=by unfold fb;by_cases e:D=[]<;>simp only[e,if_true,if_false]<;>rfl
 have kv:cS (.mk gZ [] (fb g D) []) fS=[lf fS g.v]:=by unfold fb;by_cases e:D=[]<;>simp only[e,if_true,if_false]<;>rfl
 have kp:cS (.mk gZ [] (fb g D) []) v7=[]:=by unfold fb;by_cases e:D=[]<;>simp only[e,if_true,if_false]<;>rfl
 have kk:cS (.mk gZ [] (fb g D) []) yB=[]:=by unfold fb;by_cases e:D=[]<;>simp only[e,if_true,if_false]<;>rfl
 have kr:cS (.mk gZ [] (fb g D) []) lR=[]:=by unfold fb;by_cases e:D=[]<;>simp only[e,if_true,if_false]<;>rfl
 have km:cS (.mk gZ [] (fb g D) []) sL=[]:=by unfold fb;by_cases e:D=[]<;>simp only[e,if_true,if_false]<;>rfl
 have kd:cS (.mk gZ [] (fb g D) []) my=if D=[]then[]else[.mk my [] (D.map fx) []]:=by unfold fb;by_cases e:D=[]<;>simp only[e,if_true,if_false]<;>rfl
 have QD:(Nd.mk gZ [] (fb g D) []).nm=gZ:=rfl;generalize Nd.mk gZ [] (fb g D) []=X at*;unfold pN;rw[QD];have hp:wG X gZ= .ok (false,⟨[],[],[]⟩):=by unfold wG cH;rw[kp]
 have hr:lU X gZ= .ok []:=by unfold lU cH;rw[kr]
 have hm:wF X gZ= .ok []:=by unfold wF cH;rw[km]
 have hd:mA X gZ false= .ok D:=by
  unfold mA cH;rw[kd];by_cases e:D=[]
  ·rw[if_pos e,e]
  ·rw[if_neg e];dsimp only
   have hk:cS (.mk my [] (D.map fx) []) mc=D.map fx:=Du (by decide) fun y hy=>by
    obtain⟨d,hd,rfl⟩:=ajn.1 hy;rfl
   unfold nX;rw[hk,if_neg (by rw[ahL];have:=h.len;simp only[dN]at this;omega)];dsimp only;rw[JI D _ [] h.eK (JH _ _ _),Ma]
 rw[hp,hr,hm,hd];dsimp only;rw[kI kg h.g h.gl rfl];dsimp only;rw[kI ka h.a h.al rfl];dsimp only;rw[kI kv h.v h.vl rfl];dsimp only;rw[tf kk];rfl
theorem D7 (s:Bs) (h:(s.headD 0 |> ma)=true) (h2:s.all jZ=true):BJ s:=⟨fun e=>(by rw[e]at h;revert h;decide),h,ano.1 h2⟩
theorem uC {n s:Bs} (hn:BJ n) (h:lZ s):ri (lf n s):=by
 rw[lf,ri];exact⟨hn,rfl,rfl,by simp,.inl ⟨s,h,rfl⟩⟩
theorem nw:∀{K:List Nd},(∀x∈K,ri x)->yN K
 | [],_=>trivial
 | x::K,h=>by rw[yN];exact⟨h x (adW ..),nw fun y hy=>h y (ahJ _ hy)⟩
theorem oh {B:Nat}:∀{K:List Nd},(∀x∈K,eI x<=B)->cc K<=K.length*B
 | [],_=>by rw[cc];omega
 | x::K,h=>by
   have h1:=h x (adW ..);have h2:=oh fun y hy=>h y (ahJ (a:=y) x hy)
   rw[cc,Zj,Nat.succ_mul];omega
theorem th {B:Nat}:∀{K:List Nd},(∀x∈K,uA x<=B)->oy K<=B
 | [],_=>by rw[oy];omega
 | x::K,h=>by
   have h1:=h x (adW ..);have h2:=th fun y hy=>h y (ahJ (a:=y) x hy)
   rw[oy];omega
theorem mX {n s:Bs}:eI (lf n s)=2:=by rw[lf,eI,l0,eI,cc]
theorem Es {n s:Bs}:uA (lf n s)=2:=by rw[lf,uA,xR,uA,oy]
theorem PV {i:gx} (h:lZ i.g) (h2:lZ i.a):ig i= .mk uO [] [lf eE i.g,lf eo i.a] []:=by
 unfold ig;rw[jS h.ne,jS h2.ne];rfl
theorem Et:BJ eE:=D7 _ (by decide) (by decide)
theorem Eu:BJ eo:=D7 _ (by decide) (by decide)
theorem LN:BJ fS:=D7 _ (by decide) (by decide)
theorem ac4 {i:gx} (h:lZ i.g) (h2:lZ i.a):ri (ig i)/\eI (ig i)=5/\uA (ig i)=3:=by
 rw[PV h h2];refine⟨?_,?_,?_⟩
 ·rw[ri];exact⟨D7 _ (by decide) (by decide),rfl,rfl,by simp,.inr (nw (by simp[uC Et h,uC Eu h2]))⟩
 ·rw[eI,cc,l0,mX,mX]
 ·rw[uA,oy,xR,Es,Es];rfl
theorem zU {d:Dp} (h:LK d):∀x∈fm d,ri x/\eI x<=1+d.x.length*5+1/\uA x<=4:=by
 intro x hx;unfold fm at hx;have LO:∀n s,BJ n->lZ s->ri (lf n s)/\eI (lf n s)<=1+d.x.length*5+1/\uA (lf n s)<=4:=fun n s hn hs=>⟨uC hn hs,by rw[mX];omega,by rw[Es];omega⟩
 rcases ahP.1 hx with hx | hx
 ·rcases ahP.1 hx with hx | hx
  ·rcases ahP.1 hx with hx | hx
   ·simp only[ajq,ajp,or_false]at hx;rcases hx with rfl | rfl | rfl
    ·exact LO _ _ Et h.g
    ·exact LO _ _ Eu h.a
    ·exact LO _ _ LN h.v
   ·by_cases e:d.s=0
    ·rw[if_pos e]at hx;cases hx
    ·rw[if_neg e,ahK]at hx;rw[hx];exact LO _ _ (D7 _ (by decide) (by decide)) (wV (h.s.resolve_left e)).2.2.1
  ·by_cases e:d.o=1
   ·rw[if_pos e,ahK]at hx;rw[hx];exact LO _ _ (D7 _ (by decide) (by decide)) ⟨by decide,by decide⟩
   ·rw[if_neg e]at hx;cases hx
 ·by_cases e:d.x=[]
  ·rw[if_pos e]at hx;cases hx
  ·rw[if_neg e,ahK]at hx;rw[hx]
   have hm:∀y∈d.x.map ig,ri y/\eI y=5/\uA y=3:=fun y hy=>by
    obtain⟨i,hi,rfl⟩:=ajn.1 hy;exact ac4 (h.x i hi).1.1 (h.x i hi).2.1
   refine⟨?_,?_,?_⟩
   ·rw[ri];exact⟨D7 _ (by decide) (by decide),rfl,rfl,fun e2=>e (ahN.1 e2),.inr (nw fun y hy=>(hm y hy).1)⟩
   ·rw[eI];have:=oh (B:=5) fun y hy=>Nat.le_of_eq (hm y hy).2.1
    rw[ahL]at this;omega
   ·rw[uA];have:=th (B:=3) fun y hy=>Nat.le_of_eq (hm y hy).2.2
    omega
theorem GV (d:Dp):(fm d).length<=6:=by
 unfold fm;by_cases h1:d.s=0<;>by_cases h2:d.o=1<;>by_cases h3:d.x=[]<;>simp[h1,h2,h3]
theorem JJ {d:Dp} (h:LK d):ri (fx d)/\eI (fx d)<=13+d.x.length*30/\uA (fx d)<=5:=by
 rw[CC h];refine⟨?_,?_,?_⟩
 ·rw[ri];exact⟨D7 _ (by decide) (by decide),rfl,rfl,by unfold fm;simp,.inr (nw fun y hy=>(zU h y hy).1)⟩
 ·rw[eI];have h1:=oh (B:=1+d.x.length*5+1) fun y hy=>(zU h y hy).2.1
  have h2:=GV d;have h3:(fm d).length*(1+d.x.length*5+1)<=6*(1+d.x.length*5+1):=ajs _ h2;omega
 ·rw[uA];have:=th (B:=4) fun y hy=>(zU h y hy).2.2
  omega
theorem YM {g:Gv} {D:List Dp} (h:YK (dN g D)) (hx:∀d∈D,d.x.length<=1) (hl:D.length<=40):iG (cG (fX (dN g D)))= .ok (fX (dN g D)):=by
 have hD:∀y∈D.map fx,ri y/\eI y<=43/\uA y<=5:=fun y hy=>by
  obtain⟨d,hd,rfl⟩:=ajn.1 hy;obtain⟨h1,h2,h3⟩:=JJ (h.eK d hd);have:=hx d hd;exact⟨h1,by omega,h3⟩
 have hm:∀x∈fb g D,ri x/\eI x<=1+40*43+1/\uA x<=6:=by
  intro x hx;unfold fb at hx;have LO:∀n s,BJ n->lZ s->ri (lf n s)/\eI (lf n s)<=1+40*43+1/\uA (lf n s)<=6:=fun n s hn hs=>⟨uC hn hs,by rw[mX];omega,by rw[Es];omega⟩
  rcases ahP.1 hx with hx | hx
  ·simp only[ajq,ajp,or_false]at hx;rcases hx with rfl | rfl | rfl
   ·exact LO _ _ Et h.g
   ·exact LO _ _ Eu h.a
   ·exact LO _ _ LN h.v
  ·by_cases e:D=[]
   ·rw[if_pos e]at hx;cases hx
   ·rw[if_neg e,ahK]at hx;rw[hx];refine⟨?_,?_,?_⟩
    ·rw[ri];exact⟨D7 _ (by decide) (by decide),rfl,rfl,fun e2=>e (ahN.1 e2),.inr (nw fun y hy=>(hD y hy).1)⟩
    ·rw[eI];have h1:=oh (B:=43) fun y hy=>(hD y hy).2.1
     rw[ahL]at h1;have:D.length*43<=40*43:=ajs _ hl;omega
    ·rw[uA];have:=th (B:=5) fun y hy=>(hD y hy).2.2
     omega
 rw[uB h]
 have hc:cc (fb g D)<=6+(1+40*43):=by
  have hs:cc (fb g D)=6+cc (if D=[]then[]else[.mk my [] (D.map fx) []]):=by
   unfold fb;rw[zP,zP,zP,Ma,cc,cc,cc,mX,mX,mX];omega
  rw[hs];by_cases e:D=[]
  ·rw[if_pos e,cc];omega
  ·rw[if_neg e,l0,eI];have h1:=oh (B:=43) fun y hy=>(hD y hy).2.1
   rw[ahL]at h1;have:D.length*43<=40*43:=ajs _ hl;omega
 exact LJ (D7 _ (by decide) (by decide)) (by unfold fb;simp) (nw fun x hx=>(hm x hx).1) (by omega) (ajk (th (B:=6) fun x hx=>(hm x hx).2.2) (by decide))
theorem qg {B:Nat}:∀{K:List Nd},(∀x∈K,(cG x).length<=B)->(aX K).length<=K.length*B
 | [],_=>by rw[aX];simp
 | x::K,h=>by
   have h1:=h x (adW ..);have h2:=qg fun y hy=>h y (ahJ (a:=y) x hy)
   rw[aX,agc,Zj,Nat.succ_mul];omega
theorem j6 {n:Bs} {k:List Nd} (hn:n≠[]) (hk:k≠[]):(cG (.mk n [] k [])).length=2*n.length+5+(aX k).length:=by
 rw[zS hn hk];simp only[agc,Zj,Qm];omega
theorem qh {n s:Bs} (hn:n≠[]) (h:lZ s):(cG (lf n s)).length=2*n.length+5+s.length:=by
 rw[lf,j6 hn (by simp),ku,cG,if_pos rfl,GO h.all]
structure ac5 (g:Gv) (D:List Dp):Prop where
 g:g.g.length<=64/\g.a.length<=64/\g.v.length<=64
 d:∀d∈D,d.g.length<=64/\d.a.length<=64/\d.v.length<=64/\d.x.length<=1/\∀i∈d.x,i.g.length<=64/\i.a.length<=64
 n:D.length<=40
theorem YN {i:gx} (h:lZ i.g) (h2:lZ i.a) (hl:i.g.length<=64/\i.a.length<=64):(cG (ig i)).length<=200:=by
 rw[PV h h2,j6 (by decide) (by simp),aX,ku,agc,qh (by decide) h,qh (by decide) h2];simp only[Zj,Qm];omega
theorem S9 {d:Dp} (h:LK d) (hl:d.g.length<=64/\d.a.length<=64/\d.v.length<=64/\d.x.length<=1/\∀i∈d.x,i.g.length<=64/\i.a.length<=64):(cG (fx d)).length<=1400:=by
 obtain⟨l1,l2,l3,l4,l5⟩:=hl
 have hb:∀x∈fm d,(cG x).length<=225:=by
  intro x hx;unfold fm at hx;rcases ahP.1 hx with hx | hx
  ·rcases ahP.1 hx with hx | hx
   ·rcases ahP.1 hx with hx | hx
    ·simp only[ajq,ajp,or_false]at hx;rcases hx with rfl | rfl | rfl
     ·rw[qh (by decide) h.g];simp only[Zj,Qm];omega
     ·rw[qh (by decide) h.a];simp only[Zj,Qm];omega
     ·rw[qh (by decide) h.v];simp only[Zj,Qm];omega
    ·by_cases e:d.s=0
     ·rw[if_pos e]at hx;cases hx
     ·rw[if_neg e,ahK]at hx;rw[hx,qh (by decide) (wV (h.s.resolve_left e)).2.2.1];rcases h.s.resolve_left e with e | e | e | e | e<;>rw[e]<;>decide
   ·by_cases e:d.o=1
    ·rw[if_pos e,ahK]at hx;rw[hx];decide
    ·rw[if_neg e]at hx;cases hx
  ·by_cases e:d.x=[]
   ·rw[if_pos e]at hx;cases hx
   ·rw[if_neg e,ahK]at hx
    have h1:=qg (B:=200) (K:=d.x.map ig) fun y hy=>by
     obtain⟨i,hi,rfl⟩:=ajn.1 hy;exact YN (h.x i hi).1.1 (h.x i hi).2.1 (l5 i hi)
    rw[ahL]at h1;rw[hx,j6 (by decide) (fun e2=>e (ahN.1 e2))];simp only[Zj,Qm];omega
 have h1:=qg hb;have h2:=GV d;have h3:(fm d).length*225<=6*225:=ajs _ h2;rw[CC h,j6 (by decide) (by unfold fm;simp)];simp only[Zj,Qm];omega
theorem YO {g:Gv} {D:List Dp} (h:YK (dN g D)) (hs:ac5 g D):(cG (fX (dN g D))).length<=65536:=by
 obtain⟨l1,l2,l3⟩:=hs.g
 have h1:=qg (B:=1400) (K:=D.map fx) fun y hy=>by
  obtain⟨d,hd,rfl⟩:=ajn.1 hy;exact S9 (h.eK d hd) (hs.d d hd)
 rw[ahL]at h1;have h2:D.length*1400<=40*1400:=ajs _ hs.n
 have h3:(aX (if D=[]then[]else[.mk my [] (D.map fx) []])).length<=56100:=by
  by_cases e:D=[]
  ·rw[if_pos e,aX];simp
  ·rw[if_neg e,ku,j6 (by decide) (fun e2=>e (ahN.1 e2))];simp only[Zj,Qm];omega
 rw[uB h,j6 (by decide) (by unfold fb;simp)]
 have hs:aX (fb g D)=cG (lf eE g.g)++(cG (lf eo g.a)++(cG (lf fS g.v)++aX (if D=[]then[]else[.mk my [] (D.map fx) []]))):=by
  unfold fb;rw[zP,zP,zP,Ma,aX,aX,aX]
 have hg:(cG (lf eE g.g)).length=_:=qh (by decide) h.g;have ha:(cG (lf eo g.a)).length=_:=qh (by decide) h.a;have hv:(cG (lf fS g.v)).length=_:=qh (by decide) h.v;rw[hs,agc,agc,agc,hg,ha,hv];have e1:eE.length=7:=rfl;have e2:eo.length=10:=rfl;have e3:fS.length=7:=rfl;have e4:gZ.length=7:=rfl;omega
structure Br where
 up:Int
 dp:Int
 od:Int
 k:Ky
 v:Bs
 sc:Int
 rd:Bool
def kW (k:Ky):gx:=⟨k.g,k.a⟩
def rU (b:Br):Gv:=⟨b.k.g,b.k.a,b.v⟩
abbrev rp:=List Br×List (List gx)
def wW (N:List Br) (p:Nat->Bool):Nat->Int->Bool
 | 0,_=>false
 | f+1,i=>if i<0 then false else p i.toNat||match N[i.toNat]? with
   | none=>false
   | some b=>wW N p f b.up
def rV (i:Nat) (b:Br) (n:pU):Int:=if i=0 then n.s else if n.o then 0 else NM b.sc n.s
def LP (S:rp) (i:Nat) (x:gx):Bool:=wW S.1 (fun k=>(S.2.getD k []).any (Db · x)) (i+1) i
def BL (S:rp) (i:Nat) (x:gx):Bool:=wW S.1 (fun k=>match S.1[k]? with
    | none=>false
    | some b=>kW b.k==x) (i+1) i
def aho (S:rp) (i:Nat) (b:Br) (od:Nat) (n:pU):rp:=(S.1++[⟨i,b.dp+1,od,n.k,n.v,rV i b n,BL S i (kW n.k)⟩],S.2++[n.x])
def zV (S:rp) (i:Nat) (b:Br) (od:Nat) (n:pU):Option rp:=
 if rV i b n=0\/LP S i (kW n.k)=true then some S
 else if 4096<=S.1.length then none
 else some (aho S i b od n)
def xS (i:Nat) (b:Br):List pU->Nat->rp->Option rp
 | [],_,S=>some S
 | n::l,od,S=>match zV S i b od n with
   | none=>none
   | some S'=>xS i b l (od+1) S'
def zW (ms:Gv->Option (List pU)):Nat->Nat->rp->Option (Option (List Br))
 | 0,_,_=>none
 | f+1,i,S=>match S.1[i]? with
   | none=>some (some S.1)
   | some b=>if b.rd then zW ms f (i+1) S else match ms (rU b)with
     | none=>none
     | some l=>match xS i b l 0 S with
       | none=>some none
       | some S'=>zW ms f (i+1) S'
def zX (g:Gv):Br:=⟨-1,0,0,⟨g.g,g.a,lC,[]⟩,g.v,0,false⟩
def zY (ms:Gv->Option (List pU)) (g:Gv):Option (Option (List Br)):=zW ms 5000 0 ([zX g],[[]])
def iO (S:List (Gv×List Dp)) (g:Gv):Option (List pU):=(S.find? (·.1==g)).map fun p=>p.2.map fN
def Ups (N:List Br):Prop:=∀(i:Nat) (b:Br),N[i]?=some b-> -1<=b.up/\b.up<(i:Int)/\0<=b.dp/\b.dp<=(i:Int)
def gS:Bs:=[103]
def v1:Bs:=[49]
def vh (a v:Bs) (s:Int):Dp:=⟨gS,a,v,[],[],s,0,[]⟩
section
variable (f:Nat->Bs)
end
variable {f:Nat->Bs}
section
variable (p:Nat->Nat->Bs) (rt:Bs) (w:Nat)
end
section
variable {p:Nat->Nat->Bs} {rt:Bs} {w:Nat}
end
set_option linter.defProp false in
def aT:=Qn cZ<|Qn aj6<|Qn aj5<|Qn B6<|Qn Xl<|Qn agu<|Qn FD<|Qn C9<|Qn agt<|Qn T72<|Qn T46<|Qn B7<|Qn ND<|Qn Xj<|Qn AO NB
def mY (b:Br):List MV:=[mi b.up,mi b.dp,mi b.od]++gR b.k++[.str b.v]++wQ (false,b.v,[]) .au++[mi b.sc,mb b.rd]
theorem mM (b:Br):(mY b).length=13:=rfl
theorem ac6 (L:List Br):c7 (L.flatMap mY)=L.flatMap mY:=j9 (fun x=>by simp only[mY,gR,wQ,zP,Ma,aq,bw,wu,Qm,Zk]) L
def zZ (x:List gx):List MV:=[.sl x.length (x.flatMap cn) .au]
theorem PW (x:List gx):(zZ x).length=1:=rfl
theorem PX (L:List (List gx)):c7 (L.flatMap zZ)=L.flatMap zZ:=j9 (fun x=>by simp only[zZ,wu,nW]) L
theorem ac7 (k:Ky) (O:VH):VF Tryz.prog 106 [.agg (gR k)] O (aD fun m O'=>m= .agg (cn (kW k))/\O.Ge O'):=by
 obtain⟨k1,k2,k3,k4⟩:=k;simp only[gR,cn,kW];refine υ 8 [.cell 2 150] Tryz.func106 ?_;refine κ @aT ?_;refine VC.gen ?_;intro O1 e1;obtain⟨aI,cW,cz,cD⟩:=hY _ _ e1;clear e1;refine θ (aG @aT @cz @cD ?_);refine ν @aT ?_;exact aI.set (by omega) _
theorem afP (b:Br) (O:VH):VF Tryz.prog 92 [.agg (mY b)] O (aD fun m O'=>m= .agg (bZ (rU b))/\O.Ge O'):=by
 obtain⟨up,dp,od,⟨k1,k2,k3,k4⟩,v,sc,rd⟩:=b;simp only[mY,gR,wQ,bZ,rU,aq,bw,zP,Ma,Qm,Zk];refine υ 12 [.cell 2 60] Tryz.func92 ?_;refine κ @aT ?_;refine VC.gen ?_;intro O1 e1;obtain⟨aI,cW,cz,cD⟩:=hY _ _ e1;clear e1;refine θ (aG @aT @cz @cD ?_);refine ν @aT ?_;exact aI.set (by omega) _
structure tj (O:VH) (tb k bb mm:Nat) (g:Gv) (S:rp) (t1 t2:Tok) (B:Nat):Prop where
 cell:O.hp tb=some (.cells ([.ptr k 0,.ptr bb 0]++bZ g++[.map mm,.sl S.1.length (S.1.flatMap mY) t1,.sl S.2.length (S.2.flatMap zZ) t2]))
 map:O.hp mm=some (.map (cP []) 0)
 a1:App O B 13 t1
 a2:App O B 1 t2
 ne:∀i,Tok.id t1=some i->Tok.id t2≠some i
 lt:tb<O.N/\mm<O.N
 len:S.1.length=S.2.length
 up:Ups S.1
theorem tj.ge {O O':VH} {tb k bb mm:Nat} {g:Gv} {S:rp} {t1 t2:Tok} {B:Nat} (h:tj O tb k bb mm g S t1 t2 B) (u:O.Ge O'):tj O' tb k bb mm g S t1 t2 B:=
 ⟨(u.hp _ h.lt.1).trans h.cell,(u.hp _ h.lt.2).trans h.map,h.a1.ge u,h.a2.ge u,h.ne,⟨adZ h.lt.1 u.N,adZ h.lt.2 u.N⟩,h.len,h.up⟩
def GW (n:pU):Prop:=n.k.g.length<=100000/\n.k.a.length<=100000/\n.k.t.length<=100000/\n.k.c.length<=100000
theorem GW.key {n:pU} (h:GW n):∀s∈cQ n.k,s.length<=maxLen:=by
 obtain⟨h1,h2,h3,h4⟩:=h;intro s hs;simp only[cQ,ajq,ajp,or_false]at hs;simp only[maxLen];rcases hs with rfl | rfl | rfl | rfl<;>omega
abbrev ahp:List MV:=[.str [],.str [],.str [],.str [],.str [],.v (.int .i64 0),.v (.int .i64 0),.sl 0 [] .nil]
theorem CD (N:Nat):nT N []:=⟨by simp,by simp⟩
theorem YP {O:VH} {tb k bb mm:Nat} {g:Gv} {S:rp} {t1 t2:Tok} {B:Nat} (h:tj O tb k bb mm g S t1 t2 B) {i:Nat} {b:Br} (hb:S.1[i]?=some b) (n:pU) (hn:GW n):
  VF Tryz.prog 107 [.ptr tb 0,mi i,.agg (eA n)] O (aD fun m O'=>m=mi (rV i b n)/\O.Ge O'):=by
 have F0:=hn.key;have bG:(S.1.flatMap mY)[i*13+11]?=some (mi b.sc):=by simpa using ki (sp:=[]) mM hb (i:=11) rfl
 have Sv:=(Vq.1 hb).1;have hc:=h.cell;have eh:=h.lt;have YQ:=fun(O':VH) (u:O.Ge O')=>h.ge u
 unfold rV;obtain⟨⟨k1,k2,k3,k4⟩,v,s,o,x⟩:=n;dsimp only;simp only[eA,gR,wQ,bZ,aq,bw,zP,Ma,Qm,Zk]at hc bG ⊢;refine υ 39 [.tmp 6] Tryz.func107 ?_;refine κ @aT ?_;refine VC.bx ?_;rintro O1 ⟨aI,eP,cW⟩;by_cases hi:i=0
 ·have rE:((i:Int)==0)=true:=by simpa using hi
  rw[if_pos hi];refine θ (aG @aT @rE @eP ?_);exact aI
 rw[if_neg hi];have rE:((i:Int)==0)=false:=by simpa using hi
 refine ξ @aT @rE ?_;cases o;rotate_left
 ·rw[if_pos rfl];refine ξ @aT @eP ?_;exact aI
 rw[if_neg (by decide)];refine ξ @aT @eP ?_;refine ξ @aT @eP ?_;have h1:=YQ O1 aI;have eS:=h1.cell;simp only[bZ,zP,Ma]at eS;refine χ (χ ?_);refine WC.bP (.held [8]) [(0,.rd),(1,.rd),(2,.rd),(3,.rd),(4,.rd),(5,.rd),(6,.rd),(7,.one),(8,.one)] ?_;refine aG @aT @eS @eP ?_;refine VL.hold (.inr rfl) rfl rfl (δ oL aa (l:=cQ ⟨k1,k2,k3,k4⟩) (te:=⟨_,8,120,ahp⟩) Tryz.underlying209 B7.1.1 rfl rfl h1.map (CD 4) rfl rfl F0) (WL.sound aa ?_);rw[show iC (cQ ⟨k1,k2,k3,k4⟩) ([]:fG)=none from rfl];refine ab @aT ?_;refine VC.al ?_;rintro O2 ⟨aB,jb,eZ⟩;have fA:=aI.trans aB;have iH:=(YQ O2 fA).cell;simp only[bZ,zP,Ma]at iH;refine ο @aT @jb ?_;refine θ (aG @aT @iH @bG ?_);refine ah.rt (Xt b.sc s _) ?_;rintro _ O3 ⟨rfl,e3⟩;rw[e3];refine ab @aT ?_;refine ν @aT ?_;exact fA
theorem YR {O:VH} {tb k bb mm:Nat} {g:Gv} {S:rp} {t1 t2:Tok} {B:Nat} (h:tj O tb k bb mm g S t1 t2 B) (i:Nat) (n:pU) (hn:GW n):
  VF Tryz.prog 113 [.ptr tb 0,mi i,.agg (eA n)] O (aD fun m O'=>m= .agg (wQ (false,n.v,[]) .au)/\O.Ge O'):=by
 have F0:=hn.key;have YQ:=fun(O':VH) (u:O.Ge O')=>h.ge u
 obtain⟨⟨k1,k2,k3,k4⟩,v,s,o,x⟩:=n;dsimp only;simp only[eA,gR,wQ,aq,bw,zP,Ma,Qm,Zk];refine υ 33 [.cell 6 46] Tryz.func113 ?_;refine κ @aT ?_;refine VC.gen ?_;intro O1 e1;obtain⟨aI,cW,eP,kA⟩:=hY _ _ e1;clear e1;have h1:=YQ O1 aI;have eS:=h1.cell;simp only[bZ,zP,Ma]at eS;refine χ (χ ?_);refine WC.bP (.held [8]) [(0,.rd),(1,.rd),(2,.rd),(3,.rd),(4,.rd),(5,.rd),(6,.rd),(7,.one),(8,.one)] ?_;refine aG @aT @eS @eP ?_;refine VL.hold (.inr rfl) rfl rfl (δ oL aa (l:=cQ ⟨k1,k2,k3,k4⟩) (te:=⟨_,8,120,ahp⟩) Tryz.underlying209 B7.1.1 rfl rfl h1.map (CD 4) rfl rfl F0) (WL.sound aa ?_);rw[show iC (cQ ⟨k1,k2,k3,k4⟩) ([]:fG)=none from rfl];refine ab @aT ?_;refine VC.al ?_;rintro O2 ⟨aB,jb,eZ⟩;have fA:=aI.trans aB;have ahq:=aB.at eP;have ahr:=aB.at kA;by_cases hi:(i:Int)>0
 ·have rE:decide ((i:Int)>0)=true:=decide_eq_true hi;have ei:decide (0<(i:Int))=true:=decide_eq_true hi;refine ι (cR @aT @jb @rE @ei ?_);refine θ (aG @aT @ahq @ahr ?_);refine ν @aT ?_;exact fA.set (by omega) _
 ·have rE:decide ((i:Int)>0)=false:=decide_eq_false hi;have ei:decide (0<(i:Int))=false:=decide_eq_false hi;refine ι (cR @aT @jb @rE @ei ?_);refine θ (aG @aT @ahq @ahr ?_);refine ν @aT ?_;exact fA.set (by omega) _
section
variable {n:Sz} {D:List Deferred} {e:Env} {P:Program} {tab:cj} {O:VH} {ops:Array Oper} {Q:VQ}
end
theorem afQ (L:List gx) (tk:Tok) (id:FuncId) (cs:List MV) (p:gx->Bool) (O:VH) (hid:db Tryz.prog id=true) (hc:∀x∈L,∀O',O.Ge O'->VF Tryz.prog id ([.agg (cn x)]++cs) O' (aD fun m mz=>m=mb (p x)/\O'.Ge mz)) (hn:L.length<=1000000):
  VF Tryz.prog 142 [.sl L.length (L.flatMap cn) tk,.func (.func id) [] cs] O (aD fun m O'=>m=mi (idxFrom p 0 L)/\O.Ge O'):=by
 have dH:=aV nV L;refine Δ 19 [.tmp 4] Tryz.func142 ?_;refine ab @aT ?_;refine WC.jm [8] [0,1,7] (fun j:Nat=>[mi j]) (fun j O'=>O.Ge O'/\j<=L.length/\idxFrom p 0 L=idxFrom p j (L.drop j)) (fun j=>L.length - j) (0) ?_ ?_
 ·exact⟨VH.Ge.refl _,anc _,rfl⟩
 rintro j O2 ⟨aB,hj,dP⟩;by_cases h2:j<L.length
 ·have bG:=ct nV L j h2;have hcj:=hc L[j] (am6 h2) O2 aB;rw[am8 h2,idxFrom]at dP;generalize L[j]=y at*;refine ao @aT @bG ?_;refine ah.rt hcj ?_ (hb:=hid);rintro _ O3 ⟨rfl,aH⟩;cases hi:p y
  ·rw[hi]at dP;refine ab @aT ?_;exact az.N (j+1) ⟨aB.trans aH,by omega,dP⟩
  ·rw[hi,if_pos rfl]at dP;rw[dP];refine ab @aT ?_;exact aB.trans aH
 ·obtain rfl:j=L.length:=by omega
  rw[List.drop_of_length_le (by omega)]at dP;rw[dP];refine ab @aT ?_;exact⟨rfl,aB⟩
theorem afR (L:List gx) (tk:Tok) (id:FuncId) (cs:List MV) (p:gx->Bool) (O:VH) (hid:db Tryz.prog id=true) (hc:∀x∈L,∀O',O.Ge O'->VF Tryz.prog id ([.agg (cn x)]++cs) O' (aD fun m mz=>m=mb (p x)/\O'.Ge mz)) (hn:L.length<=1000000):
  VF Tryz.prog 110 [.sl L.length (L.flatMap cn) tk,.func (.func id) [] cs] O (aD fun m O'=>m=mb (L.any p)/\O.Ge O'):=by
 rw[<-F4 p L 0];refine Δ 9 [.tmp 4] Tryz.func110 ?_;refine ab @aT ?_;refine ah.rt (afQ L tk id cs p O hid hc hn) ?_;rintro _ O2 ⟨rfl,aB⟩;refine ab @aT ?_;exact aB
theorem afS (q x:gx) (k:Nat) (O:VH) (hk:O.hp k=some (.cells (cn x))) (zc:k<O.N):VF Tryz.prog 111 ([.agg (cn q)]++[.ptr k 0]) O (aD fun m O'=>m=mb (Db q x)/\O.Ge O'):=by
 have hm:=fun O'=>RE q x O'
 obtain⟨q1,q2⟩:=q;obtain⟨x1,x2⟩:=x;simp only[cn]at hm hk ⊢;show VF _ _ [.agg [.str q1,.str q2],.ptr k 0] _ _;refine υ 7 [.tmp 3] Tryz.func111 ?_;refine κ @aT ?_;refine VC.bx ?_;rintro O1 ⟨aI,eP,cW⟩;have cA:=(aI.hp k zc).trans hk;refine θ (aG @aT @eP @cA ?_);refine ah.rt (hm O1) ?_;rintro _ O2 ⟨rfl,aB⟩;refine ab @aT ?_;refine ν @aT ?_;exact aI.trans aB
theorem ai0 {O:VH} {tb k bb mm:Nat} {g:Gv} {S:rp} {t1 t2:Tok} {B:Nat} (h:tj O tb k bb mm g S t1 t2 B) {ba bx:Nat} {x:gx} (ha:O.hp ba=some (.cells [.ptr tb 0])) (hx:O.hp bx=some (.cells (cn x))) (kc:ba<O.N) (DL:bx<O.N) {i:Nat} (hi:i<S.2.length) (hX:∀y∈S.2,y.length<=1000000):
  VF Tryz.prog 109 ([mi i]++[.ptr ba 0,.ptr bx 0]) O (aD fun m O'=>m=mb ((S.2.getD i []).any (Db · x))/\O.Ge O'):=by
 have hg:S.2[i]?=some S.2[i]:=adY hi;have bG:(S.2.flatMap zZ)[i*1+0]?=some (.sl S.2[i].length (S.2[i].flatMap cn) .au):=by simpa using ki (sp:=[]) PW hg (i:=0) rfl
 rw[am7,hg,Option.getD_some];have hyl:=hX _ (am6 hi);generalize S.2[i]=Y at*;have hc:=h.cell;obtain⟨g1,g2,g3⟩:=g;simp only[bZ,zP,Ma]at hc;show VF _ _ [mi i,.ptr ba 0,.ptr bx 0] _ _;simp only[aq];refine υ 14 [.tmp 4] Tryz.func109 ?_;refine κ @aT ?_;have alG:(S.2.flatMap zZ)[i]?=some (.sl Y.length (Y.flatMap cn) .au):=by simpa using bG
 refine θ (cR @aT @ha @hc @alG ?_);refine ah.rt (afR Y .au 111 [.ptr bx 0] (Db · x) O (by kernel_rfl) (fun q _ O' u=>afS q x bx O' ((u.hp _ DL).trans hx) (adZ DL u.N)) hyl) ?_;rintro _ O2 ⟨rfl,aB⟩;refine ab @aT ?_;refine ν @aT ?_;exact aB
theorem ai1 {O:VH} {tb k bb mm:Nat} {g:Gv} {S:rp} {t1 t2:Tok} {B:Nat} (h:tj O tb k bb mm g S t1 t2 B) {ba bx:Nat} {x:gx} (ha:O.hp ba=some (.cells [.ptr tb 0])) (hx:O.hp bx=some (.cells (cn x))) (kc:ba<O.N) (DL:bx<O.N) {i:Nat} {b:Br} (hb:S.1[i]?=some b):
  VF Tryz.prog 117 ([mi i]++[.ptr ba 0,.ptr bx 0]) O (aD fun m O'=>m=mb (kW b.k==x)/\O.Ge O'):=by
 have bG:((S.1.flatMap mY).drop (i*13+3)).take 4=gR b.k:=by
  obtain⟨hi,e⟩:=Vq.1 hb;have h1:=ct mM S.1 i hi;rw[e]at h1;have h2:=congrArg (fun l=>(l.drop 3).take 4) h1;simp only[List.drop_take,List.take_take,List.drop_drop]at h2;exact h2
 have ac8:=(Vq.1 hb).1;have U9:=aV mM S.1;have hc:=h.cell;have GC:=fun O'=>ac7 b.k O'
 generalize b.k=K at*;obtain⟨k1,k2,k3,k4⟩:=K;obtain⟨x1,x2⟩:=x;obtain⟨g1,g2,g3⟩:=g;simp only[bZ,gR,cn,kW,zP,Ma]at hc bG hx GC;show VF _ _ [mi i,.ptr ba 0,.ptr bx 0] _ _;simp only[aq];refine υ 16 [.tmp 4] Tryz.func117 ?_;refine κ @aT ?_;refine χ ?_;refine VC.Bb [10,11] (tb) (fun O'=>O'.hp ba=some (.cells [.ptr tb 0])/\O'.hp bx=some (.cells [.str x1,.str x2])) (hc) (fun X=>⟨(π _ _ (fun e=>by rw[e,hc]at ha;cases ha)).trans ha,(π _ _ (fun e=>by rw[e,hc]at hx;cases hx)).trans hx⟩) ?_;intro X;refine Ω (m:=.ptr tb 0) 0 ?_ ?_
 ·rintro O2 ⟨j0,j1,j2⟩;exact dX @aT @j1
 simp only[ak];refine ae.ar 1 ?_;refine ab @aT ?_;refine ae.ar 2 ?_;refine ab @aT ?_;refine ζ (m:=.sl S.1.length (S.1.flatMap mY) t1) 3 (fun _ h=>h.1) (fun _ h=>h) ?_ ?_
 ·exact fU @aT
 simp only[ak];refine ae.ar 4 ?_;refine ab @aT ?_;refine ae.ar 5 ?_;refine ab @aT ?_;refine ae.ar 6 ?_;refine ab @aT ?_;refine Ω (m:=.agg [.str k1,.str k2,.str k3,.str k4]) 7 ?_ ?_
 ·rintro O2 ⟨j0,j1,j2⟩;exact dX @aT @bG
 simp only[ak];refine Ω (m:=.agg [.str x1,.str x2]) 9 ?_ ?_
 ·rintro O2 ⟨j0,j1,j2⟩;exact dX @aT @j2
 simp only[ak];have U5:ba≠tb:=fun e=>by rw[e,hc]at ha;cases ha
 have U6:bx≠tb:=fun e=>by rw[e,hc]at hx;cases hx
 have amS:=h.lt.1;have hO1:(O.set tb (.obj X)).N=O.N:=rfl;have cI:(O.set tb (.obj X)).hp tb=some (.obj X)/\(O.set tb (.obj X)).hp ba=some (.cells [.ptr tb 0])/\(O.set tb (.obj X)).hp bx=some (.cells [.str x1,.str x2]):=⟨ρ _ _ _,(π _ _ U5).trans ha,(π _ _ U6).trans hx⟩;have ou:∀i,i≠tb->(O.set tb (.obj X)).hp i=O.hp i:=fun i hi=>π _ _ hi
 generalize O.set tb (.obj X)=O1 at*;refine ae.call (i:=8) (GC O1) ?_;rintro _ O2 ⟨rfl,aB⟩;simp only[ak];refine⟨⟨aB.at cI.1,aB.at cI.2.1,aB.at cI.2.2⟩,?_⟩;refine ae.kf [(10,.ar),(11,.ar)] ?_;refine ab @aT ?_;refine VL.B3 aa (bb:=(k1==x1)&&((k2==x2)&&true)) (b:=(k1==x1)&&((k2==x2)&&true)) (by simp) (by simp) (.inl ⟨rfl,rfl⟩) (by kernel_rfl) (by kernel_rfl) rfl rfl rfl rfl ?_;refine ab @aT ?_;refine ν @aT ?_;refine⟨?_,⟨by show _<=O2.N;have:=aB.N;omega,fun i hi=>?_⟩⟩
 ·congr 2
  rw[ani];simp[kW]
 ·by_cases e:i=tb
  ·subst e;rw[ρ];exact hc.symm
  ·rw[π _ _ e,aB.hp i (by omega),ou i e]
theorem PY {O:VH} {tb k bb mm:Nat} {g:Gv} {S:rp} {t1 t2:Tok} {B:Nat} (h:tj O tb k bb mm g S t1 t2 B) {id:FuncId} {cs:List MV} (p:Nat->Bool) (hid:db Tryz.prog id=true) (hc:∀j,j<S.1.length->∀O',O.Ge O'->VF Tryz.prog id ([mi j]++cs) O' (aD fun m mz=>m=mb (p j)/\O'.Ge mz)) {i:Nat} (hi:i<S.1.length):
  VF Tryz.prog 108 [.ptr tb 0,mi i,.func (.func id) [] cs] O (aD fun m O'=>m=mb (wW S.1 p (i+1) i)/\O.Ge O'):=by
 have nG:=h.up;have YQ:=fun(O':VH) (u:O.Ge O')=>h.ge u
 have U9:=aV mM S.1;generalize hZ:wW S.1 p (i+1) i=Z;refine Δ 20 [.tmp 6] Tryz.func108 ?_;refine ab @aT ?_;refine WC.jm [1] [0,2] (fun x:Int×Nat=>[mi x.1]) (fun x O'=>O.Ge O'/\ -1<=x.1/\x.1<S.1.length/\x.1<x.2/\Z=wW S.1 p x.2 x.1) (fun x=>(x.1+1).toNat) (((i:Int),i+1)) ?_ ?_
 ·exact⟨VH.Ge.refl _,by dsimp only;omega,by dsimp only;omega,by dsimp only;omega,hZ.symm⟩
 rintro⟨j,f⟩ O2 ⟨aB,h1,h2,h3,dP⟩;dsimp only at h1 h2 h3 dP ⊢;by_cases hj:j>=0;rotate_left
 ·have hd:decide (j>=0)=false:=decide_eq_false hj;have iM:decide (0<=j)=false:=decide_eq_false hj
  have hf:wW S.1 p f j=false:=by
   cases f
   ·rfl
   ·unfold wW;rw[if_pos (by omega)]
  rw[dP,hf];refine aG @aT @hd @iM ?_;exact aB
 have hd:decide (j>=0)=true:=decide_eq_true hj;have iM:decide (0<=j)=true:=decide_eq_true hj;obtain⟨m,rfl⟩:∃m:Nat,j=m:=⟨j.toNat,by omega⟩
 obtain⟨f,rfl⟩:∃f',f=f'+1:=⟨f - 1,by omega⟩
 have hm:m<S.1.length:=by omega
 have hb:S.1[m]?=some S.1[m]:=adY hm;have hu:=nG m _ hb;have bG:(S.1.flatMap mY)[m*13]?=some (mi S.1[m].up):=by simpa using ki (sp:=[]) mM hb (i:=0) rfl
 have hcm:=hc m hm O2 aB;rw[wW,if_neg (by omega),anj,hb]at dP;dsimp only at dP;generalize S.1[m].up=u at*;simp only[aq]at bG hcm;refine aG @aT @hd @iM ?_;refine ah.rt hcm ?_ (hb:=hid);rintro _ O3 ⟨rfl,aH⟩;have fy:=(YQ O3 (aB.trans aH)).cell;simp only[bZ,zP,Ma]at fy;cases hp:p m
 ·rw[hp,Bool.false_or]at dP;refine aG @aT @fy @bG ?_;exact az.N (u,f) ⟨aB.trans aH,hu.1,by dsimp only;omega,by dsimp only;omega,dP⟩
 ·rw[hp,Bool.true_or]at dP;rw[dP];refine ab @aT ?_;exact aB.trans aH
abbrev mZ:List MV:=[.v (.int .i64 0),.v (.int .i64 0),.v (.int .i64 0),.str [],.str [],.str [],.str [],.str [],.v (.bool false),.str [],.sl 0 [] .nil,.v (.int .i64 0),.v (.bool false)]
def ac9 (g:Gv):Prb:=⟨2,g,0,0,0,[116,114,101,101]⟩
set_option maxHeartbeats 4000000 in
theorem afT {O:VH} {tb k bb mm:Nat} {g:Gv} {S:rp} {t1 t2:Tok} {B:Nat} (h:tj O tb k bb mm g S t1 t2 B) (hB:B<=O.N) {i:Nat} {b:Br} (hb:S.1[i]?=some b) (od:Nat) (n:pU) (hn:GW n) (hX:∀y∈S.2,y.length<=1000000) (hl:S.1.length<=4096):
  VF Tryz.prog 94 [.ptr tb 0,mi i,mi od,.agg (eA n)] O (aD fun m O'=>match zV S i b od n with
   | none=>m= .agg (nH (ac9 g))/\O.Ge O'
   | some S'=>m= .agg (nH ik)/\∃t1' t2',tj O' tb k bb mm g S' t1' t2' B/\O.N<=O'.N/\∀j,j<O.N->j≠tb->Tok.id t1≠some j->Tok.id t2≠some j->O'.hp j=O.hp j):=by
 have ac8:=(Vq.1 hb).1;have hlen:=h.len;have eh:=h.lt;have hsc:=fun(O':VH) (u:O.Ge O')=>YP (h.ge u) hb n hn
 have Cj:=fun(O':VH) (u:O.Ge O')=>YR (h.ge u) i n hn
 have GC:=fun O'=>ac7 n.k O'
 have hex:=fun(O':VH) (u:O.Ge O') (ba bx:Nat) (ha:O'.hp ba=some (.cells [.ptr tb 0])) (hx:O'.hp bx=some (.cells (cn (kW n.k)))) (kc:ba<O'.N) (DL:bx<O'.N)=>
  PY (h.ge u) (id:=109) (cs:=[.ptr ba 0,.ptr bx 0]) (fun j=>(S.2.getD j []).any (Db · (kW n.k))) (by kernel_rfl) (fun j hj O2 u2=>ai0 (h.ge (u.trans u2)) ((u2.hp _ kc).trans ha) ((u2.hp _ DL).trans hx) (adZ kc u2.N) (adZ DL u2.N) (by rw[<-hlen];exact hj) hX) ac8
 have S_:=fun(O':VH) (u:O.Ge O') (ba bx:Nat) (ha:O'.hp ba=some (.cells [.ptr tb 0])) (hx:O'.hp bx=some (.cells (cn (kW n.k)))) (kc:ba<O'.N) (DL:bx<O'.N)=>
  PY (h.ge u) (id:=117) (cs:=[.ptr ba 0,.ptr bx 0]) (fun j=>match S.1[j]? with
   | none=>false
   | some b=>kW b.k==kW n.k) (by kernel_rfl) (fun j hj O2 u2=>by
     have:=ai1 (h.ge (u.trans u2)) ((u2.hp _ kc).trans ha) ((u2.hp _ DL).trans hx) (adZ kc u2.N) (adZ DL u2.N) (adY hj);rw[adY hj];exact this) ac8
 have k9:=h.cell;have Ii:=h.map;have cz:=h.a1;have fj:=h.a2;have hne:=h.ne;have nG:=h.up;have Bd:(S.1.flatMap mY)[i*13+1]?=some (mi b.dp):=by simpa using ki (sp:=[]) mM hb (i:=1) rfl
 have U9:=aV mM S.1;have q_:=aV PW S.2;have uT:=ac6 S.1;have sF:=PX S.2;have hE:zV S i b od n=if rV i b n=0\/LP S i (kW n.k)=true then some S else if 4096<=S.1.length then none else some (S.1++[⟨i,b.dp+1,od,n.k,n.v,rV i b n,BL S i (kW n.k)⟩],S.2++[n.x]):=rfl
 rw[hE];clear hE;have ahs:LP S i (kW n.k)=wW S.1 (fun j=>(S.2.getD j []).any (Db · (kW n.k))) (i+1) i:=rfl
 have aht:BL S i (kW n.k)=wW S.1 (fun j=>match S.1[j]? with
   | none=>false
   | some b=>kW b.k==kW n.k) (i+1) i:=rfl
 rw[<-ahs]at hex;rw[<-aht]at S_;clear ahs aht;have Bk:=nG i b hb
 have U_:Ups (S.1++[⟨i,b.dp+1,od,n.k,n.v,rV i b n,BL S i (kW n.k)⟩]):=by
  intro j c hj;rw[List.getElem?_append]at hj;split at hj
  ·exact nG j c hj
  ·rename_i alH;have:=List.mem_of_getElem? hj;rw[ahK]at this;subst this;dsimp only;omega
 have hn0:=hn;generalize rV i b n=sc at*;generalize LP S i (kW n.k)=ex at*;generalize BL S i (kW n.k)=rd at*;obtain⟨⟨k1,k2,k3,k4⟩,v,s,o,x⟩:=n;obtain⟨g1,g2,g3⟩:=g;dsimp only at U_ ⊢;have hux:c7 [MV.sl x.length (x.flatMap cn) .au]=[MV.sl x.length (x.flatMap cn) .au]:=by simpa[zZ]using PX [x]
 simp only[eA,gR,wQ,bZ,cn,kW,aq,bw,zP,Ma,Qm,Zk]at hsc Cj GC hex S_ k9 Bd ⊢;refine υ 126 [.cell 8 110] Tryz.func94 ?_;refine κ @aT ?_;refine VC.gen ?_;intro O1 e1;obtain⟨aI,cW,hA1,ot,hC1⟩:=lx _ _ _ e1;clear e1;refine ξ @aT @ot ?_;refine ah.rt (GC O1) ?_;rintro _ O2 ⟨rfl,aB⟩;have fA:=aI.trans aB;have eZ:=aB.N;refine ab @aT ?_;refine VC.al ?_;rintro O3 ⟨aH,XS,gy⟩;have ew:=fA.trans aH;have YS:=(aB.trans aH).at hA1;have hB3:=(aB.trans aH).at ot;have hC3:=(aB.trans aH).at hC1;refine θ (aG @aT @YS @hB3 ?_);refine ah.rt (hsc O3 ew) ?_;rintro _ O4 ⟨rfl,aY⟩;have gW:=ew.trans aY;have gO:=aY.N;have hA4:=aY.at YS;have hB4:=aY.at hB3;have XW:=aY.at hC3;have qV:=aY.at XS;refine ab @aT ?_;refine ξ @aT @hA4 ?_;refine ah.rt (hex O4 gW O.N O2.N hA4 qV (by omega) (by omega)) ?_;rintro _ O5 ⟨rfl,bD⟩;have ox:=gW.trans bD;have eU:=bD.N;have YT:=bD.at hA4;have rq:=bD.at hB4;have YU:=bD.at XW;have hX5:=bD.at qV;clear aI aB aH aY bD hA1 YS hA4 ot hB3 hB4 hC1 hC3 XW XS qV fA ew gW;refine ab @aT ?_;have h5:=h.ge ox;have alI:=ox.N;have rW:=h5.cell;simp only[bZ,zP,Ma]at rW
 have LQ:∀X,tj (O5.set (O.N+2) X) tb k bb mm ⟨g1,g2,g3⟩ S t1 t2 B/\O.N<=(O5.set (O.N+2) X).N/\∀j,j<O.N->j≠tb->Tok.id t1≠some j->Tok.id t2≠some j->(O5.set (O.N+2) X).hp j=O.hp j:=fun X=>
  ⟨h.ge (ox.set (by omega) X),alI,fun j h1 _ _ _=>ω (ox.hp j h1)⟩
 have amT:(.agg [.v (.int .i64 0),.str [],.str [],.str [],.v (.int .i64 0),.v (.int .i64 0),.v (.int .i64 0),.str []]:MV)= .agg (nH ik):=rfl;by_cases eS:sc=0
 ·have e1:(sc==0)=true:=by simpa using eS
  rw[if_pos (.inl eS)];refine θ (aG @aT @e1 @YU ?_);exact⟨rfl,t1,t2,LQ _⟩
 have e1:(sc==0)=false:=by simpa using eS
 cases ex;rotate_left
 ·rw[if_pos (.inr rfl)];refine θ (aG @aT @e1 @YU ?_);exact⟨rfl,t1,t2,LQ _⟩
 rw[if_neg (by rintro(h | h);exact eS h;cases h)];by_cases iH:4096<=S.1.length
 ·have e2:decide (S.1.length>=(4096:Int))=true:=decide_eq_true (by omega);have e3:decide ((4096:Int)<=S.1.length)=true:=decide_eq_true (by omega);rw[if_pos iH];refine θ (kw7 @aT @e1 @e2 @e3 @YT @rW @YU ?_);exact⟨rfl,ox.set (by omega) _⟩
 rw[if_neg iH];have e2:decide (S.1.length>=(4096:Int))=false:=decide_eq_false (by omega);have e3:decide ((4096:Int)<=S.1.length)=false:=decide_eq_false (by omega);refine θ (kw7 @aT @e1 @e2 @e3 @YT @rW @YU ?_);refine Θ [1,4,7,8,9,12] (fun nb:Nat=>[mi i,.ptr O.N 0,.ptr (O.N+1) 0,.ptr (O.N+2) 0,.ptr O2.N 0,.ptr nb 0]) (fun nb O'=>O5.Ge O'/\O5.N<=nb/\nb<O'.N/\O'.hp nb=some (.cells [.v (.int .i64 i),.v (.int .i64 (b.dp+1)),.v (.int .i64 od),.str k1,.str k2,.str k3,.str k4,.str [],.v (.bool false),.str v,.sl 0 [] .au,.v (.int .i64 sc),.v (.bool false)])) ?_ ?_
 ·have amU:tb≠O.N+1:=by omega
  obtain⟨J,hJ⟩:∃J:VH->Prop,∀O',J O' ↔ (O'.hp tb=O5.hp tb/\O'.hp O.N=O5.hp O.N/\O.Ge O'/\O5.N<=O'.N/\∀j,j<O5.N->j≠O.N+1->O'.hp j=O5.hp j):=⟨_,fun _=>Iff.rfl⟩
  refine VC.Bb [20] (O.N+1) (J) (rq) (fun X=>(hJ _).2 ⟨π _ _ (by omega),π _ _ (by omega),ox.set (by omega) _,adX _,fun j _ h=>π _ _ h⟩) ?_;intro X
  have lD:∀A B:VH,A.Ge B->(A.hp (O.N+1)=some (.obj X)/\J A)->(B.hp (O.N+1)=some (.obj X)/\J B):=fun A B g h=>by
   have h2:=(hJ _).1 h.2;exact⟨g.at h.1,(hJ _).2 ⟨g.at h2.1,g.at h2.2.1,h2.2.2.1.trans g,ajk h2.2.2.2.1 g.N,fun j h3 h4=>g.at (h2.2.2.2.2 j h3 h4)⟩⟩
  refine ae.ar 0 ?_;refine ab @aT ?_;refine Ω (m:=.ptr tb 0) 1 ?_ ?_
  ·rintro O2 ⟨i0,i1⟩;exact dX @aT (((hJ _).1 i1).2.1.trans YT)
  simp only[ak];refine ae.ar 2 ?_;refine ab @aT ?_;refine ae.ar 3 ?_;refine ab @aT ?_;refine ae.ar 5 ?_;refine ab @aT ?_;refine ae.ar 10 ?_;refine ab @aT ?_;refine ae.ar 11 ?_;refine ab @aT ?_;refine ζ (m:=.agg [.str k1,.str k2,.str k3,.str k4]) 12 (fun _ h=>h.1) (fun _ h=>h) ?_ ?_
  ·exact fU @aT
  simp only[ak];refine Ω (m:=.ptr tb 0) 13 ?_ ?_
  ·rintro O2 ⟨i0,i1⟩;exact dX @aT (((hJ _).1 i1).2.1.trans YT)
  simp only[ak];refine ae.ar 14 ?_;refine ab @aT ?_;refine ζ (m:=.agg [.str k1,.str k2,.str k3,.str k4,.v (.bool false),.str v,.sl 0 [] .au,.v (.int .i64 s),.v (.bool o),.sl x.length (x.flatMap cn) .au]) 15 (fun _ h=>h.1) (fun _ h=>h) ?_ ?_
  ·exact fU @aT
  simp only[ak];refine ae.ar 17 ?_;refine ab @aT ?_;have H7:(O5.set (O.N+1) (.obj X)).hp (O.N+1)=some (.obj X)/\J (O5.set (O.N+1) (.obj X)):=⟨ρ _ _ _,(hJ _).2 ⟨π _ _ (by omega),π _ _ (by omega),ox.set (by omega) _,adX _,fun j _ h=>π _ _ h⟩⟩;have nO7:(O5.set (O.N+1) (.obj X)).N=O5.N:=rfl;generalize O5.set (O.N+1) (.obj X)=O7 at*;refine ae.acv (i:=4) (j:=16) (k:=19) ?_ ?_ ?_
  ·have jt:=((hJ _).1 H7.2).1.trans rW;refine aL.o1 ?_;refine ao @aT @jt ?_;refine⟨H7,?_⟩;refine ae.ar 6 ?_;refine ab @aT ?_;refine ae.ar 7 ?_;refine ab @aT ?_;refine Ω (m:=.v (.int .i64 b.dp)) 8 ?_ ?_
   ·rintro O2 ⟨i0,i1⟩;exact dX @aT @Bd
   simp only[ak];refine ae.ar 9 ?_;refine ab @aT ?_;refine ae.pair (i:=16) (j:=19) ?_ ?_
   ·refine aL.j8 (Cj O7 ((hJ _).1 H7.2).2.2.1) ?_;rintro _ m4 ⟨rfl,PZ⟩;simp only[ak];have wX:=lD _ _ PZ H7;have alJ:=PZ.N;refine⟨wX,?_⟩;refine ae.ar 18 ?_;refine ab @aT ?_;refine ae.op (i:=19) ?_;refine ab @aT ?_;have GX:VH.Ge m4 (VH.push m4 (.cells mZ)):=(VH.Ge.refl _).push _;have oO:=lD _ _ GX wX;have GY:(VH.push m4 (.cells mZ)).hp m4.N=some (.cells mZ):=Ξ _ _;have ac_:(VH.push m4 (.cells mZ)).N=m4.N+1:=rfl;refine⟨?_,?_⟩
    ·first | exact oO | exact⟨wX.1,oO.2⟩
    generalize VH.push m4 (.cells mZ)=wY at*;have lE:=GY;have mr:=oO;have uj:=((hJ _).1 mr.2).2.2.2.1;have pj:=(π (k:=O.N+1) wY (.cells [.str k1,.str k2,.str k3,.str k4,.v (.bool false),.str v,.sl 0 [] .au,.v (.int .i64 s),.v (.bool o),.sl x.length (x.flatMap cn) .au]) (show m4.N≠O.N+1 by omega)).trans lE;refine ae.kf [(20,.one)] ?_;simp only[mZ]at lE pj;refine aG @aT @lE @pj ?_;refine aA.mk m4.N ⟨⟨by show O5.N<=wY.N;omega,fun j h1=>?_⟩,by omega,by show m4.N<wY.N;omega,ρ _ _ _⟩;rw[π _ _ (by omega)];by_cases e:j=O.N+1
    ·subst e;rw[ρ];exact rq.symm
    ·rw[π _ _ e];exact((hJ _).1 mr.2).2.2.2.2 j h1 e
   ·refine aL.o1 ?_;refine ab @aT ?_;have ada:VH.Ge O7 (VH.push O7 (.cells mZ)):=(VH.Ge.refl _).push _;have tn:=lD _ _ ada H7;have Va:(VH.push O7 (.cells mZ)).hp O7.N=some (.cells mZ):=Ξ _ _;have alK:(VH.push O7 (.cells mZ)).N=O7.N+1:=rfl;refine⟨?_,?_⟩
    ·first | exact tn | exact⟨H7.1,tn.2⟩
    generalize VH.push O7 (.cells mZ)=O7a at*;refine ae.call (i:=16) (Cj O7a ((hJ _).1 tn.2).2.2.1) ?_;rintro _ wZ ⟨rfl,ru⟩;simp only[ak];have sq:=lD _ _ ru tn;have adb:=ru.N;refine⟨sq,?_⟩;have GZ:=ru.at Va;refine ae.ar 18 ?_;refine ab @aT ?_;have lE:=GZ;have mr:=sq;have uj:=((hJ _).1 mr.2).2.2.2.1;have pj:=(π (k:=O.N+1) wZ (.cells [.str k1,.str k2,.str k3,.str k4,.v (.bool false),.str v,.sl 0 [] .au,.v (.int .i64 s),.v (.bool o),.sl x.length (x.flatMap cn) .au]) (show O7.N≠O.N+1 by omega)).trans lE;refine ae.kf [(20,.one)] ?_;simp only[mZ]at lE pj;refine aG @aT @lE @pj ?_;refine aA.mk O7.N ⟨⟨by show O5.N<=wZ.N;omega,fun j h1=>?_⟩,by omega,by show O7.N<wZ.N;omega,ρ _ _ _⟩;rw[π _ _ (by omega)];by_cases e:j=O.N+1
    ·subst e;rw[ρ];exact rq.symm
    ·rw[π _ _ e];exact((hJ _).1 mr.2).2.2.2.2 j h1 e
  ·refine aL.j8 (Cj O7 ((hJ _).1 H7.2).2.2.1) ?_;rintro _ m4 ⟨rfl,PZ⟩;simp only[ak];have wX:=lD _ _ PZ H7;have alJ:=PZ.N;refine⟨wX,?_⟩;refine ae.pair (i:=4) (j:=19) ?_ ?_
   ·have jt:=((hJ _).1 wX.2).1.trans rW;refine aL.o1 ?_;refine ao @aT @jt ?_;refine⟨wX,?_⟩;refine ae.ar 6 ?_;refine ab @aT ?_;refine ae.ar 7 ?_;refine ab @aT ?_;refine Ω (m:=.v (.int .i64 b.dp)) 8 ?_ ?_
    ·rintro O2 ⟨i0,i1⟩;exact dX @aT @Bd
    simp only[ak];refine ae.ar 9 ?_;refine ab @aT ?_;refine ae.ar 18 ?_;refine ab @aT ?_;refine ae.op (i:=19) ?_;refine ab @aT ?_;have GX:VH.Ge m4 (VH.push m4 (.cells mZ)):=(VH.Ge.refl _).push _;have oO:=lD _ _ GX wX;have GY:(VH.push m4 (.cells mZ)).hp m4.N=some (.cells mZ):=Ξ _ _;have ac_:(VH.push m4 (.cells mZ)).N=m4.N+1:=rfl;refine⟨?_,?_⟩
    ·first | exact oO | exact⟨wX.1,oO.2⟩
    generalize VH.push m4 (.cells mZ)=wY at*;have lE:=GY;have mr:=oO;have uj:=((hJ _).1 mr.2).2.2.2.1;have pj:=(π (k:=O.N+1) wY (.cells [.str k1,.str k2,.str k3,.str k4,.v (.bool false),.str v,.sl 0 [] .au,.v (.int .i64 s),.v (.bool o),.sl x.length (x.flatMap cn) .au]) (show m4.N≠O.N+1 by omega)).trans lE;refine ae.kf [(20,.one)] ?_;simp only[mZ]at lE pj;refine aG @aT @lE @pj ?_;refine aA.mk m4.N ⟨⟨by show O5.N<=wY.N;omega,fun j h1=>?_⟩,by omega,by show m4.N<wY.N;omega,ρ _ _ _⟩;rw[π _ _ (by omega)];by_cases e:j=O.N+1
    ·subst e;rw[ρ];exact rq.symm
    ·rw[π _ _ e];exact((hJ _).1 mr.2).2.2.2.2 j h1 e
   ·refine aL.o1 ?_;refine ab @aT ?_;have GX:VH.Ge m4 (VH.push m4 (.cells mZ)):=(VH.Ge.refl _).push _;have oO:=lD _ _ GX wX;have GY:(VH.push m4 (.cells mZ)).hp m4.N=some (.cells mZ):=Ξ _ _;have ac_:(VH.push m4 (.cells mZ)).N=m4.N+1:=rfl;refine⟨?_,?_⟩
    ·first | exact oO | exact⟨wX.1,oO.2⟩
    generalize VH.push m4 (.cells mZ)=wY at*;have jt:=((hJ _).1 oO.2).1.trans rW;refine ae.op (i:=4) ?_;refine ao @aT @jt ?_;refine⟨oO,?_⟩;refine ae.ar 6 ?_;refine ab @aT ?_;refine ae.ar 7 ?_;refine ab @aT ?_;refine Ω (m:=.v (.int .i64 b.dp)) 8 ?_ ?_
    ·rintro O2 ⟨i0,i1⟩;exact dX @aT @Bd
    simp only[ak];refine ae.ar 9 ?_;refine ab @aT ?_;refine ae.ar 18 ?_;refine ab @aT ?_;have lE:=GY;have mr:=oO;have uj:=((hJ _).1 mr.2).2.2.2.1;have pj:=(π (k:=O.N+1) wY (.cells [.str k1,.str k2,.str k3,.str k4,.v (.bool false),.str v,.sl 0 [] .au,.v (.int .i64 s),.v (.bool o),.sl x.length (x.flatMap cn) .au]) (show m4.N≠O.N+1 by omega)).trans lE;refine ae.kf [(20,.one)] ?_;simp only[mZ]at lE pj;refine aG @aT @lE @pj ?_;refine aA.mk m4.N ⟨⟨by show O5.N<=wY.N;omega,fun j h1=>?_⟩,by omega,by show m4.N<wY.N;omega,ρ _ _ _⟩;rw[π _ _ (by omega)];by_cases e:j=O.N+1
    ·subst e;rw[ρ];exact rq.symm
    ·rw[π _ _ e];exact((hJ _).1 mr.2).2.2.2.2 j h1 e
  ·refine aL.o1 ?_;refine ab @aT ?_;have ada:VH.Ge O7 (VH.push O7 (.cells mZ)):=(VH.Ge.refl _).push _;have tn:=lD _ _ ada H7;have Va:(VH.push O7 (.cells mZ)).hp O7.N=some (.cells mZ):=Ξ _ _;have alK:(VH.push O7 (.cells mZ)).N=O7.N+1:=rfl;refine⟨?_,?_⟩
   ·first | exact tn | exact⟨H7.1,tn.2⟩
   generalize VH.push O7 (.cells mZ)=O7a at*;refine ae.pair (i:=4) (j:=16) ?_ ?_
   ·have jt:=((hJ _).1 tn.2).1.trans rW;refine aL.o1 ?_;refine ao @aT @jt ?_;refine⟨tn,?_⟩;refine ae.ar 6 ?_;refine ab @aT ?_;refine ae.ar 7 ?_;refine ab @aT ?_;refine Ω (m:=.v (.int .i64 b.dp)) 8 ?_ ?_
    ·rintro O2 ⟨i0,i1⟩;exact dX @aT @Bd
    simp only[ak];refine ae.ar 9 ?_;refine ab @aT ?_;refine ae.call (i:=16) (Cj O7a ((hJ _).1 tn.2).2.2.1) ?_;rintro _ wZ ⟨rfl,ru⟩;simp only[ak];have sq:=lD _ _ ru tn;have adb:=ru.N;refine⟨sq,?_⟩;have GZ:=ru.at Va;refine ae.ar 18 ?_;refine ab @aT ?_;have lE:=GZ;have mr:=sq;have uj:=((hJ _).1 mr.2).2.2.2.1;have pj:=(π (k:=O.N+1) wZ (.cells [.str k1,.str k2,.str k3,.str k4,.v (.bool false),.str v,.sl 0 [] .au,.v (.int .i64 s),.v (.bool o),.sl x.length (x.flatMap cn) .au]) (show O7.N≠O.N+1 by omega)).trans lE;refine ae.kf [(20,.one)] ?_;simp only[mZ]at lE pj;refine aG @aT @lE @pj ?_;refine aA.mk O7.N ⟨⟨by show O5.N<=wZ.N;omega,fun j h1=>?_⟩,by omega,by show O7.N<wZ.N;omega,ρ _ _ _⟩;rw[π _ _ (by omega)];by_cases e:j=O.N+1
    ·subst e;rw[ρ];exact rq.symm
    ·rw[π _ _ e];exact((hJ _).1 mr.2).2.2.2.2 j h1 e
   ·refine aL.j8 (Cj O7a ((hJ _).1 tn.2).2.2.1) ?_;rintro _ wZ ⟨rfl,ru⟩;simp only[ak];have sq:=lD _ _ ru tn;have adb:=ru.N;refine⟨sq,?_⟩;have GZ:=ru.at Va;have jt:=((hJ _).1 sq.2).1.trans rW;refine ae.op (i:=4) ?_;refine ao @aT @jt ?_;refine⟨sq,?_⟩;refine ae.ar 6 ?_;refine ab @aT ?_;refine ae.ar 7 ?_;refine ab @aT ?_;refine Ω (m:=.v (.int .i64 b.dp)) 8 ?_ ?_
    ·rintro O2 ⟨i0,i1⟩;exact dX @aT @Bd
    simp only[ak];refine ae.ar 9 ?_;refine ab @aT ?_;refine ae.ar 18 ?_;refine ab @aT ?_;have lE:=GZ;have mr:=sq;have uj:=((hJ _).1 mr.2).2.2.2.1;have pj:=(π (k:=O.N+1) wZ (.cells [.str k1,.str k2,.str k3,.str k4,.v (.bool false),.str v,.sl 0 [] .au,.v (.int .i64 s),.v (.bool o),.sl x.length (x.flatMap cn) .au]) (show O7.N≠O.N+1 by omega)).trans lE;refine ae.kf [(20,.one)] ?_;simp only[mZ]at lE pj;refine aG @aT @lE @pj ?_;refine aA.mk O7.N ⟨⟨by show O5.N<=wZ.N;omega,fun j h1=>?_⟩,by omega,by show O7.N<wZ.N;omega,ρ _ _ _⟩;rw[π _ _ (by omega)];by_cases e:j=O.N+1
    ·subst e;rw[ρ];exact rq.symm
    ·rw[π _ _ e];exact((hJ _).1 mr.2).2.2.2.2 j h1 e
 rintro nb O6 ⟨fi,amV,amW,jz⟩;have Jm:=ox.trans fi;have mU:=fi.N;refine ξ @aT @jz ?_;refine VC.gen ?_;intro O7 e7;have zD:O7.hp nb=some (.cells [.v (.int .i64 i),.v (.int .i64 (b.dp+1)),.v (.int .i64 od),.str k1,.str k2,.str k3,.str k4,.str v,.v (.bool false),.str v,.sl 0 [] .au,.v (.int .i64 sc),.v (.bool false)]):=by rw[e7];exact ρ _ _ _
 have wM:∀j,j≠nb->O7.hp j=O6.hp j:=fun j hj=>by rw[e7];exact π _ _ hj
 have uY:O7.N=O6.N:=by rw[e7];rfl
 have Dd:O.Ge O7:=by rw[e7];exact Jm.set (by omega) _
 clear e7;have hA7:=(wM _ (by omega)).trans (fi.at YT);have hB7:=(wM _ (by omega)).trans (fi.at rq);have hC7:=(wM _ (by omega)).trans (fi.at YU);have hX7:=(wM _ (by omega)).trans (fi.at hX5);refine ξ @aT @zD ?_;refine ξ @aT @hA7 ?_;refine ah.rt (S_ O7 Dd O.N O2.N hA7 hX7 (by omega) (by omega)) ?_;rintro _ O8 ⟨rfl,fV⟩;have DN:=fV.N;have t_:=fV.at zD;refine ao @aT @t_ ?_;refine VC.gen ?_;intro O9 e9;have bN:O9.hp nb=some (.cells [.v (.int .i64 i),.v (.int .i64 (b.dp+1)),.v (.int .i64 od),.str k1,.str k2,.str k3,.str k4,.str v,.v (.bool false),.str v,.sl 0 [] .au,.v (.int .i64 sc),.v (.bool rd)]):=by rw[e9];exact ρ _ _ _
 have Cy:∀j,j≠nb->O9.hp j=O8.hp j:=fun j hj=>by rw[e9];exact π _ _ hj
 have zM:O9.N=O8.N:=by rw[e9];rfl
 have sW:O.Ge O9:=by rw[e9];exact(Dd.trans fV).set (by omega) _
 clear e9;have hA9:=(Cy _ (by omega)).trans (fV.at hA7);have hB9:=(Cy _ (by omega)).trans (fV.at hB7);have hC9:=(Cy _ (by omega)).trans (fV.at hC7);clear YT hA7 rq hB7 YU hC7 hX5 hX7 jz zD t_ wM Cy Dd Jm fi fV S_ hex hsc Cj GC;have h9:=h.ge sW;have Ev:=h9.cell;simp only[bZ,zP,Ma]at Ev;have cf:=aR (tk:=t1) (tk':=.full) (n:=S.1.length) (k:=1) (cs:=S.1.flatMap mY) (ds:=[.v (.int .i64 i),.v (.int .i64 (b.dp+1)),.v (.int .i64 od),.str k1,.str k2,.str k3,.str k4,.str v,.v (.bool false),.str v,.sl 0 [] .au,.v (.int .i64 sc),.v (.bool rd)]) B6 Xl.1.1 h9.a1 U9 rfl rfl (by decide) (by decide) (by omega) (by simp only[maxLen];omega);have lz:∀j,j<O9.N->O9.hp j≠some .tok->(O9.after t1).hp j=O9.hp j:=fun j h1 h2=>App.off h9.a1 h1 h2
 have Lm:=(lz tb (by omega) (by rw[Ev];simp)).trans Ev;refine χ ?_;refine WC.bP (.held [10]) [(0,.rd),(1,.rd),(2,.rd),(3,.rd),(4,.rd),(5,.rd),(6,.one),(7,.one),(8,.one),(9,.rd),(10,.one)] ?_;refine cR @aT @hA9 @Ev @bN ?_;refine VL.app cf ?_;refine ao @aT @Lm ?_
 have hN:(S.1.flatMap mY++[.v (.int .i64 i),.v (.int .i64 (b.dp+1)),.v (.int .i64 od),.str k1,.str k2,.str k3,.str k4,.str v,.v (.bool false),.str v,.sl 0 [] .au,.v (.int .i64 sc),.v (.bool rd)]:List MV)=(S.1++[(⟨i,b.dp+1,od,⟨k1,k2,k3,k4⟩,v,sc,rd⟩:Br)]).flatMap mY:=by
  rw[List.flatMap_append,ana];rfl
 have hNl:S.1.length+1=(S.1++[(⟨i,b.dp+1,od,⟨k1,k2,k3,k4⟩,v,sc,rd⟩:Br)]).length:=by simp
 rw[hN];have Ln:=b_.after h9.a1;have GB:(O9.after t1).N=O9.N+1:=VH.dZ _ _;have hAp:App (O9.after t1) B 13 (.own O9.N 13):=App.after (by have:=sW.N;omega);have alL:App (O9.after t1) B 1 t2:=Ln.app h9.a2 hne;refine VC.gen ?_;intro gB sM;have I3:gB.N=O9.N+1:=by rw[sM];exact GB
 have G3:gB.hp tb=some (.cells [.ptr k 0,.ptr bb 0,.str g1,.str g2,.str g3,.map mm,.sl (S.1.length+1) ((S.1++[(⟨i,b.dp+1,od,⟨k1,k2,k3,k4⟩,v,sc,rd⟩:Br)]).flatMap mY) (.own O9.N 13),.sl S.2.length (S.2.flatMap zZ) t2]):=by rw[sM];exact ρ _ _ _
 have BA:∀j,j≠tb->gB.hp j=(O9.after t1).hp j:=fun j hj=>by rw[sM];exact π _ _ hj
 have ai2:App gB B 13 (.own O9.N 13):=by rw[sM];exact hAp.o7 (by rw[Lm];simp)
 have Ta:App gB B 1 t2:=by rw[sM];exact alL.o7 (by rw[Lm];simp)
 clear sM;have alM:=(BA _ (by omega)).trans ((lz _ (by omega) (by rw[hA9];simp)).trans hA9);have alN:=(BA _ (by omega)).trans ((lz _ (by omega) (by rw[hB9];simp)).trans hB9);have P1:=(BA _ (by omega)).trans ((lz _ (by omega) (by rw[hC9];simp)).trans hC9);have UP:=aR (tk:=t2) (tk':=.full) (n:=S.2.length) (k:=1) (cs:=S.2.flatMap zZ) (ds:=[.sl x.length (x.flatMap cn) .au]) agu FD Ta q_ rfl rfl (by decide) (by decide) (by omega) (by simp only[maxLen];omega);have ade:∀j,j<gB.N->gB.hp j≠some .tok->(gB.after t2).hp j=gB.hp j:=fun j h1 h2=>App.off Ta h1 h2
 have hcB:=(ade tb (by omega) (by rw[G3];simp)).trans G3;refine χ ?_;refine WC.bP (.held [11]) [(0,.rd),(1,.rd),(2,.rd),(3,.rd),(4,.rd),(5,.rd),(6,.rd),(7,.one),(8,.one),(9,.one),(10,.rd),(11,.one)] ?_;refine cR @aT @alM @G3 @alN ?_;refine VL.app UP ?_;refine ao @aT @hcB ?_
 have hX:(S.2.flatMap zZ++[.sl x.length (x.flatMap cn) .au]:List MV)=(S.2++[x]).flatMap zZ:=by
  rw[List.flatMap_append,ana];rfl
 rw[hX];have hKB:=b_.after Ta;have hnB:(gB.after t2).N=gB.N+1:=VH.dZ _ _;have hBp:App (gB.after t2) B 1 (.own gB.N 1):=App.after (by have:=sW.N;omega)
 have alO:App (gB.after t2) B 13 (.own O9.N 13):=hKB.app ai2 (fun j h1 h2=>by
  injection h2 with h2;subst h2;have:=(App.nD h9.a2 h1).2;omega)
 refine VC.gen ?_;intro vg YV;have agB:vg.N=gB.N+1:=by rw[YV];exact hnB
 have adf:vg.hp tb=some (.cells [.ptr k 0,.ptr bb 0,.str g1,.str g2,.str g3,.map mm,.sl (S.1.length+1) ((S.1++[(⟨i,b.dp+1,od,⟨k1,k2,k3,k4⟩,v,sc,rd⟩:Br)]).flatMap mY) (.own O9.N 13),.sl (S.2.length+1) ((S.2++[x]).flatMap zZ) (.own gB.N 1)]):=by rw[YV];exact ρ _ _ _
 have ahu:∀j,j≠tb->vg.hp j=(gB.after t2).hp j:=fun j hj=>by rw[YV];exact π _ _ hj
 have ai3:App vg B 13 (.own O9.N 13):=by rw[YV];exact alO.o7 (by rw[hcB];simp)
 have ai4:App vg B 1 (.own gB.N 1):=by rw[YV];exact hBp.o7 (by rw[hcB];simp)
 clear YV;have adg:=(ahu _ (by omega)).trans ((ade _ (by omega) (by rw[P1];simp)).trans P1);refine ξ @aT @adg ?_;refine ν @aT ?_
 have aW:∀j,j<O.N->j≠tb->Tok.id t1≠some j->Tok.id t2≠some j->vg.hp j=O.hp j:=fun j h1 h2 h3 h4=>by
  rw[ahu j h2,hKB.hp j (by have:=sW.N;omega) h4,BA j h2,Ln.hp j (by have:=sW.N;omega) h3,sW.hp j h1]
 have hmm:mm≠tb:=fun e=>by have:=h.map;rw[e,k9]at this;cases this
 have U7:vg.hp mm=some (.map (cP []) 0):=(aW mm eh.2 hmm (fun e=>by have:=App.tok cz e;rw[Ii]at this;cases this) (fun e=>by have:=App.tok fj e;rw[Ii]at this;cases this)).trans Ii;have hng:=sW.N;refine⟨rfl,.own O9.N 13,.own gB.N 1,⟨?_,ω U7,ai3.o7 (by rw[adg];simp),ai4.o7 (by rw[adg];simp),?_,?_,?_,U_⟩,?_,?_⟩
 ·rw[π _ _ (by omega),adf];simp[bZ]
 ·intro j h1 h2;injection h1 with h1;injection h2 with h2;omega
 ·show tb<vg.N/\mm<vg.N;omega
 ·simp[hlen]
 ·show O.N<=vg.N;omega
 ·intro j h1 h2 h3 h4;rw[π _ _ (by omega)];exact aW j h1 h2 h3 h4
structure vi (s:Bs):Prop where
 id:fw s=true
 pl:∀c∈s,jZ c=true/\c≠36
theorem nmi {s:Bs} (h:s.all mu=true) (h2:1<=s.length/\s.length<=64) (h3:∀c∈s,c≠36):vi s:=by
 refine⟨by unfold fw;rw[h,decide_eq_true h2.1,decide_eq_true h2.2];rfl,fun c hc=>⟨?_,h3 c hc⟩⟩;have:=ano.1 h c hc;unfold mu at this;exact(ajr.1 this).1
theorem vi.vl {s:Bs} (h:vi s):lZ s:=by
 have h1:=h.id;unfold fw at h1;simp only[ang,decide_eq_true_eq]at h1;exact⟨fun e=>by rw[e]at h1;simp at h1,fun c hc=>by unfold S7;rw[(h.pl c hc).1];rfl⟩
theorem vi.len {s:Bs} (h:vi s):s.length<=64:=by
 have h1:=h.id;unfold fw at h1;simp only[ang,decide_eq_true_eq]at h1;exact h1.2
theorem tr {s:Bs} (h:∀c∈s,c≠36):sm s:=by
 unfold sm;induction s with
 | nil=>decide
 | cons b l ih=>
   have hb:=h b (adW ..);have ih:=ih fun c hc=>h c (ahJ _ hc)
   have iT:=Lib.index_ge l [36,123]
   have hp:([36,123]:Bs).isPrefixOf (b::l)=false:=by
    rw[List.isPrefixOf,show((36:UInt8)==b)=false from beq_eq_false_iff_ne.2 (Ne.symm hb),am5]
   unfold Lib.index;rw[hp,if_neg (by decide)];rw[show Lib.index l [36,123]= -1 by omega];decide
theorem vi.plain {s:Bs} (h:vi s):iq s:=⟨tr fun c hc=>(h.pl c hc).2,ajk h.len (by decide)⟩
theorem CE:vi gS:=nmi (by decide) (by decide) (by decide)
def D8 (v:Bs):Prop:=v=v1\/v=[50]
theorem D8.one:D8 v1:=.inl rfl
theorem D8.vl {v:Bs} (h:D8 v):lZ v:=by rcases h with rfl | rfl<;>exact⟨by decide,by decide⟩
theorem D8.plain {v:Bs} (h:D8 v):iq v:=by rcases h with rfl | rfl<;>exact⟨tr (by decide),by decide⟩
theorem D8.parse {v:Bs} (h:D8 v):rS v=((false,v,[]),0):=by
 rcases h with rfl | rfl
 ·kernel_rfl
 ·kernel_rfl
theorem D8.len {v:Bs} (h:D8 v):v.length=1:=by rcases h with rfl | rfl<;>rfl
structure Tb (d:Dp):Prop where
 g:d.g=gS
 a:vi d.a
 v:D8 d.v
 t:d.t=[]
 c:d.c=[]
 s:d.s=0\/d.s=1\/d.s=2\/d.s=3\/d.s=4\/d.s=5
 o:d.o=0\/d.o=1
 x:∀i∈d.x,(i.g=[42]\/vi i.g)/\vi i.a
 xl:d.x.length<=1
theorem G4 {s:Bs} (h:s=[42]\/vi s):lZ s/\s.length<=64/\iE s=true:=by
 rcases h with rfl | h
 ·exact⟨⟨by decide,by decide⟩,by decide,by decide⟩
 ·refine⟨h.vl,h.len,?_⟩;unfold iE AU xA;rw[h.id];simp
theorem Tb.w {d:Dp} (h:Tb d):LK d:=by
 have hg:=h.g;have hv:=h.v;refine⟨by rw[hg];exact CE.vl,h.a.vl,hv.vl,by rw[hg];decide,ajk h.a.len (by decide),by rw[hv.len];decide,h.t,h.c,h.s,h.o,fun i hi=>?_,by have:=h.xl;omega⟩;obtain⟨h1,h2⟩:=h.x i hi;obtain⟨a1,a2,a3⟩:=G4 h1;obtain⟨b1,b2,b3⟩:=G4 (.inr h2);exact⟨⟨a1,by omega,a3⟩,b1,by omega,b3⟩
theorem Tb.q {d:Dp} (h:Tb d):SB d:=by
 have hg:=h.g;have hv:=h.v;refine⟨by rw[hg];exact CE.plain,by rw[hg];exact CE.id,h.a.plain,h.a.id,hv.plain,(fun e=>by have:=hv.len;rw[e]at this;cases this),hv.parse,by rw[h.t];exact⟨tr (by simp),by decide⟩,.inr h.t,by rw[h.c];exact⟨tr (by simp),by decide⟩,.inr h.c,by have:=h.xl;omega⟩
structure Calm (g:Gv) (D:List Dp):Prop where
 hg:g.g=gS
 ha:vi g.a
 hv:D8 g.v
 d:∀d∈D,Tb d
 ne:D.Pairwise fun x y=>x.a≠y.a
 n:D.length<=40
section
variable {g:Gv} {D:List Dp}
theorem Calm.w (h:Calm g D):YK (dN g D):=
 ⟨by show lZ g.g;rw[h.hg];exact CE.vl,h.ha.vl,h.hv.vl,by show g.g.length<=_;rw[h.hg];decide,ajk h.ha.len (by decide),by show g.v.length<=_;rw[h.hv.len];decide,fun d hd=>(h.d d hd).w,ajk h.n (by decide)⟩
theorem Calm.short (h:Calm g D):ac5 g D:=
 ⟨⟨by rw[h.hg];decide,h.ha.len,by rw[h.hv.len];decide⟩,fun d hd=>by
   have hd:=h.d d hd;refine⟨by rw[hd.g];decide,hd.a.len,by rw[hd.v.len];decide,hd.xl,fun i hi=>⟨(G4 (hd.x i hi).1).2.1,(hd.x i hi).2.len⟩⟩,h.n⟩
theorem Calm.build (h:Calm g D):iG (cG (fX (dN g D)))= .ok (fX (dN g D)):=YM h.w (fun d hd=>(h.d d hd).xl) h.n
theorem Calm.read (h:Calm g D):pN (fX (dN g D))= .ok (dN g D):=YL h.w
theorem Calm.text (h:Calm g D):(cG (fX (dN g D))).length<=65536:=YO h.w h.short
theorem Calm.gav (h:Calm g D):uo g:=by
 obtain⟨h1,h2,h3⟩:=h.short.g;have:(64:Nat)<=maxLen:=by decide
 exact⟨by omega,by omega,by omega⟩
theorem Calm.may (h:Calm g D):AT g=true:=by
 unfold AT;rw[h.hg,CE.id,h.ha.id];simp only[Bool.and_self,anf];rcases h.hv with e | e<;>rw[e]<;>decide
theorem Calm.q (h:Calm g D):PmQ (dN g D) g:=by
 have hs:=h.short.g;refine⟨⟨⟨by show(0:Nat)<=_;omega,by show(0:Nat)<=_;omega,by show D.length<=_;have:=h.n;omega,by simp[dN],fun d hd=>by have:=(h.d d hd).xl;omega⟩,rfl,by simp[dN],fun d hd=>?_,by simp[dN]⟩,rfl,rfl,rfl,?_,h.ha.plain,?_,⟨tr (by simp[dN]),by show(0:Nat)<=_;omega⟩,by show fw (D6 [])=true;decide,rfl,rfl,fun d hd=>(h.d d hd).q,by show D.length<=_;have:=h.n;omega,?_⟩
 ·have hd:=h.d d hd;have:=hd.a.len;refine⟨by rw[hd.g];decide,by omega,by rw[hd.v.len];decide,by rw[hd.t];decide,by rw[hd.c];decide,by have:=hd.xl;omega⟩
 ·show iq g.g;rw[h.hg];exact CE.plain
 ·exact h.hv.plain
 ·refine h.ne.imp fun{x y} hxy e=>hxy ?_
  have:=congrArg Ky.a e;exact this
end
set_option linter.defProp false in
def yO:=Qn aS<|Qn NB FH
theorem YX {O:VH} {bb md k:Nat} {MD:fG} {cm:Nat} (hB:SJ O bb md k MD cm) {g:Gv} (hg:uo g) {M:Mdl} (P2:iC (fa g) MD=some (.agg (mh M))):
  VF Tryz.prog 105 [.ptr bb 0,.agg (bZ g),.sl 0 [] .nil] O (aD fun m O'=>m= .agg (mh M)/\O.Ge O'):=by
 have r4:=wI hg;have hBc:=fun(O':VH) (g':O.Ge O')=>(hB.ge g')
 obtain⟨g1,g2,g3⟩:=g;obtain⟨⟨m1,m2,m3⟩,pk,P,L⟩:=M;simp only[mh,bZ,zP,Ma]at P2 ⊢;refine υ 120 [.cell 6 215] Tryz.func105 ?_;refine κ @aS ?_;refine VC.gen ?_;intro O1 e1;obtain⟨aI,cW,cz,cD⟩:=hY _ _ e1;clear e1;have ot:=hBc O1 aI;have hlB:=hB.lt;have ia:∀M:List MV,O1.Ge ((O1.push (.cells nu)).set O1.N (.cells M))/\((O1.push (.cells nu)).set O1.N (.cells M)).hp O1.N=some (.cells M)/\((O1.push (.cells nu)).set O1.N (.cells M)).hp (O.N+1)=some (.cells [.str [],.str [],.str [],.str [],.sl 0 [] .nil,.sl 0 [] .nil,.sl 0 [] .nil]):=fun M=>⟨(((VH.Ge.refl O1).push _)).set (adX _) _,ρ _ _ _,ω ((Υ _ _ (by omega)).trans cD)⟩
 ·refine χ (χ ?_);refine VC.qO [11] (fun O'=>O'.hp bb=some (.cells [.ptr k 0,.map md])/\O'.hp O.N=some (.cells [.str g1,.str g2,.str g3])/\O1.Ge O') (⟨ot.cell,cz,VH.Ge.refl _⟩) ?_;refine ae.ar 0 ?_;refine ab @aS ?_;refine ae.ar 1 ?_;refine ab @aS ?_;refine ae.ar 2 ?_;refine ab @aS ?_;refine Ω (m:=.map md) 3 ?_ ?_
  ·rintro O2 ⟨j0,j1,j2⟩;exact dX @aS @j0
  simp only[ak];refine Ω (m:=.agg [.str g1,.str g2,.str g3]) 4 ?_ ?_
  ·rintro O2 ⟨j0,j1,j2⟩;exact dX @aS @j1
  simp only[ak];have lD:∀A B:VH,A.Ge B->(A.hp bb=some (.cells [.ptr k 0,.map md])/\A.hp O.N=some (.cells [.str g1,.str g2,.str g3])/\O1.Ge A)->(B.hp bb=some (.cells [.ptr k 0,.map md])/\B.hp O.N=some (.cells [.str g1,.str g2,.str g3])/\O1.Ge B):=fun A B g h=>⟨(g.hp _ (by have:=h.2.2.N;have:=ot.lt;omega)).trans h.1,(g.hp _ (by have:=h.2.2.N;omega)).trans h.2.1,h.2.2.trans g⟩
  have qZ:O1.hp bb=some (.cells [.ptr k 0,.map md])/\O1.hp O.N=some (.cells [.str g1,.str g2,.str g3])/\O1.Ge O1:=⟨ot.cell,cz,VH.Ge.refl _⟩;have uX:∀A:VH,A.Ge (A.push (.cells nu)):=fun A=>(VH.Ge.refl A).push _
  have hJs:∀X,((O1.push (.cells nu)).set O1.N X).hp bb=some (.cells [.ptr k 0,.map md])/\((O1.push (.cells nu)).set O1.N X).hp O.N=some (.cells [.str g1,.str g2,.str g3])/\O1.Ge ((O1.push (.cells nu)).set O1.N X):=fun X=>lD O1 _ ((uX O1).set (adX _) _) qZ
  refine ae.pair (i:=5) (j:=9) ?_ ?_
  ·refine aL.sj (δ wH aa (l:=fa ⟨g1,g2,g3⟩) (te:=⟨_,7,136,nu⟩) Tryz.underlying172 FH.1.1 rfl rfl ot.map ot.ok rfl rfl r4) ?_;rw[P2];refine⟨qZ,?_⟩;refine ae.ar 6 ?_;refine ab @aS ?_;refine ae.ar 7 ?_;refine ab @aS ?_;refine ae.ar 8 ?_;refine ab @aS ?_;refine ae.op (i:=9) ?_;refine ab @aS ?_;refine⟨⟨qZ.1,qZ.2.1,uX _⟩,?_⟩;refine ae.op (i:=10) ?_;refine ab @aS ?_;refine⟨⟨qZ.1,qZ.2.1,(hJs _).2.2⟩,?_⟩;refine ae.bP [(11,.one)] ?_;refine ab @aS ?_;obtain⟨c1,c2,c3⟩:=ia [.str m1,.str m2,.str m3,.str pk,.sl P.length (P.flatMap bm) .au,.sl 0 [] .au,.sl L.length (L.flatMap eA) .au];generalize (O1.push (.cells nu)).set O1.N (.cells [.str m1,.str m2,.str m3,.str pk,.sl P.length (P.flatMap bm) .au,.sl 0 [] .au,.sl L.length (L.flatMap eA) .au])=O3 at*;refine ι (aG @aS @c2 @c3 ?_);exact(aI.trans c1).set (by omega) _
  ·refine aL.o1 ?_;refine ab @aS ?_;refine⟨⟨qZ.1,qZ.2.1,uX _⟩,?_⟩;refine ae.one (i:=5) (aL.sj (δ wH aa (l:=fa ⟨g1,g2,g3⟩) (te:=⟨_,7,136,nu⟩) Tryz.underlying172 FH.1.1 rfl rfl ((uX _).hp _ ot.lt.2 |>.trans ot.map) ot.ok rfl rfl r4) ?_);rw[P2];refine⟨lD _ _ (uX _) qZ,?_⟩;refine ae.ar 6 ?_;refine ab @aS ?_;refine ae.ar 7 ?_;refine ab @aS ?_;refine ae.ar 8 ?_;refine ab @aS ?_;refine ae.op (i:=10) ?_;refine ab @aS ?_;refine⟨⟨qZ.1,qZ.2.1,(hJs _).2.2⟩,?_⟩;refine ae.bP [(11,.one)] ?_;refine ab @aS ?_;obtain⟨c1,c2,c3⟩:=ia [.str m1,.str m2,.str m3,.str pk,.sl P.length (P.flatMap bm) .au,.sl 0 [] .au,.sl L.length (L.flatMap eA) .au];generalize (O1.push (.cells nu)).set O1.N (.cells [.str m1,.str m2,.str m3,.str pk,.sl P.length (P.flatMap bm) .au,.sl 0 [] .au,.sl L.length (L.flatMap eA) .au])=O3 at*;refine ι (aG @aS @c2 @c3 ?_);exact(aI.trans c1).set (by omega) _
theorem adh {O:VH} {a b:Nat} {K:VH->Prop} (h:K O):gQ Tryz.prog 103 [.ptr a 0,.ptr b 0] none O K:=by
 refine gQ.rec (d:=5) Tryz.func103 (Nat.lt_of_lt_of_eq (by decide:5<13) rfl) ?_;show WC _ _ ⟨13,0⟩ _ _ _ _ _;simp only[cK,ajt,Nat.reduceAdd,AJ];refine ao @yO @wi ?_;refine VL.pure (by simp) (fun _=>.inl rfl) rfl rfl (i_.Fw (bb:=true) Tryz.underlying20 rfl (.inl ⟨rfl,rfl⟩)) ?_;refine WL.sound aa ?_;refine ao @yO @wi ?_;exact h
theorem P3 {l:List Bs} {M:fG} {p:List Bs×MV×Nat}:iC l (M++[p])=match iC l M with
  | some x=>some x
  | none=>if p.1=l then some p.2.1 else none:=by
 unfold iC;rw[List.find?_append];cases h:M.find? (·.1==l)with
 | some x=>rfl
 | none=>
   simp only[Option.map_none,Option.none_or,List.find?_cons,List.find?_nil];by_cases e:p.1=l
   ·rw[if_pos e,show(p.1==l)=true by simpa using e];rfl
   ·rw[if_neg e,show(p.1==l)=false by simpa using e];rfl
def Own (k ke kv:Nat) (E V:fG) (j:Nat):Prop:=j=k\/j=ke\/j=kv\/(∃(i c:Nat) (p:List Bs),E[i]?=some (p,MV.ptr j 0,c))\/∃p∈V,∃n cs tk,p.2.1=MV.sl n cs tk/\Tok.id tk=some j
structure CB (O:VH) (U:Nat->Prop) (k bb md:Nat) (S:List (Gv×List Dp)):Prop where
 ex:∃L E V ke kv ce cv r a MD cm,oc O k L E V ke kv ce cv r a/\SJ O bb md k MD cm/\L.length=S.length/\(∀(i:Nat) (g:Gv) (D:List Dp),S[i]?=some (g,D)->∃o,L[i]?=some (g,cG (fX (dN g D)),o)/\((o=none/\iC (fa g) MD=none)\/(o=some (dN g D)/\iC (fa g) MD=some (.agg (mh (jf g (dN g D)))))))
  /\(md≠ke/\md≠kv)/\∀j,Own k ke kv E V j->U j
 lt:∀j,U j->j<O.N
 b:U bb/\U md
theorem wN.low {O O':VH} {V:fG} {N:Nat} {U:Nat->Prop} (h:wN O V N) (hb:∀p∈V,∀n cs tk (i:Nat),p.2.1=MV.sl n cs tk->Tok.id tk=some i->U i) (hn:O.N<=O'.N) (hi:∀i,U i->O'.hp i=O.hp i):wN O' V N:=
 ⟨fun p hp=>by
  obtain⟨n,cs,tk,h1,h2,h3,h4,h5⟩:=h.row p hp;exact⟨n,cs,tk,h1,h2,h3,h4.at hn (fun i e=>hi i (hb p hp n cs tk i h1 e)),h5⟩,h.one⟩
theorem oc.mv {O O':VH} {U:Nat->Prop} {k ke kv ce cv:Nat} {L:List (Gv×Bs×Option Pm)} {E V:fG} {r a:Int} (hS:oc O k L E V ke kv ce cv r a) (hU:∀j,Own k ke kv E V j->U j) (hn:O.N<=O'.N) (hi:∀i,U i->O'.hp i=O.hp i):oc O' k L E V ke kv ce cv r a:=by
 have h1:=hU k (.inl rfl);have h2:=hU ke (.inr (.inl rfl));have h3:=hU kv (.inr (.inr (.inl rfl)));have hl:=hS.st.lt;refine⟨⟨(hi _ h1).trans hS.st.cell,(hi _ h2).trans hS.st.Dj,(hi _ h3).trans hS.st.Jg,hS.st.Ol,hS.st.vok,hS.st.ptr,⟨by omega,by omega,by omega⟩,hS.st.ne⟩,hS.len,fun i g t o e=>?_,hS.dis,hS.ver.low (fun p hp n cs tk i e1 e2=>hU i (.inr (.inr (.inr (.inr ⟨p,hp,n,cs,tk,e1,e2⟩))))) hn hi⟩;obtain⟨q,c,k1,k2,k3⟩:=hS.Lb i g t o e;exact⟨q,c,k1,by omega,(hi _ (hU q (.inr (.inr (.inr (.inl ⟨i,c,_,k1⟩)))))).trans k3⟩
theorem CB.mv {O O':VH} {U:Nat->Prop} {k bb md:Nat} {S:List (Gv×List Dp)} (h:CB O U k bb md S) (hn:O.N<=O'.N) (hi:∀i,U i->O'.hp i=O.hp i):CB O' U k bb md S:=by
 obtain⟨⟨L,E,V,ke,kv,ce,cv,r,a,MD,cm,hS,hB,hL,Ld,jQ,hU⟩,eh,cD,cJ⟩:=h;refine⟨⟨L,E,V,ke,kv,ce,cv,r,a,MD,cm,hS.mv hU hn hi,?_,hL,Ld,jQ,hU⟩,fun j hj=>adZ (eh j hj) hn,cD,cJ⟩;have hl:=hB.lt;exact⟨(hi _ cD).trans hB.cell,(hi _ cJ).trans hB.map,hB.ok,by omega,by omega⟩
theorem CB.ge {O O':VH} {U:Nat->Prop} {k bb md:Nat} {S:List (Gv×List Dp)} (h:CB O U k bb md S) (u:O.Ge O'):CB O' U k bb md S:=h.mv u.N fun i hi=>u.hp i (h.lt i hi)
theorem YY {O:VH} {U:Nat->Prop} {k bb md:Nat} {S:List (Gv×List Dp)} (h:CB O U k bb md S) {i:Nat} {g:Gv} {D:List Dp} (hi:S[i]?=some (g,D)) (hc:Calm g D) (hS:S.Pairwise fun x y=>x.1≠y.1):
  VF Tryz.prog 105 [.ptr bb 0,.agg (bZ g),.sl 0 [] .nil] O (aD fun m O'=>m= .agg (mh (jf g (dN g D)))/\CB O' U k bb md S/\O.N<=O'.N/\∀j,¬U j->j<O.N->O'.hp j=O.hp j):=by
 have h0:=h;obtain⟨⟨L,E,V,ke,kv,ce,cv,r,a,MD,cm,hSt,hB,hL,Ld,jQ,hU⟩,eh,cD,cJ⟩:=h;obtain⟨o,DW,ho⟩:=Ld i g D hi;rcases ho with⟨rfl,dF⟩ | ⟨rfl,P2⟩;rotate_left
 ·refine VF.mono ?_ (YX hB hc.gav P2);rintro r O' hr;cases r with
  | panic m=>exact hr.elim
  | ret m=>
    obtain⟨rfl,u⟩:=hr;exact⟨rfl,h0.ge u,u.N,fun j _ hj=>u.hp j hj⟩
 refine VF.mono ?_ (acw hB hSt DW hc.gav hc.text hc.build hc.read hc.q dF jQ);rintro r O' hr;cases r with
 | panic m=>exact hr.elim
 | ret m=>
   obtain⟨rfl,q,c,hEq,⟨r',a',alP⟩,hB',hn,hf⟩:=hr;have hqU:=hU q (.inr (.inr (.inr (.inl ⟨i,c,_,hEq⟩))));have hkU:=hU k (.inl rfl);refine⟨rfl,⟨⟨L.set i (g,cG (fX (dN g D)),some (dN g D)),E,V,ke,kv,ce,cv,r',a',_,_,alP,hB',by rw[ans];exact hL,?_,jQ,hU⟩,fun j hj=>adZ (eh j hj) hn,cD,cJ⟩,hn,fun j h5 h6=>hf j h6 (fun e=>h5 (e▸hkU)) (fun e=>h5 (e▸hqU)) (fun e=>h5 (e▸cJ))⟩;intro j g' D' hj;obtain⟨o',hLj,DQ⟩:=Ld j g' D' hj;by_cases e:j=i
   ·subst e;rw[hi]at hj;injection hj with hj;injection hj with e1 e2
    subst e1;subst e2
    refine⟨some (dN g D),by rw[List.getElem?_set_self (Vq.1 DW).1],.inr ⟨rfl,?_⟩⟩;rw[P3,dF];dsimp only;rw[if_pos rfl]
   ·have hne:g'≠g:=by
     have h7:=(Vq.1 hj);have h8:=(Vq.1 hi);obtain⟨l7,e7⟩:=h7;obtain⟨l8,e8⟩:=h8;rcases Nat.lt_or_gt_of_ne e with eh | eh
     ·have:=(ann.1 hS) j i l7 l8 eh;rw[e7,e8]at this;exact this
     ·have:=(ann.1 hS) i j l8 l7 eh;rw[e7,e8]at this;exact fun e=>this e.symm
    refine⟨o',by rw[List.getElem?_set_ne (fun e2=>e e2.symm)];exact hLj,?_⟩;rw[P3];rcases DQ with⟨e1,e2⟩ | ⟨e1,e2⟩
    ·refine .inl ⟨e1,?_⟩;rw[e2];dsimp only;rw[if_neg (fun e3=>hne (Jp e3).symm)]
    ·refine .inr ⟨e1,?_⟩;rw[e2]
theorem YZ {O:VH} {U:Nat->Prop} {k bb md:Nat} {S:List (Gv×List Dp)} (h:CB O U k bb md S) {i:Nat} {g:Gv} {D:List Dp} (hi:S[i]?=some (g,D)) (hc:Calm g D) (hS:S.Pairwise fun x y=>x.1≠y.1):
  VF Tryz.prog 91 [.ptr bb 0,.agg (bZ g)] O (aD fun m O'=>m= .tuple [.agg (mh (jf g (dN g D))),.agg (nH ik)]/\CB O' U k bb md S/\O.N<=O'.N/\∀j,¬U j->j<O.N->O'.hp j=O.hp j):=by
 refine VF.fg ?_;have Cu:=fun(O':VH) (u:O.Ge O')=>YY (h.ge u) hi hc hS
 have ahv:=fun O'=>afA (jf g (dN g D)) O' (by show(3:Nat)<=_;omega) (by show(D.map fN).length<=_;rw[ahL];have:=hc.n;omega) (by
  intro n hn;obtain⟨d,hd,rfl⟩:=ajn.1 hn;have:=(hc.d d hd).xl;show d.x.length<=_;omega)
 have ia:=fun j=>h.lt j
 obtain⟨g1,g2,g3⟩:=g;have hM:mh (jf ⟨g1,g2,g3⟩ (dN ⟨g1,g2,g3⟩ D))=[.str g1,.str g2,.str g3,.str lC,.sl 3 ((iJ (dN ⟨g1,g2,g3⟩ D)).flatMap bm) .au,.sl 0 [] .au,.sl (D.map fN).length ((D.map fN).flatMap eA) .au]:=rfl;have sF:=gH (iJ (dN ⟨g1,g2,g3⟩ D));have c8:=xM (D.map fN);rw[hM]at Cu ahv ⊢;generalize (iJ (dN ⟨g1,g2,g3⟩ D)).flatMap bm=X1 at*;generalize (D.map fN).flatMap eA=X2 at*;generalize (D.map fN).length=n2 at*;simp only[bZ,nH,ik,aq]at Cu ⊢;refine VF.F5 (lo:=6) (k:=17) (rs:=[.cell 4 215,.cell 5 110]) Tryz.func91 (Enters.sH (by kernel_rfl)) ?_;simp only[cK,ajt,Nat.reduceAdd];refine ab @yO ?_;refine VC.gen ?_;rintro O1 sT;obtain⟨aI,cW,cz,cD,eS⟩:=lx _ _ _ sT;clear sT;refine ν @yO ?_;refine⟨_,rfl,fun D'=>?_⟩;refine θ (aG @yO @wd @cz ?_);refine ah.rt (Cu O1 aI) ?_;rintro _ O2 ⟨rfl,EE,eZ,kY⟩;refine ao @yO @wd ?_;refine ah.rt (ahv O2) ?_;rintro _ O3 ⟨rfl,aH⟩;have cB:=aH.at ((kY _ (fun hu=>by have:=ia _ hu;omega) (by omega)).trans cD);have fy:=aH.at ((kY _ (fun hu=>by have:=ia _ hu;omega) (by omega)).trans eS);have gy:=aH.N;refine cR @yO @wd @cB @fy ?_;refine ο @yO @wd ?_;refine adh ?_;refine ao @yO @wd ?_;rw[sF,c8];refine⟨rfl,(EE.ge aH).mv (adX _) fun j hj=>?_,by omega,fun j hj hl=>?_⟩
 ·have:=ia j hj;rw[π _ _ (by omega),π _ _ (by omega)]
 ·rw[π _ _ (by omega),π _ _ (by omega),aH.hp j (by omega),kY j hj (by omega),aI.hp j hl]
set_option linter.defProp false in
def gn:=Qn aT<|Qn yO<|Qn agt<|Qn FH IX
structure Plain (S:List (Gv×List Dp)):Prop where
 c:∀p∈S,Calm p.1 p.2
 ne:S.Pairwise fun x y=>x.1≠y.1
def ai5:Option (List Br)->Gv->MV->Prop
 | none,g,m=>m= .tuple [.sl 0 [] .nil,.agg (nH (ac9 g))]
 | some N,_,m=>∃t,m= .tuple [.sl N.length (N.flatMap mY) t,.agg (nH ik)]
theorem G5 {S:List (Gv×List Dp)} {g:Gv} {l:List pU} (h:iO S g=some l):∃(i:Nat) (D:List Dp),S[i]?=some (g,D)/\l=D.map fN:=by
 unfold iO at h;obtain⟨p,h1,rfl⟩:=Option.map_eq_some_iff.1 h;obtain⟨g',D⟩:=p;have h2:=List.find?_some h1;have h2:g'=g:=by simpa using h2
 subst h2;obtain⟨i,hi,e⟩:=List.mem_iff_getElem.1 (List.mem_of_find?_eq_some h1);exact⟨i,D,by rw[adY hi,e],rfl⟩
theorem adi {d:Dp} (h:Tb d):GW (fN d)/\(fN d).x.length<=1:=by
 have:=h.a.len;refine⟨⟨?_,?_,?_,?_⟩,h.xl⟩
 ·show d.g.length<=_;rw[h.g];decide
 ·show d.a.length<=_;omega
 ·show(if wS d.t=[]then lC else wS d.t).length<=_;rw[h.t];decide
 ·show d.c.length<=_;rw[h.c];decide
theorem tj.mv {O O':VH} {tb k bb mm:Nat} {g:Gv} {S:rp} {t1 t2:Tok} {B:Nat} (h:tj O tb k bb mm g S t1 t2 B) (hn:O.N<=O'.N) (h1:B<=tb) (h2:B<=mm) (hf:∀j,B<=j->j<O.N->O'.hp j=O.hp j):tj O' tb k bb mm g S t1 t2 B:=by
 have hl:=h.lt;exact⟨(hf _ h1 hl.1).trans h.cell,(hf _ h2 hl.2).trans h.map,h.a1.at hn (fun i e=>hf i (App.nD h.a1 e).1 (App.nD h.a1 e).2),h.a2.at hn (fun i e=>hf i (App.nD h.a2 e).1 (App.nD h.a2 e).2),h.ne,⟨by omega,by omega⟩,h.len,h.up⟩
theorem Tc {S S':rp} {i:Nat} {b:Br} {od:Nat} {n:pU} (h:zV S i b od n=some S') (hl:S.1.length<=4096) (hi:S.1[i]?=some b):S'.1.length<=4096/\S'.1[i]?=some b/\∀y∈S'.2,y∈S.2\/y=n.x:=by
 unfold zV at h;split at h
 ·injection h with h;subst h
  exact⟨hl,hi,fun y hy=>.inl hy⟩
 ·split at h
  ·cases h
  ·injection h with h;subst h
   unfold aho;refine⟨by rw[agc];simp;omega,by rw[anl (Vq.1 hi).1];exact hi,fun y hy=>?_⟩;rcases ahP.1 hy with hy | hy
   ·exact .inl hy
   ·exact .inr (ahK.1 hy)
set_option maxHeartbeats 4000000 in
theorem afU {O:VH} {U:Nat->Prop} {k bb md:Nat} {S:List (Gv×List Dp)} (h:CB O U k bb md S) (hS:Plain S) (g:Gv) {r:Option (List Br)} (hr:zY (iO S) g=some r):
  VF Tryz.prog 78 [.ptr k 0,.ptr bb 0,.agg (bZ g)] O (aD fun m O'=>ai5 r g m/\O.N<=O'.N/\∀j,¬U j->j<O.N->O'.hp j=O.hp j):=by
 obtain⟨g1,g2,g3⟩:=g;simp only[bZ];refine υ 116 [.tmp 6,.cell 7 110] Tryz.func78 ?_;refine κ @gn ?_;refine VC.gen ?_;intro O1 e1;obtain⟨aI,cW,cz,cD⟩:=hY _ _ e1;clear e1;have k8:Fp (kU [(0,1),(1,1),(2,3),(5,1),(6,1),(7,1)]) [.ptr k 0,.ptr bb 0,.str g1,.str g2,.str g3,.v (.map none),.sl 0 [] .nil,.sl 0 [] .nil] (.map O1.N) [] (some (5,1))=some [.ptr k 0,.ptr bb 0,.str g1,.str g2,.str g3,.map O1.N,.sl 0 [] .nil,.sl 0 [] .nil]:=rfl;refine θ (aG @gn @cz @k8 ?_);refine VC.gen ?_;intro O2 e2;obtain⟨aB,eZ,BM,si⟩:=hY _ _ e2;clear e2;have fj:=aB.at cz;have cJ:=aB.at cD;refine θ (aG @gn @fj @si ?_);refine VC.gen ?_;intro O3 e3;have ht3:O3.hp (O1.N+1)=some (.cells [.ptr k 0,.ptr bb 0,.str g1,.str g2,.str g3,.map O1.N,.sl 1 [.v (.int .i64 (-1)),.v (.int .i64 0),.v (.int .i64 0),.str g1,.str g2,.str [106,97,114],.str [],.str g3,.v (.bool false),.str g3,.sl 0 [] .nil,.v (.int .i64 0),.v (.bool false)] .full,.sl 0 [] .nil]):=by rw[e3];exact ρ _ _ _
 have By:∀j,j≠O1.N+1->O3.hp j=O2.hp j:=fun j hj=>by rw[e3];exact π _ _ hj
 have gy:O3.N=O2.N:=by rw[e3];rfl
 clear e3;refine ξ @gn @ht3 ?_;refine VC.gen ?_;intro O4 e4;have DT:O4.hp (O1.N+1)=some (.cells [.ptr k 0,.ptr bb 0,.str g1,.str g2,.str g3,.map O1.N,.sl 1 [.v (.int .i64 (-1)),.v (.int .i64 0),.v (.int .i64 0),.str g1,.str g2,.str [106,97,114],.str [],.str g3,.v (.bool false),.str g3,.sl 0 [] .nil,.v (.int .i64 0),.v (.bool false)] .full,.sl 1 [.sl 0 [] .nil] .full]):=by rw[e4];exact ρ _ _ _
 have sk:∀j,j≠O1.N+1->O4.hp j=O2.hp j:=fun j hj=>by rw[e4,π _ _ hj];exact By j hj
 have gO:O4.N=O2.N:=by rw[e4];exact gy
 clear e4 ht3 By gy;refine VC.Ym DT (cs':=[.ptr k 0,.ptr bb 0]++bZ ⟨g1,g2,g3⟩++[.map O1.N,.sl [zX ⟨g1,g2,g3⟩].length ([zX ⟨g1,g2,g3⟩].flatMap mY) .full,.sl [([]:List gx)].length ([([]:List gx)].flatMap zZ) .full]) ?_ ?_
 ·simp only[bZ,zX,lC,mY,gR,wQ,zZ,ana,zP,Ma,al_,Qm,Zk,aq,bw]
  repeat' first
   | exact ff.refl _
   | exact Wk.refl _
   | exact Wk.tok
   | refine ff.cons ?_ ?_
   | refine Wk.sl ?_
 refine VC.gen ?_;intro O5 e5
 have alQ:tj O5 (O1.N+1) k bb O1.N ⟨g1,g2,g3⟩ ([zX ⟨g1,g2,g3⟩],[[]]) .full .full O.N:=by
  refine⟨by rw[e5];exact ρ _ _ _,?_,trivial,trivial,fun i h=>(by cases h),?_,rfl,?_⟩
  ·rw[e5,π _ _ (by omega),sk _ (by omega)];exact BM
  ·rw[e5];show O1.N+1<O4.N/\O1.N<O4.N;omega
  ·intro j c hj;have hl:=(Vq.1 hj).1;simp only[al_]at hl;obtain rfl:j=0:=by omega
   simp only[List.getElem?_cons_zero,Option.some.injEq]at hj;subst hj;simp[zX]
 have gM:∀j,j<O2.N->j≠O1.N+1->O5.hp j=O2.hp j:=fun j _ h2=>by rw[e5,π _ _ h2,sk j h2]
 have eU:O5.N=O2.N:=by rw[e5];exact gO
 have du:=(gM _ (by omega) (by omega)).trans cJ;have ox:O.Ge O5:=⟨by rw[eU,eZ];omega,fun j hj=>(gM j (by omega) (by omega)).trans ((aI.trans aB).hp j hj)⟩;clear e5 sk gO DT gM;refine Θ [7,8] (fun _:rp×Tok×Tok=>[.ptr (O.N+1) 0,.ptr (O1.N+1) 0]) (fun x O'=>tj O' (O1.N+1) k bb O1.N ⟨g1,g2,g3⟩ x.1 x.2.1 x.2.2 O.N/\r=some x.1.1/\O'.hp (O.N+1)=O5.hp (O.N+1)/\O5.N<=O'.N/\∀j,¬U j->j<O.N->O'.hp j=O.hp j) ?_ ?_
 ·refine κ @gn ?_;refine τ ?_;refine Γ [9] [1,7,8] (fun x:Nat×rp×Tok×Tok=>[mi x.1]) (fun x O'=>x.1<=x.2.1.1.length/\x.2.1.1.length<=4096/\zW (iO S) (5000 - x.1) x.1 x.2.1=some r/\tj O' (O1.N+1) k bb O1.N ⟨g1,g2,g3⟩ x.2.1 x.2.2.1 x.2.2.2 O.N/\CB O' U k bb md S/\O'.hp (O.N+1)=O5.hp (O.N+1)/\(∀y∈x.2.1.2,y.length<=1000000)/\O5.N<=O'.N/\∀j,¬U j->j<O.N->O'.hp j=O.hp j) (fun x=>5000 - x.1) ((0,([zX ⟨g1,g2,g3⟩],[[]]),.full,.full)) ?_ ?_
  ·exact⟨anc _,by show(1:Nat)<=4096;decide,hr,alQ,h.ge ox,rfl,by simp,adX _,fun j _ hj=>ox.hp j hj⟩
  rintro⟨i,S',t1,t2⟩ O6 ⟨hi,hl,n5,yd,hC6,jz,hX6,mU,P4⟩;dsimp only at hi hl n5 yd hX6 ⊢;have uD:=yd.cell;simp only[bZ,zP,Ma]at uD;have U9:=aV mM S'.1;by_cases ei:i<S'.1.length;rotate_left
  ·obtain rfl:i=S'.1.length:=by omega
   have Jd:r=some S'.1:=by
    rw[show 5000 - S'.1.length=(4999 - S'.1.length)+1 by omega,zW,List.getElem?_eq_none (adX _)]at n5;injection n5 with n5;exact n5.symm
   refine ο @gn @uD ?_;exact aA.mk (S',t1,t2) ⟨yd,Jd,jz,mU,P4⟩
  have ou:((i:Int)+1)=((i+1:Nat):Int):=by omega
  have hb:S'.1[i]?=some S'.1[i]:=adY ei;have bG:=ct mM S'.1 i ei;generalize S'.1[i]=b at*;have CF:(S'.1.flatMap mY)[i*13+12]?=some (mb b.rd):=by simpa using ki (sp:=[]) mM hb (i:=12) rfl
  simp only[bw]at CF;rw[show 5000 - i=(4999 - i)+1 by omega,zW,hb]at n5;dsimp only at n5;refine ξ @gn @uD ?_;refine Θ [1,7,8,9] (fun _:rp×Tok×Tok=>[.ptr bb 0,.ptr (O.N+1) 0,.ptr (O1.N+1) 0,mi i]) (fun x O'=>i+1<=x.1.1.length/\x.1.1.length<=4096/\zW (iO S) (4999 - i) (i+1) x.1=some r/\tj O' (O1.N+1) k bb O1.N ⟨g1,g2,g3⟩ x.1 x.2.1 x.2.2 O.N/\CB O' U k bb md S/\O'.hp (O.N+1)=O5.hp (O.N+1)/\(∀y∈x.1.2,y.length<=1000000)/\O5.N<=O'.N/\∀j,¬U j->j<O.N->O'.hp j=O.hp j) ?_ ?_;rotate_left
  ·rintro⟨S2,ta,tb⟩ O7 ⟨q1,q2,q3,q4,q5,q6,q7,q8,q9⟩;refine ο @gn @ou ?_;exact az.N (i+1,S2,ta,tb) ⟨q1,q2,by rw[show 5000 - (i+1)=4999 - i by omega];exact q3,q4,q5,q6,q7,q8,q9⟩ (hm:=(by dsimp only at q1 q2 ⊢;omega))
  refine τ ?_;cases S_:b.rd;rotate_left
  ·rw[S_]at n5 CF;rw[if_pos rfl]at n5;refine ι (aG @gn @uD @CF ?_);exact aA.mk (S',t1,t2) ⟨ei,hl,n5,yd,hC6,jz,hX6,mU,P4⟩
  rw[S_]at n5 CF;rw[if_neg (by decide)]at n5;cases hm:iO S (rU b)with
  | none=>rw[hm]at n5;cases n5
  | some l=>
  rw[hm]at n5;dsimp only at n5;obtain⟨q,D,hq,rfl⟩:=G5 hm;have LR:=hS.c _ (List.mem_of_getElem? hq);dsimp only at LR;have Cu:=fun(O':VH) (u:O6.Ge O')=>YZ (hC6.ge u) hq LR hS.ne
  have hM:mh (jf (rU b) (dN (rU b) D))=[.str (rU b).g,.str (rU b).a,.str (rU b).v,.str lC,.sl 3 ((iJ (dN (rU b) D)).flatMap bm) .au,.sl 0 [] .au,.sl (D.map fN).length ((D.map fN).flatMap eA) .au]:=rfl;rw[hM]at Cu;generalize (iJ (dN (rU b) D)).flatMap bm=X1 at*;simp only[nH,ik,aq]at Cu;refine θ (aG @gn @uD @CF ?_);refine θ (aG @gn @uD @bG ?_);refine ah.rt (afP b O6) ?_;rintro _ O7 ⟨rfl,eV⟩;refine ab @gn ?_;refine ah.rt (Cu O7 eV) ?_;rintro _ O8 ⟨rfl,hC8,DN,hf8⟩;refine ab @gn ?_;refine VC.gen ?_;intro O9 e9;have hUl:∀j,U j->j<O.N:=h.lt
  have Yx:O9.hp O8.N=some (.cells [.str (rU b).g,.str (rU b).a,.str (rU b).v,.str lC,.sl 3 X1 .au,.sl 0 [] .au,.sl (D.map fN).length ((D.map fN).flatMap eA) .au]):=by rw[e9,π _ _ (by omega)];exact ρ _ _ _
  have hp9:O9.hp (O8.N+1)=some (.cells [.v (.int .i64 0),.str [],.str [],.str [],.v (.int .i64 0),.v (.int .i64 0),.v (.int .i64 0),.str []]):=by rw[e9];exact ρ _ _ _
  have adj:O8.Ge O9:=by rw[e9];exact((((VH.Ge.refl _).push _).push _).set (adX _) _).set (by omega) _
  have zM:O9.N=O8.N+2:=by rw[e9];rfl
  clear e9;have uY:=eV.N;have Vb:∀j,¬U j->j<O6.N->O9.hp j=O6.hp j:=fun j h1 h2=>by rw[adj.hp j (by omega),hf8 j h1 (by omega),eV.hp j h2]
  have hT9:tj O9 (O1.N+1) k bb O1.N ⟨g1,g2,g3⟩ S' t1 t2 O.N:=yd.mv (by omega) (by omega) (by omega) fun j h1 h2=>Vb j (fun hu=>by have:=hUl j hu;omega) h2
  have hC9:=hC8.ge adj;have bN:O9.hp (O.N+1)=O5.hp (O.N+1):=(Vb _ (fun hu=>by have:=hUl _ hu;omega) (by omega)).trans jz;have hf9:∀j,¬U j->j<O.N->O9.hp j=O.hp j:=fun j h1 h2=>(Vb j h1 (by omega)).trans (P4 j h1 h2)
  clear Cu hC8 hf8 eV adj Vb yd hC6 jz P4 uD bG CF;refine ξ @gn @hp9 ?_;refine VL.B3 aa (bb:=false) (b:=true) (by simp) (by simp[iB]) (.inr ⟨rfl,rfl⟩) (by kernel_rfl) (by kernel_rfl) rfl rfl rfl rfl ?_;refine ab @gn ?_;refine Θ [1,7,8,9,10] (fun _:Unit=>[.ptr bb 0,.ptr (O.N+1) 0,.ptr (O1.N+1) 0,mi i,.ptr O8.N 0]) (fun _ O'=>O'=O9) ?_ ?_
  ·by_cases h0:i=0
   ·have h0':((i:Int)==0)=true:=by simpa using h0
    refine ξ @gn @h0' ?_;refine VC.Kb rfl ?_;refine ξ @gn @Yx ?_;refine τ ?_;refine Γ [81] [1,7,8,9,10,79,80] (fun _:Nat=>[mi 0]) (fun _ O'=>O'=O9) (fun x=>x) (0) ?_ ?_
    ·rfl
    rintro _ gB sM;rw[sM];refine ν @gn ?_;exact aA.mk () rfl
   ·have h0':((i:Int)==0)=false:=by simpa using h0
    refine ο @gn @h0' ?_;exact aA.mk () rfl
  rintro _ gB sM;rw[sM];clear sM gB;refine ξ @gn @Yx ?_
  have hne:∀n∈D.map fN,GW n/\n.x.length<=1:=fun n hn=>by
   obtain⟨d,hd,rfl⟩:=ajn.1 hn;exact adi (LR.d d hd)
  have AE:(D.map fN).length<=40:=by rw[ahL];exact LR.n
  generalize D.map fN=L at*;clear Yx hp9 hM;refine τ ?_;refine Γ [96] [1,7,8,9,94,95] (fun x:Nat×rp×Tok×Tok=>[mi x.1]) (fun x O'=>x.1<=L.length/\x.2.1.1.length<=4096/\x.2.1.1[i]?=some b/\xS i b (L.drop x.1) x.1 x.2.1=xS i b L 0 S'/\tj O' (O1.N+1) k bb O1.N ⟨g1,g2,g3⟩ x.2.1 x.2.2.1 x.2.2.2 O.N/\CB O' U k bb md S/\O'.hp (O.N+1)=O5.hp (O.N+1)/\(∀y∈x.2.1.2,y.length<=1000000)/\O9.N<=O'.N/\∀j,¬U j->j<O.N->O'.hp j=O.hp j) (fun x=>L.length - x.1) ((0,S',t1,t2)) ?_ ?_
  ·exact⟨anc _,hl,hb,rfl,hT9,hC9,bN,hX6,adX _,hf9⟩
  rintro⟨j,S2,ta,tb⟩ gB ⟨hj,pB,N3,P5,yL,P1,Jx,Vc,I3,adk⟩;dsimp only at hj pB N3 P5 yL Vc ⊢;have hii:=(Vq.1 N3).1;by_cases aM:j<L.length;rotate_left
  ·obtain rfl:j=L.length:=by omega
   rw[List.drop_length,xS]at P5;rw[<-P5]at n5;refine ν @gn ?_;exact aA.mk (S2,ta,tb) ⟨hii,pB,n5,yL,P1,Jx,Vc,by omega,adk⟩
  have cI:((j:Int)+1)=((j+1:Nat):Int):=by omega
  have ahw:=ct oM L j aM;obtain⟨dF,tQ⟩:=hne _ (am6 aM);rw[am8 aM,xS]at P5;generalize L[j]=n at*;have DR:=fun(O':VH) (u:gB.Ge O')=>afT (yL.ge u) (by have:=u.N;omega) N3 j n dF Vc pB
  have hinv:=fun S3 (h:zV S2 i b j n=some S3)=>Tc h pB N3
  generalize zV S2 i b j n=R at*;obtain⟨⟨k1,k2,k3,k4⟩,v,s,o,x⟩:=n;dsimp only at tQ;simp only[eA,gR,wQ,aq,bw,zP,Ma,Qm,Zk]at ahw DR;have amX:=aV oM L;refine κ @gn ?_;refine κ @gn ?_;refine χ (τ ?_);refine ξ @gn @ahw ?_;refine VC.al ?_;rintro vg ⟨p7,alR,agB⟩;refine ξ @gn @alR ?_;refine ah.rt (DR vg p7) ?_;intro m Ys LS;have amY:=du;cases R with
  | none=>
    dsimp only at LS P5;rw[<-P5]at n5;dsimp only at n5;injection n5 with n5;subst n5;obtain⟨rfl,BG⟩:=LS;have adl:=(BG.hp _ (by have:=p7.N;omega)).trans (p7.at (Jx.trans du));have ai6:=p7.N;have Pg:=BG.N;simp only[nH,ac9,aq];refine ab @gn ?_;refine VC.al ?_;rintro O13 ⟨G6,Ve,Pb⟩;have alS:=G6.at adl;refine ο @gn @Ve ?_;refine VL.B3 aa (bb:=true) (b:=false) (by simp) (by simp[iB]) (.inr ⟨rfl,rfl⟩) (by kernel_rfl) (by kernel_rfl) rfl rfl rfl rfl ?_;refine ab @gn ?_;refine WC.bP .any [(1,.ar),(0,.one),(2,.one)] ?_;refine aG @gn @Ve @alS ?_
    exact⟨rfl,by show O.N<=O13.N;omega,fun l h1 h2=>by
     rw[π _ _ (by omega),G6.hp l (by omega),BG.hp l (by omega),p7.hp l (by omega)];exact adk l h1 h2⟩
  | some S3=>
    dsimp only at LS P5;obtain⟨rfl,ta',tb',U8,Pg,ahx⟩:=LS;obtain⟨n8,cB,lS⟩:=hinv S3 rfl;have ai6:=p7.N;have dh:∀l,l<O.N->l≠O1.N+1/\Tok.id ta≠some l/\Tok.id tb≠some l:=fun l h1=>⟨by omega,fun e=>by have:=(App.nD yL.a1 e).1;omega,fun e=>by have:=(App.nD yL.a2 e).1;omega⟩
    have Vf:∀l,l<O.N->Ys.hp l=gB.hp l:=fun l h1=>by
     obtain⟨u1,u2,u3⟩:=dh l h1;rw[ahx l (by omega) u1 u2 u3,p7.hp l (by omega)]
    have c6:∀l,l<gB.N->gB.hp l≠some .tok->l≠O1.N+1->Ys.hp l=gB.hp l:=fun l h1 h2 h3=>by
     rw[ahx l (by omega) h3 (fun e=>h2 (App.tok yL.a1 e)) (fun e=>h2 (App.tok yL.a2 e)),p7.hp l (by omega)]
    have adl:=(c6 (O.N+1) (by omega) (by rw[Jx,du];simp) (by omega)).trans (Jx.trans du);simp only[nH,ik,aq];refine ab @gn ?_;refine VC.al ?_;rintro O13 ⟨G6,Ve,Pb⟩;refine ο @gn @Ve ?_;refine VL.B3 aa (bb:=false) (b:=true) (by simp) (by simp[iB]) (.inr ⟨rfl,rfl⟩) (by kernel_rfl) (by kernel_rfl) rfl rfl rfl rfl ?_;refine ab @gn ?_;refine ο @gn @cI ?_;refine az.N (j+1,S3,ta',tb') ⟨aM,n8,cB,P5,U8.ge G6,(P1.mv (by omega) fun l hl=>Vf l (hUl l hl)).ge G6,?_,?_,by omega,fun l h1 h2=>?_⟩
    ·rw[G6.hp _ (by omega),adl,du]
    ·intro y hy;rcases lS y hy with hy | rfl
     ·exact Vc y hy
     ·exact ajk tQ (by decide)
    ·rw[G6.hp l (by omega),Vf l h2];exact adk l h1 h2
 rintro⟨S',t1,t2⟩ O6 ⟨yd,rfl,jz,mU,P4⟩;have Cv:=yd.cell;simp only[bZ,zP,Ma]at Cv;rw[du]at jz;refine θ (aG @gn @Cv @jz ?_);refine ν @gn ?_;exact⟨⟨t1,rfl⟩,by show O.N<=O6.N;omega,fun j h1 h2=>ω (P4 j h1 h2)⟩
def rowsOf (S:List (Gv×List Dp)):List (Gv×Bs×Option Pm):=S.map fun p=>(p.1,cG (fX (dN p.1 p.2)),none)
theorem Vg {O:VH} {k ke kv ce cv:Nat} {L:List (Gv×Bs×Option Pm)} {E V:fG} {r a:Int} (h:oc O k L E V ke kv ce cv r a) {j:Nat} (hj:Own k ke kv E V j):j<O.N:=by
 have hl:=h.st.lt;rcases hj with rfl | rfl | rfl | ⟨i,c,p,hi⟩ | ⟨p,hp,n,cs,tk,e1,e2⟩
 ·exact hl.1
 ·exact hl.2.1
 ·exact hl.2.2
 ·have eh:=(Vq.1 hi).1;rw[h.len]at eh;obtain⟨q,c',h1,h2,_⟩:=h.Lb i L[i].1 L[i].2.1 L[i].2.2 (adY eh);rw[hi]at h1;injection h1 with h1;simp only[Prod.mk.injEq,MV.ptr.injEq]at h1;omega
 ·obtain⟨n',cs',tk',k1,k2,k3,k4,k5⟩:=h.ver.row p hp;rw[e1]at k1;injection k1 with _ _ k1;subst k1;exact(App.nD k4 e2).2
set_option linter.defProp false in
def rX:=Qn gn<|Qn T86<|Qn B7<|Qn FE<|Qn AO<|Qn DJ T82
mutual
theorem adm:∀x:Nd,ri x->(cG x).length<=1000000->AZ x
 | .mk n a k t,h,hl=>by
   rw[ri]at h;obtain⟨hn,rfl,rfl,hk,h⟩:=h;rw[j6 hn.ne hk]at hl
   have xU:ud k/\k.length<=1000000:=by
    rcases h with⟨s,hs,rfl⟩ | h
    ·rw[ku,cG,if_pos rfl,GO hs.all]at hl;refine⟨?_,by simp⟩;simp only[ud,AZ];exact⟨⟨by simp,by omega,by simp,by simp,by simp,trivial⟩,trivial⟩
    ·obtain⟨h1,h2⟩:=Vh k h (by omega);exact⟨h1,by omega⟩
   rw[AZ];exact⟨by omega,by simp,by simp,by simp,xU.2,xU.1⟩
theorem Vh:∀K:List Nd,yN K->(aX K).length<=1000000->ud K/\K.length<=(aX K).length
 | [],_,_=>by rw[ud];exact⟨trivial,by simp⟩
 | x::K,h,hl=>by
   rw[yN]at h;rw[aX,agc]at hl ⊢;have h1:=adm x h.1 (by omega);have h2:=Vh K h.2 (by omega)
   have h3:1<=(cG x).length:=by
    obtain⟨n,a,k,t⟩:=x;have hx:=h.1;rw[ri]at hx;obtain⟨hn,rfl,rfl,hk,_⟩:=hx;rw[j6 hn.ne hk];omega
   rw[ud,Zj];exact⟨⟨h1,h2.1⟩,by omega⟩
end
theorem Y0 {g:Gv} {D:List Dp} (h:YK (dN g D)):yN (fb g D):=by
 refine nw fun x hx=>?_
 unfold fb at hx;rcases ahP.1 hx with hx | hx
 ·simp only[ajq,ajp,or_false]at hx;rcases hx with rfl | rfl | rfl
  ·exact uC Et h.g
  ·exact uC Eu h.a
  ·exact uC LN h.v
 ·by_cases e:D=[]
  ·rw[if_pos e]at hx;cases hx
  ·rw[if_neg e,ahK]at hx;rw[hx,ri]
   exact⟨D7 _ (by decide) (by decide),rfl,rfl,fun e2=>e (ahN.1 e2),.inr (nw fun y hy=>by
    obtain⟨d,hd,rfl⟩:=ajn.1 hy;exact(JJ (h.eK d hd)).1)⟩
theorem Calm.nd {g:Gv} {D:List Dp} (h:Calm g D):AZ (fX (dN g D)):=by
 have ht:=h.text;have he:=uB h.w;rw[he]at ht ⊢;refine adm _ ?_ (ajk ht (by decide));rw[ri];exact⟨D7 _ (by decide) (by decide),rfl,rfl,by unfold fb;simp,.inr (Y0 h.w)⟩
theorem adn (a v:Bs) (s:Int) (O:VH):VF Tryz.prog 20 [.str a,.str v,mi s] O (aD fun m O'=>m= .agg (aU (vh a v s))/\O.Ge O'):=by
 refine VF.fg ?_;simp only[vh,gS,aU,aq,Qm,Zk];refine υ 11 [.cell 6 56] Tryz.func20 ?_;refine κ @rX ?_;refine κ @rX ?_;refine ν @rX ?_;exact((VH.Ge.refl O).push _).set (adX _) _
theorem afV (O:VH):VF Tryz.prog 23 [] O (aD fun m O'=>m= .agg (bZ ⟨gS,[97],v1⟩)/\O.Ge O'):=by
 simp only[gS,v1,bZ];refine υ 2 [.cell 0 60] Tryz.func23 ?_;refine κ @rX ?_;refine κ @rX ?_;refine ν @rX ?_;exact((VH.Ge.refl O).push _).set (adX _) _
theorem ai7 {O:VH} {k ke kv ce cv:Nat} {E V:fG} {r a:Int} {S:List (Gv×List Dp)} (h:oc O k (rowsOf S) E V ke kv ce cv r a) (n v:Bs) (D:List Dp) (tk:Tok) (hc:Calm ⟨gS,n,v⟩ D) (dF:∀p∈S,p.1≠⟨gS,n,v⟩) (hS:S.length<1024):
  VF Tryz.prog 21 [.ptr k 0,.str n,.str v,.sl D.length (D.flatMap aU) tk] O (aD fun m O'=>m=mb true/\(∃E' V' Ss St,oc O' k (rowsOf (S++[(⟨gS,n,v⟩,D)])) E' V' ke kv Ss St r a)/\O.N<=O'.N/\∀i cs,i<O.N->O.hp i=some (.cells cs)->O'.hp i=some (.cells cs)):=by
 have hw:=fun O'=>abc (O:=O') (dN ⟨gS,n,v⟩ D) (by simp[dN]) (by simp[dN]) (by show D.length<=_;have:=hc.n;omega) (fun d hd=>by
  simp only[dN,Ma]at hd;have:=(hc.d d hd).xl;omega)
 have hp:=fun O'=>Xz (fX (dN ⟨gS,n,v⟩ D)) O' (ajk hc.text (by decide)) hc.nd
 have ahy:=fun(O':VH) (u:O.Ge O')=>aiG (h.ge u) ⟨gS,n,v⟩ (cG (fX (dN ⟨gS,n,v⟩ D))) hc.may hc.gav (fun x hx=>by
  obtain⟨p,hp,rfl⟩:=ajn.1 hx;exact dF p hp) (by simp[rowsOf];exact hS)
 have c6:rowsOf (S++[(⟨gS,n,v⟩,D)])=rowsOf S++[(⟨gS,n,v⟩,cG (fX (dN ⟨gS,n,v⟩ D)),none)]:=by simp[rowsOf]
 rw[c6];generalize cG (fX (dN ⟨gS,n,v⟩ D))=T at*;generalize fX (dN ⟨gS,n,v⟩ D)=X at*;simp only[dN,gU,bZ,gS,aq,bw,Qm,Zk]at hw ahy ⊢;refine υ 23 [.tmp 8] Tryz.func21 ?_;refine κ @rX ?_;refine κ @rX ?_;refine VC.al ?_;rintro O1 ⟨aI,eP,cW⟩;refine VC.Ym eP (cs':=[.v (.bool false),.str [],.str [],.str [],.str [103],.str n,.str v,.str [],.sl 0 [] .au,.sl 0 [] .au,.sl D.length (D.flatMap aU) .au]) ?_ ?_
 ·repeat' first
   | exact ff.refl _
   | exact Wk.refl _
   | exact Wk.tok
   | refine ff.cons ?_ ?_
 refine VC.gen ?_;intro O2 e2;have jb:O2.hp O.N=some (.cells [.v (.bool false),.str [],.str [],.str [],.str [103],.str n,.str v,.str [],.sl 0 [] .au,.sl 0 [] .au,.sl D.length (D.flatMap aU) .au]):=by rw[e2];exact ρ _ _ _
 have aB:O.Ge O2:=by rw[e2];exact aI.set (adX _) _
 clear e2;refine ξ @rX @jb ?_;refine ah.rt (hw O2) ?_;rintro _ O3 ⟨rfl,aH⟩;refine ab @rX ?_;refine ah.rt (hp O3) ?_;rintro _ O4 ⟨rfl,aY⟩;refine ab @rX ?_;have gW:=(aB.trans aH).trans aY;refine ah.rt (ahy O4 gW) ?_;rintro _ O5 ⟨rfl,cX,eU,YC⟩;have gO:=gW.N;refine ab @rX ?_;refine ν @rX ?_;exact⟨cX,by omega,fun i cs h1 h2=>YC i cs (by omega) ((gW.hp i h1).trans h2)⟩
theorem ado (c:UInt8) (h:mu c=true) (h2:c≠36):vi [c]:=nmi (by simp[h]) (by simp) (by simpa using h2)
theorem LU {n:Bs} {s:Int} (hn:vi n) (hs:s=0\/s=1\/s=2\/s=3\/s=4\/s=5):Tb (vh n v1 s):=⟨rfl,hn,.one,rfl,rfl,hs,.inl rfl,by simp[vh],by simp[vh]⟩
def gA:Gv:=⟨gS,[97],v1⟩
theorem ai8:vi [97]:=ado _ (by decide) (by decide)
theorem adp:vi [98]:=ado _ (by decide) (by decide)
theorem Td:vi [99]:=ado _ (by decide) (by decide)
theorem LV {O:VH} {k ke kv ce cv:Nat} {E V:fG} {r a:Int} {S:List (Gv×List Dp)} (h:oc O k (rowsOf S) E V ke kv ce cv r a) {n v:Bs} {D:List Dp} {tk:Tok} {ds:List MV} {l:Nat} (r9:ds=D.flatMap aU) (hl:l=D.length) (hc:Calm ⟨gS,n,v⟩ D) (dF:∀p∈S,p.1≠⟨gS,n,v⟩) (hS:S.length<1024):
  VF Tryz.prog 21 [.ptr k 0,.str n,.str v,.sl l ds tk] O (aD fun m O'=>m=mb true/\(∃E' V' Ss St,oc O' k (rowsOf (S++[(⟨gS,n,v⟩,D)])) E' V' ke kv Ss St r a)/\O.N<=O'.N/\∀i cs,i<O.N->O.hp i=some (.cells cs)->O'.hp i=some (.cells cs)):=by
 subst r9;subst hl
 exact ai7 h n v D tk hc dF hS
def bnB (b:Br):Bn:=⟨b.up,b.dp,b.od,b.k,b.v,false,b.v,0,[],.au,b.sc,b.rd⟩
theorem P6:Calm gA [vh [98] v1 0,vh [99] v1 0]:=⟨rfl,ai8,.one,by simp[LU adp,LU Td],by simp[vh],by simp⟩
section
variable {G H:Gh} {n:Sz} {D:List Deferred} {e e':Env} {a:Act} {P:Program} {tab:cj} {O O':VH} {w:World} {m m':MV} {u v:Value} {ops:Array Oper} {Q:VQ} {c d:Code}
def Te (ops:Array Oper):Bool:=ops.all fun o=>match o.op with
 | .defer _=>false
 | _=>true
theorem Y1 {o:Oper} {i:Nat} (h:Te ops=true) (ho:ops[i]?=some o):∀c,o.op≠ .defer c:=fun c hc=>by
 have:=Array.all_eq_true'.1 h o (Array.mem_of_getElem? ho);rw[hc]at this;cases this
def Y2 (ro:Option Nat):Fence:={Fence.wide with round:=ro}
theorem w6 {ro:Option Nat} {Q:Exit->Act->World->Prop} {K:Act->World->Prop} (hL:¬LetsOut Q) (hd:ro=none\/Te ops=true) (l2:List Nat) (hK:∀a w,K a w->wpOpsIn (Y2 ro) 0 P ops Q l2 a w):
  ∀(l1:List Nat) (a:Act) (w:World),wpOps P ops (Exit.then K Q) l1 a w->wpOpsIn (Y2 ro) 0 P ops Q (l1++l2) a w:=by
 intro l1;induction l1 with
 | nil=>intro a w h;exact hK a w h
 | cons i rest ih=>
   intro a w h;simp only[wpOps]at h;simp only[zP,wpOpsIn];cases ho:ops[i]? with
   | none=>simp only[ho]at h;exact ih a w h
   | some o=>
     simp only[ho]at h;by_cases hw:Region.wanted o (yielded ops a.tmps)=true
     ·simp only[hw,if_true]at h ⊢;have hL':¬LetsOut (Exit.then K Q):=hL;rcases h with h | h
      ·refine⟨fun _ _=>trivial,?_⟩
       have hs:o.semAt ro a.eval=execOp a.eval o:=by
        rcases hd with rfl | hd
        ·rfl
        ·exact Oper.semAt_eq _ _ _ (Y1 hd ho)
       show o.uponIn (Y2 ro) 0 P a _ Q ((o.semAt ro a.eval).run P w);rw[hs];unfold Oper.wp at h;generalize (execOp a.eval o).run P w=r at h ⊢;cases r with
       | ok nx w'=>
         cases nx with
         | value v=>exact ih _ _ h
         | skip=>exact ih _ _ h
         | «defer» d=>exact ih _ _ h
         | enter f args=>
           refine⟨(fun h=>by cases h),?_⟩;have h1:CallsIn (Y2 ro) (0 - 1) P f args w' _:=callsIn_wide.2 h;refine h1.mono ?_;intro x Hu hx;cases x with
           | returned v=>exact ih _ _ hx
           | panicked c=>exact hx
           | outgrown=>exact absurd hx hL'
         | row row args=>
           refine⟨(fun h=>by cases h),?_⟩;intro c cs _;obtain⟨v,Hu,r,s⟩:=h c cs;exact⟨v,Hu,ih _ _ r,stepsIn_wide.2 s⟩
         | _=>exact h.elim
       | halt x w'=>
         cases x<;>first
          | exact h
          | exact False.elim h
      ·exact absurd h.2 hL'
     ·simp only[hw,if_false,ajl]at h ⊢;exact⟨fun _ _=>trivial,ih _ _ h⟩
theorem CG:¬LetsOut (cM G n D Q):=by
 rintro⟨a,w,x,e,O,H,_,_,_,h,_⟩;cases x<;>exact h
theorem then_self {Q:Exit->Act->World->Prop}:Exit.then (Q .normal) Q=Q:=by
 funext y a w
 cases y<;>rfl
def H8 (P:Program) (n:Sz) (y:Nat) (c:Code) (e:Env) (O:VH) (Q:VQ):Prop:=∀G a w,WR G O w->FR G n [] e a->c.wpIn (Y2 (some y)) 0 P (cM G n [] Q) a w
theorem LW (l:List Oper) (L:List Oper) (k:Nat) (hL:∀j,L[j]?=none\/L[j]?=l[k+j]?) (h:VL P n D .plain ⟨l⟩ (L.map (Fl.one, ·)) e O Q):iU P n D ⟨l⟩ (List.range' k L.length) e O Q:=by
 have:=h 0 #[] _ (vO (ops:=⟨l⟩) L k fun j=>by simpa using hL j) (fun h=>absurd rfl h);simp only[ZR,List.map_map]at this;rw[show((fun x:Nat×Fl=>x.1) ∘ fun x=>(x,Fl.one))=_root_.id from rfl,List.map_id]at this;exact this
theorem H8.region {y id:Nat} {l:List Oper} (h:WL P tab n [] .plain ⟨l⟩ Q (l.map (Fl.one, ·)) e O) (ht:aO P tab:=by exact aa) (hd:Te ⟨l⟩=true:=by kernel_rfl):H8 P n y (.region id ⟨l⟩ false) e O Q:=by
 intro G a w hw hf;have h1:=LW l l 0 (fun j=>.inr (by simp)) (WL.sound ht h);refine wpIn_region ?_;rw[show(⟨l⟩:Array Oper).size=l.length from rfl,List.range_eq_range', <-ajm (List.range' 0 l.length)];exact w6 (K:=cM G n [] Q .normal) CG (.inr hd) [] (fun _ _ h=>h) _ a w (by rw[then_self];exact h1 G a w hw hf)
theorem H8.block {y id:Nat} (h:H8 P n y c e O (iW id Q)):H8 P n y (.block id c) e O Q:=by
 intro G a w hw hf;refine wpIn_block (wpIn_mono (h G a w hw hf) ?_);rintro y a' w' ⟨x,e',O',H,h1,h2,h3,h4,h5⟩;cases y with
 | exit j=>
   cases x with
   | exit i=>
     obtain rfl:i=j:=h4;simp only[Exit.inBlock];simp only[iW]at h5;split
     ·rename_i hi;rw[if_pos hi]at h5;exact⟨.normal,e',O',H,h1,h2,h3,trivial,h5⟩
     ·rename_i hi;rw[if_neg hi]at h5;exact⟨.exit i,e',O',H,h1,h2,h3,rfl,h5⟩
   | _=>exact False.elim h4
 | _=>cases x<;>first
   | exact False.elim h4
   | exact⟨_,e',O',H,h1,h2,h3,h4,h5⟩
def VY (P:Program) (y:Nat) (ms:List MV) (O:VH) (R:MV->VH->Prop):Prop:=∀G w vs,WR G O w->aQ G ms vs->YieldAt Fence.wide 0 P y vs.toArray w fun x w'=>∃v m O' H,x= .returned v/\Gh.Le G H/\WR H O' w'/\VR H m v/\R m O'
def lpF (k y:Nat) (ts:Array Value) (n:Sz) (e:Env):GP:=⟨fun G=>G.bW k=some y/\FR G n [] e {tmps:=ts,defers:=[]},fun hl h=>⟨hl.bW h.1,h.2.mono hl⟩⟩
def sr:List Tmp->List MV->Env->Env
 | t::ts,m::ms,e=>sr ts ms ((t,m)::e)
 | _,_,e=>e
theorem FR.sr:∀{ps:List Tmp} {ms:List MV} {vs:List Value} {e:Env} {ts:Array Value},FR G n D e {tmps:=ts,defers:=D}->aQ G ms vs->ps.all (fun t=>decide (t<n.n))=true->
  FR G n D (sr ps ms e) {tmps:=(ps.zip vs).foldl (fun t (p:Tmp×Value)=>t.setIfInBounds p.1 p.2) ts,defers:=D}
 | [],ms,vs,e,ts,h,_,_=>by simpa[Go.Proofs.YtjpadehgejlebaaGreatDoor.sr]using h
 | t::ps,[],vs,e,ts,h,hv,_=>by rw[hv.iQ];simpa[Go.Proofs.YtjpadehgejlebaaGreatDoor.sr]using h
 | t::ps,m::ms,vs,e,ts,h,hv,ha=>by
   obtain⟨u,us,rfl,h1,h2⟩:=hv.eW;simp only[List.all_cons,ang,decide_eq_true_eq]at ha;exact FR.sr (ps:=ps) (h.put ha.1 h1) h2 ha.2
def RdB (k:Nat) (r:Loop) (R:MV->VH->Prop):VQ:=fun x _ O2=>x= .normal/\O2.hp k=some (.obj (.loop {r with state:=.busy}))/\R (.v (.bool true)) (O2.set k (.obj (.loop {r with pending:=none})))
def RdA (P:Program) (n:Sz) (y k:Nat) (r:Loop) (body:Code) (R:MV->VH->Prop):VQ:=fun x e1 O1=>x= .normal/\O1.hp k=some (.obj (.loop r))/\H8 P n y body e1 (O1.set k (.obj (.loop {r with state:=.busy}))) (RdB k r R)
theorem VY.round {y k j:Nat} {r:Loop} {ps:List Tmp} {ms:List MV} {R:MV->VH->Prop} (hk:O.hp k=some (.obj (.loop r))) (hj:O.hp j=some (.fact (lpF k y r.tmps n e))) (hr:r.state= .ready) (hp:r.params.toList=ps) (hn:ps.all (fun t=>decide (t<n.n))=true) (hl:ms.length=ps.length)
  (h:H8 P n y r.assign (sr ps ms e) O (RdA P n y k r r.body R)):VY P y ms O R:=by
 intro G w vs hw hv;obtain⟨b,hb,hh⟩:=hw.obj k _ hk;obtain⟨eQ,aW⟩:=hw.BU j _ hj;rw[eQ]at hb;injection hb with hb;subst hb
 have pC:vs.toArray.size=r.params.size:=by
  rw[show vs.toArray.size=vs.length from rfl,hv.1,hl, <-hp];rfl
 refine⟨r.fn,_,r.assign,r.body,run_yield hh pC,roundIn_of_wpIn trivial ?_⟩
 have alT:FR G n [] (sr ps ms e) {tmps:=(r.params.zip vs.toArray).foldl (fun t (p:Tmp×Value)=>t.setIfInBounds p.1 p.2) r.tmps,defers:=[]}:=by
  rw[<-Array.foldl_toList,Array.toList_zip,hp];exact FR.sr aW hv hn
 refine wpIn_mono (h G _ w hw alT) ?_;rintro x a1 w1 ⟨x',e1,O1,H,g1,g2,g3,g4,rfl,cA,ai9⟩
 cases x<;>first
  | exact False.elim g4
  | skip
 have adq:=g1.bW eQ;obtain⟨b,hb,hh1⟩:=g2.obj k _ cA;rw[adq]at hb;injection hb with hb;subst hb
 have sI:=g2.setObj (Y:=.loop {r with state:=.busy}) cA adq (fun _ _ _ e=>by cases e);refine⟨_,run_beginRound hh1 hr,wpIn_mono (ai9 H a1 _ sI g3) ?_⟩;rintro x a2 w2 ⟨x',e2,O2,H2,q1,q2,q3,q4,rfl,bM,hR⟩
 cases x<;>first
  | exact False.elim q4
  | skip
 have ahz:=q1.bW adq;obtain⟨b,hb,hh2⟩:=q2.obj k _ bM;rw[ahz]at hb;injection hb with hb;subst hb
 refine⟨_,_,run_endRound none hh2,_,_,_,H2,rfl,g1.trans q1,q2.setObj bM ahz (fun _ _ _ e=>by cases e),.v rfl,?_⟩;have:({r with state:=.ready,pending:=none}:Loop)={r with pending:=none}:=by rw[<-hr]
 simp only[Option.isNone_none,if_true];rw[this];exact hR
def YW (P:Program) (tab:cj) (n:Sz) (D:List Deferred) (l:List Oper) (k:Nat) (o:Oper) (x:Operand) (as_:Array Operand) (Q:VQ):VQ:=fun z e1 O1=>z= .normal/\∃y ms R,aN ⟨l⟩ o e1=some true/\ev e1 x=some (.func (.yield y) [] [])/\gh e1 as_.toList=some ms/\bC n o.dst=true/\VY P y ms O1 R/\
   ∀m O',R m O'->WL P tab n D .plain ⟨l⟩ Q ((l.drop (k+1)).map (Fl.one, ·)) (aZ o.dst m e1) O'
theorem YW.mk {l:List Oper} {k:Nat} {o:Oper} {x:Operand} {as_:Array Operand} {y:Nat} {ms:List MV} {R:MV->VH->Prop} (hv:VY P y ms O R) (h:∀m O',R m O'->WL P tab n D .plain ⟨l⟩ Q ((l.drop (k+1)).map (Fl.one, ·)) (aZ o.dst m e) O') (h1:aN ⟨l⟩ o e=some true:=by exact rfl) (h2:ev e x=some (.func (.yield y) [] []):=by exact rfl) (h3:gh e as_.toList=some ms:=by exact rfl) (h4:bC n o.dst=true:=by exact rfl):YW P tab n D l k o x as_ Q .normal e O:=
 ⟨rfl,y,ms,R,h1,h2,h3,h4,hv,h⟩
theorem VC.yield {id:Nat} (k:Nat) {l:List Oper} {o:Oper} {ca:Call} {x:Operand} (hk:l[k]?=some o) (vA:o.op= .call ca) (hc:ca.callee= .value x)
  (h:WL P tab n D .plain ⟨l⟩ (YW P tab n D l k o x ca.args Q) ((l.take k).map (Fl.one, ·)) e O) (ht:aO P tab:=by exact aa):VC P n D (.region id ⟨l⟩ false) e O Q:=by
 intro G a w hw hf;have fQ:k<l.length:=(Vq.1 hk).1;rw[<-wpIn_wide (n:=0)];refine wpIn_region ?_;have hlen:(l.take k).length=k:=by rw[List.length_take];omega
 have h1:=LW l (l.take k) 0 (fun j=>by
  by_cases hj:j<k
  ·rw[List.getElem?_take,if_pos hj,ajt];exact .inr rfl
  ·exact .inl (by rw[List.getElem?_take,if_neg hj])) (WL.sound ht h)
 rw[hlen]at h1
 have afW:List.range (⟨l⟩:Array Oper).size=List.range' 0 k++k::List.range' (k+1) (l.drop (k+1)).length:=by
  rw[show(⟨l⟩:Array Oper).size=l.length from rfl,List.range_eq_range',anq];obtain⟨j,hj⟩:∃j,l.length=k+(j+1):=⟨l.length - k - 1,by omega⟩
  rw[hj,show k+(j+1) - (k+1)=j from by omega, <-List.range'_append_1,ajt,List.range'_succ]
 rw[afW]
 refine w6 (ro:=none) (K:=fun a1 w1=>∃e1 O1 H,Gh.Le G H/\WR H O1 w1/\FR H n D e1 a1/\∃y ms R,aN ⟨l⟩ o e1=some true/\ev e1 x=some (.func (.yield y) [] [])/\gh e1 ca.args.toList=some ms/\bC n o.dst=true/\VY P y ms O1 R/\
   ∀m O',R m O'->WL P tab n D .plain ⟨l⟩ Q ((l.drop (k+1)).map (Fl.one, ·)) (aZ o.dst m e1) O') CG (.inl rfl) _ ?_ _ a w ?_
 ·rintro a1 w1 ⟨e1,O1,H,g1,g2,g3,y,ms,R,q1,q2,q3,q4,q5,q6⟩;have F0:(⟨l⟩:Array Oper)[k]?=some o:=by simpa using hk
  simp only[wpOpsIn,F0,bA g3 q1,if_true];refine⟨fun _ _=>trivial,?_⟩;have vB:=g3.ev q2;generalize Af:a1.eval x=fv at vB;cases vB with
  | func h1 h2 h3 h4=>
    rename_i us vs;have jE:us=[]:=ahO h1;have oY:vs=[]:=ahO h3;subst jE;subst oY
    have iK:=g3.gh q3;obtain⟨fn,tmps,asg,body,cC,afX⟩:=q5 H w1 _ g2 iK
    have hex:(execOp a1.eval o).run P w1= .ok (.round y fn tmps asg body) w1:=by
     have ha: #[]++ca.args.map a1.eval=(ca.args.toList.map a1.eval).toArray:=by apply Array.ext';simp
     simp only[execOp,vA,resolve,hc,Af,Deferred.ofValue,Sem.run_bind,Sem.run_pure,Result.andThen_ok,invoke];rw[ha];exact cC
    show o.uponIn (Y2 none) 0 P a1 _ _ ((execOp a1.eval o).run P w1);rw[hex,Oper.uponIn_round];refine⟨(fun h=>by cases h),RoundIn.mono afX ?_⟩;rintro x w2 ⟨v,m,O',H2,rfl,p1,p2,p3,p4⟩;have h2:=LW l (l.drop (k+1)) (k+1) (fun j=>.inr (by rw[List.getElem?_drop])) (WL.sound ht (q6 m O' p4));have h3:=h2 H2 (a1.put o.dst v) w2 p2 ((g3.mono p1).aZ q4 p3);have h4:=mQ (fun _ _ _=>cM.le (g1.trans p1)) _ _ _ h3;have:=w6 (ro:=none) (K:=cM G n D Q .normal) CG (.inl rfl) [] (fun _ _ h=>h) _ _ w2 (by rw[then_self];exact h4);rw[ajm]at this;exact this
 ·refine mQ ?_ _ _ _ (h1 G a w hw hf);rintro y a1 w1 ⟨z,e1,O1,H,g1,g2,g3,g4,rfl,g5⟩
  cases y<;>first
   | exact False.elim g4
   | exact⟨e1,O1,H,g1,g2,g3,g5⟩
def P7 (G:Gh):List Nat->List Deferred->Prop
 | [],[]=>True
 | j::js,d::D=>(∃b,G.bW j=some b/\d={target:=.collected b,args:= #[]})/\P7 G js D
 | _,_=>False
theorem P7.mono (h:G.Le H):∀{js:List Nat} {D:List Deferred},P7 G js D->P7 H js D
 | [],[],_=>trivial
 | _::_,_::_,⟨⟨b,h1,h2⟩,h3⟩=>⟨⟨b,h.bW h1,h2⟩,h3.mono h⟩
 | [],_::_,h=>h.elim
 | _::_,[],h=>h.elim
abbrev H9:=VX->Env->VH->List Nat->Prop
def qi (G:Gh) (n:Sz) (Q:H9):Exit->Act->World->Prop:=fun y a w=>∃x e O H js D,Gh.Le G H/\WR H O w/\FR H n D e a/\P7 H js D/\XR H x y/\Q x e O js
theorem qi.le (h:G.Le H) {Q:H9} {y:Exit} (hp:qi H n Q y a w):qi G n Q y a w:=by
 obtain⟨x,e,O,K,js,D,h1,h2⟩:=hp;exact⟨x,e,O,K,js,D,h.trans h1,h2⟩
def VM (P:Program) (n:Sz) (js:List Nat) (c:Code) (e:Env) (O:VH) (Q:H9):Prop:=∀G D a w,WR G O w->P7 G js D->FR G n D e a->c.wp P (qi G n Q) a w
def kQ (P:Program) (n:Sz) (js:List Nat) (c:Code) (Q:H9):Env->VH->Prop:=fun e O=>VM P n js c e O Q
def AtM (Q:H9) (js:List Nat):VQ:=fun x e O=>Q x e O js
variable {js:List Nat} {M:H9}
theorem FRX.fr {x:VX} (h:FRX G n D x e a):FR G n D e a:=by
 cases x<;>first
  | exact h
  | exact h.2
theorem kQ.mk (h:VM P n js c e O M):kQ P n js c M e O:=h
theorem VM.HH (h:∀D,VC P n D c e O (AtM M js)):VM P n js c e O M:=fun G D a w hw hm hf=>wp_mono (h D G a w hw hf) fun y a' w' ⟨x,e',O',H,h1,h2,h3,h4,h5⟩=>⟨x,e',O',H,js,D,h1,h2,h3.fr,hm.mono h1,h4,h5⟩
theorem VM.ag (h:∀D,VC P n D c e O (rI (kQ P n js d M) (AtM M js))):VM P n js (.seq c d) e O M:=by
 intro G D a w hw hm hf;refine wp_seq (wp_mono (h D G a w hw hf) ?_);rintro y a1 w1 ⟨x,e',O',H,g1,g2,g3,g4,g5⟩
 cases y<;>cases x<;>first
  | exact False.elim g4
  | exact wp_mono (g5 H D a1 w1 g2 (hm.mono g1) g3) fun _ _ _=>qi.le g1
  | exact⟨_,e',O',H,js,D,g1,g2,g3.fr,hm.mono g1,g4,g5⟩
  | exact⟨_,e',O',H,js,D,g1,g2,g3,hm.mono g1,g4,g5⟩
theorem VM.rY (h:∀D,WC P tab n D c e O (rI (kQ P n js d M) (AtM M js))) (ht:aO P tab:=by exact aa):VM P n js (.seq c d) e O M:=VM.ag fun D=>WC.sound ht (h D)
theorem VM.seq (h:VM P n js c e O fun x e O js=>match x with
  | .normal=>VM P n js d e O M
  | x=>M x e O js):VM P n js (.seq c d) e O M:=by
 intro G D a w hw hm hf;refine wp_seq (wp_mono (h G D a w hw hm hf) ?_);rintro y a1 w1 ⟨x,e',O',H,w7,D',g1,g2,g3,g4,g5,g6⟩
 cases y<;>cases x<;>first
  | exact False.elim g5
  | exact wp_mono (g6 H D' a1 w1 g2 g4 g3) fun _ _ _=>qi.le g1
  | exact⟨_,e',O',H,w7,D',g1,g2,g3,g4,g5,g6⟩
theorem VM.join {σ :Type} (l:List Nat) (ms: σ ->List MV) (I: σ ->VH->List Nat->Prop) (h1:VM P n js c e O fun x e O js=>match x with
  | .normal=>∃s,looks e l=some (ms s)/\I s O js
  | x=>M x e O js) (h2:∀s O js,I s O js->VM P n js d (jG l (ms s) []) O M):VM P n js (.seq c d) e O M:=by
 refine VM.seq fun G D a w hw hm hf=>wp_mono (h1 G D a w hw hm hf) ?_
 rintro y a1 w1 ⟨x,e',O',H,w7,D',g1,g2,g3,g4,g5,g6⟩;cases x with
 | normal=>
   obtain⟨s,h3,h4⟩:=g6;exact⟨.normal,jG l (ms s) [],O',H,w7,D',g1,g2,g3.less (iY (e0:=[]) (fun t x h=>by simp[look]at h) h3),g4,g5,h2 s O' w7 h4⟩
 | _=>exact⟨_,e',O',H,w7,D',g1,g2,g3,g4,g5,g6⟩
theorem VM.cond {x:Operand} {t:Bool} {c1 c2:Code} (hc:ev e x=some (mb t)) (h:VM P n js (if t then c1 else c2) e O M):VM P n js (.cond x c1 c2) e O M:=by
 intro G D a w hw hm hf;have hv:=hf.ev hc;generalize hx:a.eval x=u at hv;have:=VR.jj hv;subst this;exact wp_cond hx (h G D a w hw hm hf)
def JK (id:Nat) (M:H9):H9:=fun x e O js=>match x with
 | .exit i=>if i=id then M .normal e O js else M (.exit i) e O js
 | x=>M x e O js
theorem JK.ex {id:Nat} (h:M .normal e O js):AtM (JK id M) js (.exit id) e O:=by
 show(if id=id then M .normal e O js else M (.exit id) e O js);rw[if_pos rfl];exact h
theorem VM.block {id:Nat} (h:VM P n js c e O (JK id M)):VM P n js (.block id c) e O M:=by
 intro G D a w hw hm hf;refine wp_block (wp_mono (h G D a w hw hm hf) ?_);rintro y a' w' ⟨x,e',O',H,w7,D',h1,h2,h3,h4,h5,h6⟩;cases y with
 | exit j=>
   cases x with
   | exit i=>
     obtain rfl:i=j:=h5;simp only[Exit.inBlock];simp only[JK]at h6;split
     ·rename_i hi;rw[if_pos hi]at h6;exact⟨.normal,e',O',H,w7,D',h1,h2,h3,h4,trivial,h6⟩
     ·rename_i hi;rw[if_neg hi]at h6;exact⟨.exit i,e',O',H,w7,D',h1,h2,h3,h4,rfl,h6⟩
   | _=>exact False.elim h5
 | _=>cases x<;>first
   | exact False.elim h5
   | exact⟨_,e',O',H,w7,D',h1,h2,h3,h4,h5,h6⟩
theorem VM.loop {σ :Type} {ks:List MV} (l K:List Nat) (ms: σ ->List MV) (I: σ ->VH->List Nat->Prop) (μ : σ ->Nat) (s0: σ) (hI:I s0 O js)
  (step:∀s O js,I s O js->VM P n js c (jG l (ms s) (jG K ks [])) O fun x e' O' w7=>match x with
   | .normal=>looks e' K=some ks/\∃s',looks e' l=some (ms s')/\I s' O' w7/\ μ s'< μ s
   | x=>M x e' O' w7) (h0:looks e l=some (ms s0):=by exact rfl) (hk:looks e K=some ks:=by exact rfl):VM P n js (.loop c) e O M:=by
 intro G D a w hw hm hf;refine wp_loop_rounds (μ s0+1) ?_
 suffices h:∀(k:Nat) (s: σ) (e:Env) (O:VH) (js:List Nat) (G:Gh) (D:List Deferred) (a:Act) (w:World), μ s=k->looks e l=some (ms s)->looks e K=some ks->I s O js->WR G O w->P7 G js D->FR G n D e a->Code.rounds P c (qi G n M) (k+1) a w from
  h _ s0 e O js G D a w rfl h0 hk hI hw hm hf
 intro k;induction k using Nat.strongRecOn with
 | _ k ih=>
   intro s e O js G D a w hs hl hK hI hw hm hf;rw[rounds_succ];refine wp_mono (step s O js hI G D a w hw hm (hf.less (iY (iY (e0:=[]) (fun t x h=>by simp[look]at h) hK) hl))) ?_;rintro y a' w' ⟨x,e',O',H,w7,D',h1,h2,h3,h4,h5,h6⟩
   cases y<;>cases x<;>first
    | exact False.elim h5
    | exact⟨_,e',O',H,w7,D',h1,h2,h3,h4,h5,h6⟩
    | (obtain⟨q1,s',q2,q3,q4⟩:=h6
       exact zf (μ s'+1) k a' w' (by omega) (tS (fun _ _ _=>qi.le h1) _ _ _ (ih (μ s') (by omega) s' e' O' w7 H D' a' w' rfl q2 q1 q3 h2 h4 h3)))
theorem WR.Y3 (h:WR G O w) (p:GP) (hp:p.p G):WR G (O.push (.fact p)) w:=by
 have hne:∀{j x},bH O.hp O.N (some (.fact p)) j=some x->(∀q,x≠ .fact q)->O.hp j=some x:=fun{j x} hj hx=>by
  by_cases e:j=O.N
  ·subst e;rw[aJ]at hj;injection hj with hj;exact absurd hj.symm (hx _)
  ·rwa [ay _ _ e]at hj
 have kK:∀j b,G.bW j=some b->bH O.hp O.N (some (.fact p)) j≠none->O.hp j≠none:=fun j b hj hn=>by
  rwa [ay _ _ (fun e=>by subst e;rw[h.m6.1]at hj;cases hj)]at hn
 refine⟨h.base,h.eN,fun j hj=>?_,fun j c hj=>?_,fun i j c li lj hi hj=>h.inj i j c (kK i c hi li) (kK j c hj lj) hi hj,fun j cs hj=>h.cells j cs (hne hj (by simp)),fun j es ck hj=>h.map j es ck (hne hj (by simp)),fun t ht=>h.tok t (hne ht (by simp)),fun s t c x y hs ht=>h.l_ s t c x y (hne hs (by simp)) (hne ht (by simp)),fun j k' t' n' hj=>h.oV j k' t' n' (hne hj (by simp)),fun j x hj=>h.obj j x (hne hj (by simp)),h.rz,fun j q hj=>?_⟩
 ·have hj:O.N+1<=j:=hj;obtain⟨h1,h2,h3⟩:=h.qm j (by omega);exact⟨h1,h2,by show bH _ _ _ _=_;rw[ay _ _ (by omega)];exact h3⟩
 ·obtain⟨p1,p2,p3⟩:=h.kJ j c hj;exact⟨p1,p2,fun hn=>p3 (kK j c hj hn)⟩
 ·have hj:bH O.hp O.N (some (.fact p)) j=some (.fact q):=hj;by_cases e:j=O.N
  ·subst e;rw[aJ]at hj;injection hj with hj;injection hj with hj;subst hj;exact hp
  ·rw[ay _ _ e]at hj;exact h.BU j q hj
def lpO (O:VH) (r:Loop) (y:Nat) (n:Sz) (e:Env):VH:=((O.push (.obj (.deferred (some [])))).push (.obj (.loop r))).push (.fact (lpF (O.N+1) y r.tmps n e))
theorem VM.afY {g:Operand} {ps:Array Tmp} {asg body:Code} {gf:FuncId} {cs:List MV} (hg:ev e g=some (.func (.func gf) [] cs)) (hE:Enters P gf)
  (hit:∀(y:Nat) (r:Loop) (F:VH),F=lpO O r y n e->r.state= .ready->r.pending=none->r.params=ps->r.assign=asg->r.body=body->VF P gf (.func (.yield y) [] []::cs) F
   (aD fun _ O'=>O'.hp (O.N+1)=some (.obj (.loop r))/\M .normal e (O'.set (O.N+1) (.obj (.loop {r with state:=.exhausted}))) (O.N::js))):
  VM P n js (.rangeFunc g ps asg body) e O M:=by
 intro G D a w hw hm hf;rw[<-wpIn_wide (n:=0)];refine wpIn_rangeFunc ?_;intro fn _;have vB:=hf.ev hg;generalize Af:a.eval g=fv at vB;cases vB with
 | func h1 h2 h3 h4=>
   rename_i us vs;have jE:us=[]:=ahO h1;subst jE;obtain⟨r,hr⟩:∃r:Loop,r={state:=.ready,pending:=none,fn,tmps:=a.tmps,params:=ps,assign:=asg,body,defers:=w.heap.size}:=⟨_,rfl⟩
   obtain⟨le1,w1⟩:=hw.Nu (.deferred (some []));obtain⟨Tf,w2⟩:=w1.Nu (.loop r);rw[size_alloc]at Tf w2;generalize hG1:({G with bW:=bH G.bW O.N (some w.heap.size)}:Gh)=G1 at le1 w1 Tf w2;generalize hG2:({G1 with bW:=bH G1.bW (O.push (.obj (.deferred (some [])))).N (some (w.heap.size+1))}:Gh)=G2 at Tf w2;have p1:G1.bW O.N=some w.heap.size:=by rw[<-hG1];exact aJ _ _ _
   have p2:G2.bW (O.N+1)=some (w.heap.size+1):=by rw[<-hG2];exact aJ _ _ _
   have kh:r.tmps=a.tmps:=by rw[hr]
   have alU:FR G2 n [] e {tmps:=r.tmps,defers:=[]}:=by
    rw[kh];exact(show FR G n [] e {tmps:=a.tmps,defers:=[]}from⟨rfl,hf.size,hf.get⟩).mono (le1.trans Tf)
   have w3:=w2.Y3 (lpF (O.N+1) (w.heap.size+1) r.tmps n e) ⟨p2,alU⟩;have gq:aQ G2 cs vs:=aQ.mono (le1.trans Tf) ⟨h3,h4⟩;have ai_:=hit (w.heap.size+1) r _ rfl (by rw[hr]) (by rw[hr]) (by rw[hr]) (by rw[hr]) (by rw[hr]) G2 _ (.func (.yield (w.heap.size+1)) #[] #[]::vs) w3 (aQ.cons (.func (us:=[]) (vs:=[]) rfl (fun i c u h=>by simp at h) rfl (fun i c u h=>by simp at h)) gq);refine⟨w.heap.size+1,[{target:=.collected w.heap.size,args:= #[]}],(w.alloc (.deferred (some []))).alloc (.loop r),{target:=.fn (.func gf) vs.toArray,args:= #[.func (.yield (w.heap.size+1)) #[] #[]]},(w.alloc (.deferred (some []))).alloc (.loop r),gf,(.func (.yield (w.heap.size+1)) #[] #[]::vs).toArray,(w.alloc (.deferred (some []))).alloc (.loop r),?_,?_,fun _ _=>trivial,?_,(fun h=>by cases h),?_⟩
   ·rw[hr];exact run_enterLoop_outer _ _ _ _ _
   ·simp only[resolve,Af];simp[go_sem]
   ·have:(#[.func (.yield (w.heap.size+1)) #[] #[]]++vs.toArray:Array Value)=(.func (.yield (w.heap.size+1)) #[] #[]::vs).toArray:=by apply Array.ext';simp
    show(callFunc gf (#[.func (.yield (w.heap.size+1)) #[] #[]]++vs.toArray)).run P _=_;rw[this];exact hE _ _
   ·refine(callsIn_wide.2 ai_).mono ?_;rintro x w4 ⟨rr,O4,H,q1,q2,q3,q4⟩;cases rr with
    | panic m=>exact q4.elim
    | ret m=>
      cases x with
      | panicked c=>exact q3.elim
      | outgrown=>exact q3.elim
      | returned v=>
        obtain⟨lX,hM⟩:=q4;have ahA:=q1.bW p2;obtain⟨b,hb,hh4⟩:=q2.obj _ _ lX;rw[ahA]at hb;injection hb with hb;subst hb
        have hle:Gh.Le G H:=le1.trans (Tf.trans q1);refine⟨r.pending,_,run_endLoop hh4 (by rw[hr];simp),?_⟩
        have pc:qi G n M .normal {tmps:=a.tmps,defers:=[{target:=.collected w.heap.size,args:= #[]}]++a.defers} (w4.putObj (w.heap.size+1) (.loop {r with state:=.exhausted})):=
         ⟨.normal,e,_,H,O.N::js,{target:=.collected w.heap.size,args:= #[]}::D,hle,q2.setObj lX ahA (fun _ _ _ e=>by cases e),⟨by show _::a.defers=_;rw[hf.defers],hf.size,(hf.mono hle).get⟩,⟨⟨w.heap.size,q1.bW (Tf.bW p1),rfl⟩,hm.mono hle⟩,trivial,hM⟩
        generalize w4.putObj (w.heap.size+1) (.loop {r with state:=.exhausted})=w5 at pc;split
        ·exact pc
        ·rename_i c hc;rw[hr]at hc;cases hc
theorem yP {fn:Func} {tmps:Array Value} {R:Ending->World->Prop} {N:Nat}:∀(js:List Nat) (D:List Deferred) (G:Gh) (O:VH) (w:World),P7 G js D->WR G O w->js.Nodup->(∀j∈js,O.hp j=some (.obj (.deferred (some []))))->
  (∀O' w',WR G O' w'->O'.N=O.N->(∀i,i ∉ js->O'.hp i=O.hp i)->∃v,(results fn tmps).run P w'= .ok v w'/\R (.returned v) w')->LeavesInM Fence.wide N P fn tmps R D .returning w
 | [],[],G,O,w,_,hw,_,_,h=>h O w hw rfl fun _ _=>rfl
 | j::js,d::D,G,O,w,⟨⟨b,hb,hd⟩,hm⟩,hw,ql,ho,h=>by
   obtain⟨b',nC,hh⟩:=hw.obj j _ (ho j (by simp));rw[hb]at nC;injection nC with nC;subst nC
   have hj:=(List.nodup_cons.1 ql).1;have sI:=hw.setObj (Y:=.deferred none) (ho j (by simp)) hb (fun _ _ _ e=>by cases e);refine⟨by simp,.inl ⟨b,_,by rw[hd],run_takeDeferred hh,?_⟩⟩;refine yP js D G _ _ hm sI (List.nodup_cons.1 ql).2 (fun i hi=>?_) fun O' w' g1 g2 g3=>h O' w' g1 g2 fun i hi=>?_
   ·rw[π _ _ (fun e=>hj (by rw[<-e];exact hi))];exact ho i (by simp[hi])
   ·rw[ajq,not_or]at hi;rw[g3 i hi.2,π _ _ hi.1]
 | [],_::_,_,_,_,h,_,_,_,_=>h.elim
 | _::_,[],_,_,_,h,_,_,_,_=>h.elim
def alV (tab:cj) (rs:List ResultVar) (R:gC->VH->Prop):H9:=fun x e O js=>(x= .normal\/x= .ret)/\js.Nodup/\(∀j∈js,O.hp j=some (.obj (.deferred (some []))))/\∀O',O'.N=O.N->(∀i,i ∉ js->O'.hp i=O.hp i)->∃m,jx (fun r O'=>r= .ret m/\R r O') O' (iZ tab e O' rs)
theorem VF.inM {f:FuncId} {fn:Func} {c:Code} {args:List MV} {R:gC->VH->Prop} (k:Nat) (rs:List ResultVar) (hf:P.funcs[f]?=some fn) (h:VM P ⟨k,0⟩ [] c (cK 0 args) O (alV tab rs R)) (ht:aO P tab:=by exact aa) (hb:fn.body=some c:=by exact rfl) (hk:(⟨fn.ntmps,0⟩:Sz)=⟨k,0⟩:=by exact rfl) (hr:fn.results.toList=rs:=by exact rfl) (hn:args.length<=k:=by exact Nat.le_of_ble_eq_true rfl):VF P f args O R:=by
 have hk:fn.ntmps=k:=by injection hk
 intro G w vs hw hv
 have aW:FR G ⟨k,0⟩ [] (cK 0 args) {tmps:=vs.toArray++Array.replicate (fn.ntmps - vs.toArray.size) undef,defers:=[]}:=by
  have hl:=hv.1;refine⟨rfl,by simp;omega,fun t x hx=>?_⟩;rw[iV,if_pos (anc _),Nat.sub_zero]at hx;obtain⟨u,h1,h2⟩:=hv.get hx;refine⟨u,?_,h2⟩;have eh:=(Vq.1 h1).1;rw[Array.getElem?_append_left (by simpa using eh)];simpa using h1
 refine callsIn_wide.1 (callsIn_of_wp_marks (n:=0) hf hb trivial (wpIn_wide.2 (wp_mono (h G [] _ w hw trivial aW) ?_)));rintro y a' w' ⟨x,e',O',H,js,D,h1,h2,h3,h4,h5,h6,h7,h8,h9⟩
 have fin:LeavesInM Fence.wide 0 P fn a'.tmps (fun x w'=>∃r O' H,Gh.Le G H/\WR H O' w'/\ER H r x/\R r O') a'.defers .returning w':=by
  rw[h3.defers];refine yP js D H O' w' h4 h2 h7 h8 fun O2 w2 g1 g2 g3=>?_
  obtain⟨m,hm⟩:=h9 O2 g2 g3
  have key:∃m',dJ tab fn e' O2=some m'/\R (.ret m') O2:=by
   unfold dJ;rw[hr, <-sG];generalize iZ tab e' O2 rs=z at hm;unfold jx at hm;split at hm
   ·exact hm.elim
   ·exact⟨_,rfl,hm.2⟩
   ·rename_i l hl;refine⟨.tuple l,?_,hm.2⟩
    match l,hl with
    | [],_=>rfl
    | [m],hl=>exact absurd rfl (hl m)
    | _::_::_,_=>rfl
  obtain⟨m',k1,k2⟩:=key;obtain⟨u,k3,k4⟩:=lM (P:=P) ht g1 h3 k1;exact⟨u,k3,.ret m',O2,H,h1,g1,k4,k2⟩
 cases y with
 | normal=>exact fin
 | ret=>exact fin
 | panic c=>rcases h6 with rfl | rfl<;>exact False.elim h5
 | exit i=>rcases h6 with rfl | rfl<;>exact False.elim h5
 | goto i=>rcases h6 with rfl | rfl<;>exact False.elim h5
 | outgrown=>rcases h6 with rfl | rfl<;>exact False.elim h5
end
end Go.Proofs.YtjpadehgejlebaaGreatDoor
