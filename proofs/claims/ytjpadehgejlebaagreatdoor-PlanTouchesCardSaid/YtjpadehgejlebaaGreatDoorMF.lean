import Derived.Test.YtjpadehgejlebaaGreatDoorME
import Derived.RangeFuncSeq
set_option linter.unusedVariables false
set_option linter.unusedSimpArgs false
namespace Go.Proofs.YtjpadehgejlebaaGreatDoor
open Go.RowKit
open _root_.List renaming cons_append → zW, nil_append → Ml, length_nil → Mm, getElem?_eq_some_iff → VI, length_cons → ZA, flatMap_nil → aeb, mem_cons_self → aec, getElem?_eq_getElem → aee, length_append → ahV, mem_cons_of_mem → ahW, mem_singleton → ahX, length_map → ahY, append_assoc → ahZ, map_eq_nil_iff → ah0, eq_nil_of_length_eq_zero → ajv, mem_append → ajw, append_nil → ajz, mem_map → ajA, not_mem_nil → ame, mem_cons → am_, contains_iff_mem → ane, length_singleton → ang, getElem_mem → ani, getD_eq_getElem?_getD → anj, drop_eq_getElem_cons → ank, take_append_getElem → anl, flatMap_singleton → ann, map_cons → anq, singleton_append → ant, getElem?_map → anw, getElem?_append_left → anx, pairwise_iff_getElem → anz, all_eq_true → anA, any_eq_true → anB, length_drop → anC, length_set → anE
open _root_.Nat renaming le_refl → aed, lt_of_lt_of_le → agu, le_trans → ajx, mul_le_mul_right → anb, zero_add → anc, le_of_ble_eq_true → anf, le_succ_of_le → anm, lt_succ_self → ano, zero_le → anp, add_zero → anD
open _root_.And renaming intro → Mn
open _root_.Int renaming toNat_natCast → anv
open _root_.Bool renaming false_eq_true → ajy, or_eq_true_iff → ajB, and_eq_true_iff → ana, false_and → anh, true_and → anr, and_eq_true → ans, eq_iff_iff → anu
set_option maxRecDepth 10000
set_option linter.defProp false in
def aQ:=Mn c6<|Mn ct<|Mn agH<|Mn agG<|Mn agM<|Mn T82 T50
section
variable {P:Program} {n:Sz} {D:List Deferred} {ops:Array Oper} {e:Env} {O:VH} {Q:VQ}
theorem ae.acM {brk:List Nat} {Ψ :Gh->Prop} {J:VH->Prop} {Z:Prop} {fuel i j k:Nat} {listed:Array Bool}
  (h1:aN P n D ops i e O Q fun e' O'=>J O'/\ae P n D ops brk J Ψ Z fuel (listed.setIfInBounds i true) e' O' Q) (h2:aN P n D ops j e O Q fun e' O'=>J O'/\ae P n D ops brk J Ψ Z fuel (listed.setIfInBounds j true) e' O' Q)
  (h3:aN P n D ops k e O Q fun e' O'=>J O'/\ae P n D ops brk J Ψ Z fuel (listed.setIfInBounds k true) e' O' Q) (hr:Region.ready .any ops listed=[i,j,k]:=by kernel_rfl):ae P n D ops brk J Ψ Z (fuel+1) listed e O Q:=by
 intro hΨ hZ hJ G a w hψ hw aV
 have key:∀x,(aN P n D ops x e O Q fun e' O'=>J O'/\ae P n D ops brk J Ψ Z fuel (listed.setIfInBounds x true) e' O' Q)->wpOp P ops (cN G n D Q) x (fun a' w'=>TE brk G J x w'/\jy P .any ops (cN G n D Q) (TE brk G J) fuel (listed.setIfInBounds x true) a' w') a w:=fun x h=>
  wpOp_mono (fun a' w' ⟨e',O',H,h1,h2,h3,h4,h5⟩=>⟨TE.mk ⟨H,O',h1,h2,h4⟩,jW (fun _ _ _=>cN.le h1) _ _ _ _ (fun k _ x hT=>hT.le h1) (h5 hΨ hZ h4 H a' w' (hΨ _ _ h1 hψ) h2 h3)⟩) (h G a w hw aV)
 refine jV hr (by simp) fun x hx=>?_
 simp only[am_,ame,or_false]at hx;rcases hx with rfl | rfl | rfl
 ·exact key _ h1
 ·exact key _ h2
 ·exact key _ h3
end
theorem Et {F O3:VH} {B sz pb og:Nat} {tk:Tok} {X gc:cf} (cy:App F B sz tk) (hB:O3.N<=B) (oK:pb<O3.N) (hog:og<O3.N) (j:F.hp pb=some X/\F.hp og=some gc/\O3.N<=F.N/\∀i,i<O3.N->i≠pb->F.hp i=O3.hp i):(F.after tk).hp pb=some X/\(F.after tk).hp og=some gc/\O3.N<=(F.after tk).N/\∀i,i<O3.N->i≠pb->(F.after tk).hp i=O3.hp i:=by
 have Lx:=cc.after cy;have hs:∀i,i<O3.N->(F.after tk).hp i=F.hp i:=fun i h=>Lx.hp i (agu h j.2.2.1) (fun e=>by have:=(App.nE cy e).1;omega)
 exact⟨(hs _ oK).trans j.1,(hs _ hog).trans j.2.1,ajx j.2.2.1 Lx.N,fun i h1 h2=>(hs i h1).trans (j.2.2.2 i h1 h2)⟩
theorem BG {ops:Array Oper} {listed:Array Bool} {i:Nat}:∀{k m:Nat},k<=m->∀j,j∈kS ops listed i k->j∈kS ops listed i m
 | 0,_,_,j,h=>by cases h
 | k+1,0,hm,j,h=>by omega
 | k+1,m+1,hm,j,h=>by
   have ih:=BG (ops:=ops) (listed:=listed) (i:=i) (k:=k) (m:=m) (by omega);rw[kS,List.mem_filter]at h ⊢;refine⟨h.1,?_⟩;obtain⟨h1,h2⟩:=ana.1 h.2;refine ana.2 ⟨h1,?_⟩;cases ho:ops[j]? with
   | none=>rw[ho]at h2;cases h2
   | some o=>
     rw[ho]at h2;simp only[Option.map_some,Option.getD_some,Array.any_eq_true']at h2 ⊢;obtain⟨e,he,h3⟩:=h2;obtain⟨h4,h5⟩:=ana.1 h3;refine⟨e,he,ana.2 ⟨h4,?_⟩⟩;rcases ajB.1 h5 with h6 | h6
     ·exact ajB.2 (.inl h6)
     ·exact ajB.2 (.inr (ane.2 (ih _ (ane.1 h6))))
theorem BH {ops:Array Oper} {brk:List Nat} {listed:Array Bool} {i:Nat} (k:Nat) (hk:k<=ops.size) (h:(brk.all fun j=>listed.getD j true||j==i||(kS ops listed i k).contains j)=true):oA ops brk listed i=true:=by
 unfold oA;rw[anA]at h ⊢;intro j hj;have:=h j hj;rcases ajB.1 this with h1 | h1
 ·exact ajB.2 (.inl h1)
 ·exact ajB.2 (.inr (ane.2 (BG hk _ (ane.1 h1))))
theorem flW (t b n:Nat) (cs:List MV) (tk:Tok) (x1 x2 x3 y1 y2 y3 y4 y5 y6 y7 y8 y9 y10 y11:MV):Fv (kT [(0,1),(1,1),(2,3),(5,11),(16,1)]) [.v (.pointer none),.v (.pointer none),.str [],.str [],.str [],.v (.bool false),.str [],.str [],.str [],.str [],.str [],.str [],.str [],.sl 0 [] .nil,.sl 0 [] .nil,.sl 0 [] .nil,.sl 0 [] .nil] (.ptr t 0) [(1,.ptr b 0),(2,.agg [x1,x2,x3]),(3,.agg [y1,y2,y3,y4,y5,y6,y7,y8,y9,y10,y11]),(4,.sl n cs tk)] (some (0,1))=some [.ptr t 0,.ptr b 0,x1,x2,x3,y1,y2,y3,y4,y5,y6,y7,y8,y9,y10,y11,.sl n cs tk]:=by kernel_rfl
structure MS (O:VH) (wb mB:Nat) (W cs:List MV) (O':VH):Prop where
 ge:O.Ge O'
 w:O'.hp wb=some (.cells W)
 m:O'.hp mB=some (.cells cs)
 w0:O.N<=wb
 wl:wb<O'.N
 m0:O.N<=mB
 ml:mB<O'.N
 ne:wb≠mB
theorem MS.go {O O' O2:VH} {wb mB:Nat} {W cs:List MV} (h:MS O wb mB W cs O') (g:O'.Ge O2):MS O wb mB W cs O2:=
 ⟨h.ge.trans g,(g.hp _ h.wl).trans h.w,(g.hp _ h.ml).trans h.m,h.w0,agu h.wl g.N,h.m0,agu h.ml g.N,h.ne⟩
theorem MS.st {O O':VH} {wb mB:Nat} {W cs cs':List MV} (h:MS O wb mB W cs O'):MS O wb mB W cs' (O'.set mB (.cells cs')):=
 ⟨h.ge.set h.m0 _,(ρ _ _ h.ne).trans h.w,τ _ _ _,h.w0,h.wl,h.m0,h.ml,h.ne⟩
theorem VC.ms {P:Program} {n:Sz} {D:List Deferred} {c:Code} {e:Env} {Q:VQ} {O O':VH} {wb mB:Nat} {W cs cs':List MV} (h:MS O wb mB W cs O') (k:∀O2,MS O wb mB W cs' O2->(∀i,i≠mB->O2.hp i=O'.hp i)->O2.N=O'.N->VC P n D c e O2 Q):VC P n D c e (O'.set mB (.cells cs')) Q:=k _ h.st (fun i hi=>ρ _ _ hi) rfl
theorem MS.mv {O O' O2:VH} {wb mB tb kd:Nat} {W cs:List MV} (h:MS O wb mB W cs O') (hn:O'.N<=O2.N) (hf:∀i,i<O'.N->i≠tb->i≠kd->O2.hp i=O'.hp i) (h1:O.N<=tb) (h2:O.N<=kd) (h3:tb≠wb) (h4:kd≠wb) (h5:tb≠mB) (h6:kd≠mB):MS O wb mB W cs O2:=by
 have hl:=h.ge.N;have hw:=h.wl;have hm:=h.ml;exact⟨⟨by omega,fun i hi=>(hf i (by omega) (by omega) (by omega)).trans (h.ge.hp i hi)⟩,(hf _ hw (Ne.symm h3) (Ne.symm h4)).trans h.w,(hf _ hm (Ne.symm h5) (Ne.symm h6)).trans h.m,h.w0,by omega,h.m0,by omega,h.ne⟩
theorem SY {O OF:VH} {k ke kv ce cv md q c:Nat} {L:List (Gv×Bs×Option Pm)} {E V:fI} {r a r' a':Int} (h:ob O k L E V ke kv ce cv r a) {i:Nat} {g:Gv} {t:Bs} {p:Pm} {es:vE} {cm:Nat} (hi:L[i]?=some (g,t,none)) (hE:E[i]?=some (fc g,.ptr q 0,c)) (hk:OF.hp k=some (.cells [.map ke,.map kv,mi r',mi a']))
  (hq:OF.hp q=some (.cells (jq t 1 0 p il))) (hn:O.N<=OF.N) (hf:∀j,j<O.N->j≠k->j≠q->j≠md->OF.hp j=O.hp j) (hmd:O.hp md=some (.map es cm)) (jP:md≠ke/\md≠kv):ob OF k (L.set i (g,t,some p)) E V ke kv ce cv r' a':=by
 obtain⟨q2,c2,e1,oH,Eb⟩:=h.Ll i g t none hi;rw[hE]at e1;injection e1 with e1;injection e1 with _ e1;injection e1 with e1 _;injection e1 with e1 _
 subst e1;have ei:=h.st.lt;have hke:ke≠q:=fun e=>by have:=h.st.Dt;rw[e,Eb]at this;cases this
 have D9:kv≠q:=fun e=>by have:=h.st.Jp;rw[e,Eb]at this;cases this
 have hli:=(VI.1 hi).1;refine⟨⟨hk,(hf _ ei.2.1 (Ne.symm h.st.ne.1) hke (Ne.symm jP.1)).trans h.st.Dt,(hf _ ei.2.2 (Ne.symm h.st.ne.2.1) D9 (Ne.symm jP.2)).trans h.st.Jp,h.st.OJ,h.st.vok,h.st.ptr,⟨by omega,by omega,by omega⟩,h.st.ne⟩,by rw[anE];exact h.len,fun j g' t' o hj=>?_,h.dis,?_⟩
 ·by_cases e:i=j
  ·subst e;rw[List.getElem?_set_self hli]at hj;injection hj with hj;simp only[Prod.mk.injEq]at hj;obtain⟨rfl,rfl,rfl⟩:=hj;exact⟨q,c,hE,by omega,hq⟩
  ·rw[List.getElem?_set_ne e]at hj;obtain⟨q',c',k1,k2,k3⟩:=h.Ll j g' t' o hj;refine⟨q',c',k1,by omega,(hf q' k2 (fun e2=>?_) (fun e2=>?_) (fun e2=>?_)).trans k3⟩
   ·rw[e2,h.st.cell]at k3;injection k3 with k3;injection k3 with k3
    cases o<;>cases k3
   ·subst e2;exact e (h.dis i j _ _ q' hE k1 rfl rfl)
   ·rw[e2,hmd]at k3;cases k3
 ·rw[anE];refine h.ver.mv hn fun j hj e=>(hf j hj (fun e2=>?_) (fun e2=>?_) (fun e2=>?_)).trans e
  ·rw[e2,h.st.cell]at e;cases e
  ·rw[e2,Eb]at e;cases e
  ·rw[e2,hmd]at e;cases e
theorem pQ.off {O O':VH} {tb kr kd mB:Nat} {L:List (Bs×Bs)} {R D:vt} {cr cd:Nat} {tk:Tok} {kn:Int} (h:pQ O tb kr kd L R D cr cd tk kn) (hi:∀i,i≠mB->O'.hp i=O.hp i) (hn:O'.N=O.N) (h1:tb<mB) (h2:kr<mB) (h3:kd<mB):pQ O' tb kr kd L R D cr cd tk kn:=
 ⟨(hi _ (by omega)).trans h.cell,(hi _ (by omega)).trans h.raw,(hi _ (by omega)).trans h.done,by rw[hn];exact h.lt,h.ne⟩
theorem Wk.mdl (a1 a2 a3 a4:MV) (n1 n2 n3:Nat) (c1 c2 c3:List MV) (t1 t2 t3:Tok):fl [a1,a2,a3,a4,.sl n1 c1 t1,.sl n2 c2 t2,.sl n3 c3 t3] [a1,a2,a3,a4,.sl n1 c1 .ar,.sl n2 c2 .ar,.sl n3 c3 .ar]:=
 by repeat' first
  | exact fl.refl _
  | exact Wk.refl _
  | exact Wk.tok
  | refine fl.cons ?_ ?_
theorem BI {O:VH} {tb kr kd b:Nat} {X:cf} {L:List (Bs×Bs)} {R D:vt} {cr cd:Nat} {tk:Tok} {kn:Int} (h:pQ O tb kr kd L R D cr cd tk kn) (h1:tb≠b) (h2:kr≠b) (h3:kd≠b):pQ (O.set b X) tb kr kd L R D cr cd tk kn:=
 ⟨(ρ _ _ h1).trans h.cell,(ρ _ _ h2).trans h.raw,(ρ _ _ h3).trans h.done,h.lt,h.ne⟩
theorem uE {F:VH} {B sz:Nat} {t7:Tok} (cy:App F B sz t7) {tb kr kd:Nat} {L:List (Bs×Bs)} {R D:vt} {cr cd:Nat} {tk:Tok} {kn:Int} (h:pQ F tb kr kd L R D cr cd tk kn):pQ (F.after t7) tb kr kd L R D cr cd tk kn:=by
 have hn:=(cc.after cy).N;have hl:=h.lt;exact⟨(App.off cy hl.1 (by rw[h.cell];simp)).trans h.cell,(App.off cy hl.2.1 (by rw[h.raw];simp)).trans h.raw,(App.off cy hl.2.2 (by rw[h.done];simp)).trans h.done,by omega,h.ne⟩
abbrev nB:List MV:=[.str [],.str [],.str [],.str [],.sl 0 [] .nil,.sl 0 [] .nil,.sl 0 [] .nil]
set_option maxHeartbeats 4000000 in
theorem acN {O:VH} {bb md k ke kv ce cv:Nat} {MD:fI} {cm:Nat} {L:List (Gv×Bs×Option Pm)} {E V:fI} {r a:Int} (hB:SX O bb md k MD cm) (h:ob O k L E V ke kv ce cv r a) {i:Nat} {g:Gv} {t:Bs} {n:Nd} {p:Pm} (hi:L[i]?=some (g,t,none)) (hg:uy g) (ht:t.length<=65536) (hb:iK t= .ok n) (hr:pL n= .ok p) (hq:PmQ p g) (ec:iD (fc g) MD=none) (jP:md≠ke/\md≠kv):
  VF Tryz.prog 105 [.ptr bb 0,.agg (bZ g),.sl 0 [] .nil] O (aE fun m O'=>m= .agg (mr (jd g p))/\∃q c,E[i]?=some (fc g,.ptr q 0,c)/\(∃r' a',ob O' k (L.set i (g,t,some p)) E V ke kv ce cv r' a')/\SX O' bb md k (MD++[(fc g,.agg (mr (jd g p)),cm)]) (cm+1)/\O.N<=O'.N/\∀j,j<O.N->j≠k->j≠q->j≠md->O'.hp j=O.hp j):=by
 have Ec:=fun(O':VH) (g':O.Ge O')=>YG (h.ge g') hi hg ht hb hr hq.c
 have ox:=wP hg;have hBc:=fun(O':VH) (g':O.Ge O')=>(hB.ge g')
 obtain⟨g1,g2,g3⟩:=g;simp only[bZ,gX,nI,il,aq,bu]at Ec;simp only[bZ];refine χ 120 [.cell 6 215] Tryz.func105 ?_;refine κ @aQ ?_;refine VC.gen ?_;intro O1 e1;obtain⟨aJ,cW,cz,cE⟩:=ib _ _ e1;clear e1;have oq:=hBc O1 aJ;have hlB:=hB.lt;refine Ξ [0,2,4,6,8] (fun _:Unit=>[.ptr bb 0,.sl 0 [] .nil,.ptr O.N 0,.ptr (O.N+1) 0,mb false]) (fun _ O'=>O1.Ge O') ?_ ?_
 ·refine ω ?_;refine VC.qR [11] (fun O'=>O'.hp bb=some (.cells [.ptr k 0,.map md])/\O'.hp O.N=some (.cells [.str g1,.str g2,.str g3])/\O1.Ge O') (⟨oq.cell,cz,VH.Ge.refl _⟩) ?_;refine ae.au 0 ?_;refine ab @aQ ?_;refine ae.au 1 ?_;refine ab @aQ ?_;refine ae.au 2 ?_;refine ab @aQ ?_;refine ζ (m:=.map md) 3 ?_ ?_
  ·rintro O2 ⟨j0,j1,j2⟩;exact dW @aQ @j0
  simp only[ak];refine ζ (m:=.agg [.str g1,.str g2,.str g3]) 4 ?_ ?_
  ·rintro O2 ⟨j0,j1,j2⟩;exact dW @aQ @j1
  simp only[ak];have lC:∀A B:VH,A.Ge B->(A.hp bb=some (.cells [.ptr k 0,.map md])/\A.hp O.N=some (.cells [.str g1,.str g2,.str g3])/\O1.Ge A)->(B.hp bb=some (.cells [.ptr k 0,.map md])/\B.hp O.N=some (.cells [.str g1,.str g2,.str g3])/\O1.Ge B):=fun A B g h=>⟨(g.hp _ (by have:=h.2.2.N;have:=oq.lt;omega)).trans h.1,(g.hp _ (by have:=h.2.2.N;omega)).trans h.2.1,h.2.2.trans g⟩
  have rb:O1.hp bb=some (.cells [.ptr k 0,.map md])/\O1.hp O.N=some (.cells [.str g1,.str g2,.str g3])/\O1.Ge O1:=⟨oq.cell,cz,VH.Ge.refl _⟩;have vf:∀A:VH,A.Ge (A.push (.cells nB)):=fun A=>(VH.Ge.refl A).push _
  have hJs:((O1.push (.cells nB)).set O1.N (.cells nB)).hp bb=some (.cells [.ptr k 0,.map md])/\((O1.push (.cells nB)).set O1.N (.cells nB)).hp O.N=some (.cells [.str g1,.str g2,.str g3])/\O1.Ge ((O1.push (.cells nB)).set O1.N (.cells nB)):=lC O1 _ ((vf O1).set (aed _) _) rb;refine η (i:=5) (j:=9) ?_ ?_
  ·refine aN.sj (fJ.kI wO aa (l:=fc ⟨g1,g2,g3⟩) (te:=⟨_,7,136,nB⟩) Tryz.underlying172 FP.1.1 rfl rfl oq.map oq.ok rfl rfl ox) ?_;rw[ec];refine⟨rb,?_⟩;refine ae.au 6 ?_;refine ab @aQ ?_;refine ae.au 7 ?_;refine ab @aQ ?_;refine ae.au 8 ?_;refine ab @aQ ?_;refine ae.op (i:=9) ?_;refine ab @aQ ?_;refine⟨⟨rb.1,rb.2.1,vf _⟩,?_⟩;refine ae.op (i:=10) ?_;refine ab @aQ ?_;refine⟨⟨rb.1,rb.2.1,hJs.2.2⟩,?_⟩;refine ae.bQ [(11,.one)] ?_;refine ab @aQ ?_;refine ν @aQ ?_;exact aB.mk () ((vf O1).set (aed _) _)
  ·refine aN.o1 ?_;refine ab @aQ ?_;refine⟨⟨rb.1,rb.2.1,vf _⟩,?_⟩;refine ae.one (i:=5) (aN.sj (fJ.kI wO aa (l:=fc ⟨g1,g2,g3⟩) (te:=⟨_,7,136,nB⟩) Tryz.underlying172 FP.1.1 rfl rfl ((vf _).hp _ oq.lt.2 |>.trans oq.map) oq.ok rfl rfl ox) ?_);rw[ec];refine⟨lC _ _ (vf _) rb,?_⟩;refine ae.au 6 ?_;refine ab @aQ ?_;refine ae.au 7 ?_;refine ab @aQ ?_;refine ae.au 8 ?_;refine ab @aQ ?_;refine ae.op (i:=10) ?_;refine ab @aQ ?_;refine⟨⟨rb.1,rb.2.1,hJs.2.2⟩,?_⟩;refine ae.bQ [(11,.one)] ?_;refine ab @aQ ?_;refine ν @aQ ?_;exact aB.mk () ((vf O1).set (aed _) _)
 rintro _ O2 aC;have DA:=aJ.trans aC;have Cx:=hBc O2 DA;have uF:O2.hp bb=some (.cells [.ptr k 0,.map md])/\O2.hp O.N=some (.cells [.str g1,.str g2,.str g3]):=⟨Cx.cell,aC.at cz⟩;have cK:=aC.at cE;have gO2:=VH.Ge.refl O2;have eJ:=aC.N;obtain⟨q0,c,pY,ahb,Eb,hE0⟩:=h.some hi;have fF:=h.st.lt.1;have yf:bb≠k:=fun e=>by have:=hB.cell;rw[e,h.st.cell]at this;simp at this
 have YL:bb≠q0:=fun e=>by have:=hB.cell;rw[e,Eb]at this;simp[ach,jq]at this
 refine Ξ [0,2,4,6,9,10] (fun x:Nat×Nat=>[.ptr bb 0,.sl 0 [] .nil,.ptr O.N 0,.ptr (O.N+1) 0,.ptr x.1 0,.ptr x.2 0]) (fun x O'=>x.1≠x.2/\O2.N<=x.1/\O2.N<=x.2/\x.1<O'.N/\x.2<O'.N/\O'.hp x.1=some (.cells (gX p))/\O'.hp x.2=some (.cells (nI il))/\(∃r' a',O'.hp k=some (.cells [.map ke,.map kv,mi r',mi a']))/\O'.hp q0=some (.cells (jq t 1 0 p il))/\dJ O2 k q0 O') ?_ ?_
 ·have hpm:∃P0,P0=gX p:=⟨_,rfl⟩
  refine VC.qR [12] (fun O'=>O'.hp bb=some (.cells [.ptr k 0,.map md])/\O'.hp O.N=some (.cells [.str g1,.str g2,.str g3])) (uF) ?_;refine ae.au 0 ?_;refine ab @aQ ?_;refine ae.au 1 ?_;refine ab @aQ ?_;refine ae.au 2 ?_;refine ab @aQ ?_;refine ζ (m:=.ptr k 0) 3 ?_ ?_
  ·rintro O2 ⟨j0,j1⟩;exact dW @aQ @j0
  simp only[ak];refine ζ (m:=.agg [.str g1,.str g2,.str g3]) 4 ?_ ?_
  ·rintro O2 ⟨j0,j1⟩;exact dW @aQ @j1
  simp only[ak];refine ae.acM (i:=5) (j:=9) (k:=10) ?_ ?_ ?_
  ·refine aN.j8 (Ec O2 (DA.trans gO2)) ?_;rintro _ ou ⟨rfl,q,BJ,Vc,⟨r',a',acO⟩,acP,hu⟩;obtain rfl:q=q0:=by rw[BJ]at pY;injection pY with e;injection e
   have amQ:=hu.N;have Ve:=(dJ.of (k:=k) (q:=q) gO2).trans hu;have amp:=hu.hp;clear hu;have GN:ou.hp bb=some (.cells [.ptr k 0,.map md])/\ou.hp O.N=some (.cells [.str g1,.str g2,.str g3]):=⟨(Ve.hp bb (by omega) yf YL).trans uF.1,(Ve.hp O.N (by omega) (by omega) (by omega)).trans uF.2⟩;simp only[ak];refine⟨GN,?_⟩;refine ae.au 6 ?_;refine ab @aQ ?_;refine ae.au 7 ?_;refine ab @aQ ?_;refine ae.au 8 ?_;refine ab @aQ ?_;refine η (i:=9) (j:=10) ?_ ?_
   ·refine aN.o1 ?_;refine ab @aQ ?_;refine⟨GN,?_⟩;have GO:VH.Ge ou (VH.push ou (.cells fD)):=(VH.Ge.refl _).push _;have PJ:(VH.push ou (.cells fD)).hp (ou.N)=some (.cells fD):=Υ _ _;have amq:(VH.push ou (.cells fD)).N=ou.N+1:=rfl;have SZ:(VH.push ou (.cells fD)).hp bb=some (.cells [.ptr k 0,.map md])/\(VH.push ou (.cells fD)).hp O.N=some (.cells [.str g1,.str g2,.str g3]):=⟨GO.at GN.1,GO.at GN.2⟩;generalize VH.push ou (.cells fD)=s9 at*;have afR:=GO.at acO;have afS:=GO.at acP;have ai0:=Ve.ge GO;refine ae.op (i:=10) ?_;refine ab @aQ ?_;refine⟨SZ,?_⟩;have xW:VH.Ge s9 (VH.push s9 (.cells [.v (.int .i64 0),.str [],.str [],.str [],.v (.int .i64 0),.v (.int .i64 0),.v (.int .i64 0),.str []])):=(VH.Ge.refl _).push _;have H9:(VH.push s9 (.cells [.v (.int .i64 0),.str [],.str [],.str [],.v (.int .i64 0),.v (.int .i64 0),.v (.int .i64 0),.str []])).hp (s9.N)=some (.cells [.v (.int .i64 0),.str [],.str [],.str [],.v (.int .i64 0),.v (.int .i64 0),.v (.int .i64 0),.str []]):=Υ _ _;have amg:(VH.push s9 (.cells [.v (.int .i64 0),.str [],.str [],.str [],.v (.int .i64 0),.v (.int .i64 0),.v (.int .i64 0),.str []])).N=s9.N+1:=rfl;have LC:(VH.push s9 (.cells [.v (.int .i64 0),.str [],.str [],.str [],.v (.int .i64 0),.v (.int .i64 0),.v (.int .i64 0),.str []])).hp bb=some (.cells [.ptr k 0,.map md])/\(VH.push s9 (.cells [.v (.int .i64 0),.str [],.str [],.str [],.v (.int .i64 0),.v (.int .i64 0),.v (.int .i64 0),.str []])).hp O.N=some (.cells [.str g1,.str g2,.str g3]):=⟨xW.at SZ.1,xW.at SZ.2⟩;generalize VH.push s9 (.cells [.v (.int .i64 0),.str [],.str [],.str [],.v (.int .i64 0),.v (.int .i64 0),.v (.int .i64 0),.str []])=S0 at*;have acQ:=xW.at afR;have acR:=xW.at afS;have Vf:=ai0.ge xW;have LD:=xW.at PJ;have w6:=LD;have lD:=H9;have hne:ou.N≠s9.N:=by omega
    have sq:O2.N<=ou.N:=by omega
    have qp:O2.N<=s9.N:=by omega
    have n8:ou.N<VH.N S0:=by omega
    have re:s9.N<VH.N S0:=by omega
    refine ae.op (i:=11) ?_;refine ao @aQ @w6 ?_;refine⟨by first | exact⟨Γ (And.left LC),Γ (And.right LC)⟩ | exact LC,?_⟩;refine ae.bQ [(12,.one)] ?_;refine aH @aQ @w6 @lD ?_;exact aB.mk (ou.N,s9.N) ⟨hne,sq,qp,n8,re,(ρ _ _ hne).trans (τ _ _ _),τ _ _ _,⟨r',a',Γ (Γ acQ)⟩,Γ (Γ acR),⟨(by show O2.N<=VH.N S0;exact dJ.N Vf),fun i h1 h2 h3=>by rw[ρ _ _ (by omega),ρ _ _ (by omega)];exact dJ.hp Vf i h1 h2 h3⟩⟩
   ·refine aN.o1 ?_;refine ab @aQ ?_;refine⟨GN,?_⟩;have GQ:VH.Ge ou (VH.push ou (.cells [.v (.int .i64 0),.str [],.str [],.str [],.v (.int .i64 0),.v (.int .i64 0),.v (.int .i64 0),.str []])):=(VH.Ge.refl _).push _;have PK:(VH.push ou (.cells [.v (.int .i64 0),.str [],.str [],.str [],.v (.int .i64 0),.v (.int .i64 0),.v (.int .i64 0),.str []])).hp (ou.N)=some (.cells [.v (.int .i64 0),.str [],.str [],.str [],.v (.int .i64 0),.v (.int .i64 0),.v (.int .i64 0),.str []]):=Υ _ _;have amr:(VH.push ou (.cells [.v (.int .i64 0),.str [],.str [],.str [],.v (.int .i64 0),.v (.int .i64 0),.v (.int .i64 0),.str []])).N=ou.N+1:=rfl;have S1:(VH.push ou (.cells [.v (.int .i64 0),.str [],.str [],.str [],.v (.int .i64 0),.v (.int .i64 0),.v (.int .i64 0),.str []])).hp bb=some (.cells [.ptr k 0,.map md])/\(VH.push ou (.cells [.v (.int .i64 0),.str [],.str [],.str [],.v (.int .i64 0),.v (.int .i64 0),.v (.int .i64 0),.str []])).hp O.N=some (.cells [.str g1,.str g2,.str g3]):=⟨GQ.at GN.1,GQ.at GN.2⟩;generalize VH.push ou (.cells [.v (.int .i64 0),.str [],.str [],.str [],.v (.int .i64 0),.v (.int .i64 0),.v (.int .i64 0),.str []])=s_ at*;have afT:=GQ.at acO;have afU:=GQ.at acP;have ai1:=Ve.ge GQ;refine ae.op (i:=9) ?_;refine ab @aQ ?_;refine⟨S1,?_⟩;have xX:VH.Ge s_ (VH.push s_ (.cells fD)):=(VH.Ge.refl _).push _;have H_:(VH.push s_ (.cells fD)).hp (s_.N)=some (.cells fD):=Υ _ _;have amh:(VH.push s_ (.cells fD)).N=s_.N+1:=rfl;have LG:(VH.push s_ (.cells fD)).hp bb=some (.cells [.ptr k 0,.map md])/\(VH.push s_ (.cells fD)).hp O.N=some (.cells [.str g1,.str g2,.str g3]):=⟨xX.at S1.1,xX.at S1.2⟩;generalize VH.push s_ (.cells fD)=S4 at*;have acS:=xX.at afT;have acT:=xX.at afU;have Vg:=ai1.ge xX;have LH:=xX.at PK;have w6:=H_;have lD:=LH;have hne:s_.N≠ou.N:=by omega
    have sq:O2.N<=s_.N:=by omega
    have qp:O2.N<=ou.N:=by omega
    have n8:s_.N<VH.N S4:=by omega
    have re:ou.N<VH.N S4:=by omega
    refine ae.op (i:=11) ?_;refine ao @aQ @w6 ?_;refine⟨by first | exact⟨Γ (And.left LG),Γ (And.right LG)⟩ | exact LG,?_⟩;refine ae.bQ [(12,.one)] ?_;refine aH @aQ @w6 @lD ?_;exact aB.mk (s_.N,ou.N) ⟨hne,sq,qp,n8,re,(ρ _ _ hne).trans (τ _ _ _),τ _ _ _,⟨r',a',Γ (Γ acS)⟩,Γ (Γ acT),⟨(by show O2.N<=VH.N S4;exact dJ.N Vg),fun i h1 h2 h3=>by rw[ρ _ _ (by omega),ρ _ _ (by omega)];exact dJ.hp Vg i h1 h2 h3⟩⟩
  ·refine aN.o1 ?_;refine ab @aQ ?_;refine⟨uF,?_⟩;have acU:VH.Ge O2 (VH.push O2 (.cells fD)):=(VH.Ge.refl _).push _;have JH:(VH.push O2 (.cells fD)).hp (O2.N)=some (.cells fD):=Υ _ _;have amR:(VH.push O2 (.cells fD)).N=O2.N+1:=rfl;have acV:(VH.push O2 (.cells fD)).hp bb=some (.cells [.ptr k 0,.map md])/\(VH.push O2 (.cells fD)).hp O.N=some (.cells [.str g1,.str g2,.str g3]):=⟨acU.at uF.1,acU.at uF.2⟩;generalize VH.push O2 (.cells fD)=zX at*;have acW:=gO2.trans acU;refine η (i:=5) (j:=10) ?_ ?_
   ·refine aN.j8 (Ec zX (DA.trans acW)) ?_;rintro _ rf ⟨rfl,q,BJ,Vc,⟨r',a',afV⟩,afW,hu⟩;obtain rfl:q=q0:=by rw[BJ]at pY;injection pY with e;injection e
    have ams:=hu.N;have S5:=(dJ.of (k:=k) (q:=q) acW).trans hu;have afX:=hu.hp;clear hu;have LI:rf.hp bb=some (.cells [.ptr k 0,.map md])/\rf.hp O.N=some (.cells [.str g1,.str g2,.str g3]):=⟨(S5.hp bb (by omega) yf YL).trans uF.1,(S5.hp O.N (by omega) (by omega) (by omega)).trans uF.2⟩;have S6:=(afX O2.N (by omega) (by omega) (by omega)).trans JH;simp only[ak];refine⟨LI,?_⟩;refine ae.au 6 ?_;refine ab @aQ ?_;refine ae.au 7 ?_;refine ab @aQ ?_;refine ae.au 8 ?_;refine ab @aQ ?_;refine ae.op (i:=10) ?_;refine ab @aQ ?_;refine⟨LI,?_⟩;have xY:VH.Ge rf (VH.push rf (.cells [.v (.int .i64 0),.str [],.str [],.str [],.v (.int .i64 0),.v (.int .i64 0),.v (.int .i64 0),.str []])):=(VH.Ge.refl _).push _;have Ia:(VH.push rf (.cells [.v (.int .i64 0),.str [],.str [],.str [],.v (.int .i64 0),.v (.int .i64 0),.v (.int .i64 0),.str []])).hp (rf.N)=some (.cells [.v (.int .i64 0),.str [],.str [],.str [],.v (.int .i64 0),.v (.int .i64 0),.v (.int .i64 0),.str []]):=Υ _ _;have ami:(VH.push rf (.cells [.v (.int .i64 0),.str [],.str [],.str [],.v (.int .i64 0),.v (.int .i64 0),.v (.int .i64 0),.str []])).N=rf.N+1:=rfl;have LJ:(VH.push rf (.cells [.v (.int .i64 0),.str [],.str [],.str [],.v (.int .i64 0),.v (.int .i64 0),.v (.int .i64 0),.str []])).hp bb=some (.cells [.ptr k 0,.map md])/\(VH.push rf (.cells [.v (.int .i64 0),.str [],.str [],.str [],.v (.int .i64 0),.v (.int .i64 0),.v (.int .i64 0),.str []])).hp O.N=some (.cells [.str g1,.str g2,.str g3]):=⟨xY.at LI.1,xY.at LI.2⟩;generalize VH.push rf (.cells [.v (.int .i64 0),.str [],.str [],.str [],.v (.int .i64 0),.v (.int .i64 0),.v (.int .i64 0),.str []])=S7 at*;have acX:=xY.at afV;have acY:=xY.at afW;have Vh:=S5.ge xY;have PL:=xY.at S6;have w6:=PL;have lD:=Ia;have hne:O2.N≠rf.N:=by omega
    have sq:O2.N<=O2.N:=by omega
    have qp:O2.N<=rf.N:=by omega
    have n8:O2.N<VH.N S7:=by omega
    have re:rf.N<VH.N S7:=by omega
    refine ae.op (i:=11) ?_;refine ao @aQ @w6 ?_;refine⟨by first | exact⟨Γ (And.left LJ),Γ (And.right LJ)⟩ | exact LJ,?_⟩;refine ae.bQ [(12,.one)] ?_;refine aH @aQ @w6 @lD ?_;exact aB.mk (O2.N,rf.N) ⟨hne,sq,qp,n8,re,(ρ _ _ hne).trans (τ _ _ _),τ _ _ _,⟨r',a',Γ (Γ acX)⟩,Γ (Γ acY),⟨(by show O2.N<=VH.N S7;exact dJ.N Vh),fun i h1 h2 h3=>by rw[ρ _ _ (by omega),ρ _ _ (by omega)];exact dJ.hp Vh i h1 h2 h3⟩⟩
   ·refine aN.o1 ?_;refine ab @aQ ?_;refine⟨acV,?_⟩;have LK:VH.Ge zX (VH.push zX (.cells [.v (.int .i64 0),.str [],.str [],.str [],.v (.int .i64 0),.v (.int .i64 0),.v (.int .i64 0),.str []])):=(VH.Ge.refl _).push _;have PM:(VH.push zX (.cells [.v (.int .i64 0),.str [],.str [],.str [],.v (.int .i64 0),.v (.int .i64 0),.v (.int .i64 0),.str []])).hp (zX.N)=some (.cells [.v (.int .i64 0),.str [],.str [],.str [],.v (.int .i64 0),.v (.int .i64 0),.v (.int .i64 0),.str []]):=Υ _ _;have amt:(VH.push zX (.cells [.v (.int .i64 0),.str [],.str [],.str [],.v (.int .i64 0),.v (.int .i64 0),.v (.int .i64 0),.str []])).N=zX.N+1:=rfl;have amu:(VH.push zX (.cells [.v (.int .i64 0),.str [],.str [],.str [],.v (.int .i64 0),.v (.int .i64 0),.v (.int .i64 0),.str []])).hp bb=some (.cells [.ptr k 0,.map md])/\(VH.push zX (.cells [.v (.int .i64 0),.str [],.str [],.str [],.v (.int .i64 0),.v (.int .i64 0),.v (.int .i64 0),.str []])).hp O.N=some (.cells [.str g1,.str g2,.str g3]):=⟨LK.at acV.1,LK.at acV.2⟩;generalize VH.push zX (.cells [.v (.int .i64 0),.str [],.str [],.str [],.v (.int .i64 0),.v (.int .i64 0),.v (.int .i64 0),.str []])=alq at*;have acZ:=acW.trans LK;have S8:=LK.at JH;refine ae.call (i:=5) (Ec alq (DA.trans acZ)) ?_;rintro _ GS ⟨rfl,q,BJ,Vc,⟨r',a',ac0⟩,ac1,hu⟩;obtain rfl:q=q0:=by rw[BJ]at pY;injection pY with e;injection e
    have amj:=hu.N;have Eu:=(dJ.of (k:=k) (q:=q) acZ).trans hu;have PN:=hu.hp;clear hu;have Ev:GS.hp bb=some (.cells [.ptr k 0,.map md])/\GS.hp O.N=some (.cells [.str g1,.str g2,.str g3]):=⟨(Eu.hp bb (by omega) yf YL).trans uF.1,(Eu.hp O.N (by omega) (by omega) (by omega)).trans uF.2⟩;have PO:=(PN O2.N (by omega) (by omega) (by omega)).trans S8;have LN:=(PN zX.N (by omega) (by omega) (by omega)).trans PM;simp only[ak];refine⟨Ev,?_⟩;refine ae.au 6 ?_;refine ab @aQ ?_;refine ae.au 7 ?_;refine ab @aQ ?_;refine ae.au 8 ?_;refine ab @aQ ?_;have w6:=PO;have lD:=LN;have hne:O2.N≠zX.N:=by omega
    have sq:O2.N<=O2.N:=by omega
    have qp:O2.N<=zX.N:=by omega
    have n8:O2.N<VH.N GS:=by omega
    have re:zX.N<VH.N GS:=by omega
    refine ae.op (i:=11) ?_;refine ao @aQ @w6 ?_;refine⟨by first | exact⟨Γ (And.left Ev),Γ (And.right Ev)⟩ | exact Ev,?_⟩;refine ae.bQ [(12,.one)] ?_;refine aH @aQ @w6 @lD ?_;exact aB.mk (O2.N,zX.N) ⟨hne,sq,qp,n8,re,(ρ _ _ hne).trans (τ _ _ _),τ _ _ _,⟨r',a',Γ (Γ ac0)⟩,Γ (Γ ac1),⟨(by show O2.N<=VH.N GS;exact dJ.N Eu),fun i h1 h2 h3=>by rw[ρ _ _ (by omega),ρ _ _ (by omega)];exact dJ.hp Eu i h1 h2 h3⟩⟩
  ·refine aN.o1 ?_;refine ab @aQ ?_;refine⟨uF,?_⟩;have ac2:VH.Ge O2 (VH.push O2 (.cells [.v (.int .i64 0),.str [],.str [],.str [],.v (.int .i64 0),.v (.int .i64 0),.v (.int .i64 0),.str []])):=(VH.Ge.refl _).push _;have JI:(VH.push O2 (.cells [.v (.int .i64 0),.str [],.str [],.str [],.v (.int .i64 0),.v (.int .i64 0),.v (.int .i64 0),.str []])).hp (O2.N)=some (.cells [.v (.int .i64 0),.str [],.str [],.str [],.v (.int .i64 0),.v (.int .i64 0),.v (.int .i64 0),.str []]):=Υ _ _;have amS:(VH.push O2 (.cells [.v (.int .i64 0),.str [],.str [],.str [],.v (.int .i64 0),.v (.int .i64 0),.v (.int .i64 0),.str []])).N=O2.N+1:=rfl;have ac3:(VH.push O2 (.cells [.v (.int .i64 0),.str [],.str [],.str [],.v (.int .i64 0),.v (.int .i64 0),.v (.int .i64 0),.str []])).hp bb=some (.cells [.ptr k 0,.map md])/\(VH.push O2 (.cells [.v (.int .i64 0),.str [],.str [],.str [],.v (.int .i64 0),.v (.int .i64 0),.v (.int .i64 0),.str []])).hp O.N=some (.cells [.str g1,.str g2,.str g3]):=⟨ac2.at uF.1,ac2.at uF.2⟩;generalize VH.push O2 (.cells [.v (.int .i64 0),.str [],.str [],.str [],.v (.int .i64 0),.v (.int .i64 0),.v (.int .i64 0),.str []])=zY at*;have ac4:=gO2.trans ac2;refine η (i:=5) (j:=9) ?_ ?_
   ·refine aN.j8 (Ec zY (DA.trans ac4)) ?_;rintro _ ri ⟨rfl,q,BJ,Vc,⟨r',a',afY⟩,afZ,hu⟩;obtain rfl:q=q0:=by rw[BJ]at pY;injection pY with e;injection e
    have amv:=hu.N;have S9:=(dJ.of (k:=k) (q:=q) ac4).trans hu;have af0:=hu.hp;clear hu;have LO:ri.hp bb=some (.cells [.ptr k 0,.map md])/\ri.hp O.N=some (.cells [.str g1,.str g2,.str g3]):=⟨(S9.hp bb (by omega) yf YL).trans uF.1,(S9.hp O.N (by omega) (by omega) (by omega)).trans uF.2⟩;have S_:=(af0 O2.N (by omega) (by omega) (by omega)).trans JI;simp only[ak];refine⟨LO,?_⟩;refine ae.au 6 ?_;refine ab @aQ ?_;refine ae.au 7 ?_;refine ab @aQ ?_;refine ae.au 8 ?_;refine ab @aQ ?_;refine ae.op (i:=9) ?_;refine ab @aQ ?_;refine⟨LO,?_⟩;have xZ:VH.Ge ri (VH.push ri (.cells fD)):=(VH.Ge.refl _).push _;have Ib:(VH.push ri (.cells fD)).hp (ri.N)=some (.cells fD):=Υ _ _;have amk:(VH.push ri (.cells fD)).N=ri.N+1:=rfl;have LP:(VH.push ri (.cells fD)).hp bb=some (.cells [.ptr k 0,.map md])/\(VH.push ri (.cells fD)).hp O.N=some (.cells [.str g1,.str g2,.str g3]):=⟨xZ.at LO.1,xZ.at LO.2⟩;generalize VH.push ri (.cells fD)=Ta at*;have ac5:=xZ.at afY;have ac6:=xZ.at afZ;have Vi:=S9.ge xZ;have PQ:=xZ.at S_;have w6:=Ib;have lD:=PQ;have hne:ri.N≠O2.N:=by omega
    have sq:O2.N<=ri.N:=by omega
    have qp:O2.N<=O2.N:=by omega
    have n8:ri.N<VH.N Ta:=by omega
    have re:O2.N<VH.N Ta:=by omega
    refine ae.op (i:=11) ?_;refine ao @aQ @w6 ?_;refine⟨by first | exact⟨Γ (And.left LP),Γ (And.right LP)⟩ | exact LP,?_⟩;refine ae.bQ [(12,.one)] ?_;refine aH @aQ @w6 @lD ?_;exact aB.mk (ri.N,O2.N) ⟨hne,sq,qp,n8,re,(ρ _ _ hne).trans (τ _ _ _),τ _ _ _,⟨r',a',Γ (Γ ac5)⟩,Γ (Γ ac6),⟨(by show O2.N<=VH.N Ta;exact dJ.N Vi),fun i h1 h2 h3=>by rw[ρ _ _ (by omega),ρ _ _ (by omega)];exact dJ.hp Vi i h1 h2 h3⟩⟩
   ·refine aN.o1 ?_;refine ab @aQ ?_;refine⟨ac3,?_⟩;have LQ:VH.Ge zY (VH.push zY (.cells fD)):=(VH.Ge.refl _).push _;have PR:(VH.push zY (.cells fD)).hp (zY.N)=some (.cells fD):=Υ _ _;have amw:(VH.push zY (.cells fD)).N=zY.N+1:=rfl;have amx:(VH.push zY (.cells fD)).hp bb=some (.cells [.ptr k 0,.map md])/\(VH.push zY (.cells fD)).hp O.N=some (.cells [.str g1,.str g2,.str g3]):=⟨LQ.at ac3.1,LQ.at ac3.2⟩;generalize VH.push zY (.cells fD)=alr at*;have ac7:=ac4.trans LQ;have Tb:=LQ.at JI;refine ae.call (i:=5) (Ec alr (DA.trans ac7)) ?_;rintro _ GU ⟨rfl,q,BJ,Vc,⟨r',a',ac8⟩,ac9,hu⟩;obtain rfl:q=q0:=by rw[BJ]at pY;injection pY with e;injection e
    have aml:=hu.N;have Ew:=(dJ.of (k:=k) (q:=q) ac7).trans hu;have PU:=hu.hp;clear hu;have Ex:GU.hp bb=some (.cells [.ptr k 0,.map md])/\GU.hp O.N=some (.cells [.str g1,.str g2,.str g3]):=⟨(Ew.hp bb (by omega) yf YL).trans uF.1,(Ew.hp O.N (by omega) (by omega) (by omega)).trans uF.2⟩;have PV:=(PU O2.N (by omega) (by omega) (by omega)).trans Tb;have LR:=(PU zY.N (by omega) (by omega) (by omega)).trans PR;simp only[ak];refine⟨Ex,?_⟩;refine ae.au 6 ?_;refine ab @aQ ?_;refine ae.au 7 ?_;refine ab @aQ ?_;refine ae.au 8 ?_;refine ab @aQ ?_;have w6:=LR;have lD:=PV;have hne:zY.N≠O2.N:=by omega
    have sq:O2.N<=zY.N:=by omega
    have qp:O2.N<=O2.N:=by omega
    have n8:zY.N<VH.N GU:=by omega
    have re:O2.N<VH.N GU:=by omega
    refine ae.op (i:=11) ?_;refine ao @aQ @w6 ?_;refine⟨by first | exact⟨Γ (And.left Ex),Γ (And.right Ex)⟩ | exact Ex,?_⟩;refine ae.bQ [(12,.one)] ?_;refine aH @aQ @w6 @lD ?_;exact aB.mk (zY.N,O2.N) ⟨hne,sq,qp,n8,re,(ρ _ _ hne).trans (τ _ _ _),τ _ _ _,⟨r',a',Γ (Γ ac8)⟩,Γ (Γ ac9),⟨(by show O2.N<=VH.N GU;exact dJ.N Ew),fun i h1 h2 h3=>by rw[ρ _ _ (by omega),ρ _ _ (by omega)];exact dJ.hp Ew i h1 h2 h3⟩⟩
 rintro⟨pb,xb⟩ O3 ⟨ac_,als,acE,yR,alu,pM,lS,⟨r',a',dR⟩,qZ,c_⟩;dsimp only at ac_ als acE yR alu pM lS ⊢;have gE:=c_.N;have j3:O3.hp bb=some (.cells [.ptr k 0,.map md])/\O3.hp O.N=some (.cells [.str g1,.str g2,.str g3]):=⟨(c_.hp bb (by omega) yf YL).trans uF.1,(c_.hp O.N (by omega) (by omega) (by omega)).trans uF.2⟩;have cC:=(c_.hp (O.N+1) (by omega) (by omega) (by omega)).trans cK;have ahq:md≠k:=fun e=>by have:=hB.map;rw[e,h.st.cell]at this;cases this
 have ahr:md≠q0:=fun e=>by have:=hB.map;rw[e,Eb]at this;cases this
 have hm3:=(c_.hp md (by omega) ahq ahr).trans Cx.map;have GI:=lS;simp only[nI,il,aq]at GI;refine ξ @aQ @GI ?_;refine VL.Ft aa (bb:=false) (b:=true) (by simp) (by simp[jF]) (.inr ⟨rfl,rfl⟩) (by kernel_rfl) (by kernel_rfl) rfl rfl rfl rfl ?_;refine ab @aQ ?_;simp only[gX,bu]at pM;refine Ξ [0,4,6,9,11] (fun x:Nat×Nat=>[.ptr bb 0,.ptr O.N 0,.ptr (O.N+1) 0,.ptr pb 0,.ptr x.1 0]) (fun x O'=>O3.Ge O'/\O3.N<=x.1/\x.1<O'.N/\(∃tw,O'.hp x.1=some (.cells (s8 x.2 bb ⟨g1,g2,g3⟩ p tw)))/\∃kr kd R cr t,pQ O' x.2 kr kd (iM p) R [] cr 0 t 0/\(∀x∈iM p,yp x.1 R=some x.2)/\O3.N<=kr/\O3.N<=kd/\O3.N<=x.2/\x.2≠x.1/\kd≠x.1/\kr≠x.1) ?_ ?_
 ·refine VC.Bf [13] (pb) (fun O'=>O'.hp O.N=some (.cells [.str g1,.str g2,.str g3])/\O3.N<=O'.N/\∀i,i<O3.N->i≠pb->O'.hp i=O3.hp i) (pM) (fun X=>⟨Γ j3.2,aed _,fun i _ h=>ρ _ _ h⟩) ?_;intro X;refine ε (m:=.agg [.v (.bool p.hp),.str p.par.g,.str p.par.a,.str p.par.v,.str p.g,.str p.a,.str p.v,.str p.pk,.sl p.props.length (p.props.flatMap bm) .ar,.sl p.eU.length (p.eU.flatMap aU) .ar,.sl p.eK.length (p.eK.flatMap aU) .ar]) 0 (fun _ h=>h.1) (fun _ h=>h) ?_ ?_
  ·exact fU @aQ
  simp only[ak];refine ae.au 3 ?_;refine ab @aQ ?_;refine ζ (m:=.agg [.str g1,.str g2,.str g3]) 4 ?_ ?_
  ·rintro O2 ⟨j0,j1,j2⟩;exact dW @aQ @j1
  simp only[ak];refine ε (m:=.agg [.v (.bool p.hp),.str p.par.g,.str p.par.a,.str p.par.v,.str p.g,.str p.a,.str p.v,.str p.pk,.sl p.props.length (p.props.flatMap bm) .ar,.sl p.eU.length (p.eU.flatMap aU) .ar,.sl p.eK.length (p.eK.flatMap aU) .ar]) 5 (fun _ h=>h.1) (fun _ h=>h) ?_ ?_
  ·exact fU @aQ
  simp only[ak];refine ae.au 6 ?_;refine ab @aQ ?_;refine ζ (m:=.agg [.str g1,.str g2,.str g3]) 8 ?_ ?_
  ·rintro O2 ⟨j0,j1,j2⟩;exact dW @aQ @j1
  simp only[ak];have lC:∀A B:VH,A.Ge B->(A.hp pb=some (.obj X)/\A.hp O.N=some (.cells [.str g1,.str g2,.str g3])/\O3.N<=A.N/\∀i,i<O3.N->i≠pb->A.hp i=O3.hp i)->(B.hp pb=some (.obj X)/\B.hp O.N=some (.cells [.str g1,.str g2,.str g3])/\O3.N<=B.N/\∀i,i<O3.N->i≠pb->B.hp i=O3.hp i):=fun A B g h=>⟨g.at h.1,g.at h.2.1,ajx h.2.2.1 g.N,fun i h1 h2=>(g.hp i (by omega)).trans (h.2.2.2 i h1 h2)⟩
  have jA0:(O3.set pb (.obj X)).hp pb=some (.obj X)/\(O3.set pb (.obj X)).hp O.N=some (.cells [.str g1,.str g2,.str g3])/\O3.N<=(O3.set pb (.obj X)).N/\∀i,i<O3.N->i≠pb->(O3.set pb (.obj X)).hp i=O3.hp i:=⟨τ _ _ _,Γ j3.2,aed _,fun i _ h=>ρ _ _ h⟩
  have nA0:(O3.set pb (.obj X)).N=O3.N:=rfl;generalize O3.set pb (.obj X)=A0 at*;have Vj:O.N<O3.N:=by omega
  refine η (i:=1) (j:=9) ?_ ?_
  ·refine aN.j8 (PC p A0 hq.c.hp hq.props) ?_;rintro _ th ⟨⟨t1,rfl⟩,PW⟩;simp only[ak,Mm,aeb];have GV:=lC _ _ PW jA0;have alv:=PW.N;refine⟨GV,?_⟩;refine η (i:=2) (j:=9) ?_ ?_
   ·refine aN.j8 (Ls (iM p) t1 th (by simp[iM]) (wY p)) ?_;rintro _ yS ⟨rfl,w7,R,cr,t2,qe,hR⟩;simp only[ak,Mm,aeb];have oc:=lC _ _ w7 GV;have ada:=w7.N;have Vk:=qe.lt;refine⟨oc,?_⟩;refine η (i:=7) (j:=9) ?_ ?_
    ·refine aN.j8 (xQ [] .nil yS (by decide)) ?_;rintro _ ki ⟨t7,rfl,cy,kj⟩;simp only[ak,Mm,aeb];have mT:=lC _ _ kj oc;have LS:=kj.N;have Tc:O3.N<=yS.N:=oc.2.2.1;have lE:=qe.ge kj;refine⟨mT,?_⟩;refine ae.op (i:=9) ?_;refine ab @aQ ?_;refine⟨mT,?_⟩;have j4:=aT (tk:=t7) (tk':=.full) (n:=0) (k:=1) (cs:=[]) (ds:=[.str g1,.str g2,.str g3]) yI AS.1.1 cy rfl rfl rfl (by decide) (by decide) (by decide) (by decide);rw[anc,Ml]at j4;refine ae.op (i:=10) ?_;rw[dq];refine ao @aQ @j4 ?_;have jK:=Et cy Tc yR Vj mT;refine⟨jK,?_⟩;have k7:=flW (th.N+2) bb 1 [.str g1,.str g2,.str g3] (.own (VH.N ki) 3) (.str g1) (.str g2) (.str g3) (.v (.bool p.hp)) (.str p.par.g) (.str p.par.a) (.str p.par.v) (.str p.g) (.str p.a) (.str p.v) (.str p.pk) (.sl p.props.length (p.props.flatMap bm) .ar) (.sl p.eU.length (p.eU.flatMap aU) .ar) (.sl p.eK.length (p.eK.flatMap aU) .ar);refine ae.au 11 ?_ (hb:=(BH 1 (anf (by kernel_rfl)) (by kernel_rfl)));refine ao @aQ @k7 ?_;have Td:=uE cy lE;have lTF:=(lE).lt;have nFA:(VH.after ki t7).N=VH.N ki+1:=VH.dY _ _;generalize VH.after ki t7=FA at*;refine ae.op (i:=12) ?_;refine ab @aQ ?_;refine⟨⟨jK.1,jK.2.1,anm jK.2.2.1,fun i h1 h2=>(Ω _ _ (by omega)).trans (jK.2.2.2 i h1 h2)⟩,?_⟩;refine ae.kf [(13,.one)] ?_;refine ab @aQ ?_;refine aB.mk (VH.N FA,th.N+2) ⟨⟨?_,fun i h1=>?_⟩,jK.2.2.1,ano _,⟨_,(ρ _ _ (by first | omega | (dsimp only;omega))).trans (Υ _ _)⟩,th.N,th.N+1,R,cr,t2,BI (Td.ge ((VH.Ge.refl FA).push _)) (by first | omega | (dsimp only;omega)) (by first | omega | (dsimp only;omega)) (by first | omega | (dsimp only;omega)),hR,?_,?_,?_,?_,?_,?_⟩
     ·show O3.N<=FA.N+1;omega
     ·by_cases e:i=pb
      ·subst e;rw[τ];exact pM.symm
      ·rw[ρ _ _ e,Ω _ _ (by omega)];exact jK.2.2.2 i h1 e
     ·first | omega | (dsimp only;omega)
     ·first | omega | (dsimp only;omega)
     ·first | omega | (dsimp only;omega)
     ·first | omega | (dsimp only;omega)
     ·first | omega | (dsimp only;omega)
     ·first | omega | (dsimp only;omega)
    ·refine aN.o1 ?_;refine ab @aQ ?_;refine⟨oc,?_⟩;refine ae.call (i:=7) (xQ [] .nil yS (by decide)) ?_;rintro _ ki ⟨t7,rfl,cy,kj⟩;simp only[ak,Mm,aeb];have mT:=lC _ _ kj oc;have LS:=kj.N;have Tc:O3.N<=yS.N:=oc.2.2.1;have lE:=qe.ge kj;refine⟨mT,?_⟩;have j4:=aT (tk:=t7) (tk':=.full) (n:=0) (k:=1) (cs:=[]) (ds:=[.str g1,.str g2,.str g3]) yI AS.1.1 cy rfl rfl rfl (by decide) (by decide) (by decide) (by decide);rw[anc,Ml]at j4;refine ae.op (i:=10) ?_;rw[dq];refine ao @aQ @j4 ?_;have jK:=Et cy Tc yR Vj mT;refine⟨jK,?_⟩;have k7:=flW (th.N+2) bb 1 [.str g1,.str g2,.str g3] (.own (VH.N ki) 3) (.str g1) (.str g2) (.str g3) (.v (.bool p.hp)) (.str p.par.g) (.str p.par.a) (.str p.par.v) (.str p.g) (.str p.a) (.str p.v) (.str p.pk) (.sl p.props.length (p.props.flatMap bm) .ar) (.sl p.eU.length (p.eU.flatMap aU) .ar) (.sl p.eK.length (p.eK.flatMap aU) .ar);refine ae.au 11 ?_ (hb:=(BH 1 (anf (by kernel_rfl)) (by kernel_rfl)));refine ao @aQ @k7 ?_;have Td:=uE cy lE;have lTF:=(lE).lt;have nFA:(VH.after ki t7).N=VH.N ki+1:=VH.dY _ _;generalize VH.after ki t7=FA at*;refine ae.op (i:=12) ?_;refine ab @aQ ?_;refine⟨⟨jK.1,jK.2.1,anm jK.2.2.1,fun i h1 h2=>(Ω _ _ (by omega)).trans (jK.2.2.2 i h1 h2)⟩,?_⟩;refine ae.kf [(13,.one)] ?_;refine ab @aQ ?_;refine aB.mk (VH.N FA,th.N+2) ⟨⟨?_,fun i h1=>?_⟩,jK.2.2.1,ano _,⟨_,(ρ _ _ (by first | omega | (dsimp only;omega))).trans (Υ _ _)⟩,th.N,th.N+1,R,cr,t2,BI (Td.ge ((VH.Ge.refl FA).push _)) (by first | omega | (dsimp only;omega)) (by first | omega | (dsimp only;omega)) (by first | omega | (dsimp only;omega)),hR,?_,?_,?_,?_,?_,?_⟩
     ·show O3.N<=FA.N+1;omega
     ·by_cases e:i=pb
      ·subst e;rw[τ];exact pM.symm
      ·rw[ρ _ _ e,Ω _ _ (by omega)];exact jK.2.2.2 i h1 e
     ·first | omega | (dsimp only;omega)
     ·first | omega | (dsimp only;omega)
     ·first | omega | (dsimp only;omega)
     ·first | omega | (dsimp only;omega)
     ·first | omega | (dsimp only;omega)
     ·first | omega | (dsimp only;omega)
   ·refine aN.o1 ?_;refine ab @aQ ?_;refine⟨GV,?_⟩;refine ae.call (i:=2) (Ls (iM p) t1 th (by simp[iM]) (wY p)) ?_;rintro _ yS ⟨rfl,w7,R,cr,t2,qe,hR⟩;simp only[ak,Mm,aeb];have oc:=lC _ _ w7 GV;have ada:=w7.N;have Vk:=qe.lt;refine⟨oc,?_⟩;refine ae.call (i:=7) (xQ [] .nil yS (by decide)) ?_;rintro _ ki ⟨t7,rfl,cy,kj⟩;simp only[ak,Mm,aeb];have mT:=lC _ _ kj oc;have LS:=kj.N;have Tc:O3.N<=yS.N:=oc.2.2.1;have lE:=qe.ge kj;refine⟨mT,?_⟩;have j4:=aT (tk:=t7) (tk':=.full) (n:=0) (k:=1) (cs:=[]) (ds:=[.str g1,.str g2,.str g3]) yI AS.1.1 cy rfl rfl rfl (by decide) (by decide) (by decide) (by decide);rw[anc,Ml]at j4;refine ae.op (i:=10) ?_;rw[dq];refine ao @aQ @j4 ?_;have jK:=Et cy Tc yR Vj mT;refine⟨jK,?_⟩;have k7:=flW (th.N+2) bb 1 [.str g1,.str g2,.str g3] (.own (VH.N ki) 3) (.str g1) (.str g2) (.str g3) (.v (.bool p.hp)) (.str p.par.g) (.str p.par.a) (.str p.par.v) (.str p.g) (.str p.a) (.str p.v) (.str p.pk) (.sl p.props.length (p.props.flatMap bm) .ar) (.sl p.eU.length (p.eU.flatMap aU) .ar) (.sl p.eK.length (p.eK.flatMap aU) .ar);refine ae.au 11 ?_ (hb:=(BH 1 (anf (by kernel_rfl)) (by kernel_rfl)));refine ao @aQ @k7 ?_;have Td:=uE cy lE;have lTF:=(lE).lt;have nFA:(VH.after ki t7).N=VH.N ki+1:=VH.dY _ _;generalize VH.after ki t7=FA at*;refine ae.op (i:=12) ?_;refine ab @aQ ?_;refine⟨⟨jK.1,jK.2.1,anm jK.2.2.1,fun i h1 h2=>(Ω _ _ (by omega)).trans (jK.2.2.2 i h1 h2)⟩,?_⟩;refine ae.kf [(13,.one)] ?_;refine ab @aQ ?_;refine aB.mk (VH.N FA,th.N+2) ⟨⟨?_,fun i h1=>?_⟩,jK.2.2.1,ano _,⟨_,(ρ _ _ (by first | omega | (dsimp only;omega))).trans (Υ _ _)⟩,th.N,th.N+1,R,cr,t2,BI (Td.ge ((VH.Ge.refl FA).push _)) (by first | omega | (dsimp only;omega)) (by first | omega | (dsimp only;omega)) (by first | omega | (dsimp only;omega)),hR,?_,?_,?_,?_,?_,?_⟩
    ·show O3.N<=FA.N+1;omega
    ·by_cases e:i=pb
     ·subst e;rw[τ];exact pM.symm
     ·rw[ρ _ _ e,Ω _ _ (by omega)];exact jK.2.2.2 i h1 e
    ·first | omega | (dsimp only;omega)
    ·first | omega | (dsimp only;omega)
    ·first | omega | (dsimp only;omega)
    ·first | omega | (dsimp only;omega)
    ·first | omega | (dsimp only;omega)
    ·first | omega | (dsimp only;omega)
  ·refine aN.o1 ?_;refine ab @aQ ?_;refine⟨jA0,?_⟩;refine ae.call (i:=1) (PC p A0 hq.c.hp hq.props) ?_;rintro _ th ⟨⟨t1,rfl⟩,PW⟩;simp only[ak,Mm,aeb];have GV:=lC _ _ PW jA0;have alv:=PW.N;refine⟨GV,?_⟩;refine ae.call (i:=2) (Ls (iM p) t1 th (by simp[iM]) (wY p)) ?_;rintro _ yS ⟨rfl,w7,R,cr,t2,qe,hR⟩;simp only[ak,Mm,aeb];have oc:=lC _ _ w7 GV;have ada:=w7.N;have Vk:=qe.lt;refine⟨oc,?_⟩;refine ae.call (i:=7) (xQ [] .nil yS (by decide)) ?_;rintro _ ki ⟨t7,rfl,cy,kj⟩;simp only[ak,Mm,aeb];have mT:=lC _ _ kj oc;have LS:=kj.N;have Tc:O3.N<=yS.N:=oc.2.2.1;have lE:=qe.ge kj;refine⟨mT,?_⟩;have j4:=aT (tk:=t7) (tk':=.full) (n:=0) (k:=1) (cs:=[]) (ds:=[.str g1,.str g2,.str g3]) yI AS.1.1 cy rfl rfl rfl (by decide) (by decide) (by decide) (by decide);rw[anc,Ml]at j4;refine ae.op (i:=10) ?_;rw[dq];refine ao @aQ @j4 ?_;have jK:=Et cy Tc yR Vj mT;refine⟨jK,?_⟩;have k7:=flW (th.N+2) bb 1 [.str g1,.str g2,.str g3] (.own (VH.N ki) 3) (.str g1) (.str g2) (.str g3) (.v (.bool p.hp)) (.str p.par.g) (.str p.par.a) (.str p.par.v) (.str p.g) (.str p.a) (.str p.v) (.str p.pk) (.sl p.props.length (p.props.flatMap bm) .ar) (.sl p.eU.length (p.eU.flatMap aU) .ar) (.sl p.eK.length (p.eK.flatMap aU) .ar);refine ae.au 11 ?_ (hb:=(BH 1 (anf (by kernel_rfl)) (by kernel_rfl)));refine ao @aQ @k7 ?_;have Td:=uE cy lE;have lTF:=(lE).lt;have nFA:(VH.after ki t7).N=VH.N ki+1:=VH.dY _ _;generalize VH.after ki t7=FA at*;refine ae.op (i:=12) ?_;refine ab @aQ ?_;refine⟨⟨jK.1,jK.2.1,anm jK.2.2.1,fun i h1 h2=>(Ω _ _ (by omega)).trans (jK.2.2.2 i h1 h2)⟩,?_⟩;refine ae.kf [(13,.one)] ?_;refine ab @aQ ?_;refine aB.mk (VH.N FA,th.N+2) ⟨⟨?_,fun i h1=>?_⟩,jK.2.2.1,ano _,⟨_,(ρ _ _ (by first | omega | (dsimp only;omega))).trans (Υ _ _)⟩,th.N,th.N+1,R,cr,t2,BI (Td.ge ((VH.Ge.refl FA).push _)) (by first | omega | (dsimp only;omega)) (by first | omega | (dsimp only;omega)) (by first | omega | (dsimp only;omega)),hR,?_,?_,?_,?_,?_,?_⟩
   ·show O3.N<=FA.N+1;omega
   ·by_cases e:i=pb
    ·subst e;rw[τ];exact pM.symm
    ·rw[ρ _ _ e,Ω _ _ (by omega)];exact jK.2.2.2 i h1 e
   ·first | omega | (dsimp only;omega)
   ·first | omega | (dsimp only;omega)
   ·first | omega | (dsimp only;omega)
   ·first | omega | (dsimp only;omega)
   ·first | omega | (dsimp only;omega)
   ·first | omega | (dsimp only;omega)
 rintro⟨wb,tb⟩ O4 ⟨aY,ahs,aht,⟨tw,PA⟩,kr,kd,R,cr,t7,wW,hR4,hkr,vF,htb,Vl,Vm,ac_⟩;dsimp only at ahs aht PA wW htb Vl Vm ac_ ⊢;have YM:=hq.gg;have YN:=hq.ga;have YO:=hq.gv;dsimp only at YM YN YO;have h_:=aY.N;have fb:=aY.at j3.2;have Lh:=(aY.hp _ yR).trans pM;rw[YM,YN,YO]at Lh;refine ξ @aQ @fb ?_;refine VC.al ?_;rintro O5 ⟨bG,zV,e_⟩;have M5:MS O3 wb O4.N (s8 tb bb ⟨g1,g2,g3⟩ p tw) [.str g1,.str g2,.str g3,.str [],.sl 0 [] .nil,.sl 0 [] .nil,.sl 0 [] .nil] O5:=⟨aY.trans bG,(bG.hp _ aht).trans PA,zV,ahs,by omega,h_,by omega,by omega⟩;have SL:=wW.ge bG;have JJ:=wW.lt;clear PA zV bG e_ wW;have Oh:=(M5.ge.hp _ yR).trans pM;rw[YM,YN,YO]at Oh;have db:=M5.ge.at j3.2;have hwB:wb<O5.N:=M5.wl;refine θ (aH @aQ @Oh @db ?_);refine π (CG M5.w g1 _ hq.tg) ?_;rintro _ O6 eZ;have M6:=M5.go eZ;have yq:=SL.ge eZ;clear Oh db M5 SL eZ hwB;have hp6:=(M6.ge.hp _ yR).trans pM;rw[YM,YN,YO]at hp6;have mQ:=M6.ge.at j3.2;refine ab @aQ ?_;refine θ (aH @aQ @hp6 @mQ ?_);refine π (CG M6.w g2 _ hq.ta) ?_;rintro _ O7 eV;have M7:=M6.go eV;have H8:=yq.ge eV;clear hp6 mQ M6 yq eV;have hp7:=(M7.ge.hp _ yR).trans pM;rw[YM,YN,YO]at hp7;have uC:=M7.ge.at j3.2;refine ab @aQ ?_;refine θ (aH @aQ @hp7 @uC ?_);refine π (CG M7.w g3 _ hq.tv) ?_;rintro _ O8 gQ;have M8:=M7.go gQ;have hT8:=H8.ge gQ;clear hp7 uC M7 H8 gQ;have BA:=(M8.ge.hp _ yR).trans pM;refine ab @aQ ?_;refine ξ @aQ @BA ?_;refine π (Lv M8.w p.pk _ hq.tp) ?_;rintro _ O9 ⟨rfl,bh⟩;have M9:=M8.go bh;have hT9:=hT8.ge bh;clear BA M8 hT8 bh;have YP:=M9.m;refine ao @aQ @YP ?_;refine VC.ms M9 ?_;rintro gy M10 BF Jb;have yT:pQ gy tb kr kd (iM p) R [] cr 0 t7 0:=hT9.off BF Jb JJ.1 JJ.2.1 JJ.2.2;clear YP BF Jb hT9 M9;have adb:=M10.m;refine Ξ [0,4,6,9,11,12] (fun _:Unit=>[.ptr bb 0,.ptr O.N 0,.ptr (O.N+1) 0,.ptr pb 0,.ptr wb 0,.ptr O4.N 0]) (fun _ O'=>MS O3 wb O4.N (s8 tb bb ⟨g1,g2,g3⟩ p tw) [.str g1,.str g2,.str g3,.str (Ee p.pk),.sl 0 [] .nil,.sl 0 [] .nil,.sl 0 [] .nil] O'/\pQ O' tb kr kd (iM p) R [] cr 0 t7 0) ?_ ?_
 ·by_cases ep:p.pk=[]
  ·have ep1:(p.pk==[])=true:=by simpa using ep
   refine θ (aH @aQ @adb @ep1 ?_);refine ο @aQ @adb ?_;exact aB.mk () ⟨by rw[show Ee p.pk=lB from if_pos ep];exact M10.st,yT.off (fun i hi=>ρ _ _ hi) rfl JJ.1 JJ.2.1 JJ.2.2⟩
  ·have ep1:(p.pk==[])=false:=by simpa using ep
   refine θ (aH @aQ @adb @ep1 ?_);refine ν @aQ ?_;exact aB.mk () ⟨by rw[show Ee p.pk=p.pk from if_neg ep];exact M10,yT⟩
 rintro _ vu ⟨M11,ahu⟩;have Vn:=M11.m;have hpi:=hq.pi
 have dI:(Ee p.pk).length<=maxLen:=by
  have h1:=hq.tp.2;have h2:(4096:Nat)<=maxLen:=by decide
  unfold Ee;split
  ·decide
  ·omega
 have BE:=fun O'=>uh (Ee p.pk) O' dI
 rw[hpi]at BE;refine ξ @aQ @Vn ?_;refine π (BE _) ?_;rintro _ YK ⟨rfl,GW⟩;have M12:=M11.go GW;have Vo:=ahu.ge GW;clear Vn M11 ahu GW BE;refine ab @aQ ?_;have ade:=M12.w;have hW:s8 tb bb ⟨g1,g2,g3⟩ p tw= .ptr tb 0:: .ptr bb 0::(bZ ⟨g1,g2,g3⟩++gX p++[.sl 1 (bZ ⟨g1,g2,g3⟩) tw]):=rfl;rw[hW]at ade;refine ξ @aQ @ade ?_;refine π (afM Vo (by simp[iM]) hR4 (wY p) ?_) ?_
 ·intro x hx;simp only[iM,am_,ame,or_false]at hx;have h1:=hq.tg;have h2:=hq.ta;have h3:=hq.tv;rcases hx with rfl | rfl | rfl
  ·show iq p.g;rw[YM];exact h1
  ·show iq p.a;rw[YN];exact h2
  ·show iq p.v;rw[YO];exact h3
 rintro _ O13 ⟨⟨tP,rfl⟩,Po,ahv⟩;have M13:=M12.mv Po ahv htb vF Vl Vm (by omega) (by omega);clear ade M12 Vo Po ahv;refine ab @aQ ?_;refine κ @aQ ?_;have ahw:=M13.m;refine ξ @aQ @ahw ?_;refine VC.ms M13 ?_;rintro O14 M14 alw alx;clear ahw alw alx M13;refine κ @aQ ?_;refine π (SP M14.w M14.wl hq.eU) ?_;rintro _ O15 ⟨rfl,ahx⟩;have M15:=M14.go ahx;clear M14 ahx;have ahy:=M15.m;refine ao @aQ @ahy ?_;refine VC.ms M15 ?_;rintro O16 M16 aly alz;clear ahy aly alz M15;have ahz:=M16.m;refine ξ @aQ @ahz ?_;refine π (acH M16.w M16.wl hq.eK hq.len hq.keys .nil) ?_;rintro _ O17 ⟨⟨tN,rfl⟩,ahA⟩;have M17:=M16.go ahA;clear M16 ahA ahz;have ahB:=M17.m;refine ao @aQ @ahB ?_;refine VC.ms M17 ?_;rintro O18 M18 alA alC;clear ahB alA alC M17;refine VC.YE M18.m (Wk.mdl _ _ _ _ _ _ _ _ _ _ _ _ _) ?_;refine VC.ms M18 ?_;rintro PX YQ alD alE;clear alD alE M18;have ahC:=YQ.m;have ahD:=YQ.ge.at j3.1;have alF:=YQ.ge.at j3.2;have alG:=YQ.ge.at cC;have adf:=YQ.ge.at hm3
 have hmm:(.agg [.str g1,.str g2,.str g3,.str (Ee p.pk),.sl (iM p).length ((iM p).flatMap bm) .ar,.sl 0 [] .ar,.sl p.eK.length ((p.eK.map fO).flatMap ez) .ar]:MV)= .agg (mr (jd ⟨g1,g2,g3⟩ p)):=by
  simp only[mr,jd,bZ,ahY,zW,Ml]
 refine ω ?_;refine WC.bQ (.held [6]) [(0,.rd),(1,.rd),(2,.rd),(3,.rd),(4,.rd),(5,.rd),(6,.one)] ?_;refine cJ @aQ @ahD @alF @ahC ?_;rw[hmm];refine VL.oF rfl rfl (oE.i_ wO (l:=fc ⟨g1,g2,g3⟩) (b:=md) (ck:=cm) (M:=MD) Tryz.underlying172 rfl adf hB.ok rfl rfl ox rfl) (fun brk hb i hi=>?_) (WL.sound aa ?_)
 ·cases hb
  rcases i with _ | _ | _ | _ | _ | _ | _ | i<;>first
   | rfl
   | (exfalso;revert hi;simp)
 have vi:MD.any (·.1==fc ⟨g1,g2,g3⟩)=false:=by
  rw[List.any_eq_false];intro x hx hxe;exact GF ec x hx (eq_of_beq hxe)
 have kY:=qB (y:=.agg (mr (jd ⟨g1,g2,g3⟩ p))) (ck:=cm) hB.ok (l:=fc ⟨g1,g2,g3⟩) rfl ox;unfold i_ at kY;unfold i_ KI;rw[vi]at kY ⊢;rw[if_neg (by decide)]at kY;refine ab @aQ ?_;have alH:O4.N≠md:=by omega
 have alI:(PX.set md (.map (cS (MD++[(fc ⟨g1,g2,g3⟩,.agg (mr (jd ⟨g1,g2,g3⟩ p)),cm)])) (cm+1))).hp O4.N=_:=(ρ _ _ alH).trans ahC;have alJ:(PX.set md (.map (cS (MD++[(fc ⟨g1,g2,g3⟩,.agg (mr (jd ⟨g1,g2,g3⟩ p)),cm)])) (cm+1))).hp (O.N+1)=_:=Γ alG;have alK:(PX.set md (.map (cS (MD++[(fc ⟨g1,g2,g3⟩,.agg (mr (jd ⟨g1,g2,g3⟩ p)),cm)])) (cm+1))).hp md=_:=τ _ _ _;have ahE:∀i,i≠md->(PX.set md (.map (cS (MD++[(fc ⟨g1,g2,g3⟩,.agg (mr (jd ⟨g1,g2,g3⟩ p)),cm)])) (cm+1))).hp i=PX.hp i:=fun i hi=>ρ _ _ hi
 have amT:(PX.set md (.map (cS (MD++[(fc ⟨g1,g2,g3⟩,.agg (mr (jd ⟨g1,g2,g3⟩ p)),cm)])) (cm+1))).N=PX.N:=rfl;generalize PX.set md (.map (cS (MD++[(fc ⟨g1,g2,g3⟩,.agg (mr (jd ⟨g1,g2,g3⟩ p)),cm)])) (cm+1))=YR at*;refine θ (aH @aQ @alI @alJ ?_);refine ν @aQ ?_;have Te:=YQ.ge;have hng:=Te.N;have amU:=DA.N;have amV:=c_.N;rw[hmm]
 have aV:∀j,j<O.N->j≠k->j≠q0->j≠md->(YR.set (O.N+1) (.cells [.str g1,.str g2,.str g3,.str (Ee p.pk),.sl (iM p).length ((iM p).flatMap bm) .ar,.sl 0 [] .ar,.sl p.eK.length ((p.eK.map fO).flatMap ez) .ar])).hp j=O.hp j:=fun j h1 h2 h3 h4=>by
  rw[ρ _ _ (by omega),ahE j h4,Te.hp j (by omega),c_.hp j (by omega) h2 h3,DA.hp j h1]
 have hold:∀j,j<O3.N->j≠O.N+1->j≠md->(YR.set (O.N+1) (.cells [.str g1,.str g2,.str g3,.str (Ee p.pk),.sl (iM p).length ((iM p).flatMap bm) .ar,.sl 0 [] .ar,.sl p.eK.length ((p.eK.map fO).flatMap ez) .ar])).hp j=O3.hp j:=fun j h1 h2 h4=>by
  rw[ρ _ _ h2,ahE j h4,Te.hp j h1]
 refine⟨rfl,q0,c,hE0,⟨r',a',SY (md:=md) h hi hE0 ?_ ?_ ?_ aV hB.map jP⟩,⟨?_,?_,kY,?_⟩,?_,aV⟩
 ·rw[hold k (by omega) (by omega) (Ne.symm ahq)];exact dR
 ·rw[hold q0 (by omega) (by omega) (Ne.symm ahr)];exact qZ
 ·show O.N<=YR.N;omega
 ·rw[hold bb (by omega) (by omega) (fun e=>by rw[<-e,ahD]at adf;cases adf)];exact j3.1
 ·rw[ρ _ _ (by omega)];exact alK
 ·show bb<YR.N/\md<YR.N;omega
 ·show O.N<=YR.N;omega
set_option linter.defProp false in
def du:=Mn mn<|Mn FJ<|Mn XD<|Mn T69<|Mn akh<|Mn akg<|Mn T37 XB
structure Bn where
 up:Int
 dp:Int
 od:Int
 k:Ky
 v:Bs
 hd:Bool
 rv:Bs
 n:Nat
 iv:List MV
 tk:Tok
 s:Int
 rd:Bool
def fB (b:Bn):List MV:=[mi b.up,mi b.dp,mi b.od,.str b.k.g,.str b.k.a,.str b.k.t,.str b.k.c,.str b.v,mb b.hd,.str b.rv,.sl b.n b.iv b.tk,mi b.s,mb b.rd]
theorem lF (b:Bn):(fB b).length=13:=rfl
def GX (C:List Bool) (b:Bn):Bool:=C.length==0||(decide (0<=b.up)&&(decide (b.up<(C.length:Int))&&C.getD b.up.toNat false))
def jG (x:List Bool×List Bool×List Ky) (b:Bn):List Bool×List Bool×List Ky:=
 (x.1++[GX x.1 b&& !x.2.2.contains b.k],x.2.1++[GX x.1 b],if GX x.1 b&& !x.2.2.contains b.k then x.2.2++[b.k]else x.2.2)
def nC (L:List Bn):List Bool×List Bool×List Ky:=L.foldl jG ([],[],[])
theorem Tf (L:List Bn) (b:Bn):nC (L++[b])=jG (nC L) b:=by simp[nC]
theorem JK:∀L:List Bn,(nC L).1.length=L.length/\(nC L).2.1.length=L.length:=by
 intro L
 have:∀(L:List Bn) x,(L.foldl jG x).1.length=x.1.length+L.length/\(L.foldl jG x).2.1.length=x.2.1.length+L.length:=by
  intro L;induction L with
  | nil=>intro x;exact⟨rfl,rfl⟩
  | cons b L ih=>
    intro x;rw[List.foldl_cons];have:=ih (jG x b);simp only[jG,ahV,ZA,Mm]at this ⊢;omega
 simpa[nC]using this L ([],[],[])
structure Vd (O O':VH) (vb lb cb mp:Nat) (L:List Bn) (tk:Tok) (C V:List Bool):Prop where
 ge:O.Ge O'
 v:O'.hp vb=some (.cells [.sl L.length (L.flatMap fB) tk,.bz lb 0 L.length L.length,.bz cb 0 L.length L.length,.map mp])
 l:O'.hp lb=some (.cells (V.map mb))
 c:O'.hp cb=some (.cells (C.map mb))
 lo:O.N<=vb/\O.N<=lb/\O.N<=cb/\O.N<=mp
 hi:lb<vb/\cb<vb/\mp<vb/\lb≠cb/\lb≠mp/\cb≠mp/\vb<O'.N
theorem JL {tab:cg} {t el:TypeId} {u:TypeDesc} {a b d:Nat} {z:List MV} {y:MV} (h:tab t=some ⟨.slice el,a,b,z⟩) (h2:tab el=some ⟨u,1,d,[y]⟩) (O:VH) (n:Nat) (hb:d*n<=281474976710656) (hn:n<=9223372036854775807):
  nj tab O t (.v (.int .i64 n)) (.v (.int .i64 n))=some (.bz O.N 0 n n,O.push (.cells (List.replicate n y))):=by
 simp only[nj,h,h2,Option.map_some,anv];rw[if_pos ⟨Int.natCast_nonneg _,Int.le_refl _,by omega,by rw[<-Int.natCast_mul];omega,Nat.zero_lt_one⟩,Nat.mul_one]
 congr 4
 apply List.ext_getElem?;intro i;simp only[iR,anw,List.getElem?_replicate];by_cases h:i<n
 ·rw[List.getElem?_range h,if_pos h];simp[Nat.mod_one]
 ·rw[List.getElem?_eq_none (by simp;omega),if_neg h];rfl
theorem JM {a b:Ky} (h:dk a=dk b):a=b:=by
 obtain⟨a1,a2,a3,a4⟩:=a;obtain⟨b1,b2,b3,b4⟩:=b;simp only[dk,List.cons.injEq,and_true]at h;obtain⟨rfl,rfl,rfl,rfl⟩:=h;rfl
theorem adg {M:fI} {K:List Ky} (h:M.map (·.1)=K.map dk) (k:Ky):(iD (dk k) M).isSome=K.contains k:=by
 have h1:(iD (dk k) M).isSome=(M.map (·.1)).any (· ==dk k):=by
  unfold iD;rw[Option.isSome_map,List.any_map,anu,List.find?_isSome,anB];rfl
 rw[h1,h,List.any_map,List.contains_eq_any_beq,anu,anB,anB];constructor
 ·rintro⟨x,hx,e⟩;exact⟨x,hx,by simpa using(JM (eq_of_beq e)).symm⟩
 ·rintro⟨x,hx,e⟩;exact⟨x,hx,by rw[eq_of_beq e];simp⟩
set_option maxHeartbeats 4000000 in
theorem YS (L:List Bn) (tk:Tok) (hL:L.length<=1000000) (hk:∀b∈L,∀s∈dk b.k,s.length<=maxLen) (O:VH):VF Tryz.prog 118 [.sl L.length (L.flatMap fB) tk] O (aE fun m O'=>∃vb lb cb mp,m= .ptr vb 0/\Vd O O' vb lb cb mp L tk (nC L).1 (nC L).2.1):=by
 have jP:=fun O'=>JL (tab:=bX Tryz.prog) T69 T4 O' L.length (by omega) (by omega)
 have hlen:=aX lF L;have eP:de (bX Tryz.prog) 22 (.sl L.length (L.flatMap fB) tk)=some (.v (.int .i64 L.length)):=bL FJ;have k7:∀a b c,Fv (kT [(0,1),(1,1),(2,1),(3,1)]) [.sl L.length (L.flatMap fB) tk,.sl 0 [] .nil,.sl 0 [] .nil,.v (.map none)] (.bz a 0 L.length L.length) [(2,.bz b 0 L.length L.length),(3,.map c)] (some (1,1))=some [.sl L.length (L.flatMap fB) tk,.bz a 0 L.length L.length,.bz b 0 L.length L.length,.map c]:=fun _ _ _=>rfl
 refine χ 90 [.tmp 2] Tryz.func118 ?_;refine κ @du ?_;refine Ξ [3,0] (fun x:Nat×Nat×Nat×Nat=>[.ptr x.1 0,.sl L.length (L.flatMap fB) tk]) (fun x O'=>O.Ge O'/\O'.hp x.1=some (.cells [.sl L.length (L.flatMap fB) tk,.bz x.2.1 0 L.length L.length,.bz x.2.2.1 0 L.length L.length,.map x.2.2.2])/\O'.hp x.2.1=some (.cells (List.replicate L.length (mb false)))/\O'.hp x.2.2.1=some (.cells (List.replicate L.length (mb false)))/\O'.hp x.2.2.2=some (.map [] 0)/\(O.N<=x.1/\O.N<=x.2.1/\O.N<=x.2.2.1/\O.N<=x.2.2.2)/\(x.2.1<x.1/\x.2.2.1<x.1/\x.2.2.2<x.1/\x.2.1≠x.2.2.1/\x.2.1≠x.2.2.2/\x.2.2.1≠x.2.2.2/\x.1<O'.N)) ?_ ?_
 ·refine VC.qR [8,9,10] (fun O'=>True) (trivial) ?_;refine ae.au 0 ?_;refine ab @du ?_;refine ae.au 1 ?_;refine ab @du ?_;refine ae.au 2 ?_;refine ao @du @eP ?_;refine ae.au 4 ?_;refine ab @du ?_;refine ae.au 5 ?_;refine ao @du @eP ?_;refine ae.acM (i:=3) (j:=6) (k:=7) ?_ ?_ ?_
  ·refine aN.o1 ?_;refine ao @du @jP ?_;refine η (i:=6) (j:=7) ?_ ?_
   ·refine aN.o1 ?_;refine ao @du @jP ?_;refine ae.op (i:=7) ?_;refine ao @du @jP ?_;obtain⟨F,eF⟩:∃F,F=((O.push (.cells (List.replicate L.length (.v (.bool false))))).push (.cells (List.replicate L.length (.v (.bool false))))).push (.map [] 0):=⟨_,rfl⟩
    rw[<-eF];obtain⟨gF,nF,aF,bF,cF⟩:=lu _ _ _ eF;clear eF;refine ae.bQ [(8,.one),(9,.one),(10,.one)] ?_;refine ao @du @k7 ?_;refine aB.mk (F.N,O.N,(O.N+1),(O.N+2)) ⟨gF.push _,Υ _ _,(Ω (k:=O.N) F _ (by omega)).trans aF,(Ω (k:=(O.N+1)) F _ (by omega)).trans bF,(Ω (k:=(O.N+2)) F _ (by omega)).trans cF,?_,?_⟩
    ·show O.N<=F.N/\O.N<=O.N/\O.N<=(O.N+1)/\O.N<=(O.N+2);omega
    ·show O.N<F.N/\(O.N+1)<F.N/\(O.N+2)<F.N/\O.N≠(O.N+1)/\O.N≠(O.N+2)/\(O.N+1)≠(O.N+2)/\F.N<F.N+1;omega
   ·refine aN.o1 ?_;refine ao @du @jP ?_;refine ae.op (i:=6) ?_;refine ao @du @jP ?_;obtain⟨F,eF⟩:∃F,F=((O.push (.cells (List.replicate L.length (.v (.bool false))))).push (.map [] 0)).push (.cells (List.replicate L.length (.v (.bool false)))):=⟨_,rfl⟩
    rw[<-eF];obtain⟨gF,nF,aF,bF,cF⟩:=lu _ _ _ eF;clear eF;refine ae.bQ [(8,.one),(9,.one),(10,.one)] ?_;refine ao @du @k7 ?_;refine aB.mk (F.N,O.N,(O.N+2),(O.N+1)) ⟨gF.push _,Υ _ _,(Ω (k:=O.N) F _ (by omega)).trans aF,(Ω (k:=(O.N+2)) F _ (by omega)).trans cF,(Ω (k:=(O.N+1)) F _ (by omega)).trans bF,?_,?_⟩
    ·show O.N<=F.N/\O.N<=O.N/\O.N<=(O.N+2)/\O.N<=(O.N+1);omega
    ·show O.N<F.N/\(O.N+2)<F.N/\(O.N+1)<F.N/\O.N≠(O.N+2)/\O.N≠(O.N+1)/\(O.N+2)≠(O.N+1)/\F.N<F.N+1;omega
  ·refine aN.o1 ?_;refine ao @du @jP ?_;refine η (i:=3) (j:=7) ?_ ?_
   ·refine aN.o1 ?_;refine ao @du @jP ?_;refine ae.op (i:=7) ?_;refine ao @du @jP ?_;obtain⟨F,eF⟩:∃F,F=((O.push (.cells (List.replicate L.length (.v (.bool false))))).push (.cells (List.replicate L.length (.v (.bool false))))).push (.map [] 0):=⟨_,rfl⟩
    rw[<-eF];obtain⟨gF,nF,aF,bF,cF⟩:=lu _ _ _ eF;clear eF;refine ae.bQ [(8,.one),(9,.one),(10,.one)] ?_;refine ao @du @k7 ?_;refine aB.mk (F.N,(O.N+1),O.N,(O.N+2)) ⟨gF.push _,Υ _ _,(Ω (k:=(O.N+1)) F _ (by omega)).trans bF,(Ω (k:=O.N) F _ (by omega)).trans aF,(Ω (k:=(O.N+2)) F _ (by omega)).trans cF,?_,?_⟩
    ·show O.N<=F.N/\O.N<=(O.N+1)/\O.N<=O.N/\O.N<=(O.N+2);omega
    ·show(O.N+1)<F.N/\O.N<F.N/\(O.N+2)<F.N/\(O.N+1)≠O.N/\(O.N+1)≠(O.N+2)/\O.N≠(O.N+2)/\F.N<F.N+1;omega
   ·refine aN.o1 ?_;refine ao @du @jP ?_;refine ae.op (i:=3) ?_;refine ao @du @jP ?_;obtain⟨F,eF⟩:∃F,F=((O.push (.cells (List.replicate L.length (.v (.bool false))))).push (.map [] 0)).push (.cells (List.replicate L.length (.v (.bool false)))):=⟨_,rfl⟩
    rw[<-eF];obtain⟨gF,nF,aF,bF,cF⟩:=lu _ _ _ eF;clear eF;refine ae.bQ [(8,.one),(9,.one),(10,.one)] ?_;refine ao @du @k7 ?_;refine aB.mk (F.N,(O.N+2),O.N,(O.N+1)) ⟨gF.push _,Υ _ _,(Ω (k:=(O.N+2)) F _ (by omega)).trans cF,(Ω (k:=O.N) F _ (by omega)).trans aF,(Ω (k:=(O.N+1)) F _ (by omega)).trans bF,?_,?_⟩
    ·show O.N<=F.N/\O.N<=(O.N+2)/\O.N<=O.N/\O.N<=(O.N+1);omega
    ·show(O.N+2)<F.N/\O.N<F.N/\(O.N+1)<F.N/\(O.N+2)≠O.N/\(O.N+2)≠(O.N+1)/\O.N≠(O.N+1)/\F.N<F.N+1;omega
  ·refine aN.o1 ?_;refine ao @du @jP ?_;refine η (i:=3) (j:=6) ?_ ?_
   ·refine aN.o1 ?_;refine ao @du @jP ?_;refine ae.op (i:=6) ?_;refine ao @du @jP ?_;obtain⟨F,eF⟩:∃F,F=((O.push (.map [] 0)).push (.cells (List.replicate L.length (.v (.bool false))))).push (.cells (List.replicate L.length (.v (.bool false)))):=⟨_,rfl⟩
    rw[<-eF];obtain⟨gF,nF,aF,bF,cF⟩:=lu _ _ _ eF;clear eF;refine ae.bQ [(8,.one),(9,.one),(10,.one)] ?_;refine ao @du @k7 ?_;refine aB.mk (F.N,(O.N+1),(O.N+2),O.N) ⟨gF.push _,Υ _ _,(Ω (k:=(O.N+1)) F _ (by omega)).trans bF,(Ω (k:=(O.N+2)) F _ (by omega)).trans cF,(Ω (k:=O.N) F _ (by omega)).trans aF,?_,?_⟩
    ·show O.N<=F.N/\O.N<=(O.N+1)/\O.N<=(O.N+2)/\O.N<=O.N;omega
    ·show(O.N+1)<F.N/\(O.N+2)<F.N/\O.N<F.N/\(O.N+1)≠(O.N+2)/\(O.N+1)≠O.N/\(O.N+2)≠O.N/\F.N<F.N+1;omega
   ·refine aN.o1 ?_;refine ao @du @jP ?_;refine ae.op (i:=3) ?_;refine ao @du @jP ?_;obtain⟨F,eF⟩:∃F,F=((O.push (.map [] 0)).push (.cells (List.replicate L.length (.v (.bool false))))).push (.cells (List.replicate L.length (.v (.bool false)))):=⟨_,rfl⟩
    rw[<-eF];obtain⟨gF,nF,aF,bF,cF⟩:=lu _ _ _ eF;clear eF;refine ae.bQ [(8,.one),(9,.one),(10,.one)] ?_;refine ao @du @k7 ?_;refine aB.mk (F.N,(O.N+2),(O.N+1),O.N) ⟨gF.push _,Υ _ _,(Ω (k:=(O.N+2)) F _ (by omega)).trans cF,(Ω (k:=(O.N+1)) F _ (by omega)).trans bF,(Ω (k:=O.N) F _ (by omega)).trans aF,?_,?_⟩
    ·show O.N<=F.N/\O.N<=(O.N+2)/\O.N<=(O.N+1)/\O.N<=O.N;omega
    ·show(O.N+2)<F.N/\(O.N+1)<F.N/\O.N<F.N/\(O.N+2)≠(O.N+1)/\(O.N+2)≠O.N/\(O.N+1)≠O.N/\F.N<F.N+1;omega
 rintro⟨vb,lb,cb,mp⟩ O1 ⟨aJ,jB,sq,fj,H7,zp,hhi⟩;dsimp only at jB sq fj H7 zp hhi ⊢;clear jP k7;refine Ξ [3] (fun _:Unit=>[.ptr vb 0]) (fun _ O'=>Vd O O' vb lb cb mp L tk (nC L).1 (nC L).2.1) ?_ ?_
 ·refine ξ @du @eP ?_;refine υ ?_;refine Δ [20] [3,18,19] (fun j:Nat=>[mi j]) (fun j O'=>j<=L.length/\O1.N<=O'.N/\(∀i,i<O1.N->i≠lb->i≠cb->i≠mp->O'.hp i=O1.hp i)/\O'.hp lb=some (.cells (((nC (L.take j)).2.1++List.replicate (L.length - j) false).map mb))/\O'.hp cb=some (.cells (((nC (L.take j)).1++List.replicate (L.length - j) false).map mb))/\∃M ck,O'.hp mp=some (.map (cS M) ck)/\nT 4 M/\M.map (·.1)=(nC (L.take j)).2.2.map dk) (fun j=>L.length - j) (0) ?_ ?_
  ·exact⟨anp _,aed _,fun _ _ _ _ _=>rfl,by rw[sq];simp[nC],by rw[fj];simp[nC],[],0,H7,⟨by simp,by simp⟩,by simp[nC]⟩
  rintro j O3 ⟨hj,gE,ND,n8,fA,M,ck,hm3,hM,YT⟩;by_cases aM:j<L.length;rotate_left
  ·obtain rfl:j=L.length:=by omega
   rw[List.take_length,Nat.sub_self,List.replicate_zero,ajz]at n8 fA;refine ν @du ?_;exact aB.mk () ⟨⟨by have:=aJ.N;omega,fun i hi=>(ND i (by have:=aJ.N;omega) (by omega) (by omega) (by omega)).trans (aJ.hp i hi)⟩,(ND vb hhi.2.2.2.2.2.2 (by omega) (by omega) (by omega)).trans jB,n8,fA,zp,by omega⟩
  have cB:((j:Int)+1)=((j+1:Nat):Int):=by omega
  have bE:=cP lF L j aM;have cT:L.take (j+1)=L.take j++[L[j]]:=by rw[anl aM]
  have tT:=hk L[j] (ani aM);have mW:=JK (L.take j);rw[List.length_take,Nat.min_eq_left hj]at mW;have cY:=Tf (L.take j) L[j];rw[<-cT]at cY;rw[show L.length - j=(L.length - (j+1))+1 by omega,List.replicate_succ]at n8 fA;generalize L[j]=b at*;generalize hDD:nC (L.take j)=D at*;generalize hr:L.length - (j+1)=r at*;obtain⟨C,V,K⟩:=D;dsimp only at mW n8 fA YT;obtain⟨up,dp,od,⟨k1,k2,k3,k4⟩,v,hd,rv,nn,iv,PY,s,rd⟩:=b;simp only[fB,aq,bu]at bE;have hv3:=(ND vb hhi.2.2.2.2.2.2 (by omega) (by omega) (by omega)).trans jB;refine κ @du ?_;refine κ @du ?_;refine ω (υ ?_);refine ξ @du @bE ?_;refine VC.al ?_;rintro O4 ⟨aY,kc,h_⟩;have BK:=aY.at hv3;have re:=aY.at n8;have fR:=aY.at fA;have Ln:=aY.at hm3;have fY:C.length=j:=mW.1
  have gL:∀(W:List Bool) (a:Bool),W.length=j->((W++false::List.replicate r false).map mb).set j (.v (.bool a))=(W++a::List.replicate r false).map mb:=fun W a h=>by
   rw[List.map_append,anq,List.set_append_right _ _ (by rw[ahY,h];exact aed _),ahY,h,Nat.sub_self];simp[mb]
  have hsV:=fun a=>gL V a mW.2
  have La:∀u,u<j->((C++false::List.replicate r false).map mb)[u]?=some (.v (.bool (C.getD u false))):=fun u hu=>by
   rw[anw,anx (by omega),anj,aee (by omega)];rfl
  have Ce:(List.map mb (V++false::List.replicate r false)).length=j+1+r:=by simp;omega
  have RT:(List.map mb (C++false::List.replicate r false)).length=j+1+r:=by simp;omega
  generalize kK:GX C ⟨up,dp,od,⟨k1,k2,k3,k4⟩,v,hd,rv,nn,iv,PY,s,rd⟩=al at*;have alL:=kK;simp only[jG,alL]at cY;unfold GX at kK;dsimp only at kK;rw[fY]at kK;refine Ξ [3,4,5,18,19,20] (fun _:Unit=>[.ptr vb 0,.v (.int .i64 j),.ptr O3.N 0,.sl L.length (L.flatMap fB) tk,.v (.int .i64 L.length),.v (.int .i64 j)]) (fun _ O'=>O'=O4.set lb (.cells ((V++al::List.replicate r false).map mb))) ?_ ?_
  ·refine WC.bQ (.held [29]) [(0,.rd),(1,.rd),(2,.rd),(3,.rd),(4,.rd),(5,.rd),(6,.rd),(7,.rd),(8,.rd),(9,.rd),(10,.rd),(11,.rd),(12,.rd),(13,.rd),(14,.rd),(15,.rd),(16,.rd),(17,.rd),(18,.rd),(19,.rd),(20,.rd),(21,.rd),(22,.rd),(23,.rd),(24,.rd),(25,.rd),(26,.rd),(27,.rd),(28,.rd),(29,.one)] ?_;by_cases h0:j=0
   ·have e0:((j:Int)==0)=true:=by simp[h0]
    have ea:al=true:=by rw[<-kK];simp[h0]
    subst ea;refine Xz @du @BK @kc @e0 @re @Ce @hsV ?_;exact aB.mk () rfl
   have e0:((j:Int)==0)=false:=by simpa using h0
   rw[show(j==0)=false by simpa using h0,Bool.false_or]at kK;by_cases h1:0<=up;rotate_left
   ·have e1:decide (0<=up)=false:=decide_eq_false h1;have e2:decide (up>=0)=false:=e1;rw[e1,anh]at kK;subst kK;refine kw9 @du @BK @kc @e0 @e1 @e2 @re @Ce @hsV ?_;exact aB.mk () rfl
   obtain⟨u,rfl⟩:=Int.eq_ofNat_of_zero_le h1;have e1:decide (0<=(u:Int))=true:=decide_eq_true h1;have e2:decide ((u:Int)>=0)=true:=e1;rw[e1,anr]at kK;by_cases h2:u<j;rotate_left
   ·have e3:decide ((u:Int)<j)=false:=decide_eq_false (by omega);rw[e3,anh]at kK;subst kK;refine kw9 @du @BK @kc @e0 (Mn e1 e2) @e3 @re @Ce @hsV ?_;exact aB.mk () rfl
   have e3:decide ((u:Int)<j)=true:=decide_eq_true (by omega);rw[e3,anr]at kK;have Tg:=La u h2;rw[anv]at kK;rw[kK]at Tg;refine kw9 du BK kc e0 (Mn e1 e2) e3 (Mn re Ce) (Mn fR RT) (Mn Tg hsV) ?_;exact aB.mk () rfl
  rintro _ O5 e5;have Ic:O5.hp lb=some (.cells ((V++al::List.replicate r false).map mb)):=by rw[e5];exact τ _ _ _
  have gM:∀i,i≠lb->O5.hp i=O4.hp i:=fun i h=>by rw[e5];exact ρ _ _ h
  have pP:=(gM vb (by omega)).trans BK;have mI:=(gM O3.N (by omega)).trans kc;have gd:=(gM cb (by omega)).trans fR;have zV:=(gM mp (by omega)).trans Ln;have e_:O5.N=O4.N:=by rw[e5];rfl
  have hsC:=gL C true fY;clear e5 BK kc fR Ln re Ce hsV La gL;have eC:=adg YT ⟨k1,k2,k3,k4⟩;refine ω ?_;refine WC.bQ (.held []) [(0,.rd),(1,.rd),(2,.rd),(3,.rd),(4,.rd),(5,.rd),(6,.rd),(7,.rd),(8,.rd),(9,.rd),(10,.rd),(11,.rd)] ?_;refine aH @du @pP @mI ?_;refine VL.hold (.inr rfl) rfl rfl (fJ.kI oN aa (l:=dk ⟨k1,k2,k3,k4⟩) (te:=⟨_,1,8,[.v (.int .i64 0)]⟩) Tryz.underlying37 T3 rfl rfl zV hM rfl rfl tT) (WL.sound aa ?_)
  have hgV:((V++al::List.replicate r false).map mb)[j]?=some (.v (.bool al)):=by
   rw[anw,List.getElem?_append_right (by omega),mW.2,Nat.sub_self];rfl
  have Ce:(List.map mb (V++al::List.replicate r false)).length=j+1+r:=by simp;omega
  have YU:∀i,i<O1.N->i≠lb->i≠cb->i≠mp->O5.hp i=O1.hp i:=fun i a1 a2 a3 a4=>(gM i a2).trans ((aY.hp i (by omega)).trans (ND i a1 a2 a3 a4))
  have amW:O3.N<=O5.N:=by rw[e_,h_];omega
  generalize JN:K.contains (⟨k1,k2,k3,k4⟩:Ky)=con at*;cases gK:iD (dk ⟨k1,k2,k3,k4⟩) M with
  | some m=>
    rw[gK]at eC;obtain rfl:con=true:=eC.symm;refine ab @du ?_;cases al
    ·refine θ (iw @du @pP @Ic @Ce @hgV ?_);refine ν @du ?_;refine ο @du @cB ?_;refine az.N (j+1) ⟨aM,by omega,YU,?_,?_,M,ck,zV,hM,?_⟩
     ·rw[cY,hr,Ic];simp
     ·rw[cY,hr,gd];simp
     ·rw[cY];simpa using YT
    ·refine θ (iw @du @pP @Ic @Ce @hgV ?_);refine ν @du ?_;refine ο @du @cB ?_;refine az.N (j+1) ⟨aM,by omega,YU,?_,?_,M,ck,zV,hM,?_⟩
     ·rw[cY,hr,Ic];simp
     ·rw[cY,hr,gd];simp
     ·rw[cY];simpa using YT
  | none=>
    rw[gK]at eC;obtain rfl:con=false:=eC.symm;refine ab @du ?_;cases al
    ·refine θ (iw @du @pP @Ic @Ce @hgV ?_);refine ν @du ?_;refine ο @du @cB ?_;refine az.N (j+1) ⟨aM,by omega,YU,?_,?_,M,ck,zV,hM,?_⟩
     ·rw[cY,hr,Ic];simp
     ·rw[cY,hr,gd];simp
     ·rw[cY];simpa using YT
    ·refine θ (iw @du @pP @Ic @Ce @hgV ?_)
     have jX:(M.any fun p=>p.1==dk ⟨k1,k2,k3,k4⟩)=false:=by
      unfold iD at gK;rw[Option.map_eq_none_iff,List.find?_eq_none]at gK;rw[List.any_eq_false];exact gK
     refine VC.Kk rfl ?_;refine θ (iw @du @pP @gd @RT @hsC ?_);refine VC.gen ?_;intro O6 e6;have ot:∀i,i≠cb->O6.hp i=O5.hp i:=fun i h=>by rw[e6];exact ρ _ _ h
     have CD:O6.hp cb=some (.cells ((C++true::List.replicate r false).map mb)):=by rw[e6];exact τ _ _ _
     have nH:O6.N=O5.N:=by rw[e6];rfl
     clear e6;have hv6:=(ot vb (by omega)).trans pP;have oO:=(ot O3.N (by omega)).trans mI;have YF:=(ot mp (by omega)).trans zV;refine WC.bQ (.held [7]) [(0,.rd),(1,.rd),(2,.rd),(3,.rd),(4,.rd),(5,.rd),(6,.rd),(7,.one)] ?_;refine aH @du @hv6 @oO ?_;refine VL.oF rfl rfl (oE.i_ oN (l:=dk ⟨k1,k2,k3,k4⟩) (b:=mp) (ck:=ck) (M:=M) Tryz.underlying37 rfl YF hM rfl rfl tT rfl) (fun brk hb i hi=>?_) (WL.sound aa ?_)
     ·cases hb
      rcases i with _ | _ | _ | _ | _ | _ | _ | _ | i<;>first
       | rfl
       | (exfalso;revert hi;simp)
     have kY:=qB (y:=.v (.int .i64 j)) (ck:=ck) hM (l:=dk ⟨k1,k2,k3,k4⟩) rfl tT;unfold i_ at kY;unfold i_ KI;rw[jX]at kY ⊢;refine ab @du ?_;refine VC.gen ?_;intro O7 e7;have wT:∀i,i≠mp->O7.hp i=O6.hp i:=fun i h=>by rw[e7];exact ρ _ _ h
     have hm7:O7.hp mp=some (.map (cS (M++[(dk ⟨k1,k2,k3,k4⟩,.v (.int .i64 j),ck)])) (ck+1)):=by rw[e7];exact τ _ _ _
     have vg:O7.N=O6.N:=by rw[e7];rfl
     clear e7;refine ο @du @cB ?_;refine az.N (j+1) ⟨aM,by omega,fun i a1 a2 a3 a4=>(wT i a4).trans ((ot i a3).trans (YU i a1 a2 a3 a4)),?_,?_,_,_,hm7,kY,?_⟩
     ·rw[cY,hr,wT lb (by omega),ot lb (by omega),Ic];simp
     ·rw[cY,hr,wT cb (by omega),CD];simp
     ·rw[cY];simp[YT]
 rintro _ O2 h2;refine κ @du ?_;refine ν @du ?_;exact⟨vb,lb,cb,mp,rfl,h2⟩
set_option linter.defProp false in
def cX:=Mn du<|Mn KN<|Mn XC jr
structure Ch where
 k:Ky
 at':Int
 v:Bs
 s:Int
 deriving DecidableEq
def iy (c:Ch):List MV:=[.str c.k.g,.str c.k.a,.str c.k.t,.str c.k.c,mi c.at',.str c.v,mi c.s]
theorem oe (c:Ch):(iy c).length=7:=rfl
def rG (x y:Ky):Bool:=(x.g==y.g)&&((x.a==y.a)&&((x.t==y.t)&&((x.c==y.c)&&true)))
theorem PZ (x y:Ky):rG x y=(x==y):=by
 obtain⟨a,b,c,d⟩:=x;obtain⟨a',b',c',d'⟩:=y;rw[anu];simp[rG]
theorem af1 (L:List Ch) (tk:Tok) (id:FuncId) (cs:List MV) (p:Ch->Bool) (O:VH) (hid:df Tryz.prog id=true) (hc:∀x∈L,∀O',O.Ge O'->VF Tryz.prog id ([.agg (iy x)]++cs) O' (aE fun m mD=>m=mb (p x)/\O'.Ge mD)) (hn:L.length<=1000000):
  VF Tryz.prog 43 [.sl L.length (L.flatMap iy) tk,.func (.func id) [] cs] O (aE fun m O'=>m=mi (idxFrom p 0 L)/\O.Ge O'):=by
 have dI:=aX oe L;refine Θ 19 [.tmp 4] Tryz.func43 ?_;refine ab @cX ?_;refine WC.jh [8] [0,1,7] (fun j:Nat=>[mi j]) (fun j O'=>O.Ge O'/\j<=L.length/\idxFrom p 0 L=idxFrom p j (L.drop j)) (fun j=>L.length - j) (0) ?_ ?_
 ·exact⟨VH.Ge.refl _,anp _,rfl⟩
 rintro j O2 ⟨aC,hj,dh⟩;by_cases h2:j<L.length
 ·have bE:=cP oe L j h2;have hcj:=hc L[j] (ani h2) O2 aC;rw[ank h2,idxFrom]at dh;generalize L[j]=y at*;refine ao @cX @bE ?_;refine π hcj ?_ (hb:=hid);rintro _ O3 ⟨rfl,aG⟩;cases hi:p y
  ·rw[hi]at dh;refine ab @cX ?_;exact az.N (j+1) ⟨aC.trans aG,by omega,dh⟩
  ·rw[hi,if_pos rfl]at dh;rw[dh];refine ab @cX ?_;exact aC.trans aG
 ·obtain rfl:j=L.length:=by omega
  rw[List.drop_of_length_le (by omega)]at dh;rw[dh];refine ab @cX ?_;exact⟨rfl,aC⟩
def rU (s:Int):Int:=if s<1\/s>5 then 0 else 6 - s
def BL (a b:Int):Int:=if rU b>rU a then b else a
theorem P1 (s:Int) (O:VH):VF Tryz.prog 148 [mi s] O (aE fun m O'=>m=mi (rU s)/\O'=O):=by
 unfold rU;simp only[aq];refine χ 11 [.tmp 2] Tryz.func148 ?_;refine κ @cX ?_;by_cases h1:s<1
 ·have e1:decide (s<1)=true:=decide_eq_true h1;rw[if_pos (.inl h1)];refine ξ @cX @e1 ?_;trivial
 have e1:decide (s<1)=false:=decide_eq_false h1;by_cases h2:s>5
 ·have e2:decide (s>5)=true:=decide_eq_true h2;have e3:decide (5<s)=true:=e2;rw[if_pos (.inr h2)];refine θ (cJ @cX @e1 @e2 @e3 ?_);trivial
 have e2:decide (s>5)=false:=decide_eq_false h2;have e3:decide (5<s)=false:=e2;rw[if_neg (by omega)];refine θ (cJ @cX @e1 @e2 @e3 ?_);refine κ @cX ?_;refine ν @cX ?_;trivial
theorem YV (a b:Int) (O:VH):VF Tryz.prog 120 [mi a,mi b] O (aE fun m O'=>m=mi (BL a b)/\O'=O):=by
 unfold BL;have ha:=P1 a O;have hb:=P1 b O;simp only[aq]at ha hb ⊢;refine χ 12 [.tmp 4] Tryz.func120 ?_;refine κ @cX ?_;refine κ @cX ?_;refine π hb ?_;rintro _ Ox ⟨rfl,eO⟩;rw[eO];clear eO Ox
 refine ab @cX ?_;refine π ha ?_;rintro _ Ox ⟨rfl,eO⟩;rw[eO];clear eO Ox
 by_cases h:rU b>rU a
 ·have e1:decide (rU b>rU a)=true:=decide_eq_true h;have e2:decide (rU a<rU b)=true:=e1;rw[if_pos h];refine aH @cX @e1 @e2 ?_;trivial
 ·have e1:decide (rU b>rU a)=false:=decide_eq_false h;have e2:decide (rU a<rU b)=false:=e1;rw[if_neg h];refine aH @cX @e1 @e2 ?_;refine κ @cX ?_;refine ν @cX ?_;trivial
def yU (b:Bn) (M:List (Bn×Bool)):Int:=M.foldl (fun s p=>if decide (b.dp>1)&&(p.2&&rG p.1.k b.k)then BL s p.1.s else s) b.s
def GY (L:List Bn) (C V:List Bool):Nat->List Ch
 | 0=>[]
 | j+1=>GY L C V j++match L[j]? with
   | some b=>if C.getD j false then[⟨b.k,j,b.v,yU b (L.zip V)⟩]else[]
   | none=>[]
def cQ (L:List Bn):List Ch:=GY L (nC L).1 (nC L).2.1 L.length
theorem P2 (L:List Bn) (C V:List Bool):∀j,(GY L C V j).length<=j
 | 0=>aed _
 | j+1=>by
   have:=P2 L C V j;rw[GY,ahV];split
   ·split<;>simp<;>omega
   ·simp;omega
theorem Th (b:Bn) (L:List Bn) (V:List Bool) (hV:V.length=L.length):∃g:Nat->Int,g 0=b.s/\(∀k (h:k<L.length),g (k+1)=if decide (b.dp>1)&&(V.getD k false&&rG L[k].k b.k)then BL (g k) L[k].s else g k)/\g L.length=yU b (L.zip V):=by
 refine⟨fun k=>yU b ((L.take k).zip (V.take k)),by simp[yU],fun k h=>?_,by dsimp only;rw[List.take_length,List.take_of_length_le (Nat.le_of_eq hV)]⟩;dsimp only;rw[<-anl h, <-anl (show k<V.length by omega),List.zip_append (by simp;omega),anj,aee (show k<V.length by omega)];unfold yU;rw[List.foldl_append];simp
def YX:Prop:=∀(L:List Bn) (tk:Tok) (O:VH),L.length<=1000000->(∀b∈L,∀s∈dk b.k,s.length<=maxLen)->VF Tryz.prog 96 [.sl L.length (L.flatMap fB) tk] O (aE fun m O'=>(∃t,m= .sl (cQ L).length ((cQ L).flatMap iy) t)/\O.Ge O')
def Ti (c:UInt8):Bool:=jY c||c==42
structure l0 (s:Bs):Prop where
 ne:s≠[]
 all:∀c∈s,Ti c=true
structure BM (s:Bs):Prop where
 ne:s≠[]
 hd:mf (s.headD 0)=true
 all:∀c∈s,jY c=true
theorem BN {c:UInt8} (h:Ti c=true):c≠60/\c≠38/\c≠62/\c≠13/\nq c=true/\mJ c=false:=by
 have:∀c:UInt8,Ti c=true->(c≠60/\c≠38/\c≠62/\c≠13/\nq c=true/\mJ c=false):=by
  intro c h;simp only[Ti,jY,mf,qC,I9,Bool.or_eq_true,ans,decide_eq_true_eq,beq_iff_eq, <-UInt8.toNat_inj]at h;simp only[nq,mJ,ne_eq, <-UInt8.toNat_inj,decide_eq_true_eq,decide_eq_false_iff_not];have e1:(60:UInt8).toNat=60:=rfl;have e2:(38:UInt8).toNat=38:=rfl;have e3:(62:UInt8).toNat=62:=rfl;have e4:(13:UInt8).toNat=13:=rfl;have e5:(42:UInt8).toNat=42:=rfl;rw[e5]at h;rw[e1,e2,e3,e4];omega
 exact this c h
theorem adh {c:UInt8} (h:mf c=true):c≠33/\c≠63/\c≠47:=by
 simp only[mf,decide_eq_true_eq]at h;simp only[ne_eq, <-UInt8.toNat_inj];have e1:(33:UInt8).toNat=33:=rfl;have e2:(63:UInt8).toNat=63:=rfl;have e3:(47:UInt8).toNat=47:=rfl;rw[e1,e2,e3];omega
theorem GZ {s:Bs} (h:∀c∈s,Ti c=true):ns false s=s:=by
 induction s with
 | nil=>rfl
 | cons c s ih=>
   have hc:=BN (h c (aec ..));have ih:=ih fun d hd=>h d (ahW _ hd)
   unfold ns at ih ⊢;rw[List.flatMap_cons,ih];have:pX false c=[c]:=by simp[pX,hc.1,hc.2.1,hc.2.2.1,hc.2.2.2.1]
   rw[this];rfl
theorem kF {t:Bs} {o:Nat} {a b:Bs} (h:t.drop o=a++b):t.drop (o+a.length)=b:=by
 rw[<-List.drop_drop,h,List.drop_left]
theorem pj {t:Bs} {o:Nat} {c:UInt8} {b:Bs} (h:t.drop o=c::b):o<t.length:=by
 have:=congrArg List.length h;rw[anC,ZA]at this;omega
theorem YY {t:Bs} {o:Nat} {a:Bs} (h:t.drop o=a) (ha:a≠[]):t.length=o+a.length:=by
 have:=congrArg List.length h;rw[anC]at this;have:a.length≠0:=fun e=>ha (ajv e)
 omega
theorem adi {p:UInt8->Bool} {n:Bs} {c:UInt8} {r:Bs} (h:∀x∈n,p x=true) (hc:p c=false):(n++c::r).takeWhile p=n:=by
 induction n with
 | nil=>simp[hc]
 | cons x n ih=>rw[zW,List.takeWhile_cons,h x (aec ..),if_pos rfl,ih fun y hy=>h y (ahW _ hy)]
theorem P3 {n:Bs} {c:UInt8} {r:Bs} (h:BM n) (hc:jY c=false):kA (n++c::r)=n.length:=by
 unfold kA;rw[adi h.all hc];obtain⟨x,m,rfl⟩:∃x m,n=x::m:=by cases n with | nil=>exact absurd rfl h.ne | cons x m=>exact⟨x,m,rfl⟩
 have:=h.hd;simp only[List.headD_cons]at this;simp[this]
theorem JO {t:Bs} {o:Nat} {n:Bs} {c:UInt8} {r:Bs} {e:Int} (hd:t.drop o=n++c::r) (h:BM n) (hc:jY c=false):jI t o e= .ok (n,o+n.length):=by
 obtain⟨x,m,hx⟩:∃x m,n=x::m:=by cases n with | nil=>exact absurd rfl h.ne | cons x m=>exact⟨x,m,rfl⟩
 have ei:=pj (hd.trans (by rw[hx];rfl:_=x::(m++c::r)));unfold jI;rw[if_neg (by omega),hd,P3 h hc,if_neg (by rw[hx];simp),List.take_left]
theorem rj {s:Bs} {c d:UInt8} {p:Bs}:ew (c::s) (d::p)=(c==d&&ew s p):=by
 simp only[ew,ZA,List.take_succ_cons];rfl
theorem tj {s:Bs}:ew s []=true:=by simp[ew]
theorem P4 {t:Bs} {o:Nat} {c:UInt8} {r:Bs} (hd:t.drop o=c::r):jk t o [c]= .ok ((),o+1):=by
 unfold jk;rw[if_neg (by have:=pj hd;omega),hd,rj,tj,if_pos (by simp)];rfl
theorem adj {t:Bs} {o:Nat} {c:UInt8} {r:Bs} (hd:t.drop o=c::r) (hc:mJ c=false):kM t o=0:=by
 unfold kM;rw[hd,List.takeWhile_cons,hc];rfl
theorem P5:jY 62=false:=by decide
theorem JP {t:Bs} {o:Nat} {n r:Bs} (h:BM n) (hd:t.drop o=[60]++(n++62::r)):nw t o= .ok (⟨1,n,[],[],o⟩,o+(n.length+2)):=by
 obtain⟨x,m,hx⟩:∃x m,n=x::m:=by cases n with | nil=>exact absurd rfl h.ne | cons x m=>exact⟨x,m,rfl⟩
 have hf:=h.hd;rw[hx,List.headD_cons]at hf;obtain⟨h33,h63,Yb⟩:=adh hf;have oL:=kF hd;have jS:=kF oL;have hn:jI t (o+1) 11= .ok (n,o+1+n.length):=JO oL h P5
 have bE:mj t (t.length+1 - (o+1+n.length)) (o+1+n.length) []= .ok ([],o+1+n.length):=by
  have hb:=adj jS (by decide);rw[ang]at hb;generalize t.length+1 - (o+1+n.length)=k;cases k with
  | zero=>rfl
  | succ k=>unfold mj;rw[hb,if_pos (.inl rfl),anD]
 rw[ang]at jS;have r9:t.drop o=60::x::(m++62::r):=by rw[hd,hx];rfl
 unfold nw se;simp only[r9,rj,tj,beq_eq_false_iff_ne.2 h33,beq_eq_false_iff_ne.2 h63,beq_eq_false_iff_ne.2 Yb,Bool.and_false,anh,Bool.and_true,anr,beq_self_eq_true,ajy,if_false,if_true,and_false];unfold wF;rw[hn];dsimp only;rw[bE];dsimp only;rw[jS,rj,tj];rw[if_neg (by decide),P4 jS];simp only[u9];rw[show o+1+n.length+1=o+(n.length+2) by omega]
theorem G3 {t:Bs} {o:Nat} {n r:Bs} (h:BM n) (hd:t.drop o=[60,47]++(n++62::r)):nw t o= .ok (⟨3,n,[],[],o⟩,o+(n.length+3)):=by
 have oL:=kF hd;have jS:=kF oL;rw[show[(60:UInt8),47].length=2 from rfl]at oL jS;have hn:jI t (o+2) 11= .ok (n,o+2+n.length):=JO oL h P5;have hb:=adj jS (by decide);have r9:t.drop o=60::47::(n++62::r):=hd;unfold nw se;simp only[r9,rj,tj,show((47:UInt8)==33)=false from rfl,show((47:UInt8)==63)=false from rfl,Bool.and_false,anh,Bool.and_true,anr,beq_self_eq_true,ajy,if_false,if_true,and_false];unfold rP;rw[hn];dsimp only;rw[hb,anD,P4 jS];simp only[u9];rw[show o+2+n.length+1=o+(n.length+3) by omega]
theorem P6 {t:Bs} {r:Bs}:∀(s:Bs) (k o:Nat) (acc:Bs),(∀c∈s,Ti c=true)->t.drop o=s++60::r->s.length<k->fi t 60 k o acc= .ok (acc++s,o+s.length)
 | s,0,_,_,_,_,hk=>by omega
 | [],k+1,o,acc,_,hd,_=>by
   have:=pj hd
   have hg:t[o]?=some 60:=by
    have h0:(t.drop o)[0]?=some 60:=by rw[hd];rfl
    simpa using h0
   unfold fi;rw[hg];dsimp only;rw[if_pos rfl,ajz,Mm,anD]
 | c::s,k+1,o,acc,h,hd,hk=>by
   have hg:t[o]?=some c:=by
    have h0:(t.drop o)[0]?=some c:=by rw[hd];rfl
    simpa using h0
   obtain⟨N2,h38,_,_,v8,_⟩:=BN (h c (aec ..));unfold fi;rw[hg];dsimp only;rw[if_neg N2,if_neg h38,if_neg (by rw[v8];simp[N2]),P6 s k (o+1) (acc++[c]) (fun d hd=>h d (ahW _ hd)) (kF (a:=[c]) hd) (by rw[ZA]at hk;omega)];rw[ahZ,ZA,show o+1+s.length=o+(s.length+1) by omega];rfl
theorem YZ {t:Bs} {o:Nat} {s r:Bs} (h:l0 s) (hd:t.drop o=s++60::r):nw t o= .ok (⟨4,[],[],s,o⟩,o+s.length):=by
 obtain⟨x,m,hx⟩:∃x m,s=x::m:=by cases s with | nil=>exact absurd rfl h.ne | cons x m=>exact⟨x,m,rfl⟩
 obtain⟨N2,_⟩:=BN (h.all x (by rw[hx];exact aec ..));have hlen:=YY hd (by simp);rw[ahV,ZA]at hlen;have hl:=P6 s (t.length+1 - o) o [] h.all hd (by omega);have r9:t.drop o=x::(m++60::r):=by rw[hd,hx];rfl
 unfold nw se;simp only[r9,rj,tj,beq_eq_false_iff_ne.2 N2,anh,ajy,if_false,and_false];rw[hl,Ml];rfl
mutual
def rk:Nd->Prop
 | .mk n a k t=>BM n/\a=[]/\t=[]/\k≠[]/\((∃s,l0 s/\k=[.mk [] [] [] s])\/yV k)
def yV:List Nd->Prop
 | []=>True
 | x::r=>rk x/\yV r
end
mutual
def uG:Nd->Nat
 | .mk _ _ k _=>1+ow k
def ow:List Nd->Nat
 | []=>0
 | x::r=>max (uG x) (ow r)
end
def af2 (K:List Nd) (L:List Tk):Prop:=∀(p:PS) (n:Bs) (a:List (Bs×Bs)) (K0:List Nd) (S:List (Bs×List (Bs×Bs)×List Nd)) (R:List Tk),p.st=(n,a,K0)::S->p.dn=false->p.cn+b_ K<=4096->S.length+1+ow K<=64->
 ∃b,jN (L++R) p=jN R ⟨(n,a,K0++K)::S,p.cn+b_ K,false,b,p.z⟩
theorem rp {x:Tk} {l:List Tk} {p q:PS} (h:kN x p= .ok q):jN (x::l) p=jN l q:=by rw[jN,h]
theorem G4 {n:Bs} {o:Nat} {p:PS} (hd:p.dn=false) (hl:p.st.length<64) (hc:p.cn+1<=4096):kN ⟨1,n,[],[],o⟩ p= .ok ⟨(n,[],[])::p.st,p.cn+1,p.dn,false,p.z⟩:=by
 unfold kN sW;rw[if_neg (by dsimp only;decide),if_pos rfl,hd];simp only[ajy,if_false];rw[if_neg (by omega),if_neg (by omega)]
theorem DB {n:Bs} {o:Nat} {p:PS} {a:List (Bs×Bs)} {K:List Nd} {S:List (Bs×List (Bs×Bs)×List Nd)} (h:p.st=(n,a,K)::S):kN ⟨3,n,[],[],o⟩ p= .ok (uD p):=by
 unfold kN;rw[if_neg (by dsimp only;decide),if_neg (by dsimp only;decide),if_neg (by dsimp only;decide),if_pos rfl,h];dsimp only;rw[if_pos rfl]
theorem Tj {s:Bs} {o:Nat} {p:PS} {n:Bs} {a:List (Bs×Bs)} {K:List Nd} {S:List (Bs×List (Bs×Bs)×List Nd)} (h:p.st=(n,a,K)::S) (hs:s≠[]) (ht:p.tx=false) (hc:p.cn+1<=4096):kN ⟨4,[],[],s,o⟩ p= .ok ⟨(n,a,K++[.mk [] [] [] s])::S,p.cn+1,p.dn,true,p.z⟩:=by
 unfold kN oa;rw[if_pos rfl,h];dsimp only;rw[if_neg hs,ht];simp only[ajy,if_false];rw[if_neg (by omega)];try rfl
theorem zZ {n:Bs} {k:List Nd} (hn:n≠[]) (hk:k≠[]):cH (.mk n [] k [])=[60]++(n++62::(aW k++([60,47]++(n++[62])))):=by
 rw[cH,if_neg hn];have:k.length≠0:=fun e=>hk (ajv e)
 simp only[if_neg this,zK,F1,aeb,ajz];rw[if_neg (by decide),if_neg (by decide),if_neg (by decide),if_pos trivial];simp only[ahZ,zW,Ml]
theorem rq {t:Bs} {x:Tk} {o o' k:Nat} {l:List Tk} (ho:o<t.length) (h:nw t o= .ok (x,o')):jl t (k+1) o l=jl t k o' (l++[x]):=by
 rw[jl,if_neg (by omega),h]
def LU (K:List Nd):Prop:=∀(t:Bs) (o k:Nat) (l:List Tk) (r:Bs),t.drop o=aW K++r->(aW K).length<=k->∃j L,j<=(aW K).length/\jl t k o l=jl t (k - j) (o+(aW K).length) (l++L)/\af2 K L
theorem ko (x:Nd):aW [x]=cH x:=by rw[aW,aW,List.append_nil]
theorem l9 (x:Nd):b_ [x]=eH x:=by rw[b_,b_,Nat.add_zero]
theorem x_ (x:Nd):ow [x]=uG x:=by rw[ow,ow];omega
theorem Y0 {n:Bs} {k:List Nd} (hn:BM n) (hk:k≠[]) (h:(∃s,l0 s/\k=[.mk [] [] [] s])\/LU k):LU [.mk n [] k []]:=by
 intro t o f l r hd hf;rw[ko,zZ hn.ne hk]at hd hf ⊢;have oL:t.drop o=[60]++(n++62::(aW k++([60,47]++(n++62::r)))):=by rw[hd];simp only[ahZ,zW,Ml]
 have jS:t.drop (o+(n.length+2))=aW k++([60,47]++(n++62::r)):=by
  have:=kF (a:=[60]++n++[62]) (b:=aW k++([60,47]++(n++62::r))) (oL.trans (by simp only[List.append_assoc,List.cons_append,List.nil_append]));have hL:List.length ([(60:UInt8)]++n++[62])=n.length+2:=by simp
  rwa [hL]at this
 have wI:=kF jS;have hlen:([60]++(n++62::(aW k++([60,47]++(n++[62]))))).length=(n.length+2)+(aW k).length+(n.length+3):=by simp;omega
 rw[hlen]at hf ⊢;have ho1:=pj oL;have ho3:=pj wI
 have key:∃j L,j<=(aW k).length/\jl t (f - 1) (o+(n.length+2)) (l++[⟨1,n,[],[],o⟩])=jl t (f - 1 - j) (o+(n.length+2)+(aW k).length) (l++[⟨1,n,[],[],o⟩]++L)/\∀(p:PS) (S:List (Bs×List (Bs×Bs)×List Nd)) (R:List Tk),p.st=(n,[],[])::S->p.tx=false->p.dn=false->p.cn+b_ k<=4096->S.length+1+ow k<=64->∃b,jN (L++R) p=jN R ⟨(n,[],k)::S,p.cn+b_ k,false,b,p.z⟩:=by
  rcases h with⟨s,hs,rfl⟩ | h
  ·have hp:aW [.mk [] [] [] s]=s:=by rw[ko,cH,if_pos rfl,GZ hs.all]
   rw[hp]at jS hf ⊢;obtain⟨x,m,hx⟩:∃x m,s=x::m:=by cases s with | nil=>exact absurd rfl hs.ne | cons x m=>exact⟨x,m,rfl⟩
   refine⟨1,[⟨4,[],[],s,o+(n.length+2)⟩],by rw[hx];simp,?_,?_⟩
   ·rw[show f - 1=(f - 1 - 1)+1 by rw[hx]at hf;simp only[ZA]at hf;omega,rq (pj (jS.trans (by rw[hx];rfl:_=x::(m++([60,47]++(n++62::r)))))) (YZ hs jS)];rfl
   ·intro p S R h1 h2 h3 h4 h5;rw[l9,eH,b_]at h4 ⊢;refine⟨true,?_⟩;rw[ant,rp (Tj h1 hs.ne h2 h4),h3];rfl
  ·obtain⟨j,L,hj,he,hr⟩:=h t (o+(n.length+2)) (f - 1) (l++[⟨1,n,[],[],o⟩]) _ jS (by omega);refine⟨j,L,hj,he,?_⟩;intro p S R h1 h2 h3 h4 h5;have:=hr p n [] [] S R h1 h3 h4 h5;simpa using this
 obtain⟨j,L,hj,he,hr⟩:=key;refine⟨j+2,⟨1,n,[],[],o⟩::(L++[⟨3,n,[],[],o+(n.length+2)+(aW k).length⟩]),by omega,?_,?_⟩
 ·rw[show f=(f - 1)+1 by omega,rq ho1 (JP hn oL),he,show f - 1 - j=(f - 1 - j - 1)+1 by omega,rq ho3 (G3 hn wI)]
  congr 1
  ·omega
  ·omega
  ·simp
 ·intro p n' a' K0 S R h1 h2 h3 h4;rw[l9,eH]at h3 ⊢;rw[x_,uG]at h4;rw[zW,rp (G4 h2 (by rw[h1,ZA];omega) (by omega)),h2,ahZ];obtain⟨b,hb⟩:=hr ⟨(n,[],[])::p.st,p.cn+1,false,false,p.z⟩ p.st ([⟨3,n,[],[],o+(n.length+2)+(aW k).length⟩]++R) rfl rfl rfl (by dsimp only;omega) (by rw[h1,ZA];omega);refine⟨false,?_⟩;rw[hb,ant,rp (DB (p:=⟨(n,[],k)::p.st,p.cn+1+b_ k,false,b,p.z⟩) rfl)];unfold uD;dsimp only;rw[h1];dsimp only;rw[show p.cn+1+b_ k=p.cn+(1+b_ k) by omega]
mutual
theorem af3:∀x:Nd,rk x->LU [x]
 | .mk n a k t,h=>by
   rw[rk]at h;obtain⟨hn,rfl,rfl,hk,h⟩:=h;refine Y0 hn hk ?_;rcases h with h | h
   ·exact .inl h
   ·exact .inr (G5 k h)
theorem G5:∀K:List Nd,yV K->LU K
 | [],_=>by
   intro t o k l r hd hk;refine⟨0,[],aed _,by rw[aW];simp,?_⟩;intro p n a K0 S R h1 h2 h3 h4;refine⟨p.tx,?_⟩;rw[b_,Ml,ajz,anD, <-h2, <-h1]
 | x::K,h=>by
   rw[yV]at h;have hx:=af3 x h.1;have hK:=G5 K h.2;intro t o k l r hd hk;have hp:aW (x::K)=aW [x]++aW K:=by rw[ko,aW]
   rw[hp]at hd hk ⊢;rw[ahZ]at hd;rw[ahV]at hk ⊢;obtain⟨j1,L1,cB,he1,kz⟩:=hx t o k l _ hd (by omega);obtain⟨j2,L2,aM,he2,gu⟩:=hK t (o+(aW [x]).length) (k - j1) (l++L1) r (kF hd) (by omega);refine⟨j1+j2,L1++L2,by omega,?_,?_⟩
   ·rw[he1,he2,ahZ,Nat.add_assoc,Nat.sub_sub]
   ·intro p n a K0 S R h1 h2 h3 h4;have hs:b_ (x::K)=b_ [x]+b_ K:=by rw[l9,b_]
    have yj:ow (x::K)=max (ow [x]) (ow K):=by rw[x_,ow]
    rw[hs]at h3 ⊢;rw[yj]at h4;obtain⟨b1,e1⟩:=kz p n a K0 S (L2++R) h1 h2 (by omega) (by omega);obtain⟨b2,e2⟩:=gu ⟨(n,a,K0++[x])::S,p.cn+b_ [x],false,b1,p.z⟩ n a (K0++[x]) S R rfl rfl (by dsimp only;omega) (by omega);refine⟨b2,?_⟩;rw[ahZ,e1,e2,ahZ,Nat.add_assoc];rfl
end
theorem LV {n:Bs} {k:List Nd} (hn:BM n) (hk:k≠[]) (hs:yV k) (hc:1+b_ k<=4096) (hd:ow k<=63):iK (cH (.mk n [] k []))= .ok (.mk n [] k []):=by
 have hp:=zZ hn.ne hk;generalize ht:cH (.mk n [] k [])=t at hp;have oL:t.drop 0=[60]++(n++62::(aW k++([60,47]++(n++[62])))):=by rw[List.drop_zero,hp]
 have hlen:t.length=(n.length+2)+(aW k).length+(n.length+3):=by rw[hp];simp;omega
 have jS:t.drop (0+(n.length+2))=aW k++([60,47]++(n++62::[])):=by
  have:=kF (a:=[60]++n++[62]) (b:=aW k++([60,47]++(n++62::[]))) (oL.trans (by simp only[List.append_assoc,List.cons_append,List.nil_append]));have hL:List.length ([(60:UInt8)]++n++[62])=n.length+2:=by simp
  rwa [hL]at this
 have wI:=kF jS;obtain⟨j,L,hj,he,hr⟩:=G5 k hs t (0+(n.length+2)) t.length ([]++[⟨1,n,[],[],0⟩]) _ jS (by omega)
 have kR:va t= .ok ([]++[⟨1,n,[],[],0⟩]++L++[⟨3,n,[],[],0+(n.length+2)+(aW k).length⟩]):=by
  unfold va;rw[rq (pj oL) (JP hn oL),he,show t.length - j=(t.length - j - 1)+1 by omega,rq (pj wI) (G3 hn wI)];generalize t.length - j - 1=f;cases f with
  | zero=>rfl
  | succ f=>rw[jl,if_pos (by omega)]
 have cD:∃q:PS,jN ([]++[⟨1,n,[],[],0⟩]++L++[⟨3,n,[],[],0+(n.length+2)+(aW k).length⟩]) p0= .ok q/\q.st=[]/\q.dn=true/\q.z= .mk n [] k []:=by
  rw[Ml,ant,zW,rp (G4 rfl (by decide) (by decide))];obtain⟨b,hb⟩:=hr ⟨(n,[],[])::p0.st,p0.cn+1,p0.dn,false,p0.z⟩ n [] [] [] [⟨3,n,[],[],0+(n.length+2)+(aW k).length⟩] rfl rfl (by show 0+1+b_ k<=4096;omega) (by show 0+1+ow k<=64;omega);rw[hb,rp (DB (p:=⟨[(n,[],[]++k)],p0.cn+1+b_ k,false,b,p0.z⟩) rfl),jN];exact⟨_,rfl,rfl,rfl,rfl⟩
 obtain⟨q,h1,h2,h3,h4⟩:=cD;unfold iK;rw[kR];dsimp only;rw[h1];dsimp only;rw[h2,h3,h4];simp
def lf (n s:Bs):Nd:=.mk n [] [.mk [] [] [] s] []
theorem jQ {L:List Nd} {n s:Bs} (h:s≠[]):cx L n s=L++[lf n s]:=by unfold cx;rw[if_neg h];rfl
theorem z6 {L:List Nd} {n:Bs}:cx L n []=L:=by unfold cx;rw[if_pos rfl]
theorem Y1 {s:Bs} (h:l0 s):trimB s=s:=by
 have h1:s.dropWhile mJ=s:=by
  cases s with
  | nil=>rfl
  | cons c s=>rw[List.dropWhile_cons,(BN (h.all c (aec ..))).2.2.2.2.2];rfl
 unfold trimB KS;rw[h1]
 have h2:s.reverse.dropWhile mJ=s.reverse:=by
  cases hr:s.reverse with
  | nil=>rfl
  | cons c r=>
    have:c∈s:=by rw[<-List.mem_reverse,hr];exact aec ..
    rw[List.dropWhile_cons,(BN (h.all c this)).2.2.2.2.2];rfl
 rw[h2,List.reverse_reverse]
theorem Y2 {n s w:Bs} {e:Bool} (h:l0 s) (hl:s.length<=1024):qM (lf n s) w e= .ok s:=by
 have h1:uj (lf n s)=s:=by
  unfold uj;have:ji (lf n s).kids=s:=by simp[ji,lf,Nd.kids,Nd.nm,Nd.tx]
  rw[this,Y1 h]
 have h2:cU (lf n s) []=[]:=by simp[cU,lf,Nd.kids,kL,Nd.nm]
 unfold qM;rw[h1,h2,if_neg];rintro(h | h | h)
 ·exact absurd h (by simp)
 ·omega
 ·exact h.1 |> fun e=> ‹l0 s›.ne e
theorem kG {x:Nd} {w name s:Bs} {sQ:Bool} {right:Bs->Bool} (hk:cU x name=[lf name s]) (h:l0 s) (hl:s.length<=1024) (hr:right s=true):bW x w name sQ right= .ok s:=by
 unfold bW cI;rw[hk];dsimp only;rw[Y2 h hl];simp only[KY,hr,if_true]
theorem tn {x:Nd} {w name:Bs} {right:Bs->Bool} (hk:cU x name=[]):bW x w name false right= .ok []:=by
 unfold bW cI;rw[hk];rfl
theorem DC {n:Bs} {a:List (Bs×Bs)} {t name:Bs} {K:List Nd} (hn:name≠[]) (h:∀y∈K,y.nm=name):cU (.mk n a K t) name=K:=by
 unfold cU;rw[Nd.kids,List.filter_eq_self];intro y hy;simp[kL,h y hy,hn]
structure LW (d:Dp):Prop where
 g:l0 d.g
 a:l0 d.a
 v:l0 d.v
 gl:d.g.length<=1024
 al:d.a.length<=1024
 vl:d.v.length<=1024
 t:d.t=[]
 c:d.c=[]
 s:d.s=0\/d.s=1\/d.s=2\/d.s=3\/d.s=4\/d.s=5
 o:d.o=0\/d.o=1
 x:∀i∈d.x,(l0 i.g/\i.g.length<=1024/\iG i.g=true)/\l0 i.a/\i.a.length<=1024/\iG i.a=true
 xl:d.x.length<=1024
theorem af4 {i:gx} {w:Bs} (h:(l0 i.g/\i.g.length<=1024/\iG i.g=true)/\l0 i.a/\i.a.length<=1024/\iG i.a=true):exE (ij i,w)= .ok i:=by
 have hk:ij i= .mk uX [] [lf eD i.g,lf en i.a] []:=by
  unfold ij;rw[jQ h.1.1.ne,jQ h.2.1.ne];rfl
 unfold exE;dsimp only;rw[hk,kG (s:=i.g) rfl h.1.1 h.1.2.1 h.1.2.2];dsimp only;rw[kG (s:=i.a) rfl h.2.1 h.2.2.1 h.2.2.2]
theorem P7:∀(X:List gx) (ws:List (Nd×Bs)) (Y:List gx),(∀i∈X,(l0 i.g/\i.g.length<=1024/\iG i.g=true)/\l0 i.a/\i.a.length<=1024/\iG i.a=true)->ws.map (·.1)=X.map ij->yL ws Y= .ok (Y++X)
 | [],ws,Y,_,hw=>by
   rw[List.map_nil,ah0]at hw;rw[hw,yL,ajz]
 | i::X,ws,Y,h,hw=>by
   cases ws with
   | nil=>cases hw
   | cons p ws=>
     rw[anq,anq,List.cons.injEq]at hw;obtain⟨q,w⟩:=p;obtain⟨rfl,hw⟩:=hw;rw[yL,af4 (h i (aec ..))];dsimp only;rw[P7 X ws (Y++[i]) (fun j hj=>h j (ahW _ hj)) hw,ahZ];rfl
theorem JQ (w name:Bs) (K:List Nd):(qO w name K).map (·.1)=K:=by
 unfold qO;apply List.ext_getElem
 ·simp
 ·intro i h1 h2;simp
def fq (d:Dp):List Nd:=[lf eD d.g,lf en d.a,lf fS d.v]++(if d.s=0 then[]else[lf rN (fL d.s)])++(if d.o=1 then[lf nr kJ]else[])++(if d.x=[]then[]else[.mk mA [] (d.x.map ij) []])
theorem CH {d:Dp} (h:LW d):fz d= .mk mg [] (fq d) []:=by
 unfold fz zJ fq j_;dsimp only;rw[h.t,h.c,jQ h.g.ne,jQ h.a.ne,jQ h.v.ne,z6,z6];have hx:(d.x.map ij=[]) ↔ d.x=[]:=ah0
 have hs:cx ([]++[lf eD d.g]++[lf en d.a]++[lf fS d.v]) rN (fL d.s)=[lf eD d.g,lf en d.a,lf fS d.v]++(if d.s=0 then[]else[lf rN (fL d.s)]):=by
  rcases h.s with e | e | e | e | e | e<;>rw[e]<;>rfl
 rw[hs];rcases h.o with e | e<;>rw[e]<;>by_cases ex:d.x=[]<;>simp[ex,jQ,kJ]
theorem w8 {n:Int} (h:n=1\/n=2\/n=3\/n=4\/n=5):lW false (fL n)=true/\((lT (fL n)).1:Int)=n/\l0 (fL n)/\(fL n).length<=1024:=by
 rcases h with e | e | e | e | e<;>rw[e]<;>exact⟨by decide,by decide,⟨by decide,by decide⟩,by decide⟩
theorem ai2 {d:Dp}:cU (.mk mg [] (fq d) []) eD=[lf eD d.g]:=by
 unfold fq;by_cases h1:d.s=0<;>by_cases h2:d.o=1<;>by_cases h3:d.x=[]<;>simp only[h1,h2,h3,if_true,if_false]<;>rfl
theorem ai3 {d:Dp}:cU (.mk mg [] (fq d) []) en=[lf en d.a]:=by
 unfold fq;by_cases h1:d.s=0<;>by_cases h2:d.o=1<;>by_cases h3:d.x=[]<;>simp only[h1,h2,h3,if_true,if_false]<;>rfl
theorem ai4 {d:Dp}:cU (.mk mg [] (fq d) []) fS=[lf fS d.v]:=by
 unfold fq;by_cases h1:d.s=0<;>by_cases h2:d.o=1<;>by_cases h3:d.x=[]<;>simp only[h1,h2,h3,if_true,if_false]<;>rfl
theorem ai5 {d:Dp}:cU (.mk mg [] (fq d) []) A_=[]:=by
 unfold fq;by_cases h1:d.s=0<;>by_cases h2:d.o=1<;>by_cases h3:d.x=[]<;>simp only[h1,h2,h3,if_true,if_false]<;>rfl
theorem ai6 {d:Dp}:cU (.mk mg [] (fq d) []) Ba=[]:=by
 unfold fq;by_cases h1:d.s=0<;>by_cases h2:d.o=1<;>by_cases h3:d.x=[]<;>simp only[h1,h2,h3,if_true,if_false]<;>rfl
theorem ai7 {d:Dp}:cU (.mk mg [] (fq d) []) rN=if d.s=0 then[]else[lf rN (fL d.s)]:=by
 unfold fq;by_cases h1:d.s=0<;>by_cases h2:d.o=1<;>by_cases h3:d.x=[]<;>simp only[h1,h2,h3,if_true,if_false]<;>rfl
theorem ai8 {d:Dp}:cU (.mk mg [] (fq d) []) nr=if d.o=1 then[lf nr kJ]else[]:=by
 unfold fq;by_cases h1:d.s=0<;>by_cases h2:d.o=1<;>by_cases h3:d.x=[]<;>simp only[h1,h2,h3,if_true,if_false]<;>rfl
theorem ai9 {d:Dp}:cU (.mk mg [] (fq d) []) mA=if d.x=[]then[]else[.mk mA [] (d.x.map ij) []]:=by
 unfold fq;by_cases h1:d.s=0<;>by_cases h2:d.o=1<;>by_cases h3:d.x=[]<;>simp only[h1,h2,h3,if_true,if_false]<;>rfl
theorem adk {d:Dp} {w:Bs} (h:LW d):wB (.mk mg [] (fq d) []) w= .ok d.x:=by
 unfold wB cI;rw[ai9];by_cases e:d.x=[]
 ·rw[if_pos e,e]
 ·rw[if_neg e];dsimp only
  have hk:cU (.mk mA [] (d.x.map ij) []) uX=d.x.map ij:=DC (by decide) fun y hy=>by
   obtain⟨i,_,rfl⟩:=ajA.1 hy;rfl
  unfold nX;rw[hk,if_neg (by rw[ahY];have:=h.xl;omega)];dsimp only;rw[P7 d.x _ [] h.x (JQ _ _ _),Ml]
theorem adl {d:Dp} {w:Bs} (h:LW d):Gc (fz d) w false= .ok d:=by
 rw[CH h];unfold Gc;rw[kG ai2 h.g h.gl rfl];dsimp only;rw[kG ai3 h.a h.al rfl];dsimp only;rw[kG ai4 h.v h.vl rfl];dsimp only;rw[tn ai5];dsimp only;rw[tn ai6];dsimp only
 have hs:∃y,bW (.mk mg [] (fq d) []) w rN false (lW false)= .ok y/\((lT y).1:Int)=d.s:=by
  have hk:=ai7 (d:=d);by_cases e:d.s=0
  ·rw[if_pos e]at hk;exact⟨[],tn hk,by rw[e];rfl⟩
  ·rw[if_neg e]at hk;obtain⟨h1,h2,h3,h4⟩:=w8 (h.s.resolve_left e);exact⟨_,kG hk h3 h4 h1,h2⟩
 obtain⟨y,hy,Rb⟩:=hs;rw[hy];dsimp only
 have ho:∃z,bW (.mk mg [] (fq d) []) w nr false nu= .ok z/\abD z=d.o:=by
  have hk:=ai8 (d:=d);rcases h.o with e | e
  ·rw[if_neg (by omega)]at hk;exact⟨[],tn hk,by rw[e];decide⟩
  ·rw[if_pos e]at hk;exact⟨kJ,kG hk ⟨by decide,by decide⟩ (by decide) (by decide),by rw[e];decide⟩
 obtain⟨z,hz,hzs⟩:=ho;rw[hz];dsimp only;rw[adk h,Rb,hzs];unfold pK;have h1:=h.t;have h2:=h.c;obtain⟨g,a,v,t,c,s,o,x⟩:=d;dsimp only at h1 h2;rw[h1,h2]
theorem JR:∀(D:List Dp) (ws:List (Nd×Bs)) (Y:List Dp),(∀d∈D,LW d)->ws.map (·.1)=D.map fz->sd false ws Y= .ok (Y++D)
 | [],ws,Y,_,hw=>by
   rw[List.map_nil,ah0]at hw;rw[hw,sd,ajz]
 | d::D,ws,Y,h,hw=>by
   cases ws with
   | nil=>cases hw
   | cons p ws=>
     rw[anq,anq,List.cons.injEq]at hw;obtain⟨q,w⟩:=p;obtain⟨rfl,hw⟩:=hw;rw[sd,adl (h d (aec ..))];dsimp only;rw[JR D ws (Y++[d]) (fun j hj=>h j (ahW _ hj)) hw,ahZ];rfl
structure Y3 (p:Pm):Prop where
 g:l0 p.g
 a:l0 p.a
 v:l0 p.v
 gl:p.g.length<=1024
 al:p.a.length<=1024
 vl:p.v.length<=1024
 eK:∀d∈p.eK,LW d
 len:p.eK.length<=900
def dP (g:Gv) (D:List Dp):Pm:=⟨false,⟨[],[],[]⟩,g.g,g.a,g.v,[],[],[],D⟩
def fe (g:Gv) (D:List Dp):List Nd:=[lf eD g.g,lf en g.a,lf fS g.v]++(if D=[]then[]else[.mk mC [] (D.map fz) []])
theorem uH {g:Gv} {D:List Dp} (h:Y3 (dP g D)):fW (dP g D)= .mk hY [] (fe g D) []:=by
 unfold fW oU KW FX fe;have h1:=h.g.ne;have h2:=h.a.ne;have h3:=h.v.ne;simp only[dP]at h1 h2 h3 ⊢;simp only[ajy,if_false];rw[jQ h1,jQ h2,jQ h3,z6];unfold j_;by_cases e:D=[]<;>simp[e]
theorem Y4 {g:Gv} {D:List Dp} (h:Y3 (dP g D)):pL (fW (dP g D))= .ok (dP g D):=by
 rw[uH h];have kg:cU (.mk hY [] (fe g D) []) eD=[lf eD g.g]:=by unfold fe;by_cases e:D=[]<;>simp only[e,if_true,if_false]<;>rfl
 have ka:cU (.mk hY [] (fe g D) []) en=[lf en g.a]:=by unfold fe;by_cases e:D=[]<;>simp only[e,if_true,if_false]<;>rfl
 have kv:cU (.mk hY [] (fe g D) []) fS=[lf fS g.v]:=by unfold fe;by_cases e:D=[]<;>simp only[e,if_true,if_false]<;>rfl
 have kp:cU (.mk hY [] (fe g D) []) wh=[]:=by unfold fe;by_cases e:D=[]<;>simp only[e,if_true,if_false]<;>rfl
 have kk:cU (.mk hY [] (fe g D) []) yK=[]:=by unfold fe;by_cases e:D=[]<;>simp only[e,if_true,if_false]<;>rfl
 have kr:cU (.mk hY [] (fe g D) []) lR=[]:=by unfold fe;by_cases e:D=[]<;>simp only[e,if_true,if_false]<;>rfl
 have km:cU (.mk hY [] (fe g D) []) sM=[]:=by unfold fe;by_cases e:D=[]<;>simp only[e,if_true,if_false]<;>rfl
 have kd:cU (.mk hY [] (fe g D) []) mC=if D=[]then[]else[.mk mC [] (D.map fz) []]:=by unfold fe;by_cases e:D=[]<;>simp only[e,if_true,if_false]<;>rfl
 have QR:(Nd.mk hY [] (fe g D) []).nm=hY:=rfl;generalize Nd.mk hY [] (fe g D) []=X at*;unfold pL;rw[QR];have hp:wN X hY= .ok (false,⟨[],[],[]⟩):=by unfold wN cI;rw[kp]
 have hr:lU X hY= .ok []:=by unfold lU cI;rw[kr]
 have hm:wM X hY= .ok []:=by unfold wM cI;rw[km]
 have hd:mF X hY false= .ok D:=by
  unfold mF cI;rw[kd];by_cases e:D=[]
  ·rw[if_pos e,e]
  ·rw[if_neg e];dsimp only
   have hk:cU (.mk mC [] (D.map fz) []) mg=D.map fz:=DC (by decide) fun y hy=>by
    obtain⟨d,hd,rfl⟩:=ajA.1 hy;rfl
   unfold nX;rw[hk,if_neg (by rw[ahY];have:=h.len;simp only[dP]at this;omega)];dsimp only;rw[JR D _ [] h.eK (JQ _ _ _),Ml]
 rw[hp,hr,hm,hd];dsimp only;rw[kG kg h.g h.gl rfl];dsimp only;rw[kG ka h.a h.al rfl];dsimp only;rw[kG kv h.v h.vl rfl];dsimp only;rw[tn kk];rfl
theorem Ef (s:Bs) (h:(s.headD 0 |> mf)=true) (h2:s.all jY=true):BM s:=⟨fun e=>(by rw[e]at h;revert h;decide),h,anA.1 h2⟩
theorem uI {n s:Bs} (hn:BM n) (h:l0 s):rk (lf n s):=by
 rw[lf,rk];exact⟨hn,rfl,rfl,by simp,.inl ⟨s,h,rfl⟩⟩
theorem nD:∀{K:List Nd},(∀x∈K,rk x)->yV K
 | [],_=>trivial
 | x::K,h=>by rw[yV];exact⟨h x (aec ..),nD fun y hy=>h y (ahW _ hy)⟩
theorem oh {B:Nat}:∀{K:List Nd},(∀x∈K,eH x<=B)->b_ K<=K.length*B
 | [],_=>by rw[b_];omega
 | x::K,h=>by
   have h1:=h x (aec ..);have h2:=oh fun y hy=>h y (ahW (a:=y) x hy)
   rw[b_,ZA,Nat.succ_mul];omega
theorem tr {B:Nat}:∀{K:List Nd},(∀x∈K,uG x<=B)->ow K<=B
 | [],_=>by rw[ow];omega
 | x::K,h=>by
   have h1:=h x (aec ..);have h2:=tr fun y hy=>h y (ahW (a:=y) x hy)
   rw[ow];omega
theorem m5 {n s:Bs}:eH (lf n s)=2:=by rw[lf,eH,l9,eH,b_]
theorem Ey {n s:Bs}:uG (lf n s)=2:=by rw[lf,uG,x_,uG,ow]
theorem P8 {i:gx} (h:l0 i.g) (h2:l0 i.a):ij i= .mk uX [] [lf eD i.g,lf en i.a] []:=by
 unfold ij;rw[jQ h.ne,jQ h2.ne];rfl
theorem Ez:BM eD:=Ef _ (by decide) (by decide)
theorem EA:BM en:=Ef _ (by decide) (by decide)
theorem LX:BM fS:=Ef _ (by decide) (by decide)
theorem adm {i:gx} (h:l0 i.g) (h2:l0 i.a):rk (ij i)/\eH (ij i)=5/\uG (ij i)=3:=by
 rw[P8 h h2];refine⟨?_,?_,?_⟩
 ·rw[rk];exact⟨Ef _ (by decide) (by decide),rfl,rfl,by simp,.inr (nD (by simp[uI Ez h,uI EA h2]))⟩
 ·rw[eH,b_,l9,m5,m5]
 ·rw[uG,ow,x_,Ey,Ey];rfl
theorem z7 {d:Dp} (h:LW d):∀x∈fq d,rk x/\eH x<=1+d.x.length*5+1/\uG x<=4:=by
 intro x hx;unfold fq at hx;have LY:∀n s,BM n->l0 s->rk (lf n s)/\eH (lf n s)<=1+d.x.length*5+1/\uG (lf n s)<=4:=fun n s hn hs=>⟨uI hn hs,by rw[m5];omega,by rw[Ey];omega⟩
 rcases ajw.1 hx with hx | hx
 ·rcases ajw.1 hx with hx | hx
  ·rcases ajw.1 hx with hx | hx
   ·simp only[am_,ame,or_false]at hx;rcases hx with rfl | rfl | rfl
    ·exact LY _ _ Ez h.g
    ·exact LY _ _ EA h.a
    ·exact LY _ _ LX h.v
   ·by_cases e:d.s=0
    ·rw[if_pos e]at hx;cases hx
    ·rw[if_neg e,ahX]at hx;rw[hx];exact LY _ _ (Ef _ (by decide) (by decide)) (w8 (h.s.resolve_left e)).2.2.1
  ·by_cases e:d.o=1
   ·rw[if_pos e,ahX]at hx;rw[hx];exact LY _ _ (Ef _ (by decide) (by decide)) ⟨by decide,by decide⟩
   ·rw[if_neg e]at hx;cases hx
 ·by_cases e:d.x=[]
  ·rw[if_pos e]at hx;cases hx
  ·rw[if_neg e,ahX]at hx;rw[hx]
   have hm:∀y∈d.x.map ij,rk y/\eH y=5/\uG y=3:=fun y hy=>by
    obtain⟨i,hi,rfl⟩:=ajA.1 hy;exact adm (h.x i hi).1.1 (h.x i hi).2.1
   refine⟨?_,?_,?_⟩
   ·rw[rk];exact⟨Ef _ (by decide) (by decide),rfl,rfl,fun e2=>e (ah0.1 e2),.inr (nD fun y hy=>(hm y hy).1)⟩
   ·rw[eH];have:=oh (B:=5) fun y hy=>Nat.le_of_eq (hm y hy).2.1
    rw[ahY]at this;omega
   ·rw[uG];have:=tr (B:=3) fun y hy=>Nat.le_of_eq (hm y hy).2.2
    omega
theorem G6 (d:Dp):(fq d).length<=6:=by
 unfold fq;by_cases h1:d.s=0<;>by_cases h2:d.o=1<;>by_cases h3:d.x=[]<;>simp[h1,h2,h3]
theorem JS {d:Dp} (h:LW d):rk (fz d)/\eH (fz d)<=13+d.x.length*30/\uG (fz d)<=5:=by
 rw[CH h];refine⟨?_,?_,?_⟩
 ·rw[rk];exact⟨Ef _ (by decide) (by decide),rfl,rfl,by unfold fq;simp,.inr (nD fun y hy=>(z7 h y hy).1)⟩
 ·rw[eH];have h1:=oh (B:=1+d.x.length*5+1) fun y hy=>(z7 h y hy).2.1
  have h2:=G6 d;have h3:(fq d).length*(1+d.x.length*5+1)<=6*(1+d.x.length*5+1):=anb _ h2;omega
 ·rw[uG];have:=tr (B:=4) fun y hy=>(z7 h y hy).2.2
  omega
theorem Y5 {g:Gv} {D:List Dp} (h:Y3 (dP g D)) (hx:∀d∈D,d.x.length<=1) (hl:D.length<=40):iK (cH (fW (dP g D)))= .ok (fW (dP g D)):=by
 have hD:∀y∈D.map fz,rk y/\eH y<=43/\uG y<=5:=fun y hy=>by
  obtain⟨d,hd,rfl⟩:=ajA.1 hy;obtain⟨h1,h2,h3⟩:=JS (h.eK d hd);have:=hx d hd;exact⟨h1,by omega,h3⟩
 have hm:∀x∈fe g D,rk x/\eH x<=1+40*43+1/\uG x<=6:=by
  intro x hx;unfold fe at hx;have LY:∀n s,BM n->l0 s->rk (lf n s)/\eH (lf n s)<=1+40*43+1/\uG (lf n s)<=6:=fun n s hn hs=>⟨uI hn hs,by rw[m5];omega,by rw[Ey];omega⟩
  rcases ajw.1 hx with hx | hx
  ·simp only[am_,ame,or_false]at hx;rcases hx with rfl | rfl | rfl
   ·exact LY _ _ Ez h.g
   ·exact LY _ _ EA h.a
   ·exact LY _ _ LX h.v
  ·by_cases e:D=[]
   ·rw[if_pos e]at hx;cases hx
   ·rw[if_neg e,ahX]at hx;rw[hx];refine⟨?_,?_,?_⟩
    ·rw[rk];exact⟨Ef _ (by decide) (by decide),rfl,rfl,fun e2=>e (ah0.1 e2),.inr (nD fun y hy=>(hD y hy).1)⟩
    ·rw[eH];have h1:=oh (B:=43) fun y hy=>(hD y hy).2.1
     rw[ahY]at h1;have:D.length*43<=40*43:=anb _ hl;omega
    ·rw[uG];have:=tr (B:=5) fun y hy=>(hD y hy).2.2
     omega
 rw[uH h]
 have hc:b_ (fe g D)<=6+(1+40*43):=by
  have hs:b_ (fe g D)=6+b_ (if D=[]then[]else[.mk mC [] (D.map fz) []]):=by
   unfold fe;rw[zW,zW,zW,Ml,b_,b_,b_,m5,m5,m5];omega
  rw[hs];by_cases e:D=[]
  ·rw[if_pos e,b_];omega
  ·rw[if_neg e,l9,eH];have h1:=oh (B:=43) fun y hy=>(hD y hy).2.1
   rw[ahY]at h1;have:D.length*43<=40*43:=anb _ hl;omega
 exact LV (Ef _ (by decide) (by decide)) (by unfold fe;simp) (nD fun x hx=>(hm x hx).1) (by omega) (ajx (tr (B:=6) fun x hx=>(hm x hx).2.2) (by decide))
theorem qf {B:Nat}:∀{K:List Nd},(∀x∈K,(cH x).length<=B)->(aW K).length<=K.length*B
 | [],_=>by rw[aW];simp
 | x::K,h=>by
   have h1:=h x (aec ..);have h2:=qf fun y hy=>h y (ahW (a:=y) x hy)
   rw[aW,ahV,ZA,Nat.succ_mul];omega
theorem j5 {n:Bs} {k:List Nd} (hn:n≠[]) (hk:k≠[]):(cH (.mk n [] k [])).length=2*n.length+5+(aW k).length:=by
 rw[zZ hn hk];simp only[ahV,ZA,Mm];omega
theorem qg {n s:Bs} (hn:n≠[]) (h:l0 s):(cH (lf n s)).length=2*n.length+5+s.length:=by
 rw[lf,j5 hn (by simp),ko,cH,if_pos rfl,GZ h.all]
structure adn (g:Gv) (D:List Dp):Prop where
 g:g.g.length<=64/\g.a.length<=64/\g.v.length<=64
 d:∀d∈D,d.g.length<=64/\d.a.length<=64/\d.v.length<=64/\d.x.length<=1/\∀i∈d.x,i.g.length<=64/\i.a.length<=64
 n:D.length<=40
theorem Y6 {i:gx} (h:l0 i.g) (h2:l0 i.a) (hl:i.g.length<=64/\i.a.length<=64):(cH (ij i)).length<=200:=by
 rw[P8 h h2,j5 (by decide) (by simp),aW,ko,ahV,qg (by decide) h,qg (by decide) h2];simp only[ZA,Mm];omega
theorem Tl {d:Dp} (h:LW d) (hl:d.g.length<=64/\d.a.length<=64/\d.v.length<=64/\d.x.length<=1/\∀i∈d.x,i.g.length<=64/\i.a.length<=64):(cH (fz d)).length<=1400:=by
 obtain⟨l1,l2,l3,l4,l5⟩:=hl
 have hb:∀x∈fq d,(cH x).length<=225:=by
  intro x hx;unfold fq at hx;rcases ajw.1 hx with hx | hx
  ·rcases ajw.1 hx with hx | hx
   ·rcases ajw.1 hx with hx | hx
    ·simp only[am_,ame,or_false]at hx;rcases hx with rfl | rfl | rfl
     ·rw[qg (by decide) h.g];simp only[ZA,Mm];omega
     ·rw[qg (by decide) h.a];simp only[ZA,Mm];omega
     ·rw[qg (by decide) h.v];simp only[ZA,Mm];omega
    ·by_cases e:d.s=0
     ·rw[if_pos e]at hx;cases hx
     ·rw[if_neg e,ahX]at hx;rw[hx,qg (by decide) (w8 (h.s.resolve_left e)).2.2.1];rcases h.s.resolve_left e with e | e | e | e | e<;>rw[e]<;>decide
   ·by_cases e:d.o=1
    ·rw[if_pos e,ahX]at hx;rw[hx];decide
    ·rw[if_neg e]at hx;cases hx
  ·by_cases e:d.x=[]
   ·rw[if_pos e]at hx;cases hx
   ·rw[if_neg e,ahX]at hx
    have h1:=qf (B:=200) (K:=d.x.map ij) fun y hy=>by
     obtain⟨i,hi,rfl⟩:=ajA.1 hy;exact Y6 (h.x i hi).1.1 (h.x i hi).2.1 (l5 i hi)
    rw[ahY]at h1;rw[hx,j5 (by decide) (fun e2=>e (ah0.1 e2))];simp only[ZA,Mm];omega
 have h1:=qf hb;have h2:=G6 d;have h3:(fq d).length*225<=6*225:=anb _ h2;rw[CH h,j5 (by decide) (by unfold fq;simp)];simp only[ZA,Mm];omega
theorem Y7 {g:Gv} {D:List Dp} (h:Y3 (dP g D)) (hs:adn g D):(cH (fW (dP g D))).length<=65536:=by
 obtain⟨l1,l2,l3⟩:=hs.g
 have h1:=qf (B:=1400) (K:=D.map fz) fun y hy=>by
  obtain⟨d,hd,rfl⟩:=ajA.1 hy;exact Tl (h.eK d hd) (hs.d d hd)
 rw[ahY]at h1;have h2:D.length*1400<=40*1400:=anb _ hs.n
 have h3:(aW (if D=[]then[]else[.mk mC [] (D.map fz) []])).length<=56100:=by
  by_cases e:D=[]
  ·rw[if_pos e,aW];simp
  ·rw[if_neg e,ko,j5 (by decide) (fun e2=>e (ah0.1 e2))];simp only[ZA,Mm];omega
 rw[uH h,j5 (by decide) (by unfold fe;simp)]
 have hs:aW (fe g D)=cH (lf eD g.g)++(cH (lf en g.a)++(cH (lf fS g.v)++aW (if D=[]then[]else[.mk mC [] (D.map fz) []]))):=by
  unfold fe;rw[zW,zW,zW,Ml,aW,aW,aW]
 have hg:(cH (lf eD g.g)).length=_:=qg (by decide) h.g;have ha:(cH (lf en g.a)).length=_:=qg (by decide) h.a;have hv:(cH (lf fS g.v)).length=_:=qg (by decide) h.v;rw[hs,ahV,ahV,ahV,hg,ha,hv];have e1:eD.length=7:=rfl;have e2:en.length=10:=rfl;have e3:fS.length=7:=rfl;have e4:hY.length=7:=rfl;omega
structure Br where
 up:Int
 dp:Int
 od:Int
 k:Ky
 v:Bs
 sc:Int
 rd:Bool
def kV (k:Ky):gx:=⟨k.g,k.a⟩
def rV (b:Br):Gv:=⟨b.k.g,b.k.a,b.v⟩
abbrev ru:=List Br×List (List gx)
def w9 (N:List Br) (p:Nat->Bool):Nat->Int->Bool
 | 0,_=>false
 | f+1,i=>if i<0 then false else p i.toNat||match N[i.toNat]? with
   | none=>false
   | some b=>w9 N p f b.up
def rW (i:Nat) (b:Br) (n:pR):Int:=if i=0 then n.s else if n.o then 0 else NX b.sc n.s
def LZ (S:ru) (i:Nat) (x:gx):Bool:=w9 S.1 (fun k=>(S.2.getD k []).any (Dj · x)) (i+1) i
def BO (S:ru) (i:Nat) (x:gx):Bool:=w9 S.1 (fun k=>match S.1[k]? with
    | none=>false
    | some b=>kV b.k==x) (i+1) i
def ahF (S:ru) (i:Nat) (b:Br) (od:Nat) (n:pR):ru:=(S.1++[⟨i,b.dp+1,od,n.k,n.v,rW i b n,BO S i (kV n.k)⟩],S.2++[n.x])
def z8 (S:ru) (i:Nat) (b:Br) (od:Nat) (n:pR):Option ru:=
 if rW i b n=0\/LZ S i (kV n.k)=true then some S
 else if 4096<=S.1.length then none
 else some (ahF S i b od n)
def yb (i:Nat) (b:Br):List pR->Nat->ru->Option ru
 | [],_,S=>some S
 | n::l,od,S=>match z8 S i b od n with
   | none=>none
   | some S'=>yb i b l (od+1) S'
def z_ (ms:Gv->Option (List pR)):Nat->Nat->ru->Option (Option (List Br))
 | 0,_,_=>none
 | f+1,i,S=>match S.1[i]? with
   | none=>some (some S.1)
   | some b=>if b.rd then z_ ms f (i+1) S else match ms (rV b)with
     | none=>none
     | some l=>match yb i b l 0 S with
       | none=>some none
       | some S'=>z_ ms f (i+1) S'
def Aa (g:Gv):Br:=⟨-1,0,0,⟨g.g,g.a,lB,[]⟩,g.v,0,false⟩
def Ab (ms:Gv->Option (List pR)) (g:Gv):Option (Option (List Br)):=z_ ms 5000 0 ([Aa g],[[]])
def iO (S:List (Gv×List Dp)) (g:Gv):Option (List pR):=(S.find? (·.1==g)).map fun p=>p.2.map fO
def Ups (N:List Br):Prop:=∀(i:Nat) (b:Br),N[i]?=some b-> -1<=b.up/\b.up<(i:Int)/\0<=b.dp/\b.dp<=(i:Int)
def gS:Bs:=[103]
def v1:Bs:=[49]
def vv (a v:Bs) (s:Int):Dp:=⟨gS,a,v,[],[],s,0,[]⟩
section
variable (f:Nat->Bs)
end
variable {f:Nat->Bs}
section
variable (p:Nat->Nat->Bs) (rt:Bs) (w:Nat)
end
section
variable {p:Nat->Nat->Bs} {rt:Bs} {w:Nat}
end
set_option linter.defProp false in
def aR:=Mn c6<|Mn akb<|Mn aka<|Mn FJ<|Mn XD<|Mn agL<|Mn FK<|Mn Dg<|Mn agK<|Mn T72<|Mn T46<|Mn Ca<|Mn NQ<|Mn XB<|Mn AS NO
def m6 (b:Br):List MV:=[mi b.up,mi b.dp,mi b.od]++gV b.k++[.str b.v]++wX (false,b.v,[]) .ar++[mi b.sc,mb b.rd]
theorem mS (b:Br):(m6 b).length=13:=rfl
theorem ado (L:List Br):c8 (L.flatMap m6)=L.flatMap m6:=j9 (fun x=>by simp only[m6,gV,wX,zW,Ml,aq,bu,wu,Mm,aeb]) L
def Ac (x:List gx):List MV:=[.sl x.length (x.flatMap cj) .ar]
theorem P9 (x:List gx):(Ac x).length=1:=rfl
theorem P_ (L:List (List gx)):c8 (L.flatMap Ac)=L.flatMap Ac:=j9 (fun x=>by simp only[Ac,wu,nW]) L
theorem adp (k:Ky) (O:VH):VF Tryz.prog 106 [.agg (gV k)] O (aE fun m O'=>m= .agg (cj (kV k))/\O.Ge O'):=by
 obtain⟨k1,k2,k3,k4⟩:=k;simp only[gV,cj,kV];refine χ 8 [.cell 2 150] Tryz.func106 ?_;refine κ @aR ?_;refine VC.gen ?_;intro O1 e1;obtain⟨aJ,cW,cz,cE⟩:=ib _ _ e1;clear e1;refine θ (aH @aR @cz @cE ?_);refine ν @aR ?_;exact aJ.set (by omega) _
theorem af5 (b:Br) (O:VH):VF Tryz.prog 92 [.agg (m6 b)] O (aE fun m O'=>m= .agg (bZ (rV b))/\O.Ge O'):=by
 obtain⟨up,dp,od,⟨k1,k2,k3,k4⟩,v,sc,rd⟩:=b;simp only[m6,gV,wX,bZ,rV,aq,bu,zW,Ml,Mm,aeb];refine χ 12 [.cell 2 60] Tryz.func92 ?_;refine κ @aR ?_;refine VC.gen ?_;intro O1 e1;obtain⟨aJ,cW,cz,cE⟩:=ib _ _ e1;clear e1;refine θ (aH @aR @cz @cE ?_);refine ν @aR ?_;exact aJ.set (by omega) _
structure tu (O:VH) (tb k bb mm:Nat) (g:Gv) (S:ru) (t1 t2:Tok) (B:Nat):Prop where
 cell:O.hp tb=some (.cells ([.ptr k 0,.ptr bb 0]++bZ g++[.map mm,.sl S.1.length (S.1.flatMap m6) t1,.sl S.2.length (S.2.flatMap Ac) t2]))
 map:O.hp mm=some (.map (cS []) 0)
 a1:App O B 13 t1
 a2:App O B 1 t2
 ne:∀i,Tok.id t1=some i->Tok.id t2≠some i
 lt:tb<O.N/\mm<O.N
 len:S.1.length=S.2.length
 up:Ups S.1
theorem tu.ge {O O':VH} {tb k bb mm:Nat} {g:Gv} {S:ru} {t1 t2:Tok} {B:Nat} (h:tu O tb k bb mm g S t1 t2 B) (u:O.Ge O'):tu O' tb k bb mm g S t1 t2 B:=
 ⟨(u.hp _ h.lt.1).trans h.cell,(u.hp _ h.lt.2).trans h.map,h.a1.ge u,h.a2.ge u,h.ne,⟨agu h.lt.1 u.N,agu h.lt.2 u.N⟩,h.len,h.up⟩
def G7 (n:pR):Prop:=n.k.g.length<=100000/\n.k.a.length<=100000/\n.k.t.length<=100000/\n.k.c.length<=100000
theorem G7.key {n:pR} (h:G7 n):∀s∈dk n.k,s.length<=maxLen:=by
 obtain⟨h1,h2,h3,h4⟩:=h;intro s hs;simp only[dk,am_,ame,or_false]at hs;simp only[maxLen];rcases hs with rfl | rfl | rfl | rfl<;>omega
abbrev ahG:List MV:=[.str [],.str [],.str [],.str [],.str [],.v (.int .i64 0),.v (.int .i64 0),.sl 0 [] .nil]
theorem CI (N:Nat):nT N []:=⟨by simp,by simp⟩
theorem Y8 {O:VH} {tb k bb mm:Nat} {g:Gv} {S:ru} {t1 t2:Tok} {B:Nat} (h:tu O tb k bb mm g S t1 t2 B) {i:Nat} {b:Br} (hb:S.1[i]?=some b) (n:pR) (hn:G7 n):
  VF Tryz.prog 107 [.ptr tb 0,mi i,.agg (ez n)] O (aE fun m O'=>m=mi (rW i b n)/\O.Ge O'):=by
 have F6:=hn.key;have bE:(S.1.flatMap m6)[i*13+11]?=some (mi b.sc):=by simpa using kh (sp:=[]) mS hb (i:=11) rfl
 have Pp:=(VI.1 hb).1;have hc:=h.cell;have ei:=h.lt;have Y9:=fun(O':VH) (u:O.Ge O')=>h.ge u
 unfold rW;obtain⟨⟨k1,k2,k3,k4⟩,v,s,o,x⟩:=n;dsimp only;simp only[ez,gV,wX,bZ,aq,bu,zW,Ml,Mm,aeb]at hc bE ⊢;refine χ 39 [.tmp 6] Tryz.func107 ?_;refine κ @aR ?_;refine VC.bx ?_;rintro O1 ⟨aJ,eQ,cW⟩;by_cases hi:i=0
 ·have rF:((i:Int)==0)=true:=by simpa using hi
  rw[if_pos hi];refine θ (aH @aR @rF @eQ ?_);exact aJ
 rw[if_neg hi];have rF:((i:Int)==0)=false:=by simpa using hi
 refine ξ @aR @rF ?_;cases o;rotate_left
 ·rw[if_pos rfl];refine ξ @aR @eQ ?_;exact aJ
 rw[if_neg (by decide)];refine ξ @aR @eQ ?_;refine ξ @aR @eQ ?_;have h1:=Y9 O1 aJ;have fj:=h1.cell;simp only[bZ,zW,Ml]at fj;refine ω (ω ?_);refine WC.bQ (.held [8]) [(0,.rd),(1,.rd),(2,.rd),(3,.rd),(4,.rd),(5,.rd),(6,.rd),(7,.one),(8,.one)] ?_;refine aH @aR @fj @eQ ?_;refine VL.hold (.inr rfl) rfl rfl (fJ.kI oN aa (l:=dk ⟨k1,k2,k3,k4⟩) (te:=⟨_,8,120,ahG⟩) Tryz.underlying209 Ca.1.1 rfl rfl h1.map (CI 4) rfl rfl F6) (WL.sound aa ?_);rw[show iD (dk ⟨k1,k2,k3,k4⟩) ([]:fI)=none from rfl];refine ab @aR ?_;refine VC.al ?_;rintro O2 ⟨aC,jv,eJ⟩;have fC:=aJ.trans aC;have iL:=(Y9 O2 fC).cell;simp only[bZ,zW,Ml]at iL;refine ο @aR @jv ?_;refine θ (aH @aR @iL @bE ?_);refine π (XL b.sc s _) ?_;rintro _ O3 ⟨rfl,e3⟩;rw[e3];refine ab @aR ?_;refine ν @aR ?_;exact fC
theorem Y_ {O:VH} {tb k bb mm:Nat} {g:Gv} {S:ru} {t1 t2:Tok} {B:Nat} (h:tu O tb k bb mm g S t1 t2 B) (i:Nat) (n:pR) (hn:G7 n):
  VF Tryz.prog 113 [.ptr tb 0,mi i,.agg (ez n)] O (aE fun m O'=>m= .agg (wX (false,n.v,[]) .ar)/\O.Ge O'):=by
 have F6:=hn.key;have Y9:=fun(O':VH) (u:O.Ge O')=>h.ge u
 obtain⟨⟨k1,k2,k3,k4⟩,v,s,o,x⟩:=n;dsimp only;simp only[ez,gV,wX,aq,bu,zW,Ml,Mm,aeb];refine χ 33 [.cell 6 46] Tryz.func113 ?_;refine κ @aR ?_;refine VC.gen ?_;intro O1 e1;obtain⟨aJ,cW,eQ,kz⟩:=ib _ _ e1;clear e1;have h1:=Y9 O1 aJ;have fj:=h1.cell;simp only[bZ,zW,Ml]at fj;refine ω (ω ?_);refine WC.bQ (.held [8]) [(0,.rd),(1,.rd),(2,.rd),(3,.rd),(4,.rd),(5,.rd),(6,.rd),(7,.one),(8,.one)] ?_;refine aH @aR @fj @eQ ?_;refine VL.hold (.inr rfl) rfl rfl (fJ.kI oN aa (l:=dk ⟨k1,k2,k3,k4⟩) (te:=⟨_,8,120,ahG⟩) Tryz.underlying209 Ca.1.1 rfl rfl h1.map (CI 4) rfl rfl F6) (WL.sound aa ?_);rw[show iD (dk ⟨k1,k2,k3,k4⟩) ([]:fI)=none from rfl];refine ab @aR ?_;refine VC.al ?_;rintro O2 ⟨aC,jv,eJ⟩;have fC:=aJ.trans aC;have ahH:=aC.at eQ;have ahI:=aC.at kz;by_cases hi:(i:Int)>0
 ·have rF:decide ((i:Int)>0)=true:=decide_eq_true hi;have dA:decide (0<(i:Int))=true:=decide_eq_true hi;refine ι (cJ @aR @jv @rF @dA ?_);refine θ (aH @aR @ahH @ahI ?_);refine ν @aR ?_;exact fC.set (by omega) _
 ·have rF:decide ((i:Int)>0)=false:=decide_eq_false hi;have dA:decide (0<(i:Int))=false:=decide_eq_false hi;refine ι (cJ @aR @jv @rF @dA ?_);refine θ (aH @aR @ahH @ahI ?_);refine ν @aR ?_;exact fC.set (by omega) _
section
variable {n:Sz} {D:List Deferred} {e:Env} {P:Program} {tab:cg} {O:VH} {ops:Array Oper} {Q:VQ}
end
theorem af6 (L:List gx) (tk:Tok) (id:FuncId) (cs:List MV) (p:gx->Bool) (O:VH) (hid:df Tryz.prog id=true) (hc:∀x∈L,∀O',O.Ge O'->VF Tryz.prog id ([.agg (cj x)]++cs) O' (aE fun m mD=>m=mb (p x)/\O'.Ge mD)) (hn:L.length<=1000000):
  VF Tryz.prog 142 [.sl L.length (L.flatMap cj) tk,.func (.func id) [] cs] O (aE fun m O'=>m=mi (idxFrom p 0 L)/\O.Ge O'):=by
 have dI:=aX nV L;refine Θ 19 [.tmp 4] Tryz.func142 ?_;refine ab @aR ?_;refine WC.jh [8] [0,1,7] (fun j:Nat=>[mi j]) (fun j O'=>O.Ge O'/\j<=L.length/\idxFrom p 0 L=idxFrom p j (L.drop j)) (fun j=>L.length - j) (0) ?_ ?_
 ·exact⟨VH.Ge.refl _,anp _,rfl⟩
 rintro j O2 ⟨aC,hj,dh⟩;by_cases h2:j<L.length
 ·have bE:=cP nV L j h2;have hcj:=hc L[j] (ani h2) O2 aC;rw[ank h2,idxFrom]at dh;generalize L[j]=y at*;refine ao @aR @bE ?_;refine π hcj ?_ (hb:=hid);rintro _ O3 ⟨rfl,aG⟩;cases hi:p y
  ·rw[hi]at dh;refine ab @aR ?_;exact az.N (j+1) ⟨aC.trans aG,by omega,dh⟩
  ·rw[hi,if_pos rfl]at dh;rw[dh];refine ab @aR ?_;exact aC.trans aG
 ·obtain rfl:j=L.length:=by omega
  rw[List.drop_of_length_le (by omega)]at dh;rw[dh];refine ab @aR ?_;exact⟨rfl,aC⟩
theorem af7 (L:List gx) (tk:Tok) (id:FuncId) (cs:List MV) (p:gx->Bool) (O:VH) (hid:df Tryz.prog id=true) (hc:∀x∈L,∀O',O.Ge O'->VF Tryz.prog id ([.agg (cj x)]++cs) O' (aE fun m mD=>m=mb (p x)/\O'.Ge mD)) (hn:L.length<=1000000):
  VF Tryz.prog 110 [.sl L.length (L.flatMap cj) tk,.func (.func id) [] cs] O (aE fun m O'=>m=mb (L.any p)/\O.Ge O'):=by
 rw[<-F_ p L 0];refine Θ 9 [.tmp 4] Tryz.func110 ?_;refine ab @aR ?_;refine π (af6 L tk id cs p O hid hc hn) ?_;rintro _ O2 ⟨rfl,aC⟩;refine ab @aR ?_;exact aC
theorem af8 (q x:gx) (k:Nat) (O:VH) (hk:O.hp k=some (.cells (cj x))) (zx:k<O.N):VF Tryz.prog 111 ([.agg (cj q)]++[.ptr k 0]) O (aE fun m O'=>m=mb (Dj q x)/\O.Ge O'):=by
 have hm:=fun O'=>RX q x O'
 obtain⟨q1,q2⟩:=q;obtain⟨x1,x2⟩:=x;simp only[cj]at hm hk ⊢;show VF _ _ [.agg [.str q1,.str q2],.ptr k 0] _ _;refine χ 7 [.tmp 3] Tryz.func111 ?_;refine κ @aR ?_;refine VC.bx ?_;rintro O1 ⟨aJ,eQ,cW⟩;have cA:=(aJ.hp k zx).trans hk;refine θ (aH @aR @eQ @cA ?_);refine π (hm O1) ?_;rintro _ O2 ⟨rfl,aC⟩;refine ab @aR ?_;refine ν @aR ?_;exact aJ.trans aC
theorem ai_ {O:VH} {tb k bb mm:Nat} {g:Gv} {S:ru} {t1 t2:Tok} {B:Nat} (h:tu O tb k bb mm g S t1 t2 B) {ba bx:Nat} {x:gx} (ha:O.hp ba=some (.cells [.ptr tb 0])) (hx:O.hp bx=some (.cells (cj x))) (kK:ba<O.N) (DW:bx<O.N) {i:Nat} (hi:i<S.2.length) (hX:∀y∈S.2,y.length<=1000000):
  VF Tryz.prog 109 ([mi i]++[.ptr ba 0,.ptr bx 0]) O (aE fun m O'=>m=mb ((S.2.getD i []).any (Dj · x))/\O.Ge O'):=by
 have hg:S.2[i]?=some S.2[i]:=aee hi;have bE:(S.2.flatMap Ac)[i*1+0]?=some (.sl S.2[i].length (S.2[i].flatMap cj) .ar):=by simpa using kh (sp:=[]) P9 hg (i:=0) rfl
 rw[anj,hg,Option.getD_some];have hyl:=hX _ (ani hi);generalize S.2[i]=Y at*;have hc:=h.cell;obtain⟨g1,g2,g3⟩:=g;simp only[bZ,zW,Ml]at hc;show VF _ _ [mi i,.ptr ba 0,.ptr bx 0] _ _;simp only[aq];refine χ 14 [.tmp 4] Tryz.func109 ?_;refine κ @aR ?_;have alM:(S.2.flatMap Ac)[i]?=some (.sl Y.length (Y.flatMap cj) .ar):=by simpa using bE
 refine θ (cJ @aR @ha @hc @alM ?_);refine π (af7 Y .ar 111 [.ptr bx 0] (Dj · x) O (by kernel_rfl) (fun q _ O' u=>af8 q x bx O' ((u.hp _ DW).trans hx) (agu DW u.N)) hyl) ?_;rintro _ O2 ⟨rfl,aC⟩;refine ab @aR ?_;refine ν @aR ?_;exact aC
theorem aja {O:VH} {tb k bb mm:Nat} {g:Gv} {S:ru} {t1 t2:Tok} {B:Nat} (h:tu O tb k bb mm g S t1 t2 B) {ba bx:Nat} {x:gx} (ha:O.hp ba=some (.cells [.ptr tb 0])) (hx:O.hp bx=some (.cells (cj x))) (kK:ba<O.N) (DW:bx<O.N) {i:Nat} {b:Br} (hb:S.1[i]?=some b):
  VF Tryz.prog 117 ([mi i]++[.ptr ba 0,.ptr bx 0]) O (aE fun m O'=>m=mb (kV b.k==x)/\O.Ge O'):=by
 have bE:((S.1.flatMap m6).drop (i*13+3)).take 4=gV b.k:=by
  obtain⟨hi,e⟩:=VI.1 hb;have h1:=cP mS S.1 i hi;rw[e]at h1;have h2:=congrArg (fun l=>(l.drop 3).take 4) h1;simp only[List.drop_take,List.take_take,List.drop_drop]at h2;exact h2
 have adq:=(VI.1 hb).1;have Vp:=aX mS S.1;have hc:=h.cell;have GK:=fun O'=>adp b.k O'
 generalize b.k=K at*;obtain⟨k1,k2,k3,k4⟩:=K;obtain⟨x1,x2⟩:=x;obtain⟨g1,g2,g3⟩:=g;simp only[bZ,gV,cj,kV,zW,Ml]at hc bE hx GK;show VF _ _ [mi i,.ptr ba 0,.ptr bx 0] _ _;simp only[aq];refine χ 16 [.tmp 4] Tryz.func117 ?_;refine κ @aR ?_;refine ω ?_;refine VC.Bf [10,11] (tb) (fun O'=>O'.hp ba=some (.cells [.ptr tb 0])/\O'.hp bx=some (.cells [.str x1,.str x2])) (hc) (fun X=>⟨(ρ _ _ (fun e=>by rw[e,hc]at ha;cases ha)).trans ha,(ρ _ _ (fun e=>by rw[e,hc]at hx;cases hx)).trans hx⟩) ?_;intro X;refine ζ (m:=.ptr tb 0) 0 ?_ ?_
 ·rintro O2 ⟨j0,j1,j2⟩;exact dW @aR @j1
 simp only[ak];refine ae.au 1 ?_;refine ab @aR ?_;refine ae.au 2 ?_;refine ab @aR ?_;refine ε (m:=.sl S.1.length (S.1.flatMap m6) t1) 3 (fun _ h=>h.1) (fun _ h=>h) ?_ ?_
 ·exact fU @aR
 simp only[ak];refine ae.au 4 ?_;refine ab @aR ?_;refine ae.au 5 ?_;refine ab @aR ?_;refine ae.au 6 ?_;refine ab @aR ?_;refine ζ (m:=.agg [.str k1,.str k2,.str k3,.str k4]) 7 ?_ ?_
 ·rintro O2 ⟨j0,j1,j2⟩;exact dW @aR @bE
 simp only[ak];refine ζ (m:=.agg [.str x1,.str x2]) 9 ?_ ?_
 ·rintro O2 ⟨j0,j1,j2⟩;exact dW @aR @j2
 simp only[ak];have Vl:ba≠tb:=fun e=>by rw[e,hc]at ha;cases ha
 have Vm:bx≠tb:=fun e=>by rw[e,hc]at hx;cases hx
 have amX:=h.lt.1;have hO1:(O.set tb (.obj X)).N=O.N:=rfl;have cB:(O.set tb (.obj X)).hp tb=some (.obj X)/\(O.set tb (.obj X)).hp ba=some (.cells [.ptr tb 0])/\(O.set tb (.obj X)).hp bx=some (.cells [.str x1,.str x2]):=⟨τ _ _ _,(ρ _ _ Vl).trans ha,(ρ _ _ Vm).trans hx⟩;have mH:∀i,i≠tb->(O.set tb (.obj X)).hp i=O.hp i:=fun i hi=>ρ _ _ hi
 generalize O.set tb (.obj X)=O1 at*;refine ae.call (i:=8) (GK O1) ?_;rintro _ O2 ⟨rfl,aC⟩;simp only[ak];refine⟨⟨aC.at cB.1,aC.at cB.2.1,aC.at cB.2.2⟩,?_⟩;refine ae.kf [(10,.au),(11,.au)] ?_;refine ab @aR ?_;refine VL.Ft aa (bb:=(k1==x1)&&((k2==x2)&&true)) (b:=(k1==x1)&&((k2==x2)&&true)) (by simp) (by simp) (.inl ⟨rfl,rfl⟩) (by kernel_rfl) (by kernel_rfl) rfl rfl rfl rfl ?_;refine ab @aR ?_;refine ν @aR ?_;refine⟨?_,⟨by show _<=O2.N;have:=aC.N;omega,fun i hi=>?_⟩⟩
 ·congr 2
  rw[anu];simp[kV]
 ·by_cases e:i=tb
  ·subst e;rw[τ];exact hc.symm
  ·rw[ρ _ _ e,aC.hp i (by omega),mH i e]
theorem Qa {O:VH} {tb k bb mm:Nat} {g:Gv} {S:ru} {t1 t2:Tok} {B:Nat} (h:tu O tb k bb mm g S t1 t2 B) {id:FuncId} {cs:List MV} (p:Nat->Bool) (hid:df Tryz.prog id=true) (hc:∀j,j<S.1.length->∀O',O.Ge O'->VF Tryz.prog id ([mi j]++cs) O' (aE fun m mD=>m=mb (p j)/\O'.Ge mD)) {i:Nat} (hi:i<S.1.length):
  VF Tryz.prog 108 [.ptr tb 0,mi i,.func (.func id) [] cs] O (aE fun m O'=>m=mb (w9 S.1 p (i+1) i)/\O.Ge O'):=by
 have lZ:=h.up;have Y9:=fun(O':VH) (u:O.Ge O')=>h.ge u
 have Vp:=aX mS S.1;generalize hZ:w9 S.1 p (i+1) i=Z;refine Θ 20 [.tmp 6] Tryz.func108 ?_;refine ab @aR ?_;refine WC.jh [1] [0,2] (fun x:Int×Nat=>[mi x.1]) (fun x O'=>O.Ge O'/\ -1<=x.1/\x.1<S.1.length/\x.1<x.2/\Z=w9 S.1 p x.2 x.1) (fun x=>(x.1+1).toNat) (((i:Int),i+1)) ?_ ?_
 ·exact⟨VH.Ge.refl _,by dsimp only;omega,by dsimp only;omega,by dsimp only;omega,hZ.symm⟩
 rintro⟨j,f⟩ O2 ⟨aC,h1,h2,h3,dh⟩;dsimp only at h1 h2 h3 dh ⊢;by_cases hj:j>=0;rotate_left
 ·have hd:decide (j>=0)=false:=decide_eq_false hj;have jS:decide (0<=j)=false:=decide_eq_false hj
  have hf:w9 S.1 p f j=false:=by
   cases f
   ·rfl
   ·unfold w9;rw[if_pos (by omega)]
  rw[dh,hf];refine aH @aR @hd @jS ?_;exact aC
 have hd:decide (j>=0)=true:=decide_eq_true hj;have jS:decide (0<=j)=true:=decide_eq_true hj;obtain⟨m,rfl⟩:∃m:Nat,j=m:=⟨j.toNat,by omega⟩
 obtain⟨f,rfl⟩:∃f',f=f'+1:=⟨f - 1,by omega⟩
 have hm:m<S.1.length:=by omega
 have hb:S.1[m]?=some S.1[m]:=aee hm;have hu:=lZ m _ hb;have bE:(S.1.flatMap m6)[m*13]?=some (mi S.1[m].up):=by simpa using kh (sp:=[]) mS hb (i:=0) rfl
 have Ie:=hc m hm O2 aC;rw[w9,if_neg (by omega),anv,hb]at dh;dsimp only at dh;generalize S.1[m].up=u at*;simp only[aq]at bE Ie;refine aH @aR @hd @jS ?_;refine π Ie ?_ (hb:=hid);rintro _ O3 ⟨rfl,aG⟩;have fA:=(Y9 O3 (aC.trans aG)).cell;simp only[bZ,zW,Ml]at fA;cases hp:p m
 ·rw[hp,Bool.false_or]at dh;refine aH @aR @fA @bE ?_;exact az.N (u,f) ⟨aC.trans aG,hu.1,by dsimp only;omega,by dsimp only;omega,dh⟩
 ·rw[hp,Bool.true_or]at dh;rw[dh];refine ab @aR ?_;exact aC.trans aG
abbrev m7:List MV:=[.v (.int .i64 0),.v (.int .i64 0),.v (.int .i64 0),.str [],.str [],.str [],.str [],.str [],.v (.bool false),.str [],.sl 0 [] .nil,.v (.int .i64 0),.v (.bool false)]
def adr (g:Gv):Prb:=⟨2,g,0,0,0,[116,114,101,101]⟩
set_option maxHeartbeats 4000000 in
theorem af9 {O:VH} {tb k bb mm:Nat} {g:Gv} {S:ru} {t1 t2:Tok} {B:Nat} (h:tu O tb k bb mm g S t1 t2 B) (hB:B<=O.N) {i:Nat} {b:Br} (hb:S.1[i]?=some b) (od:Nat) (n:pR) (hn:G7 n) (hX:∀y∈S.2,y.length<=1000000) (hl:S.1.length<=4096):
  VF Tryz.prog 94 [.ptr tb 0,mi i,mi od,.agg (ez n)] O (aE fun m O'=>match z8 S i b od n with
   | none=>m= .agg (nI (adr g))/\O.Ge O'
   | some S'=>m= .agg (nI il)/\∃t1' t2',tu O' tb k bb mm g S' t1' t2' B/\O.N<=O'.N/\∀j,j<O.N->j≠tb->Tok.id t1≠some j->Tok.id t2≠some j->O'.hp j=O.hp j):=by
 have adq:=(VI.1 hb).1;have hlen:=h.len;have ei:=h.lt;have hsc:=fun(O':VH) (u:O.Ge O')=>Y8 (h.ge u) hb n hn
 have Co:=fun(O':VH) (u:O.Ge O')=>Y_ (h.ge u) i n hn
 have GK:=fun O'=>adp n.k O'
 have hex:=fun(O':VH) (u:O.Ge O') (ba bx:Nat) (ha:O'.hp ba=some (.cells [.ptr tb 0])) (hx:O'.hp bx=some (.cells (cj (kV n.k)))) (kK:ba<O'.N) (DW:bx<O'.N)=>
  Qa (h.ge u) (id:=109) (cs:=[.ptr ba 0,.ptr bx 0]) (fun j=>(S.2.getD j []).any (Dj · (kV n.k))) (by kernel_rfl) (fun j hj O2 u2=>ai_ (h.ge (u.trans u2)) ((u2.hp _ kK).trans ha) ((u2.hp _ DW).trans hx) (agu kK u2.N) (agu DW u2.N) (by rw[<-hlen];exact hj) hX) adq
 have Tm:=fun(O':VH) (u:O.Ge O') (ba bx:Nat) (ha:O'.hp ba=some (.cells [.ptr tb 0])) (hx:O'.hp bx=some (.cells (cj (kV n.k)))) (kK:ba<O'.N) (DW:bx<O'.N)=>
  Qa (h.ge u) (id:=117) (cs:=[.ptr ba 0,.ptr bx 0]) (fun j=>match S.1[j]? with
   | none=>false
   | some b=>kV b.k==kV n.k) (by kernel_rfl) (fun j hj O2 u2=>by
     have:=aja (h.ge (u.trans u2)) ((u2.hp _ kK).trans ha) ((u2.hp _ DW).trans hx) (agu kK u2.N) (agu DW u2.N) (aee hj);rw[aee hj];exact this) adq
 have k8:=h.cell;have It:=h.map;have cz:=h.a1;have eA:=h.a2;have hne:=h.ne;have lZ:=h.up;have yj:(S.1.flatMap m6)[i*13+1]?=some (mi b.dp):=by simpa using kh (sp:=[]) mS hb (i:=1) rfl
 have Vp:=aX mS S.1;have sq:=aX P9 S.2;have u_:=ado S.1;have sG:=P_ S.2;have hE:z8 S i b od n=if rW i b n=0\/LZ S i (kV n.k)=true then some S else if 4096<=S.1.length then none else some (S.1++[⟨i,b.dp+1,od,n.k,n.v,rW i b n,BO S i (kV n.k)⟩],S.2++[n.x]):=rfl
 rw[hE];clear hE;have ahJ:LZ S i (kV n.k)=w9 S.1 (fun j=>(S.2.getD j []).any (Dj · (kV n.k))) (i+1) i:=rfl
 have ahK:BO S i (kV n.k)=w9 S.1 (fun j=>match S.1[j]? with
   | none=>false
   | some b=>kV b.k==kV n.k) (i+1) i:=rfl
 rw[<-ahJ]at hex;rw[<-ahK]at Tm;clear ahJ ahK;have Bp:=lZ i b hb
 have JT:Ups (S.1++[⟨i,b.dp+1,od,n.k,n.v,rW i b n,BO S i (kV n.k)⟩]):=by
  intro j c hj;rw[List.getElem?_append]at hj;split at hj
  ·exact lZ j c hj
  ·rename_i alN;have:=List.mem_of_getElem? hj;rw[ahX]at this;subst this;dsimp only;omega
 have hn0:=hn;generalize rW i b n=sc at*;generalize LZ S i (kV n.k)=ex at*;generalize BO S i (kV n.k)=rd at*;obtain⟨⟨k1,k2,k3,k4⟩,v,s,o,x⟩:=n;obtain⟨g1,g2,g3⟩:=g;dsimp only at JT ⊢;have hux:c8 [MV.sl x.length (x.flatMap cj) .ar]=[MV.sl x.length (x.flatMap cj) .ar]:=by simpa[Ac]using P_ [x]
 simp only[ez,gV,wX,bZ,cj,kV,aq,bu,zW,Ml,Mm,aeb]at hsc Co GK hex Tm k8 yj ⊢;refine χ 126 [.cell 8 110] Tryz.func94 ?_;refine κ @aR ?_;refine VC.gen ?_;intro O1 e1;obtain⟨aJ,cW,hA1,oq,hC1⟩:=lu _ _ _ e1;clear e1;refine ξ @aR @oq ?_;refine π (GK O1) ?_;rintro _ O2 ⟨rfl,aC⟩;have fC:=aJ.trans aC;have eJ:=aC.N;refine ab @aR ?_;refine VC.al ?_;rintro O3 ⟨aG,Ye,gE⟩;have eu:=fC.trans aG;have Za:=(aC.trans aG).at hA1;have hB3:=(aC.trans aG).at oq;have hC3:=(aC.trans aG).at hC1;refine θ (aH @aR @Za @hB3 ?_);refine π (hsc O3 eu) ?_;rintro _ O4 ⟨rfl,aY⟩;have gZ:=eu.trans aY;have h_:=aY.N;have hA4:=aY.at Za;have hB4:=aY.at hB3;have Yi:=aY.at hC3;have qY:=aY.at Ye;refine ab @aR ?_;refine ξ @aR @hA4 ?_;refine π (hex O4 gZ O.N O2.N hA4 qY (by omega) (by omega)) ?_;rintro _ O5 ⟨rfl,bG⟩;have ov:=gZ.trans bG;have e_:=bG.N;have Zb:=bG.at hA4;have ry:=bG.at hB4;have Zc:=bG.at Yi;have hX5:=bG.at qY;clear aJ aC aG aY bG hA1 Za hA4 oq hB3 hB4 hC1 hC3 Yi Ye qY fC eu gZ;refine ab @aR ?_;have h5:=h.ge ov;have alO:=ov.N;have rX:=h5.cell;simp only[bZ,zW,Ml]at rX
 have CJ:∀X,tu (O5.set (O.N+2) X) tb k bb mm ⟨g1,g2,g3⟩ S t1 t2 B/\O.N<=(O5.set (O.N+2) X).N/\∀j,j<O.N->j≠tb->Tok.id t1≠some j->Tok.id t2≠some j->(O5.set (O.N+2) X).hp j=O.hp j:=fun X=>
  ⟨h.ge (ov.set (by omega) X),alO,fun j h1 _ _ _=>Γ (ov.hp j h1)⟩
 have amY:(.agg [.v (.int .i64 0),.str [],.str [],.str [],.v (.int .i64 0),.v (.int .i64 0),.v (.int .i64 0),.str []]:MV)= .agg (nI il):=rfl;by_cases fj:sc=0
 ·have e1:(sc==0)=true:=by simpa using fj
  rw[if_pos (.inl fj)];refine θ (aH @aR @e1 @Zc ?_);exact⟨rfl,t1,t2,CJ _⟩
 have e1:(sc==0)=false:=by simpa using fj
 cases ex;rotate_left
 ·rw[if_pos (.inr rfl)];refine θ (aH @aR @e1 @Zc ?_);exact⟨rfl,t1,t2,CJ _⟩
 rw[if_neg (by rintro(h | h);exact fj h;cases h)];by_cases iL:4096<=S.1.length
 ·have e2:decide (S.1.length>=(4096:Int))=true:=decide_eq_true (by omega);have e3:decide ((4096:Int)<=S.1.length)=true:=decide_eq_true (by omega);rw[if_pos iL];refine θ (Xz @aR @e1 @e2 @e3 @Zb @rX @Zc ?_);exact⟨rfl,ov.set (by omega) _⟩
 rw[if_neg iL];have e2:decide (S.1.length>=(4096:Int))=false:=decide_eq_false (by omega);have e3:decide ((4096:Int)<=S.1.length)=false:=decide_eq_false (by omega);refine θ (Xz @aR @e1 @e2 @e3 @Zb @rX @Zc ?_);refine Ξ [1,4,7,8,9,12] (fun nb:Nat=>[mi i,.ptr O.N 0,.ptr (O.N+1) 0,.ptr (O.N+2) 0,.ptr O2.N 0,.ptr nb 0]) (fun nb O'=>O5.Ge O'/\O5.N<=nb/\nb<O'.N/\O'.hp nb=some (.cells [.v (.int .i64 i),.v (.int .i64 (b.dp+1)),.v (.int .i64 od),.str k1,.str k2,.str k3,.str k4,.str [],.v (.bool false),.str v,.sl 0 [] .ar,.v (.int .i64 sc),.v (.bool false)])) ?_ ?_
 ·have amZ:tb≠O.N+1:=by omega
  obtain⟨J,hJ⟩:∃J:VH->Prop,∀O',J O' ↔ (O'.hp tb=O5.hp tb/\O'.hp O.N=O5.hp O.N/\O.Ge O'/\O5.N<=O'.N/\∀j,j<O5.N->j≠O.N+1->O'.hp j=O5.hp j):=⟨_,fun _=>Iff.rfl⟩
  refine VC.Bf [20] (O.N+1) (J) (ry) (fun X=>(hJ _).2 ⟨ρ _ _ (by omega),ρ _ _ (by omega),ov.set (by omega) _,aed _,fun j _ h=>ρ _ _ h⟩) ?_;intro X
  have lC:∀A B:VH,A.Ge B->(A.hp (O.N+1)=some (.obj X)/\J A)->(B.hp (O.N+1)=some (.obj X)/\J B):=fun A B g h=>by
   have h2:=(hJ _).1 h.2;exact⟨g.at h.1,(hJ _).2 ⟨g.at h2.1,g.at h2.2.1,h2.2.2.1.trans g,ajx h2.2.2.2.1 g.N,fun j h3 h4=>g.at (h2.2.2.2.2 j h3 h4)⟩⟩
  refine ae.au 0 ?_;refine ab @aR ?_;refine ζ (m:=.ptr tb 0) 1 ?_ ?_
  ·rintro O2 ⟨i0,i1⟩;exact dW @aR (((hJ _).1 i1).2.1.trans Zb)
  simp only[ak];refine ae.au 2 ?_;refine ab @aR ?_;refine ae.au 3 ?_;refine ab @aR ?_;refine ae.au 5 ?_;refine ab @aR ?_;refine ae.au 10 ?_;refine ab @aR ?_;refine ae.au 11 ?_;refine ab @aR ?_;refine ε (m:=.agg [.str k1,.str k2,.str k3,.str k4]) 12 (fun _ h=>h.1) (fun _ h=>h) ?_ ?_
  ·exact fU @aR
  simp only[ak];refine ζ (m:=.ptr tb 0) 13 ?_ ?_
  ·rintro O2 ⟨i0,i1⟩;exact dW @aR (((hJ _).1 i1).2.1.trans Zb)
  simp only[ak];refine ae.au 14 ?_;refine ab @aR ?_;refine ε (m:=.agg [.str k1,.str k2,.str k3,.str k4,.v (.bool false),.str v,.sl 0 [] .ar,.v (.int .i64 s),.v (.bool o),.sl x.length (x.flatMap cj) .ar]) 15 (fun _ h=>h.1) (fun _ h=>h) ?_ ?_
  ·exact fU @aR
  simp only[ak];refine ae.au 17 ?_;refine ab @aR ?_;have Ig:(O5.set (O.N+1) (.obj X)).hp (O.N+1)=some (.obj X)/\J (O5.set (O.N+1) (.obj X)):=⟨τ _ _ _,(hJ _).2 ⟨ρ _ _ (by omega),ρ _ _ (by omega),ov.set (by omega) _,aed _,fun j _ h=>ρ _ _ h⟩⟩;have nO7:(O5.set (O.N+1) (.obj X)).N=O5.N:=rfl;generalize O5.set (O.N+1) (.obj X)=O7 at*;refine ae.acM (i:=4) (j:=16) (k:=19) ?_ ?_ ?_
  ·have jt:=((hJ _).1 Ig.2).1.trans rX;refine aN.o1 ?_;refine ao @aR @jt ?_;refine⟨Ig,?_⟩;refine ae.au 6 ?_;refine ab @aR ?_;refine ae.au 7 ?_;refine ab @aR ?_;refine ζ (m:=.v (.int .i64 b.dp)) 8 ?_ ?_
   ·rintro O2 ⟨i0,i1⟩;exact dW @aR @yj
   simp only[ak];refine ae.au 9 ?_;refine ab @aR ?_;refine η (i:=16) (j:=19) ?_ ?_
   ·refine aN.j8 (Co O7 ((hJ _).1 Ig.2).2.2.1) ?_;rintro _ m9 ⟨rfl,Qb⟩;simp only[ak];have w_:=lC _ _ Qb Ig;have alP:=Qb.N;refine⟨w_,?_⟩;refine ae.au 18 ?_;refine ab @aR ?_;refine ae.op (i:=19) ?_;refine ab @aR ?_;have G8:VH.Ge m9 (VH.push m9 (.cells m7)):=(VH.Ge.refl _).push _;have oQ:=lC _ _ G8 w_;have G9:(VH.push m9 (.cells m7)).hp m9.N=some (.cells m7):=Υ _ _;have ads:(VH.push m9 (.cells m7)).N=m9.N+1:=rfl;refine⟨?_,?_⟩
    ·first | exact oQ | exact⟨w_.1,oQ.2⟩
    generalize VH.push m9 (.cells m7)=xc at*;have lD:=G9;have my:=oQ;have uu:=((hJ _).1 my.2).2.2.2.1;have po:=(ρ (k:=O.N+1) xc (.cells [.str k1,.str k2,.str k3,.str k4,.v (.bool false),.str v,.sl 0 [] .ar,.v (.int .i64 s),.v (.bool o),.sl x.length (x.flatMap cj) .ar]) (show m9.N≠O.N+1 by omega)).trans lD;refine ae.kf [(20,.one)] ?_;simp only[m7]at lD po;refine aH @aR @lD @po ?_;refine aB.mk m9.N ⟨⟨by show O5.N<=xc.N;omega,fun j h1=>?_⟩,by omega,by show m9.N<xc.N;omega,τ _ _ _⟩;rw[ρ _ _ (by omega)];by_cases e:j=O.N+1
    ·subst e;rw[τ];exact ry.symm
    ·rw[ρ _ _ e];exact((hJ _).1 my.2).2.2.2.2 j h1 e
   ·refine aN.o1 ?_;refine ab @aR ?_;have adt:VH.Ge O7 (VH.push O7 (.cells m7)):=(VH.Ge.refl _).push _;have tA:=lC _ _ adt Ig;have Vq:(VH.push O7 (.cells m7)).hp O7.N=some (.cells m7):=Υ _ _;have alQ:(VH.push O7 (.cells m7)).N=O7.N+1:=rfl;refine⟨?_,?_⟩
    ·first | exact tA | exact⟨Ig.1,tA.2⟩
    generalize VH.push O7 (.cells m7)=O7a at*;refine ae.call (i:=16) (Co O7a ((hJ _).1 tA.2).2.2.1) ?_;rintro _ xd ⟨rfl,rz⟩;simp only[ak];have sr:=lC _ _ rz tA;have adu:=rz.N;refine⟨sr,?_⟩;have G_:=rz.at Vq;refine ae.au 18 ?_;refine ab @aR ?_;have lD:=G_;have my:=sr;have uu:=((hJ _).1 my.2).2.2.2.1;have po:=(ρ (k:=O.N+1) xd (.cells [.str k1,.str k2,.str k3,.str k4,.v (.bool false),.str v,.sl 0 [] .ar,.v (.int .i64 s),.v (.bool o),.sl x.length (x.flatMap cj) .ar]) (show O7.N≠O.N+1 by omega)).trans lD;refine ae.kf [(20,.one)] ?_;simp only[m7]at lD po;refine aH @aR @lD @po ?_;refine aB.mk O7.N ⟨⟨by show O5.N<=xd.N;omega,fun j h1=>?_⟩,by omega,by show O7.N<xd.N;omega,τ _ _ _⟩;rw[ρ _ _ (by omega)];by_cases e:j=O.N+1
    ·subst e;rw[τ];exact ry.symm
    ·rw[ρ _ _ e];exact((hJ _).1 my.2).2.2.2.2 j h1 e
  ·refine aN.j8 (Co O7 ((hJ _).1 Ig.2).2.2.1) ?_;rintro _ m9 ⟨rfl,Qb⟩;simp only[ak];have w_:=lC _ _ Qb Ig;have alP:=Qb.N;refine⟨w_,?_⟩;refine η (i:=4) (j:=19) ?_ ?_
   ·have jt:=((hJ _).1 w_.2).1.trans rX;refine aN.o1 ?_;refine ao @aR @jt ?_;refine⟨w_,?_⟩;refine ae.au 6 ?_;refine ab @aR ?_;refine ae.au 7 ?_;refine ab @aR ?_;refine ζ (m:=.v (.int .i64 b.dp)) 8 ?_ ?_
    ·rintro O2 ⟨i0,i1⟩;exact dW @aR @yj
    simp only[ak];refine ae.au 9 ?_;refine ab @aR ?_;refine ae.au 18 ?_;refine ab @aR ?_;refine ae.op (i:=19) ?_;refine ab @aR ?_;have G8:VH.Ge m9 (VH.push m9 (.cells m7)):=(VH.Ge.refl _).push _;have oQ:=lC _ _ G8 w_;have G9:(VH.push m9 (.cells m7)).hp m9.N=some (.cells m7):=Υ _ _;have ads:(VH.push m9 (.cells m7)).N=m9.N+1:=rfl;refine⟨?_,?_⟩
    ·first | exact oQ | exact⟨w_.1,oQ.2⟩
    generalize VH.push m9 (.cells m7)=xc at*;have lD:=G9;have my:=oQ;have uu:=((hJ _).1 my.2).2.2.2.1;have po:=(ρ (k:=O.N+1) xc (.cells [.str k1,.str k2,.str k3,.str k4,.v (.bool false),.str v,.sl 0 [] .ar,.v (.int .i64 s),.v (.bool o),.sl x.length (x.flatMap cj) .ar]) (show m9.N≠O.N+1 by omega)).trans lD;refine ae.kf [(20,.one)] ?_;simp only[m7]at lD po;refine aH @aR @lD @po ?_;refine aB.mk m9.N ⟨⟨by show O5.N<=xc.N;omega,fun j h1=>?_⟩,by omega,by show m9.N<xc.N;omega,τ _ _ _⟩;rw[ρ _ _ (by omega)];by_cases e:j=O.N+1
    ·subst e;rw[τ];exact ry.symm
    ·rw[ρ _ _ e];exact((hJ _).1 my.2).2.2.2.2 j h1 e
   ·refine aN.o1 ?_;refine ab @aR ?_;have G8:VH.Ge m9 (VH.push m9 (.cells m7)):=(VH.Ge.refl _).push _;have oQ:=lC _ _ G8 w_;have G9:(VH.push m9 (.cells m7)).hp m9.N=some (.cells m7):=Υ _ _;have ads:(VH.push m9 (.cells m7)).N=m9.N+1:=rfl;refine⟨?_,?_⟩
    ·first | exact oQ | exact⟨w_.1,oQ.2⟩
    generalize VH.push m9 (.cells m7)=xc at*;have jt:=((hJ _).1 oQ.2).1.trans rX;refine ae.op (i:=4) ?_;refine ao @aR @jt ?_;refine⟨oQ,?_⟩;refine ae.au 6 ?_;refine ab @aR ?_;refine ae.au 7 ?_;refine ab @aR ?_;refine ζ (m:=.v (.int .i64 b.dp)) 8 ?_ ?_
    ·rintro O2 ⟨i0,i1⟩;exact dW @aR @yj
    simp only[ak];refine ae.au 9 ?_;refine ab @aR ?_;refine ae.au 18 ?_;refine ab @aR ?_;have lD:=G9;have my:=oQ;have uu:=((hJ _).1 my.2).2.2.2.1;have po:=(ρ (k:=O.N+1) xc (.cells [.str k1,.str k2,.str k3,.str k4,.v (.bool false),.str v,.sl 0 [] .ar,.v (.int .i64 s),.v (.bool o),.sl x.length (x.flatMap cj) .ar]) (show m9.N≠O.N+1 by omega)).trans lD;refine ae.kf [(20,.one)] ?_;simp only[m7]at lD po;refine aH @aR @lD @po ?_;refine aB.mk m9.N ⟨⟨by show O5.N<=xc.N;omega,fun j h1=>?_⟩,by omega,by show m9.N<xc.N;omega,τ _ _ _⟩;rw[ρ _ _ (by omega)];by_cases e:j=O.N+1
    ·subst e;rw[τ];exact ry.symm
    ·rw[ρ _ _ e];exact((hJ _).1 my.2).2.2.2.2 j h1 e
  ·refine aN.o1 ?_;refine ab @aR ?_;have adt:VH.Ge O7 (VH.push O7 (.cells m7)):=(VH.Ge.refl _).push _;have tA:=lC _ _ adt Ig;have Vq:(VH.push O7 (.cells m7)).hp O7.N=some (.cells m7):=Υ _ _;have alQ:(VH.push O7 (.cells m7)).N=O7.N+1:=rfl;refine⟨?_,?_⟩
   ·first | exact tA | exact⟨Ig.1,tA.2⟩
   generalize VH.push O7 (.cells m7)=O7a at*;refine η (i:=4) (j:=16) ?_ ?_
   ·have jt:=((hJ _).1 tA.2).1.trans rX;refine aN.o1 ?_;refine ao @aR @jt ?_;refine⟨tA,?_⟩;refine ae.au 6 ?_;refine ab @aR ?_;refine ae.au 7 ?_;refine ab @aR ?_;refine ζ (m:=.v (.int .i64 b.dp)) 8 ?_ ?_
    ·rintro O2 ⟨i0,i1⟩;exact dW @aR @yj
    simp only[ak];refine ae.au 9 ?_;refine ab @aR ?_;refine ae.call (i:=16) (Co O7a ((hJ _).1 tA.2).2.2.1) ?_;rintro _ xd ⟨rfl,rz⟩;simp only[ak];have sr:=lC _ _ rz tA;have adu:=rz.N;refine⟨sr,?_⟩;have G_:=rz.at Vq;refine ae.au 18 ?_;refine ab @aR ?_;have lD:=G_;have my:=sr;have uu:=((hJ _).1 my.2).2.2.2.1;have po:=(ρ (k:=O.N+1) xd (.cells [.str k1,.str k2,.str k3,.str k4,.v (.bool false),.str v,.sl 0 [] .ar,.v (.int .i64 s),.v (.bool o),.sl x.length (x.flatMap cj) .ar]) (show O7.N≠O.N+1 by omega)).trans lD;refine ae.kf [(20,.one)] ?_;simp only[m7]at lD po;refine aH @aR @lD @po ?_;refine aB.mk O7.N ⟨⟨by show O5.N<=xd.N;omega,fun j h1=>?_⟩,by omega,by show O7.N<xd.N;omega,τ _ _ _⟩;rw[ρ _ _ (by omega)];by_cases e:j=O.N+1
    ·subst e;rw[τ];exact ry.symm
    ·rw[ρ _ _ e];exact((hJ _).1 my.2).2.2.2.2 j h1 e
   ·refine aN.j8 (Co O7a ((hJ _).1 tA.2).2.2.1) ?_;rintro _ xd ⟨rfl,rz⟩;simp only[ak];have sr:=lC _ _ rz tA;have adu:=rz.N;refine⟨sr,?_⟩;have G_:=rz.at Vq;have jt:=((hJ _).1 sr.2).1.trans rX;refine ae.op (i:=4) ?_;refine ao @aR @jt ?_;refine⟨sr,?_⟩;refine ae.au 6 ?_;refine ab @aR ?_;refine ae.au 7 ?_;refine ab @aR ?_;refine ζ (m:=.v (.int .i64 b.dp)) 8 ?_ ?_
    ·rintro O2 ⟨i0,i1⟩;exact dW @aR @yj
    simp only[ak];refine ae.au 9 ?_;refine ab @aR ?_;refine ae.au 18 ?_;refine ab @aR ?_;have lD:=G_;have my:=sr;have uu:=((hJ _).1 my.2).2.2.2.1;have po:=(ρ (k:=O.N+1) xd (.cells [.str k1,.str k2,.str k3,.str k4,.v (.bool false),.str v,.sl 0 [] .ar,.v (.int .i64 s),.v (.bool o),.sl x.length (x.flatMap cj) .ar]) (show O7.N≠O.N+1 by omega)).trans lD;refine ae.kf [(20,.one)] ?_;simp only[m7]at lD po;refine aH @aR @lD @po ?_;refine aB.mk O7.N ⟨⟨by show O5.N<=xd.N;omega,fun j h1=>?_⟩,by omega,by show O7.N<xd.N;omega,τ _ _ _⟩;rw[ρ _ _ (by omega)];by_cases e:j=O.N+1
    ·subst e;rw[τ];exact ry.symm
    ·rw[ρ _ _ e];exact((hJ _).1 my.2).2.2.2.2 j h1 e
 rintro nb O6 ⟨eZ,am0,am1,ju⟩;have Jv:=ov.trans eZ;have nH:=eZ.N;refine ξ @aR @ju ?_;refine VC.gen ?_;intro O7 e7;have zL:O7.hp nb=some (.cells [.v (.int .i64 i),.v (.int .i64 (b.dp+1)),.v (.int .i64 od),.str k1,.str k2,.str k3,.str k4,.str v,.v (.bool false),.str v,.sl 0 [] .ar,.v (.int .i64 sc),.v (.bool false)]):=by rw[e7];exact τ _ _ _
 have wT:∀j,j≠nb->O7.hp j=O6.hp j:=fun j hj=>by rw[e7];exact ρ _ _ hj
 have vg:O7.N=O6.N:=by rw[e7];rfl
 have Dl:O.Ge O7:=by rw[e7];exact Jv.set (by omega) _
 clear e7;have hA7:=(wT _ (by omega)).trans (eZ.at Zb);have hB7:=(wT _ (by omega)).trans (eZ.at ry);have hC7:=(wT _ (by omega)).trans (eZ.at Zc);have hX7:=(wT _ (by omega)).trans (eZ.at hX5);refine ξ @aR @zL ?_;refine ξ @aR @hA7 ?_;refine π (Tm O7 Dl O.N O2.N hA7 hX7 (by omega) (by omega)) ?_;rintro _ O8 ⟨rfl,gQ⟩;have DY:=gQ.N;have uf:=gQ.at zL;refine ao @aR @uf ?_;refine VC.gen ?_;intro O9 e9;have bO:O9.hp nb=some (.cells [.v (.int .i64 i),.v (.int .i64 (b.dp+1)),.v (.int .i64 od),.str k1,.str k2,.str k3,.str k4,.str v,.v (.bool false),.str v,.sl 0 [] .ar,.v (.int .i64 sc),.v (.bool rd)]):=by rw[e9];exact τ _ _ _
 have CF:∀j,j≠nb->O9.hp j=O8.hp j:=fun j hj=>by rw[e9];exact ρ _ _ hj
 have zT:O9.N=O8.N:=by rw[e9];rfl
 have sX:O.Ge O9:=by rw[e9];exact(Dl.trans gQ).set (by omega) _
 clear e9;have hA9:=(CF _ (by omega)).trans (gQ.at hA7);have hB9:=(CF _ (by omega)).trans (gQ.at hB7);have hC9:=(CF _ (by omega)).trans (gQ.at hC7);clear Zb hA7 ry hB7 Zc hC7 hX5 hX7 ju zL uf wT CF Dl Jv eZ gQ Tm hex hsc Co GK;have h9:=h.ge sX;have EB:=h9.cell;simp only[bZ,zW,Ml]at EB;have cy:=aT (tk:=t1) (tk':=.full) (n:=S.1.length) (k:=1) (cs:=S.1.flatMap m6) (ds:=[.v (.int .i64 i),.v (.int .i64 (b.dp+1)),.v (.int .i64 od),.str k1,.str k2,.str k3,.str k4,.str v,.v (.bool false),.str v,.sl 0 [] .ar,.v (.int .i64 sc),.v (.bool rd)]) FJ XD.1.1 h9.a1 Vp rfl rfl (by decide) (by decide) (by omega) (by simp only[maxLen];omega);have ly:∀j,j<O9.N->O9.hp j≠some .tok->(O9.after t1).hp j=O9.hp j:=fun j h1 h2=>App.off h9.a1 h1 h2
 have Lw:=(ly tb (by omega) (by rw[EB];simp)).trans EB;refine ω ?_;refine WC.bQ (.held [10]) [(0,.rd),(1,.rd),(2,.rd),(3,.rd),(4,.rd),(5,.rd),(6,.one),(7,.one),(8,.one),(9,.rd),(10,.one)] ?_;refine cJ @aR @hA9 @EB @bO ?_;refine VL.app cy ?_;refine ao @aR @Lw ?_
 have hN:(S.1.flatMap m6++[.v (.int .i64 i),.v (.int .i64 (b.dp+1)),.v (.int .i64 od),.str k1,.str k2,.str k3,.str k4,.str v,.v (.bool false),.str v,.sl 0 [] .ar,.v (.int .i64 sc),.v (.bool rd)]:List MV)=(S.1++[(⟨i,b.dp+1,od,⟨k1,k2,k3,k4⟩,v,sc,rd⟩:Br)]).flatMap m6:=by
  rw[List.flatMap_append,ann];rfl
 have hNl:S.1.length+1=(S.1++[(⟨i,b.dp+1,od,⟨k1,k2,k3,k4⟩,v,sc,rd⟩:Br)]).length:=by simp
 rw[hN];have Lx:=cc.after h9.a1;have GJ:(O9.after t1).N=O9.N+1:=VH.dY _ _;have hAp:App (O9.after t1) B 13 (.own O9.N 13):=App.after (by have:=sX.N;omega);have alR:App (O9.after t1) B 1 t2:=Lx.app h9.a2 hne;refine VC.gen ?_;intro gy sN;have Jb:gy.N=O9.N+1:=by rw[sN];exact GJ
 have Ha:gy.hp tb=some (.cells [.ptr k 0,.ptr bb 0,.str g1,.str g2,.str g3,.map mm,.sl (S.1.length+1) ((S.1++[(⟨i,b.dp+1,od,⟨k1,k2,k3,k4⟩,v,sc,rd⟩:Br)]).flatMap m6) (.own O9.N 13),.sl S.2.length (S.2.flatMap Ac) t2]):=by rw[sN];exact τ _ _ _
 have BF:∀j,j≠tb->gy.hp j=(O9.after t1).hp j:=fun j hj=>by rw[sN];exact ρ _ _ hj
 have ajb:App gy B 13 (.own O9.N 13):=by rw[sN];exact hAp.o8 (by rw[Lw];simp)
 have Tn:App gy B 1 t2:=by rw[sN];exact alR.o8 (by rw[Lw];simp)
 clear sN;have alS:=(BF _ (by omega)).trans ((ly _ (by omega) (by rw[hA9];simp)).trans hA9);have alT:=(BF _ (by omega)).trans ((ly _ (by omega) (by rw[hB9];simp)).trans hB9);have Qc:=(BF _ (by omega)).trans ((ly _ (by omega) (by rw[hC9];simp)).trans hC9);have U8:=aT (tk:=t2) (tk':=.full) (n:=S.2.length) (k:=1) (cs:=S.2.flatMap Ac) (ds:=[.sl x.length (x.flatMap cj) .ar]) agL FK Tn sq rfl rfl (by decide) (by decide) (by omega) (by simp only[maxLen];omega);have adv:∀j,j<gy.N->gy.hp j≠some .tok->(gy.after t2).hp j=gy.hp j:=fun j h1 h2=>App.off Tn h1 h2
 have hcB:=(adv tb (by omega) (by rw[Ha];simp)).trans Ha;refine ω ?_;refine WC.bQ (.held [11]) [(0,.rd),(1,.rd),(2,.rd),(3,.rd),(4,.rd),(5,.rd),(6,.rd),(7,.one),(8,.one),(9,.one),(10,.rd),(11,.one)] ?_;refine cJ @aR @alS @Ha @alT ?_;refine VL.app U8 ?_;refine ao @aR @hcB ?_
 have hX:(S.2.flatMap Ac++[.sl x.length (x.flatMap cj) .ar]:List MV)=(S.2++[x]).flatMap Ac:=by
  rw[List.flatMap_append,ann];rfl
 rw[hX];have hKB:=cc.after Tn;have hnB:(gy.after t2).N=gy.N+1:=VH.dY _ _;have hBp:App (gy.after t2) B 1 (.own gy.N 1):=App.after (by have:=sX.N;omega)
 have alU:App (gy.after t2) B 13 (.own O9.N 13):=hKB.app ajb (fun j h1 h2=>by
  injection h2 with h2;subst h2;have:=(App.nE h9.a2 h1).2;omega)
 refine VC.gen ?_;intro vu Zd;have agS:vu.N=gy.N+1:=by rw[Zd];exact hnB
 have adw:vu.hp tb=some (.cells [.ptr k 0,.ptr bb 0,.str g1,.str g2,.str g3,.map mm,.sl (S.1.length+1) ((S.1++[(⟨i,b.dp+1,od,⟨k1,k2,k3,k4⟩,v,sc,rd⟩:Br)]).flatMap m6) (.own O9.N 13),.sl (S.2.length+1) ((S.2++[x]).flatMap Ac) (.own gy.N 1)]):=by rw[Zd];exact τ _ _ _
 have ahL:∀j,j≠tb->vu.hp j=(gy.after t2).hp j:=fun j hj=>by rw[Zd];exact ρ _ _ hj
 have ajc:App vu B 13 (.own O9.N 13):=by rw[Zd];exact alU.o8 (by rw[hcB];simp)
 have ajd:App vu B 1 (.own gy.N 1):=by rw[Zd];exact hBp.o8 (by rw[hcB];simp)
 clear Zd;have adx:=(ahL _ (by omega)).trans ((adv _ (by omega) (by rw[Qc];simp)).trans Qc);refine ξ @aR @adx ?_;refine ν @aR ?_
 have aV:∀j,j<O.N->j≠tb->Tok.id t1≠some j->Tok.id t2≠some j->vu.hp j=O.hp j:=fun j h1 h2 h3 h4=>by
  rw[ahL j h2,hKB.hp j (by have:=sX.N;omega) h4,BF j h2,Lx.hp j (by have:=sX.N;omega) h3,sX.hp j h1]
 have hmm:mm≠tb:=fun e=>by have:=h.map;rw[e,k8]at this;cases this
 have Vn:vu.hp mm=some (.map (cS []) 0):=(aV mm ei.2 hmm (fun e=>by have:=App.tok cz e;rw[It]at this;cases this) (fun e=>by have:=App.tok eA e;rw[It]at this;cases this)).trans It;have hng:=sX.N;refine⟨rfl,.own O9.N 13,.own gy.N 1,⟨?_,Γ Vn,ajc.o8 (by rw[adx];simp),ajd.o8 (by rw[adx];simp),?_,?_,?_,JT⟩,?_,?_⟩
 ·rw[ρ _ _ (by omega),adw];simp[bZ]
 ·intro j h1 h2;injection h1 with h1;injection h2 with h2;omega
 ·show tb<vu.N/\mm<vu.N;omega
 ·simp[hlen]
 ·show O.N<=vu.N;omega
 ·intro j h1 h2 h3 h4;rw[ρ _ _ (by omega)];exact aV j h1 h2 h3 h4
structure vw (s:Bs):Prop where
 id:fy s=true
 pl:∀c∈s,jY c=true/\c≠36
theorem nmi {s:Bs} (h:s.all mz=true) (h2:1<=s.length/\s.length<=64) (h3:∀c∈s,c≠36):vw s:=by
 refine⟨by unfold fy;rw[h,decide_eq_true h2.1,decide_eq_true h2.2];rfl,fun c hc=>⟨?_,h3 c hc⟩⟩;have:=anA.1 h c hc;unfold mz at this;exact(ana.1 this).1
theorem vw.vl {s:Bs} (h:vw s):l0 s:=by
 have h1:=h.id;unfold fy at h1;simp only[ans,decide_eq_true_eq]at h1;exact⟨fun e=>by rw[e]at h1;simp at h1,fun c hc=>by unfold Ti;rw[(h.pl c hc).1];rfl⟩
theorem vw.len {s:Bs} (h:vw s):s.length<=64:=by
 have h1:=h.id;unfold fy at h1;simp only[ans,decide_eq_true_eq]at h1;exact h1.2
theorem tB {s:Bs} (h:∀c∈s,c≠36):sm s:=by
 unfold sm;induction s with
 | nil=>decide
 | cons b l ih=>
   have hb:=h b (aec ..);have ih:=ih fun c hc=>h c (ahW _ hc)
   have iS:=Lib.index_ge l [36,123]
   have hp:([36,123]:Bs).isPrefixOf (b::l)=false:=by
    rw[List.isPrefixOf,show((36:UInt8)==b)=false from beq_eq_false_iff_ne.2 (Ne.symm hb),anh]
   unfold Lib.index;rw[hp,if_neg (by decide)];rw[show Lib.index l [36,123]= -1 by omega];decide
theorem vw.plain {s:Bs} (h:vw s):iq s:=⟨tB fun c hc=>(h.pl c hc).2,ajx h.len (by decide)⟩
theorem CK:vw gS:=nmi (by decide) (by decide) (by decide)
def Eg (v:Bs):Prop:=v=v1\/v=[50]
theorem Eg.one:Eg v1:=.inl rfl
theorem Eg.vl {v:Bs} (h:Eg v):l0 v:=by rcases h with rfl | rfl<;>exact⟨by decide,by decide⟩
theorem Eg.plain {v:Bs} (h:Eg v):iq v:=by rcases h with rfl | rfl<;>exact⟨tB (by decide),by decide⟩
theorem Eg.parse {v:Bs} (h:Eg v):rT v=((false,v,[]),0):=by
 rcases h with rfl | rfl
 ·kernel_rfl
 ·kernel_rfl
theorem Eg.len {v:Bs} (h:Eg v):v.length=1:=by rcases h with rfl | rfl<;>rfl
structure To (d:Dp):Prop where
 g:d.g=gS
 a:vw d.a
 v:Eg d.v
 t:d.t=[]
 c:d.c=[]
 s:d.s=0\/d.s=1\/d.s=2\/d.s=3\/d.s=4\/d.s=5
 o:d.o=0\/d.o=1
 x:∀i∈d.x,(i.g=[42]\/vw i.g)/\vw i.a
 xl:d.x.length<=1
theorem Hb {s:Bs} (h:s=[42]\/vw s):l0 s/\s.length<=64/\iG s=true:=by
 rcases h with rfl | h
 ·exact⟨⟨by decide,by decide⟩,by decide,by decide⟩
 ·refine⟨h.vl,h.len,?_⟩;unfold iG AY xJ;rw[h.id];simp
theorem To.w {d:Dp} (h:To d):LW d:=by
 have hg:=h.g;have hv:=h.v;refine⟨by rw[hg];exact CK.vl,h.a.vl,hv.vl,by rw[hg];decide,ajx h.a.len (by decide),by rw[hv.len];decide,h.t,h.c,h.s,h.o,fun i hi=>?_,by have:=h.xl;omega⟩;obtain⟨h1,h2⟩:=h.x i hi;obtain⟨a1,a2,a3⟩:=Hb h1;obtain⟨b1,b2,b3⟩:=Hb (.inr h2);exact⟨⟨a1,by omega,a3⟩,b1,by omega,b3⟩
theorem To.q {d:Dp} (h:To d):SN d:=by
 have hg:=h.g;have hv:=h.v;refine⟨by rw[hg];exact CK.plain,by rw[hg];exact CK.id,h.a.plain,h.a.id,hv.plain,(fun e=>by have:=hv.len;rw[e]at this;cases this),hv.parse,by rw[h.t];exact⟨tB (by simp),by decide⟩,.inr h.t,by rw[h.c];exact⟨tB (by simp),by decide⟩,.inr h.c,by have:=h.xl;omega⟩
structure Calm (g:Gv) (D:List Dp):Prop where
 hg:g.g=gS
 ha:vw g.a
 hv:Eg g.v
 d:∀d∈D,To d
 ne:D.Pairwise fun x y=>x.a≠y.a
 n:D.length<=40
section
variable {g:Gv} {D:List Dp}
theorem Calm.w (h:Calm g D):Y3 (dP g D):=
 ⟨by show l0 g.g;rw[h.hg];exact CK.vl,h.ha.vl,h.hv.vl,by show g.g.length<=_;rw[h.hg];decide,ajx h.ha.len (by decide),by show g.v.length<=_;rw[h.hv.len];decide,fun d hd=>(h.d d hd).w,ajx h.n (by decide)⟩
theorem Calm.short (h:Calm g D):adn g D:=
 ⟨⟨by rw[h.hg];decide,h.ha.len,by rw[h.hv.len];decide⟩,fun d hd=>by
   have hd:=h.d d hd;refine⟨by rw[hd.g];decide,hd.a.len,by rw[hd.v.len];decide,hd.xl,fun i hi=>⟨(Hb (hd.x i hi).1).2.1,(hd.x i hi).2.len⟩⟩,h.n⟩
theorem Calm.build (h:Calm g D):iK (cH (fW (dP g D)))= .ok (fW (dP g D)):=Y5 h.w (fun d hd=>(h.d d hd).xl) h.n
theorem Calm.read (h:Calm g D):pL (fW (dP g D))= .ok (dP g D):=Y4 h.w
theorem Calm.text (h:Calm g D):(cH (fW (dP g D))).length<=65536:=Y7 h.w h.short
theorem Calm.gav (h:Calm g D):uy g:=by
 obtain⟨h1,h2,h3⟩:=h.short.g;have:(64:Nat)<=maxLen:=by decide
 exact⟨by omega,by omega,by omega⟩
theorem Calm.may (h:Calm g D):AX g=true:=by
 unfold AX;rw[h.hg,CK.id,h.ha.id];simp only[Bool.and_self,anr];rcases h.hv with e | e<;>rw[e]<;>decide
theorem Calm.q (h:Calm g D):PmQ (dP g D) g:=by
 have hs:=h.short.g;refine⟨⟨⟨by show(0:Nat)<=_;omega,by show(0:Nat)<=_;omega,by show D.length<=_;have:=h.n;omega,by simp[dP],fun d hd=>by have:=(h.d d hd).xl;omega⟩,rfl,by simp[dP],fun d hd=>?_,by simp[dP]⟩,rfl,rfl,rfl,?_,h.ha.plain,?_,⟨tB (by simp[dP]),by show(0:Nat)<=_;omega⟩,by show fy (Ee [])=true;decide,rfl,rfl,fun d hd=>(h.d d hd).q,by show D.length<=_;have:=h.n;omega,?_⟩
 ·have hd:=h.d d hd;have:=hd.a.len;refine⟨by rw[hd.g];decide,by omega,by rw[hd.v.len];decide,by rw[hd.t];decide,by rw[hd.c];decide,by have:=hd.xl;omega⟩
 ·show iq g.g;rw[h.hg];exact CK.plain
 ·exact h.hv.plain
 ·refine h.ne.imp fun{x y} hxy e=>hxy ?_
  have:=congrArg Ky.a e;exact this
end
set_option linter.defProp false in
def yW:=Mn aQ<|Mn NO FP
theorem Ze {O:VH} {bb md k:Nat} {MD:fI} {cm:Nat} (hB:SX O bb md k MD cm) {g:Gv} (hg:uy g) {M:Mdl} (Qd:iD (fc g) MD=some (.agg (mr M))):
  VF Tryz.prog 105 [.ptr bb 0,.agg (bZ g),.sl 0 [] .nil] O (aE fun m O'=>m= .agg (mr M)/\O.Ge O'):=by
 have ox:=wP hg;have hBc:=fun(O':VH) (g':O.Ge O')=>(hB.ge g')
 obtain⟨g1,g2,g3⟩:=g;obtain⟨⟨m1,m2,m3⟩,pk,P,L⟩:=M;simp only[mr,bZ,zW,Ml]at Qd ⊢;refine χ 120 [.cell 6 215] Tryz.func105 ?_;refine κ @aQ ?_;refine VC.gen ?_;intro O1 e1;obtain⟨aJ,cW,cz,cE⟩:=ib _ _ e1;clear e1;have oq:=hBc O1 aJ;have hlB:=hB.lt;have fY:∀M:List MV,O1.Ge ((O1.push (.cells nB)).set O1.N (.cells M))/\((O1.push (.cells nB)).set O1.N (.cells M)).hp O1.N=some (.cells M)/\((O1.push (.cells nB)).set O1.N (.cells M)).hp (O.N+1)=some (.cells [.str [],.str [],.str [],.str [],.sl 0 [] .nil,.sl 0 [] .nil,.sl 0 [] .nil]):=fun M=>⟨(((VH.Ge.refl O1).push _)).set (aed _) _,τ _ _ _,Γ ((Ω _ _ (by omega)).trans cE)⟩
 ·refine ω (ω ?_);refine VC.qR [11] (fun O'=>O'.hp bb=some (.cells [.ptr k 0,.map md])/\O'.hp O.N=some (.cells [.str g1,.str g2,.str g3])/\O1.Ge O') (⟨oq.cell,cz,VH.Ge.refl _⟩) ?_;refine ae.au 0 ?_;refine ab @aQ ?_;refine ae.au 1 ?_;refine ab @aQ ?_;refine ae.au 2 ?_;refine ab @aQ ?_;refine ζ (m:=.map md) 3 ?_ ?_
  ·rintro O2 ⟨j0,j1,j2⟩;exact dW @aQ @j0
  simp only[ak];refine ζ (m:=.agg [.str g1,.str g2,.str g3]) 4 ?_ ?_
  ·rintro O2 ⟨j0,j1,j2⟩;exact dW @aQ @j1
  simp only[ak];have lC:∀A B:VH,A.Ge B->(A.hp bb=some (.cells [.ptr k 0,.map md])/\A.hp O.N=some (.cells [.str g1,.str g2,.str g3])/\O1.Ge A)->(B.hp bb=some (.cells [.ptr k 0,.map md])/\B.hp O.N=some (.cells [.str g1,.str g2,.str g3])/\O1.Ge B):=fun A B g h=>⟨(g.hp _ (by have:=h.2.2.N;have:=oq.lt;omega)).trans h.1,(g.hp _ (by have:=h.2.2.N;omega)).trans h.2.1,h.2.2.trans g⟩
  have rb:O1.hp bb=some (.cells [.ptr k 0,.map md])/\O1.hp O.N=some (.cells [.str g1,.str g2,.str g3])/\O1.Ge O1:=⟨oq.cell,cz,VH.Ge.refl _⟩;have vf:∀A:VH,A.Ge (A.push (.cells nB)):=fun A=>(VH.Ge.refl A).push _
  have hJs:∀X,((O1.push (.cells nB)).set O1.N X).hp bb=some (.cells [.ptr k 0,.map md])/\((O1.push (.cells nB)).set O1.N X).hp O.N=some (.cells [.str g1,.str g2,.str g3])/\O1.Ge ((O1.push (.cells nB)).set O1.N X):=fun X=>lC O1 _ ((vf O1).set (aed _) _) rb
  refine η (i:=5) (j:=9) ?_ ?_
  ·refine aN.sj (fJ.kI wO aa (l:=fc ⟨g1,g2,g3⟩) (te:=⟨_,7,136,nB⟩) Tryz.underlying172 FP.1.1 rfl rfl oq.map oq.ok rfl rfl ox) ?_;rw[Qd];refine⟨rb,?_⟩;refine ae.au 6 ?_;refine ab @aQ ?_;refine ae.au 7 ?_;refine ab @aQ ?_;refine ae.au 8 ?_;refine ab @aQ ?_;refine ae.op (i:=9) ?_;refine ab @aQ ?_;refine⟨⟨rb.1,rb.2.1,vf _⟩,?_⟩;refine ae.op (i:=10) ?_;refine ab @aQ ?_;refine⟨⟨rb.1,rb.2.1,(hJs _).2.2⟩,?_⟩;refine ae.bQ [(11,.one)] ?_;refine ab @aQ ?_;obtain⟨c1,c2,c3⟩:=fY [.str m1,.str m2,.str m3,.str pk,.sl P.length (P.flatMap bm) .ar,.sl 0 [] .ar,.sl L.length (L.flatMap ez) .ar];generalize (O1.push (.cells nB)).set O1.N (.cells [.str m1,.str m2,.str m3,.str pk,.sl P.length (P.flatMap bm) .ar,.sl 0 [] .ar,.sl L.length (L.flatMap ez) .ar])=O3 at*;refine ι (aH @aQ @c2 @c3 ?_);exact(aJ.trans c1).set (by omega) _
  ·refine aN.o1 ?_;refine ab @aQ ?_;refine⟨⟨rb.1,rb.2.1,vf _⟩,?_⟩;refine ae.one (i:=5) (aN.sj (fJ.kI wO aa (l:=fc ⟨g1,g2,g3⟩) (te:=⟨_,7,136,nB⟩) Tryz.underlying172 FP.1.1 rfl rfl ((vf _).hp _ oq.lt.2 |>.trans oq.map) oq.ok rfl rfl ox) ?_);rw[Qd];refine⟨lC _ _ (vf _) rb,?_⟩;refine ae.au 6 ?_;refine ab @aQ ?_;refine ae.au 7 ?_;refine ab @aQ ?_;refine ae.au 8 ?_;refine ab @aQ ?_;refine ae.op (i:=10) ?_;refine ab @aQ ?_;refine⟨⟨rb.1,rb.2.1,(hJs _).2.2⟩,?_⟩;refine ae.bQ [(11,.one)] ?_;refine ab @aQ ?_;obtain⟨c1,c2,c3⟩:=fY [.str m1,.str m2,.str m3,.str pk,.sl P.length (P.flatMap bm) .ar,.sl 0 [] .ar,.sl L.length (L.flatMap ez) .ar];generalize (O1.push (.cells nB)).set O1.N (.cells [.str m1,.str m2,.str m3,.str pk,.sl P.length (P.flatMap bm) .ar,.sl 0 [] .ar,.sl L.length (L.flatMap ez) .ar])=O3 at*;refine ι (aH @aQ @c2 @c3 ?_);exact(aJ.trans c1).set (by omega) _
theorem ady {O:VH} {a b:Nat} {K:VH->Prop} (h:K O):gU Tryz.prog 103 [.ptr a 0,.ptr b 0] none O K:=by
 refine gU.rec (d:=5) Tryz.func103 (Nat.lt_of_lt_of_eq (by decide:5<13) rfl) ?_;show WC _ _ ⟨13,0⟩ _ _ _ _ _;simp only[cL,anc,Nat.reduceAdd,AO];refine ao @yW @wi ?_;refine VL.pure (by simp) (fun _=>.inl rfl) rfl rfl (iZ.FD (bb:=true) Tryz.underlying20 rfl (.inl ⟨rfl,rfl⟩)) ?_;refine WL.sound aa ?_;refine ao @yW @wi ?_;exact h
theorem Qe {l:List Bs} {M:fI} {p:List Bs×MV×Nat}:iD l (M++[p])=match iD l M with
  | some x=>some x
  | none=>if p.1=l then some p.2.1 else none:=by
 unfold iD;rw[List.find?_append];cases h:M.find? (·.1==l)with
 | some x=>rfl
 | none=>
   simp only[Option.map_none,Option.none_or,List.find?_cons,List.find?_nil];by_cases e:p.1=l
   ·rw[if_pos e,show(p.1==l)=true by simpa using e];rfl
   ·rw[if_neg e,show(p.1==l)=false by simpa using e];rfl
def Own (k ke kv:Nat) (E V:fI) (j:Nat):Prop:=j=k\/j=ke\/j=kv\/(∃(i c:Nat) (p:List Bs),E[i]?=some (p,MV.ptr j 0,c))\/∃p∈V,∃n cs tk,p.2.1=MV.sl n cs tk/\Tok.id tk=some j
structure CB (O:VH) (U:Nat->Prop) (k bb md:Nat) (S:List (Gv×List Dp)):Prop where
 ex:∃L E V ke kv ce cv r a MD cm,ob O k L E V ke kv ce cv r a/\SX O bb md k MD cm/\L.length=S.length/\(∀(i:Nat) (g:Gv) (D:List Dp),S[i]?=some (g,D)->∃o,L[i]?=some (g,cH (fW (dP g D)),o)/\((o=none/\iD (fc g) MD=none)\/(o=some (dP g D)/\iD (fc g) MD=some (.agg (mr (jd g (dP g D)))))))
  /\(md≠ke/\md≠kv)/\∀j,Own k ke kv E V j->U j
 lt:∀j,U j->j<O.N
 b:U bb/\U md
theorem wU.low {O O':VH} {V:fI} {N:Nat} {U:Nat->Prop} (h:wU O V N) (hb:∀p∈V,∀n cs tk (i:Nat),p.2.1=MV.sl n cs tk->Tok.id tk=some i->U i) (hn:O.N<=O'.N) (hi:∀i,U i->O'.hp i=O.hp i):wU O' V N:=
 ⟨fun p hp=>by
  obtain⟨n,cs,tk,h1,h2,h3,h4,h5⟩:=h.row p hp;exact⟨n,cs,tk,h1,h2,h3,h4.at hn (fun i e=>hi i (hb p hp n cs tk i h1 e)),h5⟩,h.one⟩
theorem ob.mv {O O':VH} {U:Nat->Prop} {k ke kv ce cv:Nat} {L:List (Gv×Bs×Option Pm)} {E V:fI} {r a:Int} (hS:ob O k L E V ke kv ce cv r a) (hU:∀j,Own k ke kv E V j->U j) (hn:O.N<=O'.N) (hi:∀i,U i->O'.hp i=O.hp i):ob O' k L E V ke kv ce cv r a:=by
 have h1:=hU k (.inl rfl);have h2:=hU ke (.inr (.inl rfl));have h3:=hU kv (.inr (.inr (.inl rfl)));have hl:=hS.st.lt;refine⟨⟨(hi _ h1).trans hS.st.cell,(hi _ h2).trans hS.st.Dt,(hi _ h3).trans hS.st.Jp,hS.st.OJ,hS.st.vok,hS.st.ptr,⟨by omega,by omega,by omega⟩,hS.st.ne⟩,hS.len,fun i g t o e=>?_,hS.dis,hS.ver.low (fun p hp n cs tk i e1 e2=>hU i (.inr (.inr (.inr (.inr ⟨p,hp,n,cs,tk,e1,e2⟩))))) hn hi⟩;obtain⟨q,c,k1,k2,k3⟩:=hS.Ll i g t o e;exact⟨q,c,k1,by omega,(hi _ (hU q (.inr (.inr (.inr (.inl ⟨i,c,_,k1⟩)))))).trans k3⟩
theorem CB.mv {O O':VH} {U:Nat->Prop} {k bb md:Nat} {S:List (Gv×List Dp)} (h:CB O U k bb md S) (hn:O.N<=O'.N) (hi:∀i,U i->O'.hp i=O.hp i):CB O' U k bb md S:=by
 obtain⟨⟨L,E,V,ke,kv,ce,cv,r,a,MD,cm,hS,hB,hL,Lo,jP,hU⟩,ei,cE,cK⟩:=h;refine⟨⟨L,E,V,ke,kv,ce,cv,r,a,MD,cm,hS.mv hU hn hi,?_,hL,Lo,jP,hU⟩,fun j hj=>agu (ei j hj) hn,cE,cK⟩;have hl:=hB.lt;exact⟨(hi _ cE).trans hB.cell,(hi _ cK).trans hB.map,hB.ok,by omega,by omega⟩
theorem CB.ge {O O':VH} {U:Nat->Prop} {k bb md:Nat} {S:List (Gv×List Dp)} (h:CB O U k bb md S) (u:O.Ge O'):CB O' U k bb md S:=h.mv u.N fun i hi=>u.hp i (h.lt i hi)
theorem Zf {O:VH} {U:Nat->Prop} {k bb md:Nat} {S:List (Gv×List Dp)} (h:CB O U k bb md S) {i:Nat} {g:Gv} {D:List Dp} (hi:S[i]?=some (g,D)) (hc:Calm g D) (hS:S.Pairwise fun x y=>x.1≠y.1):
  VF Tryz.prog 105 [.ptr bb 0,.agg (bZ g),.sl 0 [] .nil] O (aE fun m O'=>m= .agg (mr (jd g (dP g D)))/\CB O' U k bb md S/\O.N<=O'.N/\∀j,¬U j->j<O.N->O'.hp j=O.hp j):=by
 have h0:=h;obtain⟨⟨L,E,V,ke,kv,ce,cv,r,a,MD,cm,hSt,hB,hL,Lo,jP,hU⟩,ei,cE,cK⟩:=h;obtain⟨o,D8,ho⟩:=Lo i g D hi;rcases ho with⟨rfl,ec⟩ | ⟨rfl,Qd⟩;rotate_left
 ·refine VF.mono ?_ (Ze hB hc.gav Qd);rintro r O' hr;cases r with
  | panic m=>exact hr.elim
  | ret m=>
    obtain⟨rfl,u⟩:=hr;exact⟨rfl,h0.ge u,u.N,fun j _ hj=>u.hp j hj⟩
 refine VF.mono ?_ (acN hB hSt D8 hc.gav hc.text hc.build hc.read hc.q ec jP);rintro r O' hr;cases r with
 | panic m=>exact hr.elim
 | ret m=>
   obtain⟨rfl,q,c,hEq,⟨r',a',alV⟩,hB',hn,hf⟩:=hr;have hqU:=hU q (.inr (.inr (.inr (.inl ⟨i,c,_,hEq⟩))));have hkU:=hU k (.inl rfl);refine⟨rfl,⟨⟨L.set i (g,cH (fW (dP g D)),some (dP g D)),E,V,ke,kv,ce,cv,r',a',_,_,alV,hB',by rw[anE];exact hL,?_,jP,hU⟩,fun j hj=>agu (ei j hj) hn,cE,cK⟩,hn,fun j h5 h6=>hf j h6 (fun e=>h5 (e▸hkU)) (fun e=>h5 (e▸hqU)) (fun e=>h5 (e▸cK))⟩;intro j g' D' hj;obtain⟨o',hLj,KZ⟩:=Lo j g' D' hj;by_cases e:j=i
   ·subst e;rw[hi]at hj;injection hj with hj;injection hj with e1 e2
    subst e1;subst e2
    refine⟨some (dP g D),by rw[List.getElem?_set_self (VI.1 D8).1],.inr ⟨rfl,?_⟩⟩;rw[Qe,ec];dsimp only;rw[if_pos rfl]
   ·have hne:g'≠g:=by
     have h7:=(VI.1 hj);have h8:=(VI.1 hi);obtain⟨l7,e7⟩:=h7;obtain⟨l8,e8⟩:=h8;rcases Nat.lt_or_gt_of_ne e with ei | ei
     ·have:=(anz.1 hS) j i l7 l8 ei;rw[e7,e8]at this;exact this
     ·have:=(anz.1 hS) i j l8 l7 ei;rw[e7,e8]at this;exact fun e=>this e.symm
    refine⟨o',by rw[List.getElem?_set_ne (fun e2=>e e2.symm)];exact hLj,?_⟩;rw[Qe];rcases KZ with⟨e1,e2⟩ | ⟨e1,e2⟩
    ·refine .inl ⟨e1,?_⟩;rw[e2];dsimp only;rw[if_neg (fun e3=>hne (Jy e3).symm)]
    ·refine .inr ⟨e1,?_⟩;rw[e2]
theorem Zg {O:VH} {U:Nat->Prop} {k bb md:Nat} {S:List (Gv×List Dp)} (h:CB O U k bb md S) {i:Nat} {g:Gv} {D:List Dp} (hi:S[i]?=some (g,D)) (hc:Calm g D) (hS:S.Pairwise fun x y=>x.1≠y.1):
  VF Tryz.prog 91 [.ptr bb 0,.agg (bZ g)] O (aE fun m O'=>m= .tuple [.agg (mr (jd g (dP g D))),.agg (nI il)]/\CB O' U k bb md S/\O.N<=O'.N/\∀j,¬U j->j<O.N->O'.hp j=O.hp j):=by
 refine VF.fg ?_;have CA:=fun(O':VH) (u:O.Ge O')=>Zf (h.ge u) hi hc hS
 have ahM:=fun O'=>afQ (jd g (dP g D)) O' (by show(3:Nat)<=_;omega) (by show(D.map fO).length<=_;rw[ahY];have:=hc.n;omega) (by
  intro n hn;obtain⟨d,hd,rfl⟩:=ajA.1 hn;have:=(hc.d d hd).xl;show d.x.length<=_;omega)
 have fY:=fun j=>h.lt j
 obtain⟨g1,g2,g3⟩:=g;have hM:mr (jd ⟨g1,g2,g3⟩ (dP ⟨g1,g2,g3⟩ D))=[.str g1,.str g2,.str g3,.str lB,.sl 3 ((iM (dP ⟨g1,g2,g3⟩ D)).flatMap bm) .ar,.sl 0 [] .ar,.sl (D.map fO).length ((D.map fO).flatMap ez) .ar]:=rfl;have sG:=gH (iM (dP ⟨g1,g2,g3⟩ D));have c9:=xV (D.map fO);rw[hM]at CA ahM ⊢;generalize (iM (dP ⟨g1,g2,g3⟩ D)).flatMap bm=X1 at*;generalize (D.map fO).flatMap ez=X2 at*;generalize (D.map fO).length=n2 at*;simp only[bZ,nI,il,aq]at CA ⊢;refine VF.Ga (lo:=6) (k:=17) (rs:=[.cell 4 215,.cell 5 110]) Tryz.func91 (Enters.sI (by kernel_rfl)) ?_;simp only[cL,anc,Nat.reduceAdd];refine ab @yW ?_;refine VC.gen ?_;rintro O1 sU;obtain⟨aJ,cW,cz,cE,fj⟩:=lu _ _ _ sU;clear sU;refine ν @yW ?_;refine⟨_,rfl,fun D'=>?_⟩;refine θ (aH @yW @wd @cz ?_);refine π (CA O1 aJ) ?_;rintro _ O2 ⟨rfl,EJ,eJ,kX⟩;refine ao @yW @wd ?_;refine π (ahM O2) ?_;rintro _ O3 ⟨rfl,aG⟩;have cC:=aG.at ((kX _ (fun hu=>by have:=fY _ hu;omega) (by omega)).trans cE);have fA:=aG.at ((kX _ (fun hu=>by have:=fY _ hu;omega) (by omega)).trans fj);have gE:=aG.N;refine cJ @yW @wd @cC @fA ?_;refine ο @yW @wd ?_;refine ady ?_;refine ao @yW @wd ?_;rw[sG,c9];refine⟨rfl,(EJ.ge aG).mv (aed _) fun j hj=>?_,by omega,fun j hj hl=>?_⟩
 ·have:=fY j hj;rw[ρ _ _ (by omega),ρ _ _ (by omega)]
 ·rw[ρ _ _ (by omega),ρ _ _ (by omega),aG.hp j (by omega),kX j hj (by omega),aJ.hp j hl]
set_option linter.defProp false in
def gn:=Mn aR<|Mn yW<|Mn agK<|Mn FP I6
structure Plain (S:List (Gv×List Dp)):Prop where
 c:∀p∈S,Calm p.1 p.2
 ne:S.Pairwise fun x y=>x.1≠y.1
def aje:Option (List Br)->Gv->MV->Prop
 | none,g,m=>m= .tuple [.sl 0 [] .nil,.agg (nI (adr g))]
 | some N,_,m=>∃t,m= .tuple [.sl N.length (N.flatMap m6) t,.agg (nI il)]
theorem Hc {S:List (Gv×List Dp)} {g:Gv} {l:List pR} (h:iO S g=some l):∃(i:Nat) (D:List Dp),S[i]?=some (g,D)/\l=D.map fO:=by
 unfold iO at h;obtain⟨p,h1,rfl⟩:=Option.map_eq_some_iff.1 h;obtain⟨g',D⟩:=p;have h2:=List.find?_some h1;have h2:g'=g:=by simpa using h2
 subst h2;obtain⟨i,hi,e⟩:=List.mem_iff_getElem.1 (List.mem_of_find?_eq_some h1);exact⟨i,D,by rw[aee hi,e],rfl⟩
theorem adz {d:Dp} (h:To d):G7 (fO d)/\(fO d).x.length<=1:=by
 have:=h.a.len;refine⟨⟨?_,?_,?_,?_⟩,h.xl⟩
 ·show d.g.length<=_;rw[h.g];decide
 ·show d.a.length<=_;omega
 ·show(if wZ d.t=[]then lB else wZ d.t).length<=_;rw[h.t];decide
 ·show d.c.length<=_;rw[h.c];decide
theorem tu.mv {O O':VH} {tb k bb mm:Nat} {g:Gv} {S:ru} {t1 t2:Tok} {B:Nat} (h:tu O tb k bb mm g S t1 t2 B) (hn:O.N<=O'.N) (h1:B<=tb) (h2:B<=mm) (hf:∀j,B<=j->j<O.N->O'.hp j=O.hp j):tu O' tb k bb mm g S t1 t2 B:=by
 have hl:=h.lt;exact⟨(hf _ h1 hl.1).trans h.cell,(hf _ h2 hl.2).trans h.map,h.a1.at hn (fun i e=>hf i (App.nE h.a1 e).1 (App.nE h.a1 e).2),h.a2.at hn (fun i e=>hf i (App.nE h.a2 e).1 (App.nE h.a2 e).2),h.ne,⟨by omega,by omega⟩,h.len,h.up⟩
theorem Tp {S S':ru} {i:Nat} {b:Br} {od:Nat} {n:pR} (h:z8 S i b od n=some S') (hl:S.1.length<=4096) (hi:S.1[i]?=some b):S'.1.length<=4096/\S'.1[i]?=some b/\∀y∈S'.2,y∈S.2\/y=n.x:=by
 unfold z8 at h;split at h
 ·injection h with h;subst h
  exact⟨hl,hi,fun y hy=>.inl hy⟩
 ·split at h
  ·cases h
  ·injection h with h;subst h
   unfold ahF;refine⟨by rw[ahV];simp;omega,by rw[anx (VI.1 hi).1];exact hi,fun y hy=>?_⟩;rcases ajw.1 hy with hy | hy
   ·exact .inl hy
   ·exact .inr (ahX.1 hy)
set_option maxHeartbeats 4000000 in
theorem af_ {O:VH} {U:Nat->Prop} {k bb md:Nat} {S:List (Gv×List Dp)} (h:CB O U k bb md S) (hS:Plain S) (g:Gv) {r:Option (List Br)} (hr:Ab (iO S) g=some r):
  VF Tryz.prog 78 [.ptr k 0,.ptr bb 0,.agg (bZ g)] O (aE fun m O'=>aje r g m/\O.N<=O'.N/\∀j,¬U j->j<O.N->O'.hp j=O.hp j):=by
 obtain⟨g1,g2,g3⟩:=g;simp only[bZ];refine χ 116 [.tmp 6,.cell 7 110] Tryz.func78 ?_;refine κ @gn ?_;refine VC.gen ?_;intro O1 e1;obtain⟨aJ,cW,cz,cE⟩:=ib _ _ e1;clear e1;have k7:Fv (kT [(0,1),(1,1),(2,3),(5,1),(6,1),(7,1)]) [.ptr k 0,.ptr bb 0,.str g1,.str g2,.str g3,.v (.map none),.sl 0 [] .nil,.sl 0 [] .nil] (.map O1.N) [] (some (5,1))=some [.ptr k 0,.ptr bb 0,.str g1,.str g2,.str g3,.map O1.N,.sl 0 [] .nil,.sl 0 [] .nil]:=rfl;refine θ (aH @gn @cz @k7 ?_);refine VC.gen ?_;intro O2 e2;obtain⟨aC,eJ,Qf,sh⟩:=ib _ _ e2;clear e2;have eA:=aC.at cz;have cK:=aC.at cE;refine θ (aH @gn @eA @sh ?_);refine VC.gen ?_;intro O3 e3;have ht3:O3.hp (O1.N+1)=some (.cells [.ptr k 0,.ptr bb 0,.str g1,.str g2,.str g3,.map O1.N,.sl 1 [.v (.int .i64 (-1)),.v (.int .i64 0),.v (.int .i64 0),.str g1,.str g2,.str [106,97,114],.str [],.str g3,.v (.bool false),.str g3,.sl 0 [] .nil,.v (.int .i64 0),.v (.bool false)] .full,.sl 0 [] .nil]):=by rw[e3];exact τ _ _ _
 have BD:∀j,j≠O1.N+1->O3.hp j=O2.hp j:=fun j hj=>by rw[e3];exact ρ _ _ hj
 have gE:O3.N=O2.N:=by rw[e3];rfl
 clear e3;refine ξ @gn @ht3 ?_;refine VC.gen ?_;intro O4 e4;have D4:O4.hp (O1.N+1)=some (.cells [.ptr k 0,.ptr bb 0,.str g1,.str g2,.str g3,.map O1.N,.sl 1 [.v (.int .i64 (-1)),.v (.int .i64 0),.v (.int .i64 0),.str g1,.str g2,.str [106,97,114],.str [],.str g3,.v (.bool false),.str g3,.sl 0 [] .nil,.v (.int .i64 0),.v (.bool false)] .full,.sl 1 [.sl 0 [] .nil] .full]):=by rw[e4];exact τ _ _ _
 have sk:∀j,j≠O1.N+1->O4.hp j=O2.hp j:=fun j hj=>by rw[e4,ρ _ _ hj];exact BD j hj
 have h_:O4.N=O2.N:=by rw[e4];exact gE
 clear e4 ht3 BD gE;refine VC.YE D4 (cs':=[.ptr k 0,.ptr bb 0]++bZ ⟨g1,g2,g3⟩++[.map O1.N,.sl [Aa ⟨g1,g2,g3⟩].length ([Aa ⟨g1,g2,g3⟩].flatMap m6) .full,.sl [([]:List gx)].length ([([]:List gx)].flatMap Ac) .full]) ?_ ?_
 ·simp only[bZ,Aa,lB,m6,gV,wX,Ac,ann,zW,Ml,ang,Mm,aeb,aq,bu]
  repeat' first
   | exact fl.refl _
   | exact Wk.refl _
   | exact Wk.tok
   | refine fl.cons ?_ ?_
   | refine Wk.sl ?_
 refine VC.gen ?_;intro O5 e5
 have alW:tu O5 (O1.N+1) k bb O1.N ⟨g1,g2,g3⟩ ([Aa ⟨g1,g2,g3⟩],[[]]) .full .full O.N:=by
  refine⟨by rw[e5];exact τ _ _ _,?_,trivial,trivial,fun i h=>(by cases h),?_,rfl,?_⟩
  ·rw[e5,ρ _ _ (by omega),sk _ (by omega)];exact Qf
  ·rw[e5];show O1.N+1<O4.N/\O1.N<O4.N;omega
  ·intro j c hj;have hl:=(VI.1 hj).1;simp only[ang]at hl;obtain rfl:j=0:=by omega
   simp only[List.getElem?_cons_zero,Option.some.injEq]at hj;subst hj;simp[Aa]
 have gM:∀j,j<O2.N->j≠O1.N+1->O5.hp j=O2.hp j:=fun j _ h2=>by rw[e5,ρ _ _ h2,sk j h2]
 have e_:O5.N=O2.N:=by rw[e5];exact h_
 have dy:=(gM _ (by omega) (by omega)).trans cK;have ov:O.Ge O5:=⟨by rw[e_,eJ];omega,fun j hj=>(gM j (by omega) (by omega)).trans ((aJ.trans aC).hp j hj)⟩;clear e5 sk h_ D4 gM;refine Ξ [7,8] (fun _:ru×Tok×Tok=>[.ptr (O.N+1) 0,.ptr (O1.N+1) 0]) (fun x O'=>tu O' (O1.N+1) k bb O1.N ⟨g1,g2,g3⟩ x.1 x.2.1 x.2.2 O.N/\r=some x.1.1/\O'.hp (O.N+1)=O5.hp (O.N+1)/\O5.N<=O'.N/\∀j,¬U j->j<O.N->O'.hp j=O.hp j) ?_ ?_
 ·refine κ @gn ?_;refine υ ?_;refine Δ [9] [1,7,8] (fun x:Nat×ru×Tok×Tok=>[mi x.1]) (fun x O'=>x.1<=x.2.1.1.length/\x.2.1.1.length<=4096/\z_ (iO S) (5000 - x.1) x.1 x.2.1=some r/\tu O' (O1.N+1) k bb O1.N ⟨g1,g2,g3⟩ x.2.1 x.2.2.1 x.2.2.2 O.N/\CB O' U k bb md S/\O'.hp (O.N+1)=O5.hp (O.N+1)/\(∀y∈x.2.1.2,y.length<=1000000)/\O5.N<=O'.N/\∀j,¬U j->j<O.N->O'.hp j=O.hp j) (fun x=>5000 - x.1) ((0,([Aa ⟨g1,g2,g3⟩],[[]]),.full,.full)) ?_ ?_
  ·exact⟨anp _,by show(1:Nat)<=4096;decide,hr,alW,h.ge ov,rfl,by simp,aed _,fun j _ hj=>ov.hp j hj⟩
  rintro⟨i,S',t1,t2⟩ O6 ⟨hi,hl,n7,yq,hC6,ju,hX6,nH,Qg⟩;dsimp only at hi hl n7 yq hX6 ⊢;have uJ:=yq.cell;simp only[bZ,zW,Ml]at uJ;have Vp:=aX mS S'.1;by_cases dA:i<S'.1.length;rotate_left
  ·obtain rfl:i=S'.1.length:=by omega
   have Jm:r=some S'.1:=by
    rw[show 5000 - S'.1.length=(4999 - S'.1.length)+1 by omega,z_,List.getElem?_eq_none (aed _)]at n7;injection n7 with n7;exact n7.symm
   refine ο @gn @uJ ?_;exact aB.mk (S',t1,t2) ⟨yq,Jm,ju,nH,Qg⟩
  have mH:((i:Int)+1)=((i+1:Nat):Int):=by omega
  have hb:S'.1[i]?=some S'.1[i]:=aee dA;have bE:=cP mS S'.1 i dA;generalize S'.1[i]=b at*;have CL:(S'.1.flatMap m6)[i*13+12]?=some (mb b.rd):=by simpa using kh (sp:=[]) mS hb (i:=12) rfl
  simp only[bu]at CL;rw[show 5000 - i=(4999 - i)+1 by omega,z_,hb]at n7;dsimp only at n7;refine ξ @gn @uJ ?_;refine Ξ [1,7,8,9] (fun _:ru×Tok×Tok=>[.ptr bb 0,.ptr (O.N+1) 0,.ptr (O1.N+1) 0,mi i]) (fun x O'=>i+1<=x.1.1.length/\x.1.1.length<=4096/\z_ (iO S) (4999 - i) (i+1) x.1=some r/\tu O' (O1.N+1) k bb O1.N ⟨g1,g2,g3⟩ x.1 x.2.1 x.2.2 O.N/\CB O' U k bb md S/\O'.hp (O.N+1)=O5.hp (O.N+1)/\(∀y∈x.1.2,y.length<=1000000)/\O5.N<=O'.N/\∀j,¬U j->j<O.N->O'.hp j=O.hp j) ?_ ?_;rotate_left
  ·rintro⟨S2,ta,tb⟩ O7 ⟨q1,q2,q3,q4,q5,q6,q7,q8,q9⟩;refine ο @gn @mH ?_;exact az.N (i+1,S2,ta,tb) ⟨q1,q2,by rw[show 5000 - (i+1)=4999 - i by omega];exact q3,q4,q5,q6,q7,q8,q9⟩ (hm:=(by dsimp only at q1 q2 ⊢;omega))
  refine υ ?_;cases Tm:b.rd;rotate_left
  ·rw[Tm]at n7 CL;rw[if_pos rfl]at n7;refine ι (aH @gn @uJ @CL ?_);exact aB.mk (S',t1,t2) ⟨dA,hl,n7,yq,hC6,ju,hX6,nH,Qg⟩
  rw[Tm]at n7 CL;rw[if_neg (by decide)]at n7;cases hm:iO S (rV b)with
  | none=>rw[hm]at n7;cases n7
  | some l=>
  rw[hm]at n7;dsimp only at n7;obtain⟨q,D,hq,rfl⟩:=Hc hm;have L0:=hS.c _ (List.mem_of_getElem? hq);dsimp only at L0;have CA:=fun(O':VH) (u:O6.Ge O')=>Zg (hC6.ge u) hq L0 hS.ne
  have hM:mr (jd (rV b) (dP (rV b) D))=[.str (rV b).g,.str (rV b).a,.str (rV b).v,.str lB,.sl 3 ((iM (dP (rV b) D)).flatMap bm) .ar,.sl 0 [] .ar,.sl (D.map fO).length ((D.map fO).flatMap ez) .ar]:=rfl;rw[hM]at CA;generalize (iM (dP (rV b) D)).flatMap bm=X1 at*;simp only[nI,il,aq]at CA;refine θ (aH @gn @uJ @CL ?_);refine θ (aH @gn @uJ @bE ?_);refine π (af5 b O6) ?_;rintro _ O7 ⟨rfl,eV⟩;refine ab @gn ?_;refine π (CA O7 eV) ?_;rintro _ O8 ⟨rfl,hC8,DY,hf8⟩;refine ab @gn ?_;refine VC.gen ?_;intro O9 e9;have hUl:∀j,U j->j<O.N:=h.lt
  have YP:O9.hp O8.N=some (.cells [.str (rV b).g,.str (rV b).a,.str (rV b).v,.str lB,.sl 3 X1 .ar,.sl 0 [] .ar,.sl (D.map fO).length ((D.map fO).flatMap ez) .ar]):=by rw[e9,ρ _ _ (by omega)];exact τ _ _ _
  have hp9:O9.hp (O8.N+1)=some (.cells [.v (.int .i64 0),.str [],.str [],.str [],.v (.int .i64 0),.v (.int .i64 0),.v (.int .i64 0),.str []]):=by rw[e9];exact τ _ _ _
  have adA:O8.Ge O9:=by rw[e9];exact((((VH.Ge.refl _).push _).push _).set (aed _) _).set (by omega) _
  have zT:O9.N=O8.N+2:=by rw[e9];rfl
  clear e9;have vg:=eV.N;have Vr:∀j,¬U j->j<O6.N->O9.hp j=O6.hp j:=fun j h1 h2=>by rw[adA.hp j (by omega),hf8 j h1 (by omega),eV.hp j h2]
  have hT9:tu O9 (O1.N+1) k bb O1.N ⟨g1,g2,g3⟩ S' t1 t2 O.N:=yq.mv (by omega) (by omega) (by omega) fun j h1 h2=>Vr j (fun hu=>by have:=hUl j hu;omega) h2
  have hC9:=hC8.ge adA;have bO:O9.hp (O.N+1)=O5.hp (O.N+1):=(Vr _ (fun hu=>by have:=hUl _ hu;omega) (by omega)).trans ju;have hf9:∀j,¬U j->j<O.N->O9.hp j=O.hp j:=fun j h1 h2=>(Vr j h1 (by omega)).trans (Qg j h1 h2)
  clear CA hC8 hf8 eV adA Vr yq hC6 ju Qg uJ bE CL;refine ξ @gn @hp9 ?_;refine VL.Ft aa (bb:=false) (b:=true) (by simp) (by simp[jF]) (.inr ⟨rfl,rfl⟩) (by kernel_rfl) (by kernel_rfl) rfl rfl rfl rfl ?_;refine ab @gn ?_;refine Ξ [1,7,8,9,10] (fun _:Unit=>[.ptr bb 0,.ptr (O.N+1) 0,.ptr (O1.N+1) 0,mi i,.ptr O8.N 0]) (fun _ O'=>O'=O9) ?_ ?_
  ·by_cases h0:i=0
   ·have h0':((i:Int)==0)=true:=by simpa using h0
    refine ξ @gn @h0' ?_;refine VC.Kk rfl ?_;refine ξ @gn @YP ?_;refine υ ?_;refine Δ [81] [1,7,8,9,10,79,80] (fun _:Nat=>[mi 0]) (fun _ O'=>O'=O9) (fun x=>x) (0) ?_ ?_
    ·rfl
    rintro _ gy sN;rw[sN];refine ν @gn ?_;exact aB.mk () rfl
   ·have h0':((i:Int)==0)=false:=by simpa using h0
    refine ο @gn @h0' ?_;exact aB.mk () rfl
  rintro _ gy sN;rw[sN];clear sN gy;refine ξ @gn @YP ?_
  have hne:∀n∈D.map fO,G7 n/\n.x.length<=1:=fun n hn=>by
   obtain⟨d,hd,rfl⟩:=ajA.1 hn;exact adz (L0.d d hd)
  have AJ:(D.map fO).length<=40:=by rw[ahY];exact L0.n
  generalize D.map fO=L at*;clear YP hp9 hM;refine υ ?_;refine Δ [96] [1,7,8,9,94,95] (fun x:Nat×ru×Tok×Tok=>[mi x.1]) (fun x O'=>x.1<=L.length/\x.2.1.1.length<=4096/\x.2.1.1[i]?=some b/\yb i b (L.drop x.1) x.1 x.2.1=yb i b L 0 S'/\tu O' (O1.N+1) k bb O1.N ⟨g1,g2,g3⟩ x.2.1 x.2.2.1 x.2.2.2 O.N/\CB O' U k bb md S/\O'.hp (O.N+1)=O5.hp (O.N+1)/\(∀y∈x.2.1.2,y.length<=1000000)/\O9.N<=O'.N/\∀j,¬U j->j<O.N->O'.hp j=O.hp j) (fun x=>L.length - x.1) ((0,S',t1,t2)) ?_ ?_
  ·exact⟨anp _,hl,hb,rfl,hT9,hC9,bO,hX6,aed _,hf9⟩
  rintro⟨j,S2,ta,tb⟩ gy ⟨hj,qp,Og,Qh,yT,Qc,JG,Vs,Jb,adB⟩;dsimp only at hj qp Og Qh yT Vs ⊢;have hii:=(VI.1 Og).1;by_cases aM:j<L.length;rotate_left
  ·obtain rfl:j=L.length:=by omega
   rw[List.drop_length,yb]at Qh;rw[<-Qh]at n7;refine ν @gn ?_;exact aB.mk (S2,ta,tb) ⟨hii,qp,n7,yT,Qc,JG,Vs,by omega,adB⟩
  have cB:((j:Int)+1)=((j+1:Nat):Int):=by omega
  have ahN:=cP oP L j aM;obtain⟨ec,tU⟩:=hne _ (ani aM);rw[ank aM,yb]at Qh;generalize L[j]=n at*;have D3:=fun(O':VH) (u:gy.Ge O')=>af9 (yT.ge u) (by have:=u.N;omega) Og j n ec Vs qp
  have hinv:=fun S3 (h:z8 S2 i b j n=some S3)=>Tp h qp Og
  generalize z8 S2 i b j n=R at*;obtain⟨⟨k1,k2,k3,k4⟩,v,s,o,x⟩:=n;dsimp only at tU;simp only[ez,gV,wX,aq,bu,zW,Ml,Mm,aeb]at ahN D3;have am2:=aX oP L;refine κ @gn ?_;refine κ @gn ?_;refine ω (υ ?_);refine ξ @gn @ahN ?_;refine VC.al ?_;rintro vu ⟨p5,alX,agS⟩;refine ξ @gn @alX ?_;refine π (D3 vu p5) ?_;intro m YK L3;have am3:=dy;cases R with
  | none=>
    dsimp only at L3 Qh;rw[<-Qh]at n7;dsimp only at n7;injection n7 with n7;subst n7;obtain⟨rfl,GW⟩:=L3;have adC:=(GW.hp _ (by have:=p5.N;omega)).trans (p5.at (JG.trans dy));have ajf:=p5.N;have Pu:=GW.N;simp only[nI,adr,aq];refine ab @gn ?_;refine VC.al ?_;rintro O13 ⟨Hd,Vt,Po⟩;have alY:=Hd.at adC;refine ο @gn @Vt ?_;refine VL.Ft aa (bb:=true) (b:=false) (by simp) (by simp[jF]) (.inr ⟨rfl,rfl⟩) (by kernel_rfl) (by kernel_rfl) rfl rfl rfl rfl ?_;refine ab @gn ?_;refine WC.bQ .any [(1,.au),(0,.one),(2,.one)] ?_;refine aH @gn @Vt @alY ?_
    exact⟨rfl,by show O.N<=O13.N;omega,fun l h1 h2=>by
     rw[ρ _ _ (by omega),Hd.hp l (by omega),GW.hp l (by omega),p5.hp l (by omega)];exact adB l h1 h2⟩
  | some S3=>
    dsimp only at L3 Qh;obtain⟨rfl,ta',tb',Vo,Pu,ahO⟩:=L3;obtain⟨n8,cC,lS⟩:=hinv S3 rfl;have ajf:=p5.N;have cT:∀l,l<O.N->l≠O1.N+1/\Tok.id ta≠some l/\Tok.id tb≠some l:=fun l h1=>⟨by omega,fun e=>by have:=(App.nE yT.a1 e).1;omega,fun e=>by have:=(App.nE yT.a2 e).1;omega⟩
    have Vu:∀l,l<O.N->YK.hp l=gy.hp l:=fun l h1=>by
     obtain⟨u1,u2,u3⟩:=cT l h1;rw[ahO l (by omega) u1 u2 u3,p5.hp l (by omega)]
    have c7:∀l,l<gy.N->gy.hp l≠some .tok->l≠O1.N+1->YK.hp l=gy.hp l:=fun l h1 h2 h3=>by
     rw[ahO l (by omega) h3 (fun e=>h2 (App.tok yT.a1 e)) (fun e=>h2 (App.tok yT.a2 e)),p5.hp l (by omega)]
    have adC:=(c7 (O.N+1) (by omega) (by rw[JG,dy];simp) (by omega)).trans (JG.trans dy);simp only[nI,il,aq];refine ab @gn ?_;refine VC.al ?_;rintro O13 ⟨Hd,Vt,Po⟩;refine ο @gn @Vt ?_;refine VL.Ft aa (bb:=false) (b:=true) (by simp) (by simp[jF]) (.inr ⟨rfl,rfl⟩) (by kernel_rfl) (by kernel_rfl) rfl rfl rfl rfl ?_;refine ab @gn ?_;refine ο @gn @cB ?_;refine az.N (j+1,S3,ta',tb') ⟨aM,n8,cC,Qh,Vo.ge Hd,(Qc.mv (by omega) fun l hl=>Vu l (hUl l hl)).ge Hd,?_,?_,by omega,fun l h1 h2=>?_⟩
    ·rw[Hd.hp _ (by omega),adC,dy]
    ·intro y hy;rcases lS y hy with hy | rfl
     ·exact Vs y hy
     ·exact ajx tU (by decide)
    ·rw[Hd.hp l (by omega),Vu l h2];exact adB l h1 h2
 rintro⟨S',t1,t2⟩ O6 ⟨yq,rfl,ju,nH,Qg⟩;have CD:=yq.cell;simp only[bZ,zW,Ml]at CD;rw[dy]at ju;refine θ (aH @gn @CD @ju ?_);refine ν @gn ?_;exact⟨⟨t1,rfl⟩,by show O.N<=O6.N;omega,fun j h1 h2=>Γ (Qg j h1 h2)⟩
def rowsOf (S:List (Gv×List Dp)):List (Gv×Bs×Option Pm):=S.map fun p=>(p.1,cH (fW (dP p.1 p.2)),none)
theorem Vv {O:VH} {k ke kv ce cv:Nat} {L:List (Gv×Bs×Option Pm)} {E V:fI} {r a:Int} (h:ob O k L E V ke kv ce cv r a) {j:Nat} (hj:Own k ke kv E V j):j<O.N:=by
 have hl:=h.st.lt;rcases hj with rfl | rfl | rfl | ⟨i,c,p,hi⟩ | ⟨p,hp,n,cs,tk,e1,e2⟩
 ·exact hl.1
 ·exact hl.2.1
 ·exact hl.2.2
 ·have ei:=(VI.1 hi).1;rw[h.len]at ei;obtain⟨q,c',h1,h2,_⟩:=h.Ll i L[i].1 L[i].2.1 L[i].2.2 (aee ei);rw[hi]at h1;injection h1 with h1;simp only[Prod.mk.injEq,MV.ptr.injEq]at h1;omega
 ·obtain⟨n',cs',tk',k1,k2,k3,k4,k5⟩:=h.ver.row p hp;rw[e1]at k1;injection k1 with _ _ k1;subst k1;exact(App.nE k4 e2).2
set_option linter.defProp false in
def rY:=Mn gn<|Mn T86<|Mn Ca<|Mn FN<|Mn AS<|Mn DU T82
mutual
theorem adD:∀x:Nd,rk x->(cH x).length<=1000000->Bc x
 | .mk n a k t,h,hl=>by
   rw[rk]at h;obtain⟨hn,rfl,rfl,hk,h⟩:=h;rw[j5 hn.ne hk]at hl
   have yd:ui k/\k.length<=1000000:=by
    rcases h with⟨s,hs,rfl⟩ | h
    ·rw[ko,cH,if_pos rfl,GZ hs.all]at hl;refine⟨?_,by simp⟩;simp only[ui,Bc];exact⟨⟨by simp,by omega,by simp,by simp,by simp,trivial⟩,trivial⟩
    ·obtain⟨h1,h2⟩:=Vw k h (by omega);exact⟨h1,by omega⟩
   rw[Bc];exact⟨by omega,by simp,by simp,by simp,yd.2,yd.1⟩
theorem Vw:∀K:List Nd,yV K->(aW K).length<=1000000->ui K/\K.length<=(aW K).length
 | [],_,_=>by rw[ui];exact⟨trivial,by simp⟩
 | x::K,h,hl=>by
   rw[yV]at h;rw[aW,ahV]at hl ⊢;have h1:=adD x h.1 (by omega);have h2:=Vw K h.2 (by omega)
   have h3:1<=(cH x).length:=by
    obtain⟨n,a,k,t⟩:=x;have hx:=h.1;rw[rk]at hx;obtain⟨hn,rfl,rfl,hk,_⟩:=hx;rw[j5 hn.ne hk];omega
   rw[ui,ZA];exact⟨⟨h1,h2.1⟩,by omega⟩
end
theorem Zh {g:Gv} {D:List Dp} (h:Y3 (dP g D)):yV (fe g D):=by
 refine nD fun x hx=>?_
 unfold fe at hx;rcases ajw.1 hx with hx | hx
 ·simp only[am_,ame,or_false]at hx;rcases hx with rfl | rfl | rfl
  ·exact uI Ez h.g
  ·exact uI EA h.a
  ·exact uI LX h.v
 ·by_cases e:D=[]
  ·rw[if_pos e]at hx;cases hx
  ·rw[if_neg e,ahX]at hx;rw[hx,rk]
   exact⟨Ef _ (by decide) (by decide),rfl,rfl,fun e2=>e (ah0.1 e2),.inr (nD fun y hy=>by
    obtain⟨d,hd,rfl⟩:=ajA.1 hy;exact(JS (h.eK d hd)).1)⟩
theorem Calm.nd {g:Gv} {D:List Dp} (h:Calm g D):Bc (fW (dP g D)):=by
 have ht:=h.text;have he:=uH h.w;rw[he]at ht ⊢;refine adD _ ?_ (ajx ht (by decide));rw[rk];exact⟨Ef _ (by decide) (by decide),rfl,rfl,by unfold fe;simp,.inr (Zh h.w)⟩
theorem adE (a v:Bs) (s:Int) (O:VH):VF Tryz.prog 20 [.str a,.str v,mi s] O (aE fun m O'=>m= .agg (aU (vv a v s))/\O.Ge O'):=by
 refine VF.fg ?_;simp only[vv,gS,aU,aq,Mm,aeb];refine χ 11 [.cell 6 56] Tryz.func20 ?_;refine κ @rY ?_;refine κ @rY ?_;refine ν @rY ?_;exact((VH.Ge.refl O).push _).set (aed _) _
theorem aga (O:VH):VF Tryz.prog 23 [] O (aE fun m O'=>m= .agg (bZ ⟨gS,[97],v1⟩)/\O.Ge O'):=by
 simp only[gS,v1,bZ];refine χ 2 [.cell 0 60] Tryz.func23 ?_;refine κ @rY ?_;refine κ @rY ?_;refine ν @rY ?_;exact((VH.Ge.refl O).push _).set (aed _) _
theorem ajg {O:VH} {k ke kv ce cv:Nat} {E V:fI} {r a:Int} {S:List (Gv×List Dp)} (h:ob O k (rowsOf S) E V ke kv ce cv r a) (n v:Bs) (D:List Dp) (tk:Tok) (hc:Calm ⟨gS,n,v⟩ D) (ec:∀p∈S,p.1≠⟨gS,n,v⟩) (hS:S.length<1024):
  VF Tryz.prog 21 [.ptr k 0,.str n,.str v,.sl D.length (D.flatMap aU) tk] O (aE fun m O'=>m=mb true/\(∃E' V' SI SJ,ob O' k (rowsOf (S++[(⟨gS,n,v⟩,D)])) E' V' ke kv SI SJ r a)/\O.N<=O'.N/\∀i cs,i<O.N->O.hp i=some (.cells cs)->O'.hp i=some (.cells cs)):=by
 have hw:=fun O'=>abu (O:=O') (dP ⟨gS,n,v⟩ D) (by simp[dP]) (by simp[dP]) (by show D.length<=_;have:=hc.n;omega) (fun d hd=>by
  simp only[dP,Ml]at hd;have:=(hc.d d hd).xl;omega)
 have hp:=fun O'=>XS (fW (dP ⟨gS,n,v⟩ D)) O' (ajx hc.text (by decide)) hc.nd
 have ahP:=fun(O':VH) (u:O.Ge O')=>aiQ (h.ge u) ⟨gS,n,v⟩ (cH (fW (dP ⟨gS,n,v⟩ D))) hc.may hc.gav (fun x hx=>by
  obtain⟨p,hp,rfl⟩:=ajA.1 hx;exact ec p hp) (by simp[rowsOf];exact hS)
 have c7:rowsOf (S++[(⟨gS,n,v⟩,D)])=rowsOf S++[(⟨gS,n,v⟩,cH (fW (dP ⟨gS,n,v⟩ D)),none)]:=by simp[rowsOf]
 rw[c7];generalize cH (fW (dP ⟨gS,n,v⟩ D))=T at*;generalize fW (dP ⟨gS,n,v⟩ D)=X at*;simp only[dP,gX,bZ,gS,aq,bu,Mm,aeb]at hw ahP ⊢;refine χ 23 [.tmp 8] Tryz.func21 ?_;refine κ @rY ?_;refine κ @rY ?_;refine VC.al ?_;rintro O1 ⟨aJ,eQ,cW⟩;refine VC.YE eQ (cs':=[.v (.bool false),.str [],.str [],.str [],.str [103],.str n,.str v,.str [],.sl 0 [] .ar,.sl 0 [] .ar,.sl D.length (D.flatMap aU) .ar]) ?_ ?_
 ·repeat' first
   | exact fl.refl _
   | exact Wk.refl _
   | exact Wk.tok
   | refine fl.cons ?_ ?_
 refine VC.gen ?_;intro O2 e2;have jv:O2.hp O.N=some (.cells [.v (.bool false),.str [],.str [],.str [],.str [103],.str n,.str v,.str [],.sl 0 [] .ar,.sl 0 [] .ar,.sl D.length (D.flatMap aU) .ar]):=by rw[e2];exact τ _ _ _
 have aC:O.Ge O2:=by rw[e2];exact aJ.set (aed _) _
 clear e2;refine ξ @rY @jv ?_;refine π (hw O2) ?_;rintro _ O3 ⟨rfl,aG⟩;refine ab @rY ?_;refine π (hp O3) ?_;rintro _ O4 ⟨rfl,aY⟩;refine ab @rY ?_;have gZ:=(aC.trans aG).trans aY;refine π (ahP O4 gZ) ?_;rintro _ O5 ⟨rfl,cY,e_,YU⟩;have h_:=gZ.N;refine ab @rY ?_;refine ν @rY ?_;exact⟨cY,by omega,fun i cs h1 h2=>YU i cs (by omega) ((gZ.hp i h1).trans h2)⟩
theorem adF (c:UInt8) (h:mz c=true) (h2:c≠36):vw [c]:=nmi (by simp[h]) (by simp) (by simpa using h2)
theorem L4 {n:Bs} {s:Int} (hn:vw n) (hs:s=0\/s=1\/s=2\/s=3\/s=4\/s=5):To (vv n v1 s):=⟨rfl,hn,.one,rfl,rfl,hs,.inl rfl,by simp[vv],by simp[vv]⟩
def gA:Gv:=⟨gS,[97],v1⟩
theorem ajh:vw [97]:=adF _ (by decide) (by decide)
theorem adG:vw [98]:=adF _ (by decide) (by decide)
theorem Tq:vw [99]:=adF _ (by decide) (by decide)
theorem L5 {O:VH} {k ke kv ce cv:Nat} {E V:fI} {r a:Int} {S:List (Gv×List Dp)} (h:ob O k (rowsOf S) E V ke kv ce cv r a) {n v:Bs} {D:List Dp} {tk:Tok} {ds:List MV} {l:Nat} (r9:ds=D.flatMap aU) (hl:l=D.length) (hc:Calm ⟨gS,n,v⟩ D) (ec:∀p∈S,p.1≠⟨gS,n,v⟩) (hS:S.length<1024):
  VF Tryz.prog 21 [.ptr k 0,.str n,.str v,.sl l ds tk] O (aE fun m O'=>m=mb true/\(∃E' V' SI SJ,ob O' k (rowsOf (S++[(⟨gS,n,v⟩,D)])) E' V' ke kv SI SJ r a)/\O.N<=O'.N/\∀i cs,i<O.N->O.hp i=some (.cells cs)->O'.hp i=some (.cells cs)):=by
 subst r9;subst hl
 exact ajg h n v D tk hc ec hS
def bnB (b:Br):Bn:=⟨b.up,b.dp,b.od,b.k,b.v,false,b.v,0,[],.ar,b.sc,b.rd⟩
theorem Qi:Calm gA [vv [98] v1 0,vv [99] v1 0]:=⟨rfl,ajh,.one,by simp[L4 adG,L4 Tq],by simp[vv],by simp⟩
section
variable {G H:Gh} {n:Sz} {D:List Deferred} {e e':Env} {a:Act} {P:Program} {tab:cg} {O O':VH} {w:World} {m m':MV} {u v:Value} {ops:Array Oper} {Q:VQ} {c d:Code}
def Tr (ops:Array Oper):Bool:=ops.all fun o=>match o.op with
 | .defer _=>false
 | _=>true
theorem Zi {o:Oper} {i:Nat} (h:Tr ops=true) (ho:ops[i]?=some o):∀c,o.op≠ .defer c:=fun c hc=>by
 have:=Array.all_eq_true'.1 h o (Array.mem_of_getElem? ho);rw[hc]at this;cases this
def Zj (ro:Option Nat):Fence:={Fence.wide with round:=ro}
theorem xe {ro:Option Nat} {Q:Exit->Act->World->Prop} {K:Act->World->Prop} (hL:¬LetsOut Q) (hd:ro=none\/Tr ops=true) (l2:List Nat) (hK:∀a w,K a w->wpOpsIn (Zj ro) 0 P ops Q l2 a w):
  ∀(l1:List Nat) (a:Act) (w:World),wpOps P ops (Exit.then K Q) l1 a w->wpOpsIn (Zj ro) 0 P ops Q (l1++l2) a w:=by
 intro l1;induction l1 with
 | nil=>intro a w h;exact hK a w h
 | cons i rest ih=>
   intro a w h;simp only[wpOps]at h;simp only[zW,wpOpsIn];cases ho:ops[i]? with
   | none=>simp only[ho]at h;exact ih a w h
   | some o=>
     simp only[ho]at h;by_cases hw:Region.wanted o (yielded ops a.tmps)=true
     ·simp only[hw,if_true]at h ⊢;have hL':¬LetsOut (Exit.then K Q):=hL;rcases h with h | h
      ·refine⟨fun _ _=>trivial,?_⟩
       have hs:o.semAt ro a.eval=execOp a.eval o:=by
        rcases hd with rfl | hd
        ·rfl
        ·exact Oper.semAt_eq _ _ _ (Zi hd ho)
       show o.uponIn (Zj ro) 0 P a _ Q ((o.semAt ro a.eval).run P w);rw[hs];unfold Oper.wp at h;generalize (execOp a.eval o).run P w=r at h ⊢;cases r with
       | ok nx w'=>
         cases nx with
         | value v=>exact ih _ _ h
         | skip=>exact ih _ _ h
         | «defer» d=>exact ih _ _ h
         | enter f args=>
           refine⟨(fun h=>by cases h),?_⟩;have h1:CallsIn (Zj ro) (0 - 1) P f args w' _:=callsIn_wide.2 h;refine h1.mono ?_;intro x HE hx;cases x with
           | returned v=>exact ih _ _ hx
           | panicked c=>exact hx
           | outgrown=>exact absurd hx hL'
         | row row args=>
           refine⟨(fun h=>by cases h),?_⟩;intro c cs _;obtain⟨v,HE,r,s⟩:=h c cs;exact⟨v,HE,ih _ _ r,stepsIn_wide.2 s⟩
         | _=>exact h.elim
       | halt x w'=>
         cases x<;>first
          | exact h
          | exact False.elim h
      ·exact absurd h.2 hL'
     ·simp only[hw,if_false,ajy]at h ⊢;exact⟨fun _ _=>trivial,ih _ _ h⟩
theorem CN:¬LetsOut (cN G n D Q):=by
 rintro⟨a,w,x,e,O,H,_,_,_,h,_⟩;cases x<;>exact h
theorem then_self {Q:Exit->Act->World->Prop}:Exit.then (Q .normal) Q=Q:=by
 funext y a w
 cases y<;>rfl
def Ih (P:Program) (n:Sz) (y:Nat) (c:Code) (e:Env) (O:VH) (Q:VQ):Prop:=∀G a w,WR G O w->FR G n [] e a->c.wpIn (Zj (some y)) 0 P (cN G n [] Q) a w
theorem L6 (l:List Oper) (L:List Oper) (k:Nat) (hL:∀j,L[j]?=none\/L[j]?=l[k+j]?) (h:VL P n D .plain ⟨l⟩ (L.map (Fl.one, ·)) e O Q):iT P n D ⟨l⟩ (List.range' k L.length) e O Q:=by
 have:=h 0 #[] _ (vV (ops:=⟨l⟩) L k fun j=>by simpa using hL j) (fun h=>absurd rfl h);simp only[Z7,List.map_map]at this;rw[show((fun x:Nat×Fl=>x.1) ∘ fun x=>(x,Fl.one))=_root_.id from rfl,List.map_id]at this;exact this
theorem Ih.region {y id:Nat} {l:List Oper} (h:WL P tab n [] .plain ⟨l⟩ Q (l.map (Fl.one, ·)) e O) (ht:aP P tab:=by exact aa) (hd:Tr ⟨l⟩=true:=by kernel_rfl):Ih P n y (.region id ⟨l⟩ false) e O Q:=by
 intro G a w hw hf;have h1:=L6 l l 0 (fun j=>.inr (by simp)) (WL.sound ht h);refine wpIn_region ?_;rw[show(⟨l⟩:Array Oper).size=l.length from rfl,List.range_eq_range', <-ajz (List.range' 0 l.length)];exact xe (K:=cN G n [] Q .normal) CN (.inr hd) [] (fun _ _ h=>h) _ a w (by rw[then_self];exact h1 G a w hw hf)
theorem Ih.block {y id:Nat} (h:Ih P n y c e O (iV id Q)):Ih P n y (.block id c) e O Q:=by
 intro G a w hw hf;refine wpIn_block (wpIn_mono (h G a w hw hf) ?_);rintro y a' w' ⟨x,e',O',H,h1,h2,h3,h4,h5⟩;cases y with
 | exit j=>
   cases x with
   | exit i=>
     obtain rfl:i=j:=h4;simp only[Exit.inBlock];simp only[iV]at h5;split
     ·rename_i hi;rw[if_pos hi]at h5;exact⟨.normal,e',O',H,h1,h2,h3,trivial,h5⟩
     ·rename_i hi;rw[if_neg hi]at h5;exact⟨.exit i,e',O',H,h1,h2,h3,rfl,h5⟩
   | _=>exact False.elim h4
 | _=>cases x<;>first
   | exact False.elim h4
   | exact⟨_,e',O',H,h1,h2,h3,h4,h5⟩
def VY (P:Program) (y:Nat) (ms:List MV) (O:VH) (R:MV->VH->Prop):Prop:=∀G w vs,WR G O w->aS G ms vs->YieldAt Fence.wide 0 P y vs.toArray w fun x w'=>∃v m O' H,x= .returned v/\Gh.Le G H/\WR H O' w'/\VR H m v/\R m O'
def lpF (k y:Nat) (ts:Array Value) (n:Sz) (e:Env):GP:=⟨fun G=>G.bV k=some y/\FR G n [] e {tmps:=ts,defers:=[]},fun hl h=>⟨hl.bV h.1,h.2.mono hl⟩⟩
def su:List Tmp->List MV->Env->Env
 | t::ts,m::ms,e=>su ts ms ((t,m)::e)
 | _,_,e=>e
theorem FR.su:∀{ps:List Tmp} {ms:List MV} {vs:List Value} {e:Env} {ts:Array Value},FR G n D e {tmps:=ts,defers:=D}->aS G ms vs->ps.all (fun t=>decide (t<n.n))=true->
  FR G n D (su ps ms e) {tmps:=(ps.zip vs).foldl (fun t (p:Tmp×Value)=>t.setIfInBounds p.1 p.2) ts,defers:=D}
 | [],ms,vs,e,ts,h,_,_=>by simpa[Go.Proofs.YtjpadehgejlebaaGreatDoor.su]using h
 | t::ps,[],vs,e,ts,h,hv,_=>by rw[hv.iP];simpa[Go.Proofs.YtjpadehgejlebaaGreatDoor.su]using h
 | t::ps,m::ms,vs,e,ts,h,hv,ha=>by
   obtain⟨u,us,rfl,h1,h2⟩:=hv.eW;simp only[List.all_cons,ans,decide_eq_true_eq]at ha;exact FR.su (ps:=ps) (h.put ha.1 h1) h2 ha.2
def RdB (k:Nat) (r:Loop) (R:MV->VH->Prop):VQ:=fun x _ O2=>x= .normal/\O2.hp k=some (.obj (.loop {r with state:=.busy}))/\R (.v (.bool true)) (O2.set k (.obj (.loop {r with pending:=none})))
def RdA (P:Program) (n:Sz) (y k:Nat) (r:Loop) (body:Code) (R:MV->VH->Prop):VQ:=fun x e1 O1=>x= .normal/\O1.hp k=some (.obj (.loop r))/\Ih P n y body e1 (O1.set k (.obj (.loop {r with state:=.busy}))) (RdB k r R)
theorem VY.round {y k j:Nat} {r:Loop} {ps:List Tmp} {ms:List MV} {R:MV->VH->Prop} (hk:O.hp k=some (.obj (.loop r))) (hj:O.hp j=some (.fact (lpF k y r.tmps n e))) (hr:r.state= .ready) (hp:r.params.toList=ps) (hn:ps.all (fun t=>decide (t<n.n))=true) (hl:ms.length=ps.length)
  (h:Ih P n y r.assign (su ps ms e) O (RdA P n y k r r.body R)):VY P y ms O R:=by
 intro G w vs hw hv;obtain⟨b,hb,hh⟩:=hw.obj k _ hk;obtain⟨eS,aV⟩:=hw.B0 j _ hj;rw[eS]at hb;injection hb with hb;subst hb
 have p7:vs.toArray.size=r.params.size:=by
  rw[show vs.toArray.size=vs.length from rfl,hv.1,hl, <-hp];rfl
 refine⟨r.fn,_,r.assign,r.body,run_yield hh p7,roundIn_of_wpIn trivial ?_⟩
 have alZ:FR G n [] (su ps ms e) {tmps:=(r.params.zip vs.toArray).foldl (fun t (p:Tmp×Value)=>t.setIfInBounds p.1 p.2) r.tmps,defers:=[]}:=by
  rw[<-Array.foldl_toList,Array.toList_zip,hp];exact FR.su aV hv hn
 refine wpIn_mono (h G _ w hw alZ) ?_;rintro x a1 w1 ⟨x',e1,O1,H,g1,g2,g3,g4,rfl,cA,aji⟩
 cases x<;>first
  | exact False.elim g4
  | skip
 have adH:=g1.bV eS;obtain⟨b,hb,hh1⟩:=g2.obj k _ cA;rw[adH]at hb;injection hb with hb;subst hb
 have sJ:=g2.setObj (Y:=.loop {r with state:=.busy}) cA adH (fun _ _ _ e=>by cases e);refine⟨_,run_beginRound hh1 hr,wpIn_mono (aji H a1 _ sJ g3) ?_⟩;rintro x a2 w2 ⟨x',e2,O2,H2,q1,q2,q3,q4,rfl,bN,hR⟩
 cases x<;>first
  | exact False.elim q4
  | skip
 have ahQ:=q1.bV adH;obtain⟨b,hb,hh2⟩:=q2.obj k _ bN;rw[ahQ]at hb;injection hb with hb;subst hb
 refine⟨_,_,run_endRound none hh2,_,_,_,H2,rfl,g1.trans q1,q2.setObj bN ahQ (fun _ _ _ e=>by cases e),.v rfl,?_⟩;have:({r with state:=.ready,pending:=none}:Loop)={r with pending:=none}:=by rw[<-hr]
 simp only[Option.isNone_none,if_true];rw[this];exact hR
def YW (P:Program) (tab:cg) (n:Sz) (D:List Deferred) (l:List Oper) (k:Nat) (o:Oper) (x:Operand) (as_:Array Operand) (Q:VQ):VQ:=fun z e1 O1=>z= .normal/\∃y ms R,aO ⟨l⟩ o e1=some true/\ev e1 x=some (.func (.yield y) [] [])/\gh e1 as_.toList=some ms/\bD n o.dst=true/\VY P y ms O1 R/\
   ∀m O',R m O'->WL P tab n D .plain ⟨l⟩ Q ((l.drop (k+1)).map (Fl.one, ·)) (aZ o.dst m e1) O'
theorem YW.mk {l:List Oper} {k:Nat} {o:Oper} {x:Operand} {as_:Array Operand} {y:Nat} {ms:List MV} {R:MV->VH->Prop} (hv:VY P y ms O R) (h:∀m O',R m O'->WL P tab n D .plain ⟨l⟩ Q ((l.drop (k+1)).map (Fl.one, ·)) (aZ o.dst m e) O') (h1:aO ⟨l⟩ o e=some true:=by exact rfl) (h2:ev e x=some (.func (.yield y) [] []):=by exact rfl) (h3:gh e as_.toList=some ms:=by exact rfl) (h4:bD n o.dst=true:=by exact rfl):YW P tab n D l k o x as_ Q .normal e O:=
 ⟨rfl,y,ms,R,h1,h2,h3,h4,hv,h⟩
theorem VC.yield {id:Nat} (k:Nat) {l:List Oper} {o:Oper} {ca:Call} {x:Operand} (hk:l[k]?=some o) (vH:o.op= .call ca) (hc:ca.callee= .value x)
  (h:WL P tab n D .plain ⟨l⟩ (YW P tab n D l k o x ca.args Q) ((l.take k).map (Fl.one, ·)) e O) (ht:aP P tab:=by exact aa):VC P n D (.region id ⟨l⟩ false) e O Q:=by
 intro G a w hw hf;have fF:k<l.length:=(VI.1 hk).1;rw[<-wpIn_wide (n:=0)];refine wpIn_region ?_;have hlen:(l.take k).length=k:=by rw[List.length_take];omega
 have h1:=L6 l (l.take k) 0 (fun j=>by
  by_cases hj:j<k
  ·rw[List.getElem?_take,if_pos hj,anc];exact .inr rfl
  ·exact .inl (by rw[List.getElem?_take,if_neg hj])) (WL.sound ht h)
 rw[hlen]at h1
 have agb:List.range (⟨l⟩:Array Oper).size=List.range' 0 k++k::List.range' (k+1) (l.drop (k+1)).length:=by
  rw[show(⟨l⟩:Array Oper).size=l.length from rfl,List.range_eq_range',anC];obtain⟨j,hj⟩:∃j,l.length=k+(j+1):=⟨l.length - k - 1,by omega⟩
  rw[hj,show k+(j+1) - (k+1)=j from by omega, <-List.range'_append_1,anc,List.range'_succ]
 rw[agb]
 refine xe (ro:=none) (K:=fun a1 w1=>∃e1 O1 H,Gh.Le G H/\WR H O1 w1/\FR H n D e1 a1/\∃y ms R,aO ⟨l⟩ o e1=some true/\ev e1 x=some (.func (.yield y) [] [])/\gh e1 ca.args.toList=some ms/\bD n o.dst=true/\VY P y ms O1 R/\
   ∀m O',R m O'->WL P tab n D .plain ⟨l⟩ Q ((l.drop (k+1)).map (Fl.one, ·)) (aZ o.dst m e1) O') CN (.inl rfl) _ ?_ _ a w ?_
 ·rintro a1 w1 ⟨e1,O1,H,g1,g2,g3,y,ms,R,q1,q2,q3,q4,q5,q6⟩;have F6:(⟨l⟩:Array Oper)[k]?=some o:=by simpa using hk
  simp only[wpOpsIn,F6,bC g3 q1,if_true];refine⟨fun _ _=>trivial,?_⟩;have vI:=g3.ev q2;generalize Ak:a1.eval x=fv at vI;cases vI with
  | func h1 h2 h3 h4=>
    rename_i us vs;have jC:us=[]:=ajv h1;have oY:vs=[]:=ajv h3;subst jC;subst oY
    have iN:=g3.gh q3;obtain⟨fn,tmps,asg,body,cD,agc⟩:=q5 H w1 _ g2 iN
    have hex:(execOp a1.eval o).run P w1= .ok (.round y fn tmps asg body) w1:=by
     have ha: #[]++ca.args.map a1.eval=(ca.args.toList.map a1.eval).toArray:=by apply Array.ext';simp
     simp only[execOp,vH,resolve,hc,Ak,Deferred.ofValue,Sem.run_bind,Sem.run_pure,Result.andThen_ok,invoke];rw[ha];exact cD
    show o.uponIn (Zj none) 0 P a1 _ _ ((execOp a1.eval o).run P w1);rw[hex,Oper.uponIn_round];refine⟨(fun h=>by cases h),RoundIn.mono agc ?_⟩;rintro x w2 ⟨v,m,O',H2,rfl,p1,p2,p3,p4⟩;have h2:=L6 l (l.drop (k+1)) (k+1) (fun j=>.inr (by rw[List.getElem?_drop])) (WL.sound ht (q6 m O' p4));have h3:=h2 H2 (a1.put o.dst v) w2 p2 ((g3.mono p1).aZ q4 p3);have h4:=mV (fun _ _ _=>cN.le (g1.trans p1)) _ _ _ h3;have:=xe (ro:=none) (K:=cN G n D Q .normal) CN (.inl rfl) [] (fun _ _ h=>h) _ _ w2 (by rw[then_self];exact h4);rw[ajz]at this;exact this
 ·refine mV ?_ _ _ _ (h1 G a w hw hf);rintro y a1 w1 ⟨z,e1,O1,H,g1,g2,g3,g4,rfl,g5⟩
  cases y<;>first
   | exact False.elim g4
   | exact⟨e1,O1,H,g1,g2,g3,g5⟩
def Qj (G:Gh):List Nat->List Deferred->Prop
 | [],[]=>True
 | j::js,d::D=>(∃b,G.bV j=some b/\d={target:=.collected b,args:= #[]})/\Qj G js D
 | _,_=>False
theorem Qj.mono (h:G.Le H):∀{js:List Nat} {D:List Deferred},Qj G js D->Qj H js D
 | [],[],_=>trivial
 | _::_,_::_,⟨⟨b,h1,h2⟩,h3⟩=>⟨⟨b,h.bV h1,h2⟩,h3.mono h⟩
 | [],_::_,h=>h.elim
 | _::_,[],h=>h.elim
abbrev Ii:=VX->Env->VH->List Nat->Prop
def qh (G:Gh) (n:Sz) (Q:Ii):Exit->Act->World->Prop:=fun y a w=>∃x e O H js D,Gh.Le G H/\WR H O w/\FR H n D e a/\Qj H js D/\XR H x y/\Q x e O js
theorem qh.le (h:G.Le H) {Q:Ii} {y:Exit} (hp:qh H n Q y a w):qh G n Q y a w:=by
 obtain⟨x,e,O,K,js,D,h1,h2⟩:=hp;exact⟨x,e,O,K,js,D,h.trans h1,h2⟩
def VM (P:Program) (n:Sz) (js:List Nat) (c:Code) (e:Env) (O:VH) (Q:Ii):Prop:=∀G D a w,WR G O w->Qj G js D->FR G n D e a->c.wp P (qh G n Q) a w
def kO (P:Program) (n:Sz) (js:List Nat) (c:Code) (Q:Ii):Env->VH->Prop:=fun e O=>VM P n js c e O Q
def AtM (Q:Ii) (js:List Nat):VQ:=fun x e O=>Q x e O js
variable {js:List Nat} {M:Ii}
theorem FRX.fr {x:VX} (h:FRX G n D x e a):FR G n D e a:=by
 cases x<;>first
  | exact h
  | exact h.2
theorem kO.mk (h:VM P n js c e O M):kO P n js c M e O:=h
theorem VM.HQ (h:∀D,VC P n D c e O (AtM M js)):VM P n js c e O M:=fun G D a w hw hm hf=>wp_mono (h D G a w hw hf) fun y a' w' ⟨x,e',O',H,h1,h2,h3,h4,h5⟩=>⟨x,e',O',H,js,D,h1,h2,h3.fr,hm.mono h1,h4,h5⟩
theorem VM.ag (h:∀D,VC P n D c e O (rJ (kO P n js d M) (AtM M js))):VM P n js (.seq c d) e O M:=by
 intro G D a w hw hm hf;refine wp_seq (wp_mono (h D G a w hw hf) ?_);rintro y a1 w1 ⟨x,e',O',H,g1,g2,g3,g4,g5⟩
 cases y<;>cases x<;>first
  | exact False.elim g4
  | exact wp_mono (g5 H D a1 w1 g2 (hm.mono g1) g3) fun _ _ _=>qh.le g1
  | exact⟨_,e',O',H,js,D,g1,g2,g3.fr,hm.mono g1,g4,g5⟩
  | exact⟨_,e',O',H,js,D,g1,g2,g3,hm.mono g1,g4,g5⟩
theorem VM.rZ (h:∀D,WC P tab n D c e O (rJ (kO P n js d M) (AtM M js))) (ht:aP P tab:=by exact aa):VM P n js (.seq c d) e O M:=VM.ag fun D=>WC.sound ht (h D)
theorem VM.seq (h:VM P n js c e O fun x e O js=>match x with
  | .normal=>VM P n js d e O M
  | x=>M x e O js):VM P n js (.seq c d) e O M:=by
 intro G D a w hw hm hf;refine wp_seq (wp_mono (h G D a w hw hm hf) ?_);rintro y a1 w1 ⟨x,e',O',H,xf,D',g1,g2,g3,g4,g5,g6⟩
 cases y<;>cases x<;>first
  | exact False.elim g5
  | exact wp_mono (g6 H D' a1 w1 g2 g4 g3) fun _ _ _=>qh.le g1
  | exact⟨_,e',O',H,xf,D',g1,g2,g3,g4,g5,g6⟩
theorem VM.join {σ :Type} (l:List Nat) (ms: σ ->List MV) (I: σ ->VH->List Nat->Prop) (h1:VM P n js c e O fun x e O js=>match x with
  | .normal=>∃s,looks e l=some (ms s)/\I s O js
  | x=>M x e O js) (h2:∀s O js,I s O js->VM P n js d (jE l (ms s) []) O M):VM P n js (.seq c d) e O M:=by
 refine VM.seq fun G D a w hw hm hf=>wp_mono (h1 G D a w hw hm hf) ?_
 rintro y a1 w1 ⟨x,e',O',H,xf,D',g1,g2,g3,g4,g5,g6⟩;cases x with
 | normal=>
   obtain⟨s,h3,h4⟩:=g6;exact⟨.normal,jE l (ms s) [],O',H,xf,D',g1,g2,g3.less (iX (e0:=[]) (fun t x h=>by simp[look]at h) h3),g4,g5,h2 s O' xf h4⟩
 | _=>exact⟨_,e',O',H,xf,D',g1,g2,g3,g4,g5,g6⟩
theorem VM.cond {x:Operand} {t:Bool} {c1 c2:Code} (hc:ev e x=some (mb t)) (h:VM P n js (if t then c1 else c2) e O M):VM P n js (.cond x c1 c2) e O M:=by
 intro G D a w hw hm hf;have hv:=hf.ev hc;generalize hx:a.eval x=u at hv;have:=VR.je hv;subst this;exact wp_cond hx (h G D a w hw hm hf)
def JU (id:Nat) (M:Ii):Ii:=fun x e O js=>match x with
 | .exit i=>if i=id then M .normal e O js else M (.exit i) e O js
 | x=>M x e O js
theorem JU.ex {id:Nat} (h:M .normal e O js):AtM (JU id M) js (.exit id) e O:=by
 show(if id=id then M .normal e O js else M (.exit id) e O js);rw[if_pos rfl];exact h
theorem VM.block {id:Nat} (h:VM P n js c e O (JU id M)):VM P n js (.block id c) e O M:=by
 intro G D a w hw hm hf;refine wp_block (wp_mono (h G D a w hw hm hf) ?_);rintro y a' w' ⟨x,e',O',H,xf,D',h1,h2,h3,h4,h5,h6⟩;cases y with
 | exit j=>
   cases x with
   | exit i=>
     obtain rfl:i=j:=h5;simp only[Exit.inBlock];simp only[JU]at h6;split
     ·rename_i hi;rw[if_pos hi]at h6;exact⟨.normal,e',O',H,xf,D',h1,h2,h3,h4,trivial,h6⟩
     ·rename_i hi;rw[if_neg hi]at h6;exact⟨.exit i,e',O',H,xf,D',h1,h2,h3,h4,rfl,h6⟩
   | _=>exact False.elim h5
 | _=>cases x<;>first
   | exact False.elim h5
   | exact⟨_,e',O',H,xf,D',h1,h2,h3,h4,h5,h6⟩
theorem VM.loop {σ :Type} {ks:List MV} (l K:List Nat) (ms: σ ->List MV) (I: σ ->VH->List Nat->Prop) (μ : σ ->Nat) (s0: σ) (hI:I s0 O js)
  (step:∀s O js,I s O js->VM P n js c (jE l (ms s) (jE K ks [])) O fun x e' O' xf=>match x with
   | .normal=>looks e' K=some ks/\∃s',looks e' l=some (ms s')/\I s' O' xf/\ μ s'< μ s
   | x=>M x e' O' xf) (h0:looks e l=some (ms s0):=by exact rfl) (hk:looks e K=some ks:=by exact rfl):VM P n js (.loop c) e O M:=by
 intro G D a w hw hm hf;refine wp_loop_rounds (μ s0+1) ?_
 suffices h:∀(k:Nat) (s: σ) (e:Env) (O:VH) (js:List Nat) (G:Gh) (D:List Deferred) (a:Act) (w:World), μ s=k->looks e l=some (ms s)->looks e K=some ks->I s O js->WR G O w->Qj G js D->FR G n D e a->Code.rounds P c (qh G n M) (k+1) a w from
  h _ s0 e O js G D a w rfl h0 hk hI hw hm hf
 intro k;induction k using Nat.strongRecOn with
 | _ k ih=>
   intro s e O js G D a w hs hl hK hI hw hm hf;rw[rounds_succ];refine wp_mono (step s O js hI G D a w hw hm (hf.less (iX (iX (e0:=[]) (fun t x h=>by simp[look]at h) hK) hl))) ?_;rintro y a' w' ⟨x,e',O',H,xf,D',h1,h2,h3,h4,h5,h6⟩
   cases y<;>cases x<;>first
    | exact False.elim h5
    | exact⟨_,e',O',H,xf,D',h1,h2,h3,h4,h5,h6⟩
    | (obtain⟨q1,s',q2,q3,q4⟩:=h6
       exact zA (μ s'+1) k a' w' (by omega) (tW (fun _ _ _=>qh.le h1) _ _ _ (ih (μ s') (by omega) s' e' O' xf H D' a' w' rfl q2 q1 q3 h2 h4 h3)))
theorem WR.Zk (h:WR G O w) (p:GP) (hp:p.p G):WR G (O.push (.fact p)) w:=by
 have hne:∀{j x},bH O.hp O.N (some (.fact p)) j=some x->(∀q,x≠ .fact q)->O.hp j=some x:=fun{j x} hj hx=>by
  by_cases e:j=O.N
  ·subst e;rw[aK]at hj;injection hj with hj;exact absurd hj.symm (hx _)
  ·rwa [ay _ _ e]at hj
 have j6:∀j b,G.bV j=some b->bH O.hp O.N (some (.fact p)) j≠none->O.hp j≠none:=fun j b hj hn=>by
  rwa [ay _ _ (fun e=>by subst e;rw[h.ng.1]at hj;cases hj)]at hn
 refine⟨h.base,h.eN,fun j hj=>?_,fun j c hj=>?_,fun i j c li lj hi hj=>h.inj i j c (j6 i c hi li) (j6 j c hj lj) hi hj,fun j cs hj=>h.cells j cs (hne hj (by simp)),fun j es ck hj=>h.map j es ck (hne hj (by simp)),fun t ht=>h.tok t (hne ht (by simp)),fun s t c x y hs ht=>h.me s t c x y (hne hs (by simp)) (hne ht (by simp)),fun j k' t' n' hj=>h.oV j k' t' n' (hne hj (by simp)),fun j x hj=>h.obj j x (hne hj (by simp)),h.rA,fun j q hj=>?_⟩
 ·have hj:O.N+1<=j:=hj;obtain⟨h1,h2,h3⟩:=h.ql j (by omega);exact⟨h1,h2,by show bH _ _ _ _=_;rw[ay _ _ (by omega)];exact h3⟩
 ·obtain⟨p1,p2,p3⟩:=h.kH j c hj;exact⟨p1,p2,fun hn=>p3 (j6 j c hj hn)⟩
 ·have hj:bH O.hp O.N (some (.fact p)) j=some (.fact q):=hj;by_cases e:j=O.N
  ·subst e;rw[aK]at hj;injection hj with hj;injection hj with hj;subst hj;exact hp
  ·rw[ay _ _ e]at hj;exact h.B0 j q hj
def lpO (O:VH) (r:Loop) (y:Nat) (n:Sz) (e:Env):VH:=((O.push (.obj (.deferred (some [])))).push (.obj (.loop r))).push (.fact (lpF (O.N+1) y r.tmps n e))
theorem VM.agd {g:Operand} {ps:Array Tmp} {asg body:Code} {gf:FuncId} {cs:List MV} (hg:ev e g=some (.func (.func gf) [] cs)) (hE:Enters P gf)
  (hit:∀(y:Nat) (r:Loop) (F:VH),F=lpO O r y n e->r.state= .ready->r.pending=none->r.params=ps->r.assign=asg->r.body=body->VF P gf (.func (.yield y) [] []::cs) F
   (aE fun _ O'=>O'.hp (O.N+1)=some (.obj (.loop r))/\M .normal e (O'.set (O.N+1) (.obj (.loop {r with state:=.exhausted}))) (O.N::js))):
  VM P n js (.rangeFunc g ps asg body) e O M:=by
 intro G D a w hw hm hf;rw[<-wpIn_wide (n:=0)];refine wpIn_rangeFunc ?_;intro fn _;have vI:=hf.ev hg;generalize Ak:a.eval g=fv at vI;cases vI with
 | func h1 h2 h3 h4=>
   rename_i us vs;have jC:us=[]:=ajv h1;subst jC;obtain⟨r,hr⟩:∃r:Loop,r={state:=.ready,pending:=none,fn,tmps:=a.tmps,params:=ps,assign:=asg,body,defers:=w.heap.size}:=⟨_,rfl⟩
   obtain⟨le1,w1⟩:=hw.NH (.deferred (some []));obtain⟨Ts,w2⟩:=w1.NH (.loop r);rw[size_alloc]at Ts w2;generalize hG1:({G with bV:=bH G.bV O.N (some w.heap.size)}:Gh)=G1 at le1 w1 Ts w2;generalize hG2:({G1 with bV:=bH G1.bV (O.push (.obj (.deferred (some [])))).N (some (w.heap.size+1))}:Gh)=G2 at Ts w2;have p1:G1.bV O.N=some w.heap.size:=by rw[<-hG1];exact aK _ _ _
   have p2:G2.bV (O.N+1)=some (w.heap.size+1):=by rw[<-hG2];exact aK _ _ _
   have jx:r.tmps=a.tmps:=by rw[hr]
   have al0:FR G2 n [] e {tmps:=r.tmps,defers:=[]}:=by
    rw[jx];exact(show FR G n [] e {tmps:=a.tmps,defers:=[]}from⟨rfl,hf.size,hf.get⟩).mono (le1.trans Ts)
   have w3:=w2.Zk (lpF (O.N+1) (w.heap.size+1) r.tmps n e) ⟨p2,al0⟩;have gN:aS G2 cs vs:=aS.mono (le1.trans Ts) ⟨h3,h4⟩;have ajj:=hit (w.heap.size+1) r _ rfl (by rw[hr]) (by rw[hr]) (by rw[hr]) (by rw[hr]) (by rw[hr]) G2 _ (.func (.yield (w.heap.size+1)) #[] #[]::vs) w3 (aS.cons (.func (us:=[]) (vs:=[]) rfl (fun i c u h=>by simp at h) rfl (fun i c u h=>by simp at h)) gN);refine⟨w.heap.size+1,[{target:=.collected w.heap.size,args:= #[]}],(w.alloc (.deferred (some []))).alloc (.loop r),{target:=.fn (.func gf) vs.toArray,args:= #[.func (.yield (w.heap.size+1)) #[] #[]]},(w.alloc (.deferred (some []))).alloc (.loop r),gf,(.func (.yield (w.heap.size+1)) #[] #[]::vs).toArray,(w.alloc (.deferred (some []))).alloc (.loop r),?_,?_,fun _ _=>trivial,?_,(fun h=>by cases h),?_⟩
   ·rw[hr];exact run_enterLoop_outer _ _ _ _ _
   ·simp only[resolve,Ak];simp[go_sem]
   ·have:(#[.func (.yield (w.heap.size+1)) #[] #[]]++vs.toArray:Array Value)=(.func (.yield (w.heap.size+1)) #[] #[]::vs).toArray:=by apply Array.ext';simp
    show(callFunc gf (#[.func (.yield (w.heap.size+1)) #[] #[]]++vs.toArray)).run P _=_;rw[this];exact hE _ _
   ·refine(callsIn_wide.2 ajj).mono ?_;rintro x w4 ⟨rr,O4,H,q1,q2,q3,q4⟩;cases rr with
    | panic m=>exact q4.elim
    | ret m=>
      cases x with
      | panicked c=>exact q3.elim
      | outgrown=>exact q3.elim
      | returned v=>
        obtain⟨lX,hM⟩:=q4;have ahR:=q1.bV p2;obtain⟨b,hb,hh4⟩:=q2.obj _ _ lX;rw[ahR]at hb;injection hb with hb;subst hb
        have hle:Gh.Le G H:=le1.trans (Ts.trans q1);refine⟨r.pending,_,run_endLoop hh4 (by rw[hr];simp),?_⟩
        have pd:qh G n M .normal {tmps:=a.tmps,defers:=[{target:=.collected w.heap.size,args:= #[]}]++a.defers} (w4.putObj (w.heap.size+1) (.loop {r with state:=.exhausted})):=
         ⟨.normal,e,_,H,O.N::js,{target:=.collected w.heap.size,args:= #[]}::D,hle,q2.setObj lX ahR (fun _ _ _ e=>by cases e),⟨by show _::a.defers=_;rw[hf.defers],hf.size,(hf.mono hle).get⟩,⟨⟨w.heap.size,q1.bV (Ts.bV p1),rfl⟩,hm.mono hle⟩,trivial,hM⟩
        generalize w4.putObj (w.heap.size+1) (.loop {r with state:=.exhausted})=w5 at pd;split
        ·exact pd
        ·rename_i c hc;rw[hr]at hc;cases hc
theorem yX {fn:Func} {tmps:Array Value} {R:Ending->World->Prop} {N:Nat}:∀(js:List Nat) (D:List Deferred) (G:Gh) (O:VH) (w:World),Qj G js D->WR G O w->js.Nodup->(∀j∈js,O.hp j=some (.obj (.deferred (some []))))->
  (∀O' w',WR G O' w'->O'.N=O.N->(∀i,i ∉ js->O'.hp i=O.hp i)->∃v,(results fn tmps).run P w'= .ok v w'/\R (.returned v) w')->LeavesInM Fence.wide N P fn tmps R D .returning w
 | [],[],G,O,w,_,hw,_,_,h=>h O w hw rfl fun _ _=>rfl
 | j::js,d::D,G,O,w,⟨⟨b,hb,hd⟩,hm⟩,hw,VJ,ho,h=>by
   obtain⟨b',lK,hh⟩:=hw.obj j _ (ho j (by simp));rw[hb]at lK;injection lK with lK;subst lK
   have hj:=(List.nodup_cons.1 VJ).1;have sJ:=hw.setObj (Y:=.deferred none) (ho j (by simp)) hb (fun _ _ _ e=>by cases e);refine⟨by simp,.inl ⟨b,_,by rw[hd],run_takeDeferred hh,?_⟩⟩;refine yX js D G _ _ hm sJ (List.nodup_cons.1 VJ).2 (fun i hi=>?_) fun O' w' g1 g2 g3=>h O' w' g1 g2 fun i hi=>?_
   ·rw[ρ _ _ (fun e=>hj (by rw[<-e];exact hi))];exact ho i (by simp[hi])
   ·rw[am_,not_or]at hi;rw[g3 i hi.2,ρ _ _ hi.1]
 | [],_::_,_,_,_,h,_,_,_,_=>h.elim
 | _::_,[],_,_,_,h,_,_,_,_=>h.elim
def al1 (tab:cg) (rs:List ResultVar) (R:gB->VH->Prop):Ii:=fun x e O js=>(x= .normal\/x= .ret)/\js.Nodup/\(∀j∈js,O.hp j=some (.obj (.deferred (some []))))/\∀O',O'.N=O.N->(∀i,i ∉ js->O'.hp i=O.hp i)->∃m,jo (fun r O'=>r= .ret m/\R r O') O' (iY tab e O' rs)
theorem VF.inM {f:FuncId} {fn:Func} {c:Code} {args:List MV} {R:gB->VH->Prop} (k:Nat) (rs:List ResultVar) (hf:P.funcs[f]?=some fn) (h:VM P ⟨k,0⟩ [] c (cL 0 args) O (al1 tab rs R)) (ht:aP P tab:=by exact aa) (hb:fn.body=some c:=by exact rfl) (hk:(⟨fn.ntmps,0⟩:Sz)=⟨k,0⟩:=by exact rfl) (hr:fn.results.toList=rs:=by exact rfl) (hn:args.length<=k:=by exact Nat.le_of_ble_eq_true rfl):VF P f args O R:=by
 have hk:fn.ntmps=k:=by injection hk
 intro G w vs hw hv
 have aV:FR G ⟨k,0⟩ [] (cL 0 args) {tmps:=vs.toArray++Array.replicate (fn.ntmps - vs.toArray.size) undef,defers:=[]}:=by
  have hl:=hv.1;refine⟨rfl,by simp;omega,fun t x hx=>?_⟩;rw[iU,if_pos (anp _),Nat.sub_zero]at hx;obtain⟨u,h1,h2⟩:=hv.get hx;refine⟨u,?_,h2⟩;have ei:=(VI.1 h1).1;rw[Array.getElem?_append_left (by simpa using ei)];simpa using h1
 refine callsIn_wide.1 (callsIn_of_wp_marks (n:=0) hf hb trivial (wpIn_wide.2 (wp_mono (h G [] _ w hw trivial aV) ?_)));rintro y a' w' ⟨x,e',O',H,js,D,h1,h2,h3,h4,h5,h6,h7,h8,h9⟩
 have fin:LeavesInM Fence.wide 0 P fn a'.tmps (fun x w'=>∃r O' H,Gh.Le G H/\WR H O' w'/\ER H r x/\R r O') a'.defers .returning w':=by
  rw[h3.defers];refine yX js D H O' w' h4 h2 h7 h8 fun O2 w2 g1 g2 g3=>?_
  obtain⟨m,hm⟩:=h9 O2 g2 g3
  have key:∃m',dK tab fn e' O2=some m'/\R (.ret m') O2:=by
   unfold dK;rw[hr, <-sH];generalize iY tab e' O2 rs=z at hm;unfold jo at hm;split at hm
   ·exact hm.elim
   ·exact⟨_,rfl,hm.2⟩
   ·rename_i l hl;refine⟨.tuple l,?_,hm.2⟩
    match l,hl with
    | [],_=>rfl
    | [m],hl=>exact absurd rfl (hl m)
    | _::_::_,_=>rfl
  obtain⟨m',k1,k2⟩:=key;obtain⟨u,k3,k4⟩:=lN (P:=P) ht g1 h3 k1;exact⟨u,k3,.ret m',O2,H,h1,g1,k4,k2⟩
 cases y with
 | normal=>exact fin
 | ret=>exact fin
 | panic c=>rcases h6 with rfl | rfl<;>exact False.elim h5
 | exit i=>rcases h6 with rfl | rfl<;>exact False.elim h5
 | goto i=>rcases h6 with rfl | rfl<;>exact False.elim h5
 | outgrown=>rcases h6 with rfl | rfl<;>exact False.elim h5
end
end Go.Proofs.YtjpadehgejlebaaGreatDoor
