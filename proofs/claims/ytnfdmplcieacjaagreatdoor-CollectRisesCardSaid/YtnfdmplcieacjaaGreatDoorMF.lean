import Derived.Test.YtnfdmplcieacjaaGreatDoorME
set_option linter.unusedVariables false
set_option linter.defProp false
set_option maxHeartbeats 8000000
set_option linter.unusedSimpArgs false
namespace Go.Proofs.YtnfdmplcieacjaaGreatDoor
open Go.RowKit
open _root_.Nat renaming reduceLT → y0, reduceAdd → y10, reduceMul → y11, reduceSub → y12, reduceBEq → y14, reduceEqDiff → y16
open _root_.Int renaming reduceToNat → y18
open _root_.List renaming replicate → Μ
open _root_.Go.Proofs.Tryz
open Go.Value renaming int → Ι
open Go.IntKind renaming i64 → Κ
open _root_.List renaming length → Ζ
open _root_.Go.Proofs.Tryz renaming prog → Ε
open _root_.Option renaming some → φ, none → Β
open _root_.Bool renaming false → γ, true → Α
open _root_.List renaming getElem?_eq_getElem → Ro, length_append → TR, length_cons → ai9, getElem_mem → ai_, mem_map → aja, mem_singleton → alp, mem_of_getElem? → an2, drop_of_length_le → an4, length_map → an5, mem_of_find?_eq_some → an6, length_drop → an7, mem_iff_getElem → apF, eq_nil_of_length_eq_zero → apG, length_nil → apH, flatMap_append → apI, length_filter_le → apJ, mem_append → apK, drop_eq_getElem_cons → asc, getElem?_map → asl, mem_cons_of_mem → as0, take_length → ats, find?_eq_none → atM, map_append → aug, take_append_of_le_length → auh, flatMap_cons → aui, contains_iff_mem → auj, takeWhile_cons_of_pos → aul, mem_cons_self → auo, map_map → aup, any_eq_false → auq, take_of_length_le → aus, any_eq_true → aut, mem_cons → auu, getElem?_eq_none → auv, getElem?_modify → auw, mem_filter → auz, getElem?_range → auB, drop_zero → auC, filter_append → auE, takeWhile_cons_of_neg → auG, append_assoc → auH, getElem?_eq_some_iff → auI, ext_getElem? → auJ, take_append_getElem → auL, nil_append → auM, length_set → auN, append_nil → auO
open _root_.Nat renaming le_refl → Rn, lt_of_lt_of_le → abT, le_trans → aev, zero_le → ai8, lt_succ_self → an3, zero_add → auk, le_succ → aun, lt_or_ge → auA, lt_of_lt_of_eq → auD, add_sub_cancel → auF
open _root_.And renaming intro → ahB
open _root_.Option renaming map_eq_some_iff → aur, map_some → auy
open _root_.Int renaming lt_irrefl → auK
open _root_.Bool renaming and_eq_true → apE, eq_iff_iff → aum
variable{listed:Array Bool}{af:Array Edge}{f:FuncId}{Ψ:Gh->Prop}{a r:Int}{L:List (Bs×Bs)}{S:List (Gv×Bs)}{l:List (List UInt8)}{cs ms:List MV}{brk:List Nat}{s:List UInt8}{p y z:MV}{B N b ba bb ce ck cr cv fuel i k kd ke kr kv n sz tb:Nat}{A:Nat×Nat}{x:Operand}{g:Option (Nat×Bool)}{q:Option Nat}{d:Option Tmp}{Z:Prop}{ps:String}{tk:Tok}{O O' O1 O2:VH}{J K:VH->Prop}{st:cT}{R:eL}{E M V:gx}
set_option maxRecDepth 10000
def GR.uJ{el:TypeId}{L:Η}{t:TypeId}{a:Nat}{z:Η}(h:GR O el sz B p n L):uJ (φ ⟨.slice t,a,b,z⟩) p=φ (.v (Ι Κ n)):=by
 rcases h with⟨rfl,_,rfl | rfl⟩ | ⟨k,c,rfl,_,_,_⟩;rfl;rfl;rfl
def GR.pop{el:TypeId}{c:Nat}{L:Η}{x:MV}(h:GR O el 1 B (.bk k 0 (n+1) c) (n+1) (L++[x]))(hL:Ζ L=n):GR O el 1 B (.bk k 0 n c) n L:=by
 rcases h with⟨h0,_⟩ | ⟨k',c',e,g1,g2,g3⟩;cases h0;injection e with e1 e2 e3 e4;subst e1;subst e4;obtain⟨sp,r1,r2⟩:=g3.cells;exact .inr ⟨_,_,rfl,Λ,Λ,⟨x::sp,by rw[r1];simp,by rw[<-r2];simp⟩,g3.n4,g3.lo,g3.hi⟩
def aa3{wb:Nat}(hR:∀e∈R,Ζ e.2.1<=100000):∀(d:Nat)(W:List Bs)(nm:Bs)(st:cT)(p:MV)(O:VH),WS O wb tb kr kd L R cr tk B st p W->33<=Ζ W+d->
  VF Ε 93 [.p wb 0,.s nm] O (VQ' O wb tb kr kd L R cr tk B p W (w4 R d W nm st)):=by
 intro d;induction d with
 | zero=>intro W nm st p O h h2;have:=h.wl;omega
 | succ d ih=>
   intro W nm st p O h h33;obtain⟨kn,ht⟩:=h.DA;have hc:=ht.cell;have hw:=h.wk;have bI:=h.lt;have hne:=h.ne;have YX:=ht.ne;have qu:=h.wl;simp only[aq]at hc;have eU:jP (iv Ε) O 202 (.map kd) (.s nm) Α=φ (uN Α (.s []) ((oM nm st.1).map .s)):=Ht II T9 T9 ht.done;obtain⟨X,hX⟩:∃X,X=w4 R (d+1) W nm st:=⟨_,rfl⟩
   rw[<-hX];rw[w4]at hX;refine ω 95 [.tmp 4] func93 ?_;refine κ bW ?_;cases hl:oM nm st.1 with
   | some v=>
     rw[hl]at eU hX;simp only[auy,Hh]at eU;dsimp only at hX;subst hX;refine θ (bo bW @hw hc eU ?_)
     have hv:Ζ v<=4096:=by
      unfold oM at hl;obtain⟨e,he,rfl⟩:=aur.1 hl;exact h.sh e (an6 he)
     exact⟨⟨Rn _,λi _ _ _ _ _=>rfl⟩,rfl,hv,p,h,λk hk=>.inl hk⟩
   | none=>
   rw[hl]at eU hX;simp only[Option.map_none,Hi]at eU;dsimp only at hX;refine θ (bo bW @hw hc eU ?_);refine Δ (Γ ?_);refine ξ bW @hw ?_;refine Ω (akI W p B nm O h.gr Λ) ?_;cases wW:W.contains nm;rotate_left;rw[wW,if_pos rfl]at hX;subst hX;simp only[bg];refine ae bW ?_;refine VC.qI rfl ?_;refine ι ?_;refine bo bW @wi @wd @ahl ?_;refine VL.panic rfl rfl rfl ?_;refine ae @wd ?_;exact⟨⟨Rn _,λi _ _ _ _ _=>rfl⟩,rfl⟩;rw[wW,if_neg z12]at hX;simp only[bg];have sK:=h.gr.uJ (t:=9) (a:=1) (b:=24) (z:=[.l 0 [] .nil]);refine ae bW ?_;by_cases G8:32<=Ζ W;have e1:decide ((Ζ W:Int)>=32)=Α:=decide_eq_true Λ;have e2:decide ((32:Int)<=Ζ W)=Α:=e1;rw[if_pos G8]at hX;subst hX;refine VC.oc rfl ?_;refine θ (bo bW @hw sK (ahB e1 e2) ?_);refine VC.qI rfl ?_;refine ι ?_;refine bo bW @wi @wd @ahl ?_;refine VL.panic rfl rfl rfl ?_;refine ae @wd ?_;exact⟨⟨Rn _,λi _ _ _ _ _=>rfl⟩,rfl⟩;have e1:decide ((Ζ W:Int)>=32)=γ:=decide_eq_false Λ;have e2:decide ((32:Int)<=Ζ W)=γ:=e1;rw[if_neg G8]at hX;refine ι (bo bW @hw sK (ahB e1 e2) ?_);refine ξ bW @hw ?_;refine VL.grow aa (.inl rfl) (te:=⟨.string,1,16,[.s []]⟩) (dx:=.slice 9) (q:=.l 1 [.s nm] .full) (j:=1) (ds:=[.s nm]) h.gr rfl rfl (by rw[ue];rfl) T9 (by rw[ue];rfl) trivial z18 z13 bI.2.2.2.2 rfl rfl rfl rfl ?_;intro pA OA sQ Qh _ hpA
   obtain⟨kA,cA,rfl,hkA⟩:∃k c,pA=MV.bk k 0 (Ζ W+1) c/\(gid p=φ k\/O.N<=k):=by
    rcases hpA with⟨k,c,e,e' | e'⟩ | ⟨e,_⟩;exact⟨k,c,e,.inl e'⟩;exact⟨k,c,e,.inr e'.1⟩;cases e
   clear hpA;dsimp only at sQ;have cz:=h.gr.fF;have Aq:=sQ.fF kA rfl;((((have hiA:∀i,i<O.N->i<B->OA.hp i=O.hp i:=λi h1 h2=>Qh.hp i h1 λe=>by have:=(cz i e).1;omega);have hwA:=(hiA wb Λ bI.1).trans hw;have YY:=Qh.N;refine ak bW hwA ?_;refine VC.gen ?_;intro O2 e2;have fQ:∀i,i≠wb->O2.hp i=OA.hp i:=λi hi=>by rw[e2];exact τ _ _ hi);have eG:O2.N=OA.N:=by rw[e2];rfl);have xc:O2.hp wb=φ (.cells [.p tb 0,.bk kA 0 (Ζ W+1) cA]):=by rw[e2];exact υ _ _ _);clear e2;have nX:AA O2 tb kr kd L R st.1 cr st.2 tk kn:=⟨(fQ _ (Ne.symm hne.1)).trans ((hiA tb Λ bI.2.1).trans ht.cell),(fQ _ (Ne.symm hne.2.1)).trans ((hiA kr Λ bI.2.2.1).trans ht.raw),(fQ _ (Ne.symm hne.2.2)).trans ((hiA kd Λ bI.2.2.2.1).trans ht.done),⟨Λ,Λ,Λ⟩,YX⟩
   have amh:GR O2 9 1 B (.bk kA 0 (Ζ W+1) cA) (W++[nm]).length ((W++[nm]).map .s):=by
    rw[TR,aug];exact sQ.fr Λ (λk hk=>by injection hk with hk;subst hk;exact fQ _ Λ) (λj k t n hj hl=>fQ j λe=>by rw[e,hwA]at hj;cases hj)
   have vn:WS O2 wb tb kr kd L R cr tk B st (.bk kA 0 (Ζ W+1) cA) (W++[nm]):=⟨⟨kn,nX⟩,xc,amh,⟨bI.1,bI.2.1,bI.2.2.1,bI.2.2.2.1,Λ⟩,hne,h.sh,by rw[TR];show (Ζ W)+1<=32;omega⟩;have aho:WF O wb tb kd p O2:=⟨Λ,λi h1 h2 _ _ h5=>(fQ i h2).trans (Qh.hp i h1 h5)⟩;have fz:=nX.cell;simp only[aq]at fz
   have ami:jP (iv Ε) O2 202 (.map kr) (.s nm) γ=φ (.s ((oM nm R).getD [])):=by
    rw[Ht II T9 T9 nX.raw];cases oM nm R<;>rfl
   have arv:((oM nm R).getD []).length<=100000:=by
    cases hr:oM nm R with
    | none=>simp
    | some v=>
      unfold oM at hr;obtain⟨e,he,rfl⟩:=aur.1 hr;exact hR e (an6 he)
   generalize (oM nm R).getD []=raw at*;clear hwA sQ hiA Qh;refine θ (bo bW xc fz ami ?_);((((obtain⟨Y,hY⟩:∃Y,wZ (w4 R d (W++[nm])) (λr=>(oM r R).isSome) nm (Ζ raw+1) [] raw st=Y:=⟨_,rfl⟩);have rz:=UC (w4 R d (W++[nm])) vn (λr st' p' A hA _=>ih (W++[nm]) r st' p' A hA (by rw[TR];show 33<=Ζ W+1+d;omega)) raw nm arv Y hY;rw[hY]at hX;have lM:∀k,gid (MV.bk kA 0 (Ζ W+1) cA)=φ k->gid p=φ k\/O.N<=k:=λk hk=>by injection hk with hk;subst hk;exact hkA);refine ah.ex Y rz ?_ ?_);rintro e m O3 rfl ⟨Gb,h3⟩;dsimp only at hX h3;subst hX;exact⟨aho.trans Gb lM,h3⟩);rintro⟨v,LA⟩ m O3 rfl ⟨Gb,h3⟩;obtain⟨rfl,hv,p3,AB,qx⟩:=h3;dsimp only at hX hv AB;subst hX;have ahp:=aho.trans Gb lM;clear rz ih hY aho Gb xc fz ami nX vn amh
   obtain⟨k3,c3,rfl,ahq⟩:∃k c,p3=MV.bk k 0 (Ζ W+1) c/\GR O3 9 1 B (.bk k 0 (Ζ W+1) c) (Ζ W+1) (W.map .s++[.s nm]):=by
    have hg:=AB.gr;rw[TR,aug]at hg;rcases hg with⟨h0,_⟩ | ⟨k,c,e,g⟩;cases h0;exact⟨k,c,e,.inr ⟨k,c,rfl,g⟩⟩
   have hgp:=ahq.pop (by rw[an5]);have h3l:=ahq.fF k3 rfl;have GW:=AB.wk
   have atD:Ζ W+1<=c3:=by
    rcases ahq with⟨h0,_⟩ | ⟨k',c',e,g1,_⟩;cases h0;injection e with e1 e2 e3 e4;omega
   have Tz:(((Ζ W+1:Nat):Int) - 1)=(Ζ W:Int):=Λ
   obtain⟨kn3,Qz⟩:=AB.DA;have art:=AB.lt;refine ae bW ?_;refine Δ ?_;refine WC.bM (.held [14]) [(0,.rd),(1,.rd),(2,.rd),(3,.rd),(4,.rd),(5,.rd),(6,.rd),(7,.rd),(8,.rd),(9,.rd),(10,.rd),(11,.rd),(12,.one),(13,.rd),(14,.one)] ?_;refine bo bW GW @iG Tz ?_;refine VC.gen ?_;intro O4 e4;((((((((((have sP:∀i,i≠wb->O4.hp i=O3.hp i:=λi h2=>by rw[e4];exact τ _ _ h2);have fe:O4.N=O3.N:=by rw[e4];rfl);have LB:O4.hp wb=φ (.cells [.p tb 0,.bk k3 0 (Ζ W) c3]):=by rw[e4];exact υ _ _ _);clear e4;have xy:AA O4 tb kr kd L R LA.1 cr LA.2 tk kn3:=⟨(sP _ (Ne.symm hne.1)).trans Qz.cell,(sP _ (Ne.symm hne.2.1)).trans Qz.raw,(sP _ (Ne.symm hne.2.2)).trans Qz.done,⟨Λ,Λ,Λ⟩,YX⟩;have ff:=xy.cell;simp only[aq]at ff;have kF:fl (iv Ε) O4 202 (.map kd) (.s nm) (.s v)=φ (O4.set kd (.map (nK (Bd LA nm v).1) (Bd LA nm v).2)):=ao4 II T9 xy.done;refine θ (bo bW LB ff kF ?_);refine VC.gen ?_;intro O5 e5;have jz:∀i,i≠kd->O5.hp i=O4.hp i:=λi h2=>by rw[e5];exact τ _ _ h2);have ie:O5.N=O4.N:=by rw[e5];rfl);have Ql:O5.hp kd=φ (.map (nK (Bd LA nm v).1) (Bd LA nm v).2):=by rw[e5];exact υ _ _ _);clear e5;have hw5:=(jz wb hne.2.2).trans LB;have fY:=(jz tb YX.2.1).trans ff;refine θ (bo bW dS hw5 fY ?_);refine π (Js 1 fY rfl) ?_;rintro m O6 ⟨rfl,e6⟩;have JL:∀i,i≠tb->O6.hp i=O5.hp i:=λi h2=>by rw[e6];exact τ _ _ h2);have xt:O6.hp tb=φ (.cells [.l (Ζ L) (L.flatMap bp) tk,.map kr,.map kd,mi (IntKind.i64.wrap (kn3+1))]):=by rw[e6];exact υ _ _ _);have mQ:O6.N=O5.N:=by rw[e6];rfl);clear e6;have aa4:∀i,i≠wb->i≠tb->i≠kd->O6.hp i=O3.hp i:=λi a b c=>(JL i b).trans ((jz i c).trans (sP i a)));refine ae bW ?_;refine ν bW ?_
   have hsh:∀e∈(Bd LA nm v).1,Ζ e.2.1<=4096:=by
    unfold Bd;split
    ·intro e he;dsimp only at he;rw[List.mem_iff_getElem?]at he;obtain⟨j,hj⟩:=he;rw[auw]at hj;cases hg:LA.1[j]? with
     | none=>rw[hg]at hj;cases hj
     | some e'=>
       rw[hg]at hj;injection hj with hj;split at hj;rw[<-hj];exact hv;rw[<-hj];exact AB.sh e' (an2 hg)
    ·intro e he;rcases apK.1 he with he | he;exact AB.sh e he;rw[alp.1 he];exact hv
   have atE:=h3l.2.1;refine⟨⟨by have:=ahp.1;omega,λi h1 h2 h3 h4 h5=>(aa4 i h2 h3 h4).trans (ahp.2 i h1 h2 h3 h4 h5)⟩,rfl,hv,.bk k3 0 (Ζ W) c3,⟨⟨_,xt,(aa4 kr (Ne.symm hne.2.1) (Ne.symm YX.1) YX.2.2).trans Qz.raw,(JL kd (Ne.symm YX.2.1)).trans Ql,⟨Λ,Λ,Λ⟩,YX⟩,(JL wb hne.1).trans hw5,hgp.fr Λ (λk hk=>?_) (λj k t n hj hl=>aa4 j (λe=>?_) (λe=>?_) (λe=>?_)),⟨bI.1,bI.2.1,bI.2.2.1,bI.2.2.2.1,Λ⟩,hne,hsh,qu⟩,λk hk=>?_⟩;injection hk with hk;subst hk;exact aa4 _ Λ Λ Λ;rw[e,GW]at hj;cases hj;rw[e,Qz.cell]at hj;cases hj;rw[e,Qz.done]at hj;cases hj;rcases qx k hk with e | e;exact lM k e;exact .inr Λ
def ahr{a:Nat}{e:Int}{s:Bs}(ha:O.hp a=φ (.cells [y]))(hb:O.hp b=φ (.cells [z]))(Qk:a<O.N)(xm:b<O.N)(EH:a≠b)
  (h:∀O',O.N<=O'.N->(∀i,i<O.N->i≠a->i≠b->O'.hp i=O.hp i)->O'.hp a=φ (.cells [mi e])->O'.hp b=φ (.cells [.s s])->K O'):fM Ε 120 [.p a 0,.p b 0] (φ (oN e s)) O K:=by
 refine fM.rec (d:=5) func120 (auD (by decide:5<15) rfl) ?_;show WC _ _ ⟨15,0⟩ _ _ _ _ _;simp only[cX,auk,y10,wI,oN];refine ak fG @wi ?_;refine VL.pure z10 (λ_=>.inl rfl) rfl rfl (d_.CQ (bb:=γ) Tryz.underlying20 rfl (.inl ⟨rfl,rfl⟩)) ?_;refine WL.sound aa ?_;refine ak fG @wi ?_;refine VL.pure z10 (λ_=>.inl rfl) rfl rfl (d_.asT Tryz.underlying244 (λ_ h=>by cases h) rfl) ?_;refine WL.sound aa ?_;refine ak fG @wi ?_;refine VC.al ?_;rintro O2 ⟨ax,dQ,eG⟩;have vV:∀(X:bO) {i:Nat} {y:Option bO},i<O.N->O.hp i=y->(O2.set O.N X).hp i=y:=λX {i y} hi h=>Θ ((ax.hp _ hi).trans h)
 refine VC.mJ [] (O.N) (dQ) ?_;intro X;have jx:=vV (.obj X) Qk ha;have c8:=vV (.obj X) xm hb;have jU:(O2.set O.N (.obj X)).hp O.N=φ (.obj X):=υ _ _ _;have fe:(O2.set O.N (.obj X)).N=O.N+1:=eG;have aV:O.Ge (O2.set O.N (.obj X)):=ax.set (Rn _) _;generalize hO4:O2.set O.N (.obj X)=O4 at*;refine ρ 0 fG ?_;refine auQ (m:=.v (Ι Κ e)) 1 ?_ ?_;exact ez fG;simp only[ag];refine ρ 2 fG ?_;refine auQ (m:=.s s) 3 ?_ ?_;exact ez fG;simp only[ag];refine ab.op (i:=4) ?_;refine ak fG jx ?_;refine⟨jU,?_⟩;refine ab.op (i:=5) ?_;refine ak fG c8 ?_;refine⟨jU,?_⟩;refine ab.mK [] ?_;refine ae fG ?_;refine h _ (by show O.N<=O4.N;omega) (λi hi h1 h2=>?_) ?_ ?_;rw[VH.sx,VH.sx,VH.sx];exact aV.hp i hi;rw[VH.sx,VH.sx];exact υ _ _ _;rw[VH.sx];exact υ _ _ _
def NU{O:VH}{g:FuncId}{xs:Η}{Φ :VH->VH->Prop}{Ψ :VH->VH->Int->Bs->Prop}(hg:cV Ε g=Α) (hC:∀O1,O.Ge O1->VF Ε g xs O1 (λr O'=>match r with
   | .ret _=> Φ O1 O'
   | .panic m=>∃e w,m=oN e w/\ Ψ O1 O' e w))
  (hΦ :∀O1 O2,O.Ge O1-> Φ O1 O2->O1.N<=O2.N/\∀i,O.N<=i->i<O1.N->O2.hp i=O1.hp i) (hΨ :∀O1 O2 e w,O.Ge O1-> Ψ O1 O2 e w->O1.N<=O2.N/\∀i,O.N<=i->i<O1.N->O2.hp i=O1.hp i):
  VF Ε 91 [.func (.func g) [] xs] O (aC λm O'=>∃O1 O2 e w,m= .tuple [mi e,.s w]/\O.Ge O1/\(e=0/\w=[]/\ Φ O1 O2\/ Ψ O1 O2 e w)/\O2.N<=O'.N/\∀i,i<O.N->O'.hp i=O2.hp i):=by
 refine VF.deferred (lo:=4) (k:=7) (rs:=[.cell 2 30,.cell 3 9]) func91 (Enters.w_) ?_;simp only[cX,auk,y10];refine ae bW ?_;refine⟨_,rfl,λD=>?_⟩;refine VC.gen ?_;rintro O1 vf;obtain⟨aM,dq,eo,cS⟩:=jS _ _ vf;clear vf;refine ξ bW @wd ?_;refine ah.p (hC O1 aM) ?_ ?_ (hb:=hg);rintro m O2 h2;dsimp only at h2;obtain⟨eG,fQ⟩:=hΦ O1 O2 aM h2;have iO:=(fQ _ (Rn _) Λ).trans eo;have bV:=(fQ (O.N+1) Λ Λ).trans cS;refine ak bW @wd ?_;refine θ (bo bW @wd iO bV ?_);refine ο bW @wd ?_;refine ahh ?_;refine bo bW @wd iO bV ?_;exact⟨O1,O2,0,[],rfl,aM,.inl ⟨rfl,rfl,h2⟩,Rn _,λi hi=>by rw[VH.sx,VH.sx]⟩;rintro m O2 ⟨e,w,rfl,h2⟩;obtain⟨eG,fQ⟩:=hΨ O1 O2 e w aM h2;have iO:=(fQ _ (Rn _) Λ).trans eo;have bV:=(fQ (O.N+1) Λ Λ).trans cS;refine ak bW @wd ?_;refine ahr iO bV Λ Λ Λ ?_;intro O3 ea ho3 oY cE;simp only[aq]at oY;refine bo bW @wd oY cE ?_;exact⟨O1,O2,e,w,rfl,aM,.inr h2,ea,λi hi=>ho3 i Λ Λ Λ⟩
def yW(R:eL)(s:Bs)(st:cT):Except yV (Bs×cT):=wZ (w4 R 33 []) (λr=>(oM r R).isSome) [] (Ζ s+1) [] s st
def Af{val:Bs->cT->Except yV (Bs×cT)}{kn:Bs->Bool}{nm:Bs}(hv:∀r st e,val r st= .error e->e.1≠0):∀(f:Nat)(acc s:Bs)(st:cT)(e:yV),wZ val kn nm f acc s st= .error e->e.1≠0
 | 0,acc,s,st,e,h=>by injection h with h;subst h;simp
 | f+1,acc,s,st,e,h=>by
   rw[wZ]at h;split at h;split at h;cases h;injection h with h;subst h;simp;split at h;split at h;split at h;rename_i hx;injection h with h;subst h;exact hv _ _ _ hx;split at h;exact Af hv f _ _ _ e h;injection h with h;subst h;simp;split at h;exact Af hv f _ _ _ e h;injection h with h;subst h;simp;injection h with h;subst h;simp
def Ag{R:eL}:∀(d:Nat)(W:List Bs)(nm:Bs)(st:cT)(e:yV),w4 R d W nm st= .error e->e.1≠0
 | 0,W,nm,st,e,h=>by injection h with h;subst h;simp
 | d+1,W,nm,st,e,h=>by
   rw[w4]at h;split at h;cases h;split at h;injection h with h;subst h;simp;split at h;injection h with h;subst h;simp;split at h;rename_i hx;injection h with h;subst h;exact Af (λr st e h=>Ag d _ r st e h) _ _ _ _ _ hx;cases h
def ES{R:eL}{s:Bs}{st:cT}{e:yV}(h:yW R s st= .error e):e.1≠0:=Af (λr st e h=>Ag 33 [] r st e h) _ _ _ _ _ h
structure rG(O:VH)(tb kr kd:Nat)(L:List (Bs×Bs))(R:eL)(cr:Nat)(tk:Tok)(st:cT):Prop where
 DA:∃kn,AA O tb kr kd L R st.1 cr st.2 tk kn
 sh:∀e∈st.1,Ζ e.2.1<=4096
def rG.lt(h:rG O tb kr kd L R cr tk st):(tb<O.N/\kr<O.N/\kd<O.N)/\tb≠kr/\tb≠kd/\kr≠kd:=by
 obtain⟨kn,ht⟩:=h.DA;exact⟨ht.lt,ht.ne⟩
def rG.mv(h:rG O tb kr kd L R cr tk st)(hn:O.N<=O'.N)(hi:∀i,i=tb\/i=kr\/i=kd->O'.hp i=O.hp i):rG O' tb kr kd L R cr tk st:=by
 obtain⟨kn,ht⟩:=h.DA;obtain⟨⟨l1,l2,l3⟩,_⟩:=h.lt;exact⟨⟨kn,(hi _ (.inl rfl)).trans ht.cell,(hi _ (.inr (.inl rfl))).trans ht.raw,(hi _ (.inr (.inr rfl))).trans ht.done,⟨Λ,Λ,Λ⟩,ht.ne⟩,h.sh⟩
def rG.ge(h:rG O tb kr kd L R cr tk st)(g:O.Ge O'):rG O' tb kr kd L R cr tk st:=h.mv g.N λi hi=>g.hp i (by obtain⟨⟨l1,l2,l3⟩,_⟩:=h.lt;omega)
def Fr2(O O':VH)(a b:Nat):Prop:=O.N<=O'.N/\∀i,i<O.N->i≠a->i≠b->O'.hp i=O.hp i
def ahs{bc:Nat}{s:Bs}(hR:∀e∈R,Ζ e.2.1<=100000)(h:rG O tb kr kd L R cr tk st)(ha:O.hp ba=φ (.cells [.p tb 0]))(hb:O.hp bb=φ (.cells [.s s]))(hc:O.hp bc=φ (.cells [z]))(m5:ba<O.N)(si:bb<O.N)(lU:bc<O.N)(hct:bc≠tb/\bc≠kr/\bc≠kd)(hs:Ζ s<=100000):
  VF Ε 118 [.p ba 0,.p bb 0,.p bc 0] O (λr O'=>match r with
   | .ret _=>∃y,yW R s st= .ok y/\O'.hp bc=φ (.cells [.s y.1])/\rG O' tb kr kd L R cr tk y.2/\O.N<=O'.N/\∀i,i<O.N->i≠tb->i≠kd->i≠bc->O'.hp i=O.hp i
   | .panic m=>∃e w,m=oN e w/\yW R s st= .error (e,w)/\O.N<=O'.N/\∀i,i<O.N->i≠tb->i≠kd->O'.hp i=O.hp i):=by
 have YI:∀x,(O.push x).hp bb=φ (.cells [.s s]):=λx=>(VH.gY _ _ si).trans hb
 have bI:=h.lt;refine ω 8 [] func118 ?_;refine ι (aF bW ha hb ?_);refine ah.bx ?_;rintro O1 ⟨aM,dz,dq⟩;have hT1:=h.ge aM;have hWS:WS O1 O.N tb kr kd L R cr tk (O.N+1) st (.l 0 [] .nil) []:=⟨hT1.DA,dz,.inl ⟨rfl,rfl,.inl rfl⟩,⟨Λ,Λ,Λ,Λ,Λ⟩,⟨Λ,Λ,Λ⟩,hT1.sh,z10⟩;have rz:=UC (w4 R 33 []) hWS (λr st' p' A hA _=>aa3 hR 33 [] r st' p' A hA z10) s [] hs (yW R s st) rfl;obtain⟨X,hX⟩:∃X,yW R s st=X:=⟨_,rfl⟩
 rw[hX]at rz ⊢;refine ah.ex X rz ?_ ?_;rintro e m O2 rfl ⟨ET,h2⟩;exact⟨e.1,e.2,h2,rfl,aev aM.N ET.1,λi hi a b=>(ET.2 i Λ Λ a b (λe=>by cases e)).trans (aM.hp i hi)⟩;rintro y m O2 rfl ⟨ET,h2⟩;obtain⟨rfl,hy,p',vn,_⟩:=h2;have fQ:∀i,i<O.N->i≠tb->i≠kd->O2.hp i=O.hp i:=λi hi a b=>(ET.2 i Λ Λ a b (λe=>by cases e)).trans (aM.hp i hi)
 have fz:=(fQ bc lU hct.1 hct.2.2).trans hc;have eG:=ET.1;refine ak bW fz ?_;refine⟨y,rfl,rfl,rG.mv (O:=O2) ⟨vn.DA,vn.sh⟩ (Rn _) (λi hi=>VH.sx),by show O.N<=O2.N;omega,λi hi a b c=>(τ _ _ c).trans (fQ i hi a b)⟩
def YZ(hR:∀e∈R,Ζ e.2.1<=100000)(h:rG O tb kr kd L R cr tk st)(s:Bs)(hs:Ζ s<=100000):
  VF Ε 90 [.p tb 0,.s s] O (aC λm O'=>Fr2 O O' tb kd/\match yW R s st with
   | .ok y=>m= .tuple [.s y.1,mi 0,.s []]/\rG O' tb kr kd L R cr tk y.2
   | .error e=>m= .tuple [.s [],mi e.1,.s e.2]):=by
 have bI:=h.lt;have aa5:=λe=> @ES R s st e
 obtain⟨X,hX⟩:∃X,yW R s st=X:=⟨_,rfl⟩
 rw[hX];refine ω 20 [.cell 4 9,.tmp 5,.tmp 6] func90 ?_;refine κ bW ?_;refine VC.gen ?_;intro O1 e1;obtain⟨aM,dq,eo,cS,gN⟩:=yB _ _ _ e1;clear e1;have hT1:=h.ge aM;refine ξ bW eo ?_;refine κ bW ?_
 refine π (NU (O:=O1) (g:=118) (xs:=[.p O.N 0,.p (O.N+1) 0,.p (O.N+2) 0])
  (Φ :=λA B=>∃y,yW R s st= .ok y/\B.hp (O.N+2)=φ (.cells [.s y.1])/\rG B tb kr kd L R cr tk y.2/\A.N<=B.N/\∀i,i<A.N->i≠tb->i≠kd->i≠O.N+2->B.hp i=A.hp i)
  (Ψ :=λA B e w=>yW R s st= .error (e,w)/\A.N<=B.N/\∀i,i<A.N->i≠tb->i≠kd->B.hp i=A.hp i) z11
  (λO2 ax=>ahs hR (hT1.ge ax) (ax.at eo) (ax.at cS) (ax.at gN) z31 z31 z31 ⟨Λ,Λ,Λ⟩ hs)
  (λA B hA ⟨y,_,_,_,hn,hi⟩=>⟨hn,λi h1 h2=>hi i h2 Λ Λ Λ⟩)
  (λA B e w hA ⟨_,hn,hi⟩=>⟨hn,λi h1 h2=>hi i h2 Λ Λ⟩)) ?_
 rintro _ O3 ⟨A,B,e,w,rfl,sQ,hAB,ea,mh⟩;rw[hX]at hAB;refine ae bW ?_;rcases hAB with⟨rfl,rfl,y,hy,sO,qX,DB,Ds⟩ | ⟨hy,DB,Ds⟩;subst hy;have en:=(mh _ Λ).trans sO;have hAn:=sQ.N;refine κ bW ?_;refine ξ bW en ?_;refine ν bW ?_;((have G7:rG O3 tb kr kd L R cr tk y.2:=qX.mv ea λi hi=>mh i Λ);exact⟨⟨by show O.N<=O3.N;omega,λi hi a b=>(VH.sx).trans ((mh i Λ).trans ((Ds i Λ a b Λ).trans ((sQ.hp i Λ).trans (aM.hp i hi))))⟩,G7.mv (O:=O3) (Rn _) λi hi=>VH.sx⟩);subst hy;((have hne:(e==0)=γ:=by simpa using aa5 (e,w) hX);have AN:(e != 0)=Α:=by simpa using aa5 (e,w) hX);have en:=(mh (O.N+2) Λ).trans ((Ds _ (by have:=sQ.N;omega) Λ Λ).trans (sQ.at gN));have hAn:=sQ.N;refine θ (aF bW AN en ?_);exact⟨by show O.N<=O3.N;omega,λi hi a b=>(VH.sx).trans ((mh i Λ).trans ((Ds i Λ a b).trans ((sQ.hp i Λ).trans (aM.hp i hi))))⟩
section
variable{G H:Gh}{n:Sz}{D:List Deferred}{e:Env}{P:Program}{O:VH}{Q Q':VQ}{ops:Array Oper}
def ab.aht(h:ab P n D ops brk J Ψ Z fuel listed e O Q)(hq:(∀G H,Gh.Le G H-> Ψ G-> Ψ H)->∀G y a w, Ψ G->cU G n D Q y a w->cU G n D Q' y a w):ab P n D ops brk J Ψ Z fuel listed e O Q':=
 λhΨ hZ hJ G a w hψ hw aY=>jf (λy a w=>hq hΨ G y a w hψ) _ _ _ _ (λ_ _ _ hT=>hT) (h hΨ hZ hJ G a w hψ hw aY)
def ab.ahu{l:ϕ}{f:Operand}{xs:Array Operand}{ts:Array TypeId}{ty:TypeId}{id:FuncId}{R:gm->VH->Prop}(k:Nat){X:Obj}{c0:Η}(hR:VF P id (ms++cs) O R)
  (h:∀m O',R (.ret m) O'->J O'/\ab P n D ⟨l⟩ brk J Ψ Z fuel (listed.setIfInBounds i Α) (aU d m e) O' Q) (h2:∀m O',R (.panic m) O'->O'.hp k=φ (.obj X)/\Q (.panic m) (jM n e) (O'.set k (.cells c0))) (hX:∀G, Ψ G->kX c0 X G) (hr:Region.ready .any ⟨l⟩ listed=[i]:=by kernel_rfl) (ho:l[i]?=φ (.mk d (.call {callee:=.value f,args:=xs,argTypes:=ts}) ty ps af g):=by exact rfl) (hg:aK ⟨l⟩ (.mk d (.call {callee:=.value f,args:=xs,argTypes:=ts}) ty ps af g) e=φ Α:=by exact rfl) (hf:ev e f=φ (.func (.func id) [] cs):=by exact rfl) (hm:g_ e xs.toList=φ ms:=by exact rfl) (hb:cV P id=Α:=by kernel_rfl) (hd:bj n d=Α:=by exact rfl):ab P n D ⟨l⟩ brk J Ψ Z (fuel+1) listed e O Q:=by
 refine ab.aht (Q:=λx e' O'=>Q x e' O'\/O'.hp k=φ (.obj X)/\Q x e' (O'.set k (.cells c0))) ?_ ?_;exact ab.qQ hR (λm O' hr=>⟨(h m O' hr).1,(h m O' hr).2.aht λ_ G y a w _=>cU.mono λ_ _ _ hq=>.inl hq⟩) (λm O' hr=>.inr (h2 m O' hr)) (hr:=hr) (ho:=ho) (hg:=hg) (hf:=hf) (hm:=hm) (hb:=hb) (hd:=hd);rintro hΨ G y a w hψ ⟨x,e',O',K,h1,h2,h3,h4,h5 | ⟨h5,h6⟩⟩;exact⟨x,e',O',K,h1,h2,h3,h4,h5⟩;exact⟨x,e',_,K,h1,h2.ye h5 (hX K (hΨ _ _ h1 hψ)),h3,h4,h6⟩
end
def qz(R:eL):List (Bs×Bs)->List (Bs×Bs)->cT->Except yV (List (Bs×Bs)×cT)
 | [],P,st=>.ok (P,st)
 | x::l,P,st=>match w4 R 33 [] x.1 st with
   | .error e=>.error e
   | .ok y=>qz R l (P++[(x.1,y.1)]) y.2
def ahv(O:VH)(bb tb kr kd:Nat)(L:List (Bs×Bs))(R:eL)(cr:Nat)(tk:Tok)(X:Except yV (List (Bs×Bs)×cT)):gm->VH->Prop:=λr O'=>O.N<=O'.N/\(∀i,i<O.N->i≠tb->i≠kd->i≠bb->O'.hp i=O.hp i)/\match r,X with
 | .ret _,.ok y=>(∃t,O'.hp bb=φ (.cells [.l (Ζ y.1) (y.1.flatMap bp) t]))/\rG O' tb kr kd L R cr tk y.2
 | .panic m,.error e=>m=oN e.1 e.2/\∃z,O'.hp bb=φ (.cells [z])
 | _,_=>False
def ahw(hR:∀e∈R,Ζ e.2.1<=100000)(ha:O.hp ba=φ (.cells [.p tb 0]))(hb:O.hp bb=φ (.cells [.l 0 [] .nil]))(m5:ba<O.N)(si:bb<O.N)(Y0:rG O tb kr kd L R cr tk st)(hn:Ζ L<=100000)(X0:Except yV (List (Bs×Bs)×cT))(hX0:qz R L [] st=X0):
  VF Ε 92 [.p ba 0,.p bb 0] O (ahv O bb tb kr kd L R cr tk X0):=by
 have cz:=aP eC L;obtain⟨kn0,h⟩:=Y0.DA;have bI:=h.lt;have hne:=h.ne;have hc:=h.cell;simp only[aq]at hc;have amj:ba≠tb:=λe=>by subst e;rw[ha]at hc;simp at hc
 have hbt:bb≠tb:=λe=>by subst e;rw[hb]at hc;simp at hc
 have hak:ba≠kd:=λe=>by subst e;have:=h.done;cases(ha.symm.trans this)
 have P5:bb≠kd:=λe=>by subst e;have:=h.done;cases(hb.symm.trans this)
 have hbr:bb≠kr:=λe=>by subst e;have:=h.raw;cases(hb.symm.trans this)
 have EH:ba≠bb:=λe=>by subst e;rw[hb]at ha;simp at ha
 refine ω 26 [] func92 ?_;refine θ (aF bW ha hc ?_);refine Γ ?_;refine Υ [9] [0,1,7,8] (λx:Nat×List (Bs×Bs)×cT×Tok=>[mi x.1]) (λx O'=>x.1<=(Ζ L)/\(Ζ x.2.1)=x.1/\qz R (L.drop x.1) x.2.1 x.2.2.1=X0/\O.N<=O'.N/\(∀i,i<O.N->i≠tb->i≠kd->i≠bb->O'.hp i=O.hp i)/\rG O' tb kr kd L R cr tk x.2.2.1/\O'.hp bb=φ (.cells [.l (Ζ x.2.1) (x.2.1.flatMap bp) x.2.2.2])/\App O' O.N 2 x.2.2.2) (λx=>(Ζ L) - x.1) ((0,[],st,.nil)) ?_ ?_;exact⟨ai8 _,rfl,hX0,Rn _,λ_ _ _ _ _=>rfl,Y0,hb,trivial⟩;clear hX0 Y0 h;rintro⟨j,PL,st,t⟩ O3 ⟨hj,qM,hX,ea,mh,Y0,cE,cQ⟩;dsimp only at hj qM hX Y0 cE cQ ⊢;by_cases bu:j<Ζ L;rotate_left
 ·obtain rfl:j=Ζ L:=Λ
  rw[an4 (Rn _),qz]at hX;subst hX;refine ν bW ?_;exact⟨ea,mh,⟨t,cE⟩,Y0⟩
 have bh:=bY eC L j bu;rw[List.drop_eq_getElem_cons bu,qz]at hX;generalize L[j]=y at*;obtain⟨yn,yv⟩:=y;dsimp only at hX;simp only[bp]at bh;have ew:=jSx j;refine κ bW ?_;refine κ bW ?_;refine Δ (Γ ?_);refine ξ bW bh ?_;refine VC.al ?_;rintro O4 ⟨aV,iD,fe⟩;have xy:=Y0.ge aV;have jx:=aV.at ((mh ba m5 amj hak EH).trans ha);have c8:=aV.at cE;have lh:=cQ.ge aV;refine VC.tB [12] (bb) (λO'=>O'.hp ba=φ (.cells [.p tb 0])/\O'.hp O3.N=φ (.cells [.s yn,.s yv])) (c8) (λX=>⟨(τ _ _ EH).trans jx,Θ iD⟩) ?_;intro X;refine ε (m:=.l (Ζ PL) (PL.flatMap bp) t) 0 (λ_ h=>h.1) (λ_ h=>h) ?_ ?_;exact ez bW;simp only[ag];refine ρ 1 bW ?_;refine δ (m:=.s yn) 2 ?_ ?_;rintro O2 ⟨j0,j1,j2⟩;exact dT bW j2;simp only[ag];refine δ (m:=.p tb 0) 3 ?_ ?_;rintro O2 ⟨j0,j1,j2⟩;exact dT bW j1;simp only[ag];refine ρ 4 bW ?_;refine ρ 6 bW ?_;refine δ (m:=.s yn) 7 ?_ ?_;rintro O2 ⟨j0,j1,j2⟩;exact dT bW j2;simp only[ag];have Ek:(O4.set bb (.obj X)).hp bb=φ (.obj X)/\(O4.set bb (.obj X)).hp ba=φ (.cells [.p tb 0])/\(O4.set bb (.obj X)).hp O3.N=φ (.cells [.s yn,.s yv]):=⟨υ _ _ _,(τ _ _ EH).trans jx,Θ iD⟩;have ie:(O4.set bb (.obj X)).N=O4.N:=rfl;have jz:∀i,i≠bb->(O4.set bb (.obj X)).hp i=O4.hp i:=λi h1=>τ _ _ h1
 have iz:=lh.iV (k:=bb) (x:=.obj X) (by rw[c8];simp);have hT5:rG (O4.set bb (.obj X)) tb kr kd L R cr tk st:=xy.mv (O:=O4) (Rn _) λi hi=>jz i Λ
 generalize O4.set bb (.obj X)=O5 at*;refine ab.op (i:=5) ?_;refine ae bW ?_;refine⟨Ek,?_⟩;have dU:O5.Ge (O5.push (.cells [.p tb 0,.l 0 [] .nil])):=(VH.Ge.refl _).push _;have hw6:(O5.push (.cells [.p tb 0,.l 0 [] .nil])).hp O5.N=φ (.cells [.p tb 0,.l 0 [] .nil]):=ζ _ _;have mQ:(O5.push (.cells [.p tb 0,.l 0 [] .nil])).N=O5.N+1:=rfl;generalize O5.push (.cells [.p tb 0,.l 0 [] .nil])=O6 at*;have EU:=hT5.ge dU;have iU:=iz.ge dU;have atF:=EU.lt;have hWS:WS O6 O5.N tb kr kd L R cr tk (O5.N+1) st (.l 0 [] .nil) []:=⟨EU.DA,hw6,.inl ⟨rfl,rfl,.inl rfl⟩,⟨Λ,Λ,Λ,Λ,Λ⟩,⟨Λ,Λ,Λ⟩,EU.sh,z10⟩;have wC:=aa3 hR 33 [] yn st (.l 0 [] .nil) O6 hWS z10;obtain⟨Y,hY⟩:∃Y,w4 R 33 [] yn st=Y:=⟨_,rfl⟩
 rw[hY]at wC hX;have fr6:∀O7,WF O6 O5.N tb kd (.l 0 [] .nil) O7->∀i,i<O5.N->i≠tb->i≠kd->O7.hp i=O5.hp i:=λO7 hw i h1 h2 h3=>(hw.2 i Λ Λ h2 h3 (λe=>by cases e)).trans (dU.hp i h1)
 refine ab.ahu (i:=8) bb wC ?_ ?_ (λ_ h=>h);rotate_left
 ·rintro m O7 ⟨ET,h7⟩;have sk:=ET.1;cases Y with
  | ok y=>exact h7.elim
  | error e=>
    dsimp only at hX h7;subst hX;refine⟨(fr6 O7 ET _ Λ hbt P5).trans Ek.1,?_⟩;refine ae bW ?_;refine⟨by show O.N<=O7.N;omega,λi h1 h2 h3 h4=>?_,h7,_,υ _ _ _⟩;rw[τ _ _ h4,fr6 O7 ET i Λ h2 h3,jz i h4,aV.hp i Λ];exact mh i h1 h2 h3 h4
 rintro m O7 ⟨ET,h7⟩;cases Y with
 | error e=>exact h7.elim
 | ok y=>
 obtain⟨v,Qy⟩:=y;obtain⟨rfl,hv,p7,JM,_⟩:=h7;dsimp only at hX hv JM;have sk:=ET.1;have aa6:=fr6 O7 ET;simp only[ag];have Be:O7.hp bb=φ (.obj X)/\O7.hp ba=φ (.cells [.p tb 0])/\O7.hp O3.N=φ (.cells [.s yn,.s yv]):=⟨(aa6 _ Λ hbt P5).trans Ek.1,(aa6 _ Λ amj hak).trans Ek.2.1,(aa6 _ Λ Λ Λ).trans Ek.2.2⟩;refine⟨Be,?_⟩;obtain⟨kn6,ht6⟩:=EU.DA;have jl:App O7 O.N 2 t:=iU.mv sk λi h1 e=>(ET.2 i h1 (λe2=>by subst e2;rw[hw6]at e;cases e) (λe2=>by subst e2;rw[ht6.cell]at e;cases e) (λe2=>by subst e2;rw[ht6.done]at e;cases e) (λe2=>by cases e2)).trans e
 refine ρ 9 bW ?_;refine ab.op (i:=10) ?_;refine ae bW ?_;refine⟨Be,?_⟩;have cQ:=bE (tk:=t) (tk':=.full) (B:=O.N) (n:=Ζ PL) (k:=1) (cs:=PL.flatMap bp) (ds:=[.s yn,.s v]) Ep AT.1.1 (O:=O7) jl (aP eC _);refine ab.op (i:=11) ?_;rw[eN];refine ak bW cQ ?_;have kJ:∀i,i<O7.N->O7.hp i≠φ .tok->(O7.after t).hp i=O7.hp i:=λi h1 h2=>App.off jl h1 h2
 refine⟨⟨(kJ _ Λ (by rw[Be.1];simp)).trans Be.1,(kJ _ Λ (by rw[Be.2.1];simp)).trans Be.2.1,(kJ _ Λ (by rw[Be.2.2];simp)).trans Be.2.2⟩,?_⟩;refine ab.tC [(12,.one)] ?_;refine ae bW ?_;refine VC.gen ?_;intro O8 e8;have sQ:=dR.after jl;have YY:=sQ.N;have AD:∀i,i≠bb->O8.hp i=(O7.after t).hp i:=λi h1=>by rw[e8,τ _ _ h1,τ _ _ h1]
 have yf:O8.hp bb=φ (.cells [.l (Ζ PL+1) (PL.flatMap bp++[.s yn,.s v]) (.own O7.N 2)]):=by rw[e8];exact υ _ _ _
 have Ar:O8.N=(O7.after t).N:=by rw[e8];rfl
 clear e8;obtain⟨kn7,Y1⟩:=JM.DA;have ahx:=Y1.lt;have hT8:rG O8 tb kr kd L R cr tk Qy:=⟨⟨kn7,(AD _ (Ne.symm hbt)).trans ((kJ _ ahx.1 (by rw[Y1.cell];simp)).trans Y1.cell),(AD _ (Ne.symm hbr)).trans ((kJ _ ahx.2.1 (by rw[Y1.raw];simp)).trans Y1.raw),(AD _ (Ne.symm P5)).trans ((kJ _ ahx.2.2 (by rw[Y1.done];simp)).trans Y1.done),⟨Λ,Λ,Λ⟩,hne⟩,JM.sh⟩;have nF:App O8 O.N 2 (.own O7.N 2):=(App.after (tk:=t) (B:=O.N) (sz:=2) (by omega:O.N<=O7.N)).mv Λ λi hi e=>(AD i (λe2=>by subst e2;have e3:=kJ i Λ (by rw[Be.1];simp);rw[e3,Be.1]at e;cases e)).trans e
 have arw:∀i,i<O.N->i≠tb->i≠kd->i≠bb->O8.hp i=O.hp i:=λi h1 h2 h3 h4=>by
  rw[AD i h4,sQ.hp i Λ (λe=>by have:=(App.iM jl e).1;omega),aa6 i Λ h2 h3,jz i h4,aV.hp i Λ];exact mh i h1 h2 h3 h4
 refine ο bW ew ?_;refine aw.N (j+1,PL++[(yn,v)],Qy,.own O7.N 2) ⟨bu,by dsimp only;rw[TR,qM];rfl,hX,Λ,arw,hT8,?_,nF⟩;dsimp only;rw[apI,TR];simpa[bp]using yf
def EV{R:eL}:∀(L P:List (Bs×Bs))(st:cT)(e:yV),qz R L P st= .error e->e.1≠0
 | [],P,st,e,h=>by cases h
 | x::L,P,st,e,h=>by
   rw[qz]at h;split at h;rename_i hx;injection h with h;subst h;exact Ag _ _ _ _ _ hx;exact EV L _ _ e h
def akJ(hR:∀e∈R,Ζ e.2.1<=100000)(h:rG O tb kr kd L R cr tk st)(hn:Ζ L<=100000):
  VF Ε 72 [.p tb 0] O (aC λm O'=>Fr2 O O' tb kd/\match qz R L [] st with
   | .ok y=>(∃t,m= .tuple [.l (Ζ y.1) (y.1.flatMap bp) t,mi 0,.s []])/\rG O' tb kr kd L R cr tk y.2
   | .error e=>m= .tuple [.l 0 [] .nil,mi e.1,.s e.2]):=by
 have bI:=h.lt;have aa5:=λe=>EV (R:=R) L [] st e
 obtain⟨X,hX⟩:∃X,qz R L [] st=X:=⟨_,rfl⟩
 rw[hX];refine ω 17 [.cell 2 92,.tmp 3,.tmp 4] func72 ?_;refine κ bW ?_;refine VC.gen ?_;intro O1 e1;obtain⟨aM,dq,eo,cS⟩:=jS _ _ e1;clear e1;refine ξ bW eo ?_;refine κ bW ?_
 refine π (NU (O:=O1) (g:=92) (xs:=[.p O.N 0,.p (O.N+1) 0])
  (Φ :=λA B=>ahv A (O.N+1) tb kr kd L R cr tk X (.ret (mi 0)) B)
  (Ψ :=λA B e w=>ahv A (O.N+1) tb kr kd L R cr tk X (.panic (oN e w)) B/\X= .error (e,w)) z11
  (λO2 ax=>VF.mono (λr A' hr=>by
   cases r with
   | ret m=>
     obtain⟨g1,g2,g3⟩:=hr;cases X with
     | ok y=>exact⟨g1,g2,g3⟩
     | error e=>exact g3.elim
   | panic m=>
     obtain⟨g1,g2,g3⟩:=hr;cases X with
     | ok y=>exact g3.elim
     | error e=>exact⟨e.1,e.2,g3.1,⟨g1,g2,rfl,g3.2⟩,rfl⟩) (ahw hR (ax.at eo) (ax.at cS) z31 z31 (h.ge (aM.trans ax)) hn X hX))
  (λA B hA hB=>⟨hB.1,λi h1 h2=>hB.2.1 i h2 Λ Λ Λ⟩)
  (λA B e w hA hB=>⟨hB.1.1,λi h1 h2=>hB.1.2.1 i h2 Λ Λ Λ⟩)) ?_
 rintro _ O3 ⟨A,B,e,w,rfl,sQ,hAB,ea,mh⟩;have YY:=sQ.N;refine ae bW ?_;rcases hAB with⟨rfl,rfl,g1,g2,g3⟩ | ⟨⟨g1,g2,g3⟩,rfl⟩
 ·cases X with
  | error e=>exact g3.elim
  | ok y=>
  obtain⟨⟨t,sO⟩,qX⟩:=g3;have cE:=(mh _ Λ).trans sO;(have G7:rG O3 tb kr kd L R cr tk y.2:=qX.mv ea λi hi=>mh i Λ);refine κ bW ?_;refine ξ bW cE ?_;refine ν bW ?_;exact⟨⟨by show O.N<=O3.N;omega,λi hi a b=>(VH.sx).trans ((mh i Λ).trans ((g2 i Λ a b Λ).trans ((sQ.hp i Λ).trans (aM.hp i hi))))⟩,⟨t,rfl⟩,G7.mv (O:=O3) (Rn _) λi hi=>VH.sx⟩
 ·have AN:(e != 0)=Α:=by simpa using aa5 (e,w) hX
  obtain⟨_,z,hz⟩:=g3;have cE:=(mh (O.N+1) Λ).trans hz;refine θ (aF bW AN cE ?_);exact⟨by show O.N<=O3.N;omega,λi hi a b=>(VH.sx).trans ((mh i Λ).trans ((g2 i Λ a b Λ).trans ((sQ.hp i Λ).trans (aM.hp i hi))))⟩
def mC:List (Bs×Bs)->List (Bs×Bs)->cT->List (Bs×Bs)×cT
 | [],P,R=>(P,R)
 | x::l,P,R=>if(oM x.1 R.1).isSome then mC l P R else mC l (P++[x]) (R.1++[(x.1,x.2,R.2)],R.2+1)
def akK{k:Bs}{M:eL}(h:oM k M=Β):∀p∈M,p.1≠k:=by
 unfold oM at h;rw[Option.map_eq_none_iff,atM]at h;intro p hp e;exact h p hp (by simp[e])
def QA(L:List (Bs×Bs))(tk:Tok)(O:VH)(hn:Ζ L<=100000):VF Ε 66 [.l (Ζ L) (L.flatMap bp) tk] O (aC λm O'=>m= .p (O.N+2) 0/\O.Ge O'/\∃t,AA O' (O.N+2) O.N (O.N+1) (mC L [] ([],0)).1 (mC L [] ([],0)).2.1 [] (mC L [] ([],0)).2.2 0 t 0):=by
 obtain⟨Z,hZ⟩:∃Z,mC L [] ([],0)=Z:=⟨_,rfl⟩
 rw[hZ];have cz:=aP eC L;refine ω 50 [.tmp 2] func66 ?_;have vR:Pu (m_ [(0,1),(1,1),(2,1),(3,1)]) [.l 0 [] .nil,.v (.map Β),.v (.map Β),.v (Ι Κ 0)] (.map O.N) [(2,.map (O.N+1))] (φ (1,1))=φ [.l 0 [] .nil,.map O.N,.map (O.N+1),.v (Ι Κ 0)]:=rfl;refine κ eV ?_;refine ξ eV vR ?_;refine VC.gen ?_;intro O1 e1;obtain⟨aM,dq,eo,cS,gN⟩:=yB _ _ _ e1;clear e1;have amk:O.N+1+1=O.N+2:=Λ
 refine Ξ [3] (λ_:Unit=>[.p (O.N+2) 0]) (λ_ O'=>O.Ge O'/\∃t,AA O' (O.N+2) O.N (O.N+1) Z.1 Z.2.1 [] Z.2.2 0 t 0) ?_ ?_
 ·refine κ eV ?_;refine Γ ?_;refine Υ [14] [3,12,13] (λj:Nat=>[mi j]) (λj O'=>O.Ge O'/\j<=(Ζ L)/\∃P R cr t,mC (L.drop j) P (R,cr)=Z/\(Ζ P)<=j/\AA O' (O.N+2) O.N (O.N+1) P R [] cr 0 t 0/\App O' (O.N+3) 2 t) (λj=>(Ζ L) - j) (0) ?_ ?_;exact⟨aM,ai8 _,[],[],0,.nil,hZ,Rn _,⟨gN,eo,cS,⟨Λ,Λ,Λ⟩,Λ,Λ,Λ⟩,trivial⟩;rintro j O3 ⟨aB,hj,LT,R,cr,t,LC,qM,hT,cQ⟩;by_cases bu:j<Ζ L;rotate_left
  ·obtain rfl:j=Ζ L:=Λ
   rw[an4 (Rn _),mC]at LC;subst LC;refine ν eV ?_;exact aE.mk () ⟨aB,t,hT⟩
  have bh:=bY eC L j bu;rw[List.drop_eq_getElem_cons bu,mC]at LC;generalize L[j]=y at*;obtain⟨yn,yv⟩:=y;dsimp only at LC;simp only[bp]at bh;have ew:=jSx j
  have bI:=hT.lt;have hne:=hT.ne;refine κ eV ?_;refine κ eV ?_;refine Δ (Γ ?_);refine ξ eV bh ?_;refine VC.al ?_;rintro O4 ⟨aV,iD,fe⟩;have xy:=hT.ge aV;have lh:=cQ.ge aV;have ff:=xy.cell;have GU:=xy.raw;simp only[aq]at ff;have eU:jP (iv Ε) O4 202 (.map O.N) (.s yn) Α=φ (uN Α (.s []) ((oM yn R).map .s)):=Ht II T9 T9 GU;cases hl:oM yn R with
  | some v0=>
    rw[hl]at eU LC;simp only[auy,Hh]at eU;rw[if_pos (by rfl)]at LC;refine Δ ?_;refine WC.bM (.held []) [(0,.rd),(1,.rd),(2,.rd),(3,.rd),(4,.rd),(5,.rd),(6,.rd),(7,.rd),(8,.rd),(9,.rd),(10,.rd),(11,.rd)] ?_;refine bo eV ff iD eU ?_;refine ν eV ?_;refine ο eV ew ?_;exact aw.N (j+1) ⟨aB.trans aV,bu,LT,R,cr,t,LC,Λ,xy,lh⟩
  | none=>
  rw[hl]at eU LC;have cZ:=akK hl;simp only[Option.map_none,Hi]at eU;rw[if_neg z12]at LC;refine Δ ?_;refine WC.bM (.held []) [(0,.rd),(1,.rd),(2,.rd),(3,.rd),(4,.rd),(5,.rd),(6,.rd),(7,.rd),(8,.rd),(9,.rd),(10,.rd),(11,.rd)] ?_;refine bo eV ff iD eU ?_;refine κ eV ?_;refine ν eV ?_;refine WC.bM (.held [8]) [(0,.rd),(1,.rd),(2,.rd),(3,.rd),(4,.rd),(5,.rd),(6,.rd),(7,.rd),(8,.one)] ?_;have kF:fl (iv Ε) O4 202 (.map O.N) (.s yn) (.s yv)=φ (O4.set O.N (.map (nK (R++[(yn,yv,cr)])) (cr+1))):=ao3 II T9 GU cZ;refine bo eV ff iD kF ?_;refine VC.gen ?_;intro O5 e5;((((((((have jz:∀i,i≠O.N->O5.hp i=O4.hp i:=λi hi=>by rw[e5];exact τ _ _ hi);have ie:O5.N=O4.N:=by rw[e5];rfl);have nU:O5.hp O.N=φ (.map (nK (R++[(yn,yv,cr)])) (cr+1)):=by rw[e5];exact υ _ _ _);have bB:O.Ge O5:=by rw[e5];exact(aB.trans aV).set (Rn _) _);have iz:App O5 (O.N+3) 2 t:=lh.mv Λ λi hi e=>(jz i (λe2=>by subst e2;rw[GU]at e;cases e)).trans e);clear e5;have fY:=(jz _ Λ).trans ff;have qY:=(jz _ Λ).trans iD;have Ql:=(jz (O.N+1) Λ).trans xy.done;obtain⟨mE,iT,oX⟩:=jj (n:=Ζ LT) (cs:=LT.flatMap bp) (ds:=[.s yn,.s yv]) (es:=bp (yn,yv)) Ep AT.1.1 iz (aP eC LT) rfl rfl z12 Λ z13 (ic LT) (by simp only[bp,wu]);refine WC.bM (.held [10]) [(0,.rd),(1,.rd),(2,.rd),(3,.rd),(4,.rd),(5,.rd),(6,.one),(7,.one),(8,.one),(9,.rd),(10,.one)] ?_;refine aF eV fY qY ?_;refine VL.o7 iT oX ?_;have GX:(O5.after t).hp (O.N+2)=_:=(App.off iz Λ (by rw[fY];simp)).trans fY;have hra:(O5.after t).hp O.N=_:=(App.off iz Λ (by rw[nU];simp)).trans nU;have hda:(O5.after t).hp (O.N+1)=_:=(App.off iz Λ (by rw[Ql];simp)).trans Ql;refine ak eV GX ?_;refine VC.gen ?_;intro O6 e6;have sQ:=dR.after iz;have JL:∀i,i≠O.N+2->O6.hp i=(O5.after t).hp i:=λi hi=>by rw[e6];exact τ _ _ hi);have mQ:O6.N=(O5.after t).N:=by rw[e6];rfl);have xt:O6.hp (O.N+2)=φ (.cells [.l (Ζ LT+1) (LT.flatMap bp++bp (yn,yv)) (.own O5.N 2),.map O.N,.map (O.N+1),.v (Ι Κ 0)]):=by rw[e6];exact υ _ _ _);have iU:App O6 (O.N+3) 2 (.own O5.N 2):=(App.after (tk:=t) (B:=O.N+3) (sz:=2) (by omega:O.N+3<=O5.N)).mv Λ λi hi e=>(JL i (λe2=>by subst e2;rw[GX]at e;cases e)).trans e
  have UD:O.Ge O6:=⟨by have:=sQ.N;have:=bB.N;omega,λi hi=>by
   rw[JL i Λ,sQ.hp i (by have:=bB.N;omega) (λe=>by have:=(App.iM iz e).1;omega)];exact bB.hp i hi⟩
  have YY:=sQ.N;refine ο eV ew ?_;refine aw.N (j+1) ⟨UD,bu,LT++[(yn,yv)],R++[(yn,yv,cr)],cr+1,.own O5.N 2,LC,by rw[TR];show (Ζ LT)+1<=j+1;omega,⟨?_,(JL _ Λ).trans hra,(JL _ Λ).trans hda,⟨Λ,Λ,Λ⟩,hne⟩,iU⟩;rw[apI,TR];simpa[aq]using xt
 rintro _ O9 ⟨bq,t,hT⟩;refine ν eV ?_;exact⟨bq,t,hT⟩
def Y2(L:List (Bs×Bs))(tk:Tok)(O:VH)(hn:Ζ L<=100000):VF Ε 60 [.l (Ζ L) (L.flatMap bp) tk] O (aC λm O'=>O.Ge O'/\GR O' 156 2 O.N m (Ζ L) (L.flatMap bp)):=by
 have cz:=aP eC L
 have fX:(L.flatMap bp).all dF=Α:=by
  rw[List.all_flatMap,List.all_eq_true];intro p _;rfl
 refine χ 8 [.tmp 2] func60 ?_;refine ak lp @nH ?_;refine auV (qy Tryz.underlying92 rfl) ?_;rintro _ O1 ⟨eO,b,rfl,hb⟩;rw[eO];clear eO O1;refine WL.sound aa ?_;cases b;refine ae lp ?_;refine VL.grow aa (.inl rfl) (te:=⟨_,2,_,_⟩) (B:=O.N) (n':=0) (L:=[]) (dx:=.slice 156) (p:=.l 0 [] .full) (q:=.l (Ζ L) (L.flatMap bp) tk) (j:=Ζ L) (ds:=L.flatMap bp) (.inl ⟨rfl,rfl,.inr rfl⟩) (by simp[sW,cz]) fX (by rw[Ep];rfl) AT.1.1 (by rw[Ep];rfl) trivial z18 z13 (Rn _) rfl rfl rfl rfl ?_;intro m O' h1 h2 h3 h4;rw[auk,auM]at h1;refine ae lp ?_;exact⟨h3 rfl,h1⟩;obtain⟨h0,h1⟩:=hb rfl;rw[h0,h1];refine ae lp ?_;exact⟨VH.Ge.refl _,.inl ⟨rfl,rfl,.inl rfl⟩⟩
def ahy(L:List (Bs×Bs))(k c:Nat)(sp:Η)(id:FuncId)(cs:Η)(p:Bs×Bs->Bool)(O:VH)(hk:O.hp k=φ (.cells (L.flatMap bp++sp)))(j6:k<O.N)(lU:(L.flatMap bp++sp).length=c*2)(hid:cV Ε id=Α)(hc:∀x∈L,∀O',O.Ge O'->VF Ε id ([.agg (bp x)]++cs) O' (aC λm mS=>m=mb (p x)/\O'.Ge mS))(hn:Ζ L<=1000000):
  VF Ε 177 [.bk k 0 (Ζ L) c,.func (.func id) [] cs] O (aC λm O'=>m=mi (idxFrom p 0 L)/\O.Ge O'):=by
 have cz:=aP eC L;have hlc:(Ζ L)*2<=c*2:=by rw[<-lU,TR,cz];omega
 refine χ 19 [.tmp 4] func177 ?_;refine ae ek ?_;refine WC.cj [8] [0,1,7] (λj:Nat=>[mi j]) (λj O'=>O.Ge O'/\j<=(Ζ L)/\idxFrom p 0 L=idxFrom p j (L.drop j)) (λj=>(Ζ L) - j) (0) ?_ ?_;exact⟨VH.Ge.refl _,ai8 _,rfl⟩;rintro j O2 ⟨ax,hj,bH⟩;by_cases h2:j<Ζ L
 ·have bh:=bY eC L j h2
  have w5:((L.flatMap bp++sp).drop (j*2)).take 2=bp L[j]:=by
   rw[<-bh,List.drop_append_of_le_length Λ,auh (by rw[an7];omega)]
  have bC:=ax.at hk;have Ye:=hc L[j] (ai_ h2) O2 ax;rw[asc h2,idxFrom]at bH;clear bh;generalize L[j]=y at*;refine bo ek bC lU w5 ?_;refine π Ye ?_ (hb:=hid);rintro _ O3 ⟨rfl,aB⟩;cases hi:p y;rw[hi]at bH;refine ae ek ?_;exact aw.N (j+1) ⟨ax.trans aB,Λ,bH⟩;rw[hi,if_pos rfl]at bH;rw[bH];refine ae ek ?_;exact ax.trans aB
 ·obtain rfl:j=Ζ L:=Λ
  rw[an4 Λ]at bH;rw[bH];refine ae ek ?_;exact⟨rfl,ax⟩
def akL(L:List (Bs×Bs))(p:MV)(B:Nat)(nm:Bs)(O:VH)(h:GR O 156 2 B p (Ζ L) (L.flatMap bp))(hn:Ζ L<=1000000):VF Ε 150 [p,.s nm] O (aC λm O'=>m=mi (idxFrom (λx=>x.1==nm) 0 L)/\O.Ge O'):=by
 rcases h with⟨h0,_,h2⟩ | ⟨k,c,rfl,_,_,hr⟩;obtain rfl:L=[]:=List.length_eq_zero_iff.1 h0;rcases h2 with rfl | rfl;exact ahg [] _ nm O hn;exact ahg [] _ nm O hn;obtain⟨sp,h1,h2⟩:=hr.cells;have j6:=hr.hi;refine ω 8 [.tmp 4] func150 ?_;refine κ iB ?_;refine VC.bx ?_;rintro O1 ⟨aM,dz,dq⟩;refine κ iB ?_;refine π (ahy L k c sp 178 [.p O.N 0] (λx=>x.1==nm) O1 (aM.at h1) Λ h2 z11 (λq _ O' Ao=>ahf q _ nm O' (Ao.at dz) (by have:=Ao.N;omega)) hn) ?_;rintro _ O2 ⟨rfl,ax⟩;refine ae iB ?_;refine ν iB ?_;exact aM.trans ax
def lr(nm v:Bs):List (Bs×Bs)->List (Bs×Bs)
 | []=>[(nm,v)]
 | x::l=>if x.1==nm then(x.1,v)::l else x::lr nm v l
def UE(nm v:Bs):∀(L:List (Bs×Bs))(i:Nat),idxFrom (λx:Bs×Bs=>x.1==nm) i L= -1->lr nm v L=L++[(nm,v)]
 | [],i,h=>rfl
 | x::l,i,h=>by
   rw[idxFrom]at h;rw[lr];cases hx:x.1==nm;rw[hx,if_neg z12]at h;rw[if_neg z12,UE nm v l (i+1) h];rfl;rw[hx,if_pos rfl]at h;omega
def UF(nm v:Bs)(sp:Η):∀(L:List (Bs×Bs))(i:Nat),idxFrom (λx:Bs×Bs=>x.1==nm) i L≠ -1->∃j:Nat,idxFrom (λx:Bs×Bs=>x.1==nm) i L=((i+j:Nat):Int)/\j<(Ζ L)/\(L.flatMap bp++sp).set (j*2+1) (.s v)=(lr nm v L).flatMap bp++sp/\(lr nm v L).length=Ζ L
 | [],i,h=>absurd rfl h
 | x::l,i,h=>by
   rw[idxFrom]at h ⊢;rw[lr];cases hx:x.1==nm;rw[hx,if_neg z12]at h;obtain⟨j,h1,h2,h3,h4⟩:=UF nm v sp l (i+1) h;refine⟨j+1,?_,by simpa using h2,?_,?_⟩;rw[if_neg z12,h1];(((congr 1;omega);rw[if_neg z12,aui,aui,auH,auH, <-h3];simp[bp,Nat.add_mul]);rw[if_neg z12];simp[h4]);refine⟨0,by rw[if_pos rfl];simp,z10,?_,?_⟩;rw[if_pos rfl];simp[bp];rw[if_pos rfl];simp
def akM(L:List (Bs×Bs))(tk:Tok)(nm vl:Bs)(O:VH)(hn:Ζ L<=100000):VF Ε 117 [.l (Ζ L) (L.flatMap bp) tk,.s nm,.s vl] O (aC λm O'=>O.Ge O'/\GR O' 156 2 O.N m (lr nm vl L).length ((lr nm vl L).flatMap bp)):=by
 have hsa:=λsp=>UF nm vl sp L 0
 have fh:=UE nm vl L 0;have cz:=aP eC L;refine ω 28 [.tmp 6] func117 ?_;refine κ iB ?_;refine κ iB ?_;refine π (Y2 L tk O Λ) ?_;rintro m2 O2 ⟨ax,fR⟩;have eG:=ax.N;refine ae iB ?_;refine κ iB ?_;refine π (akL L m2 O.N nm O2 fR Λ) ?_;rintro _ O3 ⟨rfl,aB⟩;have ea:=aB.N;have gD:=ax.trans aB;have gu:GR O3 156 2 O.N m2 (Ζ L) (L.flatMap bp):=fR.fr aB.N (λk hk=>aB.hp k (fR.fF k hk).2.1) (λj k t n _ hj=>aB.hp j hj);clear fR;refine ae iB ?_;by_cases hi:idxFrom (λx:Bs×Bs=>x.1==nm) 0 L= -1;rw[hi,fh hi];refine κ iB ?_;refine VL.grow aa (.inl rfl) (te:=⟨_,2,_,_⟩) (dx:=.slice 156) (q:=.l 1 [.s nm,.s vl] .full) (j:=1) (ds:=[.s nm,.s vl]) gu rfl rfl (by rw[Ep];rfl) AT.1.1 (by rw[Ep];rfl) trivial z18 z13 Λ rfl rfl rfl rfl ?_;intro m O4 h1 h2 _ _;refine ae iB ?_;refine ν iB ?_;rw[TR,apI];exact⟨⟨by have:=h2.N;omega,λi hi=>(h2.hp i Λ λe=>by have:=(gu.fF i e).1;omega).trans (gD.hp i hi)⟩,h1⟩;obtain⟨j,hj,rB,_,_⟩:=hsa [] hi;rcases gu with⟨h0,_⟩ | ⟨k,c,rfl,g1,g2,g3⟩;omega;obtain⟨sp,r1,r2⟩:=g3.cells;obtain⟨j',Sf,_,jD,hlen⟩:=hsa sp hi;(obtain rfl:j'=j:=by omega);have ym:=g3.lo;have e1:decide (((j':Nat):Int)>=0)=Α:=decide_eq_true Λ;have e2:decide ((0:Int)<=((j':Nat):Int))=Α:=e1;have lU:(L.flatMap bp++sp).length=c*2:=r2;rw[hj,auk];refine gy iB (ahB e1 e2) r1 lU jD ?_;obtain⟨q,q1,q2,q3⟩:=g3.n4;refine⟨gD.set ym _,.inr ⟨k,c,by rw[hlen],by rw[hlen];exact g1,aP eC _,⟨⟨sp,υ _ _ _,by rw[<-jD,auN];exact r2⟩,⟨q,q1,q2,?_⟩,ym,g3.hi⟩⟩⟩;rw[τ _ _ λe=>by rw[e,r1]at q3;cases q3];exact q3
def VF.JN{P:Program}{args:Η}{Φ Φ':MV->VH->Prop}(h:VF P f args O (aC Φ))(hf:∀m O', Φ m O'-> Φ' m O'\/∃k o n c sz cs,m= .bk k o n c/\O'.hp k=φ (.cells cs)/\o+sz<=(Ζ cs)/\ Φ' (.l n ((cs.drop o).take sz) (if c=n then .full else .av)) (O'.kill k)):VF P f args O (aC Φ'):=by
 intro G w vs hw hv;refine(h G w vs hw hv).mono λx w' ⟨r,O',H,h1,h2,h3,h4⟩=>?_
 cases r with
 | panic m=>exact h4.elim
 | ret m=>
   cases x with
   | panicked c=>exact h3.elim
   | outgrown=>exact h3.elim
   | returned v=>
     rcases hf m O' h4 with g | ⟨k,o,n,c,sz,cs,rfl,g1,g2,g3⟩;exact⟨.ret _,O',H,h1,h2,h3,g⟩;obtain⟨H',e1,e2,e3⟩:=h2.freeze g1 h3 g2;exact⟨.ret _,_,H',h1.trans e1,e2,e3,g3⟩
def akN(L:List (Bs×Bs))(tk:Tok)(nm vl:Bs)(O:VH)(hn:Ζ L<=100000):VF Ε 117 [.l (Ζ L) (L.flatMap bp) tk,.s nm,.s vl] O (aC λm O'=>(∃t,m= .l (lr nm vl L).length ((lr nm vl L).flatMap bp) t)/\O.Ge O'):=by
 have cz:=aP eC (lr nm vl L);refine VF.JN (akM L tk nm vl O hn) ?_;rintro m O' ⟨hg,hr⟩;rcases hr with⟨h0,h1,h2⟩ | ⟨k,c,rfl,_,_,hr⟩;rw[h0,h1];rcases h2 with rfl | rfl;exact .inl ⟨⟨_,rfl⟩,hg⟩;exact .inl ⟨⟨_,rfl⟩,hg⟩;obtain⟨sp,h1,_⟩:=hr.cells;refine .inr ⟨k,0,_,c,(lr nm vl L).length*2,_,rfl,h1,by rw[TR,cz];omega,⟨if c=(lr nm vl L).length then .full else .av,?_⟩,hg.kill hr.lo⟩;rw[auC, <-cz,List.take_left'];rfl
def jA(L M:List (Bs×Bs)):List (Bs×Bs):=M.foldl (λa x=>lr x.1 x.2 a) L
def Ah(nm v:Bs):∀L:List (Bs×Bs),(lr nm v L).length<=Ζ L+1
 | []=>by simp[lr]
 | x::l=>by
   have:=Ah nm v l;rw[lr];split<;>simp<;>omega
def JO(L M:List (Bs×Bs))(tk tM:Tok)(O:VH)(hn:Ζ L+Ζ M<=100000):VF Ε 89 [.l (Ζ L) (L.flatMap bp) tk,.l (Ζ M) (M.flatMap bp) tM] O (aC λm O'=>(∃t,m= .l (jA L M).length ((jA L M).flatMap bp) t)/\O.Ge O'):=by
 have hpm:=aP eC M;refine ω 24 [.tmp 4] func89 ?_;refine κ iB ?_;refine κ iB ?_;refine π (Nw L tk O Λ) ?_;rintro _ O2 ⟨t2,rfl,cQ,ax⟩;refine ae iB ?_;refine VC.join aa [5] (λt:Tok=>[.l (jA L M).length ((jA L M).flatMap bp) t]) (λt O'=>O.Ge O') ?_ ?_;rotate_left;intro t O9 bq;refine ae iB ?_;exact⟨⟨t,rfl⟩,bq⟩;refine κ iB ?_;refine Γ ?_;refine Υ [5,12] [10,11] (λx:Nat×List (Bs×Bs)×Tok=>[.l (Ζ x.2.1) (x.2.1.flatMap bp) x.2.2,mi x.1]) (λx O'=>O.Ge O'/\x.1<=(Ζ M)/\(Ζ x.2.1)<=Ζ L+x.1/\jA x.2.1 (M.drop x.1)=jA L M) (λx=>(Ζ M) - x.1) ((0,L,t2)) ?_ ?_;exact⟨ax,ai8 _,Rn _,rfl⟩;rintro⟨j,LM,t⟩ O3 ⟨aB,hj,xh,UG⟩;dsimp only at hj xh UG ⊢;by_cases bu:j<Ζ M;rotate_left
 ·obtain rfl:j=Ζ M:=Λ
  rw[an4 (Rn _)]at UG;rw[<-UG];refine ν iB ?_;exact aE.mk t aB
 have bh:=bY eC M j bu;rw[List.drop_eq_getElem_cons bu,jA,List.foldl_cons]at UG;generalize M[j]=y at*;obtain⟨yn,yv⟩:=y;dsimp only at UG;simp only[bp]at bh;have ew:=jSx j;have uU:=Ah yn yv LM;refine κ iB ?_;refine κ iB ?_;refine Δ (Γ ?_);refine ξ iB bh ?_;refine VC.al ?_;rintro O4 ⟨aV,fJ,fe⟩;refine ο iB fJ ?_;refine π (akN LM t yn yv O4 Λ) ?_;rintro _ O5 ⟨⟨t5,rfl⟩,bB⟩;refine ae iB ?_;refine ο iB ew ?_;exact aw.N (j+1,lr yn yv LM,t5) ⟨(aB.trans aV).trans bB,bu,by dsimp only;omega,UG⟩
open Go.MapKept (run_setObj_map)
section
variable{G H:Gh}{n:Sz}{D:List Deferred}{e e':Env}{a:Act}{P:Program}{tab:cB}{O O':VH}{w:World}{m m':MV}{u v:Value}{ops:Array Oper}{Q:VQ}{md:Md}
structure UH(N:Nat)(M:gx)(ck:Nat):Prop where
 ok:uM N M
 bn:(M.map (·.2.2)).Nodup
 lt:∀p∈M,p.2.2<ck
def yX{k:List Ρ}(h:k≠l):fD k (M++[(l,z,ck)])=fD k M:=by
 unfold fD;rw[List.find?_append]
 have:([(l,z,ck)]:gx).find? (·.1==k)=Β:=by
  rw[atM];intro p hp;rw[alp.1 hp];simpa using Ne.symm h
 rw[this,Option.or_none]
def yY(h:∀p∈M,p.1≠l):fD l (M++[(l,z,ck)])=φ z:=by
 unfold fD;rw[List.find?_append,atM.2 (λp hp=>by simpa using h p hp)];simp
def ahz{p:List Ρ×MV×Nat}(h1:(M.map (·.1)).Nodup)(hp:M[i]?=φ p):fD p.1 (M.modify i λq=>(q.1,y,q.2.2))=φ y/\∀k,k≠p.1->fD k (M.modify i λq=>(q.1,y,q.2.2))=fD k M:=by
 have hk:(M.modify i (λq=>(q.1,y,q.2.2))).map (·.1)=M.map (·.1):=pO (f:=λq:List Bs×MV×Nat=>(q.1,y,q.2.2)) (λ_=>rfl) M i;have hn:((M.modify i (λq=>(q.1,y,q.2.2))).map (·.1)).Nodup:=by rw[hk];exact h1
 constructor
 ·(have:(M.modify i λq=>(q.1,y,q.2.2))[i]?=φ (p.1,y,p.2.2):=by rw[auw,hp];simp);exact zP hn this
 ·intro k arx;by_cases hex:∃(j:Nat)(q:List Ρ×MV×Nat),M[j]?=φ q/\q.1=k
  ·obtain⟨j,q,hq,rfl⟩:=hex
   have HU:i≠j:=λe=>by
    subst e;rw[hp]at hq;injection hq with hq;exact arx (by rw[hq])
   (have:(M.modify i λq=>(q.1,y,q.2.2))[j]?=φ q:=by rw[auw,hq];simp[HU]);rw[zP hn this,zP h1 hq]
  ·have cZ:∀q∈M,q.1≠k:=λ(q:List Ρ×MV×Nat) hq e=>by
    obtain⟨j,hj,ej⟩:=apF.1 hq;exact hex ⟨j,q,by rw[Ro hj,ej],e⟩
   have ary:∀q∈(M.modify i λq=>(q.1,y,q.2.2):gx),q.1≠k:=λq hq e=>by
    have:q.1∈(M.modify i (λq=>(q.1,y,q.2.2))).map (·.1):=aja.2 ⟨q,hq,rfl⟩;rw[hk]at this;obtain⟨q',h2,h3⟩:=aja.1 this;exact cZ q' h2 (h3.trans e)
   rw[px cZ,px ary]
def dd.aa7{kt et:TypeId}(K:wJ P kt N)(ht:aN P tab){t ty:TypeId}{y:Operand}{te:cg}(hU:P.underlying t=φ (.map kt et))(oV:tab et=φ te)(hz:Cv te=φ z)
  (hx:ev e x=φ (.map b)) (hb:O.hp b=φ (.map (dw M) ck)) (hX:UH N M ck) (hy:ev e y=φ (.agg (l.map .s))) (hl:Ζ l=N) (hs:∀s∈l,Ζ s<=maxLen):
  dd P n D (.mk d (.mapEntry t x y) ty ps af g) e O λm O'=>∃(M':gx)(ck':Nat)(v:MV)(st:Nat),m= .tuple [v,.v (Ι Κ st)]/\O'=O.set b (.map (dw M') ck')/\UH N M' ck'/\fD l M'=φ v/\(fD l M=φ v\/(fD l M=Β/\v=z))/\(∀k,k≠l->fD k M'=fD k M)/\(∃p∈M',p.1=l/\p.2.2=st):=by
 intro G a w hw hf;have hM:=hX.ok;have h1:=hf.ev hx;have h2:=hf.ev hy;generalize oo:a.eval x=u at h1;generalize BE:a.eval y=v at h2;have hv:=CT h2;subst hv;cases h1 with
 | map fK=>
   rename_i b';obtain⟨b2,E,e1,e2,e3,e4,e5⟩:=hw.map _ _ _ hb;rw[fK]at e1;injection e1 with e1;subst e1;have hE:h_ G (dw M) E.toList:=⟨e3,e4,e5⟩;obtain⟨lit,AS⟩:=K.of l hl hs;have PH:=K.law.check w γ AS;obtain⟨zv,z1,z2⟩:=Bx (ht et te oV) hz;rcases CU K hM hE hl hs w with⟨g1,g2⟩ | ⟨j,p,q,g1,g2,g3,g4,g5⟩
   ·have iw:M.any (·.1==l)=γ:=by rw[auq];intro p hp;simpa using g2 p hp
    have hr:h_ G (dw (M++[(l,z,ck)])) (E.push {key:=gv l,val:=zv,born:=ck}).toList:=by
     rw[Array.toList_push];unfold dw;rw[aug];exact hE.append (h_.cons rfl h2 (z2 G) h_.nil)
    have bH:=uO (y:=z) (ck:=ck) hM hl hs;unfold kY at bH;rw[iw]at bH
    have LD:UH N (M++[(l,z,ck)]) (ck+1):=by
     refine⟨bH,?_,λp hp=>?_⟩;rw[aug,List.nodup_append];refine⟨hX.bn,z10,λx hx y hy=>?_⟩;obtain⟨p,hp,rfl⟩:=aja.1 hx;have h3:=hX.lt p hp;simp only[List.map_cons,List.map_nil,alp]at hy;omega;rcases apK.1 hp with hp | hp;exact Nat.lt_succ_of_lt (hX.lt p hp);rw[alp.1 hp];exact an3 _
    refine⟨.tuple [z,.v (Ι Κ ck)],O.set b (.map (dw (M++[(l,z,ck)])) (ck+1)),.tuple #[zv,.int .i64 ck],?wx,G,⟨M++[(l,z,ck)],ck+1,z,ck,rfl,rfl,LD,yY g2,.inr ⟨px g2,rfl⟩,λk hk=>yX hk,⟨_,List.mem_append_right _ (alp.2 rfl),rfl,rfl⟩⟩,?rn,Gh.Le.refl G,?wr,?vr⟩
    case wr=>exact hw.vF (ck':=ck+1) hb fK e2 hr
    case rn=>
     simp only[execOp,oo,BE,Instr.mapEntry,Sem.run_bind,run_underlying hU,Result.andThen_ok,MapKept.run_getObj_map e2,PH,g1,z1,run_setObj_map _ e2];rfl
    case vr=>exact VR.tuple (us:=[zv,.int .i64 ck]) rfl (aX.cons (z2 G) (aX.cons (.v rfl) aX.nil)).2
   ·obtain⟨k1,k2,k3⟩:=hE.keys.2 j p q g2 g4;have eD:=K.law.stays w AS;(((have XE:q.key=gv l:=by rw[k1,g3]);have Ia:E[j]?=φ q:=by simpa using g4);have vE:((E[j]?).map (·.key)).getD (gv l)=gv l:=by rw[Ia];exact XE);have xD:((E[j]?).map (λx=>((x.born:Nat):Int))).getD 0=(p.2.2:Int):=by rw[Ia];exact congrArg (λn:Nat=>(n:Int)) k3
    have arz:E.modify j (λx=>{x with key:=gv l})=E:=by
     have hj:=(Array.getElem?_eq_some_iff.1 Ia);obtain⟨ew,bu⟩:=hj;apply Array.ext;simp;intro i yS fQ;rw[Array.getElem_modify];split;rename_i e;subst e;rw[bu, <-XE];rfl
    (have eU:fD l M=φ p.2.1:=by rw[<-g3];exact zP hM.one g2);refine⟨.tuple [p.2.1,.v (Ι Κ p.2.2)],O.set b (.map (dw M) ck),.tuple #[q.val,.int .i64 p.2.2],?wy,G,⟨M,ck,p.2.1,p.2.2,rfl,rfl,hX,eU,.inl eU,λk _=>rfl,⟨p,an2 g2,g3,rfl⟩⟩,?rm,Gh.Le.refl G,?ws,?vs⟩
    case ws=>exact hw.vF (E':=E) (ck':=ck) hb fK e2 hE
    case rm=>
     simp only[execOp,oo,BE,Instr.mapEntry,Sem.run_bind,run_underlying hU,Result.andThen_ok,MapKept.run_getObj_map e2,PH,g1,vE,eD,arz,xD,run_setObj_map _ e2];rfl
    case vs=>exact VR.tuple (us:=[q.val,.int .i64 p.2.2]) rfl (aX.cons g5 (aX.cons (.v rfl) aX.nil)).2
def EP.JP{t ty:TypeId}{y z:Operand}{st:Nat}(hx:ev e x=φ (.map b))(hb:O.hp b=φ (.map (dw M) ck))(hX:UH N M ck)(hy:ev e y=φ (.v (Ι Κ st)))(hz:ev e z=φ m)(hin:∃p∈M,p.1=l/\p.2.2=st):
  EP P n D (.mk d (.entryStore t x y z) ty ps af g) e O λO'=>∃M',O'=O.set b (.map (dw M') ck)/\UH N M' ck/\fD l M'=φ m/\∀k,k≠l->fD k M'=fD k M:=by
 intro G a w hw hf;have hM:=hX.ok;have h1:=hf.ev hx;have h2:=hf.ev hy;have h3:=hf.ev hz;generalize oo:a.eval x=u at h1;generalize BE:a.eval y=v at h2;generalize haz:a.eval z=r at h3;have hv:=h2.jq;subst hv;cases h1 with
 | map fK=>
   rename_i b';obtain⟨b2,E,e1,e2,e3,e4,e5⟩:=hw.map _ _ _ hb;rw[fK]at e1;injection e1 with e1;subst e1;have hE:h_ G (dw M) E.toList:=⟨e3,e4,e5⟩;have hlen:=hE.keys.1;obtain⟨p,hp,cz,hps⟩:=hin;obtain⟨j,hj,ej⟩:=apF.1 hp;have hjE:j<Ζ E.toList:=Λ;have ao5:=(hE.keys.2 j p E.toList[j] (by rw[Ro hj,ej]) (Ro hjE)).2.2;have ao6:E.toList[j]∈E:=by simp
   obtain⟨i,hi⟩:∃i,E.findIdx? (λe=>(e.born:Int)==(st:Int))=φ i:=by
    have:(E.findIdx? (λe=>(e.born:Int)==(st:Int))).isSome=Α:=by
     rw[Array.findIdx?_isSome];rw[Array.any_eq_true'];exact⟨_,ao6,by rw[ao5,hps];simp⟩
    exact Option.isSome_iff_exists.1 this
   have hMi:M[i]?=φ p:=by
    obtain⟨yS,fQ,_⟩:=Array.findIdx?_eq_some_iff_getElem.1 hi;(have hiM:i<Ζ M:=by rw[<-hlen];simpa using yS);have bV:=(hE.keys.2 i M[i] E.toList[i] (Ro hiM) (Ro (by simpa using yS))).2.2
    have hbs:M[i].2.2=st:=by
     have:(E[i].born:Int)=st:=by simpa using fQ
     have h5:E.toList[i].born=E[i].born:=by simp
     omega
    have hbj:M[j].2.2=st:=by rw[ej];exact hps
    have nj:i=j:=by
     have hq:=List.getElem_inj (h₀:=by rw[an5];exact hiM) (h₁:=by rw[an5];exact hj) hX.bn;exact hq.1 (by rw[List.getElem_map,List.getElem_map,hbs,hbj])
    subst nj;rw[Ro hiM,ej]
   have hr:h_ G (dw (M.modify i λp=>(p.1,m,p.2.2))) (E.modify i λe=>{e with val:=r}).toList:=by
    rw[Array.toList_modify];refine⟨?_,?_,?_⟩;rw[pO (f:=λe:MapEntry=>{e with val:=r}) (g:=λx=>x.born) (λ_=>rfl) E.toList i,e3];unfold dw;rw[aup,aup];exact(pO (f:=λp:List Bs×MV×Nat=>(p.1,m,p.2.2)) (λ_=>rfl) M i).symm
    ·rw[pO (f:=λe:MapEntry=>{e with val:=r}) (g:=λx=>x.key) (λ_=>rfl) E.toList i]
     have:(dw (M.modify i λp=>(p.1,m,p.2.2))).map (·.1)=(dw M).map (·.1):=by
      unfold dw;rw[aup,aup];exact pO (f:=λp:List Bs×MV×Nat=>(p.1,m,p.2.2)) (λ_=>rfl) M i
     rw[this];exact e4
    ·rw[Uy (f:=λe:MapEntry=>{e with val:=r}) (g:=λx=>x.val) (y:=r) (λ_=>rfl) E.toList i]
     have:(dw (M.modify i λp=>(p.1,m,p.2.2))).map (·.2.1)=((dw M).map (·.2.1)).set i m:=by
      unfold dw;rw[aup,aup];exact Uy (f:=λp:List Bs×MV×Nat=>(p.1,m,p.2.2)) (λ_=>rfl) M i
     rw[this];exact e5.set h3
   have du:(M.modify i (λp=>(p.1,m,p.2.2))).map (·.1)=M.map (·.1):=pO (f:=λp:List Bs×MV×Nat=>(p.1,m,p.2.2)) (λ_=>rfl) M i;have bC:(M.modify i (λp=>(p.1,m,p.2.2))).map (·.2.2)=M.map (·.2.2):=pO (f:=λp:List Bs×MV×Nat=>(p.1,m,p.2.2)) (g:=λp=>p.2.2) (λ_=>rfl) M i
   have LD:UH N (M.modify i λp=>(p.1,m,p.2.2)) ck:=by
    refine⟨⟨λq hq=>?_,by rw[du];exact hM.one⟩,by rw[bC];exact hX.bn,λq hq=>?_⟩;have:q.1∈(M.modify i (λp=>(p.1,m,p.2.2))).map (·.1):=aja.2 ⟨q,hq,rfl⟩;rw[du]at this;obtain⟨q',h5,h6⟩:=aja.1 this;rw[<-h6];exact hM.len q' h5;have:q.2.2∈(M.modify i (λp=>(p.1,m,p.2.2))).map (·.2.2):=aja.2 ⟨q,hq,rfl⟩;rw[bC]at this;obtain⟨q',h5,h6⟩:=aja.1 this;rw[<-h6];exact hX.lt q' h5
   obtain⟨l1,l2⟩:=ahz (y:=m) hM.one hMi;rw[cz]at l1 l2;refine⟨?wx,G,O.set b (.map (dw (M.modify i λp=>(p.1,m,p.2.2))) ck),⟨_,rfl,LD,l1,l2⟩,?rn,Gh.Le.refl G,?wr⟩
   case wr=>exact hw.vF (ck':=ck) hb fK e2 hr
   case rn=>
    simp only[execOp,oo,BE,haz,Instr.entryStore,Sem.run_bind,Result.andThen_ok,MapKept.run_getObj_map e2,asInt,asIntOf,Sem.run_pure,hi,run_setObj_map _ e2]
end
def ig(L M:List Dp):List Dp:=L++M.filter λx=> !(L.any λy=>dm (bZ y)==dm (bZ x))
def JQ(L:List Dp)(j:Nat)(M:gx):Prop:=∀kl:List Bs,Ζ kl=4->∃x:Int,uN γ (mi 0) (fD kl M)=mi x/\0<=x/\x<=j/\(x=0 ↔ ∀d∈L.take j,dm (bZ d)≠kl)
def JQ.zero(L:List Dp):JQ L 0 []:=λkl _=>⟨0,rfl,Int.le_refl _,Int.le_refl _,z10⟩
def NV{L:List Dp}{j:Nat}{M2:gx}{kl:List Bs}{d:Dp}{x:Int}(h:JQ L j M)(hd:dm (bZ d)=kl)(fP:L.take (j+1)=L.take j++[d])(h1:fD kl M2=φ (mi (x+1)))(h2:∀k,k≠kl->fD k M2=fD k M)(hx:uN γ (mi 0) (fD kl M)=mi x)(hx0:0<=x/\x<=j):JQ L (j+1) M2:=by
 intro k hk;by_cases e:k=kl;subst e;refine⟨x+1,by rw[h1];rfl,Λ,Λ,⟨λh=>Λ,λh=>?_⟩⟩;exact absurd hd (h d (by rw[fP];simp))
 ·obtain⟨y,g1,g2,g3,g4⟩:=h k hk;refine⟨y,by rw[h2 k e];exact g1,g2,Λ,?_⟩;rw[g4,fP];constructor;intro h5 q hq;rcases apK.1 hq with hq | hq;exact h5 q hq;rw[alp.1 hq,hd];exact Ne.symm e
  ·exactλh5 q hq=>h5 q (List.mem_append_left _ hq)
def aeb(L M:List Dp)(tk t2:Tok)(O:VH)(hn:Ζ L+Ζ M<=100000)(hL:∀d∈L,oL d)(UG:∀d∈M,oL d):
  VF Ε 149 [.l (Ζ L) (L.flatMap aG) tk,.l (Ζ M) (M.flatMap aG) t2,.func (.func 26) [] []] O (aC λm O'=>O.Ge O'/\GR O' 64 8 O.N m (ig L M).length ((ig L M).flatMap aG)):=by
 have cz:=aP cW L;have hpm:=aP cW M;obtain⟨MM,Y3⟩:∃MM,MM=M.flatMap aG:=⟨_,rfl⟩
 rw[<-Y3]at hpm ⊢;refine ω 49 [.tmp 6] func149 ?_;refine κ c9 ?_;refine κ c9 ?_;refine VC.gen ?_;intro O1 e1;have aM:O.Ge O1:=by rw[e1];exact(VH.Ge.refl O).push _
 have dq:O1.N=O.N+1:=by rw[e1];rfl
 have Cc:O1.hp O.N=φ (.map (dw []) 0):=by rw[e1];exact ζ _ _
 clear e1;refine Ξ [0,1,2,7] (λ_:Unit=>[.l (Ζ L) (L.flatMap aG) tk,.l (Ζ M) MM t2,.func (.func 26) [] [],.map O.N]) (λ_ O'=>O.Ge O'/\O.N+1<=O'.N/\∃S ck,O'.hp O.N=φ (.map (dw S) ck)/\UH 4 S ck/\JQ L (Ζ L) S) ?_ ?_
 ·refine κ c9 ?_;refine Γ ?_;refine Υ [16] [0,1,2,7,14,15] (λj:Nat=>[mi j]) (λj O'=>O.Ge O'/\O.N+1<=O'.N/\j<=(Ζ L)/\∃S ck,O'.hp O.N=φ (.map (dw S) ck)/\UH 4 S ck/\JQ L j S) (λj=>(Ζ L) - j) (0) ?_ ?_;exact⟨aM,Λ,ai8 _,[],0,Cc,⟨⟨z10,z10⟩,z10,z10⟩,JQ.zero L⟩;rintro j O3 ⟨aB,ea,hj,S,ck,hm3,hM⟩;by_cases bu:j<Ζ L;rotate_left
  ·obtain rfl:j=Ζ L:=Λ
   refine ν c9 ?_;exact aE.mk () ⟨aB,ea,S,ck,hm3,hM⟩
  have bh:=bY cW L j bu;have j6:=yU (hL L[j] (ai_ bu));have qZ:=yT L[j];((((((have fP:L.take (j+1)=L.take j++[L[j]]:=by rw[auL bu]);generalize L[j]=d at*;have Y4:iL (bZ d)=(dm (bZ d)).map .s:=rfl;have fJ:(dm (bZ d)).length=4:=rfl;obtain⟨kl,vE⟩:∃kl,dm (bZ d)=kl:=⟨_,rfl⟩);rw[vE]at Y4 fJ j6;rw[Y4]at qZ;obtain⟨x,hx,hx0,hxj,_⟩:=hM.2 kl fJ;have hx0:0<=x/\x<=j:=⟨hx0,hxj⟩;obtain⟨dg,da,dv,dt,dc,gl,dO,dx⟩:=d;simp only[aG,aq]at bh qZ;have ew:=jSx j);have hxm:=hx;simp only[aq]at hxm;refine κ c9 ?_;refine κ c9 ?_;refine Δ (Γ ?_);refine ξ c9 bh ?_;refine VC.al ?_;rintro O4 ⟨aV,iD,fe⟩;have DC:=aV.at hm3;refine VC.vZ [] (λO'=>True) (trivial) ?_;refine ρ 0 c9 ?_;refine ρ 1 c9 ?_;refine ab.op (i:=2) ?_;refine ak c9 iD ?_;refine ab.qQ (i:=3) (qZ O4) ?_ ?_;rotate_left);rintro m O5 h;exact h.elim);rintro _ O5 ⟨rfl,bB⟩;simp only[ag];refine⟨trivial,?_⟩;have G9:=bB.at DC;refine auS (i:=4) (j:=6) ?_ ?_);refine aQ.sD (gf.kP sA aa (l:=kl) (te:=⟨_,1,8,[.v (Ι Κ 0)]⟩) Tryz.underlying298 T3 rfl rfl G9 hM.1.ok rfl fJ j6) ?_;rw[hxm];refine⟨trivial,?_⟩;refine ρ 5 c9 ?_;refine ab.Dz (i:=6) (dd.aa7 sA aa (l:=kl) (te:=⟨_,1,8,[.v (Ι Κ 0)]⟩) Tryz.underlying298 T3 rfl rfl G9 hM.1 rfl fJ j6) ?_;rintro m O6 ⟨M1,ck1,v1,st,rfl,e6,hX1,Ei,t_,XV,ahA⟩;refine⟨trivial,?_⟩;(((have AE:O6.hp O.N=φ (.map (dw M1) ck1):=by rw[e6];exact υ _ _ _);have UD:O.Ge O6:=by rw[e6];exact((aB.trans aV).trans bB).set (Rn _) _);have mQ:O.N+1<=O6.N:=by rw[e6];show O.N+1<=O5.N;have:=bB.N;omega);refine ρ 7 c9 ?_;refine ab.one (i:=8) (aQ.Uz rfl rfl (EP.JP rfl AE hX1 rfl rfl ahA) ?_);rintro O7 ⟨M2,e7,LD,ph,La⟩;refine⟨trivial,?_⟩;refine ab.bM [] ?_;refine ae c9 ?_;refine ο c9 ew ?_;refine aw.N (j+1) ⟨by rw[e7];exact UD.set (Rn _) _,by rw[e7];show O.N+1<=O6.N;omega,bu,M2,_,by rw[e7];exact υ _ _ _,LD,NV hM.2 vE fP ph (λk hk=>(La k hk).trans (XV k hk)) hx hx0⟩
  ·refine aQ.Dz (dd.aa7 sA aa (l:=kl) (te:=⟨_,1,8,[.v (Ι Κ 0)]⟩) Tryz.underlying298 T3 rfl rfl G9 hM.1 rfl fJ j6) ?_;rintro m O6 ⟨M1,ck1,v1,st,rfl,e6,hX1,Ei,t_,XV,ahA⟩;refine⟨trivial,?_⟩;(((have AE:O6.hp O.N=φ (.map (dw M1) ck1):=by rw[e6];exact υ _ _ _);have UD:O.Ge O6:=by rw[e6];exact((aB.trans aV).trans bB).set (Rn _) _);have mQ:O.N+1<=O6.N:=by rw[e6];show O.N+1<=O5.N;have:=bB.N;omega);refine ρ 7 c9 ?_
   have dQ:uN γ (mi 0) (fD kl M1)= .v (Ι Κ x):=by
    rw[<-hxm,Ei];rcases t_ with h | ⟨h,rfl⟩;rw[h];rfl;rw[h];rfl
   simp only[aq]at dQ;refine ab.one (i:=4) (aQ.sD (gf.kP sA aa (l:=kl) (te:=⟨_,1,8,[.v (Ι Κ 0)]⟩) Tryz.underlying298 T3 rfl rfl AE hX1.ok rfl fJ j6) ?_);rw[dQ];refine⟨trivial,?_⟩;refine ρ 5 c9 ?_;refine ab.one (i:=8) (aQ.Uz rfl rfl (EP.JP rfl AE hX1 rfl rfl ahA) ?_);rintro O7 ⟨M2,e7,LD,ph,La⟩;refine⟨trivial,?_⟩;refine ab.bM [] ?_;refine ae c9 ?_;refine ο c9 ew ?_;refine aw.N (j+1) ⟨by rw[e7];exact UD.set (Rn _) _,by rw[e7];show O.N+1<=O6.N;omega,bu,M2,_,by rw[e7];exact υ _ _ _,LD,NV hM.2 vE fP ph (λk hk=>(La k hk).trans (XV k hk)) hx hx0⟩
 rintro _ O3 ⟨aB,ea,S,ck,hm3,hX,hC⟩;refine κ c9 ?_;refine π (BZ L tk O3) ?_;rintro mL O4 ⟨aV,ox⟩;have DC:=aV.at hm3;have fe:=aV.N;have cZ:=aB.N;refine ae c9 ?_;refine Ξ [10] (λm:MV=>[m]) (λm O'=>O.Ge O'/\GR O' 64 8 O.N m (ig L M).length ((ig L M).flatMap aG)) ?_ ?_
 ·refine κ c9 ?_;refine Γ ?_;refine Υ [10,33] [2,7,31,32] (λs:MV×Nat=>[s.1,mi s.2]) (λs O'=>O.Ge O'/\O3.N<=O'.N/\O'.hp O.N=φ (.map (dw S) ck)/\s.2<=(Ζ M)/\GR O' 64 8 O3.N s.1 (ig L (M.take s.2)).length ((ig L (M.take s.2)).flatMap aG)) (λs=>(Ζ M) - s.2) ((mL,0)) ?_ ?_;exact⟨aB.trans aV,fe,DC,ai8 _,by simpa[ig]using ox⟩;clear DC ox aV fe;rintro⟨mo,j⟩ O4 ⟨aV,fe,DC,hj,ox⟩;dsimp only at hj ox ⊢;by_cases bu:j<Ζ M;rotate_left
  ·obtain rfl:j=Ζ M:=Λ
   rw[ats]at ox;refine ν c9 ?_;exact aE.mk mo ⟨aV,ox.less Λ⟩
  have bh:=bY cW M j bu;rw[<-Y3]at bh;have j6:=yU (UG M[j] (ai_ bu));have qZ:=yT M[j]
  have fP:ig L (M.take (j+1))=ig L (M.take j)++if L.any λy=>dm (bZ y)==dm (bZ M[j])then[]else[M[j]]:=by
   unfold ig;rw[<-auL bu,auE, <-auH];(congr 1);rw[List.filter_cons,List.filter_nil];cases L.any λy=>dm (bZ y)==dm (bZ M[j])<;>rfl
  have ua:(ig L (M.take j)).length<=Ζ L+j:=by
   unfold ig;rw[TR];have:=apJ (λx=> !(L.any λy=>dm (bZ y)==dm (bZ x))) (M.take j);rw[List.length_take]at this;omega
  generalize M[j]=d at*;have Y4:iL (bZ d)=(dm (bZ d)).map .s:=rfl;have fJ:(dm (bZ d)).length=4:=rfl;obtain⟨x,hx,hx0,hxj,UI⟩:=hC (dm (bZ d)) fJ
  have iw:(L.any λy=>dm (bZ y)==dm (bZ d))= !decide (x=0):=by
   rw[ats]at UI;by_cases e:x=0;rw[decide_eq_true e];show _=γ;rw[auq];intro y hy;simpa using UI.1 e y hy;rw[decide_eq_false e];show _=Α;rw[aut];refine Classical.byContradiction λcZ=>e (UI.2 λy hy h=>cZ ⟨y,hy,by simpa using h⟩)
  have hbe:(x==0)=decide (x=0):=rfl;((obtain⟨kl,vE⟩:∃kl,dm (bZ d)=kl:=⟨_,rfl⟩);rw[vE]at Y4 fJ j6 hx iw fP;rw[iw]at fP;rw[Y4]at qZ;simp only[aq]at hx;have DE:aG d=[.s d.g,.s d.a,.s d.v,.s d.t,.s d.c,mi d.s,mi d.o,.l (Ζ d.x) (d.x.flatMap cI) .av]:=rfl;rw[DE]at bh qZ;simp only[aq]at bh qZ;have ew:=jSx j);generalize B8:ig L (M.take j)=U at*;refine κ c9 ?_;refine κ c9 ?_;refine Δ (Γ ?_);refine ξ c9 bh ?_;refine VC.al ?_;rintro O5 ⟨bB,qY,ie⟩;have G9:=bB.at DC;refine ξ c9 qY ?_;refine π (qZ O5) ?_;rintro _ O6 ⟨rfl,dU⟩;have AE:=dU.at G9;have uu:=dU.at qY;have yz:=bB.trans dU;have mQ:=yz.N;have ahC:GR O6 64 8 O3.N mo (Ζ U) (U.flatMap aG):=ox.fr mQ (λk hk=>yz.hp k (ox.fF k hk).2.1) (λj k t n _ hj=>yz.hp j hj);refine ae c9 ?_;refine VL.hold (.inl ⟨rfl,.inl rfl⟩) rfl rfl (gf.kP sA aa (l:=kl) (te:=⟨_,1,8,[.v (Ι Κ 0)]⟩) Tryz.underlying298 T3 rfl rfl AE hX.ok rfl fJ j6) (WL.sound aa ?_);rw[hx];by_cases e:x=0;rotate_left
  ·have hb:(x==0)=γ:=by rw[hbe,decide_eq_false e]
   rw[decide_eq_false e,if_pos (by rfl),auO]at fP;refine ak c9 hb ?_;refine VC.oc rfl ?_;refine ν c9 ?_;refine ο c9 ew ?_;exact aw.N (mo,j+1) ⟨aV.trans yz,Λ,AE,bu,by dsimp only;rw[fP];exact ahC⟩
  have hb:(x==0)=Α:=by rw[hbe,decide_eq_true e]
  rw[decide_eq_true e,if_neg z12]at fP;refine ak c9 hb ?_;refine VC.qI rfl ?_;refine ο c9 uu ?_;refine VL.grow aa (.inl rfl) (te:=⟨_,8,_,_⟩) (dx:=.slice 64) (q:=.l 1 [.s d.g,.s d.a,.s d.v,.s d.t,.s d.c,.v (Ι Κ d.s),.v (Ι Κ d.o),.l (Ζ d.x) (d.x.flatMap cI) .av] .full) (j:=1) (ds:=[.s d.g,.s d.a,.s d.v,.s d.t,.s d.c,.v (Ι Κ d.s),.v (Ι Κ d.o),.l (Ζ d.x) (d.x.flatMap cI) .av]) ahC rfl rfl (by rw[GG];rfl) GF.1.1 (by rw[GG];rfl) trivial z18 z13 Λ rfl rfl rfl rfl ?_;intro m O7 h1 h2 _ _;((have xx:∀i,i<O3.N->O7.hp i=O6.hp i:=λi hi=>h2.hp i Λ λe=>by have:=(ahC.fF i e).1;omega);refine ae c9 ?_;refine ο c9 ew ?_;refine aw.N (m,j+1) ⟨⟨by have:=h2.N;have:=aV.N;omega,λi hi=>(xx i Λ).trans ((aV.trans yz).hp i hi)⟩,by have:=h2.N;omega,(xx _ Λ).trans AE,bu,?_⟩;dsimp only;rw[fP,TR,apI];have:[d].flatMap aG=[.s d.g,.s d.a,.s d.v,.s d.t,.s d.c,.v (Ι Κ d.s),.v (Ι Κ d.o),.l (Ζ d.x) (d.x.flatMap cI) .av]:=by simp[aG,aq]);rw[this];exact h1
 rintro m O9 ⟨bq,ox⟩;refine ν c9 ?_;exact⟨bq,ox⟩
def ahD{L M:List Dp}(hL:∀d∈L,oL d)(hM:∀d∈M,oL d):∀d∈ig L M,oL d:=λd hd=>by
 unfold ig at hd;rcases apK.1 hd with hd | hd;exact hL d hd;exact hM d (auz.1 hd).1
def EX(L M:List Dp):(ig L M).length<=Ζ L+Ζ M:=by
 unfold ig;rw[TR];have:=apJ (λx=> !(L.any λy=>dm (bZ y)==dm (bZ x))) M;omega
def aec(L0 M0:List Dp)(tk t2:Tok)(O:VH)(IU:Ζ L0+Ζ M0<=100000)(hL0:∀d∈L0,oL d)(hM0:∀d∈M0,oL d):
  VF Ε 116 [.l (Ζ L0) (L0.flatMap aG) tk,.l (Ζ M0) (M0.flatMap aG) t2] O (aC λm O'=>∃t,m= .l (ig L0 M0).length ((ig L0 M0).flatMap aG) t/\O.Ge O'):=by
 have arA:=aeb L0 M0 tk t2 O IU hL0 hM0;have hL:=ahD hL0 hM0;have hn:(ig L0 M0).length<=100000:=aev (EX L0 M0) IU;generalize ig L0 M0=L at*;generalize M0.flatMap aG=MM0 at*;generalize L0.flatMap aG=LL0 at*;have cz:=aP cW L;refine ω 27 [.tmp 4] func116 ?_;refine κ c9 ?_;refine κ c9 ?_;refine π arA ?_;rintro mL O2 ⟨ax,ox⟩;rcases ox with⟨h0,_,hp⟩ | ⟨k,c,rfl,xf,_,ca⟩;obtain rfl:L=[]:=apG h0;rcases hp with rfl | rfl;refine ae c9 ?_;refine Ξ [5] (λ_:Unit=>[.l 0 [] .nil]) (λ_ O'=>O'=O2) ?_ ?_;refine κ c9 ?_;refine Γ ?_;refine Υ [12] [5,11] (λj:Nat=>[mi 0]) (λj O'=>O'=O2) (λj=>0) (0) ?_ ?_;rfl;rintro j O3 eO;rw[eO];clear eO O3;refine ν c9 ?_;exact aE.mk () rfl;intro _ O9 eO;rw[eO];clear eO O9;refine ν c9 ?_;exact⟨_,rfl,ax⟩;refine ae c9 ?_;refine Ξ [5] (λ_:Unit=>[.l 0 [] .full]) (λ_ O'=>O'=O2) ?_ ?_;refine κ c9 ?_;refine Γ ?_;refine Υ [12] [5,11] (λj:Nat=>[mi 0]) (λj O'=>O'=O2) (λj=>0) (0) ?_ ?_;rfl;rintro j O3 eO;rw[eO];clear eO O3;refine ν c9 ?_;exact aE.mk () rfl;intro _ O9 eO;rw[eO];clear eO O9;refine ν c9 ?_;exact⟨_,rfl,ax⟩;obtain⟨sp,hc,lU⟩:=ca.cells;have j6:=ca.lo;have TO:=ca.hi;refine ae c9 ?_;refine Ξ [5] (λ_:Unit=>[.bk k 0 (Ζ L) c]) (λ_ O'=>O2.Ge O') ?_ ?_
 ·refine κ c9 ?_;refine Γ ?_;refine Υ [12] [5,11] (λj:Nat=>[mi j]) (λj O'=>O2.Ge O'/\j<=Ζ L) (λj=>(Ζ L) - j) (0) ?_ ?_;exact⟨VH.Ge.refl _,ai8 _⟩;rintro j O3 ⟨aB,hj⟩;by_cases bu:j<Ζ L;rotate_left
  ·obtain rfl:j=Ζ L:=Λ
   refine ν c9 ?_;exact aE.mk () aB
  have en:=(aB.hp k TO).trans hc;have bh:(L.flatMap aG++sp)[j*8+7]?=φ (.l L[j].x.length (L[j].x.flatMap cI) .av):=dP cW (List.getElem?_eq_getElem bu) rfl;have hxj:=(hL L[j] (List.getElem_mem bu)).2.2.2.2.2;generalize L[j].x=X at*;generalize L.flatMap aG++sp=C at*;have jD:=vk bh;have GK:=(List.getElem?_eq_some_iff.1 bh).1;have ew:=jSx j;refine κ c9 ?_;refine κ c9 ?_;refine Δ (Γ ?_);refine κ c9 ?_;refine ι (aF c9 en bh ?_);refine π (sy X .av O3) ?_;rintro _ O4 ⟨rfl,aV⟩;have ff:=(aV.hp k (by have:=aB.N;omega)).trans en;refine bo c9 ff bh jD ?_;rw[VH.zA ff];refine ο c9 ew ?_;exact aw.N (j+1) ⟨aB.trans aV,bu⟩
 intro _ O9 bq;have Qv:=(bq.hp k TO).trans hc;refine VC.freeze 5 (sz:=(Ζ L)*8) rfl Qv (by rw[TR,cz];omega) ?_;have fP:((L.flatMap aG++sp).drop 0).take ((Ζ L)*8)=L.flatMap aG:=by rw[auC,auh (by rw[cz];exact Rn _), <-cz,ats]
 rw[fP];have vm:=ax.trans bq;have lM:O.Ge (O9.kill k):=⟨vm.N,λi hi=>(VH.lF _).trans (vm.hp i hi)⟩;refine ν c9 ?_;exact⟨_,rfl,lM⟩
def JR(L M:List Dp)(tk t2:Tok)(O:VH)(hn:Ζ L+Ζ M<=100000)(hL:∀d∈L,oL d)(hM:∀d∈M,oL d):
  VF Ε 116 [.l (Ζ L) (L.flatMap aG) tk,.l (Ζ M) (M.flatMap aG) t2] O (aC λm O'=>m= .l (ig L M).length ((ig L M).flatMap aG) .av/\O.Ge O'):=
 VF.wkR (aec L M tk t2 O hn hL hM) λm O' ⟨t,h1,h3⟩=>⟨_,h1▸Wk.tok,rfl,h3⟩
def DF(c q:Pm):Pm:=⟨c.hp,c.par,if c.hp&&c.g==[]then c.par.g else c.g,c.a,if c.hp&&c.v==[]then c.par.v else c.v,c.pk,jA q.props c.props,ig c.bL q.bL,ig c.dH q.dH⟩
def Gc(p:Pm)(t1 t2 t3:Tok):Η:=[mb p.hp,.s p.par.g,.s p.par.a,.s p.par.v,.s p.g,.s p.a,.s p.v,.s p.pk,.l (Ζ p.props) (p.props.flatMap bp) t1,.l (Ζ p.bL) (p.bL.flatMap aG) t2,.l (Ζ p.dH) (p.dH.flatMap aG) t3]
def aed(c q:Pm)(t1 t2 t3:Tok)(O:VH)(hp:Ζ q.props+Ζ c.props<=100000)(hm:Ζ c.bL+Ζ q.bL<=100000)(hd:Ζ c.dH+Ζ q.dH<=100000)(hcm:∀d∈c.bL,oL d)(hqm:∀d∈q.bL,oL d)(hcd:∀d∈c.dH,oL d)(hqd:∀d∈q.dH,oL d):VF Ε 88 [.agg (dy c),.agg (Gc q t1 t2 t3)] O (aC λm O'=>m= .agg (dy (DF c q))/\O.Ge O'):=by
 refine VF.fg ?_;have hov:=λO'=>JO q.props c.props t1 .av O' hp
 have ry:=λO'=>JR c.bL q.bL .av t2 O' hm hcm hqm
 have dZ:=λO'=>JR c.dH q.dH .av t3 O' hd hcd hqd
 obtain⟨b,⟨pg,pa,pv⟩,g,a,v,pk,P,M,D⟩:=c;obtain⟨qb,⟨qg,qa,qv⟩,qG,qA,qV,qk,QP,QM,QD⟩:=q;dsimp only at hp hm hd hov ry dZ;simp only[dy,Gc,DF,bg];clear hcm hqm hcd hqd;have ly:(g==([]:Bs))=(g==[]):=rfl;refine ω 48 [.cell 4 95] func88 ?_;refine κ bf ?_;refine VC.gen ?_;intro O1 e1;obtain⟨aM,dq,eo,cS,gN⟩:=yB _ _ _ e1;clear e1;refine ξ bf eo ?_;refine VC.al ?_;rintro O2 ⟨ax,bC,eG⟩;have iO:=ax.at eo;have bV:=ax.at cS;have fz:=ax.at gN;have ei:=aM.trans ax;have EY:=aM.N;clear aM ax eo cS gN;have fz:O2.hp (O.N+1+1)=φ (.cells yJ):=fz;generalize hG:(if b&&g==[]then pg else g)=G;generalize hV:(if b&&v==[]then pv else v)=V;generalize hPL:P.flatMap bp=PL at*;generalize hML:M.flatMap aG=ML at*;generalize hDL:D.flatMap aG=DL at*;generalize QP.flatMap bp=QPL at*;generalize QM.flatMap aG=QML at*;generalize QD.flatMap aG=QDL at*;refine Ξ [2,3,4,5] (λ_:Unit=>[.p O.N 0,.p (O.N+1) 0,.p (O.N+1+1) 0,.p O1.N 0]) (λ_ O'=>O'.N=O2.N/\(∀i,i≠O1.N->O'.hp i=O2.hp i)/\O'.hp O1.N=φ (.cells [.v (.bool b),.s pg,.s pa,.s pv,.s G,.s a,.s v,.s pk,.l (Ζ P) PL .av,.l (Ζ M) ML .av,.l (Ζ D) DL .av])) ?_ ?_;cases b;rw[Bool.false_and,if_neg z12]at hG;subst hG;refine ξ bf bC ?_;refine ν bf ?_;exact aE.mk () ⟨rfl,λ_ _=>rfl,bC⟩;rw[Bool.true_and]at hG;cases DG:(g==[]);rw[DG,if_neg z12]at hG;subst hG;refine θ (aF bf bC DG ?_);refine ν bf ?_;exact aE.mk () ⟨rfl,λ_ _=>rfl,bC⟩;rw[DG,if_pos rfl]at hG;subst hG;refine θ (aF bf bC DG ?_);refine ο bf bC ?_;exact aE.mk () ⟨rfl,λi hi=>τ _ _ hi,υ _ _ _⟩;rintro _ O3 ⟨ea,mh,dA⟩;refine Ξ [2,3,4,5] (λ_:Unit=>[.p O.N 0,.p (O.N+1) 0,.p (O.N+1+1) 0,.p O1.N 0]) (λ_ O'=>O'.N=O2.N/\(∀i,i≠O1.N->O'.hp i=O2.hp i)/\O'.hp O1.N=φ (.cells [.v (.bool b),.s pg,.s pa,.s pv,.s G,.s a,.s V,.s pk,.l (Ζ P) PL .av,.l (Ζ M) ML .av,.l (Ζ D) DL .av])) ?_ ?_;cases b;rw[Bool.false_and,if_neg z12]at hV;subst hV;refine ξ bf dA ?_;refine ν bf ?_;exact aE.mk () ⟨ea,mh,dA⟩;rw[Bool.true_and]at hV;cases DG:(v==[]);rw[DG,if_neg z12]at hV;subst hV;refine θ (aF bf dA DG ?_);refine ν bf ?_;exact aE.mk () ⟨ea,mh,dA⟩;rw[DG,if_pos rfl]at hV;subst hV;refine θ (aF bf dA DG ?_);refine ο bf dA ?_;exact aE.mk () ⟨ea,λi hi=>(τ _ _ hi).trans (mh i hi),υ _ _ _⟩;clear ea mh dA bC;rintro _ O3 ⟨ea,mh,dA⟩;have oY:=(mh _ Λ).trans iO;have cE:=(mh _ Λ).trans bV;have en:=(mh _ Λ).trans fz;have dk:O.Ge O3:=⟨by have:=ei.N;omega,λi hi=>(mh i Λ).trans (ei.hp i hi)⟩;clear mh iO bV fz;refine θ (aF bf oY cE ?_);refine π (hov O3) ?_;rintro _ O4 ⟨⟨t4,rfl⟩,aV⟩;have jx:=aV.at oY;have c8:=aV.at cE;have ff:=aV.at en;have fJ:=aV.at dA;have fe:=aV.N;generalize hOL:(jA QP P).flatMap bp=OL at*;refine ak bf fJ ?_;refine VC.gen ?_;intro O5 e5;have jz:∀i,i≠O1.N->O5.hp i=O4.hp i:=λi hi=>by rw[e5];exact τ _ _ hi
 have e_:=(jz _ Λ).trans jx;have dX:=(jz _ Λ).trans c8;have fY:=(jz _ Λ).trans ff;have i_:O5.hp O1.N=φ (.cells [.v (.bool b),.s pg,.s pa,.s pv,.s G,.s a,.s V,.s pk,.l (jA QP P).length OL t4,.l (Ζ M) ML .av,.l (Ζ D) DL .av]):=by rw[e5];exact υ _ _ _
 have ie:O5.N=O4.N:=by rw[e5];rfl
 have mA:O.Ge O5:=by rw[e5];exact(dk.trans aV).set Λ _
 clear e5 jz oY cE en dA jx c8 ff fJ;refine Δ ?_;refine VC.tA [11,12,13] (O.N) (O.N+1) (e_) (dX) ?_ (hne:=Λ);intro X1 X2;refine ρ 0 bf ?_;refine ε (m:=.l (Ζ M) ML .av) 1 (λ_ h=>h.1) (λ_ h=>h.1) ?_ ?_;exact ez bf;simp only[ag];refine ρ 2 bf ?_;refine ε (m:=.l (Ζ QM) QML t2) 3 (λ_ h=>h.2) (λ_ h=>h.2) ?_ ?_;exact ez bf;simp only[ag];refine ρ 5 bf ?_;refine ε (m:=.l (Ζ D) DL .av) 6 (λ_ h=>h.1) (λ_ h=>h.1) ?_ ?_;exact ez bf;simp only[ag];refine ρ 7 bf ?_;refine ε (m:=.l (Ζ QD) QDL t3) 8 (λ_ h=>h.2) (λ_ h=>h.2) ?_ ?_;exact ez bf;simp only[ag];have hJ:GO O.N (O.N+1) X1 X2 ((O5.set O.N (.obj X1)).set (O.N+1) (.obj X2)):=⟨Θ (υ _ _ _),υ _ _ _⟩;have qP:=(τ (O5.set O.N (.obj X1)) (.obj X2) (by omega:O1.N≠O.N+1)).trans ((τ O5 (.obj X1) (by omega:O1.N≠O.N)).trans i_);have xt:=(τ (O5.set O.N (.obj X1)) (.obj X2) (by omega:O.N+1+1≠O.N+1)).trans ((τ O5 (.obj X1) (by omega:O.N+1+1≠O.N)).trans fY);have mQ:((O5.set O.N (.obj X1)).set (O.N+1) (.obj X2)).N=O5.N:=rfl;have dU:O.Ge ((O5.set O.N (.obj X1)).set (O.N+1) (.obj X2)):=(mA.set Λ _).set Λ _;generalize (O5.set O.N (.obj X1)).set (O.N+1) (.obj X2)=O6 at*;refine ab.call (i:=4) (ry O6) ?_;rintro _ O7 ⟨rfl,dB⟩;simp only[ag];refine⟨⟨dB.at hJ.1,dB.at hJ.2⟩,?_⟩;refine ρ 10 @bf ?_;refine ab.call (i:=9) (dZ O7) ?_;rintro _ O8 ⟨rfl,gR⟩;simp only[ag];have vp:=dB.trans gR;refine⟨⟨vp.at hJ.1,vp.at hJ.2⟩,?_⟩;have yR:=vp.at qP;have hc8:=vp.at xt;refine ab.pZ [(11,.one),(12,.au),(13,.one)] ?_ (hne:=Λ);refine ak @bf @yR ?_;refine VC.gen ?_;intro O9 e9;have bq:O.Ge O9:=by rw[e9];exact((((dU.trans vp).set Λ _).set Λ _).set Λ _).set Λ _
 have hk9:O9.hp O1.N=φ (.cells [.v (.bool b),.s pg,.s pa,.s pv,.s G,.s a,.s V,.s pk,.l (jA QP P).length OL t4,.l (ig M QM).length ((ig M QM).flatMap aG) .av,.l (ig D QD).length ((ig D QD).flatMap aG) .av]):=by rw[e9];exact υ _ _ _
 have Qv:O9.hp (O.N+1+1)=φ (.cells yJ):=by rw[e9,VH.sx,VH.sx,VH.sx,VH.sx];exact hc8
 clear e9;refine θ (aF bf hk9 Qv ?_);refine ν bf ?_;exact⟨by simp only[<-hOL,ic,iC],bq.set Λ _⟩
def akO(L:me)(tk:Tok)(O:VH)(hn:Ζ L<=100000)(hL:∀x∈L,Ζ x<=10000):VF Ε 80 [.l (Ζ L) (L.map .s) tk] O (aC λm O'=>O.Ge O'/\GR O' 9 1 O.N m (Ζ L) ((br L).map .s)):=by
 refine χ 9 [.tmp 2] func80 ?_;refine ae aW ?_;refine π (adV L tk _ hn) ?_;rintro m O2 ⟨ax,⟨h0,hLe,rfl | rfl⟩ | ⟨k,c,rfl,xf,hlen,ca⟩⟩;have hL0:L=[]:=apG h0;subst hL0;refine ae aW ?_;refine π (yK _ _) ?_;rintro _ O3 h3;rw[h3];clear h3 O3;refine ae aW ?_;exact⟨ax,.inl ⟨rfl,rfl,.inl rfl⟩⟩;have hL0:L=[]:=apG h0;subst hL0;refine ae aW ?_;refine π (yK _ _) ?_;rintro _ O3 h3;rw[h3];clear h3 O3;refine ae aW ?_;exact⟨ax,.inl ⟨rfl,rfl,.inr rfl⟩⟩;obtain⟨sp,gN,fz⟩:=ca.cells;obtain⟨j,ew,bu,hj3⟩:=ca.n4;(have Gy:k≠j:=λe=>by rw[<-e,gN]at hj3;cases hj3);refine ae aW ?_;refine π (Lr (sp:=sp) L gN ca.hi rfl hL Λ) ?_;rintro _ O3 ⟨h3,cx⟩;refine ae aW ?_;have uU:(br L).length=Ζ L:=gZ L;refine⟨cx.ge ax ca.lo,.inr ⟨k,c,rfl,xf,by rw[an5,uU,Nat.mul_one],⟨⟨sp,h3,?_⟩,⟨j,ew,abT bu cx.N,(cx.hp j bu (by simpa using Gy)).trans hj3⟩,ca.lo,abT ca.hi cx.N⟩⟩⟩;rw[TR,an5]at fz ⊢;rw[uU];exact fz
def o0(O O':VH)(A:Nat×Nat)(B:Nat):Prop:=O.N<=O'.N/\∀i,i<O.N->¬(A.1<=i/\i<B/\i≠A.2)->O'.hp i=O.hp i
def o0.dG(h:O.Ge O'):o0 O O' A B:=⟨h.N,λi hi _=>h.hp i hi⟩
def o0.refl(O:VH)(A:Nat×Nat)(B:Nat):o0 O O A B:=⟨Rn _,λ_ _ _=>rfl⟩
def o0.trans(h:o0 O O1 A B)(g:o0 O1 O2 A B):o0 O O2 A B:=⟨aev h.1 g.1,λi hi hn=>(g.2 i (abT hi h.1) hn).trans (h.2 i hi hn)⟩
def o0.ge(h:o0 O O1 A B)(g:O1.Ge O2):o0 O O2 A B:=h.trans (.dG g)
def o0.at{x:Option bO}(h:o0 O O' A B)(hi:i<O.N)(hn:¬(A.1<=i/\i<B/\i≠A.2))(e:O.hp i=x):O'.hp i=x:=(h.2 i hi hn).trans e
def o0.set(h:o0 O O1 A B)(hi:O.N<=i\/(A.1<=i/\i<B/\i≠A.2))(x:bO):o0 O (O1.set i x) A B:=⟨h.1,λj hj hn=>(VH.sx).trans (h.2 j hj hn)⟩
def gL(S:List (Gv×Bs))(l:List Bs):List Bs:=(S.filter λx=>jY ⟨x.1.g,x.1.a⟩==l).map (·.1.v)
def UJ(l k:List Bs)(y:MV):∀M:gx,fD k (M.map λp=>if p.1=l then(l,y,p.2.2)else p)=if k=l/\M.any (·.1==l)then φ y else fD k M
 | []=>by simp[fD]
 | p::M=>by
   have ih:=UJ l k y M;unfold fD at ih ⊢;rw[List.map_cons,List.find?_cons,List.find?_cons,List.any_cons];by_cases h1:p.1=l
   ·by_cases h2:k=l;subst h2;simp[h1]
    ·have h3:(l==k)=γ:=by simpa using Ne.symm h2
     simp only[h1,if_true,h3,h2,false_and,if_false]at ih ⊢;exact ih
   ·have h3:(p.1==l)=γ:=by simpa using h1
    rw[if_neg h1,h3,Bool.false_or];by_cases h4:p.1=k
    ·have h5:¬k=l:=λe=>h1 (h4.trans e)
     simp[h4,h5]
    ·have h6:(p.1==k)=γ:=by simpa using h4
     rw[h6];exact ih
def JS(l k:List Bs)(y:MV)(ck:Nat):fD k (kY l y ck M)=if k=l then φ y else fD k M:=by
 unfold kY;by_cases h:M.any (·.1==l);rw[if_pos h,UJ];simp[h];rw[if_neg h];by_cases e:k=l;subst e;rw[if_pos rfl];(exact yY λp hp e=>h (by rw[aut];exact⟨p,hp,by simp[e]⟩));rw[if_neg e,yX e]
def UK(S:List (Gv×Bs))(g:Gv)(t:Bs)(l:List Bs):gL (S++[(g,t)]) l=gL S l++if l=jY ⟨g.g,g.a⟩then[g.v]else[]:=by
 unfold gL;rw[auE,aug];congr 1
 by_cases e:l=jY ⟨g.g,g.a⟩;subst e;simp;rw[if_neg e];(have:(jY ⟨g.g,g.a⟩==l)=γ:=by simpa using Ne.symm e);simp[this]
structure StB(A:Nat×Nat)(B k ke kv:Nat)(S:List (Gv×Bs))(E V:gx):Prop where
 k:A.1<=k/\k<B/\k≠A.2
 ke:A.1<=ke/\ke<B/\ke≠A.2
 kv:A.1<=kv/\kv<B/\kv≠A.2
 q:∀p∈E,∀q,p.2.1= .p q 0->A.1<=q/\q<B/\q≠A.2
 tok:∀p∈V,∀n cs tk x,p.2.1= .l n cs tk->Tok.id tk=φ x->A.1<=x/\x<B/\x≠A.2
 Ny:∀l:List Bs,Ζ l=2->∃tk,uN γ (.l 0 [] .nil) (fD l V)= .l (gL S l).length ((gL S l).map .s) tk
structure o5(O:VH)(A:Nat×Nat)(B k:Nat)(S:List (Gv×Bs)):Prop where
 le:B<=O.N
 ok:∀x∈S,iq x.1=Α/\(Ζ x.2)<=65536
 ex:∃(L:List (Gv×Bs×Bool))(E V:gx)(ke kv ce cv:Nat)(r a:Int),S=L.map (λx=>(x.1,x.2.1))/\Dy O k L E V ke kv ce cv r a/\StB A B k ke kv S E V
def yZ{x:Gv}(h:iq x=Α):Ζ x.g<=64/\(Ζ x.a)<=64/\(Ζ x.v)<=64:=by
 unfold iq iZ rj at h;simp only[apE,decide_eq_true_eq]at h;obtain⟨⟨⟨⟨_,_⟩,h1⟩,⟨⟨_,_⟩,h2⟩⟩,⟨_,⟨_,h3⟩⟩⟩:=h;exact⟨h1,h2,h3⟩
def EK.of(h:EK O k ke kv E ce V cv r a)(hn:O.N<=O'.N)(h1:O'.hp k=O.hp k)(h2:O'.hp ke=O.hp ke)(h3:O'.hp kv=O.hp kv):EK O' k ke kv E ce V cv r a:=h.fc (h1.trans h.cell) h2 h3 hn
def o5.mvX(h:o5 O A B k S)(hn:O.N<=O'.N)(hi:∀i,A.1<=i/\i<B/\i≠A.2->O'.hp i=O.hp i):o5 O' A B k S:=by
 obtain⟨hle,bH,L,E,V,ke,kv,ce,cv,r,a,hS,hs,hb⟩:=h;refine⟨aev hle hn,bH,L,E,V,ke,kv,ce,cv,r,a,hS,⟨hs.st.of hn (hi _ hb.k) (hi _ hb.ke) (hi _ hb.kv),hs.len,λi g t o e=>?_,hs.dis,⟨λp hp=>?_,hs.mf.one⟩⟩,hb⟩;obtain⟨q,c,h1,h2,h3⟩:=hs.G6 i g t o e;have:=hb.q _ (an2 h1) q rfl;exact⟨q,c,h1,Λ,(hi q this).trans h3⟩
 ·obtain⟨n,cs,tk,h1,h2,h3,h4,h5⟩:=hs.mf.row p hp;refine⟨n,cs,tk,h1,h2,h3,?_,h5⟩;cases tk with
  | own t j=>
    have:=hb.tok p hp _ _ _ t h1 rfl;exact⟨h4.1,(hi t this).trans h4.2.1,h4.2.2.1,by have:=h4.2.2.2;omega⟩
  | nil=>trivial
  | full=>trivial
  | av=>exact h4.elim
def o5.mv(h:o5 O A B k S)(hn:O.N<=O'.N)(hi:∀i,A.1<=i->i<B->O'.hp i=O.hp i):o5 O' A B k S:=h.mvX hn λi e=>hi i e.1 e.2.1
def o5.ge(h:o5 O A B k S)(g:O.Ge O'):o5 O' A B k S:=h.mvX g.N λi hi=>g.hp i (by have:=h.le;omega)
def Dy.look{L:List (Gv×Bs×Bool)}(h:Dy O k L E V ke kv ce cv r a){g:Gv}{m:MV}(hm:fD (eP g) E=Option.some m):∃(i q:Nat)(t:Bs)(b:Bool)(c:Nat),L[i]?=Option.some (g,t,b)/\m= .p q 0/\O.hp q=Option.some (.cells (rq g t b))/\(q:Nat)<O.N/\E[i]?=Option.some (eP g,MV.p q 0,c):=by
 unfold fD at hm;obtain⟨p,hp,rfl⟩:=aur.1 hm;have hk:p.1=eP g:=by simpa using List.find?_some hp
 obtain⟨i,hi,rfl⟩:=apF.1 (an6 hp);have YT:i<Ζ L:=by rw[<-h.len];exact hi
 obtain⟨q,c,h1,h2,h3⟩:=h.G6 i L[i].1 L[i].2.1 L[i].2.2 (Ro YT);rw[Ro hi]at h1;injection h1 with h1;rw[h1]at hk;have hg:=EO hk;rw[hg]at h3 h1;exact⟨i,q,L[i].2.1,L[i].2.2,c,by rw[Ro YT, <-hg],by rw[h1],h3,h2,by rw[Ro hi,h1]⟩
def Dy.find{L:List (Gv×Bs×Bool)}(h:Dy O k L E V ke kv ce cv r a){g:Gv}{t:Bs}{b:Bool}(hi:L[i]?=Option.some (g,t,b)):(L.map (λx=>(x.1,x.2.1))).find? (·.1==g)=Option.some (g,t):=by
 have hm:(g,t)∈L.map (λx=>(x.1,x.2.1)):=aja.2 ⟨_,an2 hi,rfl⟩;cases hf:(L.map (λx=>(x.1,x.2.1))).find? (·.1==g)with
 | none=>
   have:=atM.1 hf _ hm;simp at this
 | some p=>
   have hk:p.1=g:=by simpa using List.find?_some hf
   obtain⟨x,hx,rfl⟩:=aja.1 (an6 hf);obtain⟨j,hj,rfl⟩:=apF.1 hx;dsimp only at hk;obtain⟨q1,c1,k1,_⟩:=h.G6 i g t b hi;obtain⟨q2,c2,k2,_⟩:=h.G6 j L[j].1 L[j].2.1 L[j].2.2 (Ro hj);rw[hk]at k2
   have nj:i=j:=by
    have hn:=h.st.eok.one;((have e1:(E.map (·.1))[i]?=Option.some (eP g):=by rw[asl,k1];rfl);have e2:(E.map (·.1))[j]?=Option.some (eP g):=by rw[asl,k2];rfl);exact(List.getElem?_inj (auI.1 e1).1 hn).1 (e1.trans e2.symm)
   subst nj;rw[Ro hj]at hi;injection hi with hi;rw[hi]
def Dy.any{L:List (Gv×Bs×Bool)}(h:Dy O k L E V ke kv ce cv r a)(g:Gv):wg E g=(L.map (λx=>(x.1,x.2.1))).any (·.1==g):=by
 unfold wg;cases hm:fD (eP g) E with
 | some m=>
   obtain⟨i,q,t,b,c,h1,_⟩:=h.look hm;symm;show _=Α;rw[aut];exact⟨(g,t),aja.2 ⟨(g,t,b),an2 h1,rfl⟩,z10⟩
 | none=>
   symm;show _=γ;rw[auq];intro x hx;obtain⟨y,hy,rfl⟩:=aja.1 hx;obtain⟨i,hi,rfl⟩:=apF.1 hy;obtain⟨q,c,k1,_⟩:=h.G6 i L[i].1 L[i].2.1 L[i].2.2 (Ro hi);have:=wj hm _ (an2 k1);intro e;exact this (by rw[eq_of_beq e])
def DH(S:List (Gv×Bs))(g:Gv):Except fa Pm:=match S.find? (·.1==g)with
 | none=>.error ⟨25,g,0,0,0,[]⟩
 | some x=>iu g x.2
def UL{S:List (Gv×Bs)}{g:Gv}{x:fa}(h:DH S g= .error x):x.e≠0:=by
 unfold DH at h;split at h;injection h with h;subst h;simp;exact ad_ h
def akP{O:VH}{A:Nat×Nat}{B k:Nat}{S:List (Gv×Bs)}(h:o5 O A B k S)(g:Gv)(hg:gG g):VF Ε 115 [.p k 0,.agg (aS g)] O (aC λm O'=>o5 O' A B k S/\o0 O O' A B/\match DH S g with
  | .ok p=>m= .tuple [.agg (dy p),.agg (gV ja)]
  | .error x=>∃t1 t2 t3,m= .tuple [.agg (Gc nW t1 t2 t3),.agg (gV x)]):=by
 obtain⟨hle,bH,L,E,V,ke,kv,ce,cv,r,a,hS,hs,hb⟩:=h
 have hE:∀m,fD (eP g) E=φ m->∃q t b,m= .p q 0/\O.hp q=φ (.cells (rq g t b))/\(q:Nat)<O.N/\(t:Bs).length<=65536:=λm hm=>by
  obtain⟨i,q,t,b,c,h1,h2,h3,h4,_⟩:=hs.look hm;exact⟨q,t,b,h2,h3,h4,(bH (g,t) (by rw[hS];exact aja.2 ⟨(g,t,b),an2 h1,rfl⟩)).2⟩
 refine VF.lG (ao0 hs.st g hg hE) ?_;rintro m O' ⟨⟨r',a',hk⟩,⟨cZ,rfl,hu⟩ | ⟨q,t,b,eU,hq,rfl,hq',hu⟩⟩
 ·have hne:=hs.st.ne;have bI:=hs.st.lt;have hui:∀i,i<O.N->i≠k->O'.hp i=O.hp i:=λi hi hk=>hu.hp i hi (λe=>hk z36)
  have hf:S.find? (·.1==g)=Β:=by
   rw[atM];intro x hx;have:=hs.any g;unfold wg at this;rw[cZ, <-hS]at this;have h2:=auq.1 this.symm x hx;simpa using h2
  refine⟨⟨aev hle hu.N,bH,L,E,V,ke,kv,ce,cv,r',a',hS,⟨hs.st.fc hk (hui _ bI.2.1 (Ne.symm hne.1)) (hui _ bI.2.2 (Ne.symm hne.2.1)) hu.N,hs.len,λi g t o e=>?_,hs.dis,hs.mf.mv hu.N λi hi e=>(hui i hi (λe2=>by subst e2;rw[hs.st.cell]at e;cases e)).trans e⟩,hb⟩,⟨hu.N,λi hi hn=>hui i hi (λe=>hn (e▸hb.k))⟩,?_⟩;obtain⟨q,c,h1,h2,h3⟩:=hs.G6 i g t o e;(exact⟨q,c,h1,abT h2 hu.N,(hui q h2 (λe=>by subst e;rw[hs.st.cell]at h3;cases o<;>simp[rq,kh]at h3)).trans h3⟩);unfold DH;rw[hf];exact⟨.nil,.nil,.nil,rfl⟩
 ·have hne:=hs.st.ne;have bI:=hs.st.lt;obtain⟨i,q2,t2,b2,c,h1,h2,h3,h4,h5⟩:=hs.look eU;injection h2 with h2;subst h2;(((have ahE:∀j,(∀b',O.hp j≠φ (.cells (rq g t b')))->j≠q:=λj hj e=>hj b (by rw[e];exact hq));have hqe:ke≠q:=ahE ke λb' e=>by rw[hs.st.TV]at e;cases e);have hqv:kv≠q:=ahE kv λb' e=>by rw[hs.st.Ny]at e;cases e);have YO:k≠q:=ahE k λb' e=>by rw[hs.st.cell]at e;cases b'<;>simp[rq,kh]at e
  have By:t2=t:=by
   rw[h3]at hq;cases b<;>cases b2<;>simp[rq,kh]at hq<;>simp_all
  subst By;(((have hf:S.find? (·.1==g)=φ (g,t2):=by rw[hS];exact hs.find h1);have hqb:=hb.q (eP g,.p q 0,c) (an2 h5) q rfl;have hiE:=(auI.1 h1).1;refine⟨⟨aev hle hu.N,bH,L.set i (g,t2,Α),E,V,ke,kv,ce,cv,r',a',?_,⟨hs.st.fc hk (hu.hp _ bI.2.1 (Ne.symm hne.1) hqe) (hu.hp _ bI.2.2 (Ne.symm hne.2.1) hqv) hu.N,by rw[auN];exact hs.len,λj g' t' o e=>?_,hs.dis,by rw[auN];exact hs.mf.mv hu.N λj hj e=>(hu.hp j hj (λe2=>by subst e2;rw[hs.st.cell]at e;cases e) (λe2=>by subst e2;rw[hq]at e;cases e)).trans e⟩,hb⟩,⟨hu.N,λj hj hn=>hu.hp j hj (λe=>hn (e▸hb.k)) (λe=>hn (e▸hqb))⟩,?_⟩);rw[hS,List.map_set];symm;apply auJ;intro j;by_cases nj:i=j;subst nj;rw[List.getElem?_set_self (by rw[an5];exact hiE),asl,h1];rfl;rw[List.getElem?_set_ne nj]);by_cases nj:i=j;subst nj;rw[List.getElem?_set_self hiE]at e;injection e with e;injection e with e1 e2;injection e2 with e2 e3;subst e1;subst e2;subst e3;exact⟨q,c,h5,abT h4 hu.N,hq'⟩;rw[List.getElem?_set_ne nj]at e;obtain⟨qq,cc,k1,k2,k3⟩:=hs.G6 j g' t' o e;(have hqq:qq≠q:=λe=>nj (hs.dis i j _ _ q h5 k1 rfl (by rw[e])));exact⟨qq,cc,k1,abT k2 hu.N,(hu.hp qq k2 (λe=>by subst e;rw[hs.st.cell]at k3;cases o<;>simp[rq,kh]at k3) hqq).trans k3⟩
  ·unfold DH;rw[hf];dsimp only;cases iu g t2 with
   | ok p=>rfl
   | error x=>exact⟨.av,.av,.av,rfl⟩
def aa8{L:List (Gv×Bs×Bool)}(h:Dy O k L E V ke kv ce cv r a)(g:Gv)(t:Bs)(gD:gG g)(hm:iq g=γ\/wg E g=Α):
  VF Ε 12 [.p k 0,.agg (aS g),.s t] O (aC λm O'=>m=mi (if iq g then 4 else 1)/\O.Ge O'):=by
 have Cb:=λO'=>MW g O' gD.1 gD.2.1 gD.2.2
 have JJ:=λ(O':VH)(g':O.Ge O')=>Qr (h.st.ge g') g gD
 obtain⟨g1,g2,g3⟩:=g;simp only[aS]at Cb JJ ⊢;generalize iq ⟨g1,g2,g3⟩=b at*;refine ω 50 [.tmp 6] func12 ?_;refine κ eR ?_;refine VC.bx ?_;rintro O1 ⟨aM,dz,dq⟩;refine ξ eR dz ?_;refine π (Cb O1) ?_;rintro _ O2 ⟨rfl,ax⟩;have dQ:=ax.at dz;have ei:=aM.trans ax;cases b with
 | false=>
   refine ak eR dQ ?_;exact ei
 | true=>
   have hh:=hm.resolve_left z10;rw[hh]at JJ;refine ak eR dQ ?_;refine π (JJ O2 ei) ?_;rintro _ O3 ⟨rfl,aB⟩;refine ae eR ?_;exact ei.trans aB
def Gd(S:List (Gv×Bs))(g:Gv):Int:=if iq g then(if S.any (·.1==g)then 4 else 0)else 1
def Bf(S:List (Gv×Bs))(g:Gv)(t:Bs):List (Gv×Bs):=if Gd S g=0 then S++[(g,t)]else S
def ahF(h:o5 O A B k S)(hS:Ζ S<=1024)(x:iR)(h1:Ζ x.g<=maxLen)(h2:Ζ x.a<=maxLen):VF Ε 46 [.p k 0,.agg (cI x)] O (aC λm O'=>(∃t,m= .l (br (gL S (jY x))).length ((br (gL S (jY x))).map .s) t)/\O.Ge O'):=by
 obtain⟨hle,bH,L,E,V,ke,kv,ce,cv,r,a,hSL,hs,hb⟩:=h;obtain⟨tk,mF⟩:=hb.Ny (jY x) rfl;have sK:(gL S (jY x)).length<=1024:=by unfold gL;rw[an5];exact aev (apJ _ _) hS
 have nP:∀v∈gL S (jY x),Ζ v<=10000:=λv hv=>by
  unfold gL at hv;obtain⟨y,hy,rfl⟩:=aja.1 hv;have:=(yZ (bH y (auz.1 hy).1).1).2.2;omega
 generalize gL S (jY x)=W at*;have uU:(br W).length=Ζ W:=gZ W;have eD:=hs.st;have bI:=eD.lt
 have Ux:∀s∈jY x,Ζ s<=maxLen:=by
  intro s hs;simp only[jY,auu,List.not_mem_nil,or_false]at hs;rcases hs with rfl | rfl;exact h1;exact h2
 refine VF.JN (Φ :=λm O'=>O.Ge O'/\GR O' 9 1 O.N m (Ζ W) ((br W).map .s)) ?_ ?_;rotate_left;rintro m O' ⟨hg,hr⟩;rcases hr with⟨h0,h1,h2⟩ | ⟨k,c,rfl,_,_,hr⟩;have e0:br W=[]:=apG (by rw[uU];exact h0);left;rw[e0];rcases h2 with rfl | rfl;exact⟨⟨.nil,rfl⟩,hg⟩;exact⟨⟨.full,rfl⟩,hg⟩;obtain⟨sp,hc,lU⟩:=hr.cells;right;refine⟨k,0,Ζ W,c,Ζ W,_,rfl,hc,by rw[TR,an5,uU];omega,⟨if c=(Ζ W) then .full else .av,?_⟩,⟨hg.N,λi hi=>(VH.lF _ (by have:=hr.lo;omega)).trans (hg.hp i hi)⟩⟩;rw[auC,auh (by rw[an5,uU];exact Rn _),aus (by rw[an5,uU];exact Rn _),uU];obtain⟨xg,xa⟩:=x;have YP:=eD.cell;have hve:=eD.Ny;simp only[aq]at YP;simp only[cI];have hsv:=λO'=>akO W tk O' Λ nP
 refine ω 14 [.tmp 4] func46 ?_;refine κ eR ?_;refine VC.bx ?_;rintro O1 ⟨aM,dz,dq⟩;have du:=(aM.hp _ bI.1).trans YP;have t_:=(aM.hp _ bI.2.2).trans hve;refine κ eR ?_;refine Δ ?_;refine VC.vZ [] (λO'=>O1.Ge O') (VH.Ge.refl _) ?_;refine ρ 0 eR ?_;refine ρ 1 eR ?_;refine ρ 2 eR ?_;refine δ (m:=.map kv) 3 ?_ ?_;rintro O2 j1;exact dT eR (j1.at du);simp only[ag];refine δ (m:=.agg [.s xg,.s xa]) 4 ?_ ?_;rintro O2 j1;exact dT eR (j1.at dz);simp only[ag];refine ab.one (i:=5) (aQ.sD (gf.kP Nx aa (l:=jY ⟨xg,xa⟩) (te:=⟨_,1,24,[.l 0 [] .nil]⟩) Tryz.underlying72 ue rfl rfl t_ eD.vok rfl rfl Ux) ?_);rw[mF];refine⟨VH.Ge.refl _,?_⟩;refine ab.one (i:=6) (aQ.iH (hsv O1) ?_);rintro m O2 ⟨ax,hr⟩;simp only[ag];refine⟨ax,?_⟩;refine ρ 7 eR ?_;refine ab.bM [] ?_;refine ae eR ?_;refine ν eR ?_;exact⟨aM.trans ax,hr.less Λ⟩
def EZ(p:Pm):(dy p).length=11:=rfl
def Y5(L:List Pm):de (L.flatMap dy)=L.flatMap dy:=iI MY L
def vq(x y:Gv):Bool:=(x.g==y.g)&&((x.a==y.a)&&((x.v==y.v)&&Α))
def aee(x y:Gv):vq x y=(x==y):=by
 obtain⟨a,b,c⟩:=x;obtain⟨d,e,f⟩:=y;rw[aum];simp[vq]
def ahG(W:List Gv)(tk:Tok)(x:Gv)(O:VH)(hW:Ζ W<=100000):
  VF Ε 124 [.l (Ζ W) (W.flatMap aS) tk,.agg (aS x)] O (aC λm O'=>m=mi (match W.findIdx? (vq x)with | some i=>(i:Int) | none=> -1)/\O.Ge O'):=by
 have hlw:=aP nI W;obtain⟨x1,x2,x3⟩:=x;obtain⟨WW,hWW⟩:∃WW,WW=W.flatMap aS:=⟨_,rfl⟩
 rw[<-hWW]at hlw ⊢;simp only[aS];refine ω 19 [.tmp 4] func124 ?_;refine κ bf ?_;refine VC.bx ?_;rintro O1 ⟨aM,dz,dq⟩;refine Ξ [] (λ_:Unit=>[]) (λ_ O'=>O'=O1/\∀y∈W,vq ⟨x1,x2,x3⟩ y=γ) ?_ ?_;rotate_left;rintro _ O2 ⟨eO,cZ⟩;rw[eO];clear eO O2;rw[List.findIdx?_eq_none_iff.2 cZ];refine κ bf ?_;refine ν bf ?_;exact aM;refine κ bf ?_;refine Γ ?_;refine Υ [8] [0,3,7] (λj:Nat=>[mi j]) (λj O'=>O'=O1/\j<=(Ζ W)/\∀i (hi:i<Ζ W),i<j->vq ⟨x1,x2,x3⟩ W[i]=γ) (λj=>(Ζ W) - j) (0) ?_ ?_;exact⟨rfl,ai8 _,λi _ h=>Λ⟩;rintro j O2 ⟨eO,hj,cZ⟩;rw[eO];clear eO O2;by_cases bu:j<Ζ W;rotate_left
 ·obtain rfl:j=Ζ W:=Λ
  refine ν bf ?_
  exact aE.mk () ⟨rfl,λy hy=>by
   obtain⟨i,hi,rfl⟩:=apF.1 hy;exact cZ i hi hi⟩
 have ew:=jSx j;have bh:=bY nI W j bu;rw[<-hWW]at bh;have RG:∀b,vq ⟨x1,x2,x3⟩ W[j]=b->b=vq ⟨x1,x2,x3⟩ W[j]:=λb e=>e.symm
 obtain⟨⟨y1,y2,y3⟩,hy⟩:∃y,y=W[j]:=⟨_,rfl⟩
 rw[<-hy]at bh RG;simp only[aS]at bh;refine κ bf ?_;refine κ bf ?_;refine Δ (Γ ?_);refine κ bf ?_;have hb:vq ⟨x1,x2,x3⟩ ⟨y1,y2,y3⟩=((x1==y1)&&((x2==y2)&&((x3==y3)&&Α))):=rfl;refine ι ?_;refine WC.reads ?_;refine aF bf dz bh ?_;refine VL.ud aa (bb:=vq ⟨x1,x2,x3⟩ ⟨y1,y2,y3⟩) (b:=vq ⟨x1,x2,x3⟩ ⟨y1,y2,y3⟩) z10 z24 (.inl ⟨rfl,rfl⟩) z11 z11 rfl rfl rfl rfl ?_;refine ae bf ?_;cases he:vq ⟨x1,x2,x3⟩ ⟨y1,y2,y3⟩with
 | false=>
   refine ο bf ew ?_;refine aw.N (j+1) ⟨rfl,bu,λi hi nj=>?_⟩;rcases Nat.lt_succ_iff_lt_or_eq.1 nj with h | rfl;exact cZ i hi h;rw[<-hy];exact he
 | true=>
   rw[List.findIdx?_eq_some_iff_getElem.2 ⟨bu,by rw[<-hy];exact he,λi hi=>by rw[cZ i Λ hi];simp⟩];refine ae bf ?_;exact aM
def UM(W:List Gv)(tk:Tok)(x:Gv)(O:VH)(hW:Ζ W<=100000):
  VF Ε 97 [.l (Ζ W) (W.flatMap aS) tk,.agg (aS x)] O (aC λm O'=>m=mb (W.contains x)/\O.Ge O'):=by
 have wW:W.contains x=(W.findIdx? (vq x)).isSome:=by
  rw[List.findIdx?_isSome,List.contains_eq_any_beq];((congr 1);funext y);exact(aee x y).symm
 have hi:=λO'=>ahG W tk x O' hW
 rw[wW];generalize W.findIdx? (vq x)=F at*;clear wW;obtain⟨x1,x2,x3⟩:=x;generalize W.flatMap aS=WW at*;simp only[aS]at hi ⊢;refine ω 9 [.tmp 4] func97 ?_;refine κ bf ?_;refine VC.bx ?_;rintro O1 ⟨aM,dz,dq⟩;refine ξ bf dz ?_;refine π (hi O1) ?_;rintro _ O2 ⟨rfl,ax⟩;cases F with
 | none=>
   refine ae bf ?_;refine ν bf ?_;exact aM.trans ax
 | some i=>
   have e1:decide ((i:Int)>=0)=Α:=decide_eq_true Λ;have e2:decide ((0:Int)<=i)=Α:=e1;refine ak bf (ahB e1 e2) ?_;refine ν bf ?_;exact aM.trans ax
def pbE(x:fa):Bool:=(x.e==0)&&(((x.g.g==[])&&((x.g.a==[])&&((x.g.v==[])&&Α)))&&(((x.p1==0)&&((x.p2==0)&&((x.p3==0)&&Α)))&&((x.w==[])&&Α)))
def Ai{x:fa}(h:x.e≠0):pbE x=γ:=by
 unfold pbE;rw[show(x.e==0)=γ by simpa using h];rfl
def wm(x:fa):Ir Ε (iv Ε) 9 34 (.agg (gV x)) (.agg (gV ja))=φ (pbE x):=by
 obtain⟨e,⟨g,a,v⟩,p1,p2,p3,w⟩:=x;kernel_rfl
def pjP:Bs:=[112,114,111,106,101,99,116,47,112,97,114,101,110,116]
def q9(S:List (Gv×Bs)):Nat->List Gv->Gv->List Pm->Except fa (List Pm)
 | 0,_,g,_=>.error ⟨2,g,0,0,0,pjP⟩
 | n+1,W,g,P=>match DH S g with
   | .error x=>.error x
   | .ok p=>if p.hp=γ then .ok (P++[p])else if(W++[g]).contains p.par then .error ⟨23,g,0,0,0,pjP⟩else if 32<=(W++[g]).length then .error ⟨2,g,0,0,0,pjP⟩else q9 S n (W++[g]) p.par (P++[p])
def E0{S:List (Gv×Bs)}:∀(n:Nat)(W:List Gv)(g:Gv)(P:List Pm) {x:fa},q9 S n W g P= .error x->x.e≠0
 | 0,W,g,P,x,h=>by injection h with h;subst h;simp
 | n+1,W,g,P,x,h=>by
   rw[q9]at h;split at h;rename_i h1;injection h with h;subst h;exact UL h1;split at h;cases h;split at h;injection h with h;subst h;simp;split at h;injection h with h;subst h;simp;exact E0 n _ _ _ h
def aa9{S:List (Gv×Bs)}{g:Gv}{p:Pm}(hS:∀x∈S,iq x.1=Α/\(Ζ x.2)<=65536)(h:DH S g= .ok p):JH p:=by
 unfold DH at h;split at h;cases h;rename_i x hx;have:=Us (g:=g) (hS x (an6 hx)).2;rw[h]at this;exact this
def JT{S:List (Gv×Bs)}(hS:∀x∈S,iq x.1=Α/\(Ζ x.2)<=65536):∀(n:Nat)(W:List Gv)(g:Gv)(P:List Pm) {Q:List Pm},q9 S n W g P= .ok Q->(∀p∈P,JH p)->(∀p∈Q,JH p)/\(Ζ Q)<=Ζ P+n
 | 0,W,g,P,Q,h,hP=>by cases h
 | n+1,W,g,P,Q,h,hP=>by
   rw[q9]at h;split at h;cases h;rename_i p hp
   have hP2:∀q∈P++[p],JH q:=λq hq=>by
    rcases apK.1 hq with hq | hq;exact hP q hq;rw[alp.1 hq];exact aa9 hS hp
   split at h;injection h with h;subst h;exact⟨hP2,by rw[TR,ai9,apH];omega⟩;split at h;cases h;split at h;cases h;have:=JT hS n _ _ _ h hP2;refine⟨this.1,?_⟩;have:=this.2;rw[TR]at this;simp at this;omega
def ahH{O:VH}{A:Nat×Nat}{B k:Nat}{S:List (Gv×Bs)}(h:o5 O A B k S)(g:Gv)(hg:gG g):VF Ε 87 [.p k 0,.agg (aS g)] O (aC λm O'=>o5 O' A B k S/\o0 O O' A B/\match q9 S 32 [] g []with
  | .ok P=>∃t1 m2,m= .tuple [.l (Ζ P) (P.flatMap dy) t1,m2,.agg (gV ja)]
  | .error x=>∃m1 m2,m= .tuple [m1,m2,.agg (gV x)]):=by
 refine VF.fg ?_;have hle:=h.le;have bH:=h.ok;obtain⟨R,hR⟩:∃R,q9 S 32 [] g []=R:=⟨_,rfl⟩
 rw[hR];have AF:∃g1 g2 g3,g=⟨g1,g2,g3⟩:=⟨g.g,g.a,g.v,rfl⟩
 obtain⟨g1,g2,g3,bK⟩:=AF;have hgm:aS g=[.s g1,.s g2,.s g3]:=by rw[bK];rfl
 rw[hgm];refine ω 51 [.tmp 4,.tmp 5,.cell 6 34] func87 ?_;refine κ bf ?_;refine VC.gen ?_;intro O1 e1;obtain⟨aM,dq,eo,cS⟩:=jS _ _ e1;clear e1;refine κ bf ?_;refine κ bf ?_;refine Γ ?_;refine Υ [7,8] [0,3,6] (λs:List Gv×List Pm×Gv×Tok×Tok=>[.l (Ζ s.2.1) (s.2.1.flatMap dy) s.2.2.2.1,.l (Ζ s.1) (s.1.flatMap aS) s.2.2.2.2]) (λs O'=>o5 O' A B k S/\o0 O O' A B/\O.N+2<=O'.N/\O'.hp O.N=φ (.cells (aS s.2.2.1))/\O'.hp (O.N+1)=φ (.cells (gV ja))/\gG s.2.2.1/\(Ζ s.1)=(Ζ s.2.1)/\(Ζ s.1)<=31/\App O' (O.N+2) 11 s.2.2.2.1/\App O' (O.N+2) 3 s.2.2.2.2/\(∀i,Tok.id s.2.2.2.1=φ i->Tok.id s.2.2.2.2≠φ i)/\q9 S (32 - (Ζ s.1)) s.1 s.2.2.1 s.2.1=R) (λs=>32 - (Ζ s.1)) ((([],[],g,.nil,.nil):List Gv×List Pm×Gv×Tok×Tok)) ?_ ?_;exact⟨h.ge aM,.dG aM,Λ,by rw[hgm];exact eo,cS,hg,rfl,z10,trivial,trivial,(λi e=>by cases e),hR⟩;clear aM dq eo cS h hgm bK hg hR;rintro⟨W,P,g,tp,tg⟩ O1 ⟨h,hf1,dq,eo,cS,hg,hWP,Qu,cQ,QB,hne,hR⟩;dsimp only at eo hg hWP Qu cQ QB hne hR ⊢;obtain⟨n,hn⟩:∃n,32 - (Ζ W)=n+1:=⟨31 - (Ζ W),Λ⟩
 rw[hn,q9]at hR;have G_:=akP h g hg;have sM:=λp=> @aa9 S g p bH
 have QC:=λx=> @UL S g x
 obtain⟨PR,hPR⟩:∃PR,DH S g=PR:=⟨_,rfl⟩
 rw[hPR]at hR G_ sM QC;obtain⟨g1,g2,g3⟩:=g;simp only[aS]at eo G_;refine Γ ?_;refine ξ bf eo ?_;refine π G_ ?_;rintro m O2 ⟨h2,jh,hm⟩;have eG:=jh.1;have iO:=jh.at Λ Λ eo;have bV:=jh.at Λ Λ cS;have JU:=hf1.trans jh;have ki:∀i,O.N+2<=i->i<O1.N->O2.hp i=O1.hp i:=λi h1 h2=>jh.2 i h2 Λ
 have w6:App O2 (O.N+2) 11 tp:=by
  cases tp with
  | own t j=>exact⟨cQ.1,(ki t cQ.2.2.1 cQ.2.2.2).trans cQ.2.1,cQ.2.2.1,by have:=cQ.2.2.2;omega⟩
  | nil=>trivial
  | full=>trivial
  | av=>exact cQ.elim
 have aml:App O2 (O.N+2) 3 tg:=by
  cases tg with
  | own t j=>exact⟨QB.1,(ki t QB.2.2.1 QB.2.2.2).trans QB.2.1,QB.2.2.1,by have:=QB.2.2.2;omega⟩
  | nil=>trivial
  | full=>trivial
  | av=>exact QB.elim
 clear ki cQ QB G_ eo cS h;cases PR with
 | error x=>
   obtain⟨u1,u2,u3,rfl⟩:=hm;have hE:pbE x=γ:=Ai (QC x rfl);have m9:=wm x;rw[hE]at m9;dsimp only at hR;subst hR;obtain⟨xe,⟨xg,xa,xv⟩,x1,x2,x3,xw⟩:=x;simp only[Gc,nW,gV,ja,aq,bg,apH,List.flatMap_nil]at m9 bV ⊢;refine ae bf ?_;refine VC.gen ?_;intro O3 e3;(((have aB:O2.Ge O3:=by rw[e3];exact((((VH.Ge.refl O2).push _).push _).set (Rn _) _).set (aun _) _);have eH:O3.hp (O2.N+1)=φ (.cells [.v (Ι Κ xe),.s xg,.s xa,.s xv,.v (Ι Κ x1),.v (Ι Κ x2),.v (Ι Κ x3),.s xw]):=by rw[e3];exact υ _ _ _);have ea:O3.N=O2.N+2:=by rw[e3];rfl);clear e3;have cE:=aB.at bV;have h3:=h2.ge aB;have ku:=JU.ge aB;refine ξ bf eH ?_;refine VL.ud aa (bb:=Α) (b:=γ) z10 z24 (.inr ⟨rfl,rfl⟩) m9 z11 rfl rfl rfl rfl ?_;refine ae bf ?_;refine ι ?_;refine WC.bM .any [(1,.au),(2,.au),(0,.one),(3,.one)] ?_;refine aF bf eH cE ?_;exact⟨h3.mv (Rn _) λi _ hi=>VH.sx,ku.set Λ _,_,_,rfl⟩
 | ok p=>
   dsimp only at hm;subst hm;have m9:=wm ja;have GJ:=MY p;have hB:=sM p rfl;dsimp only at hR;have UN:p.par=⟨p.par.g,p.par.a,p.par.v⟩:=rfl;((have fh:P.flatMap dy++dy p=(P++[p]).flatMap dy:=by rw[apI];simp);have uU:=aP EZ P;have aa_:W.flatMap aS++aS ⟨g1,g2,g3⟩=(W++[(⟨g1,g2,g3⟩:Gv)]).flatMap aS:=by rw[apI];simp);have D4:=aP nI W
   have arB:gG p.par:=by
    have:=hB.tx;exact⟨by simp only[maxLen];omega,by simp only[maxLen];omega,by simp only[maxLen];omega⟩
   (have uE:=λO' tk=>UM (W++[⟨g1,g2,g3⟩]) tk p.par O' (by rw[TR];simp;omega));have xh:(W++[(⟨g1,g2,g3⟩:Gv)]).length=Ζ W+1:=by rw[TR];rfl
   (have cz:(P++[p]).length=Ζ W+1:=by rw[TR, <-hWP];rfl);rw[<-hWP]at uU;obtain⟨PM,hPM⟩:∃PM,PM=(P++[p]).flatMap dy:=⟨_,rfl⟩
   obtain⟨GM,hGM⟩:∃GM,GM=(W++[(⟨g1,g2,g3⟩:Gv)]).flatMap aS:=⟨_,rfl⟩
   rw[<-hPM]at fh;rw[<-hGM]at aa_ uE;rw[xh]at hR uE;rw[<-hWP];(((((((((((((have hRW:∀{t:List Gv},t=t:=rfl);generalize Lw:(W++[(⟨g1,g2,g3⟩:Gv)]).contains p.par=cb at*;have amm:p.hp=γ->R= .ok (P++[p]):=λe=>by rw[if_pos e]at hR;exact hR.symm);have amn:p.hp=Α->cb=Α->R= .error ⟨23,⟨g1,g2,g3⟩,0,0,0,pjP⟩:=λe e2=>by rw[if_neg (by simp[e]),if_pos e2]at hR;exact hR.symm);have amo:p.hp=Α->cb=γ->32<=Ζ W+1->R= .error ⟨2,⟨g1,g2,g3⟩,0,0,0,pjP⟩:=λe e2 e3=>by rw[if_neg (by simp[e]),if_neg (by simp[e2]),if_pos e3]at hR;exact hR.symm);have amp:p.hp=Α->cb=γ->¬32<=Ζ W+1->q9 S n (W++[⟨g1,g2,g3⟩]) p.par (P++[p])=R:=λe e2 e3=>by rw[if_neg (by simp[e]),if_neg (by simp[e2]),if_neg e3]at hR;exact hR);clear hR sM QC hB hRW;have hpM:dy p=[.v (.bool p.hp),.s p.par.g,.s p.par.a,.s p.par.v,.s p.g,.s p.a,.s p.v,.s p.pk,.l (Ζ p.props) (p.props.flatMap bp) .av,.l (Ζ p.bL) (p.bL.flatMap aG) .av,.l (Ζ p.dH) (p.dH.flatMap aG) .av]:=rfl;have ahI:aS p.par=[.s p.par.g,.s p.par.a,.s p.par.v]:=rfl;rw[ahI]at uE;rw[hpM]at GJ fh ⊢;generalize p.props.flatMap bp=XP at*;generalize p.bL.flatMap aG=XM at*;generalize p.dH.flatMap aG=XD at*;generalize (Ζ p.props)=np at*;generalize (Ζ p.bL)=nm at*;generalize (Ζ p.dH)=nd at*;generalize p.par.g=qg at*;generalize p.par.a=qa at*;generalize p.par.v=qv at*;generalize p.g=pG at*;generalize p.a=pA at*;generalize p.v=pV at*;generalize p.pk=pk at*;obtain⟨b,hbh⟩:∃b,p.hp=b:=⟨_,rfl⟩);rw[hbh]at amm amn amo amp GJ fh ⊢;simp only[gV,ja,aq,aS]at m9 bV aa_ ⊢;generalize P.flatMap dy=PP at*;generalize W.flatMap aS=WW at*;refine ae bf ?_;refine VC.gen ?_;intro O3 e3;have aB:O2.Ge O3:=by rw[e3];exact((((VH.Ge.refl O2).push _).push _).set (Rn _) _).set (aun _) _);have qx:O3.hp O2.N=φ (.cells [.v (.bool b),.s qg,.s qa,.s qv,.s pG,.s pA,.s pV,.s pk,.l np XP .av,.l nm XM .av,.l nd XD .av]):=by rw[e3,VH.sx];exact υ _ _ _);have eH:O3.hp (O2.N+1)=φ (.cells [.v (Ι Κ 0),.s [],.s [],.s [],.v (Ι Κ 0),.v (Ι Κ 0),.v (Ι Κ 0),.s []]):=by rw[e3];exact υ _ _ _);have ea:O3.N=O2.N+2:=by rw[e3];rfl);clear e3;have oY:=aB.at iO;have cE:=aB.at bV;have h3:=h2.ge aB;have ku:=JU.ge aB;have nD:=w6.ge aB;have amq:=aml.ge aB;clear w6 aml iO bV h2 JU;refine ξ bf eH ?_;refine VL.ud aa (bb:=γ) (b:=Α) z10 z24 (.inr ⟨rfl,rfl⟩) m9 z11 rfl rfl rfl rfl ?_;refine ae bf ?_;have arC:de PM=PM:=by rw[hPM];exact Y5 _);have amr:PM=(P++[p]).flatMap dy:=hPM;have arD:GM=(W++[(⟨g1,g2,g3⟩:Gv)]).flatMap aS:=hGM;have iU:=λ(O5:VH)(iz:App O5 (O.N+2) 11 tp)=>bE (tk:=tp) (tk':=.full) (n:=Ζ W) (k:=1) (cs:=PP) (ds:=[.v (.bool b),.s qg,.s qa,.s qv,.s pG,.s pA,.s pV,.s pk,.l np XP .av,.l nm XM .av,.l nd XD .av]) alJ T95.1.1 (O:=O5) iz uU);have ahJ:=λ(O5:VH)(JV:App O5 (O.N+2) 3 tg)=>bE (tk:=tg) (tk':=.full) (n:=Ζ W) (k:=1) (cs:=WW) (ds:=[.s g1,.s g2,.s g3]) PK Eo.1.1 (O:=O5) JV D4);rw[fh]at iU;rw[aa_]at ahJ;clear fh aa_ uU D4 hPM hGM;refine Ξ [0,3,6,7,8,9] (λs:Tok×Tok=>[.p k 0,.p O.N 0,.p (O.N+1) 0,.l (Ζ W+1) PM s.1,.l (Ζ W+1) GM s.2,.p O2.N 0]) (λs O'=>o5 O' A B k S/\o0 O O' A B/\O.N+2<=O'.N/\O2.N<O'.N/\O'.hp O.N=φ (.cells [.s g1,.s g2,.s g3])/\O'.hp (O.N+1)=φ (.cells [.v (Ι Κ 0),.s [],.s [],.s [],.v (Ι Κ 0),.v (Ι Κ 0),.v (Ι Κ 0),.s []])/\O'.hp O2.N=φ (.cells [.v (.bool b),.s qg,.s qa,.s qv,.s pG,.s pA,.s pV,.s pk,.l np XP .av,.l nm XM .av,.l nd XD .av])/\App O' (O.N+2) 11 s.1/\App O' (O.N+2) 3 s.2/\∀i,Tok.id s.1=φ i->Tok.id s.2≠φ i) ?_ ?_
   ·refine VC.tA [] (O2.N) (O.N) (qx) (oY) ?_ (hne:=Λ);intro X1 X2;refine ρ 0 bf ?_;refine ε (m:=.agg [.v (.bool b),.s qg,.s qa,.s qv,.s pG,.s pA,.s pV,.s pk,.l np XP .av,.l nm XM .av,.l nd XD .av]) 1 (λ_ h=>h.1) (λ_ h=>h.1) ?_ ?_;exact ez bf;simp only[ag];refine ρ 4 bf ?_;refine ε (m:=.agg [.s g1,.s g2,.s g3]) 5 (λ_ h=>h.2) (λ_ h=>h.2) ?_ ?_;exact ez bf;simp only[ag];have hJ:GO O2.N O.N X1 X2 ((O3.set O2.N (.obj X1)).set O.N (.obj X2)):=⟨Θ (υ _ _ _),υ _ _ _⟩;have ie:((O3.set O2.N (.obj X1)).set O.N (.obj X2)).N=O3.N:=rfl;((have jz:∀i,i≠O2.N->i≠O.N->((O3.set O2.N (.obj X1)).set O.N (.obj X2)).hp i=O3.hp i:=λi h1 h2=>by rw[τ _ _ h2,τ _ _ h1]);have iz:App ((O3.set O2.N (.obj X1)).set O.N (.obj X2)) (O.N+2) 11 tp:=(nD.iV (by rw[qx];simp)).iV (by rw[VH.sx,oY];simp);have JV:App ((O3.set O2.N (.obj X1)).set O.N (.obj X2)) (O.N+2) 3 tg:=(amq.iV (by rw[qx];simp)).iV (by rw[VH.sx,oY];simp);generalize (O3.set O2.N (.obj X1)).set O.N (.obj X2)=O5 at*;have hv3:=iU O5 iz;have qP:=dR.after iz;have UO:=dR.app qP JV hne;have hv7:=ahJ (O5.after tp) UO;have At:=dR.after UO;have mQ:=qP.N;have sk:=At.N;have DI:GO O2.N O.N X1 X2 (O5.after tp):=⟨(App.off iz Λ (by rw[hJ.1];simp)).trans hJ.1,(App.off iz Λ (by rw[hJ.2];simp)).trans hJ.2⟩;have E4:GO O2.N O.N X1 X2 ((O5.after tp).after tg):=⟨(App.off UO Λ (by rw[DI.1];simp)).trans DI.1,(App.off UO Λ (by rw[DI.2];simp)).trans DI.2⟩;have jl:App ((O5.after tp).after tg) (O.N+2) 11 (.own O5.N 11):=At.app (App.after) λi e=>by have:=(JV.iM e).2;simp only[Tok.id];intro e2;injection e2 with e2;omega);have arE:App ((O5.after tp).after tg) (O.N+2) 3 (.own (O5.after tp).N 3):=App.after
    have rb:∀O8,O8=(((O5.after tp).after tg).set O2.N (.cells [.v (.bool b),.s qg,.s qa,.s qv,.s pG,.s pA,.s pV,.s pk,.l np XP .av,.l nm XM .av,.l nd XD .av])).set O.N (.cells [.s g1,.s g2,.s g3])->o5 O8 A B k S/\o0 O O8 A B/\O.N+2<=O8.N/\O2.N<O8.N/\O8.hp O.N=φ (.cells [.s g1,.s g2,.s g3])/\O8.hp (O.N+1)=φ (.cells [.v (Ι Κ 0),.s [],.s [],.s [],.v (Ι Κ 0),.v (Ι Κ 0),.v (Ι Κ 0),.s []])/\O8.hp O2.N=φ (.cells [.v (.bool b),.s qg,.s qa,.s qv,.s pG,.s pA,.s pV,.s pk,.l np XP .av,.l nm XM .av,.l nd XD .av])/\App O8 (O.N+2) 11 (.own O5.N 11)/\App O8 (O.N+2) 3 (.own (O5.after tp).N 3)/\∀i,Tok.id (.own O5.N 11)=φ i->Tok.id (.own (O5.after tp).N 3)≠φ i:=λO8 e8=>by
     have AD:∀i,i<O3.N->O3.hp i≠φ .tok->i≠O2.N->i≠O.N->O8.hp i=O3.hp i:=λi h1 h2 h3 h4=>by
      have e5:=jz i h3 h4;have e6:=App.off (i:=i) iz Λ (by rw[e5];exact h2);rw[e8,τ _ _ h4,τ _ _ h3,App.off UO Λ (by rw[e6,e5];exact h2),e6,e5]
     have E5:∀i,i<O.N+2->i≠O.N->O8.hp i=O3.hp i:=λi h1 h4=>by
      rw[e8,τ _ _ h4,VH.sx,At.hp i Λ (λe=>by have:=(JV.iM e).1;omega),qP.hp i Λ (λe=>by have:=(iz.iM e).1;omega),jz i Λ h4]
     (have Ar:O8.N=((O5.after tp).after tg).N:=by rw[e8];rfl);refine⟨h3.mv Λ λi h1 h2=>E5 i Λ Λ,⟨by have:=ku.1;omega,λi hi hn=>(E5 i Λ Λ).trans (ku.2 i hi hn)⟩,Λ,Λ,by rw[e8];exact υ _ _ _,(E5 _ Λ Λ).trans cE,by rw[e8];exact Θ (υ _ _ _),?_,?_,λi e1 e2=>?_⟩
     ·rw[e8];exact(jl.iV (by rw[E4.1];simp)).iV (by rw[VH.sx,E4.2];simp)
     ·rw[e8];exact(arE.iV (by rw[E4.1];simp)).iV (by rw[VH.sx,E4.2];simp)
     ·injection e1 with e1;injection e2 with e2;have:=VH.fL O5 tp;omega
    refine auS (i:=2) (j:=6) ?_ ?_;refine aQ.o1 ?_;refine ae bf ?_;refine⟨hJ,?_⟩;refine auS (i:=3) (j:=6) ?_ ?_;refine aQ.o1 ?_;rw[eN];refine ak bf hv3 ?_;refine⟨DI,?_⟩;refine ab.op (i:=6) ?_;refine ae bf ?_;refine⟨DI,?_⟩;refine ab.op (i:=7) ?_;rw[eN];refine ak bf hv7 ?_;refine⟨E4,?_⟩;refine ab.op (i:=8) ?_;refine ae bf ?_;refine⟨E4,?_⟩;refine ab.op (i:=9) ?_;refine ae bf ?_;refine⟨E4,?_⟩;refine ab.pZ [] ?_ (hne:=Λ);refine ae bf ?_;exact aE.mk (.own O5.N 11,.own (O5.after tp).N 3) (rb _ rfl);refine aQ.o1 ?_;refine ae bf ?_;refine⟨hJ,?_⟩;refine ab.op (i:=3) ?_;rw[eN];refine ak bf hv3 ?_;refine⟨DI,?_⟩;refine ab.op (i:=7) ?_;rw[eN];refine ak bf hv7 ?_;refine⟨E4,?_⟩;refine ab.op (i:=8) ?_;refine ae bf ?_;refine⟨E4,?_⟩;refine ab.op (i:=9) ?_;refine ae bf ?_;refine⟨E4,?_⟩;refine ab.pZ [] ?_ (hne:=Λ);refine ae bf ?_;exact aE.mk (.own O5.N 11,.own (O5.after tp).N 3) (rb _ rfl);refine aQ.o1 ?_;refine ae bf ?_;refine⟨hJ,?_⟩;refine ab.op (i:=2) ?_;refine ae bf ?_;refine⟨hJ,?_⟩;refine ab.op (i:=3) ?_;rw[eN];refine ak bf hv3 ?_;refine⟨DI,?_⟩;refine ab.op (i:=7) ?_;rw[eN];refine ak bf hv7 ?_;refine⟨E4,?_⟩;refine ab.op (i:=8) ?_;refine ae bf ?_;refine⟨E4,?_⟩;refine ab.op (i:=9) ?_;refine ae bf ?_;refine⟨E4,?_⟩;refine ab.pZ [] ?_ (hne:=Λ);refine ae bf ?_;exact aE.mk (.own O5.N 11,.own (O5.after tp).N 3) (rb _ rfl)
   clear nD amq qx eH oY cE h3 ku hne iU ahJ aB;rintro⟨t1,t2⟩ O4 ⟨h4,nY,fe,QF,jx,c8,yQ,lh,ahK,UP⟩;dsimp only at lh ahK UP ⊢;cases b with
   | false=>
     refine ξ bf yQ ?_;refine ak bf c8 ?_;rw[amm rfl];refine⟨h4.mv (Rn _) λi _ hi=>VH.sx,nY.set Λ _,?_⟩;dsimp only;rw[cz, <-amr];exact⟨_,_,by simp only[wu,arC];rfl⟩
   | true=>
     refine ξ bf yQ ?_;refine π (uE O4 t2) ?_;rintro _ O5 ⟨rfl,bB⟩;have e_:=bB.at jx;have dX:=bB.at c8;have Qb:=bB.at yQ;have h5:=h4.ge bB;have JW:=nY.ge bB;have iz:=lh.ge bB;have JV:=ahK.ge bB;have ie:=bB.N;clear jx c8 yQ h4 nY lh ahK;cases cb with
     | true=>
       refine ae bf ?_;refine WC.bM .any [(2,.au),(3,.au),(0,.one),(1,.au),(4,.one)] ?_;refine aF bf e_ dX ?_;rw[amn rfl rfl];exact⟨h5.mv (Rn _) λi _ hi=>VH.sx,JW.set Λ _,_,_,rfl⟩
     | false=>
       refine ae bf ?_;by_cases G8:32<=Ζ W+1;have e1:decide (((Ζ W+1:Nat):Int)>=32)=Α:=decide_eq_true Λ;have e2:decide ((32:Int)<=((Ζ W+1:Nat):Int))=Α:=e1;refine aF bf e1 e2 ?_;refine WC.bM .any [(2,.au),(3,.au),(0,.one),(1,.au),(4,.one)] ?_;refine aF bf e_ dX ?_;rw[amo rfl rfl G8];exact⟨h5.mv (Rn _) λi _ hi=>VH.sx,JW.set Λ _,_,_,rfl⟩;have e1:decide (((Ζ W+1:Nat):Int)>=32)=γ:=decide_eq_false Λ;have e2:decide ((32:Int)<=((Ζ W+1:Nat):Int))=γ:=e1;refine aF bf e1 e2 ?_;refine ι (aF bf Qb e_ ?_);refine aw.N (W++[⟨g1,g2,g3⟩],P++[p],p.par,t1,t2) ⟨h5.mv (Rn _) λi _ hi=>VH.sx,JW.set Λ _,by show O.N+2<=O5.N;omega,?_,Θ dX,arB,xh.trans cz.symm,by show(W++[(⟨g1,g2,g3⟩:Gv)]).length<=31;omega,iz.iV (by rw[e_];simp),JV.iV (by rw[e_];simp),UP,?_⟩ (hl:=?_) (hm:=?_);show _=φ (bO.cells (aS p.par));rw[ahI];exact υ _ _ _;dsimp only;rw[xh,show 32 - (Ζ W+1)=n by omega];exact amp rfl rfl G8;rw[amr,arD];dsimp only;rw[cz,xh];rfl;show 32 - (W++[(⟨g1,g2,g3⟩:Gv)]).length<32 - (Ζ W);omega
def lQ(P:List Pm):Pm:=P.foldr DF nW
def oO(S:List (Gv×Bs))(g:Gv):Except fa Pm:=match q9 S 32 [] g []with
 | .error x=>.error x
 | .ok P=>.ok (lQ P)
def Gf{S:List (Gv×Bs)}{g:Gv}{x:fa}(h:oO S g= .error x):x.e≠0:=by
 unfold oO at h;split at h;rename_i h1;injection h with h;subst h;exact E0 _ _ _ _ h1;cases h
structure Y6(n:Nat)(p:Pm):Prop where
 tx:Ζ p.par.g<=1024/\(Ζ p.par.a)<=1024/\(Ζ p.par.v)<=1024/\(Ζ p.g)<=1024/\(Ζ p.a)<=1024/\(Ζ p.v)<=1024/\(Ζ p.pk)<=1024
 pl:Ζ p.props<=1024*n
 pn:∀e∈p.props,Ζ e.1<=100000/\(Ζ e.2)<=1024
 ml:Ζ p.bL<=1024*n
 mn:∀d∈p.bL,Az d
 dl:Ζ p.dH<=1024*n
 dn:∀d∈p.dH,Az d
def Az.ok{d:Dp}(h:Az d):oL d:=⟨aev h.g z12,aev h.a z12,aev h.v z12,aev h.t z12,aev h.c z12,aev h.x z12⟩
def Ha(e:Bs×Bs):Prop:=Ζ e.1<=100000/\(Ζ e.2)<=1024
def aba{nm vl:Bs}(h1:Ζ nm<=100000)(h2:Ζ vl<=1024):∀{L:List (Bs×Bs)},(∀e∈L,Ha e)->∀e∈lr nm vl L,Ha e
 | [],_,e,he=>by
   rw[lr,alp]at he;rw[he];exact⟨h1,h2⟩
 | x::l,hL,e,he=>by
   rw[lr]at he;split at he;rcases auu.1 he with rfl | he;exact⟨(hL x (auo ..)).1,h2⟩;exact hL e (as0 _ he);rcases auu.1 he with rfl | he;exact hL _ (auo ..);exact aba h1 h2 (λe he=>hL e (as0 _ he)) e he
def DJ:∀{M L:List (Bs×Bs)},(∀e∈L,Ha e)->(∀e∈M,Ha e)->(jA L M).length<=Ζ L+(Ζ M)/\∀e∈jA L M,Ha e
 | [],L,hL,_=>⟨Nat.le_add_right _ _,hL⟩
 | x::M,L,hL,hM=>by
   have hx:=hM x (auo ..);(have:=DJ (M:=M) (aba hx.1 hx.2 hL) λe he=>hM e (as0 _ he));have h2:=Ah x.1 x.2 L;refine⟨?_,this.2⟩;have h1:(jA L (x::M)).length<=(lr x.1 x.2 L).length+Ζ M:=this.1;rw[ai9];omega
def NW{L M:List Dp}{d:Dp}(h:d∈ig L M):d∈L\/d∈M:=by
 unfold ig at h;rcases apK.1 h with h | h;exact .inl h;exact .inr (auz.1 h).1
def aef{c q:Pm}(hc:JH c)(hq:Y6 n q):Y6 (n+1) (DF c q):=by
 obtain⟨t1,t2,t3,t4,t5,t6,t7⟩:=hc.tx;have ho:=DJ hq.pn hc.pn;have l1:=hq.pl;have l2:=hc.pl;have l3:=hq.ml;have l4:=hc.ml;have l5:=hq.dl;have l6:=hc.dl;have u1:=EX c.bL q.bL;have u2:=EX c.dH q.dH;refine⟨⟨t1,t2,t3,?_,t5,?_,t7⟩,?_,ho.2,?_,λd hd=>(NW hd).elim (hc.mn d) (hq.mn d),?_,λd hd=>(NW hd).elim (hc.dn d) (hq.dn d)⟩;show(if c.hp&&c.g==[]then c.par.g else c.g).length<=1024;split;exact t1;exact t4;show(if c.hp&&c.v==[]then c.par.v else c.v).length<=1024;split;exact t3;exact t6;show(jA q.props c.props).length<=_;omega;show(ig c.bL q.bL).length<=_;omega;show(ig c.dH q.dH).length<=_;omega
def ao7:Y6 0 nW:=⟨EN.tx,by simp[nW],EN.pn,by simp[nW],EN.mn,by simp[nW],EN.dn⟩
def Cd:∀{P:List Pm},(∀p∈P,JH p)->Y6 (Ζ P) (lQ P)
 | [],_=>ao7
 | p::P,h=>aef (h p (auo ..)) (Cd λq hq=>h q (as0 _ hq))
def Y7{S:List (Gv×Bs)}{g:Gv}{p:Pm}(hS:∀x∈S,iq x.1=Α/\(Ζ x.2)<=65536)(h:oO S g= .ok p):Y6 32 p:=by
 unfold oO at h;split at h;cases h;rename_i P h1;injection h with h;subst h;have:=JT hS _ _ _ _ h1 z10;have h2:=Cd this.1;have h3:=this.2;rw[apH]at h3;exact⟨h2.tx,by have:=h2.pl;omega,h2.pn,by have:=h2.ml;omega,h2.mn,by have:=h2.dl;omega,h2.dn⟩
def Y8(h:o5 O A B k S)(g:Gv)(hg:gG g):VF Ε 65 [.p k 0,.agg (aS g)] O (aC λm O'=>o5 O' A B k S/\o0 O O' A B/\m= .tuple [.agg (dy (rP (oO S g))),.agg (gV (rX (oO S g)))]):=by
 refine VF.fg ?_;have hle:=h.le;have bH:=h.ok;have uc:=λx=> @E0 S 32 [] g [] x
 have hwB:=λQ=> @JT S bH 32 [] g [] Q
 have hw:=λ(O':VH)(g':O.Ge O')=>ahH (h.ge g') g hg
 unfold oO;generalize q9 S 32 [] g []=R at*;obtain⟨g1,g2,g3⟩:=g;simp only[aS]at hw ⊢;refine ω 38 [.cell 4 95,.cell 5 34] func65 ?_;refine κ bf ?_;refine VC.gen ?_;intro O1 e1;obtain⟨aM,dq,eo,cS,gN⟩:=yB _ _ _ e1;clear e1;refine ξ bf eo ?_;refine π (hw O1 aM) ?_;rintro m O2 ⟨h2,jh,hm⟩;have eG:=jh.1;have bV:=jh.at Λ Λ cS;have fz:=jh.at Λ Λ gN;have JU:=(o0.dG (A:=A) (B:=B) aM).trans jh;clear hw eo cS gN;cases R with
 | error x=>
   obtain⟨m1,m2,rfl⟩:=hm;simp only[rP,rX];have hE:pbE x=γ:=Ai (uc x rfl);have m9:=wm x;rw[hE]at m9;obtain⟨xe,⟨xg,xa,xv⟩,x1,x2,x3,xw⟩:=x;simp only[gV,ja,aq]at m9 ⊢;refine ae bf ?_;refine VC.al ?_;rintro O3 ⟨aB,eH,ea⟩;have cE:=aB.at bV;have en:=aB.at fz;have h3:=h2.ge aB;have ku:=JU.ge aB;refine ξ bf eH ?_;refine VL.ud aa (bb:=Α) (b:=γ) z10 z24 (.inr ⟨rfl,rfl⟩) m9 z11 rfl rfl rfl rfl ?_;refine ae bf ?_;((((have c8:=λX=>(τ O3 (.obj X) (by omega:O.N+1≠O2.N)).trans cE);have ff:=λX=>(τ O3 (.obj X) (by omega:O.N+1+1≠O2.N)).trans en);have h4:=λX=>h3.mv (O':=O3.set O2.N (.obj X)) (Rn _) λi _ hi=>VH.sx);have nY:=λX=>ku.set (i:=O2.N) Λ (.obj X));refine VC.mJ [] (O2.N) (eH) ?_;intro X
   replace c8:=c8 X
   replace ff:=ff X
   replace h4:=h4 X
   replace nY:=nY X
   have jU:=υ O3 O2.N (.obj X);have fe:(O3.set O2.N (.obj X)).N=O3.N:=rfl;generalize O3.set O2.N (.obj X)=O4 at*;refine ρ 0 bf ?_;refine auQ (m:=.agg [.v (Ι Κ xe),.s xg,.s xa,.s xv,.v (Ι Κ x1),.v (Ι Κ x2),.v (Ι Κ x3),.s xw]) 1 ?_ ?_;exact ez bf;simp only[ag];refine ab.op (i:=2) ?_;refine ak bf c8 ?_;refine⟨jU,?_⟩;refine ab.op (i:=3) ?_;refine ak bf ff ?_;refine⟨jU,?_⟩;refine ab.mK [] ?_;refine ae bf ?_;refine⟨h4.mv (Rn _) λi _ hi=>?_,((nY.set Λ _).set Λ _).set Λ _,by simp only[wu,dy,nW,bg,apH,List.flatMap_nil]⟩;rw[VH.sx,VH.sx,VH.sx]
 | ok P=>
   obtain⟨u1,m2,rfl⟩:=hm;have m9:=wm ja;have hPB:=hwB P rfl z10;simp only[rP,rX];simp only[gV,ja,aq]at m9 ⊢;refine ae bf ?_;refine VC.al ?_;rintro O3 ⟨aB,eH,ea⟩;have cE:=aB.at bV;have en:=aB.at fz;have h3:=h2.ge aB;have ku:=JU.ge aB;clear bV fz h2 JU;refine ξ bf eH ?_;refine VL.ud aa (bb:=γ) (b:=Α) z10 z24 (.inr ⟨rfl,rfl⟩) m9 z11 rfl rfl rfl rfl ?_;refine ae bf ?_;refine κ bf ?_;refine VC.bx ?_;rintro O4 ⟨aV,iD,fe⟩;have c8:=aV.at cE;have ff:=aV.at en;have h4:=h3.ge aV;have nY:=ku.ge aV;clear cE en h3 ku;((have qM:Ζ P<=32:=by have:=hPB.2;simpa using this);have hPP:=aP EZ P;obtain⟨PP,ams⟩:∃PP,PP=P.flatMap dy:=⟨_,rfl⟩);rw[<-ams]at hPP ⊢;refine Ξ [4,5,9] (λ_:Unit=>[.p (O.N+1) 0,.p (O.N+1+1) 0,.p O3.N 0]) (λ_ O'=>O4.N<=O'.N/\(∀i,i<O3.N->O'.hp i=O4.hp i)/\∃t1 t2 t3,O'.hp O3.N=φ (.cells (Gc (lQ P) t1 t2 t3))) ?_ ?_
   ·refine κ bf ?_;refine Γ ?_;refine Υ [10] [4,5,6,9] (λr:Nat=>[mi ((r:Int) - 1)]) (λr O'=>r<=(Ζ P)/\O4.N<=O'.N/\(∀i,i<O3.N->O'.hp i=O4.hp i)/\∃t1 t2 t3,O'.hp O3.N=φ (.cells (Gc (lQ (P.drop r)) t1 t2 t3))) (λr=>r) (Ζ P) ?_ ?_;exact⟨Rn _,Rn _,λ_ _=>rfl,.nil,.nil,.nil,by rw[List.drop_length];exact iD⟩
    rintro r O5 ⟨hr,ie,jz,t1,t2,t3,qY⟩;cases r with
    | zero=>
      rw[auC]at qY;have e0:((0:Nat):Int) - 1= -1:=rfl;rw[e0];refine ν bf ?_;exact aE.mk () ⟨ie,jz,t1,t2,t3,qY⟩
    | succ r=>
      have er:((r+1:Nat):Int) - 1=(r:Int):=Λ
      rw[er];have hrP:r<Ζ P:=hr;have bh:=bY EZ P r hrP;rw[<-ams]at bh;have Qf:P.drop r=P[r]::P.drop (r+1):=asc hrP;(((((have hMr:lQ (P.drop r)=DF P[r] (lQ (P.drop (r+1))):=by rw[Qf];rfl);have hBr:=hPB.1 P[r] (ai_ hrP);have hBd:Y6 (P.drop (r+1)).length (lQ (P.drop (r+1))):=Cd λp hp=>hPB.1 p (List.mem_of_mem_drop hp));rw[an7]at hBd;have y_:=λO'=>aed P[r] (lQ (P.drop (r+1))) t1 t2 t3 O' (by have:=hBd.pl;have:=hBr.pl;omega) (by have:=hBd.ml;have:=hBr.ml;omega) (by have:=hBd.dl;have:=hBr.dl;omega) (λd hd=>(hBr.mn d hd).ok) (λd hd=>(hBd.mn d hd).ok) (λd hd=>(hBr.dn d hd).ok) (λd hd=>(hBd.dn d hd).ok));rw[<-hMr]at y_;obtain⟨Z,hZ⟩:∃Z,lQ (P.drop r)=Z:=⟨_,rfl⟩);rw[hZ]at y_;generalize lQ (P.drop (r+1))=Y at*;generalize P[r]=p at*;have hpM:dy p=[.v (.bool p.hp),.s p.par.g,.s p.par.a,.s p.par.v,.s p.g,.s p.a,.s p.v,.s p.pk,.l (Ζ p.props) (p.props.flatMap bp) .av,.l (Ζ p.bL) (p.bL.flatMap aG) .av,.l (Ζ p.dH) (p.dH.flatMap aG) .av]:=rfl;have hYM:Gc Y t1 t2 t3=[.v (.bool Y.hp),.s Y.par.g,.s Y.par.a,.s Y.par.v,.s Y.g,.s Y.a,.s Y.v,.s Y.pk,.l (Ζ Y.props) (Y.props.flatMap bp) t1,.l (Ζ Y.bL) (Y.bL.flatMap aG) t2,.l (Ζ Y.dH) (Y.dH.flatMap aG) t3]:=rfl;have hZM:dy Z=[.v (.bool Z.hp),.s Z.par.g,.s Z.par.a,.s Z.par.v,.s Z.g,.s Z.a,.s Z.v,.s Z.pk,.l (Ζ Z.props) (Z.props.flatMap bp) .av,.l (Ζ Z.bL) (Z.bL.flatMap aG) .av,.l (Ζ Z.dH) (Z.dH.flatMap aG) .av]:=rfl;rw[hpM]at bh y_;rw[hYM]at qY y_;rw[hZM]at y_;have hnn:O3.N<O5.N:=by omega);refine κ bf ?_;refine Δ (Γ ?_);refine VC.vZ [] (λ_=>True) (trivial) ?_;refine ρ 0 bf ?_;refine ρ 1 bf ?_;refine ρ 2 bf ?_;refine auW 3 bf bh ?_;refine ab.op (i:=4) ?_;refine ak bf qY ?_;refine ab.call (i:=5) (y_ O5) ?_;rintro _ O6 ⟨rfl,dU⟩;simp only[ag];refine⟨trivial,?_⟩;have uu:=dU.at qY;have mQ:=dU.N;refine ab.op (i:=6) ?_;refine ak bf uu ?_;refine ab.bM [] ?_;refine ae bf ?_;refine ν bf ?_;exact aw.N r ⟨Λ,by show O4.N<=O6.N;omega,λi hi=>(VH.sx).trans ((dU.hp i Λ).trans (jz i hi)),   .av,.av,.av,by rw[hZ];exact υ _ _ _⟩ (hm:=by omega)
   rintro _ O9 ⟨yP,E5,t1,t2,t3,QG⟩;have kK:=(E5 _ Λ).trans c8;have Qv:=(E5 _ Λ).trans ff;(have h9:=h4.mv yP λi _ hi=>E5 i Λ);have jG:o0 O O9 A B:=⟨by have:=nY.1;omega,λi hi hn=>(E5 i Λ).trans (nY.2 i hi hn)⟩;clear uc hwB hPB;generalize lQ P=Z at*;have hZM:Gc Z t1 t2 t3=[.v (.bool Z.hp),.s Z.par.g,.s Z.par.a,.s Z.par.v,.s Z.g,.s Z.a,.s Z.v,.s Z.pk,.l (Ζ Z.props) (Z.props.flatMap bp) t1,.l (Ζ Z.bL) (Z.bL.flatMap aG) t2,.l (Ζ Z.dH) (Z.dH.flatMap aG) t3]:=rfl;rw[hZM]at QG;refine θ (bo bf QG kK Qv ?_);refine ν bf ?_;exact⟨h9.mv (Rn _) λi _ hi=>by rw[VH.sx,VH.sx],(jG.set Λ _).set Λ _,by simp only[wu,ic,iC,dy,bg]⟩
def iW:=ahB T9<|ahB T3<|ahB T4<|ahB T5 PJ
def NX(l:Ρ)(i:Nat):(⟨⟨l⟩⟩:ByteArray).get! i=l.getD i 0:=by
 show((⟨l⟩:Array UInt8)[i]!)=_;rw[List.getD_eq_getElem?_getD];rcases auA i (Ζ l) with h | h;rw[getElem!_pos (⟨l⟩:Array UInt8) i h,Ro h];rfl;rw[getElem!_neg (⟨l⟩:Array UInt8) i (by show ¬i<Ζ l;omega),auv h];rfl
def JX(l:Ρ)(p:Nat)(h:(l.getD p 0).toNat<128):Utf8.decode ⟨⟨l⟩⟩ p=((l.getD p 0).toNat,1):=by
 unfold Utf8.decode;simp only[NX,Nat.add_zero,h,if_true]
def Y9(l:Ρ)(p:Nat)(hp:p<Ζ l)(h:128<=(l.getD p 0).toNat):128<=(Utf8.decode ⟨⟨l⟩⟩ p).1/\Utf8.valid (Utf8.decode ⟨⟨l⟩⟩ p).1=Α/\1<=(Utf8.decode ⟨⟨l⟩⟩ p).2/\p+(Utf8.decode ⟨⟨l⟩⟩ p).2<=(Ζ l)/\∀j,p<=j->j<p+(Utf8.decode ⟨⟨l⟩⟩ p).2->128<=(l.getD j 0).toNat:=by
 have mH:(⟨⟨l⟩⟩:ByteArray).size=Ζ l:=rfl
 have one:128<=Utf8.runeError/\Utf8.valid Utf8.runeError=Α/\1<=1/\p+1<=(Ζ l)/\∀j,p<=j->j<p+1->128<=(l.getD j 0).toNat:=
  ⟨z12,z12,Rn _,hp,λj h1 h2=>by rw[show j=p from by omega];exact h⟩
 have cont:∀k,(decide (p+k<Ζ l)&&(l.getD (p+k) 0).toNat / 64==2)=Α->p+k<(Ζ l)/\128<=(l.getD (p+k) 0).toNat:=λk hk=>by
  simp only[apE,decide_eq_true_eq,beq_iff_eq]at hk;exact⟨hk.1,Λ⟩
 unfold Utf8.decode;simp only[NX,mH,Nat.add_zero];rw[if_neg Λ];split
 ·rename_i hc;rw[apE]at hc;obtain⟨c1,c2⟩:=cont 1 hc.2;split
  ·rename_i bK;refine⟨bK,?_,Λ,Λ,λj h1 h2=>?_⟩;simp[Utf8.valid];omega
   ·(rcases(show j=p\/j=p+1 from by omega)with rfl | rfl);exact h
    ·exact c2
  ·exact one
 ·split;rename_i hc;simp only[apE]at hc;obtain⟨c1,c2⟩:=cont 1 (by simpa using hc.1.2);obtain⟨d1,d2⟩:=cont 2 (by simpa using hc.2);split;rename_i bK;rw[apE,decide_eq_true_eq]at bK;refine⟨Λ,bK.2,Λ,Λ,λj h1 h2=>?_⟩;(((((rcases(show j=p\/j=p+1\/j=p+2 from by omega)with rfl | rfl | rfl);exact h);exact c2);exact d2);exact one);split;rename_i hc;simp only[apE]at hc;obtain⟨c1,c2⟩:=cont 1 (by simpa using hc.1.1.2);obtain⟨d1,d2⟩:=cont 2 (by simpa using hc.1.2);obtain⟨e1,e2⟩:=cont 3 (by simpa using hc.2);split;rename_i bK;rw[apE,decide_eq_true_eq]at bK;refine⟨Λ,bK.2,Λ,Λ,λj h1 h2=>?_⟩;((((((rcases(show j=p\/j=p+1\/j=p+2\/j=p+3 from by omega)with rfl | rfl | rfl | rfl);exact h);exact c2);exact d2);exact e2);exact one);exact one
def Y_(r:Nat)(h:128<=r)(hv:Utf8.valid r=Α):∃k x,(Utf8.encode r).data.toList=k++[x]/\1<=(Ζ k)/\(Ζ k)<=3/\128<=x.toNat:=by
 have hr:r<1114112:=by simp[Utf8.valid]at hv;omega
 unfold Utf8.encode;simp only[hv,if_true,Int.toNat_natCast];rw[if_neg Λ];have hx:128<=(UInt8.ofNat (128+r % 64)).toNat:=by rw[UInt8.toNat_ofNat'];omega
 split;exact⟨[_],_,rfl,z10,z10,hx⟩;split;exact⟨[_,_],_,rfl,z10,z10,hx⟩;exact⟨[_,_,_],_,rfl,z10,z10,hx⟩
def Bg(s:Ρ)(c:UInt8)(O:VH):VF Ε 179 [.s s,ef c] O (aC λm O'=>m=mi (Lib.indexByte s c)/\O'=O):=by
 refine χ 8 [.tmp 4] func179 ?_;refine BG ?_;refine π (vT s c O) ?_;rintro _ O2 ⟨rfl,rfl⟩;exact BG trivial
def QH(r:Nat)(O:VH)(h:r<55296):VF Ε 204 [.v (.int .i32 r)] O (aC λm O'=>m=mb Α/\O'=O):=by
 have e1:decide ((0:Int)<=r)=Α:=decide_eq_true Λ;have e2:decide ((r:Int)<55296)=Α:=decide_eq_true Λ;refine χ 17 [.tmp 2] func204 ?_;generalize (r:Int)=x at*;refine aF iW e1 e2 ?_;trivial
def QI(r:Nat)(O:VH)(h1:57343<r)(h2:r<=1114111):VF Ε 204 [.v (.int .i32 r)] O (aC λm O'=>m=mb Α/\O'=O):=by
 have e1:decide ((0:Int)<=r)=Α:=decide_eq_true Λ;have e2:decide ((r:Int)<55296)=γ:=decide_eq_false Λ;have e3:decide ((57343:Int)<r)=Α:=decide_eq_true Λ;have e4:decide ((r:Int)<=1114111)=Α:=decide_eq_true Λ;refine χ 17 [.tmp 2] func204 ?_;generalize (r:Int)=x at*;refine gy iW e1 e2 e3 e4 ?_;trivial
def QJ(r:Nat)(O:VH)(hv:Utf8.valid r=Α):VF Ε 204 [.v (.int .i32 r)] O (aC λm O'=>m=mb Α/\O'=O):=by
 have h:r<55296\/(57343<r/\r<=1114111):=by simp[Utf8.valid]at hv;omega
 exact h.elim (QH r O) λh=>QI r O h.1 h.2
def DK(s:Ρ)(r:Nat)(O:VH)(hs:∀b∈s,b.toNat<128)(hl:Ζ s<=1000000)(hv:Utf8.valid r=Α):VF Ε 180 [.s s,.v (.int .i32 r)] O (aC λm O'=>∃z:Int,m=mi z/\(0<=z ↔ ∃b∈s,b.toNat=r)/\O.Ge O'):=by
 have hr:r<1114112:=by simp[Utf8.valid]at hv;omega
 refine χ 187 [.tmp 4] func180 ?_;by_cases h1:r<128
 ·refine ae @iW ?_;((have hc:(r:Int)=((UInt8.ofNat r).toNat:Int):=by rw[UInt8.toNat_ofNat'];omega);rw[hc];refine π (Bg s (UInt8.ofNat r) _) ?_;rintro _ O2 ⟨rfl,rfl⟩;refine ae iW ?_;refine⟨_,rfl,?_,VH.Ge.refl _⟩;rw[sb];constructor);intro h;exact⟨_,h,by rw[UInt8.toNat_ofNat'];omega⟩
  ·rintro⟨b,h2,h3⟩
   rwa [show UInt8.ofNat r=b from by rw[<-h3];simp]
 ·(have cZ:¬ ∃b∈s,b.toNat=r:=λ⟨b,h2,h3⟩=>by have:=hs b h2;omega);have hz:(0:Int)<= -1 ↔ ∃b∈s,b.toNat=r:=⟨λh=>Λ,λh=>absurd h cZ⟩
  by_cases h2:r=65533;refine ak iW @wi ?_;refine auV (dd.aar aa (l:=s) z21 rfl) ?_;rintro _ O2 ⟨rfl,rfl⟩;refine WL.sound aa ?_;refine ae iW ?_;refine WC.cj [] [175] (λp:Nat=>[]) (λp O'=>O.Ge O'/\p<=(Ζ s)/\O'.hp O.N=φ (.obj (.stringIter ⟨⟨s⟩⟩ p))) (λp=>(Ζ s) - p) (0) ?_ ?_;exact⟨(VH.Ge.refl O).push _,ai8 _,ζ _ _⟩;rintro p O3 ⟨bK,hp,hit⟩;refine ak iW @wi ?_;by_cases h3:p<Ζ s;have hb:=hs s[p] (ai_ h3);have hg:s.getD p 0=s[p]:=CV h3;have abb:=JX s p (by rw[hg];exact hb);rw[hg]at abb;refine auV (dd.afQ rfl hit h3) ?_;rintro _ O4 ⟨rfl,rfl⟩;refine WL.sound aa ?_;rw[abb];refine ak iW @wi ?_;exact aw.N (p+1) ⟨bK.set (Rn _) _,Λ,υ _ _ _⟩;refine auV (dd.afR rfl hit) ?_;rintro _ O4 ⟨rfl,rfl⟩;refine WL.sound aa ?_;refine ak iW @wi ?_;exact⟨_,rfl,hz,bK⟩
  ·refine ae iW ?_;refine π (QJ r _ hv) ?_;rintro _ O2 ⟨rfl,rfl⟩;refine ak iW @wi ?_;obtain⟨k,x,he,du,dA,hx⟩:=Y_ r Λ hv;refine VL.pure z10 z24 rfl rfl (d_.letter aa (r:=r) (by rw[PJ];rfl) z21 rfl) (WL.sound aa ?_);rw[he];((((have j6:(k++[x]).length=Ζ k+1:=by simp);have hkx:(k++[x])[Ζ k]?=φ x:=by simp);refine ak iW j6 ?_;refine WC.cj [9] [0,7,8] (λ_:Unit=>[mi (Ζ k)]) (λ_ O'=>O'=O2) (λ_=>0) (()) ?_ ?_);rfl);rintro⟨⟩ O3 rfl;by_cases h3:Ζ k<Ζ s
   ·have hb:=hs s[Ζ k] (ai_ h3);have hg:=Ro h3;generalize s[Ζ k]=c at*;have Za:c.toNat≠x.toNat:=Λ
    have aeJ:Lib.indexByte (s.drop (Ζ k+1)) x<0:=by
     rcases Int.lt_or_le (Lib.indexByte (s.drop (Ζ k+1)) x) 0 with h | h;exact h;have:=(sb _ _).1 h;have:=hs x (List.mem_of_mem_drop this);omega
    refine ae iW ?_;refine WC.reads ?_;refine bo iW hg hkx @aA ?_;refine WC.bM .any [(0,.au),(1,.au),(2,.au),(3,.au),(4,.au),(5,.au),(6,.au),(7,.one),(8,.au)] ?_;refine ak iW hkx ?_;refine π (Bg (s.drop (Ζ k+1)) x _) ?_;rintro _ O4 ⟨rfl,rfl⟩;generalize Lib.indexByte (s.drop (Ζ k+1)) x=z at*;refine ae iW ?_;exact⟨_,rfl,hz,VH.Ge.refl _⟩
   ·refine ae iW ?_;exact⟨_,rfl,hz,VH.Ge.refl _⟩
def aeg(r:Nat)(h:r<128):Utf8.valid r=Α:=by simp[Utf8.valid];omega
def rH(ch l:Ρ):Int:=if(l.takeWhile λb=> !ch.contains b).length<(Ζ l) then((l.takeWhile λb=> !ch.contains b).length:Int)else -1
def abc(ch l:Ρ)(p:Nat)(hp:p<Ζ l)(cZ:∀j,j<p->ch.contains (l.getD j 0)=γ)(h:ch.contains (l.getD p 0)=Α):rH ch l=p:=by
 have key:∀(l:Ρ)(p:Nat),p<(Ζ l)->(∀j,j<p->ch.contains (l.getD j 0)=γ)->ch.contains (l.getD p 0)=Α->(l.takeWhile λb=> !ch.contains b).length=p:=by
  intro l;induction l with
  | nil=>intro p hp;cases hp
  | cons a l ih=>
    intro p hp cZ h;cases p with
    | zero=>
      have h:ch.contains a=Α:=h;rw[auG (by show ¬(!ch.contains a)=Α;rw[h];decide)];rfl
    | succ p=>
      have h0:ch.contains a=γ:=cZ 0 Λ;rw[aul (by show(!ch.contains a)=Α;rw[h0];rfl),ai9,ih p (by simpa using hp) (λj hj=>cZ (j+1) Λ) h]
 unfold rH;rw[key l p hp cZ h,if_pos hp]
def abd(ch l:Ρ)(cZ:∀j,j<(Ζ l)->ch.contains (l.getD j 0)=γ):rH ch l= -1:=by
 have key:∀(l:Ρ),(∀j,j<(Ζ l)->ch.contains (l.getD j 0)=γ)->(l.takeWhile λb=> !ch.contains b).length=Ζ l:=by
  intro l;induction l with
  | nil=>intro _;rfl
  | cons a l ih=>
    intro cZ;have h0:ch.contains a=γ:=cZ 0 z10;rw[aul (by show(!ch.contains a)=Α;rw[h0];rfl),ai9,ai9,ih λj hj=>cZ (j+1) (by simpa using hj)]
 unfold rH;rw[key l cZ,if_neg Λ]
def DM(k:Nat)(O:VH):VF Ε 181 [mi k] O (aC λm O'=>m=mb (decide (8<k))/\O'=O):=by
 refine χ 5 [.tmp 2] func181 ?_;by_cases h:8<k;exact ak iW @h trivial;exact ak iW @h trivial
def QK(l ch:Ρ)(O:VH)(hl:Ζ l<=8)(hc:∀b∈ch,b.toNat<128)(fz:2<=Ζ ch)(en:Ζ ch<=1000):VF Ε 156 [.s l,.s ch] O (aC λm O'=>m=mi (rH ch l)/\O.Ge O'):=by
 have hne:(ch==[])=γ:=by cases ch with | nil=>simp at fz | cons a b=>rfl
 have wW:∀b:UInt8,128<=b.toNat->ch.contains b=γ:=λb hb=>by
  rw[Bool.eq_false_iff];intro h;have:=hc b (auj.1 h);omega
 refine χ 55 [.tmp 4] func156 ?_;refine ak iW @hne ?_;refine π (DM (Ζ l) _) ?_;rintro _ O2 ⟨rfl,rfl⟩;have h8:decide (8<Ζ l)=γ:=by simp;omega
 rw[h8];refine ak iW @wi ?_;refine auV (dd.aar aa (l:=l) z21 rfl) ?_;rintro _ O3 ⟨rfl,rfl⟩;refine WL.sound aa ?_;refine ae iW ?_;refine WC.cj [] [1,45] (λp:Nat=>[]) (λp O'=>O2.Ge O'/\O2.N<O'.N/\p<=(Ζ l)/\O'.hp O2.N=φ (.obj (.stringIter ⟨⟨l⟩⟩ p))/\∀j,j<p->ch.contains (l.getD j 0)=γ) (λp=>(Ζ l) - p) (0) ?_ ?_;exact⟨(VH.Ge.refl O2).push _,an3 _,ai8 _,ζ _ _,λj h=>Λ⟩;rintro p O3 ⟨bK,bI,hp,hit,cZ⟩;refine ak iW @wi ?_;by_cases h3:p<Ζ l
 ·refine auV (dd.afQ rfl hit h3) ?_;rintro _ O4 ⟨rfl,rfl⟩;refine WL.sound aa ?_;(have AW:=λx=>bK.set (Rn _) (x:=x));by_cases hb:(l.getD p 0).toNat<128
  ·have abb:=JX l p hb;rw[abb];have wC:=aeg _ hb;refine ak iW @wi ?_;refine π (DK ch (l.getD p 0).toNat _ hc Λ wC) ?_;rintro _ O4 ⟨z,rfl,hz,aV⟩;by_cases h0:0<=z
   ·obtain⟨b,cS,bV⟩:=hz.1 h0
    have UQ:ch.contains (l.getD p 0)=Α:=by
     rw[<-UInt8.toNat_inj.1 bV];exact auj.2 cS
    refine ae iW ?_;rw[abc ch l p h3 cZ UQ];exact⟨rfl,(AW _).trans aV⟩
   ·have UQ:ch.contains (l.getD p 0)=γ:=by
     rw[Bool.eq_false_iff];intro h;exact h0 (hz.2 ⟨_,auj.1 h,rfl⟩)
    refine ae iW ?_;refine aw.N (p+1) ⟨(AW _).trans aV,abT bI aV.N,Λ,(aV.hp _ bI).trans (υ _ _ _),λj hj=>?_⟩;rcases Nat.lt_or_eq_of_le (Nat.le_of_lt_succ hj)with h | h;exact cZ j h;rw[h];exact UQ
  ·obtain⟨d1,d2,d3,d4,d5⟩:=Y9 l p h3 Λ;generalize Utf8.decode ⟨⟨l⟩⟩ p=cw at*;obtain⟨c,wd⟩:=cw;dsimp only at d1 d2 d3 d4 d5;refine ak iW @wi ?_;refine π (DK ch c _ hc Λ d2) ?_;rintro _ O4 ⟨z,rfl,hz,aV⟩
   have h0:z<0:=by
    rcases Int.lt_or_le z 0 with h | h;exact h;obtain⟨b,cS,bV⟩:=hz.1 h;have:=hc b cS;omega
   refine ae iW ?_;refine aw.N (p+wd) ⟨(AW _).trans aV,abT bI aV.N,Λ,(aV.hp _ bI).trans (υ _ _ _),λj hj=>?_⟩;rcases auA j p with h | h;exact cZ j h;exact wW _ (d5 j h hj)
 ·refine auV (dd.afR rfl hit) ?_;rintro _ O4 ⟨rfl,rfl⟩;refine WL.sound aa ?_;refine ak iW @wi ?_;rw[abd ch l λj hj=>cZ j Λ];exact⟨rfl,bK⟩
def tyA:iv Ε 303=φ ⟨.array 256 4,256,256,Μ 256 (.v (.bool γ))⟩:=by kernel_rfl
def arF:gd (Μ 256 (.v (.bool γ)))=γ:=rfl
def qB(ch:Ρ):Η:=(List.range 256).map λb=>.v (.bool (ch.any λc=>c.toNat==b))
def vt(ch:Ρ):(qB ch).length=256:=by simp[qB]
def ao8:qB []=Μ 256 (.v (.bool γ)):=by
 apply auJ;intro i;simp only[qB,List.any_nil,asl,List.getElem?_replicate];rcases auA i 256 with h | h;rw[auB h,if_pos h];rfl;rw[auv z34,if_neg Λ];rfl
def NY(ch:Ρ):(qB ch).all dF=Α:=by
 rw[List.all_eq_true];intro m hm;simp only[qB,aja]at hm;obtain⟨b,_,rfl⟩:=hm;rfl
def ahL(ch:Ρ)(c:UInt8):(qB ch)[c.toNat]?=φ (.v (.bool (ch.contains c))):=by
 have hc:=c.toNat_lt;simp only[qB,asl,auB (show c.toNat<256 from hc),auy,Option.some.injEq,MV.v.injEq,Value.bool.injEq];rw[aum,auj,aut];constructor;rintro⟨x,h1,h2⟩;have e:x=c:=UInt8.toNat_inj.1 (by simpa using h2);rw[<-e];exact h1;intro h;exact⟨c,h,z10⟩
def ahM(ch:Ρ)(c:UInt8):(qB ch).set c.toNat (.v (.bool Α))=qB (ch++[c]):=by
 have hc:=c.toNat_lt;apply auJ;intro i;rw[List.getElem?_set,vt];simp only[qB,asl];rcases auA i 256 with h | h;rw[auB h];by_cases e:c.toNat=i;subst e;simp[h];simp[e];rw[auv z34,if_neg Λ];rfl
def UR(cs ds:Η)(h:Ζ cs=Ζ ds):db cs 0 ds=ds:=by
 have:=om [] ds cs;simp only[auM,apH]at this;rw[this,aus Λ,an4 Λ,auO]
def zb:=ahB iW<|ahB @tyA<|ahB @arF<|ahB @Sj @Si
def Zb(ch:Ρ)(O:VH)(hc:∀b∈ch,b.toNat<128)(hl:Ζ ch<=1000):VF Ε 182 [.s ch] O (aC λm O'=>m= .tuple [.agg (qB ch),mb Α]/\O.Ge O'):=by
 have hlen:=vt;refine χ 21 [.cell 2 303,.tmp 3] func182 ?_;refine ae zb ?_;refine WC.cj [4] [0,2] (λi:Nat=>[mi i]) (λi O'=>O.Ge O'/\i<=(Ζ ch)/\O'.hp O.N=φ (.cells (qB (ch.take i)))) (λi=>(Ζ ch) - i) (0) ?_ ?_;exact⟨(VH.Ge.refl O).push _,ai8 _,by rw[List.take_zero,ao8];exact ζ _ _⟩;rintro i O2 ⟨bK,hi,hk⟩;by_cases h2:i<Ζ ch;have hb:=hc ch[i] (ai_ h2);have hg:=Ro h2;have hs:=ahM (ch.take i) ch[i];rw[<-bN _ _ h2]at hs;have KZ:=vt (ch.take i);generalize ch[i]=c at*;refine gy zb hg @aA hk KZ ?_;refine aw.N (i+1) ⟨bK.set (Rn _) _,Λ,by rw[υ, <-hs]⟩
 ·obtain rfl:i=Ζ ch:=Λ
  rw[ats]at hk;have KZ:=vt ch;have fX:=NY ch;have Th:=UR (qB ch) (qB ch) rfl;have fP:(qB ch).take 256=qB ch:=aus Λ;generalize qB ch=cs at*;refine Em zb hk KZ fX Th fP ?_;exact bK.set (Rn _) _
def akQ(ch:Ρ)(c:UInt8)(k:Nat)(O:VH)(hk:O.hp k=φ (.cells (qB ch))):VF Ε 183 [.p k 0,ef c] O (aC λm O'=>m=mb (ch.contains c)/\O'=O):=by
 have hc:=c.toNat_lt;have hg:=ahL ch c;have hl:=vt ch;refine χ 10 [.tmp 4] func183 ?_;exact gy zb @aA hk hg @hl trivial
def QL(l ch:Ρ)(O:VH)(hl:8<Ζ l)(ph:Ζ l<=maxLen)(hc:∀b∈ch,b.toNat<128)(fz:2<=Ζ ch)(en:Ζ ch<=1000):VF Ε 156 [.s l,.s ch] O (aC λm O'=>m=mi (rH ch l)/\O.Ge O'):=by
 have hne:(ch==[])=γ:=by cases ch with | nil=>simp at fz | cons a b=>rfl
 have hm:(Ζ l:Int)<=9223372036854775807:=by simp[maxLen]at ph;omega
 have fX:=NY ch;have KY:=vt ch;have Th:=UR (Μ 256 (.v (.bool γ))) (qB ch) (by rw[KY,List.length_replicate]);have GQ:(Μ 256 (MV.v (Value.bool γ))).length=256:=List.length_replicate;refine χ 55 [.tmp 4] func156 ?_;refine ak zb @hne ?_;refine π (DM (Ζ l) _) ?_;rintro _ O2 ⟨rfl,rfl⟩;have h8:decide (8<Ζ l)=Α:=by simp;omega
 rw[h8];refine ae zb ?_;refine π (Zb ch _ hc en) ?_;rintro _ O3 ⟨rfl,aB⟩;refine gy zb @wi KY fX Th ?_;have ea:=aB.N
 have ao9:∀x,O2.Ge ((O3.push x).set O3.N (.cells (qB ch)))/\O3.N<((O3.push x).set O3.N (.cells (qB ch))).N/\0<=(Ζ l)/\((O3.push x).set O3.N (.cells (qB ch))).hp O3.N=φ (.cells (qB ch))/\∀j,j<0->ch.contains (l.getD j 0)=γ:=λx=>
  ⟨(aB.push _).set ea _,an3 _,ai8 _,υ _ _ _,λj h=>Λ⟩
 have ao_:=λc O (h:O.hp O3.N=φ (.cells (qB ch)))=>akQ ch c O3.N O h
 clear Th fX KY GQ;generalize Μ 256 (MV.v (Value.bool γ))=rep at*;generalize qB ch=A at*;refine WC.cj [8] [0,6] (λp:Nat=>[mi p]) (λp O'=>O2.Ge O'/\O3.N<O'.N/\p<=(Ζ l)/\O'.hp O3.N=φ (.cells A)/\∀j,j<p->ch.contains (l.getD j 0)=γ) (λp=>(Ζ l) - p) (0) ?_ ?_;exact ao9 _;rintro p O4 ⟨bK,bI,hp,hit,cZ⟩;by_cases h3:p<Ζ l;have hg:=Ro h3;have SE:l.getD p 0=l[p]:=CV h3;have wW:=abc ch l p h3 cZ;rw[SE]at wW;refine ak zb hg ?_;refine π (ao_ l[p] _ hit) ?_;rintro _ O5 ⟨rfl,rfl⟩;cases hb:ch.contains l[p];refine ae zb ?_;refine aw.N (p+1) ⟨bK,bI,Λ,hit,λj hj=>?_⟩;rcases Nat.lt_or_eq_of_le (Nat.le_of_lt_succ hj)with h | h;exact cZ j h;rw[h,SE];exact hb;refine ae zb ?_;rw[wW hb];exact⟨rfl,bK⟩;refine ae zb ?_;rw[abd ch l λj hj=>cZ j Λ];exact⟨rfl,bK⟩
def US(l ch:Ρ)(O:VH)(ph:Ζ l<=maxLen)(hc:∀b∈ch,b.toNat<128)(fz:2<=Ζ ch)(en:Ζ ch<=1000):VF Ε 156 [.s l,.s ch] O (aC λm O'=>m=mi (rH ch l)/\O.Ge O'):=by
 rcases auA 8 (Ζ l) with h | h;exact QL l ch O h ph hc fz en;exact QK l ch O h hc fz en
def dJ:=ahB gC<|ahB aqp<|ahB aqo<|ahB aqf SV
def cF(s:Ρ):UInt8:=s.headD 0
def jn(O:VH)(b:Nat)(s:Ρ):Prop:=b<O.N/\O.hp b=φ (.cells [.s s])
def jn.set{t:Ρ}(h:jn O b s):jn (O.set b (.cells [.s t])) b t:=⟨h.1,υ _ _ _⟩
def jn.bQ(h:jn O b s)(g:O.Ge O'):jn O' b s:=⟨abT h.1 g.N,(g.hp _ h.1).trans h.2⟩
def aL.Zc(h:O.Ge O'):aL O q O':=(aL.dG h).any
def QN(h:jn O b s):VF Ε 102 [.p b 0] O (aC λm O'=>m=ef (cF s)/\O'=O):=by
 obtain⟨bI,hk⟩:=h;refine χ 13 [.tmp 2] func102 ?_;cases s with
 | nil=>
   have hn:(([]:Ρ)==[])=Α:=rfl;refine aF dJ hk @hn ?_;rfl
 | cons c s=>
   have hn:((c::s)==[])=γ:=rfl;refine aF dJ hk @hn ?_;rfl
def Aj(h:jn O b s)(hs:Ζ s<=maxLen):VF Ε 104 [.p b 0] O (aC λm O'=>aL O (φ b) O'/\jn O' b (s.dropWhile ib)):=by
 have hm:(Ζ s:Int)<=9223372036854775807:=by simp[maxLen]at hs;omega
 refine χ 23 [] func104 ?_;refine ae dJ ?_;refine WC.cj [] [0] (λt:Ρ=>[]) (λt O'=>aL O (φ b) O'/\jn O' b t/\(Ζ t)<=(Ζ s)/\s.dropWhile ib=t.dropWhile ib) (λt=>Ζ t) (s) ?_ ?_;exact⟨aL.refl _ _,h,Rn _,rfl⟩
 rintro t O2 ⟨hu,hr,xG,hd⟩;rw[hd];have hk:=hr.2;cases t with
 | nil=>
   have hn:(([]:Ρ)==[])=Α:=rfl;refine aF dJ hk @hn ?_;exact⟨hu,hr⟩
 | cons c t=>
   have hn:((c::t)==[])=γ:=rfl;simp only[ai9]at xG;refine aF dJ hk @hn ?_;refine π (pB c _) ?_;rintro _ O3 ⟨rfl,rfl⟩;cases hb:ib c;refine ae dJ ?_;rw[List.dropWhile_cons_of_neg (by simp[hb])];exact⟨hu,hr⟩;refine ak dJ hk ?_;exact aw.N t ⟨hu.trans aL.set,hr.set,Λ,by rw[List.dropWhile_cons_of_pos hb]⟩ (hm:=z10)
def Hu:MV:=.iface 226 (.agg [])
def bdF:vB (iv Ε) 226 []=φ (.agg []):=by kernel_rfl
def ifF :BF 226 (iv Ε 226) (φ p)=φ (.iface 226 p):=by rw[alN.1];rfl
def wo{O:VH}{b:Nat}{s:Ρ}(of:Ρ)(h:jn O b s)(hs:Ζ s<=maxLen)(Yw:of.contains 0=γ):VF Ε 103 [.p b 0,.s of] O λr O'=>aL O (φ b) O'/\match r with
  | .ret m=>m=ef (cF s)/\of.contains (cF s)=Α/\jn O' b (s.drop 1)
  | .panic m=>m=Hu/\of.contains (cF s)=γ:=by
 have hm:(Ζ s:Int)<=9223372036854775807:=by simp[maxLen]at hs;omega
 refine χ 29 [.tmp 4] func103 ?_;refine ae dJ ?_;refine π (QN h) ?_;rintro _ O2 ⟨rfl,rfl⟩;have hk:=h.2;by_cases h0:(cF s).toNat=0;have hz:cF s=0:=UInt8.toNat_inj.1 h0;refine SO dJ @aA h0 @wi @wd @bdF @ifF ?_;refine VL.panic rfl rfl rfl ?_;refine ae @wd ?_;exact⟨aL.refl _ _,rfl,by rw[hz];exact Yw⟩
 ·refine aF dJ @aA h0 ?_;refine auV (agj aa (el:=5) (l:=[cF s]) rfl z30 z21 z44 rfl rfl) ?_;rintro _ O3 ⟨rfl,rfl⟩;refine WL.sound aa ?_;refine ae dJ ?_;refine π (vU of (cF s) _) ?_;rintro _ O4 ⟨rfl,rfl⟩;cases hc:of.contains (cF s);refine Em dJ @aA @wi @wd @bdF @ifF ?_;refine VL.panic rfl rfl rfl ?_;refine ae @wd ?_;exact⟨aL.refl _ _,rfl⟩
  ·(have hne:s≠[]:=λe=>by rw[e]at h0;exact h0 rfl);have arG:0<Ζ s:=List.length_pos_iff.2 hne;refine ak dJ hk ?_;exact⟨aL.set,h.set⟩
def oP:Ρ:=[91,93,40,41,44,32,9,10,13]
def gH(s:Ρ):Ρ×Ρ:=
 ((s.dropWhile ib).takeWhile λb=> !oP.contains b,((s.dropWhile ib).dropWhile λb=> !oP.contains b).dropWhile ib)
def sE(s:Ρ):(gH s).1.length<=(Ζ s)/\(gH s).2.length<=Ζ s:=
 ⟨aev (nc _ _) (k9 _ _),aev (k9 _ _) (aev (k9 _ _) (k9 _ _))⟩
def UT(p:UInt8->Bool):∀l:Ρ,l.take (l.takeWhile p).length=l.takeWhile p
 | []=>rfl
 | c::s=>by
   cases h:p c;rw[auG (by simp[h])];rfl;rw[aul h,ai9,List.take_succ_cons,UT p s]
def JY(h:jn O b s)(hs:Ζ s<=maxLen):VF Ε 129 [.p b 0] O (aC λm O'=>m= .s (gH s).1/\aL O (φ b) O'/\jn O' b (gH s).2):=by
 have hl:=k9 ib s;unfold gH;refine ω 37 [.tmp 2] func129 ?_;refine κ dJ ?_;refine θ ?_;refine ae dJ ?_;refine π (Aj h hs) ?_;rintro _ O2 ⟨dZ,fR⟩;generalize s.dropWhile ib=t at*;have bC:=fR.2;have htw:=nc (λb=> !oP.contains b) t;have By:=UT (λb=> !oP.contains b) t;have htd:=IS (λb=> !oP.contains b) t;have rZ:=k9 (λb=> !oP.contains b) t;have hta:=List.takeWhile_append_dropWhile (p:=λb=> !oP.contains b) (l:=t);have Gg:rH oP t=if(t.takeWhile λb=> !oP.contains b).length<(Ζ t) then((t.takeWhile λb=> !oP.contains b).length:Int)else -1:=rfl
 generalize (t.takeWhile λb=> !oP.contains b)=w at*;generalize (t.dropWhile λb=> !oP.contains b)=r at*;have bI:Ζ t<=maxLen:=aev hl hs;have hm:(Ζ t:Int)<=9223372036854775807:=by simp[maxLen]at bI;omega
 refine ae dJ ?_;refine θ ?_;refine ak dJ bC ?_;refine π (US t oP _ bI z12 z12 z12) ?_;rintro _ O3 ⟨rfl,aB⟩;have gu:=fR.bQ aB;have dA:=gu.2;have cx:=dZ.trans (aL.Zc aB);generalize rH oP t=z at*;refine ae dJ ?_;refine WC.join aa [0,3] (λn:Nat=>[.p b 0,mi n]) (λn O'=>O'=O3/\n=Ζ w) ?_ ?_;by_cases h1:Ζ w<Ζ t;rw[if_pos h1]at Gg;subst Gg;refine ak dJ dA ?_;exact aE.mk (Ζ w) ⟨rfl,rfl⟩;rw[if_neg h1]at Gg;subst Gg;refine ak dJ dA ?_;exact aE.mk (Ζ t) ⟨rfl,Λ⟩;rintro n Oz ⟨eO,rfl⟩;rw[eO];clear eO Oz;refine ι (bo dJ dA By htd ?_);have GU:jn (O3.set b (.cells [.s r])) b r:=gu.set;refine π (Aj GU (aev rZ bI)) ?_;rintro _ O5 ⟨iJ,nU⟩;refine ae dJ ?_;exact⟨(cx.trans aL.set).trans iJ,nU⟩
abbrev En:=Bool×Ρ×Bool
def iS(e:En):Η:=[mb e.1,.s e.2.1,mb e.2.2]
def NZ(v:Ρ)(c:Bool):En:=if v==[]then(γ,[],γ)else(Α,v,c)
def fy(x:En×En):Η:=iS x.1++iS x.2
def QO(v:Ρ)(c:Bool)(O:VH):VF Ε 130 [.s v,mb c] O (aC λm O'=>m= .agg (iS (NZ v c))/\O.Ge O'):=by
 have bK:=λx=>(VH.Ge.refl O).push x
 unfold NZ;refine χ 11 [.cell 4 166] func130 ?_;cases h:v==[];refine ak dJ @h ?_;exact⟨rfl,(bK _).set (Rn _) _⟩;refine ak dJ @h ?_;exact⟨rfl,(bK _).set (Rn _) _⟩
def Hb(s:Ρ):Option ((En×En)×Ρ):=
 if([91,40]:Ρ).contains (cF s)then
  if cF (gH (s.drop 1)).2==93&&cF s==91 then φ (((Α,(gH (s.drop 1)).1,Α),(Α,(gH (s.drop 1)).1,Α)),(gH (s.drop 1)).2.drop 1)
  else if([44]:Ρ).contains (cF (gH (s.drop 1)).2)then
   if([93,41]:Ρ).contains (cF (gH ((gH (s.drop 1)).2.drop 1)).2)then
    φ ((NZ (gH (s.drop 1)).1 (cF s==91),NZ (gH ((gH (s.drop 1)).2.drop 1)).1 (cF (gH ((gH (s.drop 1)).2.drop 1)).2==93)),(gH ((gH (s.drop 1)).2.drop 1)).2.drop 1)
   else Β
  else Β
 else Β
def jn.push(h:jn O b s)(x:bO):jn (O.push x) b s:=h.bQ ((VH.Ge.refl O).push x)
def jn.other(h:jn O b s)(x:bO)(hk:b≠k):jn (O.set k x) b s:=⟨h.1,(τ _ _ hk).trans h.2⟩
def aL.abe(h:aL O q O1)(h2:aL O1 (φ k) O')(hk:O.N<=k):aL O q O':=
 ⟨aev h.N h2.N,λi hi hq=>(h2.hp i (abT hi h.N) z14).trans (h.hp i hi hq)⟩
def aL.apa{x:bO}(h:aL O q O1):aL O q (O1.push x):=h.trans aL.push.any
def aL.fc{q:Nat}(h:aL O (φ q) O1)(hk:k<O.N)(hq:q≠k){x:bO}(hx:O.hp k=φ x):O1.hp k=φ x:=(h.hp k hk z14).trans hx
def zd(c k:UInt8):((c.toNat:Int)==(k.toNat:Int))=(c==k):=by
 rw[aum];simp only[beq_iff_eq];exact⟨λe=>UInt8.toNat_inj.1 Λ,λe=>by rw[e]⟩
def UU{O:VH}{b:Nat}{s:Ρ}(h:jn O b s)(hs:Ζ s<=maxLen):VF Ε 105 [.p b 0] O λr O'=>aL O (φ b) O'/\match r with
  | .ret m=>∃x rest,Hb s=φ (x,rest)/\m= .agg (fy x)/\jn O' b rest
  | .panic m=>m=Hu/\Hb s=Β:=by
 have hm:(Ζ s:Int)<=9223372036854775807:=by simp[maxLen]at hs;omega
 have pP:Hb s=_:=rfl;conv at pP=>rhs;unfold Hb
 refine χ 41 [.cell 2 168] func105 ?_;have hbO:b<O.N:=h.1;have h1:=h.push (.cells [.v (.bool γ),.s [],.v (.bool γ),.v (.bool γ),.s [],.v (.bool γ)]);have ry:aL O (φ b) (O.push (.cells [.v (.bool γ),.s [],.v (.bool γ),.v (.bool γ),.s [],.v (.bool γ)])):=aL.push.any;have du:=ζ O (.cells [.v (.bool γ),.s [],.v (.bool γ),.v (.bool γ),.s [],.v (.bool γ)]);have dq:O.N<(O.push (.cells [.v (.bool γ),.s [],.v (.bool γ),.v (.bool γ),.s [],.v (.bool γ)])).N:=an3 _;refine ae dJ ?_;generalize O.push (.cells [.v (.bool γ),.s [],.v (.bool γ),.v (.bool γ),.s [],.v (.bool γ)])=O1 at*;refine ah.p (wo [91,40] h1 hs rfl) ?_ ?_;rotate_left;rintro m O2 ⟨hu,rfl,cZ⟩;rw[if_neg (by rw[cZ];simp)]at pP;refine ae @wd ?_;exact⟨ry.trans hu,pP⟩;rintro m O2 ⟨dZ,rfl,hc,h2⟩;rw[if_pos hc]at pP;have bC:=dZ.fc dq Λ du;have amt:=ry.trans dZ;have eG:=abT dq dZ.N;clear dZ ry du h1 dq;have ph:(s.drop 1).length<=maxLen:=by rw[an7];omega
 have qu:=sE (s.drop 1);refine ak dJ bC ?_;refine π (JY h2 ph) ?_;rintro _ O3 ⟨rfl,cx,h3⟩;have dA:=cx.fc eG Λ bC;have UW:=amt.trans cx;have ea:=abT eG cx.N;clear amt cx bC eG h2;generalize gH (s.drop 1)=ws at*;obtain⟨lo,s2⟩:=ws;dsimp only at h3 pP qu;have Dm:Ζ s2<=maxLen:=aev qu.2 ph;generalize cF s=c at*;refine ae dJ ?_;refine Ω (QN h3) ?_;cases hA:cF s2==93&&c==91
 ·rw[hA,if_neg z10]at pP
  have hA2:(cF s2).toNat=93->c.toNat≠91:=λe1 e2=>by
   have h1:cF s2=93:=UInt8.toNat_inj.1 e1;have h2:c=91:=UInt8.toNat_inj.1 e2;rw[h1,h2]at hA;exact absurd hA z12
  have UQ:((c.toNat:Int)==91)=(c==91):=zd c 91;by_cases e1:(cF s2).toNat=93;(·have e2:=hA2 e1;refine bo dJ @aA e1 e2 ?_;refine ah.p (wo [44] h3 Dm rfl) ?_ ?_;rotate_left;rintro m O4 ⟨hu,rfl,cZ⟩;rw[if_neg (by rw[cZ];simp)]at pP;refine ae @wd ?_;exact⟨UW.trans hu,pP⟩;rintro m O4 ⟨cC,rfl,ff,h4⟩;rw[if_pos ff]at pP;have fJ:=cC.fc ea Λ dA;have fe:=abT ea cC.N;have UX:=UW.trans cC;(((have QF:(s2.drop 1).length<=maxLen:=by rw[an7];omega);have Gi:=sE (s2.drop 1);refine ae dJ ?_;refine π (JY h4 QF) ?_;rintro _ O5 ⟨rfl,iJ,h5⟩;have i_:=iJ.fc fe Λ fJ;have ie:=abT fe iJ.N;have UY:=UX.trans iJ;generalize gH (s2.drop 1)=ws at*;obtain⟨hi,s3⟩:=ws;dsimp only at h5 pP Gi;have Jp:Ζ s3<=maxLen:=aev Gi.2 QF;refine ae dJ ?_;refine ah.p (wo [93,41] h5 Jp rfl) ?_ ?_;rotate_left);rintro m O6 ⟨hu,rfl,cZ⟩;rw[if_neg (by rw[cZ];simp)]at pP;refine ae @wd ?_;exact⟨UY.trans hu,pP⟩);rintro m O6 ⟨gP,rfl,xt,h6⟩;rw[if_pos xt]at pP;have qP:=gP.fc ie Λ i_;have mQ:=abT ie gP.N;have ahN:=UY.trans gP;have hsb:(((cF s3).toNat:Int)==93)=(cF s3==93):=zd (cF s3) 93;generalize cF s3=d at*;refine bo dJ @aA UQ hsb ?_;refine π (QO lo (c==91) _) ?_;rintro _ O7 ⟨rfl,dB⟩;refine bo dJ @aA UQ hsb ?_;refine π (QO hi (d==93) _) ?_;rintro _ O8 ⟨rfl,gR⟩;have vp:=dB.trans gR;have yR:=(vp.hp _ mQ).trans qP;have h8:=h6.bQ vp;simp(disch:=first | omega | (simp only[ds]<;>omega) | fail) only[wk,wu,aT,ag,aO,y0,y10,y11,y12,y14,y16,y18,reduceIte,dJ,yR,iS];refine⟨?_,_,_,pP,rfl,h8.other _ Λ⟩;exact(ahN.trans (aL.Zc vp)).abe aL.set (Rn _))
  ·refine aF dJ @aA e1 ?_;refine ah.p (wo [44] h3 Dm rfl) ?_ ?_;rotate_left;rintro m O4 ⟨hu,rfl,cZ⟩;rw[if_neg (by rw[cZ];simp)]at pP;refine ae @wd ?_;exact⟨UW.trans hu,pP⟩;rintro m O4 ⟨cC,rfl,ff,h4⟩;rw[if_pos ff]at pP;have fJ:=cC.fc ea Λ dA;have fe:=abT ea cC.N;have UX:=UW.trans cC;(((have QF:(s2.drop 1).length<=maxLen:=by rw[an7];omega);have Gi:=sE (s2.drop 1);refine ae dJ ?_;refine π (JY h4 QF) ?_;rintro _ O5 ⟨rfl,iJ,h5⟩;have i_:=iJ.fc fe Λ fJ;have ie:=abT fe iJ.N;have UY:=UX.trans iJ;generalize gH (s2.drop 1)=ws at*;obtain⟨hi,s3⟩:=ws;dsimp only at h5 pP Gi;have Jp:Ζ s3<=maxLen:=aev Gi.2 QF;refine ae dJ ?_;refine ah.p (wo [93,41] h5 Jp rfl) ?_ ?_;rotate_left);rintro m O6 ⟨hu,rfl,cZ⟩;rw[if_neg (by rw[cZ];simp)]at pP;refine ae @wd ?_;exact⟨UY.trans hu,pP⟩);rintro m O6 ⟨gP,rfl,xt,h6⟩;rw[if_pos xt]at pP;have qP:=gP.fc ie Λ i_;have mQ:=abT ie gP.N;have ahN:=UY.trans gP;have hsb:(((cF s3).toNat:Int)==93)=(cF s3==93):=zd (cF s3) 93;generalize cF s3=d at*;refine bo dJ @aA UQ hsb ?_;refine π (QO lo (c==91) _) ?_;rintro _ O7 ⟨rfl,dB⟩;refine bo dJ @aA UQ hsb ?_;refine π (QO hi (d==93) _) ?_;rintro _ O8 ⟨rfl,gR⟩;have vp:=dB.trans gR;have yR:=(vp.hp _ mQ).trans qP;have h8:=h6.bQ vp;simp(disch:=first | omega | (simp only[ds]<;>omega) | fail) only[wk,wu,aT,ag,aO,y0,y10,y11,y12,y14,y16,y18,reduceIte,dJ,yR,iS];refine⟨?_,_,_,pP,rfl,h8.other _ Λ⟩;exact(ahN.trans (aL.Zc vp)).abe aL.set (Rn _)
 ·rw[hA,if_pos rfl]at pP;rw[apE]at hA;((((((((have e1:cF s2=93:=by simpa using hA.1);have e2:c=91:=by simpa using hA.2);have e1':(cF s2).toNat=93:=by rw[e1];rfl);have e2':c.toNat=91:=by rw[e2];rfl);refine bo dJ @aA e1' e2' ?_;refine ah.p (wo [93] h3 Dm rfl) ?_ ?_;rotate_left);rintro m O4 ⟨_,_,cZ⟩;rw[e1]at cZ;exact absurd cZ z12);rintro m O4 ⟨cC,rfl,_,h4⟩;have fJ:=cC.fc ea Λ dA;have fe:=abT ea cC.N;have UX:=UW.trans cC;refine ak dJ fJ ?_;refine⟨?_,_,_,pP,rfl,?_⟩);exact((UX.apa).abe aL.set Λ).abe aL.set (Rn _));exact((h4.push _).other _ Λ).other _ Λ
def ze(e:En):Bool:=if e.1 then rj e.2.1 else(e.2.1==[]&& !e.2.2)
def qc(lo hi:En):Bool:= !lo.1|| !hi.1||(decide (bt lo.2.1 hi.2.1<0)||(bt lo.2.1 hi.2.1==0&&lo.2.2&&hi.2.2))
def Hv(hi lo:En):Bool:=hi.1&&lo.1&&(decide (bt hi.2.1 lo.2.1<0)||(bt hi.2.1 lo.2.1==0&& !(hi.2.2&&lo.2.2)))
def vu(e:En)(O:VH)(he:Ζ e.2.1<=10000):VF Ε 131 [.agg (iS e)] O (aC λm O'=>m=mb (ze e)/\O.Ge O'):=by
 obtain⟨h,v,c⟩:=e;have bK:=(VH.Ge.refl O).push (.cells [.v (.bool h),.s v,.v (.bool c)]);have hl:Ζ v<=maxLen:=aev he z12;unfold ze;dsimp only at he ⊢;refine χ 15 [.tmp 2] func131 ?_;simp(disch:=first | omega | (simp only[ds]<;>omega) | fail) only[wk,wu,aT,ag,aO,y0,y10,y11,y12,y14,y16,y18,reduceIte,dJ,iS,Mx];refine VL.ud aa (bb:=(h==γ)&&((v==[])&&((c==γ)&&Α))) (b:=(h==γ)&&((v==[])&&((c==γ)&&Α))) z10 z24 (.inl ⟨rfl,rfl⟩) z11 z11 rfl rfl rfl rfl ?_;cases h
 ·cases hv:v==[]<;>cases c
  all_goals
   simp(disch:=first | omega | (simp only[ds]<;>omega) | fail) only[wk,wu,aT,ag,aO,y0,y10,y11,y12,y14,y16,y18,reduceIte,dJ,BEq.rfl,beq_self_eq_true,hv];exact bK
 ·refine ae dJ ?_;refine π (P4 v _ hl) ?_;rintro _ O2 ⟨rfl,ax⟩;refine ae dJ ?_;exact bK.trans ax
def wq(lo hi:En)(O:VH)(gT:Ζ lo.2.1<=10000)(mV:Ζ hi.2.1<=10000):VF Ε 132 [.agg (iS lo),.agg (iS hi)] O (aC λm O'=>m=mb (qc lo hi)/\O.Ge O'):=by
 unfold qc;obtain⟨h1,v1,c1⟩:=lo;obtain⟨h2,v2,c2⟩:=hi;have bK:=((VH.Ge.refl O).push (.cells [.v (.bool h1),.s v1,.v (.bool c1)])).push (.cells [.v (.bool h2),.s v2,.v (.bool c2)]);have du:((O.push (.cells [.v (.bool h1),.s v1,.v (.bool c1)])).push (.cells [.v (.bool h2),.s v2,.v (.bool c2)])).hp O.N=φ (.cells [.v (.bool h1),.s v1,.v (.bool c1)]):=(VH.jg _ _ (by show O.N≠O.N+1;omega)).trans (ζ O _);have bC:((O.push (.cells [.v (.bool h1),.s v1,.v (.bool c1)])).push (.cells [.v (.bool h2),.s v2,.v (.bool c2)])).hp (O.N+1)=φ (.cells [.v (.bool h2),.s v2,.v (.bool c2)]):=ζ _ _;have hn:((O.push (.cells [.v (.bool h1),.s v1,.v (.bool c1)])).push (.cells [.v (.bool h2),.s v2,.v (.bool c2)])).N=O.N+2:=rfl;dsimp only at gT mV ⊢;refine χ 33 [.tmp 4] func132 ?_;cases h1;simp(disch:=first | omega | (simp only[ds]<;>omega) | fail) only[wk,wu,aT,ag,aO,y0,y10,y11,y12,y14,y16,y18,reduceIte,dJ,iS];exact bK
 cases h2;simp(disch:=first | omega | (simp only[ds]<;>omega) | fail) only[wk,wu,aT,ag,aO,y0,y10,y11,y12,y14,y16,y18,reduceIte,dJ,iS];exact bK
 (simp(disch:=first | omega | (simp only[ds]<;>omega) | fail) only[wk,wu,aT,ag,aO,y0,y10,y11,y12,y14,y16,y18,reduceIte,dJ,iS];generalize ((O.push (.cells [.v (.bool Α),.s v1,.v (.bool c1)])).push (.cells [.v (.bool Α),.s v2,.v (.bool c2)]))=OX at*;refine π (lJ v1 v2 _ gT mV) ?_;rintro _ O3 ⟨rfl,aB⟩;have zf:=aB.at du;have zh:=aB.at bC;have EY:=bK.trans aB;generalize bt v1 v2=n at*;by_cases e1:n<0);refine bo dJ zf zh e1 ?_;exact EY
 ·by_cases e2:n=0;subst e2;cases c1;refine bo dJ zf zh auK ?_;exact EY;refine bo dJ zf zh auK ?_;exact EY
  ·have e3:(n==0)=γ:=by simpa using e2
   refine gy dJ zf zh e1 e3 ?_;exact EY
def Zd(lo hi:En)(O:VH)(gT:Ζ lo.2.1<=10000)(mV:Ζ hi.2.1<=10000):VF Ε 133 [.agg (iS lo),.agg (iS hi)] O (aC λm O'=>m=mb (Hv lo hi)/\O.Ge O'):=by
 unfold Hv;obtain⟨h1,v1,c1⟩:=lo;obtain⟨h2,v2,c2⟩:=hi;have bK:=((VH.Ge.refl O).push (.cells [.v (.bool h1),.s v1,.v (.bool c1)])).push (.cells [.v (.bool h2),.s v2,.v (.bool c2)]);have du:((O.push (.cells [.v (.bool h1),.s v1,.v (.bool c1)])).push (.cells [.v (.bool h2),.s v2,.v (.bool c2)])).hp O.N=φ (.cells [.v (.bool h1),.s v1,.v (.bool c1)]):=(VH.jg _ _ (by show O.N≠O.N+1;omega)).trans (ζ O _);have bC:((O.push (.cells [.v (.bool h1),.s v1,.v (.bool c1)])).push (.cells [.v (.bool h2),.s v2,.v (.bool c2)])).hp (O.N+1)=φ (.cells [.v (.bool h2),.s v2,.v (.bool c2)]):=ζ _ _;have hn:((O.push (.cells [.v (.bool h1),.s v1,.v (.bool c1)])).push (.cells [.v (.bool h2),.s v2,.v (.bool c2)])).N=O.N+2:=rfl;dsimp only at gT mV ⊢;refine χ 34 [.tmp 4] func133 ?_;cases h1;simp(disch:=first | omega | (simp only[ds]<;>omega) | fail) only[wk,wu,aT,ag,aO,y0,y10,y11,y12,y14,y16,y18,reduceIte,dJ,iS];exact bK
 cases h2;simp(disch:=first | omega | (simp only[ds]<;>omega) | fail) only[wk,wu,aT,ag,aO,y0,y10,y11,y12,y14,y16,y18,reduceIte,dJ,iS];exact bK
 (simp(disch:=first | omega | (simp only[ds]<;>omega) | fail) only[wk,wu,aT,ag,aO,y0,y10,y11,y12,y14,y16,y18,reduceIte,dJ,iS];generalize ((O.push (.cells [.v (.bool Α),.s v1,.v (.bool c1)])).push (.cells [.v (.bool Α),.s v2,.v (.bool c2)]))=OX at*;refine π (lJ v1 v2 _ gT mV) ?_;rintro _ O3 ⟨rfl,aB⟩;have zf:=aB.at du;have zh:=aB.at bC;have EY:=bK.trans aB;generalize bt v1 v2=n at*;by_cases e1:n<0);refine bo dJ zf zh e1 ?_;exact EY
 ·by_cases e2:n=0;subst e2;cases c1;refine bo dJ zf zh auK ?_;exact EY;refine bo dJ zf zh auK ?_;exact EY
  ·have e3:(n==0)=γ:=by simpa using e2
   refine gy dJ zf zh e1 e3 ?_;exact EY
def QQ(x:En×En)(v:Ρ):Bool:=qc x.1 (Α,v,Α)&&qc (Α,v,Α) x.2
def arH(x:En×En)(v:Ρ)(O:VH)(gT:Ζ x.1.2.1<=10000)(mV:Ζ x.2.2.1<=10000)(hv:Ζ v<=10000):VF Ε 139 [.agg (fy x),.s v] O (aC λm O'=>m=mb (QQ x v)/\O.Ge O'):=by
 obtain⟨⟨h1,v1,c1⟩,⟨h2,v2,c2⟩⟩:=x;have bK:O.Ge (((O.push (.cells [.v (.bool h1),.s v1,.v (.bool c1),.v (.bool h2),.s v2,.v (.bool c2)])).push (.cells [.v (.bool γ),.s [],.v (.bool γ)])).set (O.N+1) (.cells [.v (.bool Α),.s v,.v (.bool Α)])):=(((VH.Ge.refl O).push (.cells [.v (.bool h1),.s v1,.v (.bool c1),.v (.bool h2),.s v2,.v (.bool c2)])).push (.cells [.v (.bool γ),.s [],.v (.bool γ)])).set (aun _) _;have du:(((O.push (.cells [.v (.bool h1),.s v1,.v (.bool c1),.v (.bool h2),.s v2,.v (.bool c2)])).push (.cells [.v (.bool γ),.s [],.v (.bool γ)])).set (O.N+1) (.cells [.v (.bool Α),.s v,.v (.bool Α)])).hp O.N=φ (.cells [.v (.bool h1),.s v1,.v (.bool c1),.v (.bool h2),.s v2,.v (.bool c2)]):=Θ ((VH.jg _ _ (by show O.N≠O.N+1;omega)).trans (ζ O _));have bC:(((O.push (.cells [.v (.bool h1),.s v1,.v (.bool c1),.v (.bool h2),.s v2,.v (.bool c2)])).push (.cells [.v (.bool γ),.s [],.v (.bool γ)])).set (O.N+1) (.cells [.v (.bool Α),.s v,.v (.bool Α)])).hp (O.N+1)=φ (.cells [.v (.bool Α),.s v,.v (.bool Α)]):=υ _ _ _;have hn:(((O.push (.cells [.v (.bool h1),.s v1,.v (.bool c1),.v (.bool h2),.s v2,.v (.bool c2)])).push (.cells [.v (.bool γ),.s [],.v (.bool γ)])).set (O.N+1) (.cells [.v (.bool Α),.s v,.v (.bool Α)])).N=O.N+2:=rfl;have e1:QQ ((h1,v1,c1),(h2,v2,c2)) v=(qc (h1,v1,c1) (Α,v,Α)&&qc (Α,v,Α) (h2,v2,c2)):=rfl;rw[e1];clear e1;dsimp only at gT mV ⊢;refine χ 18 [.tmp 4] func139 ?_;((simp(disch:=first | omega | (simp only[ds]<;>omega) | fail) only[wk,wu,aT,ag,aO,y0,y10,y11,y12,y14,y16,y18,reduceIte,dJ,fy,iS];generalize (((O.push (.cells [.v (.bool h1),.s v1,.v (.bool c1),.v (.bool h2),.s v2,.v (.bool c2)])).push (.cells [.v (.bool γ),.s [],.v (.bool γ)])).set (O.N+1) (.cells [.v (.bool Α),.s v,.v (.bool Α)]))=OX at*;refine π (wq (h1,v1,c1) (Α,v,Α) _ gT hv) ?_;rintro _ O3 ⟨rfl,aB⟩;have zf:=aB.at du;have zh:=aB.at bC;have EY:=bK.trans aB;cases hb:qc (h1,v1,c1) (Α,v,Α));refine ak dJ hb ?_;exact EY);refine bo dJ hb zf zh ?_;refine π (wq (Α,v,Α) (h2,v2,c2) _ hv mV) ?_;rintro _ O4 ⟨rfl,aV⟩;refine ae dJ ?_;exact EY.trans aV
def ct:=ahB dJ<|ahB T42 T40
abbrev Iv:=En×En
abbrev Rg:=Bool×Ρ×List Iv
def jo(r:Rg)(tk:Tok):Η:=[mb r.1,.s r.2.1,.l (Ζ r.2.2) (r.2.2.flatMap fy) tk]
def Hw(L:List Iv):(L.flatMap fy).length=(Ζ L)*6:=by
 induction L with
 | nil=>rfl
 | cons p L ih=>rw[aui,TR,ih,ai9];simp[fy,iS];omega
def Ze:∀(L:List Iv)(i:Nat)(h:i<Ζ L),((L.flatMap fy).drop (i*6)).take 6=fy L[i]
 | p::L,0,_=>by simp[fy,iS]
 | p::L,i+1,h=>by
   have:=Ze L i z34;rw[aui,Nat.succ_mul];exact this
def ahO:∀(L:List Iv)(i:Nat)(h:i<Ζ L),((L.flatMap fy).drop (i*6+3)).take 3=iS L[i].2
 | p::L,0,_=>by simp[fy,iS]
 | p::L,i+1,h=>by
   have:=ahO L i z34;rw[aui,Nat.succ_mul,show i*6+6+3=6+(i*6+3) by omega];rw[<-List.drop_drop];exact this
def abf:Option En->En->Bool
 | none,_=>Α
 | some h,l=>Hv h l
def E6:Option En->List Iv->Bool
 | _,[]=>Α
 | pr,p::r=>(ze p.1&&(ze p.2&&(qc p.1 p.2&&abf pr p.1)))&&E6 (φ p.2) r
def JZ(r:Rg):Bool:=if r.1 then E6 Β r.2.2&&(r.2.1==[]&&(decide (1<=Ζ r.2.2)&&decide (Ζ r.2.2<=1024)))else decide (Ζ r.2.2=0)&&rj r.2.1
def DN(r:Rg):Prop:=Ζ r.2.1<=maxLen/\(Ζ r.2.2)<=maxLen/\∀p∈r.2.2,Ζ p.1.2.1<=10000/\(Ζ p.2.2.1)<=10000
def ahP(r:Rg)(tk:Tok)(O:VH)(hr:DN r):VF Ε 106 [.agg (jo r tk)] O (aC λm O'=>m=mb (JZ r)/\O.Ge O'):=by
 obtain⟨ahQ,mf,L⟩:=r;obtain⟨hv,hn,hL⟩:=hr;dsimp only at hv hn hL;have bK:=λx=>(VH.Ge.refl O).push x
 have cz:=Hw L;have KJ:(Ζ L:Int)<=9223372036854775807:=by simp[maxLen]at hn;omega
 unfold JZ;dsimp only;refine χ 76 [.tmp 2] func106 ?_;cases ahQ;by_cases h0:Ζ L=0;(simp(disch:=first | omega | (simp only[ds]<;>omega) | fail) only[wk,wu,aT,ag,aO,y0,y10,y11,y12,y14,y16,y18,reduceIte,ct,jo,h0];refine π (P4 mf _ hv) ?_;rintro _ O2 ⟨rfl,hg⟩;refine ae ct ?_;exact(bK _).trans hg);simp(disch:=first | omega | (simp only[ds]<;>omega) | fail) only[wk,wu,aT,ag,aO,y0,y10,y11,y12,y14,y16,y18,reduceIte,ct,jo,h0];exact bK _
 ·(simp(disch:=first | omega | (simp only[ds]<;>omega) | fail) only[wk,wu,aT,ag,aO,y0,y10,y11,y12,y14,y16,y18,reduceIte,ct,jo];refine WC.cj [20] [1,18,19] (λj:Nat=>[mi j]) (λj O'=>(O.push (.cells (jo (Α,mf,L) tk))).Ge O'/\j<=(Ζ L)/\E6 Β L=E6 (if j=0 then Β else(L[j - 1]?).map (·.2)) (L.drop j)) (λj=>(Ζ L) - j) (0) ?_ ?_);exact⟨VH.Ge.refl _,ai8 _,rfl⟩
  rintro j O2 ⟨ax,hj,bH⟩;have du:O2.hp O.N=φ (.cells (jo (Α,mf,L) tk)):=(ax.hp _ (an3 _)).trans (ζ O _);by_cases h2:j<Ζ L;(·have Uk:=Ze L j h2;have cG:=hL L[j] (ai_ h2);rw[asc h2]at bH;generalize hp:L[j]=p at*;obtain⟨⟨h1,v1,c1⟩,⟨h3,v3,c3⟩⟩:=p;((((simp(disch:=first | omega | (simp only[ds]<;>omega) | fail) only[wk,wu,aT,ag,aO,y0,y10,y11,y12,y14,y16,y18,reduceIte,ct,Uk,fy,iS];have hOX:O2.Ge ((O2.push (.cells [.v (.bool γ),.s [],.v (.bool γ),.v (.bool γ),.s [],.v (.bool γ)])).set O2.N (.cells [.v (.bool h1),.s v1,.v (.bool c1),.v (.bool h3),.s v3,.v (.bool c3)])):=((VH.Ge.refl O2).push _).set (Rn _) _;have fJ:=υ (O2.push (.cells [.v (.bool γ),.s [],.v (.bool γ),.v (.bool γ),.s [],.v (.bool γ)])) O2.N (.cells [.v (.bool h1),.s v1,.v (.bool c1),.v (.bool h3),.s v3,.v (.bool c3)]);have fe:O2.N<((O2.push (.cells [.v (.bool γ),.s [],.v (.bool γ),.v (.bool γ),.s [],.v (.bool γ)])).set O2.N (.cells [.v (.bool h1),.s v1,.v (.bool c1),.v (.bool h3),.s v3,.v (.bool c3)])).N:=an3 _;have arI:=ax.N;dsimp only[VH.push]at arI;generalize ((O2.push (.cells [.v (.bool γ),.s [],.v (.bool γ),.v (.bool γ),.s [],.v (.bool γ)])).set O2.N (.cells [.v (.bool h1),.s v1,.v (.bool c1),.v (.bool h3),.s v3,.v (.bool c3)]))=OX at*;have hgX:=ax.trans hOX;have arJ:=hOX.at du;have oA:=(bK (.cells (jo (Α,mf,L) tk))).trans hgX;dsimp only at cG;rw[E6]at bH;dsimp only at bH;by_cases hz:ze (h1,v1,c1)=Α/\ze (h3,v3,c3)=Α;rotate_left);refine WC.bM .any [(0,.au),(1,.one),(2,.one),(3,.au),(4,.au),(5,.au),(6,.one),(7,.one),(8,.au),(9,.au),(10,.au),(11,.au),(12,.au),(13,.au),(14,.au),(15,.one),(16,.au),(17,.au),(18,.au),(19,.au),(20,.au),(21,.au),(22,.au),(23,.au),(24,.au),(25,.au),(26,.au),(27,.au),(28,.au),(29,.au),(30,.au),(31,.one),(32,.au),(33,.au),(34,.au)] ?_;((((simp(disch:=first | omega | (simp only[ds]<;>omega) | fail) only[wk,wu,aT,ag,aO,y0,y10,y11,y12,y14,y16,y18,reduceIte,ct,fJ,iS];refine π (vu (h1,v1,c1) _ cG.1) ?_;rintro _ O3 ⟨rfl,aB⟩;have ahR:=(aB.hp _ fe).trans fJ;cases hA:ze (h1,v1,c1));rw[bH,hA];refine ae ct ?_;exact oA.trans aB);refine ak ct ahR ?_;refine π (vu (h3,v3,c3) _ cG.2) ?_;rintro _ O4 ⟨rfl,aV⟩;cases hB:ze (h3,v3,c3));rw[bH,hA,hB];refine ae ct ?_;exact(oA.trans aB).trans aV);exact(hz ⟨hA,hB⟩).elim);obtain⟨hA,hB⟩:=hz;rw[hA,hB]at bH;by_cases hz:j≠0/\qc (h1,v1,c1) (h3,v3,c3)=Α;rotate_left);refine WC.bM .any [(0,.au),(1,.one),(2,.one),(3,.au),(4,.au),(5,.au),(6,.one),(7,.one),(8,.au),(9,.au),(10,.au),(11,.au),(13,.au),(12,.fk),(14,.one),(15,.one),(16,.au),(17,.au),(18,.au),(19,.au),(20,.au),(21,.au),(22,.au),(23,.au),(24,.au),(25,.au),(26,.au),(27,.au),(28,.au),(29,.au),(30,.au),(31,.one),(32,.au),(33,.au),(34,.au)] ?_;(((((((simp(disch:=first | omega | (simp only[ds]<;>omega) | fail) only[wk,wu,aT,ag,aO,y0,y10,y11,y12,y14,y16,y18,reduceIte,ct,fJ,iS];refine π (vu (h1,v1,c1) _ cG.1) ?_;rintro _ O3 ⟨rfl,aB⟩;have ahR:=(aB.hp _ fe).trans fJ;refine aF ct hA ahR ?_;refine π (vu (h3,v3,c3) _ cG.2) ?_;rintro _ O4 ⟨rfl,aV⟩;have UZ:=aB.trans aV;have ahS:=(UZ.hp _ fe).trans fJ;refine ak ct hB ?_;refine VL.IC (m1:=.agg (iS (h1,v1,c1))) (m2:=.agg (iS (h3,v3,c3))) ?_ ?_ (WL.sound aa ?_));simp(disch:=first | omega | (simp only[ds]<;>omega) | fail) only[wk,wu,aT,ag,aO,y0,y10,y11,y12,y14,y16,y18,reduceIte,ct,ahS,iS]);simp(disch:=first | omega | (simp only[ds]<;>omega) | fail) only[wk,wu,aT,ag,aO,y0,y10,y11,y12,y14,y16,y18,reduceIte,ct,ahS,iS]);simp(disch:=first | omega | (simp only[ds]<;>omega) | fail) only[wk,wu,aT,ag,aO,y0,y10,y11,y12,y14,y16,y18,reduceIte,ct,ahS,iS];refine π (wq (h1,v1,c1) (h3,v3,c3) _ cG.1 cG.2) ?_;rintro _ O5 ⟨rfl,bB⟩;have hgZ:=UZ.trans bB;cases hC:qc (h1,v1,c1) (h3,v3,c3));rw[bH,hC];refine ae ct ?_;exact oA.trans hgZ);by_cases J1:j=0);subst J1;rw[hC,if_pos rfl]at bH;refine ae ct ?_;refine aw.N (0+1) ?_;refine⟨hgX.trans hgZ,Λ,?_⟩;rw[if_neg Λ,auF,Ro h2,hp,bH];rfl);exact(hz ⟨J1,hC⟩).elim);obtain⟨J1,hC⟩:=hz;rw[hC]at bH;(((((((((((((have ew:j - 1<Ζ L:=Λ;obtain⟨i,rfl⟩:∃i,j=i+1:=⟨j - 1,Λ⟩);rw[if_neg J1,auF,Ro Λ]at bH;have mV:=ahO L i Λ;have uR:=hL L[i] (ai_ Λ);generalize L[i]=q at*;obtain⟨qlo,⟨h5,v5,c5⟩⟩:=q;dsimp only[auy,abf]at bH uR mV;refine VC.ot [] ?_;refine ρ 0 ct ?_;refine auU (m:=.agg (iS (h1,v1,c1))) 1 ?_ ?_);simp(disch:=first | omega | (simp only[ds]<;>omega) | fail) only[wk,wu,aT,ag,aO,y0,y10,y11,y12,y14,y16,y18,reduceIte,ct,fJ,iS]);simp only[ag];refine ab.call (i:=2) (vu (h1,v1,c1) _ cG.1) ?_;rintro _ O3 ⟨rfl,aB⟩;simp only[ag];refine⟨aB,?_⟩;rw[hA];refine ρ 3 ct ?_;refine ρ 4 ct ?_;refine ρ 5 ct ?_;refine auU (m:=.agg (iS (h3,v3,c3))) 6 ?_ ?_);simp(disch:=first | omega | (simp only[ds]<;>omega) | fail) only[wk,wu,aT,ag,aO,y0,y10,y11,y12,y14,y16,y18,reduceIte,ct,fJ,iS]);simp only[ag];refine ab.call (i:=7) (vu (h3,v3,c3) _ cG.2) ?_;rintro _ O4 ⟨rfl,aV⟩;simp only[ag];have UZ:=aB.trans aV;refine⟨UZ,?_⟩;rw[hB];refine ρ 8 ct ?_;refine ρ 9 ct ?_;refine ρ 10 ct ?_;refine ρ 11 ct ?_;refine ρ 13 ct ?_;refine auU (m:=.agg (iS (h1,v1,c1))) 12 ?_ ?_);simp(disch:=first | omega | (simp only[ds]<;>omega) | fail) only[wk,wu,aT,ag,aO,y0,y10,y11,y12,y14,y16,y18,reduceIte,ct,fJ,iS]);simp only[ag];refine auU (m:=.agg (iS (h3,v3,c3))) 14 ?_ ?_);simp(disch:=first | omega | (simp only[ds]<;>omega) | fail) only[wk,wu,aT,ag,aO,y0,y10,y11,y12,y14,y16,y18,reduceIte,ct,fJ,iS]);simp only[ag];refine ab.call (i:=15) (wq (h1,v1,c1) (h3,v3,c3) _ cG.1 cG.2) ?_;rintro _ O5 ⟨rfl,bB⟩;simp only[ag];have nC:=UZ.trans bB;have arK:=nC.at arJ;refine⟨nC,?_⟩;rw[hC];refine ρ 16 ct ?_;refine ρ 17 ct ?_;refine ρ 18 ct ?_;refine ρ 19 ct ?_;refine ρ 20 ct ?_;refine ρ 21 ct ?_;refine ρ 22 ct ?_;refine ρ 24 ct ?_;refine ρ 25 ct ?_;refine ρ 29 ct ?_;refine auU (m:=.agg (iS (h1,v1,c1))) 30 ?_ ?_);simp(disch:=first | omega | (simp only[ds]<;>omega) | fail) only[wk,wu,aT,ag,aO,y0,y10,y11,y12,y14,y16,y18,reduceIte,ct,fJ,iS]);simp only[ag];refine ab.op (i:=23) ?_;simp(disch:=first | omega | (simp only[ds]<;>omega) | fail) only[wk,wu,aT,ag,aO,y0,y10,y11,y12,y14,y16,y18,reduceIte,ct,arK,jo];refine⟨nC,?_⟩;refine ρ 26 ct ?_;refine ρ 27 ct ?_;refine ab.op (i:=28) ?_;simp(disch:=first | omega | (simp only[ds]<;>omega) | fail) only[wk,wu,aT,ag,aO,y0,y10,y11,y12,y14,y16,y18,reduceIte,ct,mV,iS];refine⟨nC,?_⟩;refine ab.call (i:=31) (Zd (h5,v5,c5) (h1,v1,c1) _ uR.2 cG.1) ?_;rintro _ O6 ⟨rfl,dU⟩;simp only[ag];have hgZ:=nC.trans dU;refine⟨hgZ,?_⟩;cases hD:Hv (h5,v5,c5) (h1,v1,c1));rw[bH,hD];refine ρ 32 ct ?_;refine ρ 33 ct ?_;refine ρ 34 ct ?_;refine ab.bM [] ?_;refine ae ct ?_;exact oA.trans hgZ);rw[hD]at bH;refine ρ 32 ct ?_;refine ρ 33 ct ?_;refine ρ 34 ct ?_;refine ab.bM [] ?_;refine ae ct ?_;refine aw.N ((i+1)+1) ?_;refine⟨hgX.trans hgZ,Λ,?_⟩;rw[if_neg Λ,auF,Ro h2,hp,bH];rfl)
  ·have rB:j=Ζ L:=Λ
   rw[an4 Λ,E6]at bH;rw[bH];have oA:=(bK (.cells (jo (Α,mf,L) tk))).trans ax;cases CR:mf==[];(((simp(disch:=first | omega | (simp only[ds]<;>omega) | fail) only[wk,wu,aT,ag,aO,y0,y10,y11,y12,y14,y16,y18,reduceIte,ct,du,jo,CR];exact oA);by_cases h1l:1<=Ζ L);by_cases h3l:Ζ L<=1024;(simp(disch:=first | omega | (simp only[ds]<;>omega) | fail) only[wk,wu,aT,ag,aO,y0,y10,y11,y12,y14,y16,y18,reduceIte,ct,du,jo,CR,h1l,h3l];exact oA);simp(disch:=first | omega | (simp only[ds]<;>omega) | fail) only[wk,wu,aT,ag,aO,y0,y10,y11,y12,y14,y16,y18,reduceIte,ct,du,jo,CR,h1l,h3l];exact oA);simp(disch:=first | omega | (simp only[ds]<;>omega) | fail) only[wk,wu,aT,ag,aO,y0,y10,y11,y12,y14,y16,y18,reduceIte,ct,du,jo,CR,h1l];exact oA
def E7:=ahB ct<|ahB T9 aqq
def nL(r:Rg)(v:Ρ):Bool:= !r.1||r.2.2.any (QQ · v)
def akR(x:Iv)(v:Ρ)(b:Nat)(O:VH)(hb:O.hp b=φ (.cells [.s v]))(xm:b<O.N)(gT:Ζ x.1.2.1<=10000)(mV:Ζ x.2.2.1<=10000)(hv:Ζ v<=10000):VF Ε 138 [.agg (fy x),.p b 0] O (aC λm O'=>m=mb (QQ x v)/\O.Ge O'):=by
 obtain⟨⟨h1,v1,c1⟩,⟨h3,v3,c3⟩⟩:=x;have bK:=λy=>(VH.Ge.refl O).push y
 refine χ 7 [.tmp 3] func138 ?_;simp(disch:=first | omega | (simp only[ds]<;>omega) | fail) only[wk,wu,aT,ag,aO,y0,y10,y11,y12,y14,y16,y18,reduceIte,E7,fy,iS,hb];refine π (arH ((h1,v1,c1),(h3,v3,c3)) v _ gT mV hv) ?_;rintro _ O2 ⟨rfl,ax⟩;refine ae E7 ?_;exact(bK _).trans ax
def ahT(L:List Iv)(tk:Tok)(v:Ρ)(b:Nat)(O:VH)(hb:O.hp b=φ (.cells [.s v]))(xm:b<O.N)(hn:Ζ L<=maxLen)(hL:∀p∈L,Ζ p.1.2.1<=10000/\(Ζ p.2.2.1)<=10000)(hv:Ζ v<=10000):VF Ε 167 [.l (Ζ L) (L.flatMap fy) tk,.func (.func 138) [] [.p b 0]] O (aC λm O'=>∃n:Int,m=mi n/\decide (n>=0)=L.any (QQ · v)/\O.Ge O'):=by
 have KJ:(Ζ L:Int)<=9223372036854775807:=by simp[maxLen]at hn;omega
 have cz:=Hw L;refine χ 19 [.tmp 4] func167 ?_;refine ae E7 ?_;refine WC.cj [8] [0,1,7] (λj:Nat=>[mi j]) (λj O'=>O.Ge O'/\j<=(Ζ L)/\L.any (QQ · v)=(L.drop j).any (QQ · v)) (λj=>(Ζ L) - j) (0) ?_ ?_;exact⟨VH.Ge.refl _,ai8 _,rfl⟩;rintro j O2 ⟨ax,hj,bH⟩;by_cases h2:j<Ζ L;have Uk:=Ze L j h2;have cG:=hL L[j] (ai_ h2);rw[asc h2,List.any_cons]at bH;generalize hp:L[j]=p at*;((simp(disch:=first | omega | (simp only[ds]<;>omega) | fail) only[wk,wu,aT,ag,aO,y0,y10,y11,y12,y14,y16,y18,reduceIte,E7,Uk,fy,iS];refine π (akR p v b _ ((ax.hp _ xm).trans hb) (abT xm ax.N) cG.1 cG.2 hv) ?_;rintro _ O3 ⟨rfl,aB⟩;cases hi:QQ p v);rw[hi,Bool.false_or]at bH;refine ae E7 ?_;refine aw.N (j+1) ?_;exact⟨ax.trans aB,Λ,bH⟩);rw[bH,hi];refine ae E7 ?_;exact⟨_,rfl,z10,ax.trans aB⟩
 ·have rB:j=Ζ L:=Λ
  rw[an4 Λ]at bH;rw[bH];refine ae E7 ?_;exact⟨_,rfl,rfl,ax⟩
def ahU(L:List Iv)(tk:Tok)(v:Ρ)(b:Nat)(O:VH)(hb:O.hp b=φ (.cells [.s v]))(xm:b<O.N)(hn:Ζ L<=maxLen)(hL:∀p∈L,Ζ p.1.2.1<=10000/\(Ζ p.2.2.1)<=10000)(hv:Ζ v<=10000):VF Ε 137 [.l (Ζ L) (L.flatMap fy) tk,.func (.func 138) [] [.p b 0]] O (aC λm O'=>m=mb (L.any (QQ · v))/\O.Ge O'):=by
 refine χ 9 [.tmp 4] func137 ?_;refine ae E7 ?_;refine π (ahT L tk v b O hb xm hn hL hv) ?_;rintro _ O2 ⟨z,rfl,hz,ax⟩;rw[<-hz];refine ae E7 ?_;exact ax
def apb(r:Rg)(tk:Tok)(v:Ρ)(O:VH)(hr:DN r)(hv:Ζ v<=10000):VF Ε 109 [.agg (jo r tk),.s v] O (aC λm O'=>m=mb (nL r v)/\O.Ge O'):=by
 obtain⟨ahQ,mf,L⟩:=r;obtain⟨WG,hn,hL⟩:=hr;have bK:=λx y=>((VH.Ge.refl O).push x).push y
 have cz:=Hw L;unfold nL;dsimp only at WG hn hL ⊢;refine χ 14 [.tmp 4] func109 ?_;cases ahQ;(simp(disch:=first | omega | (simp only[ds]<;>omega) | fail) only[wk,wu,aT,ag,aO,y0,y10,y11,y12,y14,y16,y18,reduceIte,E7,jo];exact bK _ _);simp(disch:=first | omega | (simp only[ds]<;>omega) | fail) only[wk,wu,aT,ag,aO,y0,y10,y11,y12,y14,y16,y18,reduceIte,E7,jo];have hk:=ζ (O.push (.cells [.v (.bool Α),.s mf,.l (Ζ L) (L.flatMap fy) tk])) (.cells [.s v]);refine π (ahU L tk v _ _ hk (an3 _) hn hL hv) ?_;rintro _ O2 ⟨rfl,ax⟩;refine ae E7 ?_;exact(bK _ _).trans ax
def uw:Nat->List UInt8->Option (List Iv)
 | 0,_=>Β
 | k+1,t=>if t==[]then φ []else if cF t==44 then(Hb ((t.drop 1).dropWhile ib)).bind λp=>(uw k (p.2.dropWhile ib)).map (p.1:: ·)else Β
def Ce(first:Bool)(k:Nat)(s:Ρ):Option (List Iv):=if first then(Hb s).bind λp=>(uw k (p.2.dropWhile ib)).map (p.1:: ·)else uw k s
def rI(s:Ρ):Option (List Iv):=Ce Α (Ζ s+1) s
def tJ(t:Ρ):Option Rg:=
 if cF t==91||cF t==40 then(rI t).bind λL=>if JZ (Α,[],L)then φ (Α,[],L)else Β
 else if JZ (γ,t,[])then φ (γ,t,[])else Β
def QR(s:Ρ):Option Rg:=tJ (trimB s)
def ee(s:Ρ):Rg×Int:=(QR s).elim ((γ,[],[]),21) (·,0)
def J2{p:Iv×Ρ}(h:Hb s=φ p):Ζ p.2<(Ζ s)/\(Ζ p.1.1.2.1)<=(Ζ s)/\(Ζ p.1.2.2.1)<=Ζ s:=by
 have hne:s≠[]:=λe=>by rw[e]at h;simp[Hb,cF]at h
 have arG:0<Ζ s:=List.length_pos_iff.2 hne;have h1:=sE (s.drop 1);have h2:=sE ((gH (s.drop 1)).2.drop 1);simp only[an7]at h1 h2;have he:∀v c,(NZ v c).2.1.length<=Ζ v:=λv c=>by unfold NZ;split<;>simp
 unfold Hb at h;split at h;split at h;injection h with h;subst h;simp only[an7];omega;split at h;split at h;injection h with h;subst h;simp only[an7];have h3:=he (gH (s.drop 1)).1 (cF s==91);have h4:=he (gH ((gH (s.drop 1)).2.drop 1)).1 (cF (gH ((gH (s.drop 1)).2.drop 1)).2==93);omega;cases h;cases h;cases h
def DO:Η:=[.v (.bool γ),.s [],.l 0 [] .nil]
def stE{u:TypeDesc}{z:Η}:CM O k 0 (.agg []) (φ ⟨u,0,b,z⟩) (φ (.cells []))=φ (O.set k (.cells [])):=rfl
def abg{a:Nat}(h:K O):fM Ε 100 [.p a 0,.p b 0] Β O K:=by
 refine fM.rec func100 (auD (by decide:5<12) rfl) ?_;show WC _ _ ⟨12,0⟩ _ _ _ _ _;simp only[cX,auk,y10];simp(disch:=first | omega | (simp only[ds]<;>omega) | fail) only[wk,wu,aT,ag,aO,y0,y10,y11,y12,y14,y16,y18,reduceIte,dJ,wI,wi];refine VL.pure z10 (λ_=>.inl rfl) rfl rfl (d_.IB (bb:=Α) Tryz.underlying20 rfl (.inl ⟨rfl,rfl⟩)) ?_;refine WL.sound aa ?_;refine ak dJ @wi ?_;exact h
def abh{a:Nat}{x1 x2 x3:MV}(ha:O.hp a=φ (.cells [x1,x2,x3]))(hb:O.hp b=φ (.cells [y]))(EH:a≠b)(xm:b<O.N)(Qk:a<O.N)(h:∀O',(∀B:VH,B.Ge O->B.N<=a->B.N<=b->B.Ge O')->O'.hp a=φ (.cells DO)->O'.hp b=φ (.cells [mi 21])->K O'):fM Ε 100 [.p a 0,.p b 0] (φ Hu) O K:=by
 refine fM.rec func100 (auD (by decide:5<12) rfl) ?_;show WC _ _ ⟨12,0⟩ _ _ _ _ _;simp only[cX,auk,y10];simp(disch:=first | omega | (simp only[ds]<;>omega) | fail) only[wk,wu,aT,ag,aO,y0,y10,y11,y12,y14,y16,y18,reduceIte,dJ,wI,wi,Hu];refine VL.pure z10 (λ_=>.inl rfl) rfl rfl (d_.CQ (bb:=γ) Tryz.underlying20 rfl (.inl ⟨rfl,rfl⟩)) ?_;refine WL.sound aa ?_;refine ak dJ @wi ?_;refine VL.pure z10 (λ_=>.inl rfl) rfl rfl (d_.asT Tryz.underlying226 (λ_ h=>by cases h) rfl) ?_;refine WL.sound aa ?_;have h1:=(VH.jg O (.cells []) (Nat.ne_of_lt Qk)).trans ha;refine SP dJ T42 IF alN @wi @stE ha hb ?_;exact h _ (λB hB h1 h2=>((((hB.push _).set hB.N _).set h1 _).set h2 _)) ((τ _ _ EH).trans (υ _ _ _)) (υ _ _ _)
def App.fc(h:App O B sz tk)(hn:O.N<=O'.N)(hh:∀i,B<=i->i<O.N->O'.hp i=O.hp i):App O' B sz tk:=by
 cases tk with
 | own t k=>exact⟨h.1,(hh t h.2.2.1 h.2.2.2).trans h.2.1,h.2.2.1,abT h.2.2.2 hn⟩
 | nil=>trivial
 | full=>trivial
 | av=>exact h.elim
def J3(s:Ρ)(O:VH)(hs:Ζ s<=10000):VF Ε 77 [.s s] O (aC λm O'=>∃tk,m= .tuple [.agg (jo (ee s).1 tk),mi (ee s).2]/\O.Ge O'):=by
 refine VF.deferred (lo:=4) (k:=54) (rs:=[.cell 2 42,.cell 3 30]) func77 (Enters.w_) ?_;simp only[cX,auk,y10];have bK:O.Ge ((O.push (.cells DO)).push (.cells [mi 0])):=((VH.Ge.refl O).push _).push _;have ha:((O.push (.cells DO)).push (.cells [mi 0])).hp O.N=φ (.cells DO):=(VH.jg _ _ (by show O.N≠O.N+1;omega)).trans (ζ O _);have hb:((O.push (.cells DO)).push (.cells [mi 0])).hp (O.N+1)=φ (.cells [mi 0]):=ζ _ _;have hn:((O.push (.cells DO)).push (.cells [mi 0])).N=O.N+2:=rfl;refine aF dJ T42 IF ?_;refine⟨_,rfl,λD=>?_⟩;simp only[DO,aq]at bK ha hb hn;generalize ((O.push (.cells [.v (.bool γ),.s [],.l 0 [] .nil])).push (.cells [.v (Ι Κ 0)]))=OX at*;have nQ:Ζ s<=maxLen:=aev hs z12;refine θ ?_;refine ae dJ ?_;refine π (P8 s _ nQ) ?_;rintro _ O2 ⟨rfl,rfl⟩;have xG:(trimB s).length<=Ζ s:=BL s;have Lo:QR s=tJ (trimB s):=rfl;unfold ee;rw[Lo];clear Lo;generalize trimB s=t at*;have htm:Ζ t<=maxLen:=aev xG nQ;refine ak dJ @wd ?_;have rf:=bK.push (.cells [.s t]);have oY:=(VH.jg O2 (.cells [.s t]) (show O.N≠O2.N by omega)).trans ha;have cE:=(VH.jg O2 (.cells [.s t]) (show O.N+1≠O2.N by omega)).trans hb;have gu:jn (O2.push (.cells [.s t])) O2.N t:=⟨an3 _,ζ _ _⟩;have ea:(O2.push (.cells [.s t])).N=O.N+3:=by rw[<-show O2.N+1=O.N+3 by omega];rfl
 rw[hn]at gu ⊢;generalize O2.push (.cells [.s t])=O3 at*;clear ha hb bK;refine VC.join aa [2,3] (λx:Rg×Tok=>[.p O.N 0,.p (O.N+1) 0]) (λx O'=>O.Ge O'/\O'.hp O.N=φ (.cells (jo x.1 x.2))/\O'.hp (O.N+1)=φ (.cells [mi 0])/\O.N+2<O'.N/\DN x.1/\tJ t=if JZ x.1 then φ x.1 else Β) ?_ ?_;rotate_left;rintro⟨⟨hd,mf,L⟩,tk⟩ O4 ⟨AW,jx,c8,fe,hrk,GJ⟩;dsimp only at jx hrk GJ;rw[GJ];have as9:=AW;simp only[jo]at jx;refine aF ct @wd jx ?_;refine π (ahP (hd,mf,L) tk _ hrk) ?_;rintro _ O5 ⟨rfl,bB⟩;have uV:=AW.trans bB;have e_:=bB.at jx;have dX:=bB.at c8;have ie:=bB.N;simp only[aq]at dX;cases hm:JZ (hd,mf,L);refine bo ct @wd e_ dX ?_;refine abg ?_;refine ak ct IF ?_;exact⟨.nil,rfl,(uV.set (Rn _) _).set (aun _) _⟩;refine bo ct @wd e_ dX ?_;refine abg ?_;refine ak ct IF ?_;exact⟨tk,rfl,(uV.set (Rn _) _).set (aun _) _⟩;refine θ ?_;refine ak dJ @wd ?_;refine Ω (QN gu) ?_;refine ak dJ @wd ?_;refine WC.join aa [19,2,3,4] (λb:Bool=>[mb b,.p O.N 0,.p (O.N+1) 0,.p (O.N+2) 0]) (λb O'=>O'=O3/\b= !(cF t==91||cF t==40)) ?_ ?_
 ·(have e91:((cF t).toNat==91)=(cF t==91):=by have:=zd (cF t) 91;rw[<-this];rw[aum];simp;omega);have e40:((cF t).toNat==40)=(cF t==40):=by have:=zd (cF t) 40;rw[<-this];rw[aum];simp;omega
  rw[<-e91, <-e40];by_cases e1:(cF t).toNat=91;refine bo dJ @wd @aA e1 ?_;exact aE.mk _ ⟨rfl,rfl⟩;by_cases e2:(cF t).toNat=40;refine gy dJ @wd @aA e1 e2 ?_;exact aE.mk _ ⟨rfl,rfl⟩;refine gy dJ @wd @aA e1 e2 ?_;exact aE.mk Α ⟨rfl,by simp[e1,e2]⟩
 rintro b Oz ⟨eO,hb⟩;rw[eO];clear eO Oz;(cases hc:cF t==91||cF t==40);rw[hc]at hb;subst hb;have dA:=gu.2;refine ι (bo ct @wd dA oY ?_);refine aE.mk ((γ,t,[]),.nil) ⟨rf.set (Rn _) _,υ _ _ _,Θ cE,by rw[auR];omega,⟨htm,ai8 _,λp h=>by cases h⟩,?_⟩;unfold tJ;rw[hc];rfl
 ·rw[hc]at hb;subst hb;refine ι (aF ct @wd oY ?_);((((have GJ:tJ t=(rI t).bind λL=>if JZ (Α,[],L)then φ (Α,[],L)else Β:=by unfold tJ;rw[hc];rfl);rw[GJ];clear GJ hc;have arL:=rf.set (Rn _) (.cells [.v (.bool Α),.s [],.l 0 [] .nil]);have haS:=υ O3 O.N (.cells [.v (.bool Α),.s [],.l 0 [] .nil]);have hbS:=(τ O3 (.cells [.v (.bool Α),.s [],.l 0 [] .nil]) (show O.N+1≠O.N by omega)).trans cE;have hrS:=gu.other (.cells [.v (.bool Α),.s [],.l 0 [] .nil]) (show O.N+2≠O.N by omega);have hnS:(O3.set O.N (.cells [.v (.bool Α),.s [],.l 0 [] .nil])).N=O.N+3:=ea;generalize O3.set O.N (.cells [.v (.bool Α),.s [],.l 0 [] .nil])=O4 at*;clear oY cE gu rf;refine Υ [6] [2,3,4] (λx:Bool×List Iv×Tok×Ρ=>[mb x.1]) (λx O'=>O.Ge O'/\O'.hp O.N=φ (.cells [mb Α,.s [],.l (Ζ x.2.1) (x.2.1.flatMap fy) x.2.2.1])/\O'.hp (O.N+1)=φ (.cells [mi 0])/\jn O' (O.N+2) x.2.2.2/\O.N+2<O'.N/\App O' (O.N+3) 6 x.2.2.1/\(Ζ x.2.1)+Ζ x.2.2.2<=(Ζ t)/\(∀p∈x.2.1,Ζ p.1.2.1<=(Ζ t)/\(Ζ p.2.2.1)<=Ζ t)/\∃k,Ζ x.2.2.2<k/\rI t=(Ce x.1 k x.2.2.2).map (x.2.1++ ·)) (λx=>Ζ x.2.2.2) ((Α,[],.nil,t)) ?_ ?_);refine⟨arL,haS,hbS,hrS,Λ,trivial,z10,z10,Ζ t+1,an3 _,?_⟩;show rI t=Option.map _ (Ce Α (Ζ t+1) t);rw[show(([]:List Iv)++ ·)=id from rfl,Option.map_id];rfl);rintro⟨first,acc,tk,u⟩ O5 ⟨uV,e_,dX,nU,ie,iz,mH,ahV,k,hk,E8⟩;dsimp only at e_ nU iz mH ahV hk E8;have hru:=nU.2;have ua:Ζ u<=maxLen:=by omega);refine WC.join aa [6,2,3,4] (λ_:Unit=>[mb first,.p O.N 0,.p (O.N+1) 0,.p (O.N+2) 0]) (λ_ O'=>O'=O5/\(first=Α\/u≠[])) ?_ ?_
  ·cases first
   ·cases u with
    | nil=>
      have PC:(([]:Ρ)==[])=Α:=rfl;refine bo dJ @wd hru PC ?_
      have abi:rI t=φ acc:=by
       rw[E8];cases k with
       | zero=>exact absurd hk z10
       | succ k=>simp[Ce,uw]
      refine aE.mk ((Α,[],acc),tk) ⟨uV,e_,dX,ie,⟨ai8 _,by show (Ζ acc)<=maxLen;simp only[apH]at mH;omega,λp hp=>by have:=ahV p hp;exact⟨Λ,Λ⟩⟩,?_⟩;rw[abi];rfl
    | cons c u=>
      have PC:((c::u)==[])=γ:=rfl;refine bo dJ @wd hru PC ?_;exact aE.mk () ⟨rfl,z10⟩
   ·refine aF dJ @wd hru ?_;exact aE.mk () ⟨rfl,z10⟩
  rintro _ Oz ⟨eO,hfu⟩;rw[eO];clear eO Oz;refine Δ (Γ ?_);refine WC.join aa [2,3,4] (λ_:Ρ=>[.p O.N 0,.p (O.N+1) 0,.p (O.N+2) 0]) (λv O'=>aL O5 (φ (O.N+2)) O'/\jn O' (O.N+2) v/\(Ζ v)<=(Ζ u)/\∃k',Ζ v<k'/\rI t=(Ce Α k' v).map (acc++ ·)) ?_ ?_
  ·cases first
   ·have hne:u≠[]:=by simpa using hfu
    obtain⟨c,v,rfl⟩:=List.exists_cons_of_ne_nil hne;((((obtain⟨k,rfl⟩:∃j,k=j+1:=⟨k - 1,Λ⟩);have htf:Ce γ (k+1) (c::v)=if cF (c::v)==44 then(Hb (v.dropWhile ib)).bind λp=>(uw k (p.2.dropWhile ib)).map (p.1:: ·)else Β:=rfl);rw[htf]at E8;refine ak dJ @wd ?_;refine ah.p (wo [44] nU ua rfl) ?_ ?_;rotate_left);rintro m O6 ⟨hu,rfl,cZ⟩;(have arM:(cF (c::v)==44)=γ:=by simpa using cZ);rw[arM,if_neg z10]at E8;refine ae @wd ?_;have oa:=hu.N;refine abh (O:=_) (a:=O.N) (b:=O.N+1) (hu.fc Λ Λ e_) (hu.fc Λ Λ dX) Λ z38 z38 ?_;rintro OF hGe haF hbF;simp only[DO,aq]at haF hbF;rw[show rI t=Β from E8];refine bo ct IF haF hbF ?_;exact⟨.nil,rfl,hGe O (aL.ge uV hu) (Rn _) (aun _)⟩);rintro m O6 ⟨gP,rfl,xt,h6⟩;(have pf:(cF (c::v)==44)=Α:=by simpa using xt);rw[pf,if_pos rfl]at E8;refine ak dJ @wd ?_;have rZ:=k9 ib v;simp only[ai9]at mH hk ua;refine π (Aj h6 z43) ?_;rintro _ O7 ⟨oy,h7⟩;refine ak dJ @wd ?_;exact aE.mk (v.dropWhile ib) ⟨gP.trans oy,h7,by simp;omega,k,Λ,E8⟩
   ·refine ak dJ @wd ?_;exact aE.mk u ⟨aL.refl _ _,nU,Rn _,k,hk,E8⟩
  rintro v O6 ⟨gP,vd,sK,k',Gw,abi⟩;have Aw:=gP.fc Λ Λ e_;have kH:=gP.fc Λ Λ dX;have mQ:=gP.N;have ri:=aL.ge uV gP;have iU:App O6 (O.N+3) 6 tk:=iz.fc mQ (λi h1 h2=>gP.hp i h2 z14);clear e_ dX nU gP E8 iz uV hru;refine Δ ?_;refine VC.mJ [6,7] (O.N) (Aw) ?_;intro X;refine ρ 0 ct ?_;refine auQ (m:=.l (Ζ acc) (acc.flatMap fy) tk) 1 ?_ ?_;exact ez ct;simp only[ag];refine ρ 2 ct ?_;refine ab.iH (k:=O.N) (i:=3) (UU (jn.other (k:=O.N) vd (.obj X) Λ) (aev sK ua)) ?_ ?_;rotate_left;rintro m O7 ⟨oy,rfl,cZ⟩;have hX:=oy.fc (k:=O.N) (by rw[auR];omega) Λ (υ _ _ _);refine⟨hX,?_⟩;(((have QC:rI t=Β:=by rw[abi];show Option.map _ ((Hb v).bind _)=Β;rw[cZ];rfl);have oa:=oy.N;simp only[auR]at oa;have hbX:=oy.fc (k:=O.N+1) (by rw[auR];omega) Λ (Θ kH);have ahW:=aL.ge (ri.set (Rn _) (.obj X)) oy;refine ae @wd ?_;refine abh (O:=_) (a:=O.N) (b:=O.N+1) (υ _ _ _) ((VH.sx).trans hbX) Λ z38 z38 ?_;rintro OF hGe haF hbF;simp only[DO,aq]at haF hbF;rw[QC];refine bo ct IF haF hbF ?_;exact⟨.nil,rfl,hGe O (ahW.set (Rn _) _) (Rn _) (aun _)⟩);rintro m O7 ⟨oy,x,rest,pP,rfl,h7⟩;have hX:=oy.fc (k:=O.N) (by rw[auR];omega) Λ (υ _ _ _);have hbX:=oy.fc (k:=O.N+1) (by rw[auR];omega) Λ (Θ kH);have ahW:=aL.ge (ri.set (Rn _) (.obj X)) oy;have oa:=oy.N;simp only[auR]at oa;have jl:App O7 (O.N+3) 6 tk:=iU.fc oa (λi h1 h2=>(oy.hp i h2 z14).trans VH.sx);refine⟨hX,?_⟩;refine ab.op (i:=4) ?_;((((simp(disch:=first | omega | (simp only[ds]<;>omega) | fail) only[wk,wu,aT,ag,aO,y0,y10,y11,y12,y14,y16,y18,reduceIte,ct,fy,iS];refine⟨hX,?_⟩;have Qx:=J2 pP;dsimp only at Qx;have o_:=bE (tk':=.full) (n:=Ζ acc) (k:=1) (cs:=acc.flatMap fy) (ds:=[.v (.bool x.1.1),.s x.1.2.1,.v (.bool x.1.2.2),.v (.bool x.2.1),.s x.2.2.1,.v (.bool x.2.2.2)]) T40 SV.1.1 jl (Hw acc) rfl rfl z12 z12 Λ z41;have eD:(acc++[x]).flatMap fy=acc.flatMap fy++[.v (.bool x.1.1),.s x.1.2.1,.v (.bool x.1.2.2),.v (.bool x.2.1),.s x.2.2.1,.v (.bool x.2.2.2)]:=by simp[fy,iS,bg]);rw[<-eD]at o_;refine ab.op (i:=5) ?_;refine aF ct @eN o_ ?_;have hX9:=VH.uG jl hX;have kK:=VH.uG jl hbX;have hr9:jn (O7.after tk) (O.N+2) rest:=⟨by rw[VH.fL];omega,VH.uG jl h7.2⟩;have arN:=ahW.after jl Λ;have iT:App (O7.after tk) (O.N+3) 6 (.own O7.N 6):=App.after;have yP:O.N+2<(O7.after tk).N:=by rw[VH.fL];omega);generalize O7.after tk=O9 at*;refine⟨hX9,?_⟩;refine ab.mK [(6,.au),(7,.one)] ?_;refine ak ct @wd ?_;have GN:∀(i:Nat)(y:bO),i≠O.N->O9.hp i=φ y->((O9.set O.N (.cells [.v (.bool Α),.s [],.l (Ζ acc) (acc.flatMap fy) tk])).set O.N (.cells [.v (.bool Α),.s [],.l (Ζ acc+1) ((acc++[x]).flatMap fy) (.own O7.N 6)])).hp i=φ y:=λi y hi h=>(τ _ _ hi).trans ((τ _ _ hi).trans h));have arO:((O9.set O.N (.cells [.v (.bool Α),.s [],.l (Ζ acc) (acc.flatMap fy) tk])).set O.N (.cells [.v (.bool Α),.s [],.l (Ζ acc+1) ((acc++[x]).flatMap fy) (.own O7.N 6)])).hp O.N=φ (.cells [.v (.bool Α),.s [],.l (Ζ acc+1) ((acc++[x]).flatMap fy) (.own O7.N 6)]):=υ _ _ _;have N0:=GN _ _ Λ kK;have arP:jn ((O9.set O.N (.cells [.v (.bool Α),.s [],.l (Ζ acc) (acc.flatMap fy) tk])).set O.N (.cells [.v (.bool Α),.s [],.l (Ζ acc+1) ((acc++[x]).flatMap fy) (.own O7.N 6)])) (O.N+2) rest:=⟨hr9.1,GN _ _ Λ hr9.2⟩;have XY:=(arN.set (Rn _) (.cells [.v (.bool Α),.s [],.l (Ζ acc) (acc.flatMap fy) tk])).set (Rn _) (.cells [.v (.bool Α),.s [],.l (Ζ acc+1) ((acc++[x]).flatMap fy) (.own O7.N 6)]);have Zf:App ((O9.set O.N (.cells [.v (.bool Α),.s [],.l (Ζ acc) (acc.flatMap fy) tk])).set O.N (.cells [.v (.bool Α),.s [],.l (Ζ acc+1) ((acc++[x]).flatMap fy) (.own O7.N 6)])) (O.N+3) 6 (.own O7.N 6):=iT.fc (Rn _) (λi h1 _=>Θ VH.sx);have wQ:O.N+2<((O9.set O.N (.cells [.v (.bool Α),.s [],.l (Ζ acc) (acc.flatMap fy) tk])).set O.N (.cells [.v (.bool Α),.s [],.l (Ζ acc+1) ((acc++[x]).flatMap fy) (.own O7.N 6)])).N:=yP;clear GN;generalize ((O9.set O.N (.cells [.v (.bool Α),.s [],.l (Ζ acc) (acc.flatMap fy) tk])).set O.N (.cells [.v (.bool Α),.s [],.l (Ζ acc+1) ((acc++[x]).flatMap fy) (.own O7.N 6)]))=fb at*;refine ο ct @wd ?_;have rZ:=k9 ib rest;refine π (Aj arP Λ) ?_;rintro _ j9 ⟨U0,h11⟩;have M5:=U0.N;refine ak ct @wd ?_;refine ο ct @wd ?_;refine aw.N (γ,acc++[x],.own O7.N 6,rest.dropWhile ib) ⟨aL.ge XY U0,?_,U0.fc Λ Λ N0,h11,Λ,Zf.fc M5 (λi h1 h2=>U0.hp i h2 z14),by simp only[TR,ai9,apH];omega,?_,k',by dsimp only;omega,?_⟩);have:=U0.fc Λ Λ arO;simpa using this);intro p hp;rcases apK.1 hp with hp | hp;exact ahV p hp;rw[alp.1 hp];exact⟨Λ,Λ⟩
  ·rw[abi];show Option.map _ ((Hb v).bind _)=_;rw[pP];show Option.map _ (Option.map _ (uw k' (rest.dropWhile ib)))=Option.map _ (uw k' (rest.dropWhile ib));cases uw k' (rest.dropWhile ib)with
   | none=>rfl
   | some l=>simp
def zi:=ahB E7<|ahB IF<|ahB ue T9
def tO(m:Ρ):List Ρ->List UInt8
 | []=>m
 | x::r=>tO (if bt x m>0 then x else m) r
def ux:List Ρ->List UInt8×Bool
 | []=>([],γ)
 | x::r=>(tO x r,Α)
def Zg(m:Ρ)(x:Ρ):∀r,tO m (r++[x])=if bt x (tO m r)>0 then x else tO m r:=by
 intro r;induction r generalizing m with
 | nil=>rfl
 | cons y r ih=>exact ih _
def aeh(m:Ρ)(r:List Ρ):tO m r∈m::r:=by
 induction r generalizing m with
 | nil=>simp[tO]
 | cons x r ih=>
   rw[tO];have:=ih (if bt x m>0 then x else m);rcases auu.1 this with h | h;rw[h];split<;>simp;simp[h]
def Zh(x:Ρ)(r:List Ρ)(tk:Tok)(O:VH)(hn:Ζ r+1<=maxLen)(hl:∀v∈x::r,Ζ v<=10000):VF Ε 107 [.l (Ζ r+1) ((x::r).map .s) tk,.func (.func 108) [] []] O (aC λm O'=>m= .s (tO x r)/\O.Ge O'):=by
 have KJ:(Ζ r:Int)+1<=9223372036854775807:=by simp[maxLen]at hn;omega
 have nQ:((x::r).map MV.s).length=Ζ r+1:=by simp
 have h0:0<Ζ r+1:=Λ
 refine χ 33 [.tmp 4] func107 ?_;refine ak @zi aau ?_;refine WC.cj [5,6] [0,1] (λj:Nat=>[.s (tO x (r.take j)),mi (j+1)]) (λj O'=>O.Ge O'/\j<=Ζ r) (λj=>(Ζ r) - j) (0) ?_ ?_;exact⟨VH.Ge.refl _,ai8 _⟩;rintro j O2 ⟨ax,hj⟩;by_cases h2:j<Ζ r
 ·have bh:((x::r).map MV.s)[j+1]?=φ (.s r[j]):=by simp[h2]
  have w5:=Ro h2;have fh:=Zg x r[j] (r.take j);rw[<-bN _ _ h2]at fh
  have hm:(tO x (r.take j)).length<=10000:=by
   have:=aeh x (r.take j);rcases auu.1 this with h | h;rw[h];exact hl x z10;exact hl _ (as0 _ (List.mem_of_mem_take h))
  have hv:r[j].length<=10000:=hl _ (List.mem_cons_of_mem _ (List.getElem_mem h2));generalize tO x (r.take j)=m at*;generalize r[j]=v at*;((have ew:((j:Int)+1).toNat=j+1:=Λ;refine bo @zi aau w5 ew ?_;refine π (lJ v m _ hv hm) ?_;rintro _ O3 ⟨rfl,aB⟩;by_cases e:bt v m>0);rw[if_pos e]at fh;refine bo @zi w5 ew @e ?_;exact aw.N (j+1) ⟨ax.trans aB,Λ⟩ (hl:=(by rw[fh];rfl)));rw[if_neg e]at fh;refine bo @zi w5 ew @e ?_;exact aw.N (j+1) ⟨ax.trans aB,Λ⟩ (hl:=(by rw[fh];rfl))
 ·have rB:j=Ζ r:=Λ
  subst rB;rw[ats];refine ak @zi aau ?_;exact ax
def Zi(l:List Ρ)(tk:Tok)(O:VH)(hn:Ζ l<=maxLen)(hl:∀v∈l,Ζ v<=10000):VF Ε 78 [.l (Ζ l) (l.map .s) tk] O (aC λm O'=>m= .tuple [.s (ux l).1,mb (ux l).2]/\O.Ge O'):=by
 refine χ 9 [.tmp 2,.tmp 3] func78 ?_;cases l with
 | nil=>
   refine ak @zi @apH.{0} ?_;exact⟨rfl,VH.Ge.refl _⟩
 | cons x r=>
   (have h0:(((Ζ r+1:Nat):Int)==0)=γ:=by simp;omega);simp only[ai9]at hn;refine aF @zi @ai9.{0} h0 ?_;refine π (Zh x r tk _ hn hl) ?_;rintro _ O2 ⟨rfl,ax⟩;refine ae @zi ?_;exact⟨rfl,ax⟩
def QS(p:Ρ->Bool)(l:List Ρ)(j:Nat)(h:j<Ζ l):(l.take (j+1)).filter p=(l.take j).filter p++if p l[j]then[l[j]]else[]:=by
 rw[bN _ _ h,auE];congr 1
 cases hp:p l[j]<;>simp[hp]
def filter_le(p:Ρ->Bool)(l:List Ρ)(j:Nat):((l.take j).filter p).length<=j:=aev (apJ _ _) (by rw[List.length_take];omega)
def ahX(r:Rg)(tk:Tok)(l:List Ρ)(tl:Tok)(O:VH)(hr:DN r)(hn:Ζ l<=10000)(hl:∀v∈l,Ζ v<=10000):VF Ε 79 [.agg (jo r tk),.l (Ζ l) (l.map .s) tl] O (aC λm O'=>∃t,m= .l (l.filter (nL r ·)).length ((l.filter (nL r ·)).map .s) t/\O.Ge O'):=by
 obtain⟨hd,mf,L⟩:=r;have bK:=λx=>(VH.Ge.refl O).push x
 have KJ:(Ζ l:Int)<=9223372036854775807:=Λ
 have nQ:(l.map MV.s).length=Ζ l:=by simp
 have hk:=ζ O (.cells (jo (hd,mf,L) tk));refine χ 22 [.tmp 4] func79 ?_;(simp(disch:=first | omega | (simp only[ds]<;>omega) | fail) only[wk,wu,aT,ag,aO,y0,y10,y11,y12,y14,y16,y18,reduceIte,zi,jo];refine WC.cj [4,9] [2,7,8] (λx:Nat×Tok=>[.l ((l.take x.1).filter (nL (hd,mf,L) ·)).length (((l.take x.1).filter (nL (hd,mf,L) ·)).map .s) x.2,mi x.1]) (λx O'=>(O.push (.cells (jo (hd,mf,L) tk))).Ge O'/\App O' (O.N+1) 1 x.2/\x.1<=Ζ l) (λx=>(Ζ l) - x.1) ((0,.nil)) ?_ ?_);exact⟨VH.Ge.refl _,trivial,ai8 _⟩
 rintro⟨j,t⟩ O2 ⟨ax,cQ,hj⟩;dsimp only at cQ hj;have bC:=(ax.hp O.N (an3 _)).trans hk;have eG:=ax.N;simp only[VH.push]at eG;by_cases h2:j<Ζ l
 ·have bh:(l.map MV.s)[j]?=φ (.s l[j]):=by simp[h2]
  have fh:=QS (nL (hd,mf,L) ·) l j h2;have vR:=filter_le (nL (hd,mf,L) ·) l j;have hv:l[j].length<=10000:=hl _ (ai_ h2);generalize l[j]=v at*;generalize (l.take j).filter (nL (hd,mf,L) ·)=F at*;((simp(disch:=first | omega | (simp only[ds]<;>omega) | fail) only[wk,wu,aT,ag,aO,y0,y10,y11,y12,y14,y16,y18,reduceIte,zi,bh,bC,jo];refine π (apb (hd,mf,L) tk v _ hr hv) ?_;rintro _ O3 ⟨rfl,aB⟩;have Dc:=ax.trans aB;have nD:App O3 (O.N+1) 1 t:=cQ.fc aB.N (λi _ h=>aB.hp i h);cases hb:nL (hd,mf,L) v);rw[hb,if_neg z10,auO]at fh;refine ae @zi ?_;exact aw.N (j+1,t) ⟨Dc,nD,h2⟩ (hl:=(by dsimp only;rw[fh];rfl)));rw[hb,if_pos rfl]at fh;refine ae @zi ?_;have o_:=bE (tk':=.full) (n:=Ζ F) (k:=1) (cs:=F.map .s) (ds:=[.s v]) ue T9 nD z10 rfl rfl z12 z12 Λ z41;refine VL.app o_ ?_;refine ae @zi ?_;exact aw.N (j+1,.own O3.N 1) ⟨Dc.after nD (Rn _),App.after (by have:=aB.N;omega),h2⟩ (hl:=(by dsimp only;rw[fh,TR,aug];rfl))
 ·have rB:j=Ζ l:=Λ
  subst rB;rw[ats];refine ae @zi ?_;exact⟨_,rfl,(bK _).trans ax⟩
def akS(r:Rg)(tk:Tok)(l:List Ρ)(tl:Tok)(O:VH)(hr:DN r)(hn:Ζ l<=10000)(hl:∀v∈l,Ζ v<=10000):VF Ε 45 [.agg (jo r tk),.l (Ζ l) (l.map .s) tl] O (aC λm O'=>m= .tuple [.s (ux (l.filter (nL r ·))).1,mb (ux (l.filter (nL r ·))).2]/\O.Ge O'):=by
 obtain⟨hd,mf,L⟩:=r;have bK:=λx=>(VH.Ge.refl O).push x
 have vR:=apJ (nL (hd,mf,L) ·) l;refine χ 12 [.tmp 4,.tmp 5] func45 ?_;simp(disch:=first | omega | (simp only[ds]<;>omega) | fail) only[wk,wu,aT,ag,aO,y0,y10,y11,y12,y14,y16,y18,reduceIte,zi,jo];refine π (ahX (hd,mf,L) tk l tl _ hr hn hl) ?_;rintro _ O2 ⟨t,rfl,ax⟩;refine ae @zi ?_;refine π (Zi (l.filter (nL (hd,mf,L) ·)) t _ (aev vR (aev hn z12)) (λv hv=>hl v (auz.1 hv).1)) ?_;rintro _ O3 ⟨rfl,aB⟩;refine ak @zi @wi ?_;exact((bK _).trans ax).trans aB
def df:=ahB bW<|ahB alF<|ahB T60<|ahB aqh<|ahB aqg<|ahB alE<|ahB T42<|ahB T40<|ahB GF<|ahB IF<|ahB T34 Eo
def fp{α β :Type}(F:Except fa α)(k: α ->Except fa β):Except fa β :=match F with
 | .error e=>.error e
 | .ok y=>k y
def dC(P:Nat->Prop)(O O':VH):Prop:=O.N<=O'.N/\∀i,i<O.N->¬P i->O'.hp i=O.hp i
section
variable{P Q:Nat->Prop}{O O1 O2:VH}
def dC.dG(h:O.Ge O1):dC P O O1:=⟨h.N,λi hi _=>h.hp i hi⟩
def dC.refl:dC P O O:=⟨Rn _,λ_ _ _=>rfl⟩
def dC.trans(h:dC P O O1)(g:dC P O1 O2):dC P O O2:=⟨aev h.1 g.1,λi hi hn=>(g.2 i (abT hi h.1) hn).trans (h.2 i hi hn)⟩
def dC.ge(h:dC P O O1)(g:O1.Ge O2):dC P O O2:=h.trans (.dG g)
def dC.mono(h:dC P O O1)(hp:∀i,i<O.N->P i->Q i):dC Q O O1:=⟨h.1,λi hi hn=>h.2 i hi λe=>hn (hp i hi e)⟩
def dC.at{x:Option bO}(h:dC P O O1)(hi:i<O.N)(hn:¬P i)(e:O.hp i=x):O1.hp i=x:=(h.2 i hi hn).trans e
def dC.set(h:dC P O O1)(hi:O.N<=i\/P i)(x:bO):dC P O (O1.set i x):=⟨h.1,λj hj hn=>(τ _ _ (λe=>by subst e;rcases hi with hi | hi;exact absurd hj Λ;exact hn hi)).trans (h.2 j hj hn)⟩
def dC.after(h:dC P O O1)(g:dC Q O1 O2)(hq:∀i,i<O.N->Q i->P i):dC P O O2:=⟨aev h.1 g.1,λi hi hn=>(g.2 i (abT hi h.1) (λe=>hn (hq i hi e))).trans (h.2 i hi hn)⟩
end
def tQ(x:fa):MV:=.iface 34 (.agg (gV x))
def amu :BF 34 (iv Ε 34) (φ p)=φ (.iface 34 p):=by rw[T34.1.1];rfl
def MQ{α :Type}(P:Nat->Prop)(O:VH)(F:Except fa α)(K: α ->MV->VH->Prop):gm->VH->Prop:=λr O'=>dC P O O'/\match r,F with
 | .ret m,.ok y=>K y m O'
 | .panic m,.error e=>m=tQ e
 | _,_=>False
def ah.mq{n:Sz}{md:Md}{e:Env}{K:Env->VH->Prop}{Q:VQ}{fs vs:Η}{α β :Type}{P:Nat->Prop}{F:Except fa α}{k: α ->Except fa β}{R9:Except fa β}{C: α ->MV->VH->Prop}(hF:VF Ε f vs O (MQ P O F C))(hR:fp F k=R9)
  (h:∀x O2,dC P O O2->R9= .error x->Q (.panic (tQ x)) (jM n e) O2) (hk:∀y m O2,F= .ok y->dC P O O2->C y m O2->k y=R9->K (aU d m e) O2) (hb:cV Ε f=Α:=by kernel_rfl) (ha:fs++ms++cs=vs:=by exact rfl) (hd:bj n d=Α:=by exact rfl):ah Ε n md Q d O K e (φ (.func (.func f) fs cs)) (φ ms):=
 ah.ex F hF (λx m O2 q g=>by subst q;rw[show m=tQ x from g.2];exact h x O2 g.1 hR.symm) (λy m O2 q g=>by subst q;exact hk y m O2 rfl g.1 g.2 hR) (hb:=hb) (ha:=ha) (hd:=hd)
def w7(tb bb:Nat)(g:Gv)(p:Pm)(W:List Gv)(tw:Tok):Η:=[.p tb 0,.p bb 0]++aS g++dy p++[.l (Ζ W) (W.flatMap aS) tw]
structure j5(O:VH)(wb bb tb kr kd:Nat)(g:Gv)(p:Pm)(W:List Gv)(tw:Tok)(L:List (Bs×Bs))(R:eL)(cr:Nat)(tk:Tok)(st:cT):Prop where
 T:rG O tb kr kd L R cr tk st
 cell:O.hp wb=φ (.cells (w7 tb bb g p W tw))
 lt:wb<O.N
 ne:wb≠tb/\wb≠kr/\wb≠kd
 hR:∀e∈R,Ζ e.2.1<=100000
section
variable{O O':VH}{wb bb tb kr kd cr:Nat}{g:Gv}{p:Pm}{W:List Gv}{tw tk:Tok}{L:List (Bs×Bs)}{R:eL}{st:cT}
def j5.mv(h:j5 O wb bb tb kr kd g p W tw L R cr tk st)(hn:O.N<=O'.N)(hi:∀i,i<O.N->i=wb\/i=tb\/i=kr\/i=kd->O'.hp i=O.hp i):j5 O' wb bb tb kr kd g p W tw L R cr tk st:=
 ⟨h.T.mv hn λi e=>hi i (by obtain⟨⟨a,b,c⟩,_⟩:=h.T.lt;omega) (.inr e),(hi _ h.lt (.inl rfl)).trans h.cell,abT h.lt hn,h.ne,h.hR⟩
def j5.ge(h:j5 O wb bb tb kr kd g p W tw L R cr tk st)(k:O.Ge O'):j5 O' wb bb tb kr kd g p W tw L R cr tk st:=h.mv k.N λi hi _=>k.hp i hi
def kD(hw:O.hp wb=φ (.cells (w7 tb bb g p W tw)))(e:Int)(w:Bs):VF Ε 71 [.p wb 0,mi e,.s w] O (λr O'=>O'=O/\match r with
  | .ret _=>False
  | .panic m=>m=tQ ⟨e,g,0,0,0,w⟩):=by
 obtain⟨g1,g2,g3⟩:=g;have cz:∃A B,dy p=A/\B=A:=⟨_,_,rfl,rfl⟩
 obtain⟨b,⟨pg,pa,pv⟩,pG,pA,pV,pk,XP,XM,XD⟩:=p;simp only[w7,aS,dy,bg,List.cons_append,auM]at hw;simp only[tQ,gV,aq];refine χ 14 [] func71 ?_;refine gy df @wi @wd @amu @hw ?_;refine VL.panic rfl rfl rfl ?_;refine ae @wd ?_;trivial
end
def Bh(R:eL)(g:Gv)(s w:Bs)(st:cT):Except fa (Bs×cT):=match yW R s st with
 | .ok y=>.ok y
 | .error e=>.error ⟨e.1,g,0,0,0,w⟩
def E9{val:Bs->cT->Except yV (Bs×cT)}{kn:Bs->Bool}{nm:Bs}:∀(f:Nat)(acc s:Bs)(st:cT) {y:Bs×cT},wZ val kn nm f acc s st= .ok y->Ζ y.1<=4096
 | 0,acc,s,st,y,h=>by cases h
 | f+1,acc,s,st,y,h=>by
   rw[wZ]at h;split at h;split at h;injection h with h;subst h;rw[TR];assumption;cases h;split at h;split at h;split at h;cases h;split at h;exact E9 f _ _ _ h;cases h;split at h;exact E9 f _ _ _ h;cases h;cases h
def vv{R:eL}{g:Gv}{s w:Bs}{st:cT}{y:Bs×cT}(h:Bh R g s w st= .ok y):Ζ y.1<=4096:=by
 unfold Bh at h;split at h;rename_i h1;injection h with h;subst h;exact E9 _ _ _ _ h1;cases h
def wv(R:eL)(g:Gv)(w s want:Bs)(st:cT):Except fa cT:=fp (Bh R g s w st) λy=>if y.1=want then .ok y.2 else .error ⟨20,g,0,0,0,w⟩
def QT(R:eL)(g:Gv)(s w:Bs)(em:Bool)(st:cT):Except fa (Bs×cT):=fp (Bh R g s w st) λy=>if(iZ y.1||(em&&y.1==[]))=Α then .ok y else .error ⟨20,g,0,0,0,w⟩
def J4:Bs:=[47,118,101,114,115,105,111,110]
def amv:Bs:=[47,103,114,111,117,112,73,100]
def amw:Bs:=[47,97,114,116,105,102,97,99,116,73,100]
def amx:Bs:=[47,116,121,112,101]
def amy:Bs:=[47,99,108,97,115,115,105,102,105,101,114]
def Bi:Bs:=[106,97,114]
def oQ(g:Gv)(s w:Bs):Except fa Rg:=if(ee s).2=0 then .ok (ee s).1 else .error ⟨(ee s).2,g,0,0,0,w++J4⟩
def N1(t:Bs):Bs:=if t=[]then Bi else t
def wA(R:eL)(g:Gv)(d:Dp)(w:Bs)(st:cT):Except fa (Dp×cT):=
 fp (QT R g d.g (w++amv) γ st) λy1=>fp (QT R g d.a (w++amw) γ y1.2) λy2=>fp (Bh R g d.v (w++J4) y2.2) λy3=>
 fp (if y3.1=[]then .ok ((γ,[],[]):Rg)else oQ g y3.1 w) λ_=>fp (QT R g (N1 d.t) (w++amx) γ y3.2) λy5=>fp (QT R g d.c (w++amy) Α y5.2) λy6=>
 .ok (⟨y1.1,y2.1,y3.1,y5.1,y6.1,d.s,d.o,d.x⟩,y6.2)
section
variable{O O':VH}{wb bb tb kr kd cr:Nat}{g:Gv}{p:Pm}{W:List Gv}{tw tk:Tok}{L:List (Bs×Bs)}{R:eL}{st:cT}
def Hy(h:j5 O wb bb tb kr kd g p W tw L R cr tk st)(s w:Bs)(hs:Ζ s<=100000:=by omega):VF Ε 70 [.p wb 0,.s s,.s w] O (MQ (λi=>i=tb\/i=kd) O (Bh R g s w st) λy m O'=>m= .s y.1/\j5 O' wb bb tb kr kd g p W tw L R cr tk y.2):=by
 have hex:=YZ h.hR h.T s hs;have her:=λe=> @ES R s st e
 unfold Bh;generalize yW R s st=X at*;have hw:=h.cell;have bI:=h.lt;have hne:=h.ne;have PV:=h.T.lt;obtain⟨A,hA⟩:∃A,w7 tb bb g p W tw= .p tb 0::A:=⟨_,rfl⟩
 rw[hA]at hw;refine ω 27 [.tmp 6] func70 ?_;refine κ df ?_;refine ξ df @hw ?_;refine π hex ?_;rintro m O2 ⟨hf,hm⟩;have xc:O2.hp wb=φ (.cells (w7 tb bb g p W tw)):=(hf.2 _ bI hne.1 hne.2.2).trans h.cell;have hfx:dC (λi=>i=tb\/i=kd) O O2:=⟨hf.1,λi hi hn=>hf.2 i hi (λe=>hn (.inl e)) (λe=>hn (.inr e))⟩;cases X with
 | error e=>
   obtain⟨e,x⟩:=e;dsimp only at hm;subst hm;(have IU:(e != 0)=Α:=by simpa using her (e,x) rfl);simp only[aq];refine ae df ?_;refine ξ df IU ?_;refine η (kD xc e w) ?_;refine ak df @wd ?_;exact⟨hfx,rfl⟩
 | ok y=>
   obtain⟨rfl,hT⟩:=hm;refine ae df ?_;refine ν df ?_;exact⟨hfx,rfl,hT,xc,by have:=hf.1;omega,hne,h.hR⟩
def E_(h:j5 O wb bb tb kr kd g p W tw L R cr tk st)(w s want:Bs)(hs:Ζ s<=100000:=by omega):VF Ε 69 [.p wb 0,.s w,.s s,.s want] O (MQ (λi=>i=tb\/i=kd) O (wv R g w s want st) λy _ O'=>j5 O' wb bb tb kr kd g p W tw L R cr tk y):=by
 obtain⟨R9,hR⟩:∃R9,wv R g w s want st=R9:=⟨_,rfl⟩
 rw[hR];unfold wv at hR;refine ω 17 [] func69 ?_;refine κ df ?_;refine ah.mq (Hy h s w hs) hR ?_ ?_;rintro e O9 jG rfl;refine ak df @wd ?_;exact⟨jG,rfl⟩;clear hR;rintro y m O2 LD jh h2 hR;obtain⟨y,Qy⟩:=y;obtain⟨rfl,h2⟩:=h2;dsimp only at hR h2 ⊢;by_cases e:y=want;rw[if_pos e]at hR;subst hR;((have hb:(!y==want)=γ:=by simpa using e);refine ο df hb ?_;exact⟨jh,h2⟩);rw[if_neg e]at hR;subst hR;((have hb:(y != want)=Α:=by simpa using e);have bV:(!y==want)=Α:=by simpa using e);refine ak df (ahB hb bV) ?_;refine VC.qI rfl ?_;refine ν df ?_;refine η (kD h2.cell 20 w) ?_;refine ak df @wd ?_;exact⟨jh,rfl⟩
end
end Go.Proofs.YtnfdmplcieacjaaGreatDoor
