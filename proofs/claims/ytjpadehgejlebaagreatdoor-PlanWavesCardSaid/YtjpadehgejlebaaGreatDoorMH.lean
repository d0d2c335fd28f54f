import Derived.Test.YtjpadehgejlebaaGreatDoorMG
set_option linter.unusedVariables false
set_option linter.defProp false
set_option maxHeartbeats 8000000
set_option linter.unusedSimpArgs false
namespace Go.Proofs.YtjpadehgejlebaaGreatDoor
open Go.RowKit
open _root_.List renaming range → Ν
open _root_.List renaming replicate → Μ
open _root_.Go.Proofs.Tryz
open Go.Value renaming int → Ι
open Go.IntKind renaming i64 → Κ
open _root_.List renaming length → Ζ
open _root_.Go.Proofs.Tryz renaming prog → Ε
open _root_.Option renaming some → φ, none → Β
open _root_.Bool renaming false → γ, true → Α
open _root_.List renaming getElem?_eq_getElem → Ca, getElem_mem → Th, mem_cons_self → Ti, length_map → WT, getD_eq_getElem?_getD → YI, not_mem_nil → aga, mem_cons → agb, getElem?_map → agc, length_cons → akb, append_assoc → akd, mem_cons_of_mem → alO, mem_range → alP, countP_eq_zero → alQ, filter_cons → alR, mem_map → alS, getElem?_append_right → alT, take_length → alU, nodup_cons → alV, take_append_getElem → ap2, length_append → ap3, length_eq_zero_iff → ap4, countP_cons → ap5, contains_iff_mem → ap6, eq_replicate_iff → ap7, all_eq_true → ap8, countP_le_length → ap9, mem_singleton → ap_, length_range → aqc, getElem?_eq_some_iff → aqd, drop_eq_getElem_cons → aqe, append_cancel_right → aqf, append_nil → aqh, map_append → aqi, nodup_nil → aqm, all_cons → aqo
open _root_.Nat renaming zero_le → af_, le_trans → ake, le_refl → aoT, lt_succ_self → aqg, not_lt_zero → aqj, mul_one → aqk
open _root_.And renaming intro → abx
open _root_.Int renaming eq_ofNat_of_zero_le → aka
open _root_.Bool renaming and_eq_true → akc, eq_false_iff → akf, not_eq_true' → aqa, and_true → aqb
variable{s:Fd}{g:List (List Int)}{P l rest:List Nat}{gv po pw:MV}{B N a k kb kc n v:Nat}{d:Nat->Bool}{p:Nat->Nat}{C O:VH}{b:pj}
set_option maxRecDepth 10000
def ajV(s:Fd)(n:Nat)(l:Τ):Nat->Nat:=match l with
 | []=>s.low
 | up::_=>dM s.low up (min (s.low up) (s.low n))
def jl(s:Fd)(n:Nat)(l:Τ):Fd:={s with dN:=l,low:=ajV s n l}
def GR.aS{el:TypeId}{p:MV}{L:Η}(h:GR O el 1 B p (n+1) L):∃k c,p= .aS k 0 (n+1) c/\n+1<=c/\∃sp,O.hp k=φ (.cells (L++sp)):=by
 rcases h with⟨h0,_⟩ | ⟨k,c,e,g1,_,g3⟩;cases h0;obtain⟨sp,r1,_⟩:=g3.cells;exact⟨k,c,e,g1,sp,r1⟩
def o9(s:Fd)(Q R:Τ):Fd:={s with eT:=R,j6:=λv=>s.j6 v&& !Q.contains v,ou:=λv=>if Q.contains v then s.last else s.ou v}
def abo(s:Fd)(Q R R':Τ)(x:Nat):dM (o9 s Q R).j6 x γ=(o9 s (Q++[x]) R').j6:=funext λv=>by
 unfold dM o9;by_cases e:v=x;subst e;simp;simp[e]
def abp(s:Fd)(Q R R':Τ)(x:Nat):dM (o9 s Q R).ou x s.last=(o9 s (Q++[x]) R').ou:=funext λv=>by
 unfold dM o9;by_cases e:v=x;subst e;simp;simp[e]
def FS.to{O':VH}{Jv Jw:MV}{s':Fd}(h:FS C B b gv N po pw s O)(hn:O'.N=O.N)(hi:∀i,i ∉ b.all->O'.hp i=O.hp i)
  (hf:O'.hp b.f=φ (.cells (m_ b gv N Jv Jw s'))) (hm:O'.hp b.m=φ (.cells (cR s'.met N))) (hl:O'.hp b.l=φ (.cells (cR s'.low N))) (hx:O'.hp b.n=φ (.cells (cR s'.fY N))) (hb:O'.hp b.i=φ (.cells (nV s'.j6 N))) (hg:O'.hp b.g=φ (.cells (cR s'.ou N)))
  (go:GR O 3 1 B Jv (Ζ s'.eT) (gZ s'.eT.reverse)) (gw:GR O 3 1 B Jw (Ζ s'.dN) (gZ s'.dN.reverse)) (hne:∀k,gid Jv=φ k->gid Jw≠φ k):FS C B b gv N Jv Jw s' O':=by
 have jn:=h.lo
 have gV:∀j∈b.all,∃cs,O.hp j=φ (.cells cs):=by
  simp only[pj.all,agb,aga,or_false,forall_eq_or_imp,forall_eq];exact⟨⟨_,h.cell⟩,⟨_,h.met⟩,⟨_,h.low⟩,⟨_,h.fY⟩,⟨_,h.j6⟩,⟨_,h.ou⟩⟩
 have mS:∀{p:MV} {n:Nat} {L:Η},GR O 3 1 B p n L->GR O' 3 1 B p n L:=λ{p n L} hg=>hg.fr (by omega) (λk hk=>hi k λe=>by have h1:=(hg.ic k hk).1;have h2:=(jn k e).2;omega) (λj k t n hj _=>hi j (λe=>by obtain⟨cs,h2⟩:=gV j e;rw[h2]at hj;cases hj))
 exact⟨⟨by rw[hn];exact h.ge.N,λi hC=>(hi i λe=>by have:=(jn i e).1;omega).trans (h.ge.hp i hC)⟩,hf,hm,hl,hx,hb,hg,mS go,mS gw,hne,h.nd,h.lo,by rw[hn];exact h.hi⟩
def afU(h:FS C B b gv N po pw s O)(ajW:s.dN=v::l)(Tc:s.eT=P++v::rest)(ew:v ∉ l)(hvP:v ∉ P)(dm:∀x∈s.eT,x<N)(xd:∀x∈l,x∈s.eT)(hN:N<=1000000)(apQ:∀x,s.met x<=N)(aom:∀x∈s.eT,s.low x<=N)(apf:s.last<=N)(EC:Ζ s.eT<=N)(lZ:Ζ s.dN<=N):
  VF Ε 83 [.p b.f 0,mi v] O (aH λ_ O'=>∃Jv Jw,if s.low v=s.met v then FS C B b gv N Jv Jw (Ju (jl s v l) (P++[v]) rest l) O' else FS C B b gv N Jv Jw (jl s v l) O'):=by
 have eN:=h.nd;have jn:=h.lo;have xI:=h.gw;rw[ajW]at xI;obtain⟨kw,cw,rfl,hcw,spw,WA⟩:=GR.aS (n:=Ζ l) xI;have cj:=h.cell;unfold m_ at cj;simp only[aq]at cj;simp only[pj.all,alV,agb,aga,or_false,not_or,aqm,and_true]at eN;simp only[pj.all,agb,aga,or_false,forall_eq_or_imp,forall_eq]at jn;have AF:Ζ l<1000000:=by rw[ajW,akb]at lZ;omega
 have qE:(((Ζ l+1:Nat):Int) - 1)=(Ζ l:Int):=by omega
 rw[aq];refine ω 124 [] func83 ?_;refine Γ ?_;refine WC.bW (.held [14]) [(0,.rd),(1,.rd),(2,.rd),(3,.rd),(4,.rd),(5,.rd),(6,.rd),(7,.rd),(8,.rd),(9,.rd),(10,.rd),(11,.rd),(12,.one),(13,.rd),(14,.one)] ?_;refine cB ay cj @oB qE ?_;refine VC.gen ?_;intro O1 e1;have gh:∀i,i≠b.f->O1.hp i=O.hp i:=λi hi=>by rw[e1];exact π _ _ hi
 have dd:O1.N=O.N:=by rw[e1];rfl
 have D5:O1.hp b.f=φ (.cells (m_ b gv N po (.aS kw 0 (Ζ l) cw) {s with dN:=l})):=by rw[e1];exact υ _ _ _
 clear e1;have iM:=(xI.ic kw rfl).1;have hnr:gZ (v::l).reverse=gZ l.reverse++[mi v]:=by simp[gZ]
 rw[hnr]at xI WA;have yX:=xI.pop (n:=Ζ l) (by simp[gZ]);have mS:∀{p:MV} {n:Nat} {L:Η},GR O 3 1 B p n L->GR O1 3 1 B p n L:=λ{p n L} hg=>hg.fr (by omega) (λk hk=>by have:=(hg.ic k hk).1;exact gh k (by omega)) (λj k t n hj _=>gh j (λe=>by rw[e,h.cell]at hj;cases hj))
 have Jx:FS C B b gv N po (.aS kw 0 (Ζ l) cw) {s with dN:=l} O1:=
  h.to dd (λi hi=>gh i λe=>hi (by rw[e];simp[pj.all])) D5 ((gh _ (Ne.symm eN.1.1)).trans h.met) ((gh _ (Ne.symm eN.1.2.1)).trans h.low) ((gh _ (Ne.symm eN.1.2.2.1)).trans h.fY) ((gh _ (Ne.symm eN.1.2.2.2.1)).trans h.j6) ((gh _ (Ne.symm eN.1.2.2.2.2)).trans h.ou) h.go yX (λk hk e=>h.ne k hk e)
 clear cj;have cj:=D5;unfold m_ at cj;simp only[aq]at cj;have YD:∀m:Nat,decide (((m+1:Nat):Int)>0)=Α:=λm=>decide_eq_true (by omega)
 have alK:∀m:Nat,decide ((0:Int)<((m+1:Nat):Int))=Α:=λm=>decide_eq_true (by omega)
 have ajX:=(gh kw (by omega)).trans WA;have ph:=(gh b.l (Ne.symm eN.1.2.1)).trans h.low;have n_:=ef s.low N;have GH:v<N:=dm v (by rw[Tc];simp);have hvv:=iK s.low GH;refine Ξ [0,1] (λ_:Unit=>[.p b.f 0,.v (Ι Κ v)]) (λ_ O'=>FS C B b gv N po (.aS kw 0 (Ζ l) cw) (jl s v l) O') ?_ ?_
 ·refine θ (aE ay cj @oB ?_);cases l with
  | nil=>
    rw[List.length_nil]at*;have SW:decide (((0:Nat):Int)>0)=γ:=rfl;have pZ:decide ((0:Int)<((0:Nat):Int))=γ:=rfl;refine ae ay ?_;refine ξ ay (abx SW pZ) ?_;refine ν ay ?_;exact aB.mk () Jx
  | cons up l=>
  have bG:(gZ (up::l).reverse++[mi v]++spw)[Ζ l]?=φ (MV.v (Ι Κ up)):=by
   have:gZ (up::l).reverse=gZ l.reverse++[mi up]:=by simp[gZ]
   rw[this,akd,akd,alT (by simp[gZ])];simp[gZ];rfl
  have ajY:up<N:=dm up (xd up Ti);have huu:=iK s.low ajY;((((have fz:∀x:Nat,(cR s.low N).set up (.v (Ι Κ x))=cR (dM s.low up x) N:=λx=>nL _ ajY);have wh:(((Ζ l+1:Nat):Int) - 1)=(Ζ l:Int):=by omega);rw[List.length_cons]at*;generalize gZ (up::l).reverse++[mi v]++spw=W at*;simp only[aq]at hvv huu;refine ae @ay ?_;refine ξ @ay (And.intro YD alK) ?_;refine VC.pC rfl ?_;refine θ (wc @ay @cj @oB @ajX @bG @wh ?_);refine WC.bW (.held [21]) [(0,.rd),(1,.rd),(2,.rd),(3,.rd),(4,.rd),(5,.rd),(6,.rd),(7,.rd),(8,.rd),(9,.rd),(10,.rd),(11,.rd),(12,.rd),(13,.rd),(14,.rd),(15,.rd),(16,.rd),(17,.rd),(18,.rd),(19,.rd),(20,.rd),(21,.one)] ?_;have afV:min ((s.low up:Nat):Int) ((s.low v:Nat):Int)=((min (s.low up) (s.low v):Nat):Int):=by omega);refine JS ay cj ph hvv huu n_ afV fz ?_;have cn:∀(x:cx) i,i≠b.l->(O1.set b.l x).hp i=O1.hp i:=λx i hi=>π _ _ hi);exact aB.mk () (Jx.to rfl (λi hi=>cn _ i λe=>hi (by rw[e];simp[pj.all])) ((cn _ _ eN.1.2.1).trans Jx.cell) ((cn _ _ eN.2.1.1).trans Jx.met) (υ _ _ _) ((cn _ _ (Ne.symm eN.2.2.1.1)).trans Jx.fY) ((cn _ _ (Ne.symm eN.2.2.1.2.1)).trans Jx.j6) ((cn _ _ (Ne.symm eN.2.2.1.2.2)).trans Jx.ou) Jx.go Jx.gw Jx.ne)
 clear Jx cj D5 ajX ph gh yX mS WA xI n_ hvv;rintro _ O2 yV
 have ll:(jl s v l).low v=s.low v:=by
  cases l with
  | nil=>rfl
  | cons up l=>exact j7 _ _ (λe=>ew (by rw[e];exact Ti))
 have cj:=yV.cell;unfold m_ at cj;simp only[aq]at cj;have ni:=yV.low;have rT:=yV.met;have uU:=ef (jl s v l).low N;have n_:=ef (jl s v l).met N;have cJ:=iK (jl s v l).low GH;have fy:=iK (jl s v l).met GH;rw[ll]at cJ;have hmm:(jl s v l).met v=s.met v:=rfl;rw[hmm]at fy;simp only[aq]at cJ fy;refine κ ay ?_;refine WC.reads ?_;refine JS ay cj ni rT uU n_ cJ fy ?_;by_cases he:s.low v=s.met v;rotate_left
 ·(have cC:(((s.low v:Nat):Int) != ((s.met v:Nat):Int))=Α:=by simp;omega);rw[cC];refine ae ay ?_;exact⟨_,_,by rw[if_neg he];exact yV⟩
 have cC:(((s.low v:Nat):Int) != ((s.met v:Nat):Int))=γ:=by rw[he];simp
 rw[cC];refine ae ay ?_;clear cj ni rT uU n_ cJ fy cC;refine Ξ [0,1] (λ_:MV=>[.p b.f 0,.v (Ι Κ v)]) (λp O'=>FS C B b gv N p (.aS kw 0 (Ζ l) cw) (o9 (jl s v l) (P++[v]) rest) O') ?_ ?_
 ·refine χ ?_;refine Θ [] [0,1] (λ_:Τ×Τ×MV=>[]) (λx O'=>x.1++x.2.1=P++v::rest/\(∃P2,x.2.1=P2++v::rest)/\FS C B b gv N x.2.2 (.aS kw 0 (Ζ l) cw) (o9 (jl s v l) x.1 x.2.1) O') (λx=>Ζ x.2.1) (([],s.eT,po)) ?_ ?_;refine⟨Tc,⟨P,Tc⟩,?_⟩;((have:o9 (jl s v l) [] s.eT=jl s v l:=by simp[o9,jl]);dsimp only;rw[this];exact yV);clear yV;rintro⟨Q,R,p⟩ O3 ⟨hQR,⟨P2,hP2⟩,mf⟩;dsimp only at hQR hP2 mf ⊢
  obtain⟨x,R',rfl,hx⟩:∃x R',R=x::R'/\((x=v/\R'=rest)\/∃P3,R'=P3++v::rest):=by
   cases P2 with
   | nil=>exact⟨v,rest,hP2,.inl ⟨rfl,rfl⟩⟩
   | cons y P3=>exact⟨y,P3++v::rest,hP2,.inr ⟨P3,rfl⟩⟩
  (have hxo:x∈s.eT:=by rw[Tc, <-hQR];simp);have hxN:=dm x hxo
  have Rr:Ζ R'<1000000:=by
   have:=congrArg List.length hQR;rw[<-Tc]at this;simp at this;omega
  have nv:GR O3 3 1 B p (Ζ R'+1) (gZ (x::R').reverse):=mf.go;obtain⟨ko,co,rfl,hco,spo,BY⟩:=GR.aS nv;(have aox:gZ (x::R').reverse=gZ R'.reverse++[mi x]:=by simp[gZ]);rw[aox]at nv BY;have yX:=nv.pop (n:=Ζ R') (by simp[gZ]);have apR:=(nv.ic ko rfl).1
  have bG:(gZ R'.reverse++[mi x]++spo)[Ζ R']?=φ (MV.v (Ι Κ x)):=by
   rw[akd,alT (by simp[gZ])];simp[gZ];rfl
  have wh:(((Ζ R'+1:Nat):Int) - 1)=(Ζ R':Int):=by omega
  generalize hW:gZ R'.reverse++[mi x]++spo=W at BY bG;clear hW;have cj:=mf.cell;unfold m_ at cj;simp only[aq]at cj;refine χ ?_;refine κ ay ?_;refine WC.reads ?_;refine wc ay cj @oB wh BY bG ?_;refine Γ ?_;refine WC.bW (.held [14]) [(0,.rd),(1,.rd),(2,.rd),(3,.rd),(4,.rd),(5,.rd),(6,.rd),(7,.rd),(8,.rd),(9,.rd),(10,.rd),(11,.rd),(12,.one),(13,.rd),(14,.one)] ?_;refine cB ay cj @oB wh ?_;refine VC.gen ?_;intro O4 e4;(((((((((have gE:∀i,i≠b.f->O4.hp i=O3.hp i:=λi hi=>by rw[e4];exact π _ _ hi);have fT:O4.N=O3.N:=by rw[e4];rfl);have GD:O4.hp b.f=φ (.cells (m_ b gv N (.aS ko 0 (Ζ R') co) (.aS kw 0 (Ζ l) cw) (o9 (jl s v l) Q R'))):=by rw[e4];exact υ _ _ _);clear e4 cj;have cj:=GD;unfold m_ at cj;simp only[aq,o9,jl]at cj;have dy:=(gE b.i (Ne.symm eN.1.2.2.2.1)).trans mf.j6;have aT:=(gE b.g (Ne.symm eN.1.2.2.2.2)).trans mf.ou;refine Γ ?_;refine VC.pI [5,6,7,9,10,11,12,14,15,16,17] (b.f) (cj) ?_;intro X;refine aqL 5 ?_;refine ae ay ?_;refine aqL 6 ?_;refine ae ay ?_;refine aqL 7 ?_;refine ae ay ?_;refine aqL 9 ?_;refine ae ay ?_;refine aqL 10 ?_;refine ae ay ?_;refine aqL 11 ?_;refine ae ay ?_;refine aqL 12 ?_;refine ae ay ?_;refine ρ 0 ay ?_;refine ρ 1 ay ?_;refine ρ 2 ay ?_;refine δ (m:=.aS b.i 0 N N) 3 ?_ ?_);exact ff ay);simp only[ak];refine ρ 4 ay ?_;refine δ (m:=.aS b.g 0 N N) 8 ?_ ?_);exact ff ay);simp only[ak];refine δ (m:=.v (Ι Κ (s.last:Nat))) 13 ?_ ?_);exact ff ay);simp only[ak];refine aqQ [(14,.bh),(15,.one),(16,.bh),(17,.one)] ?_;rw[VH.vk O4 b.f cj];have RU:(nV (o9 (jl s v l) Q (x::R')).j6 N).set x (.v (.bool γ))=nV (o9 (jl s v l) (Q++[x]) R').j6 N:=(Fb _ hxN).trans (by rw[abo _ _ _ R']);have ad6:(cR (o9 (jl s v l) Q (x::R')).ou N).set x (.v (Ι Κ (s.last:Nat)))=cR (o9 (jl s v l) (Q++[x]) R').ou N:=(nL _ hxN).trans (congrArg (cR · N) (abp (jl s v l) Q (x::R') R' x));have uU:=nK (o9 (jl s v l) Q (x::R')).j6 N;have n_:=ef (o9 (jl s v l) Q (x::R')).ou N;refine Nf ay dy aT RU ad6 uU n_ ?_;refine VC.gen ?_;intro O5 e5;have dS:∀i,i≠b.i->i≠b.g->O5.hp i=O4.hp i:=λi h1 h2=>by rw[e5];exact(π _ _ h2).trans (π _ _ h1)
  have hS5:FS C B b gv N (.aS ko 0 (Ζ R') co) (.aS kw 0 (Ζ l) cw) (o9 (jl s v l) (Q++[x]) R') O5:=
   mf.to (by rw[e5];exact fT) (λi hi=>(dS i (λe=>hi (by rw[e];simp[pj.all])) (λe=>hi (by rw[e];simp[pj.all]))).trans (gE i λe=>hi (by rw[e];simp[pj.all]))) ((dS _ eN.1.2.2.2.1 eN.1.2.2.2.2).trans GD)
    ((dS _ eN.2.1.2.2.1 eN.2.1.2.2.2).trans ((gE _ (Ne.symm eN.1.1)).trans mf.met)) ((dS _ eN.2.2.1.2.1 eN.2.2.1.2.2).trans ((gE _ (Ne.symm eN.1.2.1)).trans mf.low)) ((dS _ eN.2.2.2.1.1 eN.2.2.2.1.2).trans ((gE _ (Ne.symm eN.1.2.2.1)).trans mf.fY))
    (by rw[e5];exact(π _ _ eN.2.2.2.2.1).trans (υ _ _ _)) (by rw[e5];exact υ _ _ _) yX mf.gw (λk hk=>mf.ne k hk)
  clear e5 cj GD dy aT gE dS;refine κ ay ?_;have afW:Q++x::R'=P++v::rest:=hQR;by_cases mK:x=v
  ·(have hb:(((x:Nat):Int)==((v:Nat):Int))=Α:=by rw[mK];simp);rw[hb];refine VC.pC rfl ?_
   obtain⟨rfl,rfl⟩:Q=P/\R'=rest:=by
    rcases hx with⟨_,e⟩ | ⟨P3,e⟩;subst mK;subst e;exact⟨aqf afW,rfl⟩;subst e;have:Q++x::P3=P:=aqf (by rw[akd];exact afW);exact absurd (by rw[<-this,mK];simp) hvP
   subst mK;refine ν ay ?_;exact aB.mk _ hS5
  ·(have hb:(((x:Nat):Int)==((v:Nat):Int))=γ:=by rw[beq_eq_false_iff_ne];omega);rw[hb];refine VC.uy rfl ?_
   obtain⟨P3,rfl⟩:∃P3,R'=P3++v::rest:=by
    rcases hx with⟨e,_⟩ | h;exact absurd e mK;exact h
   refine ν ay ?_;exact az.N (Q++[x],P3++v::rest,_) ⟨by rw[akd];exact afW,⟨P3,rfl⟩,hS5⟩ (hm:=by dsimp only;rw[akb];omega)
 rintro p O3 mf;have cj:=mf.cell;unfold m_ at cj;simp only[aq,o9,jl]at cj;have EL:((s.last:Nat):Int)+1=((s.last+1:Nat):Int):=by omega
 refine ι (aE ay cj EL ?_);refine⟨p,.aS kw 0 (Ζ l) cw,?_⟩;rw[if_pos he];have gE:∀(y:cx) i,i≠b.f->(O3.set b.f y).hp i=O3.hp i:=λy i hi=>π _ _ hi
 exact mf.to (s':=Ju (jl s v l) (P++[v]) rest l) rfl (λi hi=>gE _ i λe=>hi (by rw[e];simp[pj.all])) (υ _ _ _) ((gE _ _ (Ne.symm eN.1.1)).trans mf.met) ((gE _ _ (Ne.symm eN.1.2.1)).trans mf.low) ((gE _ _ (Ne.symm eN.1.2.2.1)).trans mf.fY) ((gE _ _ (Ne.symm eN.1.2.2.2.1)).trans mf.j6) ((gE _ _ (Ne.symm eN.1.2.2.2.2)).trans mf.ou) mf.go mf.gw mf.ne
def afX(h:TI g Β s)(hw:s.dN=n::l)(hl:s.low n=s.met n):jl s n l={s with dN:=l}:=by
 unfold jl;cases l with
 | nil=>rfl
 | cons up l=>
   have h1:=h.zJ up (h.r5 (by rw[hw];simp));have h2:=h.top hw up Ti
   have:ajV s n (up::l)=s.low:=funext λv=>by
    show dM s.low up (min (s.low up) (s.low n)) v=_;unfold dM;by_cases e:v=up;rw[if_pos e,e];omega;rw[if_neg e]
   rw[this]
def TI.left(h:TI g Β s){r:Χ}(hw:s.dN=n::l)(hr:g[n]?=φ r)(hx:s.fY n=Ζ r)(ho:s.eT=P++n::rest):TI g Β (if s.low n=s.met n then Ju (jl s n l) (P++[n]) rest l else jl s n l):=by
 by_cases hl:s.low n=s.met n;rw[if_pos hl,afX h hw hl];exact h.pop hw hr hx hl ho
 ·rw[if_neg hl];have hb:=h.below hw hl;cases l with
  | nil=>exact absurd rfl hb
  | cons up l=>exact h.qT hw hr hx hl
def ais{T:Nat->Tok}{tk:Tok}(h:FS C B b (.l (Ζ g) (bz g T) tk) (Ζ g) po pw s O)(hT:TI g Β s)(hw:s.dN=[])(hv:v<Ζ g)(h0:s.met v=0)(hs:sm 1000000 g):
  VF Ε 68 [.p b.f 0,mi v] O (aH λ_ O'=>∃Jv Jw s',FS C B b (.l (Ζ g) (bz g T) tk) (Ζ g) Jv Jw s' O'/\TI g Β s'/\s'.dN=[]/\s'.met v≠0/\∀x,s.met x≠0->s'.met x≠0):=by
 rw[aq];have ajo:=hT.num;have jn:=hT.lo;have fE:=abn s.met (Ζ g);have n9:=hs.1;refine ω 110 [] func68 ?_;refine VC.scope ?_;refine κ ay ?_;have hen:=Ta h hv (by omega) (by omega) (by omega) (by rw[hw];exact af_ _);rw[aq]at hen;refine τ hen ?_;rintro m O1 ⟨po1,pw1,h1⟩;have hT1:=hT.enter hv h0 (.inl ⟨rfl,hw⟩);refine ae ay ?_;refine Γ (VC.label ?_);refine χ ?_;refine Θ [] [0] (λ_:Fd×MV×MV=>[]) (λx O'=>FS C B b (.l (Ζ g) (bz g T) tk) (Ζ g) x.2.1 x.2.2 x.1 O'/\TI g Β x.1/\x.1.met v≠0/\∀y,s.met y≠0->x.1.met y≠0) (λx=>2*qc x.1.met (Ζ g)+Ζ x.1.dN) ((iU s v,po1,pw1)) ?_ ?_;refine⟨h1,hT1,?_,λy hy=>?_⟩;show dM s.met v (s.bP+1) v≠0;rw[ji];omega;show dM s.met v (s.bP+1) y≠0;unfold dM;split;omega;exact hy;rintro⟨s2,po2,pw2⟩ O2 ⟨yV,DN,px,rT⟩;dsimp only at yV DN px rT ⊢;have cj:=yV.cell;unfold m_ at cj;simp only[aq]at cj;have hwo:=DN.sub.length_le;have apg:=DN.num;have apS:=DN.lo;have ew:=yV.gw.u_ (t:=3) (a:=1) (b:=24) (z:=[.l 0 [] .nil]);have T0:decide ((Ζ s2.dN:Int)>0)=decide (0<Ζ s2.dN):=by simp
 have Yx:decide ((0:Int)<(Ζ s2.dN:Int))=decide (0<Ζ s2.dN):=by simp
 refine θ (cB ay cj ew (abx T0 Yx) ?_)
 have gV:s2.dN=[]\/∃n l,s2.dN=n::l:=by
  cases s2.dN with
  | nil=>exact .inl rfl
  | cons n l=>exact .inr ⟨n,l,rfl⟩
 rcases gV with qh | ⟨n,l,qh⟩
 ·(have hb:decide (0<Ζ s2.dN)=γ:=by rw[qh];rfl);rw[hb];refine ae ay ?_;exact⟨po2,pw2,s2,yV,DN,qh,px,rT⟩
 have hb:decide (0<Ζ s2.dN)=Α:=by rw[qh];simp
 rw[hb];refine ae ay ?_;have xI:=yV.gw;rw[qh]at xI hwo;obtain⟨kw,cw,rfl,hcw,spw,WA⟩:=GR.aS (n:=Ζ l) xI;have dh:n∈s2.eT:=DN.r5 (by rw[qh];exact Ti);have Fc:=DN.lt n dh
 have bG:(gZ (n::l).reverse++spw)[Ζ l]?=φ (MV.v (Ι Κ n)):=by
  have:gZ (n::l).reverse=gZ l.reverse++[mi n]:=by simp[gZ]
  rw[this,akd,alT (by simp[gZ])];simp[gZ];rfl
 have qE:(((Ζ l+1:Nat):Int) - 1)=(Ζ l:Int):=by omega
 have AF:Ζ l<1000000:=by rw[akb]at hwo;omega
 generalize gZ (n::l).reverse++spw=W at WA bG;refine χ ?_;refine κ ay ?_;refine WC.reads ?_;refine iV ay cj @oB qE (abx WA bG) ?_;have qf:g[n]?=φ g[n]:=Ca Fc;have cU:=iw g T Fc;have pW:=eM g T;have pB:=DN.may g[n] (Th Fc);have tO:=hs.2 g[n] (Th Fc);generalize g[n]=r at*;have hrm:(r.map mi).length=Ζ r:=WT _;have hra:∀(j:Nat)(y:Int),r[j]?=φ y->(r.map mi)[j]?=φ (MV.v (Ι Κ y)):=λj y h=>by rw[agc,h];rfl
 generalize r.map mi=cs at*;generalize bz g T=A at*;refine Γ ?_;refine χ ?_;refine Θ [] [0,4] (λ_:Fd=>[]) (λx O'=>FS C B b (.l (Ζ g) A tk) (Ζ g) po2 (.aS kw 0 (Ζ l+1) cw) x O'/\TI g Β x/\x.dN=n::l/\x.met=s2.met) (λx=>(Ζ r) - x.fY n) (s2) ?_ ?_;exact⟨yV,DN,qh,rfl⟩;clear cj WA bG yV DN;rintro s3 O3 ⟨mf,xA,DB,zb⟩;have fw:=mf.cell;unfold m_ at fw;simp only[aq]at fw;have kD:=mf.fY;have hzx:=ef s3.fY (Ζ g);have rA:=iK s3.fY Fc;simp only[aq]at rA;have kV:decide ((s3.fY n:Int)<(Ζ r:Int))=decide (s3.fY n<Ζ r):=by simp
 refine κ ay ?_;refine WC.reads ?_;refine Nf ay fw kD (abx hzx rA) (abx cU pW) @oB kV ?_;have hnw:n∈s3.dN:=by rw[DB];exact Ti
 have aoy:=xA.r5 hnw;have alL:=xA.num;have apT:=xA.lo;have ajZ:=xA.Bx;have apU:=xA.sub.length_le;by_cases dm:s3.fY n<Ζ r;rotate_left;rw[decide_eq_false dm];refine ae ay ?_;obtain⟨P,rest,ux⟩:=List.append_of_mem aoy;have aoz:s3.fY n=Ζ r:=Nat.le_antisymm (xA.nx n hnw r qf) (by omega);have afY:=xA.nd;have aj0:=afY.sublist xA.sub;rw[ux]at afY;rw[DB]at aj0;have hle:=afU mf DB ux (alV.1 aj0).1 (λe=>(List.nodup_append.1 afY).2.2 n e n Ti rfl) xA.lt (λx hx=>xA.r5 (by rw[DB];exact alO _ hx)) (by omega) (λx=>by have:=ajZ x;omega) (λx hx=>by have:=ajZ x;have:=xA.zJ x hx;omega) (by omega) (by omega) (by omega);have qG:=xA.left DB qf aoz ux;rw[aq]at hle;refine ν ay ?_;refine τ hle ?_;rintro _ O4 ⟨po4,pw4,h4⟩;refine ae ay ?_;by_cases he:s3.low n=s3.met n;rw[if_pos he]at h4 qG;refine az.N (Ju (jl s3 n l) (P++[n]) rest l,po4,pw4) ⟨h4,qG,?_,λy hy=>?_⟩ (hm:=?_);show s3.met v≠0;rw[zb];exact px;show s3.met y≠0;rw[zb];exact rT y hy;show 2*qc s3.met (Ζ g)+Ζ l<2*qc s2.met (Ζ g)+Ζ s2.dN;rw[zb,qh,akb];omega;rw[if_neg he]at h4 qG;refine az.N (jl s3 n l,po4,pw4) ⟨h4,qG,?_,λy hy=>?_⟩ (hm:=?_);show s3.met v≠0;rw[zb];exact px;show s3.met y≠0;rw[zb];exact rT y hy;show 2*qc s3.met (Ζ g)+Ζ l<2*qc s2.met (Ζ g)+Ζ s2.dN;rw[zb,qh,akb];omega;rw[decide_eq_true dm];refine ae ay ?_;refine χ ?_;have hk:r[s3.fY n]?=φ r[s3.fY n]:=Ca dm;have hxb:=pB r[s3.fY n] (Th dm);have oh:=hra _ _ hk;generalize r[s3.fY n]=x at*;obtain⟨k,rfl⟩:=aka hxb.1;have hkN:k<Ζ g:=by omega
 have afZ:fX g n k:=⟨r,qf,List.mem_of_getElem? hk⟩;have hs5:((s3.fY n:Int)+1)=((s3.fY n+1:Nat):Int):=by omega
 have cX:(cR s3.fY (Ζ g)).set n (.v (Ι Κ ((s3.fY n+1:Nat):Int)))=cR (dM s3.fY n (s3.fY n+1)) (Ζ g):=nL _ Fc;have eN:=mf.nd;simp only[pj.all,alV,agb,aga,or_false,not_or,aqm,and_true]at eN;refine κ ay ?_;refine WC.reads ?_;refine wc ay fw kD (abx hzx rA) (abx cU pW) (abx oh hrm) ?_;refine θ (wc ay fw kD (abx hzx rA) hs5 cX ?_);refine VC.gen ?_;intro O4 e4;have gE:∀i,i≠b.n->O4.hp i=O3.hp i:=λi hi=>by rw[e4];exact π _ _ hi
 have qG:=xA.aow DB qf hk
 have s_:FS C B b (.l (Ζ g) A tk) (Ζ g) po2 (.aS kw 0 (Ζ l+1) cw) {s3 with fY:=dM s3.fY n (s3.fY n+1)} O4:=
  mf.to (by rw[e4];rfl) (λi hi=>gE i λe=>hi (by rw[e];simp[pj.all])) ((gE _ eN.1.2.2.1).trans mf.cell) ((gE _ eN.2.1.2.1).trans mf.met) ((gE _ eN.2.2.1.1).trans mf.low) (by rw[e4];exact υ _ _ _) ((gE _ (Ne.symm eN.2.2.2.1.1)).trans mf.j6) ((gE _ (Ne.symm eN.2.2.2.1.2)).trans mf.ou) mf.go mf.gw mf.ne
 have aoA:dM s3.fY n (s3.fY n+1) n=s3.fY n+1:=ji _ _ _;clear e4 gE fw kD hzx rA cX hs5 mf cU;have fP:=s_.cell;unfold m_ at fP;simp only[aq]at fP;have sf:=s_.met;have YO:=ef s3.met (Ζ g);have iD:=iK s3.met hkN;simp only[aq]at iD;have aoB:∀y,s.met y≠0->s3.met y≠0:=λy hy=>by rw[zb];exact rT y hy
 have hv3:s3.met v≠0:=by rw[zb];exact px
 refine θ (iV ay fP sf YO iD ?_);by_cases h0:s3.met k=0
 ·have oE:((s3.met k:Int)==0)=Α:=by simp[h0]
  rw[oE];refine ae ay ?_;have aj1:=Ta s_ hkN (by omega) (by show s3.bP<=_;omega) (by show (Ζ s3.eT)<=_;omega) (by show (Ζ s3.dN)<=_;omega);rw[aq]at aj1;have Gu:=qG.enter hkN h0 (.inr ⟨n,l,rfl,DB,afZ⟩);refine τ aj1 ?_;rintro _ O5 ⟨po5,pw5,h5⟩;refine ae ay ?_;have alM:=Gu.num;refine az.N (iU _ k,po5,pw5) ⟨h5,Gu,?_,λy hy=>?_⟩ (hm:=?_);show dM s3.met k (s3.bP+1) v≠0;unfold dM;split;omega;exact hv3;show dM s3.met k (s3.bP+1) y≠0;unfold dM;split;omega;exact aoB y hy;have e1:s3.bP+1+qc (dM s3.met k (s3.bP+1)) (Ζ g)=Ζ g:=alM;(have e2:s3.bP+qc s2.met (Ζ g)=Ζ g:=by rw[<-zb];exact alL);show 2*qc (dM s3.met k (s3.bP+1)) (Ζ g)+(Ζ s3.dN+1)<2*qc s2.met (Ζ g)+Ζ s2.dN;rw[qh,DB];omega
 have oE:((s3.met k:Int)==0)=γ:=by rw[beq_eq_false_iff_ne];omega
 rw[oE];refine ae ay ?_;have dy:=s_.j6;have hzb:=nK s3.j6 (Ζ g);have vc:=zL s3.j6 hkN;simp only[bB]at vc;have hik:=qG.j6 k;refine θ (iV ay fP dy hzb vc ?_);have aj2:(Ζ r) - dM s3.fY n (s3.fY n+1) n<(Ζ r) - s3.fY n:=by rw[aoA];omega
 cases S_:s3.j6 k;rw[S_]at vc;refine VC.uy rfl ?_;refine ν ay ?_;exact az.N _ ⟨s_,qG.skip h0 (λho=>by rw[hik.2 ho]at S_;cases S_),DB,zb⟩ (hm:=aj2);refine VC.pC rfl ?_;have rS:=s_.low;have Q0:=ef s3.low (Ζ g);have QJ:=iK s3.low Fc;simp only[aq]at QJ;have afV:min ((s3.low n:Nat):Int) ((s3.met k:Nat):Int)=((min (s3.low n) (s3.met k):Nat):Int):=by omega
 have fz:(cR s3.low (Ζ g)).set n (.v (Ι Κ ((min (s3.low n) (s3.met k):Nat):Int)))=cR (dM s3.low n (min (s3.low n) (s3.met k))) (Ζ g):=nL _ Fc;refine WC.bW (.held [21]) [(0,.rd),(1,.rd),(2,.rd),(3,.rd),(4,.rd),(5,.rd),(6,.rd),(7,.rd),(8,.rd),(9,.rd),(10,.rd),(11,.rd),(12,.rd),(13,.rd),(14,.rd),(15,.rd),(16,.rd),(17,.rd),(18,.rd),(19,.rd),(20,.rd),(21,.one)] ?_;refine JS ay fP rS sf (abx Q0 QJ) (abx YO iD) afV fz ?_;have dS:∀(y:cx) i,i≠b.l->(O4.set b.l y).hp i=O4.hp i:=λy i hi=>π _ _ hi
 exact az.N {s3 with fY:=dM s3.fY n (s3.fY n+1),low:=dM s3.low n (min (s3.low n) (s3.met k))} ⟨s_.to rfl (λi hi=>dS _ i λe=>hi (by rw[e];simp[pj.all])) ((dS _ _ eN.1.2.1).trans s_.cell) ((dS _ _ eN.2.1.1).trans s_.met) (υ _ _ _) ((dS _ _ (Ne.symm eN.2.2.1.1)).trans s_.fY) ((dS _ _ (Ne.symm eN.2.2.1.2.1)).trans s_.j6) ((dS _ _ (Ne.symm eN.2.2.1.2.2)).trans s_.ou) s_.go s_.gw s_.ne,qG.back DB afZ (hik.1 S_),DB,zb⟩ (hm:=aj2)
structure Jy(g:Ο)(p:Nat->Nat)(n:Nat):Prop where
 lt:∀v,v<(Ζ g)->p v<n
 use:∀k,k<n->∃v,v<(Ζ g)/\p v=k
 YE:∀v b,fX g v b->p b<=p v
 same:∀v w,v<(Ζ g)->w<(Ζ g)->p v=p w->gY g v w
def TI.done(h:TI g Β s)(hw:s.dN=[])(hm:∀v,v<(Ζ g)->s.met v≠0):Jy g s.ou s.last:=by
 have ho:=h.empty hw;have hn:∀v,v ∉ s.eT:=λv hv=>by rw[ho]at hv;cases hv
 refine⟨λv hv=>h.c0 v hv (hm v hv) (hn v),λk hk=>?_,λv b hb=>?_,λv w hv hw=>h.c2 v w hv hw (hm v hv) (hm w hw) (hn v) (hn w)⟩;obtain⟨v,h1,_,_,h2⟩:=h.c3 k hk;exact⟨v,h1,h2⟩;have hv:=(nI h.may hb).1;exact(h.c1 v hv (hm v hv) (hn v) b hb).2.2
def WB(g:Ο):Prop:=∃r:Nat->Nat,∀a b,fX g a b->r b<r a
def WB.rch{r:Nat->Nat}(h:∀a b,fX g a b->r b<r a){b:Nat}(hr:gY g a b):a=b\/r b<r a:=by
 induction hr with
 | base=>exact .inl rfl
 | step h1 h2 ih=>
   have:=h _ _ h2;rcases ih with e | e;subst e;exact .inr this;exact .inr (by omega)
def Sgl(g:Ο)(p:Nat->Nat):Prop:=(∀v w,v<(Ζ g)->w<(Ζ g)->p v=p w->v=w)/\∀v,¬fX g v v
def Jy.acy(h:Jy g p n)(hm:ot g):Sgl g p ↔ WB g:=by
 constructor;rintro⟨h1,h2⟩;refine⟨p,λa b hb=>?_⟩;have h3:=h.YE a b hb;obtain⟨h4,h5⟩:=nI hm hb;((refine Nat.lt_of_le_of_ne h3 λe=>?_);have:=h1 b a h5 h4 e;subst this;exact h2 b hb);rintro⟨r,hr⟩;refine⟨λv w hv hw e=>?_,λv hv=>Nat.lt_irrefl _ (hr v v hv)⟩;rcases WB.rch hr (h.same v w hv hw e)with h1 | h1;exact h1;rcases WB.rch hr (h.same w v hw hv e.symm)with h2 | h2;exact h2.symm;omega
def Cs(hm:ot g)(hv:v<Ζ g):fp g d v=Α ↔ d v=γ/\∀b,fX g v b->d b=Α:=by
 have hg:g.getD v []=g[v]:=by rw[YI,Ca hv];rfl
 unfold fp;rw[hg,akc,aqa,aqa,List.any_eq_false];constructor;rintro⟨h1,h2⟩;refine⟨h1,λb ⟨l,h3,h4⟩=>?_⟩;rw[Ca hv]at h3;injection h3 with h3;subst h3;simpa using h2 _ h4;rintro⟨h1,h2⟩;refine⟨h1,λx hx=>?_⟩;obtain⟨h3,_⟩:=hm _ (Th hv) x hx;obtain⟨k,rfl⟩:=aka h3;simpa using h2 k ⟨g[v],Ca hv,hx⟩
def Td :o8 (eB d (b_ g d)) (Ζ g)+(b_ g d).length=o8 d (Ζ g):=by
 have hl:(b_ g d).length=(Ν (Ζ g)).countP (fp g d):=by
  unfold b_ cQ;rw[WT,List.countP_eq_length_filter]
 have key:∀l:Τ,(∀v∈l,v<Ζ g)->(l.countP λv=> !eB d (b_ g d) v)+l.countP (fp g d)=l.countP λv=> !d v:=by
  intro l;induction l with
  | nil=>intro _;rfl
  | cons v l ih=>
    intro hl;have hv:=hl v Ti;(have ih:=ih λw hw=>hl w (alO _ hw));rw[ap5,ap5,ap5]
    have hw:(b_ g d).contains (v:Int)=fp g d v:=by
     rw[Bool.eq_iff_iff,ap6];unfold b_;rw[iy];constructor;rintro⟨i,e,_,h⟩;(have:i=v:=by omega);rw[<-this];exact h
     ·exactλh=>⟨v,rfl,hv,h⟩
    have hd:fp g d v=Α->d v=γ:=λh=>by
     unfold fp at h;rw[akc]at h;simpa using h.1
    (have iD:eB d (b_ g d) v=(d v||fp g d v):=by unfold eB;rw[hw]);rw[iD];cases h1:fp g d v<;>cases h2:d v<;>simp<;>first | omega | (rw[hd h1]at h2;cases h2)
 rw[hl];exact key _ λv hv=>alP.1 hv
def nc:Ο->Nat
 | []=>0
 | l::L=>Ζ l+nc L
def WD(hm:ot g):∀(f:Nat)(d:Nat->Bool),(∀a b,d a=Α->fX g a b->d b=Α)->nc (df g f d)=o8 d (Ζ g)->∃r:Nat->Nat,∀a b,d a=γ->fX g a b->d b=Α\/r b<r a:=by
 have Β:∀d:Nat->Bool,o8 d (Ζ g)=0->∃r:Nat->Nat,∀a b,d a=γ->fX g a b->d b=Α\/r b<r a:=λd h=>by
  refine⟨λ_=>0,λa b ha hb=>?_⟩;unfold o8 at h;rw[alQ]at h;have:=h a (alP.2 (nI hm hb).1);rw[ha]at this;exact absurd rfl this
 intro f;induction f with
 | zero=>intro d _ h;exact Β d h.symm
 | succ f ih=>
   intro d hd h;unfold df at h;by_cases hw:(b_ g d).length=0;rw[if_pos hw]at h;exact Β d h.symm
   ·rw[if_neg hw]at h;have hu:=Td (g:=g) (d:=d)
    have hs:nc (df g f (eB d (b_ g d)))=o8 (eB d (b_ g d)) (Ζ g):=by
     have:(b_ g d).length+nc (df g f (eB d (b_ g d)))=_:=h;omega
    have nR:∀v,v<(Ζ g)->((b_ g d).contains (v:Int)=Α ↔ fp g d v=Α):=λv hv=>by
     rw[ap6];unfold b_;rw[iy];constructor;rintro⟨i,e,_,h⟩;(have:i=v:=by omega);rw[<-this];exact h
     ·exactλh=>⟨v,rfl,hv,h⟩
    obtain⟨r,hr⟩:=ih (eB d (b_ g d)) (λa b ha hb=>by
     unfold eB at ha ⊢;rw[Bool.or_eq_true]at ha ⊢;obtain⟨h1,_⟩:=nI hm hb;rcases ha with ha | ha;exact .inl (hd a b ha hb);exact .inl (((Cs hm h1).1 ((nR a h1).1 ha)).2 b hb)) hs
    refine⟨λv=>if(b_ g d).contains (v:Int)then 0 else r v+1,λa b ha hb=>?_⟩;obtain⟨h1,h2⟩:=nI hm hb;cases hdb:d b;rotate_left;exact .inl rfl;refine .inr ?_;by_cases haw:(b_ g d).contains (a:Int)=Α;have:=((Cs hm h1).1 ((nR a h1).1 haw)).2 b hb;rw[hdb]at this;cases this;dsimp only;rw[if_neg haw];by_cases hbw:(b_ g d).contains (b:Int)=Α;rw[if_pos hbw];omega;rw[if_neg hbw];((((have hma:eB d (b_ g d) a=γ:=by unfold eB;rw[ha,akf.2 haw];rfl);have GF:eB d (b_ g d) b=γ:=by unfold eB;rw[hdb,akf.2 hbw];rfl);rcases hr a b hma hb with h3 | h3);rw[GF]at h3;cases h3);omega
def WG(hm:ot g)(h:WB g):∀(f:Nat)(d:Nat->Bool),o8 d (Ζ g)<=f->nc (df g f d)=o8 d (Ζ g):=by
 obtain⟨r,hr⟩:=h;intro f;induction f with
 | zero=>intro d hd;exact(Nat.le_zero.1 hd).symm
 | succ f ih=>
   intro d hd;unfold df;have hu:=Td (g:=g) (d:=d);by_cases hw:(b_ g d).length=0
   ·rw[if_pos hw];show 0=o8 d (Ζ g);symm;unfold o8;rw[alQ]
    have key:∀(k v:Nat),r v=k->v<(Ζ g)->d v=Α:=by
     intro k;induction k using Nat.strongRecOn with
     | ind k ihk=>
       intro v hk hv;cases EA:d v;rotate_left;rfl
       ·exfalso
        have hf:fp g d v=Α:=(Cs hm hv).2 ⟨EA,λb hb=>by
         have:=hr v b hb;exact ihk (r b) (by omega) b rfl (nI hm hb).2⟩
        have:(v:Int)∈b_ g d:=iy.2 ⟨v,rfl,hv,hf⟩;rw[ap4.1 hw]at this;cases this
    intro v hv;rw[key _ v rfl (alP.1 hv)];decide
   ·rw[if_neg hw];show(b_ g d).length+nc _=_;rw[ih (eB d (b_ g d)) (by omega)];omega
def WH(hm:ot g){f:Nat}(hf:Ζ g<=f):nc (df g f λ_=>γ)=(Ζ g) ↔ WB g:=by
 have hu:o8 (λ_=>γ) (Ζ g)=Ζ g:=by unfold o8;simp
 constructor;intro h;obtain⟨r,hr⟩:=WD hm f (λ_=>γ) (λa b h=>by cases h) (h.trans hu.symm);exact⟨r,λa b hb=>(hr a b rfl hb).resolve_left (by decide)⟩;intro h;rw[WG hm h f _ (by rw[hu];exact hf),hu]
def kC(w:Nat->Nat)(v:Nat):Bool:=decide (0<w v)
def okW(w:Nat->Nat)(k:Nat)(x:Int):Bool:=decide (0<w x.toNat)&&decide (w x.toNat<k)
def ng(w:Nat->Nat)(l:Χ)(k:Nat)(v:Nat):Nat:=if l.contains (v:Int)then k else w v
def abq{w:Nat->Nat}(hn:n<Ζ g)(hw:∀v,w v<k):(g[n].all (okW w k)&&decide ((w n:Int)=0))=fp g (kC w) n:=by
 rw[Bool.and_comm]
 have h1:∀l:Χ,l.all (okW w k)= !(l.any λx=> !kC w x.toNat):=λl=>by
  induction l with
  | nil=>rfl
  | cons x l ih=>
    rw[aqo,List.any_cons,ih,Bool.not_or,Bool.not_not];unfold okW kC;rw[decide_eq_true (hw x.toNat),aqb]
 have hg:g.getD n []=g[n]:=by rw[YI,Ca hn];rfl
 unfold fp;rw[hg,h1];congr 1
 unfold kC;by_cases e:w n=0;rw[e];rfl;rw[decide_eq_false (by omega),decide_eq_true (by omega)];rfl
def WI(w:Nat->Nat)(l:Χ)(hk:0<k):kC (ng w l k)=eB (kC w) l:=funext λv=>by
 unfold kC ng eB;cases h:l.contains (v:Int);simp;simp[hk]
def abr(g:Ο)(T:Nat->Tok)(tk:Tok)(O:VH)(hs:sm 1000000 g)(hm:ot g):VF Ε 17 [.l (Ζ g) (bz g T) tk] O (aH λm O'=>O.Ge O'/\∃T' t,m= .l (df g (Ζ g) λ_=>γ).length (bz (df g (Ζ g) λ_=>γ) T') t):=by
 have xG:=hs.1;have ew:cS (bR Ε) 25 (.l (Ζ g) (bz g T) tk)=φ (.v (Ι Κ (Ζ g))):=bC qV;have iD:=λO'=>xk (tab:=bR Ε) fZ T3 O' (Ζ g) (by omega) (by omega)
 have n9:=eM g T;have Co:=λu h=>iw g T (u:=u) h
 generalize bz g T=A at*;obtain⟨W,hW⟩:∃W,W=df g (Ζ g) (λ_=>γ):=⟨_,rfl⟩
 rw[<-hW]
 have Vs:Ζ W<=1001:=by
  have:∀(f:Nat) d,(df g f d).length<=f:=λf=>by
   induction f with
   | zero=>intro d;exact aoT _
   | succ f ih=>
     intro d;rw[df];split;exact af_ _;rw[akb];have:=ih (eB d (b_ g d));omega
  have:=this (Ζ g) (λ_=>γ);rw[hW];omega
 refine ω 83 [.tmp 2] func17 ?_;refine κ aD ?_;refine κ aD ?_;refine θ (aE aD ew iD ?_);refine VC.bx ?_;rintro O1 ⟨aK,cJ,dd⟩
 have hz:Μ (Ζ g) (MV.v (Ι Κ 0))=cR (λ_=>0) (Ζ g):=(ap7.2 ⟨ef _ _,λb hb=>by
  obtain⟨u,_,rfl⟩:=alS.1 hb;rfl⟩).symm
 refine κ aD ?_;refine Θ [3,5] [0,4] (λs:Ο×(Nat->Tok)×Tok×(Nat->Nat)×Nat=>[.l (Ζ s.1) (bz s.1 s.2.1) s.2.2.1,mi s.2.2.2.2]) (λs O'=>O.Ge O'/\O1.N<=O'.N/\O'.hp O.N=φ (.cells (cR s.2.2.2.1 (Ζ g)))/\App O' O1.N 1 s.2.2.1/\0<s.2.2.2.2/\s.2.2.2.2<=Ζ g+1/\(∀v,s.2.2.2.1 v<s.2.2.2.2)/\W=s.1++df g (Ζ g+1 - s.2.2.2.2) (kC s.2.2.2.1)) (λs=>Ζ g+1 - s.2.2.2.2) (([],(λ_=>.nil),.nil,(λ_=>0),1)) ?_ ?_;exact⟨aK,aoT _,by rw[cJ, <-hz],trivial,Nat.one_pos,by first | omega | (dsimp only;omega),λ_=>Nat.one_pos,hW⟩;clear cJ aK;rintro⟨X,TX,tX,w,k⟩ O3 ⟨aJ,ij,qF,kM,hk0,hkN,Nx,xH⟩;dsimp only at qF kM hk0 hkN Nx xH ⊢;by_cases hk:k<=Ζ g;rotate_left
 ·obtain rfl:k=Ζ g+1:=by omega
  have hd:decide (((Ζ g+1:Nat):Int)<=(Ζ g:Int))=γ:=decide_eq_false (by omega);rw[Nat.sub_self,df,aqh]at xH;subst xH;refine θ (aE aD ew hd ?_);refine ν aD ?_;exact⟨aJ,TX,tX,rfl⟩
 have hd:decide ((k:Int)<=(Ζ g:Int))=Α:=decide_eq_true (by omega);have H6:Ζ X<=Ζ W:=by rw[xH,List.length_append];omega
 refine θ (aE aD ew hd ?_);refine Γ (χ ?_);refine κ aD ?_;refine Ξ [0,3,4,5,6] (λt:Tok=>[.l (Ζ g) A tk,.l (Ζ X) (bz X TX) tX,.aS O.N 0 (Ζ g) (Ζ g),mi k,.l (b_ g (kC w)).length ((b_ g (kC w)).map mi) t]) (λt O'=>O3.Ge O'/\App O' O3.N 1 t) ?_ ?_
 ·refine ξ aD ew ?_;refine χ ?_;refine Θ [6,24] [0,3,4,5,23] (λs:Nat×Tok=>[.l (cQ (fp g (kC w)) s.1).length ((cQ (fp g (kC w)) s.1).map mi) s.2,mi s.1]) (λs O'=>s.1<=(Ζ g)/\O3.Ge O'/\App O' O3.N 1 s.2) (λs=>(Ζ g) - s.1) ((0,.nil)) ?_ ?_;exact⟨af_ _,VH.Ge.refl _,trivial⟩;rintro⟨j,t1⟩ O4 ⟨hj,aT,gd⟩;dsimp only at hj gd ⊢;by_cases aM:j<Ζ g;rotate_left
  ·obtain rfl:j=Ζ g:=by omega
   refine ν aD ?_;exact aB.mk t1 ⟨aT,gd⟩
  have cA:=jSx j;have yY:=aT.at qF;have lZ:=ef w (Ζ g);((have WJ:=λv h=>iK w (N:=Ζ g) (v:=v) h);simp only[aq]at WJ;have dw:=abq aM Nx;have vO:=qJ (fp g (kC w)) j;have RN:=jM (fp g (kC w)) j;rw[<-dw]at vO;have bG:=Co j aM;have pB:=hm g[j] (Th aM);have tO:=hs.2 g[j] (Th aM);generalize g[j]=r at*;have qR:cS (bR Ε) 29 (.l (Ζ r) (r.map mi) (T j))=φ (.v (Ι Κ (Ζ r))):=bC fZ;have tT:(r.map mi).length=Ζ r:=WT _;have zF:∀(i:Nat)(y:Int),r[i]?=φ y->(r.map mi)[i]?=φ (MV.v (Ι Κ y)):=λi y h=>by rw[agc,h];rfl);generalize r.map mi=cs at*;generalize cQ (fp g (kC w)) j=P at*;have zH:=WJ j aM;generalize cR w (Ζ g)=RW at*;have Vr:((w j:Int)==0)=decide ((w j:Int)=0):=rfl;refine κ aD ?_;refine κ aD ?_;refine Γ (χ ?_);refine κ aD ?_;refine θ (iV aD yY lZ zH Vr ?_);refine Ξ [0,3,4,5,6,7,8,23,24] (λ_:Unit=>[.l (Ζ g) A tk,.l (Ζ X) (bz X TX) tX,.aS O.N 0 (Ζ g) (Ζ g),mi k,.l (Ζ P) (P.map mi) t1,mi j,mb (r.all (okW w k)&&decide ((w j:Int)=0)),mi (Ζ g),mi j]) (λ_ O'=>O'=O4) ?_ ?_
  ·refine θ (cB aD bG n9 qR ?_);refine χ ?_;refine Θ [8,37] [0,3,4,5,6,7,23,24,35,36] (λi:Nat=>[mb ((r.take i).all (okW w k)&&decide ((w j:Int)=0)),mi i]) (λi O'=>i<=(Ζ r)/\O'=O4) (λi=>(Ζ r) - i) (0) ?_ ?_;exact⟨af_ _,rfl⟩;rintro i Ox ⟨hi,eO⟩;rw[eO];clear eO Ox;by_cases cn:i<Ζ r;rotate_left
   ·obtain rfl:i=Ζ r:=by omega
    rw[alU];refine ν aD ?_;exact aB.mk () rfl
   have gh:=jSx i;have hx:=pB r[i] (Th cn);have oh:=zF i r[i] (Ca cn);((((have di:(r.take (i+1)).all (okW w k)=((r.take i).all (okW w k)&&okW w k r[i]):=by rw[<-ap2 cn,List.all_append,aqo,List.all_nil,aqb]);generalize r[i]=x at*;obtain⟨u,rfl⟩:=Int.eq_ofNat_of_zero_le hx.1;have hwu:=WJ u (by omega);have aoC:=Nx u;have f1:decide ((w u:Int)>0)=decide (0<w u):=by simp);have f2:decide ((0:Int)<(w u:Int))=decide (0<w u):=by simp);have f3:decide ((w u:Int)<(k:Int))=decide (w u<k):=by simp);have hox:okW w k (u:Int)=(decide (0<w u)&&decide (w u<k)):=rfl
   have YF:((r.take (i+1)).all (okW w k)&&decide ((w j:Int)=0))=((r.take i).all (okW w k)&&decide ((w j:Int)=0)&&decide (0<w u)&&decide (w u<k)):=by
    rw[di,hox];generalize (r.take i).all (okW w k)=b1;generalize decide ((w j:Int)=0)=b2;generalize decide (0<w u)=b3;generalize decide (w u<k)=b4;cases b1<;>cases b2<;>cases b3<;>cases b4<;>rfl
   rw[decide_eq_true aoC,aqb]at YF;generalize ((r.take i).all (okW w k)&&decide ((w j:Int)=0))=b at*;refine κ aD ?_;refine κ aD ?_;refine Γ (χ ?_);refine θ (aE aD oh tT ?_);generalize decide (0<w u)=c1 at*;cases b;refine ν aD ?_;refine ο aD gh ?_;exact az.N (i+1) ⟨cn,rfl⟩ (hl:=by rw[YF];rfl);cases c1;refine ι (wc aD yY lZ hwu @f1 @f2 ?_);refine ο aD gh ?_;exact az.N (i+1) ⟨cn,rfl⟩ (hl:=by rw[YF];rfl);refine ι (Nf aD yY lZ hwu @f1 @f2 @f3 ?_);refine ο aD gh ?_;exact az.N (i+1) ⟨cn,rfl⟩ (hl:=by rw[YF];rfl)
  rintro _ Ox eO;rw[eO];clear eO Ox;generalize (r.all (okW w k)&&decide ((w j:Int)=0))=b at*;cases b;rw[if_neg (by decide),aqh]at vO;refine κ aD ?_;refine ν aD ?_;refine ο aD cA ?_;exact az.N (j+1,t1) ⟨aM,aT,gd⟩ (hl:=by dsimp only;rw[vO];rfl);rw[if_pos rfl]at vO;have je:=aP (tk:=t1) (tk':=.full) (n:=Ζ P) (k:=1) (cs:=P.map mi) (ds:=[.v (Ι Κ j)]) fZ T3 gd (by rw[WT,aqk]);refine κ aD ?_;refine ν aD ?_;refine VL.app je ?_;refine ae aD ?_;refine ο aD cA ?_;exact az.N (j+1,.own O4.N 1) ⟨aM,cy.eR aT gd (cy.after gd),App.after aT.N⟩ (hl:=by dsimp only;rw[vO,ap3,aqi];rfl)
 rintro tw O4 ⟨aT,gd⟩;have pY:cS (bR Ε) 29 (.l (b_ g (kC w)).length ((b_ g (kC w)).map mi) tw)=φ (.v (Ι Κ (b_ g (kC w)).length)):=bC fZ;have lZ:(b_ g (kC w)).length<=Ζ g:=jM _ _;have Fa:=λx=>iy (p:=fp g (kC w)) (n:=Ζ g) (x:=x)
 have hfu:Ζ g+1 - k=(Ζ g+1 - (k+1))+1:=by omega
 rw[hfu,df]at xH;rw[show cQ (fp g (kC w)) (Ζ g)=b_ g (kC w)from rfl]at Fa;have hmp:=WI w (b_ g (kC w)) hk0
 have hwx:(b_ g (kC w)).length=0->ng w (b_ g (kC w)) k=w:=λh=>by
  rw[ap4.1 h];(funext v);unfold ng;rw[if_neg (by simp)]
 have hw0:(b_ g (kC w)).length=0->∀f,df g f (kC w)=[]:=λh f=>by
  cases f with
  | zero=>rfl
  | succ f=>rw[df,if_pos h]
 generalize b_ g (kC w)=wv at*;have yY:=aT.at qF;have S0:(wv.map mi).length=Ζ wv:=WT _;have xI:∀(j:Nat)(y:Int),wv[j]?=φ y->(wv.map mi)[j]?=φ (MV.v (Ι Κ y)):=λj y h=>by rw[agc,h];rfl
 refine Ξ [0,3,4,5,6] (λ_:Unit=>[.l (Ζ g) A tk,.l (Ζ X) (bz X TX) tX,.aS O.N 0 (Ζ g) (Ζ g),mi k,.l (Ζ wv) (wv.map mi) tw]) (λ_ O'=>O'=O4.set O.N (.cells (cR (ng w wv k) (Ζ g)))) ?_ ?_
 ·generalize hwc:wv.map mi=WM at*;refine ξ aD pY ?_;refine χ ?_;refine Θ [66] [0,3,4,5,6,64,65] (λj:Nat=>[mi j]) (λj O'=>j<=(Ζ wv)/\O'=O4.set O.N (.cells (cR (ng w (wv.take j) k) (Ζ g)))) (λj=>(Ζ wv) - j) (0) ?_ ?_;refine⟨af_ _,?_⟩;((have:ng w (wv.take 0) k=w:=by funext v;unfold ng;rw[List.take_zero,if_neg (by simp)]);rw[this];exact((aqR O4 O.N (.cells []) _).symm.trans (VH.vk O4 O.N yY)).symm);rintro j O5 ⟨hj,e5⟩;by_cases aM:j<Ζ wv;rotate_left
  ·obtain rfl:j=Ζ wv:=by omega
   rw[alU]at e5;refine ν aD ?_;exact aB.mk () e5
  have cA:=jSx j;have zH:wv[j]?=φ wv[j]:=List.getElem?_eq_getElem aM;obtain⟨u,cK,bY,en⟩:=(Fa wv[j]).1 (List.getElem_mem aM);rw[cK]at zH;have oh:=xI j _ zH;have AR:wv.take (j+1)=wv.take j++[(u:Int)]:=by rw[List.take_add_one,zH];rfl
  have fz:(cR (ng w (wv.take j) k) (Ζ g)).set u (.v (Ι Κ k))=cR (ng w (wv.take (j+1)) k) (Ζ g):=(nL _ bY).trans (by
   (congr 1);funext v
   unfold dM ng;rw[AR,List.contains_append];by_cases e:v=u;subst e;rw[if_pos rfl,if_pos (by simp)]
   ·rw[if_neg e]
    have:([(u:Int)]:Χ).contains (v:Int)=γ:=by
     rw[akf];intro h;(have:(v:Int)=u:=by simpa using h);omega
    rw[this,Bool.or_false])
  have gU:=ef (ng w (wv.take j) k) (Ζ g);(have sN:O5.hp O.N=φ (.cells (cR (ng w (wv.take j) k) (Ζ g))):=by rw[e5];exact υ _ _ _);refine κ aD ?_;refine κ aD ?_;refine Γ (χ ?_);refine θ (aE aD oh S0 ?_);refine ι (cB aD sN gU fz ?_);refine ο aD cA ?_;exact az.N (j+1) ⟨aM,by rw[e5,aqR]⟩
 rintro _ O5 e5;have eJ:O5.N=O4.N:=by rw[e5];rfl
 have dS:∀i,i≠O.N->O5.hp i=O4.hp i:=λi hi=>by rw[e5];exact π _ _ hi
 have sN:O5.hp O.N=φ (.cells (cR (ng w wv k) (Ζ g))):=by rw[e5];exact υ _ _ _
 clear e5
 have af0:∀v,ng w wv k v<k+1:=λv=>by
  unfold ng;split;omega;have:=Nx v;omega
 have fT:=aT.N;have cK:=jSx k;by_cases h0:Ζ wv=0;have e0:decide ((Ζ wv:Int)>0)=γ:=decide_eq_false (by omega);have e1:decide ((0:Int)<(Ζ wv:Int))=γ:=e0;rw[if_pos h0,List.append_nil]at xH;rw[hwx h0]at sN af0;refine ι (cB @aD @pY @e0 @e1 ?_);refine ο @aD @cK ?_;exact az.N (X,TX,tX,w,k+1) ⟨⟨by have:=aJ.N;omega,λi hi=>by rw[dS i (by omega),aT.hp i (by have:=aJ.N;omega)];exact aJ.hp i hi⟩,by first | omega | (dsimp only;omega),sN,ow (kM.ge aT) (λi hi=>dS i (by omega)),by first | omega | (dsimp only;omega),by first | omega | (dsimp only;omega),af0,by(try dsimp only);rw[hw0 h0,List.append_nil];exact xH⟩ (hm:=by first | omega | (dsimp only;omega));have e0:decide ((Ζ wv:Int)>0)=Α:=decide_eq_true (by omega);have e1:decide ((0:Int)<(Ζ wv:Int))=Α:=e0;rw[if_neg h0, <-hmp]at xH;have mP:=kM.ge aT;have qm:=aJ.N;have gx:App O5 O1.N 1 tX:=ow mP (λi hi=>dS i (by omega));have hXr:=eM X TX;have hY:=zG X TX wv tw;have je:=aP (tk:=tX) (tk':=.full) (n:=Ζ X) (k:=1) (cs:=bz X TX) (ds:=[.l (Ζ wv) (wv.map mi) tw]) qV fZ gx (by rw[hXr,aqk]);have hqA:=VH.jo gx sN;have AO:=VH.dC O5 tX;have ir:=cy.after gx;have vM:∀i,Tok.id tX=φ i->O1.N<=i:=λi e=>(gx.nZ e).1
 refine ι (cB aD pY e0 e1 ?_);refine VL.app je ?_;refine ae aD ?_;refine ο aD cK ?_;refine az.N (X++[wv],(λv=>if v=(Ζ X) then tw else TX v),.own O5.N 1,ng w wv k,k+1) ⟨⟨by rw[AO];omega,λi hi=>?_⟩,by rw[AO];omega,hqA,App.after,by first | omega | (dsimp only;omega),by first | omega | (dsimp only;omega),af0,by(try dsimp only);rw[xH,akd];rfl⟩ (hl:=by dsimp only;rw[<-hY,ap3];rfl) (hm:=by first | omega | (dsimp only;omega));rw[ir.hp i (by omega) (λe=>by have:=vM i e;omega),dS i (by omega),aT.hp i (by omega)];exact aJ.hp i hi
structure Mk where
 d:Nat
 m:Nat->MV
 z:Η
def OP(ops:Array Oper):Nat->Array Bool->List Nat->Array Bool->Bool
 | 0,L,_,F=>L==F
 | f+1,L,rem,F=>(Region.ready .any ops L==rem)&&rem.all λx=>OP ops f (L.setIfInBounds x Α) (rem.erase x) F
def Ext(e0 e:Env):Prop:=∀t m,look e0 t=φ m->look e t=φ m
def mkE(A:Nat->Mk)(K:Nat->Nat)(xs:Τ)(e0:Env):Env:=xs.map (λx=>((A x).d,(A x).m (K x)))++e0
def Ml{A:Nat->Mk}{K:Nat->Nat}{e0 e:Env}(h0:Ext e0 e):∀{xs:Τ},(∀x∈xs,look e (A x).d=φ ((A x).m (K x)))->Ext (mkE A K xs e0) e
 | [],_,t,m,ht=>h0 t m ht
 | x::xs,h,t,m,ht=>by
   have ht:(bif t==(A x).d then φ ((A x).m (K x))else look (mkE A K xs e0) t)=φ m:=ht;cases hb:t==(A x).d;rw[hb]at ht;exact Ml h0 (λy hy=>h y (alO _ hy)) t m ht;rw[hb]at ht;(have:t=(A x).d:=by simpa using hb);rw[this,h x Ti];exact ht
section
variable{P:Program}{n:Sz}{D:List Deferred}{ops:Array Oper}{Q:VQ}
def bA.env{fuel:Nat}{L:Array Bool}{e e':Env}(h:bA P n D ops fuel L e' O Q)(he:Ext e' e):bA P n D ops fuel L e O Q:=λG a w hw hf=>h G a w hw (hf.less he)
def bA.makes{e0:Env}{O0:VH}{xs:Τ}(A:Nat->Mk)(b:Nat)(F:Array Bool)
  (hA:∀x∈xs,look e0 (A x).d=Β/\∀e O K,Ext e0 e->K (((A x).d,(A x).m O.N)::e) (O.push (.cells (A x).z))->aI P n D ops x e O Q K)
  (hd:∀x∈xs,∀y∈xs,x≠y->(A x).d≠(A y).d)
  (h:∀(K:Nat->Nat) O',O0.Ge O'->(∀x∈xs,O0.N<=K x/\K x<O'.N/\O'.hp (K x)=φ (.cells (A x).z))->(∀x∈xs,∀y∈xs,x≠y->K x≠K y)->bA P n D ops b F (mkE A K xs e0) O' Q):
  ∀(f:Nat)(L:Array Bool)(rem:Τ)(e:Env)(O:VH)(K:Nat->Nat),OP ops f L rem F=Α->Ζ rem=f->rem.Nodup->(∀x∈rem,x∈xs)->Ext e0 e->O0.Ge O->(∀x∈xs,x ∉ rem->look e (A x).d=φ ((A x).m (K x))/\O0.N<=K x/\K x<O.N/\O.hp (K x)=φ (.cells (A x).z))->(∀x∈xs,x ∉ rem->∀y∈xs,y ∉ rem->x≠y->K x≠K y)->bA P n D ops (b+f) L e O Q:=by
 intro f;induction f with
 | zero=>
   intro L rem e O K hc hr hn hs he hg hk hi;have aoD:=ap4.1 hr;subst aoD;(have hL:L=F:=by simpa[OP]using hc);subst hL;refine bA.env (h K O hg (λx hx=>(hk x hx (by simp)).2) λx hx y hy=>hi x hx (by simp) y hy (by simp)) (Ml he λx hx=>(hk x hx (by simp)).1)
 | succ f ih=>
   intro L rem e O K hc hr hn hs he hg hk hi;unfold OP at hc;rw[akc,ap8]at hc;((have Oj:Region.ready .any ops L=rem:=by simpa using hc.1);refine bA.all (fuel:=b+f) Oj (λe=>by rw[e]at hr;cases hr) λx hx=>?_);obtain⟨h1,h2⟩:=hA x (hs x hx);have hkx:∀y,y≠x->(λy=>if y=x then O.N else K y) y=K y:=λy hy=>if_neg hy
   have her:∀y,y ∉ rem.erase x->y=x\/y ∉ rem:=λy hy=>by
    by_cases e:y=x;exact .inl e;exact .inr λh=>hy ((List.mem_erase_of_ne e).2 h)
   refine h2 e O _ he ?_;refine ih _ (rem.erase x) _ _ (λy=>if y=x then O.N else K y) (hc.2 x hx) (by rw[List.length_erase_of_mem hx,hr];rfl) (hn.erase x) (λy hy=>hs y (List.mem_of_mem_erase hy)) (λt m ht=>?_) (hg.push _) (λy hy hyr=>?_) (λy hy hyr z hz hzr hyz=>?_)
   ·rw[j_];cases hb:t==(A x).d;exact he t m ht
    ·have:t=(A x).d:=by simpa using hb
     rw[this,h1]at ht;cases ht
   ·by_cases e1:y=x;subst e1;rw[if_pos rfl,j_];exact⟨by simp,hg.N,aqg _,ζ _ _⟩
    ·rw[if_neg e1];obtain⟨g1,g2,g3,g4⟩:=hk y hy ((her y hyr).resolve_left e1);refine⟨?_,g2,Nat.lt_succ_of_lt g3,(η _ _ g3).trans g4⟩;rw[j_]
     have:((A y).d==(A x).d)=γ:=by
      rw[beq_eq_false_iff_ne];exact hd y hy x (hs x hx) e1
     rw[this];exact g1
   ·by_cases e1:y=x<;>by_cases e2:z=x;exact absurd (e1.trans e2.symm) hyz;rw[if_pos e1,if_neg e2];have:=(hk z hz ((her z hzr).resolve_left e2)).2.2.1;omega;rw[if_neg e1,if_pos e2];have:=(hk y hy ((her y hyr).resolve_left e1)).2.2.1;omega;rw[if_neg e1,if_neg e2];exact hi y hy ((her y hyr).resolve_left e1) z hz ((her z hzr).resolve_left e2) hyz
end
def fd0:Fd:=⟨λ_=>0,λ_=>0,λ_=>0,λ_=>γ,[],[],0,λ_=>0,0⟩
def WK(N:Nat)(x:Nat):Mk:=⟨x+9,λk=>.aS k 0 N N,if x=8 then Μ N (mb γ)else Μ N (mi 0)⟩
def tH(N:Nat):cR (λ_=>0) N=Μ N (mi 0):=ap7.2 ⟨ef _ _,λb hb=>by
 obtain⟨u,_,rfl⟩:=alS.1 hb;rfl⟩
def Jz(N:Nat):nV (λ_=>γ) N=Μ N (mb γ):=ap7.2 ⟨nK _ _,λb hb=>by
 obtain⟨u,_,rfl⟩:=alS.1 hb;rfl⟩
def abt(g:Ο)(T:Nat->Tok)(tk:Tok)(O:VH)(hs:sm 1000000 g)(hm:ot g):VF Ε 48 [.l (Ζ g) (bz g T) tk] O (aH λm O'=>∃(b:Nat)(p:Nat->Nat)(k:Nat),m= .tuple [.aS b 0 (Ζ g) (Ζ g),mi k]/\O.Ge O'/\O.N<=b/\b<O'.N/\O'.hp b=φ (.cells (cR p (Ζ g)))/\Jy g p k/\k<=Ζ g):=by
 have xG:=hs.1;have iD:=λO'=>xk (tab:=bR Ε) fZ T3 O' (Ζ g) (by omega) (by omega)
 have aoE:=λO'=>xk (tab:=bR Ε) Qp T4 O' (Ζ g) (by omega) (by omega)
 have alN:=λ{b:pj} {B:Nat} {po pw:MV} {s:Fd} {O1:VH} (h:FS O B b (.l (Ζ g) (bz g T) tk) (Ζ g) po pw s O1) (hT:TI g Β s) (hw:s.dN=[]) (v:Nat) (hv:v<Ζ g) (h0:s.met v=0)=>ais h hT hw hv h0 hs
 generalize bz g T=A at*;refine ω 46 [.tmp 2,.tmp 3] func48 ?_;refine κ ay ?_;refine ξ ay @oB ?_;refine Γ ?_;refine VC.draw (by kernel_rfl) ?_;refine aqP 0 ?_;refine ae ay ?_;refine aqP 1 ?_;refine ae ay ?_;refine aqP 3 ?_;refine ae ay ?_;refine aqP 5 ?_;refine ae ay ?_;refine aqP 7 ?_;refine ae ay ?_;refine aqP 9 ?_;refine ae ay ?_;refine bA.makes (O0:=O) (xs:=[2,4,6,8,10]) (WK (Ζ g)) 3 #[Α,Α,Α,Α,Α,Α,Α,Α,Α,Α,Α,γ,γ,γ] ?_ ?_ ?_ 5 _ [2,4,6,8,10] _ O (λ_=>0) (by kernel_rfl) rfl (by decide) (λ_ h=>h) (λ_ _ h=>h) (VH.Ge.refl _) (λx h h2=>absurd h h2) (λx h h2=>absurd h h2);intro x hx;simp only[agb,aga,or_false]at hx;rcases hx with rfl | rfl | rfl | rfl | rfl;refine⟨rfl,λe O1 K he hk=>?_⟩;have hl:look e 10=φ (.v (Ι Κ (Ζ g))):=he _ _ rfl;refine aI.o1 ?_;refine aE ay @hl iD ?_;exact hk;refine⟨rfl,λe O1 K he hk=>?_⟩;have hl:look e 12=φ (.v (Ι Κ (Ζ g))):=he _ _ rfl;refine aI.o1 ?_;refine aE ay @hl iD ?_;exact hk;refine⟨rfl,λe O1 K he hk=>?_⟩;have hl:look e 14=φ (.v (Ι Κ (Ζ g))):=he _ _ rfl;refine aI.o1 ?_;refine aE ay @hl iD ?_;exact hk;refine⟨rfl,λe O1 K he hk=>?_⟩;have hl:look e 16=φ (.v (Ι Κ (Ζ g))):=he _ _ rfl;refine aI.o1 ?_;refine aE ay @hl aoE ?_;exact hk;refine⟨rfl,λe O1 K he hk=>?_⟩;have hl:look e 18=φ (.v (Ι Κ (Ζ g))):=he _ _ rfl;refine aI.o1 ?_;refine aE ay @hl iD ?_;exact hk;intro x hx y hy hxy;show x+9≠y+9;omega;intro K O2 aC hK hne;have fc:=aC.N;obtain⟨m1,m2,m3⟩:=hK 2 (by simp);obtain⟨l1,l2,l3⟩:=hK 4 (by simp);obtain⟨x1,x2,x3⟩:=hK 6 (by simp);obtain⟨i1,i2,i3⟩:=hK 8 (by simp);obtain⟨g1,g2,g3⟩:=hK 10 (by simp);have d1:=hne 2 (by simp) 4 (by simp) (by decide);have d2:=hne 2 (by simp) 6 (by simp) (by decide);have d3:=hne 2 (by simp) 8 (by simp) (by decide);have d4:=hne 2 (by simp) 10 (by simp) (by decide);have d5:=hne 4 (by simp) 6 (by simp) (by decide);have d6:=hne 4 (by simp) 8 (by simp) (by decide);have d7:=hne 4 (by simp) 10 (by simp) (by decide);have d8:=hne 6 (by simp) 8 (by simp) (by decide);have d9:=hne 6 (by simp) 10 (by simp) (by decide);have d0:=hne 8 (by simp) 10 (by simp) (by decide);have hme:∀e0:Env,mkE (WK (Ζ g)) K [2,4,6,8,10] e0=(11,.aS (K 2) 0 (Ζ g) (Ζ g))::(13,.aS (K 4) 0 (Ζ g) (Ζ g))::(15,.aS (K 6) 0 (Ζ g) (Ζ g))::(17,.aS (K 8) 0 (Ζ g) (Ζ g))::(19,.aS (K 10) 0 (Ζ g) (Ζ g))::e0:=λ_=>rfl
 rw[hme];clear hK hne hme;generalize K 2=bm at*;generalize K 4=bl at*;generalize K 6=bn at*;generalize K 8=bi at*;generalize K 10=bg at*;have lC:Ga (lq [(0,1),(1,1),(2,1),(3,1),(4,1),(5,1),(6,1),(7,1),(8,1),(9,1)]) [.l (Ζ g) A tk,.l 0 [] .nil,.l 0 [] .nil,.l 0 [] .nil,.l 0 [] .nil,.l 0 [] .nil,.l 0 [] .nil,.v (Ι Κ 0),.l 0 [] .nil,.v (Ι Κ 0)] (.aS bm 0 (Ζ g) (Ζ g)) [(2,.aS bl 0 (Ζ g) (Ζ g)),(3,.aS bn 0 (Ζ g) (Ζ g)),(4,.aS bi 0 (Ζ g) (Ζ g)),(8,.aS bg 0 (Ζ g) (Ζ g))] (φ (1,1))=φ (m_ ⟨O2.N,bm,bl,bn,bi,bg⟩ (.l (Ζ g) A tk) (Ζ g) (.l 0 [] .nil) (.l 0 [] .nil) fd0):=rfl;refine bA.bW [(11,.bh),(12,.one),(13,.bh)] ?_;refine ao ay lC ?_;have z2:(WK (Ζ g) 2).z=cR (λ_=>0) (Ζ g):=(tH _).symm;have z4:(WK (Ζ g) 4).z=cR (λ_=>0) (Ζ g):=(tH _).symm;have z6:(WK (Ζ g) 6).z=cR (λ_=>0) (Ζ g):=(tH _).symm;have z8:(WK (Ζ g) 8).z=nV (λ_=>γ) (Ζ g):=(Jz _).symm;have z10:(WK (Ζ g) 10).z=cR (λ_=>0) (Ζ g):=(tH _).symm;rw[z2]at m3;rw[z4]at l3;rw[z6]at x3;rw[z8]at i3;rw[z10]at g3;obtain⟨b,hb⟩:∃b:pj,b=⟨O2.N,bm,bl,bn,bi,bg⟩:=⟨_,rfl⟩
 have hbf:O2.N=b.f:=by rw[hb]
 rw[<-hb];refine VC.gen ?_;intro O3 e3
 have hS0:FS O (O2.N+1) b (.l (Ζ g) A tk) (Ζ g) (.l 0 [] .nil) (.l 0 [] .nil) fd0 O3:=by
  (have hp:∀{i x},i<O2.N->O2.hp i=x->O3.hp i=x:=λh e=>by rw[e3];exact(η _ _ h).trans e);rw[hb];refine⟨by rw[e3];exact aC.push _,by rw[e3,hb];exact ζ _ _,hp m2 m3,hp l2 l3,hp x2 x3,hp i2 i3,hp g2 g3,.inl ⟨rfl,rfl,by first | exact .inl rfl | exact .inr rfl⟩,.inl ⟨rfl,rfl,by first | exact .inl rfl | exact .inr rfl⟩,(λk hk=>by cases hk),?_,?_,by rw[e3];exact aoT _⟩
  ·simp only[pj.all,alV,agb,aga,or_false,not_or,aqm,and_true,not_false_eq_true];omega
  ·simp only[pj.all,agb,aga,or_false,forall_eq_or_imp,forall_eq];omega
 have aJ:O2.N<O3.N:=by rw[e3];exact aqg _
 clear e3 lC z2 z4 z6 z8 z10 m3 l3 x3 i3 g3;rw[hbf];have hT0:TI g Β fd0:=TI.first hm;refine κ ay ?_;refine Θ [23] [5,22] (λx:Nat×Fd×MV×MV=>[mi x.1]) (λx O'=>x.1<=(Ζ g)/\FS O (O2.N+1) b (.l (Ζ g) A tk) (Ζ g) x.2.2.1 x.2.2.2 x.2.1 O'/\TI g Β x.2.1/\x.2.1.dN=[]/\∀v,v<x.1->x.2.1.met v≠0) (λx=>(Ζ g) - x.1) ((0,fd0,.l 0 [] .nil,.l 0 [] .nil)) ?_ ?_;exact⟨af_ _,hS0,hT0,rfl,λv hv=>absurd hv (aqj _)⟩;clear hS0 hT0 aJ;rintro⟨i,s,po,pw⟩ O4 ⟨hi,hS,hT,hw,zc⟩;dsimp only at hi hS hT hw zc ⊢;have hc:=hS.cell;unfold m_ at hc;simp only[aq]at hc;by_cases cn:i<Ζ g;rotate_left
 ·obtain rfl:i=Ζ g:=by omega
  have hG:=hT.done hw zc;have jn:=hS.lo b.g (by simp[pj.all]);have hla:=hT.lo;have hnu:=hT.num;refine ν ay ?_;refine κ ay ?_;refine WC.reads ?_;refine ao ay hc ?_;refine ν ay ?_;exact⟨b.g,s.ou,s.last,rfl,hS.ge,jn.1,by have:=hS.hi;omega,hS.ou,hG,by omega⟩
 have gh:=jSx i;have sf:=hS.met;have YO:=ef s.met (Ζ g);have aj3:=iK s.met cn;simp only[aq]at aj3;refine κ ay ?_;refine κ ay ?_;refine Γ (χ ?_);refine κ ay ?_;refine θ (iV ay hc sf YO aj3 ?_);by_cases h0:s.met i=0
 ·have oE:((s.met i:Int)==0)=Α:=by simp[h0]
  rw[oE];have Nx:=alN hS hT hw i cn h0;rw[aq]at Nx;refine VC.pC rfl ?_;refine ν ay ?_;refine τ Nx ?_;rintro _ O5 ⟨po5,pw5,s5,hS5,Gu,hw5,ra,gO⟩;refine ae ay ?_;refine ο ay gh ?_;refine az.N (i+1,s5,po5,pw5) ⟨cn,hS5,Gu,hw5,λv hv=>?_⟩;by_cases e:v=i;rw[e];exact ra;exact gO v (zc v (by dsimp only at hv;omega))
 ·(have oE:((s.met i:Int)==0)=γ:=by rw[beq_eq_false_iff_ne];omega);rw[oE];refine VC.uy rfl ?_;refine ν ay ?_;refine ο ay gh ?_;refine az.N (i+1,s,po,pw) ⟨cn,hS,hT,hw,λv hv=>?_⟩;by_cases e:v=i
  ·rw[e];exact h0
  ·exact zc v (by dsimp only at hv;omega)
def xl(p:Nat->Nat)(b:Nat)(row:Χ)(k:Nat):Nat:=row.countP λx=>(p x.toNat==k)&&(k != b)
def xs(g:Ο)(p:Nat->Nat)(l:Τ)(k:Nat):Nat:=(l.map λv=>xl p (p v) (g.getD v []) k).sum
def af1(p:Nat->Nat)(b:Nat)(row:Χ)(x:Int)(k:Nat):xl p b (row++[x]) k=xl p b row k+if(p x.toNat==k)&&(k != b)then 1 else 0:=by
 unfold xl;rw[List.countP_append,List.countP_singleton]
def af2(g:Ο)(p:Nat->Nat)(l:Τ)(v k:Nat):xs g p (l++[v]) k=xs g p l k+xl p (p v) (g.getD v []) k:=by
 unfold xs;rw[aqi,List.sum_append,List.map_singleton,List.sum_singleton]
def OQ{g:Ο}(hs:sm 1000 g)(p:Nat->Nat):∀(l:Τ)(k:Nat),xs g p l k<=(Ζ l)*1000
 | [],_=>af_ _
 | v::l,k=>by
   have h:=OQ hs p l k
   have h1:xl p (p v) (g.getD v []) k<=1000:=by
    refine ake ap9 ?_;rw[YI];cases hv:g[v]? with
    | none=>exact af_ _
    | some r=>exact hs.2 r (List.mem_of_getElem? hv)
   unfold xs at h ⊢;rw[List.map_cons,List.sum_cons,akb];omega
def VH.aoF{A B:VH}(hn:A.N=B.N)(hp:A.hp=B.hp):A=B:=by
 cases A;cases B;cases hn;cases hp;rfl
def VH.abu{b:Nat}{x y x1 y1:cx}(h:a≠b)(ha:O.hp a=φ x)(hb:O.hp b=φ y):(((O.set a x1).set b y1).set a x).set b y=O:=by
 have hp:((((O.set a x1).set b y1).set a x).set b y).hp=O.hp:=funext λj=>by
  by_cases e1:j=b;subst e1;rw[υ,hb];rw[π _ _ e1];by_cases e2:j=a;subst e2;rw[υ,ha];rw[π _ _ e2,π _ _ e1,π _ _ e2]
 exact VH.aoF rfl hp
def ait{c:Nat->Nat}(a b:Nat)(hb:b<n)(h1:O.hp kb=φ (.cells [.aS kc 0 n n]))(h2:O.hp kc=φ (.cells (cR c n)))(hc:c b<=10000000):
  VF Ε 50 [mi a,mi b,.p kb 0] O (aH λ_ O'=>O'=O.set kc (.cells (cR (dM c b (c b+1)) n))):=by
 have ha:=iK c hb;have hl:=ef c n;have cX:(cR c n).set b (.v (Ι Κ ((c b+1:Nat):Int)))=cR (dM c b (c b+1)) n:=nL _ hb;have We:((c b:Int)+1)=((c b+1:Nat):Int):=by omega
 simp only[aq]at ha ⊢;generalize cR c n=C at*;refine ω 11 [] func50 ?_;refine ι (Nf ay h1 h2 ha @hl We cX ?_);trivial
def abv(g:Ο)(T:Nat->Tok)(tk:Tok)(p:Nat->Nat){bx fx b:Nat}(hs:sm 1000 g)(hm:ot g)(hp:∀v,v<(Ζ g)->p v<n)(h1:O.hp bx=φ (.cells [.l (Ζ g) (bz g T) tk]))(h2:O.hp fx=φ (.cells [.aS b 0 (Ζ g) (Ζ g)]))(h3:O.hp b=φ (.cells (cR p (Ζ g))))
  (h4:O.hp kb=φ (.cells [.aS kc 0 n n])) (h5:O.hp kc=φ (.cells (cR (λ_=>0) n))) (e1:bx≠kc) (e2:fx≠kc) (e3:b≠kc) (e4:kb≠kc) (e5:b≠fx):
  VF Ε 49 [.func (.func 50) [] [.p kb 0],.p bx 0,.p fx 0] O (aH λ_ O'=>O'=O.set kc (.cells (cR (xs g p (Ν (Ζ g))) n))):=by
 have xG:=hs.1;have n9:=eM g T;have Co:=λu h=>iw g T (u:=u) h
 generalize bz g T=A at*;have dD:=ef p (Ζ g);have Q6:=λv h=>iK p (N:=Ζ g) (v:=v) h
 generalize cR p (Ζ g)=PR at*;simp only[aq]at Q6;refine ω 42 [] func49 ?_;refine θ (aE ay h1 @oB ?_);refine χ ?_;refine Θ [10] [0,2,8,9] (λi:Nat=>[mi i]) (λi O'=>i<=(Ζ g)/\O'=O.set kc (.cells (cR (xs g p (Ν i)) n))) (λi=>(Ζ g) - i) (0) ?_ ?_;refine⟨af_ _,?_⟩;(have:xs g p (Ν 0)=λ_=>0:=rfl);rw[this];exact((aqR O kc (.cells []) _).symm.trans (VH.vk O kc h5)).symm
 rintro i O2 ⟨hi,s9⟩;by_cases cn:i<Ζ g;rotate_left
 ·obtain rfl:i=Ζ g:=by omega
  refine ν ay ?_;exact s9
 have gh:=jSx i;have bG:=Co i cn;have rE:g.getD i []=g[i]:=by rw[YI,Ca cn];rfl
 have pB:=hm g[i] (Th cn);have tO:=hs.2 g[i] (Th cn);have hxs:xs g p (Ν (i+1))=λk=>xs g p (Ν i) k+xl p (p i) g[i] k:=funext λk=>by rw[List.range_succ,af2,rE]
 have AH:=λk=>OQ hs p (Ν i) k
 rw[aqc]at AH;generalize g[i]=r at*;have tT:(r.map mi).length=Ζ r:=WT _;have zF:∀(j:Nat)(y:Int),r[j]?=φ y->(r.map mi)[j]?=φ (MV.v (Ι Κ y)):=λj y h=>by rw[agc,h];rfl
 generalize r.map mi=cs at*;refine κ ay ?_;refine κ ay ?_;refine Γ (χ ?_);refine θ (aE ay bG n9 ?_);refine ξ ay @oB ?_;refine χ ?_;refine Θ [17] [0,2,4,8,9,10,15,16] (λj:Nat=>[mi j]) (λj O'=>j<=(Ζ r)/\O'=O.set kc (.cells (cR (λk=>xs g p (Ν i) k+xl p (p i) (r.take j) k) n))) (λj=>(Ζ r) - j) (0) ?_ ?_;exact⟨af_ _,s9⟩;clear s9 O2;rintro j O2 ⟨hj,s9⟩;by_cases aM:j<Ζ r;rotate_left
 ·obtain rfl:j=Ζ r:=by omega
  rw[alU]at s9;refine ν ay ?_;refine ο ay gh ?_;exact az.N (i+1) ⟨cn,by rw[s9,hxs]⟩
 have cA:=jSx j;have hx:=pB r[j] (Th aM);have hrj:r[j]?=φ r[j]:=Ca aM;have oh:=zF j r[j] hrj;have di:r.take (j+1)=r.take j++[r[j]]:=by rw[ap2 aM]
 generalize r[j]=x at*;obtain⟨u,rfl⟩:=aka hx.1;have hu:u<Ζ g:=by omega
 have J7:=Q6 i cn;have RX:=Q6 u hu;have aoG:=hp u hu;have g2:O2.hp fx=φ (.cells [.aS b 0 (Ζ g) (Ζ g)]):=by rw[s9];exact(π _ _ e2).trans h2
 have g3:O2.hp b=φ (.cells PR):=by rw[s9];exact(π _ _ e3).trans h3
 have g4:O2.hp kb=φ (.cells [.aS kc 0 n n]):=by rw[s9];exact(π _ _ e4).trans h4
 have g5:O2.hp kc=φ (.cells (cR (λk=>xs g p (Ν i) k+xl p (p i) (r.take j) k) n)):=by rw[s9];exact υ _ _ _
 have RF:∀k,xl p (p i) (r.take j) k<=1000:=λk=>ake ap9 (by rw[List.length_take];omega)
 have hY:=λk=>af1 p (p i) (r.take j) (u:Int) k
 rw[<-di]at hY;simp only[Int.toNat_natCast]at hY;refine κ ay ?_;refine κ ay ?_;refine Γ (χ ?_);refine θ (aE ay oh tT ?_);refine κ ay ?_;refine WC.reads ?_;refine wc ay @g2 @g3 dD J7 RX ?_;by_cases hpe:p i=p u
 ·(have yA:((p i:Int) != (p u:Int))=γ:=by rw[hpe];simp);rw[yA];refine VC.uy rfl ?_;refine ν ay ?_;refine ο ay cA ?_;refine az.N (j+1) ⟨aM,?_⟩;rw[s9]
  (congr 3);funext k
  rw[hY k,if_neg,Nat.add_zero];intro h;rw[akc]at h;((have h1:p u=k:=by simpa using h.1);have h2:k≠p i:=by simpa using h.2);omega
 have yA:((p i:Int) != (p u:Int))=Α:=by rw[bne_iff_ne];omega
 rw[yA];refine VC.pC rfl ?_;refine VC.Dq [9] (fx) (b) (g2) (g3) ?_ (hne:=(e5));intro X1 X2;refine ρ 0 ay ?_;refine aqK (m:=.aS b 0 (Ζ g) (Ζ g)) 1 (λ_ h=>h.1) (λ_ h=>h.1) ?_ ?_;exact ff ay;simp only[ak];refine ρ 2 ay ?_;refine ρ 3 ay ?_;refine aqK (m:=.v (Ι Κ (p i))) 4 (λ_ h=>h.2) (λ_ h=>h.2) ?_ ?_;exact kt3 ay J7 dD;simp only[ak];refine aqK (m:=.aS b 0 (Ζ g) (Ζ g)) 5 (λ_ h=>h.1) (λ_ h=>h.1) ?_ ?_;exact ff ay;simp only[ak];refine ρ 6 ay ?_;refine ρ 7 ay ?_;refine aqK (m:=.v (Ι Κ (p u))) 8 (λ_ h=>h.2) (λ_ h=>h.2) ?_ ?_;exact kt3 ay RX dD;simp only[ak];refine ab.wB [(9,.one)] ?_ (hne:=(e5));rw[VH.abu (Ne.symm e5) g2 g3];refine ae ay ?_;have Qx:i*1000<=1000*1000:=Nat.mul_le_mul_right _ (by omega);have C_:=ait (p i) (p u) aoG g4 g5 (by have:=AH (p u);have:=RF (p u);omega);rw[aq,aq]at C_;refine τ C_ ?_;rintro _ O3 e3;refine ae ay ?_;refine ο ay cA ?_;refine az.N (j+1) ⟨aM,?_⟩;rw[e3,s9,aqR];congr 3
 funext k
 unfold dM;by_cases e:k=p u;subst e;rw[if_pos rfl,hY,if_pos (by simpa using Ne.symm hpe)];omega;rw[if_neg e,hY,if_neg,Nat.add_zero];intro h;rw[akc]at h;(have:p u=k:=by simpa using h.1);exact e this.symm
def bX(g:Ο)(p:Nat->Nat)(k:Nat):Χ:=cQ (λv=>p v==k) (Ζ g)
structure NIB(A:VH)(n ka kc kb:Nat)(O:VH):Prop where
 ge:A.Ge O:=by exact((((VH.Ge.refl _).push _).push _).push _).set (by(try dsimp only);omega) _
 nx:O.N=A.N+3:=by simp only[VH.jA,aqO]
 ha:O.hp ka=φ (.cells (Μ n (.l 0 [] .nil))):=by(try dsimp only);simp(disch:=first | omega | (simp only[VH.jA,aqO];done) | (simp only[VH.jA,aqO];omega)) only[υ,π,VH.mG]<;>exact ζ _ _
 hc:O.hp kc=φ (.cells (Μ n (.v (Ι Κ 0)))):=by(try dsimp only);simp(disch:=first | omega | (simp only[VH.jA,aqO];done) | (simp only[VH.jA,aqO];omega)) only[υ,π,VH.mG]<;>exact ζ _ _
 hb:O.hp kb=φ (.cells [.aS kc 0 n n]):=by(try dsimp only);simp(disch:=first | omega | (simp only[VH.jA,aqO];done) | (simp only[VH.jA,aqO];omega)) only[υ,π,VH.mG]<;>exact ζ _ _
 la:A.N<=ka/\A.N<=kc/\A.N<=kb/\ka<A.N+3/\kc<A.N+3/\kb<A.N+3:=by(try dsimp only);omega
 ne:ka≠kc/\ka≠kb/\kc≠kb:=by(try dsimp only);omega
def lH(g:Ο)(p:Nat->Nat)(d:Nat->Bool):Τ:=(Ν (Ζ g)).filter λv=> !d (p v)
def gR(g:Ο)(p:Nat->Nat)(m:Nat):Τ:=(Ν (Ζ g)).filter λv=>p v==m
def vQ(g:Ο)(p:Nat->Nat)(v:Nat)(l:Τ)(k:Nat):xs g p (v::l) k=xl p (p v) (g.getD v []) k+xs g p l k:=by
 unfold xs;rw[List.map_cons,List.sum_cons]
def WN(g:Ο)(p:Nat->Nat){m:Nat}(hd:d m=γ)(k:Nat):xs g p (lH g p d) k=xs g p (lH g p (dM d m Α)) k+xs g p (gR g p m) k:=by
 unfold lH gR;generalize Ν (Ζ g)=l;induction l with
 | nil=>rfl
 | cons v l ih=>
   by_cases e:p v=m
   ·(have h1:(!d (p v))=Α:=by rw[e,hd];rfl);have h2:(!dM d m Α (p v))=γ:=by rw[e,ji];rfl
    have h3:(p v==m)=Α:=by simpa using e
    rw[alR,alR,alR,h1,h2,h3,if_pos rfl,if_neg (by decide),if_pos rfl,vQ,vQ,ih];omega
   ·have h2:dM d m Α (p v)=d (p v):=j7 _ _ e;(((have h3:(p v==m)=γ:=by rw[beq_eq_false_iff_ne];exact e);rw[alR,alR,alR,h2,h3,if_neg (by decide:¬γ=Α)];split);rw[vQ,vQ,ih];omega);exact ih
def Mm{d:Nat->Bool}:∀n,(∃k,k<n/\d k=γ)->∃k,k<n/\d k=γ/\∀j,k<j->j<n->d j=Α
 | 0,⟨_,h,_⟩=>absurd h (aqj _)
 | n+1,⟨k,h1,h2⟩=>by
   cases hd:d n;exact⟨n,aqg n,hd,λj h3 h4=>by omega⟩
   ·obtain⟨q,g1,g2,g3⟩:=Mm n ⟨k,by
     (have:k≠n:=λe=>by rw[e,hd]at h2;cases h2);omega,h2⟩
    refine⟨q,by omega,g2,λj h3 h4=>?_⟩;by_cases e:j=n;rw[e];exact hd;exact g3 j h3 (by omega)
def af3(hG:Jy g p n)(hm:ot g)(hd:∃k,k<n/\d k=γ):∃k,k<n/\d k=γ/\xs g p (lH g p d) k=0:=by
 obtain⟨k,h1,h2,h3⟩:=Mm n hd;refine⟨k,h1,h2,?_⟩
 have key:∀l:Τ,(∀v∈l,v<(Ζ g)/\d (p v)=γ)->xs g p l k=0:=by
  intro l;induction l with
  | nil=>intro _;rfl
  | cons v l ih=>
    intro hl;obtain⟨hv,EA⟩:=hl v Ti;rw[vQ,ih λw hw=>hl w (alO _ hw),Nat.add_zero];unfold xl;rw[alQ];intro x hx;rw[YI,Ca hv]at hx;have hx:x∈g[v]:=hx;obtain⟨h4,_⟩:=hm _ (Th hv) x hx;obtain⟨u,rfl⟩:=aka h4;have he:=hG.YE v u ⟨g[v],Ca hv,hx⟩;rw[Int.toNat_natCast,akc];rintro⟨h5,h6⟩;((have h5:p u=k:=by simpa using h5);have h6:k≠p v:=by simpa using h6);have:=h3 (p v) (by omega) (hG.lt v hv);rw[EA]at this;cases this
 refine key _ λv hv=>?_
 have:=List.mem_filter.1 hv;exact⟨alP.1 this.1,by simpa using this.2⟩
def aiu(hs:sm 1000 g)(p:Nat->Nat)(q:Nat->Bool)(k:Nat):xs g p ((List.range (Ζ g)).filter q) k<=1000000:=by
 have h1:=OQ hs p ((Ν (Ζ g)).filter q) k;have h2:=List.length_filter_le q (Ν (Ζ g));rw[aqc]at h2;have:=hs.1;omega
def WO:ϑ->Int
 | none=> -1
 | some m=>m
def abw(g:Ο)(T:Nat->Tok)(tk:Tok)(O:VH)(hs:sm 1000 g)(hm:ot g):VF Ε 33 [.l (Ζ g) (bz g T) tk] O (aH λm O'=>∃(p:Nat->Nat)(n:Nat)(od:Τ)(T':Nat->Tok)(t:Tok),m= .l (od.map (bX g p)).length (bz (od.map (bX g p)) T') t/\O.Ge O'/\Jy g p n/\n<=(Ζ g)/\(Ζ od)<=(Ζ g)/\∀k,k<n ↔ k∈od):=by
 have E_:sm 1000000 g:=⟨hs.1,λl hl=>ake (hs.2 l hl) (by decide)⟩;have xG:=hs.1;have ew:cS (bR Ε) 25 (.l (Ζ g) (bz g T) tk)=φ (.v (Ι Κ (Ζ g))):=bC qV;have qq:=λO'=>zE g T tk O' E_
 have af4:=λO'=>abt g T tk O' E_ hm
 have GF:=(jv g).2 hm;simp only[GF]at qq;obtain⟨A,hA⟩:∃A,A=bz g T:=⟨_,rfl⟩
 rw[<-hA]at ew ⊢;simp only[<-hA]at qq af4;refine ω 140 [.tmp 2] func33 ?_;refine κ ay ?_;refine VC.bx ?_;rintro O1 ⟨aK,eS,dd⟩;refine ξ ay eS ?_;refine τ (qq O1) ?_;rintro _ Ox ⟨rfl,eO⟩;rw[eO];clear eO Ox qq;refine ae ay ?_;refine ξ ay eS ?_;refine τ (af4 O1) ?_;rintro _ O2 ⟨b,p,n,rfl,aC,oE,yA,cG,hG,Fc⟩;simp only[aq];refine ae ay ?_;have Mn:=λO'=>xk (tab:=bR Ε) qV fZ O' n (by omega) (by omega)
 have Mo:=λO'=>xk (tab:=bR Ε) fZ T3 O' n (by omega) (by omega)
 have aj4:=λO'=>xk (tab:=bR Ε) Qp T4 O' n (by omega) (by omega)
 refine VC.gen ?_;intro O3 e3;have qU:O3.hp O2.N=φ (.cells [.aS b 0 (Ζ g) (Ζ g)]):=by rw[e3];exact υ _ _ _
 have cN:O3.hp b=φ (.cells (cR p (Ζ g))):=by rw[e3,VH.sx,η _ _ yA];exact cG
 have kD:O3.hp O.N=φ (.cells [.l (Ζ g) A tk]):=by rw[e3,VH.sx,η _ _ (by omega)];exact aC.at eS
 have ij:O3.N=O2.N+1:=by rw[e3];rfl
 have aJ:O.Ge O3:=by rw[e3];exact((aK.trans aC).push _).set (by have:=aK.N;have:=aC.N;omega) _
 clear e3 cG af4;refine Ξ [1,2,3,4,5,6] (λs:Nat×Nat×Nat=>[.p O.N 0,.l 0 [] .nil,.p O2.N 0,mi n,.aS s.1 0 n n,.p s.2.2 0]) (λs O'=>NIB O3 n s.1 s.2.1 s.2.2 O') ?_ ?_;refine VC.draw (by kernel_rfl) ?_;refine aqP 0 ?_;refine ae ay ?_;refine aqP 2 ?_;refine ae ay ?_;refine bA.all (rs:=[1,3,4]) (by kernel_rfl) (by decide) ?_;intro x hx;simp only[agb,aga,or_false]at hx;rcases hx with rfl | rfl | rfl;refine aI.o1 ?_;refine ao ay Mn ?_;refine bA.all (rs:=[3,4]) (by kernel_rfl) (by decide) ?_;intro x hx;simp only[agb,aga,or_false]at hx;rcases hx with rfl | rfl;refine aI.o1 ?_;refine ao ay Mo ?_;refine bA.rY (i:=4) ?_;refine ae ay ?_;refine aqP 5 ?_;refine ae ay ?_;refine bA.rY (i:=6) ?_;refine ae ay ?_;refine bA.done (by kernel_rfl) ?_;exact aB.mk (O3.N,O3.N+1,O3.N+1+1) {};refine aI.o1 ?_;refine ae ay ?_;refine aqP 5 ?_;refine ae ay ?_;refine bA.rY (i:=3) ?_;refine ao ay Mo ?_;refine bA.rY (i:=6) ?_;refine ae ay ?_;refine bA.done (by kernel_rfl) ?_;exact aB.mk (O3.N,O3.N+1+1,O3.N+1) {};refine aI.o1 ?_;refine ao ay Mo ?_;refine bA.all (rs:=[1,4]) (by kernel_rfl) (by decide) ?_;intro x hx;simp only[agb,aga,or_false]at hx;rcases hx with rfl | rfl;refine aI.o1 ?_;refine ao ay Mn ?_;refine bA.rY (i:=4) ?_;refine ae ay ?_;refine aqP 5 ?_;refine ae ay ?_;refine bA.rY (i:=6) ?_;refine ae ay ?_;refine bA.done (by kernel_rfl) ?_;exact aB.mk (O3.N+1,O3.N,O3.N+1+1) {};refine aI.o1 ?_;refine ae ay ?_;refine bA.rY (i:=1) ?_;refine ao ay Mn ?_;refine aqP 5 ?_;refine ae ay ?_;refine bA.rY (i:=6) ?_;refine ae ay ?_;refine bA.done (by kernel_rfl) ?_;exact aB.mk (O3.N+1+1,O3.N,O3.N+1) {};refine aI.o1 ?_;refine ae ay ?_;refine bA.all (rs:=[1,3]) (by kernel_rfl) (by decide) ?_;intro x hx;simp only[agb,aga,or_false]at hx;rcases hx with rfl | rfl;refine aI.o1 ?_;refine ao ay Mn ?_;refine aqP 5 ?_;refine ae ay ?_;refine bA.rY (i:=3) ?_;refine ao ay Mo ?_;refine bA.rY (i:=6) ?_;refine ae ay ?_;refine bA.done (by kernel_rfl) ?_;exact aB.mk (O3.N+1,O3.N+1+1,O3.N) {};refine aI.o1 ?_;refine ao ay Mo ?_;refine bA.rY (i:=1) ?_;refine ao ay Mn ?_;refine aqP 5 ?_;refine ae ay ?_;refine bA.rY (i:=6) ?_;refine ae ay ?_;refine bA.done (by kernel_rfl) ?_;exact aB.mk (O3.N+1+1,O3.N+1,O3.N) {};rintro⟨ka,kc,kb⟩ O5 hN;have bO:=aJ.trans hN.ge;have mA:=hN.ge.at kD;have Kf:=hN.ge.at qU;have dG:=hN.ge.at cN;have eJ:=hN.nx;obtain⟨la1,la2,la3,la4,la5,la6⟩:=hN.la;obtain⟨ne1,ne2,ne3⟩:=hN.ne;have dW:=hN.ha;have gD:=hN.hc;have gO:=hN.hb;have anw:=aK.N;have apV:=aC.N;dsimp only at eJ la1 la2 la3 la4 la5 la6 ne1 ne2 ne3 dW gD gO;rw[<-zC]at dW;have aj5:O5.hp kc=φ (.cells (cR (λ_=>0) n)):=by rw[tH];exact gD
 clear hN gD qU cN kD Mn Mo;have dD:=ef p (Ζ g);have Q6:=λv h=>iK p (N:=Ζ g) (v:=v) h
 simp only[aq]at Q6;dsimp only;refine θ (aE ay Kf @oB ?_);refine Θ [31] [1,2,3,4,5,6,29,30] (λi:Nat=>[mi i]) (λi O'=>i<=(Ζ g)/\O5.N<=O'.N/\(∀j,j<O5.N->j≠ka->O'.hp j=O5.hp j)/\∃T',O'.hp ka=φ (.cells (dH n (λk=>cQ (λv=>p v==k) i) T'))/\xE n T' O5.N O') (λi=>(Ζ g) - i) (0) ?_ ?_;exact⟨af_ _,aoT _,λ_ _ _=>rfl,_,dW,xE.zero _ _ _⟩;rintro i O6 ⟨hi,oD,lP,T6,pe,SQ⟩;by_cases cn:i<Ζ g;have gh:=jSx i;have jr:=(lP b (by omega) (by omega)).trans dG;have J7:=Q6 i cn;have hu:=hG.lt i cn;have Jl:=lT (λk=>cQ (λv=>p v==k) i) T6 hu;have pW:=fW n (λk=>cQ (λv=>p v==k) i) T6;have Rr:=jM (λv=>p v==p i) i;(((have fz:=λt=>Cm (R:=λk=>cQ (λv=>p v==k) i) (R':=λk=>cQ (λv=>p v==k) (i+1)) (x:=(i:Int)) T6 t hu (by(try dsimp only);rw[qJ,if_pos (by simp)]) (λv _ hv=>by(try dsimp only);rw[qJ,if_neg (by simpa using Ne.symm hv),aqh]));have cH:=SQ.1 (p i) hu;have cX:=fz (.own O6.N 1);rw[aq]at cX;try dsimp only at Jl cX);have je:=aP (tk:=T6 (p i)) (tk':=.full) (n:=(cQ (λv=>p v==p i) i).length) (k:=1) (cs:=(cQ (λv=>p v==p i) i).map mi) (ds:=[.v (Ι Κ i)]) fZ T3 cH (by rw[WT,aqk]);have Wq:=VH.jo cH pe;have AO:=VH.dC O6 (T6 (p i));have ir:=cy.after cH;have vM:∀j,Tok.id (T6 (p i))=φ j->O5.N<=j:=λj e=>(cH.nZ e).1);generalize dH n (λk=>cQ (λv=>p v==k) i) T6=RR at*;generalize cR p (Ζ g)=PR at*;refine κ ay ?_;refine κ ay ?_;refine Γ (χ ?_);refine θ (cB ay jr J7 dD ?_);refine ι (cB ay pe pW Jl ?_);refine VL.app je ?_;refine cB ay Wq pW cX ?_;refine ο ay gh ?_;refine az.N (i+1) ⟨cn,by show O5.N<=(O6.after (T6 (p i))).N;omega,λj hj hne=>?_,_,υ _ _ _,SQ.put hu (by omega) rfl λi hi=>VH.sx⟩;rw[π _ _ hne,ir.hp j (by omega) (λe=>by have:=vM j e;omega)];exact lP j hj hne
 obtain rfl:i=Ζ g:=by omega
 change O6.hp ka=φ (.cells (dH n (bX g p) T6))at pe
 have oo:=(lP O.N (by omega) (by omega)).trans mA;have GB:=(lP O2.N (by omega) (by omega)).trans Kf;have jr:=(lP b (by omega) (by omega)).trans dG;have qg:=(lP kb (by omega) (by omega)).trans gO;have AM:=(lP kc (by omega) (by omega)).trans aj5;have hac:=abv g T tk p hs hm hG.lt (by rw[hA]at oo;exact oo) GB jr qg AM (by omega) (by omega) (by omega) (by omega) (by omega);clear dW aj5 SQ;refine ν ay ?_;refine κ ay ?_;refine κ ay ?_;refine τ hac ?_;rintro _ O7 e7;refine ae ay ?_;refine ξ ay aj4 ?_;refine VC.gen ?_;intro O8 e8;have Es:O8.N=O6.N+1:=by rw[e8,e7];rfl
 have rO:∀j,j<O6.N->j≠kc->O8.hp j=O6.hp j:=λj hj hne=>by rw[e8,η _ _ (by rw[e7];exact hj),e7,π _ _ hne]
 have hc8:O8.hp kc=φ (.cells (cR (xs g p (Ν (Ζ g))) n)):=by rw[e8,η _ _ (by rw[e7];show kc<O6.N;omega),e7];exact υ _ _ _
 have hd8:O8.hp O6.N=φ (.cells (nV (λ_=>γ) n)):=by
  rw[e8,Jz,show O6.N=O7.N by rw[e7];rfl];exact ζ _ _
 have e67:O7.N=O6.N:=by rw[e7];rfl
 rw[e67];clear e7 e8 hac AM;have RB:=(rO O.N (by omega) (by omega)).trans oo;have hf8:=(rO O2.N (by omega) (by omega)).trans GB;have uC:=(rO b (by omega) (by omega)).trans jr;have vv:=(rO kb (by omega) (by omega)).trans qg;have EV:=(rO ka (by omega) (by omega)).trans pe;have iC:O.Ge O8:=⟨by omega,λj hj=>by rw[rO j (by omega) (by omega),lP j (by omega) (by omega)];exact bO.hp j hj⟩;obtain⟨kd,vW⟩:∃kd,kd=O6.N:=⟨_,rfl⟩
 rw[<-vW]at hd8 ⊢;clear oo GB jr qg pe mA Kf dG gO lP rO aj4;have Jl:=λu h=>lT (bX g p) T6 (n:=n) (u:=u) h
 have pW:=fW n (bX g p) T6;generalize dH n (bX g p) T6=RR at*;generalize cR p (Ζ g)=PR at*;refine κ ay ?_
 have hne:∀k,k<n->∃f:Nat,(bX g p k)[0]?=φ (f:Int):=λk hk=>by
  obtain⟨v,hv,uK⟩:=hG.use k hk;have nR:(v:Int)∈bX g p k:=iy.2 ⟨v,rfl,hv,by simpa using uK⟩;cases hn:bX g p k with
  | nil=>rw[hn]at nR;cases nR
  | cons x l=>
    (have:x∈bX g p k:=by rw[hn];exact Ti);obtain⟨i,e,_⟩:=iy.1 this;exact⟨i,by rw[e];rfl⟩
 refine Θ [2,54] [1,3,4,5,6,10,53] (λs:Τ×(Nat->Tok)×Tok×(Nat->Bool)×Nat=>[.l (s.1.map (bX g p)).length (bz (s.1.map (bX g p)) s.2.1) s.2.2.1,mi s.2.2.2.2]) (λs O'=>O8.N<=O'.N/\(∀j,j<O8.N->j≠kc->j≠kd->O'.hp j=O8.hp j)/\O'.hp kc=φ (.cells (cR (xs g p (lH g p s.2.2.2.1)) n))/\O'.hp kd=φ (.cells (nV s.2.2.2.1 n))/\App O' O8.N 1 s.2.2.1/\s.2.2.2.2<=n/\(Ζ s.1)=s.2.2.2.2/\(∀k,k∈s.1->k<n)/\(∀k,k<n->(s.2.2.2.1 k=Α ↔ k∈s.1))/\s.2.2.2.2+(Ν n).countP (λk=> !s.2.2.2.1 k)=n) (λs=>n - s.2.2.2.2) (([],(λ_=>.nil),.nil,(λ_=>γ),0)) ?_ ?_
 ·(have he:lH g p (λ_=>γ)=Ν (Ζ g):=by unfold lH;exact List.filter_eq_self.2 (by simp));exact⟨aoT _,λ_ _ _ _=>rfl,by dsimp only;rw[he];exact hc8,hd8,trivial,af_ _,rfl,by simp,by simp,by simp⟩
 clear hc8 hd8;rintro⟨od,TX,tX,d,i⟩ O9 ⟨AL,uL,B_,xr,ik,C_,EC,OS,hdo,adZ⟩;dsimp only at B_ xr ik C_ EC OS hdo adZ ⊢;by_cases cn:i<n;rotate_left
 ·obtain rfl:i=n:=by omega
  have h0:∀k,k<i->d k=Α:=λk hk=>by
   have hz:(Ν i).countP (λk=> !d k)=0:=by omega
   rw[alQ]at hz;have:=hz k (alP.2 hk);simpa using this
  refine ν ay ?_;refine κ ay ?_;refine ν ay ?_;exact⟨p,i,od,TX,tX,rfl,⟨by omega,λj hj=>(uL j (by omega) (by omega) (by omega)).trans (iC.hp j hj)⟩,hG,Fc,by omega,λk=>⟨λhk=>(hdo k hk).1 (h0 k hk),OS k⟩⟩
 have gh:=jSx i;have hx9:=(uL O.N (by omega) (by omega) (by omega)).trans RB;have hf9:=(uL O2.N (by omega) (by omega) (by omega)).trans hf8;have b9:=(uL b (by omega) (by omega) (by omega)).trans uC;have J9:=(uL kb (by omega) (by omega) (by omega)).trans vv;have SR:=(uL ka (by omega) (by omega) (by omega)).trans EV
 have Re:∃k,k<n/\d k=γ/\xs g p (lH g p d) k=0:=af3 hG hm (by
  have hz:(Ν n).countP (λk=> !d k)≠0:=by omega
  have hz:¬ ∀k∈Ν n,¬(!d k)=Α:=λh=>hz (alQ.2 h)
  refine Classical.byContradiction λdh=>hz λk hk hdk=>dh ⟨k,alP.1 hk,by simpa using hdk⟩)
 have aj6:∀(d':Nat->Bool) k,xs g p (lH g p d') k<=1000000:=λd' k=>aiu hs p (λv=> !d' (p v)) k
 refine κ ay ?_;refine κ ay ?_;refine Γ (χ ?_);refine κ ay ?_;refine Ξ [1,2,3,4,5,6,10,11,53,54] (λm:Nat=>[.p O.N 0,.l (od.map (bX g p)).length (bz (od.map (bX g p)) TX) tX,.p O2.N 0,mi n,.aS ka 0 n n,.p kb 0,.aS kd 0 n n,mi m,mi n,mi i]) (λm O'=>O'=O9/\m<n/\d m=γ) ?_ ?_
 ·refine κ ay ?_;refine χ ?_;refine Θ [11,57] [1,2,3,4,5,6,10,53,54,56] (λs:ϑ×Nat=>[mi (WO s.1),mi s.2]) (λs O'=>O'=O9/\s.2<=n/\(s.1=Β->∀k,k<s.2->d k=γ->xs g p (lH g p d) k≠0)/\∀m,s.1=φ m->m<n/\d m=γ) (λs=>n - s.2) ((Β,0)) ?_ ?_;exact⟨rfl,af_ _,λ_ k hk=>absurd hk (aqj _),λm h=>by cases h⟩;rintro⟨bs,j⟩ Ox ⟨eO,hj,af5,NB⟩;rw[eO];clear eO Ox;dsimp only at hj af5 NB ⊢;by_cases aM:j<n;rotate_left
  ·obtain rfl:j=n:=by omega
   cases bs with
   | none=>
     obtain⟨k,h1,h2,h3⟩:=Re;exact absurd h3 (af5 rfl k h1 h2)
   | some m=>
     refine ν ay ?_;exact aB.mk m ⟨rfl,NB m rfl⟩
  have cA:=jSx j;have gU:=ef (xs g p (lH g p d)) n;have JY:=iK (xs g p (lH g p d)) aM;have kV:=nK d n;have WQ:=zL d aM;have RF:=aj6 d j;simp only[aq,bB]at JY WQ;generalize cR (xs g p (lH g p d)) n=CR at*;generalize nV d n=DR at*
  have key:∀bs':ϑ,(bs'=bs\/(bs'=φ j/\d j=γ))->(bs'=Β->d j=γ->xs g p (lH g p d) j≠0)->(bs'=Β->∀k,k<j+1->d k=γ->xs g p (lH g p d) k≠0)/\∀m,bs'=φ m->m<n/\d m=γ:=λbs' h1 h2=>by
   refine⟨λhb k hk hd=>?_,λm hb=>?_⟩;by_cases e:k=j;rw[e]at hd ⊢;exact h2 hb hd;rcases h1 with h1 | h1;exact af5 (h1▸hb) k (by omega) hd;rw[h1.1]at hb;cases hb;rcases h1 with h1 | h1;exact NB m (h1▸hb);rw[h1.1]at hb;injection hb with hb;rw[<-hb];exact⟨aM,h1.2⟩
  refine κ ay ?_;refine κ ay ?_;refine Γ (χ ?_);refine κ ay ?_;refine κ ay ?_;refine WC.reads ?_;cases EA:d j;rotate_left;rw[EA]at WQ;have hk:=key bs (.inl rfl) (λ_ h=>by rw[EA]at h;cases h);refine cB ay xr kV WQ ?_;refine VC.uy rfl ?_;refine ν ay ?_;refine ο ay cA ?_;exact az.N (bs,j+1) ⟨rfl,aM,hk.1,hk.2⟩;rw[EA]at WQ;by_cases hc0:xs g p (lH g p d) j=0;rotate_left
  ·(have oE:((xs g p (lH g p d) j:Int)==0)=γ:=by rw[beq_eq_false_iff_ne];omega);have hk:=key bs (.inl rfl) (λ_ _=>hc0);refine JS ay (abx xr J9) kV WQ B_ gU JY oE ?_;refine VC.uy rfl ?_;refine ν ay ?_;refine ο ay cA ?_;exact az.N (bs,j+1) ⟨rfl,aM,hk.1,hk.2⟩
  have oE:((xs g p (lH g p d) j:Int)==0)=Α:=by rw[hc0];rfl
  have hkj:=key (φ j) (.inr ⟨rfl,EA⟩) (λh=>by cases h);cases bs with
  | none=>
    have Gk:WO Β= -1:=rfl;have dm:decide ((-1:Int)<0)=Α:=rfl;refine kw9 ay (abx xr J9) kV WQ B_ gU JY oE (abx Gk dm) ?_;refine VC.pC rfl ?_;refine ν ay ?_;refine ο ay cA ?_;exact az.N (φ j,j+1) ⟨rfl,aM,hkj.1,hkj.2⟩
  | some m=>
    obtain⟨Jo,_⟩:=NB m rfl;obtain⟨fj,hfj⟩:=hne j aM;obtain⟨fm,U_⟩:=hne m Jo;have aoH:=Jl j aM;have YG:=Jl m Jo;have NA:0<(bX g p j).length:=(aqd.1 hfj).1;have tT:0<(bX g p m).length:=(aqd.1 U_).1;((((have aoI:((bX g p j).map mi)[0]?=φ (MV.v (Ι Κ fj)):=by rw[agc,hfj];rfl);have aoJ:((bX g p m).map mi)[0]?=φ (MV.v (Ι Κ fm)):=by rw[agc,U_];rfl);have aoK:((bX g p j).map mi).length=(bX g p j).length:=WT _;have aoL:((bX g p m).map mi).length=(bX g p m).length:=WT _;generalize (bX g p j).map mi=LJ at*;generalize (bX g p m).map mi=LM at*;have Gk:WO (φ m)=(m:Int):=rfl;have dm:decide ((m:Int)<0)=γ:=decide_eq_false (by omega);refine kw9 ay (abx (abx xr J9) (abx kV WQ)) (abx B_ (abx gU JY)) oE (abx Gk dm) SR (abx pW (abx aoH YG)) (abx aoI aoJ) (abx aoK aoL) ?_;have RT:=key (φ m) (.inl rfl) (λh=>by cases h);generalize decide ((fj:Int)<(fm:Int))=z;cases z);refine VC.uy rfl ?_;refine ν ay ?_;refine ο ay cA ?_;exact az.N (φ m,j+1) ⟨rfl,aM,RT.1,RT.2⟩);refine VC.pC rfl ?_;refine ν ay ?_;refine ο ay cA ?_;exact az.N (φ j,j+1) ⟨rfl,aM,hkj.1,hkj.2⟩
 rintro m Ox ⟨eO,Jo,hdm⟩;rw[eO];clear eO Ox Re;have kV:=nK d n;have fz:(nV d n).set m (.v (.bool Α))=nV (dM d m Α) n:=Fb _ Jo;have YG:=Jl m Jo;have hsp:=λk=>WN g p hdm k
 have hw:bX g p m=(gR g p m).map λi:Nat=>(i:Int):=rfl
 have pB:∀v,v∈gR g p m->v<(Ζ g)/\p v=m:=λv hv=>by
  have:=List.mem_filter.1 hv;exact⟨alP.1 this.1,by simpa using this.2⟩
 have aph:(gR g p m).length<=1000:=by
  have:=List.length_filter_le (λv=>p v==m) (Ν (Ζ g));rw[aqc]at this;exact ake this xG
 have lZ:(bX g p m).length=(gR g p m).length:=by rw[hw,WT]
 have WJ:∀e (v:Nat),(gR g p m)[e]?=φ v->((bX g p m).map mi)[e]?=φ (MV.v (Ι Κ v)):=λe v h=>by rw[hw,agc,agc,h];rfl
 refine θ (cB ay xr kV fz ?_);refine VC.gen ?_;intro fM rG;have qo:∀j,j≠kd->fM.hp j=O9.hp j:=λj hj=>by rw[rG];exact π _ _ hj
 have H9:fM.N=O9.N:=by rw[rG];rfl
 have aoM:fM.hp kd=φ (.cells (nV (dM d m Α) n)):=by rw[rG];exact υ _ _ _
 clear rG;have Jb:App fM O8.N 1 tX:=ow ik (λj hj=>qo j (by omega));have hXr:=eM (od.map (bX g p)) TX;have hY:=zG (od.map (bX g p)) TX (bX g p m) (T6 m);have hXn:(od.map (bX g p)).length<=1000:=by rw[WT,EC];omega
 have je:=aP (tk:=tX) (tk':=.full) (n:=(od.map (bX g p)).length) (k:=1) (cs:=bz (od.map (bX g p)) TX) (ds:=[.l (bX g p m).length ((bX g p m).map mi) (T6 m)]) qV fZ Jb (by rw[hXr,aqk]);have AO:=VH.dC fM tX;have ir:=cy.after Jb;have vM:∀j,Tok.id tX=φ j->O8.N<=j:=λj e=>(Jb.nZ e).1
 have aj7:=(qo ka (by omega)).trans SR;have Jf:∀j,j<O8.N->(fM.after tX).hp j=fM.hp j:=λj hj=>ir.hp j (by omega) (λe=>by have:=vM j e;omega)
 have qR:cS (bR Ε) 29 (.l (bX g p m).length ((bX g p m).map mi) (T6 m))=φ (.v (Ι Κ (bX g p m).length)):=bC fZ;have aoN:((bX g p m).map mi).length=(bX g p m).length:=WT _;have Q_:=App.after (O:=fM) (tk:=tX) (B:=O8.N) (sz:=1) (by omega);refine θ (cB ay aj7 pW YG ?_);refine VL.app je ?_;refine ae ay ?_;have Wq:=(Jf ka (by omega)).trans aj7;have hxA:=(Jf O.N (by omega)).trans ((qo O.N (by omega)).trans hx9);have hfA:=(Jf O2.N (by omega)).trans ((qo O2.N (by omega)).trans hf9);have B2:=(Jf b (by omega)).trans ((qo b (by omega)).trans b9);have aoO:=(Jf kb (by omega)).trans ((qo kb (by omega)).trans J9);have Gw:=(Jf kc (by omega)).trans ((qo kc (by omega)).trans B_);have B1:=(Jf kd (by omega)).trans aoM;generalize apW:fM.after tX=rR at*;have hc0:xs g p (lH g p d)=λk=>xs g p (lH g p (dM d m Α)) k+xs g p ((gR g p m).drop 0) k:=funext λk=>hsp k
 rw[hc0]at Gw;refine θ (iV ay Wq pW YG qR ?_);refine χ ?_;refine Θ [108] [1,2,3,4,5,6,10,11,53,54,106,107] (λe:Nat=>[mi e]) (λe O'=>e<=(gR g p m).length/\O'=rR.set kc (.cells (cR (λk=>xs g p (lH g p (dM d m Α)) k+xs g p ((gR g p m).drop e) k) n))) (λe=>(gR g p m).length - e) (0) ?_ ?_;exact⟨af_ _,((aqR rR kc (.cells []) _).symm.trans (VH.vk rR kc Gw)).symm⟩;rintro e AQ ⟨he,zN⟩;by_cases NG:e<(gR g p m).length;rotate_left
 ·obtain rfl:e=(gR g p m).length:=by omega
  (have fK:(λk=>xs g p (lH g p (dM d m Α)) k+xs g p ((gR g p m).drop (gR g p m).length) k)=xs g p (lH g p (dM d m Α)):=funext λk=>by rw[List.drop_length];rfl);rw[fK]at zN;have af6:∀j,j≠kc->AQ.hp j=rR.hp j:=λj hj=>by rw[zN];exact π _ _ hj
  (have LN:AQ.N=rR.N:=by rw[zN];rfl);have xB:=Cr (p:=λk=> !d k) (q:=λk=> !dM d m Α k) (n:=m) (by rw[hdm];rfl) (by rw[ji];rfl) (λv hv=>by rw[j7 _ _ hv]) n Jo;refine ν ay ?_;refine ο ay gh ?_;refine az.N (od++[m],(λv=>if v=(od.map (bX g p)).length then T6 m else TX v),.own fM.N 1,dM d m Α,i+1) ⟨by omega,λj hj h1 h2=>?_,by rw[zN];exact υ _ _ _,(af6 kd (by omega)).trans B1,ow Q_ (λj hj=>af6 j (by omega)),cn,by rw[ap3,EC];rfl,λk hk=>?_,λk hk=>?_,by dsimp only;omega⟩ (hl:=by dsimp only;rw[aqi,List.map_singleton, <-hY,ap3];rfl)
  ·rw[af6 j h1,Jf j hj,qo j h2];exact uL j hj h1 h2
  ·rcases List.mem_append.1 hk with hk | hk;exact OS k hk;rw[ap_.1 hk];exact Jo
  ·dsimp only;by_cases e:k=m;rw[e,ji];simp;rw[j7 _ _ e,hdo k hk,List.mem_append,ap_];exact⟨.inl,λh=>h.resolve_right e⟩
 have Vk:=jSx e;have hve:(gR g p m)[e]?=φ (gR g p m)[e]:=Ca NG;obtain⟨GH,uK⟩:=pB _ (Th NG);have hwe:=WJ e _ hve;have Nw:(gR g p m).drop e=(gR g p m)[e]::(gR g p m).drop (e+1):=aqe NG;generalize (gR g p m)[e]=v at*;have hgv:g.getD v []=g[v]:=by rw[YI,Ca GH];rfl
 have cU:=iw g T GH;have aj8:=eM g T;rw[<-hA]at cU aj8;have aoP:=hm g[v] (Th GH);have apX:=hs.2 g[v] (Th GH)
 have eS:(λk=>xs g p (lH g p (dM d m Α)) k+xs g p ((gR g p m).drop e) k)=λk=>xs g p (lH g p (dM d m Α)) k+xs g p ((gR g p m).drop (e+1)) k+xl p m (g[v].drop 0) k:=funext λk=>by
  rw[Nw,vQ,uK,hgv,List.drop_zero];omega
 rw[eS]at zN;have cC:=aj6 (dM d m Α)
 have cG:∀k,xs g p ((gR g p m).drop (e+1)) k<=1000000:=λk=>by
  have:=OQ hs p ((gR g p m).drop (e+1)) k;rw[List.length_drop]at this;omega
 generalize g[v]=r at*;have aoQ:cS (bR Ε) 29 (.l (Ζ r) (r.map mi) (T v))=φ (.v (Ι Κ (Ζ r))):=bC fZ;have hrm:(r.map mi).length=Ζ r:=WT _;have hra:∀(j:Nat)(y:Int),r[j]?=φ y->(r.map mi)[j]?=φ (MV.v (Ι Κ y)):=λj y h=>by rw[agc,h];rfl
 generalize r.map mi=cs at*;have SC:AQ.hp O.N=φ (.cells [.l (Ζ g) A tk]):=by rw[zN];exact(VH.sx).trans hxA
 refine κ ay ?_;refine κ ay ?_;refine Γ (χ ?_);refine θ (aE ay hwe aoN ?_);refine θ (iV ay SC cU aj8 aoQ ?_);refine χ ?_;refine Θ [117] [1,2,3,4,5,6,10,11,53,54,106,107,108,115,116] (λf:Nat=>[mi f]) (λf O'=>f<=(Ζ r)/\O'=rR.set kc (.cells (cR (λk=>xs g p (lH g p (dM d m Α)) k+xs g p ((gR g p m).drop (e+1)) k+xl p m (r.drop f) k) n))) (λf=>(Ζ r) - f) (0) ?_ ?_;exact⟨af_ _,zN⟩;clear zN SC AQ;rintro f AQ ⟨hf,zN⟩;by_cases jI:f<Ζ r;rotate_left
 ·obtain rfl:f=Ζ r:=by omega
  (have jm:(λk=>xs g p (lH g p (dM d m Α)) k+xs g p ((gR g p m).drop (e+1)) k+xl p m (r.drop (Ζ r)) k)=λk=>xs g p (lH g p (dM d m Α)) k+xs g p ((gR g p m).drop (e+1)) k:=funext λk=>by rw[List.drop_length];rfl);rw[jm]at zN;refine ν ay ?_;refine ο ay Vk ?_;exact az.N (e+1) ⟨NG,zN⟩
 have D5:=jSx f;have hxb:=aoP r[f] (Th jI);have oh:=hra _ _ (Ca jI);have hdf:r.drop f=r[f]::r.drop (f+1):=aqe jI;generalize r[f]=x at*;obtain⟨u,rfl⟩:=aka hxb.1;have huN:u<Ζ g:=by omega
 have RX:=Q6 u huN;have aj9:=hG.lt u huN
 have hxc:∀k,xl p m (r.drop f) k=xl p m (r.drop (f+1)) k+if(p u==k)&&(k != m)then 1 else 0:=λk=>by
  rw[hdf];unfold xl;rw[ap5];rfl
 have AH:∀k,xl p m (r.drop (f+1)) k<=1000:=λk=>ake ap9 (by rw[List.length_drop];omega)
 have hfx:AQ.hp O2.N=φ (.cells [.aS b 0 (Ζ g) (Ζ g)]):=by rw[zN];exact(VH.sx).trans hfA
 have fl:AQ.hp b=φ (.cells PR):=by rw[zN];exact(VH.sx).trans B2
 have hkx:AQ.hp kb=φ (.cells [.aS kc 0 n n]):=by rw[zN];exact(VH.sx).trans aoO
 have l_:AQ.hp kc=φ (.cells (cR (λk=>xs g p (lH g p (dM d m Α)) k+xs g p ((gR g p m).drop (e+1)) k+xl p m (r.drop f) k) n)):=by rw[zN];exact υ _ _ _
 refine κ ay ?_;refine κ ay ?_;refine Γ (χ ?_);refine θ (aE ay oh hrm ?_);by_cases hpm:p u=m
 ·(have yA:((p u:Int) != (m:Int))=γ:=by rw[hpm];simp);refine θ (wc ay hfx fl RX dD yA ?_);refine VC.uy rfl ?_;refine ν ay ?_;refine ο ay D5 ?_;refine az.N (f+1) ⟨jI,?_⟩;rw[zN]
  (congr 3);funext k
  have hz:(if(p u==k)&&(k != m)then 1 else 0)=0:=if_neg λh=>by
   rw[akc]at h;((have h1:p u=k:=by simpa using h.1);have h2:k≠m:=by simpa using h.2);omega
  rw[hxc k,hz];rfl
 have yA:((p u:Int) != (m:Int))=Α:=by rw[bne_iff_ne];omega
 have gU:=ef (λk=>xs g p (lH g p (dM d m Α)) k+xs g p ((gR g p m).drop (e+1)) k+xl p m (r.drop f) k) n;have hcu:=iK (λk=>xs g p (lH g p (dM d m Α)) k+xs g p ((gR g p m).drop (e+1)) k+xl p m (r.drop f) k) aj9;have hxu:xl p m (r.drop f) (p u)=xl p m (r.drop (f+1)) (p u)+1:=by rw[hxc,if_pos (by simpa using hpm)]
 have xd:(((xs g p (lH g p (dM d m Α)) (p u)+xs g p ((gR g p m).drop (e+1)) (p u)+xl p m (r.drop f) (p u):Nat):Int) - 1)=((xs g p (lH g p (dM d m Α)) (p u)+xs g p ((gR g p m).drop (e+1)) (p u)+xl p m (r.drop (f+1)) (p u):Nat):Int):=by rw[hxu];omega
 have cX:(cR (λk=>xs g p (lH g p (dM d m Α)) k+xs g p ((gR g p m).drop (e+1)) k+xl p m (r.drop f) k) n).set (p u) (.v (Ι Κ ((xs g p (lH g p (dM d m Α)) (p u)+xs g p ((gR g p m).drop (e+1)) (p u)+xl p m (r.drop (f+1)) (p u):Nat):Int)))=cR (λk=>xs g p (lH g p (dM d m Α)) k+xs g p ((gR g p m).drop (e+1)) k+xl p m (r.drop (f+1)) k) n:=(nL _ aj9).trans (by
  (congr 1);funext k
  by_cases e:k=p u;rw[e,ji]
  ·have hz:(if(p u==k)&&(k != m)then 1 else 0)=0:=if_neg λh=>by
    rw[akc]at h;(have h1:p u=k:=by simpa using h.1);exact e h1.symm
   rw[j7 _ _ e,hxc k,hz];rfl)
 have dE:=cC (p u);have apY:=cG (p u);have apZ:=AH (p u);simp only[aq]at hcu;generalize cR (λk=>xs g p (lH g p (dM d m Α)) k+xs g p ((gR g p m).drop (e+1)) k+xl p m (r.drop f) k) n=CR at*;generalize hcz:xs g p (lH g p (dM d m Α)) (p u)+xs g p ((gR g p m).drop (e+1)) (p u)+xl p m (r.drop f) (p u)=z at*;generalize ap0:xs g p (lH g p (dM d m Α)) (p u)+xs g p ((gR g p m).drop (e+1)) (p u)+xl p m (r.drop (f+1)) (p u)=z2 at*;have hzz:z<=10000000:=by omega
 refine θ (wc ay hfx fl RX dD yA ?_);refine VC.pC rfl ?_;refine WC.bW (.held [9]) [(0,.rd),(1,.rd),(2,.rd),(3,.rd),(4,.rd),(5,.rd),(6,.rd),(7,.rd),(8,.rd),(9,.one)] ?_;refine kw9 ay (abx hfx fl) (abx RX dD) hkx l_ gU hcu @xd cX ?_;refine ο ay D5 ?_;exact az.N (f+1) ⟨jI,by rw[zN,aqR]⟩
def D_(g:Ο)(l:Χ):Bool:=match l with
 | [x]=> !((g.getD x.toNat []).contains x)
 | _=>γ
def Te(p:Nat->Bool)(n:Nat):(cQ p n).Nodup:=by
 unfold cQ;refine List.Pairwise.map _ (λa b h=>?_) ((List.nodup_range (n:=n)).filter _);intro e;exact h (by omega)
def af7{od:Τ}(hG:Jy g p n)(hm:ot g)(OS:∀k,k<n ↔ k∈od):(od.map (bX g p)).all (D_ g)=Α ↔ Sgl g p:=by
 rw[ap8]
 have nR:∀k v:Nat,(v:Int)∈bX g p k ↔ v<(Ζ g)/\p v=k:=λk v=>by
  unfold bX;rw[iy];constructor;rintro⟨i,e,h1,h2⟩;(have:i=v:=by omega);subst this;exact⟨h1,by simpa using h2⟩
  ·exactλ⟨h1,h2⟩=>⟨v,rfl,h1,by simpa using h2⟩
 constructor
 ·intro h
  have hs:∀v,v<(Ζ g)->bX g p (p v)=[(v:Int)]/\¬fX g v v:=λv hv=>by
   have h1:=h _ (alS.2 ⟨p v,(OS _).1 (hG.lt v hv),rfl⟩);have h2:=(nR (p v) v).2 ⟨hv,rfl⟩;cases hn:bX g p (p v)with
   | nil=>rw[hn]at h2;cases h2
   | cons x l=>
     cases l with
     | cons y l=>rw[hn]at h1;cases h1
     | nil=>
       rw[hn]at h1 h2;have hx:x=v:=(List.mem_singleton.1 h2).symm;subst hx;refine⟨rfl,λ⟨l,h3,h4⟩=>?_⟩;have h1:(!((g.getD v []).contains (v:Int)))=Α:=h1;rw[List.getD_eq_getElem?_getD,h3]at h1;(have:l.contains (v:Int)=Α:=by rw[List.contains_iff_mem];exact h4);have h1:(!(l.contains (v:Int)))=Α:=h1;rw[this]at h1;cases h1
  refine⟨λv w hv hw e=>?_,λv hv=>?_⟩;have h1:=(nR (p v) w).2 ⟨hw,e.symm⟩;rw[(hs v hv).1]at h1;have:=ap_.1 h1;omega;exact(hs v (nI hm hv).1).2 hv
 ·rintro⟨h1,h2⟩ l hl;obtain⟨k,hk,rfl⟩:=alS.1 hl;obtain⟨v,hv,uK⟩:=hG.use k ((OS k).2 hk);have C_:=(nR k v).2 ⟨hv,uK⟩;have eN:=Te (λv=>p v==k) (Ζ g)
  have ja:∀x∈bX g p k,x=v:=λx hx=>by
   obtain⟨i,e,h3,h4⟩:=iy.1 hx;(have h4:p i=k:=by simpa using h4);rw[e,h1 i v h3 hv (h4.trans uK.symm)]
  have:bX g p k=[(v:Int)]:=by
   have eN:(bX g p k).Nodup:=eN;cases hn:bX g p k with
   | nil=>rw[hn]at C_;cases C_
   | cons x l=>
     rw[hn]at ja eN;have hx:=ja x Ti;cases l with
     | nil=>rw[hx]
     | cons y l=>
       have hy:=ja y (by simp);exact absurd (by rw[hx,hy];exact Ti) (alV.1 eN).1
  rw[this];show(!((g.getD v []).contains (v:Int)))=Α;rw[aqa,akf];intro hc;rw[ap6]at hc;refine h2 v ⟨g[v],Ca hv,?_⟩;rw[YI,Ca hv]at hc;exact hc
def af8(g:Ο)(T:Nat->Tok)(tk:Tok)(O:VH)(hs:sm 1000 g)(hm:ot g):VF Ε 16 [.l (Ζ g) (bz g T) tk] O (aH λm O'=>∃(x:MV)(b:Bool),m= .tuple [x,mb b]/\O.Ge O'/\(b=Α ↔ WB g)):=by
 have E_:sm 1000000 g:=⟨hs.1,λl hl=>ake (hs.2 l hl) (by decide)⟩;have xG:=hs.1;have qq:=λO'=>zE g T tk O' E_
 have mS:=λO'=>abw g T tk O' hs hm
 have GF:=(jv g).2 hm;simp only[GF]at qq;have Co:=λu h=>iw g T (u:=u) h
 have n9:=eM g T;generalize bz g T=A at*;refine ω 39 [.tmp 2,.tmp 3] func16 ?_;refine κ ay ?_;refine κ ay ?_;refine τ (qq O) ?_;rintro _ Ox ⟨rfl,eO⟩;rw[eO];clear eO Ox qq;refine ae ay ?_;refine κ ay ?_;refine τ (mS O) ?_;rintro _ O1 ⟨p,n,od,T1,t1,rfl,aK,hG,Fc,EC,OS⟩;have hac:=(af7 hG hm OS).trans (hG.acy hm);rw[<-hac];clear hac mS;have hWn:(od.map (bX g p)).length<=1000:=by rw[WT];omega
 have hWr:∀l∈od.map (bX g p),0<(Ζ l)/\(Ζ l)<=1000/\∀x∈l,0<=x/\x<(Ζ g:Int):=λl hl=>by
  obtain⟨k,hk,rfl⟩:=alS.1 hl;obtain⟨v,hv,uK⟩:=hG.use k ((OS k).2 hk);have C_:(v:Int)∈bX g p k:=iy.2 ⟨v,rfl,hv,by simpa using uK⟩;refine⟨List.length_pos_of_mem C_,ake (jM _ _) xG,λx hx=>?_⟩;obtain⟨i,e,h1,_⟩:=iy.1 hx;omega
 generalize od.map (bX g p)=W at*;have WJ:=λu h=>iw W T1 (u:=u) h
 have lZ:=eM W T1;generalize bz W T1=RW at*;refine ao ay @oB ?_;refine Θ [2,12] [0,10,11] (λs:Χ×Tok×Nat=>[.l (Ζ s.1) (s.1.map mi) s.2.1,mi s.2.2]) (λs O'=>O1.Ge O'/\App O' O1.N 1 s.2.1/\s.2.2<=(Ζ W)/\(Ζ s.1)=s.2.2/\(W.take s.2.2).all (D_ g)=Α) (λs=>(Ζ W) - s.2.2) (([],.nil,0)) ?_ ?_;exact⟨VH.Ge.refl _,trivial,af_ _,rfl,rfl⟩;rintro⟨L,tL,j⟩ O2 ⟨aC,DP,hj,qe,ja⟩;dsimp only at DP hj qe ja ⊢;by_cases aM:j<Ζ W;rotate_left
 ·obtain rfl:j=Ζ W:=by omega
  rw[alU]at ja;refine ν ay ?_;refine κ ay ?_;refine ν ay ?_;exact⟨_,Α,rfl,aK.trans aC,λ_=>ja,λ_=>rfl⟩
 have cA:=jSx j;have bG:=WJ j aM;have nR:=Th aM;obtain⟨F9,ph,hlx⟩:=hWr _ nR;have di:(W.take (j+1)).all (D_ g)=((W.take j).all (D_ g)&&D_ g W[j]):=by rw[<-ap2 aM,List.all_append,aqo,List.all_nil,aqb]
 generalize W[j]=l at*;have ew:cS (bR Ε) 29 (.l (Ζ l) (l.map mi) (T1 j))=φ (.v (Ι Κ (Ζ l))):=bC fZ;refine κ ay ?_;refine κ ay ?_;refine Γ (χ ?_);refine θ (aE ay bG lZ ?_);refine Γ (Γ ?_);refine VC.draw (by kernel_rfl) ?_;refine bA.bW [(0,.bh),(1,.bh),(2,.bh),(3,.bh),(4,.bh),(5,.bh),(6,.bh),(7,.bh),(8,.bh),(9,.bh),(10,.bh),(11,.bh),(12,.bh),(13,.one),(14,.bh)] ?_;by_cases h1:1<Ζ l
 ·have f1:decide ((Ζ l:Int)>1)=Α:=decide_eq_true (by omega);have f2:decide ((1:Int)<Ζ l)=Α:=f1
  have aoR:D_ g l=γ:=by
   cases l with
   | nil=>rfl
   | cons x l=>
     cases l with
     | nil=>simp at h1
     | cons y l=>rfl
  have dh:W.all (D_ g)=γ:=by
   rw[akf];intro h;have:=ap8.1 h l nR;rw[aoR]at this;cases this
  refine cB ay ew @f1 @f2 ?_;refine VC.pC rfl ?_;refine κ ay ?_;refine ν ay ?_;exact⟨_,γ,rfl,aK.trans aC,⟨λh=>(by cases h),λh=>(by rw[dh]at h;cases h)⟩⟩
 obtain⟨v,hl,GH⟩:∃v:Nat,l=[(v:Int)]/\v<Ζ g:=by
  cases l with
  | nil=>simp at F9
  | cons x l=>
    cases l with
    | cons y l=>simp at h1
    | nil=>
      obtain⟨h2,h3⟩:=hlx x Ti;obtain⟨v,rfl⟩:=aka h2;exact⟨v,rfl,by omega⟩
 have f1:decide ((Ζ l:Int)>1)=γ:=decide_eq_false (by omega);have f2:decide ((1:Int)<Ζ l)=γ:=f1;have aj_:(l.map mi)[0]?=φ (MV.v (Ι Κ v)):=by rw[hl];rfl
 have tT:(l.map mi).length=Ζ l:=WT _;have cU:=Co v GH;have tO:=hs.2 _ (Th GH)
 have YH:D_ g l= !(g[v].contains (v:Int)):=by
  rw[hl];show(!((g.getD v []).contains (v:Int)))=_;rw[YI,Ca GH];rfl
 have Bo:=Yv g[v] v (T v) O2 (by omega);rw[aq]at Bo;generalize g[v]=r at*;generalize l.map mi=LM at*;generalize r.map mi=RM at*;refine Nf ay ew @f1 @f2 (abx aj_ tT) cU n9 ?_;refine τ Bo ?_;rintro _ Ox ⟨rfl,eO⟩;rw[eO];clear eO Ox Bo;cases hc:r.contains (v:Int);rotate_left
 ·rw[hc]at YH
  have dh:W.all (D_ g)=γ:=by
   rw[akf];intro h;have:=ap8.1 h l nR;rw[YH]at this;cases this
  simp only[bB];refine ae ay ?_;refine VC.pC rfl ?_;refine κ ay ?_;refine ν ay ?_;exact⟨_,γ,rfl,aK.trans aC,⟨λh=>(by cases h),λh=>(by rw[dh]at h;cases h)⟩⟩
 rw[hc]at YH;have je:=aP (tk:=tL) (tk':=.full) (n:=Ζ L) (k:=1) (cs:=L.map mi) (ds:=[.v (Ι Κ v)]) fZ T3 DP (by rw[List.length_map,Nat.mul_one]);simp only[bB];refine ae @ay ?_;refine VC.uy rfl ?_;refine ν @ay ?_;refine ι (aE @ay @aj_ @tT ?_);refine VL.app je ?_;refine ae @ay ?_;refine ο @ay @cA ?_;refine az.N (L++[(v:Int)],.own O2.N 1,j+1) ⟨cy.eR aC DP (cy.after DP),App.after aC.N,aM,by rw[List.length_append,qe];rfl,by dsimp only;rw[di,ja,YH];rfl⟩ (hl:=by dsimp only;rw[List.length_append,List.map_append];rfl)
def WS{X:Ο}{i:Nat}(h:i<Ζ X):nc (X.take (i+1))=nc (X.take i)+X[i].length:=by
 induction X generalizing i with
 | nil=>simp at h
 | cons l X ih=>
   cases i with
   | zero=>simp[nc]
   | succ i=>
     have h':i<Ζ X:=by simpa using h
     simp only[List.take_succ_cons,nc,List.getElem_cons_succ];rw[ih h'];omega
def AA(g:Ο)(f:Nat)(d:Nat->Bool):df g (f+1) d=if(b_ g d).length=0 then[]else b_ g d::df g f (eB d (b_ g d)):=rfl
def Ea{g:Ο}:∀(f:Nat)(d:Nat->Bool),o8 d (Ζ g)<=f->df g (f+1) d=df g f d
 | 0,d,h=>by
   rw[AA];by_cases e:(b_ g d).length=0;rw[if_pos e];rfl;have:=Cp e;omega
 | f+1,d,h=>by
   rw[AA g (f+1) d,AA g f d];by_cases e:(b_ g d).length=0;rw[if_pos e,if_pos e];rw[if_neg e,if_neg e,Ea f _ (by have:=Cp e;omega)]
def By{g:Ο}:∀(f:Nat)(d:Nat->Bool),(df g f d).length<=f/\∀l∈df g f d,Ζ l<=Ζ g
 | 0,d=>⟨aoT _,λl h=>by cases h⟩
 | f+1,d=>by
   rw[AA];by_cases e:(b_ g d).length=0;rw[if_pos e];exact⟨af_ _,λl h=>by cases h⟩;rw[if_neg e];obtain⟨h1,h2⟩:=By (g:=g) f (eB d (b_ g d));refine⟨Nat.succ_le_succ h1,λl hl=>?_⟩;rcases agb.1 hl with rfl | hl;exact jM _ _;exact h2 l hl
def JA{n:Nat}:∀{X:Ο},(∀l∈X,Ζ l<=n)->nc X<=(Ζ X)*n
 | [],_=>af_ _
 | l::X,h=>by
   have h1:=h l Ti;(have h2:=JA (X:=X) λl hl=>h l (alO _ hl));rw[nc,akb,Nat.succ_mul];omega
def aiv(g:Ο)(T:Nat->Tok)(tk:Tok)(O:VH)(hg:Ζ g<=maxLen)(hr:∀l∈g,Ζ l<=maxLen):VF Ε 5 [.l (Ζ g) (bz g T) tk] O (aH λm O'=>m=mb Α):=by
 have hli:=Wz g T tk O hg hr;have ew:cS (bR Ε) 25 (.l (Ζ g) (bz g T) tk)=φ (.v (Ι Κ (Ζ g))):=bC qV;obtain⟨A,hA⟩:∃A,A=bz g T:=⟨_,rfl⟩
 rw[<-hA]at hli ew ⊢;refine ω 55 [.tmp 2] func5 ?_;refine κ bw ?_;refine κ bw ?_;refine τ hli ?_;rintro _ O1 ⟨rfl,e1⟩;rw[e1];clear e1 O1 hli;cases hl:S8 g;refine ae bw ?_;refine τ (Jr _) ?_;rintro _ O9 rfl;simp only[bB];refine ae bw ?_;trivial;have hsm:=air hl;have E_:sm 1000000 g:=⟨hsm.1,λl hl=>ake (hsm.2 l hl) (by decide)⟩;have pY:=SZ g T tk O E_;have hmy:=λO'=>abm g T tk O' E_
 have kx:=λO' h=>abr g T tk O' E_ h
 have hor:=λO' h=>af8 g T tk O' hsm h
 rw[<-hA]at pY;simp only[<-hA]at hmy kx hor;refine ae bw ?_;refine κ bw ?_;refine τ pY ?_;rintro m O1 ⟨aK,hm⟩;rcases hm with⟨GF,T1,t1,rfl⟩ | ⟨GF,rfl⟩;rotate_left;refine ae bw ?_;refine κ bw ?_;refine τ (hmy O1) ?_;rintro _ O2 ⟨rfl,e2⟩;rw[e2,GF];clear e2 O2;have e0:((0:Int)==0)=Α:=rfl;refine aE bw @oB e0 ?_;refine τ (Jr _) ?_;rintro _ O9 rfl;simp only[bB];refine ae bw ?_;trivial;have tf:=(jv g).1 GF;have af9:=Ea (g:=g) (Ζ g) (λ_=>γ) (SY _ _);have aoS:=WH tf (aoT (Ζ g));obtain⟨qE,wh⟩:=By (g:=g) (Ζ g) (λ_=>γ);have EL:=JA wh;rw[af9];generalize df g (Ζ g) (λ_=>γ)=W at*;clear af9;have xG:=hsm.1;have hWN:(Ζ W)*(Ζ g)<=1000*1000:=Nat.mul_le_mul (by omega) xG;have hWa:=λu h=>iw W T1 (u:=u) h
 have Vs:=eM W T1;have kX:=λT2 t2 O'=>afz (Ζ W) (λu=>W.getD u []) T1 T2 t1 t2 (by omega) (λu hu=>by rw[YI,Ca hu];have:=wh _ (Th hu);exact ake this (by omega)) O'
 change ∀T2 t2 O',VF Ε 6 [.l (Ζ W) (bz W T1) t1,.l (Ζ W) (bz W T2) t2] O' _ at kX
 generalize bz W T1=A1 at*;refine ae bw ?_;refine κ bw ?_;refine τ (hmy O1) ?_;rintro _ O2 ⟨rfl,e2⟩;rw[e2,GF];clear e2 O2;refine ae bw ?_;refine κ bw ?_;refine Ξ [0,3,4] (λ_:Unit=>[.l (Ζ g) A tk,.l (Ζ W) A1 t1,mi (nc W)]) (λ_ O'=>O'=O1) ?_ ?_
 ·refine ξ bw @oB ?_;refine χ ?_;refine Θ [4,26] [0,3,24,25] (λi:Nat=>[mi (nc (W.take i)),mi i]) (λi O'=>O'=O1/\i<=Ζ W) (λi=>(Ζ W) - i) (0) ?_ ?_;exact⟨rfl,af_ _⟩;rintro i Ox ⟨eO,hi⟩;rw[eO];clear eO Ox;by_cases cn:i<Ζ W;rotate_left
  ·obtain rfl:i=Ζ W:=by omega
   rw[alU];refine ν bw ?_;exact aB.mk () rfl
  have gh:=jSx i;have bG:=hWa i cn;have hsi:=WS cn
  have QL:nc (W.take i)<=1000000:=by
   have h1:=JA (n:=Ζ g) (X:=W.take i) λl hl=>wh l (List.mem_of_mem_take hl)
   have h2:(W.take i).length*(Ζ g)<=1000*1000:=Nat.mul_le_mul (by rw[List.length_take];omega) xG;omega
  have hlr:=wh _ (Th cn);generalize W[i]=l at*;((have L5:((nc (W.take i):Nat):Int)+(Ζ l:Int)=((nc (W.take (i+1)):Nat):Int):=by omega);have ap1:nc (W.take (i+1))<=10000000:=by omega);generalize nc (W.take i)=z1 at*;generalize n_:nc (W.take (i+1))=z2 at*;generalize l.map mi=LM at*;refine κ bw ?_;refine κ bw ?_;refine Γ (χ ?_);refine θ (aE bw bG Vs ?_);refine ι (aE bw @oB L5 ?_);refine ο bw gh ?_;exact az.N (i+1) ⟨rfl,cn⟩ (hl:=by rw[n_];rfl)
 rintro _ Ox eO;rw[eO];clear eO Ox;refine κ bw ?_;refine τ (hor O1 tf) ?_;rintro _ O2 ⟨x,ok,rfl,aC,dw⟩;rw[<-aoS]at dw
 have Fc:decide ((nc W:Int)=(Ζ g:Int))=ok:=by
  rw[Bool.eq_iff_iff,dw,decide_eq_true_eq];omega
 have Re:((nc W:Int)==(Ζ g:Int))=ok:=Fc;simp only[bB];refine ae @bw ?_;refine κ @bw ?_;refine τ (kx O2 tf) ?_;rintro _ O3 ⟨aJ,T2,t2,rfl⟩;refine ae @bw ?_;refine Ω (kX T2 t2 O3) ?_;have xL:(ok==ok)=Α:=by cases ok<;>rfl
 simp only[bB];refine cB bw ew Re xL ?_;refine τ (Jr _) ?_;rintro _ O9 rfl;simp only[bB];refine ae bw ?_;refine ν bw ?_;trivial
def Tf(y:List (Χ×Tok)×Tok)(O:VH)(hy:(∀r∈y.1,(∀n∈r.1,InK .i64 n)/\(Ζ r.1)<=maxLen)/\(Ζ y.1)<=maxLen):
  VF Ε 5 [.l (Ζ y.1) (y.1.flatMap λr=>[.l (Ζ r.1) (r.1.flatMap λn=>[.v (Ι Κ n)]) r.2]) y.2] O (aH λm O'=>m=mb Α):=by
 have h:=aiv (y.1.map (·.1)) (afQ y.1) y.2 O (by rw[WT];exact hy.2) (λl hl=>by
  obtain⟨r,hr,rfl⟩:=alS.1 hl;exact(hy.1 r hr).2)
 rw[WT, <-afR]at h;exact h
end Go.Proofs.YtjpadehgejlebaaGreatDoor
