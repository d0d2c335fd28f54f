import Derived.Test.YtnfdmplcieacjaaGreatDoorMD
import Derived.Laws.LoneSync
set_option linter.unusedVariables false
set_option linter.defProp false
set_option maxHeartbeats 8000000
set_option linter.unusedSimpArgs false
namespace Go.Proofs.YtnfdmplcieacjaaGreatDoor
open Go.RowKit
open _root_.Nat renaming reduceLT → y0, reduceAdd → y10, reduceMul → y11, reduceSub → y12, reduceBEq → y14, reduceEqDiff → y16
open _root_.Int renaming reduceToNat → y18
open _root_.Go.Proofs.Tryz
open Go.Value renaming int → Ι
open Go.IntKind renaming i64 → Κ
open _root_.List renaming length → Ζ
open _root_.Go.Proofs.Tryz renaming prog → Ε
open _root_.Option renaming some → φ, none → Β
open _root_.Bool renaming false → γ, true → Α
open _root_.List renaming getElem?_eq_some_iff → Ro, length_append → TR, length_cons → abT, mem_singleton → ahB, length_nil → ai8, cons_append → ai9, nil_append → ai_, mem_cons → aja, append_assoc → an2, not_mem_nil → an3, mem_append → an4, getElem?_append_right → an6, eq_nil_of_length_eq_zero → an7, mem_of_getElem? → apG, getElem?_eq_getElem → apH, length_map → apI, getElem?_map → apJ, append_nil → asl, mem_cons_of_mem → atM, getElem?_append → aug, mem_iff_getElem → auh, length_drop → aui, flatMap_nil → auj, getElem?_append_left → auk, mem_map → aul, all_flatMap → aum, all_eq_true → aun, set_append_right → aup, getElem?_set_ne → auq, append_inj → aur, take_append_of_le_length → aus, mem_of_find?_eq_some → auv, ext_getElem? → auw, length_take → auz, drop_zero → auD
open _root_.Nat renaming lt_of_lt_of_le → aev, zero_le → alp, le_refl → an5, le_trans → apE, add_sub_cancel_left → apF, zero_add → apK, le_succ → as0, le_of_ble_eq_true → auo, mul_one → auu, le_add_right → auy
open _root_.And renaming intro → Rn
open _root_.Option renaming map_some → asc, map_eq_some_iff → ats
open _root_.Array renaming getElem?_append_left → aut
variable{listed:Array Bool}{af:Array Edge}{ops:Array Oper}{dn tx:Bool}{nm s t v w:Bs}{rest:Code}{e:Env}{fn:Func}{f:FuncId}{G:Gh}{r u x:Int}{hH:List (Bs×Bs)}{W l:List Bs}{D:List Deferred}{L args cs cs' ms post pre sp tl xs y z:List MV}{S T U brk:List Nat}{vs:List Value}{m p:MV}{M:MV->VH->Prop}{B N a b b' c ce ck cr cv d dj fuel i j kd ke kr kv n o o' q sz tb wb:Nat}{op:Op}{g:Option (Nat×Bool)}{P:Program}{ps:String}{tk:Tok}{O O' O1 O2:VH}{K Φ:VH->Prop}{Q:VQ}{tab:cB}{E V:gx}
set_option maxRecDepth 10000
def nI(x:Gv):(aS x).length=3:=rfl
def adW(L:List Gv):de (L.flatMap aS)=L.flatMap aS:=iI (λx=>by simp only[aS,wu]) L
def VF.wkR{as':Η}{Φ Ψ :MV->VH->Prop}(h:VF P f as' O (aC Φ))(hw:∀m O', Φ m O'->∃m',Wk m m'/\ Ψ m' O'):VF P f as' O (aC Ψ):=λG w vs D5 hv=>by
 refine(h G w vs D5 hv).mono ?_;rintro x w' ⟨r,O',H,h1,h2,h3,h4⟩;cases r with
 | ret m=>cases x with
   | returned v=>
     obtain⟨m',k1,k2⟩:=hw m O' h4;exact⟨.ret m',O',H,h1,h2,k1 H v h3,k2⟩
   | _=>exact h3.elim
 | panic m=>exact h4.elim
def lp:=Rn cn<|Rn PK Eo
def Nw(L:List (Bs×Bs))(tk:Tok)(O:VH)(hn:Ζ L<=100000):VF Ε 60 [.l (Ζ L) (L.flatMap bp) tk] O (aC λm O'=>∃t,m= .l (Ζ L) (L.flatMap bp) t/\App O' O.N 2 t/\O.Ge O'):=by
 have cz:=aP eC L;refine χ 8 [.tmp 2] func60 ?_;refine ak lp @nH ?_;refine auV (qy Tryz.underlying92 rfl) ?_;rintro _ O1 ⟨eO,b,rfl,hb⟩;rw[eO];clear eO O1;refine WL.sound aa ?_;cases b
 ·refine ae lp ?_;by_cases h0:Ζ L=0;have hL:L=[]:=an7 h0;subst hL;refine VL.app (m:=.l 0 [] .full) (O':=O) (by simp[jO,Ep,AT.1.1]) ?_ (ht:=aa) (hx:=rfl) (hy:=rfl);refine ae lp ?_;exact⟨.full,rfl,trivial,VH.Ge.refl _⟩
  ·have fX:(L.flatMap bp).all dF=Α:=by
    rw[aum,aun];intro p _;rfl
   have o_:=bE (tk:=.full) (tk':=tk) (B:=O.N) (n:=0) (k:=Ζ L) (cs:=[]) (ds:=L.flatMap bp) Ep AT.1.1 (O:=O) trivial rfl cz fX z12 h0 Λ z41;rw[apK,ai_]at o_;refine VL.o7 o_ (by rw[uL,ic]) ?_;refine ae lp ?_;exact⟨_,rfl,App.after (an5 _),dR.Te (tk:=.full) (sz:=2) trivial (dR.after (sz:=2) (B:=0) trivial)⟩
 ·obtain⟨h0,h1⟩:=hb rfl;rw[h0,h1];refine ae lp ?_;exact⟨.nil,rfl,trivial,VH.Ge.refl _⟩
def Jq(L:List (Bs×Bs))(tk:Tok)(O:VH)(hn:Ζ L<=100000:=by omega):VF Ε 60 [.l (Ζ L) (L.flatMap bp) tk] O (aC λm O'=>m= .l (Ζ L) (L.flatMap bp) .av/\O.Ge O'):=
 VF.wkR (Nw L tk O hn) λm O' ⟨t,h1,h2,h3⟩=>⟨_,h1▸Wk.tok,rfl,h3⟩
def adX(L:List (iR))(tk:Tok)(O:VH)(hn:Ζ L<=100000):VF Ε 63 [.l (Ζ L) (L.flatMap cI) tk] O (aC λm O'=>∃t,m= .l (Ζ L) (L.flatMap cI) t/\App O' O.N 2 t/\O.Ge O'):=by
 have cz:=aP uW L;refine χ 8 [.tmp 2] func63 ?_;refine ak lp @nH ?_;refine auV (qy Tryz.underlying62 rfl) ?_;rintro _ O1 ⟨eO,b,rfl,hb⟩;rw[eO];clear eO O1;refine WL.sound aa ?_;cases b
 ·refine ae lp ?_;by_cases h0:Ζ L=0;have hL:L=[]:=an7 h0;subst hL;refine VL.app (m:=.l 0 [] .full) (O':=O) (by simp[jO,SQ,T69.1.1]) ?_ (ht:=aa) (hx:=rfl) (hy:=rfl);refine ae lp ?_;exact⟨.full,rfl,trivial,VH.Ge.refl _⟩
  ·have fX:(L.flatMap cI).all dF=Α:=by
    rw[aum,aun];intro p _;rfl
   have o_:=bE (tk:=.full) (tk':=tk) (B:=O.N) (n:=0) (k:=Ζ L) (cs:=[]) (ds:=L.flatMap cI) SQ T69.1.1 (O:=O) trivial rfl cz fX z12 h0 Λ z41;rw[apK,ai_]at o_;refine VL.o7 o_ (by rw[uL,uX]) ?_;refine ae lp ?_;exact⟨_,rfl,App.after (an5 _),dR.Te (tk:=.full) (sz:=2) trivial (dR.after (sz:=2) (B:=0) trivial)⟩
 ·obtain⟨h0,h1⟩:=hb rfl;rw[h0,h1];refine ae lp ?_;exact⟨.nil,rfl,trivial,VH.Ge.refl _⟩
def sy(L:List (iR))(tk:Tok)(O:VH)(hn:Ζ L<=100000:=by omega):VF Ε 63 [.l (Ζ L) (L.flatMap cI) tk] O (aC λm O'=>m= .l (Ζ L) (L.flatMap cI) .av/\O.Ge O'):=
 VF.wkR (adX L tk O hn) λm O' ⟨t,h1,h2,h3⟩=>⟨_,h1▸Wk.tok,rfl,h3⟩
def Aa(L:List (Gv))(tk:Tok)(O:VH)(hn:Ζ L<=100000:=by omega):VF Ε 68 [.l (Ζ L) (L.flatMap aS) tk] O (aC λm O'=>∃t,m= .l (Ζ L) (L.flatMap aS) t/\App O' O.N 3 t/\O.Ge O'):=by
 have cz:=aP nI L;refine χ 8 [.tmp 2] func68 ?_;refine ak lp @nH ?_;refine auV (qy Tryz.underlying51 rfl) ?_;rintro _ O1 ⟨eO,b,rfl,hb⟩;rw[eO];clear eO O1;refine WL.sound aa ?_;cases b
 ·refine ae lp ?_;by_cases h0:Ζ L=0;have hL:L=[]:=an7 h0;subst hL;refine VL.app (m:=.l 0 [] .full) (O':=O) (by simp[jO,PK,Eo.1.1]) ?_ (ht:=aa) (hx:=rfl) (hy:=rfl);refine ae lp ?_;exact⟨.full,rfl,trivial,VH.Ge.refl _⟩
  ·have fX:(L.flatMap aS).all dF=Α:=by
    rw[aum,aun];intro p _;rfl
   have o_:=bE (tk:=.full) (tk':=tk) (B:=O.N) (n:=0) (k:=Ζ L) (cs:=[]) (ds:=L.flatMap aS) PK Eo.1.1 (O:=O) trivial rfl cz fX z12 h0 Λ z41;rw[apK,ai_]at o_;refine VL.o7 o_ (by rw[uL,adW]) ?_;refine ae lp ?_;exact⟨_,rfl,App.after (an5 _),dR.Te (tk:=.full) (sz:=3) trivial (dR.after (sz:=3) (B:=0) trivial)⟩
 ·obtain⟨h0,h1⟩:=hb rfl;rw[h0,h1];refine ae lp ?_;exact⟨.nil,rfl,trivial,VH.Ge.refl _⟩
def BZ(L:List Dp)(tk:Tok)(O:VH)(hn:Ζ L<=100000:=by omega):VF Ε 61 [.l (Ζ L) (L.flatMap aG) tk] O (aC λm O'=>O.Ge O'/\GR O' 64 8 O.N m (Ζ L) (L.flatMap aG)):=by
 have cz:=aP cW L
 have fX:(L.flatMap aG).all dF=Α:=by
  rw[aum,aun];intro p _;rfl
 refine χ 8 [.tmp 2] func61 ?_;refine ak lp @nH ?_;refine auV (qy Tryz.underlying93 rfl) ?_;rintro _ O1 ⟨eO,b,rfl,hb⟩;rw[eO];clear eO O1;refine WL.sound aa ?_;cases b;refine ae lp ?_;refine VL.grow aa (.inl rfl) (te:=⟨_,8,_,_⟩) (B:=O.N) (n':=0) (L:=[]) (dx:=.slice 64) (p:=.l 0 [] .full) (q:=.l (Ζ L) (L.flatMap aG) tk) (j:=Ζ L) (ds:=L.flatMap aG) (.inl ⟨rfl,rfl,.inr rfl⟩) (by simp[sW,cz]) fX (by rw[GG];rfl) GF.1.1 (by rw[GG];rfl) trivial z18 z13 (an5 _) rfl rfl rfl rfl ?_;intro m O' h1 h2 h3 h4;rw[apK,ai_]at h1;refine ae lp ?_;exact⟨h3 rfl,h1⟩;obtain⟨h0,h1⟩:=hb rfl;rw[h0,h1];refine ae lp ?_;exact⟨VH.Ge.refl _,.inl ⟨rfl,rfl,.inl rfl⟩⟩
def EJ:laidOutB Ε=Α:=by kernel_rfl
def yL:wJ Ε 24 3:=wJ.w_ EJ
def Nx:wJ Ε 69 2:=wJ.w_ EJ
def sA:wJ Ε 39 4:=wJ.w_ EJ
def F7:=Rn fE<|Rn T79<|Rn T25<|Rn T71<|Rn T72<|Rn T81<|Rn T97 ue
def aoR(x:Gv)(O:VH):VF Ε 22 [.agg (aS x)] O (aC λm O'=>m= .agg (cI ⟨x.g,x.a⟩)/\O.Ge O'):=by
 obtain⟨g,a,v⟩:=x;have hg:=((VH.Ge.refl O).push (.cells [.s g,.s a,.s v])).push (.cells [.s [],.s []]);unfold aS cI;refine χ 8 [.cell 2 69] func22 ?_;refine ae F7 ?_;exact hg.set (as0 _) _
def eP(x:Gv):List Bs:=[x.g,x.a,x.v]
def jY(x:iR):List Bs:=[x.g,x.a]
def akt(x:Gv):aS x=(eP x).map .s:=rfl
def gG(x:Gv):Prop:=Ζ x.g<=maxLen/\(Ζ x.a)<=maxLen/\(Ζ x.v)<=maxLen
def Dt{x:Gv}(h:gG x):∀s∈eP x,Ζ s<=maxLen:=by
 intro s hs;simp only[eP,aja,an3,or_false]at hs;rcases hs with rfl | rfl | rfl;exact h.1;exact h.2.1;exact h.2.2
structure EK(O:VH)(k ke kv:Nat)(E:gx)(ce:Nat)(V:gx)(cv:Nat)(r a:Int):Prop where
 cell:O.hp k=φ (.cells [.map ke,.map kv,mi r,mi a])
 TV:O.hp ke=φ (.map (dw E) ce)
 Ny:O.hp kv=φ (.map (dw V) cv)
 eok:uM 3 E
 vok:uM 2 V
 ptr:∀p∈E,∃q,p.2.1= .p q 0
 lt:k<O.N/\ke<O.N/\kv<O.N
 ne:k≠ke/\k≠kv/\ke≠kv
def wg(E:gx)(x:Gv):Bool:=(fD (eP x) E).isSome
def agS(h:∀p∈E,∃q,p.2.1=MV.p q 0)(hl:fD l E=φ m):∃q,m= .p q 0:=by
 unfold fD at hl;obtain⟨p,h1,rfl⟩:=ats.1 hl;exact h p (auv h1)
def Qr{k:Nat}{a:Int}(h:EK O k ke kv E ce V cv r a)(x:Gv)(hx:gG x):VF Ε 21 [.p k 0,.agg (aS x)] O (aC λm O'=>m=mb (wg E x)/\O.Ge O'):=by
 have hl:=Dt hx;have vE:=h.cell;simp only[aq]at vE;unfold wg;rw[akt];generalize hL:eP x=L at*;have nR:Ζ L=3:=by rw[<-hL];rfl
 obtain⟨g,a',v⟩:=x;have hLc:L.map MV.s=[.s g,.s a',.s v]:=by rw[<-hL];rfl
 rw[hLc];refine ω 16 [.tmp 4] func21 ?_;refine κ F7 ?_;refine VC.bx ?_;rintro O1 ⟨aM,du,dq⟩;have aq5:=(aM.hp _ h.lt.1).trans vE;have aq6:=(aM.hp _ h.lt.2.1).trans h.TV;refine Δ ?_;refine WC.bM (.held []) [(0,.rd),(1,.rd),(2,.rd),(3,.rd),(4,.rd),(5,.rd),(6,.rd),(7,.rd),(8,.rd),(9,.rd),(10,.rd),(11,.rd)] ?_;refine aF F7 aq5 du ?_;refine VL.hold (.inr rfl) rfl rfl (gf.kP yL aa (l:=L) (te:=⟨_,1,8,[.v (.pointer Β)]⟩) Tryz.underlying71 T81 rfl rfl aq6 h.eok (by rw[hLc];rfl) nR hl) (WL.sound aa ?_);cases eU:fD L E with
 | none=>
   refine ae F7 ?_;refine ν F7 ?_;exact aM
 | some m=>
   obtain⟨p,rfl⟩:=agS h.ptr eU;refine ae F7 ?_;refine ν F7 ?_;exact aM
section
variable{G H:Gh}{n:Sz}{D:List Deferred}{e e':Env}{a:Act}{P:Program}{tab:cB}{O O':VH}{w:World}{m m':MV}{u v:Value}{ops:Array Oper}{Q:VQ}{md:Md}
def Yz(G:Gh):List Deferred->List (FuncId×Η)->Prop
 | [],[]=>True
 | d::D,p::ds=>(∃us:List Value,d={target:=.fn (.func p.1) #[],args:=us.toArray}/\aX G p.2 us)/\Yz G D ds
 | _,_=>False
def Yz.mono(h:G.Le H):∀{D:List Deferred} {ds:List (FuncId×Η)},Yz G D ds->Yz H D ds
 | [],[],_=>trivial
 | _::_,_::_,⟨⟨us,h1,h2⟩,h3⟩=>⟨⟨us,h1,h2.mono h⟩,h3.mono h⟩
 | [],_::_,h=>h.elim
 | _::_,[],h=>h.elim
def TW(P:Program):List (FuncId×Η)->VH->ϰ->Prop
 | [],O,K=>K O
 | p::ds,O,K=>Enters P p.1/\fM P p.1 p.2 Β O λO'=>TW P ds O' K
def YA(P:Program)(fn:Func)(G0:Gh)(K:ϰ):Exit->Act->World->Prop:=
 bodyPostD P fn λx w'=>(∃v,x= .returned v/\v= .tuple #[])/\∃O' H,Gh.Le G0 H/\WR H O' w'/\K O'
def RC(P:Program)(fn:Func)(n:Sz)(ds:List (FuncId×Η))(c:Code)(e:Env)(O:VH)(K:ϰ):Prop:=
 ∀G0 G D a w,Gh.Le G0 G->Yz G D ds->WR G O w->FR G n D e a->c.wp P (YA P fn G0 K) a w
def F8{fn:Func}{tmps:Array Value}{G0:Gh}{K:ϰ}(hr:fn.results= #[]):∀(D:List Deferred)(ds:List (FuncId×Η))(G:Gh)(O:VH)(w:World),Gh.Le G0 G->Yz G D ds->WR G O w->TW P ds O K->
  Leaves P fn tmps (λx w'=>(∃v,x= .returned v/\v= .tuple #[])/\∃O' H,Gh.Le G0 H/\WR H O' w'/\K O') D .returning w
 | [],[],G,O,w,h0,_,hw,hk=>⟨.tuple #[],by simp[results,hr],⟨_,rfl,rfl⟩,O,G,h0,hw,hk⟩
 | d::D,p::ds,G,O,w,h0,⟨⟨us,ed,kO⟩,hD⟩,hw,⟨hE,hk⟩=>by
   subst ed;refine leaves_cons (f:=p.1) (args:=us.toArray) z10 (by simp[invoke,hE us.toArray w]) ((hk G w us .returning hw kO trivial).mono ?_);rintro r u' WJ ⟨⟨v,rfl⟩,hs,O2,K2,q1,q2,q3⟩;dsimp only;rw[hs];exact F8 hr D ds K2 O2 WJ (h0.trans q1) (hD.mono q1) q2 q3
 | [],_::_,_,_,_,_,h,_,_=>h.elim
 | _::_,[],_,_,_,_,h,_,_=>h.elim
def VF.defs{c:Code}{R:MV->VH->Prop}(hf:P.funcs[f]?=φ fn)(hb:fn.body=φ c)(hr:fn.results= #[])(hn:Ζ args<=fn.ntmps)
  (h:RC P fn ⟨fn.ntmps,0⟩ [] c (cX 0 args) O K) (hR:∀O',K O'->R (.tuple []) O'):VF P f args O (aC R):=by
 intro G w vs hw hv;refine(calls_of_wp_defers hf hb (h G G [] _ w (Gh.Le.refl G) trivial hw ?_)).mono ?_;have hl:=hv.1;refine⟨rfl,by simp;omega,λt x hx=>?_⟩;rw[kj,if_pos (alp _),Nat.sub_zero]at hx;obtain⟨u,h1,h2⟩:=hv.get hx;refine⟨u,?_,h2⟩;have bI:=(Ro.1 h1).1;rw[aut (by simpa using bI)];simpa using h1;rintro x w' ⟨⟨v,rfl,rfl⟩,O',H,h1,h2,h3⟩;exact⟨.ret (.tuple []),O',H,h1,h2,.tuple (us:=[]) rfl (λi c u h=>by simp at h),hR _ h3⟩
def RC.ai{fn:Func}{ds:List (FuncId×Η)}{A rest:Code}{K:ϰ} (h:∀D,VC P n D A e O λx e' O'=>match x with
  | .normal=>RC P fn n ds rest e' O' K
  | _=>False):RC P fn n ds (.seq A rest) e O K:=by
 intro G0 G D a w h0 hD hw hf;refine wp_seq (wp_mono (h D G a w hw hf) ?_);rintro y a1 w1 ⟨x,e',O',H,g1,g2,g3,g4,g5⟩
 cases y<;>cases x<;>first
  | exact False.elim g4
  | exact g5.elim
  | skip
 exact g5 G0 H D a1 w1 (h0.trans g1) (hD.mono g1) g2 g3
def RC.fin{fn:Func}{ds:List (FuncId×Η)}{A:Code}{K:ϰ}(hr:fn.results= #[]) (h:∀D,VC P n D A e O λx e' O'=>match x with
  | .normal=>TW P ds O' K
  | .ret=>TW P ds O' K
  | _=>False):RC P fn n ds A e O K:=by
 intro G0 G D a w h0 hD hw hf;refine wp_mono (h D G a w hw hf) ?_;rintro y a1 w1 ⟨x,e',O',H,g1,g2,g3,g4,g5⟩
 have fin:FR H n D e' a1->TW P ds O' K->Leaves P fn a1.tmps (λx w'=>(∃v,x= .returned v/\v= .tuple #[])/\∃O' H,Gh.Le G0 H/\WR H O' w'/\K O') a1.defers .returning w1:=λaY hk=>by
  rw[aY.defers];exact F8 hr D ds H O' w1 (h0.trans g1) (hD.mono g1) g2 hk
 cases y<;>cases x<;>first
  | exact False.elim g4
  | exact g5.elim
  | exact fin g3 g5
def RC.cond{ds:List (FuncId×Η)}{c:Operand}{x y:Code}{t:Bool}(hc:ev e c=φ (mb t))(h:RC P fn n ds (if t then x else y) e O K):RC P fn n ds (.cond c x y) e O K:=by
 intro G0 G D a w h0 hD hw hf;have hv:=hf.ev hc;generalize hx:a.eval c=u at hv;have:=VR.jq hv;subst this;exact wp_cond hx (h G0 G D a w h0 hD hw hf)
def RO(P:Program)(fn:Func)(n:Sz)(ds:List (FuncId×Η))(ops:Array Oper)(rest:Code)(l:Τ)(e:Env)(O:VH)(K:ϰ):Prop:=
 ∀G0 G D a w,Gh.Le G0 G->Yz G D ds->WR G O w->FR G n D e a->wpOps P ops (Exit.then (rest.wp P (YA P fn G0 K)) (YA P fn G0 K)) l a w
def RC.region{ds:List (FuncId×Η)}{id:Nat}(l:Τ)(hl:List.range ops.size=l)(h:RO P fn n ds ops rest l e O K):RC P fn n ds (.seq (.region id ops γ) rest) e O K:=by
 subst hl;intro G0 G D a w h0 hD hw hf;exact wp_seq (wp_region (h G0 G D a w h0 hD hw hf))
def RO.step(ht:aN P tab){ds:List (FuncId×Η)}{l:Τ}{o:Oper}(ho:ops[i]?=φ o)(hg:aK ops o e=φ Α)(hv:dE tab o e O=φ (m,O'))(hd:bj n o.dst=Α)(h:RO P fn n ds ops rest l (aU o.dst m e) O' K):
  RO P fn n ds ops rest (i::l) e O K:=by
 intro G0 G D a w h0 hD hw aY;obtain⟨nx,w',H,u,hr,oa,h1,h2,h3,_⟩:=Hf (P:=P) ht hw aY hv;rw[wpOps_cons];simp only[wpOp,ho,bz aY hg,if_true];refine .inl ?_;unfold Oper.wp;rw[hr];have:=h G0 H D (a.put o.dst u) w' (h0.trans h1) (hD.mono h1) h2 ((aY.mono h1).aU hd h3);rcases oa with rfl | ⟨rfl,rfl⟩<;>exact this
def RO.o1{ds:List (FuncId×Η)}{l:Τ}{lo:ϕ}{o:Oper}(h:yd (λm O'=>RO P fn n ds ⟨lo⟩ rest l (aU o.dst m e) O' K) (dE tab o e O))(ht:aN P tab:=by exact aa)(ho:lo[i]?=φ o:=by exact rfl)(hg:aK ⟨lo⟩ o e=φ Α:=by exact rfl)(hd:bj n o.dst=Α:=by exact rfl):
  RO P fn n ds ⟨lo⟩ rest (i::l) e O K:=by
 generalize hv:dE tab o e O=v at h;cases v with
 | none=>exact h.elim
 | some p=>exact RO.step ht z20 hg hv hd h
def RO.defer{ds:List (FuncId×Η)}{g:FuncId}{as_:Array Operand}{ts:Array TypeId}{ty:TypeId}(ho:ops[i]?=φ (.mk Β (.defer {callee:=.value (.func g),args:=as_,argTypes:=ts}) ty ps af Β))(hm:g_ e as_.toList=φ ms)
  (h:RC P fn n ((g,ms)::ds) rest e O K):RO P fn n ds ops rest [i] e O K:=by
 intro G0 G D a w h0 hD hw aY;have kO:=aY.g_ hm;have ha:as_.map a.eval=(as_.toList.map a.eval).toArray:=by apply Array.ext';simp
 have cD:(execOp a.eval (.mk Β (.defer {callee:=.value (.func g),args:=as_,argTypes:=ts}) ty ps af Β)).run P w= .ok (.defer {target:=.fn (.func g) #[],args:=(as_.toList.map a.eval).toArray}) w:=by
  simp only[<-ha];simp[execOp,resolve,Act.eval,Deferred.ofValue]
 rw[wpOps_cons];simp only[wpOp,ho];rw[if_pos (by simp[Region.wanted])];refine .inl ?_;unfold Oper.wp;rw[cD,Oper.upon_defer];simp only[wpOps,Exit.then];exact h G0 G ({target:=.fn (.func g) #[],args:=(as_.toList.map a.eval).toArray}::D) _ w h0 ⟨⟨_,rfl,kO⟩,hD⟩ hw ⟨by show _::a.defers=_;rw[aY.defers],aY.size,aY.get⟩
def fM.mono{x:ϱ}{K':ϰ}(h:fM P f args x O K)(hk:∀O',K O'->K' O'):fM P f args x O K':=λG w vs u hw hv hu=>(h G w vs u hw hv hu).mono λr u' w' ⟨h1,h2,O',H,h3,h4,h5⟩=>⟨h1,h2,O',H,h3,h4,hk _ h5⟩
def fM.ofV(ht:aN P tab){c:Code}(hf:P.funcs[f]?=φ fn)(hb:fn.body=φ c)(hr:fn.results= #[])(hn:Ζ args<=fn.ntmps)(hk:(⟨fn.ntmps,0⟩:Sz)=n)(h:VC P n [] c (cX 0 args) O (FN tab [] (aC λ_ O'=>K O'))):fM P f args Β O K:=by
 subst hk;intro G w vs u hw hv hu
 have HE:settle u= .returning:=by
  cases u<;>first
   | rfl
   | exact hu.elim
 have hl:=hv.1;refine(callsD_of_wp (R:=λx w'=>(∃v,x= .returned v)/\∃O' H,Gh.Le G H/\WR H O' w'/\K O') hf hb (wp_mono (h G _ w hw ?_) ?_)).mono ?_;refine⟨rfl,by simp;omega,λt x hx=>?_⟩;rw[kj,if_pos (alp _),Nat.sub_zero]at hx;obtain⟨u,h1,h2⟩:=hv.get hx;refine⟨u,?_,h2⟩;have bI:=(Ro.1 h1).1;rw[aut (by simpa using bI)];simpa using h1
 ·rintro y a1 w1 ⟨x,e',O',H,g1,g2,g3,g4,g5⟩
  have fin:FR H ⟨fn.ntmps,0⟩ [] e' a1->K O'->bodyPost P fn (λx w'=>(∃v,x= .returned v)/\∃O' H,Gh.Le G H/\WR H O' w'/\K O') .normal a1 w1:=λaY hk=>
   ⟨aY.defers,.tuple #[],by simp[results,hr],⟨_,rfl⟩,O',H,g1,g2,hk⟩
  cases y<;>cases x<;>first
   | exact False.elim g4
   | exact fin g3 g5
   | exact g5.elim
 ·rintro r u' w' ⟨rfl,h1,h2⟩;exact⟨h1,HE,h2⟩
end
section
variable{G:Gh}{O O':VH}{w:World}{P:Program}
def WR.cellAt{k off:Nat}{x:Value}(h:WR G O w)(hk:O.hp k=φ (.cells cs))(hc:cs[off]?=φ (.v x)):∃b,G.cJ k=φ b/\w.cell? ⟨b,off,Β⟩=φ x/\w.frozen? ⟨b,off,Β⟩=γ:=by
 obtain⟨b,C,T,e1,e2,e3⟩:=h.cells k cs hk;obtain⟨v,t_,D7⟩:=e3.get hc;cases D7 with
 | v _=>
   refine⟨b,e1,?_,?_⟩;have bI:off<Ζ cs:=(Ro.1 hc).1;rw[List.getElem?_take_of_lt bI]at t_;simp only[World.cell?,e2,Option.isSome_none,Bool.false_eq_true,if_false];simpa using t_
   ·have hlen:off<C.size:=by
     have:=(Ro.1 t_).1;simp at this;omega
    obtain⟨t',⟨lo,hi⟩,bH⟩:=T;dsimp only at e2 bH;simp only[World.frozen?,e2,Bool.and_eq_false_imp,decide_eq_true_eq,decide_eq_false_iff_not];intro;omega
def eY.mem(hr:∀G w vs,WR G O w->aX G ms vs->∃u w',(callFunc f vs.toArray).run P w= .ok (.value u) w'/\WR G O' w'/\VR G m u):eY P f ms O λm' mS=>m'=m/\mS=O':=by
 intro G w vs hw hv;obtain⟨u,w',h1,h2,h3⟩:=hr G w vs hw hv;exact⟨m,O',u,w',G,⟨rfl,rfl⟩,h1,Gh.Le.refl G,h2,h3⟩
def VR.Du:VR G (.tuple []) (.tuple #[]):=.tuple (us:=[]) rfl (λi c u h=>by simp at h)
def aX.one{x:MV}(h:aX G [x] vs):∃u,vs=[u]/\VR G x u:=by
 obtain⟨u,us,rfl,g1,g2⟩:=h.eX;rw[g2.jd];exact⟨u,rfl,g1⟩
def aX.agT{k:Nat}(h:aX G [.p k o] vs):∃b,vs=[.pointer (φ ⟨b,o,Β⟩)]/\G.cJ k=φ b:=by
 obtain⟨u,rfl,g1⟩:=h.one;cases g1 with
 | p h4=>exact⟨_,rfl,h4⟩
def aX.agU{k:Nat}{x:Value}(h:aX G [.p k o,.v x] vs):∃b,vs=[.pointer (φ ⟨b,o,Β⟩),x]/\G.cJ k=φ b:=by
 obtain⟨u,us,rfl,g1,g2⟩:=h.eX;obtain⟨u2,rfl,g3⟩:=g2.one;have:=g3.jq;subst this;cases g1 with
 | p h4=>exact⟨_,rfl,h4⟩
def aX.aq7{k:Nat}{x y:Value}(h:aX G [.p k o,.v x,.v y] vs):∃b,vs=[.pointer (φ ⟨b,o,Β⟩),x,y]/\G.cJ k=φ b:=by
 obtain⟨u,us,rfl,g1,g2⟩:=h.eX;obtain⟨u2,us2,rfl,g3,g4⟩:=g2.eX;obtain⟨u3,rfl,g5⟩:=g4.one;have e1:=g3.jq;have e2:=g5.jq;subst e1;subst e2
 cases g1 with
 | p h4=>exact⟨_,rfl,h4⟩
end
def yM(O:VH):eY Ε 230 [] O λm O'=>m= .tuple []/\O'=O:=
 eY.mem λG w vs hw hv=>by
  rw[hv.jd];exact⟨_,w,run_call_mark0 func230 z11 z11 z11 .disable z11 w,hw,VR.Du⟩
def Bc(O:VH):eY Ε 232 [] O λm O'=>m= .tuple []/\O'=O:=
 eY.mem λG w vs hw hv=>by
  rw[hv.jd];exact⟨_,w,run_call_mark0 func232 z11 z11 z11 .enable z11 w,hw,VR.Du⟩
def Jr(k o:Nat)(O:VH):eY Ε 233 [.p k o] O λm O'=>m= .tuple []/\O'=O:=
 eY.mem λG w vs hw hv=>by
  obtain⟨b,rfl,hp⟩:=hv.agT;exact⟨_,w,run_call_marked func233 z11 z11 z11 .acquire z11 _ w,hw,VR.Du⟩
def GY(k o:Nat)(O:VH):eY Ε 235 [.p k o] O λm O'=>m= .tuple []/\O'=O:=
 eY.mem λG w vs hw hv=>by
  obtain⟨b,rfl,hp⟩:=hv.agT;exact⟨_,w,run_call_marked func235 z11 z11 z11 .releaseMerge z11 _ w,hw,VR.Du⟩
section
variable{O:VH}{k off:Nat}{cs:Η}
def TX(y:Int)(hk:O.hp k=φ (.cells cs))(hc:cs[off]?=φ (.v (Ι Κ x))):eY Ε 155 [.p k off,.v (Ι Κ y)] O λm O'=>m= .v (Ι Κ (IntKind.i64.wrap (x+y)))/\O'=O.set k (.cells (cs.set off (.v (Ι Κ (IntKind.i64.wrap (x+y)))))):=
 eY.mem λG w vs hw hv=>by
  obtain⟨b',h1,h2,h3⟩:=hw.cellAt hk hc;obtain⟨b,rfl,hp⟩:=hv.agU;rw[h1]at hp;injection hp with hp;subst hp;exact⟨_,_,run_call_add func155 z11 z11 z11 .i64 z11 h2 h3 rfl,hw.store hk h1 (Ro.1 hc).1 (.v rfl),.v rfl⟩
def TZ(y:Int)(hk:O.hp k=φ (.cells cs))(hc:cs[off]?=φ (.v (.int .i32 x))):eY Ε 236 [.p k off,.v (.int .i32 y)] O λm O'=>m= .v (.int .i32 (IntKind.i32.wrap (x+y)))/\O'=O.set k (.cells (cs.set off (.v (.int .i32 (IntKind.i32.wrap (x+y)))))):=
 eY.mem λG w vs hw hv=>by
  obtain⟨b',h1,h2,h3⟩:=hw.cellAt hk hc;obtain⟨b,rfl,hp⟩:=hv.agU;rw[h1]at hp;injection hp with hp;subst hp;exact⟨_,_,run_call_add func236 z11 z11 z11 .i32 z11 h2 h3 rfl,hw.store hk h1 (Ro.1 hc).1 (.v rfl),.v rfl⟩
def YB(hk:O.hp k=φ (.cells cs))(hc:cs[off]?=φ (.v (.int .u32 x))):eY Ε 190 [.p k off] O λm O'=>m= .v (.int .u32 x)/\O'=O:=
 eY.mem λG w vs hw hv=>by
  obtain⟨b',h1,h2,h3⟩:=hw.cellAt hk hc;obtain⟨b,rfl,hp⟩:=hv.agT;rw[h1]at hp;injection hp with hp;subst hp;exact⟨_,_,run_call_load func190 z11 z11 z11 .u32 z11 h2,hw,.v rfl⟩
def T0(y:Int)(hk:O.hp k=φ (.cells cs))(hc:cs[off]?=φ (.v (.int .u32 x))):eY Ε 211 [.p k off,.v (.int .u32 y)] O λm O'=>m= .tuple []/\O'=O.set k (.cells (cs.set off (.v (.int .u32 y)))):=
 eY.mem λG w vs hw hv=>by
  obtain⟨b',h1,h2,h3⟩:=hw.cellAt hk hc;obtain⟨b,rfl,hp⟩:=hv.agU;rw[h1]at hp;injection hp with hp;subst hp;exact⟨_,_,run_call_store func211 z11 z11 z11 z11 h2 h3,hw.store hk h1 (Ro.1 hc).1 (.v rfl),VR.Du⟩
def adY{y:Int}(hk:O.hp k=φ (.cells cs))(hc:cs[off]?=φ (.v (.int .i32 x))):eY Ε 231 [.p k off,.v (.int .i32 x),.v (.int .i32 y)] O λm O'=>m= .v (.bool Α)/\O'=O.set k (.cells (cs.set off (.v (.int .i32 y)))):=
 eY.mem λG w vs hw hv=>by
  obtain⟨b',h1,h2,h3⟩:=hw.cellAt hk hc;obtain⟨b,rfl,hp⟩:=hv.aq7;rw[h1]at hp;injection hp with hp;subst hp;exact⟨_,_,run_call_cas_hit func231 z11 z11 z11 .i32 z11 h2 h3,hw.store hk h1 (Ro.1 hc).1 (.v rfl),.v rfl⟩
end
section
variable{P:Program}{tab:cB}{n:Sz}{D:List Deferred}{md:Md}{ops:Array Oper}{Q:VQ}{e:Env}{O:VH}
def VL.al8(ht:aN P tab){d:Option Tmp}{x:Operand}{src dst ty el:TypeId}{L:List (Fl×Oper)}{k off:Nat}{y:Value}{te:cg}(hmd:md= .plain\/md= .any)
  (hs:(tab src).map cg.under=φ (.pointer el)) (Sg:(tab dst).map cg.under=φ .unsafePointer) (he:tab el=φ te) (hz:te.size≠0) (hk:O.hp k=φ (.cells cs)) (hc:cs[off]?=φ (.v y))
  (hx:ev e x=φ (.p k off)) (hg:aK ops (.mk d (.convert src dst x) ty ps af g) e=φ Α) (hd:bj n d=Α) (h:WL P tab n D md ops Q L (aU d (.p k off) e) O):
  VL P n D md ops ((.one,.mk d (.convert src dst x) ty ps af g)::L) e O Q:=by
 refine auV (M:=λm O'=>m= .p k off/\O'=O) (λG a w hw hf=>?_) z16 (hmd:=hmd) (hg:=hg) (hd:=hd);have lH:=hf.ev hx;generalize oo:a.eval x=u at lH;cases lH with
 | p hp=>
   rename_i b;obtain⟨ti,z,i1,i2,_⟩:=(ht _ te he).info;obtain⟨b2,s1,s2,_⟩:=hw.cellAt hk hc;rw[hp]at s1;injection s1 with s1;subst s1;have hr:=run_convert_to_unsafe (P:=P) (w:=w) (bm ht hs) (bm ht Sg) (by rw[i1,asc,decide_eq_false (by rw[i2];exact hz)]) s2;exact⟨_,_,_,w,G,⟨rfl,rfl⟩,by simp[execOp,oo,hr],Gh.Le.refl G,hw,.p hp⟩
def dd.ext{o:Oper}{c:Call}{x:Operand}{id:FuncId}(xL:o.op= .call c)(hc:c.callee= .value x)(hf:ev e x=φ (.func (.func id) [] []))(hm:g_ e c.args.toList=φ ms)(hx:eY P id ms O M):dd P n D o e O M:=by
 intro G a w hw aY;have HS:=aY.ev hf;generalize WK:a.eval x=fv at HS;cases HS with
 | func h1 h2 h3 h4=>
   rename_i us vs;have kO:us=[]:=an7 h1;have nP:vs=[]:=an7 h3;subst kO;subst nP;have jL:=aY.g_ hm;obtain⟨m,O',u,w',H,hM,hr,g1,g2,g3⟩:=hx G w _ hw jL;refine⟨m,O',u,w',H,hM,?_,g1,g2,g3⟩;(have ha: #[]++c.args.map a.eval++ #[]=(c.args.toList.map a.eval).toArray:=by apply Array.ext';simp);simp only[execOp,xL,resolve,hc,WK,Deferred.ofValue,Sem.run_bind,Sem.run_pure,Result.andThen_ok,invoke];rw[ha];exact hr
end
def dS:=Rn T77<|Rn aqt<|Rn T85<|Rn aqx<|Rn T87<|Rn T89<|Rn aqB<|Rn af8<|Rn T83<|Rn PJ<|Rn aqF<|Rn aqy<|Rn aqu<|Rn T2<|Rn T91<|Rn aqv ME
section
variable{O:VH}{k off:Nat}{cs:Η}
def Js(y:Int)(hk:O.hp k=φ (.cells cs))(hc:cs[off]?=φ (.v (Ι Κ x))):VF Ε 122 [.p k off,.v (Ι Κ y)] O (aC λm O'=>m= .v (Ι Κ (IntKind.i64.wrap (x+y)))/\O'=O.set k (.cells (cs.set off (.v (Ι Κ (IntKind.i64.wrap (x+y))))))):=by
 refine χ 10 [.tmp 4] func122 ?_;refine ae dS ?_;refine ah.ext (TX y hk hc) rfl ?_;rintro _ O2 ⟨rfl,rfl⟩;exact ez dS
def Jt(hk:O.hp k=φ (.cells cs))(hc:cs[off]?=φ (.v (.int .u32 x))):VF Ε 172 [.p k off] O (aC λm O'=>m=mb (x != 0)/\O'=O):=by
 refine χ 8 [.tmp 2] func172 ?_;refine ae dS ?_;refine ah.ext (YB hk hc) rfl ?_;rintro _ O2 ⟨rfl,rfl⟩;exact ez dS
def aoS(b:Bool)(O:VH):VF Ε 212 [mb b] O (aC λm O'=>m= .v (.int .u32 (if b then 1 else 0))/\O'=O):=by
 refine χ 4 [.tmp 2] func212 ?_;cases b;exact ez dS;exact ez dS
def adZ(b:Bool)(hk:O.hp k=φ (.cells cs))(hc:cs[off]?=φ (.v (.int .u32 x))):fM Ε 193 [.p k off,mb b] Β O (λO'=>O'=O.set k (.cells (cs.set off (.v (.int .u32 (if b then 1 else 0)))))):=by
 refine fM.ofV aa (n:=⟨10,0⟩) func193 rfl rfl (auo rfl) rfl ?_;simp only[cX,apK,y10];refine VC.ot [5] ?_;refine ρ 0 dS ?_;refine ρ 1 dS ?_;refine ρ 2 dS ?_;refine ρ 3 dS ?_;refine ab.call (i:=4) (aoS b O) ?_;rintro _ O2 ⟨rfl,eO⟩;simp only[ag];rw[eO];clear eO O2;refine⟨VH.Ge.refl _,ab.fin z11 (cf.st (i:=5) rfl z11 rfl rfl (dd.ext rfl rfl rfl rfl (T0 _ hk hc)) ?_)⟩;rintro m O2 ⟨rfl,rfl⟩;refine cf.done z11 ?_;refine ae dS ?_;trivial
def agV(hk:O.hp k=φ (.cells cs))(hc:cs[off]?=φ (.v (.int .i32 0))):VF Ε 209 [.p k off] O (aC λm O'=>O'=O.set k (.cells (cs.set off (.v (.int .i32 1))))):=by
 have hl:off<Ζ cs:=(Ro.1 hc).1;refine ω 13 [] func209 ?_;refine κ dS ?_;refine ah.ext (yM _) rfl ?_;rintro _ O2 ⟨rfl,rfl⟩;refine ae dS ?_;refine κ dS ?_;refine ah.ext (adY (y:=1) hk hc) rfl ?_;rintro _ O2 ⟨rfl,eO⟩;have bC:O2.hp k=φ (.cells (cs.set off (.v (.int .i32 1)))):=by rw[eO];exact υ _ _ _
 have fz:(cs.set off (.v (.int .i32 1)))[off]?=φ (.v (.int .i32 1)):=by rw[List.getElem?_set_self hl]
 refine ae dS ?_;refine ah.ext (Bc _) rfl ?_;rintro _ O3 ⟨rfl,B0⟩;rw[B0];clear B0 O3;refine ae dS ?_;refine VL.al8 aa (.inl rfl) (el:=87) (by rw[af8];rfl) (by rw[ME];rfl) T87.1.1 z12 bC fz rfl rfl rfl ?_;refine ae dS ?_;refine ah.ext (Jr _ _ _) rfl ?_;rintro _ O4 ⟨rfl,Au⟩;rw[Au];clear Au O4;refine ae dS ?_;exact eO
def aku(hk:O.hp k=φ (.cells cs))(hc:cs[off]?=φ (.v (.int .i32 0))):VF Ε 191 [.p k off] O (aC λm O'=>O'=O.set k (.cells (cs.set off (.v (.int .i32 1))))):=by
 refine χ 6 [] func191 ?_;refine ae dS ?_;refine π (agV hk hc) ?_;rintro _ O2 e2;refine ae dS ?_;exact e2
def YC(hk:O.hp k=φ (.cells cs))(hc:cs[off]?=φ (.v (.int .i32 1))):VF Ε 210 [.p k off] O (aC λm O'=>O'=O.set k (.cells (cs.set off (.v (.int .i32 0))))):=by
 have hl:off<Ζ cs:=(Ro.1 hc).1;refine ω 21 [] func210 ?_;refine θ (aF dS hk hc ?_);refine VL.al8 aa (.inl rfl) (el:=87) (by rw[af8];rfl) (by rw[ME];rfl) T87.1.1 z12 hk hc rfl rfl rfl ?_;refine ae dS ?_;refine ah.ext (GY _ _ _) rfl ?_;rintro _ O2 ⟨rfl,Lt⟩;rw[Lt];clear Lt O2;refine ae dS ?_;refine ah.ext (yM _) rfl ?_;rintro _ O2 ⟨rfl,Lt⟩;rw[Lt];clear Lt O2;refine ae dS ?_;refine κ dS ?_;refine ah.ext (TZ (-1) hk hc) rfl ?_;rintro _ O2 ⟨rfl,eO⟩;refine ak dS (show IntKind.i32.wrap (1+ -1)=0 from rfl) ?_;refine κ dS ?_;refine ν dS ?_;refine ah.ext (Bc _) rfl ?_;rintro _ O3 ⟨rfl,B0⟩;rw[B0];clear B0 O3;refine ae dS ?_;exact eO
def ad0(hk:O.hp k=φ (.cells cs))(hc:cs[off]?=φ (.v (.int .i32 1))):fM Ε 192 [.p k off] Β O (λO'=>O'=O.set k (.cells (cs.set off (.v (.int .i32 0))))):=by
 refine fM.ofV aa (n:=⟨6,0⟩) func192 rfl rfl (auo rfl) rfl ?_;simp only[cX,apK,y10];refine ν dS ?_;refine π (YC hk hc) ?_;rintro _ O2 e2;refine ae dS ?_;exact e2
def ad1{g:FuncId}(hk:O.hp k=φ (.cells cs))(h0:cs[off]?=φ (.v (.int .u32 0)))(h1:cs[off+1]?=φ (.v (.int .i32 0)))(hg:cV Ε g=Α)
  (hC:VF Ε g xs (O.set k (.cells (cs.set (off+1) (.v (.int .i32 1))))) (aC λ_ O'=> Φ O'))
  (hΦ :∀O', Φ O'->∃cs',O'.hp k=φ (.cells cs')/\cs'[off]?=φ (.v (.int .u32 0))/\cs'[off+1]?=φ (.v (.int .i32 1))):
  VF Ε 173 [.p k off,.func (.func g) [] xs] O (aC λ_ O'=>∃O1 cs', Φ O1/\O1.hp k=φ (.cells cs')/\O'=O1.set k (.cells ((cs'.set off (.v (.int .u32 1))).set (off+1) (.v (.int .i32 0))))):=by
 refine VF.defs (K:=λO'=>∃O1 cs', Φ O1/\O1.hp k=φ (.cells cs')/\O'=O1.set k (.cells ((cs'.set off (.v (.int .u32 1))).set (off+1) (.v (.int .i32 0))))) func173 rfl rfl (auo rfl) ?_ (λO' h=>h);show RC _ _ ⟨21,0⟩ _ _ _ _ _;simp only[cX,apK,y10];refine RC.ai λD=>?_
 refine ν dS ?_;refine π (aku hk h1) ?_;rintro _ O2 e2;have bC:O2.hp k=φ (.cells (cs.set (off+1) (.v (.int .i32 1)))):=by rw[e2];exact υ _ _ _
 refine ae dS ?_;refine RC.region [0,1,2,3] rfl ?_;refine RO.o1 ?_;refine ae dS ?_;refine RO.o1 ?_;refine ae dS ?_;refine RO.o1 ?_;refine ae dS ?_;refine RO.defer rfl rfl ?_;refine RC.ai λD=>?_
 have h02:(cs.set (off+1) (.v (.int .i32 1)))[off]?=φ (.v (.int .u32 0)):=by rw[auq Λ];exact h0
 refine ν dS ?_;refine Ω (Jt bC h02) ?_;refine ae dS ?_;refine RC.cond (t:=Α) rfl ?_;rw[if_pos rfl];refine RC.region [0,1,2,3] rfl ?_;refine RO.o1 ?_;refine ae dS ?_;refine RO.o1 ?_;refine ae dS ?_;refine RO.o1 ?_;refine ae dS ?_;refine RO.defer rfl rfl ?_;refine RC.fin rfl λD=>?_
 rw[e2];refine ν dS ?_;refine π hC ?_ (hb:=hg);rintro m O3 GL;obtain⟨cs',dA,h3,h4⟩:=hΦ O3 GL;have Dm:off<Ζ cs':=(Ro.1 h3).1;refine ae dS ?_;refine⟨Enters.w_,(adZ Α dA h3).mono λO4 e4=>?_⟩;have fJ:O4.hp k=φ (.cells (cs'.set off (.v (.int .u32 1)))):=by rw[e4];exact υ _ _ _
 have h44:(cs'.set off (.v (.int .u32 1)))[off+1]?=φ (.v (.int .i32 1)):=by rw[auq Λ];exact h4
 refine⟨Enters.w_,(ad0 fJ h44).mono λO5 e5=>?_⟩;refine⟨O3,cs',GL,dA,?_⟩;rw[e5,e4];exact VH.set_set _ _ _ _
def aq8{g:FuncId}(hk:O.hp k=φ (.cells cs))(h0:cs[off]?=φ (.v (.int .u32 0)))(h1:cs[off+1]?=φ (.v (.int .i32 0)))(hg:cV Ε g=Α)
  (hC:VF Ε g xs (O.set k (.cells (cs.set (off+1) (.v (.int .i32 1))))) (aC λ_ O'=> Φ O'))
  (hΦ :∀O', Φ O'->∃cs',O'.hp k=φ (.cells cs')/\cs'[off]?=φ (.v (.int .u32 0))/\cs'[off+1]?=φ (.v (.int .i32 1))):
  VF Ε 145 [.p k off,.func (.func g) [] xs] O (aC λ_ O'=>∃O1 cs', Φ O1/\O1.hp k=φ (.cells cs')/\O'=O1.set k (.cells ((cs'.set off (.v (.int .u32 1))).set (off+1) (.v (.int .i32 0))))):=by
 refine ω 12 [] func145 ?_;refine κ dS ?_;refine Ω (Jt hk h0) ?_;refine ae dS ?_;refine ν dS ?_;refine π (ad1 hk h0 h1 hg hC hΦ) ?_;rintro m O3 h3;refine ae dS ?_;exact h3
def aoT(g:FuncId)(xs:Η)(hx:x≠0)(hk:O.hp k=φ (.cells cs))(h0:cs[off]?=φ (.v (.int .u32 x))):VF Ε 145 [.p k off,.func (.func g) [] xs] O (aC λ_ O'=>O'=O):=by
 refine ω 12 [] func145 ?_;refine κ dS ?_;refine Ω (Jt hk h0) ?_;have hx':(x != 0)=Α:=by rw[bne_iff_ne];exact hx
 refine ak dS hx' ?_;refine ο dS hx' ?_;trivial
end
structure Rec where
 b:Nat
 off:Nat
 name:Bs
 attrs:List (Bs×Bs)
 kids:List Nd
 q:MV
def j8(r:Rec):Η:=[.s r.name,.l (Ζ r.attrs) (r.attrs.flatMap bp) .av,r.q,.s []]
def yN(r:Rec):(j8 r).length=4:=rfl
def qU(O:VH)(B k:Nat):List Rec->Prop
 | []=>True
 | [r]=>r.b=k/\r.off=0
 | r::p::rest=>(∃c,p.q= .bk r.b 0 (Ζ p.kids+1) c/\(Ζ p.kids)+1<=c/\Row O 121 4 B r.b c (aI p.kids++j8 r))/\r.off=(Ζ p.kids)*4/\p.b<r.b/\qU O B k (p::rest)
def aq9(O:VH)(B:Nat):List Rec->Prop
 | []=>True
 | r::_=>GR O 121 4 B r.q (Ζ r.kids) (aI r.kids)/\∀i,gid r.q=φ i->r.b<i
def qW:List Rec->Η->Η
 | [],z=>z
 | [r],_=>j8 r
 | _::r::R,z=>qW (r::R) z
def jy(R:List Rec):Η:=(R.map λr=>MV.p r.b r.off).reverse
def yO(r:Rec)(R:List Rec):(jy (r::R))=jy R++[.p r.b r.off]:=by unfold jy;simp
def nw(R:List Rec):(jy R).length=Ζ R:=by unfold jy;simp
def gj:∀(R:List Rec)(z:Η),Ζ z=4->(qW R z).length=4
 | [],z,h=>h
 | [r],_,_=>rfl
 | _::r::R,z,h=>gj (r::R) z h
structure BC(O:VH)(B k:Nat)(R:List Rec)(z tl:Η):Prop where
 lt:k<B
 le:B<=O.N
 cells:O.hp k=φ (.cells (qW R z++tl))
 zl:Ζ z=4
 chain:qU O B k R
 top:aq9 O B R
def Kp(O O':VH)(S:Τ):Prop:=O.N<=O'.N/\∀i,i<O.N->i ∉ S->O'.hp i=O.hp i
def GZ(O:VH)(S:Τ):Prop:=∀x∈S,∀j t n,O.hp x≠φ (.shape j t n)
def GZ.ne(h:GZ O S){t:Nat}(hj:O.hp j=φ (.shape i t n)):j ∉ S:=λhm=>h j hm _ _ _ hj
def Row.kp{el:TypeId}{k:Nat}(h:Row O el sz B k c L)(u:Kp O O' S)(hS:GZ O S)(hk:k ∉ S):Row O' el sz B k c L:=by
 obtain⟨⟨sp,h1,h2⟩,⟨j,h3,h4,h5⟩,h6,h7⟩:=h;exact⟨⟨sp,(u.2 k h7 hk).trans h1,h2⟩,⟨j,h3,aev h4 u.1,(u.2 j h4 (hS.ne h5)).trans h5⟩,h6,aev h7 u.1⟩
def Row.own{el:TypeId}{k:Nat}{L':Η}(h:Row O el sz B k c L)(u:Kp O O' S)(hS:GZ O S)(hc:O'.hp k=φ (.cells (L'++sp)))(hl:(L'++sp).length=c*sz):Row O' el sz B k c L':=by
 obtain⟨_,⟨j,h3,h4,h5⟩,h6,h7⟩:=h;exact⟨⟨sp,hc,hl⟩,⟨j,h3,aev h4 u.1,(u.2 j h4 (hS.ne h5)).trans h5⟩,h6,aev h7 u.1⟩
def qU.lt{O:VH}{B k:Nat}:∀{R:List Rec} {r:Rec},qU O B k (r::R)->∀x∈R,x.b<r.b
 | [],_,_,x,hx=>by cases hx
 | p::R,r,h,x,hx=>by
   obtain⟨_,_,h3,h4⟩:=h;rcases aja.1 hx with rfl | hx;exact h3;exact Nat.lt_trans (h4.lt x hx) h3
def qU.kp{O O':VH}{B k:Nat}{S:Τ}(u:Kp O O' S)(hS:GZ O S):∀{R:List Rec},qU O B k R->(∀r∈R,r.b=k\/(∃cs,O.hp r.b=φ (.cells cs))->r.b=k\/r.b ∉ S)->k<B->qU O' B k R
 | [],_,_,_=>trivial
 | [r],h,_,_=>h
 | r::p::rest,⟨⟨c,h1,h2,h3⟩,h4,h5,h6⟩,hn,hk=>⟨⟨c,h1,h2,h3.kp u hS (((hn r z10) (.inr (by obtain⟨sp,e,_⟩:=h3.cells;exact⟨_,e⟩))).resolve_left λe=>by have:=h3.lo;omega)⟩,h4,h5,h6.kp u hS (λx hx=>hn x (by simp[hx])) hk⟩
def GR.lo{el:TypeId}(h:GR O el sz B p n L)(e:gid p=φ i):B<=i/\i<O.N:=by
 rcases h with⟨_,_,hp | hp⟩ | ⟨k2,c,hp,_,_,lD⟩;rw[hp]at e;cases e;rw[hp]at e;cases e;rw[hp]at e;injection e with e;subst e;exact⟨lD.lo,lD.hi⟩
def GR.kp{el:TypeId}(h:GR O el sz B p n L)(u:Kp O O' S)(hS:GZ O S)(hk:∀i,gid p=φ i->i ∉ S):GR O' el sz B p n L:=by
 rcases h with h | ⟨k2,c,hp,h1,h2,lD⟩;exact .inl h;exact .inr ⟨k2,c,hp,h1,h2,lD.kp u hS (hk k2 (by rw[hp];rfl))⟩
def GR.YD{el:TypeId}(h:GR O el sz B p n L)(e:gid p=φ i):∃cs,O.hp i=φ (.cells cs):=by
 rcases h with⟨_,_,hp | hp⟩ | ⟨k2,c,hp,_,_,lD⟩;rw[hp]at e;cases e;rw[hp]at e;cases e;rw[hp]at e;injection e with e;subst e;obtain⟨sp,h1,_⟩:=lD.cells;exact⟨_,h1⟩
def BC.loc{k:Nat}{r:Rec}{R:List Rec}(h:BC O B k (r::R) z tl):∃pre post,O.hp r.b=φ (.cells (pre++j8 r++post))/\(Ζ pre)=r.off/\r.b<O.N/\(R=[]->r.b=k/\pre=[]/\post=tl)/\∀p rest,R=p::rest->pre=aI p.kids/\B<=r.b:=by
 cases R with
 | nil=>
   obtain⟨h1,h2⟩:=h.chain;refine⟨[],tl,?_,h2.symm,?_,λ_=>⟨h1,rfl,rfl⟩,λp rest e=>by cases e⟩;rw[h1];exact h.cells;rw[h1];exact aev h.lt h.le
 | cons p rest=>
   obtain⟨⟨c,_,_,lD⟩,ho,_,_⟩:=h.chain;obtain⟨sp,h1,h2⟩:=lD.cells;exact⟨aI p.kids,sp,h1,by rw[dN,ho],lD.hi,(λe=>by cases e),λp' as8 e=>by injection e with e1 e2;subst e1;exact⟨rfl,lD.lo⟩⟩
def BC.part{k:Nat}{r r':Rec}{R:List Rec}(h:BC O B k (r::R) z tl)(hc:O.hp r.b=φ (.cells (pre++j8 r++post)))(hl:Ζ pre=r.off)(hR:R=[]->post=tl)(u:Kp O O' S)(hb:r'.b=r.b)(ho:r'.off=r.off)
  (hn:∀x∈S,x=r.b\/gid r.q=φ x) (pf:O'.hp r.b=φ (.cells (pre++j8 r'++post))):O'.hp k=φ (.cells (qW (r'::R) z++tl))/\qU O' B k (r'::R):=by
 have GV:=h.chain;have bI:=GV.lt;have jE:=h.top
 have hS:GZ O S:=λx hx j t n e=>by
  rcases hn x hx with e2 | e2;subst e2;rw[hc]at e;cases e;obtain⟨cs,e3⟩:=jE.1.YD e2;rw[e3]at e;cases e
 cases R with
 | nil=>
   obtain⟨h1,h2⟩:=GV;have hp:pre=[]:=an7 (by rw[hl,h2]);subst hp;refine⟨?_,⟨by rw[hb,h1],by rw[ho,h2]⟩⟩;rw[<-h1,pf,hR rfl];rfl
 | cons p rest=>
   obtain⟨⟨c,e1,e2,lD⟩,e3,e4,e5⟩:=GV;have aq_:=lD.lo
   have hkS:k ∉ S:=λhm=>by
    have:=h.lt;rcases hn k hm with e | e;omega;have:=(jE.1.lo e).1;omega
   obtain⟨sp,sN,GN⟩:=lD.cells;rw[hc]at sN;injection sN with sN;injection sN with sN;((((have cz:Ζ pre=(aI p.kids).length:=by rw[hl,e3,dN]);rw[an2,an2]at sN;obtain⟨rT,yC⟩:=aur sN cz;obtain⟨_,qx⟩:=aur yC rfl;subst rT;subst qx);refine⟨?_,⟨⟨c,by rw[e1,hb],e2,?_⟩,by rw[ho,e3],by rw[hb];exact e4,e5.kp u hS (λx hx _=>?_) h.lt⟩⟩);rw[u.2 k (aev h.lt h.le) hkS];exact h.cells);rw[hb];refine lD.own u hS pf ?_;rw[TR,TR,yN]at GN ⊢;exact GN
   ·refine .inr λhm=>?_
    have h6:=bI x hx;rcases hn x.b hm with e | e;omega;have:=jE.2 _ e;omega
def BC.Qs{k:Nat}{r r':Rec}{R:List Rec}(h:BC O B k (r::R) z tl)(hc:O.hp r.b=φ (.cells (pre++j8 r++post)))(hl:Ζ pre=r.off)(hR:R=[]->post=tl)(u:Kp O O' S)(hb:r'.b=r.b)(ho:r'.off=r.off)
  (hn:∀x∈S,x=r.b\/gid r.q=φ x) (pf:O'.hp r.b=φ (.cells (pre++j8 r'++post))) (ht:GR O' 121 4 B r'.q (Ζ r'.kids) (aI r'.kids)) (xG:∀i,gid r'.q=φ i->r.b<i):BC O' B k (r'::R) z tl:=by
 obtain⟨h1,h2⟩:=h.part hc hl hR u hb ho hn pf;exact⟨h.lt,apE h.le u.1,h1,h.zl,h2,⟨ht,λi e=>by rw[hb];exact xG i e⟩⟩
def BC.push{k k':Nat}{r:Rec}{R:List Rec}(h:BC O B k (r::R) z tl)(hc:O.hp r.b=φ (.cells (pre++j8 r++post)))(hl:Ζ pre=r.off)(hR:R=[]->post=tl)(u:Kp O O' S)
  (hn:∀x∈S,x=r.b\/gid r.q=φ x) (pf:O'.hp r.b=φ (.cells (pre++j8 {r with q:=.bk k' 0 (Ζ r.kids+1) c}++post))) (hk:gid r.q=φ k'\/O.N<=k') (hlen:Ζ r.kids+1<=c)
  (lD:Row O' 121 4 B k' c (aI r.kids++j8 ⟨k',(Ζ r.kids)*4,nm,hH,[],.l 0 [] .nil⟩)):BC O' B k (⟨k',(Ζ r.kids)*4,nm,hH,[],.l 0 [] .nil⟩::{r with q:=.bk k' 0 (Ζ r.kids+1) c}::R) z tl:=by
 obtain⟨h1,h2⟩:=h.part (r':={r with q:=.bk k' 0 (Ζ r.kids+1) c}) hc hl hR u rfl rfl hn pf
 have hrb:r.b<k':=by
  rcases hk with e | e;exact h.top.2 _ e;obtain⟨_,_,_,_,e2,_⟩:=h.loc;omega
 exact⟨h.lt,apE h.le u.1,h1,h.zl,⟨⟨c,rfl,hlen,lD⟩,rfl,hrb,h2⟩,⟨.inl ⟨rfl,by rw[aI],.inl rfl⟩,λi e=>by cases e⟩⟩
def BC.step{k:Nat}{R:List Rec}{z' tl':Η}(h:BC O B k R z tl)(u:Kp O O' S)(hS:∀x∈S,x=k\/O.hp x=φ .tok)(hc:O'.hp k=φ (.cells (qW R z'++tl')))(hz:Ζ z'=4):BC O' B k R z' tl':=by
 have hS2:GZ O S:=λx hx j t n e=>by
  rcases hS x hx with e2 | e2;subst e2;rw[h.cells]at e;cases e;rw[e2]at e;cases e
 have hn:∀{i:Nat},(∃cs,O.hp i=φ (.cells cs))->i≠k->i ∉ S:=λ{i} ⟨cs,e⟩ hne hm=>by
  rcases hS i hm with e2 | e2;exact hne e2;rw[e2]at e;cases e
 refine⟨h.lt,apE h.le u.1,hc,hz,h.chain.kp u hS2 (λr _ hr=>?_) h.lt,?_⟩;by_cases e:r.b=k;exact .inl e;exact .inr (hn (hr.resolve_left e) e)
 ·have ht:=h.top;cases R with
  | nil=>trivial
  | cons r R=>exact⟨ht.1.kp u hS2 (λi e=>hn (ht.1.YD e) (by have:=(ht.1.lo e).1;have:=h.lt;omega)),ht.2⟩
def Kp.set{k:Nat}{x:bO}:Kp O (O.set k x) [k]:=⟨an5 _,λi _ hn=>τ _ _ (by simpa using hn)⟩
def Kp.refl :Kp O O S:=⟨an5 _,λ_ _ _=>rfl⟩
def Kp.trans(h:Kp O O1 S)(k:Kp O1 O2 T):Kp O O2 (S++T):=⟨apE h.1 k.1,λi hi hn=>by
 rw[an4,not_or]at hn;rw[k.2 i (aev hi h.1) hn.2,h.2 i hi hn.1]⟩
def Kp.ge(h:O.Ge O1) :Kp O O1 S:=⟨h.N,λi hi _=>h.hp i hi⟩
def Kp.bQ{q:ϑ}(h:aL O q O1):Kp O O1 q.toList:=⟨h.N,λi hi hn=>h.hp i hi λe=>hn (by rw[e];simp)⟩
def Kp.k(h:dR tk O O1):Kp O O1 (Tok.id tk).toList:=⟨h.N,λi hi hn=>h.hp i hi λe=>hn (by rw[e];simp)⟩
def Kp.sub(h:Kp O O1 S)(hs:∀x∈S,x∈T\/O.N<=x):Kp O O1 T:=⟨h.1,λi hi hn=>h.2 i hi λhm=>by
 rcases hs i hm with e | e;exact hn e;omega⟩
def BC.ge{k:Nat}{R:List Rec}(h:BC O B k R z tl)(g:O.Ge O'):BC O' B k R z tl:=
 h.step (S:=[]) (Kp.ge g) (λx hx=>by cases hx) ((g.hp _ (aev h.lt h.le)).trans h.cells) h.zl
def uo(R:List Rec)(tk:Tok)(dj:Nat)(dn tx:Bool):Η:=[.l (Ζ R) (jy R) tk,mi dj,mb dn,mb tx]
structure BS(O:VH)(B k:Nat)(R:List Rec)(tk:Tok)(dj:Nat)(dn tx:Bool)(z:Η):Prop where
 c:BC O B k R z (uo R tk dj dn tx)
 a:App O B 1 tk
def BS.ge{k:Nat}{R:List Rec}(h:BS O B k R tk dj dn tx z)(g:O.Ge O'):BS O' B k R tk dj dn tx z:=⟨h.c.ge g,h.a.ge g⟩
def eQ(k:Nat)(R:List Rec)(tk:Tok):Τ:=k::(R.map (·.b)++(R.head?.bind λr=>gid r.q).toList++(Tok.id tk).toList)
def p9{k:Nat}{R:List Rec} :k∈eQ k R tk:=by simp[eQ]
def wh{k:Nat}{r:Rec}{R:List Rec} :r.b∈eQ k (r::R) tk:=by simp[eQ]
def rE{k x:Nat}{r:Rec}{R:List Rec}(h:gid r.q=φ x):x∈eQ k (r::R) tk:=by simp[eQ,h]
def Qt{k x:Nat}{R:List Rec}(h:Tok.id tk=φ x):x∈eQ k R tk:=by simp[eQ,h]
def Hq{k:Nat}{r:Rec}{R:List Rec}(h:r∈R):r.b∈eQ k R tk:=by
 have:=List.mem_map_of_mem (f:=λr:Rec=>r.b) h;simp only[eQ,aja,an4];exact .inr (.inl (.inl this))
def Kp.more(h:Kp O O1 U)(k:Kp O1 O2 S)(hs:∀x∈S,x∈U\/O.N<=x):Kp O O2 U:=⟨apE h.1 k.1,λi hi hn=>by
 rw[k.2 i (aev hi h.1) (λhm=>(hs i hm).elim hn λe=>Λ),h.2 i hi hn]⟩
def aJ:=Rn eJ<|Rn aqA<|Rn aqz<|Rn aav<|Rn aaw ql
def vj{l:Η}(h:Ζ l=4):∃a b c d,l=[a,b,c,d]:=by
 match l,h with
 | [a,b,c,d],_=>exact⟨_,_,_,_,rfl⟩
def App.F9{k:Nat}{x:bO}(h:App O B sz tk)(hk:k<B):App (O.set k x) B sz tk:=by
 cases tk with
 | own t j=>exact⟨h.1,(τ _ _ (by have:=h.2.2.1;omega)).trans h.2.1,h.2.2.1,h.2.2.2⟩
 | nil=>trivial
 | full=>trivial
 | av=>exact h.elim
def BS.flag{k cnt':Nat}{R:List Rec}{dn' tx':Bool}(h:BS O B k R tk dj dn tx z):BS (O.set k (.cells (qW R z++uo R tk cnt' dn' tx'))) B k R tk cnt' dn' tx' z:=
 ⟨h.c.step Kp.set (λx hx=>.inl z23) (υ _ _ _) h.c.zl,h.a.F9 h.c.lt⟩
def agW{k:Nat}{R:List Rec}(h:BS O B k R tk dj dn tx z)(hc:dj<=1000000):
  VF Ε 247 [.p k 0] O (aC λm O'=>m=mb (decide (dj+1<=4096))/\BS O' B k R tk (dj+1) dn tx z/\Kp O O' [k]):=by
 have hk:=h.c.cells;obtain⟨a0,a1,a2,a3,hr⟩:=vj (gj R z h.c.zl);have tG:=h.flag (cnt':=dj+1) (dn':=dn) (tx':=tx);unfold uo at hk tG;rw[hr]at hk tG;simp only[aq,bg,ai9,ai_]at hk tG;refine χ 15 [.tmp 2] func247 ?_;by_cases h1:dj+1<=4096;rw[decide_eq_true h1];refine ak aJ hk ?_;exact⟨tG,Kp.set⟩;rw[decide_eq_false h1];refine ak aJ hk ?_;exact⟨tG,Kp.set⟩
def Ju{k:Nat}{r:Rec}{R:List Rec}(h:BS O B k (r::R) tk dj dn tx z)(hl:Ζ R<=1000:=by omega):
  VF Ε 220 [.p k 0] O (aC λm O'=>m= .p r.b r.off/\O'=O):=by
 have hk:=h.c.cells;obtain⟨a0,a1,a2,a3,hr⟩:=vj (gj (r::R) z h.c.zl);unfold uo at hk;rw[hr]at hk
 have bh:(jy (r::R))[Ζ R]?=φ (.p r.b r.off):=by
  rw[yO,an6 (by rw[nw];exact an5 _),nw,Nat.sub_self];rfl
 have hCl:(jy (r::R)).length=Ζ R+1:=by rw[nw];rfl
 generalize jy (r::R)=C at*;simp only[aq,bg,List.cons_append,List.nil_append,List.length_cons]at hk;have v8:(((Ζ R+1:Nat):Int) - 1)=(Ζ R:Int):=Λ
 refine ω 15 [.tmp 2] func220 ?_;refine κ aJ ?_;refine Δ ?_;refine WC.reads ?_;refine gy aJ hk v8 bh @iG ?_;refine ν aJ ?_;trivial
def ur(R:List Rec):List (Bs×List (Bs×Bs)×List Nd):=R.map λr=>(r.name,r.attrs,r.kids)
def tH(n dj:Nat)(dn:Bool):Option Int:=if dn then φ 16 else if 64<=n then φ 2 else if 4096<dj+1 then φ 2 else Β
def VH.set_comm{x y:bO}(h:a≠b):(O.set a x).set b y=(O.set b y).set a x:=by
 have key:bQ (bQ O.hp a (φ x)) b (φ y)=bQ (bQ O.hp b (φ y)) a (φ x):=by
  (funext j);by_cases e:j=a
  ·subst e;rw[az _ _ h,aR,aR]
  ·by_cases e2:j=b;subst e2;rw[aR,az _ _ e,aR];rw[az _ _ e2,az _ _ e,az _ _ e,az _ _ e2]
 unfold VH.set;dsimp only;rw[key]
section
variable{G H:Gh}{n:Sz}{D:List Deferred}{e:Env}{a:Act}{P:Program}{tab:cB}{O O':VH}{w:World}{m:MV}{ops:Array Oper}{Q:VQ}
def bR.al9{l:ϕ}{o:Oper}(ho:l[i]?=φ o)(hr:Region.ready .any ⟨l⟩ listed=[i])(hb:brk.contains i=γ)(hA:KK o.op=Α)
  (hg:aK ⟨l⟩ o e=φ Α) (hy:∀G a w,WR G O w->FR G n D e a->dW P o a w G m O') (hd:bj n o.dst=Α) (h:bR P n D ⟨l⟩ brk fuel (listed.setIfInBounds i Α) (aU o.dst m e) O' Q):bR P n D ⟨l⟩ brk (fuel+1) listed e O Q:=by
 intro G a w hw aY;refine kc hr z10 λj hj=>?_
 obtain rfl:j=i:=by simpa using hj
 obtain⟨nx,w',H,u,cD,oa,h1,h2,h3,h4⟩:=hy G a w hw aY;have Lj:(⟨l⟩:Array Oper)[j]?=φ o:=by simpa using ho
 simp only[wpOp,Lj,bz aY hg,if_true];refine .inl ?_;unfold Oper.wp;rw[cD];have hk:=h H (a.put o.dst u) w' h2 ((aY.mono h1).aU hd h3)
 have RG:TH brk G w j w'/\jI P .any ⟨l⟩ (cU G n D Q) (TH brk G w) fuel (listed.setIfInBounds j Α) (a.put o.dst u) w':=by
  have r4:=h4 hA;have hs:Sx G w w':=⟨SS.le h1 h2.ss,r4⟩;refine⟨λ_=>hs,jf (λ_ _ _=>cU.le h1) _ _ _ _ (λk _ x hT Gw=>?_) hk⟩;obtain⟨g1,g2⟩:=hT Gw;exact⟨SS.le h1 g1,λk' b rU=>(g2 k' b (h1.cJ rU)).trans (r4 k' b rU)⟩
 rcases oa with rfl | ⟨rfl,rfl⟩<;>exact RG
end
def agX{n:Sz}{a:Act}{w:World}{d:Option Tmp}{ty:TypeId}(hw:WR G O w)(hf:FR G n D e a):dW Ε (.mk d (.buildSlice 119 1 #[(0,.const (.agg #[.string ⟨⟨[]⟩⟩,.slice Β 0 0,.slice Β 0 0,.string ⟨⟨[]⟩⟩]))]) ty ps af g) a w G (.l 1 [.s [],.l 0 [] .nil,.l 0 [] .nil,.s []] .full) O:=
 dW.of (wD (t:=119) (len:=1) (m:=.l 1 [.s [],.l 0 [] .nil,.l 0 [] .nil,.s []] .full) (parts:=[(0,.agg [.s [],.l 0 [] .nil,.l 0 [] .nil,.s []])]) (ps:= #[(0,.agg #[.string ⟨⟨[]⟩⟩,.slice Β 0 0,.slice Β 0 0,.string ⟨⟨[]⟩⟩])]) aa hw z11 rfl
  (aX.cons (.agg (us:=[.string ⟨⟨[]⟩⟩,.slice Β 0 0,.slice Β 0 0,.string ⟨⟨[]⟩⟩]) rfl (aX.cons .s (aX.cons .slnil (aX.cons .slnil (aX.cons .s aX.nil)))).2) aX.nil)) (by simp[execOp,Act.eval])
def al_(L sp:Η)(x y z w a b c d:MV):((((L++[x,y,z,w]++sp).set (Ζ L) a).set (Ζ L+1) b).set (Ζ L+1+1) c).set (Ζ L+1+1+1) d=L++[a,b,c,d]++sp:=by
 induction L with
 | nil=>rfl
 | cons e L ih=>
   simp only[ai9,abT,List.set_cons_succ];rw[ih]
def App.YE(h:App O B sz tk)(u:Kp O O' S)(hS:∀x∈S,O.hp x≠φ .tok):App O' B sz tk:=by
 cases tk with
 | own t k=>exact⟨h.1,(u.2 t h.2.2.2 (λhm=>hS t hm h.2.1)).trans h.2.1,h.2.2.1,aev h.2.2.2 u.1⟩
 | nil=>trivial
 | full=>trivial
 | av=>exact h.elim
def aaP(h:GR O 121 4 B p n L):ra (iv Ε) 119 p=φ (.v (Ι Κ n)):=by
 rcases h with⟨rfl,_,rfl | rfl⟩ | ⟨k,c,rfl,_⟩;exact CE ql;exact CE ql;exact Ml ql
def agY{k:Nat}{R:List Rec}(h:BS O B k R tk dj dn tx z)(hc:dj<=1000000)(kd:Int)(nm tt:Bs)(hH:List (Bs×Bs))(p1 p2 p3:Int)(Nz:Ζ hH<=100000)(j6:∀r∈R,Ζ r.kids<=1000000):
  VF Ε 218 [.p k 0,.agg [mi kd,.s nm,.l (Ζ hH) (hH.flatMap bp) .av,.s tt,mi p1,mi p2,mi p3]] O (aC λm O'=>Kp O O' (eQ k R tk)/\match tH (Ζ R) dj dn with
   | some e=>m=mi e
   | none=>m=mi 0/\∃R' tk',BS O' B k R' tk' (dj+1) γ γ z/\ur R'=(nm,hH,[])::ur R/\∀x∈eQ k R' tk',x∈eQ k R tk\/O.N<=x):=by
 obtain⟨a0,a1,a2,a3,hr⟩:=vj (gj R z h.c.zl);have lC:=h.c.lt;have hBn:=h.c.le;simp only[aq];refine ω 87 [.tmp 4] func218 ?_;refine κ aJ ?_;refine VC.bx ?_;rintro O1 ⟨aM,G1,dq⟩;have h1:=h.ge aM;have du:=h1.c.cells;unfold uo at du;rw[hr]at du;simp only[aq,bg,ai9,ai_]at du;have jZ:Kp O O1 (eQ k R tk):=Kp.ge aM;have B3:∀x∈[k],x∈eQ k R tk\/O.N<=x:=λx hx=>.inl z42
 cases dn;rotate_left;refine ξ aJ du ?_;exact⟨jZ,rfl⟩;by_cases BK:64<=Ζ R
 ·(have hE:tH (Ζ R) dj γ=φ 2:=by unfold tH;rw[if_neg z10,if_pos BK]);rw[hE];refine ξ aJ du ?_;exact jZ
 refine ξ aJ du ?_;refine π (agW h1 hc) ?_;rintro _ O2 ⟨rfl,h2,dZ⟩;by_cases GI:dj+1<=4096;rotate_left
 ·(have hE:tH (Ζ R) dj γ=φ 2:=by unfold tH;rw[if_neg z10,if_neg BK,if_pos Λ]);rw[hE,decide_eq_false GI];refine ae aJ ?_;exact jZ.more dZ B3
 have hE:tH (Ζ R) dj γ=Β:=by unfold tH;rw[if_neg z10,if_neg BK,if_neg Λ]
 rw[hE,decide_eq_true GI];dsimp only;refine ae aJ ?_;have YF:Kp O O2 (eQ k R tk):=jZ.more dZ B3;have BI:=(dZ.2 _ Λ z43).trans G1;have eG:=dZ.1;refine ξ aJ BI ?_;refine VC.al ?_;rintro O3 ⟨aB,eH,ea⟩;have h3:=h2.ge aB;have dA:=h3.c.cells;have Jv:Kp O O3 (eQ k R tk):=YF.more (Kp.ge aB (S:=[])) (λx hx=>by cases hx);have hR:Ζ R<64:=Λ
 cases R with
 | nil=>
   obtain rfl:z=[a0,a1,a2,a3]:=hr;unfold uo at dA;simp only[qW,jy,List.map_nil,List.reverse_nil,ai8,aq,bg,ai9,ai_]at dA;refine θ (aF aJ dA eH ?_);refine VC.gen ?_;intro O4 Au;((((((((have fJ:O4.hp k=φ (.cells [.s nm,.l (Ζ hH) (hH.flatMap bp) .av,.l 0 [] .nil,.s [],.l 0 [] tk,.v (Ι Κ (dj+1:Nat)),.v (.bool γ),.v (.bool tx)]):=by rw[Au];exact υ _ _ _);have jx:App O4 B 1 tk:=by rw[Au];exact h3.a.F9 lC);have fe:O4.N=O3.N:=by rw[Au];rfl);have aoU:Kp O O4 (eQ k [] tk):=Jv.more (S:=[k]) (by rw[Au];exact Kp.set) B3;clear Au;refine WC.bM (.held [12]) [(0,.rd),(1,.rd),(2,.rd),(3,.rd),(4,.rd),(5,.rd),(6,.rd),(7,.rd),(8,.one),(9,.one),(10,.one),(11,.rd),(12,.one)] ?_;refine ak aJ fJ ?_;have cQ:=bE (tk':=.full) (n:=0) (k:=1) (cs:=[]) (ds:=[.p k 0]) aav aaw jx rfl rfl rfl z12 z12 z12 z12;refine VL.app cQ ?_;have i_:=VH.uG jx fJ;have ie:=VH.fL O4 tk;have e_:App (O4.after tk) B 1 (.own O4.N 1):=App.after;have B4:Kp O (O4.after tk) (eQ k [] tk):=aoU.more (Kp.k (dR.after jx)) (λx hx=>.inl (Qt z23));generalize O4.after tk=O5 at*;refine ak aJ i_ ?_;refine VC.gen ?_;intro O6 Qj;have qP:O6.hp k=φ (.cells [.s nm,.l (Ζ hH) (hH.flatMap bp) .av,.l 0 [] .nil,.s [],.l 1 [.p k 0] (.own O4.N 1),.v (Ι Κ (dj+1:Nat)),.v (.bool γ),.v (.bool tx)]):=by rw[Qj];exact υ _ _ _);have Aw:App O6 B 1 (.own O4.N 1):=by rw[Qj];exact e_.F9 lC);have YG:Kp O O6 (eQ k [] tk):=B4.more (S:=[k]) (by rw[Qj];exact Kp.set) B3;have mQ:O6.N=O5.N:=by rw[Qj];rfl);clear Qj;refine ξ aJ qP ?_;refine ν aJ ?_;refine⟨YG.more Kp.set B3,[⟨k,0,nm,hH,[],.l 0 [] .nil⟩],.own O4.N 1,⟨⟨lC,by rw[auR];omega,?_,rfl,⟨rfl,rfl⟩,⟨.inl ⟨rfl,by rw[aI],.inl rfl⟩,(λi e=>by cases e)⟩⟩,Aw.F9 lC⟩,rfl,λx hx=>?_⟩);rw[υ];rfl);have hx:x∈[k,k,O4.N]:=hx;simp only[aja,an3,or_false]at hx;rcases hx with rfl | rfl | rfl;exact .inl p9;exact .inl p9;exact .inr Λ
 | cons r R=>
   unfold uo at dA;rw[hr]at dA;simp only[aq,bg,ai9,ai_,abT]at dA;obtain⟨pre,post,en,cz,F_,G2,hR2⟩:=h3.c.loc;have jE:=h3.c.top;refine ξ aJ dA ?_;refine Ω (Ju h3 (by rw[abT]at hR;omega)) ?_;refine ae aJ ?_;have hkr:=j6 r z10
   have T6:(pre++j8 r++post)[r.off+2]?=φ r.q:=by
    rw[an2,an6 Λ, <-cz,apF];rfl
   have jD:∀q',(pre++j8 r++post).set (r.off+2) q'=pre++j8 {r with q:=q'}++post:=λq'=>by
    rw[an2,aup _ _ Λ, <-cz,apF,an2];rfl
   (have hlC:(pre++j8 r++post).length=Ζ pre+4+Ζ post:=by simp[yN];omega);generalize hC:pre++j8 r++post=C at*;refine VC.Pe [7,8,9,10,11,12] z11 ?_;refine bR.EC 0 ?_;refine ae aJ ?_;refine bR.EC 1 ?_;refine ae aJ ?_;refine bR.EC 2 ?_;refine ae aJ ?_;refine bR.EC 3 ?_;refine aF aJ en T6 ?_;refine bR.EC 4 ?_;refine ak aJ eH ?_;have sK:=aaP jE.1;refine bR.EC 5 ?_;refine ak aJ sK ?_;refine bR.al9 (i:=6) rfl z11 z11 rfl rfl (λ_ _ _ hw hf=>agX hw hf) rfl ?_;simp only[ag];refine bR.fin z11 ?_;refine cf.st (i:=7) rfl z11 rfl rfl (Yj aa (te:=⟨_,4,80,_⟩) (dx:=.slice 121) (q:=.l 1 [.s [],.l 0 [] .nil,.l 0 [] .nil,.s []] .full) (j:=1) (ds:=[.s [],.l 0 [] .nil,.l 0 [] .nil,.s []]) jE.1 rfl rfl (by rw[ql];rfl) wK.1.1 (by rw[ql];rfl) trivial z18 z13 Λ rfl rfl) ?_;rintro m O4 ⟨ox,kF,bK,hm⟩
   obtain⟨k2,c2,rfl,bC⟩:∃k2 c2,m= .bk k2 0 (Ζ r.kids+1) c2/\(gid r.q=φ k2\/O3.N<=k2):=by
    rcases hm with⟨k2,c2,h1,h2⟩ | ⟨h1,_⟩;exact⟨k2,c2,h1,h2.imp id And.left⟩;cases h1
   obtain⟨ca,xf⟩:Row O4 121 4 B k2 c2 (aI r.kids++[.s [],.l 0 [] .nil,.l 0 [] .nil,.s []])/\(Ζ r.kids)+1<=c2:=by
    rcases ox with⟨h1,_⟩ | ⟨k3,c3,h1,h2,_,h4⟩;omega;injection h1 with h1 _ _ h3;subst h1;subst h3;exact⟨h4,h2⟩
   have agZ:r.b<k2:=by
    rcases bC with e | e;exact jE.2 _ e;omega
   have ara:=kF.N;have ff:O4.hp r.b=φ (.cells C):=(kF.hp _ F_ (λe=>by have:=jE.2 _ e;omega)).trans en;obtain⟨sp,B5,GQ⟩:=ca.cells;simp only[ag];have Am:=dN r.kids
   have B6:∀a b c d:MV,((((aI r.kids++([.s [],.l 0 [] .nil,.l 0 [] .nil,.s []]:Η)++sp).set ((Ζ r.kids)*4) a).set ((Ζ r.kids)*4+1) b).set ((Ζ r.kids)*4+1+1) c).set ((Ζ r.kids)*4+1+1+1) d=aI r.kids++[a,b,c,d]++sp:=λa b c d=>by
    rw[<-Am];exact al_ _ _ _ _ _ _ _ _ _ _
   generalize Rx:aI r.kids++[.s [],.l 0 [] .nil,.l 0 [] .nil,.s []]++sp=C2 at*;refine cf.My 8 ?_;refine ae aJ ?_;refine cf.My 10 ?_;refine ae aJ ?_;refine cf.My 11 ?_;refine ae aJ ?_;refine cf.meet [9,12] [0,6] (λ_:Unit=>[.p k 0,.p r.b r.off]) (λ_ O5=>O5=(O4.set k2 (.cells (aI r.kids++j8 ⟨k2,(Ζ r.kids)*4,nm,hH,[],.l 0 [] .nil⟩++sp))).set r.b (.cells (pre++j8 {r with q:=.bk k2 0 (Ζ r.kids+1) c2}++post))) 0 ?_ ?_;intro K9;refine cf.two (i:=9) (j:=12) z11 ?_ ?_;refine aQ.o1 ?_;refine aF aJ B5 B6 ?_;refine cf.aaI (i:=12) ?_;refine aF aJ ff jD ?_;exact K9 () _ _ _ rfl z11 rfl;refine aQ.o1 ?_;refine aF aJ ff jD ?_;refine cf.aaI (i:=9) ?_;refine aF aJ B5 B6 ?_;exact K9 () _ _ _ (VH.set_comm Λ) z11 rfl;rintro _ O5 rF;refine cf.bM [] ?_;((((have ie:O5.N=O4.N:=by rw[rF];rfl);have fY:O5.hp r.b=φ (.cells (pre++j8 {r with q:=.bk k2 0 (Ζ r.kids+1) c2}++post)):=by rw[rF];exact υ _ _ _);have Jw:O5.hp k2=φ (.cells (aI r.kids++j8 ⟨k2,(Ζ r.kids)*4,nm,hH,[],.l 0 [] .nil⟩++sp)):=by rw[rF];exact Θ (υ _ _ _));have u4:Kp O4 O5 [k2,r.b]:=by rw[rF];exact Kp.trans (S:=[k2]) (T:=[r.b]) Kp.set Kp.set);clear rF
   have hS4:GZ O4 [k2,r.b]:=λx hx j t n e=>by
    simp only[aja,an3,or_false]at hx;rcases hx with rfl | rfl;rw[B5]at e;cases e;rw[ff]at e;cases e
   have aoV:Row O5 121 4 B k2 c2 (aI r.kids++j8 ⟨k2,(Ζ r.kids)*4,nm,hH,[],.l 0 [] .nil⟩):=ca.own u4 hS4 Jw (by rw[<-GQ, <-Rx];simp[yN];omega)
   have u3:Kp O3 O5 (r.b::(gid r.q).toList):=((Kp.bQ kF).trans u4).sub (λx hx=>by
    simp only[an4,aja,an3,or_false]at hx ⊢;rcases hx with hx | hx | hx;exact .inl (.inr hx);rcases bC with e | e;rw[e];simp[hx];exact .inr Λ;exact .inl (.inl hx))
   have tI:∀x∈r.b::(gid r.q).toList,x=r.b\/gid r.q=φ x:=λx hx=>by
    rcases aja.1 hx with e | e;exact .inl e;exact .inr (by simpa using e)
   have hBC:BC O5 B k _ z (uo (r::R) tk (dj+1) γ tx):=h3.c.push (by rw[hC];exact en) cz (λe=>(G2 e).2.2) u3 tI fY bC xf aoV
   have e_:App O5 B 1 tk:=by
    refine h3.a.YE u3 λx hx e=>?_
    rcases tI x hx with e2 | e2;subst e2;rw[en]at e;cases e;obtain⟨cs,e3⟩:=jE.1.YD e2;rw[e3]at e;cases e
   have B4:Kp O O5 (eQ k (r::R) tk):=Jv.more u3 (λx hx=>by
    rcases tI x hx with e | e;rw[e];exact .inl wh;exact .inl (rE e))
   obtain⟨b0,b1,b2,b3,oZ⟩:=vj (gj (⟨k2,(Ζ r.kids)*4,nm,hH,[],.l 0 [] .nil⟩::{r with q:=.bk k2 0 (Ζ r.kids+1) c2}::R) z h.c.zl);have i_:=hBC.cells;unfold uo at i_;rw[oZ]at i_;have hP:=nw (r::R);generalize hPG:jy (r::R)=PT at*;simp only[aq,bg,ai9,ai_,abT]at i_ hP
   have arb:(pre++j8 {r with q:=.bk k2 0 (Ζ r.kids+1) c2}++post)[r.off+2]?=φ (.bk k2 0 (Ζ r.kids+1) c2):=by
    rw[an2,an6 Λ, <-cz,apF];rfl
   generalize pre++j8 {r with q:=.bk k2 0 (Ζ r.kids+1) c2}++post=C5 at*;have v8:(((Ζ r.kids+1:Nat):Int) - 1)=(Ζ r.kids:Int):=Λ;refine ae aJ ?_;refine WC.bM (.held [20]) [(0,.rd),(1,.rd),(2,.rd),(3,.rd),(4,.rd),(5,.rd),(6,.rd),(7,.rd),(8,.rd),(9,.rd),(10,.rd),(11,.rd),(12,.rd),(13,.rd),(14,.rd),(15,.rd),(16,.one),(17,.one),(18,.one),(19,.rd),(20,.one)] ?_;refine Em aJ i_ fY arb v8 @iG ?_;have cQ:=bE (tk':=.full) (n:=Ζ R+1) (k:=1) (cs:=PT) (ds:=[.p k2 ((Ζ r.kids)*4)]) aav aaw e_ (by rw[hP,auu]) rfl rfl z12 z12 (by simp only[abT]at hR;omega) (by simp only[abT,maxLen]at hR ⊢;omega);refine VL.app cQ ?_;have qP:=VH.uG e_ i_;have mQ:=VH.fL O5 tk;have Aw:App (O5.after tk) B 1 (.own O5.N 1):=App.after;have u6:Kp O5 (O5.after tk) (Tok.id tk).toList:=Kp.k (dR.after e_)
   have fP:∀x∈(Tok.id tk).toList,O5.hp x=φ .tok/\B<=x:=λx hx=>by
    have e:Tok.id tk=φ x:=by simpa using hx
    cases tk with
    | own s j=>injection e with e;subst e;exact⟨e_.2.1,e_.2.2.1⟩
    | _=>cases e
   have YG:Kp O (O5.after tk) (eQ k (r::R) tk):=B4.more u6 (λx hx=>.inl (Qt z23));have arc:BC (O5.after tk) B k _ z _:=hBC.step (tl':=[.l (Ζ R+1) PT tk,mi (dj+1:Nat),mb γ,mb tx]) u6 (λx hx=>.inr (fP x hx).1) (by rw[oZ];exact qP) h.c.zl;generalize O5.after tk=O6 at*;refine ak @aJ @qP ?_;refine VC.gen ?_;intro O7 Jg;(((((have At:O7.hp k=φ (.cells [b0,b1,b2,b3,.l (Ζ R+1+1) (PT++[.p k2 ((Ζ r.kids)*4)]) (.own O5.N 1),.v (Ι Κ (dj+1:Nat)),.v (.bool γ),.v (.bool tx)]):=by rw[Jg];exact υ _ _ _);have G3:App O7 B 1 (.own O5.N 1):=by rw[Jg];exact Aw.F9 lC);have aoW:Kp O O7 (eQ k (r::R) tk):=YG.more (S:=[k]) (by rw[Jg];exact Kp.set) B3;have sk:O7.N=O6.N:=by rw[Jg];rfl);have ard:BC O7 B k _ z [.l (Ζ R+1+1) (PT++[.p k2 ((Ζ r.kids)*4)]) (.own O5.N 1),.v (Ι Κ (dj+1:Nat)),.v (.bool γ),.v (.bool tx)]:=arc.step (S:=[k]) (by rw[Jg];exact Kp.set) (λx hx=>.inl z23) (by rw[oZ];exact At) h.c.zl;clear Jg;refine ξ aJ At ?_;refine ν aJ ?_;refine⟨aoW.more Kp.set B3,⟨k2,(Ζ r.kids)*4,nm,hH,[],.l 0 [] .nil⟩::{r with q:=.bk k2 0 (Ζ r.kids+1) c2}::R,.own O5.N 1,⟨ard.step (S:=[k]) Kp.set (λx hx=>.inl z23) ?_ h.c.zl,G3.F9 lC⟩,rfl,λx hx=>?_⟩;rotate_left);have hx:x∈k::((k2::r.b::R.map (·.b))++[]++[O5.N]):=hx;simp only[aja,an4,asl,an3,or_false,aul]at hx;rcases hx with rfl | (rfl | rfl | ⟨g,hg,rfl⟩) | rfl;exact .inl p9;rcases bC with e | e;exact .inl (rE e);exact .inr Λ;exact .inl wh;exact .inl (Hq (atM _ hg));exact .inr Λ);rw[υ,oZ, <-hPG];have e:jy (⟨k2,(Ζ r.kids)*4,nm,hH,[],.l 0 [] .nil⟩::{r with q:=.bk k2 0 (Ζ r.kids+1) c2}::R)=jy (r::R)++[.p k2 ((Ζ r.kids)*4)]:=yO _ _;unfold uo;rw[e];rfl
def Rec.nd(r:Rec):Nd:=.mk r.name r.attrs r.kids []
def qU.head{k:Nat}{p:Rec}{R:List Rec}{K:List Nd}(h:qU O B k (p::R)):qU O B k ({p with kids:=K}::R):=by
 cases R with
 | nil=>exact h
 | cons g R=>exact h
def T7{p:Rec}{R:List Rec}{K:List Nd}:qW ({p with kids:=K}::R) z=qW (p::R) z:=by
 cases R with
 | nil=>rfl
 | cons g R=>rfl
def T8(r:Rec):List Rec->List Rec
 | []=>[]
 | p::R=>{p with kids:=p.kids++[r.nd]}::R
def T_(r:Rec)(z:Η):List Rec->Η
 | []=>eb r.nd
 | _::_=>z
def BC.pop{k:Nat}{r:Rec}{R:List Rec}(h:BC O B k (r::R) z tl)(hc:O.hp r.b=φ (.cells (pre++j8 r++post)))(hl:Ζ pre=r.off)(hR:R=[]->post=tl)(u:Kp O O' S)
  (hn:∀x∈S,x=r.b\/gid r.q=φ x) (pf:O'.hp r.b=φ (.cells (pre++eb r.nd++post))):BC O' B k (T8 r R) (T_ r z R) tl:=by
 have GV:=h.chain;have bI:=GV.lt;have jE:=h.top
 have hS:GZ O S:=λx hx j t n e=>by
  rcases hn x hx with e2 | e2;subst e2;rw[hc]at e;cases e;obtain⟨cs,e3⟩:=jE.1.YD e2;rw[e3]at e;cases e
 cases R with
 | nil=>
   obtain⟨h1,h2⟩:=GV;have hp:pre=[]:=an7 (by rw[hl,h2]);subst hp;refine⟨h.lt,apE h.le u.1,?_,m4 _,trivial,trivial⟩;rw[<-h1,pf,hR rfl];rfl
 | cons p rest=>
   obtain⟨⟨c,e1,e2,lD⟩,e3,e4,e5⟩:=GV;have aq_:=lD.lo
   have hkS:k ∉ S:=λhm=>by
    have:=h.lt;rcases hn k hm with e | e;omega;have:=(jE.1.lo e).1;omega
   obtain⟨sp,sN,GN⟩:=lD.cells;rw[hc]at sN;injection sN with sN;injection sN with sN;((((have cz:Ζ pre=(aI p.kids).length:=by rw[hl,e3,dN]);rw[an2,an2]at sN;obtain⟨rT,yC⟩:=aur sN cz;obtain⟨_,qx⟩:=aur yC rfl;subst rT;subst qx);have hlen:(p.kids++[r.nd]).length=Ζ p.kids+1:=by simp);refine⟨h.lt,apE h.le u.1,?_,h.zl,(e5.kp u hS (λx hx _=>?_) h.lt).head,⟨.inr ⟨r.b,c,?_,?_,?_,?_⟩,λi e=>?_⟩⟩);show _=φ (bO.cells (qW ({p with kids:=p.kids++[r.nd]}::rest) z++tl));rw[T7,u.2 k (aev h.lt h.le) hkS];exact h.cells
   ·refine .inr λhm=>?_
    have h6:=bI x hx;rcases hn x.b hm with e | e;omega;have:=jE.2 _ e;omega
   ·show p.q=_;rw[e1,hlen]
   ·rw[hlen];exact e2
   ·show(aI (p.kids++[r.nd])).length=_;rw[dN]
   ·show Row O' _ 4 B r.b c (aI (p.kids++[r.nd]));(have e6:aI (p.kids++[r.nd])=aI p.kids++eb r.nd:=by rw[eZ,aI,aI,asl]);rw[e6];refine lD.own u hS pf ?_;rw[TR,TR,yN]at GN;rw[TR,TR,m4];exact GN
   ·have e:gid p.q=φ i:=e;rw[e1]at e;injection e with e;subst e;exact e4
def fw.app{a b c d:Η}(h:fw a b)(k:fw c d):fw (a++c) (b++d):=by
 refine⟨by rw[TR,TR,h.1,k.1],λi x y hx hy=>?_⟩;rw[aug]at hx hy;by_cases e:i<Ζ a;rw[if_pos e]at hx;rw[if_pos (by rw[<-h.1];exact e)]at hy;exact h.2 i x y hx hy;rw[if_neg e]at hx;rw[if_neg (by rw[<-h.1];exact e)]at hy;rw[<-h.1]at hy;exact k.2 _ x y hx hy
def VC.close{k:Nat}{r:Rec}{R:List Rec}{n:Sz}{c:Code}(h:BC O B k (r::R) z tl)(hc:O.hp r.b=φ (.cells (pre++j8 r++post)))
  (hk:∀O1,Kp O O1 (r.b::(gid r.q).toList)->O1.hp r.b=φ (.cells (pre++eb r.nd++post))->VC P n D c e O1 Q):VC P n D c e O Q:=by
 obtain⟨hg,bI⟩:=h.top;have hnd:eb r.nd=[.s r.name,.l (Ζ r.attrs) (r.attrs.flatMap bp) .av,.l (Ζ r.kids) (aI r.kids) .av,.s []]:=by rw[Rec.nd,eb]
 rcases hg with⟨h0,h1,hp⟩ | ⟨kq,cq,hp,hn,hl,lD⟩
 ·refine VC.wkc (ds:=pre++eb r.nd++post) hc ?_ (hk _ (Kp.sub Kp.set (λx hx=>.inl (by simp at hx ⊢;exact .inl hx))) (υ _ _ _));refine((fw.refl pre).app ?_).app (fw.refl post);rw[hnd,j8]
  have hw:Wk r.q (.l (Ζ r.kids) (aI r.kids) .av):=by
   rw[h0,h1];rcases hp with e | e<;>rw[e]<;>exact Wk.tok
  exact(fw.refl [_,_]).app (fw.cons hw (fw.refl _))
 ·obtain⟨sp,h1,h2⟩:=lD.cells;have hne:r.b≠kq:=by have:=bI kq (by rw[hp];rfl);omega
  have e1:pre++j8 r++post=(pre++[.s r.name,.l (Ζ r.attrs) (r.attrs.flatMap bp) .av])++ .bk kq 0 (Ζ r.kids) cq::(.s []::post):=by
   rw[j8,hp];simp
  rw[e1]at hc;refine VC.zV h1 hc hne (sz:=(aI r.kids).length) (by rw[TR];omega) ?_
  have e2:pre++eb r.nd++post=(pre++[.s r.name,.l (Ζ r.attrs) (r.attrs.flatMap bp) .av])++ .l (Ζ r.kids) (aI r.kids) .av::(.s []::post):=by
   rw[hnd];simp
  rw[auD,List.take_left, <-e2];refine hk _ ?_ (υ _ _ _);refine⟨an5 _,λi _ hi=>?_⟩;simp only[hp,gid,aja,Option.toList_some,an3,or_false,not_or]at hi;rw[τ _ _ hi.1,VH.lF _ hi.2]
def aoX(r:Rec)(R:List Rec)(tk:Tok):qi (iv Ε) 316 (.l (Ζ R+1) (jy (r::R)) tk) Β (.v (Ι Κ (Ζ R:Int))) (.v (Ι Κ (Ζ R:Int)))=φ (.l (Ζ R) (jy R) .full):=by
 have hl:=nw (r::R);have hc:=yO r R;have h2:=nw R;rw[hc]at hl ⊢;simp only[qi,aav,aaw,asc,dI];rw[if_pos ⟨Λ,Λ,alp _,an5 _⟩,if_pos ⟨z10,by rw[hl,auu];rfl⟩,if_neg Λ];cases R with
 | nil=>rfl
 | cons p R=>
   rw[if_neg z10];simp only[Int.toNat_natCast,Nat.sub_zero,auu,Nat.zero_mul,auD,if_true];rw[List.take_left' h2]
def akv{k:Nat}{r:Rec}{R:List Rec}(h:BS O B k (r::R) tk dj dn tx z)(PQ:Ζ R<=1000):
  VF Ε 219 [.p k 0] O (aC λ_ O'=>Kp O O' (eQ k (r::R) tk)/\BS O' B k (T8 r R) .full dj (Ζ R==0) γ (T_ r z R)):=by
 obtain⟨pre,post,hc,cz,F_,G2,hR2⟩:=h.c.loc;have jE:=h.c.top;have lC:=h.c.lt;have hBn:=h.c.le;have B3:∀x∈[k],x∈eQ k (r::R) tk\/O.N<=x:=λx hx=>.inl z42
 have hSn:∀x∈r.b::(gid r.q).toList,x=r.b\/gid r.q=φ x:=λx hx=>by
  rcases aja.1 hx with e | e;exact .inl e;exact .inr (by simpa using e)
 refine ω 34 [] func219 ?_;refine VC.close h.c hc λO1 u1 gN=>?_
 have hP:=h.c.pop hc cz (λe=>(G2 e).2.2) u1 hSn gN
 have eo:App O1 B 1 tk:=by
  refine h.a.YE u1 λx hx e=>?_
  rcases hSn x hx with e2 | e2;subst e2;rw[hc]at e;cases e;obtain⟨cs,e3⟩:=jE.1.YD e2;rw[e3]at e;cases e
 have jZ:Kp O O1 (eQ k (r::R) tk):=(Kp.refl (S:=eQ k (r::R) tk)).more u1 (λx hx=>.inl (by
  rcases hSn x hx with e | e;rw[e];exact wh;exact rE e))
 obtain⟨b0,b1,b2,b3,oZ⟩:=vj (gj (T8 r R) (T_ r z R) hP.zl);have du:=hP.cells;unfold uo at du;rw[oZ]at du;have hs3:=aoX r R tk;have qM:=nw (r::R);generalize hPG:jy (r::R)=PT at*;simp only[aq,bg,List.cons_append,List.nil_append,List.length_cons]at du qM;have v8:(((Ζ R+1:Nat):Int) - 1)=(Ζ R:Int):=Λ
 refine Δ ?_;refine WC.bM (.held [20]) [(0,.rd),(1,.rd),(2,.rd),(3,.rd),(4,.rd),(5,.rd),(6,.rd),(7,.rd),(8,.rd),(9,.rd),(10,.rd),(11,.rd),(12,.rd),(13,.rd),(14,.rd),(15,.rd),(16,.rd),(17,.rd),(18,.one),(19,.rd),(20,.one)] ?_;refine gy aJ du v8 @iG hs3 ?_;refine VC.gen ?_;intro O2 Lt;have bC:O2.hp k=φ (.cells [b0,b1,b2,b3,.l (Ζ R) (jy R) .full,.v (Ι Κ dj),.v (.bool dn),.v (.bool tx)]):=by rw[Lt];exact υ _ _ _
 have YF:Kp O O2 (eQ k (r::R) tk):=jZ.more (S:=[k]) (by rw[Lt];exact Kp.set) B3;have qX:BC O2 B k _ _ [.l (Ζ R) (jy R) .full,.v (Ι Κ dj),.v (.bool dn),.v (.bool tx)]:=hP.step (S:=[k]) (by rw[Lt];exact Kp.set) (λx hx=>.inl z23) (by rw[oZ];exact bC) hP.zl;clear Lt
 have tG:∀b,BS ((O2.set k (.cells [b0,b1,b2,b3,.l (Ζ R) (jy R) .full,.v (Ι Κ dj),.v (.bool b),.v (.bool tx)])).set k (.cells [b0,b1,b2,b3,.l (Ζ R) (jy R) .full,.v (Ι Κ dj),.v (.bool b),.v (.bool γ)])) B k (T8 r R) .full dj b γ (T_ r z R):=λb=>by
  refine⟨(qX.step (S:=[k]) (z':=T_ r z R) (tl':=[.l (Ζ R) (jy R) .full,.v (Ι Κ dj),.v (.bool b),.v (.bool tx)]) Kp.set (λx hx=>.inl z23) (by rw[oZ,υ];rfl) hP.zl).step (S:=[k]) Kp.set (λx hx=>.inl z23) ?_ hP.zl,trivial⟩;rw[oZ,υ];cases R with
  | nil=>rfl
  | cons p R=>rfl
 have fX:∀x y,Kp O ((O2.set k x).set k y) (eQ k (r::R) tk):=λx y=>(YF.more Kp.set B3).more Kp.set B3
 cases R with
 | nil=>
   refine ο aJ bC ?_;exact⟨fX _ _,tG _⟩
 | cons p R=>
   refine ο aJ bC ?_;exact⟨fX _ _,tG _⟩
def ad2{k:Nat}{r:Rec}{R:List Rec}(h:BC O B k (r::R) z tl):∀x∈eQ k (T8 r R) .full,x∈eQ k (r::R) tk:=by
 intro x hx;cases R with
 | nil=>
   have hx:x∈[k]:=hx;rw[ahB]at hx;rw[hx];exact p9
 | cons p R=>
   obtain⟨⟨c,e1,_⟩,_⟩:=h.chain;have hx:x∈k::((p.b::R.map (·.b))++(gid p.q).toList++[]):=hx;rw[e1]at hx;simp only[gid,Option.toList_some,aja,an4,asl,an3,or_false,aul]at hx;rcases hx with rfl | (rfl | ⟨g,hg,rfl⟩) | rfl;exact p9;exact Hq z10;exact Hq (by simp[hg]);exact wh
def tK(t:Bs):Nd:=.mk [] [] [] t
def aaQ(t:Bs):eb (tK t)=[.s [],.l 0 [] .av,.l 0 [] .av,.s t]:=by rw[tK,eb,aI];rfl
def Ua{k:Nat}(h:BS O B k [] tk dj dn tx z)(s:Bs)(hs:Ζ s<=maxLen):
  VF Ε 217 [.p k 0,.s s] O (aC λm O'=>m=mi (if trimB s=[]then 0 else 16)/\O'=O):=by
 have hk:=h.c.cells;obtain⟨a0,a1,a2,a3,hr⟩:=vj (gj [] z h.c.zl);unfold uo at hk;rw[hr]at hk;simp only[aq,bg,ai9,ai_,ai8]at hk;refine ω 61 [.tmp 4] func217 ?_;refine κ aJ ?_;refine ξ aJ hk ?_;refine Ω (P8 s _ hs) ?_;cases trimB s with
 | nil=>
   refine ak aJ (show(([]:Ρ)==[])=Α from rfl) ?_;trivial
 | cons c t=>
   refine ak aJ (show((c::t)==[])=γ from rfl) ?_;trivial
def Ub{k:Nat}{r:Rec}{R:List Rec}(h:BS O B k (r::R) tk dj dn tx z)(hR:Ζ R<=1000):
  VF Ε 217 [.p k 0,.s []] O (aC λm O'=>m=mi 0/\O'=O):=by
 have hk:=h.c.cells;have lC:=h.c.lt;have hBn:=h.c.le;obtain⟨a0,a1,a2,a3,hr⟩:=vj (gj (r::R) z h.c.zl);unfold uo at hk;rw[hr]at hk;simp only[aq,bg,ai9,ai_,abT]at hk;refine ω 61 [.tmp 4] func217 ?_;refine κ aJ ?_;refine ξ aJ hk ?_;refine κ aJ ?_;refine Ω (Ju h) ?_;refine ae aJ ?_;refine ξ aJ (show(([]:Ρ)==[])=Α from rfl) ?_;refine ν aJ ?_;trivial
def Uc{k:Nat}{r:Rec}{R:List Rec}(h:BS O B k (r::R) tk dj dn Α z)(hR0:Ζ R<=1000)(s t0:Bs)(K:List Nd)(hs:Ζ s<=1000000000000)(vE:r.kids=K++[tK t0])(ht0:Ζ t0<=1000000000000)(j6:Ζ r.kids<=1000000)(hne:(s==[])=γ):
  VF Ε 217 [.p k 0,.s s] O (aC λm O'=>m=mi 0/\Kp O O' (eQ k (r::R) tk)/\BS O' B k ({r with kids:=K++[tK (t0++s)]}::R) tk dj dn Α z):=by
 have hR:Ζ R<=1000:=hR0;have hk:=h.c.cells;have lC:=h.c.lt;have hBn:=h.c.le;obtain⟨a0,a1,a2,a3,hr⟩:=vj (gj (r::R) z h.c.zl);unfold uo at hk;rw[hr]at hk;simp only[aq,bg,List.cons_append,List.nil_append,List.length_cons]at hk;refine ω 61 [.tmp 4] func217 ?_;refine κ @aJ ?_;refine ξ @aJ @hk ?_;refine κ @aJ ?_;refine Ω (Ju h) ?_;refine ae @aJ ?_;obtain⟨pre,post,hc,cz,F_,G2,hR2⟩:=h.c.loc;have jE:=h.c.top;refine θ (aF @aJ @hne @hk ?_);have hKl:Ζ r.kids=Ζ K+1:=by rw[vE];simp
 obtain⟨kq,cq,hq,xf,ca⟩:∃kq cq,r.q= .bk kq 0 (Ζ K+1) cq/\(Ζ K)+1<=cq/\Row O 121 4 B kq cq (aI r.kids):=by
  rcases jE.1 with⟨h0,_⟩ | ⟨k2,c,hp,h1,_,h2⟩;omega;rw[hKl]at hp h1;exact⟨k2,c,hp,h1,h2⟩
 have hrq:r.b<kq:=jE.2 kq (by rw[hq];rfl);obtain⟨sp,B5,GQ⟩:=ca.cells;have GS:aI r.kids=aI K++[.s [],.l 0 [] .av,.l 0 [] .av,.s t0]:=by rw[vE,eZ,aI,aI,aaQ,asl]
 rw[GS]at B5 GQ;have Am:=dN K
 have bh:(aI K++([.s [],.l 0 [] .av,.l 0 [] .av,.s t0]:Η)++sp)[(Ζ K)*4+3]?=φ (.s t0):=by
  rw[an2, <-Am,an6 Λ,apF];rfl
 have jD:∀m:MV,(aI K++([.s [],.l 0 [] .av,.l 0 [] .av,.s t0]:Η)++sp).set ((Ζ K)*4+3) m=aI K++[.s [],.l 0 [] .av,.l 0 [] .av,m]++sp:=λm=>by
  rw[an2, <-Am,aup _ _ Λ,apF,an2];rfl
 generalize Rx:aI K++[.s [],.l 0 [] .av,.l 0 [] .av,.s t0]++sp=C2 at*
 have T6:(pre++j8 r++post)[r.off+2]?=φ r.q:=by
  rw[an2,an6 Λ, <-cz,apF];rfl
 rw[hq]at T6;generalize hC:pre++j8 r++post=C at*;have v8:(((Ζ K+1:Nat):Int) - 1)=(Ζ K:Int):=Λ
 refine WC.bM (.held [17]) [(0,.rd),(1,.rd),(2,.rd),(3,.rd),(4,.rd),(5,.rd),(6,.rd),(7,.rd),(8,.rd),(9,.rd),(10,.rd),(11,.rd),(12,.rd),(13,.rd),(14,.rd),(15,.one),(16,.rd),(17,.one)] ?_;refine SP aJ hc T6 v8 B5 bh jD @iG ?_;refine ν aJ ?_;have u:Kp O (O.set kq (.cells (aI K++[.s [],.l 0 [] .av,.l 0 [] .av,.s (t0++s)]++sp))) [kq]:=Kp.set;have yP:aI (K++[tK (t0++s)])=aI K++[.s [],.l 0 [] .av,.l 0 [] .av,.s (t0++s)]:=by rw[eZ,aI,aI,aaQ,asl]
 have hl9:(K++[tK (t0++s)]).length=Ζ K+1:=by simp
 have hB9:B<=kq:=ca.lo;refine⟨(Kp.refl (S:=eQ k (r::R) tk)).more u (λx hx=>.inl (by rw[ahB]at hx;rw[hx];exact rE (by rw[hq];rfl))),h.c.Qs (r':={r with kids:=K++[tK (t0++s)]}) (by rw[hC];exact hc) cz (λe=>(G2 e).2.2) u rfl rfl (λx hx=>.inr (by rw[ahB]at hx;rw[hx,hq];rfl)) (by rw[VH.sx];show _=φ (bO.cells (pre++j8 r++post));rw[hC];exact hc) (.inr ⟨kq,cq,?_,?_,?_,?_⟩) (λi e=>jE.2 i e),h.a.YE u (λx hx e=>by rw[ahB]at hx;subst hx;rw[B5]at e;cases e)⟩;show r.q=_;rw[hq,hl9];rw[hl9];exact xf;show(aI (K++[tK (t0++s)])).length=_;rw[dN];show Row _ _ 4 B kq cq (aI (K++[tK (t0++s)]));rw[yP];refine ca.own u (λx hx j t n e=>by rw[ahB]at hx;subst hx;rw[B5]at e;cases e) (υ _ _ _) ?_;rw[<-GQ, <-Rx];simp
def Ud{k:Nat}{r:Rec}{R:List Rec}(h:BS O B k (r::R) tk dj dn γ z)(hc0:dj<=1000000)(hR0:Ζ R<=1000)(s:Bs)(hs:Ζ s<=1000000000000)(j6:Ζ r.kids<=1000000)(hne:(s==[])=γ):
  VF Ε 217 [.p k 0,.s s] O (aC λm O'=>Kp O O' (eQ k (r::R) tk)/\match decide (4096<dj+1)with
   | true=>m=mi 2
   | false=>m=mi 0/\∃q',BS O' B k ({r with kids:=r.kids++[tK s],q:=q'}::R) tk (dj+1) dn Α z/\∀x,gid q'=φ x->gid r.q=φ x\/O.N<=x):=by
 have hR:Ζ R<=1000:=hR0;have hk:=h.c.cells;have lC:=h.c.lt;have hBn:=h.c.le;obtain⟨a0,a1,a2,a3,hr⟩:=vj (gj (r::R) z h.c.zl);unfold uo at hk;rw[hr]at hk;simp only[aq,bg,ai9,ai_,abT]at hk;refine ω 61 [.tmp 4] func217 ?_;refine κ aJ ?_;refine ξ aJ hk ?_;refine κ aJ ?_;refine Ω (Ju h) ?_;refine ae aJ ?_;obtain⟨pre,post,hc,cz,F_,G2,hR2⟩:=h.c.loc;have jE:=h.c.top;clear hc G2 hR2 cz F_ jE;clear pre post;refine θ (aF aJ @hne hk ?_);refine π (agW h hc0) ?_;rintro _ O3 ⟨rfl,h3,cx⟩;by_cases GI:dj+1<=4096;rotate_left;rw[decide_eq_true (show 4096<dj+1 by omega),decide_eq_false GI];refine ae aJ ?_;exact(Kp.refl (S:=eQ k (r::R) tk)).more cx (λx hx=>.inl z42);rw[decide_eq_false (show ¬4096<dj+1 by omega),decide_eq_true GI];dsimp only;have B3:∀x∈[k],x∈eQ k (r::R) tk\/O.N<=x:=λx hx=>.inl z42
 have Jv:Kp O O3 (eQ k (r::R) tk):=(Kp.refl (S:=eQ k (r::R) tk)).more cx B3;have atB:=h3.c.le;refine ae aJ ?_;obtain⟨pre,post,en,cz,F_,G2,hR2⟩:=h3.c.loc;have jE:=h3.c.top
 have T6:(pre++j8 r++post)[r.off+2]?=φ r.q:=by
  rw[an2,an6 Λ, <-cz,apF];rfl
 have jD:∀q',(pre++j8 r++post).set (r.off+2) q'=pre++j8 {r with q:=q'}++post:=λq'=>by
  rw[an2,aup _ _ Λ, <-cz,apF,an2];rfl
 have hlC:(pre++j8 r++post).length=Ζ pre+4+Ζ post:=by simp[yN];omega
 generalize hC:pre++j8 r++post=C at*;refine VC.Pe [8,9,10,11,12,13] z11 ?_;refine bR.EC 0 ?_;refine ae aJ ?_;refine bR.EC 1 ?_;refine ae aJ ?_;refine bR.EC 2 ?_;refine ae aJ ?_;refine bR.EC 3 ?_;refine aF aJ en T6 ?_;refine bR.EC 4 ?_;refine ae aJ ?_;refine bR.EC 5 ?_;refine ae aJ ?_;have sK:=aaP jE.1;refine bR.EC 6 ?_;refine ak aJ sK ?_;refine bR.al9 (i:=7) rfl z11 z11 rfl rfl (λ_ _ _ hw hf=>agX hw hf) rfl ?_;simp only[ag];refine bR.fin z11 ?_;refine cf.st (i:=8) rfl z11 rfl rfl (Yj aa (te:=⟨_,4,80,_⟩) (dx:=.slice 121) (q:=.l 1 [.s [],.l 0 [] .nil,.l 0 [] .nil,.s []] .full) (j:=1) (ds:=[.s [],.l 0 [] .nil,.l 0 [] .nil,.s []]) jE.1 rfl rfl (by rw[ql];rfl) wK.1.1 (by rw[ql];rfl) trivial z18 z13 Λ rfl rfl) ?_;rintro m O4 ⟨ox,kF,bK,hm⟩
 obtain⟨k2,c2,rfl,bC⟩:∃k2 c2,m= .bk k2 0 (Ζ r.kids+1) c2/\(gid r.q=φ k2\/O3.N<=k2):=by
  rcases hm with⟨k2,c2,h1,h2⟩ | ⟨h1,_⟩;exact⟨k2,c2,h1,h2.imp id And.left⟩;cases h1
 obtain⟨ca,xf⟩:Row O4 121 4 B k2 c2 (aI r.kids++[.s [],.l 0 [] .nil,.l 0 [] .nil,.s []])/\(Ζ r.kids)+1<=c2:=by
  rcases ox with⟨h1,_⟩ | ⟨k3,c3,h1,h2,_,h4⟩;omega;injection h1 with h1 _ _ h3;subst h1;subst h3;exact⟨h4,h2⟩
 have agZ:r.b<k2:=by
  rcases bC with e | e;exact jE.2 _ e;omega
 have ara:=kF.N;have ff:O4.hp r.b=φ (.cells C):=(kF.hp _ F_ (λe=>by have:=jE.2 _ e;omega)).trans en;obtain⟨sp,B5,GQ⟩:=ca.cells;simp only[ag];have Am:=dN r.kids
 have B6:∀a b c d:MV,((((aI r.kids++([.s [],.l 0 [] .nil,.l 0 [] .nil,.s []]:Η)++sp).set ((Ζ r.kids)*4) a).set ((Ζ r.kids)*4+1) b).set ((Ζ r.kids)*4+1+1) c).set ((Ζ r.kids)*4+1+1+1) d=aI r.kids++[a,b,c,d]++sp:=λa b c d=>by
  rw[<-Am];exact al_ _ _ _ _ _ _ _ _ _ _
 generalize Rx:aI r.kids++[.s [],.l 0 [] .nil,.l 0 [] .nil,.s []]++sp=C2 at*;refine cf.My 9 ?_;refine ae aJ ?_;refine cf.My 11 ?_;refine ae aJ ?_;refine cf.My 12 ?_;refine ae aJ ?_;refine cf.two (i:=10) (j:=13) z11 ?_ ?_
 ·refine aQ.o1 ?_;refine aF aJ B5 B6 ?_;refine cf.aaI (i:=13) ?_;refine aF aJ ff jD ?_;refine cf.bM [] ?_;refine WL.gen ?_;intro O5 rF;((((have ie:O5.N=O4.N:=by rw[rF];rfl);have fY:O5.hp r.b=φ (.cells (pre++j8 {r with q:=.bk k2 0 (Ζ r.kids+1) c2}++post)):=by rw[rF];exact υ _ _ _);have Jw:O5.hp k2=φ (.cells (aI r.kids++[.s [],.l 0 [] .nil,.l 0 [] .nil,.s s]++sp)):=by rw[rF];exact Θ (υ _ _ _));have u4:Kp O4 O5 [k2,r.b]:=by rw[rF];exact Kp.trans (S:=[k2]) (T:=[r.b]) Kp.set Kp.set);clear rF
  have hS4:GZ O4 [k2,r.b]:=λx hx j t n e=>by
   simp only[aja,an3,or_false]at hx;rcases hx with rfl | rfl;rw[B5]at e;cases e;rw[ff]at e;cases e
  have u3:Kp O3 O5 (r.b::(gid r.q).toList):=((Kp.bQ kF).trans u4).sub (λx hx=>by
   simp only[an4,aja,an3,or_false]at hx ⊢;rcases hx with hx | hx | hx;exact .inl (.inr hx);rcases bC with e | e;rw[e];simp[hx];exact .inr Λ;exact .inl (.inl hx))
  have tI:∀x∈r.b::(gid r.q).toList,x=r.b\/gid r.q=φ x:=λx hx=>by
   rcases aja.1 hx with e | e;exact .inl e;exact .inr (by simpa using e)
  obtain⟨i_,_⟩:=h3.c.part (r':={r with q:=.bk k2 0 (Ζ r.kids+1) c2}) (by rw[hC];exact en) cz (λe=>(G2 e).2.2) u3 rfl rfl tI fY;obtain⟨b0,b1,b2,b3,oZ⟩:=vj (gj ({r with q:=.bk k2 0 (Ζ r.kids+1) c2}::R) z h.c.zl);unfold uo at i_;rw[oZ]at i_;simp only[aq,bg,ai9,ai_,abT]at i_;refine ak aJ i_ ?_
  have Ue:k2≠k:=by
   have:=ca.lo;omega
  have B4:Kp O O5 (eQ k (r::R) tk):=Jv.more u3 (λx hx=>by
   rcases tI x hx with e | e;rw[e];exact .inl wh;exact .inl (rE e))
  have e_:App O5 B 1 tk:=by
   refine h3.a.YE u3 λx hx e=>?_
   rcases tI x hx with e2 | e2;subst e2;rw[en]at e;cases e;obtain⟨cs,e3⟩:=jE.1.YD e2;rw[e3]at e;cases e
  have yP:aI (r.kids++[tK s])=aI r.kids++[.s [],.l 0 [] .av,.l 0 [] .av,.s s]:=by rw[eZ,aI,aI,aaQ,asl]
  refine VC.wkc (k:=k2) (ds:=aI (r.kids++[tK s])++sp) ((τ _ _ Ue).trans Jw) (by
   rw[yP];exact((fw.refl _).app (fw.cons (Wk.refl _) (fw.cons Wk.tok (fw.cons Wk.tok (fw.refl _))))).app (fw.refl _)) ?_
  refine ν aJ ?_;have u5:Kp O4 (O5.set k2 (.cells (aI (r.kids++[tK s])++sp))) [k2,r.b]:=(u4.trans Kp.set).sub (λx hx=>.inl (by simp only[an4,aja,an3,or_false]at hx ⊢;exact hx.elim id .inl))
  have u6:Kp O3 (O5.set k2 (.cells (aI (r.kids++[tK s])++sp))) (r.b::(gid r.q).toList):=(u3.trans Kp.set).sub (λx hx=>by
   simp only[an4,aja,an3,or_false]at hx ⊢;rcases hx with hx | hx;exact .inl hx;rcases bC with e | e;rw[e];simp[hx];exact .inr Λ)
  have hBC:BC _ B k ({r with kids:=r.kids++[tK s],q:=.bk k2 0 (Ζ r.kids+1) c2}::R) z _:=h3.c.Qs (r':={r with kids:=r.kids++[tK s],q:=.bk k2 0 (Ζ r.kids+1) c2}) (by rw[hC];exact en) cz (λe=>(G2 e).2.2) u6 rfl rfl tI (Θ fY) (.inr ⟨k2,c2,by show _=_;simp,by simp;exact xf,by show(aI (r.kids++[tK s])).length=_;rw[dN],by
   show Row _ _ 4 B k2 c2 (aI (r.kids++[tK s]));refine ca.own u5 hS4 (υ _ _ _) ?_;rw[<-GQ, <-Rx,yP];simp⟩) (λi e=>by injection e with e;subst e;exact agZ)
  have e9:∀x,(O5.set k x).set k2 (.cells (aI (r.kids++[tK s])++sp))=(O5.set k2 (.cells (aI (r.kids++[tK s])++sp))).set k x:=λx=>VH.set_comm (λe=>Ue e.symm)
  have qX:=ca.lo;rw[e9]
  refine⟨(B4.more (S:=[k2]) Kp.set (λx hx=>by
   rw[ahB]at hx;rw[hx];rcases bC with e | e;exact .inl (rE e)
   ·exact .inr (by have:=cx.1;omega))).more Kp.set B3,_,⟨hBC.step (S:=[k]) Kp.set (λx hx=>.inl z23) ?_ h3.c.zl,(e_.YE (S:=[k2]) Kp.set (λx hx e=>by rw[ahB]at hx;subst hx;rw[Jw]at e;cases e)).F9 lC⟩,λx e=>by
   injection e with e;subst e;exact bC.imp id (λe=>by have:=cx.1;omega)⟩
  rw[υ]
  have e8:qW ({r with kids:=r.kids++[tK s],q:=.bk k2 0 (Ζ r.kids+1) c2}::R) z=[b0,b1,b2,b3]:=by
   rw[<-oZ];cases R with
   | nil=>rfl
   | cons g R=>rfl
  rw[e8];rfl
 ·refine aQ.o1 ?_;refine aF aJ ff jD ?_;refine cf.aaI (i:=10) ?_;refine aF aJ B5 B6 ?_;refine cf.bM [] ?_;refine WL.gen ?_;intro O5 rF;rw[VH.set_comm Λ]at rF;((((have ie:O5.N=O4.N:=by rw[rF];rfl);have fY:O5.hp r.b=φ (.cells (pre++j8 {r with q:=.bk k2 0 (Ζ r.kids+1) c2}++post)):=by rw[rF];exact υ _ _ _);have Jw:O5.hp k2=φ (.cells (aI r.kids++[.s [],.l 0 [] .nil,.l 0 [] .nil,.s s]++sp)):=by rw[rF];exact Θ (υ _ _ _));have u4:Kp O4 O5 [k2,r.b]:=by rw[rF];exact Kp.trans (S:=[k2]) (T:=[r.b]) Kp.set Kp.set);clear rF
  have hS4:GZ O4 [k2,r.b]:=λx hx j t n e=>by
   simp only[aja,an3,or_false]at hx;rcases hx with rfl | rfl;rw[B5]at e;cases e;rw[ff]at e;cases e
  have u3:Kp O3 O5 (r.b::(gid r.q).toList):=((Kp.bQ kF).trans u4).sub (λx hx=>by
   simp only[an4,aja,an3,or_false]at hx ⊢;rcases hx with hx | hx | hx;exact .inl (.inr hx);rcases bC with e | e;rw[e];simp[hx];exact .inr Λ;exact .inl (.inl hx))
  have tI:∀x∈r.b::(gid r.q).toList,x=r.b\/gid r.q=φ x:=λx hx=>by
   rcases aja.1 hx with e | e;exact .inl e;exact .inr (by simpa using e)
  obtain⟨i_,_⟩:=h3.c.part (r':={r with q:=.bk k2 0 (Ζ r.kids+1) c2}) (by rw[hC];exact en) cz (λe=>(G2 e).2.2) u3 rfl rfl tI fY;obtain⟨b0,b1,b2,b3,oZ⟩:=vj (gj ({r with q:=.bk k2 0 (Ζ r.kids+1) c2}::R) z h.c.zl);unfold uo at i_;rw[oZ]at i_;simp only[aq,bg,ai9,ai_,abT]at i_;refine ak aJ i_ ?_
  have Ue:k2≠k:=by
   have:=ca.lo;omega
  have B4:Kp O O5 (eQ k (r::R) tk):=Jv.more u3 (λx hx=>by
   rcases tI x hx with e | e;rw[e];exact .inl wh;exact .inl (rE e))
  have e_:App O5 B 1 tk:=by
   refine h3.a.YE u3 λx hx e=>?_
   rcases tI x hx with e2 | e2;subst e2;rw[en]at e;cases e;obtain⟨cs,e3⟩:=jE.1.YD e2;rw[e3]at e;cases e
  have yP:aI (r.kids++[tK s])=aI r.kids++[.s [],.l 0 [] .av,.l 0 [] .av,.s s]:=by rw[eZ,aI,aI,aaQ,asl]
  refine VC.wkc (k:=k2) (ds:=aI (r.kids++[tK s])++sp) ((τ _ _ Ue).trans Jw) (by
   rw[yP];exact((fw.refl _).app (fw.cons (Wk.refl _) (fw.cons Wk.tok (fw.cons Wk.tok (fw.refl _))))).app (fw.refl _)) ?_
  refine ν aJ ?_;have u5:Kp O4 (O5.set k2 (.cells (aI (r.kids++[tK s])++sp))) [k2,r.b]:=(u4.trans Kp.set).sub (λx hx=>.inl (by simp only[an4,aja,an3,or_false]at hx ⊢;exact hx.elim id .inl))
  have u6:Kp O3 (O5.set k2 (.cells (aI (r.kids++[tK s])++sp))) (r.b::(gid r.q).toList):=(u3.trans Kp.set).sub (λx hx=>by
   simp only[an4,aja,an3,or_false]at hx ⊢;rcases hx with hx | hx;exact .inl hx;rcases bC with e | e;rw[e];simp[hx];exact .inr Λ)
  have hBC:BC _ B k ({r with kids:=r.kids++[tK s],q:=.bk k2 0 (Ζ r.kids+1) c2}::R) z _:=h3.c.Qs (r':={r with kids:=r.kids++[tK s],q:=.bk k2 0 (Ζ r.kids+1) c2}) (by rw[hC];exact en) cz (λe=>(G2 e).2.2) u6 rfl rfl tI (Θ fY) (.inr ⟨k2,c2,by show _=_;simp,by simp;exact xf,by show(aI (r.kids++[tK s])).length=_;rw[dN],by
   show Row _ _ 4 B k2 c2 (aI (r.kids++[tK s]));refine ca.own u5 hS4 (υ _ _ _) ?_;rw[<-GQ, <-Rx,yP];simp⟩) (λi e=>by injection e with e;subst e;exact agZ)
  have e9:∀x,(O5.set k x).set k2 (.cells (aI (r.kids++[tK s])++sp))=(O5.set k2 (.cells (aI (r.kids++[tK s])++sp))).set k x:=λx=>VH.set_comm (λe=>Ue e.symm)
  have qX:=ca.lo;rw[e9]
  refine⟨(B4.more (S:=[k2]) Kp.set (λx hx=>by
   rw[ahB]at hx;rw[hx];rcases bC with e | e;exact .inl (rE e)
   ·exact .inr (by have:=cx.1;omega))).more Kp.set B3,_,⟨hBC.step (S:=[k]) Kp.set (λx hx=>.inl z23) ?_ h3.c.zl,(e_.YE (S:=[k2]) Kp.set (λx hx e=>by rw[ahB]at hx;subst hx;rw[Jw]at e;cases e)).F9 lC⟩,λx e=>by
   injection e with e;subst e;exact bC.imp id (λe=>by have:=cx.1;omega)⟩
  rw[υ]
  have e8:qW ({r with kids:=r.kids++[tK s],q:=.bk k2 0 (Ζ r.kids+1) c2}::R) z=[b0,b1,b2,b3]:=by
   rw[<-oZ];cases R with
   | nil=>rfl
   | cons g R=>rfl
  rw[e8];rfl
structure PS where
 st:List (Bs×List (Bs×Bs)×List Nd)
 dj:Nat
 dn:Bool
 tx:Bool
 z:Nd
def pM(s:Bs)(p:PS):Except Int PS:=
 match p.st with
 | []=>if trimB s=[]then .ok p else .error 16
 | (n,a,K)::R=>
   if s=[]then .ok p
   else if p.tx then match K.getLast? with
    | some (.mk _ _ _ t)=>.ok {p with st:=(n,a,K.dropLast++[tK (t++s)])::R}
    | none=>.ok p
   else if 4096<p.dj+1 then .error 2
   else .ok {p with st:=(n,a,K++[tK s])::R,dj:=p.dj+1,tx:=Α}
def wV(nm:Bs)(hH:List (Bs×Bs))(p:PS):Except Int PS:=
 if p.dn then .error 16 else if 64<=(Ζ p.st) then .error 2 else if 4096<p.dj+1 then .error 2
 else .ok {p with st:=(nm,hH,[])::p.st,dj:=p.dj+1,tx:=γ}
def B7(p:PS):PS:=
 match p.st with
 | []=>p
 | [(n,a,K)]=>{p with st:=[],dn:=Α,tx:=γ,z:=.mk n a K []}
 | (n,a,K)::(n2,a2,K2)::R=>{p with st:=(n2,a2,K2++[.mk n a K []])::R,dn:=γ,tx:=γ}
def sB(x:Tk)(p:PS):Except Int PS:=
 if x.kind=4 then pM x.text p
 else if x.kind=1 then wV x.name x.attrs p
 else if x.kind=2 then(match wV x.name x.attrs p with
  | .error e=>.error e
  | .ok q=>.ok (B7 q))
 else if x.kind=3 then(match p.st with
  | []=>.error 16
  | f::_=>if f.1=x.name then .ok (B7 p)else .error 14)
 else .ok p
def nJ:List Tk->PS->Except (Int×Nat) PS
 | [],p=>.ok p
 | x::l,p=>match sB x p with
   | .error e=>.error (e,x.off)
   | .ok q=>nJ l q
def p0:PS:=⟨[],0,γ,γ,X8⟩
def lq(t:Bs):Except (Int×Nat) Nd:=
 match Bb t with
 | .error e=>.error e
 | .ok l=>match nJ l p0 with
   | .error e=>.error e
   | .ok p=>if p.st≠[]then .error (13,Ζ t)else if p.dn then .ok p.z else .error (16,Ζ t)
def Jx:List (Bs×List (Bs×Bs)×List Nd)->Nat
 | []=>0
 | f::R=>1+Ζ f.1+jR f.2.1+kI f.2.2+Jx R
def Lu(p:PS):Nat:=Jx p.st+if p.dn then j7 p.z else 0
structure lO(p:PS)(L:Nat):Prop where
 dj:p.dj<=4096
 len:Ζ p.st<=64
 S_:p.tx=Α->∃n a K t R,p.st=(n,a,K++[tK t])::R
 wt:Lu p<=L+p.dj
def Ab(K M:List Nd):kI (K++M)=kI K+kI M:=by
 induction K with
 | nil=>rw[ai_,kI,apK]
 | cons x K ih=>rw[ai9,kI,kI,ih];omega
def aaR(t:Bs):j7 (tK t)=1+Ζ t:=by rw[tK,zS,jR,kI];simp
def lO.more{p:PS}{L L':Nat}(h:lO p L)(hl:L<=L'):lO p L':=⟨h.dj,h.len,h.S_,by have:=h.wt;omega⟩
def ad3{p q:PS}{L:Nat}(h:lO p L)(e:pM s p= .ok q):lO q (L+Ζ s):=by
 unfold pM at e;obtain⟨st,dj,dn,tx,z⟩:=p;obtain⟨h2,h3,h4,h5⟩:=h;dsimp only at e h2 h3 h4 h5;cases st with
 | nil=>
   dsimp only at e;split at e;injection e with e;subst e;exact lO.more ⟨h2,h3,h4,h5⟩ (auy _ _);cases e
 | cons f R=>
   obtain⟨n,a,K⟩:=f;dsimp only at e;split at e;injection e with e;subst e;exact lO.more ⟨h2,h3,h4,h5⟩ (auy _ _);split at e;rename_i ht;obtain⟨n',a',K',t,R',he⟩:=h4 ht;injection he with he1 he2;injection he1 with e1 e2;injection e2 with e2 e3;subst e1;subst e2;subst e3;subst he2;rw[List.getLast?_concat,List.dropLast_concat]at e;dsimp only[tK]at e;injection e with e;subst e;refine⟨h2,h3,λ_=>⟨_,_,_,_,_,rfl⟩,?_⟩;simp only[Lu,Jx,Ab,kI,aaR]at h5 ⊢;have e6:j7 (Nd.mk [] [] [] (t++s))=1+(t++s).length:=aaR _;rw[e6,TR];omega;split at e;cases e;injection e with e;subst e;refine⟨by dsimp only;omega,h3,λ_=>⟨_,_,_,_,_,rfl⟩,?_⟩;simp only[Lu,Jx,Ab,kI,aaR]at h5 ⊢;omega
def Jy{p q:PS}{L:Nat}(h:lO p L)(e:wV nm hH p= .ok q):lO q (L+Ζ nm+jR hH)/\q.st=(nm,hH,[])::p.st:=by
 unfold wV at e;split at e;cases e;split at e;cases e;split at e;cases e;injection e with e;subst e;rename_i hd BK hc;refine⟨⟨by dsimp only;omega,by simp only[abT];omega,(λe=>by cases e),?_⟩,rfl⟩;have h5:=h.wt;simp only[Lu,Jx,kI,hd]at h5 ⊢;omega
def Uf{p:PS}{L:Nat}(h:lO p L):lO (B7 p) L:=by
 unfold B7;split;exact h;rename_i n a K hs;obtain⟨h2,h3,h4,h5⟩:=h;refine⟨h2,alp _,(λe=>by cases e),?_⟩;simp only[Lu,Jx,hs,zS]at h5 ⊢;simp;omega;rename_i n a K n2 a2 K2 R hs;obtain⟨h2,h3,h4,h5⟩:=h;refine⟨h2,by rw[hs]at h3;simp only[abT]at h3 ⊢;omega,(λe=>by cases e),?_⟩;simp only[Lu,Jx,hs,Ab,kI,zS]at h5 ⊢;simp;omega
def Dv(x:Tk):Nat:=Ζ x.name+jR x.attrs+Ζ x.text
def NA{x:Tk}{p q:PS}{L:Nat}(h:lO p L)(e:sB x p= .ok q):lO q (L+Dv x):=by
 unfold sB at e;unfold Dv;split at e;exact(ad3 h e).more Λ;split at e;exact(Jy h e).1.more Λ;split at e;split at e;cases e;rename_i q' hq;injection e with e;subst e;exact(Uf (Jy h hq).1).more Λ;split at e;split at e;cases e;split at e;injection e with e;subst e;exact(Uf h).more Λ;cases e;injection e with e;subst e;exact h.more Λ
def Ug{n:Bs}{a:List (Bs×Bs)}{K:List Nd}{R:List (Bs×List (Bs×Bs)×List Nd)}{p:PS}{L:Nat}(h:lO p L)(hm:(n,a,K)∈p.st):Ζ K<=L+4096:=by
 have h5:=h.wt;have h2:=h.dj;have hk:=EB K;unfold Lu at h5
 have:∀st:List (Bs×List (Bs×Bs)×List Nd),(n,a,K)∈st->kI K<=Jx st:=by
  intro st;induction st with
  | nil=>intro h;cases h
  | cons f R ih=>
    intro h;rw[Jx];rcases aja.1 h with rfl | h;dsimp only;omega;have:=ih h;omega
 have:=this _ hm;omega
def Ac{p:PS}{e:Int}(h:wV nm hH p= .error e):e=16\/e=2:=by
 unfold wV at h;split at h;injection h with h;exact .inl h.symm;split at h;injection h with h;exact .inr h.symm;split at h;injection h with h;exact .inr h.symm;cases h
def YH{p:PS}{e:Int}(h:pM s p= .error e):e=16\/e=2:=by
 unfold pM at h;split at h;split at h;cases h;injection h with h;exact .inl h.symm;split at h;cases h;split at h;split at h<;>cases h;split at h;injection h with h;exact .inr h.symm;cases h
def Jz{x:Tk}{p:PS}{e:Int}(h:sB x p= .error e):e=16\/e=2\/e=14:=by
 unfold sB at h;split at h;exact(YH h).imp id .inl;split at h;exact(Ac h).imp id .inl;split at h;split at h;rename_i h2;injection h with h;subst h;exact(Ac h2).imp id .inl;cases h;split at h;split at h;injection h with h;exact .inl h.symm;split at h;cases h;injection h with h;exact .inr (.inr h.symm);cases h
def BP(O:VH)(B k:Nat)(U:Τ)(p:PS):Prop:=∃R tk,BS O B k R tk p.dj p.dn p.tx (eb p.z)/\ur R=p.st/\∀x∈eQ k R tk,x∈U
def BP.ge{k:Nat}{p:PS}(h:BP O B k U p)(g:O.Ge O'):BP O' B k U p:=by
 obtain⟨R,tk,h1,h2,h3⟩:=h;exact⟨R,tk,h1.ge g,h2,h3⟩
def Sp(O O':VH)(B k:Nat)(U:Τ)(q:PS):Prop:=∃U',(∀x∈U',x∈U\/O.N<=x)/\BP O' B k U' q
def Kp.aaS(h:Kp O O' S)(hs:∀x∈S,x∈U):Kp O O' U:=h.sub λx hx=>.inl (hs x hx)
def Sp.refl{k:Nat}{q:PS}(h:BP O B k U q):Sp O O B k U q:=⟨U,λ_ h=>.inl h,h⟩
def Sp.trans{k:Nat}{U1:Τ}{q:PS}(hl:O.N<=O1.N)(h1:∀x∈U1,x∈U\/O.N<=x)(h:Sp O1 O2 B k U1 q):Sp O O2 B k U q:=by
 obtain⟨U2,h2,h3⟩:=h;exact⟨U2,λx hx=>(h2 x hx).elim (h1 x) λe=>.inr Λ,h3⟩
def ag0{k:Nat}{p:PS}{L:Nat}(h:BP O B k U p)(hp:lO p L)(hL:L<=100000)(s:Bs)(hs:Ζ s<=1000000):
  VF Ε 217 [.p k 0,.s s] O (aC λm O'=>Kp O O' U/\match pM s p with
   | .error e=>m=mi e
   | .ok q=>m=mi 0/\Sp O O' B k U q):=by
 obtain⟨R,tk,hb,hR,hU⟩:=h;obtain⟨st,dj,dn,tx,z⟩:=p;dsimp only at hb hR;subst hR;have hlen:=hp.len;dsimp only[ur]at hlen;rw[apI]at hlen;have are:dj<=4096:=hp.dj;cases R with
 | nil=>
   refine VF.mono ?_ (Ua hb s z13);rintro(m | m) O' hr;obtain⟨rfl,rfl⟩:=hr;refine⟨Kp.refl,?_⟩;((((have e5:pM s ⟨ur [],dj,dn,tx,z⟩=if trimB s=[]then .ok ⟨[],dj,dn,tx,z⟩else .error 16:=rfl);rw[e5];by_cases h2:trimB s=[]);rw[if_pos h2,if_pos h2];exact⟨rfl,Sp.refl ⟨[],tk,hb,rfl,hU⟩⟩);rw[if_neg h2,if_neg h2]);exact hr.elim
 | cons r R=>
   simp only[abT]at hlen
   have j6:Ζ r.kids<=1000000:=by
    have:=Ug (R:=[]) hp (List.mem_cons_self (a:=(r.name,r.attrs,r.kids)) (l:=ur R));omega
   by_cases vL:s=[];subst vL;refine VF.mono ?_ (Ub hb Λ);rintro(m | m) O' hr;obtain⟨rfl,rfl⟩:=hr;exact⟨Kp.refl,rfl,Sp.refl ⟨r::R,tk,hb,rfl,hU⟩⟩;exact hr.elim;have hne:(s==[])=γ:=by cases s<;>simp at vL ⊢
   cases tx with
   | true=>
     obtain⟨n,a,K,t,R',he⟩:=hp.S_ rfl;have he:(r.name,r.attrs,r.kids)::ur R=(n,a,K++[tK t])::R':=he;injection he with he1 he2;injection he1 with e1 e2;injection e2 with e2 e3
     have ht:Ζ t<=1000000:=by
      have h5:=hp.wt;have e4:ur (r::R)=(r.name,r.attrs,r.kids)::ur R:=rfl;simp only[Lu,e4,Jx,e3,Ab,kI,aaR]at h5;omega
     refine VF.mono ?_ (Uc hb Λ s t K Λ e3 Λ j6 hne);rintro(m | m) O' hr
     ·obtain⟨rfl,h1,h2⟩:=hr;refine⟨h1.aaS hU,?_⟩
      have e5:pM s ⟨ur (r::R),dj,dn,Α,z⟩= .ok ⟨(r.name,r.attrs,K++[tK (t++s)])::ur R,dj,dn,Α,z⟩:=by
       unfold pM;show(if s=[]then _ else _)=_;rw[if_neg vL,if_pos rfl,e3,List.getLast?_concat,List.dropLast_concat];rfl
      rw[e5];exact⟨rfl,U,λ_ h=>.inl h,_,tk,h2,rfl,hU⟩
     ·exact hr.elim
   | false=>
     refine VF.mono ?_ (Ud hb Λ Λ s Λ j6 hne);rintro(m | m) O' hr
     ·obtain⟨h1,hr⟩:=hr;refine⟨h1.aaS hU,?_⟩
      have e5:pM s ⟨ur (r::R),dj,dn,γ,z⟩=if 4096<dj+1 then .error 2 else .ok ⟨(r.name,r.attrs,r.kids++[tK s])::ur R,dj+1,dn,Α,z⟩:=by
       unfold pM;show(if s=[]then _ else _)=_;rw[if_neg vL,if_neg z10];rfl
      rw[e5];by_cases hc:4096<dj+1;rw[decide_eq_true hc]at hr;rw[if_pos hc];exact hr;rw[decide_eq_false hc]at hr;rw[if_neg hc];obtain⟨rfl,q',h2,h3⟩:=hr;refine⟨rfl,eQ k ({r with kids:=r.kids++[tK s],q:=q'}::R) tk,λx hx=>?_,_,tk,h2,rfl,λ_ h=>h⟩;have hx:x∈k::((r.b::R.map (·.b))++(gid q').toList++(Tok.id tk).toList):=hx;simp only[aja,an4]at hx;rcases hx with rfl | ((rfl | hx) | hx) | hx;exact .inl (hU _ p9);exact .inl (hU _ wh);obtain⟨g,hg,rfl⟩:=aul.1 hx;exact .inl (hU _ (Hq (atM _ hg)));rcases h3 x z23 with e | e;exact .inl (hU _ (rE e));exact .inr e;exact .inl (hU _ (Qt z23))
     ·exact hr.elim
def aaT{k:Nat}{p:PS}{L:Nat}(h:BP O B k U p)(hp:lO p L)(hL:L<=100000)(kd:Int)(nm tt:Bs)(hH:List (Bs×Bs))(p1 p2 p3:Int)(Nz:Ζ hH<=100000):
  VF Ε 218 [.p k 0,.agg [mi kd,.s nm,.l (Ζ hH) (hH.flatMap bp) .av,.s tt,mi p1,mi p2,mi p3]] O (aC λm O'=>Kp O O' U/\match wV nm hH p with
   | .error e=>m=mi e
   | .ok q=>m=mi 0/\Sp O O' B k U q):=by
 obtain⟨R,tk,hb,hR,hU⟩:=h;obtain⟨st,dj,dn,tx,z⟩:=p;dsimp only at hb hR;subst hR;have are:dj<=4096:=hp.dj
 have j6:∀r∈R,Ζ r.kids<=1000000:=λr hr=>by
  have:=Ug hp (show(r.name,r.attrs,r.kids)∈ur R from aul.2 ⟨r,hr,rfl⟩) (R:=[]);omega
 refine VF.mono ?_ (agY hb Λ kd nm tt hH p1 p2 p3 Nz j6);have hl:(ur R).length=Ζ R:=by unfold ur;rw[apI]
 rintro(m | m) O' hr;obtain⟨h1,hr⟩:=hr;refine⟨h1.aaS hU,?_⟩;unfold wV;unfold tH at hr;dsimp only;rw[hl];cases dn;rw[if_neg z10]at hr ⊢;by_cases BK:64<=Ζ R;rw[if_pos BK]at hr ⊢;exact hr;rw[if_neg BK]at hr ⊢;by_cases hc:4096<dj+1;rw[if_pos hc]at hr ⊢;exact hr;rw[if_neg hc]at hr ⊢;obtain⟨rfl,R',tk',h2,h3,h4⟩:=hr;exact⟨rfl,eQ k R' tk',λx hx=>(h4 x hx).imp (hU x) id,R',tk',h2,h3,λ_ h=>h⟩;rw[if_pos rfl]at hr ⊢;exact hr;exact hr.elim
def aaU{k:Nat}{p:PS}{L:Nat}(h:BP O B k U p)(hp:lO p L)(hne:p.st≠[]):
  VF Ε 219 [.p k 0] O (aC λ_ O'=>Kp O O' U/\BP O' B k U (B7 p)):=by
 obtain⟨R,tk,hb,hR,hU⟩:=h;obtain⟨st,dj,dn,tx,z⟩:=p;dsimp only at hb hR hne;subst hR;have hlen:=hp.len;dsimp only[ur]at hlen;rw[apI]at hlen;cases R with
 | nil=>exact absurd rfl hne
 | cons r R=>
   refine VF.mono ?_ (akv hb (by simp only[abT]at hlen;omega));rintro(m | m) O' hr
   ·obtain⟨h1,h2⟩:=hr;refine⟨h1.aaS hU,?_⟩;have ama:=ad2 (tk:=tk) hb.c;cases R with
    | nil=>exact⟨[],_,h2,rfl,λx hx=>hU x (ama x hx)⟩
    | cons g R=>exact⟨_,_,h2,rfl,λx hx=>hU x (ama x hx)⟩
   ·exact hr.elim
def ad4{k:Nat}{p:PS}{L:Nat}(h:BP O B k U p)(hp:lO p L)(hU:∀x∈U,x<O.N)(t:Bs)(x:Tk)(hL:L+Dv x<=100000)(Am:1<=x.kind/\x.kind<=6):
  VF Ε 195 [.p k 0,.agg (xp t x)] O (aC λm O'=>Kp O O' U/\match sB x p with
   | .error e=>m=mi e
   | .ok q=>m=mi 0/\Sp O O' B k U q):=by
 have Nz:Ζ x.attrs<=100000:=by
  have:∀a:List (Bs×Bs),Ζ a<=jR a:=by
   intro a;induction a with
   | nil=>exact alp _
   | cons y a ih=>rw[jR,abT];omega
  have:=this x.attrs;unfold Dv at hL;omega
 have rz:Ζ x.text<=100000:=by unfold Dv at hL;omega
 have hLL:L<=100000:=Λ
 have hS:sB x p=if x.kind=4 then pM x.text p else if x.kind=1 then wV x.name x.attrs p else if x.kind=2 then(match wV x.name x.attrs p with
  | .error e=>.error e
  | .ok q=>.ok (B7 q))else if x.kind=3 then(match p.st with
  | []=>.error 16
  | f::_=>if f.1=x.name then .ok (B7 p)else .error 14)else .ok p:=rfl
 rw[hS];clear hS;have hW:Ζ x.name+jR x.attrs<=Dv x:=by unfold Dv;omega
 generalize Dv x=W at*;unfold xp;obtain⟨kd,nm,hH,tt,off⟩:=x;dsimp only at Nz rz Am hW ⊢;generalize ((nr t off:Nat):Int)=p2 at*;generalize Ji t off=p3 at*;generalize ((off:Nat):Int)=p1 at*;simp only[aq];refine ω 50 [.tmp 4] func195 ?_;refine κ aJ ?_;refine VC.bx ?_;rintro O1 ⟨aM,G1,dq⟩;have h1:=h.ge aM;have jZ:Kp O O1 U:=Kp.ge aM;have B8:∀x∈U,x∈U\/O.N<=x:=λ_ h=>.inl h
 have hnU:O.N ∉ U:=λhm=>by have:=hU _ hm;omega
 rcases(show kd=4\/kd=1\/kd=2\/kd=3\/kd=5\/kd=6 by omega)with rfl | rfl | rfl | rfl | rfl | rfl
 all_goals simp only[Int.reduceEq,if_true,if_false,reduceIte]
 ·refine ξ aJ G1 ?_;refine π (ag0 h1 hp hLL tt Λ) ?_;rintro m O2 ⟨hl,hm⟩;generalize pM tt p=F at hm ⊢;cases F with
  | error e=>
    dsimp only at hm;subst hm;refine ae aJ ?_;exact jZ.more hl B8
  | ok q=>
    obtain⟨rfl,hq⟩:=hm;refine ae aJ ?_;exact⟨jZ.more hl B8,hq.trans aM.N B8⟩
 ·refine ξ aJ G1 ?_;refine π (aaT h1 hp hLL 1 nm tt hH p1 p2 p3 Nz) ?_;rintro m O2 ⟨hl,hm⟩;have BI:=(hl.2 O.N Λ hnU).trans G1;cases hF:wV nm hH p with
  | error e=>
    rw[hF]at hm;dsimp only at hm;subst hm;rcases Ac hF with rfl | rfl;refine aF aJ BI @aq ?_;exact jZ.more hl B8;refine aF aJ BI @aq ?_;exact jZ.more hl B8
  | ok q=>
    rw[hF]at hm;obtain⟨rfl,hq⟩:=hm;refine ak aJ BI ?_;exact⟨jZ.more hl B8,hq.trans aM.N B8⟩
 ·refine ξ aJ G1 ?_;refine π (aaT h1 hp hLL 2 nm tt hH p1 p2 p3 Nz) ?_;rintro m O2 ⟨hl,hm⟩;have BI:=(hl.2 O.N Λ hnU).trans G1;cases hF:wV nm hH p with
  | error e=>
    rw[hF]at hm;dsimp only at hm;subst hm;rcases Ac hF with rfl | rfl;refine aF aJ BI @aq ?_;exact jZ.more hl B8;refine aF aJ BI @aq ?_;exact jZ.more hl B8
  | ok q=>
    rw[hF]at hm;obtain⟨rfl,U2,hU2,hq⟩:=hm;obtain⟨bH,eD⟩:=Jy hp hF;refine ak aJ BI ?_;refine π (aaU hq bH (by rw[eD];simp)) ?_;rintro m O3 ⟨Dm,Lv⟩;refine ae aJ ?_;(have amb:∀x∈U2,x∈U\/O.N<=x:=λx hx=>(hU2 x hx).imp id λe=>by have:=aM.N;omega);exact⟨(jZ.more hl B8).more Dm amb,U2,amb,Lv⟩
 ·obtain⟨R,tk,hb,hR,hUo⟩:=h1;have du:=hb.c.cells;obtain⟨a0,a1,a2,a3,hr⟩:=vj (gj R (eb p.z) hb.c.zl);unfold uo at du;rw[hr]at du;simp only[aq,bg,ai9,ai_]at du
  have PQ:Ζ R<=64:=by
   have:=hp.len;rw[<-hR]at this;unfold ur at this;rw[apI]at this;exact this
  cases R with
  | nil=>
    have eD:p.st=[]:=hR.symm;rw[eD];dsimp only;refine θ (bo aJ G1 du @ai8.{0} ?_);exact jZ
  | cons r R=>
    have eD:p.st=(r.name,r.attrs,r.kids)::ur R:=hR.symm;rw[eD];dsimp only;simp only[abT]at PQ;obtain⟨pre,post,gN,cz,F_,_,_⟩:=hb.c.loc
    have KJ:(pre++j8 r++post)[r.off]?=φ (.s r.name):=by
     rw[an2,an6 Λ, <-cz,Nat.sub_self];rfl
    generalize pre++j8 r++post=C at*;have YI:BP O1 B k U p:=⟨r::R,tk,hb,hR,hUo⟩;refine θ (bo aJ G1 du @abT.{0} ?_);refine VC.ot [7,8] ?_;refine ρ 0 aJ ?_;refine ρ 5 aJ ?_;refine auU (m:=.s nm) 6 ?_ ?_;exact dT aJ G1;simp only[ag];refine ab.call (i:=1) (Ju hb) ?_;rintro _ O9 ⟨rfl,eO⟩;simp only[ag];rw[eO];clear eO O9;refine⟨VH.Ge.refl _,?_⟩;refine ρ 2 aJ ?_;refine ρ 3 aJ ?_;refine auU (m:=.s r.name) 4 ?_ ?_;exact kt3 aJ gN KJ;simp only[ag];refine ab.bM [(7,.au),(8,.au)] ?_;by_cases hn:r.name=nm;rw[if_pos hn];have Pc:(r.name==nm)=Α:=beq_iff_eq.2 hn;refine ak aJ Pc ?_;refine π (aaU YI hp (by rw[eD];simp)) ?_;rintro m O3 ⟨Dm,Lv⟩;refine ae aJ ?_;refine ν aJ ?_;exact⟨jZ.more Dm B8,U,B8,Lv⟩;rw[if_neg hn];(have Pc:(r.name==nm)=γ:=by simpa using hn);refine ak aJ Pc ?_;exact jZ
 ·refine ξ aJ G1 ?_;refine ν aJ ?_;exact⟨jZ,U,B8,h1⟩
 ·refine ξ aJ G1 ?_;refine ν aJ ?_;exact⟨jZ,U,B8,h1⟩
def Hr{t:Bs}{stop:UInt8}:∀(n o:Nat)(acc:Bs) {s:Bs} {o':Nat},gn t stop n o acc= .ok (s,o')->Ζ s+o<=Ζ acc+o'
 | 0,o,acc,s,o',h=>by
   unfold gn at h;injection h with h;injection h with h1 h2;subst h1;subst h2;omega
 | n+1,o,acc,s,o',h=>by
   have done:∀(h:(.ok (acc,o):Except (Int×Nat) (Bs×Nat))= .ok (s,o')),Ζ s+o<=Ζ acc+o':=λh=>by
    injection h with h;injection h with h1 h2;subst h1;subst h2;omega
   unfold gn at h;cases hg:t[o]? with
   | none=>rw[hg]at h;exact done h
   | some c=>
     rw[hg]at h;simp only at h;split at h;((((·exact done h));split at h);split at h;cases h;rename_i h5;obtain⟨k1,k2,k3⟩:=Dh (by simpa using h5);have:=Hr n _ _ h;rw[TR]at this;omega);split at h;cases h;have:=Hr n _ _ h;rw[TR]at this;simp only[abT,ai8]at this;omega
def akw(h:wU t o= .ok (s,o')):Ζ s+o+2<=o':=by
 unfold wU at h;split at h;cases h;split at h;cases h;split at h;cases h;rename_i s2 o2 h2;have:=Hr _ _ _ h2;split at h;cases h;injection h with h;injection h with h1 h3;subst h1;subst h3;simp only[ai8]at this;omega
def ad5(a b:List (Bs×Bs)):jR (a++b)=jR a+jR b:=by
 induction a with
 | nil=>rw[ai_,jR,apK]
 | cons x a ih=>rw[ai9,jR,jR,ih];omega
def aaV{t:Bs}:∀(n o:Nat)(l:List (Bs×Bs)) {l':List (Bs×Bs)} {o':Nat},o<=(Ζ t)->oJ t n o l= .ok (l',o')->jR l'+o<=jR l+o'
 | 0,o,l,l',o',ho,h=>by
   rw[oJ]at h;injection h with h;injection h with h1 h2;subst h1;subst h2;omega
 | n+1,o,l,l',o',ho,h=>by
   have si:=kC t o ho;rw[oJ]at h;split at h;injection h with h;injection h with h1 h2;subst h1;subst h2;omega;rename_i hc;(((((((((have cS:1<=l0 t o:=Nat.one_le_iff_ne_zero.2 λe=>hc (.inl e));split at h);cases h);rename_i nm o2 h2;have hn:=jb h2;have bV:=kC t o2;split at h);cases h);split at h);cases h);rename_i y4 o4 h4;have hw:=l9 h4;have c8:=kC t o4;split at h);cases h);rename_i v o6 h6;have hv:=akw h6;have D7:=Di h6;have:=aaV n o6 _ Λ h;rw[ad5,jR,jR]at this;dsimp only at this;omega
def EL{q:Bs}{p:Nat}(h:jJ t o q= .ok (s,p)):Ζ s+o<=p:=by
 unfold jJ at h;split at h;cases h;split at h;cases h;rename_i h1;injection h with h;injection h with h2 h3;have hi:0<=Lib.index (t.drop o) q:=Λ;unfold su at h2;rw[if_pos hi]at h2;rw[<-h2,auz];omega
def akx{x:Tk}(ho:o<=Ζ t)(h:ve t o= .ok (x,o')):Dv x+o<=o'/\1<=x.kind/\x.kind<=6:=by
 unfold ve at h;unfold Dv;split at h;obtain⟨y,h1,rfl⟩:=jV h;have:=EL h1;simp only[abT,ai8,jR]at this ⊢;exact⟨Λ,z12,z12⟩;split at h;obtain⟨y,h1,rfl⟩:=jV h;have:=EL h1;simp only[abT,ai8,jR]at this ⊢;exact⟨Λ,z12,z12⟩;split at h;obtain⟨y,h1,rfl⟩:=jV h;have:=EL h1;simp only[abT,ai8,jR]at this ⊢;exact⟨Λ,z12,z12⟩;split at h;unfold zY at h;split at h;cases h;rename_i nm o2 h2;have hn:=jb h2;obtain⟨y,h1,rfl⟩:=jV h;have:=l9 h1;simp only[abT,ai8,jR]at this ⊢;exact⟨Λ,z12,z12⟩;split at h
 ·unfold EE at h;split at h;cases h;rename_i nm o2 h2;have hn:=jb h2;split at h;cases h;rename_i l o3 h3;have ha:=aaV _ _ _ Λ h3;rw[jR]at ha;split at h
  all_goals
   obtain⟨y,h1,rfl⟩:=jV h;have:=l9 h1;simp only[abT,ai8]at this ⊢;exact⟨Λ,z12,z12⟩
 ·obtain⟨y,h1,rfl⟩:=jV h;have:=Hr _ _ _ h1;simp only[ai8,jR]at this ⊢;exact⟨Λ,z12,z12⟩
def m8(l:List Tk):Nat:=(l.map Dv).sum
def JA(l:List Tk)(x:Tk):m8 (l++[x])=m8 l+Dv x:=by simp[m8]
def Uh{t:Bs}:∀(n o:Nat)(l:List Tk) {l':List Tk},o<=(Ζ t)->m8 l<=o->(∀x∈l,1<=x.kind/\x.kind<=6/\x.off<=Ζ t)->pL t n o l= .ok l'->m8 l'<=(Ζ t)/\∀x∈l',1<=x.kind/\x.kind<=6/\x.off<=Ζ t
 | 0,o,l,l',ho,hl,hk,h=>by
   rw[pL]at h;injection h with h;subst h;exact⟨Λ,hk⟩
 | n+1,o,l,l',ho,hl,hk,h=>by
   rw[pL]at h;split at h;injection h with h;subst h;exact⟨Λ,hk⟩;rename_i bI;split at h;cases h;rename_i x o' hx;have h1:=akx ho hx;have h2:=TL Λ hx;refine Uh n o' _ h2.2.2 ?_ (λy hy=>?_) h;rw[JA];omega;rcases an4.1 hy with hy | hy;exact hk y hy;rw[ahB]at hy;subst hy;exact⟨h1.2.1,h1.2.2,Λ⟩
def aaW{t:Bs}{l:List Tk}(h:Bb t= .ok l):m8 l<=(Ζ t)/\∀x∈l,1<=x.kind/\x.kind<=6/\x.off<=Ζ t:=
 Uh _ 0 [] (alp _) (alp _) (λx hx=>by cases hx) h
def YJ(l:List Tk)(x:Tk)(p:PS):nJ (l++[x]) p=match nJ l p with
  | .error e=>.error e
  | .ok q=>match sB x q with
    | .error e=>.error (e,x.off)
    | .ok q=>.ok q:=by
 induction l generalizing p with
 | nil=>rfl
 | cons y l ih=>
   rw[ai9,nJ,nJ];cases sB y p with
   | error e=>rfl
   | ok q=>exact ih q
def YK{l m:List Tk}{p:PS}{e:Int×Nat}(h:nJ l p= .error e):nJ (l++m) p= .error e:=by
 induction l generalizing p with
 | nil=>cases h
 | cons y l ih=>
   rw[nJ]at h;rw[ai9,nJ];split at h;rename_i h1;injection h with h;subst h;rfl;exact ih h
def ag1:lO p0 0:=⟨z12,z12,(λe=>by cases e),by simp[Lu,p0,Jx]⟩
def G4{α :Type}(F:Except (Int×Nat) α):Prop:=∀e,F= .error e->e.1≠0
def Dw{t:Bs}{stop:UInt8}:∀(n o:Nat)(acc:Bs),G4 (gn t stop n o acc)
 | 0,o,acc=>λe h=>by unfold gn at h;cases h
 | n+1,o,acc=>λe h=>by
   unfold gn at h;split at h;cases h;split at h;cases h;split at h;split at h;rename_i h5;injection h with h;subst h;exact h5;exact Dw n _ _ e h;split at h;injection h with h;subst h;simp;exact Dw n _ _ e h
def EM(t:Bs)(o:Nat){k:Int}(hk:k≠0):G4 (oG t o k):=λe h=>by
 unfold oG at h;split at h;injection h with h;subst h;simp;split at h;injection h with h;subst h;exact hk;cases h
def Ad(t:Bs)(o:Nat)(p:Bs):G4 (mT t o p):=λe h=>by
 unfold mT at h;split at h;injection h with h;subst h;simp;split at h;cases h;injection h with h;subst h;simp
def ag2(t:Bs)(o:Nat):G4 (wU t o):=λe h=>by
 unfold wU at h;split at h;injection h with h;subst h;simp;split at h;injection h with h;subst h;simp;split at h;rename_i h2;injection h with h;subst h;exact Dw _ _ _ _ h2;split at h;injection h with h;subst h;simp;cases h
def Ui{t:Bs}:∀(n o:Nat)(l:List (Bs×Bs)),G4 (oJ t n o l)
 | 0,o,l=>λe h=>by rw[oJ]at h;cases h
 | n+1,o,l=>λe h=>by
   rw[oJ]at h;split at h;cases h;split at h;rename_i h2;injection h with h;subst h;exact EM _ _ z12 _ h2;split at h;injection h with h;subst h;simp;split at h;rename_i h2;injection h with h;subst h;exact Ad _ _ _ _ h2;split at h;rename_i h2;injection h with h;subst h;exact ag2 _ _ _ h2;exact Ui n _ _ e h
def B_(t:Bs)(o:Nat)(q:Bs):G4 (jJ t o q):=λe h=>by
 unfold jJ at h;split at h;injection h with h;subst h;simp;split at h;injection h with h;subst h;simp;cases h
def sC{α β :Type}{f: α -> β}{F:Except (Int×Nat) (α ×Nat)}(hF:G4 F):G4 (Ba f F):=λe h=>hF e (nG h)
def ag3(t:Bs)(o:Nat):G4 (ve t o):=λe h=>by
 unfold ve at h;split at h;exact sC (B_ _ _ _) e h;split at h;exact sC (B_ _ _ _) e h;split at h;exact sC (B_ _ _ _) e h;split at h;unfold zY at h;split at h;rename_i h2;injection h with h;subst h;exact EM _ _ z12 _ h2;exact sC (Ad _ _ _) e h;split at h;unfold EE at h;split at h;rename_i h2;injection h with h;subst h;exact EM _ _ z12 _ h2;split at h;rename_i h2;injection h with h;subst h;exact Ui _ _ _ _ h2;split at h;exact sC (Ad _ _ _) e h;exact sC (Ad _ _ _) e h;exact sC (Dw _ _ _) e h
def NB{t:Bs}:∀(n o:Nat)(l:List Tk),G4 (pL t n o l)
 | 0,o,l=>λe h=>by rw[pL]at h;cases h
 | n+1,o,l=>λe h=>by
   rw[pL]at h;split at h;cases h;split at h;rename_i h2;injection h with h;subst h;exact ag3 _ _ _ h2;exact NB n _ _ e h
def Uj(t:Bs):G4 (Bb t):=NB _ _ _
def JB{t:Bs}:∀(n o:Nat)(l:List Tk) {l':List Tk},pL t n o l= .ok l'->Ζ l'<=Ζ l+n
 | 0,o,l,l',h=>by rw[pL]at h;injection h with h;subst h;omega
 | n+1,o,l,l',h=>by
   rw[pL]at h;split at h;injection h with h;subst h;omega;split at h;cases h;have:=JB n _ _ h;rw[TR]at this;simp only[abT,ai8]at this;omega
def ad6{t:Bs}{l:List Tk}(h:Bb t= .ok l):Ζ l<=Ζ t+1:=by
 have:=JB _ _ _ h;simpa using this
def YL(l:List Tk)(i:Nat):m8 (l.take i)<=m8 l:=by
 have:m8 l=m8 (l.take i)+m8 (l.drop i):=by
  unfold m8;rw[<-List.sum_append, <-List.map_append,List.take_append_drop]
 omega
def ad7(t:Bs)(x:Tk):p8 t x.off= .agg [mi x.off,mi (nr t x.off),mi (Ji t x.off)]:=by
 unfold p8 nr Ji;rw[Int.natCast_add];rfl
def zNd:MV:=.agg [.s [],.l 0 [] .nil,.l 0 [] .nil,.s []]
def NC{O:VH}{B k:Nat}(hk:k<O.N):∀{R:List Rec},qU O B k R->∀r∈R,r.b<O.N
 | [],_,r,h=>by simp at h
 | [x],h,r,hr=>by rw[ahB.1 hr,h.1];exact hk
 | x::p::rest,h,r,hr=>by
   obtain⟨⟨c,_,_,h1⟩,_,_,h2⟩:=h;rcases aja.1 hr with rfl | hr;exact h1.hi;exact NC hk h2 r hr
def ag4{k:Nat}{R:List Rec}(h:BS O B k R tk dj dn tx z):∀x∈eQ k R tk,x<O.N:=by
 have hk:k<O.N:=aev h.c.lt h.c.le;intro x hx;simp only[eQ,aja,an4,aul,Option.mem_toList]at hx;rcases hx with rfl | ((⟨r,hr,rfl⟩ | hx) | hx);exact hk;exact NC hk h.c.chain r hr
 ·obtain⟨r,hr,hq⟩:=Option.bind_eq_some_iff.1 hx;have ht:=h.c.top
  match R,hr,ht with
  | y::R,hr,ht=>
    simp only[List.head?_cons,Option.some.injEq]at hr;subst hr;rcases ht.1 with⟨_,_,e | e⟩ | ⟨j,c,e,_,_,hw⟩;rw[e]at hq;cases hq;rw[e]at hq;cases hq;rw[e]at hq;injection hq with hq;subst hq;exact hw.hi
 ·exact(App.iM h.a hx).2
def ag5(t:Bs)(O:VH)(ht:Ζ t<=65536):VF Ε 174 [.s t] O (aC λm O'=>O.Ge O'/\match lq t with
  | .ok n=>m= .tuple [.agg (eb n),mi 0,.agg [mi 0,mi 0,mi 0]]
  | .error e=>m= .tuple [zNd,mi e.1,p8 t e.2]):=by
 have ia:=aoP t;have sO:∀e,Bb t= .error e->lq t= .error e:=λe h=>by unfold lq;rw[h]
 have qX:∀l,Bb t= .ok l->lq t=(match nJ l p0 with
  | .error e=>.error e
  | .ok p=>if p.st≠[]then .error (13,Ζ t)else if p.dn then .ok p.z else .error (16,Ζ t)):=λl h=>by unfold lq;rw[h];try rfl
 have hW:= @aaW t;have hLn:= @ad6 t;have hNE:=Uj t;generalize Bb t=F at*;generalize lq t=G at*;refine ω 68 [.cell 2 121,.tmp 3,.cell 4 32] func174 ?_;refine κ aJ ?_;refine VC.gen ?_;intro O1 vf;obtain⟨aM,dq,Gu,rT⟩:=jS _ _ vf;clear vf;refine κ aJ ?_;refine π (ia O1 ht) ?_;rintro m O2 ⟨ax,hm⟩;have Bu:=ax.at Gu;have yC:=ax.at rT;have ei:=aM.trans ax;have eG:=ax.N;cases F with
 | error e=>
   dsimp only at hm;subst hm;rw[sO e rfl];unfold p8;simp only[aq];refine ae aJ ?_;refine VC.al ?_;rintro O3 ⟨aB,eH,ea⟩;have KH:=aB.at Bu;have qx:=aB.at yC;have dk:=ei.trans aB;have he0:e.1≠0:=hNE e rfl;refine ξ aJ he0 ?_;refine VC.mJ [] (O2.N) (eH) ?_;intro X;have OU:(O3.set O2.N (.obj X)).hp O.N=_:=Θ KH;have yQ:(O3.set O2.N (.obj X)).hp (O.N+1)=_:=Θ qx;have jU:(O3.set O2.N (.obj X)).hp O2.N=φ (.obj X):=υ _ _ _;have jk:O.Ge (O3.set O2.N (.obj X)):=dk.set Λ _;generalize O3.set O2.N (.obj X)=O4 at*;refine ρ 0 aJ ?_;refine ρ 1 aJ ?_;refine auQ (m:=.agg [.v (Ι Κ e.2),.v (Ι Κ (1+((t.take e.2).count 10:Nat))),.v (Ι Κ ((e.2:Int) - gF (t.take e.2) 10 (t.take e.2).length))]) 2 ?_ ?_;exact ez aJ;simp only[ag];refine ab.op (i:=3) ?_;refine ak aJ OU ?_;refine⟨jU,?_⟩;refine ρ 4 aJ ?_;refine ab.op (i:=5) ?_;refine ak aJ yQ ?_;refine⟨jU,?_⟩;refine ab.mK [] ?_;refine ae aJ ?_;exact⟨((jk.set (an5 _) _).set (as0 _) _).set (by omega:O.N<=O2.N) _,rfl⟩
 | ok l=>
   obtain⟨pl,rfl,ca⟩:=hm;obtain⟨Qu,aky⟩:=hW rfl;have hG:=qX l rfl;clear sO qX;refine ak aJ @aq ?_;refine VC.al ?_;rintro O3 ⟨aB,eH,ea⟩;have KH:=aB.at Bu;have qx:=aB.at yC;have dk:=ei.trans aB;refine κ aJ ?_;refine κ aJ ?_;refine VC.bx ?_;rintro O4 ⟨aV,fJ,fe⟩;refine VC.wkc (k:=O3.N) (ds:=eb X8++uo [] .nil 0 γ γ) fJ (fw.cons (Wk.refl _) (fw.cons Wk.tok (fw.cons Wk.tok (fw.refl _)))) ?_;refine VC.gen ?_;intro O5 rF;((((have i_:O5.hp O3.N=φ (.cells (eb X8++uo [] .nil 0 γ γ)):=by rw[rF];exact υ _ _ _);have ie:O5.N=O3.N+1:=by rw[rF];exact fe);have h5:∀i,i<O3.N->O5.hp i=O3.hp i:=λi hi=>by rw[rF];exact Θ (aV.hp i hi));have mA:O.Ge O5:=by rw[rF];exact(dk.trans aV).set Λ _);clear rF;have hz5:=(h5 _ Λ).trans KH;have Qb:=(h5 _ Λ).trans qx;generalize hk:O3.N=k at*;have hBP:BP O5 (k+1) k [k] p0:=⟨[],.nil,⟨⟨Nat.lt_succ_self _,Λ,i_,rfl,trivial,trivial⟩,trivial⟩,rfl,λx hx=>hx⟩
   have hlen:ra (iv Ε) 151 pl=φ (.v (Ι Κ (Ζ l))):=by
    rcases ca with⟨h0,_,rfl | rfl⟩ | ⟨k,c,rfl,_⟩;rw[h0];exact CE IH;rw[h0];exact CE IH;exact Ml IH
   rw[iG,IH]at hlen;(have xh:Ζ l<=1000000:=by have:=hLn rfl;omega);refine Ξ [0,2,4,8] (λ_:PS=>[.s t,.p O.N 0,.p (O.N+1) 0,.p k 0]) (λp O'=>nJ l p0= .ok p/\lO p (m8 l)/\Kp O5 O' [k]/\∃U,BP O' (k+1) k U p) ?_ ?_;rotate_left
   ·rintro p O6 ⟨cD,bH,hkp,U,YI⟩;rw[cD]at hG;dsimp only at hG;have hO6:∀j,j<k->O6.hp j=O5.hp j:=λj hj=>hkp.2 j Λ z43
    have hz6:=(hO6 _ Λ).trans hz5;have Uk:=(hO6 _ Λ).trans Qb;have mQ:=hkp.1;have aaX:O.Ge O6:=⟨Λ,λj hj=>(hO6 j Λ).trans (mA.hp j hj)⟩;obtain⟨R,tk,hb,hR,hUo⟩:=YI;have qP:=hb.c.cells;refine κ aJ ?_;refine π (al3 t (Ζ t) _ Λ (an5 _)) ?_;rintro _ O7 ⟨rfl,dB⟩;have At:=(dB.hp k Λ).trans qP;have hz7:=dB.at hz6;have hp7:=dB.at Uk;have wS:=aaX.trans dB;have sk:=dB.N;have aaY:p8 t (Ζ t)= .agg [mi (Ζ t),mi (1+((t.take (Ζ t)).count 10:Nat)),mi ((Ζ t:Int) - gF (t.take (Ζ t)) 10 (t.take (Ζ t)).length)]:=rfl;simp only[aq]at aaY;generalize (1+((t.take (Ζ t)).count 10:Nat):Int)=y1 at*;generalize ((Ζ t:Int) - gF (t.take (Ζ t)) 10 (t.take (Ζ t)).length)=y2 at*;rw[aaY];refine ae aJ ?_;refine VC.al ?_;rintro O8 ⟨gR,Ax,Ar⟩;have yR:=(gR.hp k Λ).trans At;have hz8:=gR.at hz7;have Ul:=gR.at hp7;have Um:=wS.trans gR;obtain⟨b0,b1,b2,b3,oZ⟩:=vj (gj R (eb p.z) hb.c.zl);unfold uo at yR;rw[oZ]at yR;simp only[aq,bg,ai9,ai_]at yR;cases R with
    | cons r R=>
      (have eD:p.st≠[]:=by rw[<-hR];simp[ur]);rw[if_pos eD]at hG;subst hG;dsimp only;rw[aaY]
      have PQ:Ζ R<=64:=by
       have:=bH.len;rw[<-hR]at this;unfold ur at this;rw[apI,abT]at this;omega
      simp only[abT]at yR;refine ξ aJ yR ?_;refine VC.mJ [] (O7.N) (Ax) ?_;intro X;have OU:((O8).set (O7.N) (.obj X)).hp O.N=_:=Θ hz8;have yQ:((O8).set (O7.N) (.obj X)).hp (O.N+1)=_:=Θ Ul;have jU:((O8).set (O7.N) (.obj X)).hp (O7.N)=φ (.obj X):=υ _ _ _;have jk:O.Ge ((O8).set (O7.N) (.obj X)):=Um.set Λ _;generalize (O8).set (O7.N) (.obj X)=Ox at*;refine ρ 0 aJ ?_;refine auQ (m:=.agg [.v (Ι Κ (Ζ t)),.v (Ι Κ y1),.v (Ι Κ y2)]) 1 ?_ ?_;exact ez aJ;simp only[ag];refine ab.op (i:=2) ?_;refine ak aJ OU ?_;refine⟨jU,?_⟩;refine ρ 3 aJ ?_;refine ab.op (i:=4) ?_;refine ak aJ yQ ?_;refine⟨jU,?_⟩;refine ab.mK [] ?_;refine ae aJ ?_;exact⟨((jk.set (an5 _) _).set (as0 _) _).set (by omega:O.N<=O7.N) _,rfl⟩
    | nil=>
      have eD:p.st=[]:=hR.symm;rw[if_neg (by rw[eD];simp)]at hG;simp only[ai8]at yR;cases KL:p.dn with
      | false=>
        rw[KL]at hG yR;rw[if_neg z10]at hG;subst hG;dsimp only;rw[aaY];refine ξ aJ yR ?_;refine VC.mJ [] (O7.N) (Ax) ?_;intro X;have OU:((O8).set (O7.N) (.obj X)).hp O.N=_:=Θ hz8;have yQ:((O8).set (O7.N) (.obj X)).hp (O.N+1)=_:=Θ Ul;have jU:((O8).set (O7.N) (.obj X)).hp (O7.N)=φ (.obj X):=υ _ _ _;have jk:O.Ge ((O8).set (O7.N) (.obj X)):=Um.set Λ _;generalize (O8).set (O7.N) (.obj X)=Ox at*;refine ρ 0 aJ ?_;refine auQ (m:=.agg [.v (Ι Κ (Ζ t)),.v (Ι Κ y1),.v (Ι Κ y2)]) 1 ?_ ?_;exact ez aJ;simp only[ag];refine ab.op (i:=2) ?_;refine ak aJ OU ?_;refine⟨jU,?_⟩;refine ρ 3 aJ ?_;refine ab.op (i:=4) ?_;refine ak aJ yQ ?_;refine⟨jU,?_⟩;refine ab.mK [] ?_;refine ae aJ ?_;exact⟨((jk.set (an5 _) _).set (as0 _) _).set (by omega:O.N<=O7.N) _,rfl⟩
      | true=>
        rw[KL]at hG yR;rw[if_pos rfl]at hG;subst hG;dsimp only;have oZ:eb p.z=[b0,b1,b2,b3]:=oZ;refine ξ aJ yR ?_;generalize p.z=pz at*;obtain⟨zn,za,gJ,zt⟩:=pz;rw[eb]at oZ;injection oZ with e1 oZ;injection oZ with e2 oZ;injection oZ with e3 oZ;injection oZ with e4 oZ;subst e1;subst e2;subst e3;subst e4;refine ι (bo aJ yR hz8 Ul ?_);rw[eb];exact⟨(Um.set (an5 _) _).set (as0 _) _,rfl⟩
   refine ξ aJ @hlen ?_;refine Γ ?_;refine Υ [28] [0,2,4,8,26,27] (λi:Nat=>[mi i]) (λi O'=>i<=(Ζ l)/\Kp O5 O' [k]/\∃p U,nJ (l.take i) p0= .ok p/\lO p (m8 (l.take i))/\BP O' (k+1) k U p/\(∀x∈U,(x=k\/O5.N<=x)/\x<O'.N)) (λi=>(Ζ l) - i) (0) ?_ ?_;exact⟨alp _,Kp.refl,p0,[k],rfl,ag1,hBP,λx hx=>by rw[ahB]at hx;subst hx;exact⟨.inl rfl,Λ⟩⟩;rintro i O6 ⟨hi,ND,p,U,cD,bH,YI,hU⟩;dsimp only at hi ⊢;by_cases fQ:i<Ζ l;rotate_left
   ·obtain rfl:i=Ζ l:=Λ
    rw[List.take_length]at cD bH;refine ο aJ @aq ?_;exact aE.mk p ⟨cD,bH,ND,U,YI⟩
   obtain⟨kr,cr,rfl,lD⟩:∃kr cr,pl= .bk kr 0 (Ζ l) cr/\Row O2 149 7 O1.N kr cr (l.flatMap (xp t)):=by
    rcases ca with⟨h0,_⟩ | ⟨kr,cr,hp,_,_,h⟩;omega;exact⟨kr,cr,hp,h⟩
   obtain⟨sp,B5,GQ⟩:=lD.cells;have arf:=lD.hi;have arh:O6.hp kr=φ (.cells (l.flatMap (xp t)++sp)):=(ND.2 kr Λ z43).trans ((h5 kr Λ).trans ((aB.hp kr arf).trans B5));have vR:(l.flatMap (xp t)).length=(Ζ l)*7:=aP (yI t) l
   have bh:((l.flatMap (xp t)++sp).drop (i*7)).take 7=xp t l[i]:=by
    rw[List.drop_append_of_le_length Λ,aus (by rw[aui];omega)];exact bY (yI t) l i fQ
   (have hCl:i*7+7<=(l.flatMap (xp t)++sp).length:=by rw[TR];omega);have fP:=bN l i fQ
   have hrs:nJ (l.take (i+1)) p0=(match sB l[i] p with
     | .error e=>.error (e,l[i].off)
     | .ok q=>.ok q):=by rw[fP,YJ,cD];try rfl
   have hws:m8 (l.take (i+1))=m8 (l.take i)+Dv l[i]:=by rw[fP,JA]
   have qu:=YL l (i+1);have Am:=aky l[i] (List.getElem_mem fQ)
   have aoY:∀e,nJ (l.take (i+1)) p0= .error e->G= .error e:=λe h=>by
    have:=YK (m:=l.drop (i+1)) h;rw[List.take_append_drop]at this;rw[this]at hG;exact hG
   have cz:=ad7 t l[i];clear cD fP;have ari:xp t l[i]=[mi l[i].kind,.s l[i].name,.l l[i].attrs.length (l[i].attrs.flatMap bp) .av,.s l[i].text,mi l[i].off,mi (nr t l[i].off),mi (Ji t l[i].off)]:=rfl;generalize hxg:l[i]=x at*;generalize l.flatMap (xp t)++sp=C at*;refine ξ aJ @aq ?_;refine κ aJ ?_;refine Δ (Γ ?_);rw[ari]at bh;simp only[aq]at bh;refine θ (aF aJ arh bh ?_);refine VC.al ?_;rintro O7 ⟨dB,Ay,sk⟩;refine ξ aJ Ay ?_;refine π (ad4 (YI.ge dB) bH (λy hy=>by have:=(hU y hy).2;omega) t x Λ ⟨Am.1,Am.2.1⟩) ?_;rintro m O8 ⟨GK,hm⟩;have Ax:=(GK.2 _ Λ (λhm=>by have:=(hU _ hm).2;omega)).trans Ay;have atC:k<O5.N:=Λ
   have hs8:∀j,j<k->O8.hp j=O5.hp j:=λj hj=>by
    (have hjU:j ∉ U:=λhm=>by have:=(hU _ hm).1;omega);have h65:=ND.1;rw[GK.2 j Λ hjU,dB.hp j Λ,ND.2 j Λ z43]
   have hz8:=(hs8 _ Λ).trans hz5;have Ul:=(hs8 _ Λ).trans Qb;have Ar:=GK.1;have h65:=ND.1;have Um:O.Ge O8:=⟨Λ,λj hj=>(hs8 j Λ).trans (mA.hp j hj)⟩;cases eD:sB x p with
   | error e=>
     rw[eD]at hm hrs;dsimp only at hm hrs;subst hm;have hGe:=aoY _ hrs;subst hGe;dsimp only;rw[cz];simp only[aq];(((have he:e≠0:=by rcases Jz eD with rfl | rfl | rfl<;>decide);refine ae aJ ?_;refine ξ aJ @he ?_;refine ν aJ ?_;refine VC.mJ [] (O6.N) (Ax) ?_;intro X;have OU:((O8).set (O6.N) (.obj X)).hp O.N=_:=Θ hz8;have yQ:((O8).set (O6.N) (.obj X)).hp (O.N+1)=_:=Θ Ul;have jU:((O8).set (O6.N) (.obj X)).hp (O6.N)=φ (.obj X):=υ _ _ _;have jk:O.Ge ((O8).set (O6.N) (.obj X)):=Um.set Λ _;generalize (O8).set (O6.N) (.obj X)=Ox at*;refine ρ 0 aJ ?_;refine ρ 1 aJ ?_;refine ρ 2 aJ ?_;refine auQ (m:=.agg [.v (Ι Κ x.off),.v (Ι Κ (nr t x.off:Nat)),.v (Ι Κ (Ji t x.off))]) 3 ?_ ?_);exact ez aJ);simp only[ag];refine ab.op (i:=4) ?_;refine ak aJ OU ?_;refine⟨jU,?_⟩;refine ρ 5 aJ ?_;refine ab.op (i:=6) ?_;refine ak aJ yQ ?_;refine⟨jU,?_⟩;refine ab.mK [] ?_;refine ae aJ ?_;exact⟨((jk.set (an5 _) _).set (as0 _) _).set (by omega:O.N<=O6.N) _,rfl⟩
   | ok q=>
     rw[eD]at hm hrs;dsimp only at hrs;obtain⟨rfl,U2,hU2,hq⟩:=hm;obtain⟨R2,S8,bV,arj,La⟩:=hq;have JC:BP O8 (k+1) k (eQ k R2 S8) q:=⟨R2,S8,bV,arj,λ_ h=>h⟩;have yS:=jSx i;refine ak aJ @aq ?_;refine ο aJ yS ?_;refine ο aJ yS ?_;refine aw.N (i+1) ⟨Λ,?_,q,eQ k R2 S8,hrs,?_,JC,λy hy=>?_⟩
     ·refine(ND.more (Kp.ge dB (S:=[])) (λy hy=>by cases hy)).more GK λy hy=>?_
      rcases(hU y hy).1 with e | e;exact .inl (by simp[e]);exact .inr e
     ·rw[hws];exact NA bH eD
     ·refine⟨?_,ag4 bV y hy⟩;rcases hU2 y (La y hy)with e | e;exact(hU y e).1;exact .inr Λ
def iA:=Rn lp<|Rn SQ<|Rn T95 Ep
def dP{α :Type}{f: α ->Η}{k:Nat}(hf:∀x,(f x).length=k){L:List α}{x: α}(hj:L[j]?=φ x)(hi:(f x)[i]?=φ m):(L.flatMap f++sp)[j*k+i]?=φ m:=by
 induction L generalizing j with
 | nil=>simp at hj
 | cons y L ih=>
   rw[List.flatMap_cons,an2];cases j with
   | zero=>
     simp only[List.getElem?_cons_zero,Option.some.injEq]at hj;subst hj;have:=(Ro.1 hi).1;rw[Nat.zero_mul,apK,auk this];exact hi
   | succ j=>
     simp only[List.getElem?_cons_succ]at hj;(have e:(j+1)*k+i=(f y).length+(j*k+i):=by rw[hf,Nat.succ_mul];omega);rw[e,an6 Λ,show(f y).length+(j*k+i) - (f y).length=j*k+i by omega];exact ih hj
def vk(h:L[i]?=φ m):L.set i m=L:=by
 refine auw λj=>?_
 by_cases e:i=j;subst e;rw[List.getElem?_set_self (Ro.1 h).1,h];rw[auq e]
def Un(L:List Dp)(tk:Tok)(O:VH)(hn:Ζ L<=10000)(hx:∀d∈L,Ζ d.x<=10000):VF Ε 176 [.l (Ζ L) (L.flatMap aG) tk] O (aC λm O'=>∃t,m= .l (Ζ L) (L.flatMap aG) t/\O.Ge O'):=by
 have cz:=aP cW L;refine ω 24 [.tmp 2] func176 ?_;refine κ iA ?_;refine κ iA ?_;refine π (BZ L tk O) ?_;rintro _ O2 ⟨ax,ox⟩;rcases ox with⟨h0,_,hp⟩ | ⟨k,c,rfl,xf,_,ca⟩;obtain rfl:L=[]:=an7 h0;rcases hp with rfl | rfl;refine ae iA ?_;refine Ξ [3] (λ_:Unit=>[.l 0 [] .nil]) (λ_ O'=>O'=O2) ?_ ?_;refine κ iA ?_;refine Γ ?_;refine Υ [9] [3,8] (λj:Nat=>[mi 0]) (λj O'=>O'=O2) (λj=>0) (0) ?_ ?_;rfl;rintro j O3 eO;rw[eO];clear eO O3;refine ν iA ?_;exact aE.mk () rfl;intro _ O9 eO;rw[eO];clear eO O9;refine ν iA ?_;exact⟨_,rfl,ax⟩;refine ae iA ?_;refine Ξ [3] (λ_:Unit=>[.l 0 [] .full]) (λ_ O'=>O'=O2) ?_ ?_;refine κ iA ?_;refine Γ ?_;refine Υ [9] [3,8] (λj:Nat=>[mi 0]) (λj O'=>O'=O2) (λj=>0) (0) ?_ ?_;rfl;rintro j O3 eO;rw[eO];clear eO O3;refine ν iA ?_;exact aE.mk () rfl;intro _ O9 eO;rw[eO];clear eO O9;refine ν iA ?_;exact⟨_,rfl,ax⟩;obtain⟨sp,hc,lU⟩:=ca.cells;have j6:=ca.lo;have TO:=ca.hi;refine ae iA ?_;refine Ξ [3] (λ_:Unit=>[.bk k 0 (Ζ L) c]) (λ_ O'=>O2.Ge O') ?_ ?_
 ·refine κ iA ?_;refine Γ ?_;refine Υ [9] [3,8] (λj:Nat=>[mi j]) (λj O'=>O2.Ge O'/\j<=Ζ L) (λj=>(Ζ L) - j) (0) ?_ ?_;exact⟨VH.Ge.refl _,alp _⟩;rintro j O3 ⟨aB,hj⟩;by_cases bu:j<Ζ L;rotate_left
  ·obtain rfl:j=Ζ L:=Λ
   refine ν iA ?_;exact aE.mk () aB
  have en:=(aB.hp k TO).trans hc;have bh:(L.flatMap aG++sp)[j*8+7]?=φ (.l L[j].x.length (L[j].x.flatMap cI) .av):=dP cW (List.getElem?_eq_getElem bu) rfl;have hxj:=hx L[j] (List.getElem_mem bu);generalize L[j].x=X at*;generalize L.flatMap aG++sp=C at*;have jD:=vk bh;have GK:=(List.getElem?_eq_some_iff.1 bh).1;have ew:=jSx j;refine κ iA ?_;refine κ iA ?_;refine Δ (Γ ?_);refine κ iA ?_;refine ι (aF iA en bh ?_);refine π (sy X .av O3) ?_;rintro _ O4 ⟨rfl,aV⟩;have ff:=(aV.hp k (by have:=aB.N;omega)).trans en;refine bo iA ff bh jD ?_;rw[VH.zA ff];refine ο iA ew ?_;exact aw.N (j+1) ⟨aB.trans aV,bu⟩
 intro _ O9 bq;have Qv:=(bq.hp k TO).trans hc;refine VC.freeze 3 (sz:=(Ζ L)*8) rfl Qv (by rw[TR,cz];omega) ?_;have fP:((L.flatMap aG++sp).drop 0).take ((Ζ L)*8)=L.flatMap aG:=by rw[auD,aus (by rw[cz];exact an5 _), <-cz,List.take_length]
 rw[fP];have vm:=ax.trans bq;have lM:O.Ge (O9.kill k):=⟨vm.N,λi hi=>(VH.lF _).trans (vm.hp i hi)⟩;refine ν iA ?_;exact⟨_,rfl,lM⟩
def JD(L:List Dp)(tk:Tok)(O:VH)(hn:Ζ L<=10000)(hx:∀d∈L,Ζ d.x<=10000):VF Ε 176 [.l (Ζ L) (L.flatMap aG) tk] O (aC λm O'=>m= .l (Ζ L) (L.flatMap aG) .av/\O.Ge O'):=
 VF.wkR (Un L tk O hn hx) λm O' ⟨t,h1,h3⟩=>⟨_,h1▸Wk.tok,rfl,h3⟩
def amc(p:Pm):Prop:=Ζ p.props<=10000/\(Ζ p.bL)<=10000/\(Ζ p.dH)<=10000/\(∀d∈p.bL,Ζ d.x<=10000)/\∀d∈p.dH,Ζ d.x<=10000
def aoZ(p:Pm)(O:VH)(hp:amc p):VF Ε 148 [.agg (dy p)] O (aC λm O'=>m= .agg (dy p)/\O.Ge O'):=by
 obtain⟨b,⟨pg,pa,pv⟩,g,a,v,pk,P,M,D⟩:=p;obtain⟨h1,h2,h3,h4,h5⟩:=hp;dsimp only at h1 h2 h3 h4 h5;simp only[dy];refine ω 16 [.cell 2 95] func148 ?_;refine κ iA ?_;refine VC.gen ?_;rintro O1 vf;obtain⟨aM,dq,eo,cS⟩:=jS _ _ vf;clear vf;refine ξ iA eo ?_;refine π (Jq P .av O1) ?_;rintro _ O2 ⟨rfl,ax⟩;have iO:=ax.at eo;have bV:=ax.at cS;have eG:=ax.N;refine ak iA iO ?_;have hs:(([mb b,.s pg,.s pa,.s pv,.s g,.s a,.s v,.s pk,.l (Ζ P) (P.flatMap bp) .av,.l (Ζ M) (M.flatMap aG) .av,.l (Ζ D) (D.flatMap aG) .av]:Η)).set 8 (.l (Ζ P) (P.flatMap bp) .av)=[mb b,.s pg,.s pa,.s pv,.s g,.s a,.s v,.s pk,.l (Ζ P) (P.flatMap bp) .av,.l (Ζ M) (M.flatMap aG) .av,.l (Ζ D) (D.flatMap aG) .av]:=rfl;rw[VH.zA iO];refine Δ ?_;refine VC.mJ [7,8,9] (O.N) (iO) ?_;intro X;refine ρ 0 iA ?_;refine auQ (m:=.l (Ζ M) (M.flatMap aG) .av) 1 ?_ ?_;exact ez iA;simp only[ag];refine ρ 3 iA ?_;refine auQ (m:=.l (Ζ D) (D.flatMap aG) .av) 4 ?_ ?_;exact ez iA;simp only[ag];have hX:=υ O2 O.N (.obj X);have ea:(O2.set O.N (.obj X)).N=O2.N:=rfl;have hbX:=(τ O2 (.obj X) (by omega:O.N+1≠O.N)).trans bV;have hgX:O.Ge (O2.set O.N (.obj X)):=(aM.trans ax).set (an5 _) _;generalize O2.set O.N (.obj X)=O3 at*;refine ab.call (i:=2) (JD M .av O3 h2 h4) ?_;rintro _ O4 ⟨rfl,aV⟩;simp only[ag];refine⟨aV.at hX,?_⟩;refine ρ 6 iA ?_;refine ab.call (i:=5) (JD D .av O4 h3 h5) ?_;rintro _ O5 ⟨rfl,bB⟩;simp only[ag];have nC:=aV.trans bB;refine⟨nC.at hX,?_⟩;have dX:=nC.at hbX;have mA:=hgX.trans nC;refine ab.mK [(7,.one),(8,.au),(9,.one)] ?_;refine ae iA ?_;refine ο iA dX ?_;exact(((mA.set (an5 _) _).set (an5 _) _).set (an5 _) _).set (as0 _) _
def oK:=Rn iA<|Rn F7<|Rn T34<|Rn T32 T97
def Uo:∀{l:List Tk} {p q:PS} {L:Nat},lO p L->nJ l p= .ok q->lO q (L+m8 l)
 | [],p,q,L,h,e=>by
   rw[nJ]at e;injection e with e;subst e;simpa[m8]using h
 | x::l,p,q,L,h,e=>by
   rw[nJ]at e;split at e;cases e;rename_i p' hp';have h2:=Uo (NA h hp') e;(have:m8 (x::l)=Dv x+m8 l:=by simp[m8]);rw[this, <-Nat.add_assoc];exact h2
def JE{n:Nd}(h:lq t= .ok n):j7 n<=Ζ t+4096:=by
 unfold lq at h;split at h;cases h;rename_i l hl;have hw:=(aaW hl).1;split at h;cases h;rename_i p hp;have hk:=Uo ag1 hp;have h1:=hk.wt;have h2:=hk.dj;split at h;cases h;split at h;rename_i hd;injection h with h;subst h;unfold Lu at h1;rw[if_pos hd]at h1;omega;cases h
def ad8{n:Nd}(ht:Ζ t<=65536)(h:lq t= .ok n):j7 n<=1000000:=by
 have:=JE h;omega
def Up:∀{l:List Tk} {p:PS} {e:Int×Nat},nJ l p= .error e->e.1≠0
 | [],p,e,h=>by cases h
 | x::l,p,e,h=>by
   rw[nJ]at h;split at h;rename_i h1;injection h with h;subst h;have:=Jz h1;show _≠(0:Int);omega;exact Up h
def JF(t:Bs):G4 (lq t):=λe h=>by
 unfold lq at h;split at h;rename_i h1;injection h with h;subst h;exact Uj _ _ h1;split at h;rename_i h1;injection h with h;subst h;exact Up h1;split at h;injection h with h;subst h;simp;split at h;cases h;injection h with h;subst h;simp
structure fa where
 e:Int
 g:Gv
 p1:Int
 p2:Int
 p3:Int
 w:Bs
 deriving DecidableEq
def gV(x:fa):Η:=[mi x.e,.s x.g.g,.s x.g.a,.s x.g.v,mi x.p1,mi x.p2,mi x.p3,.s x.w]
def ja:fa:=⟨0,⟨[],[],[]⟩,0,0,0,[]⟩
def kh(t:Bs)(u:Int)(s:Int)(p:Pm)(x:fa):Η:=[.s t,.v (.int .u32 u),.v (.int .i32 s),.v (.int .u32 0)]++dy p++gV x
def p_(t:Bs)(o:Nat):Int×Int×Int:=((o:Int),(1+((t.take o).count 10:Nat):Int),(o:Int) - gF (t.take o) 10 (t.take o).length)
def ad9(t:Bs)(o:Nat):p8 t o= .agg [mi (p_ t o).1,mi (p_ t o).2.1,mi (p_ t o).2.2]:=rfl
def iu(g:Gv)(t:Bs):Except fa Pm:=match lq t with
 | .error e=>.error ⟨e.1,g,(p_ t e.2).1,(p_ t e.2).2.1,(p_ t e.2).2.2,[]⟩
 | .ok n=>match uk n with
   | .error e=>.error ⟨e.1,g,0,0,0,e.2⟩
   | .ok p=>.ok p
def rP:Except fa Pm->Pm
 | .ok p=>p
 | .error _=>nW
def rX:Except fa Pm->fa
 | .ok _=>ja
 | .error x=>x
def Ca{α :Type}(F:Except (Int×Bs) α):Prop:=∀e,F= .error e->e.1≠0
def pN(x:Nd)(w n:Bs):Ca (di x w n):=λe h=>by
 unfold di at h;split at h;cases h;cases h;injection h with h;subst h;simp
def NG(x:Nd)(w:Bs)(b:Bool):Ca (pF x w b):=λe h=>by
 unfold pF at h;split at h;injection h with h;subst h;simp;cases h
def Ae(x:Nd)(w n:Bs)(m:Bool)(r:Bs->Bool):Ca (c_ x w n m r):=λe h=>by
 unfold c_ at h;split at h;rename_i h1;injection h with h;subst h;exact pN _ _ _ _ h1;unfold I6 at h;split at h;split at h;injection h with h;subst h;simp;cases h;rename_i h1;injection h with h;subst h;exact NG _ _ _ _ h1;split at h;cases h;injection h with h;subst h;simp
def JG(w:Bs):∀(l:List Nd)(L:List (Bs×Bs)),Ca (ng w l L)
 | [],L,e,h=>by cases h
 | k::r,L,e,h=>by
   rw[ng]at h;cases hb:L.any (·.1==k.nm)with
   | true=>rw[hb]at h;injection h with h;subst h;simp
   | false=>
     rw[hb]at h;dsimp only[cond_false]at h;split at h;rename_i h1;injection h with h;subst h;exact NG _ _ _ _ h1;exact JG w r _ e h
def YM(x:Nd)(w:Bs):Ca (ll x w):=λe h=>by
 unfold ll at h;split at h;rename_i h1;injection h with h;subst h;exact pN _ _ _ _ h1;cases h;split at h;injection h with h;subst h;simp;exact JG _ _ _ _ h
def NH(x:Nd)(w n:Bs):Ca (oD x w n):=λe h=>by
 unfold oD at h;split at h;injection h with h;subst h;simp;cases h
def akz(k:Nd×Bs):Ca (exE k):=λe h=>by
 unfold exE at h;repeat (split at h; · rename_i h1;injection h with h;subst h;exact Ae _ _ _ _ _ _ h1)
 cases h
def Uq:∀(l:List (Nd×Bs))(X:List iR),Ca (wT l X)
 | [],X,e,h=>by cases h
 | k::r,X,e,h=>by
   rw[wT]at h;split at h;rename_i h1;injection h with h;subst h;exact akz _ _ h1;exact Uq r _ e h
def ag6(x:Nd)(w:Bs):Ca (u_ x w):=λe h=>by
 unfold u_ at h;split at h;rename_i h1;injection h with h;subst h;exact pN _ _ _ _ h1;cases h;split at h;rename_i h1;injection h with h;subst h;exact NH _ _ _ _ h1;exact Uq _ _ _ h
def ag7(x:Nd)(w:Bs)(m:Bool):Ca (De x w m):=λe h=>by
 unfold De at h;repeat (split at h; · rename_i h1;injection h with h;subst h;exact Ae _ _ _ _ _ _ h1)
 unfold pJ at h;split at h;rename_i h1;injection h with h;subst h;exact ag6 _ _ _ h1;cases h
def NI(m:Bool):∀(l:List (Nd×Bs))(D:List Dp),Ca (qR m l D)
 | [],D,e,h=>by cases h
 | k::r,D,e,h=>by
   rw[qR]at h;split at h;rename_i h1;injection h with h;subst h;exact ag7 _ _ _ _ h1;exact NI m r _ e h
def NJ(x:Nd)(w:Bs)(m:Bool):Ca (lN x w m):=λe h=>by
 unfold lN at h;split at h;rename_i h1;injection h with h;subst h;exact pN _ _ _ _ h1;cases h;split at h;rename_i h1;injection h with h;subst h;exact NH _ _ _ _ h1;exact NI _ _ _ _ h
def ag8(x:Nd)(w:Bs):Ca (vg x w):=λe h=>by
 unfold vg at h;split at h;rename_i h1;injection h with h;subst h;exact pN _ _ _ _ h1;cases h;exact NJ _ _ _ _ h
def ag9(x:Nd)(w:Bs):Ca (vh x w):=λe h=>by
 unfold vh at h;split at h;rename_i h1;injection h with h;subst h;exact pN _ _ _ _ h1;cases h
 ·(repeat (split at h; · rename_i h1;injection h with h;subst h;exact Ae _ _ _ _ _ _ h1));cases h
def NK(x:Nd):Ca (uk x):=λe h=>by
 unfold uk at h;cases hb:(x.nm==ui)with
 | false=>rw[hb]at h;injection h with h;subst h;simp
 | true=>
   rw[hb]at h;dsimp only[cond_true]at h;split at h;rename_i h1;injection h with h;subst h;exact ag9 _ _ _ h1;(((((((repeat (split at h; · rename_i h1;injection h with h;subst h;exact Ae _ _ _ _ _ _ h1));split at h);rename_i h1;injection h with h;subst h;exact YM _ _ _ h1);split at h);rename_i h1;injection h with h;subst h;exact ag8 _ _ _ h1);split at h);rename_i h1;injection h with h;subst h;exact NJ _ _ _ _ h1);cases h
def ad_{g:Gv}{x:fa}(h:iu g t= .error x):x.e≠0:=by
 unfold iu at h;split at h;rename_i h1;injection h with h;subst h;exact JF _ _ h1;split at h;rename_i h1;injection h with h;subst h;exact NK _ _ h1;cases h
structure Az(d:Dp):Prop where
 g:Ζ d.g<=1024
 a:Ζ d.a<=1024
 v:Ζ d.v<=1024
 t:Ζ d.t<=1024
 c:Ζ d.c<=1024
 s:0<=d.s/\d.s<=6
 x:Ζ d.x<=1024
structure JH(p:Pm):Prop where
 tx:Ζ p.par.g<=1024/\(Ζ p.par.a)<=1024/\(Ζ p.par.v)<=1024/\(Ζ p.g)<=1024/\(Ζ p.a)<=1024/\(Ζ p.v)<=1024/\(Ζ p.pk)<=1024
 pl:Ζ p.props<=1024
 pn:∀e∈p.props,Ζ e.1<=100000/\(Ζ e.2)<=1024
 ml:Ζ p.bL<=1024
 mn:∀d∈p.bL,Az d
 dl:Ζ p.dH<=1024
 dn:∀d∈p.dH,Az d
def NL{x:Nd}{b:Bool}(h:pF x w b= .ok s):Ζ s<=1024:=by
 unfold pF at h;split at h;cases h;injection h with h;subst h;omega
def jc{x:Nd}{n:Bs}{m:Bool}{r:Bs->Bool}(h:c_ x w n m r= .ok s):Ζ s<=1024:=by
 unfold c_ at h;split at h;cases h;unfold I6 at h;split at h;split at h;cases h;injection h with h;subst h;simp;cases h;split at h;injection h with h;subst h;rename_i h1 _;exact NL h1;cases h
def JI(w:Bs):∀(l:List Nd)(L:List (Bs×Bs)) {P:List (Bs×Bs)},ng w l L= .ok P->(∀k∈l,Ζ k.nm<=100000)->(∀e∈L,Ζ e.1<=100000/\(Ζ e.2)<=1024)->Ζ P<=Ζ L+(Ζ l)/\∀e∈P,Ζ e.1<=100000/\(Ζ e.2)<=1024
 | [],L,P,h,hl,hL=>by rw[ng]at h;injection h with h;subst h;exact⟨auy _ _,hL⟩
 | k::r,L,P,h,hl,hL=>by
   rw[ng]at h;cases hb:L.any (·.1==k.nm)with
   | true=>rw[hb]at h;cases h
   | false=>
     rw[hb]at h;dsimp only[cond_false]at h;split at h;cases h
     ·rename_i h1
      have:=JI w r _ h (λk hk=>hl k (atM _ hk)) (λe he=>by
       rcases an4.1 he with he | he;exact hL e he;rw[ahB.1 he];exact⟨hl k (List.mem_cons_self ..),NL h1⟩)
      refine⟨?_,this.2⟩;have:=this.1;simp only[TR,abT,ai8]at this ⊢;omega
def ark(x:Nd):Ζ x.nm<=j7 x:=by
 obtain⟨n,a,k,t⟩:=x;rw[zS];show (Ζ n)<=_;omega
def YN{x:Nd}{P:List (Bs×Bs)}(h:ll x w= .ok P)(hx:j7 x<=100000):Ζ P<=1024/\∀e∈P,Ζ e.1<=100000/\(Ζ e.2)<=1024:=by
 unfold ll at h;split at h;cases h;injection h with h;subst h;exact⟨alp _,z10⟩;rename_i y wy h1;split at h;cases h;have hy:=(so h1).1;have:=JI _ _ _ h (λk hk=>by have:=Qa hk;have:=ark k;omega) z10;rw[ai8]at this;exact⟨Λ,this.2⟩
def Ur:∀(l:List (Nd×Bs))(X:List iR) {Y:List iR},wT l X= .ok Y->Ζ Y=Ζ X+Ζ l
 | [],X,Y,h=>by rw[wT]at h;injection h with h;subst h;rfl
 | k::r,X,Y,h=>by
   rw[wT]at h;split at h;cases h;have:=Ur r _ h;simp only[TR,abT,ai8]at this ⊢;omega
def ag_{x:Nd}{X:List iR}(h:u_ x w= .ok X):Ζ X<=1024:=by
 unfold u_ at h;split at h;cases h;injection h with h;subst h;exact alp _;split at h;cases h;rename_i h1;have:=Ur _ _ h;have:=(zW h1).1;rw[ai8]at*;omega
def NM(w:Bs):(lZ w).1<=6:=by
 unfold lZ;repeat (split; · decide)
 decide
def aha{x:Nd}{m:Bool}{d:Dp}(h:De x w m= .ok d):Az d:=by
 unfold De at h;split at h;cases h;rename_i h1;split at h;cases h;rename_i h2;split at h;cases h;rename_i h3;split at h;cases h;rename_i h4;split at h;cases h;rename_i h5;split at h;cases h;split at h;cases h;unfold pJ at h;split at h;cases h;rename_i h6;injection h with h;subst h;refine⟨jc h1,jc h2,jc h3,jc h4,jc h5,?_,ag_ h6⟩;dsimp only;have:=NM;exact⟨Int.natCast_nonneg _,by have:=NM;exact Int.ofNat_le.2 (this _)⟩
def NN(m:Bool):∀(l:List (Nd×Bs))(D:List Dp) {E:List Dp},qR m l D= .ok E->(∀d∈D,Az d)->Ζ E=Ζ D+(Ζ l)/\∀d∈E,Az d
 | [],D,E,h,hD=>by rw[qR]at h;injection h with h;subst h;exact⟨rfl,hD⟩
 | k::r,D,E,h,hD=>by
   rw[qR]at h;split at h;cases h
   ·rename_i h1
    have:=NN m r _ h (λd hd=>by
     rcases an4.1 hd with hd | hd;exact hD d hd;rw[ahB.1 hd];exact aha h1)
    refine⟨?_,this.2⟩;have:=this.1;simp only[TR,abT,ai8]at this ⊢;omega
def NO{x:Nd}{m:Bool}{D:List Dp}(h:lN x w m= .ok D):Ζ D<=1024/\∀d∈D,Az d:=by
 unfold lN at h;split at h;cases h;injection h with h;subst h;exact⟨alp _,z10⟩;split at h;cases h;rename_i h1;have h2:=NN _ _ _ h z10;have:=(zW h1).1;rw[ai8]at h2;exact⟨Λ,h2.2⟩
def ahb{x:Nd}{D:List Dp}(h:vg x w= .ok D):Ζ D<=1024/\∀d∈D,Az d:=by
 unfold vg at h;split at h;cases h;injection h with h;subst h;exact⟨alp _,z10⟩;exact NO h
def ahc{x:Nd}{p:Bool×Gv}(h:vh x w= .ok p):Ζ p.2.g<=1024/\(Ζ p.2.a)<=1024/\(Ζ p.2.v)<=1024:=by
 unfold vh at h;split at h;cases h;injection h with h;subst h;exact⟨alp _,alp _,alp _⟩;split at h;cases h;rename_i h1;split at h;cases h;rename_i h2;split at h;cases h;rename_i h3;injection h with h;subst h;exact⟨jc h1,jc h2,jc h3⟩
def aea{x:Nd}{p:Pm}(h:uk x= .ok p)(hx:j7 x<=100000):JH p:=by
 unfold uk at h;cases hb:(x.nm==ui)with
 | false=>rw[hb]at h;cases h
 | true=>
   rw[hb]at h;dsimp only[cond_true]at h;split at h;cases h;rename_i h1;split at h;cases h;rename_i h2;split at h;cases h;rename_i h3;split at h;cases h;rename_i h4;split at h;cases h;rename_i h5;split at h;cases h;rename_i h6;split at h;cases h;rename_i h7;split at h;cases h;rename_i h8;injection h with h;subst h;have k1:=ahc h1;have k6:=YN h6 hx;have k7:=ahb h7;have k8:=NO h8;exact⟨⟨k1.1,k1.2.1,k1.2.2,jc h2,jc h3,jc h4,jc h5⟩,k6.1,k6.2,k7.1,k7.2,k8.1,k8.2⟩
def EN:JH nW:=⟨⟨alp _,alp _,alp _,alp _,alp _,alp _,alp _⟩,alp _,by simp[nW],alp _,by simp[nW],alp _,by simp[nW]⟩
def Us{g:Gv}(ht:Ζ t<=65536):JH (rP (iu g t)):=by
 unfold iu;split;exact EN;rename_i h1;split;exact EN;rename_i h2;have:=JE h1;exact aea h2 Λ
def JH.ok{p:Pm}(h:JH p):amc p:=⟨apE h.pl z12,apE h.ml z12,apE h.dl z12,λd hd=>apE (h.mn d hd).x z12,λd hd=>apE (h.dn d hd).x z12⟩
def akA{s:Int}(g:Gv)(hq:O.hp q=φ (.cells (kh t u s nW ja)))(xl:q<O.N)(ht:Ζ t<=65536):
  VF Ε 147 [.p q 0,.agg (aS g)] O (aC λm O'=>O'.hp q=φ (.cells (kh t u s (rP (iu g t)) (rX (iu g t))))/\aL O (φ q) O'):=by
 have G5:=λO'=>ag5 t O' ht
 have xn:=λn O' h=>aks n O' (ad8 (n:=n) ht h)
 have xm:=JF t
 have hR:iu g t=match lq t with
  | .error e=>.error ⟨e.1,g,(p_ t e.2).1,(p_ t e.2).2.1,(p_ t e.2).2.2,[]⟩
  | .ok n=>match uk n with
    | .error e=>.error ⟨e.1,g,0,0,0,e.2⟩
    | .ok p=>.ok p:=rfl
 generalize iu g t=R at*;generalize lq t=F at*;obtain⟨g1,g2,g3⟩:=g;simp only[kh,dy,nW,gV,ja,aq,bg,ai9,ai_,ai8,auj]at hq;unfold aS;refine ω 46 [] func147 ?_;refine κ oK ?_;refine VC.bx ?_;rintro O1 ⟨aM,du,dq⟩;have hq1:=(aM.hp _ xl).trans hq;refine ξ oK hq1 ?_;refine π (G5 O1) ?_;rintro m O2 ⟨ax,hm⟩;have JC:=ax.at hq1;have bC:=ax.at du;have eG:=ax.N;cases F with
 | error e=>
   obtain⟨e,o⟩:=e;((((have hne:(e != 0)=Α:=by simpa using xm _ rfl);dsimp only at hm hR;subst hR;simp only[zNd,ad9,aq]at hm;subst hm;simp only[rP,rX,kh,dy,nW,gV,ja,aq,bg,ai9,ai_,ai8,auj];obtain⟨p1,p2,p3⟩:=p_ t o;dsimp only;refine ae oK ?_;refine VC.gen ?_;intro O3 B0;have aB:O2.Ge O3:=by rw[B0];exact((((VH.Ge.refl O2).push _).push _).set (an5 _) _).set (as0 _) _);have eH:O3.hp (O2.N+1)=φ (.cells [.v (Ι Κ p1),.v (Ι Κ p2),.v (Ι Κ p3)]):=by rw[B0];exact υ _ _ _);have ea:O3.N=O2.N+2:=by rw[B0];rfl);clear B0;have dk:=(aM.trans ax).trans aB;have Lv:=aB.at JC;have dA:=aB.at bC;refine ξ oK @hne ?_;refine bo oK dA eH Lv ?_;exact(aL.dG dk).any.trans aL.set
 | ok n=>
   have xn:=λO'=>xn n O' rfl
   have hrn:=NK n;dsimp only at hm hR;generalize uk n=E at*;obtain⟨nn,na,nk,nt⟩:=n;simp only[eb,aq]at hm xn;subst hm;refine ae oK ?_;refine VC.gen ?_;intro O3 B0;((have aB:O2.Ge O3:=by rw[B0];exact((((VH.Ge.refl O2).push _).push _).set (an5 _) _).set (as0 _) _);have eH:O3.hp O2.N=φ (.cells [.s nn,.l (Ζ na) (na.flatMap bp) .av,.l (Ζ nk) (aI nk) .av,.s nt]):=by rw[B0,VH.sx];exact υ _ _ _);have ea:O3.N=O2.N+2:=by rw[B0];rfl
   clear B0;have dk:=(aM.trans ax).trans aB;have Lv:=aB.at JC;have dA:=aB.at bC;refine κ oK ?_;refine ξ oK eH ?_;refine π (xn O3) ?_;rintro m O4 ⟨aV,hm⟩;have Ut:=aV.at Lv;have fJ:=aV.at dA;have fe:=aV.N;have jk:=dk.trans aV;cases E with
   | error e=>
     obtain⟨e,w⟩:=e;(have hne:(e != 0)=Α:=by simpa using hrn _ rfl);dsimp only at hm hR;subst hR;simp only[dy,nW,aq,bg,ai8,auj]at hm;subst hm;simp only[rP,rX,kh,dy,nW,gV,ja,aq,bg,ai9,ai_,ai8,auj];refine ae oK ?_;refine VC.al ?_;rintro O5 ⟨bB,Yb,ie⟩;have As:=bB.at Ut;have i_:=bB.at fJ;have mA:=jk.trans bB;refine ξ oK @hne ?_;refine aF oK i_ As ?_;exact(aL.dG mA).any.trans aL.set
   | ok p=>
     dsimp only at hm hR;subst hR;obtain⟨b,⟨pg,pa,pv⟩,pG,pA,pV,pk,P,M,DD⟩:=p;simp only[dy,aq,bg]at hm;subst hm;simp only[rP,rX,kh,dy,nW,gV,ja,aq,bg,ai9,ai_,ai8,auj];refine ae oK ?_;refine VC.al ?_;rintro O5 ⟨bB,Yb,ie⟩;have As:=bB.at Ut;have mA:=jk.trans bB;refine κ oK ?_;refine ι (aF oK Yb As ?_);exact(aL.dG mA).any.trans aL.set
structure j4(O:VH)(k q:Nat)(O':VH):Prop where
 N:O.N<=O'.N
 hp:∀i,i<O.N->i≠k->i≠q->O'.hp i=O.hp i
def j4.ge{k:Nat}(h:j4 O k q O1)(g:O1.Ge O2):j4 O k q O2:=⟨apE h.N g.N,λi hi a b=>(g.hp i (aev hi h.N)).trans (h.hp i hi a b)⟩
def j4.of{k:Nat}(g:O.Ge O1):j4 O k q O1:=⟨g.N,λi hi _ _=>g.hp i hi⟩
def j4.trans{k:Nat}(h:j4 O k q O1)(g:j4 O1 k q O2):j4 O k q O2:=⟨apE h.N g.N,λi hi a b=>(g.hp i (aev hi h.N) a b).trans (h.hp i hi a b)⟩
def j4.arl{k:Nat}{x:bO}(h:j4 O k q O1):j4 O k q (O1.set k x):=⟨h.N,λi hi a b=>(τ _ _ a).trans (h.hp i hi a b)⟩
def j4.amd{k:Nat}{x:bO}(h:j4 O k q O1):j4 O k q (O1.set q x):=⟨h.N,λi hi a b=>(τ _ _ b).trans (h.hp i hi a b)⟩
def aL.two{k:Nat}(h:aL O (φ q) O1):j4 O k q O1:=⟨h.N,λi hi _ b=>h.hp i hi (λe=>b z36)⟩
def akB{k ba bb bc:Nat}{s r2:Int}{g:Gv}{m1 m2:MV}(ha:O.hp ba=φ (.cells [.p k 0]))(xD:O.hp bb=φ (.cells [.p q 0]))(Rv:O.hp bc=φ (.cells (aS g)))(hk:O.hp k=φ (.cells [m1,m2,mi r,mi r2]))(hq:O.hp q=φ (.cells (kh t u s nW ja)))
  (j6:k<O.N) (xl:q<O.N) (m5:ba<O.N) (si:bb<O.N) (lU:bc<O.N) (YO:k≠q) (ht:Ζ t<=65536):
  VF Ε 146 [.p ba 0,.p bb 0,.p bc 0] O (aC λm O'=>(∃r',O'.hp k=φ (.cells [m1,m2,mi r',mi r2]))/\O'.hp q=φ (.cells (kh t u s (rP (iu g t)) (rX (iu g t))))/\j4 O k q O'):=by
 have xn:=λO' h1 h2=>akA (O:=O') (q:=q) (u:=u) (s:=s) g h1 h2 ht
 generalize iu g t=R at*;have hka:ba≠k:=λe=>by subst e;rw[ha]at hk;cases hk
 have Ec:bb≠k:=λe=>by subst e;rw[xD]at hk;cases hk
 have YP:bc≠k:=λe=>by subst e;rw[Rv]at hk;unfold aS at hk;cases hk
 obtain⟨g1,g2,g3⟩:=g;unfold aS at Rv xn;simp only[aq]at hk;refine ω 10 [] func146 ?_;refine θ (aF oK dS ha ?_);refine π (Js 1 hk rfl) ?_;rintro m O1 ⟨rfl,e1⟩;have du:O1.hp k=φ (.cells [m1,m2,mi (IntKind.i64.wrap (r+1)),mi r2]):=by rw[e1];exact υ _ _ _
 have ry:j4 O k q O1:=by rw[e1];exact(j4.of (VH.Ge.refl _)).arl
 have cS:=(by rw[e1];exact τ _ _ Ec:O1.hp bb=O.hp bb).trans xD;have gN:=(by rw[e1];exact τ _ _ YP:O1.hp bc=O.hp bc).trans Rv;have hq1:=(by rw[e1];exact τ _ _ (Ne.symm YO):O1.hp q=O.hp q).trans hq;have dq:O1.N=O.N:=by rw[e1];rfl
 clear e1;refine ak oK dS ?_;refine ι (aF oK cS gN ?_);refine π (xn O1 hq1 Λ) ?_;rintro m O2 ⟨JC,dZ⟩;have bC:=(dZ.hp k Λ (λe=>YO z36)).trans du;refine ae oK ?_;exact⟨⟨_,bC⟩,JC,ry.trans dZ.two⟩
def iP:=Rn oK<|Rn dS<|Rn T25<|Rn T81 T71
def EK.fc{k:Nat}{a r' a':Int}(h:EK O k ke kv E ce V cv r a)(hc:O'.hp k=φ (.cells [.map ke,.map kv,mi r',mi a']))(he:O'.hp ke=O.hp ke)(hv:O'.hp kv=O.hp kv)(hn:O.N<=O'.N):EK O' k ke kv E ce V cv r' a':=
 ⟨hc,he.trans h.TV,hv.trans h.Ny,h.eok,h.vok,h.ptr,⟨aev h.lt.1 hn,aev h.lt.2.1 hn,aev h.lt.2.2 hn⟩,h.ne⟩
def EK.ge{k:Nat}{a:Int}(h:EK O k ke kv E ce V cv r a)(g:O.Ge O'):EK O' k ke kv E ce V cv r a:=
 h.fc ((g.hp _ h.lt.1).trans h.cell) (g.hp _ h.lt.2.1) (g.hp _ h.lt.2.2) g.N
def rq(g:Gv)(t:Bs):Bool->Η
 | false=>kh t 0 0 nW ja
 | true=>kh t 1 0 (rP (iu g t)) (rX (iu g t))
def akC{O:VH}{k q ba bb bc:Nat}{t:Bs}{r r2:Int}{g:Gv}{m1 m2:MV}{b:Bool}(ha:O.hp ba=φ (.cells [.p k 0]))(xD:O.hp bb=φ (.cells [.p q 0]))(Rv:O.hp bc=φ (.cells (aS g)))(hk:O.hp k=φ (.cells [m1,m2,mi r,mi r2]))(hq:O.hp q=φ (.cells (rq g t b)))
  (j6:k<O.N) (xl:q<O.N) (m5:ba<O.N) (si:bb<O.N) (lU:bc<O.N) (YO:k≠q) (hn:ba≠q/\bb≠q/\bc≠q) (ht:Ζ t<=65536):
  VF Ε 145 [.p q 1,.func (.func 146) [] [.p ba 0,.p bb 0,.p bc 0]] O (aC λ_ O'=>(∃r',O'.hp k=φ (.cells [m1,m2,mi r',mi r2]))/\O'.hp q=φ (.cells (rq g t Α))/\j4 O k q O'):=by
 cases b with
 | true=>exact VF.lG (aoT _ _ (x:=1) z12 hq rfl) λm O' e=>by rw[e];exact⟨⟨r,hk⟩,hq,j4.of (VH.Ge.refl _)⟩
 | false=>
   have jD:(kh t 0 0 nW ja).set (1+1) (.v (.int .i32 1))=kh t 0 1 nW ja:=rfl;(((have YQ:∀{i:Nat} {y:Option bO},i≠q->O.hp i=y->(O.set q (.cells (kh t 0 1 nW ja))).hp i=y:=λhi hy=>(τ _ _ hi).trans hy);refine VF.lG (aq8 (off:=1) (Φ :=λO'=>(∃r',O'.hp k=φ (.cells [m1,m2,mi r',mi r2]))/\O'.hp q=φ (.cells (kh t 0 1 (rP (iu g t)) (rX (iu g t))))/\j4 (O.set q (.cells (kh t 0 1 nW ja))) k q O') (g:=146) (xs:=[.p ba 0,.p bb 0,.p bc 0]) hq rfl rfl z11 ?_ (λO' Ao=>⟨_,Ao.2.1,rfl,rfl⟩)) ?_);show VF _ _ _ (O.set q (.cells ((kh t 0 0 nW ja).set (1+1) (.v (.int .i32 1))))) _;rw[jD];exact akB (u:=0) (s:=1) (r:=r) (r2:=r2) (g:=g) (YQ hn.1 ha) (YQ hn.2.1 xD) (YQ hn.2.2 Rv) (YQ YO hk) (υ _ _ _) j6 xl m5 si lU YO ht);rintro m O5 ⟨OX,cs',⟨⟨r',hkX⟩,hqX,huX⟩,ju,e5⟩;rw[hqX]at ju;injection ju with ju;injection ju with ju;subst ju;have Qh:j4 O k q (O.set q (.cells (kh t 0 1 nW ja))):=(j4.of (VH.Ge.refl _)).amd;refine⟨⟨r',by rw[e5];exact(τ _ _ YO).trans hkX⟩,by rw[e5];exact υ _ _ _,?_⟩;rw[e5];exact(Qh.trans huX).amd
def arn:Η:=[mb γ,.s [],.s [],.s [],.s [],.s [],.s [],.s [],.l 0 [] .nil,.l 0 [] .nil,.l 0 [] .nil]
def ao0{k:Nat}{a:Int}(h:EK O k ke kv E ce V cv r a)(g:Gv)(hg:gG g)(hE:∀m,fD (eP g) E=φ m->∃q t b,m= .p q 0/\O.hp q=φ (.cells (rq g t b))/\(q:Nat)<O.N/\(t:Bs).length<=65536):
  VF Ε 115 [.p k 0,.agg (aS g)] O (aC λm O'=>(∃r' a',O'.hp k=φ (.cells [.map ke,.map kv,mi r',mi a']))/\((fD (eP g) E=Β/\m= .tuple [.agg arn,.agg (gV ⟨25,g,0,0,0,[]⟩)]/\aL O (φ k) O')\/∃q t b,fD (eP g) E=φ (.p q 0)/\O.hp q=φ (.cells (rq g t b))/\m= .tuple [.agg (dy (rP (iu g t))),.agg (gV (rX (iu g t)))]/\O'.hp q=φ (.cells (rq g t Α))/\j4 O k q O')):=by
 have hL3:(eP g).length=3:=rfl;have hLs:=Dt hg;have hLm:aS g=(eP g).map .s:=rfl;have xr:=λ(O':VH)(k q ba bb bc:Nat)(m1 m2:MV)(t:Bs)(b:Bool)(r r2:Int)=> @akC O' k q ba bb bc t r r2 g m1 m2 b
 obtain⟨g1,g2,g3⟩:=g;have YP:=h.cell;simp only[aq]at YP;simp only[aS]at hLm xr ⊢;refine ω 40 [.cell 4 95,.cell 5 34] func115 ?_;refine κ iP ?_;refine VC.gen ?_;rintro O1 vf;obtain⟨aM,dq,eo,cS,gN,KX⟩:=Yk _ _ _ _ vf;clear vf;have du:=(aM.hp _ h.lt.1).trans YP;refine Ξ [2,3,4,5] (λ_:Unit=>[.p O.N 0,.p (O.N+1) 0,.p (O.N+2) 0,.p (O.N+3) 0]) (λ_ O'=>O'=O1.set k (.cells [.map ke,.map kv,mi r,mi (IntKind.i64.wrap (a+1))])) ?_ ?_;refine ξ iP eo ?_;refine ι (aF iP eo du ?_);refine π (Js 1 du rfl) ?_;rintro m O2 ⟨rfl,e2⟩;refine ae iP ?_;exact aE.mk () e2;intro _ O2 e2;have bI:=h.lt;have bC:O2.hp k=φ (.cells [.map ke,.map kv,mi r,mi (IntKind.i64.wrap (a+1))]):=by rw[e2];exact υ _ _ _
 have fQ:∀i,i≠k->O2.hp i=O1.hp i:=λi hi=>by rw[e2];exact τ _ _ hi
 have eG:O2.N=O.N+4:=by rw[e2];exact dq
 have dZ:∀i,i<O.N->i≠k->O2.hp i=O.hp i:=λi hi hk=>(fQ i hk).trans (aM.hp i hi)
 have h2:EK O2 k ke kv E ce V cv r (IntKind.i64.wrap (a+1)):=h.fc bC ((fQ _ (Ne.symm h.ne.1)).trans (aM.hp _ h.lt.2.1)) ((fQ _ (Ne.symm h.ne.2.1)).trans (aM.hp _ h.lt.2.2)) Λ;have iO:=(fQ _ Λ).trans eo;have bV:=(fQ _ Λ).trans cS;have fz:=(fQ _ Λ).trans gN;have nS:=(fQ _ Λ).trans KX;clear e2 eo cS gN KX du bC fQ;generalize IntKind.i64.wrap (a+1)=a2 at*;refine θ (aF iP iO bV ?_);refine π (Qr h2 ⟨g1,g2,g3⟩ hg) ?_;rintro _ O3 ⟨rfl,aB⟩;have h3:=h2.ge aB;have ea:=aB.N;have oY:=aB.at iO;have cE:=aB.at bV;have en:=aB.at fz;have EF:=aB.at nS;have cx:∀i,i<O.N->i≠k->O3.hp i=O.hp i:=λi hi hk=>(aB.hp i Λ).trans (dZ i hi hk)
 clear iO bV fz nS dZ h2;have dA:=h3.cell;have YR:=h3.TV;simp only[aq]at dA;unfold wg;cases eU:fD (eP ⟨g1,g2,g3⟩) E with
 | none=>
   refine ae iP ?_;(((have ff:=λX=>(τ O3 (.obj X) (by omega:O.N+2≠O.N+1)).trans en);have yG:=λX=>(τ O3 (.obj X) (by omega:O.N+3≠O.N+1)).trans EF);have cC:=λX i h=>(τ O3 (.obj X) (h:i≠O.N+1)));refine VC.mJ [] (O.N+1) (cE) ?_;intro X
   replace ff:=ff X
   replace yG:=yG X
   replace cC:=cC X
   have jU:=υ O3 (O.N+1) (.obj X);have fe:(O3.set (O.N+1) (.obj X)).N=O3.N:=rfl;generalize O3.set (O.N+1) (.obj X)=O4 at*;refine ρ 0 iP ?_;refine auQ (m:=.agg [.s g1,.s g2,.s g3]) 1 ?_ ?_;exact ez iP;simp only[ag];refine ρ 2 iP ?_;refine ab.op (i:=3) ?_;refine ak iP ff ?_;refine⟨jU,?_⟩;refine ab.op (i:=4) ?_;refine ak iP yG ?_;refine⟨jU,?_⟩;refine ab.mK [] ?_;refine ae iP ?_;refine⟨⟨_,_,(cC k Λ).trans dA⟩,.inl ⟨by first | rfl | exact eU,⟨by show O.N<=O4.N;omega,λi hi hk=>?_⟩⟩⟩;rw[VH.sx,VH.sx,VH.sx];exact(cC i Λ).trans (cx i hi (λe=>hk (by rw[e])))
 | some m0=>
   obtain⟨q,t,b,rfl,hq,xl,ht⟩:=hE m0 eU;((((((((((((((((have XE:q≠k:=λe=>by subst e;rw[h.cell]at hq;cases b<;>simp[rq,kh]at hq);have Lv:=(cx q xl XE).trans hq;refine ae iP ?_;refine Δ ?_;refine WC.bM (.held [7]) [(0,.rd),(1,.rd),(2,.rd),(3,.rd),(4,.rd),(5,.rd),(6,.one),(7,.one)] ?_;refine bo iP oY cE dA ?_;refine VL.hold (.inr rfl) rfl rfl (gf.kP yL aa (l:=eP ⟨g1,g2,g3⟩) (te:=⟨_,1,8,[.v (.pointer Β)]⟩) Tryz.underlying71 T81 rfl rfl YR h3.eok rfl hL3 hLs) (WL.sound aa ?_);rw[eU];refine ae iP ?_;refine VC.al ?_;rintro O4 ⟨aV,iD,fe⟩;have jx:=aV.at oY;have c8:=aV.at cE;have ff:=aV.at en;have yG:=aV.at EF;have Ut:=aV.at Lv;have fJ:=(h3.ge aV).cell;have cC:∀i,i<O.N->i≠k->O4.hp i=O.hp i:=λi hi hk=>(aV.hp i Λ).trans (cx i hi hk));clear oY cE en EF Lv cx h3 dA YR;refine ξ iP iD ?_;refine π (xr O4 k q O.N O3.N (O.N+1) _ _ t b _ _ jx iD c8 fJ Ut Λ Λ Λ Λ Λ (Ne.symm XE) ⟨Λ,Λ,Λ⟩ ht) ?_;rintro m O5 ⟨⟨r',i_⟩,As,NP⟩;have aro:=As;have ie:=NP.N;have iJ:j4 O k q O5:=⟨Λ,λi hi h1 h2=>(NP.hp i Λ h1 h2).trans (cC i hi h1)⟩;have fY:=(NP.hp _ Λ Λ Λ).trans ff;have Ql:=(NP.hp _ Λ Λ Λ).trans yG;have qY:=(NP.hp _ Λ Λ Λ).trans iD;clear NP jx c8 ff yG Ut cC fJ iD;refine ae iP ?_;have hov:=λO'=>aoZ (rP (iu ⟨g1,g2,g3⟩ t)) O' (Us ht).ok);have hEn:rq ⟨g1,g2,g3⟩ t Α=kh t 1 0 (rP (iu ⟨g1,g2,g3⟩ t)) (rX (iu ⟨g1,g2,g3⟩ t)):=rfl;rw[hEn]at As;obtain⟨EG,hEG⟩:∃EG,rq ⟨g1,g2,g3⟩ t Α=EG:=⟨_,rfl⟩);obtain⟨p,hpE⟩:∃p,rP (iu ⟨g1,g2,g3⟩ t)=p:=⟨_,rfl⟩);obtain⟨x,hxE⟩:∃x,rX (iu ⟨g1,g2,g3⟩ t)=x:=⟨_,rfl⟩);rw[hpE,hxE]at As;rw[hpE]at hov;clear xr hE hEn;obtain⟨pb,⟨pg,pa,pv⟩,pG,pA,pV,pk,P,M,DD⟩:=p;obtain⟨xe,⟨xg,xa,xv⟩,x1,x2,x3,xw⟩:=x;simp only[kh,dy,gV,aq,bg,ai9,ai_]at As hov ⊢;refine Δ ?_;refine VC.vZ [] (λO'=>O'.hp O3.N=φ (.cells [.p q 0])/\O'.hp q=O5.hp q) (⟨qY,rfl⟩) ?_;refine δ (m:=.p q 0) 0 ?_ ?_);rintro O2 ⟨j1,j2⟩;exact dT iP j1);simp only[ag];refine ρ 1 iP ?_;refine ρ 2 iP ?_;refine δ (m:=.p q 0) 5 ?_ ?_);rintro O2 ⟨j1,j2⟩;exact dT iP j1);simp only[ag];refine ρ 6 iP ?_;refine ρ 7 iP ?_;rw[As];refine δ (m:=.agg [.v (Ι Κ xe),.s xg,.s xa,.s xv,.v (Ι Κ x1),.v (Ι Κ x2),.v (Ι Κ x3),.s xw]) 8 ?_ ?_);rintro O2 ⟨j1,j2⟩;exact dT iP j2);simp only[ag];refine ab.op (i:=3) ?_;refine ak iP As ?_;refine⟨qY,?_⟩;refine ab.call (i:=4) (hov O5) ?_;rintro _ O6 ⟨rfl,dU⟩;simp only[ag];have uu:=dU.at qY;have hq6:=dU.at As;have qP:=dU.at i_;have xt:=dU.at fY;have hd6:=dU.at Ql;have mQ:=dU.N;have gP:=iJ.ge dU;refine⟨⟨uu,hq6⟩,?_⟩;refine ab.op (i:=9) ?_;refine ak iP xt ?_;refine⟨⟨uu,hq6⟩,?_⟩;refine ab.op (i:=10) ?_;refine ak iP hd6 ?_;refine⟨⟨uu,hq6⟩,?_⟩;refine ab.bM [] ?_;refine ae iP ?_;refine VC.gen ?_;intro O7 e7;have xx:∀i,i≠O.N+2->i≠O.N+3->O7.hp i=O6.hp i:=λi h1 h2=>by rw[e7,τ _ _ h2,τ _ _ h1]);have sk:O7.N=O6.N:=by rw[e7];rfl);have hd7:O7.hp (O.N+3)=φ (.cells [.v (Ι Κ xe),.s xg,.s xa,.s xv,.v (Ι Κ x1),.v (Ι Κ x2),.v (Ι Κ x3),.s xw]):=by rw[e7];exact υ _ _ _);have hc7:O7.hp (O.N+2)=φ (.cells [.v (.bool pb),.s pg,.s pa,.s pv,.s pG,.s pA,.s pV,.s pk,.l (Ζ P) (P.flatMap bp) .av,.l (Ζ M) (M.flatMap aG) .av,.l (Ζ DD) (DD.flatMap aG) .av]):=by rw[e7,VH.sx];exact υ _ _ _);have hq7:=(xx q Λ Λ).trans (dU.at aro);have At:=(xx k Λ Λ).trans qP;have oy:j4 O k q O7:=⟨by have:=gP.N;omega,λi hi h1 h2=>(xx i Λ Λ).trans (gP.hp i hi h1 h2)⟩;clear e7 xx;refine ι (aF iP hc7 hd7 ?_);exact⟨⟨_,_,At⟩,.inr ⟨q,t,b,by first | rfl | exact eU,hq,by rw[hpE,hxE],hq7,oy⟩⟩
def eR:=Rn iP<|Rn T79<|Rn T72 ue
structure Dx(O:VH)(V:gx)(N:Nat):Prop where
 row:∀p∈V,∃n cs tk,p.2.1= .l n cs tk/\(Ζ cs)=n/\n<=N/\App O 0 1 tk/\de cs=cs
 one:∀(i j:Nat)(p r:List Bs×MV×Nat)(n:Nat)(cs:Η)(tk:Tok)(n':Nat)(cs':Η)(tk':Tok),V[i]?=φ p->V[j]?=φ r->i≠j->p.2.1= .l n cs tk->r.2.1= .l n' cs' tk'->∀x,Tok.id tk=φ x->Tok.id tk'≠φ x
def aQ.sD{n:Sz}{ty:TypeId}{K:Env->VH->Prop}(hy:gf P n D (.mk (φ d) op ty ps af g) e O m)(h:K ((d,m)::e) O)(ho:ops[i]?=φ (.mk (φ d) op ty ps af g):=by exact rfl)(hg:aK ops (.mk (φ d) op ty ps af g) e=φ Α:=by exact rfl)(hd:bj n (φ d)=Α:=by exact rfl):aQ P n D ops i e O Q K:=
 aQ.hold ho hg hd hy h
def App.mv(h:App O B sz tk)(hn:O.N<=O'.N)(hi:∀i,i<O.N->O.hp i=φ .tok->O'.hp i=φ .tok):App O' B sz tk:=by
 cases tk with
 | own t j=>exact⟨h.1,hi _ h.2.2.2 h.2.1,h.2.2.1,aev h.2.2.2 hn⟩
 | nil=>trivial
 | full=>trivial
 | av=>exact h.elim
def Dx.mv(h:Dx O V N)(hn:O.N<=O'.N)(hi:∀i,i<O.N->O.hp i=φ .tok->O'.hp i=φ .tok):Dx O' V N:=
 ⟨λp hp=>by obtain⟨n,cs,tk,h1,h2,h3,h4,h5⟩:=h.row p hp;exact⟨n,cs,tk,h1,h2,h3,h4.mv hn hi,h5⟩,h.one⟩
def Dx.ge(h:Dx O V N)(g:O.Ge O'):Dx O' V N:=h.mv g.N λi hi e=>(g.hp i hi).trans e
def App.off(h:App O B sz tk)(hi:i<O.N)(hn:O.hp i≠φ .tok):(O.after tk).hp i=O.hp i:=by
 refine(dR.after h).hp i hi λe=>hn ?_
 cases tk with
 | own t j=>injection e with e;subst e;exact h.2.1
 | _=>cases e
def WR.YS{w:World}{k:Nat}(h:WR G O w)(hk:O.hp k=φ (.cells cs))(hw:fw cs cs'):WR G (O.set k (.cells cs')) w:=by
 obtain⟨b,C,T,h1,h2,h3⟩:=h.cells k cs hk;refine h.swap z22 (λds e=>?_) (λX e=>by cases e) (λ_ _ e=>by cases e) (λe=>by cases e) (λ_ _ _ e=>by cases e);injection e with e;subst e;exact⟨b,C,T,h1,h2,hw.1▸hw.vrs h3⟩
def VC.YS{n:Sz}{c:Code}{k:Nat}(hk:O.hp k=φ (.cells cs))(hw:fw cs cs')(h:VC P n D c e (O.set k (.cells cs')) Q):VC P n D c e O Q:=λG a w h1 h2=>h G a w (h1.YS hk hw) h2
def fw.arp(a1 a2 a3 a4 a5 a6 a7 a8 a9 a10 a11 a12 b1 b2 b3 b4 b5 b6 b7 b8:MV):fw [a1,a2,a3,a4,a5,a6,a7,a8,a9,a10,a11,a12,.l 0 [] .nil,.l 0 [] .nil,.l 0 [] .nil,b1,b2,b3,b4,b5,b6,b7,b8] [a1,a2,a3,a4,a5,a6,a7,a8,a9,a10,a11,a12,.l 0 [] .av,.l 0 [] .av,.l 0 [] .av,b1,b2,b3,b4,b5,b6,b7,b8]:=
 by repeat' first
  | exact fw.refl _
  | exact Wk.refl _
  | exact Wk.tok
  | refine fw.cons ?_ ?_
def akD(h:App O B sz tk){x:Nat}(e:Tok.id tk=φ x):x<O.N:=(App.iM h e).2
def Dx.app(h:Dx O V N){p:List Bs×MV×Nat}(ha:App O 0 1 tk)(hp:p∈V)(hne:∀n' cs' tk',p.2.1= .l n' cs' tk'->∀x,Tok.id tk=φ x->Tok.id tk'≠φ x):∃n cs t,p.2.1= .l n cs t/\(Ζ cs)=n/\n<=N+1/\App (O.after tk) 0 1 t/\de cs=cs:=by
 obtain⟨n',cs',t,h1,h2,h3,h4,h5⟩:=h.row p hp;exact⟨n',cs',t,h1,h2,Nat.le_succ_of_le h3,dR.app (dR.after ha) h4 (hne _ _ _ h1),h5⟩
def Dx.put(h:Dx O V N)(hV:uM 2 V)(eU:uN γ (.l 0 [] .nil) (fD l V)= .l n cs tk)(hc:Ζ cs=n)(hn:n<=N)(ha:App O 0 1 tk)(hu:de cs=cs):
  Dx (O.after tk) (kY l (.l (n+1) (cs++[.s v]) (.own O.N 1)) ck V) (N+1):=by
 have tc:∃n' cs' t,(MV.l (n+1) (cs++[.s v]) (.own O.N 1))= .l n' cs' t/\(Ζ cs')=n'/\n'<=N+1/\App (O.after tk) 0 1 t/\de cs'=cs':=⟨_,_,_,rfl,by rw[TR,hc];rfl,Λ,App.after (alp _),by rw[ov,hu];simp only[wu]⟩
 have bI:∀p∈V,∀n' cs' t',p.2.1= .l n' cs' t'->∀x,Tok.id t'=φ x->x<O.N:=λp hp n' cs' t' e x hx=>by
  obtain⟨a,b,c,h1,_,_,h4,_⟩:=h.row p hp;rw[h1]at e;injection e with _ _ e;subst e;exact akD h4 hx
 unfold kY;cases iw:V.any (·.1==l)
 ·rw[if_neg z10]
  have HL:∀p∈V,p.1≠l:=λp hp e=>by
   rw[List.any_eq_false]at iw;exact iw p hp (by simp[e])
  rw[px HL]at eU;simp only[uN]at eU;injection eU with e1 e2 e3;subst e1;subst e2;subst e3;refine⟨λp hp=>?_,λi j p r n' cs' tk' n'' arq ars hi hj nj hp hr x hx=>?_⟩;rcases an4.1 hp with hp | hp;exact h.app ha hp (λ_ _ _ _ x hx=>by cases hx);rw[ahB.1 hp];exact tc;rw[aug]at hi hj;split at hi<;>split at hj;exact h.one i j p r _ _ _ _ _ _ hi hj nj hp hr x hx;have Sf:=apG hj;rw[ahB]at Sf;subst Sf;dsimp only at hr;injection hr with _ _ e;subst e;intro e2;injection e2 with e2;have:=bI p (apG hi) _ _ _ hp x hx;omega;have uv:=apG hi;rw[ahB]at uv;subst uv;dsimp only at hp;injection hp with _ _ e;subst e;injection hx with hx;intro e2;have:=bI r (apG hj) _ _ _ hr x e2;omega;have h1:=(Ro.1 hi).1;have h2:=(Ro.1 hj).1;simp only[abT,ai8]at h1 h2;omega
 ·rw[if_pos rfl];obtain⟨p0,hp0,Gz⟩:=List.any_eq_true.1 iw;have Gz:=eq_of_beq Gz;obtain⟨i0,hi0,e0⟩:=auh.1 hp0;(have ly:V[i0]?=φ p0:=by rw[apH hi0,e0]);have ame:=zP hV.one ly;rw[Gz]at ame;rw[ame]at eU;simp only[uN]at eU;have eU:p0.2.1= .l n cs tk:=eU
  have rb:∀{i:Nat} {p:List Bs×MV×Nat},V[i]?=φ p->p.1=l->i=i0:=λ{i p} hi cz=>by
   (have h1:(V.map (·.1))[i]?=φ l:=by rw[apJ,hi];exact congrArg φ cz);have h2:(V.map (·.1))[i0]?=φ l:=by rw[apJ,ly];exact congrArg φ Gz
   exact(List.getElem?_inj (by rw[apI];exact(Ro.1 hi).1) hV.one).1 (h1.trans h2.symm)
  refine⟨λp' hp'=>?_,λi j p' r' n' cs' tk' n'' arq ars hi hj nj hp hr x hx=>?_⟩;obtain⟨p,hp,rfl⟩:=aul.1 hp';by_cases e:p.1=l;rw[if_pos e];exact tc;rw[if_neg e];obtain⟨j,hj,ej⟩:=auh.1 hp;((have Ia:V[j]?=φ p:=by rw[apH hj,ej]);exact h.app ha hp (λn' cs' tk' e2 x hx=>h.one i0 j p0 p _ _ _ _ _ _ ly Ia (λe3=>by subst e3;rw[ly]at Ia;injection Ia with Ia;exact e (Ia▸Gz)) eU e2 x hx));rw[apJ]at hi hj;obtain⟨p,Uu,rfl⟩:=ats.1 hi;obtain⟨r,hrj,rfl⟩:=ats.1 hj;by_cases e:p.1=l;by_cases e2:r.1=l;exact absurd ((rb Uu e).trans (rb hrj e2).symm) nj;rw[if_pos e]at hp;rw[if_neg e2]at hr;dsimp only at hp;injection hp with _ _ e3;subst e3;injection hx with hx;intro e4;have:=bI r (apG hrj) _ _ _ hr x e4;omega;rw[if_neg e]at hp;by_cases e2:r.1=l;rw[if_pos e2]at hr;dsimp only at hr;injection hr with _ _ e3;subst e3;intro e4;injection e4 with e4;have:=bI p (apG Uu) _ _ _ hp x hx;omega;rw[if_neg e2]at hr;exact h.one i j p r _ _ _ _ _ _ Uu hrj nj hp hr x hx
structure Dy(O:VH)(k:Nat)(L:List (Gv×Bs×Bool))(E V:gx)(ke kv ce cv:Nat)(r a:Int):Prop where
 st:EK O k ke kv E ce V cv r a
 len:Ζ E=Ζ L
 G6:∀(i:Nat)(g:Gv)(t:Bs)(o:Bool),L[i]?=φ (g,t,o)->∃(q c:Nat),E[i]?=φ (eP g,MV.p q 0,c)/\(q:Nat)<O.N/\O.hp q=φ (.cells (rq g t o))
 dis:∀(i j:Nat)(p r:List Bs×MV×Nat)(q:Nat),E[i]?=φ p->E[j]?=φ r->p.2.1=MV.p q 0->r.2.1=MV.p q 0->i=j
 mf:Dx O V (Ζ L)
def akE(O:VH):VF Ε 11 [] O (aC λm O'=>m= .p (O.N+2) 0/\Dy O' (O.N+2) [] [] [] O.N (O.N+1) 0 0 0 0/\O.Ge O'):=by
 refine ω 5 [.tmp 0] func11 ?_;have vR:Pu (m_ [(0,1),(1,1),(2,1),(3,1)]) [.v (.map Β),.v (.map Β),.v (Ι Κ 0),.v (Ι Κ 0)] (.map O.N) [(1,.map (O.N+1))] (φ (0,1))=φ [.map O.N,.map (O.N+1),.v (Ι Κ 0),.v (Ι Κ 0)]:=rfl;refine κ eR ?_;refine ξ eR vR ?_;refine ν eR ?_;obtain⟨hg,hn,h1,h2,h3⟩:=yB (O:=O) (.map [] 0) (.map [] 0) (.cells [.map O.N,.map (O.N+1),.v (Ι Κ 0),.v (Ι Κ 0)]) rfl;refine⟨⟨⟨h3,h1,h2,⟨z10,z10⟩,⟨z10,z10⟩,z10,Λ,Λ⟩,rfl,z10,z10,⟨z10,z10⟩⟩,hg⟩
def Uv{t kd te:TypeId}{k:Nat}{es:Bw}(h:tab t=φ ⟨.map kd te,a,b,z⟩)(hb:O.hp k=φ (.map es ck)):rW tab O t (.map k)=φ (.v (Ι Κ (Ζ es))):=by simp[rW,h,hb]
def wj{M:gx}(h:fD l M=Β):∀p∈M,p.1≠l:=by
 unfold fD at h;rw[Option.map_eq_none_iff,List.find?_eq_none]at h;intro p hp e;exact h p hp (by simp[e])
def EO{x y:Gv}(h:eP x=eP y):x=y:=by
 obtain⟨a,b,c⟩:=x;obtain⟨d,e,f⟩:=y;simp only[eP,List.cons.injEq,and_true]at h;obtain⟨rfl,rfl,rfl⟩:=h;rfl
section
variable{O O':VH}{k ke kv ce cv:Nat}{L:List (Gv×Bs×Bool)}{E V:gx}{r a:Int}
def Dy.none(h:Dy O k L E V ke kv ce cv r a){g:Gv}(cZ:∀x∈L,x.1≠g):fD (eP g) E=Β:=by
 refine px λp hp e=>?_
 obtain⟨i,hi,rfl⟩:=auh.1 hp;have YT:i<Ζ L:=by rw[<-h.len];exact hi
 obtain⟨q,c,h1,_⟩:=h.G6 i L[i].1 L[i].2.1 L[i].2.2 (apH YT);rw[apH hi]at h1;injection h1 with h1;rw[h1]at e;exact cZ _ (List.getElem_mem YT) (EO e)
end
def amf(O O':VH)(k:Nat)(L:List (Gv×Bs×Bool))(E V:gx)(ke kv ce cv:Nat)(r a:Int)(g:Gv)(t:Bs):Prop:=
 (∃q x n cs tk ce' cv',uN γ (.l 0 [] .nil) (fD (jY ⟨g.g,g.a⟩) V)= .l n cs tk/\O.N<=q/\O.N<=x/\Dy O' k (L++[(g,t,γ)]) (E++[(eP g,.p q 0,ce)]) (kY (jY ⟨g.g,g.a⟩) (.l (n+1) (cs++[.s g.v]) (.own x 1)) cv V) ke kv ce' cv' r a/\∀i,i<O.N->i≠ke->i≠kv->Tok.id tk≠φ i->O'.hp i=O.hp i)/\O.N<=O'.N
def ao1{k:Nat}{L:List (Gv×Bs×Bool)}{a:Int}(h:Dy O k L E V ke kv ce cv r a)(g:Gv)(t:Bs)(hm:iq g=Α)(gD:gG g)(cZ:∀x∈L,x.1≠g)(hL:Ζ L<1024):
  VF Ε 12 [.p k 0,.agg (aS g),.s t] O (aC λm O'=>m=mi 0/\amf O O' k L E V ke kv ce cv r a g t):=by
 have Dd:=h.none cZ;have Lg:=h.len;have eD:=h.st;have hh:wg E g=γ:=by unfold wg;rw[Dd];rfl
 have bI:=eD.lt;have hL3:(eP g).length=3:=rfl;have hLs:=Dt gD;have Cb:=λO'=>MW g O' gD.1 gD.2.1 gD.2.2
 have JJ:=λ(O':VH)(g':O.Ge O')=>Qr (eD.ge g') g gD
 rw[hm]at Cb;rw[hh]at JJ;obtain⟨g1,g2,g3⟩:=g;simp only[aS]at Cb JJ ⊢;refine ω 50 [.tmp 6] func12 ?_;refine κ eR ?_;refine VC.bx ?_;rintro O1 ⟨aM,dz,dq⟩;refine ξ eR dz ?_;refine π (Cb O1) ?_;rintro _ O2 ⟨rfl,ax⟩;have dQ:=ax.at dz;have ei:=aM.trans ax;refine ak eR dQ ?_;refine π (JJ O2 ei) ?_;rintro _ O3 ⟨rfl,aB⟩;have dk:=ei.trans aB;have eH:=(aB.hp _ z31).trans dQ;have ea:=dk.N;have h3:=eD.ge dk;have dA:=h3.cell;have YR:=h3.TV;simp only[aq]at dA;have hEn:(dw E).length<1024:=by unfold dw;rw[apI];omega
 have nQ:=Uv T71 YR;have Ld:(dw E).length=Ζ L:=by unfold dw;rw[apI];exact Lg
 rw[Ld]at nQ;refine aF eR dA nQ ?_;refine Δ ?_;refine WC.bM (.held [8]) [(0,.rd),(1,.rd),(2,.rd),(3,.rd),(4,.rd),(5,.rd),(6,.rd),(7,.one),(8,.one)] ?_;refine aF eR dA eH ?_;have heP:∀{x:bO},(O3.push x).hp ke=φ (.map (dw E) ce):=(VH.gY _ _ h3.lt.2.1).trans YR
 refine VL.vP rfl rfl (vO.kY yL (l:=eP ⟨g1,g2,g3⟩) (b:=ke) (ck:=ce) (M:=E) Tryz.underlying71 rfl heP h3.eok rfl hL3 hLs rfl) (λbrk hb i hi=>?_) (WL.sound aa ?_)
 ·cases hb
  rcases i with _ | _ | _ | _ | _ | _ | _ | _ | _ | i<;>first
   | rfl
   | (exfalso;revert hi;simp)
 have GS:E.any (·.1==eP ⟨g1,g2,g3⟩)=γ:=by
  rw[List.any_eq_false];intro p hp Lw;have:=wj Dd p hp;exact this (eq_of_beq Lw)
 unfold kY XC;rw[GS];refine ae eR ?_;refine VC.gen ?_;intro O4 e4;have fe:O4.N=O3.N+1:=by rw[e4];rfl
 have art:=h3.lt;have Uw:O.N+1<=O3.N:=by have:=ax.N;have:=aB.N;omega
 have sP:∀i,i<O3.N->i≠ke->O4.hp i=O3.hp i:=λi h1 h2=>by rw[e4,τ _ _ h2];exact VH.gY _ _ h1
 have he4:O4.hp ke=φ (.map (dw (E++[(eP ⟨g1,g2,g3⟩,MV.p O3.N 0,ce)])) (ce+1)):=by rw[e4];exact υ _ _ _
 have Ut:O4.hp O3.N=φ (.cells [.s t,.v (.int .u32 0),.v (.int .i32 0),.v (.int .u32 0),.v (.bool γ),.s [],.s [],.s [],.s [],.s [],.s [],.s [],.l 0 [] .nil,.l 0 [] .nil,.l 0 [] .nil,.v (Ι Κ 0),.s [],.s [],.s [],.v (Ι Κ 0),.v (Ι Κ 0),.v (Ι Κ 0),.s []]):=by
  rw[e4,VH.sx];exact ζ _ _
 clear e4 heP;refine VC.YS Ut (cs':=kh t 0 0 nW ja) (fw.arp _ _ _ _ _ _ _ _ _ _ _ _ _ _ _ _ _ _ _ _) ?_;refine VC.gen ?_;intro O5 e5;have ie:O5.N=O3.N+1:=by rw[e5];exact fe
 have jz:∀i,i<O3.N->i≠ke->O5.hp i=O3.hp i:=λi h1 h2=>by rw[e5,VH.sx];exact sP i h1 h2
 have he5:O5.hp ke=φ (.map (dw (E++[(eP ⟨g1,g2,g3⟩,MV.p O3.N 0,ce)])) (ce+1)):=by rw[e5,VH.sx];exact he4
 have As:O5.hp O3.N=φ (.cells (kh t 0 0 nW ja)):=by rw[e5];exact υ _ _ _
 clear e5 sP he4 Ut fe O4;have i_:=(jz k Λ eD.ne.1).trans dA;have Qw:=(jz kv Λ (Ne.symm eD.ne.2.2)).trans h3.Ny;have qY:=(jz O.N Λ Λ).trans eH;have ahd:Dx O5 V (Ζ L):=(h.mf.ge dk).mv Λ λi hi e=>(jz i hi (λe2=>by subst e2;rw[YR]at e;cases e)).trans e
 obtain⟨n,cs,tk,mF,ju,hnn,JK,fB⟩:∃n cs tk,uN γ (.l 0 [] .nil) (fD (jY ⟨g1,g2⟩) V)= .l n cs tk/\(Ζ cs)=n/\n<=(Ζ L)/\App O5 0 1 tk/\de cs=cs:=by
  cases eU:fD (jY ⟨g1,g2⟩) V with
  | none=>exact⟨0,[],.nil,rfl,rfl,alp _,trivial,rfl⟩
  | some m=>
    unfold fD at eU;obtain⟨p,rT,rfl⟩:=ats.1 eU;obtain⟨n,cs,tk,k1,k2,k3,k4,k5⟩:=ahd.row p (auv rT);exact⟨n,cs,tk,k1,k2,k3,k4,k5⟩
 have YU:=eD.vok;have NQ:=aoR ⟨g1,g2,g3⟩
 have Ux:∀s∈jY ⟨g1,g2⟩,Ζ s<=maxLen:=by
  intro s hs;simp only[jY,aja,an3,or_false]at hs;rcases hs with rfl | rfl;exact gD.1;exact gD.2.1
 simp only[aS]at NQ;refine Δ ?_;refine VC.vZ [17] (λO'=>O'.hp k=O5.hp k/\O'.hp O.N=O5.hp O.N) (⟨rfl,rfl⟩) ?_;refine ρ 0 eR ?_;refine ρ 1 eR ?_;refine ρ 2 eR ?_;refine δ (m:=.map kv) 3 ?_ ?_;rintro O2 ⟨j1,j2⟩;exact dT eR (j1.trans i_);simp only[ag];refine δ (m:=.agg [.s g1,.s g2,.s g3]) 4 ?_ ?_;rintro O2 ⟨j1,j2⟩;exact dT eR (j2.trans qY);simp only[ag];refine ρ 6 eR ?_;refine ρ 7 eR ?_;refine ρ 8 eR ?_;refine δ (m:=.map kv) 9 ?_ ?_;rintro O2 ⟨j1,j2⟩;exact dT eR (j1.trans i_);simp only[ag];refine δ (m:=.agg [.s g1,.s g2,.s g3]) 10 ?_ ?_;rintro O2 ⟨j1,j2⟩;exact dT eR (j2.trans qY);simp only[ag];refine ρ 13 eR ?_;refine δ (m:=.s g3) 14 ?_ ?_;rintro O2 ⟨j1,j2⟩;exact dT eR (j2.trans qY);simp only[ag];have hJ:∀O',O5.Ge O'->O'.hp k=O5.hp k/\O'.hp O.N=O5.hp O.N:=λO' g=>⟨g.hp _ Λ,g.hp _ Λ⟩
 have tG:∀OO,O5.Ge OO->∀OF,OF=(OO.after tk).set kv (.map (dw (kY (jY ⟨g1,g2⟩) (.l (n+1) (cs++[.s g3]) (.own OO.N 1)) cv V)) (XC (jY ⟨g1,g2⟩) cv V))->amf O OF k L E V ke kv ce cv r a ⟨g1,g2,g3⟩ t:=by
  intro OO hG OF eF;have hoO:=hG.N
  have hF:∀i,i<O5.N->O5.hp i≠φ .tok->i≠kv->OF.hp i=O5.hp i:=λi hi hne hv=>by
   rw[eF,τ _ _ hv];have e1:=hG.hp i hi;rw[App.off (JK.ge hG) (aev hi hG.N) (by rw[e1];exact hne)];exact e1
  have hnF:O5.N<=OF.N:=by
   (have:OF.N=(OO.after tk).N:=by rw[eF];rfl);have:=(dR.after (JK.ge hG)).N;omega
  have hold:∀i cs,i<O.N->O.hp i=φ (.cells cs)->OF.hp i=φ (.cells cs):=λi cs hi e=>by
   have e3:=(dk.hp i hi).trans e;have e5:=(jz i Λ (λe2=>by subst e2;rw[YR]at e3;cases e3)).trans e3;exact(hF i Λ (by rw[e5];simp) (λe2=>by subst e2;rw[Qw]at e5;cases e5)).trans e5
  have ahe:=uO (y:=MV.p O3.N 0) (ck:=ce) h3.eok hL3 hLs;unfold kY at ahe;rw[GS]at ahe
  have Yo:∀i,i<O.N->i≠ke->i≠kv->Tok.id tk≠φ i->OF.hp i=O.hp i:=λi hi h1 h2 h3=>by
   rw[eF,τ _ _ h2,(dR.after (JK.ge hG)).hp i Λ h3,hG.hp i Λ,jz i Λ h1];exact dk.hp i hi
  refine⟨⟨O3.N,OO.N,n,cs,tk,_,_,mF,Λ,Λ,⟨⟨(hF _ Λ (by rw[i_];simp) eD.ne.2.1).trans i_,(hF _ Λ (by rw[he5];simp) eD.ne.2.2).trans he5,by rw[eF];exact υ _ _ _,ahe,uO YU rfl Ux,λp hp=>?_,⟨Λ,Λ,Λ⟩,eD.ne⟩,by rw[TR,TR,Lg];rfl,λi g' t' o' hi=>?_,λi j p r' q hi hj hp hr=>?_,?_⟩,Yo⟩,Λ⟩;rcases an4.1 hp with hp | hp;exact eD.ptr p hp;rw[ahB.1 hp];exact⟨_,rfl⟩;rw[aug]at hi;split at hi;rename_i Qx;obtain⟨q,c,k1,k2,k3⟩:=h.G6 i g' t' o' hi;exact⟨q,c,by rw[auk Λ];exact k1,Λ,hold q _ k2 k3⟩;rename_i Qx;have uv:=apG hi;rw[ahB]at uv;injection uv with e1 e2;injection e2 with e2 e3;subst e1;subst e2;subst e3;have hlen:=(Ro.1 hi).1;simp only[abT,ai8]at hlen;refine⟨O3.N,ce,?_,Λ,(hF _ Λ (by rw[As];simp) Λ).trans As⟩;rw[an6 Λ,Lg,show i - (Ζ L)=0 by omega];rfl
  ·have hq:∀(i:Nat)(p:List Bs×MV×Nat)(q:Nat),E[i]?=φ p->p.2.1=MV.p q 0->q<O.N:=λi p q hi hp=>by
    (have Qx:i<Ζ L:=by rw[<-Lg];exact(Ro.1 hi).1);obtain⟨q',c,k1,k2,_⟩:=h.G6 i _ _ _ (apH Qx);rw[hi]at k1;injection k1 with k1
    rw[k1]at hp;dsimp only at hp;injection hp with hp;omega
   rw[aug]at hi hj;split at hi<;>split at hj;exact h.dis i j p r' q hi hj hp hr;have Sf:=apG hj;rw[ahB]at Sf;subst Sf;dsimp only at hr;injection hr with hr;have:=hq i p q hi hp;omega;have uv:=apG hi;rw[ahB]at uv;subst uv;dsimp only at hp;injection hp with hp;have:=hq j r' q hj hr;omega;have h1:=(Ro.1 hi).1;have h2:=(Ro.1 hj).1;simp only[abT,ai8]at h1 h2;omega
  ·rw[TR];have hvO:=Dx.put (ck:=cv) (v:=g3) (ahd.ge hG) YU mF ju hnn (JK.ge hG) fB;rw[eF];(((refine hvO.mv (an5 _) λi hi e=>?_);by_cases e2:i=kv);subst e2;rw[App.off (JK.ge hG) Λ (by rw[hG.hp _ Λ,Qw];simp),hG.hp _ Λ,Qw]at e;cases e);exact(τ _ _ e2).trans e
 have hG:=VH.Ge.refl O5;refine ab.meet [5,11,12,15] [36,38,45,48] (λ_:Unit=>[.map kv,.agg [.s g1,.s g2],.l n cs tk,.l 1 [.s g3] .full]) (λ_ O'=>O5.Ge O') 2 ?_ ?_;rotate_left
 ·rintro _ O9 YV;have cQ:=bE (tk:=tk) (tk':=.full) (B:=0) (n:=n) (k:=1) (cs:=cs) (ds:=[.s g3]) ue T9 (O:=O9) (JK.ge YV) (by rw[auu];exact ju) rfl rfl z12 z12 Λ z13
  have Yw:∀i,i<O5.N->O5.hp i≠φ .tok->((O9).after tk).hp i=O5.hp i:=λi hi hne=>by
   have e1:=YV.hp i hi;rw[App.off (JK.ge YV) (aev hi YV.N) (by rw[e1];exact hne)];exact e1
  refine ab.op (i:=16) ?_;rw[eN];refine ak eR cQ ?_;refine⟨⟨Yw _ Λ (by rw[i_];simp),Yw _ Λ (by rw[qY];simp)⟩,?_⟩;refine ab.bM [(17,.one)] ?_;refine ae eR ?_;refine VL.vP rfl rfl (vO.kY Nx (l:=jY ⟨g1,g2⟩) (b:=kv) (ck:=cv) (M:=V) Tryz.underlying72 rfl ((Yw _ Λ (by rw[Qw];simp)).trans Qw) YU rfl rfl Ux rfl) (λbrk hb=>by cases hb) (WL.sound aa ?_);refine ae eR ?_;refine VC.gen ?_;intro OF eF;refine κ eR ?_;refine ν eR ?_;exact tG O9 YV OF eF
 intro K9;refine auS (i:=5) (j:=15) ?_ ?_
 ·refine aQ.iH (NQ _) ?_;rintro _ O6 ⟨rfl,xk⟩
  replace hG:=hG.trans xk
  clear xk;simp only[ag];refine⟨hJ _ hG,?_⟩;refine auS (i:=11) (j:=15) ?_ ?_
  ·refine aQ.iH (NQ _) ?_;rintro _ O7 ⟨rfl,xk⟩
   replace hG:=hG.trans xk
   clear xk;simp only[ag];refine⟨hJ _ hG,?_⟩;refine auS (i:=12) (j:=15) ?_ ?_;refine aQ.sD (gf.kP Nx aa (l:=jY ⟨g1,g2⟩) (te:=⟨_,1,24,[.l 0 [] .nil]⟩) Tryz.underlying72 ue rfl rfl (hG.at Qw) YU rfl rfl Ux) ?_;rw[mF];refine⟨hJ _ hG,?_⟩;refine ab.op (i:=15) ?_;refine ae eR ?_;refine⟨hJ _ hG,?_⟩;exact K9 () _ _ _ hG z11 rfl;refine aQ.o1 ?_;refine ae eR ?_;refine⟨hJ _ hG,?_⟩;refine ab.one (i:=12) (aQ.sD (gf.kP Nx aa (l:=jY ⟨g1,g2⟩) (te:=⟨_,1,24,[.l 0 [] .nil]⟩) Tryz.underlying72 ue rfl rfl (hG.at Qw) YU rfl rfl Ux) ?_);rw[mF];refine⟨hJ _ hG,?_⟩;exact K9 () _ _ _ hG z11 rfl
  ·refine aQ.o1 ?_;refine ae eR ?_;refine⟨hJ _ hG,?_⟩;refine ab.one (i:=11) (aQ.iH (NQ _) ?_);rintro _ O7 ⟨rfl,xk⟩
   replace hG:=hG.trans xk
   clear xk;simp only[ag];refine⟨hJ _ hG,?_⟩;refine ab.one (i:=12) (aQ.sD (gf.kP Nx aa (l:=jY ⟨g1,g2⟩) (te:=⟨_,1,24,[.l 0 [] .nil]⟩) Tryz.underlying72 ue rfl rfl (hG.at Qw) YU rfl rfl Ux) ?_);rw[mF];refine⟨hJ _ hG,?_⟩;exact K9 () _ _ _ hG z11 rfl
 ·refine aQ.o1 ?_;refine ae eR ?_;refine ab.one (i:=5) (aQ.iH (NQ _) ?_);rintro _ O6 ⟨rfl,xk⟩
  replace hG:=hG.trans xk
  clear xk;simp only[ag];refine⟨hJ _ hG,?_⟩;refine ab.one (i:=11) (aQ.iH (NQ _) ?_);rintro _ O7 ⟨rfl,xk⟩
  replace hG:=hG.trans xk
  clear xk;simp only[ag];refine⟨hJ _ hG,?_⟩;refine ab.one (i:=12) (aQ.sD (gf.kP Nx aa (l:=jY ⟨g1,g2⟩) (te:=⟨_,1,24,[.l 0 [] .nil]⟩) Tryz.underlying72 ue rfl rfl (hG.at Qw) YU rfl rfl Ux) ?_);rw[mF];refine⟨hJ _ hG,?_⟩;exact K9 () _ _ _ hG z11 rfl
open Go.MapKept (run_setObj_map)
def c9:=Rn eR<|Rn T39<|Rn aqw<|Rn T3<|Rn aqa GF
def bZ(d:Dp):Ky:=⟨d.g,d.a,if d.t=[]then[106,97,114]else d.t,d.c⟩
def yT(d:Dp)(O:VH):VF Ε 26 [.agg (aG d)] O (aC λm O'=>m= .agg (iL (bZ d))/\O.Ge O'):=by
 obtain⟨g,a,v,t,c,s,o,x⟩:=d;simp only[aG,bZ,iL];refine ω 18 [.cell 2 39] func26 ?_;refine κ c9 ?_;refine VC.gen ?_;intro O1 e1;obtain⟨aM,dq,eo,cS⟩:=jS _ _ e1;clear e1;refine ξ c9 eo ?_;refine VC.al ?_;rintro O2 ⟨ax,dQ,eG⟩;have bV:=ax.at cS;cases t with
 | nil=>
   rw[if_pos rfl];refine θ (aF c9 dQ (show(([]:Ρ)==[])=Α from rfl) ?_);refine ι (aF c9 dQ bV ?_);exact(((aM.trans ax).set Λ _).set Λ _)
 | cons y t=>
   rw[if_neg z10];refine θ (aF c9 dQ (show((y::t)==[])=γ from rfl) ?_);refine ι (aF c9 dQ bV ?_);exact(aM.trans ax).set Λ _
section
variable{G H:Gh}{n:Sz}{D:List Deferred}{e e':Env}{a:Act}{P:Program}{tab:cB}{O O':VH}{w:World}{m m':MV}{u v:Value}{ops:Array Oper}{Q:VQ}{md:Md}
def EP(P:Program)(n:Sz)(D:List Deferred)(o:Oper)(e:Env)(O:VH)(Φ :ϰ):Prop:=∀G a w,WR G O w->FR G n D e a->∃w' H O', Φ O'/\(execOp a.eval o).run P w= .ok .skip w'/\Gh.Le G H/\WR H O' w'
def aQ.akF{o:Oper}{K:Env->VH->Prop}(ho:ops[i]?=φ o)(hg:aK ops o e=φ Α)(hd:bj n o.dst=Α)(hy:EP P n D o e O Φ)(h:∀O', Φ O'->K (aU o.dst aO e) O'):aQ P n D ops i e O Q K:=by
 intro G a w hw aY;obtain⟨w',H,O',hΦ,hr,h1,h2⟩:=hy G a w hw aY;simp only[wpOp,ho,bz aY hg,if_true];refine .inl ?_;unfold Oper.wp;rw[hr];exact⟨_,_,H,h1,h2,(aY.mono h1).aU hd lV,h _ hΦ⟩
def pO{α β :Type}{f: α -> α}{g: α -> β}(h:∀x,g (f x)=g x)(L:List α)(i:Nat):(L.modify i f).map g=L.map g:=by
 refine auw λj=>?_
 rw[apJ,apJ,List.getElem?_modify];cases L[j]? with
 | none=>rfl
 | some x=>
   simp only[asc];split;exact congrArg φ (h x);rfl
def Uy{α β :Type}{f: α -> α}{g: α -> β}{y: β}(h:∀x,g (f x)=y)(L:List α)(i:Nat):(L.modify i f).map g=(L.map g).set i y:=by
 refine auw λj=>?_
 rw[apJ,List.getElem?_modify,List.getElem?_set,apJ,apI];by_cases e:i=j;subst e;rw[if_pos rfl];by_cases hl:i<Ζ L;rw[if_pos hl,apH hl];simp[h];rw[if_neg hl,List.getElem?_eq_none Λ];rfl
 ·rw[if_neg e];cases L[j]? with
  | none=>rfl
  | some x=>simp[e]
end
def aQ.Uz{n:Sz}{ty:TypeId}{K:Env->VH->Prop}(ho:ops[i]?=φ (.mk Β op ty ps af g))(hg:aK ops (.mk Β op ty ps af g) e=φ Α)(hy:EP P n D (.mk Β op ty ps af g) e O Φ)(h:∀O', Φ O'->K e O'):aQ P n D ops i e O Q K:=
 aQ.akF ho hg rfl hy h
def ab.Dz{n:Sz}{Ψ :Gh->Prop}{J:ϰ}{Z:Prop}{l:ϕ}{ty:TypeId}(hy:dd P n D (.mk (φ d) op ty ps af g) e O M)
  (h:∀m O',M m O'->J O'/\ab P n D ⟨l⟩ brk J Ψ Z fuel (listed.setIfInBounds i Α) ((d,m)::e) O' Q) (hr:Region.ready .any ⟨l⟩ listed=[i]:=by kernel_rfl) (ho:l[i]?=φ (.mk (φ d) op ty ps af g):=by exact rfl) (hg:aK ⟨l⟩ (.mk (φ d) op ty ps af g) e=φ Α:=by exact rfl) (hd:bj n (φ d)=Α:=by exact rfl):ab P n D ⟨l⟩ brk J Ψ Z (fuel+1) listed e O Q:=ab.st hy h (hr:=hr) (ho:=ho) (hg:=hg) (hd:=hd)
def aQ.Dz{n:Sz}{l:ϕ}{ty:TypeId}{K:Env->VH->Prop}(hy:dd P n D (.mk (φ d) op ty ps af g) e O M)
  (h:∀m O',M m O'->K ((d,m)::e) O') (ho:l[i]?=φ (.mk (φ d) op ty ps af g):=by exact rfl) (hg:aK ⟨l⟩ (.mk (φ d) op ty ps af g) e=φ Α:=by exact rfl) (hd:bj n (φ d)=Α:=by exact rfl):aQ P n D ⟨l⟩ i e O Q K:=aQ.st hy h (ho:=ho) (hg:=hg) (hd:=hd)
def GR.less{el:TypeId}{B':Nat}(h:GR O el sz B p n L)(hB:B'<=B):GR O el sz B' p n L:=by
 rcases h with h | ⟨k,c,h1,h2,h3,h4⟩;exact .inl h;obtain⟨j,k1,k2,k3⟩:=h4.n4;exact .inr ⟨k,c,h1,h2,h3,⟨h4.cells,⟨j,apE hB k1,k2,k3⟩,apE hB h4.lo,h4.hi⟩⟩
def dm(x:Ky):List Bs:=[x.g,x.a,x.t,x.c]
def oL(d:Dp):Prop:=Ζ d.g<=100000/\(Ζ d.a)<=100000/\(Ζ d.v)<=100000/\(Ζ d.t)<=100000/\(Ζ d.c)<=100000/\(Ζ d.x)<=10000
def yU{d:Dp}(h:oL d):∀s∈dm (bZ d),Ζ s<=maxLen:=by
 obtain⟨h1,h2,h3,h4,h5,h6⟩:=h;intro s hs;simp only[dm,bZ,aja,an3,or_false]at hs;have hm:100000<=maxLen:=by simp[maxLen]
 rcases hs with rfl | rfl | rfl | rfl;omega;omega;split;exact apE z12 hm;omega;omega
def iB:=Rn c9<|Rn Ep<|Rn AT<|Rn alP T9
def ahf(x:Bs×Bs)(k:Nat)(nm:Bs)(O:VH)(hk:O.hp k=φ (.cells [.s nm]))(Bv:k<O.N):VF Ε 178 ([.agg (bp x)]++[.p k 0]) O (aC λm O'=>m=mb (x.1==nm)/\O.Ge O'):=by
 obtain⟨x1,x2⟩:=x;unfold bp;simp only[ai9,ai_];refine ω 8 [.tmp 3] func178 ?_;refine κ iB ?_;refine VC.bx ?_;rintro O1 ⟨aM,dz,dq⟩;have du:=(aM.hp k Bv).trans hk;refine ι (aF iB dz du ?_);exact aM
def ahg(L:List (Bs×Bs))(tk:Tok)(nm:Bs)(O:VH)(hn:Ζ L<=1000000):VF Ε 150 [.l (Ζ L) (L.flatMap bp) tk,.s nm] O (aC λm O'=>m=mi (idxFrom (λx=>x.1==nm) 0 L)/\O.Ge O'):=by
 refine ω 8 [.tmp 4] func150 ?_;refine κ iB ?_;refine VC.bx ?_;rintro O1 ⟨aM,dz,dq⟩;refine κ iB ?_;refine π (aaH L tk 178 [.p O.N 0] (λx=>x.1==nm) O1 z11 (λq _ O' Ao=>ahf q _ nm O' (Ao.at dz) (by have:=Ao.N;omega)) hn) ?_;rintro _ O2 ⟨rfl,ax⟩;refine ae iB ?_;refine ν iB ?_;exact aM.trans ax
def bf:=Rn iB<|Rn iP<|Rn T95<|Rn alJ<|Rn PK<|Rn Eo<|Rn GG<|Rn T34 T4
def eV:=Rn bf<|Rn eh<|Rn MC<|Rn qm<|Rn aqj<|Rn alI<|Rn aqk<|Rn alK<|Rn II<|Rn ue aqs
def ao2{q:ϑ}(h:gB O B b q s):VF Ε 152 [.p b 0] O (aC λm O'=>m=mi (Ζ s)/\O'=O):=by
 obtain⟨p,buf,h1,_,ox,_,_⟩:=h.cell;refine ω 8 [.tmp 2] func152 ?_;rcases ox with⟨h0,_,rfl | rfl⟩ | ⟨k,c,rfl,_⟩;rw[h0];refine κ eV ?_;refine ο eV h1 ?_;trivial;rw[h0];refine κ eV ?_;refine ο eV h1 ?_;trivial;refine κ eV ?_;refine ο eV h1 ?_;trivial
abbrev eL:=List (Bs×Bs×Nat)
def nK(M:eL):Bw:=M.map λp=>(.s p.1,.s p.2.1,p.2.2)
def oM(k:Bs)(M:eL):Option Bs:=(M.find? (·.1==k)).map (·.2.1)
def Lx(k:Bs):eL->Nat->Option (Nat×MV)
 | [],_=>Β
 | p::M,i=>if k==p.1 then φ (i,.s p.2.1)else Lx k M (i+1)
def Hs(k:Bs):∀(M:eL)(i:Nat),xJ .string (.s k) (nK M) i=φ (Lx k M i)
 | [],i=>rfl
 | p::M,i=>by
   show xJ .string (.s k) ((.s p.1,.s p.2.1,p.2.2)::nK M) i=_;rw[xJ,Lx];simp only[O_];cases h:k==p.1;simp[Hs k M (i+1)];simp
def aaZ(k:Bs):∀(M:eL)(i:Nat),(Lx k M i).map (·.2)=(oM k M).map .s
 | [],i=>rfl
 | p::M,i=>by
   rw[Lx];unfold oM;rw[List.find?_cons];cases h:k==p.1
   ·(have h':(p.1==k)=γ:=by rw[beq_eq_false_iff_ne]at h ⊢;exact Ne.symm h);rw[h'];simpa[oM]using aaZ k M (i+1)
   ·(have h':(p.1==k)=Α:=by rw[beq_iff_eq]at h ⊢;exact h.symm);rw[h'];rfl
def Ht{t kt et:TypeId}{c' d':Nat}{M:eL}{k:Bs}{ok:Bool}(h:tab t=φ ⟨.map kt et,a,b',z⟩)(hk:tab kt=φ ⟨.string,c,d,y⟩)(he:tab et=φ ⟨.string,c',d',[.s []]⟩)(hb:O.hp b=φ (.map (nK M) ck)):
  jP tab O t (.map b) (.s k) ok=φ (uN ok (.s []) ((oM k M).map .s)):=by
 unfold jP;simp only[h,hk,he,asc,mapOf,hb,Option.bind_some,Hs,Ct];have:=aaZ k M 0;cases hf:Lx k M 0 with
 | none=>
   rw[hf]at this;rw[<-this];cases ok<;>rfl
 | some p=>
   rw[hf]at this;rw[<-this];cases ok<;>rfl
def NR{k:Bs}:∀{M:eL} {i:Nat},(∀p∈M,p.1≠k)->Lx k M i=Β
 | [],i,_=>rfl
 | p::M,i,h=>by
   (have h':(k==p.1)=γ:=by rw[beq_eq_false_iff_ne];exact Ne.symm (h p z10));rw[Lx,h',if_neg z10];exact NR λq hq=>h q (atM _ hq)
def ao3{t kt et:TypeId}{M:eL}{k:Bs}(h:tab t=φ ⟨.map kt et,a,b',z⟩)(hk:tab kt=φ ⟨.string,c,d,y⟩)(hb:O.hp b=φ (.map (nK M) ck))(cZ:∀p∈M,p.1≠k):
  fl tab O t (.map b) (.s k) (.s v)=φ (O.set b (.map (nK (M++[(k,v,ck)])) (ck+1))):=by
 unfold fl;simp only[h,hk,asc,hb,Hs,Ct,NR cZ];simp[nK]
structure AA(O:VH)(tb kr kd:Nat)(L:List (Bs×Bs))(R D:eL)(cr cd:Nat)(tk:Tok)(kn:Int):Prop where
 cell:O.hp tb=φ (.cells [.l (Ζ L) (L.flatMap bp) tk,.map kr,.map kd,mi kn])
 raw:O.hp kr=φ (.map (nK R) cr)
 done:O.hp kd=φ (.map (nK D) cd)
 lt:tb<O.N/\kr<O.N/\kd<O.N
 ne:tb≠kr/\tb≠kd/\kr≠kd
def AA.ge{L:List (Bs×Bs)}{R D:eL}{cd:Nat}{kn:Int}(h:AA O tb kr kd L R D cr cd tk kn)(g:O.Ge O'):AA O' tb kr kd L R D cr cd tk kn:=
 ⟨(g.hp _ h.lt.1).trans h.cell,(g.hp _ h.lt.2.1).trans h.raw,(g.hp _ h.lt.2.2).trans h.done,⟨aev h.lt.1 g.N,aev h.lt.2.1 g.N,aev h.lt.2.2 g.N⟩,h.ne⟩
def bW:=Rn eV<|Rn af5<|Rn T77 alK
def aa0(x:Bs)(O:VH)(t:Tok):VF Ε 121 [.l 0 [] t,.s x] O (aC λm O'=>m=mb γ/\O'=O):=by
 have h1:VF Ε 154 [.l 0 [] t,.s x] O (aC λm O'=>m=mi (-1)/\O'=O):=by
  refine χ 19 [.tmp 4] func154 ?_;refine ae bW ?_;refine WC.cj [8] [0,1,7] (λj:Unit=>[mi 0]) (λj O'=>O'=O) (λj=>0) (()) ?_ ?_;rfl;rintro _ O2 e2;rw[e2];clear e2 O2;refine ae bW ?_;trivial
 refine χ 9 [.tmp 4] func121 ?_;refine ae bW ?_;refine Ω (h1) ?_;refine ae bW ?_;trivial
def ahh(h:K O):fM Ε 120 [.p a 0,.p b 0] Β O K:=by
 refine fM.rec (d:=5) func120 (Nat.lt_of_lt_of_eq (by decide:5<15) rfl) ?_;show WC _ _ ⟨15,0⟩ _ _ _ _ _;simp only[cX,apK,y10,wI];refine ak bW @wi ?_;refine VL.pure z10 (λ_=>.inl rfl) rfl rfl (d_.IB (bb:=Α) Tryz.underlying20 rfl (.inl ⟨rfl,rfl⟩)) ?_;refine WL.sound aa ?_;refine ak bW @wi ?_;exact h
def ahi(s:Bs)(c:UInt8)(O:VH):VF Ε 179 [.s s,ef c] O (aC λm O'=>m=mi (Lib.indexByte s c)/\O'=O):=by
 refine ω 8 [.tmp 4] func179 ?_;refine κ eV ?_;refine κ eV ?_;refine π (vT s c O) ?_;rintro _ O2 ⟨rfl,eO⟩;rw[eO];refine ae eV ?_;refine ν eV ?_;trivial
def NS(s:Bs):Option (Bs×Bs×Bs):=
 if Lib.index s [36,123]<0 then Β
 else if Lib.indexByte (s.drop (Lib.index s [36,123]).toNat) 125<0 then Β
 else φ (s.take (Lib.index s [36,123]).toNat,(s.drop ((Lib.index s [36,123]).toNat+2)).take ((Lib.indexByte (s.drop (Lib.index s [36,123]).toNat) 125).toNat - 2),s.drop ((Lib.index s [36,123]).toNat+(Lib.indexByte (s.drop (Lib.index s [36,123]).toNat) 125).toNat+1))
def YW(s:Bs):MV:=match NS s with
 | none=>.tuple [.s s,.s [],.s [],mb γ]
 | some x=>.tuple [.s x.1,.s x.2.1,.s x.2.2,mb Α]
def UA(s:Bs)(c:UInt8)(j:Nat)(h:Lib.indexByte s c=j):j<Ζ s:=by
 have:=(Lib.indexByte_some h).1;exact(Ro.1 this).1
def ahj(s:Bs)(i j:Nat)(hi:Lib.index s [36,123]=i)(hj:Lib.indexByte (s.drop i) 125=j):2<=j:=by
 rcases Lib.index_spec s [36,123]with⟨h,_⟩ | ⟨k,hk,_,ho,_⟩;omega
 ·obtain rfl:k=i:=Λ
  have h1:=(Lib.indexByte_some hj).1;unfold Lib.occAt at ho;rcases hd:s.drop k with _ | ⟨a,_ | ⟨b,l⟩⟩;rw[hd]at h1;simp at h1;rw[hd]at ho;simp[List.isPrefixOf]at ho
  ·rw[hd]at ho h1;simp[List.isPrefixOf]at ho;obtain⟨rfl,rfl⟩:=ho
   match j,h1 with
   | 0,h1=>simp at h1
   | 1,h1=>simp at h1
   | j+2,_=>omega
def ahk(s:Bs)(O:VH)(hs:Ζ s<=1000000):VF Ε 153 [.s s] O (aC λm O'=>m=YW s/\O'=O):=by
 unfold YW NS;have bK:=Lib.index_ge s [36,123];have hle:=index_le s [36,123];have htw:=λi j=>ahj s i j
 have CW:=TA s [36,123] O Λ;refine ω 36 [.tmp 2,.tmp 3,.tmp 4,.tmp 5] func153 ?_;refine κ eV ?_;refine κ eV ?_;refine π CW ?_;clear CW;rintro _ O2 ⟨rfl,eO⟩;rw[eO];clear eO O2;generalize Lib.index s [36,123]=x at*;refine ae eV ?_;by_cases hx:x<0;have hd:decide (x<0)=Α:=decide_eq_true hx;rw[if_pos hx];refine ξ eV hd ?_;trivial;have hd:decide (x<0)=γ:=decide_eq_false hx;rw[if_neg hx];obtain⟨i,rfl⟩:=Int.eq_ofNat_of_zero_le (show 0<=x by omega);have K_:=ahi (s.drop i) 125 O;have bI:=UA (s.drop i) 125;have hbg:=Lib.indexByte_ge (s.drop i) 125;rw[aui]at bI;have aru:=htw i;rw[Int.toNat_natCast];generalize Lib.indexByte (s.drop i) 125=y at*;refine ξ eV hd ?_;refine κ eV ?_;refine π K_ ?_;clear K_;rintro _ O2 ⟨rfl,eO⟩;rw[eO];clear eO O2;refine ae eV ?_;by_cases hy:y<0;have nS:decide (y<0)=Α:=decide_eq_true hy;rw[if_pos hy];refine ξ eV nS ?_;trivial;have nS:decide (y<0)=γ:=decide_eq_false hy;rw[if_neg hy];obtain⟨j,rfl⟩:=Int.eq_ofNat_of_zero_le (show 0<=y by omega);have h2:=aru j rfl rfl;have h3:=bI j rfl;rw[Int.toNat_natCast];have a1:((i:Int)+2)=((i+2:Nat):Int):=Λ
 have a2:((i:Int)+j)=((i+j:Nat):Int):=Λ
 have a3:(((i+j:Nat):Int)+1)=((i+j+1:Nat):Int):=Λ
 have a4:i+j - (i+2)=j - 2:=Λ
 refine ξ eV nS ?_;refine Δ ?_;refine WC.bM .reads [(0,.rd),(1,.rd),(2,.rd),(3,.rd),(4,.rd),(5,.rd),(6,.rd),(7,.rd),(8,.rd),(9,.rd),(10,.rd),(11,.rd),(12,.rd),(13,.rd),(14,.rd),(15,.rd),(16,.rd),(17,.rd),(18,.rd),(19,.rd)] ?_;refine gy eV a1 @a2 @a3 @a4 ?_;refine ν eV ?_;trivial
def fG:=Rn eV<|Rn af5 IF
def oN(e:Int)(w:Bs):MV:=.iface 244 (.agg [mi e,.s w])
def ahl :BF 244 (iv Ε 244) (φ p)=φ (.iface 244 p):=by rw[af5.1.1];rfl
def akG{nb:Nat}{q:ϑ}(h:gB O B b q s)(hnb:O.hp nb=φ (.cells [.s nm]))(hne:nb<O.N/\nb<B/\nb≠b)(l:Bs)(hl:Ζ s+Ζ l<=100000000):
  VF Ε 151 ([.s l]++[.p b 0,.p nb 0]) O (λr O'=>∃q',gB O' B b q' (s++l)/\gh O b q O' q'/\match r with
   | .ret _=>Ζ s+Ζ l<=4096
   | .panic m=>4096<Ζ s+(Ζ l)/\m=oN 2 nm):=by
 simp only[ai9,ai_];refine ω 11 [] func151 ?_;refine κ eV ?_;refine π (bX l h) ?_;rintro _ O2 ⟨rfl,q2,bV,dZ⟩;have hln:(s++l).length=Ζ s+Ζ l:=TR;refine ae eV ?_;refine κ eV ?_;refine Ω (ao2 bV) ?_;rw[hln];refine ae eV ?_;by_cases hx:Ζ s+Ζ l>4096;have e1:decide (((Ζ s+Ζ l:Nat):Int)>4096)=Α:=decide_eq_true Λ;have e2:decide ((4096:Int)<((Ζ s+Ζ l:Nat):Int))=Α:=e1;have ahm:O2.hp nb=φ (.cells [.s nm]):=(dZ.2 nb hne.1 hne.2.2 (λe=>by have:=h.uT nb e;omega)).trans hnb;refine ak fG (Rn e1 e2) ?_;refine VC.qI rfl ?_;refine ι ?_;refine gy fG @wi @wd @ahl ahm ?_;refine VL.panic rfl rfl rfl ?_;refine ae @wd ?_;exact⟨q2,bV,dZ,Λ,rfl⟩;have e1:decide (((Ζ s+Ζ l:Nat):Int)>4096)=γ:=decide_eq_false Λ;have e2:decide ((4096:Int)<((Ζ s+Ζ l:Nat):Int))=γ:=e1;refine ο eV (Rn e1 e2) ?_;exact⟨q2,bV,dZ,Λ⟩
def akH(W:List Bs)(k c:Nat)(sp:Η)(x:Bs)(O:VH)(hk:O.hp k=φ (.cells (W.map .s++sp)))(hc:(W.map MV.s++sp).length=c)(hW:Ζ W<=10000):
  VF Ε 154 [.bk k 0 (Ζ W) c,.s x] O (aC λm O'=>m=mi (match W.findIdx? (x== ·)with | some i=>(i:Int) | none=> -1)/\O'=O):=by
 have hlc:Ζ W<=c:=by rw[<-hc];simp
 refine ω 19 [.tmp 4] func154 ?_;refine κ fG ?_;refine Ξ [] (λ_:Unit=>[]) (λ_ O'=>O'=O/\∀y∈W,(x==y)=γ) ?_ ?_;rotate_left;rintro _ O2 ⟨eO,cZ⟩;rw[eO];clear eO O2;rw[List.findIdx?_eq_none_iff.2 cZ];refine κ fG ?_;refine ν fG ?_;trivial;refine κ fG ?_;refine Γ ?_;refine Υ [8] [0,1,7] (λj:Nat=>[mi j]) (λj O'=>O'=O/\j<=(Ζ W)/\∀i (hi:i<Ζ W),i<j->(x==W[i])=γ) (λj=>(Ζ W) - j) (0) ?_ ?_;exact⟨rfl,alp _,λi _ h=>Λ⟩;rintro j O2 ⟨eO,hj,cZ⟩;rw[eO];clear eO O2;by_cases bu:j<Ζ W;rotate_left
 ·obtain rfl:j=Ζ W:=Λ
  refine ν fG ?_
  exact aE.mk () ⟨rfl,λy hy=>by
   obtain⟨i,hi,rfl⟩:=auh.1 hy;exact cZ i hi hi⟩
 have ew:=jSx j
 have bh:(W.map MV.s++sp)[j]?=φ (.s W[j]):=by
  rw[auk (by rw[apI];exact bu),apJ,apH bu];rfl
 refine κ fG ?_;refine κ fG ?_;refine Δ (Γ ?_);refine κ fG ?_;cases he:x==W[j];refine θ (gy fG hk hc bh @he ?_);refine ν fG ?_;refine ο fG ew ?_;refine aw.N (j+1) ⟨rfl,bu,λi hi nj=>?_⟩;rcases Nat.lt_succ_iff_lt_or_eq.1 nj with h | rfl;exact cZ i hi h;exact he;refine θ (gy fG hk hc bh @he ?_);rw[List.findIdx?_eq_some_iff_getElem.2 ⟨bu,he,λi hi=>by rw[cZ i Λ hi];simp⟩];refine ν fG ?_;trivial
def akI(W:List Bs)(p:MV)(B:Nat)(x:Bs)(O:VH)(h:GR O 9 1 B p (Ζ W) (W.map .s))(hW:Ζ W<=10000):
  VF Ε 121 [p,.s x] O (aC λm O'=>m=mb (W.contains x)/\O'=O):=by
 rcases h with⟨h0,_,h2⟩ | ⟨k,c,rfl,_,_,hr⟩;obtain rfl:W=[]:=List.length_eq_zero_iff.1 h0;rcases h2 with rfl | rfl;exact aa0 x O _;exact aa0 x O _;obtain⟨sp,h1,h2⟩:=hr.cells;rw[auu]at h2;have hi:=akH W k c sp x O h1 h2 hW
 have wW:W.contains x=(W.findIdx? (x== ·)).isSome:=by
  rw[List.findIdx?_isSome,List.contains_eq_any_beq]
 refine ω 9 [.tmp 4] func121 ?_;refine κ fG ?_;refine κ fG ?_;refine π hi ?_;clear hi;rintro _ O2 ⟨rfl,eO⟩;rw[eO];clear eO O2
 rw[wW];cases hf:W.findIdx? (x== ·)with
 | none=>
   refine ae fG ?_;refine ν fG ?_;trivial
 | some i=>
   have e1:decide ((i:Int)>=0)=Α:=decide_eq_true Λ;have e2:decide ((0:Int)<=i)=Α:=e1;refine ak fG (Rn e1 e2) ?_;refine ν fG ?_;trivial
abbrev cT:=eL×Nat
abbrev yV:=Int×Bs
def Bd(st:cT)(nm v:Bs):cT:=match Lx nm st.1 0 with
 | some (i,_)=>(st.1.modify i λe=>(nm,v,e.2.2),st.2)
 | none=>(st.1++[(nm,v,st.2)],st.2+1)
def NT(k v:Bs):∀(M:eL)(i:Nat),nK (M.modify i λe=>(k,v,e.2.2))=setAt (nK M) i (.s k) (.s v)
 | [],i=>by simp[nK,setAt]
 | e::M,0=>by simp[nK,setAt]
 | e::M,i+1=>by
   have ih:=NT k v M i;simp only[nK,setAt]at ih ⊢;simp only[List.modify_succ_cons,List.map_cons,ih]
def ao4{t kt et:TypeId}{st:cT}{k:Bs}(h:tab t=φ ⟨.map kt et,a,b',z⟩)(hk:tab kt=φ ⟨.string,c,d,y⟩)(hb:O.hp b=φ (.map (nK st.1) st.2)):
  fl tab O t (.map b) (.s k) (.s v)=φ (O.set b (.map (nK (Bd st k v).1) (Bd st k v).2)):=by
 unfold fl Bd;simp only[h,hk,asc,hb,Hs,Ct];cases hf:Lx k st.1 0 with
 | none=>simp[nK]
 | some p=>
   obtain⟨i,m⟩:=p;simp only[NT]
def wZ(val:Bs->cT->Except yV (Bs×cT))(kn:Bs->Bool)(nm:Bs):Nat->Bs->Bs->cT->Except yV (Bs×cT)
 | 0,_,_,_=>.error (2,[])
 | f+1,acc,s,st=>match NS s with
   | none=>if (Ζ acc)+Ζ s<=4096 then .ok (acc++s,st)else .error (2,nm)
   | some x=>if (Ζ acc)+Ζ x.1<=4096 then
     if kn x.2.1 then match val x.2.1 st with
      | .error e=>.error e
      | .ok y=>if(acc++x.1).length+Ζ y.1<=4096 then wZ val kn nm f (acc++x.1++y.1) x.2.2 y.2 else .error (2,nm)
     else if(acc++x.1).length+([36,123]++x.2.1++[125]).length<=4096 then wZ val kn nm f (acc++x.1++([36,123]++x.2.1++[125])) x.2.2 st else .error (2,nm)
     else .error (2,nm)
def w4(R:eL):Nat->List Bs->Bs->cT->Except yV (Bs×cT)
 | 0,_,_,_=>.error (2,[])
 | d+1,W,nm,st=>match oM nm st.1 with
   | some v=>.ok (v,st)
   | none=>if W.contains nm then .error (22,nm)else if 32<=(Ζ W) then .error (2,nm)else
     match wZ (w4 R d (W++[nm])) (λr=>(oM r R).isSome) nm (((oM nm R).getD []).length+1) [] ((oM nm R).getD []) st with
     | .error e=>.error e
     | .ok y=>.ok (y.1,Bd y.2 nm y.1)
def ahn{x:Bs×Bs×Bs}(h:NS s=φ x):Ζ x.2.2<(Ζ s)/\(Ζ x.1)<=(Ζ s)/\(Ζ x.2.1)<=Ζ s:=by
 unfold NS at h;split at h;cases h;split at h;cases h;injection h with h;subst h;rename_i h1 h2;obtain⟨j,hj⟩:=Int.eq_ofNat_of_zero_le (show 0<=Lib.indexByte (s.drop (Lib.index s [36,123]).toNat) 125 by omega);have:=UA _ _ j hj;rw[aui]at this;dsimp only;refine⟨?_,by rw[auz];omega,by rw[auz,aui];omega⟩;rw[hj,aui];omega
structure WS(O:VH)(wb tb kr kd:Nat)(L:List (Bs×Bs))(R:eL)(cr:Nat)(tk:Tok)(B:Nat)(st:cT)(p:MV)(W:List Bs):Prop where
 DA:∃kn,AA O tb kr kd L R st.1 cr st.2 tk kn
 wk:O.hp wb=φ (.cells [.p tb 0,p])
 gr:GR O 9 1 B p (Ζ W) (W.map .s)
 lt:wb<B/\tb<B/\kr<B/\kd<B/\B<=O.N
 ne:wb≠tb/\wb≠kr/\wb≠kd
 sh:∀e∈st.1,Ζ e.2.1<=4096
 wl:Ζ W<=32
def WF(O:VH)(wb tb kd:Nat)(p:MV)(O':VH):Prop:=O.N<=O'.N/\∀i,i<O.N->i≠wb->i≠tb->i≠kd->gid p≠φ i->O'.hp i=O.hp i
def GR.fr{el:TypeId}(h:GR O el sz B p n L)(hn:O.N<=O'.N)(hq:∀k,gid p=φ k->O'.hp k=O.hp k)(hs:∀j k t n,O.hp j=φ (.shape k t n)->j<O.N->O'.hp j=O.hp j):GR O' el sz B p n L:=by
 rcases h with h | ⟨k,c,rfl,g1,g2,g3⟩;exact .inl h;obtain⟨sp,r1,r2⟩:=g3.cells;obtain⟨i,i1,i2,i3⟩:=g3.n4;exact .inr ⟨k,c,rfl,g1,g2,⟨sp,(hq k rfl).trans r1,r2⟩,⟨i,i1,Λ,(hs i _ _ _ i3 i2).trans i3⟩,g3.lo,by have:=g3.hi;omega⟩
def GR.fF{el:TypeId}(h:GR O el sz B p n L):∀k,gid p=φ k->B<=k/\k<O.N/\∃cs,O.hp k=φ (.cells cs):=by
 intro k hk;rcases h with⟨_,_,rfl | rfl⟩ | ⟨k',c,rfl,_,_,hr⟩;cases hk;cases hk;injection hk with hk;subst hk;obtain⟨sp,r1,_⟩:=hr.cells;exact⟨hr.lo,hr.hi,_,r1⟩
def WS.fr{L:List (Bs×Bs)}{R:eL}{st:cT}(h:WS O wb tb kr kd L R cr tk B st p W)(hn:O.N<=O'.N)(hi:∀i,i<O.N->i<B\/gid p=φ i\/(∃k t n,O.hp i=φ (.shape k t n))->O'.hp i=O.hp i):WS O' wb tb kr kd L R cr tk B st p W:=by
 obtain⟨kn,ht⟩:=h.DA;obtain⟨l1,l2,l3,l4,l5⟩:=h.lt;refine⟨⟨kn,(hi _ Λ (.inl l2)).trans ht.cell,(hi _ Λ (.inl l3)).trans ht.raw,(hi _ Λ (.inl l4)).trans ht.done,⟨Λ,Λ,Λ⟩,ht.ne⟩,(hi _ Λ (.inl l1)).trans h.wk,h.gr.fr hn (λk hk=>hi k (h.gr.fF k hk).2.1 (.inr (.inl hk))) (λj k t n hj hl=>hi j hl (.inr (.inr ⟨k,t,n,hj⟩))),⟨l1,l2,l3,l4,Λ⟩,h.ne,h.sh,h.wl⟩
def WS.ge{L:List (Bs×Bs)}{R:eL}{st:cT}(h:WS O wb tb kr kd L R cr tk B st p W)(g:O.Ge O'):WS O' wb tb kr kd L R cr tk B st p W:=h.fr g.N λi hi _=>g.hp i hi
def VQ'(O:VH)(wb tb kr kd:Nat)(L:List (Bs×Bs))(R:eL)(cr:Nat)(tk:Tok)(B:Nat)(p:MV)(W:List Bs)(x:Except yV (Bs×cT)):gm->VH->Prop:=λr O'=>WF O wb tb kd p O'/\match r,x with
 | .ret m,.ok y=>m= .s y.1/\(Ζ y.1)<=4096/\∃p',WS O' wb tb kr kd L R cr tk B y.2 p' W/\∀k,gid p'=φ k->gid p=φ k\/O.N<=k
 | .panic m,.error e=>m=oN e.1 e.2
 | _,_=>False
def WF.trans{A A':VH}{p':MV}(h:WF O wb tb kd p A)(h2:WF A wb tb kd p' A')(hp:∀k,gid p'=φ k->gid p=φ k\/O.N<=k):WF O wb tb kd p A':=
 ⟨apE h.1 h2.1,λi hi a b c d=>(h2.2 i (aev hi h.1) a b c (λe=>by
  rcases hp i e with e' | e';exact d e';omega)).trans (h.2 i hi a b c d)⟩
structure Ly(O:VH)(b wb tb kr kd:Nat)(L:List (Bs×Bs))(R:eL)(cr:Nat)(tk:Tok)(B:Nat)(p:MV)(W:List Bs)(nm:Bs)(A:VH)(st:cT)(p1:MV)(q:ϑ)(acc:Bs):Prop where
 lP:gB A b b q acc
 nb:A.hp O.N=φ (.cells [.s nm])
 ws:WS A wb tb kr kd L R cr tk B st p1 W
 wf:WF O wb tb kd p A
 nx:b+2<=A.N
 gp:∀k,gid p1=φ k->gid p=φ k\/b+2<=k
 gq:∀k,gid p1=φ k->q≠φ k
 bb:b=O.N+1/\B<=O.N/\∀k,gid p=φ k->k<O.N
section
variable{O:VH}{b wb tb kr kd cr B:Nat}{L:List (Bs×Bs)}{R:eL}{tk:Tok}{p p1 p2:MV}{W:List Bs}{nm acc amg:Bs}{A A2:VH}{st Qy:cT}{q q2:ϑ}
def gB.cl(h:gB A B b q acc):(∃cs,A.hp b=φ (.cells cs))/\∀k,q=φ k->∃cs,A.hp k=φ (.cells cs):=by
 obtain⟨pp,buf,c1,_,c3,c4,_⟩:=h.cell;exact⟨⟨_,c1⟩,λk hk=>(c3.fF k (by rw[c4,hk])).2.2⟩
def Ly.put(h:Ly O b wb tb kr kd L R cr tk B p W nm A st p1 q acc)(hb:gB A2 b b q2 amg)(u:gh A b q A2 q2):Ly O b wb tb kr kd L R cr tk B p W nm A2 st p1 q2 amg:=by
 obtain⟨b1,b2,b3⟩:=h.bb;have gT:=h.lP.uT;have oa:=h.nx;obtain⟨⟨c0,hc0⟩,T6⟩:=h.lP.cl
 have hg:∀k,gid p1=φ k->k≠b:=λk hk=>by
  rcases h.gp k hk with e | e;have:=b3 k e;omega;omega
 refine⟨hb,(u.hp _ Λ Λ (λe=>by have:=gT _ e;omega)).trans h.nb,h.ws.fr u.N λi hi hc=>?_,?_,by have:=u.N;omega,h.gp,λk hk=>u.new k (h.ws.gr.fF k hk).2.1 (h.gq k hk),h.bb⟩;rcases hc with e | e | ⟨k,t,n,e⟩;exact u.hp i hi Λ (λe'=>by have:=gT _ e';omega);exact u.hp i hi (hg i e) (h.gq i e);refine u.hp i hi (λe'=>?_) (λe'=>?_);rw[e',hc0]at e;cases e;obtain⟨cs,ju⟩:=T6 i e';rw[ju]at e;cases e;exact⟨apE h.wf.1 u.N,λi hi a c d e=>(u.hp i (aev hi h.wf.1) Λ (λe'=>by have:=gT _ e';omega)).trans (h.wf.2 i hi a c d e)⟩
def Ly.val(h:Ly O b wb tb kr kd L R cr tk B p W nm A st p1 q acc)(u:WF A wb tb kd p1 A2)(w:WS A2 wb tb kr kd L R cr tk B Qy p2 W)(g:∀k,gid p2=φ k->gid p1=φ k\/A.N<=k):Ly O b wb tb kr kd L R cr tk B p W nm A2 Qy p2 q acc:=by
 obtain⟨b1,b2,b3⟩:=h.bb;have gT:=h.lP.uT;have oa:=h.nx;obtain⟨l1,l2,l3,l4,l5⟩:=h.ws.lt;obtain⟨kn,ht⟩:=h.ws.DA
 have hg:∀k,gid p1=φ k->k≠b/\k≠O.N:=λk hk=>by
  rcases h.gp k hk with e | e;have:=b3 k e;omega;omega
 refine⟨h.lP.fc u.1 (u.2 b Λ Λ Λ Λ (λe=>(hg b e).1 rfl)) (λi hi=>?_) (λj k t n hj hl=>u.2 j hl ?_ ?_ ?_ ?_),(u.2 _ Λ Λ Λ Λ (λe=>(hg _ e).2 rfl)).trans h.nb,w,h.wf.trans u (λk hk=>?_),by have:=u.1;omega,λk hk=>?_,λk hk=>?_,h.bb⟩
 ·have Qx:i<A.N:=by
   rcases Nat.lt_or_ge i A.N with h' | h';exact h';exact absurd hi (h.lP.MH i h')
  have:=gT i hi;exact u.2 i Qx Λ Λ Λ (λe=>h.gq i e hi)
 ·intro e;rw[e,h.ws.wk]at hj;cases hj
 ·intro e;rw[e,ht.cell]at hj;cases hj
 ·intro e;rw[e,ht.done]at hj;cases hj
 ·intro e;obtain⟨_,_,cs,ju⟩:=h.ws.gr.fF j e;rw[ju]at hj;cases hj
 ·rcases h.gp k hk with e | e;exact .inl e;exact .inr Λ
 ·rcases g k hk with e | e;exact h.gp k e;exact .inr Λ
 ·rcases g k hk with e | e;exact h.gq k e;exact h.lP.MH k e
end
def UC{L:List (Bs×Bs)}{R:eL}{st:cT}(val:Bs->cT->Except yV (Bs×cT))(h:WS O wb tb kr kd L R cr tk B st p W)
  (wC:∀(r:Bs)(st':cT)(p':MV)(A:VH),WS A wb tb kr kd L R cr tk B st' p' W->(oM r R).isSome=Α->VF Ε 93 [.p wb 0,.s r] A (VQ' A wb tb kr kd L R cr tk B p' W (val r st')))
  (s nm:Bs) (hs:Ζ s<=100000) (X:Except yV (Bs×cT)) (hX:wZ val (λr=>(oM r R).isSome) nm (Ζ s+1) [] s st=X):
  VF Ε 119 [.p wb 0,.s s,.s nm] O (VQ' O wb tb kr kd L R cr tk B p W X):=by
 refine ω 53 [.tmp 6] func119 ?_;refine κ fG ?_;refine VC.bx ?_;rintro O1 ⟨aM,dz,dq⟩;refine κ fG ?_;have uP:=gB.fresh O1 (an5 O1.N);have ly:O1.Ge ((O1.push (.cells [.v (.pointer Β),.l 0 [] .nil])).push (.shape O1.N 141 2)):=((VH.Ge.refl O1).push _).push _;have IU:((O1.push (.cells [.v (.pointer Β),.l 0 [] .nil])).push (.shape O1.N 141 2)).N=O1.N+2:=rfl;generalize ((O1.push (.cells [.v (.pointer Β),.l 0 [] .nil])).push (.shape O1.N 141 2))=O2 at*;refine κ fG ?_;have gD:=aM.trans ly;have dQ:=ly.at dz;have hT0:Ly O O1.N wb tb kr kd L R cr tk B p W nm O2 st p Β []:=⟨uP,dQ,h.ge gD,⟨gD.N,λi hi _ _ _ _=>gD.hp i hi⟩,Λ,λk hk=>.inl hk,λk _ e=>(by cases e),dq,h.lt.2.2.2.2,λk hk=>(h.gr.fF k hk).2.1⟩;clear uP ly gD dQ dz;refine Γ ?_;refine Υ [1] [0,7,8] (λx:Bs×Bs×cT×MV×ϑ×Nat=>[.s x.2.1]) (λx A=>Ζ x.2.1<x.2.2.2.2.2/\(Ζ x.2.1)<=100000/\wZ val (λr=>(oM r R).isSome) nm x.2.2.2.2.2 x.1 x.2.1 x.2.2.1=X/\(Ζ x.1)<=4096/\Ly O O1.N wb tb kr kd L R cr tk B p W nm A x.2.2.1 x.2.2.2.1 x.2.2.2.2.1 x.1) (λx=>Ζ x.2.1) (([],s,st,p,Β,Ζ s+1)) ?_ ?_;exact⟨Nat.lt_succ_self _,hs,hX,z10,hT0⟩;clear hT0 hX hs s;rintro⟨acc,s,Dz,p1,q,f⟩ A ⟨hf,hs,hX,ha,hT⟩;dsimp only at hf hs hX ha hT ⊢;obtain⟨f,rfl⟩:∃g,f=g+1:=⟨f - 1,Λ⟩
 rw[wZ]at hX;have ow:=ahk s A Λ;unfold YW at ow;obtain⟨w1,w2,w3⟩:=hT.bb
 have Ga:∀(l:Bs)(A:VH)(Dz:cT)(p1:MV)(q:ϑ)(acc:Bs),Ly O O1.N wb tb kr kd L R cr tk B p W nm A Dz p1 q acc->Ζ acc+Ζ l<=100000000->VF Ε 151 ([.s l]++[.p O1.N 0,.p O.N 0]) A (λr A'=>∃q',Ly O O1.N wb tb kr kd L R cr tk B p W nm A' Dz p1 q' (acc++l)/\match r with
   | .ret _=>Ζ acc+Ζ l<=4096
   | .panic m=>4096<Ζ acc+(Ζ l)/\m=oN 2 nm):=λl A Dz p1 q acc hT hl=>by
  have oa:=hT.nx;refine VF.mono ?_ (akG hT.lP hT.nb ⟨Λ,Λ,Λ⟩ l hl);rintro(m | m) A' ⟨q',g1,g2,g3⟩;exact⟨q',hT.put g1 g2,g3⟩;exact⟨q',hT.put g1 g2,g3⟩
 refine Γ ?_;refine κ fG ?_;cases hc:NS s with
 | none=>
   rw[hc]at hX ow;dsimp only at hX ow;simp only[bg]at ow;refine π ow ?_;clear ow;rintro _ A2 ⟨rfl,eA⟩;rw[eA];clear eA A2;refine ae fG ?_;refine κ fG ?_;refine ah.p (Ga s A Dz p1 q acc hT Λ) ?_ ?_
   ·rintro m A2 ⟨q2,nX,hle⟩;dsimp only at hle;rw[if_pos hle]at hX;subst hX;have KZ:=nX.lP.uT;refine ae fG ?_;refine κ fG ?_;refine π (r_ nX.lP (by simp only[maxLen,TR];omega)) ?_;rintro _ A3 ⟨rfl,cx⟩;refine ae fG ?_;refine⟨⟨apE nX.wf.1 cx.N,λi hi a c d e=>(cx.hp i (aev hi nX.wf.1) (λe'=>by have:=KZ _ e';omega)).trans (nX.wf.2 i hi a c d e)⟩,rfl,by rw[TR];exact hle,p1,?_,λk hk=>?_⟩
    ·refine nX.ws.fr cx.N λi hi hc=>cx.hp i hi λe'=>?_
     rcases hc with e | e | ⟨k,t,n,e⟩;have:=KZ _ e';omega;exact nX.gq i e e';obtain⟨cs,ju⟩:=nX.lP.cl.2 i e';rw[ju]at e;cases e
    ·rcases nX.gp k hk with e | e;exact .inl e;exact .inr Λ
   ·rintro m A2 ⟨q2,nX,hle,rfl⟩;rw[if_neg Λ]at hX;subst hX;exact⟨nX.wf,rfl⟩
 | some x=>
   obtain⟨a,r,t⟩:=x;have lU:=ahn hc;rw[hc]at hX ow;dsimp only at hX ow lU;simp only[bg]at ow;refine π ow ?_;clear ow;rintro _ A2 ⟨rfl,eA⟩;rw[eA];clear eA A2;refine ae fG ?_;refine κ fG ?_;refine ah.p (Ga a A Dz p1 q acc hT Λ) ?_ ?_;rotate_left;rintro m A2 ⟨q2,nX,hle,rfl⟩;rw[if_neg Λ]at hX;subst hX;exact⟨nX.wf,rfl⟩
   rintro m A2 ⟨q2,nX,hle⟩;dsimp only at hle;rw[if_pos hle]at hX;clear hT;obtain⟨kn,htb⟩:=nX.ws.DA;have gK:=htb.cell;have Qg:=nX.ws.wk;simp only[aq]at gK;have eU:jP (iv Ε) A2 202 (.map kr) (.s r) Α=φ (uN Α (.s []) ((oM r R).map .s)):=Ht II T9 T9 htb.raw;cases hk:oM r R with
   | none=>
     rw[hk]at eU hX;simp only[Option.map_none,Hi]at eU;rw[if_neg z12]at hX;refine θ (bo bW Qg gK eU ?_);refine θ (bo bW Qg gK eU ?_);((((have KY:(acc++a).length<=4096:=by rw[TR];exact hle);have hlr:([36,123]++r++[125]:Bs).length=Ζ r+3:=by simp);refine ah.p (Ga ([36,123]++r++[125]) A2 Dz p1 q2 _ nX Λ) ?_ ?_;rotate_left);rintro m A3 ⟨q3,G7,aa1,rfl⟩;rw[if_neg Λ]at hX;subst hX;exact⟨G7.wf,rfl⟩);rintro m A3 ⟨q3,G7,aa1⟩;dsimp only at aa1;rw[if_pos aa1]at hX;refine ae bW ?_;refine ν bW ?_;exact aw.N (acc++a++([36,123]++r++[125]),t,Dz,p1,q3,f) ⟨by dsimp only;omega,by dsimp only;omega,hX,by dsimp only;rw[TR];exact aa1,G7⟩ (hm:=by dsimp only;omega)
   | some v0=>
     rw[hk]at eU hX;simp only[asc,Hh]at eU;rw[if_pos (by rfl)]at hX;refine θ (bo bW Qg gK eU ?_);refine θ (bo bW Qg gK eU ?_);(((have KY:(acc++a).length<=4096:=by rw[TR];exact hle);refine ah.ex (val r Dz) (wC r Dz p1 A2 nX.ws (by rw[hk];rfl)) ?_ ?_);rintro e m A3 hv ⟨Gb,h3⟩;rw[hv]at h3 hX;dsimp only at h3 hX;subst hX;refine⟨nX.wf.trans Gb (λk hk=>?_),h3⟩;rcases nX.gp k hk with e' | e';exact .inl e';exact .inr Λ);rintro y m A3 hv ⟨Gb,h3⟩;rw[hv]at h3 hX;obtain⟨rfl,hy,p3,GW,qx⟩:=h3;dsimp only at hX;have G7:=nX.val Gb GW qx;refine ae bW ?_;refine ah.p (Ga y.1 A3 y.2 p3 q2 _ G7 Λ) ?_ ?_;rotate_left;rintro m A4 ⟨q4,xy,aa2,rfl⟩;rw[if_neg Λ]at hX;subst hX;exact⟨xy.wf,rfl⟩;rintro m A4 ⟨q4,xy,aa2⟩;dsimp only at aa2;rw[if_pos aa2]at hX;refine ae bW ?_;refine ν bW ?_;exact aw.N (acc++a++y.1,t,y.2,p3,q4,f) ⟨by dsimp only;omega,by dsimp only;omega,hX,by dsimp only;rw[TR];exact aa2,xy⟩ (hm:=by dsimp only;omega)
end Go.Proofs.YtnfdmplcieacjaaGreatDoor
