import Derived.Test.YtoclnkfdahmnhaaGreatDoorMF
import Derived.RangeFuncSeq
import Derived.Shelf.Strings.Replace
import Derived.Shelf.Strings.Repeat
import Derived.Test.YtoclnkfdahmnhaaGreatDoorProg
set_option linter.unusedVariables false
set_option linter.unusedSimpArgs false
namespace Go.Proofs.YtoclnkfdahmnhaaGreatDoor
open Go.RowKit
open _root_.List renaming length_append → Km, getElem?_eq_getElem → Kn, getElem?_eq_some_iff → RZ, length_map → TP, getElem?_map → XO, flatMap_cons → acs, length_nil → acu, length_cons → acv, eq_nil_of_length_eq_zero → acw, getElem?_cons_succ → ags, getElem?_eq_none → agt, getD_eq_getElem?_getD → agu, getElem?_append_right → agv, map_cons → agw, flatMap_append → agx, getElem?_append_left → ahX, append_nil → ahY, drop_zero → ah1, take_of_length_le → ah2, mem_cons_of_mem → ah3, nodup_cons → ah4, map_append → ah5, drop_succ_cons → akF, mem_cons → alE, cons_append → alF, length_take → alH, filter_cons → alI, flatMap_eq_nil_iff → alJ
open _root_.Nat renaming le_refl → XN, zero_le → agr, le_trans → ah0, zero_add → ah7, lt_of_lt_of_le → alD
open _root_.And renaming intro → yP
open _root_.Option renaming map_some → ahZ, map_none → ah6
open _root_.Bool renaming false_and → alC, and_eq_true → alG, true_and → alM
section
variable {G H:Gh} {n:Sz} {D:List Deferred} {e e':Env} {a:Act} {P:Program} {tab:bY} {O O':VH} {w:World} {m m':MV} {u v:Value} {ops:Array Oper} {Q:VQ} {c d:Code}
def RP (ops:Array Oper):Bool:=ops.all fun o=>match o.op with
 | .defer _=>false
 | _=>true
theorem Xz {o:Oper} {i:Nat} (h:RP ops=true) (ho:ops[i]?=some o):∀c,o.op≠ .defer c:=fun c hc=>by
 have:=Array.all_eq_true'.1 h o (Array.mem_of_getElem? ho);rw[hc]at this;cases this
def XA (ro:Option Nat):Fence:={Fence.wide with round:=ro}
theorem v7 {ro:Option Nat} {Q:Exit->Act->World->Prop} {K:Act->World->Prop} (hL:¬LetsOut Q) (hd:ro=none\/RP ops=true) (l2:List Nat) (hK:∀a w,K a w->wpOpsIn (XA ro) 0 P ops Q l2 a w):
  ∀(l1:List Nat) (a:Act) (w:World),wpOps P ops (Exit.then K Q) l1 a w->wpOpsIn (XA ro) 0 P ops Q (l1++l2) a w:=by
 intro l1;induction l1 with
 | nil=>intro a w h;exact hK a w h
 | cons i rest ih=>
   intro a w h;simp only[wpOps]at h;simp only[alF,wpOpsIn];cases ho:ops[i]? with
   | none=>simp only[ho]at h;exact ih a w h
   | some o=>
     simp only[ho]at h;by_cases hw:Region.wanted o (yielded ops a.tmps)=true
     ·simp only[hw,if_true]at h ⊢;have hL':¬LetsOut (Exit.then K Q):=hL;rcases h with h | h
      ·refine⟨fun _ _=>trivial,?_⟩
       have hs:o.semAt ro a.eval=execOp a.eval o:=by
        rcases hd with rfl | hd
        ·rfl
        ·exact Oper.semAt_eq _ _ _ (Xz hd ho)
       show o.uponIn (XA ro) 0 P a _ Q ((o.semAt ro a.eval).run P w);rw[hs];unfold Oper.wp at h;generalize (execOp a.eval o).run P w=r at h ⊢;cases r with
       | ok nx w'=>
         cases nx with
         | value v=>exact ih _ _ h
         | skip=>exact ih _ _ h
         | «defer» d=>exact ih _ _ h
         | enter f args=>
           refine⟨(fun h=>by cases h),?_⟩;have h1:CallsIn (XA ro) (0 - 1) P f args w' _:=callsIn_wide.2 h;refine h1.mono ?_;intro x F9 hx;cases x with
           | returned v=>exact ih _ _ hx
           | panicked c=>exact hx
           | outgrown=>exact absurd hx hL'
         | row row args=>
           refine⟨(fun h=>by cases h),?_⟩;intro c cs _;obtain⟨v,F9,r,s⟩:=h c cs;exact⟨v,F9,ih _ _ r,stepsIn_wide.2 s⟩
         | _=>exact h.elim
       | halt x w'=>
         cases x<;>first
          | exact h
          | exact False.elim h
      ·exact absurd h.2 hL'
     ·simp only[hw,if_false,Bool.false_eq_true]at h ⊢;exact⟨fun _ _=>trivial,ih _ _ h⟩
theorem B2:¬LetsOut (cz G n D Q):=by
 rintro⟨a,w,x,e,O,H,_,_,_,h,_⟩;cases x<;>exact h
theorem then_self {Q:Exit->Act->World->Prop}:Exit.then (Q .normal) Q=Q:=by
 funext y a w
 cases y<;>rfl
def GO (P:Program) (n:Sz) (y:Nat) (c:Code) (e:Env) (O:VH) (Q:VQ):Prop:=∀G a w,WR G O w->FR G n [] e a->c.wpIn (XA (some y)) 0 P (cz G n [] Q) a w
theorem Ke (l:List Oper) (L:List Oper) (k:Nat) (hL:∀j,L[j]?=none\/L[j]?=l[k+j]?) (h:VL P n D .plain ⟨l⟩ (L.map (Fl.one, ·)) e O Q):iz P n D ⟨l⟩ (List.range' k L.length) e O Q:=by
 have:=h 0 #[] _ (uT (ops:=⟨l⟩) L k fun j=>by simpa using hL j) (fun h=>absurd rfl h);simp only[Yr,List.map_map]at this;rw[show((fun x:Nat×Fl=>x.1) ∘ fun x=>(x,Fl.one))=_root_.id from rfl,List.map_id]at this;exact this
theorem GO.region {y id:Nat} {l:List Oper} (h:WL P tab n [] .plain ⟨l⟩ Q (l.map (Fl.one, ·)) e O) (ht:aL P tab:=by exact aa) (hd:RP ⟨l⟩=true:=by kernel_rfl):GO P n y (.region id ⟨l⟩ false) e O Q:=by
 intro G a w hw hf;have h1:=Ke l l 0 (fun j=>.inr (by simp)) (WL.sound ht h);refine wpIn_region ?_;rw[show(⟨l⟩:Array Oper).size=l.length from rfl,List.range_eq_range', <-ahY (List.range' 0 l.length)];exact v7 (K:=cz G n [] Q .normal) B2 (.inr hd) [] (fun _ _ h=>h) _ a w (by rw[then_self];exact h1 G a w hw hf)
theorem GO.block {y id:Nat} (h:GO P n y c e O (iB id Q)):GO P n y (.block id c) e O Q:=by
 intro G a w hw hf;refine wpIn_block (wpIn_mono (h G a w hw hf) ?_);rintro y a' w' ⟨x,e',O',H,h1,h2,h3,h4,h5⟩;cases y with
 | exit j=>
   cases x with
   | exit i=>
     obtain rfl:i=j:=h4;simp only[Exit.inBlock];simp only[iB]at h5;split
     ·rename_i hi;rw[if_pos hi]at h5;exact⟨.normal,e',O',H,h1,h2,h3,trivial,h5⟩
     ·rename_i hi;rw[if_neg hi]at h5;exact⟨.exit i,e',O',H,h1,h2,h3,rfl,h5⟩
   | _=>exact False.elim h4
 | _=>cases x<;>first
   | exact False.elim h4
   | exact⟨_,e',O',H,h1,h2,h3,h4,h5⟩
def VY (P:Program) (y:Nat) (ms:List MV) (O:VH) (R:MV->VH->Prop):Prop:=∀G w vs,WR G O w->aO G ms vs->YieldAt Fence.wide 0 P y vs.toArray w fun x w'=>∃v m O' H,x= .returned v/\Gh.Le G H/\WR H O' w'/\VR H m v/\R m O'
def lpF (k y:Nat) (ts:Array Value) (n:Sz) (e:Env):GP:=⟨fun G=>G.bR k=some y/\FR G n [] e {tmps:=ts,defers:=[]},fun hl h=>⟨hl.bR h.1,h.2.mono hl⟩⟩
def rK:List Tmp->List MV->Env->Env
 | t::ts,m::ms,e=>rK ts ms ((t,m)::e)
 | _,_,e=>e
theorem FR.rK:∀{ps:List Tmp} {ms:List MV} {vs:List Value} {e:Env} {ts:Array Value},FR G n D e {tmps:=ts,defers:=D}->aO G ms vs->ps.all (fun t=>decide (t<n.n))=true->
  FR G n D (rK ps ms e) {tmps:=(ps.zip vs).foldl (fun t (p:Tmp×Value)=>t.setIfInBounds p.1 p.2) ts,defers:=D}
 | [],ms,vs,e,ts,h,_,_=>by simpa[Go.Proofs.YtoclnkfdahmnhaaGreatDoor.rK]using h
 | t::ps,[],vs,e,ts,h,hv,_=>by rw[hv.fF];simpa[Go.Proofs.YtoclnkfdahmnhaaGreatDoor.rK]using h
 | t::ps,m::ms,vs,e,ts,h,hv,ha=>by
   obtain⟨u,us,rfl,h1,h2⟩:=hv.cD;simp only[List.all_cons,alG,decide_eq_true_eq]at ha;exact FR.rK (ps:=ps) (h.put ha.1 h1) h2 ha.2
def RdB (k:Nat) (r:Loop) (R:MV->VH->Prop):VQ:=fun x _ O2=>x= .normal/\O2.hp k=some (.obj (.loop {r with state:=.busy}))/\R (.v (.bool true)) (O2.set k (.obj (.loop {r with pending:=none})))
def RdA (P:Program) (n:Sz) (y k:Nat) (r:Loop) (body:Code) (R:MV->VH->Prop):VQ:=fun x e1 O1=>x= .normal/\O1.hp k=some (.obj (.loop r))/\GO P n y body e1 (O1.set k (.obj (.loop {r with state:=.busy}))) (RdB k r R)
theorem VY.round {y k j:Nat} {r:Loop} {ps:List Tmp} {ms:List MV} {R:MV->VH->Prop} (hk:O.hp k=some (.obj (.loop r))) (hj:O.hp j=some (.fact (lpF k y r.tmps n e))) (hr:r.state= .ready) (hp:r.params.toList=ps) (hn:ps.all (fun t=>decide (t<n.n))=true) (hl:ms.length=ps.length)
  (h:GO P n y r.assign (rK ps ms e) O (RdA P n y k r r.body R)):VY P y ms O R:=by
 intro G w vs hw hv;obtain⟨b,hb,hh⟩:=hw.obj k _ hk;obtain⟨eB,aU⟩:=hw.ze j _ hj;rw[eB]at hb;injection hb with hb;subst hb
 have oB:vs.toArray.size=r.params.size:=by
  rw[show vs.toArray.size=vs.length from rfl,hv.1,hl, <-hp];rfl
 refine⟨r.fn,_,r.assign,r.body,run_yield hh oB,roundIn_of_wpIn trivial ?_⟩
 have akn:FR G n [] (rK ps ms e) {tmps:=(r.params.zip vs.toArray).foldl (fun t (p:Tmp×Value)=>t.setIfInBounds p.1 p.2) r.tmps,defers:=[]}:=by
  rw[<-Array.foldl_toList,Array.toList_zip,hp];exact FR.rK aU hv hn
 refine wpIn_mono (h G _ w hw akn) ?_;rintro x a1 w1 ⟨x',e1,O1,H,g1,g2,g3,g4,rfl,dY,ahQ⟩
 cases x<;>first
  | exact False.elim g4
  | skip
 have acf:=g1.bR eB;obtain⟨b,hb,hh1⟩:=g2.obj k _ dY;rw[acf]at hb;injection hb with hb;subst hb
 have qx:=g2.setObj (Y:=.loop {r with state:=.busy}) dY acf (fun _ _ _ e=>by cases e);refine⟨_,run_beginRound hh1 hr,wpIn_mono (ahQ H a1 _ qx g3) ?_⟩;rintro x a2 w2 ⟨x',e2,O2,H2,q1,q2,q3,q4,rfl,bJ,hR⟩
 cases x<;>first
  | exact False.elim q4
  | skip
 have agl:=q1.bR acf;obtain⟨b,hb,hh2⟩:=q2.obj k _ bJ;rw[agl]at hb;injection hb with hb;subst hb
 refine⟨_,_,run_endRound none hh2,_,_,_,H2,rfl,g1.trans q1,q2.setObj bJ agl (fun _ _ _ e=>by cases e),.v rfl,?_⟩;have:({r with state:=.ready,pending:=none}:Loop)={r with pending:=none}:=by rw[<-hr]
 simp only[Option.isNone_none,if_true];rw[this];exact hR
def YW (P:Program) (tab:bY) (n:Sz) (D:List Deferred) (l:List Oper) (k:Nat) (o:Oper) (x:Operand) (as_:Array Operand) (Q:VQ):VQ:=fun z e1 O1=>z= .normal/\∃y ms R,aN ⟨l⟩ o e1=some true/\ev e1 x=some (.func (.yield y) [] [])/\fP e1 as_.toList=some ms/\bp n o.dst=true/\VY P y ms O1 R/\
   ∀m O',R m O'->WL P tab n D .plain ⟨l⟩ Q ((l.drop (k+1)).map (Fl.one, ·)) (aV o.dst m e1) O'
theorem YW.mk {l:List Oper} {k:Nat} {o:Oper} {x:Operand} {as_:Array Operand} {y:Nat} {ms:List MV} {R:MV->VH->Prop} (hv:VY P y ms O R) (h:∀m O',R m O'->WL P tab n D .plain ⟨l⟩ Q ((l.drop (k+1)).map (Fl.one, ·)) (aV o.dst m e) O') (h1:aN ⟨l⟩ o e=some true:=by exact rfl) (h2:ev e x=some (.func (.yield y) [] []):=by exact rfl) (h3:fP e as_.toList=some ms:=by exact rfl) (h4:bp n o.dst=true:=by exact rfl):YW P tab n D l k o x as_ Q .normal e O:=
 ⟨rfl,y,ms,R,h1,h2,h3,h4,hv,h⟩
theorem VC.yield {id:Nat} (k:Nat) {l:List Oper} {o:Oper} {ca:Call} {x:Operand} (hk:l[k]?=some o) (uF:o.op= .call ca) (hc:ca.callee= .value x)
  (h:WL P tab n D .plain ⟨l⟩ (YW P tab n D l k o x ca.args Q) ((l.take k).map (Fl.one, ·)) e O) (ht:aL P tab:=by exact aa):VC P n D (.region id ⟨l⟩ false) e O Q:=by
 intro G a w hw hf;have kj:k<l.length:=(RZ.1 hk).1;rw[<-wpIn_wide (n:=0)];refine wpIn_region ?_;have hlen:(l.take k).length=k:=by rw[alH];omega
 have h1:=Ke l (l.take k) 0 (fun j=>by
  by_cases hj:j<k
  ·rw[List.getElem?_take,if_pos hj,ah7];exact .inr rfl
  ·exact .inl (by rw[List.getElem?_take,if_neg hj])) (WL.sound ht h)
 rw[hlen]at h1
 have aez:List.range (⟨l⟩:Array Oper).size=List.range' 0 k++k::List.range' (k+1) (l.drop (k+1)).length:=by
  rw[show(⟨l⟩:Array Oper).size=l.length from rfl,List.range_eq_range',List.length_drop];obtain⟨j,hj⟩:∃j,l.length=k+(j+1):=⟨l.length - k - 1,by omega⟩
  rw[hj,show k+(j+1) - (k+1)=j from by omega, <-List.range'_append_1,ah7,List.range'_succ]
 rw[aez]
 refine v7 (ro:=none) (K:=fun a1 w1=>∃e1 O1 H,Gh.Le G H/\WR H O1 w1/\FR H n D e1 a1/\∃y ms R,aN ⟨l⟩ o e1=some true/\ev e1 x=some (.func (.yield y) [] [])/\fP e1 ca.args.toList=some ms/\bp n o.dst=true/\VY P y ms O1 R/\
   ∀m O',R m O'->WL P tab n D .plain ⟨l⟩ Q ((l.drop (k+1)).map (Fl.one, ·)) (aV o.dst m e1) O') B2 (.inl rfl) _ ?_ _ a w ?_
 ·rintro a1 w1 ⟨e1,O1,H,g1,g2,g3,y,ms,R,q1,q2,q3,q4,q5,q6⟩;have EN:(⟨l⟩:Array Oper)[k]?=some o:=by simpa using hk
  simp only[wpOpsIn,EN,bn g3 q1,if_true];refine⟨fun _ _=>trivial,?_⟩;have uG:=g3.ev q2;generalize Bf:a1.eval x=fv at uG;cases uG with
  | func h1 h2 h3 h4=>
    rename_i us vs;have iO:us=[]:=acw h1;have n4:vs=[]:=acw h3;subst iO;subst n4
    have ik:=g3.fP q3;obtain⟨fn,tmps,asg,body,cj,aeA⟩:=q5 H w1 _ g2 ik
    have hex:(execOp a1.eval o).run P w1= .ok (.round y fn tmps asg body) w1:=by
     have ha: #[]++ca.args.map a1.eval=(ca.args.toList.map a1.eval).toArray:=by apply Array.ext';simp
     simp only[execOp,uF,resolve,hc,Bf,Deferred.ofValue,Sem.run_bind,Sem.run_pure,Result.andThen_ok,invoke];rw[ha];exact cj
    show o.uponIn (XA none) 0 P a1 _ _ ((execOp a1.eval o).run P w1);rw[hex,Oper.uponIn_round];refine⟨(fun h=>by cases h),RoundIn.mono aeA ?_⟩;rintro x w2 ⟨v,m,O',H2,rfl,p1,p2,p3,p4⟩;have h2:=Ke l (l.drop (k+1)) (k+1) (fun j=>.inr (by rw[List.getElem?_drop])) (WL.sound ht (q6 m O' p4));have h3:=h2 H2 (a1.put o.dst v) w2 p2 ((g3.mono p1).aV q4 p3);have h4:=ma (fun _ _ _=>cz.le (g1.trans p1)) _ _ _ h3;have:=v7 (ro:=none) (K:=cz G n D Q .normal) B2 (.inl rfl) [] (fun _ _ h=>h) _ _ w2 (by rw[then_self];exact h4);rw[ahY]at this;exact this
 ·refine ma ?_ _ _ _ (h1 G a w hw hf);rintro y a1 w1 ⟨z,e1,O1,H,g1,g2,g3,g4,rfl,g5⟩
  cases y<;>first
   | exact False.elim g4
   | exact⟨e1,O1,H,g1,g2,g3,g5⟩
def N8 (G:Gh):List Nat->List Deferred->Prop
 | [],[]=>True
 | j::js,d::D=>(∃b,G.bR j=some b/\d={target:=.collected b,args:= #[]})/\N8 G js D
 | _,_=>False
theorem N8.mono (h:G.Le H):∀{js:List Nat} {D:List Deferred},N8 G js D->N8 H js D
 | [],[],_=>trivial
 | _::_,_::_,⟨⟨b,h1,h2⟩,h3⟩=>⟨⟨b,h.bR h1,h2⟩,h3.mono h⟩
 | [],_::_,h=>h.elim
 | _::_,[],h=>h.elim
abbrev GQ:=VX->Env->VH->List Nat->Prop
def po (G:Gh) (n:Sz) (Q:GQ):Exit->Act->World->Prop:=fun y a w=>∃x e O H js D,Gh.Le G H/\WR H O w/\FR H n D e a/\N8 H js D/\XR H x y/\Q x e O js
theorem po.le (h:G.Le H) {Q:GQ} {y:Exit} (hp:po H n Q y a w):po G n Q y a w:=by
 obtain⟨x,e,O,K,js,D,h1,h2⟩:=hp;exact⟨x,e,O,K,js,D,h.trans h1,h2⟩
def VM (P:Program) (n:Sz) (js:List Nat) (c:Code) (e:Env) (O:VH) (Q:GQ):Prop:=∀G D a w,WR G O w->N8 G js D->FR G n D e a->c.wp P (po G n Q) a w
def kA (P:Program) (n:Sz) (js:List Nat) (c:Code) (Q:GQ):Env->VH->Prop:=fun e O=>VM P n js c e O Q
def AtM (Q:GQ) (js:List Nat):VQ:=fun x e O=>Q x e O js
variable {js:List Nat} {M:GQ}
theorem FRX.fr {x:VX} (h:FRX G n D x e a):FR G n D e a:=by
 cases x<;>first
  | exact h
  | exact h.2
theorem kA.mk (h:VM P n js c e O M):kA P n js c M e O:=h
theorem VM.Gn (h:∀D,VC P n D c e O (AtM M js)):VM P n js c e O M:=fun G D a w hw hm hf=>wp_mono (h D G a w hw hf) fun y a' w' ⟨x,e',O',H,h1,h2,h3,h4,h5⟩=>⟨x,e',O',H,js,D,h1,h2,h3.fr,hm.mono h1,h4,h5⟩
theorem VM.ag (h:∀D,VC P n D c e O (qG (kA P n js d M) (AtM M js))):VM P n js (.seq c d) e O M:=by
 intro G D a w hw hm hf;refine wp_seq (wp_mono (h D G a w hw hf) ?_);rintro y a1 w1 ⟨x,e',O',H,g1,g2,g3,g4,g5⟩
 cases y<;>cases x<;>first
  | exact False.elim g4
  | exact wp_mono (g5 H D a1 w1 g2 (hm.mono g1) g3) fun _ _ _=>po.le g1
  | exact⟨_,e',O',H,js,D,g1,g2,g3.fr,hm.mono g1,g4,g5⟩
  | exact⟨_,e',O',H,js,D,g1,g2,g3,hm.mono g1,g4,g5⟩
theorem VM.qX (h:∀D,WC P tab n D c e O (qG (kA P n js d M) (AtM M js))) (ht:aL P tab:=by exact aa):VM P n js (.seq c d) e O M:=VM.ag fun D=>WC.sound ht (h D)
theorem VM.seq (h:VM P n js c e O fun x e O js=>match x with
  | .normal=>VM P n js d e O M
  | x=>M x e O js):VM P n js (.seq c d) e O M:=by
 intro G D a w hw hm hf;refine wp_seq (wp_mono (h G D a w hw hm hf) ?_);rintro y a1 w1 ⟨x,e',O',H,v8,D',g1,g2,g3,g4,g5,g6⟩
 cases y<;>cases x<;>first
  | exact False.elim g5
  | exact wp_mono (g6 H D' a1 w1 g2 g4 g3) fun _ _ _=>po.le g1
  | exact⟨_,e',O',H,v8,D',g1,g2,g3,g4,g5,g6⟩
theorem VM.join {σ :Type} (l:List Nat) (ms: σ ->List MV) (I: σ ->VH->List Nat->Prop) (h1:VM P n js c e O fun x e O js=>match x with
  | .normal=>∃s,looks e l=some (ms s)/\I s O js
  | x=>M x e O js) (h2:∀s O js,I s O js->VM P n js d (ji l (ms s) []) O M):VM P n js (.seq c d) e O M:=by
 refine VM.seq fun G D a w hw hm hf=>wp_mono (h1 G D a w hw hm hf) ?_
 rintro y a1 w1 ⟨x,e',O',H,v8,D',g1,g2,g3,g4,g5,g6⟩;cases x with
 | normal=>
   obtain⟨s,h3,h4⟩:=g6;exact⟨.normal,ji l (ms s) [],O',H,v8,D',g1,g2,g3.less (iD (e0:=[]) (fun t x h=>by simp[look]at h) h3),g4,g5,h2 s O' v8 h4⟩
 | _=>exact⟨_,e',O',H,v8,D',g1,g2,g3,g4,g5,g6⟩
theorem VM.cond {x:Operand} {t:Bool} {c1 c2:Code} (hc:ev e x=some (mb t)) (h:VM P n js (if t then c1 else c2) e O M):VM P n js (.cond x c1 c2) e O M:=by
 intro G D a w hw hm hf;have hv:=hf.ev hc;generalize hx:a.eval x=u at hv;have:=VR.iP hv;subst this;exact wp_cond hx (h G D a w hw hm hf)
def Iq (id:Nat) (M:GQ):GQ:=fun x e O js=>match x with
 | .exit i=>if i=id then M .normal e O js else M (.exit i) e O js
 | x=>M x e O js
theorem Iq.ex {id:Nat} (h:M .normal e O js):AtM (Iq id M) js (.exit id) e O:=by
 show(if id=id then M .normal e O js else M (.exit id) e O js);rw[if_pos rfl];exact h
theorem VM.block {id:Nat} (h:VM P n js c e O (Iq id M)):VM P n js (.block id c) e O M:=by
 intro G D a w hw hm hf;refine wp_block (wp_mono (h G D a w hw hm hf) ?_);rintro y a' w' ⟨x,e',O',H,v8,D',h1,h2,h3,h4,h5,h6⟩;cases y with
 | exit j=>
   cases x with
   | exit i=>
     obtain rfl:i=j:=h5;simp only[Exit.inBlock];simp only[Iq]at h6;split
     ·rename_i hi;rw[if_pos hi]at h6;exact⟨.normal,e',O',H,v8,D',h1,h2,h3,h4,trivial,h6⟩
     ·rename_i hi;rw[if_neg hi]at h6;exact⟨.exit i,e',O',H,v8,D',h1,h2,h3,h4,rfl,h6⟩
   | _=>exact False.elim h5
 | _=>cases x<;>first
   | exact False.elim h5
   | exact⟨_,e',O',H,v8,D',h1,h2,h3,h4,h5,h6⟩
theorem VM.loop {σ :Type} {ks:List MV} (l K:List Nat) (ms: σ ->List MV) (I: σ ->VH->List Nat->Prop) (μ : σ ->Nat) (s0: σ) (hI:I s0 O js)
  (step:∀s O js,I s O js->VM P n js c (ji l (ms s) (ji K ks [])) O fun x e' O' v8=>match x with
   | .normal=>looks e' K=some ks/\∃s',looks e' l=some (ms s')/\I s' O' v8/\ μ s'< μ s
   | x=>M x e' O' v8) (h0:looks e l=some (ms s0):=by exact rfl) (hk:looks e K=some ks:=by exact rfl):VM P n js (.loop c) e O M:=by
 intro G D a w hw hm hf;refine wp_loop_rounds (μ s0+1) ?_
 suffices h:∀(k:Nat) (s: σ) (e:Env) (O:VH) (js:List Nat) (G:Gh) (D:List Deferred) (a:Act) (w:World), μ s=k->looks e l=some (ms s)->looks e K=some ks->I s O js->WR G O w->N8 G js D->FR G n D e a->Code.rounds P c (po G n M) (k+1) a w from
  h _ s0 e O js G D a w rfl h0 hk hI hw hm hf
 intro k;induction k using Nat.strongRecOn with
 | _ k ih=>
   intro s e O js G D a w hs hl hK hI hw hm hf;rw[rounds_succ];refine wp_mono (step s O js hI G D a w hw hm (hf.less (iD (iD (e0:=[]) (fun t x h=>by simp[look]at h) hK) hl))) ?_;rintro y a' w' ⟨x,e',O',H,v8,D',h1,h2,h3,h4,h5,h6⟩
   cases y<;>cases x<;>first
    | exact False.elim h5
    | exact⟨_,e',O',H,v8,D',h1,h2,h3,h4,h5,h6⟩
    | (obtain⟨q1,s',q2,q3,q4⟩:=h6
       exact ym (μ s'+1) k a' w' (by omega) (sK (fun _ _ _=>po.le h1) _ _ _ (ih (μ s') (by omega) s' e' O' v8 H D' a' w' rfl q2 q1 q3 h2 h4 h3)))
theorem WR.XB (h:WR G O w) (p:GP) (hp:p.p G):WR G (O.push (.fact p)) w:=by
 have hne:∀{j x},bt O.hp O.next (some (.fact p)) j=some x->(∀q,x≠ .fact q)->O.hp j=some x:=fun{j x} hj hx=>by
  by_cases e:j=O.next
  ·subst e;rw[aH]at hj;injection hj with hj;exact absurd hj.symm (hx _)
  ·rwa [aw _ _ e]at hj
 have ir:∀j b,G.bR j=some b->bt O.hp O.next (some (.fact p)) j≠none->O.hp j≠none:=fun j b hj hn=>by
  rwa [aw _ _ (fun e=>by subst e;rw[h.mn.1]at hj;cases hj)]at hn
 refine⟨h.base,h.ec,fun j hj=>?_,fun j c hj=>?_,fun i j c li lj hi hj=>h.inj i j c (ir i c hi li) (ir j c hj lj) hi hj,fun j cs hj=>h.cells j cs (hne hj (by simp)),fun j es ck hj=>h.map j es ck (hne hj (by simp)),fun t ht=>h.tok t (hne ht (by simp)),fun s t c x y hs ht=>h.kL s t c x y (hne hs (by simp)) (hne ht (by simp)),fun j k' t' n' hj=>h.nG j k' t' n' (hne hj (by simp)),fun j x hj=>h.obj j x (hne hj (by simp)),h.pw,fun j q hj=>?_⟩
 ·have hj:O.next+1<=j:=hj;obtain⟨h1,h2,h3⟩:=h.oZ j (by omega);exact⟨h1,h2,by show bt _ _ _ _=_;rw[aw _ _ (by omega)];exact h3⟩
 ·obtain⟨p1,p2,p3⟩:=h.jW j c hj;exact⟨p1,p2,fun hn=>p3 (ir j c hj hn)⟩
 ·have hj:bt O.hp O.next (some (.fact p)) j=some (.fact q):=hj;by_cases e:j=O.next
  ·subst e;rw[aH]at hj;injection hj with hj;injection hj with hj;subst hj;exact hp
  ·rw[aw _ _ e]at hj;exact h.ze j q hj
def lpO (O:VH) (r:Loop) (y:Nat) (n:Sz) (e:Env):VH:=((O.push (.obj (.deferred (some [])))).push (.obj (.loop r))).push (.fact (lpF (O.next+1) y r.tmps n e))
theorem VM.aeB {g:Operand} {ps:Array Tmp} {asg body:Code} {gf:FuncId} {cs:List MV} (hg:ev e g=some (.func (.func gf) [] cs)) (hE:Enters P gf)
  (hit:∀(y:Nat) (r:Loop) (F:VH),F=lpO O r y n e->r.state= .ready->r.pending=none->r.params=ps->r.assign=asg->r.body=body->VF P gf (.func (.yield y) [] []::cs) F
   (aE fun _ O'=>O'.hp (O.next+1)=some (.obj (.loop r))/\M .normal e (O'.set (O.next+1) (.obj (.loop {r with state:=.exhausted}))) (O.next::js))):
  VM P n js (.rangeFunc g ps asg body) e O M:=by
 intro G D a w hw hm hf;rw[<-wpIn_wide (n:=0)];refine wpIn_rangeFunc ?_;intro fn _;have uG:=hf.ev hg;generalize Bf:a.eval g=fv at uG;cases uG with
 | func h1 h2 h3 h4=>
   rename_i us vs;have iO:us=[]:=acw h1;subst iO;obtain⟨r,hr⟩:∃r:Loop,r={state:=.ready,pending:=none,fn,tmps:=a.tmps,params:=ps,assign:=asg,body,defers:=w.heap.size}:=⟨_,rfl⟩
   obtain⟨le1,w1⟩:=hw.LH (.deferred (some []));obtain⟨RQ,w2⟩:=w1.LH (.loop r);rw[size_alloc]at RQ w2;generalize hG1:({G with bR:=bt G.bR O.next (some w.heap.size)}:Gh)=G1 at le1 w1 RQ w2;generalize hG2:({G1 with bR:=bt G1.bR (O.push (.obj (.deferred (some [])))).next (some (w.heap.size+1))}:Gh)=G2 at RQ w2;have p1:G1.bR O.next=some w.heap.size:=by rw[<-hG1];exact aH _ _ _
   have p2:G2.bR (O.next+1)=some (w.heap.size+1):=by rw[<-hG2];exact aH _ _ _
   have kV:r.tmps=a.tmps:=by rw[hr]
   have ako:FR G2 n [] e {tmps:=r.tmps,defers:=[]}:=by
    rw[kV];exact(show FR G n [] e {tmps:=a.tmps,defers:=[]}from⟨rfl,hf.size,hf.get⟩).mono (le1.trans RQ)
   have w3:=w2.XB (lpF (O.next+1) (w.heap.size+1) r.tmps n e) ⟨p2,ako⟩;have gk:aO G2 cs vs:=aO.mono (le1.trans RQ) ⟨h3,h4⟩;have ahR:=hit (w.heap.size+1) r _ rfl (by rw[hr]) (by rw[hr]) (by rw[hr]) (by rw[hr]) (by rw[hr]) G2 _ (.func (.yield (w.heap.size+1)) #[] #[]::vs) w3 (aO.cons (.func (us:=[]) (vs:=[]) rfl (fun i c u h=>by simp at h) rfl (fun i c u h=>by simp at h)) gk);refine⟨w.heap.size+1,[{target:=.collected w.heap.size,args:= #[]}],(w.alloc (.deferred (some []))).alloc (.loop r),{target:=.fn (.func gf) vs.toArray,args:= #[.func (.yield (w.heap.size+1)) #[] #[]]},(w.alloc (.deferred (some []))).alloc (.loop r),gf,(.func (.yield (w.heap.size+1)) #[] #[]::vs).toArray,(w.alloc (.deferred (some []))).alloc (.loop r),?_,?_,fun _ _=>trivial,?_,(fun h=>by cases h),?_⟩
   ·rw[hr];exact run_enterLoop_outer _ _ _ _ _
   ·simp only[resolve,Bf];simp[go_sem]
   ·have:(#[.func (.yield (w.heap.size+1)) #[] #[]]++vs.toArray:Array Value)=(.func (.yield (w.heap.size+1)) #[] #[]::vs).toArray:=by apply Array.ext';simp
    show(callFunc gf (#[.func (.yield (w.heap.size+1)) #[] #[]]++vs.toArray)).run P _=_;rw[this];exact hE _ _
   ·refine(callsIn_wide.2 ahR).mono ?_;rintro x w4 ⟨rr,O4,H,q1,q2,q3,q4⟩;cases rr with
    | panic m=>exact q4.elim
    | ret m=>
      cases x with
      | panicked c=>exact q3.elim
      | outgrown=>exact q3.elim
      | returned v=>
        obtain⟨jq,hM⟩:=q4;have agm:=q1.bR p2;obtain⟨b,hb,hh4⟩:=q2.obj _ _ jq;rw[agm]at hb;injection hb with hb;subst hb
        have hle:Gh.Le G H:=le1.trans (RQ.trans q1);refine⟨r.pending,_,run_endLoop hh4 (by rw[hr];simp),?_⟩
        have mH:po G n M .normal {tmps:=a.tmps,defers:=[{target:=.collected w.heap.size,args:= #[]}]++a.defers} (w4.putObj (w.heap.size+1) (.loop {r with state:=.exhausted})):=
         ⟨.normal,e,_,H,O.next::js,{target:=.collected w.heap.size,args:= #[]}::D,hle,q2.setObj jq agm (fun _ _ _ e=>by cases e),⟨by show _::a.defers=_;rw[hf.defers],hf.size,(hf.mono hle).get⟩,⟨⟨w.heap.size,q1.bR (RQ.bR p1),rfl⟩,hm.mono hle⟩,trivial,hM⟩
        generalize w4.putObj (w.heap.size+1) (.loop {r with state:=.exhausted})=w5 at mH;split
        ·exact mH
        ·rename_i c hc;rw[hr]at hc;cases hc
theorem xV {fn:Func} {tmps:Array Value} {R:Ending->World->Prop} {N:Nat}:∀(js:List Nat) (D:List Deferred) (G:Gh) (O:VH) (w:World),N8 G js D->WR G O w->js.Nodup->(∀j∈js,O.hp j=some (.obj (.deferred (some []))))->
  (∀O' w',WR G O' w'->O'.next=O.next->(∀i,i ∉ js->O'.hp i=O.hp i)->∃v,(results fn tmps).run P w'= .ok v w'/\R (.returned v) w')->LeavesInM Fence.wide N P fn tmps R D .returning w
 | [],[],G,O,w,_,hw,_,_,h=>h O w hw rfl fun _ _=>rfl
 | j::js,d::D,G,O,w,⟨⟨b,hb,hd⟩,hm⟩,hw,TR,ho,h=>by
   obtain⟨b',mM,hh⟩:=hw.obj j _ (ho j (by simp));rw[hb]at mM;injection mM with mM;subst mM
   have hj:=(ah4.1 TR).1;have qx:=hw.setObj (Y:=.deferred none) (ho j (by simp)) hb (fun _ _ _ e=>by cases e);refine⟨by simp,.inl ⟨b,_,by rw[hd],run_takeDeferred hh,?_⟩⟩;refine xV js D G _ _ hm qx (ah4.1 TR).2 (fun i hi=>?_) fun O' w' g1 g2 g3=>h O' w' g1 g2 fun i hi=>?_
   ·rw[VH.ak _ _ (fun e=>hj (by rw[<-e];exact hi))];exact ho i (by simp[hi])
   ·rw[alE,not_or]at hi;rw[g3 i hi.2,VH.ak _ _ hi.1]
 | [],_::_,_,_,_,h,_,_,_,_=>h.elim
 | _::_,[],_,_,_,h,_,_,_,_=>h.elim
def akp (tab:bY) (rs:List ResultVar) (R:fU->VH->Prop):GQ:=fun x e O js=>(x= .normal\/x= .ret)/\js.Nodup/\(∀j∈js,O.hp j=some (.obj (.deferred (some []))))/\∀O',O'.next=O.next->(∀i,i ∉ js->O'.hp i=O.hp i)->∃m,i_ (fun r O'=>r= .ret m/\R r O') O' (iF tab e O' rs)
theorem VF.inM {f:FuncId} {fn:Func} {c:Code} {args:List MV} {R:fU->VH->Prop} (k:Nat) (rs:List ResultVar) (hf:P.funcs[f]?=some fn) (h:VM P ⟨k,0⟩ [] c (cx 0 args) O (akp tab rs R)) (ht:aL P tab:=by exact aa) (hb:fn.body=some c:=by exact rfl) (hk:(⟨fn.ntmps,0⟩:Sz)=⟨k,0⟩:=by exact rfl) (hr:fn.results.toList=rs:=by exact rfl) (hn:args.length<=k:=by exact Nat.le_of_ble_eq_true rfl):VF P f args O R:=by
 have hk:fn.ntmps=k:=by injection hk
 intro G w vs hw hv
 have aU:FR G ⟨k,0⟩ [] (cx 0 args) {tmps:=vs.toArray++Array.replicate (fn.ntmps - vs.toArray.size) undef,defers:=[]}:=by
  have hl:=hv.1;refine⟨rfl,by simp;omega,fun t x hx=>?_⟩;rw[iA,if_pos (agr _),Nat.sub_zero]at hx;obtain⟨u,h1,h2⟩:=hv.get hx;refine⟨u,?_,h2⟩;have ew:=(RZ.1 h1).1;rw[Array.getElem?_append_left (by simpa using ew)];simpa using h1
 refine callsIn_wide.1 (callsIn_of_wp_marks (n:=0) hf hb trivial (wpIn_wide.2 (wp_mono (h G [] _ w hw trivial aU) ?_)));rintro y a' w' ⟨x,e',O',H,js,D,h1,h2,h3,h4,h5,h6,h7,h8,h9⟩
 have fin:LeavesInM Fence.wide 0 P fn a'.tmps (fun x w'=>∃r O' H,Gh.Le G H/\WR H O' w'/\ER H r x/\R r O') a'.defers .returning w':=by
  rw[h3.defers];refine xV js D H O' w' h4 h2 h7 h8 fun O2 w2 g1 g2 g3=>?_
  obtain⟨m,hm⟩:=h9 O2 g2 g3
  have key:∃m',df tab fn e' O2=some m'/\R (.ret m') O2:=by
   unfold df;rw[hr, <-rS];generalize iF tab e' O2 rs=z at hm;unfold i_ at hm;split at hm
   ·exact hm.elim
   ·exact⟨_,rfl,hm.2⟩
   ·rename_i l hl;refine⟨.tuple l,?_,hm.2⟩
    match l,hl with
    | [],_=>rfl
    | [m],hl=>exact absurd rfl (hl m)
    | _::_::_,_=>rfl
  obtain⟨m',k1,k2⟩:=key;obtain⟨u,k3,k4⟩:=k8 (P:=P) ht g1 h3 k1;exact⟨u,k3,.ret m',O2,H,h1,g1,k4,k2⟩
 cases y with
 | normal=>exact fin
 | ret=>exact fin
 | panic c=>rcases h6 with rfl | rfl<;>exact False.elim h5
 | exit i=>rcases h6 with rfl | rfl<;>exact False.elim h5
 | goto i=>rcases h6 with rfl | rfl<;>exact False.elim h5
 | outgrown=>rcases h6 with rfl | rfl<;>exact False.elim h5
end
set_option maxRecDepth 10000
theorem XC (vb:Nat) (k:Ky) (O:VH):VF Tryz.prog 33 [.ptr vb 0,.agg (fY k)] O (aE fun m O'=>m= .func (.func 52) [] [.ptr O.next 0,.ptr (O.next+1) 0]/\O'=(O.push (.cells [.ptr vb 0])).push (.cells (fY k))):=by
 obtain⟨k1,k2,k3,k4⟩:=k;simp only[fY];refine VF.bN 6 [.tmp 4] Tryz.func33 ?_;refine VC.ag aa (ae @aB ?_);refine WC.sound aa (ae @aB ?_);try trivial
set_option maxHeartbeats 4000000 in
theorem RR (L:List Bn) (tk:Tok) (V:List Bool) (hL:L.length<=1000000) (hV:V.length=L.length) (k:Ky) (y b1 b2 vb lb cb mp:Nat) (J:Nat->VH->Prop) (hJ:∀j A B,J j A->A.Ge B->J j B)
  (hd:∀j A,J j A->(b1<A.next/\b2<A.next/\vb<A.next/\lb<A.next)/\A.hp b1=some (.cells [.ptr vb 0])/\A.hp b2=some (.cells (fY k))/\A.hp vb=some (.cells [.sl L.length (L.flatMap dZ) tk,.bq lb 0 L.length L.length,.bq cb 0 L.length L.length,.map mp])/\A.hp lb=some (.cells (V.map mb)))
  (hs:∀j (h:j<L.length),(V.getD j false&&ou L[j].k k)=false->∀A,J j A->J (j+1) A)
  (hy:∀j (h:j<L.length),(V.getD j false&&ou L[j].k k)=true->∀A,J j A->VY Tryz.prog y [.agg (dZ L[j])] A fun m O'=>m=mb true/\J (j+1) O') (O:VH) (h0:J 0 O):
  VF Tryz.prog 52 [.func (.yield y) [] [],.ptr b1 0,.ptr b2 0] O (aE fun _ O'=>J L.length O'):=by
 obtain⟨k1,k2,k3,k4⟩:=k;simp only[fY]at hd;have hlen:=aQ dX L;have gP:gZ (eh Tryz.prog) 22 (.sl L.length (L.flatMap dZ) tk)=some (.v (.int .i64 L.length)):=fj xh;have ir:(V.map mb).length=L.length:=by simp[hV]
 have W9:∀u,u<L.length->(V.map mb)[u]?=some (.v (.bool (V.getD u false))):=fun u hu=>by
  rw[XO,agu,Kn (by omega)];rfl
 obtain⟨_,ha0,r4,CO,zV⟩:=hd 0 O h0;refine VF.bN 36 [] Tryz.func52 ?_;refine VC.ag aa (c_ @aB @ha0 @CO @gP ?_);refine VC.az ?_;refine VC.bG [11] [0,1,2,9,10] (fun j:Nat=>[mi j]) (fun j O'=>j<=L.length/\J j O') (fun j=>L.length - j) (0) ?_ ?_
 ·exact⟨agr _,h0⟩
 clear ha0 r4 CO zV;rintro j O3 ⟨hj,Da⟩;by_cases aX:j<L.length;rotate_left
 ·obtain rfl:j=L.length:=by omega
  refine WC.sound aa (ae @aB ?_);exact Da
 have cT:((j:Int)+1)=((j+1:Nat):Int):=by omega
 have bw:=bU dX L j aX;have W_:=W9 j aX;have hsj:=hs j aX;have hyj:=hy j aX;generalize L[j]=b at*;obtain⟨up,dp,od,⟨q1,q2,q3,q4⟩,v,hdd,rv,nn,iv,xr,s,rd⟩:=b;simp only[dZ,aq,a_]at bw hyj;dsimp only at hsj hyj;generalize V.getD j false=vj at*;refine VC.ag aa (ae @aB ?_);refine VC.ag aa (ae @aB ?_);refine VC.bB (VC.az ?_);refine VC.ag aa (ao @aB @bw ?_);refine VC.al ?_;rintro O4 ⟨aY,eA,gI⟩;have hJ4:=hJ j O3 O4 Da aY;obtain⟨⟨alv,aj_,afy,ajz⟩,kR,cU,AR,ot⟩:=hd j O4 hJ4;cases vj
 ·have hJ5:=hsj (by rw[alC]) O4 hJ4;refine VC.ag aa (Bm @aB @kR @AR @ot @ir @W_ ?_);refine WC.sound aa (ae @aB ?_);refine WC.sound aa (ao @aB @cT ?_);exact ax.next (j+1) ⟨aX,hJ5⟩
 rw[alM]at hsj hyj;have hE:Lh Tryz.prog (eh Tryz.prog) 9 30 (.agg [.str q1,.str q2,.str q3,.str q4]) (.agg [.str k1,.str k2,.str k3,.str k4])=some (ou ⟨q1,q2,q3,q4⟩ ⟨k1,k2,k3,k4⟩):=by kernel_rfl
 generalize ou ⟨q1,q2,q3,q4⟩ ⟨k1,k2,k3,k4⟩=ek at*;cases ek
 ·have hJ5:=hsj rfl O4 hJ4;refine VC.ag aa (P8 @aB @kR @AR @ot @ir @W_ @eA @cU ?_);refine VL.Bj aa (bb:=false) (b:=false) (by simp) (by simp[iE]) (.inl ⟨rfl,rfl⟩) hE (by kernel_rfl) rfl rfl rfl rfl ?_;refine ae @aB ?_;refine WC.sound aa (ae @aB ?_);refine WC.sound aa (ao @aB @cT ?_);exact ax.next (j+1) ⟨aX,hJ5⟩
 refine VC.bB ?_;refine VC.yield 16 rfl rfl rfl ?_;simp only[List.take_succ_cons,List.take_zero,agw,List.map_nil,akF,ah1];refine P8 @aB @kR @AR @ot @ir @W_ @eA @cU ?_;refine VL.Bj aa (bb:=true) (b:=true) (by simp) (by simp[iE]) (.inl ⟨rfl,rfl⟩) hE (by kernel_rfl) rfl rfl rfl rfl ?_;refine ao @aB @eA ?_;refine YW.mk (hyj rfl O4 hJ4) ?_;rintro _ O5 ⟨rfl,hJ5⟩;refine ae @aB ?_;refine WC.sound aa (ae @aB ?_);refine WC.sound aa (ao @aB @cT ?_);exact ax.next (j+1) ⟨aX,hJ5⟩
theorem Kf {j:Nat} {js:List Nat} {N:Nat} (h:js.Nodup) (hl:∀i∈js,i<N) (hj:N<=j):(j::js).Nodup:=ah4.2 ⟨fun hm=>by have:=hl j hm;omega,h⟩
def Kg (O O':VH) (js:List Nat):Prop:=js.Nodup/\∀j∈js,O.next<=j/\j<O'.next/\O'.hp j=some (.obj (.deferred (some [])))
theorem Kg.ge {O A B:VH} {js:List Nat} (h:Kg O A js) (hg:A.Ge B):Kg O B js:=⟨h.1,fun j hj=>by
 obtain⟨h1,h2,h3⟩:=h.2 j hj;exact⟨h1,alD h2 hg.next,hg.at h3⟩⟩
theorem GR.ei {O7 O6 O1:VH} {el:TypeId} {sz B n:Nat} {p:MV} {X:List MV} (h:GR O7 el sz B p n X) (hg:O1.Ge O7) (hB:O1.next<=B) (u:br O7 (gid p) O6):O1.Ge O6:=by
 rcases h with⟨_,_,rfl | rfl⟩ | ⟨k,c,rfl,_,_,hr⟩
 ·exact br.geN hg u
 ·exact br.geN hg u
 ·exact br.ge hg u (ah0 hB hr.lo)
theorem Kg.bt {O A B:VH} {js:List Nat} {el:TypeId} {sz b n:Nat} {p:MV} {X:List MV} (h:Kg O A js) (hr:GR A el sz b p n X) (u:br A (gid p) B):Kg O B js:=⟨h.1,fun j hj=>by
 obtain⟨h1,h2,h3⟩:=h.2 j hj;refine⟨h1,alD h2 u.next,(u.hp j h2 fun e=>?_).trans h3⟩;rcases hr with⟨_,_,rfl | rfl⟩ | ⟨k,c,rfl,_,_,hr⟩
 ·cases e
 ·cases e
 ·injection e with e;subst e;obtain⟨sp,h4,_⟩:=hr.cells;rw[h3]at h4;cases h4⟩
theorem GR.marks {A B:VH} {js:List Nat} {el:TypeId} {sz b n:Nat} {p:MV} {X:List MV} (hr:GR A el sz b p n X) (hn:B.next=A.next) (hi:∀i,i ∉ js->B.hp i=A.hp i) (hj:∀j∈js,A.hp j=some (.obj (.deferred (some [])))):GR B el sz b p n X:=by
 rcases hr with h | ⟨k,c,rfl,h1,h2,⟨sp,h3,h4⟩,⟨j,h5,h6,h7⟩,h8,h9⟩
 ·exact .inl h
 ·exact .inr ⟨k,c,rfl,h1,h2,⟨sp,(hi k fun h=>by rw[hj k h]at h3;cases h3).trans h3,h4⟩,⟨j,h5,by rw[hn];exact h6,(hi j fun h=>by rw[hj j h]at h7;cases h7).trans h7⟩,h8,by rw[hn];exact h9⟩
theorem VF.XD {P:Program} {f:FuncId} {args:List MV} {O:VH} {Φ Φ':MV->VH->Prop} (h:VF P f args O (aE Φ)) (hf:∀m O', Φ m O'-> Φ' m O'\/∃k o n c sz cs,m= .bq k o n c/\O'.hp k=some (.cells cs)/\o+sz<=cs.length/\ Φ' (.sl n ((cs.drop o).take sz) (if c=n then .full else .ar)) (O'.kill k)):VF P f args O (aE Φ'):=by
 intro G w vs hw hv;refine(h G w vs hw hv).mono fun x w' ⟨r,O',H,h1,h2,h3,h4⟩=>?_
 cases r with
 | panic m=>exact h4.elim
 | ret m=>
   cases x with
   | panicked c=>exact h3.elim
   | outgrown=>exact h3.elim
   | returned v=>
     rcases hf m O' h4 with g | ⟨k,o,n,c,sz,cs,rfl,g1,g2,g3⟩
     ·exact⟨.ret _,O',H,h1,h2,h3,g⟩
     ·obtain⟨H',e1,e2,e3⟩:=h2.freeze g1 h3 g2;exact⟨.ret _,_,H',h1.trans e1,e2,e3,g3⟩
theorem GR.wider {O:VH} {el:TypeId} {sz B B' n:Nat} {p:MV} {X:List MV} (h:GR O el sz B p n X) (hB:B'<=B):GR O el sz B' p n X:=by
 rcases h with h | ⟨k,c,h1,h2,h3,h4⟩
 ·exact .inl h
 ·exact .inr ⟨k,c,h1,h2,h3,h4.wider hB⟩
theorem acg (b:Bn) (M:List (Bn×Bool)) (h:¬b.dp>1):sr b M=b.s:=by
 have:∀(M:List (Bn×Bool)) (s:Int),M.foldl (fun s p=>if decide (b.dp>1)&&(p.2&&ou p.1.k b.k)then l9 s p.1.s else s) s=s:=by
  intro M;induction M with
  | nil=>intro s;rfl
  | cons p M ih=>intro s;rw[List.foldl_cons,decide_eq_false h,alC,if_neg (by decide)];simpa[h]using ih s
 exact this M b.s
theorem kA.al {P:Program} {n:Sz} {js:List Nat} {c:Code} {M:GQ} {e:Env} {O:VH} {z cs:List MV} (h:∀O3,pQ O cs O3->VM P n js c e O3 M):kA P n js c M e ((O.push (.cells z)).set O.next (.cells cs)):=h _ pQ.al
theorem RdA.al {P:Program} {n:Sz} {y k:Nat} {r:Loop} {R:MV->VH->Prop} {body:Code} {e:Env} {O:VH} {z cs:List MV} (h:∀O3,pQ O cs O3->RdA P n y k r body R .normal e O3):RdA P n y k r body R .normal e ((O.push (.cells z)).set O.next (.cells cs)):=h _ pQ.al
set_option maxHeartbeats 8000000 in
theorem XE (L:List Bn) (tk:Tok) (O:VH) (hL:L.length<=1000000) (hk:∀b∈L,∀s∈eb b.k,s.length<=maxLen):VF Tryz.prog 13 [.sl L.length (L.flatMap dZ) tk] O (aE fun m O'=>O.Ge O'/\GR O' 39 7 O.next m (j7 L).length ((j7 L).flatMap jz)):=by
 have hlen:=aQ dX L;have gP:gZ (eh Tryz.prog) 22 (.sl L.length (L.flatMap dZ) tk)=some (.v (.int .i64 L.length)):=fj xh;have hY:=pr L;have hde:=Ij L tk hL hk O;unfold j7;refine VF.inM 53 [.tmp 2] Tryz.func13 ?_;simp only[cx,ah7,Nat.reduceAdd];refine VM.qX fun D=>?_
 refine ae @aB ?_;refine kA.mk ?_;refine VM.qX fun D=>?_
 refine ae @aB ?_;refine ah.rt hde ?_;clear hde;rintro _ O1 ⟨vb,lb,cb,mp,rfl,hvd⟩;generalize eD L=DD at*;obtain⟨C,V,K⟩:=DD;dsimp only at hY hvd ⊢;clear K;obtain⟨aM,mT,qg,fW,xe,hhi⟩:=hvd;have sU:(C.map mb).length=L.length:=by simp[hY.1]
 have W9:∀(W:List Bool),W.length=L.length->∀u,u<L.length->(W.map mb)[u]?=some (.v (.bool (W.getD u false))):=fun W h u hu=>by
  rw[XO,agu,Kn (by omega)];rfl
 refine ae @aB ?_;refine kA.mk ?_;refine VM.join [2] (fun p:MV=>[p]) (fun p O' js=>O.Ge O'/\GR O' 39 7 O.next p (qC L C V L.length).length ((qC L C V L.length).flatMap jz)/\Kg O O' js) ?_ ?_
 ·refine VM.qX fun D=>?_
  refine ao @aB @gP ?_;refine kA.mk ?_;refine VM.block ?_;refine VM.loop [2,12] [3,10,11] (fun x:Nat×MV=>[x.2,mi x.1]) (fun x O' js=>x.1<=L.length/\O1.Ge O'/\GR O' 39 7 O1.next x.2 (qC L C V x.1).length ((qC L C V x.1).flatMap jz)/\Kg O O' js) (fun x=>L.length - x.1) (0,.sl 0 [] .nil) ?_ ?_
  ·exact⟨agr _,VH.Ge.refl _,.inl ⟨rfl,rfl,.inl rfl⟩,List.nodup_nil,fun j hj=>by cases hj⟩
  rintro⟨j,t1⟩ O3 js ⟨hj,aG,cJ,lY⟩;dsimp only at hj cJ;by_cases aX:j<L.length;rotate_left
  ·obtain rfl:j=L.length:=by omega
   refine VM.qX fun D=>?_
   refine ae @aB ?_;refine kA.mk ?_;refine VM.qX fun D=>?_
   refine ae @aB ?_;exact Iq.ex ⟨t1,rfl,aM.trans aG,cJ.wider aM.next,lY⟩
  have cT:((j:Int)+1)=((j+1:Nat):Int):=by omega
  have bw:=bU dX L j aX;have gk:qC L C V (j+1)=qC L C V j++if C.getD j false then[⟨L[j].k,j,L[j].v,sr L[j] (L.zip V)⟩]else[]:=by rw[qC,Kn aX]
  obtain⟨g,kh,RF,rj⟩:=FG L[j] L V hY.2;generalize L[j]=b at*;obtain⟨up,dp,od,⟨k1,k2,k3,k4⟩,v,hd,rv,nn,iv,xr,s,rd⟩:=b;simp only[dZ,aq,a_]at bw;dsimp only at kh RF gk;have yU:=W9 C hY.1 j aX;have jX:=AS L C V j;have hv3:=aG.at mT;have eN:=aG.at fW;have lW:=aG.at qg;have n3:=aG.next;have n1:=aM.next;refine VM.qX fun D=>?_
  refine ae @aB ?_;refine kA.mk ?_;refine VM.qX fun D=>?_
  refine ae @aB ?_;refine kA.mk ?_;refine VM.seq (VM.block ?_);refine VM.qX fun D=>?_
  refine ao @aB @bw ?_;refine kA.al ?_;rintro O4 ⟨aY,eA,gI⟩;have AR:=aY.at hv3;have ff:=aY.at eN;have ot:=aY.at lW;cases hc:C.getD j false
  ·rw[hc]at yU gk;rw[if_neg (by decide),ahY]at gk;refine VM.qX fun D=>?_
   refine gQ @aB @AR @ff @sU @yU ?_;refine Iq.ex (VM.Gn fun D=>?_);refine WC.sound aa (ao @aB @cT ?_);exact⟨rfl,(j+1,t1),rfl,⟨aX,aG.trans aY,by rw[gk];exact cJ.yz (br.lR aY),lY.ge aY⟩,by dsimp only;omega⟩
  rw[hc]at yU gk;rw[if_pos rfl]at gk;refine VM.qX fun D=>?_
  refine gQ @aB @AR @ff @sU @yU ?_;refine kA.mk ?_;refine VM.qX fun D=>?_
  refine ao @aB @eA ?_;refine kA.al ?_;rintro O5 ⟨bH,lz,fS⟩;have cZ:=bH.at eA;have oP:=bH.at AR;have GK:=bH.at ot;have TD:=lY.ge (aY.trans bH);refine VM.join [2,3,6,10,11,12] (fun _:Unit=>[t1,.ptr vb 0,.ptr O4.next 0,.sl L.length (L.flatMap dZ) tk,.v (.int .i64 L.length),.v (.int .i64 j)]) (fun _ O' v8=>O4.Ge O'/\O4.next<O'.next/\O'.hp O4.next=some (.cells [.str k1,.str k2,.str k3,.str k4,.v (.int .i64 j),.str v,.v (.int .i64 (sr ⟨up,dp,od,⟨k1,k2,k3,k4⟩,v,hd,rv,nn,iv,xr,s,rd⟩ (L.zip V)))])/\Kg O O' v8) ?_ ?_
  ·by_cases h2:dp>1;rotate_left
   ·have e1:decide (dp>=2)=false:=decide_eq_false (by omega);have e2:decide (2<=dp)=false:=e1;refine VM.Gn fun D=>?_
    refine WC.sound aa (c_ @aB @cZ @e1 @e2 ?_);exact⟨(),rfl,bH,by omega,by rw[acg _ _ h2];exact lz,TD⟩
   have e1:decide (dp>=2)=true:=decide_eq_true (by omega);have e2:decide (2<=dp)=true:=e1;have e3:decide (dp>1)=true:=decide_eq_true h2;simp only[e3,alM]at RF;refine VM.qX fun D=>?_
   refine c_ @aB @cZ @e1 @e2 ?_;refine kA.mk ?_;refine VM.cond (t:=true) rfl ?_;rw[if_pos rfl];have ach:=XC vb ⟨k1,k2,k3,k4⟩ O5;simp only[fY]at ach;refine VM.qX fun D=>?_
   refine ao @aB @cZ ?_;refine ah.rt ach ?_;clear ach;rintro _ O6 ⟨rfl,e6⟩;obtain⟨fJ,n9,BK,nM⟩:=gj _ _ e6;clear e6;refine ae @aB ?_;refine kA.mk ?_;refine VM.block ?_;refine VM.aeB rfl (Enters.sN (by kernel_rfl)) ?_;intro y r F eF ny fl gX Gx qB;obtain⟨RS,Q5,QD,Jo,QF⟩:=lP _ _ _ eF;clear eF;have hcF:F.hp O4.next=some (.cells [.str k1,.str k2,.str k3,.str k4,.v (.int .i64 j),.str v,.v (.int .i64 (g 0))]):=by rw[kh];exact RS.at (fJ.at lz)
   have haF:=RS.at BK;have hkF:=RS.at nM;have hvF:=RS.at (fJ.at oP);have hlF:=RS.at (fJ.at GK);have n6:=fJ.next;refine VF.mono ?_ (RR L tk V hL hY.2 ⟨k1,k2,k3,k4⟩ y O5.next (O5.next+1) vb lb cb mp (fun k A=>F.next<=A.next/\(∀i,i<F.next->i≠O4.next->A.hp i=F.hp i)/\A.hp O4.next=some (.cells [.str k1,.str k2,.str k3,.str k4,.v (.int .i64 j),.str v,.v (.int .i64 (g k))])) ?_ ?_ ?_ ?_ F ⟨XN _,fun _ _ _=>rfl,hcF⟩)
   ·rintro(m | m) A hA;rotate_left
    ·exact hA.elim
    obtain⟨Xp,hA2,Xq⟩:=hA;rw[rj]at Xq;refine⟨(hA2 _ (by omega) (by omega)).trans Jo,?_⟩;refine⟨(),rfl,⟨?_,?_⟩,?_,?_,?_,?_⟩
    ·show O4.next<=A.next;omega
    ·intro i hi;rw[VH.ak _ _ (by omega),hA2 i (by omega) (by omega),RS.hp i (by omega),fJ.hp i (by omega),bH.hp i hi]
    ·show O4.next<A.next;omega
    ·rw[VH.ak _ _ (by omega)];exact Xq
    ·refine Kf TD.1 (N:=O5.next) (fun i hi=>(TD.2 i hi).2.1) (by omega)
    ·intro i hi;rcases alE.1 hi with rfl | hi
     ·refine⟨by omega,by show _<A.next;omega,?_⟩;rw[VH.ak _ _ (by omega),hA2 _ (by omega) (by omega)];exact QD
     ·obtain⟨q1,q2,q3⟩:=TD.2 i hi;refine⟨q1,by show _<A.next;omega,?_⟩;have hne:i≠O4.next:=fun e=>by subst e;rw[lz]at q3;cases q3
      rw[VH.ak _ _ (by omega),hA2 i (by omega) hne,RS.hp i (by omega),fJ.hp i (by omega)];exact q3
   ·rintro k A B ⟨h1,h2,h3⟩ hAB;have:=hAB.next;exact⟨by omega,fun i hi hne=>(hAB.hp i (by omega)).trans (h2 i hi hne),(hAB.hp _ (by omega)).trans h3⟩
   ·rintro k A ⟨h1,h2,h3⟩;exact⟨by omega,(h2 _ (by omega) (by omega)).trans haF,(h2 _ (by omega) (by omega)).trans hkF,(h2 _ (by omega) (by omega)).trans hvF,(h2 _ (by omega) (by omega)).trans hlF⟩
   ·rintro k bJ DQ A ⟨h1,h2,h3⟩;have:=RF k bJ;rw[DQ,if_neg (by decide)]at this;exact⟨h1,h2,by rw[this];exact h3⟩
   ·rintro k bJ DQ A ⟨h1,h2,h3⟩;have fu:=RF k bJ;rw[DQ,if_pos rfl]at fu;clear DQ;generalize L[k]=z at*;obtain⟨zu,zd,zo,⟨z1,z2,z3,z4⟩,zv,zh,zr,zn,zi,zt,zs,zq⟩:=z;simp only[dZ,aq,a_];dsimp only at fu;have hkA:=(h2 (O6.next+1) (by omega) (by omega)).trans Jo;refine VY.round (ps:=[40]) hkA ((h2 (O6.next+2) (by omega) (by omega)).trans QF) ny (by rw[gX]) rfl rfl ?_;rw[Gx,qB];refine GO.region ?_;simp only[rK];refine ae @aB ?_;refine RdA.al ?_;rintro A1 ⟨rI,hzA,hnA⟩;have JM:=rI.at h3 (hk:=by omega);refine⟨rfl,rI.at hkA (hk:=by omega),?_⟩;refine GO.block (GO.region ?_);have hw:=W7 (g k) zs (A1.set (O6.next+1) (.obj (.loop {r with state:=.busy})));simp only[aq]at hw;have mM:=VH.an A1 (O6.next+1) (.obj (.loop {r with state:=.busy}));refine aJ @aB @JM @hzA ?_;refine ah.rt hw ?_;clear hw;rintro _ Ox ⟨rfl,eO⟩;rw[eO];clear eO Ox
    rw[<-fu];refine ao @aB @JM ?_;refine⟨rfl,(VH.ak _ _ (by omega)).trans mM,rfl,?_,?_,?_⟩
    ·show F.next<=A1.next;omega
    ·intro i hi hne;by_cases e:i=O6.next+1
     ·subst e;rw[VH.an,Jo]
      congr 3
      rw[<-fl]
     ·rw[VH.ak _ _ e,VH.ak _ _ hne,VH.ak _ _ e,rI.hp i (by omega)];exact h2 i hi hne
    ·rw[VH.ak _ _ (by omega)];exact VH.an _ _ _
  rintro _ O7 js7 ⟨fC,uh,hc7,akq⟩;have jn:=aG.trans (aY.trans fC);have Jq:=cJ.yz (br.lR (aY.trans fC));refine VM.Gn fun D=>?_
  refine WC.sound aa (ao @aB @hc7 ?_);refine VL.grow aa (.inl rfl) (te:=⟨_,7,96,_⟩) (dx:=.slice 39) (q:=.sl 1 [.str k1,.str k2,.str k3,.str k4,.v (.int .i64 j),.str v,.v (.int .i64 (sr ⟨up,dp,od,⟨k1,k2,k3,k4⟩,v,hd,rv,nn,iv,xr,s,rd⟩ (L.zip V)))] .full) (j:=1) (ds:=[.str k1,.str k2,.str k3,.str k4,.v (.int .i64 j),.str v,.v (.int .i64 (sr ⟨up,dp,od,⟨k1,k2,k3,k4⟩,v,hd,rv,nn,iv,xr,s,rd⟩ (L.zip V)))]) Jq rfl rfl (by rw[Vz];rfl) VA.1.1 (by rw[Vz];rfl) trivial (by dsimp only;omega) (by simp only[maxLen];omega) jn.next rfl rfl rfl rfl ?_;intro m8 O8 iI qz _ _;refine ae @aB ?_;refine VM.Gn fun D=>?_
  refine WC.sound aa (ao @aB @cT ?_);exact⟨rfl,(j+1,m8),rfl,⟨aX,Jq.ei jn (XN _) qz,by rw[gk,Km,agx,List.flatMap_singleton];exact iI,akq.bt Jq qz⟩,by dsimp only;omega⟩
 rintro t O2 js ⟨ay,fl,TF⟩;refine VM.qX fun D=>?_
 refine ae @aB ?_;refine kA.mk ?_;refine VM.Gn fun D=>?_
 refine WC.sound aa (ae @aB ?_);refine⟨.inr rfl,TF.1,fun j hj=>(TF.2 j hj).2.2,fun O' hn hi=>⟨_,rfl,⟨?_,fun i h=>?_⟩,fl.marks hn hi fun j hj=>(TF.2 j hj).2.2⟩⟩
 ·rw[hn];exact ay.next
 ·rw[hi i (fun hm=>by have:=(TF.2 i hm).1;omega)];exact ay.hp i h
theorem RT:Xa:=by
 intro L tk O hL hk;refine VF.XD (XE L tk O hL hk) ?_;rintro m O' ⟨hg,hr⟩;rcases hr with⟨h1,h2,rfl | rfl⟩ | ⟨k,c,rfl,h1,h2,h3⟩
 ·exact .inl ⟨⟨.nil,by rw[h1,h2]⟩,hg⟩
 ·exact .inl ⟨⟨.full,by rw[h1,h2]⟩,hg⟩
 ·obtain⟨sp,h4,h5⟩:=h3.cells;exact .inr ⟨k,0,_,c,(j7 L).length*7,_,rfl,h4,by rw[Km];omega,⟨_,by rw[ah1,List.take_append_of_le_length (by omega),ah2 (by omega)]⟩,hg.kill h3.lo⟩
theorem ahS {α :Type} {f: α ->List MV} {sz:Nat} (hf:∀x,(f x).length=sz) (L:List α) (tk:Tok):∃tk',∀u b z,IU L.length 0 (min (L.length:Int) 60).toNat (L.flatMap f) tk (some ⟨u,sz,b,z⟩)=some (.sl (L.take 60).length ((L.take 60).flatMap f) tk'):=by
 have hlen:(L.flatMap f).length=L.length*sz:=aQ hf L;by_cases h:L.length<=60
 ·exact⟨tk,fun u b z=>by rw[Lp rfl (by omega),ah2 h]⟩
 ·refine⟨qF tk sz ((min (L.length:Int) 60).toNat==L.length),fun u b z=>?_⟩;rw[Hw (.inr (by omega)) (by omega) (by omega) hlen,show(min (L.length:Int) 60).toNat=60 by omega,alH,Nat.min_eq_left (by omega),NS hf];simp
open Go.ChangeShapes
section
variable {H:Type} {enc:TypeId×Value->H} {P:Program} {w:World} {sp:Nat->Bool} {held:Bool} {t e:TypeId} {α β :Type}
def jU (enc:TypeId×Value->H) (P:Program) (w:World) (sp:Nat->Bool) (held:Bool) (t:TypeId) (f: α ->List MV) (p: α ->Prop):Prop:=El enc P w sp held t fun ms=>∃y,ms=f y/\p y
theorem jU.int {k:IntKind} (ht:P.underlying t=some (.int k)):jU enc P w sp held t (fun n:Int=>[.v (.int k n)]) (Qg k):=El.aiY ht
theorem jU.bool (ht:P.underlying t=some .bool):jU enc P w sp held t (fun b:Bool=>[mb b]) (fun _=>True):=El.ag8 ht
theorem jU.str (ht:P.underlying t=some .string):jU enc P w sp held t (fun l:List UInt8=>[.str l]) (fun l=>l.length<=maxLen):=El.str ht
theorem Ir {f: α ->List MV} {p: α ->Prop}:∀{rows:List (List MV)},(∀r∈rows,∃x,r=f x/\p x)->∃xs:List α,rows.length=xs.length/\rows.flatten=xs.flatMap f/\∀x∈xs,p x
 | [],_=>⟨[],rfl,rfl,by simp⟩
 | r::rows,h=>by
   obtain⟨xs,h1,h2,h3⟩:=Ir fun r hr=>h r (ah3 _ hr)
   obtain⟨x,h4,h5⟩:=h r (List.mem_cons_self ..)
   exact⟨x::xs,by simp[h1],by rw[h4];simp[h2],fun y hy=>by
    rcases alE.1 hy with rfl | hy
    ·exact h5
    ·exact h3 y hy⟩
theorem jU.slice {f: α ->List MV} {p: α ->Prop} (ht:P.underlying t=some (.slice e)) (oB:0<P.cellsOf e) (he:jU enc P w sp held e f p):
  jU enc P w sp held t (fun y:List α ×Tok=>[.sl y.1.length (y.1.flatMap f) y.2]) (fun y=>(∀x∈y.1,p x)/\y.1.length<=maxLen):=
 (El.slice ht he oB).imp fun ms ⟨rows,tk,h1,h2,h3⟩=>by
  obtain⟨xs,h4,h5,h6⟩:=Ir h2;exact⟨(xs,tk),by rw[h1,h4,h5],h6,by show xs.length<=maxLen;omega⟩
def jD (enc:TypeId×Value->H) (P:Program) (w:World) (sp:Nat->Bool) (held:Bool) (fs:List Field) (k N:Nat) (f: α ->List MV) (p: α ->Prop):Prop:=
 ∀cs:List Value,cs.length=N->(∀g∈fs,k<=g.offset)/\((∀g∈fs,∃fuel x,DataW.trod enc P w 0 sp held fuel g.type ((cs.drop (g.offset - k)).take (P.cellsOf g.type))=some x)->∃y,aO (G0 w) (f y) cs/\p y)
theorem jD.one {g:Field} {k n:Nat} {f: α ->List MV} {p: α ->Prop} (ho:g.offset=k) (hn:P.cellsOf g.type=n) (he:jU enc P w sp held g.type f p):jD enc P w sp held [g] k n f p:=by
 intro cs gk;refine⟨fun g' hg=>by rw[List.mem_singleton.1 hg];omega,fun h=>?_⟩;obtain⟨fuel,x,hx⟩:=h g (by simp);rw[ho,Nat.sub_self,ah1,hn,ah2 (by omega)]at hx;obtain⟨ms,h1,y,rfl,h3⟩:=he _ _ _ hx;exact⟨y,h1,h3⟩
theorem jD.cons {g:Field} {fs:List Field} {k n N:Nat} {f: α ->List MV} {p: α ->Prop} {f': β ->List MV} {p': β ->Prop} (ho:g.offset=k) (hn:P.cellsOf g.type=n) (he:jU enc P w sp held g.type f p) (hr:jD enc P w sp held fs (k+n) N f' p'):
  jD enc P w sp held (g::fs) k (n+N) (fun y: α × β =>f y.1++f' y.2) (fun y=>p y.1/\p' y.2):=by
 intro cs gk;obtain⟨CY,hr'⟩:=hr (cs.drop n) (by rw[List.length_drop];omega);refine⟨fun g' hg=>?_,fun h=>?_⟩
 ·rcases alE.1 hg with rfl | hg
  ·omega
  ·have:=CY g' hg;omega
 ·obtain⟨fuel,x,hx⟩:=h g (by simp);rw[ho,Nat.sub_self,ah1,hn]at hx;obtain⟨ms,h1,y,rfl,h3⟩:=he _ _ _ hx
  obtain⟨z,h4,h5⟩:=hr' fun g' hg=>by
   obtain⟨fuel,x,hx⟩:=h g' (ah3 _ hg);have:=CY g' hg;refine⟨fuel,x,?_⟩;rw[List.drop_drop,show n+(g'.offset - (k+n))=g'.offset - k by omega];exact hx
  refine⟨(y,z),?_,h3,h5⟩;have:=aO.append h1 h4
  rwa [List.take_append_drop]at this
theorem jU.struct {fs:Array Field} {N:Nat} {f: α ->List MV} {p: α ->Prop} (ht:P.underlying t=some (.struct fs)) (oB:P.cellsOf t=N) (hf:jD enc P w sp held fs.toList 0 N f p):jU enc P w sp held t f p:=by
 intro fuel cs x h;obtain⟨xs,n,rfl,rfl,hl,Bt,hfi⟩:=DataW.trod_struct ht h;obtain⟨_,h2⟩:=hf cs (by omega)
 obtain⟨y,h3,h4⟩:=h2 fun g hg=>by
  obtain⟨i,hi,rfl⟩:=List.getElem_of_mem hg;have h5:=hfi i fs.toList[i] (by rw[<-Array.getElem?_toList,Kn]);have alw:fs.toList.length=fs.size:=by simp
  rw[Kn (by omega)]at h5;exact⟨_,_,h5⟩
 exact⟨_,h3,y,rfl,h4⟩
theorem jU.arg {f: α ->List MV} {p: α ->Prop} (h:jU enc P w sp held t f p) {v:Value} {d:DataW H} {ps:List MemPlace} (hd:DataW.Trod enc P w 0 sp held t v d ps) (hc:v.cells= #[v]):∃m y,VR (G0 w) m v/\[m]=f y/\p y:=by
 obtain⟨m,h1,y,h2,h3⟩:=El.arg h hd hc;exact⟨m,y,h1,h2,h3⟩
end
abbrev IvT:=(Bool×Bs×Bool)×Bool×Bs×Bool
abbrev BrT:=Int×Int×Int×(Bs×Bs×Bs×Bs)×Bs×(Bool×Bs×List IvT×Tok)×Int×Bool
def akr (y:IvT):List MV:=[mb y.1.1,.str y.1.2.1,mb y.1.2.2,mb y.2.1,.str y.2.2.1,mb y.2.2.2]
def agn (y:BrT):Bn:=⟨y.1,y.2.1,y.2.2.1,⟨y.2.2.2.1.1,y.2.2.2.1.2.1,y.2.2.2.1.2.2.1,y.2.2.2.1.2.2.2⟩,y.2.2.2.2.1,y.2.2.2.2.2.1.1,y.2.2.2.2.2.1.2.1,y.2.2.2.2.2.1.2.2.1.length,y.2.2.2.2.2.1.2.2.1.flatMap akr,y.2.2.2.2.2.1.2.2.2,y.2.2.2.2.2.2.1,y.2.2.2.2.2.2.2⟩
def aks (y:Bs×Bs×Bs×Bs):Prop:=y.1.length<=maxLen/\y.2.1.length<=maxLen/\y.2.2.1.length<=maxLen/\y.2.2.2.length<=maxLen
def ivP (y:IvT):Prop:=(True/\y.1.2.1.length<=maxLen/\True)/\True/\y.2.2.1.length<=maxLen/\True
def brP (y:BrT):Prop:=Qg .i64 y.1/\Qg .i64 y.2.1/\Qg .i64 y.2.2.1/\aks y.2.2.2.1/\y.2.2.2.2.1.length<=maxLen/\(True/\y.2.2.2.2.2.1.2.1.length<=maxLen/\(∀z∈y.2.2.2.2.2.1.2.2.1,ivP z)/\y.2.2.2.2.2.1.2.2.1.length<=maxLen)/\Qg .i64 y.2.2.2.2.2.2.1/\True
def ago (j:Nat) (b:Bn):Bool:=if j=0 then b.up != -1 else decide (b.up<0)||decide (b.up>=(j:Int))
def v_:Nat->List Bn->Bool
 | _,[]=>true
 | j,b::L=>if ago j b then false else v_ (j+1) L
set_option maxHeartbeats 4000000 in
theorem aci (L:List Bn) (tk:Tok) (hL:L.length<=1000000) (O:VH):VF Tryz.prog 10 [.sl L.length (L.flatMap dZ) tk] O (aE fun m O'=>m=mb (v_ 0 L)/\O.Ge O'):=by
 have hlen:=aQ dX L;have gP:gZ (eh Tryz.prog) 22 (.sl L.length (L.flatMap dZ) tk)=some (.v (.int .i64 L.length)):=fj xh;refine VF.bN 35 [.tmp 2] Tryz.func10 ?_;refine VC.ag aa (ae @aB ?_);refine VC.bC [] (fun _:Unit=>[]) (fun _ O'=>O.Ge O'/\v_ 0 L=true) ?_ ?_;rotate_left
 ·rintro _ O2 ⟨ay,ht⟩;rw[ht];refine VC.ag aa (ae @aB ?_);refine WC.sound aa (ae @aB ?_);exact ay
 refine VC.ag aa (ao @aB @gP ?_);refine VC.az ?_;refine VC.bG [7] [5,6] (fun j:Nat=>[mi j]) (fun j O'=>O.Ge O'/\j<=L.length/\v_ 0 L=v_ j (L.drop j)) (fun j=>L.length - j) (0) ?_ ?_
 ·exact⟨VH.Ge.refl _,agr _,rfl⟩
 rintro j O3 ⟨aG,hj,cK⟩;by_cases aX:j<L.length;rotate_left
 ·obtain rfl:j=L.length:=by omega
  rw[List.drop_of_length_le (XN _),v_]at cK;refine WC.sound aa (ae @aB ?_);exact aA.mk () ⟨aG,cK⟩
 have cT:((j:Int)+1)=((j+1:Nat):Int):=by omega
 have bw:=bU dX L j aX;rw[List.drop_eq_getElem_cons aX,v_]at cK;generalize L[j]=b at*;obtain⟨up,dp,od,⟨q1,q2,q3,q4⟩,v,hd,rv,nn,iv,xr,s,rd⟩:=b;simp only[dZ,aq,a_]at bw;unfold ago at cK;dsimp only at cK;refine VC.ag aa (ae @aB ?_);refine VC.ag aa (ae @aB ?_);refine VC.bB (VC.az ?_);refine VC.ag aa (ao @aB @bw ?_);refine VC.al ?_;rintro O4 ⟨aY,eA,gI⟩;have jn:=aG.trans aY;by_cases h0:j=0
 ·have e0:((j:Int)==0)=true:=by simp[h0]
  have e1:decide ((j:Int)>0)=false:=decide_eq_false (by omega);have e2:decide ((0:Int)<j)=false:=e1;rw[if_pos h0]at cK;cases hb:up != -1
  ·rw[hb,if_neg (by decide)]at cK;refine VC.ag aa (gQ @aB @eA @e0 (yP e1 e2) @hb ?_);refine WC.sound aa (ae @aB ?_);refine WC.sound aa (ao @aB @cT ?_);exact ax.next (j+1) ⟨jn,aX,cK⟩
  ·rw[hb,if_pos rfl]at cK;rw[cK];refine VC.ag aa (c_ @aB @eA @e0 @hb ?_);refine WC.sound aa (ae @aB ?_);exact jn
 have e0:((j:Int)==0)=false:=by simpa using h0
 have e1:decide ((j:Int)>0)=true:=decide_eq_true (by omega);have e2:decide ((0:Int)<j)=true:=e1;rw[if_neg h0]at cK;by_cases h1:up<0
 ·have e3:decide (up<0)=true:=decide_eq_true h1;rw[e3,Bool.true_or,if_pos rfl]at cK;rw[cK];refine VC.ag aa (gQ @aB @eA @e0 (yP e1 e2) @e3 ?_);refine WC.sound aa (ae @aB ?_);exact jn
 have e3:decide (up<0)=false:=decide_eq_false h1;rw[e3,Bool.false_or]at cK;by_cases h2:up>=(j:Int)
 ·have e4:decide (up>=(j:Int))=true:=decide_eq_true h2;have e5:decide ((j:Int)<=up)=true:=e4;rw[e4,if_pos rfl]at cK;rw[cK];refine VC.ag aa (Bm @aB @eA @e0 (yP e1 e2) @e3 (yP e4 e5) ?_);refine WC.sound aa (ae @aB ?_);exact jn
 have e4:decide (up>=(j:Int))=false:=decide_eq_false h2;have e5:decide ((j:Int)<=up)=false:=e4;rw[e4,if_neg (by decide)]at cK;refine VC.ag aa (Bm @aB @eA @e0 (yP e1 e2) @e3 (yP e4 e5) ?_);refine WC.sound aa (ae @aB ?_);refine WC.sound aa (ao @aB @cT ?_);exact ax.next (j+1) ⟨jn,aX,cK⟩
theorem aeC {A B:VH} {b sz:Nat} {t:Tok} (h:App A b sz t) (hi:∀i,b<=i->B.hp i=A.hp i) (hn:A.next<=B.next):App B b sz t:=by
 cases t with
 | own t k=>
   obtain⟨g1,g2,g3,g4⟩:=h;exact⟨g1,(hi t g3).trans g2,g3,by omega⟩
 | _=>exact h
theorem WR.below {G:Gh} {O:VH} {w w':World} (h:WR G O w) (hb:Below w.heap.size w w'):WR G O w':=by
 have hh:∀{b:Nat} {x:Obj},w.heap[b]?=some x->w'.heap[b]?=some x:=fun{b x} hx=>(hb.block b (nY hx)).trans hx
 refine⟨h.base.trans (hb.mono h.TU),fun b o u hc=>?_,h.oZ,fun k b hk=>?_,h.inj,fun k cs hk=>?_,fun k es ck hk=>?_,fun t ht=>?_,h.kL,fun j k t n hj=>?_,fun k x hk=>?_,h.pw,h.ze⟩
 ·have h1:=h.ec b o u hc;have h2:=hb.block b (World.block_lt_of_cell? w _ h1);unfold World.cell? at h1 ⊢;rw[h2];exact h1
 ·obtain⟨h1,h2,h3⟩:=h.jW k b hk;exact⟨h1,alD h2 hb.size,h3⟩
 ·obtain⟨b,C,T,h1,h2,h3⟩:=h.cells k cs hk;exact⟨b,C,T,h1,hh h2,h3⟩
 ·obtain⟨b,E,h1,h2,h3⟩:=h.map k es ck hk;exact⟨b,E,h1,hh h2,h3⟩
 ·obtain⟨b,f,k,r,C,T,h1,h2,h3,h4⟩:=h.tok t ht;exact⟨b,f,k,r,C,T,h1,h2,hh h3,h4⟩
 ·obtain⟨b,h1,h2⟩:=h.nG j k t n hj;exact⟨b,h1,gU (fun x hx=>hh hx) h2⟩
 ·obtain⟨b,h1,h2⟩:=h.obj k x hk;exact⟨b,h1,hh h2⟩
theorem aeD (l:List (List UInt8)) (sep:List UInt8) (tk:Tok) (O:VH) (hn:l.length<=140737488355328) (hlen:(Lib.join l sep).length<=140737488355328):VF Tryz.prog 57 [.sl l.length (l.map .str) tk,.str sep] O (aE fun m O'=>m= .str (Lib.join l sep)/\O'=O):=by
 intro G w vs hw hv;obtain⟨u,us,rfl,h1,h2⟩:=hv.cD;obtain⟨u2,Qa,rfl,h3,h4⟩:=h2.cD;rw[h4.fF];cases h3
 have empty:∀(a:Option Addr) (c:Nat),l=[]->Calls Tryz.prog 57 (#[.slice a 0 c,.string ⟨⟨sep⟩⟩]) w fun x w'=>∃r O' H,Gh.Le G H/\WR H O' w'/\ER H r x/\aE (fun m O'=>m= .str (Lib.join l sep)/\O'=O) r O':=fun a c hl=>
  (Tryz.strings_Join_none a c ⟨⟨sep⟩⟩ w).mono fun e w' ⟨he,qY⟩=>by
   subst qY;subst he;subst hl
   exact⟨.ret (.str []),O,G,Gh.Le.refl G,hw,.str,rfl,rfl⟩
 generalize sU:l.map MV.str=cs at h1;generalize rT:l.length=n at h1;have zV:n=0->l=[]:=fun e=>acw (by omega)
 cases h1 with
 | slnil=>exact empty _ _ (zV rfl)
 | nX h=>exact empty _ _ (zV rfl)
 | jV=>exact empty _ _ (zV rfl)
 | sl g1 g2 g3 g4 g5 g6=>
   rename_i us c b o;by_cases he:l=[]
   ·subst he;simp only[acu]at rT;subst rT;exact empty _ _ rfl
   have iO:us=l.map fun s=>Value.string ⟨⟨s⟩⟩:=by
    refine List.ext_getElem? fun i=>?_
    rcases Nat.lt_or_ge i us.length with hi | hi
    ·have e1:=Kn hi;have Q6:i<l.length:=by rw[g1, <-sU]at hi;simpa using hi
     have e2:cs[i]?=some (.str l[i]):=by rw[<-sU];simp[Q6]
     have:=g3 i _ _ e2 e1;rw[e1,XO,Kn Q6];generalize us[i]=v at*;cases this;rfl
    ·rw[agt hi,agt (by rw[g1, <-sU]at hi;simpa using hi)]
   have jh:∀(j:Nat) x,(l.map fun s=>(⟨⟨s⟩⟩:ByteArray))[j]?=some x->w.cell? ⟨b,o+j,none⟩=some (.string x):=fun j x hj=>by
    refine hw.ec _ _ _ (g2 j _ ?_);rw[iO];rw[XO]at hj ⊢;obtain⟨s,hs,rfl⟩:=Option.map_eq_some_iff.1 hj;rw[hs];rfl
   have rY:b<w.heap.size:=by
    obtain⟨s,r,rfl⟩:=List.exists_cons_of_ne_nil he;exact World.block_lt_of_cell? w _ (jh 0 _ rfl)
   have Ry:(l.map fun s=>(⟨⟨s⟩⟩:ByteArray)).map (·.data.toList)=l:=by rw[List.map_map];exact(List.map_congr_left (g:=id) fun _ _=>rfl).trans (List.map_id _)
   have key:=Tryz.strings_Join b o c (l.map fun s=>(⟨⟨s⟩⟩:ByteArray)) ⟨⟨sep⟩⟩ w jh rY (by rw[TP];exact hn) (by rw[TP];omega) (by rw[Ry];exact hlen);rw[Ry,TP,rT]at key;refine key.mono fun e w' ⟨he,qY⟩=>?_
   subst he;exact⟨.ret (.str (Lib.join l sep)),O,G,Gh.Le.refl G,hw.below qY,.str,rfl,rfl⟩
open Go.Shelf
def Tryz.AW:Go.Shelf.Ren:=⟨fun | 155=>42 | 154=>58 | 138=>80 | 165=>79 | 143=>81 | 166=>65 | 197=>82 | 169=>68 | 195=>106 | 218=>107 | 240=>85 | 241=>105 | 219=>108 | 260=>109 | 276=>113 | 277=>138 | 217=>139 | 225=>140 | 224=>141 | 267=>142 | 266=>169 | 314=>170 | n=>n,fun | 9=>9 | 3=>3 | 4=>4 | 72=>145 | 0=>0 | 76=>149 | 105=>184 | 21=>21 | 5=>5 | 70=>142 | 20=>20 | 37=>143 | 75=>148 | 127=>189 | 164=>210 | 46=>202 | 119=>252 | 139=>255 | 138=>254 | 146=>246 | 51=>128 | 80=>156 | n=>n,fun | 1=>0 | 3=>1 | 4=>2 | n=>n⟩
theorem Tryz.acj:Go.Proofs.Lays.n155 Tryz.prog Tryz.AW:={
 mixed:=by kernel_rfl
 f138:=Tryz.func80.trans (congrArg some (by kernel_rfl))
 f143:=Tryz.func81.trans (congrArg some (by kernel_rfl))
 f154:=Tryz.func58.trans (congrArg some (by kernel_rfl))
 f155:=Tryz.func42.trans (congrArg some (by kernel_rfl))
 f165:=Tryz.func79.trans (congrArg some (by kernel_rfl))
 f166:=Tryz.func65.trans (congrArg some (by kernel_rfl))
 f169:=Tryz.func68.trans (congrArg some (by kernel_rfl))
 f195:=Tryz.func106.trans (congrArg some (by kernel_rfl))
 f197:=Tryz.func82.trans (congrArg some (by kernel_rfl))
 f217:=Tryz.func139.trans (congrArg some (by kernel_rfl))
 f218:=Tryz.func107.trans (congrArg some (by kernel_rfl))
 f219:=Tryz.func108.trans (congrArg some (by kernel_rfl))
 f224:=Tryz.func141.trans (congrArg some (by kernel_rfl))
 f225:=Tryz.func140.trans (congrArg some (by kernel_rfl))
 f240:=Tryz.func85.trans (congrArg some (by kernel_rfl))
 f241:=Tryz.func105.trans (congrArg some (by kernel_rfl))
 f260:=Tryz.func109.trans (congrArg some (by kernel_rfl))
 f266:=Tryz.func169.trans (congrArg some (by kernel_rfl))
 f267:=Tryz.func142.trans (congrArg some (by kernel_rfl))
 f276:=Tryz.func113.trans (congrArg some (by kernel_rfl))
 f277:=Tryz.func138.trans (congrArg some (by kernel_rfl))
 f314:=Tryz.func170.trans (congrArg some (by kernel_rfl))
 t0:=Tryz.underlying0
 a0:=Tryz.isAgg0
 z0:=Tryz.sizeOf0
 v0:=Tryz.zeroValue0
 t3:=Tryz.underlying3
 a3:=Tryz.isAgg3
 z3:=Tryz.sizeOf3
 v3:=Tryz.zeroValue3
 t4:=Tryz.underlying4
 a4:=Tryz.isAgg4
 z4:=Tryz.sizeOf4
 v4:=Tryz.zeroValue4
 t5:=Tryz.underlying5
 a5:=Tryz.isAgg5
 z5:=Tryz.sizeOf5
 v5:=Tryz.zeroValue5
 t9:=Tryz.underlying9
 a9:=Tryz.isAgg9
 z9:=Tryz.sizeOf9
 v9:=Tryz.zeroValue9
 t20:=Tryz.underlying20
 a20:=Tryz.isAgg20
 z20:=Tryz.sizeOf20
 v20:=Tryz.zeroValue20
 t21:=Tryz.underlying21
 a21:=Tryz.isAgg21
 z21:=Tryz.sizeOf21
 v21:=Tryz.zeroValue21
 t37:=Tryz.underlying143
 a37:=Tryz.isAgg143
 z37:=Tryz.sizeOf143
 v37:=Tryz.zeroValue143
 t46:=Tryz.underlying202
 a46:=Tryz.isAgg202
 z46:=Tryz.sizeOf202
 v46:=Tryz.zeroValue202
 t51:=Tryz.underlying128
 a51:=Tryz.isAgg128
 z51:=Tryz.sizeOf128
 v51:=Tryz.zeroValue128
 t70:=Tryz.underlying142
 a70:=Tryz.isAgg142
 z70:=Tryz.sizeOf142
 v70:=Tryz.zeroValue142
 t72:=Tryz.underlying145
 a72:=Tryz.isAgg145
 z72:=Tryz.sizeOf145
 v72:=Tryz.zeroValue145
 t75:=Tryz.underlying148
 a75:=Tryz.isAgg148
 z75:=Tryz.sizeOf148
 v75:=Tryz.zeroValue148
 t76:=Tryz.underlying149
 a76:=Tryz.isAgg149
 z76:=Tryz.sizeOf149
 v76:=Tryz.zeroValue149
 t105:=Tryz.underlying184
 a105:=Tryz.isAgg184
 z105:=Tryz.sizeOf184
 v105:=Tryz.zeroValue184
 t119:=Tryz.underlying252
 a119:=Tryz.isAgg252
 z119:=Tryz.sizeOf252
 t127:=Tryz.underlying189
 a127:=Tryz.isAgg189
 z127:=Tryz.sizeOf189
 v127:=Tryz.zeroValue189
 t138:=Tryz.underlying254
 a138:=Tryz.isAgg254
 z138:=Tryz.sizeOf254
 v138:=Tryz.zeroValue254
 t139:=Tryz.underlying255
 a139:=Tryz.isAgg255
 z139:=Tryz.sizeOf255
 v139:=Tryz.zeroValue255
 t146:=Tryz.underlying246
 a146:=Tryz.isAgg246
 z146:=Tryz.sizeOf246
 v146:=Tryz.zeroValue246
 t164:=Tryz.underlying210
 a164:=Tryz.isAgg210
 z164:=Tryz.sizeOf210
 v164:=Tryz.zeroValue210
 g1:=by kernel_rfl
 g3:=by kernel_rfl
 g4:=by kernel_rfl}
theorem Tryz.zc:Builder.Extra Tryz.prog Tryz.AW:={
 sizeBuilder:=by kernel_rfl
 liesBuilder:=by kernel_rfl
 t5:=Tryz.underlying5
 a5:=Tryz.isAgg5
 z5:=Tryz.sizeOf5
 v5:=Tryz.zeroValue5
 infoByte:=by kernel_rfl
 cellsByte:=by kernel_rfl
 sizeByte:=by kernel_rfl
 neB5:=by decide}
open Go.RowKit Go.Lib in
theorem Tryz.strings_ReplaceAll (s o9 new:ByteArray) (m:Int) (w:World) (hs:s.size<4294967281) (hm:w.cell? ⟨0,0,none⟩=some (.int .i64 m)) (h1:1<=o9.size) (hlen:s.size+Lib.countB s o9*new.size<=140737488355328):
  Calls Tryz.prog 42 #[.string s,.string o9,.string new] w fun e w'=>
   e= .returned (.string ⟨(Lib.replaceAll s.data.toList o9.data.toList new.data.toList).toArray⟩)/\Below w.heap.size w w':=Any.strings_ReplaceAll Tryz.acj Tryz.zc s o9 new m w hs hm h1 hlen
def Tryz.Kh:Go.Shelf.Ren:=⟨fun | 105=>76 | 212=>102 | 99=>103 | 165=>79 | 166=>65 | 170=>104 | 169=>68 | 263=>135 | 264=>136 | 206=>137 | 240=>85 | 241=>105 | 276=>113 | 277=>138 | n=>n,fun | 9=>9 | 3=>3 | 4=>4 | 20=>20 | 0=>0 | 46=>202 | 109=>203 | 5=>5 | 72=>145 | 76=>149 | 51=>128 | 146=>246 | 53=>248 | 148=>249 | 70=>142 | 37=>143 | 75=>148 | 127=>189 | 164=>210 | 80=>156 | n=>n,fun | n=>n⟩
theorem Tryz.N9:Go.Proofs.Lays.n105 Tryz.prog Tryz.Kh:={
 mixed:=by kernel_rfl
 f99:=Tryz.func103.trans (congrArg some (by kernel_rfl))
 f105:=Tryz.func76.trans (congrArg some (by kernel_rfl))
 f165:=Tryz.func79.trans (congrArg some (by kernel_rfl))
 f166:=Tryz.func65.trans (congrArg some (by kernel_rfl))
 f169:=Tryz.func68.trans (congrArg some (by kernel_rfl))
 f170:=Tryz.func104.trans (congrArg some (by kernel_rfl))
 f206:=Tryz.func137.trans (congrArg some (by kernel_rfl))
 f212:=Tryz.func102.trans (congrArg some (by kernel_rfl))
 f240:=Tryz.func85.trans (congrArg some (by kernel_rfl))
 f241:=Tryz.func105.trans (congrArg some (by kernel_rfl))
 f263:=Tryz.func135.trans (congrArg some (by kernel_rfl))
 f264:=Tryz.func136.trans (congrArg some (by kernel_rfl))
 f276:=Tryz.func113.trans (congrArg some (by kernel_rfl))
 f277:=Tryz.func138.trans (congrArg some (by kernel_rfl))
 t0:=Tryz.underlying0
 a0:=Tryz.isAgg0
 z0:=Tryz.sizeOf0
 v0:=Tryz.zeroValue0
 t3:=Tryz.underlying3
 a3:=Tryz.isAgg3
 z3:=Tryz.sizeOf3
 v3:=Tryz.zeroValue3
 t4:=Tryz.underlying4
 a4:=Tryz.isAgg4
 z4:=Tryz.sizeOf4
 v4:=Tryz.zeroValue4
 t5:=Tryz.underlying5
 a5:=Tryz.isAgg5
 z5:=Tryz.sizeOf5
 v5:=Tryz.zeroValue5
 t9:=Tryz.underlying9
 a9:=Tryz.isAgg9
 z9:=Tryz.sizeOf9
 v9:=Tryz.zeroValue9
 t20:=Tryz.underlying20
 a20:=Tryz.isAgg20
 z20:=Tryz.sizeOf20
 v20:=Tryz.zeroValue20
 t37:=Tryz.underlying143
 a37:=Tryz.isAgg143
 z37:=Tryz.sizeOf143
 v37:=Tryz.zeroValue143
 t46:=Tryz.underlying202
 a46:=Tryz.isAgg202
 z46:=Tryz.sizeOf202
 v46:=Tryz.zeroValue202
 t51:=Tryz.underlying128
 a51:=Tryz.isAgg128
 z51:=Tryz.sizeOf128
 v51:=Tryz.zeroValue128
 t53:=Tryz.underlying248
 a53:=Tryz.isAgg248
 z53:=Tryz.sizeOf248
 v53:=Tryz.zeroValue248
 t70:=Tryz.underlying142
 a70:=Tryz.isAgg142
 z70:=Tryz.sizeOf142
 v70:=Tryz.zeroValue142
 t72:=Tryz.underlying145
 a72:=Tryz.isAgg145
 z72:=Tryz.sizeOf145
 v72:=Tryz.zeroValue145
 t75:=Tryz.underlying148
 a75:=Tryz.isAgg148
 z75:=Tryz.sizeOf148
 v75:=Tryz.zeroValue148
 t76:=Tryz.underlying149
 a76:=Tryz.isAgg149
 z76:=Tryz.sizeOf149
 v76:=Tryz.zeroValue149
 t109:=Tryz.underlying203
 a109:=Tryz.isAgg203
 z109:=Tryz.sizeOf203
 v109:=Tryz.zeroValue203
 t127:=Tryz.underlying189
 a127:=Tryz.isAgg189
 z127:=Tryz.sizeOf189
 v127:=Tryz.zeroValue189
 t146:=Tryz.underlying246
 a146:=Tryz.isAgg246
 z146:=Tryz.sizeOf246
 v146:=Tryz.zeroValue246
 t148:=Tryz.underlying249
 a148:=Tryz.isAgg249
 z148:=Tryz.sizeOf249
 v148:=Tryz.zeroValue249
 t164:=Tryz.underlying210
 a164:=Tryz.isAgg210
 z164:=Tryz.sizeOf210
 v164:=Tryz.zeroValue210}
open Go.RowKit Go.Lib in
theorem Tryz.strings_Repeat_zero (s:ByteArray) (w:World):
  Calls Tryz.prog 76 #[.string s,.int .i64 0] w fun e w'=>e= .returned (.string ⟨#[]⟩)/\w'=w:=Any.strings_Repeat_zero Tryz.N9 s w
open Go.RowKit Go.Lib in
theorem Tryz.strings_Repeat_one (s:ByteArray) (w:World):
  Calls Tryz.prog 76 #[.string s,.int .i64 1] w fun e w'=>e= .returned (.string s)/\w'=w:=Any.strings_Repeat_one Tryz.N9 s w
set_option linter.defProp false in
def ib:=yP akm<|yP T48<|yP T50 xi
def AX (b:UInt8):UInt8:=if b=46 then 47 else b
theorem TG:∀s:Bs,Lib.replaceK [46] [47] (Lib.count s [46]) s=s.map AX
 | []=>by
   rw[Lib.count_miss (s:=[]) (by rfl)];rfl
 | b::l=>by
   have ih:=TG l;by_cases hb:b=46
   ·subst hb;have hi:Lib.index (46::l) [46]=(0:Nat):=by simp[Lib.index]
    rw[Lib.count_hit (by simp) hi,Nat.add_comm,Lib.replaceK_hit _ _ _ _ 0 hi];simp only[List.take_zero,List.nil_append,acv,acu,ah7,akF,ah1,agw];rw[ih];rfl
   ·have hp:([46]:Bs).isPrefixOf (b::l)=false:=by
     show((46==b)&&List.isPrefixOf [] l)=false;rw[show((46:UInt8)==b)=false from beq_eq_false_iff_ne.2 (Ne.symm hb),alC]
    have hr:AX b=b:=if_neg hb;by_cases hm:Lib.index l [46]= -1
    ·have hi:Lib.index (b::l) [46]= -1:=by rw[Lib.index,hp,hm];rfl
     rw[Lib.count_miss hm]at ih;rw[Lib.count_miss hi,agw,hr, <-ih];rfl
    ·obtain⟨i,hi⟩:∃i:Nat,Lib.index l [46]=i:=⟨(Lib.index l [46]).toNat,by have:=Lib.index_ge l [46];omega⟩
     have gG:Lib.index (b::l) [46]=((i+1:Nat):Int):=by
      rw[Lib.index,hp,if_neg (by decide),hi,if_neg (by simp)];omega
     rw[Lib.count_hit (by simp) hi,Nat.add_comm,Lib.replaceK_hit _ _ _ _ i hi]at ih;rw[Lib.count_hit (by simp) gG,Nat.add_comm,Lib.replaceK_hit _ _ _ _ (i+1) gG,agw,hr, <-ih];simp only[List.take_succ_cons,acv,acu,ah7,akF,alF]
theorem ahT (s:Bs):Lib.countB ⟨⟨s⟩⟩ ⟨⟨[46]⟩⟩<=s.length:=Lib.countB_le ⟨⟨[46]⟩⟩ (by decide) s.length ⟨⟨s⟩⟩ (XN _)
theorem XF (s:Bs) (O:VH) (hs:s.length<=100000):VF Tryz.prog 42 [.str s,.str [46],.str [47]] O (aE fun m O'=>m= .str (s.map AX)/\O'=O):=by
 intro G w vs hw hv;obtain⟨u,us,rfl,h1,h2⟩:=hv.cD;obtain⟨u2,Qa,rfl,h3,h4⟩:=h2.cD;obtain⟨u3,us3,rfl,h5,h6⟩:=h4.cD;rw[h6.fF];cases h1;cases h3;cases h5;obtain⟨m,hm⟩:=hw.aeO (g:=0) (by decide);have hc:=ahT s;refine(Tryz.strings_ReplaceAll ⟨⟨s⟩⟩ ⟨⟨[46]⟩⟩ ⟨⟨[47]⟩⟩ m w (show s.length<4294967281 by omega) hm (by decide) (show s.length+Lib.countB ⟨⟨s⟩⟩ ⟨⟨[46]⟩⟩*1<=140737488355328 by omega)).mono fun e w' ⟨he,qY⟩=>?_
 subst he
 have hr:Lib.replaceAll s [46] [47]=s.map AX:=by
  rw[<-TG s];unfold Lib.replaceAll Lib.replace Lib.replaceNum;rw[if_neg (by decide),if_pos (.inl (by decide))]
 refine⟨.ret (.str (s.map AX)),O,G,Gh.Le.refl G,hw.below qY,?_,rfl,rfl⟩;show VR G _ (.string ⟨(Lib.replaceAll s [46] [47]).toArray⟩);rw[hr];exact .str
theorem aeE (s:Bs) (O:VH):VF Tryz.prog 76 [.str s,.v (.int .i64 0)] O (aE fun m O'=>m= .str []/\O'=O):=by
 intro G w vs hw hv;obtain⟨u,us,rfl,h1,h2⟩:=hv.cD;obtain⟨u2,Qa,rfl,h3,h4⟩:=h2.cD;rw[h4.fF];cases h1;cases h3;refine(Tryz.strings_Repeat_zero ⟨⟨s⟩⟩ w).mono fun e w' ⟨he,qY⟩=>?_
 subst qY;subst he
 exact⟨.ret (.str []),O,G,Gh.Le.refl G,hw,.str,rfl,rfl⟩
theorem aeF (s:Bs) (O:VH):VF Tryz.prog 76 [.str s,.v (.int .i64 1)] O (aE fun m O'=>m= .str s/\O'=O):=by
 intro G w vs hw hv;obtain⟨u,us,rfl,h1,h2⟩:=hv.cD;obtain⟨u2,Qa,rfl,h3,h4⟩:=h2.cD;rw[h4.fF];cases h1;cases h3;refine(Tryz.strings_Repeat_one ⟨⟨s⟩⟩ w).mono fun e w' ⟨he,qY⟩=>?_
 subst qY;subst he
 exact⟨.ret (.str s),O,G,Gh.Le.refl G,hw,.str,rfl,rfl⟩
theorem FY (mark:Bs) (n:Nat) (cs:List MV) (l:List Bs) (tk:Tok) (r:Bs) (O:VH) (hn:l.length=n) (hc:l.map MV.str=cs) (hr:Lib.join l mark=r) (hl:l.length<=1000) (hlen:r.length<=1000000):VF Tryz.prog 41 [.str mark,.sl n cs tk] O (aE fun m O'=>m= .str r/\O'=O):=by
 subst hn;subst hc;subst hr
 have hj:=aeD l mark tk O (by omega) (by omega);generalize Lib.join l mark=r at*;generalize l.map MV.str=cs at*;generalize l.length=n at*;refine VF.bN 8 [.tmp 4] Tryz.func41 ?_;refine VC.ag aa (ae @ib ?_);refine VC.ag aa (ae @ib ?_);refine ah.rt hj ?_;rintro _ Ox ⟨rfl,eO⟩;rw[eO];clear eO Ox
 refine ae @ib ?_;refine WC.sound aa (ae @ib ?_);trivial
structure Itm where
 k:Ky
 v:Bs
def itM (x:Itm):List MV:=[.str x.k.g,.str x.k.a,.str x.k.t,.str x.k.c,.str x.v]
def akt (x:Itm):Prop:=x.k.g.length<=500/\x.k.a.length<=500/\x.k.t.length<=500/\x.k.c.length<=500/\x.v.length<=500
def FZ (x:Itm):Bs:=if x.k.c=[]then x.k.a++[45]++x.v else(x.k.a++[45]++x.v)++[45]++x.k.c
def RU (x:Itm):Bs:=x.k.g.map AX++[47]++x.k.a++[47]++x.v++[47]++(FZ x++[46]++x.k.t)
set_option maxHeartbeats 4000000 in
theorem aeG (x:Itm) (O:VH) (hx:akt x):VF Tryz.prog 24 [.agg (itM x)] O (aE fun m O'=>m= .str (RU x)/\O.Ge O'):=by
 obtain⟨⟨g,a,t,c⟩,v⟩:=x;obtain⟨h1,h2,h3,h4,h5⟩:=hx;dsimp only at h1 h2 h3 h4 h5;unfold RU FZ;simp only[itM];have j2:∀(p q m:Bs) (tk:Tok) (O':VH),p.length<=5000->q.length<=5000->m.length<=10->VF Tryz.prog 41 [.str m,.sl 2 [.str p,.str q] tk] O' (aE fun r kx=>r= .str (p++m++q)/\kx=O'):=fun p q m tk O' hp hq hm=>FY m 2 _ [p,q] tk _ O' rfl rfl (by simp[Lib.join]) (by simp) (by simp only[Km];omega)
 refine VF.bN 38 [.tmp 2] Tryz.func24 ?_;refine VC.ag aa (ae @ib ?_);refine VC.bx ?_;rintro O1 ⟨aM,ez,cW⟩;refine VC.ag aa (ao @ib @ez ?_);refine ah.rt (j2 a v [45] _ O1 (by omega) (by omega) (by decide)) ?_;rintro _ Ox ⟨rfl,eO⟩;rw[eO];clear eO Ox
 refine ae @ib ?_
 have yG:(FZ ⟨⟨g,a,t,c⟩,v⟩).length<=2000:=by
  unfold FZ;dsimp only;split<;>simp only[Km,acv,acu]<;>omega
 unfold FZ at yG;dsimp only at yG ⊢;refine VC.bC [1,3] (fun _:Unit=>[.ptr O.next 0,.str (if c=[]then a++[45]++v else a++[45]++v++[45]++c)]) (fun _ O'=>O'=O1) ?_ ?_
 ·by_cases hc:c=[]
  ·have e1:(c==([]:Bs))=true:=by simp[hc]
   rw[if_pos hc];refine WC.sound aa (aJ @ib @ez @e1 ?_);exact aA.mk () rfl
  ·have e1:(c==([]:Bs))=false:=by simpa using hc
   rw[if_neg hc];refine WC.sound aa (aJ @ib @ez @e1 ?_);refine ah.rt (j2 (a++[45]++v) c [45] _ O1 (by simp only[Km,acv,acu];omega) (by omega) (by decide)) ?_;rintro _ Ox ⟨rfl,eO⟩;rw[eO];clear eO Ox
   refine ae @ib ?_;exact aA.mk () rfl
 rintro _ Ox eO;rw[eO];clear eO Ox
 generalize (if c=[]then a++[45]++v else a++[45]++v++[45]++c)=nm at*;have hra:=fun O'=>XF g O' (by omega)
 have cT:=fun O' tk=>j2 nm t [46] tk O' (by omega) (by omega) (by decide)
 have aX:=fun O' tk=>FY [47] 4 [.str (g.map AX),.str a,.str v,.str (nm++[46]++t)] [g.map AX,a,v,nm++[46]++t] tk (g.map AX++[47]++a++[47]++v++[47]++(nm++[46]++t)) O' rfl rfl (by simp[Lib.join]) (by simp) (by simp only[Km,TP,acv,acu];omega)
 refine VC.bB ?_;refine VC.mZ [15,16,17] ?_;refine ab.av 0 ?_;refine ae @ib ?_;refine ab.av 1 ?_;refine ae @ib ?_;refine ab.ld (m:=.str g) 2 ?_ ?_
 ·exact dq @ib @ez
 simp only[aj];refine ab.av 4 ?_;refine ae @ib ?_;refine ab.av 5 ?_;refine ae @ib ?_;refine ab.ld (m:=.str a) 6 ?_ ?_
 ·exact dq @ib @ez
 simp only[aj];refine ab.av 7 ?_;refine ae @ib ?_;refine ab.ld (m:=.str v) 8 ?_ ?_
 ·exact dq @ib @ez
 simp only[aj];refine ab.av 9 ?_;refine ae @ib ?_;refine ab.av 10 ?_;refine ae @ib ?_;refine ab.av 11 ?_;refine ae @ib ?_;refine ab.ld (m:=.str t) 12 ?_ ?_
 ·exact dq @ib @ez
 simp only[aj];refine ab.pair (i:=3) (j:=13) ?_ ?_
 ·refine aK.jj (hra _) ?_;rintro _ Ox ⟨rfl,eO⟩;rw[eO];clear eO Ox
  simp only[aj];refine⟨VH.Ge.refl _,?_⟩;refine ab.op (i:=13) ?_;refine ae @ib ?_;refine⟨VH.Ge.refl _,?_⟩;refine ab.call (i:=14) (cT _ _) ?_;rintro _ Ox ⟨rfl,eO⟩;simp only[aj];rw[eO];clear eO Ox
  refine⟨VH.Ge.refl _,?_⟩;refine ab.bO [(15,.one),(16,.one),(17,.av)] ?_;refine ae @ib ?_;refine ah.rt (aX _ _) ?_;rintro _ Ox ⟨rfl,eO⟩;rw[eO];clear eO Ox
  refine ae @ib ?_;refine WC.sound aa (ae @ib ?_);exact aM
 ·refine aK.o1 ?_;refine ae @ib ?_;refine⟨VH.Ge.refl _,?_⟩;refine ab.call (i:=3) (hra _) ?_;rintro _ Ox ⟨rfl,eO⟩;simp only[aj];rw[eO];clear eO Ox
  refine⟨VH.Ge.refl _,?_⟩;refine ab.call (i:=14) (cT _ _) ?_;rintro _ Ox ⟨rfl,eO⟩;simp only[aj];rw[eO];clear eO Ox
  refine⟨VH.Ge.refl _,?_⟩;refine ab.bO [(15,.one),(16,.one),(17,.av)] ?_;refine ae @ib ?_;refine ah.rt (aX _ _) ?_;rintro _ Ox ⟨rfl,eO⟩;rw[eO];clear eO Ox
  refine ae @ib ?_;refine WC.sound aa (ae @ib ?_);exact aM
set_option linter.defProp false in
def bg:=yP ib<|yP ae0<|yP T93 T91
def wa (u j:Nat) (b:Bn):Bool:=decide (0<j)&&(decide (b.up=(u:Int))&&decide (u<j))
def dC (L:List Bn) (u:Nat):Nat->List Int
 | 0=>[]
 | j+1=>dC L u j++match L[j]? with
   | some b=>if wa u j b then[(j:Int)]else[]
   | none=>[]
theorem wc (L:List Bn) (u:Nat):∀j,(dC L u j).length<=j
 | 0=>XN _
 | j+1=>by
   have:=wc L u j;rw[dC,Km];split
   ·split<;>simp<;>omega
   ·simp;omega
theorem we (L:List Bn) (u:Nat):∀(j:Nat) (k:Int),k∈dC L u j->∃(i:Nat) (b:Bn),k=i/\i<j/\L[i]?=some b/\b.up=u/\u<i
 | 0,k,h=>by cases h
 | j+1,k,h=>by
   rw[dC,List.mem_append]at h;rcases h with h | h
   ·obtain⟨i,b,h1,h2,h3⟩:=we L u j k h;exact⟨i,b,h1,by omega,h3⟩
   ·cases hL:L[j]? with
    | none=>rw[hL]at h;cases h
    | some b=>
      rw[hL]at h;dsimp only at h;cases hk:wa u j b with
      | false=>rw[hk]at h;simp at h
      | true=>
        rw[hk]at h;simp only[wa,alG,decide_eq_true_eq]at hk;exact⟨j,b,by simpa using h,by omega,hL,hk.2.1,hk.2.2⟩
def kB (L:List Bn) (j:Nat) (T:Nat->Tok):List MV:=(List.range L.length).map fun u=>.sl (dC L u j).length ((dC L u j).map mi) (T u)
theorem nT (L:List Bn) (j:Nat) (T:Nat->Tok):(kB L j T).length=L.length:=by simp[kB]
theorem sD (L:List Bn) (j:Nat) (T:Nat->Tok) (u:Nat) (h:u<L.length):(kB L j T)[u]?=some (.sl (dC L u j).length ((dC L u j).map mi) (T u)):=by
 unfold kB;rw[XO,List.getElem?_range h];rfl
theorem N_ (L:List Bn):kB L 0 (fun _=>.nil)=List.replicate L.length (.sl 0 [] .nil):=
 List.eq_replicate_iff.2 ⟨nT _ _ _,fun b hb=>by
  obtain⟨u,_,rfl⟩:=List.mem_map.1 hb;rfl⟩
theorem Oa (L:List Bn) (j:Nat) (T:Nat->Tok) (h:∀u,u<L.length->dC L u (j+1)=dC L u j):kB L (j+1) T=kB L j T:=by
 unfold kB;refine List.map_congr_left fun u hu=>?_
 rw[h u (List.mem_range.1 hu)]
theorem RV (L:List Bn) (j:Nat) (T:Nat->Tok) (u:Nat) (t:Tok) (hu:u<L.length) (h:∀v,v<L.length->dC L v (j+1)=dC L v j++if v=u then[(j:Int)]else[]):
  (kB L j T).set u (.sl ((dC L u j).length+1) ((dC L u j).map mi++[mi j]) t)=kB L (j+1) (fun v=>if v=u then t else T v):=by
 refine List.ext_getElem? fun i=>?_
 rw[List.getElem?_set,nT];by_cases e:u=i
 ·subst e;rw[if_pos rfl,if_pos hu,sD _ _ _ _ hu,h u hu,if_pos rfl,if_pos rfl,Km,ah5];rfl
 ·rw[if_neg e];by_cases hi:i<L.length
  ·rw[sD _ _ _ _ hi,sD _ _ _ _ hi,h i hi,if_neg (Ne.symm e),if_neg (Ne.symm e),ahY]
  ·rw[agt (by rw[nT];omega),agt (by rw[nT];omega)]
def TkO (n:Nat) (T:Nat->Tok) (B:Nat) (O:VH):Prop:=(∀u,u<n->App O B 1 (T u))/\∀u v,u<n->v<n->u≠v->∀i,Tok.id (T u)=some i->Tok.id (T v)≠some i
theorem TkO.ge {n B:Nat} {T:Nat->Tok} {O A:VH} (h:TkO n T B O) (g:O.Ge A):TkO n T B A:=⟨fun u hu=>(h.1 u hu).ge g,h.2⟩
set_option maxHeartbeats 4000000 in
theorem Ob (L:List Bn) (tk:Tok) (O:VH) (hL:L.length<=1000):VF Tryz.prog 59 [.sl L.length (L.flatMap dZ) tk] O (aE fun m O'=>∃T,m= .bq O.next 0 L.length L.length/\O.Ge O'/\O.next<O'.next/\O'.hp O.next=some (.cells (kB L L.length T))):=by
 have hlen:=aQ dX L;have gP:gZ (eh Tryz.prog) 22 (.sl L.length (L.flatMap dZ) tk)=some (.v (.int .i64 L.length)):=fj xh;have lY:=fun O'=>af5 (tab:=eh Tryz.prog) ae0 ZP O' L.length (by omega) (by omega)
 refine VF.bN 43 [.tmp 2] Tryz.func59 ?_;refine VC.ag aa (ae @bg ?_);refine VC.ag aa (aJ @bg @gP @lY ?_);refine VC.bx ?_;rintro O1 ⟨aM,cJ,cW⟩;rw[<-N_]at cJ;refine VC.bC [3] (fun _:Unit=>[.bq O.next 0 L.length L.length]) (fun _ O'=>O.Ge O'/\O.next<O'.next/\∃T,O'.hp O.next=some (.cells (kB L L.length T))) ?_ ?_
 ·refine VC.ag aa (ao @bg @gP ?_);refine VC.az ?_;refine VC.bG [11] [3,9,10] (fun j:Nat=>[mi j]) (fun j O'=>j<=L.length/\O.Ge O'/\O1.next<=O'.next/\∃T,O'.hp O.next=some (.cells (kB L j T))/\TkO L.length T O1.next O') (fun j=>L.length - j) (0) ?_ ?_
  ·exact⟨agr _,aM,XN _,_,cJ,fun u _=>trivial,fun u v _ _ _ i h=>by cases h⟩
  clear cJ;rintro j O3 ⟨hj,aG,gm,T,rB,ht3⟩;by_cases aX:j<L.length;rotate_left
  ·obtain rfl:j=L.length:=by omega
   refine WC.sound aa (ae @bg ?_);exact aA.mk () ⟨aG,by omega,T,rB⟩
  have cT:((j:Int)+1)=((j+1:Nat):Int):=by omega
  have bw:=bU dX L j aX;have Gs:∀u,dC L u (j+1)=dC L u j++if wa u j L[j]then[(j:Int)]else[]:=fun u=>by rw[dC,Kn aX]
  generalize L[j]=b at*;obtain⟨up,dp,od,⟨q1,q2,q3,q4⟩,v,hd,rv,nn,iv,xr,s,rd⟩:=b;simp only[dZ,aq,a_]at bw;unfold wa at Gs;dsimp only at Gs;refine VC.ag aa (ae @bg ?_);refine VC.ag aa (ae @bg ?_);refine VC.bB (VC.az ?_);refine VC.ag aa (ao @bg @bw ?_);refine VC.al ?_;rintro O4 ⟨aY,eA,gI⟩;have kR:=aY.at rB
  have skip:(∀u,u<L.length->dC L u (j+1)=dC L u j)->(j+1<=L.length/\O.Ge O4/\O1.next<=O4.next/\∃T,O4.hp O.next=some (.cells (kB L (j+1) T))/\TkO L.length T O1.next O4):=fun h=>
   ⟨aX,aG.trans aY,by omega,T,by rw[Oa L j T h];exact kR,ht3.ge aY⟩
  by_cases h0:0<j;rotate_left
  ·have e1:decide ((j:Int)>0)=false:=decide_eq_false (by omega);have e2:decide ((0:Int)<j)=false:=e1;have hs:=skip fun u _=>by rw[Gs,decide_eq_false h0,alC];simp
   refine VC.ag aa (aJ @bg @eA (yP e1 e2) ?_);refine WC.sound aa (ae @bg ?_);refine WC.sound aa (ao @bg @cT ?_);exact ax.next (j+1) hs
  have e1:decide ((j:Int)>0)=true:=decide_eq_true (by omega);have e2:decide ((0:Int)<j)=true:=e1;by_cases h1:0<=up;rotate_left
  ·have e3:decide (up>=0)=false:=decide_eq_false h1;have e4:decide ((0:Int)<=up)=false:=e3;have hs:=skip fun u _=>by rw[Gs,decide_eq_false (show ¬up=(u:Int) by omega)];simp
   refine VC.ag aa (c_ @bg @eA (yP e1 e2) (yP e3 e4) ?_);refine WC.sound aa (ae @bg ?_);refine WC.sound aa (ao @bg @cT ?_);exact ax.next (j+1) hs
  have e3:decide (up>=0)=true:=decide_eq_true h1;have e4:decide ((0:Int)<=up)=true:=e3;obtain⟨u,rfl⟩:=Int.eq_ofNat_of_zero_le h1;by_cases h2:u<j;rotate_left
  ·have e5:decide ((u:Int)<j)=false:=decide_eq_false (by omega)
   have hs:=skip fun w _=>by
    rw[Gs];by_cases e:u=w
    ·subst e;rw[decide_eq_false h2];simp
    ·rw[decide_eq_false (show ¬(u:Int)=(w:Int) by omega)];simp
   refine VC.ag aa (gQ @bg @eA (yP e1 e2) (yP e3 e4) @e5 ?_);refine WC.sound aa (ae @bg ?_);refine WC.sound aa (ao @bg @cT ?_);exact ax.next (j+1) hs
  have e5:decide ((u:Int)<j)=true:=decide_eq_true (by omega);clear skip
  have aku:∀w,w<L.length->dC L w (j+1)=dC L w j++if w=u then[(j:Int)]else[]:=fun w _=>by
   rw[Gs,decide_eq_true h0,alM];by_cases e:w=u
   ·subst e;rw[decide_eq_true rfl,decide_eq_true h2,if_pos rfl];rfl
   ·rw[decide_eq_false (show ¬(u:Int)=(w:Int) by omega),if_neg e];rfl
  have hru:=sD L j T u (by omega);have kF:=fun t=>RV L j T u t (by omega) aku
  have vu:=nT L j T;have kj:=wc L u j;have BE:=ht3.ge aY;have cC:=BE.1 u (by omega);have mT:=bj (tk:=T u) (tk':=.full) (n:=(dC L u j).length) (k:=1) (cs:=(dC L u j).map mi) (ds:=[.v (.int .i64 j)]) ZP T3 cC (by rw[TP,Nat.mul_one]) rfl rfl (by decide) (by decide) (by omega) (by simp only[maxLen];omega);simp only[aq]at kF mT hru;refine VC.ag aa (gQ @bg @eA (yP e1 e2) (yP e3 e4) @e5 ?_);refine VC.Bg rfl ?_;refine WC.bO (.held [12]) [(0,.rd),(1,.rd),(2,.rd),(3,.rd),(4,.rd),(5,.rd),(6,.rd),(7,.rd),(8,.rd),(9,.one),(10,.one),(11,.rd),(12,.one)] ?_;generalize hR:kB L j T=R at*;refine gQ @bg @eA @kR @vu @hru ?_;refine VL.app mT ?_;have fz:=VH.mu cC kR (by simp) (by omega);have fS:=VH.dU O4 (T u);have ia:∀i,i<O4.next->i<O1.next->(O4.after (T u)).hp i=O4.hp i:=fun i h h'=>(cL.after cC).hp i h fun e=>by have:=(cC.n8 e).1;omega
  have htA:∀w,w<L.length->w≠u->App (O4.after (T u)) O1.next 1 (T w):=fun w hw hne=>cL.app (cL.after cC) (BE.1 w hw) (fun i e=>BE.2 u w (by omega) hw (Ne.symm hne) i e)
  have jL:App (O4.after (T u)) O1.next 1 (.own O4.next 1):=App.after (by omega);generalize O4.after (T u)=O5 at*;refine c_ @bg @fz @vu @kF ?_;have akZ:=kF (.own O4.next 1);refine WC.sound aa (ao @bg @cT ?_);refine ax.next (j+1) ⟨aX,⟨by show O.next<=O5.next;have:=aG.next;omega,fun i hi=>?_⟩,by show O1.next<=O5.next;omega,_,VH.an _ _ _,fun w hw=>?_,?_⟩
  ·rw[VH.ak _ _ (by omega),ia i (by have:=aG.next;omega) (by omega),aY.hp i (by have:=aG.next;omega)];exact aG.hp i hi
  ·refine aeC (A:=O5) ?_ (fun i hi=>VH.ak _ _ (by omega)) (XN _);dsimp only;by_cases e:w=u
   ·rw[if_pos e];exact jL
   ·rw[if_neg e];exact htA w hw e
  ·intro w x hw hx hne i hi gG;dsimp only at hi gG;by_cases e:w=u
   ·rw[if_pos e]at hi;injection hi with hi;subst hi;rw[if_neg (fun e'=>hne (e.trans e'.symm))]at gG;have:=((BE.1 x hx).n8 gG).2;omega
   ·rw[if_neg e]at hi;by_cases e':x=u
    ·rw[if_pos e']at gG;injection gG with gG;subst gG;have:=((BE.1 w hw).n8 hi).2;omega
    ·rw[if_neg e']at gG;exact BE.2 w x hw hx hne i hi gG
 rintro _ O2 ⟨ay,iq,T,iK⟩;refine VC.ag aa (ae @bg ?_);refine WC.sound aa (ae @bg ?_);exact⟨T,ay,iq,iK⟩
def fO (L:List Bn) (p:Nat->Bool):Nat->Nat->List Int
 | 0,_=>[]
 | f+1,i=>(dC L i L.length).flatMap fun k=>if p k.toNat then k::fO L p f k.toNat else[]
set_option maxHeartbeats 4000000 in
theorem XG (L:List Bn) (T:Nat->Tok) (hL:L.length<=1000) (p:Nat->Bool) (fin F0:FuncId) (cin Ki:List MV) (bu bi bd bf ob:Nat) (St:List Int->VH->Prop) (BX:cR Tryz.prog fin=true) (hcd:cR Tryz.prog F0=true)
  (hf:∀X A,St X A->A.hp bu=some (.cells [.bq ob 0 L.length L.length])/\A.hp ob=some (.cells (kB L L.length T))/\A.hp bi=some (.cells [.func (.func fin) [] cin])/\A.hp bd=some (.cells [.func (.func F0) [] Ki])/\A.hp bf=some (.cells [.func (.func 60) [] [.ptr bu 0,.ptr bi 0,.ptr bd 0,.ptr bf 0]]))
  (LQ:∀X A (k:Nat),St X A->k<L.length->VF Tryz.prog fin (mi k::cin) A (aE fun m A'=>m=mb (p k)/\St X A'))
  (Rt:List Int) (hdo:∀X A (k:Nat),St X A->k<L.length->p k=true->(∃Z,Rt=X++(k:Int)::Z)->VF Tryz.prog F0 (mi k::Ki) A (aE fun _ A'=>St (X++[(k:Int)]) A')):
  ∀(f i:Nat) (X Z:List Int) (O:VH),Rt=X++fO L p f i++Z->i<L.length->L.length - i<=f->St X O->VF Tryz.prog 60 [mi i,.ptr bu 0,.ptr bi 0,.ptr bd 0,.ptr bf 0] O (aE fun _ O'=>St (X++fO L p f i) O'):=by
 intro f;induction f with
 | zero=>intro i X Z O hR h1 h2;omega
 | succ f ih=>
   intro i X Z O hR hi hif hs;obtain⟨hu,ho,CX,cO,hbf⟩:=hf X O hs;have hru:=sD L L.length T i hi;have vu:=nT L L.length T;have Nh:=we L i L.length;have kj:=wc L i L.length;unfold fO at hR ⊢;generalize dC L i L.length=K at*;generalize kB L L.length T=R at*;rw[aq];refine VF.bN 27 [] Tryz.func60 ?_;refine VC.ag aa (gQ @bg @hu @ho @vu @hru ?_);refine VC.az ?_;refine VC.bG [13] [2,3,4,11,12] (fun j:Nat=>[mi j]) (fun j O'=>j<=K.length/\St (X++(K.take j).flatMap fun k=>if p k.toNat then k::fO L p f k.toNat else[]) O') (fun j=>K.length - j) (0) ?_ ?_
   ·exact⟨agr _,by simpa using hs⟩
   clear hu ho CX cO hbf hs;rintro j O3 ⟨hj,Jx⟩;by_cases aX:j<K.length;rotate_left
   ·obtain rfl:j=K.length:=by omega
    rw[List.take_length]at Jx;refine WC.sound aa (ae @bg ?_);exact Jx
   have cT:((j:Int)+1)=((j+1:Nat):Int):=by omega
   obtain⟨k,b,pB,dY,bJ,dz,jq⟩:=Nh K[j] (List.getElem_mem aX);have fu:(K.map mi)[j]?=some (.v (.int .i64 k)):=by rw[XO,Kn aX,pB];rfl
   have eR:(K.take (j+1)).flatMap (fun k=>if p k.toNat then k::fO L p f k.toNat else[])=(K.take j).flatMap (fun k=>if p k.toNat then k::fO L p f k.toNat else[])++if p k then(k:Int)::fO L p f k else[]:=by
    rw[<-List.take_append_getElem aX,agx,pB];simp
   have Ju:Rt=X++(K.take j).flatMap (fun k=>if p k.toNat then k::fO L p f k.toNat else[])++((if p k then(k:Int)::fO L p f k else[])++((K.drop (j+1)).flatMap (fun k=>if p k.toNat then k::fO L p f k.toNat else[])++Z)):=by
    have h1:K.flatMap (fun k=>if p k.toNat then k::fO L p f k.toNat else[])=(K.take (j+1)).flatMap (fun k=>if p k.toNat then k::fO L p f k.toNat else[])++(K.drop (j+1)).flatMap (fun k=>if p k.toNat then k::fO L p f k.toNat else[]):=by rw[<-agx,List.take_append_drop]
    rw[hR,h1,eR];simp
   have ey:(K.map mi).length=K.length:=TP _;generalize (K.take j).flatMap (fun k=>if p k.toNat then k::fO L p f k.toNat else[])=Y at*;obtain⟨_,_,CX,cO,hbf⟩:=hf _ O3 Jx;have uq:=LQ _ O3 k Jx (by omega);simp only[aq]at uq;refine VC.ag aa (ae @bg ?_);refine VC.ag aa (ae @bg ?_);refine VC.bB (VC.az ?_);refine VC.ag aa (aJ @bg @ey @fu ?_);refine VC.ag aa (ao @bg @CX ?_);refine ah.rt uq ?_ (hb:=BX);clear uq;rintro _ O4 ⟨rfl,C6⟩;cases jC:p k
   ·rw[jC,if_neg (by decide),ahY]at eR;simp only[a_];refine ae @bg ?_;refine WC.sound aa (ae @bg ?_);refine WC.sound aa (ao @bg @cT ?_);exact ax.next (j+1) ⟨aX,by rw[eR];exact C6⟩
   rw[jC,if_pos rfl]at eR;simp only[a_];refine ae @bg ?_;refine VC.Bg rfl ?_;obtain⟨_,_,alx,akv,aly⟩:=hf _ O4 C6;rw[jC,if_pos rfl]at Ju;have yK:=hdo _ O4 k C6 (by omega) jC ⟨_,Ju⟩;simp only[aq]at yK;refine VC.ag aa (ao @bg @akv ?_);refine ah.rt yK ?_ (hb:=hcd);clear yK;rintro _ O5 hs5;obtain⟨_,_,alz,alA,akw⟩:=hf _ O5 hs5;have qB:=ih k _ _ O5 (by rw[Ju];simp only[List.append_assoc,alF,List.nil_append];rfl) (by omega) (by omega) hs5;simp only[aq]at qB;refine ae @bg ?_;refine WC.sound aa (ao @bg @akw ?_);refine ah.rt qB ?_;clear qB;rintro _ O6 Fa;refine ae @bg ?_;refine WC.sound aa (ao @bg @cT ?_);exact ax.next (j+1) ⟨aX,by rw[eR];simpa using Fa⟩
set_option maxHeartbeats 4000000 in
theorem Oj (L:List Bn) (tk:Tok) (hL:L.length<=1000) (h0:0<L.length) (p:Nat->Bool) (fin F0:FuncId) (cin Ki:List MV) (St:List Int->VH->Prop) (O:VH) (BX:cR Tryz.prog fin=true) (hcd:cR Tryz.prog F0=true)
  (hS0:St [] O) (hSg:∀X A B,St X A->A.Ge B->St X B)
  (LQ:∀X A (k:Nat),St X A->k<L.length->VF Tryz.prog fin (mi k::cin) A (aE fun m A'=>m=mb (p k)/\A.Ge A'))
  (hdo:∀X A (k:Nat),St X A->k<L.length->p k=true->(∃Z,fO L p L.length 0=X++(k:Int)::Z)->VF Tryz.prog F0 (mi k::Ki) A (aE fun _ A'=>St (X++[(k:Int)]) A'/\A.next<=A'.next/\∀i cs,O.next<=i->A.hp i=some (.cells cs)->i<A.next->A'.hp i=some (.cells cs))):
  VF Tryz.prog 45 [.sl L.length (L.flatMap dZ) tk,.func (.func fin) [] cin,.func (.func F0) [] Ki] O (aE fun _ O'=>St (fO L p L.length 0) O'):=by
 have gP:gZ (eh Tryz.prog) 22 (.sl L.length (L.flatMap dZ) tk)=some (.v (.int .i64 L.length)):=fj xh;refine VF.bN 16 [] Tryz.func45 ?_;refine VC.ag aa (ae @bg ?_);refine VC.gen ?_;intro O1 e1;obtain⟨aM,cW,cJ,cA⟩:=gj _ _ e1;clear e1;refine VC.ag aa (ae @bg ?_);refine ah.rt (Ob L tk O1 hL) ?_;rintro _ O2 ⟨T,rfl,ay,iq,fl⟩;refine ae @bg ?_;refine VC.al ?_;rintro O3 ⟨aG,cP,gm⟩;refine VC.ag aa (ae @bg ?_);refine VC.bx ?_;rintro O4 ⟨aY,XH,gI⟩;refine VC.ag aa (ao @bg @XH ?_);refine VC.gen ?_;intro O5 e5;have ia:∀i,i≠O3.next->O5.hp i=O4.hp i:=fun i h=>by rw[e5];exact VH.ak _ _ h
 have J5:O5.hp O3.next=some (.cells [.func (.func 60) [] [.ptr O2.next 0,.ptr O.next 0,.ptr (O.next+1) 0,.ptr O3.next 0]]):=by rw[e5];exact VH.an _ _ _
 have fS:O5.next=O4.next:=by rw[e5];rfl
 clear e5 XH;have fz:=(ia O.next (by omega)).trans (aY.at (aG.at (ay.at cJ)));have cZ:=(ia (O.next+1) (by omega)).trans (aY.at (aG.at (ay.at cA)));have qB:=(ia O1.next (by omega)).trans (aY.at (aG.at fl));have oa:=(ia O2.next (by omega)).trans (aY.at cP);have jn:O.Ge O5:=⟨by omega,fun i hi=>(ia i (by omega)).trans ((aY.hp i (by omega)).trans ((aG.hp i (by omega)).trans ((ay.hp i (by omega)).trans (aM.hp i hi))))⟩;have hs5:=hSg _ _ _ hS0 jn
 have hw:=XG L T hL p fin F0 cin Ki O2.next O.next (O.next+1) O3.next O1.next (fun X A=>St X A/\O5.next<=A.next/\A.hp O2.next=some (.cells [.bq O1.next 0 L.length L.length])/\A.hp O1.next=some (.cells (kB L L.length T))/\A.hp O.next=some (.cells [.func (.func fin) [] cin])/\A.hp (O.next+1)=some (.cells [.func (.func F0) [] Ki])/\A.hp O3.next=some (.cells [.func (.func 60) [] [.ptr O2.next 0,.ptr O.next 0,.ptr (O.next+1) 0,.ptr O3.next 0]])) BX hcd (fun X A h=>h.2.2)
  (fun X A k ⟨h1,h2,h3,h4,h5,h6,h7⟩ hk=>VF.mono (fun r A' h=>by
   cases r with
   | panic m=>exact h
   | ret m=>exact⟨h.1,hSg _ _ _ h1 h.2,ah0 h2 h.2.next,h.2.at h3,h.2.at h4,h.2.at h5,h.2.at h6,h.2.at h7⟩) (LQ X A k h1 hk))
  (fO L p L.length 0) (fun X A k ⟨h1,h2,h3,h4,h5,h6,h7⟩ hk hp hZ=>VF.mono (fun r A' h=>by
   cases r with
   | panic m=>exact h
   | ret m=>
     obtain⟨g1,g2,g3⟩:=h;exact⟨g1,ah0 h2 g2,g3 _ _ (by omega) h3 (by omega),g3 _ _ (by omega) h4 (by omega),g3 _ _ (by omega) h5 (by omega),g3 _ _ (by omega) h6 (by omega),g3 _ _ (by omega) h7 (by omega)⟩) (hdo X A k h1 hk hp hZ))
  L.length 0 [] [] O5 (by simp) h0 (by omega) ⟨hs5,XN _,oa,qB,fz,cZ,J5⟩
 simp only[aq]at hw;have e9:decide ((L.length:Int)>0)=true:=decide_eq_true (by omega);have e8:decide ((0:Int)<L.length)=true:=e9;refine WC.sound aa (c_ @bg @gP (yP e9 e8) @J5 ?_);refine ah.rt hw ?_;rintro _ O6 ⟨Fa,_⟩;refine ae @bg ?_;simpa using Fa
set_option linter.defProp false in
def bK:=yP bg<|yP T89<|yP VA Vz
abbrev XI:=List (Int×Ch×Nat)
def qu (M:XI):uB:=M.map fun p=>(mi p.1,.agg (jz p.2.1),p.2.2)
def uu (k:Int):XI->Option Ch
 | []=>none
 | p::M=>if k==p.1 then some p.2.1 else uu k M
theorem Kj (k:Int):∀(M:XI) (i:Nat),∃j,pC (.int .i64) (mi k) (qu M) i=some ((uu k M).map fun c=>(j,.agg (jz c)))
 | [],i=>⟨0,rfl⟩
 | p::M,i=>by
   obtain⟨j,hj⟩:=Kj k M (i+1)
   have e:pC (.int .i64) (mi k) (qu (p::M)) i=match(if IntKind.i64=IntKind.i64 then some (k==p.1)else none)with
    | some true=>some (some (i,.agg (jz p.2.1)))
    | some false=>pC (.int .i64) (mi k) (qu M) (i+1)
    | none=>none:=rfl
   rw[e,if_pos rfl,uu];cases h:k==p.1
   ·exact⟨j,by simpa using hj⟩
   ·exact⟨i,rfl⟩
theorem TI {tab:bY} {O:VH} {t kt et:TypeId} {a b' c d:Nat} {z y:List MV} {b ck:Nat} {M:XI} {k:Int} {ok:Bool} {te:cy} {zm:MV} (h:tab t=some ⟨.map kt et,a,b',z⟩) (hk:tab kt=some ⟨.int .i64,c,d,y⟩) (he:tab et=some te) (hz:wF te=some zm) (hb:O.hp b=some (.map (qu M) ck)):
  gL tab O t (.map b) (.v (.int .i64 k)) ok=some (uf ok zm ((uu k M).map fun c=>.agg (jz c))):=by
 obtain⟨j,hj⟩:=Kj k M 0;rw[aq]at hj;unfold gL;simp only[h,hk,he,ahZ,mapOf,hb,Option.bind_some,hj,xw,decide_true];cases uu k M with
 | none=>
   simp only[ah6,hz,ahZ];cases ok<;>rfl
 | some c=>cases ok<;>rfl
theorem ahU {tab:bY} {O:VH} {t kt et:TypeId} {a b' c d:Nat} {z y:List MV} {b ck:Nat} {M:XI} {k:Int} {v:Ch} (h:tab t=some ⟨.map kt et,a,b',z⟩) (hk:tab kt=some ⟨.int .i64,c,d,y⟩) (hb:O.hp b=some (.map (qu M) ck)) (fG:uu k M=none):
  dT tab O t (.map b) (.v (.int .i64 k)) (.agg (jz v))=some (O.set b (.map (qu (M++[(k,v,ck)])) (ck+1))):=by
 obtain⟨j,hj⟩:=Kj k M 0;rw[aq,fG]at hj;unfold dT;simp only[h,hk,ahZ,hb,hj,xw,decide_true,ah6];simp[qu,aq]
set_option maxHeartbeats 4000000 in
theorem ahV (X:List Ch) (tk:Tok) (O:VH) (hX:X.length<=100000):VF Tryz.prog 43 [.sl X.length (X.flatMap jz) tk] O (aE fun m O'=>m= .map O.next/\O.Ge O'/\O.next<O'.next/\∃M c,O'.hp O.next=some (.map (qu M) c)):=by
 have hlen:=aQ qk X;have gP:gZ (eh Tryz.prog) 36 (.sl X.length (X.flatMap jz) tk)=some (.v (.int .i64 X.length)):=fj Vz;refine VF.bN 30 [.tmp 2] Tryz.func43 ?_;refine VC.ag aa (ae @bK ?_);refine VC.ag aa (ae @bK ?_);refine VC.gen ?_;intro O1 e1;have aM:O.Ge O1:=by rw[e1];exact VH.Ge.push (VH.Ge.refl _) _
 have cW:O1.next=O.next+1:=by rw[e1];rfl
 have JE:O1.hp O.next=some (.map (qu []) 0):=by rw[e1];exact VH.aW _ _
 clear e1;refine VC.bC [3] (fun _:Unit=>[.map O.next]) (fun _ O'=>O.Ge O'/\O.next<O'.next/\∃M c,O'.hp O.next=some (.map (qu M) c)) ?_ ?_
 ·refine VC.ag aa (ao @bK @gP ?_);refine VC.az ?_;refine VC.bG [11] [3,9,10] (fun j:Nat=>[mi j]) (fun j O'=>j<=X.length/\O.Ge O'/\O.next<O'.next/\∃M c,O'.hp O.next=some (.map (qu M) c)) (fun j=>X.length - j) (0) ?_ ?_
  ·exact⟨agr _,aM,by omega,[],0,JE⟩
  rintro j O3 ⟨hj,aG,gm,M,ck,GD⟩;by_cases aX:j<X.length;rotate_left
  ·obtain rfl:j=X.length:=by omega
   refine WC.sound aa (ae @bK ?_);exact aA.mk () ⟨aG,gm,M,ck,GD⟩
  have cT:((j:Int)+1)=((j+1:Nat):Int):=by omega
  have bw:=bU qk X j aX;generalize X[j]=c at*;obtain⟨⟨k1,k2,k3,k4⟩,at',v,s⟩:=c;simp only[jz,aq]at bw;refine VC.ag aa (ae @bK ?_);refine VC.ag aa (ae @bK ?_);refine VC.bB (VC.az ?_);refine VC.ag aa (ao @bK @bw ?_);refine VC.al ?_;rintro O4 ⟨aY,eA,gI⟩;have Fv:=aY.at GD;have ey:gL (eh Tryz.prog) O4 89 (.map O.next) (.v (.int .i64 at')) true=some (uf true (.agg [.str [],.str [],.str [],.str [],.v (.int .i64 0),.str [],.v (.int .i64 0)]) ((uu at' M).map fun c=>.agg (jz c))):=TI T89 T3 VA.1.1 rfl Fv;have mQ:uu at' M=none->∀A:VH,A.hp O.next=some (.map (qu M) ck)->dT (eh Tryz.prog) A 89 (.map O.next) (.v (.int .i64 at')) (.agg [.str k1,.str k2,.str k3,.str k4,.v (.int .i64 at'),.str v,.v (.int .i64 s)])=some (A.set O.next (.map (qu (M++[(at',⟨⟨k1,k2,k3,k4⟩,at',v,s⟩,ck)])) (ck+1))):=fun h A hA=>ahU (v:=⟨⟨k1,k2,k3,k4⟩,at',v,s⟩) T89 T3 hA h
  cases hl:uu at' M with
  | none=>
    rw[hl]at ey;simp only[ah6,Aa]at ey;have akx:=mQ hl;clear mQ;refine VC.ag aa (aJ @bK @eA @ey ?_);refine VC.al ?_;rintro O5 ⟨bH,lz,fS⟩;have xn:=bH.at Fv;have aky:=bH.at eA;have oa:=akx O5 xn;refine WC.sound aa (aJ @bK @aky @oa ?_);refine WC.sound aa (ao @bK @cT ?_);refine ax.next (j+1) ⟨aX,(aG.trans (aY.trans bH)).set (XN _) _,?_,_,_,VH.an _ _ _⟩;show O.next<O5.next;omega
  | some c2=>
    obtain⟨⟨q1,q2,q3,q4⟩,qt,qv,qs⟩:=c2;rw[hl]at ey;simp only[ahZ,I8,jz,aq]at ey;clear mQ;refine VC.ag aa (aJ @bK @eA @ey ?_);refine VC.al ?_;rintro O5 ⟨bH,lz,fS⟩;have xn:=bH.at Fv;refine WC.sound aa (ae @bK ?_);refine WC.sound aa (ao @bK @cT ?_);exact ax.next (j+1) ⟨aX,aG.trans (aY.trans bH),by omega,M,ck,xn⟩
 rintro _ O9 ⟨bo,BN,M,ck,NQ⟩;refine WC.sound aa (ae @bK ?_);exact⟨bo,BN,M,ck,NQ⟩
theorem aeH (M:XI) (ck k bm kb:Nat) (O:VH) (h1:O.hp bm=some (.cells [.map kb])) (h2:O.hp kb=some (.map (qu M) ck)):
  VF Tryz.prog 44 [mi k,.ptr bm 0] O (aE fun m O'=>m=mb (uu k M).isSome/\O.Ge O'):=by
 have ey:gL (eh Tryz.prog) O 89 (.map kb) (.v (.int .i64 k)) true=some (uf true (.agg [.str [],.str [],.str [],.str [],.v (.int .i64 0),.str [],.v (.int .i64 0)]) ((uu k M).map fun c=>.agg (jz c))):=TI T89 T3 VA.1.1 rfl h2;rw[aq];refine VF.bN 13 [.tmp 3] Tryz.func44 ?_;refine VC.ag aa (ae @bK ?_);cases hl:uu k M with
 | none=>
   rw[hl]at ey;simp only[ah6,Aa]at ey;refine VC.ag aa (aJ @bK @h1 @ey ?_);refine VC.al ?_;rintro O5 ⟨bH,lz,fS⟩;refine WC.sound aa (ae @bK ?_);exact bH
 | some c2=>
   obtain⟨⟨q1,q2,q3,q4⟩,qt,qv,qs⟩:=c2;rw[hl]at ey;simp only[ahZ,I8,jz,aq]at ey;refine VC.ag aa (aJ @bK @h1 @ey ?_);refine VC.al ?_;rintro O5 ⟨bH,lz,fS⟩;refine WC.sound aa (ae @bK ?_);exact bH
theorem aeI (X:List Int) (k:Nat) (t:Tok) (ko B:Nat) (O:VH) (ho:O.hp ko=some (.cells [.sl X.length (X.map mi) t])) (hX:X.length<=1000000) (hk:ko<O.next) (cC:App O B 1 t) (hB:B<=O.next) (gu:ko<B):
  VF Tryz.prog 46 [mi k,.ptr ko 0] O (aE fun _ O'=>∃t',O'.hp ko=some (.cells [.sl (X++[(k:Int)]).length ((X++[(k:Int)]).map mi) t'])/\App O' B 1 t'/\O.next<=O'.next/\∀i x,x≠ .tok->i<O.next->i≠ko->O.hp i=some x->O'.hp i=some x):=by
 have mT:=bj (tk:=t) (tk':=.full) (n:=X.length) (k:=1) (cs:=X.map mi) (ds:=[.v (.int .i64 k)]) ZP T3 cC (by rw[TP,Nat.mul_one]) rfl rfl (by decide) (by decide) (by omega) (by simp only[maxLen];omega);simp only[aq]at ho mT ⊢;refine VF.bN 7 [] Tryz.func46 ?_;refine WC.sound aa (ao @bK @ho ?_);refine VL.app mT ?_;have De:=VH.mu cC ho (by simp) (by omega);have gm:=VH.dU O t;have dz:∀i x,x≠cf.tok->i<O.next->O.hp i=some x->(O.after t).hp i=some x:=fun i x hx hi h=>VH.mu cC h hx (by omega)
 have gV:App (O.after t) B 1 (.own O.next 1):=App.after (by omega);generalize O.after t=A3 at*;refine ao @bK @De ?_;refine⟨.own O.next 1,?_,?_,?_,?_⟩
 ·rw[ah5,Km];rfl
 ·exact⟨gV.1,(VH.ak _ _ (by have:=gV.2.2.2;intro e;have h9:=gV.2.1;rw[e,De]at h9;cases h9)).trans gV.2.1,gV.2.2⟩
 ·show O.next<=A3.next;omega
 ·intro i x hx hi hne h;rw[VH.ak _ _ hne];exact dz i x hx hi h
set_option maxHeartbeats 4000000 in
theorem XJ (tk:Tok) (fin F0:FuncId) (cin Ki:List MV) (O:VH):VF Tryz.prog 45 [.sl 0 [] tk,.func (.func fin) [] cin,.func (.func F0) [] Ki] O (aE fun _ O'=>O.Ge O'):=by
 have gP:gZ (eh Tryz.prog) 22 (.sl 0 [] tk)=some (.v (.int .i64 0)):=fj xh;refine VF.bN 16 [] Tryz.func45 ?_;refine VC.ag aa (ae @bg ?_);refine VC.gen ?_;intro O1 e1;obtain⟨aM,cW,cJ,cA⟩:=gj _ _ e1;clear e1;refine VC.ag aa (ae @bg ?_);refine ah.rt (Ob [] tk O1 (by decide)) ?_;rintro _ O2 ⟨T,rfl,ay,iq,fl⟩;refine ae @bg ?_;refine VC.al ?_;rintro O3 ⟨aG,cP,gm⟩;refine VC.ag aa (ae @bg ?_);refine VC.bx ?_;rintro O4 ⟨aY,XH,gI⟩;refine VC.ag aa (ao @bg @XH ?_);refine VC.gen ?_;intro O5 e5;have jn:O.Ge O5:=by rw[e5];exact(aM.trans (ay.trans (aG.trans aY))).set (by have:=ay.next;omega) _
 refine WC.sound aa (ao @bg @gP ?_);exact jn
def oy (L:List Bn) (u k:Nat):Bool:=match L[k]? with
 | some b=>wa u k b
 | none=>false
theorem CJ (L:List Bn) (u:Nat):∀j,(dC L u j).map Int.toNat=(List.range j).filter (oy L u)
 | 0=>rfl
 | j+1=>by
   rw[dC,ah5,CJ L u j,List.range_succ,List.filter_append]
   congr 1
   cases h:L[j]? with
   | none=>simp[oy,h]
   | some b=>
     cases hb:wa u j b<;>simp[oy,h,hb]
theorem Ok {L:List Bn} {u k:Nat} (h:oy L u k=true):∃b,L[k]?=some b/\b.up=u:=by
 unfold oy at h;cases hk:L[k]? with
 | none=>rw[hk]at h;cases h
 | some b=>
   rw[hk]at h;simp only[wa,alG,decide_eq_true_eq]at h;exact⟨b,rfl,h.2.1⟩
theorem Is {L:List Bn} {u v k:Nat} (h:oy L u k=true) (h2:oy L v k=true):u=v:=by
 obtain⟨b,h3,h4⟩:=Ok h;obtain⟨b2,h5,h6⟩:=Ok h2;rw[h3]at h5;injection h5 with h5;subst h5;omega
def AY (L:List Bn) (p:Nat->Bool) (u:Nat):List Nat:=((List.range L.length).filter (oy L u)).filter p
theorem Ol (L:List Bn) (k:Nat):∀S:List Nat,S.Nodup->(S.filter fun u=>oy L u k).length<=1
 | [],_=>by simp
 | u::S,h=>by
   obtain⟨h1,h2⟩:=ah4.1 h;rw[alI];split
   ·rename_i hu;have:S.filter (fun u=>oy L u k)=[]:=List.filter_eq_nil_iff.2 fun v hv hk=>h1 (by rw[Is hu hk];exact hv)
    rw[this];simp
   ·exact Ol L k S h2
theorem Om (L:List Bn) (S:List Nat) (hS:S.Nodup):∀j,(S.flatMap fun u=>(List.range j).filter (oy L u)).length<=j
 | 0=>by
   have:(S.flatMap fun u=>(List.range 0).filter (oy L u))=[]:=alJ.2 fun _ _=>rfl
   rw[this];simp
 | j+1=>by
   have ih:=Om L S hS j;have h1:=Ol L j S hS
   have e:∀T:List Nat,(T.flatMap fun u=>(List.range (j+1)).filter (oy L u)).length=(T.flatMap fun u=>(List.range j).filter (oy L u)).length+(T.filter fun u=>oy L u j).length:=fun T=>by
    induction T with
    | nil=>rfl
    | cons u T iht=>
      rw[acs,acs,Km,Km,iht,List.range_succ,List.filter_append,Km,alI (xs:=T)];cases h:oy L u j<;>simp[h]<;>omega
   rw[e];omega
theorem XK (L:List Bn) (p:Nat->Bool) (S:List Nat) (hS:S.Nodup):(S.flatMap (AY L p)).length<=L.length:=by
 refine ah0 ?_ (Om L S hS L.length);clear hS;induction S with
 | nil=>simp
 | cons u S ih=>
   rw[acs,acs,Km,Km];have:=List.length_filter_le p ((List.range L.length).filter (oy L u));unfold AY at ih ⊢;omega
theorem On (L:List Bn) (p:Nat->Bool) (S:List Nat) (hS:S.Nodup):(S.flatMap (AY L p)).Nodup:=by
 refine List.pairwise_flatMap.2 ⟨fun u _=>(List.nodup_range.filter _).filter _,List.Pairwise.imp ?_ hS⟩;intro u v hne x hx y hy e;subst e;simp only[AY,List.mem_filter]at hx hy;exact hne (Is hx.1.2 hy.1.2)
theorem RW (L:List Bn) (p:Nat->Bool) (f u:Nat):(fO L p (f+1) u).length=(AY L p u).length+((AY L p u).flatMap (fO L p f)).length:=by
 rw[fO,AY, <-CJ];generalize dC L u L.length=K;induction K with
 | nil=>rfl
 | cons k K ih=>
   rw[acs,Km,ih,agw,alI];cases h:p k.toNat
   ·simp
   ·simp[acs];omega
theorem It (L:List Bn) (p:Nat->Bool):∀(f:Nat) (S:List Nat),S.Nodup->(S.flatMap (fO L p f)).length<=f*L.length
 | 0,S,_=>by
   have:S.flatMap (fO L p 0)=[]:=alJ.2 fun _ _=>rfl
   rw[this];simp
 | f+1,S,hS=>by
   have ih:=It L p f _ (On L p S hS);have h1:=XK L p S hS
   have e:∀T:List Nat,(T.flatMap (fO L p (f+1))).length=(T.flatMap (AY L p)).length+((T.flatMap (AY L p)).flatMap (fO L p f)).length:=fun T=>by
    induction T with
    | nil=>rfl
    | cons u T iht=>
      rw[acs,acs,Km,Km,iht,RW,agx,Km];omega
   rw[e,Nat.succ_mul];omega
theorem Iu (L:List Bn) (p:Nat->Bool) (f u:Nat):(fO L p f u).length<=f*L.length:=by
 have:=It L p f [u] (by simp);simpa using this
set_option maxHeartbeats 4000000 in
theorem ack (L:List Bn) (X:List Ch) (tk tx:Tok) (hL:L.length<=60) (hX:X.length<=1000) (O:VH):
  VF Tryz.prog 26 [.sl L.length (L.flatMap dZ) tk,.sl X.length (X.flatMap jz) tx] O (aE fun m O'=>∃p t,m= .sl (fO L p L.length 0).length ((fO L p L.length 0).map mi) t):=by
 refine VF.bN 15 [.cell 4 28] Tryz.func26 ?_;refine VC.ag aa (ae @bK ?_);refine VC.bx ?_;rintro O1 ⟨aM,Ji,cW⟩;refine VC.ag aa (ae @bK ?_);refine ah.rt (ahV X tx O1 (by omega)) ?_;rintro _ O2 ⟨rfl,ay,iq,M,ck,hm2⟩;refine ae @bK ?_;refine VC.al ?_;rintro O3 ⟨aG,cg,gm⟩;have De:=aG.at (ay.at Ji);have GD:=aG.at hm2;refine VC.ag aa (ae @bK ?_);have akz:=Iu L (fun k=>(uu k M).isSome) L.length 0;have rT:L.length*L.length<=60*60:=Nat.mul_le_mul hL hL
 have hw:VF Tryz.prog 45 [.sl L.length (L.flatMap dZ) tk,.func (.func 44) [] [.ptr O2.next 0],.func (.func 46) [] [.ptr O.next 0]] O3 (aE fun _ O'=>∃t,O'.hp O.next=some (.cells [.sl (fO L (fun k=>(uu k M).isSome) L.length 0).length ((fO L (fun k=>(uu k M).isSome) L.length 0).map mi) t])):=by
  by_cases h0:0<L.length;rotate_left
  ·obtain rfl:L=[]:=List.length_eq_zero_iff.1 (by omega);refine VF.mono ?_ (XJ tk _ _ _ _ O3);rintro(m | m) A' h;rotate_left
   ·exact h
   exact⟨.nil,(VH.Ge.at h De (by omega))⟩
  refine VF.mono ?_ (Oj L tk (by omega) h0 (fun k=>(uu k M).isSome) 44 46 [.ptr O2.next 0] [.ptr O.next 0] (fun Y A=>∃t,A.hp O.next=some (.cells [.sl Y.length (Y.map mi) t])/\App A O3.next 1 t/\O3.next<=A.next/\A.hp O2.next=some (.cells [.map O1.next])/\A.hp O1.next=some (.map (qu M) ck)) O3 (by kernel_rfl) (by kernel_rfl)
   ⟨.nil,De,trivial,XN _,cg,GD⟩
   (fun Y A C ⟨t,g1,g2,g3,g4,g5⟩ hg=>⟨t,hg.at g1,g2.ge hg,ah0 g3 hg.next,hg.at g4,hg.at g5⟩)
   (fun Y A k ⟨t,g1,g2,g3,g4,g5⟩ hk=>aeH M ck k O2.next O1.next A g4 g5)
   (fun Y A k ⟨t,g1,g2,g3,g4,g5⟩ hk _ ⟨Z,hZ⟩=>by
    have hYl:Y.length<=1000000:=by
     rw[hZ,Km]at akz;omega
    refine VF.mono ?_ (aeI Y k t O.next O3.next A g1 hYl (by omega) g2 (by omega) (by omega));rintro(m | m) A' h;rotate_left
    ·exact h
    obtain⟨t',q1,q2,q3,q4⟩:=h;exact⟨⟨t',q1,q2,by omega,q4 _ _ (by simp) (by omega) (by omega) g4,q4 _ _ (by simp) (by omega) (by omega) g5⟩,q3,fun i cs h1 h2 h3=>q4 i _ (by simp) h3 (by omega) h2⟩))
  rintro(m | m) A' h;rotate_left
  ·exact h
  obtain⟨t,g1,_⟩:=h;exact⟨t,g1⟩
 obtain⟨R,hR⟩:∃R,R=fO L (fun k=>(uu k M).isSome) L.length 0:=⟨_,rfl⟩
 rw[<-hR]at hw;refine VC.ag aa (ae @bK ?_);refine ah.rt hw ?_;clear hw;rintro _ O5 ⟨t,g1⟩;refine ae @bK ?_;refine VC.ag aa (ao @bK @g1 ?_);refine WC.sound aa (ae @bK ?_);exact⟨fun k=>(uu k M).isSome,t,by rw[hR]⟩
section
variable {G H:Gh} {n:Sz} {D:List Deferred} {e:Env} {P:Program} {tab:bY} {O:VH} {Q:VQ} {ops:Array Oper}
def JF3 (k0 k1 k2:Nat) (X0 X1 X2:Obj) (J0:VH->Prop) (A:VH):Prop:=A.hp k0=some (.obj X0)/\A.hp k1=some (.obj X1)/\A.hp k2=some (.obj X2)/\J0 A
def PF3 (c0 c1 c2:List MV) (X0 X1 X2:Obj) (G:Gh):Prop:=iH c0 X0 G/\iH c1 X1 G/\iH c2 X2 G
theorem VC.aeJ {id:Nat} (brk:List Nat) (k0 k1 k2:Nat) (J0:VH->Prop) {c0 c1 c2:List MV} (h0:O.hp k0=some (.cells c0)) (h1:O.hp k1=some (.cells c1)) (h2:O.hp k2=some (.cells c2)) (n1:k1≠k0) (n2:k2≠k0) (n3:k2≠k1)
  (hJ:∀X0 X1 X2,J0 (((O.set k0 (.obj X0)).set k1 (.obj X1)).set k2 (.obj X2)))
  (h:∀X0 X1 X2,ab P n D ops brk (JF3 k0 k1 k2 X0 X1 X2 J0) (PF3 c0 c1 c2 X0 X1 X2) True ops.size (Array.replicate ops.size false) e (((O.set k0 (.obj X0)).set k1 (.obj X1)).set k2 (.obj X2)) Q) (hm:P.follows .mixedOrders=true:=by kernel_rfl):VC P n D (.region id ops true) e O Q:=
 fun G a w hw hf=>by
  obtain⟨X0,hx0,hw0⟩:=(hw.drawn _).fix h0;obtain⟨X1,ez,Es⟩:=hw0.fix (k:=k1) (cs:=c1) ((VH.ak _ _ n1).trans h1);obtain⟨X2,jc,qx⟩:=Es.fix (k:=k2) (cs:=c2) ((VH.ak _ _ n3).trans ((VH.ak _ _ n2).trans h2))
  exact wp_region_any hm (jF _ _ _ _ (h X0 X1 X2 (fun _ _ hl hx=>⟨iH.mono hl hx.1,iH.mono hl hx.2.1,iH.mono hl hx.2.2⟩) trivial
   ⟨(VH.ak _ _ (Ne.symm n2)).trans ((VH.ak _ _ (Ne.symm n1)).trans (VH.an _ _ _)),(VH.ak _ _ (Ne.symm n3)).trans (VH.an _ _ _),VH.an _ _ _,hJ _ _ _⟩ G a _ ⟨hx0,ez,jc⟩ qx hf))
theorem ab.aeK (ix:List (Nat×Fl)) {brk:List Nat} {k0 k1 k2:Nat} {c0 c1 c2:List MV} {X0 X1 X2:Obj} {J0:VH->Prop} {fuel:Nat} {listed:Array Bool} {l:List Oper} {L:List (Fl×Oper)} (n1:k1≠k0) (n2:k2≠k0) (n3:k2≠k1)
  (h:WL P tab n D .any ⟨l⟩ Q L e (((O.set k0 (.cells c0)).set k1 (.cells c1)).set k2 (.cells c2))) (ht:aL P tab:=by exact aa) (hb:((List.range listed.size).all fun j=>listed.getD j true||brk.contains j)=true:=by kernel_rfl) (hs:Region.noSelect ⟨l⟩=true:=by kernel_rfl) (hp:cH .any ⟨l⟩ fuel listed ix=true:=by kernel_rfl) (hL:mW l ix=some L:=by exact rfl):ab P n D ⟨l⟩ brk (JF3 k0 k1 k2 X0 X1 X2 J0) (PF3 c0 c1 c2 X0 X1 X2) True fuel listed e O Q:=by
 have h':=cn.bO ix h (ht:=ht) (hs:=hs) (hp:=hp) (hL:=hL);intro hΨ hZ hJ G a w hψ hw aU;refine k_ _ _ _ _ (fun j hj x hs=>⟨hs,fun hh=>?_⟩) (h' G a w (((hw.rU hJ.1 hψ.1).rU (k:=k1) ((VH.ak _ _ n1).trans hJ.2.1) hψ.2.1).rU (k:=k2) ((VH.ak _ _ n3).trans ((VH.ak _ _ n2).trans hJ.2.2.1)) hψ.2.2) aU);rcases Nat.lt_or_ge j listed.size with hl | hl
 ·have:=List.all_eq_true.1 hb j (List.mem_range.2 hl);rw[hj,Bool.false_or]at this;rw[this]at hh;cases hh
 ·rw[Array.getD_eq_getD_getElem?,Array.getElem?_eq_none (by simpa using hl)]at hj;cases hj
end
set_option maxHeartbeats 4000000 in
theorem TK (L:List Bn) (X:List Ch) (tk tx:Tok) (k:Nat) (b:Bn) (hb:L[k]?=some b) (hL:L.length<=1000) (s:Bs) (R:List Bs) (hR:R.length<=1000) (t:Tok) (ko kl kc B:Nat) (O:VH) (ho:O.hp ko=some (.cells [.sl R.length (R.map .str) t])) (hl:O.hp kl=some (.cells [.sl L.length (L.flatMap dZ) tk])) (hc:O.hp kc=some (.cells [.sl X.length (X.flatMap jz) tx]))
  (n1:kl≠ko) (n2:kc≠ko) (n3:kc≠kl) (hk:ko<O.next/\kl<O.next/\kc<O.next) (cC:App O B 1 t) (hB:B<=O.next) (F1:∀A,VF Tryz.prog 55 [.agg (dZ b),mi k,.sl X.length (X.flatMap jz) tx] A (aE fun m A'=>m= .str s/\A.Ge A')):
  VF Tryz.prog 54 [mi k,.ptr ko 0,.ptr kl 0,.ptr kc 0] O (aE fun _ O'=>∃t',O'.hp ko=some (.cells [.sl (R.length+1) ((R++[s]).map .str) t'])/\App O' B 1 t'/\O.next<=O'.next/\∀i cs,i<O.next->i≠ko->O.hp i=some (.cells cs)->O'.hp i=some (.cells cs)):=by
 have hlen:=aQ dX L;obtain⟨kj,hbe⟩:=RZ.1 hb;have bw:=bU dX L k kj;rw[hbe]at bw;obtain⟨up,dp,od,⟨q1,q2,q3,q4⟩,v,hd,rv,nn,iv,xr,sc,rd⟩:=b;simp only[dZ,aq,a_]at bw F1;rw[aq];obtain⟨h0,h1,h2⟩:=hk;refine VF.bN 15 [] Tryz.func54 ?_;refine VC.aeJ [9,10] ko kl kc (fun A=>O.next<=A.next/\∀i,i<O.next->i≠ko->i≠kl->i≠kc->A.hp i=O.hp i) ho hl hc n1 n2 n3 (fun X0 X1 X2=>⟨XN _,fun i _ g1 g2 g3=>by rw[VH.ak _ _ g3,VH.ak _ _ g2,VH.ak _ _ g1]⟩) ?_;intro X0 X1 X2;obtain⟨A,hA⟩:∃A,A=((O.set ko (.obj X0)).set kl (.obj X1)).set kc (.obj X2):=⟨_,rfl⟩
 have hJA:JF3 ko kl kc X0 X1 X2 (fun A=>O.next<=A.next/\∀i,i<O.next->i≠ko->i≠kl->i≠kc->A.hp i=O.hp i) A:=by
  rw[hA];exact⟨(VH.ak _ _ (Ne.symm n2)).trans ((VH.ak _ _ (Ne.symm n1)).trans (VH.an _ _ _)),(VH.ak _ _ (Ne.symm n3)).trans (VH.an _ _ _),VH.an _ _ _,XN _,fun i _ g1 g2 g3=>by rw[VH.ak _ _ g3,VH.ak _ _ g2,VH.ak _ _ g1]⟩
 rw[<-hA];clear hA;refine ab.oe (m:=.sl R.length (R.map .str) t) 0 (fun _ h=>h.1) (fun _ h=>h.1) ?_ ?_
 ·exact fe @bg
 simp only[aj];refine ab.oe (m:=.sl L.length (L.flatMap dZ) tk) 1 (fun _ h=>h.2.1) (fun _ h=>h.2.1) ?_ ?_
 ·exact fe @bg
 simp only[aj];refine ab.av 2 ?_;refine ae @bg ?_;refine ab.av 3 ?_;refine ae @bg ?_;refine ab.av 4 ?_;refine ao @bg @bw ?_;refine ab.av 5 ?_;refine ae @bg ?_;refine ab.oe (m:=.sl X.length (X.flatMap jz) tx) 6 (fun _ h=>h.2.2.1) (fun _ h=>h.2.2) ?_ ?_
 ·exact fe @bg
 simp only[aj];refine ab.call (i:=7) (F1 A) ?_;rintro _ A1 ⟨rfl,aM⟩;simp only[aj];have cW:=aM.next;have Xp:=hJA.2.2.2;have ns:JF3 ko kl kc X0 X1 X2 (fun A=>O.next<=A.next/\∀i,i<O.next->i≠ko->i≠kl->i≠kc->A.hp i=O.hp i) A1:=⟨aM.at hJA.1,aM.at hJA.2.1,aM.at hJA.2.2.1,by omega,fun i hi g1 g2 g3=>(aM.hp i (by omega)).trans (Xp.2 i hi g1 g2 g3)⟩;refine⟨ns,?_⟩;refine ab.op (i:=8) ?_;refine ae @bg ?_;refine⟨ns,?_⟩;refine ab.aeK [(9,.one),(10,.one)] n1 n2 n3 ?_;refine WL.gen ?_;intro A2 e2;have Qj:A2.hp ko=some (.cells [.sl R.length (R.map .str) t]):=by rw[e2,VH.ak _ _ (Ne.symm n2),VH.ak _ _ (Ne.symm n1),VH.an]
 have ay:O.Ge A2:=by
  refine⟨by rw[e2];exact ns.2.2.2.1,fun i hi=>?_⟩;rw[e2];by_cases g3:i=kc
  ·subst g3;rw[VH.an,hc]
  ·rw[VH.ak _ _ g3];by_cases g2:i=kl
   ·subst g2;rw[VH.an,hl]
   ·rw[VH.ak _ _ g2];by_cases g1:i=ko
    ·subst g1;rw[VH.an,ho]
    ·rw[VH.ak _ _ g1];exact ns.2.2.2.2 i hi g1 g2 g3
 clear e2 ns hJA Xp aM cW;have vQ:=cC.ge ay;have iq:=ay.next;have mT:=bj (tk:=t) (tk':=.full) (n:=R.length) (k:=1) (cs:=R.map .str) (ds:=[.str s]) xi T9 vQ (by rw[TP,Nat.mul_one]) rfl rfl (by decide) (by decide) (by omega) (by simp only[maxLen];omega);refine ae @bg ?_;refine VL.app mT ?_;have De:=VH.mu vQ Qj (by simp) (by omega);have gm:=VH.dU A2 t;have dz:∀i cs,i<O.next->O.hp i=some (.cells cs)->(A2.after t).hp i=some (.cells cs):=fun i cs hi h=>VH.mu vQ (ay.at h (hk:=hi)) (by simp) (by omega)
 have gV:App (A2.after t) B 1 (.own A2.next 1):=App.after (by omega);generalize A2.after t=A3 at*;refine ao @bg @De ?_;refine⟨.own A2.next 1,?_,?_,?_,?_⟩
 ·rw[ah5];rfl
 ·exact⟨gV.1,(VH.ak _ _ (by have:=gV.2.2.2;intro e;have h9:=gV.2.1;rw[e,De]at h9;cases h9)).trans gV.2.1,gV.2.2⟩
 ·show O.next<=A3.next;omega
 ·intro i cs hi hne h;rw[VH.ak _ _ hne];exact dz i cs hi h
theorem acm (V:List Bool) (k:Nat) (hk:k<V.length) (n bl lb:Nat) (hn:V.length=n) (O:VH) (h1:O.hp bl=some (.cells [.bq lb 0 n n])) (h2:O.hp lb=some (.cells (V.map mb))):
  VF Tryz.prog 56 [mi k,.ptr bl 0] O (aE fun m O'=>m=mb (V.getD k false)/\O.Ge O'):=by
 have hg:(V.map mb)[k]?=some (.v (.bool (V.getD k false))):=by
  rw[XO,agu,Kn hk];rfl
 have ir:(V.map mb).length=n:=by rw[TP,hn]
 subst hn;rw[aq];refine VF.bN 8 [.tmp 3] Tryz.func56 ?_;refine VC.ag aa (ae @bg ?_);refine VC.ag aa (gQ @bg @h1 @h2 @ir @hg ?_);refine WC.sound aa (ae @bg ?_);exact VH.Ge.refl _
set_option maxHeartbeats 4000000 in
theorem XL (L:List Bn) (X:List Ch) (tk tx:Tok) (hL:L.length<=1000) (h0:0<L.length) (hk:∀b∈L,∀s∈eb b.k,s.length<=maxLen) (f:Nat->Bs) (F1:∀(k:Nat) (b:Bn) A,L[k]?=some b->VF Tryz.prog 55 [.agg (dZ b),mi k,.sl X.length (X.flatMap jz) tx] A (aE fun m A'=>m= .str (f k)/\A.Ge A')) (O:VH)
  (R:List Int) (hR:fO L (fun k=>(eD L).2.1.getD k false) L.length 0=R) (QT:R.length<=900):
  VF Tryz.prog 40 [.sl L.length (L.flatMap dZ) tk,.sl X.length (X.flatMap jz) tx] O (aE fun m O'=>∃t,m= .sl (R.length+1) ((f 0::R.map fun k=>f k.toNat).map .str) t/\O.next<=O'.next/\∀i cs,i<O.next->O.hp i=some (.cells cs)->O'.hp i=some (.cells cs)):=by
 have gP:gZ (eh Tryz.prog) 22 (.sl L.length (L.flatMap dZ) tk)=some (.v (.int .i64 L.length)):=fj xh;have r4:=Kn h0;have kf:=(pr L).2;refine VF.bN 20 [.cell 4 51] Tryz.func40 ?_;refine VC.ag aa (ae @bg ?_);refine VC.gen ?_;intro O1 e1;obtain⟨aM,cW,qg,fW,Ji⟩:=lP _ _ _ e1;clear e1;refine VC.ag aa (c_ @bg @qg @gP (show((L.length:Int)==0)=false from by rw[beq_eq_false_iff_ne];omega) ?_);refine VC.ag aa (ao @bg @qg ?_);refine ah.rt (aej L tk (by omega) hk O1) ?_;rintro _ O2 ⟨lb,rfl,ay,xe,hhi,ir⟩;generalize (eD L).2.1=V at*;refine ae @bg ?_;refine VC.al ?_;rintro O3 ⟨aG,cg,gm⟩;have n2:=ay.next;have lW:=aG.at (ay.at qg);have eN:=aG.at (ay.at fW);have De:=aG.at (ay.at Ji);have akA:=aG.at ir;refine VC.ag aa (ae @bg ?_);have ht:=TK L X tk tx 0 _ r4 hL (f 0) [] (by simp) .nil (O.next+2) O.next (O.next+1) O3.next O3 De lW eN (by omega) (by omega) (by omega) (by omega) trivial (XN _) (fun A=>F1 0 _ A r4);rw[aq]at ht;refine VC.ag aa (ae @bg ?_);refine ah.rt ht ?_;clear ht;rintro _ O4 ⟨t4,ho4,lV,gI,jq⟩;have ot:=jq _ _ (by omega) (by omega) lW;have ff:=jq _ _ (by omega) (by omega) eN;have cU:=jq _ _ (by omega) (by omega) cg;have akB:=jq _ _ (by omega) (by omega) akA;have hO4:∀i cs,i<O.next->O.hp i=some (.cells cs)->O4.hp i=some (.cells cs):=fun i cs hi h=>jq i cs (by omega) (by omega) (aG.at (ay.at (aM.at h)))
 refine ae @bg ?_
 have hw:=Oj L tk hL h0 (fun k=>V.getD k false) 56 54 [.ptr O2.next 0] [.ptr (O.next+2) 0,.ptr O.next 0,.ptr (O.next+1) 0] (fun Y A=>∃t,A.hp (O.next+2)=some (.cells [.sl (Y.length+1) ((f 0::Y.map fun k=>f k.toNat).map .str) t])/\App A O3.next 1 t/\O4.next<=A.next/\A.hp O.next=some (.cells [.sl L.length (L.flatMap dZ) tk])/\A.hp (O.next+1)=some (.cells [.sl X.length (X.flatMap jz) tx])/\A.hp O2.next=some (.cells [.bq lb 0 L.length L.length])/\A.hp lb=some (.cells (V.map mb))/\∀i cs,i<O.next->O.hp i=some (.cells cs)->A.hp i=some (.cells cs)) O4 (by kernel_rfl) (by kernel_rfl)
  ⟨t4,ho4,lV,XN _,ot,ff,cU,akB,hO4⟩
  (fun Y A C ⟨t,g1,g2,g3,g4,g5,g6,g7,g8⟩ hg=>⟨t,hg.at g1,g2.ge hg,ah0 g3 hg.next,hg.at g4,hg.at g5,hg.at g6,hg.at g7,fun i cs hi h=>hg.at (g8 i cs hi h)⟩)
  (fun Y A k ⟨t,g1,g2,g3,g4,g5,g6,g7,_⟩ hk=>acm V k (by omega) L.length O2.next lb kf A g6 g7)
  (fun Y A k ⟨t,g1,g2,g3,g4,g5,g6,g7,g8⟩ hk _ ⟨Z,hZ⟩=>by
   have hYl:Y.length<=900:=by
    rw[hR]at hZ;rw[hZ,Km]at QT;omega
   have hlen:(f 0::Y.map fun k=>f k.toNat).length=Y.length+1:=by simp
   have hb:=Kn hk;rw[<-hlen]at g1;refine VF.mono ?_ (TK L X tk tx k _ hb hL (f k) (f 0::Y.map fun k=>f k.toNat) (by omega) t (O.next+2) O.next (O.next+1) O3.next A g1 g4 g5 (by omega) (by omega) (by omega) (by omega) g2 (by omega) (fun A=>F1 k _ A hb));rintro(m | m) A' h;rotate_left
   ·exact h
   obtain⟨t',q1,q2,q3,q4⟩:=h;refine⟨⟨t',?_,q2,by omega,q4 _ _ (by omega) (by omega) g4,q4 _ _ (by omega) (by omega) g5,q4 _ _ (by omega) (by omega) g6,q4 _ _ (by omega) (by omega) g7,fun i cs hi h=>q4 i cs (by omega) (by omega) (g8 i cs hi h)⟩,q3,fun i cs h1 h2 h3=>q4 i cs h3 (by omega) h2⟩;rw[q1,hlen];simp)
 rw[hR]at hw;refine VC.ag aa (ao @bg @ot ?_);refine ah.rt hw ?_;clear hw;rintro _ O5 ⟨t,g1,g2,g3,g4,g5,g6,g7,g8⟩;refine ae @bg ?_;refine VC.ag aa (ao @bg @g1 ?_);refine WC.sound aa (ae @bg ?_);exact⟨t,rfl,by show O.next<=O5.next;omega,fun i cs hi h=>(VH.ak _ _ (by omega)).trans (g8 i cs hi h)⟩
def TL (rp:Bs) (b:Bn):Bs:=if dS b.s=[]then rp++(my b.k++[58]++b.v)else rp++(my b.k++[58]++b.v)++[32]++dS b.s
theorem Oo (n:Int):(dS n).length<=20:=by
 unfold dS;repeat' split
 all_goals simp
set_option maxHeartbeats 4000000 in
theorem TM (b:Bn) (i:Nat) (X:List Ch) (tx:Tok) (c:Ch) (rp:Bs) (hrp:(b.dp=0/\rp=[])\/(b.dp=1/\rp=[32,32])) (hX:X.length<=1000) (hc:X.find? (fun c=>ou c.k b.k)=some c) (hca:c.at'=(i:Int)) (gk:c.s=b.s) (GM:b.rd=false)
  (h1:b.k.g.length<=500) (h2:b.k.a.length<=500) (h3:b.k.t.length<=500) (h4:b.k.c.length<=500) (h5:b.v.length<=500) (O:VH):VF Tryz.prog 55 [.agg (dZ b),mi i,.sl X.length (X.flatMap jz) tx] O (aE fun m O'=>m= .str (TL rp b)/\O.Ge O'):=by
 obtain⟨up,dp,od,⟨k1,k2,k3,k4⟩,v,hd,rv,nn,iv,xr,s,rd⟩:=b;dsimp only at hrp hc gk GM h1 h2 h3 h4 h5;subst GM;have jC:=fun O'=>L6 ⟨k1,k2,k3,k4⟩ O' (by dsimp only;omega) (by dsimp only;omega) (by dsimp only;omega) (by dsimp only;omega)
 have dL:(my ⟨k1,k2,k3,k4⟩).length<=2100:=by
  unfold my;split<;>simp only[Km,acv,acu]<;>omega
 have hfi:=fun O'=>ael X tx ⟨k1,k2,k3,k4⟩ O' (by omega)
 rw[hc]at hfi;obtain⟨⟨c1,c2,c3,c4⟩,ca,cv,cs⟩:=c;dsimp only at hca gk;subst hca;subst gk
 have oJ:=Oo cs;have WQ:=fun O'=>Jg cs O'
 unfold TL;dsimp only;have j2:∀(p q m:Bs) (tk:Tok) (O':VH),p.length<=5000->q.length<=5000->m.length<=10->VF Tryz.prog 41 [.str m,.sl 2 [.str p,.str q] tk] O' (aE fun r kx=>r= .str (p++m++q)/\kx=O'):=fun p q m tk O' hp hq hm=>FY m 2 _ [p,q] tk _ O' rfl rfl (by simp[Lib.join]) (by simp) (by simp only[Km];omega)
 have cT:=fun O' tk=>j2 (my ⟨k1,k2,k3,k4⟩) v [58] tk O' (by omega) (by omega) (by decide)
 have vu:rp.length<=2:=by rcases hrp with⟨_,rfl⟩ | ⟨_,rfl⟩<;>decide
 have Oq:∀O',VF Tryz.prog 76 [.str [32,32],.v (.int .i64 (max dp 0))] O' (aE fun m kx=>m= .str rp/\kx=O'):=fun O'=>by
  rcases hrp with⟨rfl,rfl⟩ | ⟨rfl,rfl⟩
  ·exact aeE _ _
  ·exact aeF _ _
 clear hrp hc;simp only[dZ,fY,aq,a_,abP,jz]at jC hfi WQ ⊢;generalize my ⟨k1,k2,k3,k4⟩=pk at*;generalize hsw:dS cs=w at*;have aX:=fun O' tk=>j2 (rp++(pk++[58]++v)) w [32] tk O' (by simp only[Km,acv,acu];omega) (by omega) (by decide)
 refine VF.bN 82 [.tmp 6] Tryz.func55 ?_;refine VC.ag aa (ae @bg ?_);refine VC.bx ?_;rintro O1 ⟨aM,ez,cW⟩;refine VC.bB ?_;refine VC.mZ [11,12] ?_;refine ab.av 0 ?_;refine ae @bg ?_;refine ab.ld (m:=.v (.int .i64 dp)) 1 ?_ ?_
 ·exact dq @bg @ez
 simp only[aj];refine ab.av 2 ?_;refine ae @bg ?_;refine ab.av 4 ?_;refine ae @bg ?_;refine ab.ld (m:=.agg [.str k1,.str k2,.str k3,.str k4]) 5 ?_ ?_
 ·exact dq @bg @ez
 simp only[aj];refine ab.av 7 ?_;refine ae @bg ?_;refine ab.ld (m:=.str v) 8 ?_ ?_
 ·exact dq @bg @ez
 simp only[aj];refine ab.call (i:=3) (Oq O1) ?_;rintro _ Ox ⟨rfl,eO⟩;simp only[aj];rw[eO];clear eO Ox
 refine⟨VH.Ge.refl _,?_⟩;refine ab.call (i:=6) (jC O1) ?_;rintro _ O2 ⟨rfl,ay⟩;simp only[aj];refine⟨ay,?_⟩;refine ab.op (i:=9) ?_;refine ae @bg ?_;refine⟨ay,?_⟩;refine ab.call (i:=10) (cT O2 _) ?_;rintro _ Ox ⟨rfl,eO⟩;simp only[aj];rw[eO];clear eO Ox
 refine⟨ay,?_⟩;refine ab.bO [(11,.av),(12,.av)] ?_;refine ae @bg ?_;have jc:=ay.at ez;refine VC.bC [1,2,3,7] (fun _:Unit=>[.v (.int .i64 i),.sl X.length (X.flatMap jz) tx,.ptr O.next 0,.str (if w=[]then rp++(pk++[58]++v)else rp++(pk++[58]++v)++[32]++w)]) (fun _ O'=>O'=O2) ?_ ?_
 ·refine VC.ag aa (ao @bg @jc ?_);refine ah.rt (WQ O2) ?_;rintro _ Ox ⟨rfl,eO⟩;rw[eO];clear eO Ox
  refine ae @bg ?_;by_cases hw:w=[]
  ·have e1:(w==([]:Bs))=true:=by simp[hw]
   rw[if_pos hw];refine WC.sound aa (ao @bg @e1 ?_);exact aA.mk () rfl
  ·have e1:(w==([]:Bs))=false:=by simpa using hw
   rw[if_neg hw];refine WC.sound aa (ao @bg @e1 ?_);refine ah.rt (aX O2 _) ?_;rintro _ Ox ⟨rfl,eO⟩;rw[eO];clear eO Ox
   refine ae @bg ?_;exact aA.mk () rfl
 rintro _ Ox eO;rw[eO];clear eO Ox
 generalize (if w=[]then rp++(pk++[58]++v)else rp++(pk++[58]++v)++[32]++w)=s1 at*;refine VC.ag aa (ao @bg @jc ?_);refine ah.rt (hfi O2) ?_;rintro _ O3 ⟨aG,rfl⟩;refine ae @bg ?_;refine VC.al ?_;rintro O4 ⟨aY,Qs,gI⟩;have eA:=aY.at (aG.at jc (hk:=by have:=ay.next;omega)) (hk:=by have:=ay.next;have:=aG.next;omega);have jn:=aM.trans (ay.trans (aG.trans aY));refine VC.ag aa (gQ @bg @Qs @eA (show((i:Int)==i)=true from by simp) (show(cs != cs)=false from by simp) ?_);refine VC.ag aa (ao @bg @eA ?_);refine WC.sound aa (ae @bg ?_);exact jn
def Ot:List (Gv×List Dp):=[(gA,[GL [98] v1 0]),(⟨gS,[98],v1⟩,[])]
def TN:List Br:=[⟨-1,0,0,⟨gS,[97],qS,[]⟩,v1,0,false⟩,⟨0,1,0,⟨gS,[98],qS,[]⟩,v1,1,false⟩]
theorem akC:RJ (mK Ot) gA=some (some TN):=by kernel_rfl
def wg:List Bn:=TN.map bnB
theorem aeL:TN.flatMap qD=wg.flatMap dZ:=rfl
def Iv:List Ch:=[⟨⟨gS,[97],qS,[]⟩,0,v1,0⟩,⟨⟨gS,[98],qS,[]⟩,1,v1,1⟩]
theorem aeM:j7 wg=Iv:=by kernel_rfl
theorem akD:fO wg (fun k=>(eD wg).2.1.getD k false) wg.length 0=[1]:=by kernel_rfl
theorem Ou:Calm gA [GL [98] v1 0]:=⟨rfl,ahP,.one,by simp[aey ace],by simp[GL],by simp⟩
theorem Ov:Calm ⟨gS,[98],v1⟩ []:=⟨rfl,ace,.one,by simp,by simp,by simp⟩
theorem aeN:Plain Ot:=⟨by simp[Ot,Ou,Ov],by simp[Ot,gA,v1]⟩
def agp (k:Nat):Bs:=match k with
 | 0=>[103,58,97,58,106,97,114,58,49]
 | _=>[32,32,103,58,98,58,106,97,114,58,49,32,99,111,109,112,105,108,101]
def acn:Prop:=∀O:VH,VF Tryz.prog 21 [] O (aE fun m O'=>m=mb true)
set_option maxHeartbeats 4000000 in
theorem Ow:acn:=by
 intro O;refine VF.bN 50 [.tmp 0] Tryz.func21 ?_;refine VC.ag aa (ae @bg ?_);refine VC.ag aa (ae @bg ?_);refine ah.rt (adX O) ?_;rintro _ O1 ⟨rfl,th,aM⟩;have qg:=th.st.lt;generalize O.next=k0 at*;refine ae @bg ?_;refine VC.ag aa (ae @bg ?_);have hon:=akl [98] [49] 0 O1;simp only[GL,aS,aq,gS,acu,List.flatMap_nil]at hon;refine ah.rt hon ?_;clear hon;rintro _ O2 ⟨rfl,ay⟩;have nO2:=(ay).next;refine ae @bg ?_;have Jx:nr O2 (k0+2) (rowsOf []) [] [] k0 (k0+1) 0 0 0 0:=th.ge ay;refine ah.rt (TC (Jx) (n:=[97]) (v:=v1) (D:=[GL [98] v1 0]) rfl rfl (Ou) (by decide) (by decide)) ?_;rintro _ O4 ⟨rfl,⟨E4,V4,ce4,cv4,C6⟩,nO4,XH⟩;refine ae @bg ?_;refine ah.rt (TC (C6) (n:=[98]) (v:=v1) (D:=[]) rfl rfl (Ov) (by decide) (by decide)) ?_;rintro _ Oc ⟨rfl,⟨Ec,Vc,cec,cvc,Xo⟩,nOc,Lg⟩;refine ae @bg ?_;have agq:nr Oc (k0+2) (rowsOf Ot) Ec Vc k0 (k0+1) cec cvc 0 0:=Xo;clear th Jx C6 Xo XH Lg;refine VC.ag aa (ae @bg ?_);have RX:=aex Oc;simp only[bW,gS,v1]at RX;refine ah.rt RX ?_;rintro _ Od ⟨rfl,PR⟩;refine ae @bg ?_;have Nv:=aew (agq.ge PR) aeN gA akC;simp only[bW,gA,gS,v1]at Nv;refine ah.rt Nv ?_;rintro _ Oe ⟨⟨tk1,rfl⟩,ne,Bf⟩;clear Nv RX Bf agq;simp only[pd,iZ,aq];rw[aeL,show TN.length=wg.length from rfl];have kj:∀b∈wg,∀s∈eb b.k,s.length<=maxLen:=by decide
 have vB:=fun O=>RT wg tk1 O (by decide) kj
 rw[aeM]at vB
 have Oq:=fun(tx:Tok) (O:VH)=>XL wg Iv tk1 tx (by decide) (by decide) kj agp (fun k b A hb=>by
  have bJ:k<2:=(RZ.1 hb).1;obtain rfl | rfl:k=0\/k=1:=by omega
  ·injection hb with hb;subst hb;exact TM _ 0 Iv tx _ [] (.inl ⟨rfl,rfl⟩) (by decide) rfl rfl rfl rfl (by decide) (by decide) (by decide) (by decide) (by decide) A
  ·injection hb with hb;subst hb;exact TM _ 1 Iv tx _ [32,32] (.inr ⟨rfl,rfl⟩) (by decide) rfl rfl rfl rfl (by decide) (by decide) (by decide) (by decide) (by decide) A) O [1] akD (by decide)
 have TO:=fun O=>aeG ⟨⟨[111,114,103,46,120],[97],[106,97,114],[115,114,99]⟩,[49]⟩ O ⟨by decide,by decide,by decide,by decide,by decide⟩
 rw[show RU ⟨⟨[111,114,103,46,120],[97],[106,97,114],[115,114,99]⟩,[49]⟩=[111,114,103,47,120,47,97,47,49,47,97,45,49,45,115,114,99,46,106,97,114]from by kernel_rfl]at TO;have h6:wg.length=2:=rfl;have h7:Iv.length=2:=rfl;rw[h6];simp only[h6,h7,agw,List.map_nil,acv,acu,Nat.reduceAdd,agp,itM]at vB Oq TO;generalize wg.flatMap dZ=C1 at*;generalize Iv.flatMap jz=C2 at*;refine ae @bg ?_;refine VC.al ?_;rintro Of ⟨hgf,hpf,hnf⟩;refine VC.ag aa (ae @bg ?_);refine ah.rt (vB Of) ?_;rintro _ Og ⟨⟨t2,rfl⟩,WT⟩;refine ae @bg ?_;refine ah.rt (Oq t2 Og) ?_;rintro _ Oh ⟨t3,rfl,hnh,hkp⟩;have n1:=WT.next;have Lj:=hkp _ _ (by omega) (WT.at hpf);clear hkp Oq vB hpf;refine ae @bg ?_;refine VC.ag aa (ae @bg ?_);refine ah.rt (TO Oh) ?_;rintro _ Oi ⟨rfl,qy⟩;have Q2:=qy.at Lj;clear TO Lj;refine ae @bg ?_;refine VC.ag aa (ao @bg @Q2 ?_);refine VL.Bj aa (bb:=true) (b:=true) (by simp) (by simp[iE]) (.inl ⟨rfl,rfl⟩) (by kernel_rfl) (by kernel_rfl) rfl rfl rfl rfl ?_;refine aJ @bg (show(([111,114,103,47,120,47,97,47,49,47,97,45,49,45,115,114,99,46,106,97,114]:Bs)==[111,114,103,47,120,47,97,47,49,47,97,45,49,45,115,114,99,46,106,97,114])=true from rfl) (show(([32,32,103,58,98,58,106,97,114,58,49,32,99,111,109,112,105,108,101]:Bs)==[32,32,103,58,98,58,106,97,114,58,49,32,99,111,109,112,105,108,101])=true from rfl) ?_;refine WC.sound aa (ae @bg ?_);try trivial
inductive B3 (L:List Bn) (u:Nat):Nat->Prop
 | base:B3 L u u
 | step {x y:Nat} {b:Bn}:u<x->y<x->L[x]?=some b->b.up=(y:Int)->B3 L u y->B3 L u x
theorem B3.le {L:List Bn} {u x:Nat} (h:B3 L u x):u<=x:=by
 induction h with
 | base=>exact XN _
 | step h1 _ _ _ _ _=>exact Nat.le_of_lt h1
theorem B3.trans {L:List Bn} {i u x:Nat} (h:B3 L u x) (h2:B3 L i u):B3 L i x:=by
 induction h with
 | base=>exact h2
 | step h1 h3 h4 h5 _ ih=>exact .step (Nat.lt_of_le_of_lt h2.le h1) h3 h4 h5 ih
def RY (L:List Bn) (i:Nat) (S:List Int):Prop:=∀(j:Nat) (x:Int),S[j]?=some x->∃(n:Nat) (b:Bn),x=n/\i<n/\L[n]?=some b/\B3 L i n/\∃u:Nat,b.up=(u:Int)/\u<n/\(u=i\/∃j',j'<j/\S[j']?=some (u:Int)/\∀q,j'<=q->q<j->∃y:Nat,S[q]?=some (y:Int)/\B3 L u y)
theorem F2 (L:List Bn) (i:Nat):RY L i []:=fun j x h=>by simp at h
theorem aco {L:List Bn} {i k:Nat} {b:Bn} {S:List Int} (hb:L[k]?=some b) (hu:b.up=(i:Int)) (hi:i<k) (hS:RY L k S):RY L i ((k:Int)::S):=by
 have hik:B3 L i k:=.step hi hi hb hu .base;intro j x hj;cases j with
 | zero=>
   injection hj with hj;exact⟨k,b,hj.symm,hi,hb,hik,i,hu,hi,.inl rfl⟩
 | succ j=>
   rw[ags]at hj;obtain⟨n,b2,h1,h2,h3,h4,u,h5,h6,h7⟩:=hS j x hj;refine⟨n,b2,h1,by omega,h3,h4.trans hik,u,h5,h6,.inr ?_⟩;have Ab:j<S.length:=(RZ.1 hj).1;rcases h7 with rfl | ⟨j',h8,h9,rb⟩
   ·refine⟨0,by omega,rfl,fun q _ hq=>?_⟩;cases q with
    | zero=>exact⟨u,rfl,.base⟩
    | succ q=>
      rw[ags];have oc:q<S.length:=by omega
      obtain⟨y,_,e1,_,_,e4,_⟩:=hS q _ (Kn oc);exact⟨y,by rw[Kn oc,e1],e4⟩
   ·refine⟨j'+1,by omega,by rw[ags];exact h9,fun q X7 hq=>?_⟩;cases q with
    | zero=>omega
    | succ q=>
      rw[ags];exact rb q (by omega) (by omega)
theorem acp {L:List Bn} {i:Nat} {S T:List Int} (hS:RY L i S) (hT:RY L i T):RY L i (S++T):=by
 intro j x hj;by_cases h:j<S.length
 ·rw[ahX h]at hj;obtain⟨n,b,h1,h2,h3,h4,u,h5,h6,h7⟩:=hS j x hj;refine⟨n,b,h1,h2,h3,h4,u,h5,h6,?_⟩;rcases h7 with h7 | ⟨j',h8,h9,rb⟩
  ·exact .inl h7
  ·refine .inr ⟨j',h8,by rw[ahX (by omega)];exact h9,fun q hq tr=>?_⟩;rw[ahX (by omega)];exact rb q hq tr
 ·rw[agv (by omega)]at hj;obtain⟨n,b,h1,h2,h3,h4,u,h5,h6,h7⟩:=hT _ x hj;refine⟨n,b,h1,h2,h3,h4,u,h5,h6,?_⟩;rcases h7 with h7 | ⟨j',h8,h9,rb⟩
  ·exact .inl h7
  ·refine .inr ⟨S.length+j',by omega,?_,fun q hq tr=>?_⟩
   ·rw[agv (by omega),Nat.add_sub_cancel_left];exact h9
   ·rw[agv (by omega)];exact rb _ (by omega) (by omega)
theorem Oy (L:List Bn) (p:Nat->Bool):∀f i,RY L i (fO L p f i)
 | 0,i=>F2 L i
 | f+1,i=>by
   have hm:=we L i L.length;rw[fO];generalize dC L i L.length=K at*;induction K with
   | nil=>exact F2 L i
   | cons k K ih=>
     rw[acs];refine acp ?_ (ih fun k hk=>hm k (ah3 _ hk));obtain⟨n,b,rfl,h1,h2,h3,h4⟩:=hm k (List.mem_cons_self ..);cases h:p (n:Int).toNat
     ·rw[if_neg (by decide)];exact F2 L i
     ·rw[if_pos rfl];exact aco h2 h3 h4 (Oy L p f n)
set_option maxHeartbeats 4000000 in
theorem acq (L0:List Bn) (XM:Tok) (h0:L0.length<=maxLen) (O:VH):VF Tryz.prog 25 [.sl L0.length (L0.flatMap dZ) XM] O (aE fun m O'=>∃(L:List Bn) (t:Tok) (b:Bool),m= .tuple [.sl L.length (L.flatMap dZ) t,mb b]/\L.length<=60):=by
 obtain⟨tk,hs⟩:=ahS dX L0 XM;have hL:(L0.take 60).length<=60:=by rw[alH];omega
 have CO:gZ (eh Tryz.prog) 22 (.sl L0.length (L0.flatMap dZ) XM)=some (.v (.int .i64 L0.length)):=fj xh;simp only[maxLen]at h0;generalize L0.take 60=L at*;have hlen:=aQ dX L;have gP:gZ (eh Tryz.prog) 22 (.sl L.length (L.flatMap dZ) tk)=some (.v (.int .i64 L.length)):=fj xh;refine VF.bN 44 [.tmp 2,.tmp 3] Tryz.func25 ?_;refine VC.ag aa (ae @bK ?_);refine VC.ag aa (aJ @bK @CO @hs ?_);clear hs CO;refine VC.bC [0] (fun _:Unit=>[.sl L.length (L.flatMap dZ) tk]) (fun _ O'=>True) ?_ ?_
 ·refine VC.ag aa (ao @bK @gP ?_);refine VC.az ?_;refine VC.bG [13] [0,11,12] (fun j:Nat=>[mi j]) (fun j O'=>j<=L.length) (fun j=>L.length - j) (0) ?_ ?_
  ·exact agr _
  rintro j O3 hj;by_cases aX:j<L.length;rotate_left
  ·obtain rfl:j=L.length:=by omega
   refine WC.sound aa (ae @bK ?_);exact aA.mk () trivial
  have cT:((j:Int)+1)=((j+1:Nat):Int):=by omega
  have bw:=bU dX L j aX;generalize L[j]=b at*;obtain⟨up,dp,od,⟨g,a,q3,q4⟩,v,hd,rv,nn,iv,xr,s,rd⟩:=b;simp only[dZ,aq,a_]at bw;refine VC.ag aa (ae @bK ?_);refine VC.ag aa (ae @bK ?_);refine VC.bB (VC.az ?_);refine VC.ag aa (ao @bK @bw ?_);refine VC.al ?_;rintro O4 ⟨aY,eA,gI⟩;by_cases h1:dp>100
  ·have e1:decide (dp>100)=true:=decide_eq_true (by omega);have e2:decide ((100:Int)<dp)=true:=e1;refine VC.ag aa (aJ @bK @eA (yP e1 e2) ?_);refine WC.sound aa (ae @bK ?_);exact⟨[],.nil,false,rfl,by simp⟩
  have e1:decide (dp>100)=false:=decide_eq_false (by omega);have e2:decide ((100:Int)<dp)=false:=e1;by_cases h2:v.length>500
  ·have f1:decide ((v.length:Int)>500)=true:=decide_eq_true (by omega);have f2:decide ((500:Int)<v.length)=true:=f1;refine VC.ag aa (aJ @bK @eA (yP (yP e1 e2) (yP f1 f2)) ?_);refine WC.sound aa (ae @bK ?_);exact⟨[],.nil,false,rfl,by simp⟩
  have f1:decide ((v.length:Int)>500)=false:=decide_eq_false (by omega);have f2:decide ((500:Int)<v.length)=false:=f1;by_cases h3:g.length>500
  ·have i1:decide ((g.length:Int)>500)=true:=decide_eq_true (by omega);have i2:decide ((500:Int)<g.length)=true:=i1;refine VC.ag aa (aJ @bK @eA (yP (yP e1 e2) (yP (yP f1 f2) (yP i1 i2))) ?_);refine WC.sound aa (ae @bK ?_);exact⟨[],.nil,false,rfl,by simp⟩
  have i1:decide ((g.length:Int)>500)=false:=decide_eq_false (by omega);have i2:decide ((500:Int)<g.length)=false:=i1;by_cases h4:a.length>500
  ·have j1:decide ((a.length:Int)>500)=true:=decide_eq_true (by omega);have j2:decide ((500:Int)<a.length)=true:=j1;refine VC.ag aa (aJ @bK @eA (yP (yP e1 e2) (yP (yP f1 f2) (yP (yP i1 i2) (yP j1 j2)))) ?_);refine WC.sound aa (ae @bK ?_);exact⟨[],.nil,false,rfl,by simp⟩
  have j1:decide ((a.length:Int)>500)=false:=decide_eq_false (by omega);have j2:decide ((500:Int)<a.length)=false:=j1;refine VC.ag aa (aJ @bK @eA (yP (yP e1 e2) (yP (yP f1 f2) (yP (yP i1 i2) (yP j1 j2)))) ?_);refine WC.sound aa (ae @bK ?_);refine WC.sound aa (ao @bK @cT ?_);exact ax.next (j+1) aX
 rintro _ O2 _;refine VC.ag aa (ae @bK ?_);refine ah.rt (aci L tk (by omega) O2) ?_;rintro _ O3 ⟨rfl,aG⟩;simp only[a_];refine ae @bK ?_;refine WC.sound aa (ae @bK ?_);exact⟨L,tk,v_ 0 L,rfl,hL⟩
set_option maxHeartbeats 8000000 in
theorem acr (L0:List Bn) (XM:Tok) (h0:L0.length<=maxLen) (O:VH):VF Tryz.prog 8 [.sl L0.length (L0.flatMap dZ) XM] O (aE fun m O'=>m=mb true):=by
 have SA:=acq L0 XM h0 O;generalize L0.flatMap dZ=C0 at*;refine VF.bN 77 [.tmp 2] Tryz.func8 ?_;refine VC.ag aa (ae @bK ?_);refine VC.ag aa (ae @bK ?_);refine ah.rt SA ?_;clear SA;rintro _ O1 ⟨L,tk,b,rfl,hL⟩;refine ae @bK ?_;cases b
 ·refine VC.ag aa (ae @bK ?_);refine ah.rt (Ow _) ?_;rintro _ O5 rfl;simp only[a_];refine ae @bK ?_;trivial
 refine VC.ag aa (ae @bK ?_);refine VC.ag aa (ae @bK ?_);refine ah.rt (RE L tk (by omega) O1) ?_;rintro _ O2 ⟨⟨t2,rfl⟩,ay⟩;refine ae @bK ?_;have jX:(j7 L).length<=L.length:=AS L _ _ _;refine ah.rt (ack L (j7 L) tk t2 hL (by omega) O2) ?_;rintro _ O3 ⟨p,t3,rfl⟩;refine ae @bK ?_;have akE:=Oy L p L.length 0;have Mz:=Iu L p L.length 0;have rT:L.length*L.length<=60*60:=Nat.mul_le_mul hL hL;generalize fO L p L.length 0=S at*;have hvo:gZ (eh Tryz.prog) 28 (.sl S.length (S.map mi) t3)=some (.v (.int .i64 S.length)):=fj ZP;have gP:gZ (eh Tryz.prog) 22 (.sl L.length (L.flatMap dZ) tk)=some (.v (.int .i64 L.length)):=fj xh;have hlen:=aQ dX L;have vq:(S.map mi).length=S.length:=TP _;refine VC.bC [] (fun _:Unit=>[]) (fun _ O'=>True) ?_ ?_;rotate_left
 ·rintro _ O4 _;refine VC.ag aa (ae @bK ?_);refine ah.rt (Ow _) ?_;rintro _ O5 rfl;simp only[a_];refine ae @bK ?_;refine WC.sound aa (ae @bK ?_);trivial
 refine VC.ag aa (ao @bK @hvo ?_);refine VC.az ?_;refine VC.bG [24] [0,4,22,23] (fun j:Nat=>[mi j]) (fun j O'=>j<=S.length) (fun j=>S.length - j) (0) ?_ ?_
 ·exact agr _
 rintro j O4 hj;by_cases aX:j<S.length;rotate_left
 ·obtain rfl:j=S.length:=by omega
  refine WC.sound aa (ae @bK ?_);exact aA.mk () trivial
 have cT:((j:Int)+1)=((j+1:Nat):Int):=by omega
 obtain⟨n,b,hx,hn0,hb,_,u,hu,eW,ahW⟩:=akE j S[j] (Kn aX);have C7:(S.map mi)[j]?=some (.v (.int .i64 n)):=by rw[XO,Kn aX,hx];rfl
 have yG:=(RZ.1 hb).1;have mQ:∀(x:Nat) (b:Bn),L[x]?=some b->(L.flatMap dZ)[x*13]?=some (.v (.int .i64 b.up)):=fun x b hb=>by simpa[aq]using iY (sp:=[]) dX hb (i:=0) rfl
 have G3:=mQ n b hb;rw[hu]at G3;have e1:decide ((n:Int)<1)=false:=decide_eq_false (by omega);have e3:decide ((n:Int)>=L.length)=false:=decide_eq_false (by omega);have e4:decide ((L.length:Int)<=n)=false:=e3;refine VC.ag aa (ae @bK ?_);refine VC.ag aa (ae @bK ?_);refine VC.bB (VC.az ?_);refine VC.ag aa (aJ @bK @vq @C7 ?_);refine VC.ag aa (c_ @bK @e1 @gP (yP e3 e4) ?_);refine VC.ag aa (aJ @bK @hlen @G3 ?_);by_cases I3:u=0
 ·have e5:((u:Int)==0)=true:=by simp[I3]
  refine VC.ag aa (ao @bK @e5 ?_);refine WC.sound aa (ao @bK @cT ?_);exact ax.next (j+1) aX
 have e5:((u:Int)==0)=false:=by simpa using I3
 obtain⟨i,hi,hSi,MF⟩:=ahW.resolve_left I3;have hjm:((j:Int) - 1)=((j - 1:Nat):Int):=by omega
 refine VC.ag aa (ao @bK @e5 ?_);refine VC.ag aa (ao @bK @hjm ?_);refine VC.bC [0,4,8,22,23,24] (fun q:Nat=>[.sl L.length (L.flatMap dZ) tk,.sl S.length (S.map mi) t3,.v (.int .i64 q),.sl S.length (S.map mi) t3,.v (.int .i64 S.length),.v (.int .i64 j)]) (fun _ O'=>True) ?_ ?_;rotate_left
 ·rintro q O5 _;have f5:decide ((q:Int)<0)=false:=decide_eq_false (by omega);refine VC.ag aa (ao @bK @f5 ?_);refine WC.sound aa (ae @bK ?_);refine WC.sound aa (ao @bK @cT ?_);exact ax.next (j+1) aX
 clear G3 C7;refine VC.az ?_;refine VC.bG [8] [0,4,7,22,23,24] (fun q:Nat=>[mi q]) (fun q O'=>i<=q/\q<j) (fun q=>q) ((j - 1)) ?_ ?_
 ·exact⟨by omega,by omega⟩
 rintro q O5 ⟨WJ,tr⟩;obtain⟨y,hSy,hR⟩:=MF q WJ tr;have hgq:(S.map mi)[q]?=some (.v (.int .i64 y)):=by rw[XO,hSy];rfl
 have f1:decide ((q:Int)>=0)=true:=decide_eq_true (by omega);have f2:decide ((0:Int)<=q)=true:=f1;by_cases hyu:y=u
 ·subst hyu;have f3:((y:Int) != y)=false:=by simp
  refine WC.sound aa (gQ @bK (yP f1 f2) @vq @hgq @f3 ?_);exact aA.mk q trivial
 have f3:((y:Int) != u)=true:=by
  rw[bne_iff_ne];omega
 have hqi:q≠i:=fun e=>by
  subst e;rw[hSi]at hSy;injection hSy with hSy;omega
 have hqm:((q:Int) - 1)=((q - 1:Nat):Int):=by omega
 refine VC.ag aa (gQ @bK (yP f1 f2) @vq @hgq @f3 ?_);refine VC.az ?_;refine VC.ag aa (aJ @bK @vq @hgq ?_);refine VC.bC [0,4,7,8,9,22,23,24] (fun _:Unit=>[.sl L.length (L.flatMap dZ) tk,.sl S.length (S.map mi) t3,.v (.int .i64 u),.v (.int .i64 q),.v (.int .i64 u),.sl S.length (S.map mi) t3,.v (.int .i64 S.length),.v (.int .i64 j)]) (fun _ O'=>True) ?_ ?_;rotate_left
 ·rintro _ O6 _;have f6:((u:Int) != u)=false:=by simp
  refine VC.ag aa (ao @bK @f6 ?_);refine WC.sound aa (ao @bK @hqm ?_);exact ax.next (q - 1) ⟨by omega,by omega⟩
 clear hgq hSy;refine VC.az ?_;refine VC.bG [9] [0,4,7,8,22,23,24] (fun x:Nat=>[mi x]) (fun x O'=>B3 L u x) (fun x=>x) (y) ?_ ?_
 ·exact hR
 clear hR;rintro x O6 hR;by_cases hxu:x=u
 ·subst hxu;have g1:decide ((x:Int)>x)=false:=decide_eq_false (by omega);have g2:decide ((x:Int)<x)=false:=g1;refine WC.sound aa (ao @bK (yP g1 g2) ?_);exact aA.mk () trivial
 have hxg:=hR.le;have g1:decide ((x:Int)>u)=true:=decide_eq_true (by omega);have g2:decide ((u:Int)<x)=true:=g1;cases hR with
 | base=>exact absurd rfl hxu
 | step h1 h2 h3 h4 h5=>
   rename_i y' b';have hxp:=mQ x b' h3;rw[h4]at hxp;refine VC.ag aa (ao @bK (yP g1 g2) ?_);refine VC.az ?_;have Bt:=(RZ.1 h3).1;refine WC.sound aa (aJ @bK @hlen @hxp ?_);exact ax.next y' h5
theorem Kl (y:List BrT×Tok) (O:VH) (hp:(∀x∈y.1,brP x)/\y.1.length<=maxLen):VF Tryz.prog 8 [.sl y.1.length (y.1.flatMap fun x=>dZ (agn x)) y.2] O (aE fun m O'=>m=mb true):=by
 have h:=acr (y.1.map agn) y.2 (by rw[TP];exact hp.2) O;rw[TP,List.flatMap_map]at h;exact h
end Go.Proofs.YtoclnkfdahmnhaaGreatDoor
