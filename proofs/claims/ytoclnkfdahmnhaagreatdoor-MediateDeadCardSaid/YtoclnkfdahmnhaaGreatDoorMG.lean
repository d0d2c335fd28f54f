import Derived.Test.YtoclnkfdahmnhaaGreatDoorMF
import Derived.RangeFuncSeq
set_option linter.unusedVariables false
set_option linter.unusedSimpArgs false
namespace Go.Proofs.YtoclnkfdahmnhaaGreatDoor
open Go.RowKit
section
variable {G H:Gh} {n:Sz} {D:List Deferred} {e e':Env} {a:Act} {P:Program} {tab:bS} {O O':VH} {w:World} {m m':MV} {u v:Value} {ops:Array Oper} {Q:VQ} {c d:Code}
def Q7 (ops:Array Oper):Bool:=ops.all fun o=>match o.op with
 | .defer _=>false
 | _=>true
theorem WS {o:Oper} {i:Nat} (h:Q7 ops=true) (ho:ops[i]?=some o):∀c,o.op≠ .defer c:=fun c hc=>by
 have:=Array.all_eq_true'.1 h o (Array.mem_of_getElem? ho);rw[hc]at this;cases this
def WT (ro:Option Nat):Fence:={Fence.wide with round:=ro}
theorem vD {ro:Option Nat} {Q:Exit->Act->World->Prop} {K:Act->World->Prop} (hL:¬LetsOut Q) (hd:ro=none\/Q7 ops=true) (l2:List Nat) (hK:∀a w,K a w->wpOpsIn (WT ro) 0 P ops Q l2 a w):
  ∀(l1:List Nat) (a:Act) (w:World),wpOps P ops (Exit.then K Q) l1 a w->wpOpsIn (WT ro) 0 P ops Q (l1++l2) a w:=by
 intro l1;induction l1 with
 | nil=>intro a w h;exact hK a w h
 | cons i rest ih=>
   intro a w h;simp only[wpOps]at h;simp only[List.cons_append,wpOpsIn];cases ho:ops[i]? with
   | none=>simp only[ho]at h;exact ih a w h
   | some o=>
     simp only[ho]at h;by_cases hw:Region.wanted o (yielded ops a.tmps)=true
     ·simp only[hw,if_true]at h ⊢;have hL':¬LetsOut (Exit.then K Q):=hL;rcases h with h | h
      ·refine⟨fun _ _=>trivial,?_⟩
       have hs:o.semAt ro a.eval=execOp a.eval o:=by
        rcases hd with rfl | hd
        ·rfl
        ·exact Oper.semAt_eq _ _ _ (WS hd ho)
       show o.uponIn (WT ro) 0 P a _ Q ((o.semAt ro a.eval).run P w);rw[hs];unfold Oper.wp at h;generalize (execOp a.eval o).run P w=r at h ⊢;cases r with
       | ok nx w'=>
         cases nx with
         | value v=>exact ih _ _ h
         | skip=>exact ih _ _ h
         | «defer» d=>exact ih _ _ h
         | enter f args=>
           refine⟨(fun h=>by cases h),?_⟩;have h1:CallsIn (WT ro) (0 - 1) P f args w' _:=callsIn_wide.2 h;refine h1.mono ?_;intro x Fu hx;cases x with
           | returned v=>exact ih _ _ hx
           | panicked c=>exact hx
           | outgrown=>exact absurd hx hL'
         | row row args=>
           refine⟨(fun h=>by cases h),?_⟩;intro c cs _;obtain⟨v,Fu,r,s⟩:=h c cs;exact⟨v,Fu,ih _ _ r,stepsIn_wide.2 s⟩
         | _=>exact h.elim
       | halt x w'=>
         cases x<;>first
          | exact h
          | exact False.elim h
      ·exact absurd h.2 hL'
     ·simp only[hw,if_false,Bool.false_eq_true]at h ⊢;exact⟨fun _ _=>trivial,ih _ _ h⟩
theorem Bh:¬LetsOut (cf G n D Q):=by
 rintro⟨a,w,x,e,O,H,_,_,_,h,_⟩;cases x<;>exact h
theorem then_self {Q:Exit->Act->World->Prop}:Exit.then (Q .normal) Q=Q:=by
 funext y a w
 cases y<;>rfl
def Gf (P:Program) (n:Sz) (y:Nat) (c:Code) (e:Env) (O:VH) (Q:VQ):Prop:=∀G a w,WR G O w->FR G n [] e a->c.wpIn (WT (some y)) 0 P (cf G n [] Q) a w
theorem JH (l:List Oper) (L:List Oper) (k:Nat) (hL:∀j,L[j]?=none\/L[j]?=l[k+j]?) (h:VL P n D .plain ⟨l⟩ (L.map (Fl.one, ·)) e O Q):gR P n D ⟨l⟩ (List.range' k L.length) e O Q:=by
 have:=h 0 #[] _ (uB (ops:=⟨l⟩) L k fun j=>by simpa using hL j) (fun h=>absurd rfl h);simp only[XD,List.map_map]at this;rw[show((fun x:Nat×Fl=>x.1) ∘ fun x=>(x,Fl.one))=_root_.id from rfl,List.map_id]at this;exact this
theorem Gf.region {y id:Nat} {l:List Oper} (h:WL P tab n [] .plain ⟨l⟩ Q (l.map (Fl.one, ·)) e O) (ht:aJ P tab:=by exact aa) (hd:Q7 ⟨l⟩=true:=by kernel_rfl):Gf P n y (.region id ⟨l⟩ false) e O Q:=by
 intro G a w hw hf;have h1:=JH l l 0 (fun j=>.inr (by simp)) (WL.sound ht h);refine wpIn_region ?_;rw[show(⟨l⟩:Array Oper).size=l.length from rfl,List.range_eq_range', <-List.append_nil (List.range' 0 l.length)];exact vD (K:=cf G n [] Q .normal) Bh (.inr hd) [] (fun _ _ h=>h) _ a w (by rw[then_self];exact h1 G a w hw hf)
theorem Gf.block {y id:Nat} (h:Gf P n y c e O (gU id Q)):Gf P n y (.block id c) e O Q:=by
 intro G a w hw hf;refine wpIn_block (wpIn_mono (h G a w hw hf) ?_);rintro y a' w' ⟨x,e',O',H,h1,h2,h3,h4,h5⟩;cases y with
 | exit j=>
   cases x with
   | exit i=>
     obtain rfl:i=j:=h4;simp only[Exit.inBlock];simp only[gU]at h5;split
     ·rename_i hi;rw[if_pos hi]at h5;exact⟨.normal,e',O',H,h1,h2,h3,trivial,h5⟩
     ·rename_i hi;rw[if_neg hi]at h5;exact⟨.exit i,e',O',H,h1,h2,h3,rfl,h5⟩
   | _=>exact False.elim h4
 | _=>cases x<;>first
   | exact False.elim h4
   | exact⟨_,e',O',H,h1,h2,h3,h4,h5⟩
def VY (P:Program) (y:Nat) (ms:List MV) (O:VH) (R:MV->VH->Prop):Prop:=∀G w vs,WR G O w->aL G ms vs->YieldAt Fence.wide 0 P y vs.toArray w fun x w'=>∃v m O' H,x= .returned v/\Gh.Le G H/\WR H O' w'/\VR H m v/\R m O'
def lpF (k y:Nat) (ts:Array Value) (n:Sz) (e:Env):GP:=⟨fun G=>G.bD k=some y/\FR G n [] e {tmps:=ts,defers:=[]},fun hl h=>⟨hl.bD h.1,h.2.mono hl⟩⟩
def q_:List Tmp->List MV->Env->Env
 | t::ts,m::ms,e=>q_ ts ms ((t,m)::e)
 | _,_,e=>e
theorem FR.q_:∀{ps:List Tmp} {ms:List MV} {vs:List Value} {e:Env} {ts:Array Value},FR G n D e {tmps:=ts,defers:=D}->aL G ms vs->ps.all (fun t=>decide (t<n.n))=true->
  FR G n D (q_ ps ms e) {tmps:=(ps.zip vs).foldl (fun t (p:Tmp×Value)=>t.setIfInBounds p.1 p.2) ts,defers:=D}
 | [],ms,vs,e,ts,h,_,_=>by simpa[Go.Proofs.YtoclnkfdahmnhaaGreatDoor.q_]using h
 | t::ps,[],vs,e,ts,h,hv,_=>by rw[hv.gL];simpa[Go.Proofs.YtoclnkfdahmnhaaGreatDoor.q_]using h
 | t::ps,m::ms,vs,e,ts,h,hv,ha=>by
   obtain⟨u,us,rfl,h1,h2⟩:=hv.dZ;simp only[List.all_cons,Bool.and_eq_true,decide_eq_true_eq]at ha;exact FR.q_ (ps:=ps) (h.put ha.1 h1) h2 ha.2
def RdB (k:Nat) (r:Loop) (R:MV->VH->Prop):VQ:=fun x _ O2=>x= .normal/\O2.hp k=some (.obj (.loop {r with state:=.busy}))/\R (.v (.bool true)) (O2.set k (.obj (.loop {r with pending:=none})))
def RdA (P:Program) (n:Sz) (y k:Nat) (r:Loop) (body:Code) (R:MV->VH->Prop):VQ:=fun x e1 O1=>x= .normal/\O1.hp k=some (.obj (.loop r))/\Gf P n y body e1 (O1.set k (.obj (.loop {r with state:=.busy}))) (RdB k r R)
theorem VY.round {y k j:Nat} {r:Loop} {ps:List Tmp} {ms:List MV} {R:MV->VH->Prop} (hk:O.hp k=some (.obj (.loop r))) (hj:O.hp j=some (.fact (lpF k y r.tmps n e))) (hr:r.state= .ready) (hp:r.params.toList=ps) (hn:ps.all (fun t=>decide (t<n.n))=true) (hl:ms.length=ps.length)
  (h:Gf P n y r.assign (q_ ps ms e) O (RdA P n y k r r.body R)):VY P y ms O R:=by
 intro G w vs hw hv;obtain⟨b,hb,hh⟩:=hw.obj k _ hk;obtain⟨dW,aT⟩:=hw.Ap j _ hj;rw[dW]at hb;injection hb with hb;subst hb
 have n9:vs.toArray.size=r.params.size:=by
  rw[show vs.toArray.size=vs.length from rfl,hv.1,hl, <-hp];rfl
 refine⟨r.fn,_,r.assign,r.body,run_yield hh n9,roundIn_of_wpIn trivial ?_⟩
 have ajG:FR G n [] (q_ ps ms e) {tmps:=(r.params.zip vs.toArray).foldl (fun t (p:Tmp×Value)=>t.setIfInBounds p.1 p.2) r.tmps,defers:=[]}:=by
  rw[<-Array.foldl_toList,Array.toList_zip,hp];exact FR.q_ aT hv hn
 refine wpIn_mono (h G _ w hw ajG) ?_;rintro x a1 w1 ⟨x',e1,O1,H,g1,g2,g3,g4,rfl,dL,ahe⟩
 cases x<;>first
  | exact False.elim g4
  | skip
 have abP:=g1.bD dW;obtain⟨b,hb,hh1⟩:=g2.obj k _ dL;rw[abP]at hb;injection hb with hb;subst hb
 have ru:=g2.setObj (Y:=.loop {r with state:=.busy}) dL abP (fun _ _ _ e=>by cases e);refine⟨_,run_beginRound hh1 hr,wpIn_mono (ahe H a1 _ ru g3) ?_⟩;rintro x a2 w2 ⟨x',e2,O2,H2,q1,q2,q3,q4,rfl,bN,hR⟩
 cases x<;>first
  | exact False.elim q4
  | skip
 have afJ:=q1.bD abP;obtain⟨b,hb,hh2⟩:=q2.obj k _ bN;rw[afJ]at hb;injection hb with hb;subst hb
 refine⟨_,_,run_endRound none hh2,_,_,_,H2,rfl,g1.trans q1,q2.setObj bN afJ (fun _ _ _ e=>by cases e),.v rfl,?_⟩;have:({r with state:=.ready,pending:=none}:Loop)={r with pending:=none}:=by rw[<-hr]
 simp only[Option.isNone_none,if_true];rw[this];exact hR
def YW (P:Program) (tab:bS) (n:Sz) (D:List Deferred) (l:List Oper) (k:Nat) (o:Oper) (x:Operand) (as_:Array Operand) (Q:VQ):VQ:=fun z e1 O1=>z= .normal/\∃y ms R,aK ⟨l⟩ o e1=some true/\ev e1 x=some (.func (.yield y) [] [])/\fu e1 as_.toList=some ms/\bf n o.dst=true/\VY P y ms O1 R/\
   ∀m O',R m O'->WL P tab n D .plain ⟨l⟩ Q ((l.drop (k+1)).map (Fl.one, ·)) (aV o.dst m e1) O'
theorem YW.mk {l:List Oper} {k:Nat} {o:Oper} {x:Operand} {as_:Array Operand} {y:Nat} {ms:List MV} {R:MV->VH->Prop} (hv:VY P y ms O R) (h:∀m O',R m O'->WL P tab n D .plain ⟨l⟩ Q ((l.drop (k+1)).map (Fl.one, ·)) (aV o.dst m e) O') (h1:aK ⟨l⟩ o e=some true:=by exact rfl) (h2:ev e x=some (.func (.yield y) [] []):=by exact rfl) (h3:fu e as_.toList=some ms:=by exact rfl) (h4:bf n o.dst=true:=by exact rfl):YW P tab n D l k o x as_ Q .normal e O:=
 ⟨rfl,y,ms,R,h1,h2,h3,h4,hv,h⟩
theorem VC.yield {id:Nat} (k:Nat) {l:List Oper} {o:Oper} {ca:Call} {x:Operand} (hk:l[k]?=some o) (ui:o.op= .call ca) (hc:ca.callee= .value x)
  (h:WL P tab n D .plain ⟨l⟩ (YW P tab n D l k o x ca.args Q) ((l.take k).map (Fl.one, ·)) e O) (ht:aJ P tab:=by exact aa):VC P n D (.region id ⟨l⟩ false) e O Q:=by
 intro G a w hw hf;have kP:k<l.length:=(List.getElem?_eq_some_iff.1 hk).1;rw[<-wpIn_wide (n:=0)];refine wpIn_region ?_;have hlen:(l.take k).length=k:=by rw[List.length_take];omega
 have h1:=JH l (l.take k) 0 (fun j=>by
  by_cases hj:j<k
  ·rw[List.getElem?_take,if_pos hj,Nat.zero_add];exact .inr rfl
  ·exact .inl (by rw[List.getElem?_take,if_neg hj])) (WL.sound ht h)
 rw[hlen]at h1
 have ad9:List.range (⟨l⟩:Array Oper).size=List.range' 0 k++k::List.range' (k+1) (l.drop (k+1)).length:=by
  rw[show(⟨l⟩:Array Oper).size=l.length from rfl,List.range_eq_range',List.length_drop];obtain⟨j,hj⟩:∃j,l.length=k+(j+1):=⟨l.length - k - 1,by omega⟩
  rw[hj,show k+(j+1) - (k+1)=j from by omega, <-List.range'_append_1,Nat.zero_add,List.range'_succ]
 rw[ad9]
 refine vD (ro:=none) (K:=fun a1 w1=>∃e1 O1 H,Gh.Le G H/\WR H O1 w1/\FR H n D e1 a1/\∃y ms R,aK ⟨l⟩ o e1=some true/\ev e1 x=some (.func (.yield y) [] [])/\fu e1 ca.args.toList=some ms/\bf n o.dst=true/\VY P y ms O1 R/\
   ∀m O',R m O'->WL P tab n D .plain ⟨l⟩ Q ((l.drop (k+1)).map (Fl.one, ·)) (aV o.dst m e1) O') Bh (.inl rfl) _ ?_ _ a w ?_
 ·rintro a1 w1 ⟨e1,O1,H,g1,g2,g3,y,ms,R,q1,q2,q3,q4,q5,q6⟩;have D4:(⟨l⟩:Array Oper)[k]?=some o:=by simpa using hk
  simp only[wpOpsIn,D4,a_ g3 q1,if_true];refine⟨fun _ _=>trivial,?_⟩;have uj:=g3.ev q2;generalize Ax:a1.eval x=fv at uj;cases uj with
  | func h1 h2 h3 h4=>
    rename_i us vs;have iH:us=[]:=List.eq_nil_of_length_eq_zero h1;have nO:vs=[]:=List.eq_nil_of_length_eq_zero h3;subst iH;subst nO
    have gI:=g3.fu q3;obtain⟨fn,tmps,asg,body,bW,ad_⟩:=q5 H w1 _ g2 gI
    have hex:(execOp a1.eval o).run P w1= .ok (.round y fn tmps asg body) w1:=by
     have ha: #[]++ca.args.map a1.eval=(ca.args.toList.map a1.eval).toArray:=by apply Array.ext';simp
     simp only[execOp,ui,resolve,hc,Ax,Deferred.ofValue,Sem.run_bind,Sem.run_pure,Result.andThen_ok,invoke];rw[ha];exact bW
    show o.uponIn (WT none) 0 P a1 _ _ ((execOp a1.eval o).run P w1);rw[hex,Oper.uponIn_round];refine⟨(fun h=>by cases h),RoundIn.mono ad_ ?_⟩;rintro x w2 ⟨v,m,O',H2,rfl,p1,p2,p3,p4⟩;have h2:=JH l (l.drop (k+1)) (k+1) (fun j=>.inr (by rw[List.getElem?_drop])) (WL.sound ht (q6 m O' p4));have h3:=h2 H2 (a1.put o.dst v) w2 p2 ((g3.mono p1).aV q4 p3);have h4:=lM (fun _ _ _=>cf.le (g1.trans p1)) _ _ _ h3;have:=vD (ro:=none) (K:=cf G n D Q .normal) Bh (.inl rfl) [] (fun _ _ h=>h) _ _ w2 (by rw[then_self];exact h4);rw[List.append_nil]at this;exact this
 ·refine lM ?_ _ _ _ (h1 G a w hw hf);rintro y a1 w1 ⟨z,e1,O1,H,g1,g2,g3,g4,rfl,g5⟩
  cases y<;>first
   | exact False.elim g4
   | exact⟨e1,O1,H,g1,g2,g3,g5⟩
def ND (G:Gh):List Nat->List Deferred->Prop
 | [],[]=>True
 | j::js,d::D=>(∃b,G.bD j=some b/\d={target:=.collected b,args:= #[]})/\ND G js D
 | _,_=>False
theorem ND.mono (h:G.Le H):∀{js:List Nat} {D:List Deferred},ND G js D->ND H js D
 | [],[],_=>trivial
 | _::_,_::_,⟨⟨b,h1,h2⟩,h3⟩=>⟨⟨b,h.bD h1,h2⟩,h3.mono h⟩
 | [],_::_,h=>h.elim
 | _::_,[],h=>h.elim
abbrev Gg:=VX->Env->VH->List Nat->Prop
def oW (G:Gh) (n:Sz) (Q:Gg):Exit->Act->World->Prop:=fun y a w=>∃x e O H js D,Gh.Le G H/\WR H O w/\FR H n D e a/\ND H js D/\XR H x y/\Q x e O js
theorem oW.le (h:G.Le H) {Q:Gg} {y:Exit} (hp:oW H n Q y a w):oW G n Q y a w:=by
 obtain⟨x,e,O,K,js,D,h1,h2⟩:=hp;exact⟨x,e,O,K,js,D,h.trans h1,h2⟩
def VM (P:Program) (n:Sz) (js:List Nat) (c:Code) (e:Env) (O:VH) (Q:Gg):Prop:=∀G D a w,WR G O w->ND G js D->FR G n D e a->c.wp P (oW G n Q) a w
def jR (P:Program) (n:Sz) (js:List Nat) (c:Code) (Q:Gg):Env->VH->Prop:=fun e O=>VM P n js c e O Q
def AtM (Q:Gg) (js:List Nat):VQ:=fun x e O=>Q x e O js
variable {js:List Nat} {M:Gg}
theorem FRX.fr {x:VX} (h:FRX G n D x e a):FR G n D e a:=by
 cases x<;>first
  | exact h
  | exact h.2
theorem jR.mk (h:VM P n js c e O M):jR P n js c M e O:=h
theorem VM.FM (h:∀D,VC P n D c e O (AtM M js)):VM P n js c e O M:=fun G D a w hw hm hf=>wp_mono (h D G a w hw hf) fun y a' w' ⟨x,e',O',H,h1,h2,h3,h4,h5⟩=>⟨x,e',O',H,js,D,h1,h2,h3.fr,hm.mono h1,h4,h5⟩
theorem VM.ag (h:∀D,VC P n D c e O (qo (jR P n js d M) (AtM M js))):VM P n js (.seq c d) e O M:=by
 intro G D a w hw hm hf;refine wp_seq (wp_mono (h D G a w hw hf) ?_);rintro y a1 w1 ⟨x,e',O',H,g1,g2,g3,g4,g5⟩
 cases y<;>cases x<;>first
  | exact False.elim g4
  | exact wp_mono (g5 H D a1 w1 g2 (hm.mono g1) g3) fun _ _ _=>oW.le g1
  | exact⟨_,e',O',H,js,D,g1,g2,g3.fr,hm.mono g1,g4,g5⟩
  | exact⟨_,e',O',H,js,D,g1,g2,g3,hm.mono g1,g4,g5⟩
theorem VM.qG (h:∀D,WC P tab n D c e O (qo (jR P n js d M) (AtM M js))) (ht:aJ P tab:=by exact aa):VM P n js (.seq c d) e O M:=VM.ag fun D=>WC.sound ht (h D)
theorem VM.seq (h:VM P n js c e O fun x e O js=>match x with
  | .normal=>VM P n js d e O M
  | x=>M x e O js):VM P n js (.seq c d) e O M:=by
 intro G D a w hw hm hf;refine wp_seq (wp_mono (h G D a w hw hm hf) ?_);rintro y a1 w1 ⟨x,e',O',H,vE,D',g1,g2,g3,g4,g5,g6⟩
 cases y<;>cases x<;>first
  | exact False.elim g5
  | exact wp_mono (g6 H D' a1 w1 g2 g4 g3) fun _ _ _=>oW.le g1
  | exact⟨_,e',O',H,vE,D',g1,g2,g3,g4,g5,g6⟩
theorem VM.join {σ :Type} (l:List Nat) (ms: σ ->List MV) (I: σ ->VH->List Nat->Prop) (h1:VM P n js c e O fun x e O js=>match x with
  | .normal=>∃s,looks e l=some (ms s)/\I s O js
  | x=>M x e O js) (h2:∀s O js,I s O js->VM P n js d (iI l (ms s) []) O M):VM P n js (.seq c d) e O M:=by
 refine VM.seq fun G D a w hw hm hf=>wp_mono (h1 G D a w hw hm hf) ?_
 rintro y a1 w1 ⟨x,e',O',H,vE,D',g1,g2,g3,g4,g5,g6⟩;cases x with
 | normal=>
   obtain⟨s,h3,h4⟩:=g6;exact⟨.normal,iI l (ms s) [],O',H,vE,D',g1,g2,g3.less (gW (e0:=[]) (fun t x h=>by simp[look]at h) h3),g4,g5,h2 s O' vE h4⟩
 | _=>exact⟨_,e',O',H,vE,D',g1,g2,g3,g4,g5,g6⟩
theorem VM.cond {x:Operand} {t:Bool} {c1 c2:Code} (hc:ev e x=some (mb t)) (h:VM P n js (if t then c1 else c2) e O M):VM P n js (.cond x c1 c2) e O M:=by
 intro G D a w hw hm hf;have hv:=hf.ev hc;generalize hx:a.eval x=u at hv;have:=VR.ie hv;subst this;exact wp_cond hx (h G D a w hw hm hf)
def HS (id:Nat) (M:Gg):Gg:=fun x e O js=>match x with
 | .exit i=>if i=id then M .normal e O js else M (.exit i) e O js
 | x=>M x e O js
theorem HS.ex {id:Nat} (h:M .normal e O js):AtM (HS id M) js (.exit id) e O:=by
 show(if id=id then M .normal e O js else M (.exit id) e O js);rw[if_pos rfl];exact h
theorem VM.block {id:Nat} (h:VM P n js c e O (HS id M)):VM P n js (.block id c) e O M:=by
 intro G D a w hw hm hf;refine wp_block (wp_mono (h G D a w hw hm hf) ?_);rintro y a' w' ⟨x,e',O',H,vE,D',h1,h2,h3,h4,h5,h6⟩;cases y with
 | exit j=>
   cases x with
   | exit i=>
     obtain rfl:i=j:=h5;simp only[Exit.inBlock];simp only[HS]at h6;split
     ·rename_i hi;rw[if_pos hi]at h6;exact⟨.normal,e',O',H,vE,D',h1,h2,h3,h4,trivial,h6⟩
     ·rename_i hi;rw[if_neg hi]at h6;exact⟨.exit i,e',O',H,vE,D',h1,h2,h3,h4,rfl,h6⟩
   | _=>exact False.elim h5
 | _=>cases x<;>first
   | exact False.elim h5
   | exact⟨_,e',O',H,vE,D',h1,h2,h3,h4,h5,h6⟩
theorem VM.loop {σ :Type} {ks:List MV} (l K:List Nat) (ms: σ ->List MV) (I: σ ->VH->List Nat->Prop) (μ : σ ->Nat) (s0: σ) (hI:I s0 O js)
  (step:∀s O js,I s O js->VM P n js c (iI l (ms s) (iI K ks [])) O fun x e' O' vE=>match x with
   | .normal=>looks e' K=some ks/\∃s',looks e' l=some (ms s')/\I s' O' vE/\ μ s'< μ s
   | x=>M x e' O' vE) (h0:looks e l=some (ms s0):=by exact rfl) (hk:looks e K=some ks:=by exact rfl):VM P n js (.loop c) e O M:=by
 intro G D a w hw hm hf;refine wp_loop_rounds (μ s0+1) ?_
 suffices h:∀(k:Nat) (s: σ) (e:Env) (O:VH) (js:List Nat) (G:Gh) (D:List Deferred) (a:Act) (w:World), μ s=k->looks e l=some (ms s)->looks e K=some ks->I s O js->WR G O w->ND G js D->FR G n D e a->Code.rounds P c (oW G n M) (k+1) a w from
  h _ s0 e O js G D a w rfl h0 hk hI hw hm hf
 intro k;induction k using Nat.strongRecOn with
 | _ k ih=>
   intro s e O js G D a w hs hl hK hI hw hm hf;rw[rounds_succ];refine wp_mono (step s O js hI G D a w hw hm (hf.less (gW (gW (e0:=[]) (fun t x h=>by simp[look]at h) hK) hl))) ?_;rintro y a' w' ⟨x,e',O',H,vE,D',h1,h2,h3,h4,h5,h6⟩
   cases y<;>cases x<;>first
    | exact False.elim h5
    | exact⟨_,e',O',H,vE,D',h1,h2,h3,h4,h5,h6⟩
    | (obtain⟨q1,s',q2,q3,q4⟩:=h6
       exact xI (μ s'+1) k a' w' (by omega) (sb (fun _ _ _=>oW.le h1) _ _ _ (ih (μ s') (by omega) s' e' O' vE H D' a' w' rfl q2 q1 q3 h2 h4 h3)))
theorem WR.WU (h:WR G O w) (p:GP) (hp:p.p G):WR G (O.push (.fact p)) w:=by
 have hne:∀{j x},bl O.hp O.next (some (.fact p)) j=some x->(∀q,x≠ .fact q)->O.hp j=some x:=fun{j x} hj hx=>by
  by_cases e:j=O.next
  ·subst e;rw[aE]at hj;injection hj with hj;exact absurd hj.symm (hx _)
  ·rwa [aw _ _ e]at hj
 have gN:∀j b,G.bD j=some b->bl O.hp O.next (some (.fact p)) j≠none->O.hp j≠none:=fun j b hj hn=>by
  rwa [aw _ _ (fun e=>by subst e;rw[h.lX.1]at hj;cases hj)]at hn
 refine⟨h.base,h.dT,fun j hj=>?_,fun j c hj=>?_,fun i j c li lj hi hj=>h.inj i j c (gN i c hi li) (gN j c hj lj) hi hj,fun j cs hj=>h.cells j cs (hne hj (by simp)),fun j es ck hj=>h.map j es ck (hne hj (by simp)),fun t ht=>h.tok t (hne ht (by simp)),fun s t c x y hs ht=>h.kY s t c x y (hne hs (by simp)) (hne ht (by simp)),fun j k' t' n' hj=>h.nL j k' t' n' (hne hj (by simp)),fun j x hj=>h.obj j x (hne hj (by simp)),h.qc,fun j q hj=>?_⟩
 ·have hj:O.next+1<=j:=hj;obtain⟨h1,h2,h3⟩:=h.oY j (by omega);exact⟨h1,h2,by show bl _ _ _ _=_;rw[aw _ _ (by omega)];exact h3⟩
 ·obtain⟨p1,p2,p3⟩:=h.jL j c hj;exact⟨p1,p2,fun hn=>p3 (gN j c hj hn)⟩
 ·have hj:bl O.hp O.next (some (.fact p)) j=some (.fact q):=hj;by_cases e:j=O.next
  ·subst e;rw[aE]at hj;injection hj with hj;injection hj with hj;subst hj;exact hp
  ·rw[aw _ _ e]at hj;exact h.Ap j q hj
def lpO (O:VH) (r:Loop) (y:Nat) (n:Sz) (e:Env):VH:=((O.push (.obj (.deferred (some [])))).push (.obj (.loop r))).push (.fact (lpF (O.next+1) y r.tmps n e))
theorem VM.aea {g:Operand} {ps:Array Tmp} {asg body:Code} {gf:FuncId} {cs:List MV} (hg:ev e g=some (.func (.func gf) [] cs)) (hE:Enters P gf)
  (hit:∀(y:Nat) (r:Loop) (F:VH),F=lpO O r y n e->r.state= .ready->r.pending=none->r.params=ps->r.assign=asg->r.body=body->VF P gf (.func (.yield y) [] []::cs) F
   (aI fun _ O'=>O'.hp (O.next+1)=some (.obj (.loop r))/\M .normal e (O'.set (O.next+1) (.obj (.loop {r with state:=.exhausted}))) (O.next::js))):
  VM P n js (.rangeFunc g ps asg body) e O M:=by
 intro G D a w hw hm hf;rw[<-wpIn_wide (n:=0)];refine wpIn_rangeFunc ?_;intro fn _;have uj:=hf.ev hg;generalize Ax:a.eval g=fv at uj;cases uj with
 | func h1 h2 h3 h4=>
   rename_i us vs;have iH:us=[]:=List.eq_nil_of_length_eq_zero h1;subst iH;obtain⟨r,hr⟩:∃r:Loop,r={state:=.ready,pending:=none,fn,tmps:=a.tmps,params:=ps,assign:=asg,body,defers:=w.heap.size}:=⟨_,rfl⟩
   obtain⟨le1,w1⟩:=hw.KV (.deferred (some []));obtain⟨Q8,w2⟩:=w1.KV (.loop r);rw[size_alloc]at Q8 w2;generalize hG1:({G with bD:=bl G.bD O.next (some w.heap.size)}:Gh)=G1 at le1 w1 Q8 w2;generalize hG2:({G1 with bD:=bl G1.bD (O.push (.obj (.deferred (some [])))).next (some (w.heap.size+1))}:Gh)=G2 at Q8 w2;have p1:G1.bD O.next=some w.heap.size:=by rw[<-hG1];exact aE _ _ _
   have p2:G2.bD (O.next+1)=some (w.heap.size+1):=by rw[<-hG2];exact aE _ _ _
   have kB:r.tmps=a.tmps:=by rw[hr]
   have ajH:FR G2 n [] e {tmps:=r.tmps,defers:=[]}:=by
    rw[kB];exact(show FR G n [] e {tmps:=a.tmps,defers:=[]}from⟨rfl,hf.size,hf.get⟩).mono (le1.trans Q8)
   have w3:=w2.WU (lpF (O.next+1) (w.heap.size+1) r.tmps n e) ⟨p2,ajH⟩;have iA:aL G2 cs vs:=aL.mono (le1.trans Q8) ⟨h3,h4⟩;have ahf:=hit (w.heap.size+1) r _ rfl (by rw[hr]) (by rw[hr]) (by rw[hr]) (by rw[hr]) (by rw[hr]) G2 _ (.func (.yield (w.heap.size+1)) #[] #[]::vs) w3 (aL.cons (.func (us:=[]) (vs:=[]) rfl (fun i c u h=>by simp at h) rfl (fun i c u h=>by simp at h)) iA);refine⟨w.heap.size+1,[{target:=.collected w.heap.size,args:= #[]}],(w.alloc (.deferred (some []))).alloc (.loop r),{target:=.fn (.func gf) vs.toArray,args:= #[.func (.yield (w.heap.size+1)) #[] #[]]},(w.alloc (.deferred (some []))).alloc (.loop r),gf,(.func (.yield (w.heap.size+1)) #[] #[]::vs).toArray,(w.alloc (.deferred (some []))).alloc (.loop r),?_,?_,fun _ _=>trivial,?_,(fun h=>by cases h),?_⟩
   ·rw[hr];exact run_enterLoop_outer _ _ _ _ _
   ·simp only[resolve,Ax];simp[go_sem]
   ·have:(#[.func (.yield (w.heap.size+1)) #[] #[]]++vs.toArray:Array Value)=(.func (.yield (w.heap.size+1)) #[] #[]::vs).toArray:=by apply Array.ext';simp
    show(callFunc gf (#[.func (.yield (w.heap.size+1)) #[] #[]]++vs.toArray)).run P _=_;rw[this];exact hE _ _
   ·refine(callsIn_wide.2 ahf).mono ?_;rintro x w4 ⟨rr,O4,H,q1,q2,q3,q4⟩;cases rr with
    | panic m=>exact q4.elim
    | ret m=>
      cases x with
      | panicked c=>exact q3.elim
      | outgrown=>exact q3.elim
      | returned v=>
        obtain⟨kU,hM⟩:=q4;have afK:=q1.bD p2;obtain⟨b,hb,hh4⟩:=q2.obj _ _ kU;rw[afK]at hb;injection hb with hb;subst hb
        have hle:Gh.Le G H:=le1.trans (Q8.trans q1);refine⟨r.pending,_,run_endLoop hh4 (by rw[hr];simp),?_⟩
        have mo:oW G n M .normal {tmps:=a.tmps,defers:=[{target:=.collected w.heap.size,args:= #[]}]++a.defers} (w4.putObj (w.heap.size+1) (.loop {r with state:=.exhausted})):=
         ⟨.normal,e,_,H,O.next::js,{target:=.collected w.heap.size,args:= #[]}::D,hle,q2.setObj kU afK (fun _ _ _ e=>by cases e),⟨by show _::a.defers=_;rw[hf.defers],hf.size,(hf.mono hle).get⟩,⟨⟨w.heap.size,q1.bD (Q8.bD p1),rfl⟩,hm.mono hle⟩,trivial,hM⟩
        generalize w4.putObj (w.heap.size+1) (.loop {r with state:=.exhausted})=w5 at mo;split
        ·exact mo
        ·rename_i c hc;rw[hr]at hc;cases hc
theorem xw {fn:Func} {tmps:Array Value} {R:Ending->World->Prop} {N:Nat}:∀(js:List Nat) (D:List Deferred) (G:Gh) (O:VH) (w:World),ND G js D->WR G O w->js.Nodup->(∀j∈js,O.hp j=some (.obj (.deferred (some []))))->
  (∀O' w',WR G O' w'->O'.next=O.next->(∀i,i ∉ js->O'.hp i=O.hp i)->∃v,(results fn tmps).run P w'= .ok v w'/\R (.returned v) w')->LeavesInM Fence.wide N P fn tmps R D .returning w
 | [],[],G,O,w,_,hw,_,_,h=>h O w hw rfl fun _ _=>rfl
 | j::js,d::D,G,O,w,⟨⟨b,hb,hd⟩,hm⟩,hw,S1,ho,h=>by
   obtain⟨b',mz,hh⟩:=hw.obj j _ (ho j (by simp));rw[hb]at mz;injection mz with mz;subst mz
   have hj:=(List.nodup_cons.1 S1).1;have ru:=hw.setObj (Y:=.deferred none) (ho j (by simp)) hb (fun _ _ _ e=>by cases e);refine⟨by simp,.inl ⟨b,_,by rw[hd],run_takeDeferred hh,?_⟩⟩;refine xw js D G _ _ hm ru (List.nodup_cons.1 S1).2 (fun i hi=>?_) fun O' w' g1 g2 g3=>h O' w' g1 g2 fun i hi=>?_
   ·rw[VH.ak _ _ (fun e=>hj (by rw[<-e];exact hi))];exact ho i (by simp[hi])
   ·rw[List.mem_cons,not_or]at hi;rw[g3 i hi.2,VH.ak _ _ hi.1]
 | [],_::_,_,_,_,h,_,_,_,_=>h.elim
 | _::_,[],_,_,_,h,_,_,_,_=>h.elim
def ajI (tab:bS) (rs:List ResultVar) (R:fB->VH->Prop):Gg:=fun x e O js=>(x= .normal\/x= .ret)/\js.Nodup/\(∀j∈js,O.hp j=some (.obj (.deferred (some []))))/\∀O',O'.next=O.next->(∀i,i ∉ js->O'.hp i=O.hp i)->∃m,iy (fun r O'=>r= .ret m/\R r O') O' (gX tab e O' rs)
theorem VF.inM {f:FuncId} {fn:Func} {c:Code} {args:List MV} {R:fB->VH->Prop} (k:Nat) (rs:List ResultVar) (hf:P.funcs[f]?=some fn) (h:VM P ⟨k,0⟩ [] c (cc 0 args) O (ajI tab rs R)) (ht:aJ P tab:=by exact aa) (hb:fn.body=some c:=by exact rfl) (hk:(⟨fn.ntmps,0⟩:Sz)=⟨k,0⟩:=by exact rfl) (hr:fn.results.toList=rs:=by exact rfl) (hn:args.length<=k:=by exact Nat.le_of_ble_eq_true rfl):VF P f args O R:=by
 have hk:fn.ntmps=k:=by injection hk
 intro G w vs hw hv
 have aT:FR G ⟨k,0⟩ [] (cc 0 args) {tmps:=vs.toArray++Array.replicate (fn.ntmps - vs.toArray.size) undef,defers:=[]}:=by
  have hl:=hv.1;refine⟨rfl,by simp;omega,fun t x hx=>?_⟩;rw[gT,if_pos (Nat.zero_le _),Nat.sub_zero]at hx;obtain⟨u,h1,h2⟩:=hv.get hx;refine⟨u,?_,h2⟩;have dJ:=(List.getElem?_eq_some_iff.1 h1).1;rw[Array.getElem?_append_left (by simpa using dJ)];simpa using h1
 refine callsIn_wide.1 (callsIn_of_wp_marks (n:=0) hf hb trivial (wpIn_wide.2 (wp_mono (h G [] _ w hw trivial aT) ?_)));rintro y a' w' ⟨x,e',O',H,js,D,h1,h2,h3,h4,h5,h6,h7,h8,h9⟩
 have fin:LeavesInM Fence.wide 0 P fn a'.tmps (fun x w'=>∃r O' H,Gh.Le G H/\WR H O' w'/\ER H r x/\R r O') a'.defers .returning w':=by
  rw[h3.defers];refine xw js D H O' w' h4 h2 h7 h8 fun O2 w2 g1 g2 g3=>?_
  obtain⟨m,hm⟩:=h9 O2 g2 g3
  have key:∃m',cX tab fn e' O2=some m'/\R (.ret m') O2:=by
   unfold cX;rw[hr, <-rq];generalize gX tab e' O2 rs=z at hm;unfold iy at hm;split at hm
   ·exact hm.elim
   ·exact⟨_,rfl,hm.2⟩
   ·rename_i l hl;refine⟨.tuple l,?_,hm.2⟩
    match l,hl with
    | [],_=>rfl
    | [m],hl=>exact absurd rfl (hl m)
    | _::_::_,_=>rfl
  obtain⟨m',k1,k2⟩:=key;obtain⟨u,k3,k4⟩:=kJ (P:=P) ht g1 h3 k1;exact⟨u,k3,.ret m',O2,H,h1,g1,k4,k2⟩
 cases y with
 | normal=>exact fin
 | ret=>exact fin
 | panic c=>rcases h6 with rfl | rfl<;>exact False.elim h5
 | exit i=>rcases h6 with rfl | rfl<;>exact False.elim h5
 | goto i=>rcases h6 with rfl | rfl<;>exact False.elim h5
 | outgrown=>rcases h6 with rfl | rfl<;>exact False.elim h5
end
set_option maxRecDepth 10000
theorem WV (vb:Nat) (k:Ky) (O:VH):VF Tryz.prog 33 [.ptr vb 0,.agg (fX k)] O (aI fun m O'=>m= .func (.func 52) [] [.ptr O.next 0,.ptr (O.next+1) 0]/\O'=(O.push (.cells [.ptr vb 0])).push (.cells (fX k))):=by
 obtain⟨k1,k2,k3,k4⟩:=k;simp only[fX];refine VF.bU 6 [.tmp 4] Tryz.func33 ?_;refine VC.ag aa (ae @az ?_);refine WC.sound aa (ae @az ?_);try trivial
set_option maxHeartbeats 4000000 in
theorem Q9 (L:List Bn) (tk:Tok) (V:List Bool) (hL:L.length<=1000000) (hV:V.length=L.length) (k:Ky) (y b1 b2 vb lb cb mp:Nat) (J:Nat->VH->Prop) (hJ:∀j A B,J j A->A.Ge B->J j B)
  (hd:∀j A,J j A->(b1<A.next/\b2<A.next/\vb<A.next/\lb<A.next)/\A.hp b1=some (.cells [.ptr vb 0])/\A.hp b2=some (.cells (fX k))/\A.hp vb=some (.cells [.sl L.length (L.flatMap iD) tk,.bk lb 0 L.length L.length,.bk cb 0 L.length L.length,.map mp])/\A.hp lb=some (.cells (V.map mb)))
  (hs:∀j (h:j<L.length),(V.getD j false&&oB L[j].k k)=false->∀A,J j A->J (j+1) A)
  (hy:∀j (h:j<L.length),(V.getD j false&&oB L[j].k k)=true->∀A,J j A->VY Tryz.prog y [.agg (iD L[j])] A fun m O'=>m=mb true/\J (j+1) O') (O:VH) (h0:J 0 O):
  VF Tryz.prog 52 [.func (.yield y) [] [],.ptr b1 0,.ptr b2 0] O (aI fun _ O'=>J L.length O'):=by
 obtain⟨k1,k2,k3,k4⟩:=k;simp only[fX]at hd;have hlen:=aQ iU L;have kH:kZ (fL Tryz.prog) 22 (.sl L.length (L.flatMap iD) tk)=some (.v (.int .i64 L.length)):=lB FN;have gN:(V.map mb).length=L.length:=by simp[hV]
 have hgB:∀u,u<L.length->(V.map mb)[u]?=some (.v (.bool (V.getD u false))):=fun u hu=>by
  rw[List.getElem?_map,List.getD_eq_getElem?_getD,List.getElem?_eq_getElem (by omega)];rfl
 obtain⟨_,ha0,uN,IA,FD⟩:=hd 0 O h0;refine VF.bU 36 [] Tryz.func52 ?_;refine VC.ag aa (c8 @az @ha0 @IA @kH ?_);refine VC.aD ?_;refine VC.bH [11] [0,1,2,9,10] (fun j:Nat=>[mi j]) (fun j O'=>j<=L.length/\J j O') (fun j=>L.length - j) (0) ?_ ?_
 ·exact⟨Nat.zero_le _,h0⟩
 clear ha0 uN IA FD;rintro j O3 ⟨hj,Cq⟩;by_cases bd:j<L.length;rotate_left
 ·obtain rfl:j=L.length:=by omega
  refine WC.sound aa (ae @az ?_);exact Cq
 have dU:((j:Int)+1)=((j+1:Nat):Int):=by omega
 have bu:=cj iU L j bd;have WW:=hgB j bd;have hsj:=hs j bd;have hyj:=hy j bd;generalize L[j]=b at*;obtain⟨up,dp,od,⟨q1,q2,q3,q4⟩,v,hdd,rv,nn,iv,Gb,s,rd⟩:=b;simp only[iD,au,aY]at bu hyj;dsimp only at hsj hyj;generalize V.getD j false=vj at*;refine VC.ag aa (ae @az ?_);refine VC.ag aa (ae @az ?_);refine VC.bA (VC.aD ?_);refine VC.ag aa (ao @az @bu ?_);refine VC.al ?_;rintro O4 ⟨bh,jC,g_⟩;have hJ4:=hJ j O3 O4 Cq bh;obtain⟨⟨akG,ajt,aeX,aiV⟩,kx,cL,Ah,pX⟩:=hd j O4 hJ4;cases vj
 ·have hJ5:=hsj (by rw[Bool.false_and]) O4 hJ4;refine VC.ag aa (Ca @az @kx @Ah @pX @gN @WW ?_);refine WC.sound aa (ae @az ?_);refine WC.sound aa (ao @az @dU ?_);exact aC.next (j+1) ⟨bd,hJ5⟩
 rw[Bool.true_and]at hsj hyj;have hE:GX Tryz.prog (fL Tryz.prog) 9 30 (.agg [.str q1,.str q2,.str q3,.str q4]) (.agg [.str k1,.str k2,.str k3,.str k4])=some (oB ⟨q1,q2,q3,q4⟩ ⟨k1,k2,k3,k4⟩):=by kernel_rfl
 generalize oB ⟨q1,q2,q3,q4⟩ ⟨k1,k2,k3,k4⟩=ek at*;cases ek
 ·have hJ5:=hsj rfl O4 hJ4;refine VC.ag aa (UM @az @kx @Ah @pX @gN @WW @jC @cL ?_);refine VL.B6 aa (bb:=false) (b:=false) (by simp) (by simp[iJ]) (.inl ⟨rfl,rfl⟩) hE (by kernel_rfl) rfl rfl rfl rfl ?_;refine ae @az ?_;refine WC.sound aa (ae @az ?_);refine WC.sound aa (ao @az @dU ?_);exact aC.next (j+1) ⟨bd,hJ5⟩
 refine VC.bA ?_;refine VC.yield 16 rfl rfl rfl ?_;simp only[List.take_succ_cons,List.take_zero,List.map_cons,List.map_nil,List.drop_succ_cons,List.drop_zero];refine UM @az @kx @Ah @pX @gN @WW @jC @cL ?_;refine VL.B6 aa (bb:=true) (b:=true) (by simp) (by simp[iJ]) (.inl ⟨rfl,rfl⟩) hE (by kernel_rfl) rfl rfl rfl rfl ?_;refine ao @az @jC ?_;refine YW.mk (hyj rfl O4 hJ4) ?_;rintro _ O5 ⟨rfl,hJ5⟩;refine ae @az ?_;refine WC.sound aa (ae @az ?_);refine WC.sound aa (ao @az @dU ?_);exact aC.next (j+1) ⟨bd,hJ5⟩
theorem JI {j:Nat} {js:List Nat} {N:Nat} (h:js.Nodup) (hl:∀i∈js,i<N) (hj:N<=j):(j::js).Nodup:=List.nodup_cons.2 ⟨fun hm=>by have:=hl j hm;omega,h⟩
def JJ (O O':VH) (js:List Nat):Prop:=js.Nodup/\∀j∈js,O.next<=j/\j<O'.next/\O'.hp j=some (.obj (.deferred (some [])))
theorem JJ.ge {O A B:VH} {js:List Nat} (h:JJ O A js) (hg:A.Ge B):JJ O B js:=⟨h.1,fun j hj=>by
 obtain⟨h1,h2,h3⟩:=h.2 j hj;exact⟨h1,Nat.lt_of_lt_of_le h2 hg.next,hg.at h3⟩⟩
theorem GR.ec {O7 O6 O1:VH} {el:TypeId} {sz B n:Nat} {p:MV} {X:List MV} (h:GR O7 el sz B p n X) (hg:O1.Ge O7) (hB:O1.next<=B) (u:bj O7 (gid p) O6):O1.Ge O6:=by
 rcases h with⟨_,_,rfl | rfl⟩ | ⟨k,c,rfl,_,_,hr⟩
 ·exact bj.geN hg u
 ·exact bj.geN hg u
 ·exact bj.ge hg u (Nat.le_trans hB hr.lo)
theorem JJ.bl {O A B:VH} {js:List Nat} {el:TypeId} {sz b n:Nat} {p:MV} {X:List MV} (h:JJ O A js) (hr:GR A el sz b p n X) (u:bj A (gid p) B):JJ O B js:=⟨h.1,fun j hj=>by
 obtain⟨h1,h2,h3⟩:=h.2 j hj;refine⟨h1,Nat.lt_of_lt_of_le h2 u.next,(u.hp j h2 fun e=>?_).trans h3⟩;rcases hr with⟨_,_,rfl | rfl⟩ | ⟨k,c,rfl,_,_,hr⟩
 ·cases e
 ·cases e
 ·injection e with e;subst e;obtain⟨sp,h4,_⟩:=hr.cells;rw[h3]at h4;cases h4⟩
theorem GR.marks {A B:VH} {js:List Nat} {el:TypeId} {sz b n:Nat} {p:MV} {X:List MV} (hr:GR A el sz b p n X) (hn:B.next=A.next) (hi:∀i,i ∉ js->B.hp i=A.hp i) (hj:∀j∈js,A.hp j=some (.obj (.deferred (some [])))):GR B el sz b p n X:=by
 rcases hr with h | ⟨k,c,rfl,h1,h2,⟨sp,h3,h4⟩,⟨j,h5,h6,h7⟩,h8,h9⟩
 ·exact .inl h
 ·exact .inr ⟨k,c,rfl,h1,h2,⟨sp,(hi k fun h=>by rw[hj k h]at h3;cases h3).trans h3,h4⟩,⟨j,h5,by rw[hn];exact h6,(hi j fun h=>by rw[hj j h]at h7;cases h7).trans h7⟩,h8,by rw[hn];exact h9⟩
theorem VF.WX {P:Program} {f:FuncId} {args:List MV} {O:VH} {Φ Φ':MV->VH->Prop} (h:VF P f args O (aI Φ)) (hf:∀m O', Φ m O'-> Φ' m O'\/∃k o n c sz cs,m= .bk k o n c/\O'.hp k=some (.cells cs)/\o+sz<=cs.length/\ Φ' (.sl n ((cs.drop o).take sz) (if c=n then .full else .aq)) (O'.kill k)):VF P f args O (aI Φ'):=by
 intro G w vs hw hv;refine(h G w vs hw hv).mono fun x w' ⟨r,O',H,h1,h2,h3,h4⟩=>?_
 cases r with
 | panic m=>exact h4.elim
 | ret m=>
   cases x with
   | panicked c=>exact h3.elim
   | outgrown=>exact h3.elim
   | returned v=>
     rcases hf m O' h4 with g | ⟨k,o,n,c,sz,cs,rfl,g1,g2,g3⟩
     ·exact⟨.ret _,O',H,h1,h2,h3,g⟩
     ·obtain⟨H',e1,e2,e3⟩:=h2.freeze g1 h3 g2;exact⟨.ret _,_,H',h1.trans e1,e2,e3,g3⟩
theorem GR.wider {O:VH} {el:TypeId} {sz B B' n:Nat} {p:MV} {X:List MV} (h:GR O el sz B p n X) (hB:B'<=B):GR O el sz B' p n X:=by
 rcases h with h | ⟨k,c,h1,h2,h3,h4⟩
 ·exact .inl h
 ·exact .inr ⟨k,c,h1,h2,h3,h4.wider hB⟩
theorem abQ (b:Bn) (M:List (Bn×Bool)) (h:¬b.dp>1):nq b M=b.s:=by
 have:∀(M:List (Bn×Bool)) (s:Int),M.foldl (fun s p=>if decide (b.dp>1)&&(p.2&&oB p.1.k b.k)then Ai s p.1.s else s) s=s:=by
  intro M;induction M with
  | nil=>intro s;rfl
  | cons p M ih=>intro s;rw[List.foldl_cons,decide_eq_false h,Bool.false_and,if_neg (by decide)];simpa[h]using ih s
 exact this M b.s
theorem jR.al {P:Program} {n:Sz} {js:List Nat} {c:Code} {M:Gg} {e:Env} {O:VH} {z cs:List MV} (h:∀O3,pr O cs O3->VM P n js c e O3 M):jR P n js c M e ((O.push (.cells z)).set O.next (.cells cs)):=h _ pr.al
theorem RdA.al {P:Program} {n:Sz} {y k:Nat} {r:Loop} {R:MV->VH->Prop} {body:Code} {e:Env} {O:VH} {z cs:List MV} (h:∀O3,pr O cs O3->RdA P n y k r body R .normal e O3):RdA P n y k r body R .normal e ((O.push (.cells z)).set O.next (.cells cs)):=h _ pr.al
set_option maxHeartbeats 8000000 in
theorem HT (L:List Bn) (tk:Tok) (O:VH) (hL:L.length<=1000000) (hk:∀b∈L,∀s∈dd b.k,s.length<=maxLen):VF Tryz.prog 13 [.sl L.length (L.flatMap iD) tk] O (aI fun m O'=>O.Ge O'/\GR O' 39 7 O.next m (iV L).length ((iV L).flatMap i_)):=by
 have hlen:=aQ iU L;have kH:kZ (fL Tryz.prog) 22 (.sl L.length (L.flatMap iD) tk)=some (.v (.int .i64 L.length)):=lB FN;have kc:=mu L;have hde:=HL L tk hL hk O;unfold iV;refine VF.inM 53 [.tmp 2] Tryz.func13 ?_;simp only[cc,Nat.zero_add,Nat.reduceAdd];refine VM.qG fun D=>?_
 refine ae @az ?_;refine jR.mk ?_;refine VM.qG fun D=>?_
 refine ae @az ?_;refine ah.rt hde ?_;clear hde;rintro _ O1 ⟨vb,lb,cb,mp,rfl,hvd⟩;generalize bz L=DD at*;obtain⟨C,V,K⟩:=DD;dsimp only at kc hvd ⊢;clear K;obtain⟨aU,qd,sQ,fx,ua,Wi⟩:=hvd;have PB:(C.map mb).length=L.length:=by simp[kc.1]
 have hgB:∀(W:List Bool),W.length=L.length->∀u,u<L.length->(W.map mb)[u]?=some (.v (.bool (W.getD u false))):=fun W h u hu=>by
  rw[List.getElem?_map,List.getD_eq_getElem?_getD,List.getElem?_eq_getElem (by omega)];rfl
 refine ae @az ?_;refine jR.mk ?_;refine VM.join [2] (fun p:MV=>[p]) (fun p O' js=>O.Ge O'/\GR O' 39 7 O.next p (tW L C V L.length).length ((tW L C V L.length).flatMap i_)/\JJ O O' js) ?_ ?_
 ·refine VM.qG fun D=>?_
  refine ao @az @kH ?_;refine jR.mk ?_;refine VM.block ?_;refine VM.loop [2,12] [3,10,11] (fun x:Nat×MV=>[x.2,mi x.1]) (fun x O' js=>x.1<=L.length/\O1.Ge O'/\GR O' 39 7 O1.next x.2 (tW L C V x.1).length ((tW L C V x.1).flatMap i_)/\JJ O O' js) (fun x=>L.length - x.1) (0,.sl 0 [] .nil) ?_ ?_
  ·exact⟨Nat.zero_le _,VH.Ge.refl _,.inl ⟨rfl,rfl,.inl rfl⟩,List.nodup_nil,fun j hj=>by cases hj⟩
  rintro⟨j,t1⟩ O3 js ⟨hj,aO,cV,lA⟩;dsimp only at hj cV;by_cases bd:j<L.length;rotate_left
  ·obtain rfl:j=L.length:=by omega
   refine VM.qG fun D=>?_
   refine ae @az ?_;refine jR.mk ?_;refine VM.qG fun D=>?_
   refine ae @az ?_;exact HS.ex ⟨t1,rfl,aU.trans aO,cV.wider aU.next,lA⟩
  have dU:((j:Int)+1)=((j+1:Nat):Int):=by omega
  have bu:=cj iU L j bd;have iA:tW L C V (j+1)=tW L C V j++if C.getD j false then[⟨L[j].k,j,L[j].v,nq L[j] (L.zip V)⟩]else[]:=by rw[tW,List.getElem?_eq_getElem bd]
  obtain⟨g,lO,hgs,so⟩:=QY L[j] L V kc.2;generalize L[j]=b at*;obtain⟨up,dp,od,⟨k1,k2,k3,k4⟩,v,hd,rv,nn,iv,Gb,s,rd⟩:=b;simp only[iD,au,aY]at bu;dsimp only at lO hgs iA;have QW:=hgB C kc.1 j bd;have kG:=EU L C V j;have hv3:=aO.at qd;have eJ:=aO.at fx;have mY:=aO.at sQ;have n3:=aO.next;have n1:=aU.next;refine VM.qG fun D=>?_
  refine ae @az ?_;refine jR.mk ?_;refine VM.qG fun D=>?_
  refine ae @az ?_;refine jR.mk ?_;refine VM.seq (VM.block ?_);refine VM.qG fun D=>?_
  refine ao @az @bu ?_;refine jR.al ?_;rintro O4 ⟨bh,jC,g_⟩;have Ah:=bh.at hv3;have eX:=bh.at eJ;have pX:=bh.at mY;cases hc:C.getD j false
  ·rw[hc]at QW iA;rw[if_neg (by decide),List.append_nil]at iA;refine VM.qG fun D=>?_
   refine iL @az @Ah @eX @PB @QW ?_;refine HS.ex (VM.FM fun D=>?_);refine WC.sound aa (ao @az @dU ?_);exact⟨rfl,(j+1,t1),rfl,⟨bd,aO.trans bh,by rw[iA];exact cV.xM (bj.lC bh),lA.ge bh⟩,by dsimp only;omega⟩
  rw[hc]at QW iA;rw[if_pos rfl]at iA;refine VM.qG fun D=>?_
  refine iL @az @Ah @eX @PB @QW ?_;refine jR.mk ?_;refine VM.qG fun D=>?_
  refine ao @az @jC ?_;refine jR.al ?_;rintro O5 ⟨bK,m6,gu⟩;have cR:=bK.at jC;have oy:=bK.at Ah;have Gc:=bK.at pX;have SW:=lA.ge (bh.trans bK);refine VM.join [2,3,6,10,11,12] (fun _:Unit=>[t1,.ptr vb 0,.ptr O4.next 0,.sl L.length (L.flatMap iD) tk,.v (.int .i64 L.length),.v (.int .i64 j)]) (fun _ O' vE=>O4.Ge O'/\O4.next<O'.next/\O'.hp O4.next=some (.cells [.str k1,.str k2,.str k3,.str k4,.v (.int .i64 j),.str v,.v (.int .i64 (nq ⟨up,dp,od,⟨k1,k2,k3,k4⟩,v,hd,rv,nn,iv,Gb,s,rd⟩ (L.zip V)))])/\JJ O O' vE) ?_ ?_
  ·by_cases h2:dp>1;rotate_left
   ·have e1:decide (dp>=2)=false:=decide_eq_false (by omega);have e2:decide (2<=dp)=false:=e1;refine VM.FM fun D=>?_
    refine WC.sound aa (c8 @az @cR @e1 @e2 ?_);exact⟨(),rfl,bK,by omega,by rw[abQ _ _ h2];exact m6,SW⟩
   have e1:decide (dp>=2)=true:=decide_eq_true (by omega);have e2:decide (2<=dp)=true:=e1;have e3:decide (dp>1)=true:=decide_eq_true h2;simp only[e3,Bool.true_and]at hgs;refine VM.qG fun D=>?_
   refine c8 @az @cR @e1 @e2 ?_;refine jR.mk ?_;refine VM.cond (t:=true) rfl ?_;rw[if_pos rfl];have abR:=WV vb ⟨k1,k2,k3,k4⟩ O5;simp only[fX]at abR;refine VM.qG fun D=>?_
   refine ao @az @cR ?_;refine ah.rt abR ?_;clear abR;rintro _ O6 ⟨rfl,e6⟩;obtain⟨fS,ny,tT,oL⟩:=gh _ _ e6;clear e6;refine ae @az ?_;refine jR.mk ?_;refine VM.block ?_;refine VM.aea rfl (Enters.sf (by kernel_rfl)) ?_;intro y r F eF ng fj gn FZ wP;obtain⟨Q_,Qr,P1,IX,P2⟩:=lQ _ _ _ eF;clear eF;have hcF:F.hp O4.next=some (.cells [.str k1,.str k2,.str k3,.str k4,.v (.int .i64 j),.str v,.v (.int .i64 (g 0))]):=by rw[lO];exact Q_.at (fS.at m6)
   have haF:=Q_.at tT;have hkF:=Q_.at oL;have hvF:=Q_.at (fS.at oy);have hlF:=Q_.at (fS.at Gc);have n6:=fS.next;refine VF.mono ?_ (Q9 L tk V hL kc.2 ⟨k1,k2,k3,k4⟩ y O5.next (O5.next+1) vb lb cb mp (fun k A=>F.next<=A.next/\(∀i,i<F.next->i≠O4.next->A.hp i=F.hp i)/\A.hp O4.next=some (.cells [.str k1,.str k2,.str k3,.str k4,.v (.int .i64 j),.str v,.v (.int .i64 (g k))])) ?_ ?_ ?_ ?_ F ⟨Nat.le_refl _,fun _ _ _=>rfl,hcF⟩)
   ·rintro(m | m) A hA;rotate_left
    ·exact hA.elim
    obtain⟨hA1,hA2,WH⟩:=hA;rw[so]at WH;refine⟨(hA2 _ (by omega) (by omega)).trans IX,?_⟩;refine⟨(),rfl,⟨?_,?_⟩,?_,?_,?_,?_⟩
    ·show O4.next<=A.next;omega
    ·intro i hi;rw[VH.ak _ _ (by omega),hA2 i (by omega) (by omega),Q_.hp i (by omega),fS.hp i (by omega),bK.hp i hi]
    ·show O4.next<A.next;omega
    ·rw[VH.ak _ _ (by omega)];exact WH
    ·refine JI SW.1 (N:=O5.next) (fun i hi=>(SW.2 i hi).2.1) (by omega)
    ·intro i hi;rcases List.mem_cons.1 hi with rfl | hi
     ·refine⟨by omega,by show _<A.next;omega,?_⟩;rw[VH.ak _ _ (by omega),hA2 _ (by omega) (by omega)];exact P1
     ·obtain⟨q1,q2,q3⟩:=SW.2 i hi;refine⟨q1,by show _<A.next;omega,?_⟩;have hne:i≠O4.next:=fun e=>by subst e;rw[m6]at q3;cases q3
      rw[VH.ak _ _ (by omega),hA2 i (by omega) hne,Q_.hp i (by omega),fS.hp i (by omega)];exact q3
   ·rintro k A B ⟨h1,h2,h3⟩ hAB;have:=hAB.next;exact⟨by omega,fun i hi hne=>(hAB.hp i (by omega)).trans (h2 i hi hne),(hAB.hp _ (by omega)).trans h3⟩
   ·rintro k A ⟨h1,h2,h3⟩;exact⟨by omega,(h2 _ (by omega) (by omega)).trans haF,(h2 _ (by omega) (by omega)).trans hkF,(h2 _ (by omega) (by omega)).trans hvF,(h2 _ (by omega) (by omega)).trans hlF⟩
   ·rintro k bN C8 A ⟨h1,h2,h3⟩;have:=hgs k bN;rw[C8,if_neg (by decide)]at this;exact⟨h1,h2,by rw[this];exact h3⟩
   ·rintro k bN C8 A ⟨h1,h2,h3⟩;have jD:=hgs k bN;rw[C8,if_pos rfl]at jD;clear C8;generalize L[k]=z at*;obtain⟨zu,zd,zo,⟨z1,z2,z3,z4⟩,zv,zh,zr,zn,zi,zt,zs,zq⟩:=z;simp only[iD,au,aY];dsimp only at jD;have hkA:=(h2 (O6.next+1) (by omega) (by omega)).trans IX;refine VY.round (ps:=[40]) hkA ((h2 (O6.next+2) (by omega) (by omega)).trans P2) ng (by rw[gn]) rfl rfl ?_;rw[FZ,wP];refine Gf.region ?_;simp only[q_];refine ae @az ?_;refine RdA.al ?_;rintro A1 ⟨pU,hzA,hnA⟩;have Jf:=pU.at h3 (hk:=by omega);refine⟨rfl,pU.at hkA (hk:=by omega),?_⟩;refine Gf.block (Gf.region ?_);have hw:=Wn (g k) zs (A1.set (O6.next+1) (.obj (.loop {r with state:=.busy})));simp only[au]at hw;have mz:=VH.an A1 (O6.next+1) (.obj (.loop {r with state:=.busy}));refine aM @az @Jf @hzA ?_;refine ah.rt hw ?_;clear hw;rintro _ Ox ⟨rfl,eO⟩;rw[eO];clear eO Ox
    rw[<-jD];refine ao @az @Jf ?_;refine⟨rfl,(VH.ak _ _ (by omega)).trans mz,rfl,?_,?_,?_⟩
    ·show F.next<=A1.next;omega
    ·intro i hi hne;by_cases e:i=O6.next+1
     ·subst e;rw[VH.an,IX]
      congr 3
      rw[<-fj]
     ·rw[VH.ak _ _ e,VH.ak _ _ hne,VH.ak _ _ e,pU.hp i (by omega)];exact h2 i hi hne
    ·rw[VH.ak _ _ (by omega)];exact VH.an _ _ _
  rintro _ O7 js7 ⟨en,sw,hc7,ajJ⟩;have lF:=aO.trans (bh.trans en);have Eo:=cV.xM (bj.lC (bh.trans en));refine VM.FM fun D=>?_
  refine WC.sound aa (ao @az @hc7 ?_);refine VL.grow aa (.inl rfl) (te:=⟨_,7,96,_⟩) (dx:=.slice 39) (q:=.sl 1 [.str k1,.str k2,.str k3,.str k4,.v (.int .i64 j),.str v,.v (.int .i64 (nq ⟨up,dp,od,⟨k1,k2,k3,k4⟩,v,hd,rv,nn,iv,Gb,s,rd⟩ (L.zip V)))] .full) (j:=1) (ds:=[.str k1,.str k2,.str k3,.str k4,.v (.int .i64 j),.str v,.v (.int .i64 (nq ⟨up,dp,od,⟨k1,k2,k3,k4⟩,v,hd,rv,nn,iv,Gb,s,rd⟩ (L.zip V)))]) Eo rfl rfl (by rw[T36];rfl) T39.1.1 (by rw[T36];rfl) trivial (by dsimp only;omega) (by simp only[maxLen];omega) lF.next rfl rfl rfl rfl ?_;intro m8 O8 gq qg _ _;refine ae @az ?_;refine VM.FM fun D=>?_
  refine WC.sound aa (ao @az @dU ?_);exact⟨rfl,(j+1,m8),rfl,⟨bd,Eo.ec lF (Nat.le_refl _) qg,by rw[iA,List.length_append,List.flatMap_append,List.flatMap_singleton];exact gq,ajJ.bl Eo qg⟩,by dsimp only;omega⟩
 rintro t O2 js ⟨ay,fj,SX⟩;refine VM.qG fun D=>?_
 refine ae @az ?_;refine jR.mk ?_;refine VM.FM fun D=>?_
 refine WC.sound aa (ae @az ?_);refine⟨.inr rfl,SX.1,fun j hj=>(SX.2 j hj).2.2,fun O' hn hi=>⟨_,rfl,⟨?_,fun i h=>?_⟩,fj.marks hn hi fun j hj=>(SX.2 j hj).2.2⟩⟩
 ·rw[hn];exact ay.next
 ·rw[hi i (fun hm=>by have:=(SX.2 i hm).1;omega)];exact ay.hp i h
theorem Fh:HM:=by
 intro L tk O hL hk;refine VF.WX (HT L tk O hL hk) ?_;rintro m O' ⟨hg,hr⟩;rcases hr with⟨h1,h2,rfl | rfl⟩ | ⟨k,c,rfl,h1,h2,h3⟩
 ·exact .inl ⟨⟨.nil,by rw[h1,h2]⟩,hg⟩
 ·exact .inl ⟨⟨.full,by rw[h1,h2]⟩,hg⟩
 ·obtain⟨sp,h4,h5⟩:=h3.cells;exact .inr ⟨k,0,_,c,(iV L).length*7,_,rfl,h4,by rw[List.length_append];omega,⟨_,by rw[List.drop_zero,List.take_append_of_le_length (by omega),List.take_of_length_le (by omega)]⟩,hg.kill h3.lo⟩
theorem NG (L:List Bn) (C V:List Bool):∀(n:Nat) (c:Ch),c∈tW L C V n->∃j b,j<n/\L[j]?=some b/\C.getD j false=true/\c=⟨b.k,j,b.v,nq b (L.zip V)⟩
 | 0,c,h=>by cases h
 | n+1,c,h=>by
   rw[tW,List.mem_append]at h;rcases h with h | h
   ·obtain⟨j,b,h1,h2⟩:=NG L C V n c h;exact⟨j,b,by omega,h2⟩
   ·cases hL:L[n]? with
    | none=>rw[hL]at h;cases h
    | some b=>
      rw[hL]at h;dsimp only at h;by_cases hc:C.getD n false=true
      ·rw[if_pos hc]at h;exact⟨n,b,by omega,hL,hc,by simpa using h⟩
      ·rw[if_neg hc]at h;cases h
section
variable {P:Program} {tab:bS} {n:Sz} {D:List Deferred} {e:Env} {O:VH} {Q:VQ}
end
open Go.ChangeShapes
section
variable {H:Type} {enc:TypeId×Value->H} {P:Program} {w:World} {sp:Nat->Bool} {held:Bool} {t e:TypeId} {α β :Type}
def jw (enc:TypeId×Value->H) (P:Program) (w:World) (sp:Nat->Bool) (held:Bool) (t:TypeId) (f: α ->List MV) (p: α ->Prop):Prop:=El enc P w sp held t fun ms=>∃y,ms=f y/\p y
theorem jw.int {k:IntKind} (ht:P.underlying t=some (.int k)):jw enc P w sp held t (fun n:Int=>[.v (.int k n)]) (PC k):=El.aik ht
theorem jw.bool (ht:P.underlying t=some .bool):jw enc P w sp held t (fun b:Bool=>[mb b]) (fun _=>True):=El.agw ht
theorem jw.str (ht:P.underlying t=some .string):jw enc P w sp held t (fun l:List UInt8=>[.str l]) (fun l=>l.length<=maxLen):=El.str ht
theorem HU {f: α ->List MV} {p: α ->Prop}:∀{rows:List (List MV)},(∀r∈rows,∃x,r=f x/\p x)->∃xs:List α,rows.length=xs.length/\rows.flatten=xs.flatMap f/\∀x∈xs,p x
 | [],_=>⟨[],rfl,rfl,by simp⟩
 | r::rows,h=>by
   obtain⟨xs,h1,h2,h3⟩:=HU fun r hr=>h r (List.mem_cons_of_mem _ hr)
   obtain⟨x,h4,h5⟩:=h r (List.mem_cons_self ..)
   exact⟨x::xs,by simp[h1],by rw[h4];simp[h2],fun y hy=>by
    rcases List.mem_cons.1 hy with rfl | hy
    ·exact h5
    ·exact h3 y hy⟩
theorem jw.slice {f: α ->List MV} {p: α ->Prop} (ht:P.underlying t=some (.slice e)) (n9:0<P.cellsOf e) (he:jw enc P w sp held e f p):
  jw enc P w sp held t (fun y:List α ×Tok=>[.sl y.1.length (y.1.flatMap f) y.2]) (fun y=>(∀x∈y.1,p x)/\y.1.length<=maxLen):=
 (El.slice ht he n9).imp fun ms ⟨rows,tk,h1,h2,h3⟩=>by
  obtain⟨xs,h4,h5,h6⟩:=HU h2;exact⟨(xs,tk),by rw[h1,h4,h5],h6,by show xs.length<=maxLen;omega⟩
def ja (enc:TypeId×Value->H) (P:Program) (w:World) (sp:Nat->Bool) (held:Bool) (fs:List Field) (k N:Nat) (f: α ->List MV) (p: α ->Prop):Prop:=
 ∀cs:List Value,cs.length=N->(∀g∈fs,k<=g.offset)/\((∀g∈fs,∃fuel x,DataW.trod enc P w 0 sp held fuel g.type ((cs.drop (g.offset - k)).take (P.cellsOf g.type))=some x)->∃y,aL (G0 w) (f y) cs/\p y)
theorem ja.one {g:Field} {k n:Nat} {f: α ->List MV} {p: α ->Prop} (ho:g.offset=k) (hn:P.cellsOf g.type=n) (he:jw enc P w sp held g.type f p):ja enc P w sp held [g] k n f p:=by
 intro cs iA;refine⟨fun g' hg=>by rw[List.mem_singleton.1 hg];omega,fun h=>?_⟩;obtain⟨fuel,x,hx⟩:=h g (by simp);rw[ho,Nat.sub_self,List.drop_zero,hn,List.take_of_length_le (by omega)]at hx;obtain⟨ms,h1,y,rfl,h3⟩:=he _ _ _ hx;exact⟨y,h1,h3⟩
theorem ja.cons {g:Field} {fs:List Field} {k n N:Nat} {f: α ->List MV} {p: α ->Prop} {f': β ->List MV} {p': β ->Prop} (ho:g.offset=k) (hn:P.cellsOf g.type=n) (he:jw enc P w sp held g.type f p) (hr:ja enc P w sp held fs (k+n) N f' p'):
  ja enc P w sp held (g::fs) k (n+N) (fun y: α × β =>f y.1++f' y.2) (fun y=>p y.1/\p' y.2):=by
 intro cs iA;obtain⟨Cg,hr'⟩:=hr (cs.drop n) (by rw[List.length_drop];omega);refine⟨fun g' hg=>?_,fun h=>?_⟩
 ·rcases List.mem_cons.1 hg with rfl | hg
  ·omega
  ·have:=Cg g' hg;omega
 ·obtain⟨fuel,x,hx⟩:=h g (by simp);rw[ho,Nat.sub_self,List.drop_zero,hn]at hx;obtain⟨ms,h1,y,rfl,h3⟩:=he _ _ _ hx
  obtain⟨z,h4,h5⟩:=hr' fun g' hg=>by
   obtain⟨fuel,x,hx⟩:=h g' (List.mem_cons_of_mem _ hg);have:=Cg g' hg;refine⟨fuel,x,?_⟩;rw[List.drop_drop,show n+(g'.offset - (k+n))=g'.offset - k by omega];exact hx
  refine⟨(y,z),?_,h3,h5⟩;have:=aL.append h1 h4
  rwa [List.take_append_drop]at this
theorem jw.struct {fs:Array Field} {N:Nat} {f: α ->List MV} {p: α ->Prop} (ht:P.underlying t=some (.struct fs)) (n9:P.cellsOf t=N) (hf:ja enc P w sp held fs.toList 0 N f p):jw enc P w sp held t f p:=by
 intro fuel cs x h;obtain⟨xs,n,rfl,rfl,hl,Cd,hfi⟩:=DataW.trod_struct ht h;obtain⟨_,h2⟩:=hf cs (by omega)
 obtain⟨y,h3,h4⟩:=h2 fun g hg=>by
  obtain⟨i,hi,rfl⟩:=List.getElem_of_mem hg;have h5:=hfi i fs.toList[i] (by rw[<-Array.getElem?_toList,List.getElem?_eq_getElem]);have akH:fs.toList.length=fs.size:=by simp
  rw[List.getElem?_eq_getElem (by omega)]at h5;exact⟨_,_,h5⟩
 exact⟨_,h3,y,rfl,h4⟩
theorem jw.arg {f: α ->List MV} {p: α ->Prop} (h:jw enc P w sp held t f p) {v:Value} {d:DataW H} {ps:List MemPlace} (hd:DataW.Trod enc P w 0 sp held t v d ps) (hc:v.cells= #[v]):∃m y,VR (G0 w) m v/\[m]=f y/\p y:=by
 obtain⟨m,h1,y,h2,h3⟩:=El.arg h hd hc;exact⟨m,y,h1,h2,h3⟩
end
abbrev IvT:=(Bool×Bs×Bool)×Bool×Bs×Bool
abbrev BrT:=Int×Int×Int×(Bs×Bs×Bs×Bs)×Bs×(Bool×Bs×List IvT×Tok)×Int×Bool
def ajK (y:IvT):List MV:=[mb y.1.1,.str y.1.2.1,mb y.1.2.2,mb y.2.1,.str y.2.2.1,mb y.2.2.2]
def SY (y:BrT):Bn:=⟨y.1,y.2.1,y.2.2.1,⟨y.2.2.2.1.1,y.2.2.2.1.2.1,y.2.2.2.1.2.2.1,y.2.2.2.1.2.2.2⟩,y.2.2.2.2.1,y.2.2.2.2.2.1.1,y.2.2.2.2.2.1.2.1,y.2.2.2.2.2.1.2.2.1.length,y.2.2.2.2.2.1.2.2.1.flatMap ajK,y.2.2.2.2.2.1.2.2.2,y.2.2.2.2.2.2.1,y.2.2.2.2.2.2.2⟩
def ajL (y:Bs×Bs×Bs×Bs):Prop:=y.1.length<=maxLen/\y.2.1.length<=maxLen/\y.2.2.1.length<=maxLen/\y.2.2.2.length<=maxLen
def ivP (y:IvT):Prop:=(True/\y.1.2.1.length<=maxLen/\True)/\True/\y.2.2.1.length<=maxLen/\True
def brP (y:BrT):Prop:=PC .i64 y.1/\PC .i64 y.2.1/\PC .i64 y.2.2.1/\ajL y.2.2.2.1/\y.2.2.2.2.1.length<=maxLen/\(True/\y.2.2.2.2.2.1.2.1.length<=maxLen/\(∀z∈y.2.2.2.2.2.1.2.2.1,ivP z)/\y.2.2.2.2.2.1.2.2.1.length<=maxLen)/\PC .i64 y.2.2.2.2.2.2.1/\True
theorem WY {l:List BrT} (h:∀x∈l,brP x):∀b∈l.map SY,∀s∈dd b.k,s.length<=maxLen:=by
 intro b hb s hs;obtain⟨x,hx,rfl⟩:=List.mem_map.1 hb;obtain⟨_,_,_,⟨h1,h2,h3,h4⟩,_⟩:=h x hx;simp only[dd,SY,List.mem_cons,List.not_mem_nil,or_false]at hs;rcases hs with rfl | rfl | rfl | rfl<;>assumption
theorem liv:EV:=abO Fh
def An {α :Type}:List Bool->List α ->List α
 | v::V,x::X=>if v then x::An V X else An V X
 | _,_=>[]
def fb:List Bool->Nat->Nat
 | _,0=>0
 | [],_=>0
 | v::V,j+1=>(if v then 1 else 0)+fb V j
theorem r3:∀(V:List Bool) (j:Nat) (h:j<V.length),fb V (j+1)=fb V j+if V[j]then 1 else 0
 | [],j,h=>by simp at h
 | v::V,0,h=>by simp[fb]
 | v::V,j+1,h=>by
   have:=r3 V j (by simpa using h);rw[fb,this,fb];simp only[List.getElem_cons_succ];omega
theorem HV {α :Type}:∀(V:List Bool) (X:List α) (v:Bool) (x: α),X.length=V.length->An (V++[v]) (X++[x])=An V X++if v then[x]else[]
 | [],[],v,x,_=>by cases v<;>rfl
 | [],_::_,_,_,h=>by simp at h
 | _::_,[],_,_,h=>by simp at h
 | a::V,y::X,v,x,h=>by
   have:=HV V X v x (by simpa using h);rw[List.cons_append,List.cons_append,An,this,An];cases a<;>rfl
theorem Fi {α :Type}:∀(V:List Bool) (X:List α) (j:Nat) (h:j<V.length) (hx:X.length=V.length),V[j]=true->(An V X)[fb V j]?=some (X[j]'(by omega))
 | [],X,j,h,_,_=>by simp at h
 | v::V,[],j,h,hx,_=>by simp at hx
 | v::V,x::X,0,h,hx,hv=>by
   simp only[List.getElem_cons_zero]at hv;subst hv;rfl
 | v::V,x::X,j+1,h,hx,hv=>by
   have:=Fi V X j (by simpa using h) (by simpa using hx) (by simpa using hv);rw[An,fb];cases v
   ·simpa using this
   ·simp only[if_true];rw[show 1+fb V j=fb V j+1 by omega,List.getElem?_cons_succ];simpa using this
theorem HW:∀(V:List Bool) (j n:Nat),j<=n->fb (V.take n) j=fb V j
 | _,0,_,_=>by simp[fb]
 | [],j+1,n,h=>by simp
 | v::V,j+1,0,h=>by omega
 | v::V,j+1,n+1,h=>by rw[List.take_succ_cons,fb,fb,HW V j n (by omega)]
def wV (V:List Bool) (u:Nat):Int:=if V.getD u false then(fb V u:Int)else 0
def Ao (V:List Bool) (b:Bn):Bn:=if 0<=b.up then{b with up:=wV V b.up.toNat}else b
def gH (L:List Bn) (V:List Bool):Nat->List Bn
 | 0=>[]
 | j+1=>gH L V j++match L[j]? with
   | some b=>if V.getD j false then[Ao V b]else[]
   | none=>[]
def JK (L:List Bn):Prop:=∀(j:Nat) (b:Bn),L[j]?=some b->(j=0->b.up= -1)/\(0<j->0<=b.up/\b.up<(j:Int))
theorem Ra {V:List Bool} {j:Nat} {a d:Bool} (h:j<V.length):(V++[a]).getD j d=V.getD j d:=by
 rw[List.getD_eq_getElem?_getD,List.getD_eq_getElem?_getD,List.getElem?_append_left h]
theorem vF {V:List Bool} {j:Nat} {d:Bool} (h:j<V.length):V.getD j d=V[j]:=by
 rw[List.getD_eq_getElem?_getD,List.getElem?_eq_getElem h];rfl
theorem sW (V:List Bool) (b:Bn):(Ao V b).k=b.k/\(Ao V b).s=b.s/\(Ao V b).dp=b.dp/\(Ao V b).v=b.v:=by
 unfold Ao;split<;>exact⟨rfl,rfl,rfl,rfl⟩
theorem NH (L:List Bn):∀j,j<=L.length->∀u,(bz (L.take j)).1.getD u false=true->(bz (L.take j)).2.1.getD u false=true:=by
 intro j;induction j with
 | zero=>intro _ u h;simp[bz]at h
 | succ j ih=>
   intro hj u h;have hl:=mu (L.take j);rw[List.length_take,Nat.min_eq_left (by omega)]at hl;rw[show L.take (j+1)=L.take j++[L[j]] by rw[List.take_append_getElem (by omega)],p5]at h ⊢;simp only[fD]at h ⊢;by_cases hu:u<j
   ·rw[Ra (by omega)]at h ⊢;exact ih (by omega) u h
   ·by_cases he:u=j
    ·subst he;rw[List.getD_eq_getElem?_getD,List.getElem?_append_right (by omega),hl.1,Nat.sub_self]at h;rw[List.getD_eq_getElem?_getD,List.getElem?_append_right (by omega),hl.2,Nat.sub_self];simp only[List.getElem?_cons_zero,Option.getD_some,Bool.and_eq_true]at h ⊢;exact h.1
    ·rw[List.getD_eq_getElem?_getD,List.getElem?_eq_none (by simp;omega)]at h;cases h
theorem HX (L:List Bn):∀j,j<=L.length->(bz (L.take j)).1=(bz L).1.take j/\(bz (L.take j)).2.1=(bz L).2.1.take j:=by
 have step:∀n,n<=L.length->∀j,j<=n->(bz (L.take j)).1=(bz (L.take n)).1.take j/\(bz (L.take j)).2.1=(bz (L.take n)).2.1.take j:=by
  intro n;induction n with
  | zero=>intro _ j hj;obtain rfl:j=0:=by omega
          simp[bz]
  | succ n ih=>
    intro hn j hj;have hl:=mu (L.take n);rw[List.length_take,Nat.min_eq_left (by omega)]at hl;by_cases h:j=n+1
    ·subst h;have o5:=mu (L.take (n+1));rw[List.length_take,Nat.min_eq_left (by omega)]at o5;exact⟨(List.take_of_length_le (by omega)).symm,(List.take_of_length_le (by omega)).symm⟩
    ·obtain⟨h1,h2⟩:=ih (by omega) j (by omega);rw[show L.take (n+1)=L.take n++[L[n]] by rw[List.take_append_getElem (by omega)],p5];simp only[fD];rw[h1,h2,List.take_append_of_le_length (by omega),List.take_append_of_le_length (by omega)];exact⟨rfl,rfl⟩
 intro j hj;have:=step L.length (Nat.le_refl _) j hj
 rwa [List.take_length]at this
theorem r4 (L:List Bn) (V:List Bool) (hV:V.length=L.length):∀j,j<=L.length->(gH L V j).length=fb V j
 | 0,_=>by simp[gH,fb]
 | j+1,h=>by
   have:=r4 L V hV j (by omega);rw[gH,List.length_append,this,r3 V j (by omega),List.getElem?_eq_getElem (by omega),vF (by omega)];cases V[j]<;>simp
theorem abS (L:List Bn) (ht:JK L):∀j,j<=L.length->bz (gH L (bz L).2.1 j)=(An ((bz L).2.1.take j) ((bz L).1.take j),List.replicate (fb (bz L).2.1 j) true,(bz (L.take j)).2.2):=by
 intro j;have WZ:=mu L;have zO:=NH L L.length (Nat.le_refl _);rw[List.take_length]at zO;induction j with
 | zero=>intro _;simp[gH,bz,fb,An]
 | succ j ih=>
   intro hj;have hih:=ih (by omega);have eG:=HX L j (by omega);have afL:=HX L (j+1) (by omega);have cP:L.take (j+1)=L.take j++[L[j]]:=by rw[List.take_append_getElem (by omega)]
   have nP:=p5 (L.take j) L[j];rw[<-cP]at nP;have iA:=r3 (bz L).2.1 j (by omega);have jF:=r4 L (bz L).2.1 WZ.2 j (by omega);have fx:(bz L).1.take (j+1)=(bz L).1.take j++[(bz L).1[j]'(by omega)]:=by rw[List.take_append_getElem (by omega)]
   have qd:(bz L).2.1.take (j+1)=(bz L).2.1.take j++[(bz L).2.1[j]'(by omega)]:=by rw[List.take_append_getElem (by omega)]
   have e1:(bz L).1[j]'(by omega)=(qX (bz (L.take j)).1 L[j]&& !(bz (L.take j)).2.2.contains L[j].k):=by
    have:=congrArg (fun x=>x.1) nP;simp only[fD]at this;rw[afL.1,fx,eG.1]at this;simpa[eG.1]using List.append_cancel_left this
   have e2:(bz L).2.1[j]'(by omega)=qX (bz (L.take j)).1 L[j]:=by
    have:=congrArg (fun x=>x.2.1) nP;simp only[fD]at this;rw[afL.2,qd,eG.2]at this;simpa[eG.1]using List.append_cancel_left this
   have hK:=congrArg (fun x=>x.2.2) nP;simp only[fD]at hK;rw[fx,qd,HV _ _ _ _ (by simp[WZ.1,WZ.2]),gH,List.getElem?_eq_getElem (by omega),vF (by omega),iA];cases hv:(bz L).2.1[j]'(by omega)with
   | false=>
     rw[hv]at e2;rw[<-e2]at hK;simp only[Bool.false_and,Bool.false_eq_true,if_false,List.append_nil,Nat.add_zero]at hK ⊢;rw[hih,hK]
   | true=>
     rw[hv]at e2;rw[<-e2,Bool.true_and]at e1;rw[<-e2,Bool.true_and]at hK;simp only[if_true];rw[p5,hih]
     have ahg:qX (An ((bz L).2.1.take j) ((bz L).1.take j)) (Ao (bz L).2.1 L[j])=true:=by
      unfold qX;rcases Nat.eq_zero_or_pos j with h0 | h0
      ·subst h0;simp[An]
      ·obtain⟨KR,huj⟩:=(ht j L[j] (List.getElem?_eq_getElem (by omega))).2 h0;have e3:=e2.symm;unfold qX at e3;rw[eG.1]at e3;have kG:((bz L).1.take j).length=j:=by simp[WZ.1];omega
       rw[kG,show(j==0)=false by simpa using(by omega:j≠0),Bool.false_or]at e3;simp only[Bool.and_eq_true]at e3;obtain⟨u,hu⟩:=Int.eq_ofNat_of_zero_le KR;have ajM:u<j:=by omega
       have hC:(bz L).1.getD u false=true:=by
        have:=e3.2.2;rw[hu,Int.toNat_natCast,List.getD_eq_getElem?_getD,List.getElem?_take,if_pos ajM, <-List.getD_eq_getElem?_getD]at this;exact this
       have hV:=zO u hC
       have lR:(Ao (bz L).2.1 L[j]).up=(fb (bz L).2.1 u:Int):=by
        unfold Ao;rw[if_pos KR];show wV _ _=_;unfold wV;rw[hu,Int.toNat_natCast,hV,if_pos rfl]
       rw[vF (by omega)]at hV hC;have hg:=Fi ((bz L).2.1.take j) ((bz L).1.take j) u (by simp;omega) (by simp[WZ.1,WZ.2]) (by simpa using hV);rw[HW _ _ _ (by omega)]at hg;have dJ:=(List.getElem?_eq_some_iff.1 hg).1;rw[lR,Int.toNat_natCast,List.getD_eq_getElem?_getD,hg];have:decide ((fb (bz L).2.1 u:Int)<((An ((bz L).2.1.take j) ((bz L).1.take j)).length:Int))=true:=decide_eq_true (by omega);rw[this];simp[hC]
     simp only[fD,ahg,Bool.true_and,(sW _ L[j]).1];rw[e1,hK,List.replicate_succ']
theorem NI (L:List Bn) (V:List Bool) (hV:V.length=L.length) (b:Bn):∀j,j<=L.length->nq b ((gH L V j).zip (List.replicate (fb V j) true))=nq b ((L.take j).zip (V.take j))
 | 0,_=>by simp[gH,fb]
 | j+1,h=>by
   have ih:=NI L V hV b j (by omega);have jF:=r4 L V hV j (by omega);unfold nq at ih ⊢;rw[show L.take (j+1)=L.take j++[L[j]] by rw[List.take_append_getElem (by omega)],show V.take (j+1)=V.take j++[V[j]] by rw[List.take_append_getElem (by omega)],List.zip_append (by simp[hV]),List.foldl_append, <-ih,gH,List.getElem?_eq_getElem (by omega),vF (by omega),r3 V j (by omega)];cases V[j]
   ·simp
   ·simp only[if_true,List.replicate_succ',List.zip_cons_cons,List.zip_nil_right,List.foldl_cons,List.foldl_nil];rw[List.zip_append (by simp[jF]),List.foldl_append];simp[(sW V L[j]).1,(sW V L[j]).2.1]
theorem NJ (L:List Bn) (V:List Bool) (hV:V.length=L.length) (j:Nat) (hj:j<L.length) (hv:V[j]'(by omega)=true):∀n,j<n->n<=L.length->(gH L V n)[fb V j]?=some (Ao V L[j])
 | 0,h,_=>by omega
 | n+1,h,hn=>by
   have jF:=r4 L V hV n (by omega);by_cases he:j=n
   ·subst he;rw[gH,List.getElem?_append_right (by omega),jF,Nat.sub_self,List.getElem?_eq_getElem hj,vF (by omega),hv];rfl
   ·have hg:=NJ L V hV j hj hv n (by omega) (by omega);have dJ:=(List.getElem?_eq_some_iff.1 hg).1;rw[gH,List.getElem?_append_left dJ,hg]
theorem NK (L:List Bn) (ht:JK L):iV (gH L (bz L).2.1 L.length)=(iV L).map fun c=>{c with at':=wV (bz L).2.1 c.at'.toNat}:=by
 have hd:=abS L ht L.length (Nat.le_refl _);have hl:=mu L;have zO:=NH L L.length (Nat.le_refl _);rw[List.take_length]at zO hd;rw[List.take_of_length_le (by omega),List.take_of_length_le (by omega)]at hd;have jF:=r4 L (bz L).2.1 hl.2 L.length (Nat.le_refl _);have abT:=fun b=>NI L (bz L).2.1 hl.2 b L.length (Nat.le_refl _)
 have ajN:=NJ L (bz L).2.1 hl.2;unfold iV;rw[hd,jF];dsimp only;generalize hF:gH L (bz L).2.1 L.length=F at*;simp only[List.take_length]at abT;rw[List.take_of_length_le (by omega)]at abT;generalize (bz L).1=C at*;generalize (bz L).2.1=V at*
 have key:∀j,j<=L.length->tW F (An V C) (List.replicate (fb V L.length) true) (fb V j)=(tW L C V j).map fun c=>{c with at':=wV V c.at'.toNat}:=by
  intro j;induction j with
  | zero=>intro _;cases V<;>simp[fb,tW]
  | succ j ih=>
    intro hj;have hih:=ih (by omega);rw[r3 V j (by omega),tW,List.map_append, <-hih,List.getElem?_eq_getElem (by omega)];cases hv:V[j]'(by omega)with
    | false=>
      have hc:C.getD j false=false:=by
       cases h:C.getD j false with
       | false=>rfl
       | true=>have:=zO j h;rw[vF (by omega),hv]at this;cases this
      simp only[hc,Bool.false_eq_true,if_false,Nat.add_zero,List.map_nil,List.append_nil]
    | true=>
      have hg:=ajN j (by omega) hv L.length (by omega) (Nat.le_refl _);rw[hF]at hg;have hf:=Fi V C j (by omega) (by omega) hv;simp only[if_true];rw[tW,hg];dsimp only;rw[List.getD_eq_getElem?_getD,hf,Option.getD_some,vF (by omega)];cases C[j]'(by omega)with
      | false=>simp
      | true=>
        simp only[if_true,List.map_cons,List.map_nil]
        have hs:nq (Ao V L[j]) (F.zip (List.replicate (fb V L.length) true))=nq L[j] (L.zip V):=by
         rw[abT];unfold nq;rw[(sW V L[j]).2.2.1,(sW V L[j]).1,(sW V L[j]).2.1]
        rw[hs,(sW V L[j]).1,(sW V L[j]).2.2.2]
        congr 3
        unfold wV;rw[Int.toNat_natCast,vF (by omega),hv];rfl
 have:=key L.length (Nat.le_refl _);exact this
def NL (j:Nat) (b:Bn):Bool:=if j=0 then b.up != -1 else decide (b.up<0)||decide (b.up>=(j:Int))
def qb:Nat->List Bn->Bool
 | _,[]=>true
 | j,b::L=>if NL j b then false else qb (j+1) L
theorem HY:∀(L:List Bn) (j:Nat),qb j L=true->∀(i:Nat) (b:Bn),L[i]?=some b->NL (j+i) b=false
 | [],j,h,i,b,hb=>by simp at hb
 | x::L,j,h,i,b,hb=>by
   rw[qb]at h;cases hx:NL j x with
   | true=>rw[hx,if_pos rfl]at h;cases h
   | false=>
     rw[hx,if_neg (by decide)]at h;cases i with
     | zero=>simp only[List.getElem?_cons_zero,Option.some.injEq]at hb;subst hb;exact hx
     | succ i=>
       have:=HY L (j+1) h i b (by simpa using hb)
       rwa [show j+(i+1)=j+1+i by omega]
theorem W0 {L:List Bn} (h:qb 0 L=true):JK L:=by
 intro j b hb;have:=HY L 0 h j b hb;rw[Nat.zero_add]at this;unfold NL at this;split at this
 ·exact⟨fun _=>by simpa using this,fun h=>by omega⟩
 ·simp only[Bool.or_eq_false_iff,decide_eq_false_iff_not]at this;exact⟨fun h=>by omega,fun _=>by omega⟩
set_option maxHeartbeats 4000000 in
theorem abU (L:List Bn) (tk:Tok) (hL:L.length<=1000000) (O:VH):VF Tryz.prog 10 [.sl L.length (L.flatMap iD) tk] O (aI fun m O'=>m=mb (qb 0 L)/\O.Ge O'):=by
 have hlen:=aQ iU L;have kH:kZ (fL Tryz.prog) 22 (.sl L.length (L.flatMap iD) tk)=some (.v (.int .i64 L.length)):=lB FN;refine VF.bU 35 [.tmp 2] Tryz.func10 ?_;refine VC.ag aa (ae @az ?_);refine VC.bE [] (fun _:Unit=>[]) (fun _ O'=>O.Ge O'/\qb 0 L=true) ?_ ?_;rotate_left
 ·rintro _ O2 ⟨ay,ht⟩;rw[ht];refine VC.ag aa (ae @az ?_);refine WC.sound aa (ae @az ?_);exact ay
 refine VC.ag aa (ao @az @kH ?_);refine VC.aD ?_;refine VC.bH [7] [5,6] (fun j:Nat=>[mi j]) (fun j O'=>O.Ge O'/\j<=L.length/\qb 0 L=qb j (L.drop j)) (fun j=>L.length - j) (0) ?_ ?_
 ·exact⟨VH.Ge.refl _,Nat.zero_le _,rfl⟩
 rintro j O3 ⟨aO,hj,b_⟩;by_cases bd:j<L.length;rotate_left
 ·obtain rfl:j=L.length:=by omega
  rw[List.drop_of_length_le (Nat.le_refl _),qb]at b_;refine WC.sound aa (ae @az ?_);exact aA.mk () ⟨aO,b_⟩
 have dU:((j:Int)+1)=((j+1:Nat):Int):=by omega
 have bu:=cj iU L j bd;rw[List.drop_eq_getElem_cons bd,qb]at b_;generalize L[j]=b at*;obtain⟨up,dp,od,⟨q1,q2,q3,q4⟩,v,hd,rv,nn,iv,Gb,s,rd⟩:=b;simp only[iD,au,aY]at bu;unfold NL at b_;dsimp only at b_;refine VC.ag aa (ae @az ?_);refine VC.ag aa (ae @az ?_);refine VC.bA (VC.aD ?_);refine VC.ag aa (ao @az @bu ?_);refine VC.al ?_;rintro O4 ⟨bh,jC,g_⟩;have lF:=aO.trans bh;by_cases h0:j=0
 ·have e0:((j:Int)==0)=true:=by simp[h0]
  have e1:decide ((j:Int)>0)=false:=decide_eq_false (by omega);have e2:decide ((0:Int)<j)=false:=e1;rw[if_pos h0]at b_;cases hb:up != -1
  ·rw[hb,if_neg (by decide)]at b_;refine VC.ag aa (iL @az @jC @e0 (And.intro e1 e2) @hb ?_);refine WC.sound aa (ae @az ?_);refine WC.sound aa (ao @az @dU ?_);exact aC.next (j+1) ⟨lF,bd,b_⟩
  ·rw[hb,if_pos rfl]at b_;rw[b_];refine VC.ag aa (c8 @az @jC @e0 @hb ?_);refine WC.sound aa (ae @az ?_);exact lF
 have e0:((j:Int)==0)=false:=by simpa using h0
 have e1:decide ((j:Int)>0)=true:=decide_eq_true (by omega);have e2:decide ((0:Int)<j)=true:=e1;rw[if_neg h0]at b_;by_cases h1:up<0
 ·have e3:decide (up<0)=true:=decide_eq_true h1;rw[e3,Bool.true_or,if_pos rfl]at b_;rw[b_];refine VC.ag aa (iL @az @jC @e0 (And.intro e1 e2) @e3 ?_);refine WC.sound aa (ae @az ?_);exact lF
 have e3:decide (up<0)=false:=decide_eq_false h1;rw[e3,Bool.false_or]at b_;by_cases h2:up>=(j:Int)
 ·have e4:decide (up>=(j:Int))=true:=decide_eq_true h2;have e5:decide ((j:Int)<=up)=true:=e4;rw[e4,if_pos rfl]at b_;rw[b_];refine VC.ag aa (Ca @az @jC @e0 (And.intro e1 e2) @e3 (And.intro e4 e5) ?_);refine WC.sound aa (ae @az ?_);exact lF
 have e4:decide (up>=(j:Int))=false:=decide_eq_false h2;have e5:decide ((j:Int)<=up)=false:=e4;rw[e4,if_neg (by decide)]at b_;refine VC.ag aa (Ca @az @jC @e0 (And.intro e1 e2) @e3 (And.intro e4 e5) ?_);refine WC.sound aa (ae @az ?_);refine WC.sound aa (ao @az @dU ?_);exact aC.next (j+1) ⟨lF,bd,b_⟩
def oC (V:List Bool) (n j:Nat):List Int:=(List.range n).map fun u=>if u<j then wV V u else 0
theorem vG (V:List Bool) (n j:Nat):(oC V n j).length=n:=by simp[oC]
theorem Fj {V:List Bool} {n j u:Nat} (h:u<n) (hj:u<j):(oC V n j)[u]?=some (wV V u):=by
 unfold oC;rw[List.getElem?_map,List.getElem?_range h];simp[hj]
theorem W4 (V:List Bool) (n:Nat):oC V n 0=List.replicate n 0:=
 List.eq_replicate_iff.2 ⟨vG V n 0,fun b hb=>by
  obtain⟨u,_,rfl⟩:=List.mem_map.1 hb;simp⟩
theorem W5 {V:List Bool} {n j:Nat} (h:V.getD j false=false):oC V n (j+1)=oC V n j:=by
 unfold oC;refine List.map_congr_left fun u _=>?_
 by_cases e:u=j
 ·subst e;rw[if_pos (by omega),if_neg (by omega)];unfold wV;rw[h];rfl
 ·by_cases h2:u<j
  ·rw[if_pos (by omega),if_pos h2]
  ·rw[if_neg (by omega),if_neg h2]
theorem abV {V:List Bool} {n j:Nat} (hj:j<n) (h:V.getD j false=true):(oC V n j).set j (fb V j:Int)=oC V n (j+1):=by
 refine List.ext_getElem? fun u=>?_
 rw[List.getElem?_set,vG];by_cases e:j=u
 ·subst e;rw[if_pos rfl,if_pos hj,Fj hj (by omega)];unfold wV;rw[h];rfl
 ·rw[if_neg e];unfold oC;rw[List.getElem?_map,List.getElem?_map];cases hr:(List.range n)[u]? with
  | none=>rfl
  | some x=>
    have hx:x=u:=by
     obtain⟨h1,h2⟩:=List.getElem?_eq_some_iff.1 hr;simpa using h2.symm
    subst hx;simp only[Option.map_some];by_cases h2:x<j
    ·rw[if_pos h2,if_pos (by omega)]
    ·rw[if_neg h2,if_neg (by omega)]
theorem HZ {L:List Bn} {V:List Bool} (hk:∀b∈L,∀s∈dd b.k,s.length<=maxLen):∀j,∀b∈gH L V j,∀s∈dd b.k,s.length<=maxLen
 | 0,b,h=>by cases h
 | j+1,b,h=>by
   rw[gH,List.mem_append]at h;rcases h with h | h
   ·exact HZ hk j b h
   ·cases hL:L[j]? with
    | none=>rw[hL]at h;cases h
    | some x=>
      rw[hL]at h;dsimp only at h;split at h
      ·rw[List.mem_singleton.1 h,(sW V x).1];exact hk x (List.mem_of_getElem? hL)
      ·cases h
def vH (V:List Bool) (c:Ch):Ch:={c with at':=wV V c.at'.toNat}
theorem JL:∀(V:List Bool) (j:Nat),fb V j<=j
 | _,0=>by simp[fb]
 | [],j+1=>by simp[fb]
 | v::V,j+1=>by
   have:=JL V j;rw[fb];split<;>omega
theorem aeb {A B:VH} {b sz:Nat} {t:Tok} (h:App A b sz t) (hi:∀i,b<=i->B.hp i=A.hp i) (hn:A.next<=B.next):App B b sz t:=by
 cases t with
 | own t k=>
   obtain⟨g1,g2,g3,g4⟩:=h;exact⟨g1,(hi t g3).trans g2,g3,by omega⟩
 | _=>exact h
set_option maxHeartbeats 16000000 in
theorem ahh (hl:EV) (L0:List Bn) (tk0:Tok) (h0:L0.length<=maxLen) (hk0:∀b∈L0,∀s∈dd b.k,s.length<=maxLen) (O:VH):VF Tryz.prog 3 [.sl L0.length (L0.flatMap iD) tk0] O (aI fun m O'=>m=mb true):=by
 have RM:=abi L0 tk0 h0 O;have hL:(L0.take 60).length<=60:=by rw[List.length_take];omega
 have hk:∀b∈L0.take 60,∀s∈dd b.k,s.length<=maxLen:=fun b hb=>hk0 b (List.mem_of_mem_take hb)
 generalize L0.take 60=L at*;have kc:=mu L;have hlen:=aQ iU L;refine VF.bU 107 [.tmp 2] Tryz.func3 ?_;refine VC.ag aa (ae @az ?_);refine VC.ag aa (ae @az ?_);refine ah.rt RM ?_;rintro _ Ox ⟨⟨tk,rfl⟩,eO⟩;rw[eO];clear eO Ox RM
 have kH:kZ (fL Tryz.prog) 22 (.sl L.length (L.flatMap iD) tk)=some (.v (.int .i64 L.length)):=lB FN;refine ae @az ?_;refine VC.ag aa (ae @az ?_);refine ah.rt (abU L tk (by omega) O) ?_;rintro _ O1 ⟨rfl,aU⟩;cases ht:qb 0 L
 ·simp only[aY];refine ae @az ?_;refine ah.rt (hl _) ?_;rintro _ O5 rfl;simp only[aY];refine ae @az ?_;trivial
 have abW:=W0 ht;clear ht;simp only[aY];refine ae @az ?_;refine VC.ag aa (ae @az ?_);refine ah.rt (SJ L tk (by omega) hk O1) ?_;rintro _ O2 ⟨lb,rfl,ay,ua,Wi,gN⟩;refine ae @az ?_
 have QX:∀u,u<L.length->((bz L).2.1.map mb)[u]?=some (.v (.bool ((bz L).2.1.getD u false))):=fun u hu=>by
  rw[List.getElem?_map,List.getD_eq_getElem?_getD,List.getElem?_eq_getElem (by omega)];rfl
 have hlV:((bz L).2.1.map mb).length=L.length:=by simp[kc.2]
 have hcf:=NK L abW;have jF:=r4 L (bz L).2.1 kc.2;have j4:=kc.2;generalize (bz L).2.1=V at*;refine VC.ag aa (ao @az (show((L.length:Int) != L.length)=false from by simp) ?_);refine VC.ag aa (ae @az ?_);have lA:=fun O'=>aft (tab:=fL Tryz.prog) T28 T3 O' L.length (by omega) (by omega)
 refine VC.ag aa (aM @az @kH @lA ?_);refine VC.bx ?_;rintro O3 ⟨aO,qi,gZ⟩;rw[show List.replicate L.length (MV.v (.int .i64 0))=(oC V L.length 0).map mi by rw[W4,List.map_replicate];rfl]at qi;have afM:=aO.at gN;have afN:=HT L tk;refine VC.bE [0,4,5] (fun t:Tok=>[.sl L.length (L.flatMap iD) tk,.sl (gH L V L.length).length ((gH L V L.length).flatMap iD) t,.bk O2.next 0 L.length L.length]) (fun t O'=>O3.next<=O'.next/\O'.hp O2.next=some (.cells ((oC V L.length L.length).map mi))) ?_ ?_
 ·refine VC.ag aa (ao @az @kH ?_);refine VC.aD ?_;refine VC.bH [4,29] [0,3,5,27,28] (fun x:Nat×Tok=>[.sl (gH L V x.1).length ((gH L V x.1).flatMap iD) x.2,mi x.1]) (fun x O'=>x.1<=L.length/\O3.next<=O'.next/\O'.hp lb=some (.cells (V.map mb))/\O'.hp O2.next=some (.cells ((oC V L.length x.1).map mi))/\App O' O3.next 13 x.2) (fun x=>L.length - x.1) ((0,.nil)) ?_ ?_
  ·exact⟨Nat.zero_le _,Nat.le_refl _,afM,qi,trivial⟩
  clear qi afM;rintro⟨j,t1⟩ O4 ⟨hj,g_,ajO,kx,jX⟩;dsimp only at hj kx jX;by_cases bd:j<L.length;rotate_left
  ·obtain rfl:j=L.length:=by omega
   refine WC.sound aa (ae @az ?_);exact aA.mk t1 ⟨g_,kx⟩
  have dU:((j:Int)+1)=((j+1:Nat):Int):=by omega
  have bu:=cj iU L j bd;have WW:=QX j bd;have htj:=abW j L[j] (List.getElem?_eq_getElem bd);have hfj:=jF j (by omega);have S_:gH L V (j+1)=gH L V j++if V.getD j false then[Ao V L[j]]else[]:=by rw[gH,List.getElem?_eq_getElem bd]
  have hvj:V.getD j false=true->((oC V L.length j).map mi).set j (mi (fb V j:Int))=(oC V L.length (j+1)).map mi:=fun h=>by rw[<-List.map_set,abV bd h]
  have hsk:V.getD j false=false->oC V L.length (j+1)=oC V L.length j:=W5;have iB:((oC V L.length j).map mi).length=L.length:=by rw[List.length_map,vG]
  generalize L[j]=b at*
  have sH:∃u:Int,Ao V b={b with up:=u}/\(0<=b.up->u=wV V b.up.toNat)/\(¬0<=b.up->u=b.up):=by
   unfold Ao;by_cases h:0<=b.up
   ·exact⟨_,if_pos h,fun _=>rfl,fun h'=>absurd h h'⟩
   ·exact⟨b.up,if_neg h,fun h'=>absurd h' h,fun _=>rfl⟩
  obtain⟨u9,gK,hua,sH⟩:=sH;obtain⟨up,dp,od,⟨q1,q2,q3,q4⟩,v,hd,rv,nn,iv,Gb,s,rd⟩:=b;simp only[iD,au,aY]at bu;dsimp only at htj hua sH;generalize V.getD j false=vj at*;have aeS:fb V j<=60:=by have:=JL V j;omega
  refine VC.ag aa (ae @az ?_);refine VC.ag aa (ae @az ?_);refine VC.bA (VC.aD ?_);refine VC.ag aa (ao @az @bu ?_);refine VC.al ?_;rintro O5 ⟨bK,m6,gu⟩;have b9:O2.next<O4.next:=by omega
  have tI:lb<O4.next:=by omega
  have NM:=bK.at ajO;have eY:=bK.at kx;cases vj
  ·rw[if_neg (by decide),List.append_nil]at S_;refine VC.ag aa (c8 @az @NM @hlV @WW ?_);refine WC.sound aa (ao @az @dU ?_);exact aC.next (j+1,t1) ⟨bd,by omega,NM,by rw[hsk rfl];exact eY,jX.ge bK⟩ (hl:=by dsimp only;rw[S_];rfl)
  rw[if_pos rfl]at S_;have hvf:kZ (fL Tryz.prog) 22 (.sl (gH L V j).length ((gH L V j).flatMap iD) t1)=some (.v (.int .i64 (gH L V j).length)):=lB FN;rw[hfj]at hvf;have cP:=hvj rfl;simp only[au]at cP;refine VC.ag aa (c8 @az @NM @hlV @WW ?_);rw[hfj];refine VC.ag aa (iL @az @hvf @eY @iB @cP ?_);refine VC.gen ?_;intro O6 e6;have ni:∀i,i≠O2.next->O6.hp i=O5.hp i:=fun i h=>by rw[e6];exact VH.ak _ _ h
  have tT:O6.hp O2.next=some (.cells ((oC V L.length (j+1)).map mi)):=by rw[e6];exact VH.an _ _ _
  have ny:O6.next=O5.next:=by rw[e6];rfl
  clear e6;have mD:=(ni O4.next (by omega)).trans m6;have ajP:=(ni lb (by omega)).trans NM;have ma:App O6 O3.next 13 t1:=aeb (jX.ge bK) (fun i hi=>ni i (by omega)) (by omega);have ajQ:((oC V L.length (j+1)).map mi).length=L.length:=by rw[List.length_map,vG]
  rw[gK]at S_;clear gK m6 eY NM jX hvj cP hsk;refine VC.bE [0,3,4,5,7,27,28,29] (fun _:Unit=>[.sl L.length (L.flatMap iD) tk,.bk lb 0 L.length L.length,.sl (fb V j) ((gH L V j).flatMap iD) t1,.bk O2.next 0 L.length L.length,.ptr O4.next 0,.sl L.length (L.flatMap iD) tk,.v (.int .i64 L.length),.v (.int .i64 j)]) (fun _ O'=>O'.next=O6.next/\(∀i,i≠O4.next->O'.hp i=O6.hp i)/\O'.hp O4.next=some (.cells [.v (.int .i64 u9),.v (.int .i64 dp),.v (.int .i64 od),.str q1,.str q2,.str q3,.str q4,.str v,.v (.bool hd),.str rv,.sl nn iv Gb,.v (.int .i64 s),.v (.bool rd)])) ?_ ?_
  ·by_cases lR:0<=up
   ·have e1:decide (up>=0)=true:=decide_eq_true lR;have e2:decide (0<=up)=true:=e1;have hu:=hua lR;subst hu;obtain⟨u,rfl⟩:=Int.eq_ofNat_of_zero_le lR
    have hj0:0<j:=by
     rcases Nat.eq_zero_or_pos j with h | h
     ·have:=htj.1 h;omega
     ·exact h
    have huj:=(htj.2 hj0).2
    have hgu:((oC V L.length (j+1)).map mi)[u]?=some (.v (.int .i64 (wV V u))):=by
     rw[List.getElem?_map,Fj (by omega) (by omega)];rfl
    rw[Int.toNat_natCast];refine WC.sound aa (Ca @az @mD (And.intro e1 e2) @tT @ajQ @hgu ?_);exact aA.mk () ⟨rfl,fun i h=>VH.ak _ _ h,VH.an _ _ _⟩
   ·have e1:decide (up>=0)=false:=decide_eq_false lR;have e2:decide (0<=up)=false:=e1;have hu:=sH lR;subst hu;refine WC.sound aa (aM @az @mD (And.intro e1 e2) ?_);exact aA.mk () ⟨rfl,fun _ _=>rfl,mD⟩
  rintro _ O7 ⟨sw,qT,Qm⟩
  have hY:App O7 O3.next 13 t1:=by
   cases t1 with
   | own t k=>
     obtain⟨g1,g2,g3,g4⟩:=ma;exact⟨g1,(qT t (by intro e;subst e;rw[mD]at g2;cases g2)).trans g2,g3,by omega⟩
   | _=>exact ma
  have ajR:=(qT lb (by omega)).trans ajP;have EB:=(qT O2.next (by omega)).trans tT;have qd:=bo (tk:=t1) (tk':=.full) (n:=fb V j) (k:=1) (cs:=(gH L V j).flatMap iD) (ds:=[.v (.int .i64 u9),.v (.int .i64 dp),.v (.int .i64 od),.str q1,.str q2,.str q3,.str q4,.str v,.v (.bool hd),.str rv,.sl nn iv Gb,.v (.int .i64 s),.v (.bool rd)]) FN T35.1.1 hY (by rw[aQ iU,hfj]) rfl rfl (by decide) (by decide) (by omega) (by simp only[maxLen];omega);refine WC.sound aa (ao @az @Qm ?_);refine VL.app qd ?_;refine ae @az ?_;refine WC.sound aa (ao @az @dU ?_);exact aC.next (j+1,.own O7.next 13) ⟨bd,by rw[VH.e_];omega,VH.rj hY ajR (by simp) (by omega),VH.rj hY EB (by simp) (by omega),App.after (by omega)⟩ (hl:=by dsimp only;rw[S_,List.length_append,List.flatMap_append,List.flatMap_singleton,hfj];rfl)
 rintro tf O6 ⟨ny,tT⟩;have hFl:=jF L.length (Nat.le_refl _);have kG:=JL V L.length;have hkF:=HZ (V:=V) hk L.length;generalize gH L V L.length=F at*;have FT:(iV L).length<=60:=Nat.le_trans (EU _ _ _ _) hL;have hXm:=fun c hc=>NG L (bz L).1 (bz L).2.1 L.length c hc
 have afO:=afN O6 (by omega) hk;have SZ:=fun O'=>Fh F tf O' (by omega) hkF
 rw[hcf]at SZ
 change ∀c∈iV L,_ at hXm
 generalize iV L=X at*;have hYl:(X.map (vH V)).length=X.length:=List.length_map _;have hYd:X.map (vH V)=X.map fun c=>{c with at':=wV V c.at'.toNat}:=rfl
 rw[<-hYd]at SZ;refine VC.ag aa (ae @az ?_);refine ah.rt afO ?_;clear afO afN;rintro p O7 ⟨en,Eo⟩;refine ae @az ?_;refine ah.rt (SZ O7) ?_;clear SZ;rintro _ O8 ⟨⟨t8,rfl⟩,gq⟩;have ha8:=gq.at (en.at tT) (hk:=by have:=en.next;omega);have n7:=en.next;have n8:=gq.next;rcases Eo with⟨h1,_,h3⟩ | ⟨k,c,rfl,h1,_,h3⟩
 ·have hX0:X=[]:=List.eq_nil_of_length_eq_zero h1;subst hX0;simp only[List.map_nil,List.length_nil,List.flatMap_nil];rcases h3 with rfl | rfl
  ·skip
   refine ae @az ?_;refine VC.ag aa (ao @az (show((0:Int) != 0)=false from rfl) ?_);refine VC.bE [8,9] (fun _:Unit=>[.sl 0 [] .nil,.sl 0 [] t8]) (fun _ _=>True) ?_ ?_
   ·refine VC.ag aa (ae @az ?_);refine VC.aD ?_;refine VC.bH [69] [0,5,8,9,68] (fun _:Unit=>[.v (.int .i64 0)]) (fun _ _=>True) (fun _=>0) (()) ?_ ?_
    ·trivial
    rintro _ Oa _;refine WC.sound aa (ao @az (show decide ((0:Int)<0)=false from rfl) ?_);exact aA.mk () trivial
   rintro _ Oa _;have Bi:=fun O'=>ET [] [] .nil t8 O' (by decide) (by decide)
   simp only[List.length_nil,List.flatMap_nil]at Bi;rw[vx]at Bi;simp only[aY]at Bi;refine VC.ag aa (ae @az ?_);refine ah.rt (Bi _) ?_;rintro _ Ox ⟨rfl,eO⟩;rw[eO];clear eO Ox
   refine ae @az ?_;refine ah.rt (hl _) ?_;rintro _ O5 rfl;simp only[aY];refine ae @az ?_;refine WC.sound aa (ae @az ?_);trivial
  ·skip
   refine ae @az ?_;refine VC.ag aa (ao @az (show((0:Int) != 0)=false from rfl) ?_);refine VC.bE [8,9] (fun _:Unit=>[.sl 0 [] .full,.sl 0 [] t8]) (fun _ _=>True) ?_ ?_
   ·refine VC.ag aa (ae @az ?_);refine VC.aD ?_;refine VC.bH [69] [0,5,8,9,68] (fun _:Unit=>[.v (.int .i64 0)]) (fun _ _=>True) (fun _=>0) (()) ?_ ?_
    ·trivial
    rintro _ Oa _;refine WC.sound aa (ao @az (show decide ((0:Int)<0)=false from rfl) ?_);exact aA.mk () trivial
   rintro _ Oa _;have Bi:=fun O'=>ET [] [] .full t8 O' (by decide) (by decide)
   simp only[List.length_nil,List.flatMap_nil]at Bi;rw[vx]at Bi;simp only[aY]at Bi;refine VC.ag aa (ae @az ?_);refine ah.rt (Bi _) ?_;rintro _ Ox ⟨rfl,eO⟩;rw[eO];clear eO Ox
   refine ae @az ?_;refine ah.rt (hl _) ?_;rintro _ O5 rfl;simp only[aY];refine ae @az ?_;refine WC.sound aa (ae @az ?_);trivial
 obtain⟨sp0,h4,_⟩:=h3.cells;have wJ:k≠O2.next:=by have:=h3.lo;omega
 have sN:k<O8.next:=by have:=h3.hi;omega
 have Rb:=gq.at h4 (hk:=h3.hi);clear h4 h3 h1;rw[hYl];refine ae @az ?_;refine VC.ag aa (ao @az (show((X.length:Int) != X.length)=false from by simp) ?_);refine VC.bE [8,9] (fun _:Unit=>[.bk k 0 X.length c,.sl X.length ((X.map (vH V)).flatMap i_) t8]) (fun _ O'=>∃sp,O'.hp k=some (.cells ((X.map (vH V)).flatMap i_++sp))) ?_ ?_
 ·refine VC.ag aa (ae @az ?_);refine VC.aD ?_;refine VC.bH [69] [0,5,8,9,68] (fun j:Nat=>[mi j]) (fun j O'=>j<=X.length/\O'.hp O2.next=some (.cells ((oC V L.length L.length).map mi))/\∃sp,O'.hp k=some (.cells (((X.take j).map (vH V)++X.drop j).flatMap i_++sp))) (fun j=>X.length - j) (0) ?_ ?_
  ·exact⟨Nat.zero_le _,ha8,sp0,by simpa using Rb⟩
  clear ha8 Rb;rintro j Oa ⟨hj,haa,sp,jT⟩;by_cases bd:j<X.length;rotate_left
  ·obtain rfl:j=X.length:=by omega
   rw[List.take_length,List.drop_length,List.append_nil]at jT;refine WC.sound aa (ae @az ?_);exact aA.mk () ⟨sp,jT⟩
  have dU:((j:Int)+1)=((j+1:Nat):Int):=by omega
  obtain⟨i,b,hi,A_,F7,jQ⟩:=hXm X[j] (List.getElem_mem bd);have hsp:∀x:Ch,(((X.take j).map (vH V)++x::X.drop (j+1)).flatMap i_++sp)=((X.take j).map (vH V)).flatMap i_++(i_ x++((X.drop (j+1)).flatMap i_++sp)):=fun x=>by simp
  have iB:(((X.take j).map (vH V)).flatMap i_).length=j*7:=by rw[aQ jG,List.length_map,List.length_take,Nat.min_eq_left hj]
  rw[List.drop_eq_getElem_cons bd,hsp]at jT
  have pU:∀x:Ch,(((X.take j).map (vH V)).flatMap i_++(i_ x++((X.drop (j+1)).flatMap i_++sp)))[j*7+4]?=some (mi x.at'):=fun x=>by
   rw[List.getElem?_append_right (by omega),iB,Nat.add_sub_cancel_left];rfl
  have hsA:∀x:Ch,(((X.take j).map (vH V)).flatMap i_++(i_ x++((X.drop (j+1)).flatMap i_++sp))).set (j*7+4) (mi (wV V x.at'.toNat))=((X.take j).map (vH V)).flatMap i_++(i_ (vH V x)++((X.drop (j+1)).flatMap i_++sp)):=fun x=>by
   rw[List.set_append_right _ _ (by omega),iB,Nat.add_sub_cancel_left];rfl
  have r9:((X.take (j+1)).map (vH V)++X.drop (j+1)).flatMap i_++sp=((X.take j).map (vH V)).flatMap i_++(i_ (vH V X[j])++((X.drop (j+1)).flatMap i_++sp)):=by
   rw[<-List.take_append_getElem bd,List.map_append,List.append_assoc];exact hsp _
  have hgx:=pU X[j];have UX:=hsA X[j];rw[jQ]at hgx UX jT r9
  have nS:((oC V L.length L.length).map mi)[i]?=some (.v (.int .i64 (wV V i))):=by
   rw[List.getElem?_map,Fj hi hi];rfl
  have ajS:((oC V L.length L.length).map mi).length=L.length:=by rw[List.length_map,vG]
  simp only[au]at hgx UX;rw[Int.toNat_natCast]at UX;generalize ((X.take j).map (vH V)).flatMap i_++(i_ ⟨b.k,(i:Int),b.v,nq b (L.zip (bz L).2.1)⟩++((X.drop (j+1)).flatMap i_++sp))=R1 at*;have e1:decide ((i:Int)<0)=false:=decide_eq_false (by omega);have e2:decide ((i:Int)>=L.length)=false:=decide_eq_false (by omega);have e3:decide ((L.length:Int)<=i)=false:=e2;refine VC.ag aa (ae @az ?_);refine VC.ag aa (ae @az ?_);refine VC.bA (VC.aD ?_);refine VC.ag aa (ae @az ?_);refine VC.ag aa (Ca @az @jT @hgx @kH @e1 (And.intro e2 e3) ?_);have zX:=(List.getElem?_eq_some_iff.1 hgx).1;refine WC.sound aa (Y7 @az @jT @hgx @haa @ajS @nS @UX ?_);refine WC.sound aa (ao @az @dU ?_);exact aC.next (j+1) ⟨bd,(VH.ak _ _ (by omega)).trans haa,sp,by rw[r9];exact VH.an _ _ _⟩
 rintro _ Oa ⟨sp,jT⟩;clear kH lA QX hXm hcf hlV ha8 Rb;generalize X.map (vH V)=Y at*;refine VC.freeze 8 (sz:=Y.length*7) rfl jT (by rw[List.length_append,aQ jG];omega) ?_;rw[List.drop_zero,List.take_append_of_le_length (by rw[aQ jG];exact Nat.le_refl _),List.take_of_length_le (by rw[aQ jG];exact Nat.le_refl _), <-hYl];generalize (if c=Y.length then Tok.full else Tok.aq)=tq;have Bi:=fun O'=>ET Y Y tq t8 O' (by omega) (by omega)
 rw[vx]at Bi;simp only[aY]at Bi;refine VC.ag aa (ae @az ?_);refine ah.rt (Bi _) ?_;rintro _ Ox ⟨rfl,eO⟩;rw[eO];clear eO Ox
 refine ae @az ?_;refine ah.rt (hl _) ?_;rintro _ O5 rfl;simp only[aY];refine ae @az ?_;refine WC.sound aa (ae @az ?_);trivial
theorem S4 (y:List BrT×Tok) (O:VH) (hp:(∀x∈y.1,brP x)/\y.1.length<=maxLen):VF Tryz.prog 3 [.sl y.1.length (y.1.flatMap fun x=>iD (SY x)) y.2] O (aI fun m O'=>m=mb true):=by
 have h:=ahh liv (y.1.map SY) y.2 (by rw[List.length_map];exact hp.2) (WY hp.1) O;rw[List.length_map,List.flatMap_map]at h;exact h
end Go.Proofs.YtoclnkfdahmnhaaGreatDoor
