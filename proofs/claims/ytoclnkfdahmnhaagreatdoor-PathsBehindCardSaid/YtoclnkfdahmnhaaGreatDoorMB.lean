import Derived.Test.YtoclnkfdahmnhaaGreatDoorMA
import Derived.Lib.ConvBytes
import Derived.Laws.BytesString
import Derived.Laws.Externs
import Derived.Deep.AppendSrc
import Derived.Lib.UnsafeStr
import Derived.Laws.StructEq
import Derived.Recover
import Derived.WideLaws
import Derived.Laws.RangeString
import Derived.DeepKeys5
import Derived.Test.YtoclnkfdahmnhaaGreatDoorRows
import Derived.Lib.Bytealg
set_option linter.unusedVariables false
set_option linter.unusedSimpArgs false
namespace Go.Proofs.YtoclnkfdahmnhaaGreatDoor
open Go.RowKit
open _root_.List renaming getElem?_eq_getElem → Km, eq_nil_of_length_eq_zero → RZ, length_append → TP, getElem?_cons_zero → XO, map_cons → acs, getElem?_cons_succ → acu, getElem?_eq_some_iff → acw, mem_of_getElem? → agr, getElem?_take → agt, getElem?_toArray → agv, length_cons → agw, all_eq_true → agx, getElem_mem → ahX, length_nil → ah0, getElem?_map → ah1, mem_map_of_mem → ah2, map_append → ah3, append_assoc → ah4, take_of_length_le → ah5, getElem?_eq_none → alC, cons_append → alD, mem_iff_getElem → alE, map_nil → alF, set_cons_zero → alI, set_eq_of_length_le → alL, length_map → alO, nil_append → alP, take_zero → alT, mem_range → alU
open _root_.Nat renaming lt_of_lt_of_le → XN, le_refl → ags, zero_add → ahY, le_trans → ahZ, lt_or_ge → alG, add_mul → alJ, zero_le → alR
open _root_.And renaming intro → yP
open _root_.Option renaming isSome_none → agu, bind_some → ah7, map_eq_some_iff → alM, map_none → alN
open _root_.Bool renaming and_eq_true → Kn, false_eq_true → acv, false_or → alX
open _root_.Array renaming getElem?_eq_none → ah6, getElem?_modify → akF, getD_eq_getD_getElem? → alH, getElem?_append_left → alK
def ji:List Nat->List MV->Env->Env
 | t::l,m::ms,e=>(t,m)::ji l ms e
 | _,_,e=>e
theorem uX (t:Nat) (l:List Nat) (m:MV) (ms:List MV) (e:Env):ji (t::l) (m::ms) e=(t,m)::ji l ms e:=rfl
theorem Ed (ms:List MV) (e:Env):ji [] ms e=e:=rfl
theorem iD {e e0:Env} (he:∀t x,look e0 t=some x->look e t=some x):∀{l:List Nat} {ms:List MV},looks e l=some ms->∀t x,look (ji l ms e0) t=some x->look e t=some x
 | [],ms,_,t,x,hx=>he t x (by simpa[ji]using hx)
 | k::l,ms,h,t,x,hx=>by
   rw[Cd]at h;obtain⟨m,h1,h2⟩:=Option.bind_eq_some_iff.1 h;obtain⟨XV,h3,rfl⟩:=alM.1 h2;rw[uX,mc]at hx;cases hb:t==k with
   | true=>
     rw[hb,cond_true]at hx;injection hx with hx;subst hx
     have:t=k:=by simpa using hb
     rw[this];exact h1
   | false=>rw[hb,cond_false]at hx;exact iD he h3 t x hx
def ax {σ :Type} (l K:List Nat) (ks:List MV) (ms: σ ->List MV) (I: σ ->VH->Prop) (μ : σ ->Nat) (s: σ) (Q:VQ):VQ:=fun x e O=>match x with
 | .normal=>looks e K=some ks/\∃s',looks e l=some (ms s')/\I s' O/\ μ s'< μ s
 | x=>Q x e O
section
variable {n:Sz} {D:List Deferred} {e:Env} {P:Program} {O:VH} {Q:VQ} {c:Code} {σ :Type} {l K:List Nat} {ks:List MV} {ms: σ ->List MV} {I: σ ->VH->Prop} {μ : σ ->Nat} {s: σ} {i:Nat} {m:MV}
theorem zN:ax l K ks ms I μ s Q (.exit i) e O=Q (.exit i) e O:=rfl
theorem zO:ax l K ks ms I μ s Q (.goto i) e O=Q (.goto i) e O:=rfl
theorem Cm:ax l K ks ms I μ s Q .ret e O=Q .ret e O:=rfl
theorem rf:ax l K ks ms I μ s Q (.panic m) e O=Q (.panic m) e O:=rfl
theorem VC.iS (l K:List Nat) (ms: σ ->List MV) (I: σ ->VH->Prop) (μ : σ ->Nat) (s0: σ) (h0:looks e l=some (ms s0)) (hk:looks e K=some ks) (hI:I s0 O)
  (step:∀s O,I s O->VC P n D c (ji l (ms s) (ji K ks [])) O (ax l K ks ms I μ s Q)):VC P n D (.loop c) e O Q:=by
 refine VC.loop (fun k e O=>looks e K=some ks/\∃s,looks e l=some (ms s)/\I s O/\ μ s=k) (k:= μ s0) ⟨hk,s0,h0,hI,rfl⟩ ?_;rintro k e O ⟨hk,s,h1,h2,rfl⟩;refine VC.mono ?_ (VC.env (step s O h2) (iD (iD (e0:=[]) (fun t x h=>by simp[look]at h) hk) h1));intro x e' O' h
 cases x<;>first
  | exact h
  | (obtain⟨h6,s',h3,h4,h5⟩:=h;exact⟨_,h5,h6,s',h3,h4,rfl⟩)
end
abbrev ints (xs:List Int) (t:Tok):MV:=.sl xs.length (xs.map mi) t
abbrev Ps (xs:List Bool) (t:Tok):MV:=.sl xs.length (xs.map mb) t
abbrev strs (xs:List (List UInt8)) (t:Tok):MV:=.sl xs.length (xs.map .str) t
set_option linter.defProp false in
def Yu:=yP @alN.{0,0}<|yP @Option.bind_none.{0,0}<|yP @uX<|yP @Ed<|yP @Int.zero_sub<|yP @Bool.not_true<|yP @Bool.not_false<|yP @decide_true<|yP @decide_eq_true<|yP @decide_eq_false<|yP @ahY<|yP @Nat.mul_one<|yP @Int.toNat_natCast<|yP @Nat.add_zero<|yP @alI.{0}<|yP @List.set_cons_succ.{0}<|yP @List.take_succ_cons.{0}<|yP @alT.{0}<|yP @List.drop_succ_cons.{0}<|yP @List.drop_zero.{0}<|yP @Km.{0}<|yP @agv.{0}<|yP @XO.{0}<|yP @acu.{0}<|yP @ah7.{0,0}<|yP @Option.map_some.{0,0}<|yP @acs.{0,0}<|yP @alF.{0,0}<|yP @ah1.{0,0}<|yP @List.getElem_map.{0,0}<|yP @if_true.{1}<|yP @cond_true.{1} @cond_false.{1}
set_option linter.defProp false in
def Yv:=yP @uM<|yP @zH<|yP @Cf<|yP @xA<|yP @zN<|yP @zO<|yP @Cm<|yP @rf<|yP @IL<|yP @Pk<|yP @Pl<|yP @Ua<|yP @KO<|yP @uL<|yP @zF<|yP @zG<|yP @Ce<|yP @re<|yP @KP<|yP @KQ<|yP @Pn<|yP @IM<|yP @KY<|yP @if_true.{1} @if_false.{1}
section
variable {P:Program} {tab:bY} {n:Sz} {D:List Deferred} {md:Md} {l:List Oper} {Q:VQ} {L':List (Fl×Oper)} {e e':Env} {O O':VH} {c x y:Code} {A:Prop} {id:Nat} {fn:Func} {R:fU->VH->Prop} {m m':MV} {t t':Nat} {o:Operand} {b:Bool}
theorem gVC (h:VC P n D c e O Q):VC P n D c e O Q:=h
theorem gp (a:A) (q:VL P n D .plain ⟨l⟩ L' e' O' Q) (ht:aL P tab:=by exact aa) (h:A->iR tab n ⟨l⟩ (l.map (Fl.one, ·)) e O=some (L',e',O'):=by intro z;simp(disch:=omega) only[Yt,Yu,ints,Ps,strs,cG,Nat.reduceLT,Nat.reduceAdd,Nat.reduceBEq,Int.reduceToNat,z]<;>exact rfl):VC P n D (.region id ⟨l⟩ false) e O Q:=VC.Sf (VL.run ht (h a) q)
theorem gr (a:A) (q:VL P n D .reads ⟨l⟩ L' e' O' Q) (ht:aL P tab:=by exact aa) (h1:P.follows .mixedOrders=true:=by kernel_rfl) (h2:Region.noSelect ⟨l⟩=true:=by kernel_rfl) (h3:cH .reads ⟨l⟩ l.length (Array.replicate l.length false) ((List.range' 0 l.length).map (·,Fl.rd))=true:=by kernel_rfl) (h:A->iR tab n ⟨l⟩ (l.map (Fl.rd, ·)) e O=some (L',e',O'):=by intro z;simp(disch:=omega) only[Yt,Yu,ints,Ps,strs,cG,Nat.reduceLT,Nat.reduceAdd,Nat.reduceBEq,Int.reduceToNat,z]<;>exact rfl):VC P n D (.region id ⟨l⟩ true) e O Q:=VC.Sl h1 h2 h3 (VL.run ht (h a) q)
theorem gc (a:A) (h1:b=true->VC P n D x e O Q) (h2:b=false->VC P n D y e O Q) (h:A->ev e o=some (.v (.bool b)):=by intro z;simp(disch:=omega) only[Yt,Yu,ints,Ps,strs,cG,Nat.reduceLT,Nat.reduceAdd,Nat.reduceBEq,Int.reduceToNat,z]<;>exact rfl):VC P n D (.cond o x y) e O Q:=VC.cond (h a) h1 h2
theorem eR1 (q:R (.ret m) O) (h1:fn.results= #[.tmp t]:=by exact rfl) (h2:look e t=some m:=by simp only[mc,Nat.reduceBEq,cond_true,cond_false]<;>exact rfl):mV tab fn R .ret e O:=mV.aia h1 h2 q
theorem eR2 (q:R (.ret (.tuple [m,m'])) O) (h1:fn.results= #[.tmp t,.tmp t']:=by exact rfl) (h2:look e t=some m:=by simp only[mc,Nat.reduceBEq,cond_true,cond_false]<;>exact rfl) (h3:look e t'=some m':=by simp only[mc,Nat.reduceBEq,cond_true,cond_false]<;>exact rfl):mV tab fn R .ret e O:=mV.aib h1 h2 h3 q
end
set_option linter.defProp false in
def dcs:=yP @decide_eq_true_eq<|yP @decide_eq_false_iff_not<|yP @beq_iff_eq.{0}<|yP @beq_eq_false_iff_ne.{0}<|yP @bne_iff_ne.{0} @bne_eq_false_iff_eq.{0}
section
variable {G H:Gh} {n:Sz} {D:List Deferred} {e:Env} {a:Act} {P:Program} {tab:bY} {O O':VH} {w:World} {m m':MV} {u v:Value} {ops:Array Oper} {Q:VQ}
def K_ (P:Program) (n:Sz) (D:List Deferred) (o:Oper) (e:Env) (O:VH) (M:MV->VH->Prop):Prop:=∀G a w,WR G O w->FR G n D e a->∃m O',M m O'/\dw P o a w G m O'
theorem iz.Ee {i:Nat} {l:List Nat} {o:Oper} {M:MV->VH->Prop} (ho:ops[i]?=some o) (hg:aN ops o e=some true) (hd:bp n o.dst=true) (hy:K_ P n D o e O M) (h:∀m O',M m O'->iz P n D ops l (aV o.dst m e) O' Q):
  iz P n D ops (i::l) e O Q:=by
 intro G a w hw aU;obtain⟨m,O',hM,nx,w',H,u,hr,xf,h1,h2,h3,_⟩:=hy G a w hw aU;simp only[wpOps,ho,bn aU hg,if_true];refine .inl ?_;unfold Oper.wp;rw[hr]
 have hk:wpOps P ops (cz G n D Q) l (a.put o.dst u) w':=by
  exact ma (fun _ _ _=>cz.le h1) l _ _ (h m O' hM H (a.put o.dst u) w' h2 ((aU.mono h1).aV hd h3))
 rcases xf with rfl | ⟨rfl,rfl⟩
 ·exact hk
 ·exact hk
theorem VL.Ee {o:Oper} {L:List (Fl×Oper)} {M:MV->VH->Prop} (hg:aN ops o e=some true) (hd:bp n o.dst=true) (hy:K_ P n D o e O M) (h:∀m O',M m O'->VL P n D .plain ops L (aV o.dst m e) O' Q):
  VL P n D .plain ops ((.one,o)::L) e O Q:=by
 intro fuel listed ix hf hp
 match ix,hf with
 | (i,g)::ix,hf=>
   obtain⟨rfl,ho,hf⟩:=hf;exact iz.Ee ho hg hd hy fun m O' hM=>h m O' hM 0 #[] ix hf (fun h=>absurd rfl h)
def fL (b:UInt8):MV:=.v (.int .u8 b.toNat)
theorem IN {α :Type} (l:Array α) (x: α) (f: α -> α):(l.push x).modify l.size f=l.push (f x):=by
 apply Array.ext_getElem?;intro i;simp only[akF,Array.getElem?_push];by_cases h:i=l.size
 ·subst h;simp
 ·rw[if_neg (Ne.symm h),if_neg h,if_neg h]
theorem Gb (w:World) (C:Array Value) (t:TypeId):(w.alloc (.cells C t)).freeze ⟨w.heap.size,C.size,none⟩ 1=w.alloc (.cells C t (C.size,C.size+1)):=by
 simp[World.freeze,World.alloc, -World.alloc_eq,IN]
theorem Ef (l:List UInt8):aO G (l.map fL) (l.map fun b=>Value.int .u8 b.toNat):=by
 induction l with
 | nil=>exact aO.nil
 | cons b l ih=>exact aO.cons (.v rfl) ih
theorem Uk (ht:aL P tab) (h:WR G O w) {src dst el:TypeId} {l:List UInt8} (hs:(tab src).map cy.under=some .string) (hd:(tab dst).map cy.under=some (.slice el)) (he:(tab el).map cy.under=some (.int .u8)) (hl:l.length<=maxLen):
  ∃c,l.length<=c/\c<=maxLen/\gY P (convert src dst (.string ⟨⟨l⟩⟩)) w G (O.push (.cells (l.map fL))) (.bq O.next 0 l.length c):=by
 have cj:=Lib.run_convert_string_bytes w src dst el ⟨⟨l⟩⟩ (bE ht hs) (bE ht hd) (bE ht he);have oB:(⟨⟨l⟩⟩:ByteArray).size=l.length:=rfl;rw[oB]at cj;have iy:=grownCap_ge w l.length 0 el;have hle:=grownCap_le_maxLen w l.length 0 el hl;refine⟨grownCap w l.length 0 el,iy,hle,?_⟩
 have gk:(Lib.bytesCells w el ⟨⟨l⟩⟩).toList.take (l.map fL).length=l.map fun b=>Value.int .u8 b.toNat:=by
  simp[Lib.bytesCells]
 obtain⟨h1,h2⟩:=h.drew.XQ (cs:=l.map fL) (C:=Lib.bytesCells w el ⟨⟨l⟩⟩) ⟨el,((Lib.bytesCells w el ⟨⟨l⟩⟩).size,(Lib.bytesCells w el ⟨⟨l⟩⟩).size+1),.inr (ags _)⟩ (by rw[gk];exact Ef l);have hW:Lib.bytesWorld w el ⟨⟨l⟩⟩=w.drew.alloc (.cells (Lib.bytesCells w el ⟨⟨l⟩⟩) el ((Lib.bytesCells w el ⟨⟨l⟩⟩).size,(Lib.bytesCells w el ⟨⟨l⟩⟩).size+1)):=Gb w.drew _ _;rw[hW]at cj;exact⟨_,_,_,cj,h1,h2,.bq (aH _ _ _) iy hle,fun k b hk=>jO.alloc h.drew _ k b hk⟩
theorem VL.bytes (ht:aL P tab) {d:Option Tmp} {src dst el:TypeId} {x:Operand} {ty:TypeId} {ps:String} {af:Array Edge} {g:Option (Nat×Bool)} {L:List (Fl×Oper)} {l:List UInt8}
  (hg:aN ops (.mk d (.convert src dst x) ty ps af g) e=some true) (hx:ev e x=some (.str l)) (hs:(tab src).map cy.under=some .string) (ri:(tab dst).map cy.under=some (.slice el)) (he:(tab el).map cy.under=some (.int .u8)) (hl:l.length<=maxLen) (hd:bp n d=true)
  (h:∀c,l.length<=c->c<=maxLen->VL P n D .plain ops L (aV d (.bq O.next 0 l.length c) e) (O.push (.cells (l.map fL))) Q):
  VL P n D .plain ops ((.one,.mk d (.convert src dst x) ty ps af g)::L) e O Q:=by
 refine VL.Ee (M:=fun m O'=>∃c,l.length<=c/\c<=maxLen/\m= .bq O.next 0 l.length c/\O'=O.push (.cells (l.map fL))) hg hd (fun G a w hw hf=>?_) ?_
 ·have h1:=hf.ev hx;generalize hu:a.eval x=u at h1;cases h1;obtain⟨c,c1,c2,c3⟩:=Uk (P:=P) ht hw hs ri he hl;exact⟨_,_,⟨c,c1,c2,rfl,rfl⟩,dw.of c3 (by simp[execOp,hu])⟩
 ·rintro m O' ⟨c,c1,c2,rfl,rfl⟩;exact h c c1 c2
theorem La (l:List UInt8):∀s:List UInt8,(l.map fun b=>(b.toNat:Int)).foldl (fun(r:ByteArray) (n:Int)=>r.push (UInt8.ofNat n.toNat)) ⟨⟨s⟩⟩=⟨⟨s++l⟩⟩:=by
 induction l with
 | nil=>intro s;simp
 | cons b l ih=>
   intro s;rw[acs,List.foldl_cons]
   have:(⟨⟨s⟩⟩:ByteArray).push (UInt8.ofNat (b.toNat:Int).toNat)=⟨⟨s++[b]⟩⟩:=by
    simp[ByteArray.push]
   rw[this,ih,ah4];rfl
theorem Eg (a:Addr) (l:List UInt8) (c:Nat) (w:World) (h:∀j v,(l.map fun b=>Value.int .u8 b.toNat)[j]?=some v->w.cell? (a.add j)=some v):
  (Conv.bytesToString (.slice (some a) l.length c)).run P w= .ok (.string ⟨⟨l⟩⟩) w:=by
 have h1:=run_loadCells_list (P:=P) w a (l.map fun b=>Value.int .u8 b.toNat) h;rw[alO]at h1;rw[run_bytesToString (P:=P) w a l.length c (l.map fun b=>(b.toNat:Int)) (by rw[h1,List.map_map];rfl)];rw[show(ByteArray.empty:ByteArray)=⟨⟨[]⟩⟩from rfl,La];rfl
theorem Lb {l:List UInt8} {us:List Value} (h:aO G (l.map fL) us):us=l.map fun b=>Value.int .u8 b.toNat:=by
 induction l generalizing us with
 | nil=>exact h.fF
 | cons b l ih=>
   obtain⟨u,TT,rfl,h1,h2⟩:=h.cD;rw[ih h2,h1.iP];rfl
theorem Ul (ht:aL P tab) (h:WR G O w) {src dst el:TypeId} {tk:Tok} {l:List UInt8} (hs:(tab src).map cy.under=some (.slice el)) (hd:(tab dst).map cy.under=some .string) (he:(tab el).map cy.under=some (.int .u8))
  (hx:VR G (.sl l.length (l.map fL) tk) u):gY P (convert src dst u) w G O (.str l):=by
 have hc:=fun a n c=>run_convert_bytes_string (P:=P) w src dst el a n c (bE ht hs) (bE ht he) (bE ht hd)
 refine⟨.string ⟨⟨l⟩⟩,w,G,?_,Gh.Le.refl G,h,.str,jO.refl _ _⟩;generalize hn:l.length=k at hx;generalize hm:l.map fL=cs at hx;cases hx with
 | slnil=>
   obtain rfl:l=[]:=RZ hn;rw[hc];rfl
 | jV=>
   obtain rfl:l=[]:=RZ hn;rw[hc];rfl
 | nX=>
   obtain rfl:l=[]:=RZ hn;rw[hc];exact Eg _ [] _ w fun j v hv=>by simp at hv
 | sl h1 h2 h3 h4 h5 h6=>
   rename_i us c b o;subst hn hm;have h7:=Lb (us:=us) ⟨h1,h3⟩;rw[hc];refine Eg _ l c w fun j v hv=>?_
   rw[<-h7]at hv;rw[Addr.add_lit];exact h.ec _ _ _ (h2 j v hv)
theorem VL.Yw (ht:aL P tab) {d:Option Tmp} {src dst el:TypeId} {x:Operand} {ty:TypeId} {ps:String} {af:Array Edge} {g:Option (Nat×Bool)} {L:List (Fl×Oper)} {nn:Nat} {cs:List MV} {tk:Tok} {l:List UInt8}
  (hg:aN ops (.mk d (.convert src dst x) ty ps af g) e=some true) (hx:ev e x=some (.sl nn cs tk)) (hs:(tab src).map cy.under=some (.slice el)) (ri:(tab dst).map cy.under=some .string) (he:(tab el).map cy.under=some (.int .u8)) (hn:nn=l.length) (gk:cs=l.map fL) (hd:bp n d=true)
  (h:VL P n D .plain ops L (aV d (.str l) e) O Q):VL P n D .plain ops ((.one,.mk d (.convert src dst x) ty ps af g)::L) e O Q:=by
 subst hn gk;refine VL.Ee (M:=fun m O'=>m= .str l/\O'=O) hg hd (fun G a w hw hf=>?_) ?_
 ·exact⟨_,_,⟨rfl,rfl⟩,dw.of (Ul (P:=P) ht hw hs ri he (hf.ev hx)) (by simp[execOp])⟩
 ·rintro m O' ⟨rfl,rfl⟩;exact h
end
section
variable {n:Sz} {D:List Deferred} {e e':Env} {P:Program} {tab:bY} {O O':VH} {m m':MV} {ops:Array Oper} {Q:VQ} {md:Md}
def cB:Op->Bool
 | .call c=>match c.callee with
   | .value _=>true
   | .builtin .append=>true
   | _=>false
 | _=>false
def Gc:Fl->Bool
 | .fk=>true
 | _=>false
def agB (P:Program) (n:Sz) (Q:VQ) (d:Option Tmp) (O:VH) (K:Env->VH->Prop) (e:Env) (fv:Option MV) (ms:Option (List MV)):Prop:=
 ∃id fs cs l R,fv=some (.func (.func id) fs cs)/\ms=some l/\Enters P id/\bp n d=true/\VF P id (fs++l++cs) O R/\∀r O',R r O'->match r with
  | .ret m=>K (aV d m e) O'
  | .panic m=>Q (.panic m) (kM n e) O'
def eH (P:Program) (id:FuncId) (l:List MV) (O:VH) (M:MV->VH->Prop):Prop:=
 ∀G w vs,WR G O w->aO G l vs->∃m O' u w' H,M m O'/\(callFunc id vs.toArray).run P w= .ok (.value u) w'/\Gh.Le G H/\WR H O' w'/\VR H m u
def iE:Md->Bool
 | .plain=>true
 | _=>false
def agC (P:Program) (n:Sz) (md:Md) (d:Option Tmp) (O:VH) (K:Env->VH->Prop) (e:Env) (fv:Option MV) (ms:Option (List MV)):Prop:=
 ∃id l M,iE md=true/\fv=some (.func (.func id) [] [])/\ms=some l/\bp n d=true/\eH P id l O M/\∀m O',M m O'->K (aV d m e) O'
def ah (P:Program) (n:Sz) (md:Md) (Q:VQ) (d:Option Tmp) (O:VH) (K:Env->VH->Prop) (e:Env) (fv:Option MV) (ms:Option (List MV)):Prop:=
 agB P n Q d O K e fv ms\/agC P n md d O K e fv ms
def uY (P:Program) (n:Sz) (D:List Deferred) (md:Md) (ops:Array Oper) (Q:VQ) (f:Fl) (o:Oper) (L:List (Fl×Oper)) (e:Env) (O:VH) (K:Env->VH->Prop):Prop:=
 match f,o.op with
 | .one,.call c=>match c.callee with
   | .value x=>ah P n md Q o.dst O K e (ev e x) (fP e c.args.toList)
   | _=>VL P n D md ops ((f,o)::L) e O Q
 | _,_=>VL P n D md ops ((f,o)::L) e O Q
theorem VL.ext {o:Oper} {c:Call} {x:Operand} {id:FuncId} {ms:List MV} {M:MV->VH->Prop} {L:List (Fl×Oper)} (hg:aN ops o e=some true) (uF:o.op= .call c) (hc:c.callee= .value x) (hf:ev e x=some (.func (.func id) [] [])) (hm:fP e c.args.toList=some ms) (hd:bp n o.dst=true)
  (hx:eH P id ms O M) (h:∀m O',M m O'->VL P n D .plain ops L (aV o.dst m e) O' Q):VL P n D .plain ops ((.one,o)::L) e O Q:=by
 intro fuel listed ix rR hp
 match ix,rR with
 | (i,g)::ix,rR=>
   obtain⟨rfl,ho,rR⟩:=rR;intro G a w hw aU;have uG:=aU.ev hf;generalize Bf:a.eval x=fv at uG;cases uG with
   | func h1 h2 h3 h4=>
     rename_i us vs;have iO:us=[]:=RZ h1;have n4:vs=[]:=RZ h3;subst iO;subst n4
     have ik:=aU.fP hm;obtain⟨m,O',u,w',H,hM,hr,g1,g2,g3⟩:=hx G w _ hw ik
     have cj:(execOp a.eval o).run P w= .ok (.value u) w':=by
      have ha: #[]++c.args.map a.eval++ #[]=(c.args.toList.map a.eval).toArray:=by apply Array.ext';simp
      simp only[execOp,uF,resolve,hc,Bf,Deferred.ofValue,Sem.run_bind,Sem.run_pure,Result.andThen_ok,invoke];rw[ha];exact hr
     simp only[acs,wpOps,ho,bn aU hg,if_true];refine .inl ?_;unfold Oper.wp;rw[cj];exact ma (fun _ _ _=>cz.le g1) (ix.map (·.1)) _ _ (h m O' hM 0 #[] ix rR (fun h=>absurd rfl h) H (a.put o.dst u) w' g2 ((aU.mono g1).aV hd g3))
theorem uY.sound {f:Fl} {o:Oper} {L:List (Fl×Oper)} {K:Env->VH->Prop} (hK:∀e O,K e O->VL P n D md ops L e O Q) (hg:aN ops o e=some true) (h:uY P n D md ops Q f o L e O K):VL P n D md ops ((f,o)::L) e O Q:=by
 obtain⟨d,op,ty,ps,af,g⟩:=o;cases f with
 | one=>
   cases op with
   | call c=>
     obtain⟨cl,as_,ts⟩:=c;cases cl with
     | value x=>
       rcases h with h | h
       ·obtain⟨id,fs,cs,l,R,h1,h2,h3,h4,h5,h6⟩:=h;refine VL.call hg h1 h2 rfl h3 h4 h5 fun r O' hr=>?_
        have:=h6 r O' hr;cases r with
        | ret m=>exact hK _ _ this
        | panic m=>exact this
       ·obtain⟨id,l,M,hp,h1,h2,h3,h4,h5⟩:=h;cases md with
        | plain=>exact VL.ext hg rfl rfl h1 h2 h3 h4 fun m O' hM=>hK _ _ (h5 m O' hM)
        | _=>cases hp
     | _=>exact h
   | _=>exact h
 | _=>exact h
def WL (P:Program) (tab:bY) (n:Sz) (D:List Deferred) (md:Md) (ops:Array Oper) (Q:VQ):List (Fl×Oper)->Env->VH->Prop
 | [],e,O=>Q .normal e O
 | (f,o)::L,e,O=>match aN ops o e with
   | none=>False
   | some false=>(match bp n o.dst&& !Gc f with
     | true=>WL P tab n D md ops Q L (aV o.dst cG e) O
     | false=>False)
   | some true=>(match cB o.op||Gc f with
     | true=>uY P n D md ops Q f o L e O (WL P tab n D md ops Q L)
     | false=>(match iC tab f o e O with
       | none=>VL P n D md ops ((f,o)::L) e O Q
       | some (m,O')=>(match bp n o.dst with
         | true=>WL P tab n D md ops Q L (aV o.dst m e) O'
         | false=>False)))
theorem WL.sound (ht:aL P tab):∀{L:List (Fl×Oper)} {e:Env} {O:VH},WL P tab n D md ops Q L e O->VL P n D md ops L e O Q
 | [],e,O,h=>VL.nil h
 | (f,o)::L,e,O,h=>by
   rw[WL]at h;split at h
   ·exact h.elim
   ·rename_i hg;split at h
    ·rename_i hd;simp only[Kn,Bool.not_eq_true']at hd;exact VL.skip (by rintro rfl;exact absurd hd.2 (by decide)) hg hd.1 (WL.sound ht h)
    ·exact h.elim
   ·rename_i hg;split at h
    ·exact uY.sound (fun e O h=>WL.sound ht h) hg h
    ·split at h
     ·exact h
     ·split at h
      ·exact VL.step ht hg ‹_› ‹_› (WL.sound ht h)
      ·exact h.elim
def Eh (P:Program) (n:Sz) (tab:bY) (D:List Deferred) (A B:Env->VH->VQ->Prop) (e:Env) (O:VH) (Q:VQ):Option MV->Prop
 | some (.v (.bool true))=>A e O Q
 | some (.v (.bool false))=>B e O Q
 | _=>False
def WC (P:Program) (tab:bY) (n:Sz) (D:List Deferred):Code->Env->VH->VQ->Prop
 | .skip,e,O,Q=>Q .normal e O
 | .exit i,e,O,Q=>Q (.exit i) e O
 | .label _,e,O,Q=>Q .normal e O
 | .ret,e,O,Q=>Q .ret e O
 | .scope c,e,O,Q=>WC P tab n D c e O (sJ Q)
 | .block id c,e,O,Q=>WC P tab n D c e O (iB id Q)
 | .seq a b,e,O,Q=>WC P tab n D a e O fun x e O=>match x with
   | .normal=>WC P tab n D b e O Q
   | x=>Q x e O
 | .cond c x y,e,O,Q=>Eh P n tab D (WC P tab n D x) (WC P tab n D y) e O Q (ev e c)
 | .region id ops false,e,O,Q=>WL P tab n D .plain ops Q (ops.toList.map (Fl.one, ·)) e O
 | c,e,O,Q=>VC P n D c e O Q
theorem WC.sound (ht:aL P tab):∀{c:Code} {e:Env} {O:VH} {Q:VQ},WC P tab n D c e O Q->VC P n D c e O Q:=by
 intro c;induction c with
 | skip=>intro e O Q h;exact VC.skip h
 | exit i=>intro e O Q h;exact VC.exit h
 | label l=>intro e O Q h;exact VC.label h
 | ret=>intro e O Q h;exact VC.ret h
 | scope c ih=>intro e O Q h;exact VC.scope (ih h)
 | block id c ih=>intro e O Q h;exact VC.az (ih h)
 | seq a b iha ihb=>
   intro e O Q h;refine VC.seq (VC.mono ?_ (iha h));intro x e O hx;cases x<;>first | exact ihb hx | exact hx
 | cond c x y ihx ihy=>
   intro e O Q h;simp only[WC]at h;unfold Eh at h;split at h
   ·rename_i he;exact VC.Bg he (ihx h)
   ·rename_i he;exact VC.agz he (ihy h)
   ·exact h.elim
 | region id ops dr=>
   intro e O Q h;cases dr with
   | true=>exact h
   | false=>obtain⟨l⟩:=ops;exact VC.Sf (WL.sound ht h)
 | loop c ih=>intro e O Q h;exact h
 | _=>intro e O Q h;exact h
def qG (K:Env->VH->Prop) (Q:VQ):VQ:=fun x e O=>match x with
 | .normal=>K e O
 | x=>Q x e O
def iF (tab:bY) (e:Env) (O:VH):List ResultVar->Option (List MV)
 | []=>some []
 | r::rs=>(jY tab e O r).bind fun m=>(iF tab e O rs).map (m:: ·)
def i_ (R:fU->VH->Prop) (O:VH):Option (List MV)->Prop
 | none=>False
 | some [m]=>R (.ret m) O
 | some l=>R (.ret (.tuple l)) O
def Cn (tab:bY) (rs:List ResultVar) (R:fU->VH->Prop):VQ:=fun x e O=>match x with
 | .normal=>i_ R O (iF tab e O rs)
 | .ret=>i_ R O (iF tab e O rs)
 | .panic m=>R (.panic m) O
 | _=>False
theorem rS (rs:List ResultVar):iF tab e O rs=rs.mapM (jY tab e O):=by
 induction rs with
 | nil=>rfl
 | cons r rs ih=>
   rw[iF,ih,List.mapM_cons];simp only[Option.bind_eq_bind];cases jY tab e O r with
   | none=>rfl
   | some m=>simp only[ah7];cases List.mapM (jY tab e O) rs<;>rfl
theorem VF.ofW (ht:aL P tab) {f:FuncId} {fn:Func} {c:Code} {args:List MV} {rs:List ResultVar} {R:fU->VH->Prop} (hf:P.funcs[f]?=some fn) (hb:fn.body=some c) (hk:(⟨fn.ntmps,0⟩:Sz)=n) (hr:fn.results.toList=rs) (hn:args.length<=n.n)
  (h:WC P tab n [] c (cx 0 args) O (Cn tab rs R)):VF P f args O R:=by
 subst hk;refine VF.enter ht hf hb hn (VC.mono ?_ (WC.sound ht h));intro x e O hx
 have key:i_ R O (iF tab e O rs)->∃m,df tab fn e O=some m/\R (.ret m) O:=fun h=>by
  unfold df;rw[hr, <-rS];generalize iF tab e O rs=z at h;unfold i_ at h;split at h
  ·exact h.elim
  ·exact⟨_,rfl,h⟩
  ·rename_i l hl;refine⟨.tuple l,?_,h⟩
   match l,hl with
   | [],_=>rfl
   | [m],hl=>exact absurd rfl (hl m)
   | _::_::_,_=>rfl
 cases x<;>first | exact key hx | exact hx
theorem VF.dy {f:FuncId} {fn:Func} {c:Code} {args:List MV} {R:fU->VH->Prop} {Q':Prop} (k:Nat) (rs:List ResultVar) (hf:P.funcs[f]?=some fn) (q:Q') (ht:aL P tab:=by exact aa) (hb:fn.body=some c:=by exact rfl) (hk:(⟨fn.ntmps,0⟩:Sz)=⟨k,0⟩:=by exact rfl) (hr:fn.results.toList=rs:=by exact rfl) (hn:args.length<=k:=by exact Nat.le_of_ble_eq_true rfl) (h:WC P tab ⟨k,0⟩ [] c (cx 0 args) O (Cn tab rs R)=Q':=by conv=>lhs;simp only[cx,Nat.zero_add,Nat.reduceAdd]):VF P f args O R:=VF.ofW ht hf hb hk hr hn (h.mpr q)
def W3 (P:Program) (tab:bY) (n:Sz) (D:List Deferred) (md:Md) (ops:Array Oper) (Q:VQ) (L:List (Fl×Oper)) (e:Env) (O:VH):Bool->Prop
 | true=>WL P tab n D md ops Q L e O
 | false=>False
def W2 (P:Program) (tab:bY) (n:Sz) (D:List Deferred) (md:Md) (ops:Array Oper) (Q:VQ) (f:Fl) (o:Oper) (L:List (Fl×Oper)) (e:Env) (O:VH):Option (MV×VH)->Prop
 | some (m,O')=>W3 P tab n D md ops Q L (aV o.dst m e) O' (bp n o.dst)
 | none=>VL P n D md ops ((f,o)::L) e O Q
def W1 (P:Program) (tab:bY) (n:Sz) (D:List Deferred) (md:Md) (ops:Array Oper) (Q:VQ) (f:Fl) (o:Oper) (L:List (Fl×Oper)) (e:Env) (O:VH):Bool->Option Bool->Prop
 | _,none=>False
 | true,some true=>uY P n D md ops Q f o L e O (WL P tab n D md ops Q L)
 | false,some true=>W2 P tab n D md ops Q f o L e O (iC tab f o e O)
 | _,some false=>W3 P tab n D md ops Q L (aV o.dst cG e) O (bp n o.dst&& !Gc f)
section
variable {f:Fl} {o:Oper} {L:List (Fl×Oper)} {d:Option Tmp} {p:Op} {ty:TypeId} {ps:String} {af:Array Edge} {g:Option (Nat×Bool)} {b:Bool}
theorem acC:WL P tab n D md ops Q [] e O=Q .normal e O:=rfl
theorem Yx:WL P tab n D md ops Q ((f,.mk d p ty ps af g)::L) e O=W1 P tab n D md ops Q f (.mk d p ty ps af g) L e O (cB p||Gc f) (aN ops (.mk d p ty ps af g) e):=by
 rw[WL];generalize aN ops (.mk d p ty ps af g) e=x;unfold W1;cases x with
 | none=>rfl
 | some b=>
   cases b with
   | false=>
     simp only;unfold W3;split<;>simp only
     all_goals (split<;>rename_i h<;>simp_all)
   | true=>
     simp only;generalize (cB p||Gc f)=y;cases y with
     | true=>rfl
     | false=>
       simp only;unfold W2;cases iC tab f (.mk d p ty ps af g) e O with
       | none=>rfl
       | some r=>unfold W3;cases bp n d<;>rfl
theorem Yy:W1 P tab n D md ops Q f o L e O true (some true)=uY P n D md ops Q f o L e O (WL P tab n D md ops Q L):=rfl
theorem agD:W1 P tab n D md ops Q f o L e O false (some true)=W2 P tab n D md ops Q f o L e O (iC tab f o e O):=rfl
theorem Yz:W1 P tab n D md ops Q f (.mk d p ty ps af g) L e O b (some false)=W3 P tab n D md ops Q L (aV d cG e) O (bp n d&& !Gc f):=by cases b<;>rfl
theorem YA:W2 P tab n D md ops Q f (.mk d p ty ps af g) L e O (some (m,O'))=W3 P tab n D md ops Q L (aV d m e) O' (bp n d):=rfl
theorem YB:W2 P tab n D md ops Q f o L e O none=VL P n D md ops ((f,o)::L) e O Q:=rfl
theorem YC:W3 P tab n D md ops Q L e O true=WL P tab n D md ops Q L e O:=rfl
variable {K:Env->VH->Prop} {x:Operand} {as_:Array Operand} {ts:Array TypeId}
theorem Lc:uY P n D md ops Q .one (.mk d (.call {callee:=.value x,args:=as_,argTypes:=ts}) ty ps af g) L e O K=ah P n md Q d O K e (ev e x) (fP e as_.toList):=rfl
theorem Gd:uY P n D md ops Q f (.mk d (.call {callee:=.builtin .append,args:=as_,argTypes:=ts}) ty ps af g) L e O K=VL P n D md ops ((f,.mk d (.call {callee:=.builtin .append,args:=as_,argTypes:=ts}) ty ps af g)::L) e O Q:=by cases f<;>rfl
end
section
variable {c a b:Code} {i id:Nat} {A B:Env->VH->VQ->Prop} {l:List Oper} {K:Env->VH->Prop} {R:fU->VH->Prop} {rs:List ResultVar} {r:ResultVar} {t:Nat} {m1 m2 m3:MV} {x:Operand} {y:Code}
theorem YD:WC P tab n D .skip e O Q=Q .normal e O:=rfl
theorem YE:WC P tab n D (.exit i) e O Q=Q (.exit i) e O:=rfl
theorem Um:WC P tab n D (.label i) e O Q=Q .normal e O:=rfl
theorem acD:WC P tab n D .ret e O Q=Q .ret e O:=rfl
theorem Un:WC P tab n D (.scope c) e O Q=WC P tab n D c e O (sJ Q):=rfl
theorem Uo:WC P tab n D (.block id c) e O Q=WC P tab n D c e O (iB id Q):=rfl
def YF (P:Program) (tab:bY) (n:Sz) (D:List Deferred) (b:Code) (Q:VQ):Env->VH->Prop:=fun e O=>WC P tab n D b e O Q
theorem Up:YF P tab n D b Q e O=WC P tab n D b e O Q:=rfl
theorem acE:WC P tab n D (.seq a b) e O Q=WC P tab n D a e O (qG (YF P tab n D b Q) Q):=rfl
theorem YG:WC P tab n D (.cond x a b) e O Q=Eh P n tab D (WC P tab n D a) (WC P tab n D b) e O Q (ev e x):=rfl
theorem Pt:WC P tab n D (.region id ⟨l⟩ false) e O Q=WL P tab n D .plain ⟨l⟩ Q (l.map (Fl.one, ·)) e O:=rfl
theorem Uq:WC P tab n D (.region id ops true) e O Q=VC P n D (.region id ops true) e O Q:=rfl
theorem YH:WC P tab n D (.loop c) e O Q=VC P n D (.loop c) e O Q:=rfl
theorem IP:qG K Q .normal e O=K e O:=rfl
theorem Pu:qG K Q (.exit i) e O=Q (.exit i) e O:=rfl
theorem Pv:qG K Q (.goto i) e O=Q (.goto i) e O:=rfl
theorem Ur:qG K Q .ret e O=Q .ret e O:=rfl
theorem Co:qG K Q (.panic m) e O=Q (.panic m) e O:=rfl
theorem YI:Eh P n tab D A B e O Q (some (.v (.bool true)))=A e O Q:=rfl
theorem YJ:Eh P n tab D A B e O Q (some (.v (.bool false)))=B e O Q:=rfl
theorem Us:iF tab e O []=some []:=rfl
theorem Pw:iF tab e O (r::rs)=(jY tab e O r).bind fun m=>(iF tab e O rs).map (m:: ·):=rfl
theorem IQ:jY tab e O (.tmp t)=look e t:=rfl
theorem Gf {ty:TypeId}:jY tab e O (.cell t ty)=(look e t).bind (eZ tab O ty):=rfl
theorem acF:i_ R O (some [])=R (.ret (.tuple [])) O:=rfl
theorem acG:i_ R O (some [m])=R (.ret m) O:=rfl
theorem acH:i_ R O (some [m,m1])=R (.ret (.tuple [m,m1])) O:=rfl
theorem acI:i_ R O (some [m,m1,m2])=R (.ret (.tuple [m,m1,m2])) O:=rfl
theorem acJ:i_ R O (some [m,m1,m2,m3])=R (.ret (.tuple [m,m1,m2,m3])) O:=rfl
theorem IS:Cn tab rs R .normal e O=i_ R O (iF tab e O rs):=rfl
theorem Ut:Cn tab rs R .ret e O=i_ R O (iF tab e O rs):=rfl
theorem Ld:Cn tab rs R (.panic m) e O=R (.panic m) O:=rfl
def cR (P:Program) (f:FuncId):Bool:=match P.funcs[f]? with
 | some fn=> !(fn.name== "runtime.NumGoroutine")&&fn.body.isSome
 | none=>false
theorem Enters.sN {f:FuncId} (h:cR P f=true):Enters P f:=by
 unfold cR at h;split at h
 ·rename_i fn hf;simp only[Kn,Bool.not_eq_true']at h;exact Enters.of hf h.1 (by cases hb:fn.body with | none=>rw[hb]at h;exact absurd h.2 (by decide) | some c=>rfl)
 ·cases h
theorem ah.rt {f:FuncId} {fs cs ms as_:List MV} {d:Option Tmp} {Φ :MV->VH->Prop} (hR:VF P f as_ O (aE Φ)) (h:∀m O', Φ m O'->K (aV d m e) O') (hb:cR P f=true:=by kernel_rfl) (ha:fs++ms++cs=as_:=by exact rfl) (hd:bp n d=true:=by exact rfl):
  ah P n md Q d O K e (some (.func (.func f) fs cs)) (some ms):=by
 subst ha
 exact .inl ⟨f,fs,cs,ms,_,rfl,rfl,Enters.sN hb,hd,hR,fun r O' hr=>by
  cases r with
  | ret m=>exact h m O' hr
  | panic m=>exact hr.elim⟩
theorem ah.p {f:FuncId} {fs cs ms as_:List MV} {d:Option Tmp} {R:fU->VH->Prop} (hR:VF P f as_ O R) (h:∀m O',R (.ret m) O'->K (aV d m e) O') (h2:∀m O',R (.panic m) O'->Q (.panic m) (kM n e) O') (hb:cR P f=true:=by kernel_rfl) (ha:fs++ms++cs=as_:=by exact rfl) (hd:bp n d=true:=by exact rfl):
  ah P n md Q d O K e (some (.func (.func f) fs cs)) (some ms):=by
 subst ha
 exact .inl ⟨f,fs,cs,ms,R,rfl,rfl,Enters.sN hb,hd,hR,fun r O' hr=>by
  cases r with
  | ret m=>exact h m O' hr
  | panic m=>exact h2 m O' hr⟩
theorem ah.ext {f:FuncId} {ms:List MV} {d:Option Tmp} {M:MV->VH->Prop} (hx:eH P f ms O M) (hd:bp n d=true) (h:∀m O',M m O'->K (aV d m e) O'):ah P n .plain Q d O K e (some (.func (.func f) [] [])) (some ms):=
 .inr ⟨f,ms,M,rfl,rfl,rfl,hd,hx,h⟩
theorem eH.of {f:FuncId} {fn:Func} {ex:Array Value->Sem Value} {ms:List MV} (hf:P.funcs[f]?=some fn) (agE:(fn.name== "runtime.NumGoroutine")=false) (hb:fn.body.isNone=true) (hn:Extern.findNext fn=none) (he:Extern.find fn=some ex)
  (hr:∀G w vs,WR G O w->aO G ms vs->∃u,(ex vs.toArray).run P w= .ok u w/\VR G m u):eH P f ms O fun m' O'=>m'=m/\O'=O:=by
 intro G w vs hw hv;obtain⟨u,h1,h2⟩:=hr G w vs hw hv;exact⟨m,O,u,w,G,⟨rfl,rfl⟩,by rw[run_callFunc_extern hf agE hb hn he,h1];rfl,Gh.Le.refl G,hw,h2⟩
theorem WC.reads {id:Nat} {l:List Oper}
  (h:WL P tab n D .reads ⟨l⟩ Q (l.map (Fl.rd, ·)) e O) (ht:aL P tab:=by exact aa) (hm:P.follows .mixedOrders=true:=by kernel_rfl) (hs:Region.noSelect ⟨l⟩=true:=by kernel_rfl) (hp:cH .reads ⟨l⟩ l.length (Array.replicate l.length false) ((List.range' 0 l.length).map (·,Fl.rd))=true:=by kernel_rfl):VC P n D (.region id ⟨l⟩ true) e O Q:=VC.Sl hm hs hp (WL.sound ht h)
theorem WC.bO (md:Md) (ix:List (Nat×Fl)) {id:Nat} {l:List Oper} {L:List (Fl×Oper)}
  (h:WL P tab n D md ⟨l⟩ Q L e O) (ht:aL P tab:=by exact aa) (hne:md≠ .plain:=by simp) (hm:P.follows .mixedOrders=true:=by kernel_rfl) (hs:Region.noSelect ⟨l⟩=true:=by kernel_rfl) (hp:cH md ⟨l⟩ l.length (Array.replicate l.length false) ix=true:=by kernel_rfl) (hL:mW l ix=some L:=by exact rfl):VC P n D (.region id ⟨l⟩ true) e O Q:=VC.Sg md ix hne hm hs hp hL (WL.sound ht h)
variable {σ :Type} {ls Ks:List Nat} {ks:List MV} {ms: σ ->List MV} {I: σ ->VH->Prop} {μ : σ ->Nat} {s: σ}
theorem WC.iS (ls Ks:List Nat) (ms: σ ->List MV) (I: σ ->VH->Prop) (μ : σ ->Nat) (s0: σ) (hI:I s0 O)
  (step:∀s O,I s O->WC P tab n D c (ji ls (ms s) (ji Ks ks [])) O (ax ls Ks ks ms I μ s Q)) (ht:aL P tab:=by exact aa) (h0:looks e ls=some (ms s0):=by exact rfl) (hk:looks e Ks=some ks:=by exact rfl):VC P n D (.loop c) e O Q:=
 VC.iS ls Ks ms I μ s0 h0 hk hI fun s O h=>WC.sound ht (step s O h)
end
theorem VL.app {d:Option Tmp} {x y:Operand} {t ty:TypeId} {ps:String} {af:Array Edge} {g:Option (Nat×Bool)} {L:List (Fl×Oper)} {p q:MV} (hv:iw tab O t p q=some (m,O')) (h:WL P tab n D md ops Q L (aV d m e) O') (ht:aL P tab:=by exact aa) (hx:ev e x=some p:=by exact rfl) (hy:ev e y=some q:=by exact rfl) (hg:aN ops (.mk d (.call {callee:=.builtin .append,args:= #[x,y],argTypes:= #[t,t]}) ty ps af g) e=some true:=by exact rfl) (hd:bp n d=true:=by exact rfl):
  VL P n D md ops ((.one,.mk d (.call {callee:=.builtin .append,args:= #[x,y],argTypes:= #[t,t]}) ty ps af g)::L) e O Q:=
 VL.step ht hg (by rw[wJ,cX,hx,hy];exact hv) hd (WL.sound ht h)
end
section
variable {G H:Gh} {n:Sz} {D:List Deferred} {e:Env} {a:Act} {P:Program} {tab:bY} {O O':VH} {w:World} {m m':MV} {u v:Value} {ops:Array Oper} {Q:VQ} {md:Md}
def fV (P:Program) (n:Sz) (D:List Deferred) (o:Oper) (e:Env) (O:VH) (M:MV->VH->Prop):Prop:=
 ∀G a w,WR G O w->FR G n D e a->∃m O' u w' H,M m O'/\(execOp a.eval o).run P w= .ok (.value u) w'/\Gh.Le G H/\WR H O' w'/\VR H m u
theorem aK.im {i:Nat} {o:Oper} {M:MV->VH->Prop} {K:Env->VH->Prop} (ho:ops[i]?=some o) (hg:aN ops o e=some true) (hd:bp n o.dst=true) (hy:fV P n D o e O M) (h:∀m O',M m O'->K (aV o.dst m e) O'):aK P n D ops i e O Q K:=by
 intro G a w hw aU;obtain⟨m,O',u,w',H,hM,hr,h1,h2,h3⟩:=hy G a w hw aU;simp only[wpOp,ho,bn aU hg,if_true];refine .inl ?_;unfold Oper.wp;rw[hr];exact⟨_,_,H,h1,h2,(aU.mono h1).aV hd h3,h _ _ hM⟩
theorem VL.im {o:Oper} {L:List (Fl×Oper)} {M:MV->VH->Prop} (hg:aN ops o e=some true) (hd:bp n o.dst=true) (hA:F7 o.op=true->∀brk,md= .held brk->brk≠[]) (hb:∀brk,md= .held brk->F7 o.op=false\/brk≠[]) (hy:fV P n D o e O M)
  (pD:∀brk,md= .held brk->∀i,ops[i]?=some o->brk.contains i=true) (h:∀m O',M m O'->VL P n D md ops L (aV o.dst m e) O' Q):VL P n D md ops ((.one,o)::L) e O Q:=by
 intro fuel listed ix hf hp
 match ix,hf with
 | (i,g)::ix,hf=>
   obtain⟨rfl,ho,hf⟩:=hf;cases md with
   | plain=>exact iz.one (aK.im ho hg hd hy fun m O' hM=>h m O' hM 0 #[] ix hf (fun h=>absurd rfl h))
   | any=>
     obtain⟨h1,h2⟩:=hp (by simp);cases fuel with
     | zero=>cases h2
     | succ fuel=>
       simp only[cH,Kn]at h2;have hr:Region.ready .any ops listed=[i]:=by simpa using h2.1
       exact cn.all hr (by simp) fun j hj=>by
        obtain rfl:j=i:=by simpa using hj
        exact aK.im ho hg hd hy fun m O' hM=>h m O' hM fuel (listed.setIfInBounds j true) ix hf (fun _=>⟨h1,h2.2⟩)
   | reads=>
     obtain⟨h1,h2⟩:=hp (by simp);cases fuel with
     | zero=>cases h2
     | succ fuel=>
       simp only[cH,Kn]at h2;exact absurd h2.1 (by simp)
   | held brk=>
     obtain⟨h1,h2⟩:=hp (by simp);cases fuel with
     | zero=>cases h2
     | succ fuel=>
       simp only[cH,Kn]at h2;have hr:Region.ready .any ops listed=[i]:=by simpa using h2.1.1
       have zg:∀j,(listed.setIfInBounds i true).getD j true=false\/j=i->brk.contains j=true:=by
        rcases rQ ho h2.1.2 with⟨h3,_⟩ | h3
        ·rw[pD brk rfl i ho]at h3;cases h3
        ·exact h3
       exact bL.Yi hr zg (aK.im ho hg hd hy fun m O' hM=>h m O' hM fuel (listed.setIfInBounds i true) ix hf (fun _=>⟨h1,h2.2⟩))
theorem VL.pH {o:Oper} {L:List (Fl×Oper)} {M:MV->VH->Prop} (hy:fV P n D o e O M) (h:∀m O',M m O'->VL P n D md ops L (aV o.dst m e) O' Q) (hmd:md= .plain\/md= .any:=by exact .inl rfl) (hg:aN ops o e=some true:=by exact rfl) (hd:bp n o.dst=true:=by exact rfl):VL P n D md ops ((.one,o)::L) e O Q:=by
 rcases hmd with rfl | rfl
 ·exact VL.im hg hd (fun _ _ h=>by cases h) (fun _ h=>by cases h) hy (fun _ h=>by cases h) h
 ·exact VL.im hg hd (fun _ _ h=>by cases h) (fun _ h=>by cases h) hy (fun _ h=>by cases h) h
def zP (O:VH) (sz:Nat):MV->Option (Nat×List MV)
 | .sl k ds _=>if ds.length=k*sz then some (k,ds)else none
 | .bq k o n _=>match O.hp k with
   | some (.cells cs)=>if o+n*sz<=cs.length then some (n,(cs.drop o).take (n*sz))else none
   | _=>none
 | .str l=>if sz=1 then some (l.length,l.map fL)else none
 | _=>none
def zQ:MV->TypeDesc->Prop
 | .str _,.string=>True
 | .str _,_=>False
 | _,.slice _=>True
 | _,_=>False
theorem strCells_eq (l:List UInt8):byteCells (⟨⟨l⟩⟩:ByteArray)=l.map fun b=>Value.int .u8 b.toNat:=by simp[byteCells]
theorem zR (h:WR G O w) {sz k:Nat} {ds:List MV} {tx:TypeId} {d:TypeDesc} (hs:zP O sz m=some (k,ds)) (hx:VR G m u) (ht:P.underlying tx=some d) (hd:zQ m d) (il:ds.all dK=true):∃us,Src P sz tx u k us w/\aO G ds us:=by
 unfold zP at hs;split at hs
 ·split at hs
  ·rename_i k' kO tk hl;injection hs with hs;injection hs with e1 e2;subst e1;subst e2
   have hk:∃e',P.underlying tx=some (.slice e'):=by
    cases d<;>simp only[zQ]at hd
    exact⟨_,ht⟩
   obtain⟨e',hk⟩:=hk
   have nil:∀A c,k'=0->kO=[]->VR G (.sl k' kO tk) (.slice A 0 c)->∃us,Src P sz tx (.slice A 0 c) k' us w/\aO G kO us:=fun A c e1 e2 _=>by
    subst e1;subst e2
    refine⟨[],?_,aO.nil⟩;cases A with
    | none=>exact Src.ofNil w hk c
    | some A=>exact Src.ofSlice w hk A 0 c [] (by simp) (fun j u hu=>by simp at hu) (fun u hu=>by cases hu)
   cases hx with
   | slnil=>exact nil _ _ rfl rfl .slnil
   | nX h1=>exact nil _ _ rfl rfl (.nX h1)
   | jV=>exact nil _ _ rfl rfl .jV
   | sl h1 h2 h3 h4 h5 h6=>
     rename_i us c b o;have hv:aO G kO us:=⟨h1,h3⟩;exact⟨us,Src.ofSlice w hk _ k' c us (by rw[h1,hl]) (fun j u hu=>by rw[Addr.add_lit];exact h.ec _ _ _ (h2 j u hu)) (x_ hv il),hv⟩
  ·cases hs
 ·rename_i k' o n' c';split at hs
  ·rename_i cs DK;split at hs
   ·rename_i hle;injection hs with hs;injection hs with e1 e2;subst e1;subst e2
    have hk:∃e',P.underlying tx=some (.slice e'):=by
     cases d<;>simp only[zQ]at hd
     exact⟨_,ht⟩
    obtain⟨e',hk⟩:=hk;cases hx with
    | bq hp hn hm=>
      rename_i b;obtain⟨b',C,T,h1,h2,h3⟩:=h.cells k' cs DK;rw[hp]at h1;injection h1 with h1;subst h1
      have hv:=(h3.drop o).take (n'*sz);refine⟨_,Src.ofSlice w hk ⟨b,o,none⟩ n' c' _ ?_ (fun j u hu=>?_) (x_ hv il),hv⟩
      ·rw[hv.1];simp;omega
      ·rw[Addr.add_lit];rw[agt]at hu;split at hu
       ·rw[List.getElem?_drop,agt]at hu;split at hu
        ·simp only[World.cell?,h2,agu,acv,if_false];simpa using hu
        ·cases hu
       ·cases hu
   ·cases hs
  ·cases hs
 ·rename_i l;split at hs
  ·rename_i oB;subst oB;injection hs with hs;injection hs with e1 e2;subst e1;subst e2
   have hk:P.underlying tx=some .string:=by
    cases d<;>simp only[zQ]at hd
    exact ht
   cases hx;refine⟨_,Src.ofString w hk ⟨⟨l⟩⟩,?_⟩;rw[strCells_eq];exact Ef l
  ·cases hs
 ·cases hs
theorem YK {α :Type} {s:Sem α} {x y: α} {w1 w2:World} (h1:s.run P w= .ok x w1) (h2:s.run P w= .ok y w2):w1=w2:=by
 rw[h1]at h2;injection h2
theorem Px (h:WR G O w) {k b i:Nat} {cs:List MV} (hk:O.hp k=some (.cells cs)) (hp:G.bR k=some b) (hi:i<cs.length):(w.cell? ⟨b,i,none⟩).isSome=true/\w.frozen? ⟨b,i,none⟩=false:=by
 obtain⟨b',C,T,e1,e2,e3⟩:=h.cells k cs hk;rw[hp]at e1;injection e1 with e1;subst e1
 have hlen:i<C.size:=by have:=e3.1;simp at this;omega
 constructor
 ·simp only[World.cell?,e2,agu,acv,if_false,Array.getElem?_eq_getElem hlen,Option.isSome_some]
 ·obtain⟨t',⟨lo,hi⟩,cK⟩:=T;dsimp only at e2 cK;simp only[World.frozen?,e2,Bool.and_eq_false_imp,decide_eq_true_eq,decide_eq_false_iff_not];intro;omega
theorem Lf (ht:aL P tab) (h:WR G O w) {t tx ty el:TypeId} {te:cy} {d:TypeDesc} {k o n' c j:Nat} {cs ds:List MV} (hu:(tab t).map cy.under=some (.slice el)) (he:tab el=some te) (uZ:P.underlying tx=some d) (hk:O.hp k=some (.cells cs)) (hs:zP O te.size m=some (j,ds)) (hd:zQ m d) (il:ds.all dK=true)
  (oD:n'+j<=c) (hle:o+n'*te.size+ds.length<=cs.length) (hx:VR G (.bq k o n' c) u) (hy:VR G m v):
  ∃w' A,(Builtin.append_ #[t,tx] ty #[u,v]).run P w= .ok (.slice A (n'+j) c) w'/\WR G (O.set k (.cells (eg cs (o+n'*te.size) ds))) w'/\VR G (.bq k o (n'+j) c) (.slice A (n'+j) c):=by
 obtain⟨ti,z,i1,i2,i3,i4,i5,i6⟩:=(ht _ te he).info;obtain⟨us,oS,hv⟩:=zR (P:=P) h hs hy uZ hd il;cases hx with
 | bq hp hn hm=>
   rename_i b;have ir:=fun(q:Nat) (hq:q<us.length)=>Px h (i:=o+n'*te.size+q) hk hp (by have:=hv.1;omega)
   rw[<-i2]at oS ir;have hr:=run_append_room_src (P:=P) w t tx ty el ti (bE ht hu) i1 b o n' c v j us oS oD (fun q hq=>(ir q hq).1) (fun q hq=>(ir q hq).2);obtain⟨w2,fl,qx⟩:=yc (P:=P) hp (o+n'*te.size) ds us 0 cs O w h hk hv il (by omega);have gX:=run_storeCells_cells (P:=P) b (o+n'*ti.size) us 0 w (by simpa using fun q hq=>(ir q hq).1) (by simpa using fun q hq=>(ir q hq).2) oS.one;rw[i2]at gX;have:=YK fl gX;subst this;rw[i2]at hr;exact⟨_,_,hr,by simpa using qx,.bq hp oD hm⟩
def VH.yy (O:VH) (cs:List MV) (t:TypeId) (n:Nat):VH:=(O.push (.cells cs)).push (.shape O.next t n)
theorem zS (ht:aL P tab) (h:WR G O w) {t tx ty el:TypeId} {te:cy} {d:TypeDesc} {n' c j:Nat} {A:Option Addr} {L ds:List MV} {us:List Value} (hu:(tab t).map cy.under=some (.slice el)) (he:tab el=some te) (uZ:P.underlying tx=some d) (hs:zP O te.size m=some (j,ds)) (hd:zQ m d) (il:ds.all dK=true)
  (hL:aO G L us) (oE:L.length=n'*te.size) (hold:(Builtin.firstCells te.size n' (.slice A n' c)).run P w.drew= .ok us.toArray w.drew) (oD:c<n'+j) (hb:(n'+j)*te.bytes<=140737488355328) (hm:n'+j<=maxLen) (hy:VR G m v):
  ∃c' w' H zs,n'+j<=c'/\c'<=maxLen/\zs.length=(c' - (n'+j))*te.size/\(Builtin.append_ #[t,tx] ty #[.slice A n' c,v]).run P w= .ok (.slice (some ⟨w.heap.size,0,none⟩) (n'+j) c') w'/\Gh.Le G H/\WR H (O.yy (L++ds++zs) el (c'*te.size)) w'/\VR H (.bq O.next 0 (n'+j) c') (.slice (some ⟨w.heap.size,0,none⟩) (n'+j) c'):=by
 obtain⟨ti,z,i1,i2,i3,i4,i5,i6⟩:=(ht _ te he).info;obtain⟨vs,oS,hv⟩:=zR (P:=P) h hs hy uZ hd il;have iy:=grownCap_ge w (n'+j) c el;have hle:=grownCap_le_maxLen w (n'+j) c el hm;have YL:=oS;rw[<-i2]at YL hold;have hr:=run_append_grow_src (P:=P) w t tx ty el ti z (bE ht hu) i1 i4 A n' c us hold v j vs YL oD (by simp only[maxLen]at hm;omega) (by rw[i3];exact growslice_fits (by omega) hb)
 have hzc:aO G (iu te.zero ((grownCap w (n'+j) c el - (n'+j))*te.size)) (Builtin.zeroCells z.cells (grownCap w (n'+j) c el - (n'+j))).toList:=by
  rcases Nat.eq_zero_or_pos te.zero.length with hz | hz
  ·have hz0:te.size=0:=by have:=(i6 G).1;rw[Array.length_toList,i5]at this;omega
   have:z.cells.size=0:=by rw[i5,hz0]
   rw[hz0,Nat.mul_zero];refine⟨by simp[iu,Builtin.zeroCells,this],fun i c u hc=>by simp[iu]at hc⟩
  ·have hzz:=ye (i6 G) hz ((grownCap w (n'+j) c el - (n'+j))*te.size);rw[<-i5]at hzz ⊢;exact hzz
 have kC:=(hL.append hv).append hzc;obtain⟨g1,g2⟩:=h.drew.push (cs:=L++ds++iu te.zero ((grownCap w (n'+j) c el - (n'+j))*te.size)) (C:=(us++vs).toArray++Builtin.zeroCells z.cells (grownCap w (n'+j) c el - (n'+j))) el (by simpa using kC);have gP:(us++vs).length=(n'+j)*te.size:=by rw[TP,hL.1,oE,oS.newsLen,alJ]
 have oB:((us++vs).toArray++Builtin.zeroCells z.cells (grownCap w (n'+j) c el - (n'+j))).size=grownCap w (n'+j) c el*te.size:=by
  rw[Array.size_append,Ku,i5,List.size_toArray,gP, <-alJ]
  congr 1;omega
 refine⟨grownCap w (n'+j) c el,_,_,iu te.zero ((grownCap w (n'+j) c el - (n'+j))*te.size),iy,hle,by simp[iu],hr,g1,g2.DO (aH _ _ _) ?_,.bq (aH _ _ _) iy hle⟩
 have:(w.drew.alloc (.cells ((us++vs).toArray++Builtin.zeroCells z.cells (grownCap w (n'+j) c el - (n'+j))) el)).heap[w.drew.heap.size]?=some (.cells ((us++vs).toArray++Builtin.zeroCells z.cells (grownCap w (n'+j) c el - (n'+j))) el):=by
  rw[fh,if_pos rfl]
 show World.shape? _ w.drew.heap.size=_;simp only[World.shape?,this,oB]
structure Row (O:VH) (el:TypeId) (sz B k c:Nat) (L:List MV):Prop where
 cells:∃sp,O.hp k=some (.cells (L++sp))/\(L++sp).length=c*sz
 nG:∃j,B<=j/\j<O.next/\O.hp j=some (.shape k el (c*sz))
 lo:B<=k
 hi:k<O.next
structure br (O:VH) (q:Option Nat) (O':VH):Prop where
 next:O.next<=O'.next
 hp:∀i,i<O.next->q≠some i->O'.hp i=O.hp i
def gid:MV->Option Nat
 | .bq k _ _ _=>some k
 | .ptr k _=>some k
 | _=>none
def GR (O:VH) (el:TypeId) (sz B:Nat) (p:MV) (n:Nat) (L:List MV):Prop:=
 (n=0/\L=[]/\(p= .sl 0 [] .nil\/p= .sl 0 [] .full))\/∃k c,p= .bq k 0 n c/\n<=c/\L.length=n*sz/\Row O el sz B k c L
section
variable {el:TypeId} {sz B B' k c q:Nat} {L:List MV} {O1:VH} {x:cf}
theorem br.refl (O:VH) (q:Option Nat):br O q O:=⟨ags _,fun _ _ _=>rfl⟩
theorem br.ge (h:O.Ge O1) (u:br O1 (some q) O') (hq:O.next<=q):O.Ge O':=⟨ahZ h.next u.next,fun i hi=>(u.hp i (XN hi h.next) (by intro e;injection e;omega)).trans (h.hp i hi)⟩
theorem br.geN (h:O.Ge O1) (u:br O1 none O'):O.Ge O':=⟨ahZ h.next u.next,fun i hi=>(u.hp i (XN hi h.next) (by simp)).trans (h.hp i hi)⟩
theorem br.lR (h:O.Ge O'):br O none O':=⟨h.next,fun i hi _=>h.hp i hi⟩
theorem br.trans {o:Option Nat} (h:br O o O1) (h2:br O1 o O'):br O o O':=⟨ahZ h.next h2.next,fun i hi hq=>(h2.hp i (XN hi h.next) hq).trans (h.hp i hi hq)⟩
theorem br.any {o:Option Nat} (h:br O none O'):br O o O':=⟨h.next,fun i hi _=>h.hp i hi (by simp)⟩
theorem br.set:br O (some q) (O.set q x):=⟨ags _,fun i _ h=>VH.ak _ _ (fun e=>h (by rw[e]))⟩
theorem br.push:br O none (O.push x):=⟨Nat.le_succ _,fun i hi _=>VH.bA _ _ hi⟩
theorem br.kill:br O (some q) (O.kill q):=⟨ags _,fun i _ h=>VH.kN _ (fun e=>h (by rw[e]))⟩
theorem Row.pI (h:Row O el sz B k c L) (u:br O (some q) O') (hq:q≠k) (hs:∀t n,O.hp q≠some (.shape k t n)):Row O' el sz B k c L:=by
 obtain⟨sp,h1,h2⟩:=h.cells;obtain⟨j,h3,h4,h5⟩:=h.nG;refine⟨⟨sp,(u.hp k h.hi (by simpa using hq)).trans h1,h2⟩,⟨j,h3,XN h4 u.next,(u.hp j h4 ?_).trans h5⟩,h.lo,XN h.hi u.next⟩;intro e;injection e with e;subst e;exact hs _ _ h5
theorem Row.yz (h:Row O el sz B k c L) (u:br O none O'):Row O' el sz B k c L:=by
 obtain⟨sp,h1,h2⟩:=h.cells;obtain⟨j,h3,h4,h5⟩:=h.nG;exact⟨⟨sp,(u.hp k h.hi (by simp)).trans h1,h2⟩,⟨j,h3,XN h4 u.next,(u.hp j h4 (by simp)).trans h5⟩,h.lo,XN h.hi u.next⟩
theorem GR.yz {p:MV} {n:Nat} (h:GR O el sz B p n L) (u:br O none O'):GR O' el sz B p n L:=by
 rcases h with h | ⟨k,c,h1,h2,h3,h4⟩
 ·exact .inl h
 ·exact .inr ⟨k,c,h1,h2,h3,h4.yz u⟩
theorem GR.pI {p:MV} {n:Nat} (h:GR O el sz B p n L) (u:br O (some q) O') (hq:gid p≠some q) (hs:∀k t n,O.hp q≠some (.shape k t n)):GR O' el sz B p n L:=by
 rcases h with h | ⟨k,c,h1,h2,h3,h4⟩
 ·exact .inl h
 ·exact .inr ⟨k,c,h1,h2,h3,h4.pI u (fun e=>hq (by rw[h1,e];rfl)) (hs k)⟩
theorem Row.aeV {L':List MV} (h:Row O el sz B k c L) {sp:List MV} (hl:(L'++sp).length=c*sz):Row (O.set k (.cells (L'++sp))) el sz B k c L':=by
 obtain⟨j,h3,h4,h5⟩:=h.nG;refine⟨⟨sp,VH.an _ _ _,hl⟩,⟨j,h3,h4,?_⟩,h.lo,h.hi⟩;rw[VH.ak _ _ (fun e=>?_)]
 ·exact h5
 ·subst e;obtain⟨sp,h1,_⟩:=h.cells;rw[h1]at h5;cases h5
theorem Row.wider (h:Row O el sz B k c L) (hB:B'<=B):Row O el sz B' k c L:=by
 obtain⟨j,h3,h4,h5⟩:=h.nG;exact⟨h.cells,⟨j,ahZ hB h3,h4,h5⟩,ahZ hB h.lo,h.hi⟩
theorem Row.yy {cs:List MV} {t:TypeId} {sp:List MV} (hl:(L++sp).length=c*sz) (hB:B<=O.next):Row (O.yy (L++sp) el (c*sz)) el sz B O.next c L:=
 ⟨⟨sp,(VH.bA _ _ (by show O.next<O.next+1;omega)).trans (VH.aW _ _),hl⟩,⟨O.next+1,by omega,by show O.next+1<O.next+1+1;omega,VH.aW _ _⟩,hB,by show O.next<O.next+1+1;omega⟩
theorem zT (L ds sp:List MV):eg (L++sp) L.length ds=L++ds.take sp.length++sp.drop ds.length:=by
 induction ds generalizing L sp with
 | nil=>simp[eg]
 | cons d ds ih=>
   cases sp with
   | nil=>
     simp only[List.append_nil,ah0,alT,List.drop_nil,eg]
     have:∀(ds:List MV) (o:Nat),L.length<=o->eg L o ds=L:=by
      intro ds;induction ds with
      | nil=>intro o _;rfl
      | cons x xs ih=>intro o ho;rw[eg,alL ho];exact ih (o+1) (by omega)
     rw[alL (ags _)];exact this ds _ (by omega)
   | cons s sp=>
     have:=ih (L++[d]) sp;simp only[eg];rw[List.set_append_right _ _ (ags _),Nat.sub_self,alI];simp only[ah4,List.singleton_append,TP,agw,ah0]at this;rw[this];simp
end
theorem VL.grow (ht:aL P tab) {el:TypeId} {te:cy} {B n' j:Nat} {L ds:List MV} {p q:MV} {dx:TypeDesc} {d:Option Tmp} {x y:Operand} {t tx ty:TypeId} {ps:String} {af:Array Edge} {g:Option (Nat×Bool)} {LL:List (Fl×Oper)} (hmd:md= .plain\/md= .any)
  (hr:GR O el te.size B p n' L) (hs:zP O te.size q=some (j,ds)) (il:ds.all dK=true) (hu:(tab t).map cy.under=some (.slice el)) (he:tab el=some te) (uZ:(tab tx).map cy.under=some dx) (Ei:zQ q dx) (hb:(n'+j)*te.bytes<=140737488355328) (hm:n'+j<=maxLen) (hB:B<=O.next)
  (hx:ev e x=some p) (hy:ev e y=some q) (hg:aN ops (.mk d (.call {callee:=.builtin .append,args:= #[x,y],argTypes:= #[t,tx]}) ty ps af g) e=some true) (hd:bp n d=true)
  (h:∀m O',GR O' el te.size B m (n'+j) (L++ds)->br O (gid p) O'->(gid p=none->O.Ge O')->((∃k c,m= .bq k 0 (n'+j) c/\(gid p=some k\/(O.next<=k/\j≠0)))\/(j=0/\m=p/\O'=O))->WL P tab n D md ops Q LL (aV d m e) O'):
  VL P n D md ops ((.one,.mk d (.call {callee:=.builtin .append,args:= #[x,y],argTypes:= #[t,tx]}) ty ps af g)::LL) e O Q:=by
 refine VL.pH (M:=fun m O'=>GR O' el te.size B m (n'+j) (L++ds)/\br O (gid p) O'/\(gid p=none->O.Ge O')/\((∃k c,m= .bq k 0 (n'+j) c/\(gid p=some k\/(O.next<=k/\j≠0)))\/(j=0/\m=p/\O'=O))) (fun G a w hw hf=>?_) (hmd:=hmd) (hg:=hg) (hd:=hd) fun m O' ⟨h1,h2,h3,h4⟩=>WL.sound ht (h m O' h1 h2 h3 h4)
 have mX:=hf.ev hx;have xg:=hf.ev hy;have fx:=bE ht uZ
 have fin:∀{m O' u w' H},(GR O' el te.size B m (n'+j) (L++ds)/\br O (gid p) O'/\(gid p=none->O.Ge O')/\((∃k c,m= .bq k 0 (n'+j) c/\(gid p=some k\/(O.next<=k/\j≠0)))\/(j=0/\m=p/\O'=O)))->(Builtin.append_ #[t,tx] ty #[a.eval x,a.eval y]).run P w= .ok u w'->Gh.Le G H->WR H O' w'->VR H m u->
   ∃m O' u w' H,(GR O' el te.size B m (n'+j) (L++ds)/\br O (gid p) O'/\(gid p=none->O.Ge O')/\((∃k c,m= .bq k 0 (n'+j) c/\(gid p=some k\/(O.next<=k/\j≠0)))\/(j=0/\m=p/\O'=O)))/\(execOp a.eval (.mk d (.call {callee:=.builtin .append,args:= #[x,y],argTypes:= #[t,tx]}) ty ps af g)).run P w= .ok (.value u) w'/\Gh.Le G H/\WR H O' w'/\VR H m u:=fun hM cj h1 h2 h3=>
  ⟨_,_,_,_,_,hM,by simp only[execOp,resolve,invoke,builtin,List.map_toArray,acs,alF,Sem.run_bind,Sem.run_pure,Result.andThen_ok]<;>simp[cj],h1,h2,h3⟩
 obtain⟨vs,oS,hv⟩:=zR (P:=P) hw hs xg fx Ei il;have hY:ds.length=j*te.size:=by rw[<-hv.1];exact oS.newsLen
 rcases hr with⟨rfl,rfl,hp⟩ | ⟨k,c,rfl,zU,oE,cQ⟩
 ·have hA:∃A,a.eval x= .slice A 0 0/\(∀w',(Builtin.firstCells te.size 0 (.slice A 0 0)).run P w'= .ok #[] w'):=by
   generalize a.eval x=u at mX
   have key:∀A:Option Addr,∀w',(Builtin.firstCells te.size 0 (.slice A 0 0)).run P w'= .ok #[] w':=fun A w'=>by
    cases A<;>simp[Builtin.firstCells,loadCells,loadCellsFrom]
   rcases hp with rfl | rfl
   ·cases mX with
    | slnil=>exact⟨_,rfl,key _⟩
    | sl h1 h2 h3 h4 h5 h6=>exact h6.elim
   ·cases mX with
    | sl h1 h2 h3 h4 h5 h6=>
      have h6:_=0:=h6;subst h6;exact⟨_,rfl,key _⟩
  obtain⟨A,hA,Lg⟩:=hA;have YM:gid p=none:=by rcases hp with rfl | rfl<;>rfl
  by_cases hj:j=0
  ·subst hj;have ri:ds=[]:=RZ (by simpa using hY);subst ri;refine fin (m:=p) (O':=O) (u:=a.eval x) (w':=w) (H:=G) ⟨.inl ⟨rfl,rfl,hp⟩,br.refl _ _,fun _=>VH.Ge.refl _,.inr ⟨rfl,rfl,rfl⟩⟩ ?_ (Gh.Le.refl G) hw mX;have iO:vs=[]:=by have:=hv.1;simpa using this
   subst iO;rw[hA];have eW:=bE ht hu;obtain⟨ti,z,i1,i2,_⟩:=(ht _ te he).info;rcases oS.kind with⟨e',hk⟩ | hk<;>cases A<;>simp[Builtin.append_,run_underlying eW,run_underlying hk,fi (ht _ te he),oS.len,oS.cells,storeCells]
  ·rw[hA]at fin;obtain⟨c',w',H,zs,g1,g2,g3,g4,g5,g6,g7⟩:=zS (P:=P) ht hw (n':=0) (c:=0) (A:=A) (L:=[]) (us:=[]) (ty:=ty) hu he fx hs Ei il aO.nil (by simp) (Lg _) (by omega) hb hm xg;refine fin ⟨.inr ⟨O.next,c',rfl,g1,by rw[TP,hY];simp,?_⟩,?_,fun _=>?_,.inl ⟨_,_,rfl,.inr ⟨ags _,hj⟩⟩⟩ g4 g5 g6 g7
   ·refine Row.yy (cs:=[]) (t:=el) ?_ hB;rw[TP,g3,TP,hY,ah0,ahY, <-alJ]
    congr 1;omega
   ·rw[YM];exact br.push.trans br.push
   ·exact((VH.Ge.refl O).push _).push _
 ·obtain⟨sp,gk,jX⟩:=cQ.cells;generalize oF:a.eval x=u at mX;have YN:=mX;cases YN with
  | bq hp hn hmx=>
    rename_i b;rw[oF]at fin;have hmul:(n'+j)*te.size=n'*te.size+j*te.size:=alJ _ _ _;by_cases oD:n'+j<=c
    ·have hle:(n'+j)*te.size<=c*te.size:=Nat.mul_le_mul_right _ oD;obtain⟨w',A,g1,g2,g3⟩:=Lf (P:=P) (ty:=ty) ht hw hu he fx gk hs Ei il oD (by rw[jX,hY];omega) mX xg;rw[ahY, <-oE,zT]at g2
     have Hu:ds.length<=sp.length:=by
      rw[TP]at jX;omega
     rw[ah5 Hu]at g2;refine fin ⟨.inr ⟨k,c,rfl,oD,by rw[TP,oE,hY,hmul],cQ.aeV ?_⟩,br.set,(fun h=>by cases h),.inl ⟨_,_,rfl,.inl rfl⟩⟩ g1 (Gh.Le.refl G) g2 g3;rw[TP,TP,List.length_drop];rw[TP]at jX;omega
    ·obtain⟨b',C,T,d1,d2,d3⟩:=hw.cells k _ gk;rw[hp]at d1;injection d1 with d1;subst d1
     have hL:=d3.take L.length;rw[List.take_left,List.take_take,Nat.min_eq_left (by rw[TP];omega)]at hL
     have hold:(Builtin.firstCells te.size n' (.slice (some ⟨b,0,none⟩) n' c)).run P w.drew= .ok (C.toList.take L.length).toArray w.drew:=by
      refine run_firstCells_some (P:=P) w.drew te.size n' ⟨b,0,none⟩ n' c _ (by rw[hL.1,oE]) fun i u hu=>?_
      rw[Addr.add_lit,ahY];rw[agt]at hu;split at hu
      ·have kf:w.drew.heap[b]?=some (.cells C T.t T.fr):=d2;simp only[World.cell?,kf,agu,acv,if_false];simpa using hu
      ·cases hu
     obtain⟨c',w',H,zs,g1,g2,g3,g4,g5,g6,g7⟩:=zS (P:=P) (ty:=ty) ht hw (n':=n') (c:=c) (A:=some ⟨b,0,none⟩) (L:=L) hu he fx hs Ei il hL oE hold (by omega) hb hm xg;refine fin ⟨.inr ⟨O.next,c',rfl,g1,by rw[TP,oE,hY,hmul],?_⟩,(br.push.trans br.push).any,(fun h=>by cases h),.inl ⟨_,_,rfl,.inr ⟨ags _,by omega⟩⟩⟩ g4 g5 g6 g7;refine Row.yy (cs:=[]) (t:=el) ?_ hB;rw[TP,g3,TP,oE,hY, <-hmul, <-alJ]
     congr 1;omega
end
section
variable {G H:Gh} {n:Sz} {D:List Deferred} {e:Env} {a:Act} {P:Program} {tab:bY} {O O':VH} {w:World} {m m':MV} {u v:Value} {ops:Array Oper} {Q:VQ} {md:Md}
def iG (P:Program) (n:Sz) (D:List Deferred) (o:Oper) (e:Env) (m:MV):Prop:=∀G a,FR G n D e a->du P o a G m
theorem aK.pure {i:Nat} {o:Oper} {K:Env->VH->Prop} (ho:ops[i]?=some o) (hg:aN ops o e=some true) (hd:bp n o.dst=true) (hy:iG P n D o e m) (h:K (aV o.dst m e) O):aK P n D ops i e O Q K:=by
 refine aK.im (M:=fun m' O'=>m'=m/\O'=O) ho hg hd (fun G a w hw hf=>?_) (by rintro m' O' ⟨rfl,rfl⟩;exact h);obtain⟨u,hu,hr⟩:=hy G a hf;exact⟨m,O,u,w,G,⟨rfl,rfl⟩,hr w hw.ss,Gh.Le.refl G,hw,hu⟩
theorem VL.pure {f:Fl} {o:Oper} {L:List (Fl×Oper)} (qw:f≠ .fk) (hh:f= .one->iE md=true\/md= .any) (hg:aN ops o e=some true) (hd:bp n o.dst=true) (hy:iG P n D o e m) (h:VL P n D md ops L (aV o.dst m e) O Q):VL P n D md ops ((f,o)::L) e O Q:=by
 intro fuel listed ix hf hp
 match ix,hf with
 | (i,g)::ix,hf=>
   obtain⟨rfl,ho,hf⟩:=hf;cases md with
   | plain=>exact iz.one (aK.pure ho hg hd hy (h 0 #[] ix hf (fun h=>absurd rfl h)))
   | any=>
     obtain⟨h1,h2⟩:=hp (by simp);cases fuel with
     | zero=>cases h2
     | succ fuel=>
       simp only[cH,Kn]at h2;have hk:=h fuel (listed.setIfInBounds i true) ix hf (fun _=>⟨h1,h2.2⟩);cases g with
       | one=>
         have hr:Region.ready .any ops listed=[i]:=by simpa using h2.1
         exact cn.all hr (by simp) fun j hj=>by
          obtain rfl:j=i:=by simpa using hj
          exact aK.pure ho hg hd hy hk
       | av=>
         simp only[Kn]at h2;intro G a w hw aU;obtain⟨u,hu,hr⟩:=hy G a aU;exact wpAnyH_take ho h1 h2.1.1 h2.1.2 (g_ hd) (.inl ⟨bn aU hg,hr⟩) hw.ss (hk G _ w hw (aU.aV hd hu))
       | rd=>exact absurd h2.1 (by simp)
       | fk=>exact absurd rfl qw
   | reads=>
     obtain⟨h1,h2⟩:=hp (by simp);cases fuel with
     | zero=>cases h2
     | succ fuel=>
       simp only[cH,Kn]at h2;have hk:=h fuel (listed.setIfInBounds i true) ix hf (fun _=>⟨h1,h2.2⟩);intro G a w hw aU;obtain⟨u,hu,cj⟩:=hy G a aU;have h3:Region.free .any ops listed i=true/\(Region.ready .any ops listed).contains i=true:=by cases g<;>simp_all
       exact wpAnyH_take ho h1 h3.1 h3.2 (g_ hd) (.inl ⟨bn aU hg,fun w' qY=>by rw[qY];exact cj w hw.ss⟩) rfl (hk G _ w hw (aU.aV hd hu))
   | held brk=>
     obtain⟨h1,h2⟩:=hp (by simp);cases fuel with
     | zero=>cases h2
     | succ fuel=>
       simp only[cH,Kn]at h2;have hk:=h fuel (listed.setIfInBounds i true) ix hf (fun _=>⟨h1,h2.2⟩)
       have hyy:∀G a w,WR G O w->FR G n D e a->∃u,VR G m u/\YieldsIf P ops (Sx G w) o u a:=fun G a w hw aU=>by
        obtain⟨u,hu,cj⟩:=hy G a aU;exact⟨u,hu,.inl ⟨bn aU hg,fun x hx=>cj x hx.1⟩⟩
       cases g with
       | one=>rcases hh rfl with h3 | h3<;>cases h3
       | fk=>exact absurd rfl qw
       | av=>
         simp only[Kn]at h2;exact bL.take ho h1 h2.1.1.1 h2.1.1.2 h2.1.2 hd hyy hk
       | rd=>
         simp only[Kn]at h2;exact bL.take ho h1 h2.1.1.1 h2.1.1.2 h2.1.2 hd hyy hk
def Lh (P:Program) (tab:bY):Nat->TypeId->MV->MV->Option Bool
 | 0,_,_,_=>none
 | d+1,t,x,y=>match(tab t).map cy.under,x,y with
   | some .bool,.v (.bool a),.v (.bool b)=>some (a==b)
   | some (.int _),.v (.int k a),.v (.int k' b)=>if k=k' then some (a==b)else none
   | some .string,.str a,.str b=>some (a==b)
   | some (.struct fs),.agg xs,.agg ys=>if P.stoodInHeld t then none else fs.toList.foldr (fun f acc=>
     if f.name≠ "_" then match A_ tab f.type xs f.offset,A_ tab f.type ys f.offset with
      | some p,some q=>match Lh P tab d f.type p q,acc with
        | some b,some c=>some (b&&c)
        | _,_=>none
      | _,_=>none
     else acc) (some true)
   | _,_,_=>none
theorem Li (ht:aL P tab):∀(d:Nat) {t:TypeId} {x y:MV} {u v:Value} {b:Bool},Lh P tab d t x y=some b->VR G x u->VR G y v->∀(k:Nat) (w:World),(Op.equalIn (d+k) t u v).run P w= .ok b w
 | 0,_,_,_,_,_,_,h,_,_,_,_=>by cases h
 | d+1,t,x,y,u,v,b,h,hx,hy,k,w=>by
   rw[show d+1+k=d+k+1 from by omega];simp only[Lh]at h;split at h
   ·rename_i hu;injection h with h;subst h
    cases hx;cases hy
    exact run_equalIn_bool w _ _ _ _ (bE ht hu)
   ·rename_i k0 k1 a k2 c hu;split at h
    ·subst k1;injection h with h;subst h
     cases hx;cases hy
     exact run_equalIn_int w _ _ _ _ _ _ (bE ht hu)
    ·cases h
   ·rename_i l r hu;injection h with h;subst h
    cases hx;rename_i e1;cases hy;rw[run_equalIn_string w _ _ _ _ (bE ht hu),toList_mk,toList_mk]
   ·rename_i fs xs ys hu;split at h
    ·cases h
    ·rename_i dd;cases hx with
     | agg a1 a2=>
       cases hy with
       | agg b1 b2=>
         rename_i us vs;have eW:=bE ht hu;have hfo:P.fieldsOf t=fs:=by simp only[Program.fieldsOf,eW]
         rw[run_equalIn_struct w _ _ _ _ (by rw[hfo];exact eW) (by simpa using dd),hfo];have hxs:aO G xs us:=⟨a1,a2⟩;have Py:aO G ys vs:=⟨b1,b2⟩;generalize fs.toList=l at h;clear hu eW hfo;induction l generalizing b with
         | nil=>
           simp only[List.foldr_nil,Option.some.injEq]at h;subst h;rfl
         | cons f l ih=>
           simp only[List.foldr_cons]at h;simp only[Op.eqFields];split at h
           ·rename_i hn;rw[if_pos hn];split at h
            ·rename_i p q hp hq;split at h
             ·rename_i b1 c1 cA fW;injection h with h;subst h
              obtain⟨r1,g1,g2⟩:=wo (P:=P) ht hp hxs;obtain⟨r2,g3,g4⟩:=wo (P:=P) ht hq Py;have hr:=Li ht d cA g2 g4 k w;simp only[Sem.run_bind,g1 w,g3 w,hr,Result.andThen_ok];cases b1
              ·simp
              ·simpa using ih _ fW
             ·cases h
            ·cases h
           ·rename_i hn;rw[if_neg hn];exact ih _ h
   ·cases h
theorem VL.Bj (ht:aL P tab) {f:Fl} {op:BinOp} {t t' ty:TypeId} {d:Option Tmp} {x y:Operand} {ps:String} {af:Array Edge} {g:Option (Nat×Bool)} {L:List (Fl×Oper)} {xs ys:List MV} {b:Bool} {bb:Bool} (qw:f≠ .fk) (hh:f= .one->iE md=true\/md= .any)
  (uF:(op= .eql/\bb=b)\/(op= .neq/\bb= !b)) (hq:Lh P tab 9 t (.agg xs) (.agg ys)=some b) (hgt:P.eqGuardType P.depth t=false) (hx:ev e x=some (.agg xs)) (hy:ev e y=some (.agg ys)) (hg:aN ops (.mk d (.binOp op t x y t') ty ps af g) e=some true) (hd:bp n d=true)
  (h:WL P tab n D md ops Q L (aV d (.v (.bool bb)) e) O):VL P n D md ops ((f,.mk d (.binOp op t x y t') ty ps af g)::L) e O Q:=by
 refine VL.pure qw hh hg hd (fun G a hf=>?_) (WL.sound ht h);have h1:=hf.ev hx;have h2:=hf.ev hy;have hr:=fun w=>Li (P:=P) ht 9 hq h1 h2 9991 w
 generalize hu:a.eval x=u at h1 hr;generalize hv:a.eval y=v at h2 hr;cases h1 with
 | agg a1 a2=>
   cases h2 with
   | agg b1 b2=>
     rename_i us vs;refine du.of (s:=do eqGuard op t x y (.agg us.toArray) (.agg vs.toArray);binOp op t (.agg us.toArray) (.agg vs.toArray)) (aZ.of (u:=.bool bb) (fun w _=>?_) (.v rfl)) (by simp[execOp,hu,hv]);rw[Sem.run_bind,run_eqGuard_agg w op t x y _ _ hgt,Result.andThen_ok];rcases uF with⟨rfl,rfl⟩ | ⟨rfl,rfl⟩
     ·rw[run_eql_struct,hr w];rfl
     ·rw[run_neq_struct,hr w];rfl
theorem WR.Uu (h:WR G O w) {b:Nat} {C:Array Value} {t:TypeId} {fr fr':Nat×Nat} {w':World} (hb:w.heap[b]?=some (.cells C t fr)) (hB:G.B<=b) (mM:w'.heap[b]?=some (.cells C t fr')) (ho:∀j,j≠b->w'.heap[j]?=w.heap[j]?) (hs:w'.heap.size=w.heap.size)
  (hos:w'.os=w.os) (agF:w'.tape=w.tape) (aic:w'.output=w.output) (eB:∀j,O.hp j≠none->G.bR j≠some b) (uw:∀t c x,O.hp t=some .tok->G.tok t=some (c,x)->c≠b):WR G O w':=by
 have jh:∀p,w'.cell? p=w.cell? p:=fun p=>by
  by_cases e:p.block=b
  ·simp only[World.cell?,e,hb,mM]
  ·simp only[World.cell?,ho _ e]
 refine⟨⟨hos.trans h.base.os,agF.trans h.base.tape,aic.trans h.base.output,by rw[hs];exact h.base.size,fun j hj=>by rw[ho j (by have:j<G.B:=hj;omega)];exact h.base.block j hj⟩,fun b' o u hc=>by rw[jh];exact h.ec b' o u hc,h.oZ,fun k c hk=>?_,h.inj,fun k cs hk=>?_,fun k es ck hk=>?_,fun t ht=>?_,h.kL,
  h.oz id (fun _ _ _ _ h=>h) fun k b' s _ hs'=>?_,h.qZ id (fun _ _ h=>h) fun k x b' hk hb hx=>by rw[ho b' (fun e=>eB k (by rw[hk];simp) (e▸hb))];exact hx,h.pw,h.ze⟩
 ·obtain⟨h1,h2,h3⟩:=h.jW k c hk;exact⟨h1,by rw[hs];exact h2,h3⟩
 ·obtain⟨c,D,T',h1,h2,h3⟩:=h.cells k cs hk;exact⟨c,D,T',h1,by rw[ho c (fun e=>eB k (by rw[hk];simp) (e▸h1))];exact h2,h3⟩
 ·obtain⟨c,E,h1,h2,h3⟩:=h.map k es ck hk;exact⟨c,E,h1,by rw[ho c (fun e=>eB k (by rw[hk];simp) (e▸h1))];exact h2,h3⟩
 ·obtain⟨c,f,k,r,D,T',h1,h2,h3,h4⟩:=h.tok t ht;exact⟨c,f,k,r,D,T',h1,h2,by rw[ho c (uw t c _ ht h1)];exact h3,h4⟩
 ·by_cases e:b'=b
  ·subst e;simp only[World.shape?,hb]at hs';simp only[World.shape?,mM];exact hs'
  ·exact gU (fun x hx=>by rw[ho _ e];exact hx) hs'
def YO:Op->Bool
 | .call c=>match c.callee with
   | .builtin .unsafeString=>true
   | _=>false
 | _=>false
def wK (md:Md) (ops:Array Oper):Bool:=match md with
 | .held brk=> !brk.isEmpty&&(List.range ops.size).all fun i=> !((ops[i]?).map fun o=>YO o.op).getD false||brk.contains i
 | _=>true
theorem wL (h:wK md ops=true):∀brk,md= .held brk->brk≠[]:=by
 rintro brk rfl rfl;simp[wK]at h
theorem Hv (h:wK md ops=true) {o:Oper} (ho:YO o.op=true):∀brk,md= .held brk->∀i,ops[i]?=some o->brk.contains i=true:=by
 rintro brk rfl i hi;simp only[wK,Kn]at h
 have:=agx.1 h.2 i (alU.2 (by
  rcases alG i ops.size with h' | h'
  ·exact h'
  ·rw[ah6 h']at hi;cases hi))
 simpa[hi,ho]using this
theorem VL.aid (ht:aL P tab) {d:Option Tmp} {x y:Operand} {pt it ty el:TypeId} {ps:String} {af:Array Edge} {g:Option (Nat×Bool)} {L:List (Fl×Oper)} {k c:Nat} {l:List UInt8} {B:Nat}
  (cK:wK md ops=true)
  (hp:(tab pt).map cy.under=some (.pointer el)) (hce:P.cellsOf el=1) (cQ:Row O el 1 B k c (l.map fL)) (zV:l≠[]) (hl:l.length<=maxLen)
  (hx:ev e x=some (.ptr k 0)) (hy:ev e y=some (.v (.int .i64 l.length))) (hg:aN ops (.mk d (.call {callee:=.builtin .unsafeString,args:= #[x,y],argTypes:= #[pt,it]}) ty ps af g) e=some true) (hd:bp n d=true)
  (h:WL P tab n D md ops Q L (aV d (.str l) e) (O.kill k)):VL P n D md ops ((.one,.mk d (.call {callee:=.builtin .unsafeString,args:= #[x,y],argTypes:= #[pt,it]}) ty ps af g)::L) e O Q:=by
 refine VL.im (M:=fun m O'=>m= .str l/\O'=O.kill k) hg hd (fun _=>wL cK) (fun brk hb=>.inr (wL cK brk hb)) (fun G a w hw hf=>?_) (Hv cK rfl) (by rintro m O' ⟨rfl,rfl⟩;exact WL.sound ht h);have mX:=hf.ev hx;have xg:=hf.ev hy;generalize oF:a.eval x=u at mX;generalize yA:a.eval y=v at xg;have xg:=xg.iP;subst xg;cases mX with
 | ptr Lj=>
   rename_i b;obtain⟨sp,fW,jB⟩:=cQ.cells;obtain⟨b',C,T,d1,d2,d3⟩:=hw.cells k _ fW;rw[Lj]at d1;injection d1 with d1;subst d1
   obtain⟨j,_,_,hj⟩:=cQ.nG;obtain⟨b2,s1,s2⟩:=hw.nG j k _ _ hj;rw[Lj]at s1;injection s1 with s1;subst s1
   have hL:=d3.take l.length;have e1:(l.map fL++sp).take l.length=l.map fL:=by rw[List.take_append_of_le_length (by simp),ah5 (by simp)]
   rw[e1,List.take_take,Nat.min_eq_left (by simp)]at hL;have hL2:=Lb hL
   have jh:∀j x,l[j]?=some x->w.cell? ((⟨b,0,none⟩:Addr).add j)=some (.int .u8 x.toNat):=fun i x hx=>by
    rw[Addr.add_lit,ahY];simp only[World.cell?,d2,agu,acv,if_false];have:(C.toList.take l.length)[i]?=some (Value.int .u8 x.toNat):=by rw[hL2,ah1,hx];rfl
    rw[agt]at this;split at this
    ·simpa using this
    ·cases this
   have cj:=Lib.run_unsafeString_row (P:=P) w pt it ty el (bE ht hp) hce b _ s2 l zV (by rw[TP,alO]at jB;omega) hl jh;have rT:l.length≠0:=by simpa using zV
   have hfz:(w.freeze ⟨b,0,none⟩ l.length).heap[b]?=some (.cells C T.t (if T.fr.1==T.fr.2 then(0,0+l.length)else(min T.fr.1 0,max T.fr.2 (0+l.length)))):=by
    simp[World.freeze,rT,akF,d2]
   have aie:∀j,j≠b->(w.freeze ⟨b,0,none⟩ l.length).heap[j]?=w.heap[j]?:=fun j hj=>by
    simp[World.freeze,rT,akF,Ne.symm hj]
   refine⟨.str l,O.kill k,.string ⟨⟨l⟩⟩,w.freeze ⟨b,0,none⟩ l.length,G,⟨rfl,rfl⟩,?_,Gh.Le.refl G,?_,.str⟩;rotate_left
   ·refine(hw.kill k).Uu d2 (hw.jW k b Lj).1 hfz aie (by simp[World.freeze,rT]) (by simp[World.freeze,rT]) (by simp[World.freeze,rT]) (by simp[World.freeze,rT]) (fun j hj XU=>?_) fun t c x eR OZ e=>?_
    ·by_cases e:j=k
     ·subst e;exact hj (aH _ _ _)
     ·have Pz:O.hp j≠none:=by rwa [show(O.kill k).hp j=O.hp j from aw _ _ e]at hj
      exact e (hw.inj j k b Pz (by rw[fW];simp) XU Lj)
    ·subst e;have e:t≠k:=fun e=>by subst e;rw[show(O.kill t).hp t=none from aH _ _ _]at eR;cases eR
     rw[show(O.kill k).hp t=O.hp t from aw _ _ e]at eR;obtain⟨_,_,_,_,_,_,q1,_,_,_,_,q7⟩:=hw.tok t eR;rw[OZ]at q1;injection q1 with q1;injection q1 with q1 _;subst q1
     exact q7 k Lj
   ·simp[execOp,resolve,invoke,builtin,oF,yA,cj]
theorem VL.agG (ht:aL P tab) {d:Option Tmp} {x y:Operand} {pt it ty:TypeId} {ps:String} {af:Array Edge} {g:Option (Nat×Bool)} {L:List (Fl×Oper)}
  (cK:wK md ops=true)
  (hx:ev e x=some (.v (.pointer none))) (hy:ev e y=some (.v (.int .i64 0))) (hg:aN ops (.mk d (.call {callee:=.builtin .unsafeString,args:= #[x,y],argTypes:= #[pt,it]}) ty ps af g) e=some true) (hd:bp n d=true)
  (h:WL P tab n D md ops Q L (aV d (.str []) e) O):VL P n D md ops ((.one,.mk d (.call {callee:=.builtin .unsafeString,args:= #[x,y],argTypes:= #[pt,it]}) ty ps af g)::L) e O Q:=by
 refine VL.im (M:=fun m O'=>m= .str []/\O'=O) hg hd (fun _=>wL cK) (fun brk hb=>.inr (wL cK brk hb)) (fun G a w hw hf=>?_) (Hv cK rfl) (by rintro m O' ⟨rfl,rfl⟩;exact WL.sound ht h);have mX:=(hf.ev hx).iP;have xg:=(hf.ev hy).iP;have cj:=Lib.run_unsafeString_none (P:=P) w pt it ty none;refine⟨_,_,_,w,G,⟨rfl,rfl⟩,?_,Gh.Le.refl G,hw,.str⟩;simp[execOp,resolve,invoke,builtin,mX,xg,cj];rfl
theorem VL.toU (ht:aL P tab) {d:Option Tmp} {x:Operand} {src dst ty el t:TypeId} {ps:String} {af:Array Edge} {g:Option (Nat×Bool)} {L:List (Fl×Oper)} {k s j:Nat} {te:cy} (hmd:md= .plain\/md= .any)
  (hs:(tab src).map cy.under=some (.pointer el)) (Lk:(tab dst).map cy.under=some .unsafePointer) (he:tab el=some te) (hz:te.size≠0) (hj:O.hp j=some (.shape k t s)) (Uv:0<s)
  (hx:ev e x=some (.ptr k 0)) (hg:aN ops (.mk d (.convert src dst x) ty ps af g) e=some true) (hd:bp n d=true) (h:WL P tab n D md ops Q L (aV d (.ptr k 0) e) O):
  VL P n D md ops ((.one,.mk d (.convert src dst x) ty ps af g)::L) e O Q:=by
 refine VL.pH (M:=fun m O'=>m= .ptr k 0/\O'=O) (fun G a w hw hf=>?_) (by rintro m O' ⟨rfl,rfl⟩;exact WL.sound ht h) (hmd:=hmd) (hg:=hg) (hd:=hd);have mX:=hf.ev hx;generalize oF:a.eval x=u at mX;cases mX with
 | ptr hp=>
   rename_i b;obtain⟨ti,z,i1,i2,_⟩:=(ht _ te he).info;obtain⟨b2,s1,s2⟩:=hw.nG j k _ _ hj;rw[hp]at s1;injection s1 with s1;subst s1
   have hr:=Lib.run_to_unsafe (P:=P) w ⟨b,0,none⟩ (bE ht hs) (bE ht Lk) i1 (by rw[i2];exact hz) s2 Uv;exact⟨_,_,_,w,G,⟨rfl,rfl⟩,by simp[execOp,oF,hr],Gh.Le.refl G,hw,.ptr hp⟩
theorem VL.agH (ht:aL P tab) {d:Option Tmp} {x:Operand} {src dst ty el t:TypeId} {ps:String} {af:Array Edge} {g:Option (Nat×Bool)} {L:List (Fl×Oper)} {k s j:Nat} {te:cy} (hmd:md= .plain\/md= .any)
  (hs:(tab src).map cy.under=some .unsafePointer) (Lk:(tab dst).map cy.under=some (.pointer el)) (he:tab el=some te) (hj:O.hp j=some (.shape k t s)) (hl:liesAt P P.depth t (s / P.cellsOf t) 0 el 1=true)
  (hx:ev e x=some (.ptr k 0)) (hg:aN ops (.mk d (.convert src dst x) ty ps af g) e=some true) (hd:bp n d=true) (h:WL P tab n D md ops Q L (aV d (.ptr k 0) e) O):
  VL P n D md ops ((.one,.mk d (.convert src dst x) ty ps af g)::L) e O Q:=by
 refine VL.pH (M:=fun m O'=>m= .ptr k 0/\O'=O) (fun G a w hw hf=>?_) (by rintro m O' ⟨rfl,rfl⟩;exact WL.sound ht h) (hmd:=hmd) (hg:=hg) (hd:=hd);have mX:=hf.ev hx;generalize oF:a.eval x=u at mX;cases mX with
 | ptr hp=>
   rename_i b;obtain⟨ti,z,i1,i2,_⟩:=(ht _ te he).info;obtain⟨b2,s1,s2⟩:=hw.nG j k _ _ hj;rw[hp]at s1;injection s1 with s1;subst s1
   have hr:=Lib.run_from_unsafe (P:=P) w ⟨b,0,none⟩ (bE ht hs) (bE ht Lk) i1 s2 hl;exact⟨_,_,_,w,G,⟨rfl,rfl⟩,by simp[execOp,oF,hr],Gh.Le.refl G,hw,.ptr hp⟩
end
section
variable {tab:bY} {t t' el:TypeId} {O:VH} {a b c d a' b' k o n off:Nat} {z y z':List MV} {u:TypeDesc} {cs ds:List MV} {tk:Tok} {l:List UInt8} {m q:MV} {i j:Int} {kk kk':IntKind} {x:Value}
def xD:Option cy->MV->Option MV
 | some ⟨.string,_,_,_⟩,.str l=>some (.v (.int .i64 l.length))
 | some ⟨.slice _,_,_,_⟩,.sl n _ _=>some (.v (.int .i64 n))
 | some ⟨.slice _,_,_,_⟩,.bq _ _ n _=>some (.v (.int .i64 n))
 | some ⟨.map _ _,_,_,_⟩,.v (.map none)=>some (.v (.int .i64 0))
 | some ⟨.array n _,_,_,_⟩,_=>some (.v (.int .i64 n))
 | _,_=>none
theorem u7:gZ tab t m=xD (tab t) m:=by
 unfold gZ xD;cases tab t with
 | none=>rfl
 | some r=>obtain⟨d,_,_,_⟩:=r;cases d<;>cases m<;>first | rfl | (rename_i v;cases v<;>first | rfl | (rename_i q;cases q<;>rfl))
theorem Uw:xD (some ⟨.string,a,b,z⟩) (.str l)=some (.v (.int .i64 l.length)):=rfl
theorem YP:xD (some ⟨.slice el,a,b,z⟩) (.sl n cs tk)=some (.v (.int .i64 n)):=rfl
theorem Ux:xD (some ⟨.slice el,a,b,z⟩) (.bq k o n c)=some (.v (.int .i64 n)):=rfl
theorem Uy:xD (some ⟨.map t t',a,b,z⟩) (.v (.map none))=some (.v (.int .i64 0)):=rfl
theorem Uz:xD (some ⟨.map t t',a,b,z⟩) (.map k)=none:=rfl
theorem UA:xD (some ⟨.array n el,a,b,z⟩) m=some (.v (.int .i64 n)):=by cases m<;>rfl
def YQ (O:VH) (s:Option (MV×VH)):Option MV->Option (MV×VH)
 | some r=>some (r,O)
 | none=>s
theorem PA {s:Option (MV×VH)}:YQ O s (some m)=some (m,O):=rfl
theorem PB {s:Option (MV×VH)}:YQ O s none=s:=rfl
theorem UC {e:Env} {d:Option Tmp} {x:Operand} {ty:TypeId} {p:String} {af:Array Edge} {g:Option (Nat×Bool)}:c8 tab (.mk d (.call {callee:=.builtin .len,args:= #[x],argTypes:= #[t]}) ty p af g) e O=(ev e x).bind fun q=>YQ O ((py tab O t q).map (·,O)) (xD (tab t) q):=by
 rw[KH];cases ev e x with
 | none=>rfl
 | some q=>
   simp only[ah7,u7];cases xD (tab t) q<;>rfl
def Ll (tab:bY) (m ix:MV):Option cy->Option MV
 | some r=>match ix,r.under,m with
   | .v (.int _ i),.slice el,.sl n cells _=>match tab el with
     | some te=>if 0<=i/\i<(n:Int)then some (.db cells (i.toNat*te.size))else none
     | none=>none
   | .v (.int _ i),.slice el,.bq k o n _=>match tab el with
     | some te=>if 0<=i/\i<(n:Int)then some (.ptr k (o+i.toNat*te.size))else none
     | none=>none
   | .v (.int _ i),.array len el,x=>match tab el with
     | some te=>if 0<=i/\i<(len:Int)then ux (i.toNat*te.size) x else none
     | none=>none
   | _,_,_=>none
 | none=>none
theorem aeW:mq tab t m q=Ll tab m q (tab t):=by
 unfold mq Ll;cases h:tab t with
 | none=>cases q<;>first | rfl | (rename_i v;cases v<;>rfl)
 | some r=>
   obtain⟨d,_,_,_⟩:=r;cases q<;>first | rfl | skip
   rename_i v;cases v<;>first | rfl | skip
   cases d<;>cases m<;>rfl
def ixS (i:Int) (n:Nat) (cs:List MV):Option cy->Option MV
 | some te=>if 0<=i/\i<(n:Int)then some (.db cs (i.toNat*te.size))else none
 | none=>none
def ixR (i:Int) (n k o:Nat):Option cy->Option MV
 | some te=>if 0<=i/\i<(n:Int)then some (.ptr k (o+i.toNat*te.size))else none
 | none=>none
def ixA (i:Int) (n:Nat) (m:MV):Option cy->Option MV
 | some te=>if 0<=i/\i<(n:Int)then ux (i.toNat*te.size) m else none
 | none=>none
theorem acK:Ll tab (.sl n cs tk) (.v (.int kk i)) (some ⟨.slice el,a,b,z⟩)=ixS i n cs (tab el):=by unfold Ll ixS;rfl
theorem YR:Ll tab (.bq k o n c) (.v (.int kk i)) (some ⟨.slice el,a,b,z⟩)=ixR i n k o (tab el):=by unfold Ll ixR;rfl
theorem YS:Ll tab m (.v (.int kk i)) (some ⟨.array n el,a,b,z⟩)=ixA i n m (tab el):=by unfold Ll ixA;cases m<;>rfl
theorem acL (h0:0<=i) (h1:i<(n:Int)):ixS i n cs (some ⟨u,a,b,z⟩)=some (.db cs (i.toNat*a)):=if_pos ⟨h0,h1⟩
theorem acM (h0:0<=i) (h1:i<(n:Int)):ixR i n k o (some ⟨u,a,b,z⟩)=some (.ptr k (o+i.toNat*a)):=if_pos ⟨h0,h1⟩
theorem acN (h0:0<=i) (h1:i<(n:Int)):ixA i n m (some ⟨u,a,b,z⟩)=ux (i.toNat*a) m:=if_pos ⟨h0,h1⟩
theorem YT:ux a (.ptr k o)=some (.ptr k (o+a)):=rfl
theorem YU:ux a (.db cs o)=some (.db cs (o+a)):=rfl
def inT (l:List UInt8) (i:Int):Option cy->Option MV
 | some ⟨.string,_,_,_⟩=>if 0<=i then(l[i.toNat]?).map fL else none
 | _=>none
theorem aif:wv tab t (.str l) (.v (.int kk i))=inT l i (tab t):=by
 unfold wv inT;cases tab t with
 | none=>rfl
 | some r=>obtain⟨d,_,_,_⟩:=r;cases d<;>rfl
theorem acO (h:0<=i):inT l i (some ⟨.string,a,b,z⟩)=(l[i.toNat]?).map fL:=if_pos h
def YV (off:Nat):Option cy->Option cf->Option MV
 | some r,some (.cells cs)=>mS (eL r.under) r.size cs off
 | _,_=>none
theorem aih:eZ tab O t (.ptr k off)=YV off (tab t) (O.hp k):=by
 unfold eZ YV;simp only[cellsOf];cases tab t<;>first | rfl | (cases O.hp k<;>first | rfl | (rename_i x;cases x<;>rfl))
theorem aii:eZ tab O t (.db cs off)=YV off (tab t) (some (.cells cs)):=by
 unfold eZ YV cellsOf;cases tab t<;>rfl
theorem acP:YV off (some ⟨u,a,b,z⟩) (some (.cells cs))=mS (eL u) a cs off:=rfl
theorem YX:mS false a cs off=cs[off]?:=rfl
theorem YY (h:off+a<=cs.length):mS true a cs off=some (.agg ((cs.drop off).take a)):=by simp[mS,h]
theorem UD:eL .bool=false:=rfl
theorem YZ:eL (.int kk)=false:=rfl
theorem Y0:eL .string=false:=rfl
theorem Y1:eL (.pointer t)=false:=rfl
theorem acQ:eL (.slice t)=false:=rfl
theorem Y2:eL (.map t t')=false:=rfl
theorem Y3:eL (.array n t)=true:=rfl
theorem acR {ms:Array (String×TypeId)}:eL (.interface ms)=false:=rfl
theorem acS {ps rs:Array TypeId} {v:Bool}:eL (.func ps rs v)=false:=rfl
def Bk (O:VH) (k off:Nat) (m:MV):Option cy->Option cf->Option VH
 | some r,some (.cells cs)=>if(dJ m).length=r.size/\(dJ m).all dK=true/\off+r.size<=cs.length then some (O.set k (.cells (eg cs off (dJ m))))else none
 | _,_=>none
theorem aij:wm tab O t (.ptr k off) m=Bk O k off m (tab t) (O.hp k):=by
 unfold wm Bk;cases tab t with
 | none=>rfl
 | some r=>
   simp only;cases O.hp k with
   | none=>rfl
   | some x=>cases x<;>rfl
theorem pJ {m:MV} (hm:dJ m=[m]) (hl:dK m=true) (h:off<cs.length):Bk O k off m (some ⟨u,1,b,z⟩) (some (.cells cs))=some (O.set k (.cells (cs.set off m))):=by
 show(if(dJ m).length=1/\(dJ m).all dK=true/\off+1<=cs.length then some (O.set k (.cells (eg cs off (dJ m))))else none)=_;rw[if_pos ⟨by rw[hm];rfl,by rw[hm];simpa using hl,by omega⟩,hm];rfl
theorem agI (h:off<cs.length):Bk O k off (.v x) (some ⟨u,1,b,z⟩) (some (.cells cs))=some (O.set k (.cells (cs.set off (.v x)))):=pJ rfl rfl h
theorem agJ (h:off<cs.length):Bk O k off (.str l) (some ⟨u,1,b,z⟩) (some (.cells cs))=some (O.set k (.cells (cs.set off (.str l)))):=pJ rfl rfl h
theorem agK (h:off<cs.length):Bk O k off (.ptr c o) (some ⟨u,1,b,z⟩) (some (.cells cs))=some (O.set k (.cells (cs.set off (.ptr c o)))):=pJ rfl rfl h
theorem agL (h:off<cs.length):Bk O k off (.db ds o) (some ⟨u,1,b,z⟩) (some (.cells cs))=some (O.set k (.cells (cs.set off (.db ds o)))):=pJ rfl rfl h
theorem acT (h:off<cs.length):Bk O k off (.sl n ds tk) (some ⟨u,1,b,z⟩) (some (.cells cs))=some (O.set k (.cells (cs.set off (.sl n ds tk)))):=pJ rfl rfl h
theorem Y4 (h:off<cs.length):Bk O k off (.bq c o n d) (some ⟨u,1,b,z⟩) (some (.cells cs))=some (O.set k (.cells (cs.set off (.bq c o n d)))):=pJ rfl rfl h
theorem Y5 (h:off<cs.length):Bk O k off (.map c) (some ⟨u,1,b,z⟩) (some (.cells cs))=some (O.set k (.cells (cs.set off (.map c)))):=pJ rfl rfl h
theorem acU (h:off<cs.length):Bk O k off (.iface t m) (some ⟨u,1,b,z⟩) (some (.cells cs))=some (O.set k (.cells (cs.set off (.iface t m)))):=pJ rfl rfl h
theorem acV {fn:Fn} (h:off<cs.length):Bk O k off (.func fn ds z') (some ⟨u,1,b,z⟩) (some (.cells cs))=some (O.set k (.cells (cs.set off (.func fn ds z')))):=pJ rfl rfl h
theorem Y6 (h1:ds.length=a) (h2:ds.all dK=true) (h:off+a<=cs.length):Bk O k off (.agg ds) (some ⟨u,a,b,z⟩) (some (.cells cs))=some (O.set k (.cells (eg cs off ds))):=if_pos ⟨h1,h2,h⟩
theorem IT:eg cs off []=cs:=rfl
theorem Gg:eg cs off (m::ds)=eg (cs.set off m) (off+1) ds:=rfl
theorem acW:dK (.v x)=true:=rfl
theorem acX:dK (.str l)=true:=rfl
theorem acY:dK (.ptr k o)=true:=rfl
theorem acZ:dK (.db cs o)=true:=rfl
theorem Y7:dK (.sl n cs tk)=true:=rfl
theorem UE:dK (.bq k o n c)=true:=rfl
theorem UF:dK (.map k)=true:=rfl
theorem Y8:dK (.iface t m)=true:=rfl
theorem Y9 {fn:Fn}:dK (.func fn cs ds)=true:=rfl
section
variable {X:cf} {k':Nat} {s:Nat}
theorem ac0 (h:k'=k):(O.set k X).hp k'=some X:=by subst h;exact VH.an _ _ _
theorem PC (h:k'≠k):(O.set k X).hp k'=O.hp k':=VH.ak _ _ h
theorem Y_ (h:k'=O.next):(O.push X).hp k'=some X:=by subst h;exact VH.aW _ _
theorem Lm (h:k'≠O.next):(O.push X).hp k'=O.hp k':=VH.pE _ _ h
theorem Ln (h:k'≠k):(O.kill k).hp k'=O.hp k':=VH.kN _ h
theorem eX:(O.set k X).next=O.next:=rfl
theorem sL:(O.push X).next=O.next+1:=rfl
theorem Ej:(O.kill k).next=O.next:=rfl
end
theorem Lo {e:Env} {d:Option Tmp} {ty:TypeId} {p:String} {af:Array Edge} {g:Option (Nat×Bool)}:c8 tab (.mk d (.alloc t) ty p af g) e O=(tab t).map fun i=>(.ptr O.next 0,wG O t i.size i.zero):=rfl
def alB (O:VH) (t:TypeId) (n:Nat) (z:List MV):Bool->VH
 | true=>(O.push (.cells z)).push (.shape O.next t n)
 | false=>O.push (.cells z)
theorem PD:wG O t n z=alB O t n z (fD z):=by unfold wG alB;cases fD z<;>rfl
theorem agM:alB O t n z true=(O.push (.cells z)).push (.shape O.next t n):=rfl
theorem agN:alB O t n z false=O.push (.cells z):=rfl
theorem agO:fD [.v (.pointer none),.sl 0 [] .nil]=true:=rfl
theorem agP:fD []=false:=rfl
theorem agQ:fD [m]=false:=by unfold fD;split<;>first | rfl | simp_all
theorem agR {m1 m2 m3:MV}:fD (m1::m2::m3::z)=false:=by unfold fD;split<;>first | rfl | simp_all
theorem Za:fD [.v (.int kk i),m]=false:=by unfold fD;split<;>first | rfl | simp_all
theorem UG {b:Bool}:fD [.v (.bool b),m]=false:=by unfold fD;split<;>first | rfl | simp_all
theorem Zb:fD [.str l,m]=false:=by unfold fD;split<;>first | rfl | simp_all
theorem ac1:fD [.sl n cs tk,m]=false:=by unfold fD;split<;>first | rfl | simp_all
theorem ac2:fD [m,.str l]=false:=by unfold fD;split<;>first | rfl | simp_all
theorem ac3:fD [m,.v x]=false:=by unfold fD;split<;>first | rfl | simp_all
def sO (tab:bY) (x:MV) (l h:Option MV):Option cy->Option MV
 | some ⟨.string,_,_,_⟩=>match x with
   | .str s=>match c9 0 l,c9 s.length h with
     | some lo,some hi=>if lo<=hi/\hi<=s.length then some (.str ((s.drop lo).take (hi - lo)))else none
     | _,_=>none
   | _=>none
 | some ⟨.slice el,_,_,_⟩=>match x with
   | .sl n cells tk=>match tab el,c9 0 l,c9 n h with
     | some te,some lo,some hi=>
       if lo=0/\hi=n then some (.sl n cells tk)
       else if lo<=hi/\hi<=n/\cells.length=n*te.size then some (.sl (hi - lo) ((cells.drop (lo*te.size)).take ((hi - lo)*te.size)) (qF tk te.size (hi==n)))else none
     | _,_,_=>none
   | .bq k o n c=>match tab el,c9 0 l,c9 n h with
     | some te,some lo,some hi=>if lo<=hi/\hi<=c then some (.bq k (if c=lo then o else o+lo*te.size) (hi - lo) (c - lo))else none
     | _,_,_=>none
   | _=>none
 | _=>none
theorem aik {l h:Option MV}:wD tab t m l h=sO tab m l h (tab t):=by
 unfold wD sO;cases tab t with
 | none=>rfl
 | some r=>obtain⟨d,_,_,_⟩:=r;cases d<;>cases m<;>rfl
theorem agS (h0:0<=i) (h1:i<=j) (h2:j<=(l.length:Int)):sO tab (.str l) (some (.v (.int kk i))) (some (.v (.int kk' j))) (some ⟨.string,a,b,z⟩)=some (.str ((l.drop i.toNat).take (j.toNat - i.toNat))):=by
 have e1:0<=j:=by omega
 simp only[sO,c9,if_pos h0,if_pos e1];rw[if_pos ⟨by omega,by omega⟩]
theorem ac4 (h0:0<=i) (h1:i<=(l.length:Int)):sO tab (.str l) (some (.v (.int kk i))) none (some ⟨.string,a,b,z⟩)=some (.str (l.drop i.toNat)):=by
 simp only[sO,c9,if_pos h0];rw[if_pos ⟨by omega,by omega⟩,ah5 (by simp)]
theorem ac5 (h1:0<=j) (h2:j<=(l.length:Int)):sO tab (.str l) none (some (.v (.int kk j))) (some ⟨.string,a,b,z⟩)=some (.str (l.take j.toNat)):=by
 simp only[sO,c9,if_pos h1];rw[if_pos ⟨by omega,by omega⟩];simp
def CN (k o lo hi c:Nat):Option cy->Option MV
 | some te=>some (.bq k (if c=lo then o else o+lo*te.size) (hi - lo) (c - lo))
 | none=>none
theorem agT (h0:0<=i) (h1:i<=j) (h2:j<=(c:Int)):sO tab (.bq k o n c) (some (.v (.int kk i))) (some (.v (.int kk' j))) (some ⟨.slice el,a,b,z⟩)=CN k o i.toNat j.toNat c (tab el):=by
 have e1:0<=j:=by omega
 simp only[sO,c9,if_pos h0,if_pos e1,CN];cases tab el with
 | none=>rfl
 | some te=>simp only;rw[if_pos ⟨by omega,by omega⟩]
theorem ac6 (h0:0<=i) (h1:i<=(n:Int)) (h2:n<=c):sO tab (.bq k o n c) (some (.v (.int kk i))) none (some ⟨.slice el,a,b,z⟩)=CN k o i.toNat n c (tab el):=by
 simp only[sO,c9,if_pos h0,CN];cases tab el with
 | none=>rfl
 | some te=>simp only;rw[if_pos ⟨by omega,h2⟩]
theorem ac7 (h1:0<=j) (h2:j<=(c:Int)):sO tab (.bq k o n c) none (some (.v (.int kk j))) (some ⟨.slice el,a,b,z⟩)=CN k o 0 j.toNat c (tab el):=by
 simp only[sO,c9,if_pos h1,CN];cases tab el with
 | none=>rfl
 | some te=>simp only;rw[if_pos ⟨by omega,by omega⟩]
theorem agU:CN k o 0 n c (some ⟨u,a,b,z⟩)=some (.bq k o n c):=by
 simp only[CN]
 congr 2
 split<;>simp
theorem ac8 {lo hi:Nat} (h:c≠lo):CN k o lo hi c (some ⟨u,a,b,z⟩)=some (.bq k (o+lo*a) (hi - lo) (c - lo)):=by
 simp only[CN,if_neg h]
theorem ac9 {lo hi:Nat} (h:c=lo):CN k o lo hi c (some ⟨u,a,b,z⟩)=some (.bq k o (hi - lo) (c - lo)):=by
 simp only[CN,if_pos h]
def IU (n lo hi:Nat) (cs:List MV) (tk:Tok):Option cy->Option MV
 | some te=>if lo=0/\hi=n then some (.sl n cs tk)
    else if lo<=hi/\hi<=n/\cs.length=n*te.size then some (.sl (hi - lo) ((cs.drop (lo*te.size)).take ((hi - lo)*te.size)) (qF tk te.size (hi==n)))else none
 | none=>none
theorem zW {l h:Option MV} {lo hi:Nat} (hl:c9 0 l=some lo) (hh:c9 n h=some hi):sO tab (.sl n cs tk) l h (some ⟨.slice el,a,b,z⟩)=IU n lo hi cs tk (tab el):=by
 show(match tab el,c9 0 l,c9 n h with
   | some te,some lo,some hi=>
     if lo=0/\hi=n then some (MV.sl n cs tk)
     else if lo<=hi/\hi<=n/\cs.length=n*te.size then some (.sl (hi - lo) ((cs.drop (lo*te.size)).take ((hi - lo)*te.size)) (qF tk te.size (hi==n)))else none
   | _,_,_=>none)=_
 rw[hl,hh];cases tab el<;>rfl
theorem agV (h0:0<=i) (h1:0<=j):sO tab (.sl n cs tk) (some (.v (.int kk i))) (some (.v (.int kk' j))) (some ⟨.slice el,a,b,z⟩)=IU n i.toNat j.toNat cs tk (tab el):=zW (if_pos h0) (if_pos h1)
theorem ac_ (h0:0<=i):sO tab (.sl n cs tk) (some (.v (.int kk i))) none (some ⟨.slice el,a,b,z⟩)=IU n i.toNat n cs tk (tab el):=zW (if_pos h0) rfl
theorem ada (h0:0<=j):sO tab (.sl n cs tk) none (some (.v (.int kk j))) (some ⟨.slice el,a,b,z⟩)=IU n 0 j.toNat cs tk (tab el):=zW rfl (if_pos h0)
theorem adb:sO tab (.sl n cs tk) none none (some ⟨.slice el,a,b,z⟩)=IU n 0 n cs tk (tab el):=zW rfl rfl
theorem Lp {lo hi:Nat} (h0:lo=0) (h1:hi=n):IU n lo hi cs tk (some ⟨u,a,b,z⟩)=some (.sl n cs tk):=if_pos ⟨h0,h1⟩
theorem Hw {lo hi:Nat} (h:lo≠0\/hi≠n) (h1:lo<=hi) (h2:hi<=n) (h3:cs.length=n*a):IU n lo hi cs tk (some ⟨u,a,b,z⟩)=some (.sl (hi - lo) ((cs.drop (lo*a)).take ((hi - lo)*a)) (qF tk a (hi==n))):=by
 simp only[IU];rw[if_neg (by omega),if_pos ⟨h1,h2,h3⟩]
def IV (x:MV):Option cy->Option cy->Option MV
 | some _,some ⟨.int k,_,_,_⟩=>match x with
   | .v (.int _ i)=>some (.v (.int k (k.wrap i)))
   | _=>none
 | some ⟨.string,_,_,_⟩,some ⟨.string,_,_,_⟩=>match x with
   | .str l=>some (.str l)
   | _=>none
 | _,_=>none
theorem ail:Bd tab t t' m=IV m (tab t) (tab t'):=by
 unfold Bd IV;cases tab t with
 | none=>rfl
 | some r=>
   obtain⟨d,_,_,_⟩:=r;cases tab t' with
   | none=>cases d<;>rfl
   | some r'=>
     obtain⟨d',_,_,_⟩:=r'
     cases d'<;>first
      | (cases d<;>rfl)
      | (cases m<;>first | (cases d<;>rfl) | (rename_i v;cases v<;>cases d<;>rfl))
theorem Zc {k':IntKind} {r:cy}:IV (.v (.int kk i)) (some r) (some ⟨.int k',a,b,z⟩)=some (.v (.int k' (k'.wrap i))):=rfl
theorem Zd:IV (.str l) (some ⟨.string,a,b,z⟩) (some ⟨.string,a',b',z'⟩)=some (.str l):=rfl
theorem ade:IV m (some ⟨.string,a,b,z⟩) (some ⟨.slice el,a',b',z'⟩)=none:=rfl
theorem adf:IV m (some ⟨.slice el,a,b,z⟩) (some ⟨.string,a',b',z'⟩)=none:=rfl
theorem adg:IV m (some ⟨.pointer el,a,b,z⟩) (some ⟨.unsafePointer,a',b',z'⟩)=none:=rfl
theorem adh:IV m (some ⟨.unsafePointer,a,b,z⟩) (some ⟨.pointer el,a',b',z'⟩)=none:=rfl
def Hy:List (Nat×Operand)->List MV->List (Nat×MV)
 | (i,_)::l,m::ms=>(i,m)::Hy l ms
 | _,_=>[]
theorem PF (l:List (Nat×Operand)) (ms:List MV):gx l.toArray ms=Hy l ms:=by
 unfold gx;simp only;induction l generalizing ms with
 | nil=>cases ms<;>rfl
 | cons p l ih=>cases ms with
   | nil=>rfl
   | cons m ms=>obtain⟨i,x⟩:=p;simp only[acs,List.zip_cons_cons,Hy];rw[ih]
theorem UH {ms:List MV}:Hy [] ms=[]:=by cases ms<;>rfl
theorem PG {x:Operand} {l:List (Nat×Operand)} {ms:List MV}:Hy ((n,x)::l) (m::ms)=(n,m)::Hy l ms:=rfl
def Gi (pl:Nat->Option (Nat×Nat)) (cs:List MV) (x:MV) (rest:List (Nat×MV)):Option (Nat×Nat)->Option (List MV)
 | none=>none
 | some (off,size)=>if(dJ x).length=size/\off+size<=cs.length then lJ pl (eg cs off (dJ x)) rest else none
def k9 (l:List (Nat×Nat)) (i:Nat):Option (Nat×Nat):=l[i]?
theorem UI {p:Nat×Nat} {l:List (Nat×Nat)}:k9 (p::l) 0=some p:=rfl
theorem UJ {p:Nat×Nat} {l:List (Nat×Nat)}:k9 (p::l) (n+1)=k9 l n:=rfl
def Sr (a:Nat) (k:Nat):Option (Nat×Nat):=some (k*a,a)
theorem PH:Sr a k=some (k*a,a):=rfl
theorem PI {pl:Nat->Option (Nat×Nat)}:lJ pl cs []=some cs:=rfl
theorem Lq {pl:Nat->Option (Nat×Nat)} {rest:List (Nat×MV)}:lJ pl cs ((n,m)::rest)=Gi pl cs m rest (pl n):=by
 rw[lJ];cases h:pl n<;>rfl
theorem adi {pl:Nat->Option (Nat×Nat)} {rest:List (Nat×MV)} (h:(dJ m).length=a/\off+a<=cs.length):Gi pl cs m rest (some (off,a))=lJ pl (eg cs off (dJ m)) rest:=if_pos h
def bsT (tab:bY) (len:Nat) (parts:List (Nat×MV)):Option cy->Option MV
 | some ⟨.slice el,_,_,_⟩=>match tab el with
   | some te=>if 0<len*te.size/\len*te.size<=16777216/\0<te.zero.length/\len<=maxLen then
     (lJ (fun k=>some (k*te.size,te.size)) (iu te.zero (len*te.size)) parts).map fun cs=>.sl len cs .full
     else if len=0/\parts=[]then some (.sl 0 [] .full)else none
   | none=>none
 | _=>none
theorem aim {parts:List (Nat×MV)}:k6 tab t n parts=bsT tab n parts (tab t):=by
 unfold k6 bsT;cases tab t with
 | none=>rfl
 | some r=>obtain⟨d,_,_,_⟩:=r;cases d<;>rfl
def Ze (n:Nat) (parts:List (Nat×MV)):Option cy->Option MV
 | some te=>if 0<n*te.size/\n*te.size<=16777216/\0<te.zero.length/\n<=maxLen then
    (lJ (fun k=>some (k*te.size,te.size)) (iu te.zero (n*te.size)) parts).map fun cs=>.sl n cs .full
   else if n=0/\parts=[]then some (.sl 0 [] .full)else none
 | none=>none
theorem adj {parts:List (Nat×MV)}:bsT tab n parts (some ⟨.slice el,a,b,z⟩)=Ze n parts (tab el):=by unfold bsT Ze;rfl
theorem agW {r:cy}:Ze 0 [] (some r)=some (.sl 0 [] .full):=by simp[Ze]
theorem Lr (h:z.length=a) (h0:0<a):∀n,iu z (n*a)=(List.replicate n z).flatten:=by
 intro n;induction n with
 | zero=>simp[iu]
 | succ n ih=>
   rw[List.replicate_succ',List.flatten_append, <-ih];simp only[iu,Nat.succ_mul];rw[List.range_add,ah3]
   congr 1
   subst h;simp only[List.map_map,List.flatten_cons,List.flatten_nil,List.append_nil];apply List.ext_getElem?;intro i;simp only[ah1,List.getElem?_range];by_cases hi:i<z.length
   ·simp[hi,Nat.mod_eq_of_lt hi]
   ·simp[alC (Nat.le_of_not_lt hi),hi]
def mY:Nat->List MV->List MV
 | 0,_=>[]
 | n+1,z=>z++mY n z
theorem Ls:∀n,(List.replicate n z).flatten=mY n z
 | 0=>rfl
 | n+1=>by rw[List.replicate_succ,List.flatten_cons,Ls n];rfl
theorem adk:mY 1 z=z:=by simp[mY]
theorem adl:mY 2 z=z++z:=by simp[mY]
theorem adm:mY 3 z=z++(z++z):=by simp[mY]
theorem adn:mY 4 z=z++(z++(z++z)):=by simp[mY]
theorem ado:mY 5 z=z++(z++(z++(z++z))):=by simp[mY]
theorem adp:mY 6 z=z++(z++(z++(z++(z++z)))):=by simp[mY]
theorem adq:mY 7 z=z++(z++(z++(z++(z++(z++z))))):=by simp[mY]
theorem adr:mY 8 z=z++(z++(z++(z++(z++(z++(z++z)))))):=by simp[mY]
theorem ads {parts:List (Nat×MV)} (h:z.length=a) (h0:0<n*a) (h1:n*a<=16777216):Ze n parts (some ⟨u,a,b,z⟩)=(lJ (Sr a) (mY n z) parts).map (MV.sl n · .full):=by
 have ha:0<a:=by rcases Nat.eq_zero_or_pos a with e | e; · subst e;omega
                 ·exact e
 have hn:n<=maxLen:=by
  have:n*1<=n*a:=Nat.mul_le_mul_left _ ha;simp[maxLen];omega
 rw[<-Ls, <-Lr h ha];exact if_pos ⟨h0,h1,by show 0<z.length;omega,hn⟩
def bT (b:Bool):Option cy->Option MV
 | some ⟨.bool,_,_,_⟩=>some (.v (.bool b))
 | _=>none
theorem UK {a b:Bool}:c5 tab .eql t (.v (.bool a)) (.v (.bool b))=bT (a==b) (tab t):=by
 simp only[c5,bT];cases tab t with
 | none=>rfl
 | some r=>obtain⟨d,_,_,_⟩:=r;cases d<;>rfl
theorem UL {a b:Bool}:c5 tab .neq t (.v (.bool a)) (.v (.bool b))=bT (!(a==b)) (tab t):=by
 simp only[c5,bT];cases tab t with
 | none=>rfl
 | some r=>obtain⟨d,_,_,_⟩:=r;cases d<;>rfl
theorem agX {p:Bool}:bT p (some ⟨.bool,a,b,z⟩)=some (.v (.bool p)):=rfl
def pT (b:Bool):Option cy->Option MV
 | some ⟨.pointer _,_,_,_⟩=>some (.v (.bool b))
 | _=>none
theorem agY {p:Bool}:pT p (some ⟨.pointer el,a,b,z⟩)=some (.v (.bool p)):=rfl
theorem adt {p:Bool}:mR tab .eql t p=pT p (tab t):=by
 simp only[mR,pT];cases tab t with
 | none=>rfl
 | some r=>obtain⟨d,_,_,_⟩:=r;cases d<;>rfl
theorem adu {p:Bool}:mR tab .neq t p=pT (!p) (tab t):=by
 simp only[mR,pT];cases tab t with
 | none=>rfl
 | some r=>obtain⟨d,_,_,_⟩:=r;cases d<;>rfl
section
variable {op:BinOp} {la lb:List UInt8}
theorem UM:c5 tab op t (.v (.pointer none)) (.v (.pointer none))=mR tab op t true:=by cases op<;>rfl
theorem UN:c5 tab op t (.ptr k o) (.v (.pointer none))=mR tab op t false:=by cases op<;>rfl
theorem UO:c5 tab op t (.v (.pointer none)) (.ptr k o)=mR tab op t false:=by cases op<;>rfl
theorem UP:c5 tab op t (.db cs o) (.v (.pointer none))=mR tab op t false:=by cases op<;>rfl
theorem UQ:c5 tab op t (.v (.pointer none)) (.db cs o)=mR tab op t false:=by cases op<;>rfl
theorem UR:c5 tab op t (.agg cs) (.agg ds)=none:=by cases op<;>rfl
theorem US:c5 tab .eql t (.str la) (.str lb)=some (.v (.bool (la==lb))):=rfl
theorem UT:c5 tab .neq t (.str la) (.str lb)=some (.v (.bool (!(la==lb)))):=rfl
theorem UU:c5 tab .lss t (.str la) (.str lb)=some (.v (.bool (Op.bytesLess la lb))):=rfl
theorem UW:c5 tab .leq t (.str la) (.str lb)=some (.v (.bool (Op.bytesLess la lb||la==lb))):=rfl
theorem UX:c5 tab .gtr t (.str la) (.str lb)=some (.v (.bool (!(Op.bytesLess la lb||la==lb)))):=rfl
theorem UY:c5 tab .geq t (.str la) (.str lb)=some (.v (.bool (!(Op.bytesLess la lb)))):=rfl
theorem PJ (h:la.length+lb.length<=9223372036854775807):c5 tab .add t (.str la) (.str lb)=some (.str (la++lb)):=if_pos h
end
theorem Lt (h:tab t=some ⟨.pointer el,a,b,z⟩) {s:Nat} (h':tab el=some ⟨u,s+1,b',z'⟩) {op:BinOp}:c5 tab op t (.ptr k o) (.ptr k o)=mR tab op t true:=by
 cases op<;>simp[c5,h,h',mR]
theorem aI (b:UInt8):fL b= .v (.int .u8 b.toNat):=rfl
theorem adv {n k:Nat}:((n:Int)+(k:Int)).toNat=n+k:=by omega
theorem Zf {n:Nat}:((n:Int)+1).toNat=n+1:=by omega
theorem Zg {n:Nat}:((n:Int)+2).toNat=n+2:=by omega
theorem Zh {n:Nat}:((n:Int) - 1).toNat=n - 1:=by omega
theorem UZ {n:Nat}:((n+1:Nat):Int) - 1=n:=by omega
theorem adw (h0:0<=i) (h1:i<=255):IntKind.u8.wrap i=i:=by
 simp only[IntKind.wrap,IntKind.signed,IntKind.bits];simp;omega
theorem Zi (h0:0<=i) (h1:i<=18446744073709551615):IntKind.u64.wrap i=i:=by
 simp only[IntKind.wrap,IntKind.signed,IntKind.bits];simp;omega
theorem Zj (h:0<=j):c5 tab .shr t (.v (.int kk i)) (.v (.int kk' j))=some (.v (.int kk (i.fdiv (2 ^ (min j.toNat kk.bits))))):=by
 have:¬j<0:=by omega
 simp[c5,zj,this]
theorem Zk:c5 tab .and t (.v (.int kk i)) (.v (.int kk j))=some (.v (.int kk (kk.wrap (BitVec.ofInt kk.bits i&&& BitVec.ofInt kk.bits j).toNat))):=by simp[c5,qE]
theorem Zl (h:j≠0):c5 tab .rem t (.v (.int kk i)) (.v (.int kk j))=some (.v (.int kk (i.tmod j))):=T8 h
theorem Zm (h:j≠0):c5 tab .quo t (.v (.int kk i)) (.v (.int kk j))=some (.v (.int kk (kk.wrap (i.tdiv j)))):=T7 h
end
section
variable {x y z:Operand} {t t':TypeId} {f:Nat} {q:BinOp} {r:UnOp} {as_ Uj:Array Operand} {ts:Array TypeId} {l h k:Option Operand} {fn:Fn} {ps:Array (Nat×Operand)} {bb:Bool}
theorem Zn:cB (.move x)=false:=rfl
theorem PK:cB (.assign x)=false:=rfl
theorem Zo:cB (.pick x y z)=false:=rfl
theorem IW:cB (.nilCheck x)=false:=rfl
theorem U0:cB (.binOp q t x y t')=false:=rfl
theorem Zp:cB (.unOp r t x)=false:=rfl
theorem Lu:cB (.convert t t' x)=false:=rfl
theorem Gj:cB (.fieldAddr t x f)=false:=rfl
theorem U3:cB (.field t x f)=false:=rfl
theorem Gk:cB (.indexAddr t x y)=false:=rfl
theorem U4:cB (.index t x y)=false:=rfl
theorem Lv:cB (.extract x f)=false:=rfl
theorem U5:cB (.slice t x l h k)=false:=rfl
theorem U6:cB (.build t ps)=false:=rfl
theorem IX:cB (.makeFunc fn as_ Uj)=false:=rfl
theorem zX:cB (.makeInterface t x)=false:=rfl
theorem Zq:cB (.load t x)=false:=rfl
theorem U7:cB (.store t x y)=false:=rfl
theorem adx:cB (.box t x)=false:=rfl
theorem U8:cB (.alloc t)=false:=rfl
theorem Ek:cB (.buildSlice t f ps)=false:=rfl
theorem Lw:cB (.makeMap t l)=false:=rfl
theorem PL:cB (.lookup t x y bb)=false:=rfl
theorem Gl:cB (.mapUpdate t x y z)=false:=rfl
theorem PM:cB (.insert t x y z)=false:=rfl
theorem Gm:cB (.makeSlice t x y)=false:=rfl
theorem U9:cB (.range t x)=false:=rfl
theorem Zr:cB (.next x bb)=false:=rfl
theorem U_:cB (.entry x)=false:=rfl
theorem Em:cB (.typeAssert x t t' bb)=false:=rfl
theorem Va:cB (.panic x)=false:=rfl
theorem IY:cB (.mapEntry t x y)=false:=rfl
theorem En:cB (.entryStore t x y z)=false:=rfl
theorem Zs:cB (.call {callee:=.builtin .len,args:=as_,argTypes:=ts})=false:=rfl
theorem Zt:cB (.call {callee:=.builtin .max,args:=as_,argTypes:=ts})=false:=rfl
theorem Zu:cB (.call {callee:=.builtin .min,args:=as_,argTypes:=ts})=false:=rfl
theorem u9:cB (.call {callee:=.builtin .unsafeSliceData,args:=as_,argTypes:=ts})=false:=rfl
theorem zY:cB (.call {callee:=.builtin .unsafeString,args:=as_,argTypes:=ts})=false:=rfl
theorem PN:cB (.call {callee:=.builtin .clear,args:=as_,argTypes:=ts})=false:=rfl
theorem Vb:cB (.call {callee:=.builtin .copy,args:=as_,argTypes:=ts})=false:=rfl
theorem Zv:cB (.call {callee:=.builtin .cap,args:=as_,argTypes:=ts})=false:=rfl
theorem Lx:cB (.call {callee:=.builtin .delete,args:=as_,argTypes:=ts})=false:=rfl
theorem PO:cB (.call {callee:=.builtin .print,args:=as_,argTypes:=ts})=false:=rfl
theorem IZ:cB (.call {callee:=.builtin .println,args:=as_,argTypes:=ts})=false:=rfl
theorem I0:cB (.call {callee:=.builtin .recover,args:=as_,argTypes:=ts})=false:=rfl
theorem ady:cB (.call {callee:=.value x,args:=as_,argTypes:=ts})=true:=rfl
theorem adz:cB (.call {callee:=.builtin .append,args:=as_,argTypes:=ts})=true:=rfl
theorem adA:Gc .one=false:=rfl
theorem adB:Gc .av=false:=rfl
theorem agZ:Gc .rd=false:=rfl
theorem ag0:Gc .fk=true:=rfl
end
theorem ax.next {σ :Type} {l K:List Nat} {ks:List MV} {ms: σ ->List MV} {I: σ ->VH->Prop} {μ : σ ->Nat} {s: σ} {Q:VQ} {e:Env} {O:VH} (s': σ) (hI:I s' O) (hk:looks e K=some ks:=by exact rfl) (hl:looks e l=some (ms s'):=by exact rfl) (hm: μ s'< μ s:=by first | omega | (dsimp only;omega)):ax l K ks ms I μ s Q .normal e O:=⟨hk,s',hl,hI,hm⟩
set_option linter.defProp false in
def ws0:=yP @Zn<|yP @PK<|yP @Zo<|yP @IW<|yP @U0<|yP @Zp<|yP @Lu<|yP @Gj<|yP @U3<|yP @Gk<|yP @U4<|yP @Lv<|yP @U5<|yP @U6<|yP @IX<|yP @zX<|yP @Zq<|yP @U7<|yP @adx<|yP @U8<|yP @Ek<|yP @Lw<|yP @PL<|yP @Gl<|yP @PM<|yP @Gm<|yP @U9<|yP @Zr<|yP @U_<|yP @Em<|yP @Va<|yP @IY<|yP @En<|yP @Zs<|yP @Zt<|yP @Zu<|yP @u9<|yP @zY<|yP @PN<|yP @Vb<|yP @Zv<|yP @Lx<|yP @PO<|yP @IZ<|yP @I0<|yP @ady<|yP @adz<|yP @adA<|yP @adB<|yP @agZ<|yP @ag0<|yP @acC<|yP @Yx<|yP @Yy<|yP @agD<|yP @Yz<|yP @YA<|yP @YB<|yP @YC<|yP @Lc<|yP @Gd<|yP @YD<|yP @YE<|yP @Um<|yP @acD<|yP @Un<|yP @Uo<|yP @Up<|yP @acE<|yP @YG<|yP @Pt<|yP @Uq<|yP @YH<|yP @IP<|yP @Pu<|yP @Pv<|yP @Ur<|yP @Co<|yP @YI @YJ
set_option linter.defProp false in
def ws1:=yP @Us<|yP @Pw<|yP @IQ<|yP @Gf<|yP @acF<|yP @acG<|yP @acH<|yP @acI<|yP @acJ<|yP @IS<|yP @Ut<|yP @Ld<|yP @uM<|yP @zH<|yP @Cf<|yP @xA<|yP @zN<|yP @zO<|yP @Cm<|yP @rf<|yP @uL<|yP @zF<|yP @zG<|yP @Ce<|yP @re<|yP @KY<|yP @So<|yP @Sq<|yP @Bi<|yP @yp<|yP @uU<|yP @uV<|yP @uW<|yP @zC<|yP @Cb<|yP @uK<|yP @Cc<|yP @zM<|yP @Cj<|yP @uR<|yP @Ck<|yP @wJ<|yP @Ho<|yP @KT<|yP @R9<|yP @R_<|yP @Sa<|yP @Sb<|yP @Sc<|yP @Sd<|yP @Se<|yP @Hp<|yP @Hq<|yP @Cg<|yP @Hr<|yP @xB<|yP @D5<|yP @Hs<|yP @zK<|yP @uP<|yP @D6<|yP @uQ<|yP @D7<|yP @zL<|yP @D8<|yP @D9<|yP @xC<|yP @pF<|yP @Ht<|yP @D_<|yP @KU<|yP @KV<|yP @KW<|yP @Ci<|yP @Pr<|yP @Ea<|yP @KX<|yP @Eb<|yP @tO @uS
set_option linter.defProp false in
def ws2:=yP @aeT<|yP @aeU<|yP @Sh<|yP @Si<|yP @Sj<|yP @Sk<|yP @zD<|yP @zE<|yP @D3<|yP @D4<|yP @aj<|yP @D2<|yP @wrap_i64<|yP @G8<|yP @Ca<|yP @KZ<|yP @Sm<|yP @Sn<|yP @xy<|yP @DV<|yP @G9<|yP @zA<|yP @uH<|yP @DW<|yP @uI<|yP @DY<|yP @zB<|yP @DZ<|yP @xz<|yP @D0<|yP @KG<|yP @G_<|yP @Ha<|yP @UC<|yP @KI<|yP @KJ<|yP @Pe<|yP @Hb<|yP @D1<|yP @KL<|yP @Lo<|yP @tJ<|yP @uJ<|yP @R5<|yP @R6<|yP @KD<|yP @R7<|yP @G6<|yP @DT<|yP @DU<|yP @zy<|yP @B_<|yP @KE<|yP @mc<|yP @KF<|yP @G7<|yP @Hc<|yP @Hd<|yP @He<|yP @Hf<|yP @Hg<|yP @Hh<|yP @Hi<|yP @Hj<|yP @Hk<|yP @KM<|yP @KN<|yP @aq<|yP @a_<|yP @uX<|yP @Ed<|yP @Uw<|yP @YP<|yP @Ux<|yP @Uy<|yP @Uz<|yP @UA<|yP @PA<|yP @PB @aeW
set_option linter.defProp false in
def ws3:=yP @acK<|yP @YR<|yP @YS<|yP @acL<|yP @acM<|yP @acN<|yP @YT<|yP @YU<|yP @aif<|yP @acO<|yP @aih<|yP @aii<|yP @acP<|yP @YX<|yP @YY<|yP @UD<|yP @YZ<|yP @Y0<|yP @Y1<|yP @acQ<|yP @Y2<|yP @Y3<|yP @acR<|yP @acS<|yP @aij<|yP @agI<|yP @agJ<|yP @agK<|yP @agL<|yP @acT<|yP @Y4<|yP @Y5<|yP @acU<|yP @acV<|yP @Y6<|yP @IT<|yP @Gg<|yP @ac0<|yP @PC<|yP @Y_<|yP @Lm<|yP @Ln<|yP @eX<|yP @sL<|yP @Ej<|yP @PD<|yP @agM<|yP @agN<|yP @agO<|yP @agP<|yP @agQ<|yP @agR<|yP @Za<|yP @UG<|yP @Zb<|yP @ac1<|yP @ac2<|yP @ac3<|yP @aik<|yP @agS<|yP @ac4<|yP @ac5<|yP @agT<|yP @ac6<|yP @ac7<|yP @agU<|yP @ac8<|yP @ac9<|yP @agV<|yP @ac_<|yP @ada<|yP @adb<|yP @Lp<|yP @Hw<|yP @ail<|yP @Zc<|yP @Zd<|yP @ade<|yP @adf @adg
set_option linter.defProp false in
def ws4:=yP @adh<|yP @PF<|yP @UH<|yP @PG<|yP @PI<|yP @Lq<|yP @UI<|yP @UJ<|yP @PH<|yP @adi<|yP @aim<|yP @adj<|yP @agW<|yP @ads<|yP @adk<|yP @adl<|yP @adm<|yP @adn<|yP @ado<|yP @adp<|yP @adq<|yP @adr<|yP @UK<|yP @UL<|yP @agX<|yP @agY<|yP @adt<|yP @adu<|yP @UM<|yP @UN<|yP @UO<|yP @UP<|yP @UQ<|yP @UR<|yP @US<|yP @UT<|yP @UU<|yP @UW<|yP @UX<|yP @UY<|yP @PJ<|yP @adv<|yP @Zf<|yP @Zg<|yP @Zh<|yP @UZ<|yP @adw<|yP @Zi<|yP @Zl<|yP @Zm<|yP @Zj<|yP @Zk<|yP @alN.{0,0}<|yP @Option.bind_none.{0,0}<|yP @Int.zero_sub<|yP @Bool.not_true<|yP @Bool.not_false<|yP @Bool.or_false<|yP @Bool.or_true<|yP @Bool.true_or<|yP @alX<|yP @Bool.and_true<|yP @Bool.and_false<|yP @Bool.true_and<|yP @Bool.false_and<|yP @decide_true<|yP @decide_eq_true<|yP @decide_eq_false<|yP @ahY<|yP @Nat.mul_one<|yP @Int.toNat_natCast<|yP @Nat.add_zero<|yP @Nat.sub_zero<|yP @alI.{0}<|yP @List.set_cons_succ.{0}<|yP @List.take_succ_cons.{0}<|yP @alT.{0}<|yP @List.drop_succ_cons.{0}<|yP @List.drop_zero.{0} @agv.{0}
set_option linter.defProp false in
def ws5:=yP @XO.{0}<|yP @acu.{0}<|yP @ah7.{0,0}<|yP @Option.map_some.{0,0}<|yP @acs.{0,0}<|yP @alF.{0,0}<|yP @ah1.{0,0}<|yP @List.getElem_map.{0,0}<|yP @if_true.{1}<|yP @if_false.{1}<|yP @cond_true.{1}<|yP @cond_false.{1}<|yP @List.toList_toArray.{0}<|yP @alD.{0}<|yP @alP.{0}<|yP @true_and<|yP @and_true<|yP @eq_self.{1} @acv
set_option linter.defProp false in
def ws:=yP @ws0<|yP @ws1<|yP @ws2<|yP @ws3<|yP @ws4 @ws5
set_option linter.defProp false in
def ds:=yP @eX<|yP @sL<|yP @Ej<|yP @Bi<|yP @yp<|yP @uU<|yP @uV<|yP @uW<|yP @acW<|yP @acX<|yP @acY<|yP @acZ<|yP @Y7<|yP @UE<|yP @UF<|yP @Y8<|yP @Y9<|yP @agw.{0}<|yP @ah0.{0}<|yP @List.all_cons.{0}<|yP @List.all_nil.{0}<|yP @Bool.and_true<|yP @Bool.true_and<|yP @Bool.and_self<|yP @List.length_set.{0}<|yP @TP.{0}<|yP @alO.{0,0}<|yP @and_true<|yP @true_and<|yP @eq_self.{1}<|yP @Option.some.injEq.{0}<|yP @cf.cells.injEq<|yP @ne_eq.{1} @not_false_eq_true
section
variable {G H:Gh} {n:Sz} {D:List Deferred} {e:Env} {a:Act} {P:Program} {tab:bY} {O O':VH} {w:World} {m m':MV} {u v:Value} {ops:Array Oper} {Q:VQ} {md:Md}
def zZ (K:MV->VH->Prop):Option (MV×VH)->Prop
 | some (m,O)=>K m O
 | none=>False
theorem sP {K:MV->VH->Prop}:zZ K (some (m,O))=K m O:=rfl
theorem cn.Hz (i:Nat) {fuel:Nat} {listed:Array Bool} {l:List Oper} {o:Oper} (h:zZ (fun m O'=>cn P n D ⟨l⟩ fuel (listed.setIfInBounds i true) (aV o.dst m e) O' Q) (iC tab .av o e O)) (ht:aL P tab:=by exact aa) (ho:l[i]?=some o:=by exact rfl) (hs:Region.noSelect ⟨l⟩=true:=by kernel_rfl) (hf:Region.free .any ⟨l⟩ listed i=true:=by kernel_rfl) (hr:(Region.ready .any ⟨l⟩ listed).contains i=true:=by kernel_rfl) (hg:aN ⟨l⟩ o e=some true:=by exact rfl) (hd:bp n o.dst=true:=by exact rfl):cn P n D ⟨l⟩ (fuel+1) listed e O Q:=by
 generalize hv:iC tab .av o e O=v at h;cases v with
 | none=>exact h.elim
 | some p=>
   obtain⟨m,O'⟩:=p;obtain⟨h1,rfl⟩:=nJ hv;exact cn.R4 ht (by simpa using ho) hs hf hr hg h1 hd h
theorem aK.st {i:Nat} {l:List Oper} {o:Oper} {M:MV->VH->Prop} {K:Env->VH->Prop} (hy:fV P n D o e O M) (h:∀m O',M m O'->K (aV o.dst m e) O') (ho:l[i]?=some o:=by exact rfl) (hg:aN ⟨l⟩ o e=some true:=by exact rfl) (hd:bp n o.dst=true:=by exact rfl):aK P n D ⟨l⟩ i e O Q K:=
 aK.im (by simpa using ho) hg hd hy h
theorem aK.o1 {i:Nat} {l:List Oper} {o:Oper} {K:Env->VH->Prop} (h:zZ (fun m O'=>K (aV o.dst m e) O') (c8 tab o e O)) (ht:aL P tab:=by exact aa) (ho:l[i]?=some o:=by exact rfl) (hg:aN ⟨l⟩ o e=some true:=by exact rfl) (hd:bp n o.dst=true:=by exact rfl):aK P n D ⟨l⟩ i e O Q K:=by
 generalize hv:c8 tab o e O=v at h;cases v with
 | none=>exact h.elim
 | some p=>exact aK.op ht (by simpa using ho) hg hv hd h
theorem cn.bO (ix:List (Nat×Fl)) {fuel:Nat} {listed:Array Bool} {l:List Oper} {L:List (Fl×Oper)}
  (h:WL P tab n D .any ⟨l⟩ Q L e O) (ht:aL P tab:=by exact aa) (hs:Region.noSelect ⟨l⟩=true:=by kernel_rfl) (hp:cH .any ⟨l⟩ fuel listed ix=true:=by kernel_rfl) (hL:mW l ix=some L:=by exact rfl):cn P n D ⟨l⟩ fuel listed e O Q:=(WL.sound ht h) fuel listed ix (sM hL) (fun _=>⟨hs,hp⟩)
end
section
variable {G H:Gh} {n:Sz} {D:List Deferred} {e:Env} {a:Act} {P:Program} {tab:bY} {O O' B:VH} {w:World} {m m':MV} {u v:Value} {ops:Array Oper} {Q:VQ} {md:Md} {c d:Code} {σ :Type}
def aA {σ :Type} (l:List Nat) (ms: σ ->List MV) (I: σ ->VH->Prop) (Q:VQ):VQ:=fun x e O=>match x with
 | .normal=>∃s,looks e l=some (ms s)/\I s O
 | x=>Q x e O
theorem Ly {l:List Nat} {ms: σ ->List MV} {I: σ ->VH->Prop} {i:Nat}:aA l ms I Q (.exit i) e O=Q (.exit i) e O:=rfl
theorem LA {l:List Nat} {ms: σ ->List MV} {I: σ ->VH->Prop} {i:Nat}:aA l ms I Q (.goto i) e O=Q (.goto i) e O:=rfl
theorem PQ {l:List Nat} {ms: σ ->List MV} {I: σ ->VH->Prop}:aA l ms I Q .ret e O=Q .ret e O:=rfl
theorem I1 {l:List Nat} {ms: σ ->List MV} {I: σ ->VH->Prop}:aA l ms I Q (.panic m) e O=Q (.panic m) e O:=rfl
theorem aA.mk {l:List Nat} {ms: σ ->List MV} {I: σ ->VH->Prop} (s: σ) (h2:I s O) (h1:looks e l=some (ms s):=by exact rfl):aA l ms I Q .normal e O:=⟨s,h1,h2⟩
theorem VC.join (ht:aL P tab) (l:List Nat) (ms: σ ->List MV) (I: σ ->VH->Prop) (h1:VC P n D c e O (aA l ms I Q)) (h2:∀s O,I s O->WC P tab n D d (ji l (ms s) []) O Q):VC P n D (.seq c d) e O Q:=by
 refine VC.seq (VC.mono ?_ h1);intro x e O h;cases x with
 | normal=>
   obtain⟨s,h3,h4⟩:=h;exact VC.env (WC.sound ht (h2 s O h4)) (iD (e0:=[]) (fun t x h=>by simp[look]at h) h3)
 | _=>exact h
def I2 (P:Program) (n:Sz) (D:List Deferred) (b:Code) (Q:VQ):Env->VH->Prop:=fun e O=>VC P n D b e O Q
theorem Ve {b:Code}:I2 P n D b Q e O=VC P n D b e O Q:=rfl
theorem VC.ag (ht:aL P tab) (h:WC P tab n D c e O (qG (I2 P n D d Q) Q)):VC P n D (.seq c d) e O Q:=by
 refine VC.seq (VC.mono ?_ (WC.sound ht h));intro x e O h;cases x<;>exact h
theorem VC.bB (h:VC P n D c e O (qG (I2 P n D d Q) Q)):VC P n D (.seq c d) e O Q:=by
 refine VC.seq (VC.mono ?_ h);intro x e O h;cases x<;>exact h
theorem VF.Gn (ht:aL P tab) {f:FuncId} {fn:Func} {c:Code} {args:List MV} {rs:List ResultVar} {R:fU->VH->Prop} (hf:P.funcs[f]?=some fn) (hb:fn.body=some c) (hk:(⟨fn.ntmps,0⟩:Sz)=n) (hr:fn.results.toList=rs) (hn:args.length<=n.n)
  (h:VC P n [] c (cx 0 args) O (Cn tab rs R)):VF P f args O R:=by
 subst hk;refine VF.enter ht hf hb hn (VC.mono ?_ h);intro x e O hx
 have key:i_ R O (iF tab e O rs)->∃m,df tab fn e O=some m/\R (.ret m) O:=fun h=>by
  unfold df;rw[hr, <-rS];generalize iF tab e O rs=z at h;unfold i_ at h;split at h
  ·exact h.elim
  ·exact⟨_,rfl,h⟩
  ·rename_i l hl;refine⟨.tuple l,?_,h⟩
   match l,hl with
   | [],_=>rfl
   | [m],hl=>exact absurd rfl (hl m)
   | _::_::_,_=>rfl
 cases x<;>first | exact key hx | exact hx
theorem VF.bN {f:FuncId} {fn:Func} {c:Code} {args:List MV} {R:fU->VH->Prop} {Q':Prop} (k:Nat) (rs:List ResultVar) (hf:P.funcs[f]?=some fn) (q:Q') (ht:aL P tab:=by exact aa) (hb:fn.body=some c:=by exact rfl) (hk:(⟨fn.ntmps,0⟩:Sz)=⟨k,0⟩:=by exact rfl) (hr:fn.results.toList=rs:=by exact rfl) (hn:args.length<=k:=by exact Nat.le_of_ble_eq_true rfl) (h:VC P ⟨k,0⟩ [] c (cx 0 args) O (Cn tab rs R)=Q':=by conv=>lhs;simp only[cx,Nat.zero_add,Nat.reduceAdd]):VF P f args O R:=VF.Gn ht hf hb hk hr hn (h.mpr q)
theorem VC.bG {ks:List MV} (ls Ks:List Nat) (ms: σ ->List MV) (I: σ ->VH->Prop) (μ : σ ->Nat) (s0: σ) (hI:I s0 O)
  (step:∀s O,I s O->VC P n D c (ji ls (ms s) (ji Ks ks [])) O (ax ls Ks ks ms I μ s Q)) (h0:looks e ls=some (ms s0):=by exact rfl) (hk:looks e Ks=some ks:=by exact rfl):VC P n D (.loop c) e O Q:=VC.iS ls Ks ms I μ s0 h0 hk hI step
theorem VC.ag1 {K:Env->VH->Prop} {id:Nat} (l:List Nat) (ms: σ ->List MV) (I: σ ->VH->Prop) (h1:VC P n D c e O (iB id (aA l ms I Q))) (h2:∀s O,I s O->K (ji l (ms s) []) O):VC P n D c e O (iB id (qG K Q)):=by
 intro G a w hw hf;refine wp_mono (h1 G a w hw hf) ?_;rintro y a' w' ⟨x,e',O',H,g1,g2,g3,g4,g5⟩
 have nor:∀{x':VX},x'= .normal\/x'= .exit id->(∃s,looks e' l=some (ms s)/\I s O')->FR H n D e' a'->XR H x' y->(∀e O,K e O->iB id (qG K Q) x' e O)->(∀e,FR H n D e a'->FRX H n D x' e a')->cz G n D (iB id (qG K Q)) y a' w':=fun hx ⟨s,h3,h4⟩ hf' hy hK hF=>
  ⟨_,ji l (ms s) [],O',H,g1,g2,hF _ (hf'.less (iD (e0:=[]) (fun t x h=>by simp[look]at h) h3)),hy,hK _ _ (h2 s O' h4)⟩
 cases x with
 | normal=>exact nor (.inl rfl) g5 g3 g4 (fun e O h=>h) (fun e h=>h)
 | exit i=>
   by_cases hi:i=id
   ·subst hi;simp only[iB,if_true]at g5;exact nor (.inr rfl) g5 g3 g4 (fun e O h=>by simp only[iB,if_true];exact h) (fun e h=>h)
   ·refine⟨.exit i,e',O',H,g1,g2,g3,g4,?_⟩;simp only[iB,hi,if_false]at g5 ⊢;exact g5
 | _=>exact⟨_,e',O',H,g1,g2,g3,g4,g5⟩
def ex1:MV->Bool
 | .v _=>true
 | .str _=>true
 | _=>false
def exM:MV->Bool
 | .v _=>true
 | .str _=>true
 | .agg cs=>cs.all ex1
 | _=>false
theorem Eo (h:ex1 m=true) (h1:VR G m u):VR H m u:=by
 cases m with
 | v x=>have:=h1.iP;subst this;cases h1 with | v hp=>exact .v hp
 | str l=>cases h1;exact .str
 | _=>cases h
theorem Ep (h:ex1 m=true) (h1:VR G m u) (h2:VR H m v):v=u:=by
 cases m with
 | v x=>rw[h1.iP,h2.iP]
 | str l=>cases h1;cases h2;rfl
 | _=>cases h
theorem adC (h:exM m=true) (h1:VR G m u):VR H m u:=by
 cases m with
 | v x=>exact Eo (m:=.v x) rfl h1
 | str l=>exact Eo (m:=.str l) rfl h1
 | agg cs=>
   cases h1 with
   | agg h2 h3=>exact .agg h2 fun i c u a b=>Eo (agx.1 h c (agr a)) (h3 i c u a b)
 | _=>cases h
theorem Ss (h:exM m=true) (h1:VR G m u) (h2:VR H m v):v=u:=by
 cases m with
 | v x=>exact Ep (m:=.v x) rfl h1 h2
 | str l=>exact Ep (m:=.str l) rfl h1 h2
 | agg cs=>
   cases h1 with
   | agg h3 h4=>
     cases h2 with
     | agg h5 h6=>
       congr 2
       refine List.ext_getElem? fun i=>?_
       rename_i us vs;rcases alG i cs.length with hi | hi
       ·have e1:=Km (show i<us.length by omega);have e2:=Km (show i<vs.length by omega);have e3:=Km hi;rw[e1,e2]
        congr 1
        exact Ep (agx.1 h _ (ahX hi)) (h4 i _ _ e3 e1) (h6 i _ _ e3 e2)
       ·rw[alC (by omega),alC (by omega)]
 | _=>cases h
def sQ (G:Gh) (J:VH->Prop) (x:World):Prop:=∃H O',Gh.Le G H/\WR H O' x/\J O'
theorem sQ.le {J:VH->Prop} (h:G.Le H) {x:World} (hb:sQ H J x):sQ G J x:=by
 obtain⟨K,O',h1,h2,h3⟩:=hb;exact⟨K,O',h.trans h1,h2,h3⟩
theorem sQ.ss {J:VH->Prop} {x:World} (h:sQ G J x):SS G x:=by
 obtain⟨K,O',h1,h2,_⟩:=h;exact SS.le h1 h2.ss
def TE (brk:List Nat) (G:Gh) (J:VH->Prop) (j:Nat) (x:World):Prop:=SS G x/\(brk.contains j=false->sQ G J x)
theorem TE.le {J:VH->Prop} {brk:List Nat} {j:Nat} {x:World} (h:G.Le H) (t:TE brk H J j x):TE brk G J j x:=⟨SS.le h t.1,fun k=>(t.2 k).le h⟩
theorem TE.mk {J:VH->Prop} {brk:List Nat} {j:Nat} {x:World} (h:sQ G J x):TE brk G J j x:=⟨h.ss,fun _=>h⟩
def ab (P:Program) (n:Sz) (D:List Deferred) (ops:Array Oper) (brk:List Nat) (J:VH->Prop) (Ψ :Gh->Prop) (Z:Prop) (fuel:Nat) (listed:Array Bool) (e:Env) (O:VH) (Q:VQ):Prop:=
 (∀G H,Gh.Le G H-> Ψ G-> Ψ H)->Z->J O->∀G a w, Ψ G->WR G O w->FR G n D e a->je P .any ops (cz G n D Q) (TE brk G J) fuel listed a w
theorem VC.mZ {id:Nat} (brk:List Nat) (h:ab P n D ops brk (fun O'=>O.Ge O') (fun _=>True) (∀k,O.next<=k->O.hp k=none) ops.size (Array.replicate ops.size false) e O Q) (hm:P.follows .mixedOrders=true:=by kernel_rfl):VC P n D (.region id ops true) e O Q:=
 fun G a w hw hf=>wp_region_any hm (jF _ _ _ _ (h (fun _ _ _ _=>trivial) (fun k hk=>(hw.oZ k hk).2.2) (VH.Ge.refl O) G a _ trivial (hw.drawn _) hf))
theorem ab.take {J:VH->Prop} {Z:Prop} {brk:List Nat} {Ψ :Gh->Prop} {fuel i:Nat} {listed:Array Bool} {o:Oper} (ho:ops[i]?=some o) (hs:Region.noSelect ops=true) (hf:Region.free .any ops listed i=true) (hr:(Region.ready .any ops listed).contains i=true) (hb:nI ops brk listed i=true)
  (hd:bp n o.dst=true) (hy:∀G a w,Z->J O-> Ψ G->WR G O w->FR G n D e a->∃u,VR G m u/\YieldsIf P ops (sQ G J) o u a) (h:ab P n D ops brk J Ψ Z fuel (listed.setIfInBounds i true) (aV o.dst m e) O Q):ab P n D ops brk J Ψ Z (fuel+1) listed e O Q:=by
 intro hΨ hZ hJ G a w hψ hw aU;obtain⟨u,hu,hyi⟩:=hy G a w hZ hJ hψ hw aU;refine nU (S:=sQ G J) (W:=fun j=>∃k,j∈kD ops listed i k) (brk:=fun j=>brk.contains j) ho (Region.noSelect_spec hs) (g_ hd) (fun j x hj hT=>hT.2 hj) (fun x hx=>TE.mk hx) fuel listed a w (Region.free_spec ho hf) B9 G4 (G5 hb) (by simpa using hr) hyi ⟨G,O,Gh.Le.refl G,hw,hJ⟩ (h hΨ hZ hJ G _ w hψ hw (aU.aV hd hu))
theorem ab.av (i:Nat) {brk:List Nat} {Ψ :Gh->Prop} {J:VH->Prop} {Z:Prop} {fuel:Nat} {listed:Array Bool} {l:List Oper} {o:Oper} (h:zZ (fun m O'=>ab P n D ⟨l⟩ brk J Ψ Z fuel (listed.setIfInBounds i true) (aV o.dst m e) O' Q) (iC tab .av o e O)) (ht:aL P tab:=by exact aa) (ho:l[i]?=some o:=by exact rfl) (hs:Region.noSelect ⟨l⟩=true:=by kernel_rfl) (hf:Region.free .any ⟨l⟩ listed i=true:=by kernel_rfl) (hr:(Region.ready .any ⟨l⟩ listed).contains i=true:=by kernel_rfl) (hb:nI ⟨l⟩ brk listed i=true:=by kernel_rfl) (hg:aN ⟨l⟩ o e=some true:=by exact rfl) (hd:bp n o.dst=true:=by exact rfl):ab P n D ⟨l⟩ brk J Ψ Z (fuel+1) listed e O Q:=by
 generalize hv:iC tab .av o e O=v at h;cases v with
 | none=>exact h.elim
 | some p=>
   obtain⟨m,O'⟩:=p;obtain⟨h1,rfl⟩:=nJ hv;refine ab.take (by simpa using ho) hs hf hr hb hd (fun G a w _ _ _ hw aU=>?_) h;obtain⟨u,hu,cj⟩:=uz (P:=P) ht aU h1
   exact⟨u,hu,.inl ⟨bn aU hg,fun x hx=>by
    obtain⟨H,O2,h2,h3,_⟩:=hx;exact cj x (SS.le h2 h3.ss)⟩⟩
theorem LB {t:TypeId} {p:MV} (hB:B.Ge O) (hN:∀k,B.next<=k->B.hp k=none) (h:eZ tab B t p=some m):eZ tab O t p=some m:=by
 unfold eZ at h ⊢
 have:∀{cs off},cellsOf B p=some (cs,off)->cellsOf O p=some (cs,off):=fun{cs off} hc=>by
  unfold cellsOf at hc ⊢;split at hc
  ·split at hc
   ·rename_i hk;have ew:=Nat.lt_of_not_le fun hle=>by rw[hN _ hle]at hk;cases hk
    rw[hB.hp _ ew,hk];exact hc
   ·cases hc
  ·exact hc
  ·cases hc
 split at h
 ·rename_i i cs off hi hc;rw[this hc,hi];exact h
 ·cases h
theorem ab.ld (i:Nat) {Ψ :Gh->Prop} {brk:List Nat} {fuel:Nat} {listed:Array Bool} {l:List Oper} {d:Option Tmp} {t:TypeId} {x:Operand} {ty:TypeId} {ps:String} {af:Array Edge} {g:Option (Nat×Bool)} {p:MV} (hv:eZ tab B t p=some m) (h:ab P n D ⟨l⟩ brk (fun O'=>B.Ge O') Ψ (∀k,B.next<=k->B.hp k=none) fuel (listed.setIfInBounds i true) (aV d m e) O Q) (ht:aL P tab:=by exact aa) (ho:l[i]?=some (.mk d (.load t x) ty ps af g):=by exact rfl) (hs:Region.noSelect ⟨l⟩=true:=by kernel_rfl) (hf:Region.free .any ⟨l⟩ listed i=true:=by kernel_rfl) (hr:(Region.ready .any ⟨l⟩ listed).contains i=true:=by kernel_rfl) (hb:nI ⟨l⟩ brk listed i=true:=by kernel_rfl) (hg:aN ⟨l⟩ (.mk d (.load t x) ty ps af g) e=some true:=by exact rfl) (hd:bp n d=true:=by exact rfl) (hx:ev e x=some p:=by exact rfl) (hm:exM m=true:=by exact rfl):ab P n D ⟨l⟩ brk (fun O'=>B.Ge O') Ψ (∀k,B.next<=k->B.hp k=none) (fuel+1) listed e O Q:=by
 refine ab.take (o:=.mk d (.load t x) ty ps af g) (by simpa using ho) hs hf hr hb hd (fun G a w hN hB _ hw aU=>?_) h;obtain⟨u,w',K,cj,h1,h2,h3,_⟩:=GW (P:=P) ht hw (LB hB hN hv) (aU.ev hx);obtain⟨u0,I3⟩:∃u0,VR G m u0:=⟨u,adC hm h3⟩
 refine⟨u0,I3,.inl ⟨bn aU hg,fun y hy=>?_⟩⟩;obtain⟨H,O2,g1,g2,g3⟩:=hy;obtain⟨r,g4,g5⟩:=n0 (P:=P) ht g2 (LB g3 hN hv) ((aU.ev hx).mono g1);have:=g5 y g2.sx;have er:=Ss hm I3 g4;subst er;simp only[execOp,Sem.run_bind,this];rfl
theorem k_ {Q:Exit->Act->World->Prop} {S:World->Prop} {T:Nat->World->Prop}:∀(fuel:Nat) (listed:Array Bool) (a:Act) (w:World),(∀j,listed.getD j true=false->∀x,S x->T j x)->wpAnyH P .any ops Q S fuel listed a w->je P .any ops Q T fuel listed a w:=by
 intro fuel;induction fuel with
 | zero=>intro listed a w _ h;exact⟨h.1,h.2⟩
 | succ fuel ih=>
   intro listed a w hT h;refine⟨h.1,fun i hi=>?_⟩;have eW:=(mem_ready.1 hi).1
   exact wpOp_mono (fun a' w' h'=>⟨hT i eW _ h'.1,ih _ _ _ (fun j hj x=>hT j (by
    by_cases Ga:i=j
    ·subst Ga;exact eW
    ·rw[getD_set_ne true Ga]at hj;exact hj) x) h'.2⟩) (h.2 i hi)
theorem ab.fin {brk:List Nat} {Ψ :Gh->Prop} {J:VH->Prop} {Z:Prop} {fuel:Nat} {listed:Array Bool} (hb:((List.range listed.size).all fun j=>listed.getD j true||brk.contains j)=true) (h:cn P n D ops fuel listed e O Q):ab P n D ops brk J Ψ Z fuel listed e O Q:=by
 intro hΨ hZ hJ G a w hψ hw aU;refine k_ _ _ _ _ (fun j hj x hs=>⟨hs,fun hh=>?_⟩) (h G a w hw aU);rcases alG j listed.size with hl | hl
 ·have:=agx.1 hb j (alU.2 hl);rw[hj,alX]at this;rw[this]at hh;cases hh
 ·rw[alH,ah6 (by simpa using hl)]at hj;cases hj
theorem ab.one {brk:List Nat} {Ψ :Gh->Prop} {J:VH->Prop} {Z:Prop} {fuel i:Nat} {listed:Array Bool}
  (h:aK P n D ops i e O Q fun e' O'=>J O'/\ab P n D ops brk J Ψ Z fuel (listed.setIfInBounds i true) e' O' Q) (hr:Region.ready .any ops listed=[i]:=by kernel_rfl):ab P n D ops brk J Ψ Z (fuel+1) listed e O Q:=by
 intro hΨ hZ hJ G a w hψ hw aU;refine jG hr (by simp) fun j hj=>?_
 obtain rfl:j=i:=by simpa using hj
 refine wpOp_mono (fun a' w' ⟨e',O',H,h1,h2,h3,h4,h5⟩=>⟨TE.mk ⟨H,O',h1,h2,h4⟩,jH (fun _ _ _=>cz.le h1) _ _ _ _ (fun k _ x hT=>hT.le h1) (h5 hΨ hZ h4 H a' w' (hΨ _ _ h1 hψ) h2 h3)⟩) (h G a w hw aU)
theorem ab.call {brk:List Nat} {Ψ :Gh->Prop} {J:VH->Prop} {Z:Prop} {fuel i:Nat} {listed:Array Bool} {l:List Oper} {d:Option Tmp} {f:Operand} {as_:Array Operand} {ts:Array TypeId} {ty:TypeId} {ps:String} {af:Array Edge} {g:Option (Nat×Bool)} {id:FuncId} {ms:List MV} {Φ :MV->VH->Prop} (hR:VF P id ms O (aE Φ))
  (h:∀m O', Φ m O'->J O'/\ab P n D ⟨l⟩ brk J Ψ Z fuel (listed.setIfInBounds i true) (aV d m e) O' Q) (hr:Region.ready .any ⟨l⟩ listed=[i]:=by kernel_rfl) (ho:l[i]?=some (.mk d (.call {callee:=.value f,args:=as_,argTypes:=ts}) ty ps af g):=by exact rfl) (hg:aN ⟨l⟩ (.mk d (.call {callee:=.value f,args:=as_,argTypes:=ts}) ty ps af g) e=some true:=by exact rfl) (hf:ev e f=some (.func (.func id) [] []):=by exact rfl) (hm:fP e as_.toList=some ms:=by exact rfl) (hb:cR P id=true:=by kernel_rfl) (hd:bp n d=true:=by exact rfl):ab P n D ⟨l⟩ brk J Ψ Z (fuel+1) listed e O Q:=
 ab.one (aK.call (o:=.mk d (.call {callee:=.value f,args:=as_,argTypes:=ts}) ty ps af g) (by simpa using ho) hg rfl rfl hf hm (Enters.sN hb) hd (by simpa using hR) fun r O' hr=>by
  cases r with
  | ret m=>exact h m O' hr
  | panic m=>exact hr.elim) (hr:=hr)
theorem ab.op {brk:List Nat} {Ψ :Gh->Prop} {J:VH->Prop} {Z:Prop} {fuel i:Nat} {listed:Array Bool} {l:List Oper} {o:Oper}
  (h:zZ (fun m O'=>J O'/\ab P n D ⟨l⟩ brk J Ψ Z fuel (listed.setIfInBounds i true) (aV o.dst m e) O' Q) (c8 tab o e O)) (ht:aL P tab:=by exact aa) (hr:Region.ready .any ⟨l⟩ listed=[i]:=by kernel_rfl) (ho:l[i]?=some o:=by exact rfl) (hg:aN ⟨l⟩ o e=some true:=by exact rfl) (hd:bp n o.dst=true:=by exact rfl):ab P n D ⟨l⟩ brk J Ψ Z (fuel+1) listed e O Q:=
 ab.one (aK.o1 h (ht:=ht) (ho:=ho) (hg:=hg) (hd:=hd)) (hr:=hr)
theorem ab.st {brk:List Nat} {Ψ :Gh->Prop} {J:VH->Prop} {Z:Prop} {fuel i:Nat} {listed:Array Bool} {l:List Oper} {o:Oper} {M:MV->VH->Prop} (hy:fV P n D o e O M)
  (h:∀m O',M m O'->J O'/\ab P n D ⟨l⟩ brk J Ψ Z fuel (listed.setIfInBounds i true) (aV o.dst m e) O' Q) (hr:Region.ready .any ⟨l⟩ listed=[i]:=by kernel_rfl) (ho:l[i]?=some o:=by exact rfl) (hg:aN ⟨l⟩ o e=some true:=by exact rfl) (hd:bp n o.dst=true:=by exact rfl):ab P n D ⟨l⟩ brk J Ψ Z (fuel+1) listed e O Q:=
 ab.one (aK.st hy h (ho:=ho) (hg:=hg) (hd:=hd)) (hr:=hr)
theorem ab.bO (ix:List (Nat×Fl)) {brk:List Nat} {Ψ :Gh->Prop} {J:VH->Prop} {Z:Prop} {fuel:Nat} {listed:Array Bool} {l:List Oper} {L:List (Fl×Oper)}
  (h:WL P tab n D .any ⟨l⟩ Q L e O) (ht:aL P tab:=by exact aa) (hb:((List.range listed.size).all fun j=>listed.getD j true||brk.contains j)=true:=by kernel_rfl) (hs:Region.noSelect ⟨l⟩=true:=by kernel_rfl) (hp:cH .any ⟨l⟩ fuel listed ix=true:=by kernel_rfl) (hL:mW l ix=some L:=by exact rfl):ab P n D ⟨l⟩ brk J Ψ Z fuel listed e O Q:=ab.fin hb (cn.bO ix h (ht:=ht) (hs:=hs) (hp:=hp) (hL:=hL))
end
set_option linter.defProp false in
def wk:=yP @ws<|yP @Ve<|yP @Ly<|yP @LA<|yP @PQ @I1
section
variable {G H:Gh} {n:Sz} {D:List Deferred} {e:Env} {a:Act} {P:Program} {tab:bY} {O O':VH} {w:World} {m m':MV} {u v:Value} {ops:Array Oper} {Q:VQ} {md:Md}
theorem qH {t:TypeId} {ms:Array (String×TypeId)} (hu:P.underlying t=some (.interface ms)):P.underlying t=some (.interface (P.methodsAt t)):=by
 rw[hu,Program.methodsAt,hu]
theorem iG.Su {d:Option Tmp} {op:BinOp} {t t' ty tv:TypeId} {x:Operand} {ps:String} {af:Array Edge} {g:Option (Nat×Bool)} {p:MV} {bb:Bool} {ms:Array (String×TypeId)} (hu:P.underlying t=some (.interface ms)) (hx:ev e x=some (.iface tv p)) (uF:(op= .eql/\bb=false)\/(op= .neq/\bb=true)):
  iG P n D (.mk d (.binOp op t x (.const .nilIface) t') ty ps af g) e (.v (.bool bb)):=by
 intro G a hf;have h1:=hf.ev hx;generalize hv:a.eval x=v at h1;have hc:a.eval (.const .nilIface)= .nilIface:=rfl;cases h1 with
 | iface h2=>
   rename_i u;refine du.of (s:=do eqGuard op t x (.const .nilIface) (.iface tv u) .nilIface;binOp op t (.iface tv u) .nilIface) (aZ.of (u:=.bool bb) (fun w _=>?_) (.v rfl)) (by simp[execOp,hv,hc]);have PR:(eqGuard op t x (.const .nilIface) (.iface tv u) .nilIface).run P w= .ok () w:=by rcases uF with⟨rfl,_⟩ | ⟨rfl,_⟩<;>simp[eqGuard]
   rw[Sem.run_bind,PR,Result.andThen_ok];rcases uF with⟨rfl,rfl⟩ | ⟨rfl,rfl⟩
   ·exact run_eql_held_nil w t tv u (qH hu)
   ·exact run_neq_held_nil w t tv u (qH hu)
theorem iG.Er {d:Option Tmp} {op:BinOp} {t t' ty:TypeId} {x:Operand} {ps:String} {af:Array Edge} {g:Option (Nat×Bool)} {bb:Bool} {ms:Array (String×TypeId)} (hu:P.underlying t=some (.interface ms)) (hx:ev e x=some (.v .nilIface)) (uF:(op= .eql/\bb=true)\/(op= .neq/\bb=false)):
  iG P n D (.mk d (.binOp op t x (.const .nilIface) t') ty ps af g) e (.v (.bool bb)):=by
 intro G a hf;have h1:=(hf.ev hx).iP;have hc:a.eval (.const .nilIface)= .nilIface:=rfl;refine du.of (s:=do eqGuard op t x (.const .nilIface) .nilIface .nilIface;binOp op t .nilIface .nilIface) (aZ.of (u:=.bool bb) (fun w _=>?_) (.v rfl)) (by simp[execOp,h1,hc]);have PR:(eqGuard op t x (.const .nilIface) .nilIface .nilIface).run P w= .ok () w:=by rcases uF with⟨rfl,_⟩ | ⟨rfl,_⟩<;>cases x<;>simp[eqGuard]
 rw[Sem.run_bind,PR,Result.andThen_ok];rcases uF with⟨rfl,rfl⟩ | ⟨rfl,rfl⟩
 ·exact run_eql_nil_nil w t (qH hu)
 ·exact run_neq_nil_nil w t (qH hu)
theorem iG.asT {d:Option Tmp} {t s ty:TypeId} {x:Operand} {ps:String} {af:Array Edge} {g:Option (Nat×Bool)} {p:MV} {u:TypeDesc} (hu:P.underlying s=some u) (hi:∀ms,u≠ .interface ms) (hx:ev e x=some (.iface s p)):
  iG P n D (.mk d (.typeAssert x t s true) ty ps af g) e (.tuple [p,.v (.bool true)]):=by
 intro G a hf;have h1:=hf.ev hx;generalize hv:a.eval x=v at h1;cases h1 with
 | iface h2=>
   rename_i w0;refine du.of (s:=Instr.typeAssert (.iface s w0) t s true) (aZ.of (u:=.tuple #[w0,.bool true]) (fun w _=>?_) ?_) (by simp[execOp,hv])
   ·simp only[Instr.typeAssert,Sem.run_bind,run_underlying hu,Result.andThen_ok]
    cases u<;>first
     | rfl
     | simp
     | (rename_i ms;exact absurd rfl (hi ms))
   ·exact VR.tuple (cs:=[p,.v (.bool true)]) (us:=[w0,.bool true]) rfl fun i c u hc hu=>by
     match i with
     | 0=>simp at hc hu;subst hc;subst hu;exact h2
     | 1=>simp at hc hu;subst hc;subst hu;exact .v rfl
     | i+2=>simp at hc
theorem VL.panic {d:Option Tmp} {x:Operand} {ty t:TypeId} {ps:String} {af:Array Edge} {g:Option (Nat×Bool)} {L:List (Fl×Oper)} {p:MV} (hmd:md= .plain) (hx:ev e x=some (.iface t p)) (hg:aN ops (.mk d (.panic x) ty ps af g) e=some true)
  (h:Q (.panic (.iface t p)) (kM n e) O):VL P n D md ops ((.one,.mk d (.panic x) ty ps af g)::L) e O Q:=by
 subst hmd;intro fuel listed ix hf hp
 match ix,hf with
 | (i,g')::ix,hf=>
   obtain⟨rfl,ho,hf⟩:=hf;intro G a w hw aU;have h1:=aU.ev hx
   have CO:∃u,a.eval x= .iface t u:=by
    generalize a.eval x=v at h1;cases h1;exact⟨_,rfl⟩
   obtain⟨u,hv⟩:=CO
   have cj:(execOp a.eval (.mk d (.panic x) ty ps af g)).run P w= .halt (.panic (.iface t u)) w:=by
    simp[execOp,hv,Instr.panic,goPanic]
   simp only[acs,wpOps,ho,bn aU hg,if_true];refine .inl ?_;unfold Oper.wp;rw[cj];exact⟨.panic (.iface t p),kM n e,O,G,Gh.Le.refl G,hw,⟨DP,aU.less Be⟩,⟨_,rfl,by rw[<-hv];exact h1⟩,h⟩
def MR (G:Gh):Option MV->FrameMode->Prop
 | none,.returning=>True
 | some m,.panicking [⟨v,false,false⟩]=>VR G m v
 | _,_=>False
def gy (P:Program) (g:FuncId) (args:List MV) (x:Option MV) (O:VH) (K:VH->Prop):Prop:=
 ∀G w vs u,WR G O w->aO G args vs->MR G x u->CallsD P g vs.toArray u w fun r u' w'=>(∃v,r= .returned v)/\settle u'= .returning/\∃O' H,Gh.Le G H/\WR H O' w'/\K O'
def z6:Option MV->MV
 | none=>.v .nilIface
 | some m=>m
theorem gy.rec {f:FuncId} {fn:Func} {c:Code} {id:Nat} {d:Tmp} {ty:TypeId} {ps:String} {af:Array Edge} {args:List MV} {x:Option MV} {K:VH->Prop} (hf:P.funcs[f]?=some fn) (hd:d<fn.ntmps)
  (h:WC P tab ⟨fn.ntmps,0⟩ [] c ((d,z6 x)::cx 0 args) O fun y _ O'=>match y with
   | .normal=>K O'
   | .ret=>K O'
   | _=>False) (ht:aL P tab:=by exact aa) (hb:fn.body=some (.seq (.region id ⟨[.mk (some d) (.call {callee:=.builtin .recover,args:= #[],argTypes:= #[]}) ty ps af none]⟩ false) c):=by exact rfl) (hr:fn.results= #[]:=by exact rfl) (hn:args.length<=fn.ntmps:=by exact Nat.le_of_ble_eq_true rfl):gy P f args x O K:=by
 intro G w vs u hw hv hu;refine callsD_of_wpS hf hb fun c0 cs hm=>wpS_seq (wpS_region ?_)
 have aU:FR G ⟨fn.ntmps,0⟩ [] (cx 0 args) {tmps:=vs.toArray++Array.replicate (fn.ntmps - vs.toArray.size) undef,defers:=[]}:=by
  have hl:=hv.1;refine⟨rfl,by simp;omega,fun t x hx=>?_⟩;rw[iA,if_pos (alR _),Nat.sub_zero]at hx;obtain⟨u,h1,h2⟩:=hv.get hx;refine⟨u,?_,h2⟩;have ew:=(acw.1 h1).1;rw[alK (by simpa using ew)];simpa using h1
 generalize ({tmps:=vs.toArray++Array.replicate (fn.ntmps - vs.toArray.size) undef,defers:=[]}:Act)=a at aU
 have cj:(execOp a.eval (.mk (some d) (.call {callee:=.builtin .recover,args:= #[],argTypes:= #[]}) ty ps af none)).run P w= .ok .recover w:=by
  simp[execOp,resolve,invoke,builtin]
 have go:∀(v:Value) (u':FrameMode),VR G (z6 x) v->settle u'= .returning->(c.wpS P (bodyPostS P fn c0 cs fun r u' w'=>(∃v,r= .returned v)/\settle u'= .returning/\∃O' H,Gh.Le G H/\WR H O' w'/\K O')) (a.put (some d) v) ({c0 with mode:=u'}::cs) w:=by
  intro v u' X6 hs;refine wpS_of_wp ?_;refine wp_mono (WC.sound ht h G _ w hw (FR.put aU hd X6)) ?_;rintro y a' w' ⟨z,e',O',H,g1,g2,g3,g4,g5⟩
  have fin:FR H ⟨fn.ntmps,0⟩ [] e' a'->K O'->bodyPostS P fn c0 cs (fun r u' w'=>(∃v,r= .returned v)/\settle u'= .returning/\∃O' H,Gh.Le G H/\WR H O' w'/\K O') .normal a' ({c0 with mode:=u'}::cs) w':=fun hf' hk=>
   ⟨hf'.defers,u',rfl,.tuple #[],by simp[results,hr],⟨_,rfl⟩,hs,O',H,g1,g2,hk⟩
  cases y<;>cases z<;>first
   | exact False.elim g4
   | exact fin g3 g5
   | exact g5.elim
 have LC:(List.range (Array.mk [Oper.mk (some d) (.call {callee:=.builtin .recover,args:= #[],argTypes:= #[]}) ty ps af none]).size)=[0]:=rfl;rw[LC];simp only[wpOpsS,agv,XO,cj];have ag2:Region.wanted (Oper.mk (some d) (.call {callee:=.builtin .recover,args:= #[],argTypes:= #[]}) ty ps af none) (yielded ⟨[.mk (some d) (.call {callee:=.builtin .recover,args:= #[],argTypes:= #[]}) ty ps af none]⟩ a.tmps)=true:=rfl;rw[if_pos ag2];subst hm
 match x,hmu:c0.mode,hu with
 | none,.returning,_=>
   have HA:recoverD (c0::cs)=none:=by simp[recoverD,hmu]
   rw[HA];have:=go .nilIface .returning (.v rfl) rfl;rw[show({c0 with mode:=.returning}:Frame)=c0 from by rw[<-hmu]]at this;exact this
 | some m,.panicking [⟨v,false,false⟩],X6=>
   have HA:recoverD (c0::cs)=some (v,{c0 with mode:=.panicking [⟨v,true,false⟩]}::cs):=by simp[recoverD,hmu]
   rw[HA];exact go v _ X6 (by simp[settle])
def LD (P:Program) (tab:bY) (rs:List ResultVar) (g:FuncId) (ms:List MV) (R:fU->VH->Prop):VQ:=fun x e O=>match x with
 | .normal=>gy P g ms none O fun O'=>i_ R O' (iF tab e O' rs)
 | .ret=>gy P g ms none O fun O'=>i_ R O' (iF tab e O' rs)
 | .panic m=>gy P g ms (some m) O fun O'=>i_ R O' (iF tab e O' rs)
 | _=>False
theorem VF.deferred {f g:FuncId} {fn:Func} {A rest:Code} {id k lo:Nat} {t:Tmp} {cap:Array Operand} {ty Zw:TypeId} {ps Zx:String} {af Zy:Array Edge} {args:List MV} {rs:List ResultVar} {R:fU->VH->Prop} (hf:P.funcs[f]?=some fn) (hE:Enters P g)
  (h:WC P tab ⟨k,0⟩ [] A (cx 0 args) O fun x e O'=>match x with
   | .normal=>∃ms,fP e cap.toList=some ms/\∀D,VC P ⟨k,lo⟩ D rest ((t,.func (.func g) [] ms)::e) O' (LD P tab rs g ms R)
   | _=>False) (ht:aL P tab:=by exact aa) (hb:fn.body=some (.seq A (.seq (.region id ⟨[.mk (some t) (.makeFunc (.func g) #[] cap) ty ps af none,.mk none (.defer {callee:=.value (.tmp t),args:= #[],argTypes:= #[]}) Zw Zx Zy none]⟩ false) rest)):=by exact rfl) (hk:fn.ntmps=k:=by exact rfl) (hr:fn.results.toList=rs:=by exact rfl) (hn:args.length<=k:=by exact Nat.le_of_ble_eq_true rfl) (eR:t<k:=by decide):VF P f args O R:=by
 subst hk;intro G w vs hw hv;refine calls_of_wp_defers hf hb ?_
 have aU:FR G ⟨fn.ntmps,0⟩ [] (cx 0 args) {tmps:=vs.toArray++Array.replicate (fn.ntmps - vs.toArray.size) undef,defers:=[]}:=by
  have hl:=hv.1;refine⟨rfl,by simp;omega,fun t x hx=>?_⟩;rw[iA,if_pos (alR _),Nat.sub_zero]at hx;obtain⟨u,h1,h2⟩:=hv.get hx;refine⟨u,?_,h2⟩;have ew:=(acw.1 h1).1;rw[alK (by simpa using ew)];simpa using h1
 refine wp_seq (wp_mono (WC.sound ht h G _ w hw aU) ?_);rintro y a1 w1 ⟨x,e,O1,H,g1,g2,g3,g4,g5⟩
 cases y<;>cases x<;>first
  | exact False.elim g4
  | exact g5.elim
  | skip
 obtain⟨ms,hm,PU⟩:=g5;have g3:FR H ⟨fn.ntmps,0⟩ [] e a1:=g3;have iO:=g3.fP hm;have F5:cap.map a1.eval=(cap.toList.map a1.eval).toArray:=by apply Array.ext';simp
 generalize cap.toList.map a1.eval=us at iO F5
 have PV:(execOp a1.eval (.mk (some t) (.makeFunc (.func g) #[] cap) ty ps af none)).run P w1= .ok (.value (.func (.func g) #[] us.toArray)) w1:=by
  simp[execOp,Instr.makeFunc,F5]
 have hz:=g3.size;dsimp only at hz
 have hev:(a1.put (some t) (.func (.func g) #[] us.toArray)).eval (.tmp t)= .func (.func g) #[] us.toArray:=by
  simp[Act.eval,Act.put,hz,eR]
 have PW:(execOp (a1.put (some t) (.func (.func g) #[] us.toArray)).eval (.mk none (.defer {callee:=.value (.tmp t),args:= #[],argTypes:= #[]}) Zw Zx Zy none)).run P w1= .ok (.defer {target:=.fn (.func g) us.toArray,args:= #[]}) w1:=by
  simp[execOp,resolve,hev,Deferred.ofValue]
 refine wp_seq (wp_region ?_);have LC:∀o1 o2:Oper,List.range (Array.mk [o1,o2]).size=[0,1]:=fun _ _=>rfl
 rw[LC];have Es:∀(o1 o2:Oper) (tm:Array Value),o1.guard=none->Region.wanted o1 (yielded ⟨[o1,o2]⟩ tm)=true:=fun o1 o2 tm h=>by simp[Region.wanted,h]
 have qx:∀(o1 o2:Oper) (tm:Array Value),o2.guard=none->Region.wanted o2 (yielded ⟨[o1,o2]⟩ tm)=true:=fun o1 o2 tm h=>by simp[Region.wanted,h]
 simp only[wpOps,agv,XO,acu];rw[if_pos (Es _ _ _ rfl)];refine .inl ?_;unfold Oper.wp;rw[PV,Oper.upon_value];simp only[wpOps,agv,XO,acu];rw[if_pos (qx _ _ _ rfl)];refine .inl ?_;first | unfold Oper.wp | skip
 rw[PW,Oper.upon_defer];have yx:FR H ⟨fn.ntmps,0⟩ [] ((t,.func (.func g) [] ms)::e) (a1.put (some t) (.func (.func g) #[] us.toArray)):=FR.put g3 eR (.func (fs:=[]) (us:=[]) rfl (fun i c u h=>by simp at h) iO.1 iO.2);generalize a1.put (some t) (.func (.func g) #[] us.toArray)=a2 at yx;have CP:FR H ⟨fn.ntmps,lo⟩ [{target:=.fn (.func g) us.toArray,args:= #[]}] ((t,.func (.func g) [] ms)::e) {a2 with defers:={target:=.fn (.func g) us.toArray,args:= #[]}::a2.defers}:=⟨by rw[yx.defers],yx.size,yx.get⟩;show rest.wp P _ _ _;refine wp_mono (PU _ H _ w1 g2 CP) ?_;rintro y a' w' ⟨x,e',O',K,k1,k2,k3,k4,k5⟩
 have hinv:∀w:World,(invoke (.fn (.func g) us.toArray) #[]).run P w= .ok (.enter g us.toArray) w:=fun w=>by
  simp[invoke,hE us.toArray w]
 have fin:∀(u:FrameMode) (z:Option MV),u≠ .run->MR K z u->FR K ⟨fn.ntmps,lo⟩ [{target:=.fn (.func g) us.toArray,args:= #[]}] e' a'->gy P g ms z O' (fun O'=>i_ R O' (iF tab e' O' rs))->
   Leaves P fn a'.tmps (fun x w'=>∃r O' H,Gh.Le G H/\WR H O' w'/\ER H r x/\R r O') a'.defers u w':=by
  intro u z hu hmr Zz hd;rw[Zz.defers];refine leaves_cons hu (hinv _) ((hd K w' us u k2 (iO.mono k1) hmr).mono ?_);rintro r u' F9 ⟨⟨v,rfl⟩,hs,O2,K2,q1,q2,q3⟩;dsimp only;rw[hs]
  have key:∃m,df tab fn e' O2=some m/\R (.ret m) O2:=by
   unfold df;rw[hr, <-rS];generalize iF tab e' O2 rs=z at q3;unfold i_ at q3;split at q3
   ·exact q3.elim
   ·exact⟨_,rfl,q3⟩
   ·rename_i l hl;refine⟨.tuple l,?_,q3⟩
    match l,hl with
    | [],_=>rfl
    | [m],hl=>exact absurd rfl (hl m)
    | _::_::_,_=>rfl
  obtain⟨m,h6,h7⟩:=key;obtain⟨u2,h8,h9⟩:=k8 (P:=P) ht q2 (Zz.mono q1) h6;exact⟨u2,h8,.ret m,O2,K2,(g1.trans k1).trans q1,q2,h9,h7⟩
 cases y with
 | normal=>cases x<;>first | exact False.elim k4 | exact fin .returning none (by simp) trivial k3 k5
 | ret=>cases x<;>first | exact False.elim k4 | exact fin .returning none (by simp) trivial k3 k5
 | panic c=>
   cases x with
   | panic m=>
     obtain⟨u,rfl,hvu⟩:=k4;exact fin (.panicking [⟨u,false,false⟩]) (some m) (by simp) hvu k3.2 k5
   | _=>exact False.elim k4
 | exit i=>cases x<;>first | exact False.elim k4 | exact k5.elim
 | goto i=>cases x<;>first | exact False.elim k4 | exact k5.elim
 | outgrown=>cases x<;>exact False.elim k4
theorem Vf:kM n []=[]:=rfl
theorem PX {N L t:Nat}:kM ⟨N,L⟩ ((t,m)::e)=bif decide (t<L)then(t,m)::kM ⟨N,L⟩ e else kM ⟨N,L⟩ e:=rfl
theorem I4 {rs:List ResultVar} {g:FuncId} {ms:List MV} {R:fU->VH->Prop}:LD P tab rs g ms R .normal e O=gy P g ms none O fun O'=>i_ R O' (iF tab e O' rs):=rfl
theorem Vg {rs:List ResultVar} {g:FuncId} {ms:List MV} {R:fU->VH->Prop}:LD P tab rs g ms R .ret e O=gy P g ms none O fun O'=>i_ R O' (iF tab e O' rs):=rfl
theorem LG {rs:List ResultVar} {g:FuncId} {ms:List MV} {R:fU->VH->Prop}:LD P tab rs g ms R (.panic m) e O=gy P g ms (some m) O fun O'=>i_ R O' (iF tab e O' rs):=rfl
end
set_option linter.defProp false in
def wd:=yP @Yl<|yP @Vf<|yP @PX<|yP @I4<|yP @Vg<|yP @LG<|yP @re<|yP @rf @Co
section
variable {G H:Gh} {n:Sz} {D:List Deferred} {e:Env} {a:Act} {P:Program} {tab:bY} {O O':VH} {w:World} {m m':MV} {u v:Value} {ops:Array Oper} {Q:VQ} {md:Md}
theorem WR.LH (h:WR G O w) (X:Obj):G.Le {G with bR:=bt G.bR O.next (some w.heap.size)}/\WR {G with bR:=bt G.bR O.next (some w.heap.size)} (O.push (.obj X)) (w.alloc X):=by
 have hle:=Gh.Le.Ix h.mn.1 w.heap.size;have hg:=h.grow X
 have eB:∀k b,bt G.bR O.next (some w.heap.size) k=some b->(k=O.next/\b=w.heap.size)\/(k≠O.next/\G.bR k=some b):=fun k b hk=>by
  by_cases e:k=O.next
  ·subst e;rw[aH]at hk;injection hk with hk;exact .inl ⟨rfl,hk.symm⟩
  ·rw[aw _ _ e]at hk;exact .inr ⟨e,hk⟩
 have nH:∀j x,bt O.hp O.next (some (cf.obj X)) j=some x->(j=O.next/\x= .obj X)\/(j≠O.next/\O.hp j=some x):=fun j x hj=>by
  by_cases e:j=O.next
  ·subst e;rw[aH]at hj;injection hj with hj;exact .inl ⟨rfl,hj.symm⟩
  ·rw[aw _ _ e]at hj;exact .inr ⟨e,hj⟩
 refine⟨hle,hg.base,hg.ec,fun k hk=>?_,fun k b hk=>?_,fun j k b lj lk hj hk=>?_,fun k ds hk=>?_,fun k es ck hk=>?_,fun t ht=>?_,fun s t b x y hs ht h1 h2=>?_,h.oz hle.bR (l_ (by simp)) fun _ _ _ _=>gU fun _=>dD w _,fun k x hk=>?_,h.pw,h.q_ hle (mo (by simp))⟩
 ·have hk:O.next+1<=k:=hk;obtain⟨h1,h2,h3⟩:=h.oZ k (by omega);exact⟨by show bt _ _ _ _=_;rw[aw _ _ (by omega)];exact h1,h2,by show bt _ _ _ _=_;rw[aw _ _ (by omega)];exact h3⟩
 ·rcases eB k b hk with⟨_,rfl⟩ | ⟨dY,hk⟩
  ·exact⟨h.TU,by simp,fun _=>h.wh⟩
  ·obtain⟨p1,p2,p3⟩:=hg.jW k b hk;exact⟨p1,p2,fun hne=>p3 (by have hne:bt O.hp O.next (some (.obj X)) k≠none:=hne;rwa [aw _ _ dY]at hne)⟩
 ·rcases eB j b hj with⟨rfl,rfl⟩ | ⟨cT,hj⟩<;>rcases eB k _ hk with⟨rfl,hb⟩ | ⟨dY,hk⟩
  ·rfl
  ·have:=(h.jW _ _ hk).2.1;omega
  ·subst hb;have:=(h.jW _ _ hj).2.1;omega
  ·exact h.inj j k b (by have lj:bt O.hp O.next (some (.obj X)) j≠none:=lj;rwa [aw _ _ cT]at lj) (by have lk:bt O.hp O.next (some (.obj X)) k≠none:=lk;rwa [aw _ _ dY]at lk) hj hk
 ·rcases nH k _ hk with⟨_,e⟩ | ⟨_,hk⟩
  ·cases e
  ·obtain⟨b,C,T,h1,h2,h3⟩:=hg.cells k ds hk;exact⟨b,C,T,hle.bR h1,h2,h3.mono hle⟩
 ·rcases nH k _ hk with⟨_,e⟩ | ⟨_,hk⟩
  ·cases e
  ·obtain⟨b,E,h1,h2,h3,h4,h5⟩:=hg.map k es ck hk;exact⟨b,E,hle.bR h1,h2,h3,h4.mono hle,h5.mono hle⟩
 ·rcases nH t _ ht with⟨_,e⟩ | ⟨_,ht⟩
  ·cases e
  ·obtain⟨b,f,k,r,C,T,h1,h2,h3,h4,h5,h6⟩:=hg.tok t ht;refine⟨b,f,k,r,C,T,h1,h2,h3,h4,h5,fun j hj=>?_⟩;rcases eB j b hj with⟨_,rfl⟩ | ⟨_,hj⟩
   ·exact absurd rfl (h.o0 ht h1)
   ·exact h6 j hj
 ·rcases nH s _ hs with⟨_,e⟩ | ⟨_,hs⟩
  ·cases e
  ·rcases nH t _ ht with⟨_,e⟩ | ⟨_,ht⟩
   ·cases e
   ·exact h.kL s t b x y hs ht h1 h2
 ·rcases nH k _ hk with⟨rfl,e⟩ | ⟨_,hk⟩
  ·injection e with e;subst e
   exact⟨w.heap.size,aH _ _ _,by rw[fh,if_pos rfl]⟩
  ·obtain⟨b,h1,h2⟩:=hg.obj k x hk;exact⟨b,hle.bR h1,h2⟩
theorem WR.setObj (h:WR G O w) {k b:Nat} {X Y:Obj} (hk:O.hp k=some (.obj X)) (hp:G.bR k=some b) (hX:∀C t fr,X≠ .cells C t fr):WR G (O.set k (.obj Y)) {w with heap:=w.heap.setIfInBounds b Y}:=by
 obtain⟨b',h1,h2⟩:=h.obj k X hk;rw[hp]at h1;injection h1 with h1;subst h1
 have hne:∀j b',j≠k->O.hp j≠none->G.bR j=some b'->b'≠b:=fun j b' hj lj mM e=>hj (h.inj j k b lj (by rw[hk];simp) (e▸mM) hp)
 have ir:∀j,bt O.hp k (some (.obj Y)) j≠none->O.hp j≠none:=fun j hn=>by
  by_cases e:j=k
  ·subst e;rw[hk];simp
  ·rwa [aw _ _ e]at hn
 have xW:=uA Y h2;have eC:∀j,j≠b->({w with heap:=w.heap.setIfInBounds b Y}:World).heap[j]?=w.heap[j]?:=fun j hj=>oC _ hj
 have hB:=(h.jW k b hp).1
 have nH:∀j x,(∀y,x≠ .obj y)->bt O.hp k (some (cf.obj Y)) j=some x->j≠k/\O.hp j=some x:=fun j x hx hj=>by
  by_cases e:j=k
  ·subst e;rw[aH]at hj;injection hj with hj;exact absurd hj.symm (hx _)
  ·rw[aw _ _ e]at hj;exact⟨e,hj⟩
 refine⟨⟨h.base.os,h.base.tape,h.base.output,by simpa using h.base.size,fun j hj=>?_⟩,fun b' o u' oA=>?_,fun j hj=>?_,fun j b' hj=>?_,fun j k' b' lj lk=>h.inj j k' b' (ir j lj) (ir k' lk),fun j ds hj=>?_,fun j es2 ck2 hj=>?_,fun t ht=>?_,fun s t b' x y hs ht=>?_,h.oz id (l_ (by simp)) fun j b' s hj hs=>gU (fun x hx=>by
   by_cases e:b'=b
   ·subst e;rw[h2]at hx;injection hx with hx;subst hx
    exfalso;simp only[World.shape?,h2]at hs
    cases X<;>first
     | exact hX _ _ _ rfl
     | cases hs
   ·rw[eC _ e];exact hx) hs,fun j x hj=>?_,h.pw,h.q_ (Gh.Le.refl _) (mo (by simp))⟩
 ·rw[eC j (by have:j<G.B:=hj;omega)];exact h.base.block j hj
 ·have zg:b'≠b:=fun e=>by subst e;rw[(h.jW k b' hp).2.2 (by rw[hk];simp) o]at oA;cases oA
  rw[tH _ (by exact zg)];exact h.ec b' o u' oA
 ·obtain⟨d1,d2,d3⟩:=h.oZ j hj;refine⟨d1,d2,?_⟩;show bt _ _ _ _=_;rw[aw _ _ (fun e=>by subst e;rw[d3]at hk;cases hk)];exact d3
 ·obtain⟨p1,p2,p3⟩:=h.jW j b' hj;exact⟨p1,by simpa using p2,fun hne=>p3 (ir j hne)⟩
 ·obtain⟨e,hj⟩:=nH j _ (by simp) hj;obtain⟨b',D,T',d1,d2,d3⟩:=h.cells j ds hj;exact⟨b',D,T',d1,by rw[eC _ (hne j b' e (by rw[hj];simp) d1)];exact d2,d3⟩
 ·obtain⟨e,hj⟩:=nH j _ (by simp) hj;obtain⟨b',E,d1,d2,d3⟩:=h.map j es2 ck2 hj;exact⟨b',E,d1,by rw[eC _ (hne j b' e (by rw[hj];simp) d1)];exact d2,d3⟩
 ·obtain⟨e,ht⟩:=nH t _ (by simp) ht;obtain⟨b',f,k',r,D,T',d1,d2,d3,d4,d6,d7⟩:=h.tok t ht;exact⟨b',f,k',r,D,T',d1,d2,by rw[eC _ (fun e=>d7 k (by rw[e];exact hp))];exact d3,d4,d6,d7⟩
 ·obtain⟨_,hs⟩:=nH s _ (by simp) hs;obtain⟨_,ht⟩:=nH t _ (by simp) ht;exact h.kL s t b' x y hs ht
 ·have hj:bt O.hp k (some (.obj Y)) j=some (.obj x):=hj;by_cases e:j=k
  ·subst e;rw[aH]at hj;injection hj with hj;injection hj with hj;subst hj
   exact⟨b,hp,xW⟩
  ·rw[aw _ _ e]at hj;obtain⟨b',d1,d2⟩:=h.obj j x hj;exact⟨b',d1,by rw[eC _ (hne j b' e (by rw[hj];simp) d1)];exact d2⟩
section
variable {d:Option Tmp} {op:BinOp} {t t' ty:TypeId} {x y:Operand} {ps:String} {af:Array Edge} {g:Option (Nat×Bool)} {b:Bool} {p q:MV}
theorem PY:c8 tab (.mk d (.range t x) ty ps af g) e O=none:=rfl
theorem Vh:c8 tab (.mk d (.next x b) ty ps af g) e O=none:=rfl
theorem CQ:c8 tab (.mk d (.typeAssert x t t' b) ty ps af g) e O=none:=rfl
def I5 (t:TypeId):Option cy->Option MV->Option MV
 | some i,some p=>match i.under with
   | .interface _=>none
   | _=>some (.iface t p)
 | _,_=>none
theorem Vi:c8 tab (.mk d (.makeInterface t x) ty ps af g) e O=(I5 t (tab t) (ev e x)).map (·,O):=by
 unfold c8 eG iQ I5;dsimp only;cases tab t with
 | none=>rfl
 | some i=>
   cases ev e x with
   | none=>obtain⟨u,a,b,z⟩:=i;cases u<;>rfl
   | some p=>obtain⟨u,a,b,z⟩:=i;cases u<;>rfl
theorem PZ:c8 tab (.mk d (.panic x) ty ps af g) e O=none:=rfl
theorem Vj:c5 tab op t (.iface ty p) (.v .nilIface)=none:=by cases op<;>rfl
theorem Vk:c5 tab op t (.v .nilIface) (.iface ty p)=none:=by cases op<;>rfl
theorem ZA {cs:List MV} {i:Nat}:rM (.tuple cs) i=cs[i]?:=rfl
theorem ZB {r:Int} {a b a' b':Nat} {z z':List MV}:IV (.v (.int .i32 r)) (some ⟨.int .i32,a,b,z⟩) (some ⟨.string,a',b',z'⟩)=none:=rfl
theorem ZC:c5 tab op t (.v .nilIface) (.v .nilIface)=none:=by cases op<;>rfl
end
end
set_option linter.defProp false in
def wi:=yP @Vi<|yP @PY<|yP @Vh<|yP @CQ<|yP @PZ<|yP @Vj<|yP @Vk<|yP @ZA<|yP @ZB @ZC
section
variable {G H:Gh} {n:Sz} {D:List Deferred} {e e':Env} {a:Act} {P:Program} {tab:bY} {O O':VH} {w:World} {m m':MV} {u v:Value} {ops:Array Oper} {Q:VQ} {md:Md}
def iH (cs:List MV) (X:Obj) (G:Gh):Prop:=∃C:Array Value,∃T:Fz C,X= .cells C T.t T.fr/\aO G cs (C.toList.take cs.length)
theorem iH.mono {cs:List MV} {X:Obj} (h:G.Le H) (hx:iH cs X G):iH cs X H:=by
 obtain⟨C,T,h1,h2⟩:=hx;exact⟨C,T,h1,h2.mono h⟩
theorem VH.qI {x:cf} {k j:Nat}:(j=k/\(O.set k x).hp j=some x)\/(j≠k/\(O.set k x).hp j=O.hp j):=by
 by_cases e:j=k
 ·subst e;exact .inl ⟨rfl,VH.an _ _ _⟩
 ·exact .inr ⟨e,VH.ak _ _ e⟩
theorem Bl {x:cf} {k j:Nat} (hk:O.hp k≠none) (h:(O.set k x).hp j≠none):O.hp j≠none:=by
 rcases VH.qI (O:=O) (x:=x) (k:=k) (j:=j)with⟨rfl,_⟩ | ⟨_,e⟩
 ·exact hk
 ·rwa [e]at h
theorem WR.swap {k:Nat} {x:cf} (h:WR G O w) (hk:O.hp k≠none) (hc:∀cs,x= .cells cs->∃b,∃C:Array Value,∃T:Fz C,G.bR k=some b/\w.heap[b]?=some (.cells C T.t T.fr)/\aO G cs (C.toList.take cs.length))
  (ho:∀X,x= .obj X->∃b,G.bR k=some b/\w.heap[b]?=some X) (hm:∀es ck,x≠ .map es ck) (ht:x≠ .tok) (hs:∀j t n,x≠ .shape j t n) (hf:∀p,x≠ .fact p:=by intro _ e;cases e):WR G (O.set k x) w where
 base:=h.base
 ec:=h.ec
 oZ j hj:=by
  obtain⟨h1,h2,h3⟩:=h.oZ j hj;exact⟨h1,h2,(VH.ak _ _ (fun e=>by subst e;exact hk h3)).trans h3⟩
 jW j b hj:=by
  obtain⟨h1,h2,h3⟩:=h.jW j b hj;exact⟨h1,h2,fun hn=>h3 (Bl hk hn)⟩
 inj i j b hi hj:=h.inj i j b (Bl hk hi) (Bl hk hj)
 cells j cs hj:=by
  rcases VH.qI (O:=O) (x:=x) (k:=k) (j:=j)with⟨rfl,e⟩ | ⟨_,e⟩
  ·rw[e]at hj;injection hj with hj;exact hc cs hj
  ·rw[e]at hj;exact h.cells j cs hj
 map j es ck hj:=by
  rcases VH.qI (O:=O) (x:=x) (k:=k) (j:=j)with⟨rfl,e⟩ | ⟨_,e⟩
  ·rw[e]at hj;injection hj with hj;exact absurd hj (hm _ _)
  ·rw[e]at hj;exact h.map j es ck hj
 tok j hj:=by
  rcases VH.qI (O:=O) (x:=x) (k:=k) (j:=j)with⟨rfl,e⟩ | ⟨_,e⟩
  ·rw[e]at hj;injection hj with hj;exact absurd hj ht
  ·rw[e]at hj;exact h.tok j hj
 kL i j b y z hi hj:=by
  rcases VH.qI (O:=O) (x:=x) (k:=k) (j:=i)with⟨rfl,e⟩ | ⟨_,e⟩
  ·rw[e]at hi;injection hi with hi;exact absurd hi ht
  ·rw[e]at hi;rcases VH.qI (O:=O) (x:=x) (k:=k) (j:=j)with⟨rfl,e⟩ | ⟨_,e⟩
   ·rw[e]at hj;injection hj with hj;exact absurd hj ht
   ·rw[e]at hj;exact h.kL i j b y z hi hj
 nG j k' t n hj:=by
  rcases VH.qI (O:=O) (x:=x) (k:=k) (j:=j)with⟨rfl,e⟩ | ⟨_,e⟩
  ·rw[e]at hj;injection hj with hj;exact absurd hj (hs _ _ _)
  ·rw[e]at hj;exact h.nG j k' t n hj
 obj j y hj:=by
  rcases VH.qI (O:=O) (x:=x) (k:=k) (j:=j)with⟨rfl,e⟩ | ⟨_,e⟩
  ·rw[e]at hj;injection hj with hj;exact ho y hj
  ·rw[e]at hj;exact h.obj j y hj
 pw:=h.pw
 ze:=h.q_ (Gh.Le.refl _) (mo hf)
theorem WR.fix {k:Nat} {cs:List MV} (h:WR G O w) (hk:O.hp k=some (.cells cs)):∃X,iH cs X G/\WR G (O.set k (.obj X)) w:=by
 obtain⟨b,C,T,h1,h2,h3⟩:=h.cells k cs hk;exact⟨_,⟨C,T,rfl,h3⟩,h.swap (by rw[hk];simp) (fun _ e=>by cases e) (fun X e=>by injection e with e;exact⟨b,h1,by rw[h2,e]⟩) (fun _ _ e=>by cases e) (fun e=>by cases e) (fun _ _ _ e=>by cases e) (fun _ e=>by cases e)⟩
theorem WR.rU {k:Nat} {cs:List MV} {X:Obj} (h:WR G O w) (hk:O.hp k=some (.obj X)) (hx:iH cs X G):WR G (O.set k (.cells cs)) w:=by
 obtain⟨b,h1,h2⟩:=h.obj k X hk;obtain⟨C,T,rfl,h3⟩:=hx;exact h.swap (by rw[hk];simp) (fun cs' e=>by injection e with e;subst e;exact⟨b,C,T,h1,h2,h3⟩) (fun X e=>by cases e) (fun _ _ e=>by cases e) (fun e=>by cases e) (fun _ _ _ e=>by cases e) (fun _ e=>by cases e)
theorem VC.pK {id:Nat} (brk:List Nat) (k:Nat) {cs:List MV} (hk:O.hp k=some (.cells cs)) (h:∀X,ab P n D ops brk (fun O'=>O'.hp k=some (.obj X)) (iH cs X) True ops.size (Array.replicate ops.size false) e (O.set k (.obj X)) Q) (hm:P.follows .mixedOrders=true:=by kernel_rfl):VC P n D (.region id ops true) e O Q:=
 fun G a w hw hf=>by
  obtain⟨X,hx,qx⟩:=(hw.drawn _).fix hk;exact wp_region_any hm (jF _ _ _ _ (h X (fun _ _=>iH.mono) trivial (VH.an _ _ _) G a _ hx qx hf))
theorem Et (ht:aL P tab) {t:TypeId} {i:cy} {cs:List MV} {us:List Value} {off:Nat} (hi:tab t=some i) (hv:mS (eL i.under) i.size cs off=some m) (n4:aO G cs us):
  ∃r,VR G m r/\∀y b,(∀j v,us[j]?=some v->y.cell? ⟨b,j,none⟩=some v)->(Instr.loadAt t (.pointer (some ⟨b,off,none⟩))).run P y= .ok r y:=by
 have fx:=ht t i hi;simp only[Instr.loadAt,Instr.sureAddr,loadVar];unfold mS at hv;split at hv
 ·rename_i px;split at hv
  ·rename_i hle;injection hv with hv;subst hv
   have B5:=(n4.drop off).take i.size;have hlen:((us.drop off).take i.size).length=i.size:=by simp[n4.1];omega
   refine⟨_,.agg B5.1 B5.2,fun y b hy=>?_⟩
   have sF:∀j v,((us.drop off).take i.size)[j]?=some v->y.cell? ((⟨b,off,none⟩:Addr).add j)=some v:=by
    intro j v hj;rw[Addr.add_lit];rw[agt]at hj;split at hj
    ·rw[List.getElem?_drop]at hj;exact hy _ v hj
    ·cases hj
   have yb:=run_loadCells_list (P:=P) y ⟨b,off,none⟩ _ sF;rw[hlen]at yb;simp[nZ fx,px,fi fx,yb]
  ·cases hv
 ·rename_i px;obtain⟨v,mT,CK⟩:=n4.get hv;exact⟨v,CK,fun y b hy=>by simp[nZ fx,px,hy _ v mT]⟩
theorem ab.sR (i:Nat) {brk:List Nat} {cs:List MV} {X:Obj} {fuel:Nat} {listed:Array Bool} {l:List Oper} {d:Option Tmp} {t:TypeId} {x:Operand} {ty:TypeId} {ps:String} {af:Array Edge} {g:Option (Nat×Bool)} {k off:Nat} (hv:eZ tab (O.set k (.cells cs)) t (.ptr k off)=some m) (h:ab P n D ⟨l⟩ brk (fun O'=>O'.hp k=some (.obj X)) (iH cs X) True fuel (listed.setIfInBounds i true) (aV d m e) O Q) (ht:aL P tab:=by exact aa) (ho:l[i]?=some (.mk d (.load t x) ty ps af g):=by exact rfl) (hs:Region.noSelect ⟨l⟩=true:=by kernel_rfl) (hf:Region.free .any ⟨l⟩ listed i=true:=by kernel_rfl) (hr:(Region.ready .any ⟨l⟩ listed).contains i=true:=by kernel_rfl) (hb:nI ⟨l⟩ brk listed i=true:=by kernel_rfl) (hg:aN ⟨l⟩ (.mk d (.load t x) ty ps af g) e=some true:=by exact rfl) (hd:bp n d=true:=by exact rfl) (hx:ev e x=some (.ptr k off):=by exact rfl):ab P n D ⟨l⟩ brk (fun O'=>O'.hp k=some (.obj X)) (iH cs X) True (fuel+1) listed e O Q:=by
 refine ab.take (o:=.mk d (.load t x) ty ps af g) (by simpa using ho) hs hf hr hb hd (fun G a w _ hJ hψ hw aU=>?_) h;obtain⟨C,T,rfl,h3⟩:=hψ;unfold eZ at hv;simp only[cellsOf,VH.an]at hv;split at hv
 ·rename_i ti cs' off' OV hc;injection hc with hc;injection hc with e1 e2;subst e1;subst e2
  obtain⟨r,ny,fl⟩:=Et (P:=P) ht OV hv h3;have ZD:=aU.ev hx;generalize ZE:a.eval x=xu at ZD;cases ZD with
  | ptr hp=>
    rename_i b;refine⟨r,ny,.inl ⟨bn aU hg,fun y hy=>?_⟩⟩;obtain⟨H,O2,g1,g2,g3⟩:=hy;obtain⟨b',cA,ct⟩:=g2.obj k _ g3;rw[g1.bR hp]at cA;injection cA with cA;subst cA
    have:=fl y b fun j v hj=>by
     rw[agt]at hj;split at hj
     ·simp only[World.cell?,ct,agu,acv,if_false];simpa using hj
     ·cases hj
    simp only[execOp,Sem.run_bind,ZE,this];rfl
 ·cases hv
theorem adD {Q Q':Exit->Act->World->Prop} {i:Nat} {K:Act->World->Prop} (hQ:∀y a w,Q y a w->Q' y a w) (h1:wpOp P ops Q i K a w):wpOp P ops Q' i K a w:=by
 unfold wpOp at h1 ⊢;split
 ·rename_i ho;simp only[ho]at h1;exact h1
 ·rename_i o ho;simp only[ho]at h1;split
  ·rename_i rP;simp only[rP,if_true]at h1;refine h1.imp (fun h2=>?_) (fun⟨h2,a',w',h3⟩=>⟨h2,a',w',hQ _ _ _ h3⟩);unfold Oper.wp at h2 ⊢;generalize (execOp a.eval o).run P w=r at*;cases r with
   | ok nx w'=>
     cases nx<;>simp only[Oper.upon]at h2 ⊢ <;>first
      | exact h2
      | (refine Calls.mono h2 fun x F9 he=>?_
         cases x with
         | returned v=>exact he
         | panicked c=>exact hQ _ _ _ he
         | outgrown=>obtain⟨a',w',h3⟩:=he;exact⟨a',w',hQ _ _ _ h3⟩)
   | halt x w'=>cases x<;>simp only[Oper.upon]at h2 ⊢ <;>first | exact h2 | exact hQ _ _ _ h2
  ·rename_i rP;simp only[rP]at h1;exact h1
def Sv (k:Nat) (X:Obj) (cs:List MV) (Q:VQ):VQ:=fun x e O=>match x with
 | .panic m=>O.hp k=some (.obj X)/\Q (.panic m) e (O.set k (.cells cs))
 | _=>False
theorem Sv.post {k:Nat} {X:Obj} {cs:List MV} {y:Exit} (hψ :iH cs X G) (h:cz G n D (Sv k X cs Q) y a w):cz G n D Q y a w:=by
 obtain⟨x,e,O,H,h1,h2,h3,h4,h5⟩:=h;cases x with
 | panic m=>exact⟨_,e,_,H,h1,h2.rU h5.1 (hψ.mono h1),h3,h4,h5.2⟩
 | _=>exact h5.elim
theorem ab.jj {brk:List Nat} {k:Nat} {cs:List MV} {X:Obj} {fuel i:Nat} {listed:Array Bool} {l:List Oper} {d:Option Tmp} {f:Operand} {as_:Array Operand} {ts:Array TypeId} {ty:TypeId} {ps:String} {af:Array Edge} {g:Option (Nat×Bool)} {id:FuncId} {ms:List MV} {R:fU->VH->Prop} (hR:VF P id ms O R)
  (h:∀m O',R (.ret m) O'->O'.hp k=some (.obj X)/\ab P n D ⟨l⟩ brk (fun O'=>O'.hp k=some (.obj X)) (iH cs X) True fuel (listed.setIfInBounds i true) (aV d m e) O' Q) (h2:∀m O',R (.panic m) O'->O'.hp k=some (.obj X)/\Q (.panic m) (kM n e) (O'.set k (.cells cs))) (hr:Region.ready .any ⟨l⟩ listed=[i]:=by kernel_rfl) (ho:l[i]?=some (.mk d (.call {callee:=.value f,args:=as_,argTypes:=ts}) ty ps af g):=by exact rfl) (hg:aN ⟨l⟩ (.mk d (.call {callee:=.value f,args:=as_,argTypes:=ts}) ty ps af g) e=some true:=by exact rfl) (hf:ev e f=some (.func (.func id) [] []):=by exact rfl) (hm:fP e as_.toList=some ms:=by exact rfl) (hb:cR P id=true:=by kernel_rfl) (hd:bp n d=true:=by exact rfl):ab P n D ⟨l⟩ brk (fun O'=>O'.hp k=some (.obj X)) (iH cs X) True (fuel+1) listed e O Q:=by
 intro hΨ hZ hJ G a w hψ hw aU;refine jG hr (by simp) fun j hj=>?_
 obtain rfl:j=i:=by simpa using hj
 have h1:=aK.call (Q:=Sv k X cs Q) (K:=fun e' O'=>O'.hp k=some (.obj X)/\ab P n D ⟨l⟩ brk (fun O'=>O'.hp k=some (.obj X)) (iH cs X) True fuel (listed.setIfInBounds j true) e' O' Q) (o:=.mk d (.call {callee:=.value f,args:=as_,argTypes:=ts}) ty ps af g) (by simpa using ho) hg rfl rfl hf hm (Enters.sN hb) hd (by simpa using hR) (fun r O' hr=>by
  cases r with
  | ret m=>exact h m O' hr
  | panic m=>exact h2 m O' hr) G a w hw aU
 refine adD (fun _ _ _=>Sv.post hψ) (wpOp_mono (fun a' w' ⟨e',O',H,h1,h2,h3,h4,h5⟩=>⟨TE.mk ⟨H,O',h1,h2,h4⟩,jH (fun _ _ _=>cz.le h1) _ _ _ _ (fun k _ x hT=>hT.le h1) (h5 hΨ hZ h4 H a' w' (hψ.mono h1) h2 h3)⟩) h1)
theorem ab.rU {brk:List Nat} {k:Nat} {cs:List MV} {X:Obj} {fuel:Nat} {listed:Array Bool} (hb:((List.range listed.size).all fun j=>listed.getD j true||brk.contains j)=true) (h:cn P n D ops fuel listed e (O.set k (.cells cs)) Q):ab P n D ops brk (fun O'=>O'.hp k=some (.obj X)) (iH cs X) True fuel listed e O Q:=by
 intro hΨ hZ hJ G a w hψ hw aU;refine k_ _ _ _ _ (fun j hj x hs=>⟨hs,fun hh=>?_⟩) (h G a w (hw.rU hJ hψ) aU);rcases alG j listed.size with hl | hl
 ·have:=agx.1 hb j (alU.2 hl);rw[hj,alX]at this;rw[this]at hh;cases hh
 ·rw[alH,ah6 (by simpa using hl)]at hj;cases hj
theorem ab.m4 (ix:List (Nat×Fl)) {brk:List Nat} {k:Nat} {cs:List MV} {X:Obj} {fuel:Nat} {listed:Array Bool} {l:List Oper} {L:List (Fl×Oper)}
  (h:WL P tab n D .any ⟨l⟩ Q L e (O.set k (.cells cs))) (ht:aL P tab:=by exact aa) (hb:((List.range listed.size).all fun j=>listed.getD j true||brk.contains j)=true:=by kernel_rfl) (hs:Region.noSelect ⟨l⟩=true:=by kernel_rfl) (hp:cH .any ⟨l⟩ fuel listed ix=true:=by kernel_rfl) (hL:mW l ix=some L:=by exact rfl):ab P n D ⟨l⟩ brk (fun O'=>O'.hp k=some (.obj X)) (iH cs X) True fuel listed e O Q:=ab.rU hb (cn.bO ix h (ht:=ht) (hs:=hs) (hp:=hp) (hL:=hL))
end
def Wk (m m':MV):Prop:=∀G u,VR G m u->VR G m' u
def eS (a b:List MV):Prop:=a.length=b.length/\∀(i:Nat) (c d:MV),a[i]?=some c->b[i]?=some d->Wk c d
theorem Wk.refl (m:MV):Wk m m:=fun _ _ h=>h
theorem Wk.trans {a b c:MV} (h:Wk a b) (k:Wk b c):Wk a c:=fun G u x=>k G u (h G u x)
theorem eS.refl (a:List MV):eS a a:=⟨rfl,fun i c d h k=>by rw[h]at k;injection k with k;subst k;exact Wk.refl _⟩
theorem eS.cons {a b:List MV} {x y:MV} (h:Wk x y) (k:eS a b):eS (x::a) (y::b):=by
 refine⟨by rw[agw,agw,k.1],fun i c d e f=>?_⟩;cases i with
 | zero=>simp only[XO,Option.some.injEq]at e f;subst e;subst f;exact h
 | succ i=>simp only[acu]at e f;exact k.2 i c d e f
theorem eS.get {a b:List MV} (k:eS a b) {i:Nat} {d:MV} (h:b[i]?=some d):∃c,a[i]?=some c/\Wk c d:=by
 have hi:i<a.length:=by rw[k.1];exact(acw.1 h).1
 exact⟨a[i],Km hi,k.2 i _ _ (Km hi) h⟩
theorem eS.use {G:Gh} {a b:List MV} (k:eS a b) {us:List Value} (h:∀(i:Nat) (c:MV) (u:Value),a[i]?=some c->us[i]?=some u->VR G c u):∀(i:Nat) (c:MV) (u:Value),b[i]?=some c->us[i]?=some u->VR G c u:=fun i d u h1 h2=>by
 obtain⟨c,h3,h4⟩:=k.get h1;exact h4 G u (h i c u h3 h2)
theorem eS.vrs {G:Gh} {a b:List MV} (k:eS a b) {us:List Value} (h:aO G a us):aO G b us:=⟨h.1.trans k.1,k.use h.2⟩
theorem Wk.agg {a b:List MV} (k:eS a b):Wk (.agg a) (.agg b):=fun G u h=>by
 cases h with
 | agg h1 h2=>exact .agg (h1.trans k.1) (k.use h2)
theorem Wk.tuple {a b:List MV} (k:eS a b):Wk (.tuple a) (.tuple b):=fun G u h=>by
 cases h with
 | tuple h1 h2=>exact .tuple (h1.trans k.1) (k.use h2)
theorem Wk.iface {t:TypeId} {a b:MV} (k:Wk a b):Wk (.iface t a) (.iface t b):=fun G u h=>by
 cases h with
 | iface h1=>exact .iface (k G _ h1)
theorem eS.eq_nil {b:List MV} (k:eS [] b):b=[]:=RZ k.1.symm
theorem Wk.sl {n:Nat} {a b:List MV} {t:Tok} (k:eS a b):Wk (.sl n a t) (.sl n b t):=fun G u h=>by
 cases h with
 | slnil=>rw[k.eq_nil];exact .slnil
 | nX h1=>rw[k.eq_nil];exact .nX h1
 | jV=>rw[k.eq_nil];exact .jV
 | sl h1 h2 h3 h4 h5 h6=>exact .sl (h1.trans k.1) h2 (k.use h3) h4 h5 (k.1▸h6)
theorem Wk.tok {n:Nat} {a:List MV} {t:Tok}:Wk (.sl n a t) (.sl n a .ar):=fun G u h=>by
 cases h with
 | slnil=>exact .jV
 | nX h1=>exact .nX h1
 | jV=>exact .jV
 | sl h1 h2 h3 h4 h5 h6=>exact .sl h1 h2 h3 h4 h5 trivial
mutual
def ar:MV->MV
 | .sl n cs _=>.sl n (cS cs) .ar
 | .agg cs=>.agg (cS cs)
 | .tuple cs=>.tuple (cS cs)
 | .iface t x=>.iface t (ar x)
 | .v x=>.v x
 | .str l=>.str l
 | .ptr b o=>.ptr b o
 | .db cs o=>.db cs o
 | .bq b o n c=>.bq b o n c
 | .map b=>.map b
 | .func f a b=>.func f a b
def cS:List MV->List MV
 | []=>[]
 | c::cs=>ar c::cS cs
end
mutual
theorem z7:∀m,Wk m (ar m)
 | .sl n cs t=>by rw[ar];exact(Wk.sl (pL cs)).trans Wk.tok
 | .agg cs=>by rw[ar];exact Wk.agg (pL cs)
 | .tuple cs=>by rw[ar];exact Wk.tuple (pL cs)
 | .iface t x=>by rw[ar];exact Wk.iface (z7 x)
 | .v x=>by rw[ar];exact Wk.refl _
 | .str l=>by rw[ar];exact Wk.refl _
 | .ptr b o=>by rw[ar];exact Wk.refl _
 | .db cs o=>by rw[ar];exact Wk.refl _
 | .bq b o n c=>by rw[ar];exact Wk.refl _
 | .map b=>by rw[ar];exact Wk.refl _
 | .func f a b=>by rw[ar];exact Wk.refl _
theorem pL:∀cs,eS cs (cS cs)
 | []=>by rw[cS];exact eS.refl _
 | c::cs=>by rw[cS];exact eS.cons (z7 c) (pL cs)
end
theorem m5 (a b:List MV):cS (a++b)=cS a++cS b:=by
 induction a with
 | nil=>rw[cS,alP,alP]
 | cons x a ih=>rw[alD,cS,cS,ih,alD]
theorem kP {α :Type} {f: α ->List MV} (h:∀x,cS (f x)=f x) (L:List α):cS (L.flatMap f)=L.flatMap f:=by
 induction L with
 | nil=>rw[List.flatMap_nil,cS]
 | cons x L ih=>rw[List.flatMap_cons,m5,h,ih]
theorem Vl (L:List (List UInt8)):cS (L.map .str)=L.map .str:=by
 induction L with
 | nil=>rw[alF,cS]
 | cons x L ih=>rw[acs,cS,ar,ih]
def oT:MV->MV
 | .sl n cs t=>.sl n (cS cs) t
 | m=>ar m
theorem LI (m:MV):Wk m (oT m):=by
 cases m with
 | sl n cs t=>exact Wk.sl (pL cs)
 | _=>exact z7 _
def Eu:List MV->List MV
 | []=>[]
 | c::cs=>oT c::Eu cs
theorem LJ:∀cs,eS cs (Eu cs)
 | []=>eS.refl _
 | c::cs=>eS.cons (LI c) (LJ cs)
def tQ:MV->MV
 | .sl n cs t=>.sl n (cS cs) t
 | .tuple cs=>.tuple (Eu cs)
 | m=>ar m
theorem ZF (m:MV):Wk m (tQ m):=by
 cases m with
 | sl n cs t=>exact Wk.sl (pL cs)
 | tuple cs=>exact Wk.tuple (LJ cs)
 | _=>exact z7 _
section
variable {P:Program} {f:FuncId} {as_ bs:List MV} {O:VH}
theorem VF.fgR {R:fU->VH->Prop} (h:VF P f as_ O fun r O'=>match r with
  | .ret m=>R (.ret (tQ m)) O'
  | .panic m=>R (.panic (ar m)) O'):VF P f as_ O R:=fun G w vs hw hv=>by
 refine(h G w vs hw hv).mono ?_;rintro x w' ⟨r,O',H,h1,h2,h3,h4⟩;cases r with
 | ret m=>cases x with
   | returned v=>exact⟨.ret _,O',H,h1,h2,ZF m H v h3,h4⟩
   | _=>exact h3.elim
 | panic m=>cases x with
   | panicked c=>obtain⟨u,h5,h6⟩:=h3;exact⟨.panic _,O',H,h1,h2,⟨u,h5,z7 m H u h6⟩,h4⟩
   | _=>exact h3.elim
theorem VF.fg {Φ :MV->VH->Prop} (h:VF P f as_ O (aE fun m O'=> Φ (tQ m) O')):VF P f as_ O (aE Φ):=VF.fgR (VF.mono (fun r O' hr=>by cases r with
 | ret m=>exact hr
 | panic m=>exact hr.elim) h)
variable {n:Sz} {md:Md} {Q:VQ} {e:Env} {K:Env->VH->Prop}
end
section
variable {P:Program} {tab:bY} {n:Sz} {D:List Deferred} {md:Md} {ops:Array Oper} {Q:VQ} {e e':Env} {O O':VH} {m m':MV}
def EW (e e':Env):Prop:=∀t x',look e' t=some x'->∃x,look e t=some x/\Wk x x'
theorem EW.refl (e:Env):EW e e:=fun t x h=>⟨x,h,Wk.refl _⟩
theorem EW.top {k:Nat} (h:Wk m m'):EW ((k,m)::e) ((k,m')::e):=fun t x hx=>by
 rw[look]at hx ⊢;cases ht:t==k
 ·rw[ht]at hx;exact⟨x,hx,Wk.refl _⟩
 ·rw[ht]at hx;injection hx with hx;subst hx;exact⟨m,rfl,h⟩
theorem EW.aV {d:Option Tmp} (h:Wk m m'):EW (aV d m e) (aV d m' e):=by
 cases d with
 | none=>exact EW.refl _
 | some k=>exact EW.top h
theorem FR.wk {G:Gh} {a:Act} (h:FR G n D e a) (hl:EW e e'):FR G n D e' a:=⟨h.defers,h.size,fun t x hx=>by
 obtain⟨y,h1,h2⟩:=hl t x hx;obtain⟨u,h3,h4⟩:=h.get t y h1;exact⟨u,h3,h2 G u h4⟩⟩
theorem VL.wk {L:List (Fl×Oper)} (hl:EW e e') (h:VL P n D md ops L e' O Q):VL P n D md ops L e O Q:=fun fuel listed ix h1 h2=>by
 have:=h fuel listed ix h1 h2;cases md<;>exact fun G a w hw hf=>this G a w hw (hf.wk hl)
theorem VC.bC {c d:Code} {σ :Type} (l:List Nat) (ms: σ ->List MV) (I: σ ->VH->Prop) (h1:VC P n D c e O (aA l ms I Q)) (h2:∀s O,I s O->VC P n D d (ji l (ms s) []) O Q):VC P n D (.seq c d) e O Q:=by
 refine VC.seq (VC.mono ?_ h1);intro x e O h;cases x with
 | normal=>
   obtain⟨s,h3,h4⟩:=h;exact VC.env (h2 s O h4) (iD (e0:=[]) (fun t x h=>by simp[look]at h) h3)
 | _=>exact h
theorem VL.lC {d:Option Tmp} {x y:Operand} {t ty:TypeId} {ps:String} {af:Array Edge} {g:Option (Nat×Bool)} {L:List (Fl×Oper)} {p q:MV} (hv:iw tab O t p q=some (m,O')) (hw:oT m=m') (h:WL P tab n D md ops Q L (aV d m' e) O') (ht:aL P tab:=by exact aa) (hx:ev e x=some p:=by exact rfl) (hy:ev e y=some q:=by exact rfl) (hg:aN ops (.mk d (.call {callee:=.builtin .append,args:= #[x,y],argTypes:= #[t,t]}) ty ps af g) e=some true:=by exact rfl) (hd:bp n d=true:=by exact rfl):
  VL P n D md ops ((.one,.mk d (.call {callee:=.builtin .append,args:= #[x,y],argTypes:= #[t,t]}) ty ps af g)::L) e O Q:=
 VL.step ht hg (by rw[wJ,cX,hx,hy];exact hv) hd (VL.wk (EW.aV (hw▸LI m)) (WL.sound ht h))
end
section
variable {n:Nat} {cs as_ bs:List MV} {t:Tok} {ty:TypeId} {x:MV} {l:List UInt8} {b o:Nat} {v:Value} {f:Fn} {c:MV}
theorem ZG:tQ (.sl n cs t)= .sl n (cS cs) t:=rfl
theorem LK:tQ (.tuple cs)= .tuple (Eu cs):=rfl
theorem Vm:tQ (.agg cs)= .agg (cS cs):=by show ar (.agg cs)=_;rw[ar]
theorem adE:tQ (.v v)= .v v:=by show ar (.v v)=_;rw[ar]
theorem Vn:tQ (.str l)= .str l:=by show ar (.str l)=_;rw[ar]
theorem Vo:tQ (.ptr b o)= .ptr b o:=by show ar (.ptr b o)=_;rw[ar]
theorem Vp {i j:Nat}:tQ (.bq b o i j)= .bq b o i j:=by show ar (.bq b o i j)=_;rw[ar]
theorem Vq:tQ (.map b)= .map b:=by show ar (.map b)=_;rw[ar]
theorem P1:tQ (.func f as_ bs)= .func f as_ bs:=by show ar (.func f as_ bs)=_;rw[ar]
theorem rV:oT (.sl n cs t)= .sl n (cS cs) t:=rfl
theorem LN:oT (.tuple cs)= .tuple (cS cs):=by show ar (.tuple cs)=_;rw[ar]
theorem Vr:oT (.agg cs)= .agg (cS cs):=by show ar (.agg cs)=_;rw[ar]
theorem adF:oT (.v v)= .v v:=by show ar (.v v)=_;rw[ar]
theorem Vs:oT (.str l)= .str l:=by show ar (.str l)=_;rw[ar]
theorem Vt:oT (.ptr b o)= .ptr b o:=by show ar (.ptr b o)=_;rw[ar]
theorem P2:oT (.db cs o)= .db cs o:=by show ar (.db cs o)=_;rw[ar]
theorem Vu {i j:Nat}:oT (.bq b o i j)= .bq b o i j:=by show ar (.bq b o i j)=_;rw[ar]
theorem Vv:oT (.map b)= .map b:=by show ar (.map b)=_;rw[ar]
theorem P3:oT (.func f as_ bs)= .func f as_ bs:=by show ar (.func f as_ bs)=_;rw[ar]
theorem LO:oT (.iface ty x)= .iface ty (ar x):=by show ar (.iface ty x)=_;rw[ar]
theorem Vw:Eu []=[]:=rfl
theorem P4:Eu (c::cs)=oT c::Eu cs:=rfl
theorem adG:ar (.sl n cs t)= .sl n (cS cs) .ar:=by rw[ar]
theorem ZH:ar (.agg cs)= .agg (cS cs):=by rw[ar]
theorem ag3:ar (.v v)= .v v:=by rw[ar]
theorem ZI:ar (.str l)= .str l:=by rw[ar]
theorem ZJ:ar (.ptr b o)= .ptr b o:=by rw[ar]
theorem ZK {i j:Nat}:ar (.bq b o i j)= .bq b o i j:=by rw[ar]
theorem ZL:ar (.map b)= .map b:=by rw[ar]
theorem P5:ar (.iface ty x)= .iface ty (ar x):=by rw[ar]
theorem HB:cS []=[]:=by rw[cS]
theorem P6:cS (c::cs)=ar c::cS cs:=by rw[cS]
end
set_option linter.defProp false in
def wu:=yP @ZG<|yP @LK<|yP @Vm<|yP @adE<|yP @Vn<|yP @Vo<|yP @Vp<|yP @Vq<|yP @P1<|yP @rV<|yP @LN<|yP @Vr<|yP @adF<|yP @Vs<|yP @Vt<|yP @P2<|yP @Vu<|yP @Vv<|yP @P3<|yP @LO<|yP @Vw<|yP @P4<|yP @adG<|yP @ZH<|yP @ag3<|yP @ZI<|yP @ZJ<|yP @ZK<|yP @ZL<|yP @P5<|yP @HB<|yP @P6<|yP @m5 @Vl
open Go.MapKept (run_setObj_map)
section
variable {G H:Gh} {n:Sz} {D:List Deferred} {e:Env} {a:Act} {P:Program} {tab:bY} {O O':VH} {w:World} {m m':MV} {u v:Value} {ops:Array Oper} {Q:VQ} {md:Md}
theorem I6 {t:TypeId} {x:MV} {cs:List MV} {ok:Bool}:gL tab O t x (.agg cs) ok=none:=by
 unfold gL;split
 ·split
  ·rename_i kd te h1 h2;have:xw kd (.agg cs)=false:=by cases kd<;>rfl
   rw[this]
  ·rfl
 ·rfl
theorem CR {t:TypeId} {x y:MV} {cs:List MV}:dT tab O t x (.agg cs) y=none:=by
 unfold dT;split
 ·split
  ·rename_i kd es ck h1 h2;have:xw kd (.agg cs)=false:=by cases kd<;>rfl
   rw[this]
  ·rfl
 ·rfl
def fB (l:List (List UInt8)):Value:=.agg (l.map fun s=>Value.string ⟨⟨s⟩⟩).toArray
structure tR (P:Program) (kt:TypeId) (N:Nat):Prop where
 law:WideMaps.KeyLaw P kt
 of:∀l:List (List UInt8),l.length=N->(∀s∈l,s.length<=maxLen)->∃lit,keyOf P kt (fB l)=some lit
theorem HC:∀{l:List (List UInt8)} {us:List Value},aO G (l.map .str) us->us=l.map fun s=>Value.string ⟨⟨s⟩⟩
 | [],us,h=>RZ h.1
 | s::l,[],h=>by have:=h.1;simp at this
 | s::l,x::us,h=>by
   have h1:VR G (.str s) x:=h.2 0 _ _ rfl rfl;cases h1;rw[acs,HC (l:=l) (us:=us) ⟨by have:=h.1;simpa using this,fun i c u a b=>h.2 (i+1) c u (by simpa using a) (by simpa using b)⟩]
theorem z8 {l:List (List UInt8)} (h:VR G (.agg (l.map .str)) v):v=fB l:=by
 cases h with
 | agg h1 h2=>rw[HC ⟨h1,h2⟩];rfl
theorem P7 {l m:List (List UInt8)} (h:fB l=fB m):l=m:=by
 unfold fB at h;injection h with h;have h:=congrArg Array.toList h;simp only at h
 have:∀{l m:List (List UInt8)},l.map (fun s=>Value.string ⟨⟨s⟩⟩)=m.map (fun s=>Value.string ⟨⟨s⟩⟩)->l=m:=by
  intro l;induction l with
  | nil=>intro m h;cases m with
    | nil=>rfl
    | cons y m=>simp at h
  | cons x l ih=>intro m h;cases m with
    | nil=>simp at h
    | cons y m=>
      simp only[acs,List.cons.injEq,Value.string.injEq,ByteArray.mk.injEq,Array.mk.injEq]at h;rw[h.1,ih h.2]
 exact this h
abbrev fy:=List (List (List UInt8)×MV×Nat)
def cI (M:fy):uB:=M.map fun p=>(.agg (p.1.map .str),p.2.1,p.2.2)
def jk (l:List (List UInt8)) (M:fy):Option MV:=(M.find? (·.1==l)).map (·.2.1)
def jI (l:List (List UInt8)) (y:MV) (ck:Nat) (M:fy):fy:=if M.any (·.1==l)then M.map (fun p=>if p.1=l then(l,y,p.2.2)else p)else M++[(l,y,ck)]
def LP (l:List (List UInt8)) (ck:Nat) (M:fy):Nat:=if M.any (·.1==l)then ck else ck+1
structure n5 (N:Nat) (M:fy):Prop where
 len:∀p∈M,p.1.length=N/\∀s∈p.1,s.length<=maxLen
 one:(M.map (·.1)).Nodup
theorem I7 {M:fy} (h:(M.map (·.1)).Nodup) {j:Nat} {p:List (List UInt8)×MV×Nat} (hp:M[j]?=some p):jk p.1 M=some p.2.1:=by
 unfold jk;induction M generalizing j with
 | nil=>simp at hp
 | cons x M ih=>
   simp only[acs,List.nodup_cons]at h;cases j with
   | zero=>simp only[XO,Option.some.injEq]at hp;subst hp;simp
   | succ j=>
     simp only[acu]at hp;have hm:p.1∈M.map (·.1):=ah2 (agr hp)
     have hne:(x.1==p.1)=false:=by
      rw[beq_eq_false_iff_ne];intro e;exact h.1 (e▸hm)
     rw[List.find?_cons,hne];exact ih h.2 hp
theorem wM {M:fy} {l:List (List UInt8)} (h:∀p∈M,p.1≠l):jk l M=none:=by
 unfold jk;rw[List.find?_eq_none.2 (fun p hp=>by simpa using h p hp)];rfl
theorem gK.keys {M:fy} {E:List MapEntry} (h:gK G (cI M) E):E.length=M.length/\∀(j:Nat) (p:List (List UInt8)×MV×Nat) (x:MapEntry),M[j]?=some p->E[j]?=some x->x.key=fB p.1/\VR G p.2.1 x.val/\x.born=p.2.2:=by
 have hl:E.length=M.length:=by have:=h.key.1;simpa[cI]using this
 refine⟨hl,fun j p x hp hx=>⟨?_,?_,?_⟩⟩
 ·exact z8 (h.key.2 j _ _ (by simp[cI,hp]) (by simp[hx]))
 ·exact h.val.2 j _ _ (by simp[cI,hp]) (by simp[hx])
 ·have:=congrArg (fun l=>l[j]?) h.born;simpa[cI,hp,hx]using this
theorem z_ {kt:TypeId} {N:Nat} (K:tR P kt N) {M:fy} {E:List MapEntry} {l:List (List UInt8)} (hM:n5 N M) (hE:gK G (cI M) E) (hl:l.length=N) (hs:∀s∈l,s.length<=maxLen) (w:World):
  ((Instr.findKey kt (fB l) E).run P w= .ok none w/\∀p∈M,p.1≠l)\/∃(j:Nat) (p:List (List UInt8)×MV×Nat) (x:MapEntry),(Instr.findKey kt (fB l) E).run P w= .ok (some (j,x.val)) w/\M[j]?=some p/\p.1=l/\E[j]?=some x/\VR G p.2.1 x.val:=by
 obtain⟨lit,xE⟩:=K.of l hl hs;obtain⟨h1,h2⟩:=hE.keys
 have kC:∀x∈E,∃q,keyOf P kt x.key=some q:=fun x hx=>by
  obtain⟨j,hj,rfl⟩:=alE.1 hx;have Vx:j<M.length:=by omega
  have:=(h2 j _ _ (Km Vx) (Km hj)).1;rw[this];exact K.of _ (hM.len _ (ahX Vx)).1 (hM.len _ (ahX Vx)).2
 rcases K.law.find w xE E kC with⟨g1,g2⟩ | ⟨j,x,g1,g2,g3⟩
 ·refine .inl ⟨g1,fun p hp e=>?_⟩;obtain⟨j,hj,rfl⟩:=alE.1 hp;have ZM:j<E.length:=by omega
  have:=(h2 j _ _ (Km hj) (Km ZM)).1;exact g2 _ (ahX ZM) (by rw[this,e])
 ·have ZM:=(acw.1 g2).1;have Vx:j<M.length:=by omega
  have h3:=h2 j _ _ (Km Vx) g2;exact .inr ⟨j,M[j],x,g1,Km Vx,P7 (h3.1.symm.trans g3),g2,h3.2.1⟩
theorem gK.ain {M:fy} {E:List MapEntry} {l:List (List UInt8)} {y:MV} {yv:Value} (hM:(M.map (·.1)).Nodup) (hE:gK G (cI M) E) (hy:VR G y yv) {j:Nat} {p:List (List UInt8)×MV×Nat} (hp:M[j]?=some p) (dL:p.1=l) (hk:VR G (.agg (l.map .str)) (fB l)):
  gK G (cI (M.map fun p=>if p.1=l then(l,y,p.2.2)else p)) (E.modify j fun x=>{x with key:=fB l,val:=yv}):=by
 have e:cI (M.map fun p=>if p.1=l then(l,y,p.2.2)else p)=setAt (cI M) j (.agg (l.map .str)) y:=by
  clear hE hy hk;unfold cI setAt;induction M generalizing j with
  | nil=>simp at hp
  | cons x M ih=>
    simp only[acs,List.nodup_cons]at hM;cases j with
    | zero=>
      simp only[XO,Option.some.injEq]at hp;subst hp
      have fG:M.map (fun p=>if p.1=l then(l,y,p.2.2)else p)=M:=by
       have:∀q∈M,(if q.1=l then(l,y,q.2.2)else q)=q:=fun q hq=>if_neg fun e=>hM.1 (by rw[dL, <-e];exact ah2 hq)
       calc M.map (fun p=>if p.1=l then(l,y,p.2.2)else p)=M.map id:=List.map_congr_left this
        _=M:=by simp
      simp only[acs,List.modify_zero_cons,if_pos dL];rw[fG]
    | succ j=>
      simp only[acu]at hp;have hne:¬x.1=l:=fun e=>hM.1 (by rw[e, <-dL];exact ah2 (agr hp))
      simp only[acs,List.modify_succ_cons,if_neg hne];rw[ih hM.2 hp]
 rw[e];exact gK.modify hk hy j hE
theorem ZN (l:List (List UInt8)):VR G (.agg (l.map .str)) (fB l):=by
 unfold fB;refine .agg (by simp) fun i c u h1 h2=>?_
 simp only[ah1,alM]at h1 h2;obtain⟨s,h3,rfl⟩:=h1;obtain⟨t,h4,rfl⟩:=h2;rw[h3]at h4;injection h4 with h4;subst h4
 exact .str
def fQ (P:Program) (n:Sz) (D:List Deferred) (o:Oper) (e:Env) (O:VH) (m:MV):Prop:=∀G a w,WR G O w->FR G n D e a->∃u,VR G m u/\∀x,Sx G w x->(execOp a.eval o).run P x= .ok (.value u) x
theorem aK.hold {i:Nat} {o:Oper} {K:Env->VH->Prop} (ho:ops[i]?=some o) (hg:aN ops o e=some true) (hd:bp n o.dst=true) (hy:fQ P n D o e O m) (h:K (aV o.dst m e) O):aK P n D ops i e O Q K:=by
 refine aK.im (M:=fun m' O'=>m'=m/\O'=O) ho hg hd (fun G a w hw hf=>?_) (by rintro m' O' ⟨rfl,rfl⟩;exact h);obtain⟨u,hu,hr⟩:=hy G a w hw hf;exact⟨m,O,u,w,G,⟨rfl,rfl⟩,hr w hw.sx,Gh.Le.refl G,hw,hu⟩
theorem VL.hold {f:Fl} {o:Oper} {L:List (Fl×Oper)} (hh:(f= .one/\(md= .plain\/md= .any))\/f= .rd) (hg:aN ops o e=some true) (hd:bp n o.dst=true) (hy:fQ P n D o e O m) (h:VL P n D md ops L (aV o.dst m e) O Q):VL P n D md ops ((f,o)::L) e O Q:=by
 intro fuel listed ix hf hp
 match ix,hf with
 | (i,g)::ix,hf=>
   obtain⟨rfl,ho,hf⟩:=hf;cases md with
   | plain=>exact iz.one (aK.hold ho hg hd hy (h 0 #[] ix hf (fun h=>absurd rfl h)))
   | any=>
     obtain⟨h1,h2⟩:=hp (by simp);cases fuel with
     | zero=>cases h2
     | succ fuel=>
       simp only[cH,Kn]at h2;have hk:=h fuel (listed.setIfInBounds i true) ix hf (fun _=>⟨h1,h2.2⟩);rcases hh with⟨rfl,_⟩ | rfl
       ·have hr:Region.ready .any ops listed=[i]:=by simpa using h2.1
        exact cn.all hr (by simp) fun j hj=>by
         obtain rfl:j=i:=by simpa using hj
         exact aK.hold ho hg hd hy hk
       ·exact absurd h2.1 (by simp)
   | reads=>
     obtain⟨h1,h2⟩:=hp (by simp);cases fuel with
     | zero=>cases h2
     | succ fuel=>
       simp only[cH,Kn]at h2;have hk:=h fuel (listed.setIfInBounds i true) ix hf (fun _=>⟨h1,h2.2⟩);rcases hh with⟨_,h3 | h3⟩ | rfl
       ·cases h3
       ·cases h3
       intro G a w hw aU;obtain⟨u,hu,cj⟩:=hy G a w hw aU;have h3:Region.free .any ops listed i=true/\(Region.ready .any ops listed).contains i=true:=by simp_all
       exact wpAnyH_take ho h1 h3.1 h3.2 (g_ hd) (.inl ⟨bn aU hg,fun w' qY=>by rw[qY];exact cj w hw.sx⟩) rfl (hk G _ w hw (aU.aV hd hu))
   | held brk=>
     obtain⟨h1,h2⟩:=hp (by simp);cases fuel with
     | zero=>cases h2
     | succ fuel=>
       simp only[cH,Kn]at h2;have hk:=h fuel (listed.setIfInBounds i true) ix hf (fun _=>⟨h1,h2.2⟩);rcases hh with⟨_,h3 | h3⟩ | rfl
       ·cases h3
       ·cases h3
       simp only[Kn]at h2
       exact bL.take ho h1 h2.1.1.1 h2.1.1.2 h2.1.2 hd (fun G a w hw aU=>by
        obtain⟨u,hu,cj⟩:=hy G a w hw aU;exact⟨u,hu,.inl ⟨bn aU hg,fun x hx=>cj x hx⟩⟩) hk
def uf (ok:Bool) (z:MV):Option MV->MV
 | some m=>if ok then .tuple [m,.v (.bool true)]else m
 | none=>if ok then .tuple [z,.v (.bool false)]else z
theorem Sw {z m:MV}:uf false z (some m)=m:=rfl
theorem I8 {z m:MV}:uf true z (some m)= .tuple [m,.v (.bool true)]:=rfl
theorem adH {z:MV}:uf false z none=z:=rfl
theorem Aa {z:MV}:uf true z none= .tuple [z,.v (.bool false)]:=rfl
theorem fQ.lK {kt et:TypeId} {N:Nat} (K:tR P kt N) (ht:aL P tab) {d:Option Tmp} {t ty:TypeId} {x y:Operand} {ok:Bool} {ps:String} {af:Array Edge} {g:Option (Nat×Bool)} {b ck:Nat} {M:fy} {l:List (List UInt8)} {te:cy} {z:MV} (hU:P.underlying t=some (.map kt et)) (nw:tab et=some te) (hz:wF te=some z)
  (hx:ev e x=some (.map b)) (hb:O.hp b=some (.map (cI M) ck)) (hM:n5 N M) (hy:ev e y=some (.agg (l.map .str))) (hl:l.length=N) (hs:∀s∈l,s.length<=maxLen):fQ P n D (.mk d (.lookup t x y ok) ty ps af g) e O (uf ok z (jk l M)):=by
 intro G a w hw hf;have h1:=hf.ev hx;have h2:=hf.ev hy;generalize oF:a.eval x=u at h1;generalize yA:a.eval y=v at h2;have hv:=z8 h2;subst hv;cases h1 with
 | map eB=>
   rename_i b';obtain⟨b2,E,e1,e2,e3,e4,e5⟩:=hw.map _ _ _ hb;rw[eB]at e1;injection e1 with e1;subst e1
   have hE:gK G (cI M) E.toList:=⟨e3,e4,e5⟩;obtain⟨lit,xE⟩:=K.of l hl hs;obtain⟨zv,z1,z2⟩:=yl (ht et te nw) hz;have aeX:∀y,Sx G w y->y.heap[b']?=some (.map E ck):=fun y hy=>(hy.2 _ _ eB).trans e2
   by_cases LQ:∃p∈M,p.1=l
   ·have h3:=z_ K hM hE hl hs w;rcases h3 with⟨_,g2⟩ | ⟨j,p,q,_,g2,g3,g4,g5⟩
    ·obtain⟨p,hp,e⟩:=LQ;exact absurd e (g2 p hp)
    have ey:jk l M=some p.2.1:=by rw[<-g3];exact I7 hM.one g2
    rw[ey];refine⟨if ok then .tuple #[q.val,.bool true]else q.val,?_,fun yw hyw=>?_⟩
    ·cases ok
     ·exact g5
     ·exact VR.tuple (us:=[q.val,.bool true]) rfl (aO.cons g5 (aO.cons (.v rfl) aO.nil)).2
    ·have hr:(Instr.findKey kt (fB l) E.toList).run P yw= .ok (some (j,q.val)) yw:=by
      rcases z_ K hM hE hl hs yw with⟨_,g6⟩ | ⟨j',p',q',g6,g7,g8,g9,_⟩
      ·exact absurd g3 (g6 p (agr g2))
      ·have lL:j'=j:=by
        have h5:(M.map (·.1))[j']?=some l:=by simp[g7,g8]
        have h6:(M.map (·.1))[j]?=some l:=by simp[g2,g3]
        exact(List.getElem?_inj (by simpa using(acw.1 g7).1) hM.one).1 (h5.trans h6.symm)
       subst lL;rw[g4]at g9;injection g9 with g9;subst g9
       exact g6
     have CS:=K.law.check yw E.isEmpty xE;simp only[execOp,oF,yA,Instr.lookup,Sem.run_bind,run_underlying hU,Result.andThen_ok,MapKept.run_getObj_map (aeX yw hyw),CS,hr,Sem.run_pure]
   ·have fG:∀p∈M,p.1≠l:=fun p hp e=>LQ ⟨p,hp,e⟩
    rw[wM fG];refine⟨if ok then .tuple #[zv,.bool false]else zv,?_,fun yw hyw=>?_⟩
    ·cases ok
     ·exact z2 G
     ·exact VR.tuple (us:=[zv,.bool false]) rfl (aO.cons (z2 G) (aO.cons (.v rfl) aO.nil)).2
    ·have hr:(Instr.findKey kt (fB l) E.toList).run P yw= .ok none yw:=by
      rcases z_ K hM hE hl hs yw with⟨g6,_⟩ | ⟨j',p',q',_,g7,g8,_⟩
      ·exact g6
      ·exact absurd g8 (fG p' (agr g7))
     have CS:=K.law.check yw E.isEmpty xE;simp only[execOp,oF,yA,Instr.lookup,Sem.run_bind,run_underlying hU,Result.andThen_ok,MapKept.run_getObj_map (aeX yw hyw),CS,hr,Sem.run_pure,z1]
def oG (P:Program) (n:Sz) (D:List Deferred) (o:Oper) (e:Env) (O O':VH):Prop:=∀G a w,WR G O w->FR G n D e a->∃w' H,(execOp a.eval o).run P w= .ok .skip w'/\Gh.Le G H/\WR H O' w'
theorem aK.oH {i:Nat} {o:Oper} {K:Env->VH->Prop} (ho:ops[i]?=some o) (hg:aN ops o e=some true) (hd:bp n o.dst=true) (hy:oG P n D o e O O') (h:K (aV o.dst cG e) O'):aK P n D ops i e O Q K:=by
 intro G a w hw aU;obtain⟨w',H,hr,h1,h2⟩:=hy G a w hw aU;simp only[wpOp,ho,bn aU hg,if_true];refine .inl ?_;unfold Oper.wp;rw[hr];exact⟨_,_,H,h1,h2,(aU.mono h1).aV hd k7,h⟩
theorem VL.oH {o:Oper} {L:List (Fl×Oper)} (hg:aN ops o e=some true) (hd:bp n o.dst=true) (hy:oG P n D o e O O')
  (pD:∀brk,md= .held brk->∀i,ops[i]?=some o->brk.contains i=true) (h:VL P n D md ops L (aV o.dst cG e) O' Q):VL P n D md ops ((.one,o)::L) e O Q:=by
 intro fuel listed ix hf hp
 match ix,hf with
 | (i,g)::ix,hf=>
   obtain⟨rfl,ho,hf⟩:=hf;cases md with
   | plain=>exact iz.one (aK.oH ho hg hd hy (h 0 #[] ix hf (fun h=>absurd rfl h)))
   | any=>
     obtain⟨h1,h2⟩:=hp (by simp);cases fuel with
     | zero=>cases h2
     | succ fuel=>
       simp only[cH,Kn]at h2;have hr:Region.ready .any ops listed=[i]:=by simpa using h2.1
       exact cn.all hr (by simp) fun j hj=>by
        obtain rfl:j=i:=by simpa using hj
        exact aK.oH ho hg hd hy (h fuel (listed.setIfInBounds j true) ix hf (fun _=>⟨h1,h2.2⟩))
   | reads=>
     obtain⟨h1,h2⟩:=hp (by simp);cases fuel with
     | zero=>cases h2
     | succ fuel=>
       simp only[cH,Kn]at h2;exact absurd h2.1 (by simp)
   | held brk=>
     obtain⟨h1,h2⟩:=hp (by simp);cases fuel with
     | zero=>cases h2
     | succ fuel=>
       simp only[cH,Kn]at h2;have hr:Region.ready .any ops listed=[i]:=by simpa using h2.1.1
       have zg:∀j,(listed.setIfInBounds i true).getD j true=false\/j=i->brk.contains j=true:=by
        rcases rQ ho h2.1.2 with⟨h3,_⟩ | h3
        ·rw[pD brk rfl i ho]at h3;cases h3
        ·exact h3
       exact bL.Yi hr zg (aK.oH ho hg hd hy (h fuel (listed.setIfInBounds i true) ix hf (fun _=>⟨h1,h2.2⟩)))
theorem oG.jI {kt et:TypeId} {N:Nat} (K:tR P kt N) {d:Option Tmp} {t ty:TypeId} {x y z:Operand} {ps:String} {af:Array Edge} {g:Option (Nat×Bool)} {b ck:Nat} {M:fy} {l:List (List UInt8)} (hU:P.underlying t=some (.map kt et))
  (hx:ev e x=some (.map b)) (hb:O.hp b=some (.map (cI M) ck)) (hM:n5 N M) (hy:ev e y=some (.agg (l.map .str))) (hl:l.length=N) (hs:∀s∈l,s.length<=maxLen) (hz:ev e z=some m):oG P n D (.mk d (.mapUpdate t x y z) ty ps af g) e O (O.set b (.map (cI (jI l m ck M)) (LP l ck M))):=by
 intro G a w hw hf;have h1:=hf.ev hx;have h2:=hf.ev hy;have h3:=hf.ev hz;generalize oF:a.eval x=u at h1;generalize yA:a.eval y=v at h2;generalize haz:a.eval z=r at h3;have hv:=z8 h2;subst hv;cases h1 with
 | map eB=>
   rename_i b';obtain⟨b2,E,e1,e2,e3,e4,e5⟩:=hw.map _ _ _ hb;rw[eB]at e1;injection e1 with e1;subst e1
   have hE:gK G (cI M) E.toList:=⟨e3,e4,e5⟩;obtain⟨lit,xE⟩:=K.of l hl hs;have CS:=K.law.check w false xE;rcases z_ K hM hE hl hs w with⟨g1,g2⟩ | ⟨j,p,q,g1,g2,g3,g4,g5⟩
   ·have kE:M.any (·.1==l)=false:=by rw[List.any_eq_false];intro p hp;simpa using g2 p hp
    have hr:gK G (cI (M++[(l,m,ck)])) (E.push {key:=fB l,val:=r,born:=ck}).toList:=by
     rw[Array.toList_push];unfold cI;rw[ah3];exact hE.append (gK.cons rfl h2 h3 gK.nil)
    refine⟨?wx,G,?rn,Gh.Le.refl G,?wr⟩
    case wr=>rw[Go.Proofs.YtoclnkfdahmnhaaGreatDoor.jI,LP,kE];exact hw.sH (ck':=ck+1) hb eB e2 hr
    case rn=>
     simp only[execOp,oF,yA,haz,Instr.mapUpdate,Sem.run_bind,run_underlying hU,Result.andThen_ok,MapKept.run_getObj_map e2,CS,g1,run_setObj_map _ e2];rfl
   ·have kE:M.any (·.1==l)=true:=List.any_eq_true.2 ⟨p,agr g2,by simp[g3]⟩;have I9:q.key=fB l:=by have:=(hE.keys.2 j p q g2 g4).1;rw[this,g3]
    have dd:=K.law.stays w xE;have hr:=gK.ain hM.one hE h3 g2 g3 (ZN l);rw[<-Array.toList_modify]at hr
    have pB:((E[j]?).map (·.key)).getD (fB l)=fB l:=by
     have:E[j]?=some q:=by simpa using g4
     rw[this];exact I9
    refine⟨?wy,G,?rm,Gh.Le.refl G,?ws⟩
    case ws=>rw[Go.Proofs.YtoclnkfdahmnhaaGreatDoor.jI,LP,kE];exact hw.sH (ck':=ck) hb eB e2 hr
    case rm=>
     simp only[execOp,oF,yA,haz,Instr.mapUpdate,Sem.run_bind,run_underlying hU,Result.andThen_ok,MapKept.run_getObj_map e2,CS,g1,pB,dd,run_setObj_map _ e2];rfl
end
theorem rW {N:Nat} {M:fy} {l:List (List UInt8)} {y:MV} {ck:Nat} (h:n5 N M) (hl:l.length=N) (hs:∀s∈l,s.length<=maxLen):n5 N (jI l y ck M):=by
 unfold jI;split
 ·have hk:(M.map (fun p=>if p.1=l then(l,y,p.2.2)else p)).map (·.1)=M.map (·.1):=by
   rw[List.map_map];refine List.map_congr_left fun p _=>?_
   show(if p.1=l then(l,y,p.2.2)else p).1=p.1;split
   ·rename_i e;exact e.symm
   ·rfl
  refine⟨fun p hp=>?_,by rw[hk];exact h.one⟩;have:p.1∈M.map (·.1):=by rw[<-hk];exact ah2 hp
  obtain⟨q,hq,e⟩:=List.mem_map.1 this;rw[<-e];exact h.len q hq
 ·rename_i fG;have fG:∀p∈M,¬p.1=l:=fun p hp e=>fG (List.any_eq_true.2 ⟨p,hp,by simp[e]⟩)
  refine⟨fun p hp=>?_,?_⟩
  ·rcases List.mem_append.1 hp with hp | hp
   ·exact h.len p hp
   ·rw[List.mem_singleton.1 hp];exact⟨hl,hs⟩
  ·rw[ah3,List.nodup_append];refine⟨h.one,by simp,fun x hx z hz e=>?_⟩;simp only[acs,alF,List.mem_singleton]at hz;obtain⟨q,hq,e2⟩:=List.mem_map.1 hx;exact fG q hq (by rw[e2,e,hz])
def Sy (P:Program):List Field->Nat->Bool
 | [],_=>true
 | f::r,i=>(match P.underlying f.type with | some .string=>true | _=>false)&&f.offset==i&&P.cellsOf f.type==1&&Sy P r (i+1)
def skB (P:Program) (kt:TypeId) (N:Nat):Bool:=match P.underlying kt with
 | some (.struct fs)=>P.keyType kt&&fs.all (·.name != "_")&&P.cellsOf kt==N&&fs.size==N&&Sy P fs.toList 0&&decide (kt<P.types.size)&&decide (P.types.size+2<=10000)
 | _=>false
theorem mapM_some {α β :Type} {g: α ->Option β}:∀{L:List α},(∀f∈L,∃y,g f=some y)->∃ys,L.mapM g=some ys
 | [],_=>⟨[],rfl⟩
 | f::L,h=>by
   obtain⟨y,hy⟩:=h f (by simp);obtain⟨ys,Py⟩:=mapM_some (L:=L) fun x hx=>h x (List.mem_cons_of_mem _ hx)
   exact⟨y::ys,by rw[List.mapM_cons,hy];simp[Py]⟩
theorem LR {P:Program}:∀{L:List Field} {i:Nat},Sy P L i=true->∀(j:Nat) (f:Field),L[j]?=some f->P.underlying f.type=some .string/\f.offset=i+j/\P.cellsOf f.type=1
 | [],_,_,j,f,h=>by simp at h
 | g::L,i,hB,j,f,h=>by
   simp only[Sy,Kn,beq_iff_eq]at hB;obtain⟨⟨⟨h1,h2⟩,h3⟩,h4⟩:=hB;cases j with
   | zero=>
     simp only[XO,Option.some.injEq]at h;subst h;refine⟨?_,h2,h3⟩;split at h1
     ·assumption
     ·cases h1
   | succ j=>
     have:=LR h4 j f (by simpa using h);exact⟨this.1,by omega,this.2.2⟩
theorem tR.sN {P:Program} {kt:TypeId} {N:Nat} (hl:laidOutB P=true) (h:skB P kt N=true):tR P kt N:=by
 unfold skB at h;split at h
 ·rename_i fs hu;simp only[Kn,beq_iff_eq,decide_eq_true_eq]at h;obtain⟨⟨⟨⟨⟨⟨h1,h2⟩,h3⟩,h4⟩,h5⟩,h6⟩,h7⟩:=h;refine⟨deep_law_gate hl h7 h6 h1 (by rw[hu]),fun l hlen hs=>?_⟩
  have ag4:(fB l).formed P kt=true:=by
   unfold fB Value.formed;simp only[hu];simp[hlen,h3]
  have ag5:∃ls,P.keyLits (P.types.size+1) kt (fB l).cells.toList=some ls:=by
   obtain⟨D,hD⟩:∃D,P.types.size=D+1:=⟨P.types.size - 1,by have:0<P.types.size:=Nat.lt_of_le_of_lt (alR kt) h6;omega⟩
   rw[hD];unfold Program.keyLits;have hc:(fB l).cells.toList=l.map fun s=>Value.string ⟨⟨s⟩⟩:=by simp[fB,Value.cells]
   rw[hc];simp only[hu];rw[if_pos ⟨by simp[hlen,h3],h2⟩]
   obtain⟨ys,Py⟩:=mapM_some (L:=fs.toList) (g:=fun f=>P.keyLits (D+1) f.type (((l.map fun s=>Value.string ⟨⟨s⟩⟩).drop f.offset).take (P.cellsOf f.type))) fun f hf=>by
    obtain⟨j,hj,rfl⟩:=alE.1 hf;obtain⟨g1,g2,g3⟩:=LR h5 j _ (Km hj);rw[ahY]at g2;have Ab:j<l.length:=by rw[hlen, <-h4];simpa using hj
    have SA:((l.map fun s=>Value.string ⟨⟨s⟩⟩).drop j).take 1=[Value.string ⟨⟨l[j]⟩⟩]:=by
     rw[List.drop_eq_getElem_cons (by simpa using Ab)];simp
    rw[g2,g3,SA];unfold Program.keyLits;simp only[g1];exact⟨_,if_pos (hs _ (ahX Ab))⟩
   exact⟨ys.flatten,by rw[Py];rfl⟩
  obtain⟨ls,Vy⟩:=ag5;refine⟨.string (keyBytes ls),?_⟩;unfold keyOf;simp only[hu];rw[h1,ag4,Vy];rfl
 ·cases h
set_option linter.defProp false in
def zk:=yP wk<|yP wu<|yP @I6<|yP @CR<|yP @alN.{0,0}<|yP @Sw<|yP @I8<|yP @adH<|yP @Aa<|yP @ZA<|yP @Option.isSome_some.{0}<|yP @agu.{0}<|yP @sP @aj
section
variable {A1 A2 A3 A4 A5 A6 A7 A8 A9 P Q:Prop}
theorem I_ (q:Q) (h:P=Q:=by conv=>lhs;simp(disch:=first | omega | (simp only[ds]<;>omega) | fail) only[zk,cG,Nat.reduceLT,Nat.reduceAdd,Nat.reduceMul,Nat.reduceSub,Nat.reduceBEq,Nat.reduceEqDiff,Int.reduceToNat,reduceIte]):P:=(h).mpr q
theorem ae (a1:A1) (q:Q) (h:A1->P=Q:=by intro a1;conv=>lhs;simp(disch:=first | omega | (simp only[ds]<;>omega) | fail) only[zk,cG,Nat.reduceLT,Nat.reduceAdd,Nat.reduceMul,Nat.reduceSub,Nat.reduceBEq,Nat.reduceEqDiff,Int.reduceToNat,reduceIte,a1]):P:=(h a1).mpr q
theorem fe (a1:A1) (h:A1->P:=by intro a1;simp(disch:=first | omega | (simp only[ds]<;>omega) | fail) only[zk,cG,Nat.reduceLT,Nat.reduceAdd,Nat.reduceMul,Nat.reduceSub,Nat.reduceBEq,Nat.reduceEqDiff,Int.reduceToNat,reduceIte,a1]):P:=h a1
theorem ao (a1:A1) (a2:A2) (q:Q) (h:A1->A2->P=Q:=by intro a1 a2;conv=>lhs;simp(disch:=first | omega | (simp only[ds]<;>omega) | fail) only[zk,cG,Nat.reduceLT,Nat.reduceAdd,Nat.reduceMul,Nat.reduceSub,Nat.reduceBEq,Nat.reduceEqDiff,Int.reduceToNat,reduceIte,a1,a2]):P:=(h a1 a2).mpr q
theorem dq (a1:A1) (a2:A2) (h:A1->A2->P:=by intro a1 a2;simp(disch:=first | omega | (simp only[ds]<;>omega) | fail) only[zk,cG,Nat.reduceLT,Nat.reduceAdd,Nat.reduceMul,Nat.reduceSub,Nat.reduceBEq,Nat.reduceEqDiff,Int.reduceToNat,reduceIte,a1,a2]):P:=h a1 a2
theorem aJ (a1:A1) (a2:A2) (a3:A3) (q:Q) (h:A1->A2->A3->P=Q:=by intro a1 a2 a3;conv=>lhs;simp(disch:=first | omega | (simp only[ds]<;>omega) | fail) only[zk,cG,Nat.reduceLT,Nat.reduceAdd,Nat.reduceMul,Nat.reduceSub,Nat.reduceBEq,Nat.reduceEqDiff,Int.reduceToNat,reduceIte,a1,a2,a3]):P:=(h a1 a2 a3).mpr q
theorem kt3 (a1:A1) (a2:A2) (a3:A3) (h:A1->A2->A3->P:=by intro a1 a2 a3;simp(disch:=first | omega | (simp only[ds]<;>omega) | fail) only[zk,cG,Nat.reduceLT,Nat.reduceAdd,Nat.reduceMul,Nat.reduceSub,Nat.reduceBEq,Nat.reduceEqDiff,Int.reduceToNat,reduceIte,a1,a2,a3]):P:=h a1 a2 a3
theorem c_ (a1:A1) (a2:A2) (a3:A3) (a4:A4) (q:Q) (h:A1->A2->A3->A4->P=Q:=by intro a1 a2 a3 a4;conv=>lhs;simp(disch:=first | omega | (simp only[ds]<;>omega) | fail) only[zk,cG,Nat.reduceLT,Nat.reduceAdd,Nat.reduceMul,Nat.reduceSub,Nat.reduceBEq,Nat.reduceEqDiff,Int.reduceToNat,reduceIte,a1,a2,a3,a4]):P:=(h a1 a2 a3 a4).mpr q
theorem kt4 (a1:A1) (a2:A2) (a3:A3) (a4:A4) (h:A1->A2->A3->A4->P:=by intro a1 a2 a3 a4;simp(disch:=first | omega | (simp only[ds]<;>omega) | fail) only[zk,cG,Nat.reduceLT,Nat.reduceAdd,Nat.reduceMul,Nat.reduceSub,Nat.reduceBEq,Nat.reduceEqDiff,Int.reduceToNat,reduceIte,a1,a2,a3,a4]):P:=h a1 a2 a3 a4
theorem gQ (a1:A1) (a2:A2) (a3:A3) (a4:A4) (a5:A5) (q:Q) (h:A1->A2->A3->A4->A5->P=Q:=by intro a1 a2 a3 a4 a5;conv=>lhs;simp(disch:=first | omega | (simp only[ds]<;>omega) | fail) only[zk,cG,Nat.reduceLT,Nat.reduceAdd,Nat.reduceMul,Nat.reduceSub,Nat.reduceBEq,Nat.reduceEqDiff,Int.reduceToNat,reduceIte,a1,a2,a3,a4,a5]):P:=(h a1 a2 a3 a4 a5).mpr q
theorem kt5 (a1:A1) (a2:A2) (a3:A3) (a4:A4) (a5:A5) (h:A1->A2->A3->A4->A5->P:=by intro a1 a2 a3 a4 a5;simp(disch:=first | omega | (simp only[ds]<;>omega) | fail) only[zk,cG,Nat.reduceLT,Nat.reduceAdd,Nat.reduceMul,Nat.reduceSub,Nat.reduceBEq,Nat.reduceEqDiff,Int.reduceToNat,reduceIte,a1,a2,a3,a4,a5]):P:=h a1 a2 a3 a4 a5
theorem Bm (a1:A1) (a2:A2) (a3:A3) (a4:A4) (a5:A5) (a6:A6) (q:Q) (h:A1->A2->A3->A4->A5->A6->P=Q:=by intro a1 a2 a3 a4 a5 a6;conv=>lhs;simp(disch:=first | omega | (simp only[ds]<;>omega) | fail) only[zk,cG,Nat.reduceLT,Nat.reduceAdd,Nat.reduceMul,Nat.reduceSub,Nat.reduceBEq,Nat.reduceEqDiff,Int.reduceToNat,reduceIte,a1,a2,a3,a4,a5,a6]):P:=(h a1 a2 a3 a4 a5 a6).mpr q
theorem kt6 (a1:A1) (a2:A2) (a3:A3) (a4:A4) (a5:A5) (a6:A6) (h:A1->A2->A3->A4->A5->A6->P:=by intro a1 a2 a3 a4 a5 a6;simp(disch:=first | omega | (simp only[ds]<;>omega) | fail) only[zk,cG,Nat.reduceLT,Nat.reduceAdd,Nat.reduceMul,Nat.reduceSub,Nat.reduceBEq,Nat.reduceEqDiff,Int.reduceToNat,reduceIte,a1,a2,a3,a4,a5,a6]):P:=h a1 a2 a3 a4 a5 a6
theorem ZO (a1:A1) (a2:A2) (a3:A3) (a4:A4) (a5:A5) (a6:A6) (a7:A7) (q:Q) (h:A1->A2->A3->A4->A5->A6->A7->P=Q:=by intro a1 a2 a3 a4 a5 a6 a7;conv=>lhs;simp(disch:=first | omega | (simp only[ds]<;>omega) | fail) only[zk,cG,Nat.reduceLT,Nat.reduceAdd,Nat.reduceMul,Nat.reduceSub,Nat.reduceBEq,Nat.reduceEqDiff,Int.reduceToNat,reduceIte,a1,a2,a3,a4,a5,a6,a7]):P:=(h a1 a2 a3 a4 a5 a6 a7).mpr q
theorem P8 (a1:A1) (a2:A2) (a3:A3) (a4:A4) (a5:A5) (a6:A6) (a7:A7) (a8:A8) (q:Q) (h:A1->A2->A3->A4->A5->A6->A7->A8->P=Q:=by intro a1 a2 a3 a4 a5 a6 a7 a8;conv=>lhs;simp(disch:=first | omega | (simp only[ds]<;>omega) | fail) only[zk,cG,Nat.reduceLT,Nat.reduceAdd,Nat.reduceMul,Nat.reduceSub,Nat.reduceBEq,Nat.reduceEqDiff,Int.reduceToNat,reduceIte,a1,a2,a3,a4,a5,a6,a7,a8]):P:=(h a1 a2 a3 a4 a5 a6 a7 a8).mpr q
theorem kw9 (a1:A1) (a2:A2) (a3:A3) (a4:A4) (a5:A5) (a6:A6) (a7:A7) (a8:A8) (a9:A9) (q:Q) (h:A1->A2->A3->A4->A5->A6->A7->A8->A9->P=Q:=by intro a1 a2 a3 a4 a5 a6 a7 a8 a9;conv=>lhs;simp(disch:=first | omega | (simp only[ds]<;>omega) | fail) only[zk,cG,Nat.reduceLT,Nat.reduceAdd,Nat.reduceMul,Nat.reduceSub,Nat.reduceBEq,Nat.reduceEqDiff,Int.reduceToNat,reduceIte,a1,a2,a3,a4,a5,a6,a7,a8,a9]):P:=(h a1 a2 a3 a4 a5 a6 a7 a8 a9).mpr q
end
theorem aa:aL Tryz.prog (eh Tryz.prog):=Yj _
abbrev TY (t:Nat) (d:TypeDesc) (a b:Nat) (z:List MV):Prop:=eh Tryz.prog t=some ⟨d,a,b,z⟩
abbrev TS (t:Nat) (d:TypeDesc) (a b:Nat) (z:List MV) (p:List (Nat×Nat)):Prop:=TY t d a b z/\eL d=true/\∀x,wB (eh Tryz.prog) t x=(lJ (k9 p) z x).map .agg
abbrev FL (t i f:Nat) (g:Bool) (s:Nat):Prop:=(∀k o,jE (eh Tryz.prog) t i (.ptr k o)=some (.ptr k (o+f)))/\(∀c o,jE (eh Tryz.prog) t i (.db c o)=some (.db c (o+f)))/\∀c,wq (eh Tryz.prog) t (.agg c) i=mS g s c f
theorem dV {t a b:Nat} {d:TypeDesc} {z:List MV} (h:eh Tryz.prog t=some ⟨d,a,b,z⟩:=by kernel_rfl):TY t d a b z:=h
theorem jl {t a b:Nat} {d:TypeDesc} {z:List MV} {p:List (Nat×Nat)} (h:eh Tryz.prog t=some ⟨d,a,b,z⟩:=by kernel_rfl) (h1:eL d=true:=by kernel_rfl) (h2:∀x,wB (eh Tryz.prog) t x=(lJ (k9 p) z x).map .agg:=by intro x;kernel_rfl):TS t d a b z p:=⟨h,h1,h2⟩
theorem bD {t i f s:Nat} {g:Bool} (h:∀k o,jE (eh Tryz.prog) t i (.ptr k o)=some (.ptr k (o+f)):=by intro k o;kernel_rfl) (h1:∀c o,jE (eh Tryz.prog) t i (.db c o)=some (.db c (o+f)):=by intro c o;kernel_rfl) (h2:∀c,wq (eh Tryz.prog) t (.agg c) i=mS g s c f:=by intro c;kernel_rfl):FL t i f g s:=⟨h,h1,h2⟩
theorem T2:TY 2 (.int .i64) 1 8 [.v (.int .i64 0)]:=dV
theorem T3:TY 3 (.int .i64) 1 8 [.v (.int .i64 0)]:=dV
theorem T4:TY 4 .bool 1 1 [.v (.bool false)]:=dV
theorem T5:TY 5 (.int .u8) 1 1 [.v (.int .u8 0)]:=dV
theorem T9:TY 9 .string 1 16 [.str []]:=dV
theorem P9:TY 21 (.int .i32) 1 4 [.v (.int .i32 0)]:=dV
theorem xh:TY 22 (.slice 35) 1 24 [.sl 0 [] .nil]:=dV
theorem T26:TY 26 (.slice 4) 1 24 [.sl 0 [] .nil]:=dV
theorem ZP:TY 28 (.slice 3) 1 24 [.sl 0 [] .nil]:=dV
theorem ZQ:TS 30 Tryz.t29.desc 4 64 [.str [],.str [],.str [],.str []] [(0,1),(1,1),(2,1),(3,1)]/\FL 30 0 0 false 1/\FL 30 1 1 false 1/\FL 30 2 2 false 1/\FL 30 3 3 false 1:=⟨jl,bD,bD,bD,bD⟩
theorem T31:TY 31 (.slice 221) 1 24 [.sl 0 [] .nil]:=dV
theorem T33:TS 33 Tryz.t32.desc 3 48 [.v (.bool false),.str [],.sl 0 [] .nil] [(0,1),(1,1),(2,1)]/\FL 33 0 0 false 1/\FL 33 1 1 false 1/\FL 33 2 2 false 1:=⟨jl,bD,bD,bD⟩
theorem T35:TS 35 Tryz.t34.desc 13 168 [.v (.int .i64 0),.v (.int .i64 0),.v (.int .i64 0),.str [],.str [],.str [],.str [],.str [],.v (.bool false),.str [],.sl 0 [] .nil,.v (.int .i64 0),.v (.bool false)] [(0,1),(1,1),(2,1),(3,4),(7,1),(8,3),(11,1),(12,1)]/\FL 35 0 0 false 1/\FL 35 1 1 false 1/\FL 35 2 2 false 1/\FL 35 3 3 true 4/\FL 35 4 7 false 1/\FL 35 5 8 true 3/\FL 35 6 11 false 1/\FL 35 7 12 false 1:=⟨jl,bD,bD,bD,bD,bD,bD,bD,bD⟩
theorem Vz:TY 36 (.slice 39) 1 24 [.sl 0 [] .nil]:=dV
theorem VA:TS 39 Tryz.t38.desc 7 96 [.str [],.str [],.str [],.str [],.v (.int .i64 0),.str [],.v (.int .i64 0)] [(0,4),(4,1),(5,1),(6,1)]/\FL 39 0 0 true 4/\FL 39 1 4 false 1/\FL 39 2 5 false 1/\FL 39 3 6 false 1:=⟨jl,bD,bD,bD,bD⟩
theorem T48:TY 48 (.slice 50) 1 24 [.sl 0 [] .nil]:=dV
theorem T50:TS 50 Tryz.t49.desc 5 80 [.str [],.str [],.str [],.str [],.str []] [(0,4),(4,1)]/\FL 50 0 0 true 4/\FL 50 1 4 false 1:=⟨jl,bD,bD⟩
theorem xi:TY 51 (.slice 9) 1 24 [.sl 0 [] .nil]:=dV
theorem T58:TY 58 (.pointer 102) 1 8 [.v (.pointer none)]:=dV
theorem Ev:TY 61 (.slice 140) 1 24 [.sl 0 [] .nil]:=dV
theorem Bo:TS 63 Tryz.t62.desc 8 120 [.str [],.str [],.str [],.str [],.str [],.v (.int .i64 0),.v (.int .i64 0),.sl 0 [] .nil] [(0,1),(1,1),(2,1),(3,1),(4,1),(5,1),(6,1),(7,1)]/\FL 63 0 0 false 1/\FL 63 1 1 false 1/\FL 63 2 2 false 1/\FL 63 3 3 false 1/\FL 63 4 4 false 1/\FL 63 5 5 false 1/\FL 63 6 6 false 1/\FL 63 7 7 false 1:=⟨jl,bD,bD,bD,bD,bD,bD,bD,bD⟩
theorem T65:TY 65 (.int .i64) 1 8 [.v (.int .i64 0)]:=dV
theorem Bp:TS 67 Tryz.t66.desc 3 48 [.str [],.str [],.str []] [(0,1),(1,1),(2,1)]/\FL 67 0 0 false 1/\FL 67 1 1 false 1/\FL 67 2 2 false 1:=⟨jl,bD,bD,bD⟩
theorem T69:TS 69 Tryz.t68.desc 3 24 [.v (.int .i64 0),.v (.int .i64 0),.v (.int .i64 0)] [(0,1),(1,1),(2,1)]/\FL 69 0 0 false 1/\FL 69 1 1 false 1/\FL 69 2 2 false 1:=⟨jl,bD,bD,bD⟩
theorem T71:TS 71 Tryz.t70.desc 8 96 [.v (.int .i64 0),.str [],.str [],.str [],.v (.int .i64 0),.v (.int .i64 0),.v (.int .i64 0),.str []] [(0,1),(1,3),(4,3),(7,1)]/\FL 71 0 0 false 1/\FL 71 1 1 true 3/\FL 71 2 4 true 3/\FL 71 3 7 false 1:=⟨jl,bD,bD,bD,bD⟩
theorem T75:TY 75 (.map 30 3) 1 8 [.v (.map none)]:=dV
theorem T77:TS 77 Tryz.t76.desc 4 80 [.sl 0 [] .nil,.sl 0 [] .nil,.sl 0 [] .nil,.v (.map none)] [(0,1),(1,1),(2,1),(3,1)]/\FL 77 0 0 false 1/\FL 77 1 1 false 1/\FL 77 2 2 false 1/\FL 77 3 3 false 1:=⟨jl,bD,bD,bD,bD⟩
theorem T78:TY 78 (.pointer 77) 1 8 [.v (.pointer none)]:=dV
theorem T89:TY 89 (.map 3 39) 1 8 [.v (.map none)]:=dV
theorem T91:TY 91 Tryz.t91.desc 1 8 [.v .nilFunc]:=dV
theorem T93:TY 93 Tryz.t93.desc 1 8 [.v .nilFunc]:=dV
theorem T94:TY 94 (.map 67 126) 1 8 [.v (.map none)]:=dV
theorem T95:TY 95 (.map 140 51) 1 8 [.v (.map none)]:=dV
theorem aeY:TS 100 Tryz.t99.desc 1 8 [.v (.int .i64 0)] [(0,0),(0,0),(0,1)]/\FL 100 2 0 false 1:=⟨jl,bD⟩
theorem SB:TS 102 Tryz.t101.desc 4 32 [.v (.map none),.v (.map none),.v (.int .i64 0),.v (.int .i64 0)] [(0,1),(1,1),(2,1),(3,1)]/\FL 102 0 0 false 1/\FL 102 1 1 false 1/\FL 102 2 2 true 1/\FL 102 3 3 true 1:=⟨jl,bD,bD,bD,bD⟩
theorem u_:TY 103 (.slice 63) 1 24 [.sl 0 [] .nil]:=dV
theorem Ac:TY 104 (.slice 160) 1 24 [.sl 0 [] .nil]:=dV
theorem LS:TS 106 Tryz.t105.desc 11 192 [.v (.bool false),.str [],.str [],.str [],.str [],.str [],.str [],.str [],.sl 0 [] .nil,.sl 0 [] .nil,.sl 0 [] .nil] [(0,1),(1,3),(4,1),(5,1),(6,1),(7,1),(8,1),(9,1),(10,1)]/\FL 106 0 0 false 1/\FL 106 1 1 true 3/\FL 106 2 4 false 1/\FL 106 3 5 false 1/\FL 106 4 6 false 1/\FL 106 5 7 false 1/\FL 106 6 8 false 1/\FL 106 7 9 false 1/\FL 106 8 10 false 1:=⟨jl,bD,bD,bD,bD,bD,bD,bD,bD,bD⟩
theorem aeZ:TY 109 (.slice 212) 1 24 [.sl 0 [] .nil]:=dV
theorem n7:TY 110 (.slice 112) 1 24 [.sl 0 [] .nil]:=dV
theorem tS:TS 112 Tryz.t111.desc 4 80 [.str [],.sl 0 [] .nil,.sl 0 [] .nil,.str []] [(0,1),(1,1),(2,1),(3,1)]/\FL 112 0 0 false 1/\FL 112 1 1 false 1/\FL 112 2 2 false 1/\FL 112 3 3 false 1:=⟨jl,bD,bD,bD,bD⟩
theorem aio:TY 115 (.pointer 179) 1 8 [.v (.pointer none)]:=dV
theorem ae0:TY 123 (.slice 28) 1 24 [.sl 0 [] .nil]:=dV
theorem SC:TY 126 (.pointer 138) 1 8 [.v (.pointer none)]:=dV
theorem aip:TY 128 (.int .u32) 1 4 [.v (.int .u32 0)]:=dV
theorem aiq:TS 130 Tryz.t129.desc 1 4 [.v (.int .u32 0)] [(0,0),(0,1)]/\FL 130 1 0 false 1:=⟨jl,bD⟩
theorem ZR:TS 132 Tryz.t131.desc 2 8 [.v (.int .i32 0),.v (.int .u32 0)] [(0,1),(1,1)]/\FL 132 0 0 false 1/\FL 132 1 1 false 1:=⟨jl,bD,bD⟩
theorem air:TS 134 Tryz.t133.desc 2 8 [.v (.int .i32 0),.v (.int .u32 0)] [(0,0),(0,2)]/\FL 134 1 0 true 2:=⟨jl,bD⟩
theorem ais:TS 136 Tryz.t135.desc 3 12 [.v (.int .u32 0),.v (.int .i32 0),.v (.int .u32 0)] [(0,0),(0,1),(1,2)]/\FL 136 1 0 true 1/\FL 136 2 1 true 2:=⟨jl,bD,bD⟩
theorem ae1:TS 138 Tryz.t137.desc 23 320 [.str [],.v (.int .u32 0),.v (.int .i32 0),.v (.int .u32 0),.v (.bool false),.str [],.str [],.str [],.str [],.str [],.str [],.str [],.sl 0 [] .nil,.sl 0 [] .nil,.sl 0 [] .nil,.v (.int .i64 0),.str [],.str [],.str [],.v (.int .i64 0),.v (.int .i64 0),.v (.int .i64 0),.str []] [(0,1),(1,3),(4,11),(15,8)]/\FL 138 0 0 false 1/\FL 138 1 1 true 3/\FL 138 2 4 true 11/\FL 138 3 15 true 8:=⟨jl,bD,bD,bD,bD⟩
theorem Cp:TS 140 Tryz.t139.desc 2 32 [.str [],.str []] [(0,1),(1,1)]/\FL 140 0 0 false 1/\FL 140 1 1 false 1:=⟨jl,bD,bD⟩
theorem SD:TY 142 (.pointer 145) 1 8 [.v (.pointer none)]:=dV
theorem tT:TY 143 (.slice 5) 1 24 [.sl 0 [] .nil]:=dV
theorem LU:TS 145 Tryz.t144.desc 2 32 [.v (.pointer none),.sl 0 [] .nil] [(0,1),(1,1)]/\FL 145 0 0 false 1/\FL 145 1 1 false 1:=⟨jl,bD,bD⟩
theorem ait:TY 146 Tryz.t146.desc 1 8 [.v .nilFunc]:=dV
theorem aiu:TY 148 Tryz.t147.desc 1 16 [.v .nilIface]:=dV
theorem ae2:TS 153 Tryz.t152.desc 7 88 [.v (.int .i64 0),.str [],.sl 0 [] .nil,.str [],.v (.int .i64 0),.v (.int .i64 0),.v (.int .i64 0)] [(0,1),(1,1),(2,1),(3,1),(4,3)]/\FL 153 0 0 false 1/\FL 153 1 1 false 1/\FL 153 2 2 false 1/\FL 153 3 3 false 1/\FL 153 4 4 true 3:=⟨jl,bD,bD,bD,bD,bD⟩
theorem Ew:TY 155 (.slice 153) 1 24 [.sl 0 [] .nil]:=dV
theorem Cq:TS 160 Tryz.t159.desc 2 32 [.str [],.str []] [(0,1),(1,1)]/\FL 160 0 0 false 1/\FL 160 1 1 false 1:=⟨jl,bD,bD⟩
theorem aiv:TY 162 (.pointer 166) 1 8 [.v (.pointer none)]:=dV
theorem ae3:TY 163 (.map 30 63) 1 8 [.v (.map none)]:=dV
theorem ae4:TY 164 (.slice 61) 1 24 [.sl 0 [] .nil]:=dV
theorem aiw:TS 166 Tryz.t165.desc 8 120 [.v (.pointer none),.v (.pointer none),.str [],.str [],.str [],.v (.map none),.sl 0 [] .nil,.sl 0 [] .nil] [(0,1),(1,1),(2,3),(5,1),(6,1),(7,1)]/\FL 166 0 0 false 1/\FL 166 1 1 false 1/\FL 166 2 2 true 3/\FL 166 3 5 false 1/\FL 166 4 6 false 1/\FL 166 5 7 false 1:=⟨jl,bD,bD,bD,bD,bD,bD⟩
theorem HD:TY 167 (.slice 175) 1 24 [.sl 0 [] .nil]:=dV
theorem Ex:TS 169 Tryz.t168.desc 7 136 [.str [],.str [],.str [],.str [],.sl 0 [] .nil,.sl 0 [] .nil,.sl 0 [] .nil] [(0,3),(3,1),(4,1),(5,1),(6,1)]/\FL 169 0 0 true 3/\FL 169 1 3 false 1/\FL 169 2 4 false 1/\FL 169 3 5 false 1/\FL 169 4 6 false 1:=⟨jl,bD,bD,bD,bD,bD⟩
theorem aix:TY 173 Tryz.t173.desc 1 8 [.v .nilFunc]:=dV
theorem LV:TS 175 Tryz.t174.desc 10 152 [.str [],.str [],.str [],.str [],.v (.bool false),.str [],.sl 0 [] .nil,.v (.int .i64 0),.v (.bool false),.sl 0 [] .nil] [(0,4),(4,3),(7,1),(8,1),(9,1)]/\FL 175 0 0 true 4/\FL 175 1 4 true 3/\FL 175 2 7 false 1/\FL 175 3 8 false 1/\FL 175 4 9 false 1:=⟨jl,bD,bD,bD,bD,bD⟩
theorem ae5:TY 177 (.map 67 169) 1 8 [.v (.map none)]:=dV
theorem ae6:TS 179 Tryz.t178.desc 2 16 [.v (.pointer none),.v (.map none)] [(0,1),(1,1)]/\FL 179 0 0 false 1/\FL 179 1 1 false 1:=⟨jl,bD,bD⟩
theorem aiy:TY 186 Tryz.t186.desc 1 8 [.v .nilFunc]:=dV
theorem aiz:TY 189 (.pointer 5) 1 8 [.v (.pointer none)]:=dV
theorem HE:TY 210 .unsafePointer 1 8 [.v (.pointer none)]:=dV
theorem ae7:TS 212 Tryz.t159.desc 2 32 [.str [],.str []] [(0,1),(1,1)]/\FL 212 0 0 false 1/\FL 212 1 1 false 1:=⟨jl,bD,bD⟩
theorem ae8:TS 221 Tryz.t220.desc 6 64 [.v (.bool false),.str [],.v (.bool false),.v (.bool false),.str [],.v (.bool false)] [(0,3),(3,3)]/\FL 221 0 0 true 3/\FL 221 1 3 true 3:=⟨jl,bD,bD⟩
theorem xF:TY 222 (.slice 67) 1 24 [.sl 0 [] .nil]:=dV
theorem aiA:TY 226 (.pointer 232) 1 8 [.v (.pointer none)]:=dV
theorem ae9:TY 227 (.pointer 262) 1 8 [.v (.pointer none)]:=dV
theorem aiB:TS 232 Tryz.t231.desc 17 280 [.v (.pointer none),.v (.pointer none),.str [],.str [],.str [],.v (.bool false),.str [],.str [],.str [],.str [],.str [],.str [],.str [],.sl 0 [] .nil,.sl 0 [] .nil,.sl 0 [] .nil,.sl 0 [] .nil] [(0,1),(1,1),(2,3),(5,11),(16,1)]/\FL 232 0 0 false 1/\FL 232 1 1 false 1/\FL 232 2 2 true 3/\FL 232 3 5 true 11/\FL 232 4 16 false 1:=⟨jl,bD,bD,bD,bD,bD⟩
theorem ae_:TY 256 (.slice 106) 1 24 [.sl 0 [] .nil]:=dV
theorem HF:TY 260 (.map 9 9) 1 8 [.v (.map none)]:=dV
theorem aiC:TS 262 Tryz.t261.desc 4 48 [.sl 0 [] .nil,.v (.map none),.v (.map none),.v (.int .i64 0)] [(0,1),(1,1),(2,1),(3,1)]/\FL 262 0 0 false 1/\FL 262 1 1 false 1/\FL 262 2 2 false 1/\FL 262 3 3 true 1:=⟨jl,bD,bD,bD,bD⟩
theorem afa:TY 268 (.pointer 270) 1 8 [.v (.pointer none)]:=dV
theorem aiD:TS 270 Tryz.t269.desc 2 32 [.v (.pointer none),.sl 0 [] .nil] [(0,1),(1,1)]/\FL 270 0 0 false 1/\FL 270 1 1 false 1:=⟨jl,bD,bD⟩
theorem aiE:TY 272 (.pointer 275) 1 8 [.v (.pointer none)]:=dV
theorem aiF:TY 273 (.map 30 4) 1 8 [.v (.map none)]:=dV
theorem aiG:TS 275 Tryz.t274.desc 2 32 [.sl 0 [] .nil,.v (.map none)] [(0,1),(1,1)]/\FL 275 0 0 false 1/\FL 275 1 1 false 1:=⟨jl,bD,bD⟩
theorem aiH:TY 285 (.pointer 287) 1 8 [.v (.pointer none)]:=dV
theorem aiI:TS 287 Tryz.t286.desc 1 16 [.str []] [(0,1)]/\FL 287 0 0 false 1:=⟨jl,bD⟩
theorem aiJ:TS 300 Tryz.t299.desc 2 24 [.v (.int .i64 0),.str []] [(0,1),(1,1)]/\FL 300 0 0 false 1/\FL 300 1 1 false 1:=⟨jl,bD,bD⟩
theorem aiK:TY 326 Tryz.t326.desc 1 8 [.v .nilFunc]:=dV
theorem aiL:TY 330 (.pointer 100) 1 8 [.v (.pointer none)]:=dV
theorem aiM:TY 332 (.pointer 2) 1 8 [.v (.pointer none)]:=dV
theorem aiN:TY 343 (.pointer 136) 1 8 [.v (.pointer none)]:=dV
theorem afb:TY 349 Tryz.t349.desc 1 8 [.v .nilFunc]:=dV
theorem aiO:TY 358 (.pointer 130) 1 8 [.v (.pointer none)]:=dV
theorem aiP:TY 360 (.pointer 128) 1 8 [.v (.pointer none)]:=dV
theorem aiQ:TY 364 (.pointer 367) 1 8 [.v (.pointer none)]:=dV
theorem LW:TY 365 (.slice 393) 1 24 [.sl 0 [] .nil]:=dV
theorem aiR:TS 367 Tryz.t366.desc 8 120 [.str [],.sl 0 [] .nil,.sl 0 [] .nil,.str [],.sl 0 [] .nil,.v (.int .i64 0),.v (.bool false),.v (.bool false)] [(0,4),(4,1),(5,1),(6,1),(7,1)]/\FL 367 0 0 true 4/\FL 367 1 4 false 1/\FL 367 2 5 false 1/\FL 367 3 6 false 1/\FL 367 4 7 false 1:=⟨jl,bD,bD,bD,bD,bD⟩
theorem afc:TS 371 Tryz.t370.desc 2 24 [.v (.int .i64 0),.str []] [(0,1),(1,1)]/\FL 371 0 0 false 1/\FL 371 1 1 false 1:=⟨jl,bD,bD⟩
theorem ZS:TS 373 Tryz.t372.desc 5 96 [.str [],.sl 0 [] .nil,.sl 0 [] .nil,.str [],.str []] [(0,4),(4,1)]/\FL 373 0 0 true 4/\FL 373 1 4 false 1:=⟨jl,bD,bD⟩
theorem aiS:TY 381 (.pointer 134) 1 8 [.v (.pointer none)]:=dV
theorem afd:TS 385 Tryz.t384.desc 2 16 [.v (.int .i64 0),.v (.int .i64 0)] [(0,1),(1,1)]/\FL 385 0 0 false 1/\FL 385 1 1 false 1:=⟨jl,bD,bD⟩
theorem aiT:TY 386 (.pointer 390) 1 8 [.v (.pointer none)]:=dV
theorem aiU:TS 388 Tryz.t387.desc 2 24 [.str [],.v (.int .i64 0)] [(0,1),(1,1)]/\FL 388 0 0 false 1/\FL 388 1 1 false 1:=⟨jl,bD,bD⟩
theorem aiV:TS 390 Tryz.t389.desc 3 48 [.str [],.v (.int .i64 0),.sl 0 [] .nil] [(0,2),(2,1)]/\FL 390 0 0 true 2/\FL 390 1 2 false 1:=⟨jl,bD,bD⟩
theorem LX:TY 393 (.pointer 112) 1 8 [.v (.pointer none)]:=dV
theorem ZT:TY 398 (.slice 373) 1 24 [.sl 0 [] .nil]:=dV
theorem ZU:TY 401 (.pointer 132) 1 8 [.v (.pointer none)]:=dV
theorem aiW:TY 403 (.pointer 21) 1 8 [.v (.pointer none)]:=dV
theorem aiX:TY 407 (.pointer 388) 1 8 [.v (.pointer none)]:=dV
theorem HG:TY 421 (.slice 21) 1 24 [.sl 0 [] .nil]:=dV
set_option maxRecDepth 10000
theorem c6 {α :Type} (l:List α) (j:Nat) (h:j<l.length):l.take (j+1)=l.take j++[l[j]]:=by
 rw[List.take_add_one,Km h];rfl
section
variable {α :Type} {f: α -> α} {l:List α} {j:Nat}
end
def pM (b:UInt8):Bool:=decide (48<=b.toNat)&&decide (b.toNat<=57)
def lo (b:UInt8):UInt8:=if 65<=b.toNat/\b.toNat<=90 then UInt8.ofNat (b.toNat+32)else b
theorem pN (b:UInt8) (O:VH):VF Tryz.prog 111 [fL b] O (aE fun m O'=>m=mb (pM b)/\O'=O):=by
 have sS:b.toNat<256:=b.toNat_lt;refine VF.acA aa Tryz.func111 (c:=_) rfl (Nat.le_of_ble_eq_true rfl) ?_;rw[show Tryz.f111.ntmps=9 from rfl];simp only[cx,ahY,Nat.reduceAdd];by_cases h1:48<=b.toNat
 ·by_cases h2:b.toNat<=57
  ·repeat' first
    | with_reducible (first | refine VC.seq' ?_ | refine VC.az ?_ | refine VC.skip ?_ | refine VC.label ?_ | refine VC.scope ?_ | refine VC.exit ?_ | refine VC.ret ?_ | refine VL.nil ?_)
    | (with_reducible refine gVC ?_;first | refine gp @aI ?_ | refine gr @aI ?_ | (refine gc @aI ?_ ?_<;>(intro Ey;try simp only[dcs,ne_eq,reduceCtorEq]at Ey)))
    | simp only[Yv,Nat.reduceEqDiff,reduceIte]
    | refine eR1 ?_ | refine eR2 ?_ | refine mV.Ym rfl ?_ | refine mV.Yn rfl ?_
   exact⟨by simp[pM,h1,h2,a_],by trivial⟩
  ·repeat' first
    | with_reducible (first | refine VC.seq' ?_ | refine VC.az ?_ | refine VC.skip ?_ | refine VC.label ?_ | refine VC.scope ?_ | refine VC.exit ?_ | refine VC.ret ?_ | refine VL.nil ?_)
    | (with_reducible refine gVC ?_;first | refine gp @aI ?_ | refine gr @aI ?_ | (refine gc @aI ?_ ?_<;>(intro Ey;try simp only[dcs,ne_eq,reduceCtorEq]at Ey)))
    | simp only[Yv,Nat.reduceEqDiff,reduceIte]
    | refine eR1 ?_ | refine eR2 ?_ | refine mV.Ym rfl ?_ | refine mV.Yn rfl ?_
   exact⟨by simp[pM,h2,a_],by trivial⟩
 ·repeat' first
   | with_reducible (first | refine VC.seq' ?_ | refine VC.az ?_ | refine VC.skip ?_ | refine VC.label ?_ | refine VC.scope ?_ | refine VC.exit ?_ | refine VC.ret ?_ | refine VL.nil ?_)
   | (with_reducible refine gVC ?_;first | refine gp @aI ?_ | refine gr @aI ?_ | (refine gc @aI ?_ ?_<;>(intro Ey;try simp only[dcs,ne_eq,reduceCtorEq]at Ey)))
   | simp only[Yv,Nat.reduceEqDiff,reduceIte]
   | refine eR1 ?_ | refine eR2 ?_ | refine mV.Ym rfl ?_ | refine mV.Yn rfl ?_
  exact⟨by simp[pM,h1,a_],by trivial⟩
section
variable {tab:bY} {t:TypeId} {a b:List UInt8}
end
def ag6 (s:List UInt8) (nb:Bool):List UInt8:=
 if s==[103,97]||(s==[102,105,110,97,108]||s==[114,101,108,101,97,115,101])then[]
 else if s==[99,114]then[114,99]
 else if nb&&s==[97]then[97,108,112,104,97]
 else if nb&&s==[98]then[98,101,116,97]
 else if nb&&s==[109]then[109,105,108,101,115,116,111,110,101]
 else s
section
variable {tab:bY} {t:TypeId} {l:List UInt8} {s c:Nat} {z:List MV}
end
def LY (b:UInt8):Bool:=b==46||b==45
abbrev Piece:=List UInt8×Bool×Bool
abbrev ZV:=Bool×Bool×List UInt8
set_option linter.defProp false in
def Ad:=yP T9<|yP T3<|yP T4<|yP T5<|yP tT<|yP SD<|yP LU<|yP aiu HE
structure fX (O:VH) (B b:Nat) (q:Option Nat) (s:List UInt8):Prop where
 cell:∃p buf,O.hp b=some (.cells [p,buf])/\(p= .v (.pointer none)\/p= .ptr b 0)/\GR O 5 1 B buf s.length (s.map fL)/\gid buf=q/\buf≠ .sl 0 [] .full
 ne:q≠some b
 nG:∃j,B<=j/\j<O.next/\O.hp j=some (.shape b 145 2)
 lo:B<=b
 hi:b<O.next
 nz:s=[]->q=none
structure fm (O:VH) (b:Nat) (q:Option Nat) (O':VH) (q':Option Nat):Prop where
 next:O.next<=O'.next
 hp:∀i,i<O.next->i≠b->q≠some i->O'.hp i=O.hp i
 new:∀i,i<O.next->q≠some i->q'≠some i
theorem fX.SE {O:VH} {B b:Nat} {q:Option Nat} {s:List UInt8} (h:fX O B b q s):∀i,O.next<=i->q≠some i:=by
 intro i hi e;obtain⟨p,buf,_,_,hg,hq,_⟩:=h.cell;rcases hg with⟨_,_,rfl | rfl⟩ | ⟨k,c,rfl,_,_,hr⟩
 ·rw[<-hq]at e;cases e
 ·rw[<-hq]at e;cases e
 ·rw[<-hq]at e;injection e with e;have:=hr.hi;omega
theorem fX.xG {O:VH} {B b:Nat} {q:Option Nat} {s:List UInt8} (h:fX O B b q s):∀i,q=some i->B<=i:=by
 intro i e;obtain⟨p,buf,_,_,hg,hq,_⟩:=h.cell;rcases hg with⟨_,_,rfl | rfl⟩ | ⟨k,c,rfl,_,_,hr⟩
 ·rw[<-hq]at e;cases e
 ·rw[<-hq]at e;cases e
 ·rw[<-hq]at e;injection e with e;rw[<-e];exact hr.lo
theorem fm.ge {O0 O O':VH} {b:Nat} {q q':Option Nat} (h:O0.Ge O) (u:fm O b q O' q') (hb:O0.next<=b) (hq:∀i,q=some i->O0.next<=i):O0.Ge O':=
 ⟨ahZ h.next u.next,fun i hi=>(u.hp i (XN hi h.next) (by omega) (fun e=>by have:=hq i e;omega)).trans (h.hp i hi)⟩
theorem fX.pI {O O':VH} {B b:Nat} {q:Option Nat} {s:List UInt8} (h:fX O B b q s) (hn:O.next<=O'.next) (hb:O'.hp b=O.hp b) (hq:∀i,q=some i->O'.hp i=O.hp i) (hs:∀j k t n,O.hp j=some (.shape k t n)->j<O.next->O'.hp j=O.hp j):fX O' B b q s:=by
 obtain⟨p,buf,h1,h2,h3,h4,h5⟩:=h.cell;obtain⟨j,j1,j2,j3⟩:=h.nG;refine⟨⟨p,buf,hb.trans h1,h2,?_,h4,h5⟩,h.ne,⟨j,j1,by omega,(hs j _ _ _ j3 j2).trans j3⟩,h.lo,by have:=h.hi;omega,h.nz⟩;rcases h3 with h3 | ⟨k,c,rfl,g1,g2,g3⟩
 ·exact .inl h3
 ·refine .inr ⟨k,c,rfl,g1,g2,?_⟩;obtain⟨sp,r1,r2⟩:=g3.cells;obtain⟨i,i1,i2,i3⟩:=g3.nG;exact⟨⟨sp,(hq k h4.symm).trans r1,r2⟩,⟨i,i1,by omega,(hs i _ _ _ i3 i2).trans i3⟩,g3.lo,by have:=g3.hi;omega⟩
theorem fX.yz {O O':VH} {B b:Nat} {q:Option Nat} {s:List UInt8} (h:fX O B b q s) (u:br O none O'):fX O' B b q s:=
 h.pI u.next (u.hp b h.hi (by simp)) (fun i hi=>u.hp i (by
  rcases alG i O.next with h' | h'
  ·exact h'
  ·exact absurd hi (h.SE i h')) (by simp)) fun j _ _ _ _ hl=>u.hp j hl (by simp)
theorem fX.set {O:VH} {B b i:Nat} {q:Option Nat} {s:List UInt8} {cs:List MV} {x:cf} (h:fX O B b q s) (hi:O.hp i=some (.cells cs)) (hb:i≠b) (hq:q≠some i):fX (O.set i x) B b q s:=
 h.pI (ags _) (VH.ak _ _ (Ne.symm hb)) (fun k hk=>VH.ak _ _ (fun e=>hq (by rw[hk,e]))) fun j _ _ _ hj _=>VH.ak _ _ (fun e=>by rw[e,hi]at hj;cases hj)
theorem fX.fresh (O:VH) {B:Nat} (hB:B<=O.next):fX ((O.push (.cells [.v (.pointer none),.sl 0 [] .nil])).push (.shape O.next 145 2)) B O.next none []:=
 ⟨⟨_,_,(VH.bA _ _ (by show O.next<O.next+1;omega)).trans (VH.aW _ _),.inl rfl,.inl ⟨rfl,rfl,.inl rfl⟩,rfl,by simp⟩,by simp,⟨O.next+1,by omega,by show O.next+1<O.next+1+1;omega,VH.aW _ _⟩,hB,by show O.next<O.next+1+1;omega,fun _=>rfl⟩
theorem LZ (k o:Nat) (O:VH):eH Tryz.prog 113 [.ptr k o] O fun m O'=>m= .ptr k o/\O'=O:=by
 refine eH.of (ex:=Extern.AbiNoEscape.same) Tryz.func113 (by kernel_rfl) (by kernel_rfl) (by kernel_rfl) (by kernel_rfl) fun G w vs hw hv=>?_
 obtain⟨u,us,rfl,h1,h2⟩:=hv.cD;rw[h2.fF];exact⟨u,Lib.run_noEscape w u,h1⟩
theorem Ae {O:VH} {B b:Nat} {q:Option Nat} {s:List UInt8} (h:fX O B b q s):VF Tryz.prog 85 [.ptr b 0] O (aE fun m O'=>fX O' B b q s/\fm O b q O' q):=by
 obtain⟨p,buf,h1,h2,h3,h4,h5⟩:=h.cell;obtain⟨j,j1,j2,j3⟩:=h.nG;have hb:=h.hi;refine VF.dy 20 [] Tryz.func85 ?_;rcases h2 with rfl | rfl
 ·refine ao @Ad @h1 ?_;refine VL.toU aa (.inl rfl) (el:=145) (by rw[SD];rfl) (by rw[HE];rfl) LU.1.1 (by decide) j3 (by decide) rfl rfl rfl ?_;refine I_ ?_;refine ah.ext (LZ b 0 O) rfl ?_;rintro _ O2 ⟨rfl,rfl⟩;refine I_ ?_;refine VL.agH aa (.inl rfl) (el:=145) (by rw[HE];rfl) (by rw[SD];rfl) LU.1.1 j3 (by kernel_rfl) rfl rfl rfl ?_;refine ao @Ad @h1 ?_;refine⟨⟨⟨_,buf,VH.an _ _ _,.inr rfl,h3.pI br.set (by rw[h4];exact h.ne) (fun k t n=>by rw[h1];simp),h4,h5⟩,h.ne,⟨j,j1,j2,?_⟩,h.lo,h.hi,h.nz⟩,⟨ags _,fun i _ hi _=>VH.ak _ _ hi,fun _ _ h=>h⟩⟩;rw[VH.ak _ _ (fun e=>by rw[e,h1]at j3;cases j3)];exact j3
 ·simp(disch:=first | omega | (simp only[ds]<;>omega) | fail) only[wk,wu,sP,aj,cG,Nat.reduceLT,Nat.reduceAdd,Nat.reduceMul,Nat.reduceSub,Nat.reduceBEq,Nat.reduceEqDiff,Int.reduceToNat,reduceIte,Ad,h1,Lt (op:=.neq) SD (s:=1) LU.1.1];exact⟨h,⟨ags _,fun _ _ _ _=>rfl,fun _ _ h=>h⟩⟩
theorem fX.grown {O O':VH} {B b:Nat} {q:Option Nat} {s:List UInt8} {p buf m:MV} {n' z:Nat} {L:List UInt8} (h:fX O B b q s) (h1:O.hp b=some (.cells [p,buf])) (h2:p= .v (.pointer none)\/p= .ptr b 0) (h4:gid buf=q) (hg:GR O' 5 1 B m n' (L.map fL)) (hn:n'=L.length) (hu:br O (gid buf) O') (qJ:(∃k c,m= .bq k 0 n' c/\(gid buf=some k\/(O.next<=k/\z≠0)))\/m=buf) (hf:buf≠ .sl 0 [] .full) (hz:L=[]->z=0/\s=[]):
  fX (O'.set b (.cells [p,m])) B b (gid m) L/\fm O b q (O'.set b (.cells [p,m])) (gid m):=by
 subst hn;obtain⟨j,j1,j2,j3⟩:=h.nG;have hb:=h.hi
 have hm:m≠ .sl 0 [] .full:=by
  rcases qJ with⟨k,c,rfl,_⟩ | rfl
  ·simp
  ·exact hf
 have rj:∀i,i<O.next->q≠some i->gid m≠some i:=fun i hi hq=>by
  rcases qJ with⟨k,c,rfl,hk⟩ | rfl
  ·rcases hk with hk | hk
   ·rw[<-h4,hk]at hq;exact hq
   ·intro e;injection e with e;have:=hk.1;omega
  ·rw[h4];exact hq
 have hne:gid m≠some b:=rj b hb h.ne;have hOb:O'.hp b=some (.cells [p,buf]):=(hu.hp b hb (by rw[h4];exact h.ne)).trans h1
 have hqs:∀i k t n,O.hp i=some (.shape k t n)->i<O.next->O'.hp i=O.hp i:=fun i k t n hi hl=>hu.hp i hl fun e=>by
  obtain⟨p',ak0,g1,g2,g3,g4,g5⟩:=h.cell;rw[h1]at g1;injection g1 with g1;injection g1 with g1;injection g1 with e1 e2;injection e2 with e2;subst e2
  rcases g3 with⟨_,_,rfl | rfl⟩ | ⟨k2,c2,rfl,_,_,hr⟩
  ·cases e
  ·cases e
  ·injection e with e;subst e;obtain⟨sp,r1,_⟩:=hr.cells;rw[r1]at hi;cases hi
 refine⟨⟨⟨p,m,VH.an _ _ _,h2,hg.pI br.set hne (fun k t n=>by rw[hOb];simp),rfl,hm⟩,hne,⟨j,j1,XN j2 hu.next,?_⟩,h.lo,XN hb hu.next,fun hL=>?_⟩,⟨hu.next,fun i hi P_ hq=>(VH.ak _ _ P_).trans (hu.hp i hi (by rw[h4];exact hq)),rj⟩⟩
 ·rw[VH.ak _ _ (fun e=>by rw[e,h1]at j3;cases j3)];exact(hqs j _ _ _ j3 j2).trans j3
 ·obtain⟨z0,s0⟩:=hz hL;have hq:=h.nz s0;rw[hq]at h4;rcases qJ with⟨k,c,rfl,hk⟩ | rfl
  ·rcases hk with hk | hk
   ·rw[h4]at hk;cases hk
   ·exact absurd z0 hk.2
  ·exact h4
theorem sT {O:VH} {B b:Nat} {q:Option Nat} {s:List UInt8} (c:UInt8) (h:fX O B b q s) (hl:s.length+1<=140737488355328):VF Tryz.prog 86 [.ptr b 0,fL c] O (aE fun m O'=>m= .v .nilIface/\∃q',fX O' B b q' (s++[c])/\fm O b q O' q'):=by
 refine VF.dy 17 [.tmp 4] Tryz.func86 ?_;refine ae @Ad ?_;refine ah.rt (Ae h) ?_;rintro _ O1 ⟨h',u'⟩;obtain⟨p,buf,h1,h2,h3,h4,h5⟩:=h'.cell;have hb:=h'.hi;refine aJ @Ad @h1 @aI ?_;refine VL.grow aa (.inl rfl) (te:=⟨.int .u8,1,1,[.v (.int .u8 0)]⟩) (dx:=.slice 5) (q:=.sl 1 [fL c] .full) (j:=1) (ds:=[fL c]) h3 rfl rfl (by rw[tT];rfl) T5 (by rw[tT];rfl) trivial (by dsimp only;omega) (by simp only[maxLen];omega) (by have:=h'.lo;omega) rfl rfl rfl rfl ?_;intro m O2 hg hu _ qJ;have hg':GR O2 5 1 B m (s.length+1) ((s++[c]).map fL):=by rw[ah3];exact hg
 have hr:=h'.grown h1 h2 h4 hg' (by simp) hu (qJ.imp_right (·.2.1)) h5 (by simp);have hO:O2.hp b=some (.cells [p,buf]):=(hu.hp b hb (by rw[h4];exact h'.ne)).trans h1
 have il:dJ m=[m]/\dK m=true:=by
  rcases qJ with⟨k,cp,rfl,_⟩ | ⟨hj,_⟩
  ·exact⟨rfl,rfl⟩
  ·cases hj
 have dd:=pJ (O:=O2) (k:=b) (off:=1) (u:=.slice 5) (b:=24) (z:=[.sl 0 [] .nil]) (cs:=[p,buf]) il.1 il.2 (by simp);refine aJ @Ad @hO @dd ?_;exact⟨_,hr.1,⟨ahZ u'.next hr.2.next,fun i hi P_ hq=>(hr.2.hp i (XN hi u'.next) P_ hq).trans (u'.hp i hi P_ hq),fun i hi hq=>hr.2.new i (XN hi u'.next) hq⟩⟩
theorem bQ {O:VH} {B b:Nat} {q:Option Nat} {s:List UInt8} (l:List UInt8) (h:fX O B b q s) (hl:s.length+l.length<=140737488355328):VF Tryz.prog 65 [.ptr b 0,.str l] O (aE fun m O'=>m= .tuple [mi l.length,.v .nilIface]/\∃q',fX O' B b q' (s++l)/\fm O b q O' q'):=by
 refine VF.dy 19 [.tmp 4,.tmp 5] Tryz.func65 ?_;refine ae @Ad ?_;refine ah.rt (Ae h) ?_;rintro _ O1 ⟨h',u'⟩;obtain⟨p,buf,h1,h2,h3,h4,h5⟩:=h'.cell;have hb:=h'.hi;refine ao @Ad @h1 ?_;refine VL.grow aa (.inl rfl) (te:=⟨.int .u8,1,1,[.v (.int .u8 0)]⟩) (dx:=.string) (q:=.str l) (j:=l.length) (ds:=l.map fL) h3 rfl (by rw[List.all_map];exact agx.2 fun _ _=>rfl) (by rw[tT];rfl) T5 (by rw[T9];rfl) trivial (by dsimp only;omega) (by simp only[maxLen];omega) (by have:=h'.lo;omega) rfl rfl rfl rfl ?_;intro m O2 hg hu _ qJ;have hg':GR O2 5 1 B m (s.length+l.length) ((s++l).map fL):=by rw[ah3];exact hg
 have hr:=h'.grown h1 h2 h4 hg' (by simp) hu (qJ.imp_right (·.2.1)) h5 (by simp[and_comm]);have hO:O2.hp b=some (.cells [p,buf]):=(hu.hp b hb (by rw[h4];exact h'.ne)).trans h1
 have il:dJ m=[m]/\dK m=true:=by
  rcases qJ with⟨k,cp,rfl,_⟩ | ⟨_,rfl,_⟩
  ·exact⟨rfl,rfl⟩
  ·rcases h3 with⟨_,_,rfl | rfl⟩ | ⟨k,c,rfl,_⟩<;>exact⟨rfl,rfl⟩
 have dd:=pJ (O:=O2) (k:=b) (off:=1) (u:=.slice 5) (b:=24) (z:=[.sl 0 [] .nil]) (cs:=[p,buf]) il.1 il.2 (by simp);refine aJ @Ad @hO @dd ?_;exact⟨_,hr.1,⟨ahZ u'.next hr.2.next,fun i hi P_ hq=>(hr.2.hp i (XN hi u'.next) P_ hq).trans (u'.hp i hi P_ hq),fun i hi hq=>hr.2.new i (XN hi u'.next) hq⟩⟩
theorem pO {O:VH} {B b:Nat} {q:Option Nat} {s:List UInt8} (h:fX O B b q s) (hm:s.length<=maxLen):VF Tryz.prog 68 [.ptr b 0] O (aE fun m O'=>m= .str s/\br O q O'):=by
 obtain⟨p,buf,h1,h2,h3,h4,h5⟩:=h.cell;have hb:=h.hi;refine VF.dy 14 [.tmp 2] Tryz.func68 ?_;refine I_ ?_;refine WC.bO (.held [10,11]) [(0,.rd),(1,.rd),(2,.rd),(3,.rd),(4,.rd),(5,.rd),(6,.rd),(7,.rd),(8,.rd),(9,.rd),(10,.one),(11,.rd)] ?_;have hO:O.hp b=some (.cells [p,buf]):=h1;rcases h3 with⟨e1,e2,rfl | rfl⟩ | ⟨k,c,rfl,g1,g2,g3⟩
 ·have hs:s=[]:=RZ e1;subst hs;simp(disch:=first | omega | (simp only[ds]<;>omega) | fail) only[wk,wu,sP,aj,cG,Nat.reduceLT,Nat.reduceAdd,Nat.reduceMul,Nat.reduceSub,Nat.reduceBEq,Nat.reduceEqDiff,Int.reduceToNat,reduceIte,Ad,h1,wE];refine VL.agG aa (by kernel_rfl) rfl rfl rfl rfl ?_;refine ae @Ad ?_;exact br.refl _ _
 ·exact absurd rfl h5
 ·have hs:s≠[]:=fun e=>by have:=h.nz e;rw[<-h4]at this;cases this
  have hc:c≠0:=fun e=>hs (RZ (by omega))
  have oB:s.length<=maxLen:=hm;simp(disch:=first | omega | (simp only[ds]<;>omega) | fail) only[wk,wu,sP,aj,cG,Nat.reduceLT,Nat.reduceAdd,Nat.reduceMul,Nat.reduceSub,Nat.reduceBEq,Nat.reduceEqDiff,Int.reduceToNat,reduceIte,Ad,h1,wE,hc];refine VL.aid aa (by kernel_rfl) (el:=5) (by rw[aiz];rfl) (by kernel_rfl) g3 hs oB rfl rfl rfl rfl ?_;refine ae @Ad ?_;exact h4▸br.kill
set_option linter.defProp false in
def rX:=yP T9<|yP T3<|yP T4<|yP T5 tT
theorem Ez (s:List UInt8) (c:UInt8):(0<=Lib.indexByte s c) ↔ c∈s:=by
 induction s with
 | nil=>simp[Lib.indexByte]
 | cons b l ih=>
   have iy:=Lib.indexByte_ge l c;unfold Lib.indexByte;by_cases hb:b=c
   ·subst hb;simp
   ·have:(b==c)=false:=by simpa using hb
    rw[this];simp only[acv,if_false,List.mem_cons];by_cases h1:Lib.indexByte l c= -1
    ·rw[h1]at ih ⊢;simp only[beq_self_eq_true,if_true];constructor
     ·intro h;omega
     ·rintro(h | h)
      ·exact absurd h.symm hb
      ·have:=ih.2 h;omega
    ·have:(Lib.indexByte l c== -1)=false:=by simpa using h1
     rw[this];simp only[acv,if_false];constructor
     ·intro _;exact .inr (ih.1 (by omega))
     ·rintro(h | h)
      ·exact absurd h.symm hb
      ·have:=ih.2 h;omega
theorem yB (s:List UInt8) (c:UInt8) (O:VH):eH Tryz.prog 169 [.str s,fL c] O fun m O'=>m=mi (Lib.indexByte s c)/\O'=O:=by
 refine eH.of (ex:=Extern.BytealgIndexByte.indexByte) Tryz.func169 (by kernel_rfl) (by kernel_rfl) (by kernel_rfl) (by kernel_rfl) fun G w vs hw hv=>?_
 obtain⟨u,us,rfl,h1,h2⟩:=hv.cD;obtain⟨u2,Qa,rfl,h3,h4⟩:=h2.cD;rw[h4.fF];cases h1;have:=h3.iP;subst this;refine⟨_,Lib.run_indexByteString _ _ w,?_⟩;have e:((c.toNat:Int).toNat).toUInt8=c:=by simp
 rw[e];exact .v rfl
theorem Ja (s:List UInt8) (c:UInt8) (O:VH):VF Tryz.prog 139 [.str s,fL c] O (aE fun m O'=>m=mi (Lib.indexByte s c)/\O'=O):=by
 refine VF.dy 8 [.tmp 4] Tryz.func139 ?_;refine I_ ?_;refine ah.ext (yB s c O) rfl ?_;rintro _ O2 ⟨rfl,rfl⟩;exact I_ trivial
theorem VB (s:List UInt8) (c:UInt8) (O:VH):VF Tryz.prog 108 [.str s,.str [c]] O (aE fun m O'=>∃n:Int,m=mi n/\(0<=n ↔ c∈s)/\O'=O):=by
 refine VF.dy 143 [.tmp 4] Tryz.func108 ?_;cases h:([c]:List UInt8)==s
 ·refine c_ @rX @h @agw.{0} @ah0.{0} ?_;refine ah.rt (Ja s c O) ?_;rintro _ O2 ⟨rfl,rfl⟩;refine ae @rX ?_;exact⟨_,rfl,Ez s c⟩
 ·refine c_ @rX @h @agw.{0} @ah0.{0} ?_;have:s=[c]:=by have:=beq_iff_eq.1 h;exact this.symm
  exact⟨0,rfl,by rw[this];simp⟩
theorem Jb (s:List UInt8) (c:UInt8) (O:VH):VF Tryz.prog 81 [.str s,.str [c]] O (aE fun m O'=>∃n:Int,m=mi n/\(0<=n ↔ c∈s)/\O'=O):=by
 refine VF.dy 8 [.tmp 4] Tryz.func81 ?_;refine I_ ?_;refine ah.rt (VB s c O) ?_;rintro _ O2 ⟨n,rfl,h,rfl⟩;refine I_ ?_;exact⟨n,rfl,h⟩
theorem Af (s:List UInt8) (c:UInt8) (O:VH):VF Tryz.prog 112 [.str s,.str [c]] O (aE fun m O'=>m=mb (s.contains c)/\O'=O):=by
 refine VF.dy 9 [.tmp 4] Tryz.func112 ?_;refine I_ ?_;refine ah.rt (Jb s c O) ?_;rintro _ O2 ⟨n,rfl,h,rfl⟩;refine I_ ?_
 have:s.contains c=decide (n>=0):=by
  rw[Bool.eq_iff_iff,List.contains_iff_mem,decide_eq_true_iff];exact h.symm
 rw[this]
def Qb (c:UInt8):Bool:=decide ((97<=c.toNat/\c.toNat<=122)\/(65<=c.toNat/\c.toNat<=90)\/(48<=c.toNat/\c.toNat<=57)\/c.toNat=46\/c.toNat=45\/c.toNat=95\/c.toNat=43)
def va (s:List UInt8):Bool:=s.all Qb&&(decide (1<=s.length)&&decide (s.length<=64))
theorem Qc (c:UInt8):((97<=c.toNat/\c.toNat<=122)\/(65<=c.toNat/\c.toNat<=90)\/(48<=c.toNat/\c.toNat<=57)\/c.toNat=46\/c.toNat=45\/c.toNat=95\/c.toNat=43)\/((123<=c.toNat)\/(91<=c.toNat/\c.toNat<=96/\c.toNat≠95)\/(58<=c.toNat/\c.toNat<=64)\/(c.toNat<=47/\c.toNat≠43/\c.toNat≠45/\c.toNat≠46)):=by omega
theorem Qd (s:List UInt8) (O:VH) (hs:s.length<=maxLen):VF Tryz.prog 84 [.str s] O (aE fun m O'=>m=mb (va s)/\O.Ge O'):=by
 have hm:(s.length:Int)<=9223372036854775807:=by simp[maxLen]at hs;omega
 have rY:=VH.aW O (.cells (s.map fL));have Ag:=(VH.Ge.refl O).push (.cells (s.map fL));refine VF.dy 50 [.tmp 2] Tryz.func84 ?_;refine ae @rX ?_;refine VL.bytes aa (el:=5) (l:=s) rfl rfl (by rw[T9];rfl) (by rw[tT];rfl) (by rw[T5];rfl) hs rfl fun cap h1 h2=>WL.sound aa ?_
 refine ae @rX ?_;refine WC.iS [9] [0,7,8] (fun j:Nat=>[mi j]) (fun j O'=>(O.push (.cells (s.map fL))).Ge O'/\j<=s.length/\(s.take j).all Qb=true) (fun j=>s.length - j) (0) ?_ ?_
 ·exact⟨VH.Ge.refl _,alR _,rfl⟩
 rintro j O2 ⟨oU,hj,kC⟩;have xj:=(oU.hp O.next (Nat.lt_succ_self _)).trans rY;by_cases h2:j<s.length
 ·have hc:=Qc s[j];have qy:=Km h2;have cK:Qb s[j]=decide ((97<=s[j].toNat/\s[j].toNat<=122)\/(65<=s[j].toNat/\s[j].toNat<=90)\/(48<=s[j].toNat/\s[j].toNat<=57)\/s[j].toNat=46\/s[j].toNat=45\/s[j].toNat=95\/s[j].toNat=43):=rfl;have jm:(s.take (j+1)).all Qb=Qb s[j]:=by rw[c6 _ _ h2,List.all_append,kC];simp
  generalize hx:s[j]=c at*;have hD:pM c=decide (48<=c.toNat/\c.toNat<=57):=by unfold pM;rw[Bool.decide_and]
  have hC:([46,45,95,43]:List UInt8).contains c=decide (c.toNat=46\/c.toNat=45\/c.toNat=95\/c.toNat=43):=by
   rw[Bool.eq_iff_iff,List.contains_iff_mem,decide_eq_true_iff];simp only[List.mem_cons,List.not_mem_nil,or_false, <-UInt8.toNat_inj];rfl
  rcases hc with hc | hc
  ·have h1:Qb c=true:=by rw[cK];exact decide_eq_true hc
   rw[h1]at jm;rcases hc with hc | hc | hc | hc | hc | hc | hc
   ·refine c_ @rX @qy @xj @aI ?_;refine ax.next (j+1) ?_;exact⟨oU,by omega,jm⟩
   ·refine c_ @rX @qy @xj @aI ?_;refine ax.next (j+1) ?_;exact⟨oU,by omega,jm⟩
   ·rw[decide_eq_true (by omega)]at hD;refine c_ @rX @qy @xj @aI ?_;refine ah.rt (pN c _) ?_;rintro _ O3 ⟨rfl,rfl⟩;rw[hD];refine ae @rX ?_;refine ax.next (j+1) ?_;exact⟨oU,by omega,jm⟩
   all_goals
    rw[decide_eq_false (by omega)]at hD;rw[decide_eq_true (by omega)]at hC;refine c_ @rX @qy @xj @aI ?_;refine ah.rt (pN c _) ?_;rintro _ O3 ⟨rfl,rfl⟩;rw[hD];refine ae @rX ?_;refine VL.Yw aa (el:=5) (l:=[c]) rfl rfl (by rw[tT];rfl) (by rw[T9];rfl) (by rw[T5];rfl) rfl rfl rfl (WL.sound aa ?_);refine ae @rX ?_;refine ah.rt (Af [46,45,95,43] c _) ?_;rintro _ O4 ⟨rfl,rfl⟩;rw[hC];refine ae @rX ?_;refine ax.next (j+1) ?_;exact⟨oU,by omega,jm⟩
  ·have h1:Qb c=false:=by rw[cK];exact decide_eq_false (by omega)
   have:va s=false:=by
    unfold va;rw[List.all_eq_false.2 ⟨c,by rw[<-hx];exact ahX h2,by simp[h1]⟩];rfl
   rw[this];rw[decide_eq_false (by omega)]at hD hC;rcases hc with hc | hc | hc | hc
   all_goals
    refine c_ @rX @qy @xj @aI ?_;refine ah.rt (pN c _) ?_;rintro _ O3 ⟨rfl,rfl⟩;rw[hD];refine ae @rX ?_;refine VL.Yw aa (el:=5) (l:=[c]) rfl rfl (by rw[tT];rfl) (by rw[T9];rfl) (by rw[T5];rfl) rfl rfl rfl (WL.sound aa ?_);refine ae @rX ?_;refine ah.rt (Af [46,45,95,43] c _) ?_;rintro _ O4 ⟨rfl,rfl⟩;rw[hC];refine ae @rX ?_;exact Ag.trans oU
 ·have Ab:j=s.length:=by omega
  subst Ab;rw[List.take_length]at kC;unfold va;rw[kC];by_cases h0:0<s.length
  ·have e:decide (1<=s.length)=true:=decide_eq_true h0;rw[e];by_cases EA:s.length<=64
   ·refine ae @rX ?_;exact Ag.trans oU
   ·refine ae @rX ?_;exact Ag.trans oU
  ·have e:decide (1<=s.length)=false:=decide_eq_false (by omega);rw[e];refine ae @rX ?_;exact Ag.trans oU
def tU:Bool->List UInt8->List UInt8->List Piece
 | hy,cur,[]=>[(cur,hy,false)]
 | hy,cur,c::r=>if LY c then(cur,hy,false)::tU (c==45) [] r
   else match cur.getLast? with
    | none=>tU hy [c] r
    | some d=>if pM c=pM d then tU hy (cur++[c]) r else(cur,hy,true)::tU true [c] r
theorem VD (hy:Bool) (cur:List UInt8):tU hy cur []=[(cur,hy,false)]:=rfl
theorem Qe {hy:Bool} {cur r:List UInt8} {c:UInt8} (h:LY c=true):tU hy cur (c::r)=(cur,hy,false)::tU (c==45) [] r:=by rw[tU,if_pos h]
def even (l:List UInt8):Prop:=(∀c∈l,LY c=false)/\∀c∈l,∀d∈l,pM c=pM d
theorem Bq:∀(l cur r:List UInt8) (hy:Bool),even (cur++l)->tU hy cur (l++r)=tU hy (cur++l) r
 | [],cur,r,hy,_=>by simp
 | c::l,cur,r,hy,h=>by
   have hm:LY c=false:=h.1 c (by simp);have HA:=Bq l (cur++[c]) r hy (by rw[ah4];exact h);rw[ah4,List.singleton_append]at HA;rw[<-HA,alD,tU,if_neg (by rw[hm];simp)];cases hl:cur.getLast? with
   | none=>
     have:cur=[]:=List.getLast?_eq_none_iff.1 hl;subst this;rfl
   | some d=>
     have hd:pM c=pM d:=h.2 c (by simp) d (List.mem_append_left _ (List.mem_of_getLast? hl));simp only[hd,if_true]
end Go.Proofs.YtoclnkfdahmnhaaGreatDoor
