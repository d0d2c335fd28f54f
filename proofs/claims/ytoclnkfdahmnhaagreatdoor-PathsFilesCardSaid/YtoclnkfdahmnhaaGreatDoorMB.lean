import Derived.Test.YtoclnkfdahmnhaaGreatDoorMA
import Derived.Lib.ConvBytes
import Derived.Laws.BytesString
import Derived.Laws.Externs
import Derived.Deep.AppendSrc
import Derived.Lib.UnsafeStr
import Derived.Laws.StructEq
import Derived.Recover
import Derived.WideLaws
import Derived.Laws.RangeString
import Derived.DeepKeys5
import Derived.Test.YtoclnkfdahmnhaaGreatDoorRows
import Derived.Lib.Bytealg
set_option linter.unusedVariables false
set_option linter.unusedSimpArgs false
namespace Go.Proofs.YtoclnkfdahmnhaaGreatDoor
open Go.RowKit
def iT:List Nat->List MV->Env->Env
 | t::l,m::ms,e=>(t,m)::iT l ms e
 | _,_,e=>e
theorem uJ (t:Nat) (l:List Nat) (m:MV) (ms:List MV) (e:Env):iT (t::l) (m::ms) e=(t,m)::iT l ms e:=rfl
theorem DE (ms:List MV) (e:Env):iT [] ms e=e:=rfl
theorem ib {e e0:Env} (he:∀t x,look e0 t=some x->look e t=some x):∀{l:List Nat} {ms:List MV},looks e l=some ms->∀t x,look (iT l ms e0) t=some x->look e t=some x
 | [],ms,_,t,x,hx=>he t x (by simpa[iT]using hx)
 | k::l,ms,h,t,x,hx=>by
   rw[BF]at h;obtain⟨m,h1,h2⟩:=Option.bind_eq_some_iff.1 h;obtain⟨WZ,h3,rfl⟩:=Option.map_eq_some_iff.1 h2;rw[uJ,lX]at hx;cases hb:t==k with
   | true=>
     rw[hb,cond_true]at hx;injection hx with hx;subst hx
     have:t=k:=by simpa using hb
     rw[this];exact h1
   | false=>rw[hb,cond_false]at hx;exact ib he h3 t x hx
def az {σ :Type} (l K:List Nat) (ks:List MV) (ms: σ ->List MV) (I: σ ->VH->Prop) (μ : σ ->Nat) (s: σ) (Q:VQ):VQ:=fun x e O=>match x with
 | .normal=>looks e K=some ks/\∃s',looks e l=some (ms s')/\I s' O/\ μ s'< μ s
 | x=>Q x e O
section
variable {n:Sz} {D:List Deferred} {e:Env} {P:Program} {O:VH} {Q:VQ} {c:Code} {σ :Type} {l K:List Nat} {ks:List MV} {ms: σ ->List MV} {I: σ ->VH->Prop} {μ : σ ->Nat} {s: σ} {i:Nat} {m:MV}
theorem yV:az l K ks ms I μ s Q (.exit i) e O=Q (.exit i) e O:=rfl
theorem yW:az l K ks ms I μ s Q (.goto i) e O=Q (.goto i) e O:=rfl
theorem BN:az l K ks ms I μ s Q .ret e O=Q .ret e O:=rfl
theorem qR:az l K ks ms I μ s Q (.panic m) e O=Q (.panic m) e O:=rfl
theorem VC.iA (l K:List Nat) (ms: σ ->List MV) (I: σ ->VH->Prop) (μ : σ ->Nat) (s0: σ) (h0:looks e l=some (ms s0)) (hk:looks e K=some ks) (hI:I s0 O)
  (step:∀s O,I s O->VC P n D c (iT l (ms s) (iT K ks [])) O (az l K ks ms I μ s Q)):VC P n D (.loop c) e O Q:=by
 refine VC.loop (fun k e O=>looks e K=some ks/\∃s,looks e l=some (ms s)/\I s O/\ μ s=k) (k:= μ s0) ⟨hk,s0,h0,hI,rfl⟩ ?_;rintro k e O ⟨hk,s,h1,h2,rfl⟩;refine VC.mono ?_ (VC.env (step s O h2) (ib (ib (e0:=[]) (fun t x h=>by simp[look]at h) hk) h1));intro x e' O' h
 cases x<;>first
  | exact h
  | (obtain⟨h6,s',h3,h4,h5⟩:=h;exact⟨_,h5,h6,s',h3,h4,rfl⟩)
end
abbrev ints (xs:List Int) (t:Tok):MV:=.sl xs.length (xs.map mi) t
abbrev Ob (xs:List Bool) (t:Tok):MV:=.sl xs.length (xs.map mb) t
abbrev strs (xs:List (List UInt8)) (t:Tok):MV:=.sl xs.length (xs.map .str) t
set_option linter.defProp false in
def Xu:=And.intro @Option.map_none.{0,0}<|And.intro @Option.bind_none.{0,0}<|And.intro @uJ<|And.intro @DE<|And.intro @Int.zero_sub<|And.intro @Bool.not_true<|And.intro @Bool.not_false<|And.intro @decide_true<|And.intro @decide_eq_true<|And.intro @decide_eq_false<|And.intro @Nat.zero_add<|And.intro @Nat.mul_one<|And.intro @Int.toNat_natCast<|And.intro @Nat.add_zero<|And.intro @List.set_cons_zero.{0}<|And.intro @List.set_cons_succ.{0}<|And.intro @List.take_succ_cons.{0}<|And.intro @List.take_zero.{0}<|And.intro @List.drop_succ_cons.{0}<|And.intro @List.drop_zero.{0}<|And.intro @List.getElem?_eq_getElem.{0}<|And.intro @List.getElem?_toArray.{0}<|And.intro @List.getElem?_cons_zero.{0}<|And.intro @List.getElem?_cons_succ.{0}<|And.intro @Option.bind_some.{0,0}<|And.intro @Option.map_some.{0,0}<|And.intro @List.map_cons.{0,0}<|And.intro @List.map_nil.{0,0}<|And.intro @List.getElem?_map.{0,0}<|And.intro @List.getElem_map.{0,0}<|And.intro @if_true.{1}<|And.intro @cond_true.{1} @cond_false.{1}
set_option linter.defProp false in
def Xv:=And.intro @uy<|And.intro @yP<|And.intro @BH<|And.intro @w9<|And.intro @yV<|And.intro @yW<|And.intro @BN<|And.intro @qR<|And.intro @H9<|And.intro @N5<|And.intro @N6<|And.intro @Te<|And.intro @J9<|And.intro @ux<|And.intro @yN<|And.intro @yO<|And.intro @BG<|And.intro @qQ<|And.intro @J_<|And.intro @Ka<|And.intro @N7<|And.intro @H_<|And.intro @Kj<|And.intro @if_true.{1} @if_false.{1}
section
variable {P:Program} {tab:b9} {n:Sz} {D:List Deferred} {md:Md} {l:List Oper} {Q:VQ} {L':List (Fl×Oper)} {e e':Env} {O O':VH} {c x y:Code} {A:Prop} {id:Nat} {fn:Func} {R:fL->VH->Prop} {m m':MV} {t t':Nat} {o:Operand} {b:Bool}
theorem gVC (h:VC P n D c e O Q):VC P n D c e O Q:=h
theorem gp (a:A) (q:VL P n D .plain ⟨l⟩ L' e' O' Q) (ht:aK P tab:=by exact aa) (h:A->iz tab n ⟨l⟩ (l.map (Fl.one, ·)) e O=some (L',e',O'):=by intro z;simp(disch:=omega) only[Xt,Xu,ints,Ob,strs,cD,Nat.reduceLT,Nat.reduceAdd,Nat.reduceBEq,Int.reduceToNat,z]<;>exact rfl):VC P n D (.region id ⟨l⟩ false) e O Q:=VC.Rs (VL.run ht (h a) q)
theorem gr (a:A) (q:VL P n D .reads ⟨l⟩ L' e' O' Q) (ht:aK P tab:=by exact aa) (h1:P.follows .mixedOrders=true:=by kernel_rfl) (h2:Region.noSelect ⟨l⟩=true:=by kernel_rfl) (h3:cE .reads ⟨l⟩ l.length (Array.replicate l.length false) ((List.range' 0 l.length).map (·,Fl.rd))=true:=by kernel_rfl) (h:A->iz tab n ⟨l⟩ (l.map (Fl.rd, ·)) e O=some (L',e',O'):=by intro z;simp(disch:=omega) only[Xt,Xu,ints,Ob,strs,cD,Nat.reduceLT,Nat.reduceAdd,Nat.reduceBEq,Int.reduceToNat,z]<;>exact rfl):VC P n D (.region id ⟨l⟩ true) e O Q:=VC.Rz h1 h2 h3 (VL.run ht (h a) q)
theorem gc (a:A) (h1:b=true->VC P n D x e O Q) (h2:b=false->VC P n D y e O Q) (h:A->ev e o=some (.v (.bool b)):=by intro z;simp(disch:=omega) only[Xt,Xu,ints,Ob,strs,cD,Nat.reduceLT,Nat.reduceAdd,Nat.reduceBEq,Int.reduceToNat,z]<;>exact rfl):VC P n D (.cond o x y) e O Q:=VC.cond (h a) h1 h2
theorem eR1 (q:R (.ret m) O) (h1:fn.results= #[.tmp t]:=by exact rfl) (h2:look e t=some m:=by simp only[lX,Nat.reduceBEq,cond_true,cond_false]<;>exact rfl):mP tab fn R .ret e O:=mP.ahj h1 h2 q
theorem eR2 (q:R (.ret (.tuple [m,m'])) O) (h1:fn.results= #[.tmp t,.tmp t']:=by exact rfl) (h2:look e t=some m:=by simp only[lX,Nat.reduceBEq,cond_true,cond_false]<;>exact rfl) (h3:look e t'=some m':=by simp only[lX,Nat.reduceBEq,cond_true,cond_false]<;>exact rfl):mP tab fn R .ret e O:=mP.ahk h1 h2 h3 q
end
set_option linter.defProp false in
def dcs:=And.intro @decide_eq_true_eq<|And.intro @decide_eq_false_iff_not<|And.intro @beq_iff_eq.{0}<|And.intro @beq_eq_false_iff_ne.{0}<|And.intro @bne_iff_ne.{0} @bne_eq_false_iff_eq.{0}
section
variable {G H:Gh} {n:Sz} {D:List Deferred} {e:Env} {a:Act} {P:Program} {tab:b9} {O O':VH} {w:World} {m m':MV} {u v:Value} {ops:Array Oper} {Q:VQ}
def Kl (P:Program) (n:Sz) (D:List Deferred) (o:Oper) (e:Env) (O:VH) (M:MV->VH->Prop):Prop:=∀G a w,WR G O w->FR G n D e a->∃m O',M m O'/\dq P o a w G m O'
theorem g_.DF {i:Nat} {l:List Nat} {o:Oper} {M:MV->VH->Prop} (ho:ops[i]?=some o) (hg:aL ops o e=some true) (hd:bm n o.dst=true) (hy:Kl P n D o e O M) (h:∀m O',M m O'->g_ P n D ops l (aU o.dst m e) O' Q):
  g_ P n D ops (i::l) e O Q:=by
 intro G a w hw aS;obtain⟨m,O',hM,nx,w',H,u,hr,wP,h1,h2,h3,_⟩:=hy G a w hw aS;simp only[wpOps,ho,bj aS hg,if_true];refine .inl ?_;unfold Oper.wp;rw[hr]
 have hk:wpOps P ops (cx G n D Q) l (a.put o.dst u) w':=by
  exact lV (fun _ _ _=>cx.le h1) l _ _ (h m O' hM H (a.put o.dst u) w' h2 ((aS.mono h1).aU hd h3))
 rcases wP with rfl | ⟨rfl,rfl⟩
 ·exact hk
 ·exact hk
theorem VL.DF {o:Oper} {L:List (Fl×Oper)} {M:MV->VH->Prop} (hg:aL ops o e=some true) (hd:bm n o.dst=true) (hy:Kl P n D o e O M) (h:∀m O',M m O'->VL P n D .plain ops L (aU o.dst m e) O' Q):
  VL P n D .plain ops ((.one,o)::L) e O Q:=by
 intro fuel listed ix hf hp
 match ix,hf with
 | (i,g)::ix,hf=>
   obtain⟨rfl,ho,hf⟩:=hf;exact g_.DF ho hg hd hy fun m O' hM=>h m O' hM 0 #[] ix hf (fun h=>absurd rfl h)
def fB (b:UInt8):MV:=.v (.int .u8 b.toNat)
theorem Ia {α :Type} (l:Array α) (x: α) (f: α -> α):(l.push x).modify l.size f=l.push (f x):=by
 apply Array.ext_getElem?;intro i;simp only[Array.getElem?_modify,Array.getElem?_push];by_cases h:i=l.size
 ·subst h;simp
 ·rw[if_neg (Ne.symm h),if_neg h,if_neg h]
theorem FC (w:World) (C:Array Value) (t:TypeId):(w.alloc (.cells C t)).freeze ⟨w.heap.size,C.size,none⟩ 1=w.alloc (.cells C t (C.size,C.size+1)):=by
 simp[World.freeze,World.alloc, -World.alloc_eq,Ia]
theorem DG (l:List UInt8):aO G (l.map fB) (l.map fun b=>Value.int .u8 b.toNat):=by
 induction l with
 | nil=>exact aO.nil
 | cons b l ih=>exact aO.cons (.v rfl) ih
theorem Tp (ht:aK P tab) (h:WR G O w) {src dst el:TypeId} {l:List UInt8} (hs:(tab src).map cz.under=some .string) (hd:(tab dst).map cz.under=some (.slice el)) (he:(tab el).map cz.under=some (.int .u8)) (hl:l.length<=maxLen):
  ∃c,l.length<=c/\c<=maxLen/\gJ P (convert src dst (.string ⟨⟨l⟩⟩)) w G (O.push (.cells (l.map fB))) (.bp O.next 0 l.length c):=by
 have cc:=Lib.run_convert_string_bytes w src dst el ⟨⟨l⟩⟩ (bB ht hs) (bB ht hd) (bB ht he);have oc:(⟨⟨l⟩⟩:ByteArray).size=l.length:=rfl;rw[oc]at cc;have gZ:=grownCap_ge w l.length 0 el;have hle:=grownCap_le_maxLen w l.length 0 el hl;refine⟨grownCap w l.length 0 el,gZ,hle,?_⟩
 have ic:(Lib.bytesCells w el ⟨⟨l⟩⟩).toList.take (l.map fB).length=l.map fun b=>Value.int .u8 b.toNat:=by
  simp[Lib.bytesCells]
 obtain⟨h1,h2⟩:=h.drew.WV (cs:=l.map fB) (C:=Lib.bytesCells w el ⟨⟨l⟩⟩) ⟨el,((Lib.bytesCells w el ⟨⟨l⟩⟩).size,(Lib.bytesCells w el ⟨⟨l⟩⟩).size+1),.inr (Nat.le_refl _)⟩ (by rw[ic];exact DG l);have hW:Lib.bytesWorld w el ⟨⟨l⟩⟩=w.drew.alloc (.cells (Lib.bytesCells w el ⟨⟨l⟩⟩) el ((Lib.bytesCells w el ⟨⟨l⟩⟩).size,(Lib.bytesCells w el ⟨⟨l⟩⟩).size+1)):=FC w.drew _ _;rw[hW]at cc;exact⟨_,_,_,cc,h1,h2,.bp (aG _ _ _) gZ hle,fun k b hk=>jz.alloc h.drew _ k b hk⟩
theorem VL.bytes (ht:aK P tab) {d:Option Tmp} {src dst el:TypeId} {x:Operand} {ty:TypeId} {ps:String} {af:Array Edge} {g:Option (Nat×Bool)} {L:List (Fl×Oper)} {l:List UInt8}
  (hg:aL ops (.mk d (.convert src dst x) ty ps af g) e=some true) (hx:ev e x=some (.str l)) (hs:(tab src).map cz.under=some .string) (qS:(tab dst).map cz.under=some (.slice el)) (he:(tab el).map cz.under=some (.int .u8)) (hl:l.length<=maxLen) (hd:bm n d=true)
  (h:∀c,l.length<=c->c<=maxLen->VL P n D .plain ops L (aU d (.bp O.next 0 l.length c) e) (O.push (.cells (l.map fB))) Q):
  VL P n D .plain ops ((.one,.mk d (.convert src dst x) ty ps af g)::L) e O Q:=by
 refine VL.DF (M:=fun m O'=>∃c,l.length<=c/\c<=maxLen/\m= .bp O.next 0 l.length c/\O'=O.push (.cells (l.map fB))) hg hd (fun G a w hw hf=>?_) ?_
 ·have h1:=hf.ev hx;generalize hu:a.eval x=u at h1;cases h1;obtain⟨c,c1,c2,c3⟩:=Tp (P:=P) ht hw hs qS he hl;exact⟨_,_,⟨c,c1,c2,rfl,rfl⟩,dq.of c3 (by simp[execOp,hu])⟩
 ·rintro m O' ⟨c,c1,c2,rfl,rfl⟩;exact h c c1 c2
theorem Km (l:List UInt8):∀s:List UInt8,(l.map fun b=>(b.toNat:Int)).foldl (fun(r:ByteArray) (n:Int)=>r.push (UInt8.ofNat n.toNat)) ⟨⟨s⟩⟩=⟨⟨s++l⟩⟩:=by
 induction l with
 | nil=>intro s;simp
 | cons b l ih=>
   intro s;rw[List.map_cons,List.foldl_cons]
   have:(⟨⟨s⟩⟩:ByteArray).push (UInt8.ofNat (b.toNat:Int).toNat)=⟨⟨s++[b]⟩⟩:=by
    simp[ByteArray.push]
   rw[this,ih,List.append_assoc];rfl
theorem DH (a:Addr) (l:List UInt8) (c:Nat) (w:World) (h:∀j v,(l.map fun b=>Value.int .u8 b.toNat)[j]?=some v->w.cell? (a.add j)=some v):
  (Conv.bytesToString (.slice (some a) l.length c)).run P w= .ok (.string ⟨⟨l⟩⟩) w:=by
 have h1:=run_loadCells_list (P:=P) w a (l.map fun b=>Value.int .u8 b.toNat) h;rw[List.length_map]at h1;rw[run_bytesToString (P:=P) w a l.length c (l.map fun b=>(b.toNat:Int)) (by rw[h1,List.map_map];rfl)];rw[show(ByteArray.empty:ByteArray)=⟨⟨[]⟩⟩from rfl,Km];rfl
theorem Kn {l:List UInt8} {us:List Value} (h:aO G (l.map fB) us):us=l.map fun b=>Value.int .u8 b.toNat:=by
 induction l generalizing us with
 | nil=>exact h.fw
 | cons b l ih=>
   obtain⟨u,S1,rfl,h1,h2⟩:=h.cB;rw[ih h2,h1.iw];rfl
theorem Tq (ht:aK P tab) (h:WR G O w) {src dst el:TypeId} {tk:Tok} {l:List UInt8} (hs:(tab src).map cz.under=some (.slice el)) (hd:(tab dst).map cz.under=some .string) (he:(tab el).map cz.under=some (.int .u8))
  (hx:VR G (.sl l.length (l.map fB) tk) u):gJ P (convert src dst u) w G O (.str l):=by
 have hc:=fun a n c=>run_convert_bytes_string (P:=P) w src dst el a n c (bB ht hs) (bB ht he) (bB ht hd)
 refine⟨.string ⟨⟨l⟩⟩,w,G,?_,Gh.Le.refl G,h,.str,jz.refl _ _⟩;generalize hn:l.length=k at hx;generalize hm:l.map fB=cs at hx;cases hx with
 | slnil=>
   obtain rfl:l=[]:=List.eq_nil_of_length_eq_zero hn;rw[hc];rfl
 | jH=>
   obtain rfl:l=[]:=List.eq_nil_of_length_eq_zero hn;rw[hc];rfl
 | nP=>
   obtain rfl:l=[]:=List.eq_nil_of_length_eq_zero hn;rw[hc];exact DH _ [] _ w fun j v hv=>by simp at hv
 | sl h1 h2 h3 h4 h5 h6=>
   rename_i us c b o;subst hn hm;have h7:=Kn (us:=us) ⟨h1,h3⟩;rw[hc];refine DH _ l c w fun j v hv=>?_
   rw[<-h7]at hv;rw[Addr.add_lit];exact h.dX _ _ _ (h2 j v hv)
theorem VL.Xw (ht:aK P tab) {d:Option Tmp} {src dst el:TypeId} {x:Operand} {ty:TypeId} {ps:String} {af:Array Edge} {g:Option (Nat×Bool)} {L:List (Fl×Oper)} {nn:Nat} {cs:List MV} {tk:Tok} {l:List UInt8}
  (hg:aL ops (.mk d (.convert src dst x) ty ps af g) e=some true) (hx:ev e x=some (.sl nn cs tk)) (hs:(tab src).map cz.under=some (.slice el)) (qS:(tab dst).map cz.under=some .string) (he:(tab el).map cz.under=some (.int .u8)) (hn:nn=l.length) (ic:cs=l.map fB) (hd:bm n d=true)
  (h:VL P n D .plain ops L (aU d (.str l) e) O Q):VL P n D .plain ops ((.one,.mk d (.convert src dst x) ty ps af g)::L) e O Q:=by
 subst hn ic;refine VL.DF (M:=fun m O'=>m= .str l/\O'=O) hg hd (fun G a w hw hf=>?_) ?_
 ·exact⟨_,_,⟨rfl,rfl⟩,dq.of (Tq (P:=P) ht hw hs qS he (hf.ev hx)) (by simp[execOp])⟩
 ·rintro m O' ⟨rfl,rfl⟩;exact h
end
section
variable {n:Sz} {D:List Deferred} {e e':Env} {P:Program} {tab:b9} {O O':VH} {m m':MV} {ops:Array Oper} {Q:VQ} {md:Md}
def cy:Op->Bool
 | .call c=>match c.callee with
   | .value _=>true
   | .builtin .append=>true
   | _=>false
 | _=>false
def FD:Fl->Bool
 | .fk=>true
 | _=>false
def afP (P:Program) (n:Sz) (Q:VQ) (d:Option Tmp) (O:VH) (K:Env->VH->Prop) (e:Env) (fv:Option MV) (ms:Option (List MV)):Prop:=
 ∃id fs cs l R,fv=some (.func (.func id) fs cs)/\ms=some l/\Enters P id/\bm n d=true/\VF P id (fs++l++cs) O R/\∀r O',R r O'->match r with
  | .ret m=>K (aU d m e) O'
  | .panic m=>Q (.panic m) (kB n e) O'
def ey (P:Program) (id:FuncId) (l:List MV) (O:VH) (M:MV->VH->Prop):Prop:=
 ∀G w vs,WR G O w->aO G l vs->∃m O' u w' H,M m O'/\(callFunc id vs.toArray).run P w= .ok (.value u) w'/\Gh.Le G H/\WR H O' w'/\VR H m u
def iU:Md->Bool
 | .plain=>true
 | _=>false
def afQ (P:Program) (n:Sz) (md:Md) (d:Option Tmp) (O:VH) (K:Env->VH->Prop) (e:Env) (fv:Option MV) (ms:Option (List MV)):Prop:=
 ∃id l M,iU md=true/\fv=some (.func (.func id) [] [])/\ms=some l/\bm n d=true/\ey P id l O M/\∀m O',M m O'->K (aU d m e) O'
def ah (P:Program) (n:Sz) (md:Md) (Q:VQ) (d:Option Tmp) (O:VH) (K:Env->VH->Prop) (e:Env) (fv:Option MV) (ms:Option (List MV)):Prop:=
 afP P n Q d O K e fv ms\/afQ P n md d O K e fv ms
def uK (P:Program) (n:Sz) (D:List Deferred) (md:Md) (ops:Array Oper) (Q:VQ) (f:Fl) (o:Oper) (L:List (Fl×Oper)) (e:Env) (O:VH) (K:Env->VH->Prop):Prop:=
 match f,o.op with
 | .one,.call c=>match c.callee with
   | .value x=>ah P n md Q o.dst O K e (ev e x) (fG e c.args.toList)
   | _=>VL P n D md ops ((f,o)::L) e O Q
 | _,_=>VL P n D md ops ((f,o)::L) e O Q
theorem VL.ext {o:Oper} {c:Call} {x:Operand} {id:FuncId} {ms:List MV} {M:MV->VH->Prop} {L:List (Fl×Oper)} (hg:aL ops o e=some true) (uq:o.op= .call c) (hc:c.callee= .value x) (hf:ev e x=some (.func (.func id) [] [])) (hm:fG e c.args.toList=some ms) (hd:bm n o.dst=true)
  (hx:ey P id ms O M) (h:∀m O',M m O'->VL P n D .plain ops L (aU o.dst m e) O' Q):VL P n D .plain ops ((.one,o)::L) e O Q:=by
 intro fuel listed ix rD hp
 match ix,rD with
 | (i,g)::ix,rD=>
   obtain⟨rfl,ho,rD⟩:=rD;intro G a w hw aS;have rB:=aS.ev hf;generalize wQ:a.eval x=fv at rB;cases rB with
   | func h1 h2 h3 h4=>
     rename_i us vs;have iu:us=[]:=List.eq_nil_of_length_eq_zero h1;have nT:vs=[]:=List.eq_nil_of_length_eq_zero h3;subst iu;subst nT
     have gU:=aS.fG hm;obtain⟨m,O',u,w',H,hM,hr,g1,g2,g3⟩:=hx G w _ hw gU
     have cc:(execOp a.eval o).run P w= .ok (.value u) w':=by
      have ha: #[]++c.args.map a.eval++ #[]=(c.args.toList.map a.eval).toArray:=by apply Array.ext';simp
      simp only[execOp,uq,resolve,hc,wQ,Deferred.ofValue,Sem.run_bind,Sem.run_pure,Result.andThen_ok,invoke];rw[ha];exact hr
     simp only[List.map_cons,wpOps,ho,bj aS hg,if_true];refine .inl ?_;unfold Oper.wp;rw[cc];exact lV (fun _ _ _=>cx.le g1) (ix.map (·.1)) _ _ (h m O' hM 0 #[] ix rD (fun h=>absurd rfl h) H (a.put o.dst u) w' g2 ((aS.mono g1).aU hd g3))
theorem uK.sound {f:Fl} {o:Oper} {L:List (Fl×Oper)} {K:Env->VH->Prop} (hK:∀e O,K e O->VL P n D md ops L e O Q) (hg:aL ops o e=some true) (h:uK P n D md ops Q f o L e O K):VL P n D md ops ((f,o)::L) e O Q:=by
 obtain⟨d,op,ty,ps,af,g⟩:=o;cases f with
 | one=>
   cases op with
   | call c=>
     obtain⟨cl,as_,ts⟩:=c;cases cl with
     | value x=>
       rcases h with h | h
       ·obtain⟨id,fs,cs,l,R,h1,h2,h3,h4,h5,h6⟩:=h;refine VL.call hg h1 h2 rfl h3 h4 h5 fun r O' hr=>?_
        have:=h6 r O' hr;cases r with
        | ret m=>exact hK _ _ this
        | panic m=>exact this
       ·obtain⟨id,l,M,hp,h1,h2,h3,h4,h5⟩:=h;cases md with
        | plain=>exact VL.ext hg rfl rfl h1 h2 h3 h4 fun m O' hM=>hK _ _ (h5 m O' hM)
        | _=>cases hp
     | _=>exact h
   | _=>exact h
 | _=>exact h
def WL (P:Program) (tab:b9) (n:Sz) (D:List Deferred) (md:Md) (ops:Array Oper) (Q:VQ):List (Fl×Oper)->Env->VH->Prop
 | [],e,O=>Q .normal e O
 | (f,o)::L,e,O=>match aL ops o e with
   | none=>False
   | some false=>(match bm n o.dst&& !FD f with
     | true=>WL P tab n D md ops Q L (aU o.dst cD e) O
     | false=>False)
   | some true=>(match cy o.op||FD f with
     | true=>uK P n D md ops Q f o L e O (WL P tab n D md ops Q L)
     | false=>(match ia tab f o e O with
       | none=>VL P n D md ops ((f,o)::L) e O Q
       | some (m,O')=>(match bm n o.dst with
         | true=>WL P tab n D md ops Q L (aU o.dst m e) O'
         | false=>False)))
theorem WL.sound (ht:aK P tab):∀{L:List (Fl×Oper)} {e:Env} {O:VH},WL P tab n D md ops Q L e O->VL P n D md ops L e O Q
 | [],e,O,h=>VL.nil h
 | (f,o)::L,e,O,h=>by
   rw[WL]at h;split at h
   ·exact h.elim
   ·rename_i hg;split at h
    ·rename_i hd;simp only[Bool.and_eq_true,Bool.not_eq_true']at hd;exact VL.skip (by rintro rfl;exact absurd hd.2 (by decide)) hg hd.1 (WL.sound ht h)
    ·exact h.elim
   ·rename_i hg;split at h
    ·exact uK.sound (fun e O h=>WL.sound ht h) hg h
    ·split at h
     ·exact h
     ·split at h
      ·exact VL.step ht hg ‹_› ‹_› (WL.sound ht h)
      ·exact h.elim
def DI (P:Program) (n:Sz) (tab:b9) (D:List Deferred) (A B:Env->VH->VQ->Prop) (e:Env) (O:VH) (Q:VQ):Option MV->Prop
 | some (.v (.bool true))=>A e O Q
 | some (.v (.bool false))=>B e O Q
 | _=>False
def WC (P:Program) (tab:b9) (n:Sz) (D:List Deferred):Code->Env->VH->VQ->Prop
 | .skip,e,O,Q=>Q .normal e O
 | .exit i,e,O,Q=>Q (.exit i) e O
 | .label _,e,O,Q=>Q .normal e O
 | .ret,e,O,Q=>Q .ret e O
 | .scope c,e,O,Q=>WC P tab n D c e O (sr Q)
 | .block id c,e,O,Q=>WC P tab n D c e O (h_ id Q)
 | .seq a b,e,O,Q=>WC P tab n D a e O fun x e O=>match x with
   | .normal=>WC P tab n D b e O Q
   | x=>Q x e O
 | .cond c x y,e,O,Q=>DI P n tab D (WC P tab n D x) (WC P tab n D y) e O Q (ev e c)
 | .region id ops false,e,O,Q=>WL P tab n D .plain ops Q (ops.toList.map (Fl.one, ·)) e O
 | c,e,O,Q=>VC P n D c e O Q
theorem WC.sound (ht:aK P tab):∀{c:Code} {e:Env} {O:VH} {Q:VQ},WC P tab n D c e O Q->VC P n D c e O Q:=by
 intro c;induction c with
 | skip=>intro e O Q h;exact VC.skip h
 | exit i=>intro e O Q h;exact VC.exit h
 | label l=>intro e O Q h;exact VC.label h
 | ret=>intro e O Q h;exact VC.ret h
 | scope c ih=>intro e O Q h;exact VC.scope (ih h)
 | block id c ih=>intro e O Q h;exact VC.aB (ih h)
 | seq a b iha ihb=>
   intro e O Q h;refine VC.seq (VC.mono ?_ (iha h));intro x e O hx;cases x<;>first | exact ihb hx | exact hx
 | cond c x y ihx ihy=>
   intro e O Q h;simp only[WC]at h;unfold DI at h;split at h
   ·rename_i he;exact VC.AA he (ihx h)
   ·rename_i he;exact VC.afN he (ihy h)
   ·exact h.elim
 | region id ops dr=>
   intro e O Q h;cases dr with
   | true=>exact h
   | false=>obtain⟨l⟩:=ops;exact VC.Rs (WL.sound ht h)
 | loop c ih=>intro e O Q h;exact h
 | _=>intro e O Q h;exact h
def qt (K:Env->VH->Prop) (Q:VQ):VQ:=fun x e O=>match x with
 | .normal=>K e O
 | x=>Q x e O
def ie (tab:b9) (e:Env) (O:VH):List ResultVar->Option (List MV)
 | []=>some []
 | r::rs=>(jM tab e O r).bind fun m=>(ie tab e O rs).map (m:: ·)
def iI (R:fL->VH->Prop) (O:VH):Option (List MV)->Prop
 | none=>False
 | some [m]=>R (.ret m) O
 | some l=>R (.ret (.tuple l)) O
def BO (tab:b9) (rs:List ResultVar) (R:fL->VH->Prop):VQ:=fun x e O=>match x with
 | .normal=>iI R O (ie tab e O rs)
 | .ret=>iI R O (ie tab e O rs)
 | .panic m=>R (.panic m) O
 | _=>False
theorem rE (rs:List ResultVar):ie tab e O rs=rs.mapM (jM tab e O):=by
 induction rs with
 | nil=>rfl
 | cons r rs ih=>
   rw[ie,ih,List.mapM_cons];simp only[Option.bind_eq_bind];cases jM tab e O r with
   | none=>rfl
   | some m=>simp only[Option.bind_some];cases List.mapM (jM tab e O) rs<;>rfl
theorem VF.ofW (ht:aK P tab) {f:FuncId} {fn:Func} {c:Code} {args:List MV} {rs:List ResultVar} {R:fL->VH->Prop} (hf:P.funcs[f]?=some fn) (hb:fn.body=some c) (hk:(⟨fn.ntmps,0⟩:Sz)=n) (hr:fn.results.toList=rs) (hn:args.length<=n.n)
  (h:WC P tab n [] c (cw 0 args) O (BO tab rs R)):VF P f args O R:=by
 subst hk;refine VF.enter ht hf hb hn (VC.mono ?_ (WC.sound ht h));intro x e O hx
 have key:iI R O (ie tab e O rs)->∃m,db tab fn e O=some m/\R (.ret m) O:=fun h=>by
  unfold db;rw[hr, <-rE];generalize ie tab e O rs=z at h;unfold iI at h;split at h
  ·exact h.elim
  ·exact⟨_,rfl,h⟩
  ·rename_i l hl;refine⟨.tuple l,?_,h⟩
   match l,hl with
   | [],_=>rfl
   | [m],hl=>exact absurd rfl (hl m)
   | _::_::_,_=>rfl
 cases x<;>first | exact key hx | exact hx
theorem VF.du {f:FuncId} {fn:Func} {c:Code} {args:List MV} {R:fL->VH->Prop} {Q':Prop} (k:Nat) (rs:List ResultVar) (hf:P.funcs[f]?=some fn) (q:Q') (ht:aK P tab:=by exact aa) (hb:fn.body=some c:=by exact rfl) (hk:(⟨fn.ntmps,0⟩:Sz)=⟨k,0⟩:=by exact rfl) (hr:fn.results.toList=rs:=by exact rfl) (hn:args.length<=k:=by exact Nat.le_of_ble_eq_true rfl) (h:WC P tab ⟨k,0⟩ [] c (cw 0 args) O (BO tab rs R)=Q':=by conv=>lhs;simp only[cw,Nat.zero_add,Nat.reduceAdd]):VF P f args O R:=VF.ofW ht hf hb hk hr hn (h.mpr q)
def W3 (P:Program) (tab:b9) (n:Sz) (D:List Deferred) (md:Md) (ops:Array Oper) (Q:VQ) (L:List (Fl×Oper)) (e:Env) (O:VH):Bool->Prop
 | true=>WL P tab n D md ops Q L e O
 | false=>False
def W2 (P:Program) (tab:b9) (n:Sz) (D:List Deferred) (md:Md) (ops:Array Oper) (Q:VQ) (f:Fl) (o:Oper) (L:List (Fl×Oper)) (e:Env) (O:VH):Option (MV×VH)->Prop
 | some (m,O')=>W3 P tab n D md ops Q L (aU o.dst m e) O' (bm n o.dst)
 | none=>VL P n D md ops ((f,o)::L) e O Q
def W1 (P:Program) (tab:b9) (n:Sz) (D:List Deferred) (md:Md) (ops:Array Oper) (Q:VQ) (f:Fl) (o:Oper) (L:List (Fl×Oper)) (e:Env) (O:VH):Bool->Option Bool->Prop
 | _,none=>False
 | true,some true=>uK P n D md ops Q f o L e O (WL P tab n D md ops Q L)
 | false,some true=>W2 P tab n D md ops Q f o L e O (ia tab f o e O)
 | _,some false=>W3 P tab n D md ops Q L (aU o.dst cD e) O (bm n o.dst&& !FD f)
section
variable {f:Fl} {o:Oper} {L:List (Fl×Oper)} {d:Option Tmp} {p:Op} {ty:TypeId} {ps:String} {af:Array Edge} {g:Option (Nat×Bool)} {b:Bool}
theorem abT:WL P tab n D md ops Q [] e O=Q .normal e O:=rfl
theorem Xx:WL P tab n D md ops Q ((f,.mk d p ty ps af g)::L) e O=W1 P tab n D md ops Q f (.mk d p ty ps af g) L e O (cy p||FD f) (aL ops (.mk d p ty ps af g) e):=by
 rw[WL];generalize aL ops (.mk d p ty ps af g) e=x;unfold W1;cases x with
 | none=>rfl
 | some b=>
   cases b with
   | false=>
     simp only;unfold W3;split<;>simp only
     all_goals (split<;>rename_i h<;>simp_all)
   | true=>
     simp only;generalize (cy p||FD f)=y;cases y with
     | true=>rfl
     | false=>
       simp only;unfold W2;cases ia tab f (.mk d p ty ps af g) e O with
       | none=>rfl
       | some r=>unfold W3;cases bm n d<;>rfl
theorem Xy:W1 P tab n D md ops Q f o L e O true (some true)=uK P n D md ops Q f o L e O (WL P tab n D md ops Q L):=rfl
theorem afR:W1 P tab n D md ops Q f o L e O false (some true)=W2 P tab n D md ops Q f o L e O (ia tab f o e O):=rfl
theorem Xz:W1 P tab n D md ops Q f (.mk d p ty ps af g) L e O b (some false)=W3 P tab n D md ops Q L (aU d cD e) O (bm n d&& !FD f):=by cases b<;>rfl
theorem XA:W2 P tab n D md ops Q f (.mk d p ty ps af g) L e O (some (m,O'))=W3 P tab n D md ops Q L (aU d m e) O' (bm n d):=rfl
theorem XB:W2 P tab n D md ops Q f o L e O none=VL P n D md ops ((f,o)::L) e O Q:=rfl
theorem XC:W3 P tab n D md ops Q L e O true=WL P tab n D md ops Q L e O:=rfl
variable {K:Env->VH->Prop} {x:Operand} {as_:Array Operand} {ts:Array TypeId}
theorem Ko:uK P n D md ops Q .one (.mk d (.call {callee:=.value x,args:=as_,argTypes:=ts}) ty ps af g) L e O K=ah P n md Q d O K e (ev e x) (fG e as_.toList):=rfl
theorem FE:uK P n D md ops Q f (.mk d (.call {callee:=.builtin .append,args:=as_,argTypes:=ts}) ty ps af g) L e O K=VL P n D md ops ((f,.mk d (.call {callee:=.builtin .append,args:=as_,argTypes:=ts}) ty ps af g)::L) e O Q:=by cases f<;>rfl
end
section
variable {c a b:Code} {i id:Nat} {A B:Env->VH->VQ->Prop} {l:List Oper} {K:Env->VH->Prop} {R:fL->VH->Prop} {rs:List ResultVar} {r:ResultVar} {t:Nat} {m1 m2 m3:MV} {x:Operand} {y:Code}
theorem XD:WC P tab n D .skip e O Q=Q .normal e O:=rfl
theorem XE:WC P tab n D (.exit i) e O Q=Q (.exit i) e O:=rfl
theorem Tr:WC P tab n D (.label i) e O Q=Q .normal e O:=rfl
theorem abU:WC P tab n D .ret e O Q=Q .ret e O:=rfl
theorem Ts:WC P tab n D (.scope c) e O Q=WC P tab n D c e O (sr Q):=rfl
theorem Tt:WC P tab n D (.block id c) e O Q=WC P tab n D c e O (h_ id Q):=rfl
def XF (P:Program) (tab:b9) (n:Sz) (D:List Deferred) (b:Code) (Q:VQ):Env->VH->Prop:=fun e O=>WC P tab n D b e O Q
theorem Tu:XF P tab n D b Q e O=WC P tab n D b e O Q:=rfl
theorem abV:WC P tab n D (.seq a b) e O Q=WC P tab n D a e O (qt (XF P tab n D b Q) Q):=rfl
theorem XG:WC P tab n D (.cond x a b) e O Q=DI P n tab D (WC P tab n D a) (WC P tab n D b) e O Q (ev e x):=rfl
theorem Oj:WC P tab n D (.region id ⟨l⟩ false) e O Q=WL P tab n D .plain ⟨l⟩ Q (l.map (Fl.one, ·)) e O:=rfl
theorem Tv:WC P tab n D (.region id ops true) e O Q=VC P n D (.region id ops true) e O Q:=rfl
theorem XH:WC P tab n D (.loop c) e O Q=VC P n D (.loop c) e O Q:=rfl
theorem Ib:qt K Q .normal e O=K e O:=rfl
theorem Ok:qt K Q (.exit i) e O=Q (.exit i) e O:=rfl
theorem Ol:qt K Q (.goto i) e O=Q (.goto i) e O:=rfl
theorem Tw:qt K Q .ret e O=Q .ret e O:=rfl
theorem BQ:qt K Q (.panic m) e O=Q (.panic m) e O:=rfl
theorem XI:DI P n tab D A B e O Q (some (.v (.bool true)))=A e O Q:=rfl
theorem XJ:DI P n tab D A B e O Q (some (.v (.bool false)))=B e O Q:=rfl
theorem Tx:ie tab e O []=some []:=rfl
theorem Om:ie tab e O (r::rs)=(jM tab e O r).bind fun m=>(ie tab e O rs).map (m:: ·):=rfl
theorem Ic:jM tab e O (.tmp t)=look e t:=rfl
theorem FG {ty:TypeId}:jM tab e O (.cell t ty)=(look e t).bind (eQ tab O ty):=rfl
theorem abW:iI R O (some [])=R (.ret (.tuple [])) O:=rfl
theorem abX:iI R O (some [m])=R (.ret m) O:=rfl
theorem abY:iI R O (some [m,m1])=R (.ret (.tuple [m,m1])) O:=rfl
theorem abZ:iI R O (some [m,m1,m2])=R (.ret (.tuple [m,m1,m2])) O:=rfl
theorem ab0:iI R O (some [m,m1,m2,m3])=R (.ret (.tuple [m,m1,m2,m3])) O:=rfl
theorem Ie:BO tab rs R .normal e O=iI R O (ie tab e O rs):=rfl
theorem Ty:BO tab rs R .ret e O=iI R O (ie tab e O rs):=rfl
theorem Kq:BO tab rs R (.panic m) e O=R (.panic m) O:=rfl
def cM (P:Program) (f:FuncId):Bool:=match P.funcs[f]? with
 | some fn=> !(fn.name== "runtime.NumGoroutine")&&fn.body.isSome
 | none=>false
theorem Enters.sA {f:FuncId} (h:cM P f=true):Enters P f:=by
 unfold cM at h;split at h
 ·rename_i fn hf;simp only[Bool.and_eq_true,Bool.not_eq_true']at h;exact Enters.of hf h.1 (by cases hb:fn.body with | none=>rw[hb]at h;exact absurd h.2 (by decide) | some c=>rfl)
 ·cases h
theorem ah.rt {f:FuncId} {fs cs ms as_:List MV} {d:Option Tmp} {Φ :MV->VH->Prop} (hR:VF P f as_ O (aD Φ)) (h:∀m O', Φ m O'->K (aU d m e) O') (hb:cM P f=true:=by kernel_rfl) (ha:fs++ms++cs=as_:=by exact rfl) (hd:bm n d=true:=by exact rfl):
  ah P n md Q d O K e (some (.func (.func f) fs cs)) (some ms):=by
 subst ha
 exact .inl ⟨f,fs,cs,ms,_,rfl,rfl,Enters.sA hb,hd,hR,fun r O' hr=>by
  cases r with
  | ret m=>exact h m O' hr
  | panic m=>exact hr.elim⟩
theorem ah.p {f:FuncId} {fs cs ms as_:List MV} {d:Option Tmp} {R:fL->VH->Prop} (hR:VF P f as_ O R) (h:∀m O',R (.ret m) O'->K (aU d m e) O') (h2:∀m O',R (.panic m) O'->Q (.panic m) (kB n e) O') (hb:cM P f=true:=by kernel_rfl) (ha:fs++ms++cs=as_:=by exact rfl) (hd:bm n d=true:=by exact rfl):
  ah P n md Q d O K e (some (.func (.func f) fs cs)) (some ms):=by
 subst ha
 exact .inl ⟨f,fs,cs,ms,R,rfl,rfl,Enters.sA hb,hd,hR,fun r O' hr=>by
  cases r with
  | ret m=>exact h m O' hr
  | panic m=>exact h2 m O' hr⟩
theorem ah.ext {f:FuncId} {ms:List MV} {d:Option Tmp} {M:MV->VH->Prop} (hx:ey P f ms O M) (hd:bm n d=true) (h:∀m O',M m O'->K (aU d m e) O'):ah P n .plain Q d O K e (some (.func (.func f) [] [])) (some ms):=
 .inr ⟨f,ms,M,rfl,rfl,rfl,hd,hx,h⟩
theorem ey.of {f:FuncId} {fn:Func} {ex:Array Value->Sem Value} {ms:List MV} (hf:P.funcs[f]?=some fn) (afS:(fn.name== "runtime.NumGoroutine")=false) (hb:fn.body.isNone=true) (hn:Extern.findNext fn=none) (he:Extern.find fn=some ex)
  (hr:∀G w vs,WR G O w->aO G ms vs->∃u,(ex vs.toArray).run P w= .ok u w/\VR G m u):ey P f ms O fun m' O'=>m'=m/\O'=O:=by
 intro G w vs hw hv;obtain⟨u,h1,h2⟩:=hr G w vs hw hv;exact⟨m,O,u,w,G,⟨rfl,rfl⟩,by rw[run_callFunc_extern hf afS hb hn he,h1];rfl,Gh.Le.refl G,hw,h2⟩
theorem WC.reads {id:Nat} {l:List Oper}
  (h:WL P tab n D .reads ⟨l⟩ Q (l.map (Fl.rd, ·)) e O) (ht:aK P tab:=by exact aa) (hm:P.follows .mixedOrders=true:=by kernel_rfl) (hs:Region.noSelect ⟨l⟩=true:=by kernel_rfl) (hp:cE .reads ⟨l⟩ l.length (Array.replicate l.length false) ((List.range' 0 l.length).map (·,Fl.rd))=true:=by kernel_rfl):VC P n D (.region id ⟨l⟩ true) e O Q:=VC.Rz hm hs hp (WL.sound ht h)
theorem WC.bH (md:Md) (ix:List (Nat×Fl)) {id:Nat} {l:List Oper} {L:List (Fl×Oper)}
  (h:WL P tab n D md ⟨l⟩ Q L e O) (ht:aK P tab:=by exact aa) (hne:md≠ .plain:=by simp) (hm:P.follows .mixedOrders=true:=by kernel_rfl) (hs:Region.noSelect ⟨l⟩=true:=by kernel_rfl) (hp:cE md ⟨l⟩ l.length (Array.replicate l.length false) ix=true:=by kernel_rfl) (hL:mQ l ix=some L:=by exact rfl):VC P n D (.region id ⟨l⟩ true) e O Q:=VC.Ru md ix hne hm hs hp hL (WL.sound ht h)
variable {σ :Type} {ls Ks:List Nat} {ks:List MV} {ms: σ ->List MV} {I: σ ->VH->Prop} {μ : σ ->Nat} {s: σ}
theorem WC.iA (ls Ks:List Nat) (ms: σ ->List MV) (I: σ ->VH->Prop) (μ : σ ->Nat) (s0: σ) (hI:I s0 O)
  (step:∀s O,I s O->WC P tab n D c (iT ls (ms s) (iT Ks ks [])) O (az ls Ks ks ms I μ s Q)) (ht:aK P tab:=by exact aa) (h0:looks e ls=some (ms s0):=by exact rfl) (hk:looks e Ks=some ks:=by exact rfl):VC P n D (.loop c) e O Q:=
 VC.iA ls Ks ms I μ s0 h0 hk hI fun s O h=>WC.sound ht (step s O h)
end
theorem VL.app {d:Option Tmp} {x y:Operand} {t ty:TypeId} {ps:String} {af:Array Edge} {g:Option (Nat×Bool)} {L:List (Fl×Oper)} {p q:MV} (hv:gY tab O t p q=some (m,O')) (h:WL P tab n D md ops Q L (aU d m e) O') (ht:aK P tab:=by exact aa) (hx:ev e x=some p:=by exact rfl) (hy:ev e y=some q:=by exact rfl) (hg:aL ops (.mk d (.call {callee:=.builtin .append,args:= #[x,y],argTypes:= #[t,t]}) ty ps af g) e=some true:=by exact rfl) (hd:bm n d=true:=by exact rfl):
  VL P n D md ops ((.one,.mk d (.call {callee:=.builtin .append,args:= #[x,y],argTypes:= #[t,t]}) ty ps af g)::L) e O Q:=
 VL.step ht hg (by rw[v8,cT,hx,hy];exact hv) hd (WL.sound ht h)
end
section
variable {G H:Gh} {n:Sz} {D:List Deferred} {e:Env} {a:Act} {P:Program} {tab:b9} {O O':VH} {w:World} {m m':MV} {u v:Value} {ops:Array Oper} {Q:VQ} {md:Md}
def fM (P:Program) (n:Sz) (D:List Deferred) (o:Oper) (e:Env) (O:VH) (M:MV->VH->Prop):Prop:=
 ∀G a w,WR G O w->FR G n D e a->∃m O' u w' H,M m O'/\(execOp a.eval o).run P w= .ok (.value u) w'/\Gh.Le G H/\WR H O' w'/\VR H m u
theorem aH.iV {i:Nat} {o:Oper} {M:MV->VH->Prop} {K:Env->VH->Prop} (ho:ops[i]?=some o) (hg:aL ops o e=some true) (hd:bm n o.dst=true) (hy:fM P n D o e O M) (h:∀m O',M m O'->K (aU o.dst m e) O'):aH P n D ops i e O Q K:=by
 intro G a w hw aS;obtain⟨m,O',u,w',H,hM,hr,h1,h2,h3⟩:=hy G a w hw aS;simp only[wpOp,ho,bj aS hg,if_true];refine .inl ?_;unfold Oper.wp;rw[hr];exact⟨_,_,H,h1,h2,(aS.mono h1).aU hd h3,h _ _ hM⟩
theorem VL.iV {o:Oper} {L:List (Fl×Oper)} {M:MV->VH->Prop} (hg:aL ops o e=some true) (hd:bm n o.dst=true) (hA:Fv o.op=true->∀brk,md= .held brk->brk≠[]) (hb:∀brk,md= .held brk->Fv o.op=false\/brk≠[]) (hy:fM P n D o e O M)
  (ph:∀brk,md= .held brk->∀i,ops[i]?=some o->brk.contains i=true) (h:∀m O',M m O'->VL P n D md ops L (aU o.dst m e) O' Q):VL P n D md ops ((.one,o)::L) e O Q:=by
 intro fuel listed ix hf hp
 match ix,hf with
 | (i,g)::ix,hf=>
   obtain⟨rfl,ho,hf⟩:=hf;cases md with
   | plain=>exact g_.one (aH.iV ho hg hd hy fun m O' hM=>h m O' hM 0 #[] ix hf (fun h=>absurd rfl h))
   | any=>
     obtain⟨h1,h2⟩:=hp (by simp);cases fuel with
     | zero=>cases h2
     | succ fuel=>
       simp only[cE,Bool.and_eq_true]at h2;have hr:Region.ready .any ops listed=[i]:=by simpa using h2.1
       exact cf.all hr (by simp) fun j hj=>by
        obtain rfl:j=i:=by simpa using hj
        exact aH.iV ho hg hd hy fun m O' hM=>h m O' hM fuel (listed.setIfInBounds j true) ix hf (fun _=>⟨h1,h2.2⟩)
   | reads=>
     obtain⟨h1,h2⟩:=hp (by simp);cases fuel with
     | zero=>cases h2
     | succ fuel=>
       simp only[cE,Bool.and_eq_true]at h2;exact absurd h2.1 (by simp)
   | held brk=>
     obtain⟨h1,h2⟩:=hp (by simp);cases fuel with
     | zero=>cases h2
     | succ fuel=>
       simp only[cE,Bool.and_eq_true]at h2;have hr:Region.ready .any ops listed=[i]:=by simpa using h2.1.1
       have yB:∀j,(listed.setIfInBounds i true).getD j true=false\/j=i->brk.contains j=true:=by
        rcases rC ho h2.1.2 with⟨h3,_⟩ | h3
        ·rw[ph brk rfl i ho]at h3;cases h3
        ·exact h3
       exact bE.Xi hr yB (aH.iV ho hg hd hy fun m O' hM=>h m O' hM fuel (listed.setIfInBounds i true) ix hf (fun _=>⟨h1,h2.2⟩))
theorem VL.pq {o:Oper} {L:List (Fl×Oper)} {M:MV->VH->Prop} (hy:fM P n D o e O M) (h:∀m O',M m O'->VL P n D md ops L (aU o.dst m e) O' Q) (hmd:md= .plain\/md= .any:=by exact .inl rfl) (hg:aL ops o e=some true:=by exact rfl) (hd:bm n o.dst=true:=by exact rfl):VL P n D md ops ((.one,o)::L) e O Q:=by
 rcases hmd with rfl | rfl
 ·exact VL.iV hg hd (fun _ _ h=>by cases h) (fun _ h=>by cases h) hy (fun _ h=>by cases h) h
 ·exact VL.iV hg hd (fun _ _ h=>by cases h) (fun _ h=>by cases h) hy (fun _ h=>by cases h) h
def yX (O:VH) (sz:Nat):MV->Option (Nat×List MV)
 | .sl k ds _=>if ds.length=k*sz then some (k,ds)else none
 | .bp k o n _=>match O.hp k with
   | some (.cells cs)=>if o+n*sz<=cs.length then some (n,(cs.drop o).take (n*sz))else none
   | _=>none
 | .str l=>if sz=1 then some (l.length,l.map fB)else none
 | _=>none
def yY:MV->TypeDesc->Prop
 | .str _,.string=>True
 | .str _,_=>False
 | _,.slice _=>True
 | _,_=>False
theorem strCells_eq (l:List UInt8):byteCells (⟨⟨l⟩⟩:ByteArray)=l.map fun b=>Value.int .u8 b.toNat:=by simp[byteCells]
theorem yZ (h:WR G O w) {sz k:Nat} {ds:List MV} {tx:TypeId} {d:TypeDesc} (hs:yX O sz m=some (k,ds)) (hx:VR G m u) (ht:P.underlying tx=some d) (hd:yY m d) (gV:ds.all dJ=true):∃us,Src P sz tx u k us w/\aO G ds us:=by
 unfold yX at hs;split at hs
 ·split at hs
  ·rename_i k' kD tk hl;injection hs with hs;injection hs with e1 e2;subst e1;subst e2
   have hk:∃e',P.underlying tx=some (.slice e'):=by
    cases d<;>simp only[yY]at hd
    exact⟨_,ht⟩
   obtain⟨e',hk⟩:=hk
   have nil:∀A c,k'=0->kD=[]->VR G (.sl k' kD tk) (.slice A 0 c)->∃us,Src P sz tx (.slice A 0 c) k' us w/\aO G kD us:=fun A c e1 e2 _=>by
    subst e1;subst e2
    refine⟨[],?_,aO.nil⟩;cases A with
    | none=>exact Src.ofNil w hk c
    | some A=>exact Src.ofSlice w hk A 0 c [] (by simp) (fun j u hu=>by simp at hu) (fun u hu=>by cases hu)
   cases hx with
   | slnil=>exact nil _ _ rfl rfl .slnil
   | nP h1=>exact nil _ _ rfl rfl (.nP h1)
   | jH=>exact nil _ _ rfl rfl .jH
   | sl h1 h2 h3 h4 h5 h6=>
     rename_i us c b o;have hv:aO G kD us:=⟨h1,h3⟩;exact⟨us,Src.ofSlice w hk _ k' c us (by rw[h1,hl]) (fun j u hu=>by rw[Addr.add_lit];exact h.dX _ _ _ (h2 j u hu)) (xE hv gV),hv⟩
  ·cases hs
 ·rename_i k' o n' c';split at hs
  ·rename_i cs Da;split at hs
   ·rename_i hle;injection hs with hs;injection hs with e1 e2;subst e1;subst e2
    have hk:∃e',P.underlying tx=some (.slice e'):=by
     cases d<;>simp only[yY]at hd
     exact⟨_,ht⟩
    obtain⟨e',hk⟩:=hk;cases hx with
    | bp hp hn hm=>
      rename_i b;obtain⟨b',C,T,h1,h2,h3⟩:=h.cells k' cs Da;rw[hp]at h1;injection h1 with h1;subst h1
      have hv:=(h3.drop o).take (n'*sz);refine⟨_,Src.ofSlice w hk ⟨b,o,none⟩ n' c' _ ?_ (fun j u hu=>?_) (xE hv gV),hv⟩
      ·rw[hv.1];simp;omega
      ·rw[Addr.add_lit];rw[List.getElem?_take]at hu;split at hu
       ·rw[List.getElem?_drop,List.getElem?_take]at hu;split at hu
        ·simp only[World.cell?,h2,Option.isSome_none,Bool.false_eq_true,if_false];simpa using hu
        ·cases hu
       ·cases hu
   ·cases hs
  ·cases hs
 ·rename_i l;split at hs
  ·rename_i oc;subst oc;injection hs with hs;injection hs with e1 e2;subst e1;subst e2
   have hk:P.underlying tx=some .string:=by
    cases d<;>simp only[yY]at hd
    exact ht
   cases hx;refine⟨_,Src.ofString w hk ⟨⟨l⟩⟩,?_⟩;rw[strCells_eq];exact DG l
  ·cases hs
 ·cases hs
theorem XK {α :Type} {s:Sem α} {x y: α} {w1 w2:World} (h1:s.run P w= .ok x w1) (h2:s.run P w= .ok y w2):w1=w2:=by
 rw[h1]at h2;injection h2
theorem On (h:WR G O w) {k b i:Nat} {cs:List MV} (hk:O.hp k=some (.cells cs)) (hp:G.bL k=some b) (hi:i<cs.length):(w.cell? ⟨b,i,none⟩).isSome=true/\w.frozen? ⟨b,i,none⟩=false:=by
 obtain⟨b',C,T,e1,e2,e3⟩:=h.cells k cs hk;rw[hp]at e1;injection e1 with e1;subst e1
 have hlen:i<C.size:=by have:=e3.1;simp at this;omega
 constructor
 ·simp only[World.cell?,e2,Option.isSome_none,Bool.false_eq_true,if_false,Array.getElem?_eq_getElem hlen,Option.isSome_some]
 ·obtain⟨t',⟨lo,hi⟩,cW⟩:=T;dsimp only at e2 cW;simp only[World.frozen?,e2,Bool.and_eq_false_imp,decide_eq_true_eq,decide_eq_false_iff_not];intro;omega
theorem Kr (ht:aK P tab) (h:WR G O w) {t tx ty el:TypeId} {te:cz} {d:TypeDesc} {k o n' c j:Nat} {cs ds:List MV} (hu:(tab t).map cz.under=some (.slice el)) (he:tab el=some te) (uL:P.underlying tx=some d) (hk:O.hp k=some (.cells cs)) (hs:yX O te.size m=some (j,ds)) (hd:yY m d) (gV:ds.all dJ=true)
  (oh:n'+j<=c) (hle:o+n'*te.size+ds.length<=cs.length) (hx:VR G (.bp k o n' c) u) (hy:VR G m v):
  ∃w' A,(Builtin.append_ #[t,tx] ty #[u,v]).run P w= .ok (.slice A (n'+j) c) w'/\WR G (O.set k (.cells (d_ cs (o+n'*te.size) ds))) w'/\VR G (.bp k o (n'+j) c) (.slice A (n'+j) c):=by
 obtain⟨ti,z,i1,i2,i3,i4,i5,i6⟩:=(ht _ te he).info;obtain⟨us,oG,hv⟩:=yZ (P:=P) h hs hy uL hd gV;cases hx with
 | bp hp hn hm=>
   rename_i b;have iR:=fun(q:Nat) (hq:q<us.length)=>On h (i:=o+n'*te.size+q) hk hp (by have:=hv.1;omega)
   rw[<-i2]at oG iR;have hr:=run_append_room_src (P:=P) w t tx ty el ti (bB ht hu) i1 b o n' c v j us oG oh (fun q hq=>(iR q hq).1) (fun q hq=>(iR q hq).2);obtain⟨w2,fi,qk⟩:=xG (P:=P) hp (o+n'*te.size) ds us 0 cs O w h hk hv gV (by omega);have gI:=run_storeCells_cells (P:=P) b (o+n'*ti.size) us 0 w (by simpa using fun q hq=>(iR q hq).1) (by simpa using fun q hq=>(iR q hq).2) oG.one;rw[i2]at gI;have:=XK fi gI;subst this;rw[i2]at hr;exact⟨_,_,hr,by simpa using qk,.bp hp oh hm⟩
def VH.xO (O:VH) (cs:List MV) (t:TypeId) (n:Nat):VH:=(O.push (.cells cs)).push (.shape O.next t n)
theorem y_ (ht:aK P tab) (h:WR G O w) {t tx ty el:TypeId} {te:cz} {d:TypeDesc} {n' c j:Nat} {A:Option Addr} {L ds:List MV} {us:List Value} (hu:(tab t).map cz.under=some (.slice el)) (he:tab el=some te) (uL:P.underlying tx=some d) (hs:yX O te.size m=some (j,ds)) (hd:yY m d) (gV:ds.all dJ=true)
  (hL:aO G L us) (om:L.length=n'*te.size) (hold:(Builtin.firstCells te.size n' (.slice A n' c)).run P w.drew= .ok us.toArray w.drew) (oh:c<n'+j) (hb:(n'+j)*te.bytes<=140737488355328) (hm:n'+j<=maxLen) (hy:VR G m v):
  ∃c' w' H zs,n'+j<=c'/\c'<=maxLen/\zs.length=(c' - (n'+j))*te.size/\(Builtin.append_ #[t,tx] ty #[.slice A n' c,v]).run P w= .ok (.slice (some ⟨w.heap.size,0,none⟩) (n'+j) c') w'/\Gh.Le G H/\WR H (O.xO (L++ds++zs) el (c'*te.size)) w'/\VR H (.bp O.next 0 (n'+j) c') (.slice (some ⟨w.heap.size,0,none⟩) (n'+j) c'):=by
 obtain⟨ti,z,i1,i2,i3,i4,i5,i6⟩:=(ht _ te he).info;obtain⟨vs,oG,hv⟩:=yZ (P:=P) h hs hy uL hd gV;have gZ:=grownCap_ge w (n'+j) c el;have hle:=grownCap_le_maxLen w (n'+j) c el hm;have XL:=oG;rw[<-i2]at XL hold;have hr:=run_append_grow_src (P:=P) w t tx ty el ti z (bB ht hu) i1 i4 A n' c us hold v j vs XL oh (by simp only[maxLen]at hm;omega) (by rw[i3];exact growslice_fits (by omega) hb)
 have hzc:aO G (gX te.zero ((grownCap w (n'+j) c el - (n'+j))*te.size)) (Builtin.zeroCells z.cells (grownCap w (n'+j) c el - (n'+j))).toList:=by
  rcases Nat.eq_zero_or_pos te.zero.length with hz | hz
  ·have hz0:te.size=0:=by have:=(i6 G).1;rw[Array.length_toList,i5]at this;omega
   have:z.cells.size=0:=by rw[i5,hz0]
   rw[hz0,Nat.mul_zero];refine⟨by simp[gX,Builtin.zeroCells,this],fun i c u hc=>by simp[gX]at hc⟩
  ·have hzz:=xH (i6 G) hz ((grownCap w (n'+j) c el - (n'+j))*te.size);rw[<-i5]at hzz ⊢;exact hzz
 have j9:=(hL.append hv).append hzc;obtain⟨g1,g2⟩:=h.drew.push (cs:=L++ds++gX te.zero ((grownCap w (n'+j) c el - (n'+j))*te.size)) (C:=(us++vs).toArray++Builtin.zeroCells z.cells (grownCap w (n'+j) c el - (n'+j))) el (by simpa using j9);have jk:(us++vs).length=(n'+j)*te.size:=by rw[List.length_append,hL.1,om,oG.newsLen,Nat.add_mul]
 have oc:((us++vs).toArray++Builtin.zeroCells z.cells (grownCap w (n'+j) c el - (n'+j))).size=grownCap w (n'+j) c el*te.size:=by
  rw[Array.size_append,JP,i5,List.size_toArray,jk, <-Nat.add_mul]
  congr 1;omega
 refine⟨grownCap w (n'+j) c el,_,_,gX te.zero ((grownCap w (n'+j) c el - (n'+j))*te.size),gZ,hle,by simp[gX],hr,g1,g2.De (aG _ _ _) ?_,.bp (aG _ _ _) gZ hle⟩
 have:(w.drew.alloc (.cells ((us++vs).toArray++Builtin.zeroCells z.cells (grownCap w (n'+j) c el - (n'+j))) el)).heap[w.drew.heap.size]?=some (.cells ((us++vs).toArray++Builtin.zeroCells z.cells (grownCap w (n'+j) c el - (n'+j))) el):=by
  rw[eY,if_pos rfl]
 show World.shape? _ w.drew.heap.size=_;simp only[World.shape?,this,oc]
structure Row (O:VH) (el:TypeId) (sz B k c:Nat) (L:List MV):Prop where
 cells:∃sp,O.hp k=some (.cells (L++sp))/\(L++sp).length=c*sz
 nw:∃j,B<=j/\j<O.next/\O.hp j=some (.shape k el (c*sz))
 lo:B<=k
 hi:k<O.next
structure bq (O:VH) (q:Option Nat) (O':VH):Prop where
 next:O.next<=O'.next
 hp:∀i,i<O.next->q≠some i->O'.hp i=O.hp i
def gid:MV->Option Nat
 | .bp k _ _ _=>some k
 | .ptr k _=>some k
 | _=>none
def GR (O:VH) (el:TypeId) (sz B:Nat) (p:MV) (n:Nat) (L:List MV):Prop:=
 (n=0/\L=[]/\(p= .sl 0 [] .nil\/p= .sl 0 [] .full))\/∃k c,p= .bp k 0 n c/\n<=c/\L.length=n*sz/\Row O el sz B k c L
section
variable {el:TypeId} {sz B B' k c q:Nat} {L:List MV} {O1:VH} {x:b_}
theorem bq.refl (O:VH) (q:Option Nat):bq O q O:=⟨Nat.le_refl _,fun _ _ _=>rfl⟩
theorem bq.ge (h:O.Ge O1) (u:bq O1 (some q) O') (hq:O.next<=q):O.Ge O':=⟨Nat.le_trans h.next u.next,fun i hi=>(u.hp i (Nat.lt_of_lt_of_le hi h.next) (by intro e;injection e;omega)).trans (h.hp i hi)⟩
theorem bq.geN (h:O.Ge O1) (u:bq O1 none O'):O.Ge O':=⟨Nat.le_trans h.next u.next,fun i hi=>(u.hp i (Nat.lt_of_lt_of_le hi h.next) (by simp)).trans (h.hp i hi)⟩
theorem bq.lI (h:O.Ge O'):bq O none O':=⟨h.next,fun i hi _=>h.hp i hi⟩
theorem bq.trans {o:Option Nat} (h:bq O o O1) (h2:bq O1 o O'):bq O o O':=⟨Nat.le_trans h.next h2.next,fun i hi hq=>(h2.hp i (Nat.lt_of_lt_of_le hi h.next) hq).trans (h.hp i hi hq)⟩
theorem bq.any {o:Option Nat} (h:bq O none O'):bq O o O':=⟨h.next,fun i hi _=>h.hp i hi (by simp)⟩
theorem bq.set:bq O (some q) (O.set q x):=⟨Nat.le_refl _,fun i _ h=>VH.ak _ _ (fun e=>h (by rw[e]))⟩
theorem bq.push:bq O none (O.push x):=⟨Nat.le_succ _,fun i hi _=>VH.bw _ _ hi⟩
theorem bq.kill:bq O (some q) (O.kill q):=⟨Nat.le_refl _,fun i _ h=>VH.kC _ (fun e=>h (by rw[e]))⟩
theorem Row.pr (h:Row O el sz B k c L) (u:bq O (some q) O') (hq:q≠k) (hs:∀t n,O.hp q≠some (.shape k t n)):Row O' el sz B k c L:=by
 obtain⟨sp,h1,h2⟩:=h.cells;obtain⟨j,h3,h4,h5⟩:=h.nw;refine⟨⟨sp,(u.hp k h.hi (by simpa using hq)).trans h1,h2⟩,⟨j,h3,Nat.lt_of_lt_of_le h4 u.next,(u.hp j h4 ?_).trans h5⟩,h.lo,Nat.lt_of_lt_of_le h.hi u.next⟩;intro e;injection e with e;subst e;exact hs _ _ h5
theorem Row.xP (h:Row O el sz B k c L) (u:bq O none O'):Row O' el sz B k c L:=by
 obtain⟨sp,h1,h2⟩:=h.cells;obtain⟨j,h3,h4,h5⟩:=h.nw;exact⟨⟨sp,(u.hp k h.hi (by simp)).trans h1,h2⟩,⟨j,h3,Nat.lt_of_lt_of_le h4 u.next,(u.hp j h4 (by simp)).trans h5⟩,h.lo,Nat.lt_of_lt_of_le h.hi u.next⟩
theorem GR.xP {p:MV} {n:Nat} (h:GR O el sz B p n L) (u:bq O none O'):GR O' el sz B p n L:=by
 rcases h with h | ⟨k,c,h1,h2,h3,h4⟩
 ·exact .inl h
 ·exact .inr ⟨k,c,h1,h2,h3,h4.xP u⟩
theorem GR.pr {p:MV} {n:Nat} (h:GR O el sz B p n L) (u:bq O (some q) O') (hq:gid p≠some q) (hs:∀k t n,O.hp q≠some (.shape k t n)):GR O' el sz B p n L:=by
 rcases h with h | ⟨k,c,h1,h2,h3,h4⟩
 ·exact .inl h
 ·exact .inr ⟨k,c,h1,h2,h3,h4.pr u (fun e=>hq (by rw[h1,e];rfl)) (hs k)⟩
theorem Row.aed {L':List MV} (h:Row O el sz B k c L) {sp:List MV} (hl:(L'++sp).length=c*sz):Row (O.set k (.cells (L'++sp))) el sz B k c L':=by
 obtain⟨j,h3,h4,h5⟩:=h.nw;refine⟨⟨sp,VH.an _ _ _,hl⟩,⟨j,h3,h4,?_⟩,h.lo,h.hi⟩;rw[VH.ak _ _ (fun e=>?_)]
 ·exact h5
 ·subst e;obtain⟨sp,h1,_⟩:=h.cells;rw[h1]at h5;cases h5
theorem Row.wider (h:Row O el sz B k c L) (hB:B'<=B):Row O el sz B' k c L:=by
 obtain⟨j,h3,h4,h5⟩:=h.nw;exact⟨h.cells,⟨j,Nat.le_trans hB h3,h4,h5⟩,Nat.le_trans hB h.lo,h.hi⟩
theorem Row.xO {cs:List MV} {t:TypeId} {sp:List MV} (hl:(L++sp).length=c*sz) (hB:B<=O.next):Row (O.xO (L++sp) el (c*sz)) el sz B O.next c L:=
 ⟨⟨sp,(VH.bw _ _ (by show O.next<O.next+1;omega)).trans (VH.aV _ _),hl⟩,⟨O.next+1,by omega,by show O.next+1<O.next+1+1;omega,VH.aV _ _⟩,hB,by show O.next<O.next+1+1;omega⟩
theorem zb (L ds sp:List MV):d_ (L++sp) L.length ds=L++ds.take sp.length++sp.drop ds.length:=by
 induction ds generalizing L sp with
 | nil=>simp[d_]
 | cons d ds ih=>
   cases sp with
   | nil=>
     simp only[List.append_nil,List.length_nil,List.take_zero,List.drop_nil,d_]
     have:∀(ds:List MV) (o:Nat),L.length<=o->d_ L o ds=L:=by
      intro ds;induction ds with
      | nil=>intro o _;rfl
      | cons x xs ih=>intro o ho;rw[d_,List.set_eq_of_length_le ho];exact ih (o+1) (by omega)
     rw[List.set_eq_of_length_le (Nat.le_refl _)];exact this ds _ (by omega)
   | cons s sp=>
     have:=ih (L++[d]) sp;simp only[d_];rw[List.set_append_right _ _ (Nat.le_refl _),Nat.sub_self,List.set_cons_zero];simp only[List.append_assoc,List.singleton_append,List.length_append,List.length_cons,List.length_nil]at this;rw[this];simp
end
theorem VL.grow (ht:aK P tab) {el:TypeId} {te:cz} {B n' j:Nat} {L ds:List MV} {p q:MV} {dx:TypeDesc} {d:Option Tmp} {x y:Operand} {t tx ty:TypeId} {ps:String} {af:Array Edge} {g:Option (Nat×Bool)} {LL:List (Fl×Oper)} (hmd:md= .plain\/md= .any)
  (hr:GR O el te.size B p n' L) (hs:yX O te.size q=some (j,ds)) (gV:ds.all dJ=true) (hu:(tab t).map cz.under=some (.slice el)) (he:tab el=some te) (uL:(tab tx).map cz.under=some dx) (DJ:yY q dx) (hb:(n'+j)*te.bytes<=140737488355328) (hm:n'+j<=maxLen) (hB:B<=O.next)
  (hx:ev e x=some p) (hy:ev e y=some q) (hg:aL ops (.mk d (.call {callee:=.builtin .append,args:= #[x,y],argTypes:= #[t,tx]}) ty ps af g) e=some true) (hd:bm n d=true)
  (h:∀m O',GR O' el te.size B m (n'+j) (L++ds)->bq O (gid p) O'->(gid p=none->O.Ge O')->((∃k c,m= .bp k 0 (n'+j) c/\(gid p=some k\/(O.next<=k/\j≠0)))\/(j=0/\m=p/\O'=O))->WL P tab n D md ops Q LL (aU d m e) O'):
  VL P n D md ops ((.one,.mk d (.call {callee:=.builtin .append,args:= #[x,y],argTypes:= #[t,tx]}) ty ps af g)::LL) e O Q:=by
 refine VL.pq (M:=fun m O'=>GR O' el te.size B m (n'+j) (L++ds)/\bq O (gid p) O'/\(gid p=none->O.Ge O')/\((∃k c,m= .bp k 0 (n'+j) c/\(gid p=some k\/(O.next<=k/\j≠0)))\/(j=0/\m=p/\O'=O))) (fun G a w hw hf=>?_) (hmd:=hmd) (hg:=hg) (hd:=hd) fun m O' ⟨h1,h2,h3,h4⟩=>WL.sound ht (h m O' h1 h2 h3 h4)
 have mR:=hf.ev hx;have wR:=hf.ev hy;have fh:=bB ht uL
 have fin:∀{m O' u w' H},(GR O' el te.size B m (n'+j) (L++ds)/\bq O (gid p) O'/\(gid p=none->O.Ge O')/\((∃k c,m= .bp k 0 (n'+j) c/\(gid p=some k\/(O.next<=k/\j≠0)))\/(j=0/\m=p/\O'=O)))->(Builtin.append_ #[t,tx] ty #[a.eval x,a.eval y]).run P w= .ok u w'->Gh.Le G H->WR H O' w'->VR H m u->
   ∃m O' u w' H,(GR O' el te.size B m (n'+j) (L++ds)/\bq O (gid p) O'/\(gid p=none->O.Ge O')/\((∃k c,m= .bp k 0 (n'+j) c/\(gid p=some k\/(O.next<=k/\j≠0)))\/(j=0/\m=p/\O'=O)))/\(execOp a.eval (.mk d (.call {callee:=.builtin .append,args:= #[x,y],argTypes:= #[t,tx]}) ty ps af g)).run P w= .ok (.value u) w'/\Gh.Le G H/\WR H O' w'/\VR H m u:=fun hM cc h1 h2 h3=>
  ⟨_,_,_,_,_,hM,by simp only[execOp,resolve,invoke,builtin,List.map_toArray,List.map_cons,List.map_nil,Sem.run_bind,Sem.run_pure,Result.andThen_ok]<;>simp[cc],h1,h2,h3⟩
 obtain⟨vs,oG,hv⟩:=yZ (P:=P) hw hs wR fh DJ gV;have lW:ds.length=j*te.size:=by rw[<-hv.1];exact oG.newsLen
 rcases hr with⟨rfl,rfl,hp⟩ | ⟨k,c,rfl,zc,om,cL⟩
 ·have hA:∃A,a.eval x= .slice A 0 0/\(∀w',(Builtin.firstCells te.size 0 (.slice A 0 0)).run P w'= .ok #[] w'):=by
   generalize a.eval x=u at mR
   have key:∀A:Option Addr,∀w',(Builtin.firstCells te.size 0 (.slice A 0 0)).run P w'= .ok #[] w':=fun A w'=>by
    cases A<;>simp[Builtin.firstCells,loadCells,loadCellsFrom]
   rcases hp with rfl | rfl
   ·cases mR with
    | slnil=>exact⟨_,rfl,key _⟩
    | sl h1 h2 h3 h4 h5 h6=>exact h6.elim
   ·cases mR with
    | sl h1 h2 h3 h4 h5 h6=>
      have h6:_=0:=h6;subst h6;exact⟨_,rfl,key _⟩
  obtain⟨A,hA,Kt⟩:=hA;have XM:gid p=none:=by rcases hp with rfl | rfl<;>rfl
  by_cases hj:j=0
  ·subst hj;have qS:ds=[]:=List.eq_nil_of_length_eq_zero (by simpa using lW);subst qS;refine fin (m:=p) (O':=O) (u:=a.eval x) (w':=w) (H:=G) ⟨.inl ⟨rfl,rfl,hp⟩,bq.refl _ _,fun _=>VH.Ge.refl _,.inr ⟨rfl,rfl,rfl⟩⟩ ?_ (Gh.Le.refl G) hw mR;have iu:vs=[]:=by have:=hv.1;simpa using this
   subst iu;rw[hA];have eR:=bB ht hu;obtain⟨ti,z,i1,i2,_⟩:=(ht _ te he).info;rcases oG.kind with⟨e',hk⟩ | hk<;>cases A<;>simp[Builtin.append_,run_underlying eR,run_underlying hk,eZ (ht _ te he),oG.len,oG.cells,storeCells]
  ·rw[hA]at fin;obtain⟨c',w',H,zs,g1,g2,g3,g4,g5,g6,g7⟩:=y_ (P:=P) ht hw (n':=0) (c:=0) (A:=A) (L:=[]) (us:=[]) (ty:=ty) hu he fh hs DJ gV aO.nil (by simp) (Kt _) (by omega) hb hm wR;refine fin ⟨.inr ⟨O.next,c',rfl,g1,by rw[List.length_append,lW];simp,?_⟩,?_,fun _=>?_,.inl ⟨_,_,rfl,.inr ⟨Nat.le_refl _,hj⟩⟩⟩ g4 g5 g6 g7
   ·refine Row.xO (cs:=[]) (t:=el) ?_ hB;rw[List.length_append,g3,List.length_append,lW,List.length_nil,Nat.zero_add, <-Nat.add_mul]
    congr 1;omega
   ·rw[XM];exact bq.push.trans bq.push
   ·exact((VH.Ge.refl O).push _).push _
 ·obtain⟨sp,ic,mO⟩:=cL.cells;generalize oo:a.eval x=u at mR;have XN:=mR;cases XN with
  | bp hp hn hmx=>
    rename_i b;rw[oo]at fin;have hmul:(n'+j)*te.size=n'*te.size+j*te.size:=Nat.add_mul _ _ _;by_cases oh:n'+j<=c
    ·have hle:(n'+j)*te.size<=c*te.size:=Nat.mul_le_mul_right _ oh;obtain⟨w',A,g1,g2,g3⟩:=Kr (P:=P) (ty:=ty) ht hw hu he fh ic hs DJ gV oh (by rw[mO,lW];omega) mR wR;rw[Nat.zero_add, <-om,zb]at g2
     have GW:ds.length<=sp.length:=by
      rw[List.length_append]at mO;omega
     rw[List.take_of_length_le GW]at g2;refine fin ⟨.inr ⟨k,c,rfl,oh,by rw[List.length_append,om,lW,hmul],cL.aed ?_⟩,bq.set,(fun h=>by cases h),.inl ⟨_,_,rfl,.inl rfl⟩⟩ g1 (Gh.Le.refl G) g2 g3;rw[List.length_append,List.length_append,List.length_drop];rw[List.length_append]at mO;omega
    ·obtain⟨b',C,T,d1,d2,d3⟩:=hw.cells k _ ic;rw[hp]at d1;injection d1 with d1;subst d1
     have hL:=d3.take L.length;rw[List.take_left,List.take_take,Nat.min_eq_left (by rw[List.length_append];omega)]at hL
     have hold:(Builtin.firstCells te.size n' (.slice (some ⟨b,0,none⟩) n' c)).run P w.drew= .ok (C.toList.take L.length).toArray w.drew:=by
      refine run_firstCells_some (P:=P) w.drew te.size n' ⟨b,0,none⟩ n' c _ (by rw[hL.1,om]) fun i u hu=>?_
      rw[Addr.add_lit,Nat.zero_add];rw[List.getElem?_take]at hu;split at hu
      ·have jV:w.drew.heap[b]?=some (.cells C T.t T.fr):=d2;simp only[World.cell?,jV,Option.isSome_none,Bool.false_eq_true,if_false];simpa using hu
      ·cases hu
     obtain⟨c',w',H,zs,g1,g2,g3,g4,g5,g6,g7⟩:=y_ (P:=P) (ty:=ty) ht hw (n':=n') (c:=c) (A:=some ⟨b,0,none⟩) (L:=L) hu he fh hs DJ gV hL om hold (by omega) hb hm wR;refine fin ⟨.inr ⟨O.next,c',rfl,g1,by rw[List.length_append,om,lW,hmul],?_⟩,(bq.push.trans bq.push).any,(fun h=>by cases h),.inl ⟨_,_,rfl,.inr ⟨Nat.le_refl _,by omega⟩⟩⟩ g4 g5 g6 g7;refine Row.xO (cs:=[]) (t:=el) ?_ hB;rw[List.length_append,g3,List.length_append,om,lW, <-hmul, <-Nat.add_mul]
     congr 1;omega
end
section
variable {G H:Gh} {n:Sz} {D:List Deferred} {e:Env} {a:Act} {P:Program} {tab:b9} {O O':VH} {w:World} {m m':MV} {u v:Value} {ops:Array Oper} {Q:VQ} {md:Md}
def ig (P:Program) (n:Sz) (D:List Deferred) (o:Oper) (e:Env) (m:MV):Prop:=∀G a,FR G n D e a->dm P o a G m
theorem aH.pure {i:Nat} {o:Oper} {K:Env->VH->Prop} (ho:ops[i]?=some o) (hg:aL ops o e=some true) (hd:bm n o.dst=true) (hy:ig P n D o e m) (h:K (aU o.dst m e) O):aH P n D ops i e O Q K:=by
 refine aH.iV (M:=fun m' O'=>m'=m/\O'=O) ho hg hd (fun G a w hw hf=>?_) (by rintro m' O' ⟨rfl,rfl⟩;exact h);obtain⟨u,hu,hr⟩:=hy G a hf;exact⟨m,O,u,w,G,⟨rfl,rfl⟩,hr w hw.ss,Gh.Le.refl G,hw,hu⟩
theorem VL.pure {f:Fl} {o:Oper} {L:List (Fl×Oper)} (Kb:f≠ .fk) (hh:f= .one->iU md=true\/md= .any) (hg:aL ops o e=some true) (hd:bm n o.dst=true) (hy:ig P n D o e m) (h:VL P n D md ops L (aU o.dst m e) O Q):VL P n D md ops ((f,o)::L) e O Q:=by
 intro fuel listed ix hf hp
 match ix,hf with
 | (i,g)::ix,hf=>
   obtain⟨rfl,ho,hf⟩:=hf;cases md with
   | plain=>exact g_.one (aH.pure ho hg hd hy (h 0 #[] ix hf (fun h=>absurd rfl h)))
   | any=>
     obtain⟨h1,h2⟩:=hp (by simp);cases fuel with
     | zero=>cases h2
     | succ fuel=>
       simp only[cE,Bool.and_eq_true]at h2;have hk:=h fuel (listed.setIfInBounds i true) ix hf (fun _=>⟨h1,h2.2⟩);cases g with
       | one=>
         have hr:Region.ready .any ops listed=[i]:=by simpa using h2.1
         exact cf.all hr (by simp) fun j hj=>by
          obtain rfl:j=i:=by simpa using hj
          exact aH.pure ho hg hd hy hk
       | av=>
         simp only[Bool.and_eq_true]at h2;intro G a w hw aS;obtain⟨u,hu,hr⟩:=hy G a aS;exact wpAnyH_take ho h1 h2.1.1 h2.1.2 (gK hd) (.inl ⟨bj aS hg,hr⟩) hw.ss (hk G _ w hw (aS.aU hd hu))
       | rd=>exact absurd h2.1 (by simp)
       | fk=>exact absurd rfl Kb
   | reads=>
     obtain⟨h1,h2⟩:=hp (by simp);cases fuel with
     | zero=>cases h2
     | succ fuel=>
       simp only[cE,Bool.and_eq_true]at h2;have hk:=h fuel (listed.setIfInBounds i true) ix hf (fun _=>⟨h1,h2.2⟩);intro G a w hw aS;obtain⟨u,hu,cc⟩:=hy G a aS;have h3:Region.free .any ops listed i=true/\(Region.ready .any ops listed).contains i=true:=by cases g<;>simp_all
       exact wpAnyH_take ho h1 h3.1 h3.2 (gK hd) (.inl ⟨bj aS hg,fun w' qM=>by rw[qM];exact cc w hw.ss⟩) rfl (hk G _ w hw (aS.aU hd hu))
   | held brk=>
     obtain⟨h1,h2⟩:=hp (by simp);cases fuel with
     | zero=>cases h2
     | succ fuel=>
       simp only[cE,Bool.and_eq_true]at h2;have hk:=h fuel (listed.setIfInBounds i true) ix hf (fun _=>⟨h1,h2.2⟩)
       have hyy:∀G a w,WR G O w->FR G n D e a->∃u,VR G m u/\YieldsIf P ops (Sx G w) o u a:=fun G a w hw aS=>by
        obtain⟨u,hu,cc⟩:=hy G a aS;exact⟨u,hu,.inl ⟨bj aS hg,fun x hx=>cc x hx.1⟩⟩
       cases g with
       | one=>rcases hh rfl with h3 | h3<;>cases h3
       | fk=>exact absurd rfl Kb
       | av=>
         simp only[Bool.and_eq_true]at h2;exact bE.take ho h1 h2.1.1.1 h2.1.1.2 h2.1.2 hd hyy hk
       | rd=>
         simp only[Bool.and_eq_true]at h2;exact bE.take ho h1 h2.1.1.1 h2.1.1.2 h2.1.2 hd hyy hk
def Ku (P:Program) (tab:b9):Nat->TypeId->MV->MV->Option Bool
 | 0,_,_,_=>none
 | d+1,t,x,y=>match(tab t).map cz.under,x,y with
   | some .bool,.v (.bool a),.v (.bool b)=>some (a==b)
   | some (.int _),.v (.int k a),.v (.int k' b)=>if k=k' then some (a==b)else none
   | some .string,.str a,.str b=>some (a==b)
   | some (.struct fs),.agg xs,.agg ys=>if P.stoodInHeld t then none else fs.toList.foldr (fun f acc=>
     if f.name≠ "_" then match Au tab f.type xs f.offset,Au tab f.type ys f.offset with
      | some p,some q=>match Ku P tab d f.type p q,acc with
        | some b,some c=>some (b&&c)
        | _,_=>none
      | _,_=>none
     else acc) (some true)
   | _,_,_=>none
theorem Kv (ht:aK P tab):∀(d:Nat) {t:TypeId} {x y:MV} {u v:Value} {b:Bool},Ku P tab d t x y=some b->VR G x u->VR G y v->∀(k:Nat) (w:World),(Op.equalIn (d+k) t u v).run P w= .ok b w
 | 0,_,_,_,_,_,_,h,_,_,_,_=>by cases h
 | d+1,t,x,y,u,v,b,h,hx,hy,k,w=>by
   rw[show d+1+k=d+k+1 from by omega];simp only[Ku]at h;split at h
   ·rename_i hu;injection h with h;subst h
    cases hx;cases hy
    exact run_equalIn_bool w _ _ _ _ (bB ht hu)
   ·rename_i k0 k1 a k2 c hu;split at h
    ·subst k1;injection h with h;subst h
     cases hx;cases hy
     exact run_equalIn_int w _ _ _ _ _ _ (bB ht hu)
    ·cases h
   ·rename_i l r hu;injection h with h;subst h
    cases hx;rename_i e1;cases hy;rw[run_equalIn_string w _ _ _ _ (bB ht hu),toList_mk,toList_mk]
   ·rename_i fs xs ys hu;split at h
    ·cases h
    ·rename_i dB;cases hx with
     | agg a1 a2=>
       cases hy with
       | agg b1 b2=>
         rename_i us vs;have eR:=bB ht hu;have hfo:P.fieldsOf t=fs:=by simp only[Program.fieldsOf,eR]
         rw[run_equalIn_struct w _ _ _ _ (by rw[hfo];exact eR) (by simpa using dB),hfo];have hxs:aO G xs us:=⟨a1,a2⟩;have Oo:aO G ys vs:=⟨b1,b2⟩;generalize fs.toList=l at h;clear hu eR hfo;induction l generalizing b with
         | nil=>
           simp only[List.foldr_nil,Option.some.injEq]at h;subst h;rfl
         | cons f l ih=>
           simp only[List.foldr_cons]at h;simp only[Op.eqFields];split at h
           ·rename_i hn;rw[if_pos hn];split at h
            ·rename_i p q hp hq;split at h
             ·rename_i b1 c1 cA fN;injection h with h;subst h
              obtain⟨r1,g1,g2⟩:=vQ (P:=P) ht hp hxs;obtain⟨r2,g3,g4⟩:=vQ (P:=P) ht hq Oo;have hr:=Kv ht d cA g2 g4 k w;simp only[Sem.run_bind,g1 w,g3 w,hr,Result.andThen_ok];cases b1
              ·simp
              ·simpa using ih _ fN
             ·cases h
            ·cases h
           ·rename_i hn;rw[if_neg hn];exact ih _ h
   ·cases h
theorem VL.DK (ht:aK P tab) {f:Fl} {op:BinOp} {t t' ty:TypeId} {d:Option Tmp} {x y:Operand} {ps:String} {af:Array Edge} {g:Option (Nat×Bool)} {L:List (Fl×Oper)} {xs ys:List MV} {b:Bool} {bb:Bool} (Kb:f≠ .fk) (hh:f= .one->iU md=true\/md= .any)
  (uq:(op= .eql/\bb=b)\/(op= .neq/\bb= !b)) (hq:Ku P tab 9 t (.agg xs) (.agg ys)=some b) (hgt:P.eqGuardType P.depth t=false) (hx:ev e x=some (.agg xs)) (hy:ev e y=some (.agg ys)) (hg:aL ops (.mk d (.binOp op t x y t') ty ps af g) e=some true) (hd:bm n d=true)
  (h:WL P tab n D md ops Q L (aU d (.v (.bool bb)) e) O):VL P n D md ops ((f,.mk d (.binOp op t x y t') ty ps af g)::L) e O Q:=by
 refine VL.pure Kb hh hg hd (fun G a hf=>?_) (WL.sound ht h);have h1:=hf.ev hx;have h2:=hf.ev hy;have hr:=fun w=>Kv (P:=P) ht 9 hq h1 h2 9991 w
 generalize hu:a.eval x=u at h1 hr;generalize hv:a.eval y=v at h2 hr;cases h1 with
 | agg a1 a2=>
   cases h2 with
   | agg b1 b2=>
     rename_i us vs;refine dm.of (s:=do eqGuard op t x y (.agg us.toArray) (.agg vs.toArray);binOp op t (.agg us.toArray) (.agg vs.toArray)) (aW.of (u:=.bool bb) (fun w _=>?_) (.v rfl)) (by simp[execOp,hu,hv]);rw[Sem.run_bind,run_eqGuard_agg w op t x y _ _ hgt,Result.andThen_ok];rcases uq with⟨rfl,rfl⟩ | ⟨rfl,rfl⟩
     ·rw[run_eql_struct,hr w];rfl
     ·rw[run_neq_struct,hr w];rfl
theorem WR.Tz (h:WR G O w) {b:Nat} {C:Array Value} {t:TypeId} {fr fr':Nat×Nat} {w':World} (hb:w.heap[b]?=some (.cells C t fr)) (hB:G.B<=b) (mF:w'.heap[b]?=some (.cells C t fr')) (ho:∀j,j≠b->w'.heap[j]?=w.heap[j]?) (hs:w'.heap.size=w.heap.size)
  (hos:w'.os=w.os) (afT:w'.tape=w.tape) (ahl:w'.output=w.output) (eh:∀j,O.hp j≠none->G.bL j≠some b) (ue:∀t c x,O.hp t=some .tok->G.tok t=some (c,x)->c≠b):WR G O w':=by
 have iQ:∀p,w'.cell? p=w.cell? p:=fun p=>by
  by_cases e:p.block=b
  ·simp only[World.cell?,e,hb,mF]
  ·simp only[World.cell?,ho _ e]
 refine⟨⟨hos.trans h.base.os,afT.trans h.base.tape,ahl.trans h.base.output,by rw[hs];exact h.base.size,fun j hj=>by rw[ho j (by have:j<G.B:=hj;omega)];exact h.base.block j hj⟩,fun b' o u hc=>by rw[iQ];exact h.dX b' o u hc,h.oN,fun k c hk=>?_,h.inj,fun k cs hk=>?_,fun k es ck hk=>?_,fun t ht=>?_,h.kA,
  h.n_ id (fun _ _ _ _ h=>h) fun k b' s _ hs'=>?_,h.qN id (fun _ _ h=>h) fun k x b' hk hb hx=>by rw[ho b' (fun e=>eh k (by rw[hk];simp) (e▸hb))];exact hx,h.pd,h.yz⟩
 ·obtain⟨h1,h2,h3⟩:=h.jI k c hk;exact⟨h1,by rw[hs];exact h2,h3⟩
 ·obtain⟨c,D,T',h1,h2,h3⟩:=h.cells k cs hk;exact⟨c,D,T',h1,by rw[ho c (fun e=>eh k (by rw[hk];simp) (e▸h1))];exact h2,h3⟩
 ·obtain⟨c,E,h1,h2,h3⟩:=h.map k es ck hk;exact⟨c,E,h1,by rw[ho c (fun e=>eh k (by rw[hk];simp) (e▸h1))];exact h2,h3⟩
 ·obtain⟨c,f,k,r,D,T',h1,h2,h3,h4⟩:=h.tok t ht;exact⟨c,f,k,r,D,T',h1,h2,by rw[ho c (ue t c _ ht h1)];exact h3,h4⟩
 ·by_cases e:b'=b
  ·subst e;simp only[World.shape?,hb]at hs';simp only[World.shape?,mF];exact hs'
  ·exact gG (fun x hx=>by rw[ho _ e];exact hx) hs'
def XO:Op->Bool
 | .call c=>match c.callee with
   | .builtin .unsafeString=>true
   | _=>false
 | _=>false
def v_ (md:Md) (ops:Array Oper):Bool:=match md with
 | .held brk=> !brk.isEmpty&&(List.range ops.size).all fun i=> !((ops[i]?).map fun o=>XO o.op).getD false||brk.contains i
 | _=>true
theorem wa (h:v_ md ops=true):∀brk,md= .held brk->brk≠[]:=by
 rintro brk rfl rfl;simp[v_]at h
theorem GX (h:v_ md ops=true) {o:Oper} (ho:XO o.op=true):∀brk,md= .held brk->∀i,ops[i]?=some o->brk.contains i=true:=by
 rintro brk rfl i hi;simp only[v_,Bool.and_eq_true]at h
 have:=List.all_eq_true.1 h.2 i (List.mem_range.2 (by
  rcases Nat.lt_or_ge i ops.size with h' | h'
  ·exact h'
  ·rw[Array.getElem?_eq_none h']at hi;cases hi))
 simpa[hi,ho]using this
theorem VL.ahm (ht:aK P tab) {d:Option Tmp} {x y:Operand} {pt it ty el:TypeId} {ps:String} {af:Array Edge} {g:Option (Nat×Bool)} {L:List (Fl×Oper)} {k c:Nat} {l:List UInt8} {B:Nat}
  (cW:v_ md ops=true)
  (hp:(tab pt).map cz.under=some (.pointer el)) (hce:P.cellsOf el=1) (cL:Row O el 1 B k c (l.map fB)) (ze:l≠[]) (hl:l.length<=maxLen)
  (hx:ev e x=some (.ptr k 0)) (hy:ev e y=some (.v (.int .i64 l.length))) (hg:aL ops (.mk d (.call {callee:=.builtin .unsafeString,args:= #[x,y],argTypes:= #[pt,it]}) ty ps af g) e=some true) (hd:bm n d=true)
  (h:WL P tab n D md ops Q L (aU d (.str l) e) (O.kill k)):VL P n D md ops ((.one,.mk d (.call {callee:=.builtin .unsafeString,args:= #[x,y],argTypes:= #[pt,it]}) ty ps af g)::L) e O Q:=by
 refine VL.iV (M:=fun m O'=>m= .str l/\O'=O.kill k) hg hd (fun _=>wa cW) (fun brk hb=>.inr (wa cW brk hb)) (fun G a w hw hf=>?_) (GX cW rfl) (by rintro m O' ⟨rfl,rfl⟩;exact WL.sound ht h);have mR:=hf.ev hx;have wR:=hf.ev hy;generalize oo:a.eval x=u at mR;generalize xQ:a.eval y=v at wR;have wR:=wR.iw;subst wR;cases mR with
 | ptr Kw=>
   rename_i b;obtain⟨sp,fN,jj⟩:=cL.cells;obtain⟨b',C,T,d1,d2,d3⟩:=hw.cells k _ fN;rw[Kw]at d1;injection d1 with d1;subst d1
   obtain⟨j,_,_,hj⟩:=cL.nw;obtain⟨b2,s1,s2⟩:=hw.nw j k _ _ hj;rw[Kw]at s1;injection s1 with s1;subst s1
   have hL:=d3.take l.length;have e1:(l.map fB++sp).take l.length=l.map fB:=by rw[List.take_append_of_le_length (by simp),List.take_of_length_le (by simp)]
   rw[e1,List.take_take,Nat.min_eq_left (by simp)]at hL;have hL2:=Kn hL
   have iQ:∀j x,l[j]?=some x->w.cell? ((⟨b,0,none⟩:Addr).add j)=some (.int .u8 x.toNat):=fun i x hx=>by
    rw[Addr.add_lit,Nat.zero_add];simp only[World.cell?,d2,Option.isSome_none,Bool.false_eq_true,if_false];have:(C.toList.take l.length)[i]?=some (Value.int .u8 x.toNat):=by rw[hL2,List.getElem?_map,hx];rfl
    rw[List.getElem?_take]at this;split at this
    ·simpa using this
    ·cases this
   have cc:=Lib.run_unsafeString_row (P:=P) w pt it ty el (bB ht hp) hce b _ s2 l ze (by rw[List.length_append,List.length_map]at jj;omega) hl iQ;have tT:l.length≠0:=by simpa using ze
   have hfz:(w.freeze ⟨b,0,none⟩ l.length).heap[b]?=some (.cells C T.t (if T.fr.1==T.fr.2 then(0,0+l.length)else(min T.fr.1 0,max T.fr.2 (0+l.length)))):=by
    simp[World.freeze,tT,Array.getElem?_modify,d2]
   have ahn:∀j,j≠b->(w.freeze ⟨b,0,none⟩ l.length).heap[j]?=w.heap[j]?:=fun j hj=>by
    simp[World.freeze,tT,Array.getElem?_modify,Ne.symm hj]
   refine⟨.str l,O.kill k,.string ⟨⟨l⟩⟩,w.freeze ⟨b,0,none⟩ l.length,G,⟨rfl,rfl⟩,?_,Gh.Le.refl G,?_,.str⟩;rotate_left
   ·refine(hw.kill k).Tz d2 (hw.jI k b Kw).1 hfz ahn (by simp[World.freeze,tT]) (by simp[World.freeze,tT]) (by simp[World.freeze,tT]) (by simp[World.freeze,tT]) (fun j hj WY=>?_) fun t c x eb NV e=>?_
    ·by_cases e:j=k
     ·subst e;exact hj (aG _ _ _)
     ·have Oq:O.hp j≠none:=by rwa [show(O.kill k).hp j=O.hp j from aw _ _ e]at hj
      exact e (hw.inj j k b Oq (by rw[fN];simp) WY Kw)
    ·subst e;have e:t≠k:=fun e=>by subst e;rw[show(O.kill t).hp t=none from aG _ _ _]at eb;cases eb
     rw[show(O.kill k).hp t=O.hp t from aw _ _ e]at eb;obtain⟨_,_,_,_,_,_,q1,_,_,_,_,q7⟩:=hw.tok t eb;rw[NV]at q1;injection q1 with q1;injection q1 with q1 _;subst q1
     exact q7 k Kw
   ·simp[execOp,resolve,invoke,builtin,oo,xQ,cc]
theorem VL.afU (ht:aK P tab) {d:Option Tmp} {x y:Operand} {pt it ty:TypeId} {ps:String} {af:Array Edge} {g:Option (Nat×Bool)} {L:List (Fl×Oper)}
  (cW:v_ md ops=true)
  (hx:ev e x=some (.v (.pointer none))) (hy:ev e y=some (.v (.int .i64 0))) (hg:aL ops (.mk d (.call {callee:=.builtin .unsafeString,args:= #[x,y],argTypes:= #[pt,it]}) ty ps af g) e=some true) (hd:bm n d=true)
  (h:WL P tab n D md ops Q L (aU d (.str []) e) O):VL P n D md ops ((.one,.mk d (.call {callee:=.builtin .unsafeString,args:= #[x,y],argTypes:= #[pt,it]}) ty ps af g)::L) e O Q:=by
 refine VL.iV (M:=fun m O'=>m= .str []/\O'=O) hg hd (fun _=>wa cW) (fun brk hb=>.inr (wa cW brk hb)) (fun G a w hw hf=>?_) (GX cW rfl) (by rintro m O' ⟨rfl,rfl⟩;exact WL.sound ht h);have mR:=(hf.ev hx).iw;have wR:=(hf.ev hy).iw;have cc:=Lib.run_unsafeString_none (P:=P) w pt it ty none;refine⟨_,_,_,w,G,⟨rfl,rfl⟩,?_,Gh.Le.refl G,hw,.str⟩;simp[execOp,resolve,invoke,builtin,mR,wR,cc];rfl
theorem VL.toU (ht:aK P tab) {d:Option Tmp} {x:Operand} {src dst ty el t:TypeId} {ps:String} {af:Array Edge} {g:Option (Nat×Bool)} {L:List (Fl×Oper)} {k s j:Nat} {te:cz} (hmd:md= .plain\/md= .any)
  (hs:(tab src).map cz.under=some (.pointer el)) (Kx:(tab dst).map cz.under=some .unsafePointer) (he:tab el=some te) (hz:te.size≠0) (hj:O.hp j=some (.shape k t s)) (TA:0<s)
  (hx:ev e x=some (.ptr k 0)) (hg:aL ops (.mk d (.convert src dst x) ty ps af g) e=some true) (hd:bm n d=true) (h:WL P tab n D md ops Q L (aU d (.ptr k 0) e) O):
  VL P n D md ops ((.one,.mk d (.convert src dst x) ty ps af g)::L) e O Q:=by
 refine VL.pq (M:=fun m O'=>m= .ptr k 0/\O'=O) (fun G a w hw hf=>?_) (by rintro m O' ⟨rfl,rfl⟩;exact WL.sound ht h) (hmd:=hmd) (hg:=hg) (hd:=hd);have mR:=hf.ev hx;generalize oo:a.eval x=u at mR;cases mR with
 | ptr hp=>
   rename_i b;obtain⟨ti,z,i1,i2,_⟩:=(ht _ te he).info;obtain⟨b2,s1,s2⟩:=hw.nw j k _ _ hj;rw[hp]at s1;injection s1 with s1;subst s1
   have hr:=Lib.run_to_unsafe (P:=P) w ⟨b,0,none⟩ (bB ht hs) (bB ht Kx) i1 (by rw[i2];exact hz) s2 TA;exact⟨_,_,_,w,G,⟨rfl,rfl⟩,by simp[execOp,oo,hr],Gh.Le.refl G,hw,.ptr hp⟩
theorem VL.afV (ht:aK P tab) {d:Option Tmp} {x:Operand} {src dst ty el t:TypeId} {ps:String} {af:Array Edge} {g:Option (Nat×Bool)} {L:List (Fl×Oper)} {k s j:Nat} {te:cz} (hmd:md= .plain\/md= .any)
  (hs:(tab src).map cz.under=some .unsafePointer) (Kx:(tab dst).map cz.under=some (.pointer el)) (he:tab el=some te) (hj:O.hp j=some (.shape k t s)) (hl:liesAt P P.depth t (s / P.cellsOf t) 0 el 1=true)
  (hx:ev e x=some (.ptr k 0)) (hg:aL ops (.mk d (.convert src dst x) ty ps af g) e=some true) (hd:bm n d=true) (h:WL P tab n D md ops Q L (aU d (.ptr k 0) e) O):
  VL P n D md ops ((.one,.mk d (.convert src dst x) ty ps af g)::L) e O Q:=by
 refine VL.pq (M:=fun m O'=>m= .ptr k 0/\O'=O) (fun G a w hw hf=>?_) (by rintro m O' ⟨rfl,rfl⟩;exact WL.sound ht h) (hmd:=hmd) (hg:=hg) (hd:=hd);have mR:=hf.ev hx;generalize oo:a.eval x=u at mR;cases mR with
 | ptr hp=>
   rename_i b;obtain⟨ti,z,i1,i2,_⟩:=(ht _ te he).info;obtain⟨b2,s1,s2⟩:=hw.nw j k _ _ hj;rw[hp]at s1;injection s1 with s1;subst s1
   have hr:=Lib.run_from_unsafe (P:=P) w ⟨b,0,none⟩ (bB ht hs) (bB ht Kx) i1 s2 hl;exact⟨_,_,_,w,G,⟨rfl,rfl⟩,by simp[execOp,oo,hr],Gh.Le.refl G,hw,.ptr hp⟩
end
section
variable {tab:b9} {t t' el:TypeId} {O:VH} {a b c d a' b' k o n off:Nat} {z y z':List MV} {u:TypeDesc} {cs ds:List MV} {tk:Tok} {l:List UInt8} {m q:MV} {i j:Int} {kk kk':IntKind} {x:Value}
def xd:Option cz->MV->Option MV
 | some ⟨.string,_,_,_⟩,.str l=>some (.v (.int .i64 l.length))
 | some ⟨.slice _,_,_,_⟩,.sl n _ _=>some (.v (.int .i64 n))
 | some ⟨.slice _,_,_,_⟩,.bp _ _ n _=>some (.v (.int .i64 n))
 | some ⟨.map _ _,_,_,_⟩,.v (.map none)=>some (.v (.int .i64 0))
 | some ⟨.array n _,_,_,_⟩,_=>some (.v (.int .i64 n))
 | _,_=>none
theorem uM:jJ tab t m=xd (tab t) m:=by
 unfold jJ xd;cases tab t with
 | none=>rfl
 | some r=>obtain⟨d,_,_,_⟩:=r;cases d<;>cases m<;>first | rfl | (rename_i v;cases v<;>first | rfl | (rename_i q;cases q<;>rfl))
theorem TB:xd (some ⟨.string,a,b,z⟩) (.str l)=some (.v (.int .i64 l.length)):=rfl
theorem XP:xd (some ⟨.slice el,a,b,z⟩) (.sl n cs tk)=some (.v (.int .i64 n)):=rfl
theorem TC:xd (some ⟨.slice el,a,b,z⟩) (.bp k o n c)=some (.v (.int .i64 n)):=rfl
theorem TD:xd (some ⟨.map t t',a,b,z⟩) (.v (.map none))=some (.v (.int .i64 0)):=rfl
theorem TF:xd (some ⟨.map t t',a,b,z⟩) (.map k)=none:=rfl
theorem TG:xd (some ⟨.array n el,a,b,z⟩) m=some (.v (.int .i64 n)):=by cases m<;>rfl
def XQ (O:VH) (s:Option (MV×VH)):Option MV->Option (MV×VH)
 | some r=>some (r,O)
 | none=>s
theorem Ot {s:Option (MV×VH)}:XQ O s (some m)=some (m,O):=rfl
theorem Ou {s:Option (MV×VH)}:XQ O s none=s:=rfl
theorem TI {e:Env} {d:Option Tmp} {x:Operand} {ty:TypeId} {p:String} {af:Array Edge} {g:Option (Nat×Bool)}:c6 tab (.mk d (.call {callee:=.builtin .len,args:= #[x],argTypes:= #[t]}) ty p af g) e O=(ev e x).bind fun q=>XQ O ((pf tab O t q).map (·,O)) (xd (tab t) q):=by
 rw[J2];cases ev e x with
 | none=>rfl
 | some q=>
   simp only[Option.bind_some,uM];cases xd (tab t) q<;>rfl
def Kz (tab:b9) (m ix:MV):Option cz->Option MV
 | some r=>match ix,r.under,m with
   | .v (.int _ i),.slice el,.sl n cells _=>match tab el with
     | some te=>if 0<=i/\i<(n:Int)then some (.c8 cells (i.toNat*te.size))else none
     | none=>none
   | .v (.int _ i),.slice el,.bp k o n _=>match tab el with
     | some te=>if 0<=i/\i<(n:Int)then some (.ptr k (o+i.toNat*te.size))else none
     | none=>none
   | .v (.int _ i),.array len el,x=>match tab el with
     | some te=>if 0<=i/\i<(len:Int)then uf (i.toNat*te.size) x else none
     | none=>none
   | _,_,_=>none
 | none=>none
theorem aee:mf tab t m q=Kz tab m q (tab t):=by
 unfold mf Kz;cases h:tab t with
 | none=>cases q<;>first | rfl | (rename_i v;cases v<;>rfl)
 | some r=>
   obtain⟨d,_,_,_⟩:=r;cases q<;>first | rfl | skip
   rename_i v;cases v<;>first | rfl | skip
   cases d<;>cases m<;>rfl
def ixS (i:Int) (n:Nat) (cs:List MV):Option cz->Option MV
 | some te=>if 0<=i/\i<(n:Int)then some (.c8 cs (i.toNat*te.size))else none
 | none=>none
def ixR (i:Int) (n k o:Nat):Option cz->Option MV
 | some te=>if 0<=i/\i<(n:Int)then some (.ptr k (o+i.toNat*te.size))else none
 | none=>none
def ixA (i:Int) (n:Nat) (m:MV):Option cz->Option MV
 | some te=>if 0<=i/\i<(n:Int)then uf (i.toNat*te.size) m else none
 | none=>none
theorem ab1:Kz tab (.sl n cs tk) (.v (.int kk i)) (some ⟨.slice el,a,b,z⟩)=ixS i n cs (tab el):=by unfold Kz ixS;rfl
theorem XS:Kz tab (.bp k o n c) (.v (.int kk i)) (some ⟨.slice el,a,b,z⟩)=ixR i n k o (tab el):=by unfold Kz ixR;rfl
theorem XT:Kz tab m (.v (.int kk i)) (some ⟨.array n el,a,b,z⟩)=ixA i n m (tab el):=by unfold Kz ixA;cases m<;>rfl
theorem ab2 (h0:0<=i) (h1:i<(n:Int)):ixS i n cs (some ⟨u,a,b,z⟩)=some (.c8 cs (i.toNat*a)):=if_pos ⟨h0,h1⟩
theorem ab3 (h0:0<=i) (h1:i<(n:Int)):ixR i n k o (some ⟨u,a,b,z⟩)=some (.ptr k (o+i.toNat*a)):=if_pos ⟨h0,h1⟩
theorem ab4 (h0:0<=i) (h1:i<(n:Int)):ixA i n m (some ⟨u,a,b,z⟩)=uf (i.toNat*a) m:=if_pos ⟨h0,h1⟩
theorem XU:uf a (.ptr k o)=some (.ptr k (o+a)):=rfl
theorem XV:uf a (.c8 cs o)=some (.c8 cs (o+a)):=rfl
def inT (l:List UInt8) (i:Int):Option cz->Option MV
 | some ⟨.string,_,_,_⟩=>if 0<=i then(l[i.toNat]?).map fB else none
 | _=>none
theorem aho:vS tab t (.str l) (.v (.int kk i))=inT l i (tab t):=by
 unfold vS inT;cases tab t with
 | none=>rfl
 | some r=>obtain⟨d,_,_,_⟩:=r;cases d<;>rfl
theorem ab5 (h:0<=i):inT l i (some ⟨.string,a,b,z⟩)=(l[i.toNat]?).map fB:=if_pos h
def XW (off:Nat):Option cz->Option b_->Option MV
 | some r,some (.cells cs)=>mK (eC r.under) r.size cs off
 | _,_=>none
theorem ahp:eQ tab O t (.ptr k off)=XW off (tab t) (O.hp k):=by
 unfold eQ XW;simp only[cellsOf];cases tab t<;>first | rfl | (cases O.hp k<;>first | rfl | (rename_i x;cases x<;>rfl))
theorem ahq:eQ tab O t (.c8 cs off)=XW off (tab t) (some (.cells cs)):=by
 unfold eQ XW cellsOf;cases tab t<;>rfl
theorem ab6:XW off (some ⟨u,a,b,z⟩) (some (.cells cs))=mK (eC u) a cs off:=rfl
theorem XY:mK false a cs off=cs[off]?:=rfl
theorem XZ (h:off+a<=cs.length):mK true a cs off=some (.agg ((cs.drop off).take a)):=by simp[mK,h]
theorem TK:eC .bool=false:=rfl
theorem X5:eC (.int kk)=false:=rfl
theorem X6:eC .string=false:=rfl
theorem X7:eC (.pointer t)=false:=rfl
theorem ab7:eC (.slice t)=false:=rfl
theorem X8:eC (.map t t')=false:=rfl
theorem X9:eC (.array n t)=true:=rfl
theorem ab8 {ms:Array (String×TypeId)}:eC (.interface ms)=false:=rfl
theorem ab9 {ps rs:Array TypeId} {v:Bool}:eC (.func ps rs v)=false:=rfl
def AE (O:VH) (k off:Nat) (m:MV):Option cz->Option b_->Option VH
 | some r,some (.cells cs)=>if(dI m).length=r.size/\(dI m).all dJ=true/\off+r.size<=cs.length then some (O.set k (.cells (d_ cs off (dI m))))else none
 | _,_=>none
theorem ahr:vP tab O t (.ptr k off) m=AE O k off m (tab t) (O.hp k):=by
 unfold vP AE;cases tab t with
 | none=>rfl
 | some r=>
   simp only;cases O.hp k with
   | none=>rfl
   | some x=>cases x<;>rfl
theorem pw {m:MV} (hm:dI m=[m]) (hl:dJ m=true) (h:off<cs.length):AE O k off m (some ⟨u,1,b,z⟩) (some (.cells cs))=some (O.set k (.cells (cs.set off m))):=by
 show(if(dI m).length=1/\(dI m).all dJ=true/\off+1<=cs.length then some (O.set k (.cells (d_ cs off (dI m))))else none)=_;rw[if_pos ⟨by rw[hm];rfl,by rw[hm];simpa using hl,by omega⟩,hm];rfl
theorem afW (h:off<cs.length):AE O k off (.v x) (some ⟨u,1,b,z⟩) (some (.cells cs))=some (O.set k (.cells (cs.set off (.v x)))):=pw rfl rfl h
theorem afX (h:off<cs.length):AE O k off (.str l) (some ⟨u,1,b,z⟩) (some (.cells cs))=some (O.set k (.cells (cs.set off (.str l)))):=pw rfl rfl h
theorem afY (h:off<cs.length):AE O k off (.ptr c o) (some ⟨u,1,b,z⟩) (some (.cells cs))=some (O.set k (.cells (cs.set off (.ptr c o)))):=pw rfl rfl h
theorem afZ (h:off<cs.length):AE O k off (.c8 ds o) (some ⟨u,1,b,z⟩) (some (.cells cs))=some (O.set k (.cells (cs.set off (.c8 ds o)))):=pw rfl rfl h
theorem ab_ (h:off<cs.length):AE O k off (.sl n ds tk) (some ⟨u,1,b,z⟩) (some (.cells cs))=some (O.set k (.cells (cs.set off (.sl n ds tk)))):=pw rfl rfl h
theorem X_ (h:off<cs.length):AE O k off (.bp c o n d) (some ⟨u,1,b,z⟩) (some (.cells cs))=some (O.set k (.cells (cs.set off (.bp c o n d)))):=pw rfl rfl h
theorem Ya (h:off<cs.length):AE O k off (.map c) (some ⟨u,1,b,z⟩) (some (.cells cs))=some (O.set k (.cells (cs.set off (.map c)))):=pw rfl rfl h
theorem aca (h:off<cs.length):AE O k off (.iface t m) (some ⟨u,1,b,z⟩) (some (.cells cs))=some (O.set k (.cells (cs.set off (.iface t m)))):=pw rfl rfl h
theorem acb {fn:Fn} (h:off<cs.length):AE O k off (.func fn ds z') (some ⟨u,1,b,z⟩) (some (.cells cs))=some (O.set k (.cells (cs.set off (.func fn ds z')))):=pw rfl rfl h
theorem Yb (h1:ds.length=a) (h2:ds.all dJ=true) (h:off+a<=cs.length):AE O k off (.agg ds) (some ⟨u,a,b,z⟩) (some (.cells cs))=some (O.set k (.cells (d_ cs off ds))):=if_pos ⟨h1,h2,h⟩
theorem Ig:d_ cs off []=cs:=rfl
theorem FH:d_ cs off (m::ds)=d_ (cs.set off m) (off+1) ds:=rfl
theorem acd:dJ (.v x)=true:=rfl
theorem ace:dJ (.str l)=true:=rfl
theorem acf:dJ (.ptr k o)=true:=rfl
theorem acg:dJ (.c8 cs o)=true:=rfl
theorem Yc:dJ (.sl n cs tk)=true:=rfl
theorem TL:dJ (.bp k o n c)=true:=rfl
theorem TM:dJ (.map k)=true:=rfl
theorem Yd:dJ (.iface t m)=true:=rfl
theorem Ye {fn:Fn}:dJ (.func fn cs ds)=true:=rfl
section
variable {X:b_} {k':Nat} {s:Nat}
theorem ach (h:k'=k):(O.set k X).hp k'=some X:=by subst h;exact VH.an _ _ _
theorem Ov (h:k'≠k):(O.set k X).hp k'=O.hp k':=VH.ak _ _ h
theorem Yf (h:k'=O.next):(O.push X).hp k'=some X:=by subst h;exact VH.aV _ _
theorem KA (h:k'≠O.next):(O.push X).hp k'=O.hp k':=VH.pj _ _ h
theorem KB (h:k'≠k):(O.kill k).hp k'=O.hp k':=VH.kC _ h
theorem eM:(O.set k X).next=O.next:=rfl
theorem sw:(O.push X).next=O.next+1:=rfl
theorem DL:(O.kill k).next=O.next:=rfl
end
theorem KC {e:Env} {d:Option Tmp} {ty:TypeId} {p:String} {af:Array Edge} {g:Option (Nat×Bool)}:c6 tab (.mk d (.alloc t) ty p af g) e O=(tab t).map fun i=>(.ptr O.next 0,vY O t i.size i.zero):=rfl
def alB (O:VH) (t:TypeId) (n:Nat) (z:List MV):Bool->VH
 | true=>(O.push (.cells z)).push (.shape O.next t n)
 | false=>O.push (.cells z)
theorem Ow:vY O t n z=alB O t n z (ft z):=by unfold vY alB;cases ft z<;>rfl
theorem af0:alB O t n z true=(O.push (.cells z)).push (.shape O.next t n):=rfl
theorem af1:alB O t n z false=O.push (.cells z):=rfl
theorem af2:ft [.v (.pointer none),.sl 0 [] .nil]=true:=rfl
theorem af3:ft []=false:=rfl
theorem af4:ft [m]=false:=by unfold ft;split<;>first | rfl | simp_all
theorem af5 {m1 m2 m3:MV}:ft (m1::m2::m3::z)=false:=by unfold ft;split<;>first | rfl | simp_all
theorem Yg:ft [.v (.int kk i),m]=false:=by unfold ft;split<;>first | rfl | simp_all
theorem TN {b:Bool}:ft [.v (.bool b),m]=false:=by unfold ft;split<;>first | rfl | simp_all
theorem Yh:ft [.str l,m]=false:=by unfold ft;split<;>first | rfl | simp_all
theorem aci:ft [.sl n cs tk,m]=false:=by unfold ft;split<;>first | rfl | simp_all
theorem acj:ft [m,.str l]=false:=by unfold ft;split<;>first | rfl | simp_all
theorem ack:ft [m,.v x]=false:=by unfold ft;split<;>first | rfl | simp_all
def sB (tab:b9) (x:MV) (l h:Option MV):Option cz->Option MV
 | some ⟨.string,_,_,_⟩=>match x with
   | .str s=>match c7 0 l,c7 s.length h with
     | some lo,some hi=>if lo<=hi/\hi<=s.length then some (.str ((s.drop lo).take (hi - lo)))else none
     | _,_=>none
   | _=>none
 | some ⟨.slice el,_,_,_⟩=>match x with
   | .sl n cells tk=>match tab el,c7 0 l,c7 n h with
     | some te,some lo,some hi=>
       if lo=0/\hi=n then some (.sl n cells tk)
       else if lo<=hi/\hi<=n/\cells.length=n*te.size then some (.sl (hi - lo) ((cells.drop (lo*te.size)).take ((hi - lo)*te.size)) (qs tk te.size (hi==n)))else none
     | _,_,_=>none
   | .bp k o n c=>match tab el,c7 0 l,c7 n h with
     | some te,some lo,some hi=>if lo<=hi/\hi<=c then some (.bp k (if c=lo then o else o+lo*te.size) (hi - lo) (c - lo))else none
     | _,_,_=>none
   | _=>none
 | _=>none
theorem ahs {l h:Option MV}:vW tab t m l h=sB tab m l h (tab t):=by
 unfold vW sB;cases tab t with
 | none=>rfl
 | some r=>obtain⟨d,_,_,_⟩:=r;cases d<;>cases m<;>rfl
theorem af6 (h0:0<=i) (h1:i<=j) (h2:j<=(l.length:Int)):sB tab (.str l) (some (.v (.int kk i))) (some (.v (.int kk' j))) (some ⟨.string,a,b,z⟩)=some (.str ((l.drop i.toNat).take (j.toNat - i.toNat))):=by
 have e1:0<=j:=by omega
 simp only[sB,c7,if_pos h0,if_pos e1];rw[if_pos ⟨by omega,by omega⟩]
theorem acm (h0:0<=i) (h1:i<=(l.length:Int)):sB tab (.str l) (some (.v (.int kk i))) none (some ⟨.string,a,b,z⟩)=some (.str (l.drop i.toNat)):=by
 simp only[sB,c7,if_pos h0];rw[if_pos ⟨by omega,by omega⟩,List.take_of_length_le (by simp)]
theorem acn (h1:0<=j) (h2:j<=(l.length:Int)):sB tab (.str l) none (some (.v (.int kk j))) (some ⟨.string,a,b,z⟩)=some (.str (l.take j.toNat)):=by
 simp only[sB,c7,if_pos h1];rw[if_pos ⟨by omega,by omega⟩];simp
def Ce (k o lo hi c:Nat):Option cz->Option MV
 | some te=>some (.bp k (if c=lo then o else o+lo*te.size) (hi - lo) (c - lo))
 | none=>none
theorem af7 (h0:0<=i) (h1:i<=j) (h2:j<=(c:Int)):sB tab (.bp k o n c) (some (.v (.int kk i))) (some (.v (.int kk' j))) (some ⟨.slice el,a,b,z⟩)=Ce k o i.toNat j.toNat c (tab el):=by
 have e1:0<=j:=by omega
 simp only[sB,c7,if_pos h0,if_pos e1,Ce];cases tab el with
 | none=>rfl
 | some te=>simp only;rw[if_pos ⟨by omega,by omega⟩]
theorem aco (h0:0<=i) (h1:i<=(n:Int)) (h2:n<=c):sB tab (.bp k o n c) (some (.v (.int kk i))) none (some ⟨.slice el,a,b,z⟩)=Ce k o i.toNat n c (tab el):=by
 simp only[sB,c7,if_pos h0,Ce];cases tab el with
 | none=>rfl
 | some te=>simp only;rw[if_pos ⟨by omega,h2⟩]
theorem acp (h1:0<=j) (h2:j<=(c:Int)):sB tab (.bp k o n c) none (some (.v (.int kk j))) (some ⟨.slice el,a,b,z⟩)=Ce k o 0 j.toNat c (tab el):=by
 simp only[sB,c7,if_pos h1,Ce];cases tab el with
 | none=>rfl
 | some te=>simp only;rw[if_pos ⟨by omega,by omega⟩]
theorem af8:Ce k o 0 n c (some ⟨u,a,b,z⟩)=some (.bp k o n c):=by
 simp only[Ce]
 congr 2
 split<;>simp
theorem acq {lo hi:Nat} (h:c≠lo):Ce k o lo hi c (some ⟨u,a,b,z⟩)=some (.bp k (o+lo*a) (hi - lo) (c - lo)):=by
 simp only[Ce,if_neg h]
theorem acr {lo hi:Nat} (h:c=lo):Ce k o lo hi c (some ⟨u,a,b,z⟩)=some (.bp k o (hi - lo) (c - lo)):=by
 simp only[Ce,if_pos h]
def Ih (n lo hi:Nat) (cs:List MV) (tk:Tok):Option cz->Option MV
 | some te=>if lo=0/\hi=n then some (.sl n cs tk)
    else if lo<=hi/\hi<=n/\cs.length=n*te.size then some (.sl (hi - lo) ((cs.drop (lo*te.size)).take ((hi - lo)*te.size)) (qs tk te.size (hi==n)))else none
 | none=>none
theorem zf {l h:Option MV} {lo hi:Nat} (hl:c7 0 l=some lo) (hh:c7 n h=some hi):sB tab (.sl n cs tk) l h (some ⟨.slice el,a,b,z⟩)=Ih n lo hi cs tk (tab el):=by
 show(match tab el,c7 0 l,c7 n h with
   | some te,some lo,some hi=>
     if lo=0/\hi=n then some (MV.sl n cs tk)
     else if lo<=hi/\hi<=n/\cs.length=n*te.size then some (.sl (hi - lo) ((cs.drop (lo*te.size)).take ((hi - lo)*te.size)) (qs tk te.size (hi==n)))else none
   | _,_,_=>none)=_
 rw[hl,hh];cases tab el<;>rfl
theorem af9 (h0:0<=i) (h1:0<=j):sB tab (.sl n cs tk) (some (.v (.int kk i))) (some (.v (.int kk' j))) (some ⟨.slice el,a,b,z⟩)=Ih n i.toNat j.toNat cs tk (tab el):=zf (if_pos h0) (if_pos h1)
theorem acs (h0:0<=i):sB tab (.sl n cs tk) (some (.v (.int kk i))) none (some ⟨.slice el,a,b,z⟩)=Ih n i.toNat n cs tk (tab el):=zf (if_pos h0) rfl
theorem acu (h0:0<=j):sB tab (.sl n cs tk) none (some (.v (.int kk j))) (some ⟨.slice el,a,b,z⟩)=Ih n 0 j.toNat cs tk (tab el):=zf rfl (if_pos h0)
theorem acv:sB tab (.sl n cs tk) none none (some ⟨.slice el,a,b,z⟩)=Ih n 0 n cs tk (tab el):=zf rfl rfl
theorem KD {lo hi:Nat} (h0:lo=0) (h1:hi=n):Ih n lo hi cs tk (some ⟨u,a,b,z⟩)=some (.sl n cs tk):=if_pos ⟨h0,h1⟩
theorem GY {lo hi:Nat} (h:lo≠0\/hi≠n) (h1:lo<=hi) (h2:hi<=n) (h3:cs.length=n*a):Ih n lo hi cs tk (some ⟨u,a,b,z⟩)=some (.sl (hi - lo) ((cs.drop (lo*a)).take ((hi - lo)*a)) (qs tk a (hi==n))):=by
 simp only[Ih];rw[if_neg (by omega),if_pos ⟨h1,h2,h3⟩]
def Ii (x:MV):Option cz->Option cz->Option MV
 | some _,some ⟨.int k,_,_,_⟩=>match x with
   | .v (.int _ i)=>some (.v (.int k (k.wrap i)))
   | _=>none
 | some ⟨.string,_,_,_⟩,some ⟨.string,_,_,_⟩=>match x with
   | .str l=>some (.str l)
   | _=>none
 | _,_=>none
theorem aht:Ay tab t t' m=Ii m (tab t) (tab t'):=by
 unfold Ay Ii;cases tab t with
 | none=>rfl
 | some r=>
   obtain⟨d,_,_,_⟩:=r;cases tab t' with
   | none=>cases d<;>rfl
   | some r'=>
     obtain⟨d',_,_,_⟩:=r'
     cases d'<;>first
      | (cases d<;>rfl)
      | (cases m<;>first | (cases d<;>rfl) | (rename_i v;cases v<;>cases d<;>rfl))
theorem Yi {k':IntKind} {r:cz}:Ii (.v (.int kk i)) (some r) (some ⟨.int k',a,b,z⟩)=some (.v (.int k' (k'.wrap i))):=rfl
theorem Yj:Ii (.str l) (some ⟨.string,a,b,z⟩) (some ⟨.string,a',b',z'⟩)=some (.str l):=rfl
theorem acw:Ii m (some ⟨.string,a,b,z⟩) (some ⟨.slice el,a',b',z'⟩)=none:=rfl
theorem acx:Ii m (some ⟨.slice el,a,b,z⟩) (some ⟨.string,a',b',z'⟩)=none:=rfl
theorem acy:Ii m (some ⟨.pointer el,a,b,z⟩) (some ⟨.unsafePointer,a',b',z'⟩)=none:=rfl
theorem acz:Ii m (some ⟨.unsafePointer,a,b,z⟩) (some ⟨.pointer el,a',b',z'⟩)=none:=rfl
def GZ:List (Nat×Operand)->List MV->List (Nat×MV)
 | (i,_)::l,m::ms=>(i,m)::GZ l ms
 | _,_=>[]
theorem Oy (l:List (Nat×Operand)) (ms:List MV):fV l.toArray ms=GZ l ms:=by
 unfold fV;simp only;induction l generalizing ms with
 | nil=>cases ms<;>rfl
 | cons p l ih=>cases ms with
   | nil=>rfl
   | cons m ms=>obtain⟨i,x⟩:=p;simp only[List.map_cons,List.zip_cons_cons,GZ];rw[ih]
theorem TO {ms:List MV}:GZ [] ms=[]:=by cases ms<;>rfl
theorem OI {x:Operand} {l:List (Nat×Operand)} {ms:List MV}:GZ ((n,x)::l) (m::ms)=(n,m)::GZ l ms:=rfl
def FI (pl:Nat->Option (Nat×Nat)) (cs:List MV) (x:MV) (rest:List (Nat×MV)):Option (Nat×Nat)->Option (List MV)
 | none=>none
 | some (off,size)=>if(dI x).length=size/\off+size<=cs.length then lz pl (d_ cs off (dI x)) rest else none
def kS (l:List (Nat×Nat)) (i:Nat):Option (Nat×Nat):=l[i]?
theorem TP {p:Nat×Nat} {l:List (Nat×Nat)}:kS (p::l) 0=some p:=rfl
theorem TR {p:Nat×Nat} {l:List (Nat×Nat)}:kS (p::l) (n+1)=kS l n:=rfl
def RF (a:Nat) (k:Nat):Option (Nat×Nat):=some (k*a,a)
theorem OJ:RF a k=some (k*a,a):=rfl
theorem OK {pl:Nat->Option (Nat×Nat)}:lz pl cs []=some cs:=rfl
theorem KE {pl:Nat->Option (Nat×Nat)} {rest:List (Nat×MV)}:lz pl cs ((n,m)::rest)=FI pl cs m rest (pl n):=by
 rw[lz];cases h:pl n<;>rfl
theorem acA {pl:Nat->Option (Nat×Nat)} {rest:List (Nat×MV)} (h:(dI m).length=a/\off+a<=cs.length):FI pl cs m rest (some (off,a))=lz pl (d_ cs off (dI m)) rest:=if_pos h
def bsT (tab:b9) (len:Nat) (parts:List (Nat×MV)):Option cz->Option MV
 | some ⟨.slice el,_,_,_⟩=>match tab el with
   | some te=>if 0<len*te.size/\len*te.size<=16777216/\0<te.zero.length/\len<=maxLen then
     (lz (fun k=>some (k*te.size,te.size)) (gX te.zero (len*te.size)) parts).map fun cs=>.sl len cs .full
     else if len=0/\parts=[]then some (.sl 0 [] .full)else none
   | none=>none
 | _=>none
theorem ahu {parts:List (Nat×MV)}:kP tab t n parts=bsT tab n parts (tab t):=by
 unfold kP bsT;cases tab t with
 | none=>rfl
 | some r=>obtain⟨d,_,_,_⟩:=r;cases d<;>rfl
def Yk (n:Nat) (parts:List (Nat×MV)):Option cz->Option MV
 | some te=>if 0<n*te.size/\n*te.size<=16777216/\0<te.zero.length/\n<=maxLen then
    (lz (fun k=>some (k*te.size,te.size)) (gX te.zero (n*te.size)) parts).map fun cs=>.sl n cs .full
   else if n=0/\parts=[]then some (.sl 0 [] .full)else none
 | none=>none
theorem acB {parts:List (Nat×MV)}:bsT tab n parts (some ⟨.slice el,a,b,z⟩)=Yk n parts (tab el):=by unfold bsT Yk;rfl
theorem af_ {r:cz}:Yk 0 [] (some r)=some (.sl 0 [] .full):=by simp[Yk]
theorem KF (h:z.length=a) (h0:0<a):∀n,gX z (n*a)=(List.replicate n z).flatten:=by
 intro n;induction n with
 | zero=>simp[gX]
 | succ n ih=>
   rw[List.replicate_succ',List.flatten_append, <-ih];simp only[gX,Nat.succ_mul];rw[List.range_add,List.map_append]
   congr 1
   subst h;simp only[List.map_map,List.flatten_cons,List.flatten_nil,List.append_nil];apply List.ext_getElem?;intro i;simp only[List.getElem?_map,List.getElem?_range];by_cases hi:i<z.length
   ·simp[hi,Nat.mod_eq_of_lt hi]
   ·simp[List.getElem?_eq_none (Nat.le_of_not_lt hi),hi]
def mS:Nat->List MV->List MV
 | 0,_=>[]
 | n+1,z=>z++mS n z
theorem KG:∀n,(List.replicate n z).flatten=mS n z
 | 0=>rfl
 | n+1=>by rw[List.replicate_succ,List.flatten_cons,KG n];rfl
theorem acC:mS 1 z=z:=by simp[mS]
theorem acD:mS 2 z=z++z:=by simp[mS]
theorem acE:mS 3 z=z++(z++z):=by simp[mS]
theorem acF:mS 4 z=z++(z++(z++z)):=by simp[mS]
theorem acG:mS 5 z=z++(z++(z++(z++z))):=by simp[mS]
theorem acH:mS 6 z=z++(z++(z++(z++(z++z)))):=by simp[mS]
theorem acI:mS 7 z=z++(z++(z++(z++(z++(z++z))))):=by simp[mS]
theorem acJ:mS 8 z=z++(z++(z++(z++(z++(z++(z++z)))))):=by simp[mS]
theorem acK {parts:List (Nat×MV)} (h:z.length=a) (h0:0<n*a) (h1:n*a<=16777216):Yk n parts (some ⟨u,a,b,z⟩)=(lz (RF a) (mS n z) parts).map (MV.sl n · .full):=by
 have ha:0<a:=by rcases Nat.eq_zero_or_pos a with e | e; · subst e;omega
                 ·exact e
 have hn:n<=maxLen:=by
  have:n*1<=n*a:=Nat.mul_le_mul_left _ ha;simp[maxLen];omega
 rw[<-KG, <-KF h ha];exact if_pos ⟨h0,h1,by show 0<z.length;omega,hn⟩
def bT (b:Bool):Option cz->Option MV
 | some ⟨.bool,_,_,_⟩=>some (.v (.bool b))
 | _=>none
theorem TT {a b:Bool}:cX tab .eql t (.v (.bool a)) (.v (.bool b))=bT (a==b) (tab t):=by
 simp only[cX,bT];cases tab t with
 | none=>rfl
 | some r=>obtain⟨d,_,_,_⟩:=r;cases d<;>rfl
theorem TU {a b:Bool}:cX tab .neq t (.v (.bool a)) (.v (.bool b))=bT (!(a==b)) (tab t):=by
 simp only[cX,bT];cases tab t with
 | none=>rfl
 | some r=>obtain⟨d,_,_,_⟩:=r;cases d<;>rfl
theorem aga {p:Bool}:bT p (some ⟨.bool,a,b,z⟩)=some (.v (.bool p)):=rfl
def pT (b:Bool):Option cz->Option MV
 | some ⟨.pointer _,_,_,_⟩=>some (.v (.bool b))
 | _=>none
theorem agb {p:Bool}:pT p (some ⟨.pointer el,a,b,z⟩)=some (.v (.bool p)):=rfl
theorem acL {p:Bool}:mJ tab .eql t p=pT p (tab t):=by
 simp only[mJ,pT];cases tab t with
 | none=>rfl
 | some r=>obtain⟨d,_,_,_⟩:=r;cases d<;>rfl
theorem acM {p:Bool}:mJ tab .neq t p=pT (!p) (tab t):=by
 simp only[mJ,pT];cases tab t with
 | none=>rfl
 | some r=>obtain⟨d,_,_,_⟩:=r;cases d<;>rfl
section
variable {op:BinOp} {la lb:List UInt8}
theorem TV:cX tab op t (.v (.pointer none)) (.v (.pointer none))=mJ tab op t true:=by cases op<;>rfl
theorem TW:cX tab op t (.ptr k o) (.v (.pointer none))=mJ tab op t false:=by cases op<;>rfl
theorem TX:cX tab op t (.v (.pointer none)) (.ptr k o)=mJ tab op t false:=by cases op<;>rfl
theorem TZ:cX tab op t (.c8 cs o) (.v (.pointer none))=mJ tab op t false:=by cases op<;>rfl
theorem T0:cX tab op t (.v (.pointer none)) (.c8 cs o)=mJ tab op t false:=by cases op<;>rfl
theorem T1:cX tab op t (.agg cs) (.agg ds)=none:=by cases op<;>rfl
theorem T6:cX tab .eql t (.str la) (.str lb)=some (.v (.bool (la==lb))):=rfl
theorem T7:cX tab .neq t (.str la) (.str lb)=some (.v (.bool (!(la==lb)))):=rfl
theorem T8:cX tab .lss t (.str la) (.str lb)=some (.v (.bool (Op.bytesLess la lb))):=rfl
theorem T_:cX tab .leq t (.str la) (.str lb)=some (.v (.bool (Op.bytesLess la lb||la==lb))):=rfl
theorem Ua:cX tab .gtr t (.str la) (.str lb)=some (.v (.bool (!(Op.bytesLess la lb||la==lb)))):=rfl
theorem Ub:cX tab .geq t (.str la) (.str lb)=some (.v (.bool (!(Op.bytesLess la lb)))):=rfl
theorem OL (h:la.length+lb.length<=9223372036854775807):cX tab .add t (.str la) (.str lb)=some (.str (la++lb)):=if_pos h
end
theorem KH (h:tab t=some ⟨.pointer el,a,b,z⟩) {s:Nat} (h':tab el=some ⟨u,s+1,b',z'⟩) {op:BinOp}:cX tab op t (.ptr k o) (.ptr k o)=mJ tab op t true:=by
 cases op<;>simp[cX,h,h',mJ]
theorem aE (b:UInt8):fB b= .v (.int .u8 b.toNat):=rfl
theorem acN {n k:Nat}:((n:Int)+(k:Int)).toNat=n+k:=by omega
theorem Yl {n:Nat}:((n:Int)+1).toNat=n+1:=by omega
theorem Ym {n:Nat}:((n:Int)+2).toNat=n+2:=by omega
theorem Yn {n:Nat}:((n:Int) - 1).toNat=n - 1:=by omega
theorem Uc {n:Nat}:((n+1:Nat):Int) - 1=n:=by omega
theorem acO (h0:0<=i) (h1:i<=255):IntKind.u8.wrap i=i:=by
 simp only[IntKind.wrap,IntKind.signed,IntKind.bits];simp;omega
theorem Yo (h0:0<=i) (h1:i<=18446744073709551615):IntKind.u64.wrap i=i:=by
 simp only[IntKind.wrap,IntKind.signed,IntKind.bits];simp;omega
theorem Yp (h:0<=j):cX tab .shr t (.v (.int kk i)) (.v (.int kk' j))=some (.v (.int kk (i.fdiv (2 ^ (min j.toNat kk.bits))))):=by
 have:¬j<0:=by omega
 simp[cX,yC,this]
theorem Yq:cX tab .and t (.v (.int kk i)) (.v (.int kk j))=some (.v (.int kk (kk.wrap (BitVec.ofInt kk.bits i&&& BitVec.ofInt kk.bits j).toNat))):=by simp[cX,qq]
theorem Yr (h:j≠0):cX tab .rem t (.v (.int kk i)) (.v (.int kk j))=some (.v (.int kk (i.tmod j))):=Tc h
theorem Ys (h:j≠0):cX tab .quo t (.v (.int kk i)) (.v (.int kk j))=some (.v (.int kk (kk.wrap (i.tdiv j)))):=Tb h
end
section
variable {x y z:Operand} {t t':TypeId} {f:Nat} {q:BinOp} {r:UnOp} {as_ To:Array Operand} {ts:Array TypeId} {l h k:Option Operand} {fn:Fn} {ps:Array (Nat×Operand)} {bb:Bool}
theorem Yt:cy (.move x)=false:=rfl
theorem OM:cy (.assign x)=false:=rfl
theorem Yu:cy (.pick x y z)=false:=rfl
theorem Ij:cy (.nilCheck x)=false:=rfl
theorem Ud:cy (.binOp q t x y t')=false:=rfl
theorem Yv:cy (.unOp r t x)=false:=rfl
theorem KI:cy (.convert t t' x)=false:=rfl
theorem FJ:cy (.fieldAddr t x f)=false:=rfl
theorem Ue:cy (.field t x f)=false:=rfl
theorem FK:cy (.indexAddr t x y)=false:=rfl
theorem Uf:cy (.index t x y)=false:=rfl
theorem KJ:cy (.extract x f)=false:=rfl
theorem Ug:cy (.slice t x l h k)=false:=rfl
theorem Uh:cy (.build t ps)=false:=rfl
theorem Ik:cy (.makeFunc fn as_ To)=false:=rfl
theorem zg:cy (.makeInterface t x)=false:=rfl
theorem Yw:cy (.load t x)=false:=rfl
theorem Ui:cy (.store t x y)=false:=rfl
theorem acP:cy (.box t x)=false:=rfl
theorem Uj:cy (.alloc t)=false:=rfl
theorem DM:cy (.buildSlice t f ps)=false:=rfl
theorem KK:cy (.makeMap t l)=false:=rfl
theorem ON:cy (.lookup t x y bb)=false:=rfl
theorem FM:cy (.mapUpdate t x y z)=false:=rfl
theorem OP:cy (.insert t x y z)=false:=rfl
theorem FN:cy (.makeSlice t x y)=false:=rfl
theorem Uk:cy (.range t x)=false:=rfl
theorem Yx:cy (.next x bb)=false:=rfl
theorem Ul:cy (.entry x)=false:=rfl
theorem DN:cy (.typeAssert x t t' bb)=false:=rfl
theorem Um:cy (.panic x)=false:=rfl
theorem Il:cy (.mapEntry t x y)=false:=rfl
theorem DO:cy (.entryStore t x y z)=false:=rfl
theorem Yy:cy (.call {callee:=.builtin .len,args:=as_,argTypes:=ts})=false:=rfl
theorem Yz:cy (.call {callee:=.builtin .max,args:=as_,argTypes:=ts})=false:=rfl
theorem YA:cy (.call {callee:=.builtin .min,args:=as_,argTypes:=ts})=false:=rfl
theorem uN:cy (.call {callee:=.builtin .unsafeSliceData,args:=as_,argTypes:=ts})=false:=rfl
theorem zj:cy (.call {callee:=.builtin .unsafeString,args:=as_,argTypes:=ts})=false:=rfl
theorem OQ:cy (.call {callee:=.builtin .clear,args:=as_,argTypes:=ts})=false:=rfl
theorem Un:cy (.call {callee:=.builtin .copy,args:=as_,argTypes:=ts})=false:=rfl
theorem YB:cy (.call {callee:=.builtin .cap,args:=as_,argTypes:=ts})=false:=rfl
theorem KL:cy (.call {callee:=.builtin .delete,args:=as_,argTypes:=ts})=false:=rfl
theorem OS:cy (.call {callee:=.builtin .print,args:=as_,argTypes:=ts})=false:=rfl
theorem Im:cy (.call {callee:=.builtin .println,args:=as_,argTypes:=ts})=false:=rfl
theorem Io:cy (.call {callee:=.builtin .recover,args:=as_,argTypes:=ts})=false:=rfl
theorem acQ:cy (.call {callee:=.value x,args:=as_,argTypes:=ts})=true:=rfl
theorem acR:cy (.call {callee:=.builtin .append,args:=as_,argTypes:=ts})=true:=rfl
theorem acS:FD .one=false:=rfl
theorem acT:FD .av=false:=rfl
theorem agc:FD .rd=false:=rfl
theorem agd:FD .fk=true:=rfl
end
theorem az.next {σ :Type} {l K:List Nat} {ks:List MV} {ms: σ ->List MV} {I: σ ->VH->Prop} {μ : σ ->Nat} {s: σ} {Q:VQ} {e:Env} {O:VH} (s': σ) (hI:I s' O) (hk:looks e K=some ks:=by exact rfl) (hl:looks e l=some (ms s'):=by exact rfl) (hm: μ s'< μ s:=by first | omega | (dsimp only;omega)):az l K ks ms I μ s Q .normal e O:=⟨hk,s',hl,hI,hm⟩
set_option linter.defProp false in
def ws0:=And.intro @Yt<|And.intro @OM<|And.intro @Yu<|And.intro @Ij<|And.intro @Ud<|And.intro @Yv<|And.intro @KI<|And.intro @FJ<|And.intro @Ue<|And.intro @FK<|And.intro @Uf<|And.intro @KJ<|And.intro @Ug<|And.intro @Uh<|And.intro @Ik<|And.intro @zg<|And.intro @Yw<|And.intro @Ui<|And.intro @acP<|And.intro @Uj<|And.intro @DM<|And.intro @KK<|And.intro @ON<|And.intro @FM<|And.intro @OP<|And.intro @FN<|And.intro @Uk<|And.intro @Yx<|And.intro @Ul<|And.intro @DN<|And.intro @Um<|And.intro @Il<|And.intro @DO<|And.intro @Yy<|And.intro @Yz<|And.intro @YA<|And.intro @uN<|And.intro @zj<|And.intro @OQ<|And.intro @Un<|And.intro @YB<|And.intro @KL<|And.intro @OS<|And.intro @Im<|And.intro @Io<|And.intro @acQ<|And.intro @acR<|And.intro @acS<|And.intro @acT<|And.intro @agc<|And.intro @agd<|And.intro @abT<|And.intro @Xx<|And.intro @Xy<|And.intro @afR<|And.intro @Xz<|And.intro @XA<|And.intro @XB<|And.intro @XC<|And.intro @Ko<|And.intro @FE<|And.intro @XD<|And.intro @XE<|And.intro @Tr<|And.intro @abU<|And.intro @Ts<|And.intro @Tt<|And.intro @Tu<|And.intro @abV<|And.intro @XG<|And.intro @Oj<|And.intro @Tv<|And.intro @XH<|And.intro @Ib<|And.intro @Ok<|And.intro @Ol<|And.intro @Tw<|And.intro @BQ<|And.intro @XI @XJ
set_option linter.defProp false in
def ws1:=And.intro @Tx<|And.intro @Om<|And.intro @Ic<|And.intro @FG<|And.intro @abW<|And.intro @abX<|And.intro @abY<|And.intro @abZ<|And.intro @ab0<|And.intro @Ie<|And.intro @Ty<|And.intro @Kq<|And.intro @uy<|And.intro @yP<|And.intro @BH<|And.intro @w9<|And.intro @yV<|And.intro @yW<|And.intro @BN<|And.intro @qR<|And.intro @ux<|And.intro @yN<|And.intro @yO<|And.intro @BG<|And.intro @qQ<|And.intro @Kj<|And.intro @RD<|And.intro @RE<|And.intro @AD<|And.intro @xN<|And.intro @uG<|And.intro @uH<|And.intro @uI<|And.intro @yK<|And.intro @BD<|And.intro @uw<|And.intro @BE<|And.intro @yU<|And.intro @BK<|And.intro @uD<|And.intro @BL<|And.intro @v8<|And.intro @GN<|And.intro @Ke<|And.intro @Rl<|And.intro @Rm<|And.intro @Rn<|And.intro @Ro<|And.intro @Rp<|And.intro @Rq<|And.intro @Rr<|And.intro @GO<|And.intro @GQ<|And.intro @BI<|And.intro @GS<|And.intro @w_<|And.intro @Dv<|And.intro @GU<|And.intro @yS<|And.intro @uB<|And.intro @Dw<|And.intro @uC<|And.intro @Dx<|And.intro @yT<|And.intro @Dy<|And.intro @Dz<|And.intro @xc<|And.intro @po<|And.intro @GV<|And.intro @DA<|And.intro @Kf<|And.intro @Kg<|And.intro @Kh<|And.intro @BJ<|And.intro @Oa<|And.intro @DB<|And.intro @Ki<|And.intro @DC<|And.intro @tn @uE
set_option linter.defProp false in
def ws2:=And.intro @aeb<|And.intro @aec<|And.intro @Rv<|And.intro @Rw<|And.intro @Rx<|And.intro @Ry<|And.intro @yL<|And.intro @yM<|And.intro @Dt<|And.intro @Du<|And.intro @aj<|And.intro @Ds<|And.intro @wrap_i64<|And.intro @Gu<|And.intro @BB<|And.intro @Kk<|And.intro @RA<|And.intro @RB<|And.intro @w7<|And.intro @Dk<|And.intro @Gw<|And.intro @yI<|And.intro @ur<|And.intro @Dl<|And.intro @uu<|And.intro @Dm<|And.intro @yJ<|And.intro @Dn<|And.intro @w8<|And.intro @Dq<|And.intro @J1<|And.intro @Gx<|And.intro @Gy<|And.intro @TI<|And.intro @J3<|And.intro @J4<|And.intro @N0<|And.intro @Gz<|And.intro @Dr<|And.intro @J6<|And.intro @KC<|And.intro @tj<|And.intro @uv<|And.intro @Rh<|And.intro @Ri<|And.intro @JX<|And.intro @Rj<|And.intro @Gs<|And.intro @Di<|And.intro @Dj<|And.intro @yH<|And.intro @BA<|And.intro @JY<|And.intro @lX<|And.intro @JZ<|And.intro @Gt<|And.intro @GA<|And.intro @GB<|And.intro @GC<|And.intro @GD<|And.intro @GF<|And.intro @GG<|And.intro @GH<|And.intro @GI<|And.intro @GJ<|And.intro @J7<|And.intro @J8<|And.intro @ar<|And.intro @a_<|And.intro @uJ<|And.intro @DE<|And.intro @TB<|And.intro @XP<|And.intro @TC<|And.intro @TD<|And.intro @TF<|And.intro @TG<|And.intro @Ot<|And.intro @Ou @aee
set_option linter.defProp false in
def ws3:=And.intro @ab1<|And.intro @XS<|And.intro @XT<|And.intro @ab2<|And.intro @ab3<|And.intro @ab4<|And.intro @XU<|And.intro @XV<|And.intro @aho<|And.intro @ab5<|And.intro @ahp<|And.intro @ahq<|And.intro @ab6<|And.intro @XY<|And.intro @XZ<|And.intro @TK<|And.intro @X5<|And.intro @X6<|And.intro @X7<|And.intro @ab7<|And.intro @X8<|And.intro @X9<|And.intro @ab8<|And.intro @ab9<|And.intro @ahr<|And.intro @afW<|And.intro @afX<|And.intro @afY<|And.intro @afZ<|And.intro @ab_<|And.intro @X_<|And.intro @Ya<|And.intro @aca<|And.intro @acb<|And.intro @Yb<|And.intro @Ig<|And.intro @FH<|And.intro @ach<|And.intro @Ov<|And.intro @Yf<|And.intro @KA<|And.intro @KB<|And.intro @eM<|And.intro @sw<|And.intro @DL<|And.intro @Ow<|And.intro @af0<|And.intro @af1<|And.intro @af2<|And.intro @af3<|And.intro @af4<|And.intro @af5<|And.intro @Yg<|And.intro @TN<|And.intro @Yh<|And.intro @aci<|And.intro @acj<|And.intro @ack<|And.intro @ahs<|And.intro @af6<|And.intro @acm<|And.intro @acn<|And.intro @af7<|And.intro @aco<|And.intro @acp<|And.intro @af8<|And.intro @acq<|And.intro @acr<|And.intro @af9<|And.intro @acs<|And.intro @acu<|And.intro @acv<|And.intro @KD<|And.intro @GY<|And.intro @aht<|And.intro @Yi<|And.intro @Yj<|And.intro @acw<|And.intro @acx @acy
set_option linter.defProp false in
def ws4:=And.intro @acz<|And.intro @Oy<|And.intro @TO<|And.intro @OI<|And.intro @OK<|And.intro @KE<|And.intro @TP<|And.intro @TR<|And.intro @OJ<|And.intro @acA<|And.intro @ahu<|And.intro @acB<|And.intro @af_<|And.intro @acK<|And.intro @acC<|And.intro @acD<|And.intro @acE<|And.intro @acF<|And.intro @acG<|And.intro @acH<|And.intro @acI<|And.intro @acJ<|And.intro @TT<|And.intro @TU<|And.intro @aga<|And.intro @agb<|And.intro @acL<|And.intro @acM<|And.intro @TV<|And.intro @TW<|And.intro @TX<|And.intro @TZ<|And.intro @T0<|And.intro @T1<|And.intro @T6<|And.intro @T7<|And.intro @T8<|And.intro @T_<|And.intro @Ua<|And.intro @Ub<|And.intro @OL<|And.intro @acN<|And.intro @Yl<|And.intro @Ym<|And.intro @Yn<|And.intro @Uc<|And.intro @acO<|And.intro @Yo<|And.intro @Yr<|And.intro @Ys<|And.intro @Yp<|And.intro @Yq<|And.intro @Option.map_none.{0,0}<|And.intro @Option.bind_none.{0,0}<|And.intro @Int.zero_sub<|And.intro @Bool.not_true<|And.intro @Bool.not_false<|And.intro @Bool.or_false<|And.intro @Bool.or_true<|And.intro @Bool.true_or<|And.intro @Bool.false_or<|And.intro @Bool.and_true<|And.intro @Bool.and_false<|And.intro @Bool.true_and<|And.intro @Bool.false_and<|And.intro @decide_true<|And.intro @decide_eq_true<|And.intro @decide_eq_false<|And.intro @Nat.zero_add<|And.intro @Nat.mul_one<|And.intro @Int.toNat_natCast<|And.intro @Nat.add_zero<|And.intro @Nat.sub_zero<|And.intro @List.set_cons_zero.{0}<|And.intro @List.set_cons_succ.{0}<|And.intro @List.take_succ_cons.{0}<|And.intro @List.take_zero.{0}<|And.intro @List.drop_succ_cons.{0}<|And.intro @List.drop_zero.{0} @List.getElem?_toArray.{0}
set_option linter.defProp false in
def ws5:=And.intro @List.getElem?_cons_zero.{0}<|And.intro @List.getElem?_cons_succ.{0}<|And.intro @Option.bind_some.{0,0}<|And.intro @Option.map_some.{0,0}<|And.intro @List.map_cons.{0,0}<|And.intro @List.map_nil.{0,0}<|And.intro @List.getElem?_map.{0,0}<|And.intro @List.getElem_map.{0,0}<|And.intro @if_true.{1}<|And.intro @if_false.{1}<|And.intro @cond_true.{1}<|And.intro @cond_false.{1}<|And.intro @List.toList_toArray.{0}<|And.intro @List.cons_append.{0}<|And.intro @List.nil_append.{0}<|And.intro @true_and<|And.intro @and_true<|And.intro @eq_self.{1} @Bool.false_eq_true
set_option linter.defProp false in
def ws:=And.intro @ws0<|And.intro @ws1<|And.intro @ws2<|And.intro @ws3<|And.intro @ws4 @ws5
set_option linter.defProp false in
def ds:=And.intro @eM<|And.intro @sw<|And.intro @DL<|And.intro @AD<|And.intro @xN<|And.intro @uG<|And.intro @uH<|And.intro @uI<|And.intro @acd<|And.intro @ace<|And.intro @acf<|And.intro @acg<|And.intro @Yc<|And.intro @TL<|And.intro @TM<|And.intro @Yd<|And.intro @Ye<|And.intro @List.length_cons.{0}<|And.intro @List.length_nil.{0}<|And.intro @List.all_cons.{0}<|And.intro @List.all_nil.{0}<|And.intro @Bool.and_true<|And.intro @Bool.true_and<|And.intro @Bool.and_self<|And.intro @List.length_set.{0}<|And.intro @List.length_append.{0}<|And.intro @List.length_map.{0,0}<|And.intro @and_true<|And.intro @true_and<|And.intro @eq_self.{1}<|And.intro @Option.some.injEq.{0}<|And.intro @b_.cells.injEq<|And.intro @ne_eq.{1} @not_false_eq_true
section
variable {G H:Gh} {n:Sz} {D:List Deferred} {e:Env} {a:Act} {P:Program} {tab:b9} {O O':VH} {w:World} {m m':MV} {u v:Value} {ops:Array Oper} {Q:VQ} {md:Md}
def zm (K:MV->VH->Prop):Option (MV×VH)->Prop
 | some (m,O)=>K m O
 | none=>False
theorem sC {K:MV->VH->Prop}:zm K (some (m,O))=K m O:=rfl
theorem cf.G3 (i:Nat) {fuel:Nat} {listed:Array Bool} {l:List Oper} {o:Oper} (h:zm (fun m O'=>cf P n D ⟨l⟩ fuel (listed.setIfInBounds i true) (aU o.dst m e) O' Q) (ia tab .av o e O)) (ht:aK P tab:=by exact aa) (ho:l[i]?=some o:=by exact rfl) (hs:Region.noSelect ⟨l⟩=true:=by kernel_rfl) (hf:Region.free .any ⟨l⟩ listed i=true:=by kernel_rfl) (hr:(Region.ready .any ⟨l⟩ listed).contains i=true:=by kernel_rfl) (hg:aL ⟨l⟩ o e=some true:=by exact rfl) (hd:bm n o.dst=true:=by exact rfl):cf P n D ⟨l⟩ (fuel+1) listed e O Q:=by
 generalize hv:ia tab .av o e O=v at h;cases v with
 | none=>exact h.elim
 | some p=>
   obtain⟨m,O'⟩:=p;obtain⟨h1,rfl⟩:=nB hv;exact cf.Rg ht (by simpa using ho) hs hf hr hg h1 hd h
theorem aH.st {i:Nat} {l:List Oper} {o:Oper} {M:MV->VH->Prop} {K:Env->VH->Prop} (hy:fM P n D o e O M) (h:∀m O',M m O'->K (aU o.dst m e) O') (ho:l[i]?=some o:=by exact rfl) (hg:aL ⟨l⟩ o e=some true:=by exact rfl) (hd:bm n o.dst=true:=by exact rfl):aH P n D ⟨l⟩ i e O Q K:=
 aH.iV (by simpa using ho) hg hd hy h
theorem aH.o1 {i:Nat} {l:List Oper} {o:Oper} {K:Env->VH->Prop} (h:zm (fun m O'=>K (aU o.dst m e) O') (c6 tab o e O)) (ht:aK P tab:=by exact aa) (ho:l[i]?=some o:=by exact rfl) (hg:aL ⟨l⟩ o e=some true:=by exact rfl) (hd:bm n o.dst=true:=by exact rfl):aH P n D ⟨l⟩ i e O Q K:=by
 generalize hv:c6 tab o e O=v at h;cases v with
 | none=>exact h.elim
 | some p=>exact aH.op ht (by simpa using ho) hg hv hd h
theorem cf.bH (ix:List (Nat×Fl)) {fuel:Nat} {listed:Array Bool} {l:List Oper} {L:List (Fl×Oper)}
  (h:WL P tab n D .any ⟨l⟩ Q L e O) (ht:aK P tab:=by exact aa) (hs:Region.noSelect ⟨l⟩=true:=by kernel_rfl) (hp:cE .any ⟨l⟩ fuel listed ix=true:=by kernel_rfl) (hL:mQ l ix=some L:=by exact rfl):cf P n D ⟨l⟩ fuel listed e O Q:=(WL.sound ht h) fuel listed ix (sy hL) (fun _=>⟨hs,hp⟩)
end
section
variable {G H:Gh} {n:Sz} {D:List Deferred} {e:Env} {a:Act} {P:Program} {tab:b9} {O O' B:VH} {w:World} {m m':MV} {u v:Value} {ops:Array Oper} {Q:VQ} {md:Md} {c d:Code} {σ :Type}
def aA {σ :Type} (l:List Nat) (ms: σ ->List MV) (I: σ ->VH->Prop) (Q:VQ):VQ:=fun x e O=>match x with
 | .normal=>∃s,looks e l=some (ms s)/\I s O
 | x=>Q x e O
theorem KM {l:List Nat} {ms: σ ->List MV} {I: σ ->VH->Prop} {i:Nat}:aA l ms I Q (.exit i) e O=Q (.exit i) e O:=rfl
theorem KN {l:List Nat} {ms: σ ->List MV} {I: σ ->VH->Prop} {i:Nat}:aA l ms I Q (.goto i) e O=Q (.goto i) e O:=rfl
theorem OT {l:List Nat} {ms: σ ->List MV} {I: σ ->VH->Prop}:aA l ms I Q .ret e O=Q .ret e O:=rfl
theorem Ip {l:List Nat} {ms: σ ->List MV} {I: σ ->VH->Prop}:aA l ms I Q (.panic m) e O=Q (.panic m) e O:=rfl
theorem aA.mk {l:List Nat} {ms: σ ->List MV} {I: σ ->VH->Prop} (s: σ) (h2:I s O) (h1:looks e l=some (ms s):=by exact rfl):aA l ms I Q .normal e O:=⟨s,h1,h2⟩
theorem VC.join (ht:aK P tab) (l:List Nat) (ms: σ ->List MV) (I: σ ->VH->Prop) (h1:VC P n D c e O (aA l ms I Q)) (h2:∀s O,I s O->WC P tab n D d (iT l (ms s) []) O Q):VC P n D (.seq c d) e O Q:=by
 refine VC.seq (VC.mono ?_ h1);intro x e O h;cases x with
 | normal=>
   obtain⟨s,h3,h4⟩:=h;exact VC.env (WC.sound ht (h2 s O h4)) (ib (e0:=[]) (fun t x h=>by simp[look]at h) h3)
 | _=>exact h
def Iq (P:Program) (n:Sz) (D:List Deferred) (b:Code) (Q:VQ):Env->VH->Prop:=fun e O=>VC P n D b e O Q
theorem Uo {b:Code}:Iq P n D b Q e O=VC P n D b e O Q:=rfl
theorem VC.ag (ht:aK P tab) (h:WC P tab n D c e O (qt (Iq P n D d Q) Q)):VC P n D (.seq c d) e O Q:=by
 refine VC.seq (VC.mono ?_ (WC.sound ht h));intro x e O h;cases x<;>exact h
theorem VC.bC (h:VC P n D c e O (qt (Iq P n D d Q) Q)):VC P n D (.seq c d) e O Q:=by
 refine VC.seq (VC.mono ?_ h);intro x e O h;cases x<;>exact h
theorem VF.FO (ht:aK P tab) {f:FuncId} {fn:Func} {c:Code} {args:List MV} {rs:List ResultVar} {R:fL->VH->Prop} (hf:P.funcs[f]?=some fn) (hb:fn.body=some c) (hk:(⟨fn.ntmps,0⟩:Sz)=n) (hr:fn.results.toList=rs) (hn:args.length<=n.n)
  (h:VC P n [] c (cw 0 args) O (BO tab rs R)):VF P f args O R:=by
 subst hk;refine VF.enter ht hf hb hn (VC.mono ?_ h);intro x e O hx
 have key:iI R O (ie tab e O rs)->∃m,db tab fn e O=some m/\R (.ret m) O:=fun h=>by
  unfold db;rw[hr, <-rE];generalize ie tab e O rs=z at h;unfold iI at h;split at h
  ·exact h.elim
  ·exact⟨_,rfl,h⟩
  ·rename_i l hl;refine⟨.tuple l,?_,h⟩
   match l,hl with
   | [],_=>rfl
   | [m],hl=>exact absurd rfl (hl m)
   | _::_::_,_=>rfl
 cases x<;>first | exact key hx | exact hx
theorem VF.bO {f:FuncId} {fn:Func} {c:Code} {args:List MV} {R:fL->VH->Prop} {Q':Prop} (k:Nat) (rs:List ResultVar) (hf:P.funcs[f]?=some fn) (q:Q') (ht:aK P tab:=by exact aa) (hb:fn.body=some c:=by exact rfl) (hk:(⟨fn.ntmps,0⟩:Sz)=⟨k,0⟩:=by exact rfl) (hr:fn.results.toList=rs:=by exact rfl) (hn:args.length<=k:=by exact Nat.le_of_ble_eq_true rfl) (h:VC P ⟨k,0⟩ [] c (cw 0 args) O (BO tab rs R)=Q':=by conv=>lhs;simp only[cw,Nat.zero_add,Nat.reduceAdd]):VF P f args O R:=VF.FO ht hf hb hk hr hn (h.mpr q)
theorem VC.bP {ks:List MV} (ls Ks:List Nat) (ms: σ ->List MV) (I: σ ->VH->Prop) (μ : σ ->Nat) (s0: σ) (hI:I s0 O)
  (step:∀s O,I s O->VC P n D c (iT ls (ms s) (iT Ks ks [])) O (az ls Ks ks ms I μ s Q)) (h0:looks e ls=some (ms s0):=by exact rfl) (hk:looks e Ks=some ks:=by exact rfl):VC P n D (.loop c) e O Q:=VC.iA ls Ks ms I μ s0 h0 hk hI step
theorem VC.age {K:Env->VH->Prop} {id:Nat} (l:List Nat) (ms: σ ->List MV) (I: σ ->VH->Prop) (h1:VC P n D c e O (h_ id (aA l ms I Q))) (h2:∀s O,I s O->K (iT l (ms s) []) O):VC P n D c e O (h_ id (qt K Q)):=by
 intro G a w hw hf;refine wp_mono (h1 G a w hw hf) ?_;rintro y a' w' ⟨x,e',O',H,g1,g2,g3,g4,g5⟩
 have nor:∀{x':VX},x'= .normal\/x'= .exit id->(∃s,looks e' l=some (ms s)/\I s O')->FR H n D e' a'->XR H x' y->(∀e O,K e O->h_ id (qt K Q) x' e O)->(∀e,FR H n D e a'->FRX H n D x' e a')->cx G n D (h_ id (qt K Q)) y a' w':=fun hx ⟨s,h3,h4⟩ hf' hy hK hF=>
  ⟨_,iT l (ms s) [],O',H,g1,g2,hF _ (hf'.less (ib (e0:=[]) (fun t x h=>by simp[look]at h) h3)),hy,hK _ _ (h2 s O' h4)⟩
 cases x with
 | normal=>exact nor (.inl rfl) g5 g3 g4 (fun e O h=>h) (fun e h=>h)
 | exit i=>
   by_cases hi:i=id
   ·subst hi;simp only[h_,if_true]at g5;exact nor (.inr rfl) g5 g3 g4 (fun e O h=>by simp only[h_,if_true];exact h) (fun e h=>h)
   ·refine⟨.exit i,e',O',H,g1,g2,g3,g4,?_⟩;simp only[h_,hi,if_false]at g5 ⊢;exact g5
 | _=>exact⟨_,e',O',H,g1,g2,g3,g4,g5⟩
def ex1:MV->Bool
 | .v _=>true
 | .str _=>true
 | _=>false
def exM:MV->Bool
 | .v _=>true
 | .str _=>true
 | .agg cs=>cs.all ex1
 | _=>false
theorem DP (h:ex1 m=true) (h1:VR G m u):VR H m u:=by
 cases m with
 | v x=>have:=h1.iw;subst this;cases h1 with | v hp=>exact .v hp
 | str l=>cases h1;exact .str
 | _=>cases h
theorem DQ (h:ex1 m=true) (h1:VR G m u) (h2:VR H m v):v=u:=by
 cases m with
 | v x=>rw[h1.iw,h2.iw]
 | str l=>cases h1;cases h2;rfl
 | _=>cases h
theorem acU (h:exM m=true) (h1:VR G m u):VR H m u:=by
 cases m with
 | v x=>exact DP (m:=.v x) rfl h1
 | str l=>exact DP (m:=.str l) rfl h1
 | agg cs=>
   cases h1 with
   | agg h2 h3=>exact .agg h2 fun i c u a b=>DP (List.all_eq_true.1 h c (List.mem_of_getElem? a)) (h3 i c u a b)
 | _=>cases h
theorem RG (h:exM m=true) (h1:VR G m u) (h2:VR H m v):v=u:=by
 cases m with
 | v x=>exact DQ (m:=.v x) rfl h1 h2
 | str l=>exact DQ (m:=.str l) rfl h1 h2
 | agg cs=>
   cases h1 with
   | agg h3 h4=>
     cases h2 with
     | agg h5 h6=>
       congr 2
       refine List.ext_getElem? fun i=>?_
       rename_i us vs;rcases Nat.lt_or_ge i cs.length with hi | hi
       ·have e1:=List.getElem?_eq_getElem (show i<us.length by omega);have e2:=List.getElem?_eq_getElem (show i<vs.length by omega);have e3:=List.getElem?_eq_getElem hi;rw[e1,e2]
        congr 1
        exact DQ (List.all_eq_true.1 h _ (List.getElem_mem hi)) (h4 i _ _ e3 e1) (h6 i _ _ e3 e2)
       ·rw[List.getElem?_eq_none (by omega),List.getElem?_eq_none (by omega)]
 | _=>cases h
def sD (G:Gh) (J:VH->Prop) (x:World):Prop:=∃H O',Gh.Le G H/\WR H O' x/\J O'
theorem sD.le {J:VH->Prop} (h:G.Le H) {x:World} (hb:sD H J x):sD G J x:=by
 obtain⟨K,O',h1,h2,h3⟩:=hb;exact⟨K,O',h.trans h1,h2,h3⟩
theorem sD.ss {J:VH->Prop} {x:World} (h:sD G J x):SS G x:=by
 obtain⟨K,O',h1,h2,_⟩:=h;exact SS.le h1 h2.ss
def TE (brk:List Nat) (G:Gh) (J:VH->Prop) (j:Nat) (x:World):Prop:=SS G x/\(brk.contains j=false->sD G J x)
theorem TE.le {J:VH->Prop} {brk:List Nat} {j:Nat} {x:World} (h:G.Le H) (t:TE brk H J j x):TE brk G J j x:=⟨SS.le h t.1,fun k=>(t.2 k).le h⟩
theorem TE.mk {J:VH->Prop} {brk:List Nat} {j:Nat} {x:World} (h:sD G J x):TE brk G J j x:=⟨h.ss,fun _=>h⟩
def ab (P:Program) (n:Sz) (D:List Deferred) (ops:Array Oper) (brk:List Nat) (J:VH->Prop) (Ψ :Gh->Prop) (Z:Prop) (fuel:Nat) (listed:Array Bool) (e:Env) (O:VH) (Q:VQ):Prop:=
 (∀G H,Gh.Le G H-> Ψ G-> Ψ H)->Z->J O->∀G a w, Ψ G->WR G O w->FR G n D e a->iN P .any ops (cx G n D Q) (TE brk G J) fuel listed a w
theorem VC.lY {id:Nat} (brk:List Nat) (h:ab P n D ops brk (fun O'=>O.Ge O') (fun _=>True) (∀k,O.next<=k->O.hp k=none) ops.size (Array.replicate ops.size false) e O Q) (hm:P.follows .mixedOrders=true:=by kernel_rfl):VC P n D (.region id ops true) e O Q:=
 fun G a w hw hf=>wp_region_any hm (jo _ _ _ _ (h (fun _ _ _ _=>trivial) (fun k hk=>(hw.oN k hk).2.2) (VH.Ge.refl O) G a _ trivial (hw.drawn _) hf))
theorem ab.take {J:VH->Prop} {Z:Prop} {brk:List Nat} {Ψ :Gh->Prop} {fuel i:Nat} {listed:Array Bool} {o:Oper} (ho:ops[i]?=some o) (hs:Region.noSelect ops=true) (hf:Region.free .any ops listed i=true) (hr:(Region.ready .any ops listed).contains i=true) (hb:nA ops brk listed i=true)
  (hd:bm n o.dst=true) (hy:∀G a w,Z->J O-> Ψ G->WR G O w->FR G n D e a->∃u,VR G m u/\YieldsIf P ops (sD G J) o u a) (h:ab P n D ops brk J Ψ Z fuel (listed.setIfInBounds i true) (aU o.dst m e) O Q):ab P n D ops brk J Ψ Z (fuel+1) listed e O Q:=by
 intro hΨ hZ hJ G a w hψ hw aS;obtain⟨u,hu,hyi⟩:=hy G a w hZ hJ hψ hw aS;refine nM (S:=sD G J) (W:=fun j=>∃k,j∈j_ ops listed i k) (brk:=fun j=>brk.contains j) ho (Region.noSelect_spec hs) (gK hd) (fun j x hj hT=>hT.2 hj) (fun x hx=>TE.mk hx) fuel listed a w (Region.free_spec ho hf) Bz Gq (Gr hb) (by simpa using hr) hyi ⟨G,O,Gh.Le.refl G,hw,hJ⟩ (h hΨ hZ hJ G _ w hψ hw (aS.aU hd hu))
theorem ab.av (i:Nat) {brk:List Nat} {Ψ :Gh->Prop} {J:VH->Prop} {Z:Prop} {fuel:Nat} {listed:Array Bool} {l:List Oper} {o:Oper} (h:zm (fun m O'=>ab P n D ⟨l⟩ brk J Ψ Z fuel (listed.setIfInBounds i true) (aU o.dst m e) O' Q) (ia tab .av o e O)) (ht:aK P tab:=by exact aa) (ho:l[i]?=some o:=by exact rfl) (hs:Region.noSelect ⟨l⟩=true:=by kernel_rfl) (hf:Region.free .any ⟨l⟩ listed i=true:=by kernel_rfl) (hr:(Region.ready .any ⟨l⟩ listed).contains i=true:=by kernel_rfl) (hb:nA ⟨l⟩ brk listed i=true:=by kernel_rfl) (hg:aL ⟨l⟩ o e=some true:=by exact rfl) (hd:bm n o.dst=true:=by exact rfl):ab P n D ⟨l⟩ brk J Ψ Z (fuel+1) listed e O Q:=by
 generalize hv:ia tab .av o e O=v at h;cases v with
 | none=>exact h.elim
 | some p=>
   obtain⟨m,O'⟩:=p;obtain⟨h1,rfl⟩:=nB hv;refine ab.take (by simpa using ho) hs hf hr hb hd (fun G a w _ _ _ hw aS=>?_) h;obtain⟨u,hu,cc⟩:=uh (P:=P) ht aS h1
   exact⟨u,hu,.inl ⟨bj aS hg,fun x hx=>by
    obtain⟨H,O2,h2,h3,_⟩:=hx;exact cc x (SS.le h2 h3.ss)⟩⟩
theorem KO {t:TypeId} {p:MV} (hB:B.Ge O) (hN:∀k,B.next<=k->B.hp k=none) (h:eQ tab B t p=some m):eQ tab O t p=some m:=by
 unfold eQ at h ⊢
 have:∀{cs off},cellsOf B p=some (cs,off)->cellsOf O p=some (cs,off):=fun{cs off} hc=>by
  unfold cellsOf at hc ⊢;split at hc
  ·split at hc
   ·rename_i hk;have eg:=Nat.lt_of_not_le fun hle=>by rw[hN _ hle]at hk;cases hk
    rw[hB.hp _ eg,hk];exact hc
   ·cases hc
  ·exact hc
  ·cases hc
 split at h
 ·rename_i i cs off hi hc;rw[this hc,hi];exact h
 ·cases h
theorem ab.ld (i:Nat) {Ψ :Gh->Prop} {brk:List Nat} {fuel:Nat} {listed:Array Bool} {l:List Oper} {d:Option Tmp} {t:TypeId} {x:Operand} {ty:TypeId} {ps:String} {af:Array Edge} {g:Option (Nat×Bool)} {p:MV} (hv:eQ tab B t p=some m) (h:ab P n D ⟨l⟩ brk (fun O'=>B.Ge O') Ψ (∀k,B.next<=k->B.hp k=none) fuel (listed.setIfInBounds i true) (aU d m e) O Q) (ht:aK P tab:=by exact aa) (ho:l[i]?=some (.mk d (.load t x) ty ps af g):=by exact rfl) (hs:Region.noSelect ⟨l⟩=true:=by kernel_rfl) (hf:Region.free .any ⟨l⟩ listed i=true:=by kernel_rfl) (hr:(Region.ready .any ⟨l⟩ listed).contains i=true:=by kernel_rfl) (hb:nA ⟨l⟩ brk listed i=true:=by kernel_rfl) (hg:aL ⟨l⟩ (.mk d (.load t x) ty ps af g) e=some true:=by exact rfl) (hd:bm n d=true:=by exact rfl) (hx:ev e x=some p:=by exact rfl) (hm:exM m=true:=by exact rfl):ab P n D ⟨l⟩ brk (fun O'=>B.Ge O') Ψ (∀k,B.next<=k->B.hp k=none) (fuel+1) listed e O Q:=by
 refine ab.take (o:=.mk d (.load t x) ty ps af g) (by simpa using ho) hs hf hr hb hd (fun G a w hN hB _ hw aS=>?_) h;obtain⟨u,w',K,cc,h1,h2,h3,_⟩:=Gl (P:=P) ht hw (KO hB hN hv) (aS.ev hx);obtain⟨u0,YC⟩:∃u0,VR G m u0:=⟨u,acU hm h3⟩
 refine⟨u0,YC,.inl ⟨bj aS hg,fun y hy=>?_⟩⟩;obtain⟨H,O2,g1,g2,g3⟩:=hy;obtain⟨r,g4,g5⟩:=nS (P:=P) ht g2 (KO g3 hN hv) ((aS.ev hx).mono g1);have:=g5 y g2.sx;have er:=RG hm YC g4;subst er;simp only[execOp,Sem.run_bind,this];rfl
theorem kT {Q:Exit->Act->World->Prop} {S:World->Prop} {T:Nat->World->Prop}:∀(fuel:Nat) (listed:Array Bool) (a:Act) (w:World),(∀j,listed.getD j true=false->∀x,S x->T j x)->wpAnyH P .any ops Q S fuel listed a w->iN P .any ops Q T fuel listed a w:=by
 intro fuel;induction fuel with
 | zero=>intro listed a w _ h;exact⟨h.1,h.2⟩
 | succ fuel ih=>
   intro listed a w hT h;refine⟨h.1,fun i hi=>?_⟩;have eR:=(mem_ready.1 hi).1
   exact wpOp_mono (fun a' w' h'=>⟨hT i eR _ h'.1,ih _ _ _ (fun j hj x=>hT j (by
    by_cases FB:i=j
    ·subst FB;exact eR
    ·rw[getD_set_ne true FB]at hj;exact hj) x) h'.2⟩) (h.2 i hi)
theorem ab.fin {brk:List Nat} {Ψ :Gh->Prop} {J:VH->Prop} {Z:Prop} {fuel:Nat} {listed:Array Bool} (hb:((List.range listed.size).all fun j=>listed.getD j true||brk.contains j)=true) (h:cf P n D ops fuel listed e O Q):ab P n D ops brk J Ψ Z fuel listed e O Q:=by
 intro hΨ hZ hJ G a w hψ hw aS;refine kT _ _ _ _ (fun j hj x hs=>⟨hs,fun hh=>?_⟩) (h G a w hw aS);rcases Nat.lt_or_ge j listed.size with hl | hl
 ·have:=List.all_eq_true.1 hb j (List.mem_range.2 hl);rw[hj,Bool.false_or]at this;rw[this]at hh;cases hh
 ·rw[Array.getD_eq_getD_getElem?,Array.getElem?_eq_none (by simpa using hl)]at hj;cases hj
theorem ab.one {brk:List Nat} {Ψ :Gh->Prop} {J:VH->Prop} {Z:Prop} {fuel i:Nat} {listed:Array Bool}
  (h:aH P n D ops i e O Q fun e' O'=>J O'/\ab P n D ops brk J Ψ Z fuel (listed.setIfInBounds i true) e' O' Q) (hr:Region.ready .any ops listed=[i]:=by kernel_rfl):ab P n D ops brk J Ψ Z (fuel+1) listed e O Q:=by
 intro hΨ hZ hJ G a w hψ hw aS;refine jq hr (by simp) fun j hj=>?_
 obtain rfl:j=i:=by simpa using hj
 refine wpOp_mono (fun a' w' ⟨e',O',H,h1,h2,h3,h4,h5⟩=>⟨TE.mk ⟨H,O',h1,h2,h4⟩,jr (fun _ _ _=>cx.le h1) _ _ _ _ (fun k _ x hT=>hT.le h1) (h5 hΨ hZ h4 H a' w' (hΨ _ _ h1 hψ) h2 h3)⟩) (h G a w hw aS)
theorem ab.call {brk:List Nat} {Ψ :Gh->Prop} {J:VH->Prop} {Z:Prop} {fuel i:Nat} {listed:Array Bool} {l:List Oper} {d:Option Tmp} {f:Operand} {as_:Array Operand} {ts:Array TypeId} {ty:TypeId} {ps:String} {af:Array Edge} {g:Option (Nat×Bool)} {id:FuncId} {ms:List MV} {Φ :MV->VH->Prop} (hR:VF P id ms O (aD Φ))
  (h:∀m O', Φ m O'->J O'/\ab P n D ⟨l⟩ brk J Ψ Z fuel (listed.setIfInBounds i true) (aU d m e) O' Q) (hr:Region.ready .any ⟨l⟩ listed=[i]:=by kernel_rfl) (ho:l[i]?=some (.mk d (.call {callee:=.value f,args:=as_,argTypes:=ts}) ty ps af g):=by exact rfl) (hg:aL ⟨l⟩ (.mk d (.call {callee:=.value f,args:=as_,argTypes:=ts}) ty ps af g) e=some true:=by exact rfl) (hf:ev e f=some (.func (.func id) [] []):=by exact rfl) (hm:fG e as_.toList=some ms:=by exact rfl) (hb:cM P id=true:=by kernel_rfl) (hd:bm n d=true:=by exact rfl):ab P n D ⟨l⟩ brk J Ψ Z (fuel+1) listed e O Q:=
 ab.one (aH.call (o:=.mk d (.call {callee:=.value f,args:=as_,argTypes:=ts}) ty ps af g) (by simpa using ho) hg rfl rfl hf hm (Enters.sA hb) hd (by simpa using hR) fun r O' hr=>by
  cases r with
  | ret m=>exact h m O' hr
  | panic m=>exact hr.elim) (hr:=hr)
theorem ab.op {brk:List Nat} {Ψ :Gh->Prop} {J:VH->Prop} {Z:Prop} {fuel i:Nat} {listed:Array Bool} {l:List Oper} {o:Oper}
  (h:zm (fun m O'=>J O'/\ab P n D ⟨l⟩ brk J Ψ Z fuel (listed.setIfInBounds i true) (aU o.dst m e) O' Q) (c6 tab o e O)) (ht:aK P tab:=by exact aa) (hr:Region.ready .any ⟨l⟩ listed=[i]:=by kernel_rfl) (ho:l[i]?=some o:=by exact rfl) (hg:aL ⟨l⟩ o e=some true:=by exact rfl) (hd:bm n o.dst=true:=by exact rfl):ab P n D ⟨l⟩ brk J Ψ Z (fuel+1) listed e O Q:=
 ab.one (aH.o1 h (ht:=ht) (ho:=ho) (hg:=hg) (hd:=hd)) (hr:=hr)
theorem ab.st {brk:List Nat} {Ψ :Gh->Prop} {J:VH->Prop} {Z:Prop} {fuel i:Nat} {listed:Array Bool} {l:List Oper} {o:Oper} {M:MV->VH->Prop} (hy:fM P n D o e O M)
  (h:∀m O',M m O'->J O'/\ab P n D ⟨l⟩ brk J Ψ Z fuel (listed.setIfInBounds i true) (aU o.dst m e) O' Q) (hr:Region.ready .any ⟨l⟩ listed=[i]:=by kernel_rfl) (ho:l[i]?=some o:=by exact rfl) (hg:aL ⟨l⟩ o e=some true:=by exact rfl) (hd:bm n o.dst=true:=by exact rfl):ab P n D ⟨l⟩ brk J Ψ Z (fuel+1) listed e O Q:=
 ab.one (aH.st hy h (ho:=ho) (hg:=hg) (hd:=hd)) (hr:=hr)
theorem ab.bH (ix:List (Nat×Fl)) {brk:List Nat} {Ψ :Gh->Prop} {J:VH->Prop} {Z:Prop} {fuel:Nat} {listed:Array Bool} {l:List Oper} {L:List (Fl×Oper)}
  (h:WL P tab n D .any ⟨l⟩ Q L e O) (ht:aK P tab:=by exact aa) (hb:((List.range listed.size).all fun j=>listed.getD j true||brk.contains j)=true:=by kernel_rfl) (hs:Region.noSelect ⟨l⟩=true:=by kernel_rfl) (hp:cE .any ⟨l⟩ fuel listed ix=true:=by kernel_rfl) (hL:mQ l ix=some L:=by exact rfl):ab P n D ⟨l⟩ brk J Ψ Z fuel listed e O Q:=ab.fin hb (cf.bH ix h (ht:=ht) (hs:=hs) (hp:=hp) (hL:=hL))
end
set_option linter.defProp false in
def wk:=And.intro @ws<|And.intro @Uo<|And.intro @KM<|And.intro @KN<|And.intro @OT @Ip
section
variable {G H:Gh} {n:Sz} {D:List Deferred} {e:Env} {a:Act} {P:Program} {tab:b9} {O O':VH} {w:World} {m m':MV} {u v:Value} {ops:Array Oper} {Q:VQ} {md:Md}
theorem qu {t:TypeId} {ms:Array (String×TypeId)} (hu:P.underlying t=some (.interface ms)):P.underlying t=some (.interface (P.methodsAt t)):=by
 rw[hu,Program.methodsAt,hu]
theorem ig.RH {d:Option Tmp} {op:BinOp} {t t' ty tv:TypeId} {x:Operand} {ps:String} {af:Array Edge} {g:Option (Nat×Bool)} {p:MV} {bb:Bool} {ms:Array (String×TypeId)} (hu:P.underlying t=some (.interface ms)) (hx:ev e x=some (.iface tv p)) (uq:(op= .eql/\bb=false)\/(op= .neq/\bb=true)):
  ig P n D (.mk d (.binOp op t x (.const .nilIface) t') ty ps af g) e (.v (.bool bb)):=by
 intro G a hf;have h1:=hf.ev hx;generalize hv:a.eval x=v at h1;have hc:a.eval (.const .nilIface)= .nilIface:=rfl;cases h1 with
 | iface h2=>
   rename_i u;refine dm.of (s:=do eqGuard op t x (.const .nilIface) (.iface tv u) .nilIface;binOp op t (.iface tv u) .nilIface) (aW.of (u:=.bool bb) (fun w _=>?_) (.v rfl)) (by simp[execOp,hv,hc]);have OU:(eqGuard op t x (.const .nilIface) (.iface tv u) .nilIface).run P w= .ok () w:=by rcases uq with⟨rfl,_⟩ | ⟨rfl,_⟩<;>simp[eqGuard]
   rw[Sem.run_bind,OU,Result.andThen_ok];rcases uq with⟨rfl,rfl⟩ | ⟨rfl,rfl⟩
   ·exact run_eql_held_nil w t tv u (qu hu)
   ·exact run_neq_held_nil w t tv u (qu hu)
theorem ig.DR {d:Option Tmp} {op:BinOp} {t t' ty:TypeId} {x:Operand} {ps:String} {af:Array Edge} {g:Option (Nat×Bool)} {bb:Bool} {ms:Array (String×TypeId)} (hu:P.underlying t=some (.interface ms)) (hx:ev e x=some (.v .nilIface)) (uq:(op= .eql/\bb=true)\/(op= .neq/\bb=false)):
  ig P n D (.mk d (.binOp op t x (.const .nilIface) t') ty ps af g) e (.v (.bool bb)):=by
 intro G a hf;have h1:=(hf.ev hx).iw;have hc:a.eval (.const .nilIface)= .nilIface:=rfl;refine dm.of (s:=do eqGuard op t x (.const .nilIface) .nilIface .nilIface;binOp op t .nilIface .nilIface) (aW.of (u:=.bool bb) (fun w _=>?_) (.v rfl)) (by simp[execOp,h1,hc]);have OU:(eqGuard op t x (.const .nilIface) .nilIface .nilIface).run P w= .ok () w:=by rcases uq with⟨rfl,_⟩ | ⟨rfl,_⟩<;>cases x<;>simp[eqGuard]
 rw[Sem.run_bind,OU,Result.andThen_ok];rcases uq with⟨rfl,rfl⟩ | ⟨rfl,rfl⟩
 ·exact run_eql_nil_nil w t (qu hu)
 ·exact run_neq_nil_nil w t (qu hu)
theorem ig.asT {d:Option Tmp} {t s ty:TypeId} {x:Operand} {ps:String} {af:Array Edge} {g:Option (Nat×Bool)} {p:MV} {u:TypeDesc} (hu:P.underlying s=some u) (hi:∀ms,u≠ .interface ms) (hx:ev e x=some (.iface s p)):
  ig P n D (.mk d (.typeAssert x t s true) ty ps af g) e (.tuple [p,.v (.bool true)]):=by
 intro G a hf;have h1:=hf.ev hx;generalize hv:a.eval x=v at h1;cases h1 with
 | iface h2=>
   rename_i w0;refine dm.of (s:=Instr.typeAssert (.iface s w0) t s true) (aW.of (u:=.tuple #[w0,.bool true]) (fun w _=>?_) ?_) (by simp[execOp,hv])
   ·simp only[Instr.typeAssert,Sem.run_bind,run_underlying hu,Result.andThen_ok]
    cases u<;>first
     | rfl
     | simp
     | (rename_i ms;exact absurd rfl (hi ms))
   ·exact VR.tuple (cs:=[p,.v (.bool true)]) (us:=[w0,.bool true]) rfl fun i c u hc hu=>by
     match i with
     | 0=>simp at hc hu;subst hc;subst hu;exact h2
     | 1=>simp at hc hu;subst hc;subst hu;exact .v rfl
     | i+2=>simp at hc
theorem VL.panic {d:Option Tmp} {x:Operand} {ty t:TypeId} {ps:String} {af:Array Edge} {g:Option (Nat×Bool)} {L:List (Fl×Oper)} {p:MV} (hmd:md= .plain) (hx:ev e x=some (.iface t p)) (hg:aL ops (.mk d (.panic x) ty ps af g) e=some true)
  (h:Q (.panic (.iface t p)) (kB n e) O):VL P n D md ops ((.one,.mk d (.panic x) ty ps af g)::L) e O Q:=by
 subst hmd;intro fuel listed ix hf hp
 match ix,hf with
 | (i,g')::ix,hf=>
   obtain⟨rfl,ho,hf⟩:=hf;intro G a w hw aS;have h1:=aS.ev hx
   have Cf:∃u,a.eval x= .iface t u:=by
    generalize a.eval x=v at h1;cases h1;exact⟨_,rfl⟩
   obtain⟨u,hv⟩:=Cf
   have cc:(execOp a.eval (.mk d (.panic x) ty ps af g)).run P w= .halt (.panic (.iface t u)) w:=by
    simp[execOp,hv,Instr.panic,goPanic]
   simp only[List.map_cons,wpOps,ho,bj aS hg,if_true];refine .inl ?_;unfold Oper.wp;rw[cc];exact⟨.panic (.iface t p),kB n e,O,G,Gh.Le.refl G,hw,⟨Df,aS.less Az⟩,⟨_,rfl,by rw[<-hv];exact h1⟩,h⟩
def MR (G:Gh):Option MV->FrameMode->Prop
 | none,.returning=>True
 | some m,.panicking [⟨v,false,false⟩]=>VR G m v
 | _,_=>False
def fW (P:Program) (g:FuncId) (args:List MV) (x:Option MV) (O:VH) (K:VH->Prop):Prop:=
 ∀G w vs u,WR G O w->aO G args vs->MR G x u->CallsD P g vs.toArray u w fun r u' w'=>(∃v,r= .returned v)/\settle u'= .returning/\∃O' H,Gh.Le G H/\WR H O' w'/\K O'
def zp:Option MV->MV
 | none=>.v .nilIface
 | some m=>m
theorem fW.rec {f:FuncId} {fn:Func} {c:Code} {id:Nat} {d:Tmp} {ty:TypeId} {ps:String} {af:Array Edge} {args:List MV} {x:Option MV} {K:VH->Prop} (hf:P.funcs[f]?=some fn) (hd:d<fn.ntmps)
  (h:WC P tab ⟨fn.ntmps,0⟩ [] c ((d,zp x)::cw 0 args) O fun y _ O'=>match y with
   | .normal=>K O'
   | .ret=>K O'
   | _=>False) (ht:aK P tab:=by exact aa) (hb:fn.body=some (.seq (.region id ⟨[.mk (some d) (.call {callee:=.builtin .recover,args:= #[],argTypes:= #[]}) ty ps af none]⟩ false) c):=by exact rfl) (hr:fn.results= #[]:=by exact rfl) (hn:args.length<=fn.ntmps:=by exact Nat.le_of_ble_eq_true rfl):fW P f args x O K:=by
 intro G w vs u hw hv hu;refine callsD_of_wpS hf hb fun c0 cs hm=>wpS_seq (wpS_region ?_)
 have aS:FR G ⟨fn.ntmps,0⟩ [] (cw 0 args) {tmps:=vs.toArray++Array.replicate (fn.ntmps - vs.toArray.size) undef,defers:=[]}:=by
  have hl:=hv.1;refine⟨rfl,by simp;omega,fun t x hx=>?_⟩;rw[hY,if_pos (Nat.zero_le _),Nat.sub_zero]at hx;obtain⟨u,h1,h2⟩:=hv.get hx;refine⟨u,?_,h2⟩;have eg:=(List.getElem?_eq_some_iff.1 h1).1;rw[Array.getElem?_append_left (by simpa using eg)];simpa using h1
 generalize ({tmps:=vs.toArray++Array.replicate (fn.ntmps - vs.toArray.size) undef,defers:=[]}:Act)=a at aS
 have cc:(execOp a.eval (.mk (some d) (.call {callee:=.builtin .recover,args:= #[],argTypes:= #[]}) ty ps af none)).run P w= .ok .recover w:=by
  simp[execOp,resolve,invoke,builtin]
 have go:∀(v:Value) (u':FrameMode),VR G (zp x) v->settle u'= .returning->(c.wpS P (bodyPostS P fn c0 cs fun r u' w'=>(∃v,r= .returned v)/\settle u'= .returning/\∃O' H,Gh.Le G H/\WR H O' w'/\K O')) (a.put (some d) v) ({c0 with mode:=u'}::cs) w:=by
  intro v u' W7 hs;refine wpS_of_wp ?_;refine wp_mono (WC.sound ht h G _ w hw (FR.put aS hd W7)) ?_;rintro y a' w' ⟨z,e',O',H,g1,g2,g3,g4,g5⟩
  have fin:FR H ⟨fn.ntmps,0⟩ [] e' a'->K O'->bodyPostS P fn c0 cs (fun r u' w'=>(∃v,r= .returned v)/\settle u'= .returning/\∃O' H,Gh.Le G H/\WR H O' w'/\K O') .normal a' ({c0 with mode:=u'}::cs) w':=fun hf' hk=>
   ⟨hf'.defers,u',rfl,.tuple #[],by simp[results,hr],⟨_,rfl⟩,hs,O',H,g1,g2,hk⟩
  cases y<;>cases z<;>first
   | exact False.elim g4
   | exact fin g3 g5
   | exact g5.elim
 have KP:(List.range (Array.mk [Oper.mk (some d) (.call {callee:=.builtin .recover,args:= #[],argTypes:= #[]}) ty ps af none]).size)=[0]:=rfl;rw[KP];simp only[wpOpsS,List.getElem?_toArray,List.getElem?_cons_zero,cc];have agf:Region.wanted (Oper.mk (some d) (.call {callee:=.builtin .recover,args:= #[],argTypes:= #[]}) ty ps af none) (yielded ⟨[.mk (some d) (.call {callee:=.builtin .recover,args:= #[],argTypes:= #[]}) ty ps af none]⟩ a.tmps)=true:=rfl;rw[if_pos agf];subst hm
 match x,hmu:c0.mode,hu with
 | none,.returning,_=>
   have G4:recoverD (c0::cs)=none:=by simp[recoverD,hmu]
   rw[G4];have:=go .nilIface .returning (.v rfl) rfl;rw[show({c0 with mode:=.returning}:Frame)=c0 from by rw[<-hmu]]at this;exact this
 | some m,.panicking [⟨v,false,false⟩],W7=>
   have G4:recoverD (c0::cs)=some (v,{c0 with mode:=.panicking [⟨v,true,false⟩]}::cs):=by simp[recoverD,hmu]
   rw[G4];exact go v _ W7 (by simp[settle])
def KQ (P:Program) (tab:b9) (rs:List ResultVar) (g:FuncId) (ms:List MV) (R:fL->VH->Prop):VQ:=fun x e O=>match x with
 | .normal=>fW P g ms none O fun O'=>iI R O' (ie tab e O' rs)
 | .ret=>fW P g ms none O fun O'=>iI R O' (ie tab e O' rs)
 | .panic m=>fW P g ms (some m) O fun O'=>iI R O' (ie tab e O' rs)
 | _=>False
theorem VF.deferred {f g:FuncId} {fn:Func} {A rest:Code} {id k lo:Nat} {t:Tmp} {cap:Array Operand} {ty YD:TypeId} {ps YE:String} {af YF:Array Edge} {args:List MV} {rs:List ResultVar} {R:fL->VH->Prop} (hf:P.funcs[f]?=some fn) (hE:Enters P g)
  (h:WC P tab ⟨k,0⟩ [] A (cw 0 args) O fun x e O'=>match x with
   | .normal=>∃ms,fG e cap.toList=some ms/\∀D,VC P ⟨k,lo⟩ D rest ((t,.func (.func g) [] ms)::e) O' (KQ P tab rs g ms R)
   | _=>False) (ht:aK P tab:=by exact aa) (hb:fn.body=some (.seq A (.seq (.region id ⟨[.mk (some t) (.makeFunc (.func g) #[] cap) ty ps af none,.mk none (.defer {callee:=.value (.tmp t),args:= #[],argTypes:= #[]}) YD YE YF none]⟩ false) rest)):=by exact rfl) (hk:fn.ntmps=k:=by exact rfl) (hr:fn.results.toList=rs:=by exact rfl) (hn:args.length<=k:=by exact Nat.le_of_ble_eq_true rfl) (eb:t<k:=by decide):VF P f args O R:=by
 subst hk;intro G w vs hw hv;refine calls_of_wp_defers hf hb ?_
 have aS:FR G ⟨fn.ntmps,0⟩ [] (cw 0 args) {tmps:=vs.toArray++Array.replicate (fn.ntmps - vs.toArray.size) undef,defers:=[]}:=by
  have hl:=hv.1;refine⟨rfl,by simp;omega,fun t x hx=>?_⟩;rw[hY,if_pos (Nat.zero_le _),Nat.sub_zero]at hx;obtain⟨u,h1,h2⟩:=hv.get hx;refine⟨u,?_,h2⟩;have eg:=(List.getElem?_eq_some_iff.1 h1).1;rw[Array.getElem?_append_left (by simpa using eg)];simpa using h1
 refine wp_seq (wp_mono (WC.sound ht h G _ w hw aS) ?_);rintro y a1 w1 ⟨x,e,O1,H,g1,g2,g3,g4,g5⟩
 cases y<;>cases x<;>first
  | exact False.elim g4
  | exact g5.elim
  | skip
 obtain⟨ms,hm,OV⟩:=g5;have g3:FR H ⟨fn.ntmps,0⟩ [] e a1:=g3;have iu:=g3.fG hm;have Ft:cap.map a1.eval=(cap.toList.map a1.eval).toArray:=by apply Array.ext';simp
 generalize cap.toList.map a1.eval=us at iu Ft
 have OW:(execOp a1.eval (.mk (some t) (.makeFunc (.func g) #[] cap) ty ps af none)).run P w1= .ok (.value (.func (.func g) #[] us.toArray)) w1:=by
  simp[execOp,Instr.makeFunc,Ft]
 have hz:=g3.size;dsimp only at hz
 have hev:(a1.put (some t) (.func (.func g) #[] us.toArray)).eval (.tmp t)= .func (.func g) #[] us.toArray:=by
  simp[Act.eval,Act.put,hz,eb]
 have OZ:(execOp (a1.put (some t) (.func (.func g) #[] us.toArray)).eval (.mk none (.defer {callee:=.value (.tmp t),args:= #[],argTypes:= #[]}) YD YE YF none)).run P w1= .ok (.defer {target:=.fn (.func g) us.toArray,args:= #[]}) w1:=by
  simp[execOp,resolve,hev,Deferred.ofValue]
 refine wp_seq (wp_region ?_);have KP:∀o1 o2:Oper,List.range (Array.mk [o1,o2]).size=[0,1]:=fun _ _=>rfl
 rw[KP];have DT:∀(o1 o2:Oper) (tm:Array Value),o1.guard=none->Region.wanted o1 (yielded ⟨[o1,o2]⟩ tm)=true:=fun o1 o2 tm h=>by simp[Region.wanted,h]
 have qk:∀(o1 o2:Oper) (tm:Array Value),o2.guard=none->Region.wanted o2 (yielded ⟨[o1,o2]⟩ tm)=true:=fun o1 o2 tm h=>by simp[Region.wanted,h]
 simp only[wpOps,List.getElem?_toArray,List.getElem?_cons_zero,List.getElem?_cons_succ];rw[if_pos (DT _ _ _ rfl)];refine .inl ?_;unfold Oper.wp;rw[OW,Oper.upon_value];simp only[wpOps,List.getElem?_toArray,List.getElem?_cons_zero,List.getElem?_cons_succ];rw[if_pos (qk _ _ _ rfl)];refine .inl ?_;first | unfold Oper.wp | skip
 rw[OZ,Oper.upon_defer];have tS:FR H ⟨fn.ntmps,0⟩ [] ((t,.func (.func g) [] ms)::e) (a1.put (some t) (.func (.func g) #[] us.toArray)):=FR.put g3 eb (.func (fs:=[]) (us:=[]) rfl (fun i c u h=>by simp at h) iu.1 iu.2);generalize a1.put (some t) (.func (.func g) #[] us.toArray)=a2 at tS;have Cg:FR H ⟨fn.ntmps,lo⟩ [{target:=.fn (.func g) us.toArray,args:= #[]}] ((t,.func (.func g) [] ms)::e) {a2 with defers:={target:=.fn (.func g) us.toArray,args:= #[]}::a2.defers}:=⟨by rw[tS.defers],tS.size,tS.get⟩;show rest.wp P _ _ _;refine wp_mono (OV _ H _ w1 g2 Cg) ?_;rintro y a' w' ⟨x,e',O',K,k1,k2,k3,k4,k5⟩
 have hinv:∀w:World,(invoke (.fn (.func g) us.toArray) #[]).run P w= .ok (.enter g us.toArray) w:=fun w=>by
  simp[invoke,hE us.toArray w]
 have fin:∀(u:FrameMode) (z:Option MV),u≠ .run->MR K z u->FR K ⟨fn.ntmps,lo⟩ [{target:=.fn (.func g) us.toArray,args:= #[]}] e' a'->fW P g ms z O' (fun O'=>iI R O' (ie tab e' O' rs))->
   Leaves P fn a'.tmps (fun x w'=>∃r O' H,Gh.Le G H/\WR H O' w'/\ER H r x/\R r O') a'.defers u w':=by
  intro u z hu hmr YG hd;rw[YG.defers];refine leaves_cons hu (hinv _) ((hd K w' us u k2 (iu.mono k1) hmr).mono ?_);rintro r u' Fx ⟨⟨v,rfl⟩,hs,O2,K2,q1,q2,q3⟩;dsimp only;rw[hs]
  have key:∃m,db tab fn e' O2=some m/\R (.ret m) O2:=by
   unfold db;rw[hr, <-rE];generalize ie tab e' O2 rs=z at q3;unfold iI at q3;split at q3
   ·exact q3.elim
   ·exact⟨_,rfl,q3⟩
   ·rename_i l hl;refine⟨.tuple l,?_,q3⟩
    match l,hl with
    | [],_=>rfl
    | [m],hl=>exact absurd rfl (hl m)
    | _::_::_,_=>rfl
  obtain⟨m,h6,h7⟩:=key;obtain⟨u2,h8,h9⟩:=kR (P:=P) ht q2 (YG.mono q1) h6;exact⟨u2,h8,.ret m,O2,K2,(g1.trans k1).trans q1,q2,h9,h7⟩
 cases y with
 | normal=>cases x<;>first | exact False.elim k4 | exact fin .returning none (by simp) trivial k3 k5
 | ret=>cases x<;>first | exact False.elim k4 | exact fin .returning none (by simp) trivial k3 k5
 | panic c=>
   cases x with
   | panic m=>
     obtain⟨u,rfl,hvu⟩:=k4;exact fin (.panicking [⟨u,false,false⟩]) (some m) (by simp) hvu k3.2 k5
   | _=>exact False.elim k4
 | exit i=>cases x<;>first | exact False.elim k4 | exact k5.elim
 | goto i=>cases x<;>first | exact False.elim k4 | exact k5.elim
 | outgrown=>cases x<;>exact False.elim k4
theorem Up:kB n []=[]:=rfl
theorem O_ {N L t:Nat}:kB ⟨N,L⟩ ((t,m)::e)=bif decide (t<L)then(t,m)::kB ⟨N,L⟩ e else kB ⟨N,L⟩ e:=rfl
theorem Ir {rs:List ResultVar} {g:FuncId} {ms:List MV} {R:fL->VH->Prop}:KQ P tab rs g ms R .normal e O=fW P g ms none O fun O'=>iI R O' (ie tab e O' rs):=rfl
theorem Uq {rs:List ResultVar} {g:FuncId} {ms:List MV} {R:fL->VH->Prop}:KQ P tab rs g ms R .ret e O=fW P g ms none O fun O'=>iI R O' (ie tab e O' rs):=rfl
theorem KR {rs:List ResultVar} {g:FuncId} {ms:List MV} {R:fL->VH->Prop}:KQ P tab rs g ms R (.panic m) e O=fW P g ms (some m) O fun O'=>iI R O' (ie tab e O' rs):=rfl
end
set_option linter.defProp false in
def wd:=And.intro @Xl<|And.intro @Up<|And.intro @O_<|And.intro @Ir<|And.intro @Uq<|And.intro @KR<|And.intro @qQ<|And.intro @qR @BQ
section
variable {G H:Gh} {n:Sz} {D:List Deferred} {e:Env} {a:Act} {P:Program} {tab:b9} {O O':VH} {w:World} {m m':MV} {u v:Value} {ops:Array Oper} {Q:VQ} {md:Md}
theorem WR.KS (h:WR G O w) (X:Obj):G.Le {G with bL:=br G.bL O.next (some w.heap.size)}/\WR {G with bL:=br G.bL O.next (some w.heap.size)} (O.push (.obj X)) (w.alloc X):=by
 have hle:=Gh.Le.HT h.mc.1 w.heap.size;have hg:=h.grow X
 have eh:∀k b,br G.bL O.next (some w.heap.size) k=some b->(k=O.next/\b=w.heap.size)\/(k≠O.next/\G.bL k=some b):=fun k b hk=>by
  by_cases e:k=O.next
  ·subst e;rw[aG]at hk;injection hk with hk;exact .inl ⟨rfl,hk.symm⟩
  ·rw[aw _ _ e]at hk;exact .inr ⟨e,hk⟩
 have ny:∀j x,br O.hp O.next (some (b_.obj X)) j=some x->(j=O.next/\x= .obj X)\/(j≠O.next/\O.hp j=some x):=fun j x hj=>by
  by_cases e:j=O.next
  ·subst e;rw[aG]at hj;injection hj with hj;exact .inl ⟨rfl,hj.symm⟩
  ·rw[aw _ _ e]at hj;exact .inr ⟨e,hj⟩
 refine⟨hle,hg.base,hg.dX,fun k hk=>?_,fun k b hk=>?_,fun j k b lj lk hj hk=>?_,fun k ds hk=>?_,fun k es ck hk=>?_,fun t ht=>?_,fun s t b x y hs ht h1 h2=>?_,h.n_ hle.bL (lU (by simp)) fun _ _ _ _=>gG fun _=>dA w _,fun k x hk=>?_,h.pd,h.qO hle (me (by simp))⟩
 ·have hk:O.next+1<=k:=hk;obtain⟨h1,h2,h3⟩:=h.oN k (by omega);exact⟨by show br _ _ _ _=_;rw[aw _ _ (by omega)];exact h1,h2,by show br _ _ _ _=_;rw[aw _ _ (by omega)];exact h3⟩
 ·rcases eh k b hk with⟨_,rfl⟩ | ⟨dT,hk⟩
  ·exact⟨h.S4,by simp,fun _=>h.vN⟩
  ·obtain⟨p1,p2,p3⟩:=hg.jI k b hk;exact⟨p1,p2,fun hne=>p3 (by have hne:br O.hp O.next (some (.obj X)) k≠none:=hne;rwa [aw _ _ dT]at hne)⟩
 ·rcases eh j b hj with⟨rfl,rfl⟩ | ⟨dd,hj⟩<;>rcases eh k _ hk with⟨rfl,hb⟩ | ⟨dT,hk⟩
  ·rfl
  ·have:=(h.jI _ _ hk).2.1;omega
  ·subst hb;have:=(h.jI _ _ hj).2.1;omega
  ·exact h.inj j k b (by have lj:br O.hp O.next (some (.obj X)) j≠none:=lj;rwa [aw _ _ dd]at lj) (by have lk:br O.hp O.next (some (.obj X)) k≠none:=lk;rwa [aw _ _ dT]at lk) hj hk
 ·rcases ny k _ hk with⟨_,e⟩ | ⟨_,hk⟩
  ·cases e
  ·obtain⟨b,C,T,h1,h2,h3⟩:=hg.cells k ds hk;exact⟨b,C,T,hle.bL h1,h2,h3.mono hle⟩
 ·rcases ny k _ hk with⟨_,e⟩ | ⟨_,hk⟩
  ·cases e
  ·obtain⟨b,E,h1,h2,h3,h4,h5⟩:=hg.map k es ck hk;exact⟨b,E,hle.bL h1,h2,h3,h4.mono hle,h5.mono hle⟩
 ·rcases ny t _ ht with⟨_,e⟩ | ⟨_,ht⟩
  ·cases e
  ·obtain⟨b,f,k,r,C,T,h1,h2,h3,h4,h5,h6⟩:=hg.tok t ht;refine⟨b,f,k,r,C,T,h1,h2,h3,h4,h5,fun j hj=>?_⟩;rcases eh j b hj with⟨_,rfl⟩ | ⟨_,hj⟩
   ·exact absurd rfl (h.oO ht h1)
   ·exact h6 j hj
 ·rcases ny s _ hs with⟨_,e⟩ | ⟨_,hs⟩
  ·cases e
  ·rcases ny t _ ht with⟨_,e⟩ | ⟨_,ht⟩
   ·cases e
   ·exact h.kA s t b x y hs ht h1 h2
 ·rcases ny k _ hk with⟨rfl,e⟩ | ⟨_,hk⟩
  ·injection e with e;subst e
   exact⟨w.heap.size,aG _ _ _,by rw[eY,if_pos rfl]⟩
  ·obtain⟨b,h1,h2⟩:=hg.obj k x hk;exact⟨b,hle.bL h1,h2⟩
theorem WR.setObj (h:WR G O w) {k b:Nat} {X Y:Obj} (hk:O.hp k=some (.obj X)) (hp:G.bL k=some b) (hX:∀C t fr,X≠ .cells C t fr):WR G (O.set k (.obj Y)) {w with heap:=w.heap.setIfInBounds b Y}:=by
 obtain⟨b',h1,h2⟩:=h.obj k X hk;rw[hp]at h1;injection h1 with h1;subst h1
 have hne:∀j b',j≠k->O.hp j≠none->G.bL j=some b'->b'≠b:=fun j b' hj lj mF e=>hj (h.inj j k b lj (by rw[hk];simp) (e▸mF) hp)
 have iR:∀j,br O.hp k (some (.obj Y)) j≠none->O.hp j≠none:=fun j hn=>by
  by_cases e:j=k
  ·subst e;rw[hk];simp
  ·rwa [aw _ _ e]at hn
 have xA:=ui Y h2;have ei:∀j,j≠b->({w with heap:=w.heap.setIfInBounds b Y}:World).heap[j]?=w.heap[j]?:=fun j hj=>oe _ hj
 have hB:=(h.jI k b hp).1
 have ny:∀j x,(∀y,x≠ .obj y)->br O.hp k (some (b_.obj Y)) j=some x->j≠k/\O.hp j=some x:=fun j x hx hj=>by
  by_cases e:j=k
  ·subst e;rw[aG]at hj;injection hj with hj;exact absurd hj.symm (hx _)
  ·rw[aw _ _ e]at hj;exact⟨e,hj⟩
 refine⟨⟨h.base.os,h.base.tape,h.base.output,by simpa using h.base.size,fun j hj=>?_⟩,fun b' o u' oa=>?_,fun j hj=>?_,fun j b' hj=>?_,fun j k' b' lj lk=>h.inj j k' b' (iR j lj) (iR k' lk),fun j ds hj=>?_,fun j es2 ck2 hj=>?_,fun t ht=>?_,fun s t b' x y hs ht=>?_,h.n_ id (lU (by simp)) fun j b' s hj hs=>gG (fun x hx=>by
   by_cases e:b'=b
   ·subst e;rw[h2]at hx;injection hx with hx;subst hx
    exfalso;simp only[World.shape?,h2]at hs
    cases X<;>first
     | exact hX _ _ _ rfl
     | cases hs
   ·rw[ei _ e];exact hx) hs,fun j x hj=>?_,h.pd,h.qO (Gh.Le.refl _) (me (by simp))⟩
 ·rw[ei j (by have:j<G.B:=hj;omega)];exact h.base.block j hj
 ·have yB:b'≠b:=fun e=>by subst e;rw[(h.jI k b' hp).2.2 (by rw[hk];simp) o]at oa;cases oa
  rw[tf _ (by exact yB)];exact h.dX b' o u' oa
 ·obtain⟨d1,d2,d3⟩:=h.oN j hj;refine⟨d1,d2,?_⟩;show br _ _ _ _=_;rw[aw _ _ (fun e=>by subst e;rw[d3]at hk;cases hk)];exact d3
 ·obtain⟨p1,p2,p3⟩:=h.jI j b' hj;exact⟨p1,by simpa using p2,fun hne=>p3 (iR j hne)⟩
 ·obtain⟨e,hj⟩:=ny j _ (by simp) hj;obtain⟨b',D,T',d1,d2,d3⟩:=h.cells j ds hj;exact⟨b',D,T',d1,by rw[ei _ (hne j b' e (by rw[hj];simp) d1)];exact d2,d3⟩
 ·obtain⟨e,hj⟩:=ny j _ (by simp) hj;obtain⟨b',E,d1,d2,d3⟩:=h.map j es2 ck2 hj;exact⟨b',E,d1,by rw[ei _ (hne j b' e (by rw[hj];simp) d1)];exact d2,d3⟩
 ·obtain⟨e,ht⟩:=ny t _ (by simp) ht;obtain⟨b',f,k',r,D,T',d1,d2,d3,d4,d6,d7⟩:=h.tok t ht;exact⟨b',f,k',r,D,T',d1,d2,by rw[ei _ (fun e=>d7 k (by rw[e];exact hp))];exact d3,d4,d6,d7⟩
 ·obtain⟨_,hs⟩:=ny s _ (by simp) hs;obtain⟨_,ht⟩:=ny t _ (by simp) ht;exact h.kA s t b' x y hs ht
 ·have hj:br O.hp k (some (.obj Y)) j=some (.obj x):=hj;by_cases e:j=k
  ·subst e;rw[aG]at hj;injection hj with hj;injection hj with hj;subst hj
   exact⟨b,hp,xA⟩
  ·rw[aw _ _ e]at hj;obtain⟨b',d1,d2⟩:=h.obj j x hj;exact⟨b',d1,by rw[ei _ (hne j b' e (by rw[hj];simp) d1)];exact d2⟩
section
variable {d:Option Tmp} {op:BinOp} {t t' ty:TypeId} {x y:Operand} {ps:String} {af:Array Edge} {g:Option (Nat×Bool)} {b:Bool} {p q:MV}
theorem Pb:c6 tab (.mk d (.range t x) ty ps af g) e O=none:=rfl
theorem Ur:c6 tab (.mk d (.next x b) ty ps af g) e O=none:=rfl
theorem Ci:c6 tab (.mk d (.typeAssert x t t' b) ty ps af g) e O=none:=rfl
def Is (t:TypeId):Option cz->Option MV->Option MV
 | some i,some p=>match i.under with
   | .interface _=>none
   | _=>some (.iface t p)
 | _,_=>none
theorem Us:c6 tab (.mk d (.makeInterface t x) ty ps af g) e O=(Is t (tab t) (ev e x)).map (·,O):=by
 unfold c6 ew iy Is;dsimp only;cases tab t with
 | none=>rfl
 | some i=>
   cases ev e x with
   | none=>obtain⟨u,a,b,z⟩:=i;cases u<;>rfl
   | some p=>obtain⟨u,a,b,z⟩:=i;cases u<;>rfl
theorem Pc:c6 tab (.mk d (.panic x) ty ps af g) e O=none:=rfl
theorem Ut:cX tab op t (.iface ty p) (.v .nilIface)=none:=by cases op<;>rfl
theorem Uu:cX tab op t (.v .nilIface) (.iface ty p)=none:=by cases op<;>rfl
theorem YH {cs:List MV} {i:Nat}:ru (.tuple cs) i=cs[i]?:=rfl
theorem YI {r:Int} {a b a' b':Nat} {z z':List MV}:Ii (.v (.int .i32 r)) (some ⟨.int .i32,a,b,z⟩) (some ⟨.string,a',b',z'⟩)=none:=rfl
theorem YJ:cX tab op t (.v .nilIface) (.v .nilIface)=none:=by cases op<;>rfl
end
end
set_option linter.defProp false in
def wi:=And.intro @Us<|And.intro @Pb<|And.intro @Ur<|And.intro @Ci<|And.intro @Pc<|And.intro @Ut<|And.intro @Uu<|And.intro @YH<|And.intro @YI @YJ
section
variable {G H:Gh} {n:Sz} {D:List Deferred} {e e':Env} {a:Act} {P:Program} {tab:b9} {O O':VH} {w:World} {m m':MV} {u v:Value} {ops:Array Oper} {Q:VQ} {md:Md}
def ij (cs:List MV) (X:Obj) (G:Gh):Prop:=∃C:Array Value,∃T:Fz C,X= .cells C T.t T.fr/\aO G cs (C.toList.take cs.length)
theorem ij.mono {cs:List MV} {X:Obj} (h:G.Le H) (hx:ij cs X G):ij cs X H:=by
 obtain⟨C,T,h1,h2⟩:=hx;exact⟨C,T,h1,h2.mono h⟩
theorem VH.qv {x:b_} {k j:Nat}:(j=k/\(O.set k x).hp j=some x)\/(j≠k/\(O.set k x).hp j=O.hp j):=by
 by_cases e:j=k
 ·subst e;exact .inl ⟨rfl,VH.an _ _ _⟩
 ·exact .inr ⟨e,VH.ak _ _ e⟩
theorem AF {x:b_} {k j:Nat} (hk:O.hp k≠none) (h:(O.set k x).hp j≠none):O.hp j≠none:=by
 rcases VH.qv (O:=O) (x:=x) (k:=k) (j:=j)with⟨rfl,_⟩ | ⟨_,e⟩
 ·exact hk
 ·rwa [e]at h
theorem WR.swap {k:Nat} {x:b_} (h:WR G O w) (hk:O.hp k≠none) (hc:∀cs,x= .cells cs->∃b,∃C:Array Value,∃T:Fz C,G.bL k=some b/\w.heap[b]?=some (.cells C T.t T.fr)/\aO G cs (C.toList.take cs.length))
  (ho:∀X,x= .obj X->∃b,G.bL k=some b/\w.heap[b]?=some X) (hm:∀es ck,x≠ .map es ck) (ht:x≠ .tok) (hs:∀j t n,x≠ .shape j t n) (hf:∀p,x≠ .fact p:=by intro _ e;cases e):WR G (O.set k x) w where
 base:=h.base
 dX:=h.dX
 oN j hj:=by
  obtain⟨h1,h2,h3⟩:=h.oN j hj;exact⟨h1,h2,(VH.ak _ _ (fun e=>by subst e;exact hk h3)).trans h3⟩
 jI j b hj:=by
  obtain⟨h1,h2,h3⟩:=h.jI j b hj;exact⟨h1,h2,fun hn=>h3 (AF hk hn)⟩
 inj i j b hi hj:=h.inj i j b (AF hk hi) (AF hk hj)
 cells j cs hj:=by
  rcases VH.qv (O:=O) (x:=x) (k:=k) (j:=j)with⟨rfl,e⟩ | ⟨_,e⟩
  ·rw[e]at hj;injection hj with hj;exact hc cs hj
  ·rw[e]at hj;exact h.cells j cs hj
 map j es ck hj:=by
  rcases VH.qv (O:=O) (x:=x) (k:=k) (j:=j)with⟨rfl,e⟩ | ⟨_,e⟩
  ·rw[e]at hj;injection hj with hj;exact absurd hj (hm _ _)
  ·rw[e]at hj;exact h.map j es ck hj
 tok j hj:=by
  rcases VH.qv (O:=O) (x:=x) (k:=k) (j:=j)with⟨rfl,e⟩ | ⟨_,e⟩
  ·rw[e]at hj;injection hj with hj;exact absurd hj ht
  ·rw[e]at hj;exact h.tok j hj
 kA i j b y z hi hj:=by
  rcases VH.qv (O:=O) (x:=x) (k:=k) (j:=i)with⟨rfl,e⟩ | ⟨_,e⟩
  ·rw[e]at hi;injection hi with hi;exact absurd hi ht
  ·rw[e]at hi;rcases VH.qv (O:=O) (x:=x) (k:=k) (j:=j)with⟨rfl,e⟩ | ⟨_,e⟩
   ·rw[e]at hj;injection hj with hj;exact absurd hj ht
   ·rw[e]at hj;exact h.kA i j b y z hi hj
 nw j k' t n hj:=by
  rcases VH.qv (O:=O) (x:=x) (k:=k) (j:=j)with⟨rfl,e⟩ | ⟨_,e⟩
  ·rw[e]at hj;injection hj with hj;exact absurd hj (hs _ _ _)
  ·rw[e]at hj;exact h.nw j k' t n hj
 obj j y hj:=by
  rcases VH.qv (O:=O) (x:=x) (k:=k) (j:=j)with⟨rfl,e⟩ | ⟨_,e⟩
  ·rw[e]at hj;injection hj with hj;exact ho y hj
  ·rw[e]at hj;exact h.obj j y hj
 pd:=h.pd
 yz:=h.qO (Gh.Le.refl _) (me hf)
theorem WR.fix {k:Nat} {cs:List MV} (h:WR G O w) (hk:O.hp k=some (.cells cs)):∃X,ij cs X G/\WR G (O.set k (.obj X)) w:=by
 obtain⟨b,C,T,h1,h2,h3⟩:=h.cells k cs hk;exact⟨_,⟨C,T,rfl,h3⟩,h.swap (by rw[hk];simp) (fun _ e=>by cases e) (fun X e=>by injection e with e;exact⟨b,h1,by rw[h2,e]⟩) (fun _ _ e=>by cases e) (fun e=>by cases e) (fun _ _ _ e=>by cases e) (fun _ e=>by cases e)⟩
theorem WR.rF {k:Nat} {cs:List MV} {X:Obj} (h:WR G O w) (hk:O.hp k=some (.obj X)) (hx:ij cs X G):WR G (O.set k (.cells cs)) w:=by
 obtain⟨b,h1,h2⟩:=h.obj k X hk;obtain⟨C,T,rfl,h3⟩:=hx;exact h.swap (by rw[hk];simp) (fun cs' e=>by injection e with e;subst e;exact⟨b,C,T,h1,h2,h3⟩) (fun X e=>by cases e) (fun _ _ e=>by cases e) (fun e=>by cases e) (fun _ _ _ e=>by cases e) (fun _ e=>by cases e)
theorem VC.px {id:Nat} (brk:List Nat) (k:Nat) {cs:List MV} (hk:O.hp k=some (.cells cs)) (h:∀X,ab P n D ops brk (fun O'=>O'.hp k=some (.obj X)) (ij cs X) True ops.size (Array.replicate ops.size false) e (O.set k (.obj X)) Q) (hm:P.follows .mixedOrders=true:=by kernel_rfl):VC P n D (.region id ops true) e O Q:=
 fun G a w hw hf=>by
  obtain⟨X,hx,qk⟩:=(hw.drawn _).fix hk;exact wp_region_any hm (jo _ _ _ _ (h X (fun _ _=>ij.mono) trivial (VH.an _ _ _) G a _ hx qk hf))
theorem DU (ht:aK P tab) {t:TypeId} {i:cz} {cs:List MV} {us:List Value} {off:Nat} (hi:tab t=some i) (hv:mK (eC i.under) i.size cs off=some m) (nT:aO G cs us):
  ∃r,VR G m r/\∀y b,(∀j v,us[j]?=some v->y.cell? ⟨b,j,none⟩=some v)->(Instr.loadAt t (.pointer (some ⟨b,off,none⟩))).run P y= .ok r y:=by
 have fh:=ht t i hi;simp only[Instr.loadAt,Instr.sureAddr,loadVar];unfold mK at hv;split at hv
 ·rename_i pe;split at hv
  ·rename_i hle;injection hv with hv;subst hv
   have Bu:=(nT.drop off).take i.size;have hlen:((us.drop off).take i.size).length=i.size:=by simp[nT.1];omega
   refine⟨_,.agg Bu.1 Bu.2,fun y b hy=>?_⟩
   have sj:∀j v,((us.drop off).take i.size)[j]?=some v->y.cell? ((⟨b,off,none⟩:Addr).add j)=some v:=by
    intro j v hj;rw[Addr.add_lit];rw[List.getElem?_take]at hj;split at hj
    ·rw[List.getElem?_drop]at hj;exact hy _ v hj
    ·cases hj
   have xF:=run_loadCells_list (P:=P) y ⟨b,off,none⟩ _ sj;rw[hlen]at xF;simp[nR fh,pe,eZ fh,xF]
  ·cases hv
 ·rename_i pe;obtain⟨v,oP,Fq⟩:=nT.get hv;exact⟨v,Fq,fun y b hy=>by simp[nR fh,pe,hy _ v oP]⟩
theorem ab.sE (i:Nat) {brk:List Nat} {cs:List MV} {X:Obj} {fuel:Nat} {listed:Array Bool} {l:List Oper} {d:Option Tmp} {t:TypeId} {x:Operand} {ty:TypeId} {ps:String} {af:Array Edge} {g:Option (Nat×Bool)} {k off:Nat} (hv:eQ tab (O.set k (.cells cs)) t (.ptr k off)=some m) (h:ab P n D ⟨l⟩ brk (fun O'=>O'.hp k=some (.obj X)) (ij cs X) True fuel (listed.setIfInBounds i true) (aU d m e) O Q) (ht:aK P tab:=by exact aa) (ho:l[i]?=some (.mk d (.load t x) ty ps af g):=by exact rfl) (hs:Region.noSelect ⟨l⟩=true:=by kernel_rfl) (hf:Region.free .any ⟨l⟩ listed i=true:=by kernel_rfl) (hr:(Region.ready .any ⟨l⟩ listed).contains i=true:=by kernel_rfl) (hb:nA ⟨l⟩ brk listed i=true:=by kernel_rfl) (hg:aL ⟨l⟩ (.mk d (.load t x) ty ps af g) e=some true:=by exact rfl) (hd:bm n d=true:=by exact rfl) (hx:ev e x=some (.ptr k off):=by exact rfl):ab P n D ⟨l⟩ brk (fun O'=>O'.hp k=some (.obj X)) (ij cs X) True (fuel+1) listed e O Q:=by
 refine ab.take (o:=.mk d (.load t x) ty ps af g) (by simpa using ho) hs hf hr hb hd (fun G a w _ hJ hψ hw aS=>?_) h;obtain⟨C,T,rfl,h3⟩:=hψ;unfold eQ at hv;simp only[cellsOf,VH.an]at hv;split at hv
 ·rename_i ti cs' off' NT hc;injection hc with hc;injection hc with e1 e2;subst e1;subst e2
  obtain⟨r,nj,fi⟩:=DU (P:=P) ht NT hv h3;have YK:=aS.ev hx;generalize YL:a.eval x=xu at YK;cases YK with
  | ptr hp=>
    rename_i b;refine⟨r,nj,.inl ⟨bj aS hg,fun y hy=>?_⟩⟩;obtain⟨H,O2,g1,g2,g3⟩:=hy;obtain⟨b',cA,ct⟩:=g2.obj k _ g3;rw[g1.bL hp]at cA;injection cA with cA;subst cA
    have:=fi y b fun j v hj=>by
     rw[List.getElem?_take]at hj;split at hj
     ·simp only[World.cell?,ct,Option.isSome_none,Bool.false_eq_true,if_false];simpa using hj
     ·cases hj
    simp only[execOp,Sem.run_bind,YL,this];rfl
 ·cases hv
theorem acV {Q Q':Exit->Act->World->Prop} {i:Nat} {K:Act->World->Prop} (hQ:∀y a w,Q y a w->Q' y a w) (h1:wpOp P ops Q i K a w):wpOp P ops Q' i K a w:=by
 unfold wpOp at h1 ⊢;split
 ·rename_i ho;simp only[ho]at h1;exact h1
 ·rename_i o ho;simp only[ho]at h1;split
  ·rename_i rA;simp only[rA,if_true]at h1;refine h1.imp (fun h2=>?_) (fun⟨h2,a',w',h3⟩=>⟨h2,a',w',hQ _ _ _ h3⟩);unfold Oper.wp at h2 ⊢;generalize (execOp a.eval o).run P w=r at*;cases r with
   | ok nx w'=>
     cases nx<;>simp only[Oper.upon]at h2 ⊢ <;>first
      | exact h2
      | (refine Calls.mono h2 fun x Fx he=>?_
         cases x with
         | returned v=>exact he
         | panicked c=>exact hQ _ _ _ he
         | outgrown=>obtain⟨a',w',h3⟩:=he;exact⟨a',w',hQ _ _ _ h3⟩)
   | halt x w'=>cases x<;>simp only[Oper.upon]at h2 ⊢ <;>first | exact h2 | exact hQ _ _ _ h2
  ·rename_i rA;simp only[rA]at h1;exact h1
def RI (k:Nat) (X:Obj) (cs:List MV) (Q:VQ):VQ:=fun x e O=>match x with
 | .panic m=>O.hp k=some (.obj X)/\Q (.panic m) e (O.set k (.cells cs))
 | _=>False
theorem RI.post {k:Nat} {X:Obj} {cs:List MV} {y:Exit} (hψ :ij cs X G) (h:cx G n D (RI k X cs Q) y a w):cx G n D Q y a w:=by
 obtain⟨x,e,O,H,h1,h2,h3,h4,h5⟩:=h;cases x with
 | panic m=>exact⟨_,e,_,H,h1,h2.rF h5.1 (hψ.mono h1),h3,h4,h5.2⟩
 | _=>exact h5.elim
theorem ab.iW {brk:List Nat} {k:Nat} {cs:List MV} {X:Obj} {fuel i:Nat} {listed:Array Bool} {l:List Oper} {d:Option Tmp} {f:Operand} {as_:Array Operand} {ts:Array TypeId} {ty:TypeId} {ps:String} {af:Array Edge} {g:Option (Nat×Bool)} {id:FuncId} {ms:List MV} {R:fL->VH->Prop} (hR:VF P id ms O R)
  (h:∀m O',R (.ret m) O'->O'.hp k=some (.obj X)/\ab P n D ⟨l⟩ brk (fun O'=>O'.hp k=some (.obj X)) (ij cs X) True fuel (listed.setIfInBounds i true) (aU d m e) O' Q) (h2:∀m O',R (.panic m) O'->O'.hp k=some (.obj X)/\Q (.panic m) (kB n e) (O'.set k (.cells cs))) (hr:Region.ready .any ⟨l⟩ listed=[i]:=by kernel_rfl) (ho:l[i]?=some (.mk d (.call {callee:=.value f,args:=as_,argTypes:=ts}) ty ps af g):=by exact rfl) (hg:aL ⟨l⟩ (.mk d (.call {callee:=.value f,args:=as_,argTypes:=ts}) ty ps af g) e=some true:=by exact rfl) (hf:ev e f=some (.func (.func id) [] []):=by exact rfl) (hm:fG e as_.toList=some ms:=by exact rfl) (hb:cM P id=true:=by kernel_rfl) (hd:bm n d=true:=by exact rfl):ab P n D ⟨l⟩ brk (fun O'=>O'.hp k=some (.obj X)) (ij cs X) True (fuel+1) listed e O Q:=by
 intro hΨ hZ hJ G a w hψ hw aS;refine jq hr (by simp) fun j hj=>?_
 obtain rfl:j=i:=by simpa using hj
 have h1:=aH.call (Q:=RI k X cs Q) (K:=fun e' O'=>O'.hp k=some (.obj X)/\ab P n D ⟨l⟩ brk (fun O'=>O'.hp k=some (.obj X)) (ij cs X) True fuel (listed.setIfInBounds j true) e' O' Q) (o:=.mk d (.call {callee:=.value f,args:=as_,argTypes:=ts}) ty ps af g) (by simpa using ho) hg rfl rfl hf hm (Enters.sA hb) hd (by simpa using hR) (fun r O' hr=>by
  cases r with
  | ret m=>exact h m O' hr
  | panic m=>exact h2 m O' hr) G a w hw aS
 refine acV (fun _ _ _=>RI.post hψ) (wpOp_mono (fun a' w' ⟨e',O',H,h1,h2,h3,h4,h5⟩=>⟨TE.mk ⟨H,O',h1,h2,h4⟩,jr (fun _ _ _=>cx.le h1) _ _ _ _ (fun k _ x hT=>hT.le h1) (h5 hΨ hZ h4 H a' w' (hψ.mono h1) h2 h3)⟩) h1)
theorem ab.rF {brk:List Nat} {k:Nat} {cs:List MV} {X:Obj} {fuel:Nat} {listed:Array Bool} (hb:((List.range listed.size).all fun j=>listed.getD j true||brk.contains j)=true) (h:cf P n D ops fuel listed e (O.set k (.cells cs)) Q):ab P n D ops brk (fun O'=>O'.hp k=some (.obj X)) (ij cs X) True fuel listed e O Q:=by
 intro hΨ hZ hJ G a w hψ hw aS;refine kT _ _ _ _ (fun j hj x hs=>⟨hs,fun hh=>?_⟩) (h G a w (hw.rF hJ hψ) aS);rcases Nat.lt_or_ge j listed.size with hl | hl
 ·have:=List.all_eq_true.1 hb j (List.mem_range.2 hl);rw[hj,Bool.false_or]at this;rw[this]at hh;cases hh
 ·rw[Array.getD_eq_getD_getElem?,Array.getElem?_eq_none (by simpa using hl)]at hj;cases hj
theorem ab.mT (ix:List (Nat×Fl)) {brk:List Nat} {k:Nat} {cs:List MV} {X:Obj} {fuel:Nat} {listed:Array Bool} {l:List Oper} {L:List (Fl×Oper)}
  (h:WL P tab n D .any ⟨l⟩ Q L e (O.set k (.cells cs))) (ht:aK P tab:=by exact aa) (hb:((List.range listed.size).all fun j=>listed.getD j true||brk.contains j)=true:=by kernel_rfl) (hs:Region.noSelect ⟨l⟩=true:=by kernel_rfl) (hp:cE .any ⟨l⟩ fuel listed ix=true:=by kernel_rfl) (hL:mQ l ix=some L:=by exact rfl):ab P n D ⟨l⟩ brk (fun O'=>O'.hp k=some (.obj X)) (ij cs X) True fuel listed e O Q:=ab.rF hb (cf.bH ix h (ht:=ht) (hs:=hs) (hp:=hp) (hL:=hL))
end
def Wk (m m':MV):Prop:=∀G u,VR G m u->VR G m' u
def eI (a b:List MV):Prop:=a.length=b.length/\∀(i:Nat) (c d:MV),a[i]?=some c->b[i]?=some d->Wk c d
theorem Wk.refl (m:MV):Wk m m:=fun _ _ h=>h
theorem Wk.trans {a b c:MV} (h:Wk a b) (k:Wk b c):Wk a c:=fun G u x=>k G u (h G u x)
theorem eI.refl (a:List MV):eI a a:=⟨rfl,fun i c d h k=>by rw[h]at k;injection k with k;subst k;exact Wk.refl _⟩
theorem eI.cons {a b:List MV} {x y:MV} (h:Wk x y) (k:eI a b):eI (x::a) (y::b):=by
 refine⟨by rw[List.length_cons,List.length_cons,k.1],fun i c d e f=>?_⟩;cases i with
 | zero=>simp only[List.getElem?_cons_zero,Option.some.injEq]at e f;subst e;subst f;exact h
 | succ i=>simp only[List.getElem?_cons_succ]at e f;exact k.2 i c d e f
theorem eI.get {a b:List MV} (k:eI a b) {i:Nat} {d:MV} (h:b[i]?=some d):∃c,a[i]?=some c/\Wk c d:=by
 have hi:i<a.length:=by rw[k.1];exact(List.getElem?_eq_some_iff.1 h).1
 exact⟨a[i],List.getElem?_eq_getElem hi,k.2 i _ _ (List.getElem?_eq_getElem hi) h⟩
theorem eI.use {G:Gh} {a b:List MV} (k:eI a b) {us:List Value} (h:∀(i:Nat) (c:MV) (u:Value),a[i]?=some c->us[i]?=some u->VR G c u):∀(i:Nat) (c:MV) (u:Value),b[i]?=some c->us[i]?=some u->VR G c u:=fun i d u h1 h2=>by
 obtain⟨c,h3,h4⟩:=k.get h1;exact h4 G u (h i c u h3 h2)
theorem eI.vrs {G:Gh} {a b:List MV} (k:eI a b) {us:List Value} (h:aO G a us):aO G b us:=⟨h.1.trans k.1,k.use h.2⟩
theorem Wk.agg {a b:List MV} (k:eI a b):Wk (.agg a) (.agg b):=fun G u h=>by
 cases h with
 | agg h1 h2=>exact .agg (h1.trans k.1) (k.use h2)
theorem Wk.tuple {a b:List MV} (k:eI a b):Wk (.tuple a) (.tuple b):=fun G u h=>by
 cases h with
 | tuple h1 h2=>exact .tuple (h1.trans k.1) (k.use h2)
theorem Wk.iface {t:TypeId} {a b:MV} (k:Wk a b):Wk (.iface t a) (.iface t b):=fun G u h=>by
 cases h with
 | iface h1=>exact .iface (k G _ h1)
theorem eI.eq_nil {b:List MV} (k:eI [] b):b=[]:=List.eq_nil_of_length_eq_zero k.1.symm
theorem Wk.sl {n:Nat} {a b:List MV} {t:Tok} (k:eI a b):Wk (.sl n a t) (.sl n b t):=fun G u h=>by
 cases h with
 | slnil=>rw[k.eq_nil];exact .slnil
 | nP h1=>rw[k.eq_nil];exact .nP h1
 | jH=>rw[k.eq_nil];exact .jH
 | sl h1 h2 h3 h4 h5 h6=>exact .sl (h1.trans k.1) h2 (k.use h3) h4 h5 (k.1▸h6)
theorem Wk.tok {n:Nat} {a:List MV} {t:Tok}:Wk (.sl n a t) (.sl n a .aq):=fun G u h=>by
 cases h with
 | slnil=>exact .jH
 | nP h1=>exact .nP h1
 | jH=>exact .jH
 | sl h1 h2 h3 h4 h5 h6=>exact .sl h1 h2 h3 h4 h5 trivial
mutual
def aq:MV->MV
 | .sl n cs _=>.sl n (cO cs) .aq
 | .agg cs=>.agg (cO cs)
 | .tuple cs=>.tuple (cO cs)
 | .iface t x=>.iface t (aq x)
 | .v x=>.v x
 | .str l=>.str l
 | .ptr b o=>.ptr b o
 | .c8 cs o=>.c8 cs o
 | .bp b o n c=>.bp b o n c
 | .map b=>.map b
 | .func f a b=>.func f a b
def cO:List MV->List MV
 | []=>[]
 | c::cs=>aq c::cO cs
end
mutual
theorem zw:∀m,Wk m (aq m)
 | .sl n cs t=>by rw[aq];exact(Wk.sl (py cs)).trans Wk.tok
 | .agg cs=>by rw[aq];exact Wk.agg (py cs)
 | .tuple cs=>by rw[aq];exact Wk.tuple (py cs)
 | .iface t x=>by rw[aq];exact Wk.iface (zw x)
 | .v x=>by rw[aq];exact Wk.refl _
 | .str l=>by rw[aq];exact Wk.refl _
 | .ptr b o=>by rw[aq];exact Wk.refl _
 | .c8 cs o=>by rw[aq];exact Wk.refl _
 | .bp b o n c=>by rw[aq];exact Wk.refl _
 | .map b=>by rw[aq];exact Wk.refl _
 | .func f a b=>by rw[aq];exact Wk.refl _
theorem py:∀cs,eI cs (cO cs)
 | []=>by rw[cO];exact eI.refl _
 | c::cs=>by rw[cO];exact eI.cons (zw c) (py cs)
end
theorem mU (a b:List MV):cO (a++b)=cO a++cO b:=by
 induction a with
 | nil=>rw[cO,List.nil_append,List.nil_append]
 | cons x a ih=>rw[List.cons_append,cO,cO,ih,List.cons_append]
theorem kE {α :Type} {f: α ->List MV} (h:∀x,cO (f x)=f x) (L:List α):cO (L.flatMap f)=L.flatMap f:=by
 induction L with
 | nil=>rw[List.flatMap_nil,cO]
 | cons x L ih=>rw[List.flatMap_cons,mU,h,ih]
theorem Uv (L:List (List UInt8)):cO (L.map .str)=L.map .str:=by
 induction L with
 | nil=>rw[List.map_nil,cO]
 | cons x L ih=>rw[List.map_cons,cO,aq,ih]
def oH:MV->MV
 | .sl n cs t=>.sl n (cO cs) t
 | m=>aq m
theorem KT (m:MV):Wk m (oH m):=by
 cases m with
 | sl n cs t=>exact Wk.sl (py cs)
 | _=>exact zw _
def DV:List MV->List MV
 | []=>[]
 | c::cs=>oH c::DV cs
theorem KU:∀cs,eI cs (DV cs)
 | []=>eI.refl _
 | c::cs=>eI.cons (KT c) (KU cs)
def tq:MV->MV
 | .sl n cs t=>.sl n (cO cs) t
 | .tuple cs=>.tuple (DV cs)
 | m=>aq m
theorem YM (m:MV):Wk m (tq m):=by
 cases m with
 | sl n cs t=>exact Wk.sl (py cs)
 | tuple cs=>exact Wk.tuple (KU cs)
 | _=>exact zw _
section
variable {P:Program} {f:FuncId} {as_ bs:List MV} {O:VH}
theorem VF.fgR {R:fL->VH->Prop} (h:VF P f as_ O fun r O'=>match r with
  | .ret m=>R (.ret (tq m)) O'
  | .panic m=>R (.panic (aq m)) O'):VF P f as_ O R:=fun G w vs hw hv=>by
 refine(h G w vs hw hv).mono ?_;rintro x w' ⟨r,O',H,h1,h2,h3,h4⟩;cases r with
 | ret m=>cases x with
   | returned v=>exact⟨.ret _,O',H,h1,h2,YM m H v h3,h4⟩
   | _=>exact h3.elim
 | panic m=>cases x with
   | panicked c=>obtain⟨u,h5,h6⟩:=h3;exact⟨.panic _,O',H,h1,h2,⟨u,h5,zw m H u h6⟩,h4⟩
   | _=>exact h3.elim
theorem VF.fg {Φ :MV->VH->Prop} (h:VF P f as_ O (aD fun m O'=> Φ (tq m) O')):VF P f as_ O (aD Φ):=VF.fgR (VF.mono (fun r O' hr=>by cases r with
 | ret m=>exact hr
 | panic m=>exact hr.elim) h)
variable {n:Sz} {md:Md} {Q:VQ} {e:Env} {K:Env->VH->Prop}
end
section
variable {P:Program} {tab:b9} {n:Sz} {D:List Deferred} {md:Md} {ops:Array Oper} {Q:VQ} {e e':Env} {O O':VH} {m m':MV}
def EW (e e':Env):Prop:=∀t x',look e' t=some x'->∃x,look e t=some x/\Wk x x'
theorem EW.refl (e:Env):EW e e:=fun t x h=>⟨x,h,Wk.refl _⟩
theorem EW.top {k:Nat} (h:Wk m m'):EW ((k,m)::e) ((k,m')::e):=fun t x hx=>by
 rw[look]at hx ⊢;cases ht:t==k
 ·rw[ht]at hx;exact⟨x,hx,Wk.refl _⟩
 ·rw[ht]at hx;injection hx with hx;subst hx;exact⟨m,rfl,h⟩
theorem EW.aU {d:Option Tmp} (h:Wk m m'):EW (aU d m e) (aU d m' e):=by
 cases d with
 | none=>exact EW.refl _
 | some k=>exact EW.top h
theorem FR.wk {G:Gh} {a:Act} (h:FR G n D e a) (hl:EW e e'):FR G n D e' a:=⟨h.defers,h.size,fun t x hx=>by
 obtain⟨y,h1,h2⟩:=hl t x hx;obtain⟨u,h3,h4⟩:=h.get t y h1;exact⟨u,h3,h2 G u h4⟩⟩
theorem VL.wk {L:List (Fl×Oper)} (hl:EW e e') (h:VL P n D md ops L e' O Q):VL P n D md ops L e O Q:=fun fuel listed ix h1 h2=>by
 have:=h fuel listed ix h1 h2;cases md<;>exact fun G a w hw hf=>this G a w hw (hf.wk hl)
theorem VC.bJ {c d:Code} {σ :Type} (l:List Nat) (ms: σ ->List MV) (I: σ ->VH->Prop) (h1:VC P n D c e O (aA l ms I Q)) (h2:∀s O,I s O->VC P n D d (iT l (ms s) []) O Q):VC P n D (.seq c d) e O Q:=by
 refine VC.seq (VC.mono ?_ h1);intro x e O h;cases x with
 | normal=>
   obtain⟨s,h3,h4⟩:=h;exact VC.env (h2 s O h4) (ib (e0:=[]) (fun t x h=>by simp[look]at h) h3)
 | _=>exact h
theorem VL.lh {d:Option Tmp} {x y:Operand} {t ty:TypeId} {ps:String} {af:Array Edge} {g:Option (Nat×Bool)} {L:List (Fl×Oper)} {p q:MV} (hv:gY tab O t p q=some (m,O')) (hw:oH m=m') (h:WL P tab n D md ops Q L (aU d m' e) O') (ht:aK P tab:=by exact aa) (hx:ev e x=some p:=by exact rfl) (hy:ev e y=some q:=by exact rfl) (hg:aL ops (.mk d (.call {callee:=.builtin .append,args:= #[x,y],argTypes:= #[t,t]}) ty ps af g) e=some true:=by exact rfl) (hd:bm n d=true:=by exact rfl):
  VL P n D md ops ((.one,.mk d (.call {callee:=.builtin .append,args:= #[x,y],argTypes:= #[t,t]}) ty ps af g)::L) e O Q:=
 VL.step ht hg (by rw[v8,cT,hx,hy];exact hv) hd (VL.wk (EW.aU (hw▸KT m)) (WL.sound ht h))
end
section
variable {n:Nat} {cs as_ bs:List MV} {t:Tok} {ty:TypeId} {x:MV} {l:List UInt8} {b o:Nat} {v:Value} {f:Fn} {c:MV}
theorem YN:tq (.sl n cs t)= .sl n (cO cs) t:=rfl
theorem KV:tq (.tuple cs)= .tuple (DV cs):=rfl
theorem Uw:tq (.agg cs)= .agg (cO cs):=by show aq (.agg cs)=_;rw[aq]
theorem acW:tq (.v v)= .v v:=by show aq (.v v)=_;rw[aq]
theorem Ux:tq (.str l)= .str l:=by show aq (.str l)=_;rw[aq]
theorem Uy:tq (.ptr b o)= .ptr b o:=by show aq (.ptr b o)=_;rw[aq]
theorem Uz {i j:Nat}:tq (.bp b o i j)= .bp b o i j:=by show aq (.bp b o i j)=_;rw[aq]
theorem UA:tq (.map b)= .map b:=by show aq (.map b)=_;rw[aq]
theorem Pd:tq (.func f as_ bs)= .func f as_ bs:=by show aq (.func f as_ bs)=_;rw[aq]
theorem rG:oH (.sl n cs t)= .sl n (cO cs) t:=rfl
theorem KW:oH (.tuple cs)= .tuple (cO cs):=by show aq (.tuple cs)=_;rw[aq]
theorem UC:oH (.agg cs)= .agg (cO cs):=by show aq (.agg cs)=_;rw[aq]
theorem acX:oH (.v v)= .v v:=by show aq (.v v)=_;rw[aq]
theorem UD:oH (.str l)= .str l:=by show aq (.str l)=_;rw[aq]
theorem UE:oH (.ptr b o)= .ptr b o:=by show aq (.ptr b o)=_;rw[aq]
theorem Pe:oH (.c8 cs o)= .c8 cs o:=by show aq (.c8 cs o)=_;rw[aq]
theorem UF {i j:Nat}:oH (.bp b o i j)= .bp b o i j:=by show aq (.bp b o i j)=_;rw[aq]
theorem UG:oH (.map b)= .map b:=by show aq (.map b)=_;rw[aq]
theorem Pf:oH (.func f as_ bs)= .func f as_ bs:=by show aq (.func f as_ bs)=_;rw[aq]
theorem KX:oH (.iface ty x)= .iface ty (aq x):=by show aq (.iface ty x)=_;rw[aq]
theorem UH:DV []=[]:=rfl
theorem Pg:DV (c::cs)=oH c::DV cs:=rfl
theorem acY:aq (.sl n cs t)= .sl n (cO cs) .aq:=by rw[aq]
theorem YO:aq (.agg cs)= .agg (cO cs):=by rw[aq]
theorem agh:aq (.v v)= .v v:=by rw[aq]
theorem YP:aq (.str l)= .str l:=by rw[aq]
theorem YQ:aq (.ptr b o)= .ptr b o:=by rw[aq]
theorem YR {i j:Nat}:aq (.bp b o i j)= .bp b o i j:=by rw[aq]
theorem YS:aq (.map b)= .map b:=by rw[aq]
theorem Ph:aq (.iface ty x)= .iface ty (aq x):=by rw[aq]
theorem G5:cO []=[]:=by rw[cO]
theorem Pj:cO (c::cs)=aq c::cO cs:=by rw[cO]
end
set_option linter.defProp false in
def wu:=And.intro @YN<|And.intro @KV<|And.intro @Uw<|And.intro @acW<|And.intro @Ux<|And.intro @Uy<|And.intro @Uz<|And.intro @UA<|And.intro @Pd<|And.intro @rG<|And.intro @KW<|And.intro @UC<|And.intro @acX<|And.intro @UD<|And.intro @UE<|And.intro @Pe<|And.intro @UF<|And.intro @UG<|And.intro @Pf<|And.intro @KX<|And.intro @UH<|And.intro @Pg<|And.intro @acY<|And.intro @YO<|And.intro @agh<|And.intro @YP<|And.intro @YQ<|And.intro @YR<|And.intro @YS<|And.intro @Ph<|And.intro @G5<|And.intro @Pj<|And.intro @mU @Uv
open Go.MapKept (run_setObj_map)
section
variable {G H:Gh} {n:Sz} {D:List Deferred} {e:Env} {a:Act} {P:Program} {tab:b9} {O O':VH} {w:World} {m m':MV} {u v:Value} {ops:Array Oper} {Q:VQ} {md:Md}
theorem It {t:TypeId} {x:MV} {cs:List MV} {ok:Bool}:jL tab O t x (.agg cs) ok=none:=by
 unfold jL;split
 ·split
  ·rename_i kd te h1 h2;have:Bx kd (.agg cs)=false:=by cases kd<;>rfl
   rw[this]
  ·rfl
 ·rfl
theorem Cj {t:TypeId} {x y:MV} {cs:List MV}:fm tab O t x (.agg cs) y=none:=by
 unfold fm;split
 ·split
  ·rename_i kd es ck h1 h2;have:Bx kd (.agg cs)=false:=by cases kd<;>rfl
   rw[this]
  ·rfl
 ·rfl
def fq (l:List (List UInt8)):Value:=.agg (l.map fun s=>Value.string ⟨⟨s⟩⟩).toArray
structure tr (P:Program) (kt:TypeId) (N:Nat):Prop where
 law:WideMaps.KeyLaw P kt
 of:∀l:List (List UInt8),l.length=N->(∀s∈l,s.length<=maxLen)->∃lit,keyOf P kt (fq l)=some lit
theorem G6:∀{l:List (List UInt8)} {us:List Value},aO G (l.map .str) us->us=l.map fun s=>Value.string ⟨⟨s⟩⟩
 | [],us,h=>List.eq_nil_of_length_eq_zero h.1
 | s::l,[],h=>by have:=h.1;simp at this
 | s::l,x::us,h=>by
   have h1:VR G (.str s) x:=h.2 0 _ _ rfl rfl;cases h1;rw[List.map_cons,G6 (l:=l) (us:=us) ⟨by have:=h.1;simpa using this,fun i c u a b=>h.2 (i+1) c u (by simpa using a) (by simpa using b)⟩]
theorem zx {l:List (List UInt8)} (h:VR G (.agg (l.map .str)) v):v=fq l:=by
 cases h with
 | agg h1 h2=>rw[G6 ⟨h1,h2⟩];rfl
theorem Pk {l m:List (List UInt8)} (h:fq l=fq m):l=m:=by
 unfold fq at h;injection h with h;have h:=congrArg Array.toList h;simp only at h
 have:∀{l m:List (List UInt8)},l.map (fun s=>Value.string ⟨⟨s⟩⟩)=m.map (fun s=>Value.string ⟨⟨s⟩⟩)->l=m:=by
  intro l;induction l with
  | nil=>intro m h;cases m with
    | nil=>rfl
    | cons y m=>simp at h
  | cons x l ih=>intro m h;cases m with
    | nil=>simp at h
    | cons y m=>
      simp only[List.map_cons,List.cons.injEq,Value.string.injEq,ByteArray.mk.injEq,Array.mk.injEq]at h;rw[h.1,ih h.2]
 exact this h
abbrev fj:=List (List (List UInt8)×MV×Nat)
def cG (M:fj):wO:=M.map fun p=>(.agg (p.1.map .str),p.2.1,p.2.2)
def iX (l:List (List UInt8)) (M:fj):Option MV:=(M.find? (·.1==l)).map (·.2.1)
def ju (l:List (List UInt8)) (y:MV) (ck:Nat) (M:fj):fj:=if M.any (·.1==l)then M.map (fun p=>if p.1=l then(l,y,p.2.2)else p)else M++[(l,y,ck)]
def KY (l:List (List UInt8)) (ck:Nat) (M:fj):Nat:=if M.any (·.1==l)then ck else ck+1
structure nU (N:Nat) (M:fj):Prop where
 len:∀p∈M,p.1.length=N/\∀s∈p.1,s.length<=maxLen
 one:(M.map (·.1)).Nodup
theorem Iu {M:fj} (h:(M.map (·.1)).Nodup) {j:Nat} {p:List (List UInt8)×MV×Nat} (hp:M[j]?=some p):iX p.1 M=some p.2.1:=by
 unfold iX;induction M generalizing j with
 | nil=>simp at hp
 | cons x M ih=>
   simp only[List.map_cons,List.nodup_cons]at h;cases j with
   | zero=>simp only[List.getElem?_cons_zero,Option.some.injEq]at hp;subst hp;simp
   | succ j=>
     simp only[List.getElem?_cons_succ]at hp;have hm:p.1∈M.map (·.1):=List.mem_map_of_mem (List.mem_of_getElem? hp)
     have hne:(x.1==p.1)=false:=by
      rw[beq_eq_false_iff_ne];intro e;exact h.1 (e▸hm)
     rw[List.find?_cons,hne];exact ih h.2 hp
theorem wc {M:fj} {l:List (List UInt8)} (h:∀p∈M,p.1≠l):iX l M=none:=by
 unfold iX;rw[List.find?_eq_none.2 (fun p hp=>by simpa using h p hp)];rfl
theorem gn.keys {M:fj} {E:List MapEntry} (h:gn G (cG M) E):E.length=M.length/\∀(j:Nat) (p:List (List UInt8)×MV×Nat) (x:MapEntry),M[j]?=some p->E[j]?=some x->x.key=fq p.1/\VR G p.2.1 x.val/\x.born=p.2.2:=by
 have hl:E.length=M.length:=by have:=h.key.1;simpa[cG]using this
 refine⟨hl,fun j p x hp hx=>⟨?_,?_,?_⟩⟩
 ·exact zx (h.key.2 j _ _ (by simp[cG,hp]) (by simp[hx]))
 ·exact h.val.2 j _ _ (by simp[cG,hp]) (by simp[hx])
 ·have:=congrArg (fun l=>l[j]?) h.born;simpa[cG,hp,hx]using this
theorem zy {kt:TypeId} {N:Nat} (K:tr P kt N) {M:fj} {E:List MapEntry} {l:List (List UInt8)} (hM:nU N M) (hE:gn G (cG M) E) (hl:l.length=N) (hs:∀s∈l,s.length<=maxLen) (w:World):
  ((Instr.findKey kt (fq l) E).run P w= .ok none w/\∀p∈M,p.1≠l)\/∃(j:Nat) (p:List (List UInt8)×MV×Nat) (x:MapEntry),(Instr.findKey kt (fq l) E).run P w= .ok (some (j,x.val)) w/\M[j]?=some p/\p.1=l/\E[j]?=some x/\VR G p.2.1 x.val:=by
 obtain⟨lit,xe⟩:=K.of l hl hs;obtain⟨h1,h2⟩:=hE.keys
 have j9:∀x∈E,∃q,keyOf P kt x.key=some q:=fun x hx=>by
  obtain⟨j,hj,rfl⟩:=List.mem_iff_getElem.1 hx;have UI:j<M.length:=by omega
  have:=(h2 j _ _ (List.getElem?_eq_getElem UI) (List.getElem?_eq_getElem hj)).1;rw[this];exact K.of _ (hM.len _ (List.getElem_mem UI)).1 (hM.len _ (List.getElem_mem UI)).2
 rcases K.law.find w xe E j9 with⟨g1,g2⟩ | ⟨j,x,g1,g2,g3⟩
 ·refine .inl ⟨g1,fun p hp e=>?_⟩;obtain⟨j,hj,rfl⟩:=List.mem_iff_getElem.1 hp;have YT:j<E.length:=by omega
  have:=(h2 j _ _ (List.getElem?_eq_getElem hj) (List.getElem?_eq_getElem YT)).1;exact g2 _ (List.getElem_mem YT) (by rw[this,e])
 ·have YT:=(List.getElem?_eq_some_iff.1 g2).1;have UI:j<M.length:=by omega
  have h3:=h2 j _ _ (List.getElem?_eq_getElem UI) g2;exact .inr ⟨j,M[j],x,g1,List.getElem?_eq_getElem UI,Pk (h3.1.symm.trans g3),g2,h3.2.1⟩
theorem gn.ahv {M:fj} {E:List MapEntry} {l:List (List UInt8)} {y:MV} {yv:Value} (hM:(M.map (·.1)).Nodup) (hE:gn G (cG M) E) (hy:VR G y yv) {j:Nat} {p:List (List UInt8)×MV×Nat} (hp:M[j]?=some p) (dK:p.1=l) (hk:VR G (.agg (l.map .str)) (fq l)):
  gn G (cG (M.map fun p=>if p.1=l then(l,y,p.2.2)else p)) (E.modify j fun x=>{x with key:=fq l,val:=yv}):=by
 have e:cG (M.map fun p=>if p.1=l then(l,y,p.2.2)else p)=setAt (cG M) j (.agg (l.map .str)) y:=by
  clear hE hy hk;unfold cG setAt;induction M generalizing j with
  | nil=>simp at hp
  | cons x M ih=>
    simp only[List.map_cons,List.nodup_cons]at hM;cases j with
    | zero=>
      simp only[List.getElem?_cons_zero,Option.some.injEq]at hp;subst hp
      have fH:M.map (fun p=>if p.1=l then(l,y,p.2.2)else p)=M:=by
       have:∀q∈M,(if q.1=l then(l,y,q.2.2)else q)=q:=fun q hq=>if_neg fun e=>hM.1 (by rw[dK, <-e];exact List.mem_map_of_mem hq)
       calc M.map (fun p=>if p.1=l then(l,y,p.2.2)else p)=M.map id:=List.map_congr_left this
        _=M:=by simp
      simp only[List.map_cons,List.modify_zero_cons,if_pos dK];rw[fH]
    | succ j=>
      simp only[List.getElem?_cons_succ]at hp;have hne:¬x.1=l:=fun e=>hM.1 (by rw[e, <-dK];exact List.mem_map_of_mem (List.mem_of_getElem? hp))
      simp only[List.map_cons,List.modify_succ_cons,if_neg hne];rw[ih hM.2 hp]
 rw[e];exact gn.modify hk hy j hE
theorem YU (l:List (List UInt8)):VR G (.agg (l.map .str)) (fq l):=by
 unfold fq;refine .agg (by simp) fun i c u h1 h2=>?_
 simp only[List.getElem?_map,Option.map_eq_some_iff]at h1 h2;obtain⟨s,h3,rfl⟩:=h1;obtain⟨t,h4,rfl⟩:=h2;rw[h3]at h4;injection h4 with h4;subst h4
 exact .str
def fI (P:Program) (n:Sz) (D:List Deferred) (o:Oper) (e:Env) (O:VH) (m:MV):Prop:=∀G a w,WR G O w->FR G n D e a->∃u,VR G m u/\∀x,Sx G w x->(execOp a.eval o).run P x= .ok (.value u) x
theorem aH.hold {i:Nat} {o:Oper} {K:Env->VH->Prop} (ho:ops[i]?=some o) (hg:aL ops o e=some true) (hd:bm n o.dst=true) (hy:fI P n D o e O m) (h:K (aU o.dst m e) O):aH P n D ops i e O Q K:=by
 refine aH.iV (M:=fun m' O'=>m'=m/\O'=O) ho hg hd (fun G a w hw hf=>?_) (by rintro m' O' ⟨rfl,rfl⟩;exact h);obtain⟨u,hu,hr⟩:=hy G a w hw hf;exact⟨m,O,u,w,G,⟨rfl,rfl⟩,hr w hw.sx,Gh.Le.refl G,hw,hu⟩
theorem VL.hold {f:Fl} {o:Oper} {L:List (Fl×Oper)} (hh:(f= .one/\(md= .plain\/md= .any))\/f= .rd) (hg:aL ops o e=some true) (hd:bm n o.dst=true) (hy:fI P n D o e O m) (h:VL P n D md ops L (aU o.dst m e) O Q):VL P n D md ops ((f,o)::L) e O Q:=by
 intro fuel listed ix hf hp
 match ix,hf with
 | (i,g)::ix,hf=>
   obtain⟨rfl,ho,hf⟩:=hf;cases md with
   | plain=>exact g_.one (aH.hold ho hg hd hy (h 0 #[] ix hf (fun h=>absurd rfl h)))
   | any=>
     obtain⟨h1,h2⟩:=hp (by simp);cases fuel with
     | zero=>cases h2
     | succ fuel=>
       simp only[cE,Bool.and_eq_true]at h2;have hk:=h fuel (listed.setIfInBounds i true) ix hf (fun _=>⟨h1,h2.2⟩);rcases hh with⟨rfl,_⟩ | rfl
       ·have hr:Region.ready .any ops listed=[i]:=by simpa using h2.1
        exact cf.all hr (by simp) fun j hj=>by
         obtain rfl:j=i:=by simpa using hj
         exact aH.hold ho hg hd hy hk
       ·exact absurd h2.1 (by simp)
   | reads=>
     obtain⟨h1,h2⟩:=hp (by simp);cases fuel with
     | zero=>cases h2
     | succ fuel=>
       simp only[cE,Bool.and_eq_true]at h2;have hk:=h fuel (listed.setIfInBounds i true) ix hf (fun _=>⟨h1,h2.2⟩);rcases hh with⟨_,h3 | h3⟩ | rfl
       ·cases h3
       ·cases h3
       intro G a w hw aS;obtain⟨u,hu,cc⟩:=hy G a w hw aS;have h3:Region.free .any ops listed i=true/\(Region.ready .any ops listed).contains i=true:=by simp_all
       exact wpAnyH_take ho h1 h3.1 h3.2 (gK hd) (.inl ⟨bj aS hg,fun w' qM=>by rw[qM];exact cc w hw.sx⟩) rfl (hk G _ w hw (aS.aU hd hu))
   | held brk=>
     obtain⟨h1,h2⟩:=hp (by simp);cases fuel with
     | zero=>cases h2
     | succ fuel=>
       simp only[cE,Bool.and_eq_true]at h2;have hk:=h fuel (listed.setIfInBounds i true) ix hf (fun _=>⟨h1,h2.2⟩);rcases hh with⟨_,h3 | h3⟩ | rfl
       ·cases h3
       ·cases h3
       simp only[Bool.and_eq_true]at h2
       exact bE.take ho h1 h2.1.1.1 h2.1.1.2 h2.1.2 hd (fun G a w hw aS=>by
        obtain⟨u,hu,cc⟩:=hy G a w hw aS;exact⟨u,hu,.inl ⟨bj aS hg,fun x hx=>cc x hx⟩⟩) hk
def xR (ok:Bool) (z:MV):Option MV->MV
 | some m=>if ok then .tuple [m,.v (.bool true)]else m
 | none=>if ok then .tuple [z,.v (.bool false)]else z
theorem RJ {z m:MV}:xR false z (some m)=m:=rfl
theorem acZ {z m:MV}:xR true z (some m)= .tuple [m,.v (.bool true)]:=rfl
theorem ac0 {z:MV}:xR false z none=z:=rfl
theorem Iv {z:MV}:xR true z none= .tuple [z,.v (.bool false)]:=rfl
theorem fI.lA {kt et:TypeId} {N:Nat} (K:tr P kt N) (ht:aK P tab) {d:Option Tmp} {t ty:TypeId} {x y:Operand} {ok:Bool} {ps:String} {af:Array Edge} {g:Option (Nat×Bool)} {b ck:Nat} {M:fj} {l:List (List UInt8)} {te:cz} {z:MV} (hU:P.underlying t=some (.map kt et)) (ni:tab et=some te) (hz:yF te=some z)
  (hx:ev e x=some (.map b)) (hb:O.hp b=some (.map (cG M) ck)) (hM:nU N M) (hy:ev e y=some (.agg (l.map .str))) (hl:l.length=N) (hs:∀s∈l,s.length<=maxLen):fI P n D (.mk d (.lookup t x y ok) ty ps af g) e O (xR ok z (iX l M)):=by
 intro G a w hw hf;have h1:=hf.ev hx;have h2:=hf.ev hy;generalize oo:a.eval x=u at h1;generalize xQ:a.eval y=v at h2;have hv:=zx h2;subst hv;cases h1 with
 | map eh=>
   rename_i b';obtain⟨b2,E,e1,e2,e3,e4,e5⟩:=hw.map _ _ _ hb;rw[eh]at e1;injection e1 with e1;subst e1
   have hE:gn G (cG M) E.toList:=⟨e3,e4,e5⟩;obtain⟨lit,xe⟩:=K.of l hl hs;obtain⟨zv,z1,z2⟩:=xL (ht et te ni) hz;have aef:∀y,Sx G w y->y.heap[b']?=some (.map E ck):=fun y hy=>(hy.2 _ _ eh).trans e2
   by_cases KZ:∃p∈M,p.1=l
   ·have h3:=zy K hM hE hl hs w;rcases h3 with⟨_,g2⟩ | ⟨j,p,q,_,g2,g3,g4,g5⟩
    ·obtain⟨p,hp,e⟩:=KZ;exact absurd e (g2 p hp)
    have fO:iX l M=some p.2.1:=by rw[<-g3];exact Iu hM.one g2
    rw[fO];refine⟨if ok then .tuple #[q.val,.bool true]else q.val,?_,fun yw hyw=>?_⟩
    ·cases ok
     ·exact g5
     ·exact VR.tuple (us:=[q.val,.bool true]) rfl (aO.cons g5 (aO.cons (.v rfl) aO.nil)).2
    ·have hr:(Instr.findKey kt (fq l) E.toList).run P yw= .ok (some (j,q.val)) yw:=by
      rcases zy K hM hE hl hs yw with⟨_,g6⟩ | ⟨j',p',q',g6,g7,g8,g9,_⟩
      ·exact absurd g3 (g6 p (List.mem_of_getElem? g2))
      ·have lB:j'=j:=by
        have h5:(M.map (·.1))[j']?=some l:=by simp[g7,g8]
        have h6:(M.map (·.1))[j]?=some l:=by simp[g2,g3]
        exact(List.getElem?_inj (by simpa using(List.getElem?_eq_some_iff.1 g7).1) hM.one).1 (h5.trans h6.symm)
       subst lB;rw[g4]at g9;injection g9 with g9;subst g9
       exact g6
     have Iw:=K.law.check yw E.isEmpty xe;simp only[execOp,oo,xQ,Instr.lookup,Sem.run_bind,run_underlying hU,Result.andThen_ok,MapKept.run_getObj_map (aef yw hyw),Iw,hr,Sem.run_pure]
   ·have fH:∀p∈M,p.1≠l:=fun p hp e=>KZ ⟨p,hp,e⟩
    rw[wc fH];refine⟨if ok then .tuple #[zv,.bool false]else zv,?_,fun yw hyw=>?_⟩
    ·cases ok
     ·exact z2 G
     ·exact VR.tuple (us:=[zv,.bool false]) rfl (aO.cons (z2 G) (aO.cons (.v rfl) aO.nil)).2
    ·have hr:(Instr.findKey kt (fq l) E.toList).run P yw= .ok none yw:=by
      rcases zy K hM hE hl hs yw with⟨g6,_⟩ | ⟨j',p',q',_,g7,g8,_⟩
      ·exact g6
      ·exact absurd g8 (fH p' (List.mem_of_getElem? g7))
     have Iw:=K.law.check yw E.isEmpty xe;simp only[execOp,oo,xQ,Instr.lookup,Sem.run_bind,run_underlying hU,Result.andThen_ok,MapKept.run_getObj_map (aef yw hyw),Iw,hr,Sem.run_pure,z1]
def oq (P:Program) (n:Sz) (D:List Deferred) (o:Oper) (e:Env) (O O':VH):Prop:=∀G a w,WR G O w->FR G n D e a->∃w' H,(execOp a.eval o).run P w= .ok .skip w'/\Gh.Le G H/\WR H O' w'
theorem aH.ot {i:Nat} {o:Oper} {K:Env->VH->Prop} (ho:ops[i]?=some o) (hg:aL ops o e=some true) (hd:bm n o.dst=true) (hy:oq P n D o e O O') (h:K (aU o.dst cD e) O'):aH P n D ops i e O Q K:=by
 intro G a w hw aS;obtain⟨w',H,hr,h1,h2⟩:=hy G a w hw aS;simp only[wpOp,ho,bj aS hg,if_true];refine .inl ?_;unfold Oper.wp;rw[hr];exact⟨_,_,H,h1,h2,(aS.mono h1).aU hd kQ,h⟩
theorem VL.ot {o:Oper} {L:List (Fl×Oper)} (hg:aL ops o e=some true) (hd:bm n o.dst=true) (hy:oq P n D o e O O')
  (ph:∀brk,md= .held brk->∀i,ops[i]?=some o->brk.contains i=true) (h:VL P n D md ops L (aU o.dst cD e) O' Q):VL P n D md ops ((.one,o)::L) e O Q:=by
 intro fuel listed ix hf hp
 match ix,hf with
 | (i,g)::ix,hf=>
   obtain⟨rfl,ho,hf⟩:=hf;cases md with
   | plain=>exact g_.one (aH.ot ho hg hd hy (h 0 #[] ix hf (fun h=>absurd rfl h)))
   | any=>
     obtain⟨h1,h2⟩:=hp (by simp);cases fuel with
     | zero=>cases h2
     | succ fuel=>
       simp only[cE,Bool.and_eq_true]at h2;have hr:Region.ready .any ops listed=[i]:=by simpa using h2.1
       exact cf.all hr (by simp) fun j hj=>by
        obtain rfl:j=i:=by simpa using hj
        exact aH.ot ho hg hd hy (h fuel (listed.setIfInBounds j true) ix hf (fun _=>⟨h1,h2.2⟩))
   | reads=>
     obtain⟨h1,h2⟩:=hp (by simp);cases fuel with
     | zero=>cases h2
     | succ fuel=>
       simp only[cE,Bool.and_eq_true]at h2;exact absurd h2.1 (by simp)
   | held brk=>
     obtain⟨h1,h2⟩:=hp (by simp);cases fuel with
     | zero=>cases h2
     | succ fuel=>
       simp only[cE,Bool.and_eq_true]at h2;have hr:Region.ready .any ops listed=[i]:=by simpa using h2.1.1
       have yB:∀j,(listed.setIfInBounds i true).getD j true=false\/j=i->brk.contains j=true:=by
        rcases rC ho h2.1.2 with⟨h3,_⟩ | h3
        ·rw[ph brk rfl i ho]at h3;cases h3
        ·exact h3
       exact bE.Xi hr yB (aH.ot ho hg hd hy (h fuel (listed.setIfInBounds i true) ix hf (fun _=>⟨h1,h2.2⟩)))
theorem oq.ju {kt et:TypeId} {N:Nat} (K:tr P kt N) {d:Option Tmp} {t ty:TypeId} {x y z:Operand} {ps:String} {af:Array Edge} {g:Option (Nat×Bool)} {b ck:Nat} {M:fj} {l:List (List UInt8)} (hU:P.underlying t=some (.map kt et))
  (hx:ev e x=some (.map b)) (hb:O.hp b=some (.map (cG M) ck)) (hM:nU N M) (hy:ev e y=some (.agg (l.map .str))) (hl:l.length=N) (hs:∀s∈l,s.length<=maxLen) (hz:ev e z=some m):oq P n D (.mk d (.mapUpdate t x y z) ty ps af g) e O (O.set b (.map (cG (ju l m ck M)) (KY l ck M))):=by
 intro G a w hw hf;have h1:=hf.ev hx;have h2:=hf.ev hy;have h3:=hf.ev hz;generalize oo:a.eval x=u at h1;generalize xQ:a.eval y=v at h2;generalize haz:a.eval z=r at h3;have hv:=zx h2;subst hv;cases h1 with
 | map eh=>
   rename_i b';obtain⟨b2,E,e1,e2,e3,e4,e5⟩:=hw.map _ _ _ hb;rw[eh]at e1;injection e1 with e1;subst e1
   have hE:gn G (cG M) E.toList:=⟨e3,e4,e5⟩;obtain⟨lit,xe⟩:=K.of l hl hs;have Iw:=K.law.check w false xe;rcases zy K hM hE hl hs w with⟨g1,g2⟩ | ⟨j,p,q,g1,g2,g3,g4,g5⟩
   ·have kf:M.any (·.1==l)=false:=by rw[List.any_eq_false];intro p hp;simpa using g2 p hp
    have hr:gn G (cG (M++[(l,m,ck)])) (E.push {key:=fq l,val:=r,born:=ck}).toList:=by
     rw[Array.toList_push];unfold cG;rw[List.map_append];exact hE.append (gn.cons rfl h2 h3 gn.nil)
    refine⟨?wx,G,?rn,Gh.Le.refl G,?wr⟩
    case wr=>rw[Go.Proofs.YtoclnkfdahmnhaaGreatDoor.ju,KY,kf];exact hw.so (ck':=ck+1) hb eh e2 hr
    case rn=>
     simp only[execOp,oo,xQ,haz,Instr.mapUpdate,Sem.run_bind,run_underlying hU,Result.andThen_ok,MapKept.run_getObj_map e2,Iw,g1,run_setObj_map _ e2];rfl
   ·have kf:M.any (·.1==l)=true:=List.any_eq_true.2 ⟨p,List.mem_of_getElem? g2,by simp[g3]⟩;have Ix:q.key=fq l:=by have:=(hE.keys.2 j p q g2 g4).1;rw[this,g3]
    have dB:=K.law.stays w xe;have hr:=gn.ahv hM.one hE h3 g2 g3 (YU l);rw[<-Array.toList_modify]at hr
    have sm:((E[j]?).map (·.key)).getD (fq l)=fq l:=by
     have:E[j]?=some q:=by simpa using g4
     rw[this];exact Ix
    refine⟨?wy,G,?rm,Gh.Le.refl G,?ws⟩
    case ws=>rw[Go.Proofs.YtoclnkfdahmnhaaGreatDoor.ju,KY,kf];exact hw.so (ck':=ck) hb eh e2 hr
    case rm=>
     simp only[execOp,oo,xQ,haz,Instr.mapUpdate,Sem.run_bind,run_underlying hU,Result.andThen_ok,MapKept.run_getObj_map e2,Iw,g1,sm,dB,run_setObj_map _ e2];rfl
end
theorem rH {N:Nat} {M:fj} {l:List (List UInt8)} {y:MV} {ck:Nat} (h:nU N M) (hl:l.length=N) (hs:∀s∈l,s.length<=maxLen):nU N (ju l y ck M):=by
 unfold ju;split
 ·have hk:(M.map (fun p=>if p.1=l then(l,y,p.2.2)else p)).map (·.1)=M.map (·.1):=by
   rw[List.map_map];refine List.map_congr_left fun p _=>?_
   show(if p.1=l then(l,y,p.2.2)else p).1=p.1;split
   ·rename_i e;exact e.symm
   ·rfl
  refine⟨fun p hp=>?_,by rw[hk];exact h.one⟩;have:p.1∈M.map (·.1):=by rw[<-hk];exact List.mem_map_of_mem hp
  obtain⟨q,hq,e⟩:=List.mem_map.1 this;rw[<-e];exact h.len q hq
 ·rename_i fH;have fH:∀p∈M,¬p.1=l:=fun p hp e=>fH (List.any_eq_true.2 ⟨p,hp,by simp[e]⟩)
  refine⟨fun p hp=>?_,?_⟩
  ·rcases List.mem_append.1 hp with hp | hp
   ·exact h.len p hp
   ·rw[List.mem_singleton.1 hp];exact⟨hl,hs⟩
  ·rw[List.map_append,List.nodup_append];refine⟨h.one,by simp,fun x hx z hz e=>?_⟩;simp only[List.map_cons,List.map_nil,List.mem_singleton]at hz;obtain⟨q,hq,e2⟩:=List.mem_map.1 hx;exact fH q hq (by rw[e2,e,hz])
def RL (P:Program):List Field->Nat->Bool
 | [],_=>true
 | f::r,i=>(match P.underlying f.type with | some .string=>true | _=>false)&&f.offset==i&&P.cellsOf f.type==1&&RL P r (i+1)
def skB (P:Program) (kt:TypeId) (N:Nat):Bool:=match P.underlying kt with
 | some (.struct fs)=>P.keyType kt&&fs.all (·.name != "_")&&P.cellsOf kt==N&&fs.size==N&&RL P fs.toList 0&&decide (kt<P.types.size)&&decide (P.types.size+2<=10000)
 | _=>false
theorem mapM_some {α β :Type} {g: α ->Option β}:∀{L:List α},(∀f∈L,∃y,g f=some y)->∃ys,L.mapM g=some ys
 | [],_=>⟨[],rfl⟩
 | f::L,h=>by
   obtain⟨y,hy⟩:=h f (by simp);obtain⟨ys,Oo⟩:=mapM_some (L:=L) fun x hx=>h x (List.mem_cons_of_mem _ hx)
   exact⟨y::ys,by rw[List.mapM_cons,hy];simp[Oo]⟩
theorem K_ {P:Program}:∀{L:List Field} {i:Nat},RL P L i=true->∀(j:Nat) (f:Field),L[j]?=some f->P.underlying f.type=some .string/\f.offset=i+j/\P.cellsOf f.type=1
 | [],_,_,j,f,h=>by simp at h
 | g::L,i,hB,j,f,h=>by
   simp only[RL,Bool.and_eq_true,beq_iff_eq]at hB;obtain⟨⟨⟨h1,h2⟩,h3⟩,h4⟩:=hB;cases j with
   | zero=>
     simp only[List.getElem?_cons_zero,Option.some.injEq]at h;subst h;refine⟨?_,h2,h3⟩;split at h1
     ·assumption
     ·cases h1
   | succ j=>
     have:=K_ h4 j f (by simpa using h);exact⟨this.1,by omega,this.2.2⟩
theorem tr.sA {P:Program} {kt:TypeId} {N:Nat} (hl:laidOutB P=true) (h:skB P kt N=true):tr P kt N:=by
 unfold skB at h;split at h
 ·rename_i fs hu;simp only[Bool.and_eq_true,beq_iff_eq,decide_eq_true_eq]at h;obtain⟨⟨⟨⟨⟨⟨h1,h2⟩,h3⟩,h4⟩,h5⟩,h6⟩,h7⟩:=h;refine⟨deep_law_gate hl h7 h6 h1 (by rw[hu]),fun l hlen hs=>?_⟩
  have agi:(fq l).formed P kt=true:=by
   unfold fq Value.formed;simp only[hu];simp[hlen,h3]
  have agj:∃ls,P.keyLits (P.types.size+1) kt (fq l).cells.toList=some ls:=by
   obtain⟨D,hD⟩:∃D,P.types.size=D+1:=⟨P.types.size - 1,by have:0<P.types.size:=Nat.lt_of_le_of_lt (Nat.zero_le kt) h6;omega⟩
   rw[hD];unfold Program.keyLits;have hc:(fq l).cells.toList=l.map fun s=>Value.string ⟨⟨s⟩⟩:=by simp[fq,Value.cells]
   rw[hc];simp only[hu];rw[if_pos ⟨by simp[hlen,h3],h2⟩]
   obtain⟨ys,Oo⟩:=mapM_some (L:=fs.toList) (g:=fun f=>P.keyLits (D+1) f.type (((l.map fun s=>Value.string ⟨⟨s⟩⟩).drop f.offset).take (P.cellsOf f.type))) fun f hf=>by
    obtain⟨j,hj,rfl⟩:=List.mem_iff_getElem.1 hf;obtain⟨g1,g2,g3⟩:=K_ h5 j _ (List.getElem?_eq_getElem hj);rw[Nat.zero_add]at g2;have AG:j<l.length:=by rw[hlen, <-h4];simpa using hj
    have ahw:((l.map fun s=>Value.string ⟨⟨s⟩⟩).drop j).take 1=[Value.string ⟨⟨l[j]⟩⟩]:=by
     rw[List.drop_eq_getElem_cons (by simpa using AG)];simp
    rw[g2,g3,ahw];unfold Program.keyLits;simp only[g1];exact⟨_,if_pos (hs _ (List.getElem_mem AG))⟩
   exact⟨ys.flatten,by rw[Oo];rfl⟩
  obtain⟨ls,UJ⟩:=agj;refine⟨.string (keyBytes ls),?_⟩;unfold keyOf;simp only[hu];rw[h1,agi,UJ];rfl
 ·cases h
set_option linter.defProp false in
def zk:=And.intro wk<|And.intro wu<|And.intro @It<|And.intro @Cj<|And.intro @Option.map_none.{0,0}<|And.intro @RJ<|And.intro @acZ<|And.intro @ac0<|And.intro @Iv<|And.intro @YH<|And.intro @Option.isSome_some.{0}<|And.intro @Option.isSome_none.{0}<|And.intro @sC @aj
section
variable {A1 A2 A3 A4 A5 A6 A7 A8 A9 P Q:Prop}
theorem Iy (q:Q) (h:P=Q:=by conv=>lhs;simp(disch:=first | omega | (simp only[ds]<;>omega) | fail) only[zk,cD,Nat.reduceLT,Nat.reduceAdd,Nat.reduceMul,Nat.reduceSub,Nat.reduceBEq,Nat.reduceEqDiff,Int.reduceToNat,reduceIte]):P:=(h).mpr q
theorem ae (a1:A1) (q:Q) (h:A1->P=Q:=by intro a1;conv=>lhs;simp(disch:=first | omega | (simp only[ds]<;>omega) | fail) only[zk,cD,Nat.reduceLT,Nat.reduceAdd,Nat.reduceMul,Nat.reduceSub,Nat.reduceBEq,Nat.reduceEqDiff,Int.reduceToNat,reduceIte,a1]):P:=(h a1).mpr q
theorem eW (a1:A1) (h:A1->P:=by intro a1;simp(disch:=first | omega | (simp only[ds]<;>omega) | fail) only[zk,cD,Nat.reduceLT,Nat.reduceAdd,Nat.reduceMul,Nat.reduceSub,Nat.reduceBEq,Nat.reduceEqDiff,Int.reduceToNat,reduceIte,a1]):P:=h a1
theorem ao (a1:A1) (a2:A2) (q:Q) (h:A1->A2->P=Q:=by intro a1 a2;conv=>lhs;simp(disch:=first | omega | (simp only[ds]<;>omega) | fail) only[zk,cD,Nat.reduceLT,Nat.reduceAdd,Nat.reduceMul,Nat.reduceSub,Nat.reduceBEq,Nat.reduceEqDiff,Int.reduceToNat,reduceIte,a1,a2]):P:=(h a1 a2).mpr q
theorem c9 (a1:A1) (a2:A2) (h:A1->A2->P:=by intro a1 a2;simp(disch:=first | omega | (simp only[ds]<;>omega) | fail) only[zk,cD,Nat.reduceLT,Nat.reduceAdd,Nat.reduceMul,Nat.reduceSub,Nat.reduceBEq,Nat.reduceEqDiff,Int.reduceToNat,reduceIte,a1,a2]):P:=h a1 a2
theorem aI (a1:A1) (a2:A2) (a3:A3) (q:Q) (h:A1->A2->A3->P=Q:=by intro a1 a2 a3;conv=>lhs;simp(disch:=first | omega | (simp only[ds]<;>omega) | fail) only[zk,cD,Nat.reduceLT,Nat.reduceAdd,Nat.reduceMul,Nat.reduceSub,Nat.reduceBEq,Nat.reduceEqDiff,Int.reduceToNat,reduceIte,a1,a2,a3]):P:=(h a1 a2 a3).mpr q
theorem kt3 (a1:A1) (a2:A2) (a3:A3) (h:A1->A2->A3->P:=by intro a1 a2 a3;simp(disch:=first | omega | (simp only[ds]<;>omega) | fail) only[zk,cD,Nat.reduceLT,Nat.reduceAdd,Nat.reduceMul,Nat.reduceSub,Nat.reduceBEq,Nat.reduceEqDiff,Int.reduceToNat,reduceIte,a1,a2,a3]):P:=h a1 a2 a3
theorem de (a1:A1) (a2:A2) (a3:A3) (a4:A4) (q:Q) (h:A1->A2->A3->A4->P=Q:=by intro a1 a2 a3 a4;conv=>lhs;simp(disch:=first | omega | (simp only[ds]<;>omega) | fail) only[zk,cD,Nat.reduceLT,Nat.reduceAdd,Nat.reduceMul,Nat.reduceSub,Nat.reduceBEq,Nat.reduceEqDiff,Int.reduceToNat,reduceIte,a1,a2,a3,a4]):P:=(h a1 a2 a3 a4).mpr q
theorem kt4 (a1:A1) (a2:A2) (a3:A3) (a4:A4) (h:A1->A2->A3->A4->P:=by intro a1 a2 a3 a4;simp(disch:=first | omega | (simp only[ds]<;>omega) | fail) only[zk,cD,Nat.reduceLT,Nat.reduceAdd,Nat.reduceMul,Nat.reduceSub,Nat.reduceBEq,Nat.reduceEqDiff,Int.reduceToNat,reduceIte,a1,a2,a3,a4]):P:=h a1 a2 a3 a4
theorem gW (a1:A1) (a2:A2) (a3:A3) (a4:A4) (a5:A5) (q:Q) (h:A1->A2->A3->A4->A5->P=Q:=by intro a1 a2 a3 a4 a5;conv=>lhs;simp(disch:=first | omega | (simp only[ds]<;>omega) | fail) only[zk,cD,Nat.reduceLT,Nat.reduceAdd,Nat.reduceMul,Nat.reduceSub,Nat.reduceBEq,Nat.reduceEqDiff,Int.reduceToNat,reduceIte,a1,a2,a3,a4,a5]):P:=(h a1 a2 a3 a4 a5).mpr q
theorem kt5 (a1:A1) (a2:A2) (a3:A3) (a4:A4) (a5:A5) (h:A1->A2->A3->A4->A5->P:=by intro a1 a2 a3 a4 a5;simp(disch:=first | omega | (simp only[ds]<;>omega) | fail) only[zk,cD,Nat.reduceLT,Nat.reduceAdd,Nat.reduceMul,Nat.reduceSub,Nat.reduceBEq,Nat.reduceEqDiff,Int.reduceToNat,reduceIte,a1,a2,a3,a4,a5]):P:=h a1 a2 a3 a4 a5
theorem La (a1:A1) (a2:A2) (a3:A3) (a4:A4) (a5:A5) (a6:A6) (q:Q) (h:A1->A2->A3->A4->A5->A6->P=Q:=by intro a1 a2 a3 a4 a5 a6;conv=>lhs;simp(disch:=first | omega | (simp only[ds]<;>omega) | fail) only[zk,cD,Nat.reduceLT,Nat.reduceAdd,Nat.reduceMul,Nat.reduceSub,Nat.reduceBEq,Nat.reduceEqDiff,Int.reduceToNat,reduceIte,a1,a2,a3,a4,a5,a6]):P:=(h a1 a2 a3 a4 a5 a6).mpr q
theorem kt6 (a1:A1) (a2:A2) (a3:A3) (a4:A4) (a5:A5) (a6:A6) (h:A1->A2->A3->A4->A5->A6->P:=by intro a1 a2 a3 a4 a5 a6;simp(disch:=first | omega | (simp only[ds]<;>omega) | fail) only[zk,cD,Nat.reduceLT,Nat.reduceAdd,Nat.reduceMul,Nat.reduceSub,Nat.reduceBEq,Nat.reduceEqDiff,Int.reduceToNat,reduceIte,a1,a2,a3,a4,a5,a6]):P:=h a1 a2 a3 a4 a5 a6
theorem kw7 (a1:A1) (a2:A2) (a3:A3) (a4:A4) (a5:A5) (a6:A6) (a7:A7) (q:Q) (h:A1->A2->A3->A4->A5->A6->A7->P=Q:=by intro a1 a2 a3 a4 a5 a6 a7;conv=>lhs;simp(disch:=first | omega | (simp only[ds]<;>omega) | fail) only[zk,cD,Nat.reduceLT,Nat.reduceAdd,Nat.reduceMul,Nat.reduceSub,Nat.reduceBEq,Nat.reduceEqDiff,Int.reduceToNat,reduceIte,a1,a2,a3,a4,a5,a6,a7]):P:=(h a1 a2 a3 a4 a5 a6 a7).mpr q
theorem UK (a1:A1) (a2:A2) (a3:A3) (a4:A4) (a5:A5) (a6:A6) (a7:A7) (a8:A8) (q:Q) (h:A1->A2->A3->A4->A5->A6->A7->A8->P=Q:=by intro a1 a2 a3 a4 a5 a6 a7 a8;conv=>lhs;simp(disch:=first | omega | (simp only[ds]<;>omega) | fail) only[zk,cD,Nat.reduceLT,Nat.reduceAdd,Nat.reduceMul,Nat.reduceSub,Nat.reduceBEq,Nat.reduceEqDiff,Int.reduceToNat,reduceIte,a1,a2,a3,a4,a5,a6,a7,a8]):P:=(h a1 a2 a3 a4 a5 a6 a7 a8).mpr q
theorem kw9 (a1:A1) (a2:A2) (a3:A3) (a4:A4) (a5:A5) (a6:A6) (a7:A7) (a8:A8) (a9:A9) (q:Q) (h:A1->A2->A3->A4->A5->A6->A7->A8->A9->P=Q:=by intro a1 a2 a3 a4 a5 a6 a7 a8 a9;conv=>lhs;simp(disch:=first | omega | (simp only[ds]<;>omega) | fail) only[zk,cD,Nat.reduceLT,Nat.reduceAdd,Nat.reduceMul,Nat.reduceSub,Nat.reduceBEq,Nat.reduceEqDiff,Int.reduceToNat,reduceIte,a1,a2,a3,a4,a5,a6,a7,a8,a9]):P:=(h a1 a2 a3 a4 a5 a6 a7 a8 a9).mpr q
end
theorem aa:aK Tryz.prog (fF Tryz.prog):=Xj _
abbrev TY (t:Nat) (d:TypeDesc) (a b:Nat) (z:List MV):Prop:=fF Tryz.prog t=some ⟨d,a,b,z⟩
abbrev TS (t:Nat) (d:TypeDesc) (a b:Nat) (z:List MV) (p:List (Nat×Nat)):Prop:=TY t d a b z/\eC d=true/\∀x,vU (fF Tryz.prog) t x=(lz (kS p) z x).map .agg
abbrev FL (t i f:Nat) (g:Bool) (s:Nat):Prop:=(∀k o,jn (fF Tryz.prog) t i (.ptr k o)=some (.ptr k (o+f)))/\(∀c o,jn (fF Tryz.prog) t i (.c8 c o)=some (.c8 c (o+f)))/\∀c,vR (fF Tryz.prog) t (.agg c) i=mK g s c f
theorem dU {t a b:Nat} {d:TypeDesc} {z:List MV} (h:fF Tryz.prog t=some ⟨d,a,b,z⟩:=by kernel_rfl):TY t d a b z:=h
theorem iY {t a b:Nat} {d:TypeDesc} {z:List MV} {p:List (Nat×Nat)} (h:fF Tryz.prog t=some ⟨d,a,b,z⟩:=by kernel_rfl) (h1:eC d=true:=by kernel_rfl) (h2:∀x,vU (fF Tryz.prog) t x=(lz (kS p) z x).map .agg:=by intro x;kernel_rfl):TS t d a b z p:=⟨h,h1,h2⟩
theorem bz {t i f s:Nat} {g:Bool} (h:∀k o,jn (fF Tryz.prog) t i (.ptr k o)=some (.ptr k (o+f)):=by intro k o;kernel_rfl) (h1:∀c o,jn (fF Tryz.prog) t i (.c8 c o)=some (.c8 c (o+f)):=by intro c o;kernel_rfl) (h2:∀c,vR (fF Tryz.prog) t (.agg c) i=mK g s c f:=by intro c;kernel_rfl):FL t i f g s:=⟨h,h1,h2⟩
theorem T2:TY 2 (.int .i64) 1 8 [.v (.int .i64 0)]:=dU
theorem T3:TY 3 (.int .i64) 1 8 [.v (.int .i64 0)]:=dU
theorem T4:TY 4 .bool 1 1 [.v (.bool false)]:=dU
theorem T5:TY 5 (.int .u8) 1 1 [.v (.int .u8 0)]:=dU
theorem T9:TY 9 .string 1 16 [.str []]:=dU
theorem Pl:TY 21 (.int .i32) 1 4 [.v (.int .i32 0)]:=dU
theorem Iz:TY 22 (.slice 35) 1 24 [.sl 0 [] .nil]:=dU
theorem T26:TY 26 (.slice 4) 1 24 [.sl 0 [] .nil]:=dU
theorem T28:TY 28 (.slice 3) 1 24 [.sl 0 [] .nil]:=dU
theorem YV:TS 30 Tryz.t29.desc 4 64 [.str [],.str [],.str [],.str []] [(0,1),(1,1),(2,1),(3,1)]/\FL 30 0 0 false 1/\FL 30 1 1 false 1/\FL 30 2 2 false 1/\FL 30 3 3 false 1:=⟨iY,bz,bz,bz,bz⟩
theorem T31:TY 31 (.slice 221) 1 24 [.sl 0 [] .nil]:=dU
theorem T33:TS 33 Tryz.t32.desc 3 48 [.v (.bool false),.str [],.sl 0 [] .nil] [(0,1),(1,1),(2,1)]/\FL 33 0 0 false 1/\FL 33 1 1 false 1/\FL 33 2 2 false 1:=⟨iY,bz,bz,bz⟩
theorem T35:TS 35 Tryz.t34.desc 13 168 [.v (.int .i64 0),.v (.int .i64 0),.v (.int .i64 0),.str [],.str [],.str [],.str [],.str [],.v (.bool false),.str [],.sl 0 [] .nil,.v (.int .i64 0),.v (.bool false)] [(0,1),(1,1),(2,1),(3,4),(7,1),(8,3),(11,1),(12,1)]/\FL 35 0 0 false 1/\FL 35 1 1 false 1/\FL 35 2 2 false 1/\FL 35 3 3 true 4/\FL 35 4 7 false 1/\FL 35 5 8 true 3/\FL 35 6 11 false 1/\FL 35 7 12 false 1:=⟨iY,bz,bz,bz,bz,bz,bz,bz,bz⟩
theorem T36:TY 36 (.slice 39) 1 24 [.sl 0 [] .nil]:=dU
theorem T39:TS 39 Tryz.t38.desc 7 96 [.str [],.str [],.str [],.str [],.v (.int .i64 0),.str [],.v (.int .i64 0)] [(0,4),(4,1),(5,1),(6,1)]/\FL 39 0 0 true 4/\FL 39 1 4 false 1/\FL 39 2 5 false 1/\FL 39 3 6 false 1:=⟨iY,bz,bz,bz,bz⟩
theorem T48:TY 48 (.slice 50) 1 24 [.sl 0 [] .nil]:=dU
theorem T50:TS 50 Tryz.t49.desc 5 80 [.str [],.str [],.str [],.str [],.str []] [(0,4),(4,1)]/\FL 50 0 0 true 4/\FL 50 1 4 false 1:=⟨iY,bz,bz⟩
theorem uO:TY 51 (.slice 9) 1 24 [.sl 0 [] .nil]:=dU
theorem T58:TY 58 (.pointer 102) 1 8 [.v (.pointer none)]:=dU
theorem DW:TY 61 (.slice 140) 1 24 [.sl 0 [] .nil]:=dU
theorem AH:TS 63 Tryz.t62.desc 8 120 [.str [],.str [],.str [],.str [],.str [],.v (.int .i64 0),.v (.int .i64 0),.sl 0 [] .nil] [(0,1),(1,1),(2,1),(3,1),(4,1),(5,1),(6,1),(7,1)]/\FL 63 0 0 false 1/\FL 63 1 1 false 1/\FL 63 2 2 false 1/\FL 63 3 3 false 1/\FL 63 4 4 false 1/\FL 63 5 5 false 1/\FL 63 6 6 false 1/\FL 63 7 7 false 1:=⟨iY,bz,bz,bz,bz,bz,bz,bz,bz⟩
theorem T65:TY 65 (.int .i64) 1 8 [.v (.int .i64 0)]:=dU
theorem AI:TS 67 Tryz.t66.desc 3 48 [.str [],.str [],.str []] [(0,1),(1,1),(2,1)]/\FL 67 0 0 false 1/\FL 67 1 1 false 1/\FL 67 2 2 false 1:=⟨iY,bz,bz,bz⟩
theorem T69:TS 69 Tryz.t68.desc 3 24 [.v (.int .i64 0),.v (.int .i64 0),.v (.int .i64 0)] [(0,1),(1,1),(2,1)]/\FL 69 0 0 false 1/\FL 69 1 1 false 1/\FL 69 2 2 false 1:=⟨iY,bz,bz,bz⟩
theorem T71:TS 71 Tryz.t70.desc 8 96 [.v (.int .i64 0),.str [],.str [],.str [],.v (.int .i64 0),.v (.int .i64 0),.v (.int .i64 0),.str []] [(0,1),(1,3),(4,3),(7,1)]/\FL 71 0 0 false 1/\FL 71 1 1 true 3/\FL 71 2 4 true 3/\FL 71 3 7 false 1:=⟨iY,bz,bz,bz,bz⟩
theorem T75:TY 75 (.map 30 3) 1 8 [.v (.map none)]:=dU
theorem T77:TS 77 Tryz.t76.desc 4 80 [.sl 0 [] .nil,.sl 0 [] .nil,.sl 0 [] .nil,.v (.map none)] [(0,1),(1,1),(2,1),(3,1)]/\FL 77 0 0 false 1/\FL 77 1 1 false 1/\FL 77 2 2 false 1/\FL 77 3 3 false 1:=⟨iY,bz,bz,bz,bz⟩
theorem T78:TY 78 (.pointer 77) 1 8 [.v (.pointer none)]:=dU
theorem T91:TY 91 Tryz.t91.desc 1 8 [.v .nilFunc]:=dU
theorem T93:TY 93 Tryz.t93.desc 1 8 [.v .nilFunc]:=dU
theorem T94:TY 94 (.map 67 126) 1 8 [.v (.map none)]:=dU
theorem T95:TY 95 (.map 140 51) 1 8 [.v (.map none)]:=dU
theorem aeg:TS 100 Tryz.t99.desc 1 8 [.v (.int .i64 0)] [(0,0),(0,0),(0,1)]/\FL 100 2 0 false 1:=⟨iY,bz⟩
theorem RM:TS 102 Tryz.t101.desc 4 32 [.v (.map none),.v (.map none),.v (.int .i64 0),.v (.int .i64 0)] [(0,1),(1,1),(2,1),(3,1)]/\FL 102 0 0 false 1/\FL 102 1 1 false 1/\FL 102 2 2 true 1/\FL 102 3 3 true 1:=⟨iY,bz,bz,bz,bz⟩
theorem uP:TY 103 (.slice 63) 1 24 [.sl 0 [] .nil]:=dU
theorem zA:TY 104 (.slice 160) 1 24 [.sl 0 [] .nil]:=dU
theorem Lb:TS 106 Tryz.t105.desc 11 192 [.v (.bool false),.str [],.str [],.str [],.str [],.str [],.str [],.str [],.sl 0 [] .nil,.sl 0 [] .nil,.sl 0 [] .nil] [(0,1),(1,3),(4,1),(5,1),(6,1),(7,1),(8,1),(9,1),(10,1)]/\FL 106 0 0 false 1/\FL 106 1 1 true 3/\FL 106 2 4 false 1/\FL 106 3 5 false 1/\FL 106 4 6 false 1/\FL 106 5 7 false 1/\FL 106 6 8 false 1/\FL 106 7 9 false 1/\FL 106 8 10 false 1:=⟨iY,bz,bz,bz,bz,bz,bz,bz,bz,bz⟩
theorem aeh:TY 109 (.slice 212) 1 24 [.sl 0 [] .nil]:=dU
theorem nV:TY 110 (.slice 112) 1 24 [.sl 0 [] .nil]:=dU
theorem tu:TS 112 Tryz.t111.desc 4 80 [.str [],.sl 0 [] .nil,.sl 0 [] .nil,.str []] [(0,1),(1,1),(2,1),(3,1)]/\FL 112 0 0 false 1/\FL 112 1 1 false 1/\FL 112 2 2 false 1/\FL 112 3 3 false 1:=⟨iY,bz,bz,bz,bz⟩
theorem ahx:TY 115 (.pointer 179) 1 8 [.v (.pointer none)]:=dU
theorem aei:TY 123 (.slice 28) 1 24 [.sl 0 [] .nil]:=dU
theorem RN:TY 126 (.pointer 138) 1 8 [.v (.pointer none)]:=dU
theorem ahy:TY 128 (.int .u32) 1 4 [.v (.int .u32 0)]:=dU
theorem ahz:TS 130 Tryz.t129.desc 1 4 [.v (.int .u32 0)] [(0,0),(0,1)]/\FL 130 1 0 false 1:=⟨iY,bz⟩
theorem YX:TS 132 Tryz.t131.desc 2 8 [.v (.int .i32 0),.v (.int .u32 0)] [(0,1),(1,1)]/\FL 132 0 0 false 1/\FL 132 1 1 false 1:=⟨iY,bz,bz⟩
theorem ahA:TS 134 Tryz.t133.desc 2 8 [.v (.int .i32 0),.v (.int .u32 0)] [(0,0),(0,2)]/\FL 134 1 0 true 2:=⟨iY,bz⟩
theorem ahB:TS 136 Tryz.t135.desc 3 12 [.v (.int .u32 0),.v (.int .i32 0),.v (.int .u32 0)] [(0,0),(0,1),(1,2)]/\FL 136 1 0 true 1/\FL 136 2 1 true 2:=⟨iY,bz,bz⟩
theorem aej:TS 138 Tryz.t137.desc 23 320 [.str [],.v (.int .u32 0),.v (.int .i32 0),.v (.int .u32 0),.v (.bool false),.str [],.str [],.str [],.str [],.str [],.str [],.str [],.sl 0 [] .nil,.sl 0 [] .nil,.sl 0 [] .nil,.v (.int .i64 0),.str [],.str [],.str [],.v (.int .i64 0),.v (.int .i64 0),.v (.int .i64 0),.str []] [(0,1),(1,3),(4,11),(15,8)]/\FL 138 0 0 false 1/\FL 138 1 1 true 3/\FL 138 2 4 true 11/\FL 138 3 15 true 8:=⟨iY,bz,bz,bz,bz⟩
theorem BR:TS 140 Tryz.t139.desc 2 32 [.str [],.str []] [(0,1),(1,1)]/\FL 140 0 0 false 1/\FL 140 1 1 false 1:=⟨iY,bz,bz⟩
theorem RP:TY 142 (.pointer 145) 1 8 [.v (.pointer none)]:=dU
theorem tA:TY 143 (.slice 5) 1 24 [.sl 0 [] .nil]:=dU
theorem Lc:TS 145 Tryz.t144.desc 2 32 [.v (.pointer none),.sl 0 [] .nil] [(0,1),(1,1)]/\FL 145 0 0 false 1/\FL 145 1 1 false 1:=⟨iY,bz,bz⟩
theorem ahC:TY 146 Tryz.t146.desc 1 8 [.v .nilFunc]:=dU
theorem ahD:TY 148 Tryz.t147.desc 1 16 [.v .nilIface]:=dU
theorem aek:TS 153 Tryz.t152.desc 7 88 [.v (.int .i64 0),.str [],.sl 0 [] .nil,.str [],.v (.int .i64 0),.v (.int .i64 0),.v (.int .i64 0)] [(0,1),(1,1),(2,1),(3,1),(4,3)]/\FL 153 0 0 false 1/\FL 153 1 1 false 1/\FL 153 2 2 false 1/\FL 153 3 3 false 1/\FL 153 4 4 true 3:=⟨iY,bz,bz,bz,bz,bz⟩
theorem DY:TY 155 (.slice 153) 1 24 [.sl 0 [] .nil]:=dU
theorem BT:TS 160 Tryz.t159.desc 2 32 [.str [],.str []] [(0,1),(1,1)]/\FL 160 0 0 false 1/\FL 160 1 1 false 1:=⟨iY,bz,bz⟩
theorem ahE:TY 162 (.pointer 166) 1 8 [.v (.pointer none)]:=dU
theorem ael:TY 163 (.map 30 63) 1 8 [.v (.map none)]:=dU
theorem aem:TY 164 (.slice 61) 1 24 [.sl 0 [] .nil]:=dU
theorem ahF:TS 166 Tryz.t165.desc 8 120 [.v (.pointer none),.v (.pointer none),.str [],.str [],.str [],.v (.map none),.sl 0 [] .nil,.sl 0 [] .nil] [(0,1),(1,1),(2,3),(5,1),(6,1),(7,1)]/\FL 166 0 0 false 1/\FL 166 1 1 false 1/\FL 166 2 2 true 3/\FL 166 3 5 false 1/\FL 166 4 6 false 1/\FL 166 5 7 false 1:=⟨iY,bz,bz,bz,bz,bz,bz⟩
theorem G7:TY 167 (.slice 175) 1 24 [.sl 0 [] .nil]:=dU
theorem DZ:TS 169 Tryz.t168.desc 7 136 [.str [],.str [],.str [],.str [],.sl 0 [] .nil,.sl 0 [] .nil,.sl 0 [] .nil] [(0,3),(3,1),(4,1),(5,1),(6,1)]/\FL 169 0 0 true 3/\FL 169 1 3 false 1/\FL 169 2 4 false 1/\FL 169 3 5 false 1/\FL 169 4 6 false 1:=⟨iY,bz,bz,bz,bz,bz⟩
theorem ahG:TY 173 Tryz.t173.desc 1 8 [.v .nilFunc]:=dU
theorem Ld:TS 175 Tryz.t174.desc 10 152 [.str [],.str [],.str [],.str [],.v (.bool false),.str [],.sl 0 [] .nil,.v (.int .i64 0),.v (.bool false),.sl 0 [] .nil] [(0,4),(4,3),(7,1),(8,1),(9,1)]/\FL 175 0 0 true 4/\FL 175 1 4 true 3/\FL 175 2 7 false 1/\FL 175 3 8 false 1/\FL 175 4 9 false 1:=⟨iY,bz,bz,bz,bz,bz⟩
theorem aen:TY 177 (.map 67 169) 1 8 [.v (.map none)]:=dU
theorem aeo:TS 179 Tryz.t178.desc 2 16 [.v (.pointer none),.v (.map none)] [(0,1),(1,1)]/\FL 179 0 0 false 1/\FL 179 1 1 false 1:=⟨iY,bz,bz⟩
theorem ahH:TY 186 Tryz.t186.desc 1 8 [.v .nilFunc]:=dU
theorem ahI:TY 189 (.pointer 5) 1 8 [.v (.pointer none)]:=dU
theorem G8:TY 210 .unsafePointer 1 8 [.v (.pointer none)]:=dU
theorem aep:TS 212 Tryz.t159.desc 2 32 [.str [],.str []] [(0,1),(1,1)]/\FL 212 0 0 false 1/\FL 212 1 1 false 1:=⟨iY,bz,bz⟩
theorem aeq:TS 221 Tryz.t220.desc 6 64 [.v (.bool false),.str [],.v (.bool false),.v (.bool false),.str [],.v (.bool false)] [(0,3),(3,3)]/\FL 221 0 0 true 3/\FL 221 1 3 true 3:=⟨iY,bz,bz⟩
theorem xf:TY 222 (.slice 67) 1 24 [.sl 0 [] .nil]:=dU
theorem ahJ:TY 226 (.pointer 232) 1 8 [.v (.pointer none)]:=dU
theorem aer:TY 227 (.pointer 262) 1 8 [.v (.pointer none)]:=dU
theorem ahK:TS 232 Tryz.t231.desc 17 280 [.v (.pointer none),.v (.pointer none),.str [],.str [],.str [],.v (.bool false),.str [],.str [],.str [],.str [],.str [],.str [],.str [],.sl 0 [] .nil,.sl 0 [] .nil,.sl 0 [] .nil,.sl 0 [] .nil] [(0,1),(1,1),(2,3),(5,11),(16,1)]/\FL 232 0 0 false 1/\FL 232 1 1 false 1/\FL 232 2 2 true 3/\FL 232 3 5 true 11/\FL 232 4 16 false 1:=⟨iY,bz,bz,bz,bz,bz⟩
theorem aes:TY 256 (.slice 106) 1 24 [.sl 0 [] .nil]:=dU
theorem G9:TY 260 (.map 9 9) 1 8 [.v (.map none)]:=dU
theorem ahL:TS 262 Tryz.t261.desc 4 48 [.sl 0 [] .nil,.v (.map none),.v (.map none),.v (.int .i64 0)] [(0,1),(1,1),(2,1),(3,1)]/\FL 262 0 0 false 1/\FL 262 1 1 false 1/\FL 262 2 2 false 1/\FL 262 3 3 true 1:=⟨iY,bz,bz,bz,bz⟩
theorem aet:TY 268 (.pointer 270) 1 8 [.v (.pointer none)]:=dU
theorem ahM:TS 270 Tryz.t269.desc 2 32 [.v (.pointer none),.sl 0 [] .nil] [(0,1),(1,1)]/\FL 270 0 0 false 1/\FL 270 1 1 false 1:=⟨iY,bz,bz⟩
theorem ahN:TY 272 (.pointer 275) 1 8 [.v (.pointer none)]:=dU
theorem ahO:TY 273 (.map 30 4) 1 8 [.v (.map none)]:=dU
theorem ahP:TS 275 Tryz.t274.desc 2 32 [.sl 0 [] .nil,.v (.map none)] [(0,1),(1,1)]/\FL 275 0 0 false 1/\FL 275 1 1 false 1:=⟨iY,bz,bz⟩
theorem ahQ:TY 285 (.pointer 287) 1 8 [.v (.pointer none)]:=dU
theorem ahR:TS 287 Tryz.t286.desc 1 16 [.str []] [(0,1)]/\FL 287 0 0 false 1:=⟨iY,bz⟩
theorem ahS:TS 300 Tryz.t299.desc 2 24 [.v (.int .i64 0),.str []] [(0,1),(1,1)]/\FL 300 0 0 false 1/\FL 300 1 1 false 1:=⟨iY,bz,bz⟩
theorem ahT:TY 326 Tryz.t326.desc 1 8 [.v .nilFunc]:=dU
theorem ahU:TY 330 (.pointer 100) 1 8 [.v (.pointer none)]:=dU
theorem ahV:TY 332 (.pointer 2) 1 8 [.v (.pointer none)]:=dU
theorem ahW:TY 343 (.pointer 136) 1 8 [.v (.pointer none)]:=dU
theorem aeu:TY 349 Tryz.t349.desc 1 8 [.v .nilFunc]:=dU
theorem ahX:TY 358 (.pointer 130) 1 8 [.v (.pointer none)]:=dU
theorem ahY:TY 360 (.pointer 128) 1 8 [.v (.pointer none)]:=dU
theorem ahZ:TY 364 (.pointer 367) 1 8 [.v (.pointer none)]:=dU
theorem Lf:TY 365 (.slice 393) 1 24 [.sl 0 [] .nil]:=dU
theorem ah0:TS 367 Tryz.t366.desc 8 120 [.str [],.sl 0 [] .nil,.sl 0 [] .nil,.str [],.sl 0 [] .nil,.v (.int .i64 0),.v (.bool false),.v (.bool false)] [(0,4),(4,1),(5,1),(6,1),(7,1)]/\FL 367 0 0 true 4/\FL 367 1 4 false 1/\FL 367 2 5 false 1/\FL 367 3 6 false 1/\FL 367 4 7 false 1:=⟨iY,bz,bz,bz,bz,bz⟩
theorem aev:TS 371 Tryz.t370.desc 2 24 [.v (.int .i64 0),.str []] [(0,1),(1,1)]/\FL 371 0 0 false 1/\FL 371 1 1 false 1:=⟨iY,bz,bz⟩
theorem YY:TS 373 Tryz.t372.desc 5 96 [.str [],.sl 0 [] .nil,.sl 0 [] .nil,.str [],.str []] [(0,4),(4,1)]/\FL 373 0 0 true 4/\FL 373 1 4 false 1:=⟨iY,bz,bz⟩
theorem ah1:TY 381 (.pointer 134) 1 8 [.v (.pointer none)]:=dU
theorem aew:TS 385 Tryz.t384.desc 2 16 [.v (.int .i64 0),.v (.int .i64 0)] [(0,1),(1,1)]/\FL 385 0 0 false 1/\FL 385 1 1 false 1:=⟨iY,bz,bz⟩
theorem ah2:TY 386 (.pointer 390) 1 8 [.v (.pointer none)]:=dU
theorem ah3:TS 388 Tryz.t387.desc 2 24 [.str [],.v (.int .i64 0)] [(0,1),(1,1)]/\FL 388 0 0 false 1/\FL 388 1 1 false 1:=⟨iY,bz,bz⟩
theorem ah4:TS 390 Tryz.t389.desc 3 48 [.str [],.v (.int .i64 0),.sl 0 [] .nil] [(0,2),(2,1)]/\FL 390 0 0 true 2/\FL 390 1 2 false 1:=⟨iY,bz,bz⟩
theorem Lg:TY 393 (.pointer 112) 1 8 [.v (.pointer none)]:=dU
theorem YZ:TY 398 (.slice 373) 1 24 [.sl 0 [] .nil]:=dU
theorem Y0:TY 401 (.pointer 132) 1 8 [.v (.pointer none)]:=dU
theorem ah5:TY 403 (.pointer 21) 1 8 [.v (.pointer none)]:=dU
theorem ah6:TY 407 (.pointer 388) 1 8 [.v (.pointer none)]:=dU
theorem G_:TY 421 (.slice 21) 1 24 [.sl 0 [] .nil]:=dU
set_option maxRecDepth 10000
theorem cY {α :Type} (l:List α) (j:Nat) (h:j<l.length):l.take (j+1)=l.take j++[l[j]]:=by
 rw[List.take_add_one,List.getElem?_eq_getElem h];rfl
section
variable {α :Type} {f: α -> α} {l:List α} {j:Nat}
end
def pB (b:UInt8):Bool:=decide (48<=b.toNat)&&decide (b.toNat<=57)
def lo (b:UInt8):UInt8:=if 65<=b.toNat/\b.toNat<=90 then UInt8.ofNat (b.toNat+32)else b
theorem pC (b:UInt8) (O:VH):VF Tryz.prog 111 [fB b] O (aD fun m O'=>m=mb (pB b)/\O'=O):=by
 have sF:b.toNat<256:=b.toNat_lt;refine VF.abR aa Tryz.func111 (c:=_) rfl (Nat.le_of_ble_eq_true rfl) ?_;rw[show Tryz.f111.ntmps=9 from rfl];simp only[cw,Nat.zero_add,Nat.reduceAdd];by_cases h1:48<=b.toNat
 ·by_cases h2:b.toNat<=57
  ·repeat' first
    | with_reducible (first | refine VC.seq' ?_ | refine VC.aB ?_ | refine VC.skip ?_ | refine VC.label ?_ | refine VC.scope ?_ | refine VC.exit ?_ | refine VC.ret ?_ | refine VL.nil ?_)
    | (with_reducible refine gVC ?_;first | refine gp @aE ?_ | refine gr @aE ?_ | (refine gc @aE ?_ ?_<;>(intro D0;try simp only[dcs,ne_eq,reduceCtorEq]at D0)))
    | simp only[Xv,Nat.reduceEqDiff,reduceIte]
    | refine eR1 ?_ | refine eR2 ?_ | refine mP.Xm rfl ?_ | refine mP.Xn rfl ?_
   exact⟨by simp[pB,h1,h2,a_],by trivial⟩
  ·repeat' first
    | with_reducible (first | refine VC.seq' ?_ | refine VC.aB ?_ | refine VC.skip ?_ | refine VC.label ?_ | refine VC.scope ?_ | refine VC.exit ?_ | refine VC.ret ?_ | refine VL.nil ?_)
    | (with_reducible refine gVC ?_;first | refine gp @aE ?_ | refine gr @aE ?_ | (refine gc @aE ?_ ?_<;>(intro D0;try simp only[dcs,ne_eq,reduceCtorEq]at D0)))
    | simp only[Xv,Nat.reduceEqDiff,reduceIte]
    | refine eR1 ?_ | refine eR2 ?_ | refine mP.Xm rfl ?_ | refine mP.Xn rfl ?_
   exact⟨by simp[pB,h2,a_],by trivial⟩
 ·repeat' first
   | with_reducible (first | refine VC.seq' ?_ | refine VC.aB ?_ | refine VC.skip ?_ | refine VC.label ?_ | refine VC.scope ?_ | refine VC.exit ?_ | refine VC.ret ?_ | refine VL.nil ?_)
   | (with_reducible refine gVC ?_;first | refine gp @aE ?_ | refine gr @aE ?_ | (refine gc @aE ?_ ?_<;>(intro D0;try simp only[dcs,ne_eq,reduceCtorEq]at D0)))
   | simp only[Xv,Nat.reduceEqDiff,reduceIte]
   | refine eR1 ?_ | refine eR2 ?_ | refine mP.Xm rfl ?_ | refine mP.Xn rfl ?_
  exact⟨by simp[pB,h1,a_],by trivial⟩
section
variable {tab:b9} {t:TypeId} {a b:List UInt8}
end
def agk (s:List UInt8) (nb:Bool):List UInt8:=
 if s==[103,97]||(s==[102,105,110,97,108]||s==[114,101,108,101,97,115,101])then[]
 else if s==[99,114]then[114,99]
 else if nb&&s==[97]then[97,108,112,104,97]
 else if nb&&s==[98]then[98,101,116,97]
 else if nb&&s==[109]then[109,105,108,101,115,116,111,110,101]
 else s
section
variable {tab:b9} {t:TypeId} {l:List UInt8} {s c:Nat} {z:List MV}
end
def Lh (b:UInt8):Bool:=b==46||b==45
abbrev Piece:=List UInt8×Bool×Bool
abbrev Y1:=Bool×Bool×List UInt8
set_option linter.defProp false in
def zB:=And.intro T9<|And.intro T3<|And.intro T4<|And.intro T5<|And.intro tA<|And.intro RP<|And.intro Lc<|And.intro ahD G8
structure fP (O:VH) (B b:Nat) (q:Option Nat) (s:List UInt8):Prop where
 cell:∃p buf,O.hp b=some (.cells [p,buf])/\(p= .v (.pointer none)\/p= .ptr b 0)/\GR O 5 1 B buf s.length (s.map fB)/\gid buf=q/\buf≠ .sl 0 [] .full
 ne:q≠some b
 nw:∃j,B<=j/\j<O.next/\O.hp j=some (.shape b 145 2)
 lo:B<=b
 hi:b<O.next
 nz:s=[]->q=none
structure e_ (O:VH) (b:Nat) (q:Option Nat) (O':VH) (q':Option Nat):Prop where
 next:O.next<=O'.next
 hp:∀i,i<O.next->i≠b->q≠some i->O'.hp i=O.hp i
 new:∀i,i<O.next->q≠some i->q'≠some i
theorem fP.RQ {O:VH} {B b:Nat} {q:Option Nat} {s:List UInt8} (h:fP O B b q s):∀i,O.next<=i->q≠some i:=by
 intro i hi e;obtain⟨p,buf,_,_,hg,hq,_⟩:=h.cell;rcases hg with⟨_,_,rfl | rfl⟩ | ⟨k,c,rfl,_,_,hr⟩
 ·rw[<-hq]at e;cases e
 ·rw[<-hq]at e;cases e
 ·rw[<-hq]at e;injection e with e;have:=hr.hi;omega
theorem fP.xg {O:VH} {B b:Nat} {q:Option Nat} {s:List UInt8} (h:fP O B b q s):∀i,q=some i->B<=i:=by
 intro i e;obtain⟨p,buf,_,_,hg,hq,_⟩:=h.cell;rcases hg with⟨_,_,rfl | rfl⟩ | ⟨k,c,rfl,_,_,hr⟩
 ·rw[<-hq]at e;cases e
 ·rw[<-hq]at e;cases e
 ·rw[<-hq]at e;injection e with e;rw[<-e];exact hr.lo
theorem e_.ge {O0 O O':VH} {b:Nat} {q q':Option Nat} (h:O0.Ge O) (u:e_ O b q O' q') (hb:O0.next<=b) (hq:∀i,q=some i->O0.next<=i):O0.Ge O':=
 ⟨Nat.le_trans h.next u.next,fun i hi=>(u.hp i (Nat.lt_of_lt_of_le hi h.next) (by omega) (fun e=>by have:=hq i e;omega)).trans (h.hp i hi)⟩
theorem fP.pr {O O':VH} {B b:Nat} {q:Option Nat} {s:List UInt8} (h:fP O B b q s) (hn:O.next<=O'.next) (hb:O'.hp b=O.hp b) (hq:∀i,q=some i->O'.hp i=O.hp i) (hs:∀j k t n,O.hp j=some (.shape k t n)->j<O.next->O'.hp j=O.hp j):fP O' B b q s:=by
 obtain⟨p,buf,h1,h2,h3,h4,h5⟩:=h.cell;obtain⟨j,j1,j2,j3⟩:=h.nw;refine⟨⟨p,buf,hb.trans h1,h2,?_,h4,h5⟩,h.ne,⟨j,j1,by omega,(hs j _ _ _ j3 j2).trans j3⟩,h.lo,by have:=h.hi;omega,h.nz⟩;rcases h3 with h3 | ⟨k,c,rfl,g1,g2,g3⟩
 ·exact .inl h3
 ·refine .inr ⟨k,c,rfl,g1,g2,?_⟩;obtain⟨sp,r1,r2⟩:=g3.cells;obtain⟨i,i1,i2,i3⟩:=g3.nw;exact⟨⟨sp,(hq k h4.symm).trans r1,r2⟩,⟨i,i1,by omega,(hs i _ _ _ i3 i2).trans i3⟩,g3.lo,by have:=g3.hi;omega⟩
theorem fP.xP {O O':VH} {B b:Nat} {q:Option Nat} {s:List UInt8} (h:fP O B b q s) (u:bq O none O'):fP O' B b q s:=
 h.pr u.next (u.hp b h.hi (by simp)) (fun i hi=>u.hp i (by
  rcases Nat.lt_or_ge i O.next with h' | h'
  ·exact h'
  ·exact absurd hi (h.RQ i h')) (by simp)) fun j _ _ _ _ hl=>u.hp j hl (by simp)
theorem fP.set {O:VH} {B b i:Nat} {q:Option Nat} {s:List UInt8} {cs:List MV} {x:b_} (h:fP O B b q s) (hi:O.hp i=some (.cells cs)) (hb:i≠b) (hq:q≠some i):fP (O.set i x) B b q s:=
 h.pr (Nat.le_refl _) (VH.ak _ _ (Ne.symm hb)) (fun k hk=>VH.ak _ _ (fun e=>hq (by rw[hk,e]))) fun j _ _ _ hj _=>VH.ak _ _ (fun e=>by rw[e,hi]at hj;cases hj)
theorem fP.fresh (O:VH) {B:Nat} (hB:B<=O.next):fP ((O.push (.cells [.v (.pointer none),.sl 0 [] .nil])).push (.shape O.next 145 2)) B O.next none []:=
 ⟨⟨_,_,(VH.bw _ _ (by show O.next<O.next+1;omega)).trans (VH.aV _ _),.inl rfl,.inl ⟨rfl,rfl,.inl rfl⟩,rfl,by simp⟩,by simp,⟨O.next+1,by omega,by show O.next+1<O.next+1+1;omega,VH.aV _ _⟩,hB,by show O.next<O.next+1+1;omega,fun _=>rfl⟩
theorem Li (k o:Nat) (O:VH):ey Tryz.prog 113 [.ptr k o] O fun m O'=>m= .ptr k o/\O'=O:=by
 refine ey.of (ex:=Extern.AbiNoEscape.same) Tryz.func113 (by kernel_rfl) (by kernel_rfl) (by kernel_rfl) (by kernel_rfl) fun G w vs hw hv=>?_
 obtain⟨u,us,rfl,h1,h2⟩:=hv.cB;rw[h2.fw];exact⟨u,Lib.run_noEscape w u,h1⟩
theorem zC {O:VH} {B b:Nat} {q:Option Nat} {s:List UInt8} (h:fP O B b q s):VF Tryz.prog 85 [.ptr b 0] O (aD fun m O'=>fP O' B b q s/\e_ O b q O' q):=by
 obtain⟨p,buf,h1,h2,h3,h4,h5⟩:=h.cell;obtain⟨j,j1,j2,j3⟩:=h.nw;have hb:=h.hi;refine VF.du 20 [] Tryz.func85 ?_;rcases h2 with rfl | rfl
 ·refine ao @zB @h1 ?_;refine VL.toU aa (.inl rfl) (el:=145) (by rw[RP];rfl) (by rw[G8];rfl) Lc.1.1 (by decide) j3 (by decide) rfl rfl rfl ?_;refine Iy ?_;refine ah.ext (Li b 0 O) rfl ?_;rintro _ O2 ⟨rfl,rfl⟩;refine Iy ?_;refine VL.afV aa (.inl rfl) (el:=145) (by rw[G8];rfl) (by rw[RP];rfl) Lc.1.1 j3 (by kernel_rfl) rfl rfl rfl ?_;refine ao @zB @h1 ?_;refine⟨⟨⟨_,buf,VH.an _ _ _,.inr rfl,h3.pr bq.set (by rw[h4];exact h.ne) (fun k t n=>by rw[h1];simp),h4,h5⟩,h.ne,⟨j,j1,j2,?_⟩,h.lo,h.hi,h.nz⟩,⟨Nat.le_refl _,fun i _ hi _=>VH.ak _ _ hi,fun _ _ h=>h⟩⟩;rw[VH.ak _ _ (fun e=>by rw[e,h1]at j3;cases j3)];exact j3
 ·simp(disch:=first | omega | (simp only[ds]<;>omega) | fail) only[wk,wu,sC,aj,cD,Nat.reduceLT,Nat.reduceAdd,Nat.reduceMul,Nat.reduceSub,Nat.reduceBEq,Nat.reduceEqDiff,Int.reduceToNat,reduceIte,zB,h1,KH (op:=.neq) RP (s:=1) Lc.1.1];exact⟨h,⟨Nat.le_refl _,fun _ _ _ _=>rfl,fun _ _ h=>h⟩⟩
theorem fP.grown {O O':VH} {B b:Nat} {q:Option Nat} {s:List UInt8} {p buf m:MV} {n' z:Nat} {L:List UInt8} (h:fP O B b q s) (h1:O.hp b=some (.cells [p,buf])) (h2:p= .v (.pointer none)\/p= .ptr b 0) (h4:gid buf=q) (hg:GR O' 5 1 B m n' (L.map fB)) (hn:n'=L.length) (hu:bq O (gid buf) O') (qw:(∃k c,m= .bp k 0 n' c/\(gid buf=some k\/(O.next<=k/\z≠0)))\/m=buf) (hf:buf≠ .sl 0 [] .full) (hz:L=[]->z=0/\s=[]):
  fP (O'.set b (.cells [p,m])) B b (gid m) L/\e_ O b q (O'.set b (.cells [p,m])) (gid m):=by
 subst hn;obtain⟨j,j1,j2,j3⟩:=h.nw;have hb:=h.hi
 have hm:m≠ .sl 0 [] .full:=by
  rcases qw with⟨k,c,rfl,_⟩ | rfl
  ·simp
  ·exact hf
 have sG:∀i,i<O.next->q≠some i->gid m≠some i:=fun i hi hq=>by
  rcases qw with⟨k,c,rfl,hk⟩ | rfl
  ·rcases hk with hk | hk
   ·rw[<-h4,hk]at hq;exact hq
   ·intro e;injection e with e;have:=hk.1;omega
  ·rw[h4];exact hq
 have hne:gid m≠some b:=sG b hb h.ne;have hOb:O'.hp b=some (.cells [p,buf]):=(hu.hp b hb (by rw[h4];exact h.ne)).trans h1
 have hqs:∀i k t n,O.hp i=some (.shape k t n)->i<O.next->O'.hp i=O.hp i:=fun i k t n hi hl=>hu.hp i hl fun e=>by
  obtain⟨p',aj2,g1,g2,g3,g4,g5⟩:=h.cell;rw[h1]at g1;injection g1 with g1;injection g1 with g1;injection g1 with e1 e2;injection e2 with e2;subst e2
  rcases g3 with⟨_,_,rfl | rfl⟩ | ⟨k2,c2,rfl,_,_,hr⟩
  ·cases e
  ·cases e
  ·injection e with e;subst e;obtain⟨sp,r1,_⟩:=hr.cells;rw[r1]at hi;cases hi
 refine⟨⟨⟨p,m,VH.an _ _ _,h2,hg.pr bq.set hne (fun k t n=>by rw[hOb];simp),rfl,hm⟩,hne,⟨j,j1,Nat.lt_of_lt_of_le j2 hu.next,?_⟩,h.lo,Nat.lt_of_lt_of_le hb hu.next,fun hL=>?_⟩,⟨hu.next,fun i hi Pn hq=>(VH.ak _ _ Pn).trans (hu.hp i hi (by rw[h4];exact hq)),sG⟩⟩
 ·rw[VH.ak _ _ (fun e=>by rw[e,h1]at j3;cases j3)];exact(hqs j _ _ _ j3 j2).trans j3
 ·obtain⟨z0,s0⟩:=hz hL;have hq:=h.nz s0;rw[hq]at h4;rcases qw with⟨k,c,rfl,hk⟩ | rfl
  ·rcases hk with hk | hk
   ·rw[h4]at hk;cases hk
   ·exact absurd z0 hk.2
  ·exact h4
theorem sH {O:VH} {B b:Nat} {q:Option Nat} {s:List UInt8} (c:UInt8) (h:fP O B b q s) (hl:s.length+1<=140737488355328):VF Tryz.prog 86 [.ptr b 0,fB c] O (aD fun m O'=>m= .v .nilIface/\∃q',fP O' B b q' (s++[c])/\e_ O b q O' q'):=by
 refine VF.du 17 [.tmp 4] Tryz.func86 ?_;refine ae @zB ?_;refine ah.rt (zC h) ?_;rintro _ O1 ⟨h',u'⟩;obtain⟨p,buf,h1,h2,h3,h4,h5⟩:=h'.cell;have hb:=h'.hi;refine aI @zB @h1 @aE ?_;refine VL.grow aa (.inl rfl) (te:=⟨.int .u8,1,1,[.v (.int .u8 0)]⟩) (dx:=.slice 5) (q:=.sl 1 [fB c] .full) (j:=1) (ds:=[fB c]) h3 rfl rfl (by rw[tA];rfl) T5 (by rw[tA];rfl) trivial (by dsimp only;omega) (by simp only[maxLen];omega) (by have:=h'.lo;omega) rfl rfl rfl rfl ?_;intro m O2 hg hu _ qw;have hg':GR O2 5 1 B m (s.length+1) ((s++[c]).map fB):=by rw[List.map_append];exact hg
 have hr:=h'.grown h1 h2 h4 hg' (by simp) hu (qw.imp_right (·.2.1)) h5 (by simp);have hO:O2.hp b=some (.cells [p,buf]):=(hu.hp b hb (by rw[h4];exact h'.ne)).trans h1
 have gV:dI m=[m]/\dJ m=true:=by
  rcases qw with⟨k,cp,rfl,_⟩ | ⟨hj,_⟩
  ·exact⟨rfl,rfl⟩
  ·cases hj
 have dB:=pw (O:=O2) (k:=b) (off:=1) (u:=.slice 5) (b:=24) (z:=[.sl 0 [] .nil]) (cs:=[p,buf]) gV.1 gV.2 (by simp);refine aI @zB @hO @dB ?_;exact⟨_,hr.1,⟨Nat.le_trans u'.next hr.2.next,fun i hi Pn hq=>(hr.2.hp i (Nat.lt_of_lt_of_le hi u'.next) Pn hq).trans (u'.hp i hi Pn hq),fun i hi hq=>hr.2.new i (Nat.lt_of_lt_of_le hi u'.next) hq⟩⟩
theorem bK {O:VH} {B b:Nat} {q:Option Nat} {s:List UInt8} (l:List UInt8) (h:fP O B b q s) (hl:s.length+l.length<=140737488355328):VF Tryz.prog 65 [.ptr b 0,.str l] O (aD fun m O'=>m= .tuple [mi l.length,.v .nilIface]/\∃q',fP O' B b q' (s++l)/\e_ O b q O' q'):=by
 refine VF.du 19 [.tmp 4,.tmp 5] Tryz.func65 ?_;refine ae @zB ?_;refine ah.rt (zC h) ?_;rintro _ O1 ⟨h',u'⟩;obtain⟨p,buf,h1,h2,h3,h4,h5⟩:=h'.cell;have hb:=h'.hi;refine ao @zB @h1 ?_;refine VL.grow aa (.inl rfl) (te:=⟨.int .u8,1,1,[.v (.int .u8 0)]⟩) (dx:=.string) (q:=.str l) (j:=l.length) (ds:=l.map fB) h3 rfl (by rw[List.all_map];exact List.all_eq_true.2 fun _ _=>rfl) (by rw[tA];rfl) T5 (by rw[T9];rfl) trivial (by dsimp only;omega) (by simp only[maxLen];omega) (by have:=h'.lo;omega) rfl rfl rfl rfl ?_;intro m O2 hg hu _ qw;have hg':GR O2 5 1 B m (s.length+l.length) ((s++l).map fB):=by rw[List.map_append];exact hg
 have hr:=h'.grown h1 h2 h4 hg' (by simp) hu (qw.imp_right (·.2.1)) h5 (by simp[and_comm]);have hO:O2.hp b=some (.cells [p,buf]):=(hu.hp b hb (by rw[h4];exact h'.ne)).trans h1
 have gV:dI m=[m]/\dJ m=true:=by
  rcases qw with⟨k,cp,rfl,_⟩ | ⟨_,rfl,_⟩
  ·exact⟨rfl,rfl⟩
  ·rcases h3 with⟨_,_,rfl | rfl⟩ | ⟨k,c,rfl,_⟩<;>exact⟨rfl,rfl⟩
 have dB:=pw (O:=O2) (k:=b) (off:=1) (u:=.slice 5) (b:=24) (z:=[.sl 0 [] .nil]) (cs:=[p,buf]) gV.1 gV.2 (by simp);refine aI @zB @hO @dB ?_;exact⟨_,hr.1,⟨Nat.le_trans u'.next hr.2.next,fun i hi Pn hq=>(hr.2.hp i (Nat.lt_of_lt_of_le hi u'.next) Pn hq).trans (u'.hp i hi Pn hq),fun i hi hq=>hr.2.new i (Nat.lt_of_lt_of_le hi u'.next) hq⟩⟩
theorem pD {O:VH} {B b:Nat} {q:Option Nat} {s:List UInt8} (h:fP O B b q s) (hm:s.length<=maxLen):VF Tryz.prog 68 [.ptr b 0] O (aD fun m O'=>m= .str s/\bq O q O'):=by
 obtain⟨p,buf,h1,h2,h3,h4,h5⟩:=h.cell;have hb:=h.hi;refine VF.du 14 [.tmp 2] Tryz.func68 ?_;refine Iy ?_;refine WC.bH (.held [10,11]) [(0,.rd),(1,.rd),(2,.rd),(3,.rd),(4,.rd),(5,.rd),(6,.rd),(7,.rd),(8,.rd),(9,.rd),(10,.one),(11,.rd)] ?_;have hO:O.hp b=some (.cells [p,buf]):=h1;rcases h3 with⟨e1,e2,rfl | rfl⟩ | ⟨k,c,rfl,g1,g2,g3⟩
 ·have hs:s=[]:=List.eq_nil_of_length_eq_zero e1;subst hs;simp(disch:=first | omega | (simp only[ds]<;>omega) | fail) only[wk,wu,sC,aj,cD,Nat.reduceLT,Nat.reduceAdd,Nat.reduceMul,Nat.reduceSub,Nat.reduceBEq,Nat.reduceEqDiff,Int.reduceToNat,reduceIte,zB,h1,vX];refine VL.afU aa (by kernel_rfl) rfl rfl rfl rfl ?_;refine ae @zB ?_;exact bq.refl _ _
 ·exact absurd rfl h5
 ·have hs:s≠[]:=fun e=>by have:=h.nz e;rw[<-h4]at this;cases this
  have hc:c≠0:=fun e=>hs (List.eq_nil_of_length_eq_zero (by omega))
  have oc:s.length<=maxLen:=hm;simp(disch:=first | omega | (simp only[ds]<;>omega) | fail) only[wk,wu,sC,aj,cD,Nat.reduceLT,Nat.reduceAdd,Nat.reduceMul,Nat.reduceSub,Nat.reduceBEq,Nat.reduceEqDiff,Int.reduceToNat,reduceIte,zB,h1,vX,hc];refine VL.ahm aa (by kernel_rfl) (el:=5) (by rw[ahI];rfl) (by kernel_rfl) g3 hs oc rfl rfl rfl rfl ?_;refine ae @zB ?_;exact h4▸bq.kill
set_option linter.defProp false in
def rI:=And.intro T9<|And.intro T3<|And.intro T4<|And.intro T5 tA
theorem D1 (s:List UInt8) (c:UInt8):(0<=Lib.indexByte s c) ↔ c∈s:=by
 induction s with
 | nil=>simp[Lib.indexByte]
 | cons b l ih=>
   have gZ:=Lib.indexByte_ge l c;unfold Lib.indexByte;by_cases hb:b=c
   ·subst hb;simp
   ·have:(b==c)=false:=by simpa using hb
    rw[this];simp only[Bool.false_eq_true,if_false,List.mem_cons];by_cases h1:Lib.indexByte l c= -1
    ·rw[h1]at ih ⊢;simp only[beq_self_eq_true,if_true];constructor
     ·intro h;omega
     ·rintro(h | h)
      ·exact absurd h.symm hb
      ·have:=ih.2 h;omega
    ·have:(Lib.indexByte l c== -1)=false:=by simpa using h1
     rw[this];simp only[Bool.false_eq_true,if_false];constructor
     ·intro _;exact .inr (ih.1 (by omega))
     ·rintro(h | h)
      ·exact absurd h.symm hb
      ·have:=ih.2 h;omega
theorem xS (s:List UInt8) (c:UInt8) (O:VH):ey Tryz.prog 169 [.str s,fB c] O fun m O'=>m=mi (Lib.indexByte s c)/\O'=O:=by
 refine ey.of (ex:=Extern.BytealgIndexByte.indexByte) Tryz.func169 (by kernel_rfl) (by kernel_rfl) (by kernel_rfl) (by kernel_rfl) fun G w vs hw hv=>?_
 obtain⟨u,us,rfl,h1,h2⟩:=hv.cB;obtain⟨u2,Po,rfl,h3,h4⟩:=h2.cB;rw[h4.fw];cases h1;have:=h3.iw;subst this;refine⟨_,Lib.run_indexByteString _ _ w,?_⟩;have e:((c.toNat:Int).toNat).toUInt8=c:=by simp
 rw[e];exact .v rfl
theorem IA (s:List UInt8) (c:UInt8) (O:VH):VF Tryz.prog 139 [.str s,fB c] O (aD fun m O'=>m=mi (Lib.indexByte s c)/\O'=O):=by
 refine VF.du 8 [.tmp 4] Tryz.func139 ?_;refine Iy ?_;refine ah.ext (xS s c O) rfl ?_;rintro _ O2 ⟨rfl,rfl⟩;exact Iy trivial
theorem UL (s:List UInt8) (c:UInt8) (O:VH):VF Tryz.prog 108 [.str s,.str [c]] O (aD fun m O'=>∃n:Int,m=mi n/\(0<=n ↔ c∈s)/\O'=O):=by
 refine VF.du 143 [.tmp 4] Tryz.func108 ?_;cases h:([c]:List UInt8)==s
 ·refine de @rI @h @List.length_cons.{0} @List.length_nil.{0} ?_;refine ah.rt (IA s c O) ?_;rintro _ O2 ⟨rfl,rfl⟩;refine ae @rI ?_;exact⟨_,rfl,D1 s c⟩
 ·refine de @rI @h @List.length_cons.{0} @List.length_nil.{0} ?_;have:s=[c]:=by have:=beq_iff_eq.1 h;exact this.symm
  exact⟨0,rfl,by rw[this];simp⟩
theorem IB (s:List UInt8) (c:UInt8) (O:VH):VF Tryz.prog 81 [.str s,.str [c]] O (aD fun m O'=>∃n:Int,m=mi n/\(0<=n ↔ c∈s)/\O'=O):=by
 refine VF.du 8 [.tmp 4] Tryz.func81 ?_;refine Iy ?_;refine ah.rt (UL s c O) ?_;rintro _ O2 ⟨n,rfl,h,rfl⟩;refine Iy ?_;exact⟨n,rfl,h⟩
theorem zD (s:List UInt8) (c:UInt8) (O:VH):VF Tryz.prog 112 [.str s,.str [c]] O (aD fun m O'=>m=mb (s.contains c)/\O'=O):=by
 refine VF.du 9 [.tmp 4] Tryz.func112 ?_;refine Iy ?_;refine ah.rt (IB s c O) ?_;rintro _ O2 ⟨n,rfl,h,rfl⟩;refine Iy ?_
 have:s.contains c=decide (n>=0):=by
  rw[Bool.eq_iff_iff,List.contains_iff_mem,decide_eq_true_iff];exact h.symm
 rw[this]
def Pp (c:UInt8):Bool:=decide ((97<=c.toNat/\c.toNat<=122)\/(65<=c.toNat/\c.toNat<=90)\/(48<=c.toNat/\c.toNat<=57)\/c.toNat=46\/c.toNat=45\/c.toNat=95\/c.toNat=43)
def uQ (s:List UInt8):Bool:=s.all Pp&&(decide (1<=s.length)&&decide (s.length<=64))
theorem Pq (c:UInt8):((97<=c.toNat/\c.toNat<=122)\/(65<=c.toNat/\c.toNat<=90)\/(48<=c.toNat/\c.toNat<=57)\/c.toNat=46\/c.toNat=45\/c.toNat=95\/c.toNat=43)\/((123<=c.toNat)\/(91<=c.toNat/\c.toNat<=96/\c.toNat≠95)\/(58<=c.toNat/\c.toNat<=64)\/(c.toNat<=47/\c.toNat≠43/\c.toNat≠45/\c.toNat≠46)):=by omega
theorem Pr (s:List UInt8) (O:VH) (hs:s.length<=maxLen):VF Tryz.prog 84 [.str s] O (aD fun m O'=>m=mb (uQ s)/\O.Ge O'):=by
 have hm:(s.length:Int)<=9223372036854775807:=by simp[maxLen]at hs;omega
 have rJ:=VH.aV O (.cells (s.map fB));have zE:=(VH.Ge.refl O).push (.cells (s.map fB));refine VF.du 50 [.tmp 2] Tryz.func84 ?_;refine ae @rI ?_;refine VL.bytes aa (el:=5) (l:=s) rfl rfl (by rw[T9];rfl) (by rw[tA];rfl) (by rw[T5];rfl) hs rfl fun cap h1 h2=>WL.sound aa ?_
 refine ae @rI ?_;refine WC.iA [9] [0,7,8] (fun j:Nat=>[mi j]) (fun j O'=>(O.push (.cells (s.map fB))).Ge O'/\j<=s.length/\(s.take j).all Pp=true) (fun j=>s.length - j) (0) ?_ ?_
 ·exact⟨VH.Ge.refl _,Nat.zero_le _,rfl⟩
 rintro j O2 ⟨oI,hj,j9⟩;have wS:=(oI.hp O.next (Nat.lt_succ_self _)).trans rJ;by_cases h2:j<s.length
 ·have hc:=Pq s[j];have np:=List.getElem?_eq_getElem h2;have cW:Pp s[j]=decide ((97<=s[j].toNat/\s[j].toNat<=122)\/(65<=s[j].toNat/\s[j].toNat<=90)\/(48<=s[j].toNat/\s[j].toNat<=57)\/s[j].toNat=46\/s[j].toNat=45\/s[j].toNat=95\/s[j].toNat=43):=rfl;have iZ:(s.take (j+1)).all Pp=Pp s[j]:=by rw[cY _ _ h2,List.all_append,j9];simp
  generalize hx:s[j]=c at*;have hD:pB c=decide (48<=c.toNat/\c.toNat<=57):=by unfold pB;rw[Bool.decide_and]
  have hC:([46,45,95,43]:List UInt8).contains c=decide (c.toNat=46\/c.toNat=45\/c.toNat=95\/c.toNat=43):=by
   rw[Bool.eq_iff_iff,List.contains_iff_mem,decide_eq_true_iff];simp only[List.mem_cons,List.not_mem_nil,or_false, <-UInt8.toNat_inj];rfl
  rcases hc with hc | hc
  ·have h1:Pp c=true:=by rw[cW];exact decide_eq_true hc
   rw[h1]at iZ;rcases hc with hc | hc | hc | hc | hc | hc | hc
   ·refine de @rI @np @wS @aE ?_;refine az.next (j+1) ?_;exact⟨oI,by omega,iZ⟩
   ·refine de @rI @np @wS @aE ?_;refine az.next (j+1) ?_;exact⟨oI,by omega,iZ⟩
   ·rw[decide_eq_true (by omega)]at hD;refine de @rI @np @wS @aE ?_;refine ah.rt (pC c _) ?_;rintro _ O3 ⟨rfl,rfl⟩;rw[hD];refine ae @rI ?_;refine az.next (j+1) ?_;exact⟨oI,by omega,iZ⟩
   all_goals
    rw[decide_eq_false (by omega)]at hD;rw[decide_eq_true (by omega)]at hC;refine de @rI @np @wS @aE ?_;refine ah.rt (pC c _) ?_;rintro _ O3 ⟨rfl,rfl⟩;rw[hD];refine ae @rI ?_;refine VL.Xw aa (el:=5) (l:=[c]) rfl rfl (by rw[tA];rfl) (by rw[T9];rfl) (by rw[T5];rfl) rfl rfl rfl (WL.sound aa ?_);refine ae @rI ?_;refine ah.rt (zD [46,45,95,43] c _) ?_;rintro _ O4 ⟨rfl,rfl⟩;rw[hC];refine ae @rI ?_;refine az.next (j+1) ?_;exact⟨oI,by omega,iZ⟩
  ·have h1:Pp c=false:=by rw[cW];exact decide_eq_false (by omega)
   have:uQ s=false:=by
    unfold uQ;rw[List.all_eq_false.2 ⟨c,by rw[<-hx];exact List.getElem_mem h2,by simp[h1]⟩];rfl
   rw[this];rw[decide_eq_false (by omega)]at hD hC;rcases hc with hc | hc | hc | hc
   all_goals
    refine de @rI @np @wS @aE ?_;refine ah.rt (pC c _) ?_;rintro _ O3 ⟨rfl,rfl⟩;rw[hD];refine ae @rI ?_;refine VL.Xw aa (el:=5) (l:=[c]) rfl rfl (by rw[tA];rfl) (by rw[T9];rfl) (by rw[T5];rfl) rfl rfl rfl (WL.sound aa ?_);refine ae @rI ?_;refine ah.rt (zD [46,45,95,43] c _) ?_;rintro _ O4 ⟨rfl,rfl⟩;rw[hC];refine ae @rI ?_;exact zE.trans oI
 ·have AG:j=s.length:=by omega
  subst AG;rw[List.take_length]at j9;unfold uQ;rw[j9];by_cases h0:0<s.length
  ·have e:decide (1<=s.length)=true:=decide_eq_true h0;rw[e];by_cases D2:s.length<=64
   ·refine ae @rI ?_;exact zE.trans oI
   ·refine ae @rI ?_;exact zE.trans oI
  ·have e:decide (1<=s.length)=false:=decide_eq_false (by omega);rw[e];refine ae @rI ?_;exact zE.trans oI
def tB:Bool->List UInt8->List UInt8->List Piece
 | hy,cur,[]=>[(cur,hy,false)]
 | hy,cur,c::r=>if Lh c then(cur,hy,false)::tB (c==45) [] r
   else match cur.getLast? with
    | none=>tB hy [c] r
    | some d=>if pB c=pB d then tB hy (cur++[c]) r else(cur,hy,true)::tB true [c] r
theorem UM (hy:Bool) (cur:List UInt8):tB hy cur []=[(cur,hy,false)]:=rfl
theorem Ps {hy:Bool} {cur r:List UInt8} {c:UInt8} (h:Lh c=true):tB hy cur (c::r)=(cur,hy,false)::tB (c==45) [] r:=by rw[tB,if_pos h]
def even (l:List UInt8):Prop:=(∀c∈l,Lh c=false)/\∀c∈l,∀d∈l,pB c=pB d
theorem AJ:∀(l cur r:List UInt8) (hy:Bool),even (cur++l)->tB hy cur (l++r)=tB hy (cur++l) r
 | [],cur,r,hy,_=>by simp
 | c::l,cur,r,hy,h=>by
   have hm:Lh c=false:=h.1 c (by simp);have G4:=AJ l (cur++[c]) r hy (by rw[List.append_assoc];exact h);rw[List.append_assoc,List.singleton_append]at G4;rw[<-G4,List.cons_append,tB,if_neg (by rw[hm];simp)];cases hl:cur.getLast? with
   | none=>
     have:cur=[]:=List.getLast?_eq_none_iff.1 hl;subst this;rfl
   | some d=>
     have hd:pB c=pB d:=h.2 c (by simp) d (List.mem_append_left _ (List.mem_of_getLast? hl));simp only[hd,if_true]
end Go.Proofs.YtoclnkfdahmnhaaGreatDoor
