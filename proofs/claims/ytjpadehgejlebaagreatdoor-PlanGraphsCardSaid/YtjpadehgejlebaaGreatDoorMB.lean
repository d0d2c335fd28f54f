import Derived.Test.YtjpadehgejlebaaGreatDoorMA
import Derived.Lib.ConvBytes
import Derived.Laws.BytesString
import Derived.Laws.Externs
import Derived.Deep.AppendSrc
import Derived.Lib.UnsafeStr
import Derived.Laws.StructEq
import Derived.Recover
import Derived.WideLaws
import Derived.Laws.RangeString
import Derived.DeepKeys5
import Derived.Test.YtjpadehgejlebaaGreatDoorRows
import Derived.Lib.Bytealg
set_option linter.unusedVariables false
set_option linter.unusedSimpArgs false
namespace Go.Proofs.YtjpadehgejlebaaGreatDoor
open Go.RowKit
open _root_.List renaming getElem?_eq_getElem → Ma, eq_nil_of_length_eq_zero → Qn, length_append → Vq, getElem?_cons_zero → Zk, map_cons → adW, getElem?_cons_succ → adX, getElem?_eq_some_iff → adZ, mem_of_getElem? → agc, getElem?_take → ahK, getElem?_toArray → ahM, length_cons → ahN, all_eq_true → ahO, getElem_mem → ahP, length_nil → ajm, getElem?_map → ajn, mem_map_of_mem → ajo, map_append → ajp, append_assoc → ajq, take_of_length_le → ajr, getElem?_eq_none → ajv, cons_append → al_, mem_iff_getElem → am5, map_nil → am6, set_cons_zero → am9, set_eq_of_length_le → anb, length_map → anf, nil_append → ang, take_zero → ank, mem_range → anl
open _root_.Nat renaming lt_of_lt_of_le → Zj, le_refl → ahJ, zero_add → ajk, le_trans → ajl, lt_or_ge → am7, add_mul → am_, zero_le → ani
open _root_.And renaming intro → zP
open _root_.Option renaming isSome_none → ahL, bind_some → ajt, map_eq_some_iff → anc, map_none → ane
open _root_.Bool renaming and_eq_true → Qm, false_eq_true → adY, false_or → ano
open _root_.Array renaming getElem?_eq_none → ajs, getElem?_modify → aju, getD_eq_getD_getElem? → am8, getElem?_append_left → ana
def jG:List Nat->List MV->Env->Env
 | t::l,m::ms,e=>(t,m)::jG l ms e
 | _,_,e=>e
theorem vS (t:Nat) (l:List Nat) (m:MV) (ms:List MV) (e:Env):jG (t::l) (m::ms) e=(t,m)::jG l ms e:=rfl
theorem Ff (ms:List MV) (e:Env):jG [] ms e=e:=rfl
theorem iY {e e0:Env} (he:∀t x,look e0 t=some x->look e t=some x):∀{l:List Nat} {ms:List MV},looks e l=some ms->∀t x,look (jG l ms e0) t=some x->look e t=some x
 | [],ms,_,t,x,hx=>he t x (by simpa[jG]using hx)
 | k::l,ms,h,t,x,hx=>by
   rw[CV]at h;obtain⟨m,h1,h2⟩:=Option.bind_eq_some_iff.1 h;obtain⟨Zr,h3,rfl⟩:=anc.1 h2;rw[vS,mS]at hx;cases hb:t==k with
   | true=>
     rw[hb,cond_true]at hx;injection hx with hx;subst hx
     have:t=k:=by simpa using hb
     rw[this];exact h1
   | false=>rw[hb,cond_false]at hx;exact iY he h3 t x hx
def az {σ :Type} (l K:List Nat) (ks:List MV) (ms: σ ->List MV) (I: σ ->VH->Prop) (μ : σ ->Nat) (s: σ) (Q:VQ):VQ:=fun x e O=>match x with
 | .normal=>looks e K=some ks/\∃s',looks e l=some (ms s')/\I s' O/\ μ s'< μ s
 | x=>Q x e O
section
variable {n:Sz} {D:List Deferred} {e:Env} {P:Program} {O:VH} {Q:VQ} {c:Code} {σ :Type} {l K:List Nat} {ks:List MV} {ms: σ ->List MV} {I: σ ->VH->Prop} {μ : σ ->Nat} {s: σ} {i:Nat} {m:MV}
theorem Av:az l K ks ms I μ s Q (.exit i) e O=Q (.exit i) e O:=rfl
theorem Aw:az l K ks ms I μ s Q (.goto i) e O=Q (.goto i) e O:=rfl
theorem C6:az l K ks ms I μ s Q .ret e O=Q .ret e O:=rfl
theorem r8:az l K ks ms I μ s Q (.panic m) e O=Q (.panic m) e O:=rfl
theorem VC.jm (l K:List Nat) (ms: σ ->List MV) (I: σ ->VH->Prop) (μ : σ ->Nat) (s0: σ) (h0:looks e l=some (ms s0)) (hk:looks e K=some ks) (hI:I s0 O)
  (step:∀s O,I s O->VC P n D c (jG l (ms s) (jG K ks [])) O (az l K ks ms I μ s Q)):VC P n D (.loop c) e O Q:=by
 refine VC.loop (fun k e O=>looks e K=some ks/\∃s,looks e l=some (ms s)/\I s O/\ μ s=k) (k:= μ s0) ⟨hk,s0,h0,hI,rfl⟩ ?_;rintro k e O ⟨hk,s,h1,h2,rfl⟩;refine VC.mono ?_ (VC.env (step s O h2) (iY (iY (e0:=[]) (fun t x h=>by simp[look]at h) hk) h1));intro x e' O' h
 cases x<;>first
  | exact h
  | (obtain⟨h6,s',h3,h4,h5⟩:=h;exact⟨_,h5,h6,s',h3,h4,rfl⟩)
end
abbrev ints (xs:List Int) (t:Tok):MV:=.sl xs.length (xs.map mi) t
abbrev QS (xs:List Bool) (t:Tok):MV:=.sl xs.length (xs.map mb) t
abbrev strs (xs:List (List UInt8)) (t:Tok):MV:=.sl xs.length (xs.map .str) t
set_option linter.defProp false in
def ZU:=zP @ane.{0,0}<|zP @Option.bind_none.{0,0}<|zP @vS<|zP @Ff<|zP @Int.zero_sub<|zP @Bool.not_true<|zP @Bool.not_false<|zP @decide_true<|zP @decide_eq_true<|zP @decide_eq_false<|zP @ajk<|zP @Nat.mul_one<|zP @Int.toNat_natCast<|zP @Nat.add_zero<|zP @am9.{0}<|zP @List.set_cons_succ.{0}<|zP @List.take_succ_cons.{0}<|zP @ank.{0}<|zP @List.drop_succ_cons.{0}<|zP @List.drop_zero.{0}<|zP @Ma.{0}<|zP @ahM.{0}<|zP @Zk.{0}<|zP @adX.{0}<|zP @ajt.{0,0}<|zP @Option.map_some.{0,0}<|zP @adW.{0,0}<|zP @am6.{0,0}<|zP @ajn.{0,0}<|zP @List.getElem_map.{0,0}<|zP @if_true.{1}<|zP @cond_true.{1} @cond_false.{1}
set_option linter.defProp false in
def ZV:=zP @vH<|zP @Ap<|zP @CY<|zP @yp<|zP @Av<|zP @Aw<|zP @C6<|zP @r8<|zP @Kd<|zP @QL<|zP @QM<|zP @VB<|zP @MB<|zP @vG<|zP @An<|zP @Ao<|zP @CW<|zP @r7<|zP @MC<|zP @ME<|zP @QN<|zP @Ke<|zP @MN<|zP @if_true.{1} @if_false.{1}
section
variable {P:Program} {tab:cj} {n:Sz} {D:List Deferred} {md:Md} {l:List Oper} {Q:VQ} {L':List (Fl×Oper)} {e e':Env} {O O':VH} {c x y:Code} {A:Prop} {id:Nat} {fn:Func} {R:gC->VH->Prop} {m m':MV} {t t':Nat} {o:Operand} {b:Bool}
theorem gVC (h:VC P n D c e O Q):VC P n D c e O Q:=h
theorem gp (a:A) (q:VL P n D .plain ⟨l⟩ L' e' O' Q) (ht:aO P tab:=by exact aa) (h:A->jl tab n ⟨l⟩ (l.map (Fl.one, ·)) e O=some (L',e',O'):=by intro z;simp(disch:=omega) only[ZT,ZU,ints,QS,strs,cT,Nat.reduceLT,Nat.reduceAdd,Nat.reduceBEq,Int.reduceToNat,z]<;>exact rfl):VC P n D (.region id ⟨l⟩ false) e O Q:=VC.TM (VL.run ht (h a) q)
theorem gr (a:A) (q:VL P n D .reads ⟨l⟩ L' e' O' Q) (ht:aO P tab:=by exact aa) (h1:P.follows .mixedOrders=true:=by kernel_rfl) (h2:Region.noSelect ⟨l⟩=true:=by kernel_rfl) (h3:cV .reads ⟨l⟩ l.length (Array.replicate l.length false) ((List.range' 0 l.length).map (·,Fl.rd))=true:=by kernel_rfl) (h:A->jl tab n ⟨l⟩ (l.map (Fl.rd, ·)) e O=some (L',e',O'):=by intro z;simp(disch:=omega) only[ZT,ZU,ints,QS,strs,cT,Nat.reduceLT,Nat.reduceAdd,Nat.reduceBEq,Int.reduceToNat,z]<;>exact rfl):VC P n D (.region id ⟨l⟩ true) e O Q:=VC.TU h1 h2 h3 (VL.run ht (h a) q)
theorem gc (a:A) (h1:b=true->VC P n D x e O Q) (h2:b=false->VC P n D y e O Q) (h:A->ev e o=some (.v (.bool b)):=by intro z;simp(disch:=omega) only[ZT,ZU,ints,QS,strs,cT,Nat.reduceLT,Nat.reduceAdd,Nat.reduceBEq,Int.reduceToNat,z]<;>exact rfl):VC P n D (.cond o x y) e O Q:=VC.cond (h a) h1 h2
theorem eR1 (q:R (.ret m) O) (h1:fn.results= #[.tmp t]:=by exact rfl) (h2:look e t=some m:=by simp only[mS,Nat.reduceBEq,cond_true,cond_false]<;>exact rfl):nM tab fn R .ret e O:=nM.ajA h1 h2 q
theorem eR2 (q:R (.ret (.tuple [m,m'])) O) (h1:fn.results= #[.tmp t,.tmp t']:=by exact rfl) (h2:look e t=some m:=by simp only[mS,Nat.reduceBEq,cond_true,cond_false]<;>exact rfl) (h3:look e t'=some m':=by simp only[mS,Nat.reduceBEq,cond_true,cond_false]<;>exact rfl):nM tab fn R .ret e O:=nM.ajB h1 h2 h3 q
end
set_option linter.defProp false in
def dcs:=zP @decide_eq_true_eq<|zP @decide_eq_false_iff_not<|zP @beq_iff_eq.{0}<|zP @beq_eq_false_iff_ne.{0}<|zP @bne_iff_ne.{0} @bne_eq_false_iff_eq.{0}
section
variable {G H:Gh} {n:Sz} {D:List Deferred} {e:Env} {a:Act} {P:Program} {tab:cj} {O O':VH} {w:World} {m m':MV} {u v:Value} {ops:Array Oper} {Q:VQ}
def MP (P:Program) (n:Sz) (D:List Deferred) (o:Oper) (e:Env) (O:VH) (M:MV->VH->Prop):Prop:=∀G a w,WR G O w->FR G n D e a->∃m O',M m O'/\dU P o a w G m O'
theorem iU.Fg {i:Nat} {l:List Nat} {o:Oper} {M:MV->VH->Prop} (ho:ops[i]?=some o) (hg:aN ops o e=some true) (hd:bC n o.dst=true) (hy:MP P n D o e O M) (h:∀m O',M m O'->iU P n D ops l (aZ o.dst m e) O' Q):
  iU P n D ops (i::l) e O Q:=by
 intro G a w hw aW;obtain⟨m,O',hM,nx,w',H,u,hr,tQ,h1,h2,h3,_⟩:=hy G a w hw aW;simp only[wpOps,ho,bA aW hg,if_true];refine .inl ?_;unfold Oper.wp;rw[hr]
 have hk:wpOps P ops (cM G n D Q) l (a.put o.dst u) w':=by
  exact mQ (fun _ _ _=>cM.le h1) l _ _ (h m O' hM H (a.put o.dst u) w' h2 ((aW.mono h1).aZ hd h3))
 rcases tQ with rfl | ⟨rfl,rfl⟩
 ·exact hk
 ·exact hk
theorem VL.Fg {o:Oper} {L:List (Fl×Oper)} {M:MV->VH->Prop} (hg:aN ops o e=some true) (hd:bC n o.dst=true) (hy:MP P n D o e O M) (h:∀m O',M m O'->VL P n D .plain ops L (aZ o.dst m e) O' Q):
  VL P n D .plain ops ((.one,o)::L) e O Q:=by
 intro fuel listed ix hf hp
 match ix,hf with
 | (i,g)::ix,hf=>
   obtain⟨rfl,ho,hf⟩:=hf;exact iU.Fg ho hg hd hy fun m O' hM=>h m O' hM 0 #[] ix hf (fun h=>absurd rfl h)
def gj (b:UInt8):MV:=.v (.int .u8 b.toNat)
theorem Kf {α :Type} (l:Array α) (x: α) (f: α -> α):(l.push x).modify l.size f=l.push (f x):=by
 apply Array.ext_getElem?;intro i;simp only[aju,Array.getElem?_push];by_cases h:i=l.size
 ·subst h;simp
 ·rw[if_neg (Ne.symm h),if_neg h,if_neg h]
theorem Hw (w:World) (C:Array Value) (t:TypeId):(w.alloc (.cells C t)).freeze ⟨w.heap.size,C.size,none⟩ 1=w.alloc (.cells C t (C.size,C.size+1)):=by
 simp[World.freeze,World.alloc, -World.alloc_eq,Kf]
theorem Fh (l:List UInt8):aQ G (l.map gj) (l.map fun b=>Value.int .u8 b.toNat):=by
 induction l with
 | nil=>exact aQ.nil
 | cons b l ih=>exact aQ.cons (.v rfl) ih
theorem VS (ht:aO P tab) (h:WR G O w) {src dst el:TypeId} {l:List UInt8} (hs:(tab src).map cL.under=some .string) (hd:(tab dst).map cL.under=some (.slice el)) (he:(tab el).map cL.under=some (.int .u8)) (hl:l.length<=maxLen):
  ∃c,l.length<=c/\c<=maxLen/\iw P (convert src dst (.string ⟨⟨l⟩⟩)) w G (O.push (.cells (l.map gj))) (.bB O.N 0 l.length c):=by
 have cC:=Lib.run_convert_string_bytes w src dst el ⟨⟨l⟩⟩ (bL ht hs) (bL ht hd) (bL ht he);have pC:(⟨⟨l⟩⟩:ByteArray).size=l.length:=rfl;rw[pC]at cC;have iT:=grownCap_ge w l.length 0 el;have hle:=grownCap_le_maxLen w l.length 0 el hl;refine⟨grownCap w l.length 0 el,iT,hle,?_⟩
 have gq:(Lib.bytesCells w el ⟨⟨l⟩⟩).toList.take (l.map gj).length=l.map fun b=>Value.int .u8 b.toNat:=by
  simp[Lib.bytesCells]
 obtain⟨h1,h2⟩:=h.drew.Zn (cs:=l.map gj) (C:=Lib.bytesCells w el ⟨⟨l⟩⟩) ⟨el,((Lib.bytesCells w el ⟨⟨l⟩⟩).size,(Lib.bytesCells w el ⟨⟨l⟩⟩).size+1),.inr (ahJ _)⟩ (by rw[gq];exact Fh l);have hW:Lib.bytesWorld w el ⟨⟨l⟩⟩=w.drew.alloc (.cells (Lib.bytesCells w el ⟨⟨l⟩⟩) el ((Lib.bytesCells w el ⟨⟨l⟩⟩).size,(Lib.bytesCells w el ⟨⟨l⟩⟩).size+1)):=Hw w.drew _ _;rw[hW]at cC;exact⟨_,_,_,cC,h1,h2,.bB (aJ _ _ _) iT hle,fun k b hk=>j7.alloc h.drew _ k b hk⟩
theorem VL.bytes (ht:aO P tab) {d:Option Tmp} {src dst el:TypeId} {x:Operand} {ty:TypeId} {ps:String} {af:Array Edge} {g:Option (Nat×Bool)} {L:List (Fl×Oper)} {l:List UInt8}
  (hg:aN ops (.mk d (.convert src dst x) ty ps af g) e=some true) (hx:ev e x=some (.str l)) (hs:(tab src).map cL.under=some .string) (r9:(tab dst).map cL.under=some (.slice el)) (he:(tab el).map cL.under=some (.int .u8)) (hl:l.length<=maxLen) (hd:bC n d=true)
  (h:∀c,l.length<=c->c<=maxLen->VL P n D .plain ops L (aZ d (.bB O.N 0 l.length c) e) (O.push (.cells (l.map gj))) Q):
  VL P n D .plain ops ((.one,.mk d (.convert src dst x) ty ps af g)::L) e O Q:=by
 refine VL.Fg (M:=fun m O'=>∃c,l.length<=c/\c<=maxLen/\m= .bB O.N 0 l.length c/\O'=O.push (.cells (l.map gj))) hg hd (fun G a w hw hf=>?_) ?_
 ·have h1:=hf.ev hx;generalize hu:a.eval x=u at h1;cases h1;obtain⟨c,c1,c2,c3⟩:=VS (P:=P) ht hw hs r9 he hl;exact⟨_,_,⟨c,c1,c2,rfl,rfl⟩,dU.of c3 (by simp[execOp,hu])⟩
 ·rintro m O' ⟨c,c1,c2,rfl,rfl⟩;exact h c c1 c2
theorem MQ (l:List UInt8):∀s:List UInt8,(l.map fun b=>(b.toNat:Int)).foldl (fun(r:ByteArray) (n:Int)=>r.push (UInt8.ofNat n.toNat)) ⟨⟨s⟩⟩=⟨⟨s++l⟩⟩:=by
 induction l with
 | nil=>intro s;simp
 | cons b l ih=>
   intro s;rw[adW,List.foldl_cons]
   have:(⟨⟨s⟩⟩:ByteArray).push (UInt8.ofNat (b.toNat:Int).toNat)=⟨⟨s++[b]⟩⟩:=by
    simp[ByteArray.push]
   rw[this,ih,ajq];rfl
theorem Fi (a:Addr) (l:List UInt8) (c:Nat) (w:World) (h:∀j v,(l.map fun b=>Value.int .u8 b.toNat)[j]?=some v->w.cell? (a.add j)=some v):
  (Conv.bytesToString (.slice (some a) l.length c)).run P w= .ok (.string ⟨⟨l⟩⟩) w:=by
 have h1:=run_loadCells_list (P:=P) w a (l.map fun b=>Value.int .u8 b.toNat) h;rw[anf]at h1;rw[run_bytesToString (P:=P) w a l.length c (l.map fun b=>(b.toNat:Int)) (by rw[h1,List.map_map];rfl)];rw[show(ByteArray.empty:ByteArray)=⟨⟨[]⟩⟩from rfl,MQ];rfl
theorem MT {l:List UInt8} {us:List Value} (h:aQ G (l.map gj) us):us=l.map fun b=>Value.int .u8 b.toNat:=by
 induction l generalizing us with
 | nil=>exact h.iQ
 | cons b l ih=>
   obtain⟨u,Vr,rfl,h1,h2⟩:=h.eW;rw[ih h2,h1.jj];rfl
theorem VT (ht:aO P tab) (h:WR G O w) {src dst el:TypeId} {tk:Tok} {l:List UInt8} (hs:(tab src).map cL.under=some (.slice el)) (hd:(tab dst).map cL.under=some .string) (he:(tab el).map cL.under=some (.int .u8))
  (hx:VR G (.sl l.length (l.map gj) tk) u):iw P (convert src dst u) w G O (.str l):=by
 have hc:=fun a n c=>run_convert_bytes_string (P:=P) w src dst el a n c (bL ht hs) (bL ht he) (bL ht hd)
 refine⟨.string ⟨⟨l⟩⟩,w,G,?_,Gh.Le.refl G,h,.str,j7.refl _ _⟩;generalize hn:l.length=k at hx;generalize hm:l.map gj=cs at hx;cases hx with
 | slnil=>
   obtain rfl:l=[]:=Qn hn;rw[hc];rfl
 | kS=>
   obtain rfl:l=[]:=Qn hn;rw[hc];rfl
 | pr=>
   obtain rfl:l=[]:=Qn hn;rw[hc];exact Fi _ [] _ w fun j v hv=>by simp at hv
 | sl h1 h2 h3 h4 h5 h6=>
   rename_i us c b o;subst hn hm;have h7:=MT (us:=us) ⟨h1,h3⟩;rw[hc];refine Fi _ l c w fun j v hv=>?_
   rw[<-h7]at hv;rw[Addr.add_lit];exact h.eN _ _ _ (h2 j v hv)
theorem VL.ZW (ht:aO P tab) {d:Option Tmp} {src dst el:TypeId} {x:Operand} {ty:TypeId} {ps:String} {af:Array Edge} {g:Option (Nat×Bool)} {L:List (Fl×Oper)} {nn:Nat} {cs:List MV} {tk:Tok} {l:List UInt8}
  (hg:aN ops (.mk d (.convert src dst x) ty ps af g) e=some true) (hx:ev e x=some (.sl nn cs tk)) (hs:(tab src).map cL.under=some (.slice el)) (r9:(tab dst).map cL.under=some .string) (he:(tab el).map cL.under=some (.int .u8)) (hn:nn=l.length) (gq:cs=l.map gj) (hd:bC n d=true)
  (h:VL P n D .plain ops L (aZ d (.str l) e) O Q):VL P n D .plain ops ((.one,.mk d (.convert src dst x) ty ps af g)::L) e O Q:=by
 subst hn gq;refine VL.Fg (M:=fun m O'=>m= .str l/\O'=O) hg hd (fun G a w hw hf=>?_) ?_
 ·exact⟨_,_,⟨rfl,rfl⟩,dU.of (VT (P:=P) ht hw hs r9 he (hf.ev hx)) (by simp[execOp])⟩
 ·rintro m O' ⟨rfl,rfl⟩;exact h
end
section
variable {n:Sz} {D:List Deferred} {e e':Env} {P:Program} {tab:cj} {O O':VH} {m m':MV} {ops:Array Oper} {Q:VQ} {md:Md}
def cN:Op->Bool
 | .call c=>match c.callee with
   | .value _=>true
   | .builtin .append=>true
   | _=>false
 | _=>false
def Hy:Fl->Bool
 | .fk=>true
 | _=>false
def ahT (P:Program) (n:Sz) (Q:VQ) (d:Option Tmp) (O:VH) (K:Env->VH->Prop) (e:Env) (fv:Option MV) (ms:Option (List MV)):Prop:=
 ∃id fs cs l R,fv=some (.func (.func id) fs cs)/\ms=some l/\Enters P id/\bC n d=true/\VF P id (fs++l++cs) O R/\∀r O',R r O'->match r with
  | .ret m=>K (aZ d m e) O'
  | .panic m=>Q (.panic m) (k_ n e) O'
def eY (P:Program) (id:FuncId) (l:List MV) (O:VH) (M:MV->VH->Prop):Prop:=
 ∀G w vs,WR G O w->aQ G l vs->∃m O' u w' H,M m O'/\(callFunc id vs.toArray).run P w= .ok (.value u) w'/\Gh.Le G H/\WR H O' w'/\VR H m u
def iB:Md->Bool
 | .plain=>true
 | _=>false
def ahU (P:Program) (n:Sz) (md:Md) (d:Option Tmp) (O:VH) (K:Env->VH->Prop) (e:Env) (fv:Option MV) (ms:Option (List MV)):Prop:=
 ∃id l M,iB md=true/\fv=some (.func (.func id) [] [])/\ms=some l/\bC n d=true/\eY P id l O M/\∀m O',M m O'->K (aZ d m e) O'
def ah (P:Program) (n:Sz) (md:Md) (Q:VQ) (d:Option Tmp) (O:VH) (K:Env->VH->Prop) (e:Env) (fv:Option MV) (ms:Option (List MV)):Prop:=
 ahT P n Q d O K e fv ms\/ahU P n md d O K e fv ms
def vT (P:Program) (n:Sz) (D:List Deferred) (md:Md) (ops:Array Oper) (Q:VQ) (f:Fl) (o:Oper) (L:List (Fl×Oper)) (e:Env) (O:VH) (K:Env->VH->Prop):Prop:=
 match f,o.op with
 | .one,.call c=>match c.callee with
   | .value x=>ah P n md Q o.dst O K e (ev e x) (gh e c.args.toList)
   | _=>VL P n D md ops ((f,o)::L) e O Q
 | _,_=>VL P n D md ops ((f,o)::L) e O Q
theorem VL.ext {o:Oper} {c:Call} {x:Operand} {id:FuncId} {ms:List MV} {M:MV->VH->Prop} {L:List (Fl×Oper)} (hg:aN ops o e=some true) (vA:o.op= .call c) (hc:c.callee= .value x) (hf:ev e x=some (.func (.func id) [] [])) (hm:gh e c.args.toList=some ms) (hd:bC n o.dst=true)
  (hx:eY P id ms O M) (h:∀m O',M m O'->VL P n D .plain ops L (aZ o.dst m e) O' Q):VL P n D .plain ops ((.one,o)::L) e O Q:=by
 intro fuel listed ix sE hp
 match ix,sE with
 | (i,g)::ix,sE=>
   obtain⟨rfl,ho,sE⟩:=sE;intro G a w hw aW;have vB:=aW.ev hf;generalize Af:a.eval x=fv at vB;cases vB with
   | func h1 h2 h3 h4=>
     rename_i us vs;have jE:us=[]:=Qn h1;have oY:vs=[]:=Qn h3;subst jE;subst oY
     have iK:=aW.gh hm;obtain⟨m,O',u,w',H,hM,hr,g1,g2,g3⟩:=hx G w _ hw iK
     have cC:(execOp a.eval o).run P w= .ok (.value u) w':=by
      have ha: #[]++c.args.map a.eval++ #[]=(c.args.toList.map a.eval).toArray:=by apply Array.ext';simp
      simp only[execOp,vA,resolve,hc,Af,Deferred.ofValue,Sem.run_bind,Sem.run_pure,Result.andThen_ok,invoke];rw[ha];exact hr
     simp only[adW,wpOps,ho,bA aW hg,if_true];refine .inl ?_;unfold Oper.wp;rw[cC];exact mQ (fun _ _ _=>cM.le g1) (ix.map (·.1)) _ _ (h m O' hM 0 #[] ix sE (fun h=>absurd rfl h) H (a.put o.dst u) w' g2 ((aW.mono g1).aZ hd g3))
theorem vT.sound {f:Fl} {o:Oper} {L:List (Fl×Oper)} {K:Env->VH->Prop} (hK:∀e O,K e O->VL P n D md ops L e O Q) (hg:aN ops o e=some true) (h:vT P n D md ops Q f o L e O K):VL P n D md ops ((f,o)::L) e O Q:=by
 obtain⟨d,op,ty,ps,af,g⟩:=o;cases f with
 | one=>
   cases op with
   | call c=>
     obtain⟨cl,as_,ts⟩:=c;cases cl with
     | value x=>
       rcases h with h | h
       ·obtain⟨id,fs,cs,l,R,h1,h2,h3,h4,h5,h6⟩:=h;refine VL.call hg h1 h2 rfl h3 h4 h5 fun r O' hr=>?_
        have:=h6 r O' hr;cases r with
        | ret m=>exact hK _ _ this
        | panic m=>exact this
       ·obtain⟨id,l,M,hp,h1,h2,h3,h4,h5⟩:=h;cases md with
        | plain=>exact VL.ext hg rfl rfl h1 h2 h3 h4 fun m O' hM=>hK _ _ (h5 m O' hM)
        | _=>cases hp
     | _=>exact h
   | _=>exact h
 | _=>exact h
def WL (P:Program) (tab:cj) (n:Sz) (D:List Deferred) (md:Md) (ops:Array Oper) (Q:VQ):List (Fl×Oper)->Env->VH->Prop
 | [],e,O=>Q .normal e O
 | (f,o)::L,e,O=>match aN ops o e with
   | none=>False
   | some false=>(match bC n o.dst&& !Hy f with
     | true=>WL P tab n D md ops Q L (aZ o.dst cT e) O
     | false=>False)
   | some true=>(match cN o.op||Hy f with
     | true=>vT P n D md ops Q f o L e O (WL P tab n D md ops Q L)
     | false=>(match iX tab f o e O with
       | none=>VL P n D md ops ((f,o)::L) e O Q
       | some (m,O')=>(match bC n o.dst with
         | true=>WL P tab n D md ops Q L (aZ o.dst m e) O'
         | false=>False)))
theorem WL.sound (ht:aO P tab):∀{L:List (Fl×Oper)} {e:Env} {O:VH},WL P tab n D md ops Q L e O->VL P n D md ops L e O Q
 | [],e,O,h=>VL.nil h
 | (f,o)::L,e,O,h=>by
   rw[WL]at h;split at h
   ·exact h.elim
   ·rename_i hg;split at h
    ·rename_i hd;simp only[Qm,Bool.not_eq_true']at hd;exact VL.skip (by rintro rfl;exact absurd hd.2 (by decide)) hg hd.1 (WL.sound ht h)
    ·exact h.elim
   ·rename_i hg;split at h
    ·exact vT.sound (fun e O h=>WL.sound ht h) hg h
    ·split at h
     ·exact h
     ·split at h
      ·exact VL.step ht hg ‹_› ‹_› (WL.sound ht h)
      ·exact h.elim
def Fj (P:Program) (n:Sz) (tab:cj) (D:List Deferred) (A B:Env->VH->VQ->Prop) (e:Env) (O:VH) (Q:VQ):Option MV->Prop
 | some (.v (.bool true))=>A e O Q
 | some (.v (.bool false))=>B e O Q
 | _=>False
def WC (P:Program) (tab:cj) (n:Sz) (D:List Deferred):Code->Env->VH->VQ->Prop
 | .skip,e,O,Q=>Q .normal e O
 | .exit i,e,O,Q=>Q (.exit i) e O
 | .label _,e,O,Q=>Q .normal e O
 | .ret,e,O,Q=>Q .ret e O
 | .scope c,e,O,Q=>WC P tab n D c e O (tR Q)
 | .block id c,e,O,Q=>WC P tab n D c e O (iW id Q)
 | .seq a b,e,O,Q=>WC P tab n D a e O fun x e O=>match x with
   | .normal=>WC P tab n D b e O Q
   | x=>Q x e O
 | .cond c x y,e,O,Q=>Fj P n tab D (WC P tab n D x) (WC P tab n D y) e O Q (ev e c)
 | .region id ops false,e,O,Q=>WL P tab n D .plain ops Q (ops.toList.map (Fl.one, ·)) e O
 | c,e,O,Q=>VC P n D c e O Q
theorem WC.sound (ht:aO P tab):∀{c:Code} {e:Env} {O:VH} {Q:VQ},WC P tab n D c e O Q->VC P n D c e O Q:=by
 intro c;induction c with
 | skip=>intro e O Q h;exact VC.skip h
 | exit i=>intro e O Q h;exact VC.exit h
 | label l=>intro e O Q h;exact VC.label h
 | ret=>intro e O Q h;exact VC.ret h
 | scope c ih=>intro e O Q h;exact VC.scope (ih h)
 | block id c ih=>intro e O Q h;exact τ (ih h)
 | seq a b iha ihb=>
   intro e O Q h;refine VC.seq (VC.mono ?_ (iha h));intro x e O hx;cases x<;>first | exact ihb hx | exact hx
 | cond c x y ihx ihy=>
   intro e O Q h;simp only[WC]at h;unfold Fj at h;split at h
   ·rename_i he;exact VC.Kb he (ihx h)
   ·rename_i he;exact VC.ahR he (ihy h)
   ·exact h.elim
 | region id ops dr=>
   intro e O Q h;cases dr with
   | true=>exact h
   | false=>obtain⟨l⟩:=ops;exact VC.TM (WL.sound ht h)
 | loop c ih=>intro e O Q h;exact h
 | _=>intro e O Q h;exact h
def rI (K:Env->VH->Prop) (Q:VQ):VQ:=fun x e O=>match x with
 | .normal=>K e O
 | x=>Q x e O
def iZ (tab:cj) (e:Env) (O:VH):List ResultVar->Option (List MV)
 | []=>some []
 | r::rs=>(kz tab e O r).bind fun m=>(iZ tab e O rs).map (m:: ·)
def jx (R:gC->VH->Prop) (O:VH):Option (List MV)->Prop
 | none=>False
 | some [m]=>R (.ret m) O
 | some l=>R (.ret (.tuple l)) O
def C7 (tab:cj) (rs:List ResultVar) (R:gC->VH->Prop):VQ:=fun x e O=>match x with
 | .normal=>jx R O (iZ tab e O rs)
 | .ret=>jx R O (iZ tab e O rs)
 | .panic m=>R (.panic m) O
 | _=>False
theorem sG (rs:List ResultVar):iZ tab e O rs=rs.mapM (kz tab e O):=by
 induction rs with
 | nil=>rfl
 | cons r rs ih=>
   rw[iZ,ih,List.mapM_cons];simp only[Option.bind_eq_bind];cases kz tab e O r with
   | none=>rfl
   | some m=>simp only[ajt];cases List.mapM (kz tab e O) rs<;>rfl
theorem VF.ofW (ht:aO P tab) {f:FuncId} {fn:Func} {c:Code} {args:List MV} {rs:List ResultVar} {R:gC->VH->Prop} (hf:P.funcs[f]?=some fn) (hb:fn.body=some c) (hk:(⟨fn.ntmps,0⟩:Sz)=n) (hr:fn.results.toList=rs) (hn:args.length<=n.n)
  (h:WC P tab n [] c (cK 0 args) O (C7 tab rs R)):VF P f args O R:=by
 subst hk;refine VF.enter ht hf hb hn (VC.mono ?_ (WC.sound ht h));intro x e O hx
 have key:jx R O (iZ tab e O rs)->∃m,dJ tab fn e O=some m/\R (.ret m) O:=fun h=>by
  unfold dJ;rw[hr, <-sG];generalize iZ tab e O rs=z at h;unfold jx at h;split at h
  ·exact h.elim
  ·exact⟨_,rfl,h⟩
  ·rename_i l hl;refine⟨.tuple l,?_,h⟩
   match l,hl with
   | [],_=>rfl
   | [m],hl=>exact absurd rfl (hl m)
   | _::_::_,_=>rfl
 cases x<;>first | exact key hx | exact hx
theorem Δ {f:FuncId} {fn:Func} {c:Code} {args:List MV} {R:gC->VH->Prop} {Q':Prop} (k:Nat) (rs:List ResultVar) (hf:P.funcs[f]?=some fn) (q:Q') (ht:aO P tab:=by exact aa) (hb:fn.body=some c:=by exact rfl) (hk:(⟨fn.ntmps,0⟩:Sz)=⟨k,0⟩:=by exact rfl) (hr:fn.results.toList=rs:=by exact rfl) (hn:args.length<=k:=by exact Nat.le_of_ble_eq_true rfl) (h:WC P tab ⟨k,0⟩ [] c (cK 0 args) O (C7 tab rs R)=Q':=by conv=>lhs;simp only[cK,Nat.zero_add,Nat.reduceAdd]):VF P f args O R:=VF.ofW ht hf hb hk hr hn (h.mpr q)
def W3 (P:Program) (tab:cj) (n:Sz) (D:List Deferred) (md:Md) (ops:Array Oper) (Q:VQ) (L:List (Fl×Oper)) (e:Env) (O:VH):Bool->Prop
 | true=>WL P tab n D md ops Q L e O
 | false=>False
def W2 (P:Program) (tab:cj) (n:Sz) (D:List Deferred) (md:Md) (ops:Array Oper) (Q:VQ) (f:Fl) (o:Oper) (L:List (Fl×Oper)) (e:Env) (O:VH):Option (MV×VH)->Prop
 | some (m,O')=>W3 P tab n D md ops Q L (aZ o.dst m e) O' (bC n o.dst)
 | none=>VL P n D md ops ((f,o)::L) e O Q
def W1 (P:Program) (tab:cj) (n:Sz) (D:List Deferred) (md:Md) (ops:Array Oper) (Q:VQ) (f:Fl) (o:Oper) (L:List (Fl×Oper)) (e:Env) (O:VH):Bool->Option Bool->Prop
 | _,none=>False
 | true,some true=>vT P n D md ops Q f o L e O (WL P tab n D md ops Q L)
 | false,some true=>W2 P tab n D md ops Q f o L e O (iX tab f o e O)
 | _,some false=>W3 P tab n D md ops Q L (aZ o.dst cT e) O (bC n o.dst&& !Hy f)
section
variable {f:Fl} {o:Oper} {L:List (Fl×Oper)} {d:Option Tmp} {p:Op} {ty:TypeId} {ps:String} {af:Array Edge} {g:Option (Nat×Bool)} {b:Bool}
theorem ad5:WL P tab n D md ops Q [] e O=Q .normal e O:=rfl
theorem ZX:WL P tab n D md ops Q ((f,.mk d p ty ps af g)::L) e O=W1 P tab n D md ops Q f (.mk d p ty ps af g) L e O (cN p||Hy f) (aN ops (.mk d p ty ps af g) e):=by
 rw[WL];generalize aN ops (.mk d p ty ps af g) e=x;unfold W1;cases x with
 | none=>rfl
 | some b=>
   cases b with
   | false=>
     simp only;unfold W3;split<;>simp only
     all_goals (split<;>rename_i h<;>simp_all)
   | true=>
     simp only;generalize (cN p||Hy f)=y;cases y with
     | true=>rfl
     | false=>
       simp only;unfold W2;cases iX tab f (.mk d p ty ps af g) e O with
       | none=>rfl
       | some r=>unfold W3;cases bC n d<;>rfl
theorem ZY:W1 P tab n D md ops Q f o L e O true (some true)=vT P n D md ops Q f o L e O (WL P tab n D md ops Q L):=rfl
theorem ahV:W1 P tab n D md ops Q f o L e O false (some true)=W2 P tab n D md ops Q f o L e O (iX tab f o e O):=rfl
theorem ZZ:W1 P tab n D md ops Q f (.mk d p ty ps af g) L e O b (some false)=W3 P tab n D md ops Q L (aZ d cT e) O (bC n d&& !Hy f):=by cases b<;>rfl
theorem Z0:W2 P tab n D md ops Q f (.mk d p ty ps af g) L e O (some (m,O'))=W3 P tab n D md ops Q L (aZ d m e) O' (bC n d):=rfl
theorem Z1:W2 P tab n D md ops Q f o L e O none=VL P n D md ops ((f,o)::L) e O Q:=rfl
theorem Z2:W3 P tab n D md ops Q L e O true=WL P tab n D md ops Q L e O:=rfl
variable {K:Env->VH->Prop} {x:Operand} {as_:Array Operand} {ts:Array TypeId}
theorem MU:vT P n D md ops Q .one (.mk d (.call {callee:=.value x,args:=as_,argTypes:=ts}) ty ps af g) L e O K=ah P n md Q d O K e (ev e x) (gh e as_.toList):=rfl
theorem Hz:vT P n D md ops Q f (.mk d (.call {callee:=.builtin .append,args:=as_,argTypes:=ts}) ty ps af g) L e O K=VL P n D md ops ((f,.mk d (.call {callee:=.builtin .append,args:=as_,argTypes:=ts}) ty ps af g)::L) e O Q:=by cases f<;>rfl
end
section
variable {c a b:Code} {i id:Nat} {A B:Env->VH->VQ->Prop} {l:List Oper} {K:Env->VH->Prop} {R:gC->VH->Prop} {rs:List ResultVar} {r:ResultVar} {t:Nat} {m1 m2 m3:MV} {x:Operand} {y:Code}
theorem Z3:WC P tab n D .skip e O Q=Q .normal e O:=rfl
theorem Z4:WC P tab n D (.exit i) e O Q=Q (.exit i) e O:=rfl
theorem VU:WC P tab n D (.label i) e O Q=Q .normal e O:=rfl
theorem ad6:WC P tab n D .ret e O Q=Q .ret e O:=rfl
theorem VV:WC P tab n D (.scope c) e O Q=WC P tab n D c e O (tR Q):=rfl
theorem VW:WC P tab n D (.block id c) e O Q=WC P tab n D c e O (iW id Q):=rfl
def Z5 (P:Program) (tab:cj) (n:Sz) (D:List Deferred) (b:Code) (Q:VQ):Env->VH->Prop:=fun e O=>WC P tab n D b e O Q
theorem VZ:Z5 P tab n D b Q e O=WC P tab n D b e O Q:=rfl
theorem ad7:WC P tab n D (.seq a b) e O Q=WC P tab n D a e O (rI (Z5 P tab n D b Q) Q):=rfl
theorem Z6:WC P tab n D (.cond x a b) e O Q=Fj P n tab D (WC P tab n D a) (WC P tab n D b) e O Q (ev e x):=rfl
theorem QT:WC P tab n D (.region id ⟨l⟩ false) e O Q=WL P tab n D .plain ⟨l⟩ Q (l.map (Fl.one, ·)) e O:=rfl
theorem V0:WC P tab n D (.region id ops true) e O Q=VC P n D (.region id ops true) e O Q:=rfl
theorem Z7:WC P tab n D (.loop c) e O Q=VC P n D (.loop c) e O Q:=rfl
theorem Kg:rI K Q .normal e O=K e O:=rfl
theorem QU:rI K Q (.exit i) e O=Q (.exit i) e O:=rfl
theorem QV:rI K Q (.goto i) e O=Q (.goto i) e O:=rfl
theorem V1:rI K Q .ret e O=Q .ret e O:=rfl
theorem C8:rI K Q (.panic m) e O=Q (.panic m) e O:=rfl
theorem Z8:Fj P n tab D A B e O Q (some (.v (.bool true)))=A e O Q:=rfl
theorem Z9:Fj P n tab D A B e O Q (some (.v (.bool false)))=B e O Q:=rfl
theorem V2:iZ tab e O []=some []:=rfl
theorem QW:iZ tab e O (r::rs)=(kz tab e O r).bind fun m=>(iZ tab e O rs).map (m:: ·):=rfl
theorem Kh:kz tab e O (.tmp t)=look e t:=rfl
theorem HA {ty:TypeId}:kz tab e O (.cell t ty)=(look e t).bind (ft tab O ty):=rfl
theorem ad8:jx R O (some [])=R (.ret (.tuple [])) O:=rfl
theorem ad9:jx R O (some [m])=R (.ret m) O:=rfl
theorem ad_:jx R O (some [m,m1])=R (.ret (.tuple [m,m1])) O:=rfl
theorem aea:jx R O (some [m,m1,m2])=R (.ret (.tuple [m,m1,m2])) O:=rfl
theorem aeb:jx R O (some [m,m1,m2,m3])=R (.ret (.tuple [m,m1,m2,m3])) O:=rfl
theorem Ki:C7 tab rs R .normal e O=jx R O (iZ tab e O rs):=rfl
theorem V3:C7 tab rs R .ret e O=jx R O (iZ tab e O rs):=rfl
theorem MW:C7 tab rs R (.panic m) e O=R (.panic m) O:=rfl
def db (P:Program) (f:FuncId):Bool:=match P.funcs[f]? with
 | some fn=> !(fn.name== "runtime.NumGoroutine")&&fn.body.isSome
 | none=>false
theorem Enters.sH {f:FuncId} (h:db P f=true):Enters P f:=by
 unfold db at h;split at h
 ·rename_i fn hf;simp only[Qm,Bool.not_eq_true']at h;exact Enters.of hf h.1 (by cases hb:fn.body with | none=>rw[hb]at h;exact absurd h.2 (by decide) | some c=>rfl)
 ·cases h
theorem ah.rt {f:FuncId} {fs cs ms as_:List MV} {d:Option Tmp} {Φ :MV->VH->Prop} (hR:VF P f as_ O (aD Φ)) (h:∀m O', Φ m O'->K (aZ d m e) O') (hb:db P f=true:=by kernel_rfl) (ha:fs++ms++cs=as_:=by exact rfl) (hd:bC n d=true:=by exact rfl):
  ah P n md Q d O K e (some (.func (.func f) fs cs)) (some ms):=by
 subst ha
 exact .inl ⟨f,fs,cs,ms,_,rfl,rfl,Enters.sH hb,hd,hR,fun r O' hr=>by
  cases r with
  | ret m=>exact h m O' hr
  | panic m=>exact hr.elim⟩
theorem ah.p {f:FuncId} {fs cs ms as_:List MV} {d:Option Tmp} {R:gC->VH->Prop} (hR:VF P f as_ O R) (h:∀m O',R (.ret m) O'->K (aZ d m e) O') (h2:∀m O',R (.panic m) O'->Q (.panic m) (k_ n e) O') (hb:db P f=true:=by kernel_rfl) (ha:fs++ms++cs=as_:=by exact rfl) (hd:bC n d=true:=by exact rfl):
  ah P n md Q d O K e (some (.func (.func f) fs cs)) (some ms):=by
 subst ha
 exact .inl ⟨f,fs,cs,ms,R,rfl,rfl,Enters.sH hb,hd,hR,fun r O' hr=>by
  cases r with
  | ret m=>exact h m O' hr
  | panic m=>exact h2 m O' hr⟩
theorem ah.ext {f:FuncId} {ms:List MV} {d:Option Tmp} {M:MV->VH->Prop} (hx:eY P f ms O M) (hd:bC n d=true) (h:∀m O',M m O'->K (aZ d m e) O'):ah P n .plain Q d O K e (some (.func (.func f) [] [])) (some ms):=
 .inr ⟨f,ms,M,rfl,rfl,rfl,hd,hx,h⟩
theorem eY.of {f:FuncId} {fn:Func} {ex:Array Value->Sem Value} {ms:List MV} (hf:P.funcs[f]?=some fn) (ahW:(fn.name== "runtime.NumGoroutine")=false) (hb:fn.body.isNone=true) (hn:Extern.findNext fn=none) (he:Extern.find fn=some ex)
  (hr:∀G w vs,WR G O w->aQ G ms vs->∃u,(ex vs.toArray).run P w= .ok u w/\VR G m u):eY P f ms O fun m' O'=>m'=m/\O'=O:=by
 intro G w vs hw hv;obtain⟨u,h1,h2⟩:=hr G w vs hw hv;exact⟨m,O,u,w,G,⟨rfl,rfl⟩,by rw[run_callFunc_extern hf ahW hb hn he,h1];rfl,Gh.Le.refl G,hw,h2⟩
theorem WC.reads {id:Nat} {l:List Oper}
  (h:WL P tab n D .reads ⟨l⟩ Q (l.map (Fl.rd, ·)) e O) (ht:aO P tab:=by exact aa) (hm:P.follows .mixedOrders=true:=by kernel_rfl) (hs:Region.noSelect ⟨l⟩=true:=by kernel_rfl) (hp:cV .reads ⟨l⟩ l.length (Array.replicate l.length false) ((List.range' 0 l.length).map (·,Fl.rd))=true:=by kernel_rfl):VC P n D (.region id ⟨l⟩ true) e O Q:=VC.TU hm hs hp (WL.sound ht h)
theorem WC.bP (md:Md) (ix:List (Nat×Fl)) {id:Nat} {l:List Oper} {L:List (Fl×Oper)}
  (h:WL P tab n D md ⟨l⟩ Q L e O) (ht:aO P tab:=by exact aa) (hne:md≠ .plain:=by simp) (hm:P.follows .mixedOrders=true:=by kernel_rfl) (hs:Region.noSelect ⟨l⟩=true:=by kernel_rfl) (hp:cV md ⟨l⟩ l.length (Array.replicate l.length false) ix=true:=by kernel_rfl) (hL:oC l ix=some L:=by exact rfl):VC P n D (.region id ⟨l⟩ true) e O Q:=VC.TN md ix hne hm hs hp hL (WL.sound ht h)
variable {σ :Type} {ls Ks:List Nat} {ks:List MV} {ms: σ ->List MV} {I: σ ->VH->Prop} {μ : σ ->Nat} {s: σ}
theorem WC.jm (ls Ks:List Nat) (ms: σ ->List MV) (I: σ ->VH->Prop) (μ : σ ->Nat) (s0: σ) (hI:I s0 O)
  (step:∀s O,I s O->WC P tab n D c (jG ls (ms s) (jG Ks ks [])) O (az ls Ks ks ms I μ s Q)) (ht:aO P tab:=by exact aa) (h0:looks e ls=some (ms s0):=by exact rfl) (hk:looks e Ks=some ks:=by exact rfl):VC P n D (.loop c) e O Q:=
 VC.jm ls Ks ms I μ s0 h0 hk hI fun s O h=>WC.sound ht (step s O h)
end
theorem VL.app {d:Option Tmp} {x y:Operand} {t ty:TypeId} {ps:String} {af:Array Edge} {g:Option (Nat×Bool)} {L:List (Fl×Oper)} {p q:MV} (hv:iy tab O t p q=some (m,O')) (h:WL P tab n D md ops Q L (aZ d m e) O') (ht:aO P tab:=by exact aa) (hx:ev e x=some p:=by exact rfl) (hy:ev e y=some q:=by exact rfl) (hg:aN ops (.mk d (.call {callee:=.builtin .append,args:= #[x,y],argTypes:= #[t,t]}) ty ps af g) e=some true:=by exact rfl) (hd:bC n d=true:=by exact rfl):
  VL P n D md ops ((.one,.mk d (.call {callee:=.builtin .append,args:= #[x,y],argTypes:= #[t,t]}) ty ps af g)::L) e O Q:=
 VL.step ht hg (by rw[xt,dj,hx,hy];exact hv) hd (WL.sound ht h)
end
section
variable {G H:Gh} {n:Sz} {D:List Deferred} {e:Env} {a:Act} {P:Program} {tab:cj} {O O':VH} {w:World} {m m':MV} {u v:Value} {ops:Array Oper} {Q:VQ} {md:Md}
def gD (P:Program) (n:Sz) (D:List Deferred) (o:Oper) (e:Env) (O:VH) (M:MV->VH->Prop):Prop:=
 ∀G a w,WR G O w->FR G n D e a->∃m O' u w' H,M m O'/\(execOp a.eval o).run P w= .ok (.value u) w'/\Gh.Le G H/\WR H O' w'/\VR H m u
theorem aL.jH {i:Nat} {o:Oper} {M:MV->VH->Prop} {K:Env->VH->Prop} (ho:ops[i]?=some o) (hg:aN ops o e=some true) (hd:bC n o.dst=true) (hy:gD P n D o e O M) (h:∀m O',M m O'->K (aZ o.dst m e) O'):aL P n D ops i e O Q K:=by
 intro G a w hw aW;obtain⟨m,O',u,w',H,hM,hr,h1,h2,h3⟩:=hy G a w hw aW;simp only[wpOp,ho,bA aW hg,if_true];refine .inl ?_;unfold Oper.wp;rw[hr];exact⟨_,_,H,h1,h2,(aW.mono h1).aZ hd h3,h _ _ hM⟩
theorem VL.jH {o:Oper} {L:List (Fl×Oper)} {M:MV->VH->Prop} (hg:aN ops o e=some true) (hd:bC n o.dst=true) (hA:Hs o.op=true->∀brk,md= .held brk->brk≠[]) (hb:∀brk,md= .held brk->Hs o.op=false\/brk≠[]) (hy:gD P n D o e O M)
  (qs:∀brk,md= .held brk->∀i,ops[i]?=some o->brk.contains i=true) (h:∀m O',M m O'->VL P n D md ops L (aZ o.dst m e) O' Q):VL P n D md ops ((.one,o)::L) e O Q:=by
 intro fuel listed ix hf hp
 match ix,hf with
 | (i,g)::ix,hf=>
   obtain⟨rfl,ho,hf⟩:=hf;cases md with
   | plain=>exact iU.one (aL.jH ho hg hd hy fun m O' hM=>h m O' hM 0 #[] ix hf (fun h=>absurd rfl h))
   | any=>
     obtain⟨h1,h2⟩:=hp (by simp);cases fuel with
     | zero=>cases h2
     | succ fuel=>
       simp only[cV,Qm]at h2;have hr:Region.ready .any ops listed=[i]:=by simpa using h2.1
       exact cE.all hr (by simp) fun j hj=>by
        obtain rfl:j=i:=by simpa using hj
        exact aL.jH ho hg hd hy fun m O' hM=>h m O' hM fuel (listed.setIfInBounds j true) ix hf (fun _=>⟨h1,h2.2⟩)
   | reads=>
     obtain⟨h1,h2⟩:=hp (by simp);cases fuel with
     | zero=>cases h2
     | succ fuel=>
       simp only[cV,Qm]at h2;exact absurd h2.1 (by simp)
   | held brk=>
     obtain⟨h1,h2⟩:=hp (by simp);cases fuel with
     | zero=>cases h2
     | succ fuel=>
       simp only[cV,Qm]at h2;have hr:Region.ready .any ops listed=[i]:=by simpa using h2.1.1
       have yR:∀j,(listed.setIfInBounds i true).getD j true=false\/j=i->brk.contains j=true:=by
        rcases sD ho h2.1.2 with⟨h3,_⟩ | h3
        ·rw[qs brk rfl i ho]at h3;cases h3
        ·exact h3
       exact bQ.ZI hr yR (aL.jH ho hg hd hy fun m O' hM=>h m O' hM fuel (listed.setIfInBounds i true) ix hf (fun _=>⟨h1,h2.2⟩))
theorem VL.pE {o:Oper} {L:List (Fl×Oper)} {M:MV->VH->Prop} (hy:gD P n D o e O M) (h:∀m O',M m O'->VL P n D md ops L (aZ o.dst m e) O' Q) (hmd:md= .plain\/md= .any:=by exact .inl rfl) (hg:aN ops o e=some true:=by exact rfl) (hd:bC n o.dst=true:=by exact rfl):VL P n D md ops ((.one,o)::L) e O Q:=by
 rcases hmd with rfl | rfl
 ·exact VL.jH hg hd (fun _ _ h=>by cases h) (fun _ h=>by cases h) hy (fun _ h=>by cases h) h
 ·exact VL.jH hg hd (fun _ _ h=>by cases h) (fun _ h=>by cases h) hy (fun _ h=>by cases h) h
def Ax (O:VH) (sz:Nat):MV->Option (Nat×List MV)
 | .sl k ds _=>if ds.length=k*sz then some (k,ds)else none
 | .bB k o n _=>match O.hp k with
   | some (.cells cs)=>if o+n*sz<=cs.length then some (n,(cs.drop o).take (n*sz))else none
   | _=>none
 | .str l=>if sz=1 then some (l.length,l.map gj)else none
 | _=>none
def Ay:MV->TypeDesc->Prop
 | .str _,.string=>True
 | .str _,_=>False
 | _,.slice _=>True
 | _,_=>False
theorem strCells_eq (l:List UInt8):byteCells (⟨⟨l⟩⟩:ByteArray)=l.map fun b=>Value.int .u8 b.toNat:=by simp[byteCells]
theorem Az (h:WR G O w) {sz k:Nat} {ds:List MV} {tx:TypeId} {d:TypeDesc} (hs:Ax O sz m=some (k,ds)) (hx:VR G m u) (ht:P.underlying tx=some d) (hd:Ay m d) (iz:ds.all ec=true):∃us,Src P sz tx u k us w/\aQ G ds us:=by
 unfold Ax at hs;split at hs
 ·split at hs
  ·rename_i k' ll tk hl;injection hs with hs;injection hs with e1 e2;subst e1;subst e2
   have hk:∃e',P.underlying tx=some (.slice e'):=by
    cases d<;>simp only[Ay]at hd
    exact⟨_,ht⟩
   obtain⟨e',hk⟩:=hk
   have nil:∀A c,k'=0->ll=[]->VR G (.sl k' ll tk) (.slice A 0 c)->∃us,Src P sz tx (.slice A 0 c) k' us w/\aQ G ll us:=fun A c e1 e2 _=>by
    subst e1;subst e2
    refine⟨[],?_,aQ.nil⟩;cases A with
    | none=>exact Src.ofNil w hk c
    | some A=>exact Src.ofSlice w hk A 0 c [] (by simp) (fun j u hu=>by simp at hu) (fun u hu=>by cases hu)
   cases hx with
   | slnil=>exact nil _ _ rfl rfl .slnil
   | pr h1=>exact nil _ _ rfl rfl (.pr h1)
   | kS=>exact nil _ _ rfl rfl .kS
   | sl h1 h2 h3 h4 h5 h6=>
     rename_i us c b o;have hv:aQ G ll us:=⟨h1,h3⟩;exact⟨us,Src.ofSlice w hk _ k' c us (by rw[h1,hl]) (fun j u hu=>by rw[Addr.add_lit];exact h.eN _ _ _ (h2 j u hu)) (yV hv iz),hv⟩
  ·cases hs
 ·rename_i k' o n' c';split at hs
  ·rename_i cs qp;split at hs
   ·rename_i hle;injection hs with hs;injection hs with e1 e2;subst e1;subst e2
    have hk:∃e',P.underlying tx=some (.slice e'):=by
     cases d<;>simp only[Ay]at hd
     exact⟨_,ht⟩
    obtain⟨e',hk⟩:=hk;cases hx with
    | bB hp hn hm=>
      rename_i b;obtain⟨b',C,T,h1,h2,h3⟩:=h.cells k' cs qp;rw[hp]at h1;injection h1 with h1;subst h1
      have hv:=(h3.drop o).take (n'*sz);refine⟨_,Src.ofSlice w hk ⟨b,o,none⟩ n' c' _ ?_ (fun j u hu=>?_) (yV hv iz),hv⟩
      ·rw[hv.1];simp;omega
      ·rw[Addr.add_lit];rw[ahK]at hu;split at hu
       ·rw[List.getElem?_drop,ahK]at hu;split at hu
        ·simp only[World.cell?,h2,ahL,adY,if_false];simpa using hu
        ·cases hu
       ·cases hu
   ·cases hs
  ·cases hs
 ·rename_i l;split at hs
  ·rename_i pC;subst pC;injection hs with hs;injection hs with e1 e2;subst e1;subst e2
   have hk:P.underlying tx=some .string:=by
    cases d<;>simp only[Ay]at hd
    exact ht
   cases hx;refine⟨_,Src.ofString w hk ⟨⟨l⟩⟩,?_⟩;rw[strCells_eq];exact Fh l
  ·cases hs
 ·cases hs
theorem Z_ {α :Type} {s:Sem α} {x y: α} {w1 w2:World} (h1:s.run P w= .ok x w1) (h2:s.run P w= .ok y w2):w1=w2:=by
 rw[h1]at h2;injection h2
theorem QX (h:WR G O w) {k b i:Nat} {cs:List MV} (hk:O.hp k=some (.cells cs)) (hp:G.bW k=some b) (hi:i<cs.length):(w.cell? ⟨b,i,none⟩).isSome=true/\w.frozen? ⟨b,i,none⟩=false:=by
 obtain⟨b',C,T,e1,e2,e3⟩:=h.cells k cs hk;rw[hp]at e1;injection e1 with e1;subst e1
 have hlen:i<C.size:=by have:=e3.1;simp at this;omega
 constructor
 ·simp only[World.cell?,e2,ahL,adY,if_false,Array.getElem?_eq_getElem hlen,Option.isSome_some]
 ·obtain⟨t',⟨lo,hi⟩,dP⟩:=T;dsimp only at e2 dP;simp only[World.frozen?,e2,Bool.and_eq_false_imp,decide_eq_true_eq,decide_eq_false_iff_not];intro;omega
theorem MX (ht:aO P tab) (h:WR G O w) {t tx ty el:TypeId} {te:cL} {d:TypeDesc} {k o n' c j:Nat} {cs ds:List MV} (hu:(tab t).map cL.under=some (.slice el)) (he:tab el=some te) (vU:P.underlying tx=some d) (hk:O.hp k=some (.cells cs)) (hs:Ax O te.size m=some (j,ds)) (hd:Ay m d) (iz:ds.all ec=true)
  (pF:n'+j<=c) (hle:o+n'*te.size+ds.length<=cs.length) (hx:VR G (.bB k o n' c) u) (hy:VR G m v):
  ∃w' A,(Builtin.append_ #[t,tx] ty #[u,v]).run P w= .ok (.slice A (n'+j) c) w'/\WR G (O.set k (.cells (eJ cs (o+n'*te.size) ds))) w'/\VR G (.bB k o (n'+j) c) (.slice A (n'+j) c):=by
 obtain⟨ti,z,i1,i2,i3,i4,i5,i6⟩:=(ht _ te he).info;obtain⟨us,pW,hv⟩:=Az (P:=P) h hs hy vU hd iz;cases hx with
 | bB hp hn hm=>
   rename_i b;have kK:=fun(q:Nat) (hq:q<us.length)=>QX h (i:=o+n'*te.size+q) hk hp (by have:=hv.1;omega)
   rw[<-i2]at pW kK;have hr:=run_append_room_src (P:=P) w t tx ty el ti (bL ht hu) i1 b o n' c v j us pW pF (fun q hq=>(kK q hq).1) (fun q hq=>(kK q hq).2);obtain⟨w2,gu,sI⟩:=yX (P:=P) hp (o+n'*te.size) ds us 0 cs O w h hk hv iz (by omega);have iL:=run_storeCells_cells (P:=P) b (o+n'*ti.size) us 0 w (by simpa using fun q hq=>(kK q hq).1) (by simpa using fun q hq=>(kK q hq).2) pW.one;rw[i2]at iL;have:=Z_ gu iL;subst this;rw[i2]at hr;exact⟨_,_,hr,by simpa using sI,.bB hp pF hm⟩
def VH.zj (O:VH) (cs:List MV) (t:TypeId) (n:Nat):VH:=(O.push (.cells cs)).push (.shape O.N t n)
theorem AA (ht:aO P tab) (h:WR G O w) {t tx ty el:TypeId} {te:cL} {d:TypeDesc} {n' c j:Nat} {A:Option Addr} {L ds:List MV} {us:List Value} (hu:(tab t).map cL.under=some (.slice el)) (he:tab el=some te) (vU:P.underlying tx=some d) (hs:Ax O te.size m=some (j,ds)) (hd:Ay m d) (iz:ds.all ec=true)
  (hL:aQ G L us) (pH:L.length=n'*te.size) (hold:(Builtin.firstCells te.size n' (.slice A n' c)).run P w.drew= .ok us.toArray w.drew) (pF:c<n'+j) (hb:(n'+j)*te.bytes<=140737488355328) (hm:n'+j<=maxLen) (hy:VR G m v):
  ∃c' w' H zs,n'+j<=c'/\c'<=maxLen/\zs.length=(c' - (n'+j))*te.size/\(Builtin.append_ #[t,tx] ty #[.slice A n' c,v]).run P w= .ok (.slice (some ⟨w.heap.size,0,none⟩) (n'+j) c') w'/\Gh.Le G H/\WR H (O.zj (L++ds++zs) el (c'*te.size)) w'/\VR H (.bB O.N 0 (n'+j) c') (.slice (some ⟨w.heap.size,0,none⟩) (n'+j) c'):=by
 obtain⟨ti,z,i1,i2,i3,i4,i5,i6⟩:=(ht _ te he).info;obtain⟨vs,pW,hv⟩:=Az (P:=P) h hs hy vU hd iz;have iT:=grownCap_ge w (n'+j) c el;have hle:=grownCap_le_maxLen w (n'+j) c el hm;have aaa:=pW;rw[<-i2]at aaa hold;have hr:=run_append_grow_src (P:=P) w t tx ty el ti z (bL ht hu) i1 i4 A n' c us hold v j vs aaa pF (by simp only[maxLen]at hm;omega) (by rw[i3];exact growslice_fits (by omega) hb)
 have hzc:aQ G (iS te.zero ((grownCap w (n'+j) c el - (n'+j))*te.size)) (Builtin.zeroCells z.cells (grownCap w (n'+j) c el - (n'+j))).toList:=by
  rcases Nat.eq_zero_or_pos te.zero.length with hz | hz
  ·have hz0:te.size=0:=by have:=(i6 G).1;rw[Array.length_toList,i5]at this;omega
   have:z.cells.size=0:=by rw[i5,hz0]
   rw[hz0,Nat.mul_zero];refine⟨by simp[iS,Builtin.zeroCells,this],fun i c u hc=>by simp[iS]at hc⟩
  ·have hzz:=yY (i6 G) hz ((grownCap w (n'+j) c el - (n'+j))*te.size);rw[<-i5]at hzz ⊢;exact hzz
 have jV:=(hL.append hv).append hzc;obtain⟨g1,g2⟩:=h.drew.push (cs:=L++ds++iS te.zero ((grownCap w (n'+j) c el - (n'+j))*te.size)) (C:=(us++vs).toArray++Builtin.zeroCells z.cells (grownCap w (n'+j) c el - (n'+j))) el (by simpa using jV);have ib:(us++vs).length=(n'+j)*te.size:=by rw[Vq,hL.1,pH,pW.newsLen,am_]
 have pC:((us++vs).toArray++Builtin.zeroCells z.cells (grownCap w (n'+j) c el - (n'+j))).size=grownCap w (n'+j) c el*te.size:=by
  rw[Array.size_append,Mh,i5,List.size_toArray,ib, <-am_]
  congr 1;omega
 refine⟨grownCap w (n'+j) c el,_,_,iS te.zero ((grownCap w (n'+j) c el - (n'+j))*te.size),iT,hle,by simp[iS],hr,g1,g2.EJ (aJ _ _ _) ?_,.bB (aJ _ _ _) iT hle⟩
 have:(w.drew.alloc (.cells ((us++vs).toArray++Builtin.zeroCells z.cells (grownCap w (n'+j) c el - (n'+j))) el)).heap[w.drew.heap.size]?=some (.cells ((us++vs).toArray++Builtin.zeroCells z.cells (grownCap w (n'+j) c el - (n'+j))) el):=by
  rw[fE,if_pos rfl]
 show World.shape? _ w.drew.heap.size=_;simp only[World.shape?,this,pC]
structure Row (O:VH) (el:TypeId) (sz B k c:Nat) (L:List MV):Prop where
 cells:∃sp,O.hp k=some (.cells (L++sp))/\(L++sp).length=c*sz
 oV:∃j,B<=j/\j<O.N/\O.hp j=some (.shape k el (c*sz))
 lo:B<=k
 hi:k<O.N
structure bz (O:VH) (q:Option Nat) (O':VH):Prop where
 N:O.N<=O'.N
 hp:∀i,i<O.N->q≠some i->O'.hp i=O.hp i
def gid:MV->Option Nat
 | .bB k _ _ _=>some k
 | .ptr k _=>some k
 | _=>none
def GR (O:VH) (el:TypeId) (sz B:Nat) (p:MV) (n:Nat) (L:List MV):Prop:=
 (n=0/\L=[]/\(p= .sl 0 [] .nil\/p= .sl 0 [] .full))\/∃k c,p= .bB k 0 n c/\n<=c/\L.length=n*sz/\Row O el sz B k c L
section
variable {el:TypeId} {sz B B' k c q:Nat} {L:List MV} {O1:VH} {x:cg}
theorem bz.refl (O:VH) (q:Option Nat):bz O q O:=⟨ahJ _,fun _ _ _=>rfl⟩
theorem bz.ge (h:O.Ge O1) (u:bz O1 (some q) O') (hq:O.N<=q):O.Ge O':=⟨ajl h.N u.N,fun i hi=>(u.hp i (Zj hi h.N) (by intro e;injection e;omega)).trans (h.hp i hi)⟩
theorem bz.geN (h:O.Ge O1) (u:bz O1 none O'):O.Ge O':=⟨ajl h.N u.N,fun i hi=>(u.hp i (Zj hi h.N) (by simp)).trans (h.hp i hi)⟩
theorem bz.lp (h:O.Ge O'):bz O none O':=⟨h.N,fun i hi _=>h.hp i hi⟩
theorem bz.trans {o:Option Nat} (h:bz O o O1) (h2:bz O1 o O'):bz O o O':=⟨ajl h.N h2.N,fun i hi hq=>(h2.hp i (Zj hi h.N) hq).trans (h.hp i hi hq)⟩
theorem bz.any {o:Option Nat} (h:bz O none O'):bz O o O':=⟨h.N,fun i hi _=>h.hp i hi (by simp)⟩
theorem bz.set:bz O (some q) (O.set q x):=⟨ahJ _,fun i _ h=>π _ _ (fun e=>h (by rw[e]))⟩
theorem bz.push:bz O none (O.push x):=⟨Nat.le_succ _,fun i hi _=>Υ _ _ hi⟩
theorem bz.kill:bz O (some q) (O.kill q):=⟨ahJ _,fun i _ h=>VH.lh _ (fun e=>h (by rw[e]))⟩
theorem Row.qu (h:Row O el sz B k c L) (u:bz O (some q) O') (hq:q≠k) (hs:∀t n,O.hp q≠some (.shape k t n)):Row O' el sz B k c L:=by
 obtain⟨sp,h1,h2⟩:=h.cells;obtain⟨j,h3,h4,h5⟩:=h.oV;refine⟨⟨sp,(u.hp k h.hi (by simpa using hq)).trans h1,h2⟩,⟨j,h3,Zj h4 u.N,(u.hp j h4 ?_).trans h5⟩,h.lo,Zj h.hi u.N⟩;intro e;injection e with e;subst e;exact hs _ _ h5
theorem Row.zm (h:Row O el sz B k c L) (u:bz O none O'):Row O' el sz B k c L:=by
 obtain⟨sp,h1,h2⟩:=h.cells;obtain⟨j,h3,h4,h5⟩:=h.oV;exact⟨⟨sp,(u.hp k h.hi (by simp)).trans h1,h2⟩,⟨j,h3,Zj h4 u.N,(u.hp j h4 (by simp)).trans h5⟩,h.lo,Zj h.hi u.N⟩
theorem GR.zm {p:MV} {n:Nat} (h:GR O el sz B p n L) (u:bz O none O'):GR O' el sz B p n L:=by
 rcases h with h | ⟨k,c,h1,h2,h3,h4⟩
 ·exact .inl h
 ·exact .inr ⟨k,c,h1,h2,h3,h4.zm u⟩
theorem GR.qu {p:MV} {n:Nat} (h:GR O el sz B p n L) (u:bz O (some q) O') (hq:gid p≠some q) (hs:∀k t n,O.hp q≠some (.shape k t n)):GR O' el sz B p n L:=by
 rcases h with h | ⟨k,c,h1,h2,h3,h4⟩
 ·exact .inl h
 ·exact .inr ⟨k,c,h1,h2,h3,h4.qu u (fun e=>hq (by rw[h1,e];rfl)) (hs k)⟩
theorem Row.MY {L':List MV} (h:Row O el sz B k c L) {sp:List MV} (hl:(L'++sp).length=c*sz):Row (O.set k (.cells (L'++sp))) el sz B k c L':=by
 obtain⟨j,h3,h4,h5⟩:=h.oV;refine⟨⟨sp,ρ _ _ _,hl⟩,⟨j,h3,h4,?_⟩,h.lo,h.hi⟩;rw[π _ _ (fun e=>?_)]
 ·exact h5
 ·subst e;obtain⟨sp,h1,_⟩:=h.cells;rw[h1]at h5;cases h5
theorem Row.wider (h:Row O el sz B k c L) (hB:B'<=B):Row O el sz B' k c L:=by
 obtain⟨j,h3,h4,h5⟩:=h.oV;exact⟨h.cells,⟨j,ajl hB h3,h4,h5⟩,ajl hB h.lo,h.hi⟩
theorem Row.zj {cs:List MV} {t:TypeId} {sp:List MV} (hl:(L++sp).length=c*sz) (hB:B<=O.N):Row (O.zj (L++sp) el (c*sz)) el sz B O.N c L:=
 ⟨⟨sp,(Υ _ _ (by show O.N<O.N+1;omega)).trans (Ξ _ _),hl⟩,⟨O.N+1,by omega,by show O.N+1<O.N+1+1;omega,Ξ _ _⟩,hB,by show O.N<O.N+1+1;omega⟩
theorem AB (L ds sp:List MV):eJ (L++sp) L.length ds=L++ds.take sp.length++sp.drop ds.length:=by
 induction ds generalizing L sp with
 | nil=>simp[eJ]
 | cons d ds ih=>
   cases sp with
   | nil=>
     simp only[List.append_nil,ajm,ank,List.drop_nil,eJ]
     have:∀(ds:List MV) (o:Nat),L.length<=o->eJ L o ds=L:=by
      intro ds;induction ds with
      | nil=>intro o _;rfl
      | cons x xs ih=>intro o ho;rw[eJ,anb ho];exact ih (o+1) (by omega)
     rw[anb (ahJ _)];exact this ds _ (by omega)
   | cons s sp=>
     have:=ih (L++[d]) sp;simp only[eJ];rw[List.set_append_right _ _ (ahJ _),Nat.sub_self,am9];simp only[ajq,List.singleton_append,Vq,ahN,ajm]at this;rw[this];simp
end
theorem VL.grow (ht:aO P tab) {el:TypeId} {te:cL} {B n' j:Nat} {L ds:List MV} {p q:MV} {dx:TypeDesc} {d:Option Tmp} {x y:Operand} {t tx ty:TypeId} {ps:String} {af:Array Edge} {g:Option (Nat×Bool)} {LL:List (Fl×Oper)} (hmd:md= .plain\/md= .any)
  (hr:GR O el te.size B p n' L) (hs:Ax O te.size q=some (j,ds)) (iz:ds.all ec=true) (hu:(tab t).map cL.under=some (.slice el)) (he:tab el=some te) (vU:(tab tx).map cL.under=some dx) (Fk:Ay q dx) (hb:(n'+j)*te.bytes<=140737488355328) (hm:n'+j<=maxLen) (hB:B<=O.N)
  (hx:ev e x=some p) (hy:ev e y=some q) (hg:aN ops (.mk d (.call {callee:=.builtin .append,args:= #[x,y],argTypes:= #[t,tx]}) ty ps af g) e=some true) (hd:bC n d=true)
  (h:∀m O',GR O' el te.size B m (n'+j) (L++ds)->bz O (gid p) O'->(gid p=none->O.Ge O')->((∃k c,m= .bB k 0 (n'+j) c/\(gid p=some k\/(O.N<=k/\j≠0)))\/(j=0/\m=p/\O'=O))->WL P tab n D md ops Q LL (aZ d m e) O'):
  VL P n D md ops ((.one,.mk d (.call {callee:=.builtin .append,args:= #[x,y],argTypes:= #[t,tx]}) ty ps af g)::LL) e O Q:=by
 refine VL.pE (M:=fun m O'=>GR O' el te.size B m (n'+j) (L++ds)/\bz O (gid p) O'/\(gid p=none->O.Ge O')/\((∃k c,m= .bB k 0 (n'+j) c/\(gid p=some k\/(O.N<=k/\j≠0)))\/(j=0/\m=p/\O'=O))) (fun G a w hw hf=>?_) (hmd:=hmd) (hg:=hg) (hd:=hd) fun m O' ⟨h1,h2,h3,h4⟩=>WL.sound ht (h m O' h1 h2 h3 h4)
 have nN:=hf.ev hx;have xW:=hf.ev hy;have fP:=bL ht vU
 have fin:∀{m O' u w' H},(GR O' el te.size B m (n'+j) (L++ds)/\bz O (gid p) O'/\(gid p=none->O.Ge O')/\((∃k c,m= .bB k 0 (n'+j) c/\(gid p=some k\/(O.N<=k/\j≠0)))\/(j=0/\m=p/\O'=O)))->(Builtin.append_ #[t,tx] ty #[a.eval x,a.eval y]).run P w= .ok u w'->Gh.Le G H->WR H O' w'->VR H m u->
   ∃m O' u w' H,(GR O' el te.size B m (n'+j) (L++ds)/\bz O (gid p) O'/\(gid p=none->O.Ge O')/\((∃k c,m= .bB k 0 (n'+j) c/\(gid p=some k\/(O.N<=k/\j≠0)))\/(j=0/\m=p/\O'=O)))/\(execOp a.eval (.mk d (.call {callee:=.builtin .append,args:= #[x,y],argTypes:= #[t,tx]}) ty ps af g)).run P w= .ok (.value u) w'/\Gh.Le G H/\WR H O' w'/\VR H m u:=fun hM cC h1 h2 h3=>
  ⟨_,_,_,_,_,hM,by simp only[execOp,resolve,invoke,builtin,List.map_toArray,adW,am6,Sem.run_bind,Sem.run_pure,Result.andThen_ok]<;>simp[cC],h1,h2,h3⟩
 obtain⟨vs,pW,hv⟩:=Az (P:=P) hw hs xW fP Fk iz;have mR:ds.length=j*te.size:=by rw[<-hv.1];exact pW.newsLen
 rcases hr with⟨rfl,rfl,hp⟩ | ⟨k,c,rfl,AD,pH,c6⟩
 ·have hA:∃A,a.eval x= .slice A 0 0/\(∀w',(Builtin.firstCells te.size 0 (.slice A 0 0)).run P w'= .ok #[] w'):=by
   generalize a.eval x=u at nN
   have key:∀A:Option Addr,∀w',(Builtin.firstCells te.size 0 (.slice A 0 0)).run P w'= .ok #[] w':=fun A w'=>by
    cases A<;>simp[Builtin.firstCells,loadCells,loadCellsFrom]
   rcases hp with rfl | rfl
   ·cases nN with
    | slnil=>exact⟨_,rfl,key _⟩
    | sl h1 h2 h3 h4 h5 h6=>exact h6.elim
   ·cases nN with
    | sl h1 h2 h3 h4 h5 h6=>
      have h6:_=0:=h6;subst h6;exact⟨_,rfl,key _⟩
  obtain⟨A,hA,V5⟩:=hA;have aab:gid p=none:=by rcases hp with rfl | rfl<;>rfl
  by_cases hj:j=0
  ·subst hj;have r9:ds=[]:=Qn (by simpa using mR);subst r9;refine fin (m:=p) (O':=O) (u:=a.eval x) (w':=w) (H:=G) ⟨.inl ⟨rfl,rfl,hp⟩,bz.refl _ _,fun _=>VH.Ge.refl _,.inr ⟨rfl,rfl,rfl⟩⟩ ?_ (Gh.Le.refl G) hw nN;have jE:vs=[]:=by have:=hv.1;simpa using this
   subst jE;rw[hA];have fu:=bL ht hu;obtain⟨ti,z,i1,i2,_⟩:=(ht _ te he).info;rcases pW.kind with⟨e',hk⟩ | hk<;>cases A<;>simp[Builtin.append_,run_underlying fu,run_underlying hk,fF (ht _ te he),pW.len,pW.cells,storeCells]
  ·rw[hA]at fin;obtain⟨c',w',H,zs,g1,g2,g3,g4,g5,g6,g7⟩:=AA (P:=P) ht hw (n':=0) (c:=0) (A:=A) (L:=[]) (us:=[]) (ty:=ty) hu he fP hs Fk iz aQ.nil (by simp) (V5 _) (by omega) hb hm xW;refine fin ⟨.inr ⟨O.N,c',rfl,g1,by rw[Vq,mR];simp,?_⟩,?_,fun _=>?_,.inl ⟨_,_,rfl,.inr ⟨ahJ _,hj⟩⟩⟩ g4 g5 g6 g7
   ·refine Row.zj (cs:=[]) (t:=el) ?_ hB;rw[Vq,g3,Vq,mR,ajm,ajk, <-am_]
    congr 1;omega
   ·rw[aab];exact bz.push.trans bz.push
   ·exact((VH.Ge.refl O).push _).push _
 ·obtain⟨sp,gq,ia⟩:=c6.cells;generalize pI:a.eval x=u at nN;have aac:=nN;cases aac with
  | bB hp hn hmx=>
    rename_i b;rw[pI]at fin;have hmul:(n'+j)*te.size=n'*te.size+j*te.size:=am_ _ _ _;by_cases pF:n'+j<=c
    ·have hle:(n'+j)*te.size<=c*te.size:=Nat.mul_le_mul_right _ pF;obtain⟨w',A,g1,g2,g3⟩:=MX (P:=P) (ty:=ty) ht hw hu he fP gq hs Fk iz pF (by rw[ia,mR];omega) nN xW;rw[ajk, <-pH,AB]at g2
     have IL:ds.length<=sp.length:=by
      rw[Vq]at ia;omega
     rw[ajr IL]at g2;refine fin ⟨.inr ⟨k,c,rfl,pF,by rw[Vq,pH,mR,hmul],c6.MY ?_⟩,bz.set,(fun h=>by cases h),.inl ⟨_,_,rfl,.inl rfl⟩⟩ g1 (Gh.Le.refl G) g2 g3;rw[Vq,Vq,List.length_drop];rw[Vq]at ia;omega
    ·obtain⟨b',C,T,d1,d2,d3⟩:=hw.cells k _ gq;rw[hp]at d1;injection d1 with d1;subst d1
     have hL:=d3.take L.length;rw[List.take_left,List.take_take,Nat.min_eq_left (by rw[Vq];omega)]at hL
     have hold:(Builtin.firstCells te.size n' (.slice (some ⟨b,0,none⟩) n' c)).run P w.drew= .ok (C.toList.take L.length).toArray w.drew:=by
      refine run_firstCells_some (P:=P) w.drew te.size n' ⟨b,0,none⟩ n' c _ (by rw[hL.1,pH]) fun i u hu=>?_
      rw[Addr.add_lit,ajk];rw[ahK]at hu;split at hu
      ·have iM:w.drew.heap[b]?=some (.cells C T.t T.fr):=d2;simp only[World.cell?,iM,ahL,adY,if_false];simpa using hu
      ·cases hu
     obtain⟨c',w',H,zs,g1,g2,g3,g4,g5,g6,g7⟩:=AA (P:=P) (ty:=ty) ht hw (n':=n') (c:=c) (A:=some ⟨b,0,none⟩) (L:=L) hu he fP hs Fk iz hL pH hold (by omega) hb hm xW;refine fin ⟨.inr ⟨O.N,c',rfl,g1,by rw[Vq,pH,mR,hmul],?_⟩,(bz.push.trans bz.push).any,(fun h=>by cases h),.inl ⟨_,_,rfl,.inr ⟨ahJ _,by omega⟩⟩⟩ g4 g5 g6 g7;refine Row.zj (cs:=[]) (t:=el) ?_ hB;rw[Vq,g3,Vq,pH,mR, <-hmul, <-am_]
     congr 1;omega
end
section
variable {G H:Gh} {n:Sz} {D:List Deferred} {e:Env} {a:Act} {P:Program} {tab:cj} {O O':VH} {w:World} {m m':MV} {u v:Value} {ops:Array Oper} {Q:VQ} {md:Md}
def i_ (P:Program) (n:Sz) (D:List Deferred) (o:Oper) (e:Env) (m:MV):Prop:=∀G a,FR G n D e a->dT P o a G m
theorem aL.pure {i:Nat} {o:Oper} {K:Env->VH->Prop} (ho:ops[i]?=some o) (hg:aN ops o e=some true) (hd:bC n o.dst=true) (hy:i_ P n D o e m) (h:K (aZ o.dst m e) O):aL P n D ops i e O Q K:=by
 refine aL.jH (M:=fun m' O'=>m'=m/\O'=O) ho hg hd (fun G a w hw hf=>?_) (by rintro m' O' ⟨rfl,rfl⟩;exact h);obtain⟨u,hu,hr⟩:=hy G a hf;exact⟨m,O,u,w,G,⟨rfl,rfl⟩,hr w hw.ss,Gh.Le.refl G,hw,hu⟩
theorem VL.pure {f:Fl} {o:Oper} {L:List (Fl×Oper)} (MF:f≠ .fk) (hh:f= .one->iB md=true\/md= .any) (hg:aN ops o e=some true) (hd:bC n o.dst=true) (hy:i_ P n D o e m) (h:VL P n D md ops L (aZ o.dst m e) O Q):VL P n D md ops ((f,o)::L) e O Q:=by
 intro fuel listed ix hf hp
 match ix,hf with
 | (i,g)::ix,hf=>
   obtain⟨rfl,ho,hf⟩:=hf;cases md with
   | plain=>exact iU.one (aL.pure ho hg hd hy (h 0 #[] ix hf (fun h=>absurd rfl h)))
   | any=>
     obtain⟨h1,h2⟩:=hp (by simp);cases fuel with
     | zero=>cases h2
     | succ fuel=>
       simp only[cV,Qm]at h2;have hk:=h fuel (listed.setIfInBounds i true) ix hf (fun _=>⟨h1,h2.2⟩);cases g with
       | one=>
         have hr:Region.ready .any ops listed=[i]:=by simpa using h2.1
         exact cE.all hr (by simp) fun j hj=>by
          obtain rfl:j=i:=by simpa using hj
          exact aL.pure ho hg hd hy hk
       | ar=>
         simp only[Qm]at h2;intro G a w hw aW;obtain⟨u,hu,hr⟩:=hy G a aW;exact wpAnyH_take ho h1 h2.1.1 h2.1.2 (iA hd) (.inl ⟨bA aW hg,hr⟩) hw.ss (hk G _ w hw (aW.aZ hd hu))
       | rd=>exact absurd h2.1 (by simp)
       | fk=>exact absurd rfl MF
   | reads=>
     obtain⟨h1,h2⟩:=hp (by simp);cases fuel with
     | zero=>cases h2
     | succ fuel=>
       simp only[cV,Qm]at h2;have hk:=h fuel (listed.setIfInBounds i true) ix hf (fun _=>⟨h1,h2.2⟩);intro G a w hw aW;obtain⟨u,hu,cC⟩:=hy G a aW;have h3:Region.free .any ops listed i=true/\(Region.ready .any ops listed).contains i=true:=by cases g<;>simp_all
       exact wpAnyH_take ho h1 h3.1 h3.2 (iA hd) (.inl ⟨bA aW hg,fun w' Ew=>by rw[Ew];exact cC w hw.ss⟩) rfl (hk G _ w hw (aW.aZ hd hu))
   | held brk=>
     obtain⟨h1,h2⟩:=hp (by simp);cases fuel with
     | zero=>cases h2
     | succ fuel=>
       simp only[cV,Qm]at h2;have hk:=h fuel (listed.setIfInBounds i true) ix hf (fun _=>⟨h1,h2.2⟩)
       have Kj:∀G a w,WR G O w->FR G n D e a->∃u,VR G m u/\YieldsIf P ops (Sx G w) o u a:=fun G a w hw aW=>by
        obtain⟨u,hu,cC⟩:=hy G a aW;exact⟨u,hu,.inl ⟨bA aW hg,fun x hx=>cC x hx.1⟩⟩
       cases g with
       | one=>rcases hh rfl with h3 | h3<;>cases h3
       | fk=>exact absurd rfl MF
       | ar=>
         simp only[Qm]at h2;exact bQ.take ho h1 h2.1.1.1 h2.1.1.2 h2.1.2 hd Kj hk
       | rd=>
         simp only[Qm]at h2;exact bQ.take ho h1 h2.1.1.1 h2.1.1.2 h2.1.2 hd Kj hk
def Fm (P:Program) (tab:cj):Nat->TypeId->MV->MV->Option Bool
 | 0,_,_,_=>none
 | d+1,t,x,y=>match(tab t).map cL.under,x,y with
   | some .bool,.v (.bool a),.v (.bool b)=>some (a==b)
   | some (.int _),.v (.int k a),.v (.int k' b)=>if k=k' then some (a==b)else none
   | some .string,.str a,.str b=>some (a==b)
   | some (.struct fs),.agg xs,.agg ys=>if P.stoodInHeld t then none else fs.toList.foldr (fun f acc=>
     if f.name≠ "_" then match BW tab f.type xs f.offset,BW tab f.type ys f.offset with
      | some p,some q=>match Fm P tab d f.type p q,acc with
        | some b,some c=>some (b&&c)
        | _,_=>none
      | _,_=>none
     else acc) (some true)
   | _,_,_=>none
theorem MZ (ht:aO P tab):∀(d:Nat) {t:TypeId} {x y:MV} {u v:Value} {b:Bool},Fm P tab d t x y=some b->VR G x u->VR G y v->∀(k:Nat) (w:World),(Op.equalIn (d+k) t u v).run P w= .ok b w
 | 0,_,_,_,_,_,_,h,_,_,_,_=>by cases h
 | d+1,t,x,y,u,v,b,h,hx,hy,k,w=>by
   rw[show d+1+k=d+k+1 from by omega];simp only[Fm]at h;split at h
   ·rename_i hu;injection h with h;subst h
    cases hx;cases hy
    exact run_equalIn_bool w _ _ _ _ (bL ht hu)
   ·rename_i k0 k1 a k2 c hu;split at h
    ·subst k1;injection h with h;subst h
     cases hx;cases hy
     exact run_equalIn_int w _ _ _ _ _ _ (bL ht hu)
    ·cases h
   ·rename_i l r hu;injection h with h;subst h
    cases hx;rename_i e1;cases hy;rw[run_equalIn_string w _ _ _ _ (bL ht hu),toList_mk,toList_mk]
   ·rename_i fs xs ys hu;split at h
    ·cases h
    ·rename_i cX;cases hx with
     | agg a1 a2=>
       cases hy with
       | agg b1 b2=>
         rename_i us vs;have fu:=bL ht hu;have hfo:P.fieldsOf t=fs:=by simp only[Program.fieldsOf,fu]
         rw[run_equalIn_struct w _ _ _ _ (by rw[hfo];exact fu) (by simpa using cX),hfo];have hxs:aQ G xs us:=⟨a1,a2⟩;have QY:aQ G ys vs:=⟨b1,b2⟩;generalize fs.toList=l at h;clear hu fu hfo;induction l generalizing b with
         | nil=>
           simp only[List.foldr_nil,Option.some.injEq]at h;subst h;rfl
         | cons f l ih=>
           simp only[List.foldr_cons]at h;simp only[Op.eqFields];split at h
           ·rename_i hn;rw[if_pos hn];split at h
            ·rename_i p q hp hq;split at h
             ·rename_i b1 c1 cD eS;injection h with h;subst h
              obtain⟨r1,g1,g2⟩:=xe (P:=P) ht hp hxs;obtain⟨r2,g3,g4⟩:=xe (P:=P) ht hq QY;have hr:=MZ ht d cD g2 g4 k w;simp only[Sem.run_bind,g1 w,g3 w,hr,Result.andThen_ok];cases b1
              ·simp
              ·simpa using ih _ eS
             ·cases h
            ·cases h
           ·rename_i hn;rw[if_neg hn];exact ih _ h
   ·cases h
theorem VL.B3 (ht:aO P tab) {f:Fl} {op:BinOp} {t t' ty:TypeId} {d:Option Tmp} {x y:Operand} {ps:String} {af:Array Edge} {g:Option (Nat×Bool)} {L:List (Fl×Oper)} {xs ys:List MV} {b:Bool} {bb:Bool} (MF:f≠ .fk) (hh:f= .one->iB md=true\/md= .any)
  (vA:(op= .eql/\bb=b)\/(op= .neq/\bb= !b)) (hq:Fm P tab 9 t (.agg xs) (.agg ys)=some b) (hgt:P.eqGuardType P.depth t=false) (hx:ev e x=some (.agg xs)) (hy:ev e y=some (.agg ys)) (hg:aN ops (.mk d (.binOp op t x y t') ty ps af g) e=some true) (hd:bC n d=true)
  (h:WL P tab n D md ops Q L (aZ d (.v (.bool bb)) e) O):VL P n D md ops ((f,.mk d (.binOp op t x y t') ty ps af g)::L) e O Q:=by
 refine VL.pure MF hh hg hd (fun G a hf=>?_) (WL.sound ht h);have h1:=hf.ev hx;have h2:=hf.ev hy;have hr:=fun w=>MZ (P:=P) ht 9 hq h1 h2 9991 w
 generalize hu:a.eval x=u at h1 hr;generalize hv:a.eval y=v at h2 hr;cases h1 with
 | agg a1 a2=>
   cases h2 with
   | agg b1 b2=>
     rename_i us vs;refine dT.of (s:=do eqGuard op t x y (.agg us.toArray) (.agg vs.toArray);binOp op t (.agg us.toArray) (.agg vs.toArray)) (bh.of (u:=.bool bb) (fun w _=>?_) (.v rfl)) (by simp[execOp,hu,hv]);rw[Sem.run_bind,run_eqGuard_agg w op t x y _ _ hgt,Result.andThen_ok];rcases vA with⟨rfl,rfl⟩ | ⟨rfl,rfl⟩
     ·rw[run_eql_struct,hr w];rfl
     ·rw[run_neq_struct,hr w];rfl
theorem WR.V8 (h:WR G O w) {b:Nat} {C:Array Value} {t:TypeId} {fr fr':Nat×Nat} {w':World} (hb:w.heap[b]?=some (.cells C t fr)) (hB:G.B<=b) (nC:w'.heap[b]?=some (.cells C t fr')) (ho:∀j,j≠b->w'.heap[j]?=w.heap[j]?) (hs:w'.heap.size=w.heap.size)
  (hos:w'.os=w.os) (ahX:w'.tape=w.tape) (ajC:w'.output=w.output) (eQ:∀j,O.hp j≠none->G.bW j≠some b) (vo:∀t c x,O.hp t=some .tok->G.tok t=some (c,x)->c≠b):WR G O w':=by
 have k9:∀p,w'.cell? p=w.cell? p:=fun p=>by
  by_cases e:p.block=b
  ·simp only[World.cell?,e,hb,nC]
  ·simp only[World.cell?,ho _ e]
 refine⟨⟨hos.trans h.base.os,ahX.trans h.base.tape,ajC.trans h.base.output,by rw[hs];exact h.base.size,fun j hj=>by rw[ho j (by have:j<G.B:=hj;omega)];exact h.base.block j hj⟩,fun b' o u hc=>by rw[k9];exact h.eN b' o u hc,h.qm,fun k c hk=>?_,h.inj,fun k cs hk=>?_,fun k es ck hk=>?_,fun t ht=>?_,h.l_,
  h.pw id (fun _ _ _ _ h=>h) fun k b' s _ hs'=>?_,h.r5 id (fun _ _ h=>h) fun k x b' hk hb hx=>by rw[ho b' (fun e=>eQ k (by rw[hk];simp) (e▸hb))];exact hx,h.rz,h.BU⟩
 ·obtain⟨h1,h2,h3⟩:=h.kJ k c hk;exact⟨h1,by rw[hs];exact h2,h3⟩
 ·obtain⟨c,D,T',h1,h2,h3⟩:=h.cells k cs hk;exact⟨c,D,T',h1,by rw[ho c (fun e=>eQ k (by rw[hk];simp) (e▸h1))];exact h2,h3⟩
 ·obtain⟨c,E,h1,h2,h3⟩:=h.map k es ck hk;exact⟨c,E,h1,by rw[ho c (fun e=>eQ k (by rw[hk];simp) (e▸h1))];exact h2,h3⟩
 ·obtain⟨c,f,k,r,D,T',h1,h2,h3,h4⟩:=h.tok t ht;exact⟨c,f,k,r,D,T',h1,h2,by rw[ho c (vo t c _ ht h1)];exact h3,h4⟩
 ·by_cases e:b'=b
  ·subst e;simp only[World.shape?,hb]at hs';simp only[World.shape?,nC];exact hs'
  ·exact iR (fun x hx=>by rw[ho _ e];exact hx) hs'
def aad:Op->Bool
 | .call c=>match c.callee with
   | .builtin .unsafeString=>true
   | _=>false
 | _=>false
def xw (md:Md) (ops:Array Oper):Bool:=match md with
 | .held brk=> !brk.isEmpty&&(List.range ops.size).all fun i=> !((ops[i]?).map fun o=>aad o.op).getD false||brk.contains i
 | _=>true
theorem xx (h:xw md ops=true):∀brk,md= .held brk->brk≠[]:=by
 rintro brk rfl rfl;simp[xw]at h
theorem IN (h:xw md ops=true) {o:Oper} (ho:aad o.op=true):∀brk,md= .held brk->∀i,ops[i]?=some o->brk.contains i=true:=by
 rintro brk rfl i hi;simp only[xw,Qm]at h
 have:=ahO.1 h.2 i (anl.2 (by
  rcases am7 i ops.size with h' | h'
  ·exact h'
  ·rw[ajs h']at hi;cases hi))
 simpa[hi,ho]using this
theorem VL.ajD (ht:aO P tab) {d:Option Tmp} {x y:Operand} {pt it ty el:TypeId} {ps:String} {af:Array Edge} {g:Option (Nat×Bool)} {L:List (Fl×Oper)} {k c:Nat} {l:List UInt8} {B:Nat}
  (dP:xw md ops=true)
  (hp:(tab pt).map cL.under=some (.pointer el)) (hce:P.cellsOf el=1) (c6:Row O el 1 B k c (l.map gj)) (HB:l≠[]) (hl:l.length<=maxLen)
  (hx:ev e x=some (.ptr k 0)) (hy:ev e y=some (.v (.int .i64 l.length))) (hg:aN ops (.mk d (.call {callee:=.builtin .unsafeString,args:= #[x,y],argTypes:= #[pt,it]}) ty ps af g) e=some true) (hd:bC n d=true)
  (h:WL P tab n D md ops Q L (aZ d (.str l) e) (O.kill k)):VL P n D md ops ((.one,.mk d (.call {callee:=.builtin .unsafeString,args:= #[x,y],argTypes:= #[pt,it]}) ty ps af g)::L) e O Q:=by
 refine VL.jH (M:=fun m O'=>m= .str l/\O'=O.kill k) hg hd (fun _=>xx dP) (fun brk hb=>.inr (xx dP brk hb)) (fun G a w hw hf=>?_) (IN dP rfl) (by rintro m O' ⟨rfl,rfl⟩;exact WL.sound ht h);have nN:=hf.ev hx;have xW:=hf.ev hy;generalize pI:a.eval x=u at nN;generalize zp:a.eval y=v at xW;have xW:=xW.jj;subst xW;cases nN with
 | ptr hph=>
   rename_i b;obtain⟨sp,eS,iH⟩:=c6.cells;obtain⟨b',C,T,d1,d2,d3⟩:=hw.cells k _ eS;rw[hph]at d1;injection d1 with d1;subst d1
   obtain⟨j,_,_,hj⟩:=c6.oV;obtain⟨b2,s1,s2⟩:=hw.oV j k _ _ hj;rw[hph]at s1;injection s1 with s1;subst s1
   have hL:=d3.take l.length;have e1:(l.map gj++sp).take l.length=l.map gj:=by rw[List.take_append_of_le_length (by simp),ajr (by simp)]
   rw[e1,List.take_take,Nat.min_eq_left (by simp)]at hL;have hL2:=MT hL
   have k9:∀j x,l[j]?=some x->w.cell? ((⟨b,0,none⟩:Addr).add j)=some (.int .u8 x.toNat):=fun i x hx=>by
    rw[Addr.add_lit,ajk];simp only[World.cell?,d2,ahL,adY,if_false];have:(C.toList.take l.length)[i]?=some (Value.int .u8 x.toNat):=by rw[hL2,ajn,hx];rfl
    rw[ahK]at this;split at this
    ·simpa using this
    ·cases this
   have cC:=Lib.run_unsafeString_row (P:=P) w pt it ty el (bL ht hp) hce b _ s2 l HB (by rw[Vq,anf]at iH;omega) hl k9;have AE:l.length≠0:=by simpa using HB
   have hfz:(w.freeze ⟨b,0,none⟩ l.length).heap[b]?=some (.cells C T.t (if T.fr.1==T.fr.2 then(0,0+l.length)else(min T.fr.1 0,max T.fr.2 (0+l.length)))):=by
    simp[World.freeze,AE,aju,d2]
   have ajE:∀j,j≠b->(w.freeze ⟨b,0,none⟩ l.length).heap[j]?=w.heap[j]?:=fun j hj=>by
    simp[World.freeze,AE,aju,Ne.symm hj]
   refine⟨.str l,O.kill k,.string ⟨⟨l⟩⟩,w.freeze ⟨b,0,none⟩ l.length,G,⟨rfl,rfl⟩,?_,Gh.Le.refl G,?_,.str⟩;rotate_left
   ·refine(hw.kill k).V8 d2 (hw.kJ k b hph).1 hfz ajE (by simp[World.freeze,AE]) (by simp[World.freeze,AE]) (by simp[World.freeze,AE]) (by simp[World.freeze,AE]) (fun j hj Zq=>?_) fun t c x dh QB e=>?_
    ·by_cases e:j=k
     ·subst e;exact hj (aJ _ _ _)
     ·have QZ:O.hp j≠none:=by rwa [show(O.kill k).hp j=O.hp j from ay _ _ e]at hj
      exact e (hw.inj j k b QZ (by rw[eS];simp) Zq hph)
    ·subst e;have e:t≠k:=fun e=>by subst e;rw[show(O.kill t).hp t=none from aJ _ _ _]at dh;cases dh
     rw[show(O.kill k).hp t=O.hp t from ay _ _ e]at dh;obtain⟨_,_,_,_,_,_,q1,_,_,_,_,q7⟩:=hw.tok t dh;rw[QB]at q1;injection q1 with q1;injection q1 with q1 _;subst q1
     exact q7 k hph
   ·simp[execOp,resolve,invoke,builtin,pI,zp,cC]
theorem VL.ahY (ht:aO P tab) {d:Option Tmp} {x y:Operand} {pt it ty:TypeId} {ps:String} {af:Array Edge} {g:Option (Nat×Bool)} {L:List (Fl×Oper)}
  (dP:xw md ops=true)
  (hx:ev e x=some (.v (.pointer none))) (hy:ev e y=some (.v (.int .i64 0))) (hg:aN ops (.mk d (.call {callee:=.builtin .unsafeString,args:= #[x,y],argTypes:= #[pt,it]}) ty ps af g) e=some true) (hd:bC n d=true)
  (h:WL P tab n D md ops Q L (aZ d (.str []) e) O):VL P n D md ops ((.one,.mk d (.call {callee:=.builtin .unsafeString,args:= #[x,y],argTypes:= #[pt,it]}) ty ps af g)::L) e O Q:=by
 refine VL.jH (M:=fun m O'=>m= .str []/\O'=O) hg hd (fun _=>xx dP) (fun brk hb=>.inr (xx dP brk hb)) (fun G a w hw hf=>?_) (IN dP rfl) (by rintro m O' ⟨rfl,rfl⟩;exact WL.sound ht h);have nN:=(hf.ev hx).jj;have xW:=(hf.ev hy).jj;have cC:=Lib.run_unsafeString_none (P:=P) w pt it ty none;refine⟨_,_,_,w,G,⟨rfl,rfl⟩,?_,Gh.Le.refl G,hw,.str⟩;simp[execOp,resolve,invoke,builtin,nN,xW,cC];rfl
theorem VL.toU (ht:aO P tab) {d:Option Tmp} {x:Operand} {src dst ty el t:TypeId} {ps:String} {af:Array Edge} {g:Option (Nat×Bool)} {L:List (Fl×Oper)} {k s j:Nat} {te:cL} (hmd:md= .plain\/md= .any)
  (hs:(tab src).map cL.under=some (.pointer el)) (M0:(tab dst).map cL.under=some .unsafePointer) (he:tab el=some te) (hz:te.size≠0) (hj:O.hp j=some (.shape k t s)) (V9:0<s)
  (hx:ev e x=some (.ptr k 0)) (hg:aN ops (.mk d (.convert src dst x) ty ps af g) e=some true) (hd:bC n d=true) (h:WL P tab n D md ops Q L (aZ d (.ptr k 0) e) O):
  VL P n D md ops ((.one,.mk d (.convert src dst x) ty ps af g)::L) e O Q:=by
 refine VL.pE (M:=fun m O'=>m= .ptr k 0/\O'=O) (fun G a w hw hf=>?_) (by rintro m O' ⟨rfl,rfl⟩;exact WL.sound ht h) (hmd:=hmd) (hg:=hg) (hd:=hd);have nN:=hf.ev hx;generalize pI:a.eval x=u at nN;cases nN with
 | ptr hp=>
   rename_i b;obtain⟨ti,z,i1,i2,_⟩:=(ht _ te he).info;obtain⟨b2,s1,s2⟩:=hw.oV j k _ _ hj;rw[hp]at s1;injection s1 with s1;subst s1
   have hr:=Lib.run_to_unsafe (P:=P) w ⟨b,0,none⟩ (bL ht hs) (bL ht M0) i1 (by rw[i2];exact hz) s2 V9;exact⟨_,_,_,w,G,⟨rfl,rfl⟩,by simp[execOp,pI,hr],Gh.Le.refl G,hw,.ptr hp⟩
theorem VL.ahZ (ht:aO P tab) {d:Option Tmp} {x:Operand} {src dst ty el t:TypeId} {ps:String} {af:Array Edge} {g:Option (Nat×Bool)} {L:List (Fl×Oper)} {k s j:Nat} {te:cL} (hmd:md= .plain\/md= .any)
  (hs:(tab src).map cL.under=some .unsafePointer) (M0:(tab dst).map cL.under=some (.pointer el)) (he:tab el=some te) (hj:O.hp j=some (.shape k t s)) (hl:liesAt P P.depth t (s / P.cellsOf t) 0 el 1=true)
  (hx:ev e x=some (.ptr k 0)) (hg:aN ops (.mk d (.convert src dst x) ty ps af g) e=some true) (hd:bC n d=true) (h:WL P tab n D md ops Q L (aZ d (.ptr k 0) e) O):
  VL P n D md ops ((.one,.mk d (.convert src dst x) ty ps af g)::L) e O Q:=by
 refine VL.pE (M:=fun m O'=>m= .ptr k 0/\O'=O) (fun G a w hw hf=>?_) (by rintro m O' ⟨rfl,rfl⟩;exact WL.sound ht h) (hmd:=hmd) (hg:=hg) (hd:=hd);have nN:=hf.ev hx;generalize pI:a.eval x=u at nN;cases nN with
 | ptr hp=>
   rename_i b;obtain⟨ti,z,i1,i2,_⟩:=(ht _ te he).info;obtain⟨b2,s1,s2⟩:=hw.oV j k _ _ hj;rw[hp]at s1;injection s1 with s1;subst s1
   have hr:=Lib.run_from_unsafe (P:=P) w ⟨b,0,none⟩ (bL ht hs) (bL ht M0) i1 s2 hl;exact⟨_,_,_,w,G,⟨rfl,rfl⟩,by simp[execOp,pI,hr],Gh.Le.refl G,hw,.ptr hp⟩
end
section
variable {tab:cj} {t t' el:TypeId} {O:VH} {a b c d a' b' k o n off:Nat} {z y z':List MV} {u:TypeDesc} {cs ds:List MV} {tk:Tok} {l:List UInt8} {m q:MV} {i j:Int} {kk kk':IntKind} {x:Value}
def yu:Option cL->MV->Option MV
 | some ⟨.string,_,_,_⟩,.str l=>some (.v (.int .i64 l.length))
 | some ⟨.slice _,_,_,_⟩,.sl n _ _=>some (.v (.int .i64 n))
 | some ⟨.slice _,_,_,_⟩,.bB _ _ n _=>some (.v (.int .i64 n))
 | some ⟨.map _ _,_,_,_⟩,.v (.map none)=>some (.v (.int .i64 0))
 | some ⟨.array n _,_,_,_⟩,_=>some (.v (.int .i64 n))
 | _,_=>none
theorem vV:dy tab t m=yu (tab t) m:=by
 unfold dy yu;cases tab t with
 | none=>rfl
 | some r=>obtain⟨d,_,_,_⟩:=r;cases d<;>cases m<;>first | rfl | (rename_i v;cases v<;>first | rfl | (rename_i q;cases q<;>rfl))
theorem V_:yu (some ⟨.string,a,b,z⟩) (.str l)=some (.v (.int .i64 l.length)):=rfl
theorem aae:yu (some ⟨.slice el,a,b,z⟩) (.sl n cs tk)=some (.v (.int .i64 n)):=rfl
theorem Wa:yu (some ⟨.slice el,a,b,z⟩) (.bB k o n c)=some (.v (.int .i64 n)):=rfl
theorem Wb:yu (some ⟨.map t t',a,b,z⟩) (.v (.map none))=some (.v (.int .i64 0)):=rfl
theorem Wc:yu (some ⟨.map t t',a,b,z⟩) (.map k)=none:=rfl
theorem Wd:yu (some ⟨.array n el,a,b,z⟩) m=some (.v (.int .i64 n)):=by cases m<;>rfl
def aaf (O:VH) (s:Option (MV×VH)):Option MV->Option (MV×VH)
 | some r=>some (r,O)
 | none=>s
theorem Q0 {s:Option (MV×VH)}:aaf O s (some m)=some (m,O):=rfl
theorem Q2 {s:Option (MV×VH)}:aaf O s none=s:=rfl
theorem We {e:Env} {d:Option Tmp} {x:Operand} {ty:TypeId} {p:String} {af:Array Edge} {g:Option (Nat×Bool)}:dD tab (.mk d (.call {callee:=.builtin .len,args:= #[x],argTypes:= #[t]}) ty p af g) e O=(ev e x).bind fun q=>aaf O ((qo tab O t q).map (·,O)) (yu (tab t) q):=by
 rw[Mu];cases ev e x with
 | none=>rfl
 | some q=>
   simp only[ajt,vV];cases yu (tab t) q<;>rfl
def M3 (tab:cj) (m ix:MV):Option cL->Option MV
 | some r=>match ix,r.under,m with
   | .v (.int _ i),.slice el,.sl n cells _=>match tab el with
     | some te=>if 0<=i/\i<(n:Int)then some (.dE cells (i.toNat*te.size))else none
     | none=>none
   | .v (.int _ i),.slice el,.bB k o n _=>match tab el with
     | some te=>if 0<=i/\i<(n:Int)then some (.ptr k (o+i.toNat*te.size))else none
     | none=>none
   | .v (.int _ i),.array len el,x=>match tab el with
     | some te=>if 0<=i/\i<(len:Int)then vq (i.toNat*te.size) x else none
     | none=>none
   | _,_,_=>none
 | none=>none
theorem agl:m9 tab t m q=M3 tab m q (tab t):=by
 unfold m9 M3;cases h:tab t with
 | none=>cases q<;>first | rfl | (rename_i v;cases v<;>rfl)
 | some r=>
   obtain⟨d,_,_,_⟩:=r;cases q<;>first | rfl | skip
   rename_i v;cases v<;>first | rfl | skip
   cases d<;>cases m<;>rfl
def ixS (i:Int) (n:Nat) (cs:List MV):Option cL->Option MV
 | some te=>if 0<=i/\i<(n:Int)then some (.dE cs (i.toNat*te.size))else none
 | none=>none
def ixR (i:Int) (n k o:Nat):Option cL->Option MV
 | some te=>if 0<=i/\i<(n:Int)then some (.ptr k (o+i.toNat*te.size))else none
 | none=>none
def ixA (i:Int) (n:Nat) (m:MV):Option cL->Option MV
 | some te=>if 0<=i/\i<(n:Int)then vq (i.toNat*te.size) m else none
 | none=>none
theorem aec:M3 tab (.sl n cs tk) (.v (.int kk i)) (some ⟨.slice el,a,b,z⟩)=ixS i n cs (tab el):=by unfold M3 ixS;rfl
theorem aag:M3 tab (.bB k o n c) (.v (.int kk i)) (some ⟨.slice el,a,b,z⟩)=ixR i n k o (tab el):=by unfold M3 ixR;rfl
theorem aah:M3 tab m (.v (.int kk i)) (some ⟨.array n el,a,b,z⟩)=ixA i n m (tab el):=by unfold M3 ixA;cases m<;>rfl
theorem aed (h0:0<=i) (h1:i<(n:Int)):ixS i n cs (some ⟨u,a,b,z⟩)=some (.dE cs (i.toNat*a)):=if_pos ⟨h0,h1⟩
theorem aee (h0:0<=i) (h1:i<(n:Int)):ixR i n k o (some ⟨u,a,b,z⟩)=some (.ptr k (o+i.toNat*a)):=if_pos ⟨h0,h1⟩
theorem aef (h0:0<=i) (h1:i<(n:Int)):ixA i n m (some ⟨u,a,b,z⟩)=vq (i.toNat*a) m:=if_pos ⟨h0,h1⟩
theorem aai:vq a (.ptr k o)=some (.ptr k (o+a)):=rfl
theorem aaj:vq a (.dE cs o)=some (.dE cs (o+a)):=rfl
def inT (l:List UInt8) (i:Int):Option cL->Option MV
 | some ⟨.string,_,_,_⟩=>if 0<=i then(l[i.toNat]?).map gj else none
 | _=>none
theorem ajF:xg tab t (.str l) (.v (.int kk i))=inT l i (tab t):=by
 unfold xg inT;cases tab t with
 | none=>rfl
 | some r=>obtain⟨d,_,_,_⟩:=r;cases d<;>rfl
theorem aeg (h:0<=i):inT l i (some ⟨.string,a,b,z⟩)=(l[i.toNat]?).map gj:=if_pos h
def ldT (off:Nat):Option cL->Option cg->Option MV
 | some r,some (.cells cs)=>nK (ef r.under) r.size cs off
 | _,_=>none
theorem ajG:ft tab O t (.ptr k off)=ldT off (tab t) (O.hp k):=by
 unfold ft ldT;simp only[cellsOf];cases tab t<;>first | rfl | (cases O.hp k<;>first | rfl | (rename_i x;cases x<;>rfl))
theorem ajH:ft tab O t (.dE cs off)=ldT off (tab t) (some (.cells cs)):=by
 unfold ft ldT cellsOf;cases tab t<;>rfl
theorem aeh:ldT off (some ⟨u,a,b,z⟩) (some (.cells cs))=nK (ef u) a cs off:=rfl
theorem aak:nK false a cs off=cs[off]?:=rfl
theorem aal (h:off+a<=cs.length):nK true a cs off=some (.agg ((cs.drop off).take a)):=by simp[nK,h]
theorem Wf:ef .bool=false:=rfl
theorem aam:ef (.int kk)=false:=rfl
theorem aan:ef .string=false:=rfl
theorem aao:ef (.pointer t)=false:=rfl
theorem aei:ef (.slice t)=false:=rfl
theorem aap:ef (.map t t')=false:=rfl
theorem aaq:ef (.array n t)=true:=rfl
theorem aej {ms:Array (String×TypeId)}:ef (.interface ms)=false:=rfl
theorem aek {ps rs:Array TypeId} {v:Bool}:ef (.func ps rs v)=false:=rfl
def B4 (O:VH) (k off:Nat) (m:MV):Option cL->Option cg->Option VH
 | some r,some (.cells cs)=>if(eg m).length=r.size/\(eg m).all ec=true/\off+r.size<=cs.length then some (O.set k (.cells (eJ cs off (eg m))))else none
 | _,_=>none
theorem ajI:xd tab O t (.ptr k off) m=B4 O k off m (tab t) (O.hp k):=by
 unfold xd B4;cases tab t with
 | none=>rfl
 | some r=>
   simp only;cases O.hp k with
   | none=>rfl
   | some x=>cases x<;>rfl
theorem qv {m:MV} (hm:eg m=[m]) (hl:ec m=true) (h:off<cs.length):B4 O k off m (some ⟨u,1,b,z⟩) (some (.cells cs))=some (O.set k (.cells (cs.set off m))):=by
 show(if(eg m).length=1/\(eg m).all ec=true/\off+1<=cs.length then some (O.set k (.cells (eJ cs off (eg m))))else none)=_;rw[if_pos ⟨by rw[hm];rfl,by rw[hm];simpa using hl,by omega⟩,hm];rfl
theorem ah0 (h:off<cs.length):B4 O k off (.v x) (some ⟨u,1,b,z⟩) (some (.cells cs))=some (O.set k (.cells (cs.set off (.v x)))):=qv rfl rfl h
theorem ah1 (h:off<cs.length):B4 O k off (.str l) (some ⟨u,1,b,z⟩) (some (.cells cs))=some (O.set k (.cells (cs.set off (.str l)))):=qv rfl rfl h
theorem ah2 (h:off<cs.length):B4 O k off (.ptr c o) (some ⟨u,1,b,z⟩) (some (.cells cs))=some (O.set k (.cells (cs.set off (.ptr c o)))):=qv rfl rfl h
theorem ah3 (h:off<cs.length):B4 O k off (.dE ds o) (some ⟨u,1,b,z⟩) (some (.cells cs))=some (O.set k (.cells (cs.set off (.dE ds o)))):=qv rfl rfl h
theorem ael (h:off<cs.length):B4 O k off (.sl n ds tk) (some ⟨u,1,b,z⟩) (some (.cells cs))=some (O.set k (.cells (cs.set off (.sl n ds tk)))):=qv rfl rfl h
theorem aar (h:off<cs.length):B4 O k off (.bB c o n d) (some ⟨u,1,b,z⟩) (some (.cells cs))=some (O.set k (.cells (cs.set off (.bB c o n d)))):=qv rfl rfl h
theorem aas (h:off<cs.length):B4 O k off (.map c) (some ⟨u,1,b,z⟩) (some (.cells cs))=some (O.set k (.cells (cs.set off (.map c)))):=qv rfl rfl h
theorem aem (h:off<cs.length):B4 O k off (.iface t m) (some ⟨u,1,b,z⟩) (some (.cells cs))=some (O.set k (.cells (cs.set off (.iface t m)))):=qv rfl rfl h
theorem aen {fn:Fn} (h:off<cs.length):B4 O k off (.func fn ds z') (some ⟨u,1,b,z⟩) (some (.cells cs))=some (O.set k (.cells (cs.set off (.func fn ds z')))):=qv rfl rfl h
theorem aat (h1:ds.length=a) (h2:ds.all ec=true) (h:off+a<=cs.length):B4 O k off (.agg ds) (some ⟨u,a,b,z⟩) (some (.cells cs))=some (O.set k (.cells (eJ cs off ds))):=if_pos ⟨h1,h2,h⟩
theorem Kk:eJ cs off []=cs:=rfl
theorem HC:eJ cs off (m::ds)=eJ (cs.set off m) (off+1) ds:=rfl
theorem aeo:ec (.v x)=true:=rfl
theorem aep:ec (.str l)=true:=rfl
theorem aeq:ec (.ptr k o)=true:=rfl
theorem aer:ec (.dE cs o)=true:=rfl
theorem aau:ec (.sl n cs tk)=true:=rfl
theorem Wg:ec (.bB k o n c)=true:=rfl
theorem Wh:ec (.map k)=true:=rfl
theorem aav:ec (.iface t m)=true:=rfl
theorem aaw {fn:Fn}:ec (.func fn cs ds)=true:=rfl
section
variable {X:cg} {k':Nat} {s:Nat}
theorem aes (h:k'=k):(O.set k X).hp k'=some X:=by subst h;exact ρ _ _ _
theorem Q3 (h:k'≠k):(O.set k X).hp k'=O.hp k':=π _ _ h
theorem aax (h:k'=O.N):(O.push X).hp k'=some X:=by subst h;exact Ξ _ _
theorem M4 (h:k'≠O.N):(O.push X).hp k'=O.hp k':=VH.o0 _ _ h
theorem M_ (h:k'≠k):(O.kill k).hp k'=O.hp k':=VH.lh _ h
theorem fp:(O.set k X).N=O.N:=rfl
theorem tT:(O.push X).N=O.N+1:=rfl
theorem Fo:(O.kill k).N=O.N:=rfl
end
theorem Na {e:Env} {d:Option Tmp} {ty:TypeId} {p:String} {af:Array Edge} {g:Option (Nat×Bool)}:dD tab (.mk d (.alloc t) ty p af g) e O=(tab t).map fun i=>(.ptr O.N 0,xp O t i.size i.zero):=rfl
def alB (O:VH) (t:TypeId) (n:Nat) (z:List MV):Bool->VH
 | true=>(O.push (.cells z)).push (.shape O.N t n)
 | false=>O.push (.cells z)
theorem Q4:xp O t n z=alB O t n z (fW z):=by unfold xp alB;cases fW z<;>rfl
theorem ah4:alB O t n z true=(O.push (.cells z)).push (.shape O.N t n):=rfl
theorem ah5:alB O t n z false=O.push (.cells z):=rfl
theorem ah6:fW [.v (.pointer none),.sl 0 [] .nil]=true:=rfl
theorem ah7:fW []=false:=rfl
theorem ah8:fW [m]=false:=by unfold fW;split<;>first | rfl | simp_all
theorem ah9 {m1 m2 m3:MV}:fW (m1::m2::m3::z)=false:=by unfold fW;split<;>first | rfl | simp_all
theorem aay:fW [.v (.int kk i),m]=false:=by unfold fW;split<;>first | rfl | simp_all
theorem Wi {b:Bool}:fW [.v (.bool b),m]=false:=by unfold fW;split<;>first | rfl | simp_all
theorem aaz:fW [.str l,m]=false:=by unfold fW;split<;>first | rfl | simp_all
theorem aet:fW [.sl n cs tk,m]=false:=by unfold fW;split<;>first | rfl | simp_all
theorem aeu:fW [m,.str l]=false:=by unfold fW;split<;>first | rfl | simp_all
theorem aev:fW [m,.v x]=false:=by unfold fW;split<;>first | rfl | simp_all
def tV (tab:cj) (x:MV) (l h:Option MV):Option cL->Option MV
 | some ⟨.string,_,_,_⟩=>match x with
   | .str s=>match dq 0 l,dq s.length h with
     | some lo,some hi=>if lo<=hi/\hi<=s.length then some (.str ((s.drop lo).take (hi - lo)))else none
     | _,_=>none
   | _=>none
 | some ⟨.slice el,_,_,_⟩=>match x with
   | .sl n cells tk=>match tab el,dq 0 l,dq n h with
     | some te,some lo,some hi=>
       if lo=0/\hi=n then some (.sl n cells tk)
       else if lo<=hi/\hi<=n/\cells.length=n*te.size then some (.sl (hi - lo) ((cells.drop (lo*te.size)).take ((hi - lo)*te.size)) (rH tk te.size (hi==n)))else none
     | _,_,_=>none
   | .bB k o n c=>match tab el,dq 0 l,dq n h with
     | some te,some lo,some hi=>if lo<=hi/\hi<=c then some (.bB k (if c=lo then o else o+lo*te.size) (hi - lo) (c - lo))else none
     | _,_,_=>none
   | _=>none
 | _=>none
theorem ajJ {l h:Option MV}:xk tab t m l h=tV tab m l h (tab t):=by
 unfold xk tV;cases tab t with
 | none=>rfl
 | some r=>obtain⟨d,_,_,_⟩:=r;cases d<;>cases m<;>rfl
theorem ah_ (h0:0<=i) (h1:i<=j) (h2:j<=(l.length:Int)):tV tab (.str l) (some (.v (.int kk i))) (some (.v (.int kk' j))) (some ⟨.string,a,b,z⟩)=some (.str ((l.drop i.toNat).take (j.toNat - i.toNat))):=by
 have e1:0<=j:=by omega
 simp only[tV,dq,if_pos h0,if_pos e1];rw[if_pos ⟨by omega,by omega⟩]
theorem aew (h0:0<=i) (h1:i<=(l.length:Int)):tV tab (.str l) (some (.v (.int kk i))) none (some ⟨.string,a,b,z⟩)=some (.str (l.drop i.toNat)):=by
 simp only[tV,dq,if_pos h0];rw[if_pos ⟨by omega,by omega⟩,ajr (by simp)]
theorem aex (h1:0<=j) (h2:j<=(l.length:Int)):tV tab (.str l) none (some (.v (.int kk j))) (some ⟨.string,a,b,z⟩)=some (.str (l.take j.toNat)):=by
 simp only[tV,dq,if_pos h1];rw[if_pos ⟨by omega,by omega⟩];simp
def DG (k o lo hi c:Nat):Option cL->Option MV
 | some te=>some (.bB k (if c=lo then o else o+lo*te.size) (hi - lo) (c - lo))
 | none=>none
theorem aia (h0:0<=i) (h1:i<=j) (h2:j<=(c:Int)):tV tab (.bB k o n c) (some (.v (.int kk i))) (some (.v (.int kk' j))) (some ⟨.slice el,a,b,z⟩)=DG k o i.toNat j.toNat c (tab el):=by
 have e1:0<=j:=by omega
 simp only[tV,dq,if_pos h0,if_pos e1,DG];cases tab el with
 | none=>rfl
 | some te=>simp only;rw[if_pos ⟨by omega,by omega⟩]
theorem aey (h0:0<=i) (h1:i<=(n:Int)) (h2:n<=c):tV tab (.bB k o n c) (some (.v (.int kk i))) none (some ⟨.slice el,a,b,z⟩)=DG k o i.toNat n c (tab el):=by
 simp only[tV,dq,if_pos h0,DG];cases tab el with
 | none=>rfl
 | some te=>simp only;rw[if_pos ⟨by omega,h2⟩]
theorem aez (h1:0<=j) (h2:j<=(c:Int)):tV tab (.bB k o n c) none (some (.v (.int kk j))) (some ⟨.slice el,a,b,z⟩)=DG k o 0 j.toNat c (tab el):=by
 simp only[tV,dq,if_pos h1,DG];cases tab el with
 | none=>rfl
 | some te=>simp only;rw[if_pos ⟨by omega,by omega⟩]
theorem aib:DG k o 0 n c (some ⟨u,a,b,z⟩)=some (.bB k o n c):=by
 simp only[DG]
 congr 2
 split<;>simp
theorem aeA {lo hi:Nat} (h:c≠lo):DG k o lo hi c (some ⟨u,a,b,z⟩)=some (.bB k (o+lo*a) (hi - lo) (c - lo)):=by
 simp only[DG,if_neg h]
theorem aeB {lo hi:Nat} (h:c=lo):DG k o lo hi c (some ⟨u,a,b,z⟩)=some (.bB k o (hi - lo) (c - lo)):=by
 simp only[DG,if_pos h]
def Kl (n lo hi:Nat) (cs:List MV) (tk:Tok):Option cL->Option MV
 | some te=>if lo=0/\hi=n then some (.sl n cs tk)
    else if lo<=hi/\hi<=n/\cs.length=n*te.size then some (.sl (hi - lo) ((cs.drop (lo*te.size)).take ((hi - lo)*te.size)) (rH tk te.size (hi==n)))else none
 | none=>none
theorem AF {l h:Option MV} {lo hi:Nat} (hl:dq 0 l=some lo) (hh:dq n h=some hi):tV tab (.sl n cs tk) l h (some ⟨.slice el,a,b,z⟩)=Kl n lo hi cs tk (tab el):=by
 show(match tab el,dq 0 l,dq n h with
   | some te,some lo,some hi=>
     if lo=0/\hi=n then some (MV.sl n cs tk)
     else if lo<=hi/\hi<=n/\cs.length=n*te.size then some (.sl (hi - lo) ((cs.drop (lo*te.size)).take ((hi - lo)*te.size)) (rH tk te.size (hi==n)))else none
   | _,_,_=>none)=_
 rw[hl,hh];cases tab el<;>rfl
theorem aic (h0:0<=i) (h1:0<=j):tV tab (.sl n cs tk) (some (.v (.int kk i))) (some (.v (.int kk' j))) (some ⟨.slice el,a,b,z⟩)=Kl n i.toNat j.toNat cs tk (tab el):=AF (if_pos h0) (if_pos h1)
theorem aeC (h0:0<=i):tV tab (.sl n cs tk) (some (.v (.int kk i))) none (some ⟨.slice el,a,b,z⟩)=Kl n i.toNat n cs tk (tab el):=AF (if_pos h0) rfl
theorem aeD (h0:0<=j):tV tab (.sl n cs tk) none (some (.v (.int kk j))) (some ⟨.slice el,a,b,z⟩)=Kl n 0 j.toNat cs tk (tab el):=AF rfl (if_pos h0)
theorem aeE:tV tab (.sl n cs tk) none none (some ⟨.slice el,a,b,z⟩)=Kl n 0 n cs tk (tab el):=AF rfl rfl
theorem Nb {lo hi:Nat} (h0:lo=0) (h1:hi=n):Kl n lo hi cs tk (some ⟨u,a,b,z⟩)=some (.sl n cs tk):=if_pos ⟨h0,h1⟩
theorem IP {lo hi:Nat} (h:lo≠0\/hi≠n) (h1:lo<=hi) (h2:hi<=n) (h3:cs.length=n*a):Kl n lo hi cs tk (some ⟨u,a,b,z⟩)=some (.sl (hi - lo) ((cs.drop (lo*a)).take ((hi - lo)*a)) (rH tk a (hi==n))):=by
 simp only[Kl];rw[if_neg (by omega),if_pos ⟨h1,h2,h3⟩]
def Km (x:MV):Option cL->Option cL->Option MV
 | some _,some ⟨.int k,_,_,_⟩=>match x with
   | .v (.int _ i)=>some (.v (.int k (k.wrap i)))
   | _=>none
 | some ⟨.string,_,_,_⟩,some ⟨.string,_,_,_⟩=>match x with
   | .str l=>some (.str l)
   | _=>none
 | _,_=>none
theorem ajK:BZ tab t t' m=Km m (tab t) (tab t'):=by
 unfold BZ Km;cases tab t with
 | none=>rfl
 | some r=>
   obtain⟨d,_,_,_⟩:=r;cases tab t' with
   | none=>cases d<;>rfl
   | some r'=>
     obtain⟨d',_,_,_⟩:=r'
     cases d'<;>first
      | (cases d<;>rfl)
      | (cases m<;>first | (cases d<;>rfl) | (rename_i v;cases v<;>cases d<;>rfl))
theorem aaA {k':IntKind} {r:cL}:Km (.v (.int kk i)) (some r) (some ⟨.int k',a,b,z⟩)=some (.v (.int k' (k'.wrap i))):=rfl
theorem aaB:Km (.str l) (some ⟨.string,a,b,z⟩) (some ⟨.string,a',b',z'⟩)=some (.str l):=rfl
theorem aeF:Km m (some ⟨.string,a,b,z⟩) (some ⟨.slice el,a',b',z'⟩)=none:=rfl
theorem aeG:Km m (some ⟨.slice el,a,b,z⟩) (some ⟨.string,a',b',z'⟩)=none:=rfl
theorem aeH:Km m (some ⟨.pointer el,a,b,z⟩) (some ⟨.unsafePointer,a',b',z'⟩)=none:=rfl
theorem aeI:Km m (some ⟨.unsafePointer,a,b,z⟩) (some ⟨.pointer el,a',b',z'⟩)=none:=rfl
def IQ:List (Nat×Operand)->List MV->List (Nat×MV)
 | (i,_)::l,m::ms=>(i,m)::IQ l ms
 | _,_=>[]
theorem Q5 (l:List (Nat×Operand)) (ms:List MV):gP l.toArray ms=IQ l ms:=by
 unfold gP;simp only;induction l generalizing ms with
 | nil=>cases ms<;>rfl
 | cons p l ih=>cases ms with
   | nil=>rfl
   | cons m ms=>obtain⟨i,x⟩:=p;simp only[adW,List.zip_cons_cons,IQ];rw[ih]
theorem Wj {ms:List MV}:IQ [] ms=[]:=by cases ms<;>rfl
theorem Q6 {x:Operand} {l:List (Nat×Operand)} {ms:List MV}:IQ ((n,x)::l) (m::ms)=(n,m)::IQ l ms:=rfl
def Fp (pl:Nat->Option (Nat×Nat)) (cs:List MV) (x:MV) (rest:List (Nat×MV)):Option (Nat×Nat)->Option (List MV)
 | none=>none
 | some (off,size)=>if(eg x).length=size/\off+size<=cs.length then mn pl (eJ cs off (eg x)) rest else none
def kU (l:List (Nat×Nat)) (i:Nat):Option (Nat×Nat):=l[i]?
theorem Wl {p:Nat×Nat} {l:List (Nat×Nat)}:kU (p::l) 0=some p:=rfl
theorem Wm {p:Nat×Nat} {l:List (Nat×Nat)}:kU (p::l) (n+1)=kU l n:=rfl
def T_ (a:Nat) (k:Nat):Option (Nat×Nat):=some (k*a,a)
theorem Q7:T_ a k=some (k*a,a):=rfl
theorem Q8 {pl:Nat->Option (Nat×Nat)}:mn pl cs []=some cs:=rfl
theorem Nc {pl:Nat->Option (Nat×Nat)} {rest:List (Nat×MV)}:mn pl cs ((n,m)::rest)=Fp pl cs m rest (pl n):=by
 rw[mn];cases h:pl n<;>rfl
theorem aeJ {pl:Nat->Option (Nat×Nat)} {rest:List (Nat×MV)} (h:(eg m).length=a/\off+a<=cs.length):Fp pl cs m rest (some (off,a))=mn pl (eJ cs off (eg m)) rest:=if_pos h
def bsT (tab:cj) (len:Nat) (parts:List (Nat×MV)):Option cL->Option MV
 | some ⟨.slice el,_,_,_⟩=>match tab el with
   | some te=>if 0<len*te.size/\len*te.size<=16777216/\0<te.zero.length/\len<=maxLen then
     (mn (fun k=>some (k*te.size,te.size)) (iS te.zero (len*te.size)) parts).map fun cs=>.sl len cs .full
     else if len=0/\parts=[]then some (.sl 0 [] .full)else none
   | none=>none
 | _=>none
theorem ajL {parts:List (Nat×MV)}:lK tab t n parts=bsT tab n parts (tab t):=by
 unfold lK bsT;cases tab t with
 | none=>rfl
 | some r=>obtain⟨d,_,_,_⟩:=r;cases d<;>rfl
def bsE (n:Nat) (parts:List (Nat×MV)):Option cL->Option MV
 | some te=>if 0<n*te.size/\n*te.size<=16777216/\0<te.zero.length/\n<=maxLen then
    (mn (fun k=>some (k*te.size,te.size)) (iS te.zero (n*te.size)) parts).map fun cs=>.sl n cs .full
   else if n=0/\parts=[]then some (.sl 0 [] .full)else none
 | none=>none
theorem aeK {parts:List (Nat×MV)}:bsT tab n parts (some ⟨.slice el,a,b,z⟩)=bsE n parts (tab el):=by unfold bsT bsE;rfl
theorem aid {r:cL}:bsE 0 [] (some r)=some (.sl 0 [] .full):=by simp[bsE]
theorem Nf (h:z.length=a) (h0:0<a):∀n,iS z (n*a)=(List.replicate n z).flatten:=by
 intro n;induction n with
 | zero=>simp[iS]
 | succ n ih=>
   rw[List.replicate_succ',List.flatten_append, <-ih];simp only[iS,Nat.succ_mul];rw[List.range_add,ajp]
   congr 1
   subst h;simp only[List.map_map,List.flatten_cons,List.flatten_nil,List.append_nil];apply List.ext_getElem?;intro i;simp only[ajn,List.getElem?_range];by_cases hi:i<z.length
   ·simp[hi,Nat.mod_eq_of_lt hi]
   ·simp[ajv (Nat.le_of_not_lt hi),hi]
def nO:Nat->List MV->List MV
 | 0,_=>[]
 | n+1,z=>z++nO n z
theorem Ng:∀n,(List.replicate n z).flatten=nO n z
 | 0=>rfl
 | n+1=>by rw[List.replicate_succ,List.flatten_cons,Ng n];rfl
theorem aeL:nO 1 z=z:=by simp[nO]
theorem aeM:nO 2 z=z++z:=by simp[nO]
theorem aeN:nO 3 z=z++(z++z):=by simp[nO]
theorem aeO:nO 4 z=z++(z++(z++z)):=by simp[nO]
theorem aeP:nO 5 z=z++(z++(z++(z++z))):=by simp[nO]
theorem aeQ:nO 6 z=z++(z++(z++(z++(z++z)))):=by simp[nO]
theorem aeR:nO 7 z=z++(z++(z++(z++(z++(z++z))))):=by simp[nO]
theorem aeS:nO 8 z=z++(z++(z++(z++(z++(z++(z++z)))))):=by simp[nO]
theorem aeT {parts:List (Nat×MV)} (h:z.length=a) (h0:0<n*a) (h1:n*a<=16777216):bsE n parts (some ⟨u,a,b,z⟩)=(mn (T_ a) (nO n z) parts).map (MV.sl n · .full):=by
 have ha:0<a:=by rcases Nat.eq_zero_or_pos a with e | e; · subst e;omega
                 ·exact e
 have hn:n<=maxLen:=by
  have:n*1<=n*a:=Nat.mul_le_mul_left _ ha;simp[maxLen];omega
 rw[<-Ng, <-Nf h ha];exact if_pos ⟨h0,h1,by show 0<z.length;omega,hn⟩
def bT (b:Bool):Option cL->Option MV
 | some ⟨.bool,_,_,_⟩=>some (.v (.bool b))
 | _=>none
theorem Wn {a b:Bool}:dw tab .eql t (.v (.bool a)) (.v (.bool b))=bT (a==b) (tab t):=by
 simp only[dw,bT];cases tab t with
 | none=>rfl
 | some r=>obtain⟨d,_,_,_⟩:=r;cases d<;>rfl
theorem Wo {a b:Bool}:dw tab .neq t (.v (.bool a)) (.v (.bool b))=bT (!(a==b)) (tab t):=by
 simp only[dw,bT];cases tab t with
 | none=>rfl
 | some r=>obtain⟨d,_,_,_⟩:=r;cases d<;>rfl
theorem aie {p:Bool}:bT p (some ⟨.bool,a,b,z⟩)=some (.v (.bool p)):=rfl
def pT (b:Bool):Option cL->Option MV
 | some ⟨.pointer _,_,_,_⟩=>some (.v (.bool b))
 | _=>none
theorem aif {p:Bool}:pT p (some ⟨.pointer el,a,b,z⟩)=some (.v (.bool p)):=rfl
theorem aeU {p:Bool}:nJ tab .eql t p=pT p (tab t):=by
 simp only[nJ,pT];cases tab t with
 | none=>rfl
 | some r=>obtain⟨d,_,_,_⟩:=r;cases d<;>rfl
theorem aeV {p:Bool}:nJ tab .neq t p=pT (!p) (tab t):=by
 simp only[nJ,pT];cases tab t with
 | none=>rfl
 | some r=>obtain⟨d,_,_,_⟩:=r;cases d<;>rfl
section
variable {op:BinOp} {la lb:List UInt8}
theorem Wp:dw tab op t (.v (.pointer none)) (.v (.pointer none))=nJ tab op t true:=by cases op<;>rfl
theorem Wq:dw tab op t (.ptr k o) (.v (.pointer none))=nJ tab op t false:=by cases op<;>rfl
theorem Wr:dw tab op t (.v (.pointer none)) (.ptr k o)=nJ tab op t false:=by cases op<;>rfl
theorem Ws:dw tab op t (.dE cs o) (.v (.pointer none))=nJ tab op t false:=by cases op<;>rfl
theorem Wt:dw tab op t (.v (.pointer none)) (.dE cs o)=nJ tab op t false:=by cases op<;>rfl
theorem Wu:dw tab op t (.agg cs) (.agg ds)=none:=by cases op<;>rfl
theorem Wv:dw tab .eql t (.str la) (.str lb)=some (.v (.bool (la==lb))):=rfl
theorem Ww:dw tab .neq t (.str la) (.str lb)=some (.v (.bool (!(la==lb)))):=rfl
theorem Wx:dw tab .lss t (.str la) (.str lb)=some (.v (.bool (Op.bytesLess la lb))):=rfl
theorem Wz:dw tab .leq t (.str la) (.str lb)=some (.v (.bool (Op.bytesLess la lb||la==lb))):=rfl
theorem WA:dw tab .gtr t (.str la) (.str lb)=some (.v (.bool (!(Op.bytesLess la lb||la==lb)))):=rfl
theorem WB:dw tab .geq t (.str la) (.str lb)=some (.v (.bool (!(Op.bytesLess la lb)))):=rfl
theorem Q9 (h:la.length+lb.length<=9223372036854775807):dw tab .add t (.str la) (.str lb)=some (.str (la++lb)):=if_pos h
end
theorem Nh (h:tab t=some ⟨.pointer el,a,b,z⟩) {s:Nat} (h':tab el=some ⟨u,s+1,b',z'⟩) {op:BinOp}:dw tab op t (.ptr k o) (.ptr k o)=nJ tab op t true:=by
 cases op<;>simp[dw,h,h',nJ]
theorem aK (b:UInt8):gj b= .v (.int .u8 b.toNat):=rfl
theorem aeW {n k:Nat}:((n:Int)+(k:Int)).toNat=n+k:=by omega
theorem aaC {n:Nat}:((n:Int)+1).toNat=n+1:=by omega
theorem aaD {n:Nat}:((n:Int)+2).toNat=n+2:=by omega
theorem aaE {n:Nat}:((n:Int) - 1).toNat=n - 1:=by omega
theorem WD {n:Nat}:((n+1:Nat):Int) - 1=n:=by omega
theorem aeX (h0:0<=i) (h1:i<=255):IntKind.u8.wrap i=i:=by
 simp only[IntKind.wrap,IntKind.signed,IntKind.bits];simp;omega
theorem aaF (h0:0<=i) (h1:i<=18446744073709551615):IntKind.u64.wrap i=i:=by
 simp only[IntKind.wrap,IntKind.signed,IntKind.bits];simp;omega
theorem aaG (h:0<=j):dw tab .shr t (.v (.int kk i)) (.v (.int kk' j))=some (.v (.int kk (i.fdiv (2 ^ (min j.toNat kk.bits))))):=by
 have:¬j<0:=by omega
 simp[dw,Ab,this]
theorem aaH:dw tab .and t (.v (.int kk i)) (.v (.int kk j))=some (.v (.int kk (kk.wrap (BitVec.ofInt kk.bits i&&& BitVec.ofInt kk.bits j).toNat))):=by simp[dw,rG]
theorem aaI (h:j≠0):dw tab .rem t (.v (.int kk i)) (.v (.int kk j))=some (.v (.int kk (i.tmod j))):=Vz h
theorem aaJ (h:j≠0):dw tab .quo t (.v (.int kk i)) (.v (.int kk j))=some (.v (.int kk (kk.wrap (i.tdiv j)))):=Vy h
end
section
variable {x y z:Operand} {t t':TypeId} {f:Nat} {q:BinOp} {r:UnOp} {as_ VP:Array Operand} {ts:Array TypeId} {l h k:Option Operand} {fn:Fn} {ps:Array (Nat×Operand)} {bb:Bool}
theorem aaK:cN (.move x)=false:=rfl
theorem Q_:cN (.assign x)=false:=rfl
theorem aaL:cN (.pick x y z)=false:=rfl
theorem Kn:cN (.nilCheck x)=false:=rfl
theorem WG:cN (.binOp q t x y t')=false:=rfl
theorem aaM:cN (.unOp r t x)=false:=rfl
theorem Ni:cN (.convert t t' x)=false:=rfl
theorem HD:cN (.fieldAddr t x f)=false:=rfl
theorem WH:cN (.field t x f)=false:=rfl
theorem HE:cN (.indexAddr t x y)=false:=rfl
theorem WI:cN (.index t x y)=false:=rfl
theorem Nj:cN (.extract x f)=false:=rfl
theorem WJ:cN (.slice t x l h k)=false:=rfl
theorem WK:cN (.build t ps)=false:=rfl
theorem Ko:cN (.makeFunc fn as_ VP)=false:=rfl
theorem AG:cN (.makeInterface t x)=false:=rfl
theorem aaN:cN (.load t x)=false:=rfl
theorem WN:cN (.store t x y)=false:=rfl
theorem aeY:cN (.box t x)=false:=rfl
theorem WO:cN (.alloc t)=false:=rfl
theorem Fq:cN (.buildSlice t f ps)=false:=rfl
theorem Nk:cN (.makeMap t l)=false:=rfl
theorem Ra:cN (.lookup t x y bb)=false:=rfl
theorem HF:cN (.mapUpdate t x y z)=false:=rfl
theorem Rb:cN (.insert t x y z)=false:=rfl
theorem HG:cN (.makeSlice t x y)=false:=rfl
theorem WQ:cN (.range t x)=false:=rfl
theorem aaO:cN (.next x bb)=false:=rfl
theorem WS:cN (.entry x)=false:=rfl
theorem Fs:cN (.typeAssert x t t' bb)=false:=rfl
theorem WT:cN (.panic x)=false:=rfl
theorem Kq:cN (.mapEntry t x y)=false:=rfl
theorem Ft:cN (.entryStore t x y z)=false:=rfl
theorem aaP:cN (.call {callee:=.builtin .len,args:=as_,argTypes:=ts})=false:=rfl
theorem aaQ:cN (.call {callee:=.builtin .max,args:=as_,argTypes:=ts})=false:=rfl
theorem aaR:cN (.call {callee:=.builtin .min,args:=as_,argTypes:=ts})=false:=rfl
theorem vW:cN (.call {callee:=.builtin .unsafeSliceData,args:=as_,argTypes:=ts})=false:=rfl
theorem AH:cN (.call {callee:=.builtin .unsafeString,args:=as_,argTypes:=ts})=false:=rfl
theorem Rc:cN (.call {callee:=.builtin .clear,args:=as_,argTypes:=ts})=false:=rfl
theorem WU:cN (.call {callee:=.builtin .copy,args:=as_,argTypes:=ts})=false:=rfl
theorem aaS:cN (.call {callee:=.builtin .cap,args:=as_,argTypes:=ts})=false:=rfl
theorem Nl:cN (.call {callee:=.builtin .delete,args:=as_,argTypes:=ts})=false:=rfl
theorem Re:cN (.call {callee:=.builtin .print,args:=as_,argTypes:=ts})=false:=rfl
theorem Kr:cN (.call {callee:=.builtin .println,args:=as_,argTypes:=ts})=false:=rfl
theorem Kt:cN (.call {callee:=.builtin .recover,args:=as_,argTypes:=ts})=false:=rfl
theorem aeZ:cN (.call {callee:=.value x,args:=as_,argTypes:=ts})=true:=rfl
theorem ae0:cN (.call {callee:=.builtin .append,args:=as_,argTypes:=ts})=true:=rfl
theorem ae1:Hy .one=false:=rfl
theorem ae2:Hy .ar=false:=rfl
theorem aih:Hy .rd=false:=rfl
theorem aii:Hy .fk=true:=rfl
end
theorem az.N {σ :Type} {l K:List Nat} {ks:List MV} {ms: σ ->List MV} {I: σ ->VH->Prop} {μ : σ ->Nat} {s: σ} {Q:VQ} {e:Env} {O:VH} (s': σ) (hI:I s' O) (hk:looks e K=some ks:=by exact rfl) (hl:looks e l=some (ms s'):=by exact rfl) (hm: μ s'< μ s:=by first | omega | (dsimp only;omega)):az l K ks ms I μ s Q .normal e O:=⟨hk,s',hl,hI,hm⟩
set_option linter.defProp false in
def ws0:=zP @aaK<|zP @Q_<|zP @aaL<|zP @Kn<|zP @WG<|zP @aaM<|zP @Ni<|zP @HD<|zP @WH<|zP @HE<|zP @WI<|zP @Nj<|zP @WJ<|zP @WK<|zP @Ko<|zP @AG<|zP @aaN<|zP @WN<|zP @aeY<|zP @WO<|zP @Fq<|zP @Nk<|zP @Ra<|zP @HF<|zP @Rb<|zP @HG<|zP @WQ<|zP @aaO<|zP @WS<|zP @Fs<|zP @WT<|zP @Kq<|zP @Ft<|zP @aaP<|zP @aaQ<|zP @aaR<|zP @vW<|zP @AH<|zP @Rc<|zP @WU<|zP @aaS<|zP @Nl<|zP @Re<|zP @Kr<|zP @Kt<|zP @aeZ<|zP @ae0<|zP @ae1<|zP @ae2<|zP @aih<|zP @aii<|zP @ad5<|zP @ZX<|zP @ZY<|zP @ahV<|zP @ZZ<|zP @Z0<|zP @Z1<|zP @Z2<|zP @MU<|zP @Hz<|zP @Z3<|zP @Z4<|zP @VU<|zP @ad6<|zP @VV<|zP @VW<|zP @VZ<|zP @ad7<|zP @Z6<|zP @QT<|zP @V0<|zP @Z7<|zP @Kg<|zP @QU<|zP @QV<|zP @V1<|zP @C8<|zP @Z8 @Z9
set_option linter.defProp false in
def ws1:=zP @V2<|zP @QW<|zP @Kh<|zP @HA<|zP @ad8<|zP @ad9<|zP @ad_<|zP @aea<|zP @aeb<|zP @Ki<|zP @V3<|zP @MW<|zP @vH<|zP @Ap<|zP @CY<|zP @yp<|zP @Av<|zP @Aw<|zP @C6<|zP @r8<|zP @vG<|zP @An<|zP @Ao<|zP @CW<|zP @r7<|zP @MN<|zP @TZ<|zP @T0<|zP @B2<|zP @zg<|zP @vP<|zP @vQ<|zP @vR<|zP @Ak<|zP @CT<|zP @vF<|zP @CU<|zP @Au<|zP @C1<|zP @vM<|zP @C3<|zP @xt<|zP @IF<|zP @MI<|zP @TC<|zP @TD<|zP @TF<|zP @TG<|zP @TI<|zP @TK<|zP @TL<|zP @IG<|zP @IH<|zP @CZ<|zP @II<|zP @yq<|zP @E5<|zP @IJ<|zP @As<|zP @vK<|zP @E8<|zP @vL<|zP @E9<|zP @At<|zP @E_<|zP @Fa<|zP @yr<|zP @qt<|zP @IK<|zP @Fb<|zP @MJ<|zP @MK<|zP @ML<|zP @C0<|zP @QR<|zP @Fc<|zP @MM<|zP @Fe<|zP @uJ @vN
set_option linter.defProp false in
def ws2:=zP @agj<|zP @agk<|zP @TO<|zP @TP<|zP @TR<|zP @TT<|zP @Al<|zP @Am<|zP @EZ<|zP @E0<|zP @ak<|zP @EY<|zP @wrap_i64<|zP @Io<|zP @CS<|zP @MO<|zP @TV<|zP @TW<|zP @yl<|zP @EP<|zP @Ip<|zP @Ai<|zP @vC<|zP @ES<|zP @vD<|zP @ET<|zP @Aj<|zP @EU<|zP @ym<|zP @EV<|zP @Mt<|zP @Iq<|zP @Ir<|zP @We<|zP @Mv<|zP @Mw<|zP @QG<|zP @Is<|zP @EX<|zP @My<|zP @Na<|zP @uI<|zP @vE<|zP @Ty<|zP @Tz<|zP @Mq<|zP @TA<|zP @Il<|zP @EN<|zP @EO<|zP @Ah<|zP @CR<|zP @Mr<|zP @mS<|zP @Ms<|zP @Im<|zP @It<|zP @Iu<|zP @Iv<|zP @Iw<|zP @Ix<|zP @Iy<|zP @Iz<|zP @IA<|zP @IB<|zP @Mz<|zP @MA<|zP @aq<|zP @bw<|zP @vS<|zP @Ff<|zP @V_<|zP @aae<|zP @Wa<|zP @Wb<|zP @Wc<|zP @Wd<|zP @Q0<|zP @Q2 @agl
set_option linter.defProp false in
def ws3:=zP @aec<|zP @aag<|zP @aah<|zP @aed<|zP @aee<|zP @aef<|zP @aai<|zP @aaj<|zP @ajF<|zP @aeg<|zP @ajG<|zP @ajH<|zP @aeh<|zP @aak<|zP @aal<|zP @Wf<|zP @aam<|zP @aan<|zP @aao<|zP @aei<|zP @aap<|zP @aaq<|zP @aej<|zP @aek<|zP @ajI<|zP @ah0<|zP @ah1<|zP @ah2<|zP @ah3<|zP @ael<|zP @aar<|zP @aas<|zP @aem<|zP @aen<|zP @aat<|zP @Kk<|zP @HC<|zP @aes<|zP @Q3<|zP @aax<|zP @M4<|zP @M_<|zP @fp<|zP @tT<|zP @Fo<|zP @Q4<|zP @ah4<|zP @ah5<|zP @ah6<|zP @ah7<|zP @ah8<|zP @ah9<|zP @aay<|zP @Wi<|zP @aaz<|zP @aet<|zP @aeu<|zP @aev<|zP @ajJ<|zP @ah_<|zP @aew<|zP @aex<|zP @aia<|zP @aey<|zP @aez<|zP @aib<|zP @aeA<|zP @aeB<|zP @aic<|zP @aeC<|zP @aeD<|zP @aeE<|zP @Nb<|zP @IP<|zP @ajK<|zP @aaA<|zP @aaB<|zP @aeF<|zP @aeG @aeH
set_option linter.defProp false in
def ws4:=zP @aeI<|zP @Q5<|zP @Wj<|zP @Q6<|zP @Q8<|zP @Nc<|zP @Wl<|zP @Wm<|zP @Q7<|zP @aeJ<|zP @ajL<|zP @aeK<|zP @aid<|zP @aeT<|zP @aeL<|zP @aeM<|zP @aeN<|zP @aeO<|zP @aeP<|zP @aeQ<|zP @aeR<|zP @aeS<|zP @Wn<|zP @Wo<|zP @aie<|zP @aif<|zP @aeU<|zP @aeV<|zP @Wp<|zP @Wq<|zP @Wr<|zP @Ws<|zP @Wt<|zP @Wu<|zP @Wv<|zP @Ww<|zP @Wx<|zP @Wz<|zP @WA<|zP @WB<|zP @Q9<|zP @aeW<|zP @aaC<|zP @aaD<|zP @aaE<|zP @WD<|zP @aeX<|zP @aaF<|zP @aaI<|zP @aaJ<|zP @aaG<|zP @aaH<|zP @ane.{0,0}<|zP @Option.bind_none.{0,0}<|zP @Int.zero_sub<|zP @Bool.not_true<|zP @Bool.not_false<|zP @Bool.or_false<|zP @Bool.or_true<|zP @Bool.true_or<|zP @ano<|zP @Bool.and_true<|zP @Bool.and_false<|zP @Bool.true_and<|zP @Bool.false_and<|zP @decide_true<|zP @decide_eq_true<|zP @decide_eq_false<|zP @ajk<|zP @Nat.mul_one<|zP @Int.toNat_natCast<|zP @Nat.add_zero<|zP @Nat.sub_zero<|zP @am9.{0}<|zP @List.set_cons_succ.{0}<|zP @List.take_succ_cons.{0}<|zP @ank.{0}<|zP @List.drop_succ_cons.{0}<|zP @List.drop_zero.{0} @ahM.{0}
set_option linter.defProp false in
def ws5:=zP @Zk.{0}<|zP @adX.{0}<|zP @ajt.{0,0}<|zP @Option.map_some.{0,0}<|zP @adW.{0,0}<|zP @am6.{0,0}<|zP @ajn.{0,0}<|zP @List.getElem_map.{0,0}<|zP @if_true.{1}<|zP @if_false.{1}<|zP @cond_true.{1}<|zP @cond_false.{1}<|zP @List.toList_toArray.{0}<|zP @al_.{0}<|zP @ang.{0}<|zP @true_and<|zP @and_true<|zP @eq_self.{1} @adY
set_option linter.defProp false in
def ws:=zP @ws0<|zP @ws1<|zP @ws2<|zP @ws3<|zP @ws4 @ws5
set_option linter.defProp false in
def ds:=zP @fp<|zP @tT<|zP @Fo<|zP @B2<|zP @zg<|zP @vP<|zP @vQ<|zP @vR<|zP @aeo<|zP @aep<|zP @aeq<|zP @aer<|zP @aau<|zP @Wg<|zP @Wh<|zP @aav<|zP @aaw<|zP @ahN.{0}<|zP @ajm.{0}<|zP @List.all_cons.{0}<|zP @List.all_nil.{0}<|zP @Bool.and_true<|zP @Bool.true_and<|zP @Bool.and_self<|zP @List.length_set.{0}<|zP @Vq.{0}<|zP @anf.{0,0}<|zP @and_true<|zP @true_and<|zP @eq_self.{1}<|zP @Option.some.injEq.{0}<|zP @cg.cells.injEq<|zP @ne_eq.{1} @not_false_eq_true
section
variable {G H:Gh} {n:Sz} {D:List Deferred} {e:Env} {a:Act} {P:Program} {tab:cj} {O O':VH} {w:World} {m m':MV} {u v:Value} {ops:Array Oper} {Q:VQ} {md:Md}
def AI (K:MV->VH->Prop):Option (MV×VH)->Prop
 | some (m,O)=>K m O
 | none=>False
theorem tW {K:MV->VH->Prop}:AI K (some (m,O))=K m O:=rfl
theorem cE.IS (i:Nat) {fuel:Nat} {listed:Array Bool} {l:List Oper} {o:Oper} (h:AI (fun m O'=>cE P n D ⟨l⟩ fuel (listed.setIfInBounds i true) (aZ o.dst m e) O' Q) (iX tab .ar o e O)) (ht:aO P tab:=by exact aa) (ho:l[i]?=some o:=by exact rfl) (hs:Region.noSelect ⟨l⟩=true:=by kernel_rfl) (hf:Region.free .any ⟨l⟩ listed i=true:=by kernel_rfl) (hr:(Region.ready .any ⟨l⟩ listed).contains i=true:=by kernel_rfl) (hg:aN ⟨l⟩ o e=some true:=by exact rfl) (hd:bC n o.dst=true:=by exact rfl):cE P n D ⟨l⟩ (fuel+1) listed e O Q:=by
 generalize hv:iX tab .ar o e O=v at h;cases v with
 | none=>exact h.elim
 | some p=>
   obtain⟨m,O'⟩:=p;obtain⟨h1,rfl⟩:=oB hv;exact cE.Tx ht (by simpa using ho) hs hf hr hg h1 hd h
theorem aL.st {i:Nat} {l:List Oper} {o:Oper} {M:MV->VH->Prop} {K:Env->VH->Prop} (hy:gD P n D o e O M) (h:∀m O',M m O'->K (aZ o.dst m e) O') (ho:l[i]?=some o:=by exact rfl) (hg:aN ⟨l⟩ o e=some true:=by exact rfl) (hd:bC n o.dst=true:=by exact rfl):aL P n D ⟨l⟩ i e O Q K:=
 aL.jH (by simpa using ho) hg hd hy h
theorem aL.o1 {i:Nat} {l:List Oper} {o:Oper} {K:Env->VH->Prop} (h:AI (fun m O'=>K (aZ o.dst m e) O') (dD tab o e O)) (ht:aO P tab:=by exact aa) (ho:l[i]?=some o:=by exact rfl) (hg:aN ⟨l⟩ o e=some true:=by exact rfl) (hd:bC n o.dst=true:=by exact rfl):aL P n D ⟨l⟩ i e O Q K:=by
 generalize hv:dD tab o e O=v at h;cases v with
 | none=>exact h.elim
 | some p=>exact aL.op ht (by simpa using ho) hg hv hd h
theorem cE.bP (ix:List (Nat×Fl)) {fuel:Nat} {listed:Array Bool} {l:List Oper} {L:List (Fl×Oper)}
  (h:WL P tab n D .any ⟨l⟩ Q L e O) (ht:aO P tab:=by exact aa) (hs:Region.noSelect ⟨l⟩=true:=by kernel_rfl) (hp:cV .any ⟨l⟩ fuel listed ix=true:=by kernel_rfl) (hL:oC l ix=some L:=by exact rfl):cE P n D ⟨l⟩ fuel listed e O Q:=(WL.sound ht h) fuel listed ix (tU hL) (fun _=>⟨hs,hp⟩)
end
section
variable {G H:Gh} {n:Sz} {D:List Deferred} {e:Env} {a:Act} {P:Program} {tab:cj} {O O' B:VH} {w:World} {m m':MV} {u v:Value} {ops:Array Oper} {Q:VQ} {md:Md} {c d:Code} {σ :Type}
def aA {σ :Type} (l:List Nat) (ms: σ ->List MV) (I: σ ->VH->Prop) (Q:VQ):VQ:=fun x e O=>match x with
 | .normal=>∃s,looks e l=some (ms s)/\I s O
 | x=>Q x e O
theorem Nn {l:List Nat} {ms: σ ->List MV} {I: σ ->VH->Prop} {i:Nat}:aA l ms I Q (.exit i) e O=Q (.exit i) e O:=rfl
theorem No {l:List Nat} {ms: σ ->List MV} {I: σ ->VH->Prop} {i:Nat}:aA l ms I Q (.goto i) e O=Q (.goto i) e O:=rfl
theorem Rf {l:List Nat} {ms: σ ->List MV} {I: σ ->VH->Prop}:aA l ms I Q .ret e O=Q .ret e O:=rfl
theorem Ku {l:List Nat} {ms: σ ->List MV} {I: σ ->VH->Prop}:aA l ms I Q (.panic m) e O=Q (.panic m) e O:=rfl
theorem aA.mk {l:List Nat} {ms: σ ->List MV} {I: σ ->VH->Prop} (s: σ) (h2:I s O) (h1:looks e l=some (ms s):=by exact rfl):aA l ms I Q .normal e O:=⟨s,h1,h2⟩
theorem VC.join (ht:aO P tab) (l:List Nat) (ms: σ ->List MV) (I: σ ->VH->Prop) (h1:VC P n D c e O (aA l ms I Q)) (h2:∀s O,I s O->WC P tab n D d (jG l (ms s) []) O Q):VC P n D (.seq c d) e O Q:=by
 refine VC.seq (VC.mono ?_ h1);intro x e O h;cases x with
 | normal=>
   obtain⟨s,h3,h4⟩:=h;exact VC.env (WC.sound ht (h2 s O h4)) (iY (e0:=[]) (fun t x h=>by simp[look]at h) h3)
 | _=>exact h
def Kv (P:Program) (n:Sz) (D:List Deferred) (b:Code) (Q:VQ):Env->VH->Prop:=fun e O=>VC P n D b e O Q
theorem WV {b:Code}:Kv P n D b Q e O=VC P n D b e O Q:=rfl
theorem VC.ag (ht:aO P tab) (h:WC P tab n D c e O (rI (Kv P n D d Q) Q)):VC P n D (.seq c d) e O Q:=by
 refine VC.seq (VC.mono ?_ (WC.sound ht h));intro x e O h;cases x<;>exact h
theorem χ (h:VC P n D c e O (rI (Kv P n D d Q) Q)):VC P n D (.seq c d) e O Q:=by
 refine VC.seq (VC.mono ?_ h);intro x e O h;cases x<;>exact h
theorem VF.HH (ht:aO P tab) {f:FuncId} {fn:Func} {c:Code} {args:List MV} {rs:List ResultVar} {R:gC->VH->Prop} (hf:P.funcs[f]?=some fn) (hb:fn.body=some c) (hk:(⟨fn.ntmps,0⟩:Sz)=n) (hr:fn.results.toList=rs) (hn:args.length<=n.n)
  (h:VC P n [] c (cK 0 args) O (C7 tab rs R)):VF P f args O R:=by
 subst hk;refine VF.enter ht hf hb hn (VC.mono ?_ h);intro x e O hx
 have key:jx R O (iZ tab e O rs)->∃m,dJ tab fn e O=some m/\R (.ret m) O:=fun h=>by
  unfold dJ;rw[hr, <-sG];generalize iZ tab e O rs=z at h;unfold jx at h;split at h
  ·exact h.elim
  ·exact⟨_,rfl,h⟩
  ·rename_i l hl;refine⟨.tuple l,?_,h⟩
   match l,hl with
   | [],_=>rfl
   | [m],hl=>exact absurd rfl (hl m)
   | _::_::_,_=>rfl
 cases x<;>first | exact key hx | exact hx
theorem υ {f:FuncId} {fn:Func} {c:Code} {args:List MV} {R:gC->VH->Prop} {Q':Prop} (k:Nat) (rs:List ResultVar) (hf:P.funcs[f]?=some fn) (q:Q') (ht:aO P tab:=by exact aa) (hb:fn.body=some c:=by exact rfl) (hk:(⟨fn.ntmps,0⟩:Sz)=⟨k,0⟩:=by exact rfl) (hr:fn.results.toList=rs:=by exact rfl) (hn:args.length<=k:=by exact Nat.le_of_ble_eq_true rfl) (h:VC P ⟨k,0⟩ [] c (cK 0 args) O (C7 tab rs R)=Q':=by conv=>lhs;simp only[cK,Nat.zero_add,Nat.reduceAdd]):VF P f args O R:=VF.HH ht hf hb hk hr hn (h.mpr q)
theorem Γ {ks:List MV} (ls Ks:List Nat) (ms: σ ->List MV) (I: σ ->VH->Prop) (μ : σ ->Nat) (s0: σ) (hI:I s0 O)
  (step:∀s O,I s O->VC P n D c (jG ls (ms s) (jG Ks ks [])) O (az ls Ks ks ms I μ s Q)) (h0:looks e ls=some (ms s0):=by exact rfl) (hk:looks e Ks=some ks:=by exact rfl):VC P n D (.loop c) e O Q:=VC.jm ls Ks ms I μ s0 h0 hk hI step
theorem VC.zw {K:Env->VH->Prop} {id:Nat} (l:List Nat) (ms: σ ->List MV) (I: σ ->VH->Prop) (h1:VC P n D c e O (iW id (aA l ms I Q))) (h2:∀s O,I s O->K (jG l (ms s) []) O):VC P n D c e O (iW id (rI K Q)):=by
 intro G a w hw hf;refine wp_mono (h1 G a w hw hf) ?_;rintro y a' w' ⟨x,e',O',H,g1,g2,g3,g4,g5⟩
 have nor:∀{x':VX},x'= .normal\/x'= .exit id->(∃s,looks e' l=some (ms s)/\I s O')->FR H n D e' a'->XR H x' y->(∀e O,K e O->iW id (rI K Q) x' e O)->(∀e,FR H n D e a'->FRX H n D x' e a')->cM G n D (iW id (rI K Q)) y a' w':=fun hx ⟨s,h3,h4⟩ hf' hy hK hF=>
  ⟨_,jG l (ms s) [],O',H,g1,g2,hF _ (hf'.less (iY (e0:=[]) (fun t x h=>by simp[look]at h) h3)),hy,hK _ _ (h2 s O' h4)⟩
 cases x with
 | normal=>exact nor (.inl rfl) g5 g3 g4 (fun e O h=>h) (fun e h=>h)
 | exit i=>
   by_cases hi:i=id
   ·subst hi;simp only[iW,if_true]at g5;exact nor (.inr rfl) g5 g3 g4 (fun e O h=>by simp only[iW,if_true];exact h) (fun e h=>h)
   ·refine⟨.exit i,e',O',H,g1,g2,g3,g4,?_⟩;simp only[iW,hi,if_false]at g5 ⊢;exact g5
 | _=>exact⟨_,e',O',H,g1,g2,g3,g4,g5⟩
def ex1:MV->Bool
 | .v _=>true
 | .str _=>true
 | _=>false
def exM:MV->Bool
 | .v _=>true
 | .str _=>true
 | .agg cs=>cs.all ex1
 | _=>false
theorem Fu (h:ex1 m=true) (h1:VR G m u):VR H m u:=by
 cases m with
 | v x=>have:=h1.jj;subst this;cases h1 with | v hp=>exact .v hp
 | str l=>cases h1;exact .str
 | _=>cases h
theorem Fv (h:ex1 m=true) (h1:VR G m u) (h2:VR H m v):v=u:=by
 cases m with
 | v x=>rw[h1.jj,h2.jj]
 | str l=>cases h1;cases h2;rfl
 | _=>cases h
theorem ae3 (h:exM m=true) (h1:VR G m u):VR H m u:=by
 cases m with
 | v x=>exact Fu (m:=.v x) rfl h1
 | str l=>exact Fu (m:=.str l) rfl h1
 | agg cs=>
   cases h1 with
   | agg h2 h3=>exact .agg h2 fun i c u a b=>Fu (ahO.1 h c (agc a)) (h3 i c u a b)
 | _=>cases h
theorem Ua (h:exM m=true) (h1:VR G m u) (h2:VR H m v):v=u:=by
 cases m with
 | v x=>exact Fv (m:=.v x) rfl h1 h2
 | str l=>exact Fv (m:=.str l) rfl h1 h2
 | agg cs=>
   cases h1 with
   | agg h3 h4=>
     cases h2 with
     | agg h5 h6=>
       congr 2
       refine List.ext_getElem? fun i=>?_
       rename_i us vs;rcases am7 i cs.length with hi | hi
       ·have e1:=Ma (show i<us.length by omega);have e2:=Ma (show i<vs.length by omega);have e3:=Ma hi;rw[e1,e2]
        congr 1
        exact Fv (ahO.1 h _ (ahP hi)) (h4 i _ _ e3 e1) (h6 i _ _ e3 e2)
       ·rw[ajv (by omega),ajv (by omega)]
 | _=>cases h
def tY (G:Gh) (J:VH->Prop) (x:World):Prop:=∃H O',Gh.Le G H/\WR H O' x/\J O'
theorem tY.le {J:VH->Prop} (h:G.Le H) {x:World} (hb:tY H J x):tY G J x:=by
 obtain⟨K,O',h1,h2,h3⟩:=hb;exact⟨K,O',h.trans h1,h2,h3⟩
theorem tY.ss {J:VH->Prop} {x:World} (h:tY G J x):SS G x:=by
 obtain⟨K,O',h1,h2,_⟩:=h;exact SS.le h1 h2.ss
def TE (brk:List Nat) (G:Gh) (J:VH->Prop) (j:Nat) (x:World):Prop:=SS G x/\(brk.contains j=false->tY G J x)
theorem TE.le {J:VH->Prop} {brk:List Nat} {j:Nat} {x:World} (h:G.Le H) (t:TE brk H J j x):TE brk G J j x:=⟨SS.le h t.1,fun k=>(t.2 k).le h⟩
theorem TE.mk {J:VH->Prop} {brk:List Nat} {j:Nat} {x:World} (h:tY G J x):TE brk G J j x:=⟨h.ss,fun _=>h⟩
def ae (P:Program) (n:Sz) (D:List Deferred) (ops:Array Oper) (brk:List Nat) (J:VH->Prop) (Ψ :Gh->Prop) (Z:Prop) (fuel:Nat) (listed:Array Bool) (e:Env) (O:VH) (Q:VQ):Prop:=
 (∀G H,Gh.Le G H-> Ψ G-> Ψ H)->Z->J O->∀G a w, Ψ G->WR G O w->FR G n D e a->jB P .any ops (cM G n D Q) (TE brk G J) fuel listed a w
theorem VC.nP {id:Nat} (brk:List Nat) (h:ae P n D ops brk (fun O'=>O.Ge O') (fun _=>True) (∀k,O.N<=k->O.hp k=none) ops.size (Array.replicate ops.size false) e O Q) (hm:P.follows .mixedOrders=true:=by kernel_rfl):VC P n D (.region id ops true) e O Q:=
 fun G a w hw hf=>wp_region_any hm (lg _ _ _ _ (h (fun _ _ _ _=>trivial) (fun k hk=>(hw.qm k hk).2.2) (VH.Ge.refl O) G a _ trivial (hw.drawn _) hf))
theorem ae.take {J:VH->Prop} {Z:Prop} {brk:List Nat} {Ψ :Gh->Prop} {fuel i:Nat} {listed:Array Bool} {o:Oper} (ho:ops[i]?=some o) (hs:Region.noSelect ops=true) (hf:Region.free .any ops listed i=true) (hr:(Region.ready .any ops listed).contains i=true) (hb:oA ops brk listed i=true)
  (hd:bC n o.dst=true) (hy:∀G a w,Z->J O-> Ψ G->WR G O w->FR G n D e a->∃u,VR G m u/\YieldsIf P ops (tY G J) o u a) (h:ae P n D ops brk J Ψ Z fuel (listed.setIfInBounds i true) (aZ o.dst m e) O Q):ae P n D ops brk J Ψ Z (fuel+1) listed e O Q:=by
 intro hΨ hZ hJ G a w hψ hw aW;obtain⟨u,hu,hyi⟩:=hy G a w hZ hJ hψ hw aW;refine oS (S:=tY G J) (W:=fun j=>∃k,j∈kT ops listed i k) (brk:=fun j=>brk.contains j) ho (Region.noSelect_spec hs) (iA hd) (fun j x hj hT=>hT.2 hj) (fun x hx=>TE.mk hx) fuel listed a w (Region.free_spec ho hf) CP Ij (Ik hb) (by simpa using hr) hyi ⟨G,O,Gh.Le.refl G,hw,hJ⟩ (h hΨ hZ hJ G _ w hψ hw (aW.aZ hd hu))
theorem ae.ar (i:Nat) {brk:List Nat} {Ψ :Gh->Prop} {J:VH->Prop} {Z:Prop} {fuel:Nat} {listed:Array Bool} {l:List Oper} {o:Oper} (h:AI (fun m O'=>ae P n D ⟨l⟩ brk J Ψ Z fuel (listed.setIfInBounds i true) (aZ o.dst m e) O' Q) (iX tab .ar o e O)) (ht:aO P tab:=by exact aa) (ho:l[i]?=some o:=by exact rfl) (hs:Region.noSelect ⟨l⟩=true:=by kernel_rfl) (hf:Region.free .any ⟨l⟩ listed i=true:=by kernel_rfl) (hr:(Region.ready .any ⟨l⟩ listed).contains i=true:=by kernel_rfl) (hb:oA ⟨l⟩ brk listed i=true:=by kernel_rfl) (hg:aN ⟨l⟩ o e=some true:=by exact rfl) (hd:bC n o.dst=true:=by exact rfl):ae P n D ⟨l⟩ brk J Ψ Z (fuel+1) listed e O Q:=by
 generalize hv:iX tab .ar o e O=v at h;cases v with
 | none=>exact h.elim
 | some p=>
   obtain⟨m,O'⟩:=p;obtain⟨h1,rfl⟩:=oB hv;refine ae.take (by simpa using ho) hs hf hr hb hd (fun G a w _ _ _ hw aW=>?_) h;obtain⟨u,hu,cC⟩:=vu (P:=P) ht aW h1
   exact⟨u,hu,.inl ⟨bA aW hg,fun x hx=>by
    obtain⟨H,O2,h2,h3,_⟩:=hx;exact cC x (SS.le h2 h3.ss)⟩⟩
theorem Np {t:TypeId} {p:MV} (hB:B.Ge O) (hN:∀k,B.N<=k->B.hp k=none) (h:ft tab B t p=some m):ft tab O t p=some m:=by
 unfold ft at h ⊢
 have:∀{cs off},cellsOf B p=some (cs,off)->cellsOf O p=some (cs,off):=fun{cs off} hc=>by
  unfold cellsOf at hc ⊢;split at hc
  ·split at hc
   ·rename_i hk;have eh:=Nat.lt_of_not_le fun hle=>by rw[hN _ hle]at hk;cases hk
    rw[hB.hp _ eh,hk];exact hc
   ·cases hc
  ·exact hc
  ·cases hc
 split at h
 ·rename_i i cs off hi hc;rw[this hc,hi];exact h
 ·cases h
theorem ae.ld (i:Nat) {Ψ :Gh->Prop} {brk:List Nat} {fuel:Nat} {listed:Array Bool} {l:List Oper} {d:Option Tmp} {t:TypeId} {x:Operand} {ty:TypeId} {ps:String} {af:Array Edge} {g:Option (Nat×Bool)} {p:MV} (hv:ft tab B t p=some m) (h:ae P n D ⟨l⟩ brk (fun O'=>B.Ge O') Ψ (∀k,B.N<=k->B.hp k=none) fuel (listed.setIfInBounds i true) (aZ d m e) O Q) (ht:aO P tab:=by exact aa) (ho:l[i]?=some (.mk d (.load t x) ty ps af g):=by exact rfl) (hs:Region.noSelect ⟨l⟩=true:=by kernel_rfl) (hf:Region.free .any ⟨l⟩ listed i=true:=by kernel_rfl) (hr:(Region.ready .any ⟨l⟩ listed).contains i=true:=by kernel_rfl) (hb:oA ⟨l⟩ brk listed i=true:=by kernel_rfl) (hg:aN ⟨l⟩ (.mk d (.load t x) ty ps af g) e=some true:=by exact rfl) (hd:bC n d=true:=by exact rfl) (hx:ev e x=some p:=by exact rfl) (hm:exM m=true:=by exact rfl):ae P n D ⟨l⟩ brk (fun O'=>B.Ge O') Ψ (∀k,B.N<=k->B.hp k=none) (fuel+1) listed e O Q:=by
 refine ae.take (o:=.mk d (.load t x) ty ps af g) (by simpa using ho) hs hf hr hb hd (fun G a w hN hB _ hw aW=>?_) h;obtain⟨u,w',K,cC,h1,h2,h3,_⟩:=Ie (P:=P) ht hw (Np hB hN hv) (aW.ev hx);obtain⟨u0,hu0⟩:∃u0,VR G m u0:=⟨u,ae3 hm h3⟩
 refine⟨u0,hu0,.inl ⟨bA aW hg,fun y hy=>?_⟩⟩;obtain⟨H,O2,g1,g2,g3⟩:=hy;obtain⟨r,g4,g5⟩:=oX (P:=P) ht g2 (Np g3 hN hv) ((aW.ev hx).mono g1);have:=g5 y g2.sx;have er:=Ua hm hu0 g4;subst er;simp only[execOp,Sem.run_bind,this];rfl
theorem nQ {Q:Exit->Act->World->Prop} {S:World->Prop} {T:Nat->World->Prop}:∀(fuel:Nat) (listed:Array Bool) (a:Act) (w:World),(∀j,listed.getD j true=false->∀x,S x->T j x)->wpAnyH P .any ops Q S fuel listed a w->jB P .any ops Q T fuel listed a w:=by
 intro fuel;induction fuel with
 | zero=>intro listed a w _ h;exact⟨h.1,h.2⟩
 | succ fuel ih=>
   intro listed a w hT h;refine⟨h.1,fun i hi=>?_⟩;have fu:=(mem_ready.1 hi).1
   exact wpOp_mono (fun a' w' h'=>⟨hT i fu _ h'.1,ih _ _ _ (fun j hj x=>hT j (by
    by_cases Hv:i=j
    ·subst Hv;exact fu
    ·rw[getD_set_ne true Hv]at hj;exact hj) x) h'.2⟩) (h.2 i hi)
theorem ae.fin {brk:List Nat} {Ψ :Gh->Prop} {J:VH->Prop} {Z:Prop} {fuel:Nat} {listed:Array Bool} (hb:((List.range listed.size).all fun j=>listed.getD j true||brk.contains j)=true) (h:cE P n D ops fuel listed e O Q):ae P n D ops brk J Ψ Z fuel listed e O Q:=by
 intro hΨ hZ hJ G a w hψ hw aW;refine nQ _ _ _ _ (fun j hj x hs=>⟨hs,fun hh=>?_⟩) (h G a w hw aW);rcases am7 j listed.size with hl | hl
 ·have:=ahO.1 hb j (anl.2 hl);rw[hj,ano]at this;rw[this]at hh;cases hh
 ·rw[am8,ajs (by simpa using hl)]at hj;cases hj
theorem ae.one {brk:List Nat} {Ψ :Gh->Prop} {J:VH->Prop} {Z:Prop} {fuel i:Nat} {listed:Array Bool}
  (h:aL P n D ops i e O Q fun e' O'=>J O'/\ae P n D ops brk J Ψ Z fuel (listed.setIfInBounds i true) e' O' Q) (hr:Region.ready .any ops listed=[i]:=by kernel_rfl):ae P n D ops brk J Ψ Z (fuel+1) listed e O Q:=by
 intro hΨ hZ hJ G a w hψ hw aW;refine jW hr (by simp) fun j hj=>?_
 obtain rfl:j=i:=by simpa using hj
 refine wpOp_mono (fun a' w' ⟨e',O',H,h1,h2,h3,h4,h5⟩=>⟨TE.mk ⟨H,O',h1,h2,h4⟩,jX (fun _ _ _=>cM.le h1) _ _ _ _ (fun k _ x hT=>hT.le h1) (h5 hΨ hZ h4 H a' w' (hΨ _ _ h1 hψ) h2 h3)⟩) (h G a w hw aW)
theorem ae.call {brk:List Nat} {Ψ :Gh->Prop} {J:VH->Prop} {Z:Prop} {fuel i:Nat} {listed:Array Bool} {l:List Oper} {d:Option Tmp} {f:Operand} {as_:Array Operand} {ts:Array TypeId} {ty:TypeId} {ps:String} {af:Array Edge} {g:Option (Nat×Bool)} {id:FuncId} {ms:List MV} {Φ :MV->VH->Prop} (hR:VF P id ms O (aD Φ))
  (h:∀m O', Φ m O'->J O'/\ae P n D ⟨l⟩ brk J Ψ Z fuel (listed.setIfInBounds i true) (aZ d m e) O' Q) (hr:Region.ready .any ⟨l⟩ listed=[i]:=by kernel_rfl) (ho:l[i]?=some (.mk d (.call {callee:=.value f,args:=as_,argTypes:=ts}) ty ps af g):=by exact rfl) (hg:aN ⟨l⟩ (.mk d (.call {callee:=.value f,args:=as_,argTypes:=ts}) ty ps af g) e=some true:=by exact rfl) (hf:ev e f=some (.func (.func id) [] []):=by exact rfl) (hm:gh e as_.toList=some ms:=by exact rfl) (hb:db P id=true:=by kernel_rfl) (hd:bC n d=true:=by exact rfl):ae P n D ⟨l⟩ brk J Ψ Z (fuel+1) listed e O Q:=
 ae.one (aL.call (o:=.mk d (.call {callee:=.value f,args:=as_,argTypes:=ts}) ty ps af g) (by simpa using ho) hg rfl rfl hf hm (Enters.sH hb) hd (by simpa using hR) fun r O' hr=>by
  cases r with
  | ret m=>exact h m O' hr
  | panic m=>exact hr.elim) (hr:=hr)
theorem ae.op {brk:List Nat} {Ψ :Gh->Prop} {J:VH->Prop} {Z:Prop} {fuel i:Nat} {listed:Array Bool} {l:List Oper} {o:Oper}
  (h:AI (fun m O'=>J O'/\ae P n D ⟨l⟩ brk J Ψ Z fuel (listed.setIfInBounds i true) (aZ o.dst m e) O' Q) (dD tab o e O)) (ht:aO P tab:=by exact aa) (hr:Region.ready .any ⟨l⟩ listed=[i]:=by kernel_rfl) (ho:l[i]?=some o:=by exact rfl) (hg:aN ⟨l⟩ o e=some true:=by exact rfl) (hd:bC n o.dst=true:=by exact rfl):ae P n D ⟨l⟩ brk J Ψ Z (fuel+1) listed e O Q:=
 ae.one (aL.o1 h (ht:=ht) (ho:=ho) (hg:=hg) (hd:=hd)) (hr:=hr)
theorem ae.st {brk:List Nat} {Ψ :Gh->Prop} {J:VH->Prop} {Z:Prop} {fuel i:Nat} {listed:Array Bool} {l:List Oper} {o:Oper} {M:MV->VH->Prop} (hy:gD P n D o e O M)
  (h:∀m O',M m O'->J O'/\ae P n D ⟨l⟩ brk J Ψ Z fuel (listed.setIfInBounds i true) (aZ o.dst m e) O' Q) (hr:Region.ready .any ⟨l⟩ listed=[i]:=by kernel_rfl) (ho:l[i]?=some o:=by exact rfl) (hg:aN ⟨l⟩ o e=some true:=by exact rfl) (hd:bC n o.dst=true:=by exact rfl):ae P n D ⟨l⟩ brk J Ψ Z (fuel+1) listed e O Q:=
 ae.one (aL.st hy h (ho:=ho) (hg:=hg) (hd:=hd)) (hr:=hr)
theorem ae.bP (ix:List (Nat×Fl)) {brk:List Nat} {Ψ :Gh->Prop} {J:VH->Prop} {Z:Prop} {fuel:Nat} {listed:Array Bool} {l:List Oper} {L:List (Fl×Oper)}
  (h:WL P tab n D .any ⟨l⟩ Q L e O) (ht:aO P tab:=by exact aa) (hb:((List.range listed.size).all fun j=>listed.getD j true||brk.contains j)=true:=by kernel_rfl) (hs:Region.noSelect ⟨l⟩=true:=by kernel_rfl) (hp:cV .any ⟨l⟩ fuel listed ix=true:=by kernel_rfl) (hL:oC l ix=some L:=by exact rfl):ae P n D ⟨l⟩ brk J Ψ Z fuel listed e O Q:=ae.fin hb (cE.bP ix h (ht:=ht) (hs:=hs) (hp:=hp) (hL:=hL))
end
set_option linter.defProp false in
def wk:=zP @ws<|zP @WV<|zP @Nn<|zP @No<|zP @Rf @Ku
section
variable {G H:Gh} {n:Sz} {D:List Deferred} {e:Env} {a:Act} {P:Program} {tab:cj} {O O':VH} {w:World} {m m':MV} {u v:Value} {ops:Array Oper} {Q:VQ} {md:Md}
theorem rJ {t:TypeId} {ms:Array (String×TypeId)} (hu:P.underlying t=some (.interface ms)):P.underlying t=some (.interface (P.methodsAt t)):=by
 rw[hu,Program.methodsAt,hu]
theorem i_.Ub {d:Option Tmp} {op:BinOp} {t t' ty tv:TypeId} {x:Operand} {ps:String} {af:Array Edge} {g:Option (Nat×Bool)} {p:MV} {bb:Bool} {ms:Array (String×TypeId)} (hu:P.underlying t=some (.interface ms)) (hx:ev e x=some (.iface tv p)) (vA:(op= .eql/\bb=false)\/(op= .neq/\bb=true)):
  i_ P n D (.mk d (.binOp op t x (.const .nilIface) t') ty ps af g) e (.v (.bool bb)):=by
 intro G a hf;have h1:=hf.ev hx;generalize hv:a.eval x=v at h1;have hc:a.eval (.const .nilIface)= .nilIface:=rfl;cases h1 with
 | iface h2=>
   rename_i u;refine dT.of (s:=do eqGuard op t x (.const .nilIface) (.iface tv u) .nilIface;binOp op t (.iface tv u) .nilIface) (bh.of (u:=.bool bb) (fun w _=>?_) (.v rfl)) (by simp[execOp,hv,hc]);have hgd:(eqGuard op t x (.const .nilIface) (.iface tv u) .nilIface).run P w= .ok () w:=by rcases vA with⟨rfl,_⟩ | ⟨rfl,_⟩<;>simp[eqGuard]
   rw[Sem.run_bind,hgd,Result.andThen_ok];rcases vA with⟨rfl,rfl⟩ | ⟨rfl,rfl⟩
   ·exact run_eql_held_nil w t tv u (rJ hu)
   ·exact run_neq_held_nil w t tv u (rJ hu)
theorem i_.Fw {d:Option Tmp} {op:BinOp} {t t' ty:TypeId} {x:Operand} {ps:String} {af:Array Edge} {g:Option (Nat×Bool)} {bb:Bool} {ms:Array (String×TypeId)} (hu:P.underlying t=some (.interface ms)) (hx:ev e x=some (.v .nilIface)) (vA:(op= .eql/\bb=true)\/(op= .neq/\bb=false)):
  i_ P n D (.mk d (.binOp op t x (.const .nilIface) t') ty ps af g) e (.v (.bool bb)):=by
 intro G a hf;have h1:=(hf.ev hx).jj;have hc:a.eval (.const .nilIface)= .nilIface:=rfl;refine dT.of (s:=do eqGuard op t x (.const .nilIface) .nilIface .nilIface;binOp op t .nilIface .nilIface) (bh.of (u:=.bool bb) (fun w _=>?_) (.v rfl)) (by simp[execOp,h1,hc]);have hgd:(eqGuard op t x (.const .nilIface) .nilIface .nilIface).run P w= .ok () w:=by rcases vA with⟨rfl,_⟩ | ⟨rfl,_⟩<;>cases x<;>simp[eqGuard]
 rw[Sem.run_bind,hgd,Result.andThen_ok];rcases vA with⟨rfl,rfl⟩ | ⟨rfl,rfl⟩
 ·exact run_eql_nil_nil w t (rJ hu)
 ·exact run_neq_nil_nil w t (rJ hu)
theorem i_.asT {d:Option Tmp} {t s ty:TypeId} {x:Operand} {ps:String} {af:Array Edge} {g:Option (Nat×Bool)} {p:MV} {u:TypeDesc} (hu:P.underlying s=some u) (hi:∀ms,u≠ .interface ms) (hx:ev e x=some (.iface s p)):
  i_ P n D (.mk d (.typeAssert x t s true) ty ps af g) e (.tuple [p,.v (.bool true)]):=by
 intro G a hf;have h1:=hf.ev hx;generalize hv:a.eval x=v at h1;cases h1 with
 | iface h2=>
   rename_i w0;refine dT.of (s:=Instr.typeAssert (.iface s w0) t s true) (bh.of (u:=.tuple #[w0,.bool true]) (fun w _=>?_) ?_) (by simp[execOp,hv])
   ·simp only[Instr.typeAssert,Sem.run_bind,run_underlying hu,Result.andThen_ok]
    cases u<;>first
     | rfl
     | simp
     | (rename_i ms;exact absurd rfl (hi ms))
   ·exact VR.tuple (cs:=[p,.v (.bool true)]) (us:=[w0,.bool true]) rfl fun i c u hc hu=>by
     match i with
     | 0=>simp at hc hu;subst hc;subst hu;exact h2
     | 1=>simp at hc hu;subst hc;subst hu;exact .v rfl
     | i+2=>simp at hc
theorem VL.panic {d:Option Tmp} {x:Operand} {ty t:TypeId} {ps:String} {af:Array Edge} {g:Option (Nat×Bool)} {L:List (Fl×Oper)} {p:MV} (hmd:md= .plain) (hx:ev e x=some (.iface t p)) (hg:aN ops (.mk d (.panic x) ty ps af g) e=some true)
  (h:Q (.panic (.iface t p)) (k_ n e) O):VL P n D md ops ((.one,.mk d (.panic x) ty ps af g)::L) e O Q:=by
 subst hmd;intro fuel listed ix hf hp
 match ix,hf with
 | (i,g')::ix,hf=>
   obtain⟨rfl,ho,hf⟩:=hf;intro G a w hw aW;have h1:=aW.ev hx
   have HI:∃u,a.eval x= .iface t u:=by
    generalize a.eval x=v at h1;cases h1;exact⟨_,rfl⟩
   obtain⟨u,hv⟩:=HI
   have cC:(execOp a.eval (.mk d (.panic x) ty ps af g)).run P w= .halt (.panic (.iface t u)) w:=by
    simp[execOp,hv,Instr.panic,goPanic]
   simp only[adW,wpOps,ho,bA aW hg,if_true];refine .inl ?_;unfold Oper.wp;rw[cC];exact⟨.panic (.iface t p),k_ n e,O,G,Gh.Le.refl G,hw,⟨EK,aW.less B0⟩,⟨_,rfl,by rw[<-hv];exact h1⟩,h⟩
def MR (G:Gh):Option MV->FrameMode->Prop
 | none,.returning=>True
 | some m,.panicking [⟨v,false,false⟩]=>VR G m v
 | _,_=>False
def gQ (P:Program) (g:FuncId) (args:List MV) (x:Option MV) (O:VH) (K:VH->Prop):Prop:=
 ∀G w vs u,WR G O w->aQ G args vs->MR G x u->CallsD P g vs.toArray u w fun r u' w'=>(∃v,r= .returned v)/\settle u'= .returning/\∃O' H,Gh.Le G H/\WR H O' w'/\K O'
def AJ:Option MV->MV
 | none=>.v .nilIface
 | some m=>m
theorem gQ.rec {f:FuncId} {fn:Func} {c:Code} {id:Nat} {d:Tmp} {ty:TypeId} {ps:String} {af:Array Edge} {args:List MV} {x:Option MV} {K:VH->Prop} (hf:P.funcs[f]?=some fn) (hd:d<fn.ntmps)
  (h:WC P tab ⟨fn.ntmps,0⟩ [] c ((d,AJ x)::cK 0 args) O fun y _ O'=>match y with
   | .normal=>K O'
   | .ret=>K O'
   | _=>False) (ht:aO P tab:=by exact aa) (hb:fn.body=some (.seq (.region id ⟨[.mk (some d) (.call {callee:=.builtin .recover,args:= #[],argTypes:= #[]}) ty ps af none]⟩ false) c):=by exact rfl) (hr:fn.results= #[]:=by exact rfl) (hn:args.length<=fn.ntmps:=by exact Nat.le_of_ble_eq_true rfl):gQ P f args x O K:=by
 intro G w vs u hw hv hu;refine callsD_of_wpS hf hb fun c0 cs hm=>wpS_seq (wpS_region ?_)
 have aW:FR G ⟨fn.ntmps,0⟩ [] (cK 0 args) {tmps:=vs.toArray++Array.replicate (fn.ntmps - vs.toArray.size) undef,defers:=[]}:=by
  have hl:=hv.1;refine⟨rfl,by simp;omega,fun t x hx=>?_⟩;rw[iV,if_pos (ani _),Nat.sub_zero]at hx;obtain⟨u,h1,h2⟩:=hv.get hx;refine⟨u,?_,h2⟩;have eh:=(adZ.1 h1).1;rw[ana (by simpa using eh)];simpa using h1
 generalize ({tmps:=vs.toArray++Array.replicate (fn.ntmps - vs.toArray.size) undef,defers:=[]}:Act)=a at aW
 have cC:(execOp a.eval (.mk (some d) (.call {callee:=.builtin .recover,args:= #[],argTypes:= #[]}) ty ps af none)).run P w= .ok .recover w:=by
  simp[execOp,resolve,invoke,builtin]
 have go:∀(v:Value) (u':FrameMode),VR G (AJ x) v->settle u'= .returning->(c.wpS P (bodyPostS P fn c0 cs fun r u' w'=>(∃v,r= .returned v)/\settle u'= .returning/\∃O' H,Gh.Le G H/\WR H O' w'/\K O')) (a.put (some d) v) ({c0 with mode:=u'}::cs) w:=by
  intro v u' EB hs;refine wpS_of_wp ?_;refine wp_mono (WC.sound ht h G _ w hw (FR.put aW hd EB)) ?_;rintro y a' w' ⟨z,e',O',H,g1,g2,g3,g4,g5⟩
  have fin:FR H ⟨fn.ntmps,0⟩ [] e' a'->K O'->bodyPostS P fn c0 cs (fun r u' w'=>(∃v,r= .returned v)/\settle u'= .returning/\∃O' H,Gh.Le G H/\WR H O' w'/\K O') .normal a' ({c0 with mode:=u'}::cs) w':=fun hf' hk=>
   ⟨hf'.defers,u',rfl,.tuple #[],by simp[results,hr],⟨_,rfl⟩,hs,O',H,g1,g2,hk⟩
  cases y<;>cases z<;>first
   | exact False.elim g4
   | exact fin g3 g5
   | exact g5.elim
 have Nq:(List.range (Array.mk [Oper.mk (some d) (.call {callee:=.builtin .recover,args:= #[],argTypes:= #[]}) ty ps af none]).size)=[0]:=rfl;rw[Nq];simp only[wpOpsS,ahM,Zk,cC];have aij:Region.wanted (Oper.mk (some d) (.call {callee:=.builtin .recover,args:= #[],argTypes:= #[]}) ty ps af none) (yielded ⟨[.mk (some d) (.call {callee:=.builtin .recover,args:= #[],argTypes:= #[]}) ty ps af none]⟩ a.tmps)=true:=rfl;rw[if_pos aij];subst hm
 match x,hmu:c0.mode,hu with
 | none,.returning,_=>
   have IT:recoverD (c0::cs)=none:=by simp[recoverD,hmu]
   rw[IT];have:=go .nilIface .returning (.v rfl) rfl;rw[show({c0 with mode:=.returning}:Frame)=c0 from by rw[<-hmu]]at this;exact this
 | some m,.panicking [⟨v,false,false⟩],EB=>
   have IT:recoverD (c0::cs)=some (v,{c0 with mode:=.panicking [⟨v,true,false⟩]}::cs):=by simp[recoverD,hmu]
   rw[IT];exact go v _ EB (by simp[settle])
def Nr (P:Program) (tab:cj) (rs:List ResultVar) (g:FuncId) (ms:List MV) (R:gC->VH->Prop):VQ:=fun x e O=>match x with
 | .normal=>gQ P g ms none O fun O'=>jx R O' (iZ tab e O' rs)
 | .ret=>gQ P g ms none O fun O'=>jx R O' (iZ tab e O' rs)
 | .panic m=>gQ P g ms (some m) O fun O'=>jx R O' (iZ tab e O' rs)
 | _=>False
theorem VF.deferred {f g:FuncId} {fn:Func} {A rest:Code} {id k lo:Nat} {t:Tmp} {cap:Array Operand} {ty ty':TypeId} {ps ps':String} {af af':Array Edge} {args:List MV} {rs:List ResultVar} {R:gC->VH->Prop} (hf:P.funcs[f]?=some fn) (hE:Enters P g)
  (h:WC P tab ⟨k,0⟩ [] A (cK 0 args) O fun x e O'=>match x with
   | .normal=>∃ms,gh e cap.toList=some ms/\∀D,VC P ⟨k,lo⟩ D rest ((t,.func (.func g) [] ms)::e) O' (Nr P tab rs g ms R)
   | _=>False) (ht:aO P tab:=by exact aa) (hb:fn.body=some (.seq A (.seq (.region id ⟨[.mk (some t) (.makeFunc (.func g) #[] cap) ty ps af none,.mk none (.defer {callee:=.value (.tmp t),args:= #[],argTypes:= #[]}) ty' ps' af' none]⟩ false) rest)):=by exact rfl) (hk:fn.ntmps=k:=by exact rfl) (hr:fn.results.toList=rs:=by exact rfl) (hn:args.length<=k:=by exact Nat.le_of_ble_eq_true rfl) (dh:t<k:=by decide):VF P f args O R:=by
 subst hk;intro G w vs hw hv;refine calls_of_wp_defers hf hb ?_
 have aW:FR G ⟨fn.ntmps,0⟩ [] (cK 0 args) {tmps:=vs.toArray++Array.replicate (fn.ntmps - vs.toArray.size) undef,defers:=[]}:=by
  have hl:=hv.1;refine⟨rfl,by simp;omega,fun t x hx=>?_⟩;rw[iV,if_pos (ani _),Nat.sub_zero]at hx;obtain⟨u,h1,h2⟩:=hv.get hx;refine⟨u,?_,h2⟩;have eh:=(adZ.1 h1).1;rw[ana (by simpa using eh)];simpa using h1
 refine wp_seq (wp_mono (WC.sound ht h G _ w hw aW) ?_);rintro y a1 w1 ⟨x,e,O1,H,g1,g2,g3,g4,g5⟩
 cases y<;>cases x<;>first
  | exact False.elim g4
  | exact g5.elim
  | skip
 obtain⟨ms,hm,Rg⟩:=g5;have g3:FR H ⟨fn.ntmps,0⟩ [] e a1:=g3;have jE:=g3.gh hm;have Hq:cap.map a1.eval=(cap.toList.map a1.eval).toArray:=by apply Array.ext';simp
 generalize cap.toList.map a1.eval=us at jE Hq
 have Rh:(execOp a1.eval (.mk (some t) (.makeFunc (.func g) #[] cap) ty ps af none)).run P w1= .ok (.value (.func (.func g) #[] us.toArray)) w1:=by
  simp[execOp,Instr.makeFunc,Hq]
 have hz:=g3.size;dsimp only at hz
 have hev:(a1.put (some t) (.func (.func g) #[] us.toArray)).eval (.tmp t)= .func (.func g) #[] us.toArray:=by
  simp[Act.eval,Act.put,hz,dh]
 have Ri:(execOp (a1.put (some t) (.func (.func g) #[] us.toArray)).eval (.mk none (.defer {callee:=.value (.tmp t),args:= #[],argTypes:= #[]}) ty' ps' af' none)).run P w1= .ok (.defer {target:=.fn (.func g) us.toArray,args:= #[]}) w1:=by
  simp[execOp,resolve,hev,Deferred.ofValue]
 refine wp_seq (wp_region ?_);have Nq:∀o1 o2:Oper,List.range (Array.mk [o1,o2]).size=[0,1]:=fun _ _=>rfl
 rw[Nq];have Kw:∀(o1 o2:Oper) (tm:Array Value),o1.guard=none->Region.wanted o1 (yielded ⟨[o1,o2]⟩ tm)=true:=fun o1 o2 tm h=>by simp[Region.wanted,h]
 have sI:∀(o1 o2:Oper) (tm:Array Value),o2.guard=none->Region.wanted o2 (yielded ⟨[o1,o2]⟩ tm)=true:=fun o1 o2 tm h=>by simp[Region.wanted,h]
 simp only[wpOps,ahM,Zk,adX];rw[if_pos (Kw _ _ _ rfl)];refine .inl ?_;unfold Oper.wp;rw[Rh,Oper.upon_value];simp only[wpOps,ahM,Zk,adX];rw[if_pos (sI _ _ _ rfl)];refine .inl ?_;first | unfold Oper.wp | skip
 rw[Ri,Oper.upon_defer];have kY:FR H ⟨fn.ntmps,0⟩ [] ((t,.func (.func g) [] ms)::e) (a1.put (some t) (.func (.func g) #[] us.toArray)):=FR.put g3 dh (.func (fs:=[]) (us:=[]) rfl (fun i c u h=>by simp at h) jE.1 jE.2);generalize a1.put (some t) (.func (.func g) #[] us.toArray)=a2 at kY;have Ns:FR H ⟨fn.ntmps,lo⟩ [{target:=.fn (.func g) us.toArray,args:= #[]}] ((t,.func (.func g) [] ms)::e) {a2 with defers:={target:=.fn (.func g) us.toArray,args:= #[]}::a2.defers}:=⟨by rw[kY.defers],kY.size,kY.get⟩;show rest.wp P _ _ _;refine wp_mono (Rg _ H _ w1 g2 Ns) ?_;rintro y a' w' ⟨x,e',O',K,k1,k2,k3,k4,k5⟩
 have hinv:∀w:World,(invoke (.fn (.func g) us.toArray) #[]).run P w= .ok (.enter g us.toArray) w:=fun w=>by
  simp[invoke,hE us.toArray w]
 have fin:∀(u:FrameMode) (z:Option MV),u≠ .run->MR K z u->FR K ⟨fn.ntmps,lo⟩ [{target:=.fn (.func g) us.toArray,args:= #[]}] e' a'->gQ P g ms z O' (fun O'=>jx R O' (iZ tab e' O' rs))->
   Leaves P fn a'.tmps (fun x w'=>∃r O' H,Gh.Le G H/\WR H O' w'/\ER H r x/\R r O') a'.defers u w':=by
  intro u z hu hmr hfa hd;rw[hfa.defers];refine leaves_cons hu (hinv _) ((hd K w' us u k2 (jE.mono k1) hmr).mono ?_);rintro r u' Hu ⟨⟨v,rfl⟩,hs,O2,K2,q1,q2,q3⟩;dsimp only;rw[hs]
  have key:∃m,dJ tab fn e' O2=some m/\R (.ret m) O2:=by
   unfold dJ;rw[hr, <-sG];generalize iZ tab e' O2 rs=z at q3;unfold jx at q3;split at q3
   ·exact q3.elim
   ·exact⟨_,rfl,q3⟩
   ·rename_i l hl;refine⟨.tuple l,?_,q3⟩
    match l,hl with
    | [],_=>rfl
    | [m],hl=>exact absurd rfl (hl m)
    | _::_::_,_=>rfl
  obtain⟨m,h6,h7⟩:=key;obtain⟨u2,h8,h9⟩:=lM (P:=P) ht q2 (hfa.mono q1) h6;exact⟨u2,h8,.ret m,O2,K2,(g1.trans k1).trans q1,q2,h9,h7⟩
 cases y with
 | normal=>cases x<;>first | exact False.elim k4 | exact fin .returning none (by simp) trivial k3 k5
 | ret=>cases x<;>first | exact False.elim k4 | exact fin .returning none (by simp) trivial k3 k5
 | panic c=>
   cases x with
   | panic m=>
     obtain⟨u,rfl,hvu⟩:=k4;exact fin (.panicking [⟨u,false,false⟩]) (some m) (by simp) hvu k3.2 k5
   | _=>exact False.elim k4
 | exit i=>cases x<;>first | exact False.elim k4 | exact k5.elim
 | goto i=>cases x<;>first | exact False.elim k4 | exact k5.elim
 | outgrown=>cases x<;>exact False.elim k4
theorem WW:k_ n []=[]:=rfl
theorem Rj {N L t:Nat}:k_ ⟨N,L⟩ ((t,m)::e)=bif decide (t<L)then(t,m)::k_ ⟨N,L⟩ e else k_ ⟨N,L⟩ e:=rfl
theorem Kx {rs:List ResultVar} {g:FuncId} {ms:List MV} {R:gC->VH->Prop}:Nr P tab rs g ms R .normal e O=gQ P g ms none O fun O'=>jx R O' (iZ tab e O' rs):=rfl
theorem WX {rs:List ResultVar} {g:FuncId} {ms:List MV} {R:gC->VH->Prop}:Nr P tab rs g ms R .ret e O=gQ P g ms none O fun O'=>jx R O' (iZ tab e O' rs):=rfl
theorem Nt {rs:List ResultVar} {g:FuncId} {ms:List MV} {R:gC->VH->Prop}:Nr P tab rs g ms R (.panic m) e O=gQ P g ms (some m) O fun O'=>jx R O' (iZ tab e O' rs):=rfl
end
set_option linter.defProp false in
def wd:=zP @ZL<|zP @WW<|zP @Rj<|zP @Kx<|zP @WX<|zP @Nt<|zP @r7<|zP @r8 @C8
section
variable {G H:Gh} {n:Sz} {D:List Deferred} {e:Env} {a:Act} {P:Program} {tab:cj} {O O':VH} {w:World} {m m':MV} {u v:Value} {ops:Array Oper} {Q:VQ} {md:Md}
theorem WR.Nu (h:WR G O w) (X:Obj):G.Le {G with bW:=bH G.bW O.N (some w.heap.size)}/\WR {G with bW:=bH G.bW O.N (some w.heap.size)} (O.push (.obj X)) (w.alloc X):=by
 have hle:=Gh.Le.JY h.m6.1 w.heap.size;have hg:=h.grow X
 have eQ:∀k b,bH G.bW O.N (some w.heap.size) k=some b->(k=O.N/\b=w.heap.size)\/(k≠O.N/\G.bW k=some b):=fun k b hk=>by
  by_cases e:k=O.N
  ·subst e;rw[aJ]at hk;injection hk with hk;exact .inl ⟨rfl,hk.symm⟩
  ·rw[ay _ _ e]at hk;exact .inr ⟨e,hk⟩
 have oz:∀j x,bH O.hp O.N (some (cg.obj X)) j=some x->(j=O.N/\x= .obj X)\/(j≠O.N/\O.hp j=some x):=fun j x hj=>by
  by_cases e:j=O.N
  ·subst e;rw[aJ]at hj;injection hj with hj;exact .inl ⟨rfl,hj.symm⟩
  ·rw[ay _ _ e]at hj;exact .inr ⟨e,hj⟩
 refine⟨hle,hg.base,hg.eN,fun k hk=>?_,fun k b hk=>?_,fun j k b lj lk hj hk=>?_,fun k ds hk=>?_,fun k es ck hk=>?_,fun t ht=>?_,fun s t b x y hs ht h1 h2=>?_,h.pw hle.bW (mP (by simp)) fun _ _ _ _=>iR fun _=>dW w _,fun k x hk=>?_,h.rz,h.r6 hle (m7 (by simp))⟩
 ·have hk:O.N+1<=k:=hk;obtain⟨h1,h2,h3⟩:=h.qm k (by omega);exact⟨by show bH _ _ _ _=_;rw[ay _ _ (by omega)];exact h1,h2,by show bH _ _ _ _=_;rw[ay _ _ (by omega)];exact h3⟩
 ·rcases eQ k b hk with⟨_,rfl⟩ | ⟨cA,hk⟩
  ·exact⟨h.Zm,by simp,fun _=>h.w_⟩
  ·obtain⟨p1,p2,p3⟩:=hg.kJ k b hk;exact⟨p1,p2,fun hne=>p3 (by have hne:bH O.hp O.N (some (.obj X)) k≠none:=hne;rwa [ay _ _ cA]at hne)⟩
 ·rcases eQ j b hj with⟨rfl,rfl⟩ | ⟨cI,hj⟩<;>rcases eQ k _ hk with⟨rfl,hb⟩ | ⟨cA,hk⟩
  ·rfl
  ·have:=(h.kJ _ _ hk).2.1;omega
  ·subst hb;have:=(h.kJ _ _ hj).2.1;omega
  ·exact h.inj j k b (by have lj:bH O.hp O.N (some (.obj X)) j≠none:=lj;rwa [ay _ _ cI]at lj) (by have lk:bH O.hp O.N (some (.obj X)) k≠none:=lk;rwa [ay _ _ cA]at lk) hj hk
 ·rcases oz k _ hk with⟨_,e⟩ | ⟨_,hk⟩
  ·cases e
  ·obtain⟨b,C,T,h1,h2,h3⟩:=hg.cells k ds hk;exact⟨b,C,T,hle.bW h1,h2,h3.mono hle⟩
 ·rcases oz k _ hk with⟨_,e⟩ | ⟨_,hk⟩
  ·cases e
  ·obtain⟨b,E,h1,h2,h3,h4,h5⟩:=hg.map k es ck hk;exact⟨b,E,hle.bW h1,h2,h3,h4.mono hle,h5.mono hle⟩
 ·rcases oz t _ ht with⟨_,e⟩ | ⟨_,ht⟩
  ·cases e
  ·obtain⟨b,f,k,r,C,T,h1,h2,h3,h4,h5,h6⟩:=hg.tok t ht;refine⟨b,f,k,r,C,T,h1,h2,h3,h4,h5,fun j hj=>?_⟩;rcases eQ j b hj with⟨_,rfl⟩ | ⟨_,hj⟩
   ·exact absurd rfl (h.p8 ht h1)
   ·exact h6 j hj
 ·rcases oz s _ hs with⟨_,e⟩ | ⟨_,hs⟩
  ·cases e
  ·rcases oz t _ ht with⟨_,e⟩ | ⟨_,ht⟩
   ·cases e
   ·exact h.l_ s t b x y hs ht h1 h2
 ·rcases oz k _ hk with⟨rfl,e⟩ | ⟨_,hk⟩
  ·injection e with e;subst e
   exact⟨w.heap.size,aJ _ _ _,by rw[fE,if_pos rfl]⟩
  ·obtain⟨b,h1,h2⟩:=hg.obj k x hk;exact⟨b,hle.bW h1,h2⟩
theorem WR.setObj (h:WR G O w) {k b:Nat} {X Y:Obj} (hk:O.hp k=some (.obj X)) (hp:G.bW k=some b) (hX:∀C t fr,X≠ .cells C t fr):WR G (O.set k (.obj Y)) {w with heap:=w.heap.setIfInBounds b Y}:=by
 obtain⟨b',h1,h2⟩:=h.obj k X hk;rw[hp]at h1;injection h1 with h1;subst h1
 have hne:∀j b',j≠k->O.hp j≠none->G.bW j=some b'->b'≠b:=fun j b' hj lj nC e=>hj (h.inj j k b lj (by rw[hk];simp) (e▸nC) hp)
 have kK:∀j,bH O.hp k (some (.obj Y)) j≠none->O.hp j≠none:=fun j hn=>by
  by_cases e:j=k
  ·subst e;rw[hk];simp
  ·rwa [ay _ _ e]at hn
 have px:=vw Y h2;have eR:∀j,j≠b->({w with heap:=w.heap.setIfInBounds b Y}:World).heap[j]?=w.heap[j]?:=fun j hj=>pD _ hj
 have hB:=(h.kJ k b hp).1
 have oz:∀j x,(∀y,x≠ .obj y)->bH O.hp k (some (cg.obj Y)) j=some x->j≠k/\O.hp j=some x:=fun j x hx hj=>by
  by_cases e:j=k
  ·subst e;rw[aJ]at hj;injection hj with hj;exact absurd hj.symm (hx _)
  ·rw[ay _ _ e]at hj;exact⟨e,hj⟩
 refine⟨⟨h.base.os,h.base.tape,h.base.output,by simpa using h.base.size,fun j hj=>?_⟩,fun b' o u' py=>?_,fun j hj=>?_,fun j b' hj=>?_,fun j k' b' lj lk=>h.inj j k' b' (kK j lj) (kK k' lk),fun j ds hj=>?_,fun j es2 ck2 hj=>?_,fun t ht=>?_,fun s t b' x y hs ht=>?_,h.pw id (mP (by simp)) fun j b' s hj hs=>iR (fun x hx=>by
   by_cases e:b'=b
   ·subst e;rw[h2]at hx;injection hx with hx;subst hx
    exfalso;simp only[World.shape?,h2]at hs
    cases X<;>first
     | exact hX _ _ _ rfl
     | cases hs
   ·rw[eR _ e];exact hx) hs,fun j x hj=>?_,h.rz,h.r6 (Gh.Le.refl _) (m7 (by simp))⟩
 ·rw[eR j (by have:j<G.B:=hj;omega)];exact h.base.block j hj
 ·have yR:b'≠b:=fun e=>by subst e;rw[(h.kJ k b' hp).2.2 (by rw[hk];simp) o]at py;cases py
  rw[uG _ (by exact yR)];exact h.eN b' o u' py
 ·obtain⟨d1,d2,d3⟩:=h.qm j hj;refine⟨d1,d2,?_⟩;show bH _ _ _ _=_;rw[ay _ _ (fun e=>by subst e;rw[d3]at hk;cases hk)];exact d3
 ·obtain⟨p1,p2,p3⟩:=h.kJ j b' hj;exact⟨p1,by simpa using p2,fun hne=>p3 (kK j hne)⟩
 ·obtain⟨e,hj⟩:=oz j _ (by simp) hj;obtain⟨b',D,T',d1,d2,d3⟩:=h.cells j ds hj;exact⟨b',D,T',d1,by rw[eR _ (hne j b' e (by rw[hj];simp) d1)];exact d2,d3⟩
 ·obtain⟨e,hj⟩:=oz j _ (by simp) hj;obtain⟨b',E,d1,d2,d3⟩:=h.map j es2 ck2 hj;exact⟨b',E,d1,by rw[eR _ (hne j b' e (by rw[hj];simp) d1)];exact d2,d3⟩
 ·obtain⟨e,ht⟩:=oz t _ (by simp) ht;obtain⟨b',f,k',r,D,T',d1,d2,d3,d4,d6,d7⟩:=h.tok t ht;exact⟨b',f,k',r,D,T',d1,d2,by rw[eR _ (fun e=>d7 k (by rw[e];exact hp))];exact d3,d4,d6,d7⟩
 ·obtain⟨_,hs⟩:=oz s _ (by simp) hs;obtain⟨_,ht⟩:=oz t _ (by simp) ht;exact h.l_ s t b' x y hs ht
 ·have hj:bH O.hp k (some (.obj Y)) j=some (.obj x):=hj;by_cases e:j=k
  ·subst e;rw[aJ]at hj;injection hj with hj;injection hj with hj;subst hj
   exact⟨b,hp,px⟩
  ·rw[ay _ _ e]at hj;obtain⟨b',d1,d2⟩:=h.obj j x hj;exact⟨b',d1,by rw[eR _ (hne j b' e (by rw[hj];simp) d1)];exact d2⟩
section
variable {d:Option Tmp} {op:BinOp} {t t' ty:TypeId} {x y:Operand} {ps:String} {af:Array Edge} {g:Option (Nat×Bool)} {b:Bool} {p q:MV}
theorem Rk:dD tab (.mk d (.range t x) ty ps af g) e O=none:=rfl
theorem WY:dD tab (.mk d (.next x b) ty ps af g) e O=none:=rfl
theorem DH:dD tab (.mk d (.typeAssert x t t' b) ty ps af g) e O=none:=rfl
def Kz (t:TypeId):Option cL->Option MV->Option MV
 | some i,some p=>match i.under with
   | .interface _=>none
   | _=>some (.iface t p)
 | _,_=>none
theorem WZ:dD tab (.mk d (.makeInterface t x) ty ps af g) e O=(Kz t (tab t) (ev e x)).map (·,O):=by
 unfold dD eX jk Kz;dsimp only;cases tab t with
 | none=>rfl
 | some i=>
   cases ev e x with
   | none=>obtain⟨u,a,b,z⟩:=i;cases u<;>rfl
   | some p=>obtain⟨u,a,b,z⟩:=i;cases u<;>rfl
theorem Rl:dD tab (.mk d (.panic x) ty ps af g) e O=none:=rfl
theorem W0:dw tab op t (.iface ty p) (.v .nilIface)=none:=by cases op<;>rfl
theorem W4:dw tab op t (.v .nilIface) (.iface ty p)=none:=by cases op<;>rfl
theorem aaT {cs:List MV} {i:Nat}:sA (.tuple cs) i=cs[i]?:=rfl
theorem aaU {r:Int} {a b a' b':Nat} {z z':List MV}:Km (.v (.int .i32 r)) (some ⟨.int .i32,a,b,z⟩) (some ⟨.string,a',b',z'⟩)=none:=rfl
theorem aaV:dw tab op t (.v .nilIface) (.v .nilIface)=none:=by cases op<;>rfl
end
end
set_option linter.defProp false in
def wi:=zP @WZ<|zP @Rk<|zP @WY<|zP @DH<|zP @Rl<|zP @W0<|zP @W4<|zP @aaT<|zP @aaU @aaV
section
variable {G H:Gh} {n:Sz} {D:List Deferred} {e e':Env} {a:Act} {P:Program} {tab:cj} {O O':VH} {w:World} {m m':MV} {u v:Value} {ops:Array Oper} {Q:VQ} {md:Md}
def lq (cs:List MV) (X:Obj) (G:Gh):Prop:=∃C:Array Value,∃T:Fz C,X= .cells C T.t T.fr/\aQ G cs (C.toList.take cs.length)
theorem lq.mono {cs:List MV} {X:Obj} (h:G.Le H) (hx:lq cs X G):lq cs X H:=by
 obtain⟨C,T,h1,h2⟩:=hx;exact⟨C,T,h1,h2.mono h⟩
theorem VH.rK {x:cg} {k j:Nat}:(j=k/\(O.set k x).hp j=some x)\/(j≠k/\(O.set k x).hp j=O.hp j):=by
 by_cases e:j=k
 ·subst e;exact .inl ⟨rfl,ρ _ _ _⟩
 ·exact .inr ⟨e,π _ _ e⟩
theorem B5 {x:cg} {k j:Nat} (hk:O.hp k≠none) (h:(O.set k x).hp j≠none):O.hp j≠none:=by
 rcases VH.rK (O:=O) (x:=x) (k:=k) (j:=j)with⟨rfl,_⟩ | ⟨_,e⟩
 ·exact hk
 ·rwa [e]at h
theorem WR.swap {k:Nat} {x:cg} (h:WR G O w) (hk:O.hp k≠none) (hc:∀cs,x= .cells cs->∃b,∃C:Array Value,∃T:Fz C,G.bW k=some b/\w.heap[b]?=some (.cells C T.t T.fr)/\aQ G cs (C.toList.take cs.length))
  (ho:∀X,x= .obj X->∃b,G.bW k=some b/\w.heap[b]?=some X) (hm:∀es ck,x≠ .map es ck) (ht:x≠ .tok) (hs:∀j t n,x≠ .shape j t n) (hf:∀p,x≠ .fact p:=by intro _ e;cases e):WR G (O.set k x) w where
 base:=h.base
 eN:=h.eN
 qm j hj:=by
  obtain⟨h1,h2,h3⟩:=h.qm j hj;exact⟨h1,h2,(π _ _ (fun e=>by subst e;exact hk h3)).trans h3⟩
 kJ j b hj:=by
  obtain⟨h1,h2,h3⟩:=h.kJ j b hj;exact⟨h1,h2,fun hn=>h3 (B5 hk hn)⟩
 inj i j b hi hj:=h.inj i j b (B5 hk hi) (B5 hk hj)
 cells j cs hj:=by
  rcases VH.rK (O:=O) (x:=x) (k:=k) (j:=j)with⟨rfl,e⟩ | ⟨_,e⟩
  ·rw[e]at hj;injection hj with hj;exact hc cs hj
  ·rw[e]at hj;exact h.cells j cs hj
 map j es ck hj:=by
  rcases VH.rK (O:=O) (x:=x) (k:=k) (j:=j)with⟨rfl,e⟩ | ⟨_,e⟩
  ·rw[e]at hj;injection hj with hj;exact absurd hj (hm _ _)
  ·rw[e]at hj;exact h.map j es ck hj
 tok j hj:=by
  rcases VH.rK (O:=O) (x:=x) (k:=k) (j:=j)with⟨rfl,e⟩ | ⟨_,e⟩
  ·rw[e]at hj;injection hj with hj;exact absurd hj ht
  ·rw[e]at hj;exact h.tok j hj
 l_ i j b y z hi hj:=by
  rcases VH.rK (O:=O) (x:=x) (k:=k) (j:=i)with⟨rfl,e⟩ | ⟨_,e⟩
  ·rw[e]at hi;injection hi with hi;exact absurd hi ht
  ·rw[e]at hi;rcases VH.rK (O:=O) (x:=x) (k:=k) (j:=j)with⟨rfl,e⟩ | ⟨_,e⟩
   ·rw[e]at hj;injection hj with hj;exact absurd hj ht
   ·rw[e]at hj;exact h.l_ i j b y z hi hj
 oV j k' t n hj:=by
  rcases VH.rK (O:=O) (x:=x) (k:=k) (j:=j)with⟨rfl,e⟩ | ⟨_,e⟩
  ·rw[e]at hj;injection hj with hj;exact absurd hj (hs _ _ _)
  ·rw[e]at hj;exact h.oV j k' t n hj
 obj j y hj:=by
  rcases VH.rK (O:=O) (x:=x) (k:=k) (j:=j)with⟨rfl,e⟩ | ⟨_,e⟩
  ·rw[e]at hj;injection hj with hj;exact ho y hj
  ·rw[e]at hj;exact h.obj j y hj
 rz:=h.rz
 BU:=h.r6 (Gh.Le.refl _) (m7 hf)
theorem WR.fix {k:Nat} {cs:List MV} (h:WR G O w) (hk:O.hp k=some (.cells cs)):∃X,lq cs X G/\WR G (O.set k (.obj X)) w:=by
 obtain⟨b,C,T,h1,h2,h3⟩:=h.cells k cs hk;exact⟨_,⟨C,T,rfl,h3⟩,h.swap (by rw[hk];simp) (fun _ e=>by cases e) (fun X e=>by injection e with e;exact⟨b,h1,by rw[h2,e]⟩) (fun _ _ e=>by cases e) (fun e=>by cases e) (fun _ _ _ e=>by cases e) (fun _ e=>by cases e)⟩
theorem WR.yx {k:Nat} {cs:List MV} {X:Obj} (h:WR G O w) (hk:O.hp k=some (.obj X)) (hx:lq cs X G):WR G (O.set k (.cells cs)) w:=by
 obtain⟨b,h1,h2⟩:=h.obj k X hk;obtain⟨C,T,rfl,h3⟩:=hx;exact h.swap (by rw[hk];simp) (fun cs' e=>by injection e with e;subst e;exact⟨b,C,T,h1,h2,h3⟩) (fun X e=>by cases e) (fun _ _ e=>by cases e) (fun e=>by cases e) (fun _ _ _ e=>by cases e) (fun _ e=>by cases e)
theorem VC.qw {id:Nat} (brk:List Nat) (k:Nat) {cs:List MV} (hk:O.hp k=some (.cells cs)) (h:∀X,ae P n D ops brk (fun O'=>O'.hp k=some (.obj X)) (lq cs X) True ops.size (Array.replicate ops.size false) e (O.set k (.obj X)) Q) (hm:P.follows .mixedOrders=true:=by kernel_rfl):VC P n D (.region id ops true) e O Q:=
 fun G a w hw hf=>by
  obtain⟨X,hx,sI⟩:=(hw.drawn _).fix hk;exact wp_region_any hm (lg _ _ _ _ (h X (fun _ _=>lq.mono) trivial (ρ _ _ _) G a _ hx sI hf))
theorem Fx (ht:aO P tab) {t:TypeId} {i:cL} {cs:List MV} {us:List Value} {off:Nat} (hi:tab t=some i) (hv:nK (ef i.under) i.size cs off=some m) (oY:aQ G cs us):
  ∃r,VR G m r/\∀y b,(∀j v,us[j]?=some v->y.cell? ⟨b,j,none⟩=some v)->(Instr.loadAt t (.pointer (some ⟨b,off,none⟩))).run P y= .ok r y:=by
 have fP:=ht t i hi;simp only[Instr.loadAt,Instr.sureAddr,loadVar];unfold nK at hv;split at hv
 ·rename_i qn;split at hv
  ·rename_i hle;injection hv with hv;subst hv
   have CK:=(oY.drop off).take i.size;have hlen:((us.drop off).take i.size).length=i.size:=by simp[oY.1];omega
   refine⟨_,.agg CK.1 CK.2,fun y b hy=>?_⟩
   have Ac:∀j v,((us.drop off).take i.size)[j]?=some v->y.cell? ((⟨b,off,none⟩:Addr).add j)=some v:=by
    intro j v hj;rw[Addr.add_lit];rw[ahK]at hj;split at hj
    ·rw[List.getElem?_drop]at hj;exact hy _ v hj
    ·cases hj
   have yW:=run_loadCells_list (P:=P) y ⟨b,off,none⟩ _ Ac;rw[hlen]at yW;simp[oW fP,qn,fF fP,yW]
  ·cases hv
 ·rename_i qn;obtain⟨v,ji,DB⟩:=oY.get hv;exact⟨v,DB,fun y b hy=>by simp[oW fP,qn,hy _ v ji]⟩
theorem ε (i:Nat) {brk:List Nat} {cs:List MV} {X:Obj} {fuel:Nat} {listed:Array Bool} {l:List Oper} {d:Option Tmp} {t:TypeId} {x:Operand} {ty:TypeId} {ps:String} {af:Array Edge} {g:Option (Nat×Bool)} {k off:Nat} (hv:ft tab (O.set k (.cells cs)) t (.ptr k off)=some m) (h:ae P n D ⟨l⟩ brk (fun O'=>O'.hp k=some (.obj X)) (lq cs X) True fuel (listed.setIfInBounds i true) (aZ d m e) O Q) (ht:aO P tab:=by exact aa) (ho:l[i]?=some (.mk d (.load t x) ty ps af g):=by exact rfl) (hs:Region.noSelect ⟨l⟩=true:=by kernel_rfl) (hf:Region.free .any ⟨l⟩ listed i=true:=by kernel_rfl) (hr:(Region.ready .any ⟨l⟩ listed).contains i=true:=by kernel_rfl) (hb:oA ⟨l⟩ brk listed i=true:=by kernel_rfl) (hg:aN ⟨l⟩ (.mk d (.load t x) ty ps af g) e=some true:=by exact rfl) (hd:bC n d=true:=by exact rfl) (hx:ev e x=some (.ptr k off):=by exact rfl):ae P n D ⟨l⟩ brk (fun O'=>O'.hp k=some (.obj X)) (lq cs X) True (fuel+1) listed e O Q:=by
 refine ae.take (o:=.mk d (.load t x) ty ps af g) (by simpa using ho) hs hf hr hb hd (fun G a w _ hJ hψ hw aW=>?_) h;obtain⟨C,T,rfl,h3⟩:=hψ;unfold ft at hv;simp only[cellsOf,ρ]at hv;split at hv
 ·rename_i ti cs' off' Qz hc;injection hc with hc;injection hc with e1 e2;subst e1;subst e2
  obtain⟨r,kA,gu⟩:=Fx (P:=P) ht Qz hv h3;have hxr:=aW.ev hx;generalize hxe:a.eval x=xu at hxr;cases hxr with
  | ptr hp=>
    rename_i b;refine⟨r,kA,.inl ⟨bA aW hg,fun y hy=>?_⟩⟩;obtain⟨H,O2,g1,g2,g3⟩:=hy;obtain⟨b',cD,cJ⟩:=g2.obj k _ g3;rw[g1.bW hp]at cD;injection cD with cD;subst cD
    have:=gu y b fun j v hj=>by
     rw[ahK]at hj;split at hj
     ·simp only[World.cell?,cJ,ahL,adY,if_false];simpa using hj
     ·cases hj
    simp only[execOp,Sem.run_bind,hxe,this];rfl
 ·cases hv
theorem ae4 {Q Q':Exit->Act->World->Prop} {i:Nat} {K:Act->World->Prop} (hQ:∀y a w,Q y a w->Q' y a w) (h1:wpOp P ops Q i K a w):wpOp P ops Q' i K a w:=by
 unfold wpOp at h1 ⊢;split
 ·rename_i ho;simp only[ho]at h1;exact h1
 ·rename_i o ho;simp only[ho]at h1;split
  ·rename_i sC;simp only[sC,if_true]at h1;refine h1.imp (fun h2=>?_) (fun⟨h2,a',w',h3⟩=>⟨h2,a',w',hQ _ _ _ h3⟩);unfold Oper.wp at h2 ⊢;generalize (execOp a.eval o).run P w=r at*;cases r with
   | ok nx w'=>
     cases nx<;>simp only[Oper.upon]at h2 ⊢ <;>first
      | exact h2
      | (refine Calls.mono h2 fun x Hu he=>?_
         cases x with
         | returned v=>exact he
         | panicked c=>exact hQ _ _ _ he
         | outgrown=>obtain⟨a',w',h3⟩:=he;exact⟨a',w',hQ _ _ _ h3⟩)
   | halt x w'=>cases x<;>simp only[Oper.upon]at h2 ⊢ <;>first | exact h2 | exact hQ _ _ _ h2
  ·rename_i sC;simp only[sC]at h1;exact h1
def Uc (k:Nat) (X:Obj) (cs:List MV) (Q:VQ):VQ:=fun x e O=>match x with
 | .panic m=>O.hp k=some (.obj X)/\Q (.panic m) e (O.set k (.cells cs))
 | _=>False
theorem Uc.post {k:Nat} {X:Obj} {cs:List MV} {y:Exit} (hψ :lq cs X G) (h:cM G n D (Uc k X cs Q) y a w):cM G n D Q y a w:=by
 obtain⟨x,e,O,H,h1,h2,h3,h4,h5⟩:=h;cases x with
 | panic m=>exact⟨_,e,_,H,h1,h2.yx h5.1 (hψ.mono h1),h3,h4,h5.2⟩
 | _=>exact h5.elim
theorem ae.j8 {brk:List Nat} {k:Nat} {cs:List MV} {X:Obj} {fuel i:Nat} {listed:Array Bool} {l:List Oper} {d:Option Tmp} {f:Operand} {as_:Array Operand} {ts:Array TypeId} {ty:TypeId} {ps:String} {af:Array Edge} {g:Option (Nat×Bool)} {id:FuncId} {ms:List MV} {R:gC->VH->Prop} (hR:VF P id ms O R)
  (h:∀m O',R (.ret m) O'->O'.hp k=some (.obj X)/\ae P n D ⟨l⟩ brk (fun O'=>O'.hp k=some (.obj X)) (lq cs X) True fuel (listed.setIfInBounds i true) (aZ d m e) O' Q) (h2:∀m O',R (.panic m) O'->O'.hp k=some (.obj X)/\Q (.panic m) (k_ n e) (O'.set k (.cells cs))) (hr:Region.ready .any ⟨l⟩ listed=[i]:=by kernel_rfl) (ho:l[i]?=some (.mk d (.call {callee:=.value f,args:=as_,argTypes:=ts}) ty ps af g):=by exact rfl) (hg:aN ⟨l⟩ (.mk d (.call {callee:=.value f,args:=as_,argTypes:=ts}) ty ps af g) e=some true:=by exact rfl) (hf:ev e f=some (.func (.func id) [] []):=by exact rfl) (hm:gh e as_.toList=some ms:=by exact rfl) (hb:db P id=true:=by kernel_rfl) (hd:bC n d=true:=by exact rfl):ae P n D ⟨l⟩ brk (fun O'=>O'.hp k=some (.obj X)) (lq cs X) True (fuel+1) listed e O Q:=by
 intro hΨ hZ hJ G a w hψ hw aW;refine jW hr (by simp) fun j hj=>?_
 obtain rfl:j=i:=by simpa using hj
 have h1:=aL.call (Q:=Uc k X cs Q) (K:=fun e' O'=>O'.hp k=some (.obj X)/\ae P n D ⟨l⟩ brk (fun O'=>O'.hp k=some (.obj X)) (lq cs X) True fuel (listed.setIfInBounds j true) e' O' Q) (o:=.mk d (.call {callee:=.value f,args:=as_,argTypes:=ts}) ty ps af g) (by simpa using ho) hg rfl rfl hf hm (Enters.sH hb) hd (by simpa using hR) (fun r O' hr=>by
  cases r with
  | ret m=>exact h m O' hr
  | panic m=>exact h2 m O' hr) G a w hw aW
 refine ae4 (fun _ _ _=>Uc.post hψ) (wpOp_mono (fun a' w' ⟨e',O',H,h1,h2,h3,h4,h5⟩=>⟨TE.mk ⟨H,O',h1,h2,h4⟩,jX (fun _ _ _=>cM.le h1) _ _ _ _ (fun k _ x hT=>hT.le h1) (h5 hΨ hZ h4 H a' w' (hψ.mono h1) h2 h3)⟩) h1)
theorem ae.yx {brk:List Nat} {k:Nat} {cs:List MV} {X:Obj} {fuel:Nat} {listed:Array Bool} (hb:((List.range listed.size).all fun j=>listed.getD j true||brk.contains j)=true) (h:cE P n D ops fuel listed e (O.set k (.cells cs)) Q):ae P n D ops brk (fun O'=>O'.hp k=some (.obj X)) (lq cs X) True fuel listed e O Q:=by
 intro hΨ hZ hJ G a w hψ hw aW;refine nQ _ _ _ _ (fun j hj x hs=>⟨hs,fun hh=>?_⟩) (h G a w (hw.yx hJ hψ) aW);rcases am7 j listed.size with hl | hl
 ·have:=ahO.1 hb j (anl.2 hl);rw[hj,ano]at this;rw[this]at hh;cases hh
 ·rw[am8,ajs (by simpa using hl)]at hj;cases hj
theorem ae.nR (ix:List (Nat×Fl)) {brk:List Nat} {k:Nat} {cs:List MV} {X:Obj} {fuel:Nat} {listed:Array Bool} {l:List Oper} {L:List (Fl×Oper)}
  (h:WL P tab n D .any ⟨l⟩ Q L e (O.set k (.cells cs))) (ht:aO P tab:=by exact aa) (hb:((List.range listed.size).all fun j=>listed.getD j true||brk.contains j)=true:=by kernel_rfl) (hs:Region.noSelect ⟨l⟩=true:=by kernel_rfl) (hp:cV .any ⟨l⟩ fuel listed ix=true:=by kernel_rfl) (hL:oC l ix=some L:=by exact rfl):ae P n D ⟨l⟩ brk (fun O'=>O'.hp k=some (.obj X)) (lq cs X) True fuel listed e O Q:=ae.yx hb (cE.bP ix h (ht:=ht) (hs:=hs) (hp:=hp) (hL:=hL))
end
def Wk (m m':MV):Prop:=∀G u,VR G m u->VR G m' u
def ff (a b:List MV):Prop:=a.length=b.length/\∀(i:Nat) (c d:MV),a[i]?=some c->b[i]?=some d->Wk c d
theorem Wk.refl (m:MV):Wk m m:=fun _ _ h=>h
theorem Wk.trans {a b c:MV} (h:Wk a b) (k:Wk b c):Wk a c:=fun G u x=>k G u (h G u x)
theorem ff.refl (a:List MV):ff a a:=⟨rfl,fun i c d h k=>by rw[h]at k;injection k with k;subst k;exact Wk.refl _⟩
theorem ff.cons {a b:List MV} {x y:MV} (h:Wk x y) (k:ff a b):ff (x::a) (y::b):=by
 refine⟨by rw[ahN,ahN,k.1],fun i c d e f=>?_⟩;cases i with
 | zero=>simp only[Zk,Option.some.injEq]at e f;subst e;subst f;exact h
 | succ i=>simp only[adX]at e f;exact k.2 i c d e f
theorem ff.get {a b:List MV} (k:ff a b) {i:Nat} {d:MV} (h:b[i]?=some d):∃c,a[i]?=some c/\Wk c d:=by
 have hi:i<a.length:=by rw[k.1];exact(adZ.1 h).1
 exact⟨a[i],Ma hi,k.2 i _ _ (Ma hi) h⟩
theorem ff.use {G:Gh} {a b:List MV} (k:ff a b) {us:List Value} (h:∀(i:Nat) (c:MV) (u:Value),a[i]?=some c->us[i]?=some u->VR G c u):∀(i:Nat) (c:MV) (u:Value),b[i]?=some c->us[i]?=some u->VR G c u:=fun i d u h1 h2=>by
 obtain⟨c,h3,h4⟩:=k.get h1;exact h4 G u (h i c u h3 h2)
theorem ff.vrs {G:Gh} {a b:List MV} (k:ff a b) {us:List Value} (h:aQ G a us):aQ G b us:=⟨h.1.trans k.1,k.use h.2⟩
theorem Wk.agg {a b:List MV} (k:ff a b):Wk (.agg a) (.agg b):=fun G u h=>by
 cases h with
 | agg h1 h2=>exact .agg (h1.trans k.1) (k.use h2)
theorem Wk.tuple {a b:List MV} (k:ff a b):Wk (.tuple a) (.tuple b):=fun G u h=>by
 cases h with
 | tuple h1 h2=>exact .tuple (h1.trans k.1) (k.use h2)
theorem Wk.iface {t:TypeId} {a b:MV} (k:Wk a b):Wk (.iface t a) (.iface t b):=fun G u h=>by
 cases h with
 | iface h1=>exact .iface (k G _ h1)
theorem ff.eq_nil {b:List MV} (k:ff [] b):b=[]:=Qn k.1.symm
theorem Wk.sl {n:Nat} {a b:List MV} {t:Tok} (k:ff a b):Wk (.sl n a t) (.sl n b t):=fun G u h=>by
 cases h with
 | slnil=>rw[k.eq_nil];exact .slnil
 | pr h1=>rw[k.eq_nil];exact .pr h1
 | kS=>rw[k.eq_nil];exact .kS
 | sl h1 h2 h3 h4 h5 h6=>exact .sl (h1.trans k.1) h2 (k.use h3) h4 h5 (k.1▸h6)
theorem Wk.tok {n:Nat} {a:List MV} {t:Tok}:Wk (.sl n a t) (.sl n a .au):=fun G u h=>by
 cases h with
 | slnil=>exact .kS
 | pr h1=>exact .pr h1
 | kS=>exact .kS
 | sl h1 h2 h3 h4 h5 h6=>exact .sl h1 h2 h3 h4 h5 trivial
mutual
def au:MV->MV
 | .sl n cs _=>.sl n (c7 cs) .au
 | .agg cs=>.agg (c7 cs)
 | .tuple cs=>.tuple (c7 cs)
 | .iface t x=>.iface t (au x)
 | .v x=>.v x
 | .str l=>.str l
 | .ptr b o=>.ptr b o
 | .dE cs o=>.dE cs o
 | .bB b o n c=>.bB b o n c
 | .map b=>.map b
 | .func f a b=>.func f a b
def c7:List MV->List MV
 | []=>[]
 | c::cs=>au c::c7 cs
end
mutual
theorem AK:∀m,Wk m (au m)
 | .sl n cs t=>by rw[au];exact(Wk.sl (qx cs)).trans Wk.tok
 | .agg cs=>by rw[au];exact Wk.agg (qx cs)
 | .tuple cs=>by rw[au];exact Wk.tuple (qx cs)
 | .iface t x=>by rw[au];exact Wk.iface (AK x)
 | .v x=>by rw[au];exact Wk.refl _
 | .str l=>by rw[au];exact Wk.refl _
 | .ptr b o=>by rw[au];exact Wk.refl _
 | .dE cs o=>by rw[au];exact Wk.refl _
 | .bB b o n c=>by rw[au];exact Wk.refl _
 | .map b=>by rw[au];exact Wk.refl _
 | .func f a b=>by rw[au];exact Wk.refl _
theorem qx:∀cs,ff cs (c7 cs)
 | []=>by rw[c7];exact ff.refl _
 | c::cs=>by rw[c7];exact ff.cons (AK c) (qx cs)
end
theorem nS (a b:List MV):c7 (a++b)=c7 a++c7 b:=by
 induction a with
 | nil=>rw[c7,ang,ang]
 | cons x a ih=>rw[al_,c7,c7,ih,al_]
theorem j9 {α :Type} {f: α ->List MV} (h:∀x,c7 (f x)=f x) (L:List α):c7 (L.flatMap f)=L.flatMap f:=by
 induction L with
 | nil=>rw[List.flatMap_nil,c7]
 | cons x L ih=>rw[List.flatMap_cons,nS,h,ih]
theorem W5 (L:List (List UInt8)):c7 (L.map .str)=L.map .str:=by
 induction L with
 | nil=>rw[am6,c7]
 | cons x L ih=>rw[adW,c7,au,ih]
def pX:MV->MV
 | .sl n cs t=>.sl n (c7 cs) t
 | m=>au m
theorem Nv (m:MV):Wk m (pX m):=by
 cases m with
 | sl n cs t=>exact Wk.sl (qx cs)
 | _=>exact AK _
def Fy:List MV->List MV
 | []=>[]
 | c::cs=>pX c::Fy cs
theorem Nw:∀cs,ff cs (Fy cs)
 | []=>ff.refl _
 | c::cs=>ff.cons (Nv c) (Nw cs)
def uK:MV->MV
 | .sl n cs t=>.sl n (c7 cs) t
 | .tuple cs=>.tuple (Fy cs)
 | m=>au m
theorem aaW (m:MV):Wk m (uK m):=by
 cases m with
 | sl n cs t=>exact Wk.sl (qx cs)
 | tuple cs=>exact Wk.tuple (Nw cs)
 | _=>exact AK _
section
variable {P:Program} {f:FuncId} {as_ bs:List MV} {O:VH}
theorem VF.fgR {R:gC->VH->Prop} (h:VF P f as_ O fun r O'=>match r with
  | .ret m=>R (.ret (uK m)) O'
  | .panic m=>R (.panic (au m)) O'):VF P f as_ O R:=fun G w vs hw hv=>by
 refine(h G w vs hw hv).mono ?_;rintro x w' ⟨r,O',H,h1,h2,h3,h4⟩;cases r with
 | ret m=>cases x with
   | returned v=>exact⟨.ret _,O',H,h1,h2,aaW m H v h3,h4⟩
   | _=>exact h3.elim
 | panic m=>cases x with
   | panicked c=>obtain⟨u,h5,h6⟩:=h3;exact⟨.panic _,O',H,h1,h2,⟨u,h5,AK m H u h6⟩,h4⟩
   | _=>exact h3.elim
theorem VF.fg {Φ :MV->VH->Prop} (h:VF P f as_ O (aD fun m O'=> Φ (uK m) O')):VF P f as_ O (aD Φ):=VF.fgR (VF.mono (fun r O' hr=>by cases r with
 | ret m=>exact hr
 | panic m=>exact hr.elim) h)
variable {n:Sz} {md:Md} {Q:VQ} {e:Env} {K:Env->VH->Prop}
end
section
variable {P:Program} {tab:cj} {n:Sz} {D:List Deferred} {md:Md} {ops:Array Oper} {Q:VQ} {e e':Env} {O O':VH} {m m':MV}
def EW (e e':Env):Prop:=∀t x',look e' t=some x'->∃x,look e t=some x/\Wk x x'
theorem EW.refl (e:Env):EW e e:=fun t x h=>⟨x,h,Wk.refl _⟩
theorem EW.top {k:Nat} (h:Wk m m'):EW ((k,m)::e) ((k,m')::e):=fun t x hx=>by
 rw[look]at hx ⊢;cases ht:t==k
 ·rw[ht]at hx;exact⟨x,hx,Wk.refl _⟩
 ·rw[ht]at hx;injection hx with hx;subst hx;exact⟨m,rfl,h⟩
theorem EW.aZ {d:Option Tmp} (h:Wk m m'):EW (aZ d m e) (aZ d m' e):=by
 cases d with
 | none=>exact EW.refl _
 | some k=>exact EW.top h
theorem FR.wk {G:Gh} {a:Act} (h:FR G n D e a) (hl:EW e e'):FR G n D e' a:=⟨h.defers,h.size,fun t x hx=>by
 obtain⟨y,h1,h2⟩:=hl t x hx;obtain⟨u,h3,h4⟩:=h.get t y h1;exact⟨u,h3,h2 G u h4⟩⟩
theorem VL.wk {L:List (Fl×Oper)} (hl:EW e e') (h:VL P n D md ops L e' O Q):VL P n D md ops L e O Q:=fun fuel listed ix h1 h2=>by
 have:=h fuel listed ix h1 h2;cases md<;>exact fun G a w hw hf=>this G a w hw (hf.wk hl)
theorem Θ {c d:Code} {σ :Type} (l:List Nat) (ms: σ ->List MV) (I: σ ->VH->Prop) (h1:VC P n D c e O (aA l ms I Q)) (h2:∀s O,I s O->VC P n D d (jG l (ms s) []) O Q):VC P n D (.seq c d) e O Q:=by
 refine VC.seq (VC.mono ?_ h1);intro x e O h;cases x with
 | normal=>
   obtain⟨s,h3,h4⟩:=h;exact VC.env (h2 s O h4) (iY (e0:=[]) (fun t x h=>by simp[look]at h) h3)
 | _=>exact h
theorem η {d:Option Tmp} {x y:Operand} {t ty:TypeId} {ps:String} {af:Array Edge} {g:Option (Nat×Bool)} {L:List (Fl×Oper)} {p q:MV} (hv:iy tab O t p q=some (m,O')) (hw:pX m=m') (h:WL P tab n D md ops Q L (aZ d m' e) O') (ht:aO P tab:=by exact aa) (hx:ev e x=some p:=by exact rfl) (hy:ev e y=some q:=by exact rfl) (hg:aN ops (.mk d (.call {callee:=.builtin .append,args:= #[x,y],argTypes:= #[t,t]}) ty ps af g) e=some true:=by exact rfl) (hd:bC n d=true:=by exact rfl):
  VL P n D md ops ((.one,.mk d (.call {callee:=.builtin .append,args:= #[x,y],argTypes:= #[t,t]}) ty ps af g)::L) e O Q:=
 VL.step ht hg (by rw[xt,dj,hx,hy];exact hv) hd (VL.wk (EW.aZ (hw▸Nv m)) (WL.sound ht h))
end
section
variable {n:Nat} {cs as_ bs:List MV} {t:Tok} {ty:TypeId} {x:MV} {l:List UInt8} {b o:Nat} {v:Value} {f:Fn} {c:MV}
theorem aaX:uK (.sl n cs t)= .sl n (c7 cs) t:=rfl
theorem Nx:uK (.tuple cs)= .tuple (Fy cs):=rfl
theorem W6:uK (.agg cs)= .agg (c7 cs):=by show au (.agg cs)=_;rw[au]
theorem ae5:uK (.v v)= .v v:=by show au (.v v)=_;rw[au]
theorem W7:uK (.str l)= .str l:=by show au (.str l)=_;rw[au]
theorem W8:uK (.ptr b o)= .ptr b o:=by show au (.ptr b o)=_;rw[au]
theorem W9 {i j:Nat}:uK (.bB b o i j)= .bB b o i j:=by show au (.bB b o i j)=_;rw[au]
theorem W_:uK (.map b)= .map b:=by show au (.map b)=_;rw[au]
theorem Rn:uK (.func f as_ bs)= .func f as_ bs:=by show au (.func f as_ bs)=_;rw[au]
theorem qy:pX (.sl n cs t)= .sl n (c7 cs) t:=rfl
theorem Ny:pX (.tuple cs)= .tuple (c7 cs):=by show au (.tuple cs)=_;rw[au]
theorem Xa:pX (.agg cs)= .agg (c7 cs):=by show au (.agg cs)=_;rw[au]
theorem ae6:pX (.v v)= .v v:=by show au (.v v)=_;rw[au]
theorem Xb:pX (.str l)= .str l:=by show au (.str l)=_;rw[au]
theorem Xc:pX (.ptr b o)= .ptr b o:=by show au (.ptr b o)=_;rw[au]
theorem Ro:pX (.dE cs o)= .dE cs o:=by show au (.dE cs o)=_;rw[au]
theorem Xd {i j:Nat}:pX (.bB b o i j)= .bB b o i j:=by show au (.bB b o i j)=_;rw[au]
theorem Xe:pX (.map b)= .map b:=by show au (.map b)=_;rw[au]
theorem Rp:pX (.func f as_ bs)= .func f as_ bs:=by show au (.func f as_ bs)=_;rw[au]
theorem Nz:pX (.iface ty x)= .iface ty (au x):=by show au (.iface ty x)=_;rw[au]
theorem Xf:Fy []=[]:=rfl
theorem Rq:Fy (c::cs)=pX c::Fy cs:=rfl
theorem ae7:au (.sl n cs t)= .sl n (c7 cs) .au:=by rw[au]
theorem aaY:au (.agg cs)= .agg (c7 cs):=by rw[au]
theorem aik:au (.v v)= .v v:=by rw[au]
theorem aaZ:au (.str l)= .str l:=by rw[au]
theorem aa0:au (.ptr b o)= .ptr b o:=by rw[au]
theorem aa1 {i j:Nat}:au (.bB b o i j)= .bB b o i j:=by rw[au]
theorem aa2:au (.map b)= .map b:=by rw[au]
theorem Rr:au (.iface ty x)= .iface ty (au x):=by rw[au]
theorem IU:c7 []=[]:=by rw[c7]
theorem Rs:c7 (c::cs)=au c::c7 cs:=by rw[c7]
end
set_option linter.defProp false in
def wu:=zP @aaX<|zP @Nx<|zP @W6<|zP @ae5<|zP @W7<|zP @W8<|zP @W9<|zP @W_<|zP @Rn<|zP @qy<|zP @Ny<|zP @Xa<|zP @ae6<|zP @Xb<|zP @Xc<|zP @Ro<|zP @Xd<|zP @Xe<|zP @Rp<|zP @Nz<|zP @Xf<|zP @Rq<|zP @ae7<|zP @aaY<|zP @aik<|zP @aaZ<|zP @aa0<|zP @aa1<|zP @aa2<|zP @Rr<|zP @IU<|zP @Rs<|zP @nS @W5
open Go.MapKept (run_setObj_map)
section
variable {G H:Gh} {n:Sz} {D:List Deferred} {e:Env} {a:Act} {P:Program} {tab:cj} {O O':VH} {w:World} {m m':MV} {u v:Value} {ops:Array Oper} {Q:VQ} {md:Md}
theorem KA {t:TypeId} {x:MV} {cs:List MV} {ok:Bool}:ie tab O t x (.agg cs) ok=none:=by
 unfold ie;split
 ·split
  ·rename_i kd te h1 h2;have:yi kd (.agg cs)=false:=by cases kd<;>rfl
   rw[this]
  ·rfl
 ·rfl
theorem DI {t:TypeId} {x y:MV} {cs:List MV}:eC tab O t x (.agg cs) y=none:=by
 unfold eC;split
 ·split
  ·rename_i kd es ck h1 h2;have:yi kd (.agg cs)=false:=by cases kd<;>rfl
   rw[this]
  ·rfl
 ·rfl
def fT (l:List (List UInt8)):Value:=.agg (l.map fun s=>Value.string ⟨⟨s⟩⟩).toArray
structure uL (P:Program) (kt:TypeId) (N:Nat):Prop where
 law:WideMaps.KeyLaw P kt
 of:∀l:List (List UInt8),l.length=N->(∀s∈l,s.length<=maxLen)->∃lit,keyOf P kt (fT l)=some lit
theorem IV:∀{l:List (List UInt8)} {us:List Value},aQ G (l.map .str) us->us=l.map fun s=>Value.string ⟨⟨s⟩⟩
 | [],us,h=>Qn h.1
 | s::l,[],h=>by have:=h.1;simp at this
 | s::l,x::us,h=>by
   have h1:VR G (.str s) x:=h.2 0 _ _ rfl rfl;cases h1;rw[adW,IV (l:=l) (us:=us) ⟨by have:=h.1;simpa using this,fun i c u a b=>h.2 (i+1) c u (by simpa using a) (by simpa using b)⟩]
theorem AL {l:List (List UInt8)} (h:VR G (.agg (l.map .str)) v):v=fT l:=by
 cases h with
 | agg h1 h2=>rw[IV ⟨h1,h2⟩];rfl
theorem Rt {l m:List (List UInt8)} (h:fT l=fT m):l=m:=by
 unfold fT at h;injection h with h;have h:=congrArg Array.toList h;simp only at h
 have:∀{l m:List (List UInt8)},l.map (fun s=>Value.string ⟨⟨s⟩⟩)=m.map (fun s=>Value.string ⟨⟨s⟩⟩)->l=m:=by
  intro l;induction l with
  | nil=>intro m h;cases m with
    | nil=>rfl
    | cons y m=>simp at h
  | cons x l ih=>intro m h;cases m with
    | nil=>simp at h
    | cons y m=>
      simp only[adW,List.cons.injEq,Value.string.injEq,ByteArray.mk.injEq,Array.mk.injEq]at h;rw[h.1,ih h.2]
 exact this h
abbrev fG:=List (List (List UInt8)×MV×Nat)
def cP (M:fG):vx:=M.map fun p=>(.agg (p.1.map .str),p.2.1,p.2.2)
def iC (l:List (List UInt8)) (M:fG):Option MV:=(M.find? (·.1==l)).map (·.2.1)
def ja (l:List (List UInt8)) (y:MV) (ck:Nat) (M:fG):fG:=if M.any (·.1==l)then M.map (fun p=>if p.1=l then(l,y,p.2.2)else p)else M++[(l,y,ck)]
def KB (l:List (List UInt8)) (ck:Nat) (M:fG):Nat:=if M.any (·.1==l)then ck else ck+1
structure nT (N:Nat) (M:fG):Prop where
 len:∀p∈M,p.1.length=N/\∀s∈p.1,s.length<=maxLen
 one:(M.map (·.1)).Nodup
theorem KC {M:fG} (h:(M.map (·.1)).Nodup) {j:Nat} {p:List (List UInt8)×MV×Nat} (hp:M[j]?=some p):iC p.1 M=some p.2.1:=by
 unfold iC;induction M generalizing j with
 | nil=>simp at hp
 | cons x M ih=>
   simp only[adW,List.nodup_cons]at h;cases j with
   | zero=>simp only[Zk,Option.some.injEq]at hp;subst hp;simp
   | succ j=>
     simp only[adX]at hp;have hm:p.1∈M.map (·.1):=ajo (agc hp)
     have hne:(x.1==p.1)=false:=by
      rw[beq_eq_false_iff_ne];intro e;exact h.1 (e▸hm)
     rw[List.find?_cons,hne];exact ih h.2 hp
theorem xy {M:fG} {l:List (List UInt8)} (h:∀p∈M,p.1≠l):iC l M=none:=by
 unfold iC;rw[List.find?_eq_none.2 (fun p hp=>by simpa using h p hp)];rfl
theorem ic.keys {M:fG} {E:List MapEntry} (h:ic G (cP M) E):E.length=M.length/\∀(j:Nat) (p:List (List UInt8)×MV×Nat) (x:MapEntry),M[j]?=some p->E[j]?=some x->x.key=fT p.1/\VR G p.2.1 x.val/\x.born=p.2.2:=by
 have hl:E.length=M.length:=by have:=h.key.1;simpa[cP]using this
 refine⟨hl,fun j p x hp hx=>⟨?_,?_,?_⟩⟩
 ·exact AL (h.key.2 j _ _ (by simp[cP,hp]) (by simp[hx]))
 ·exact h.val.2 j _ _ (by simp[cP,hp]) (by simp[hx])
 ·have:=congrArg (fun l=>l[j]?) h.born;simpa[cP,hp,hx]using this
theorem AM {kt:TypeId} {N:Nat} (K:uL P kt N) {M:fG} {E:List MapEntry} {l:List (List UInt8)} (hM:nT N M) (hE:ic G (cP M) E) (hl:l.length=N) (hs:∀s∈l,s.length<=maxLen) (w:World):
  ((Instr.findKey kt (fT l) E).run P w= .ok none w/\∀p∈M,p.1≠l)\/∃(j:Nat) (p:List (List UInt8)×MV×Nat) (x:MapEntry),(Instr.findKey kt (fT l) E).run P w= .ok (some (j,x.val)) w/\M[j]?=some p/\p.1=l/\E[j]?=some x/\VR G p.2.1 x.val:=by
 obtain⟨lit,yy⟩:=K.of l hl hs;obtain⟨h1,h2⟩:=hE.keys
 have jV:∀x∈E,∃q,keyOf P kt x.key=some q:=fun x hx=>by
  obtain⟨j,hj,rfl⟩:=am5.1 hx;have Xg:j<M.length:=by omega
  have:=(h2 j _ _ (Ma Xg) (Ma hj)).1;rw[this];exact K.of _ (hM.len _ (ahP Xg)).1 (hM.len _ (ahP Xg)).2
 rcases K.law.find w yy E jV with⟨g1,g2⟩ | ⟨j,x,g1,g2,g3⟩
 ·refine .inl ⟨g1,fun p hp e=>?_⟩;obtain⟨j,hj,rfl⟩:=am5.1 hp;have hjE:j<E.length:=by omega
  have:=(h2 j _ _ (Ma hj) (Ma hjE)).1;exact g2 _ (ahP hjE) (by rw[this,e])
 ·have hjE:=(adZ.1 g2).1;have Xg:j<M.length:=by omega
  have h3:=h2 j _ _ (Ma Xg) g2;exact .inr ⟨j,M[j],x,g1,Ma Xg,Rt (h3.1.symm.trans g3),g2,h3.2.1⟩
theorem ic.ajM {M:fG} {E:List MapEntry} {l:List (List UInt8)} {y:MV} {yv:Value} (hM:(M.map (·.1)).Nodup) (hE:ic G (cP M) E) (hy:VR G y yv) {j:Nat} {p:List (List UInt8)×MV×Nat} (hp:M[j]?=some p) (dH:p.1=l) (hk:VR G (.agg (l.map .str)) (fT l)):
  ic G (cP (M.map fun p=>if p.1=l then(l,y,p.2.2)else p)) (E.modify j fun x=>{x with key:=fT l,val:=yv}):=by
 have e:cP (M.map fun p=>if p.1=l then(l,y,p.2.2)else p)=setAt (cP M) j (.agg (l.map .str)) y:=by
  clear hE hy hk;unfold cP setAt;induction M generalizing j with
  | nil=>simp at hp
  | cons x M ih=>
    simp only[adW,List.nodup_cons]at hM;cases j with
    | zero=>
      simp only[Zk,Option.some.injEq]at hp;subst hp
      have dF:M.map (fun p=>if p.1=l then(l,y,p.2.2)else p)=M:=by
       have:∀q∈M,(if q.1=l then(l,y,q.2.2)else q)=q:=fun q hq=>if_neg fun e=>hM.1 (by rw[dH, <-e];exact ajo hq)
       calc M.map (fun p=>if p.1=l then(l,y,p.2.2)else p)=M.map id:=List.map_congr_left this
        _=M:=by simp
      simp only[adW,List.modify_zero_cons,if_pos dH];rw[dF]
    | succ j=>
      simp only[adX]at hp;have hne:¬x.1=l:=fun e=>hM.1 (by rw[e, <-dH];exact ajo (agc hp))
      simp only[adW,List.modify_succ_cons,if_neg hne];rw[ih hM.2 hp]
 rw[e];exact ic.modify hk hy j hE
theorem aa3 (l:List (List UInt8)):VR G (.agg (l.map .str)) (fT l):=by
 unfold fT;refine .agg (by simp) fun i c u h1 h2=>?_
 simp only[ajn,anc]at h1 h2;obtain⟨s,h3,rfl⟩:=h1;obtain⟨t,h4,rfl⟩:=h2;rw[h3]at h4;injection h4 with h4;subst h4
 exact .str
def fH (P:Program) (n:Sz) (D:List Deferred) (o:Oper) (e:Env) (O:VH) (m:MV):Prop:=∀G a w,WR G O w->FR G n D e a->∃u,VR G m u/\∀x,Sx G w x->(execOp a.eval o).run P x= .ok (.value u) x
theorem aL.hold {i:Nat} {o:Oper} {K:Env->VH->Prop} (ho:ops[i]?=some o) (hg:aN ops o e=some true) (hd:bC n o.dst=true) (hy:fH P n D o e O m) (h:K (aZ o.dst m e) O):aL P n D ops i e O Q K:=by
 refine aL.jH (M:=fun m' O'=>m'=m/\O'=O) ho hg hd (fun G a w hw hf=>?_) (by rintro m' O' ⟨rfl,rfl⟩;exact h);obtain⟨u,hu,hr⟩:=hy G a w hw hf;exact⟨m,O,u,w,G,⟨rfl,rfl⟩,hr w hw.sx,Gh.Le.refl G,hw,hu⟩
theorem VL.hold {f:Fl} {o:Oper} {L:List (Fl×Oper)} (hh:(f= .one/\(md= .plain\/md= .any))\/f= .rd) (hg:aN ops o e=some true) (hd:bC n o.dst=true) (hy:fH P n D o e O m) (h:VL P n D md ops L (aZ o.dst m e) O Q):VL P n D md ops ((f,o)::L) e O Q:=by
 intro fuel listed ix hf hp
 match ix,hf with
 | (i,g)::ix,hf=>
   obtain⟨rfl,ho,hf⟩:=hf;cases md with
   | plain=>exact iU.one (aL.hold ho hg hd hy (h 0 #[] ix hf (fun h=>absurd rfl h)))
   | any=>
     obtain⟨h1,h2⟩:=hp (by simp);cases fuel with
     | zero=>cases h2
     | succ fuel=>
       simp only[cV,Qm]at h2;have hk:=h fuel (listed.setIfInBounds i true) ix hf (fun _=>⟨h1,h2.2⟩);rcases hh with⟨rfl,_⟩ | rfl
       ·have hr:Region.ready .any ops listed=[i]:=by simpa using h2.1
        exact cE.all hr (by simp) fun j hj=>by
         obtain rfl:j=i:=by simpa using hj
         exact aL.hold ho hg hd hy hk
       ·exact absurd h2.1 (by simp)
   | reads=>
     obtain⟨h1,h2⟩:=hp (by simp);cases fuel with
     | zero=>cases h2
     | succ fuel=>
       simp only[cV,Qm]at h2;have hk:=h fuel (listed.setIfInBounds i true) ix hf (fun _=>⟨h1,h2.2⟩);rcases hh with⟨_,h3 | h3⟩ | rfl
       ·cases h3
       ·cases h3
       intro G a w hw aW;obtain⟨u,hu,cC⟩:=hy G a w hw aW;have h3:Region.free .any ops listed i=true/\(Region.ready .any ops listed).contains i=true:=by simp_all
       exact wpAnyH_take ho h1 h3.1 h3.2 (iA hd) (.inl ⟨bA aW hg,fun w' Ew=>by rw[Ew];exact cC w hw.sx⟩) rfl (hk G _ w hw (aW.aZ hd hu))
   | held brk=>
     obtain⟨h1,h2⟩:=hp (by simp);cases fuel with
     | zero=>cases h2
     | succ fuel=>
       simp only[cV,Qm]at h2;have hk:=h fuel (listed.setIfInBounds i true) ix hf (fun _=>⟨h1,h2.2⟩);rcases hh with⟨_,h3 | h3⟩ | rfl
       ·cases h3
       ·cases h3
       simp only[Qm]at h2
       exact bQ.take ho h1 h2.1.1.1 h2.1.1.2 h2.1.2 hd (fun G a w hw aW=>by
        obtain⟨u,hu,cC⟩:=hy G a w hw aW;exact⟨u,hu,.inl ⟨bA aW hg,fun x hx=>cC x hx⟩⟩) hk
def zx (ok:Bool) (z:MV):Option MV->MV
 | some m=>if ok then .tuple [m,.v (.bool true)]else m
 | none=>if ok then .tuple [z,.v (.bool false)]else z
theorem Ud {z m:MV}:zx false z (some m)=m:=rfl
theorem ae8 {z m:MV}:zx true z (some m)= .tuple [m,.v (.bool true)]:=rfl
theorem ae9 {z:MV}:zx false z none=z:=rfl
theorem KD {z:MV}:zx true z none= .tuple [z,.v (.bool false)]:=rfl
theorem δ {kt et:TypeId} {N:Nat} (K:uL P kt N) (ht:aO P tab) {d:Option Tmp} {t ty:TypeId} {x y:Operand} {ok:Bool} {ps:String} {af:Array Edge} {g:Option (Nat×Bool)} {b ck:Nat} {M:fG} {l:List (List UInt8)} {te:cL} {z:MV} (hU:P.underlying t=some (.map kt et)) (oq:tab et=some te) (hz:xn te=some z)
  (hx:ev e x=some (.map b)) (hb:O.hp b=some (.map (cP M) ck)) (hM:nT N M) (hy:ev e y=some (.agg (l.map .str))) (hl:l.length=N) (hs:∀s∈l,s.length<=maxLen):fH P n D (.mk d (.lookup t x y ok) ty ps af g) e O (zx ok z (iC l M)):=by
 intro G a w hw hf;have h1:=hf.ev hx;have h2:=hf.ev hy;generalize pI:a.eval x=u at h1;generalize zp:a.eval y=v at h2;have hv:=AL h2;subst hv;cases h1 with
 | map eQ=>
   rename_i b';obtain⟨b2,E,e1,e2,e3,e4,e5⟩:=hw.map _ _ _ hb;rw[eQ]at e1;injection e1 with e1;subst e1
   have hE:ic G (cP M) E.toList:=⟨e3,e4,e5⟩;obtain⟨lit,yy⟩:=K.of l hl hs;obtain⟨zv,z1,z2⟩:=ze (ht et te oq) hz;have agm:∀y,Sx G w y->y.heap[b']?=some (.map E ck):=fun y hy=>(hy.2 _ _ eQ).trans e2
   by_cases hin:∃p∈M,p.1=l
   ·have h3:=AM K hM hE hl hs w;rcases h3 with⟨_,g2⟩ | ⟨j,p,q,_,g2,g3,g4,g5⟩
    ·obtain⟨p,hp,e⟩:=hin;exact absurd e (g2 p hp)
    have eD:iC l M=some p.2.1:=by rw[<-g3];exact KC hM.one g2
    rw[eD];refine⟨if ok then .tuple #[q.val,.bool true]else q.val,?_,fun yw hyw=>?_⟩
    ·cases ok
     ·exact g5
     ·exact VR.tuple (us:=[q.val,.bool true]) rfl (aQ.cons g5 (aQ.cons (.v rfl) aQ.nil)).2
    ·have hr:(Instr.findKey kt (fT l) E.toList).run P yw= .ok (some (j,q.val)) yw:=by
      rcases AM K hM hE hl hs yw with⟨_,g6⟩ | ⟨j',p',q',g6,g7,g8,g9,_⟩
      ·exact absurd g3 (g6 p (agc g2))
      ·have mr:j'=j:=by
        have h5:(M.map (·.1))[j']?=some l:=by simp[g7,g8]
        have h6:(M.map (·.1))[j]?=some l:=by simp[g2,g3]
        exact(List.getElem?_inj (by simpa using(adZ.1 g7).1) hM.one).1 (h5.trans h6.symm)
       subst mr;rw[g4]at g9;injection g9 with g9;subst g9
       exact g6
     have FB:=K.law.check yw E.isEmpty yy;simp only[execOp,pI,zp,Instr.lookup,Sem.run_bind,run_underlying hU,Result.andThen_ok,MapKept.run_getObj_map (agm yw hyw),FB,hr,Sem.run_pure]
   ·have dF:∀p∈M,p.1≠l:=fun p hp e=>hin ⟨p,hp,e⟩
    rw[xy dF];refine⟨if ok then .tuple #[zv,.bool false]else zv,?_,fun yw hyw=>?_⟩
    ·cases ok
     ·exact z2 G
     ·exact VR.tuple (us:=[zv,.bool false]) rfl (aQ.cons (z2 G) (aQ.cons (.v rfl) aQ.nil)).2
    ·have hr:(Instr.findKey kt (fT l) E.toList).run P yw= .ok none yw:=by
      rcases AM K hM hE hl hs yw with⟨g6,_⟩ | ⟨j',p',q',_,g7,g8,_⟩
      ·exact g6
      ·exact absurd g8 (dF p' (agc g7))
     have FB:=K.law.check yw E.isEmpty yy;simp only[execOp,pI,zp,Instr.lookup,Sem.run_bind,run_underlying hU,Result.andThen_ok,MapKept.run_getObj_map (agm yw hyw),FB,hr,Sem.run_pure,z1]
def oD (P:Program) (n:Sz) (D:List Deferred) (o:Oper) (e:Env) (O O':VH):Prop:=∀G a w,WR G O w->FR G n D e a->∃w' H,(execOp a.eval o).run P w= .ok .skip w'/\Gh.Le G H/\WR H O' w'
theorem aL.oE {i:Nat} {o:Oper} {K:Env->VH->Prop} (ho:ops[i]?=some o) (hg:aN ops o e=some true) (hd:bC n o.dst=true) (hy:oD P n D o e O O') (h:K (aZ o.dst cT e) O'):aL P n D ops i e O Q K:=by
 intro G a w hw aW;obtain⟨w',H,hr,h1,h2⟩:=hy G a w hw aW;simp only[wpOp,ho,bA aW hg,if_true];refine .inl ?_;unfold Oper.wp;rw[hr];exact⟨_,_,H,h1,h2,(aW.mono h1).aZ hd lL,h⟩
theorem VL.oE {o:Oper} {L:List (Fl×Oper)} (hg:aN ops o e=some true) (hd:bC n o.dst=true) (hy:oD P n D o e O O')
  (qs:∀brk,md= .held brk->∀i,ops[i]?=some o->brk.contains i=true) (h:VL P n D md ops L (aZ o.dst cT e) O' Q):VL P n D md ops ((.one,o)::L) e O Q:=by
 intro fuel listed ix hf hp
 match ix,hf with
 | (i,g)::ix,hf=>
   obtain⟨rfl,ho,hf⟩:=hf;cases md with
   | plain=>exact iU.one (aL.oE ho hg hd hy (h 0 #[] ix hf (fun h=>absurd rfl h)))
   | any=>
     obtain⟨h1,h2⟩:=hp (by simp);cases fuel with
     | zero=>cases h2
     | succ fuel=>
       simp only[cV,Qm]at h2;have hr:Region.ready .any ops listed=[i]:=by simpa using h2.1
       exact cE.all hr (by simp) fun j hj=>by
        obtain rfl:j=i:=by simpa using hj
        exact aL.oE ho hg hd hy (h fuel (listed.setIfInBounds j true) ix hf (fun _=>⟨h1,h2.2⟩))
   | reads=>
     obtain⟨h1,h2⟩:=hp (by simp);cases fuel with
     | zero=>cases h2
     | succ fuel=>
       simp only[cV,Qm]at h2;exact absurd h2.1 (by simp)
   | held brk=>
     obtain⟨h1,h2⟩:=hp (by simp);cases fuel with
     | zero=>cases h2
     | succ fuel=>
       simp only[cV,Qm]at h2;have hr:Region.ready .any ops listed=[i]:=by simpa using h2.1.1
       have yR:∀j,(listed.setIfInBounds i true).getD j true=false\/j=i->brk.contains j=true:=by
        rcases sD ho h2.1.2 with⟨h3,_⟩ | h3
        ·rw[qs brk rfl i ho]at h3;cases h3
        ·exact h3
       exact bQ.ZI hr yR (aL.oE ho hg hd hy (h fuel (listed.setIfInBounds i true) ix hf (fun _=>⟨h1,h2.2⟩)))
theorem oD.ja {kt et:TypeId} {N:Nat} (K:uL P kt N) {d:Option Tmp} {t ty:TypeId} {x y z:Operand} {ps:String} {af:Array Edge} {g:Option (Nat×Bool)} {b ck:Nat} {M:fG} {l:List (List UInt8)} (hU:P.underlying t=some (.map kt et))
  (hx:ev e x=some (.map b)) (hb:O.hp b=some (.map (cP M) ck)) (hM:nT N M) (hy:ev e y=some (.agg (l.map .str))) (hl:l.length=N) (hs:∀s∈l,s.length<=maxLen) (hz:ev e z=some m):oD P n D (.mk d (.mapUpdate t x y z) ty ps af g) e O (O.set b (.map (cP (ja l m ck M)) (KB l ck M))):=by
 intro G a w hw hf;have h1:=hf.ev hx;have h2:=hf.ev hy;have h3:=hf.ev hz;generalize pI:a.eval x=u at h1;generalize zp:a.eval y=v at h2;generalize haz:a.eval z=r at h3;have hv:=AL h2;subst hv;cases h1 with
 | map eQ=>
   rename_i b';obtain⟨b2,E,e1,e2,e3,e4,e5⟩:=hw.map _ _ _ hb;rw[eQ]at e1;injection e1 with e1;subst e1
   have hE:ic G (cP M) E.toList:=⟨e3,e4,e5⟩;obtain⟨lit,yy⟩:=K.of l hl hs;have FB:=K.law.check w false yy;rcases AM K hM hE hl hs w with⟨g1,g2⟩ | ⟨j,p,q,g1,g2,g3,g4,g5⟩
   ·have jY:M.any (·.1==l)=false:=by rw[List.any_eq_false];intro p hp;simpa using g2 p hp
    have hr:ic G (cP (M++[(l,m,ck)])) (E.push {key:=fT l,val:=r,born:=ck}).toList:=by
     rw[Array.toList_push];unfold cP;rw[ajp];exact hE.append (ic.cons rfl h2 h3 ic.nil)
    refine⟨?wx,G,?rn,Gh.Le.refl G,?wr⟩
    case wr=>rw[Go.Proofs.YtjpadehgejlebaaGreatDoor.ja,KB,jY];exact hw.tI (ck':=ck+1) hb eQ e2 hr
    case rn=>
     simp only[execOp,pI,zp,haz,Instr.mapUpdate,Sem.run_bind,run_underlying hU,Result.andThen_ok,MapKept.run_getObj_map e2,FB,g1,run_setObj_map _ e2];rfl
   ·have jY:M.any (·.1==l)=true:=List.any_eq_true.2 ⟨p,agc g2,by simp[g3]⟩;have KE:q.key=fT l:=by have:=(hE.keys.2 j p q g2 g4).1;rw[this,g3]
    have cX:=K.law.stays w yy;have hr:=ic.ajM hM.one hE h3 g2 g3 (aa3 l);rw[<-Array.toList_modify]at hr
    have xU:((E[j]?).map (·.key)).getD (fT l)=fT l:=by
     have:E[j]?=some q:=by simpa using g4
     rw[this];exact KE
    refine⟨?wy,G,?rm,Gh.Le.refl G,?ws⟩
    case ws=>rw[Go.Proofs.YtjpadehgejlebaaGreatDoor.ja,KB,jY];exact hw.tI (ck':=ck) hb eQ e2 hr
    case rm=>
     simp only[execOp,pI,zp,haz,Instr.mapUpdate,Sem.run_bind,run_underlying hU,Result.andThen_ok,MapKept.run_getObj_map e2,FB,g1,xU,cX,run_setObj_map _ e2];rfl
end
theorem qz {N:Nat} {M:fG} {l:List (List UInt8)} {y:MV} {ck:Nat} (h:nT N M) (hl:l.length=N) (hs:∀s∈l,s.length<=maxLen):nT N (ja l y ck M):=by
 unfold ja;split
 ·have hk:(M.map (fun p=>if p.1=l then(l,y,p.2.2)else p)).map (·.1)=M.map (·.1):=by
   rw[List.map_map];refine List.map_congr_left fun p _=>?_
   show(if p.1=l then(l,y,p.2.2)else p).1=p.1;split
   ·rename_i e;exact e.symm
   ·rfl
  refine⟨fun p hp=>?_,by rw[hk];exact h.one⟩;have:p.1∈M.map (·.1):=by rw[<-hk];exact ajo hp
  obtain⟨q,hq,e⟩:=List.mem_map.1 this;rw[<-e];exact h.len q hq
 ·rename_i dF;have dF:∀p∈M,¬p.1=l:=fun p hp e=>dF (List.any_eq_true.2 ⟨p,hp,by simp[e]⟩)
  refine⟨fun p hp=>?_,?_⟩
  ·rcases List.mem_append.1 hp with hp | hp
   ·exact h.len p hp
   ·rw[List.mem_singleton.1 hp];exact⟨hl,hs⟩
  ·rw[ajp,List.nodup_append];refine⟨h.one,by simp,fun x hx z hz e=>?_⟩;simp only[adW,am6,List.mem_singleton]at hz;obtain⟨q,hq,e2⟩:=List.mem_map.1 hx;exact dF q hq (by rw[e2,e,hz])
def Ue (P:Program):List Field->Nat->Bool
 | [],_=>true
 | f::r,i=>(match P.underlying f.type with | some .string=>true | _=>false)&&f.offset==i&&P.cellsOf f.type==1&&Ue P r (i+1)
def skB (P:Program) (kt:TypeId) (N:Nat):Bool:=match P.underlying kt with
 | some (.struct fs)=>P.keyType kt&&fs.all (·.name != "_")&&P.cellsOf kt==N&&fs.size==N&&Ue P fs.toList 0&&decide (kt<P.types.size)&&decide (P.types.size+2<=10000)
 | _=>false
theorem mapM_some {α β :Type} {g: α ->Option β}:∀{L:List α},(∀f∈L,∃y,g f=some y)->∃ys,L.mapM g=some ys
 | [],_=>⟨[],rfl⟩
 | f::L,h=>by
   obtain⟨y,hy⟩:=h f (by simp);obtain⟨ys,QY⟩:=mapM_some (L:=L) fun x hx=>h x (List.mem_cons_of_mem _ hx)
   exact⟨y::ys,by rw[List.mapM_cons,hy];simp[QY]⟩
theorem NA {P:Program}:∀{L:List Field} {i:Nat},Ue P L i=true->∀(j:Nat) (f:Field),L[j]?=some f->P.underlying f.type=some .string/\f.offset=i+j/\P.cellsOf f.type=1
 | [],_,_,j,f,h=>by simp at h
 | g::L,i,hB,j,f,h=>by
   simp only[Ue,Qm,beq_iff_eq]at hB;obtain⟨⟨⟨h1,h2⟩,h3⟩,h4⟩:=hB;cases j with
   | zero=>
     simp only[Zk,Option.some.injEq]at h;subst h;refine⟨?_,h2,h3⟩;split at h1
     ·assumption
     ·cases h1
   | succ j=>
     have:=NA h4 j f (by simpa using h);exact⟨this.1,by omega,this.2.2⟩
theorem uL.sH {P:Program} {kt:TypeId} {N:Nat} (hl:laidOutB P=true) (h:skB P kt N=true):uL P kt N:=by
 unfold skB at h;split at h
 ·rename_i fs hu;simp only[Qm,beq_iff_eq,decide_eq_true_eq]at h;obtain⟨⟨⟨⟨⟨⟨h1,h2⟩,h3⟩,h4⟩,h5⟩,h6⟩,h7⟩:=h;refine⟨deep_law_gate hl h7 h6 h1 (by rw[hu]),fun l hlen hs=>?_⟩
  have ail:(fT l).formed P kt=true:=by
   unfold fT Value.formed;simp only[hu];simp[hlen,h3]
  have aim:∃ls,P.keyLits (P.types.size+1) kt (fT l).cells.toList=some ls:=by
   obtain⟨D,hD⟩:∃D,P.types.size=D+1:=⟨P.types.size - 1,by have:0<P.types.size:=Nat.lt_of_le_of_lt (ani kt) h6;omega⟩
   rw[hD];unfold Program.keyLits;have hc:(fT l).cells.toList=l.map fun s=>Value.string ⟨⟨s⟩⟩:=by simp[fT,Value.cells]
   rw[hc];simp only[hu];rw[if_pos ⟨by simp[hlen,h3],h2⟩]
   obtain⟨ys,QY⟩:=mapM_some (L:=fs.toList) (g:=fun f=>P.keyLits (D+1) f.type (((l.map fun s=>Value.string ⟨⟨s⟩⟩).drop f.offset).take (P.cellsOf f.type))) fun f hf=>by
    obtain⟨j,hj,rfl⟩:=am5.1 hf;obtain⟨g1,g2,g3⟩:=NA h5 j _ (Ma hj);rw[ajk]at g2;have zy:j<l.length:=by rw[hlen, <-h4];simpa using hj
    have ajN:((l.map fun s=>Value.string ⟨⟨s⟩⟩).drop j).take 1=[Value.string ⟨⟨l[j]⟩⟩]:=by
     rw[List.drop_eq_getElem_cons (by simpa using zy)];simp
    rw[g2,g3,ajN];unfold Program.keyLits;simp only[g1];exact⟨_,if_pos (hs _ (ahP zy))⟩
   exact⟨ys.flatten,by rw[QY];rfl⟩
  obtain⟨ls,Xh⟩:=aim;refine⟨.string (keyBytes ls),?_⟩;unfold keyOf;simp only[hu];rw[h1,ail,Xh];rfl
 ·cases h
set_option linter.defProp false in
def zk:=zP wk<|zP wu<|zP @KA<|zP @DI<|zP @ane.{0,0}<|zP @Ud<|zP @ae8<|zP @ae9<|zP @KD<|zP @aaT<|zP @Option.isSome_some.{0}<|zP @ahL.{0}<|zP @tW @ak
section
variable {A1 A2 A3 A4 A5 A6 A7 A8 A9 P Q:Prop}
theorem KF (q:Q) (h:P=Q:=by conv=>lhs;simp(disch:=first | omega | (simp only[ds]<;>omega) | fail) only[zk,cT,Nat.reduceLT,Nat.reduceAdd,Nat.reduceMul,Nat.reduceSub,Nat.reduceBEq,Nat.reduceEqDiff,Int.reduceToNat,reduceIte]):P:=(h).mpr q
theorem ab (a1:A1) (q:Q) (h:A1->P=Q:=by intro a1;conv=>lhs;simp(disch:=first | omega | (simp only[ds]<;>omega) | fail) only[zk,cT,Nat.reduceLT,Nat.reduceAdd,Nat.reduceMul,Nat.reduceSub,Nat.reduceBEq,Nat.reduceEqDiff,Int.reduceToNat,reduceIte,a1]):P:=(h a1).mpr q
theorem fU (a1:A1) (h:A1->P:=by intro a1;simp(disch:=first | omega | (simp only[ds]<;>omega) | fail) only[zk,cT,Nat.reduceLT,Nat.reduceAdd,Nat.reduceMul,Nat.reduceSub,Nat.reduceBEq,Nat.reduceEqDiff,Int.reduceToNat,reduceIte,a1]):P:=h a1
theorem ao (a1:A1) (a2:A2) (q:Q) (h:A1->A2->P=Q:=by intro a1 a2;conv=>lhs;simp(disch:=first | omega | (simp only[ds]<;>omega) | fail) only[zk,cT,Nat.reduceLT,Nat.reduceAdd,Nat.reduceMul,Nat.reduceSub,Nat.reduceBEq,Nat.reduceEqDiff,Int.reduceToNat,reduceIte,a1,a2]):P:=(h a1 a2).mpr q
theorem dX (a1:A1) (a2:A2) (h:A1->A2->P:=by intro a1 a2;simp(disch:=first | omega | (simp only[ds]<;>omega) | fail) only[zk,cT,Nat.reduceLT,Nat.reduceAdd,Nat.reduceMul,Nat.reduceSub,Nat.reduceBEq,Nat.reduceEqDiff,Int.reduceToNat,reduceIte,a1,a2]):P:=h a1 a2
theorem aG (a1:A1) (a2:A2) (a3:A3) (q:Q) (h:A1->A2->A3->P=Q:=by intro a1 a2 a3;conv=>lhs;simp(disch:=first | omega | (simp only[ds]<;>omega) | fail) only[zk,cT,Nat.reduceLT,Nat.reduceAdd,Nat.reduceMul,Nat.reduceSub,Nat.reduceBEq,Nat.reduceEqDiff,Int.reduceToNat,reduceIte,a1,a2,a3]):P:=(h a1 a2 a3).mpr q
theorem kt3 (a1:A1) (a2:A2) (a3:A3) (h:A1->A2->A3->P:=by intro a1 a2 a3;simp(disch:=first | omega | (simp only[ds]<;>omega) | fail) only[zk,cT,Nat.reduceLT,Nat.reduceAdd,Nat.reduceMul,Nat.reduceSub,Nat.reduceBEq,Nat.reduceEqDiff,Int.reduceToNat,reduceIte,a1,a2,a3]):P:=h a1 a2 a3
theorem cR (a1:A1) (a2:A2) (a3:A3) (a4:A4) (q:Q) (h:A1->A2->A3->A4->P=Q:=by intro a1 a2 a3 a4;conv=>lhs;simp(disch:=first | omega | (simp only[ds]<;>omega) | fail) only[zk,cT,Nat.reduceLT,Nat.reduceAdd,Nat.reduceMul,Nat.reduceSub,Nat.reduceBEq,Nat.reduceEqDiff,Int.reduceToNat,reduceIte,a1,a2,a3,a4]):P:=(h a1 a2 a3 a4).mpr q
theorem kt4 (a1:A1) (a2:A2) (a3:A3) (a4:A4) (h:A1->A2->A3->A4->P:=by intro a1 a2 a3 a4;simp(disch:=first | omega | (simp only[ds]<;>omega) | fail) only[zk,cT,Nat.reduceLT,Nat.reduceAdd,Nat.reduceMul,Nat.reduceSub,Nat.reduceBEq,Nat.reduceEqDiff,Int.reduceToNat,reduceIte,a1,a2,a3,a4]):P:=h a1 a2 a3 a4
theorem iN (a1:A1) (a2:A2) (a3:A3) (a4:A4) (a5:A5) (q:Q) (h:A1->A2->A3->A4->A5->P=Q:=by intro a1 a2 a3 a4 a5;conv=>lhs;simp(disch:=first | omega | (simp only[ds]<;>omega) | fail) only[zk,cT,Nat.reduceLT,Nat.reduceAdd,Nat.reduceMul,Nat.reduceSub,Nat.reduceBEq,Nat.reduceEqDiff,Int.reduceToNat,reduceIte,a1,a2,a3,a4,a5]):P:=(h a1 a2 a3 a4 a5).mpr q
theorem kt5 (a1:A1) (a2:A2) (a3:A3) (a4:A4) (a5:A5) (h:A1->A2->A3->A4->A5->P:=by intro a1 a2 a3 a4 a5;simp(disch:=first | omega | (simp only[ds]<;>omega) | fail) only[zk,cT,Nat.reduceLT,Nat.reduceAdd,Nat.reduceMul,Nat.reduceSub,Nat.reduceBEq,Nat.reduceEqDiff,Int.reduceToNat,reduceIte,a1,a2,a3,a4,a5]):P:=h a1 a2 a3 a4 a5
theorem HJ (a1:A1) (a2:A2) (a3:A3) (a4:A4) (a5:A5) (a6:A6) (q:Q) (h:A1->A2->A3->A4->A5->A6->P=Q:=by intro a1 a2 a3 a4 a5 a6;conv=>lhs;simp(disch:=first | omega | (simp only[ds]<;>omega) | fail) only[zk,cT,Nat.reduceLT,Nat.reduceAdd,Nat.reduceMul,Nat.reduceSub,Nat.reduceBEq,Nat.reduceEqDiff,Int.reduceToNat,reduceIte,a1,a2,a3,a4,a5,a6]):P:=(h a1 a2 a3 a4 a5 a6).mpr q
theorem kt6 (a1:A1) (a2:A2) (a3:A3) (a4:A4) (a5:A5) (a6:A6) (h:A1->A2->A3->A4->A5->A6->P:=by intro a1 a2 a3 a4 a5 a6;simp(disch:=first | omega | (simp only[ds]<;>omega) | fail) only[zk,cT,Nat.reduceLT,Nat.reduceAdd,Nat.reduceMul,Nat.reduceSub,Nat.reduceBEq,Nat.reduceEqDiff,Int.reduceToNat,reduceIte,a1,a2,a3,a4,a5,a6]):P:=h a1 a2 a3 a4 a5 a6
theorem kw7 (a1:A1) (a2:A2) (a3:A3) (a4:A4) (a5:A5) (a6:A6) (a7:A7) (q:Q) (h:A1->A2->A3->A4->A5->A6->A7->P=Q:=by intro a1 a2 a3 a4 a5 a6 a7;conv=>lhs;simp(disch:=first | omega | (simp only[ds]<;>omega) | fail) only[zk,cT,Nat.reduceLT,Nat.reduceAdd,Nat.reduceMul,Nat.reduceSub,Nat.reduceBEq,Nat.reduceEqDiff,Int.reduceToNat,reduceIte,a1,a2,a3,a4,a5,a6,a7]):P:=(h a1 a2 a3 a4 a5 a6 a7).mpr q
theorem Xi (a1:A1) (a2:A2) (a3:A3) (a4:A4) (a5:A5) (a6:A6) (a7:A7) (a8:A8) (q:Q) (h:A1->A2->A3->A4->A5->A6->A7->A8->P=Q:=by intro a1 a2 a3 a4 a5 a6 a7 a8;conv=>lhs;simp(disch:=first | omega | (simp only[ds]<;>omega) | fail) only[zk,cT,Nat.reduceLT,Nat.reduceAdd,Nat.reduceMul,Nat.reduceSub,Nat.reduceBEq,Nat.reduceEqDiff,Int.reduceToNat,reduceIte,a1,a2,a3,a4,a5,a6,a7,a8]):P:=(h a1 a2 a3 a4 a5 a6 a7 a8).mpr q
theorem kw9 (a1:A1) (a2:A2) (a3:A3) (a4:A4) (a5:A5) (a6:A6) (a7:A7) (a8:A8) (a9:A9) (q:Q) (h:A1->A2->A3->A4->A5->A6->A7->A8->A9->P=Q:=by intro a1 a2 a3 a4 a5 a6 a7 a8 a9;conv=>lhs;simp(disch:=first | omega | (simp only[ds]<;>omega) | fail) only[zk,cT,Nat.reduceLT,Nat.reduceAdd,Nat.reduceMul,Nat.reduceSub,Nat.reduceBEq,Nat.reduceEqDiff,Int.reduceToNat,reduceIte,a1,a2,a3,a4,a5,a6,a7,a8,a9]):P:=(h a1 a2 a3 a4 a5 a6 a7 a8 a9).mpr q
end
theorem aa:aO Tryz.prog (bY Tryz.prog):=ZJ _
theorem θ {n:Sz} {D:List Deferred} {c d:Code} {e:Env} {O:VH} {Q:VQ} (h:WC Tryz.prog (bY Tryz.prog) n D c e O (rI (Kv Tryz.prog n D d Q) Q)):VC Tryz.prog n D (.seq c d) e O Q:=VC.ag aa h
theorem ι {n:Sz} {D:List Deferred} {c:Code} {e:Env} {O:VH} {Q:VQ} (h:WC Tryz.prog (bY Tryz.prog) n D c e O Q):VC Tryz.prog n D c e O Q:=WC.sound aa h
theorem κ {n:Sz} {D:List Deferred} {c d:Code} {e:Env} {O:VH} {Q:VQ} {A1 R:Prop} (a1:A1) (q:R) (h:A1->WC Tryz.prog (bY Tryz.prog) n D c e O (rI (Kv Tryz.prog n D d Q) Q)=R:=by intro a1;conv=>lhs;simp(disch:=first | omega | (simp only[ds]<;>omega) | fail) only[zk,cT,Nat.reduceLT,Nat.reduceAdd,Nat.reduceMul,Nat.reduceSub,Nat.reduceBEq,Nat.reduceEqDiff,Int.reduceToNat,reduceIte,a1]):VC Tryz.prog n D (.seq c d) e O Q:=θ ((h a1).mpr q)
theorem ν {n:Sz} {D:List Deferred} {c:Code} {e:Env} {O:VH} {Q:VQ} {A1 R:Prop} (a1:A1) (q:R) (h:A1->WC Tryz.prog (bY Tryz.prog) n D c e O Q=R:=by intro a1;conv=>lhs;simp(disch:=first | omega | (simp only[ds]<;>omega) | fail) only[zk,cT,Nat.reduceLT,Nat.reduceAdd,Nat.reduceMul,Nat.reduceSub,Nat.reduceBEq,Nat.reduceEqDiff,Int.reduceToNat,reduceIte,a1]):VC Tryz.prog n D c e O Q:=ι ((h a1).mpr q)
theorem ξ {n:Sz} {D:List Deferred} {c d:Code} {e:Env} {O:VH} {Q:VQ} {A1 A2 R:Prop} (a1:A1) (a2:A2) (q:R) (h:A1->A2->WC Tryz.prog (bY Tryz.prog) n D c e O (rI (Kv Tryz.prog n D d Q) Q)=R:=by intro a1 a2;conv=>lhs;simp(disch:=first | omega | (simp only[ds]<;>omega) | fail) only[zk,cT,Nat.reduceLT,Nat.reduceAdd,Nat.reduceMul,Nat.reduceSub,Nat.reduceBEq,Nat.reduceEqDiff,Int.reduceToNat,reduceIte,a1,a2]):VC Tryz.prog n D (.seq c d) e O Q:=θ ((h a1 a2).mpr q)
theorem ο {n:Sz} {D:List Deferred} {c:Code} {e:Env} {O:VH} {Q:VQ} {A1 A2 R:Prop} (a1:A1) (a2:A2) (q:R) (h:A1->A2->WC Tryz.prog (bY Tryz.prog) n D c e O Q=R:=by intro a1 a2;conv=>lhs;simp(disch:=first | omega | (simp only[ds]<;>omega) | fail) only[zk,cT,Nat.reduceLT,Nat.reduceAdd,Nat.reduceMul,Nat.reduceSub,Nat.reduceBEq,Nat.reduceEqDiff,Int.reduceToNat,reduceIte,a1,a2]):VC Tryz.prog n D c e O Q:=ι ((h a1 a2).mpr q)
abbrev TY (t:Nat) (d:TypeDesc) (a b:Nat) (z:List MV):Prop:=bY Tryz.prog t=some ⟨d,a,b,z⟩
abbrev TS (t:Nat) (d:TypeDesc) (a b:Nat) (z:List MV) (p:List (Nat×Nat)):Prop:=TY t d a b z/\ef d=true/\∀x,xi (bY Tryz.prog) t x=(mn (kU p) z x).map .agg
abbrev FL (t i f:Nat) (g:Bool) (s:Nat):Prop:=(∀k o,jU (bY Tryz.prog) t i (.ptr k o)=some (.ptr k (o+f)))/\(∀c o,jU (bY Tryz.prog) t i (.dE c o)=some (.dE c (o+f)))/\∀c,xf (bY Tryz.prog) t (.agg c) i=nK g s c f
theorem dQ {t a b:Nat} {d:TypeDesc} {z:List MV} (h:bY Tryz.prog t=some ⟨d,a,b,z⟩:=by kernel_rfl):TY t d a b z:=h
theorem iD {t a b:Nat} {d:TypeDesc} {z:List MV} {p:List (Nat×Nat)} (h:bY Tryz.prog t=some ⟨d,a,b,z⟩:=by kernel_rfl) (h1:ef d=true:=by kernel_rfl) (h2:∀x,xi (bY Tryz.prog) t x=(mn (kU p) z x).map .agg:=by intro x;kernel_rfl):TS t d a b z p:=⟨h,h1,h2⟩
theorem bu {t i f s:Nat} {g:Bool} (h:∀k o,jU (bY Tryz.prog) t i (.ptr k o)=some (.ptr k (o+f)):=by intro k o;kernel_rfl) (h1:∀c o,jU (bY Tryz.prog) t i (.dE c o)=some (.dE c (o+f)):=by intro c o;kernel_rfl) (h2:∀c,xf (bY Tryz.prog) t (.agg c) i=nK g s c f:=by intro c;kernel_rfl):FL t i f g s:=⟨h,h1,h2⟩
theorem T1:TY 1 Tryz.t1.desc 1 8 [.v .nilFunc]:=dQ
theorem T2:TY 2 (.int .i64) 1 8 [.v (.int .i64 0)]:=dQ
theorem T3:TY 3 (.int .i64) 1 8 [.v (.int .i64 0)]:=dQ
theorem T4:TY 4 .bool 1 1 [.v (.bool false)]:=dQ
theorem T5:TY 5 (.int .u8) 1 1 [.v (.int .u8 0)]:=dQ
theorem T6:TY 6 (.int .u8) 1 1 [.v (.int .u8 0)]:=dQ
theorem T7:TS 7 Tryz.t7.desc 4 24 [.v (.int .i64 0),.v (.int .i64 0),.v (.bool false),.v (.int .u8 0)] [(0,1),(1,1),(2,1),(3,1)]/\FL 7 0 0 false 1/\FL 7 1 1 false 1/\FL 7 2 2 false 1/\FL 7 3 3 false 1:=⟨iD,bu,bu,bu,bu⟩
theorem T8:TS 8 Tryz.t7.desc 4 24 [.v (.int .i64 0),.v (.int .i64 0),.v (.bool false),.v (.int .u8 0)] [(0,1),(1,1),(2,1),(3,1)]/\FL 8 0 0 false 1/\FL 8 1 1 false 1/\FL 8 2 2 false 1/\FL 8 3 3 false 1:=⟨iD,bu,bu,bu,bu⟩
theorem T9:TY 9 .string 1 16 [.str []]:=dQ
theorem Ru:TY 21 (.int .i32) 1 4 [.v (.int .i32 0)]:=dQ
theorem B6:TY 22 (.slice 48) 1 24 [.sl 0 [] .nil]:=dQ
theorem FC:TY 23 (.slice 42) 1 24 [.sl 0 [] .nil]:=dQ
theorem AN:TY 25 (.slice 29) 1 24 [.sl 0 [] .nil]:=dQ
theorem lN:TY 29 (.slice 3) 1 24 [.sl 0 [] .nil]:=dQ
theorem T37:TY 37 (.map 40 3) 1 8 [.v (.map none)]:=dQ
theorem T38:TY 38 (.map 3 29) 1 8 [.v (.map none)]:=dQ
theorem Xj:TS 40 Tryz.t39.desc 4 64 [.str [],.str [],.str [],.str []] [(0,1),(1,1),(2,1),(3,1)]/\FL 40 0 0 false 1/\FL 40 1 1 false 1/\FL 40 2 2 false 1/\FL 40 3 3 false 1:=⟨iD,bu,bu,bu,bu⟩
theorem Xk:TS 42 Tryz.t41.desc 7 96 [.str [],.str [],.str [],.str [],.v (.int .i64 0),.str [],.v (.int .i64 0)] [(0,4),(4,1),(5,1),(6,1)]/\FL 42 0 0 true 4/\FL 42 1 4 false 1/\FL 42 2 5 false 1/\FL 42 3 6 false 1:=⟨iD,bu,bu,bu,bu⟩
theorem T44:TY 44 (.slice 199) 1 24 [.sl 0 [] .nil]:=dQ
theorem T46:TS 46 Tryz.t45.desc 3 48 [.v (.bool false),.str [],.sl 0 [] .nil] [(0,1),(1,1),(2,1)]/\FL 46 0 0 false 1/\FL 46 1 1 false 1/\FL 46 2 2 false 1:=⟨iD,bu,bu,bu⟩
theorem Xl:TS 48 Tryz.t47.desc 13 168 [.v (.int .i64 0),.v (.int .i64 0),.v (.int .i64 0),.str [],.str [],.str [],.str [],.str [],.v (.bool false),.str [],.sl 0 [] .nil,.v (.int .i64 0),.v (.bool false)] [(0,1),(1,1),(2,1),(3,4),(7,1),(8,3),(11,1),(12,1)]/\FL 48 0 0 false 1/\FL 48 1 1 false 1/\FL 48 2 2 false 1/\FL 48 3 3 true 4/\FL 48 4 7 false 1/\FL 48 5 8 true 3/\FL 48 6 11 false 1/\FL 48 7 12 false 1:=⟨iD,bu,bu,bu,bu,bu,bu,bu,bu⟩
theorem T50:TY 50 (.pointer 82) 1 8 [.v (.pointer none)]:=dQ
theorem FD:TY 54 (.slice 150) 1 24 [.sl 0 [] .nil]:=dQ
theorem B7:TS 56 Tryz.t55.desc 8 120 [.str [],.str [],.str [],.str [],.str [],.v (.int .i64 0),.v (.int .i64 0),.sl 0 [] .nil] [(0,1),(1,1),(2,1),(3,1),(4,1),(5,1),(6,1),(7,1)]/\FL 56 0 0 false 1/\FL 56 1 1 false 1/\FL 56 2 2 false 1/\FL 56 3 3 false 1/\FL 56 4 4 false 1/\FL 56 5 5 false 1/\FL 56 6 6 false 1/\FL 56 7 7 false 1:=⟨iD,bu,bu,bu,bu,bu,bu,bu,bu⟩
theorem T57:TY 57 (.pointer 132) 1 8 [.v (.pointer none)]:=dQ
theorem AO:TS 60 Tryz.t59.desc 3 48 [.str [],.str [],.str []] [(0,1),(1,1),(2,1)]/\FL 60 0 0 false 1/\FL 60 1 1 false 1/\FL 60 2 2 false 1:=⟨iD,bu,bu,bu⟩
theorem T62:TY 62 (.slice 65) 1 24 [.sl 0 [] .nil]:=dQ
theorem T65:TY 65 (.slice 68) 1 24 [.sl 0 [] .nil]:=dQ
theorem T68:TS 68 Tryz.t67.desc 5 80 [.str [],.str [],.str [],.str [],.str []] [(0,4),(4,1)]/\FL 68 0 0 true 4/\FL 68 1 4 false 1:=⟨iD,bu,bu⟩
theorem T69:TY 69 (.slice 4) 1 24 [.sl 0 [] .nil]:=dQ
theorem T72:TY 72 Tryz.t72.desc 1 8 [.v .nilFunc]:=dQ
theorem T74:TY 74 (.map 60 146) 1 8 [.v (.map none)]:=dQ
theorem T75:TY 75 (.map 150 117) 1 8 [.v (.map none)]:=dQ
theorem T80:TS 80 Tryz.t79.desc 1 8 [.v (.int .i64 0)] [(0,0),(0,0),(0,1)]/\FL 80 2 0 false 1:=⟨iD,bu⟩
theorem T82:TS 82 Tryz.t81.desc 4 32 [.v (.map none),.v (.map none),.v (.int .i64 0),.v (.int .i64 0)] [(0,1),(1,1),(2,1),(3,1)]/\FL 82 0 0 false 1/\FL 82 1 1 false 1/\FL 82 2 2 true 1/\FL 82 3 3 true 1:=⟨iD,bu,bu,bu,bu⟩
theorem FE:TY 83 (.slice 56) 1 24 [.sl 0 [] .nil]:=dQ
theorem KG:TY 84 (.slice 170) 1 24 [.sl 0 [] .nil]:=dQ
theorem T86:TS 86 Tryz.t85.desc 11 192 [.v (.bool false),.str [],.str [],.str [],.str [],.str [],.str [],.str [],.sl 0 [] .nil,.sl 0 [] .nil,.sl 0 [] .nil] [(0,1),(1,3),(4,1),(5,1),(6,1),(7,1),(8,1),(9,1),(10,1)]/\FL 86 0 0 false 1/\FL 86 1 1 true 3/\FL 86 2 4 false 1/\FL 86 3 5 false 1/\FL 86 4 6 false 1/\FL 86 5 7 false 1/\FL 86 6 8 false 1/\FL 86 7 9 false 1/\FL 86 8 10 false 1:=⟨iD,bu,bu,bu,bu,bu,bu,bu,bu,bu⟩
theorem T87:TY 87 (.int .i64) 1 8 [.v (.int .i64 0)]:=dQ
theorem T90:TY 90 (.slice 204) 1 24 [.sl 0 [] .nil]:=dQ
theorem vX:TY 91 (.slice 93) 1 24 [.sl 0 [] .nil]:=dQ
theorem DJ:TS 93 Tryz.t92.desc 4 80 [.str [],.sl 0 [] .nil,.sl 0 [] .nil,.str []] [(0,1),(1,1),(2,1),(3,1)]/\FL 93 0 0 false 1/\FL 93 1 1 false 1/\FL 93 2 2 false 1/\FL 93 3 3 false 1:=⟨iD,bu,bu,bu,bu⟩
theorem T95:TY 95 (.pointer 174) 1 8 [.v (.pointer none)]:=dQ
theorem T98:TY 98 (.int .u32) 1 4 [.v (.int .u32 0)]:=dQ
theorem ajO:TS 100 Tryz.t99.desc 1 4 [.v (.int .u32 0)] [(0,0),(0,1)]/\FL 100 1 0 false 1:=⟨iD,bu⟩
theorem aa4:TS 102 Tryz.t101.desc 2 8 [.v (.int .i32 0),.v (.int .u32 0)] [(0,1),(1,1)]/\FL 102 0 0 false 1/\FL 102 1 1 false 1:=⟨iD,bu,bu⟩
theorem ajP:TS 104 Tryz.t103.desc 2 8 [.v (.int .i32 0),.v (.int .u32 0)] [(0,0),(0,2)]/\FL 104 1 0 true 2:=⟨iD,bu⟩
theorem ajQ:TS 106 Tryz.t105.desc 3 12 [.v (.int .u32 0),.v (.int .i32 0),.v (.int .u32 0)] [(0,0),(0,1),(1,2)]/\FL 106 1 0 true 1/\FL 106 2 1 true 2:=⟨iD,bu,bu⟩
theorem aa5:TS 108 Tryz.t107.desc 3 24 [.v (.int .i64 0),.v (.int .i64 0),.v (.int .i64 0)] [(0,1),(1,1),(2,1)]/\FL 108 0 0 false 1/\FL 108 1 1 false 1/\FL 108 2 2 false 1:=⟨iD,bu,bu,bu⟩
theorem NB:TS 110 Tryz.t109.desc 8 96 [.v (.int .i64 0),.str [],.str [],.str [],.v (.int .i64 0),.v (.int .i64 0),.v (.int .i64 0),.str []] [(0,1),(1,3),(4,3),(7,1)]/\FL 110 0 0 false 1/\FL 110 1 1 true 3/\FL 110 2 4 true 3/\FL 110 3 7 false 1:=⟨iD,bu,bu,bu,bu⟩
theorem ajR:TS 112 Tryz.t111.desc 9 120 [.sl 0 [] .nil,.v (.int .i64 0),.str [],.str [],.str [],.v (.int .i64 0),.v (.int .i64 0),.v (.int .i64 0),.str []] [(0,1),(1,8)]/\FL 112 0 0 false 1/\FL 112 1 1 true 8:=⟨iD,bu,bu⟩
theorem ajS:TS 114 Tryz.t113.desc 12 136 [.v (.int .u32 0),.v (.int .i32 0),.v (.int .u32 0),.sl 0 [] .nil,.v (.int .i64 0),.str [],.str [],.str [],.v (.int .i64 0),.v (.int .i64 0),.v (.int .i64 0),.str []] [(0,3),(3,9)]/\FL 114 0 0 true 3/\FL 114 1 3 true 9:=⟨iD,bu,bu⟩
theorem ajT:TS 116 Tryz.t115.desc 4 40 [.v (.int .u32 0),.v (.int .i32 0),.v (.int .u32 0),.sl 0 [] .nil] [(0,3),(3,1)]/\FL 116 0 0 true 3/\FL 116 1 3 false 1:=⟨iD,bu,bu⟩
theorem rL:TY 117 (.slice 9) 1 24 [.sl 0 [] .nil]:=dQ
theorem ajU:TS 132 Tryz.t131.desc 47 536 [.v (.pointer none),.v (.pointer none),.str [],.str [],.str [],.v (.int .i64 0),.v (.int .i64 0),.v (.int .u32 0),.v (.int .i32 0),.v (.int .u32 0),.sl 0 [] .nil,.v (.int .i64 0),.str [],.str [],.str [],.v (.int .i64 0),.v (.int .i64 0),.v (.int .i64 0),.str [],.v (.int .u32 0),.v (.int .i32 0),.v (.int .u32 0),.sl 0 [] .nil,.v (.int .u32 0),.v (.int .i32 0),.v (.int .u32 0),.sl 0 [] .nil,.v (.int .u32 0),.v (.int .i32 0),.v (.int .u32 0),.sl 0 [] .nil,.v (.int .u32 0),.v (.int .i32 0),.v (.int .u32 0),.v (.int .i64 0),.sl 0 [] .nil,.v (.int .i64 0),.sl 0 [] .nil,.sl 0 [] .nil,.v (.int .i64 0),.str [],.str [],.str [],.v (.int .i64 0),.v (.int .i64 0),.v (.int .i64 0),.str []] [(0,1),(1,1),(2,3),(5,1),(6,1),(7,12),(19,4),(23,4),(27,4),(31,16)]/\FL 132 0 0 false 1/\FL 132 1 1 false 1/\FL 132 2 2 true 3/\FL 132 3 5 false 1/\FL 132 4 6 true 1/\FL 132 5 7 true 12/\FL 132 6 19 true 4/\FL 132 7 23 true 4/\FL 132 8 27 true 4/\FL 132 9 31 true 16:=⟨iD,bu,bu,bu,bu,bu,bu,bu,bu,bu,bu⟩
theorem ajV:TY 134 Tryz.t134.desc 1 8 [.v .nilFunc]:=dQ
theorem Uf:TY 146 (.pointer 148) 1 8 [.v (.pointer none)]:=dQ
theorem agn:TS 148 Tryz.t147.desc 23 320 [.str [],.v (.int .u32 0),.v (.int .i32 0),.v (.int .u32 0),.v (.bool false),.str [],.str [],.str [],.str [],.str [],.str [],.str [],.sl 0 [] .nil,.sl 0 [] .nil,.sl 0 [] .nil,.v (.int .i64 0),.str [],.str [],.str [],.v (.int .i64 0),.v (.int .i64 0),.v (.int .i64 0),.str []] [(0,1),(1,3),(4,11),(15,8)]/\FL 148 0 0 false 1/\FL 148 1 1 true 3/\FL 148 2 4 true 11/\FL 148 3 15 true 8:=⟨iD,bu,bu,bu,bu⟩
theorem C9:TS 150 Tryz.t149.desc 2 32 [.str [],.str []] [(0,1),(1,1)]/\FL 150 0 0 false 1/\FL 150 1 1 false 1:=⟨iD,bu,bu⟩
theorem Ug:TY 152 (.pointer 155) 1 8 [.v (.pointer none)]:=dQ
theorem uM:TY 153 (.slice 5) 1 24 [.sl 0 [] .nil]:=dQ
theorem NC:TS 155 Tryz.t154.desc 2 32 [.v (.pointer none),.sl 0 [] .nil] [(0,1),(1,1)]/\FL 155 0 0 false 1/\FL 155 1 1 false 1:=⟨iD,bu,bu⟩
theorem ajW:TY 156 Tryz.t156.desc 1 8 [.v .nilFunc]:=dQ
theorem ajX:TY 158 Tryz.t157.desc 1 16 [.v .nilIface]:=dQ
theorem ago:TS 163 Tryz.t162.desc 7 88 [.v (.int .i64 0),.str [],.sl 0 [] .nil,.str [],.v (.int .i64 0),.v (.int .i64 0),.v (.int .i64 0)] [(0,1),(1,1),(2,1),(3,1),(4,3)]/\FL 163 0 0 false 1/\FL 163 1 1 false 1/\FL 163 2 2 false 1/\FL 163 3 3 false 1/\FL 163 4 4 true 3:=⟨iD,bu,bu,bu,bu,bu⟩
theorem FG:TY 165 (.slice 163) 1 24 [.sl 0 [] .nil]:=dQ
theorem C_:TS 170 Tryz.t169.desc 2 32 [.str [],.str []] [(0,1),(1,1)]/\FL 170 0 0 false 1/\FL 170 1 1 false 1:=⟨iD,bu,bu⟩
theorem agp:TY 172 (.map 60 215) 1 8 [.v (.map none)]:=dQ
theorem agq:TS 174 Tryz.t173.desc 2 16 [.v (.pointer none),.v (.map none)] [(0,1),(1,1)]/\FL 174 0 0 false 1/\FL 174 1 1 false 1:=⟨iD,bu,bu⟩
theorem ajY:TY 176 (.pointer 80) 1 8 [.v (.pointer none)]:=dQ
theorem ajZ:TY 177 Tryz.t177.desc 1 8 [.v .nilFunc]:=dQ
theorem aj0:TY 184 Tryz.t184.desc 1 8 [.v .nilFunc]:=dQ
theorem aj1:TY 187 (.pointer 5) 1 8 [.v (.pointer none)]:=dQ
theorem aj2:TY 189 (.pointer 114) 1 8 [.v (.pointer none)]:=dQ
theorem agr:TS 199 Tryz.t198.desc 6 64 [.v (.bool false),.str [],.v (.bool false),.v (.bool false),.str [],.v (.bool false)] [(0,3),(3,3)]/\FL 199 0 0 true 3/\FL 199 1 3 true 3:=⟨iD,bu,bu⟩
theorem IW:TY 202 .unsafePointer 1 8 [.v (.pointer none)]:=dQ
theorem ags:TS 204 Tryz.t169.desc 2 32 [.str [],.str []] [(0,1),(1,1)]/\FL 204 0 0 false 1/\FL 204 1 1 false 1:=⟨iD,bu,bu⟩
theorem aj3:TY 205 (.pointer 106) 1 8 [.v (.pointer none)]:=dQ
theorem aj4:TY 207 (.pointer 2) 1 8 [.v (.pointer none)]:=dQ
theorem aj5:TY 208 (.pointer 212) 1 8 [.v (.pointer none)]:=dQ
theorem agt:TY 209 (.map 40 56) 1 8 [.v (.map none)]:=dQ
theorem agu:TY 210 (.slice 54) 1 24 [.sl 0 [] .nil]:=dQ
theorem aj6:TS 212 Tryz.t211.desc 8 120 [.v (.pointer none),.v (.pointer none),.str [],.str [],.str [],.v (.map none),.sl 0 [] .nil,.sl 0 [] .nil] [(0,1),(1,1),(2,3),(5,1),(6,1),(7,1)]/\FL 212 0 0 false 1/\FL 212 1 1 false 1/\FL 212 2 2 true 3/\FL 212 3 5 false 1/\FL 212 4 6 false 1/\FL 212 5 7 false 1:=⟨iD,bu,bu,bu,bu,bu,bu⟩
theorem IX:TY 213 (.slice 221) 1 24 [.sl 0 [] .nil]:=dQ
theorem FH:TS 215 Tryz.t214.desc 7 136 [.str [],.str [],.str [],.str [],.sl 0 [] .nil,.sl 0 [] .nil,.sl 0 [] .nil] [(0,3),(3,1),(4,1),(5,1),(6,1)]/\FL 215 0 0 true 3/\FL 215 1 3 false 1/\FL 215 2 4 false 1/\FL 215 3 5 false 1/\FL 215 4 6 false 1:=⟨iD,bu,bu,bu,bu,bu⟩
theorem aj7:TY 219 Tryz.t219.desc 1 8 [.v .nilFunc]:=dQ
theorem ND:TS 221 Tryz.t220.desc 10 152 [.str [],.str [],.str [],.str [],.v (.bool false),.str [],.sl 0 [] .nil,.v (.int .i64 0),.v (.bool false),.sl 0 [] .nil] [(0,4),(4,3),(7,1),(8,1),(9,1)]/\FL 221 0 0 true 4/\FL 221 1 4 true 3/\FL 221 2 7 false 1/\FL 221 3 8 false 1/\FL 221 4 9 false 1:=⟨iD,bu,bu,bu,bu,bu⟩
theorem aj8:TY 223 (.pointer 116) 1 8 [.v (.pointer none)]:=dQ
theorem aj9:TY 226 (.pointer 100) 1 8 [.v (.pointer none)]:=dQ
theorem aj_:TY 228 (.pointer 98) 1 8 [.v (.pointer none)]:=dQ
theorem aka:TY 243 (.pointer 246) 1 8 [.v (.pointer none)]:=dQ
theorem akb:TS 246 Tryz.t245.desc 4 80 [.sl 0 [] .nil,.sl 0 [] .nil,.sl 0 [] .nil,.v (.map none)] [(0,1),(1,1),(2,1),(3,1)]/\FL 246 0 0 false 1/\FL 246 1 1 false 1/\FL 246 2 2 false 1/\FL 246 3 3 false 1:=⟨iD,bu,bu,bu,bu⟩
theorem akc:TY 251 (.pointer 104) 1 8 [.v (.pointer none)]:=dQ
theorem yz:TY 258 (.slice 60) 1 24 [.sl 0 [] .nil]:=dQ
theorem akd:TY 262 (.pointer 268) 1 8 [.v (.pointer none)]:=dQ
theorem agv:TY 263 (.pointer 298) 1 8 [.v (.pointer none)]:=dQ
theorem ake:TS 268 Tryz.t267.desc 17 280 [.v (.pointer none),.v (.pointer none),.str [],.str [],.str [],.v (.bool false),.str [],.str [],.str [],.str [],.str [],.str [],.str [],.sl 0 [] .nil,.sl 0 [] .nil,.sl 0 [] .nil,.sl 0 [] .nil] [(0,1),(1,1),(2,3),(5,11),(16,1)]/\FL 268 0 0 false 1/\FL 268 1 1 false 1/\FL 268 2 2 true 3/\FL 268 3 5 true 11/\FL 268 4 16 false 1:=⟨iD,bu,bu,bu,bu,bu⟩
theorem aa6:TY 286 (.pointer 102) 1 8 [.v (.pointer none)]:=dQ
theorem akf:TY 288 (.pointer 21) 1 8 [.v (.pointer none)]:=dQ
theorem agw:TY 292 (.slice 86) 1 24 [.sl 0 [] .nil]:=dQ
theorem IY:TY 296 (.map 9 9) 1 8 [.v (.map none)]:=dQ
theorem akg:TS 298 Tryz.t297.desc 4 48 [.sl 0 [] .nil,.v (.map none),.v (.map none),.v (.int .i64 0)] [(0,1),(1,1),(2,1),(3,1)]/\FL 298 0 0 false 1/\FL 298 1 1 false 1/\FL 298 2 2 false 1/\FL 298 3 3 true 1:=⟨iD,bu,bu,bu,bu⟩
theorem agx:TY 304 (.pointer 306) 1 8 [.v (.pointer none)]:=dQ
theorem akh:TS 306 Tryz.t305.desc 2 32 [.v (.pointer none),.sl 0 [] .nil] [(0,1),(1,1)]/\FL 306 0 0 false 1/\FL 306 1 1 false 1:=⟨iD,bu,bu⟩
theorem aki:TY 308 (.pointer 311) 1 8 [.v (.pointer none)]:=dQ
theorem akj:TY 309 (.map 40 4) 1 8 [.v (.map none)]:=dQ
theorem akk:TS 311 Tryz.t310.desc 2 32 [.sl 0 [] .nil,.v (.map none)] [(0,1),(1,1)]/\FL 311 0 0 false 1/\FL 311 1 1 false 1:=⟨iD,bu,bu⟩
theorem akl:TY 321 (.pointer 323) 1 8 [.v (.pointer none)]:=dQ
theorem akm:TS 323 Tryz.t322.desc 1 16 [.str []] [(0,1)]/\FL 323 0 0 false 1:=⟨iD,bu⟩
theorem akn:TY 333 Tryz.t333.desc 1 8 [.v .nilFunc]:=dQ
theorem ako:TS 340 Tryz.t339.desc 2 24 [.v (.int .i64 0),.str []] [(0,1),(1,1)]/\FL 340 0 0 false 1/\FL 340 1 1 false 1:=⟨iD,bu,bu⟩
theorem agy:TY 383 Tryz.t383.desc 1 8 [.v .nilFunc]:=dQ
theorem akp:TY 394 (.pointer 397) 1 8 [.v (.pointer none)]:=dQ
theorem NG:TY 395 (.slice 422) 1 24 [.sl 0 [] .nil]:=dQ
theorem akq:TS 397 Tryz.t396.desc 8 120 [.str [],.sl 0 [] .nil,.sl 0 [] .nil,.str [],.sl 0 [] .nil,.v (.int .i64 0),.v (.bool false),.v (.bool false)] [(0,4),(4,1),(5,1),(6,1),(7,1)]/\FL 397 0 0 true 4/\FL 397 1 4 false 1/\FL 397 2 5 false 1/\FL 397 3 6 false 1/\FL 397 4 7 false 1:=⟨iD,bu,bu,bu,bu,bu⟩
theorem agz:TS 401 Tryz.t400.desc 2 24 [.v (.int .i64 0),.str []] [(0,1),(1,1)]/\FL 401 0 0 false 1/\FL 401 1 1 false 1:=⟨iD,bu,bu⟩
theorem aa7:TS 403 Tryz.t402.desc 5 96 [.str [],.sl 0 [] .nil,.sl 0 [] .nil,.str [],.str []] [(0,4),(4,1)]/\FL 403 0 0 true 4/\FL 403 1 4 false 1:=⟨iD,bu,bu⟩
theorem agA:TS 414 Tryz.t413.desc 2 16 [.v (.int .i64 0),.v (.int .i64 0)] [(0,1),(1,1)]/\FL 414 0 0 false 1/\FL 414 1 1 false 1:=⟨iD,bu,bu⟩
theorem akr:TY 415 (.pointer 419) 1 8 [.v (.pointer none)]:=dQ
theorem aks:TS 417 Tryz.t416.desc 2 24 [.str [],.v (.int .i64 0)] [(0,1),(1,1)]/\FL 417 0 0 false 1/\FL 417 1 1 false 1:=⟨iD,bu,bu⟩
theorem akt:TS 419 Tryz.t418.desc 3 48 [.str [],.v (.int .i64 0),.sl 0 [] .nil] [(0,2),(2,1)]/\FL 419 0 0 true 2/\FL 419 1 2 false 1:=⟨iD,bu,bu⟩
theorem NH:TY 422 (.pointer 93) 1 8 [.v (.pointer none)]:=dQ
theorem aa8:TY 427 (.slice 403) 1 24 [.sl 0 [] .nil]:=dQ
theorem aku:TY 430 (.pointer 417) 1 8 [.v (.pointer none)]:=dQ
theorem IZ:TY 447 (.slice 21) 1 24 [.sl 0 [] .nil]:=dQ
set_option maxRecDepth 10000
theorem dz {α :Type} (l:List α) (j:Nat) (h:j<l.length):l.take (j+1)=l.take j++[l[j]]:=by
 rw[List.take_add_one,Ma h];rfl
section
variable {α :Type} {f: α -> α} {l:List α} {j:Nat}
end
def qA (b:UInt8):Bool:=decide (48<=b.toNat)&&decide (b.toNat<=57)
def lo (b:UInt8):UInt8:=if 65<=b.toNat/\b.toNat<=90 then UInt8.ofNat (b.toNat+32)else b
theorem qB (b:UInt8) (O:VH):VF Tryz.prog 85 [gj b] O (aD fun m O'=>m=mb (qA b)/\O'=O):=by
 have t_:b.toNat<256:=b.toNat_lt;refine VF.ad3 aa Tryz.func85 (c:=_) rfl (Nat.le_of_ble_eq_true rfl) ?_;rw[show Tryz.f85.ntmps=9 from rfl];simp only[cK,ajk,Nat.reduceAdd];by_cases h1:48<=b.toNat
 ·by_cases h2:b.toNat<=57
  ·repeat' first
    | with_reducible (first | refine VC.seq' ?_ | refine τ ?_ | refine VC.skip ?_ | refine VC.label ?_ | refine VC.scope ?_ | refine VC.exit ?_ | refine VC.ret ?_ | refine VL.nil ?_)
    | (with_reducible refine gVC ?_;first | refine gp @aK ?_ | refine gr @aK ?_ | (refine gc @aK ?_ ?_<;>(intro FI;try simp only[dcs,ne_eq,reduceCtorEq]at FI)))
    | simp only[ZV,Nat.reduceEqDiff,reduceIte]
    | refine eR1 ?_ | refine eR2 ?_ | refine nM.ZM rfl ?_ | refine nM.ZN rfl ?_
   exact⟨by simp[qA,h1,h2,bw],by trivial⟩
  ·repeat' first
    | with_reducible (first | refine VC.seq' ?_ | refine τ ?_ | refine VC.skip ?_ | refine VC.label ?_ | refine VC.scope ?_ | refine VC.exit ?_ | refine VC.ret ?_ | refine VL.nil ?_)
    | (with_reducible refine gVC ?_;first | refine gp @aK ?_ | refine gr @aK ?_ | (refine gc @aK ?_ ?_<;>(intro FI;try simp only[dcs,ne_eq,reduceCtorEq]at FI)))
    | simp only[ZV,Nat.reduceEqDiff,reduceIte]
    | refine eR1 ?_ | refine eR2 ?_ | refine nM.ZM rfl ?_ | refine nM.ZN rfl ?_
   exact⟨by simp[qA,h2,bw],by trivial⟩
 ·repeat' first
   | with_reducible (first | refine VC.seq' ?_ | refine τ ?_ | refine VC.skip ?_ | refine VC.label ?_ | refine VC.scope ?_ | refine VC.exit ?_ | refine VC.ret ?_ | refine VL.nil ?_)
   | (with_reducible refine gVC ?_;first | refine gp @aK ?_ | refine gr @aK ?_ | (refine gc @aK ?_ ?_<;>(intro FI;try simp only[dcs,ne_eq,reduceCtorEq]at FI)))
   | simp only[ZV,Nat.reduceEqDiff,reduceIte]
   | refine eR1 ?_ | refine eR2 ?_ | refine nM.ZM rfl ?_ | refine nM.ZN rfl ?_
  exact⟨by simp[qA,h1,bw],by trivial⟩
section
variable {tab:cj} {t:TypeId} {a b:List UInt8}
end
def ain (s:List UInt8) (nb:Bool):List UInt8:=
 if s==[103,97]||(s==[102,105,110,97,108]||s==[114,101,108,101,97,115,101])then[]
 else if s==[99,114]then[114,99]
 else if nb&&s==[97]then[97,108,112,104,97]
 else if nb&&s==[98]then[98,101,116,97]
 else if nb&&s==[109]then[109,105,108,101,115,116,111,110,101]
 else s
section
variable {tab:cj} {t:TypeId} {l:List UInt8} {s c:Nat} {z:List MV}
end
def NI (b:UInt8):Bool:=b==46||b==45
abbrev Piece:=List UInt8×Bool×Bool
abbrev Prt:=Bool×Bool×List UInt8
set_option linter.defProp false in
def AP:=zP T9<|zP T3<|zP T4<|zP T5<|zP uM<|zP Ug<|zP NC<|zP ajX IW
structure gE (O:VH) (B b:Nat) (q:Option Nat) (s:List UInt8):Prop where
 cell:∃p buf,O.hp b=some (.cells [p,buf])/\(p= .v (.pointer none)\/p= .ptr b 0)/\GR O 5 1 B buf s.length (s.map gj)/\gid buf=q/\buf≠ .sl 0 [] .full
 ne:q≠some b
 oV:∃j,B<=j/\j<O.N/\O.hp j=some (.shape b 155 2)
 lo:B<=b
 hi:b<O.N
 nz:s=[]->q=none
structure fI (O:VH) (b:Nat) (q:Option Nat) (O':VH) (q':Option Nat):Prop where
 N:O.N<=O'.N
 hp:∀i,i<O.N->i≠b->q≠some i->O'.hp i=O.hp i
 new:∀i,i<O.N->q≠some i->q'≠some i
theorem gE.Uh {O:VH} {B b:Nat} {q:Option Nat} {s:List UInt8} (h:gE O B b q s):∀i,O.N<=i->q≠some i:=by
 intro i hi e;obtain⟨p,buf,_,_,hg,hq,_⟩:=h.cell;rcases hg with⟨_,_,rfl | rfl⟩ | ⟨k,c,rfl,_,_,hr⟩
 ·rw[<-hq]at e;cases e
 ·rw[<-hq]at e;cases e
 ·rw[<-hq]at e;injection e with e;have:=hr.hi;omega
theorem gE.yA {O:VH} {B b:Nat} {q:Option Nat} {s:List UInt8} (h:gE O B b q s):∀i,q=some i->B<=i:=by
 intro i e;obtain⟨p,buf,_,_,hg,hq,_⟩:=h.cell;rcases hg with⟨_,_,rfl | rfl⟩ | ⟨k,c,rfl,_,_,hr⟩
 ·rw[<-hq]at e;cases e
 ·rw[<-hq]at e;cases e
 ·rw[<-hq]at e;injection e with e;rw[<-e];exact hr.lo
theorem fI.ge {O0 O O':VH} {b:Nat} {q q':Option Nat} (h:O0.Ge O) (u:fI O b q O' q') (hb:O0.N<=b) (hq:∀i,q=some i->O0.N<=i):O0.Ge O':=
 ⟨ajl h.N u.N,fun i hi=>(u.hp i (Zj hi h.N) (by omega) (fun e=>by have:=hq i e;omega)).trans (h.hp i hi)⟩
theorem gE.qu {O O':VH} {B b:Nat} {q:Option Nat} {s:List UInt8} (h:gE O B b q s) (hn:O.N<=O'.N) (hb:O'.hp b=O.hp b) (hq:∀i,q=some i->O'.hp i=O.hp i) (hs:∀j k t n,O.hp j=some (.shape k t n)->j<O.N->O'.hp j=O.hp j):gE O' B b q s:=by
 obtain⟨p,buf,h1,h2,h3,h4,h5⟩:=h.cell;obtain⟨j,j1,j2,j3⟩:=h.oV;refine⟨⟨p,buf,hb.trans h1,h2,?_,h4,h5⟩,h.ne,⟨j,j1,by omega,(hs j _ _ _ j3 j2).trans j3⟩,h.lo,by have:=h.hi;omega,h.nz⟩;rcases h3 with h3 | ⟨k,c,rfl,g1,g2,g3⟩
 ·exact .inl h3
 ·refine .inr ⟨k,c,rfl,g1,g2,?_⟩;obtain⟨sp,r1,r2⟩:=g3.cells;obtain⟨i,i1,i2,i3⟩:=g3.oV;exact⟨⟨sp,(hq k h4.symm).trans r1,r2⟩,⟨i,i1,by omega,(hs i _ _ _ i3 i2).trans i3⟩,g3.lo,by have:=g3.hi;omega⟩
theorem gE.zm {O O':VH} {B b:Nat} {q:Option Nat} {s:List UInt8} (h:gE O B b q s) (u:bz O none O'):gE O' B b q s:=
 h.qu u.N (u.hp b h.hi (by simp)) (fun i hi=>u.hp i (by
  rcases am7 i O.N with h' | h'
  ·exact h'
  ·exact absurd hi (h.Uh i h')) (by simp)) fun j _ _ _ _ hl=>u.hp j hl (by simp)
theorem gE.set {O:VH} {B b i:Nat} {q:Option Nat} {s:List UInt8} {cs:List MV} {x:cg} (h:gE O B b q s) (hi:O.hp i=some (.cells cs)) (hb:i≠b) (hq:q≠some i):gE (O.set i x) B b q s:=
 h.qu (ahJ _) (π _ _ (Ne.symm hb)) (fun k hk=>π _ _ (fun e=>hq (by rw[hk,e]))) fun j _ _ _ hj _=>π _ _ (fun e=>by rw[e,hi]at hj;cases hj)
theorem gE.fresh (O:VH) {B:Nat} (hB:B<=O.N):gE ((O.push (.cells [.v (.pointer none),.sl 0 [] .nil])).push (.shape O.N 155 2)) B O.N none []:=
 ⟨⟨_,_,(Υ _ _ (by show O.N<O.N+1;omega)).trans (Ξ _ _),.inl rfl,.inl ⟨rfl,rfl,.inl rfl⟩,rfl,by simp⟩,by simp,⟨O.N+1,by omega,by show O.N+1<O.N+1+1;omega,Ξ _ _⟩,hB,by show O.N<O.N+1+1;omega,fun _=>rfl⟩
theorem NJ (k o:Nat) (O:VH):eY Tryz.prog 87 [.ptr k o] O fun m O'=>m= .ptr k o/\O'=O:=by
 refine eY.of (ex:=Extern.AbiNoEscape.same) Tryz.func87 (by kernel_rfl) (by kernel_rfl) (by kernel_rfl) (by kernel_rfl) fun G w vs hw hv=>?_
 obtain⟨u,us,rfl,h1,h2⟩:=hv.eW;rw[h2.iQ];exact⟨u,Lib.run_noEscape w u,h1⟩
theorem AQ {O:VH} {B b:Nat} {q:Option Nat} {s:List UInt8} (h:gE O B b q s):VF Tryz.prog 71 [.ptr b 0] O (aD fun m O'=>gE O' B b q s/\fI O b q O' q):=by
 obtain⟨p,buf,h1,h2,h3,h4,h5⟩:=h.cell;obtain⟨j,j1,j2,j3⟩:=h.oV;have hb:=h.hi;refine Δ 20 [] Tryz.func71 ?_;rcases h2 with rfl | rfl
 ·refine ao @AP @h1 ?_;refine VL.toU aa (.inl rfl) (el:=155) (by rw[Ug];rfl) (by rw[IW];rfl) NC.1.1 (by decide) j3 (by decide) rfl rfl rfl ?_;refine KF ?_;refine ah.ext (NJ b 0 O) rfl ?_;rintro _ O2 ⟨rfl,rfl⟩;refine KF ?_;refine VL.ahZ aa (.inl rfl) (el:=155) (by rw[IW];rfl) (by rw[Ug];rfl) NC.1.1 j3 (by kernel_rfl) rfl rfl rfl ?_;refine ao @AP @h1 ?_;refine⟨⟨⟨_,buf,ρ _ _ _,.inr rfl,h3.qu bz.set (by rw[h4];exact h.ne) (fun k t n=>by rw[h1];simp),h4,h5⟩,h.ne,⟨j,j1,j2,?_⟩,h.lo,h.hi,h.nz⟩,⟨ahJ _,fun i _ hi _=>π _ _ hi,fun _ _ h=>h⟩⟩;rw[π _ _ (fun e=>by rw[e,h1]at j3;cases j3)];exact j3
 ·simp(disch:=first | omega | (simp only[ds]<;>omega) | fail) only[wk,wu,tW,ak,cT,Nat.reduceLT,Nat.reduceAdd,Nat.reduceMul,Nat.reduceSub,Nat.reduceBEq,Nat.reduceEqDiff,Int.reduceToNat,reduceIte,AP,h1,Nh (op:=.neq) Ug (s:=1) NC.1.1];exact⟨h,⟨ahJ _,fun _ _ _ _=>rfl,fun _ _ h=>h⟩⟩
theorem gE.grown {O O':VH} {B b:Nat} {q:Option Nat} {s:List UInt8} {p buf m:MV} {n' z:Nat} {L:List UInt8} (h:gE O B b q s) (h1:O.hp b=some (.cells [p,buf])) (h2:p= .v (.pointer none)\/p= .ptr b 0) (h4:gid buf=q) (hg:GR O' 5 1 B m n' (L.map gj)) (hn:n'=L.length) (hu:bz O (gid buf) O') (nc:(∃k c,m= .bB k 0 n' c/\(gid buf=some k\/(O.N<=k/\z≠0)))\/m=buf) (hf:buf≠ .sl 0 [] .full) (hz:L=[]->z=0/\s=[]):
  gE (O'.set b (.cells [p,m])) B b (gid m) L/\fI O b q (O'.set b (.cells [p,m])) (gid m):=by
 subst hn;obtain⟨j,j1,j2,j3⟩:=h.oV;have hb:=h.hi
 have hm:m≠ .sl 0 [] .full:=by
  rcases nc with⟨k,c,rfl,_⟩ | rfl
  ·simp
  ·exact hf
 have qC:∀i,i<O.N->q≠some i->gid m≠some i:=fun i hi hq=>by
  rcases nc with⟨k,c,rfl,hk⟩ | rfl
  ·rcases hk with hk | hk
   ·rw[<-h4,hk]at hq;exact hq
   ·intro e;injection e with e;have:=hk.1;omega
  ·rw[h4];exact hq
 have hne:gid m≠some b:=qC b hb h.ne;have hOb:O'.hp b=some (.cells [p,buf]):=(hu.hp b hb (by rw[h4];exact h.ne)).trans h1
 have hqs:∀i k t n,O.hp i=some (.shape k t n)->i<O.N->O'.hp i=O.hp i:=fun i k t n hi hl=>hu.hp i hl fun e=>by
  obtain⟨p',amw,g1,g2,g3,g4,g5⟩:=h.cell;rw[h1]at g1;injection g1 with g1;injection g1 with g1;injection g1 with e1 e2;injection e2 with e2;subst e2
  rcases g3 with⟨_,_,rfl | rfl⟩ | ⟨k2,c2,rfl,_,_,hr⟩
  ·cases e
  ·cases e
  ·injection e with e;subst e;obtain⟨sp,r1,_⟩:=hr.cells;rw[r1]at hi;cases hi
 refine⟨⟨⟨p,m,ρ _ _ _,h2,hg.qu bz.set hne (fun k t n=>by rw[hOb];simp),rfl,hm⟩,hne,⟨j,j1,Zj j2 hu.N,?_⟩,h.lo,Zj hb hu.N,fun hL=>?_⟩,⟨hu.N,fun i hi Rv hq=>(π _ _ Rv).trans (hu.hp i hi (by rw[h4];exact hq)),qC⟩⟩
 ·rw[π _ _ (fun e=>by rw[e,h1]at j3;cases j3)];exact(hqs j _ _ _ j3 j2).trans j3
 ·obtain⟨z0,s0⟩:=hz hL;have hq:=h.nz s0;rw[hq]at h4;rcases nc with⟨k,c,rfl,hk⟩ | rfl
  ·rcases hk with hk | hk
   ·rw[h4]at hk;cases hk
   ·exact absurd z0 hk.2
  ·exact h4
theorem ua {O:VH} {B b:Nat} {q:Option Nat} {s:List UInt8} (c:UInt8) (h:gE O B b q s) (hl:s.length+1<=140737488355328):VF Tryz.prog 72 [.ptr b 0,gj c] O (aD fun m O'=>m= .v .nilIface/\∃q',gE O' B b q' (s++[c])/\fI O b q O' q'):=by
 refine Δ 17 [.tmp 4] Tryz.func72 ?_;refine ab @AP ?_;refine ah.rt (AQ h) ?_;rintro _ O1 ⟨h',u'⟩;obtain⟨p,buf,h1,h2,h3,h4,h5⟩:=h'.cell;have hb:=h'.hi;refine aG @AP @h1 @aK ?_;refine VL.grow aa (.inl rfl) (te:=⟨.int .u8,1,1,[.v (.int .u8 0)]⟩) (dx:=.slice 5) (q:=.sl 1 [gj c] .full) (j:=1) (ds:=[gj c]) h3 rfl rfl (by rw[uM];rfl) T5 (by rw[uM];rfl) trivial (by dsimp only;omega) (by simp only[maxLen];omega) (by have:=h'.lo;omega) rfl rfl rfl rfl ?_;intro m O2 hg hu _ nc;have hg':GR O2 5 1 B m (s.length+1) ((s++[c]).map gj):=by rw[ajp];exact hg
 have hr:=h'.grown h1 h2 h4 hg' (by simp) hu (nc.imp_right (·.2.1)) h5 (by simp);have hO:O2.hp b=some (.cells [p,buf]):=(hu.hp b hb (by rw[h4];exact h'.ne)).trans h1
 have iz:eg m=[m]/\ec m=true:=by
  rcases nc with⟨k,cp,rfl,_⟩ | ⟨hj,_⟩
  ·exact⟨rfl,rfl⟩
  ·cases hj
 have cX:=qv (O:=O2) (k:=b) (off:=1) (u:=.slice 5) (b:=24) (z:=[.sl 0 [] .nil]) (cs:=[p,buf]) iz.1 iz.2 (by simp);refine aG @AP @hO @cX ?_;exact⟨_,hr.1,⟨ajl u'.N hr.2.N,fun i hi Rv hq=>(hr.2.hp i (Zj hi u'.N) Rv hq).trans (u'.hp i hi Rv hq),fun i hi hq=>hr.2.new i (Zj hi u'.N) hq⟩⟩
theorem bV {O:VH} {B b:Nat} {q:Option Nat} {s:List UInt8} (l:List UInt8) (h:gE O B b q s) (hl:s.length+l.length<=140737488355328):VF Tryz.prog 55 [.ptr b 0,.str l] O (aD fun m O'=>m= .tuple [mi l.length,.v .nilIface]/\∃q',gE O' B b q' (s++l)/\fI O b q O' q'):=by
 refine Δ 19 [.tmp 4,.tmp 5] Tryz.func55 ?_;refine ab @AP ?_;refine ah.rt (AQ h) ?_;rintro _ O1 ⟨h',u'⟩;obtain⟨p,buf,h1,h2,h3,h4,h5⟩:=h'.cell;have hb:=h'.hi;refine ao @AP @h1 ?_;refine VL.grow aa (.inl rfl) (te:=⟨.int .u8,1,1,[.v (.int .u8 0)]⟩) (dx:=.string) (q:=.str l) (j:=l.length) (ds:=l.map gj) h3 rfl (by rw[List.all_map];exact ahO.2 fun _ _=>rfl) (by rw[uM];rfl) T5 (by rw[T9];rfl) trivial (by dsimp only;omega) (by simp only[maxLen];omega) (by have:=h'.lo;omega) rfl rfl rfl rfl ?_;intro m O2 hg hu _ nc;have hg':GR O2 5 1 B m (s.length+l.length) ((s++l).map gj):=by rw[ajp];exact hg
 have hr:=h'.grown h1 h2 h4 hg' (by simp) hu (nc.imp_right (·.2.1)) h5 (by simp[and_comm]);have hO:O2.hp b=some (.cells [p,buf]):=(hu.hp b hb (by rw[h4];exact h'.ne)).trans h1
 have iz:eg m=[m]/\ec m=true:=by
  rcases nc with⟨k,cp,rfl,_⟩ | ⟨_,rfl,_⟩
  ·exact⟨rfl,rfl⟩
  ·rcases h3 with⟨_,_,rfl | rfl⟩ | ⟨k,c,rfl,_⟩<;>exact⟨rfl,rfl⟩
 have cX:=qv (O:=O2) (k:=b) (off:=1) (u:=.slice 5) (b:=24) (z:=[.sl 0 [] .nil]) (cs:=[p,buf]) iz.1 iz.2 (by simp);refine aG @AP @hO @cX ?_;exact⟨_,hr.1,⟨ajl u'.N hr.2.N,fun i hi Rv hq=>(hr.2.hp i (Zj hi u'.N) Rv hq).trans (u'.hp i hi Rv hq),fun i hi hq=>hr.2.new i (Zj hi u'.N) hq⟩⟩
theorem qD {O:VH} {B b:Nat} {q:Option Nat} {s:List UInt8} (h:gE O B b q s) (hm:s.length<=maxLen):VF Tryz.prog 58 [.ptr b 0] O (aD fun m O'=>m= .str s/\bz O q O'):=by
 obtain⟨p,buf,h1,h2,h3,h4,h5⟩:=h.cell;have hb:=h.hi;refine Δ 14 [.tmp 2] Tryz.func58 ?_;refine KF ?_;refine WC.bP (.held [10,11]) [(0,.rd),(1,.rd),(2,.rd),(3,.rd),(4,.rd),(5,.rd),(6,.rd),(7,.rd),(8,.rd),(9,.rd),(10,.one),(11,.rd)] ?_;have hO:O.hp b=some (.cells [p,buf]):=h1;rcases h3 with⟨e1,e2,rfl | rfl⟩ | ⟨k,c,rfl,g1,g2,g3⟩
 ·have hs:s=[]:=Qn e1;subst hs;simp(disch:=first | omega | (simp only[ds]<;>omega) | fail) only[wk,wu,tW,ak,cT,Nat.reduceLT,Nat.reduceAdd,Nat.reduceMul,Nat.reduceSub,Nat.reduceBEq,Nat.reduceEqDiff,Int.reduceToNat,reduceIte,AP,h1,xm];refine VL.ahY aa (by kernel_rfl) rfl rfl rfl rfl ?_;refine ab @AP ?_;exact bz.refl _ _
 ·exact absurd rfl h5
 ·have hs:s≠[]:=fun e=>by have:=h.nz e;rw[<-h4]at this;cases this
  have hc:c≠0:=fun e=>hs (Qn (by omega))
  have pC:s.length<=maxLen:=hm;simp(disch:=first | omega | (simp only[ds]<;>omega) | fail) only[wk,wu,tW,ak,cT,Nat.reduceLT,Nat.reduceAdd,Nat.reduceMul,Nat.reduceSub,Nat.reduceBEq,Nat.reduceEqDiff,Int.reduceToNat,reduceIte,AP,h1,xm,hc];refine VL.ajD aa (by kernel_rfl) (el:=5) (by rw[aj1];rfl) (by kernel_rfl) g3 hs pC rfl rfl rfl rfl ?_;refine ab @AP ?_;exact h4▸bz.kill
set_option linter.defProp false in
def sJ:=zP T9<|zP T3<|zP T4<|zP T5 uM
theorem FJ (s:List UInt8) (c:UInt8):(0<=Lib.indexByte s c) ↔ c∈s:=by
 induction s with
 | nil=>simp[Lib.indexByte]
 | cons b l ih=>
   have iT:=Lib.indexByte_ge l c;unfold Lib.indexByte;by_cases hb:b=c
   ·subst hb;simp
   ·have:(b==c)=false:=by simpa using hb
    rw[this];simp only[adY,if_false,List.mem_cons];by_cases h1:Lib.indexByte l c= -1
    ·rw[h1]at ih ⊢;simp only[beq_self_eq_true,if_true];constructor
     ·intro h;omega
     ·rintro(h | h)
      ·exact absurd h.symm hb
      ·have:=ih.2 h;omega
    ·have:(Lib.indexByte l c== -1)=false:=by simpa using h1
     rw[this];simp only[adY,if_false];constructor
     ·intro _;exact .inr (ih.1 (by omega))
     ·rintro(h | h)
      ·exact absurd h.symm hb
      ·have:=ih.2 h;omega
theorem zA (s:List UInt8) (c:UInt8) (O:VH):eY Tryz.prog 186 [.str s,gj c] O fun m O'=>m=mi (Lib.indexByte s c)/\O'=O:=by
 refine eY.of (ex:=Extern.BytealgIndexByte.indexByte) Tryz.func186 (by kernel_rfl) (by kernel_rfl) (by kernel_rfl) (by kernel_rfl) fun G w vs hw hv=>?_
 obtain⟨u,us,rfl,h1,h2⟩:=hv.eW;obtain⟨u2,us2,rfl,h3,h4⟩:=h2.eW;rw[h4.iQ];cases h1;have:=h3.jj;subst this;refine⟨_,Lib.run_indexByteString _ _ w,?_⟩;have e:((c.toNat:Int).toNat).toUInt8=c:=by simp
 rw[e];exact .v rfl
theorem KH (s:List UInt8) (c:UInt8) (O:VH):VF Tryz.prog 149 [.str s,gj c] O (aD fun m O'=>m=mi (Lib.indexByte s c)/\O'=O):=by
 refine Δ 8 [.tmp 4] Tryz.func149 ?_;refine KF ?_;refine ah.ext (zA s c O) rfl ?_;rintro _ O2 ⟨rfl,rfl⟩;exact KF trivial
theorem Xm (s:List UInt8) (c:UInt8) (O:VH):VF Tryz.prog 122 [.str s,.str [c]] O (aD fun m O'=>∃n:Int,m=mi n/\(0<=n ↔ c∈s)/\O'=O):=by
 refine Δ 143 [.tmp 4] Tryz.func122 ?_;cases h:([c]:List UInt8)==s
 ·refine cR @sJ @h @ahN.{0} @ajm.{0} ?_;refine ah.rt (KH s c O) ?_;rintro _ O2 ⟨rfl,rfl⟩;refine ab @sJ ?_;exact⟨_,rfl,FJ s c⟩
 ·refine cR @sJ @h @ahN.{0} @ajm.{0} ?_;have:s=[c]:=by have:=beq_iff_eq.1 h;exact this.symm
  exact⟨0,rfl,by rw[this];simp⟩
theorem KI (s:List UInt8) (c:UInt8) (O:VH):VF Tryz.prog 98 [.str s,.str [c]] O (aD fun m O'=>∃n:Int,m=mi n/\(0<=n ↔ c∈s)/\O'=O):=by
 refine Δ 8 [.tmp 4] Tryz.func98 ?_;refine KF ?_;refine ah.rt (Xm s c O) ?_;rintro _ O2 ⟨n,rfl,h,rfl⟩;refine KF ?_;exact⟨n,rfl,h⟩
theorem AR (s:List UInt8) (c:UInt8) (O:VH):VF Tryz.prog 86 [.str s,.str [c]] O (aD fun m O'=>m=mb (s.contains c)/\O'=O):=by
 refine Δ 9 [.tmp 4] Tryz.func86 ?_;refine KF ?_;refine ah.rt (KI s c O) ?_;rintro _ O2 ⟨n,rfl,h,rfl⟩;refine KF ?_
 have:s.contains c=decide (n>=0):=by
  rw[Bool.eq_iff_iff,List.contains_iff_mem,decide_eq_true_iff];exact h.symm
 rw[this]
def Rw (c:UInt8):Bool:=decide ((97<=c.toNat/\c.toNat<=122)\/(65<=c.toNat/\c.toNat<=90)\/(48<=c.toNat/\c.toNat<=57)\/c.toNat=46\/c.toNat=45\/c.toNat=95\/c.toNat=43)
def vY (s:List UInt8):Bool:=s.all Rw&&(decide (1<=s.length)&&decide (s.length<=64))
theorem Rx (c:UInt8):((97<=c.toNat/\c.toNat<=122)\/(65<=c.toNat/\c.toNat<=90)\/(48<=c.toNat/\c.toNat<=57)\/c.toNat=46\/c.toNat=45\/c.toNat=95\/c.toNat=43)\/((123<=c.toNat)\/(91<=c.toNat/\c.toNat<=96/\c.toNat≠95)\/(58<=c.toNat/\c.toNat<=64)\/(c.toNat<=47/\c.toNat≠43/\c.toNat≠45/\c.toNat≠46)):=by omega
theorem Ry (s:List UInt8) (O:VH) (hs:s.length<=maxLen):VF Tryz.prog 70 [.str s] O (aD fun m O'=>m=mb (vY s)/\O.Ge O'):=by
 have hm:(s.length:Int)<=9223372036854775807:=by simp[maxLen]at hs;omega
 have xX:=Ξ O (.cells (s.map gj));have AS:=(VH.Ge.refl O).push (.cells (s.map gj));refine Δ 50 [.tmp 2] Tryz.func70 ?_;refine ab @sJ ?_;refine VL.bytes aa (el:=5) (l:=s) rfl rfl (by rw[T9];rfl) (by rw[uM];rfl) (by rw[T5];rfl) hs rfl fun cap h1 h2=>WL.sound aa ?_
 refine ab @sJ ?_;refine WC.jm [9] [0,7,8] (fun j:Nat=>[mi j]) (fun j O'=>(O.push (.cells (s.map gj))).Ge O'/\j<=s.length/\(s.take j).all Rw=true) (fun j=>s.length - j) (0) ?_ ?_
 ·exact⟨VH.Ge.refl _,ani _,rfl⟩
 rintro j O2 ⟨pY,hj,jV⟩;have xY:=(pY.hp O.N (Nat.lt_succ_self _)).trans xX;by_cases h2:j<s.length
 ·have hc:=Rx s[j];have pJ:=Ma h2;have dP:Rw s[j]=decide ((97<=s[j].toNat/\s[j].toNat<=122)\/(65<=s[j].toNat/\s[j].toNat<=90)\/(48<=s[j].toNat/\s[j].toNat<=57)\/s[j].toNat=46\/s[j].toNat=45\/s[j].toNat=95\/s[j].toNat=43):=rfl;have gY:(s.take (j+1)).all Rw=Rw s[j]:=by rw[dz _ _ h2,List.all_append,jV];simp
  generalize hx:s[j]=c at*;have hD:qA c=decide (48<=c.toNat/\c.toNat<=57):=by unfold qA;rw[Bool.decide_and]
  have hC:([46,45,95,43]:List UInt8).contains c=decide (c.toNat=46\/c.toNat=45\/c.toNat=95\/c.toNat=43):=by
   rw[Bool.eq_iff_iff,List.contains_iff_mem,decide_eq_true_iff];simp only[List.mem_cons,List.not_mem_nil,or_false, <-UInt8.toNat_inj];rfl
  rcases hc with hc | hc
  ·have h1:Rw c=true:=by rw[dP];exact decide_eq_true hc
   rw[h1]at gY;rcases hc with hc | hc | hc | hc | hc | hc | hc
   ·refine cR @sJ @pJ @xY @aK ?_;refine az.N (j+1) ?_;exact⟨pY,by omega,gY⟩
   ·refine cR @sJ @pJ @xY @aK ?_;refine az.N (j+1) ?_;exact⟨pY,by omega,gY⟩
   ·rw[decide_eq_true (by omega)]at hD;refine cR @sJ @pJ @xY @aK ?_;refine ah.rt (qB c _) ?_;rintro _ O3 ⟨rfl,rfl⟩;rw[hD];refine ab @sJ ?_;refine az.N (j+1) ?_;exact⟨pY,by omega,gY⟩
   all_goals
    rw[decide_eq_false (by omega)]at hD;rw[decide_eq_true (by omega)]at hC;refine cR @sJ @pJ @xY @aK ?_;refine ah.rt (qB c _) ?_;rintro _ O3 ⟨rfl,rfl⟩;rw[hD];refine ab @sJ ?_;refine VL.ZW aa (el:=5) (l:=[c]) rfl rfl (by rw[uM];rfl) (by rw[T9];rfl) (by rw[T5];rfl) rfl rfl rfl (WL.sound aa ?_);refine ab @sJ ?_;refine ah.rt (AR [46,45,95,43] c _) ?_;rintro _ O4 ⟨rfl,rfl⟩;rw[hC];refine ab @sJ ?_;refine az.N (j+1) ?_;exact⟨pY,by omega,gY⟩
  ·have h1:Rw c=false:=by rw[dP];exact decide_eq_false (by omega)
   have:vY s=false:=by
    unfold vY;rw[List.all_eq_false.2 ⟨c,by rw[<-hx];exact ahP h2,by simp[h1]⟩];rfl
   rw[this];rw[decide_eq_false (by omega)]at hD hC;rcases hc with hc | hc | hc | hc
   all_goals
    refine cR @sJ @pJ @xY @aK ?_;refine ah.rt (qB c _) ?_;rintro _ O3 ⟨rfl,rfl⟩;rw[hD];refine ab @sJ ?_;refine VL.ZW aa (el:=5) (l:=[c]) rfl rfl (by rw[uM];rfl) (by rw[T9];rfl) (by rw[T5];rfl) rfl rfl rfl (WL.sound aa ?_);refine ab @sJ ?_;refine ah.rt (AR [46,45,95,43] c _) ?_;rintro _ O4 ⟨rfl,rfl⟩;rw[hC];refine ab @sJ ?_;exact AS.trans pY
 ·have zy:j=s.length:=by omega
  subst zy;rw[List.take_length]at jV;unfold vY;rw[jV];by_cases h0:0<s.length
  ·have e:decide (1<=s.length)=true:=decide_eq_true h0;rw[e];by_cases FK:s.length<=64
   ·refine ab @sJ ?_;exact AS.trans pY
   ·refine ab @sJ ?_;exact AS.trans pY
  ·have e:decide (1<=s.length)=false:=decide_eq_false (by omega);rw[e];refine ab @sJ ?_;exact AS.trans pY
def uN:Bool->List UInt8->List UInt8->List Piece
 | hy,cur,[]=>[(cur,hy,false)]
 | hy,cur,c::r=>if NI c then(cur,hy,false)::uN (c==45) [] r
   else match cur.getLast? with
    | none=>uN hy [c] r
    | some d=>if qA c=qA d then uN hy (cur++[c]) r else(cur,hy,true)::uN true [c] r
theorem Xn (hy:Bool) (cur:List UInt8):uN hy cur []=[(cur,hy,false)]:=rfl
theorem Rz {hy:Bool} {cur r:List UInt8} {c:UInt8} (h:NI c=true):uN hy cur (c::r)=(cur,hy,false)::uN (c==45) [] r:=by rw[uN,if_pos h]
def even (l:List UInt8):Prop:=(∀c∈l,NI c=false)/\∀c∈l,∀d∈l,qA c=qA d
theorem B8:∀(l cur r:List UInt8) (hy:Bool),even (cur++l)->uN hy cur (l++r)=uN hy (cur++l) r
 | [],cur,r,hy,_=>by simp
 | c::l,cur,r,hy,h=>by
   have hm:NI c=false:=h.1 c (by simp);have IT:=B8 l (cur++[c]) r hy (by rw[ajq];exact h);rw[ajq,List.singleton_append]at IT;rw[<-IT,al_,uN,if_neg (by rw[hm];simp)];cases hl:cur.getLast? with
   | none=>
     have:cur=[]:=List.getLast?_eq_none_iff.1 hl;subst this;rfl
   | some d=>
     have hd:qA c=qA d:=h.2 c (by simp) d (List.mem_append_left _ (List.mem_of_getLast? hl));simp only[hd,if_true]
end Go.Proofs.YtjpadehgejlebaaGreatDoor
