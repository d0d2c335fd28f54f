import Derived.Test.YtjpadehgejlebaaGreatDoorMA
import Derived.Lib.ConvBytes
import Derived.Laws.BytesString
import Derived.Laws.Externs
import Derived.Deep.AppendSrc
import Derived.Lib.UnsafeStr
import Derived.Laws.StructEq
import Derived.Recover
import Derived.WideLaws
import Derived.Laws.RangeString
import Derived.DeepKeys5
import Derived.Test.YtjpadehgejlebaaGreatDoorRows
import Derived.Lib.Bytealg
set_option linter.unusedVariables false
set_option linter.unusedSimpArgs false
namespace Go.Proofs.YtjpadehgejlebaaGreatDoor
open Go.RowKit
open _root_.List renaming getElem?_eq_getElem → Ml, eq_nil_of_length_eq_zero → Mn, length_append → VI, getElem?_cons_zero → aeb, map_cons → aec, getElem?_cons_succ → aed, getElem?_eq_some_iff → agu, mem_of_getElem? → ahV, getElem?_take → ahX, getElem?_toArray → ahZ, length_cons → ah0, all_eq_true → ajv, getElem_mem → ajw, length_nil → ajz, getElem?_map → ajA, mem_map_of_mem → ajB, map_append → ame, append_assoc → am_, take_of_length_le → ana, getElem?_eq_none → anf, cons_append → ang, mem_iff_getElem → anh, map_nil → ani, set_cons_zero → anl, set_eq_of_length_le → ano, length_map → anr, nil_append → ans, take_zero → anw, mem_range → anx
open _root_.Nat renaming lt_of_lt_of_le → ZA, le_refl → ahW, zero_add → ajx, le_trans → ajy, lt_or_ge → anj, add_mul → anm, zero_le → anu
open _root_.And renaming intro → zW
open _root_.Option renaming isSome_none → ahY, bind_some → anc, map_eq_some_iff → anp, map_none → anq
open _root_.Bool renaming and_eq_true → Mm, false_eq_true → aee, false_or → anB
open _root_.Array renaming getElem?_eq_none → anb, getElem?_modify → ane, getD_eq_getD_getElem? → ank, getElem?_append_left → ann
def jE:List Nat->List MV->Env->Env
 | t::l,m::ms,e=>(t,m)::jE l ms e
 | _,_,e=>e
theorem vZ (t:Nat) (l:List Nat) (m:MV) (ms:List MV) (e:Env):jE (t::l) (m::ms) e=(t,m)::jE l ms e:=rfl
theorem Fk (ms:List MV) (e:Env):jE [] ms e=e:=rfl
theorem iX {e e0:Env} (he:∀t x,look e0 t=some x->look e t=some x):∀{l:List Nat} {ms:List MV},looks e l=some ms->∀t x,look (jE l ms e0) t=some x->look e t=some x
 | [],ms,_,t,x,hx=>he t x (by simpa[jE]using hx)
 | k::l,ms,h,t,x,hx=>by
   rw[C6]at h;obtain⟨m,h1,h2⟩:=Option.bind_eq_some_iff.1 h;obtain⟨ZH,h3,rfl⟩:=anp.1 h2;rw[vZ,mX]at hx;cases hb:t==k with
   | true=>
     rw[hb,cond_true]at hx;injection hx with hx;subst hx
     have:t=k:=by simpa using hb
     rw[this];exact h1
   | false=>rw[hb,cond_false]at hx;exact iX he h3 t x hx
def az {σ :Type} (l K:List Nat) (ks:List MV) (ms: σ ->List MV) (I: σ ->VH->Prop) (μ : σ ->Nat) (s: σ) (Q:VQ):VQ:=fun x e O=>match x with
 | .normal=>looks e K=some ks/\∃s',looks e l=some (ms s')/\I s' O/\ μ s'< μ s
 | x=>Q x e O
section
variable {n:Sz} {D:List Deferred} {e:Env} {P:Program} {O:VH} {Q:VQ} {c:Code} {σ :Type} {l K:List Nat} {ks:List MV} {ms: σ ->List MV} {I: σ ->VH->Prop} {μ : σ ->Nat} {s: σ} {i:Nat} {m:MV}
theorem AA:az l K ks ms I μ s Q (.exit i) e O=Q (.exit i) e O:=rfl
theorem AB:az l K ks ms I μ s Q (.goto i) e O=Q (.goto i) e O:=rfl
theorem Dd:az l K ks ms I μ s Q .ret e O=Q .ret e O:=rfl
theorem r8:az l K ks ms I μ s Q (.panic m) e O=Q (.panic m) e O:=rfl
theorem VC.jh (l K:List Nat) (ms: σ ->List MV) (I: σ ->VH->Prop) (μ : σ ->Nat) (s0: σ) (h0:looks e l=some (ms s0)) (hk:looks e K=some ks) (hI:I s0 O)
  (step:∀s O,I s O->VC P n D c (jE l (ms s) (jE K ks [])) O (az l K ks ms I μ s Q)):VC P n D (.loop c) e O Q:=by
 refine VC.loop (fun k e O=>looks e K=some ks/\∃s,looks e l=some (ms s)/\I s O/\ μ s=k) (k:= μ s0) ⟨hk,s0,h0,hI,rfl⟩ ?_;rintro k e O ⟨hk,s,h1,h2,rfl⟩;refine VC.mono ?_ (VC.env (step s O h2) (iX (iX (e0:=[]) (fun t x h=>by simp[look]at h) hk) h1));intro x e' O' h
 cases x<;>first
  | exact h
  | (obtain⟨h6,s',h3,h4,h5⟩:=h;exact⟨_,h5,h6,s',h3,h4,rfl⟩)
end
abbrev ints (xs:List Int) (t:Tok):MV:=.sl xs.length (xs.map mi) t
abbrev Q6 (xs:List Bool) (t:Tok):MV:=.sl xs.length (xs.map mb) t
abbrev strs (xs:List (List UInt8)) (t:Tok):MV:=.sl xs.length (xs.map .str) t
set_option linter.defProp false in
def Z_:=zW @anq.{0,0}<|zW @Option.bind_none.{0,0}<|zW @vZ<|zW @Fk<|zW @Int.zero_sub<|zW @Bool.not_true<|zW @Bool.not_false<|zW @decide_true<|zW @decide_eq_true<|zW @decide_eq_false<|zW @ajx<|zW @Nat.mul_one<|zW @Int.toNat_natCast<|zW @Nat.add_zero<|zW @anl.{0}<|zW @List.set_cons_succ.{0}<|zW @List.take_succ_cons.{0}<|zW @anw.{0}<|zW @List.drop_succ_cons.{0}<|zW @List.drop_zero.{0}<|zW @Ml.{0}<|zW @ahZ.{0}<|zW @aeb.{0}<|zW @aed.{0}<|zW @anc.{0,0}<|zW @Option.map_some.{0,0}<|zW @aec.{0,0}<|zW @ani.{0,0}<|zW @ajA.{0,0}<|zW @List.getElem_map.{0,0}<|zW @if_true.{1}<|zW @cond_true.{1} @cond_false.{1}
set_option linter.defProp false in
def aaa:=zW @vO<|zW @Au<|zW @C8<|zW @yC<|zW @AA<|zW @AB<|zW @Dd<|zW @r8<|zW @Km<|zW @QY<|zW @QZ<|zW @V0<|zW @MM<|zW @vN<|zW @As<|zW @At<|zW @C7<|zW @r7<|zW @MN<|zW @MO<|zW @Q0<|zW @Kn<|zW @M0<|zW @if_true.{1} @if_false.{1}
section
variable {P:Program} {tab:cg} {n:Sz} {D:List Deferred} {md:Md} {l:List Oper} {Q:VQ} {L':List (Fl×Oper)} {e e':Env} {O O':VH} {c x y:Code} {A:Prop} {id:Nat} {fn:Func} {R:gB->VH->Prop} {m m':MV} {t t':Nat} {o:Operand} {b:Bool}
theorem gVC (h:VC P n D c e O Q):VC P n D c e O Q:=h
theorem gp (a:A) (q:VL P n D .plain ⟨l⟩ L' e' O' Q) (ht:aP P tab:=by exact aa) (h:A->jg tab n ⟨l⟩ (l.map (Fl.one, ·)) e O=some (L',e',O'):=by intro z;simp(disch:=omega) only[Z9,Z_,ints,Q6,strs,cV,Nat.reduceLT,Nat.reduceAdd,Nat.reduceBEq,Int.reduceToNat,z]<;>exact rfl):VC P n D (.region id ⟨l⟩ false) e O Q:=VC.Ue (VL.run ht (h a) q)
theorem gr (a:A) (q:VL P n D .reads ⟨l⟩ L' e' O' Q) (ht:aP P tab:=by exact aa) (h1:P.follows .mixedOrders=true:=by kernel_rfl) (h2:Region.noSelect ⟨l⟩=true:=by kernel_rfl) (h3:cZ .reads ⟨l⟩ l.length (Array.replicate l.length false) ((List.range' 0 l.length).map (·,Fl.rd))=true:=by kernel_rfl) (h:A->jg tab n ⟨l⟩ (l.map (Fl.rd, ·)) e O=some (L',e',O'):=by intro z;simp(disch:=omega) only[Z9,Z_,ints,Q6,strs,cV,Nat.reduceLT,Nat.reduceAdd,Nat.reduceBEq,Int.reduceToNat,z]<;>exact rfl):VC P n D (.region id ⟨l⟩ true) e O Q:=VC.Uk h1 h2 h3 (VL.run ht (h a) q)
theorem gc (a:A) (h1:b=true->VC P n D x e O Q) (h2:b=false->VC P n D y e O Q) (h:A->ev e o=some (.v (.bool b)):=by intro z;simp(disch:=omega) only[Z9,Z_,ints,Q6,strs,cV,Nat.reduceLT,Nat.reduceAdd,Nat.reduceBEq,Int.reduceToNat,z]<;>exact rfl):VC P n D (.cond o x y) e O Q:=VC.cond (h a) h1 h2
theorem eR1 (q:R (.ret m) O) (h1:fn.results= #[.tmp t]:=by exact rfl) (h2:look e t=some m:=by simp only[mX,Nat.reduceBEq,cond_true,cond_false]<;>exact rfl):nN tab fn R .ret e O:=nN.ajG h1 h2 q
theorem eR2 (q:R (.ret (.tuple [m,m'])) O) (h1:fn.results= #[.tmp t,.tmp t']:=by exact rfl) (h2:look e t=some m:=by simp only[mX,Nat.reduceBEq,cond_true,cond_false]<;>exact rfl) (h3:look e t'=some m':=by simp only[mX,Nat.reduceBEq,cond_true,cond_false]<;>exact rfl):nN tab fn R .ret e O:=nN.ajH h1 h2 h3 q
end
set_option linter.defProp false in
def dcs:=zW @decide_eq_true_eq<|zW @decide_eq_false_iff_not<|zW @beq_iff_eq.{0}<|zW @beq_eq_false_iff_ne.{0}<|zW @bne_iff_ne.{0} @bne_eq_false_iff_eq.{0}
section
variable {G H:Gh} {n:Sz} {D:List Deferred} {e:Env} {a:Act} {P:Program} {tab:cg} {O O':VH} {w:World} {m m':MV} {u v:Value} {ops:Array Oper} {Q:VQ}
def M4 (P:Program) (n:Sz) (D:List Deferred) (o:Oper) (e:Env) (O:VH) (M:MV->VH->Prop):Prop:=∀G a w,WR G O w->FR G n D e a->∃m O',M m O'/\dT P o a w G m O'
theorem iT.Fm {i:Nat} {l:List Nat} {o:Oper} {M:MV->VH->Prop} (ho:ops[i]?=some o) (hg:aO ops o e=some true) (hd:bD n o.dst=true) (hy:M4 P n D o e O M) (h:∀m O',M m O'->iT P n D ops l (aZ o.dst m e) O' Q):
  iT P n D ops (i::l) e O Q:=by
 intro G a w hw aV;obtain⟨m,O',hM,nx,w',H,u,hr,tU,h1,h2,h3,_⟩:=hy G a w hw aV;simp only[wpOps,ho,bC aV hg,if_true];refine .inl ?_;unfold Oper.wp;rw[hr]
 have hk:wpOps P ops (cN G n D Q) l (a.put o.dst u) w':=by
  exact mV (fun _ _ _=>cN.le h1) l _ _ (h m O' hM H (a.put o.dst u) w' h2 ((aV.mono h1).aZ hd h3))
 rcases tU with rfl | ⟨rfl,rfl⟩
 ·exact hk
 ·exact hk
theorem VL.Fm {o:Oper} {L:List (Fl×Oper)} {M:MV->VH->Prop} (hg:aO ops o e=some true) (hd:bD n o.dst=true) (hy:M4 P n D o e O M) (h:∀m O',M m O'->VL P n D .plain ops L (aZ o.dst m e) O' Q):
  VL P n D .plain ops ((.one,o)::L) e O Q:=by
 intro fuel listed ix hf hp
 match ix,hf with
 | (i,g)::ix,hf=>
   obtain⟨rfl,ho,hf⟩:=hf;exact iT.Fm ho hg hd hy fun m O' hM=>h m O' hM 0 #[] ix hf (fun h=>absurd rfl h)
def gj (b:UInt8):MV:=.v (.int .u8 b.toNat)
theorem Ko {α :Type} (l:Array α) (x: α) (f: α -> α):(l.push x).modify l.size f=l.push (f x):=by
 apply Array.ext_getElem?;intro i;simp only[ane,Array.getElem?_push];by_cases h:i=l.size
 ·subst h;simp
 ·rw[if_neg (Ne.symm h),if_neg h,if_neg h]
theorem HG (w:World) (C:Array Value) (t:TypeId):(w.alloc (.cells C t)).freeze ⟨w.heap.size,C.size,none⟩ 1=w.alloc (.cells C t (C.size,C.size+1)):=by
 simp[World.freeze,World.alloc, -World.alloc_eq,Ko]
theorem Fo (l:List UInt8):aS G (l.map gj) (l.map fun b=>Value.int .u8 b.toNat):=by
 induction l with
 | nil=>exact aS.nil
 | cons b l ih=>exact aS.cons (.v rfl) ih
theorem Wc (ht:aP P tab) (h:WR G O w) {src dst el:TypeId} {l:List UInt8} (hs:(tab src).map cM.under=some .string) (hd:(tab dst).map cM.under=some (.slice el)) (he:(tab el).map cM.under=some (.int .u8)) (hl:l.length<=maxLen):
  ∃c,l.length<=c/\c<=maxLen/\iz P (convert src dst (.string ⟨⟨l⟩⟩)) w G (O.push (.cells (l.map gj))) (.bz O.N 0 l.length c):=by
 have cD:=Lib.run_convert_string_bytes w src dst el ⟨⟨l⟩⟩ (bM ht hs) (bM ht hd) (bM ht he);have p7:(⟨⟨l⟩⟩:ByteArray).size=l.length:=rfl;rw[p7]at cD;have iS:=grownCap_ge w l.length 0 el;have hle:=grownCap_le_maxLen w l.length 0 el hl;refine⟨grownCap w l.length 0 el,iS,hle,?_⟩
 have gN:(Lib.bytesCells w el ⟨⟨l⟩⟩).toList.take (l.map gj).length=l.map fun b=>Value.int .u8 b.toNat:=by
  simp[Lib.bytesCells]
 obtain⟨h1,h2⟩:=h.drew.ZD (cs:=l.map gj) (C:=Lib.bytesCells w el ⟨⟨l⟩⟩) ⟨el,((Lib.bytesCells w el ⟨⟨l⟩⟩).size,(Lib.bytesCells w el ⟨⟨l⟩⟩).size+1),.inr (ahW _)⟩ (by rw[gN];exact Fo l);have hW:Lib.bytesWorld w el ⟨⟨l⟩⟩=w.drew.alloc (.cells (Lib.bytesCells w el ⟨⟨l⟩⟩) el ((Lib.bytesCells w el ⟨⟨l⟩⟩).size,(Lib.bytesCells w el ⟨⟨l⟩⟩).size+1)):=HG w.drew _ _;rw[hW]at cD;exact⟨_,_,_,cD,h1,h2,.bz (aK _ _ _) iS hle,fun k b hk=>j7.alloc h.drew _ k b hk⟩
theorem VL.bytes (ht:aP P tab) {d:Option Tmp} {src dst el:TypeId} {x:Operand} {ty:TypeId} {ps:String} {af:Array Edge} {g:Option (Nat×Bool)} {L:List (Fl×Oper)} {l:List UInt8}
  (hg:aO ops (.mk d (.convert src dst x) ty ps af g) e=some true) (hx:ev e x=some (.str l)) (hs:(tab src).map cM.under=some .string) (r9:(tab dst).map cM.under=some (.slice el)) (he:(tab el).map cM.under=some (.int .u8)) (hl:l.length<=maxLen) (hd:bD n d=true)
  (h:∀c,l.length<=c->c<=maxLen->VL P n D .plain ops L (aZ d (.bz O.N 0 l.length c) e) (O.push (.cells (l.map gj))) Q):
  VL P n D .plain ops ((.one,.mk d (.convert src dst x) ty ps af g)::L) e O Q:=by
 refine VL.Fm (M:=fun m O'=>∃c,l.length<=c/\c<=maxLen/\m= .bz O.N 0 l.length c/\O'=O.push (.cells (l.map gj))) hg hd (fun G a w hw hf=>?_) ?_
 ·have h1:=hf.ev hx;generalize hu:a.eval x=u at h1;cases h1;obtain⟨c,c1,c2,c3⟩:=Wc (P:=P) ht hw hs r9 he hl;exact⟨_,_,⟨c,c1,c2,rfl,rfl⟩,dT.of c3 (by simp[execOp,hu])⟩
 ·rintro m O' ⟨c,c1,c2,rfl,rfl⟩;exact h c c1 c2
theorem M_ (l:List UInt8):∀s:List UInt8,(l.map fun b=>(b.toNat:Int)).foldl (fun(r:ByteArray) (n:Int)=>r.push (UInt8.ofNat n.toNat)) ⟨⟨s⟩⟩=⟨⟨s++l⟩⟩:=by
 induction l with
 | nil=>intro s;simp
 | cons b l ih=>
   intro s;rw[aec,List.foldl_cons]
   have:(⟨⟨s⟩⟩:ByteArray).push (UInt8.ofNat (b.toNat:Int).toNat)=⟨⟨s++[b]⟩⟩:=by
    simp[ByteArray.push]
   rw[this,ih,am_];rfl
theorem Fp (a:Addr) (l:List UInt8) (c:Nat) (w:World) (h:∀j v,(l.map fun b=>Value.int .u8 b.toNat)[j]?=some v->w.cell? (a.add j)=some v):
  (Conv.bytesToString (.slice (some a) l.length c)).run P w= .ok (.string ⟨⟨l⟩⟩) w:=by
 have h1:=run_loadCells_list (P:=P) w a (l.map fun b=>Value.int .u8 b.toNat) h;rw[anr]at h1;rw[run_bytesToString (P:=P) w a l.length c (l.map fun b=>(b.toNat:Int)) (by rw[h1,List.map_map];rfl)];rw[show(ByteArray.empty:ByteArray)=⟨⟨[]⟩⟩from rfl,M_];rfl
theorem Na {l:List UInt8} {us:List Value} (h:aS G (l.map gj) us):us=l.map fun b=>Value.int .u8 b.toNat:=by
 induction l generalizing us with
 | nil=>exact h.iP
 | cons b l ih=>
   obtain⟨u,VK,rfl,h1,h2⟩:=h.eW;rw[ih h2,h1.je];rfl
theorem Wd (ht:aP P tab) (h:WR G O w) {src dst el:TypeId} {tk:Tok} {l:List UInt8} (hs:(tab src).map cM.under=some (.slice el)) (hd:(tab dst).map cM.under=some .string) (he:(tab el).map cM.under=some (.int .u8))
  (hx:VR G (.sl l.length (l.map gj) tk) u):iz P (convert src dst u) w G O (.str l):=by
 have hc:=fun a n c=>run_convert_bytes_string (P:=P) w src dst el a n c (bM ht hs) (bM ht he) (bM ht hd)
 refine⟨.string ⟨⟨l⟩⟩,w,G,?_,Gh.Le.refl G,h,.str,j7.refl _ _⟩;generalize hn:l.length=k at hx;generalize hm:l.map gj=cs at hx;cases hx with
 | slnil=>
   obtain rfl:l=[]:=Mn hn;rw[hc];rfl
 | kQ=>
   obtain rfl:l=[]:=Mn hn;rw[hc];rfl
 | px=>
   obtain rfl:l=[]:=Mn hn;rw[hc];exact Fp _ [] _ w fun j v hv=>by simp at hv
 | sl h1 h2 h3 h4 h5 h6=>
   rename_i us c b o;subst hn hm;have h7:=Na (us:=us) ⟨h1,h3⟩;rw[hc];refine Fp _ l c w fun j v hv=>?_
   rw[<-h7]at hv;rw[Addr.add_lit];exact h.eN _ _ _ (h2 j v hv)
theorem VL.aab (ht:aP P tab) {d:Option Tmp} {src dst el:TypeId} {x:Operand} {ty:TypeId} {ps:String} {af:Array Edge} {g:Option (Nat×Bool)} {L:List (Fl×Oper)} {nn:Nat} {cs:List MV} {tk:Tok} {l:List UInt8}
  (hg:aO ops (.mk d (.convert src dst x) ty ps af g) e=some true) (hx:ev e x=some (.sl nn cs tk)) (hs:(tab src).map cM.under=some (.slice el)) (r9:(tab dst).map cM.under=some .string) (he:(tab el).map cM.under=some (.int .u8)) (hn:nn=l.length) (gN:cs=l.map gj) (hd:bD n d=true)
  (h:VL P n D .plain ops L (aZ d (.str l) e) O Q):VL P n D .plain ops ((.one,.mk d (.convert src dst x) ty ps af g)::L) e O Q:=by
 subst hn gN;refine VL.Fm (M:=fun m O'=>m= .str l/\O'=O) hg hd (fun G a w hw hf=>?_) ?_
 ·exact⟨_,_,⟨rfl,rfl⟩,dT.of (Wd (P:=P) ht hw hs r9 he (hf.ev hx)) (by simp[execOp])⟩
 ·rintro m O' ⟨rfl,rfl⟩;exact h
end
section
variable {n:Sz} {D:List Deferred} {e e':Env} {P:Program} {tab:cg} {O O':VH} {m m':MV} {ops:Array Oper} {Q:VQ} {md:Md}
def cO:Op->Bool
 | .call c=>match c.callee with
   | .value _=>true
   | .builtin .append=>true
   | _=>false
 | _=>false
def HH:Fl->Bool
 | .fk=>true
 | _=>false
def ah4 (P:Program) (n:Sz) (Q:VQ) (d:Option Tmp) (O:VH) (K:Env->VH->Prop) (e:Env) (fv:Option MV) (ms:Option (List MV)):Prop:=
 ∃id fs cs l R,fv=some (.func (.func id) fs cs)/\ms=some l/\Enters P id/\bD n d=true/\VF P id (fs++l++cs) O R/\∀r O',R r O'->match r with
  | .ret m=>K (aZ d m e) O'
  | .panic m=>Q (.panic m) (k9 n e) O'
def eY (P:Program) (id:FuncId) (l:List MV) (O:VH) (M:MV->VH->Prop):Prop:=
 ∀G w vs,WR G O w->aS G l vs->∃m O' u w' H,M m O'/\(callFunc id vs.toArray).run P w= .ok (.value u) w'/\Gh.Le G H/\WR H O' w'/\VR H m u
def jF:Md->Bool
 | .plain=>true
 | _=>false
def ah5 (P:Program) (n:Sz) (md:Md) (d:Option Tmp) (O:VH) (K:Env->VH->Prop) (e:Env) (fv:Option MV) (ms:Option (List MV)):Prop:=
 ∃id l M,jF md=true/\fv=some (.func (.func id) [] [])/\ms=some l/\bD n d=true/\eY P id l O M/\∀m O',M m O'->K (aZ d m e) O'
def ah (P:Program) (n:Sz) (md:Md) (Q:VQ) (d:Option Tmp) (O:VH) (K:Env->VH->Prop) (e:Env) (fv:Option MV) (ms:Option (List MV)):Prop:=
 ah4 P n Q d O K e fv ms\/ah5 P n md d O K e fv ms
def v7 (P:Program) (n:Sz) (D:List Deferred) (md:Md) (ops:Array Oper) (Q:VQ) (f:Fl) (o:Oper) (L:List (Fl×Oper)) (e:Env) (O:VH) (K:Env->VH->Prop):Prop:=
 match f,o.op with
 | .one,.call c=>match c.callee with
   | .value x=>ah P n md Q o.dst O K e (ev e x) (gh e c.args.toList)
   | _=>VL P n D md ops ((f,o)::L) e O Q
 | _,_=>VL P n D md ops ((f,o)::L) e O Q
theorem VL.ext {o:Oper} {c:Call} {x:Operand} {id:FuncId} {ms:List MV} {M:MV->VH->Prop} {L:List (Fl×Oper)} (hg:aO ops o e=some true) (vH:o.op= .call c) (hc:c.callee= .value x) (hf:ev e x=some (.func (.func id) [] [])) (hm:gh e c.args.toList=some ms) (hd:bD n o.dst=true)
  (hx:eY P id ms O M) (h:∀m O',M m O'->VL P n D .plain ops L (aZ o.dst m e) O' Q):VL P n D .plain ops ((.one,o)::L) e O Q:=by
 intro fuel listed ix sF hp
 match ix,sF with
 | (i,g)::ix,sF=>
   obtain⟨rfl,ho,sF⟩:=sF;intro G a w hw aV;have vI:=aV.ev hf;generalize Ak:a.eval x=fv at vI;cases vI with
   | func h1 h2 h3 h4=>
     rename_i us vs;have jC:us=[]:=Mn h1;have oY:vs=[]:=Mn h3;subst jC;subst oY
     have iN:=aV.gh hm;obtain⟨m,O',u,w',H,hM,hr,g1,g2,g3⟩:=hx G w _ hw iN
     have cD:(execOp a.eval o).run P w= .ok (.value u) w':=by
      have ha: #[]++c.args.map a.eval++ #[]=(c.args.toList.map a.eval).toArray:=by apply Array.ext';simp
      simp only[execOp,vH,resolve,hc,Ak,Deferred.ofValue,Sem.run_bind,Sem.run_pure,Result.andThen_ok,invoke];rw[ha];exact hr
     simp only[aec,wpOps,ho,bC aV hg,if_true];refine .inl ?_;unfold Oper.wp;rw[cD];exact mV (fun _ _ _=>cN.le g1) (ix.map (·.1)) _ _ (h m O' hM 0 #[] ix sF (fun h=>absurd rfl h) H (a.put o.dst u) w' g2 ((aV.mono g1).aZ hd g3))
theorem v7.sound {f:Fl} {o:Oper} {L:List (Fl×Oper)} {K:Env->VH->Prop} (hK:∀e O,K e O->VL P n D md ops L e O Q) (hg:aO ops o e=some true) (h:v7 P n D md ops Q f o L e O K):VL P n D md ops ((f,o)::L) e O Q:=by
 obtain⟨d,op,ty,ps,af,g⟩:=o;cases f with
 | one=>
   cases op with
   | call c=>
     obtain⟨cl,as_,ts⟩:=c;cases cl with
     | value x=>
       rcases h with h | h
       ·obtain⟨id,fs,cs,l,R,h1,h2,h3,h4,h5,h6⟩:=h;refine VL.call hg h1 h2 rfl h3 h4 h5 fun r O' hr=>?_
        have:=h6 r O' hr;cases r with
        | ret m=>exact hK _ _ this
        | panic m=>exact this
       ·obtain⟨id,l,M,hp,h1,h2,h3,h4,h5⟩:=h;cases md with
        | plain=>exact VL.ext hg rfl rfl h1 h2 h3 h4 fun m O' hM=>hK _ _ (h5 m O' hM)
        | _=>cases hp
     | _=>exact h
   | _=>exact h
 | _=>exact h
def WL (P:Program) (tab:cg) (n:Sz) (D:List Deferred) (md:Md) (ops:Array Oper) (Q:VQ):List (Fl×Oper)->Env->VH->Prop
 | [],e,O=>Q .normal e O
 | (f,o)::L,e,O=>match aO ops o e with
   | none=>False
   | some false=>(match bD n o.dst&& !HH f with
     | true=>WL P tab n D md ops Q L (aZ o.dst cV e) O
     | false=>False)
   | some true=>(match cO o.op||HH f with
     | true=>v7 P n D md ops Q f o L e O (WL P tab n D md ops Q L)
     | false=>(match iW tab f o e O with
       | none=>VL P n D md ops ((f,o)::L) e O Q
       | some (m,O')=>(match bD n o.dst with
         | true=>WL P tab n D md ops Q L (aZ o.dst m e) O'
         | false=>False)))
theorem WL.sound (ht:aP P tab):∀{L:List (Fl×Oper)} {e:Env} {O:VH},WL P tab n D md ops Q L e O->VL P n D md ops L e O Q
 | [],e,O,h=>VL.nil h
 | (f,o)::L,e,O,h=>by
   rw[WL]at h;split at h
   ·exact h.elim
   ·rename_i hg;split at h
    ·rename_i hd;simp only[Mm,Bool.not_eq_true']at hd;exact VL.skip (by rintro rfl;exact absurd hd.2 (by decide)) hg hd.1 (WL.sound ht h)
    ·exact h.elim
   ·rename_i hg;split at h
    ·exact v7.sound (fun e O h=>WL.sound ht h) hg h
    ·split at h
     ·exact h
     ·split at h
      ·exact VL.step ht hg ‹_› ‹_› (WL.sound ht h)
      ·exact h.elim
def Fq (P:Program) (n:Sz) (tab:cg) (D:List Deferred) (A B:Env->VH->VQ->Prop) (e:Env) (O:VH) (Q:VQ):Option MV->Prop
 | some (.v (.bool true))=>A e O Q
 | some (.v (.bool false))=>B e O Q
 | _=>False
def WC (P:Program) (tab:cg) (n:Sz) (D:List Deferred):Code->Env->VH->VQ->Prop
 | .skip,e,O,Q=>Q .normal e O
 | .exit i,e,O,Q=>Q (.exit i) e O
 | .label _,e,O,Q=>Q .normal e O
 | .ret,e,O,Q=>Q .ret e O
 | .scope c,e,O,Q=>WC P tab n D c e O (tV Q)
 | .block id c,e,O,Q=>WC P tab n D c e O (iV id Q)
 | .seq a b,e,O,Q=>WC P tab n D a e O fun x e O=>match x with
   | .normal=>WC P tab n D b e O Q
   | x=>Q x e O
 | .cond c x y,e,O,Q=>Fq P n tab D (WC P tab n D x) (WC P tab n D y) e O Q (ev e c)
 | .region id ops false,e,O,Q=>WL P tab n D .plain ops Q (ops.toList.map (Fl.one, ·)) e O
 | c,e,O,Q=>VC P n D c e O Q
theorem WC.sound (ht:aP P tab):∀{c:Code} {e:Env} {O:VH} {Q:VQ},WC P tab n D c e O Q->VC P n D c e O Q:=by
 intro c;induction c with
 | skip=>intro e O Q h;exact VC.skip h
 | exit i=>intro e O Q h;exact VC.exit h
 | label l=>intro e O Q h;exact VC.label h
 | ret=>intro e O Q h;exact VC.ret h
 | scope c ih=>intro e O Q h;exact VC.scope (ih h)
 | block id c ih=>intro e O Q h;exact υ (ih h)
 | seq a b iha ihb=>
   intro e O Q h;refine VC.seq (VC.mono ?_ (iha h));intro x e O hx;cases x<;>first | exact ihb hx | exact hx
 | cond c x y ihx ihy=>
   intro e O Q h;simp only[WC]at h;unfold Fq at h;split at h
   ·rename_i he;exact VC.Kk he (ihx h)
   ·rename_i he;exact VC.ah2 he (ihy h)
   ·exact h.elim
 | region id ops dr=>
   intro e O Q h;cases dr with
   | true=>exact h
   | false=>obtain⟨l⟩:=ops;exact VC.Ue (WL.sound ht h)
 | loop c ih=>intro e O Q h;exact h
 | _=>intro e O Q h;exact h
def rJ (K:Env->VH->Prop) (Q:VQ):VQ:=fun x e O=>match x with
 | .normal=>K e O
 | x=>Q x e O
def iY (tab:cg) (e:Env) (O:VH):List ResultVar->Option (List MV)
 | []=>some []
 | r::rs=>(ky tab e O r).bind fun m=>(iY tab e O rs).map (m:: ·)
def jo (R:gB->VH->Prop) (O:VH):Option (List MV)->Prop
 | none=>False
 | some [m]=>R (.ret m) O
 | some l=>R (.ret (.tuple l)) O
def De (tab:cg) (rs:List ResultVar) (R:gB->VH->Prop):VQ:=fun x e O=>match x with
 | .normal=>jo R O (iY tab e O rs)
 | .ret=>jo R O (iY tab e O rs)
 | .panic m=>R (.panic m) O
 | _=>False
theorem sH (rs:List ResultVar):iY tab e O rs=rs.mapM (ky tab e O):=by
 induction rs with
 | nil=>rfl
 | cons r rs ih=>
   rw[iY,ih,List.mapM_cons];simp only[Option.bind_eq_bind];cases ky tab e O r with
   | none=>rfl
   | some m=>simp only[anc];cases List.mapM (ky tab e O) rs<;>rfl
theorem VF.ofW (ht:aP P tab) {f:FuncId} {fn:Func} {c:Code} {args:List MV} {rs:List ResultVar} {R:gB->VH->Prop} (hf:P.funcs[f]?=some fn) (hb:fn.body=some c) (hk:(⟨fn.ntmps,0⟩:Sz)=n) (hr:fn.results.toList=rs) (hn:args.length<=n.n)
  (h:WC P tab n [] c (cL 0 args) O (De tab rs R)):VF P f args O R:=by
 subst hk;refine VF.enter ht hf hb hn (VC.mono ?_ (WC.sound ht h));intro x e O hx
 have key:jo R O (iY tab e O rs)->∃m,dK tab fn e O=some m/\R (.ret m) O:=fun h=>by
  unfold dK;rw[hr, <-sH];generalize iY tab e O rs=z at h;unfold jo at h;split at h
  ·exact h.elim
  ·exact⟨_,rfl,h⟩
  ·rename_i l hl;refine⟨.tuple l,?_,h⟩
   match l,hl with
   | [],_=>rfl
   | [m],hl=>exact absurd rfl (hl m)
   | _::_::_,_=>rfl
 cases x<;>first | exact key hx | exact hx
theorem Θ {f:FuncId} {fn:Func} {c:Code} {args:List MV} {R:gB->VH->Prop} {Q':Prop} (k:Nat) (rs:List ResultVar) (hf:P.funcs[f]?=some fn) (q:Q') (ht:aP P tab:=by exact aa) (hb:fn.body=some c:=by exact rfl) (hk:(⟨fn.ntmps,0⟩:Sz)=⟨k,0⟩:=by exact rfl) (hr:fn.results.toList=rs:=by exact rfl) (hn:args.length<=k:=by exact Nat.le_of_ble_eq_true rfl) (h:WC P tab ⟨k,0⟩ [] c (cL 0 args) O (De tab rs R)=Q':=by conv=>lhs;simp only[cL,Nat.zero_add,Nat.reduceAdd]):VF P f args O R:=VF.ofW ht hf hb hk hr hn (h.mpr q)
def W3 (P:Program) (tab:cg) (n:Sz) (D:List Deferred) (md:Md) (ops:Array Oper) (Q:VQ) (L:List (Fl×Oper)) (e:Env) (O:VH):Bool->Prop
 | true=>WL P tab n D md ops Q L e O
 | false=>False
def W2 (P:Program) (tab:cg) (n:Sz) (D:List Deferred) (md:Md) (ops:Array Oper) (Q:VQ) (f:Fl) (o:Oper) (L:List (Fl×Oper)) (e:Env) (O:VH):Option (MV×VH)->Prop
 | some (m,O')=>W3 P tab n D md ops Q L (aZ o.dst m e) O' (bD n o.dst)
 | none=>VL P n D md ops ((f,o)::L) e O Q
def W1 (P:Program) (tab:cg) (n:Sz) (D:List Deferred) (md:Md) (ops:Array Oper) (Q:VQ) (f:Fl) (o:Oper) (L:List (Fl×Oper)) (e:Env) (O:VH):Bool->Option Bool->Prop
 | _,none=>False
 | true,some true=>v7 P n D md ops Q f o L e O (WL P tab n D md ops Q L)
 | false,some true=>W2 P tab n D md ops Q f o L e O (iW tab f o e O)
 | _,some false=>W3 P tab n D md ops Q L (aZ o.dst cV e) O (bD n o.dst&& !HH f)
section
variable {f:Fl} {o:Oper} {L:List (Fl×Oper)} {d:Option Tmp} {p:Op} {ty:TypeId} {ps:String} {af:Array Edge} {g:Option (Nat×Bool)} {b:Bool}
theorem aek:WL P tab n D md ops Q [] e O=Q .normal e O:=rfl
theorem aac:WL P tab n D md ops Q ((f,.mk d p ty ps af g)::L) e O=W1 P tab n D md ops Q f (.mk d p ty ps af g) L e O (cO p||HH f) (aO ops (.mk d p ty ps af g) e):=by
 rw[WL];generalize aO ops (.mk d p ty ps af g) e=x;unfold W1;cases x with
 | none=>rfl
 | some b=>
   cases b with
   | false=>
     simp only;unfold W3;split<;>simp only
     all_goals (split<;>rename_i h<;>simp_all)
   | true=>
     simp only;generalize (cO p||HH f)=y;cases y with
     | true=>rfl
     | false=>
       simp only;unfold W2;cases iW tab f (.mk d p ty ps af g) e O with
       | none=>rfl
       | some r=>unfold W3;cases bD n d<;>rfl
theorem aad:W1 P tab n D md ops Q f o L e O true (some true)=v7 P n D md ops Q f o L e O (WL P tab n D md ops Q L):=rfl
theorem ah6:W1 P tab n D md ops Q f o L e O false (some true)=W2 P tab n D md ops Q f o L e O (iW tab f o e O):=rfl
theorem aae:W1 P tab n D md ops Q f (.mk d p ty ps af g) L e O b (some false)=W3 P tab n D md ops Q L (aZ d cV e) O (bD n d&& !HH f):=by cases b<;>rfl
theorem aaf:W2 P tab n D md ops Q f (.mk d p ty ps af g) L e O (some (m,O'))=W3 P tab n D md ops Q L (aZ d m e) O' (bD n d):=rfl
theorem aag:W2 P tab n D md ops Q f o L e O none=VL P n D md ops ((f,o)::L) e O Q:=rfl
theorem aah:W3 P tab n D md ops Q L e O true=WL P tab n D md ops Q L e O:=rfl
variable {K:Env->VH->Prop} {x:Operand} {as_:Array Operand} {ts:Array TypeId}
theorem Nb:v7 P n D md ops Q .one (.mk d (.call {callee:=.value x,args:=as_,argTypes:=ts}) ty ps af g) L e O K=ah P n md Q d O K e (ev e x) (gh e as_.toList):=rfl
theorem HI:v7 P n D md ops Q f (.mk d (.call {callee:=.builtin .append,args:=as_,argTypes:=ts}) ty ps af g) L e O K=VL P n D md ops ((f,.mk d (.call {callee:=.builtin .append,args:=as_,argTypes:=ts}) ty ps af g)::L) e O Q:=by cases f<;>rfl
end
section
variable {c a b:Code} {i id:Nat} {A B:Env->VH->VQ->Prop} {l:List Oper} {K:Env->VH->Prop} {R:gB->VH->Prop} {rs:List ResultVar} {r:ResultVar} {t:Nat} {m1 m2 m3:MV} {x:Operand} {y:Code}
theorem aai:WC P tab n D .skip e O Q=Q .normal e O:=rfl
theorem aaj:WC P tab n D (.exit i) e O Q=Q (.exit i) e O:=rfl
theorem We:WC P tab n D (.label i) e O Q=Q .normal e O:=rfl
theorem ael:WC P tab n D .ret e O Q=Q .ret e O:=rfl
theorem Wf:WC P tab n D (.scope c) e O Q=WC P tab n D c e O (tV Q):=rfl
theorem Wg:WC P tab n D (.block id c) e O Q=WC P tab n D c e O (iV id Q):=rfl
def aak (P:Program) (tab:cg) (n:Sz) (D:List Deferred) (b:Code) (Q:VQ):Env->VH->Prop:=fun e O=>WC P tab n D b e O Q
theorem Wh:aak P tab n D b Q e O=WC P tab n D b e O Q:=rfl
theorem aem:WC P tab n D (.seq a b) e O Q=WC P tab n D a e O (rJ (aak P tab n D b Q) Q):=rfl
theorem aal:WC P tab n D (.cond x a b) e O Q=Fq P n tab D (WC P tab n D a) (WC P tab n D b) e O Q (ev e x):=rfl
theorem Q7:WC P tab n D (.region id ⟨l⟩ false) e O Q=WL P tab n D .plain ⟨l⟩ Q (l.map (Fl.one, ·)) e O:=rfl
theorem Wi:WC P tab n D (.region id ops true) e O Q=VC P n D (.region id ops true) e O Q:=rfl
theorem aam:WC P tab n D (.loop c) e O Q=VC P n D (.loop c) e O Q:=rfl
theorem Kq:rJ K Q .normal e O=K e O:=rfl
theorem Q8:rJ K Q (.exit i) e O=Q (.exit i) e O:=rfl
theorem Q9:rJ K Q (.goto i) e O=Q (.goto i) e O:=rfl
theorem Wj:rJ K Q .ret e O=Q .ret e O:=rfl
theorem Df:rJ K Q (.panic m) e O=Q (.panic m) e O:=rfl
theorem aan:Fq P n tab D A B e O Q (some (.v (.bool true)))=A e O Q:=rfl
theorem aao:Fq P n tab D A B e O Q (some (.v (.bool false)))=B e O Q:=rfl
theorem Wl:iY tab e O []=some []:=rfl
theorem Q_:iY tab e O (r::rs)=(ky tab e O r).bind fun m=>(iY tab e O rs).map (m:: ·):=rfl
theorem Kr:ky tab e O (.tmp t)=look e t:=rfl
theorem HJ {ty:TypeId}:ky tab e O (.cell t ty)=(look e t).bind (fw tab O ty):=rfl
theorem aen:jo R O (some [])=R (.ret (.tuple [])) O:=rfl
theorem aeo:jo R O (some [m])=R (.ret m) O:=rfl
theorem aep:jo R O (some [m,m1])=R (.ret (.tuple [m,m1])) O:=rfl
theorem aeq:jo R O (some [m,m1,m2])=R (.ret (.tuple [m,m1,m2])) O:=rfl
theorem aer:jo R O (some [m,m1,m2,m3])=R (.ret (.tuple [m,m1,m2,m3])) O:=rfl
theorem Kt:De tab rs R .normal e O=jo R O (iY tab e O rs):=rfl
theorem Wm:De tab rs R .ret e O=jo R O (iY tab e O rs):=rfl
theorem Nc:De tab rs R (.panic m) e O=R (.panic m) O:=rfl
def df (P:Program) (f:FuncId):Bool:=match P.funcs[f]? with
 | some fn=> !(fn.name== "runtime.NumGoroutine")&&fn.body.isSome
 | none=>false
theorem Enters.sI {f:FuncId} (h:df P f=true):Enters P f:=by
 unfold df at h;split at h
 ·rename_i fn hf;simp only[Mm,Bool.not_eq_true']at h;exact Enters.of hf h.1 (by cases hb:fn.body with | none=>rw[hb]at h;exact absurd h.2 (by decide) | some c=>rfl)
 ·cases h
theorem π {f:FuncId} {fs cs ms as_:List MV} {d:Option Tmp} {Φ :MV->VH->Prop} (hR:VF P f as_ O (aE Φ)) (h:∀m O', Φ m O'->K (aZ d m e) O') (hb:df P f=true:=by kernel_rfl) (ha:fs++ms++cs=as_:=by exact rfl) (hd:bD n d=true:=by exact rfl):
  ah P n md Q d O K e (some (.func (.func f) fs cs)) (some ms):=by
 subst ha
 exact .inl ⟨f,fs,cs,ms,_,rfl,rfl,Enters.sI hb,hd,hR,fun r O' hr=>by
  cases r with
  | ret m=>exact h m O' hr
  | panic m=>exact hr.elim⟩
theorem ah.p {f:FuncId} {fs cs ms as_:List MV} {d:Option Tmp} {R:gB->VH->Prop} (hR:VF P f as_ O R) (h:∀m O',R (.ret m) O'->K (aZ d m e) O') (h2:∀m O',R (.panic m) O'->Q (.panic m) (k9 n e) O') (hb:df P f=true:=by kernel_rfl) (ha:fs++ms++cs=as_:=by exact rfl) (hd:bD n d=true:=by exact rfl):
  ah P n md Q d O K e (some (.func (.func f) fs cs)) (some ms):=by
 subst ha
 exact .inl ⟨f,fs,cs,ms,R,rfl,rfl,Enters.sI hb,hd,hR,fun r O' hr=>by
  cases r with
  | ret m=>exact h m O' hr
  | panic m=>exact h2 m O' hr⟩
theorem ah.ext {f:FuncId} {ms:List MV} {d:Option Tmp} {M:MV->VH->Prop} (hx:eY P f ms O M) (hd:bD n d=true) (h:∀m O',M m O'->K (aZ d m e) O'):ah P n .plain Q d O K e (some (.func (.func f) [] [])) (some ms):=
 .inr ⟨f,ms,M,rfl,rfl,rfl,hd,hx,h⟩
theorem eY.of {f:FuncId} {fn:Func} {ex:Array Value->Sem Value} {ms:List MV} (hf:P.funcs[f]?=some fn) (ah7:(fn.name== "runtime.NumGoroutine")=false) (hb:fn.body.isNone=true) (hn:Extern.findNext fn=none) (he:Extern.find fn=some ex)
  (hr:∀G w vs,WR G O w->aS G ms vs->∃u,(ex vs.toArray).run P w= .ok u w/\VR G m u):eY P f ms O fun m' O'=>m'=m/\O'=O:=by
 intro G w vs hw hv;obtain⟨u,h1,h2⟩:=hr G w vs hw hv;exact⟨m,O,u,w,G,⟨rfl,rfl⟩,by rw[run_callFunc_extern hf ah7 hb hn he,h1];rfl,Gh.Le.refl G,hw,h2⟩
theorem WC.reads {id:Nat} {l:List Oper}
  (h:WL P tab n D .reads ⟨l⟩ Q (l.map (Fl.rd, ·)) e O) (ht:aP P tab:=by exact aa) (hm:P.follows .mixedOrders=true:=by kernel_rfl) (hs:Region.noSelect ⟨l⟩=true:=by kernel_rfl) (hp:cZ .reads ⟨l⟩ l.length (Array.replicate l.length false) ((List.range' 0 l.length).map (·,Fl.rd))=true:=by kernel_rfl):VC P n D (.region id ⟨l⟩ true) e O Q:=VC.Uk hm hs hp (WL.sound ht h)
theorem WC.bQ (md:Md) (ix:List (Nat×Fl)) {id:Nat} {l:List Oper} {L:List (Fl×Oper)}
  (h:WL P tab n D md ⟨l⟩ Q L e O) (ht:aP P tab:=by exact aa) (hne:md≠ .plain:=by simp) (hm:P.follows .mixedOrders=true:=by kernel_rfl) (hs:Region.noSelect ⟨l⟩=true:=by kernel_rfl) (hp:cZ md ⟨l⟩ l.length (Array.replicate l.length false) ix=true:=by kernel_rfl) (hL:oC l ix=some L:=by exact rfl):VC P n D (.region id ⟨l⟩ true) e O Q:=VC.Uf md ix hne hm hs hp hL (WL.sound ht h)
variable {σ :Type} {ls Ks:List Nat} {ks:List MV} {ms: σ ->List MV} {I: σ ->VH->Prop} {μ : σ ->Nat} {s: σ}
theorem WC.jh (ls Ks:List Nat) (ms: σ ->List MV) (I: σ ->VH->Prop) (μ : σ ->Nat) (s0: σ) (hI:I s0 O)
  (step:∀s O,I s O->WC P tab n D c (jE ls (ms s) (jE Ks ks [])) O (az ls Ks ks ms I μ s Q)) (ht:aP P tab:=by exact aa) (h0:looks e ls=some (ms s0):=by exact rfl) (hk:looks e Ks=some ks:=by exact rfl):VC P n D (.loop c) e O Q:=
 VC.jh ls Ks ms I μ s0 h0 hk hI fun s O h=>WC.sound ht (step s O h)
end
theorem VL.app {d:Option Tmp} {x y:Operand} {t ty:TypeId} {ps:String} {af:Array Edge} {g:Option (Nat×Bool)} {L:List (Fl×Oper)} {p q:MV} (hv:iA tab O t p q=some (m,O')) (h:WL P tab n D md ops Q L (aZ d m e) O') (ht:aP P tab:=by exact aa) (hx:ev e x=some p:=by exact rfl) (hy:ev e y=some q:=by exact rfl) (hg:aO ops (.mk d (.call {callee:=.builtin .append,args:= #[x,y],argTypes:= #[t,t]}) ty ps af g) e=some true:=by exact rfl) (hd:bD n d=true:=by exact rfl):
  VL P n D md ops ((.one,.mk d (.call {callee:=.builtin .append,args:= #[x,y],argTypes:= #[t,t]}) ty ps af g)::L) e O Q:=
 VL.step ht hg (by rw[xE,dq,hx,hy];exact hv) hd (WL.sound ht h)
end
section
variable {G H:Gh} {n:Sz} {D:List Deferred} {e:Env} {a:Act} {P:Program} {tab:cg} {O O':VH} {w:World} {m m':MV} {u v:Value} {ops:Array Oper} {Q:VQ} {md:Md}
def gC (P:Program) (n:Sz) (D:List Deferred) (o:Oper) (e:Env) (O:VH) (M:MV->VH->Prop):Prop:=
 ∀G a w,WR G O w->FR G n D e a->∃m O' u w' H,M m O'/\(execOp a.eval o).run P w= .ok (.value u) w'/\Gh.Le G H/\WR H O' w'/\VR H m u
theorem aN.jG {i:Nat} {o:Oper} {M:MV->VH->Prop} {K:Env->VH->Prop} (ho:ops[i]?=some o) (hg:aO ops o e=some true) (hd:bD n o.dst=true) (hy:gC P n D o e O M) (h:∀m O',M m O'->K (aZ o.dst m e) O'):aN P n D ops i e O Q K:=by
 intro G a w hw aV;obtain⟨m,O',u,w',H,hM,hr,h1,h2,h3⟩:=hy G a w hw aV;simp only[wpOp,ho,bC aV hg,if_true];refine .inl ?_;unfold Oper.wp;rw[hr];exact⟨_,_,H,h1,h2,(aV.mono h1).aZ hd h3,h _ _ hM⟩
theorem VL.jG {o:Oper} {L:List (Fl×Oper)} {M:MV->VH->Prop} (hg:aO ops o e=some true) (hd:bD n o.dst=true) (hA:HC o.op=true->∀brk,md= .held brk->brk≠[]) (hb:∀brk,md= .held brk->HC o.op=false\/brk≠[]) (hy:gC P n D o e O M)
  (qu:∀brk,md= .held brk->∀i,ops[i]?=some o->brk.contains i=true) (h:∀m O',M m O'->VL P n D md ops L (aZ o.dst m e) O' Q):VL P n D md ops ((.one,o)::L) e O Q:=by
 intro fuel listed ix hf hp
 match ix,hf with
 | (i,g)::ix,hf=>
   obtain⟨rfl,ho,hf⟩:=hf;cases md with
   | plain=>exact iT.one (aN.jG ho hg hd hy fun m O' hM=>h m O' hM 0 #[] ix hf (fun h=>absurd rfl h))
   | any=>
     obtain⟨h1,h2⟩:=hp (by simp);cases fuel with
     | zero=>cases h2
     | succ fuel=>
       simp only[cZ,Mm]at h2;have hr:Region.ready .any ops listed=[i]:=by simpa using h2.1
       exact cG.all hr (by simp) fun j hj=>by
        obtain rfl:j=i:=by simpa using hj
        exact aN.jG ho hg hd hy fun m O' hM=>h m O' hM fuel (listed.setIfInBounds j true) ix hf (fun _=>⟨h1,h2.2⟩)
   | reads=>
     obtain⟨h1,h2⟩:=hp (by simp);cases fuel with
     | zero=>cases h2
     | succ fuel=>
       simp only[cZ,Mm]at h2;exact absurd h2.1 (by simp)
   | held brk=>
     obtain⟨h1,h2⟩:=hp (by simp);cases fuel with
     | zero=>cases h2
     | succ fuel=>
       simp only[cZ,Mm]at h2;have hr:Region.ready .any ops listed=[i]:=by simpa using h2.1.1
       have yZ:∀j,(listed.setIfInBounds i true).getD j true=false\/j=i->brk.contains j=true:=by
        rcases sE ho h2.1.2 with⟨h3,_⟩ | h3
        ·rw[qu brk rfl i ho]at h3;cases h3
        ·exact h3
       exact bP.ZY hr yZ (aN.jG ho hg hd hy fun m O' hM=>h m O' hM fuel (listed.setIfInBounds i true) ix hf (fun _=>⟨h1,h2.2⟩))
theorem VL.pD {o:Oper} {L:List (Fl×Oper)} {M:MV->VH->Prop} (hy:gC P n D o e O M) (h:∀m O',M m O'->VL P n D md ops L (aZ o.dst m e) O' Q) (hmd:md= .plain\/md= .any:=by exact .inl rfl) (hg:aO ops o e=some true:=by exact rfl) (hd:bD n o.dst=true:=by exact rfl):VL P n D md ops ((.one,o)::L) e O Q:=by
 rcases hmd with rfl | rfl
 ·exact VL.jG hg hd (fun _ _ h=>by cases h) (fun _ h=>by cases h) hy (fun _ h=>by cases h) h
 ·exact VL.jG hg hd (fun _ _ h=>by cases h) (fun _ h=>by cases h) hy (fun _ h=>by cases h) h
def AD (O:VH) (sz:Nat):MV->Option (Nat×List MV)
 | .sl k ds _=>if ds.length=k*sz then some (k,ds)else none
 | .bz k o n _=>match O.hp k with
   | some (.cells cs)=>if o+n*sz<=cs.length then some (n,(cs.drop o).take (n*sz))else none
   | _=>none
 | .str l=>if sz=1 then some (l.length,l.map gj)else none
 | _=>none
def AE:MV->TypeDesc->Prop
 | .str _,.string=>True
 | .str _,_=>False
 | _,.slice _=>True
 | _,_=>False
theorem strCells_eq (l:List UInt8):byteCells (⟨⟨l⟩⟩:ByteArray)=l.map fun b=>Value.int .u8 b.toNat:=by simp[byteCells]
theorem AF (h:WR G O w) {sz k:Nat} {ds:List MV} {tx:TypeId} {d:TypeDesc} (hs:AD O sz m=some (k,ds)) (hx:VR G m u) (ht:P.underlying tx=some d) (hd:AE m d) (iB:ds.all eb=true):∃us,Src P sz tx u k us w/\aS G ds us:=by
 unfold AD at hs;split at hs
 ·split at hs
  ·rename_i k' lh tk hl;injection hs with hs;injection hs with e1 e2;subst e1;subst e2
   have hk:∃e',P.underlying tx=some (.slice e'):=by
    cases d<;>simp only[AE]at hd
    exact⟨_,ht⟩
   obtain⟨e',hk⟩:=hk
   have nil:∀A c,k'=0->lh=[]->VR G (.sl k' lh tk) (.slice A 0 c)->∃us,Src P sz tx (.slice A 0 c) k' us w/\aS G lh us:=fun A c e1 e2 _=>by
    subst e1;subst e2
    refine⟨[],?_,aS.nil⟩;cases A with
    | none=>exact Src.ofNil w hk c
    | some A=>exact Src.ofSlice w hk A 0 c [] (by simp) (fun j u hu=>by simp at hu) (fun u hu=>by cases hu)
   cases hx with
   | slnil=>exact nil _ _ rfl rfl .slnil
   | px h1=>exact nil _ _ rfl rfl (.px h1)
   | kQ=>exact nil _ _ rfl rfl .kQ
   | sl h1 h2 h3 h4 h5 h6=>
     rename_i us c b o;have hv:aS G lh us:=⟨h1,h3⟩;exact⟨us,Src.ofSlice w hk _ k' c us (by rw[h1,hl]) (fun j u hu=>by rw[Addr.add_lit];exact h.eN _ _ _ (h2 j u hu)) (ze hv iB),hv⟩
  ·cases hs
 ·rename_i k' o n' c';split at hs
  ·rename_i cs qs;split at hs
   ·rename_i hle;injection hs with hs;injection hs with e1 e2;subst e1;subst e2
    have hk:∃e',P.underlying tx=some (.slice e'):=by
     cases d<;>simp only[AE]at hd
     exact⟨_,ht⟩
    obtain⟨e',hk⟩:=hk;cases hx with
    | bz hp hn hm=>
      rename_i b;obtain⟨b',C,T,h1,h2,h3⟩:=h.cells k' cs qs;rw[hp]at h1;injection h1 with h1;subst h1
      have hv:=(h3.drop o).take (n'*sz);refine⟨_,Src.ofSlice w hk ⟨b,o,none⟩ n' c' _ ?_ (fun j u hu=>?_) (ze hv iB),hv⟩
      ·rw[hv.1];simp;omega
      ·rw[Addr.add_lit];rw[ahX]at hu;split at hu
       ·rw[List.getElem?_drop,ahX]at hu;split at hu
        ·simp only[World.cell?,h2,ahY,aee,if_false];simpa using hu
        ·cases hu
       ·cases hu
   ·cases hs
  ·cases hs
 ·rename_i l;split at hs
  ·rename_i p7;subst p7;injection hs with hs;injection hs with e1 e2;subst e1;subst e2
   have hk:P.underlying tx=some .string:=by
    cases d<;>simp only[AE]at hd
    exact ht
   cases hx;refine⟨_,Src.ofString w hk ⟨⟨l⟩⟩,?_⟩;rw[strCells_eq];exact Fo l
  ·cases hs
 ·cases hs
theorem aap {α :Type} {s:Sem α} {x y: α} {w1 w2:World} (h1:s.run P w= .ok x w1) (h2:s.run P w= .ok y w2):w1=w2:=by
 rw[h1]at h2;injection h2
theorem Ra (h:WR G O w) {k b i:Nat} {cs:List MV} (hk:O.hp k=some (.cells cs)) (hp:G.bV k=some b) (hi:i<cs.length):(w.cell? ⟨b,i,none⟩).isSome=true/\w.frozen? ⟨b,i,none⟩=false:=by
 obtain⟨b',C,T,e1,e2,e3⟩:=h.cells k cs hk;rw[hp]at e1;injection e1 with e1;subst e1
 have hlen:i<C.size:=by have:=e3.1;simp at this;omega
 constructor
 ·simp only[World.cell?,e2,ahY,aee,if_false,Array.getElem?_eq_getElem hlen,Option.isSome_some]
 ·obtain⟨t',⟨lo,hi⟩,dh⟩:=T;dsimp only at e2 dh;simp only[World.frozen?,e2,Bool.and_eq_false_imp,decide_eq_true_eq,decide_eq_false_iff_not];intro;omega
theorem Nf (ht:aP P tab) (h:WR G O w) {t tx ty el:TypeId} {te:cM} {d:TypeDesc} {k o n' c j:Nat} {cs ds:List MV} (hu:(tab t).map cM.under=some (.slice el)) (he:tab el=some te) (v8:P.underlying tx=some d) (hk:O.hp k=some (.cells cs)) (hs:AD O te.size m=some (j,ds)) (hd:AE m d) (iB:ds.all eb=true)
  (pE:n'+j<=c) (hle:o+n'*te.size+ds.length<=cs.length) (hx:VR G (.bz k o n' c) u) (hy:VR G m v):
  ∃w' A,(Builtin.append_ #[t,tx] ty #[u,v]).run P w= .ok (.slice A (n'+j) c) w'/\WR G (O.set k (.cells (eI cs (o+n'*te.size) ds))) w'/\VR G (.bz k o (n'+j) c) (.slice A (n'+j) c):=by
 obtain⟨ti,z,i1,i2,i3,i4,i5,i6⟩:=(ht _ te he).info;obtain⟨us,pS,hv⟩:=AF (P:=P) h hs hy v8 hd iB;cases hx with
 | bz hp hn hm=>
   rename_i b;have j6:=fun(q:Nat) (hq:q<us.length)=>Ra h (i:=o+n'*te.size+q) hk hp (by have:=hv.1;omega)
   rw[<-i2]at pS j6;have hr:=run_append_room_src (P:=P) w t tx ty el ti (bM ht hu) i1 b o n' c v j us pS pE (fun q hq=>(j6 q hq).1) (fun q hq=>(j6 q hq).2);obtain⟨w2,gu,sJ⟩:=zg (P:=P) hp (o+n'*te.size) ds us 0 cs O w h hk hv iB (by omega);have gO:=run_storeCells_cells (P:=P) b (o+n'*ti.size) us 0 w (by simpa using fun q hq=>(j6 q hq).1) (by simpa using fun q hq=>(j6 q hq).2) pS.one;rw[i2]at gO;have:=aap gu gO;subst this;rw[i2]at hr;exact⟨_,_,hr,by simpa using sJ,.bz hp pE hm⟩
def VH.zC (O:VH) (cs:List MV) (t:TypeId) (n:Nat):VH:=(O.push (.cells cs)).push (.shape O.N t n)
theorem AG (ht:aP P tab) (h:WR G O w) {t tx ty el:TypeId} {te:cM} {d:TypeDesc} {n' c j:Nat} {A:Option Addr} {L ds:List MV} {us:List Value} (hu:(tab t).map cM.under=some (.slice el)) (he:tab el=some te) (v8:P.underlying tx=some d) (hs:AD O te.size m=some (j,ds)) (hd:AE m d) (iB:ds.all eb=true)
  (hL:aS G L us) (pF:L.length=n'*te.size) (hold:(Builtin.firstCells te.size n' (.slice A n' c)).run P w.drew= .ok us.toArray w.drew) (pE:c<n'+j) (hb:(n'+j)*te.bytes<=140737488355328) (hm:n'+j<=maxLen) (hy:VR G m v):
  ∃c' w' H zs,n'+j<=c'/\c'<=maxLen/\zs.length=(c' - (n'+j))*te.size/\(Builtin.append_ #[t,tx] ty #[.slice A n' c,v]).run P w= .ok (.slice (some ⟨w.heap.size,0,none⟩) (n'+j) c') w'/\Gh.Le G H/\WR H (O.zC (L++ds++zs) el (c'*te.size)) w'/\VR H (.bz O.N 0 (n'+j) c') (.slice (some ⟨w.heap.size,0,none⟩) (n'+j) c'):=by
 obtain⟨ti,z,i1,i2,i3,i4,i5,i6⟩:=(ht _ te he).info;obtain⟨vs,pS,hv⟩:=AF (P:=P) h hs hy v8 hd iB;have iS:=grownCap_ge w (n'+j) c el;have hle:=grownCap_le_maxLen w (n'+j) c el hm;have aaq:=pS;rw[<-i2]at aaq hold;have hr:=run_append_grow_src (P:=P) w t tx ty el ti z (bM ht hu) i1 i4 A n' c us hold v j vs aaq pE (by simp only[maxLen]at hm;omega) (by rw[i3];exact growslice_fits (by omega) hb)
 have hzc:aS G (iR te.zero ((grownCap w (n'+j) c el - (n'+j))*te.size)) (Builtin.zeroCells z.cells (grownCap w (n'+j) c el - (n'+j))).toList:=by
  rcases Nat.eq_zero_or_pos te.zero.length with hz | hz
  ·have hz0:te.size=0:=by have:=(i6 G).1;rw[Array.length_toList,i5]at this;omega
   have:z.cells.size=0:=by rw[i5,hz0]
   rw[hz0,Nat.mul_zero];refine⟨by simp[iR,Builtin.zeroCells,this],fun i c u hc=>by simp[iR]at hc⟩
  ·have hzz:=zj (i6 G) hz ((grownCap w (n'+j) c el - (n'+j))*te.size);rw[<-i5]at hzz ⊢;exact hzz
 have kR:=(hL.append hv).append hzc;obtain⟨g1,g2⟩:=h.drew.push (cs:=L++ds++iR te.zero ((grownCap w (n'+j) c el - (n'+j))*te.size)) (C:=(us++vs).toArray++Builtin.zeroCells z.cells (grownCap w (n'+j) c el - (n'+j))) el (by simpa using kR);have eP:(us++vs).length=(n'+j)*te.size:=by rw[VI,hL.1,pF,pS.newsLen,anm]
 have p7:((us++vs).toArray++Builtin.zeroCells z.cells (grownCap w (n'+j) c el - (n'+j))).size=grownCap w (n'+j) c el*te.size:=by
  rw[Array.size_append,Ms,i5,List.size_toArray,eP, <-anm]
  congr 1;omega
 refine⟨grownCap w (n'+j) c el,_,_,iR te.zero ((grownCap w (n'+j) c el - (n'+j))*te.size),iS,hle,by simp[iR],hr,g1,g2.EO (aK _ _ _) ?_,.bz (aK _ _ _) iS hle⟩
 have:(w.drew.alloc (.cells ((us++vs).toArray++Builtin.zeroCells z.cells (grownCap w (n'+j) c el - (n'+j))) el)).heap[w.drew.heap.size]?=some (.cells ((us++vs).toArray++Builtin.zeroCells z.cells (grownCap w (n'+j) c el - (n'+j))) el):=by
  rw[fG,if_pos rfl]
 show World.shape? _ w.drew.heap.size=_;simp only[World.shape?,this,p7]
structure Row (O:VH) (el:TypeId) (sz B k c:Nat) (L:List MV):Prop where
 cells:∃sp,O.hp k=some (.cells (L++sp))/\(L++sp).length=c*sz
 oV:∃j,B<=j/\j<O.N/\O.hp j=some (.shape k el (c*sz))
 lo:B<=k
 hi:k<O.N
structure bB (O:VH) (q:Option Nat) (O':VH):Prop where
 N:O.N<=O'.N
 hp:∀i,i<O.N->q≠some i->O'.hp i=O.hp i
def gid:MV->Option Nat
 | .bz k _ _ _=>some k
 | .ptr k _=>some k
 | _=>none
def GR (O:VH) (el:TypeId) (sz B:Nat) (p:MV) (n:Nat) (L:List MV):Prop:=
 (n=0/\L=[]/\(p= .sl 0 [] .nil\/p= .sl 0 [] .full))\/∃k c,p= .bz k 0 n c/\n<=c/\L.length=n*sz/\Row O el sz B k c L
section
variable {el:TypeId} {sz B B' k c q:Nat} {L:List MV} {O1:VH} {x:cf}
theorem bB.refl (O:VH) (q:Option Nat):bB O q O:=⟨ahW _,fun _ _ _=>rfl⟩
theorem bB.ge (h:O.Ge O1) (u:bB O1 (some q) O') (hq:O.N<=q):O.Ge O':=⟨ajy h.N u.N,fun i hi=>(u.hp i (ZA hi h.N) (by intro e;injection e;omega)).trans (h.hp i hi)⟩
theorem bB.geN (h:O.Ge O1) (u:bB O1 none O'):O.Ge O':=⟨ajy h.N u.N,fun i hi=>(u.hp i (ZA hi h.N) (by simp)).trans (h.hp i hi)⟩
theorem bB.ll (h:O.Ge O'):bB O none O':=⟨h.N,fun i hi _=>h.hp i hi⟩
theorem bB.trans {o:Option Nat} (h:bB O o O1) (h2:bB O1 o O'):bB O o O':=⟨ajy h.N h2.N,fun i hi hq=>(h2.hp i (ZA hi h.N) hq).trans (h.hp i hi hq)⟩
theorem bB.any {o:Option Nat} (h:bB O none O'):bB O o O':=⟨h.N,fun i hi _=>h.hp i hi (by simp)⟩
theorem bB.set:bB O (some q) (O.set q x):=⟨ahW _,fun i _ h=>ρ _ _ (fun e=>h (by rw[e]))⟩
theorem bB.push:bB O none (O.push x):=⟨Nat.le_succ _,fun i hi _=>Ω _ _ hi⟩
theorem bB.kill:bB O (some q) (O.kill q):=⟨ahW _,fun i _ h=>VH.lg _ (fun e=>h (by rw[e]))⟩
theorem Row.qw (h:Row O el sz B k c L) (u:bB O (some q) O') (hq:q≠k) (hs:∀t n,O.hp q≠some (.shape k t n)):Row O' el sz B k c L:=by
 obtain⟨sp,h1,h2⟩:=h.cells;obtain⟨j,h3,h4,h5⟩:=h.oV;refine⟨⟨sp,(u.hp k h.hi (by simpa using hq)).trans h1,h2⟩,⟨j,h3,ZA h4 u.N,(u.hp j h4 ?_).trans h5⟩,h.lo,ZA h.hi u.N⟩;intro e;injection e with e;subst e;exact hs _ _ h5
theorem Row.zD (h:Row O el sz B k c L) (u:bB O none O'):Row O' el sz B k c L:=by
 obtain⟨sp,h1,h2⟩:=h.cells;obtain⟨j,h3,h4,h5⟩:=h.oV;exact⟨⟨sp,(u.hp k h.hi (by simp)).trans h1,h2⟩,⟨j,h3,ZA h4 u.N,(u.hp j h4 (by simp)).trans h5⟩,h.lo,ZA h.hi u.N⟩
theorem GR.zD {p:MV} {n:Nat} (h:GR O el sz B p n L) (u:bB O none O'):GR O' el sz B p n L:=by
 rcases h with h | ⟨k,c,h1,h2,h3,h4⟩
 ·exact .inl h
 ·exact .inr ⟨k,c,h1,h2,h3,h4.zD u⟩
theorem GR.qw {p:MV} {n:Nat} (h:GR O el sz B p n L) (u:bB O (some q) O') (hq:gid p≠some q) (hs:∀k t n,O.hp q≠some (.shape k t n)):GR O' el sz B p n L:=by
 rcases h with h | ⟨k,c,h1,h2,h3,h4⟩
 ·exact .inl h
 ·exact .inr ⟨k,c,h1,h2,h3,h4.qw u (fun e=>hq (by rw[h1,e];rfl)) (hs k)⟩
theorem Row.Ng {L':List MV} (h:Row O el sz B k c L) {sp:List MV} (hl:(L'++sp).length=c*sz):Row (O.set k (.cells (L'++sp))) el sz B k c L':=by
 obtain⟨j,h3,h4,h5⟩:=h.oV;refine⟨⟨sp,τ _ _ _,hl⟩,⟨j,h3,h4,?_⟩,h.lo,h.hi⟩;rw[ρ _ _ (fun e=>?_)]
 ·exact h5
 ·subst e;obtain⟨sp,h1,_⟩:=h.cells;rw[h1]at h5;cases h5
theorem Row.wider (h:Row O el sz B k c L) (hB:B'<=B):Row O el sz B' k c L:=by
 obtain⟨j,h3,h4,h5⟩:=h.oV;exact⟨h.cells,⟨j,ajy hB h3,h4,h5⟩,ajy hB h.lo,h.hi⟩
theorem Row.zC {cs:List MV} {t:TypeId} {sp:List MV} (hl:(L++sp).length=c*sz) (hB:B<=O.N):Row (O.zC (L++sp) el (c*sz)) el sz B O.N c L:=
 ⟨⟨sp,(Ω _ _ (by show O.N<O.N+1;omega)).trans (Υ _ _),hl⟩,⟨O.N+1,by omega,by show O.N+1<O.N+1+1;omega,Υ _ _⟩,hB,by show O.N<O.N+1+1;omega⟩
theorem AH (L ds sp:List MV):eI (L++sp) L.length ds=L++ds.take sp.length++sp.drop ds.length:=by
 induction ds generalizing L sp with
 | nil=>simp[eI]
 | cons d ds ih=>
   cases sp with
   | nil=>
     simp only[List.append_nil,ajz,anw,List.drop_nil,eI]
     have:∀(ds:List MV) (o:Nat),L.length<=o->eI L o ds=L:=by
      intro ds;induction ds with
      | nil=>intro o _;rfl
      | cons x xs ih=>intro o ho;rw[eI,ano ho];exact ih (o+1) (by omega)
     rw[ano (ahW _)];exact this ds _ (by omega)
   | cons s sp=>
     have:=ih (L++[d]) sp;simp only[eI];rw[List.set_append_right _ _ (ahW _),Nat.sub_self,anl];simp only[am_,List.singleton_append,VI,ah0,ajz]at this;rw[this];simp
end
theorem VL.grow (ht:aP P tab) {el:TypeId} {te:cM} {B n' j:Nat} {L ds:List MV} {p q:MV} {dx:TypeDesc} {d:Option Tmp} {x y:Operand} {t tx ty:TypeId} {ps:String} {af:Array Edge} {g:Option (Nat×Bool)} {LL:List (Fl×Oper)} (hmd:md= .plain\/md= .any)
  (hr:GR O el te.size B p n' L) (hs:AD O te.size q=some (j,ds)) (iB:ds.all eb=true) (hu:(tab t).map cM.under=some (.slice el)) (he:tab el=some te) (v8:(tab tx).map cM.under=some dx) (Fs:AE q dx) (hb:(n'+j)*te.bytes<=140737488355328) (hm:n'+j<=maxLen) (hB:B<=O.N)
  (hx:ev e x=some p) (hy:ev e y=some q) (hg:aO ops (.mk d (.call {callee:=.builtin .append,args:= #[x,y],argTypes:= #[t,tx]}) ty ps af g) e=some true) (hd:bD n d=true)
  (h:∀m O',GR O' el te.size B m (n'+j) (L++ds)->bB O (gid p) O'->(gid p=none->O.Ge O')->((∃k c,m= .bz k 0 (n'+j) c/\(gid p=some k\/(O.N<=k/\j≠0)))\/(j=0/\m=p/\O'=O))->WL P tab n D md ops Q LL (aZ d m e) O'):
  VL P n D md ops ((.one,.mk d (.call {callee:=.builtin .append,args:= #[x,y],argTypes:= #[t,tx]}) ty ps af g)::LL) e O Q:=by
 refine VL.pD (M:=fun m O'=>GR O' el te.size B m (n'+j) (L++ds)/\bB O (gid p) O'/\(gid p=none->O.Ge O')/\((∃k c,m= .bz k 0 (n'+j) c/\(gid p=some k\/(O.N<=k/\j≠0)))\/(j=0/\m=p/\O'=O))) (fun G a w hw hf=>?_) (hmd:=hmd) (hg:=hg) (hd:=hd) fun m O' ⟨h1,h2,h3,h4⟩=>WL.sound ht (h m O' h1 h2 h3 h4)
 have nO:=hf.ev hx;have ye:=hf.ev hy;have fQ:=bM ht v8
 have fin:∀{m O' u w' H},(GR O' el te.size B m (n'+j) (L++ds)/\bB O (gid p) O'/\(gid p=none->O.Ge O')/\((∃k c,m= .bz k 0 (n'+j) c/\(gid p=some k\/(O.N<=k/\j≠0)))\/(j=0/\m=p/\O'=O)))->(Builtin.append_ #[t,tx] ty #[a.eval x,a.eval y]).run P w= .ok u w'->Gh.Le G H->WR H O' w'->VR H m u->
   ∃m O' u w' H,(GR O' el te.size B m (n'+j) (L++ds)/\bB O (gid p) O'/\(gid p=none->O.Ge O')/\((∃k c,m= .bz k 0 (n'+j) c/\(gid p=some k\/(O.N<=k/\j≠0)))\/(j=0/\m=p/\O'=O)))/\(execOp a.eval (.mk d (.call {callee:=.builtin .append,args:= #[x,y],argTypes:= #[t,tx]}) ty ps af g)).run P w= .ok (.value u) w'/\Gh.Le G H/\WR H O' w'/\VR H m u:=fun hM cD h1 h2 h3=>
  ⟨_,_,_,_,_,hM,by simp only[execOp,resolve,invoke,builtin,List.map_toArray,aec,ani,Sem.run_bind,Sem.run_pure,Result.andThen_ok]<;>simp[cD],h1,h2,h3⟩
 obtain⟨vs,pS,hv⟩:=AF (P:=P) hw hs ye fQ Fs iB;have mW:ds.length=j*te.size:=by rw[<-hv.1];exact pS.newsLen
 rcases hr with⟨rfl,rfl,hp⟩ | ⟨k,c,rfl,AI,pF,c7⟩
 ·have hA:∃A,a.eval x= .slice A 0 0/\(∀w',(Builtin.firstCells te.size 0 (.slice A 0 0)).run P w'= .ok #[] w'):=by
   generalize a.eval x=u at nO
   have key:∀A:Option Addr,∀w',(Builtin.firstCells te.size 0 (.slice A 0 0)).run P w'= .ok #[] w':=fun A w'=>by
    cases A<;>simp[Builtin.firstCells,loadCells,loadCellsFrom]
   rcases hp with rfl | rfl
   ·cases nO with
    | slnil=>exact⟨_,rfl,key _⟩
    | sl h1 h2 h3 h4 h5 h6=>exact h6.elim
   ·cases nO with
    | sl h1 h2 h3 h4 h5 h6=>
      have h6:_=0:=h6;subst h6;exact⟨_,rfl,key _⟩
  obtain⟨A,hA,Wn⟩:=hA;have aar:gid p=none:=by rcases hp with rfl | rfl<;>rfl
  by_cases hj:j=0
  ·subst hj;have r9:ds=[]:=Mn (by simpa using mW);subst r9;refine fin (m:=p) (O':=O) (u:=a.eval x) (w':=w) (H:=G) ⟨.inl ⟨rfl,rfl,hp⟩,bB.refl _ _,fun _=>VH.Ge.refl _,.inr ⟨rfl,rfl,rfl⟩⟩ ?_ (Gh.Le.refl G) hw nO;have jC:vs=[]:=by have:=hv.1;simpa using this
   subst jC;rw[hA];have fx:=bM ht hu;obtain⟨ti,z,i1,i2,_⟩:=(ht _ te he).info;rcases pS.kind with⟨e',hk⟩ | hk<;>cases A<;>simp[Builtin.append_,run_underlying fx,run_underlying hk,fH (ht _ te he),pS.len,pS.cells,storeCells]
  ·rw[hA]at fin;obtain⟨c',w',H,zs,g1,g2,g3,g4,g5,g6,g7⟩:=AG (P:=P) ht hw (n':=0) (c:=0) (A:=A) (L:=[]) (us:=[]) (ty:=ty) hu he fQ hs Fs iB aS.nil (by simp) (Wn _) (by omega) hb hm ye;refine fin ⟨.inr ⟨O.N,c',rfl,g1,by rw[VI,mW];simp,?_⟩,?_,fun _=>?_,.inl ⟨_,_,rfl,.inr ⟨ahW _,hj⟩⟩⟩ g4 g5 g6 g7
   ·refine Row.zC (cs:=[]) (t:=el) ?_ hB;rw[VI,g3,VI,mW,ajz,ajx, <-anm]
    congr 1;omega
   ·rw[aar];exact bB.push.trans bB.push
   ·exact((VH.Ge.refl O).push _).push _
 ·obtain⟨sp,gN,fY⟩:=c7.cells;generalize pH:a.eval x=u at nO;have aas:=nO;cases aas with
  | bz hp hn hmx=>
    rename_i b;rw[pH]at fin;have hmul:(n'+j)*te.size=n'*te.size+j*te.size:=anm _ _ _;by_cases pE:n'+j<=c
    ·have hle:(n'+j)*te.size<=c*te.size:=Nat.mul_le_mul_right _ pE;obtain⟨w',A,g1,g2,g3⟩:=Nf (P:=P) (ty:=ty) ht hw hu he fQ gN hs Fs iB pE (by rw[fY,mW];omega) nO ye;rw[ajx, <-pF,AH]at g2
     have IY:ds.length<=sp.length:=by
      rw[VI]at fY;omega
     rw[ana IY]at g2;refine fin ⟨.inr ⟨k,c,rfl,pE,by rw[VI,pF,mW,hmul],c7.Ng ?_⟩,bB.set,(fun h=>by cases h),.inl ⟨_,_,rfl,.inl rfl⟩⟩ g1 (Gh.Le.refl G) g2 g3;rw[VI,VI,List.length_drop];rw[VI]at fY;omega
    ·obtain⟨b',C,T,d1,d2,d3⟩:=hw.cells k _ gN;rw[hp]at d1;injection d1 with d1;subst d1
     have hL:=d3.take L.length;rw[List.take_left,List.take_take,Nat.min_eq_left (by rw[VI];omega)]at hL
     have hold:(Builtin.firstCells te.size n' (.slice (some ⟨b,0,none⟩) n' c)).run P w.drew= .ok (C.toList.take L.length).toArray w.drew:=by
      refine run_firstCells_some (P:=P) w.drew te.size n' ⟨b,0,none⟩ n' c _ (by rw[hL.1,pF]) fun i u hu=>?_
      rw[Addr.add_lit,ajx];rw[ahX]at hu;split at hu
      ·have jS:w.drew.heap[b]?=some (.cells C T.t T.fr):=d2;simp only[World.cell?,jS,ahY,aee,if_false];simpa using hu
      ·cases hu
     obtain⟨c',w',H,zs,g1,g2,g3,g4,g5,g6,g7⟩:=AG (P:=P) (ty:=ty) ht hw (n':=n') (c:=c) (A:=some ⟨b,0,none⟩) (L:=L) hu he fQ hs Fs iB hL pF hold (by omega) hb hm ye;refine fin ⟨.inr ⟨O.N,c',rfl,g1,by rw[VI,pF,mW,hmul],?_⟩,(bB.push.trans bB.push).any,(fun h=>by cases h),.inl ⟨_,_,rfl,.inr ⟨ahW _,by omega⟩⟩⟩ g4 g5 g6 g7;refine Row.zC (cs:=[]) (t:=el) ?_ hB;rw[VI,g3,VI,pF,mW, <-hmul, <-anm]
     congr 1;omega
end
section
variable {G H:Gh} {n:Sz} {D:List Deferred} {e:Env} {a:Act} {P:Program} {tab:cg} {O O':VH} {w:World} {m m':MV} {u v:Value} {ops:Array Oper} {Q:VQ} {md:Md}
def iZ (P:Program) (n:Sz) (D:List Deferred) (o:Oper) (e:Env) (m:MV):Prop:=∀G a,FR G n D e a->dS P o a G m
theorem aN.pure {i:Nat} {o:Oper} {K:Env->VH->Prop} (ho:ops[i]?=some o) (hg:aO ops o e=some true) (hd:bD n o.dst=true) (hy:iZ P n D o e m) (h:K (aZ o.dst m e) O):aN P n D ops i e O Q K:=by
 refine aN.jG (M:=fun m' O'=>m'=m/\O'=O) ho hg hd (fun G a w hw hf=>?_) (by rintro m' O' ⟨rfl,rfl⟩;exact h);obtain⟨u,hu,hr⟩:=hy G a hf;exact⟨m,O,u,w,G,⟨rfl,rfl⟩,hr w hw.ss,Gh.Le.refl G,hw,hu⟩
theorem VL.pure {f:Fl} {o:Oper} {L:List (Fl×Oper)} (MP:f≠ .fk) (hh:f= .one->jF md=true\/md= .any) (hg:aO ops o e=some true) (hd:bD n o.dst=true) (hy:iZ P n D o e m) (h:VL P n D md ops L (aZ o.dst m e) O Q):VL P n D md ops ((f,o)::L) e O Q:=by
 intro fuel listed ix hf hp
 match ix,hf with
 | (i,g)::ix,hf=>
   obtain⟨rfl,ho,hf⟩:=hf;cases md with
   | plain=>exact iT.one (aN.pure ho hg hd hy (h 0 #[] ix hf (fun h=>absurd rfl h)))
   | any=>
     obtain⟨h1,h2⟩:=hp (by simp);cases fuel with
     | zero=>cases h2
     | succ fuel=>
       simp only[cZ,Mm]at h2;have hk:=h fuel (listed.setIfInBounds i true) ix hf (fun _=>⟨h1,h2.2⟩);cases g with
       | one=>
         have hr:Region.ready .any ops listed=[i]:=by simpa using h2.1
         exact cG.all hr (by simp) fun j hj=>by
          obtain rfl:j=i:=by simpa using hj
          exact aN.pure ho hg hd hy hk
       | au=>
         simp only[Mm]at h2;intro G a w hw aV;obtain⟨u,hu,hr⟩:=hy G a aV;exact wpAnyH_take ho h1 h2.1.1 h2.1.2 (iC hd) (.inl ⟨bC aV hg,hr⟩) hw.ss (hk G _ w hw (aV.aZ hd hu))
       | rd=>exact absurd h2.1 (by simp)
       | fk=>exact absurd rfl MP
   | reads=>
     obtain⟨h1,h2⟩:=hp (by simp);cases fuel with
     | zero=>cases h2
     | succ fuel=>
       simp only[cZ,Mm]at h2;have hk:=h fuel (listed.setIfInBounds i true) ix hf (fun _=>⟨h1,h2.2⟩);intro G a w hw aV;obtain⟨u,hu,cD⟩:=hy G a aV;have h3:Region.free .any ops listed i=true/\(Region.ready .any ops listed).contains i=true:=by cases g<;>simp_all
       exact wpAnyH_take ho h1 h3.1 h3.2 (iC hd) (.inl ⟨bC aV hg,fun w' EC=>by rw[EC];exact cD w hw.ss⟩) rfl (hk G _ w hw (aV.aZ hd hu))
   | held brk=>
     obtain⟨h1,h2⟩:=hp (by simp);cases fuel with
     | zero=>cases h2
     | succ fuel=>
       simp only[cZ,Mm]at h2;have hk:=h fuel (listed.setIfInBounds i true) ix hf (fun _=>⟨h1,h2.2⟩)
       have hyy:∀G a w,WR G O w->FR G n D e a->∃u,VR G m u/\YieldsIf P ops (Sx G w) o u a:=fun G a w hw aV=>by
        obtain⟨u,hu,cD⟩:=hy G a aV;exact⟨u,hu,.inl ⟨bC aV hg,fun x hx=>cD x hx.1⟩⟩
       cases g with
       | one=>rcases hh rfl with h3 | h3<;>cases h3
       | fk=>exact absurd rfl MP
       | au=>
         simp only[Mm]at h2;exact bP.take ho h1 h2.1.1.1 h2.1.1.2 h2.1.2 hd hyy hk
       | rd=>
         simp only[Mm]at h2;exact bP.take ho h1 h2.1.1.1 h2.1.1.2 h2.1.2 hd hyy hk
def Nh (P:Program) (tab:cg):Nat->TypeId->MV->MV->Option Bool
 | 0,_,_,_=>none
 | d+1,t,x,y=>match(tab t).map cM.under,x,y with
   | some .bool,.v (.bool a),.v (.bool b)=>some (a==b)
   | some (.int _),.v (.int k a),.v (.int k' b)=>if k=k' then some (a==b)else none
   | some .string,.str a,.str b=>some (a==b)
   | some (.struct fs),.agg xs,.agg ys=>if P.stoodInHeld t then none else fs.toList.foldr (fun f acc=>
     if f.name≠ "_" then match B2 tab f.type xs f.offset,B2 tab f.type ys f.offset with
      | some p,some q=>match Nh P tab d f.type p q,acc with
        | some b,some c=>some (b&&c)
        | _,_=>none
      | _,_=>none
     else acc) (some true)
   | _,_,_=>none
theorem Ni (ht:aP P tab):∀(d:Nat) {t:TypeId} {x y:MV} {u v:Value} {b:Bool},Nh P tab d t x y=some b->VR G x u->VR G y v->∀(k:Nat) (w:World),(Op.equalIn (d+k) t u v).run P w= .ok b w
 | 0,_,_,_,_,_,_,h,_,_,_,_=>by cases h
 | d+1,t,x,y,u,v,b,h,hx,hy,k,w=>by
   rw[show d+1+k=d+k+1 from by omega];simp only[Nh]at h;split at h
   ·rename_i hu;injection h with h;subst h
    cases hx;cases hy
    exact run_equalIn_bool w _ _ _ _ (bM ht hu)
   ·rename_i k0 k1 a k2 c hu;split at h
    ·subst k1;injection h with h;subst h
     cases hx;cases hy
     exact run_equalIn_int w _ _ _ _ _ _ (bM ht hu)
    ·cases h
   ·rename_i l r hu;injection h with h;subst h
    cases hx;rename_i e1;cases hy;rw[run_equalIn_string w _ _ _ _ (bM ht hu),toList_mk,toList_mk]
   ·rename_i fs xs ys hu;split at h
    ·cases h
    ·rename_i cY;cases hx with
     | agg a1 a2=>
       cases hy with
       | agg b1 b2=>
         rename_i us vs;have fx:=bM ht hu;have hfo:P.fieldsOf t=fs:=by simp only[Program.fieldsOf,fx]
         rw[run_equalIn_struct w _ _ _ _ (by rw[hfo];exact fx) (by simpa using cY),hfo];have hxs:aS G xs us:=⟨a1,a2⟩;have Rb:aS G ys vs:=⟨b1,b2⟩;generalize fs.toList=l at h;clear hu fx hfo;induction l generalizing b with
         | nil=>
           simp only[List.foldr_nil,Option.some.injEq]at h;subst h;rfl
         | cons f l ih=>
           simp only[List.foldr_cons]at h;simp only[Op.eqFields];split at h
           ·rename_i hn;rw[if_pos hn];split at h
            ·rename_i p q hp hq;split at h
             ·rename_i b1 c1 cE fj;injection h with h;subst h
              obtain⟨r1,g1,g2⟩:=xp (P:=P) ht hp hxs;obtain⟨r2,g3,g4⟩:=xp (P:=P) ht hq Rb;have hr:=Ni ht d cE g2 g4 k w;simp only[Sem.run_bind,g1 w,g3 w,hr,Result.andThen_ok];cases b1
              ·simp
              ·simpa using ih _ fj
             ·cases h
            ·cases h
           ·rename_i hn;rw[if_neg hn];exact ih _ h
   ·cases h
theorem VL.Ft (ht:aP P tab) {f:Fl} {op:BinOp} {t t' ty:TypeId} {d:Option Tmp} {x y:Operand} {ps:String} {af:Array Edge} {g:Option (Nat×Bool)} {L:List (Fl×Oper)} {xs ys:List MV} {b:Bool} {bb:Bool} (MP:f≠ .fk) (hh:f= .one->jF md=true\/md= .any)
  (vH:(op= .eql/\bb=b)\/(op= .neq/\bb= !b)) (hq:Nh P tab 9 t (.agg xs) (.agg ys)=some b) (hgt:P.eqGuardType P.depth t=false) (hx:ev e x=some (.agg xs)) (hy:ev e y=some (.agg ys)) (hg:aO ops (.mk d (.binOp op t x y t') ty ps af g) e=some true) (hd:bD n d=true)
  (h:WL P tab n D md ops Q L (aZ d (.v (.bool bb)) e) O):VL P n D md ops ((f,.mk d (.binOp op t x y t') ty ps af g)::L) e O Q:=by
 refine VL.pure MP hh hg hd (fun G a hf=>?_) (WL.sound ht h);have h1:=hf.ev hx;have h2:=hf.ev hy;have hr:=fun w=>Ni (P:=P) ht 9 hq h1 h2 9991 w
 generalize hu:a.eval x=u at h1 hr;generalize hv:a.eval y=v at h2 hr;cases h1 with
 | agg a1 a2=>
   cases h2 with
   | agg b1 b2=>
     rename_i us vs;refine dS.of (s:=do eqGuard op t x y (.agg us.toArray) (.agg vs.toArray);binOp op t (.agg us.toArray) (.agg vs.toArray)) (bf.of (u:=.bool bb) (fun w _=>?_) (.v rfl)) (by simp[execOp,hu,hv]);rw[Sem.run_bind,run_eqGuard_agg w op t x y _ _ hgt,Result.andThen_ok];rcases vH with⟨rfl,rfl⟩ | ⟨rfl,rfl⟩
     ·rw[run_eql_struct,hr w];rfl
     ·rw[run_neq_struct,hr w];rfl
theorem WR.Wo (h:WR G O w) {b:Nat} {C:Array Value} {t:TypeId} {fr fr':Nat×Nat} {w':World} (hb:w.heap[b]?=some (.cells C t fr)) (hB:G.B<=b) (lK:w'.heap[b]?=some (.cells C t fr')) (ho:∀j,j≠b->w'.heap[j]?=w.heap[j]?) (hs:w'.heap.size=w.heap.size)
  (hos:w'.os=w.os) (ah8:w'.tape=w.tape) (ajI:w'.output=w.output) (eS:∀j,O.hp j≠none->G.bV j≠some b) (vz:∀t c x,O.hp t=some .tok->G.tok t=some (c,x)->c≠b):WR G O w':=by
 have k8:∀p,w'.cell? p=w.cell? p:=fun p=>by
  by_cases e:p.block=b
  ·simp only[World.cell?,e,hb,lK]
  ·simp only[World.cell?,ho _ e]
 refine⟨⟨hos.trans h.base.os,ah8.trans h.base.tape,ajI.trans h.base.output,by rw[hs];exact h.base.size,fun j hj=>by rw[ho j (by have:j<G.B:=hj;omega)];exact h.base.block j hj⟩,fun b' o u hc=>by rw[k8];exact h.eN b' o u hc,h.ql,fun k c hk=>?_,h.inj,fun k cs hk=>?_,fun k es ck hk=>?_,fun t ht=>?_,h.me,
  h.py id (fun _ _ _ _ h=>h) fun k b' s _ hs'=>?_,h.r5 id (fun _ _ h=>h) fun k x b' hk hb hx=>by rw[ho b' (fun e=>eS k (by rw[hk];simp) (e▸hb))];exact hx,h.rA,h.B0⟩
 ·obtain⟨h1,h2,h3⟩:=h.kH k c hk;exact⟨h1,by rw[hs];exact h2,h3⟩
 ·obtain⟨c,D,T',h1,h2,h3⟩:=h.cells k cs hk;exact⟨c,D,T',h1,by rw[ho c (fun e=>eS k (by rw[hk];simp) (e▸h1))];exact h2,h3⟩
 ·obtain⟨c,E,h1,h2,h3⟩:=h.map k es ck hk;exact⟨c,E,h1,by rw[ho c (fun e=>eS k (by rw[hk];simp) (e▸h1))];exact h2,h3⟩
 ·obtain⟨c,f,k,r,D,T',h1,h2,h3,h4⟩:=h.tok t ht;exact⟨c,f,k,r,D,T',h1,h2,by rw[ho c (vz t c _ ht h1)];exact h3,h4⟩
 ·by_cases e:b'=b
  ·subst e;simp only[World.shape?,hb]at hs';simp only[World.shape?,lK];exact hs'
  ·exact iQ (fun x hx=>by rw[ho _ e];exact hx) hs'
def aat:Op->Bool
 | .call c=>match c.callee with
   | .builtin .unsafeString=>true
   | _=>false
 | _=>false
def xF (md:Md) (ops:Array Oper):Bool:=match md with
 | .held brk=> !brk.isEmpty&&(List.range ops.size).all fun i=> !((ops[i]?).map fun o=>aat o.op).getD false||brk.contains i
 | _=>true
theorem xG (h:xF md ops=true):∀brk,md= .held brk->brk≠[]:=by
 rintro brk rfl rfl;simp[xF]at h
theorem IZ (h:xF md ops=true) {o:Oper} (ho:aat o.op=true):∀brk,md= .held brk->∀i,ops[i]?=some o->brk.contains i=true:=by
 rintro brk rfl i hi;simp only[xF,Mm]at h
 have:=ajv.1 h.2 i (anx.2 (by
  rcases anj i ops.size with h' | h'
  ·exact h'
  ·rw[anb h']at hi;cases hi))
 simpa[hi,ho]using this
theorem VL.ajJ (ht:aP P tab) {d:Option Tmp} {x y:Operand} {pt it ty el:TypeId} {ps:String} {af:Array Edge} {g:Option (Nat×Bool)} {L:List (Fl×Oper)} {k c:Nat} {l:List UInt8} {B:Nat}
  (dh:xF md ops=true)
  (hp:(tab pt).map cM.under=some (.pointer el)) (hce:P.cellsOf el=1) (c7:Row O el 1 B k c (l.map gj)) (HK:l≠[]) (hl:l.length<=maxLen)
  (hx:ev e x=some (.ptr k 0)) (hy:ev e y=some (.v (.int .i64 l.length))) (hg:aO ops (.mk d (.call {callee:=.builtin .unsafeString,args:= #[x,y],argTypes:= #[pt,it]}) ty ps af g) e=some true) (hd:bD n d=true)
  (h:WL P tab n D md ops Q L (aZ d (.str l) e) (O.kill k)):VL P n D md ops ((.one,.mk d (.call {callee:=.builtin .unsafeString,args:= #[x,y],argTypes:= #[pt,it]}) ty ps af g)::L) e O Q:=by
 refine VL.jG (M:=fun m O'=>m= .str l/\O'=O.kill k) hg hd (fun _=>xG dh) (fun brk hb=>.inr (xG dh brk hb)) (fun G a w hw hf=>?_) (IZ dh rfl) (by rintro m O' ⟨rfl,rfl⟩;exact WL.sound ht h);have nO:=hf.ev hx;have ye:=hf.ev hy;generalize pH:a.eval x=u at nO;generalize zE:a.eval y=v at ye;have ye:=ye.je;subst ye;cases nO with
 | ptr hph=>
   rename_i b;obtain⟨sp,fj,iL⟩:=c7.cells;obtain⟨b',C,T,d1,d2,d3⟩:=hw.cells k _ fj;rw[hph]at d1;injection d1 with d1;subst d1
   obtain⟨j,_,_,hj⟩:=c7.oV;obtain⟨b2,s1,s2⟩:=hw.oV j k _ _ hj;rw[hph]at s1;injection s1 with s1;subst s1
   have hL:=d3.take l.length;have e1:(l.map gj++sp).take l.length=l.map gj:=by rw[List.take_append_of_le_length (by simp),ana (by simp)]
   rw[e1,List.take_take,Nat.min_eq_left (by simp)]at hL;have hL2:=Na hL
   have k8:∀j x,l[j]?=some x->w.cell? ((⟨b,0,none⟩:Addr).add j)=some (.int .u8 x.toNat):=fun i x hx=>by
    rw[Addr.add_lit,ajx];simp only[World.cell?,d2,ahY,aee,if_false];have:(C.toList.take l.length)[i]?=some (Value.int .u8 x.toNat):=by rw[hL2,ajA,hx];rfl
    rw[ahX]at this;split at this
    ·simpa using this
    ·cases this
   have cD:=Lib.run_unsafeString_row (P:=P) w pt it ty el (bM ht hp) hce b _ s2 l HK (by rw[VI,anr]at iL;omega) hl k8;have AJ:l.length≠0:=by simpa using HK
   have hfz:(w.freeze ⟨b,0,none⟩ l.length).heap[b]?=some (.cells C T.t (if T.fr.1==T.fr.2 then(0,0+l.length)else(min T.fr.1 0,max T.fr.2 (0+l.length)))):=by
    simp[World.freeze,AJ,ane,d2]
   have ajK:∀j,j≠b->(w.freeze ⟨b,0,none⟩ l.length).heap[j]?=w.heap[j]?:=fun j hj=>by
    simp[World.freeze,AJ,ane,Ne.symm hj]
   refine⟨.str l,O.kill k,.string ⟨⟨l⟩⟩,w.freeze ⟨b,0,none⟩ l.length,G,⟨rfl,rfl⟩,?_,Gh.Le.refl G,?_,.str⟩;rotate_left
   ·refine(hw.kill k).Wo d2 (hw.kH k b hph).1 hfz ajK (by simp[World.freeze,AJ]) (by simp[World.freeze,AJ]) (by simp[World.freeze,AJ]) (by simp[World.freeze,AJ]) (fun j hj ZG=>?_) fun t c x cT QP e=>?_
    ·by_cases e:j=k
     ·subst e;exact hj (aK _ _ _)
     ·have Rc:O.hp j≠none:=by rwa [show(O.kill k).hp j=O.hp j from ay _ _ e]at hj
      exact e (hw.inj j k b Rc (by rw[fj];simp) ZG hph)
    ·subst e;have e:t≠k:=fun e=>by subst e;rw[show(O.kill t).hp t=none from aK _ _ _]at cT;cases cT
     rw[show(O.kill k).hp t=O.hp t from ay _ _ e]at cT;obtain⟨_,_,_,_,_,_,q1,_,_,_,_,q7⟩:=hw.tok t cT;rw[QP]at q1;injection q1 with q1;injection q1 with q1 _;subst q1
     exact q7 k hph
   ·simp[execOp,resolve,invoke,builtin,pH,zE,cD]
theorem VL.ah9 (ht:aP P tab) {d:Option Tmp} {x y:Operand} {pt it ty:TypeId} {ps:String} {af:Array Edge} {g:Option (Nat×Bool)} {L:List (Fl×Oper)}
  (dh:xF md ops=true)
  (hx:ev e x=some (.v (.pointer none))) (hy:ev e y=some (.v (.int .i64 0))) (hg:aO ops (.mk d (.call {callee:=.builtin .unsafeString,args:= #[x,y],argTypes:= #[pt,it]}) ty ps af g) e=some true) (hd:bD n d=true)
  (h:WL P tab n D md ops Q L (aZ d (.str []) e) O):VL P n D md ops ((.one,.mk d (.call {callee:=.builtin .unsafeString,args:= #[x,y],argTypes:= #[pt,it]}) ty ps af g)::L) e O Q:=by
 refine VL.jG (M:=fun m O'=>m= .str []/\O'=O) hg hd (fun _=>xG dh) (fun brk hb=>.inr (xG dh brk hb)) (fun G a w hw hf=>?_) (IZ dh rfl) (by rintro m O' ⟨rfl,rfl⟩;exact WL.sound ht h);have nO:=(hf.ev hx).je;have ye:=(hf.ev hy).je;have cD:=Lib.run_unsafeString_none (P:=P) w pt it ty none;refine⟨_,_,_,w,G,⟨rfl,rfl⟩,?_,Gh.Le.refl G,hw,.str⟩;simp[execOp,resolve,invoke,builtin,nO,ye,cD];rfl
theorem VL.toU (ht:aP P tab) {d:Option Tmp} {x:Operand} {src dst ty el t:TypeId} {ps:String} {af:Array Edge} {g:Option (Nat×Bool)} {L:List (Fl×Oper)} {k s j:Nat} {te:cM} (hmd:md= .plain\/md= .any)
  (hs:(tab src).map cM.under=some (.pointer el)) (Nj:(tab dst).map cM.under=some .unsafePointer) (he:tab el=some te) (hz:te.size≠0) (hj:O.hp j=some (.shape k t s)) (Wp:0<s)
  (hx:ev e x=some (.ptr k 0)) (hg:aO ops (.mk d (.convert src dst x) ty ps af g) e=some true) (hd:bD n d=true) (h:WL P tab n D md ops Q L (aZ d (.ptr k 0) e) O):
  VL P n D md ops ((.one,.mk d (.convert src dst x) ty ps af g)::L) e O Q:=by
 refine VL.pD (M:=fun m O'=>m= .ptr k 0/\O'=O) (fun G a w hw hf=>?_) (by rintro m O' ⟨rfl,rfl⟩;exact WL.sound ht h) (hmd:=hmd) (hg:=hg) (hd:=hd);have nO:=hf.ev hx;generalize pH:a.eval x=u at nO;cases nO with
 | ptr hp=>
   rename_i b;obtain⟨ti,z,i1,i2,_⟩:=(ht _ te he).info;obtain⟨b2,s1,s2⟩:=hw.oV j k _ _ hj;rw[hp]at s1;injection s1 with s1;subst s1
   have hr:=Lib.run_to_unsafe (P:=P) w ⟨b,0,none⟩ (bM ht hs) (bM ht Nj) i1 (by rw[i2];exact hz) s2 Wp;exact⟨_,_,_,w,G,⟨rfl,rfl⟩,by simp[execOp,pH,hr],Gh.Le.refl G,hw,.ptr hp⟩
theorem VL.ah_ (ht:aP P tab) {d:Option Tmp} {x:Operand} {src dst ty el t:TypeId} {ps:String} {af:Array Edge} {g:Option (Nat×Bool)} {L:List (Fl×Oper)} {k s j:Nat} {te:cM} (hmd:md= .plain\/md= .any)
  (hs:(tab src).map cM.under=some .unsafePointer) (Nj:(tab dst).map cM.under=some (.pointer el)) (he:tab el=some te) (hj:O.hp j=some (.shape k t s)) (hl:liesAt P P.depth t (s / P.cellsOf t) 0 el 1=true)
  (hx:ev e x=some (.ptr k 0)) (hg:aO ops (.mk d (.convert src dst x) ty ps af g) e=some true) (hd:bD n d=true) (h:WL P tab n D md ops Q L (aZ d (.ptr k 0) e) O):
  VL P n D md ops ((.one,.mk d (.convert src dst x) ty ps af g)::L) e O Q:=by
 refine VL.pD (M:=fun m O'=>m= .ptr k 0/\O'=O) (fun G a w hw hf=>?_) (by rintro m O' ⟨rfl,rfl⟩;exact WL.sound ht h) (hmd:=hmd) (hg:=hg) (hd:=hd);have nO:=hf.ev hx;generalize pH:a.eval x=u at nO;cases nO with
 | ptr hp=>
   rename_i b;obtain⟨ti,z,i1,i2,_⟩:=(ht _ te he).info;obtain⟨b2,s1,s2⟩:=hw.oV j k _ _ hj;rw[hp]at s1;injection s1 with s1;subst s1
   have hr:=Lib.run_from_unsafe (P:=P) w ⟨b,0,none⟩ (bM ht hs) (bM ht Nj) i1 s2 hl;exact⟨_,_,_,w,G,⟨rfl,rfl⟩,by simp[execOp,pH,hr],Gh.Le.refl G,hw,.ptr hp⟩
end
section
variable {tab:cg} {t t' el:TypeId} {O:VH} {a b c d a' b' k o n off:Nat} {z y z':List MV} {u:TypeDesc} {cs ds:List MV} {tk:Tok} {l:List UInt8} {m q:MV} {i j:Int} {kk kk':IntKind} {x:Value}
def yF:Option cM->MV->Option MV
 | some ⟨.string,_,_,_⟩,.str l=>some (.v (.int .i64 l.length))
 | some ⟨.slice _,_,_,_⟩,.sl n _ _=>some (.v (.int .i64 n))
 | some ⟨.slice _,_,_,_⟩,.bz _ _ n _=>some (.v (.int .i64 n))
 | some ⟨.map _ _,_,_,_⟩,.v (.map none)=>some (.v (.int .i64 0))
 | some ⟨.array n _,_,_,_⟩,_=>some (.v (.int .i64 n))
 | _,_=>none
theorem v_:de tab t m=yF (tab t) m:=by
 unfold de yF;cases tab t with
 | none=>rfl
 | some r=>obtain⟨d,_,_,_⟩:=r;cases d<;>cases m<;>first | rfl | (rename_i v;cases v<;>first | rfl | (rename_i q;cases q<;>rfl))
theorem Wq:yF (some ⟨.string,a,b,z⟩) (.str l)=some (.v (.int .i64 l.length)):=rfl
theorem aau:yF (some ⟨.slice el,a,b,z⟩) (.sl n cs tk)=some (.v (.int .i64 n)):=rfl
theorem Wr:yF (some ⟨.slice el,a,b,z⟩) (.bz k o n c)=some (.v (.int .i64 n)):=rfl
theorem Ws:yF (some ⟨.map t t',a,b,z⟩) (.v (.map none))=some (.v (.int .i64 0)):=rfl
theorem Wt:yF (some ⟨.map t t',a,b,z⟩) (.map k)=none:=rfl
theorem Wu:yF (some ⟨.array n el,a,b,z⟩) m=some (.v (.int .i64 n)):=by cases m<;>rfl
def aav (O:VH) (s:Option (MV×VH)):Option MV->Option (MV×VH)
 | some r=>some (r,O)
 | none=>s
theorem Re {s:Option (MV×VH)}:aav O s (some m)=some (m,O):=rfl
theorem Rf {s:Option (MV×VH)}:aav O s none=s:=rfl
theorem Wv {e:Env} {d:Option Tmp} {x:Operand} {ty:TypeId} {p:String} {af:Array Edge} {g:Option (Nat×Bool)}:dF tab (.mk d (.call {callee:=.builtin .len,args:= #[x],argTypes:= #[t]}) ty p af g) e O=(ev e x).bind fun q=>aav O ((qo tab O t q).map (·,O)) (yF (tab t) q):=by
 rw[MF];cases ev e x with
 | none=>rfl
 | some q=>
   simp only[anc,v_];cases yF (tab t) q<;>rfl
def Nk (tab:cg) (m ix:MV):Option cM->Option MV
 | some r=>match ix,r.under,m with
   | .v (.int _ i),.slice el,.sl n cells _=>match tab el with
     | some te=>if 0<=i/\i<(n:Int)then some (.dG cells (i.toNat*te.size))else none
     | none=>none
   | .v (.int _ i),.slice el,.bz k o n _=>match tab el with
     | some te=>if 0<=i/\i<(n:Int)then some (.ptr k (o+i.toNat*te.size))else none
     | none=>none
   | .v (.int _ i),.array len el,x=>match tab el with
     | some te=>if 0<=i/\i<(len:Int)then vA (i.toNat*te.size) x else none
     | none=>none
   | _,_,_=>none
 | none=>none
theorem agC:ni tab t m q=Nk tab m q (tab t):=by
 unfold ni Nk;cases h:tab t with
 | none=>cases q<;>first | rfl | (rename_i v;cases v<;>rfl)
 | some r=>
   obtain⟨d,_,_,_⟩:=r;cases q<;>first | rfl | skip
   rename_i v;cases v<;>first | rfl | skip
   cases d<;>cases m<;>rfl
def ixS (i:Int) (n:Nat) (cs:List MV):Option cM->Option MV
 | some te=>if 0<=i/\i<(n:Int)then some (.dG cs (i.toNat*te.size))else none
 | none=>none
def ixR (i:Int) (n k o:Nat):Option cM->Option MV
 | some te=>if 0<=i/\i<(n:Int)then some (.ptr k (o+i.toNat*te.size))else none
 | none=>none
def ixA (i:Int) (n:Nat) (m:MV):Option cM->Option MV
 | some te=>if 0<=i/\i<(n:Int)then vA (i.toNat*te.size) m else none
 | none=>none
theorem aes:Nk tab (.sl n cs tk) (.v (.int kk i)) (some ⟨.slice el,a,b,z⟩)=ixS i n cs (tab el):=by unfold Nk ixS;rfl
theorem aaw:Nk tab (.bz k o n c) (.v (.int kk i)) (some ⟨.slice el,a,b,z⟩)=ixR i n k o (tab el):=by unfold Nk ixR;rfl
theorem aax:Nk tab m (.v (.int kk i)) (some ⟨.array n el,a,b,z⟩)=ixA i n m (tab el):=by unfold Nk ixA;cases m<;>rfl
theorem aet (h0:0<=i) (h1:i<(n:Int)):ixS i n cs (some ⟨u,a,b,z⟩)=some (.dG cs (i.toNat*a)):=if_pos ⟨h0,h1⟩
theorem aeu (h0:0<=i) (h1:i<(n:Int)):ixR i n k o (some ⟨u,a,b,z⟩)=some (.ptr k (o+i.toNat*a)):=if_pos ⟨h0,h1⟩
theorem aev (h0:0<=i) (h1:i<(n:Int)):ixA i n m (some ⟨u,a,b,z⟩)=vA (i.toNat*a) m:=if_pos ⟨h0,h1⟩
theorem aay:vA a (.ptr k o)=some (.ptr k (o+a)):=rfl
theorem aaz:vA a (.dG cs o)=some (.dG cs (o+a)):=rfl
def inT (l:List UInt8) (i:Int):Option cM->Option MV
 | some ⟨.string,_,_,_⟩=>if 0<=i then(l[i.toNat]?).map gj else none
 | _=>none
theorem ajL:xr tab t (.str l) (.v (.int kk i))=inT l i (tab t):=by
 unfold xr inT;cases tab t with
 | none=>rfl
 | some r=>obtain⟨d,_,_,_⟩:=r;cases d<;>rfl
theorem aew (h:0<=i):inT l i (some ⟨.string,a,b,z⟩)=(l[i.toNat]?).map gj:=if_pos h
def ldT (off:Nat):Option cM->Option cf->Option MV
 | some r,some (.cells cs)=>nL (eg r.under) r.size cs off
 | _,_=>none
theorem ajM:fw tab O t (.ptr k off)=ldT off (tab t) (O.hp k):=by
 unfold fw ldT;simp only[cellsOf];cases tab t<;>first | rfl | (cases O.hp k<;>first | rfl | (rename_i x;cases x<;>rfl))
theorem ajN:fw tab O t (.dG cs off)=ldT off (tab t) (some (.cells cs)):=by
 unfold fw ldT cellsOf;cases tab t<;>rfl
theorem aex:ldT off (some ⟨u,a,b,z⟩) (some (.cells cs))=nL (eg u) a cs off:=rfl
theorem aaA:nL false a cs off=cs[off]?:=rfl
theorem aaB (h:off+a<=cs.length):nL true a cs off=some (.agg ((cs.drop off).take a)):=by simp[nL,h]
theorem Ww:eg .bool=false:=rfl
theorem aaC:eg (.int kk)=false:=rfl
theorem aaD:eg .string=false:=rfl
theorem aaE:eg (.pointer t)=false:=rfl
theorem aey:eg (.slice t)=false:=rfl
theorem aaF:eg (.map t t')=false:=rfl
theorem aaG:eg (.array n t)=true:=rfl
theorem aez {ms:Array (String×TypeId)}:eg (.interface ms)=false:=rfl
theorem aeA {ps rs:Array TypeId} {v:Bool}:eg (.func ps rs v)=false:=rfl
def B9 (O:VH) (k off:Nat) (m:MV):Option cM->Option cf->Option VH
 | some r,some (.cells cs)=>if(eh m).length=r.size/\(eh m).all eb=true/\off+r.size<=cs.length then some (O.set k (.cells (eI cs off (eh m))))else none
 | _,_=>none
theorem ajO:xn tab O t (.ptr k off) m=B9 O k off m (tab t) (O.hp k):=by
 unfold xn B9;cases tab t with
 | none=>rfl
 | some r=>
   simp only;cases O.hp k with
   | none=>rfl
   | some x=>cases x<;>rfl
theorem qx {m:MV} (hm:eh m=[m]) (hl:eb m=true) (h:off<cs.length):B9 O k off m (some ⟨u,1,b,z⟩) (some (.cells cs))=some (O.set k (.cells (cs.set off m))):=by
 show(if(eh m).length=1/\(eh m).all eb=true/\off+1<=cs.length then some (O.set k (.cells (eI cs off (eh m))))else none)=_;rw[if_pos ⟨by rw[hm];rfl,by rw[hm];simpa using hl,by omega⟩,hm];rfl
theorem aia (h:off<cs.length):B9 O k off (.v x) (some ⟨u,1,b,z⟩) (some (.cells cs))=some (O.set k (.cells (cs.set off (.v x)))):=qx rfl rfl h
theorem aib (h:off<cs.length):B9 O k off (.str l) (some ⟨u,1,b,z⟩) (some (.cells cs))=some (O.set k (.cells (cs.set off (.str l)))):=qx rfl rfl h
theorem aic (h:off<cs.length):B9 O k off (.ptr c o) (some ⟨u,1,b,z⟩) (some (.cells cs))=some (O.set k (.cells (cs.set off (.ptr c o)))):=qx rfl rfl h
theorem aid (h:off<cs.length):B9 O k off (.dG ds o) (some ⟨u,1,b,z⟩) (some (.cells cs))=some (O.set k (.cells (cs.set off (.dG ds o)))):=qx rfl rfl h
theorem aeB (h:off<cs.length):B9 O k off (.sl n ds tk) (some ⟨u,1,b,z⟩) (some (.cells cs))=some (O.set k (.cells (cs.set off (.sl n ds tk)))):=qx rfl rfl h
theorem aaH (h:off<cs.length):B9 O k off (.bz c o n d) (some ⟨u,1,b,z⟩) (some (.cells cs))=some (O.set k (.cells (cs.set off (.bz c o n d)))):=qx rfl rfl h
theorem aaI (h:off<cs.length):B9 O k off (.map c) (some ⟨u,1,b,z⟩) (some (.cells cs))=some (O.set k (.cells (cs.set off (.map c)))):=qx rfl rfl h
theorem aeC (h:off<cs.length):B9 O k off (.iface t m) (some ⟨u,1,b,z⟩) (some (.cells cs))=some (O.set k (.cells (cs.set off (.iface t m)))):=qx rfl rfl h
theorem aeD {fn:Fn} (h:off<cs.length):B9 O k off (.func fn ds z') (some ⟨u,1,b,z⟩) (some (.cells cs))=some (O.set k (.cells (cs.set off (.func fn ds z')))):=qx rfl rfl h
theorem aaJ (h1:ds.length=a) (h2:ds.all eb=true) (h:off+a<=cs.length):B9 O k off (.agg ds) (some ⟨u,a,b,z⟩) (some (.cells cs))=some (O.set k (.cells (eI cs off ds))):=if_pos ⟨h1,h2,h⟩
theorem Ku:eI cs off []=cs:=rfl
theorem HL:eI cs off (m::ds)=eI (cs.set off m) (off+1) ds:=rfl
theorem aeE:eb (.v x)=true:=rfl
theorem aeF:eb (.str l)=true:=rfl
theorem aeG:eb (.ptr k o)=true:=rfl
theorem aeH:eb (.dG cs o)=true:=rfl
theorem aaK:eb (.sl n cs tk)=true:=rfl
theorem Wx:eb (.bz k o n c)=true:=rfl
theorem Wz:eb (.map k)=true:=rfl
theorem aaL:eb (.iface t m)=true:=rfl
theorem aaM {fn:Fn}:eb (.func fn cs ds)=true:=rfl
section
variable {X:cf} {k':Nat} {s:Nat}
theorem aeI (h:k'=k):(O.set k X).hp k'=some X:=by subst h;exact τ _ _ _
theorem Rg (h:k'≠k):(O.set k X).hp k'=O.hp k':=ρ _ _ h
theorem aaN (h:k'=O.N):(O.push X).hp k'=some X:=by subst h;exact Υ _ _
theorem Nl (h:k'≠O.N):(O.push X).hp k'=O.hp k':=VH.o0 _ _ h
theorem Nn (h:k'≠k):(O.kill k).hp k'=O.hp k':=VH.lg _ h
theorem ft:(O.set k X).N=O.N:=rfl
theorem tZ:(O.push X).N=O.N+1:=rfl
theorem Fu:(O.kill k).N=O.N:=rfl
end
theorem No {e:Env} {d:Option Tmp} {ty:TypeId} {p:String} {af:Array Edge} {g:Option (Nat×Bool)}:dF tab (.mk d (.alloc t) ty p af g) e O=(tab t).map fun i=>(.ptr O.N 0,xB O t i.size i.zero):=rfl
def alB (O:VH) (t:TypeId) (n:Nat) (z:List MV):Bool->VH
 | true=>(O.push (.cells z)).push (.shape O.N t n)
 | false=>O.push (.cells z)
theorem Rh:xB O t n z=alB O t n z (fV z):=by unfold xB alB;cases fV z<;>rfl
theorem aie:alB O t n z true=(O.push (.cells z)).push (.shape O.N t n):=rfl
theorem aif:alB O t n z false=O.push (.cells z):=rfl
theorem aih:fV [.v (.pointer none),.sl 0 [] .nil]=true:=rfl
theorem aii:fV []=false:=rfl
theorem aij:fV [m]=false:=by unfold fV;split<;>first | rfl | simp_all
theorem aik {m1 m2 m3:MV}:fV (m1::m2::m3::z)=false:=by unfold fV;split<;>first | rfl | simp_all
theorem aaO:fV [.v (.int kk i),m]=false:=by unfold fV;split<;>first | rfl | simp_all
theorem WA {b:Bool}:fV [.v (.bool b),m]=false:=by unfold fV;split<;>first | rfl | simp_all
theorem aaP:fV [.str l,m]=false:=by unfold fV;split<;>first | rfl | simp_all
theorem aeJ:fV [.sl n cs tk,m]=false:=by unfold fV;split<;>first | rfl | simp_all
theorem aeK:fV [m,.str l]=false:=by unfold fV;split<;>first | rfl | simp_all
theorem aeL:fV [m,.v x]=false:=by unfold fV;split<;>first | rfl | simp_all
def ua (tab:cg) (x:MV) (l h:Option MV):Option cM->Option MV
 | some ⟨.string,_,_,_⟩=>match x with
   | .str s=>match dw 0 l,dw s.length h with
     | some lo,some hi=>if lo<=hi/\hi<=s.length then some (.str ((s.drop lo).take (hi - lo)))else none
     | _,_=>none
   | _=>none
 | some ⟨.slice el,_,_,_⟩=>match x with
   | .sl n cells tk=>match tab el,dw 0 l,dw n h with
     | some te,some lo,some hi=>
       if lo=0/\hi=n then some (.sl n cells tk)
       else if lo<=hi/\hi<=n/\cells.length=n*te.size then some (.sl (hi - lo) ((cells.drop (lo*te.size)).take ((hi - lo)*te.size)) (tQ tk te.size (hi==n)))else none
     | _,_,_=>none
   | .bz k o n c=>match tab el,dw 0 l,dw n h with
     | some te,some lo,some hi=>if lo<=hi/\hi<=c then some (.bz k (if c=lo then o else o+lo*te.size) (hi - lo) (c - lo))else none
     | _,_,_=>none
   | _=>none
 | _=>none
theorem ajP {l h:Option MV}:xy tab t m l h=ua tab m l h (tab t):=by
 unfold xy ua;cases tab t with
 | none=>rfl
 | some r=>obtain⟨d,_,_,_⟩:=r;cases d<;>cases m<;>rfl
theorem ail (h0:0<=i) (h1:i<=j) (h2:j<=(l.length:Int)):ua tab (.str l) (some (.v (.int kk i))) (some (.v (.int kk' j))) (some ⟨.string,a,b,z⟩)=some (.str ((l.drop i.toNat).take (j.toNat - i.toNat))):=by
 have e1:0<=j:=by omega
 simp only[ua,dw,if_pos h0,if_pos e1];rw[if_pos ⟨by omega,by omega⟩]
theorem aeM (h0:0<=i) (h1:i<=(l.length:Int)):ua tab (.str l) (some (.v (.int kk i))) none (some ⟨.string,a,b,z⟩)=some (.str (l.drop i.toNat)):=by
 simp only[ua,dw,if_pos h0];rw[if_pos ⟨by omega,by omega⟩,ana (by simp)]
theorem aeN (h1:0<=j) (h2:j<=(l.length:Int)):ua tab (.str l) none (some (.v (.int kk j))) (some ⟨.string,a,b,z⟩)=some (.str (l.take j.toNat)):=by
 simp only[ua,dw,if_pos h1];rw[if_pos ⟨by omega,by omega⟩];simp
def DP (k o lo hi c:Nat):Option cM->Option MV
 | some te=>some (.bz k (if c=lo then o else o+lo*te.size) (hi - lo) (c - lo))
 | none=>none
theorem aim (h0:0<=i) (h1:i<=j) (h2:j<=(c:Int)):ua tab (.bz k o n c) (some (.v (.int kk i))) (some (.v (.int kk' j))) (some ⟨.slice el,a,b,z⟩)=DP k o i.toNat j.toNat c (tab el):=by
 have e1:0<=j:=by omega
 simp only[ua,dw,if_pos h0,if_pos e1,DP];cases tab el with
 | none=>rfl
 | some te=>simp only;rw[if_pos ⟨by omega,by omega⟩]
theorem aeO (h0:0<=i) (h1:i<=(n:Int)) (h2:n<=c):ua tab (.bz k o n c) (some (.v (.int kk i))) none (some ⟨.slice el,a,b,z⟩)=DP k o i.toNat n c (tab el):=by
 simp only[ua,dw,if_pos h0,DP];cases tab el with
 | none=>rfl
 | some te=>simp only;rw[if_pos ⟨by omega,h2⟩]
theorem aeP (h1:0<=j) (h2:j<=(c:Int)):ua tab (.bz k o n c) none (some (.v (.int kk j))) (some ⟨.slice el,a,b,z⟩)=DP k o 0 j.toNat c (tab el):=by
 simp only[ua,dw,if_pos h1,DP];cases tab el with
 | none=>rfl
 | some te=>simp only;rw[if_pos ⟨by omega,by omega⟩]
theorem ain:DP k o 0 n c (some ⟨u,a,b,z⟩)=some (.bz k o n c):=by
 simp only[DP]
 congr 2
 split<;>simp
theorem aeQ {lo hi:Nat} (h:c≠lo):DP k o lo hi c (some ⟨u,a,b,z⟩)=some (.bz k (o+lo*a) (hi - lo) (c - lo)):=by
 simp only[DP,if_neg h]
theorem aeR {lo hi:Nat} (h:c=lo):DP k o lo hi c (some ⟨u,a,b,z⟩)=some (.bz k o (hi - lo) (c - lo)):=by
 simp only[DP,if_pos h]
def Np (n lo hi:Nat) (cs:List MV) (tk:Tok):Option cM->Option MV
 | some te=>if lo=0/\hi=n then some (.sl n cs tk)
    else if lo<=hi/\hi<=n/\cs.length=n*te.size then some (.sl (hi - lo) ((cs.drop (lo*te.size)).take ((hi - lo)*te.size)) (tQ tk te.size (hi==n)))else none
 | none=>none
theorem AK {l h:Option MV} {lo hi:Nat} (hl:dw 0 l=some lo) (hh:dw n h=some hi):ua tab (.sl n cs tk) l h (some ⟨.slice el,a,b,z⟩)=Np n lo hi cs tk (tab el):=by
 show(match tab el,dw 0 l,dw n h with
   | some te,some lo,some hi=>
     if lo=0/\hi=n then some (MV.sl n cs tk)
     else if lo<=hi/\hi<=n/\cs.length=n*te.size then some (.sl (hi - lo) ((cs.drop (lo*te.size)).take ((hi - lo)*te.size)) (tQ tk te.size (hi==n)))else none
   | _,_,_=>none)=_
 rw[hl,hh];cases tab el<;>rfl
theorem aio (h0:0<=i) (h1:0<=j):ua tab (.sl n cs tk) (some (.v (.int kk i))) (some (.v (.int kk' j))) (some ⟨.slice el,a,b,z⟩)=Np n i.toNat j.toNat cs tk (tab el):=AK (if_pos h0) (if_pos h1)
theorem aeS (h0:0<=i):ua tab (.sl n cs tk) (some (.v (.int kk i))) none (some ⟨.slice el,a,b,z⟩)=Np n i.toNat n cs tk (tab el):=AK (if_pos h0) rfl
theorem aeT (h0:0<=j):ua tab (.sl n cs tk) none (some (.v (.int kk j))) (some ⟨.slice el,a,b,z⟩)=Np n 0 j.toNat cs tk (tab el):=AK rfl (if_pos h0)
theorem aeU:ua tab (.sl n cs tk) none none (some ⟨.slice el,a,b,z⟩)=Np n 0 n cs tk (tab el):=AK rfl rfl
theorem aaQ {lo hi:Nat} (h0:lo=0) (h1:hi=n):Np n lo hi cs tk (some ⟨u,a,b,z⟩)=some (.sl n cs tk):=if_pos ⟨h0,h1⟩
theorem WB {lo hi:Nat} (h:lo≠0\/hi≠n) (h1:lo<=hi) (h2:hi<=n) (h3:cs.length=n*a):Np n lo hi cs tk (some ⟨u,a,b,z⟩)=some (.sl (hi - lo) ((cs.drop (lo*a)).take ((hi - lo)*a)) (tQ tk a (hi==n))):=by
 simp only[Np];rw[if_neg (by omega),if_pos ⟨h1,h2,h3⟩]
def Kv (x:MV):Option cM->Option cM->Option MV
 | some _,some ⟨.int k,_,_,_⟩=>match x with
   | .v (.int _ i)=>some (.v (.int k (k.wrap i)))
   | _=>none
 | some ⟨.string,_,_,_⟩,some ⟨.string,_,_,_⟩=>match x with
   | .str l=>some (.str l)
   | _=>none
 | _,_=>none
theorem ajQ:B5 tab t t' m=Kv m (tab t) (tab t'):=by
 unfold B5 Kv;cases tab t with
 | none=>rfl
 | some r=>
   obtain⟨d,_,_,_⟩:=r;cases tab t' with
   | none=>cases d<;>rfl
   | some r'=>
     obtain⟨d',_,_,_⟩:=r'
     cases d'<;>first
      | (cases d<;>rfl)
      | (cases m<;>first | (cases d<;>rfl) | (rename_i v;cases v<;>cases d<;>rfl))
theorem aaR {k':IntKind} {r:cM}:Kv (.v (.int kk i)) (some r) (some ⟨.int k',a,b,z⟩)=some (.v (.int k' (k'.wrap i))):=rfl
theorem aaS:Kv (.str l) (some ⟨.string,a,b,z⟩) (some ⟨.string,a',b',z'⟩)=some (.str l):=rfl
theorem aeV:Kv m (some ⟨.string,a,b,z⟩) (some ⟨.slice el,a',b',z'⟩)=none:=rfl
theorem aeW:Kv m (some ⟨.slice el,a,b,z⟩) (some ⟨.string,a',b',z'⟩)=none:=rfl
theorem aeX:Kv m (some ⟨.pointer el,a,b,z⟩) (some ⟨.unsafePointer,a',b',z'⟩)=none:=rfl
theorem aeY:Kv m (some ⟨.unsafePointer,a,b,z⟩) (some ⟨.pointer el,a',b',z'⟩)=none:=rfl
def I0:List (Nat×Operand)->List MV->List (Nat×MV)
 | (i,_)::l,m::ms=>(i,m)::I0 l ms
 | _,_=>[]
theorem Ri (l:List (Nat×Operand)) (ms:List MV):gT l.toArray ms=I0 l ms:=by
 unfold gT;simp only;induction l generalizing ms with
 | nil=>cases ms<;>rfl
 | cons p l ih=>cases ms with
   | nil=>rfl
   | cons m ms=>obtain⟨i,x⟩:=p;simp only[aec,List.zip_cons_cons,I0];rw[ih]
theorem WD {ms:List MV}:I0 [] ms=[]:=by cases ms<;>rfl
theorem Rj {x:Operand} {l:List (Nat×Operand)} {ms:List MV}:I0 ((n,x)::l) (m::ms)=(n,m)::I0 l ms:=rfl
def Fv (pl:Nat->Option (Nat×Nat)) (cs:List MV) (x:MV) (rest:List (Nat×MV)):Option (Nat×Nat)->Option (List MV)
 | none=>none
 | some (off,size)=>if(eh x).length=size/\off+size<=cs.length then mw pl (eI cs off (eh x)) rest else none
def kT (l:List (Nat×Nat)) (i:Nat):Option (Nat×Nat):=l[i]?
theorem WG {p:Nat×Nat} {l:List (Nat×Nat)}:kT (p::l) 0=some p:=rfl
theorem WH {p:Nat×Nat} {l:List (Nat×Nat)}:kT (p::l) (n+1)=kT l n:=rfl
def Up (a:Nat) (k:Nat):Option (Nat×Nat):=some (k*a,a)
theorem Rk:Up a k=some (k*a,a):=rfl
theorem Rl {pl:Nat->Option (Nat×Nat)}:mw pl cs []=some cs:=rfl
theorem Nq {pl:Nat->Option (Nat×Nat)} {rest:List (Nat×MV)}:mw pl cs ((n,m)::rest)=Fv pl cs m rest (pl n):=by
 rw[mw];cases h:pl n<;>rfl
theorem aeZ {pl:Nat->Option (Nat×Nat)} {rest:List (Nat×MV)} (h:(eh m).length=a/\off+a<=cs.length):Fv pl cs m rest (some (off,a))=mw pl (eI cs off (eh m)) rest:=if_pos h
def bsT (tab:cg) (len:Nat) (parts:List (Nat×MV)):Option cM->Option MV
 | some ⟨.slice el,_,_,_⟩=>match tab el with
   | some te=>if 0<len*te.size/\len*te.size<=16777216/\0<te.zero.length/\len<=maxLen then
     (mw (fun k=>some (k*te.size,te.size)) (iR te.zero (len*te.size)) parts).map fun cs=>.sl len cs .full
     else if len=0/\parts=[]then some (.sl 0 [] .full)else none
   | none=>none
 | _=>none
theorem ajR {parts:List (Nat×MV)}:lL tab t n parts=bsT tab n parts (tab t):=by
 unfold lL bsT;cases tab t with
 | none=>rfl
 | some r=>obtain⟨d,_,_,_⟩:=r;cases d<;>rfl
def bsE (n:Nat) (parts:List (Nat×MV)):Option cM->Option MV
 | some te=>if 0<n*te.size/\n*te.size<=16777216/\0<te.zero.length/\n<=maxLen then
    (mw (fun k=>some (k*te.size,te.size)) (iR te.zero (n*te.size)) parts).map fun cs=>.sl n cs .full
   else if n=0/\parts=[]then some (.sl 0 [] .full)else none
 | none=>none
theorem ae0 {parts:List (Nat×MV)}:bsT tab n parts (some ⟨.slice el,a,b,z⟩)=bsE n parts (tab el):=by unfold bsT bsE;rfl
theorem aip {r:cM}:bsE 0 [] (some r)=some (.sl 0 [] .full):=by simp[bsE]
theorem Nr (h:z.length=a) (h0:0<a):∀n,iR z (n*a)=(List.replicate n z).flatten:=by
 intro n;induction n with
 | zero=>simp[iR]
 | succ n ih=>
   rw[List.replicate_succ',List.flatten_append, <-ih];simp only[iR,Nat.succ_mul];rw[List.range_add,ame]
   congr 1
   subst h;simp only[List.map_map,List.flatten_cons,List.flatten_nil,List.append_nil];apply List.ext_getElem?;intro i;simp only[ajA,List.getElem?_range];by_cases hi:i<z.length
   ·simp[hi,Nat.mod_eq_of_lt hi]
   ·simp[anf (Nat.le_of_not_lt hi),hi]
def nP:Nat->List MV->List MV
 | 0,_=>[]
 | n+1,z=>z++nP n z
theorem Ns:∀n,(List.replicate n z).flatten=nP n z
 | 0=>rfl
 | n+1=>by rw[List.replicate_succ,List.flatten_cons,Ns n];rfl
theorem ae1:nP 1 z=z:=by simp[nP]
theorem ae2:nP 2 z=z++z:=by simp[nP]
theorem ae3:nP 3 z=z++(z++z):=by simp[nP]
theorem ae4:nP 4 z=z++(z++(z++z)):=by simp[nP]
theorem ae5:nP 5 z=z++(z++(z++(z++z))):=by simp[nP]
theorem ae6:nP 6 z=z++(z++(z++(z++(z++z)))):=by simp[nP]
theorem ae7:nP 7 z=z++(z++(z++(z++(z++(z++z))))):=by simp[nP]
theorem ae8:nP 8 z=z++(z++(z++(z++(z++(z++(z++z)))))):=by simp[nP]
theorem ae9 {parts:List (Nat×MV)} (h:z.length=a) (h0:0<n*a) (h1:n*a<=16777216):bsE n parts (some ⟨u,a,b,z⟩)=(mw (Up a) (nP n z) parts).map (MV.sl n · .full):=by
 have ha:0<a:=by rcases Nat.eq_zero_or_pos a with e | e; · subst e;omega
                 ·exact e
 have hn:n<=maxLen:=by
  have:n*1<=n*a:=Nat.mul_le_mul_left _ ha;simp[maxLen];omega
 rw[<-Ns, <-Nr h ha];exact if_pos ⟨h0,h1,by show 0<z.length;omega,hn⟩
def bT (b:Bool):Option cM->Option MV
 | some ⟨.bool,_,_,_⟩=>some (.v (.bool b))
 | _=>none
theorem WI {a b:Bool}:dz tab .eql t (.v (.bool a)) (.v (.bool b))=bT (a==b) (tab t):=by
 simp only[dz,bT];cases tab t with
 | none=>rfl
 | some r=>obtain⟨d,_,_,_⟩:=r;cases d<;>rfl
theorem WJ {a b:Bool}:dz tab .neq t (.v (.bool a)) (.v (.bool b))=bT (!(a==b)) (tab t):=by
 simp only[dz,bT];cases tab t with
 | none=>rfl
 | some r=>obtain⟨d,_,_,_⟩:=r;cases d<;>rfl
theorem aiq {p:Bool}:bT p (some ⟨.bool,a,b,z⟩)=some (.v (.bool p)):=rfl
def pT (b:Bool):Option cM->Option MV
 | some ⟨.pointer _,_,_,_⟩=>some (.v (.bool b))
 | _=>none
theorem air {p:Bool}:pT p (some ⟨.pointer el,a,b,z⟩)=some (.v (.bool p)):=rfl
theorem ae_ {p:Bool}:nK tab .eql t p=pT p (tab t):=by
 simp only[nK,pT];cases tab t with
 | none=>rfl
 | some r=>obtain⟨d,_,_,_⟩:=r;cases d<;>rfl
theorem afa {p:Bool}:nK tab .neq t p=pT (!p) (tab t):=by
 simp only[nK,pT];cases tab t with
 | none=>rfl
 | some r=>obtain⟨d,_,_,_⟩:=r;cases d<;>rfl
section
variable {op:BinOp} {la lb:List UInt8}
theorem WK:dz tab op t (.v (.pointer none)) (.v (.pointer none))=nK tab op t true:=by cases op<;>rfl
theorem WN:dz tab op t (.ptr k o) (.v (.pointer none))=nK tab op t false:=by cases op<;>rfl
theorem WO:dz tab op t (.v (.pointer none)) (.ptr k o)=nK tab op t false:=by cases op<;>rfl
theorem WQ:dz tab op t (.dG cs o) (.v (.pointer none))=nK tab op t false:=by cases op<;>rfl
theorem WS:dz tab op t (.v (.pointer none)) (.dG cs o)=nK tab op t false:=by cases op<;>rfl
theorem WT:dz tab op t (.agg cs) (.agg ds)=none:=by cases op<;>rfl
theorem WU:dz tab .eql t (.str la) (.str lb)=some (.v (.bool (la==lb))):=rfl
theorem WV:dz tab .neq t (.str la) (.str lb)=some (.v (.bool (!(la==lb)))):=rfl
theorem WW:dz tab .lss t (.str la) (.str lb)=some (.v (.bool (Op.bytesLess la lb))):=rfl
theorem WX:dz tab .leq t (.str la) (.str lb)=some (.v (.bool (Op.bytesLess la lb||la==lb))):=rfl
theorem WY:dz tab .gtr t (.str la) (.str lb)=some (.v (.bool (!(Op.bytesLess la lb||la==lb)))):=rfl
theorem WZ:dz tab .geq t (.str la) (.str lb)=some (.v (.bool (!(Op.bytesLess la lb)))):=rfl
theorem Rn (h:la.length+lb.length<=9223372036854775807):dz tab .add t (.str la) (.str lb)=some (.str (la++lb)):=if_pos h
end
theorem Nt (h:tab t=some ⟨.pointer el,a,b,z⟩) {s:Nat} (h':tab el=some ⟨u,s+1,b',z'⟩) {op:BinOp}:dz tab op t (.ptr k o) (.ptr k o)=nK tab op t true:=by
 cases op<;>simp[dz,h,h',nK]
theorem aL (b:UInt8):gj b= .v (.int .u8 b.toNat):=rfl
theorem afb {n k:Nat}:((n:Int)+(k:Int)).toNat=n+k:=by omega
theorem aaT {n:Nat}:((n:Int)+1).toNat=n+1:=by omega
theorem aaU {n:Nat}:((n:Int)+2).toNat=n+2:=by omega
theorem aaV {n:Nat}:((n:Int) - 1).toNat=n - 1:=by omega
theorem W0 {n:Nat}:((n+1:Nat):Int) - 1=n:=by omega
theorem afc (h0:0<=i) (h1:i<=255):IntKind.u8.wrap i=i:=by
 simp only[IntKind.wrap,IntKind.signed,IntKind.bits];simp;omega
theorem aaW (h0:0<=i) (h1:i<=18446744073709551615):IntKind.u64.wrap i=i:=by
 simp only[IntKind.wrap,IntKind.signed,IntKind.bits];simp;omega
theorem aaX (h:0<=j):dz tab .shr t (.v (.int kk i)) (.v (.int kk' j))=some (.v (.int kk (i.fdiv (2 ^ (min j.toNat kk.bits))))):=by
 have:¬j<0:=by omega
 simp[dz,Ag,this]
theorem aaY:dz tab .and t (.v (.int kk i)) (.v (.int kk j))=some (.v (.int kk (kk.wrap (BitVec.ofInt kk.bits i&&& BitVec.ofInt kk.bits j).toNat))):=by simp[dz,rI]
theorem aaZ (h:j≠0):dz tab .rem t (.v (.int kk i)) (.v (.int kk j))=some (.v (.int kk (i.tmod j))):=VW h
theorem aa0 (h:j≠0):dz tab .quo t (.v (.int kk i)) (.v (.int kk j))=some (.v (.int kk (kk.wrap (i.tdiv j)))):=VV h
end
section
variable {x y z:Operand} {t t':TypeId} {f:Nat} {q:BinOp} {r:UnOp} {as_ Wb:Array Operand} {ts:Array TypeId} {l h k:Option Operand} {fn:Fn} {ps:Array (Nat×Operand)} {bb:Bool}
theorem aa1:cO (.move x)=false:=rfl
theorem Ro:cO (.assign x)=false:=rfl
theorem aa2:cO (.pick x y z)=false:=rfl
theorem Kw:cO (.nilCheck x)=false:=rfl
theorem W4:cO (.binOp q t x y t')=false:=rfl
theorem aa3:cO (.unOp r t x)=false:=rfl
theorem Nu:cO (.convert t t' x)=false:=rfl
theorem HM:cO (.fieldAddr t x f)=false:=rfl
theorem W5:cO (.field t x f)=false:=rfl
theorem HN:cO (.indexAddr t x y)=false:=rfl
theorem W6:cO (.index t x y)=false:=rfl
theorem Nv:cO (.extract x f)=false:=rfl
theorem W7:cO (.slice t x l h k)=false:=rfl
theorem W8:cO (.build t ps)=false:=rfl
theorem Kx:cO (.makeFunc fn as_ Wb)=false:=rfl
theorem AL:cO (.makeInterface t x)=false:=rfl
theorem aa4:cO (.load t x)=false:=rfl
theorem W9:cO (.store t x y)=false:=rfl
theorem afd:cO (.box t x)=false:=rfl
theorem W_:cO (.alloc t)=false:=rfl
theorem Fw:cO (.buildSlice t f ps)=false:=rfl
theorem Nw:cO (.makeMap t l)=false:=rfl
theorem Rp:cO (.lookup t x y bb)=false:=rfl
theorem HO:cO (.mapUpdate t x y z)=false:=rfl
theorem Rq:cO (.insert t x y z)=false:=rfl
theorem HP:cO (.makeSlice t x y)=false:=rfl
theorem Xa:cO (.range t x)=false:=rfl
theorem aa5:cO (.next x bb)=false:=rfl
theorem Xb:cO (.entry x)=false:=rfl
theorem Fx:cO (.typeAssert x t t' bb)=false:=rfl
theorem Xc:cO (.panic x)=false:=rfl
theorem Kz:cO (.mapEntry t x y)=false:=rfl
theorem Fy:cO (.entryStore t x y z)=false:=rfl
theorem aa6:cO (.call {callee:=.builtin .len,args:=as_,argTypes:=ts})=false:=rfl
theorem aa7:cO (.call {callee:=.builtin .max,args:=as_,argTypes:=ts})=false:=rfl
theorem aa8:cO (.call {callee:=.builtin .min,args:=as_,argTypes:=ts})=false:=rfl
theorem wa:cO (.call {callee:=.builtin .unsafeSliceData,args:=as_,argTypes:=ts})=false:=rfl
theorem AM:cO (.call {callee:=.builtin .unsafeString,args:=as_,argTypes:=ts})=false:=rfl
theorem Rr:cO (.call {callee:=.builtin .clear,args:=as_,argTypes:=ts})=false:=rfl
theorem Xd:cO (.call {callee:=.builtin .copy,args:=as_,argTypes:=ts})=false:=rfl
theorem aa9:cO (.call {callee:=.builtin .cap,args:=as_,argTypes:=ts})=false:=rfl
theorem Nx:cO (.call {callee:=.builtin .delete,args:=as_,argTypes:=ts})=false:=rfl
theorem Rs:cO (.call {callee:=.builtin .print,args:=as_,argTypes:=ts})=false:=rfl
theorem KA:cO (.call {callee:=.builtin .println,args:=as_,argTypes:=ts})=false:=rfl
theorem KB:cO (.call {callee:=.builtin .recover,args:=as_,argTypes:=ts})=false:=rfl
theorem afe:cO (.call {callee:=.value x,args:=as_,argTypes:=ts})=true:=rfl
theorem aff:cO (.call {callee:=.builtin .append,args:=as_,argTypes:=ts})=true:=rfl
theorem afg:HH .one=false:=rfl
theorem afh:HH .au=false:=rfl
theorem ais:HH .rd=false:=rfl
theorem ait:HH .fk=true:=rfl
end
theorem az.N {σ :Type} {l K:List Nat} {ks:List MV} {ms: σ ->List MV} {I: σ ->VH->Prop} {μ : σ ->Nat} {s: σ} {Q:VQ} {e:Env} {O:VH} (s': σ) (hI:I s' O) (hk:looks e K=some ks:=by exact rfl) (hl:looks e l=some (ms s'):=by exact rfl) (hm: μ s'< μ s:=by first | omega | (dsimp only;omega)):az l K ks ms I μ s Q .normal e O:=⟨hk,s',hl,hI,hm⟩
set_option linter.defProp false in
def ws0:=zW @aa1<|zW @Ro<|zW @aa2<|zW @Kw<|zW @W4<|zW @aa3<|zW @Nu<|zW @HM<|zW @W5<|zW @HN<|zW @W6<|zW @Nv<|zW @W7<|zW @W8<|zW @Kx<|zW @AL<|zW @aa4<|zW @W9<|zW @afd<|zW @W_<|zW @Fw<|zW @Nw<|zW @Rp<|zW @HO<|zW @Rq<|zW @HP<|zW @Xa<|zW @aa5<|zW @Xb<|zW @Fx<|zW @Xc<|zW @Kz<|zW @Fy<|zW @aa6<|zW @aa7<|zW @aa8<|zW @wa<|zW @AM<|zW @Rr<|zW @Xd<|zW @aa9<|zW @Nx<|zW @Rs<|zW @KA<|zW @KB<|zW @afe<|zW @aff<|zW @afg<|zW @afh<|zW @ais<|zW @ait<|zW @aek<|zW @aac<|zW @aad<|zW @ah6<|zW @aae<|zW @aaf<|zW @aag<|zW @aah<|zW @Nb<|zW @HI<|zW @aai<|zW @aaj<|zW @We<|zW @ael<|zW @Wf<|zW @Wg<|zW @Wh<|zW @aem<|zW @aal<|zW @Q7<|zW @Wi<|zW @aam<|zW @Kq<|zW @Q8<|zW @Q9<|zW @Wj<|zW @Df<|zW @aan @aao
set_option linter.defProp false in
def ws1:=zW @Wl<|zW @Q_<|zW @Kr<|zW @HJ<|zW @aen<|zW @aeo<|zW @aep<|zW @aeq<|zW @aer<|zW @Kt<|zW @Wm<|zW @Nc<|zW @vO<|zW @Au<|zW @C8<|zW @yC<|zW @AA<|zW @AB<|zW @Dd<|zW @r8<|zW @vN<|zW @As<|zW @At<|zW @C7<|zW @r7<|zW @M0<|zW @Un<|zW @Uo<|zW @B8<|zW @zB<|zW @vW<|zW @vX<|zW @vY<|zW @Ap<|zW @C3<|zW @vM<|zW @C4<|zW @Az<|zW @Da<|zW @vT<|zW @Db<|zW @xE<|zW @IS<|zW @MU<|zW @TZ<|zW @T0<|zW @T_<|zW @Ua<|zW @Ub<|zW @Uc<|zW @Ud<|zW @IT<|zW @IU<|zW @C9<|zW @IV<|zW @yD<|zW @Fb<|zW @IW<|zW @Ax<|zW @vR<|zW @Fc<|zW @vS<|zW @Fe<|zW @Ay<|zW @Ff<|zW @Fg<|zW @yE<|zW @qv<|zW @IX<|zW @Fh<|zW @MW<|zW @MX<|zW @MY<|zW @C_<|zW @Q5<|zW @Fi<|zW @MZ<|zW @Fj<|zW @uS @vU
set_option linter.defProp false in
def ws2:=zW @agA<|zW @agB<|zW @Ug<|zW @Uh<|zW @Ui<|zW @Uj<|zW @Aq<|zW @Ar<|zW @E_<|zW @Fa<|zW @ak<|zW @E9<|zW @wrap_i64<|zW @Iy<|zW @C1<|zW @M3<|zW @Ul<|zW @Um<|zW @yA<|zW @EX<|zW @Iz<|zW @An<|zW @vJ<|zW @EY<|zW @vK<|zW @EZ<|zW @Ao<|zW @E0<|zW @yB<|zW @E5<|zW @ME<|zW @IA<|zW @IB<|zW @Wv<|zW @MG<|zW @MH<|zW @QT<|zW @IC<|zW @E8<|zW @MJ<|zW @No<|zW @uR<|zW @vL<|zW @TT<|zW @TU<|zW @MA<|zW @TV<|zW @Iw<|zW @EU<|zW @EV<|zW @Am<|zW @C0<|zW @MB<|zW @mX<|zW @MC<|zW @Ix<|zW @ID<|zW @IE<|zW @IF<|zW @IG<|zW @IH<|zW @II<|zW @IJ<|zW @IK<|zW @IL<|zW @MK<|zW @ML<|zW @aq<|zW @bu<|zW @vZ<|zW @Fk<|zW @Wq<|zW @aau<|zW @Wr<|zW @Ws<|zW @Wt<|zW @Wu<|zW @Re<|zW @Rf @agC
set_option linter.defProp false in
def ws3:=zW @aes<|zW @aaw<|zW @aax<|zW @aet<|zW @aeu<|zW @aev<|zW @aay<|zW @aaz<|zW @ajL<|zW @aew<|zW @ajM<|zW @ajN<|zW @aex<|zW @aaA<|zW @aaB<|zW @Ww<|zW @aaC<|zW @aaD<|zW @aaE<|zW @aey<|zW @aaF<|zW @aaG<|zW @aez<|zW @aeA<|zW @ajO<|zW @aia<|zW @aib<|zW @aic<|zW @aid<|zW @aeB<|zW @aaH<|zW @aaI<|zW @aeC<|zW @aeD<|zW @aaJ<|zW @Ku<|zW @HL<|zW @aeI<|zW @Rg<|zW @aaN<|zW @Nl<|zW @Nn<|zW @ft<|zW @tZ<|zW @Fu<|zW @Rh<|zW @aie<|zW @aif<|zW @aih<|zW @aii<|zW @aij<|zW @aik<|zW @aaO<|zW @WA<|zW @aaP<|zW @aeJ<|zW @aeK<|zW @aeL<|zW @ajP<|zW @ail<|zW @aeM<|zW @aeN<|zW @aim<|zW @aeO<|zW @aeP<|zW @ain<|zW @aeQ<|zW @aeR<|zW @aio<|zW @aeS<|zW @aeT<|zW @aeU<|zW @aaQ<|zW @WB<|zW @ajQ<|zW @aaR<|zW @aaS<|zW @aeV<|zW @aeW @aeX
set_option linter.defProp false in
def ws4:=zW @aeY<|zW @Ri<|zW @WD<|zW @Rj<|zW @Rl<|zW @Nq<|zW @WG<|zW @WH<|zW @Rk<|zW @aeZ<|zW @ajR<|zW @ae0<|zW @aip<|zW @ae9<|zW @ae1<|zW @ae2<|zW @ae3<|zW @ae4<|zW @ae5<|zW @ae6<|zW @ae7<|zW @ae8<|zW @WI<|zW @WJ<|zW @aiq<|zW @air<|zW @ae_<|zW @afa<|zW @WK<|zW @WN<|zW @WO<|zW @WQ<|zW @WS<|zW @WT<|zW @WU<|zW @WV<|zW @WW<|zW @WX<|zW @WY<|zW @WZ<|zW @Rn<|zW @afb<|zW @aaT<|zW @aaU<|zW @aaV<|zW @W0<|zW @afc<|zW @aaW<|zW @aaZ<|zW @aa0<|zW @aaX<|zW @aaY<|zW @anq.{0,0}<|zW @Option.bind_none.{0,0}<|zW @Int.zero_sub<|zW @Bool.not_true<|zW @Bool.not_false<|zW @Bool.or_false<|zW @Bool.or_true<|zW @Bool.true_or<|zW @anB<|zW @Bool.and_true<|zW @Bool.and_false<|zW @Bool.true_and<|zW @Bool.false_and<|zW @decide_true<|zW @decide_eq_true<|zW @decide_eq_false<|zW @ajx<|zW @Nat.mul_one<|zW @Int.toNat_natCast<|zW @Nat.add_zero<|zW @Nat.sub_zero<|zW @anl.{0}<|zW @List.set_cons_succ.{0}<|zW @List.take_succ_cons.{0}<|zW @anw.{0}<|zW @List.drop_succ_cons.{0}<|zW @List.drop_zero.{0} @ahZ.{0}
set_option linter.defProp false in
def ws5:=zW @aeb.{0}<|zW @aed.{0}<|zW @anc.{0,0}<|zW @Option.map_some.{0,0}<|zW @aec.{0,0}<|zW @ani.{0,0}<|zW @ajA.{0,0}<|zW @List.getElem_map.{0,0}<|zW @if_true.{1}<|zW @if_false.{1}<|zW @cond_true.{1}<|zW @cond_false.{1}<|zW @List.toList_toArray.{0}<|zW @ang.{0}<|zW @ans.{0}<|zW @true_and<|zW @and_true<|zW @eq_self.{1} @aee
set_option linter.defProp false in
def ws:=zW @ws0<|zW @ws1<|zW @ws2<|zW @ws3<|zW @ws4 @ws5
set_option linter.defProp false in
def ds:=zW @ft<|zW @tZ<|zW @Fu<|zW @B8<|zW @zB<|zW @vW<|zW @vX<|zW @vY<|zW @aeE<|zW @aeF<|zW @aeG<|zW @aeH<|zW @aaK<|zW @Wx<|zW @Wz<|zW @aaL<|zW @aaM<|zW @ah0.{0}<|zW @ajz.{0}<|zW @List.all_cons.{0}<|zW @List.all_nil.{0}<|zW @Bool.and_true<|zW @Bool.true_and<|zW @Bool.and_self<|zW @List.length_set.{0}<|zW @VI.{0}<|zW @anr.{0,0}<|zW @and_true<|zW @true_and<|zW @eq_self.{1}<|zW @Option.some.injEq.{0}<|zW @cf.cells.injEq<|zW @ne_eq.{1} @not_false_eq_true
section
variable {G H:Gh} {n:Sz} {D:List Deferred} {e:Env} {a:Act} {P:Program} {tab:cg} {O O':VH} {w:World} {m m':MV} {u v:Value} {ops:Array Oper} {Q:VQ} {md:Md}
def AN (K:MV->VH->Prop):Option (MV×VH)->Prop
 | some (m,O)=>K m O
 | none=>False
theorem uc {K:MV->VH->Prop}:AN K (some (m,O))=K m O:=rfl
theorem cG.I1 (i:Nat) {fuel:Nat} {listed:Array Bool} {l:List Oper} {o:Oper} (h:AN (fun m O'=>cG P n D ⟨l⟩ fuel (listed.setIfInBounds i true) (aZ o.dst m e) O' Q) (iW tab .au o e O)) (ht:aP P tab:=by exact aa) (ho:l[i]?=some o:=by exact rfl) (hs:Region.noSelect ⟨l⟩=true:=by kernel_rfl) (hf:Region.free .any ⟨l⟩ listed i=true:=by kernel_rfl) (hr:(Region.ready .any ⟨l⟩ listed).contains i=true:=by kernel_rfl) (hg:aO ⟨l⟩ o e=some true:=by exact rfl) (hd:bD n o.dst=true:=by exact rfl):cG P n D ⟨l⟩ (fuel+1) listed e O Q:=by
 generalize hv:iW tab .au o e O=v at h;cases v with
 | none=>exact h.elim
 | some p=>
   obtain⟨m,O'⟩:=p;obtain⟨h1,rfl⟩:=oB hv;exact cG.TR ht (by simpa using ho) hs hf hr hg h1 hd h
theorem aN.st {i:Nat} {l:List Oper} {o:Oper} {M:MV->VH->Prop} {K:Env->VH->Prop} (hy:gC P n D o e O M) (h:∀m O',M m O'->K (aZ o.dst m e) O') (ho:l[i]?=some o:=by exact rfl) (hg:aO ⟨l⟩ o e=some true:=by exact rfl) (hd:bD n o.dst=true:=by exact rfl):aN P n D ⟨l⟩ i e O Q K:=
 aN.jG (by simpa using ho) hg hd hy h
theorem aN.o1 {i:Nat} {l:List Oper} {o:Oper} {K:Env->VH->Prop} (h:AN (fun m O'=>K (aZ o.dst m e) O') (dF tab o e O)) (ht:aP P tab:=by exact aa) (ho:l[i]?=some o:=by exact rfl) (hg:aO ⟨l⟩ o e=some true:=by exact rfl) (hd:bD n o.dst=true:=by exact rfl):aN P n D ⟨l⟩ i e O Q K:=by
 generalize hv:dF tab o e O=v at h;cases v with
 | none=>exact h.elim
 | some p=>exact aN.op ht (by simpa using ho) hg hv hd h
theorem cG.bQ (ix:List (Nat×Fl)) {fuel:Nat} {listed:Array Bool} {l:List Oper} {L:List (Fl×Oper)}
  (h:WL P tab n D .any ⟨l⟩ Q L e O) (ht:aP P tab:=by exact aa) (hs:Region.noSelect ⟨l⟩=true:=by kernel_rfl) (hp:cZ .any ⟨l⟩ fuel listed ix=true:=by kernel_rfl) (hL:oC l ix=some L:=by exact rfl):cG P n D ⟨l⟩ fuel listed e O Q:=(WL.sound ht h) fuel listed ix (t_ hL) (fun _=>⟨hs,hp⟩)
end
section
variable {G H:Gh} {n:Sz} {D:List Deferred} {e:Env} {a:Act} {P:Program} {tab:cg} {O O' B:VH} {w:World} {m m':MV} {u v:Value} {ops:Array Oper} {Q:VQ} {md:Md} {c d:Code} {σ :Type}
def aB {σ :Type} (l:List Nat) (ms: σ ->List MV) (I: σ ->VH->Prop) (Q:VQ):VQ:=fun x e O=>match x with
 | .normal=>∃s,looks e l=some (ms s)/\I s O
 | x=>Q x e O
theorem Ny {l:List Nat} {ms: σ ->List MV} {I: σ ->VH->Prop} {i:Nat}:aB l ms I Q (.exit i) e O=Q (.exit i) e O:=rfl
theorem Nz {l:List Nat} {ms: σ ->List MV} {I: σ ->VH->Prop} {i:Nat}:aB l ms I Q (.goto i) e O=Q (.goto i) e O:=rfl
theorem Rt {l:List Nat} {ms: σ ->List MV} {I: σ ->VH->Prop}:aB l ms I Q .ret e O=Q .ret e O:=rfl
theorem KC {l:List Nat} {ms: σ ->List MV} {I: σ ->VH->Prop}:aB l ms I Q (.panic m) e O=Q (.panic m) e O:=rfl
theorem aB.mk {l:List Nat} {ms: σ ->List MV} {I: σ ->VH->Prop} (s: σ) (h2:I s O) (h1:looks e l=some (ms s):=by exact rfl):aB l ms I Q .normal e O:=⟨s,h1,h2⟩
theorem VC.join (ht:aP P tab) (l:List Nat) (ms: σ ->List MV) (I: σ ->VH->Prop) (h1:VC P n D c e O (aB l ms I Q)) (h2:∀s O,I s O->WC P tab n D d (jE l (ms s) []) O Q):VC P n D (.seq c d) e O Q:=by
 refine VC.seq (VC.mono ?_ h1);intro x e O h;cases x with
 | normal=>
   obtain⟨s,h3,h4⟩:=h;exact VC.env (WC.sound ht (h2 s O h4)) (iX (e0:=[]) (fun t x h=>by simp[look]at h) h3)
 | _=>exact h
def KD (P:Program) (n:Sz) (D:List Deferred) (b:Code) (Q:VQ):Env->VH->Prop:=fun e O=>VC P n D b e O Q
theorem Xe {b:Code}:KD P n D b Q e O=VC P n D b e O Q:=rfl
theorem VC.ag (ht:aP P tab) (h:WC P tab n D c e O (rJ (KD P n D d Q) Q)):VC P n D (.seq c d) e O Q:=by
 refine VC.seq (VC.mono ?_ (WC.sound ht h));intro x e O h;cases x<;>exact h
theorem ω (h:VC P n D c e O (rJ (KD P n D d Q) Q)):VC P n D (.seq c d) e O Q:=by
 refine VC.seq (VC.mono ?_ h);intro x e O h;cases x<;>exact h
theorem VF.HQ (ht:aP P tab) {f:FuncId} {fn:Func} {c:Code} {args:List MV} {rs:List ResultVar} {R:gB->VH->Prop} (hf:P.funcs[f]?=some fn) (hb:fn.body=some c) (hk:(⟨fn.ntmps,0⟩:Sz)=n) (hr:fn.results.toList=rs) (hn:args.length<=n.n)
  (h:VC P n [] c (cL 0 args) O (De tab rs R)):VF P f args O R:=by
 subst hk;refine VF.enter ht hf hb hn (VC.mono ?_ h);intro x e O hx
 have key:jo R O (iY tab e O rs)->∃m,dK tab fn e O=some m/\R (.ret m) O:=fun h=>by
  unfold dK;rw[hr, <-sH];generalize iY tab e O rs=z at h;unfold jo at h;split at h
  ·exact h.elim
  ·exact⟨_,rfl,h⟩
  ·rename_i l hl;refine⟨.tuple l,?_,h⟩
   match l,hl with
   | [],_=>rfl
   | [m],hl=>exact absurd rfl (hl m)
   | _::_::_,_=>rfl
 cases x<;>first | exact key hx | exact hx
theorem χ {f:FuncId} {fn:Func} {c:Code} {args:List MV} {R:gB->VH->Prop} {Q':Prop} (k:Nat) (rs:List ResultVar) (hf:P.funcs[f]?=some fn) (q:Q') (ht:aP P tab:=by exact aa) (hb:fn.body=some c:=by exact rfl) (hk:(⟨fn.ntmps,0⟩:Sz)=⟨k,0⟩:=by exact rfl) (hr:fn.results.toList=rs:=by exact rfl) (hn:args.length<=k:=by exact Nat.le_of_ble_eq_true rfl) (h:VC P ⟨k,0⟩ [] c (cL 0 args) O (De tab rs R)=Q':=by conv=>lhs;simp only[cL,Nat.zero_add,Nat.reduceAdd]):VF P f args O R:=VF.HQ ht hf hb hk hr hn (h.mpr q)
theorem Δ {ks:List MV} (ls Ks:List Nat) (ms: σ ->List MV) (I: σ ->VH->Prop) (μ : σ ->Nat) (s0: σ) (hI:I s0 O)
  (step:∀s O,I s O->VC P n D c (jE ls (ms s) (jE Ks ks [])) O (az ls Ks ks ms I μ s Q)) (h0:looks e ls=some (ms s0):=by exact rfl) (hk:looks e Ks=some ks:=by exact rfl):VC P n D (.loop c) e O Q:=VC.jh ls Ks ms I μ s0 h0 hk hI step
theorem VC.wc {K:Env->VH->Prop} {id:Nat} (l:List Nat) (ms: σ ->List MV) (I: σ ->VH->Prop) (h1:VC P n D c e O (iV id (aB l ms I Q))) (h2:∀s O,I s O->K (jE l (ms s) []) O):VC P n D c e O (iV id (rJ K Q)):=by
 intro G a w hw hf;refine wp_mono (h1 G a w hw hf) ?_;rintro y a' w' ⟨x,e',O',H,g1,g2,g3,g4,g5⟩
 have nor:∀{x':VX},x'= .normal\/x'= .exit id->(∃s,looks e' l=some (ms s)/\I s O')->FR H n D e' a'->XR H x' y->(∀e O,K e O->iV id (rJ K Q) x' e O)->(∀e,FR H n D e a'->FRX H n D x' e a')->cN G n D (iV id (rJ K Q)) y a' w':=fun hx ⟨s,h3,h4⟩ hf' hy hK hF=>
  ⟨_,jE l (ms s) [],O',H,g1,g2,hF _ (hf'.less (iX (e0:=[]) (fun t x h=>by simp[look]at h) h3)),hy,hK _ _ (h2 s O' h4)⟩
 cases x with
 | normal=>exact nor (.inl rfl) g5 g3 g4 (fun e O h=>h) (fun e h=>h)
 | exit i=>
   by_cases hi:i=id
   ·subst hi;simp only[iV,if_true]at g5;exact nor (.inr rfl) g5 g3 g4 (fun e O h=>by simp only[iV,if_true];exact h) (fun e h=>h)
   ·refine⟨.exit i,e',O',H,g1,g2,g3,g4,?_⟩;simp only[iV,hi,if_false]at g5 ⊢;exact g5
 | _=>exact⟨_,e',O',H,g1,g2,g3,g4,g5⟩
def ex1:MV->Bool
 | .v _=>true
 | .str _=>true
 | _=>false
def exM:MV->Bool
 | .v _=>true
 | .str _=>true
 | .agg cs=>cs.all ex1
 | _=>false
theorem FB (h:ex1 m=true) (h1:VR G m u):VR H m u:=by
 cases m with
 | v x=>have:=h1.je;subst this;cases h1 with | v hp=>exact .v hp
 | str l=>cases h1;exact .str
 | _=>cases h
theorem FC (h:ex1 m=true) (h1:VR G m u) (h2:VR H m v):v=u:=by
 cases m with
 | v x=>rw[h1.je,h2.je]
 | str l=>cases h1;cases h2;rfl
 | _=>cases h
theorem afi (h:exM m=true) (h1:VR G m u):VR H m u:=by
 cases m with
 | v x=>exact FB (m:=.v x) rfl h1
 | str l=>exact FB (m:=.str l) rfl h1
 | agg cs=>
   cases h1 with
   | agg h2 h3=>exact .agg h2 fun i c u a b=>FB (ajv.1 h c (ahV a)) (h3 i c u a b)
 | _=>cases h
theorem Uq (h:exM m=true) (h1:VR G m u) (h2:VR H m v):v=u:=by
 cases m with
 | v x=>exact FC (m:=.v x) rfl h1 h2
 | str l=>exact FC (m:=.str l) rfl h1 h2
 | agg cs=>
   cases h1 with
   | agg h3 h4=>
     cases h2 with
     | agg h5 h6=>
       congr 2
       refine List.ext_getElem? fun i=>?_
       rename_i us vs;rcases anj i cs.length with hi | hi
       ·have e1:=Ml (show i<us.length by omega);have e2:=Ml (show i<vs.length by omega);have e3:=Ml hi;rw[e1,e2]
        congr 1
        exact FC (ajv.1 h _ (ajw hi)) (h4 i _ _ e3 e1) (h6 i _ _ e3 e2)
       ·rw[anf (by omega),anf (by omega)]
 | _=>cases h
def ud (G:Gh) (J:VH->Prop) (x:World):Prop:=∃H O',Gh.Le G H/\WR H O' x/\J O'
theorem ud.le {J:VH->Prop} (h:G.Le H) {x:World} (hb:ud H J x):ud G J x:=by
 obtain⟨K,O',h1,h2,h3⟩:=hb;exact⟨K,O',h.trans h1,h2,h3⟩
theorem ud.ss {J:VH->Prop} {x:World} (h:ud G J x):SS G x:=by
 obtain⟨K,O',h1,h2,_⟩:=h;exact SS.le h1 h2.ss
def TE (brk:List Nat) (G:Gh) (J:VH->Prop) (j:Nat) (x:World):Prop:=SS G x/\(brk.contains j=false->ud G J x)
theorem TE.le {J:VH->Prop} {brk:List Nat} {j:Nat} {x:World} (h:G.Le H) (t:TE brk H J j x):TE brk G J j x:=⟨SS.le h t.1,fun k=>(t.2 k).le h⟩
theorem TE.mk {J:VH->Prop} {brk:List Nat} {j:Nat} {x:World} (h:ud G J x):TE brk G J j x:=⟨h.ss,fun _=>h⟩
def ae (P:Program) (n:Sz) (D:List Deferred) (ops:Array Oper) (brk:List Nat) (J:VH->Prop) (Ψ :Gh->Prop) (Z:Prop) (fuel:Nat) (listed:Array Bool) (e:Env) (O:VH) (Q:VQ):Prop:=
 (∀G H,Gh.Le G H-> Ψ G-> Ψ H)->Z->J O->∀G a w, Ψ G->WR G O w->FR G n D e a->jy P .any ops (cN G n D Q) (TE brk G J) fuel listed a w
theorem VC.oD {id:Nat} (brk:List Nat) (h:ae P n D ops brk (fun O'=>O.Ge O') (fun _=>True) (∀k,O.N<=k->O.hp k=none) ops.size (Array.replicate ops.size false) e O Q) (hm:P.follows .mixedOrders=true:=by kernel_rfl):VC P n D (.region id ops true) e O Q:=
 fun G a w hw hf=>wp_region_any hm (k_ _ _ _ _ (h (fun _ _ _ _=>trivial) (fun k hk=>(hw.ql k hk).2.2) (VH.Ge.refl O) G a _ trivial (hw.drawn _) hf))
theorem ae.take {J:VH->Prop} {Z:Prop} {brk:List Nat} {Ψ :Gh->Prop} {fuel i:Nat} {listed:Array Bool} {o:Oper} (ho:ops[i]?=some o) (hs:Region.noSelect ops=true) (hf:Region.free .any ops listed i=true) (hr:(Region.ready .any ops listed).contains i=true) (hb:oA ops brk listed i=true)
  (hd:bD n o.dst=true) (hy:∀G a w,Z->J O-> Ψ G->WR G O w->FR G n D e a->∃u,VR G m u/\YieldsIf P ops (ud G J) o u a) (h:ae P n D ops brk J Ψ Z fuel (listed.setIfInBounds i true) (aZ o.dst m e) O Q):ae P n D ops brk J Ψ Z (fuel+1) listed e O Q:=by
 intro hΨ hZ hJ G a w hψ hw aV;obtain⟨u,hu,hyi⟩:=hy G a w hZ hJ hψ hw aV;refine oS (S:=ud G J) (W:=fun j=>∃k,j∈kS ops listed i k) (brk:=fun j=>brk.contains j) ho (Region.noSelect_spec hs) (iC hd) (fun j x hj hT=>hT.2 hj) (fun x hx=>TE.mk hx) fuel listed a w (Region.free_spec ho hf) CZ Iu (Iv hb) (by simpa using hr) hyi ⟨G,O,Gh.Le.refl G,hw,hJ⟩ (h hΨ hZ hJ G _ w hψ hw (aV.aZ hd hu))
theorem ae.au (i:Nat) {brk:List Nat} {Ψ :Gh->Prop} {J:VH->Prop} {Z:Prop} {fuel:Nat} {listed:Array Bool} {l:List Oper} {o:Oper} (h:AN (fun m O'=>ae P n D ⟨l⟩ brk J Ψ Z fuel (listed.setIfInBounds i true) (aZ o.dst m e) O' Q) (iW tab .au o e O)) (ht:aP P tab:=by exact aa) (ho:l[i]?=some o:=by exact rfl) (hs:Region.noSelect ⟨l⟩=true:=by kernel_rfl) (hf:Region.free .any ⟨l⟩ listed i=true:=by kernel_rfl) (hr:(Region.ready .any ⟨l⟩ listed).contains i=true:=by kernel_rfl) (hb:oA ⟨l⟩ brk listed i=true:=by kernel_rfl) (hg:aO ⟨l⟩ o e=some true:=by exact rfl) (hd:bD n o.dst=true:=by exact rfl):ae P n D ⟨l⟩ brk J Ψ Z (fuel+1) listed e O Q:=by
 generalize hv:iW tab .au o e O=v at h;cases v with
 | none=>exact h.elim
 | some p=>
   obtain⟨m,O'⟩:=p;obtain⟨h1,rfl⟩:=oB hv;refine ae.take (by simpa using ho) hs hf hr hb hd (fun G a w _ _ _ hw aV=>?_) h;obtain⟨u,hu,cD⟩:=vC (P:=P) ht aV h1
   exact⟨u,hu,.inl ⟨bC aV hg,fun x hx=>by
    obtain⟨H,O2,h2,h3,_⟩:=hx;exact cD x (SS.le h2 h3.ss)⟩⟩
theorem NA {t:TypeId} {p:MV} (hB:B.Ge O) (hN:∀k,B.N<=k->B.hp k=none) (h:fw tab B t p=some m):fw tab O t p=some m:=by
 unfold fw at h ⊢
 have:∀{cs off},cellsOf B p=some (cs,off)->cellsOf O p=some (cs,off):=fun{cs off} hc=>by
  unfold cellsOf at hc ⊢;split at hc
  ·split at hc
   ·rename_i hk;have ei:=Nat.lt_of_not_le fun hle=>by rw[hN _ hle]at hk;cases hk
    rw[hB.hp _ ei,hk];exact hc
   ·cases hc
  ·exact hc
  ·cases hc
 split at h
 ·rename_i i cs off hi hc;rw[this hc,hi];exact h
 ·cases h
theorem ae.ld (i:Nat) {Ψ :Gh->Prop} {brk:List Nat} {fuel:Nat} {listed:Array Bool} {l:List Oper} {d:Option Tmp} {t:TypeId} {x:Operand} {ty:TypeId} {ps:String} {af:Array Edge} {g:Option (Nat×Bool)} {p:MV} (hv:fw tab B t p=some m) (h:ae P n D ⟨l⟩ brk (fun O'=>B.Ge O') Ψ (∀k,B.N<=k->B.hp k=none) fuel (listed.setIfInBounds i true) (aZ d m e) O Q) (ht:aP P tab:=by exact aa) (ho:l[i]?=some (.mk d (.load t x) ty ps af g):=by exact rfl) (hs:Region.noSelect ⟨l⟩=true:=by kernel_rfl) (hf:Region.free .any ⟨l⟩ listed i=true:=by kernel_rfl) (hr:(Region.ready .any ⟨l⟩ listed).contains i=true:=by kernel_rfl) (hb:oA ⟨l⟩ brk listed i=true:=by kernel_rfl) (hg:aO ⟨l⟩ (.mk d (.load t x) ty ps af g) e=some true:=by exact rfl) (hd:bD n d=true:=by exact rfl) (hx:ev e x=some p:=by exact rfl) (hm:exM m=true:=by exact rfl):ae P n D ⟨l⟩ brk (fun O'=>B.Ge O') Ψ (∀k,B.N<=k->B.hp k=none) (fuel+1) listed e O Q:=by
 refine ae.take (o:=.mk d (.load t x) ty ps af g) (by simpa using ho) hs hf hr hb hd (fun G a w hN hB _ hw aV=>?_) h;obtain⟨u,w',K,cD,h1,h2,h3,_⟩:=Iq (P:=P) ht hw (NA hB hN hv) (aV.ev hx);obtain⟨u0,hu0⟩:∃u0,VR G m u0:=⟨u,afi hm h3⟩
 refine⟨u0,hu0,.inl ⟨bC aV hg,fun y hy=>?_⟩⟩;obtain⟨H,O2,g1,g2,g3⟩:=hy;obtain⟨r,g4,g5⟩:=oX (P:=P) ht g2 (NA g3 hN hv) ((aV.ev hx).mono g1);have:=g5 y g2.sx;have er:=Uq hm hu0 g4;subst er;simp only[execOp,Sem.run_bind,this];rfl
theorem nQ {Q:Exit->Act->World->Prop} {S:World->Prop} {T:Nat->World->Prop}:∀(fuel:Nat) (listed:Array Bool) (a:Act) (w:World),(∀j,listed.getD j true=false->∀x,S x->T j x)->wpAnyH P .any ops Q S fuel listed a w->jy P .any ops Q T fuel listed a w:=by
 intro fuel;induction fuel with
 | zero=>intro listed a w _ h;exact⟨h.1,h.2⟩
 | succ fuel ih=>
   intro listed a w hT h;refine⟨h.1,fun i hi=>?_⟩;have fx:=(mem_ready.1 hi).1
   exact wpOp_mono (fun a' w' h'=>⟨hT i fx _ h'.1,ih _ _ _ (fun j hj x=>hT j (by
    by_cases HF:i=j
    ·subst HF;exact fx
    ·rw[getD_set_ne true HF]at hj;exact hj) x) h'.2⟩) (h.2 i hi)
theorem ae.fin {brk:List Nat} {Ψ :Gh->Prop} {J:VH->Prop} {Z:Prop} {fuel:Nat} {listed:Array Bool} (hb:((List.range listed.size).all fun j=>listed.getD j true||brk.contains j)=true) (h:cG P n D ops fuel listed e O Q):ae P n D ops brk J Ψ Z fuel listed e O Q:=by
 intro hΨ hZ hJ G a w hψ hw aV;refine nQ _ _ _ _ (fun j hj x hs=>⟨hs,fun hh=>?_⟩) (h G a w hw aV);rcases anj j listed.size with hl | hl
 ·have:=ajv.1 hb j (anx.2 hl);rw[hj,anB]at this;rw[this]at hh;cases hh
 ·rw[ank,anb (by simpa using hl)]at hj;cases hj
theorem ae.one {brk:List Nat} {Ψ :Gh->Prop} {J:VH->Prop} {Z:Prop} {fuel i:Nat} {listed:Array Bool}
  (h:aN P n D ops i e O Q fun e' O'=>J O'/\ae P n D ops brk J Ψ Z fuel (listed.setIfInBounds i true) e' O' Q) (hr:Region.ready .any ops listed=[i]:=by kernel_rfl):ae P n D ops brk J Ψ Z (fuel+1) listed e O Q:=by
 intro hΨ hZ hJ G a w hψ hw aV;refine jV hr (by simp) fun j hj=>?_
 obtain rfl:j=i:=by simpa using hj
 refine wpOp_mono (fun a' w' ⟨e',O',H,h1,h2,h3,h4,h5⟩=>⟨TE.mk ⟨H,O',h1,h2,h4⟩,jW (fun _ _ _=>cN.le h1) _ _ _ _ (fun k _ x hT=>hT.le h1) (h5 hΨ hZ h4 H a' w' (hΨ _ _ h1 hψ) h2 h3)⟩) (h G a w hw aV)
theorem ae.call {brk:List Nat} {Ψ :Gh->Prop} {J:VH->Prop} {Z:Prop} {fuel i:Nat} {listed:Array Bool} {l:List Oper} {d:Option Tmp} {f:Operand} {as_:Array Operand} {ts:Array TypeId} {ty:TypeId} {ps:String} {af:Array Edge} {g:Option (Nat×Bool)} {id:FuncId} {ms:List MV} {Φ :MV->VH->Prop} (hR:VF P id ms O (aE Φ))
  (h:∀m O', Φ m O'->J O'/\ae P n D ⟨l⟩ brk J Ψ Z fuel (listed.setIfInBounds i true) (aZ d m e) O' Q) (hr:Region.ready .any ⟨l⟩ listed=[i]:=by kernel_rfl) (ho:l[i]?=some (.mk d (.call {callee:=.value f,args:=as_,argTypes:=ts}) ty ps af g):=by exact rfl) (hg:aO ⟨l⟩ (.mk d (.call {callee:=.value f,args:=as_,argTypes:=ts}) ty ps af g) e=some true:=by exact rfl) (hf:ev e f=some (.func (.func id) [] []):=by exact rfl) (hm:gh e as_.toList=some ms:=by exact rfl) (hb:df P id=true:=by kernel_rfl) (hd:bD n d=true:=by exact rfl):ae P n D ⟨l⟩ brk J Ψ Z (fuel+1) listed e O Q:=
 ae.one (aN.call (o:=.mk d (.call {callee:=.value f,args:=as_,argTypes:=ts}) ty ps af g) (by simpa using ho) hg rfl rfl hf hm (Enters.sI hb) hd (by simpa using hR) fun r O' hr=>by
  cases r with
  | ret m=>exact h m O' hr
  | panic m=>exact hr.elim) (hr:=hr)
theorem ae.op {brk:List Nat} {Ψ :Gh->Prop} {J:VH->Prop} {Z:Prop} {fuel i:Nat} {listed:Array Bool} {l:List Oper} {o:Oper}
  (h:AN (fun m O'=>J O'/\ae P n D ⟨l⟩ brk J Ψ Z fuel (listed.setIfInBounds i true) (aZ o.dst m e) O' Q) (dF tab o e O)) (ht:aP P tab:=by exact aa) (hr:Region.ready .any ⟨l⟩ listed=[i]:=by kernel_rfl) (ho:l[i]?=some o:=by exact rfl) (hg:aO ⟨l⟩ o e=some true:=by exact rfl) (hd:bD n o.dst=true:=by exact rfl):ae P n D ⟨l⟩ brk J Ψ Z (fuel+1) listed e O Q:=
 ae.one (aN.o1 h (ht:=ht) (ho:=ho) (hg:=hg) (hd:=hd)) (hr:=hr)
theorem ae.st {brk:List Nat} {Ψ :Gh->Prop} {J:VH->Prop} {Z:Prop} {fuel i:Nat} {listed:Array Bool} {l:List Oper} {o:Oper} {M:MV->VH->Prop} (hy:gC P n D o e O M)
  (h:∀m O',M m O'->J O'/\ae P n D ⟨l⟩ brk J Ψ Z fuel (listed.setIfInBounds i true) (aZ o.dst m e) O' Q) (hr:Region.ready .any ⟨l⟩ listed=[i]:=by kernel_rfl) (ho:l[i]?=some o:=by exact rfl) (hg:aO ⟨l⟩ o e=some true:=by exact rfl) (hd:bD n o.dst=true:=by exact rfl):ae P n D ⟨l⟩ brk J Ψ Z (fuel+1) listed e O Q:=
 ae.one (aN.st hy h (ho:=ho) (hg:=hg) (hd:=hd)) (hr:=hr)
theorem ae.bQ (ix:List (Nat×Fl)) {brk:List Nat} {Ψ :Gh->Prop} {J:VH->Prop} {Z:Prop} {fuel:Nat} {listed:Array Bool} {l:List Oper} {L:List (Fl×Oper)}
  (h:WL P tab n D .any ⟨l⟩ Q L e O) (ht:aP P tab:=by exact aa) (hb:((List.range listed.size).all fun j=>listed.getD j true||brk.contains j)=true:=by kernel_rfl) (hs:Region.noSelect ⟨l⟩=true:=by kernel_rfl) (hp:cZ .any ⟨l⟩ fuel listed ix=true:=by kernel_rfl) (hL:oC l ix=some L:=by exact rfl):ae P n D ⟨l⟩ brk J Ψ Z fuel listed e O Q:=ae.fin hb (cG.bQ ix h (ht:=ht) (hs:=hs) (hp:=hp) (hL:=hL))
end
set_option linter.defProp false in
def wk:=zW @ws<|zW @Xe<|zW @Ny<|zW @Nz<|zW @Rt @KC
section
variable {G H:Gh} {n:Sz} {D:List Deferred} {e:Env} {a:Act} {P:Program} {tab:cg} {O O':VH} {w:World} {m m':MV} {u v:Value} {ops:Array Oper} {Q:VQ} {md:Md}
theorem rK {t:TypeId} {ms:Array (String×TypeId)} (hu:P.underlying t=some (.interface ms)):P.underlying t=some (.interface (P.methodsAt t)):=by
 rw[hu,Program.methodsAt,hu]
theorem iZ.Ur {d:Option Tmp} {op:BinOp} {t t' ty tv:TypeId} {x:Operand} {ps:String} {af:Array Edge} {g:Option (Nat×Bool)} {p:MV} {bb:Bool} {ms:Array (String×TypeId)} (hu:P.underlying t=some (.interface ms)) (hx:ev e x=some (.iface tv p)) (vH:(op= .eql/\bb=false)\/(op= .neq/\bb=true)):
  iZ P n D (.mk d (.binOp op t x (.const .nilIface) t') ty ps af g) e (.v (.bool bb)):=by
 intro G a hf;have h1:=hf.ev hx;generalize hv:a.eval x=v at h1;have hc:a.eval (.const .nilIface)= .nilIface:=rfl;cases h1 with
 | iface h2=>
   rename_i u;refine dS.of (s:=do eqGuard op t x (.const .nilIface) (.iface tv u) .nilIface;binOp op t (.iface tv u) .nilIface) (bf.of (u:=.bool bb) (fun w _=>?_) (.v rfl)) (by simp[execOp,hv,hc]);have hgd:(eqGuard op t x (.const .nilIface) (.iface tv u) .nilIface).run P w= .ok () w:=by rcases vH with⟨rfl,_⟩ | ⟨rfl,_⟩<;>simp[eqGuard]
   rw[Sem.run_bind,hgd,Result.andThen_ok];rcases vH with⟨rfl,rfl⟩ | ⟨rfl,rfl⟩
   ·exact run_eql_held_nil w t tv u (rK hu)
   ·exact run_neq_held_nil w t tv u (rK hu)
theorem iZ.FD {d:Option Tmp} {op:BinOp} {t t' ty:TypeId} {x:Operand} {ps:String} {af:Array Edge} {g:Option (Nat×Bool)} {bb:Bool} {ms:Array (String×TypeId)} (hu:P.underlying t=some (.interface ms)) (hx:ev e x=some (.v .nilIface)) (vH:(op= .eql/\bb=true)\/(op= .neq/\bb=false)):
  iZ P n D (.mk d (.binOp op t x (.const .nilIface) t') ty ps af g) e (.v (.bool bb)):=by
 intro G a hf;have h1:=(hf.ev hx).je;have hc:a.eval (.const .nilIface)= .nilIface:=rfl;refine dS.of (s:=do eqGuard op t x (.const .nilIface) .nilIface .nilIface;binOp op t .nilIface .nilIface) (bf.of (u:=.bool bb) (fun w _=>?_) (.v rfl)) (by simp[execOp,h1,hc]);have hgd:(eqGuard op t x (.const .nilIface) .nilIface .nilIface).run P w= .ok () w:=by rcases vH with⟨rfl,_⟩ | ⟨rfl,_⟩<;>cases x<;>simp[eqGuard]
 rw[Sem.run_bind,hgd,Result.andThen_ok];rcases vH with⟨rfl,rfl⟩ | ⟨rfl,rfl⟩
 ·exact run_eql_nil_nil w t (rK hu)
 ·exact run_neq_nil_nil w t (rK hu)
theorem iZ.asT {d:Option Tmp} {t s ty:TypeId} {x:Operand} {ps:String} {af:Array Edge} {g:Option (Nat×Bool)} {p:MV} {u:TypeDesc} (hu:P.underlying s=some u) (hi:∀ms,u≠ .interface ms) (hx:ev e x=some (.iface s p)):
  iZ P n D (.mk d (.typeAssert x t s true) ty ps af g) e (.tuple [p,.v (.bool true)]):=by
 intro G a hf;have h1:=hf.ev hx;generalize hv:a.eval x=v at h1;cases h1 with
 | iface h2=>
   rename_i w0;refine dS.of (s:=Instr.typeAssert (.iface s w0) t s true) (bf.of (u:=.tuple #[w0,.bool true]) (fun w _=>?_) ?_) (by simp[execOp,hv])
   ·simp only[Instr.typeAssert,Sem.run_bind,run_underlying hu,Result.andThen_ok]
    cases u<;>first
     | rfl
     | simp
     | (rename_i ms;exact absurd rfl (hi ms))
   ·exact VR.tuple (cs:=[p,.v (.bool true)]) (us:=[w0,.bool true]) rfl fun i c u hc hu=>by
     match i with
     | 0=>simp at hc hu;subst hc;subst hu;exact h2
     | 1=>simp at hc hu;subst hc;subst hu;exact .v rfl
     | i+2=>simp at hc
theorem VL.panic {d:Option Tmp} {x:Operand} {ty t:TypeId} {ps:String} {af:Array Edge} {g:Option (Nat×Bool)} {L:List (Fl×Oper)} {p:MV} (hmd:md= .plain) (hx:ev e x=some (.iface t p)) (hg:aO ops (.mk d (.panic x) ty ps af g) e=some true)
  (h:Q (.panic (.iface t p)) (k9 n e) O):VL P n D md ops ((.one,.mk d (.panic x) ty ps af g)::L) e O Q:=by
 subst hmd;intro fuel listed ix hf hp
 match ix,hf with
 | (i,g')::ix,hf=>
   obtain⟨rfl,ho,hf⟩:=hf;intro G a w hw aV;have h1:=aV.ev hx
   have DQ:∃u,a.eval x= .iface t u:=by
    generalize a.eval x=v at h1;cases h1;exact⟨_,rfl⟩
   obtain⟨u,hv⟩:=DQ
   have cD:(execOp a.eval (.mk d (.panic x) ty ps af g)).run P w= .halt (.panic (.iface t u)) w:=by
    simp[execOp,hv,Instr.panic,goPanic]
   simp only[aec,wpOps,ho,bC aV hg,if_true];refine .inl ?_;unfold Oper.wp;rw[cD];exact⟨.panic (.iface t p),k9 n e,O,G,Gh.Le.refl G,hw,⟨EP,aV.less B6⟩,⟨_,rfl,by rw[<-hv];exact h1⟩,h⟩
def MR (G:Gh):Option MV->FrameMode->Prop
 | none,.returning=>True
 | some m,.panicking [⟨v,false,false⟩]=>VR G m v
 | _,_=>False
def gU (P:Program) (g:FuncId) (args:List MV) (x:Option MV) (O:VH) (K:VH->Prop):Prop:=
 ∀G w vs u,WR G O w->aS G args vs->MR G x u->CallsD P g vs.toArray u w fun r u' w'=>(∃v,r= .returned v)/\settle u'= .returning/\∃O' H,Gh.Le G H/\WR H O' w'/\K O'
def AO:Option MV->MV
 | none=>.v .nilIface
 | some m=>m
theorem gU.rec {f:FuncId} {fn:Func} {c:Code} {id:Nat} {d:Tmp} {ty:TypeId} {ps:String} {af:Array Edge} {args:List MV} {x:Option MV} {K:VH->Prop} (hf:P.funcs[f]?=some fn) (hd:d<fn.ntmps)
  (h:WC P tab ⟨fn.ntmps,0⟩ [] c ((d,AO x)::cL 0 args) O fun y _ O'=>match y with
   | .normal=>K O'
   | .ret=>K O'
   | _=>False) (ht:aP P tab:=by exact aa) (hb:fn.body=some (.seq (.region id ⟨[.mk (some d) (.call {callee:=.builtin .recover,args:= #[],argTypes:= #[]}) ty ps af none]⟩ false) c):=by exact rfl) (hr:fn.results= #[]:=by exact rfl) (hn:args.length<=fn.ntmps:=by exact Nat.le_of_ble_eq_true rfl):gU P f args x O K:=by
 intro G w vs u hw hv hu;refine callsD_of_wpS hf hb fun c0 cs hm=>wpS_seq (wpS_region ?_)
 have aV:FR G ⟨fn.ntmps,0⟩ [] (cL 0 args) {tmps:=vs.toArray++Array.replicate (fn.ntmps - vs.toArray.size) undef,defers:=[]}:=by
  have hl:=hv.1;refine⟨rfl,by simp;omega,fun t x hx=>?_⟩;rw[iU,if_pos (anu _),Nat.sub_zero]at hx;obtain⟨u,h1,h2⟩:=hv.get hx;refine⟨u,?_,h2⟩;have ei:=(agu.1 h1).1;rw[ann (by simpa using ei)];simpa using h1
 generalize ({tmps:=vs.toArray++Array.replicate (fn.ntmps - vs.toArray.size) undef,defers:=[]}:Act)=a at aV
 have cD:(execOp a.eval (.mk (some d) (.call {callee:=.builtin .recover,args:= #[],argTypes:= #[]}) ty ps af none)).run P w= .ok .recover w:=by
  simp[execOp,resolve,invoke,builtin]
 have go:∀(v:Value) (u':FrameMode),VR G (AO x) v->settle u'= .returning->(c.wpS P (bodyPostS P fn c0 cs fun r u' w'=>(∃v,r= .returned v)/\settle u'= .returning/\∃O' H,Gh.Le G H/\WR H O' w'/\K O')) (a.put (some d) v) ({c0 with mode:=u'}::cs) w:=by
  intro v u' ve hs;refine wpS_of_wp ?_;refine wp_mono (WC.sound ht h G _ w hw (FR.put aV hd ve)) ?_;rintro y a' w' ⟨z,e',O',H,g1,g2,g3,g4,g5⟩
  have fin:FR H ⟨fn.ntmps,0⟩ [] e' a'->K O'->bodyPostS P fn c0 cs (fun r u' w'=>(∃v,r= .returned v)/\settle u'= .returning/\∃O' H,Gh.Le G H/\WR H O' w'/\K O') .normal a' ({c0 with mode:=u'}::cs) w':=fun hf' hk=>
   ⟨hf'.defers,u',rfl,.tuple #[],by simp[results,hr],⟨_,rfl⟩,hs,O',H,g1,g2,hk⟩
  cases y<;>cases z<;>first
   | exact False.elim g4
   | exact fin g3 g5
   | exact g5.elim
 have NB:(List.range (Array.mk [Oper.mk (some d) (.call {callee:=.builtin .recover,args:= #[],argTypes:= #[]}) ty ps af none]).size)=[0]:=rfl;rw[NB];simp only[wpOpsS,ahZ,aeb,cD];have aiu:Region.wanted (Oper.mk (some d) (.call {callee:=.builtin .recover,args:= #[],argTypes:= #[]}) ty ps af none) (yielded ⟨[.mk (some d) (.call {callee:=.builtin .recover,args:= #[],argTypes:= #[]}) ty ps af none]⟩ a.tmps)=true:=rfl;rw[if_pos aiu];subst hm
 match x,hmu:c0.mode,hu with
 | none,.returning,_=>
   have I2:recoverD (c0::cs)=none:=by simp[recoverD,hmu]
   rw[I2];have:=go .nilIface .returning (.v rfl) rfl;rw[show({c0 with mode:=.returning}:Frame)=c0 from by rw[<-hmu]]at this;exact this
 | some m,.panicking [⟨v,false,false⟩],ve=>
   have I2:recoverD (c0::cs)=some (v,{c0 with mode:=.panicking [⟨v,true,false⟩]}::cs):=by simp[recoverD,hmu]
   rw[I2];exact go v _ ve (by simp[settle])
def NC (P:Program) (tab:cg) (rs:List ResultVar) (g:FuncId) (ms:List MV) (R:gB->VH->Prop):VQ:=fun x e O=>match x with
 | .normal=>gU P g ms none O fun O'=>jo R O' (iY tab e O' rs)
 | .ret=>gU P g ms none O fun O'=>jo R O' (iY tab e O' rs)
 | .panic m=>gU P g ms (some m) O fun O'=>jo R O' (iY tab e O' rs)
 | _=>False
theorem VF.deferred {f g:FuncId} {fn:Func} {A rest:Code} {id k lo:Nat} {t:Tmp} {cap:Array Operand} {ty ty':TypeId} {ps ps':String} {af af':Array Edge} {args:List MV} {rs:List ResultVar} {R:gB->VH->Prop} (hf:P.funcs[f]?=some fn) (hE:Enters P g)
  (h:WC P tab ⟨k,0⟩ [] A (cL 0 args) O fun x e O'=>match x with
   | .normal=>∃ms,gh e cap.toList=some ms/\∀D,VC P ⟨k,lo⟩ D rest ((t,.func (.func g) [] ms)::e) O' (NC P tab rs g ms R)
   | _=>False) (ht:aP P tab:=by exact aa) (hb:fn.body=some (.seq A (.seq (.region id ⟨[.mk (some t) (.makeFunc (.func g) #[] cap) ty ps af none,.mk none (.defer {callee:=.value (.tmp t),args:= #[],argTypes:= #[]}) ty' ps' af' none]⟩ false) rest)):=by exact rfl) (hk:fn.ntmps=k:=by exact rfl) (hr:fn.results.toList=rs:=by exact rfl) (hn:args.length<=k:=by exact Nat.le_of_ble_eq_true rfl) (cT:t<k:=by decide):VF P f args O R:=by
 subst hk;intro G w vs hw hv;refine calls_of_wp_defers hf hb ?_
 have aV:FR G ⟨fn.ntmps,0⟩ [] (cL 0 args) {tmps:=vs.toArray++Array.replicate (fn.ntmps - vs.toArray.size) undef,defers:=[]}:=by
  have hl:=hv.1;refine⟨rfl,by simp;omega,fun t x hx=>?_⟩;rw[iU,if_pos (anu _),Nat.sub_zero]at hx;obtain⟨u,h1,h2⟩:=hv.get hx;refine⟨u,?_,h2⟩;have ei:=(agu.1 h1).1;rw[ann (by simpa using ei)];simpa using h1
 refine wp_seq (wp_mono (WC.sound ht h G _ w hw aV) ?_);rintro y a1 w1 ⟨x,e,O1,H,g1,g2,g3,g4,g5⟩
 cases y<;>cases x<;>first
  | exact False.elim g4
  | exact g5.elim
  | skip
 obtain⟨ms,hm,Ru⟩:=g5;have g3:FR H ⟨fn.ntmps,0⟩ [] e a1:=g3;have jC:=g3.gh hm;have HA:cap.map a1.eval=(cap.toList.map a1.eval).toArray:=by apply Array.ext';simp
 generalize cap.toList.map a1.eval=us at jC HA
 have Rv:(execOp a1.eval (.mk (some t) (.makeFunc (.func g) #[] cap) ty ps af none)).run P w1= .ok (.value (.func (.func g) #[] us.toArray)) w1:=by
  simp[execOp,Instr.makeFunc,HA]
 have hz:=g3.size;dsimp only at hz
 have hev:(a1.put (some t) (.func (.func g) #[] us.toArray)).eval (.tmp t)= .func (.func g) #[] us.toArray:=by
  simp[Act.eval,Act.put,hz,cT]
 have Rw:(execOp (a1.put (some t) (.func (.func g) #[] us.toArray)).eval (.mk none (.defer {callee:=.value (.tmp t),args:= #[],argTypes:= #[]}) ty' ps' af' none)).run P w1= .ok (.defer {target:=.fn (.func g) us.toArray,args:= #[]}) w1:=by
  simp[execOp,resolve,hev,Deferred.ofValue]
 refine wp_seq (wp_region ?_);have NB:∀o1 o2:Oper,List.range (Array.mk [o1,o2]).size=[0,1]:=fun _ _=>rfl
 rw[NB];have KE:∀(o1 o2:Oper) (tm:Array Value),o1.guard=none->Region.wanted o1 (yielded ⟨[o1,o2]⟩ tm)=true:=fun o1 o2 tm h=>by simp[Region.wanted,h]
 have sJ:∀(o1 o2:Oper) (tm:Array Value),o2.guard=none->Region.wanted o2 (yielded ⟨[o1,o2]⟩ tm)=true:=fun o1 o2 tm h=>by simp[Region.wanted,h]
 simp only[wpOps,ahZ,aeb,aed];rw[if_pos (KE _ _ _ rfl)];refine .inl ?_;unfold Oper.wp;rw[Rv,Oper.upon_value];simp only[wpOps,ahZ,aeb,aed];rw[if_pos (sJ _ _ _ rfl)];refine .inl ?_;first | unfold Oper.wp | skip
 rw[Rw,Oper.upon_defer];have kX:FR H ⟨fn.ntmps,0⟩ [] ((t,.func (.func g) [] ms)::e) (a1.put (some t) (.func (.func g) #[] us.toArray)):=FR.put g3 cT (.func (fs:=[]) (us:=[]) rfl (fun i c u h=>by simp at h) jC.1 jC.2);generalize a1.put (some t) (.func (.func g) #[] us.toArray)=a2 at kX;have ND:FR H ⟨fn.ntmps,lo⟩ [{target:=.fn (.func g) us.toArray,args:= #[]}] ((t,.func (.func g) [] ms)::e) {a2 with defers:={target:=.fn (.func g) us.toArray,args:= #[]}::a2.defers}:=⟨by rw[kX.defers],kX.size,kX.get⟩;show rest.wp P _ _ _;refine wp_mono (Ru _ H _ w1 g2 ND) ?_;rintro y a' w' ⟨x,e',O',K,k1,k2,k3,k4,k5⟩
 have hinv:∀w:World,(invoke (.fn (.func g) us.toArray) #[]).run P w= .ok (.enter g us.toArray) w:=fun w=>by
  simp[invoke,hE us.toArray w]
 have fin:∀(u:FrameMode) (z:Option MV),u≠ .run->MR K z u->FR K ⟨fn.ntmps,lo⟩ [{target:=.fn (.func g) us.toArray,args:= #[]}] e' a'->gU P g ms z O' (fun O'=>jo R O' (iY tab e' O' rs))->
   Leaves P fn a'.tmps (fun x w'=>∃r O' H,Gh.Le G H/\WR H O' w'/\ER H r x/\R r O') a'.defers u w':=by
  intro u z hu hmr hfa hd;rw[hfa.defers];refine leaves_cons hu (hinv _) ((hd K w' us u k2 (jC.mono k1) hmr).mono ?_);rintro r u' HE ⟨⟨v,rfl⟩,hs,O2,K2,q1,q2,q3⟩;dsimp only;rw[hs]
  have key:∃m,dK tab fn e' O2=some m/\R (.ret m) O2:=by
   unfold dK;rw[hr, <-sH];generalize iY tab e' O2 rs=z at q3;unfold jo at q3;split at q3
   ·exact q3.elim
   ·exact⟨_,rfl,q3⟩
   ·rename_i l hl;refine⟨.tuple l,?_,q3⟩
    match l,hl with
    | [],_=>rfl
    | [m],hl=>exact absurd rfl (hl m)
    | _::_::_,_=>rfl
  obtain⟨m,h6,h7⟩:=key;obtain⟨u2,h8,h9⟩:=lN (P:=P) ht q2 (hfa.mono q1) h6;exact⟨u2,h8,.ret m,O2,K2,(g1.trans k1).trans q1,q2,h9,h7⟩
 cases y with
 | normal=>cases x<;>first | exact False.elim k4 | exact fin .returning none (by simp) trivial k3 k5
 | ret=>cases x<;>first | exact False.elim k4 | exact fin .returning none (by simp) trivial k3 k5
 | panic c=>
   cases x with
   | panic m=>
     obtain⟨u,rfl,hvu⟩:=k4;exact fin (.panicking [⟨u,false,false⟩]) (some m) (by simp) hvu k3.2 k5
   | _=>exact False.elim k4
 | exit i=>cases x<;>first | exact False.elim k4 | exact k5.elim
 | goto i=>cases x<;>first | exact False.elim k4 | exact k5.elim
 | outgrown=>cases x<;>exact False.elim k4
theorem Xf:k9 n []=[]:=rfl
theorem Rx {N L t:Nat}:k9 ⟨N,L⟩ ((t,m)::e)=bif decide (t<L)then(t,m)::k9 ⟨N,L⟩ e else k9 ⟨N,L⟩ e:=rfl
theorem KF {rs:List ResultVar} {g:FuncId} {ms:List MV} {R:gB->VH->Prop}:NC P tab rs g ms R .normal e O=gU P g ms none O fun O'=>jo R O' (iY tab e O' rs):=rfl
theorem Xg {rs:List ResultVar} {g:FuncId} {ms:List MV} {R:gB->VH->Prop}:NC P tab rs g ms R .ret e O=gU P g ms none O fun O'=>jo R O' (iY tab e O' rs):=rfl
theorem NG {rs:List ResultVar} {g:FuncId} {ms:List MV} {R:gB->VH->Prop}:NC P tab rs g ms R (.panic m) e O=gU P g ms (some m) O fun O'=>jo R O' (iY tab e O' rs):=rfl
end
set_option linter.defProp false in
def wd:=zW @Z1<|zW @Xf<|zW @Rx<|zW @KF<|zW @Xg<|zW @NG<|zW @r7<|zW @r8 @Df
section
variable {G H:Gh} {n:Sz} {D:List Deferred} {e:Env} {a:Act} {P:Program} {tab:cg} {O O':VH} {w:World} {m m':MV} {u v:Value} {ops:Array Oper} {Q:VQ} {md:Md}
theorem WR.NH (h:WR G O w) (X:Obj):G.Le {G with bV:=bH G.bV O.N (some w.heap.size)}/\WR {G with bV:=bH G.bV O.N (some w.heap.size)} (O.push (.obj X)) (w.alloc X):=by
 have hle:=Gh.Le.J7 h.ng.1 w.heap.size;have hg:=h.grow X
 have eS:∀k b,bH G.bV O.N (some w.heap.size) k=some b->(k=O.N/\b=w.heap.size)\/(k≠O.N/\G.bV k=some b):=fun k b hk=>by
  by_cases e:k=O.N
  ·subst e;rw[aK]at hk;injection hk with hk;exact .inl ⟨rfl,hk.symm⟩
  ·rw[ay _ _ e]at hk;exact .inr ⟨e,hk⟩
 have oy:∀j x,bH O.hp O.N (some (cf.obj X)) j=some x->(j=O.N/\x= .obj X)\/(j≠O.N/\O.hp j=some x):=fun j x hj=>by
  by_cases e:j=O.N
  ·subst e;rw[aK]at hj;injection hj with hj;exact .inl ⟨rfl,hj.symm⟩
  ·rw[ay _ _ e]at hj;exact .inr ⟨e,hj⟩
 refine⟨hle,hg.base,hg.eN,fun k hk=>?_,fun k b hk=>?_,fun j k b lj lk hj hk=>?_,fun k ds hk=>?_,fun k es ck hk=>?_,fun t ht=>?_,fun s t b x y hs ht h1 h2=>?_,h.py hle.bV (mU (by simp)) fun _ _ _ _=>iQ fun _=>dV w _,fun k x hk=>?_,h.rA,h.r6 hle (nh (by simp))⟩
 ·have hk:O.N+1<=k:=hk;obtain⟨h1,h2,h3⟩:=h.ql k (by omega);exact⟨by show bH _ _ _ _=_;rw[ay _ _ (by omega)];exact h1,h2,by show bH _ _ _ _=_;rw[ay _ _ (by omega)];exact h3⟩
 ·rcases eS k b hk with⟨_,rfl⟩ | ⟨cA,hk⟩
  ·exact⟨h.ZC,by simp,fun _=>h.xk⟩
  ·obtain⟨p1,p2,p3⟩:=hg.kH k b hk;exact⟨p1,p2,fun hne=>p3 (by have hne:bH O.hp O.N (some (.obj X)) k≠none:=hne;rwa [ay _ _ cA]at hne)⟩
 ·rcases eS j b hj with⟨rfl,rfl⟩ | ⟨cB,hj⟩<;>rcases eS k _ hk with⟨rfl,hb⟩ | ⟨cA,hk⟩
  ·rfl
  ·have:=(h.kH _ _ hk).2.1;omega
  ·subst hb;have:=(h.kH _ _ hj).2.1;omega
  ·exact h.inj j k b (by have lj:bH O.hp O.N (some (.obj X)) j≠none:=lj;rwa [ay _ _ cB]at lj) (by have lk:bH O.hp O.N (some (.obj X)) k≠none:=lk;rwa [ay _ _ cA]at lk) hj hk
 ·rcases oy k _ hk with⟨_,e⟩ | ⟨_,hk⟩
  ·cases e
  ·obtain⟨b,C,T,h1,h2,h3⟩:=hg.cells k ds hk;exact⟨b,C,T,hle.bV h1,h2,h3.mono hle⟩
 ·rcases oy k _ hk with⟨_,e⟩ | ⟨_,hk⟩
  ·cases e
  ·obtain⟨b,E,h1,h2,h3,h4,h5⟩:=hg.map k es ck hk;exact⟨b,E,hle.bV h1,h2,h3,h4.mono hle,h5.mono hle⟩
 ·rcases oy t _ ht with⟨_,e⟩ | ⟨_,ht⟩
  ·cases e
  ·obtain⟨b,f,k,r,C,T,h1,h2,h3,h4,h5,h6⟩:=hg.tok t ht;refine⟨b,f,k,r,C,T,h1,h2,h3,h4,h5,fun j hj=>?_⟩;rcases eS j b hj with⟨_,rfl⟩ | ⟨_,hj⟩
   ·exact absurd rfl (h.p6 ht h1)
   ·exact h6 j hj
 ·rcases oy s _ hs with⟨_,e⟩ | ⟨_,hs⟩
  ·cases e
  ·rcases oy t _ ht with⟨_,e⟩ | ⟨_,ht⟩
   ·cases e
   ·exact h.me s t b x y hs ht h1 h2
 ·rcases oy k _ hk with⟨rfl,e⟩ | ⟨_,hk⟩
  ·injection e with e;subst e
   exact⟨w.heap.size,aK _ _ _,by rw[fG,if_pos rfl]⟩
  ·obtain⟨b,h1,h2⟩:=hg.obj k x hk;exact⟨b,hle.bV h1,h2⟩
theorem WR.setObj (h:WR G O w) {k b:Nat} {X Y:Obj} (hk:O.hp k=some (.obj X)) (hp:G.bV k=some b) (hX:∀C t fr,X≠ .cells C t fr):WR G (O.set k (.obj Y)) {w with heap:=w.heap.setIfInBounds b Y}:=by
 obtain⟨b',h1,h2⟩:=h.obj k X hk;rw[hp]at h1;injection h1 with h1;subst h1
 have hne:∀j b',j≠k->O.hp j≠none->G.bV j=some b'->b'≠b:=fun j b' hj lj lK e=>hj (h.inj j k b lj (by rw[hk];simp) (e▸lK) hp)
 have j6:∀j,bH O.hp k (some (.obj Y)) j≠none->O.hp j≠none:=fun j hn=>by
  by_cases e:j=k
  ·subst e;rw[hk];simp
  ·rwa [ay _ _ e]at hn
 have nJ:=vD Y h2;have eT:∀j,j≠b->({w with heap:=w.heap.setIfInBounds b Y}:World).heap[j]?=w.heap[j]?:=fun j hj=>pC _ hj
 have hB:=(h.kH k b hp).1
 have oy:∀j x,(∀y,x≠ .obj y)->bH O.hp k (some (cf.obj Y)) j=some x->j≠k/\O.hp j=some x:=fun j x hx hj=>by
  by_cases e:j=k
  ·subst e;rw[aK]at hj;injection hj with hj;exact absurd hj.symm (hx _)
  ·rw[ay _ _ e]at hj;exact⟨e,hj⟩
 refine⟨⟨h.base.os,h.base.tape,h.base.output,by simpa using h.base.size,fun j hj=>?_⟩,fun b' o u' pB=>?_,fun j hj=>?_,fun j b' hj=>?_,fun j k' b' lj lk=>h.inj j k' b' (j6 j lj) (j6 k' lk),fun j ds hj=>?_,fun j es2 ck2 hj=>?_,fun t ht=>?_,fun s t b' x y hs ht=>?_,h.py id (mU (by simp)) fun j b' s hj hs=>iQ (fun x hx=>by
   by_cases e:b'=b
   ·subst e;rw[h2]at hx;injection hx with hx;subst hx
    exfalso;simp only[World.shape?,h2]at hs
    cases X<;>first
     | exact hX _ _ _ rfl
     | cases hs
   ·rw[eT _ e];exact hx) hs,fun j x hj=>?_,h.rA,h.r6 (Gh.Le.refl _) (nh (by simp))⟩
 ·rw[eT j (by have:j<G.B:=hj;omega)];exact h.base.block j hj
 ·have yZ:b'≠b:=fun e=>by subst e;rw[(h.kH k b' hp).2.2 (by rw[hk];simp) o]at pB;cases pB
  rw[uP _ (by exact yZ)];exact h.eN b' o u' pB
 ·obtain⟨d1,d2,d3⟩:=h.ql j hj;refine⟨d1,d2,?_⟩;show bH _ _ _ _=_;rw[ay _ _ (fun e=>by subst e;rw[d3]at hk;cases hk)];exact d3
 ·obtain⟨p1,p2,p3⟩:=h.kH j b' hj;exact⟨p1,by simpa using p2,fun hne=>p3 (j6 j hne)⟩
 ·obtain⟨e,hj⟩:=oy j _ (by simp) hj;obtain⟨b',D,T',d1,d2,d3⟩:=h.cells j ds hj;exact⟨b',D,T',d1,by rw[eT _ (hne j b' e (by rw[hj];simp) d1)];exact d2,d3⟩
 ·obtain⟨e,hj⟩:=oy j _ (by simp) hj;obtain⟨b',E,d1,d2,d3⟩:=h.map j es2 ck2 hj;exact⟨b',E,d1,by rw[eT _ (hne j b' e (by rw[hj];simp) d1)];exact d2,d3⟩
 ·obtain⟨e,ht⟩:=oy t _ (by simp) ht;obtain⟨b',f,k',r,D,T',d1,d2,d3,d4,d6,d7⟩:=h.tok t ht;exact⟨b',f,k',r,D,T',d1,d2,by rw[eT _ (fun e=>d7 k (by rw[e];exact hp))];exact d3,d4,d6,d7⟩
 ·obtain⟨_,hs⟩:=oy s _ (by simp) hs;obtain⟨_,ht⟩:=oy t _ (by simp) ht;exact h.me s t b' x y hs ht
 ·have hj:bH O.hp k (some (.obj Y)) j=some (.obj x):=hj;by_cases e:j=k
  ·subst e;rw[aK]at hj;injection hj with hj;injection hj with hj;subst hj
   exact⟨b,hp,nJ⟩
  ·rw[ay _ _ e]at hj;obtain⟨b',d1,d2⟩:=h.obj j x hj;exact⟨b',d1,by rw[eT _ (hne j b' e (by rw[hj];simp) d1)];exact d2⟩
section
variable {d:Option Tmp} {op:BinOp} {t t' ty:TypeId} {x y:Operand} {ps:String} {af:Array Edge} {g:Option (Nat×Bool)} {b:Bool} {p q:MV}
theorem Ry:dF tab (.mk d (.range t x) ty ps af g) e O=none:=rfl
theorem Xh:dF tab (.mk d (.next x b) ty ps af g) e O=none:=rfl
theorem DR:dF tab (.mk d (.typeAssert x t t' b) ty ps af g) e O=none:=rfl
def KG (t:TypeId):Option cM->Option MV->Option MV
 | some i,some p=>match i.under with
   | .interface _=>none
   | _=>some (.iface t p)
 | _,_=>none
theorem Xi:dF tab (.mk d (.makeInterface t x) ty ps af g) e O=(KG t (tab t) (ev e x)).map (·,O):=by
 unfold dF eX jf KG;dsimp only;cases tab t with
 | none=>rfl
 | some i=>
   cases ev e x with
   | none=>obtain⟨u,a,b,z⟩:=i;cases u<;>rfl
   | some p=>obtain⟨u,a,b,z⟩:=i;cases u<;>rfl
theorem Rz:dF tab (.mk d (.panic x) ty ps af g) e O=none:=rfl
theorem Xj:dz tab op t (.iface ty p) (.v .nilIface)=none:=by cases op<;>rfl
theorem Xk:dz tab op t (.v .nilIface) (.iface ty p)=none:=by cases op<;>rfl
theorem aa_ {cs:List MV} {i:Nat}:sB (.tuple cs) i=cs[i]?:=rfl
theorem aba {r:Int} {a b a' b':Nat} {z z':List MV}:Kv (.v (.int .i32 r)) (some ⟨.int .i32,a,b,z⟩) (some ⟨.string,a',b',z'⟩)=none:=rfl
theorem abb:dz tab op t (.v .nilIface) (.v .nilIface)=none:=by cases op<;>rfl
end
end
set_option linter.defProp false in
def wi:=zW @Xi<|zW @Ry<|zW @Xh<|zW @DR<|zW @Rz<|zW @Xj<|zW @Xk<|zW @aa_<|zW @aba @abb
section
variable {G H:Gh} {n:Sz} {D:List Deferred} {e e':Env} {a:Act} {P:Program} {tab:cg} {O O':VH} {w:World} {m m':MV} {u v:Value} {ops:Array Oper} {Q:VQ} {md:Md}
def lp (cs:List MV) (X:Obj) (G:Gh):Prop:=∃C:Array Value,∃T:Fz C,X= .cells C T.t T.fr/\aS G cs (C.toList.take cs.length)
theorem lp.mono {cs:List MV} {X:Obj} (h:G.Le H) (hx:lp cs X G):lp cs X H:=by
 obtain⟨C,T,h1,h2⟩:=hx;exact⟨C,T,h1,h2.mono h⟩
theorem VH.rL {x:cf} {k j:Nat}:(j=k/\(O.set k x).hp j=some x)\/(j≠k/\(O.set k x).hp j=O.hp j):=by
 by_cases e:j=k
 ·subst e;exact .inl ⟨rfl,τ _ _ _⟩
 ·exact .inr ⟨e,ρ _ _ e⟩
theorem B_ {x:cf} {k j:Nat} (hk:O.hp k≠none) (h:(O.set k x).hp j≠none):O.hp j≠none:=by
 rcases VH.rL (O:=O) (x:=x) (k:=k) (j:=j)with⟨rfl,_⟩ | ⟨_,e⟩
 ·exact hk
 ·rwa [e]at h
theorem WR.swap {k:Nat} {x:cf} (h:WR G O w) (hk:O.hp k≠none) (hc:∀cs,x= .cells cs->∃b,∃C:Array Value,∃T:Fz C,G.bV k=some b/\w.heap[b]?=some (.cells C T.t T.fr)/\aS G cs (C.toList.take cs.length))
  (ho:∀X,x= .obj X->∃b,G.bV k=some b/\w.heap[b]?=some X) (hm:∀es ck,x≠ .map es ck) (ht:x≠ .tok) (hs:∀j t n,x≠ .shape j t n) (hf:∀p,x≠ .fact p:=by intro _ e;cases e):WR G (O.set k x) w where
 base:=h.base
 eN:=h.eN
 ql j hj:=by
  obtain⟨h1,h2,h3⟩:=h.ql j hj;exact⟨h1,h2,(ρ _ _ (fun e=>by subst e;exact hk h3)).trans h3⟩
 kH j b hj:=by
  obtain⟨h1,h2,h3⟩:=h.kH j b hj;exact⟨h1,h2,fun hn=>h3 (B_ hk hn)⟩
 inj i j b hi hj:=h.inj i j b (B_ hk hi) (B_ hk hj)
 cells j cs hj:=by
  rcases VH.rL (O:=O) (x:=x) (k:=k) (j:=j)with⟨rfl,e⟩ | ⟨_,e⟩
  ·rw[e]at hj;injection hj with hj;exact hc cs hj
  ·rw[e]at hj;exact h.cells j cs hj
 map j es ck hj:=by
  rcases VH.rL (O:=O) (x:=x) (k:=k) (j:=j)with⟨rfl,e⟩ | ⟨_,e⟩
  ·rw[e]at hj;injection hj with hj;exact absurd hj (hm _ _)
  ·rw[e]at hj;exact h.map j es ck hj
 tok j hj:=by
  rcases VH.rL (O:=O) (x:=x) (k:=k) (j:=j)with⟨rfl,e⟩ | ⟨_,e⟩
  ·rw[e]at hj;injection hj with hj;exact absurd hj ht
  ·rw[e]at hj;exact h.tok j hj
 me i j b y z hi hj:=by
  rcases VH.rL (O:=O) (x:=x) (k:=k) (j:=i)with⟨rfl,e⟩ | ⟨_,e⟩
  ·rw[e]at hi;injection hi with hi;exact absurd hi ht
  ·rw[e]at hi;rcases VH.rL (O:=O) (x:=x) (k:=k) (j:=j)with⟨rfl,e⟩ | ⟨_,e⟩
   ·rw[e]at hj;injection hj with hj;exact absurd hj ht
   ·rw[e]at hj;exact h.me i j b y z hi hj
 oV j k' t n hj:=by
  rcases VH.rL (O:=O) (x:=x) (k:=k) (j:=j)with⟨rfl,e⟩ | ⟨_,e⟩
  ·rw[e]at hj;injection hj with hj;exact absurd hj (hs _ _ _)
  ·rw[e]at hj;exact h.oV j k' t n hj
 obj j y hj:=by
  rcases VH.rL (O:=O) (x:=x) (k:=k) (j:=j)with⟨rfl,e⟩ | ⟨_,e⟩
  ·rw[e]at hj;injection hj with hj;exact ho y hj
  ·rw[e]at hj;exact h.obj j y hj
 rA:=h.rA
 B0:=h.r6 (Gh.Le.refl _) (nh hf)
theorem WR.fix {k:Nat} {cs:List MV} (h:WR G O w) (hk:O.hp k=some (.cells cs)):∃X,lp cs X G/\WR G (O.set k (.obj X)) w:=by
 obtain⟨b,C,T,h1,h2,h3⟩:=h.cells k cs hk;exact⟨_,⟨C,T,rfl,h3⟩,h.swap (by rw[hk];simp) (fun _ e=>by cases e) (fun X e=>by injection e with e;exact⟨b,h1,by rw[h2,e]⟩) (fun _ _ e=>by cases e) (fun e=>by cases e) (fun _ _ _ e=>by cases e) (fun _ e=>by cases e)⟩
theorem WR.yG {k:Nat} {cs:List MV} {X:Obj} (h:WR G O w) (hk:O.hp k=some (.obj X)) (hx:lp cs X G):WR G (O.set k (.cells cs)) w:=by
 obtain⟨b,h1,h2⟩:=h.obj k X hk;obtain⟨C,T,rfl,h3⟩:=hx;exact h.swap (by rw[hk];simp) (fun cs' e=>by injection e with e;subst e;exact⟨b,C,T,h1,h2,h3⟩) (fun X e=>by cases e) (fun _ _ e=>by cases e) (fun e=>by cases e) (fun _ _ _ e=>by cases e) (fun _ e=>by cases e)
theorem VC.qy {id:Nat} (brk:List Nat) (k:Nat) {cs:List MV} (hk:O.hp k=some (.cells cs)) (h:∀X,ae P n D ops brk (fun O'=>O'.hp k=some (.obj X)) (lp cs X) True ops.size (Array.replicate ops.size false) e (O.set k (.obj X)) Q) (hm:P.follows .mixedOrders=true:=by kernel_rfl):VC P n D (.region id ops true) e O Q:=
 fun G a w hw hf=>by
  obtain⟨X,hx,sJ⟩:=(hw.drawn _).fix hk;exact wp_region_any hm (k_ _ _ _ _ (h X (fun _ _=>lp.mono) trivial (τ _ _ _) G a _ hx sJ hf))
theorem FE (ht:aP P tab) {t:TypeId} {i:cM} {cs:List MV} {us:List Value} {off:Nat} (hi:tab t=some i) (hv:nL (eg i.under) i.size cs off=some m) (oY:aS G cs us):
  ∃r,VR G m r/\∀y b,(∀j v,us[j]?=some v->y.cell? ⟨b,j,none⟩=some v)->(Instr.loadAt t (.pointer (some ⟨b,off,none⟩))).run P y= .ok r y:=by
 have fQ:=ht t i hi;simp only[Instr.loadAt,Instr.sureAddr,loadVar];unfold nL at hv;split at hv
 ·rename_i qm;split at hv
  ·rename_i hle;injection hv with hv;subst hv
   have CU:=(oY.drop off).take i.size;have hlen:((us.drop off).take i.size).length=i.size:=by simp[oY.1];omega
   refine⟨_,.agg CU.1 CU.2,fun y b hy=>?_⟩
   have Ah:∀j v,((us.drop off).take i.size)[j]?=some v->y.cell? ((⟨b,off,none⟩:Addr).add j)=some v:=by
    intro j v hj;rw[Addr.add_lit];rw[ahX]at hj;split at hj
    ·rw[List.getElem?_drop]at hj;exact hy _ v hj
    ·cases hj
   have zf:=run_loadCells_list (P:=P) y ⟨b,off,none⟩ _ Ah;rw[hlen]at zf;simp[oW fQ,qm,fH fQ,zf]
  ·cases hv
 ·rename_i qm;obtain⟨v,jB,DL⟩:=oY.get hv;exact⟨v,DL,fun y b hy=>by simp[oW fQ,qm,hy _ v jB]⟩
theorem anM (i:Nat) {brk:List Nat} {cs:List MV} {X:Obj} {fuel:Nat} {listed:Array Bool} {l:List Oper} {d:Option Tmp} {t:TypeId} {x:Operand} {ty:TypeId} {ps:String} {af:Array Edge} {g:Option (Nat×Bool)} {k off:Nat} (hv:fw tab (O.set k (.cells cs)) t (.ptr k off)=some m) (h:ae P n D ⟨l⟩ brk (fun O'=>O'.hp k=some (.obj X)) (lp cs X) True fuel (listed.setIfInBounds i true) (aZ d m e) O Q) (ht:aP P tab:=by exact aa) (ho:l[i]?=some (.mk d (.load t x) ty ps af g):=by exact rfl) (hs:Region.noSelect ⟨l⟩=true:=by kernel_rfl) (hf:Region.free .any ⟨l⟩ listed i=true:=by kernel_rfl) (hr:(Region.ready .any ⟨l⟩ listed).contains i=true:=by kernel_rfl) (hb:oA ⟨l⟩ brk listed i=true:=by kernel_rfl) (hg:aO ⟨l⟩ (.mk d (.load t x) ty ps af g) e=some true:=by exact rfl) (hd:bD n d=true:=by exact rfl) (hx:ev e x=some (.ptr k off):=by exact rfl):ae P n D ⟨l⟩ brk (fun O'=>O'.hp k=some (.obj X)) (lp cs X) True (fuel+1) listed e O Q:=by
 refine ae.take (o:=.mk d (.load t x) ty ps af g) (by simpa using ho) hs hf hr hb hd (fun G a w _ hJ hψ hw aV=>?_) h;obtain⟨C,T,rfl,h3⟩:=hψ;unfold fw at hv;simp only[cellsOf,τ]at hv;split at hv
 ·rename_i ti cs' off' QN hc;injection hc with hc;injection hc with e1 e2;subst e1;subst e2
  obtain⟨r,kz,gu⟩:=FE (P:=P) ht QN hv h3;have hxr:=aV.ev hx;generalize hxe:a.eval x=xu at hxr;cases hxr with
  | ptr hp=>
    rename_i b;refine⟨r,kz,.inl ⟨bC aV hg,fun y hy=>?_⟩⟩;obtain⟨H,O2,g1,g2,g3⟩:=hy;obtain⟨b',cE,cK⟩:=g2.obj k _ g3;rw[g1.bV hp]at cE;injection cE with cE;subst cE
    have:=gu y b fun j v hj=>by
     rw[ahX]at hj;split at hj
     ·simp only[World.cell?,cK,ahY,aee,if_false];simpa using hj
     ·cases hj
    simp only[execOp,Sem.run_bind,hxe,this];rfl
 ·cases hv
theorem afj {Q Q':Exit->Act->World->Prop} {i:Nat} {K:Act->World->Prop} (hQ:∀y a w,Q y a w->Q' y a w) (h1:wpOp P ops Q i K a w):wpOp P ops Q' i K a w:=by
 unfold wpOp at h1 ⊢;split
 ·rename_i ho;simp only[ho]at h1;exact h1
 ·rename_i o ho;simp only[ho]at h1;split
  ·rename_i sD;simp only[sD,if_true]at h1;refine h1.imp (fun h2=>?_) (fun⟨h2,a',w',h3⟩=>⟨h2,a',w',hQ _ _ _ h3⟩);unfold Oper.wp at h2 ⊢;generalize (execOp a.eval o).run P w=r at*;cases r with
   | ok nx w'=>
     cases nx<;>simp only[Oper.upon]at h2 ⊢ <;>first
      | exact h2
      | (refine Calls.mono h2 fun x HE he=>?_
         cases x with
         | returned v=>exact he
         | panicked c=>exact hQ _ _ _ he
         | outgrown=>obtain⟨a',w',h3⟩:=he;exact⟨a',w',hQ _ _ _ h3⟩)
   | halt x w'=>cases x<;>simp only[Oper.upon]at h2 ⊢ <;>first | exact h2 | exact hQ _ _ _ h2
  ·rename_i sD;simp only[sD]at h1;exact h1
def Us (k:Nat) (X:Obj) (cs:List MV) (Q:VQ):VQ:=fun x e O=>match x with
 | .panic m=>O.hp k=some (.obj X)/\Q (.panic m) e (O.set k (.cells cs))
 | _=>False
theorem Us.post {k:Nat} {X:Obj} {cs:List MV} {y:Exit} (hψ :lp cs X G) (h:cN G n D (Us k X cs Q) y a w):cN G n D Q y a w:=by
 obtain⟨x,e,O,H,h1,h2,h3,h4,h5⟩:=h;cases x with
 | panic m=>exact⟨_,e,_,H,h1,h2.yG h5.1 (hψ.mono h1),h3,h4,h5.2⟩
 | _=>exact h5.elim
theorem ae.j8 {brk:List Nat} {k:Nat} {cs:List MV} {X:Obj} {fuel i:Nat} {listed:Array Bool} {l:List Oper} {d:Option Tmp} {f:Operand} {as_:Array Operand} {ts:Array TypeId} {ty:TypeId} {ps:String} {af:Array Edge} {g:Option (Nat×Bool)} {id:FuncId} {ms:List MV} {R:gB->VH->Prop} (hR:VF P id ms O R)
  (h:∀m O',R (.ret m) O'->O'.hp k=some (.obj X)/\ae P n D ⟨l⟩ brk (fun O'=>O'.hp k=some (.obj X)) (lp cs X) True fuel (listed.setIfInBounds i true) (aZ d m e) O' Q) (h2:∀m O',R (.panic m) O'->O'.hp k=some (.obj X)/\Q (.panic m) (k9 n e) (O'.set k (.cells cs))) (hr:Region.ready .any ⟨l⟩ listed=[i]:=by kernel_rfl) (ho:l[i]?=some (.mk d (.call {callee:=.value f,args:=as_,argTypes:=ts}) ty ps af g):=by exact rfl) (hg:aO ⟨l⟩ (.mk d (.call {callee:=.value f,args:=as_,argTypes:=ts}) ty ps af g) e=some true:=by exact rfl) (hf:ev e f=some (.func (.func id) [] []):=by exact rfl) (hm:gh e as_.toList=some ms:=by exact rfl) (hb:df P id=true:=by kernel_rfl) (hd:bD n d=true:=by exact rfl):ae P n D ⟨l⟩ brk (fun O'=>O'.hp k=some (.obj X)) (lp cs X) True (fuel+1) listed e O Q:=by
 intro hΨ hZ hJ G a w hψ hw aV;refine jV hr (by simp) fun j hj=>?_
 obtain rfl:j=i:=by simpa using hj
 have h1:=aN.call (Q:=Us k X cs Q) (K:=fun e' O'=>O'.hp k=some (.obj X)/\ae P n D ⟨l⟩ brk (fun O'=>O'.hp k=some (.obj X)) (lp cs X) True fuel (listed.setIfInBounds j true) e' O' Q) (o:=.mk d (.call {callee:=.value f,args:=as_,argTypes:=ts}) ty ps af g) (by simpa using ho) hg rfl rfl hf hm (Enters.sI hb) hd (by simpa using hR) (fun r O' hr=>by
  cases r with
  | ret m=>exact h m O' hr
  | panic m=>exact h2 m O' hr) G a w hw aV
 refine afj (fun _ _ _=>Us.post hψ) (wpOp_mono (fun a' w' ⟨e',O',H,h1,h2,h3,h4,h5⟩=>⟨TE.mk ⟨H,O',h1,h2,h4⟩,jW (fun _ _ _=>cN.le h1) _ _ _ _ (fun k _ x hT=>hT.le h1) (h5 hΨ hZ h4 H a' w' (hψ.mono h1) h2 h3)⟩) h1)
theorem ae.yG {brk:List Nat} {k:Nat} {cs:List MV} {X:Obj} {fuel:Nat} {listed:Array Bool} (hb:((List.range listed.size).all fun j=>listed.getD j true||brk.contains j)=true) (h:cG P n D ops fuel listed e (O.set k (.cells cs)) Q):ae P n D ops brk (fun O'=>O'.hp k=some (.obj X)) (lp cs X) True fuel listed e O Q:=by
 intro hΨ hZ hJ G a w hψ hw aV;refine nQ _ _ _ _ (fun j hj x hs=>⟨hs,fun hh=>?_⟩) (h G a w (hw.yG hJ hψ) aV);rcases anj j listed.size with hl | hl
 ·have:=ajv.1 hb j (anx.2 hl);rw[hj,anB]at this;rw[this]at hh;cases hh
 ·rw[ank,anb (by simpa using hl)]at hj;cases hj
theorem ae.nR (ix:List (Nat×Fl)) {brk:List Nat} {k:Nat} {cs:List MV} {X:Obj} {fuel:Nat} {listed:Array Bool} {l:List Oper} {L:List (Fl×Oper)}
  (h:WL P tab n D .any ⟨l⟩ Q L e (O.set k (.cells cs))) (ht:aP P tab:=by exact aa) (hb:((List.range listed.size).all fun j=>listed.getD j true||brk.contains j)=true:=by kernel_rfl) (hs:Region.noSelect ⟨l⟩=true:=by kernel_rfl) (hp:cZ .any ⟨l⟩ fuel listed ix=true:=by kernel_rfl) (hL:oC l ix=some L:=by exact rfl):ae P n D ⟨l⟩ brk (fun O'=>O'.hp k=some (.obj X)) (lp cs X) True fuel listed e O Q:=ae.yG hb (cG.bQ ix h (ht:=ht) (hs:=hs) (hp:=hp) (hL:=hL))
end
def Wk (m m':MV):Prop:=∀G u,VR G m u->VR G m' u
def fl (a b:List MV):Prop:=a.length=b.length/\∀(i:Nat) (c d:MV),a[i]?=some c->b[i]?=some d->Wk c d
theorem Wk.refl (m:MV):Wk m m:=fun _ _ h=>h
theorem Wk.trans {a b c:MV} (h:Wk a b) (k:Wk b c):Wk a c:=fun G u x=>k G u (h G u x)
theorem fl.refl (a:List MV):fl a a:=⟨rfl,fun i c d h k=>by rw[h]at k;injection k with k;subst k;exact Wk.refl _⟩
theorem fl.cons {a b:List MV} {x y:MV} (h:Wk x y) (k:fl a b):fl (x::a) (y::b):=by
 refine⟨by rw[ah0,ah0,k.1],fun i c d e f=>?_⟩;cases i with
 | zero=>simp only[aeb,Option.some.injEq]at e f;subst e;subst f;exact h
 | succ i=>simp only[aed]at e f;exact k.2 i c d e f
theorem fl.get {a b:List MV} (k:fl a b) {i:Nat} {d:MV} (h:b[i]?=some d):∃c,a[i]?=some c/\Wk c d:=by
 have hi:i<a.length:=by rw[k.1];exact(agu.1 h).1
 exact⟨a[i],Ml hi,k.2 i _ _ (Ml hi) h⟩
theorem fl.use {G:Gh} {a b:List MV} (k:fl a b) {us:List Value} (h:∀(i:Nat) (c:MV) (u:Value),a[i]?=some c->us[i]?=some u->VR G c u):∀(i:Nat) (c:MV) (u:Value),b[i]?=some c->us[i]?=some u->VR G c u:=fun i d u h1 h2=>by
 obtain⟨c,h3,h4⟩:=k.get h1;exact h4 G u (h i c u h3 h2)
theorem fl.vrs {G:Gh} {a b:List MV} (k:fl a b) {us:List Value} (h:aS G a us):aS G b us:=⟨h.1.trans k.1,k.use h.2⟩
theorem Wk.agg {a b:List MV} (k:fl a b):Wk (.agg a) (.agg b):=fun G u h=>by
 cases h with
 | agg h1 h2=>exact .agg (h1.trans k.1) (k.use h2)
theorem Wk.tuple {a b:List MV} (k:fl a b):Wk (.tuple a) (.tuple b):=fun G u h=>by
 cases h with
 | tuple h1 h2=>exact .tuple (h1.trans k.1) (k.use h2)
theorem Wk.iface {t:TypeId} {a b:MV} (k:Wk a b):Wk (.iface t a) (.iface t b):=fun G u h=>by
 cases h with
 | iface h1=>exact .iface (k G _ h1)
theorem fl.eq_nil {b:List MV} (k:fl [] b):b=[]:=Mn k.1.symm
theorem Wk.sl {n:Nat} {a b:List MV} {t:Tok} (k:fl a b):Wk (.sl n a t) (.sl n b t):=fun G u h=>by
 cases h with
 | slnil=>rw[k.eq_nil];exact .slnil
 | px h1=>rw[k.eq_nil];exact .px h1
 | kQ=>rw[k.eq_nil];exact .kQ
 | sl h1 h2 h3 h4 h5 h6=>exact .sl (h1.trans k.1) h2 (k.use h3) h4 h5 (k.1▸h6)
theorem Wk.tok {n:Nat} {a:List MV} {t:Tok}:Wk (.sl n a t) (.sl n a .ar):=fun G u h=>by
 cases h with
 | slnil=>exact .kQ
 | px h1=>exact .px h1
 | kQ=>exact .kQ
 | sl h1 h2 h3 h4 h5 h6=>exact .sl h1 h2 h3 h4 h5 trivial
mutual
def ar:MV->MV
 | .sl n cs _=>.sl n (c8 cs) .ar
 | .agg cs=>.agg (c8 cs)
 | .tuple cs=>.tuple (c8 cs)
 | .iface t x=>.iface t (ar x)
 | .v x=>.v x
 | .str l=>.str l
 | .ptr b o=>.ptr b o
 | .dG cs o=>.dG cs o
 | .bz b o n c=>.bz b o n c
 | .map b=>.map b
 | .func f a b=>.func f a b
def c8:List MV->List MV
 | []=>[]
 | c::cs=>ar c::c8 cs
end
mutual
theorem AP:∀m,Wk m (ar m)
 | .sl n cs t=>by rw[ar];exact(Wk.sl (qz cs)).trans Wk.tok
 | .agg cs=>by rw[ar];exact Wk.agg (qz cs)
 | .tuple cs=>by rw[ar];exact Wk.tuple (qz cs)
 | .iface t x=>by rw[ar];exact Wk.iface (AP x)
 | .v x=>by rw[ar];exact Wk.refl _
 | .str l=>by rw[ar];exact Wk.refl _
 | .ptr b o=>by rw[ar];exact Wk.refl _
 | .dG cs o=>by rw[ar];exact Wk.refl _
 | .bz b o n c=>by rw[ar];exact Wk.refl _
 | .map b=>by rw[ar];exact Wk.refl _
 | .func f a b=>by rw[ar];exact Wk.refl _
theorem qz:∀cs,fl cs (c8 cs)
 | []=>by rw[c8];exact fl.refl _
 | c::cs=>by rw[c8];exact fl.cons (AP c) (qz cs)
end
theorem nS (a b:List MV):c8 (a++b)=c8 a++c8 b:=by
 induction a with
 | nil=>rw[c8,ans,ans]
 | cons x a ih=>rw[ang,c8,c8,ih,ang]
theorem j9 {α :Type} {f: α ->List MV} (h:∀x,c8 (f x)=f x) (L:List α):c8 (L.flatMap f)=L.flatMap f:=by
 induction L with
 | nil=>rw[List.flatMap_nil,c8]
 | cons x L ih=>rw[List.flatMap_cons,nS,h,ih]
theorem Xl (L:List (List UInt8)):c8 (L.map .str)=L.map .str:=by
 induction L with
 | nil=>rw[ani,c8]
 | cons x L ih=>rw[aec,c8,ar,ih]
def pU:MV->MV
 | .sl n cs t=>.sl n (c8 cs) t
 | m=>ar m
theorem NI (m:MV):Wk m (pU m):=by
 cases m with
 | sl n cs t=>exact Wk.sl (qz cs)
 | _=>exact AP _
def FG:List MV->List MV
 | []=>[]
 | c::cs=>pU c::FG cs
theorem NJ:∀cs,fl cs (FG cs)
 | []=>fl.refl _
 | c::cs=>fl.cons (NI c) (NJ cs)
def uT:MV->MV
 | .sl n cs t=>.sl n (c8 cs) t
 | .tuple cs=>.tuple (FG cs)
 | m=>ar m
theorem abc (m:MV):Wk m (uT m):=by
 cases m with
 | sl n cs t=>exact Wk.sl (qz cs)
 | tuple cs=>exact Wk.tuple (NJ cs)
 | _=>exact AP _
section
variable {P:Program} {f:FuncId} {as_ bs:List MV} {O:VH}
theorem VF.fgR {R:gB->VH->Prop} (h:VF P f as_ O fun r O'=>match r with
  | .ret m=>R (.ret (uT m)) O'
  | .panic m=>R (.panic (ar m)) O'):VF P f as_ O R:=fun G w vs hw hv=>by
 refine(h G w vs hw hv).mono ?_;rintro x w' ⟨r,O',H,h1,h2,h3,h4⟩;cases r with
 | ret m=>cases x with
   | returned v=>exact⟨.ret _,O',H,h1,h2,abc m H v h3,h4⟩
   | _=>exact h3.elim
 | panic m=>cases x with
   | panicked c=>obtain⟨u,h5,h6⟩:=h3;exact⟨.panic _,O',H,h1,h2,⟨u,h5,AP m H u h6⟩,h4⟩
   | _=>exact h3.elim
theorem VF.fg {Φ :MV->VH->Prop} (h:VF P f as_ O (aE fun m O'=> Φ (uT m) O')):VF P f as_ O (aE Φ):=VF.fgR (VF.mono (fun r O' hr=>by cases r with
 | ret m=>exact hr
 | panic m=>exact hr.elim) h)
variable {n:Sz} {md:Md} {Q:VQ} {e:Env} {K:Env->VH->Prop}
end
section
variable {P:Program} {tab:cg} {n:Sz} {D:List Deferred} {md:Md} {ops:Array Oper} {Q:VQ} {e e':Env} {O O':VH} {m m':MV}
def EW (e e':Env):Prop:=∀t x',look e' t=some x'->∃x,look e t=some x/\Wk x x'
theorem EW.refl (e:Env):EW e e:=fun t x h=>⟨x,h,Wk.refl _⟩
theorem EW.top {k:Nat} (h:Wk m m'):EW ((k,m)::e) ((k,m')::e):=fun t x hx=>by
 rw[look]at hx ⊢;cases ht:t==k
 ·rw[ht]at hx;exact⟨x,hx,Wk.refl _⟩
 ·rw[ht]at hx;injection hx with hx;subst hx;exact⟨m,rfl,h⟩
theorem EW.aZ {d:Option Tmp} (h:Wk m m'):EW (aZ d m e) (aZ d m' e):=by
 cases d with
 | none=>exact EW.refl _
 | some k=>exact EW.top h
theorem FR.wk {G:Gh} {a:Act} (h:FR G n D e a) (hl:EW e e'):FR G n D e' a:=⟨h.defers,h.size,fun t x hx=>by
 obtain⟨y,h1,h2⟩:=hl t x hx;obtain⟨u,h3,h4⟩:=h.get t y h1;exact⟨u,h3,h2 G u h4⟩⟩
theorem VL.wk {L:List (Fl×Oper)} (hl:EW e e') (h:VL P n D md ops L e' O Q):VL P n D md ops L e O Q:=fun fuel listed ix h1 h2=>by
 have:=h fuel listed ix h1 h2;cases md<;>exact fun G a w hw hf=>this G a w hw (hf.wk hl)
theorem Ξ {c d:Code} {σ :Type} (l:List Nat) (ms: σ ->List MV) (I: σ ->VH->Prop) (h1:VC P n D c e O (aB l ms I Q)) (h2:∀s O,I s O->VC P n D d (jE l (ms s) []) O Q):VC P n D (.seq c d) e O Q:=by
 refine VC.seq (VC.mono ?_ h1);intro x e O h;cases x with
 | normal=>
   obtain⟨s,h3,h4⟩:=h;exact VC.env (h2 s O h4) (iX (e0:=[]) (fun t x h=>by simp[look]at h) h3)
 | _=>exact h
theorem δ {d:Option Tmp} {x y:Operand} {t ty:TypeId} {ps:String} {af:Array Edge} {g:Option (Nat×Bool)} {L:List (Fl×Oper)} {p q:MV} (hv:iA tab O t p q=some (m,O')) (hw:pU m=m') (h:WL P tab n D md ops Q L (aZ d m' e) O') (ht:aP P tab:=by exact aa) (hx:ev e x=some p:=by exact rfl) (hy:ev e y=some q:=by exact rfl) (hg:aO ops (.mk d (.call {callee:=.builtin .append,args:= #[x,y],argTypes:= #[t,t]}) ty ps af g) e=some true:=by exact rfl) (hd:bD n d=true:=by exact rfl):
  VL P n D md ops ((.one,.mk d (.call {callee:=.builtin .append,args:= #[x,y],argTypes:= #[t,t]}) ty ps af g)::L) e O Q:=
 VL.step ht hg (by rw[xE,dq,hx,hy];exact hv) hd (VL.wk (EW.aZ (hw▸NI m)) (WL.sound ht h))
end
section
variable {n:Nat} {cs as_ bs:List MV} {t:Tok} {ty:TypeId} {x:MV} {l:List UInt8} {b o:Nat} {v:Value} {f:Fn} {c:MV}
theorem abd:uT (.sl n cs t)= .sl n (c8 cs) t:=rfl
theorem NK:uT (.tuple cs)= .tuple (FG cs):=rfl
theorem Xm:uT (.agg cs)= .agg (c8 cs):=by show ar (.agg cs)=_;rw[ar]
theorem afk:uT (.v v)= .v v:=by show ar (.v v)=_;rw[ar]
theorem Xn:uT (.str l)= .str l:=by show ar (.str l)=_;rw[ar]
theorem Xo:uT (.ptr b o)= .ptr b o:=by show ar (.ptr b o)=_;rw[ar]
theorem Xp {i j:Nat}:uT (.bz b o i j)= .bz b o i j:=by show ar (.bz b o i j)=_;rw[ar]
theorem Xq:uT (.map b)= .map b:=by show ar (.map b)=_;rw[ar]
theorem RA:uT (.func f as_ bs)= .func f as_ bs:=by show ar (.func f as_ bs)=_;rw[ar]
theorem qA:pU (.sl n cs t)= .sl n (c8 cs) t:=rfl
theorem NL:pU (.tuple cs)= .tuple (c8 cs):=by show ar (.tuple cs)=_;rw[ar]
theorem Xr:pU (.agg cs)= .agg (c8 cs):=by show ar (.agg cs)=_;rw[ar]
theorem afl:pU (.v v)= .v v:=by show ar (.v v)=_;rw[ar]
theorem Xs:pU (.str l)= .str l:=by show ar (.str l)=_;rw[ar]
theorem Xt:pU (.ptr b o)= .ptr b o:=by show ar (.ptr b o)=_;rw[ar]
theorem RB:pU (.dG cs o)= .dG cs o:=by show ar (.dG cs o)=_;rw[ar]
theorem Xu {i j:Nat}:pU (.bz b o i j)= .bz b o i j:=by show ar (.bz b o i j)=_;rw[ar]
theorem Xv:pU (.map b)= .map b:=by show ar (.map b)=_;rw[ar]
theorem RD:pU (.func f as_ bs)= .func f as_ bs:=by show ar (.func f as_ bs)=_;rw[ar]
theorem NM:pU (.iface ty x)= .iface ty (ar x):=by show ar (.iface ty x)=_;rw[ar]
theorem Xw:FG []=[]:=rfl
theorem RE:FG (c::cs)=pU c::FG cs:=rfl
theorem afm:ar (.sl n cs t)= .sl n (c8 cs) .ar:=by rw[ar]
theorem abe:ar (.agg cs)= .agg (c8 cs):=by rw[ar]
theorem aiv:ar (.v v)= .v v:=by rw[ar]
theorem abf:ar (.str l)= .str l:=by rw[ar]
theorem abg:ar (.ptr b o)= .ptr b o:=by rw[ar]
theorem abh {i j:Nat}:ar (.bz b o i j)= .bz b o i j:=by rw[ar]
theorem abi:ar (.map b)= .map b:=by rw[ar]
theorem RF:ar (.iface ty x)= .iface ty (ar x):=by rw[ar]
theorem I3:c8 []=[]:=by rw[c8]
theorem RG:c8 (c::cs)=ar c::c8 cs:=by rw[c8]
end
set_option linter.defProp false in
def wu:=zW @abd<|zW @NK<|zW @Xm<|zW @afk<|zW @Xn<|zW @Xo<|zW @Xp<|zW @Xq<|zW @RA<|zW @qA<|zW @NL<|zW @Xr<|zW @afl<|zW @Xs<|zW @Xt<|zW @RB<|zW @Xu<|zW @Xv<|zW @RD<|zW @NM<|zW @Xw<|zW @RE<|zW @afm<|zW @abe<|zW @aiv<|zW @abf<|zW @abg<|zW @abh<|zW @abi<|zW @RF<|zW @I3<|zW @RG<|zW @nS @Xl
open Go.MapKept (run_setObj_map)
section
variable {G H:Gh} {n:Sz} {D:List Deferred} {e:Env} {a:Act} {P:Program} {tab:cg} {O O':VH} {w:World} {m m':MV} {u v:Value} {ops:Array Oper} {Q:VQ} {md:Md}
theorem KH {t:TypeId} {x:MV} {cs:List MV} {ok:Bool}:ig tab O t x (.agg cs) ok=none:=by
 unfold ig;split
 ·split
  ·rename_i kd te h1 h2;have:yy kd (.agg cs)=false:=by cases kd<;>rfl
   rw[this]
  ·rfl
 ·rfl
theorem DT {t:TypeId} {x y:MV} {cs:List MV}:eB tab O t x (.agg cs) y=none:=by
 unfold eB;split
 ·split
  ·rename_i kd es ck h1 h2;have:yy kd (.agg cs)=false:=by cases kd<;>rfl
   rw[this]
  ·rfl
 ·rfl
def fT (l:List (List UInt8)):Value:=.agg (l.map fun s=>Value.string ⟨⟨s⟩⟩).toArray
structure uU (P:Program) (kt:TypeId) (N:Nat):Prop where
 law:WideMaps.KeyLaw P kt
 of:∀l:List (List UInt8),l.length=N->(∀s∈l,s.length<=maxLen)->∃lit,keyOf P kt (fT l)=some lit
theorem I4:∀{l:List (List UInt8)} {us:List Value},aS G (l.map .str) us->us=l.map fun s=>Value.string ⟨⟨s⟩⟩
 | [],us,h=>Mn h.1
 | s::l,[],h=>by have:=h.1;simp at this
 | s::l,x::us,h=>by
   have h1:VR G (.str s) x:=h.2 0 _ _ rfl rfl;cases h1;rw[aec,I4 (l:=l) (us:=us) ⟨by have:=h.1;simpa using this,fun i c u a b=>h.2 (i+1) c u (by simpa using a) (by simpa using b)⟩]
theorem AQ {l:List (List UInt8)} (h:VR G (.agg (l.map .str)) v):v=fT l:=by
 cases h with
 | agg h1 h2=>rw[I4 ⟨h1,h2⟩];rfl
theorem RH {l m:List (List UInt8)} (h:fT l=fT m):l=m:=by
 unfold fT at h;injection h with h;have h:=congrArg Array.toList h;simp only at h
 have:∀{l m:List (List UInt8)},l.map (fun s=>Value.string ⟨⟨s⟩⟩)=m.map (fun s=>Value.string ⟨⟨s⟩⟩)->l=m:=by
  intro l;induction l with
  | nil=>intro m h;cases m with
    | nil=>rfl
    | cons y m=>simp at h
  | cons x l ih=>intro m h;cases m with
    | nil=>simp at h
    | cons y m=>
      simp only[aec,List.cons.injEq,Value.string.injEq,ByteArray.mk.injEq,Array.mk.injEq]at h;rw[h.1,ih h.2]
 exact this h
abbrev fI:=List (List (List UInt8)×MV×Nat)
def cS (M:fI):vE:=M.map fun p=>(.agg (p.1.map .str),p.2.1,p.2.2)
def iD (l:List (List UInt8)) (M:fI):Option MV:=(M.find? (·.1==l)).map (·.2.1)
def i_ (l:List (List UInt8)) (y:MV) (ck:Nat) (M:fI):fI:=if M.any (·.1==l)then M.map (fun p=>if p.1=l then(l,y,p.2.2)else p)else M++[(l,y,ck)]
def KI (l:List (List UInt8)) (ck:Nat) (M:fI):Nat:=if M.any (·.1==l)then ck else ck+1
structure nT (N:Nat) (M:fI):Prop where
 len:∀p∈M,p.1.length=N/\∀s∈p.1,s.length<=maxLen
 one:(M.map (·.1)).Nodup
theorem KJ {M:fI} (h:(M.map (·.1)).Nodup) {j:Nat} {p:List (List UInt8)×MV×Nat} (hp:M[j]?=some p):iD p.1 M=some p.2.1:=by
 unfold iD;induction M generalizing j with
 | nil=>simp at hp
 | cons x M ih=>
   simp only[aec,List.nodup_cons]at h;cases j with
   | zero=>simp only[aeb,Option.some.injEq]at hp;subst hp;simp
   | succ j=>
     simp only[aed]at hp;have hm:p.1∈M.map (·.1):=ajB (ahV hp)
     have hne:(x.1==p.1)=false:=by
      rw[beq_eq_false_iff_ne];intro e;exact h.1 (e▸hm)
     rw[List.find?_cons,hne];exact ih h.2 hp
theorem xH {M:fI} {l:List (List UInt8)} (h:∀p∈M,p.1≠l):iD l M=none:=by
 unfold iD;rw[List.find?_eq_none.2 (fun p hp=>by simpa using h p hp)];rfl
theorem ie.keys {M:fI} {E:List MapEntry} (h:ie G (cS M) E):E.length=M.length/\∀(j:Nat) (p:List (List UInt8)×MV×Nat) (x:MapEntry),M[j]?=some p->E[j]?=some x->x.key=fT p.1/\VR G p.2.1 x.val/\x.born=p.2.2:=by
 have hl:E.length=M.length:=by have:=h.key.1;simpa[cS]using this
 refine⟨hl,fun j p x hp hx=>⟨?_,?_,?_⟩⟩
 ·exact AQ (h.key.2 j _ _ (by simp[cS,hp]) (by simp[hx]))
 ·exact h.val.2 j _ _ (by simp[cS,hp]) (by simp[hx])
 ·have:=congrArg (fun l=>l[j]?) h.born;simpa[cS,hp,hx]using this
theorem AR {kt:TypeId} {N:Nat} (K:uU P kt N) {M:fI} {E:List MapEntry} {l:List (List UInt8)} (hM:nT N M) (hE:ie G (cS M) E) (hl:l.length=N) (hs:∀s∈l,s.length<=maxLen) (w:World):
  ((Instr.findKey kt (fT l) E).run P w= .ok none w/\∀p∈M,p.1≠l)\/∃(j:Nat) (p:List (List UInt8)×MV×Nat) (x:MapEntry),(Instr.findKey kt (fT l) E).run P w= .ok (some (j,x.val)) w/\M[j]?=some p/\p.1=l/\E[j]?=some x/\VR G p.2.1 x.val:=by
 obtain⟨lit,yH⟩:=K.of l hl hs;obtain⟨h1,h2⟩:=hE.keys
 have kR:∀x∈E,∃q,keyOf P kt x.key=some q:=fun x hx=>by
  obtain⟨j,hj,rfl⟩:=anh.1 hx;have Xx:j<M.length:=by omega
  have:=(h2 j _ _ (Ml Xx) (Ml hj)).1;rw[this];exact K.of _ (hM.len _ (ajw Xx)).1 (hM.len _ (ajw Xx)).2
 rcases K.law.find w yH E kR with⟨g1,g2⟩ | ⟨j,x,g1,g2,g3⟩
 ·refine .inl ⟨g1,fun p hp e=>?_⟩;obtain⟨j,hj,rfl⟩:=anh.1 hp;have hjE:j<E.length:=by omega
  have:=(h2 j _ _ (Ml hj) (Ml hjE)).1;exact g2 _ (ajw hjE) (by rw[this,e])
 ·have hjE:=(agu.1 g2).1;have Xx:j<M.length:=by omega
  have h3:=h2 j _ _ (Ml Xx) g2;exact .inr ⟨j,M[j],x,g1,Ml Xx,RH (h3.1.symm.trans g3),g2,h3.2.1⟩
theorem ie.ajS {M:fI} {E:List MapEntry} {l:List (List UInt8)} {y:MV} {yv:Value} (hM:(M.map (·.1)).Nodup) (hE:ie G (cS M) E) (hy:VR G y yv) {j:Nat} {p:List (List UInt8)×MV×Nat} (hp:M[j]?=some p) (dI:p.1=l) (hk:VR G (.agg (l.map .str)) (fT l)):
  ie G (cS (M.map fun p=>if p.1=l then(l,y,p.2.2)else p)) (E.modify j fun x=>{x with key:=fT l,val:=yv}):=by
 have e:cS (M.map fun p=>if p.1=l then(l,y,p.2.2)else p)=setAt (cS M) j (.agg (l.map .str)) y:=by
  clear hE hy hk;unfold cS setAt;induction M generalizing j with
  | nil=>simp at hp
  | cons x M ih=>
    simp only[aec,List.nodup_cons]at hM;cases j with
    | zero=>
      simp only[aeb,Option.some.injEq]at hp;subst hp
      have ec:M.map (fun p=>if p.1=l then(l,y,p.2.2)else p)=M:=by
       have:∀q∈M,(if q.1=l then(l,y,q.2.2)else q)=q:=fun q hq=>if_neg fun e=>hM.1 (by rw[dI, <-e];exact ajB hq)
       calc M.map (fun p=>if p.1=l then(l,y,p.2.2)else p)=M.map id:=List.map_congr_left this
        _=M:=by simp
      simp only[aec,List.modify_zero_cons,if_pos dI];rw[ec]
    | succ j=>
      simp only[aed]at hp;have hne:¬x.1=l:=fun e=>hM.1 (by rw[e, <-dI];exact ajB (ahV hp))
      simp only[aec,List.modify_succ_cons,if_neg hne];rw[ih hM.2 hp]
 rw[e];exact ie.modify hk hy j hE
theorem abj (l:List (List UInt8)):VR G (.agg (l.map .str)) (fT l):=by
 unfold fT;refine .agg (by simp) fun i c u h1 h2=>?_
 simp only[ajA,anp]at h1 h2;obtain⟨s,h3,rfl⟩:=h1;obtain⟨t,h4,rfl⟩:=h2;rw[h3]at h4;injection h4 with h4;subst h4
 exact .str
def fJ (P:Program) (n:Sz) (D:List Deferred) (o:Oper) (e:Env) (O:VH) (m:MV):Prop:=∀G a w,WR G O w->FR G n D e a->∃u,VR G m u/\∀x,Sx G w x->(execOp a.eval o).run P x= .ok (.value u) x
theorem aN.hold {i:Nat} {o:Oper} {K:Env->VH->Prop} (ho:ops[i]?=some o) (hg:aO ops o e=some true) (hd:bD n o.dst=true) (hy:fJ P n D o e O m) (h:K (aZ o.dst m e) O):aN P n D ops i e O Q K:=by
 refine aN.jG (M:=fun m' O'=>m'=m/\O'=O) ho hg hd (fun G a w hw hf=>?_) (by rintro m' O' ⟨rfl,rfl⟩;exact h);obtain⟨u,hu,hr⟩:=hy G a w hw hf;exact⟨m,O,u,w,G,⟨rfl,rfl⟩,hr w hw.sx,Gh.Le.refl G,hw,hu⟩
theorem VL.hold {f:Fl} {o:Oper} {L:List (Fl×Oper)} (hh:(f= .one/\(md= .plain\/md= .any))\/f= .rd) (hg:aO ops o e=some true) (hd:bD n o.dst=true) (hy:fJ P n D o e O m) (h:VL P n D md ops L (aZ o.dst m e) O Q):VL P n D md ops ((f,o)::L) e O Q:=by
 intro fuel listed ix hf hp
 match ix,hf with
 | (i,g)::ix,hf=>
   obtain⟨rfl,ho,hf⟩:=hf;cases md with
   | plain=>exact iT.one (aN.hold ho hg hd hy (h 0 #[] ix hf (fun h=>absurd rfl h)))
   | any=>
     obtain⟨h1,h2⟩:=hp (by simp);cases fuel with
     | zero=>cases h2
     | succ fuel=>
       simp only[cZ,Mm]at h2;have hk:=h fuel (listed.setIfInBounds i true) ix hf (fun _=>⟨h1,h2.2⟩);rcases hh with⟨rfl,_⟩ | rfl
       ·have hr:Region.ready .any ops listed=[i]:=by simpa using h2.1
        exact cG.all hr (by simp) fun j hj=>by
         obtain rfl:j=i:=by simpa using hj
         exact aN.hold ho hg hd hy hk
       ·exact absurd h2.1 (by simp)
   | reads=>
     obtain⟨h1,h2⟩:=hp (by simp);cases fuel with
     | zero=>cases h2
     | succ fuel=>
       simp only[cZ,Mm]at h2;have hk:=h fuel (listed.setIfInBounds i true) ix hf (fun _=>⟨h1,h2.2⟩);rcases hh with⟨_,h3 | h3⟩ | rfl
       ·cases h3
       ·cases h3
       intro G a w hw aV;obtain⟨u,hu,cD⟩:=hy G a w hw aV;have h3:Region.free .any ops listed i=true/\(Region.ready .any ops listed).contains i=true:=by simp_all
       exact wpAnyH_take ho h1 h3.1 h3.2 (iC hd) (.inl ⟨bC aV hg,fun w' EC=>by rw[EC];exact cD w hw.sx⟩) rfl (hk G _ w hw (aV.aZ hd hu))
   | held brk=>
     obtain⟨h1,h2⟩:=hp (by simp);cases fuel with
     | zero=>cases h2
     | succ fuel=>
       simp only[cZ,Mm]at h2;have hk:=h fuel (listed.setIfInBounds i true) ix hf (fun _=>⟨h1,h2.2⟩);rcases hh with⟨_,h3 | h3⟩ | rfl
       ·cases h3
       ·cases h3
       simp only[Mm]at h2
       exact bP.take ho h1 h2.1.1.1 h2.1.1.2 h2.1.2 hd (fun G a w hw aV=>by
        obtain⟨u,hu,cD⟩:=hy G a w hw aV;exact⟨u,hu,.inl ⟨bC aV hg,fun x hx=>cD x hx⟩⟩) hk
def zF (ok:Bool) (z:MV):Option MV->MV
 | some m=>if ok then .tuple [m,.v (.bool true)]else m
 | none=>if ok then .tuple [z,.v (.bool false)]else z
theorem Ut {z m:MV}:zF false z (some m)=m:=rfl
theorem afn {z m:MV}:zF true z (some m)= .tuple [m,.v (.bool true)]:=rfl
theorem afo {z:MV}:zF false z none=z:=rfl
theorem KK {z:MV}:zF true z none= .tuple [z,.v (.bool false)]:=rfl
theorem fJ.kI {kt et:TypeId} {N:Nat} (K:uU P kt N) (ht:aP P tab) {d:Option Tmp} {t ty:TypeId} {x y:Operand} {ok:Bool} {ps:String} {af:Array Edge} {g:Option (Nat×Bool)} {b ck:Nat} {M:fI} {l:List (List UInt8)} {te:cM} {z:MV} (hU:P.underlying t=some (.map kt et)) (oo:tab et=some te) (hz:xA te=some z)
  (hx:ev e x=some (.map b)) (hb:O.hp b=some (.map (cS M) ck)) (hM:nT N M) (hy:ev e y=some (.agg (l.map .str))) (hl:l.length=N) (hs:∀s∈l,s.length<=maxLen):fJ P n D (.mk d (.lookup t x y ok) ty ps af g) e O (zF ok z (iD l M)):=by
 intro G a w hw hf;have h1:=hf.ev hx;have h2:=hf.ev hy;generalize pH:a.eval x=u at h1;generalize zE:a.eval y=v at h2;have hv:=AQ h2;subst hv;cases h1 with
 | map eS=>
   rename_i b';obtain⟨b2,E,e1,e2,e3,e4,e5⟩:=hw.map _ _ _ hb;rw[eS]at e1;injection e1 with e1;subst e1
   have hE:ie G (cS M) E.toList:=⟨e3,e4,e5⟩;obtain⟨lit,yH⟩:=K.of l hl hs;obtain⟨zv,z1,z2⟩:=zy (ht et te oo) hz;have agD:∀y,Sx G w y->y.heap[b']?=some (.map E ck):=fun y hy=>(hy.2 _ _ eS).trans e2
   by_cases hin:∃p∈M,p.1=l
   ·have h3:=AR K hM hE hl hs w;rcases h3 with⟨_,g2⟩ | ⟨j,p,q,_,g2,g3,g4,g5⟩
    ·obtain⟨p,hp,e⟩:=hin;exact absurd e (g2 p hp)
    have eC:iD l M=some p.2.1:=by rw[<-g3];exact KJ hM.one g2
    rw[eC];refine⟨if ok then .tuple #[q.val,.bool true]else q.val,?_,fun yw hyw=>?_⟩
    ·cases ok
     ·exact g5
     ·exact VR.tuple (us:=[q.val,.bool true]) rfl (aS.cons g5 (aS.cons (.v rfl) aS.nil)).2
    ·have hr:(Instr.findKey kt (fT l) E.toList).run P yw= .ok (some (j,q.val)) yw:=by
      rcases AR K hM hE hl hs yw with⟨_,g6⟩ | ⟨j',p',q',g6,g7,g8,g9,_⟩
      ·exact absurd g3 (g6 p (ahV g2))
      ·have my:j'=j:=by
        have h5:(M.map (·.1))[j']?=some l:=by simp[g7,g8]
        have h6:(M.map (·.1))[j]?=some l:=by simp[g2,g3]
        exact(List.getElem?_inj (by simpa using(agu.1 g7).1) hM.one).1 (h5.trans h6.symm)
       subst my;rw[g4]at g9;injection g9 with g9;subst g9
       exact g6
     have FH:=K.law.check yw E.isEmpty yH;simp only[execOp,pH,zE,Instr.lookup,Sem.run_bind,run_underlying hU,Result.andThen_ok,MapKept.run_getObj_map (agD yw hyw),FH,hr,Sem.run_pure]
   ·have ec:∀p∈M,p.1≠l:=fun p hp e=>hin ⟨p,hp,e⟩
    rw[xH ec];refine⟨if ok then .tuple #[zv,.bool false]else zv,?_,fun yw hyw=>?_⟩
    ·cases ok
     ·exact z2 G
     ·exact VR.tuple (us:=[zv,.bool false]) rfl (aS.cons (z2 G) (aS.cons (.v rfl) aS.nil)).2
    ·have hr:(Instr.findKey kt (fT l) E.toList).run P yw= .ok none yw:=by
      rcases AR K hM hE hl hs yw with⟨g6,_⟩ | ⟨j',p',q',_,g7,g8,_⟩
      ·exact g6
      ·exact absurd g8 (ec p' (ahV g7))
     have FH:=K.law.check yw E.isEmpty yH;simp only[execOp,pH,zE,Instr.lookup,Sem.run_bind,run_underlying hU,Result.andThen_ok,MapKept.run_getObj_map (agD yw hyw),FH,hr,Sem.run_pure,z1]
def oE (P:Program) (n:Sz) (D:List Deferred) (o:Oper) (e:Env) (O O':VH):Prop:=∀G a w,WR G O w->FR G n D e a->∃w' H,(execOp a.eval o).run P w= .ok .skip w'/\Gh.Le G H/\WR H O' w'
theorem aN.oF {i:Nat} {o:Oper} {K:Env->VH->Prop} (ho:ops[i]?=some o) (hg:aO ops o e=some true) (hd:bD n o.dst=true) (hy:oE P n D o e O O') (h:K (aZ o.dst cV e) O'):aN P n D ops i e O Q K:=by
 intro G a w hw aV;obtain⟨w',H,hr,h1,h2⟩:=hy G a w hw aV;simp only[wpOp,ho,bC aV hg,if_true];refine .inl ?_;unfold Oper.wp;rw[hr];exact⟨_,_,H,h1,h2,(aV.mono h1).aZ hd lM,h⟩
theorem VL.oF {o:Oper} {L:List (Fl×Oper)} (hg:aO ops o e=some true) (hd:bD n o.dst=true) (hy:oE P n D o e O O')
  (qu:∀brk,md= .held brk->∀i,ops[i]?=some o->brk.contains i=true) (h:VL P n D md ops L (aZ o.dst cV e) O' Q):VL P n D md ops ((.one,o)::L) e O Q:=by
 intro fuel listed ix hf hp
 match ix,hf with
 | (i,g)::ix,hf=>
   obtain⟨rfl,ho,hf⟩:=hf;cases md with
   | plain=>exact iT.one (aN.oF ho hg hd hy (h 0 #[] ix hf (fun h=>absurd rfl h)))
   | any=>
     obtain⟨h1,h2⟩:=hp (by simp);cases fuel with
     | zero=>cases h2
     | succ fuel=>
       simp only[cZ,Mm]at h2;have hr:Region.ready .any ops listed=[i]:=by simpa using h2.1
       exact cG.all hr (by simp) fun j hj=>by
        obtain rfl:j=i:=by simpa using hj
        exact aN.oF ho hg hd hy (h fuel (listed.setIfInBounds j true) ix hf (fun _=>⟨h1,h2.2⟩))
   | reads=>
     obtain⟨h1,h2⟩:=hp (by simp);cases fuel with
     | zero=>cases h2
     | succ fuel=>
       simp only[cZ,Mm]at h2;exact absurd h2.1 (by simp)
   | held brk=>
     obtain⟨h1,h2⟩:=hp (by simp);cases fuel with
     | zero=>cases h2
     | succ fuel=>
       simp only[cZ,Mm]at h2;have hr:Region.ready .any ops listed=[i]:=by simpa using h2.1.1
       have yZ:∀j,(listed.setIfInBounds i true).getD j true=false\/j=i->brk.contains j=true:=by
        rcases sE ho h2.1.2 with⟨h3,_⟩ | h3
        ·rw[qu brk rfl i ho]at h3;cases h3
        ·exact h3
       exact bP.ZY hr yZ (aN.oF ho hg hd hy (h fuel (listed.setIfInBounds i true) ix hf (fun _=>⟨h1,h2.2⟩)))
theorem oE.i_ {kt et:TypeId} {N:Nat} (K:uU P kt N) {d:Option Tmp} {t ty:TypeId} {x y z:Operand} {ps:String} {af:Array Edge} {g:Option (Nat×Bool)} {b ck:Nat} {M:fI} {l:List (List UInt8)} (hU:P.underlying t=some (.map kt et))
  (hx:ev e x=some (.map b)) (hb:O.hp b=some (.map (cS M) ck)) (hM:nT N M) (hy:ev e y=some (.agg (l.map .str))) (hl:l.length=N) (hs:∀s∈l,s.length<=maxLen) (hz:ev e z=some m):oE P n D (.mk d (.mapUpdate t x y z) ty ps af g) e O (O.set b (.map (cS (i_ l m ck M)) (KI l ck M))):=by
 intro G a w hw hf;have h1:=hf.ev hx;have h2:=hf.ev hy;have h3:=hf.ev hz;generalize pH:a.eval x=u at h1;generalize zE:a.eval y=v at h2;generalize haz:a.eval z=r at h3;have hv:=AQ h2;subst hv;cases h1 with
 | map eS=>
   rename_i b';obtain⟨b2,E,e1,e2,e3,e4,e5⟩:=hw.map _ _ _ hb;rw[eS]at e1;injection e1 with e1;subst e1
   have hE:ie G (cS M) E.toList:=⟨e3,e4,e5⟩;obtain⟨lit,yH⟩:=K.of l hl hs;have FH:=K.law.check w false yH;rcases AR K hM hE hl hs w with⟨g1,g2⟩ | ⟨j,p,q,g1,g2,g3,g4,g5⟩
   ·have jX:M.any (·.1==l)=false:=by rw[List.any_eq_false];intro p hp;simpa using g2 p hp
    have hr:ie G (cS (M++[(l,m,ck)])) (E.push {key:=fT l,val:=r,born:=ck}).toList:=by
     rw[Array.toList_push];unfold cS;rw[ame];exact hE.append (ie.cons rfl h2 h3 ie.nil)
    refine⟨?wx,G,?rn,Gh.Le.refl G,?wr⟩
    case wr=>rw[Go.Proofs.YtjpadehgejlebaaGreatDoor.i_,KI,jX];exact hw.tR (ck':=ck+1) hb eS e2 hr
    case rn=>
     simp only[execOp,pH,zE,haz,Instr.mapUpdate,Sem.run_bind,run_underlying hU,Result.andThen_ok,MapKept.run_getObj_map e2,FH,g1,run_setObj_map _ e2];rfl
   ·have jX:M.any (·.1==l)=true:=List.any_eq_true.2 ⟨p,ahV g2,by simp[g3]⟩;have KL:q.key=fT l:=by have:=(hE.keys.2 j p q g2 g4).1;rw[this,g3]
    have cY:=K.law.stays w yH;have hr:=ie.ajS hM.one hE h3 g2 g3 (abj l);rw[<-Array.toList_modify]at hr
    have yd:((E[j]?).map (·.key)).getD (fT l)=fT l:=by
     have:E[j]?=some q:=by simpa using g4
     rw[this];exact KL
    refine⟨?wy,G,?rm,Gh.Le.refl G,?ws⟩
    case ws=>rw[Go.Proofs.YtjpadehgejlebaaGreatDoor.i_,KI,jX];exact hw.tR (ck':=ck) hb eS e2 hr
    case rm=>
     simp only[execOp,pH,zE,haz,Instr.mapUpdate,Sem.run_bind,run_underlying hU,Result.andThen_ok,MapKept.run_getObj_map e2,FH,g1,yd,cY,run_setObj_map _ e2];rfl
end
theorem qB {N:Nat} {M:fI} {l:List (List UInt8)} {y:MV} {ck:Nat} (h:nT N M) (hl:l.length=N) (hs:∀s∈l,s.length<=maxLen):nT N (i_ l y ck M):=by
 unfold i_;split
 ·have hk:(M.map (fun p=>if p.1=l then(l,y,p.2.2)else p)).map (·.1)=M.map (·.1):=by
   rw[List.map_map];refine List.map_congr_left fun p _=>?_
   show(if p.1=l then(l,y,p.2.2)else p).1=p.1;split
   ·rename_i e;exact e.symm
   ·rfl
  refine⟨fun p hp=>?_,by rw[hk];exact h.one⟩;have:p.1∈M.map (·.1):=by rw[<-hk];exact ajB hp
  obtain⟨q,hq,e⟩:=List.mem_map.1 this;rw[<-e];exact h.len q hq
 ·rename_i ec;have ec:∀p∈M,¬p.1=l:=fun p hp e=>ec (List.any_eq_true.2 ⟨p,hp,by simp[e]⟩)
  refine⟨fun p hp=>?_,?_⟩
  ·rcases List.mem_append.1 hp with hp | hp
   ·exact h.len p hp
   ·rw[List.mem_singleton.1 hp];exact⟨hl,hs⟩
  ·rw[ame,List.nodup_append];refine⟨h.one,by simp,fun x hx z hz e=>?_⟩;simp only[aec,ani,List.mem_singleton]at hz;obtain⟨q,hq,e2⟩:=List.mem_map.1 hx;exact ec q hq (by rw[e2,e,hz])
def Uu (P:Program):List Field->Nat->Bool
 | [],_=>true
 | f::r,i=>(match P.underlying f.type with | some .string=>true | _=>false)&&f.offset==i&&P.cellsOf f.type==1&&Uu P r (i+1)
def skB (P:Program) (kt:TypeId) (N:Nat):Bool:=match P.underlying kt with
 | some (.struct fs)=>P.keyType kt&&fs.all (·.name != "_")&&P.cellsOf kt==N&&fs.size==N&&Uu P fs.toList 0&&decide (kt<P.types.size)&&decide (P.types.size+2<=10000)
 | _=>false
theorem mapM_some {α β :Type} {g: α ->Option β}:∀{L:List α},(∀f∈L,∃y,g f=some y)->∃ys,L.mapM g=some ys
 | [],_=>⟨[],rfl⟩
 | f::L,h=>by
   obtain⟨y,hy⟩:=h f (by simp);obtain⟨ys,Rb⟩:=mapM_some (L:=L) fun x hx=>h x (List.mem_cons_of_mem _ hx)
   exact⟨y::ys,by rw[List.mapM_cons,hy];simp[Rb]⟩
theorem NN {P:Program}:∀{L:List Field} {i:Nat},Uu P L i=true->∀(j:Nat) (f:Field),L[j]?=some f->P.underlying f.type=some .string/\f.offset=i+j/\P.cellsOf f.type=1
 | [],_,_,j,f,h=>by simp at h
 | g::L,i,hB,j,f,h=>by
   simp only[Uu,Mm,beq_iff_eq]at hB;obtain⟨⟨⟨h1,h2⟩,h3⟩,h4⟩:=hB;cases j with
   | zero=>
     simp only[aeb,Option.some.injEq]at h;subst h;refine⟨?_,h2,h3⟩;split at h1
     ·assumption
     ·cases h1
   | succ j=>
     have:=NN h4 j f (by simpa using h);exact⟨this.1,by omega,this.2.2⟩
theorem uU.sI {P:Program} {kt:TypeId} {N:Nat} (hl:laidOutB P=true) (h:skB P kt N=true):uU P kt N:=by
 unfold skB at h;split at h
 ·rename_i fs hu;simp only[Mm,beq_iff_eq,decide_eq_true_eq]at h;obtain⟨⟨⟨⟨⟨⟨h1,h2⟩,h3⟩,h4⟩,h5⟩,h6⟩,h7⟩:=h;refine⟨deep_law_gate hl h7 h6 h1 (by rw[hu]),fun l hlen hs=>?_⟩
  have aiw:(fT l).formed P kt=true:=by
   unfold fT Value.formed;simp only[hu];simp[hlen,h3]
  have aix:∃ls,P.keyLits (P.types.size+1) kt (fT l).cells.toList=some ls:=by
   obtain⟨D,hD⟩:∃D,P.types.size=D+1:=⟨P.types.size - 1,by have:0<P.types.size:=Nat.lt_of_le_of_lt (anu kt) h6;omega⟩
   rw[hD];unfold Program.keyLits;have hc:(fT l).cells.toList=l.map fun s=>Value.string ⟨⟨s⟩⟩:=by simp[fT,Value.cells]
   rw[hc];simp only[hu];rw[if_pos ⟨by simp[hlen,h3],h2⟩]
   obtain⟨ys,Rb⟩:=mapM_some (L:=fs.toList) (g:=fun f=>P.keyLits (D+1) f.type (((l.map fun s=>Value.string ⟨⟨s⟩⟩).drop f.offset).take (P.cellsOf f.type))) fun f hf=>by
    obtain⟨j,hj,rfl⟩:=anh.1 hf;obtain⟨g1,g2,g3⟩:=NN h5 j _ (Ml hj);rw[ajx]at g2;have zG:j<l.length:=by rw[hlen, <-h4];simpa using hj
    have ajT:((l.map fun s=>Value.string ⟨⟨s⟩⟩).drop j).take 1=[Value.string ⟨⟨l[j]⟩⟩]:=by
     rw[List.drop_eq_getElem_cons (by simpa using zG)];simp
    rw[g2,g3,ajT];unfold Program.keyLits;simp only[g1];exact⟨_,if_pos (hs _ (ajw zG))⟩
   exact⟨ys.flatten,by rw[Rb];rfl⟩
  obtain⟨ls,Xy⟩:=aix;refine⟨.string (keyBytes ls),?_⟩;unfold keyOf;simp only[hu];rw[h1,aiw,Xy];rfl
 ·cases h
set_option linter.defProp false in
def zk:=zW wk<|zW wu<|zW @KH<|zW @DT<|zW @anq.{0,0}<|zW @Ut<|zW @afn<|zW @afo<|zW @KK<|zW @aa_<|zW @Option.isSome_some.{0}<|zW @ahY.{0}<|zW @uc @ak
section
variable {A1 A2 A3 A4 A5 A6 A7 A8 A9 P Q:Prop}
theorem KM (q:Q) (h:P=Q:=by conv=>lhs;simp(disch:=first | omega | (simp only[ds]<;>omega) | fail) only[zk,cV,Nat.reduceLT,Nat.reduceAdd,Nat.reduceMul,Nat.reduceSub,Nat.reduceBEq,Nat.reduceEqDiff,Int.reduceToNat,reduceIte]):P:=(h).mpr q
theorem ab (a1:A1) (q:Q) (h:A1->P=Q:=by intro a1;conv=>lhs;simp(disch:=first | omega | (simp only[ds]<;>omega) | fail) only[zk,cV,Nat.reduceLT,Nat.reduceAdd,Nat.reduceMul,Nat.reduceSub,Nat.reduceBEq,Nat.reduceEqDiff,Int.reduceToNat,reduceIte,a1]):P:=(h a1).mpr q
theorem fU (a1:A1) (h:A1->P:=by intro a1;simp(disch:=first | omega | (simp only[ds]<;>omega) | fail) only[zk,cV,Nat.reduceLT,Nat.reduceAdd,Nat.reduceMul,Nat.reduceSub,Nat.reduceBEq,Nat.reduceEqDiff,Int.reduceToNat,reduceIte,a1]):P:=h a1
theorem ao (a1:A1) (a2:A2) (q:Q) (h:A1->A2->P=Q:=by intro a1 a2;conv=>lhs;simp(disch:=first | omega | (simp only[ds]<;>omega) | fail) only[zk,cV,Nat.reduceLT,Nat.reduceAdd,Nat.reduceMul,Nat.reduceSub,Nat.reduceBEq,Nat.reduceEqDiff,Int.reduceToNat,reduceIte,a1,a2]):P:=(h a1 a2).mpr q
theorem dW (a1:A1) (a2:A2) (h:A1->A2->P:=by intro a1 a2;simp(disch:=first | omega | (simp only[ds]<;>omega) | fail) only[zk,cV,Nat.reduceLT,Nat.reduceAdd,Nat.reduceMul,Nat.reduceSub,Nat.reduceBEq,Nat.reduceEqDiff,Int.reduceToNat,reduceIte,a1,a2]):P:=h a1 a2
theorem aH (a1:A1) (a2:A2) (a3:A3) (q:Q) (h:A1->A2->A3->P=Q:=by intro a1 a2 a3;conv=>lhs;simp(disch:=first | omega | (simp only[ds]<;>omega) | fail) only[zk,cV,Nat.reduceLT,Nat.reduceAdd,Nat.reduceMul,Nat.reduceSub,Nat.reduceBEq,Nat.reduceEqDiff,Int.reduceToNat,reduceIte,a1,a2,a3]):P:=(h a1 a2 a3).mpr q
theorem kt3 (a1:A1) (a2:A2) (a3:A3) (h:A1->A2->A3->P:=by intro a1 a2 a3;simp(disch:=first | omega | (simp only[ds]<;>omega) | fail) only[zk,cV,Nat.reduceLT,Nat.reduceAdd,Nat.reduceMul,Nat.reduceSub,Nat.reduceBEq,Nat.reduceEqDiff,Int.reduceToNat,reduceIte,a1,a2,a3]):P:=h a1 a2 a3
theorem cJ (a1:A1) (a2:A2) (a3:A3) (a4:A4) (q:Q) (h:A1->A2->A3->A4->P=Q:=by intro a1 a2 a3 a4;conv=>lhs;simp(disch:=first | omega | (simp only[ds]<;>omega) | fail) only[zk,cV,Nat.reduceLT,Nat.reduceAdd,Nat.reduceMul,Nat.reduceSub,Nat.reduceBEq,Nat.reduceEqDiff,Int.reduceToNat,reduceIte,a1,a2,a3,a4]):P:=(h a1 a2 a3 a4).mpr q
theorem kt4 (a1:A1) (a2:A2) (a3:A3) (a4:A4) (h:A1->A2->A3->A4->P:=by intro a1 a2 a3 a4;simp(disch:=first | omega | (simp only[ds]<;>omega) | fail) only[zk,cV,Nat.reduceLT,Nat.reduceAdd,Nat.reduceMul,Nat.reduceSub,Nat.reduceBEq,Nat.reduceEqDiff,Int.reduceToNat,reduceIte,a1,a2,a3,a4]):P:=h a1 a2 a3 a4
theorem iw (a1:A1) (a2:A2) (a3:A3) (a4:A4) (a5:A5) (q:Q) (h:A1->A2->A3->A4->A5->P=Q:=by intro a1 a2 a3 a4 a5;conv=>lhs;simp(disch:=first | omega | (simp only[ds]<;>omega) | fail) only[zk,cV,Nat.reduceLT,Nat.reduceAdd,Nat.reduceMul,Nat.reduceSub,Nat.reduceBEq,Nat.reduceEqDiff,Int.reduceToNat,reduceIte,a1,a2,a3,a4,a5]):P:=(h a1 a2 a3 a4 a5).mpr q
theorem kt5 (a1:A1) (a2:A2) (a3:A3) (a4:A4) (a5:A5) (h:A1->A2->A3->A4->A5->P:=by intro a1 a2 a3 a4 a5;simp(disch:=first | omega | (simp only[ds]<;>omega) | fail) only[zk,cV,Nat.reduceLT,Nat.reduceAdd,Nat.reduceMul,Nat.reduceSub,Nat.reduceBEq,Nat.reduceEqDiff,Int.reduceToNat,reduceIte,a1,a2,a3,a4,a5]):P:=h a1 a2 a3 a4 a5
theorem FI (a1:A1) (a2:A2) (a3:A3) (a4:A4) (a5:A5) (a6:A6) (q:Q) (h:A1->A2->A3->A4->A5->A6->P=Q:=by intro a1 a2 a3 a4 a5 a6;conv=>lhs;simp(disch:=first | omega | (simp only[ds]<;>omega) | fail) only[zk,cV,Nat.reduceLT,Nat.reduceAdd,Nat.reduceMul,Nat.reduceSub,Nat.reduceBEq,Nat.reduceEqDiff,Int.reduceToNat,reduceIte,a1,a2,a3,a4,a5,a6]):P:=(h a1 a2 a3 a4 a5 a6).mpr q
theorem kt6 (a1:A1) (a2:A2) (a3:A3) (a4:A4) (a5:A5) (a6:A6) (h:A1->A2->A3->A4->A5->A6->P:=by intro a1 a2 a3 a4 a5 a6;simp(disch:=first | omega | (simp only[ds]<;>omega) | fail) only[zk,cV,Nat.reduceLT,Nat.reduceAdd,Nat.reduceMul,Nat.reduceSub,Nat.reduceBEq,Nat.reduceEqDiff,Int.reduceToNat,reduceIte,a1,a2,a3,a4,a5,a6]):P:=h a1 a2 a3 a4 a5 a6
theorem Xz (a1:A1) (a2:A2) (a3:A3) (a4:A4) (a5:A5) (a6:A6) (a7:A7) (q:Q) (h:A1->A2->A3->A4->A5->A6->A7->P=Q:=by intro a1 a2 a3 a4 a5 a6 a7;conv=>lhs;simp(disch:=first | omega | (simp only[ds]<;>omega) | fail) only[zk,cV,Nat.reduceLT,Nat.reduceAdd,Nat.reduceMul,Nat.reduceSub,Nat.reduceBEq,Nat.reduceEqDiff,Int.reduceToNat,reduceIte,a1,a2,a3,a4,a5,a6,a7]):P:=(h a1 a2 a3 a4 a5 a6 a7).mpr q
theorem XA (a1:A1) (a2:A2) (a3:A3) (a4:A4) (a5:A5) (a6:A6) (a7:A7) (a8:A8) (q:Q) (h:A1->A2->A3->A4->A5->A6->A7->A8->P=Q:=by intro a1 a2 a3 a4 a5 a6 a7 a8;conv=>lhs;simp(disch:=first | omega | (simp only[ds]<;>omega) | fail) only[zk,cV,Nat.reduceLT,Nat.reduceAdd,Nat.reduceMul,Nat.reduceSub,Nat.reduceBEq,Nat.reduceEqDiff,Int.reduceToNat,reduceIte,a1,a2,a3,a4,a5,a6,a7,a8]):P:=(h a1 a2 a3 a4 a5 a6 a7 a8).mpr q
theorem kw9 (a1:A1) (a2:A2) (a3:A3) (a4:A4) (a5:A5) (a6:A6) (a7:A7) (a8:A8) (a9:A9) (q:Q) (h:A1->A2->A3->A4->A5->A6->A7->A8->A9->P=Q:=by intro a1 a2 a3 a4 a5 a6 a7 a8 a9;conv=>lhs;simp(disch:=first | omega | (simp only[ds]<;>omega) | fail) only[zk,cV,Nat.reduceLT,Nat.reduceAdd,Nat.reduceMul,Nat.reduceSub,Nat.reduceBEq,Nat.reduceEqDiff,Int.reduceToNat,reduceIte,a1,a2,a3,a4,a5,a6,a7,a8,a9]):P:=(h a1 a2 a3 a4 a5 a6 a7 a8 a9).mpr q
end
theorem aa:aP Tryz.prog (bX Tryz.prog):=ZZ _
theorem θ {n:Sz} {D:List Deferred} {c d:Code} {e:Env} {O:VH} {Q:VQ} (h:WC Tryz.prog (bX Tryz.prog) n D c e O (rJ (KD Tryz.prog n D d Q) Q)):VC Tryz.prog n D (.seq c d) e O Q:=VC.ag aa h
theorem ι {n:Sz} {D:List Deferred} {c:Code} {e:Env} {O:VH} {Q:VQ} (h:WC Tryz.prog (bX Tryz.prog) n D c e O Q):VC Tryz.prog n D c e O Q:=WC.sound aa h
theorem κ {n:Sz} {D:List Deferred} {c d:Code} {e:Env} {O:VH} {Q:VQ} {A1 R:Prop} (a1:A1) (q:R) (h:A1->WC Tryz.prog (bX Tryz.prog) n D c e O (rJ (KD Tryz.prog n D d Q) Q)=R:=by intro a1;conv=>lhs;simp(disch:=first | omega | (simp only[ds]<;>omega) | fail) only[zk,cV,Nat.reduceLT,Nat.reduceAdd,Nat.reduceMul,Nat.reduceSub,Nat.reduceBEq,Nat.reduceEqDiff,Int.reduceToNat,reduceIte,a1]):VC Tryz.prog n D (.seq c d) e O Q:=θ ((h a1).mpr q)
theorem ν {n:Sz} {D:List Deferred} {c:Code} {e:Env} {O:VH} {Q:VQ} {A1 R:Prop} (a1:A1) (q:R) (h:A1->WC Tryz.prog (bX Tryz.prog) n D c e O Q=R:=by intro a1;conv=>lhs;simp(disch:=first | omega | (simp only[ds]<;>omega) | fail) only[zk,cV,Nat.reduceLT,Nat.reduceAdd,Nat.reduceMul,Nat.reduceSub,Nat.reduceBEq,Nat.reduceEqDiff,Int.reduceToNat,reduceIte,a1]):VC Tryz.prog n D c e O Q:=ι ((h a1).mpr q)
theorem ξ {n:Sz} {D:List Deferred} {c d:Code} {e:Env} {O:VH} {Q:VQ} {A1 A2 R:Prop} (a1:A1) (a2:A2) (q:R) (h:A1->A2->WC Tryz.prog (bX Tryz.prog) n D c e O (rJ (KD Tryz.prog n D d Q) Q)=R:=by intro a1 a2;conv=>lhs;simp(disch:=first | omega | (simp only[ds]<;>omega) | fail) only[zk,cV,Nat.reduceLT,Nat.reduceAdd,Nat.reduceMul,Nat.reduceSub,Nat.reduceBEq,Nat.reduceEqDiff,Int.reduceToNat,reduceIte,a1,a2]):VC Tryz.prog n D (.seq c d) e O Q:=θ ((h a1 a2).mpr q)
theorem ο {n:Sz} {D:List Deferred} {c:Code} {e:Env} {O:VH} {Q:VQ} {A1 A2 R:Prop} (a1:A1) (a2:A2) (q:R) (h:A1->A2->WC Tryz.prog (bX Tryz.prog) n D c e O Q=R:=by intro a1 a2;conv=>lhs;simp(disch:=first | omega | (simp only[ds]<;>omega) | fail) only[zk,cV,Nat.reduceLT,Nat.reduceAdd,Nat.reduceMul,Nat.reduceSub,Nat.reduceBEq,Nat.reduceEqDiff,Int.reduceToNat,reduceIte,a1,a2]):VC Tryz.prog n D c e O Q:=ι ((h a1 a2).mpr q)
abbrev TY (t:Nat) (d:TypeDesc) (a b:Nat) (z:List MV):Prop:=bX Tryz.prog t=some ⟨d,a,b,z⟩
abbrev TS (t:Nat) (d:TypeDesc) (a b:Nat) (z:List MV) (p:List (Nat×Nat)):Prop:=TY t d a b z/\eg d=true/\∀x,xw (bX Tryz.prog) t x=(mw (kT p) z x).map .agg
abbrev FL (t i f:Nat) (g:Bool) (s:Nat):Prop:=(∀k o,jU (bX Tryz.prog) t i (.ptr k o)=some (.ptr k (o+f)))/\(∀c o,jU (bX Tryz.prog) t i (.dG c o)=some (.dG c (o+f)))/\∀c,xq (bX Tryz.prog) t (.agg c) i=nL g s c f
theorem dQ {t a b:Nat} {d:TypeDesc} {z:List MV} (h:bX Tryz.prog t=some ⟨d,a,b,z⟩:=by kernel_rfl):TY t d a b z:=h
theorem iE {t a b:Nat} {d:TypeDesc} {z:List MV} {p:List (Nat×Nat)} (h:bX Tryz.prog t=some ⟨d,a,b,z⟩:=by kernel_rfl) (h1:eg d=true:=by kernel_rfl) (h2:∀x,xw (bX Tryz.prog) t x=(mw (kT p) z x).map .agg:=by intro x;kernel_rfl):TS t d a b z p:=⟨h,h1,h2⟩
theorem bw {t i f s:Nat} {g:Bool} (h:∀k o,jU (bX Tryz.prog) t i (.ptr k o)=some (.ptr k (o+f)):=by intro k o;kernel_rfl) (h1:∀c o,jU (bX Tryz.prog) t i (.dG c o)=some (.dG c (o+f)):=by intro c o;kernel_rfl) (h2:∀c,xq (bX Tryz.prog) t (.agg c) i=nL g s c f:=by intro c;kernel_rfl):FL t i f g s:=⟨h,h1,h2⟩
theorem T1:TY 1 Tryz.t1.desc 1 8 [.v .nilFunc]:=dQ
theorem T2:TY 2 (.int .i64) 1 8 [.v (.int .i64 0)]:=dQ
theorem T3:TY 3 (.int .i64) 1 8 [.v (.int .i64 0)]:=dQ
theorem T4:TY 4 .bool 1 1 [.v (.bool false)]:=dQ
theorem T5:TY 5 (.int .u8) 1 1 [.v (.int .u8 0)]:=dQ
theorem T6:TY 6 (.int .u8) 1 1 [.v (.int .u8 0)]:=dQ
theorem T7:TS 7 Tryz.t7.desc 4 24 [.v (.int .i64 0),.v (.int .i64 0),.v (.bool false),.v (.int .u8 0)] [(0,1),(1,1),(2,1),(3,1)]/\FL 7 0 0 false 1/\FL 7 1 1 false 1/\FL 7 2 2 false 1/\FL 7 3 3 false 1:=⟨iE,bw,bw,bw,bw⟩
theorem T8:TS 8 Tryz.t7.desc 4 24 [.v (.int .i64 0),.v (.int .i64 0),.v (.bool false),.v (.int .u8 0)] [(0,1),(1,1),(2,1),(3,1)]/\FL 8 0 0 false 1/\FL 8 1 1 false 1/\FL 8 2 2 false 1/\FL 8 3 3 false 1:=⟨iE,bw,bw,bw,bw⟩
theorem T9:TY 9 .string 1 16 [.str []]:=dQ
theorem RJ:TY 21 (.int .i32) 1 4 [.v (.int .i32 0)]:=dQ
theorem FJ:TY 22 (.slice 48) 1 24 [.sl 0 [] .nil]:=dQ
theorem KN:TY 23 (.slice 42) 1 24 [.sl 0 [] .nil]:=dQ
theorem zH:TY 25 (.slice 29) 1 24 [.sl 0 [] .nil]:=dQ
theorem jr:TY 29 (.slice 3) 1 24 [.sl 0 [] .nil]:=dQ
theorem T37:TY 37 (.map 40 3) 1 8 [.v (.map none)]:=dQ
theorem T38:TY 38 (.map 3 29) 1 8 [.v (.map none)]:=dQ
theorem XB:TS 40 Tryz.t39.desc 4 64 [.str [],.str [],.str [],.str []] [(0,1),(1,1),(2,1),(3,1)]/\FL 40 0 0 false 1/\FL 40 1 1 false 1/\FL 40 2 2 false 1/\FL 40 3 3 false 1:=⟨iE,bw,bw,bw,bw⟩
theorem XC:TS 42 Tryz.t41.desc 7 96 [.str [],.str [],.str [],.str [],.v (.int .i64 0),.str [],.v (.int .i64 0)] [(0,4),(4,1),(5,1),(6,1)]/\FL 42 0 0 true 4/\FL 42 1 4 false 1/\FL 42 2 5 false 1/\FL 42 3 6 false 1:=⟨iE,bw,bw,bw,bw⟩
theorem T44:TY 44 (.slice 199) 1 24 [.sl 0 [] .nil]:=dQ
theorem T46:TS 46 Tryz.t45.desc 3 48 [.v (.bool false),.str [],.sl 0 [] .nil] [(0,1),(1,1),(2,1)]/\FL 46 0 0 false 1/\FL 46 1 1 false 1/\FL 46 2 2 false 1:=⟨iE,bw,bw,bw⟩
theorem XD:TS 48 Tryz.t47.desc 13 168 [.v (.int .i64 0),.v (.int .i64 0),.v (.int .i64 0),.str [],.str [],.str [],.str [],.str [],.v (.bool false),.str [],.sl 0 [] .nil,.v (.int .i64 0),.v (.bool false)] [(0,1),(1,1),(2,1),(3,4),(7,1),(8,3),(11,1),(12,1)]/\FL 48 0 0 false 1/\FL 48 1 1 false 1/\FL 48 2 2 false 1/\FL 48 3 3 true 4/\FL 48 4 7 false 1/\FL 48 5 8 true 3/\FL 48 6 11 false 1/\FL 48 7 12 false 1:=⟨iE,bw,bw,bw,bw,bw,bw,bw,bw⟩
theorem T50:TY 50 (.pointer 82) 1 8 [.v (.pointer none)]:=dQ
theorem FK:TY 54 (.slice 150) 1 24 [.sl 0 [] .nil]:=dQ
theorem Ca:TS 56 Tryz.t55.desc 8 120 [.str [],.str [],.str [],.str [],.str [],.v (.int .i64 0),.v (.int .i64 0),.sl 0 [] .nil] [(0,1),(1,1),(2,1),(3,1),(4,1),(5,1),(6,1),(7,1)]/\FL 56 0 0 false 1/\FL 56 1 1 false 1/\FL 56 2 2 false 1/\FL 56 3 3 false 1/\FL 56 4 4 false 1/\FL 56 5 5 false 1/\FL 56 6 6 false 1/\FL 56 7 7 false 1:=⟨iE,bw,bw,bw,bw,bw,bw,bw,bw⟩
theorem T57:TY 57 (.pointer 132) 1 8 [.v (.pointer none)]:=dQ
theorem AS:TS 60 Tryz.t59.desc 3 48 [.str [],.str [],.str []] [(0,1),(1,1),(2,1)]/\FL 60 0 0 false 1/\FL 60 1 1 false 1/\FL 60 2 2 false 1:=⟨iE,bw,bw,bw⟩
theorem T62:TY 62 (.slice 65) 1 24 [.sl 0 [] .nil]:=dQ
theorem T65:TY 65 (.slice 68) 1 24 [.sl 0 [] .nil]:=dQ
theorem T68:TS 68 Tryz.t67.desc 5 80 [.str [],.str [],.str [],.str [],.str []] [(0,4),(4,1)]/\FL 68 0 0 true 4/\FL 68 1 4 false 1:=⟨iE,bw,bw⟩
theorem T69:TY 69 (.slice 4) 1 24 [.sl 0 [] .nil]:=dQ
theorem T72:TY 72 Tryz.t72.desc 1 8 [.v .nilFunc]:=dQ
theorem T74:TY 74 (.map 60 146) 1 8 [.v (.map none)]:=dQ
theorem T75:TY 75 (.map 150 117) 1 8 [.v (.map none)]:=dQ
theorem T80:TS 80 Tryz.t79.desc 1 8 [.v (.int .i64 0)] [(0,0),(0,0),(0,1)]/\FL 80 2 0 false 1:=⟨iE,bw⟩
theorem T82:TS 82 Tryz.t81.desc 4 32 [.v (.map none),.v (.map none),.v (.int .i64 0),.v (.int .i64 0)] [(0,1),(1,1),(2,1),(3,1)]/\FL 82 0 0 false 1/\FL 82 1 1 false 1/\FL 82 2 2 true 1/\FL 82 3 3 true 1:=⟨iE,bw,bw,bw,bw⟩
theorem FN:TY 83 (.slice 56) 1 24 [.sl 0 [] .nil]:=dQ
theorem KO:TY 84 (.slice 170) 1 24 [.sl 0 [] .nil]:=dQ
theorem T86:TS 86 Tryz.t85.desc 11 192 [.v (.bool false),.str [],.str [],.str [],.str [],.str [],.str [],.str [],.sl 0 [] .nil,.sl 0 [] .nil,.sl 0 [] .nil] [(0,1),(1,3),(4,1),(5,1),(6,1),(7,1),(8,1),(9,1),(10,1)]/\FL 86 0 0 false 1/\FL 86 1 1 true 3/\FL 86 2 4 false 1/\FL 86 3 5 false 1/\FL 86 4 6 false 1/\FL 86 5 7 false 1/\FL 86 6 8 false 1/\FL 86 7 9 false 1/\FL 86 8 10 false 1:=⟨iE,bw,bw,bw,bw,bw,bw,bw,bw,bw⟩
theorem T87:TY 87 (.int .i64) 1 8 [.v (.int .i64 0)]:=dQ
theorem T90:TY 90 (.slice 204) 1 24 [.sl 0 [] .nil]:=dQ
theorem we:TY 91 (.slice 93) 1 24 [.sl 0 [] .nil]:=dQ
theorem DU:TS 93 Tryz.t92.desc 4 80 [.str [],.sl 0 [] .nil,.sl 0 [] .nil,.str []] [(0,1),(1,1),(2,1),(3,1)]/\FL 93 0 0 false 1/\FL 93 1 1 false 1/\FL 93 2 2 false 1/\FL 93 3 3 false 1:=⟨iE,bw,bw,bw,bw⟩
theorem T95:TY 95 (.pointer 174) 1 8 [.v (.pointer none)]:=dQ
theorem T98:TY 98 (.int .u32) 1 4 [.v (.int .u32 0)]:=dQ
theorem ajU:TS 100 Tryz.t99.desc 1 4 [.v (.int .u32 0)] [(0,0),(0,1)]/\FL 100 1 0 false 1:=⟨iE,bw⟩
theorem abk:TS 102 Tryz.t101.desc 2 8 [.v (.int .i32 0),.v (.int .u32 0)] [(0,1),(1,1)]/\FL 102 0 0 false 1/\FL 102 1 1 false 1:=⟨iE,bw,bw⟩
theorem ajV:TS 104 Tryz.t103.desc 2 8 [.v (.int .i32 0),.v (.int .u32 0)] [(0,0),(0,2)]/\FL 104 1 0 true 2:=⟨iE,bw⟩
theorem ajW:TS 106 Tryz.t105.desc 3 12 [.v (.int .u32 0),.v (.int .i32 0),.v (.int .u32 0)] [(0,0),(0,1),(1,2)]/\FL 106 1 0 true 1/\FL 106 2 1 true 2:=⟨iE,bw,bw⟩
theorem abl:TS 108 Tryz.t107.desc 3 24 [.v (.int .i64 0),.v (.int .i64 0),.v (.int .i64 0)] [(0,1),(1,1),(2,1)]/\FL 108 0 0 false 1/\FL 108 1 1 false 1/\FL 108 2 2 false 1:=⟨iE,bw,bw,bw⟩
theorem NO:TS 110 Tryz.t109.desc 8 96 [.v (.int .i64 0),.str [],.str [],.str [],.v (.int .i64 0),.v (.int .i64 0),.v (.int .i64 0),.str []] [(0,1),(1,3),(4,3),(7,1)]/\FL 110 0 0 false 1/\FL 110 1 1 true 3/\FL 110 2 4 true 3/\FL 110 3 7 false 1:=⟨iE,bw,bw,bw,bw⟩
theorem ajX:TS 112 Tryz.t111.desc 9 120 [.sl 0 [] .nil,.v (.int .i64 0),.str [],.str [],.str [],.v (.int .i64 0),.v (.int .i64 0),.v (.int .i64 0),.str []] [(0,1),(1,8)]/\FL 112 0 0 false 1/\FL 112 1 1 true 8:=⟨iE,bw,bw⟩
theorem ajY:TS 114 Tryz.t113.desc 12 136 [.v (.int .u32 0),.v (.int .i32 0),.v (.int .u32 0),.sl 0 [] .nil,.v (.int .i64 0),.str [],.str [],.str [],.v (.int .i64 0),.v (.int .i64 0),.v (.int .i64 0),.str []] [(0,3),(3,9)]/\FL 114 0 0 true 3/\FL 114 1 3 true 9:=⟨iE,bw,bw⟩
theorem ajZ:TS 116 Tryz.t115.desc 4 40 [.v (.int .u32 0),.v (.int .i32 0),.v (.int .u32 0),.sl 0 [] .nil] [(0,3),(3,1)]/\FL 116 0 0 true 3/\FL 116 1 3 false 1:=⟨iE,bw,bw⟩
theorem rM:TY 117 (.slice 9) 1 24 [.sl 0 [] .nil]:=dQ
theorem aj0:TS 132 Tryz.t131.desc 47 536 [.v (.pointer none),.v (.pointer none),.str [],.str [],.str [],.v (.int .i64 0),.v (.int .i64 0),.v (.int .u32 0),.v (.int .i32 0),.v (.int .u32 0),.sl 0 [] .nil,.v (.int .i64 0),.str [],.str [],.str [],.v (.int .i64 0),.v (.int .i64 0),.v (.int .i64 0),.str [],.v (.int .u32 0),.v (.int .i32 0),.v (.int .u32 0),.sl 0 [] .nil,.v (.int .u32 0),.v (.int .i32 0),.v (.int .u32 0),.sl 0 [] .nil,.v (.int .u32 0),.v (.int .i32 0),.v (.int .u32 0),.sl 0 [] .nil,.v (.int .u32 0),.v (.int .i32 0),.v (.int .u32 0),.v (.int .i64 0),.sl 0 [] .nil,.v (.int .i64 0),.sl 0 [] .nil,.sl 0 [] .nil,.v (.int .i64 0),.str [],.str [],.str [],.v (.int .i64 0),.v (.int .i64 0),.v (.int .i64 0),.str []] [(0,1),(1,1),(2,3),(5,1),(6,1),(7,12),(19,4),(23,4),(27,4),(31,16)]/\FL 132 0 0 false 1/\FL 132 1 1 false 1/\FL 132 2 2 true 3/\FL 132 3 5 false 1/\FL 132 4 6 true 1/\FL 132 5 7 true 12/\FL 132 6 19 true 4/\FL 132 7 23 true 4/\FL 132 8 27 true 4/\FL 132 9 31 true 16:=⟨iE,bw,bw,bw,bw,bw,bw,bw,bw,bw,bw⟩
theorem aj1:TY 134 Tryz.t134.desc 1 8 [.v .nilFunc]:=dQ
theorem Uv:TY 146 (.pointer 148) 1 8 [.v (.pointer none)]:=dQ
theorem agE:TS 148 Tryz.t147.desc 23 320 [.str [],.v (.int .u32 0),.v (.int .i32 0),.v (.int .u32 0),.v (.bool false),.str [],.str [],.str [],.str [],.str [],.str [],.str [],.sl 0 [] .nil,.sl 0 [] .nil,.sl 0 [] .nil,.v (.int .i64 0),.str [],.str [],.str [],.v (.int .i64 0),.v (.int .i64 0),.v (.int .i64 0),.str []] [(0,1),(1,3),(4,11),(15,8)]/\FL 148 0 0 false 1/\FL 148 1 1 true 3/\FL 148 2 4 true 11/\FL 148 3 15 true 8:=⟨iE,bw,bw,bw,bw⟩
theorem Dg:TS 150 Tryz.t149.desc 2 32 [.str [],.str []] [(0,1),(1,1)]/\FL 150 0 0 false 1/\FL 150 1 1 false 1:=⟨iE,bw,bw⟩
theorem Uw:TY 152 (.pointer 155) 1 8 [.v (.pointer none)]:=dQ
theorem uV:TY 153 (.slice 5) 1 24 [.sl 0 [] .nil]:=dQ
theorem NP:TS 155 Tryz.t154.desc 2 32 [.v (.pointer none),.sl 0 [] .nil] [(0,1),(1,1)]/\FL 155 0 0 false 1/\FL 155 1 1 false 1:=⟨iE,bw,bw⟩
theorem aj2:TY 156 Tryz.t156.desc 1 8 [.v .nilFunc]:=dQ
theorem aj3:TY 158 Tryz.t157.desc 1 16 [.v .nilIface]:=dQ
theorem agF:TS 163 Tryz.t162.desc 7 88 [.v (.int .i64 0),.str [],.sl 0 [] .nil,.str [],.v (.int .i64 0),.v (.int .i64 0),.v (.int .i64 0)] [(0,1),(1,1),(2,1),(3,1),(4,3)]/\FL 163 0 0 false 1/\FL 163 1 1 false 1/\FL 163 2 2 false 1/\FL 163 3 3 false 1/\FL 163 4 4 true 3:=⟨iE,bw,bw,bw,bw,bw⟩
theorem FO:TY 165 (.slice 163) 1 24 [.sl 0 [] .nil]:=dQ
theorem Dh:TS 170 Tryz.t169.desc 2 32 [.str [],.str []] [(0,1),(1,1)]/\FL 170 0 0 false 1/\FL 170 1 1 false 1:=⟨iE,bw,bw⟩
theorem agG:TY 172 (.map 60 215) 1 8 [.v (.map none)]:=dQ
theorem agH:TS 174 Tryz.t173.desc 2 16 [.v (.pointer none),.v (.map none)] [(0,1),(1,1)]/\FL 174 0 0 false 1/\FL 174 1 1 false 1:=⟨iE,bw,bw⟩
theorem aj4:TY 176 (.pointer 80) 1 8 [.v (.pointer none)]:=dQ
theorem aj5:TY 177 Tryz.t177.desc 1 8 [.v .nilFunc]:=dQ
theorem aj6:TY 184 Tryz.t184.desc 1 8 [.v .nilFunc]:=dQ
theorem aj7:TY 187 (.pointer 5) 1 8 [.v (.pointer none)]:=dQ
theorem aj8:TY 189 (.pointer 114) 1 8 [.v (.pointer none)]:=dQ
theorem agI:TS 199 Tryz.t198.desc 6 64 [.v (.bool false),.str [],.v (.bool false),.v (.bool false),.str [],.v (.bool false)] [(0,3),(3,3)]/\FL 199 0 0 true 3/\FL 199 1 3 true 3:=⟨iE,bw,bw⟩
theorem I5:TY 202 .unsafePointer 1 8 [.v (.pointer none)]:=dQ
theorem agJ:TS 204 Tryz.t169.desc 2 32 [.str [],.str []] [(0,1),(1,1)]/\FL 204 0 0 false 1/\FL 204 1 1 false 1:=⟨iE,bw,bw⟩
theorem aj9:TY 205 (.pointer 106) 1 8 [.v (.pointer none)]:=dQ
theorem aj_:TY 207 (.pointer 2) 1 8 [.v (.pointer none)]:=dQ
theorem aka:TY 208 (.pointer 212) 1 8 [.v (.pointer none)]:=dQ
theorem agK:TY 209 (.map 40 56) 1 8 [.v (.map none)]:=dQ
theorem agL:TY 210 (.slice 54) 1 24 [.sl 0 [] .nil]:=dQ
theorem akb:TS 212 Tryz.t211.desc 8 120 [.v (.pointer none),.v (.pointer none),.str [],.str [],.str [],.v (.map none),.sl 0 [] .nil,.sl 0 [] .nil] [(0,1),(1,1),(2,3),(5,1),(6,1),(7,1)]/\FL 212 0 0 false 1/\FL 212 1 1 false 1/\FL 212 2 2 true 3/\FL 212 3 5 false 1/\FL 212 4 6 false 1/\FL 212 5 7 false 1:=⟨iE,bw,bw,bw,bw,bw,bw⟩
theorem I6:TY 213 (.slice 221) 1 24 [.sl 0 [] .nil]:=dQ
theorem FP:TS 215 Tryz.t214.desc 7 136 [.str [],.str [],.str [],.str [],.sl 0 [] .nil,.sl 0 [] .nil,.sl 0 [] .nil] [(0,3),(3,1),(4,1),(5,1),(6,1)]/\FL 215 0 0 true 3/\FL 215 1 3 false 1/\FL 215 2 4 false 1/\FL 215 3 5 false 1/\FL 215 4 6 false 1:=⟨iE,bw,bw,bw,bw,bw⟩
theorem akc:TY 219 Tryz.t219.desc 1 8 [.v .nilFunc]:=dQ
theorem NQ:TS 221 Tryz.t220.desc 10 152 [.str [],.str [],.str [],.str [],.v (.bool false),.str [],.sl 0 [] .nil,.v (.int .i64 0),.v (.bool false),.sl 0 [] .nil] [(0,4),(4,3),(7,1),(8,1),(9,1)]/\FL 221 0 0 true 4/\FL 221 1 4 true 3/\FL 221 2 7 false 1/\FL 221 3 8 false 1/\FL 221 4 9 false 1:=⟨iE,bw,bw,bw,bw,bw⟩
theorem akd:TY 223 (.pointer 116) 1 8 [.v (.pointer none)]:=dQ
theorem ake:TY 226 (.pointer 100) 1 8 [.v (.pointer none)]:=dQ
theorem akf:TY 228 (.pointer 98) 1 8 [.v (.pointer none)]:=dQ
theorem akg:TY 243 (.pointer 246) 1 8 [.v (.pointer none)]:=dQ
theorem akh:TS 246 Tryz.t245.desc 4 80 [.sl 0 [] .nil,.sl 0 [] .nil,.sl 0 [] .nil,.v (.map none)] [(0,1),(1,1),(2,1),(3,1)]/\FL 246 0 0 false 1/\FL 246 1 1 false 1/\FL 246 2 2 false 1/\FL 246 3 3 false 1:=⟨iE,bw,bw,bw,bw⟩
theorem aki:TY 251 (.pointer 104) 1 8 [.v (.pointer none)]:=dQ
theorem yI:TY 258 (.slice 60) 1 24 [.sl 0 [] .nil]:=dQ
theorem akj:TY 262 (.pointer 268) 1 8 [.v (.pointer none)]:=dQ
theorem agM:TY 263 (.pointer 298) 1 8 [.v (.pointer none)]:=dQ
theorem akk:TS 268 Tryz.t267.desc 17 280 [.v (.pointer none),.v (.pointer none),.str [],.str [],.str [],.v (.bool false),.str [],.str [],.str [],.str [],.str [],.str [],.str [],.sl 0 [] .nil,.sl 0 [] .nil,.sl 0 [] .nil,.sl 0 [] .nil] [(0,1),(1,1),(2,3),(5,11),(16,1)]/\FL 268 0 0 false 1/\FL 268 1 1 false 1/\FL 268 2 2 true 3/\FL 268 3 5 true 11/\FL 268 4 16 false 1:=⟨iE,bw,bw,bw,bw,bw⟩
theorem abm:TY 286 (.pointer 102) 1 8 [.v (.pointer none)]:=dQ
theorem akl:TY 288 (.pointer 21) 1 8 [.v (.pointer none)]:=dQ
theorem agN:TY 292 (.slice 86) 1 24 [.sl 0 [] .nil]:=dQ
theorem I7:TY 296 (.map 9 9) 1 8 [.v (.map none)]:=dQ
theorem akm:TS 298 Tryz.t297.desc 4 48 [.sl 0 [] .nil,.v (.map none),.v (.map none),.v (.int .i64 0)] [(0,1),(1,1),(2,1),(3,1)]/\FL 298 0 0 false 1/\FL 298 1 1 false 1/\FL 298 2 2 false 1/\FL 298 3 3 true 1:=⟨iE,bw,bw,bw,bw⟩
theorem agO:TY 304 (.pointer 306) 1 8 [.v (.pointer none)]:=dQ
theorem akn:TS 306 Tryz.t305.desc 2 32 [.v (.pointer none),.sl 0 [] .nil] [(0,1),(1,1)]/\FL 306 0 0 false 1/\FL 306 1 1 false 1:=⟨iE,bw,bw⟩
theorem ako:TY 308 (.pointer 311) 1 8 [.v (.pointer none)]:=dQ
theorem akp:TY 309 (.map 40 4) 1 8 [.v (.map none)]:=dQ
theorem akq:TS 311 Tryz.t310.desc 2 32 [.sl 0 [] .nil,.v (.map none)] [(0,1),(1,1)]/\FL 311 0 0 false 1/\FL 311 1 1 false 1:=⟨iE,bw,bw⟩
theorem akr:TY 321 (.pointer 323) 1 8 [.v (.pointer none)]:=dQ
theorem aks:TS 323 Tryz.t322.desc 1 16 [.str []] [(0,1)]/\FL 323 0 0 false 1:=⟨iE,bw⟩
theorem akt:TY 333 Tryz.t333.desc 1 8 [.v .nilFunc]:=dQ
theorem aku:TS 340 Tryz.t339.desc 2 24 [.v (.int .i64 0),.str []] [(0,1),(1,1)]/\FL 340 0 0 false 1/\FL 340 1 1 false 1:=⟨iE,bw,bw⟩
theorem agP:TY 383 Tryz.t383.desc 1 8 [.v .nilFunc]:=dQ
theorem akv:TY 394 (.pointer 397) 1 8 [.v (.pointer none)]:=dQ
theorem NR:TY 395 (.slice 422) 1 24 [.sl 0 [] .nil]:=dQ
theorem akw:TS 397 Tryz.t396.desc 8 120 [.str [],.sl 0 [] .nil,.sl 0 [] .nil,.str [],.sl 0 [] .nil,.v (.int .i64 0),.v (.bool false),.v (.bool false)] [(0,4),(4,1),(5,1),(6,1),(7,1)]/\FL 397 0 0 true 4/\FL 397 1 4 false 1/\FL 397 2 5 false 1/\FL 397 3 6 false 1/\FL 397 4 7 false 1:=⟨iE,bw,bw,bw,bw,bw⟩
theorem agQ:TS 401 Tryz.t400.desc 2 24 [.v (.int .i64 0),.str []] [(0,1),(1,1)]/\FL 401 0 0 false 1/\FL 401 1 1 false 1:=⟨iE,bw,bw⟩
theorem abn:TS 403 Tryz.t402.desc 5 96 [.str [],.sl 0 [] .nil,.sl 0 [] .nil,.str [],.str []] [(0,4),(4,1)]/\FL 403 0 0 true 4/\FL 403 1 4 false 1:=⟨iE,bw,bw⟩
theorem agR:TS 414 Tryz.t413.desc 2 16 [.v (.int .i64 0),.v (.int .i64 0)] [(0,1),(1,1)]/\FL 414 0 0 false 1/\FL 414 1 1 false 1:=⟨iE,bw,bw⟩
theorem akx:TY 415 (.pointer 419) 1 8 [.v (.pointer none)]:=dQ
theorem aky:TS 417 Tryz.t416.desc 2 24 [.str [],.v (.int .i64 0)] [(0,1),(1,1)]/\FL 417 0 0 false 1/\FL 417 1 1 false 1:=⟨iE,bw,bw⟩
theorem akz:TS 419 Tryz.t418.desc 3 48 [.str [],.v (.int .i64 0),.sl 0 [] .nil] [(0,2),(2,1)]/\FL 419 0 0 true 2/\FL 419 1 2 false 1:=⟨iE,bw,bw⟩
theorem NS:TY 422 (.pointer 93) 1 8 [.v (.pointer none)]:=dQ
theorem abo:TY 427 (.slice 403) 1 24 [.sl 0 [] .nil]:=dQ
theorem akA:TY 430 (.pointer 417) 1 8 [.v (.pointer none)]:=dQ
theorem I8:TY 447 (.slice 21) 1 24 [.sl 0 [] .nil]:=dQ
set_option maxRecDepth 10000
theorem dB {α :Type} (l:List α) (j:Nat) (h:j<l.length):l.take (j+1)=l.take j++[l[j]]:=by
 rw[List.take_add_one,Ml h];rfl
section
variable {α :Type} {f: α -> α} {l:List α} {j:Nat}
end
def qC (b:UInt8):Bool:=decide (48<=b.toNat)&&decide (b.toNat<=57)
def lo (b:UInt8):UInt8:=if 65<=b.toNat/\b.toNat<=90 then UInt8.ofNat (b.toNat+32)else b
theorem qD (b:UInt8) (O:VH):VF Tryz.prog 85 [gj b] O (aE fun m O'=>m=mb (qC b)/\O'=O):=by
 have uf:b.toNat<256:=b.toNat_lt;refine VF.aei aa Tryz.func85 (c:=_) rfl (Nat.le_of_ble_eq_true rfl) ?_;rw[show Tryz.f85.ntmps=9 from rfl];simp only[cL,ajx,Nat.reduceAdd];by_cases h1:48<=b.toNat
 ·by_cases h2:b.toNat<=57
  ·repeat' first
    | with_reducible (first | refine VC.seq' ?_ | refine υ ?_ | refine VC.skip ?_ | refine VC.label ?_ | refine VC.scope ?_ | refine VC.exit ?_ | refine VC.ret ?_ | refine VL.nil ?_)
    | (with_reducible refine gVC ?_;first | refine gp @aL ?_ | refine gr @aL ?_ | (refine gc @aL ?_ ?_<;>(intro FT;try simp only[dcs,ne_eq,reduceCtorEq]at FT)))
    | simp only[aaa,Nat.reduceEqDiff,reduceIte]
    | refine eR1 ?_ | refine eR2 ?_ | refine nN.Z2 rfl ?_ | refine nN.Z3 rfl ?_
   exact⟨by simp[qC,h1,h2,bu],by trivial⟩
  ·repeat' first
    | with_reducible (first | refine VC.seq' ?_ | refine υ ?_ | refine VC.skip ?_ | refine VC.label ?_ | refine VC.scope ?_ | refine VC.exit ?_ | refine VC.ret ?_ | refine VL.nil ?_)
    | (with_reducible refine gVC ?_;first | refine gp @aL ?_ | refine gr @aL ?_ | (refine gc @aL ?_ ?_<;>(intro FT;try simp only[dcs,ne_eq,reduceCtorEq]at FT)))
    | simp only[aaa,Nat.reduceEqDiff,reduceIte]
    | refine eR1 ?_ | refine eR2 ?_ | refine nN.Z2 rfl ?_ | refine nN.Z3 rfl ?_
   exact⟨by simp[qC,h2,bu],by trivial⟩
 ·repeat' first
   | with_reducible (first | refine VC.seq' ?_ | refine υ ?_ | refine VC.skip ?_ | refine VC.label ?_ | refine VC.scope ?_ | refine VC.exit ?_ | refine VC.ret ?_ | refine VL.nil ?_)
   | (with_reducible refine gVC ?_;first | refine gp @aL ?_ | refine gr @aL ?_ | (refine gc @aL ?_ ?_<;>(intro FT;try simp only[dcs,ne_eq,reduceCtorEq]at FT)))
   | simp only[aaa,Nat.reduceEqDiff,reduceIte]
   | refine eR1 ?_ | refine eR2 ?_ | refine nN.Z2 rfl ?_ | refine nN.Z3 rfl ?_
  exact⟨by simp[qC,h1,bu],by trivial⟩
section
variable {tab:cg} {t:TypeId} {a b:List UInt8}
end
def aiy (s:List UInt8) (nb:Bool):List UInt8:=
 if s==[103,97]||(s==[102,105,110,97,108]||s==[114,101,108,101,97,115,101])then[]
 else if s==[99,114]then[114,99]
 else if nb&&s==[97]then[97,108,112,104,97]
 else if nb&&s==[98]then[98,101,116,97]
 else if nb&&s==[109]then[109,105,108,101,115,116,111,110,101]
 else s
section
variable {tab:cg} {t:TypeId} {l:List UInt8} {s c:Nat} {z:List MV}
end
def NT (b:UInt8):Bool:=b==46||b==45
abbrev Piece:=List UInt8×Bool×Bool
abbrev Prt:=Bool×Bool×List UInt8
set_option linter.defProp false in
def AT:=zW T9<|zW T3<|zW T4<|zW T5<|zW uV<|zW Uw<|zW NP<|zW aj3 I5
structure gD (O:VH) (B b:Nat) (q:Option Nat) (s:List UInt8):Prop where
 cell:∃p buf,O.hp b=some (.cells [p,buf])/\(p= .v (.pointer none)\/p= .ptr b 0)/\GR O 5 1 B buf s.length (s.map gj)/\gid buf=q/\buf≠ .sl 0 [] .full
 ne:q≠some b
 oV:∃j,B<=j/\j<O.N/\O.hp j=some (.shape b 155 2)
 lo:B<=b
 hi:b<O.N
 nz:s=[]->q=none
structure fK (O:VH) (b:Nat) (q:Option Nat) (O':VH) (q':Option Nat):Prop where
 N:O.N<=O'.N
 hp:∀i,i<O.N->i≠b->q≠some i->O'.hp i=O.hp i
 new:∀i,i<O.N->q≠some i->q'≠some i
theorem gD.Ux {O:VH} {B b:Nat} {q:Option Nat} {s:List UInt8} (h:gD O B b q s):∀i,O.N<=i->q≠some i:=by
 intro i hi e;obtain⟨p,buf,_,_,hg,hq,_⟩:=h.cell;rcases hg with⟨_,_,rfl | rfl⟩ | ⟨k,c,rfl,_,_,hr⟩
 ·rw[<-hq]at e;cases e
 ·rw[<-hq]at e;cases e
 ·rw[<-hq]at e;injection e with e;have:=hr.hi;omega
theorem gD.yJ {O:VH} {B b:Nat} {q:Option Nat} {s:List UInt8} (h:gD O B b q s):∀i,q=some i->B<=i:=by
 intro i e;obtain⟨p,buf,_,_,hg,hq,_⟩:=h.cell;rcases hg with⟨_,_,rfl | rfl⟩ | ⟨k,c,rfl,_,_,hr⟩
 ·rw[<-hq]at e;cases e
 ·rw[<-hq]at e;cases e
 ·rw[<-hq]at e;injection e with e;rw[<-e];exact hr.lo
theorem fK.ge {O0 O O':VH} {b:Nat} {q q':Option Nat} (h:O0.Ge O) (u:fK O b q O' q') (hb:O0.N<=b) (hq:∀i,q=some i->O0.N<=i):O0.Ge O':=
 ⟨ajy h.N u.N,fun i hi=>(u.hp i (ZA hi h.N) (by omega) (fun e=>by have:=hq i e;omega)).trans (h.hp i hi)⟩
theorem gD.qw {O O':VH} {B b:Nat} {q:Option Nat} {s:List UInt8} (h:gD O B b q s) (hn:O.N<=O'.N) (hb:O'.hp b=O.hp b) (hq:∀i,q=some i->O'.hp i=O.hp i) (hs:∀j k t n,O.hp j=some (.shape k t n)->j<O.N->O'.hp j=O.hp j):gD O' B b q s:=by
 obtain⟨p,buf,h1,h2,h3,h4,h5⟩:=h.cell;obtain⟨j,j1,j2,j3⟩:=h.oV;refine⟨⟨p,buf,hb.trans h1,h2,?_,h4,h5⟩,h.ne,⟨j,j1,by omega,(hs j _ _ _ j3 j2).trans j3⟩,h.lo,by have:=h.hi;omega,h.nz⟩;rcases h3 with h3 | ⟨k,c,rfl,g1,g2,g3⟩
 ·exact .inl h3
 ·refine .inr ⟨k,c,rfl,g1,g2,?_⟩;obtain⟨sp,r1,r2⟩:=g3.cells;obtain⟨i,i1,i2,i3⟩:=g3.oV;exact⟨⟨sp,(hq k h4.symm).trans r1,r2⟩,⟨i,i1,by omega,(hs i _ _ _ i3 i2).trans i3⟩,g3.lo,by have:=g3.hi;omega⟩
theorem gD.zD {O O':VH} {B b:Nat} {q:Option Nat} {s:List UInt8} (h:gD O B b q s) (u:bB O none O'):gD O' B b q s:=
 h.qw u.N (u.hp b h.hi (by simp)) (fun i hi=>u.hp i (by
  rcases anj i O.N with h' | h'
  ·exact h'
  ·exact absurd hi (h.Ux i h')) (by simp)) fun j _ _ _ _ hl=>u.hp j hl (by simp)
theorem gD.set {O:VH} {B b i:Nat} {q:Option Nat} {s:List UInt8} {cs:List MV} {x:cf} (h:gD O B b q s) (hi:O.hp i=some (.cells cs)) (hb:i≠b) (hq:q≠some i):gD (O.set i x) B b q s:=
 h.qw (ahW _) (ρ _ _ (Ne.symm hb)) (fun k hk=>ρ _ _ (fun e=>hq (by rw[hk,e]))) fun j _ _ _ hj _=>ρ _ _ (fun e=>by rw[e,hi]at hj;cases hj)
theorem gD.fresh (O:VH) {B:Nat} (hB:B<=O.N):gD ((O.push (.cells [.v (.pointer none),.sl 0 [] .nil])).push (.shape O.N 155 2)) B O.N none []:=
 ⟨⟨_,_,(Ω _ _ (by show O.N<O.N+1;omega)).trans (Υ _ _),.inl rfl,.inl ⟨rfl,rfl,.inl rfl⟩,rfl,by simp⟩,by simp,⟨O.N+1,by omega,by show O.N+1<O.N+1+1;omega,Υ _ _⟩,hB,by show O.N<O.N+1+1;omega,fun _=>rfl⟩
theorem NU (k o:Nat) (O:VH):eY Tryz.prog 87 [.ptr k o] O fun m O'=>m= .ptr k o/\O'=O:=by
 refine eY.of (ex:=Extern.AbiNoEscape.same) Tryz.func87 (by kernel_rfl) (by kernel_rfl) (by kernel_rfl) (by kernel_rfl) fun G w vs hw hv=>?_
 obtain⟨u,us,rfl,h1,h2⟩:=hv.eW;rw[h2.iP];exact⟨u,Lib.run_noEscape w u,h1⟩
theorem AU {O:VH} {B b:Nat} {q:Option Nat} {s:List UInt8} (h:gD O B b q s):VF Tryz.prog 71 [.ptr b 0] O (aE fun m O'=>gD O' B b q s/\fK O b q O' q):=by
 obtain⟨p,buf,h1,h2,h3,h4,h5⟩:=h.cell;obtain⟨j,j1,j2,j3⟩:=h.oV;have hb:=h.hi;refine Θ 20 [] Tryz.func71 ?_;rcases h2 with rfl | rfl
 ·refine ao @AT @h1 ?_;refine VL.toU aa (.inl rfl) (el:=155) (by rw[Uw];rfl) (by rw[I5];rfl) NP.1.1 (by decide) j3 (by decide) rfl rfl rfl ?_;refine KM ?_;refine ah.ext (NU b 0 O) rfl ?_;rintro _ O2 ⟨rfl,rfl⟩;refine KM ?_;refine VL.ah_ aa (.inl rfl) (el:=155) (by rw[I5];rfl) (by rw[Uw];rfl) NP.1.1 j3 (by kernel_rfl) rfl rfl rfl ?_;refine ao @AT @h1 ?_;refine⟨⟨⟨_,buf,τ _ _ _,.inr rfl,h3.qw bB.set (by rw[h4];exact h.ne) (fun k t n=>by rw[h1];simp),h4,h5⟩,h.ne,⟨j,j1,j2,?_⟩,h.lo,h.hi,h.nz⟩,⟨ahW _,fun i _ hi _=>ρ _ _ hi,fun _ _ h=>h⟩⟩;rw[ρ _ _ (fun e=>by rw[e,h1]at j3;cases j3)];exact j3
 ·simp(disch:=first | omega | (simp only[ds]<;>omega) | fail) only[wk,wu,uc,ak,cV,Nat.reduceLT,Nat.reduceAdd,Nat.reduceMul,Nat.reduceSub,Nat.reduceBEq,Nat.reduceEqDiff,Int.reduceToNat,reduceIte,AT,h1,Nt (op:=.neq) Uw (s:=1) NP.1.1];exact⟨h,⟨ahW _,fun _ _ _ _=>rfl,fun _ _ h=>h⟩⟩
theorem gD.grown {O O':VH} {B b:Nat} {q:Option Nat} {s:List UInt8} {p buf m:MV} {n' z:Nat} {L:List UInt8} (h:gD O B b q s) (h1:O.hp b=some (.cells [p,buf])) (h2:p= .v (.pointer none)\/p= .ptr b 0) (h4:gid buf=q) (hg:GR O' 5 1 B m n' (L.map gj)) (hn:n'=L.length) (hu:bB O (gid buf) O') (np:(∃k c,m= .bz k 0 n' c/\(gid buf=some k\/(O.N<=k/\z≠0)))\/m=buf) (hf:buf≠ .sl 0 [] .full) (hz:L=[]->z=0/\s=[]):
  gD (O'.set b (.cells [p,m])) B b (gid m) L/\fK O b q (O'.set b (.cells [p,m])) (gid m):=by
 subst hn;obtain⟨j,j1,j2,j3⟩:=h.oV;have hb:=h.hi
 have hm:m≠ .sl 0 [] .full:=by
  rcases np with⟨k,c,rfl,_⟩ | rfl
  ·simp
  ·exact hf
 have qE:∀i,i<O.N->q≠some i->gid m≠some i:=fun i hi hq=>by
  rcases np with⟨k,c,rfl,hk⟩ | rfl
  ·rcases hk with hk | hk
   ·rw[<-h4,hk]at hq;exact hq
   ·intro e;injection e with e;have:=hk.1;omega
  ·rw[h4];exact hq
 have hne:gid m≠some b:=qE b hb h.ne;have hOb:O'.hp b=some (.cells [p,buf]):=(hu.hp b hb (by rw[h4];exact h.ne)).trans h1
 have hqs:∀i k t n,O.hp i=some (.shape k t n)->i<O.N->O'.hp i=O.hp i:=fun i k t n hi hl=>hu.hp i hl fun e=>by
  obtain⟨p',amB,g1,g2,g3,g4,g5⟩:=h.cell;rw[h1]at g1;injection g1 with g1;injection g1 with g1;injection g1 with e1 e2;injection e2 with e2;subst e2
  rcases g3 with⟨_,_,rfl | rfl⟩ | ⟨k2,c2,rfl,_,_,hr⟩
  ·cases e
  ·cases e
  ·injection e with e;subst e;obtain⟨sp,r1,_⟩:=hr.cells;rw[r1]at hi;cases hi
 refine⟨⟨⟨p,m,τ _ _ _,h2,hg.qw bB.set hne (fun k t n=>by rw[hOb];simp),rfl,hm⟩,hne,⟨j,j1,ZA j2 hu.N,?_⟩,h.lo,ZA hb hu.N,fun hL=>?_⟩,⟨hu.N,fun i hi RL hq=>(ρ _ _ RL).trans (hu.hp i hi (by rw[h4];exact hq)),qE⟩⟩
 ·rw[ρ _ _ (fun e=>by rw[e,h1]at j3;cases j3)];exact(hqs j _ _ _ j3 j2).trans j3
 ·obtain⟨z0,s0⟩:=hz hL;have hq:=h.nz s0;rw[hq]at h4;rcases np with⟨k,c,rfl,hk⟩ | rfl
  ·rcases hk with hk | hk
   ·rw[h4]at hk;cases hk
   ·exact absurd z0 hk.2
  ·exact h4
theorem ug {O:VH} {B b:Nat} {q:Option Nat} {s:List UInt8} (c:UInt8) (h:gD O B b q s) (hl:s.length+1<=140737488355328):VF Tryz.prog 72 [.ptr b 0,gj c] O (aE fun m O'=>m= .v .nilIface/\∃q',gD O' B b q' (s++[c])/\fK O b q O' q'):=by
 refine Θ 17 [.tmp 4] Tryz.func72 ?_;refine ab @AT ?_;refine π (AU h) ?_;rintro _ O1 ⟨h',u'⟩;obtain⟨p,buf,h1,h2,h3,h4,h5⟩:=h'.cell;have hb:=h'.hi;refine aH @AT @h1 @aL ?_;refine VL.grow aa (.inl rfl) (te:=⟨.int .u8,1,1,[.v (.int .u8 0)]⟩) (dx:=.slice 5) (q:=.sl 1 [gj c] .full) (j:=1) (ds:=[gj c]) h3 rfl rfl (by rw[uV];rfl) T5 (by rw[uV];rfl) trivial (by dsimp only;omega) (by simp only[maxLen];omega) (by have:=h'.lo;omega) rfl rfl rfl rfl ?_;intro m O2 hg hu _ np;have hg':GR O2 5 1 B m (s.length+1) ((s++[c]).map gj):=by rw[ame];exact hg
 have hr:=h'.grown h1 h2 h4 hg' (by simp) hu (np.imp_right (·.2.1)) h5 (by simp);have hO:O2.hp b=some (.cells [p,buf]):=(hu.hp b hb (by rw[h4];exact h'.ne)).trans h1
 have iB:eh m=[m]/\eb m=true:=by
  rcases np with⟨k,cp,rfl,_⟩ | ⟨hj,_⟩
  ·exact⟨rfl,rfl⟩
  ·cases hj
 have cY:=qx (O:=O2) (k:=b) (off:=1) (u:=.slice 5) (b:=24) (z:=[.sl 0 [] .nil]) (cs:=[p,buf]) iB.1 iB.2 (by simp);refine aH @AT @hO @cY ?_;exact⟨_,hr.1,⟨ajy u'.N hr.2.N,fun i hi RL hq=>(hr.2.hp i (ZA hi u'.N) RL hq).trans (u'.hp i hi RL hq),fun i hi hq=>hr.2.new i (ZA hi u'.N) hq⟩⟩
theorem bU {O:VH} {B b:Nat} {q:Option Nat} {s:List UInt8} (l:List UInt8) (h:gD O B b q s) (hl:s.length+l.length<=140737488355328):VF Tryz.prog 55 [.ptr b 0,.str l] O (aE fun m O'=>m= .tuple [mi l.length,.v .nilIface]/\∃q',gD O' B b q' (s++l)/\fK O b q O' q'):=by
 refine Θ 19 [.tmp 4,.tmp 5] Tryz.func55 ?_;refine ab @AT ?_;refine π (AU h) ?_;rintro _ O1 ⟨h',u'⟩;obtain⟨p,buf,h1,h2,h3,h4,h5⟩:=h'.cell;have hb:=h'.hi;refine ao @AT @h1 ?_;refine VL.grow aa (.inl rfl) (te:=⟨.int .u8,1,1,[.v (.int .u8 0)]⟩) (dx:=.string) (q:=.str l) (j:=l.length) (ds:=l.map gj) h3 rfl (by rw[List.all_map];exact ajv.2 fun _ _=>rfl) (by rw[uV];rfl) T5 (by rw[T9];rfl) trivial (by dsimp only;omega) (by simp only[maxLen];omega) (by have:=h'.lo;omega) rfl rfl rfl rfl ?_;intro m O2 hg hu _ np;have hg':GR O2 5 1 B m (s.length+l.length) ((s++l).map gj):=by rw[ame];exact hg
 have hr:=h'.grown h1 h2 h4 hg' (by simp) hu (np.imp_right (·.2.1)) h5 (by simp[and_comm]);have hO:O2.hp b=some (.cells [p,buf]):=(hu.hp b hb (by rw[h4];exact h'.ne)).trans h1
 have iB:eh m=[m]/\eb m=true:=by
  rcases np with⟨k,cp,rfl,_⟩ | ⟨_,rfl,_⟩
  ·exact⟨rfl,rfl⟩
  ·rcases h3 with⟨_,_,rfl | rfl⟩ | ⟨k,c,rfl,_⟩<;>exact⟨rfl,rfl⟩
 have cY:=qx (O:=O2) (k:=b) (off:=1) (u:=.slice 5) (b:=24) (z:=[.sl 0 [] .nil]) (cs:=[p,buf]) iB.1 iB.2 (by simp);refine aH @AT @hO @cY ?_;exact⟨_,hr.1,⟨ajy u'.N hr.2.N,fun i hi RL hq=>(hr.2.hp i (ZA hi u'.N) RL hq).trans (u'.hp i hi RL hq),fun i hi hq=>hr.2.new i (ZA hi u'.N) hq⟩⟩
theorem qF {O:VH} {B b:Nat} {q:Option Nat} {s:List UInt8} (h:gD O B b q s) (hm:s.length<=maxLen):VF Tryz.prog 58 [.ptr b 0] O (aE fun m O'=>m= .str s/\bB O q O'):=by
 obtain⟨p,buf,h1,h2,h3,h4,h5⟩:=h.cell;have hb:=h.hi;refine Θ 14 [.tmp 2] Tryz.func58 ?_;refine KM ?_;refine WC.bQ (.held [10,11]) [(0,.rd),(1,.rd),(2,.rd),(3,.rd),(4,.rd),(5,.rd),(6,.rd),(7,.rd),(8,.rd),(9,.rd),(10,.one),(11,.rd)] ?_;have hO:O.hp b=some (.cells [p,buf]):=h1;rcases h3 with⟨e1,e2,rfl | rfl⟩ | ⟨k,c,rfl,g1,g2,g3⟩
 ·have hs:s=[]:=Mn e1;subst hs;simp(disch:=first | omega | (simp only[ds]<;>omega) | fail) only[wk,wu,uc,ak,cV,Nat.reduceLT,Nat.reduceAdd,Nat.reduceMul,Nat.reduceSub,Nat.reduceBEq,Nat.reduceEqDiff,Int.reduceToNat,reduceIte,AT,h1,xz];refine VL.ah9 aa (by kernel_rfl) rfl rfl rfl rfl ?_;refine ab @AT ?_;exact bB.refl _ _
 ·exact absurd rfl h5
 ·have hs:s≠[]:=fun e=>by have:=h.nz e;rw[<-h4]at this;cases this
  have hc:c≠0:=fun e=>hs (Mn (by omega))
  have p7:s.length<=maxLen:=hm;simp(disch:=first | omega | (simp only[ds]<;>omega) | fail) only[wk,wu,uc,ak,cV,Nat.reduceLT,Nat.reduceAdd,Nat.reduceMul,Nat.reduceSub,Nat.reduceBEq,Nat.reduceEqDiff,Int.reduceToNat,reduceIte,AT,h1,xz,hc];refine VL.ajJ aa (by kernel_rfl) (el:=5) (by rw[aj7];rfl) (by kernel_rfl) g3 hs p7 rfl rfl rfl rfl ?_;refine ab @AT ?_;exact h4▸bB.kill
set_option linter.defProp false in
def sK:=zW T9<|zW T3<|zW T4<|zW T5 uV
theorem FU (s:List UInt8) (c:UInt8):(0<=Lib.indexByte s c) ↔ c∈s:=by
 induction s with
 | nil=>simp[Lib.indexByte]
 | cons b l ih=>
   have iS:=Lib.indexByte_ge l c;unfold Lib.indexByte;by_cases hb:b=c
   ·subst hb;simp
   ·have:(b==c)=false:=by simpa using hb
    rw[this];simp only[aee,if_false,List.mem_cons];by_cases h1:Lib.indexByte l c= -1
    ·rw[h1]at ih ⊢;simp only[beq_self_eq_true,if_true];constructor
     ·intro h;omega
     ·rintro(h | h)
      ·exact absurd h.symm hb
      ·have:=ih.2 h;omega
    ·have:(Lib.indexByte l c== -1)=false:=by simpa using h1
     rw[this];simp only[aee,if_false];constructor
     ·intro _;exact .inr (ih.1 (by omega))
     ·rintro(h | h)
      ·exact absurd h.symm hb
      ·have:=ih.2 h;omega
theorem zI (s:List UInt8) (c:UInt8) (O:VH):eY Tryz.prog 186 [.str s,gj c] O fun m O'=>m=mi (Lib.indexByte s c)/\O'=O:=by
 refine eY.of (ex:=Extern.BytealgIndexByte.indexByte) Tryz.func186 (by kernel_rfl) (by kernel_rfl) (by kernel_rfl) (by kernel_rfl) fun G w vs hw hv=>?_
 obtain⟨u,us,rfl,h1,h2⟩:=hv.eW;obtain⟨u2,us2,rfl,h3,h4⟩:=h2.eW;rw[h4.iP];cases h1;have:=h3.je;subst this;refine⟨_,Lib.run_indexByteString _ _ w,?_⟩;have e:((c.toNat:Int).toNat).toUInt8=c:=by simp
 rw[e];exact .v rfl
theorem KP (s:List UInt8) (c:UInt8) (O:VH):VF Tryz.prog 149 [.str s,gj c] O (aE fun m O'=>m=mi (Lib.indexByte s c)/\O'=O):=by
 refine Θ 8 [.tmp 4] Tryz.func149 ?_;refine KM ?_;refine ah.ext (zI s c O) rfl ?_;rintro _ O2 ⟨rfl,rfl⟩;exact KM trivial
theorem XE (s:List UInt8) (c:UInt8) (O:VH):VF Tryz.prog 122 [.str s,.str [c]] O (aE fun m O'=>∃n:Int,m=mi n/\(0<=n ↔ c∈s)/\O'=O):=by
 refine Θ 143 [.tmp 4] Tryz.func122 ?_;cases h:([c]:List UInt8)==s
 ·refine cJ @sK @h @ah0.{0} @ajz.{0} ?_;refine π (KP s c O) ?_;rintro _ O2 ⟨rfl,rfl⟩;refine ab @sK ?_;exact⟨_,rfl,FU s c⟩
 ·refine cJ @sK @h @ah0.{0} @ajz.{0} ?_;have:s=[c]:=by have:=beq_iff_eq.1 h;exact this.symm
  exact⟨0,rfl,by rw[this];simp⟩
theorem KQ (s:List UInt8) (c:UInt8) (O:VH):VF Tryz.prog 98 [.str s,.str [c]] O (aE fun m O'=>∃n:Int,m=mi n/\(0<=n ↔ c∈s)/\O'=O):=by
 refine Θ 8 [.tmp 4] Tryz.func98 ?_;refine KM ?_;refine π (XE s c O) ?_;rintro _ O2 ⟨n,rfl,h,rfl⟩;refine KM ?_;exact⟨n,rfl,h⟩
theorem AV (s:List UInt8) (c:UInt8) (O:VH):VF Tryz.prog 86 [.str s,.str [c]] O (aE fun m O'=>m=mb (s.contains c)/\O'=O):=by
 refine Θ 9 [.tmp 4] Tryz.func86 ?_;refine KM ?_;refine π (KQ s c O) ?_;rintro _ O2 ⟨n,rfl,h,rfl⟩;refine KM ?_
 have:s.contains c=decide (n>=0):=by
  rw[Bool.eq_iff_iff,List.contains_iff_mem,decide_eq_true_iff];exact h.symm
 rw[this]
def RM (c:UInt8):Bool:=decide ((97<=c.toNat/\c.toNat<=122)\/(65<=c.toNat/\c.toNat<=90)\/(48<=c.toNat/\c.toNat<=57)\/c.toNat=46\/c.toNat=45\/c.toNat=95\/c.toNat=43)
def wg (s:List UInt8):Bool:=s.all RM&&(decide (1<=s.length)&&decide (s.length<=64))
theorem RN (c:UInt8):((97<=c.toNat/\c.toNat<=122)\/(65<=c.toNat/\c.toNat<=90)\/(48<=c.toNat/\c.toNat<=57)\/c.toNat=46\/c.toNat=45\/c.toNat=95\/c.toNat=43)\/((123<=c.toNat)\/(91<=c.toNat/\c.toNat<=96/\c.toNat≠95)\/(58<=c.toNat/\c.toNat<=64)\/(c.toNat<=47/\c.toNat≠43/\c.toNat≠45/\c.toNat≠46)):=by omega
theorem RP (s:List UInt8) (O:VH) (hs:s.length<=maxLen):VF Tryz.prog 70 [.str s] O (aE fun m O'=>m=mb (wg s)/\O.Ge O'):=by
 have hm:(s.length:Int)<=9223372036854775807:=by simp[maxLen]at hs;omega
 have yf:=Υ O (.cells (s.map gj));have AW:=(VH.Ge.refl O).push (.cells (s.map gj));refine Θ 50 [.tmp 2] Tryz.func70 ?_;refine ab @sK ?_;refine VL.bytes aa (el:=5) (l:=s) rfl rfl (by rw[T9];rfl) (by rw[uV];rfl) (by rw[T5];rfl) hs rfl fun cap h1 h2=>WL.sound aa ?_
 refine ab @sK ?_;refine WC.jh [9] [0,7,8] (fun j:Nat=>[mi j]) (fun j O'=>(O.push (.cells (s.map gj))).Ge O'/\j<=s.length/\(s.take j).all RM=true) (fun j=>s.length - j) (0) ?_ ?_
 ·exact⟨VH.Ge.refl _,anu _,rfl⟩
 rintro j O2 ⟨pW,hj,kR⟩;have yh:=(pW.hp O.N (Nat.lt_succ_self _)).trans yf;by_cases h2:j<s.length
 ·have hc:=RN s[j];have qG:=Ml h2;have dh:RM s[j]=decide ((97<=s[j].toNat/\s[j].toNat<=122)\/(65<=s[j].toNat/\s[j].toNat<=90)\/(48<=s[j].toNat/\s[j].toNat<=57)\/s[j].toNat=46\/s[j].toNat=45\/s[j].toNat=95\/s[j].toNat=43):=rfl;have iF:(s.take (j+1)).all RM=RM s[j]:=by rw[dB _ _ h2,List.all_append,kR];simp
  generalize hx:s[j]=c at*;have hD:qC c=decide (48<=c.toNat/\c.toNat<=57):=by unfold qC;rw[Bool.decide_and]
  have hC:([46,45,95,43]:List UInt8).contains c=decide (c.toNat=46\/c.toNat=45\/c.toNat=95\/c.toNat=43):=by
   rw[Bool.eq_iff_iff,List.contains_iff_mem,decide_eq_true_iff];simp only[List.mem_cons,List.not_mem_nil,or_false, <-UInt8.toNat_inj];rfl
  rcases hc with hc | hc
  ·have h1:RM c=true:=by rw[dh];exact decide_eq_true hc
   rw[h1]at iF;rcases hc with hc | hc | hc | hc | hc | hc | hc
   ·refine cJ @sK @qG @yh @aL ?_;refine az.N (j+1) ?_;exact⟨pW,by omega,iF⟩
   ·refine cJ @sK @qG @yh @aL ?_;refine az.N (j+1) ?_;exact⟨pW,by omega,iF⟩
   ·rw[decide_eq_true (by omega)]at hD;refine cJ @sK @qG @yh @aL ?_;refine π (qD c _) ?_;rintro _ O3 ⟨rfl,rfl⟩;rw[hD];refine ab @sK ?_;refine az.N (j+1) ?_;exact⟨pW,by omega,iF⟩
   all_goals
    rw[decide_eq_false (by omega)]at hD;rw[decide_eq_true (by omega)]at hC;refine cJ @sK @qG @yh @aL ?_;refine π (qD c _) ?_;rintro _ O3 ⟨rfl,rfl⟩;rw[hD];refine ab @sK ?_;refine VL.aab aa (el:=5) (l:=[c]) rfl rfl (by rw[uV];rfl) (by rw[T9];rfl) (by rw[T5];rfl) rfl rfl rfl (WL.sound aa ?_);refine ab @sK ?_;refine π (AV [46,45,95,43] c _) ?_;rintro _ O4 ⟨rfl,rfl⟩;rw[hC];refine ab @sK ?_;refine az.N (j+1) ?_;exact⟨pW,by omega,iF⟩
  ·have h1:RM c=false:=by rw[dh];exact decide_eq_false (by omega)
   have:wg s=false:=by
    unfold wg;rw[List.all_eq_false.2 ⟨c,by rw[<-hx];exact ajw h2,by simp[h1]⟩];rfl
   rw[this];rw[decide_eq_false (by omega)]at hD hC;rcases hc with hc | hc | hc | hc
   all_goals
    refine cJ @sK @qG @yh @aL ?_;refine π (qD c _) ?_;rintro _ O3 ⟨rfl,rfl⟩;rw[hD];refine ab @sK ?_;refine VL.aab aa (el:=5) (l:=[c]) rfl rfl (by rw[uV];rfl) (by rw[T9];rfl) (by rw[T5];rfl) rfl rfl rfl (WL.sound aa ?_);refine ab @sK ?_;refine π (AV [46,45,95,43] c _) ?_;rintro _ O4 ⟨rfl,rfl⟩;rw[hC];refine ab @sK ?_;exact AW.trans pW
 ·have zG:j=s.length:=by omega
  subst zG;rw[List.take_length]at kR;unfold wg;rw[kR];by_cases h0:0<s.length
  ·have e:decide (1<=s.length)=true:=decide_eq_true h0;rw[e];by_cases FV:s.length<=64
   ·refine ab @sK ?_;exact AW.trans pW
   ·refine ab @sK ?_;exact AW.trans pW
  ·have e:decide (1<=s.length)=false:=decide_eq_false (by omega);rw[e];refine ab @sK ?_;exact AW.trans pW
def uW:Bool->List UInt8->List UInt8->List Piece
 | hy,cur,[]=>[(cur,hy,false)]
 | hy,cur,c::r=>if NT c then(cur,hy,false)::uW (c==45) [] r
   else match cur.getLast? with
    | none=>uW hy [c] r
    | some d=>if qC c=qC d then uW hy (cur++[c]) r else(cur,hy,true)::uW true [c] r
theorem XF (hy:Bool) (cur:List UInt8):uW hy cur []=[(cur,hy,false)]:=rfl
theorem RQ {hy:Bool} {cur r:List UInt8} {c:UInt8} (h:NT c=true):uW hy cur (c::r)=(cur,hy,false)::uW (c==45) [] r:=by rw[uW,if_pos h]
def even (l:List UInt8):Prop:=(∀c∈l,NT c=false)/\∀c∈l,∀d∈l,qC c=qC d
theorem Cb:∀(l cur r:List UInt8) (hy:Bool),even (cur++l)->uW hy cur (l++r)=uW hy (cur++l) r
 | [],cur,r,hy,_=>by simp
 | c::l,cur,r,hy,h=>by
   have hm:NT c=false:=h.1 c (by simp);have I2:=Cb l (cur++[c]) r hy (by rw[am_];exact h);rw[am_,List.singleton_append]at I2;rw[<-I2,ang,uW,if_neg (by rw[hm];simp)];cases hl:cur.getLast? with
   | none=>
     have:cur=[]:=List.getLast?_eq_none_iff.1 hl;subst this;rfl
   | some d=>
     have hd:qC c=qC d:=h.2 c (by simp) d (List.mem_append_left _ (List.mem_of_getLast? hl));simp only[hd,if_true]
end Go.Proofs.YtjpadehgejlebaaGreatDoor
