import Derived.Test.YthobfcojiglpdaaGreatDoorMA
import Derived.Lib.ConvBytes
import Derived.Laws.BytesString
import Derived.Laws.Externs
import Derived.Deep.AppendSrc
import Derived.Lib.UnsafeStr
import Derived.Laws.StructEq
import Derived.Recover
import Derived.WideLaws
import Derived.Laws.RangeString
import Derived.DeepKeys5
import Derived.Test.YthobfcojiglpdaaGreatDoorRows
import Derived.Lib.Bytealg
import Derived.ProofKit
import Derived.OpenShut
set_option linter.unusedVariables false
set_option linter.unusedSimpArgs false
namespace Go.Proofs.YthobfcojiglpdaaGreatDoor
open Go.RowKit
def kM:List Nat->List MV->Env->Env
 | t::l,m::ms,e=>(t,m)::kM l ms e
 | _,_,e=>e
theorem uf (t:Nat) (l:List Nat) (m:MV) (ms:List MV) (e:Env):kM (t::l) (m::ms) e=(t,m)::kM l ms e:=rfl
theorem Du (ms:List MV) (e:Env):kM [] ms e=e:=rfl
theorem lE {e e0:Env} (he:∀t x,look e0 t=some x->look e t=some x):∀{l:List Nat} {ms:List MV},looks e l=some ms->∀t x,look (kM l ms e0) t=some x->look e t=some x
 | [],ms,_,t,x,hx=>he t x (by simpa[kM]using hx)
 | k::l,ms,h,t,x,hx=>by
   rw[Bh]at h;obtain⟨m,h1,h2⟩:=Option.bind_eq_some_iff.1 h;obtain⟨WD,h3,rfl⟩:=Option.map_eq_some_iff.1 h2;rw[uf,lg]at hx;cases hb:t==k with
   | true=>
     rw[hb,cond_true]at hx;injection hx with hx;subst hx
     have:t=k:=by simpa using hb
     rw[this];exact h1
   | false=>rw[hb,cond_false]at hx;exact lE he h3 t x hx
def aD {σ :Type} (l K:List Nat) (ks:List MV) (ms: σ ->List MV) (I: σ ->VH->Prop) (μ : σ ->Nat) (s: σ) (Q:VQ):VQ:=fun x e O=>match x with
 | .normal=>looks e K=some ks/\∃s',looks e l=some (ms s')/\I s' O/\ μ s'< μ s
 | x=>Q x e O
section
variable {n:Sz} {D:List Deferred} {e:Env} {P:Program} {O:VH} {Q:VQ} {c:Code} {σ :Type} {l K:List Nat} {ks:List MV} {ms: σ ->List MV} {I: σ ->VH->Prop} {μ : σ ->Nat} {s: σ} {i:Nat} {m:MV}
theorem yA:aD l K ks ms I μ s Q (.exit i) e O=Q (.exit i) e O:=rfl
theorem yB:aD l K ks ms I μ s Q (.goto i) e O=Q (.goto i) e O:=rfl
theorem Bq:aD l K ks ms I μ s Q .ret e O=Q .ret e O:=rfl
theorem ql:aD l K ks ms I μ s Q (.panic m) e O=Q (.panic m) e O:=rfl
theorem VC.iw (l K:List Nat) (ms: σ ->List MV) (I: σ ->VH->Prop) (μ : σ ->Nat) (s0: σ) (h0:looks e l=some (ms s0)) (hk:looks e K=some ks) (hI:I s0 O)
  (step:∀s O,I s O->VC P n D c (kM l (ms s) (kM K ks [])) O (aD l K ks ms I μ s Q)):VC P n D (.loop c) e O Q:=by
 refine VC.loop (fun k e O=>looks e K=some ks/\∃s,looks e l=some (ms s)/\I s O/\ μ s=k) (k:= μ s0) ⟨hk,s0,h0,hI,rfl⟩ ?_;rintro k e O ⟨hk,s,h1,h2,rfl⟩;refine VC.mono ?_ (VC.env (step s O h2) (lE (lE (e0:=[]) (fun t x h=>by simp[look]at h) hk) h1));intro x e' O' h
 cases x<;>first
  | exact h
  | (obtain⟨h6,s',h3,h4,h5⟩:=h;exact⟨_,h5,h6,s',h3,h4,rfl⟩)
end
abbrev ints (xs:List Int) (t:aC):MV:=.sl xs.length (xs.map mi) t
abbrev Oh (xs:List Bool) (t:aC):MV:=.sl xs.length (xs.map mb) t
abbrev strs (xs:List (List UInt8)) (t:aC):MV:=.sl xs.length (xs.map .str) t
set_option linter.defProp false in
def Xc:=And.intro @Option.map_none.{0,0}<|And.intro @Option.bind_none.{0,0}<|And.intro @uf<|And.intro @Du<|And.intro @Int.zero_sub<|And.intro @Bool.not_true<|And.intro @Bool.not_false<|And.intro @decide_true<|And.intro @decide_eq_true<|And.intro @decide_eq_false<|And.intro @Nat.zero_add<|And.intro @Nat.mul_one<|And.intro @Int.toNat_natCast<|And.intro @Nat.add_zero<|And.intro @List.set_cons_zero.{0}<|And.intro @List.set_cons_succ.{0}<|And.intro @List.take_succ_cons.{0}<|And.intro @List.take_zero.{0}<|And.intro @List.drop_succ_cons.{0}<|And.intro @List.drop_zero.{0}<|And.intro @List.getElem?_eq_getElem.{0}<|And.intro @List.getElem?_toArray.{0}<|And.intro @List.getElem?_cons_zero.{0}<|And.intro @List.getElem?_cons_succ.{0}<|And.intro @Option.bind_some.{0,0}<|And.intro @Option.map_some.{0,0}<|And.intro @List.map_cons.{0,0}<|And.intro @List.map_nil.{0,0}<|And.intro @List.getElem?_map.{0,0}<|And.intro @List.getElem_map.{0,0}<|And.intro @if_true.{1}<|And.intro @cond_true.{1} @cond_false.{1}
set_option linter.defProp false in
def Xd:=And.intro @tV<|And.intro @yq<|And.intro @Bj<|And.intro @wF<|And.intro @yA<|And.intro @yB<|And.intro @Bq<|And.intro @ql<|And.intro @Ia<|And.intro @Oa<|And.intro @Ob<|And.intro @S5<|And.intro @Kk<|And.intro @tU<|And.intro @ym<|And.intro @yp<|And.intro @Bi<|And.intro @qk<|And.intro @Kl<|And.intro @Km<|And.intro @Oc<|And.intro @Ib<|And.intro @Kx<|And.intro @if_true.{1} @if_false.{1}
section
variable {P:Program} {tab:bN} {n:Sz} {D:List Deferred} {md:Md} {l:List Oper} {Q:VQ} {L':List (Fl×Oper)} {e e':Env} {O O':VH} {c x y:Code} {A:Prop} {id:Nat} {fn:Func} {R:fU->VH->Prop} {m m':MV} {t t':Nat} {o:Operand} {b:Bool}
theorem gVC (h:VC P n D c e O Q):VC P n D c e O Q:=h
theorem gp (a:A) (q:VL P n D .plain ⟨l⟩ L' e' O' Q) (ht:aI P tab:=by exact aa) (h:A->gU tab n ⟨l⟩ (l.map (Fl.one, ·)) e O=some (L',e',O'):=by intro z;simp(disch:=omega) only[Xb,Xc,ints,Oh,strs,ca,Nat.reduceLT,Nat.reduceAdd,Nat.reduceBEq,Int.reduceToNat,z]<;>exact rfl):VC P n D (.region id ⟨l⟩ false) e O Q:=VC.Ri (VL.run ht (h a) q)
theorem gr (a:A) (q:VL P n D .reads ⟨l⟩ L' e' O' Q) (ht:aI P tab:=by exact aa) (h1:P.follows .mixedOrders=true:=by kernel_rfl) (h2:Region.noSelect ⟨l⟩=true:=by kernel_rfl) (h3:cc .reads ⟨l⟩ l.length (Array.replicate l.length false) ((List.range' 0 l.length).map (·,Fl.rd))=true:=by kernel_rfl) (h:A->gU tab n ⟨l⟩ (l.map (Fl.rd, ·)) e O=some (L',e',O'):=by intro z;simp(disch:=omega) only[Xb,Xc,ints,Oh,strs,ca,Nat.reduceLT,Nat.reduceAdd,Nat.reduceBEq,Int.reduceToNat,z]<;>exact rfl):VC P n D (.region id ⟨l⟩ true) e O Q:=VC.Ro h1 h2 h3 (VL.run ht (h a) q)
theorem gc (a:A) (h1:b=true->VC P n D x e O Q) (h2:b=false->VC P n D y e O Q) (h:A->ev e o=some (.v (.bool b)):=by intro z;simp(disch:=omega) only[Xb,Xc,ints,Oh,strs,ca,Nat.reduceLT,Nat.reduceAdd,Nat.reduceBEq,Int.reduceToNat,z]<;>exact rfl):VC P n D (.cond o x y) e O Q:=VC.cond (h a) h1 h2
theorem eR1 (q:R (.ret m) O) (h1:fn.results= #[.tmp t]:=by exact rfl) (h2:look e t=some m:=by simp only[lg,Nat.reduceBEq,cond_true,cond_false]<;>exact rfl):lZ tab fn R .ret e O:=lZ.agM h1 h2 q
theorem eR2 (q:R (.ret (.tuple [m,m'])) O) (h1:fn.results= #[.tmp t,.tmp t']:=by exact rfl) (h2:look e t=some m:=by simp only[lg,Nat.reduceBEq,cond_true,cond_false]<;>exact rfl) (h3:look e t'=some m':=by simp only[lg,Nat.reduceBEq,cond_true,cond_false]<;>exact rfl):lZ tab fn R .ret e O:=lZ.agN h1 h2 h3 q
end
set_option linter.defProp false in
def dcs:=And.intro @decide_eq_true_eq<|And.intro @decide_eq_false_iff_not<|And.intro @beq_iff_eq.{0}<|And.intro @beq_eq_false_iff_ne.{0}<|And.intro @bne_iff_ne.{0} @bne_eq_false_iff_eq.{0}
section
variable {G H:Gh} {n:Sz} {D:List Deferred} {e:Env} {a:Act} {P:Program} {tab:bN} {O O':VH} {w:World} {m m':MV} {u v:Value} {ops:Array Oper} {Q:VQ}
def KA (P:Program) (n:Sz) (D:List Deferred) (o:Oper) (e:Env) (O:VH) (M:MV->VH->Prop):Prop:=∀G a w,WR G O w->FR G n D e a->∃m O',M m O'/\cU P o a w G m O'
theorem ia.Dv {i:Nat} {l:List Nat} {o:Oper} {M:MV->VH->Prop} (ho:ops[i]?=some o) (hg:aK ops o e=some true) (hd:bg n o.dst=true) (hy:KA P n D o e O M) (h:∀m O',M m O'->ia P n D ops l (aV o.dst m e) O' Q):
  ia P n D ops (i::l) e O Q:=by
 intro G a w hw aS;obtain⟨m,O',hM,nx,w',H,u,hr,rL,h1,h2,h3,_⟩:=hy G a w hw aS;simp only[wpOps,ho,bf aS hg,if_true];refine .inl ?_;unfold Oper.wp;rw[hr]
 have hk:wpOps P ops (cu G n D Q) l (a.put o.dst u) w':=by
  exact oJ (fun _ _ _=>cu.le h1) l _ _ (h m O' hM H (a.put o.dst u) w' h2 ((aS.mono h1).aV hd h3))
 rcases rL with rfl | ⟨rfl,rfl⟩
 ·exact hk
 ·exact hk
theorem VL.Dv {o:Oper} {L:List (Fl×Oper)} {M:MV->VH->Prop} (hg:aK ops o e=some true) (hd:bg n o.dst=true) (hy:KA P n D o e O M) (h:∀m O',M m O'->VL P n D .plain ops L (aV o.dst m e) O' Q):
  VL P n D .plain ops ((.one,o)::L) e O Q:=by
 intro fuel listed ix hf hp
 match ix,hf with
 | (i,g)::ix,hf=>
   obtain⟨rfl,ho,hf⟩:=hf;exact ia.Dv ho hg hd hy fun m O' hM=>h m O' hM 0 #[] ix hf (fun h=>absurd rfl h)
def eV (b:UInt8):MV:=.v (.int .u8 b.toNat)
theorem Ic {α :Type} (l:Array α) (x: α) (f: α -> α):(l.push x).modify l.size f=l.push (f x):=by
 apply Array.ext_getElem?;intro i;simp only[Array.getElem?_modify,Array.getElem?_push];by_cases h:i=l.size
 ·subst h;simp
 ·rw[if_neg (Ne.symm h),if_neg h,if_neg h]
theorem FH (w:World) (C:Array Value) (t:TypeId):(w.alloc (.cells C t)).freeze ⟨w.heap.size,C.size,none⟩ 1=w.alloc (.cells C t (C.size,C.size+1)):=by
 simp[World.freeze,World.alloc, -World.alloc_eq,Ic]
theorem Dw (l:List UInt8):aO G (l.map eV) (l.map fun b=>Value.int .u8 b.toNat):=by
 induction l with
 | nil=>exact aO.nil
 | cons b l ih=>exact aO.cons (.v rfl) ih
theorem Te (ht:aI P tab) (h:WR G O w) {src dst el:TypeId} {l:List UInt8} (hs:(tab src).map bS.under=some .string) (hd:(tab dst).map bS.under=some (.slice el)) (he:(tab el).map bS.under=some (.int .u8)) (hl:l.length<=maxLen):
  ∃c,l.length<=c/\c<=maxLen/\gh P (convert src dst (.string ⟨⟨l⟩⟩)) w G (O.push (.cells (l.map eV))) (.bo O.next 0 l.length c):=by
 have bU:=Lib.run_convert_string_bytes w src dst el ⟨⟨l⟩⟩ (bl ht hs) (bl ht hd) (bl ht he);have rH:(⟨⟨l⟩⟩:ByteArray).size=l.length:=rfl;rw[rH]at bU;have gK:=grownCap_ge w l.length 0 el;have hle:=grownCap_le_maxLen w l.length 0 el hl;refine⟨grownCap w l.length 0 el,gK,hle,?_⟩
 have lQ:(Lib.bytesCells w el ⟨⟨l⟩⟩).toList.take (l.map eV).length=l.map fun b=>Value.int .u8 b.toNat:=by
  simp[Lib.bytesCells]
 obtain⟨h1,h2⟩:=h.drew.Wz (cs:=l.map eV) (C:=Lib.bytesCells w el ⟨⟨l⟩⟩) ⟨el,((Lib.bytesCells w el ⟨⟨l⟩⟩).size,(Lib.bytesCells w el ⟨⟨l⟩⟩).size+1),.inr (Nat.le_refl _)⟩ (by rw[lQ];exact Dw l);have hW:Lib.bytesWorld w el ⟨⟨l⟩⟩=w.drew.alloc (.cells (Lib.bytesCells w el ⟨⟨l⟩⟩) el ((Lib.bytesCells w el ⟨⟨l⟩⟩).size,(Lib.bytesCells w el ⟨⟨l⟩⟩).size+1)):=FH w.drew _ _;rw[hW]at bU;exact⟨_,_,_,bU,h1,h2,.bo (aQ _ _ _) gK hle,fun k b hk=>iT.alloc h.drew _ k b hk⟩
theorem VL.bytes (ht:aI P tab) {d:Option Tmp} {src dst el:TypeId} {x:Operand} {ty:TypeId} {ps:String} {af:Array Edge} {g:Option (Nat×Bool)} {L:List (Fl×Oper)} {l:List UInt8}
  (hg:aK ops (.mk d (.convert src dst x) ty ps af g) e=some true) (hx:ev e x=some (.str l)) (hs:(tab src).map bS.under=some .string) (oN:(tab dst).map bS.under=some (.slice el)) (he:(tab el).map bS.under=some (.int .u8)) (hl:l.length<=maxLen) (hd:bg n d=true)
  (h:∀c,l.length<=c->c<=maxLen->VL P n D .plain ops L (aV d (.bo O.next 0 l.length c) e) (O.push (.cells (l.map eV))) Q):
  VL P n D .plain ops ((.one,.mk d (.convert src dst x) ty ps af g)::L) e O Q:=by
 refine VL.Dv (M:=fun m O'=>∃c,l.length<=c/\c<=maxLen/\m= .bo O.next 0 l.length c/\O'=O.push (.cells (l.map eV))) hg hd (fun G a w hw hf=>?_) ?_
 ·have h1:=hf.ev hx;generalize hu:a.eval x=u at h1;cases h1;obtain⟨c,c1,c2,c3⟩:=Te (P:=P) ht hw hs oN he hl;exact⟨_,_,⟨c,c1,c2,rfl,rfl⟩,cU.of c3 (by simp[execOp,hu])⟩
 ·rintro m O' ⟨c,c1,c2,rfl,rfl⟩;exact h c c1 c2
theorem KB (l:List UInt8):∀s:List UInt8,(l.map fun b=>(b.toNat:Int)).foldl (fun(r:ByteArray) (n:Int)=>r.push (UInt8.ofNat n.toNat)) ⟨⟨s⟩⟩=⟨⟨s++l⟩⟩:=by
 induction l with
 | nil=>intro s;simp
 | cons b l ih=>
   intro s;rw[List.map_cons,List.foldl_cons]
   have:(⟨⟨s⟩⟩:ByteArray).push (UInt8.ofNat (b.toNat:Int).toNat)=⟨⟨s++[b]⟩⟩:=by
    simp[ByteArray.push]
   rw[this,ih,List.append_assoc];rfl
theorem Dx (a:Addr) (l:List UInt8) (c:Nat) (w:World) (h:∀j v,(l.map fun b=>Value.int .u8 b.toNat)[j]?=some v->w.cell? (a.add j)=some v):
  (Conv.bytesToString (.slice (some a) l.length c)).run P w= .ok (.string ⟨⟨l⟩⟩) w:=by
 have h1:=run_loadCells_list (P:=P) w a (l.map fun b=>Value.int .u8 b.toNat) h;rw[List.length_map]at h1;rw[run_bytesToString (P:=P) w a l.length c (l.map fun b=>(b.toNat:Int)) (by rw[h1,List.map_map];rfl)];rw[show(ByteArray.empty:ByteArray)=⟨⟨[]⟩⟩from rfl,KB];rfl
theorem KC {l:List UInt8} {us:List Value} (h:aO G (l.map eV) us):us=l.map fun b=>Value.int .u8 b.toNat:=by
 induction l generalizing us with
 | nil=>exact h.iu
 | cons b l ih=>
   obtain⟨u,SP,rfl,h1,h2⟩:=h.ek;rw[ih h2,h1.iv];rfl
theorem GZ (ht:aI P tab) (h:WR G O w) {src dst el:TypeId} {tk:aC} {l:List UInt8} (hs:(tab src).map bS.under=some (.slice el)) (hd:(tab dst).map bS.under=some .string) (he:(tab el).map bS.under=some (.int .u8))
  (hx:VR G (.sl l.length (l.map eV) tk) u):gh P (convert src dst u) w G O (.str l):=by
 have hc:=fun a n c=>run_convert_bytes_string (P:=P) w src dst el a n c (bl ht hs) (bl ht he) (bl ht hd)
 refine⟨.string ⟨⟨l⟩⟩,w,G,?_,Gh.Le.refl G,h,.str,iT.refl _ _⟩;generalize hn:l.length=k at hx;generalize hm:l.map eV=cs at hx;cases hx with
 | slnil=>
   obtain rfl:l=[]:=List.eq_nil_of_length_eq_zero hn;rw[hc];rfl
 | jB=>
   obtain rfl:l=[]:=List.eq_nil_of_length_eq_zero hn;rw[hc];rfl
 | oq=>
   obtain rfl:l=[]:=List.eq_nil_of_length_eq_zero hn;rw[hc];exact Dx _ [] _ w fun j v hv=>by simp at hv
 | sl h1 h2 h3 h4 h5 h6=>
   rename_i us c b o;subst hn hm;have h7:=KC (us:=us) ⟨h1,h3⟩;rw[hc];refine Dx _ l c w fun j v hv=>?_
   rw[<-h7]at hv;rw[Addr.add_lit];exact h.d_ _ _ _ (h2 j v hv)
theorem VL.Xe (ht:aI P tab) {d:Option Tmp} {src dst el:TypeId} {x:Operand} {ty:TypeId} {ps:String} {af:Array Edge} {g:Option (Nat×Bool)} {L:List (Fl×Oper)} {nn:Nat} {cs:List MV} {tk:aC} {l:List UInt8}
  (hg:aK ops (.mk d (.convert src dst x) ty ps af g) e=some true) (hx:ev e x=some (.sl nn cs tk)) (hs:(tab src).map bS.under=some (.slice el)) (oN:(tab dst).map bS.under=some .string) (he:(tab el).map bS.under=some (.int .u8)) (hn:nn=l.length) (lQ:cs=l.map eV) (hd:bg n d=true)
  (h:VL P n D .plain ops L (aV d (.str l) e) O Q):VL P n D .plain ops ((.one,.mk d (.convert src dst x) ty ps af g)::L) e O Q:=by
 subst hn lQ;refine VL.Dv (M:=fun m O'=>m= .str l/\O'=O) hg hd (fun G a w hw hf=>?_) ?_
 ·exact⟨_,_,⟨rfl,rfl⟩,cU.of (GZ (P:=P) ht hw hs oN he (hf.ev hx)) (by simp[execOp])⟩
 ·rintro m O' ⟨rfl,rfl⟩;exact h
end
section
variable {n:Sz} {D:List Deferred} {e e':Env} {P:Program} {tab:bN} {O O':VH} {m m':MV} {ops:Array Oper} {Q:VQ} {md:Md}
def bW:Op->Bool
 | .call c=>match c.callee with
   | .value _=>true
   | .builtin .append=>true
   | _=>false
 | _=>false
def FI:Fl->Bool
 | .fk=>true
 | _=>false
def afm (P:Program) (n:Sz) (Q:VQ) (d:Option Tmp) (O:VH) (K:Env->VH->Prop) (e:Env) (fv:Option MV) (ms:Option (List MV)):Prop:=
 ∃id fs cs l R,fv=some (.func (.func id) fs cs)/\ms=some l/\Enters P id/\bg n d=true/\VF P id (fs++l++cs) O R/\∀r O',R r O'->match r with
  | .ret m=>K (aV d m e) O'
  | .panic m=>Q (.panic m) (jQ n e) O'
def dV (P:Program) (id:FuncId) (l:List MV) (O:VH) (M:MV->VH->Prop):Prop:=
 ∀G w vs,WR G O w->aO G l vs->∃m O' u w' H,M m O'/\(callFunc id vs.toArray).run P w= .ok (.value u) w'/\Gh.Le G H/\WR H O' w'/\VR H m u
def gk:Md->Bool
 | .plain=>true
 | _=>false
def afn (P:Program) (n:Sz) (md:Md) (d:Option Tmp) (O:VH) (K:Env->VH->Prop) (e:Env) (fv:Option MV) (ms:Option (List MV)):Prop:=
 ∃id l M,gk md=true/\fv=some (.func (.func id) [] [])/\ms=some l/\bg n d=true/\dV P id l O M/\∀m O',M m O'->K (aV d m e) O'
def ah (P:Program) (n:Sz) (md:Md) (Q:VQ) (d:Option Tmp) (O:VH) (K:Env->VH->Prop) (e:Env) (fv:Option MV) (ms:Option (List MV)):Prop:=
 afm P n Q d O K e fv ms\/afn P n md d O K e fv ms
def ug (P:Program) (n:Sz) (D:List Deferred) (md:Md) (ops:Array Oper) (Q:VQ) (f:Fl) (o:Oper) (L:List (Fl×Oper)) (e:Env) (O:VH) (K:Env->VH->Prop):Prop:=
 match f,o.op with
 | .one,.call c=>match c.callee with
   | .value x=>ah P n md Q o.dst O K e (ev e x) (fS e c.args.toList)
   | _=>VL P n D md ops ((f,o)::L) e O Q
 | _,_=>VL P n D md ops ((f,o)::L) e O Q
theorem VL.ext {o:Oper} {c:Call} {x:Operand} {id:FuncId} {ms:List MV} {M:MV->VH->Prop} {L:List (Fl×Oper)} (hg:aK ops o e=some true) (xe:o.op= .call c) (hc:c.callee= .value x) (hf:ev e x=some (.func (.func id) [] [])) (hm:fS e c.args.toList=some ms) (hd:bg n o.dst=true)
  (hx:dV P id ms O M) (h:∀m O',M m O'->VL P n D .plain ops L (aV o.dst m e) O' Q):VL P n D .plain ops ((.one,o)::L) e O Q:=by
 intro fuel listed ix qK hp
 match ix,qK with
 | (i,g)::ix,qK=>
   obtain⟨rfl,ho,qK⟩:=qK;intro G a w hw aS;have C7:=aS.ev hf;generalize N3:a.eval x=fv at C7;cases C7 with
   | func h1 h2 h3 h4=>
     rename_i us vs;have js:us=[]:=List.eq_nil_of_length_eq_zero h1;have ot:vs=[]:=List.eq_nil_of_length_eq_zero h3;subst js;subst ot
     have gF:=aS.fS hm;obtain⟨m,O',u,w',H,hM,hr,g1,g2,g3⟩:=hx G w _ hw gF
     have bU:(execOp a.eval o).run P w= .ok (.value u) w':=by
      have ha: #[]++c.args.map a.eval++ #[]=(c.args.toList.map a.eval).toArray:=by apply Array.ext';simp
      simp only[execOp,xe,resolve,hc,N3,Deferred.ofValue,Sem.run_bind,Sem.run_pure,Result.andThen_ok,invoke];rw[ha];exact hr
     simp only[List.map_cons,wpOps,ho,bf aS hg,if_true];refine .inl ?_;unfold Oper.wp;rw[bU];exact oJ (fun _ _ _=>cu.le g1) (ix.map (·.1)) _ _ (h m O' hM 0 #[] ix qK (fun h=>absurd rfl h) H (a.put o.dst u) w' g2 ((aS.mono g1).aV hd g3))
theorem ug.sound {f:Fl} {o:Oper} {L:List (Fl×Oper)} {K:Env->VH->Prop} (hK:∀e O,K e O->VL P n D md ops L e O Q) (hg:aK ops o e=some true) (h:ug P n D md ops Q f o L e O K):VL P n D md ops ((f,o)::L) e O Q:=by
 obtain⟨d,op,ty,ps,af,g⟩:=o;cases f with
 | one=>
   cases op with
   | call c=>
     obtain⟨cl,as_,ts⟩:=c;cases cl with
     | value x=>
       rcases h with h | h
       ·obtain⟨id,fs,cs,l,R,h1,h2,h3,h4,h5,h6⟩:=h;refine VL.call hg h1 h2 rfl h3 h4 h5 fun r O' hr=>?_
        have:=h6 r O' hr;cases r with
        | ret m=>exact hK _ _ this
        | panic m=>exact this
       ·obtain⟨id,l,M,hp,h1,h2,h3,h4,h5⟩:=h;cases md with
        | plain=>exact VL.ext hg rfl rfl h1 h2 h3 h4 fun m O' hM=>hK _ _ (h5 m O' hM)
        | _=>cases hp
     | _=>exact h
   | _=>exact h
 | _=>exact h
def WL (P:Program) (tab:bN) (n:Sz) (D:List Deferred) (md:Md) (ops:Array Oper) (Q:VQ):List (Fl×Oper)->Env->VH->Prop
 | [],e,O=>Q .normal e O
 | (f,o)::L,e,O=>match aK ops o e with
   | none=>False
   | some false=>(match bg n o.dst&& !FI f with
     | true=>WL P tab n D md ops Q L (aV o.dst ca e) O
     | false=>False)
   | some true=>(match bW o.op||FI f with
     | true=>ug P n D md ops Q f o L e O (WL P tab n D md ops Q L)
     | false=>(match gL tab f o e O with
       | none=>VL P n D md ops ((f,o)::L) e O Q
       | some (m,O')=>(match bg n o.dst with
         | true=>WL P tab n D md ops Q L (aV o.dst m e) O'
         | false=>False)))
theorem WL.sound (ht:aI P tab):∀{L:List (Fl×Oper)} {e:Env} {O:VH},WL P tab n D md ops Q L e O->VL P n D md ops L e O Q
 | [],e,O,h=>VL.nil h
 | (f,o)::L,e,O,h=>by
   rw[WL]at h;split at h
   ·exact h.elim
   ·rename_i hg;split at h
    ·rename_i hd;simp only[Bool.and_eq_true,Bool.not_eq_true']at hd;exact VL.skip (by rintro rfl;exact absurd hd.2 (by decide)) hg hd.1 (WL.sound ht h)
    ·exact h.elim
   ·rename_i hg;split at h
    ·exact ug.sound (fun e O h=>WL.sound ht h) hg h
    ·split at h
     ·exact h
     ·split at h
      ·exact VL.step ht hg ‹_› ‹_› (WL.sound ht h)
      ·exact h.elim
def Dy (P:Program) (n:Sz) (tab:bN) (D:List Deferred) (A B:Env->VH->VQ->Prop) (e:Env) (O:VH) (Q:VQ):Option MV->Prop
 | some (.v (.bool true))=>A e O Q
 | some (.v (.bool false))=>B e O Q
 | _=>False
def WC (P:Program) (tab:bN) (n:Sz) (D:List Deferred):Code->Env->VH->VQ->Prop
 | .skip,e,O,Q=>Q .normal e O
 | .exit i,e,O,Q=>Q (.exit i) e O
 | .label _,e,O,Q=>Q .normal e O
 | .ret,e,O,Q=>Q .ret e O
 | .scope c,e,O,Q=>WC P tab n D c e O (rM Q)
 | .block id c,e,O,Q=>WC P tab n D c e O (iV id Q)
 | .seq a b,e,O,Q=>WC P tab n D a e O fun x e O=>match x with
   | .normal=>WC P tab n D b e O Q
   | x=>Q x e O
 | .cond c x y,e,O,Q=>Dy P n tab D (WC P tab n D x) (WC P tab n D y) e O Q (ev e c)
 | .region id ops false,e,O,Q=>WL P tab n D .plain ops Q (ops.toList.map (Fl.one, ·)) e O
 | c,e,O,Q=>VC P n D c e O Q
theorem WC.sound (ht:aI P tab):∀{c:Code} {e:Env} {O:VH} {Q:VQ},WC P tab n D c e O Q->VC P n D c e O Q:=by
 intro c;induction c with
 | skip=>intro e O Q h;exact VC.skip h
 | exit i=>intro e O Q h;exact VC.exit h
 | label l=>intro e O Q h;exact VC.label h
 | ret=>intro e O Q h;exact VC.ret h
 | scope c ih=>intro e O Q h;exact VC.scope (ih h)
 | block id c ih=>intro e O Q h;exact VC.aB (ih h)
 | seq a b iha ihb=>
   intro e O Q h;refine VC.seq (VC.mono ?_ (iha h));intro x e O hx;cases x<;>first | exact ihb hx | exact hx
 | cond c x y ihx ihy=>
   intro e O Q h;simp only[WC]at h;unfold Dy at h;split at h
   ·rename_i he;exact VC.N7 he (ihx h)
   ·rename_i he;exact VC.afk he (ihy h)
   ·exact h.elim
 | region id ops dr=>
   intro e O Q h;cases dr with
   | true=>exact h
   | false=>obtain⟨l⟩:=ops;exact VC.Ri (WL.sound ht h)
 | loop c ih=>intro e O Q h;exact h
 | _=>intro e O Q h;exact h
def sG (K:Env->VH->Prop) (Q:VQ):VQ:=fun x e O=>match x with
 | .normal=>K e O
 | x=>Q x e O
def iy (tab:bN) (e:Env) (O:VH):List ResultVar->Option (List MV)
 | []=>some []
 | r::rs=>(jf tab e O r).bind fun m=>(iy tab e O rs).map (m:: ·)
def iO (R:fU->VH->Prop) (O:VH):Option (List MV)->Prop
 | none=>False
 | some [m]=>R (.ret m) O
 | some l=>R (.ret (.tuple l)) O
def Bt (tab:bN) (rs:List ResultVar) (R:fU->VH->Prop):VQ:=fun x e O=>match x with
 | .normal=>iO R O (iy tab e O rs)
 | .ret=>iO R O (iy tab e O rs)
 | .panic m=>R (.panic m) O
 | _=>False
theorem uh (rs:List ResultVar):iy tab e O rs=rs.mapM (jf tab e O):=by
 induction rs with
 | nil=>rfl
 | cons r rs ih=>
   rw[iy,ih,List.mapM_cons];simp only[Option.bind_eq_bind];cases jf tab e O r with
   | none=>rfl
   | some m=>simp only[Option.bind_some];cases List.mapM (jf tab e O) rs<;>rfl
theorem VF.ofW (ht:aI P tab) {f:FuncId} {fn:Func} {c:Code} {args:List MV} {rs:List ResultVar} {R:fU->VH->Prop} (hf:P.funcs[f]?=some fn) (hb:fn.body=some c) (hk:(⟨fn.ntmps,0⟩:Sz)=n) (hr:fn.results.toList=rs) (hn:args.length<=n.n)
  (h:WC P tab n [] c (cb 0 args) O (Bt tab rs R)):VF P f args O R:=by
 subst hk;refine VF.enter ht hf hb hn (VC.mono ?_ (WC.sound ht h));intro x e O hx
 have key:iO R O (iy tab e O rs)->∃m,dj tab fn e O=some m/\R (.ret m) O:=fun h=>by
  unfold dj;rw[hr, <-uh];generalize iy tab e O rs=z at h;unfold iO at h;split at h
  ·exact h.elim
  ·exact⟨_,rfl,h⟩
  ·rename_i l hl;refine⟨.tuple l,?_,h⟩
   match l,hl with
   | [],_=>rfl
   | [m],hl=>exact absurd rfl (hl m)
   | _::_::_,_=>rfl
 cases x<;>first | exact key hx | exact hx
theorem VF.db {f:FuncId} {fn:Func} {c:Code} {args:List MV} {R:fU->VH->Prop} {Q':Prop} (k:Nat) (rs:List ResultVar) (hf:P.funcs[f]?=some fn) (q:Q') (ht:aI P tab:=by exact aa) (hb:fn.body=some c:=by exact rfl) (hk:(⟨fn.ntmps,0⟩:Sz)=⟨k,0⟩:=by exact rfl) (hr:fn.results.toList=rs:=by exact rfl) (hn:args.length<=k:=by exact Nat.le_of_ble_eq_true rfl) (h:WC P tab ⟨k,0⟩ [] c (cb 0 args) O (Bt tab rs R)=Q':=by conv=>lhs;simp only[cb,Nat.zero_add,Nat.reduceAdd]):VF P f args O R:=VF.ofW ht hf hb hk hr hn (h.mpr q)
def W3 (P:Program) (tab:bN) (n:Sz) (D:List Deferred) (md:Md) (ops:Array Oper) (Q:VQ) (L:List (Fl×Oper)) (e:Env) (O:VH):Bool->Prop
 | true=>WL P tab n D md ops Q L e O
 | false=>False
def W2 (P:Program) (tab:bN) (n:Sz) (D:List Deferred) (md:Md) (ops:Array Oper) (Q:VQ) (f:Fl) (o:Oper) (L:List (Fl×Oper)) (e:Env) (O:VH):Option (MV×VH)->Prop
 | some (m,O')=>W3 P tab n D md ops Q L (aV o.dst m e) O' (bg n o.dst)
 | none=>VL P n D md ops ((f,o)::L) e O Q
def W1 (P:Program) (tab:bN) (n:Sz) (D:List Deferred) (md:Md) (ops:Array Oper) (Q:VQ) (f:Fl) (o:Oper) (L:List (Fl×Oper)) (e:Env) (O:VH):Bool->Option Bool->Prop
 | _,none=>False
 | true,some true=>ug P n D md ops Q f o L e O (WL P tab n D md ops Q L)
 | false,some true=>W2 P tab n D md ops Q f o L e O (gL tab f o e O)
 | _,some false=>W3 P tab n D md ops Q L (aV o.dst ca e) O (bg n o.dst&& !FI f)
section
variable {f:Fl} {o:Oper} {L:List (Fl×Oper)} {d:Option Tmp} {p:Op} {ty:TypeId} {ps:String} {af:Array Edge} {g:Option (Nat×Bool)} {b:Bool}
theorem abD:WL P tab n D md ops Q [] e O=Q .normal e O:=rfl
theorem Xf:WL P tab n D md ops Q ((f,.mk d p ty ps af g)::L) e O=W1 P tab n D md ops Q f (.mk d p ty ps af g) L e O (bW p||FI f) (aK ops (.mk d p ty ps af g) e):=by
 rw[WL];generalize aK ops (.mk d p ty ps af g) e=x;unfold W1;cases x with
 | none=>rfl
 | some b=>
   cases b with
   | false=>
     simp only;unfold W3;split<;>simp only
     all_goals (split<;>rename_i h<;>simp_all)
   | true=>
     simp only;generalize (bW p||FI f)=y;cases y with
     | true=>rfl
     | false=>
       simp only;unfold W2;cases gL tab f (.mk d p ty ps af g) e O with
       | none=>rfl
       | some r=>unfold W3;cases bg n d<;>rfl
theorem Xg:W1 P tab n D md ops Q f o L e O true (some true)=ug P n D md ops Q f o L e O (WL P tab n D md ops Q L):=rfl
theorem afo:W1 P tab n D md ops Q f o L e O false (some true)=W2 P tab n D md ops Q f o L e O (gL tab f o e O):=rfl
theorem Xh:W1 P tab n D md ops Q f (.mk d p ty ps af g) L e O b (some false)=W3 P tab n D md ops Q L (aV d ca e) O (bg n d&& !FI f):=by cases b<;>rfl
theorem Xi:W2 P tab n D md ops Q f (.mk d p ty ps af g) L e O (some (m,O'))=W3 P tab n D md ops Q L (aV d m e) O' (bg n d):=rfl
theorem Xj:W2 P tab n D md ops Q f o L e O none=VL P n D md ops ((f,o)::L) e O Q:=rfl
theorem Xk:W3 P tab n D md ops Q L e O true=WL P tab n D md ops Q L e O:=rfl
variable {K:Env->VH->Prop} {x:Operand} {as_:Array Operand} {ts:Array TypeId}
theorem KD:ug P n D md ops Q .one (.mk d (.call {callee:=.value x,args:=as_,argTypes:=ts}) ty ps af g) L e O K=ah P n md Q d O K e (ev e x) (fS e as_.toList):=rfl
theorem FJ:ug P n D md ops Q f (.mk d (.call {callee:=.builtin .append,args:=as_,argTypes:=ts}) ty ps af g) L e O K=VL P n D md ops ((f,.mk d (.call {callee:=.builtin .append,args:=as_,argTypes:=ts}) ty ps af g)::L) e O Q:=by cases f<;>rfl
end
section
variable {c a b:Code} {i id:Nat} {A B:Env->VH->VQ->Prop} {l:List Oper} {K:Env->VH->Prop} {R:fU->VH->Prop} {rs:List ResultVar} {r:ResultVar} {t:Nat} {m1 m2 m3:MV} {x:Operand} {y:Code}
theorem Xl:WC P tab n D .skip e O Q=Q .normal e O:=rfl
theorem Xm:WC P tab n D (.exit i) e O Q=Q (.exit i) e O:=rfl
theorem Tf:WC P tab n D (.label i) e O Q=Q .normal e O:=rfl
theorem abE:WC P tab n D .ret e O Q=Q .ret e O:=rfl
theorem Tg:WC P tab n D (.scope c) e O Q=WC P tab n D c e O (rM Q):=rfl
theorem Th:WC P tab n D (.block id c) e O Q=WC P tab n D c e O (iV id Q):=rfl
def Xn (P:Program) (tab:bN) (n:Sz) (D:List Deferred) (b:Code) (Q:VQ):Env->VH->Prop:=fun e O=>WC P tab n D b e O Q
theorem Ti:Xn P tab n D b Q e O=WC P tab n D b e O Q:=rfl
theorem abF:WC P tab n D (.seq a b) e O Q=WC P tab n D a e O (sG (Xn P tab n D b Q) Q):=rfl
theorem Xo:WC P tab n D (.cond x a b) e O Q=Dy P n tab D (WC P tab n D a) (WC P tab n D b) e O Q (ev e x):=rfl
theorem Oi:WC P tab n D (.region id ⟨l⟩ false) e O Q=WL P tab n D .plain ⟨l⟩ Q (l.map (Fl.one, ·)) e O:=rfl
theorem Tj:WC P tab n D (.region id ops true) e O Q=VC P n D (.region id ops true) e O Q:=rfl
theorem Xp:WC P tab n D (.loop c) e O Q=VC P n D (.loop c) e O Q:=rfl
theorem Ie:sG K Q .normal e O=K e O:=rfl
theorem Oj:sG K Q (.exit i) e O=Q (.exit i) e O:=rfl
theorem Ok:sG K Q (.goto i) e O=Q (.goto i) e O:=rfl
theorem Tl:sG K Q .ret e O=Q .ret e O:=rfl
theorem Bu:sG K Q (.panic m) e O=Q (.panic m) e O:=rfl
theorem Xq:Dy P n tab D A B e O Q (some (.v (.bool true)))=A e O Q:=rfl
theorem Xr:Dy P n tab D A B e O Q (some (.v (.bool false)))=B e O Q:=rfl
theorem Tm:iy tab e O []=some []:=rfl
theorem Ol:iy tab e O (r::rs)=(jf tab e O r).bind fun m=>(iy tab e O rs).map (m:: ·):=rfl
theorem Ig:jf tab e O (.tmp t)=look e t:=rfl
theorem FK {ty:TypeId}:jf tab e O (.cell t ty)=(look e t).bind (ey tab O ty):=rfl
theorem abG:iO R O (some [])=R (.ret (.tuple [])) O:=rfl
theorem abH:iO R O (some [m])=R (.ret m) O:=rfl
theorem abI:iO R O (some [m,m1])=R (.ret (.tuple [m,m1])) O:=rfl
theorem abJ:iO R O (some [m,m1,m2])=R (.ret (.tuple [m,m1,m2])) O:=rfl
theorem abK:iO R O (some [m,m1,m2,m3])=R (.ret (.tuple [m,m1,m2,m3])) O:=rfl
theorem Ih:Bt tab rs R .normal e O=iO R O (iy tab e O rs):=rfl
theorem Tn:Bt tab rs R .ret e O=iO R O (iy tab e O rs):=rfl
theorem KE:Bt tab rs R (.panic m) e O=R (.panic m) O:=rfl
def dk (P:Program) (f:FuncId):Bool:=match P.funcs[f]? with
 | some fn=> !(fn.name== "runtime.NumGoroutine")&&fn.body.isSome
 | none=>false
theorem Enters.sY {f:FuncId} (h:dk P f=true):Enters P f:=by
 unfold dk at h;split at h
 ·rename_i fn hf;simp only[Bool.and_eq_true,Bool.not_eq_true']at h;exact Enters.of hf h.1 (by cases hb:fn.body with | none=>rw[hb]at h;exact absurd h.2 (by decide) | some c=>rfl)
 ·cases h
theorem ah.rt {f:FuncId} {fs cs ms as_:List MV} {d:Option Tmp} {Φ :MV->VH->Prop} (hR:VF P f as_ O (aL Φ)) (h:∀m O', Φ m O'->K (aV d m e) O') (hb:dk P f=true:=by kernel_rfl) (ha:fs++ms++cs=as_:=by exact rfl) (hd:bg n d=true:=by exact rfl):
  ah P n md Q d O K e (some (.func (.func f) fs cs)) (some ms):=by
 subst ha
 exact .inl ⟨f,fs,cs,ms,_,rfl,rfl,Enters.sY hb,hd,hR,fun r O' hr=>by
  cases r with
  | ret m=>exact h m O' hr
  | panic m=>exact hr.elim⟩
theorem ah.p {f:FuncId} {fs cs ms as_:List MV} {d:Option Tmp} {R:fU->VH->Prop} (hR:VF P f as_ O R) (h:∀m O',R (.ret m) O'->K (aV d m e) O') (h2:∀m O',R (.panic m) O'->Q (.panic m) (jQ n e) O') (hb:dk P f=true:=by kernel_rfl) (ha:fs++ms++cs=as_:=by exact rfl) (hd:bg n d=true:=by exact rfl):
  ah P n md Q d O K e (some (.func (.func f) fs cs)) (some ms):=by
 subst ha
 exact .inl ⟨f,fs,cs,ms,R,rfl,rfl,Enters.sY hb,hd,hR,fun r O' hr=>by
  cases r with
  | ret m=>exact h m O' hr
  | panic m=>exact h2 m O' hr⟩
theorem ah.ext {f:FuncId} {ms:List MV} {d:Option Tmp} {M:MV->VH->Prop} (hx:dV P f ms O M) (hd:bg n d=true) (h:∀m O',M m O'->K (aV d m e) O'):ah P n .plain Q d O K e (some (.func (.func f) [] [])) (some ms):=
 .inr ⟨f,ms,M,rfl,rfl,rfl,hd,hx,h⟩
theorem dV.of {f:FuncId} {fn:Func} {ex:Array Value->Sem Value} {ms:List MV} (hf:P.funcs[f]?=some fn) (afp:(fn.name== "runtime.NumGoroutine")=false) (hb:fn.body.isNone=true) (hn:Extern.findNext fn=none) (he:Extern.find fn=some ex)
  (hr:∀G w vs,WR G O w->aO G ms vs->∃u,(ex vs.toArray).run P w= .ok u w/\VR G m u):dV P f ms O fun m' O'=>m'=m/\O'=O:=by
 intro G w vs hw hv;obtain⟨u,h1,h2⟩:=hr G w vs hw hv;exact⟨m,O,u,w,G,⟨rfl,rfl⟩,by rw[run_callFunc_extern hf afp hb hn he,h1];rfl,Gh.Le.refl G,hw,h2⟩
theorem WC.reads {id:Nat} {l:List Oper}
  (h:WL P tab n D .reads ⟨l⟩ Q (l.map (Fl.rd, ·)) e O) (ht:aI P tab:=by exact aa) (hm:P.follows .mixedOrders=true:=by kernel_rfl) (hs:Region.noSelect ⟨l⟩=true:=by kernel_rfl) (hp:cc .reads ⟨l⟩ l.length (Array.replicate l.length false) ((List.range' 0 l.length).map (·,Fl.rd))=true:=by kernel_rfl):VC P n D (.region id ⟨l⟩ true) e O Q:=VC.Ro hm hs hp (WL.sound ht h)
theorem WC.bM (md:Md) (ix:List (Nat×Fl)) {id:Nat} {l:List Oper} {L:List (Fl×Oper)}
  (h:WL P tab n D md ⟨l⟩ Q L e O) (ht:aI P tab:=by exact aa) (hne:md≠ .plain:=by simp) (hm:P.follows .mixedOrders=true:=by kernel_rfl) (hs:Region.noSelect ⟨l⟩=true:=by kernel_rfl) (hp:cc md ⟨l⟩ l.length (Array.replicate l.length false) ix=true:=by kernel_rfl) (hL:mZ l ix=some L:=by exact rfl):VC P n D (.region id ⟨l⟩ true) e O Q:=VC.Rj md ix hne hm hs hp hL (WL.sound ht h)
variable {σ :Type} {ls Ks:List Nat} {ks:List MV} {ms: σ ->List MV} {I: σ ->VH->Prop} {μ : σ ->Nat} {s: σ}
theorem WC.iw (ls Ks:List Nat) (ms: σ ->List MV) (I: σ ->VH->Prop) (μ : σ ->Nat) (s0: σ) (hI:I s0 O)
  (step:∀s O,I s O->WC P tab n D c (kM ls (ms s) (kM Ks ks [])) O (aD ls Ks ks ms I μ s Q)) (ht:aI P tab:=by exact aa) (h0:looks e ls=some (ms s0):=by exact rfl) (hk:looks e Ks=some ks:=by exact rfl):VC P n D (.loop c) e O Q:=
 VC.iw ls Ks ms I μ s0 h0 hk hI fun s O h=>WC.sound ht (step s O h)
end
theorem VL.app {d:Option Tmp} {x y:Operand} {t ty:TypeId} {ps:String} {af:Array Edge} {g:Option (Nat×Bool)} {L:List (Fl×Oper)} {p q:MV} (hv:gJ tab O t p q=some (m,O')) (h:WL P tab n D md ops Q L (aV d m e) O') (ht:aI P tab:=by exact aa) (hx:ev e x=some p:=by exact rfl) (hy:ev e y=some q:=by exact rfl) (hg:aK ops (.mk d (.call {callee:=.builtin .append,args:= #[x,y],argTypes:= #[t,t]}) ty ps af g) e=some true:=by exact rfl) (hd:bg n d=true:=by exact rfl):
  VL P n D md ops ((.one,.mk d (.call {callee:=.builtin .append,args:= #[x,y],argTypes:= #[t,t]}) ty ps af g)::L) e O Q:=
 VL.step ht hg (by rw[vA,cD,hx,hy];exact hv) hd (WL.sound ht h)
end
section
variable {G H:Gh} {n:Sz} {D:List Deferred} {e:Env} {a:Act} {P:Program} {tab:bN} {O O':VH} {w:World} {m m':MV} {u v:Value} {ops:Array Oper} {Q:VQ} {md:Md}
def eJ (P:Program) (n:Sz) (D:List Deferred) (o:Oper) (e:Env) (O:VH) (M:MV->VH->Prop):Prop:=
 ∀G a w,WR G O w->FR G n D e a->∃m O' u w' H,M m O'/\(execOp a.eval o).run P w= .ok (.value u) w'/\Gh.Le G H/\WR H O' w'/\VR H m u
theorem aG.nM {i:Nat} {o:Oper} {M:MV->VH->Prop} {K:Env->VH->Prop} (ho:ops[i]?=some o) (hg:aK ops o e=some true) (hd:bg n o.dst=true) (hy:eJ P n D o e O M) (h:∀m O',M m O'->K (aV o.dst m e) O'):aG P n D ops i e O Q K:=by
 intro G a w hw aS;obtain⟨m,O',u,w',H,hM,hr,h1,h2,h3⟩:=hy G a w hw aS;simp only[wpOp,ho,bf aS hg,if_true];refine .inl ?_;unfold Oper.wp;rw[hr];exact⟨_,_,H,h1,h2,(aS.mono h1).aV hd h3,h _ _ hM⟩
theorem VL.nM {o:Oper} {L:List (Fl×Oper)} {M:MV->VH->Prop} (hg:aK ops o e=some true) (hd:bg n o.dst=true) (hA:FD o.op=true->∀brk,md= .held brk->brk≠[]) (hb:∀brk,md= .held brk->FD o.op=false\/brk≠[]) (hy:eJ P n D o e O M)
  (oK:∀brk,md= .held brk->∀i,ops[i]?=some o->brk.contains i=true) (h:∀m O',M m O'->VL P n D md ops L (aV o.dst m e) O' Q):VL P n D md ops ((.one,o)::L) e O Q:=by
 intro fuel listed ix hf hp
 match ix,hf with
 | (i,g)::ix,hf=>
   obtain⟨rfl,ho,hf⟩:=hf;cases md with
   | plain=>exact ia.one (aG.nM ho hg hd hy fun m O' hM=>h m O' hM 0 #[] ix hf (fun h=>absurd rfl h))
   | any=>
     obtain⟨h1,h2⟩:=hp (by simp);cases fuel with
     | zero=>cases h2
     | succ fuel=>
       simp only[cc,Bool.and_eq_true]at h2;have hr:Region.ready .any ops listed=[i]:=by simpa using h2.1
       exact bP.all hr (by simp) fun j hj=>by
        obtain rfl:j=i:=by simpa using hj
        exact aG.nM ho hg hd hy fun m O' hM=>h m O' hM fuel (listed.setIfInBounds j true) ix hf (fun _=>⟨h1,h2.2⟩)
   | reads=>
     obtain⟨h1,h2⟩:=hp (by simp);cases fuel with
     | zero=>cases h2
     | succ fuel=>
       simp only[cc,Bool.and_eq_true]at h2;exact absurd h2.1 (by simp)
   | held brk=>
     obtain⟨h1,h2⟩:=hp (by simp);cases fuel with
     | zero=>cases h2
     | succ fuel=>
       simp only[cc,Bool.and_eq_true]at h2;have hr:Region.ready .any ops listed=[i]:=by simpa using h2.1.1
       have BR:∀j,(listed.setIfInBounds i true).getD j true=false\/j=i->brk.contains j=true:=by
        rcases qJ ho h2.1.2 with⟨h3,_⟩ | h3
        ·rw[oK brk rfl i ho]at h3;cases h3
        ·exact h3
       exact bq.WZ hr BR (aG.nM ho hg hd hy fun m O' hM=>h m O' hM fuel (listed.setIfInBounds i true) ix hf (fun _=>⟨h1,h2.2⟩))
theorem VL.nN {o:Oper} {L:List (Fl×Oper)} {M:MV->VH->Prop} (hy:eJ P n D o e O M) (h:∀m O',M m O'->VL P n D md ops L (aV o.dst m e) O' Q) (hmd:md= .plain\/md= .any:=by exact .inl rfl) (hg:aK ops o e=some true:=by exact rfl) (hd:bg n o.dst=true:=by exact rfl):VL P n D md ops ((.one,o)::L) e O Q:=by
 rcases hmd with rfl | rfl
 ·exact VL.nM hg hd (fun _ _ h=>by cases h) (fun _ h=>by cases h) hy (fun _ h=>by cases h) h
 ·exact VL.nM hg hd (fun _ _ h=>by cases h) (fun _ h=>by cases h) hy (fun _ h=>by cases h) h
def yC (O:VH) (sz:Nat):MV->Option (Nat×List MV)
 | .sl k ds _=>if ds.length=k*sz then some (k,ds)else none
 | .bo k o n _=>match O.hp k with
   | some (.cells cs)=>if o+n*sz<=cs.length then some (n,(cs.drop o).take (n*sz))else none
   | _=>none
 | .str l=>if sz=1 then some (l.length,l.map eV)else none
 | _=>none
def yD:MV->TypeDesc->Prop
 | .str _,.string=>True
 | .str _,_=>False
 | _,.slice _=>True
 | _,_=>False
theorem strCells_eq (l:List UInt8):byteCells (⟨⟨l⟩⟩:ByteArray)=l.map fun b=>Value.int .u8 b.toNat:=by simp[byteCells]
theorem yE (h:WR G O w) {sz k:Nat} {ds:List MV} {tx:TypeId} {d:TypeDesc} (hs:yC O sz m=some (k,ds)) (hx:VR G m u) (ht:P.underlying tx=some d) (hd:yD m d) (gG:ds.all dh=true):∃us,Src P sz tx u k us w/\aO G ds us:=by
 unfold yC at hs;split at hs
 ·split at hs
  ·rename_i k' jS tk hl;injection hs with hs;injection hs with e1 e2;subst e1;subst e2
   have hk:∃e',P.underlying tx=some (.slice e'):=by
    cases d<;>simp only[yD]at hd
    exact⟨_,ht⟩
   obtain⟨e',hk⟩:=hk
   have nil:∀A c,k'=0->jS=[]->VR G (.sl k' jS tk) (.slice A 0 c)->∃us,Src P sz tx (.slice A 0 c) k' us w/\aO G jS us:=fun A c e1 e2 _=>by
    subst e1;subst e2
    refine⟨[],?_,aO.nil⟩;cases A with
    | none=>exact Src.ofNil w hk c
    | some A=>exact Src.ofSlice w hk A 0 c [] (by simp) (fun j u hu=>by simp at hu) (fun u hu=>by cases hu)
   cases hx with
   | slnil=>exact nil _ _ rfl rfl .slnil
   | oq h1=>exact nil _ _ rfl rfl (.oq h1)
   | jB=>exact nil _ _ rfl rfl .jB
   | sl h1 h2 h3 h4 h5 h6=>
     rename_i us c b o;have hv:aO G jS us:=⟨h1,h3⟩;exact⟨us,Src.ofSlice w hk _ k' c us (by rw[h1,hl]) (fun j u hu=>by rw[Addr.add_lit];exact h.d_ _ _ _ (h2 j u hu)) (w6 hv gG),hv⟩
  ·cases hs
 ·rename_i k' o n' c';split at hs
  ·rename_i cs BU;split at hs
   ·rename_i hle;injection hs with hs;injection hs with e1 e2;subst e1;subst e2
    have hk:∃e',P.underlying tx=some (.slice e'):=by
     cases d<;>simp only[yD]at hd
     exact⟨_,ht⟩
    obtain⟨e',hk⟩:=hk;cases hx with
    | bo hp hn hm=>
      rename_i b;obtain⟨b',C,T,h1,h2,h3⟩:=h.cells k' cs BU;rw[hp]at h1;injection h1 with h1;subst h1
      have hv:=(h3.drop o).take (n'*sz);refine⟨_,Src.ofSlice w hk ⟨b,o,none⟩ n' c' _ ?_ (fun j u hu=>?_) (w6 hv gG),hv⟩
      ·rw[hv.1];simp;omega
      ·rw[Addr.add_lit];rw[List.getElem?_take]at hu;split at hu
       ·rw[List.getElem?_drop,List.getElem?_take]at hu;split at hu
        ·simp only[World.cell?,h2,Option.isSome_none,Bool.false_eq_true,if_false];simpa using hu
        ·cases hu
       ·cases hu
   ·cases hs
  ·cases hs
 ·rename_i l;split at hs
  ·rename_i rH;subst rH;injection hs with hs;injection hs with e1 e2;subst e1;subst e2
   have hk:P.underlying tx=some .string:=by
    cases d<;>simp only[yD]at hd
    exact ht
   cases hx;refine⟨_,Src.ofString w hk ⟨⟨l⟩⟩,?_⟩;rw[strCells_eq];exact Dw l
  ·cases hs
 ·cases hs
theorem Xs {α :Type} {s:Sem α} {x y: α} {w1 w2:World} (h1:s.run P w= .ok x w1) (h2:s.run P w= .ok y w2):w1=w2:=by
 rw[h1]at h2;injection h2
theorem Om (h:WR G O w) {k b i:Nat} {cs:List MV} (hk:O.hp k=some (.cells cs)) (hp:G.cy k=some b) (hi:i<cs.length):(w.cell? ⟨b,i,none⟩).isSome=true/\w.frozen? ⟨b,i,none⟩=false:=by
 obtain⟨b',C,T,e1,e2,e3⟩:=h.cells k cs hk;rw[hp]at e1;injection e1 with e1;subst e1
 have hlen:i<C.size:=by have:=e3.1;simp at this;omega
 constructor
 ·simp only[World.cell?,e2,Option.isSome_none,Bool.false_eq_true,if_false,Array.getElem?_eq_getElem hlen,Option.isSome_some]
 ·obtain⟨t',⟨lo,hi⟩,dD⟩:=T;dsimp only at e2 dD;simp only[World.frozen?,e2,Bool.and_eq_false_imp,decide_eq_true_eq,decide_eq_false_iff_not];intro;omega
theorem KF (ht:aI P tab) (h:WR G O w) {t tx ty el:TypeId} {te:bS} {d:TypeDesc} {k o n' c j:Nat} {cs ds:List MV} (hu:(tab t).map bS.under=some (.slice el)) (he:tab el=some te) (ui:P.underlying tx=some d) (hk:O.hp k=some (.cells cs)) (hs:yC O te.size m=some (j,ds)) (hd:yD m d) (gG:ds.all dh=true)
  (nO:n'+j<=c) (hle:o+n'*te.size+ds.length<=cs.length) (hx:VR G (.bo k o n' c) u) (hy:VR G m v):
  ∃w' A,(Builtin.append_ #[t,tx] ty #[u,v]).run P w= .ok (.slice A (n'+j) c) w'/\WR G (O.set k (.cells (dJ cs (o+n'*te.size) ds))) w'/\VR G (.bo k o (n'+j) c) (.slice A (n'+j) c):=by
 obtain⟨ti,z,i1,i2,i3,i4,i5,i6⟩:=(ht _ te he).info;obtain⟨us,n7,hv⟩:=yE (P:=P) h hs hy ui hd gG;cases hx with
 | bo hp hn hm=>
   rename_i b;have k_:=fun(q:Nat) (hq:q<us.length)=>Om h (i:=o+n'*te.size+q) hk hp (by have:=hv.1;omega)
   rw[<-i2]at n7 k_;have hr:=run_append_room_src (P:=P) w t tx ty el ti (bl ht hu) i1 b o n' c v j us n7 nO (fun q hq=>(k_ q hq).1) (fun q hq=>(k_ q hq).2);obtain⟨w2,fc,wa⟩:=w8 (P:=P) hp (o+n'*te.size) ds us 0 cs O w h hk hv gG (by omega);have gy:=run_storeCells_cells (P:=P) b (o+n'*ti.size) us 0 w (by simpa using fun q hq=>(k_ q hq).1) (by simpa using fun q hq=>(k_ q hq).2) n7.one;rw[i2]at gy;have:=Xs fc gy;subst this;rw[i2]at hr;exact⟨_,_,hr,by simpa using wa,.bo hp nO hm⟩
def VH.xh (O:VH) (cs:List MV) (t:TypeId) (n:Nat):VH:=(O.push (.cells cs)).push (.shape O.next t n)
theorem yF (ht:aI P tab) (h:WR G O w) {t tx ty el:TypeId} {te:bS} {d:TypeDesc} {n' c j:Nat} {A:Option Addr} {L ds:List MV} {us:List Value} (hu:(tab t).map bS.under=some (.slice el)) (he:tab el=some te) (ui:P.underlying tx=some d) (hs:yC O te.size m=some (j,ds)) (hd:yD m d) (gG:ds.all dh=true)
  (hL:aO G L us) (nP:L.length=n'*te.size) (hold:(Builtin.firstCells te.size n' (.slice A n' c)).run P w.drew= .ok us.toArray w.drew) (nO:c<n'+j) (hb:(n'+j)*te.bytes<=140737488355328) (hm:n'+j<=maxLen) (hy:VR G m v):
  ∃c' w' H zs,n'+j<=c'/\c'<=maxLen/\zs.length=(c' - (n'+j))*te.size/\(Builtin.append_ #[t,tx] ty #[.slice A n' c,v]).run P w= .ok (.slice (some ⟨w.heap.size,0,none⟩) (n'+j) c') w'/\Gh.Le G H/\WR H (O.xh (L++ds++zs) el (c'*te.size)) w'/\VR H (.bo O.next 0 (n'+j) c') (.slice (some ⟨w.heap.size,0,none⟩) (n'+j) c'):=by
 obtain⟨ti,z,i1,i2,i3,i4,i5,i6⟩:=(ht _ te he).info;obtain⟨vs,n7,hv⟩:=yE (P:=P) h hs hy ui hd gG;have gK:=grownCap_ge w (n'+j) c el;have hle:=grownCap_le_maxLen w (n'+j) c el hm;have Xt:=n7;rw[<-i2]at Xt hold;have hr:=run_append_grow_src (P:=P) w t tx ty el ti z (bl ht hu) i1 i4 A n' c us hold v j vs Xt nO (by simp only[maxLen]at hm;omega) (by rw[i3];exact growslice_fits (by omega) hb)
 have hzc:aO G (ij te.zero ((grownCap w (n'+j) c el - (n'+j))*te.size)) (Builtin.zeroCells z.cells (grownCap w (n'+j) c el - (n'+j))).toList:=by
  rcases Nat.eq_zero_or_pos te.zero.length with hz | hz
  ·have hz0:te.size=0:=by have:=(i6 G).1;rw[Array.length_toList,i5]at this;omega
   have:z.cells.size=0:=by rw[i5,hz0]
   rw[hz0,Nat.mul_zero];refine⟨by simp[ij,Builtin.zeroCells,this],fun i c u hc=>by simp[ij]at hc⟩
  ·have hzz:=w9 (i6 G) hz ((grownCap w (n'+j) c el - (n'+j))*te.size);rw[<-i5]at hzz ⊢;exact hzz
 have jC:=(hL.append hv).append hzc;obtain⟨g1,g2⟩:=h.drew.push (cs:=L++ds++ij te.zero ((grownCap w (n'+j) c el - (n'+j))*te.size)) (C:=(us++vs).toArray++Builtin.zeroCells z.cells (grownCap w (n'+j) c el - (n'+j))) el (by simpa using jC);have rI:(us++vs).length=(n'+j)*te.size:=by rw[List.length_append,hL.1,nP,n7.newsLen,Nat.add_mul]
 have rH:((us++vs).toArray++Builtin.zeroCells z.cells (grownCap w (n'+j) c el - (n'+j))).size=grownCap w (n'+j) c el*te.size:=by
  rw[Array.size_append,J1,i5,List.size_toArray,rI, <-Nat.add_mul]
  congr 1;omega
 refine⟨grownCap w (n'+j) c el,_,_,ij te.zero ((grownCap w (n'+j) c el - (n'+j))*te.size),gK,hle,by simp[ij],hr,g1,g2.C4 (aQ _ _ _) ?_,.bo (aQ _ _ _) gK hle⟩
 have:(w.drew.alloc (.cells ((us++vs).toArray++Builtin.zeroCells z.cells (grownCap w (n'+j) c el - (n'+j))) el)).heap[w.drew.heap.size]?=some (.cells ((us++vs).toArray++Builtin.zeroCells z.cells (grownCap w (n'+j) c el - (n'+j))) el):=by
  rw[ft,if_pos rfl]
 show World.shape? _ w.drew.heap.size=_;simp only[World.shape?,this,rH]
structure Row (O:VH) (el:TypeId) (sz B k c:Nat) (L:List MV):Prop where
 cells:∃sp,O.hp k=some (.cells (L++sp))/\(L++sp).length=c*sz
 nK:∃j,B<=j/\j<O.next/\O.hp j=some (.shape k el (c*sz))
 lo:B<=k
 hi:k<O.next
structure bk (O:VH) (q:Option Nat) (O':VH):Prop where
 next:O.next<=O'.next
 hp:∀i,i<O.next->q≠some i->O'.hp i=O.hp i
def gid:MV->Option Nat
 | .bo k _ _ _=>some k
 | .ptr k _=>some k
 | _=>none
def GR (O:VH) (el:TypeId) (sz B:Nat) (p:MV) (n:Nat) (L:List MV):Prop:=
 (n=0/\L=[]/\(p= .sl 0 [] .nil\/p= .sl 0 [] .full))\/∃k c,p= .bo k 0 n c/\n<=c/\L.length=n*sz/\Row O el sz B k c L
section
variable {el:TypeId} {sz B B' k c q:Nat} {L:List MV} {O1:VH} {x:bV}
theorem bk.refl (O:VH) (q:Option Nat):bk O q O:=⟨Nat.le_refl _,fun _ _ _=>rfl⟩
theorem bk.l0 (h:O.Ge O'):bk O none O':=⟨h.next,fun i hi _=>h.hp i hi⟩
theorem bk.trans {o:Option Nat} (h:bk O o O1) (h2:bk O1 o O'):bk O o O':=⟨Nat.le_trans h.next h2.next,fun i hi hq=>(h2.hp i (Nat.lt_of_lt_of_le hi h.next) hq).trans (h.hp i hi hq)⟩
theorem bk.any {o:Option Nat} (h:bk O none O'):bk O o O':=⟨h.next,fun i hi _=>h.hp i hi (by simp)⟩
theorem bk.set:bk O (some q) (O.set q x):=⟨Nat.le_refl _,fun i _ h=>VH.ak _ _ (fun e=>h (by rw[e]))⟩
theorem bk.push:bk O none (O.push x):=⟨Nat.le_succ _,fun i hi _=>VH.cY _ _ hi⟩
theorem bk.kill:bk O (some q) (O.kill q):=⟨Nat.le_refl _,fun i _ h=>VH.kT _ (fun e=>h (by rw[e]))⟩
theorem Row.oO (h:Row O el sz B k c L) (u:bk O (some q) O') (hq:q≠k) (hs:∀t n,O.hp q≠some (.shape k t n)):Row O' el sz B k c L:=by
 obtain⟨sp,h1,h2⟩:=h.cells;obtain⟨j,h3,h4,h5⟩:=h.nK;refine⟨⟨sp,(u.hp k h.hi (by simpa using hq)).trans h1,h2⟩,⟨j,h3,Nat.lt_of_lt_of_le h4 u.next,(u.hp j h4 ?_).trans h5⟩,h.lo,Nat.lt_of_lt_of_le h.hi u.next⟩;intro e;injection e with e;subst e;exact hs _ _ h5
theorem Row.Dz (h:Row O el sz B k c L) (u:bk O none O'):Row O' el sz B k c L:=by
 obtain⟨sp,h1,h2⟩:=h.cells;obtain⟨j,h3,h4,h5⟩:=h.nK;exact⟨⟨sp,(u.hp k h.hi (by simp)).trans h1,h2⟩,⟨j,h3,Nat.lt_of_lt_of_le h4 u.next,(u.hp j h4 (by simp)).trans h5⟩,h.lo,Nat.lt_of_lt_of_le h.hi u.next⟩
theorem GR.Dz {p:MV} {n:Nat} (h:GR O el sz B p n L) (u:bk O none O'):GR O' el sz B p n L:=by
 rcases h with h | ⟨k,c,h1,h2,h3,h4⟩
 ·exact .inl h
 ·exact .inr ⟨k,c,h1,h2,h3,h4.Dz u⟩
theorem GR.oO {p:MV} {n:Nat} (h:GR O el sz B p n L) (u:bk O (some q) O') (hq:gid p≠some q) (hs:∀k t n,O.hp q≠some (.shape k t n)):GR O' el sz B p n L:=by
 rcases h with h | ⟨k,c,h1,h2,h3,h4⟩
 ·exact .inl h
 ·exact .inr ⟨k,c,h1,h2,h3,h4.oO u (fun e=>hq (by rw[h1,e];rfl)) (hs k)⟩
theorem Row.adL {L':List MV} (h:Row O el sz B k c L) {sp:List MV} (hl:(L'++sp).length=c*sz):Row (O.set k (.cells (L'++sp))) el sz B k c L':=by
 obtain⟨j,h3,h4,h5⟩:=h.nK;refine⟨⟨sp,VH.an _ _ _,hl⟩,⟨j,h3,h4,?_⟩,h.lo,h.hi⟩;rw[VH.ak _ _ (fun e=>?_)]
 ·exact h5
 ·subst e;obtain⟨sp,h1,_⟩:=h.cells;rw[h1]at h5;cases h5
theorem Row.afq (h:Row O el sz B k c L) (hB:B'<=B):Row O el sz B' k c L:=by
 obtain⟨j,h3,h4,h5⟩:=h.nK;exact⟨h.cells,⟨j,Nat.le_trans hB h3,h4,h5⟩,Nat.le_trans hB h.lo,h.hi⟩
theorem Row.xh {cs:List MV} {t:TypeId} {sp:List MV} (hl:(L++sp).length=c*sz) (hB:B<=O.next):Row (O.xh (L++sp) el (c*sz)) el sz B O.next c L:=
 ⟨⟨sp,(VH.cY _ _ (by show O.next<O.next+1;omega)).trans (VH.aZ _ _),hl⟩,⟨O.next+1,by omega,by show O.next+1<O.next+1+1;omega,VH.aZ _ _⟩,hB,by show O.next<O.next+1+1;omega⟩
theorem yG (L ds sp:List MV):dJ (L++sp) L.length ds=L++ds.take sp.length++sp.drop ds.length:=by
 induction ds generalizing L sp with
 | nil=>simp[dJ]
 | cons d ds ih=>
   cases sp with
   | nil=>
     simp only[List.append_nil,List.length_nil,List.take_zero,List.drop_nil,dJ]
     have:∀(ds:List MV) (o:Nat),L.length<=o->dJ L o ds=L:=by
      intro ds;induction ds with
      | nil=>intro o _;rfl
      | cons x xs ih=>intro o ho;rw[dJ,List.set_eq_of_length_le ho];exact ih (o+1) (by omega)
     rw[List.set_eq_of_length_le (Nat.le_refl _)];exact this ds _ (by omega)
   | cons s sp=>
     have:=ih (L++[d]) sp;simp only[dJ];rw[List.set_append_right _ _ (Nat.le_refl _),Nat.sub_self,List.set_cons_zero];simp only[List.append_assoc,List.singleton_append,List.length_append,List.length_cons,List.length_nil]at this;rw[this];simp
end
theorem VL.grow (ht:aI P tab) {el:TypeId} {te:bS} {B n' j:Nat} {L ds:List MV} {p q:MV} {dx:TypeDesc} {d:Option Tmp} {x y:Operand} {t tx ty:TypeId} {ps:String} {af:Array Edge} {g:Option (Nat×Bool)} {LL:List (Fl×Oper)} (hmd:md= .plain\/md= .any)
  (hr:GR O el te.size B p n' L) (hs:yC O te.size q=some (j,ds)) (gG:ds.all dh=true) (hu:(tab t).map bS.under=some (.slice el)) (he:tab el=some te) (ui:(tab tx).map bS.under=some dx) (DA:yD q dx) (hb:(n'+j)*te.bytes<=140737488355328) (hm:n'+j<=maxLen) (hB:B<=O.next)
  (hx:ev e x=some p) (hy:ev e y=some q) (hg:aK ops (.mk d (.call {callee:=.builtin .append,args:= #[x,y],argTypes:= #[t,tx]}) ty ps af g) e=some true) (hd:bg n d=true)
  (h:∀m O',GR O' el te.size B m (n'+j) (L++ds)->bk O (gid p) O'->(gid p=none->O.Ge O')->((∃k c,m= .bo k 0 (n'+j) c/\(gid p=some k\/(O.next<=k/\j≠0)))\/(j=0/\m=p/\O'=O))->WL P tab n D md ops Q LL (aV d m e) O'):
  VL P n D md ops ((.one,.mk d (.call {callee:=.builtin .append,args:= #[x,y],argTypes:= #[t,tx]}) ty ps af g)::LL) e O Q:=by
 refine VL.nN (M:=fun m O'=>GR O' el te.size B m (n'+j) (L++ds)/\bk O (gid p) O'/\(gid p=none->O.Ge O')/\((∃k c,m= .bo k 0 (n'+j) c/\(gid p=some k\/(O.next<=k/\j≠0)))\/(j=0/\m=p/\O'=O))) (fun G a w hw hf=>?_) (hmd:=hmd) (hg:=hg) (hd:=hd) fun m O' ⟨h1,h2,h3,h4⟩=>WL.sound ht (h m O' h1 h2 h3 h4)
 have l9:=hf.ev hx;have wc:=hf.ev hy;have eR:=bl ht ui
 have fin:∀{m O' u w' H},(GR O' el te.size B m (n'+j) (L++ds)/\bk O (gid p) O'/\(gid p=none->O.Ge O')/\((∃k c,m= .bo k 0 (n'+j) c/\(gid p=some k\/(O.next<=k/\j≠0)))\/(j=0/\m=p/\O'=O)))->(Builtin.append_ #[t,tx] ty #[a.eval x,a.eval y]).run P w= .ok u w'->Gh.Le G H->WR H O' w'->VR H m u->
   ∃m O' u w' H,(GR O' el te.size B m (n'+j) (L++ds)/\bk O (gid p) O'/\(gid p=none->O.Ge O')/\((∃k c,m= .bo k 0 (n'+j) c/\(gid p=some k\/(O.next<=k/\j≠0)))\/(j=0/\m=p/\O'=O)))/\(execOp a.eval (.mk d (.call {callee:=.builtin .append,args:= #[x,y],argTypes:= #[t,tx]}) ty ps af g)).run P w= .ok (.value u) w'/\Gh.Le G H/\WR H O' w'/\VR H m u:=fun hM bU h1 h2 h3=>
  ⟨_,_,_,_,_,hM,by simp only[execOp,resolve,invoke,builtin,List.map_toArray,List.map_cons,List.map_nil,Sem.run_bind,Sem.run_pure,Result.andThen_ok]<;>simp[bU],h1,h2,h3⟩
 obtain⟨vs,n7,hv⟩:=yE (P:=P) hw hs wc eR DA gG;have rN:ds.length=j*te.size:=by rw[<-hv.1];exact n7.newsLen
 rcases hr with⟨rfl,rfl,hp⟩ | ⟨k,c,rfl,yH,nP,cx⟩
 ·have hA:∃A,a.eval x= .slice A 0 0/\(∀w',(Builtin.firstCells te.size 0 (.slice A 0 0)).run P w'= .ok #[] w'):=by
   generalize a.eval x=u at l9
   have key:∀A:Option Addr,∀w',(Builtin.firstCells te.size 0 (.slice A 0 0)).run P w'= .ok #[] w':=fun A w'=>by
    cases A<;>simp[Builtin.firstCells,loadCells,loadCellsFrom]
   rcases hp with rfl | rfl
   ·cases l9 with
    | slnil=>exact⟨_,rfl,key _⟩
    | sl h1 h2 h3 h4 h5 h6=>exact h6.elim
   ·cases l9 with
    | sl h1 h2 h3 h4 h5 h6=>
      have h6:_=0:=h6;subst h6;exact⟨_,rfl,key _⟩
  obtain⟨A,hA,To⟩:=hA;have Xu:gid p=none:=by rcases hp with rfl | rfl<;>rfl
  by_cases hj:j=0
  ·subst hj;have oN:ds=[]:=List.eq_nil_of_length_eq_zero (by simpa using rN);subst oN;refine fin (m:=p) (O':=O) (u:=a.eval x) (w':=w) (H:=G) ⟨.inl ⟨rfl,rfl,hp⟩,bk.refl _ _,fun _=>VH.Ge.refl _,.inr ⟨rfl,rfl,rfl⟩⟩ ?_ (Gh.Le.refl G) hw l9;have js:vs=[]:=by have:=hv.1;simpa using this
   subst js;rw[hA];have eA:=bl ht hu;obtain⟨ti,z,i1,i2,_⟩:=(ht _ te he).info;rcases n7.kind with⟨e',hk⟩ | hk<;>cases A<;>simp[Builtin.append_,run_underlying eA,run_underlying hk,eI (ht _ te he),n7.len,n7.cells,storeCells]
  ·rw[hA]at fin;obtain⟨c',w',H,zs,g1,g2,g3,g4,g5,g6,g7⟩:=yF (P:=P) ht hw (n':=0) (c:=0) (A:=A) (L:=[]) (us:=[]) (ty:=ty) hu he eR hs DA gG aO.nil (by simp) (To _) (by omega) hb hm wc;refine fin ⟨.inr ⟨O.next,c',rfl,g1,by rw[List.length_append,rN];simp,?_⟩,?_,fun _=>?_,.inl ⟨_,_,rfl,.inr ⟨Nat.le_refl _,hj⟩⟩⟩ g4 g5 g6 g7
   ·refine Row.xh (cs:=[]) (t:=el) ?_ hB;rw[List.length_append,g3,List.length_append,rN,List.length_nil,Nat.zero_add, <-Nat.add_mul]
    congr 1;omega
   ·rw[Xu];exact bk.push.trans bk.push
   ·exact((VH.Ge.refl O).push _).push _
 ·obtain⟨sp,lQ,nL⟩:=cx.cells;generalize nQ:a.eval x=u at l9;have Xv:=l9;cases Xv with
  | bo hp hn hmx=>
    rename_i b;rw[nQ]at fin;have hmul:(n'+j)*te.size=n'*te.size+j*te.size:=Nat.add_mul _ _ _;by_cases nO:n'+j<=c
    ·have hle:(n'+j)*te.size<=c*te.size:=Nat.mul_le_mul_right _ nO;obtain⟨w',A,g1,g2,g3⟩:=KF (P:=P) (ty:=ty) ht hw hu he eR lQ hs DA gG nO (by rw[nL,rN];omega) l9 wc;rw[Nat.zero_add, <-nP,yG]at g2
     have G1:ds.length<=sp.length:=by
      rw[List.length_append]at nL;omega
     rw[List.take_of_length_le G1]at g2;refine fin ⟨.inr ⟨k,c,rfl,nO,by rw[List.length_append,nP,rN,hmul],cx.adL ?_⟩,bk.set,(fun h=>by cases h),.inl ⟨_,_,rfl,.inl rfl⟩⟩ g1 (Gh.Le.refl G) g2 g3;rw[List.length_append,List.length_append,List.length_drop];rw[List.length_append]at nL;omega
    ·obtain⟨b',C,T,d1,d2,d3⟩:=hw.cells k _ lQ;rw[hp]at d1;injection d1 with d1;subst d1
     have hL:=d3.take L.length;rw[List.take_left,List.take_take,Nat.min_eq_left (by rw[List.length_append];omega)]at hL
     have hold:(Builtin.firstCells te.size n' (.slice (some ⟨b,0,none⟩) n' c)).run P w.drew= .ok (C.toList.take L.length).toArray w.drew:=by
      refine run_firstCells_some (P:=P) w.drew te.size n' ⟨b,0,none⟩ n' c _ (by rw[hL.1,nP]) fun i u hu=>?_
      rw[Addr.add_lit,Nat.zero_add];rw[List.getElem?_take]at hu;split at hu
      ·have ju:w.drew.heap[b]?=some (.cells C T.t T.fr):=d2;simp only[World.cell?,ju,Option.isSome_none,Bool.false_eq_true,if_false];simpa using hu
      ·cases hu
     obtain⟨c',w',H,zs,g1,g2,g3,g4,g5,g6,g7⟩:=yF (P:=P) (ty:=ty) ht hw (n':=n') (c:=c) (A:=some ⟨b,0,none⟩) (L:=L) hu he eR hs DA gG hL nP hold (by omega) hb hm wc;refine fin ⟨.inr ⟨O.next,c',rfl,g1,by rw[List.length_append,nP,rN,hmul],?_⟩,(bk.push.trans bk.push).any,(fun h=>by cases h),.inl ⟨_,_,rfl,.inr ⟨Nat.le_refl _,by omega⟩⟩⟩ g4 g5 g6 g7;refine Row.xh (cs:=[]) (t:=el) ?_ hB;rw[List.length_append,g3,List.length_append,nP,rN, <-hmul, <-Nat.add_mul]
     congr 1;omega
end
section
variable {G H:Gh} {n:Sz} {D:List Deferred} {e:Env} {a:Act} {P:Program} {tab:bN} {O O':VH} {w:World} {m m':MV} {u v:Value} {ops:Array Oper} {Q:VQ} {md:Md}
def gM (P:Program) (n:Sz) (D:List Deferred) (o:Oper) (e:Env) (m:MV):Prop:=∀G a,FR G n D e a->cT P o a G m
theorem aG.pure {i:Nat} {o:Oper} {K:Env->VH->Prop} (ho:ops[i]?=some o) (hg:aK ops o e=some true) (hd:bg n o.dst=true) (hy:gM P n D o e m) (h:K (aV o.dst m e) O):aG P n D ops i e O Q K:=by
 refine aG.nM (M:=fun m' O'=>m'=m/\O'=O) ho hg hd (fun G a w hw hf=>?_) (by rintro m' O' ⟨rfl,rfl⟩;exact h);obtain⟨u,hu,hr⟩:=hy G a hf;exact⟨m,O,u,w,G,⟨rfl,rfl⟩,hr w hw.ss,Gh.Le.refl G,hw,hu⟩
theorem VL.pure {f:Fl} {o:Oper} {L:List (Fl×Oper)} (Kn:f≠ .fk) (hh:f= .one->gk md=true\/md= .any) (hg:aK ops o e=some true) (hd:bg n o.dst=true) (hy:gM P n D o e m) (h:VL P n D md ops L (aV o.dst m e) O Q):VL P n D md ops ((f,o)::L) e O Q:=by
 intro fuel listed ix hf hp
 match ix,hf with
 | (i,g)::ix,hf=>
   obtain⟨rfl,ho,hf⟩:=hf;cases md with
   | plain=>exact ia.one (aG.pure ho hg hd hy (h 0 #[] ix hf (fun h=>absurd rfl h)))
   | any=>
     obtain⟨h1,h2⟩:=hp (by simp);cases fuel with
     | zero=>cases h2
     | succ fuel=>
       simp only[cc,Bool.and_eq_true]at h2;have hk:=h fuel (listed.setIfInBounds i true) ix hf (fun _=>⟨h1,h2.2⟩);cases g with
       | one=>
         have hr:Region.ready .any ops listed=[i]:=by simpa using h2.1
         exact bP.all hr (by simp) fun j hj=>by
          obtain rfl:j=i:=by simpa using hj
          exact aG.pure ho hg hd hy hk
       | av=>
         simp only[Bool.and_eq_true]at h2;intro G a w hw aS;obtain⟨u,hu,hr⟩:=hy G a aS;exact wpAnyH_take ho h1 h2.1.1 h2.1.2 (gj hd) (.inl ⟨bf aS hg,hr⟩) hw.ss (hk G _ w hw (aS.aV hd hu))
       | rd=>exact absurd h2.1 (by simp)
       | fk=>exact absurd rfl Kn
   | reads=>
     obtain⟨h1,h2⟩:=hp (by simp);cases fuel with
     | zero=>cases h2
     | succ fuel=>
       simp only[cc,Bool.and_eq_true]at h2;have hk:=h fuel (listed.setIfInBounds i true) ix hf (fun _=>⟨h1,h2.2⟩);intro G a w hw aS;obtain⟨u,hu,bU⟩:=hy G a aS;have h3:Region.free .any ops listed i=true/\(Region.ready .any ops listed).contains i=true:=by cases g<;>simp_all
       exact wpAnyH_take ho h1 h3.1 h3.2 (gj hd) (.inl ⟨bf aS hg,fun w' wZ=>by rw[wZ];exact bU w hw.ss⟩) rfl (hk G _ w hw (aS.aV hd hu))
   | held brk=>
     obtain⟨h1,h2⟩:=hp (by simp);cases fuel with
     | zero=>cases h2
     | succ fuel=>
       simp only[cc,Bool.and_eq_true]at h2;have hk:=h fuel (listed.setIfInBounds i true) ix hf (fun _=>⟨h1,h2.2⟩)
       have hyy:∀G a w,WR G O w->FR G n D e a->∃u,VR G m u/\YieldsIf P ops (Sx G w) o u a:=fun G a w hw aS=>by
        obtain⟨u,hu,bU⟩:=hy G a aS;exact⟨u,hu,.inl ⟨bf aS hg,fun x hx=>bU x hx.1⟩⟩
       cases g with
       | one=>rcases hh rfl with h3 | h3<;>cases h3
       | fk=>exact absurd rfl Kn
       | av=>
         simp only[Bool.and_eq_true]at h2;exact bq.take ho h1 h2.1.1.1 h2.1.1.2 h2.1.2 hd hyy hk
       | rd=>
         simp only[Bool.and_eq_true]at h2;exact bq.take ho h1 h2.1.1.1 h2.1.1.2 h2.1.2 hd hyy hk
def Rt (P:Program) (tab:bN):Nat->TypeId->MV->MV->Option Bool
 | 0,_,_,_=>none
 | d+1,t,x,y=>match(tab t).map bS.under,x,y with
   | some .bool,.v (.bool a),.v (.bool b)=>some (a==b)
   | some (.int _),.v (.int k a),.v (.int k' b)=>if k=k' then some (a==b)else none
   | some .string,.str a,.str b=>some (a==b)
   | some (.struct fs),.agg xs,.agg ys=>if P.stoodInHeld t then none else fs.toList.foldr (fun f acc=>
     if f.name≠ "_" then match Ac tab f.type xs f.offset,Ac tab f.type ys f.offset with
      | some p,some q=>match Rt P tab d f.type p q,acc with
        | some b,some c=>some (b&&c)
        | _,_=>none
      | _,_=>none
     else acc) (some true)
   | _,_,_=>none
theorem KG (ht:aI P tab):∀(d:Nat) {t:TypeId} {x y:MV} {u v:Value} {b:Bool},Rt P tab d t x y=some b->VR G x u->VR G y v->∀(k:Nat) (w:World),(Op.equalIn (d+k) t u v).run P w= .ok b w
 | 0,_,_,_,_,_,_,h,_,_,_,_=>by cases h
 | d+1,t,x,y,u,v,b,h,hx,hy,k,w=>by
   rw[show d+1+k=d+k+1 from by omega];simp only[Rt]at h;split at h
   ·rename_i hu;injection h with h;subst h
    cases hx;cases hy
    exact run_equalIn_bool w _ _ _ _ (bl ht hu)
   ·rename_i k0 k1 a k2 c hu;split at h
    ·subst k1;injection h with h;subst h
     cases hx;cases hy
     exact run_equalIn_int w _ _ _ _ _ _ (bl ht hu)
    ·cases h
   ·rename_i l r hu;injection h with h;subst h
    cases hx;rename_i e1;cases hy;rw[run_equalIn_string w _ _ _ _ (bl ht hu),toList_mk,toList_mk]
   ·rename_i fs xs ys hu;split at h
    ·cases h
    ·rename_i ez;cases hx with
     | agg a1 a2=>
       cases hy with
       | agg b1 b2=>
         rename_i us vs;have eA:=bl ht hu;have hfo:P.fieldsOf t=fs:=by simp only[Program.fieldsOf,eA]
         rw[run_equalIn_struct w _ _ _ _ (by rw[hfo];exact eA) (by simpa using ez),hfo];have hxs:aO G xs us:=⟨a1,a2⟩;have On:aO G ys vs:=⟨b1,b2⟩;generalize fs.toList=l at h;clear hu eA hfo;induction l generalizing b with
         | nil=>
           simp only[List.foldr_nil,Option.some.injEq]at h;subst h;rfl
         | cons f l ih=>
           simp only[List.foldr_cons]at h;simp only[Op.eqFields];split at h
           ·rename_i hn;rw[if_pos hn];split at h
            ·rename_i p q hp hq;split at h
             ·rename_i b1 c1 cg gB;injection h with h;subst h
              obtain⟨r1,g1,g2⟩:=vk (P:=P) ht hp hxs;obtain⟨r2,g3,g4⟩:=vk (P:=P) ht hq On;have hr:=KG ht d cg g2 g4 k w;simp only[Sem.run_bind,g1 w,g3 w,hr,Result.andThen_ok];cases b1
              ·simp
              ·simpa using ih _ gB
             ·cases h
            ·cases h
           ·rename_i hn;rw[if_neg hn];exact ih _ h
   ·cases h
theorem VL.yI (ht:aI P tab) {f:Fl} {op:BinOp} {t t' ty:TypeId} {d:Option Tmp} {x y:Operand} {ps:String} {af:Array Edge} {g:Option (Nat×Bool)} {L:List (Fl×Oper)} {xs ys:List MV} {b:Bool} {bb:Bool} (Kn:f≠ .fk) (hh:f= .one->gk md=true\/md= .any)
  (xe:(op= .eql/\bb=b)\/(op= .neq/\bb= !b)) (hq:Rt P tab 9 t (.agg xs) (.agg ys)=some b) (hgt:P.eqGuardType P.depth t=false) (hx:ev e x=some (.agg xs)) (hy:ev e y=some (.agg ys)) (hg:aK ops (.mk d (.binOp op t x y t') ty ps af g) e=some true) (hd:bg n d=true)
  (h:WL P tab n D md ops Q L (aV d (.v (.bool bb)) e) O):VL P n D md ops ((f,.mk d (.binOp op t x y t') ty ps af g)::L) e O Q:=by
 refine VL.pure Kn hh hg hd (fun G a hf=>?_) (WL.sound ht h);have h1:=hf.ev hx;have h2:=hf.ev hy;have hr:=fun w=>KG (P:=P) ht 9 hq h1 h2 9991 w
 generalize hu:a.eval x=u at h1 hr;generalize hv:a.eval y=v at h2 hr;cases h1 with
 | agg a1 a2=>
   cases h2 with
   | agg b1 b2=>
     rename_i us vs;refine cT.of (s:=do eqGuard op t x y (.agg us.toArray) (.agg vs.toArray);binOp op t (.agg us.toArray) (.agg vs.toArray)) (aU.of (u:=.bool bb) (fun w _=>?_) (.v rfl)) (by simp[execOp,hu,hv]);rw[Sem.run_bind,run_eqGuard_agg w op t x y _ _ hgt,Result.andThen_ok];rcases xe with⟨rfl,rfl⟩ | ⟨rfl,rfl⟩
     ·rw[run_eql_struct,hr w];rfl
     ·rw[run_neq_struct,hr w];rfl
theorem WR.Tp (h:WR G O w) {b:Nat} {C:Array Value} {t:TypeId} {fr fr':Nat×Nat} {w':World} (hb:w.heap[b]?=some (.cells C t fr)) (hB:G.B<=b) (oG:w'.heap[b]?=some (.cells C t fr')) (ho:∀j,j≠b->w'.heap[j]?=w.heap[j]?) (hs:w'.heap.size=w.heap.size)
  (hos:w'.os=w.os) (afr:w'.tape=w.tape) (agO:w'.output=w.output) (fl:∀j,O.hp j≠none->G.cy j≠some b) (tE:∀t c x,O.hp t=some .tok->G.tok t=some (c,x)->c≠b):WR G O w':=by
 have jP:∀p,w'.cell? p=w.cell? p:=fun p=>by
  by_cases e:p.block=b
  ·simp only[World.cell?,e,hb,oG]
  ·simp only[World.cell?,ho _ e]
 refine⟨⟨hos.trans h.base.os,afr.trans h.base.tape,agO.trans h.base.output,by rw[hs];exact h.base.size,fun j hj=>by rw[ho j (by have:j<G.B:=hj;omega)];exact h.base.block j hj⟩,fun b' o u hc=>by rw[jP];exact h.d_ b' o u hc,h.qD,fun k c hk=>?_,h.inj,fun k cs hk=>?_,fun k es ck hk=>?_,fun t ht=>?_,h.lU,
  h.qf id (fun _ _ _ _ h=>h) fun k b' s _ hs'=>?_,h.qg id (fun _ _ h=>h) fun k x b' hk hb hx=>by rw[ho b' (fun e=>fl k (by rw[hk];simp) (e▸hb))];exact hx,h.rC⟩
 ·obtain⟨h1,h2,h3⟩:=h.lP k c hk;exact⟨h1,by rw[hs];exact h2,h3⟩
 ·obtain⟨c,D,T',h1,h2,h3⟩:=h.cells k cs hk;exact⟨c,D,T',h1,by rw[ho c (fun e=>fl k (by rw[hk];simp) (e▸h1))];exact h2,h3⟩
 ·obtain⟨c,E,h1,h2,h3⟩:=h.map k es ck hk;exact⟨c,E,h1,by rw[ho c (fun e=>fl k (by rw[hk];simp) (e▸h1))];exact h2,h3⟩
 ·obtain⟨c,f,k,r,D,T',h1,h2,h3,h4⟩:=h.tok t ht;exact⟨c,f,k,r,D,T',h1,h2,by rw[ho c (tE t c _ ht h1)];exact h3,h4⟩
 ·by_cases e:b'=b
  ·subst e;simp only[World.shape?,hb]at hs';simp only[World.shape?,oG];exact hs'
  ·exact jO (fun x hx=>by rw[ho _ e];exact hx) hs'
def Xw:Op->Bool
 | .call c=>match c.callee with
   | .builtin .unsafeString=>true
   | _=>false
 | _=>false
def vB (md:Md) (ops:Array Oper):Bool:=match md with
 | .held brk=> !brk.isEmpty&&(List.range ops.size).all fun i=> !((ops[i]?).map fun o=>Xw o.op).getD false||brk.contains i
 | _=>true
theorem vC (h:vB md ops=true):∀brk,md= .held brk->brk≠[]:=by
 rintro brk rfl rfl;simp[vB]at h
theorem G2 (h:vB md ops=true) {o:Oper} (ho:Xw o.op=true):∀brk,md= .held brk->∀i,ops[i]?=some o->brk.contains i=true:=by
 rintro brk rfl i hi;simp only[vB,Bool.and_eq_true]at h
 have:=List.all_eq_true.1 h.2 i (List.mem_range.2 (by
  rcases Nat.lt_or_ge i ops.size with h' | h'
  ·exact h'
  ·rw[Array.getElem?_eq_none h']at hi;cases hi))
 simpa[hi,ho]using this
theorem VL.agP (ht:aI P tab) {d:Option Tmp} {x y:Operand} {pt it ty el:TypeId} {ps:String} {af:Array Edge} {g:Option (Nat×Bool)} {L:List (Fl×Oper)} {k c:Nat} {l:List UInt8} {B:Nat}
  (dD:vB md ops=true)
  (hp:(tab pt).map bS.under=some (.pointer el)) (hce:P.cellsOf el=1) (cx:Row O el 1 B k c (l.map eV)) (KH:l≠[]) (hl:l.length<=maxLen)
  (hx:ev e x=some (.ptr k 0)) (hy:ev e y=some (.v (.int .i64 l.length))) (hg:aK ops (.mk d (.call {callee:=.builtin .unsafeString,args:= #[x,y],argTypes:= #[pt,it]}) ty ps af g) e=some true) (hd:bg n d=true)
  (h:WL P tab n D md ops Q L (aV d (.str l) e) (O.kill k)):VL P n D md ops ((.one,.mk d (.call {callee:=.builtin .unsafeString,args:= #[x,y],argTypes:= #[pt,it]}) ty ps af g)::L) e O Q:=by
 refine VL.nM (M:=fun m O'=>m= .str l/\O'=O.kill k) hg hd (fun _=>vC dD) (fun brk hb=>.inr (vC dD brk hb)) (fun G a w hw hf=>?_) (G2 dD rfl) (by rintro m O' ⟨rfl,rfl⟩;exact WL.sound ht h);have l9:=hf.ev hx;have wc:=hf.ev hy;generalize nQ:a.eval x=u at l9;generalize xi:a.eval y=v at wc;have wc:=wc.iv;subst wc;cases l9 with
 | ptr Xx=>
   rename_i b;obtain⟨sp,gB,iJ⟩:=cx.cells;obtain⟨b',C,T,d1,d2,d3⟩:=hw.cells k _ gB;rw[Xx]at d1;injection d1 with d1;subst d1
   obtain⟨j,_,_,hj⟩:=cx.nK;obtain⟨b2,s1,s2⟩:=hw.nK j k _ _ hj;rw[Xx]at s1;injection s1 with s1;subst s1
   have hL:=d3.take l.length;have e1:(l.map eV++sp).take l.length=l.map eV:=by rw[List.take_append_of_le_length (by simp),List.take_of_length_le (by simp)]
   rw[e1,List.take_take,Nat.min_eq_left (by simp)]at hL;have hL2:=KC hL
   have jP:∀j x,l[j]?=some x->w.cell? ((⟨b,0,none⟩:Addr).add j)=some (.int .u8 x.toNat):=fun i x hx=>by
    rw[Addr.add_lit,Nat.zero_add];simp only[World.cell?,d2,Option.isSome_none,Bool.false_eq_true,if_false];have:(C.toList.take l.length)[i]?=some (Value.int .u8 x.toNat):=by rw[hL2,List.getElem?_map,hx];rfl
    rw[List.getElem?_take]at this;split at this
    ·simpa using this
    ·cases this
   have bU:=Lib.run_unsafeString_row (P:=P) w pt it ty el (bl ht hp) hce b _ s2 l KH (by rw[List.length_append,List.length_map]at iJ;omega) hl jP;have yJ:l.length≠0:=by simpa using KH
   have hfz:(w.freeze ⟨b,0,none⟩ l.length).heap[b]?=some (.cells C T.t (if T.fr.1==T.fr.2 then(0,0+l.length)else(min T.fr.1 0,max T.fr.2 (0+l.length)))):=by
    simp[World.freeze,yJ,Array.getElem?_modify,d2]
   have agQ:∀j,j≠b->(w.freeze ⟨b,0,none⟩ l.length).heap[j]?=w.heap[j]?:=fun j hj=>by
    simp[World.freeze,yJ,Array.getElem?_modify,Ne.symm hj]
   refine⟨.str l,O.kill k,.string ⟨⟨l⟩⟩,w.freeze ⟨b,0,none⟩ l.length,G,⟨rfl,rfl⟩,?_,Gh.Le.refl G,?_,.str⟩;rotate_left
   ·refine(hw.kill k).Tp d2 (hw.lP k b Xx).1 hfz agQ (by simp[World.freeze,yJ]) (by simp[World.freeze,yJ]) (by simp[World.freeze,yJ]) (by simp[World.freeze,yJ]) (fun j hj SQ=>?_) fun t c x fu NZ e=>?_
    ·by_cases e:j=k
     ·subst e;exact hj (aQ _ _ _)
     ·have Oo:O.hp j≠none:=by rwa [show(O.kill k).hp j=O.hp j from aw _ _ e]at hj
      exact e (hw.inj j k b Oo (by rw[gB];simp) SQ Xx)
    ·subst e;have e:t≠k:=fun e=>by subst e;rw[show(O.kill t).hp t=none from aQ _ _ _]at fu;cases fu
     rw[show(O.kill k).hp t=O.hp t from aw _ _ e]at fu;obtain⟨_,_,_,_,_,_,q1,_,_,_,_,q7⟩:=hw.tok t fu;rw[NZ]at q1;injection q1 with q1;injection q1 with q1 _;subst q1
     exact q7 k Xx
   ·simp[execOp,resolve,invoke,builtin,nQ,xi,bU]
theorem VL.afs (ht:aI P tab) {d:Option Tmp} {x y:Operand} {pt it ty:TypeId} {ps:String} {af:Array Edge} {g:Option (Nat×Bool)} {L:List (Fl×Oper)}
  (dD:vB md ops=true)
  (hx:ev e x=some (.v (.pointer none))) (hy:ev e y=some (.v (.int .i64 0))) (hg:aK ops (.mk d (.call {callee:=.builtin .unsafeString,args:= #[x,y],argTypes:= #[pt,it]}) ty ps af g) e=some true) (hd:bg n d=true)
  (h:WL P tab n D md ops Q L (aV d (.str []) e) O):VL P n D md ops ((.one,.mk d (.call {callee:=.builtin .unsafeString,args:= #[x,y],argTypes:= #[pt,it]}) ty ps af g)::L) e O Q:=by
 refine VL.nM (M:=fun m O'=>m= .str []/\O'=O) hg hd (fun _=>vC dD) (fun brk hb=>.inr (vC dD brk hb)) (fun G a w hw hf=>?_) (G2 dD rfl) (by rintro m O' ⟨rfl,rfl⟩;exact WL.sound ht h);have l9:=(hf.ev hx).iv;have wc:=(hf.ev hy).iv;have bU:=Lib.run_unsafeString_none (P:=P) w pt it ty none;refine⟨_,_,_,w,G,⟨rfl,rfl⟩,?_,Gh.Le.refl G,hw,.str⟩;simp[execOp,resolve,invoke,builtin,l9,wc,bU];rfl
theorem VL.toU (ht:aI P tab) {d:Option Tmp} {x:Operand} {src dst ty el t:TypeId} {ps:String} {af:Array Edge} {g:Option (Nat×Bool)} {L:List (Fl×Oper)} {k s j:Nat} {te:bS} (hmd:md= .plain\/md= .any)
  (hs:(tab src).map bS.under=some (.pointer el)) (KI:(tab dst).map bS.under=some .unsafePointer) (he:tab el=some te) (hz:te.size≠0) (hj:O.hp j=some (.shape k t s)) (Tq:0<s)
  (hx:ev e x=some (.ptr k 0)) (hg:aK ops (.mk d (.convert src dst x) ty ps af g) e=some true) (hd:bg n d=true) (h:WL P tab n D md ops Q L (aV d (.ptr k 0) e) O):
  VL P n D md ops ((.one,.mk d (.convert src dst x) ty ps af g)::L) e O Q:=by
 refine VL.nN (M:=fun m O'=>m= .ptr k 0/\O'=O) (fun G a w hw hf=>?_) (by rintro m O' ⟨rfl,rfl⟩;exact WL.sound ht h) (hmd:=hmd) (hg:=hg) (hd:=hd);have l9:=hf.ev hx;generalize nQ:a.eval x=u at l9;cases l9 with
 | ptr hp=>
   rename_i b;obtain⟨ti,z,i1,i2,_⟩:=(ht _ te he).info;obtain⟨b2,s1,s2⟩:=hw.nK j k _ _ hj;rw[hp]at s1;injection s1 with s1;subst s1
   have hr:=Lib.run_to_unsafe (P:=P) w ⟨b,0,none⟩ (bl ht hs) (bl ht KI) i1 (by rw[i2];exact hz) s2 Tq;exact⟨_,_,_,w,G,⟨rfl,rfl⟩,by simp[execOp,nQ,hr],Gh.Le.refl G,hw,.ptr hp⟩
theorem VL.aft (ht:aI P tab) {d:Option Tmp} {x:Operand} {src dst ty el t:TypeId} {ps:String} {af:Array Edge} {g:Option (Nat×Bool)} {L:List (Fl×Oper)} {k s j:Nat} {te:bS} (hmd:md= .plain\/md= .any)
  (hs:(tab src).map bS.under=some .unsafePointer) (KI:(tab dst).map bS.under=some (.pointer el)) (he:tab el=some te) (hj:O.hp j=some (.shape k t s)) (hl:liesAt P P.depth t (s / P.cellsOf t) 0 el 1=true)
  (hx:ev e x=some (.ptr k 0)) (hg:aK ops (.mk d (.convert src dst x) ty ps af g) e=some true) (hd:bg n d=true) (h:WL P tab n D md ops Q L (aV d (.ptr k 0) e) O):
  VL P n D md ops ((.one,.mk d (.convert src dst x) ty ps af g)::L) e O Q:=by
 refine VL.nN (M:=fun m O'=>m= .ptr k 0/\O'=O) (fun G a w hw hf=>?_) (by rintro m O' ⟨rfl,rfl⟩;exact WL.sound ht h) (hmd:=hmd) (hg:=hg) (hd:=hd);have l9:=hf.ev hx;generalize nQ:a.eval x=u at l9;cases l9 with
 | ptr hp=>
   rename_i b;obtain⟨ti,z,i1,i2,_⟩:=(ht _ te he).info;obtain⟨b2,s1,s2⟩:=hw.nK j k _ _ hj;rw[hp]at s1;injection s1 with s1;subst s1
   have hr:=Lib.run_from_unsafe (P:=P) w ⟨b,0,none⟩ (bl ht hs) (bl ht KI) i1 s2 hl;exact⟨_,_,_,w,G,⟨rfl,rfl⟩,by simp[execOp,nQ,hr],Gh.Le.refl G,hw,.ptr hp⟩
end
section
variable {tab:bN} {t t' el:TypeId} {O:VH} {a b c d a' b' k o n off:Nat} {z y z':List MV} {u:TypeDesc} {cs ds:List MV} {tk:aC} {l:List UInt8} {m q:MV} {i j:Int} {kk kk':IntKind} {x:Value}
def wI:Option bS->MV->Option MV
 | some ⟨.string,_,_,_⟩,.str l=>some (.v (.int .i64 l.length))
 | some ⟨.slice _,_,_,_⟩,.sl n _ _=>some (.v (.int .i64 n))
 | some ⟨.slice _,_,_,_⟩,.bo _ _ n _=>some (.v (.int .i64 n))
 | some ⟨.map _ _,_,_,_⟩,.v (.map none)=>some (.v (.int .i64 0))
 | some ⟨.array n _,_,_,_⟩,_=>some (.v (.int .i64 n))
 | _,_=>none
theorem uj:n5 tab t m=wI (tab t) m:=by
 unfold n5 wI;cases tab t with
 | none=>rfl
 | some r=>obtain⟨d,_,_,_⟩:=r;cases d<;>cases m<;>first | rfl | (rename_i v;cases v<;>first | rfl | (rename_i q;cases q<;>rfl))
theorem Tr:wI (some ⟨.string,a,b,z⟩) (.str l)=some (.v (.int .i64 l.length)):=rfl
theorem Xy:wI (some ⟨.slice el,a,b,z⟩) (.sl n cs tk)=some (.v (.int .i64 n)):=rfl
theorem Ts:wI (some ⟨.slice el,a,b,z⟩) (.bo k o n c)=some (.v (.int .i64 n)):=rfl
theorem Tt:wI (some ⟨.map t t',a,b,z⟩) (.v (.map none))=some (.v (.int .i64 0)):=rfl
theorem Tu:wI (some ⟨.map t t',a,b,z⟩) (.map k)=none:=rfl
theorem Tv:wI (some ⟨.array n el,a,b,z⟩) m=some (.v (.int .i64 n)):=by cases m<;>rfl
def Xz (O:VH) (s:Option (MV×VH)):Option MV->Option (MV×VH)
 | some r=>some (r,O)
 | none=>s
theorem Oq {s:Option (MV×VH)}:Xz O s (some m)=some (m,O):=rfl
theorem Ot {s:Option (MV×VH)}:Xz O s none=s:=rfl
theorem Tw {e:Env} {d:Option Tmp} {x:Operand} {ty:TypeId} {p:String} {af:Array Edge} {g:Option (Nat×Bool)}:cI tab (.mk d (.call {callee:=.builtin .len,args:= #[x],argTypes:= #[t]}) ty p af g) e O=(ev e x).bind fun q=>Xz O ((oI tab O t q).map (·,O)) (wI (tab t) q):=by
 rw[Kd];cases ev e x with
 | none=>rfl
 | some q=>
   simp only[Option.bind_some,uj];cases wI (tab t) q<;>rfl
def KJ (tab:bN) (m ix:MV):Option bS->Option MV
 | some r=>match ix,r.under,m with
   | .v (.int _ i),.slice el,.sl n cells _=>match tab el with
     | some te=>if 0<=i/\i<(n:Int)then some (.cM cells (i.toNat*te.size))else none
     | none=>none
   | .v (.int _ i),.slice el,.bo k o n _=>match tab el with
     | some te=>if 0<=i/\i<(n:Int)then some (.ptr k (o+i.toNat*te.size))else none
     | none=>none
   | .v (.int _ i),.array len el,x=>match tab el with
     | some te=>if 0<=i/\i<(len:Int)then tF (i.toNat*te.size) x else none
     | none=>none
   | _,_,_=>none
 | none=>none
theorem adM:lD tab t m q=KJ tab m q (tab t):=by
 unfold lD KJ;cases h:tab t with
 | none=>cases q<;>first | rfl | (rename_i v;cases v<;>rfl)
 | some r=>
   obtain⟨d,_,_,_⟩:=r;cases q<;>first | rfl | skip
   rename_i v;cases v<;>first | rfl | skip
   cases d<;>cases m<;>rfl
def ixS (i:Int) (n:Nat) (cs:List MV):Option bS->Option MV
 | some te=>if 0<=i/\i<(n:Int)then some (.cM cs (i.toNat*te.size))else none
 | none=>none
def ixR (i:Int) (n k o:Nat):Option bS->Option MV
 | some te=>if 0<=i/\i<(n:Int)then some (.ptr k (o+i.toNat*te.size))else none
 | none=>none
def ixA (i:Int) (n:Nat) (m:MV):Option bS->Option MV
 | some te=>if 0<=i/\i<(n:Int)then tF (i.toNat*te.size) m else none
 | none=>none
theorem abL:KJ tab (.sl n cs tk) (.v (.int kk i)) (some ⟨.slice el,a,b,z⟩)=ixS i n cs (tab el):=by unfold KJ ixS;rfl
theorem XA:KJ tab (.bo k o n c) (.v (.int kk i)) (some ⟨.slice el,a,b,z⟩)=ixR i n k o (tab el):=by unfold KJ ixR;rfl
theorem XB:KJ tab m (.v (.int kk i)) (some ⟨.array n el,a,b,z⟩)=ixA i n m (tab el):=by unfold KJ ixA;cases m<;>rfl
theorem abM (h0:0<=i) (h1:i<(n:Int)):ixS i n cs (some ⟨u,a,b,z⟩)=some (.cM cs (i.toNat*a)):=if_pos ⟨h0,h1⟩
theorem abN (h0:0<=i) (h1:i<(n:Int)):ixR i n k o (some ⟨u,a,b,z⟩)=some (.ptr k (o+i.toNat*a)):=if_pos ⟨h0,h1⟩
theorem abO (h0:0<=i) (h1:i<(n:Int)):ixA i n m (some ⟨u,a,b,z⟩)=tF (i.toNat*a) m:=if_pos ⟨h0,h1⟩
theorem XC:tF a (.ptr k o)=some (.ptr k (o+a)):=rfl
theorem XD:tF a (.cM cs o)=some (.cM cs (o+a)):=rfl
def inT (l:List UInt8) (i:Int):Option bS->Option MV
 | some ⟨.string,_,_,_⟩=>if 0<=i then(l[i.toNat]?).map eV else none
 | _=>none
theorem agR:vo tab t (.str l) (.v (.int kk i))=inT l i (tab t):=by
 unfold vo inT;cases tab t with
 | none=>rfl
 | some r=>obtain⟨d,_,_,_⟩:=r;cases d<;>rfl
theorem abP (h:0<=i):inT l i (some ⟨.string,a,b,z⟩)=(l[i.toNat]?).map eV:=if_pos h
def XE (off:Nat):Option bS->Option bV->Option MV
 | some r,some (.cells cs)=>lW (ea r.under) r.size cs off
 | _,_=>none
theorem agS:ey tab O t (.ptr k off)=XE off (tab t) (O.hp k):=by
 unfold ey XE;simp only[cellsOf];cases tab t<;>first | rfl | (cases O.hp k<;>first | rfl | (rename_i x;cases x<;>rfl))
theorem agT:ey tab O t (.cM cs off)=XE off (tab t) (some (.cells cs)):=by
 unfold ey XE cellsOf;cases tab t<;>rfl
theorem abQ:XE off (some ⟨u,a,b,z⟩) (some (.cells cs))=lW (ea u) a cs off:=rfl
theorem XF:lW false a cs off=cs[off]?:=rfl
theorem XG (h:off+a<=cs.length):lW true a cs off=some (.agg ((cs.drop off).take a)):=by simp[lW,h]
theorem Tx:ea .bool=false:=rfl
theorem XH:ea (.int kk)=false:=rfl
theorem XI:ea .string=false:=rfl
theorem XJ:ea (.pointer t)=false:=rfl
theorem abR:ea (.slice t)=false:=rfl
theorem XK:ea (.map t t')=false:=rfl
theorem XL:ea (.array n t)=true:=rfl
theorem abS {ms:Array (String×TypeId)}:ea (.interface ms)=false:=rfl
theorem abT {ps rs:Array TypeId} {v:Bool}:ea (.func ps rs v)=false:=rfl
def Am (O:VH) (k off:Nat) (m:MV):Option bS->Option bV->Option VH
 | some r,some (.cells cs)=>if(df m).length=r.size/\(df m).all dh=true/\off+r.size<=cs.length then some (O.set k (.cells (dJ cs off (df m))))else none
 | _,_=>none
theorem agU:vj tab O t (.ptr k off) m=Am O k off m (tab t) (O.hp k):=by
 unfold vj Am;cases tab t with
 | none=>rfl
 | some r=>
   simp only;cases O.hp k with
   | none=>rfl
   | some x=>cases x<;>rfl
theorem oP {m:MV} (hm:df m=[m]) (hl:dh m=true) (h:off<cs.length):Am O k off m (some ⟨u,1,b,z⟩) (some (.cells cs))=some (O.set k (.cells (cs.set off m))):=by
 show(if(df m).length=1/\(df m).all dh=true/\off+1<=cs.length then some (O.set k (.cells (dJ cs off (df m))))else none)=_;rw[if_pos ⟨by rw[hm];rfl,by rw[hm];simpa using hl,by omega⟩,hm];rfl
theorem afu (h:off<cs.length):Am O k off (.v x) (some ⟨u,1,b,z⟩) (some (.cells cs))=some (O.set k (.cells (cs.set off (.v x)))):=oP rfl rfl h
theorem afv (h:off<cs.length):Am O k off (.str l) (some ⟨u,1,b,z⟩) (some (.cells cs))=some (O.set k (.cells (cs.set off (.str l)))):=oP rfl rfl h
theorem afw (h:off<cs.length):Am O k off (.ptr c o) (some ⟨u,1,b,z⟩) (some (.cells cs))=some (O.set k (.cells (cs.set off (.ptr c o)))):=oP rfl rfl h
theorem afx (h:off<cs.length):Am O k off (.cM ds o) (some ⟨u,1,b,z⟩) (some (.cells cs))=some (O.set k (.cells (cs.set off (.cM ds o)))):=oP rfl rfl h
theorem abU (h:off<cs.length):Am O k off (.sl n ds tk) (some ⟨u,1,b,z⟩) (some (.cells cs))=some (O.set k (.cells (cs.set off (.sl n ds tk)))):=oP rfl rfl h
theorem XM (h:off<cs.length):Am O k off (.bo c o n d) (some ⟨u,1,b,z⟩) (some (.cells cs))=some (O.set k (.cells (cs.set off (.bo c o n d)))):=oP rfl rfl h
theorem XN (h:off<cs.length):Am O k off (.map c) (some ⟨u,1,b,z⟩) (some (.cells cs))=some (O.set k (.cells (cs.set off (.map c)))):=oP rfl rfl h
theorem abV (h:off<cs.length):Am O k off (.iface t m) (some ⟨u,1,b,z⟩) (some (.cells cs))=some (O.set k (.cells (cs.set off (.iface t m)))):=oP rfl rfl h
theorem abW {fn:Fn} (h:off<cs.length):Am O k off (.func fn ds z') (some ⟨u,1,b,z⟩) (some (.cells cs))=some (O.set k (.cells (cs.set off (.func fn ds z')))):=oP rfl rfl h
theorem XO (h1:ds.length=a) (h2:ds.all dh=true) (h:off+a<=cs.length):Am O k off (.agg ds) (some ⟨u,a,b,z⟩) (some (.cells cs))=some (O.set k (.cells (dJ cs off ds))):=if_pos ⟨h1,h2,h⟩
theorem Ii:dJ cs off []=cs:=rfl
theorem FM:dJ cs off (m::ds)=dJ (cs.set off m) (off+1) ds:=rfl
theorem abX:dh (.v x)=true:=rfl
theorem abY:dh (.str l)=true:=rfl
theorem abZ:dh (.ptr k o)=true:=rfl
theorem ab0:dh (.cM cs o)=true:=rfl
theorem XP:dh (.sl n cs tk)=true:=rfl
theorem Ty:dh (.bo k o n c)=true:=rfl
theorem Tz:dh (.map k)=true:=rfl
theorem XQ:dh (.iface t m)=true:=rfl
theorem XS {fn:Fn}:dh (.func fn cs ds)=true:=rfl
section
variable {X:bV} {k':Nat} {s:Nat}
theorem ab1 (h:k'=k):(O.set k X).hp k'=some X:=by subst h;exact VH.an _ _ _
theorem Ou (h:k'≠k):(O.set k X).hp k'=O.hp k':=VH.ak _ _ h
theorem XT (h:k'=O.next):(O.push X).hp k'=some X:=by subst h;exact VH.aZ _ _
theorem KK (h:k'≠O.next):(O.push X).hp k'=O.hp k':=VH.oL _ _ h
theorem KL (h:k'≠k):(O.kill k).hp k'=O.hp k':=VH.kT _ h
theorem eo:(O.set k X).next=O.next:=rfl
theorem rO:(O.push X).next=O.next+1:=rfl
theorem DB:(O.kill k).next=O.next:=rfl
end
theorem KM {e:Env} {d:Option Tmp} {ty:TypeId} {p:String} {af:Array Edge} {g:Option (Nat×Bool)}:cI tab (.mk d (.alloc t) ty p af g) e O=(tab t).map fun i=>(.ptr O.next 0,vx O t i.size i.zero):=rfl
def alB (O:VH) (t:TypeId) (n:Nat) (z:List MV):Bool->VH
 | true=>(O.push (.cells z)).push (.shape O.next t n)
 | false=>O.push (.cells z)
theorem Ov:vx O t n z=alB O t n z (eZ z):=by unfold vx alB;cases eZ z<;>rfl
theorem afy:alB O t n z true=(O.push (.cells z)).push (.shape O.next t n):=rfl
theorem afz:alB O t n z false=O.push (.cells z):=rfl
theorem afA:eZ [.v (.pointer none),.sl 0 [] .nil]=true:=rfl
theorem afB:eZ []=false:=rfl
theorem afC:eZ [m]=false:=by unfold eZ;split<;>first | rfl | simp_all
theorem afD {m1 m2 m3:MV}:eZ (m1::m2::m3::z)=false:=by unfold eZ;split<;>first | rfl | simp_all
theorem XU:eZ [.v (.int kk i),m]=false:=by unfold eZ;split<;>first | rfl | simp_all
theorem TA {b:Bool}:eZ [.v (.bool b),m]=false:=by unfold eZ;split<;>first | rfl | simp_all
theorem XV:eZ [.str l,m]=false:=by unfold eZ;split<;>first | rfl | simp_all
theorem ab2:eZ [.sl n cs tk,m]=false:=by unfold eZ;split<;>first | rfl | simp_all
theorem ab3:eZ [m,.str l]=false:=by unfold eZ;split<;>first | rfl | simp_all
theorem ab4:eZ [m,.v x]=false:=by unfold eZ;split<;>first | rfl | simp_all
def rQ (tab:bN) (x:MV) (l h:Option MV):Option bS->Option MV
 | some ⟨.string,_,_,_⟩=>match x with
   | .str s=>match cK 0 l,cK s.length h with
     | some lo,some hi=>if lo<=hi/\hi<=s.length then some (.str ((s.drop lo).take (hi - lo)))else none
     | _,_=>none
   | _=>none
 | some ⟨.slice el,_,_,_⟩=>match x with
   | .sl n cells tk=>match tab el,cK 0 l,cK n h with
     | some te,some lo,some hi=>
       if lo=0/\hi=n then some (.sl n cells tk)
       else if lo<=hi/\hi<=n/\cells.length=n*te.size then some (.sl (hi - lo) ((cells.drop (lo*te.size)).take ((hi - lo)*te.size)) (rG tk te.size (hi==n)))else none
     | _,_,_=>none
   | .bo k o n c=>match tab el,cK 0 l,cK n h with
     | some te,some lo,some hi=>if lo<=hi/\hi<=c then some (.bo k (if c=lo then o else o+lo*te.size) (hi - lo) (c - lo))else none
     | _,_,_=>none
   | _=>none
 | _=>none
theorem agV {l h:Option MV}:vv tab t m l h=rQ tab m l h (tab t):=by
 unfold vv rQ;cases tab t with
 | none=>rfl
 | some r=>obtain⟨d,_,_,_⟩:=r;cases d<;>cases m<;>rfl
theorem afE (h0:0<=i) (h1:i<=j) (h2:j<=(l.length:Int)):rQ tab (.str l) (some (.v (.int kk i))) (some (.v (.int kk' j))) (some ⟨.string,a,b,z⟩)=some (.str ((l.drop i.toNat).take (j.toNat - i.toNat))):=by
 have e1:0<=j:=by omega
 simp only[rQ,cK,if_pos h0,if_pos e1];rw[if_pos ⟨by omega,by omega⟩]
theorem ab5 (h0:0<=i) (h1:i<=(l.length:Int)):rQ tab (.str l) (some (.v (.int kk i))) none (some ⟨.string,a,b,z⟩)=some (.str (l.drop i.toNat)):=by
 simp only[rQ,cK,if_pos h0];rw[if_pos ⟨by omega,by omega⟩,List.take_of_length_le (by simp)]
theorem ab6 (h1:0<=j) (h2:j<=(l.length:Int)):rQ tab (.str l) none (some (.v (.int kk j))) (some ⟨.string,a,b,z⟩)=some (.str (l.take j.toNat)):=by
 simp only[rQ,cK,if_pos h1];rw[if_pos ⟨by omega,by omega⟩];simp
def BY (k o lo hi c:Nat):Option bS->Option MV
 | some te=>some (.bo k (if c=lo then o else o+lo*te.size) (hi - lo) (c - lo))
 | none=>none
theorem afF (h0:0<=i) (h1:i<=j) (h2:j<=(c:Int)):rQ tab (.bo k o n c) (some (.v (.int kk i))) (some (.v (.int kk' j))) (some ⟨.slice el,a,b,z⟩)=BY k o i.toNat j.toNat c (tab el):=by
 have e1:0<=j:=by omega
 simp only[rQ,cK,if_pos h0,if_pos e1,BY];cases tab el with
 | none=>rfl
 | some te=>simp only;rw[if_pos ⟨by omega,by omega⟩]
theorem ab7 (h0:0<=i) (h1:i<=(n:Int)) (h2:n<=c):rQ tab (.bo k o n c) (some (.v (.int kk i))) none (some ⟨.slice el,a,b,z⟩)=BY k o i.toNat n c (tab el):=by
 simp only[rQ,cK,if_pos h0,BY];cases tab el with
 | none=>rfl
 | some te=>simp only;rw[if_pos ⟨by omega,h2⟩]
theorem ab8 (h1:0<=j) (h2:j<=(c:Int)):rQ tab (.bo k o n c) none (some (.v (.int kk j))) (some ⟨.slice el,a,b,z⟩)=BY k o 0 j.toNat c (tab el):=by
 simp only[rQ,cK,if_pos h1,BY];cases tab el with
 | none=>rfl
 | some te=>simp only;rw[if_pos ⟨by omega,by omega⟩]
theorem afG:BY k o 0 n c (some ⟨u,a,b,z⟩)=some (.bo k o n c):=by
 simp only[BY]
 congr 2
 split<;>simp
theorem ab9 {lo hi:Nat} (h:c≠lo):BY k o lo hi c (some ⟨u,a,b,z⟩)=some (.bo k (o+lo*a) (hi - lo) (c - lo)):=by
 simp only[BY,if_neg h]
theorem ab_ {lo hi:Nat} (h:c=lo):BY k o lo hi c (some ⟨u,a,b,z⟩)=some (.bo k o (hi - lo) (c - lo)):=by
 simp only[BY,if_pos h]
def KN (n lo hi:Nat) (cs:List MV) (tk:aC):Option bS->Option MV
 | some te=>if lo=0/\hi=n then some (.sl n cs tk)
    else if lo<=hi/\hi<=n/\cs.length=n*te.size then some (.sl (hi - lo) ((cs.drop (lo*te.size)).take ((hi - lo)*te.size)) (rG tk te.size (hi==n)))else none
 | none=>none
theorem yK {l h:Option MV} {lo hi:Nat} (hl:cK 0 l=some lo) (hh:cK n h=some hi):rQ tab (.sl n cs tk) l h (some ⟨.slice el,a,b,z⟩)=KN n lo hi cs tk (tab el):=by
 show(match tab el,cK 0 l,cK n h with
   | some te,some lo,some hi=>
     if lo=0/\hi=n then some (MV.sl n cs tk)
     else if lo<=hi/\hi<=n/\cs.length=n*te.size then some (.sl (hi - lo) ((cs.drop (lo*te.size)).take ((hi - lo)*te.size)) (rG tk te.size (hi==n)))else none
   | _,_,_=>none)=_
 rw[hl,hh];cases tab el<;>rfl
theorem afH (h0:0<=i) (h1:0<=j):rQ tab (.sl n cs tk) (some (.v (.int kk i))) (some (.v (.int kk' j))) (some ⟨.slice el,a,b,z⟩)=KN n i.toNat j.toNat cs tk (tab el):=yK (if_pos h0) (if_pos h1)
theorem aca (h0:0<=i):rQ tab (.sl n cs tk) (some (.v (.int kk i))) none (some ⟨.slice el,a,b,z⟩)=KN n i.toNat n cs tk (tab el):=yK (if_pos h0) rfl
theorem acb (h0:0<=j):rQ tab (.sl n cs tk) none (some (.v (.int kk j))) (some ⟨.slice el,a,b,z⟩)=KN n 0 j.toNat cs tk (tab el):=yK rfl (if_pos h0)
theorem acd:rQ tab (.sl n cs tk) none none (some ⟨.slice el,a,b,z⟩)=KN n 0 n cs tk (tab el):=yK rfl rfl
theorem XW {lo hi:Nat} (h0:lo=0) (h1:hi=n):KN n lo hi cs tk (some ⟨u,a,b,z⟩)=some (.sl n cs tk):=if_pos ⟨h0,h1⟩
theorem TB {lo hi:Nat} (h:lo≠0\/hi≠n) (h1:lo<=hi) (h2:hi<=n) (h3:cs.length=n*a):KN n lo hi cs tk (some ⟨u,a,b,z⟩)=some (.sl (hi - lo) ((cs.drop (lo*a)).take ((hi - lo)*a)) (rG tk a (hi==n))):=by
 simp only[KN];rw[if_neg (by omega),if_pos ⟨h1,h2,h3⟩]
def Ij (x:MV):Option bS->Option bS->Option MV
 | some _,some ⟨.int k,_,_,_⟩=>match x with
   | .v (.int _ i)=>some (.v (.int k (k.wrap i)))
   | _=>none
 | some ⟨.string,_,_,_⟩,some ⟨.string,_,_,_⟩=>match x with
   | .str l=>some (.str l)
   | _=>none
 | _,_=>none
theorem agW:Ag tab t t' m=Ij m (tab t) (tab t'):=by
 unfold Ag Ij;cases tab t with
 | none=>rfl
 | some r=>
   obtain⟨d,_,_,_⟩:=r;cases tab t' with
   | none=>cases d<;>rfl
   | some r'=>
     obtain⟨d',_,_,_⟩:=r'
     cases d'<;>first
      | (cases d<;>rfl)
      | (cases m<;>first | (cases d<;>rfl) | (rename_i v;cases v<;>cases d<;>rfl))
theorem XY {k':IntKind} {r:bS}:Ij (.v (.int kk i)) (some r) (some ⟨.int k',a,b,z⟩)=some (.v (.int k' (k'.wrap i))):=rfl
theorem XZ:Ij (.str l) (some ⟨.string,a,b,z⟩) (some ⟨.string,a',b',z'⟩)=some (.str l):=rfl
theorem ace:Ij m (some ⟨.string,a,b,z⟩) (some ⟨.slice el,a',b',z'⟩)=none:=rfl
theorem acf:Ij m (some ⟨.slice el,a,b,z⟩) (some ⟨.string,a',b',z'⟩)=none:=rfl
theorem acg:Ij m (some ⟨.pointer el,a,b,z⟩) (some ⟨.unsafePointer,a',b',z'⟩)=none:=rfl
theorem ach:Ij m (some ⟨.unsafePointer,a,b,z⟩) (some ⟨.pointer el,a',b',z'⟩)=none:=rfl
def G3:List (Nat×Operand)->List MV->List (Nat×MV)
 | (i,_)::l,m::ms=>(i,m)::G3 l ms
 | _,_=>[]
theorem Ow (l:List (Nat×Operand)) (ms:List MV):fF l.toArray ms=G3 l ms:=by
 unfold fF;simp only;induction l generalizing ms with
 | nil=>cases ms<;>rfl
 | cons p l ih=>cases ms with
   | nil=>rfl
   | cons m ms=>obtain⟨i,x⟩:=p;simp only[List.map_cons,List.zip_cons_cons,G3];rw[ih]
theorem TC {ms:List MV}:G3 [] ms=[]:=by cases ms<;>rfl
theorem Oy {x:Operand} {l:List (Nat×Operand)} {ms:List MV}:G3 ((n,x)::l) (m::ms)=(n,m)::G3 l ms:=rfl
def Ik (pl:Nat->Option (Nat×Nat)) (cs:List MV) (x:MV) (rest:List (Nat×MV)):Option (Nat×Nat)->Option (List MV)
 | none=>none
 | some (off,size)=>if(df x).length=size/\off+size<=cs.length then kL pl (dJ cs off (df x)) rest else none
def k8 (l:List (Nat×Nat)) (i:Nat):Option (Nat×Nat):=l[i]?
theorem TD {p:Nat×Nat} {l:List (Nat×Nat)}:k8 (p::l) 0=some p:=rfl
theorem TF {p:Nat×Nat} {l:List (Nat×Nat)}:k8 (p::l) (n+1)=k8 l n:=rfl
def Ru (a:Nat) (k:Nat):Option (Nat×Nat):=some (k*a,a)
theorem OI:Ru a k=some (k*a,a):=rfl
theorem OJ {pl:Nat->Option (Nat×Nat)}:kL pl cs []=some cs:=rfl
theorem KO {pl:Nat->Option (Nat×Nat)} {rest:List (Nat×MV)}:kL pl cs ((n,m)::rest)=Ik pl cs m rest (pl n):=by
 rw[kL];cases h:pl n<;>rfl
theorem aci {pl:Nat->Option (Nat×Nat)} {rest:List (Nat×MV)} (h:(df m).length=a/\off+a<=cs.length):Ik pl cs m rest (some (off,a))=kL pl (dJ cs off (df m)) rest:=if_pos h
def bsT (tab:bN) (len:Nat) (parts:List (Nat×MV)):Option bS->Option MV
 | some ⟨.slice el,_,_,_⟩=>match tab el with
   | some te=>if 0<len*te.size/\len*te.size<=16777216/\0<te.zero.length/\len<=maxLen then
     (kL (fun k=>some (k*te.size,te.size)) (ij te.zero (len*te.size)) parts).map fun cs=>.sl len cs .full
     else if len=0/\parts=[]then some (.sl 0 [] .full)else none
   | none=>none
 | _=>none
theorem agX {parts:List (Nat×MV)}:kc tab t n parts=bsT tab n parts (tab t):=by
 unfold kc bsT;cases tab t with
 | none=>rfl
 | some r=>obtain⟨d,_,_,_⟩:=r;cases d<;>rfl
def X0 (n:Nat) (parts:List (Nat×MV)):Option bS->Option MV
 | some te=>if 0<n*te.size/\n*te.size<=16777216/\0<te.zero.length/\n<=maxLen then
    (kL (fun k=>some (k*te.size,te.size)) (ij te.zero (n*te.size)) parts).map fun cs=>.sl n cs .full
   else if n=0/\parts=[]then some (.sl 0 [] .full)else none
 | none=>none
theorem acj {parts:List (Nat×MV)}:bsT tab n parts (some ⟨.slice el,a,b,z⟩)=X0 n parts (tab el):=by unfold bsT X0;rfl
theorem afI {r:bS}:X0 0 [] (some r)=some (.sl 0 [] .full):=by simp[X0]
theorem KP (h:z.length=a) (h0:0<a):∀n,ij z (n*a)=(List.replicate n z).flatten:=by
 intro n;induction n with
 | zero=>simp[ij]
 | succ n ih=>
   rw[List.replicate_succ',List.flatten_append, <-ih];simp only[ij,Nat.succ_mul];rw[List.range_add,List.map_append]
   congr 1
   subst h;simp only[List.map_map,List.flatten_cons,List.flatten_nil,List.append_nil];apply List.ext_getElem?;intro i;simp only[List.getElem?_map,List.getElem?_range];by_cases hi:i<z.length
   ·simp[hi,Nat.mod_eq_of_lt hi]
   ·simp[List.getElem?_eq_none (Nat.le_of_not_lt hi),hi]
def l_:Nat->List MV->List MV
 | 0,_=>[]
 | n+1,z=>z++l_ n z
theorem KQ:∀n,(List.replicate n z).flatten=l_ n z
 | 0=>rfl
 | n+1=>by rw[List.replicate_succ,List.flatten_cons,KQ n];rfl
theorem ack:l_ 1 z=z:=by simp[l_]
theorem acm:l_ 2 z=z++z:=by simp[l_]
theorem acn:l_ 3 z=z++(z++z):=by simp[l_]
theorem aco:l_ 4 z=z++(z++(z++z)):=by simp[l_]
theorem acp:l_ 5 z=z++(z++(z++(z++z))):=by simp[l_]
theorem acq:l_ 6 z=z++(z++(z++(z++(z++z)))):=by simp[l_]
theorem acr:l_ 7 z=z++(z++(z++(z++(z++(z++z))))):=by simp[l_]
theorem acs:l_ 8 z=z++(z++(z++(z++(z++(z++(z++z)))))):=by simp[l_]
theorem acu {parts:List (Nat×MV)} (h:z.length=a) (h0:0<n*a) (h1:n*a<=16777216):X0 n parts (some ⟨u,a,b,z⟩)=(kL (Ru a) (l_ n z) parts).map (MV.sl n · .full):=by
 have ha:0<a:=by rcases Nat.eq_zero_or_pos a with e | e; · subst e;omega
                 ·exact e
 have hn:n<=maxLen:=by
  have:n*1<=n*a:=Nat.mul_le_mul_left _ ha;simp[maxLen];omega
 rw[<-KQ, <-KP h ha];exact if_pos ⟨h0,h1,by show 0<z.length;omega,hn⟩
def bT (b:Bool):Option bS->Option MV
 | some ⟨.bool,_,_,_⟩=>some (.v (.bool b))
 | _=>none
theorem TG {a b:Bool}:cF tab .eql t (.v (.bool a)) (.v (.bool b))=bT (a==b) (tab t):=by
 simp only[cF,bT];cases tab t with
 | none=>rfl
 | some r=>obtain⟨d,_,_,_⟩:=r;cases d<;>rfl
theorem TI {a b:Bool}:cF tab .neq t (.v (.bool a)) (.v (.bool b))=bT (!(a==b)) (tab t):=by
 simp only[cF,bT];cases tab t with
 | none=>rfl
 | some r=>obtain⟨d,_,_,_⟩:=r;cases d<;>rfl
theorem afJ {p:Bool}:bT p (some ⟨.bool,a,b,z⟩)=some (.v (.bool p)):=rfl
def pT (b:Bool):Option bS->Option MV
 | some ⟨.pointer _,_,_,_⟩=>some (.v (.bool b))
 | _=>none
theorem afK {p:Bool}:pT p (some ⟨.pointer el,a,b,z⟩)=some (.v (.bool p)):=rfl
theorem acv {p:Bool}:lV tab .eql t p=pT p (tab t):=by
 simp only[lV,pT];cases tab t with
 | none=>rfl
 | some r=>obtain⟨d,_,_,_⟩:=r;cases d<;>rfl
theorem acw {p:Bool}:lV tab .neq t p=pT (!p) (tab t):=by
 simp only[lV,pT];cases tab t with
 | none=>rfl
 | some r=>obtain⟨d,_,_,_⟩:=r;cases d<;>rfl
section
variable {op:BinOp} {la lb:List UInt8}
theorem TK:cF tab op t (.v (.pointer none)) (.v (.pointer none))=lV tab op t true:=by cases op<;>rfl
theorem TL:cF tab op t (.ptr k o) (.v (.pointer none))=lV tab op t false:=by cases op<;>rfl
theorem TM:cF tab op t (.v (.pointer none)) (.ptr k o)=lV tab op t false:=by cases op<;>rfl
theorem TN:cF tab op t (.cM cs o) (.v (.pointer none))=lV tab op t false:=by cases op<;>rfl
theorem TO:cF tab op t (.v (.pointer none)) (.cM cs o)=lV tab op t false:=by cases op<;>rfl
theorem TP:cF tab op t (.agg cs) (.agg ds)=none:=by cases op<;>rfl
theorem TR:cF tab .eql t (.str la) (.str lb)=some (.v (.bool (la==lb))):=rfl
theorem TT:cF tab .neq t (.str la) (.str lb)=some (.v (.bool (!(la==lb)))):=rfl
theorem TU:cF tab .lss t (.str la) (.str lb)=some (.v (.bool (Op.bytesLess la lb))):=rfl
theorem TV:cF tab .leq t (.str la) (.str lb)=some (.v (.bool (Op.bytesLess la lb||la==lb))):=rfl
theorem TW:cF tab .gtr t (.str la) (.str lb)=some (.v (.bool (!(Op.bytesLess la lb||la==lb)))):=rfl
theorem TX:cF tab .geq t (.str la) (.str lb)=some (.v (.bool (!(Op.bytesLess la lb)))):=rfl
theorem OK (h:la.length+lb.length<=9223372036854775807):cF tab .add t (.str la) (.str lb)=some (.str (la++lb)):=if_pos h
end
theorem KR (h:tab t=some ⟨.pointer el,a,b,z⟩) {s:Nat} (h':tab el=some ⟨u,s+1,b',z'⟩) {op:BinOp}:cF tab op t (.ptr k o) (.ptr k o)=lV tab op t true:=by
 cases op<;>simp[cF,h,h',lV]
theorem aE (b:UInt8):eV b= .v (.int .u8 b.toNat):=rfl
theorem acx {n k:Nat}:((n:Int)+(k:Int)).toNat=n+k:=by omega
theorem X5 {n:Nat}:((n:Int)+1).toNat=n+1:=by omega
theorem X6 {n:Nat}:((n:Int)+2).toNat=n+2:=by omega
theorem X7 {n:Nat}:((n:Int) - 1).toNat=n - 1:=by omega
theorem TZ {n:Nat}:((n+1:Nat):Int) - 1=n:=by omega
theorem acy (h0:0<=i) (h1:i<=255):IntKind.u8.wrap i=i:=by
 simp only[IntKind.wrap,IntKind.signed,IntKind.bits];simp;omega
theorem X8 (h0:0<=i) (h1:i<=18446744073709551615):IntKind.u64.wrap i=i:=by
 simp only[IntKind.wrap,IntKind.signed,IntKind.bits];simp;omega
theorem X9 (h:0<=j):cF tab .shr t (.v (.int kk i)) (.v (.int kk' j))=some (.v (.int kk (i.fdiv (2 ^ (min j.toNat kk.bits))))):=by
 have:¬j<0:=by omega
 simp[cF,xW,this]
theorem X_:cF tab .and t (.v (.int kk i)) (.v (.int kk j))=some (.v (.int kk (kk.wrap (BitVec.ofInt kk.bits i&&& BitVec.ofInt kk.bits j).toNat))):=by simp[cF,pS]
theorem Ya (h:j≠0):cF tab .rem t (.v (.int kk i)) (.v (.int kk j))=some (.v (.int kk (i.tmod j))):=S1 h
theorem Yb (h:j≠0):cF tab .quo t (.v (.int kk i)) (.v (.int kk j))=some (.v (.int kk (kk.wrap (i.tdiv j)))):=S0 h
end
section
variable {x y z:Operand} {t t':TypeId} {f:Nat} {q:BinOp} {r:UnOp} {as_ Td:Array Operand} {ts:Array TypeId} {l h k:Option Operand} {fn:Fn} {ps:Array (Nat×Operand)} {bb:Bool}
theorem Yc:bW (.move x)=false:=rfl
theorem OL:bW (.assign x)=false:=rfl
theorem Yd:bW (.pick x y z)=false:=rfl
theorem Il:bW (.nilCheck x)=false:=rfl
theorem T0:bW (.binOp q t x y t')=false:=rfl
theorem Ye:bW (.unOp r t x)=false:=rfl
theorem KS:bW (.convert t t' x)=false:=rfl
theorem FN:bW (.fieldAddr t x f)=false:=rfl
theorem T1:bW (.field t x f)=false:=rfl
theorem FO:bW (.indexAddr t x y)=false:=rfl
theorem T6:bW (.index t x y)=false:=rfl
theorem KT:bW (.extract x f)=false:=rfl
theorem T7:bW (.slice t x l h k)=false:=rfl
theorem T8:bW (.build t ps)=false:=rfl
theorem Im:bW (.makeFunc fn as_ Td)=false:=rfl
theorem yL:bW (.makeInterface t x)=false:=rfl
theorem Yf:bW (.load t x)=false:=rfl
theorem T_:bW (.store t x y)=false:=rfl
theorem acz:bW (.box t x)=false:=rfl
theorem Ua:bW (.alloc t)=false:=rfl
theorem DC:bW (.buildSlice t f ps)=false:=rfl
theorem KU:bW (.makeMap t l)=false:=rfl
theorem OM:bW (.lookup t x y bb)=false:=rfl
theorem FP:bW (.mapUpdate t x y z)=false:=rfl
theorem ON:bW (.insert t x y z)=false:=rfl
theorem FT:bW (.makeSlice t x y)=false:=rfl
theorem Ub:bW (.range t x)=false:=rfl
theorem Yg:bW (.next x bb)=false:=rfl
theorem Uc:bW (.entry x)=false:=rfl
theorem DE:bW (.typeAssert x t t' bb)=false:=rfl
theorem Ud:bW (.panic x)=false:=rfl
theorem Io:bW (.mapEntry t x y)=false:=rfl
theorem DF:bW (.entryStore t x y z)=false:=rfl
theorem Yh:bW (.call {callee:=.builtin .len,args:=as_,argTypes:=ts})=false:=rfl
theorem Yi:bW (.call {callee:=.builtin .max,args:=as_,argTypes:=ts})=false:=rfl
theorem Yj:bW (.call {callee:=.builtin .min,args:=as_,argTypes:=ts})=false:=rfl
theorem uk:bW (.call {callee:=.builtin .unsafeSliceData,args:=as_,argTypes:=ts})=false:=rfl
theorem yM:bW (.call {callee:=.builtin .unsafeString,args:=as_,argTypes:=ts})=false:=rfl
theorem OP:bW (.call {callee:=.builtin .clear,args:=as_,argTypes:=ts})=false:=rfl
theorem Ue:bW (.call {callee:=.builtin .copy,args:=as_,argTypes:=ts})=false:=rfl
theorem Yk:bW (.call {callee:=.builtin .cap,args:=as_,argTypes:=ts})=false:=rfl
theorem KV:bW (.call {callee:=.builtin .delete,args:=as_,argTypes:=ts})=false:=rfl
theorem OQ:bW (.call {callee:=.builtin .print,args:=as_,argTypes:=ts})=false:=rfl
theorem Ip:bW (.call {callee:=.builtin .println,args:=as_,argTypes:=ts})=false:=rfl
theorem Iq:bW (.call {callee:=.builtin .recover,args:=as_,argTypes:=ts})=false:=rfl
theorem acA:bW (.call {callee:=.value x,args:=as_,argTypes:=ts})=true:=rfl
theorem acB:bW (.call {callee:=.builtin .append,args:=as_,argTypes:=ts})=true:=rfl
theorem acC:FI .one=false:=rfl
theorem acD:FI .av=false:=rfl
theorem afL:FI .rd=false:=rfl
theorem afM:FI .fk=true:=rfl
end
theorem aD.next {σ :Type} {l K:List Nat} {ks:List MV} {ms: σ ->List MV} {I: σ ->VH->Prop} {μ : σ ->Nat} {s: σ} {Q:VQ} {e:Env} {O:VH} (s': σ) (hI:I s' O) (hk:looks e K=some ks:=by exact rfl) (hl:looks e l=some (ms s'):=by exact rfl) (hm: μ s'< μ s:=by first | omega | (dsimp only;omega)):aD l K ks ms I μ s Q .normal e O:=⟨hk,s',hl,hI,hm⟩
set_option linter.defProp false in
def ws0:=And.intro @Yc<|And.intro @OL<|And.intro @Yd<|And.intro @Il<|And.intro @T0<|And.intro @Ye<|And.intro @KS<|And.intro @FN<|And.intro @T1<|And.intro @FO<|And.intro @T6<|And.intro @KT<|And.intro @T7<|And.intro @T8<|And.intro @Im<|And.intro @yL<|And.intro @Yf<|And.intro @T_<|And.intro @acz<|And.intro @Ua<|And.intro @DC<|And.intro @KU<|And.intro @OM<|And.intro @FP<|And.intro @ON<|And.intro @FT<|And.intro @Ub<|And.intro @Yg<|And.intro @Uc<|And.intro @DE<|And.intro @Ud<|And.intro @Io<|And.intro @DF<|And.intro @Yh<|And.intro @Yi<|And.intro @Yj<|And.intro @uk<|And.intro @yM<|And.intro @OP<|And.intro @Ue<|And.intro @Yk<|And.intro @KV<|And.intro @OQ<|And.intro @Ip<|And.intro @Iq<|And.intro @acA<|And.intro @acB<|And.intro @acC<|And.intro @acD<|And.intro @afL<|And.intro @afM<|And.intro @abD<|And.intro @Xf<|And.intro @Xg<|And.intro @afo<|And.intro @Xh<|And.intro @Xi<|And.intro @Xj<|And.intro @Xk<|And.intro @KD<|And.intro @FJ<|And.intro @Xl<|And.intro @Xm<|And.intro @Tf<|And.intro @abE<|And.intro @Tg<|And.intro @Th<|And.intro @Ti<|And.intro @abF<|And.intro @Xo<|And.intro @Oi<|And.intro @Tj<|And.intro @Xp<|And.intro @Ie<|And.intro @Oj<|And.intro @Ok<|And.intro @Tl<|And.intro @Bu<|And.intro @Xq @Xr
set_option linter.defProp false in
def ws1:=And.intro @Tm<|And.intro @Ol<|And.intro @Ig<|And.intro @FK<|And.intro @abG<|And.intro @abH<|And.intro @abI<|And.intro @abJ<|And.intro @abK<|And.intro @Ih<|And.intro @Tn<|And.intro @KE<|And.intro @tV<|And.intro @yq<|And.intro @Bj<|And.intro @wF<|And.intro @yA<|And.intro @yB<|And.intro @Bq<|And.intro @ql<|And.intro @tU<|And.intro @ym<|And.intro @yp<|And.intro @Bi<|And.intro @qk<|And.intro @Kx<|And.intro @Rr<|And.intro @Rs<|And.intro @Al<|And.intro @xf<|And.intro @uc<|And.intro @ud<|And.intro @ue<|And.intro @yh<|And.intro @Bf<|And.intro @tT<|And.intro @Bg<|And.intro @yz<|And.intro @Bm<|And.intro @t_<|And.intro @Bn<|And.intro @vA<|And.intro @GS<|And.intro @Kr<|And.intro @Ra<|And.intro @Rb<|And.intro @Rc<|And.intro @Re<|And.intro @Rf<|And.intro @Rg<|And.intro @Rh<|And.intro @GU<|And.intro @GV<|And.intro @Bk<|And.intro @GW<|And.intro @wG<|And.intro @Dk<|And.intro @GX<|And.intro @yx<|And.intro @tY<|And.intro @Dl<|And.intro @tZ<|And.intro @Dm<|And.intro @yy<|And.intro @Dn<|And.intro @Dq<|And.intro @wH<|And.intro @oM<|And.intro @GY<|And.intro @Dr<|And.intro @Kt<|And.intro @Ku<|And.intro @Kv<|And.intro @Bl<|And.intro @Og<|And.intro @Ds<|And.intro @Kw<|And.intro @Dt<|And.intro @sF @ua
set_option linter.defProp false in
def ws2:=And.intro @adJ<|And.intro @adK<|And.intro @Rk<|And.intro @Rl<|And.intro @Rm<|And.intro @Rn<|And.intro @yi<|And.intro @yj<|And.intro @Di<|And.intro @Dj<|And.intro @aj<|And.intro @Dh<|And.intro @wrap_i64<|And.intro @Gz<|And.intro @Be<|And.intro @Kz<|And.intro @Rp<|And.intro @Rq<|And.intro @wD<|And.intro @Db<|And.intro @GA<|And.intro @ye<|And.intro @tQ<|And.intro @Dc<|And.intro @tR<|And.intro @Dd<|And.intro @yf<|And.intro @De<|And.intro @wE<|And.intro @Df<|And.intro @Kc<|And.intro @GB<|And.intro @GC<|And.intro @Tw<|And.intro @Ke<|And.intro @Kf<|And.intro @N5<|And.intro @GD<|And.intro @Dg<|And.intro @Kh<|And.intro @KM<|And.intro @sE<|And.intro @tS<|And.intro @Q7<|And.intro @Q8<|And.intro @J_<|And.intro @Q9<|And.intro @Gx<|And.intro @C_<|And.intro @Da<|And.intro @yd<|And.intro @Bd<|And.intro @Ka<|And.intro @lg<|And.intro @Kb<|And.intro @Gy<|And.intro @GF<|And.intro @GG<|And.intro @GH<|And.intro @GI<|And.intro @GJ<|And.intro @GK<|And.intro @GL<|And.intro @GM<|And.intro @GN<|And.intro @Ki<|And.intro @Kj<|And.intro @aq<|And.intro @a_<|And.intro @uf<|And.intro @Du<|And.intro @Tr<|And.intro @Xy<|And.intro @Ts<|And.intro @Tt<|And.intro @Tu<|And.intro @Tv<|And.intro @Oq<|And.intro @Ot @adM
set_option linter.defProp false in
def ws3:=And.intro @abL<|And.intro @XA<|And.intro @XB<|And.intro @abM<|And.intro @abN<|And.intro @abO<|And.intro @XC<|And.intro @XD<|And.intro @agR<|And.intro @abP<|And.intro @agS<|And.intro @agT<|And.intro @abQ<|And.intro @XF<|And.intro @XG<|And.intro @Tx<|And.intro @XH<|And.intro @XI<|And.intro @XJ<|And.intro @abR<|And.intro @XK<|And.intro @XL<|And.intro @abS<|And.intro @abT<|And.intro @agU<|And.intro @afu<|And.intro @afv<|And.intro @afw<|And.intro @afx<|And.intro @abU<|And.intro @XM<|And.intro @XN<|And.intro @abV<|And.intro @abW<|And.intro @XO<|And.intro @Ii<|And.intro @FM<|And.intro @ab1<|And.intro @Ou<|And.intro @XT<|And.intro @KK<|And.intro @KL<|And.intro @eo<|And.intro @rO<|And.intro @DB<|And.intro @Ov<|And.intro @afy<|And.intro @afz<|And.intro @afA<|And.intro @afB<|And.intro @afC<|And.intro @afD<|And.intro @XU<|And.intro @TA<|And.intro @XV<|And.intro @ab2<|And.intro @ab3<|And.intro @ab4<|And.intro @agV<|And.intro @afE<|And.intro @ab5<|And.intro @ab6<|And.intro @afF<|And.intro @ab7<|And.intro @ab8<|And.intro @afG<|And.intro @ab9<|And.intro @ab_<|And.intro @afH<|And.intro @aca<|And.intro @acb<|And.intro @acd<|And.intro @XW<|And.intro @TB<|And.intro @agW<|And.intro @XY<|And.intro @XZ<|And.intro @ace<|And.intro @acf @acg
set_option linter.defProp false in
def ws4:=And.intro @ach<|And.intro @Ow<|And.intro @TC<|And.intro @Oy<|And.intro @OJ<|And.intro @KO<|And.intro @TD<|And.intro @TF<|And.intro @OI<|And.intro @aci<|And.intro @agX<|And.intro @acj<|And.intro @afI<|And.intro @acu<|And.intro @ack<|And.intro @acm<|And.intro @acn<|And.intro @aco<|And.intro @acp<|And.intro @acq<|And.intro @acr<|And.intro @acs<|And.intro @TG<|And.intro @TI<|And.intro @afJ<|And.intro @afK<|And.intro @acv<|And.intro @acw<|And.intro @TK<|And.intro @TL<|And.intro @TM<|And.intro @TN<|And.intro @TO<|And.intro @TP<|And.intro @TR<|And.intro @TT<|And.intro @TU<|And.intro @TV<|And.intro @TW<|And.intro @TX<|And.intro @OK<|And.intro @acx<|And.intro @X5<|And.intro @X6<|And.intro @X7<|And.intro @TZ<|And.intro @acy<|And.intro @X8<|And.intro @Ya<|And.intro @Yb<|And.intro @X9<|And.intro @X_<|And.intro @Option.map_none.{0,0}<|And.intro @Option.bind_none.{0,0}<|And.intro @Int.zero_sub<|And.intro @Bool.not_true<|And.intro @Bool.not_false<|And.intro @Bool.or_false<|And.intro @Bool.or_true<|And.intro @Bool.true_or<|And.intro @Bool.false_or<|And.intro @Bool.and_true<|And.intro @Bool.and_false<|And.intro @Bool.true_and<|And.intro @Bool.false_and<|And.intro @decide_true<|And.intro @decide_eq_true<|And.intro @decide_eq_false<|And.intro @Nat.zero_add<|And.intro @Nat.mul_one<|And.intro @Int.toNat_natCast<|And.intro @Nat.add_zero<|And.intro @Nat.sub_zero<|And.intro @List.set_cons_zero.{0}<|And.intro @List.set_cons_succ.{0}<|And.intro @List.take_succ_cons.{0}<|And.intro @List.take_zero.{0}<|And.intro @List.drop_succ_cons.{0}<|And.intro @List.drop_zero.{0} @List.getElem?_toArray.{0}
set_option linter.defProp false in
def ws5:=And.intro @List.getElem?_cons_zero.{0}<|And.intro @List.getElem?_cons_succ.{0}<|And.intro @Option.bind_some.{0,0}<|And.intro @Option.map_some.{0,0}<|And.intro @List.map_cons.{0,0}<|And.intro @List.map_nil.{0,0}<|And.intro @List.getElem?_map.{0,0}<|And.intro @List.getElem_map.{0,0}<|And.intro @if_true.{1}<|And.intro @if_false.{1}<|And.intro @cond_true.{1}<|And.intro @cond_false.{1}<|And.intro @List.toList_toArray.{0}<|And.intro @List.cons_append.{0}<|And.intro @List.nil_append.{0}<|And.intro @true_and<|And.intro @and_true<|And.intro @eq_self.{1} @Bool.false_eq_true
set_option linter.defProp false in
def ws:=And.intro @ws0<|And.intro @ws1<|And.intro @ws2<|And.intro @ws3<|And.intro @ws4 @ws5
set_option linter.defProp false in
def ds:=And.intro @eo<|And.intro @rO<|And.intro @DB<|And.intro @Al<|And.intro @xf<|And.intro @uc<|And.intro @ud<|And.intro @ue<|And.intro @abX<|And.intro @abY<|And.intro @abZ<|And.intro @ab0<|And.intro @XP<|And.intro @Ty<|And.intro @Tz<|And.intro @XQ<|And.intro @XS<|And.intro @List.length_cons.{0}<|And.intro @List.length_nil.{0}<|And.intro @List.all_cons.{0}<|And.intro @List.all_nil.{0}<|And.intro @Bool.and_true<|And.intro @Bool.true_and<|And.intro @Bool.and_self<|And.intro @List.length_set.{0}<|And.intro @List.length_append.{0}<|And.intro @List.length_map.{0,0}<|And.intro @and_true<|And.intro @true_and<|And.intro @eq_self.{1}<|And.intro @Option.some.injEq.{0}<|And.intro @bV.cells.injEq<|And.intro @ne_eq.{1} @not_false_eq_true
section
variable {G H:Gh} {n:Sz} {D:List Deferred} {e:Env} {a:Act} {P:Program} {tab:bN} {O O':VH} {w:World} {m m':MV} {u v:Value} {ops:Array Oper} {Q:VQ} {md:Md}
def yN (K:MV->VH->Prop):Option (MV×VH)->Prop
 | some (m,O)=>K m O
 | none=>False
theorem rR {K:MV->VH->Prop}:yN K (some (m,O))=K m O:=rfl
theorem bP.G4 (i:Nat) {fuel:Nat} {listed:Array Bool} {l:List Oper} {o:Oper} (h:yN (fun m O'=>bP P n D ⟨l⟩ fuel (listed.setIfInBounds i true) (aV o.dst m e) O' Q) (gL tab .av o e O)) (ht:aI P tab:=by exact aa) (ho:l[i]?=some o:=by exact rfl) (hs:Region.noSelect ⟨l⟩=true:=by kernel_rfl) (hf:Region.free .any ⟨l⟩ listed i=true:=by kernel_rfl) (hr:(Region.ready .any ⟨l⟩ listed).contains i=true:=by kernel_rfl) (hg:aK ⟨l⟩ o e=some true:=by exact rfl) (hd:bg n o.dst=true:=by exact rfl):bP P n D ⟨l⟩ (fuel+1) listed e O Q:=by
 generalize hv:gL tab .av o e O=v at h;cases v with
 | none=>exact h.elim
 | some p=>
   obtain⟨m,O'⟩:=p;obtain⟨h1,rfl⟩:=mY hv;exact bP.Q6 ht (by simpa using ho) hs hf hr hg h1 hd h
theorem aG.st {i:Nat} {l:List Oper} {o:Oper} {M:MV->VH->Prop} {K:Env->VH->Prop} (hy:eJ P n D o e O M) (h:∀m O',M m O'->K (aV o.dst m e) O') (ho:l[i]?=some o:=by exact rfl) (hg:aK ⟨l⟩ o e=some true:=by exact rfl) (hd:bg n o.dst=true:=by exact rfl):aG P n D ⟨l⟩ i e O Q K:=
 aG.nM (by simpa using ho) hg hd hy h
theorem aG.o1 {i:Nat} {l:List Oper} {o:Oper} {K:Env->VH->Prop} (h:yN (fun m O'=>K (aV o.dst m e) O') (cI tab o e O)) (ht:aI P tab:=by exact aa) (ho:l[i]?=some o:=by exact rfl) (hg:aK ⟨l⟩ o e=some true:=by exact rfl) (hd:bg n o.dst=true:=by exact rfl):aG P n D ⟨l⟩ i e O Q K:=by
 generalize hv:cI tab o e O=v at h;cases v with
 | none=>exact h.elim
 | some p=>exact aG.op ht (by simpa using ho) hg hv hd h
theorem bP.bM (ix:List (Nat×Fl)) {fuel:Nat} {listed:Array Bool} {l:List Oper} {L:List (Fl×Oper)}
  (h:WL P tab n D .any ⟨l⟩ Q L e O) (ht:aI P tab:=by exact aa) (hs:Region.noSelect ⟨l⟩=true:=by kernel_rfl) (hp:cc .any ⟨l⟩ fuel listed ix=true:=by kernel_rfl) (hL:mZ l ix=some L:=by exact rfl):bP P n D ⟨l⟩ fuel listed e O Q:=(WL.sound ht h) fuel listed ix (rP hL) (fun _=>⟨hs,hp⟩)
end
section
variable {G H:Gh} {n:Sz} {D:List Deferred} {e:Env} {a:Act} {P:Program} {tab:bN} {O O' B:VH} {w:World} {m m':MV} {u v:Value} {ops:Array Oper} {Q:VQ} {md:Md} {c d:Code} {σ :Type}
def ay {σ :Type} (l:List Nat) (ms: σ ->List MV) (I: σ ->VH->Prop) (Q:VQ):VQ:=fun x e O=>match x with
 | .normal=>∃s,looks e l=some (ms s)/\I s O
 | x=>Q x e O
theorem KW {l:List Nat} {ms: σ ->List MV} {I: σ ->VH->Prop} {i:Nat}:ay l ms I Q (.exit i) e O=Q (.exit i) e O:=rfl
theorem KX {l:List Nat} {ms: σ ->List MV} {I: σ ->VH->Prop} {i:Nat}:ay l ms I Q (.goto i) e O=Q (.goto i) e O:=rfl
theorem OS {l:List Nat} {ms: σ ->List MV} {I: σ ->VH->Prop}:ay l ms I Q .ret e O=Q .ret e O:=rfl
theorem Ir {l:List Nat} {ms: σ ->List MV} {I: σ ->VH->Prop}:ay l ms I Q (.panic m) e O=Q (.panic m) e O:=rfl
theorem ay.mk {l:List Nat} {ms: σ ->List MV} {I: σ ->VH->Prop} (s: σ) (h2:I s O) (h1:looks e l=some (ms s):=by exact rfl):ay l ms I Q .normal e O:=⟨s,h1,h2⟩
theorem VC.join (ht:aI P tab) (l:List Nat) (ms: σ ->List MV) (I: σ ->VH->Prop) (h1:VC P n D c e O (ay l ms I Q)) (h2:∀s O,I s O->WC P tab n D d (kM l (ms s) []) O Q):VC P n D (.seq c d) e O Q:=by
 refine VC.seq (VC.mono ?_ h1);intro x e O h;cases x with
 | normal=>
   obtain⟨s,h3,h4⟩:=h;exact VC.env (WC.sound ht (h2 s O h4)) (lE (e0:=[]) (fun t x h=>by simp[look]at h) h3)
 | _=>exact h
def Is (P:Program) (n:Sz) (D:List Deferred) (b:Code) (Q:VQ):Env->VH->Prop:=fun e O=>VC P n D b e O Q
theorem Uf {b:Code}:Is P n D b Q e O=VC P n D b e O Q:=rfl
theorem VC.ag (ht:aI P tab) (h:WC P tab n D c e O (sG (Is P n D d Q) Q)):VC P n D (.seq c d) e O Q:=by
 refine VC.seq (VC.mono ?_ (WC.sound ht h));intro x e O h;cases x<;>exact h
theorem VC.bu (h:VC P n D c e O (sG (Is P n D d Q) Q)):VC P n D (.seq c d) e O Q:=by
 refine VC.seq (VC.mono ?_ h);intro x e O h;cases x<;>exact h
theorem VF.ofV (ht:aI P tab) {f:FuncId} {fn:Func} {c:Code} {args:List MV} {rs:List ResultVar} {R:fU->VH->Prop} (hf:P.funcs[f]?=some fn) (hb:fn.body=some c) (hk:(⟨fn.ntmps,0⟩:Sz)=n) (hr:fn.results.toList=rs) (hn:args.length<=n.n)
  (h:VC P n [] c (cb 0 args) O (Bt tab rs R)):VF P f args O R:=by
 subst hk;refine VF.enter ht hf hb hn (VC.mono ?_ h);intro x e O hx
 have key:iO R O (iy tab e O rs)->∃m,dj tab fn e O=some m/\R (.ret m) O:=fun h=>by
  unfold dj;rw[hr, <-uh];generalize iy tab e O rs=z at h;unfold iO at h;split at h
  ·exact h.elim
  ·exact⟨_,rfl,h⟩
  ·rename_i l hl;refine⟨.tuple l,?_,h⟩
   match l,hl with
   | [],_=>rfl
   | [m],hl=>exact absurd rfl (hl m)
   | _::_::_,_=>rfl
 cases x<;>first | exact key hx | exact hx
theorem VF.bX {f:FuncId} {fn:Func} {c:Code} {args:List MV} {R:fU->VH->Prop} {Q':Prop} (k:Nat) (rs:List ResultVar) (hf:P.funcs[f]?=some fn) (q:Q') (ht:aI P tab:=by exact aa) (hb:fn.body=some c:=by exact rfl) (hk:(⟨fn.ntmps,0⟩:Sz)=⟨k,0⟩:=by exact rfl) (hr:fn.results.toList=rs:=by exact rfl) (hn:args.length<=k:=by exact Nat.le_of_ble_eq_true rfl) (h:VC P ⟨k,0⟩ [] c (cb 0 args) O (Bt tab rs R)=Q':=by conv=>lhs;simp only[cb,Nat.zero_add,Nat.reduceAdd]):VF P f args O R:=VF.ofV ht hf hb hk hr hn (h.mpr q)
theorem VC.bE {ks:List MV} (ls Ks:List Nat) (ms: σ ->List MV) (I: σ ->VH->Prop) (μ : σ ->Nat) (s0: σ) (hI:I s0 O)
  (step:∀s O,I s O->VC P n D c (kM ls (ms s) (kM Ks ks [])) O (aD ls Ks ks ms I μ s Q)) (h0:looks e ls=some (ms s0):=by exact rfl) (hk:looks e Ks=some ks:=by exact rfl):VC P n D (.loop c) e O Q:=VC.iw ls Ks ms I μ s0 h0 hk hI step
theorem VC.afN {K:Env->VH->Prop} {id:Nat} (l:List Nat) (ms: σ ->List MV) (I: σ ->VH->Prop) (h1:VC P n D c e O (iV id (ay l ms I Q))) (h2:∀s O,I s O->K (kM l (ms s) []) O):VC P n D c e O (iV id (sG K Q)):=by
 intro G a w hw hf;refine wp_mono (h1 G a w hw hf) ?_;rintro y a' w' ⟨x,e',O',H,g1,g2,g3,g4,g5⟩
 have nor:∀{x':VX},x'= .normal\/x'= .exit id->(∃s,looks e' l=some (ms s)/\I s O')->FR H n D e' a'->XR H x' y->(∀e O,K e O->iV id (sG K Q) x' e O)->(∀e,FR H n D e a'->FRX H n D x' e a')->cu G n D (iV id (sG K Q)) y a' w':=fun hx ⟨s,h3,h4⟩ hf' hy hK hF=>
  ⟨_,kM l (ms s) [],O',H,g1,g2,hF _ (hf'.less (lE (e0:=[]) (fun t x h=>by simp[look]at h) h3)),hy,hK _ _ (h2 s O' h4)⟩
 cases x with
 | normal=>exact nor (.inl rfl) g5 g3 g4 (fun e O h=>h) (fun e h=>h)
 | exit i=>
   by_cases hi:i=id
   ·subst hi;simp only[iV,if_true]at g5;exact nor (.inr rfl) g5 g3 g4 (fun e O h=>by simp only[iV,if_true];exact h) (fun e h=>h)
   ·refine⟨.exit i,e',O',H,g1,g2,g3,g4,?_⟩;simp only[iV,hi,if_false]at g5 ⊢;exact g5
 | _=>exact⟨_,e',O',H,g1,g2,g3,g4,g5⟩
def ex1:MV->Bool
 | .v _=>true
 | .str _=>true
 | _=>false
def exM:MV->Bool
 | .v _=>true
 | .str _=>true
 | .agg cs=>cs.all ex1
 | _=>false
theorem DG (h:ex1 m=true) (h1:VR G m u):VR H m u:=by
 cases m with
 | v x=>have:=h1.iv;subst this;cases h1 with | v hp=>exact .v hp
 | str l=>cases h1;exact .str
 | _=>cases h
theorem DH (h:ex1 m=true) (h1:VR G m u) (h2:VR H m v):v=u:=by
 cases m with
 | v x=>rw[h1.iv,h2.iv]
 | str l=>cases h1;cases h2;rfl
 | _=>cases h
theorem acE (h:exM m=true) (h1:VR G m u):VR H m u:=by
 cases m with
 | v x=>exact DG (m:=.v x) rfl h1
 | str l=>exact DG (m:=.str l) rfl h1
 | agg cs=>
   cases h1 with
   | agg h2 h3=>exact .agg h2 fun i c u a b=>DG (List.all_eq_true.1 h c (List.mem_of_getElem? a)) (h3 i c u a b)
 | _=>cases h
theorem Rv (h:exM m=true) (h1:VR G m u) (h2:VR H m v):v=u:=by
 cases m with
 | v x=>exact DH (m:=.v x) rfl h1 h2
 | str l=>exact DH (m:=.str l) rfl h1 h2
 | agg cs=>
   cases h1 with
   | agg h3 h4=>
     cases h2 with
     | agg h5 h6=>
       congr 2
       refine List.ext_getElem? fun i=>?_
       rename_i us vs;rcases Nat.lt_or_ge i cs.length with hi | hi
       ·have e1:=List.getElem?_eq_getElem (show i<us.length by omega);have e2:=List.getElem?_eq_getElem (show i<vs.length by omega);have e3:=List.getElem?_eq_getElem hi;rw[e1,e2]
        congr 1
        exact DH (List.all_eq_true.1 h _ (List.getElem_mem hi)) (h4 i _ _ e3 e1) (h6 i _ _ e3 e2)
       ·rw[List.getElem?_eq_none (by omega),List.getElem?_eq_none (by omega)]
 | _=>cases h
def rS (G:Gh) (J:VH->Prop) (x:World):Prop:=∃H O',Gh.Le G H/\WR H O' x/\J O'
theorem rS.le {J:VH->Prop} (h:G.Le H) {x:World} (hb:rS H J x):rS G J x:=by
 obtain⟨K,O',h1,h2,h3⟩:=hb;exact⟨K,O',h.trans h1,h2,h3⟩
theorem rS.ss {J:VH->Prop} {x:World} (h:rS G J x):SS G x:=by
 obtain⟨K,O',h1,h2,_⟩:=h;exact SS.le h1 h2.ss
def TE (brk:List Nat) (G:Gh) (J:VH->Prop) (j:Nat) (x:World):Prop:=SS G x/\(brk.contains j=false->rS G J x)
theorem TE.le {J:VH->Prop} {brk:List Nat} {j:Nat} {x:World} (h:G.Le H) (t:TE brk H J j x):TE brk G J j x:=⟨SS.le h t.1,fun k=>(t.2 k).le h⟩
theorem TE.mk {J:VH->Prop} {brk:List Nat} {j:Nat} {x:World} (h:rS G J x):TE brk G J j x:=⟨h.ss,fun _=>h⟩
def ab (P:Program) (n:Sz) (D:List Deferred) (ops:Array Oper) (brk:List Nat) (J:VH->Prop) (Ψ :Gh->Prop) (Z:Prop) (fuel:Nat) (listed:Array Bool) (e:Env) (O:VH) (Q:VQ):Prop:=
 (∀G H,Gh.Le G H-> Ψ G-> Ψ H)->Z->J O->∀G a w, Ψ G->WR G O w->FR G n D e a->ik P .any ops (cu G n D Q) (TE brk G J) fuel listed a w
theorem VC.m4 {id:Nat} (brk:List Nat) (h:ab P n D ops brk (fun O'=>O.Ge O') (fun _=>True) (∀k,O.next<=k->O.hp k=none) ops.size (Array.replicate ops.size false) e O Q) (hm:P.follows .mixedOrders=true:=by kernel_rfl):VC P n D (.region id ops true) e O Q:=
 fun G a w hw hf=>wp_region_any hm (jR _ _ _ _ (h (fun _ _ _ _=>trivial) (fun k hk=>(hw.qD k hk).2.2) (VH.Ge.refl O) G a _ trivial (hw.drawn _) hf))
theorem ab.take {J:VH->Prop} {Z:Prop} {brk:List Nat} {Ψ :Gh->Prop} {fuel i:Nat} {listed:Array Bool} {o:Oper} (ho:ops[i]?=some o) (hs:Region.noSelect ops=true) (hf:Region.free .any ops listed i=true) (hr:(Region.ready .any ops listed).contains i=true) (hb:mX ops brk listed i=true)
  (hd:bg n o.dst=true) (hy:∀G a w,Z->J O-> Ψ G->WR G O w->FR G n D e a->∃u,VR G m u/\YieldsIf P ops (rS G J) o u a) (h:ab P n D ops brk J Ψ Z fuel (listed.setIfInBounds i true) (aV o.dst m e) O Q):ab P n D ops brk J Ψ Z (fuel+1) listed e O Q:=by
 intro hΨ hZ hJ G a w hψ hw aS;obtain⟨u,hu,hyi⟩:=hy G a w hZ hJ hψ hw aS;refine nh (S:=rS G J) (W:=fun j=>∃k,j∈jD ops listed i k) (brk:=fun j=>brk.contains j) ho (Region.noSelect_spec hs) (gj hd) (fun j x hj hT=>hT.2 hj) (fun x hx=>TE.mk hx) fuel listed a w (Region.free_spec ho hf) Bc Gu (Gw hb) (by simpa using hr) hyi ⟨G,O,Gh.Le.refl G,hw,hJ⟩ (h hΨ hZ hJ G _ w hψ hw (aS.aV hd hu))
theorem ab.av (i:Nat) {brk:List Nat} {Ψ :Gh->Prop} {J:VH->Prop} {Z:Prop} {fuel:Nat} {listed:Array Bool} {l:List Oper} {o:Oper} (h:yN (fun m O'=>ab P n D ⟨l⟩ brk J Ψ Z fuel (listed.setIfInBounds i true) (aV o.dst m e) O' Q) (gL tab .av o e O)) (ht:aI P tab:=by exact aa) (ho:l[i]?=some o:=by exact rfl) (hs:Region.noSelect ⟨l⟩=true:=by kernel_rfl) (hf:Region.free .any ⟨l⟩ listed i=true:=by kernel_rfl) (hr:(Region.ready .any ⟨l⟩ listed).contains i=true:=by kernel_rfl) (hb:mX ⟨l⟩ brk listed i=true:=by kernel_rfl) (hg:aK ⟨l⟩ o e=some true:=by exact rfl) (hd:bg n o.dst=true:=by exact rfl):ab P n D ⟨l⟩ brk J Ψ Z (fuel+1) listed e O Q:=by
 generalize hv:gL tab .av o e O=v at h;cases v with
 | none=>exact h.elim
 | some p=>
   obtain⟨m,O'⟩:=p;obtain⟨h1,rfl⟩:=mY hv;refine ab.take (by simpa using ho) hs hf hr hb hd (fun G a w _ _ _ hw aS=>?_) h;obtain⟨u,hu,bU⟩:=tH (P:=P) ht aS h1
   exact⟨u,hu,.inl ⟨bf aS hg,fun x hx=>by
    obtain⟨H,O2,h2,h3,_⟩:=hx;exact bU x (SS.le h2 h3.ss)⟩⟩
theorem KY {t:TypeId} {p:MV} (hB:B.Ge O) (hN:∀k,B.next<=k->B.hp k=none) (h:ey tab B t p=some m):ey tab O t p=some m:=by
 unfold ey at h ⊢
 have:∀{cs off},cellsOf B p=some (cs,off)->cellsOf O p=some (cs,off):=fun{cs off} hc=>by
  unfold cellsOf at hc ⊢;split at hc
  ·split at hc
   ·rename_i hk;have dK:=Nat.lt_of_not_le fun hle=>by rw[hN _ hle]at hk;cases hk
    rw[hB.hp _ dK,hk];exact hc
   ·cases hc
  ·exact hc
  ·cases hc
 split at h
 ·rename_i i cs off hi hc;rw[this hc,hi];exact h
 ·cases h
theorem ab.ld (i:Nat) {Ψ :Gh->Prop} {brk:List Nat} {fuel:Nat} {listed:Array Bool} {l:List Oper} {d:Option Tmp} {t:TypeId} {x:Operand} {ty:TypeId} {ps:String} {af:Array Edge} {g:Option (Nat×Bool)} {p:MV} (hv:ey tab B t p=some m) (h:ab P n D ⟨l⟩ brk (fun O'=>B.Ge O') Ψ (∀k,B.next<=k->B.hp k=none) fuel (listed.setIfInBounds i true) (aV d m e) O Q) (ht:aI P tab:=by exact aa) (ho:l[i]?=some (.mk d (.load t x) ty ps af g):=by exact rfl) (hs:Region.noSelect ⟨l⟩=true:=by kernel_rfl) (hf:Region.free .any ⟨l⟩ listed i=true:=by kernel_rfl) (hr:(Region.ready .any ⟨l⟩ listed).contains i=true:=by kernel_rfl) (hb:mX ⟨l⟩ brk listed i=true:=by kernel_rfl) (hg:aK ⟨l⟩ (.mk d (.load t x) ty ps af g) e=some true:=by exact rfl) (hd:bg n d=true:=by exact rfl) (hx:ev e x=some p:=by exact rfl) (hm:exM m=true:=by exact rfl):ab P n D ⟨l⟩ brk (fun O'=>B.Ge O') Ψ (∀k,B.next<=k->B.hp k=none) (fuel+1) listed e O Q:=by
 refine ab.take (o:=.mk d (.load t x) ty ps af g) (by simpa using ho) hs hf hr hb hd (fun G a w hN hB _ hw aS=>?_) h;obtain⟨u,w',K,bU,h1,h2,h3,_⟩:=Gq (P:=P) ht hw (KY hB hN hv) (aS.ev hx);obtain⟨u0,Yl⟩:∃u0,VR G m u0:=⟨u,acE hm h3⟩
 refine⟨u0,Yl,.inl ⟨bf aS hg,fun y hy=>?_⟩⟩;obtain⟨H,O2,g1,g2,g3⟩:=hy;obtain⟨r,g4,g5⟩:=ns (P:=P) ht g2 (KY g3 hN hv) ((aS.ev hx).mono g1);have:=g5 y g2.sx;have er:=Rv hm Yl g4;subst er;simp only[execOp,Sem.run_bind,this];rfl
theorem ma {Q:Exit->Act->World->Prop} {S:World->Prop} {T:Nat->World->Prop}:∀(fuel:Nat) (listed:Array Bool) (a:Act) (w:World),(∀j,listed.getD j true=false->∀x,S x->T j x)->wpAnyH P .any ops Q S fuel listed a w->ik P .any ops Q T fuel listed a w:=by
 intro fuel;induction fuel with
 | zero=>intro listed a w _ h;exact⟨h.1,h.2⟩
 | succ fuel ih=>
   intro listed a w hT h;refine⟨h.1,fun i hi=>?_⟩;have eA:=(mem_ready.1 hi).1
   exact wpOp_mono (fun a' w' h'=>⟨hT i eA _ h'.1,ih _ _ _ (fun j hj x=>hT j (by
    by_cases FG:i=j
    ·subst FG;exact eA
    ·rw[getD_set_ne true FG]at hj;exact hj) x) h'.2⟩) (h.2 i hi)
theorem ab.fin {brk:List Nat} {Ψ :Gh->Prop} {J:VH->Prop} {Z:Prop} {fuel:Nat} {listed:Array Bool} (hb:((List.range listed.size).all fun j=>listed.getD j true||brk.contains j)=true) (h:bP P n D ops fuel listed e O Q):ab P n D ops brk J Ψ Z fuel listed e O Q:=by
 intro hΨ hZ hJ G a w hψ hw aS;refine ma _ _ _ _ (fun j hj x hs=>⟨hs,fun hh=>?_⟩) (h G a w hw aS);rcases Nat.lt_or_ge j listed.size with hl | hl
 ·have:=List.all_eq_true.1 hb j (List.mem_range.2 hl);rw[hj,Bool.false_or]at this;rw[this]at hh;cases hh
 ·rw[Array.getD_eq_getD_getElem?,Array.getElem?_eq_none (by simpa using hl)]at hj;cases hj
theorem ab.one {brk:List Nat} {Ψ :Gh->Prop} {J:VH->Prop} {Z:Prop} {fuel i:Nat} {listed:Array Bool}
  (h:aG P n D ops i e O Q fun e' O'=>J O'/\ab P n D ops brk J Ψ Z fuel (listed.setIfInBounds i true) e' O' Q) (hr:Region.ready .any ops listed=[i]:=by kernel_rfl):ab P n D ops brk J Ψ Z (fuel+1) listed e O Q:=by
 intro hΨ hZ hJ G a w hψ hw aS;refine iM hr (by simp) fun j hj=>?_
 obtain rfl:j=i:=by simpa using hj
 refine wpOp_mono (fun a' w' ⟨e',O',H,h1,h2,h3,h4,h5⟩=>⟨TE.mk ⟨H,O',h1,h2,h4⟩,iN (fun _ _ _=>cu.le h1) _ _ _ _ (fun k _ x hT=>hT.le h1) (h5 hΨ hZ h4 H a' w' (hΨ _ _ h1 hψ) h2 h3)⟩) (h G a w hw aS)
theorem ab.call {brk:List Nat} {Ψ :Gh->Prop} {J:VH->Prop} {Z:Prop} {fuel i:Nat} {listed:Array Bool} {l:List Oper} {d:Option Tmp} {f:Operand} {as_:Array Operand} {ts:Array TypeId} {ty:TypeId} {ps:String} {af:Array Edge} {g:Option (Nat×Bool)} {id:FuncId} {ms:List MV} {Φ :MV->VH->Prop} (hR:VF P id ms O (aL Φ))
  (h:∀m O', Φ m O'->J O'/\ab P n D ⟨l⟩ brk J Ψ Z fuel (listed.setIfInBounds i true) (aV d m e) O' Q) (hr:Region.ready .any ⟨l⟩ listed=[i]:=by kernel_rfl) (ho:l[i]?=some (.mk d (.call {callee:=.value f,args:=as_,argTypes:=ts}) ty ps af g):=by exact rfl) (hg:aK ⟨l⟩ (.mk d (.call {callee:=.value f,args:=as_,argTypes:=ts}) ty ps af g) e=some true:=by exact rfl) (hf:ev e f=some (.func (.func id) [] []):=by exact rfl) (hm:fS e as_.toList=some ms:=by exact rfl) (hb:dk P id=true:=by kernel_rfl) (hd:bg n d=true:=by exact rfl):ab P n D ⟨l⟩ brk J Ψ Z (fuel+1) listed e O Q:=
 ab.one (aG.call (o:=.mk d (.call {callee:=.value f,args:=as_,argTypes:=ts}) ty ps af g) (by simpa using ho) hg rfl rfl hf hm (Enters.sY hb) hd (by simpa using hR) fun r O' hr=>by
  cases r with
  | ret m=>exact h m O' hr
  | panic m=>exact hr.elim) (hr:=hr)
theorem ab.op {brk:List Nat} {Ψ :Gh->Prop} {J:VH->Prop} {Z:Prop} {fuel i:Nat} {listed:Array Bool} {l:List Oper} {o:Oper}
  (h:yN (fun m O'=>J O'/\ab P n D ⟨l⟩ brk J Ψ Z fuel (listed.setIfInBounds i true) (aV o.dst m e) O' Q) (cI tab o e O)) (ht:aI P tab:=by exact aa) (hr:Region.ready .any ⟨l⟩ listed=[i]:=by kernel_rfl) (ho:l[i]?=some o:=by exact rfl) (hg:aK ⟨l⟩ o e=some true:=by exact rfl) (hd:bg n o.dst=true:=by exact rfl):ab P n D ⟨l⟩ brk J Ψ Z (fuel+1) listed e O Q:=
 ab.one (aG.o1 h (ht:=ht) (ho:=ho) (hg:=hg) (hd:=hd)) (hr:=hr)
theorem ab.st {brk:List Nat} {Ψ :Gh->Prop} {J:VH->Prop} {Z:Prop} {fuel i:Nat} {listed:Array Bool} {l:List Oper} {o:Oper} {M:MV->VH->Prop} (hy:eJ P n D o e O M)
  (h:∀m O',M m O'->J O'/\ab P n D ⟨l⟩ brk J Ψ Z fuel (listed.setIfInBounds i true) (aV o.dst m e) O' Q) (hr:Region.ready .any ⟨l⟩ listed=[i]:=by kernel_rfl) (ho:l[i]?=some o:=by exact rfl) (hg:aK ⟨l⟩ o e=some true:=by exact rfl) (hd:bg n o.dst=true:=by exact rfl):ab P n D ⟨l⟩ brk J Ψ Z (fuel+1) listed e O Q:=
 ab.one (aG.st hy h (ho:=ho) (hg:=hg) (hd:=hd)) (hr:=hr)
theorem ab.bM (ix:List (Nat×Fl)) {brk:List Nat} {Ψ :Gh->Prop} {J:VH->Prop} {Z:Prop} {fuel:Nat} {listed:Array Bool} {l:List Oper} {L:List (Fl×Oper)}
  (h:WL P tab n D .any ⟨l⟩ Q L e O) (ht:aI P tab:=by exact aa) (hb:((List.range listed.size).all fun j=>listed.getD j true||brk.contains j)=true:=by kernel_rfl) (hs:Region.noSelect ⟨l⟩=true:=by kernel_rfl) (hp:cc .any ⟨l⟩ fuel listed ix=true:=by kernel_rfl) (hL:mZ l ix=some L:=by exact rfl):ab P n D ⟨l⟩ brk J Ψ Z fuel listed e O Q:=ab.fin hb (bP.bM ix h (ht:=ht) (hs:=hs) (hp:=hp) (hL:=hL))
end
set_option linter.defProp false in
def wk:=And.intro @ws<|And.intro @Uf<|And.intro @KW<|And.intro @KX<|And.intro @OS @Ir
section
variable {G H:Gh} {n:Sz} {D:List Deferred} {e:Env} {a:Act} {P:Program} {tab:bN} {O O':VH} {w:World} {m m':MV} {u v:Value} {ops:Array Oper} {Q:VQ} {md:Md}
theorem pW {t:TypeId} {ms:Array (String×TypeId)} (hu:P.underlying t=some (.interface ms)):P.underlying t=some (.interface (P.methodsAt t)):=by
 rw[hu,Program.methodsAt,hu]
theorem gM.Rw {d:Option Tmp} {op:BinOp} {t t' ty tv:TypeId} {x:Operand} {ps:String} {af:Array Edge} {g:Option (Nat×Bool)} {p:MV} {bb:Bool} {ms:Array (String×TypeId)} (hu:P.underlying t=some (.interface ms)) (hx:ev e x=some (.iface tv p)) (xe:(op= .eql/\bb=false)\/(op= .neq/\bb=true)):
  gM P n D (.mk d (.binOp op t x (.const .nilIface) t') ty ps af g) e (.v (.bool bb)):=by
 intro G a hf;have h1:=hf.ev hx;generalize hv:a.eval x=v at h1;have hc:a.eval (.const .nilIface)= .nilIface:=rfl;cases h1 with
 | iface h2=>
   rename_i u;refine cT.of (s:=do eqGuard op t x (.const .nilIface) (.iface tv u) .nilIface;binOp op t (.iface tv u) .nilIface) (aU.of (u:=.bool bb) (fun w _=>?_) (.v rfl)) (by simp[execOp,hv,hc]);have Ym:(eqGuard op t x (.const .nilIface) (.iface tv u) .nilIface).run P w= .ok () w:=by rcases xe with⟨rfl,_⟩ | ⟨rfl,_⟩<;>simp[eqGuard]
   rw[Sem.run_bind,Ym,Result.andThen_ok];rcases xe with⟨rfl,rfl⟩ | ⟨rfl,rfl⟩
   ·exact run_eql_held_nil w t tv u (pW hu)
   ·exact run_neq_held_nil w t tv u (pW hu)
theorem gM.DI {d:Option Tmp} {op:BinOp} {t t' ty:TypeId} {x:Operand} {ps:String} {af:Array Edge} {g:Option (Nat×Bool)} {bb:Bool} {ms:Array (String×TypeId)} (hu:P.underlying t=some (.interface ms)) (hx:ev e x=some (.v .nilIface)) (xe:(op= .eql/\bb=true)\/(op= .neq/\bb=false)):
  gM P n D (.mk d (.binOp op t x (.const .nilIface) t') ty ps af g) e (.v (.bool bb)):=by
 intro G a hf;have h1:=(hf.ev hx).iv;have hc:a.eval (.const .nilIface)= .nilIface:=rfl;refine cT.of (s:=do eqGuard op t x (.const .nilIface) .nilIface .nilIface;binOp op t .nilIface .nilIface) (aU.of (u:=.bool bb) (fun w _=>?_) (.v rfl)) (by simp[execOp,h1,hc]);have Ym:(eqGuard op t x (.const .nilIface) .nilIface .nilIface).run P w= .ok () w:=by rcases xe with⟨rfl,_⟩ | ⟨rfl,_⟩<;>cases x<;>simp[eqGuard]
 rw[Sem.run_bind,Ym,Result.andThen_ok];rcases xe with⟨rfl,rfl⟩ | ⟨rfl,rfl⟩
 ·exact run_eql_nil_nil w t (pW hu)
 ·exact run_neq_nil_nil w t (pW hu)
theorem gM.asT {d:Option Tmp} {t s ty:TypeId} {x:Operand} {ps:String} {af:Array Edge} {g:Option (Nat×Bool)} {p:MV} {u:TypeDesc} (hu:P.underlying s=some u) (hi:∀ms,u≠ .interface ms) (hx:ev e x=some (.iface s p)):
  gM P n D (.mk d (.typeAssert x t s true) ty ps af g) e (.tuple [p,.v (.bool true)]):=by
 intro G a hf;have h1:=hf.ev hx;generalize hv:a.eval x=v at h1;cases h1 with
 | iface h2=>
   rename_i w0;refine cT.of (s:=Instr.typeAssert (.iface s w0) t s true) (aU.of (u:=.tuple #[w0,.bool true]) (fun w _=>?_) ?_) (by simp[execOp,hv])
   ·simp only[Instr.typeAssert,Sem.run_bind,run_underlying hu,Result.andThen_ok]
    cases u<;>first
     | rfl
     | simp
     | (rename_i ms;exact absurd rfl (hi ms))
   ·exact VR.tuple (cs:=[p,.v (.bool true)]) (us:=[w0,.bool true]) rfl fun i c u hc hu=>by
     match i with
     | 0=>simp at hc hu;subst hc;subst hu;exact h2
     | 1=>simp at hc hu;subst hc;subst hu;exact .v rfl
     | i+2=>simp at hc
theorem VL.panic {d:Option Tmp} {x:Operand} {ty t:TypeId} {ps:String} {af:Array Edge} {g:Option (Nat×Bool)} {L:List (Fl×Oper)} {p:MV} (hmd:md= .plain) (hx:ev e x=some (.iface t p)) (hg:aK ops (.mk d (.panic x) ty ps af g) e=some true)
  (h:Q (.panic (.iface t p)) (jQ n e) O):VL P n D md ops ((.one,.mk d (.panic x) ty ps af g)::L) e O Q:=by
 subst hmd;intro fuel listed ix hf hp
 match ix,hf with
 | (i,g')::ix,hf=>
   obtain⟨rfl,ho,hf⟩:=hf;intro G a w hw aS;have h1:=aS.ev hx
   have Ug:∃u,a.eval x= .iface t u:=by
    generalize a.eval x=v at h1;cases h1;exact⟨_,rfl⟩
   obtain⟨u,hv⟩:=Ug
   have bU:(execOp a.eval (.mk d (.panic x) ty ps af g)).run P w= .halt (.panic (.iface t u)) w:=by
    simp[execOp,hv,Instr.panic,goPanic]
   simp only[List.map_cons,wpOps,ho,bf aS hg,if_true];refine .inl ?_;unfold Oper.wp;rw[bU];exact⟨.panic (.iface t p),jQ n e,O,G,Gh.Le.refl G,hw,⟨C6,aS.less Ai⟩,⟨_,rfl,by rw[<-hv];exact h1⟩,h⟩
def MR (G:Gh):Option MV->FrameMode->Prop
 | none,.returning=>True
 | some m,.panicking [⟨v,false,false⟩]=>VR G m v
 | _,_=>False
def fG (P:Program) (g:FuncId) (args:List MV) (x:Option MV) (O:VH) (K:VH->Prop):Prop:=
 ∀G w vs u,WR G O w->aO G args vs->MR G x u->CallsD P g vs.toArray u w fun r u' w'=>(∃v,r= .returned v)/\settle u'= .returning/\∃O' H,Gh.Le G H/\WR H O' w'/\K O'
def yO:Option MV->MV
 | none=>.v .nilIface
 | some m=>m
theorem fG.rec {f:FuncId} {fn:Func} {c:Code} {id:Nat} {d:Tmp} {ty:TypeId} {ps:String} {af:Array Edge} {args:List MV} {x:Option MV} {K:VH->Prop} (hf:P.funcs[f]?=some fn) (hd:d<fn.ntmps)
  (h:WC P tab ⟨fn.ntmps,0⟩ [] c ((d,yO x)::cb 0 args) O fun y _ O'=>match y with
   | .normal=>K O'
   | .ret=>K O'
   | _=>False) (ht:aI P tab:=by exact aa) (hb:fn.body=some (.seq (.region id ⟨[.mk (some d) (.call {callee:=.builtin .recover,args:= #[],argTypes:= #[]}) ty ps af none]⟩ false) c):=by exact rfl) (hr:fn.results= #[]:=by exact rfl) (hn:args.length<=fn.ntmps:=by exact Nat.le_of_ble_eq_true rfl):fG P f args x O K:=by
 intro G w vs u hw hv hu;refine callsD_of_wpS hf hb fun c0 cs hm=>wpS_seq (wpS_region ?_)
 have aS:FR G ⟨fn.ntmps,0⟩ [] (cb 0 args) {tmps:=vs.toArray++Array.replicate (fn.ntmps - vs.toArray.size) undef,defers:=[]}:=by
  have hl:=hv.1;refine⟨rfl,by simp;omega,fun t x hx=>?_⟩;rw[iU,if_pos (Nat.zero_le _),Nat.sub_zero]at hx;obtain⟨u,h1,h2⟩:=hv.get hx;refine⟨u,?_,h2⟩;have dK:=(List.getElem?_eq_some_iff.1 h1).1;rw[Array.getElem?_append_left (by simpa using dK)];simpa using h1
 generalize ({tmps:=vs.toArray++Array.replicate (fn.ntmps - vs.toArray.size) undef,defers:=[]}:Act)=a at aS
 have bU:(execOp a.eval (.mk (some d) (.call {callee:=.builtin .recover,args:= #[],argTypes:= #[]}) ty ps af none)).run P w= .ok .recover w:=by
  simp[execOp,resolve,invoke,builtin]
 have go:∀(v:Value) (u':FrameMode),VR G (yO x) v->settle u'= .returning->(c.wpS P (bodyPostS P fn c0 cs fun r u' w'=>(∃v,r= .returned v)/\settle u'= .returning/\∃O' H,Gh.Le G H/\WR H O' w'/\K O')) (a.put (some d) v) ({c0 with mode:=u'}::cs) w:=by
  intro v u' WK hs;refine wpS_of_wp ?_;refine wp_mono (WC.sound ht h G _ w hw (FR.put aS hd WK)) ?_;rintro y a' w' ⟨z,e',O',H,g1,g2,g3,g4,g5⟩
  have fin:FR H ⟨fn.ntmps,0⟩ [] e' a'->K O'->bodyPostS P fn c0 cs (fun r u' w'=>(∃v,r= .returned v)/\settle u'= .returning/\∃O' H,Gh.Le G H/\WR H O' w'/\K O') .normal a' ({c0 with mode:=u'}::cs) w':=fun hf' hk=>
   ⟨hf'.defers,u',rfl,.tuple #[],by simp[results,hr],⟨_,rfl⟩,hs,O',H,g1,g2,hk⟩
  cases y<;>cases z<;>first
   | exact False.elim g4
   | exact fin g3 g5
   | exact g5.elim
 have KZ:(List.range (Array.mk [Oper.mk (some d) (.call {callee:=.builtin .recover,args:= #[],argTypes:= #[]}) ty ps af none]).size)=[0]:=rfl;rw[KZ];simp only[wpOpsS,List.getElem?_toArray,List.getElem?_cons_zero,bU];have afO:Region.wanted (Oper.mk (some d) (.call {callee:=.builtin .recover,args:= #[],argTypes:= #[]}) ty ps af none) (yielded ⟨[.mk (some d) (.call {callee:=.builtin .recover,args:= #[],argTypes:= #[]}) ty ps af none]⟩ a.tmps)=true:=rfl;rw[if_pos afO];subst hm
 match x,hmu:c0.mode,hu with
 | none,.returning,_=>
   have G5:recoverD (c0::cs)=none:=by simp[recoverD,hmu]
   rw[G5];have:=go .nilIface .returning (.v rfl) rfl;rw[show({c0 with mode:=.returning}:Frame)=c0 from by rw[<-hmu]]at this;exact this
 | some m,.panicking [⟨v,false,false⟩],WK=>
   have G5:recoverD (c0::cs)=some (v,{c0 with mode:=.panicking [⟨v,true,false⟩]}::cs):=by simp[recoverD,hmu]
   rw[G5];exact go v _ WK (by simp[settle])
def K_ (P:Program) (tab:bN) (rs:List ResultVar) (g:FuncId) (ms:List MV) (R:fU->VH->Prop):VQ:=fun x e O=>match x with
 | .normal=>fG P g ms none O fun O'=>iO R O' (iy tab e O' rs)
 | .ret=>fG P g ms none O fun O'=>iO R O' (iy tab e O' rs)
 | .panic m=>fG P g ms (some m) O fun O'=>iO R O' (iy tab e O' rs)
 | _=>False
theorem VF.deferred {f g:FuncId} {fn:Func} {A rest:Code} {id k lo:Nat} {t:Tmp} {cap:Array Operand} {ty Yn:TypeId} {ps Yo:String} {af Yp:Array Edge} {args:List MV} {rs:List ResultVar} {R:fU->VH->Prop} (hf:P.funcs[f]?=some fn) (hE:Enters P g)
  (h:WC P tab ⟨k,0⟩ [] A (cb 0 args) O fun x e O'=>match x with
   | .normal=>∃ms,fS e cap.toList=some ms/\∀D,VC P ⟨k,lo⟩ D rest ((t,.func (.func g) [] ms)::e) O' (K_ P tab rs g ms R)
   | _=>False) (ht:aI P tab:=by exact aa) (hb:fn.body=some (.seq A (.seq (.region id ⟨[.mk (some t) (.makeFunc (.func g) #[] cap) ty ps af none,.mk none (.defer {callee:=.value (.tmp t),args:= #[],argTypes:= #[]}) Yn Yo Yp none]⟩ false) rest)):=by exact rfl) (hk:fn.ntmps=k:=by exact rfl) (hr:fn.results.toList=rs:=by exact rfl) (hn:args.length<=k:=by exact Nat.le_of_ble_eq_true rfl) (fu:t<k:=by decide):VF P f args O R:=by
 subst hk;intro G w vs hw hv;refine calls_of_wp_defers hf hb ?_
 have aS:FR G ⟨fn.ntmps,0⟩ [] (cb 0 args) {tmps:=vs.toArray++Array.replicate (fn.ntmps - vs.toArray.size) undef,defers:=[]}:=by
  have hl:=hv.1;refine⟨rfl,by simp;omega,fun t x hx=>?_⟩;rw[iU,if_pos (Nat.zero_le _),Nat.sub_zero]at hx;obtain⟨u,h1,h2⟩:=hv.get hx;refine⟨u,?_,h2⟩;have dK:=(List.getElem?_eq_some_iff.1 h1).1;rw[Array.getElem?_append_left (by simpa using dK)];simpa using h1
 refine wp_seq (wp_mono (WC.sound ht h G _ w hw aS) ?_);rintro y a1 w1 ⟨x,e,O1,H,g1,g2,g3,g4,g5⟩
 cases y<;>cases x<;>first
  | exact False.elim g4
  | exact g5.elim
  | skip
 obtain⟨ms,hm,OT⟩:=g5;have g3:FR H ⟨fn.ntmps,0⟩ [] e a1:=g3;have js:=g3.fS hm;have FB:cap.map a1.eval=(cap.toList.map a1.eval).toArray:=by apply Array.ext';simp
 generalize cap.toList.map a1.eval=us at js FB
 have OU:(execOp a1.eval (.mk (some t) (.makeFunc (.func g) #[] cap) ty ps af none)).run P w1= .ok (.value (.func (.func g) #[] us.toArray)) w1:=by
  simp[execOp,Instr.makeFunc,FB]
 have hz:=g3.size;dsimp only at hz
 have hev:(a1.put (some t) (.func (.func g) #[] us.toArray)).eval (.tmp t)= .func (.func g) #[] us.toArray:=by
  simp[Act.eval,Act.put,hz,fu]
 have OV:(execOp (a1.put (some t) (.func (.func g) #[] us.toArray)).eval (.mk none (.defer {callee:=.value (.tmp t),args:= #[],argTypes:= #[]}) Yn Yo Yp none)).run P w1= .ok (.defer {target:=.fn (.func g) us.toArray,args:= #[]}) w1:=by
  simp[execOp,resolve,hev,Deferred.ofValue]
 refine wp_seq (wp_region ?_);have KZ:∀o1 o2:Oper,List.range (Array.mk [o1,o2]).size=[0,1]:=fun _ _=>rfl
 rw[KZ];have FU:∀(o1 o2:Oper) (tm:Array Value),o1.guard=none->Region.wanted o1 (yielded ⟨[o1,o2]⟩ tm)=true:=fun o1 o2 tm h=>by simp[Region.wanted,h]
 have wa:∀(o1 o2:Oper) (tm:Array Value),o2.guard=none->Region.wanted o2 (yielded ⟨[o1,o2]⟩ tm)=true:=fun o1 o2 tm h=>by simp[Region.wanted,h]
 simp only[wpOps,List.getElem?_toArray,List.getElem?_cons_zero,List.getElem?_cons_succ];rw[if_pos (FU _ _ _ rfl)];refine .inl ?_;unfold Oper.wp;rw[OU,Oper.upon_value];simp only[wpOps,List.getElem?_toArray,List.getElem?_cons_zero,List.getElem?_cons_succ];rw[if_pos (wa _ _ _ rfl)];refine .inl ?_;first | unfold Oper.wp | skip
 rw[OV,Oper.upon_defer];have xg:FR H ⟨fn.ntmps,0⟩ [] ((t,.func (.func g) [] ms)::e) (a1.put (some t) (.func (.func g) #[] us.toArray)):=FR.put g3 fu (.func (fs:=[]) (us:=[]) rfl (fun i c u h=>by simp at h) js.1 js.2);generalize a1.put (some t) (.func (.func g) #[] us.toArray)=a2 at xg;have DJ:FR H ⟨fn.ntmps,lo⟩ [{target:=.fn (.func g) us.toArray,args:= #[]}] ((t,.func (.func g) [] ms)::e) {a2 with defers:={target:=.fn (.func g) us.toArray,args:= #[]}::a2.defers}:=⟨by rw[xg.defers],xg.size,xg.get⟩;show rest.wp P _ _ _;refine wp_mono (OT _ H _ w1 g2 DJ) ?_;rintro y a' w' ⟨x,e',O',K,k1,k2,k3,k4,k5⟩
 have hinv:∀w:World,(invoke (.fn (.func g) us.toArray) #[]).run P w= .ok (.enter g us.toArray) w:=fun w=>by
  simp[invoke,hE us.toArray w]
 have fin:∀(u:FrameMode) (z:Option MV),u≠ .run->MR K z u->FR K ⟨fn.ntmps,lo⟩ [{target:=.fn (.func g) us.toArray,args:= #[]}] e' a'->fG P g ms z O' (fun O'=>iO R O' (iy tab e' O' rs))->
   Leaves P fn a'.tmps (fun x w'=>∃r O' H,Gh.Le G H/\WR H O' w'/\ER H r x/\R r O') a'.defers u w':=by
  intro u z hu hmr Yq hd;rw[Yq.defers];refine leaves_cons hu (hinv _) ((hd K w' us u k2 (js.mono k1) hmr).mono ?_);rintro r u' N2 ⟨⟨v,rfl⟩,hs,O2,K2,q1,q2,q3⟩;dsimp only;rw[hs]
  have key:∃m,dj tab fn e' O2=some m/\R (.ret m) O2:=by
   unfold dj;rw[hr, <-uh];generalize iy tab e' O2 rs=z at q3;unfold iO at q3;split at q3
   ·exact q3.elim
   ·exact⟨_,rfl,q3⟩
   ·rename_i l hl;refine⟨.tuple l,?_,q3⟩
    match l,hl with
    | [],_=>rfl
    | [m],hl=>exact absurd rfl (hl m)
    | _::_::_,_=>rfl
  obtain⟨m,h6,h7⟩:=key;obtain⟨u2,h8,h9⟩:=lY (P:=P) ht q2 (Yq.mono q1) h6;exact⟨u2,h8,.ret m,O2,K2,(g1.trans k1).trans q1,q2,h9,h7⟩
 cases y with
 | normal=>cases x<;>first | exact False.elim k4 | exact fin .returning none (by simp) trivial k3 k5
 | ret=>cases x<;>first | exact False.elim k4 | exact fin .returning none (by simp) trivial k3 k5
 | panic c=>
   cases x with
   | panic m=>
     obtain⟨u,rfl,hvu⟩:=k4;exact fin (.panicking [⟨u,false,false⟩]) (some m) (by simp) hvu k3.2 k5
   | _=>exact False.elim k4
 | exit i=>cases x<;>first | exact False.elim k4 | exact k5.elim
 | goto i=>cases x<;>first | exact False.elim k4 | exact k5.elim
 | outgrown=>cases x<;>exact False.elim k4
theorem Uh:jQ n []=[]:=rfl
theorem OW {N L t:Nat}:jQ ⟨N,L⟩ ((t,m)::e)=bif decide (t<L)then(t,m)::jQ ⟨N,L⟩ e else jQ ⟨N,L⟩ e:=rfl
theorem It {rs:List ResultVar} {g:FuncId} {ms:List MV} {R:fU->VH->Prop}:K_ P tab rs g ms R .normal e O=fG P g ms none O fun O'=>iO R O' (iy tab e O' rs):=rfl
theorem Ui {rs:List ResultVar} {g:FuncId} {ms:List MV} {R:fU->VH->Prop}:K_ P tab rs g ms R .ret e O=fG P g ms none O fun O'=>iO R O' (iy tab e O' rs):=rfl
theorem La {rs:List ResultVar} {g:FuncId} {ms:List MV} {R:fU->VH->Prop}:K_ P tab rs g ms R (.panic m) e O=fG P g ms (some m) O fun O'=>iO R O' (iy tab e O' rs):=rfl
end
set_option linter.defProp false in
def wd:=And.intro @W5<|And.intro @Uh<|And.intro @OW<|And.intro @It<|And.intro @Ui<|And.intro @La<|And.intro @qk<|And.intro @ql @Bu
section
variable {G H:Gh} {n:Sz} {D:List Deferred} {e:Env} {a:Act} {P:Program} {tab:bN} {O O':VH} {w:World} {m m':MV} {u v:Value} {ops:Array Oper} {Q:VQ} {md:Md}
section
variable {d:Option Tmp} {op:BinOp} {t t' ty:TypeId} {x y:Operand} {ps:String} {af:Array Edge} {g:Option (Nat×Bool)} {b:Bool} {p q:MV}
theorem OZ:cI tab (.mk d (.range t x) ty ps af g) e O=none:=rfl
theorem Uj:cI tab (.mk d (.next x b) ty ps af g) e O=none:=rfl
theorem BZ:cI tab (.mk d (.typeAssert x t t' b) ty ps af g) e O=none:=rfl
def Iu (t:TypeId):Option bS->Option MV->Option MV
 | some i,some p=>match i.under with
   | .interface _=>none
   | _=>some (.iface t p)
 | _,_=>none
theorem Uk:cI tab (.mk d (.makeInterface t x) ty ps af g) e O=(Iu t (tab t) (ev e x)).map (·,O):=by
 unfold cI dU gT Iu;dsimp only;cases tab t with
 | none=>rfl
 | some i=>
   cases ev e x with
   | none=>obtain⟨u,a,b,z⟩:=i;cases u<;>rfl
   | some p=>obtain⟨u,a,b,z⟩:=i;cases u<;>rfl
theorem O_:cI tab (.mk d (.panic x) ty ps af g) e O=none:=rfl
theorem Ul:cF tab op t (.iface ty p) (.v .nilIface)=none:=by cases op<;>rfl
theorem Um:cF tab op t (.v .nilIface) (.iface ty p)=none:=by cases op<;>rfl
theorem Yr {cs:List MV} {i:Nat}:qF (.tuple cs) i=cs[i]?:=rfl
theorem Ys {r:Int} {a b a' b':Nat} {z z':List MV}:Ij (.v (.int .i32 r)) (some ⟨.int .i32,a,b,z⟩) (some ⟨.string,a',b',z'⟩)=none:=rfl
theorem Yt:cF tab op t (.v .nilIface) (.v .nilIface)=none:=by cases op<;>rfl
end
end
set_option linter.defProp false in
def wi:=And.intro @Uk<|And.intro @OZ<|And.intro @Uj<|And.intro @BZ<|And.intro @O_<|And.intro @Ul<|And.intro @Um<|And.intro @Yr<|And.intro @Ys @Yt
section
variable {G H:Gh} {n:Sz} {D:List Deferred} {e e':Env} {a:Act} {P:Program} {tab:bN} {O O':VH} {w:World} {m m':MV} {u v:Value} {ops:Array Oper} {Q:VQ} {md:Md}
def jT (cs:List MV) (X:Obj) (G:Gh):Prop:=∃C:Array Value,∃T:Fz C,X= .cells C T.t T.fr/\aO G cs (C.toList.take cs.length)
theorem jT.mono {cs:List MV} {X:Obj} (h:G.Le H) (hx:jT cs X G):jT cs X H:=by
 obtain⟨C,T,h1,h2⟩:=hx;exact⟨C,T,h1,h2.mono h⟩
theorem VH.pX {x:bV} {k j:Nat}:(j=k/\(O.set k x).hp j=some x)\/(j≠k/\(O.set k x).hp j=O.hp j):=by
 by_cases e:j=k
 ·subst e;exact .inl ⟨rfl,VH.an _ _ _⟩
 ·exact .inr ⟨e,VH.ak _ _ e⟩
theorem An {x:bV} {k j:Nat} (hk:O.hp k≠none) (h:(O.set k x).hp j≠none):O.hp j≠none:=by
 rcases VH.pX (O:=O) (x:=x) (k:=k) (j:=j)with⟨rfl,_⟩ | ⟨_,e⟩
 ·exact hk
 ·rwa [e]at h
theorem WR.swap {k:Nat} {x:bV} (h:WR G O w) (hk:O.hp k≠none) (hc:∀cs,x= .cells cs->∃b,∃C:Array Value,∃T:Fz C,G.cy k=some b/\w.heap[b]?=some (.cells C T.t T.fr)/\aO G cs (C.toList.take cs.length))
  (ho:∀X,x= .obj X->∃b,G.cy k=some b/\w.heap[b]?=some X) (hm:∀es ck,x≠ .map es ck) (ht:x≠ .tok) (hs:∀j t n,x≠ .shape j t n):WR G (O.set k x) w where
 base:=h.base
 d_:=h.d_
 qD j hj:=by
  obtain⟨h1,h2,h3⟩:=h.qD j hj;exact⟨h1,h2,(VH.ak _ _ (fun e=>by subst e;exact hk h3)).trans h3⟩
 lP j b hj:=by
  obtain⟨h1,h2,h3⟩:=h.lP j b hj;exact⟨h1,h2,fun hn=>h3 (An hk hn)⟩
 inj i j b hi hj:=h.inj i j b (An hk hi) (An hk hj)
 cells j cs hj:=by
  rcases VH.pX (O:=O) (x:=x) (k:=k) (j:=j)with⟨rfl,e⟩ | ⟨_,e⟩
  ·rw[e]at hj;injection hj with hj;exact hc cs hj
  ·rw[e]at hj;exact h.cells j cs hj
 map j es ck hj:=by
  rcases VH.pX (O:=O) (x:=x) (k:=k) (j:=j)with⟨rfl,e⟩ | ⟨_,e⟩
  ·rw[e]at hj;injection hj with hj;exact absurd hj (hm _ _)
  ·rw[e]at hj;exact h.map j es ck hj
 tok j hj:=by
  rcases VH.pX (O:=O) (x:=x) (k:=k) (j:=j)with⟨rfl,e⟩ | ⟨_,e⟩
  ·rw[e]at hj;injection hj with hj;exact absurd hj ht
  ·rw[e]at hj;exact h.tok j hj
 lU i j b y z hi hj:=by
  rcases VH.pX (O:=O) (x:=x) (k:=k) (j:=i)with⟨rfl,e⟩ | ⟨_,e⟩
  ·rw[e]at hi;injection hi with hi;exact absurd hi ht
  ·rw[e]at hi;rcases VH.pX (O:=O) (x:=x) (k:=k) (j:=j)with⟨rfl,e⟩ | ⟨_,e⟩
   ·rw[e]at hj;injection hj with hj;exact absurd hj ht
   ·rw[e]at hj;exact h.lU i j b y z hi hj
 nK j k' t n hj:=by
  rcases VH.pX (O:=O) (x:=x) (k:=k) (j:=j)with⟨rfl,e⟩ | ⟨_,e⟩
  ·rw[e]at hj;injection hj with hj;exact absurd hj (hs _ _ _)
  ·rw[e]at hj;exact h.nK j k' t n hj
 obj j y hj:=by
  rcases VH.pX (O:=O) (x:=x) (k:=k) (j:=j)with⟨rfl,e⟩ | ⟨_,e⟩
  ·rw[e]at hj;injection hj with hj;exact ho y hj
  ·rw[e]at hj;exact h.obj j y hj
 rC:=h.rC
theorem WR.fix {k:Nat} {cs:List MV} (h:WR G O w) (hk:O.hp k=some (.cells cs)):∃X,jT cs X G/\WR G (O.set k (.obj X)) w:=by
 obtain⟨b,C,T,h1,h2,h3⟩:=h.cells k cs hk;exact⟨_,⟨C,T,rfl,h3⟩,h.swap (by rw[hk];simp) (fun _ e=>by cases e) (fun X e=>by injection e with e;exact⟨b,h1,by rw[h2,e]⟩) (fun _ _ e=>by cases e) (fun e=>by cases e) (fun _ _ _ e=>by cases e)⟩
theorem WR.wJ {k:Nat} {cs:List MV} {X:Obj} (h:WR G O w) (hk:O.hp k=some (.obj X)) (hx:jT cs X G):WR G (O.set k (.cells cs)) w:=by
 obtain⟨b,h1,h2⟩:=h.obj k X hk;obtain⟨C,T,rfl,h3⟩:=hx;exact h.swap (by rw[hk];simp) (fun cs' e=>by injection e with e;subst e;exact⟨b,C,T,h1,h2,h3⟩) (fun X e=>by cases e) (fun _ _ e=>by cases e) (fun e=>by cases e) (fun _ _ _ e=>by cases e)
theorem VC.oQ {id:Nat} (brk:List Nat) (k:Nat) {cs:List MV} (hk:O.hp k=some (.cells cs)) (h:∀X,ab P n D ops brk (fun O'=>O'.hp k=some (.obj X)) (jT cs X) True ops.size (Array.replicate ops.size false) e (O.set k (.obj X)) Q) (hm:P.follows .mixedOrders=true:=by kernel_rfl):VC P n D (.region id ops true) e O Q:=
 fun G a w hw hf=>by
  obtain⟨X,hx,wa⟩:=(hw.drawn _).fix hk;exact wp_region_any hm (jR _ _ _ _ (h X (fun _ _=>jT.mono) trivial (VH.an _ _ _) G a _ hx wa hf))
theorem DK (ht:aI P tab) {t:TypeId} {i:bS} {cs:List MV} {us:List Value} {off:Nat} (hi:tab t=some i) (hv:lW (ea i.under) i.size cs off=some m) (ot:aO G cs us):
  ∃r,VR G m r/\∀y b,(∀j v,us[j]?=some v->y.cell? ⟨b,j,none⟩=some v)->(Instr.loadAt t (.pointer (some ⟨b,off,none⟩))).run P y= .ok r y:=by
 have eR:=ht t i hi;simp only[Instr.loadAt,Instr.sureAddr,loadVar];unfold lW at hv;split at hv
 ·rename_i oH;split at hv
  ·rename_i hle;injection hv with hv;subst hv
   have AY:=(ot.drop off).take i.size;have hlen:((us.drop off).take i.size).length=i.size:=by simp[ot.1];omega
   refine⟨_,.agg AY.1 AY.2,fun y b hy=>?_⟩
   have xX:∀j v,((us.drop off).take i.size)[j]?=some v->y.cell? ((⟨b,off,none⟩:Addr).add j)=some v:=by
    intro j v hj;rw[Addr.add_lit];rw[List.getElem?_take]at hj;split at hj
    ·rw[List.getElem?_drop]at hj;exact hy _ v hj
    ·cases hj
   have w7:=run_loadCells_list (P:=P) y ⟨b,off,none⟩ _ xX;rw[hlen]at w7;simp[nr eR,oH,eI eR,w7]
  ·cases hv
 ·rename_i oH;obtain⟨v,CP,Fx⟩:=ot.get hv;exact⟨v,Fx,fun y b hy=>by simp[nr eR,oH,hy _ v CP]⟩
theorem ab.rT (i:Nat) {brk:List Nat} {cs:List MV} {X:Obj} {fuel:Nat} {listed:Array Bool} {l:List Oper} {d:Option Tmp} {t:TypeId} {x:Operand} {ty:TypeId} {ps:String} {af:Array Edge} {g:Option (Nat×Bool)} {k off:Nat} (hv:ey tab (O.set k (.cells cs)) t (.ptr k off)=some m) (h:ab P n D ⟨l⟩ brk (fun O'=>O'.hp k=some (.obj X)) (jT cs X) True fuel (listed.setIfInBounds i true) (aV d m e) O Q) (ht:aI P tab:=by exact aa) (ho:l[i]?=some (.mk d (.load t x) ty ps af g):=by exact rfl) (hs:Region.noSelect ⟨l⟩=true:=by kernel_rfl) (hf:Region.free .any ⟨l⟩ listed i=true:=by kernel_rfl) (hr:(Region.ready .any ⟨l⟩ listed).contains i=true:=by kernel_rfl) (hb:mX ⟨l⟩ brk listed i=true:=by kernel_rfl) (hg:aK ⟨l⟩ (.mk d (.load t x) ty ps af g) e=some true:=by exact rfl) (hd:bg n d=true:=by exact rfl) (hx:ev e x=some (.ptr k off):=by exact rfl):ab P n D ⟨l⟩ brk (fun O'=>O'.hp k=some (.obj X)) (jT cs X) True (fuel+1) listed e O Q:=by
 refine ab.take (o:=.mk d (.load t x) ty ps af g) (by simpa using ho) hs hf hr hb hd (fun G a w _ hJ hψ hw aS=>?_) h;obtain⟨C,T,rfl,h3⟩:=hψ;unfold ey at hv;simp only[cellsOf,VH.an]at hv;split at hv
 ·rename_i ti cs' off' NX hc;injection hc with hc;injection hc with e1 e2;subst e1;subst e2
  obtain⟨r,nu,fc⟩:=DK (P:=P) ht NX hv h3;have Yu:=aS.ev hx;generalize Yv:a.eval x=xu at Yu;cases Yu with
  | ptr hp=>
    rename_i b;refine⟨r,nu,.inl ⟨bf aS hg,fun y hy=>?_⟩⟩;obtain⟨H,O2,g1,g2,g3⟩:=hy;obtain⟨b',cg,b9⟩:=g2.obj k _ g3;rw[g1.cy hp]at cg;injection cg with cg;subst cg
    have:=fc y b fun j v hj=>by
     rw[List.getElem?_take]at hj;split at hj
     ·simp only[World.cell?,b9,Option.isSome_none,Bool.false_eq_true,if_false];simpa using hj
     ·cases hj
    simp only[execOp,Sem.run_bind,Yv,this];rfl
 ·cases hv
theorem acF {Q Q':Exit->Act->World->Prop} {i:Nat} {K:Act->World->Prop} (hQ:∀y a w,Q y a w->Q' y a w) (h1:wpOp P ops Q i K a w):wpOp P ops Q' i K a w:=by
 unfold wpOp at h1 ⊢;split
 ·rename_i ho;simp only[ho]at h1;exact h1
 ·rename_i o ho;simp only[ho]at h1;split
  ·rename_i qI;simp only[qI,if_true]at h1;refine h1.imp (fun h2=>?_) (fun⟨h2,a',w',h3⟩=>⟨h2,a',w',hQ _ _ _ h3⟩);unfold Oper.wp at h2 ⊢;generalize (execOp a.eval o).run P w=r at*;cases r with
   | ok nx w'=>
     cases nx<;>simp only[Oper.upon]at h2 ⊢ <;>first
      | exact h2
      | (refine Calls.mono h2 fun x N2 he=>?_
         cases x with
         | returned v=>exact he
         | panicked c=>exact hQ _ _ _ he
         | outgrown=>obtain⟨a',w',h3⟩:=he;exact⟨a',w',hQ _ _ _ h3⟩)
   | halt x w'=>cases x<;>simp only[Oper.upon]at h2 ⊢ <;>first | exact h2 | exact hQ _ _ _ h2
  ·rename_i qI;simp only[qI]at h1;exact h1
def Rx (k:Nat) (X:Obj) (cs:List MV) (Q:VQ):VQ:=fun x e O=>match x with
 | .panic m=>O.hp k=some (.obj X)/\Q (.panic m) e (O.set k (.cells cs))
 | _=>False
theorem Rx.post {k:Nat} {X:Obj} {cs:List MV} {y:Exit} (hψ :jT cs X G) (h:cu G n D (Rx k X cs Q) y a w):cu G n D Q y a w:=by
 obtain⟨x,e,O,H,h1,h2,h3,h4,h5⟩:=h;cases x with
 | panic m=>exact⟨_,e,_,H,h1,h2.wJ h5.1 (hψ.mono h1),h3,h4,h5.2⟩
 | _=>exact h5.elim
theorem ab.gV {brk:List Nat} {k:Nat} {cs:List MV} {X:Obj} {fuel i:Nat} {listed:Array Bool} {l:List Oper} {d:Option Tmp} {f:Operand} {as_:Array Operand} {ts:Array TypeId} {ty:TypeId} {ps:String} {af:Array Edge} {g:Option (Nat×Bool)} {id:FuncId} {ms:List MV} {R:fU->VH->Prop} (hR:VF P id ms O R)
  (h:∀m O',R (.ret m) O'->O'.hp k=some (.obj X)/\ab P n D ⟨l⟩ brk (fun O'=>O'.hp k=some (.obj X)) (jT cs X) True fuel (listed.setIfInBounds i true) (aV d m e) O' Q) (h2:∀m O',R (.panic m) O'->O'.hp k=some (.obj X)/\Q (.panic m) (jQ n e) (O'.set k (.cells cs))) (hr:Region.ready .any ⟨l⟩ listed=[i]:=by kernel_rfl) (ho:l[i]?=some (.mk d (.call {callee:=.value f,args:=as_,argTypes:=ts}) ty ps af g):=by exact rfl) (hg:aK ⟨l⟩ (.mk d (.call {callee:=.value f,args:=as_,argTypes:=ts}) ty ps af g) e=some true:=by exact rfl) (hf:ev e f=some (.func (.func id) [] []):=by exact rfl) (hm:fS e as_.toList=some ms:=by exact rfl) (hb:dk P id=true:=by kernel_rfl) (hd:bg n d=true:=by exact rfl):ab P n D ⟨l⟩ brk (fun O'=>O'.hp k=some (.obj X)) (jT cs X) True (fuel+1) listed e O Q:=by
 intro hΨ hZ hJ G a w hψ hw aS;refine iM hr (by simp) fun j hj=>?_
 obtain rfl:j=i:=by simpa using hj
 have h1:=aG.call (Q:=Rx k X cs Q) (K:=fun e' O'=>O'.hp k=some (.obj X)/\ab P n D ⟨l⟩ brk (fun O'=>O'.hp k=some (.obj X)) (jT cs X) True fuel (listed.setIfInBounds j true) e' O' Q) (o:=.mk d (.call {callee:=.value f,args:=as_,argTypes:=ts}) ty ps af g) (by simpa using ho) hg rfl rfl hf hm (Enters.sY hb) hd (by simpa using hR) (fun r O' hr=>by
  cases r with
  | ret m=>exact h m O' hr
  | panic m=>exact h2 m O' hr) G a w hw aS
 refine acF (fun _ _ _=>Rx.post hψ) (wpOp_mono (fun a' w' ⟨e',O',H,h1,h2,h3,h4,h5⟩=>⟨TE.mk ⟨H,O',h1,h2,h4⟩,iN (fun _ _ _=>cu.le h1) _ _ _ _ (fun k _ x hT=>hT.le h1) (h5 hΨ hZ h4 H a' w' (hψ.mono h1) h2 h3)⟩) h1)
theorem ab.wJ {brk:List Nat} {k:Nat} {cs:List MV} {X:Obj} {fuel:Nat} {listed:Array Bool} (hb:((List.range listed.size).all fun j=>listed.getD j true||brk.contains j)=true) (h:bP P n D ops fuel listed e (O.set k (.cells cs)) Q):ab P n D ops brk (fun O'=>O'.hp k=some (.obj X)) (jT cs X) True fuel listed e O Q:=by
 intro hΨ hZ hJ G a w hψ hw aS;refine ma _ _ _ _ (fun j hj x hs=>⟨hs,fun hh=>?_⟩) (h G a w (hw.wJ hJ hψ) aS);rcases Nat.lt_or_ge j listed.size with hl | hl
 ·have:=List.all_eq_true.1 hb j (List.mem_range.2 hl);rw[hj,Bool.false_or]at this;rw[this]at hh;cases hh
 ·rw[Array.getD_eq_getD_getElem?,Array.getElem?_eq_none (by simpa using hl)]at hj;cases hj
theorem ab.mc (ix:List (Nat×Fl)) {brk:List Nat} {k:Nat} {cs:List MV} {X:Obj} {fuel:Nat} {listed:Array Bool} {l:List Oper} {L:List (Fl×Oper)}
  (h:WL P tab n D .any ⟨l⟩ Q L e (O.set k (.cells cs))) (ht:aI P tab:=by exact aa) (hb:((List.range listed.size).all fun j=>listed.getD j true||brk.contains j)=true:=by kernel_rfl) (hs:Region.noSelect ⟨l⟩=true:=by kernel_rfl) (hp:cc .any ⟨l⟩ fuel listed ix=true:=by kernel_rfl) (hL:mZ l ix=some L:=by exact rfl):ab P n D ⟨l⟩ brk (fun O'=>O'.hp k=some (.obj X)) (jT cs X) True fuel listed e O Q:=ab.wJ hb (bP.bM ix h (ht:=ht) (hs:=hs) (hp:=hp) (hL:=hL))
end
def Wk (m m':MV):Prop:=∀G u,VR G m u->VR G m' u
def dR (a b:List MV):Prop:=a.length=b.length/\∀(i:Nat) (c d:MV),a[i]?=some c->b[i]?=some d->Wk c d
theorem Wk.refl (m:MV):Wk m m:=fun _ _ h=>h
theorem Wk.trans {a b c:MV} (h:Wk a b) (k:Wk b c):Wk a c:=fun G u x=>k G u (h G u x)
theorem dR.refl (a:List MV):dR a a:=⟨rfl,fun i c d h k=>by rw[h]at k;injection k with k;subst k;exact Wk.refl _⟩
theorem dR.cons {a b:List MV} {x y:MV} (h:Wk x y) (k:dR a b):dR (x::a) (y::b):=by
 refine⟨by rw[List.length_cons,List.length_cons,k.1],fun i c d e f=>?_⟩;cases i with
 | zero=>simp only[List.getElem?_cons_zero,Option.some.injEq]at e f;subst e;subst f;exact h
 | succ i=>simp only[List.getElem?_cons_succ]at e f;exact k.2 i c d e f
theorem dR.get {a b:List MV} (k:dR a b) {i:Nat} {d:MV} (h:b[i]?=some d):∃c,a[i]?=some c/\Wk c d:=by
 have hi:i<a.length:=by rw[k.1];exact(List.getElem?_eq_some_iff.1 h).1
 exact⟨a[i],List.getElem?_eq_getElem hi,k.2 i _ _ (List.getElem?_eq_getElem hi) h⟩
theorem dR.use {G:Gh} {a b:List MV} (k:dR a b) {us:List Value} (h:∀(i:Nat) (c:MV) (u:Value),a[i]?=some c->us[i]?=some u->VR G c u):∀(i:Nat) (c:MV) (u:Value),b[i]?=some c->us[i]?=some u->VR G c u:=fun i d u h1 h2=>by
 obtain⟨c,h3,h4⟩:=k.get h1;exact h4 G u (h i c u h3 h2)
theorem dR.vrs {G:Gh} {a b:List MV} (k:dR a b) {us:List Value} (h:aO G a us):aO G b us:=⟨h.1.trans k.1,k.use h.2⟩
theorem Wk.agg {a b:List MV} (k:dR a b):Wk (.agg a) (.agg b):=fun G u h=>by
 cases h with
 | agg h1 h2=>exact .agg (h1.trans k.1) (k.use h2)
theorem Wk.tuple {a b:List MV} (k:dR a b):Wk (.tuple a) (.tuple b):=fun G u h=>by
 cases h with
 | tuple h1 h2=>exact .tuple (h1.trans k.1) (k.use h2)
theorem Wk.iface {t:TypeId} {a b:MV} (k:Wk a b):Wk (.iface t a) (.iface t b):=fun G u h=>by
 cases h with
 | iface h1=>exact .iface (k G _ h1)
theorem dR.eq_nil {b:List MV} (k:dR [] b):b=[]:=List.eq_nil_of_length_eq_zero k.1.symm
theorem Wk.sl {n:Nat} {a b:List MV} {t:aC} (k:dR a b):Wk (.sl n a t) (.sl n b t):=fun G u h=>by
 cases h with
 | slnil=>rw[k.eq_nil];exact .slnil
 | oq h1=>rw[k.eq_nil];exact .oq h1
 | jB=>rw[k.eq_nil];exact .jB
 | sl h1 h2 h3 h4 h5 h6=>exact .sl (h1.trans k.1) h2 (k.use h3) h4 h5 (k.1▸h6)
theorem Wk.tok {n:Nat} {a:List MV} {t:aC}:Wk (.sl n a t) (.sl n a .ar):=fun G u h=>by
 cases h with
 | slnil=>exact .jB
 | oq h1=>exact .oq h1
 | jB=>exact .jB
 | sl h1 h2 h3 h4 h5 h6=>exact .sl h1 h2 h3 h4 h5 trivial
mutual
def ar:MV->MV
 | .sl n cs _=>.sl n (cz cs) .ar
 | .agg cs=>.agg (cz cs)
 | .tuple cs=>.tuple (cz cs)
 | .iface t x=>.iface t (ar x)
 | .v x=>.v x
 | .str l=>.str l
 | .ptr b o=>.ptr b o
 | .cM cs o=>.cM cs o
 | .bo b o n c=>.bo b o n c
 | .map b=>.map b
 | .func f a b=>.func f a b
def cz:List MV->List MV
 | []=>[]
 | c::cs=>ar c::cz cs
end
mutual
theorem yP:∀m,Wk m (ar m)
 | .sl n cs t=>by rw[ar];exact(Wk.sl (oR cs)).trans Wk.tok
 | .agg cs=>by rw[ar];exact Wk.agg (oR cs)
 | .tuple cs=>by rw[ar];exact Wk.tuple (oR cs)
 | .iface t x=>by rw[ar];exact Wk.iface (yP x)
 | .v x=>by rw[ar];exact Wk.refl _
 | .str l=>by rw[ar];exact Wk.refl _
 | .ptr b o=>by rw[ar];exact Wk.refl _
 | .cM cs o=>by rw[ar];exact Wk.refl _
 | .bo b o n c=>by rw[ar];exact Wk.refl _
 | .map b=>by rw[ar];exact Wk.refl _
 | .func f a b=>by rw[ar];exact Wk.refl _
theorem oR:∀cs,dR cs (cz cs)
 | []=>by rw[cz];exact dR.refl _
 | c::cs=>by rw[cz];exact dR.cons (yP c) (oR cs)
end
theorem me (a b:List MV):cz (a++b)=cz a++cz b:=by
 induction a with
 | nil=>rw[cz,List.nil_append,List.nil_append]
 | cons x a ih=>rw[List.cons_append,cz,cz,ih,List.cons_append]
theorem jU {α :Type} {f: α ->List MV} (h:∀x,cz (f x)=f x) (L:List α):cz (L.flatMap f)=L.flatMap f:=by
 induction L with
 | nil=>rw[List.flatMap_nil,cz]
 | cons x L ih=>rw[List.flatMap_cons,me,h,ih]
theorem Un (L:List (List UInt8)):cz (L.map .str)=L.map .str:=by
 induction L with
 | nil=>rw[List.map_nil,cz]
 | cons x L ih=>rw[List.map_cons,cz,ar,ih]
def n8:MV->MV
 | .sl n cs t=>.sl n (cz cs) t
 | m=>ar m
theorem Lb (m:MV):Wk m (n8 m):=by
 cases m with
 | sl n cs t=>exact Wk.sl (oR cs)
 | _=>exact yP _
def DL:List MV->List MV
 | []=>[]
 | c::cs=>n8 c::DL cs
theorem Lc:∀cs,dR cs (DL cs)
 | []=>dR.refl _
 | c::cs=>dR.cons (Lb c) (Lc cs)
def sH:MV->MV
 | .sl n cs t=>.sl n (cz cs) t
 | .tuple cs=>.tuple (DL cs)
 | m=>ar m
theorem Yw (m:MV):Wk m (sH m):=by
 cases m with
 | sl n cs t=>exact Wk.sl (oR cs)
 | tuple cs=>exact Wk.tuple (Lc cs)
 | _=>exact yP _
section
variable {P:Program} {f:FuncId} {as_ bs:List MV} {O:VH}
theorem VF.fgR {R:fU->VH->Prop} (h:VF P f as_ O fun r O'=>match r with
  | .ret m=>R (.ret (sH m)) O'
  | .panic m=>R (.panic (ar m)) O'):VF P f as_ O R:=fun G w vs hw hv=>by
 refine(h G w vs hw hv).mono ?_;rintro x w' ⟨r,O',H,h1,h2,h3,h4⟩;cases r with
 | ret m=>cases x with
   | returned v=>exact⟨.ret _,O',H,h1,h2,Yw m H v h3,h4⟩
   | _=>exact h3.elim
 | panic m=>cases x with
   | panicked c=>obtain⟨u,h5,h6⟩:=h3;exact⟨.panic _,O',H,h1,h2,⟨u,h5,yP m H u h6⟩,h4⟩
   | _=>exact h3.elim
theorem VF.fg {Φ :MV->VH->Prop} (h:VF P f as_ O (aL fun m O'=> Φ (sH m) O')):VF P f as_ O (aL Φ):=VF.fgR (VF.mono (fun r O' hr=>by cases r with
 | ret m=>exact hr
 | panic m=>exact hr.elim) h)
variable {n:Sz} {md:Md} {Q:VQ} {e:Env} {K:Env->VH->Prop}
end
section
variable {P:Program} {tab:bN} {n:Sz} {D:List Deferred} {md:Md} {ops:Array Oper} {Q:VQ} {e e':Env} {O O':VH} {m m':MV}
def EW (e e':Env):Prop:=∀t x',look e' t=some x'->∃x,look e t=some x/\Wk x x'
theorem EW.refl (e:Env):EW e e:=fun t x h=>⟨x,h,Wk.refl _⟩
theorem EW.top {k:Nat} (h:Wk m m'):EW ((k,m)::e) ((k,m')::e):=fun t x hx=>by
 rw[look]at hx ⊢;cases ht:t==k
 ·rw[ht]at hx;exact⟨x,hx,Wk.refl _⟩
 ·rw[ht]at hx;injection hx with hx;subst hx;exact⟨m,rfl,h⟩
theorem EW.aV {d:Option Tmp} (h:Wk m m'):EW (aV d m e) (aV d m' e):=by
 cases d with
 | none=>exact EW.refl _
 | some k=>exact EW.top h
theorem FR.wk {G:Gh} {a:Act} (h:FR G n D e a) (hl:EW e e'):FR G n D e' a:=⟨h.defers,h.size,fun t x hx=>by
 obtain⟨y,h1,h2⟩:=hl t x hx;obtain⟨u,h3,h4⟩:=h.get t y h1;exact⟨u,h3,h2 G u h4⟩⟩
theorem VL.wk {L:List (Fl×Oper)} (hl:EW e e') (h:VL P n D md ops L e' O Q):VL P n D md ops L e O Q:=fun fuel listed ix h1 h2=>by
 have:=h fuel listed ix h1 h2;cases md<;>exact fun G a w hw hf=>this G a w hw (hf.wk hl)
theorem VC.bz {c d:Code} {σ :Type} (l:List Nat) (ms: σ ->List MV) (I: σ ->VH->Prop) (h1:VC P n D c e O (ay l ms I Q)) (h2:∀s O,I s O->VC P n D d (kM l (ms s) []) O Q):VC P n D (.seq c d) e O Q:=by
 refine VC.seq (VC.mono ?_ h1);intro x e O h;cases x with
 | normal=>
   obtain⟨s,h3,h4⟩:=h;exact VC.env (h2 s O h4) (lE (e0:=[]) (fun t x h=>by simp[look]at h) h3)
 | _=>exact h
theorem VL.kE {d:Option Tmp} {x y:Operand} {t ty:TypeId} {ps:String} {af:Array Edge} {g:Option (Nat×Bool)} {L:List (Fl×Oper)} {p q:MV} (hv:gJ tab O t p q=some (m,O')) (hw:n8 m=m') (h:WL P tab n D md ops Q L (aV d m' e) O') (ht:aI P tab:=by exact aa) (hx:ev e x=some p:=by exact rfl) (hy:ev e y=some q:=by exact rfl) (hg:aK ops (.mk d (.call {callee:=.builtin .append,args:= #[x,y],argTypes:= #[t,t]}) ty ps af g) e=some true:=by exact rfl) (hd:bg n d=true:=by exact rfl):
  VL P n D md ops ((.one,.mk d (.call {callee:=.builtin .append,args:= #[x,y],argTypes:= #[t,t]}) ty ps af g)::L) e O Q:=
 VL.step ht hg (by rw[vA,cD,hx,hy];exact hv) hd (VL.wk (EW.aV (hw▸Lb m)) (WL.sound ht h))
end
section
variable {n:Nat} {cs as_ bs:List MV} {t:aC} {ty:TypeId} {x:MV} {l:List UInt8} {b o:Nat} {v:Value} {f:Fn} {c:MV}
theorem Yx:sH (.sl n cs t)= .sl n (cz cs) t:=rfl
theorem Ld:sH (.tuple cs)= .tuple (DL cs):=rfl
theorem Uo:sH (.agg cs)= .agg (cz cs):=by show ar (.agg cs)=_;rw[ar]
theorem acG:sH (.v v)= .v v:=by show ar (.v v)=_;rw[ar]
theorem Up:sH (.str l)= .str l:=by show ar (.str l)=_;rw[ar]
theorem Uq:sH (.ptr b o)= .ptr b o:=by show ar (.ptr b o)=_;rw[ar]
theorem Ur {i j:Nat}:sH (.bo b o i j)= .bo b o i j:=by show ar (.bo b o i j)=_;rw[ar]
theorem Us:sH (.map b)= .map b:=by show ar (.map b)=_;rw[ar]
theorem Pb:sH (.func f as_ bs)= .func f as_ bs:=by show ar (.func f as_ bs)=_;rw[ar]
theorem qL:n8 (.sl n cs t)= .sl n (cz cs) t:=rfl
theorem Lf:n8 (.tuple cs)= .tuple (cz cs):=by show ar (.tuple cs)=_;rw[ar]
theorem Ut:n8 (.agg cs)= .agg (cz cs):=by show ar (.agg cs)=_;rw[ar]
theorem acH:n8 (.v v)= .v v:=by show ar (.v v)=_;rw[ar]
theorem Uu:n8 (.str l)= .str l:=by show ar (.str l)=_;rw[ar]
theorem Uv:n8 (.ptr b o)= .ptr b o:=by show ar (.ptr b o)=_;rw[ar]
theorem Pc:n8 (.cM cs o)= .cM cs o:=by show ar (.cM cs o)=_;rw[ar]
theorem Uw {i j:Nat}:n8 (.bo b o i j)= .bo b o i j:=by show ar (.bo b o i j)=_;rw[ar]
theorem Ux:n8 (.map b)= .map b:=by show ar (.map b)=_;rw[ar]
theorem Pd:n8 (.func f as_ bs)= .func f as_ bs:=by show ar (.func f as_ bs)=_;rw[ar]
theorem Lg:n8 (.iface ty x)= .iface ty (ar x):=by show ar (.iface ty x)=_;rw[ar]
theorem Uy:DL []=[]:=rfl
theorem Pe:DL (c::cs)=n8 c::DL cs:=rfl
theorem acI:ar (.sl n cs t)= .sl n (cz cs) .ar:=by rw[ar]
theorem Yy:ar (.agg cs)= .agg (cz cs):=by rw[ar]
theorem afP:ar (.v v)= .v v:=by rw[ar]
theorem Yz:ar (.str l)= .str l:=by rw[ar]
theorem YA:ar (.ptr b o)= .ptr b o:=by rw[ar]
theorem YB {i j:Nat}:ar (.bo b o i j)= .bo b o i j:=by rw[ar]
theorem YC:ar (.map b)= .map b:=by rw[ar]
theorem Pf:ar (.iface ty x)= .iface ty (ar x):=by rw[ar]
theorem G6:cz []=[]:=by rw[cz]
theorem Pg:cz (c::cs)=ar c::cz cs:=by rw[cz]
end
set_option linter.defProp false in
def wu:=And.intro @Yx<|And.intro @Ld<|And.intro @Uo<|And.intro @acG<|And.intro @Up<|And.intro @Uq<|And.intro @Ur<|And.intro @Us<|And.intro @Pb<|And.intro @qL<|And.intro @Lf<|And.intro @Ut<|And.intro @acH<|And.intro @Uu<|And.intro @Uv<|And.intro @Pc<|And.intro @Uw<|And.intro @Ux<|And.intro @Pd<|And.intro @Lg<|And.intro @Uy<|And.intro @Pe<|And.intro @acI<|And.intro @Yy<|And.intro @afP<|And.intro @Yz<|And.intro @YA<|And.intro @YB<|And.intro @YC<|And.intro @Pf<|And.intro @G6<|And.intro @Pg<|And.intro @me @Un
open Go.MapKept (run_setObj_map)
section
variable {G H:Gh} {n:Sz} {D:List Deferred} {e:Env} {a:Act} {P:Program} {tab:bN} {O O':VH} {w:World} {m m':MV} {u v:Value} {ops:Array Oper} {Q:VQ} {md:Md}
theorem Iv {t:TypeId} {x:MV} {cs:List MV} {ok:Bool}:je tab O t x (.agg cs) ok=none:=by
 unfold je;split
 ·split
  ·rename_i kd te h1 h2;have:Ba kd (.agg cs)=false:=by cases kd<;>rfl
   rw[this]
  ·rfl
 ·rfl
theorem B0 {t:TypeId} {x y:MV} {cs:List MV}:eT tab O t x (.agg cs) y=none:=by
 unfold eT;split
 ·split
  ·rename_i kd es ck h1 h2;have:Ba kd (.agg cs)=false:=by cases kd<;>rfl
   rw[this]
  ·rfl
 ·rfl
def eW (l:List (List UInt8)):Value:=.agg (l.map fun s=>Value.string ⟨⟨s⟩⟩).toArray
structure sI (P:Program) (kt:TypeId) (N:Nat):Prop where
 law:WideMaps.KeyLaw P kt
 of:∀l:List (List UInt8),l.length=N->(∀s∈l,s.length<=maxLen)->∃lit,keyOf P kt (eW l)=some lit
theorem G7:∀{l:List (List UInt8)} {us:List Value},aO G (l.map .str) us->us=l.map fun s=>Value.string ⟨⟨s⟩⟩
 | [],us,h=>List.eq_nil_of_length_eq_zero h.1
 | s::l,[],h=>by have:=h.1;simp at this
 | s::l,x::us,h=>by
   have h1:VR G (.str s) x:=h.2 0 _ _ rfl rfl;cases h1;rw[List.map_cons,G7 (l:=l) (us:=us) ⟨by have:=h.1;simpa using this,fun i c u a b=>h.2 (i+1) c u (by simpa using a) (by simpa using b)⟩]
theorem yQ {l:List (List UInt8)} (h:VR G (.agg (l.map .str)) v):v=eW l:=by
 cases h with
 | agg h1 h2=>rw[G7 ⟨h1,h2⟩];rfl
theorem Ph {l m:List (List UInt8)} (h:eW l=eW m):l=m:=by
 unfold eW at h;injection h with h;have h:=congrArg Array.toList h;simp only at h
 have:∀{l m:List (List UInt8)},l.map (fun s=>Value.string ⟨⟨s⟩⟩)=m.map (fun s=>Value.string ⟨⟨s⟩⟩)->l=m:=by
  intro l;induction l with
  | nil=>intro m h;cases m with
    | nil=>rfl
    | cons y m=>simp at h
  | cons x l ih=>intro m h;cases m with
    | nil=>simp at h
    | cons y m=>
      simp only[List.map_cons,List.cons.injEq,Value.string.injEq,ByteArray.mk.injEq,Array.mk.injEq]at h;rw[h.1,ih h.2]
 exact this h
abbrev eS:=List (List (List UInt8)×MV×Nat)
def cf (M:eS):v_:=M.map fun p=>(.agg (p.1.map .str),p.2.1,p.2.2)
def jI (l:List (List UInt8)) (M:eS):Option MV:=(M.find? (·.1==l)).map (·.2.1)
def jV (l:List (List UInt8)) (y:MV) (ck:Nat) (M:eS):eS:=if M.any (·.1==l)then M.map (fun p=>if p.1=l then(l,y,p.2.2)else p)else M++[(l,y,ck)]
def Pj (l:List (List UInt8)) (ck:Nat) (M:eS):Nat:=if M.any (·.1==l)then ck else ck+1
structure n_ (N:Nat) (M:eS):Prop where
 len:∀p∈M,p.1.length=N/\∀s∈p.1,s.length<=maxLen
 one:(M.map (·.1)).Nodup
theorem Iw {M:eS} (h:(M.map (·.1)).Nodup) {j:Nat} {p:List (List UInt8)×MV×Nat} (hp:M[j]?=some p):jI p.1 M=some p.2.1:=by
 unfold jI;induction M generalizing j with
 | nil=>simp at hp
 | cons x M ih=>
   simp only[List.map_cons,List.nodup_cons]at h;cases j with
   | zero=>simp only[List.getElem?_cons_zero,Option.some.injEq]at hp;subst hp;simp
   | succ j=>
     simp only[List.getElem?_cons_succ]at hp;have hm:p.1∈M.map (·.1):=List.mem_map_of_mem (List.mem_of_getElem? hp)
     have hne:(x.1==p.1)=false:=by
      rw[beq_eq_false_iff_ne];intro e;exact h.1 (e▸hm)
     rw[List.find?_cons,hne];exact ih h.2 hp
theorem vD {M:eS} {l:List (List UInt8)} (h:∀p∈M,p.1≠l):jI l M=none:=by
 unfold jI;rw[List.find?_eq_none.2 (fun p hp=>by simpa using h p hp)];rfl
theorem fT.keys {M:eS} {E:List MapEntry} (h:fT G (cf M) E):E.length=M.length/\∀(j:Nat) (p:List (List UInt8)×MV×Nat) (x:MapEntry),M[j]?=some p->E[j]?=some x->x.key=eW p.1/\VR G p.2.1 x.val/\x.born=p.2.2:=by
 have hl:E.length=M.length:=by have:=h.key.1;simpa[cf]using this
 refine⟨hl,fun j p x hp hx=>⟨?_,?_,?_⟩⟩
 ·exact yQ (h.key.2 j _ _ (by simp[cf,hp]) (by simp[hx]))
 ·exact h.val.2 j _ _ (by simp[cf,hp]) (by simp[hx])
 ·have:=congrArg (fun l=>l[j]?) h.born;simpa[cf,hp,hx]using this
theorem yR {kt:TypeId} {N:Nat} (K:sI P kt N) {M:eS} {E:List MapEntry} {l:List (List UInt8)} (hM:n_ N M) (hE:fT G (cf M) E) (hl:l.length=N) (hs:∀s∈l,s.length<=maxLen) (w:World):
  ((Instr.findKey kt (eW l) E).run P w= .ok none w/\∀p∈M,p.1≠l)\/∃(j:Nat) (p:List (List UInt8)×MV×Nat) (x:MapEntry),(Instr.findKey kt (eW l) E).run P w= .ok (some (j,x.val)) w/\M[j]?=some p/\p.1=l/\E[j]?=some x/\VR G p.2.1 x.val:=by
 obtain⟨lit,wK⟩:=K.of l hl hs;obtain⟨h1,h2⟩:=hE.keys
 have jC:∀x∈E,∃q,keyOf P kt x.key=some q:=fun x hx=>by
  obtain⟨j,hj,rfl⟩:=List.mem_iff_getElem.1 hx;have Uz:j<M.length:=by omega
  have:=(h2 j _ _ (List.getElem?_eq_getElem Uz) (List.getElem?_eq_getElem hj)).1;rw[this];exact K.of _ (hM.len _ (List.getElem_mem Uz)).1 (hM.len _ (List.getElem_mem Uz)).2
 rcases K.law.find w wK E jC with⟨g1,g2⟩ | ⟨j,x,g1,g2,g3⟩
 ·refine .inl ⟨g1,fun p hp e=>?_⟩;obtain⟨j,hj,rfl⟩:=List.mem_iff_getElem.1 hp;have YD:j<E.length:=by omega
  have:=(h2 j _ _ (List.getElem?_eq_getElem hj) (List.getElem?_eq_getElem YD)).1;exact g2 _ (List.getElem_mem YD) (by rw[this,e])
 ·have YD:=(List.getElem?_eq_some_iff.1 g2).1;have Uz:j<M.length:=by omega
  have h3:=h2 j _ _ (List.getElem?_eq_getElem Uz) g2;exact .inr ⟨j,M[j],x,g1,List.getElem?_eq_getElem Uz,Ph (h3.1.symm.trans g3),g2,h3.2.1⟩
theorem fT.agY {M:eS} {E:List MapEntry} {l:List (List UInt8)} {y:MV} {yv:Value} (hM:(M.map (·.1)).Nodup) (hE:fT G (cf M) E) (hy:VR G y yv) {j:Nat} {p:List (List UInt8)×MV×Nat} (hp:M[j]?=some p) (dE:p.1=l) (hk:VR G (.agg (l.map .str)) (eW l)):
  fT G (cf (M.map fun p=>if p.1=l then(l,y,p.2.2)else p)) (E.modify j fun x=>{x with key:=eW l,val:=yv}):=by
 have e:cf (M.map fun p=>if p.1=l then(l,y,p.2.2)else p)=setAt (cf M) j (.agg (l.map .str)) y:=by
  clear hE hy hk;unfold cf setAt;induction M generalizing j with
  | nil=>simp at hp
  | cons x M ih=>
    simp only[List.map_cons,List.nodup_cons]at hM;cases j with
    | zero=>
      simp only[List.getElem?_cons_zero,Option.some.injEq]at hp;subst hp
      have fm:M.map (fun p=>if p.1=l then(l,y,p.2.2)else p)=M:=by
       have:∀q∈M,(if q.1=l then(l,y,q.2.2)else q)=q:=fun q hq=>if_neg fun e=>hM.1 (by rw[dE, <-e];exact List.mem_map_of_mem hq)
       calc M.map (fun p=>if p.1=l then(l,y,p.2.2)else p)=M.map id:=List.map_congr_left this
        _=M:=by simp
      simp only[List.map_cons,List.modify_zero_cons,if_pos dE];rw[fm]
    | succ j=>
      simp only[List.getElem?_cons_succ]at hp;have hne:¬x.1=l:=fun e=>hM.1 (by rw[e, <-dE];exact List.mem_map_of_mem (List.mem_of_getElem? hp))
      simp only[List.map_cons,List.modify_succ_cons,if_neg hne];rw[ih hM.2 hp]
 rw[e];exact fT.modify hk hy j hE
theorem YE (l:List (List UInt8)):VR G (.agg (l.map .str)) (eW l):=by
 unfold eW;refine .agg (by simp) fun i c u h1 h2=>?_
 simp only[List.getElem?_map,Option.map_eq_some_iff]at h1 h2;obtain⟨s,h3,rfl⟩:=h1;obtain⟨t,h4,rfl⟩:=h2;rw[h3]at h4;injection h4 with h4;subst h4
 exact .str
def fH (P:Program) (n:Sz) (D:List Deferred) (o:Oper) (e:Env) (O:VH) (m:MV):Prop:=∀G a w,WR G O w->FR G n D e a->∃u,VR G m u/\∀x,Sx G w x->(execOp a.eval o).run P x= .ok (.value u) x
theorem aG.hold {i:Nat} {o:Oper} {K:Env->VH->Prop} (ho:ops[i]?=some o) (hg:aK ops o e=some true) (hd:bg n o.dst=true) (hy:fH P n D o e O m) (h:K (aV o.dst m e) O):aG P n D ops i e O Q K:=by
 refine aG.nM (M:=fun m' O'=>m'=m/\O'=O) ho hg hd (fun G a w hw hf=>?_) (by rintro m' O' ⟨rfl,rfl⟩;exact h);obtain⟨u,hu,hr⟩:=hy G a w hw hf;exact⟨m,O,u,w,G,⟨rfl,rfl⟩,hr w hw.sx,Gh.Le.refl G,hw,hu⟩
theorem VL.hold {f:Fl} {o:Oper} {L:List (Fl×Oper)} (hh:(f= .one/\(md= .plain\/md= .any))\/f= .rd) (hg:aK ops o e=some true) (hd:bg n o.dst=true) (hy:fH P n D o e O m) (h:VL P n D md ops L (aV o.dst m e) O Q):VL P n D md ops ((f,o)::L) e O Q:=by
 intro fuel listed ix hf hp
 match ix,hf with
 | (i,g)::ix,hf=>
   obtain⟨rfl,ho,hf⟩:=hf;cases md with
   | plain=>exact ia.one (aG.hold ho hg hd hy (h 0 #[] ix hf (fun h=>absurd rfl h)))
   | any=>
     obtain⟨h1,h2⟩:=hp (by simp);cases fuel with
     | zero=>cases h2
     | succ fuel=>
       simp only[cc,Bool.and_eq_true]at h2;have hk:=h fuel (listed.setIfInBounds i true) ix hf (fun _=>⟨h1,h2.2⟩);rcases hh with⟨rfl,_⟩ | rfl
       ·have hr:Region.ready .any ops listed=[i]:=by simpa using h2.1
        exact bP.all hr (by simp) fun j hj=>by
         obtain rfl:j=i:=by simpa using hj
         exact aG.hold ho hg hd hy hk
       ·exact absurd h2.1 (by simp)
   | reads=>
     obtain⟨h1,h2⟩:=hp (by simp);cases fuel with
     | zero=>cases h2
     | succ fuel=>
       simp only[cc,Bool.and_eq_true]at h2;have hk:=h fuel (listed.setIfInBounds i true) ix hf (fun _=>⟨h1,h2.2⟩);rcases hh with⟨_,h3 | h3⟩ | rfl
       ·cases h3
       ·cases h3
       intro G a w hw aS;obtain⟨u,hu,bU⟩:=hy G a w hw aS;have h3:Region.free .any ops listed i=true/\(Region.ready .any ops listed).contains i=true:=by simp_all
       exact wpAnyH_take ho h1 h3.1 h3.2 (gj hd) (.inl ⟨bf aS hg,fun w' wZ=>by rw[wZ];exact bU w hw.sx⟩) rfl (hk G _ w hw (aS.aV hd hu))
   | held brk=>
     obtain⟨h1,h2⟩:=hp (by simp);cases fuel with
     | zero=>cases h2
     | succ fuel=>
       simp only[cc,Bool.and_eq_true]at h2;have hk:=h fuel (listed.setIfInBounds i true) ix hf (fun _=>⟨h1,h2.2⟩);rcases hh with⟨_,h3 | h3⟩ | rfl
       ·cases h3
       ·cases h3
       simp only[Bool.and_eq_true]at h2
       exact bq.take ho h1 h2.1.1.1 h2.1.1.2 h2.1.2 hd (fun G a w hw aS=>by
        obtain⟨u,hu,bU⟩:=hy G a w hw aS;exact⟨u,hu,.inl ⟨bf aS hg,fun x hx=>bU x hx⟩⟩) hk
def xj (ok:Bool) (z:MV):Option MV->MV
 | some m=>if ok then .tuple [m,.v (.bool true)]else m
 | none=>if ok then .tuple [z,.v (.bool false)]else z
theorem Ry {z m:MV}:xj false z (some m)=m:=rfl
theorem acJ {z m:MV}:xj true z (some m)= .tuple [m,.v (.bool true)]:=rfl
theorem acK {z:MV}:xj false z none=z:=rfl
theorem Ix {z:MV}:xj true z none= .tuple [z,.v (.bool false)]:=rfl
theorem fH.lh {kt et:TypeId} {N:Nat} (K:sI P kt N) (ht:aI P tab) {d:Option Tmp} {t ty:TypeId} {x y:Operand} {ok:Bool} {ps:String} {af:Array Edge} {g:Option (Nat×Bool)} {b ck:Nat} {M:eS} {l:List (List UInt8)} {te:bS} {z:MV} (hU:P.underlying t=some (.map kt et)) (mM:tab et=some te) (hz:x_ te=some z)
  (hx:ev e x=some (.map b)) (hb:O.hp b=some (.map (cf M) ck)) (hM:n_ N M) (hy:ev e y=some (.agg (l.map .str))) (hl:l.length=N) (hs:∀s∈l,s.length<=maxLen):fH P n D (.mk d (.lookup t x y ok) ty ps af g) e O (xj ok z (jI l M)):=by
 intro G a w hw hf;have h1:=hf.ev hx;have h2:=hf.ev hy;generalize nQ:a.eval x=u at h1;generalize xi:a.eval y=v at h2;have hv:=yQ h2;subst hv;cases h1 with
 | map fl=>
   rename_i b';obtain⟨b2,E,e1,e2,e3,e4,e5⟩:=hw.map _ _ _ hb;rw[fl]at e1;injection e1 with e1;subst e1
   have hE:fT G (cf M) E.toList:=⟨e3,e4,e5⟩;obtain⟨lit,wK⟩:=K.of l hl hs;obtain⟨zv,z1,z2⟩:=xd (ht et te mM) hz;have adN:∀y,Sx G w y->y.heap[b']?=some (.map E ck):=fun y hy=>(hy.2 _ _ fl).trans e2
   by_cases hin:∃p∈M,p.1=l
   ·have h3:=yR K hM hE hl hs w;rcases h3 with⟨_,g2⟩ | ⟨j,p,q,_,g2,g3,g4,g5⟩
    ·obtain⟨p,hp,e⟩:=hin;exact absurd e (g2 p hp)
    have gC:jI l M=some p.2.1:=by rw[<-g3];exact Iw hM.one g2
    rw[gC];refine⟨if ok then .tuple #[q.val,.bool true]else q.val,?_,fun yw hyw=>?_⟩
    ·cases ok
     ·exact g5
     ·exact VR.tuple (us:=[q.val,.bool true]) rfl (aO.cons g5 (aO.cons (.v rfl) aO.nil)).2
    ·have hr:(Instr.findKey kt (eW l) E.toList).run P yw= .ok (some (j,q.val)) yw:=by
      rcases yR K hM hE hl hs yw with⟨_,g6⟩ | ⟨j',p',q',g6,g7,g8,g9,_⟩
      ·exact absurd g3 (g6 p (List.mem_of_getElem? g2))
      ·have kN:j'=j:=by
        have h5:(M.map (·.1))[j']?=some l:=by simp[g7,g8]
        have h6:(M.map (·.1))[j]?=some l:=by simp[g2,g3]
        exact(List.getElem?_inj (by simpa using(List.getElem?_eq_some_iff.1 g7).1) hM.one).1 (h5.trans h6.symm)
       subst kN;rw[g4]at g9;injection g9 with g9;subst g9
       exact g6
     have Iy:=K.law.check yw E.isEmpty wK;simp only[execOp,nQ,xi,Instr.lookup,Sem.run_bind,run_underlying hU,Result.andThen_ok,MapKept.run_getObj_map (adN yw hyw),Iy,hr,Sem.run_pure]
   ·have fm:∀p∈M,p.1≠l:=fun p hp e=>hin ⟨p,hp,e⟩
    rw[vD fm];refine⟨if ok then .tuple #[zv,.bool false]else zv,?_,fun yw hyw=>?_⟩
    ·cases ok
     ·exact z2 G
     ·exact VR.tuple (us:=[zv,.bool false]) rfl (aO.cons (z2 G) (aO.cons (.v rfl) aO.nil)).2
    ·have hr:(Instr.findKey kt (eW l) E.toList).run P yw= .ok none yw:=by
      rcases yR K hM hE hl hs yw with⟨g6,_⟩ | ⟨j',p',q',_,g7,g8,_⟩
      ·exact g6
      ·exact absurd g8 (fm p' (List.mem_of_getElem? g7))
     have Iy:=K.law.check yw E.isEmpty wK;simp only[execOp,nQ,xi,Instr.lookup,Sem.run_bind,run_underlying hU,Result.andThen_ok,MapKept.run_getObj_map (adN yw hyw),Iy,hr,Sem.run_pure,z1]
def oS (P:Program) (n:Sz) (D:List Deferred) (o:Oper) (e:Env) (O O':VH):Prop:=∀G a w,WR G O w->FR G n D e a->∃w' H,(execOp a.eval o).run P w= .ok .skip w'/\Gh.Le G H/\WR H O' w'
theorem aG.oT {i:Nat} {o:Oper} {K:Env->VH->Prop} (ho:ops[i]?=some o) (hg:aK ops o e=some true) (hd:bg n o.dst=true) (hy:oS P n D o e O O') (h:K (aV o.dst ca e) O'):aG P n D ops i e O Q K:=by
 intro G a w hw aS;obtain⟨w',H,hr,h1,h2⟩:=hy G a w hw aS;simp only[wpOp,ho,bf aS hg,if_true];refine .inl ?_;unfold Oper.wp;rw[hr];exact⟨_,_,H,h1,h2,(aS.mono h1).aV hd kf,h⟩
theorem VL.oT {o:Oper} {L:List (Fl×Oper)} (hg:aK ops o e=some true) (hd:bg n o.dst=true) (hy:oS P n D o e O O')
  (oK:∀brk,md= .held brk->∀i,ops[i]?=some o->brk.contains i=true) (h:VL P n D md ops L (aV o.dst ca e) O' Q):VL P n D md ops ((.one,o)::L) e O Q:=by
 intro fuel listed ix hf hp
 match ix,hf with
 | (i,g)::ix,hf=>
   obtain⟨rfl,ho,hf⟩:=hf;cases md with
   | plain=>exact ia.one (aG.oT ho hg hd hy (h 0 #[] ix hf (fun h=>absurd rfl h)))
   | any=>
     obtain⟨h1,h2⟩:=hp (by simp);cases fuel with
     | zero=>cases h2
     | succ fuel=>
       simp only[cc,Bool.and_eq_true]at h2;have hr:Region.ready .any ops listed=[i]:=by simpa using h2.1
       exact bP.all hr (by simp) fun j hj=>by
        obtain rfl:j=i:=by simpa using hj
        exact aG.oT ho hg hd hy (h fuel (listed.setIfInBounds j true) ix hf (fun _=>⟨h1,h2.2⟩))
   | reads=>
     obtain⟨h1,h2⟩:=hp (by simp);cases fuel with
     | zero=>cases h2
     | succ fuel=>
       simp only[cc,Bool.and_eq_true]at h2;exact absurd h2.1 (by simp)
   | held brk=>
     obtain⟨h1,h2⟩:=hp (by simp);cases fuel with
     | zero=>cases h2
     | succ fuel=>
       simp only[cc,Bool.and_eq_true]at h2;have hr:Region.ready .any ops listed=[i]:=by simpa using h2.1.1
       have BR:∀j,(listed.setIfInBounds i true).getD j true=false\/j=i->brk.contains j=true:=by
        rcases qJ ho h2.1.2 with⟨h3,_⟩ | h3
        ·rw[oK brk rfl i ho]at h3;cases h3
        ·exact h3
       exact bq.WZ hr BR (aG.oT ho hg hd hy (h fuel (listed.setIfInBounds i true) ix hf (fun _=>⟨h1,h2.2⟩)))
theorem oS.jV {kt et:TypeId} {N:Nat} (K:sI P kt N) {d:Option Tmp} {t ty:TypeId} {x y z:Operand} {ps:String} {af:Array Edge} {g:Option (Nat×Bool)} {b ck:Nat} {M:eS} {l:List (List UInt8)} (hU:P.underlying t=some (.map kt et))
  (hx:ev e x=some (.map b)) (hb:O.hp b=some (.map (cf M) ck)) (hM:n_ N M) (hy:ev e y=some (.agg (l.map .str))) (hl:l.length=N) (hs:∀s∈l,s.length<=maxLen) (hz:ev e z=some m):oS P n D (.mk d (.mapUpdate t x y z) ty ps af g) e O (O.set b (.map (cf (jV l m ck M)) (Pj l ck M))):=by
 intro G a w hw hf;have h1:=hf.ev hx;have h2:=hf.ev hy;have h3:=hf.ev hz;generalize nQ:a.eval x=u at h1;generalize xi:a.eval y=v at h2;generalize haz:a.eval z=r at h3;have hv:=yQ h2;subst hv;cases h1 with
 | map fl=>
   rename_i b';obtain⟨b2,E,e1,e2,e3,e4,e5⟩:=hw.map _ _ _ hb;rw[fl]at e1;injection e1 with e1;subst e1
   have hE:fT G (cf M) E.toList:=⟨e3,e4,e5⟩;obtain⟨lit,wK⟩:=K.of l hl hs;have Iy:=K.law.check w false wK;rcases yR K hM hE hl hs w with⟨g1,g2⟩ | ⟨j,p,q,g1,g2,g3,g4,g5⟩
   ·have kF:M.any (·.1==l)=false:=by rw[List.any_eq_false];intro p hp;simpa using g2 p hp
    have hr:fT G (cf (M++[(l,m,ck)])) (E.push {key:=eW l,val:=r,born:=ck}).toList:=by
     rw[Array.toList_push];unfold cf;rw[List.map_append];exact hE.append (fT.cons rfl h2 h3 fT.nil)
    refine⟨?wx,G,?rn,Gh.Le.refl G,?wr⟩
    case wr=>rw[Go.Proofs.YthobfcojiglpdaaGreatDoor.jV,Pj,kF];exact hw.rJ (ck':=ck+1) hb fl e2 hr
    case rn=>
     simp only[execOp,nQ,xi,haz,Instr.mapUpdate,Sem.run_bind,run_underlying hU,Result.andThen_ok,MapKept.run_getObj_map e2,Iy,g1,run_setObj_map _ e2];rfl
   ·have kF:M.any (·.1==l)=true:=List.any_eq_true.2 ⟨p,List.mem_of_getElem? g2,by simp[g3]⟩;have Iz:q.key=eW l:=by have:=(hE.keys.2 j p q g2 g4).1;rw[this,g3]
    have ez:=K.law.stays w wK;have hr:=fT.agY hM.one hE h3 g2 g3 (YE l);rw[<-Array.toList_modify]at hr
    have v8:((E[j]?).map (·.key)).getD (eW l)=eW l:=by
     have:E[j]?=some q:=by simpa using g4
     rw[this];exact Iz
    refine⟨?wy,G,?rm,Gh.Le.refl G,?ws⟩
    case ws=>rw[Go.Proofs.YthobfcojiglpdaaGreatDoor.jV,Pj,kF];exact hw.rJ (ck':=ck) hb fl e2 hr
    case rm=>
     simp only[execOp,nQ,xi,haz,Instr.mapUpdate,Sem.run_bind,run_underlying hU,Result.andThen_ok,MapKept.run_getObj_map e2,Iy,g1,v8,ez,run_setObj_map _ e2];rfl
end
theorem um {N:Nat} {M:eS} {l:List (List UInt8)} {y:MV} {ck:Nat} (h:n_ N M) (hl:l.length=N) (hs:∀s∈l,s.length<=maxLen):n_ N (jV l y ck M):=by
 unfold jV;split
 ·have hk:(M.map (fun p=>if p.1=l then(l,y,p.2.2)else p)).map (·.1)=M.map (·.1):=by
   rw[List.map_map];refine List.map_congr_left fun p _=>?_
   show(if p.1=l then(l,y,p.2.2)else p).1=p.1;split
   ·rename_i e;exact e.symm
   ·rfl
  refine⟨fun p hp=>?_,by rw[hk];exact h.one⟩;have:p.1∈M.map (·.1):=by rw[<-hk];exact List.mem_map_of_mem hp
  obtain⟨q,hq,e⟩:=List.mem_map.1 this;rw[<-e];exact h.len q hq
 ·rename_i fm;have fm:∀p∈M,¬p.1=l:=fun p hp e=>fm (List.any_eq_true.2 ⟨p,hp,by simp[e]⟩)
  refine⟨fun p hp=>?_,?_⟩
  ·rcases List.mem_append.1 hp with hp | hp
   ·exact h.len p hp
   ·rw[List.mem_singleton.1 hp];exact⟨hl,hs⟩
  ·rw[List.map_append,List.nodup_append];refine⟨h.one,by simp,fun x hx z hz e=>?_⟩;simp only[List.map_cons,List.map_nil,List.mem_singleton]at hz;obtain⟨q,hq,e2⟩:=List.mem_map.1 hx;exact fm q hq (by rw[e2,e,hz])
def Rz (P:Program):List Field->Nat->Bool
 | [],_=>true
 | f::r,i=>(match P.underlying f.type with | some .string=>true | _=>false)&&f.offset==i&&P.cellsOf f.type==1&&Rz P r (i+1)
def skB (P:Program) (kt:TypeId) (N:Nat):Bool:=match P.underlying kt with
 | some (.struct fs)=>P.keyType kt&&fs.all (·.name != "_")&&P.cellsOf kt==N&&fs.size==N&&Rz P fs.toList 0&&decide (kt<P.types.size)&&decide (P.types.size+2<=10000)
 | _=>false
theorem mapM_some {α β :Type} {g: α ->Option β}:∀{L:List α},(∀f∈L,∃y,g f=some y)->∃ys,L.mapM g=some ys
 | [],_=>⟨[],rfl⟩
 | f::L,h=>by
   obtain⟨y,hy⟩:=h f (by simp);obtain⟨ys,On⟩:=mapM_some (L:=L) fun x hx=>h x (List.mem_cons_of_mem _ hx)
   exact⟨y::ys,by rw[List.mapM_cons,hy];simp[On]⟩
theorem Lh {P:Program}:∀{L:List Field} {i:Nat},Rz P L i=true->∀(j:Nat) (f:Field),L[j]?=some f->P.underlying f.type=some .string/\f.offset=i+j/\P.cellsOf f.type=1
 | [],_,_,j,f,h=>by simp at h
 | g::L,i,hB,j,f,h=>by
   simp only[Rz,Bool.and_eq_true,beq_iff_eq]at hB;obtain⟨⟨⟨h1,h2⟩,h3⟩,h4⟩:=hB;cases j with
   | zero=>
     simp only[List.getElem?_cons_zero,Option.some.injEq]at h;subst h;refine⟨?_,h2,h3⟩;split at h1
     ·assumption
     ·cases h1
   | succ j=>
     have:=Lh h4 j f (by simpa using h);exact⟨this.1,by omega,this.2.2⟩
theorem sI.sY {P:Program} {kt:TypeId} {N:Nat} (hl:laidOutB P=true) (h:skB P kt N=true):sI P kt N:=by
 unfold skB at h;split at h
 ·rename_i fs hu;simp only[Bool.and_eq_true,beq_iff_eq,decide_eq_true_eq]at h;obtain⟨⟨⟨⟨⟨⟨h1,h2⟩,h3⟩,h4⟩,h5⟩,h6⟩,h7⟩:=h;refine⟨deep_law_gate hl h7 h6 h1 (by rw[hu]),fun l hlen hs=>?_⟩
  have afQ:(eW l).formed P kt=true:=by
   unfold eW Value.formed;simp only[hu];simp[hlen,h3]
  have afR:∃ls,P.keyLits (P.types.size+1) kt (eW l).cells.toList=some ls:=by
   obtain⟨D,hD⟩:∃D,P.types.size=D+1:=⟨P.types.size - 1,by have:0<P.types.size:=Nat.lt_of_le_of_lt (Nat.zero_le kt) h6;omega⟩
   rw[hD];unfold Program.keyLits;have hc:(eW l).cells.toList=l.map fun s=>Value.string ⟨⟨s⟩⟩:=by simp[eW,Value.cells]
   rw[hc];simp only[hu];rw[if_pos ⟨by simp[hlen,h3],h2⟩]
   obtain⟨ys,On⟩:=mapM_some (L:=fs.toList) (g:=fun f=>P.keyLits (D+1) f.type (((l.map fun s=>Value.string ⟨⟨s⟩⟩).drop f.offset).take (P.cellsOf f.type))) fun f hf=>by
    obtain⟨j,hj,rfl⟩:=List.mem_iff_getElem.1 hf;obtain⟨g1,g2,g3⟩:=Lh h5 j _ (List.getElem?_eq_getElem hj);rw[Nat.zero_add]at g2;have yS:j<l.length:=by rw[hlen, <-h4];simpa using hj
    have agZ:((l.map fun s=>Value.string ⟨⟨s⟩⟩).drop j).take 1=[Value.string ⟨⟨l[j]⟩⟩]:=by
     rw[List.drop_eq_getElem_cons (by simpa using yS)];simp
    rw[g2,g3,agZ];unfold Program.keyLits;simp only[g1];exact⟨_,if_pos (hs _ (List.getElem_mem yS))⟩
   exact⟨ys.flatten,by rw[On];rfl⟩
  obtain⟨ls,UA⟩:=afR;refine⟨.string (keyBytes ls),?_⟩;unfold keyOf;simp only[hu];rw[h1,afQ,UA];rfl
 ·cases h
set_option linter.defProp false in
def zk:=And.intro wk<|And.intro wu<|And.intro @Iv<|And.intro @B0<|And.intro @Option.map_none.{0,0}<|And.intro @Ry<|And.intro @acJ<|And.intro @acK<|And.intro @Ix<|And.intro @Yr<|And.intro @Option.isSome_some.{0}<|And.intro @Option.isSome_none.{0}<|And.intro @rR @aj
section
variable {A1 A2 A3 A4 A5 A6 A7 A8 A9 P Q:Prop}
theorem IA (q:Q) (h:P=Q:=by conv=>lhs;simp(disch:=first | omega | (simp only[ds]<;>omega) | fail) only[zk,ca,Nat.reduceLT,Nat.reduceAdd,Nat.reduceMul,Nat.reduceSub,Nat.reduceBEq,Nat.reduceEqDiff,Int.reduceToNat,reduceIte]):P:=(h).mpr q
theorem ae (a1:A1) (q:Q) (h:A1->P=Q:=by intro a1;conv=>lhs;simp(disch:=first | omega | (simp only[ds]<;>omega) | fail) only[zk,ca,Nat.reduceLT,Nat.reduceAdd,Nat.reduceMul,Nat.reduceSub,Nat.reduceBEq,Nat.reduceEqDiff,Int.reduceToNat,reduceIte,a1]):P:=(h a1).mpr q
theorem eX (a1:A1) (h:A1->P:=by intro a1;simp(disch:=first | omega | (simp only[ds]<;>omega) | fail) only[zk,ca,Nat.reduceLT,Nat.reduceAdd,Nat.reduceMul,Nat.reduceSub,Nat.reduceBEq,Nat.reduceEqDiff,Int.reduceToNat,reduceIte,a1]):P:=h a1
theorem ao (a1:A1) (a2:A2) (q:Q) (h:A1->A2->P=Q:=by intro a1 a2;conv=>lhs;simp(disch:=first | omega | (simp only[ds]<;>omega) | fail) only[zk,ca,Nat.reduceLT,Nat.reduceAdd,Nat.reduceMul,Nat.reduceSub,Nat.reduceBEq,Nat.reduceEqDiff,Int.reduceToNat,reduceIte,a1,a2]):P:=(h a1 a2).mpr q
theorem dz (a1:A1) (a2:A2) (h:A1->A2->P:=by intro a1 a2;simp(disch:=first | omega | (simp only[ds]<;>omega) | fail) only[zk,ca,Nat.reduceLT,Nat.reduceAdd,Nat.reduceMul,Nat.reduceSub,Nat.reduceBEq,Nat.reduceEqDiff,Int.reduceToNat,reduceIte,a1,a2]):P:=h a1 a2
theorem aM (a1:A1) (a2:A2) (a3:A3) (q:Q) (h:A1->A2->A3->P=Q:=by intro a1 a2 a3;conv=>lhs;simp(disch:=first | omega | (simp only[ds]<;>omega) | fail) only[zk,ca,Nat.reduceLT,Nat.reduceAdd,Nat.reduceMul,Nat.reduceSub,Nat.reduceBEq,Nat.reduceEqDiff,Int.reduceToNat,reduceIte,a1,a2,a3]):P:=(h a1 a2 a3).mpr q
theorem kt3 (a1:A1) (a2:A2) (a3:A3) (h:A1->A2->A3->P:=by intro a1 a2 a3;simp(disch:=first | omega | (simp only[ds]<;>omega) | fail) only[zk,ca,Nat.reduceLT,Nat.reduceAdd,Nat.reduceMul,Nat.reduceSub,Nat.reduceBEq,Nat.reduceEqDiff,Int.reduceToNat,reduceIte,a1,a2,a3]):P:=h a1 a2 a3
theorem dB (a1:A1) (a2:A2) (a3:A3) (a4:A4) (q:Q) (h:A1->A2->A3->A4->P=Q:=by intro a1 a2 a3 a4;conv=>lhs;simp(disch:=first | omega | (simp only[ds]<;>omega) | fail) only[zk,ca,Nat.reduceLT,Nat.reduceAdd,Nat.reduceMul,Nat.reduceSub,Nat.reduceBEq,Nat.reduceEqDiff,Int.reduceToNat,reduceIte,a1,a2,a3,a4]):P:=(h a1 a2 a3 a4).mpr q
theorem kt4 (a1:A1) (a2:A2) (a3:A3) (a4:A4) (h:A1->A2->A3->A4->P:=by intro a1 a2 a3 a4;simp(disch:=first | omega | (simp only[ds]<;>omega) | fail) only[zk,ca,Nat.reduceLT,Nat.reduceAdd,Nat.reduceMul,Nat.reduceSub,Nat.reduceBEq,Nat.reduceEqDiff,Int.reduceToNat,reduceIte,a1,a2,a3,a4]):P:=h a1 a2 a3 a4
theorem ll (a1:A1) (a2:A2) (a3:A3) (a4:A4) (a5:A5) (q:Q) (h:A1->A2->A3->A4->A5->P=Q:=by intro a1 a2 a3 a4 a5;conv=>lhs;simp(disch:=first | omega | (simp only[ds]<;>omega) | fail) only[zk,ca,Nat.reduceLT,Nat.reduceAdd,Nat.reduceMul,Nat.reduceSub,Nat.reduceBEq,Nat.reduceEqDiff,Int.reduceToNat,reduceIte,a1,a2,a3,a4,a5]):P:=(h a1 a2 a3 a4 a5).mpr q
theorem kt5 (a1:A1) (a2:A2) (a3:A3) (a4:A4) (a5:A5) (h:A1->A2->A3->A4->A5->P:=by intro a1 a2 a3 a4 a5;simp(disch:=first | omega | (simp only[ds]<;>omega) | fail) only[zk,ca,Nat.reduceLT,Nat.reduceAdd,Nat.reduceMul,Nat.reduceSub,Nat.reduceBEq,Nat.reduceEqDiff,Int.reduceToNat,reduceIte,a1,a2,a3,a4,a5]):P:=h a1 a2 a3 a4 a5
theorem FV (a1:A1) (a2:A2) (a3:A3) (a4:A4) (a5:A5) (a6:A6) (q:Q) (h:A1->A2->A3->A4->A5->A6->P=Q:=by intro a1 a2 a3 a4 a5 a6;conv=>lhs;simp(disch:=first | omega | (simp only[ds]<;>omega) | fail) only[zk,ca,Nat.reduceLT,Nat.reduceAdd,Nat.reduceMul,Nat.reduceSub,Nat.reduceBEq,Nat.reduceEqDiff,Int.reduceToNat,reduceIte,a1,a2,a3,a4,a5,a6]):P:=(h a1 a2 a3 a4 a5 a6).mpr q
theorem kt6 (a1:A1) (a2:A2) (a3:A3) (a4:A4) (a5:A5) (a6:A6) (h:A1->A2->A3->A4->A5->A6->P:=by intro a1 a2 a3 a4 a5 a6;simp(disch:=first | omega | (simp only[ds]<;>omega) | fail) only[zk,ca,Nat.reduceLT,Nat.reduceAdd,Nat.reduceMul,Nat.reduceSub,Nat.reduceBEq,Nat.reduceEqDiff,Int.reduceToNat,reduceIte,a1,a2,a3,a4,a5,a6]):P:=h a1 a2 a3 a4 a5 a6
theorem kw7 (a1:A1) (a2:A2) (a3:A3) (a4:A4) (a5:A5) (a6:A6) (a7:A7) (q:Q) (h:A1->A2->A3->A4->A5->A6->A7->P=Q:=by intro a1 a2 a3 a4 a5 a6 a7;conv=>lhs;simp(disch:=first | omega | (simp only[ds]<;>omega) | fail) only[zk,ca,Nat.reduceLT,Nat.reduceAdd,Nat.reduceMul,Nat.reduceSub,Nat.reduceBEq,Nat.reduceEqDiff,Int.reduceToNat,reduceIte,a1,a2,a3,a4,a5,a6,a7]):P:=(h a1 a2 a3 a4 a5 a6 a7).mpr q
theorem kw8 (a1:A1) (a2:A2) (a3:A3) (a4:A4) (a5:A5) (a6:A6) (a7:A7) (a8:A8) (q:Q) (h:A1->A2->A3->A4->A5->A6->A7->A8->P=Q:=by intro a1 a2 a3 a4 a5 a6 a7 a8;conv=>lhs;simp(disch:=first | omega | (simp only[ds]<;>omega) | fail) only[zk,ca,Nat.reduceLT,Nat.reduceAdd,Nat.reduceMul,Nat.reduceSub,Nat.reduceBEq,Nat.reduceEqDiff,Int.reduceToNat,reduceIte,a1,a2,a3,a4,a5,a6,a7,a8]):P:=(h a1 a2 a3 a4 a5 a6 a7 a8).mpr q
end
theorem aa:aI Tryz.prog (jE Tryz.prog):=W0 _
abbrev TY (t:Nat) (d:TypeDesc) (a b:Nat) (z:List MV):Prop:=jE Tryz.prog t=some ⟨d,a,b,z⟩
abbrev TS (t:Nat) (d:TypeDesc) (a b:Nat) (z:List MV) (p:List (Nat×Nat)):Prop:=TY t d a b z/\ea d=true/\∀x,vt (jE Tryz.prog) t x=(kL (k8 p) z x).map .agg
abbrev FL (t i f:Nat) (g:Bool) (s:Nat):Prop:=(∀k o,iL (jE Tryz.prog) t i (.ptr k o)=some (.ptr k (o+f)))/\(∀c o,iL (jE Tryz.prog) t i (.cM c o)=some (.cM c (o+f)))/\∀c,vm (jE Tryz.prog) t (.agg c) i=lW g s c f
theorem dS {t a b:Nat} {d:TypeDesc} {z:List MV} (h:jE Tryz.prog t=some ⟨d,a,b,z⟩:=by kernel_rfl):TY t d a b z:=h
theorem jg {t a b:Nat} {d:TypeDesc} {z:List MV} {p:List (Nat×Nat)} (h:jE Tryz.prog t=some ⟨d,a,b,z⟩:=by kernel_rfl) (h1:ea d=true:=by kernel_rfl) (h2:∀x,vt (jE Tryz.prog) t x=(kL (k8 p) z x).map .agg:=by intro x;kernel_rfl):TS t d a b z p:=⟨h,h1,h2⟩
theorem br {t i f s:Nat} {g:Bool} (h:∀k o,iL (jE Tryz.prog) t i (.ptr k o)=some (.ptr k (o+f)):=by intro k o;kernel_rfl) (h1:∀c o,iL (jE Tryz.prog) t i (.cM c o)=some (.cM c (o+f)):=by intro c o;kernel_rfl) (h2:∀c,vm (jE Tryz.prog) t (.agg c) i=lW g s c f:=by intro c;kernel_rfl):FL t i f g s:=⟨h,h1,h2⟩
theorem T2:TY 2 (.int .i64) 1 8 [.v (.int .i64 0)]:=dS
theorem T3:TY 3 (.int .i64) 1 8 [.v (.int .i64 0)]:=dS
theorem T4:TY 4 .bool 1 1 [.v (.bool false)]:=dS
theorem T5:TY 5 (.int .u8) 1 1 [.v (.int .u8 0)]:=dS
theorem T9:TY 9 .string 1 16 [.str []]:=dS
theorem Pk:TY 21 (.int .i32) 1 4 [.v (.int .i32 0)]:=dS
theorem Ao:TS 24 Tryz.t23.desc 3 48 [.str [],.str [],.str []] [(0,1),(1,1),(2,1)]/\FL 24 0 0 false 1/\FL 24 1 1 false 1/\FL 24 2 2 false 1:=⟨jg,br,br,br⟩
theorem T25:TY 25 (.pointer 128) 1 8 [.v (.pointer none)]:=dS
theorem T29:TY 29 (.pointer 104) 1 8 [.v (.pointer none)]:=dS
theorem T31:TY 31 (.slice 46) 1 24 [.sl 0 [] .nil]:=dS
theorem T32:TY 32 (.int .i64) 1 8 [.v (.int .i64 0)]:=dS
theorem T34:TS 34 Tryz.t33.desc 3 24 [.v (.int .i64 0),.v (.int .i64 0),.v (.int .i64 0)] [(0,1),(1,1),(2,1)]/\FL 34 0 0 false 1/\FL 34 1 1 false 1/\FL 34 2 2 false 1:=⟨jg,br,br,br⟩
theorem T36:TS 36 Tryz.t35.desc 8 96 [.v (.int .i64 0),.str [],.str [],.str [],.v (.int .i64 0),.v (.int .i64 0),.v (.int .i64 0),.str []] [(0,1),(1,3),(4,3),(7,1)]/\FL 36 0 0 false 1/\FL 36 1 1 true 3/\FL 36 2 4 true 3/\FL 36 3 7 false 1:=⟨jg,br,br,br,br⟩
theorem T41:TS 41 Tryz.t40.desc 4 64 [.str [],.str [],.str [],.str []] [(0,1),(1,1),(2,1),(3,1)]/\FL 41 0 0 false 1/\FL 41 1 1 false 1/\FL 41 2 2 false 1/\FL 41 3 3 false 1:=⟨jg,br,br,br,br⟩
theorem T42:TY 42 (.slice 117) 1 24 [.sl 0 [] .nil]:=dS
theorem T44:TS 44 Tryz.t43.desc 3 48 [.v (.bool false),.str [],.sl 0 [] .nil] [(0,1),(1,1),(2,1)]/\FL 44 0 0 false 1/\FL 44 1 1 false 1/\FL 44 2 2 false 1:=⟨jg,br,br,br⟩
theorem T46:TS 46 Tryz.t45.desc 13 168 [.v (.int .i64 0),.v (.int .i64 0),.v (.int .i64 0),.str [],.str [],.str [],.str [],.str [],.v (.bool false),.str [],.sl 0 [] .nil,.v (.int .i64 0),.v (.bool false)] [(0,1),(1,1),(2,1),(3,4),(7,1),(8,3),(11,1),(12,1)]/\FL 46 0 0 false 1/\FL 46 1 1 false 1/\FL 46 2 2 false 1/\FL 46 3 3 true 4/\FL 46 4 7 false 1/\FL 46 5 8 true 3/\FL 46 6 11 false 1/\FL 46 7 12 false 1:=⟨jg,br,br,br,br,br,br,br,br⟩
theorem IB:TY 47 (.slice 179) 1 24 [.sl 0 [] .nil]:=dS
theorem xk:TY 48 (.slice 65) 1 24 [.sl 0 [] .nil]:=dS
theorem UC:TY 49 (.slice 57) 1 24 [.sl 0 [] .nil]:=dS
theorem Pl:TS 51 Tryz.t50.desc 7 136 [.str [],.str [],.str [],.str [],.sl 0 [] .nil,.sl 0 [] .nil,.sl 0 [] .nil] [(0,3),(3,1),(4,1),(5,1),(6,1)]/\FL 51 0 0 true 3/\FL 51 1 3 false 1/\FL 51 2 4 false 1/\FL 51 3 5 false 1/\FL 51 4 6 false 1:=⟨jg,br,br,br,br,br⟩
theorem B1:TY 55 (.slice 75) 1 24 [.sl 0 [] .nil]:=dS
theorem YF:TS 57 Tryz.t56.desc 10 152 [.str [],.str [],.str [],.str [],.v (.bool false),.str [],.sl 0 [] .nil,.v (.int .i64 0),.v (.bool false),.sl 0 [] .nil] [(0,4),(4,3),(7,1),(8,1),(9,1)]/\FL 57 0 0 true 4/\FL 57 1 4 true 3/\FL 57 2 7 false 1/\FL 57 3 8 false 1/\FL 57 4 9 false 1:=⟨jg,br,br,br,br,br⟩
theorem uo:TS 65 Tryz.t64.desc 8 120 [.str [],.str [],.str [],.str [],.str [],.v (.int .i64 0),.v (.int .i64 0),.sl 0 [] .nil] [(0,1),(1,1),(2,1),(3,1),(4,1),(5,1),(6,1),(7,1)]/\FL 65 0 0 false 1/\FL 65 1 1 false 1/\FL 65 2 2 false 1/\FL 65 3 3 false 1/\FL 65 4 4 false 1/\FL 65 5 5 false 1/\FL 65 6 6 false 1/\FL 65 7 7 false 1:=⟨jg,br,br,br,br,br,br,br,br⟩
theorem T72:TY 72 (.array 2 3) 2 16 [.v (.int .i64 0),.v (.int .i64 0)]:=dS
theorem T73:TY 73 (.int .u64) 1 8 [.v (.int .u64 0)]:=dS
theorem IC:TS 75 Tryz.t74.desc 2 32 [.str [],.str []] [(0,1),(1,1)]/\FL 75 0 0 false 1/\FL 75 1 1 false 1:=⟨jg,br,br⟩
theorem T77:TY 77 (.slice 3) 1 24 [.sl 0 [] .nil]:=dS
theorem FW:TY 95 (.slice 24) 1 24 [.sl 0 [] .nil]:=dS
theorem yT:TY 96 (.slice 9) 1 24 [.sl 0 [] .nil]:=dS
theorem adO:TY 102 (.map 24 51) 1 8 [.v (.map none)]:=dS
theorem adP:TS 104 Tryz.t103.desc 2 16 [.v (.pointer none),.v (.map none)] [(0,1),(1,1)]/\FL 104 0 0 false 1/\FL 104 1 1 false 1:=⟨jg,br,br⟩
theorem ag0:TY 105 (.pointer 109) 1 8 [.v (.pointer none)]:=dS
theorem adQ:TY 106 (.map 41 65) 1 8 [.v (.map none)]:=dS
theorem adR:TY 107 (.slice 55) 1 24 [.sl 0 [] .nil]:=dS
theorem ag1:TS 109 Tryz.t108.desc 8 120 [.v (.pointer none),.v (.pointer none),.str [],.str [],.str [],.v (.map none),.sl 0 [] .nil,.sl 0 [] .nil] [(0,1),(1,1),(2,3),(5,1),(6,1),(7,1)]/\FL 109 0 0 false 1/\FL 109 1 1 false 1/\FL 109 2 2 true 3/\FL 109 3 5 false 1/\FL 109 4 6 false 1/\FL 109 5 7 false 1:=⟨jg,br,br,br,br,br,br⟩
theorem ag2:TY 110 Tryz.t110.desc 1 8 [.v .nilFunc]:=dS
theorem adS:TS 117 Tryz.t116.desc 6 64 [.v (.bool false),.str [],.v (.bool false),.v (.bool false),.str [],.v (.bool false)] [(0,3),(3,3)]/\FL 117 0 0 true 3/\FL 117 1 3 true 3:=⟨jg,br,br⟩
theorem RA:TY 119 (.pointer 162) 1 8 [.v (.pointer none)]:=dS
theorem YG:TY 120 (.map 24 119) 1 8 [.v (.map none)]:=dS
theorem adT:TY 121 (.map 75 96) 1 8 [.v (.map none)]:=dS
theorem adU:TS 126 Tryz.t125.desc 1 8 [.v (.int .i64 0)] [(0,0),(0,0),(0,1)]/\FL 126 2 0 false 1:=⟨jg,br⟩
theorem RB:TS 128 Tryz.t127.desc 4 32 [.v (.map none),.v (.map none),.v (.int .i64 0),.v (.int .i64 0)] [(0,1),(1,1),(2,1),(3,1)]/\FL 128 0 0 false 1/\FL 128 1 1 false 1/\FL 128 2 2 true 1/\FL 128 3 3 true 1:=⟨jg,br,br,br,br⟩
theorem ag3:TY 129 (.slice 77) 1 24 [.sl 0 [] .nil]:=dS
theorem pY:TY 130 (.slice 5) 1 24 [.sl 0 [] .nil]:=dS
theorem Li:TS 132 Tryz.t131.desc 11 192 [.v (.bool false),.str [],.str [],.str [],.str [],.str [],.str [],.str [],.sl 0 [] .nil,.sl 0 [] .nil,.sl 0 [] .nil] [(0,1),(1,3),(4,1),(5,1),(6,1),(7,1),(8,1),(9,1),(10,1)]/\FL 132 0 0 false 1/\FL 132 1 1 true 3/\FL 132 2 4 false 1/\FL 132 3 5 false 1/\FL 132 4 6 false 1/\FL 132 5 7 false 1/\FL 132 6 8 false 1/\FL 132 7 9 false 1/\FL 132 8 10 false 1:=⟨jg,br,br,br,br,br,br,br,br,br⟩
theorem adV:TY 134 (.slice 290) 1 24 [.sl 0 [] .nil]:=dS
theorem nv:TY 135 (.slice 137) 1 24 [.sl 0 [] .nil]:=dS
theorem sJ:TS 137 Tryz.t136.desc 4 80 [.str [],.sl 0 [] .nil,.sl 0 [] .nil,.str []] [(0,1),(1,1),(2,1),(3,1)]/\FL 137 0 0 false 1/\FL 137 1 1 false 1/\FL 137 2 2 false 1/\FL 137 3 3 false 1:=⟨jg,br,br,br,br⟩
theorem ag4:TY 142 (.map 41 3) 1 8 [.v (.map none)]:=dS
theorem ag5:TY 152 (.int .u32) 1 4 [.v (.int .u32 0)]:=dS
theorem ag6:TS 154 Tryz.t153.desc 1 4 [.v (.int .u32 0)] [(0,0),(0,1)]/\FL 154 1 0 false 1:=⟨jg,br⟩
theorem YH:TS 156 Tryz.t155.desc 2 8 [.v (.int .i32 0),.v (.int .u32 0)] [(0,1),(1,1)]/\FL 156 0 0 false 1/\FL 156 1 1 false 1:=⟨jg,br,br⟩
theorem ag7:TS 158 Tryz.t157.desc 2 8 [.v (.int .i32 0),.v (.int .u32 0)] [(0,0),(0,2)]/\FL 158 1 0 true 2:=⟨jg,br⟩
theorem ag8:TS 160 Tryz.t159.desc 3 12 [.v (.int .u32 0),.v (.int .i32 0),.v (.int .u32 0)] [(0,0),(0,1),(1,2)]/\FL 160 1 0 true 1/\FL 160 2 1 true 2:=⟨jg,br,br⟩
theorem adW:TS 162 Tryz.t161.desc 23 320 [.str [],.v (.int .u32 0),.v (.int .i32 0),.v (.int .u32 0),.v (.bool false),.str [],.str [],.str [],.str [],.str [],.str [],.str [],.sl 0 [] .nil,.sl 0 [] .nil,.sl 0 [] .nil,.v (.int .i64 0),.str [],.str [],.str [],.v (.int .i64 0),.v (.int .i64 0),.v (.int .i64 0),.str []] [(0,1),(1,3),(4,11),(15,8)]/\FL 162 0 0 false 1/\FL 162 1 1 true 3/\FL 162 2 4 true 11/\FL 162 3 15 true 8:=⟨jg,br,br,br,br⟩
theorem ag9:TY 171 Tryz.t171.desc 1 8 [.v .nilFunc]:=dS
theorem Bv:TS 179 Tryz.t178.desc 2 32 [.str [],.str []] [(0,1),(1,1)]/\FL 179 0 0 false 1/\FL 179 1 1 false 1:=⟨jg,br,br⟩
theorem ag_:TY 187 (.pointer 193) 1 8 [.v (.pointer none)]:=dS
theorem adX:TY 188 (.pointer 239) 1 8 [.v (.pointer none)]:=dS
theorem aha:TS 193 Tryz.t192.desc 17 280 [.v (.pointer none),.v (.pointer none),.str [],.str [],.str [],.v (.bool false),.str [],.str [],.str [],.str [],.str [],.str [],.str [],.sl 0 [] .nil,.sl 0 [] .nil,.sl 0 [] .nil,.sl 0 [] .nil] [(0,1),(1,1),(2,3),(5,11),(16,1)]/\FL 193 0 0 false 1/\FL 193 1 1 false 1/\FL 193 2 2 true 3/\FL 193 3 5 true 11/\FL 193 4 16 false 1:=⟨jg,br,br,br,br,br⟩
theorem ahb:TY 196 Tryz.t196.desc 1 8 [.v .nilFunc]:=dS
theorem RD:TY 207 (.pointer 209) 1 8 [.v (.pointer none)]:=dS
theorem Lj:TS 209 Tryz.t208.desc 2 32 [.v (.pointer none),.sl 0 [] .nil] [(0,1),(1,1)]/\FL 209 0 0 false 1/\FL 209 1 1 false 1:=⟨jg,br,br⟩
theorem ahc:TY 210 Tryz.t210.desc 1 8 [.v .nilFunc]:=dS
theorem ahd:TY 212 Tryz.t211.desc 1 16 [.v .nilIface]:=dS
theorem adY:TS 217 Tryz.t216.desc 7 88 [.v (.int .i64 0),.str [],.sl 0 [] .nil,.str [],.v (.int .i64 0),.v (.int .i64 0),.v (.int .i64 0)] [(0,1),(1,1),(2,1),(3,1),(4,3)]/\FL 217 0 0 false 1/\FL 217 1 1 false 1/\FL 217 2 2 false 1/\FL 217 3 3 false 1/\FL 217 4 4 true 3:=⟨jg,br,br,br,br,br⟩
theorem DM:TY 219 (.slice 217) 1 24 [.sl 0 [] .nil]:=dS
theorem adZ:TY 233 (.slice 132) 1 24 [.sl 0 [] .nil]:=dS
theorem G8:TY 237 (.map 9 9) 1 8 [.v (.map none)]:=dS
theorem ahe:TS 239 Tryz.t238.desc 4 48 [.sl 0 [] .nil,.v (.map none),.v (.map none),.v (.int .i64 0)] [(0,1),(1,1),(2,1),(3,1)]/\FL 239 0 0 false 1/\FL 239 1 1 false 1/\FL 239 2 2 false 1/\FL 239 3 3 true 1:=⟨jg,br,br,br,br⟩
theorem ad0:TY 246 (.pointer 248) 1 8 [.v (.pointer none)]:=dS
theorem ahf:TS 248 Tryz.t247.desc 2 32 [.v (.pointer none),.sl 0 [] .nil] [(0,1),(1,1)]/\FL 248 0 0 false 1/\FL 248 1 1 false 1:=⟨jg,br,br⟩
theorem ahg:TY 250 (.pointer 253) 1 8 [.v (.pointer none)]:=dS
theorem ahh:TY 251 (.map 41 4) 1 8 [.v (.map none)]:=dS
theorem ahi:TS 253 Tryz.t252.desc 2 32 [.sl 0 [] .nil,.v (.map none)] [(0,1),(1,1)]/\FL 253 0 0 false 1/\FL 253 1 1 false 1:=⟨jg,br,br⟩
theorem ahj:TY 265 (.pointer 5) 1 8 [.v (.pointer none)]:=dS
theorem ahk:TY 268 (.pointer 270) 1 8 [.v (.pointer none)]:=dS
theorem ahl:TS 270 Tryz.t269.desc 1 16 [.str []] [(0,1)]/\FL 270 0 0 false 1:=⟨jg,br⟩
theorem ahm:TS 281 Tryz.t280.desc 2 24 [.v (.int .i64 0),.str []] [(0,1),(1,1)]/\FL 281 0 0 false 1/\FL 281 1 1 false 1:=⟨jg,br,br⟩
theorem G9:TY 288 .unsafePointer 1 8 [.v (.pointer none)]:=dS
theorem ad1:TS 290 Tryz.t178.desc 2 32 [.str [],.str []] [(0,1),(1,1)]/\FL 290 0 0 false 1/\FL 290 1 1 false 1:=⟨jg,br,br⟩
theorem ahn:TY 311 Tryz.t311.desc 1 8 [.v .nilFunc]:=dS
theorem aho:TY 315 (.pointer 126) 1 8 [.v (.pointer none)]:=dS
theorem ahp:TY 317 (.pointer 2) 1 8 [.v (.pointer none)]:=dS
theorem ahq:TY 328 (.pointer 160) 1 8 [.v (.pointer none)]:=dS
theorem ad2:TY 334 Tryz.t334.desc 1 8 [.v .nilFunc]:=dS
theorem ahr:TY 344 (.pointer 154) 1 8 [.v (.pointer none)]:=dS
theorem ahs:TY 346 (.pointer 152) 1 8 [.v (.pointer none)]:=dS
theorem aht:TY 350 (.pointer 353) 1 8 [.v (.pointer none)]:=dS
theorem Lk:TY 351 (.slice 383) 1 24 [.sl 0 [] .nil]:=dS
theorem ahu:TS 353 Tryz.t352.desc 8 120 [.str [],.sl 0 [] .nil,.sl 0 [] .nil,.str [],.sl 0 [] .nil,.v (.int .i64 0),.v (.bool false),.v (.bool false)] [(0,4),(4,1),(5,1),(6,1),(7,1)]/\FL 353 0 0 true 4/\FL 353 1 4 false 1/\FL 353 2 5 false 1/\FL 353 3 6 false 1/\FL 353 4 7 false 1:=⟨jg,br,br,br,br,br⟩
theorem ad3:TS 357 Tryz.t356.desc 2 24 [.v (.int .i64 0),.str []] [(0,1),(1,1)]/\FL 357 0 0 false 1/\FL 357 1 1 false 1:=⟨jg,br,br⟩
theorem YI:TS 359 Tryz.t358.desc 5 96 [.str [],.sl 0 [] .nil,.sl 0 [] .nil,.str [],.str []] [(0,4),(4,1)]/\FL 359 0 0 true 4/\FL 359 1 4 false 1:=⟨jg,br,br⟩
theorem ahv:TY 371 (.pointer 158) 1 8 [.v (.pointer none)]:=dS
theorem ad4:TS 375 Tryz.t374.desc 2 16 [.v (.int .i64 0),.v (.int .i64 0)] [(0,1),(1,1)]/\FL 375 0 0 false 1/\FL 375 1 1 false 1:=⟨jg,br,br⟩
theorem ahw:TY 376 (.pointer 380) 1 8 [.v (.pointer none)]:=dS
theorem ahx:TS 378 Tryz.t377.desc 2 24 [.str [],.v (.int .i64 0)] [(0,1),(1,1)]/\FL 378 0 0 false 1/\FL 378 1 1 false 1:=⟨jg,br,br⟩
theorem ahy:TS 380 Tryz.t379.desc 3 48 [.str [],.v (.int .i64 0),.sl 0 [] .nil] [(0,2),(2,1)]/\FL 380 0 0 true 2/\FL 380 1 2 false 1:=⟨jg,br,br⟩
theorem Ll:TY 383 (.pointer 137) 1 8 [.v (.pointer none)]:=dS
theorem YJ:TY 388 (.slice 359) 1 24 [.sl 0 [] .nil]:=dS
theorem YK:TY 391 (.pointer 156) 1 8 [.v (.pointer none)]:=dS
theorem ahz:TY 393 (.pointer 21) 1 8 [.v (.pointer none)]:=dS
theorem ahA:TY 397 (.pointer 378) 1 8 [.v (.pointer none)]:=dS
theorem G_:TY 416 (.slice 21) 1 24 [.sl 0 [] .nil]:=dS
set_option maxRecDepth 10000
theorem cG {α :Type} (l:List α) (j:Nat) (h:j<l.length):l.take (j+1)=l.take j++[l[j]]:=by
 rw[List.take_add_one,List.getElem?_eq_getElem h];rfl
section
variable {α :Type} {f: α -> α} {l:List α} {j:Nat}
end
def lR (b:UInt8):Bool:=decide (48<=b.toNat)&&decide (b.toNat<=57)
def lo (b:UInt8):UInt8:=if 65<=b.toNat/\b.toNat<=90 then UInt8.ofNat (b.toNat+32)else b
theorem oU (b:UInt8) (O:VH):VF Tryz.prog 135 [eV b] O (aL fun m O'=>m=mb (lR b)/\O'=O):=by
 have pL:b.toNat<256:=b.toNat_lt;refine VF.abB aa Tryz.func135 (c:=_) rfl (Nat.le_of_ble_eq_true rfl) ?_;rw[show Tryz.f135.ntmps=9 from rfl];simp only[cb,Nat.zero_add,Nat.reduceAdd];by_cases h1:48<=b.toNat
 ·by_cases h2:b.toNat<=57
  ·repeat' first
    | with_reducible (first | refine VC.seq' ?_ | refine VC.aB ?_ | refine VC.skip ?_ | refine VC.label ?_ | refine VC.scope ?_ | refine VC.exit ?_ | refine VC.ret ?_ | refine VL.nil ?_)
    | (with_reducible refine gVC ?_;first | refine gp @aE ?_ | refine gr @aE ?_ | (refine gc @aE ?_ ?_<;>(intro DN;try simp only[dcs,ne_eq,reduceCtorEq]at DN)))
    | simp only[Xd,Nat.reduceEqDiff,reduceIte]
    | refine eR1 ?_ | refine eR2 ?_ | refine lZ.W6 rfl ?_ | refine lZ.W7 rfl ?_
   exact⟨by simp[lR,h1,h2,a_],by trivial⟩
  ·repeat' first
    | with_reducible (first | refine VC.seq' ?_ | refine VC.aB ?_ | refine VC.skip ?_ | refine VC.label ?_ | refine VC.scope ?_ | refine VC.exit ?_ | refine VC.ret ?_ | refine VL.nil ?_)
    | (with_reducible refine gVC ?_;first | refine gp @aE ?_ | refine gr @aE ?_ | (refine gc @aE ?_ ?_<;>(intro DN;try simp only[dcs,ne_eq,reduceCtorEq]at DN)))
    | simp only[Xd,Nat.reduceEqDiff,reduceIte]
    | refine eR1 ?_ | refine eR2 ?_ | refine lZ.W6 rfl ?_ | refine lZ.W7 rfl ?_
   exact⟨by simp[lR,h2,a_],by trivial⟩
 ·repeat' first
   | with_reducible (first | refine VC.seq' ?_ | refine VC.aB ?_ | refine VC.skip ?_ | refine VC.label ?_ | refine VC.scope ?_ | refine VC.exit ?_ | refine VC.ret ?_ | refine VL.nil ?_)
   | (with_reducible refine gVC ?_;first | refine gp @aE ?_ | refine gr @aE ?_ | (refine gc @aE ?_ ?_<;>(intro DN;try simp only[dcs,ne_eq,reduceCtorEq]at DN)))
   | simp only[Xd,Nat.reduceEqDiff,reduceIte]
   | refine eR1 ?_ | refine eR2 ?_ | refine lZ.W6 rfl ?_ | refine lZ.W7 rfl ?_
  exact⟨by simp[lR,h1,a_],by trivial⟩
section
variable {tab:bN} {t:TypeId} {a b:List UInt8}
end
def afS (s:List UInt8) (nb:Bool):List UInt8:=
 if s==[103,97]||(s==[102,105,110,97,108]||s==[114,101,108,101,97,115,101])then[]
 else if s==[99,114]then[114,99]
 else if nb&&s==[97]then[97,108,112,104,97]
 else if nb&&s==[98]then[98,101,116,97]
 else if nb&&s==[109]then[109,105,108,101,115,116,111,110,101]
 else s
section
variable {tab:bN} {t:TypeId} {l:List UInt8} {s c:Nat} {z:List MV}
end
def Lm (b:UInt8):Bool:=b==46||b==45
abbrev afT:=List UInt8×Bool×Bool
abbrev YL:=Bool×Bool×List UInt8
set_option linter.defProp false in
def yU:=And.intro T9<|And.intro T3<|And.intro T4<|And.intro T5<|And.intro pY<|And.intro RD<|And.intro Lj<|And.intro ahd G9
structure fx (O:VH) (B b:Nat) (q:Option Nat) (s:List UInt8):Prop where
 cell:∃p buf,O.hp b=some (.cells [p,buf])/\(p= .v (.pointer none)\/p= .ptr b 0)/\GR O 5 1 B buf s.length (s.map eV)/\gid buf=q/\buf≠ .sl 0 [] .full
 ne:q≠some b
 nK:∃j,B<=j/\j<O.next/\O.hp j=some (.shape b 209 2)
 lo:B<=b
 hi:b<O.next
 nz:s=[]->q=none
structure eK (O:VH) (b:Nat) (q:Option Nat) (O':VH) (q':Option Nat):Prop where
 next:O.next<=O'.next
 hp:∀i,i<O.next->i≠b->q≠some i->O'.hp i=O.hp i
 new:∀i,i<O.next->q≠some i->q'≠some i
theorem fx.RE {O:VH} {B b:Nat} {q:Option Nat} {s:List UInt8} (h:fx O B b q s):∀i,O.next<=i->q≠some i:=by
 intro i hi e;obtain⟨p,buf,_,_,hg,hq,_⟩:=h.cell;rcases hg with⟨_,_,rfl | rfl⟩ | ⟨k,c,rfl,_,_,hr⟩
 ·rw[<-hq]at e;cases e
 ·rw[<-hq]at e;cases e
 ·rw[<-hq]at e;injection e with e;have:=hr.hi;omega
theorem fx.wL {O:VH} {B b:Nat} {q:Option Nat} {s:List UInt8} (h:fx O B b q s):∀i,q=some i->B<=i:=by
 intro i e;obtain⟨p,buf,_,_,hg,hq,_⟩:=h.cell;rcases hg with⟨_,_,rfl | rfl⟩ | ⟨k,c,rfl,_,_,hr⟩
 ·rw[<-hq]at e;cases e
 ·rw[<-hq]at e;cases e
 ·rw[<-hq]at e;injection e with e;rw[<-e];exact hr.lo
theorem eK.ge {O0 O O':VH} {b:Nat} {q q':Option Nat} (h:O0.Ge O) (u:eK O b q O' q') (hb:O0.next<=b) (hq:∀i,q=some i->O0.next<=i):O0.Ge O':=
 ⟨Nat.le_trans h.next u.next,fun i hi=>(u.hp i (Nat.lt_of_lt_of_le hi h.next) (by omega) (fun e=>by have:=hq i e;omega)).trans (h.hp i hi)⟩
theorem fx.oO {O O':VH} {B b:Nat} {q:Option Nat} {s:List UInt8} (h:fx O B b q s) (hn:O.next<=O'.next) (hb:O'.hp b=O.hp b) (hq:∀i,q=some i->O'.hp i=O.hp i) (hs:∀j k t n,O.hp j=some (.shape k t n)->j<O.next->O'.hp j=O.hp j):fx O' B b q s:=by
 obtain⟨p,buf,h1,h2,h3,h4,h5⟩:=h.cell;obtain⟨j,j1,j2,j3⟩:=h.nK;refine⟨⟨p,buf,hb.trans h1,h2,?_,h4,h5⟩,h.ne,⟨j,j1,by omega,(hs j _ _ _ j3 j2).trans j3⟩,h.lo,by have:=h.hi;omega,h.nz⟩;rcases h3 with h3 | ⟨k,c,rfl,g1,g2,g3⟩
 ·exact .inl h3
 ·refine .inr ⟨k,c,rfl,g1,g2,?_⟩;obtain⟨sp,r1,r2⟩:=g3.cells;obtain⟨i,i1,i2,i3⟩:=g3.nK;exact⟨⟨sp,(hq k h4.symm).trans r1,r2⟩,⟨i,i1,by omega,(hs i _ _ _ i3 i2).trans i3⟩,g3.lo,by have:=g3.hi;omega⟩
theorem fx.Dz {O O':VH} {B b:Nat} {q:Option Nat} {s:List UInt8} (h:fx O B b q s) (u:bk O none O'):fx O' B b q s:=
 h.oO u.next (u.hp b h.hi (by simp)) (fun i hi=>u.hp i (by
  rcases Nat.lt_or_ge i O.next with h' | h'
  ·exact h'
  ·exact absurd hi (h.RE i h')) (by simp)) fun j _ _ _ _ hl=>u.hp j hl (by simp)
theorem fx.set {O:VH} {B b i:Nat} {q:Option Nat} {s:List UInt8} {cs:List MV} {x:bV} (h:fx O B b q s) (hi:O.hp i=some (.cells cs)) (hb:i≠b) (hq:q≠some i):fx (O.set i x) B b q s:=
 h.oO (Nat.le_refl _) (VH.ak _ _ (Ne.symm hb)) (fun k hk=>VH.ak _ _ (fun e=>hq (by rw[hk,e]))) fun j _ _ _ hj _=>VH.ak _ _ (fun e=>by rw[e,hi]at hj;cases hj)
theorem fx.fresh (O:VH) {B:Nat} (hB:B<=O.next):fx ((O.push (.cells [.v (.pointer none),.sl 0 [] .nil])).push (.shape O.next 209 2)) B O.next none []:=
 ⟨⟨_,_,(VH.cY _ _ (by show O.next<O.next+1;omega)).trans (VH.aZ _ _),.inl rfl,.inl ⟨rfl,rfl,.inl rfl⟩,rfl,by simp⟩,by simp,⟨O.next+1,by omega,by show O.next+1<O.next+1+1;omega,VH.aZ _ _⟩,hB,by show O.next<O.next+1+1;omega,fun _=>rfl⟩
theorem Ln (k o:Nat) (O:VH):dV Tryz.prog 162 [.ptr k o] O fun m O'=>m= .ptr k o/\O'=O:=by
 refine dV.of (ex:=Extern.AbiNoEscape.same) Tryz.func162 (by kernel_rfl) (by kernel_rfl) (by kernel_rfl) (by kernel_rfl) fun G w vs hw hv=>?_
 obtain⟨u,us,rfl,h1,h2⟩:=hv.ek;rw[h2.iu];exact⟨u,Lib.run_noEscape w u,h1⟩
theorem yV {O:VH} {B b:Nat} {q:Option Nat} {s:List UInt8} (h:fx O B b q s):VF Tryz.prog 131 [.ptr b 0] O (aL fun m O'=>fx O' B b q s/\eK O b q O' q):=by
 obtain⟨p,buf,h1,h2,h3,h4,h5⟩:=h.cell;obtain⟨j,j1,j2,j3⟩:=h.nK;have hb:=h.hi;refine VF.db 20 [] Tryz.func131 ?_;rcases h2 with rfl | rfl
 ·refine ao @yU @h1 ?_;refine VL.toU aa (.inl rfl) (el:=209) (by rw[RD];rfl) (by rw[G9];rfl) Lj.1.1 (by decide) j3 (by decide) rfl rfl rfl ?_;refine IA ?_;refine ah.ext (Ln b 0 O) rfl ?_;rintro _ O2 ⟨rfl,rfl⟩;refine IA ?_;refine VL.aft aa (.inl rfl) (el:=209) (by rw[G9];rfl) (by rw[RD];rfl) Lj.1.1 j3 (by kernel_rfl) rfl rfl rfl ?_;refine ao @yU @h1 ?_;refine⟨⟨⟨_,buf,VH.an _ _ _,.inr rfl,h3.oO bk.set (by rw[h4];exact h.ne) (fun k t n=>by rw[h1];simp),h4,h5⟩,h.ne,⟨j,j1,j2,?_⟩,h.lo,h.hi,h.nz⟩,⟨Nat.le_refl _,fun i _ hi _=>VH.ak _ _ hi,fun _ _ h=>h⟩⟩;rw[VH.ak _ _ (fun e=>by rw[e,h1]at j3;cases j3)];exact j3
 ·simp(disch:=first | omega | (simp only[ds]<;>omega) | fail) only[wk,wu,rR,aj,ca,Nat.reduceLT,Nat.reduceAdd,Nat.reduceMul,Nat.reduceSub,Nat.reduceBEq,Nat.reduceEqDiff,Int.reduceToNat,reduceIte,yU,h1,KR (op:=.neq) RD (s:=1) Lj.1.1];exact⟨h,⟨Nat.le_refl _,fun _ _ _ _=>rfl,fun _ _ h=>h⟩⟩
theorem fx.grown {O O':VH} {B b:Nat} {q:Option Nat} {s:List UInt8} {p buf m:MV} {n' z:Nat} {L:List UInt8} (h:fx O B b q s) (h1:O.hp b=some (.cells [p,buf])) (h2:p= .v (.pointer none)\/p= .ptr b 0) (h4:gid buf=q) (hg:GR O' 5 1 B m n' (L.map eV)) (hn:n'=L.length) (hu:bk O (gid buf) O') (oa:(∃k c,m= .bo k 0 n' c/\(gid buf=some k\/(O.next<=k/\z≠0)))\/m=buf) (hf:buf≠ .sl 0 [] .full) (hz:L=[]->z=0/\s=[]):
  fx (O'.set b (.cells [p,m])) B b (gid m) L/\eK O b q (O'.set b (.cells [p,m])) (gid m):=by
 subst hn;obtain⟨j,j1,j2,j3⟩:=h.nK;have hb:=h.hi
 have hm:m≠ .sl 0 [] .full:=by
  rcases oa with⟨k,c,rfl,_⟩ | rfl
  ·simp
  ·exact hf
 have uq:∀i,i<O.next->q≠some i->gid m≠some i:=fun i hi hq=>by
  rcases oa with⟨k,c,rfl,hk⟩ | rfl
  ·rcases hk with hk | hk
   ·rw[<-h4,hk]at hq;exact hq
   ·intro e;injection e with e;have:=hk.1;omega
  ·rw[h4];exact hq
 have hne:gid m≠some b:=uq b hb h.ne;have hOb:O'.hp b=some (.cells [p,buf]):=(hu.hp b hb (by rw[h4];exact h.ne)).trans h1
 have hqs:∀i k t n,O.hp i=some (.shape k t n)->i<O.next->O'.hp i=O.hp i:=fun i k t n hi hl=>hu.hp i hl fun e=>by
  obtain⟨p',ajn,g1,g2,g3,g4,g5⟩:=h.cell;rw[h1]at g1;injection g1 with g1;injection g1 with g1;injection g1 with e1 e2;injection e2 with e2;subst e2
  rcases g3 with⟨_,_,rfl | rfl⟩ | ⟨k2,c2,rfl,_,_,hr⟩
  ·cases e
  ·cases e
  ·injection e with e;subst e;obtain⟨sp,r1,_⟩:=hr.cells;rw[r1]at hi;cases hi
 refine⟨⟨⟨p,m,VH.an _ _ _,h2,hg.oO bk.set hne (fun k t n=>by rw[hOb];simp),rfl,hm⟩,hne,⟨j,j1,Nat.lt_of_lt_of_le j2 hu.next,?_⟩,h.lo,Nat.lt_of_lt_of_le hb hu.next,fun hL=>?_⟩,⟨hu.next,fun i hi Pn hq=>(VH.ak _ _ Pn).trans (hu.hp i hi (by rw[h4];exact hq)),uq⟩⟩
 ·rw[VH.ak _ _ (fun e=>by rw[e,h1]at j3;cases j3)];exact(hqs j _ _ _ j3 j2).trans j3
 ·obtain⟨z0,s0⟩:=hz hL;have hq:=h.nz s0;rw[hq]at h4;rcases oa with⟨k,c,rfl,hk⟩ | rfl
  ·rcases hk with hk | hk
   ·rw[h4]at hk;cases hk
   ·exact absurd z0 hk.2
  ·exact h4
theorem rU {O:VH} {B b:Nat} {q:Option Nat} {s:List UInt8} (c:UInt8) (h:fx O B b q s) (hl:s.length+1<=140737488355328):VF Tryz.prog 132 [.ptr b 0,eV c] O (aL fun m O'=>m= .v .nilIface/\∃q',fx O' B b q' (s++[c])/\eK O b q O' q'):=by
 refine VF.db 17 [.tmp 4] Tryz.func132 ?_;refine ae @yU ?_;refine ah.rt (yV h) ?_;rintro _ O1 ⟨h',u'⟩;obtain⟨p,buf,h1,h2,h3,h4,h5⟩:=h'.cell;have hb:=h'.hi;refine aM @yU @h1 @aE ?_;refine VL.grow aa (.inl rfl) (te:=⟨.int .u8,1,1,[.v (.int .u8 0)]⟩) (dx:=.slice 5) (q:=.sl 1 [eV c] .full) (j:=1) (ds:=[eV c]) h3 rfl rfl (by rw[pY];rfl) T5 (by rw[pY];rfl) trivial (by dsimp only;omega) (by simp only[maxLen];omega) (by have:=h'.lo;omega) rfl rfl rfl rfl ?_;intro m O2 hg hu _ oa;have hg':GR O2 5 1 B m (s.length+1) ((s++[c]).map eV):=by rw[List.map_append];exact hg
 have hr:=h'.grown h1 h2 h4 hg' (by simp) hu (oa.imp_right (·.2.1)) h5 (by simp);have hO:O2.hp b=some (.cells [p,buf]):=(hu.hp b hb (by rw[h4];exact h'.ne)).trans h1
 have gG:df m=[m]/\dh m=true:=by
  rcases oa with⟨k,cp,rfl,_⟩ | ⟨hj,_⟩
  ·exact⟨rfl,rfl⟩
  ·cases hj
 have ez:=oP (O:=O2) (k:=b) (off:=1) (u:=.slice 5) (b:=24) (z:=[.sl 0 [] .nil]) (cs:=[p,buf]) gG.1 gG.2 (by simp);refine aM @yU @hO @ez ?_;exact⟨_,hr.1,⟨Nat.le_trans u'.next hr.2.next,fun i hi Pn hq=>(hr.2.hp i (Nat.lt_of_lt_of_le hi u'.next) Pn hq).trans (u'.hp i hi Pn hq),fun i hi hq=>hr.2.new i (Nat.lt_of_lt_of_le hi u'.next) hq⟩⟩
theorem bB {O:VH} {B b:Nat} {q:Option Nat} {s:List UInt8} (l:List UInt8) (h:fx O B b q s) (hl:s.length+l.length<=140737488355328):VF Tryz.prog 97 [.ptr b 0,.str l] O (aL fun m O'=>m= .tuple [mi l.length,.v .nilIface]/\∃q',fx O' B b q' (s++l)/\eK O b q O' q'):=by
 refine VF.db 19 [.tmp 4,.tmp 5] Tryz.func97 ?_;refine ae @yU ?_;refine ah.rt (yV h) ?_;rintro _ O1 ⟨h',u'⟩;obtain⟨p,buf,h1,h2,h3,h4,h5⟩:=h'.cell;have hb:=h'.hi;refine ao @yU @h1 ?_;refine VL.grow aa (.inl rfl) (te:=⟨.int .u8,1,1,[.v (.int .u8 0)]⟩) (dx:=.string) (q:=.str l) (j:=l.length) (ds:=l.map eV) h3 rfl (by rw[List.all_map];exact List.all_eq_true.2 fun _ _=>rfl) (by rw[pY];rfl) T5 (by rw[T9];rfl) trivial (by dsimp only;omega) (by simp only[maxLen];omega) (by have:=h'.lo;omega) rfl rfl rfl rfl ?_;intro m O2 hg hu _ oa;have hg':GR O2 5 1 B m (s.length+l.length) ((s++l).map eV):=by rw[List.map_append];exact hg
 have hr:=h'.grown h1 h2 h4 hg' (by simp) hu (oa.imp_right (·.2.1)) h5 (by simp[and_comm]);have hO:O2.hp b=some (.cells [p,buf]):=(hu.hp b hb (by rw[h4];exact h'.ne)).trans h1
 have gG:df m=[m]/\dh m=true:=by
  rcases oa with⟨k,cp,rfl,_⟩ | ⟨_,rfl,_⟩
  ·exact⟨rfl,rfl⟩
  ·rcases h3 with⟨_,_,rfl | rfl⟩ | ⟨k,c,rfl,_⟩<;>exact⟨rfl,rfl⟩
 have ez:=oP (O:=O2) (k:=b) (off:=1) (u:=.slice 5) (b:=24) (z:=[.sl 0 [] .nil]) (cs:=[p,buf]) gG.1 gG.2 (by simp);refine aM @yU @hO @ez ?_;exact⟨_,hr.1,⟨Nat.le_trans u'.next hr.2.next,fun i hi Pn hq=>(hr.2.hp i (Nat.lt_of_lt_of_le hi u'.next) Pn hq).trans (u'.hp i hi Pn hq),fun i hi hq=>hr.2.new i (Nat.lt_of_lt_of_le hi u'.next) hq⟩⟩
theorem oV {O:VH} {B b:Nat} {q:Option Nat} {s:List UInt8} (h:fx O B b q s) (hm:s.length<=maxLen):VF Tryz.prog 100 [.ptr b 0] O (aL fun m O'=>m= .str s/\bk O q O'):=by
 obtain⟨p,buf,h1,h2,h3,h4,h5⟩:=h.cell;have hb:=h.hi;refine VF.db 14 [.tmp 2] Tryz.func100 ?_;refine IA ?_;refine WC.bM (.held [10,11]) [(0,.rd),(1,.rd),(2,.rd),(3,.rd),(4,.rd),(5,.rd),(6,.rd),(7,.rd),(8,.rd),(9,.rd),(10,.one),(11,.rd)] ?_;have hO:O.hp b=some (.cells [p,buf]):=h1;rcases h3 with⟨e1,e2,rfl | rfl⟩ | ⟨k,c,rfl,g1,g2,g3⟩
 ·have hs:s=[]:=List.eq_nil_of_length_eq_zero e1;subst hs;simp(disch:=first | omega | (simp only[ds]<;>omega) | fail) only[wk,wu,rR,aj,ca,Nat.reduceLT,Nat.reduceAdd,Nat.reduceMul,Nat.reduceSub,Nat.reduceBEq,Nat.reduceEqDiff,Int.reduceToNat,reduceIte,yU,h1,vw];refine VL.afs aa (by kernel_rfl) rfl rfl rfl rfl ?_;refine ae @yU ?_;exact bk.refl _ _
 ·exact absurd rfl h5
 ·have hs:s≠[]:=fun e=>by have:=h.nz e;rw[<-h4]at this;cases this
  have hc:c≠0:=fun e=>hs (List.eq_nil_of_length_eq_zero (by omega))
  have rH:s.length<=maxLen:=hm;simp(disch:=first | omega | (simp only[ds]<;>omega) | fail) only[wk,wu,rR,aj,ca,Nat.reduceLT,Nat.reduceAdd,Nat.reduceMul,Nat.reduceSub,Nat.reduceBEq,Nat.reduceEqDiff,Int.reduceToNat,reduceIte,yU,h1,vw,hc];refine VL.agP aa (by kernel_rfl) (el:=5) (by rw[ahj];rfl) (by kernel_rfl) g3 hs rH rfl rfl rfl rfl ?_;refine ae @yU ?_;exact h4▸bk.kill
set_option linter.defProp false in
def qM:=And.intro T9<|And.intro T3<|And.intro T4<|And.intro T5 pY
theorem DO (s:List UInt8) (c:UInt8):(0<=Lib.indexByte s c) ↔ c∈s:=by
 induction s with
 | nil=>simp[Lib.indexByte]
 | cons b l ih=>
   have gK:=Lib.indexByte_ge l c;unfold Lib.indexByte;by_cases hb:b=c
   ·subst hb;simp
   ·have:(b==c)=false:=by simpa using hb
    rw[this];simp only[Bool.false_eq_true,if_false,List.mem_cons];by_cases h1:Lib.indexByte l c= -1
    ·rw[h1]at ih ⊢;simp only[beq_self_eq_true,if_true];constructor
     ·intro h;omega
     ·rintro(h | h)
      ·exact absurd h.symm hb
      ·have:=ih.2 h;omega
    ·have:(Lib.indexByte l c== -1)=false:=by simpa using h1
     rw[this];simp only[Bool.false_eq_true,if_false];constructor
     ·intro _;exact .inr (ih.1 (by omega))
     ·rintro(h | h)
      ·exact absurd h.symm hb
      ·have:=ih.2 h;omega
theorem xm (s:List UInt8) (c:UInt8) (O:VH):dV Tryz.prog 241 [.str s,eV c] O fun m O'=>m=mi (Lib.indexByte s c)/\O'=O:=by
 refine dV.of (ex:=Extern.BytealgIndexByte.indexByte) Tryz.func241 (by kernel_rfl) (by kernel_rfl) (by kernel_rfl) (by kernel_rfl) fun G w vs hw hv=>?_
 obtain⟨u,us,rfl,h1,h2⟩:=hv.ek;obtain⟨u2,us2,rfl,h3,h4⟩:=h2.ek;rw[h4.iu];cases h1;have:=h3.iv;subst this;refine⟨_,Lib.run_indexByteString _ _ w,?_⟩;have e:((c.toNat:Int).toNat).toUInt8=c:=by simp
 rw[e];exact .v rfl
theorem ID (s:List UInt8) (c:UInt8) (O:VH):VF Tryz.prog 213 [.str s,eV c] O (aL fun m O'=>m=mi (Lib.indexByte s c)/\O'=O):=by
 refine VF.db 8 [.tmp 4] Tryz.func213 ?_;refine IA ?_;refine ah.ext (xm s c O) rfl ?_;rintro _ O2 ⟨rfl,rfl⟩;exact IA trivial
theorem UD (s:List UInt8) (c:UInt8) (O:VH):VF Tryz.prog 190 [.str s,.str [c]] O (aL fun m O'=>∃n:Int,m=mi n/\(0<=n ↔ c∈s)/\O'=O):=by
 refine VF.db 143 [.tmp 4] Tryz.func190 ?_;cases h:([c]:List UInt8)==s
 ·refine dB @qM @h @List.length_cons.{0} @List.length_nil.{0} ?_;refine ah.rt (ID s c O) ?_;rintro _ O2 ⟨rfl,rfl⟩;refine ae @qM ?_;exact⟨_,rfl,DO s c⟩
 ·refine dB @qM @h @List.length_cons.{0} @List.length_nil.{0} ?_;have:s=[c]:=by have:=beq_iff_eq.1 h;exact this.symm
  exact⟨0,rfl,by rw[this];simp⟩
theorem IE (s:List UInt8) (c:UInt8) (O:VH):VF Tryz.prog 163 [.str s,.str [c]] O (aL fun m O'=>∃n:Int,m=mi n/\(0<=n ↔ c∈s)/\O'=O):=by
 refine VF.db 8 [.tmp 4] Tryz.func163 ?_;refine IA ?_;refine ah.rt (UD s c O) ?_;rintro _ O2 ⟨n,rfl,h,rfl⟩;refine IA ?_;exact⟨n,rfl,h⟩
theorem yW (s:List UInt8) (c:UInt8) (O:VH):VF Tryz.prog 136 [.str s,.str [c]] O (aL fun m O'=>m=mb (s.contains c)/\O'=O):=by
 refine VF.db 9 [.tmp 4] Tryz.func136 ?_;refine IA ?_;refine ah.rt (IE s c O) ?_;rintro _ O2 ⟨n,rfl,h,rfl⟩;refine IA ?_
 have:s.contains c=decide (n>=0):=by
  rw[Bool.eq_iff_iff,List.contains_iff_mem,decide_eq_true_iff];exact h.symm
 rw[this]
def Po (c:UInt8):Bool:=decide ((97<=c.toNat/\c.toNat<=122)\/(65<=c.toNat/\c.toNat<=90)\/(48<=c.toNat/\c.toNat<=57)\/c.toNat=46\/c.toNat=45\/c.toNat=95\/c.toNat=43)
def ur (s:List UInt8):Bool:=s.all Po&&(decide (1<=s.length)&&decide (s.length<=64))
theorem Pp (c:UInt8):((97<=c.toNat/\c.toNat<=122)\/(65<=c.toNat/\c.toNat<=90)\/(48<=c.toNat/\c.toNat<=57)\/c.toNat=46\/c.toNat=45\/c.toNat=95\/c.toNat=43)\/((123<=c.toNat)\/(91<=c.toNat/\c.toNat<=96/\c.toNat≠95)\/(58<=c.toNat/\c.toNat<=64)\/(c.toNat<=47/\c.toNat≠43/\c.toNat≠45/\c.toNat≠46)):=by omega
theorem Pq (s:List UInt8) (O:VH) (hs:s.length<=maxLen):VF Tryz.prog 106 [.str s] O (aL fun m O'=>m=mb (ur s)/\O.Ge O'):=by
 have hm:(s.length:Int)<=9223372036854775807:=by simp[maxLen]at hs;omega
 have we:=VH.aZ O (.cells (s.map eV));have yX:=(VH.Ge.refl O).push (.cells (s.map eV));refine VF.db 50 [.tmp 2] Tryz.func106 ?_;refine ae @qM ?_;refine VL.bytes aa (el:=5) (l:=s) rfl rfl (by rw[T9];rfl) (by rw[pY];rfl) (by rw[T5];rfl) hs rfl fun cap h1 h2=>WL.sound aa ?_
 refine ae @qM ?_;refine WC.iw [9] [0,7,8] (fun j:Nat=>[mi j]) (fun j O'=>(O.push (.cells (s.map eV))).Ge O'/\j<=s.length/\(s.take j).all Po=true) (fun j=>s.length - j) (0) ?_ ?_
 ·exact⟨VH.Ge.refl _,Nat.zero_le _,rfl⟩
 rintro j O2 ⟨ob,hj,jC⟩;have wg:=(ob.hp O.next (Nat.lt_succ_self _)).trans we;by_cases h2:j<s.length
 ·have hc:=Pp s[j];have qN:=List.getElem?_eq_getElem h2;have dD:Po s[j]=decide ((97<=s[j].toNat/\s[j].toNat<=122)\/(65<=s[j].toNat/\s[j].toNat<=90)\/(48<=s[j].toNat/\s[j].toNat<=57)\/s[j].toNat=46\/s[j].toNat=45\/s[j].toNat=95\/s[j].toNat=43):=rfl;have iz:(s.take (j+1)).all Po=Po s[j]:=by rw[cG _ _ h2,List.all_append,jC];simp
  generalize hx:s[j]=c at*;have hD:lR c=decide (48<=c.toNat/\c.toNat<=57):=by unfold lR;rw[Bool.decide_and]
  have hC:([46,45,95,43]:List UInt8).contains c=decide (c.toNat=46\/c.toNat=45\/c.toNat=95\/c.toNat=43):=by
   rw[Bool.eq_iff_iff,List.contains_iff_mem,decide_eq_true_iff];simp only[List.mem_cons,List.not_mem_nil,or_false, <-UInt8.toNat_inj];rfl
  rcases hc with hc | hc
  ·have h1:Po c=true:=by rw[dD];exact decide_eq_true hc
   rw[h1]at iz;rcases hc with hc | hc | hc | hc | hc | hc | hc
   ·refine dB @qM @qN @wg @aE ?_;refine aD.next (j+1) ?_;exact⟨ob,by omega,iz⟩
   ·refine dB @qM @qN @wg @aE ?_;refine aD.next (j+1) ?_;exact⟨ob,by omega,iz⟩
   ·rw[decide_eq_true (by omega)]at hD;refine dB @qM @qN @wg @aE ?_;refine ah.rt (oU c _) ?_;rintro _ O3 ⟨rfl,rfl⟩;rw[hD];refine ae @qM ?_;refine aD.next (j+1) ?_;exact⟨ob,by omega,iz⟩
   all_goals
    rw[decide_eq_false (by omega)]at hD;rw[decide_eq_true (by omega)]at hC;refine dB @qM @qN @wg @aE ?_;refine ah.rt (oU c _) ?_;rintro _ O3 ⟨rfl,rfl⟩;rw[hD];refine ae @qM ?_;refine VL.Xe aa (el:=5) (l:=[c]) rfl rfl (by rw[pY];rfl) (by rw[T9];rfl) (by rw[T5];rfl) rfl rfl rfl (WL.sound aa ?_);refine ae @qM ?_;refine ah.rt (yW [46,45,95,43] c _) ?_;rintro _ O4 ⟨rfl,rfl⟩;rw[hC];refine ae @qM ?_;refine aD.next (j+1) ?_;exact⟨ob,by omega,iz⟩
  ·have h1:Po c=false:=by rw[dD];exact decide_eq_false (by omega)
   have:ur s=false:=by
    unfold ur;rw[List.all_eq_false.2 ⟨c,by rw[<-hx];exact List.getElem_mem h2,by simp[h1]⟩];rfl
   rw[this];rw[decide_eq_false (by omega)]at hD hC;rcases hc with hc | hc | hc | hc
   all_goals
    refine dB @qM @qN @wg @aE ?_;refine ah.rt (oU c _) ?_;rintro _ O3 ⟨rfl,rfl⟩;rw[hD];refine ae @qM ?_;refine VL.Xe aa (el:=5) (l:=[c]) rfl rfl (by rw[pY];rfl) (by rw[T9];rfl) (by rw[T5];rfl) rfl rfl rfl (WL.sound aa ?_);refine ae @qM ?_;refine ah.rt (yW [46,45,95,43] c _) ?_;rintro _ O4 ⟨rfl,rfl⟩;rw[hC];refine ae @qM ?_;exact yX.trans ob
 ·have yS:j=s.length:=by omega
  subst yS;rw[List.take_length]at jC;unfold ur;rw[jC];by_cases h0:0<s.length
  ·have e:decide (1<=s.length)=true:=decide_eq_true h0;rw[e];by_cases DP:s.length<=64
   ·refine ae @qM ?_;exact yX.trans ob
   ·refine ae @qM ?_;exact yX.trans ob
  ·have e:decide (1<=s.length)=false:=decide_eq_false (by omega);rw[e];refine ae @qM ?_;exact yX.trans ob
def sK:Bool->List UInt8->List UInt8->List afT
 | hy,cur,[]=>[(cur,hy,false)]
 | hy,cur,c::r=>if Lm c then(cur,hy,false)::sK (c==45) [] r
   else match cur.getLast? with
    | none=>sK hy [c] r
    | some d=>if lR c=lR d then sK hy (cur++[c]) r else(cur,hy,true)::sK true [c] r
theorem UE (hy:Bool) (cur:List UInt8):sK hy cur []=[(cur,hy,false)]:=rfl
theorem Pr {hy:Bool} {cur r:List UInt8} {c:UInt8} (h:Lm c=true):sK hy cur (c::r)=(cur,hy,false)::sK (c==45) [] r:=by rw[sK,if_pos h]
def even (l:List UInt8):Prop:=(∀c∈l,Lm c=false)/\∀c∈l,∀d∈l,lR c=lR d
theorem Ap:∀(l cur r:List UInt8) (hy:Bool),even (cur++l)->sK hy cur (l++r)=sK hy (cur++l) r
 | [],cur,r,hy,_=>by simp
 | c::l,cur,r,hy,h=>by
   have hm:Lm c=false:=h.1 c (by simp);have G5:=Ap l (cur++[c]) r hy (by rw[List.append_assoc];exact h);rw[List.append_assoc,List.singleton_append]at G5;rw[<-G5,List.cons_append,sK,if_neg (by rw[hm];simp)];cases hl:cur.getLast? with
   | none=>
     have:cur=[]:=List.getLast?_eq_none_iff.1 hl;subst this;rfl
   | some d=>
     have hd:lR c=lR d:=h.2 c (by simp) d (List.mem_append_left _ (List.mem_of_getLast? hl));simp only[hd,if_true]
open Go.ChangeShapes
def G0 (w:World):Gh:=⟨w,fun _=>none,fun b o=>w.cell? ⟨b,o,none⟩,fun _=>none⟩
def O0:VH:=⟨0,fun _=>none⟩
theorem wr0 (w:World) (hg:xP w):WR (G0 w) O0 w where
 base:=Below.refl _ _
 d_ _ _ _ h:=h
 qD _ _:=⟨rfl,rfl,rfl⟩
 lP _ _ h:=by cases h
 inj _ _ _ _ _ h:=by cases h
 cells _ _ h:=by cases h
 map _ _ _ h:=by cases h
 tok _ h:=by cases h
 lU _ _ _ _ _ h:=by cases h
 nK _ _ _ _ h:=by cases h
 obj _ _ h:=by cases h
 rC:=hg
def El {H:Type} (enc:TypeId×Value->H) (P:Program) (w:World) (sp:Nat->Bool) (held:Bool) (t:TypeId) (Φ :List MV->Prop):Prop:=
 ∀fuel cs x,DataW.trod enc P w 0 sp held fuel t cs=some x->∃ms,aO (G0 w) ms cs/\ Φ ms
section
variable {H:Type} {enc:TypeId×Value->H} {P:Program} {w:World} {sp:Nat->Bool} {held:Bool} {t e:TypeId}
theorem El.int {k:IntKind} (ht:P.underlying t=some (.int k)):El enc P w sp held t fun ms=>∃n,ms=[.v (.int k n)]/\(Lit.int k n).wf=true:=by
 intro fuel cs x h;obtain⟨n,rfl,rfl,hw⟩:=DataW.trod_int ht h;exact⟨_,aO.cons (.v rfl) aO.nil,n,rfl,hw⟩
theorem El.bool (ht:P.underlying t=some .bool):El enc P w sp held t fun ms=>∃b,ms=[.v (.bool b)]:=by
 intro fuel cs x h;obtain⟨n,rfl,rfl⟩:=DataW.trod_bool ht h;exact⟨_,aO.cons (.v rfl) aO.nil,n,rfl⟩
theorem El.imp {Φ Ψ :List MV->Prop} (h:El enc P w sp held t Φ) (hi:∀ms, Φ ms-> Ψ ms):El enc P w sp held t Ψ :=fun fuel cs x hx=>by
 obtain⟨ms,h1,h2⟩:=h fuel cs x hx;exact⟨ms,h1,hi _ h2⟩
theorem El.arg {Φ :List MV->Prop} (h:El enc P w sp held t Φ) {v:Value} {d:DataW H} {ps:List MemPlace} (hd:DataW.Trod enc P w 0 sp held t v d ps) (hc:v.cells= #[v]):∃m,VR (G0 w) m v/\ Φ [m]:=by
 obtain⟨fuel,h1⟩:=hd;rw[hc]at h1;obtain⟨ms,h2,h3⟩:=h _ _ _ h1
 match ms,h2 with
 | [m],h2=>exact⟨m,h2.2 0 m v rfl rfl,h3⟩
 | [],h2=>exact absurd h2.1 (by simp)
 | _::_::_,h2=>exact absurd h2.1 (by simp)
end
def Fu:IntKind->Int->Prop
 | .i64,n=> -9223372036854775808<=n/\n<=9223372036854775807
 | .u64,n=>0<=n/\n<=18446744073709551615
 | .u8,n=>0<=n/\n<=255
 | k,n=>k.min<=n/\n<=k.max
theorem acL {k:IntKind} {n:Int} (h:(Lit.int k n).wf=true):Fu k n:=by
 simp only[Lit.wf,Bool.and_eq_true,decide_eq_true_eq]at h;cases k<;>exact h
section
variable {H:Type} {enc:TypeId×Value->H} {P:Program} {w:World} {sp:Nat->Bool} {held:Bool} {t e:TypeId}
theorem El.ahB {k:IntKind} (ht:P.underlying t=some (.int k)):El enc P w sp held t fun ms=>∃n,ms=[.v (.int k n)]/\Fu k n:=
 (El.int ht).imp fun _ ⟨n,h,hw⟩=>⟨n,h,acL hw⟩
theorem El.afU (ht:P.underlying t=some .bool):El enc P w sp held t fun ms=>∃b,ms=[mb b]/\True:=
 (El.bool ht).imp fun _ ⟨b,h⟩=>⟨b,h,trivial⟩
end
theorem VF.law {P:Program} {f:FuncId} {w:World} {ms:List MV} {vs:Array Value} (hg:xP w) (hv:aO (G0 w) ms vs.toList) (h:VF P f ms O0 (aL fun m _=>m=mb true)):
  Calls P f vs w fun e w'=>e= .returned (.bool true)/\Below w.heap.size w w':=by
 have:=h (G0 w) w vs.toList (wr0 w hg) hv;refine this.mono ?_;rintro x w' ⟨r,O',G,h1,h2,h3,h4⟩;cases r with
 | panic m=>exact h4.elim
 | ret m=>
   have h4:m=mb true:=h4;subst h4;cases x with
   | returned v=>
     have h5:v= .bool true:=h3.iv;refine⟨by rw[h5],?_⟩;have:=h2.base;rw[h1.w0]at this;have hB:G.B=w.heap.size:=by unfold Gh.B;rw[h1.w0];rfl
     rw[hB]at this;exact this
   | panicked c=>exact h3.elim
   | outgrown=>exact h3.elim
theorem UF (w:List UInt8) (h:((w.all fun c=> !Lm c)&&(w.all fun c=>w.all fun d=>lR c==lR d))=true):even w:=by
 simp only[Bool.and_eq_true,List.all_eq_true]at h;exact⟨fun c hc=>by simpa using h.1 c hc,fun c hc d hd=>by simpa using h.2 c hc d hd⟩
def okT (p:YL):Prop:=even p.2.2/\(∀c∈p.2.2,lo c=c)/\(if p.2.1 then p.2.2.all lR=true/\p.2.2.dropWhile (· ==48)=p.2.2 else p.2.2.all (fun c=> !lR c)=true/\afS p.2.2 false=p.2.2)
def Lo (p:YL):List UInt8:=(if p.2.1&&p.2.2==[]then[48]else[])++p.2.2
def YM (p:YL):List UInt8:=(if p.1 then 45 else 46)::Lo p
theorem UG {p:YL} (h:okT p):even (Lo p):=by
 unfold Lo;split
 ·rename_i hc;have:p.2.2=[]:=by simpa using(Bool.and_eq_true _ _▸hc:p.2.1=true/\(p.2.2==[])=true).2
  rw[this];exact UF _ rfl
 ·exact h.1
theorem chain:∀(r:List YL) (_:∀p∈r,okT p) (w:List UInt8) (_:even w) (hy:Bool),sK hy [] (w++r.flatMap YM)=(w,hy,false)::r.map fun p=>(Lo p,p.1,false)
 | [],_,w,hw,hy=>by
   have:=Ap w [] [] hy (by simpa using hw);simpa[UE]using this
 | p::r,h,w,hw,hy=>by
   have ih:=chain r (fun q hq=>h q (List.mem_cons_of_mem _ hq)) (Lo p) (UG (h p (by simp))) p.1;have h1:=Ap w [] ((p::r).flatMap YM) hy (by simpa using hw);rw[h1,List.nil_append,List.flatMap_cons,YM,List.cons_append,Pr (by cases p.1<;>rfl)];have hb:((if p.1 then 45 else 46:UInt8)==45)=p.1:=by cases p.1<;>rfl
   rw[hb,ih,List.map_cons]
theorem YN {n:Sz} {D:List Deferred} {e:Env} {P:Program} {tab:bN} {O:VH} (ht:aI P tab) {d:Option Tmp} {src dst el:TypeId} {x:Operand} {ty:TypeId} {ps:String} {af:Array Edge} {g:Option (Nat×Bool)} {nn:Nat} {cs:List MV} {tk:aC} {l:List UInt8}
  (hx:ev e x=some (.sl nn cs tk)) (hs:(tab src).map bS.under=some (.slice el)) (oN:(tab dst).map bS.under=some .string) (he:(tab el).map bS.under=some (.int .u8)) (hn:nn=l.length) (lQ:cs=l.map eV):
  eJ P n D (.mk d (.convert src dst x) ty ps af g) e O fun m O'=>m= .str l/\O'=O:=by
 subst hn lQ;intro G a w hw hf;obtain⟨u,w',H,hr,h1,h2,h3,_⟩:=GZ (P:=P) ht hw hs oN he (hf.ev hx);exact⟨_,_,u,w',H,⟨rfl,rfl⟩,by simp only[execOp,Sem.run_bind,hr];rfl,h1,h2,h3⟩
end Go.Proofs.YthobfcojiglpdaaGreatDoor
