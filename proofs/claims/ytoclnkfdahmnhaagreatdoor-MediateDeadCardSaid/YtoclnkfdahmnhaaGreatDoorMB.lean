import Derived.Test.YtoclnkfdahmnhaaGreatDoorMA
import Derived.Lib.ConvBytes
import Derived.Laws.BytesString
import Derived.Laws.Externs
import Derived.Deep.AppendSrc
import Derived.Lib.UnsafeStr
import Derived.Laws.StructEq
import Derived.Recover
import Derived.WideLaws
import Derived.Laws.RangeString
import Derived.DeepKeys5
import Derived.Test.YtoclnkfdahmnhaaGreatDoorRows
import Derived.Lib.Bytealg
set_option linter.unusedVariables false
set_option linter.unusedSimpArgs false
namespace Go.Proofs.YtoclnkfdahmnhaaGreatDoor
open Go.RowKit
def iI:List Nat->List MV->Env->Env
 | t::l,m::ms,e=>(t,m)::iI l ms e
 | _,_,e=>e
theorem uF (t:Nat) (l:List Nat) (m:MV) (ms:List MV) (e:Env):iI (t::l) (m::ms) e=(t,m)::iI l ms e:=rfl
theorem Du (ms:List MV) (e:Env):iI [] ms e=e:=rfl
theorem gW {e e0:Env} (he:∀t x,look e0 t=some x->look e t=some x):∀{l:List Nat} {ms:List MV},looks e l=some ms->∀t x,look (iI l ms e0) t=some x->look e t=some x
 | [],ms,_,t,x,hx=>he t x (by simpa[iI]using hx)
 | k::l,ms,h,t,x,hx=>by
   rw[Bx]at h;obtain⟨m,h1,h2⟩:=Option.bind_eq_some_iff.1 h;obtain⟨Xd,h3,rfl⟩:=Option.map_eq_some_iff.1 h2;rw[uF,lN]at hx;cases hb:t==k with
   | true=>
     rw[hb,cond_true]at hx;injection hx with hx;subst hx
     have:t=k:=by simpa using hb
     rw[this];exact h1
   | false=>rw[hb,cond_false]at hx;exact gW he h3 t x hx
def aC {σ :Type} (l K:List Nat) (ks:List MV) (ms: σ ->List MV) (I: σ ->VH->Prop) (μ : σ ->Nat) (s: σ) (Q:VQ):VQ:=fun x e O=>match x with
 | .normal=>looks e K=some ks/\∃s',looks e l=some (ms s')/\I s' O/\ μ s'< μ s
 | x=>Q x e O
section
variable {n:Sz} {D:List Deferred} {e:Env} {P:Program} {O:VH} {Q:VQ} {c:Code} {σ :Type} {l K:List Nat} {ks:List MV} {ms: σ ->List MV} {I: σ ->VH->Prop} {μ : σ ->Nat} {s: σ} {i:Nat} {m:MV}
theorem yP:aC l K ks ms I μ s Q (.exit i) e O=Q (.exit i) e O:=rfl
theorem yQ:aC l K ks ms I μ s Q (.goto i) e O=Q (.goto i) e O:=rfl
theorem BG:aC l K ks ms I μ s Q .ret e O=Q .ret e O:=rfl
theorem qK:aC l K ks ms I μ s Q (.panic m) e O=Q (.panic m) e O:=rfl
theorem VC.ik (l K:List Nat) (ms: σ ->List MV) (I: σ ->VH->Prop) (μ : σ ->Nat) (s0: σ) (h0:looks e l=some (ms s0)) (hk:looks e K=some ks) (hI:I s0 O)
  (step:∀s O,I s O->VC P n D c (iI l (ms s) (iI K ks [])) O (aC l K ks ms I μ s Q)):VC P n D (.loop c) e O Q:=by
 refine VC.loop (fun k e O=>looks e K=some ks/\∃s,looks e l=some (ms s)/\I s O/\ μ s=k) (k:= μ s0) ⟨hk,s0,h0,hI,rfl⟩ ?_;rintro k e O ⟨hk,s,h1,h2,rfl⟩;refine VC.mono ?_ (VC.env (step s O h2) (gW (gW (e0:=[]) (fun t x h=>by simp[look]at h) hk) h1));intro x e' O' h
 cases x<;>first
  | exact h
  | (obtain⟨h6,s',h3,h4,h5⟩:=h;exact⟨_,h5,h6,s',h3,h4,rfl⟩)
end
abbrev ints (xs:List Int) (t:Tok):MV:=.sl xs.length (xs.map mi) t
abbrev Ot (xs:List Bool) (t:Tok):MV:=.sl xs.length (xs.map mb) t
abbrev strs (xs:List (List UInt8)) (t:Tok):MV:=.sl xs.length (xs.map .str) t
set_option linter.defProp false in
def XG:=And.intro @Option.map_none.{0,0}<|And.intro @Option.bind_none.{0,0}<|And.intro @uF<|And.intro @Du<|And.intro @Int.zero_sub<|And.intro @Bool.not_true<|And.intro @Bool.not_false<|And.intro @decide_true<|And.intro @decide_eq_true<|And.intro @decide_eq_false<|And.intro @Nat.zero_add<|And.intro @Nat.mul_one<|And.intro @Int.toNat_natCast<|And.intro @Nat.add_zero<|And.intro @List.set_cons_zero.{0}<|And.intro @List.set_cons_succ.{0}<|And.intro @List.take_succ_cons.{0}<|And.intro @List.take_zero.{0}<|And.intro @List.drop_succ_cons.{0}<|And.intro @List.drop_zero.{0}<|And.intro @List.getElem?_eq_getElem.{0}<|And.intro @List.getElem?_toArray.{0}<|And.intro @List.getElem?_cons_zero.{0}<|And.intro @List.getElem?_cons_succ.{0}<|And.intro @Option.bind_some.{0,0}<|And.intro @Option.map_some.{0,0}<|And.intro @List.map_cons.{0,0}<|And.intro @List.map_nil.{0,0}<|And.intro @List.getElem?_map.{0,0}<|And.intro @List.getElem_map.{0,0}<|And.intro @if_true.{1}<|And.intro @cond_true.{1} @cond_false.{1}
set_option linter.defProp false in
def XH:=And.intro @uu<|And.intro @yJ<|And.intro @Bz<|And.intro @w6<|And.intro @yP<|And.intro @yQ<|And.intro @BG<|And.intro @qK<|And.intro @Ij<|And.intro @N_<|And.intro @Ok<|And.intro @Tg<|And.intro @Kc<|And.intro @ur<|And.intro @yH<|And.intro @yI<|And.intro @By<|And.intro @qJ<|And.intro @Kd<|And.intro @Ke<|And.intro @Ol<|And.intro @Ik<|And.intro @Kn<|And.intro @if_true.{1} @if_false.{1}
section
variable {P:Program} {tab:bS} {n:Sz} {D:List Deferred} {md:Md} {l:List Oper} {Q:VQ} {L':List (Fl×Oper)} {e e':Env} {O O':VH} {c x y:Code} {A:Prop} {id:Nat} {fn:Func} {R:fB->VH->Prop} {m m':MV} {t t':Nat} {o:Operand} {b:Bool}
theorem gVC (h:VC P n D c e O Q):VC P n D c e O Q:=h
theorem gp (a:A) (q:VL P n D .plain ⟨l⟩ L' e' O' Q) (ht:aJ P tab:=by exact aa) (h:A->ij tab n ⟨l⟩ (l.map (Fl.one, ·)) e O=some (L',e',O'):=by intro z;simp(disch:=omega) only[XF,XG,ints,Ot,strs,cw,Nat.reduceLT,Nat.reduceAdd,Nat.reduceBEq,Int.reduceToNat,z]<;>exact rfl):VC P n D (.region id ⟨l⟩ false) e O Q:=VC.Rt (VL.run ht (h a) q)
theorem gr (a:A) (q:VL P n D .reads ⟨l⟩ L' e' O' Q) (ht:aJ P tab:=by exact aa) (h1:P.follows .mixedOrders=true:=by kernel_rfl) (h2:Region.noSelect ⟨l⟩=true:=by kernel_rfl) (h3:cz .reads ⟨l⟩ l.length (Array.replicate l.length false) ((List.range' 0 l.length).map (·,Fl.rd))=true:=by kernel_rfl) (h:A->ij tab n ⟨l⟩ (l.map (Fl.rd, ·)) e O=some (L',e',O'):=by intro z;simp(disch:=omega) only[XF,XG,ints,Ot,strs,cw,Nat.reduceLT,Nat.reduceAdd,Nat.reduceBEq,Int.reduceToNat,z]<;>exact rfl):VC P n D (.region id ⟨l⟩ true) e O Q:=VC.Rz h1 h2 h3 (VL.run ht (h a) q)
theorem gc (a:A) (h1:b=true->VC P n D x e O Q) (h2:b=false->VC P n D y e O Q) (h:A->ev e o=some (.v (.bool b)):=by intro z;simp(disch:=omega) only[XF,XG,ints,Ot,strs,cw,Nat.reduceLT,Nat.reduceAdd,Nat.reduceBEq,Int.reduceToNat,z]<;>exact rfl):VC P n D (.cond o x y) e O Q:=VC.cond (h a) h1 h2
theorem eR1 (q:R (.ret m) O) (h1:fn.results= #[.tmp t]:=by exact rfl) (h2:look e t=some m:=by simp only[lN,Nat.reduceBEq,cond_true,cond_false]<;>exact rfl):mI tab fn R .ret e O:=mI.ahx h1 h2 q
theorem eR2 (q:R (.ret (.tuple [m,m'])) O) (h1:fn.results= #[.tmp t,.tmp t']:=by exact rfl) (h2:look e t=some m:=by simp only[lN,Nat.reduceBEq,cond_true,cond_false]<;>exact rfl) (h3:look e t'=some m':=by simp only[lN,Nat.reduceBEq,cond_true,cond_false]<;>exact rfl):mI tab fn R .ret e O:=mI.ahy h1 h2 h3 q
end
set_option linter.defProp false in
def dcs:=And.intro @decide_eq_true_eq<|And.intro @decide_eq_false_iff_not<|And.intro @beq_iff_eq.{0}<|And.intro @beq_eq_false_iff_ne.{0}<|And.intro @bne_iff_ne.{0} @bne_eq_false_iff_eq.{0}
section
variable {G H:Gh} {n:Sz} {D:List Deferred} {e:Env} {a:Act} {P:Program} {tab:bS} {O O':VH} {w:World} {m m':MV} {u v:Value} {ops:Array Oper} {Q:VQ}
def Kq (P:Program) (n:Sz) (D:List Deferred) (o:Oper) (e:Env) (O:VH) (M:MV->VH->Prop):Prop:=∀G a w,WR G O w->FR G n D e a->∃m O',M m O'/\c_ P o a w G m O'
theorem gR.Dv {i:Nat} {l:List Nat} {o:Oper} {M:MV->VH->Prop} (ho:ops[i]?=some o) (hg:aK ops o e=some true) (hd:bf n o.dst=true) (hy:Kq P n D o e O M) (h:∀m O',M m O'->gR P n D ops l (aV o.dst m e) O' Q):
  gR P n D ops (i::l) e O Q:=by
 intro G a w hw aT;obtain⟨m,O',hM,nx,w',H,u,hr,r9,h1,h2,h3,_⟩:=hy G a w hw aT;simp only[wpOps,ho,a_ aT hg,if_true];refine .inl ?_;unfold Oper.wp;rw[hr]
 have hk:wpOps P ops (cf G n D Q) l (a.put o.dst u) w':=by
  exact lM (fun _ _ _=>cf.le h1) l _ _ (h m O' hM H (a.put o.dst u) w' h2 ((aT.mono h1).aV hd h3))
 rcases r9 with rfl | ⟨rfl,rfl⟩
 ·exact hk
 ·exact hk
theorem VL.Dv {o:Oper} {L:List (Fl×Oper)} {M:MV->VH->Prop} (hg:aK ops o e=some true) (hd:bf n o.dst=true) (hy:Kq P n D o e O M) (h:∀m O',M m O'->VL P n D .plain ops L (aV o.dst m e) O' Q):
  VL P n D .plain ops ((.one,o)::L) e O Q:=by
 intro fuel listed ix hf hp
 match ix,hf with
 | (i,g)::ix,hf=>
   obtain⟨rfl,ho,hf⟩:=hf;exact gR.Dv ho hg hd hy fun m O' hM=>h m O' hM 0 #[] ix hf (fun h=>absurd rfl h)
def fp (b:UInt8):MV:=.v (.int .u8 b.toNat)
theorem Il {α :Type} (l:Array α) (x: α) (f: α -> α):(l.push x).modify l.size f=l.push (f x):=by
 apply Array.ext_getElem?;intro i;simp only[Array.getElem?_modify,Array.getElem?_push];by_cases h:i=l.size
 ·subst h;simp
 ·rw[if_neg (Ne.symm h),if_neg h,if_neg h]
theorem Fx (w:World) (C:Array Value) (t:TypeId):(w.alloc (.cells C t)).freeze ⟨w.heap.size,C.size,none⟩ 1=w.alloc (.cells C t (C.size,C.size+1)):=by
 simp[World.freeze,World.alloc, -World.alloc_eq,Il]
theorem Dw (l:List UInt8):aL G (l.map fp) (l.map fun b=>Value.int .u8 b.toNat):=by
 induction l with
 | nil=>exact aL.nil
 | cons b l ih=>exact aL.cons (.v rfl) ih
theorem Tr (ht:aJ P tab) (h:WR G O w) {src dst el:TypeId} {l:List UInt8} (hs:(tab src).map cn.under=some .string) (hd:(tab dst).map cn.under=some (.slice el)) (he:(tab el).map cn.under=some (.int .u8)) (hl:l.length<=maxLen):
  ∃c,l.length<=c/\c<=maxLen/\gx P (convert src dst (.string ⟨⟨l⟩⟩)) w G (O.push (.cells (l.map fp))) (.bk O.next 0 l.length c):=by
 have bW:=Lib.run_convert_string_bytes w src dst el ⟨⟨l⟩⟩ (bq ht hs) (bq ht hd) (bq ht he);have n9:(⟨⟨l⟩⟩:ByteArray).size=l.length:=rfl;rw[n9]at bW;have gQ:=grownCap_ge w l.length 0 el;have hle:=grownCap_le_maxLen w l.length 0 el hl;refine⟨grownCap w l.length 0 el,gQ,hle,?_⟩
 have iA:(Lib.bytesCells w el ⟨⟨l⟩⟩).toList.take (l.map fp).length=l.map fun b=>Value.int .u8 b.toNat:=by
  simp[Lib.bytesCells]
 obtain⟨h1,h2⟩:=h.drew.W_ (cs:=l.map fp) (C:=Lib.bytesCells w el ⟨⟨l⟩⟩) ⟨el,((Lib.bytesCells w el ⟨⟨l⟩⟩).size,(Lib.bytesCells w el ⟨⟨l⟩⟩).size+1),.inr (Nat.le_refl _)⟩ (by rw[iA];exact Dw l);have hW:Lib.bytesWorld w el ⟨⟨l⟩⟩=w.drew.alloc (.cells (Lib.bytesCells w el ⟨⟨l⟩⟩) el ((Lib.bytesCells w el ⟨⟨l⟩⟩).size,(Lib.bytesCells w el ⟨⟨l⟩⟩).size+1)):=Fx w.drew _ _;rw[hW]at bW;exact⟨_,_,_,bW,h1,h2,.bk (aE _ _ _) gQ hle,fun k b hk=>ji.alloc h.drew _ k b hk⟩
theorem VL.bytes (ht:aJ P tab) {d:Option Tmp} {src dst el:TypeId} {x:Operand} {ty:TypeId} {ps:String} {af:Array Edge} {g:Option (Nat×Bool)} {L:List (Fl×Oper)} {l:List UInt8}
  (hg:aK ops (.mk d (.convert src dst x) ty ps af g) e=some true) (hx:ev e x=some (.str l)) (hs:(tab src).map cn.under=some .string) (nP:(tab dst).map cn.under=some (.slice el)) (he:(tab el).map cn.under=some (.int .u8)) (hl:l.length<=maxLen) (hd:bf n d=true)
  (h:∀c,l.length<=c->c<=maxLen->VL P n D .plain ops L (aV d (.bk O.next 0 l.length c) e) (O.push (.cells (l.map fp))) Q):
  VL P n D .plain ops ((.one,.mk d (.convert src dst x) ty ps af g)::L) e O Q:=by
 refine VL.Dv (M:=fun m O'=>∃c,l.length<=c/\c<=maxLen/\m= .bk O.next 0 l.length c/\O'=O.push (.cells (l.map fp))) hg hd (fun G a w hw hf=>?_) ?_
 ·have h1:=hf.ev hx;generalize hu:a.eval x=u at h1;cases h1;obtain⟨c,c1,c2,c3⟩:=Tr (P:=P) ht hw hs nP he hl;exact⟨_,_,⟨c,c1,c2,rfl,rfl⟩,c_.of c3 (by simp[execOp,hu])⟩
 ·rintro m O' ⟨c,c1,c2,rfl,rfl⟩;exact h c c1 c2
theorem Kr (l:List UInt8):∀s:List UInt8,(l.map fun b=>(b.toNat:Int)).foldl (fun(r:ByteArray) (n:Int)=>r.push (UInt8.ofNat n.toNat)) ⟨⟨s⟩⟩=⟨⟨s++l⟩⟩:=by
 induction l with
 | nil=>intro s;simp
 | cons b l ih=>
   intro s;rw[List.map_cons,List.foldl_cons]
   have:(⟨⟨s⟩⟩:ByteArray).push (UInt8.ofNat (b.toNat:Int).toNat)=⟨⟨s++[b]⟩⟩:=by
    simp[ByteArray.push]
   rw[this,ih,List.append_assoc];rfl
theorem Dx (a:Addr) (l:List UInt8) (c:Nat) (w:World) (h:∀j v,(l.map fun b=>Value.int .u8 b.toNat)[j]?=some v->w.cell? (a.add j)=some v):
  (Conv.bytesToString (.slice (some a) l.length c)).run P w= .ok (.string ⟨⟨l⟩⟩) w:=by
 have h1:=run_loadCells_list (P:=P) w a (l.map fun b=>Value.int .u8 b.toNat) h;rw[List.length_map]at h1;rw[run_bytesToString (P:=P) w a l.length c (l.map fun b=>(b.toNat:Int)) (by rw[h1,List.map_map];rfl)];rw[show(ByteArray.empty:ByteArray)=⟨⟨[]⟩⟩from rfl,Kr];rfl
theorem Kt {l:List UInt8} {us:List Value} (h:aL G (l.map fp) us):us=l.map fun b=>Value.int .u8 b.toNat:=by
 induction l generalizing us with
 | nil=>exact h.gL
 | cons b l ih=>
   obtain⟨u,S5,rfl,h1,h2⟩:=h.dZ;rw[ih h2,h1.ie];rfl
theorem Ts (ht:aJ P tab) (h:WR G O w) {src dst el:TypeId} {tk:Tok} {l:List UInt8} (hs:(tab src).map cn.under=some (.slice el)) (hd:(tab dst).map cn.under=some .string) (he:(tab el).map cn.under=some (.int .u8))
  (hx:VR G (.sl l.length (l.map fp) tk) u):gx P (convert src dst u) w G O (.str l):=by
 have hc:=fun a n c=>run_convert_bytes_string (P:=P) w src dst el a n c (bq ht hs) (bq ht he) (bq ht hd)
 refine⟨.string ⟨⟨l⟩⟩,w,G,?_,Gh.Le.refl G,h,.str,ji.refl _ _⟩;generalize hn:l.length=k at hx;generalize hm:l.map fp=cs at hx;cases hx with
 | slnil=>
   obtain rfl:l=[]:=List.eq_nil_of_length_eq_zero hn;rw[hc];rfl
 | jS=>
   obtain rfl:l=[]:=List.eq_nil_of_length_eq_zero hn;rw[hc];rfl
 | nZ=>
   obtain rfl:l=[]:=List.eq_nil_of_length_eq_zero hn;rw[hc];exact Dx _ [] _ w fun j v hv=>by simp at hv
 | sl h1 h2 h3 h4 h5 h6=>
   rename_i us c b o;subst hn hm;have h7:=Kt (us:=us) ⟨h1,h3⟩;rw[hc];refine Dx _ l c w fun j v hv=>?_
   rw[<-h7]at hv;rw[Addr.add_lit];exact h.dT _ _ _ (h2 j v hv)
theorem VL.XI (ht:aJ P tab) {d:Option Tmp} {src dst el:TypeId} {x:Operand} {ty:TypeId} {ps:String} {af:Array Edge} {g:Option (Nat×Bool)} {L:List (Fl×Oper)} {nn:Nat} {cs:List MV} {tk:Tok} {l:List UInt8}
  (hg:aK ops (.mk d (.convert src dst x) ty ps af g) e=some true) (hx:ev e x=some (.sl nn cs tk)) (hs:(tab src).map cn.under=some (.slice el)) (nP:(tab dst).map cn.under=some .string) (he:(tab el).map cn.under=some (.int .u8)) (hn:nn=l.length) (iA:cs=l.map fp) (hd:bf n d=true)
  (h:VL P n D .plain ops L (aV d (.str l) e) O Q):VL P n D .plain ops ((.one,.mk d (.convert src dst x) ty ps af g)::L) e O Q:=by
 subst hn iA;refine VL.Dv (M:=fun m O'=>m= .str l/\O'=O) hg hd (fun G a w hw hf=>?_) ?_
 ·exact⟨_,_,⟨rfl,rfl⟩,c_.of (Ts (P:=P) ht hw hs nP he (hf.ev hx)) (by simp[execOp])⟩
 ·rintro m O' ⟨rfl,rfl⟩;exact h
end
section
variable {n:Sz} {D:List Deferred} {e e':Env} {P:Program} {tab:bS} {O O':VH} {m m':MV} {ops:Array Oper} {Q:VQ} {md:Md}
def cg:Op->Bool
 | .call c=>match c.callee with
   | .value _=>true
   | .builtin .append=>true
   | _=>false
 | _=>false
def Fy:Fl->Bool
 | .fk=>true
 | _=>false
def afZ (P:Program) (n:Sz) (Q:VQ) (d:Option Tmp) (O:VH) (K:Env->VH->Prop) (e:Env) (fv:Option MV) (ms:Option (List MV)):Prop:=
 ∃id fs cs l R,fv=some (.func (.func id) fs cs)/\ms=some l/\Enters P id/\bf n d=true/\VF P id (fs++l++cs) O R/\∀r O',R r O'->match r with
  | .ret m=>K (aV d m e) O'
  | .panic m=>Q (.panic m) (j_ n e) O'
def eb (P:Program) (id:FuncId) (l:List MV) (O:VH) (M:MV->VH->Prop):Prop:=
 ∀G w vs,WR G O w->aL G l vs->∃m O' u w' H,M m O'/\(callFunc id vs.toArray).run P w= .ok (.value u) w'/\Gh.Le G H/\WR H O' w'/\VR H m u
def iJ:Md->Bool
 | .plain=>true
 | _=>false
def af0 (P:Program) (n:Sz) (md:Md) (d:Option Tmp) (O:VH) (K:Env->VH->Prop) (e:Env) (fv:Option MV) (ms:Option (List MV)):Prop:=
 ∃id l M,iJ md=true/\fv=some (.func (.func id) [] [])/\ms=some l/\bf n d=true/\eb P id l O M/\∀m O',M m O'->K (aV d m e) O'
def ah (P:Program) (n:Sz) (md:Md) (Q:VQ) (d:Option Tmp) (O:VH) (K:Env->VH->Prop) (e:Env) (fv:Option MV) (ms:Option (List MV)):Prop:=
 afZ P n Q d O K e fv ms\/af0 P n md d O K e fv ms
def uG (P:Program) (n:Sz) (D:List Deferred) (md:Md) (ops:Array Oper) (Q:VQ) (f:Fl) (o:Oper) (L:List (Fl×Oper)) (e:Env) (O:VH) (K:Env->VH->Prop):Prop:=
 match f,o.op with
 | .one,.call c=>match c.callee with
   | .value x=>ah P n md Q o.dst O K e (ev e x) (fu e c.args.toList)
   | _=>VL P n D md ops ((f,o)::L) e O Q
 | _,_=>VL P n D md ops ((f,o)::L) e O Q
theorem VL.ext {o:Oper} {c:Call} {x:Operand} {id:FuncId} {ms:List MV} {M:MV->VH->Prop} {L:List (Fl×Oper)} (hg:aK ops o e=some true) (ui:o.op= .call c) (hc:c.callee= .value x) (hf:ev e x=some (.func (.func id) [] [])) (hm:fu e c.args.toList=some ms) (hd:bf n o.dst=true)
  (hx:eb P id ms O M) (h:∀m O',M m O'->VL P n D .plain ops L (aV o.dst m e) O' Q):VL P n D .plain ops ((.one,o)::L) e O Q:=by
 intro fuel listed ix rp hp
 match ix,rp with
 | (i,g)::ix,rp=>
   obtain⟨rfl,ho,rp⟩:=rp;intro G a w hw aT;have uj:=aT.ev hf;generalize Ax:a.eval x=fv at uj;cases uj with
   | func h1 h2 h3 h4=>
     rename_i us vs;have iH:us=[]:=List.eq_nil_of_length_eq_zero h1;have nO:vs=[]:=List.eq_nil_of_length_eq_zero h3;subst iH;subst nO
     have gI:=aT.fu hm;obtain⟨m,O',u,w',H,hM,hr,g1,g2,g3⟩:=hx G w _ hw gI
     have bW:(execOp a.eval o).run P w= .ok (.value u) w':=by
      have ha: #[]++c.args.map a.eval++ #[]=(c.args.toList.map a.eval).toArray:=by apply Array.ext';simp
      simp only[execOp,ui,resolve,hc,Ax,Deferred.ofValue,Sem.run_bind,Sem.run_pure,Result.andThen_ok,invoke];rw[ha];exact hr
     simp only[List.map_cons,wpOps,ho,a_ aT hg,if_true];refine .inl ?_;unfold Oper.wp;rw[bW];exact lM (fun _ _ _=>cf.le g1) (ix.map (·.1)) _ _ (h m O' hM 0 #[] ix rp (fun h=>absurd rfl h) H (a.put o.dst u) w' g2 ((aT.mono g1).aV hd g3))
theorem uG.sound {f:Fl} {o:Oper} {L:List (Fl×Oper)} {K:Env->VH->Prop} (hK:∀e O,K e O->VL P n D md ops L e O Q) (hg:aK ops o e=some true) (h:uG P n D md ops Q f o L e O K):VL P n D md ops ((f,o)::L) e O Q:=by
 obtain⟨d,op,ty,ps,af,g⟩:=o;cases f with
 | one=>
   cases op with
   | call c=>
     obtain⟨cl,as_,ts⟩:=c;cases cl with
     | value x=>
       rcases h with h | h
       ·obtain⟨id,fs,cs,l,R,h1,h2,h3,h4,h5,h6⟩:=h;refine VL.call hg h1 h2 rfl h3 h4 h5 fun r O' hr=>?_
        have:=h6 r O' hr;cases r with
        | ret m=>exact hK _ _ this
        | panic m=>exact this
       ·obtain⟨id,l,M,hp,h1,h2,h3,h4,h5⟩:=h;cases md with
        | plain=>exact VL.ext hg rfl rfl h1 h2 h3 h4 fun m O' hM=>hK _ _ (h5 m O' hM)
        | _=>cases hp
     | _=>exact h
   | _=>exact h
 | _=>exact h
def WL (P:Program) (tab:bS) (n:Sz) (D:List Deferred) (md:Md) (ops:Array Oper) (Q:VQ):List (Fl×Oper)->Env->VH->Prop
 | [],e,O=>Q .normal e O
 | (f,o)::L,e,O=>match aK ops o e with
   | none=>False
   | some false=>(match bf n o.dst&& !Fy f with
     | true=>WL P tab n D md ops Q L (aV o.dst cw e) O
     | false=>False)
   | some true=>(match cg o.op||Fy f with
     | true=>uG P n D md ops Q f o L e O (WL P tab n D md ops Q L)
     | false=>(match gV tab f o e O with
       | none=>VL P n D md ops ((f,o)::L) e O Q
       | some (m,O')=>(match bf n o.dst with
         | true=>WL P tab n D md ops Q L (aV o.dst m e) O'
         | false=>False)))
theorem WL.sound (ht:aJ P tab):∀{L:List (Fl×Oper)} {e:Env} {O:VH},WL P tab n D md ops Q L e O->VL P n D md ops L e O Q
 | [],e,O,h=>VL.nil h
 | (f,o)::L,e,O,h=>by
   rw[WL]at h;split at h
   ·exact h.elim
   ·rename_i hg;split at h
    ·rename_i hd;simp only[Bool.and_eq_true,Bool.not_eq_true']at hd;exact VL.skip (by rintro rfl;exact absurd hd.2 (by decide)) hg hd.1 (WL.sound ht h)
    ·exact h.elim
   ·rename_i hg;split at h
    ·exact uG.sound (fun e O h=>WL.sound ht h) hg h
    ·split at h
     ·exact h
     ·split at h
      ·exact VL.step ht hg ‹_› ‹_› (WL.sound ht h)
      ·exact h.elim
def Dy (P:Program) (n:Sz) (tab:bS) (D:List Deferred) (A B:Env->VH->VQ->Prop) (e:Env) (O:VH) (Q:VQ):Option MV->Prop
 | some (.v (.bool true))=>A e O Q
 | some (.v (.bool false))=>B e O Q
 | _=>False
def WC (P:Program) (tab:bS) (n:Sz) (D:List Deferred):Code->Env->VH->VQ->Prop
 | .skip,e,O,Q=>Q .normal e O
 | .exit i,e,O,Q=>Q (.exit i) e O
 | .label _,e,O,Q=>Q .normal e O
 | .ret,e,O,Q=>Q .ret e O
 | .scope c,e,O,Q=>WC P tab n D c e O (r_ Q)
 | .block id c,e,O,Q=>WC P tab n D c e O (gU id Q)
 | .seq a b,e,O,Q=>WC P tab n D a e O fun x e O=>match x with
   | .normal=>WC P tab n D b e O Q
   | x=>Q x e O
 | .cond c x y,e,O,Q=>Dy P n tab D (WC P tab n D x) (WC P tab n D y) e O Q (ev e c)
 | .region id ops false,e,O,Q=>WL P tab n D .plain ops Q (ops.toList.map (Fl.one, ·)) e O
 | c,e,O,Q=>VC P n D c e O Q
theorem WC.sound (ht:aJ P tab):∀{c:Code} {e:Env} {O:VH} {Q:VQ},WC P tab n D c e O Q->VC P n D c e O Q:=by
 intro c;induction c with
 | skip=>intro e O Q h;exact VC.skip h
 | exit i=>intro e O Q h;exact VC.exit h
 | label l=>intro e O Q h;exact VC.label h
 | ret=>intro e O Q h;exact VC.ret h
 | scope c ih=>intro e O Q h;exact VC.scope (ih h)
 | block id c ih=>intro e O Q h;exact VC.aD (ih h)
 | seq a b iha ihb=>
   intro e O Q h;refine VC.seq (VC.mono ?_ (iha h));intro x e O hx;cases x<;>first | exact ihb hx | exact hx
 | cond c x y ihx ihy=>
   intro e O Q h;simp only[WC]at h;unfold Dy at h;split at h
   ·rename_i he;exact VC.Ih he (ihx h)
   ·rename_i he;exact VC.afX he (ihy h)
   ·exact h.elim
 | region id ops dr=>
   intro e O Q h;cases dr with
   | true=>exact h
   | false=>obtain⟨l⟩:=ops;exact VC.Rt (WL.sound ht h)
 | loop c ih=>intro e O Q h;exact h
 | _=>intro e O Q h;exact h
def qo (K:Env->VH->Prop) (Q:VQ):VQ:=fun x e O=>match x with
 | .normal=>K e O
 | x=>Q x e O
def gX (tab:bS) (e:Env) (O:VH):List ResultVar->Option (List MV)
 | []=>some []
 | r::rs=>(jz tab e O r).bind fun m=>(gX tab e O rs).map (m:: ·)
def iy (R:fB->VH->Prop) (O:VH):Option (List MV)->Prop
 | none=>False
 | some [m]=>R (.ret m) O
 | some l=>R (.ret (.tuple l)) O
def BH (tab:bS) (rs:List ResultVar) (R:fB->VH->Prop):VQ:=fun x e O=>match x with
 | .normal=>iy R O (gX tab e O rs)
 | .ret=>iy R O (gX tab e O rs)
 | .panic m=>R (.panic m) O
 | _=>False
theorem rq (rs:List ResultVar):gX tab e O rs=rs.mapM (jz tab e O):=by
 induction rs with
 | nil=>rfl
 | cons r rs ih=>
   rw[gX,ih,List.mapM_cons];simp only[Option.bind_eq_bind];cases jz tab e O r with
   | none=>rfl
   | some m=>simp only[Option.bind_some];cases List.mapM (jz tab e O) rs<;>rfl
theorem VF.ofW (ht:aJ P tab) {f:FuncId} {fn:Func} {c:Code} {args:List MV} {rs:List ResultVar} {R:fB->VH->Prop} (hf:P.funcs[f]?=some fn) (hb:fn.body=some c) (hk:(⟨fn.ntmps,0⟩:Sz)=n) (hr:fn.results.toList=rs) (hn:args.length<=n.n)
  (h:WC P tab n [] c (cc 0 args) O (BH tab rs R)):VF P f args O R:=by
 subst hk;refine VF.enter ht hf hb hn (VC.mono ?_ (WC.sound ht h));intro x e O hx
 have key:iy R O (gX tab e O rs)->∃m,cX tab fn e O=some m/\R (.ret m) O:=fun h=>by
  unfold cX;rw[hr, <-rq];generalize gX tab e O rs=z at h;unfold iy at h;split at h
  ·exact h.elim
  ·exact⟨_,rfl,h⟩
  ·rename_i l hl;refine⟨.tuple l,?_,h⟩
   match l,hl with
   | [],_=>rfl
   | [m],hl=>exact absurd rfl (hl m)
   | _::_::_,_=>rfl
 cases x<;>first | exact key hx | exact hx
theorem VF.dh {f:FuncId} {fn:Func} {c:Code} {args:List MV} {R:fB->VH->Prop} {Q':Prop} (k:Nat) (rs:List ResultVar) (hf:P.funcs[f]?=some fn) (q:Q') (ht:aJ P tab:=by exact aa) (hb:fn.body=some c:=by exact rfl) (hk:(⟨fn.ntmps,0⟩:Sz)=⟨k,0⟩:=by exact rfl) (hr:fn.results.toList=rs:=by exact rfl) (hn:args.length<=k:=by exact Nat.le_of_ble_eq_true rfl) (h:WC P tab ⟨k,0⟩ [] c (cc 0 args) O (BH tab rs R)=Q':=by conv=>lhs;simp only[cc,Nat.zero_add,Nat.reduceAdd]):VF P f args O R:=VF.ofW ht hf hb hk hr hn (h.mpr q)
def W3 (P:Program) (tab:bS) (n:Sz) (D:List Deferred) (md:Md) (ops:Array Oper) (Q:VQ) (L:List (Fl×Oper)) (e:Env) (O:VH):Bool->Prop
 | true=>WL P tab n D md ops Q L e O
 | false=>False
def W2 (P:Program) (tab:bS) (n:Sz) (D:List Deferred) (md:Md) (ops:Array Oper) (Q:VQ) (f:Fl) (o:Oper) (L:List (Fl×Oper)) (e:Env) (O:VH):Option (MV×VH)->Prop
 | some (m,O')=>W3 P tab n D md ops Q L (aV o.dst m e) O' (bf n o.dst)
 | none=>VL P n D md ops ((f,o)::L) e O Q
def W1 (P:Program) (tab:bS) (n:Sz) (D:List Deferred) (md:Md) (ops:Array Oper) (Q:VQ) (f:Fl) (o:Oper) (L:List (Fl×Oper)) (e:Env) (O:VH):Bool->Option Bool->Prop
 | _,none=>False
 | true,some true=>uG P n D md ops Q f o L e O (WL P tab n D md ops Q L)
 | false,some true=>W2 P tab n D md ops Q f o L e O (gV tab f o e O)
 | _,some false=>W3 P tab n D md ops Q L (aV o.dst cw e) O (bf n o.dst&& !Fy f)
section
variable {f:Fl} {o:Oper} {L:List (Fl×Oper)} {d:Option Tmp} {p:Op} {ty:TypeId} {ps:String} {af:Array Edge} {g:Option (Nat×Bool)} {b:Bool}
theorem ab6:WL P tab n D md ops Q [] e O=Q .normal e O:=rfl
theorem XJ:WL P tab n D md ops Q ((f,.mk d p ty ps af g)::L) e O=W1 P tab n D md ops Q f (.mk d p ty ps af g) L e O (cg p||Fy f) (aK ops (.mk d p ty ps af g) e):=by
 rw[WL];generalize aK ops (.mk d p ty ps af g) e=x;unfold W1;cases x with
 | none=>rfl
 | some b=>
   cases b with
   | false=>
     simp only;unfold W3;split<;>simp only
     all_goals (split<;>rename_i h<;>simp_all)
   | true=>
     simp only;generalize (cg p||Fy f)=y;cases y with
     | true=>rfl
     | false=>
       simp only;unfold W2;cases gV tab f (.mk d p ty ps af g) e O with
       | none=>rfl
       | some r=>unfold W3;cases bf n d<;>rfl
theorem XK:W1 P tab n D md ops Q f o L e O true (some true)=uG P n D md ops Q f o L e O (WL P tab n D md ops Q L):=rfl
theorem af1:W1 P tab n D md ops Q f o L e O false (some true)=W2 P tab n D md ops Q f o L e O (gV tab f o e O):=rfl
theorem XL:W1 P tab n D md ops Q f (.mk d p ty ps af g) L e O b (some false)=W3 P tab n D md ops Q L (aV d cw e) O (bf n d&& !Fy f):=by cases b<;>rfl
theorem XM:W2 P tab n D md ops Q f (.mk d p ty ps af g) L e O (some (m,O'))=W3 P tab n D md ops Q L (aV d m e) O' (bf n d):=rfl
theorem XN:W2 P tab n D md ops Q f o L e O none=VL P n D md ops ((f,o)::L) e O Q:=rfl
theorem XO:W3 P tab n D md ops Q L e O true=WL P tab n D md ops Q L e O:=rfl
variable {K:Env->VH->Prop} {x:Operand} {as_:Array Operand} {ts:Array TypeId}
theorem Ku:uG P n D md ops Q .one (.mk d (.call {callee:=.value x,args:=as_,argTypes:=ts}) ty ps af g) L e O K=ah P n md Q d O K e (ev e x) (fu e as_.toList):=rfl
theorem FB:uG P n D md ops Q f (.mk d (.call {callee:=.builtin .append,args:=as_,argTypes:=ts}) ty ps af g) L e O K=VL P n D md ops ((f,.mk d (.call {callee:=.builtin .append,args:=as_,argTypes:=ts}) ty ps af g)::L) e O Q:=by cases f<;>rfl
end
section
variable {c a b:Code} {i id:Nat} {A B:Env->VH->VQ->Prop} {l:List Oper} {K:Env->VH->Prop} {R:fB->VH->Prop} {rs:List ResultVar} {r:ResultVar} {t:Nat} {m1 m2 m3:MV} {x:Operand} {y:Code}
theorem XP:WC P tab n D .skip e O Q=Q .normal e O:=rfl
theorem XQ:WC P tab n D (.exit i) e O Q=Q (.exit i) e O:=rfl
theorem Tt:WC P tab n D (.label i) e O Q=Q .normal e O:=rfl
theorem ab7:WC P tab n D .ret e O Q=Q .ret e O:=rfl
theorem Tu:WC P tab n D (.scope c) e O Q=WC P tab n D c e O (r_ Q):=rfl
theorem Tv:WC P tab n D (.block id c) e O Q=WC P tab n D c e O (gU id Q):=rfl
def XS (P:Program) (tab:bS) (n:Sz) (D:List Deferred) (b:Code) (Q:VQ):Env->VH->Prop:=fun e O=>WC P tab n D b e O Q
theorem Tw:XS P tab n D b Q e O=WC P tab n D b e O Q:=rfl
theorem ab8:WC P tab n D (.seq a b) e O Q=WC P tab n D a e O (qo (XS P tab n D b Q) Q):=rfl
theorem XT:WC P tab n D (.cond x a b) e O Q=Dy P n tab D (WC P tab n D a) (WC P tab n D b) e O Q (ev e x):=rfl
theorem Ou:WC P tab n D (.region id ⟨l⟩ false) e O Q=WL P tab n D .plain ⟨l⟩ Q (l.map (Fl.one, ·)) e O:=rfl
theorem Tx:WC P tab n D (.region id ops true) e O Q=VC P n D (.region id ops true) e O Q:=rfl
theorem XU:WC P tab n D (.loop c) e O Q=VC P n D (.loop c) e O Q:=rfl
theorem Im:qo K Q .normal e O=K e O:=rfl
theorem Ov:qo K Q (.exit i) e O=Q (.exit i) e O:=rfl
theorem Ow:qo K Q (.goto i) e O=Q (.goto i) e O:=rfl
theorem Ty:qo K Q .ret e O=Q .ret e O:=rfl
theorem BI:qo K Q (.panic m) e O=Q (.panic m) e O:=rfl
theorem XV:Dy P n tab D A B e O Q (some (.v (.bool true)))=A e O Q:=rfl
theorem XW:Dy P n tab D A B e O Q (some (.v (.bool false)))=B e O Q:=rfl
theorem Tz:gX tab e O []=some []:=rfl
theorem Oy:gX tab e O (r::rs)=(jz tab e O r).bind fun m=>(gX tab e O rs).map (m:: ·):=rfl
theorem Io:jz tab e O (.tmp t)=look e t:=rfl
theorem FC {ty:TypeId}:jz tab e O (.cell t ty)=(look e t).bind (eD tab O ty):=rfl
theorem ab9:iy R O (some [])=R (.ret (.tuple [])) O:=rfl
theorem ab_:iy R O (some [m])=R (.ret m) O:=rfl
theorem aca:iy R O (some [m,m1])=R (.ret (.tuple [m,m1])) O:=rfl
theorem acb:iy R O (some [m,m1,m2])=R (.ret (.tuple [m,m1,m2])) O:=rfl
theorem acd:iy R O (some [m,m1,m2,m3])=R (.ret (.tuple [m,m1,m2,m3])) O:=rfl
theorem Ip:BH tab rs R .normal e O=iy R O (gX tab e O rs):=rfl
theorem TA:BH tab rs R .ret e O=iy R O (gX tab e O rs):=rfl
theorem Kv:BH tab rs R (.panic m) e O=R (.panic m) O:=rfl
def di (P:Program) (f:FuncId):Bool:=match P.funcs[f]? with
 | some fn=> !(fn.name== "runtime.NumGoroutine")&&fn.body.isSome
 | none=>false
theorem Enters.sf {f:FuncId} (h:di P f=true):Enters P f:=by
 unfold di at h;split at h
 ·rename_i fn hf;simp only[Bool.and_eq_true,Bool.not_eq_true']at h;exact Enters.of hf h.1 (by cases hb:fn.body with | none=>rw[hb]at h;exact absurd h.2 (by decide) | some c=>rfl)
 ·cases h
theorem ah.rt {f:FuncId} {fs cs ms as_:List MV} {d:Option Tmp} {Φ :MV->VH->Prop} (hR:VF P f as_ O (aI Φ)) (h:∀m O', Φ m O'->K (aV d m e) O') (hb:di P f=true:=by kernel_rfl) (ha:fs++ms++cs=as_:=by exact rfl) (hd:bf n d=true:=by exact rfl):
  ah P n md Q d O K e (some (.func (.func f) fs cs)) (some ms):=by
 subst ha
 exact .inl ⟨f,fs,cs,ms,_,rfl,rfl,Enters.sf hb,hd,hR,fun r O' hr=>by
  cases r with
  | ret m=>exact h m O' hr
  | panic m=>exact hr.elim⟩
theorem ah.p {f:FuncId} {fs cs ms as_:List MV} {d:Option Tmp} {R:fB->VH->Prop} (hR:VF P f as_ O R) (h:∀m O',R (.ret m) O'->K (aV d m e) O') (h2:∀m O',R (.panic m) O'->Q (.panic m) (j_ n e) O') (hb:di P f=true:=by kernel_rfl) (ha:fs++ms++cs=as_:=by exact rfl) (hd:bf n d=true:=by exact rfl):
  ah P n md Q d O K e (some (.func (.func f) fs cs)) (some ms):=by
 subst ha
 exact .inl ⟨f,fs,cs,ms,R,rfl,rfl,Enters.sf hb,hd,hR,fun r O' hr=>by
  cases r with
  | ret m=>exact h m O' hr
  | panic m=>exact h2 m O' hr⟩
theorem ah.ext {f:FuncId} {ms:List MV} {d:Option Tmp} {M:MV->VH->Prop} (hx:eb P f ms O M) (hd:bf n d=true) (h:∀m O',M m O'->K (aV d m e) O'):ah P n .plain Q d O K e (some (.func (.func f) [] [])) (some ms):=
 .inr ⟨f,ms,M,rfl,rfl,rfl,hd,hx,h⟩
theorem eb.of {f:FuncId} {fn:Func} {ex:Array Value->Sem Value} {ms:List MV} (hf:P.funcs[f]?=some fn) (af2:(fn.name== "runtime.NumGoroutine")=false) (hb:fn.body.isNone=true) (hn:Extern.findNext fn=none) (he:Extern.find fn=some ex)
  (hr:∀G w vs,WR G O w->aL G ms vs->∃u,(ex vs.toArray).run P w= .ok u w/\VR G m u):eb P f ms O fun m' O'=>m'=m/\O'=O:=by
 intro G w vs hw hv;obtain⟨u,h1,h2⟩:=hr G w vs hw hv;exact⟨m,O,u,w,G,⟨rfl,rfl⟩,by rw[run_callFunc_extern hf af2 hb hn he,h1];rfl,Gh.Le.refl G,hw,h2⟩
theorem WC.reads {id:Nat} {l:List Oper}
  (h:WL P tab n D .reads ⟨l⟩ Q (l.map (Fl.rd, ·)) e O) (ht:aJ P tab:=by exact aa) (hm:P.follows .mixedOrders=true:=by kernel_rfl) (hs:Region.noSelect ⟨l⟩=true:=by kernel_rfl) (hp:cz .reads ⟨l⟩ l.length (Array.replicate l.length false) ((List.range' 0 l.length).map (·,Fl.rd))=true:=by kernel_rfl):VC P n D (.region id ⟨l⟩ true) e O Q:=VC.Rz hm hs hp (WL.sound ht h)
theorem WC.bI (md:Md) (ix:List (Nat×Fl)) {id:Nat} {l:List Oper} {L:List (Fl×Oper)}
  (h:WL P tab n D md ⟨l⟩ Q L e O) (ht:aJ P tab:=by exact aa) (hne:md≠ .plain:=by simp) (hm:P.follows .mixedOrders=true:=by kernel_rfl) (hs:Region.noSelect ⟨l⟩=true:=by kernel_rfl) (hp:cz md ⟨l⟩ l.length (Array.replicate l.length false) ix=true:=by kernel_rfl) (hL:nw l ix=some L:=by exact rfl):VC P n D (.region id ⟨l⟩ true) e O Q:=VC.Ru md ix hne hm hs hp hL (WL.sound ht h)
variable {σ :Type} {ls Ks:List Nat} {ks:List MV} {ms: σ ->List MV} {I: σ ->VH->Prop} {μ : σ ->Nat} {s: σ}
theorem WC.ik (ls Ks:List Nat) (ms: σ ->List MV) (I: σ ->VH->Prop) (μ : σ ->Nat) (s0: σ) (hI:I s0 O)
  (step:∀s O,I s O->WC P tab n D c (iI ls (ms s) (iI Ks ks [])) O (aC ls Ks ks ms I μ s Q)) (ht:aJ P tab:=by exact aa) (h0:looks e ls=some (ms s0):=by exact rfl) (hk:looks e Ks=some ks:=by exact rfl):VC P n D (.loop c) e O Q:=
 VC.ik ls Ks ms I μ s0 h0 hk hI fun s O h=>WC.sound ht (step s O h)
end
theorem VL.app {d:Option Tmp} {x y:Operand} {t ty:TypeId} {ps:String} {af:Array Edge} {g:Option (Nat×Bool)} {L:List (Fl×Oper)} {p q:MV} (hv:gP tab O t p q=some (m,O')) (h:WL P tab n D md ops Q L (aV d m e) O') (ht:aJ P tab:=by exact aa) (hx:ev e x=some p:=by exact rfl) (hy:ev e y=some q:=by exact rfl) (hg:aK ops (.mk d (.call {callee:=.builtin .append,args:= #[x,y],argTypes:= #[t,t]}) ty ps af g) e=some true:=by exact rfl) (hd:bf n d=true:=by exact rfl):
  VL P n D md ops ((.one,.mk d (.call {callee:=.builtin .append,args:= #[x,y],argTypes:= #[t,t]}) ty ps af g)::L) e O Q:=
 VL.step ht hg (by rw[vW,cI,hx,hy];exact hv) hd (WL.sound ht h)
end
section
variable {G H:Gh} {n:Sz} {D:List Deferred} {e:Env} {a:Act} {P:Program} {tab:bS} {O O':VH} {w:World} {m m':MV} {u v:Value} {ops:Array Oper} {Q:VQ} {md:Md}
def fC (P:Program) (n:Sz) (D:List Deferred) (o:Oper) (e:Env) (O:VH) (M:MV->VH->Prop):Prop:=
 ∀G a w,WR G O w->FR G n D e a->∃m O' u w' H,M m O'/\(execOp a.eval o).run P w= .ok (.value u) w'/\Gh.Le G H/\WR H O' w'/\VR H m u
theorem aH.fD {i:Nat} {o:Oper} {M:MV->VH->Prop} {K:Env->VH->Prop} (ho:ops[i]?=some o) (hg:aK ops o e=some true) (hd:bf n o.dst=true) (hy:fC P n D o e O M) (h:∀m O',M m O'->K (aV o.dst m e) O'):aH P n D ops i e O Q K:=by
 intro G a w hw aT;obtain⟨m,O',u,w',H,hM,hr,h1,h2,h3⟩:=hy G a w hw aT;simp only[wpOp,ho,a_ aT hg,if_true];refine .inl ?_;unfold Oper.wp;rw[hr];exact⟨_,_,H,h1,h2,(aT.mono h1).aV hd h3,h _ _ hM⟩
theorem VL.fD {o:Oper} {L:List (Fl×Oper)} {M:MV->VH->Prop} (hg:aK ops o e=some true) (hd:bf n o.dst=true) (hA:Fs o.op=true->∀brk,md= .held brk->brk≠[]) (hb:∀brk,md= .held brk->Fs o.op=false\/brk≠[]) (hy:fC P n D o e O M)
  (o7:∀brk,md= .held brk->∀i,ops[i]?=some o->brk.contains i=true) (h:∀m O',M m O'->VL P n D md ops L (aV o.dst m e) O' Q):VL P n D md ops ((.one,o)::L) e O Q:=by
 intro fuel listed ix hf hp
 match ix,hf with
 | (i,g)::ix,hf=>
   obtain⟨rfl,ho,hf⟩:=hf;cases md with
   | plain=>exact gR.one (aH.fD ho hg hd hy fun m O' hM=>h m O' hM 0 #[] ix hf (fun h=>absurd rfl h))
   | any=>
     obtain⟨h1,h2⟩:=hp (by simp);cases fuel with
     | zero=>cases h2
     | succ fuel=>
       simp only[cz,Bool.and_eq_true]at h2;have hr:Region.ready .any ops listed=[i]:=by simpa using h2.1
       exact bX.all hr (by simp) fun j hj=>by
        obtain rfl:j=i:=by simpa using hj
        exact aH.fD ho hg hd hy fun m O' hM=>h m O' hM fuel (listed.setIfInBounds j true) ix hf (fun _=>⟨h1,h2.2⟩)
   | reads=>
     obtain⟨h1,h2⟩:=hp (by simp);cases fuel with
     | zero=>cases h2
     | succ fuel=>
       simp only[cz,Bool.and_eq_true]at h2;exact absurd h2.1 (by simp)
   | held brk=>
     obtain⟨h1,h2⟩:=hp (by simp);cases fuel with
     | zero=>cases h2
     | succ fuel=>
       simp only[cz,Bool.and_eq_true]at h2;have hr:Region.ready .any ops listed=[i]:=by simpa using h2.1.1
       have wI:∀j,(listed.setIfInBounds i true).getD j true=false\/j=i->brk.contains j=true:=by
        rcases rk ho h2.1.2 with⟨h3,_⟩ | h3
        ·rw[o7 brk rfl i ho]at h3;cases h3
        ·exact h3
       exact bt.Xu hr wI (aH.fD ho hg hd hy fun m O' hM=>h m O' hM fuel (listed.setIfInBounds i true) ix hf (fun _=>⟨h1,h2.2⟩))
theorem VL.o_ {o:Oper} {L:List (Fl×Oper)} {M:MV->VH->Prop} (hy:fC P n D o e O M) (h:∀m O',M m O'->VL P n D md ops L (aV o.dst m e) O' Q) (hmd:md= .plain\/md= .any:=by exact .inl rfl) (hg:aK ops o e=some true:=by exact rfl) (hd:bf n o.dst=true:=by exact rfl):VL P n D md ops ((.one,o)::L) e O Q:=by
 rcases hmd with rfl | rfl
 ·exact VL.fD hg hd (fun _ _ h=>by cases h) (fun _ h=>by cases h) hy (fun _ h=>by cases h) h
 ·exact VL.fD hg hd (fun _ _ h=>by cases h) (fun _ h=>by cases h) hy (fun _ h=>by cases h) h
def yR (O:VH) (sz:Nat):MV->Option (Nat×List MV)
 | .sl k ds _=>if ds.length=k*sz then some (k,ds)else none
 | .bk k o n _=>match O.hp k with
   | some (.cells cs)=>if o+n*sz<=cs.length then some (n,(cs.drop o).take (n*sz))else none
   | _=>none
 | .str l=>if sz=1 then some (l.length,l.map fp)else none
 | _=>none
def yS:MV->TypeDesc->Prop
 | .str _,.string=>True
 | .str _,_=>False
 | _,.slice _=>True
 | _,_=>False
theorem strCells_eq (l:List UInt8):byteCells (⟨⟨l⟩⟩:ByteArray)=l.map fun b=>Value.int .u8 b.toNat:=by simp[byteCells]
theorem yT (h:WR G O w) {sz k:Nat} {ds:List MV} {tx:TypeId} {d:TypeDesc} (hs:yR O sz m=some (k,ds)) (hx:VR G m u) (ht:P.underlying tx=some d) (hd:yS m d) (gJ:ds.all dz=true):∃us,Src P sz tx u k us w/\aL G ds us:=by
 unfold yR at hs;split at hs
 ·split at hs
  ·rename_i k' ki tk hl;injection hs with hs;injection hs with e1 e2;subst e1;subst e2
   have hk:∃e',P.underlying tx=some (.slice e'):=by
    cases d<;>simp only[yS]at hd
    exact⟨_,ht⟩
   obtain⟨e',hk⟩:=hk
   have nil:∀A c,k'=0->ki=[]->VR G (.sl k' ki tk) (.slice A 0 c)->∃us,Src P sz tx (.slice A 0 c) k' us w/\aL G ki us:=fun A c e1 e2 _=>by
    subst e1;subst e2
    refine⟨[],?_,aL.nil⟩;cases A with
    | none=>exact Src.ofNil w hk c
    | some A=>exact Src.ofSlice w hk A 0 c [] (by simp) (fun j u hu=>by simp at hu) (fun u hu=>by cases hu)
   cases hx with
   | slnil=>exact nil _ _ rfl rfl .slnil
   | nZ h1=>exact nil _ _ rfl rfl (.nZ h1)
   | jS=>exact nil _ _ rfl rfl .jS
   | sl h1 h2 h3 h4 h5 h6=>
     rename_i us c b o;have hv:aL G ki us:=⟨h1,h3⟩;exact⟨us,Src.ofSlice w hk _ k' c us (by rw[h1,hl]) (fun j u hu=>by rw[Addr.add_lit];exact h.dT _ _ _ (h2 j u hu)) (xB hv gJ),hv⟩
  ·cases hs
 ·rename_i k' o n' c';split at hs
  ·rename_i cs CZ;split at hs
   ·rename_i hle;injection hs with hs;injection hs with e1 e2;subst e1;subst e2
    have hk:∃e',P.underlying tx=some (.slice e'):=by
     cases d<;>simp only[yS]at hd
     exact⟨_,ht⟩
    obtain⟨e',hk⟩:=hk;cases hx with
    | bk hp hn hm=>
      rename_i b;obtain⟨b',C,T,h1,h2,h3⟩:=h.cells k' cs CZ;rw[hp]at h1;injection h1 with h1;subst h1
      have hv:=(h3.drop o).take (n'*sz);refine⟨_,Src.ofSlice w hk ⟨b,o,none⟩ n' c' _ ?_ (fun j u hu=>?_) (xB hv gJ),hv⟩
      ·rw[hv.1];simp;omega
      ·rw[Addr.add_lit];rw[List.getElem?_take]at hu;split at hu
       ·rw[List.getElem?_drop,List.getElem?_take]at hu;split at hu
        ·simp only[World.cell?,h2,Option.isSome_none,Bool.false_eq_true,if_false];simpa using hu
        ·cases hu
       ·cases hu
   ·cases hs
  ·cases hs
 ·rename_i l;split at hs
  ·rename_i n9;subst n9;injection hs with hs;injection hs with e1 e2;subst e1;subst e2
   have hk:P.underlying tx=some .string:=by
    cases d<;>simp only[yS]at hd
    exact ht
   cases hx;refine⟨_,Src.ofString w hk ⟨⟨l⟩⟩,?_⟩;rw[strCells_eq];exact Dw l
  ·cases hs
 ·cases hs
theorem XY {α :Type} {s:Sem α} {x y: α} {w1 w2:World} (h1:s.run P w= .ok x w1) (h2:s.run P w= .ok y w2):w1=w2:=by
 rw[h1]at h2;injection h2
theorem OI (h:WR G O w) {k b i:Nat} {cs:List MV} (hk:O.hp k=some (.cells cs)) (hp:G.bD k=some b) (hi:i<cs.length):(w.cell? ⟨b,i,none⟩).isSome=true/\w.frozen? ⟨b,i,none⟩=false:=by
 obtain⟨b',C,T,e1,e2,e3⟩:=h.cells k cs hk;rw[hp]at e1;injection e1 with e1;subst e1
 have hlen:i<C.size:=by have:=e3.1;simp at this;omega
 constructor
 ·simp only[World.cell?,e2,Option.isSome_none,Bool.false_eq_true,if_false,Array.getElem?_eq_getElem hlen,Option.isSome_some]
 ·obtain⟨t',⟨lo,hi⟩,b_⟩:=T;dsimp only at e2 b_;simp only[World.frozen?,e2,Bool.and_eq_false_imp,decide_eq_true_eq,decide_eq_false_iff_not];intro;omega
theorem Kw (ht:aJ P tab) (h:WR G O w) {t tx ty el:TypeId} {te:cn} {d:TypeDesc} {k o n' c j:Nat} {cs ds:List MV} (hu:(tab t).map cn.under=some (.slice el)) (he:tab el=some te) (uH:P.underlying tx=some d) (hk:O.hp k=some (.cells cs)) (hs:yR O te.size m=some (j,ds)) (hd:yS m d) (gJ:ds.all dz=true)
  (oa:n'+j<=c) (hle:o+n'*te.size+ds.length<=cs.length) (hx:VR G (.bk k o n' c) u) (hy:VR G m v):
  ∃w' A,(Builtin.append_ #[t,tx] ty #[u,v]).run P w= .ok (.slice A (n'+j) c) w'/\WR G (O.set k (.cells (dP cs (o+n'*te.size) ds))) w'/\VR G (.bk k o (n'+j) c) (.slice A (n'+j) c):=by
 obtain⟨ti,z,i1,i2,i3,i4,i5,i6⟩:=(ht _ te he).info;obtain⟨us,oD,hv⟩:=yT (P:=P) h hs hy uH hd gJ;cases hx with
 | bk hp hn hm=>
   rename_i b;have gN:=fun(q:Nat) (hq:q<us.length)=>OI h (i:=o+n'*te.size+q) hk hp (by have:=hv.1;omega)
   rw[<-i2]at oD gN;have hr:=run_append_room_src (P:=P) w t tx ty el ti (bq ht hu) i1 b o n' c v j us oD oa (fun q hq=>(gN q hq).1) (fun q hq=>(gN q hq).2);obtain⟨w2,fj,ru⟩:=xD (P:=P) hp (o+n'*te.size) ds us 0 cs O w h hk hv gJ (by omega);have gn:=run_storeCells_cells (P:=P) b (o+n'*ti.size) us 0 w (by simpa using fun q hq=>(gN q hq).1) (by simpa using fun q hq=>(gN q hq).2) oD.one;rw[i2]at gn;have:=XY fj gn;subst this;rw[i2]at hr;exact⟨_,_,hr,by simpa using ru,.bk hp oa hm⟩
def VH.xL (O:VH) (cs:List MV) (t:TypeId) (n:Nat):VH:=(O.push (.cells cs)).push (.shape O.next t n)
theorem yU (ht:aJ P tab) (h:WR G O w) {t tx ty el:TypeId} {te:cn} {d:TypeDesc} {n' c j:Nat} {A:Option Addr} {L ds:List MV} {us:List Value} (hu:(tab t).map cn.under=some (.slice el)) (he:tab el=some te) (uH:P.underlying tx=some d) (hs:yR O te.size m=some (j,ds)) (hd:yS m d) (gJ:ds.all dz=true)
  (hL:aL G L us) (ob:L.length=n'*te.size) (hold:(Builtin.firstCells te.size n' (.slice A n' c)).run P w.drew= .ok us.toArray w.drew) (oa:c<n'+j) (hb:(n'+j)*te.bytes<=140737488355328) (hm:n'+j<=maxLen) (hy:VR G m v):
  ∃c' w' H zs,n'+j<=c'/\c'<=maxLen/\zs.length=(c' - (n'+j))*te.size/\(Builtin.append_ #[t,tx] ty #[.slice A n' c,v]).run P w= .ok (.slice (some ⟨w.heap.size,0,none⟩) (n'+j) c') w'/\Gh.Le G H/\WR H (O.xL (L++ds++zs) el (c'*te.size)) w'/\VR H (.bk O.next 0 (n'+j) c') (.slice (some ⟨w.heap.size,0,none⟩) (n'+j) c'):=by
 obtain⟨ti,z,i1,i2,i3,i4,i5,i6⟩:=(ht _ te he).info;obtain⟨vs,oD,hv⟩:=yT (P:=P) h hs hy uH hd gJ;have gQ:=grownCap_ge w (n'+j) c el;have hle:=grownCap_le_maxLen w (n'+j) c el hm;have XZ:=oD;rw[<-i2]at XZ hold;have hr:=run_append_grow_src (P:=P) w t tx ty el ti z (bq ht hu) i1 i4 A n' c us hold v j vs XZ oa (by simp only[maxLen]at hm;omega) (by rw[i3];exact growslice_fits (by omega) hb)
 have hzc:aL G (gO te.zero ((grownCap w (n'+j) c el - (n'+j))*te.size)) (Builtin.zeroCells z.cells (grownCap w (n'+j) c el - (n'+j))).toList:=by
  rcases Nat.eq_zero_or_pos te.zero.length with hz | hz
  ·have hz0:te.size=0:=by have:=(i6 G).1;rw[Array.length_toList,i5]at this;omega
   have:z.cells.size=0:=by rw[i5,hz0]
   rw[hz0,Nat.mul_zero];refine⟨by simp[gO,Builtin.zeroCells,this],fun i c u hc=>by simp[gO]at hc⟩
  ·have hzz:=xE (i6 G) hz ((grownCap w (n'+j) c el - (n'+j))*te.size);rw[<-i5]at hzz ⊢;exact hzz
 have jU:=(hL.append hv).append hzc;obtain⟨g1,g2⟩:=h.drew.push (cs:=L++ds++gO te.zero ((grownCap w (n'+j) c el - (n'+j))*te.size)) (C:=(us++vs).toArray++Builtin.zeroCells z.cells (grownCap w (n'+j) c el - (n'+j))) el (by simpa using jU);have kH:(us++vs).length=(n'+j)*te.size:=by rw[List.length_append,hL.1,ob,oD.newsLen,Nat.add_mul]
 have n9:((us++vs).toArray++Builtin.zeroCells z.cells (grownCap w (n'+j) c el - (n'+j))).size=grownCap w (n'+j) c el*te.size:=by
  rw[Array.size_append,JT,i5,List.size_toArray,kH, <-Nat.add_mul]
  congr 1;omega
 refine⟨grownCap w (n'+j) c el,_,_,gO te.zero ((grownCap w (n'+j) c el - (n'+j))*te.size),gQ,hle,by simp[gO],hr,g1,g2.C6 (aE _ _ _) ?_,.bk (aE _ _ _) gQ hle⟩
 have:(w.drew.alloc (.cells ((us++vs).toArray++Builtin.zeroCells z.cells (grownCap w (n'+j) c el - (n'+j))) el)).heap[w.drew.heap.size]?=some (.cells ((us++vs).toArray++Builtin.zeroCells z.cells (grownCap w (n'+j) c el - (n'+j))) el):=by
  rw[eM,if_pos rfl]
 show World.shape? _ w.drew.heap.size=_;simp only[World.shape?,this,n9]
structure Row (O:VH) (el:TypeId) (sz B k c:Nat) (L:List MV):Prop where
 cells:∃sp,O.hp k=some (.cells (L++sp))/\(L++sp).length=c*sz
 nL:∃j,B<=j/\j<O.next/\O.hp j=some (.shape k el (c*sz))
 lo:B<=k
 hi:k<O.next
structure bj (O:VH) (q:Option Nat) (O':VH):Prop where
 next:O.next<=O'.next
 hp:∀i,i<O.next->q≠some i->O'.hp i=O.hp i
def gid:MV->Option Nat
 | .bk k _ _ _=>some k
 | .ptr k _=>some k
 | _=>none
def GR (O:VH) (el:TypeId) (sz B:Nat) (p:MV) (n:Nat) (L:List MV):Prop:=
 (n=0/\L=[]/\(p= .sl 0 [] .nil\/p= .sl 0 [] .full))\/∃k c,p= .bk k 0 n c/\n<=c/\L.length=n*sz/\Row O el sz B k c L
section
variable {el:TypeId} {sz B B' k c q:Nat} {L:List MV} {O1:VH} {x:bV}
theorem bj.refl (O:VH) (q:Option Nat):bj O q O:=⟨Nat.le_refl _,fun _ _ _=>rfl⟩
theorem bj.ge (h:O.Ge O1) (u:bj O1 (some q) O') (hq:O.next<=q):O.Ge O':=⟨Nat.le_trans h.next u.next,fun i hi=>(u.hp i (Nat.lt_of_lt_of_le hi h.next) (by intro e;injection e;omega)).trans (h.hp i hi)⟩
theorem bj.geN (h:O.Ge O1) (u:bj O1 none O'):O.Ge O':=⟨Nat.le_trans h.next u.next,fun i hi=>(u.hp i (Nat.lt_of_lt_of_le hi h.next) (by simp)).trans (h.hp i hi)⟩
theorem bj.lC (h:O.Ge O'):bj O none O':=⟨h.next,fun i hi _=>h.hp i hi⟩
theorem bj.trans {o:Option Nat} (h:bj O o O1) (h2:bj O1 o O'):bj O o O':=⟨Nat.le_trans h.next h2.next,fun i hi hq=>(h2.hp i (Nat.lt_of_lt_of_le hi h.next) hq).trans (h.hp i hi hq)⟩
theorem bj.any {o:Option Nat} (h:bj O none O'):bj O o O':=⟨h.next,fun i hi _=>h.hp i hi (by simp)⟩
theorem bj.set:bj O (some q) (O.set q x):=⟨Nat.le_refl _,fun i _ h=>VH.ak _ _ (fun e=>h (by rw[e]))⟩
theorem bj.push:bj O none (O.push x):=⟨Nat.le_succ _,fun i hi _=>VH.bn _ _ hi⟩
theorem bj.kill:bj O (some q) (O.kill q):=⟨Nat.le_refl _,fun i _ h=>VH.kh _ (fun e=>h (by rw[e]))⟩
theorem Row.pc (h:Row O el sz B k c L) (u:bj O (some q) O') (hq:q≠k) (hs:∀t n,O.hp q≠some (.shape k t n)):Row O' el sz B k c L:=by
 obtain⟨sp,h1,h2⟩:=h.cells;obtain⟨j,h3,h4,h5⟩:=h.nL;refine⟨⟨sp,(u.hp k h.hi (by simpa using hq)).trans h1,h2⟩,⟨j,h3,Nat.lt_of_lt_of_le h4 u.next,(u.hp j h4 ?_).trans h5⟩,h.lo,Nat.lt_of_lt_of_le h.hi u.next⟩;intro e;injection e with e;subst e;exact hs _ _ h5
theorem Row.xM (h:Row O el sz B k c L) (u:bj O none O'):Row O' el sz B k c L:=by
 obtain⟨sp,h1,h2⟩:=h.cells;obtain⟨j,h3,h4,h5⟩:=h.nL;exact⟨⟨sp,(u.hp k h.hi (by simp)).trans h1,h2⟩,⟨j,h3,Nat.lt_of_lt_of_le h4 u.next,(u.hp j h4 (by simp)).trans h5⟩,h.lo,Nat.lt_of_lt_of_le h.hi u.next⟩
theorem GR.xM {p:MV} {n:Nat} (h:GR O el sz B p n L) (u:bj O none O'):GR O' el sz B p n L:=by
 rcases h with h | ⟨k,c,h1,h2,h3,h4⟩
 ·exact .inl h
 ·exact .inr ⟨k,c,h1,h2,h3,h4.xM u⟩
theorem GR.pc {p:MV} {n:Nat} (h:GR O el sz B p n L) (u:bj O (some q) O') (hq:gid p≠some q) (hs:∀k t n,O.hp q≠some (.shape k t n)):GR O' el sz B p n L:=by
 rcases h with h | ⟨k,c,h1,h2,h3,h4⟩
 ·exact .inl h
 ·exact .inr ⟨k,c,h1,h2,h3,h4.pc u (fun e=>hq (by rw[h1,e];rfl)) (hs k)⟩
theorem Row.aej {L':List MV} (h:Row O el sz B k c L) {sp:List MV} (hl:(L'++sp).length=c*sz):Row (O.set k (.cells (L'++sp))) el sz B k c L':=by
 obtain⟨j,h3,h4,h5⟩:=h.nL;refine⟨⟨sp,VH.an _ _ _,hl⟩,⟨j,h3,h4,?_⟩,h.lo,h.hi⟩;rw[VH.ak _ _ (fun e=>?_)]
 ·exact h5
 ·subst e;obtain⟨sp,h1,_⟩:=h.cells;rw[h1]at h5;cases h5
theorem Row.wider (h:Row O el sz B k c L) (hB:B'<=B):Row O el sz B' k c L:=by
 obtain⟨j,h3,h4,h5⟩:=h.nL;exact⟨h.cells,⟨j,Nat.le_trans hB h3,h4,h5⟩,Nat.le_trans hB h.lo,h.hi⟩
theorem Row.xL {cs:List MV} {t:TypeId} {sp:List MV} (hl:(L++sp).length=c*sz) (hB:B<=O.next):Row (O.xL (L++sp) el (c*sz)) el sz B O.next c L:=
 ⟨⟨sp,(VH.bn _ _ (by show O.next<O.next+1;omega)).trans (VH.aW _ _),hl⟩,⟨O.next+1,by omega,by show O.next+1<O.next+1+1;omega,VH.aW _ _⟩,hB,by show O.next<O.next+1+1;omega⟩
theorem yV (L ds sp:List MV):dP (L++sp) L.length ds=L++ds.take sp.length++sp.drop ds.length:=by
 induction ds generalizing L sp with
 | nil=>simp[dP]
 | cons d ds ih=>
   cases sp with
   | nil=>
     simp only[List.append_nil,List.length_nil,List.take_zero,List.drop_nil,dP]
     have:∀(ds:List MV) (o:Nat),L.length<=o->dP L o ds=L:=by
      intro ds;induction ds with
      | nil=>intro o _;rfl
      | cons x xs ih=>intro o ho;rw[dP,List.set_eq_of_length_le ho];exact ih (o+1) (by omega)
     rw[List.set_eq_of_length_le (Nat.le_refl _)];exact this ds _ (by omega)
   | cons s sp=>
     have:=ih (L++[d]) sp;simp only[dP];rw[List.set_append_right _ _ (Nat.le_refl _),Nat.sub_self,List.set_cons_zero];simp only[List.append_assoc,List.singleton_append,List.length_append,List.length_cons,List.length_nil]at this;rw[this];simp
end
theorem VL.grow (ht:aJ P tab) {el:TypeId} {te:cn} {B n' j:Nat} {L ds:List MV} {p q:MV} {dx:TypeDesc} {d:Option Tmp} {x y:Operand} {t tx ty:TypeId} {ps:String} {af:Array Edge} {g:Option (Nat×Bool)} {LL:List (Fl×Oper)} (hmd:md= .plain\/md= .any)
  (hr:GR O el te.size B p n' L) (hs:yR O te.size q=some (j,ds)) (gJ:ds.all dz=true) (hu:(tab t).map cn.under=some (.slice el)) (he:tab el=some te) (uH:(tab tx).map cn.under=some dx) (Dz:yS q dx) (hb:(n'+j)*te.bytes<=140737488355328) (hm:n'+j<=maxLen) (hB:B<=O.next)
  (hx:ev e x=some p) (hy:ev e y=some q) (hg:aK ops (.mk d (.call {callee:=.builtin .append,args:= #[x,y],argTypes:= #[t,tx]}) ty ps af g) e=some true) (hd:bf n d=true)
  (h:∀m O',GR O' el te.size B m (n'+j) (L++ds)->bj O (gid p) O'->(gid p=none->O.Ge O')->((∃k c,m= .bk k 0 (n'+j) c/\(gid p=some k\/(O.next<=k/\j≠0)))\/(j=0/\m=p/\O'=O))->WL P tab n D md ops Q LL (aV d m e) O'):
  VL P n D md ops ((.one,.mk d (.call {callee:=.builtin .append,args:= #[x,y],argTypes:= #[t,tx]}) ty ps af g)::LL) e O Q:=by
 refine VL.o_ (M:=fun m O'=>GR O' el te.size B m (n'+j) (L++ds)/\bj O (gid p) O'/\(gid p=none->O.Ge O')/\((∃k c,m= .bk k 0 (n'+j) c/\(gid p=some k\/(O.next<=k/\j≠0)))\/(j=0/\m=p/\O'=O))) (fun G a w hw hf=>?_) (hmd:=hmd) (hg:=hg) (hd:=hd) fun m O' ⟨h1,h2,h3,h4⟩=>WL.sound ht (h m O' h1 h2 h3 h4)
 have mJ:=hf.ev hx;have wM:=hf.ev hy;have eV:=bq ht uH
 have fin:∀{m O' u w' H},(GR O' el te.size B m (n'+j) (L++ds)/\bj O (gid p) O'/\(gid p=none->O.Ge O')/\((∃k c,m= .bk k 0 (n'+j) c/\(gid p=some k\/(O.next<=k/\j≠0)))\/(j=0/\m=p/\O'=O)))->(Builtin.append_ #[t,tx] ty #[a.eval x,a.eval y]).run P w= .ok u w'->Gh.Le G H->WR H O' w'->VR H m u->
   ∃m O' u w' H,(GR O' el te.size B m (n'+j) (L++ds)/\bj O (gid p) O'/\(gid p=none->O.Ge O')/\((∃k c,m= .bk k 0 (n'+j) c/\(gid p=some k\/(O.next<=k/\j≠0)))\/(j=0/\m=p/\O'=O)))/\(execOp a.eval (.mk d (.call {callee:=.builtin .append,args:= #[x,y],argTypes:= #[t,tx]}) ty ps af g)).run P w= .ok (.value u) w'/\Gh.Le G H/\WR H O' w'/\VR H m u:=fun hM bW h1 h2 h3=>
  ⟨_,_,_,_,_,hM,by simp only[execOp,resolve,invoke,builtin,List.map_toArray,List.map_cons,List.map_nil,Sem.run_bind,Sem.run_pure,Result.andThen_ok]<;>simp[bW],h1,h2,h3⟩
 obtain⟨vs,oD,hv⟩:=yT (P:=P) hw hs wM eV Dz gJ;have kc:ds.length=j*te.size:=by rw[<-hv.1];exact oD.newsLen
 rcases hr with⟨rfl,rfl,hp⟩ | ⟨k,c,rfl,yW,ob,cC⟩
 ·have hA:∃A,a.eval x= .slice A 0 0/\(∀w',(Builtin.firstCells te.size 0 (.slice A 0 0)).run P w'= .ok #[] w'):=by
   generalize a.eval x=u at mJ
   have key:∀A:Option Addr,∀w',(Builtin.firstCells te.size 0 (.slice A 0 0)).run P w'= .ok #[] w':=fun A w'=>by
    cases A<;>simp[Builtin.firstCells,loadCells,loadCellsFrom]
   rcases hp with rfl | rfl
   ·cases mJ with
    | slnil=>exact⟨_,rfl,key _⟩
    | sl h1 h2 h3 h4 h5 h6=>exact h6.elim
   ·cases mJ with
    | sl h1 h2 h3 h4 h5 h6=>
      have h6:_=0:=h6;subst h6;exact⟨_,rfl,key _⟩
  obtain⟨A,hA,Kx⟩:=hA;have X0:gid p=none:=by rcases hp with rfl | rfl<;>rfl
  by_cases hj:j=0
  ·subst hj;have nP:ds=[]:=List.eq_nil_of_length_eq_zero (by simpa using kc);subst nP;refine fin (m:=p) (O':=O) (u:=a.eval x) (w':=w) (H:=G) ⟨.inl ⟨rfl,rfl,hp⟩,bj.refl _ _,fun _=>VH.Ge.refl _,.inr ⟨rfl,rfl,rfl⟩⟩ ?_ (Gh.Le.refl G) hw mJ;have iH:vs=[]:=by have:=hv.1;simpa using this
   subst iH;rw[hA];have eE:=bq ht hu;obtain⟨ti,z,i1,i2,_⟩:=(ht _ te he).info;rcases oD.kind with⟨e',hk⟩ | hk<;>cases A<;>simp[Builtin.append_,run_underlying eE,run_underlying hk,eN (ht _ te he),oD.len,oD.cells,storeCells]
  ·rw[hA]at fin;obtain⟨c',w',H,zs,g1,g2,g3,g4,g5,g6,g7⟩:=yU (P:=P) ht hw (n':=0) (c:=0) (A:=A) (L:=[]) (us:=[]) (ty:=ty) hu he eV hs Dz gJ aL.nil (by simp) (Kx _) (by omega) hb hm wM;refine fin ⟨.inr ⟨O.next,c',rfl,g1,by rw[List.length_append,kc];simp,?_⟩,?_,fun _=>?_,.inl ⟨_,_,rfl,.inr ⟨Nat.le_refl _,hj⟩⟩⟩ g4 g5 g6 g7
   ·refine Row.xL (cs:=[]) (t:=el) ?_ hB;rw[List.length_append,g3,List.length_append,kc,List.length_nil,Nat.zero_add, <-Nat.add_mul]
    congr 1;omega
   ·rw[X0];exact bj.push.trans bj.push
   ·exact((VH.Ge.refl O).push _).push _
 ·obtain⟨sp,iA,kG⟩:=cC.cells;generalize oc:a.eval x=u at mJ;have X5:=mJ;cases X5 with
  | bk hp hn hmx=>
    rename_i b;rw[oc]at fin;have hmul:(n'+j)*te.size=n'*te.size+j*te.size:=Nat.add_mul _ _ _;by_cases oa:n'+j<=c
    ·have hle:(n'+j)*te.size<=c*te.size:=Nat.mul_le_mul_right _ oa;obtain⟨w',A,g1,g2,g3⟩:=Kw (P:=P) (ty:=ty) ht hw hu he eV iA hs Dz gJ oa (by rw[kG,kc];omega) mJ wM;rw[Nat.zero_add, <-ob,yV]at g2
     have GW:ds.length<=sp.length:=by
      rw[List.length_append]at kG;omega
     rw[List.take_of_length_le GW]at g2;refine fin ⟨.inr ⟨k,c,rfl,oa,by rw[List.length_append,ob,kc,hmul],cC.aej ?_⟩,bj.set,(fun h=>by cases h),.inl ⟨_,_,rfl,.inl rfl⟩⟩ g1 (Gh.Le.refl G) g2 g3;rw[List.length_append,List.length_append,List.length_drop];rw[List.length_append]at kG;omega
    ·obtain⟨b',C,T,d1,d2,d3⟩:=hw.cells k _ iA;rw[hp]at d1;injection d1 with d1;subst d1
     have hL:=d3.take L.length;rw[List.take_left,List.take_take,Nat.min_eq_left (by rw[List.length_append];omega)]at hL
     have hold:(Builtin.firstCells te.size n' (.slice (some ⟨b,0,none⟩) n' c)).run P w.drew= .ok (C.toList.take L.length).toArray w.drew:=by
      refine run_firstCells_some (P:=P) w.drew te.size n' ⟨b,0,none⟩ n' c _ (by rw[hL.1,ob]) fun i u hu=>?_
      rw[Addr.add_lit,Nat.zero_add];rw[List.getElem?_take]at hu;split at hu
      ·have j4:w.drew.heap[b]?=some (.cells C T.t T.fr):=d2;simp only[World.cell?,j4,Option.isSome_none,Bool.false_eq_true,if_false];simpa using hu
      ·cases hu
     obtain⟨c',w',H,zs,g1,g2,g3,g4,g5,g6,g7⟩:=yU (P:=P) (ty:=ty) ht hw (n':=n') (c:=c) (A:=some ⟨b,0,none⟩) (L:=L) hu he eV hs Dz gJ hL ob hold (by omega) hb hm wM;refine fin ⟨.inr ⟨O.next,c',rfl,g1,by rw[List.length_append,ob,kc,hmul],?_⟩,(bj.push.trans bj.push).any,(fun h=>by cases h),.inl ⟨_,_,rfl,.inr ⟨Nat.le_refl _,by omega⟩⟩⟩ g4 g5 g6 g7;refine Row.xL (cs:=[]) (t:=el) ?_ hB;rw[List.length_append,g3,List.length_append,ob,kc, <-hmul, <-Nat.add_mul]
     congr 1;omega
end
section
variable {G H:Gh} {n:Sz} {D:List Deferred} {e:Env} {a:Act} {P:Program} {tab:bS} {O O':VH} {w:World} {m m':MV} {u v:Value} {ops:Array Oper} {Q:VQ} {md:Md}
def gY (P:Program) (n:Sz) (D:List Deferred) (o:Oper) (e:Env) (m:MV):Prop:=∀G a,FR G n D e a->c9 P o a G m
theorem aH.pure {i:Nat} {o:Oper} {K:Env->VH->Prop} (ho:ops[i]?=some o) (hg:aK ops o e=some true) (hd:bf n o.dst=true) (hy:gY P n D o e m) (h:K (aV o.dst m e) O):aH P n D ops i e O Q K:=by
 refine aH.fD (M:=fun m' O'=>m'=m/\O'=O) ho hg hd (fun G a w hw hf=>?_) (by rintro m' O' ⟨rfl,rfl⟩;exact h);obtain⟨u,hu,hr⟩:=hy G a hf;exact⟨m,O,u,w,G,⟨rfl,rfl⟩,hr w hw.ss,Gh.Le.refl G,hw,hu⟩
theorem VL.pure {f:Fl} {o:Oper} {L:List (Fl×Oper)} (Kf:f≠ .fk) (hh:f= .one->iJ md=true\/md= .any) (hg:aK ops o e=some true) (hd:bf n o.dst=true) (hy:gY P n D o e m) (h:VL P n D md ops L (aV o.dst m e) O Q):VL P n D md ops ((f,o)::L) e O Q:=by
 intro fuel listed ix hf hp
 match ix,hf with
 | (i,g)::ix,hf=>
   obtain⟨rfl,ho,hf⟩:=hf;cases md with
   | plain=>exact gR.one (aH.pure ho hg hd hy (h 0 #[] ix hf (fun h=>absurd rfl h)))
   | any=>
     obtain⟨h1,h2⟩:=hp (by simp);cases fuel with
     | zero=>cases h2
     | succ fuel=>
       simp only[cz,Bool.and_eq_true]at h2;have hk:=h fuel (listed.setIfInBounds i true) ix hf (fun _=>⟨h1,h2.2⟩);cases g with
       | one=>
         have hr:Region.ready .any ops listed=[i]:=by simpa using h2.1
         exact bX.all hr (by simp) fun j hj=>by
          obtain rfl:j=i:=by simpa using hj
          exact aH.pure ho hg hd hy hk
       | av=>
         simp only[Bool.and_eq_true]at h2;intro G a w hw aT;obtain⟨u,hu,hr⟩:=hy G a aT;exact wpAnyH_take ho h1 h2.1.1 h2.1.2 (gy hd) (.inl ⟨a_ aT hg,hr⟩) hw.ss (hk G _ w hw (aT.aV hd hu))
       | rd=>exact absurd h2.1 (by simp)
       | fk=>exact absurd rfl Kf
   | reads=>
     obtain⟨h1,h2⟩:=hp (by simp);cases fuel with
     | zero=>cases h2
     | succ fuel=>
       simp only[cz,Bool.and_eq_true]at h2;have hk:=h fuel (listed.setIfInBounds i true) ix hf (fun _=>⟨h1,h2.2⟩);intro G a w hw aT;obtain⟨u,hu,bW⟩:=hy G a aT;have h3:Region.free .any ops listed i=true/\(Region.ready .any ops listed).contains i=true:=by cases g<;>simp_all
       exact wpAnyH_take ho h1 h3.1 h3.2 (gy hd) (.inl ⟨a_ aT hg,fun w' CQ=>by rw[CQ];exact bW w hw.ss⟩) rfl (hk G _ w hw (aT.aV hd hu))
   | held brk=>
     obtain⟨h1,h2⟩:=hp (by simp);cases fuel with
     | zero=>cases h2
     | succ fuel=>
       simp only[cz,Bool.and_eq_true]at h2;have hk:=h fuel (listed.setIfInBounds i true) ix hf (fun _=>⟨h1,h2.2⟩)
       have hyy:∀G a w,WR G O w->FR G n D e a->∃u,VR G m u/\YieldsIf P ops (Sx G w) o u a:=fun G a w hw aT=>by
        obtain⟨u,hu,bW⟩:=hy G a aT;exact⟨u,hu,.inl ⟨a_ aT hg,fun x hx=>bW x hx.1⟩⟩
       cases g with
       | one=>rcases hh rfl with h3 | h3<;>cases h3
       | fk=>exact absurd rfl Kf
       | av=>
         simp only[Bool.and_eq_true]at h2;exact bt.take ho h1 h2.1.1.1 h2.1.1.2 h2.1.2 hd hyy hk
       | rd=>
         simp only[Bool.and_eq_true]at h2;exact bt.take ho h1 h2.1.1.1 h2.1.1.2 h2.1.2 hd hyy hk
def GX (P:Program) (tab:bS):Nat->TypeId->MV->MV->Option Bool
 | 0,_,_,_=>none
 | d+1,t,x,y=>match(tab t).map cn.under,x,y with
   | some .bool,.v (.bool a),.v (.bool b)=>some (a==b)
   | some (.int _),.v (.int k a),.v (.int k' b)=>if k=k' then some (a==b)else none
   | some .string,.str a,.str b=>some (a==b)
   | some (.struct fs),.agg xs,.agg ys=>if P.stoodInHeld t then none else fs.toList.foldr (fun f acc=>
     if f.name≠ "_" then match Ar tab f.type xs f.offset,Ar tab f.type ys f.offset with
      | some p,some q=>match GX P tab d f.type p q,acc with
        | some b,some c=>some (b&&c)
        | _,_=>none
      | _,_=>none
     else acc) (some true)
   | _,_,_=>none
theorem Kz (ht:aJ P tab):∀(d:Nat) {t:TypeId} {x y:MV} {u v:Value} {b:Bool},GX P tab d t x y=some b->VR G x u->VR G y v->∀(k:Nat) (w:World),(Op.equalIn (d+k) t u v).run P w= .ok b w
 | 0,_,_,_,_,_,_,h,_,_,_,_=>by cases h
 | d+1,t,x,y,u,v,b,h,hx,hy,k,w=>by
   rw[show d+1+k=d+k+1 from by omega];simp only[GX]at h;split at h
   ·rename_i hu;injection h with h;subst h
    cases hx;cases hy
    exact run_equalIn_bool w _ _ _ _ (bq ht hu)
   ·rename_i k0 k1 a k2 c hu;split at h
    ·subst k1;injection h with h;subst h
     cases hx;cases hy
     exact run_equalIn_int w _ _ _ _ _ _ (bq ht hu)
    ·cases h
   ·rename_i l r hu;injection h with h;subst h
    cases hx;rename_i e1;cases hy;rw[run_equalIn_string w _ _ _ _ (bq ht hu),toList_mk,toList_mk]
   ·rename_i fs xs ys hu;split at h
    ·cases h
    ·rename_i cP;cases hx with
     | agg a1 a2=>
       cases hy with
       | agg b1 b2=>
         rename_i us vs;have eE:=bq ht hu;have hfo:P.fieldsOf t=fs:=by simp only[Program.fieldsOf,eE]
         rw[run_equalIn_struct w _ _ _ _ (by rw[hfo];exact eE) (by simpa using cP),hfo];have hxs:aL G xs us:=⟨a1,a2⟩;have OJ:aL G ys vs:=⟨b1,b2⟩;generalize fs.toList=l at h;clear hu eE hfo;induction l generalizing b with
         | nil=>
           simp only[List.foldr_nil,Option.some.injEq]at h;subst h;rfl
         | cons f l ih=>
           simp only[List.foldr_cons]at h;simp only[Op.eqFields];split at h
           ·rename_i hn;rw[if_pos hn];split at h
            ·rename_i p q hp hq;split at h
             ·rename_i b1 c1 cy fx;injection h with h;subst h
              obtain⟨r1,g1,g2⟩:=vL (P:=P) ht hp hxs;obtain⟨r2,g3,g4⟩:=vL (P:=P) ht hq OJ;have hr:=Kz ht d cy g2 g4 k w;simp only[Sem.run_bind,g1 w,g3 w,hr,Result.andThen_ok];cases b1
              ·simp
              ·simpa using ih _ fx
             ·cases h
            ·cases h
           ·rename_i hn;rw[if_neg hn];exact ih _ h
   ·cases h
theorem VL.B6 (ht:aJ P tab) {f:Fl} {op:BinOp} {t t' ty:TypeId} {d:Option Tmp} {x y:Operand} {ps:String} {af:Array Edge} {g:Option (Nat×Bool)} {L:List (Fl×Oper)} {xs ys:List MV} {b:Bool} {bb:Bool} (Kf:f≠ .fk) (hh:f= .one->iJ md=true\/md= .any)
  (ui:(op= .eql/\bb=b)\/(op= .neq/\bb= !b)) (hq:GX P tab 9 t (.agg xs) (.agg ys)=some b) (hgt:P.eqGuardType P.depth t=false) (hx:ev e x=some (.agg xs)) (hy:ev e y=some (.agg ys)) (hg:aK ops (.mk d (.binOp op t x y t') ty ps af g) e=some true) (hd:bf n d=true)
  (h:WL P tab n D md ops Q L (aV d (.v (.bool bb)) e) O):VL P n D md ops ((f,.mk d (.binOp op t x y t') ty ps af g)::L) e O Q:=by
 refine VL.pure Kf hh hg hd (fun G a hf=>?_) (WL.sound ht h);have h1:=hf.ev hx;have h2:=hf.ev hy;have hr:=fun w=>Kz (P:=P) ht 9 hq h1 h2 9991 w
 generalize hu:a.eval x=u at h1 hr;generalize hv:a.eval y=v at h2 hr;cases h1 with
 | agg a1 a2=>
   cases h2 with
   | agg b1 b2=>
     rename_i us vs;refine c9.of (s:=do eqGuard op t x y (.agg us.toArray) (.agg vs.toArray);binOp op t (.agg us.toArray) (.agg vs.toArray)) (aX.of (u:=.bool bb) (fun w _=>?_) (.v rfl)) (by simp[execOp,hu,hv]);rw[Sem.run_bind,run_eqGuard_agg w op t x y _ _ hgt,Result.andThen_ok];rcases ui with⟨rfl,rfl⟩ | ⟨rfl,rfl⟩
     ·rw[run_eql_struct,hr w];rfl
     ·rw[run_neq_struct,hr w];rfl
theorem WR.TB (h:WR G O w) {b:Nat} {C:Array Value} {t:TypeId} {fr fr':Nat×Nat} {w':World} (hb:w.heap[b]?=some (.cells C t fr)) (hB:G.B<=b) (mz:w'.heap[b]?=some (.cells C t fr')) (ho:∀j,j≠b->w'.heap[j]?=w.heap[j]?) (hs:w'.heap.size=w.heap.size)
  (hos:w'.os=w.os) (af3:w'.tape=w.tape) (ahz:w'.output=w.output) (dW:∀j,O.hp j≠none->G.bD j≠some b) (tY:∀t c x,O.hp t=some .tok->G.tok t=some (c,x)->c≠b):WR G O w':=by
 have j9:∀p,w'.cell? p=w.cell? p:=fun p=>by
  by_cases e:p.block=b
  ·simp only[World.cell?,e,hb,mz]
  ·simp only[World.cell?,ho _ e]
 refine⟨⟨hos.trans h.base.os,af3.trans h.base.tape,ahz.trans h.base.output,by rw[hs];exact h.base.size,fun j hj=>by rw[ho j (by have:j<G.B:=hj;omega)];exact h.base.block j hj⟩,fun b' o u hc=>by rw[j9];exact h.dT b' o u hc,h.oY,fun k c hk=>?_,h.inj,fun k cs hk=>?_,fun k es ck hk=>?_,fun t ht=>?_,h.kY,
  h.n0 id (fun _ _ _ _ h=>h) fun k b' s _ hs'=>?_,h.qH id (fun _ _ h=>h) fun k x b' hk hb hx=>by rw[ho b' (fun e=>dW k (by rw[hk];simp) (e▸hb))];exact hx,h.qc,h.Ap⟩
 ·obtain⟨h1,h2,h3⟩:=h.jL k c hk;exact⟨h1,by rw[hs];exact h2,h3⟩
 ·obtain⟨c,D,T',h1,h2,h3⟩:=h.cells k cs hk;exact⟨c,D,T',h1,by rw[ho c (fun e=>dW k (by rw[hk];simp) (e▸h1))];exact h2,h3⟩
 ·obtain⟨c,E,h1,h2,h3⟩:=h.map k es ck hk;exact⟨c,E,h1,by rw[ho c (fun e=>dW k (by rw[hk];simp) (e▸h1))];exact h2,h3⟩
 ·obtain⟨c,f,k,r,D,T',h1,h2,h3,h4⟩:=h.tok t ht;exact⟨c,f,k,r,D,T',h1,h2,by rw[ho c (tY t c _ ht h1)];exact h3,h4⟩
 ·by_cases e:b'=b
  ·subst e;simp only[World.shape?,hb]at hs';simp only[World.shape?,mz];exact hs'
  ·exact gM (fun x hx=>by rw[ho _ e];exact hx) hs'
def X6:Op->Bool
 | .call c=>match c.callee with
   | .builtin .unsafeString=>true
   | _=>false
 | _=>false
def vX (md:Md) (ops:Array Oper):Bool:=match md with
 | .held brk=> !brk.isEmpty&&(List.range ops.size).all fun i=> !((ops[i]?).map fun o=>X6 o.op).getD false||brk.contains i
 | _=>true
theorem vY (h:vX md ops=true):∀brk,md= .held brk->brk≠[]:=by
 rintro brk rfl rfl;simp[vX]at h
theorem GY (h:vX md ops=true) {o:Oper} (ho:X6 o.op=true):∀brk,md= .held brk->∀i,ops[i]?=some o->brk.contains i=true:=by
 rintro brk rfl i hi;simp only[vX,Bool.and_eq_true]at h
 have:=List.all_eq_true.1 h.2 i (List.mem_range.2 (by
  rcases Nat.lt_or_ge i ops.size with h' | h'
  ·exact h'
  ·rw[Array.getElem?_eq_none h']at hi;cases hi))
 simpa[hi,ho]using this
theorem VL.ahA (ht:aJ P tab) {d:Option Tmp} {x y:Operand} {pt it ty el:TypeId} {ps:String} {af:Array Edge} {g:Option (Nat×Bool)} {L:List (Fl×Oper)} {k c:Nat} {l:List UInt8} {B:Nat}
  (b_:vX md ops=true)
  (hp:(tab pt).map cn.under=some (.pointer el)) (hce:P.cellsOf el=1) (cC:Row O el 1 B k c (l.map fp)) (FD:l≠[]) (hl:l.length<=maxLen)
  (hx:ev e x=some (.ptr k 0)) (hy:ev e y=some (.v (.int .i64 l.length))) (hg:aK ops (.mk d (.call {callee:=.builtin .unsafeString,args:= #[x,y],argTypes:= #[pt,it]}) ty ps af g) e=some true) (hd:bf n d=true)
  (h:WL P tab n D md ops Q L (aV d (.str l) e) (O.kill k)):VL P n D md ops ((.one,.mk d (.call {callee:=.builtin .unsafeString,args:= #[x,y],argTypes:= #[pt,it]}) ty ps af g)::L) e O Q:=by
 refine VL.fD (M:=fun m O'=>m= .str l/\O'=O.kill k) hg hd (fun _=>vY b_) (fun brk hb=>.inr (vY b_ brk hb)) (fun G a w hw hf=>?_) (GY b_ rfl) (by rintro m O' ⟨rfl,rfl⟩;exact WL.sound ht h);have mJ:=hf.ev hx;have wM:=hf.ev hy;generalize oc:a.eval x=u at mJ;generalize xN:a.eval y=v at wM;have wM:=wM.ie;subst wM;cases mJ with
 | ptr X7=>
   rename_i b;obtain⟨sp,fx,iY⟩:=cC.cells;obtain⟨b',C,T,d1,d2,d3⟩:=hw.cells k _ fx;rw[X7]at d1;injection d1 with d1;subst d1
   obtain⟨j,_,_,hj⟩:=cC.nL;obtain⟨b2,s1,s2⟩:=hw.nL j k _ _ hj;rw[X7]at s1;injection s1 with s1;subst s1
   have hL:=d3.take l.length;have e1:(l.map fp++sp).take l.length=l.map fp:=by rw[List.take_append_of_le_length (by simp),List.take_of_length_le (by simp)]
   rw[e1,List.take_take,Nat.min_eq_left (by simp)]at hL;have hL2:=Kt hL
   have j9:∀j x,l[j]?=some x->w.cell? ((⟨b,0,none⟩:Addr).add j)=some (.int .u8 x.toNat):=fun i x hx=>by
    rw[Addr.add_lit,Nat.zero_add];simp only[World.cell?,d2,Option.isSome_none,Bool.false_eq_true,if_false];have:(C.toList.take l.length)[i]?=some (Value.int .u8 x.toNat):=by rw[hL2,List.getElem?_map,hx];rfl
    rw[List.getElem?_take]at this;split at this
    ·simpa using this
    ·cases this
   have bW:=Lib.run_unsafeString_row (P:=P) w pt it ty el (bq ht hp) hce b _ s2 l FD (by rw[List.length_append,List.length_map]at iY;omega) hl j9;have yX:l.length≠0:=by simpa using FD
   have hfz:(w.freeze ⟨b,0,none⟩ l.length).heap[b]?=some (.cells C T.t (if T.fr.1==T.fr.2 then(0,0+l.length)else(min T.fr.1 0,max T.fr.2 (0+l.length)))):=by
    simp[World.freeze,yX,Array.getElem?_modify,d2]
   have ahB:∀j,j≠b->(w.freeze ⟨b,0,none⟩ l.length).heap[j]?=w.heap[j]?:=fun j hj=>by
    simp[World.freeze,yX,Array.getElem?_modify,Ne.symm hj]
   refine⟨.str l,O.kill k,.string ⟨⟨l⟩⟩,w.freeze ⟨b,0,none⟩ l.length,G,⟨rfl,rfl⟩,?_,Gh.Le.refl G,?_,.str⟩;rotate_left
   ·refine(hw.kill k).TB d2 (hw.jL k b X7).1 hfz ahB (by simp[World.freeze,yX]) (by simp[World.freeze,yX]) (by simp[World.freeze,yX]) (by simp[World.freeze,yX]) (fun j hj Xc=>?_) fun t c x eG N0 e=>?_
    ·by_cases e:j=k
     ·subst e;exact hj (aE _ _ _)
     ·have OK:O.hp j≠none:=by rwa [show(O.kill k).hp j=O.hp j from aw _ _ e]at hj
      exact e (hw.inj j k b OK (by rw[fx];simp) Xc X7)
    ·subst e;have e:t≠k:=fun e=>by subst e;rw[show(O.kill t).hp t=none from aE _ _ _]at eG;cases eG
     rw[show(O.kill k).hp t=O.hp t from aw _ _ e]at eG;obtain⟨_,_,_,_,_,_,q1,_,_,_,_,q7⟩:=hw.tok t eG;rw[N0]at q1;injection q1 with q1;injection q1 with q1 _;subst q1
     exact q7 k X7
   ·simp[execOp,resolve,invoke,builtin,oc,xN,bW]
theorem VL.af4 (ht:aJ P tab) {d:Option Tmp} {x y:Operand} {pt it ty:TypeId} {ps:String} {af:Array Edge} {g:Option (Nat×Bool)} {L:List (Fl×Oper)}
  (b_:vX md ops=true)
  (hx:ev e x=some (.v (.pointer none))) (hy:ev e y=some (.v (.int .i64 0))) (hg:aK ops (.mk d (.call {callee:=.builtin .unsafeString,args:= #[x,y],argTypes:= #[pt,it]}) ty ps af g) e=some true) (hd:bf n d=true)
  (h:WL P tab n D md ops Q L (aV d (.str []) e) O):VL P n D md ops ((.one,.mk d (.call {callee:=.builtin .unsafeString,args:= #[x,y],argTypes:= #[pt,it]}) ty ps af g)::L) e O Q:=by
 refine VL.fD (M:=fun m O'=>m= .str []/\O'=O) hg hd (fun _=>vY b_) (fun brk hb=>.inr (vY b_ brk hb)) (fun G a w hw hf=>?_) (GY b_ rfl) (by rintro m O' ⟨rfl,rfl⟩;exact WL.sound ht h);have mJ:=(hf.ev hx).ie;have wM:=(hf.ev hy).ie;have bW:=Lib.run_unsafeString_none (P:=P) w pt it ty none;refine⟨_,_,_,w,G,⟨rfl,rfl⟩,?_,Gh.Le.refl G,hw,.str⟩;simp[execOp,resolve,invoke,builtin,mJ,wM,bW];rfl
theorem VL.toU (ht:aJ P tab) {d:Option Tmp} {x:Operand} {src dst ty el t:TypeId} {ps:String} {af:Array Edge} {g:Option (Nat×Bool)} {L:List (Fl×Oper)} {k s j:Nat} {te:cn} (hmd:md= .plain\/md= .any)
  (hs:(tab src).map cn.under=some (.pointer el)) (KA:(tab dst).map cn.under=some .unsafePointer) (he:tab el=some te) (hz:te.size≠0) (hj:O.hp j=some (.shape k t s)) (TC:0<s)
  (hx:ev e x=some (.ptr k 0)) (hg:aK ops (.mk d (.convert src dst x) ty ps af g) e=some true) (hd:bf n d=true) (h:WL P tab n D md ops Q L (aV d (.ptr k 0) e) O):
  VL P n D md ops ((.one,.mk d (.convert src dst x) ty ps af g)::L) e O Q:=by
 refine VL.o_ (M:=fun m O'=>m= .ptr k 0/\O'=O) (fun G a w hw hf=>?_) (by rintro m O' ⟨rfl,rfl⟩;exact WL.sound ht h) (hmd:=hmd) (hg:=hg) (hd:=hd);have mJ:=hf.ev hx;generalize oc:a.eval x=u at mJ;cases mJ with
 | ptr hp=>
   rename_i b;obtain⟨ti,z,i1,i2,_⟩:=(ht _ te he).info;obtain⟨b2,s1,s2⟩:=hw.nL j k _ _ hj;rw[hp]at s1;injection s1 with s1;subst s1
   have hr:=Lib.run_to_unsafe (P:=P) w ⟨b,0,none⟩ (bq ht hs) (bq ht KA) i1 (by rw[i2];exact hz) s2 TC;exact⟨_,_,_,w,G,⟨rfl,rfl⟩,by simp[execOp,oc,hr],Gh.Le.refl G,hw,.ptr hp⟩
theorem VL.af5 (ht:aJ P tab) {d:Option Tmp} {x:Operand} {src dst ty el t:TypeId} {ps:String} {af:Array Edge} {g:Option (Nat×Bool)} {L:List (Fl×Oper)} {k s j:Nat} {te:cn} (hmd:md= .plain\/md= .any)
  (hs:(tab src).map cn.under=some .unsafePointer) (KA:(tab dst).map cn.under=some (.pointer el)) (he:tab el=some te) (hj:O.hp j=some (.shape k t s)) (hl:liesAt P P.depth t (s / P.cellsOf t) 0 el 1=true)
  (hx:ev e x=some (.ptr k 0)) (hg:aK ops (.mk d (.convert src dst x) ty ps af g) e=some true) (hd:bf n d=true) (h:WL P tab n D md ops Q L (aV d (.ptr k 0) e) O):
  VL P n D md ops ((.one,.mk d (.convert src dst x) ty ps af g)::L) e O Q:=by
 refine VL.o_ (M:=fun m O'=>m= .ptr k 0/\O'=O) (fun G a w hw hf=>?_) (by rintro m O' ⟨rfl,rfl⟩;exact WL.sound ht h) (hmd:=hmd) (hg:=hg) (hd:=hd);have mJ:=hf.ev hx;generalize oc:a.eval x=u at mJ;cases mJ with
 | ptr hp=>
   rename_i b;obtain⟨ti,z,i1,i2,_⟩:=(ht _ te he).info;obtain⟨b2,s1,s2⟩:=hw.nL j k _ _ hj;rw[hp]at s1;injection s1 with s1;subst s1
   have hr:=Lib.run_from_unsafe (P:=P) w ⟨b,0,none⟩ (bq ht hs) (bq ht KA) i1 s2 hl;exact⟨_,_,_,w,G,⟨rfl,rfl⟩,by simp[execOp,oc,hr],Gh.Le.refl G,hw,.ptr hp⟩
end
section
variable {tab:bS} {t t' el:TypeId} {O:VH} {a b c d a' b' k o n off:Nat} {z y z':List MV} {u:TypeDesc} {cs ds:List MV} {tk:Tok} {l:List UInt8} {m q:MV} {i j:Int} {kk kk':IntKind} {x:Value}
def w9:Option cn->MV->Option MV
 | some ⟨.string,_,_,_⟩,.str l=>some (.v (.int .i64 l.length))
 | some ⟨.slice _,_,_,_⟩,.sl n _ _=>some (.v (.int .i64 n))
 | some ⟨.slice _,_,_,_⟩,.bk _ _ n _=>some (.v (.int .i64 n))
 | some ⟨.map _ _,_,_,_⟩,.v (.map none)=>some (.v (.int .i64 0))
 | some ⟨.array n _,_,_,_⟩,_=>some (.v (.int .i64 n))
 | _,_=>none
theorem uI:kZ tab t m=w9 (tab t) m:=by
 unfold kZ w9;cases tab t with
 | none=>rfl
 | some r=>obtain⟨d,_,_,_⟩:=r;cases d<;>cases m<;>first | rfl | (rename_i v;cases v<;>first | rfl | (rename_i q;cases q<;>rfl))
theorem TD:w9 (some ⟨.string,a,b,z⟩) (.str l)=some (.v (.int .i64 l.length)):=rfl
theorem X8:w9 (some ⟨.slice el,a,b,z⟩) (.sl n cs tk)=some (.v (.int .i64 n)):=rfl
theorem TF:w9 (some ⟨.slice el,a,b,z⟩) (.bk k o n c)=some (.v (.int .i64 n)):=rfl
theorem TG:w9 (some ⟨.map t t',a,b,z⟩) (.v (.map none))=some (.v (.int .i64 0)):=rfl
theorem TI:w9 (some ⟨.map t t',a,b,z⟩) (.map k)=none:=rfl
theorem TK:w9 (some ⟨.array n el,a,b,z⟩) m=some (.v (.int .i64 n)):=by cases m<;>rfl
def X9 (O:VH) (s:Option (MV×VH)):Option MV->Option (MV×VH)
 | some r=>some (r,O)
 | none=>s
theorem OL {s:Option (MV×VH)}:X9 O s (some m)=some (m,O):=rfl
theorem OM {s:Option (MV×VH)}:X9 O s none=s:=rfl
theorem TL {e:Env} {d:Option Tmp} {x:Operand} {ty:TypeId} {p:String} {af:Array Edge} {g:Option (Nat×Bool)}:cQ tab (.mk d (.call {callee:=.builtin .len,args:= #[x],argTypes:= #[t]}) ty p af g) e O=(ev e x).bind fun q=>X9 O ((o0 tab O t q).map (·,O)) (w9 (tab t) q):=by
 rw[J6];cases ev e x with
 | none=>rfl
 | some q=>
   simp only[Option.bind_some,uI];cases w9 (tab t) q<;>rfl
def KB (tab:bS) (m ix:MV):Option cn->Option MV
 | some r=>match ix,r.under,m with
   | .v (.int _ i),.slice el,.sl n cells _=>match tab el with
     | some te=>if 0<=i/\i<(n:Int)then some (.cU cells (i.toNat*te.size))else none
     | none=>none
   | .v (.int _ i),.slice el,.bk k o n _=>match tab el with
     | some te=>if 0<=i/\i<(n:Int)then some (.ptr k (o+i.toNat*te.size))else none
     | none=>none
   | .v (.int _ i),.array len el,x=>match tab el with
     | some te=>if 0<=i/\i<(len:Int)then tZ (i.toNat*te.size) x else none
     | none=>none
   | _,_,_=>none
 | none=>none
theorem aek:lZ tab t m q=KB tab m q (tab t):=by
 unfold lZ KB;cases h:tab t with
 | none=>cases q<;>first | rfl | (rename_i v;cases v<;>rfl)
 | some r=>
   obtain⟨d,_,_,_⟩:=r;cases q<;>first | rfl | skip
   rename_i v;cases v<;>first | rfl | skip
   cases d<;>cases m<;>rfl
def ixS (i:Int) (n:Nat) (cs:List MV):Option cn->Option MV
 | some te=>if 0<=i/\i<(n:Int)then some (.cU cs (i.toNat*te.size))else none
 | none=>none
def ixR (i:Int) (n k o:Nat):Option cn->Option MV
 | some te=>if 0<=i/\i<(n:Int)then some (.ptr k (o+i.toNat*te.size))else none
 | none=>none
def ixA (i:Int) (n:Nat) (m:MV):Option cn->Option MV
 | some te=>if 0<=i/\i<(n:Int)then tZ (i.toNat*te.size) m else none
 | none=>none
theorem ace:KB tab (.sl n cs tk) (.v (.int kk i)) (some ⟨.slice el,a,b,z⟩)=ixS i n cs (tab el):=by unfold KB ixS;rfl
theorem X_:KB tab (.bk k o n c) (.v (.int kk i)) (some ⟨.slice el,a,b,z⟩)=ixR i n k o (tab el):=by unfold KB ixR;rfl
theorem Ya:KB tab m (.v (.int kk i)) (some ⟨.array n el,a,b,z⟩)=ixA i n m (tab el):=by unfold KB ixA;cases m<;>rfl
theorem acf (h0:0<=i) (h1:i<(n:Int)):ixS i n cs (some ⟨u,a,b,z⟩)=some (.cU cs (i.toNat*a)):=if_pos ⟨h0,h1⟩
theorem acg (h0:0<=i) (h1:i<(n:Int)):ixR i n k o (some ⟨u,a,b,z⟩)=some (.ptr k (o+i.toNat*a)):=if_pos ⟨h0,h1⟩
theorem ach (h0:0<=i) (h1:i<(n:Int)):ixA i n m (some ⟨u,a,b,z⟩)=tZ (i.toNat*a) m:=if_pos ⟨h0,h1⟩
theorem Yb:tZ a (.ptr k o)=some (.ptr k (o+a)):=rfl
theorem Yc:tZ a (.cU cs o)=some (.cU cs (o+a)):=rfl
def inT (l:List UInt8) (i:Int):Option cn->Option MV
 | some ⟨.string,_,_,_⟩=>if 0<=i then(l[i.toNat]?).map fp else none
 | _=>none
theorem ahC:vN tab t (.str l) (.v (.int kk i))=inT l i (tab t):=by
 unfold vN inT;cases tab t with
 | none=>rfl
 | some r=>obtain⟨d,_,_,_⟩:=r;cases d<;>rfl
theorem aci (h:0<=i):inT l i (some ⟨.string,a,b,z⟩)=(l[i.toNat]?).map fp:=if_pos h
def Yd (off:Nat):Option cn->Option bV->Option MV
 | some r,some (.cells cs)=>mG (eh r.under) r.size cs off
 | _,_=>none
theorem ahD:eD tab O t (.ptr k off)=Yd off (tab t) (O.hp k):=by
 unfold eD Yd;simp only[cellsOf];cases tab t<;>first | rfl | (cases O.hp k<;>first | rfl | (rename_i x;cases x<;>rfl))
theorem ahE:eD tab O t (.cU cs off)=Yd off (tab t) (some (.cells cs)):=by
 unfold eD Yd cellsOf;cases tab t<;>rfl
theorem acj:Yd off (some ⟨u,a,b,z⟩) (some (.cells cs))=mG (eh u) a cs off:=rfl
theorem Ye:mG false a cs off=cs[off]?:=rfl
theorem Yf (h:off+a<=cs.length):mG true a cs off=some (.agg ((cs.drop off).take a)):=by simp[mG,h]
theorem TM:eh .bool=false:=rfl
theorem Yg:eh (.int kk)=false:=rfl
theorem Yh:eh .string=false:=rfl
theorem Yi:eh (.pointer t)=false:=rfl
theorem ack:eh (.slice t)=false:=rfl
theorem Yj:eh (.map t t')=false:=rfl
theorem Yk:eh (.array n t)=true:=rfl
theorem acm {ms:Array (String×TypeId)}:eh (.interface ms)=false:=rfl
theorem acn {ps rs:Array TypeId} {v:Bool}:eh (.func ps rs v)=false:=rfl
def AA (O:VH) (k off:Nat) (m:MV):Option cn->Option bV->Option VH
 | some r,some (.cells cs)=>if(dy m).length=r.size/\(dy m).all dz=true/\off+r.size<=cs.length then some (O.set k (.cells (dP cs off (dy m))))else none
 | _,_=>none
theorem ahF:vK tab O t (.ptr k off) m=AA O k off m (tab t) (O.hp k):=by
 unfold vK AA;cases tab t with
 | none=>rfl
 | some r=>
   simp only;cases O.hp k with
   | none=>rfl
   | some x=>cases x<;>rfl
theorem pd {m:MV} (hm:dy m=[m]) (hl:dz m=true) (h:off<cs.length):AA O k off m (some ⟨u,1,b,z⟩) (some (.cells cs))=some (O.set k (.cells (cs.set off m))):=by
 show(if(dy m).length=1/\(dy m).all dz=true/\off+1<=cs.length then some (O.set k (.cells (dP cs off (dy m))))else none)=_;rw[if_pos ⟨by rw[hm];rfl,by rw[hm];simpa using hl,by omega⟩,hm];rfl
theorem af6 (h:off<cs.length):AA O k off (.v x) (some ⟨u,1,b,z⟩) (some (.cells cs))=some (O.set k (.cells (cs.set off (.v x)))):=pd rfl rfl h
theorem af7 (h:off<cs.length):AA O k off (.str l) (some ⟨u,1,b,z⟩) (some (.cells cs))=some (O.set k (.cells (cs.set off (.str l)))):=pd rfl rfl h
theorem af8 (h:off<cs.length):AA O k off (.ptr c o) (some ⟨u,1,b,z⟩) (some (.cells cs))=some (O.set k (.cells (cs.set off (.ptr c o)))):=pd rfl rfl h
theorem af9 (h:off<cs.length):AA O k off (.cU ds o) (some ⟨u,1,b,z⟩) (some (.cells cs))=some (O.set k (.cells (cs.set off (.cU ds o)))):=pd rfl rfl h
theorem aco (h:off<cs.length):AA O k off (.sl n ds tk) (some ⟨u,1,b,z⟩) (some (.cells cs))=some (O.set k (.cells (cs.set off (.sl n ds tk)))):=pd rfl rfl h
theorem Yl (h:off<cs.length):AA O k off (.bk c o n d) (some ⟨u,1,b,z⟩) (some (.cells cs))=some (O.set k (.cells (cs.set off (.bk c o n d)))):=pd rfl rfl h
theorem Ym (h:off<cs.length):AA O k off (.map c) (some ⟨u,1,b,z⟩) (some (.cells cs))=some (O.set k (.cells (cs.set off (.map c)))):=pd rfl rfl h
theorem acp (h:off<cs.length):AA O k off (.iface t m) (some ⟨u,1,b,z⟩) (some (.cells cs))=some (O.set k (.cells (cs.set off (.iface t m)))):=pd rfl rfl h
theorem acq {fn:Fn} (h:off<cs.length):AA O k off (.func fn ds z') (some ⟨u,1,b,z⟩) (some (.cells cs))=some (O.set k (.cells (cs.set off (.func fn ds z')))):=pd rfl rfl h
theorem Yn (h1:ds.length=a) (h2:ds.all dz=true) (h:off+a<=cs.length):AA O k off (.agg ds) (some ⟨u,a,b,z⟩) (some (.cells cs))=some (O.set k (.cells (dP cs off ds))):=if_pos ⟨h1,h2,h⟩
theorem Iq:dP cs off []=cs:=rfl
theorem FE:dP cs off (m::ds)=dP (cs.set off m) (off+1) ds:=rfl
theorem acr:dz (.v x)=true:=rfl
theorem acs:dz (.str l)=true:=rfl
theorem acu:dz (.ptr k o)=true:=rfl
theorem acv:dz (.cU cs o)=true:=rfl
theorem Yo:dz (.sl n cs tk)=true:=rfl
theorem TN:dz (.bk k o n c)=true:=rfl
theorem TO:dz (.map k)=true:=rfl
theorem Yp:dz (.iface t m)=true:=rfl
theorem Yq {fn:Fn}:dz (.func fn cs ds)=true:=rfl
section
variable {X:bV} {k':Nat} {s:Nat}
theorem acw (h:k'=k):(O.set k X).hp k'=some X:=by subst h;exact VH.an _ _ _
theorem ON (h:k'≠k):(O.set k X).hp k'=O.hp k':=VH.ak _ _ h
theorem Yr (h:k'=O.next):(O.push X).hp k'=some X:=by subst h;exact VH.aW _ _
theorem KC (h:k'≠O.next):(O.push X).hp k'=O.hp k':=VH.o8 _ _ h
theorem KD (h:k'≠k):(O.kill k).hp k'=O.hp k':=VH.kh _ h
theorem eB:(O.set k X).next=O.next:=rfl
theorem sd:(O.push X).next=O.next+1:=rfl
theorem DA:(O.kill k).next=O.next:=rfl
end
theorem KE {e:Env} {d:Option Tmp} {ty:TypeId} {p:String} {af:Array Edge} {g:Option (Nat×Bool)}:cQ tab (.mk d (.alloc t) ty p af g) e O=(tab t).map fun i=>(.ptr O.next 0,vT O t i.size i.zero):=rfl
def alB (O:VH) (t:TypeId) (n:Nat) (z:List MV):Bool->VH
 | true=>(O.push (.cells z)).push (.shape O.next t n)
 | false=>O.push (.cells z)
theorem OP:vT O t n z=alB O t n z (ff z):=by unfold vT alB;cases ff z<;>rfl
theorem af_:alB O t n z true=(O.push (.cells z)).push (.shape O.next t n):=rfl
theorem aga:alB O t n z false=O.push (.cells z):=rfl
theorem agb:ff [.v (.pointer none),.sl 0 [] .nil]=true:=rfl
theorem agc:ff []=false:=rfl
theorem agd:ff [m]=false:=by unfold ff;split<;>first | rfl | simp_all
theorem age {m1 m2 m3:MV}:ff (m1::m2::m3::z)=false:=by unfold ff;split<;>first | rfl | simp_all
theorem Ys:ff [.v (.int kk i),m]=false:=by unfold ff;split<;>first | rfl | simp_all
theorem TP {b:Bool}:ff [.v (.bool b),m]=false:=by unfold ff;split<;>first | rfl | simp_all
theorem Yt:ff [.str l,m]=false:=by unfold ff;split<;>first | rfl | simp_all
theorem acx:ff [.sl n cs tk,m]=false:=by unfold ff;split<;>first | rfl | simp_all
theorem acy:ff [m,.str l]=false:=by unfold ff;split<;>first | rfl | simp_all
theorem acz:ff [m,.v x]=false:=by unfold ff;split<;>first | rfl | simp_all
def sh (tab:bS) (x:MV) (l h:Option MV):Option cn->Option MV
 | some ⟨.string,_,_,_⟩=>match x with
   | .str s=>match cS 0 l,cS s.length h with
     | some lo,some hi=>if lo<=hi/\hi<=s.length then some (.str ((s.drop lo).take (hi - lo)))else none
     | _,_=>none
   | _=>none
 | some ⟨.slice el,_,_,_⟩=>match x with
   | .sl n cells tk=>match tab el,cS 0 l,cS n h with
     | some te,some lo,some hi=>
       if lo=0/\hi=n then some (.sl n cells tk)
       else if lo<=hi/\hi<=n/\cells.length=n*te.size then some (.sl (hi - lo) ((cells.drop (lo*te.size)).take ((hi - lo)*te.size)) (qn tk te.size (hi==n)))else none
     | _,_,_=>none
   | .bk k o n c=>match tab el,cS 0 l,cS n h with
     | some te,some lo,some hi=>if lo<=hi/\hi<=c then some (.bk k (if c=lo then o else o+lo*te.size) (hi - lo) (c - lo))else none
     | _,_,_=>none
   | _=>none
 | _=>none
theorem ahG {l h:Option MV}:vR tab t m l h=sh tab m l h (tab t):=by
 unfold vR sh;cases tab t with
 | none=>rfl
 | some r=>obtain⟨d,_,_,_⟩:=r;cases d<;>cases m<;>rfl
theorem agf (h0:0<=i) (h1:i<=j) (h2:j<=(l.length:Int)):sh tab (.str l) (some (.v (.int kk i))) (some (.v (.int kk' j))) (some ⟨.string,a,b,z⟩)=some (.str ((l.drop i.toNat).take (j.toNat - i.toNat))):=by
 have e1:0<=j:=by omega
 simp only[sh,cS,if_pos h0,if_pos e1];rw[if_pos ⟨by omega,by omega⟩]
theorem acA (h0:0<=i) (h1:i<=(l.length:Int)):sh tab (.str l) (some (.v (.int kk i))) none (some ⟨.string,a,b,z⟩)=some (.str (l.drop i.toNat)):=by
 simp only[sh,cS,if_pos h0];rw[if_pos ⟨by omega,by omega⟩,List.take_of_length_le (by simp)]
theorem acB (h1:0<=j) (h2:j<=(l.length:Int)):sh tab (.str l) none (some (.v (.int kk j))) (some ⟨.string,a,b,z⟩)=some (.str (l.take j.toNat)):=by
 simp only[sh,cS,if_pos h1];rw[if_pos ⟨by omega,by omega⟩];simp
def B7 (k o lo hi c:Nat):Option cn->Option MV
 | some te=>some (.bk k (if c=lo then o else o+lo*te.size) (hi - lo) (c - lo))
 | none=>none
theorem agh (h0:0<=i) (h1:i<=j) (h2:j<=(c:Int)):sh tab (.bk k o n c) (some (.v (.int kk i))) (some (.v (.int kk' j))) (some ⟨.slice el,a,b,z⟩)=B7 k o i.toNat j.toNat c (tab el):=by
 have e1:0<=j:=by omega
 simp only[sh,cS,if_pos h0,if_pos e1,B7];cases tab el with
 | none=>rfl
 | some te=>simp only;rw[if_pos ⟨by omega,by omega⟩]
theorem acC (h0:0<=i) (h1:i<=(n:Int)) (h2:n<=c):sh tab (.bk k o n c) (some (.v (.int kk i))) none (some ⟨.slice el,a,b,z⟩)=B7 k o i.toNat n c (tab el):=by
 simp only[sh,cS,if_pos h0,B7];cases tab el with
 | none=>rfl
 | some te=>simp only;rw[if_pos ⟨by omega,h2⟩]
theorem acD (h1:0<=j) (h2:j<=(c:Int)):sh tab (.bk k o n c) none (some (.v (.int kk j))) (some ⟨.slice el,a,b,z⟩)=B7 k o 0 j.toNat c (tab el):=by
 simp only[sh,cS,if_pos h1,B7];cases tab el with
 | none=>rfl
 | some te=>simp only;rw[if_pos ⟨by omega,by omega⟩]
theorem agi:B7 k o 0 n c (some ⟨u,a,b,z⟩)=some (.bk k o n c):=by
 simp only[B7]
 congr 2
 split<;>simp
theorem acE {lo hi:Nat} (h:c≠lo):B7 k o lo hi c (some ⟨u,a,b,z⟩)=some (.bk k (o+lo*a) (hi - lo) (c - lo)):=by
 simp only[B7,if_neg h]
theorem acF {lo hi:Nat} (h:c=lo):B7 k o lo hi c (some ⟨u,a,b,z⟩)=some (.bk k o (hi - lo) (c - lo)):=by
 simp only[B7,if_pos h]
def Ir (n lo hi:Nat) (cs:List MV) (tk:Tok):Option cn->Option MV
 | some te=>if lo=0/\hi=n then some (.sl n cs tk)
    else if lo<=hi/\hi<=n/\cs.length=n*te.size then some (.sl (hi - lo) ((cs.drop (lo*te.size)).take ((hi - lo)*te.size)) (qn tk te.size (hi==n)))else none
 | none=>none
theorem yY {l h:Option MV} {lo hi:Nat} (hl:cS 0 l=some lo) (hh:cS n h=some hi):sh tab (.sl n cs tk) l h (some ⟨.slice el,a,b,z⟩)=Ir n lo hi cs tk (tab el):=by
 show(match tab el,cS 0 l,cS n h with
   | some te,some lo,some hi=>
     if lo=0/\hi=n then some (MV.sl n cs tk)
     else if lo<=hi/\hi<=n/\cs.length=n*te.size then some (.sl (hi - lo) ((cs.drop (lo*te.size)).take ((hi - lo)*te.size)) (qn tk te.size (hi==n)))else none
   | _,_,_=>none)=_
 rw[hl,hh];cases tab el<;>rfl
theorem agj (h0:0<=i) (h1:0<=j):sh tab (.sl n cs tk) (some (.v (.int kk i))) (some (.v (.int kk' j))) (some ⟨.slice el,a,b,z⟩)=Ir n i.toNat j.toNat cs tk (tab el):=yY (if_pos h0) (if_pos h1)
theorem acG (h0:0<=i):sh tab (.sl n cs tk) (some (.v (.int kk i))) none (some ⟨.slice el,a,b,z⟩)=Ir n i.toNat n cs tk (tab el):=yY (if_pos h0) rfl
theorem acH (h0:0<=j):sh tab (.sl n cs tk) none (some (.v (.int kk j))) (some ⟨.slice el,a,b,z⟩)=Ir n 0 j.toNat cs tk (tab el):=yY rfl (if_pos h0)
theorem acI:sh tab (.sl n cs tk) none none (some ⟨.slice el,a,b,z⟩)=Ir n 0 n cs tk (tab el):=yY rfl rfl
theorem KF {lo hi:Nat} (h0:lo=0) (h1:hi=n):Ir n lo hi cs tk (some ⟨u,a,b,z⟩)=some (.sl n cs tk):=if_pos ⟨h0,h1⟩
theorem GZ {lo hi:Nat} (h:lo≠0\/hi≠n) (h1:lo<=hi) (h2:hi<=n) (h3:cs.length=n*a):Ir n lo hi cs tk (some ⟨u,a,b,z⟩)=some (.sl (hi - lo) ((cs.drop (lo*a)).take ((hi - lo)*a)) (qn tk a (hi==n))):=by
 simp only[Ir];rw[if_neg (by omega),if_pos ⟨h1,h2,h3⟩]
def Is (x:MV):Option cn->Option cn->Option MV
 | some _,some ⟨.int k,_,_,_⟩=>match x with
   | .v (.int _ i)=>some (.v (.int k (k.wrap i)))
   | _=>none
 | some ⟨.string,_,_,_⟩,some ⟨.string,_,_,_⟩=>match x with
   | .str l=>some (.str l)
   | _=>none
 | _,_=>none
theorem ahH:Av tab t t' m=Is m (tab t) (tab t'):=by
 unfold Av Is;cases tab t with
 | none=>rfl
 | some r=>
   obtain⟨d,_,_,_⟩:=r;cases tab t' with
   | none=>cases d<;>rfl
   | some r'=>
     obtain⟨d',_,_,_⟩:=r'
     cases d'<;>first
      | (cases d<;>rfl)
      | (cases m<;>first | (cases d<;>rfl) | (rename_i v;cases v<;>cases d<;>rfl))
theorem Yu {k':IntKind} {r:cn}:Is (.v (.int kk i)) (some r) (some ⟨.int k',a,b,z⟩)=some (.v (.int k' (k'.wrap i))):=rfl
theorem Yv:Is (.str l) (some ⟨.string,a,b,z⟩) (some ⟨.string,a',b',z'⟩)=some (.str l):=rfl
theorem acJ:Is m (some ⟨.string,a,b,z⟩) (some ⟨.slice el,a',b',z'⟩)=none:=rfl
theorem acK:Is m (some ⟨.slice el,a,b,z⟩) (some ⟨.string,a',b',z'⟩)=none:=rfl
theorem acL:Is m (some ⟨.pointer el,a,b,z⟩) (some ⟨.unsafePointer,a',b',z'⟩)=none:=rfl
theorem acM:Is m (some ⟨.unsafePointer,a,b,z⟩) (some ⟨.pointer el,a',b',z'⟩)=none:=rfl
def G3:List (Nat×Operand)->List MV->List (Nat×MV)
 | (i,_)::l,m::ms=>(i,m)::G3 l ms
 | _,_=>[]
theorem OQ (l:List (Nat×Operand)) (ms:List MV):fK l.toArray ms=G3 l ms:=by
 unfold fK;simp only;induction l generalizing ms with
 | nil=>cases ms<;>rfl
 | cons p l ih=>cases ms with
   | nil=>rfl
   | cons m ms=>obtain⟨i,x⟩:=p;simp only[List.map_cons,List.zip_cons_cons,G3];rw[ih]
theorem TR {ms:List MV}:G3 [] ms=[]:=by cases ms<;>rfl
theorem OS {x:Operand} {l:List (Nat×Operand)} {ms:List MV}:G3 ((n,x)::l) (m::ms)=(n,m)::G3 l ms:=rfl
def FG (pl:Nat->Option (Nat×Nat)) (cs:List MV) (x:MV) (rest:List (Nat×MV)):Option (Nat×Nat)->Option (List MV)
 | none=>none
 | some (off,size)=>if(dy x).length=size/\off+size<=cs.length then lp pl (dP cs off (dy x)) rest else none
def kK (l:List (Nat×Nat)) (i:Nat):Option (Nat×Nat):=l[i]?
theorem TT {p:Nat×Nat} {l:List (Nat×Nat)}:kK (p::l) 0=some p:=rfl
theorem TU {p:Nat×Nat} {l:List (Nat×Nat)}:kK (p::l) (n+1)=kK l n:=rfl
def RF (a:Nat) (k:Nat):Option (Nat×Nat):=some (k*a,a)
theorem OT:RF a k=some (k*a,a):=rfl
theorem OU {pl:Nat->Option (Nat×Nat)}:lp pl cs []=some cs:=rfl
theorem KG {pl:Nat->Option (Nat×Nat)} {rest:List (Nat×MV)}:lp pl cs ((n,m)::rest)=FG pl cs m rest (pl n):=by
 rw[lp];cases h:pl n<;>rfl
theorem acN {pl:Nat->Option (Nat×Nat)} {rest:List (Nat×MV)} (h:(dy m).length=a/\off+a<=cs.length):FG pl cs m rest (some (off,a))=lp pl (dP cs off (dy m)) rest:=if_pos h
def bsT (tab:bS) (len:Nat) (parts:List (Nat×MV)):Option cn->Option MV
 | some ⟨.slice el,_,_,_⟩=>match tab el with
   | some te=>if 0<len*te.size/\len*te.size<=16777216/\0<te.zero.length/\len<=maxLen then
     (lp (fun k=>some (k*te.size,te.size)) (gO te.zero (len*te.size)) parts).map fun cs=>.sl len cs .full
     else if len=0/\parts=[]then some (.sl 0 [] .full)else none
   | none=>none
 | _=>none
theorem ahI {parts:List (Nat×MV)}:kF tab t n parts=bsT tab n parts (tab t):=by
 unfold kF bsT;cases tab t with
 | none=>rfl
 | some r=>obtain⟨d,_,_,_⟩:=r;cases d<;>rfl
def Yw (n:Nat) (parts:List (Nat×MV)):Option cn->Option MV
 | some te=>if 0<n*te.size/\n*te.size<=16777216/\0<te.zero.length/\n<=maxLen then
    (lp (fun k=>some (k*te.size,te.size)) (gO te.zero (n*te.size)) parts).map fun cs=>.sl n cs .full
   else if n=0/\parts=[]then some (.sl 0 [] .full)else none
 | none=>none
theorem acO {parts:List (Nat×MV)}:bsT tab n parts (some ⟨.slice el,a,b,z⟩)=Yw n parts (tab el):=by unfold bsT Yw;rfl
theorem agk {r:cn}:Yw 0 [] (some r)=some (.sl 0 [] .full):=by simp[Yw]
theorem KH (h:z.length=a) (h0:0<a):∀n,gO z (n*a)=(List.replicate n z).flatten:=by
 intro n;induction n with
 | zero=>simp[gO]
 | succ n ih=>
   rw[List.replicate_succ',List.flatten_append, <-ih];simp only[gO,Nat.succ_mul];rw[List.range_add,List.map_append]
   congr 1
   subst h;simp only[List.map_map,List.flatten_cons,List.flatten_nil,List.append_nil];apply List.ext_getElem?;intro i;simp only[List.getElem?_map,List.getElem?_range];by_cases hi:i<z.length
   ·simp[hi,Nat.mod_eq_of_lt hi]
   ·simp[List.getElem?_eq_none (Nat.le_of_not_lt hi),hi]
def mK:Nat->List MV->List MV
 | 0,_=>[]
 | n+1,z=>z++mK n z
theorem KI:∀n,(List.replicate n z).flatten=mK n z
 | 0=>rfl
 | n+1=>by rw[List.replicate_succ,List.flatten_cons,KI n];rfl
theorem acP:mK 1 z=z:=by simp[mK]
theorem acQ:mK 2 z=z++z:=by simp[mK]
theorem acR:mK 3 z=z++(z++z):=by simp[mK]
theorem acS:mK 4 z=z++(z++(z++z)):=by simp[mK]
theorem acT:mK 5 z=z++(z++(z++(z++z))):=by simp[mK]
theorem acU:mK 6 z=z++(z++(z++(z++(z++z)))):=by simp[mK]
theorem acV:mK 7 z=z++(z++(z++(z++(z++(z++z))))):=by simp[mK]
theorem acW:mK 8 z=z++(z++(z++(z++(z++(z++(z++z)))))):=by simp[mK]
theorem acX {parts:List (Nat×MV)} (h:z.length=a) (h0:0<n*a) (h1:n*a<=16777216):Yw n parts (some ⟨u,a,b,z⟩)=(lp (RF a) (mK n z) parts).map (MV.sl n · .full):=by
 have ha:0<a:=by rcases Nat.eq_zero_or_pos a with e | e; · subst e;omega
                 ·exact e
 have hn:n<=maxLen:=by
  have:n*1<=n*a:=Nat.mul_le_mul_left _ ha;simp[maxLen];omega
 rw[<-KI, <-KH h ha];exact if_pos ⟨h0,h1,by show 0<z.length;omega,hn⟩
def bT (b:Bool):Option cn->Option MV
 | some ⟨.bool,_,_,_⟩=>some (.v (.bool b))
 | _=>none
theorem TV {a b:Bool}:cM tab .eql t (.v (.bool a)) (.v (.bool b))=bT (a==b) (tab t):=by
 simp only[cM,bT];cases tab t with
 | none=>rfl
 | some r=>obtain⟨d,_,_,_⟩:=r;cases d<;>rfl
theorem TW {a b:Bool}:cM tab .neq t (.v (.bool a)) (.v (.bool b))=bT (!(a==b)) (tab t):=by
 simp only[cM,bT];cases tab t with
 | none=>rfl
 | some r=>obtain⟨d,_,_,_⟩:=r;cases d<;>rfl
theorem agl {p:Bool}:bT p (some ⟨.bool,a,b,z⟩)=some (.v (.bool p)):=rfl
def pT (b:Bool):Option cn->Option MV
 | some ⟨.pointer _,_,_,_⟩=>some (.v (.bool b))
 | _=>none
theorem agm {p:Bool}:pT p (some ⟨.pointer el,a,b,z⟩)=some (.v (.bool p)):=rfl
theorem acY {p:Bool}:mF tab .eql t p=pT p (tab t):=by
 simp only[mF,pT];cases tab t with
 | none=>rfl
 | some r=>obtain⟨d,_,_,_⟩:=r;cases d<;>rfl
theorem acZ {p:Bool}:mF tab .neq t p=pT (!p) (tab t):=by
 simp only[mF,pT];cases tab t with
 | none=>rfl
 | some r=>obtain⟨d,_,_,_⟩:=r;cases d<;>rfl
section
variable {op:BinOp} {la lb:List UInt8}
theorem TX:cM tab op t (.v (.pointer none)) (.v (.pointer none))=mF tab op t true:=by cases op<;>rfl
theorem TZ:cM tab op t (.ptr k o) (.v (.pointer none))=mF tab op t false:=by cases op<;>rfl
theorem T0:cM tab op t (.v (.pointer none)) (.ptr k o)=mF tab op t false:=by cases op<;>rfl
theorem T1:cM tab op t (.cU cs o) (.v (.pointer none))=mF tab op t false:=by cases op<;>rfl
theorem T6:cM tab op t (.v (.pointer none)) (.cU cs o)=mF tab op t false:=by cases op<;>rfl
theorem T7:cM tab op t (.agg cs) (.agg ds)=none:=by cases op<;>rfl
theorem T8:cM tab .eql t (.str la) (.str lb)=some (.v (.bool (la==lb))):=rfl
theorem T_:cM tab .neq t (.str la) (.str lb)=some (.v (.bool (!(la==lb)))):=rfl
theorem Ua:cM tab .lss t (.str la) (.str lb)=some (.v (.bool (Op.bytesLess la lb))):=rfl
theorem Ub:cM tab .leq t (.str la) (.str lb)=some (.v (.bool (Op.bytesLess la lb||la==lb))):=rfl
theorem Uc:cM tab .gtr t (.str la) (.str lb)=some (.v (.bool (!(Op.bytesLess la lb||la==lb)))):=rfl
theorem Ud:cM tab .geq t (.str la) (.str lb)=some (.v (.bool (!(Op.bytesLess la lb)))):=rfl
theorem OV (h:la.length+lb.length<=9223372036854775807):cM tab .add t (.str la) (.str lb)=some (.str (la++lb)):=if_pos h
end
theorem KJ (h:tab t=some ⟨.pointer el,a,b,z⟩) {s:Nat} (h':tab el=some ⟨u,s+1,b',z'⟩) {op:BinOp}:cM tab op t (.ptr k o) (.ptr k o)=mF tab op t true:=by
 cases op<;>simp[cM,h,h',mF]
theorem aG (b:UInt8):fp b= .v (.int .u8 b.toNat):=rfl
theorem ac0 {n k:Nat}:((n:Int)+(k:Int)).toNat=n+k:=by omega
theorem Yx {n:Nat}:((n:Int)+1).toNat=n+1:=by omega
theorem Yy {n:Nat}:((n:Int)+2).toNat=n+2:=by omega
theorem Yz {n:Nat}:((n:Int) - 1).toNat=n - 1:=by omega
theorem Ue {n:Nat}:((n+1:Nat):Int) - 1=n:=by omega
theorem ac1 (h0:0<=i) (h1:i<=255):IntKind.u8.wrap i=i:=by
 simp only[IntKind.wrap,IntKind.signed,IntKind.bits];simp;omega
theorem YA (h0:0<=i) (h1:i<=18446744073709551615):IntKind.u64.wrap i=i:=by
 simp only[IntKind.wrap,IntKind.signed,IntKind.bits];simp;omega
theorem YB (h:0<=j):cM tab .shr t (.v (.int kk i)) (.v (.int kk' j))=some (.v (.int kk (i.fdiv (2 ^ (min j.toNat kk.bits))))):=by
 have:¬j<0:=by omega
 simp[cM,yu,this]
theorem YC:cM tab .and t (.v (.int kk i)) (.v (.int kk j))=some (.v (.int kk (kk.wrap (BitVec.ofInt kk.bits i&&& BitVec.ofInt kk.bits j).toNat))):=by simp[cM,qm]
theorem YD (h:j≠0):cM tab .rem t (.v (.int kk i)) (.v (.int kk j))=some (.v (.int kk (i.tmod j))):=Te h
theorem YE (h:j≠0):cM tab .quo t (.v (.int kk i)) (.v (.int kk j))=some (.v (.int kk (kk.wrap (i.tdiv j)))):=Td h
end
section
variable {x y z:Operand} {t t':TypeId} {f:Nat} {q:BinOp} {r:UnOp} {as_ Tq:Array Operand} {ts:Array TypeId} {l h k:Option Operand} {fn:Fn} {ps:Array (Nat×Operand)} {bb:Bool}
theorem YF:cg (.move x)=false:=rfl
theorem OW:cg (.assign x)=false:=rfl
theorem YG:cg (.pick x y z)=false:=rfl
theorem It:cg (.nilCheck x)=false:=rfl
theorem Uf:cg (.binOp q t x y t')=false:=rfl
theorem YH:cg (.unOp r t x)=false:=rfl
theorem KK:cg (.convert t t' x)=false:=rfl
theorem FH:cg (.fieldAddr t x f)=false:=rfl
theorem Ug:cg (.field t x f)=false:=rfl
theorem FI:cg (.indexAddr t x y)=false:=rfl
theorem Uh:cg (.index t x y)=false:=rfl
theorem KL:cg (.extract x f)=false:=rfl
theorem Ui:cg (.slice t x l h k)=false:=rfl
theorem Uj:cg (.build t ps)=false:=rfl
theorem Iu:cg (.makeFunc fn as_ Tq)=false:=rfl
theorem yZ:cg (.makeInterface t x)=false:=rfl
theorem YI:cg (.load t x)=false:=rfl
theorem Uk:cg (.store t x y)=false:=rfl
theorem ac2:cg (.box t x)=false:=rfl
theorem Ul:cg (.alloc t)=false:=rfl
theorem DB:cg (.buildSlice t f ps)=false:=rfl
theorem KM:cg (.makeMap t l)=false:=rfl
theorem OZ:cg (.lookup t x y bb)=false:=rfl
theorem FJ:cg (.mapUpdate t x y z)=false:=rfl
theorem O_:cg (.insert t x y z)=false:=rfl
theorem FK:cg (.makeSlice t x y)=false:=rfl
theorem Um:cg (.range t x)=false:=rfl
theorem YJ:cg (.next x bb)=false:=rfl
theorem Un:cg (.entry x)=false:=rfl
theorem DC:cg (.typeAssert x t t' bb)=false:=rfl
theorem Uo:cg (.panic x)=false:=rfl
theorem Iv:cg (.mapEntry t x y)=false:=rfl
theorem DE:cg (.entryStore t x y z)=false:=rfl
theorem YK:cg (.call {callee:=.builtin .len,args:=as_,argTypes:=ts})=false:=rfl
theorem YL:cg (.call {callee:=.builtin .max,args:=as_,argTypes:=ts})=false:=rfl
theorem YM:cg (.call {callee:=.builtin .min,args:=as_,argTypes:=ts})=false:=rfl
theorem uJ:cg (.call {callee:=.builtin .unsafeSliceData,args:=as_,argTypes:=ts})=false:=rfl
theorem y_:cg (.call {callee:=.builtin .unsafeString,args:=as_,argTypes:=ts})=false:=rfl
theorem Pb:cg (.call {callee:=.builtin .clear,args:=as_,argTypes:=ts})=false:=rfl
theorem Up:cg (.call {callee:=.builtin .copy,args:=as_,argTypes:=ts})=false:=rfl
theorem YN:cg (.call {callee:=.builtin .cap,args:=as_,argTypes:=ts})=false:=rfl
theorem KN:cg (.call {callee:=.builtin .delete,args:=as_,argTypes:=ts})=false:=rfl
theorem Pc:cg (.call {callee:=.builtin .print,args:=as_,argTypes:=ts})=false:=rfl
theorem Iw:cg (.call {callee:=.builtin .println,args:=as_,argTypes:=ts})=false:=rfl
theorem Ix:cg (.call {callee:=.builtin .recover,args:=as_,argTypes:=ts})=false:=rfl
theorem ac3:cg (.call {callee:=.value x,args:=as_,argTypes:=ts})=true:=rfl
theorem ac4:cg (.call {callee:=.builtin .append,args:=as_,argTypes:=ts})=true:=rfl
theorem ac5:Fy .one=false:=rfl
theorem ac6:Fy .av=false:=rfl
theorem agn:Fy .rd=false:=rfl
theorem ago:Fy .fk=true:=rfl
end
theorem aC.next {σ :Type} {l K:List Nat} {ks:List MV} {ms: σ ->List MV} {I: σ ->VH->Prop} {μ : σ ->Nat} {s: σ} {Q:VQ} {e:Env} {O:VH} (s': σ) (hI:I s' O) (hk:looks e K=some ks:=by exact rfl) (hl:looks e l=some (ms s'):=by exact rfl) (hm: μ s'< μ s:=by first | omega | (dsimp only;omega)):aC l K ks ms I μ s Q .normal e O:=⟨hk,s',hl,hI,hm⟩
set_option linter.defProp false in
def ws0:=And.intro @YF<|And.intro @OW<|And.intro @YG<|And.intro @It<|And.intro @Uf<|And.intro @YH<|And.intro @KK<|And.intro @FH<|And.intro @Ug<|And.intro @FI<|And.intro @Uh<|And.intro @KL<|And.intro @Ui<|And.intro @Uj<|And.intro @Iu<|And.intro @yZ<|And.intro @YI<|And.intro @Uk<|And.intro @ac2<|And.intro @Ul<|And.intro @DB<|And.intro @KM<|And.intro @OZ<|And.intro @FJ<|And.intro @O_<|And.intro @FK<|And.intro @Um<|And.intro @YJ<|And.intro @Un<|And.intro @DC<|And.intro @Uo<|And.intro @Iv<|And.intro @DE<|And.intro @YK<|And.intro @YL<|And.intro @YM<|And.intro @uJ<|And.intro @y_<|And.intro @Pb<|And.intro @Up<|And.intro @YN<|And.intro @KN<|And.intro @Pc<|And.intro @Iw<|And.intro @Ix<|And.intro @ac3<|And.intro @ac4<|And.intro @ac5<|And.intro @ac6<|And.intro @agn<|And.intro @ago<|And.intro @ab6<|And.intro @XJ<|And.intro @XK<|And.intro @af1<|And.intro @XL<|And.intro @XM<|And.intro @XN<|And.intro @XO<|And.intro @Ku<|And.intro @FB<|And.intro @XP<|And.intro @XQ<|And.intro @Tt<|And.intro @ab7<|And.intro @Tu<|And.intro @Tv<|And.intro @Tw<|And.intro @ab8<|And.intro @XT<|And.intro @Ou<|And.intro @Tx<|And.intro @XU<|And.intro @Im<|And.intro @Ov<|And.intro @Ow<|And.intro @Ty<|And.intro @BI<|And.intro @XV @XW
set_option linter.defProp false in
def ws1:=And.intro @Tz<|And.intro @Oy<|And.intro @Io<|And.intro @FC<|And.intro @ab9<|And.intro @ab_<|And.intro @aca<|And.intro @acb<|And.intro @acd<|And.intro @Ip<|And.intro @TA<|And.intro @Kv<|And.intro @uu<|And.intro @yJ<|And.intro @Bz<|And.intro @w6<|And.intro @yP<|And.intro @yQ<|And.intro @BG<|And.intro @qK<|And.intro @ur<|And.intro @yH<|And.intro @yI<|And.intro @By<|And.intro @qJ<|And.intro @Kn<|And.intro @RD<|And.intro @RE<|And.intro @Az<|And.intro @xJ<|And.intro @uC<|And.intro @uD<|And.intro @uE<|And.intro @yE<|And.intro @Bv<|And.intro @uq<|And.intro @Bw<|And.intro @yO<|And.intro @BD<|And.intro @uz<|And.intro @BE<|And.intro @vW<|And.intro @GN<|And.intro @Ki<|And.intro @Rm<|And.intro @Rn<|And.intro @Ro<|And.intro @Rp<|And.intro @Rq<|And.intro @Rr<|And.intro @Rs<|And.intro @GO<|And.intro @GQ<|And.intro @BA<|And.intro @GS<|And.intro @w7<|And.intro @Dk<|And.intro @GU<|And.intro @yM<|And.intro @ux<|And.intro @Dl<|And.intro @uy<|And.intro @Dm<|And.intro @yN<|And.intro @Dn<|And.intro @Dq<|And.intro @w8<|And.intro @o9<|And.intro @GV<|And.intro @Dr<|And.intro @Kj<|And.intro @Kk<|And.intro @Kl<|And.intro @BB<|And.intro @Oq<|And.intro @Ds<|And.intro @Km<|And.intro @Dt<|And.intro @s9 @uA
set_option linter.defProp false in
def ws2:=And.intro @aeh<|And.intro @aei<|And.intro @Rv<|And.intro @Rw<|And.intro @Rx<|And.intro @Ry<|And.intro @yF<|And.intro @yG<|And.intro @Di<|And.intro @Dj<|And.intro @aj<|And.intro @Dh<|And.intro @wrap_i64<|And.intro @Gu<|And.intro @Bu<|And.intro @Ko<|And.intro @RA<|And.intro @RB<|And.intro @wY<|And.intro @Db<|And.intro @Gw<|And.intro @yC<|And.intro @uk<|And.intro @Dc<|And.intro @um<|And.intro @Dd<|And.intro @yD<|And.intro @De<|And.intro @wZ<|And.intro @Df<|And.intro @J5<|And.intro @Gx<|And.intro @Gy<|And.intro @TL<|And.intro @J7<|And.intro @J8<|And.intro @N5<|And.intro @Gz<|And.intro @Dg<|And.intro @J_<|And.intro @KE<|And.intro @s8<|And.intro @uo<|And.intro @Ri<|And.intro @Rj<|And.intro @J2<|And.intro @Rk<|And.intro @Gs<|And.intro @C_<|And.intro @Da<|And.intro @yB<|And.intro @Bt<|And.intro @J3<|And.intro @lN<|And.intro @J4<|And.intro @Gt<|And.intro @GA<|And.intro @GB<|And.intro @GC<|And.intro @GD<|And.intro @GF<|And.intro @GG<|And.intro @GH<|And.intro @GI<|And.intro @GJ<|And.intro @Ka<|And.intro @Kb<|And.intro @au<|And.intro @aY<|And.intro @uF<|And.intro @Du<|And.intro @TD<|And.intro @X8<|And.intro @TF<|And.intro @TG<|And.intro @TI<|And.intro @TK<|And.intro @OL<|And.intro @OM @aek
set_option linter.defProp false in
def ws3:=And.intro @ace<|And.intro @X_<|And.intro @Ya<|And.intro @acf<|And.intro @acg<|And.intro @ach<|And.intro @Yb<|And.intro @Yc<|And.intro @ahC<|And.intro @aci<|And.intro @ahD<|And.intro @ahE<|And.intro @acj<|And.intro @Ye<|And.intro @Yf<|And.intro @TM<|And.intro @Yg<|And.intro @Yh<|And.intro @Yi<|And.intro @ack<|And.intro @Yj<|And.intro @Yk<|And.intro @acm<|And.intro @acn<|And.intro @ahF<|And.intro @af6<|And.intro @af7<|And.intro @af8<|And.intro @af9<|And.intro @aco<|And.intro @Yl<|And.intro @Ym<|And.intro @acp<|And.intro @acq<|And.intro @Yn<|And.intro @Iq<|And.intro @FE<|And.intro @acw<|And.intro @ON<|And.intro @Yr<|And.intro @KC<|And.intro @KD<|And.intro @eB<|And.intro @sd<|And.intro @DA<|And.intro @OP<|And.intro @af_<|And.intro @aga<|And.intro @agb<|And.intro @agc<|And.intro @agd<|And.intro @age<|And.intro @Ys<|And.intro @TP<|And.intro @Yt<|And.intro @acx<|And.intro @acy<|And.intro @acz<|And.intro @ahG<|And.intro @agf<|And.intro @acA<|And.intro @acB<|And.intro @agh<|And.intro @acC<|And.intro @acD<|And.intro @agi<|And.intro @acE<|And.intro @acF<|And.intro @agj<|And.intro @acG<|And.intro @acH<|And.intro @acI<|And.intro @KF<|And.intro @GZ<|And.intro @ahH<|And.intro @Yu<|And.intro @Yv<|And.intro @acJ<|And.intro @acK @acL
set_option linter.defProp false in
def ws4:=And.intro @acM<|And.intro @OQ<|And.intro @TR<|And.intro @OS<|And.intro @OU<|And.intro @KG<|And.intro @TT<|And.intro @TU<|And.intro @OT<|And.intro @acN<|And.intro @ahI<|And.intro @acO<|And.intro @agk<|And.intro @acX<|And.intro @acP<|And.intro @acQ<|And.intro @acR<|And.intro @acS<|And.intro @acT<|And.intro @acU<|And.intro @acV<|And.intro @acW<|And.intro @TV<|And.intro @TW<|And.intro @agl<|And.intro @agm<|And.intro @acY<|And.intro @acZ<|And.intro @TX<|And.intro @TZ<|And.intro @T0<|And.intro @T1<|And.intro @T6<|And.intro @T7<|And.intro @T8<|And.intro @T_<|And.intro @Ua<|And.intro @Ub<|And.intro @Uc<|And.intro @Ud<|And.intro @OV<|And.intro @ac0<|And.intro @Yx<|And.intro @Yy<|And.intro @Yz<|And.intro @Ue<|And.intro @ac1<|And.intro @YA<|And.intro @YD<|And.intro @YE<|And.intro @YB<|And.intro @YC<|And.intro @Option.map_none.{0,0}<|And.intro @Option.bind_none.{0,0}<|And.intro @Int.zero_sub<|And.intro @Bool.not_true<|And.intro @Bool.not_false<|And.intro @Bool.or_false<|And.intro @Bool.or_true<|And.intro @Bool.true_or<|And.intro @Bool.false_or<|And.intro @Bool.and_true<|And.intro @Bool.and_false<|And.intro @Bool.true_and<|And.intro @Bool.false_and<|And.intro @decide_true<|And.intro @decide_eq_true<|And.intro @decide_eq_false<|And.intro @Nat.zero_add<|And.intro @Nat.mul_one<|And.intro @Int.toNat_natCast<|And.intro @Nat.add_zero<|And.intro @Nat.sub_zero<|And.intro @List.set_cons_zero.{0}<|And.intro @List.set_cons_succ.{0}<|And.intro @List.take_succ_cons.{0}<|And.intro @List.take_zero.{0}<|And.intro @List.drop_succ_cons.{0}<|And.intro @List.drop_zero.{0} @List.getElem?_toArray.{0}
set_option linter.defProp false in
def ws5:=And.intro @List.getElem?_cons_zero.{0}<|And.intro @List.getElem?_cons_succ.{0}<|And.intro @Option.bind_some.{0,0}<|And.intro @Option.map_some.{0,0}<|And.intro @List.map_cons.{0,0}<|And.intro @List.map_nil.{0,0}<|And.intro @List.getElem?_map.{0,0}<|And.intro @List.getElem_map.{0,0}<|And.intro @if_true.{1}<|And.intro @if_false.{1}<|And.intro @cond_true.{1}<|And.intro @cond_false.{1}<|And.intro @List.toList_toArray.{0}<|And.intro @List.cons_append.{0}<|And.intro @List.nil_append.{0}<|And.intro @true_and<|And.intro @and_true<|And.intro @eq_self.{1} @Bool.false_eq_true
set_option linter.defProp false in
def ws:=And.intro @ws0<|And.intro @ws1<|And.intro @ws2<|And.intro @ws3<|And.intro @ws4 @ws5
set_option linter.defProp false in
def ds:=And.intro @eB<|And.intro @sd<|And.intro @DA<|And.intro @Az<|And.intro @xJ<|And.intro @uC<|And.intro @uD<|And.intro @uE<|And.intro @acr<|And.intro @acs<|And.intro @acu<|And.intro @acv<|And.intro @Yo<|And.intro @TN<|And.intro @TO<|And.intro @Yp<|And.intro @Yq<|And.intro @List.length_cons.{0}<|And.intro @List.length_nil.{0}<|And.intro @List.all_cons.{0}<|And.intro @List.all_nil.{0}<|And.intro @Bool.and_true<|And.intro @Bool.true_and<|And.intro @Bool.and_self<|And.intro @List.length_set.{0}<|And.intro @List.length_append.{0}<|And.intro @List.length_map.{0,0}<|And.intro @and_true<|And.intro @true_and<|And.intro @eq_self.{1}<|And.intro @Option.some.injEq.{0}<|And.intro @bV.cells.injEq<|And.intro @ne_eq.{1} @not_false_eq_true
section
variable {G H:Gh} {n:Sz} {D:List Deferred} {e:Env} {a:Act} {P:Program} {tab:bS} {O O':VH} {w:World} {m m':MV} {u v:Value} {ops:Array Oper} {Q:VQ} {md:Md}
def zb (K:MV->VH->Prop):Option (MV×VH)->Prop
 | some (m,O)=>K m O
 | none=>False
theorem si {K:MV->VH->Prop}:zb K (some (m,O))=K m O:=rfl
theorem bX.G4 (i:Nat) {fuel:Nat} {listed:Array Bool} {l:List Oper} {o:Oper} (h:zb (fun m O'=>bX P n D ⟨l⟩ fuel (listed.setIfInBounds i true) (aV o.dst m e) O' Q) (gV tab .av o e O)) (ht:aJ P tab:=by exact aa) (ho:l[i]?=some o:=by exact rfl) (hs:Region.noSelect ⟨l⟩=true:=by kernel_rfl) (hf:Region.free .any ⟨l⟩ listed i=true:=by kernel_rfl) (hr:(Region.ready .any ⟨l⟩ listed).contains i=true:=by kernel_rfl) (hg:aK ⟨l⟩ o e=some true:=by exact rfl) (hd:bf n o.dst=true:=by exact rfl):bX P n D ⟨l⟩ (fuel+1) listed e O Q:=by
 generalize hv:gV tab .av o e O=v at h;cases v with
 | none=>exact h.elim
 | some p=>
   obtain⟨m,O'⟩:=p;obtain⟨h1,rfl⟩:=nv hv;exact bX.Rh ht (by simpa using ho) hs hf hr hg h1 hd h
theorem aH.st {i:Nat} {l:List Oper} {o:Oper} {M:MV->VH->Prop} {K:Env->VH->Prop} (hy:fC P n D o e O M) (h:∀m O',M m O'->K (aV o.dst m e) O') (ho:l[i]?=some o:=by exact rfl) (hg:aK ⟨l⟩ o e=some true:=by exact rfl) (hd:bf n o.dst=true:=by exact rfl):aH P n D ⟨l⟩ i e O Q K:=
 aH.fD (by simpa using ho) hg hd hy h
theorem aH.o1 {i:Nat} {l:List Oper} {o:Oper} {K:Env->VH->Prop} (h:zb (fun m O'=>K (aV o.dst m e) O') (cQ tab o e O)) (ht:aJ P tab:=by exact aa) (ho:l[i]?=some o:=by exact rfl) (hg:aK ⟨l⟩ o e=some true:=by exact rfl) (hd:bf n o.dst=true:=by exact rfl):aH P n D ⟨l⟩ i e O Q K:=by
 generalize hv:cQ tab o e O=v at h;cases v with
 | none=>exact h.elim
 | some p=>exact aH.op ht (by simpa using ho) hg hv hd h
theorem bX.bI (ix:List (Nat×Fl)) {fuel:Nat} {listed:Array Bool} {l:List Oper} {L:List (Fl×Oper)}
  (h:WL P tab n D .any ⟨l⟩ Q L e O) (ht:aJ P tab:=by exact aa) (hs:Region.noSelect ⟨l⟩=true:=by kernel_rfl) (hp:cz .any ⟨l⟩ fuel listed ix=true:=by kernel_rfl) (hL:nw l ix=some L:=by exact rfl):bX P n D ⟨l⟩ fuel listed e O Q:=(WL.sound ht h) fuel listed ix (se hL) (fun _=>⟨hs,hp⟩)
end
section
variable {G H:Gh} {n:Sz} {D:List Deferred} {e:Env} {a:Act} {P:Program} {tab:bS} {O O' B:VH} {w:World} {m m':MV} {u v:Value} {ops:Array Oper} {Q:VQ} {md:Md} {c d:Code} {σ :Type}
def aA {σ :Type} (l:List Nat) (ms: σ ->List MV) (I: σ ->VH->Prop) (Q:VQ):VQ:=fun x e O=>match x with
 | .normal=>∃s,looks e l=some (ms s)/\I s O
 | x=>Q x e O
theorem KO {l:List Nat} {ms: σ ->List MV} {I: σ ->VH->Prop} {i:Nat}:aA l ms I Q (.exit i) e O=Q (.exit i) e O:=rfl
theorem KP {l:List Nat} {ms: σ ->List MV} {I: σ ->VH->Prop} {i:Nat}:aA l ms I Q (.goto i) e O=Q (.goto i) e O:=rfl
theorem Pd {l:List Nat} {ms: σ ->List MV} {I: σ ->VH->Prop}:aA l ms I Q .ret e O=Q .ret e O:=rfl
theorem Iy {l:List Nat} {ms: σ ->List MV} {I: σ ->VH->Prop}:aA l ms I Q (.panic m) e O=Q (.panic m) e O:=rfl
theorem aA.mk {l:List Nat} {ms: σ ->List MV} {I: σ ->VH->Prop} (s: σ) (h2:I s O) (h1:looks e l=some (ms s):=by exact rfl):aA l ms I Q .normal e O:=⟨s,h1,h2⟩
theorem VC.join (ht:aJ P tab) (l:List Nat) (ms: σ ->List MV) (I: σ ->VH->Prop) (h1:VC P n D c e O (aA l ms I Q)) (h2:∀s O,I s O->WC P tab n D d (iI l (ms s) []) O Q):VC P n D (.seq c d) e O Q:=by
 refine VC.seq (VC.mono ?_ h1);intro x e O h;cases x with
 | normal=>
   obtain⟨s,h3,h4⟩:=h;exact VC.env (WC.sound ht (h2 s O h4)) (gW (e0:=[]) (fun t x h=>by simp[look]at h) h3)
 | _=>exact h
def Iz (P:Program) (n:Sz) (D:List Deferred) (b:Code) (Q:VQ):Env->VH->Prop:=fun e O=>VC P n D b e O Q
theorem Uq {b:Code}:Iz P n D b Q e O=VC P n D b e O Q:=rfl
theorem VC.ag (ht:aJ P tab) (h:WC P tab n D c e O (qo (Iz P n D d Q) Q)):VC P n D (.seq c d) e O Q:=by
 refine VC.seq (VC.mono ?_ (WC.sound ht h));intro x e O h;cases x<;>exact h
theorem VC.bA (h:VC P n D c e O (qo (Iz P n D d Q) Q)):VC P n D (.seq c d) e O Q:=by
 refine VC.seq (VC.mono ?_ h);intro x e O h;cases x<;>exact h
theorem VF.FM (ht:aJ P tab) {f:FuncId} {fn:Func} {c:Code} {args:List MV} {rs:List ResultVar} {R:fB->VH->Prop} (hf:P.funcs[f]?=some fn) (hb:fn.body=some c) (hk:(⟨fn.ntmps,0⟩:Sz)=n) (hr:fn.results.toList=rs) (hn:args.length<=n.n)
  (h:VC P n [] c (cc 0 args) O (BH tab rs R)):VF P f args O R:=by
 subst hk;refine VF.enter ht hf hb hn (VC.mono ?_ h);intro x e O hx
 have key:iy R O (gX tab e O rs)->∃m,cX tab fn e O=some m/\R (.ret m) O:=fun h=>by
  unfold cX;rw[hr, <-rq];generalize gX tab e O rs=z at h;unfold iy at h;split at h
  ·exact h.elim
  ·exact⟨_,rfl,h⟩
  ·rename_i l hl;refine⟨.tuple l,?_,h⟩
   match l,hl with
   | [],_=>rfl
   | [m],hl=>exact absurd rfl (hl m)
   | _::_::_,_=>rfl
 cases x<;>first | exact key hx | exact hx
theorem VF.bU {f:FuncId} {fn:Func} {c:Code} {args:List MV} {R:fB->VH->Prop} {Q':Prop} (k:Nat) (rs:List ResultVar) (hf:P.funcs[f]?=some fn) (q:Q') (ht:aJ P tab:=by exact aa) (hb:fn.body=some c:=by exact rfl) (hk:(⟨fn.ntmps,0⟩:Sz)=⟨k,0⟩:=by exact rfl) (hr:fn.results.toList=rs:=by exact rfl) (hn:args.length<=k:=by exact Nat.le_of_ble_eq_true rfl) (h:VC P ⟨k,0⟩ [] c (cc 0 args) O (BH tab rs R)=Q':=by conv=>lhs;simp only[cc,Nat.zero_add,Nat.reduceAdd]):VF P f args O R:=VF.FM ht hf hb hk hr hn (h.mpr q)
theorem VC.bH {ks:List MV} (ls Ks:List Nat) (ms: σ ->List MV) (I: σ ->VH->Prop) (μ : σ ->Nat) (s0: σ) (hI:I s0 O)
  (step:∀s O,I s O->VC P n D c (iI ls (ms s) (iI Ks ks [])) O (aC ls Ks ks ms I μ s Q)) (h0:looks e ls=some (ms s0):=by exact rfl) (hk:looks e Ks=some ks:=by exact rfl):VC P n D (.loop c) e O Q:=VC.ik ls Ks ms I μ s0 h0 hk hI step
theorem VC.agp {K:Env->VH->Prop} {id:Nat} (l:List Nat) (ms: σ ->List MV) (I: σ ->VH->Prop) (h1:VC P n D c e O (gU id (aA l ms I Q))) (h2:∀s O,I s O->K (iI l (ms s) []) O):VC P n D c e O (gU id (qo K Q)):=by
 intro G a w hw hf;refine wp_mono (h1 G a w hw hf) ?_;rintro y a' w' ⟨x,e',O',H,g1,g2,g3,g4,g5⟩
 have nor:∀{x':VX},x'= .normal\/x'= .exit id->(∃s,looks e' l=some (ms s)/\I s O')->FR H n D e' a'->XR H x' y->(∀e O,K e O->gU id (qo K Q) x' e O)->(∀e,FR H n D e a'->FRX H n D x' e a')->cf G n D (gU id (qo K Q)) y a' w':=fun hx ⟨s,h3,h4⟩ hf' hy hK hF=>
  ⟨_,iI l (ms s) [],O',H,g1,g2,hF _ (hf'.less (gW (e0:=[]) (fun t x h=>by simp[look]at h) h3)),hy,hK _ _ (h2 s O' h4)⟩
 cases x with
 | normal=>exact nor (.inl rfl) g5 g3 g4 (fun e O h=>h) (fun e h=>h)
 | exit i=>
   by_cases hi:i=id
   ·subst hi;simp only[gU,if_true]at g5;exact nor (.inr rfl) g5 g3 g4 (fun e O h=>by simp only[gU,if_true];exact h) (fun e h=>h)
   ·refine⟨.exit i,e',O',H,g1,g2,g3,g4,?_⟩;simp only[gU,hi,if_false]at g5 ⊢;exact g5
 | _=>exact⟨_,e',O',H,g1,g2,g3,g4,g5⟩
def ex1:MV->Bool
 | .v _=>true
 | .str _=>true
 | _=>false
def exM:MV->Bool
 | .v _=>true
 | .str _=>true
 | .agg cs=>cs.all ex1
 | _=>false
theorem DF (h:ex1 m=true) (h1:VR G m u):VR H m u:=by
 cases m with
 | v x=>have:=h1.ie;subst this;cases h1 with | v hp=>exact .v hp
 | str l=>cases h1;exact .str
 | _=>cases h
theorem DG (h:ex1 m=true) (h1:VR G m u) (h2:VR H m v):v=u:=by
 cases m with
 | v x=>rw[h1.ie,h2.ie]
 | str l=>cases h1;cases h2;rfl
 | _=>cases h
theorem ac7 (h:exM m=true) (h1:VR G m u):VR H m u:=by
 cases m with
 | v x=>exact DF (m:=.v x) rfl h1
 | str l=>exact DF (m:=.str l) rfl h1
 | agg cs=>
   cases h1 with
   | agg h2 h3=>exact .agg h2 fun i c u a b=>DF (List.all_eq_true.1 h c (List.mem_of_getElem? a)) (h3 i c u a b)
 | _=>cases h
theorem RG (h:exM m=true) (h1:VR G m u) (h2:VR H m v):v=u:=by
 cases m with
 | v x=>exact DG (m:=.v x) rfl h1 h2
 | str l=>exact DG (m:=.str l) rfl h1 h2
 | agg cs=>
   cases h1 with
   | agg h3 h4=>
     cases h2 with
     | agg h5 h6=>
       congr 2
       refine List.ext_getElem? fun i=>?_
       rename_i us vs;rcases Nat.lt_or_ge i cs.length with hi | hi
       ·have e1:=List.getElem?_eq_getElem (show i<us.length by omega);have e2:=List.getElem?_eq_getElem (show i<vs.length by omega);have e3:=List.getElem?_eq_getElem hi;rw[e1,e2]
        congr 1
        exact DG (List.all_eq_true.1 h _ (List.getElem_mem hi)) (h4 i _ _ e3 e1) (h6 i _ _ e3 e2)
       ·rw[List.getElem?_eq_none (by omega),List.getElem?_eq_none (by omega)]
 | _=>cases h
def sj (G:Gh) (J:VH->Prop) (x:World):Prop:=∃H O',Gh.Le G H/\WR H O' x/\J O'
theorem sj.le {J:VH->Prop} (h:G.Le H) {x:World} (hb:sj H J x):sj G J x:=by
 obtain⟨K,O',h1,h2,h3⟩:=hb;exact⟨K,O',h.trans h1,h2,h3⟩
theorem sj.ss {J:VH->Prop} {x:World} (h:sj G J x):SS G x:=by
 obtain⟨K,O',h1,h2,_⟩:=h;exact SS.le h1 h2.ss
def TE (brk:List Nat) (G:Gh) (J:VH->Prop) (j:Nat) (x:World):Prop:=SS G x/\(brk.contains j=false->sj G J x)
theorem TE.le {J:VH->Prop} {brk:List Nat} {j:Nat} {x:World} (h:G.Le H) (t:TE brk H J j x):TE brk G J j x:=⟨SS.le h t.1,fun k=>(t.2 k).le h⟩
theorem TE.mk {J:VH->Prop} {brk:List Nat} {j:Nat} {x:World} (h:sj G J x):TE brk G J j x:=⟨h.ss,fun _=>h⟩
def ab (P:Program) (n:Sz) (D:List Deferred) (ops:Array Oper) (brk:List Nat) (J:VH->Prop) (Ψ :Gh->Prop) (Z:Prop) (fuel:Nat) (listed:Array Bool) (e:Env) (O:VH) (Q:VQ):Prop:=
 (∀G H,Gh.Le G H-> Ψ G-> Ψ H)->Z->J O->∀G a w, Ψ G->WR G O w->FR G n D e a->iE P .any ops (cf G n D Q) (TE brk G J) fuel listed a w
theorem VC.oe {id:Nat} (brk:List Nat) (h:ab P n D ops brk (fun O'=>O.Ge O') (fun _=>True) (∀k,O.next<=k->O.hp k=none) ops.size (Array.replicate ops.size false) e O Q) (hm:P.follows .mixedOrders=true:=by kernel_rfl):VC P n D (.region id ops true) e O Q:=
 fun G a w hw hf=>wp_region_any hm (kf _ _ _ _ (h (fun _ _ _ _=>trivial) (fun k hk=>(hw.oY k hk).2.2) (VH.Ge.refl O) G a _ trivial (hw.drawn _) hf))
theorem ab.take {J:VH->Prop} {Z:Prop} {brk:List Nat} {Ψ :Gh->Prop} {fuel i:Nat} {listed:Array Bool} {o:Oper} (ho:ops[i]?=some o) (hs:Region.noSelect ops=true) (hf:Region.free .any ops listed i=true) (hr:(Region.ready .any ops listed).contains i=true) (hb:nu ops brk listed i=true)
  (hd:bf n o.dst=true) (hy:∀G a w,Z->J O-> Ψ G->WR G O w->FR G n D e a->∃u,VR G m u/\YieldsIf P ops (sj G J) o u a) (h:ab P n D ops brk J Ψ Z fuel (listed.setIfInBounds i true) (aV o.dst m e) O Q):ab P n D ops brk J Ψ Z (fuel+1) listed e O Q:=by
 intro hΨ hZ hJ G a w hψ hw aT;obtain⟨u,hu,hyi⟩:=hy G a w hZ hJ hψ hw aT;refine nI (S:=sj G J) (W:=fun j=>∃k,j∈jV ops listed i k) (brk:=fun j=>brk.contains j) ho (Region.noSelect_spec hs) (gy hd) (fun j x hj hT=>hT.2 hj) (fun x hx=>TE.mk hx) fuel listed a w (Region.free_spec ho hf) Bq Gq (Gr hb) (by simpa using hr) hyi ⟨G,O,Gh.Le.refl G,hw,hJ⟩ (h hΨ hZ hJ G _ w hψ hw (aT.aV hd hu))
theorem ab.av (i:Nat) {brk:List Nat} {Ψ :Gh->Prop} {J:VH->Prop} {Z:Prop} {fuel:Nat} {listed:Array Bool} {l:List Oper} {o:Oper} (h:zb (fun m O'=>ab P n D ⟨l⟩ brk J Ψ Z fuel (listed.setIfInBounds i true) (aV o.dst m e) O' Q) (gV tab .av o e O)) (ht:aJ P tab:=by exact aa) (ho:l[i]?=some o:=by exact rfl) (hs:Region.noSelect ⟨l⟩=true:=by kernel_rfl) (hf:Region.free .any ⟨l⟩ listed i=true:=by kernel_rfl) (hr:(Region.ready .any ⟨l⟩ listed).contains i=true:=by kernel_rfl) (hb:nu ⟨l⟩ brk listed i=true:=by kernel_rfl) (hg:aK ⟨l⟩ o e=some true:=by exact rfl) (hd:bf n o.dst=true:=by exact rfl):ab P n D ⟨l⟩ brk J Ψ Z (fuel+1) listed e O Q:=by
 generalize hv:gV tab .av o e O=v at h;cases v with
 | none=>exact h.elim
 | some p=>
   obtain⟨m,O'⟩:=p;obtain⟨h1,rfl⟩:=nv hv;refine ab.take (by simpa using ho) hs hf hr hb hd (fun G a w _ _ _ hw aT=>?_) h;obtain⟨u,hu,bW⟩:=uc (P:=P) ht aT h1
   exact⟨u,hu,.inl ⟨a_ aT hg,fun x hx=>by
    obtain⟨H,O2,h2,h3,_⟩:=hx;exact bW x (SS.le h2 h3.ss)⟩⟩
theorem KQ {t:TypeId} {p:MV} (hB:B.Ge O) (hN:∀k,B.next<=k->B.hp k=none) (h:eD tab B t p=some m):eD tab O t p=some m:=by
 unfold eD at h ⊢
 have:∀{cs off},cellsOf B p=some (cs,off)->cellsOf O p=some (cs,off):=fun{cs off} hc=>by
  unfold cellsOf at hc ⊢;split at hc
  ·split at hc
   ·rename_i hk;have dJ:=Nat.lt_of_not_le fun hle=>by rw[hN _ hle]at hk;cases hk
    rw[hB.hp _ dJ,hk];exact hc
   ·cases hc
  ·exact hc
  ·cases hc
 split at h
 ·rename_i i cs off hi hc;rw[this hc,hi];exact h
 ·cases h
theorem ab.ld (i:Nat) {Ψ :Gh->Prop} {brk:List Nat} {fuel:Nat} {listed:Array Bool} {l:List Oper} {d:Option Tmp} {t:TypeId} {x:Operand} {ty:TypeId} {ps:String} {af:Array Edge} {g:Option (Nat×Bool)} {p:MV} (hv:eD tab B t p=some m) (h:ab P n D ⟨l⟩ brk (fun O'=>B.Ge O') Ψ (∀k,B.next<=k->B.hp k=none) fuel (listed.setIfInBounds i true) (aV d m e) O Q) (ht:aJ P tab:=by exact aa) (ho:l[i]?=some (.mk d (.load t x) ty ps af g):=by exact rfl) (hs:Region.noSelect ⟨l⟩=true:=by kernel_rfl) (hf:Region.free .any ⟨l⟩ listed i=true:=by kernel_rfl) (hr:(Region.ready .any ⟨l⟩ listed).contains i=true:=by kernel_rfl) (hb:nu ⟨l⟩ brk listed i=true:=by kernel_rfl) (hg:aK ⟨l⟩ (.mk d (.load t x) ty ps af g) e=some true:=by exact rfl) (hd:bf n d=true:=by exact rfl) (hx:ev e x=some p:=by exact rfl) (hm:exM m=true:=by exact rfl):ab P n D ⟨l⟩ brk (fun O'=>B.Ge O') Ψ (∀k,B.next<=k->B.hp k=none) (fuel+1) listed e O Q:=by
 refine ab.take (o:=.mk d (.load t x) ty ps af g) (by simpa using ho) hs hf hr hb hd (fun G a w hN hB _ hw aT=>?_) h;obtain⟨u,w',K,bW,h1,h2,h3,_⟩:=Gl (P:=P) ht hw (KQ hB hN hv) (aT.ev hx);obtain⟨u0,KR⟩:∃u0,VR G m u0:=⟨u,ac7 hm h3⟩
 refine⟨u0,KR,.inl ⟨a_ aT hg,fun y hy=>?_⟩⟩;obtain⟨H,O2,g1,g2,g3⟩:=hy;obtain⟨r,g4,g5⟩:=nN (P:=P) ht g2 (KQ g3 hN hv) ((aT.ev hx).mono g1);have:=g5 y g2.sx;have er:=RG hm KR g4;subst er;simp only[execOp,Sem.run_bind,this];rfl
theorem mM {Q:Exit->Act->World->Prop} {S:World->Prop} {T:Nat->World->Prop}:∀(fuel:Nat) (listed:Array Bool) (a:Act) (w:World),(∀j,listed.getD j true=false->∀x,S x->T j x)->wpAnyH P .any ops Q S fuel listed a w->iE P .any ops Q T fuel listed a w:=by
 intro fuel;induction fuel with
 | zero=>intro listed a w _ h;exact⟨h.1,h.2⟩
 | succ fuel ih=>
   intro listed a w hT h;refine⟨h.1,fun i hi=>?_⟩;have eE:=(mem_ready.1 hi).1
   exact wpOp_mono (fun a' w' h'=>⟨hT i eE _ h'.1,ih _ _ _ (fun j hj x=>hT j (by
    by_cases Fw:i=j
    ·subst Fw;exact eE
    ·rw[getD_set_ne true Fw]at hj;exact hj) x) h'.2⟩) (h.2 i hi)
theorem ab.fin {brk:List Nat} {Ψ :Gh->Prop} {J:VH->Prop} {Z:Prop} {fuel:Nat} {listed:Array Bool} (hb:((List.range listed.size).all fun j=>listed.getD j true||brk.contains j)=true) (h:bX P n D ops fuel listed e O Q):ab P n D ops brk J Ψ Z fuel listed e O Q:=by
 intro hΨ hZ hJ G a w hψ hw aT;refine mM _ _ _ _ (fun j hj x hs=>⟨hs,fun hh=>?_⟩) (h G a w hw aT);rcases Nat.lt_or_ge j listed.size with hl | hl
 ·have:=List.all_eq_true.1 hb j (List.mem_range.2 hl);rw[hj,Bool.false_or]at this;rw[this]at hh;cases hh
 ·rw[Array.getD_eq_getD_getElem?,Array.getElem?_eq_none (by simpa using hl)]at hj;cases hj
theorem ab.one {brk:List Nat} {Ψ :Gh->Prop} {J:VH->Prop} {Z:Prop} {fuel i:Nat} {listed:Array Bool}
  (h:aH P n D ops i e O Q fun e' O'=>J O'/\ab P n D ops brk J Ψ Z fuel (listed.setIfInBounds i true) e' O' Q) (hr:Region.ready .any ops listed=[i]:=by kernel_rfl):ab P n D ops brk J Ψ Z (fuel+1) listed e O Q:=by
 intro hΨ hZ hJ G a w hψ hw aT;refine jc hr (by simp) fun j hj=>?_
 obtain rfl:j=i:=by simpa using hj
 refine wpOp_mono (fun a' w' ⟨e',O',H,h1,h2,h3,h4,h5⟩=>⟨TE.mk ⟨H,O',h1,h2,h4⟩,jd (fun _ _ _=>cf.le h1) _ _ _ _ (fun k _ x hT=>hT.le h1) (h5 hΨ hZ h4 H a' w' (hΨ _ _ h1 hψ) h2 h3)⟩) (h G a w hw aT)
theorem ab.call {brk:List Nat} {Ψ :Gh->Prop} {J:VH->Prop} {Z:Prop} {fuel i:Nat} {listed:Array Bool} {l:List Oper} {d:Option Tmp} {f:Operand} {as_:Array Operand} {ts:Array TypeId} {ty:TypeId} {ps:String} {af:Array Edge} {g:Option (Nat×Bool)} {id:FuncId} {ms:List MV} {Φ :MV->VH->Prop} (hR:VF P id ms O (aI Φ))
  (h:∀m O', Φ m O'->J O'/\ab P n D ⟨l⟩ brk J Ψ Z fuel (listed.setIfInBounds i true) (aV d m e) O' Q) (hr:Region.ready .any ⟨l⟩ listed=[i]:=by kernel_rfl) (ho:l[i]?=some (.mk d (.call {callee:=.value f,args:=as_,argTypes:=ts}) ty ps af g):=by exact rfl) (hg:aK ⟨l⟩ (.mk d (.call {callee:=.value f,args:=as_,argTypes:=ts}) ty ps af g) e=some true:=by exact rfl) (hf:ev e f=some (.func (.func id) [] []):=by exact rfl) (hm:fu e as_.toList=some ms:=by exact rfl) (hb:di P id=true:=by kernel_rfl) (hd:bf n d=true:=by exact rfl):ab P n D ⟨l⟩ brk J Ψ Z (fuel+1) listed e O Q:=
 ab.one (aH.call (o:=.mk d (.call {callee:=.value f,args:=as_,argTypes:=ts}) ty ps af g) (by simpa using ho) hg rfl rfl hf hm (Enters.sf hb) hd (by simpa using hR) fun r O' hr=>by
  cases r with
  | ret m=>exact h m O' hr
  | panic m=>exact hr.elim) (hr:=hr)
theorem ab.op {brk:List Nat} {Ψ :Gh->Prop} {J:VH->Prop} {Z:Prop} {fuel i:Nat} {listed:Array Bool} {l:List Oper} {o:Oper}
  (h:zb (fun m O'=>J O'/\ab P n D ⟨l⟩ brk J Ψ Z fuel (listed.setIfInBounds i true) (aV o.dst m e) O' Q) (cQ tab o e O)) (ht:aJ P tab:=by exact aa) (hr:Region.ready .any ⟨l⟩ listed=[i]:=by kernel_rfl) (ho:l[i]?=some o:=by exact rfl) (hg:aK ⟨l⟩ o e=some true:=by exact rfl) (hd:bf n o.dst=true:=by exact rfl):ab P n D ⟨l⟩ brk J Ψ Z (fuel+1) listed e O Q:=
 ab.one (aH.o1 h (ht:=ht) (ho:=ho) (hg:=hg) (hd:=hd)) (hr:=hr)
theorem ab.st {brk:List Nat} {Ψ :Gh->Prop} {J:VH->Prop} {Z:Prop} {fuel i:Nat} {listed:Array Bool} {l:List Oper} {o:Oper} {M:MV->VH->Prop} (hy:fC P n D o e O M)
  (h:∀m O',M m O'->J O'/\ab P n D ⟨l⟩ brk J Ψ Z fuel (listed.setIfInBounds i true) (aV o.dst m e) O' Q) (hr:Region.ready .any ⟨l⟩ listed=[i]:=by kernel_rfl) (ho:l[i]?=some o:=by exact rfl) (hg:aK ⟨l⟩ o e=some true:=by exact rfl) (hd:bf n o.dst=true:=by exact rfl):ab P n D ⟨l⟩ brk J Ψ Z (fuel+1) listed e O Q:=
 ab.one (aH.st hy h (ho:=ho) (hg:=hg) (hd:=hd)) (hr:=hr)
theorem ab.bI (ix:List (Nat×Fl)) {brk:List Nat} {Ψ :Gh->Prop} {J:VH->Prop} {Z:Prop} {fuel:Nat} {listed:Array Bool} {l:List Oper} {L:List (Fl×Oper)}
  (h:WL P tab n D .any ⟨l⟩ Q L e O) (ht:aJ P tab:=by exact aa) (hb:((List.range listed.size).all fun j=>listed.getD j true||brk.contains j)=true:=by kernel_rfl) (hs:Region.noSelect ⟨l⟩=true:=by kernel_rfl) (hp:cz .any ⟨l⟩ fuel listed ix=true:=by kernel_rfl) (hL:nw l ix=some L:=by exact rfl):ab P n D ⟨l⟩ brk J Ψ Z fuel listed e O Q:=ab.fin hb (bX.bI ix h (ht:=ht) (hs:=hs) (hp:=hp) (hL:=hL))
end
set_option linter.defProp false in
def wk:=And.intro @ws<|And.intro @Uq<|And.intro @KO<|And.intro @KP<|And.intro @Pd @Iy
section
variable {G H:Gh} {n:Sz} {D:List Deferred} {e:Env} {a:Act} {P:Program} {tab:bS} {O O':VH} {w:World} {m m':MV} {u v:Value} {ops:Array Oper} {Q:VQ} {md:Md}
theorem qp {t:TypeId} {ms:Array (String×TypeId)} (hu:P.underlying t=some (.interface ms)):P.underlying t=some (.interface (P.methodsAt t)):=by
 rw[hu,Program.methodsAt,hu]
theorem gY.RH {d:Option Tmp} {op:BinOp} {t t' ty tv:TypeId} {x:Operand} {ps:String} {af:Array Edge} {g:Option (Nat×Bool)} {p:MV} {bb:Bool} {ms:Array (String×TypeId)} (hu:P.underlying t=some (.interface ms)) (hx:ev e x=some (.iface tv p)) (ui:(op= .eql/\bb=false)\/(op= .neq/\bb=true)):
  gY P n D (.mk d (.binOp op t x (.const .nilIface) t') ty ps af g) e (.v (.bool bb)):=by
 intro G a hf;have h1:=hf.ev hx;generalize hv:a.eval x=v at h1;have hc:a.eval (.const .nilIface)= .nilIface:=rfl;cases h1 with
 | iface h2=>
   rename_i u;refine c9.of (s:=do eqGuard op t x (.const .nilIface) (.iface tv u) .nilIface;binOp op t (.iface tv u) .nilIface) (aX.of (u:=.bool bb) (fun w _=>?_) (.v rfl)) (by simp[execOp,hv,hc]);have Pe:(eqGuard op t x (.const .nilIface) (.iface tv u) .nilIface).run P w= .ok () w:=by rcases ui with⟨rfl,_⟩ | ⟨rfl,_⟩<;>simp[eqGuard]
   rw[Sem.run_bind,Pe,Result.andThen_ok];rcases ui with⟨rfl,rfl⟩ | ⟨rfl,rfl⟩
   ·exact run_eql_held_nil w t tv u (qp hu)
   ·exact run_neq_held_nil w t tv u (qp hu)
theorem gY.DH {d:Option Tmp} {op:BinOp} {t t' ty:TypeId} {x:Operand} {ps:String} {af:Array Edge} {g:Option (Nat×Bool)} {bb:Bool} {ms:Array (String×TypeId)} (hu:P.underlying t=some (.interface ms)) (hx:ev e x=some (.v .nilIface)) (ui:(op= .eql/\bb=true)\/(op= .neq/\bb=false)):
  gY P n D (.mk d (.binOp op t x (.const .nilIface) t') ty ps af g) e (.v (.bool bb)):=by
 intro G a hf;have h1:=(hf.ev hx).ie;have hc:a.eval (.const .nilIface)= .nilIface:=rfl;refine c9.of (s:=do eqGuard op t x (.const .nilIface) .nilIface .nilIface;binOp op t .nilIface .nilIface) (aX.of (u:=.bool bb) (fun w _=>?_) (.v rfl)) (by simp[execOp,h1,hc]);have Pe:(eqGuard op t x (.const .nilIface) .nilIface .nilIface).run P w= .ok () w:=by rcases ui with⟨rfl,_⟩ | ⟨rfl,_⟩<;>cases x<;>simp[eqGuard]
 rw[Sem.run_bind,Pe,Result.andThen_ok];rcases ui with⟨rfl,rfl⟩ | ⟨rfl,rfl⟩
 ·exact run_eql_nil_nil w t (qp hu)
 ·exact run_neq_nil_nil w t (qp hu)
theorem gY.asT {d:Option Tmp} {t s ty:TypeId} {x:Operand} {ps:String} {af:Array Edge} {g:Option (Nat×Bool)} {p:MV} {u:TypeDesc} (hu:P.underlying s=some u) (hi:∀ms,u≠ .interface ms) (hx:ev e x=some (.iface s p)):
  gY P n D (.mk d (.typeAssert x t s true) ty ps af g) e (.tuple [p,.v (.bool true)]):=by
 intro G a hf;have h1:=hf.ev hx;generalize hv:a.eval x=v at h1;cases h1 with
 | iface h2=>
   rename_i w0;refine c9.of (s:=Instr.typeAssert (.iface s w0) t s true) (aX.of (u:=.tuple #[w0,.bool true]) (fun w _=>?_) ?_) (by simp[execOp,hv])
   ·simp only[Instr.typeAssert,Sem.run_bind,run_underlying hu,Result.andThen_ok]
    cases u<;>first
     | rfl
     | simp
     | (rename_i ms;exact absurd rfl (hi ms))
   ·exact VR.tuple (cs:=[p,.v (.bool true)]) (us:=[w0,.bool true]) rfl fun i c u hc hu=>by
     match i with
     | 0=>simp at hc hu;subst hc;subst hu;exact h2
     | 1=>simp at hc hu;subst hc;subst hu;exact .v rfl
     | i+2=>simp at hc
theorem VL.panic {d:Option Tmp} {x:Operand} {ty t:TypeId} {ps:String} {af:Array Edge} {g:Option (Nat×Bool)} {L:List (Fl×Oper)} {p:MV} (hmd:md= .plain) (hx:ev e x=some (.iface t p)) (hg:aK ops (.mk d (.panic x) ty ps af g) e=some true)
  (h:Q (.panic (.iface t p)) (j_ n e) O):VL P n D md ops ((.one,.mk d (.panic x) ty ps af g)::L) e O Q:=by
 subst hmd;intro fuel listed ix hf hp
 match ix,hf with
 | (i,g')::ix,hf=>
   obtain⟨rfl,ho,hf⟩:=hf;intro G a w hw aT;have h1:=aT.ev hx
   have IA:∃u,a.eval x= .iface t u:=by
    generalize a.eval x=v at h1;cases h1;exact⟨_,rfl⟩
   obtain⟨u,hv⟩:=IA
   have bW:(execOp a.eval (.mk d (.panic x) ty ps af g)).run P w= .halt (.panic (.iface t u)) w:=by
    simp[execOp,hv,Instr.panic,goPanic]
   simp only[List.map_cons,wpOps,ho,a_ aT hg,if_true];refine .inl ?_;unfold Oper.wp;rw[bW];exact⟨.panic (.iface t p),j_ n e,O,G,Gh.Le.refl G,hw,⟨C7,aT.less Aw⟩,⟨_,rfl,by rw[<-hv];exact h1⟩,h⟩
def MR (G:Gh):Option MV->FrameMode->Prop
 | none,.returning=>True
 | some m,.panicking [⟨v,false,false⟩]=>VR G m v
 | _,_=>False
def fM (P:Program) (g:FuncId) (args:List MV) (x:Option MV) (O:VH) (K:VH->Prop):Prop:=
 ∀G w vs u,WR G O w->aL G args vs->MR G x u->CallsD P g vs.toArray u w fun r u' w'=>(∃v,r= .returned v)/\settle u'= .returning/\∃O' H,Gh.Le G H/\WR H O' w'/\K O'
def zc:Option MV->MV
 | none=>.v .nilIface
 | some m=>m
theorem fM.rec {f:FuncId} {fn:Func} {c:Code} {id:Nat} {d:Tmp} {ty:TypeId} {ps:String} {af:Array Edge} {args:List MV} {x:Option MV} {K:VH->Prop} (hf:P.funcs[f]?=some fn) (hd:d<fn.ntmps)
  (h:WC P tab ⟨fn.ntmps,0⟩ [] c ((d,zc x)::cc 0 args) O fun y _ O'=>match y with
   | .normal=>K O'
   | .ret=>K O'
   | _=>False) (ht:aJ P tab:=by exact aa) (hb:fn.body=some (.seq (.region id ⟨[.mk (some d) (.call {callee:=.builtin .recover,args:= #[],argTypes:= #[]}) ty ps af none]⟩ false) c):=by exact rfl) (hr:fn.results= #[]:=by exact rfl) (hn:args.length<=fn.ntmps:=by exact Nat.le_of_ble_eq_true rfl):fM P f args x O K:=by
 intro G w vs u hw hv hu;refine callsD_of_wpS hf hb fun c0 cs hm=>wpS_seq (wpS_region ?_)
 have aT:FR G ⟨fn.ntmps,0⟩ [] (cc 0 args) {tmps:=vs.toArray++Array.replicate (fn.ntmps - vs.toArray.size) undef,defers:=[]}:=by
  have hl:=hv.1;refine⟨rfl,by simp;omega,fun t x hx=>?_⟩;rw[gT,if_pos (Nat.zero_le _),Nat.sub_zero]at hx;obtain⟨u,h1,h2⟩:=hv.get hx;refine⟨u,?_,h2⟩;have dJ:=(List.getElem?_eq_some_iff.1 h1).1;rw[Array.getElem?_append_left (by simpa using dJ)];simpa using h1
 generalize ({tmps:=vs.toArray++Array.replicate (fn.ntmps - vs.toArray.size) undef,defers:=[]}:Act)=a at aT
 have bW:(execOp a.eval (.mk (some d) (.call {callee:=.builtin .recover,args:= #[],argTypes:= #[]}) ty ps af none)).run P w= .ok .recover w:=by
  simp[execOp,resolve,invoke,builtin]
 have go:∀(v:Value) (u':FrameMode),VR G (zc x) v->settle u'= .returning->(c.wpS P (bodyPostS P fn c0 cs fun r u' w'=>(∃v,r= .returned v)/\settle u'= .returning/\∃O' H,Gh.Le G H/\WR H O' w'/\K O')) (a.put (some d) v) ({c0 with mode:=u'}::cs) w:=by
  intro v u' Xi hs;refine wpS_of_wp ?_;refine wp_mono (WC.sound ht h G _ w hw (FR.put aT hd Xi)) ?_;rintro y a' w' ⟨z,e',O',H,g1,g2,g3,g4,g5⟩
  have fin:FR H ⟨fn.ntmps,0⟩ [] e' a'->K O'->bodyPostS P fn c0 cs (fun r u' w'=>(∃v,r= .returned v)/\settle u'= .returning/\∃O' H,Gh.Le G H/\WR H O' w'/\K O') .normal a' ({c0 with mode:=u'}::cs) w':=fun hf' hk=>
   ⟨hf'.defers,u',rfl,.tuple #[],by simp[results,hr],⟨_,rfl⟩,hs,O',H,g1,g2,hk⟩
  cases y<;>cases z<;>first
   | exact False.elim g4
   | exact fin g3 g5
   | exact g5.elim
 have KS:(List.range (Array.mk [Oper.mk (some d) (.call {callee:=.builtin .recover,args:= #[],argTypes:= #[]}) ty ps af none]).size)=[0]:=rfl;rw[KS];simp only[wpOpsS,List.getElem?_toArray,List.getElem?_cons_zero,bW];have agq:Region.wanted (Oper.mk (some d) (.call {callee:=.builtin .recover,args:= #[],argTypes:= #[]}) ty ps af none) (yielded ⟨[.mk (some d) (.call {callee:=.builtin .recover,args:= #[],argTypes:= #[]}) ty ps af none]⟩ a.tmps)=true:=rfl;rw[if_pos agq];subst hm
 match x,hmu:c0.mode,hu with
 | none,.returning,_=>
   have G5:recoverD (c0::cs)=none:=by simp[recoverD,hmu]
   rw[G5];have:=go .nilIface .returning (.v rfl) rfl;rw[show({c0 with mode:=.returning}:Frame)=c0 from by rw[<-hmu]]at this;exact this
 | some m,.panicking [⟨v,false,false⟩],Xi=>
   have G5:recoverD (c0::cs)=some (v,{c0 with mode:=.panicking [⟨v,true,false⟩]}::cs):=by simp[recoverD,hmu]
   rw[G5];exact go v _ Xi (by simp[settle])
def KT (P:Program) (tab:bS) (rs:List ResultVar) (g:FuncId) (ms:List MV) (R:fB->VH->Prop):VQ:=fun x e O=>match x with
 | .normal=>fM P g ms none O fun O'=>iy R O' (gX tab e O' rs)
 | .ret=>fM P g ms none O fun O'=>iy R O' (gX tab e O' rs)
 | .panic m=>fM P g ms (some m) O fun O'=>iy R O' (gX tab e O' rs)
 | _=>False
theorem VF.deferred {f g:FuncId} {fn:Func} {A rest:Code} {id k lo:Nat} {t:Tmp} {cap:Array Operand} {ty YO:TypeId} {ps YP:String} {af YQ:Array Edge} {args:List MV} {rs:List ResultVar} {R:fB->VH->Prop} (hf:P.funcs[f]?=some fn) (hE:Enters P g)
  (h:WC P tab ⟨k,0⟩ [] A (cc 0 args) O fun x e O'=>match x with
   | .normal=>∃ms,fu e cap.toList=some ms/\∀D,VC P ⟨k,lo⟩ D rest ((t,.func (.func g) [] ms)::e) O' (KT P tab rs g ms R)
   | _=>False) (ht:aJ P tab:=by exact aa) (hb:fn.body=some (.seq A (.seq (.region id ⟨[.mk (some t) (.makeFunc (.func g) #[] cap) ty ps af none,.mk none (.defer {callee:=.value (.tmp t),args:= #[],argTypes:= #[]}) YO YP YQ none]⟩ false) rest)):=by exact rfl) (hk:fn.ntmps=k:=by exact rfl) (hr:fn.results.toList=rs:=by exact rfl) (hn:args.length<=k:=by exact Nat.le_of_ble_eq_true rfl) (eG:t<k:=by decide):VF P f args O R:=by
 subst hk;intro G w vs hw hv;refine calls_of_wp_defers hf hb ?_
 have aT:FR G ⟨fn.ntmps,0⟩ [] (cc 0 args) {tmps:=vs.toArray++Array.replicate (fn.ntmps - vs.toArray.size) undef,defers:=[]}:=by
  have hl:=hv.1;refine⟨rfl,by simp;omega,fun t x hx=>?_⟩;rw[gT,if_pos (Nat.zero_le _),Nat.sub_zero]at hx;obtain⟨u,h1,h2⟩:=hv.get hx;refine⟨u,?_,h2⟩;have dJ:=(List.getElem?_eq_some_iff.1 h1).1;rw[Array.getElem?_append_left (by simpa using dJ)];simpa using h1
 refine wp_seq (wp_mono (WC.sound ht h G _ w hw aT) ?_);rintro y a1 w1 ⟨x,e,O1,H,g1,g2,g3,g4,g5⟩
 cases y<;>cases x<;>first
  | exact False.elim g4
  | exact g5.elim
  | skip
 obtain⟨ms,hm,Pf⟩:=g5;have g3:FR H ⟨fn.ntmps,0⟩ [] e a1:=g3;have iH:=g3.fu hm;have Fp:cap.map a1.eval=(cap.toList.map a1.eval).toArray:=by apply Array.ext';simp
 generalize cap.toList.map a1.eval=us at iH Fp
 have Pg:(execOp a1.eval (.mk (some t) (.makeFunc (.func g) #[] cap) ty ps af none)).run P w1= .ok (.value (.func (.func g) #[] us.toArray)) w1:=by
  simp[execOp,Instr.makeFunc,Fp]
 have hz:=g3.size;dsimp only at hz
 have hev:(a1.put (some t) (.func (.func g) #[] us.toArray)).eval (.tmp t)= .func (.func g) #[] us.toArray:=by
  simp[Act.eval,Act.put,hz,eG]
 have Ph:(execOp (a1.put (some t) (.func (.func g) #[] us.toArray)).eval (.mk none (.defer {callee:=.value (.tmp t),args:= #[],argTypes:= #[]}) YO YP YQ none)).run P w1= .ok (.defer {target:=.fn (.func g) us.toArray,args:= #[]}) w1:=by
  simp[execOp,resolve,hev,Deferred.ofValue]
 refine wp_seq (wp_region ?_);have KS:∀o1 o2:Oper,List.range (Array.mk [o1,o2]).size=[0,1]:=fun _ _=>rfl
 rw[KS];have IB:∀(o1 o2:Oper) (tm:Array Value),o1.guard=none->Region.wanted o1 (yielded ⟨[o1,o2]⟩ tm)=true:=fun o1 o2 tm h=>by simp[Region.wanted,h]
 have ru:∀(o1 o2:Oper) (tm:Array Value),o2.guard=none->Region.wanted o2 (yielded ⟨[o1,o2]⟩ tm)=true:=fun o1 o2 tm h=>by simp[Region.wanted,h]
 simp only[wpOps,List.getElem?_toArray,List.getElem?_cons_zero,List.getElem?_cons_succ];rw[if_pos (IB _ _ _ rfl)];refine .inl ?_;unfold Oper.wp;rw[Pg,Oper.upon_value];simp only[wpOps,List.getElem?_toArray,List.getElem?_cons_zero,List.getElem?_cons_succ];rw[if_pos (ru _ _ _ rfl)];refine .inl ?_;first | unfold Oper.wp | skip
 rw[Ph,Oper.upon_defer];have xK:FR H ⟨fn.ntmps,0⟩ [] ((t,.func (.func g) [] ms)::e) (a1.put (some t) (.func (.func g) #[] us.toArray)):=FR.put g3 eG (.func (fs:=[]) (us:=[]) rfl (fun i c u h=>by simp at h) iH.1 iH.2);generalize a1.put (some t) (.func (.func g) #[] us.toArray)=a2 at xK;have B8:FR H ⟨fn.ntmps,lo⟩ [{target:=.fn (.func g) us.toArray,args:= #[]}] ((t,.func (.func g) [] ms)::e) {a2 with defers:={target:=.fn (.func g) us.toArray,args:= #[]}::a2.defers}:=⟨by rw[xK.defers],xK.size,xK.get⟩;show rest.wp P _ _ _;refine wp_mono (Pf _ H _ w1 g2 B8) ?_;rintro y a' w' ⟨x,e',O',K,k1,k2,k3,k4,k5⟩
 have hinv:∀w:World,(invoke (.fn (.func g) us.toArray) #[]).run P w= .ok (.enter g us.toArray) w:=fun w=>by
  simp[invoke,hE us.toArray w]
 have fin:∀(u:FrameMode) (z:Option MV),u≠ .run->MR K z u->FR K ⟨fn.ntmps,lo⟩ [{target:=.fn (.func g) us.toArray,args:= #[]}] e' a'->fM P g ms z O' (fun O'=>iy R O' (gX tab e' O' rs))->
   Leaves P fn a'.tmps (fun x w'=>∃r O' H,Gh.Le G H/\WR H O' w'/\ER H r x/\R r O') a'.defers u w':=by
  intro u z hu hmr YR hd;rw[YR.defers];refine leaves_cons hu (hinv _) ((hd K w' us u k2 (iH.mono k1) hmr).mono ?_);rintro r u' Fu ⟨⟨v,rfl⟩,hs,O2,K2,q1,q2,q3⟩;dsimp only;rw[hs]
  have key:∃m,cX tab fn e' O2=some m/\R (.ret m) O2:=by
   unfold cX;rw[hr, <-rq];generalize gX tab e' O2 rs=z at q3;unfold iy at q3;split at q3
   ·exact q3.elim
   ·exact⟨_,rfl,q3⟩
   ·rename_i l hl;refine⟨.tuple l,?_,q3⟩
    match l,hl with
    | [],_=>rfl
    | [m],hl=>exact absurd rfl (hl m)
    | _::_::_,_=>rfl
  obtain⟨m,h6,h7⟩:=key;obtain⟨u2,h8,h9⟩:=kJ (P:=P) ht q2 (YR.mono q1) h6;exact⟨u2,h8,.ret m,O2,K2,(g1.trans k1).trans q1,q2,h9,h7⟩
 cases y with
 | normal=>cases x<;>first | exact False.elim k4 | exact fin .returning none (by simp) trivial k3 k5
 | ret=>cases x<;>first | exact False.elim k4 | exact fin .returning none (by simp) trivial k3 k5
 | panic c=>
   cases x with
   | panic m=>
     obtain⟨u,rfl,hvu⟩:=k4;exact fin (.panicking [⟨u,false,false⟩]) (some m) (by simp) hvu k3.2 k5
   | _=>exact False.elim k4
 | exit i=>cases x<;>first | exact False.elim k4 | exact k5.elim
 | goto i=>cases x<;>first | exact False.elim k4 | exact k5.elim
 | outgrown=>cases x<;>exact False.elim k4
theorem Ur:j_ n []=[]:=rfl
theorem Pj {N L t:Nat}:j_ ⟨N,L⟩ ((t,m)::e)=bif decide (t<L)then(t,m)::j_ ⟨N,L⟩ e else j_ ⟨N,L⟩ e:=rfl
theorem IC {rs:List ResultVar} {g:FuncId} {ms:List MV} {R:fB->VH->Prop}:KT P tab rs g ms R .normal e O=fM P g ms none O fun O'=>iy R O' (gX tab e O' rs):=rfl
theorem Us {rs:List ResultVar} {g:FuncId} {ms:List MV} {R:fB->VH->Prop}:KT P tab rs g ms R .ret e O=fM P g ms none O fun O'=>iy R O' (gX tab e O' rs):=rfl
theorem KU {rs:List ResultVar} {g:FuncId} {ms:List MV} {R:fB->VH->Prop}:KT P tab rs g ms R (.panic m) e O=fM P g ms (some m) O fun O'=>iy R O' (gX tab e O' rs):=rfl
end
set_option linter.defProp false in
def wd:=And.intro @Xx<|And.intro @Ur<|And.intro @Pj<|And.intro @IC<|And.intro @Us<|And.intro @KU<|And.intro @qJ<|And.intro @qK @BI
section
variable {G H:Gh} {n:Sz} {D:List Deferred} {e:Env} {a:Act} {P:Program} {tab:bS} {O O':VH} {w:World} {m m':MV} {u v:Value} {ops:Array Oper} {Q:VQ} {md:Md}
theorem WR.KV (h:WR G O w) (X:Obj):G.Le {G with bD:=bl G.bD O.next (some w.heap.size)}/\WR {G with bD:=bl G.bD O.next (some w.heap.size)} (O.push (.obj X)) (w.alloc X):=by
 have hle:=Gh.Le.H3 h.lX.1 w.heap.size;have hg:=h.grow X
 have dW:∀k b,bl G.bD O.next (some w.heap.size) k=some b->(k=O.next/\b=w.heap.size)\/(k≠O.next/\G.bD k=some b):=fun k b hk=>by
  by_cases e:k=O.next
  ·subst e;rw[aE]at hk;injection hk with hk;exact .inl ⟨rfl,hk.symm⟩
  ·rw[aw _ _ e]at hk;exact .inr ⟨e,hk⟩
 have ns:∀j x,bl O.hp O.next (some (bV.obj X)) j=some x->(j=O.next/\x= .obj X)\/(j≠O.next/\O.hp j=some x):=fun j x hj=>by
  by_cases e:j=O.next
  ·subst e;rw[aE]at hj;injection hj with hj;exact .inl ⟨rfl,hj.symm⟩
  ·rw[aw _ _ e]at hj;exact .inr ⟨e,hj⟩
 refine⟨hle,hg.base,hg.dT,fun k hk=>?_,fun k b hk=>?_,fun j k b lj lk hj hk=>?_,fun k ds hk=>?_,fun k es ck hk=>?_,fun t ht=>?_,fun s t b x y hs ht h1 h2=>?_,h.n0 hle.bD (lL (by simp)) fun _ _ _ _=>gM fun _=>df w _,fun k x hk=>?_,h.qc,h.qI hle (lY (by simp))⟩
 ·have hk:O.next+1<=k:=hk;obtain⟨h1,h2,h3⟩:=h.oY k (by omega);exact⟨by show bl _ _ _ _=_;rw[aw _ _ (by omega)];exact h1,h2,by show bl _ _ _ _=_;rw[aw _ _ (by omega)];exact h3⟩
 ·rcases dW k b hk with⟨_,rfl⟩ | ⟨dL,hk⟩
  ·exact⟨h.W9,by simp,fun _=>h.vI⟩
  ·obtain⟨p1,p2,p3⟩:=hg.jL k b hk;exact⟨p1,p2,fun hne=>p3 (by have hne:bl O.hp O.next (some (.obj X)) k≠none:=hne;rwa [aw _ _ dL]at hne)⟩
 ·rcases dW j b hj with⟨rfl,rfl⟩ | ⟨dU,hj⟩<;>rcases dW k _ hk with⟨rfl,hb⟩ | ⟨dL,hk⟩
  ·rfl
  ·have:=(h.jL _ _ hk).2.1;omega
  ·subst hb;have:=(h.jL _ _ hj).2.1;omega
  ·exact h.inj j k b (by have lj:bl O.hp O.next (some (.obj X)) j≠none:=lj;rwa [aw _ _ dU]at lj) (by have lk:bl O.hp O.next (some (.obj X)) k≠none:=lk;rwa [aw _ _ dL]at lk) hj hk
 ·rcases ns k _ hk with⟨_,e⟩ | ⟨_,hk⟩
  ·cases e
  ·obtain⟨b,C,T,h1,h2,h3⟩:=hg.cells k ds hk;exact⟨b,C,T,hle.bD h1,h2,h3.mono hle⟩
 ·rcases ns k _ hk with⟨_,e⟩ | ⟨_,hk⟩
  ·cases e
  ·obtain⟨b,E,h1,h2,h3,h4,h5⟩:=hg.map k es ck hk;exact⟨b,E,hle.bD h1,h2,h3,h4.mono hle,h5.mono hle⟩
 ·rcases ns t _ ht with⟨_,e⟩ | ⟨_,ht⟩
  ·cases e
  ·obtain⟨b,f,k,r,C,T,h1,h2,h3,h4,h5,h6⟩:=hg.tok t ht;refine⟨b,f,k,r,C,T,h1,h2,h3,h4,h5,fun j hj=>?_⟩;rcases dW j b hj with⟨_,rfl⟩ | ⟨_,hj⟩
   ·exact absurd rfl (h.oK ht h1)
   ·exact h6 j hj
 ·rcases ns s _ hs with⟨_,e⟩ | ⟨_,hs⟩
  ·cases e
  ·rcases ns t _ ht with⟨_,e⟩ | ⟨_,ht⟩
   ·cases e
   ·exact h.kY s t b x y hs ht h1 h2
 ·rcases ns k _ hk with⟨rfl,e⟩ | ⟨_,hk⟩
  ·injection e with e;subst e
   exact⟨w.heap.size,aE _ _ _,by rw[eM,if_pos rfl]⟩
  ·obtain⟨b,h1,h2⟩:=hg.obj k x hk;exact⟨b,hle.bD h1,h2⟩
theorem WR.setObj (h:WR G O w) {k b:Nat} {X Y:Obj} (hk:O.hp k=some (.obj X)) (hp:G.bD k=some b) (hX:∀C t fr,X≠ .cells C t fr):WR G (O.set k (.obj Y)) {w with heap:=w.heap.setIfInBounds b Y}:=by
 obtain⟨b',h1,h2⟩:=h.obj k X hk;rw[hp]at h1;injection h1 with h1;subst h1
 have hne:∀j b',j≠k->O.hp j≠none->G.bD j=some b'->b'≠b:=fun j b' hj lj mz e=>hj (h.inj j k b lj (by rw[hk];simp) (e▸mz) hp)
 have gN:∀j,bl O.hp k (some (.obj Y)) j≠none->O.hp j≠none:=fun j hn=>by
  by_cases e:j=k
  ·subst e;rw[hk];simp
  ·rwa [aw _ _ e]at hn
 have xx:=ud Y h2;have dX:∀j,j≠b->({w with heap:=w.heap.setIfInBounds b Y}:World).heap[j]?=w.heap[j]?:=fun j hj=>n_ _ hj
 have hB:=(h.jL k b hp).1
 have ns:∀j x,(∀y,x≠ .obj y)->bl O.hp k (some (bV.obj Y)) j=some x->j≠k/\O.hp j=some x:=fun j x hx hj=>by
  by_cases e:j=k
  ·subst e;rw[aE]at hj;injection hj with hj;exact absurd hj.symm (hx _)
  ·rw[aw _ _ e]at hj;exact⟨e,hj⟩
 refine⟨⟨h.base.os,h.base.tape,h.base.output,by simpa using h.base.size,fun j hj=>?_⟩,fun b' o u' n5=>?_,fun j hj=>?_,fun j b' hj=>?_,fun j k' b' lj lk=>h.inj j k' b' (gN j lj) (gN k' lk),fun j ds hj=>?_,fun j es2 ck2 hj=>?_,fun t ht=>?_,fun s t b' x y hs ht=>?_,h.n0 id (lL (by simp)) fun j b' s hj hs=>gM (fun x hx=>by
   by_cases e:b'=b
   ·subst e;rw[h2]at hx;injection hx with hx;subst hx
    exfalso;simp only[World.shape?,h2]at hs
    cases X<;>first
     | exact hX _ _ _ rfl
     | cases hs
   ·rw[dX _ e];exact hx) hs,fun j x hj=>?_,h.qc,h.qI (Gh.Le.refl _) (lY (by simp))⟩
 ·rw[dX j (by have:j<G.B:=hj;omega)];exact h.base.block j hj
 ·have wI:b'≠b:=fun e=>by subst e;rw[(h.jL k b' hp).2.2 (by rw[hk];simp) o]at n5;cases n5
  rw[sY _ (by exact wI)];exact h.dT b' o u' n5
 ·obtain⟨d1,d2,d3⟩:=h.oY j hj;refine⟨d1,d2,?_⟩;show bl _ _ _ _=_;rw[aw _ _ (fun e=>by subst e;rw[d3]at hk;cases hk)];exact d3
 ·obtain⟨p1,p2,p3⟩:=h.jL j b' hj;exact⟨p1,by simpa using p2,fun hne=>p3 (gN j hne)⟩
 ·obtain⟨e,hj⟩:=ns j _ (by simp) hj;obtain⟨b',D,T',d1,d2,d3⟩:=h.cells j ds hj;exact⟨b',D,T',d1,by rw[dX _ (hne j b' e (by rw[hj];simp) d1)];exact d2,d3⟩
 ·obtain⟨e,hj⟩:=ns j _ (by simp) hj;obtain⟨b',E,d1,d2,d3⟩:=h.map j es2 ck2 hj;exact⟨b',E,d1,by rw[dX _ (hne j b' e (by rw[hj];simp) d1)];exact d2,d3⟩
 ·obtain⟨e,ht⟩:=ns t _ (by simp) ht;obtain⟨b',f,k',r,D,T',d1,d2,d3,d4,d6,d7⟩:=h.tok t ht;exact⟨b',f,k',r,D,T',d1,d2,by rw[dX _ (fun e=>d7 k (by rw[e];exact hp))];exact d3,d4,d6,d7⟩
 ·obtain⟨_,hs⟩:=ns s _ (by simp) hs;obtain⟨_,ht⟩:=ns t _ (by simp) ht;exact h.kY s t b' x y hs ht
 ·have hj:bl O.hp k (some (.obj Y)) j=some (.obj x):=hj;by_cases e:j=k
  ·subst e;rw[aE]at hj;injection hj with hj;injection hj with hj;subst hj
   exact⟨b,hp,xx⟩
  ·rw[aw _ _ e]at hj;obtain⟨b',d1,d2⟩:=h.obj j x hj;exact⟨b',d1,by rw[dX _ (hne j b' e (by rw[hj];simp) d1)];exact d2⟩
section
variable {d:Option Tmp} {op:BinOp} {t t' ty:TypeId} {x y:Operand} {ps:String} {af:Array Edge} {g:Option (Nat×Bool)} {b:Bool} {p q:MV}
theorem Pk:cQ tab (.mk d (.range t x) ty ps af g) e O=none:=rfl
theorem Ut:cQ tab (.mk d (.next x b) ty ps af g) e O=none:=rfl
theorem B9:cQ tab (.mk d (.typeAssert x t t' b) ty ps af g) e O=none:=rfl
def ID (t:TypeId):Option cn->Option MV->Option MV
 | some i,some p=>match i.under with
   | .interface _=>none
   | _=>some (.iface t p)
 | _,_=>none
theorem Uu:cQ tab (.mk d (.makeInterface t x) ty ps af g) e O=(ID t (tab t) (ev e x)).map (·,O):=by
 unfold cQ d_ ig ID;dsimp only;cases tab t with
 | none=>rfl
 | some i=>
   cases ev e x with
   | none=>obtain⟨u,a,b,z⟩:=i;cases u<;>rfl
   | some p=>obtain⟨u,a,b,z⟩:=i;cases u<;>rfl
theorem Pl:cQ tab (.mk d (.panic x) ty ps af g) e O=none:=rfl
theorem Uv:cM tab op t (.iface ty p) (.v .nilIface)=none:=by cases op<;>rfl
theorem Uw:cM tab op t (.v .nilIface) (.iface ty p)=none:=by cases op<;>rfl
theorem YS {cs:List MV} {i:Nat}:rb (.tuple cs) i=cs[i]?:=rfl
theorem YT {r:Int} {a b a' b':Nat} {z z':List MV}:Is (.v (.int .i32 r)) (some ⟨.int .i32,a,b,z⟩) (some ⟨.string,a',b',z'⟩)=none:=rfl
theorem YU:cM tab op t (.v .nilIface) (.v .nilIface)=none:=by cases op<;>rfl
end
end
set_option linter.defProp false in
def wi:=And.intro @Uu<|And.intro @Pk<|And.intro @Ut<|And.intro @B9<|And.intro @Pl<|And.intro @Uv<|And.intro @Uw<|And.intro @YS<|And.intro @YT @YU
section
variable {G H:Gh} {n:Sz} {D:List Deferred} {e e':Env} {a:Act} {P:Program} {tab:bS} {O O':VH} {w:World} {m m':MV} {u v:Value} {ops:Array Oper} {Q:VQ} {md:Md}
def kj (cs:List MV) (X:Obj) (G:Gh):Prop:=∃C:Array Value,∃T:Fz C,X= .cells C T.t T.fr/\aL G cs (C.toList.take cs.length)
theorem kj.mono {cs:List MV} {X:Obj} (h:G.Le H) (hx:kj cs X G):kj cs X H:=by
 obtain⟨C,T,h1,h2⟩:=hx;exact⟨C,T,h1,h2.mono h⟩
theorem VH.qq {x:bV} {k j:Nat}:(j=k/\(O.set k x).hp j=some x)\/(j≠k/\(O.set k x).hp j=O.hp j):=by
 by_cases e:j=k
 ·subst e;exact .inl ⟨rfl,VH.an _ _ _⟩
 ·exact .inr ⟨e,VH.ak _ _ e⟩
theorem AB {x:bV} {k j:Nat} (hk:O.hp k≠none) (h:(O.set k x).hp j≠none):O.hp j≠none:=by
 rcases VH.qq (O:=O) (x:=x) (k:=k) (j:=j)with⟨rfl,_⟩ | ⟨_,e⟩
 ·exact hk
 ·rwa [e]at h
theorem WR.swap {k:Nat} {x:bV} (h:WR G O w) (hk:O.hp k≠none) (hc:∀cs,x= .cells cs->∃b,∃C:Array Value,∃T:Fz C,G.bD k=some b/\w.heap[b]?=some (.cells C T.t T.fr)/\aL G cs (C.toList.take cs.length))
  (ho:∀X,x= .obj X->∃b,G.bD k=some b/\w.heap[b]?=some X) (hm:∀es ck,x≠ .map es ck) (ht:x≠ .tok) (hs:∀j t n,x≠ .shape j t n) (hf:∀p,x≠ .fact p:=by intro _ e;cases e):WR G (O.set k x) w where
 base:=h.base
 dT:=h.dT
 oY j hj:=by
  obtain⟨h1,h2,h3⟩:=h.oY j hj;exact⟨h1,h2,(VH.ak _ _ (fun e=>by subst e;exact hk h3)).trans h3⟩
 jL j b hj:=by
  obtain⟨h1,h2,h3⟩:=h.jL j b hj;exact⟨h1,h2,fun hn=>h3 (AB hk hn)⟩
 inj i j b hi hj:=h.inj i j b (AB hk hi) (AB hk hj)
 cells j cs hj:=by
  rcases VH.qq (O:=O) (x:=x) (k:=k) (j:=j)with⟨rfl,e⟩ | ⟨_,e⟩
  ·rw[e]at hj;injection hj with hj;exact hc cs hj
  ·rw[e]at hj;exact h.cells j cs hj
 map j es ck hj:=by
  rcases VH.qq (O:=O) (x:=x) (k:=k) (j:=j)with⟨rfl,e⟩ | ⟨_,e⟩
  ·rw[e]at hj;injection hj with hj;exact absurd hj (hm _ _)
  ·rw[e]at hj;exact h.map j es ck hj
 tok j hj:=by
  rcases VH.qq (O:=O) (x:=x) (k:=k) (j:=j)with⟨rfl,e⟩ | ⟨_,e⟩
  ·rw[e]at hj;injection hj with hj;exact absurd hj ht
  ·rw[e]at hj;exact h.tok j hj
 kY i j b y z hi hj:=by
  rcases VH.qq (O:=O) (x:=x) (k:=k) (j:=i)with⟨rfl,e⟩ | ⟨_,e⟩
  ·rw[e]at hi;injection hi with hi;exact absurd hi ht
  ·rw[e]at hi;rcases VH.qq (O:=O) (x:=x) (k:=k) (j:=j)with⟨rfl,e⟩ | ⟨_,e⟩
   ·rw[e]at hj;injection hj with hj;exact absurd hj ht
   ·rw[e]at hj;exact h.kY i j b y z hi hj
 nL j k' t n hj:=by
  rcases VH.qq (O:=O) (x:=x) (k:=k) (j:=j)with⟨rfl,e⟩ | ⟨_,e⟩
  ·rw[e]at hj;injection hj with hj;exact absurd hj (hs _ _ _)
  ·rw[e]at hj;exact h.nL j k' t n hj
 obj j y hj:=by
  rcases VH.qq (O:=O) (x:=x) (k:=k) (j:=j)with⟨rfl,e⟩ | ⟨_,e⟩
  ·rw[e]at hj;injection hj with hj;exact ho y hj
  ·rw[e]at hj;exact h.obj j y hj
 qc:=h.qc
 Ap:=h.qI (Gh.Le.refl _) (lY hf)
theorem WR.fix {k:Nat} {cs:List MV} (h:WR G O w) (hk:O.hp k=some (.cells cs)):∃X,kj cs X G/\WR G (O.set k (.obj X)) w:=by
 obtain⟨b,C,T,h1,h2,h3⟩:=h.cells k cs hk;exact⟨_,⟨C,T,rfl,h3⟩,h.swap (by rw[hk];simp) (fun _ e=>by cases e) (fun X e=>by injection e with e;exact⟨b,h1,by rw[h2,e]⟩) (fun _ _ e=>by cases e) (fun e=>by cases e) (fun _ _ _ e=>by cases e) (fun _ e=>by cases e)⟩
theorem WR.w_ {k:Nat} {cs:List MV} {X:Obj} (h:WR G O w) (hk:O.hp k=some (.obj X)) (hx:kj cs X G):WR G (O.set k (.cells cs)) w:=by
 obtain⟨b,h1,h2⟩:=h.obj k X hk;obtain⟨C,T,rfl,h3⟩:=hx;exact h.swap (by rw[hk];simp) (fun cs' e=>by injection e with e;subst e;exact⟨b,C,T,h1,h2,h3⟩) (fun X e=>by cases e) (fun _ _ e=>by cases e) (fun e=>by cases e) (fun _ _ _ e=>by cases e) (fun _ e=>by cases e)
theorem VC.pe {id:Nat} (brk:List Nat) (k:Nat) {cs:List MV} (hk:O.hp k=some (.cells cs)) (h:∀X,ab P n D ops brk (fun O'=>O'.hp k=some (.obj X)) (kj cs X) True ops.size (Array.replicate ops.size false) e (O.set k (.obj X)) Q) (hm:P.follows .mixedOrders=true:=by kernel_rfl):VC P n D (.region id ops true) e O Q:=
 fun G a w hw hf=>by
  obtain⟨X,hx,ru⟩:=(hw.drawn _).fix hk;exact wp_region_any hm (kf _ _ _ _ (h X (fun _ _=>kj.mono) trivial (VH.an _ _ _) G a _ hx ru hf))
theorem DI (ht:aJ P tab) {t:TypeId} {i:cn} {cs:List MV} {us:List Value} {off:Nat} (hi:tab t=some i) (hv:mG (eh i.under) i.size cs off=some m) (nO:aL G cs us):
  ∃r,VR G m r/\∀y b,(∀j v,us[j]?=some v->y.cell? ⟨b,j,none⟩=some v)->(Instr.loadAt t (.pointer (some ⟨b,off,none⟩))).run P y= .ok r y:=by
 have eV:=ht t i hi;simp only[Instr.loadAt,Instr.sureAddr,loadVar];unfold mG at hv;split at hv
 ·rename_i oZ;split at hv
  ·rename_i hle;injection hv with hv;subst hv
   have Bk:=(nO.drop off).take i.size;have hlen:((us.drop off).take i.size).length=i.size:=by simp[nO.1];omega
   refine⟨_,.agg Bk.1 Bk.2,fun y b hy=>?_⟩
   have jT:∀j v,((us.drop off).take i.size)[j]?=some v->y.cell? ((⟨b,off,none⟩:Addr).add j)=some v:=by
    intro j v hj;rw[Addr.add_lit];rw[List.getElem?_take]at hj;split at hj
    ·rw[List.getElem?_drop]at hj;exact hy _ v hj
    ·cases hj
   have xC:=run_loadCells_list (P:=P) y ⟨b,off,none⟩ _ jT;rw[hlen]at xC;simp[nM eV,oZ,eN eV,xC]
  ·cases hv
 ·rename_i oZ;obtain⟨v,qd,Fm⟩:=nO.get hv;exact⟨v,Fm,fun y b hy=>by simp[nM eV,oZ,hy _ v qd]⟩
theorem ab.sk (i:Nat) {brk:List Nat} {cs:List MV} {X:Obj} {fuel:Nat} {listed:Array Bool} {l:List Oper} {d:Option Tmp} {t:TypeId} {x:Operand} {ty:TypeId} {ps:String} {af:Array Edge} {g:Option (Nat×Bool)} {k off:Nat} (hv:eD tab (O.set k (.cells cs)) t (.ptr k off)=some m) (h:ab P n D ⟨l⟩ brk (fun O'=>O'.hp k=some (.obj X)) (kj cs X) True fuel (listed.setIfInBounds i true) (aV d m e) O Q) (ht:aJ P tab:=by exact aa) (ho:l[i]?=some (.mk d (.load t x) ty ps af g):=by exact rfl) (hs:Region.noSelect ⟨l⟩=true:=by kernel_rfl) (hf:Region.free .any ⟨l⟩ listed i=true:=by kernel_rfl) (hr:(Region.ready .any ⟨l⟩ listed).contains i=true:=by kernel_rfl) (hb:nu ⟨l⟩ brk listed i=true:=by kernel_rfl) (hg:aK ⟨l⟩ (.mk d (.load t x) ty ps af g) e=some true:=by exact rfl) (hd:bf n d=true:=by exact rfl) (hx:ev e x=some (.ptr k off):=by exact rfl):ab P n D ⟨l⟩ brk (fun O'=>O'.hp k=some (.obj X)) (kj cs X) True (fuel+1) listed e O Q:=by
 refine ab.take (o:=.mk d (.load t x) ty ps af g) (by simpa using ho) hs hf hr hb hd (fun G a w _ hJ hψ hw aT=>?_) h;obtain⟨C,T,rfl,h3⟩:=hψ;unfold eD at hv;simp only[cellsOf,VH.an]at hv;split at hv
 ·rename_i ti cs' off' NY hc;injection hc with hc;injection hc with e1 e2;subst e1;subst e2
  obtain⟨r,ng,fj⟩:=DI (P:=P) ht NY hv h3;have YV:=aT.ev hx;generalize YX:a.eval x=xu at YV;cases YV with
  | ptr hp=>
    rename_i b;refine⟨r,ng,.inl ⟨a_ aT hg,fun y hy=>?_⟩⟩;obtain⟨H,O2,g1,g2,g3⟩:=hy;obtain⟨b',cy,b9⟩:=g2.obj k _ g3;rw[g1.bD hp]at cy;injection cy with cy;subst cy
    have:=fj y b fun j v hj=>by
     rw[List.getElem?_take]at hj;split at hj
     ·simp only[World.cell?,b9,Option.isSome_none,Bool.false_eq_true,if_false];simpa using hj
     ·cases hj
    simp only[execOp,Sem.run_bind,YX,this];rfl
 ·cases hv
theorem ac8 {Q Q':Exit->Act->World->Prop} {i:Nat} {K:Act->World->Prop} (hQ:∀y a w,Q y a w->Q' y a w) (h1:wpOp P ops Q i K a w):wpOp P ops Q' i K a w:=by
 unfold wpOp at h1 ⊢;split
 ·rename_i ho;simp only[ho]at h1;exact h1
 ·rename_i o ho;simp only[ho]at h1;split
  ·rename_i ri;simp only[ri,if_true]at h1;refine h1.imp (fun h2=>?_) (fun⟨h2,a',w',h3⟩=>⟨h2,a',w',hQ _ _ _ h3⟩);unfold Oper.wp at h2 ⊢;generalize (execOp a.eval o).run P w=r at*;cases r with
   | ok nx w'=>
     cases nx<;>simp only[Oper.upon]at h2 ⊢ <;>first
      | exact h2
      | (refine Calls.mono h2 fun x Fu he=>?_
         cases x with
         | returned v=>exact he
         | panicked c=>exact hQ _ _ _ he
         | outgrown=>obtain⟨a',w',h3⟩:=he;exact⟨a',w',hQ _ _ _ h3⟩)
   | halt x w'=>cases x<;>simp only[Oper.upon]at h2 ⊢ <;>first | exact h2 | exact hQ _ _ _ h2
  ·rename_i ri;simp only[ri]at h1;exact h1
def RI (k:Nat) (X:Obj) (cs:List MV) (Q:VQ):VQ:=fun x e O=>match x with
 | .panic m=>O.hp k=some (.obj X)/\Q (.panic m) e (O.set k (.cells cs))
 | _=>False
theorem RI.post {k:Nat} {X:Obj} {cs:List MV} {y:Exit} (hψ :kj cs X G) (h:cf G n D (RI k X cs Q) y a w):cf G n D Q y a w:=by
 obtain⟨x,e,O,H,h1,h2,h3,h4,h5⟩:=h;cases x with
 | panic m=>exact⟨_,e,_,H,h1,h2.w_ h5.1 (hψ.mono h1),h3,h4,h5.2⟩
 | _=>exact h5.elim
theorem ab.jj {brk:List Nat} {k:Nat} {cs:List MV} {X:Obj} {fuel i:Nat} {listed:Array Bool} {l:List Oper} {d:Option Tmp} {f:Operand} {as_:Array Operand} {ts:Array TypeId} {ty:TypeId} {ps:String} {af:Array Edge} {g:Option (Nat×Bool)} {id:FuncId} {ms:List MV} {R:fB->VH->Prop} (hR:VF P id ms O R)
  (h:∀m O',R (.ret m) O'->O'.hp k=some (.obj X)/\ab P n D ⟨l⟩ brk (fun O'=>O'.hp k=some (.obj X)) (kj cs X) True fuel (listed.setIfInBounds i true) (aV d m e) O' Q) (h2:∀m O',R (.panic m) O'->O'.hp k=some (.obj X)/\Q (.panic m) (j_ n e) (O'.set k (.cells cs))) (hr:Region.ready .any ⟨l⟩ listed=[i]:=by kernel_rfl) (ho:l[i]?=some (.mk d (.call {callee:=.value f,args:=as_,argTypes:=ts}) ty ps af g):=by exact rfl) (hg:aK ⟨l⟩ (.mk d (.call {callee:=.value f,args:=as_,argTypes:=ts}) ty ps af g) e=some true:=by exact rfl) (hf:ev e f=some (.func (.func id) [] []):=by exact rfl) (hm:fu e as_.toList=some ms:=by exact rfl) (hb:di P id=true:=by kernel_rfl) (hd:bf n d=true:=by exact rfl):ab P n D ⟨l⟩ brk (fun O'=>O'.hp k=some (.obj X)) (kj cs X) True (fuel+1) listed e O Q:=by
 intro hΨ hZ hJ G a w hψ hw aT;refine jc hr (by simp) fun j hj=>?_
 obtain rfl:j=i:=by simpa using hj
 have h1:=aH.call (Q:=RI k X cs Q) (K:=fun e' O'=>O'.hp k=some (.obj X)/\ab P n D ⟨l⟩ brk (fun O'=>O'.hp k=some (.obj X)) (kj cs X) True fuel (listed.setIfInBounds j true) e' O' Q) (o:=.mk d (.call {callee:=.value f,args:=as_,argTypes:=ts}) ty ps af g) (by simpa using ho) hg rfl rfl hf hm (Enters.sf hb) hd (by simpa using hR) (fun r O' hr=>by
  cases r with
  | ret m=>exact h m O' hr
  | panic m=>exact h2 m O' hr) G a w hw aT
 refine ac8 (fun _ _ _=>RI.post hψ) (wpOp_mono (fun a' w' ⟨e',O',H,h1,h2,h3,h4,h5⟩=>⟨TE.mk ⟨H,O',h1,h2,h4⟩,jd (fun _ _ _=>cf.le h1) _ _ _ _ (fun k _ x hT=>hT.le h1) (h5 hΨ hZ h4 H a' w' (hψ.mono h1) h2 h3)⟩) h1)
theorem ab.w_ {brk:List Nat} {k:Nat} {cs:List MV} {X:Obj} {fuel:Nat} {listed:Array Bool} (hb:((List.range listed.size).all fun j=>listed.getD j true||brk.contains j)=true) (h:bX P n D ops fuel listed e (O.set k (.cells cs)) Q):ab P n D ops brk (fun O'=>O'.hp k=some (.obj X)) (kj cs X) True fuel listed e O Q:=by
 intro hΨ hZ hJ G a w hψ hw aT;refine mM _ _ _ _ (fun j hj x hs=>⟨hs,fun hh=>?_⟩) (h G a w (hw.w_ hJ hψ) aT);rcases Nat.lt_or_ge j listed.size with hl | hl
 ·have:=List.all_eq_true.1 hb j (List.mem_range.2 hl);rw[hj,Bool.false_or]at this;rw[this]at hh;cases hh
 ·rw[Array.getD_eq_getD_getElem?,Array.getElem?_eq_none (by simpa using hl)]at hj;cases hj
theorem ab.mO (ix:List (Nat×Fl)) {brk:List Nat} {k:Nat} {cs:List MV} {X:Obj} {fuel:Nat} {listed:Array Bool} {l:List Oper} {L:List (Fl×Oper)}
  (h:WL P tab n D .any ⟨l⟩ Q L e (O.set k (.cells cs))) (ht:aJ P tab:=by exact aa) (hb:((List.range listed.size).all fun j=>listed.getD j true||brk.contains j)=true:=by kernel_rfl) (hs:Region.noSelect ⟨l⟩=true:=by kernel_rfl) (hp:cz .any ⟨l⟩ fuel listed ix=true:=by kernel_rfl) (hL:nw l ix=some L:=by exact rfl):ab P n D ⟨l⟩ brk (fun O'=>O'.hp k=some (.obj X)) (kj cs X) True fuel listed e O Q:=ab.w_ hb (bX.bI ix h (ht:=ht) (hs:=hs) (hp:=hp) (hL:=hL))
end
def Wk (m m':MV):Prop:=∀G u,VR G m u->VR G m' u
def ew (a b:List MV):Prop:=a.length=b.length/\∀(i:Nat) (c d:MV),a[i]?=some c->b[i]?=some d->Wk c d
theorem Wk.refl (m:MV):Wk m m:=fun _ _ h=>h
theorem Wk.trans {a b c:MV} (h:Wk a b) (k:Wk b c):Wk a c:=fun G u x=>k G u (h G u x)
theorem ew.refl (a:List MV):ew a a:=⟨rfl,fun i c d h k=>by rw[h]at k;injection k with k;subst k;exact Wk.refl _⟩
theorem ew.cons {a b:List MV} {x y:MV} (h:Wk x y) (k:ew a b):ew (x::a) (y::b):=by
 refine⟨by rw[List.length_cons,List.length_cons,k.1],fun i c d e f=>?_⟩;cases i with
 | zero=>simp only[List.getElem?_cons_zero,Option.some.injEq]at e f;subst e;subst f;exact h
 | succ i=>simp only[List.getElem?_cons_succ]at e f;exact k.2 i c d e f
theorem ew.get {a b:List MV} (k:ew a b) {i:Nat} {d:MV} (h:b[i]?=some d):∃c,a[i]?=some c/\Wk c d:=by
 have hi:i<a.length:=by rw[k.1];exact(List.getElem?_eq_some_iff.1 h).1
 exact⟨a[i],List.getElem?_eq_getElem hi,k.2 i _ _ (List.getElem?_eq_getElem hi) h⟩
theorem ew.use {G:Gh} {a b:List MV} (k:ew a b) {us:List Value} (h:∀(i:Nat) (c:MV) (u:Value),a[i]?=some c->us[i]?=some u->VR G c u):∀(i:Nat) (c:MV) (u:Value),b[i]?=some c->us[i]?=some u->VR G c u:=fun i d u h1 h2=>by
 obtain⟨c,h3,h4⟩:=k.get h1;exact h4 G u (h i c u h3 h2)
theorem ew.vrs {G:Gh} {a b:List MV} (k:ew a b) {us:List Value} (h:aL G a us):aL G b us:=⟨h.1.trans k.1,k.use h.2⟩
theorem Wk.agg {a b:List MV} (k:ew a b):Wk (.agg a) (.agg b):=fun G u h=>by
 cases h with
 | agg h1 h2=>exact .agg (h1.trans k.1) (k.use h2)
theorem Wk.tuple {a b:List MV} (k:ew a b):Wk (.tuple a) (.tuple b):=fun G u h=>by
 cases h with
 | tuple h1 h2=>exact .tuple (h1.trans k.1) (k.use h2)
theorem Wk.iface {t:TypeId} {a b:MV} (k:Wk a b):Wk (.iface t a) (.iface t b):=fun G u h=>by
 cases h with
 | iface h1=>exact .iface (k G _ h1)
theorem ew.eq_nil {b:List MV} (k:ew [] b):b=[]:=List.eq_nil_of_length_eq_zero k.1.symm
theorem Wk.sl {n:Nat} {a b:List MV} {t:Tok} (k:ew a b):Wk (.sl n a t) (.sl n b t):=fun G u h=>by
 cases h with
 | slnil=>rw[k.eq_nil];exact .slnil
 | nZ h1=>rw[k.eq_nil];exact .nZ h1
 | jS=>rw[k.eq_nil];exact .jS
 | sl h1 h2 h3 h4 h5 h6=>exact .sl (h1.trans k.1) h2 (k.use h3) h4 h5 (k.1▸h6)
theorem Wk.tok {n:Nat} {a:List MV} {t:Tok}:Wk (.sl n a t) (.sl n a .aq):=fun G u h=>by
 cases h with
 | slnil=>exact .jS
 | nZ h1=>exact .nZ h1
 | jS=>exact .jS
 | sl h1 h2 h3 h4 h5 h6=>exact .sl h1 h2 h3 h4 h5 trivial
mutual
def aq:MV->MV
 | .sl n cs _=>.sl n (cD cs) .aq
 | .agg cs=>.agg (cD cs)
 | .tuple cs=>.tuple (cD cs)
 | .iface t x=>.iface t (aq x)
 | .v x=>.v x
 | .str l=>.str l
 | .ptr b o=>.ptr b o
 | .cU cs o=>.cU cs o
 | .bk b o n c=>.bk b o n c
 | .map b=>.map b
 | .func f a b=>.func f a b
def cD:List MV->List MV
 | []=>[]
 | c::cs=>aq c::cD cs
end
mutual
theorem ze:∀m,Wk m (aq m)
 | .sl n cs t=>by rw[aq];exact(Wk.sl (pf cs)).trans Wk.tok
 | .agg cs=>by rw[aq];exact Wk.agg (pf cs)
 | .tuple cs=>by rw[aq];exact Wk.tuple (pf cs)
 | .iface t x=>by rw[aq];exact Wk.iface (ze x)
 | .v x=>by rw[aq];exact Wk.refl _
 | .str l=>by rw[aq];exact Wk.refl _
 | .ptr b o=>by rw[aq];exact Wk.refl _
 | .cU cs o=>by rw[aq];exact Wk.refl _
 | .bk b o n c=>by rw[aq];exact Wk.refl _
 | .map b=>by rw[aq];exact Wk.refl _
 | .func f a b=>by rw[aq];exact Wk.refl _
theorem pf:∀cs,ew cs (cD cs)
 | []=>by rw[cD];exact ew.refl _
 | c::cs=>by rw[cD];exact ew.cons (ze c) (pf cs)
end
theorem mP (a b:List MV):cD (a++b)=cD a++cD b:=by
 induction a with
 | nil=>rw[cD,List.nil_append,List.nil_append]
 | cons x a ih=>rw[List.cons_append,cD,cD,ih,List.cons_append]
theorem ko {α :Type} {f: α ->List MV} (h:∀x,cD (f x)=f x) (L:List α):cD (L.flatMap f)=L.flatMap f:=by
 induction L with
 | nil=>rw[List.flatMap_nil,cD]
 | cons x L ih=>rw[List.flatMap_cons,mP,h,ih]
theorem Ux (L:List (List UInt8)):cD (L.map .str)=L.map .str:=by
 induction L with
 | nil=>rw[List.map_nil,cD]
 | cons x L ih=>rw[List.map_cons,cD,aq,ih]
def oE:MV->MV
 | .sl n cs t=>.sl n (cD cs) t
 | m=>aq m
theorem KW (m:MV):Wk m (oE m):=by
 cases m with
 | sl n cs t=>exact Wk.sl (pf cs)
 | _=>exact ze _
def DJ:List MV->List MV
 | []=>[]
 | c::cs=>oE c::DJ cs
theorem KX:∀cs,ew cs (DJ cs)
 | []=>ew.refl _
 | c::cs=>ew.cons (KW c) (KX cs)
def s_:MV->MV
 | .sl n cs t=>.sl n (cD cs) t
 | .tuple cs=>.tuple (DJ cs)
 | m=>aq m
theorem YY (m:MV):Wk m (s_ m):=by
 cases m with
 | sl n cs t=>exact Wk.sl (pf cs)
 | tuple cs=>exact Wk.tuple (KX cs)
 | _=>exact ze _
section
variable {P:Program} {f:FuncId} {as_ bs:List MV} {O:VH}
theorem VF.fgR {R:fB->VH->Prop} (h:VF P f as_ O fun r O'=>match r with
  | .ret m=>R (.ret (s_ m)) O'
  | .panic m=>R (.panic (aq m)) O'):VF P f as_ O R:=fun G w vs hw hv=>by
 refine(h G w vs hw hv).mono ?_;rintro x w' ⟨r,O',H,h1,h2,h3,h4⟩;cases r with
 | ret m=>cases x with
   | returned v=>exact⟨.ret _,O',H,h1,h2,YY m H v h3,h4⟩
   | _=>exact h3.elim
 | panic m=>cases x with
   | panicked c=>obtain⟨u,h5,h6⟩:=h3;exact⟨.panic _,O',H,h1,h2,⟨u,h5,ze m H u h6⟩,h4⟩
   | _=>exact h3.elim
theorem VF.fg {Φ :MV->VH->Prop} (h:VF P f as_ O (aI fun m O'=> Φ (s_ m) O')):VF P f as_ O (aI Φ):=VF.fgR (VF.mono (fun r O' hr=>by cases r with
 | ret m=>exact hr
 | panic m=>exact hr.elim) h)
variable {n:Sz} {md:Md} {Q:VQ} {e:Env} {K:Env->VH->Prop}
end
section
variable {P:Program} {tab:bS} {n:Sz} {D:List Deferred} {md:Md} {ops:Array Oper} {Q:VQ} {e e':Env} {O O':VH} {m m':MV}
def EW (e e':Env):Prop:=∀t x',look e' t=some x'->∃x,look e t=some x/\Wk x x'
theorem EW.refl (e:Env):EW e e:=fun t x h=>⟨x,h,Wk.refl _⟩
theorem EW.top {k:Nat} (h:Wk m m'):EW ((k,m)::e) ((k,m')::e):=fun t x hx=>by
 rw[look]at hx ⊢;cases ht:t==k
 ·rw[ht]at hx;exact⟨x,hx,Wk.refl _⟩
 ·rw[ht]at hx;injection hx with hx;subst hx;exact⟨m,rfl,h⟩
theorem EW.aV {d:Option Tmp} (h:Wk m m'):EW (aV d m e) (aV d m' e):=by
 cases d with
 | none=>exact EW.refl _
 | some k=>exact EW.top h
theorem FR.wk {G:Gh} {a:Act} (h:FR G n D e a) (hl:EW e e'):FR G n D e' a:=⟨h.defers,h.size,fun t x hx=>by
 obtain⟨y,h1,h2⟩:=hl t x hx;obtain⟨u,h3,h4⟩:=h.get t y h1;exact⟨u,h3,h2 G u h4⟩⟩
theorem VL.wk {L:List (Fl×Oper)} (hl:EW e e') (h:VL P n D md ops L e' O Q):VL P n D md ops L e O Q:=fun fuel listed ix h1 h2=>by
 have:=h fuel listed ix h1 h2;cases md<;>exact fun G a w hw hf=>this G a w hw (hf.wk hl)
theorem VC.bE {c d:Code} {σ :Type} (l:List Nat) (ms: σ ->List MV) (I: σ ->VH->Prop) (h1:VC P n D c e O (aA l ms I Q)) (h2:∀s O,I s O->VC P n D d (iI l (ms s) []) O Q):VC P n D (.seq c d) e O Q:=by
 refine VC.seq (VC.mono ?_ h1);intro x e O h;cases x with
 | normal=>
   obtain⟨s,h3,h4⟩:=h;exact VC.env (h2 s O h4) (gW (e0:=[]) (fun t x h=>by simp[look]at h) h3)
 | _=>exact h
theorem VL.k6 {d:Option Tmp} {x y:Operand} {t ty:TypeId} {ps:String} {af:Array Edge} {g:Option (Nat×Bool)} {L:List (Fl×Oper)} {p q:MV} (hv:gP tab O t p q=some (m,O')) (hw:oE m=m') (h:WL P tab n D md ops Q L (aV d m' e) O') (ht:aJ P tab:=by exact aa) (hx:ev e x=some p:=by exact rfl) (hy:ev e y=some q:=by exact rfl) (hg:aK ops (.mk d (.call {callee:=.builtin .append,args:= #[x,y],argTypes:= #[t,t]}) ty ps af g) e=some true:=by exact rfl) (hd:bf n d=true:=by exact rfl):
  VL P n D md ops ((.one,.mk d (.call {callee:=.builtin .append,args:= #[x,y],argTypes:= #[t,t]}) ty ps af g)::L) e O Q:=
 VL.step ht hg (by rw[vW,cI,hx,hy];exact hv) hd (VL.wk (EW.aV (hw▸KW m)) (WL.sound ht h))
end
section
variable {n:Nat} {cs as_ bs:List MV} {t:Tok} {ty:TypeId} {x:MV} {l:List UInt8} {b o:Nat} {v:Value} {f:Fn} {c:MV}
theorem YZ:s_ (.sl n cs t)= .sl n (cD cs) t:=rfl
theorem KY:s_ (.tuple cs)= .tuple (DJ cs):=rfl
theorem Uy:s_ (.agg cs)= .agg (cD cs):=by show aq (.agg cs)=_;rw[aq]
theorem ac9:s_ (.v v)= .v v:=by show aq (.v v)=_;rw[aq]
theorem Uz:s_ (.str l)= .str l:=by show aq (.str l)=_;rw[aq]
theorem UA:s_ (.ptr b o)= .ptr b o:=by show aq (.ptr b o)=_;rw[aq]
theorem UC {i j:Nat}:s_ (.bk b o i j)= .bk b o i j:=by show aq (.bk b o i j)=_;rw[aq]
theorem UD:s_ (.map b)= .map b:=by show aq (.map b)=_;rw[aq]
theorem Pn:s_ (.func f as_ bs)= .func f as_ bs:=by show aq (.func f as_ bs)=_;rw[aq]
theorem ry:oE (.sl n cs t)= .sl n (cD cs) t:=rfl
theorem KZ:oE (.tuple cs)= .tuple (cD cs):=by show aq (.tuple cs)=_;rw[aq]
theorem UE:oE (.agg cs)= .agg (cD cs):=by show aq (.agg cs)=_;rw[aq]
theorem ac_:oE (.v v)= .v v:=by show aq (.v v)=_;rw[aq]
theorem UF:oE (.str l)= .str l:=by show aq (.str l)=_;rw[aq]
theorem UG:oE (.ptr b o)= .ptr b o:=by show aq (.ptr b o)=_;rw[aq]
theorem Po:oE (.cU cs o)= .cU cs o:=by show aq (.cU cs o)=_;rw[aq]
theorem UH {i j:Nat}:oE (.bk b o i j)= .bk b o i j:=by show aq (.bk b o i j)=_;rw[aq]
theorem UI:oE (.map b)= .map b:=by show aq (.map b)=_;rw[aq]
theorem Pp:oE (.func f as_ bs)= .func f as_ bs:=by show aq (.func f as_ bs)=_;rw[aq]
theorem K_:oE (.iface ty x)= .iface ty (aq x):=by show aq (.iface ty x)=_;rw[aq]
theorem UJ:DJ []=[]:=rfl
theorem Pq:DJ (c::cs)=oE c::DJ cs:=rfl
theorem ada:aq (.sl n cs t)= .sl n (cD cs) .aq:=by rw[aq]
theorem Y0:aq (.agg cs)= .agg (cD cs):=by rw[aq]
theorem agr:aq (.v v)= .v v:=by rw[aq]
theorem Y1:aq (.str l)= .str l:=by rw[aq]
theorem Y2:aq (.ptr b o)= .ptr b o:=by rw[aq]
theorem Y3 {i j:Nat}:aq (.bk b o i j)= .bk b o i j:=by rw[aq]
theorem Y4:aq (.map b)= .map b:=by rw[aq]
theorem Pr:aq (.iface ty x)= .iface ty (aq x):=by rw[aq]
theorem G6:cD []=[]:=by rw[cD]
theorem Ps:cD (c::cs)=aq c::cD cs:=by rw[cD]
end
set_option linter.defProp false in
def wu:=And.intro @YZ<|And.intro @KY<|And.intro @Uy<|And.intro @ac9<|And.intro @Uz<|And.intro @UA<|And.intro @UC<|And.intro @UD<|And.intro @Pn<|And.intro @ry<|And.intro @KZ<|And.intro @UE<|And.intro @ac_<|And.intro @UF<|And.intro @UG<|And.intro @Po<|And.intro @UH<|And.intro @UI<|And.intro @Pp<|And.intro @K_<|And.intro @UJ<|And.intro @Pq<|And.intro @ada<|And.intro @Y0<|And.intro @agr<|And.intro @Y1<|And.intro @Y2<|And.intro @Y3<|And.intro @Y4<|And.intro @Pr<|And.intro @G6<|And.intro @Ps<|And.intro @mP @Ux
open Go.MapKept (run_setObj_map)
section
variable {G H:Gh} {n:Sz} {D:List Deferred} {e:Env} {a:Act} {P:Program} {tab:bS} {O O':VH} {w:World} {m m':MV} {u v:Value} {ops:Array Oper} {Q:VQ} {md:Md}
theorem IE {t:TypeId} {x:MV} {cs:List MV} {ok:Bool}:jy tab O t x (.agg cs) ok=none:=by
 unfold jy;split
 ·split
  ·rename_i kd te h1 h2;have:Bo kd (.agg cs)=false:=by cases kd<;>rfl
   rw[this]
  ·rfl
 ·rfl
theorem B_ {t:TypeId} {x y:MV} {cs:List MV}:eZ tab O t x (.agg cs) y=none:=by
 unfold eZ;split
 ·split
  ·rename_i kd es ck h1 h2;have:Bo kd (.agg cs)=false:=by cases kd<;>rfl
   rw[this]
  ·rfl
 ·rfl
def fc (l:List (List UInt8)):Value:=.agg (l.map fun s=>Value.string ⟨⟨s⟩⟩).toArray
structure tc (P:Program) (kt:TypeId) (N:Nat):Prop where
 law:WideMaps.KeyLaw P kt
 of:∀l:List (List UInt8),l.length=N->(∀s∈l,s.length<=maxLen)->∃lit,keyOf P kt (fc l)=some lit
theorem G7:∀{l:List (List UInt8)} {us:List Value},aL G (l.map .str) us->us=l.map fun s=>Value.string ⟨⟨s⟩⟩
 | [],us,h=>List.eq_nil_of_length_eq_zero h.1
 | s::l,[],h=>by have:=h.1;simp at this
 | s::l,x::us,h=>by
   have h1:VR G (.str s) x:=h.2 0 _ _ rfl rfl;cases h1;rw[List.map_cons,G7 (l:=l) (us:=us) ⟨by have:=h.1;simpa using this,fun i c u a b=>h.2 (i+1) c u (by simpa using a) (by simpa using b)⟩]
theorem zf {l:List (List UInt8)} (h:VR G (.agg (l.map .str)) v):v=fc l:=by
 cases h with
 | agg h1 h2=>rw[G7 ⟨h1,h2⟩];rfl
theorem Pt {l m:List (List UInt8)} (h:fc l=fc m):l=m:=by
 unfold fc at h;injection h with h;have h:=congrArg Array.toList h;simp only at h
 have:∀{l m:List (List UInt8)},l.map (fun s=>Value.string ⟨⟨s⟩⟩)=m.map (fun s=>Value.string ⟨⟨s⟩⟩)->l=m:=by
  intro l;induction l with
  | nil=>intro m h;cases m with
    | nil=>rfl
    | cons y m=>simp at h
  | cons x l ih=>intro m h;cases m with
    | nil=>simp at h
    | cons y m=>
      simp only[List.map_cons,List.cons.injEq,Value.string.injEq,ByteArray.mk.injEq,Array.mk.injEq]at h;rw[h.1,ih h.2]
 exact this h
abbrev eW:=List (List (List UInt8)×MV×Nat)
def cx (M:eW):wL:=M.map fun p=>(.agg (p.1.map .str),p.2.1,p.2.2)
def iK (l:List (List UInt8)) (M:eW):Option MV:=(M.find? (·.1==l)).map (·.2.1)
def je (l:List (List UInt8)) (y:MV) (ck:Nat) (M:eW):eW:=if M.any (·.1==l)then M.map (fun p=>if p.1=l then(l,y,p.2.2)else p)else M++[(l,y,ck)]
def La (l:List (List UInt8)) (ck:Nat) (M:eW):Nat:=if M.any (·.1==l)then ck else ck+1
structure nQ (N:Nat) (M:eW):Prop where
 len:∀p∈M,p.1.length=N/\∀s∈p.1,s.length<=maxLen
 one:(M.map (·.1)).Nodup
theorem IF {M:eW} (h:(M.map (·.1)).Nodup) {j:Nat} {p:List (List UInt8)×MV×Nat} (hp:M[j]?=some p):iK p.1 M=some p.2.1:=by
 unfold iK;induction M generalizing j with
 | nil=>simp at hp
 | cons x M ih=>
   simp only[List.map_cons,List.nodup_cons]at h;cases j with
   | zero=>simp only[List.getElem?_cons_zero,Option.some.injEq]at hp;subst hp;simp
   | succ j=>
     simp only[List.getElem?_cons_succ]at hp;have hm:p.1∈M.map (·.1):=List.mem_map_of_mem (List.mem_of_getElem? hp)
     have hne:(x.1==p.1)=false:=by
      rw[beq_eq_false_iff_ne];intro e;exact h.1 (e▸hm)
     rw[List.find?_cons,hne];exact ih h.2 hp
theorem vZ {M:eW} {l:List (List UInt8)} (h:∀p∈M,p.1≠l):iK l M=none:=by
 unfold iK;rw[List.find?_eq_none.2 (fun p hp=>by simpa using h p hp)];rfl
theorem fW.keys {M:eW} {E:List MapEntry} (h:fW G (cx M) E):E.length=M.length/\∀(j:Nat) (p:List (List UInt8)×MV×Nat) (x:MapEntry),M[j]?=some p->E[j]?=some x->x.key=fc p.1/\VR G p.2.1 x.val/\x.born=p.2.2:=by
 have hl:E.length=M.length:=by have:=h.key.1;simpa[cx]using this
 refine⟨hl,fun j p x hp hx=>⟨?_,?_,?_⟩⟩
 ·exact zf (h.key.2 j _ _ (by simp[cx,hp]) (by simp[hx]))
 ·exact h.val.2 j _ _ (by simp[cx,hp]) (by simp[hx])
 ·have:=congrArg (fun l=>l[j]?) h.born;simpa[cx,hp,hx]using this
theorem zg {kt:TypeId} {N:Nat} (K:tc P kt N) {M:eW} {E:List MapEntry} {l:List (List UInt8)} (hM:nQ N M) (hE:fW G (cx M) E) (hl:l.length=N) (hs:∀s∈l,s.length<=maxLen) (w:World):
  ((Instr.findKey kt (fc l) E).run P w= .ok none w/\∀p∈M,p.1≠l)\/∃(j:Nat) (p:List (List UInt8)×MV×Nat) (x:MapEntry),(Instr.findKey kt (fc l) E).run P w= .ok (some (j,x.val)) w/\M[j]?=some p/\p.1=l/\E[j]?=some x/\VR G p.2.1 x.val:=by
 obtain⟨lit,xc⟩:=K.of l hl hs;obtain⟨h1,h2⟩:=hE.keys
 have jU:∀x∈E,∃q,keyOf P kt x.key=some q:=fun x hx=>by
  obtain⟨j,hj,rfl⟩:=List.mem_iff_getElem.1 hx;have UK:j<M.length:=by omega
  have:=(h2 j _ _ (List.getElem?_eq_getElem UK) (List.getElem?_eq_getElem hj)).1;rw[this];exact K.of _ (hM.len _ (List.getElem_mem UK)).1 (hM.len _ (List.getElem_mem UK)).2
 rcases K.law.find w xc E jU with⟨g1,g2⟩ | ⟨j,x,g1,g2,g3⟩
 ·refine .inl ⟨g1,fun p hp e=>?_⟩;obtain⟨j,hj,rfl⟩:=List.mem_iff_getElem.1 hp;have Y5:j<E.length:=by omega
  have:=(h2 j _ _ (List.getElem?_eq_getElem hj) (List.getElem?_eq_getElem Y5)).1;exact g2 _ (List.getElem_mem Y5) (by rw[this,e])
 ·have Y5:=(List.getElem?_eq_some_iff.1 g2).1;have UK:j<M.length:=by omega
  have h3:=h2 j _ _ (List.getElem?_eq_getElem UK) g2;exact .inr ⟨j,M[j],x,g1,List.getElem?_eq_getElem UK,Pt (h3.1.symm.trans g3),g2,h3.2.1⟩
theorem fW.ahJ {M:eW} {E:List MapEntry} {l:List (List UInt8)} {y:MV} {yv:Value} (hM:(M.map (·.1)).Nodup) (hE:fW G (cx M) E) (hy:VR G y yv) {j:Nat} {p:List (List UInt8)×MV×Nat} (hp:M[j]?=some p) (dF:p.1=l) (hk:VR G (.agg (l.map .str)) (fc l)):
  fW G (cx (M.map fun p=>if p.1=l then(l,y,p.2.2)else p)) (E.modify j fun x=>{x with key:=fc l,val:=yv}):=by
 have e:cx (M.map fun p=>if p.1=l then(l,y,p.2.2)else p)=setAt (cx M) j (.agg (l.map .str)) y:=by
  clear hE hy hk;unfold cx setAt;induction M generalizing j with
  | nil=>simp at hp
  | cons x M ih=>
    simp only[List.map_cons,List.nodup_cons]at hM;cases j with
    | zero=>
      simp only[List.getElem?_cons_zero,Option.some.injEq]at hp;subst hp
      have fw:M.map (fun p=>if p.1=l then(l,y,p.2.2)else p)=M:=by
       have:∀q∈M,(if q.1=l then(l,y,q.2.2)else q)=q:=fun q hq=>if_neg fun e=>hM.1 (by rw[dF, <-e];exact List.mem_map_of_mem hq)
       calc M.map (fun p=>if p.1=l then(l,y,p.2.2)else p)=M.map id:=List.map_congr_left this
        _=M:=by simp
      simp only[List.map_cons,List.modify_zero_cons,if_pos dF];rw[fw]
    | succ j=>
      simp only[List.getElem?_cons_succ]at hp;have hne:¬x.1=l:=fun e=>hM.1 (by rw[e, <-dF];exact List.mem_map_of_mem (List.mem_of_getElem? hp))
      simp only[List.map_cons,List.modify_succ_cons,if_neg hne];rw[ih hM.2 hp]
 rw[e];exact fW.modify hk hy j hE
theorem Y6 (l:List (List UInt8)):VR G (.agg (l.map .str)) (fc l):=by
 unfold fc;refine .agg (by simp) fun i c u h1 h2=>?_
 simp only[List.getElem?_map,Option.map_eq_some_iff]at h1 h2;obtain⟨s,h3,rfl⟩:=h1;obtain⟨t,h4,rfl⟩:=h2;rw[h3]at h4;injection h4 with h4;subst h4
 exact .str
def fy (P:Program) (n:Sz) (D:List Deferred) (o:Oper) (e:Env) (O:VH) (m:MV):Prop:=∀G a w,WR G O w->FR G n D e a->∃u,VR G m u/\∀x,Sx G w x->(execOp a.eval o).run P x= .ok (.value u) x
theorem aH.hold {i:Nat} {o:Oper} {K:Env->VH->Prop} (ho:ops[i]?=some o) (hg:aK ops o e=some true) (hd:bf n o.dst=true) (hy:fy P n D o e O m) (h:K (aV o.dst m e) O):aH P n D ops i e O Q K:=by
 refine aH.fD (M:=fun m' O'=>m'=m/\O'=O) ho hg hd (fun G a w hw hf=>?_) (by rintro m' O' ⟨rfl,rfl⟩;exact h);obtain⟨u,hu,hr⟩:=hy G a w hw hf;exact⟨m,O,u,w,G,⟨rfl,rfl⟩,hr w hw.sx,Gh.Le.refl G,hw,hu⟩
theorem VL.hold {f:Fl} {o:Oper} {L:List (Fl×Oper)} (hh:(f= .one/\(md= .plain\/md= .any))\/f= .rd) (hg:aK ops o e=some true) (hd:bf n o.dst=true) (hy:fy P n D o e O m) (h:VL P n D md ops L (aV o.dst m e) O Q):VL P n D md ops ((f,o)::L) e O Q:=by
 intro fuel listed ix hf hp
 match ix,hf with
 | (i,g)::ix,hf=>
   obtain⟨rfl,ho,hf⟩:=hf;cases md with
   | plain=>exact gR.one (aH.hold ho hg hd hy (h 0 #[] ix hf (fun h=>absurd rfl h)))
   | any=>
     obtain⟨h1,h2⟩:=hp (by simp);cases fuel with
     | zero=>cases h2
     | succ fuel=>
       simp only[cz,Bool.and_eq_true]at h2;have hk:=h fuel (listed.setIfInBounds i true) ix hf (fun _=>⟨h1,h2.2⟩);rcases hh with⟨rfl,_⟩ | rfl
       ·have hr:Region.ready .any ops listed=[i]:=by simpa using h2.1
        exact bX.all hr (by simp) fun j hj=>by
         obtain rfl:j=i:=by simpa using hj
         exact aH.hold ho hg hd hy hk
       ·exact absurd h2.1 (by simp)
   | reads=>
     obtain⟨h1,h2⟩:=hp (by simp);cases fuel with
     | zero=>cases h2
     | succ fuel=>
       simp only[cz,Bool.and_eq_true]at h2;have hk:=h fuel (listed.setIfInBounds i true) ix hf (fun _=>⟨h1,h2.2⟩);rcases hh with⟨_,h3 | h3⟩ | rfl
       ·cases h3
       ·cases h3
       intro G a w hw aT;obtain⟨u,hu,bW⟩:=hy G a w hw aT;have h3:Region.free .any ops listed i=true/\(Region.ready .any ops listed).contains i=true:=by simp_all
       exact wpAnyH_take ho h1 h3.1 h3.2 (gy hd) (.inl ⟨a_ aT hg,fun w' CQ=>by rw[CQ];exact bW w hw.sx⟩) rfl (hk G _ w hw (aT.aV hd hu))
   | held brk=>
     obtain⟨h1,h2⟩:=hp (by simp);cases fuel with
     | zero=>cases h2
     | succ fuel=>
       simp only[cz,Bool.and_eq_true]at h2;have hk:=h fuel (listed.setIfInBounds i true) ix hf (fun _=>⟨h1,h2.2⟩);rcases hh with⟨_,h3 | h3⟩ | rfl
       ·cases h3
       ·cases h3
       simp only[Bool.and_eq_true]at h2
       exact bt.take ho h1 h2.1.1.1 h2.1.1.2 h2.1.2 hd (fun G a w hw aT=>by
        obtain⟨u,hu,bW⟩:=hy G a w hw aT;exact⟨u,hu,.inl ⟨a_ aT hg,fun x hx=>bW x hx⟩⟩) hk
def xO (ok:Bool) (z:MV):Option MV->MV
 | some m=>if ok then .tuple [m,.v (.bool true)]else m
 | none=>if ok then .tuple [z,.v (.bool false)]else z
theorem RJ {z m:MV}:xO false z (some m)=m:=rfl
theorem adb {z m:MV}:xO true z (some m)= .tuple [m,.v (.bool true)]:=rfl
theorem ade {z:MV}:xO false z none=z:=rfl
theorem IG {z:MV}:xO true z none= .tuple [z,.v (.bool false)]:=rfl
theorem fy.lq {kt et:TypeId} {N:Nat} (K:tc P kt N) (ht:aJ P tab) {d:Option Tmp} {t ty:TypeId} {x y:Operand} {ok:Bool} {ps:String} {af:Array Edge} {g:Option (Nat×Bool)} {b ck:Nat} {M:eW} {l:List (List UInt8)} {te:cn} {z:MV} (hU:P.underlying t=some (.map kt et)) (nf:tab et=some te) (hz:yz te=some z)
  (hx:ev e x=some (.map b)) (hb:O.hp b=some (.map (cx M) ck)) (hM:nQ N M) (hy:ev e y=some (.agg (l.map .str))) (hl:l.length=N) (hs:∀s∈l,s.length<=maxLen):fy P n D (.mk d (.lookup t x y ok) ty ps af g) e O (xO ok z (iK l M)):=by
 intro G a w hw hf;have h1:=hf.ev hx;have h2:=hf.ev hy;generalize oc:a.eval x=u at h1;generalize xN:a.eval y=v at h2;have hv:=zf h2;subst hv;cases h1 with
 | map dW=>
   rename_i b';obtain⟨b2,E,e1,e2,e3,e4,e5⟩:=hw.map _ _ _ hb;rw[dW]at e1;injection e1 with e1;subst e1
   have hE:fW G (cx M) E.toList:=⟨e3,e4,e5⟩;obtain⟨lit,xc⟩:=K.of l hl hs;obtain⟨zv,z1,z2⟩:=xH (ht et te nf) hz;have ael:∀y,Sx G w y->y.heap[b']?=some (.map E ck):=fun y hy=>(hy.2 _ _ dW).trans e2
   by_cases hin:∃p∈M,p.1=l
   ·have h3:=zg K hM hE hl hs w;rcases h3 with⟨_,g2⟩ | ⟨j,p,q,_,g2,g3,g4,g5⟩
    ·obtain⟨p,hp,e⟩:=hin;exact absurd e (g2 p hp)
    have fR:iK l M=some p.2.1:=by rw[<-g3];exact IF hM.one g2
    rw[fR];refine⟨if ok then .tuple #[q.val,.bool true]else q.val,?_,fun yw hyw=>?_⟩
    ·cases ok
     ·exact g5
     ·exact VR.tuple (us:=[q.val,.bool true]) rfl (aL.cons g5 (aL.cons (.v rfl) aL.nil)).2
    ·have hr:(Instr.findKey kt (fc l) E.toList).run P yw= .ok (some (j,q.val)) yw:=by
      rcases zg K hM hE hl hs yw with⟨_,g6⟩ | ⟨j',p',q',g6,g7,g8,g9,_⟩
      ·exact absurd g3 (g6 p (List.mem_of_getElem? g2))
      ·have lr:j'=j:=by
        have h5:(M.map (·.1))[j']?=some l:=by simp[g7,g8]
        have h6:(M.map (·.1))[j]?=some l:=by simp[g2,g3]
        exact(List.getElem?_inj (by simpa using(List.getElem?_eq_some_iff.1 g7).1) hM.one).1 (h5.trans h6.symm)
       subst lr;rw[g4]at g9;injection g9 with g9;subst g9
       exact g6
     have IH:=K.law.check yw E.isEmpty xc;simp only[execOp,oc,xN,Instr.lookup,Sem.run_bind,run_underlying hU,Result.andThen_ok,MapKept.run_getObj_map (ael yw hyw),IH,hr,Sem.run_pure]
   ·have fw:∀p∈M,p.1≠l:=fun p hp e=>hin ⟨p,hp,e⟩
    rw[vZ fw];refine⟨if ok then .tuple #[zv,.bool false]else zv,?_,fun yw hyw=>?_⟩
    ·cases ok
     ·exact z2 G
     ·exact VR.tuple (us:=[zv,.bool false]) rfl (aL.cons (z2 G) (aL.cons (.v rfl) aL.nil)).2
    ·have hr:(Instr.findKey kt (fc l) E.toList).run P yw= .ok none yw:=by
      rcases zg K hM hE hl hs yw with⟨g6,_⟩ | ⟨j',p',q',_,g7,g8,_⟩
      ·exact g6
      ·exact absurd g8 (fw p' (List.mem_of_getElem? g7))
     have IH:=K.law.check yw E.isEmpty xc;simp only[execOp,oc,xN,Instr.lookup,Sem.run_bind,run_underlying hU,Result.andThen_ok,MapKept.run_getObj_map (ael yw hyw),IH,hr,Sem.run_pure,z1]
def oh (P:Program) (n:Sz) (D:List Deferred) (o:Oper) (e:Env) (O O':VH):Prop:=∀G a w,WR G O w->FR G n D e a->∃w' H,(execOp a.eval o).run P w= .ok .skip w'/\Gh.Le G H/\WR H O' w'
theorem aH.om {i:Nat} {o:Oper} {K:Env->VH->Prop} (ho:ops[i]?=some o) (hg:aK ops o e=some true) (hd:bf n o.dst=true) (hy:oh P n D o e O O') (h:K (aV o.dst cw e) O'):aH P n D ops i e O Q K:=by
 intro G a w hw aT;obtain⟨w',H,hr,h1,h2⟩:=hy G a w hw aT;simp only[wpOp,ho,a_ aT hg,if_true];refine .inl ?_;unfold Oper.wp;rw[hr];exact⟨_,_,H,h1,h2,(aT.mono h1).aV hd kI,h⟩
theorem VL.om {o:Oper} {L:List (Fl×Oper)} (hg:aK ops o e=some true) (hd:bf n o.dst=true) (hy:oh P n D o e O O')
  (o7:∀brk,md= .held brk->∀i,ops[i]?=some o->brk.contains i=true) (h:VL P n D md ops L (aV o.dst cw e) O' Q):VL P n D md ops ((.one,o)::L) e O Q:=by
 intro fuel listed ix hf hp
 match ix,hf with
 | (i,g)::ix,hf=>
   obtain⟨rfl,ho,hf⟩:=hf;cases md with
   | plain=>exact gR.one (aH.om ho hg hd hy (h 0 #[] ix hf (fun h=>absurd rfl h)))
   | any=>
     obtain⟨h1,h2⟩:=hp (by simp);cases fuel with
     | zero=>cases h2
     | succ fuel=>
       simp only[cz,Bool.and_eq_true]at h2;have hr:Region.ready .any ops listed=[i]:=by simpa using h2.1
       exact bX.all hr (by simp) fun j hj=>by
        obtain rfl:j=i:=by simpa using hj
        exact aH.om ho hg hd hy (h fuel (listed.setIfInBounds j true) ix hf (fun _=>⟨h1,h2.2⟩))
   | reads=>
     obtain⟨h1,h2⟩:=hp (by simp);cases fuel with
     | zero=>cases h2
     | succ fuel=>
       simp only[cz,Bool.and_eq_true]at h2;exact absurd h2.1 (by simp)
   | held brk=>
     obtain⟨h1,h2⟩:=hp (by simp);cases fuel with
     | zero=>cases h2
     | succ fuel=>
       simp only[cz,Bool.and_eq_true]at h2;have hr:Region.ready .any ops listed=[i]:=by simpa using h2.1.1
       have wI:∀j,(listed.setIfInBounds i true).getD j true=false\/j=i->brk.contains j=true:=by
        rcases rk ho h2.1.2 with⟨h3,_⟩ | h3
        ·rw[o7 brk rfl i ho]at h3;cases h3
        ·exact h3
       exact bt.Xu hr wI (aH.om ho hg hd hy (h fuel (listed.setIfInBounds i true) ix hf (fun _=>⟨h1,h2.2⟩)))
theorem oh.je {kt et:TypeId} {N:Nat} (K:tc P kt N) {d:Option Tmp} {t ty:TypeId} {x y z:Operand} {ps:String} {af:Array Edge} {g:Option (Nat×Bool)} {b ck:Nat} {M:eW} {l:List (List UInt8)} (hU:P.underlying t=some (.map kt et))
  (hx:ev e x=some (.map b)) (hb:O.hp b=some (.map (cx M) ck)) (hM:nQ N M) (hy:ev e y=some (.agg (l.map .str))) (hl:l.length=N) (hs:∀s∈l,s.length<=maxLen) (hz:ev e z=some m):oh P n D (.mk d (.mapUpdate t x y z) ty ps af g) e O (O.set b (.map (cx (je l m ck M)) (La l ck M))):=by
 intro G a w hw hf;have h1:=hf.ev hx;have h2:=hf.ev hy;have h3:=hf.ev hz;generalize oc:a.eval x=u at h1;generalize xN:a.eval y=v at h2;generalize haz:a.eval z=r at h3;have hv:=zf h2;subst hv;cases h1 with
 | map dW=>
   rename_i b';obtain⟨b2,E,e1,e2,e3,e4,e5⟩:=hw.map _ _ _ hb;rw[dW]at e1;injection e1 with e1;subst e1
   have hE:fW G (cx M) E.toList:=⟨e3,e4,e5⟩;obtain⟨lit,xc⟩:=K.of l hl hs;have IH:=K.law.check w false xc;rcases zg K hM hE hl hs w with⟨g1,g2⟩ | ⟨j,p,q,g1,g2,g3,g4,g5⟩
   ·have jW:M.any (·.1==l)=false:=by rw[List.any_eq_false];intro p hp;simpa using g2 p hp
    have hr:fW G (cx (M++[(l,m,ck)])) (E.push {key:=fc l,val:=r,born:=ck}).toList:=by
     rw[Array.toList_push];unfold cx;rw[List.map_append];exact hE.append (fW.cons rfl h2 h3 fW.nil)
    refine⟨?wx,G,?rn,Gh.Le.refl G,?wr⟩
    case wr=>rw[Go.Proofs.YtoclnkfdahmnhaaGreatDoor.je,La,jW];exact hw.r7 (ck':=ck+1) hb dW e2 hr
    case rn=>
     simp only[execOp,oc,xN,haz,Instr.mapUpdate,Sem.run_bind,run_underlying hU,Result.andThen_ok,MapKept.run_getObj_map e2,IH,g1,run_setObj_map _ e2];rfl
   ·have jW:M.any (·.1==l)=true:=List.any_eq_true.2 ⟨p,List.mem_of_getElem? g2,by simp[g3]⟩;have II:q.key=fc l:=by have:=(hE.keys.2 j p q g2 g4).1;rw[this,g3]
    have cP:=K.law.stays w xc;have hr:=fW.ahJ hM.one hE h3 g2 g3 (Y6 l);rw[<-Array.toList_modify]at hr
    have wK:((E[j]?).map (·.key)).getD (fc l)=fc l:=by
     have:E[j]?=some q:=by simpa using g4
     rw[this];exact II
    refine⟨?wy,G,?rm,Gh.Le.refl G,?ws⟩
    case ws=>rw[Go.Proofs.YtoclnkfdahmnhaaGreatDoor.je,La,jW];exact hw.r7 (ck':=ck) hb dW e2 hr
    case rm=>
     simp only[execOp,oc,xN,haz,Instr.mapUpdate,Sem.run_bind,run_underlying hU,Result.andThen_ok,MapKept.run_getObj_map e2,IH,g1,wK,cP,run_setObj_map _ e2];rfl
end
theorem rz {N:Nat} {M:eW} {l:List (List UInt8)} {y:MV} {ck:Nat} (h:nQ N M) (hl:l.length=N) (hs:∀s∈l,s.length<=maxLen):nQ N (je l y ck M):=by
 unfold je;split
 ·have hk:(M.map (fun p=>if p.1=l then(l,y,p.2.2)else p)).map (·.1)=M.map (·.1):=by
   rw[List.map_map];refine List.map_congr_left fun p _=>?_
   show(if p.1=l then(l,y,p.2.2)else p).1=p.1;split
   ·rename_i e;exact e.symm
   ·rfl
  refine⟨fun p hp=>?_,by rw[hk];exact h.one⟩;have:p.1∈M.map (·.1):=by rw[<-hk];exact List.mem_map_of_mem hp
  obtain⟨q,hq,e⟩:=List.mem_map.1 this;rw[<-e];exact h.len q hq
 ·rename_i fw;have fw:∀p∈M,¬p.1=l:=fun p hp e=>fw (List.any_eq_true.2 ⟨p,hp,by simp[e]⟩)
  refine⟨fun p hp=>?_,?_⟩
  ·rcases List.mem_append.1 hp with hp | hp
   ·exact h.len p hp
   ·rw[List.mem_singleton.1 hp];exact⟨hl,hs⟩
  ·rw[List.map_append,List.nodup_append];refine⟨h.one,by simp,fun x hx z hz e=>?_⟩;simp only[List.map_cons,List.map_nil,List.mem_singleton]at hz;obtain⟨q,hq,e2⟩:=List.mem_map.1 hx;exact fw q hq (by rw[e2,e,hz])
def RL (P:Program):List Field->Nat->Bool
 | [],_=>true
 | f::r,i=>(match P.underlying f.type with | some .string=>true | _=>false)&&f.offset==i&&P.cellsOf f.type==1&&RL P r (i+1)
def skB (P:Program) (kt:TypeId) (N:Nat):Bool:=match P.underlying kt with
 | some (.struct fs)=>P.keyType kt&&fs.all (·.name != "_")&&P.cellsOf kt==N&&fs.size==N&&RL P fs.toList 0&&decide (kt<P.types.size)&&decide (P.types.size+2<=10000)
 | _=>false
theorem mapM_some {α β :Type} {g: α ->Option β}:∀{L:List α},(∀f∈L,∃y,g f=some y)->∃ys,L.mapM g=some ys
 | [],_=>⟨[],rfl⟩
 | f::L,h=>by
   obtain⟨y,hy⟩:=h f (by simp);obtain⟨ys,OJ⟩:=mapM_some (L:=L) fun x hx=>h x (List.mem_cons_of_mem _ hx)
   exact⟨y::ys,by rw[List.mapM_cons,hy];simp[OJ]⟩
theorem Lb {P:Program}:∀{L:List Field} {i:Nat},RL P L i=true->∀(j:Nat) (f:Field),L[j]?=some f->P.underlying f.type=some .string/\f.offset=i+j/\P.cellsOf f.type=1
 | [],_,_,j,f,h=>by simp at h
 | g::L,i,hB,j,f,h=>by
   simp only[RL,Bool.and_eq_true,beq_iff_eq]at hB;obtain⟨⟨⟨h1,h2⟩,h3⟩,h4⟩:=hB;cases j with
   | zero=>
     simp only[List.getElem?_cons_zero,Option.some.injEq]at h;subst h;refine⟨?_,h2,h3⟩;split at h1
     ·assumption
     ·cases h1
   | succ j=>
     have:=Lb h4 j f (by simpa using h);exact⟨this.1,by omega,this.2.2⟩
theorem tc.sf {P:Program} {kt:TypeId} {N:Nat} (hl:laidOutB P=true) (h:skB P kt N=true):tc P kt N:=by
 unfold skB at h;split at h
 ·rename_i fs hu;simp only[Bool.and_eq_true,beq_iff_eq,decide_eq_true_eq]at h;obtain⟨⟨⟨⟨⟨⟨h1,h2⟩,h3⟩,h4⟩,h5⟩,h6⟩,h7⟩:=h;refine⟨deep_law_gate hl h7 h6 h1 (by rw[hu]),fun l hlen hs=>?_⟩
  have ags:(fc l).formed P kt=true:=by
   unfold fc Value.formed;simp only[hu];simp[hlen,h3]
  have agt:∃ls,P.keyLits (P.types.size+1) kt (fc l).cells.toList=some ls:=by
   obtain⟨D,hD⟩:∃D,P.types.size=D+1:=⟨P.types.size - 1,by have:0<P.types.size:=Nat.lt_of_le_of_lt (Nat.zero_le kt) h6;omega⟩
   rw[hD];unfold Program.keyLits;have hc:(fc l).cells.toList=l.map fun s=>Value.string ⟨⟨s⟩⟩:=by simp[fc,Value.cells]
   rw[hc];simp only[hu];rw[if_pos ⟨by simp[hlen,h3],h2⟩]
   obtain⟨ys,OJ⟩:=mapM_some (L:=fs.toList) (g:=fun f=>P.keyLits (D+1) f.type (((l.map fun s=>Value.string ⟨⟨s⟩⟩).drop f.offset).take (P.cellsOf f.type))) fun f hf=>by
    obtain⟨j,hj,rfl⟩:=List.mem_iff_getElem.1 hf;obtain⟨g1,g2,g3⟩:=Lb h5 j _ (List.getElem?_eq_getElem hj);rw[Nat.zero_add]at g2;have AD:j<l.length:=by rw[hlen, <-h4];simpa using hj
    have RM:((l.map fun s=>Value.string ⟨⟨s⟩⟩).drop j).take 1=[Value.string ⟨⟨l[j]⟩⟩]:=by
     rw[List.drop_eq_getElem_cons (by simpa using AD)];simp
    rw[g2,g3,RM];unfold Program.keyLits;simp only[g1];exact⟨_,if_pos (hs _ (List.getElem_mem AD))⟩
   exact⟨ys.flatten,by rw[OJ];rfl⟩
  obtain⟨ls,UL⟩:=agt;refine⟨.string (keyBytes ls),?_⟩;unfold keyOf;simp only[hu];rw[h1,ags,UL];rfl
 ·cases h
set_option linter.defProp false in
def zk:=And.intro wk<|And.intro wu<|And.intro @IE<|And.intro @B_<|And.intro @Option.map_none.{0,0}<|And.intro @RJ<|And.intro @adb<|And.intro @ade<|And.intro @IG<|And.intro @YS<|And.intro @Option.isSome_some.{0}<|And.intro @Option.isSome_none.{0}<|And.intro @si @aj
section
variable {A1 A2 A3 A4 A5 A6 A7 A8 A9 P Q:Prop}
theorem IJ (q:Q) (h:P=Q:=by conv=>lhs;simp(disch:=first | omega | (simp only[ds]<;>omega) | fail) only[zk,cw,Nat.reduceLT,Nat.reduceAdd,Nat.reduceMul,Nat.reduceSub,Nat.reduceBEq,Nat.reduceEqDiff,Int.reduceToNat,reduceIte]):P:=(h).mpr q
theorem ae (a1:A1) (q:Q) (h:A1->P=Q:=by intro a1;conv=>lhs;simp(disch:=first | omega | (simp only[ds]<;>omega) | fail) only[zk,cw,Nat.reduceLT,Nat.reduceAdd,Nat.reduceMul,Nat.reduceSub,Nat.reduceBEq,Nat.reduceEqDiff,Int.reduceToNat,reduceIte,a1]):P:=(h a1).mpr q
theorem fe (a1:A1) (h:A1->P:=by intro a1;simp(disch:=first | omega | (simp only[ds]<;>omega) | fail) only[zk,cw,Nat.reduceLT,Nat.reduceAdd,Nat.reduceMul,Nat.reduceSub,Nat.reduceBEq,Nat.reduceEqDiff,Int.reduceToNat,reduceIte,a1]):P:=h a1
theorem ao (a1:A1) (a2:A2) (q:Q) (h:A1->A2->P=Q:=by intro a1 a2;conv=>lhs;simp(disch:=first | omega | (simp only[ds]<;>omega) | fail) only[zk,cw,Nat.reduceLT,Nat.reduceAdd,Nat.reduceMul,Nat.reduceSub,Nat.reduceBEq,Nat.reduceEqDiff,Int.reduceToNat,reduceIte,a1,a2]):P:=(h a1 a2).mpr q
theorem dH (a1:A1) (a2:A2) (h:A1->A2->P:=by intro a1 a2;simp(disch:=first | omega | (simp only[ds]<;>omega) | fail) only[zk,cw,Nat.reduceLT,Nat.reduceAdd,Nat.reduceMul,Nat.reduceSub,Nat.reduceBEq,Nat.reduceEqDiff,Int.reduceToNat,reduceIte,a1,a2]):P:=h a1 a2
theorem aM (a1:A1) (a2:A2) (a3:A3) (q:Q) (h:A1->A2->A3->P=Q:=by intro a1 a2 a3;conv=>lhs;simp(disch:=first | omega | (simp only[ds]<;>omega) | fail) only[zk,cw,Nat.reduceLT,Nat.reduceAdd,Nat.reduceMul,Nat.reduceSub,Nat.reduceBEq,Nat.reduceEqDiff,Int.reduceToNat,reduceIte,a1,a2,a3]):P:=(h a1 a2 a3).mpr q
theorem kt3 (a1:A1) (a2:A2) (a3:A3) (h:A1->A2->A3->P:=by intro a1 a2 a3;simp(disch:=first | omega | (simp only[ds]<;>omega) | fail) only[zk,cw,Nat.reduceLT,Nat.reduceAdd,Nat.reduceMul,Nat.reduceSub,Nat.reduceBEq,Nat.reduceEqDiff,Int.reduceToNat,reduceIte,a1,a2,a3]):P:=h a1 a2 a3
theorem c8 (a1:A1) (a2:A2) (a3:A3) (a4:A4) (q:Q) (h:A1->A2->A3->A4->P=Q:=by intro a1 a2 a3 a4;conv=>lhs;simp(disch:=first | omega | (simp only[ds]<;>omega) | fail) only[zk,cw,Nat.reduceLT,Nat.reduceAdd,Nat.reduceMul,Nat.reduceSub,Nat.reduceBEq,Nat.reduceEqDiff,Int.reduceToNat,reduceIte,a1,a2,a3,a4]):P:=(h a1 a2 a3 a4).mpr q
theorem kt4 (a1:A1) (a2:A2) (a3:A3) (a4:A4) (h:A1->A2->A3->A4->P:=by intro a1 a2 a3 a4;simp(disch:=first | omega | (simp only[ds]<;>omega) | fail) only[zk,cw,Nat.reduceLT,Nat.reduceAdd,Nat.reduceMul,Nat.reduceSub,Nat.reduceBEq,Nat.reduceEqDiff,Int.reduceToNat,reduceIte,a1,a2,a3,a4]):P:=h a1 a2 a3 a4
theorem iL (a1:A1) (a2:A2) (a3:A3) (a4:A4) (a5:A5) (q:Q) (h:A1->A2->A3->A4->A5->P=Q:=by intro a1 a2 a3 a4 a5;conv=>lhs;simp(disch:=first | omega | (simp only[ds]<;>omega) | fail) only[zk,cw,Nat.reduceLT,Nat.reduceAdd,Nat.reduceMul,Nat.reduceSub,Nat.reduceBEq,Nat.reduceEqDiff,Int.reduceToNat,reduceIte,a1,a2,a3,a4,a5]):P:=(h a1 a2 a3 a4 a5).mpr q
theorem kt5 (a1:A1) (a2:A2) (a3:A3) (a4:A4) (a5:A5) (h:A1->A2->A3->A4->A5->P:=by intro a1 a2 a3 a4 a5;simp(disch:=first | omega | (simp only[ds]<;>omega) | fail) only[zk,cw,Nat.reduceLT,Nat.reduceAdd,Nat.reduceMul,Nat.reduceSub,Nat.reduceBEq,Nat.reduceEqDiff,Int.reduceToNat,reduceIte,a1,a2,a3,a4,a5]):P:=h a1 a2 a3 a4 a5
theorem Ca (a1:A1) (a2:A2) (a3:A3) (a4:A4) (a5:A5) (a6:A6) (q:Q) (h:A1->A2->A3->A4->A5->A6->P=Q:=by intro a1 a2 a3 a4 a5 a6;conv=>lhs;simp(disch:=first | omega | (simp only[ds]<;>omega) | fail) only[zk,cw,Nat.reduceLT,Nat.reduceAdd,Nat.reduceMul,Nat.reduceSub,Nat.reduceBEq,Nat.reduceEqDiff,Int.reduceToNat,reduceIte,a1,a2,a3,a4,a5,a6]):P:=(h a1 a2 a3 a4 a5 a6).mpr q
theorem kt6 (a1:A1) (a2:A2) (a3:A3) (a4:A4) (a5:A5) (a6:A6) (h:A1->A2->A3->A4->A5->A6->P:=by intro a1 a2 a3 a4 a5 a6;simp(disch:=first | omega | (simp only[ds]<;>omega) | fail) only[zk,cw,Nat.reduceLT,Nat.reduceAdd,Nat.reduceMul,Nat.reduceSub,Nat.reduceBEq,Nat.reduceEqDiff,Int.reduceToNat,reduceIte,a1,a2,a3,a4,a5,a6]):P:=h a1 a2 a3 a4 a5 a6
theorem Y7 (a1:A1) (a2:A2) (a3:A3) (a4:A4) (a5:A5) (a6:A6) (a7:A7) (q:Q) (h:A1->A2->A3->A4->A5->A6->A7->P=Q:=by intro a1 a2 a3 a4 a5 a6 a7;conv=>lhs;simp(disch:=first | omega | (simp only[ds]<;>omega) | fail) only[zk,cw,Nat.reduceLT,Nat.reduceAdd,Nat.reduceMul,Nat.reduceSub,Nat.reduceBEq,Nat.reduceEqDiff,Int.reduceToNat,reduceIte,a1,a2,a3,a4,a5,a6,a7]):P:=(h a1 a2 a3 a4 a5 a6 a7).mpr q
theorem UM (a1:A1) (a2:A2) (a3:A3) (a4:A4) (a5:A5) (a6:A6) (a7:A7) (a8:A8) (q:Q) (h:A1->A2->A3->A4->A5->A6->A7->A8->P=Q:=by intro a1 a2 a3 a4 a5 a6 a7 a8;conv=>lhs;simp(disch:=first | omega | (simp only[ds]<;>omega) | fail) only[zk,cw,Nat.reduceLT,Nat.reduceAdd,Nat.reduceMul,Nat.reduceSub,Nat.reduceBEq,Nat.reduceEqDiff,Int.reduceToNat,reduceIte,a1,a2,a3,a4,a5,a6,a7,a8]):P:=(h a1 a2 a3 a4 a5 a6 a7 a8).mpr q
theorem kw9 (a1:A1) (a2:A2) (a3:A3) (a4:A4) (a5:A5) (a6:A6) (a7:A7) (a8:A8) (a9:A9) (q:Q) (h:A1->A2->A3->A4->A5->A6->A7->A8->A9->P=Q:=by intro a1 a2 a3 a4 a5 a6 a7 a8 a9;conv=>lhs;simp(disch:=first | omega | (simp only[ds]<;>omega) | fail) only[zk,cw,Nat.reduceLT,Nat.reduceAdd,Nat.reduceMul,Nat.reduceSub,Nat.reduceBEq,Nat.reduceEqDiff,Int.reduceToNat,reduceIte,a1,a2,a3,a4,a5,a6,a7,a8,a9]):P:=(h a1 a2 a3 a4 a5 a6 a7 a8 a9).mpr q
end
theorem aa:aJ Tryz.prog (fL Tryz.prog):=Xv _
abbrev TY (t:Nat) (d:TypeDesc) (a b:Nat) (z:List MV):Prop:=fL Tryz.prog t=some ⟨d,a,b,z⟩
abbrev TS (t:Nat) (d:TypeDesc) (a b:Nat) (z:List MV) (p:List (Nat×Nat)):Prop:=TY t d a b z/\eh d=true/\∀x,vP (fL Tryz.prog) t x=(lp (kK p) z x).map .agg
abbrev FL (t i f:Nat) (g:Bool) (s:Nat):Prop:=(∀k o,jb (fL Tryz.prog) t i (.ptr k o)=some (.ptr k (o+f)))/\(∀c o,jb (fL Tryz.prog) t i (.cU c o)=some (.cU c (o+f)))/\∀c,vM (fL Tryz.prog) t (.agg c) i=mG g s c f
theorem dV {t a b:Nat} {d:TypeDesc} {z:List MV} (h:fL Tryz.prog t=some ⟨d,a,b,z⟩:=by kernel_rfl):TY t d a b z:=h
theorem iZ {t a b:Nat} {d:TypeDesc} {z:List MV} {p:List (Nat×Nat)} (h:fL Tryz.prog t=some ⟨d,a,b,z⟩:=by kernel_rfl) (h1:eh d=true:=by kernel_rfl) (h2:∀x,vP (fL Tryz.prog) t x=(lp (kK p) z x).map .agg:=by intro x;kernel_rfl):TS t d a b z p:=⟨h,h1,h2⟩
theorem bp {t i f s:Nat} {g:Bool} (h:∀k o,jb (fL Tryz.prog) t i (.ptr k o)=some (.ptr k (o+f)):=by intro k o;kernel_rfl) (h1:∀c o,jb (fL Tryz.prog) t i (.cU c o)=some (.cU c (o+f)):=by intro c o;kernel_rfl) (h2:∀c,vM (fL Tryz.prog) t (.agg c) i=mG g s c f:=by intro c;kernel_rfl):FL t i f g s:=⟨h,h1,h2⟩
theorem T2:TY 2 (.int .i64) 1 8 [.v (.int .i64 0)]:=dV
theorem T3:TY 3 (.int .i64) 1 8 [.v (.int .i64 0)]:=dV
theorem T4:TY 4 .bool 1 1 [.v (.bool false)]:=dV
theorem T5:TY 5 (.int .u8) 1 1 [.v (.int .u8 0)]:=dV
theorem T9:TY 9 .string 1 16 [.str []]:=dV
theorem Pu:TY 21 (.int .i32) 1 4 [.v (.int .i32 0)]:=dV
theorem FN:TY 22 (.slice 35) 1 24 [.sl 0 [] .nil]:=dV
theorem T26:TY 26 (.slice 4) 1 24 [.sl 0 [] .nil]:=dV
theorem T28:TY 28 (.slice 3) 1 24 [.sl 0 [] .nil]:=dV
theorem Y8:TS 30 Tryz.t29.desc 4 64 [.str [],.str [],.str [],.str []] [(0,1),(1,1),(2,1),(3,1)]/\FL 30 0 0 false 1/\FL 30 1 1 false 1/\FL 30 2 2 false 1/\FL 30 3 3 false 1:=⟨iZ,bp,bp,bp,bp⟩
theorem T31:TY 31 (.slice 221) 1 24 [.sl 0 [] .nil]:=dV
theorem T33:TS 33 Tryz.t32.desc 3 48 [.v (.bool false),.str [],.sl 0 [] .nil] [(0,1),(1,1),(2,1)]/\FL 33 0 0 false 1/\FL 33 1 1 false 1/\FL 33 2 2 false 1:=⟨iZ,bp,bp,bp⟩
theorem T35:TS 35 Tryz.t34.desc 13 168 [.v (.int .i64 0),.v (.int .i64 0),.v (.int .i64 0),.str [],.str [],.str [],.str [],.str [],.v (.bool false),.str [],.sl 0 [] .nil,.v (.int .i64 0),.v (.bool false)] [(0,1),(1,1),(2,1),(3,4),(7,1),(8,3),(11,1),(12,1)]/\FL 35 0 0 false 1/\FL 35 1 1 false 1/\FL 35 2 2 false 1/\FL 35 3 3 true 4/\FL 35 4 7 false 1/\FL 35 5 8 true 3/\FL 35 6 11 false 1/\FL 35 7 12 false 1:=⟨iZ,bp,bp,bp,bp,bp,bp,bp,bp⟩
theorem T36:TY 36 (.slice 39) 1 24 [.sl 0 [] .nil]:=dV
theorem T39:TS 39 Tryz.t38.desc 7 96 [.str [],.str [],.str [],.str [],.v (.int .i64 0),.str [],.v (.int .i64 0)] [(0,4),(4,1),(5,1),(6,1)]/\FL 39 0 0 true 4/\FL 39 1 4 false 1/\FL 39 2 5 false 1/\FL 39 3 6 false 1:=⟨iZ,bp,bp,bp,bp⟩
theorem zj:TY 51 (.slice 9) 1 24 [.sl 0 [] .nil]:=dV
theorem T58:TY 58 (.pointer 102) 1 8 [.v (.pointer none)]:=dV
theorem DK:TY 61 (.slice 140) 1 24 [.sl 0 [] .nil]:=dV
theorem AE:TS 63 Tryz.t62.desc 8 120 [.str [],.str [],.str [],.str [],.str [],.v (.int .i64 0),.v (.int .i64 0),.sl 0 [] .nil] [(0,1),(1,1),(2,1),(3,1),(4,1),(5,1),(6,1),(7,1)]/\FL 63 0 0 false 1/\FL 63 1 1 false 1/\FL 63 2 2 false 1/\FL 63 3 3 false 1/\FL 63 4 4 false 1/\FL 63 5 5 false 1/\FL 63 6 6 false 1/\FL 63 7 7 false 1:=⟨iZ,bp,bp,bp,bp,bp,bp,bp,bp⟩
theorem T65:TY 65 (.int .i64) 1 8 [.v (.int .i64 0)]:=dV
theorem AF:TS 67 Tryz.t66.desc 3 48 [.str [],.str [],.str []] [(0,1),(1,1),(2,1)]/\FL 67 0 0 false 1/\FL 67 1 1 false 1/\FL 67 2 2 false 1:=⟨iZ,bp,bp,bp⟩
theorem T69:TS 69 Tryz.t68.desc 3 24 [.v (.int .i64 0),.v (.int .i64 0),.v (.int .i64 0)] [(0,1),(1,1),(2,1)]/\FL 69 0 0 false 1/\FL 69 1 1 false 1/\FL 69 2 2 false 1:=⟨iZ,bp,bp,bp⟩
theorem T71:TS 71 Tryz.t70.desc 8 96 [.v (.int .i64 0),.str [],.str [],.str [],.v (.int .i64 0),.v (.int .i64 0),.v (.int .i64 0),.str []] [(0,1),(1,3),(4,3),(7,1)]/\FL 71 0 0 false 1/\FL 71 1 1 true 3/\FL 71 2 4 true 3/\FL 71 3 7 false 1:=⟨iZ,bp,bp,bp,bp⟩
theorem T75:TY 75 (.map 30 3) 1 8 [.v (.map none)]:=dV
theorem T77:TS 77 Tryz.t76.desc 4 80 [.sl 0 [] .nil,.sl 0 [] .nil,.sl 0 [] .nil,.v (.map none)] [(0,1),(1,1),(2,1),(3,1)]/\FL 77 0 0 false 1/\FL 77 1 1 false 1/\FL 77 2 2 false 1/\FL 77 3 3 false 1:=⟨iZ,bp,bp,bp,bp⟩
theorem T78:TY 78 (.pointer 77) 1 8 [.v (.pointer none)]:=dV
theorem T91:TY 91 Tryz.t91.desc 1 8 [.v .nilFunc]:=dV
theorem T94:TY 94 (.map 67 126) 1 8 [.v (.map none)]:=dV
theorem T95:TY 95 (.map 140 51) 1 8 [.v (.map none)]:=dV
theorem aem:TS 100 Tryz.t99.desc 1 8 [.v (.int .i64 0)] [(0,0),(0,0),(0,1)]/\FL 100 2 0 false 1:=⟨iZ,bp⟩
theorem RN:TS 102 Tryz.t101.desc 4 32 [.v (.map none),.v (.map none),.v (.int .i64 0),.v (.int .i64 0)] [(0,1),(1,1),(2,1),(3,1)]/\FL 102 0 0 false 1/\FL 102 1 1 false 1/\FL 102 2 2 true 1/\FL 102 3 3 true 1:=⟨iZ,bp,bp,bp,bp⟩
theorem uK:TY 103 (.slice 63) 1 24 [.sl 0 [] .nil]:=dV
theorem zm:TY 104 (.slice 160) 1 24 [.sl 0 [] .nil]:=dV
theorem Lc:TS 106 Tryz.t105.desc 11 192 [.v (.bool false),.str [],.str [],.str [],.str [],.str [],.str [],.str [],.sl 0 [] .nil,.sl 0 [] .nil,.sl 0 [] .nil] [(0,1),(1,3),(4,1),(5,1),(6,1),(7,1),(8,1),(9,1),(10,1)]/\FL 106 0 0 false 1/\FL 106 1 1 true 3/\FL 106 2 4 false 1/\FL 106 3 5 false 1/\FL 106 4 6 false 1/\FL 106 5 7 false 1/\FL 106 6 8 false 1/\FL 106 7 9 false 1/\FL 106 8 10 false 1:=⟨iZ,bp,bp,bp,bp,bp,bp,bp,bp,bp⟩
theorem aen:TY 109 (.slice 212) 1 24 [.sl 0 [] .nil]:=dV
theorem nR:TY 110 (.slice 112) 1 24 [.sl 0 [] .nil]:=dV
theorem td:TS 112 Tryz.t111.desc 4 80 [.str [],.sl 0 [] .nil,.sl 0 [] .nil,.str []] [(0,1),(1,1),(2,1),(3,1)]/\FL 112 0 0 false 1/\FL 112 1 1 false 1/\FL 112 2 2 false 1/\FL 112 3 3 false 1:=⟨iZ,bp,bp,bp,bp⟩
theorem ahK:TY 115 (.pointer 179) 1 8 [.v (.pointer none)]:=dV
theorem RP:TY 126 (.pointer 138) 1 8 [.v (.pointer none)]:=dV
theorem ahL:TY 128 (.int .u32) 1 4 [.v (.int .u32 0)]:=dV
theorem ahM:TS 130 Tryz.t129.desc 1 4 [.v (.int .u32 0)] [(0,0),(0,1)]/\FL 130 1 0 false 1:=⟨iZ,bp⟩
theorem Y9:TS 132 Tryz.t131.desc 2 8 [.v (.int .i32 0),.v (.int .u32 0)] [(0,1),(1,1)]/\FL 132 0 0 false 1/\FL 132 1 1 false 1:=⟨iZ,bp,bp⟩
theorem ahN:TS 134 Tryz.t133.desc 2 8 [.v (.int .i32 0),.v (.int .u32 0)] [(0,0),(0,2)]/\FL 134 1 0 true 2:=⟨iZ,bp⟩
theorem ahO:TS 136 Tryz.t135.desc 3 12 [.v (.int .u32 0),.v (.int .i32 0),.v (.int .u32 0)] [(0,0),(0,1),(1,2)]/\FL 136 1 0 true 1/\FL 136 2 1 true 2:=⟨iZ,bp,bp⟩
theorem aeo:TS 138 Tryz.t137.desc 23 320 [.str [],.v (.int .u32 0),.v (.int .i32 0),.v (.int .u32 0),.v (.bool false),.str [],.str [],.str [],.str [],.str [],.str [],.str [],.sl 0 [] .nil,.sl 0 [] .nil,.sl 0 [] .nil,.v (.int .i64 0),.str [],.str [],.str [],.v (.int .i64 0),.v (.int .i64 0),.v (.int .i64 0),.str []] [(0,1),(1,3),(4,11),(15,8)]/\FL 138 0 0 false 1/\FL 138 1 1 true 3/\FL 138 2 4 true 11/\FL 138 3 15 true 8:=⟨iZ,bp,bp,bp,bp⟩
theorem BJ:TS 140 Tryz.t139.desc 2 32 [.str [],.str []] [(0,1),(1,1)]/\FL 140 0 0 false 1/\FL 140 1 1 false 1:=⟨iZ,bp,bp⟩
theorem RQ:TY 142 (.pointer 145) 1 8 [.v (.pointer none)]:=dV
theorem th:TY 143 (.slice 5) 1 24 [.sl 0 [] .nil]:=dV
theorem Ld:TS 145 Tryz.t144.desc 2 32 [.v (.pointer none),.sl 0 [] .nil] [(0,1),(1,1)]/\FL 145 0 0 false 1/\FL 145 1 1 false 1:=⟨iZ,bp,bp⟩
theorem ahP:TY 146 Tryz.t146.desc 1 8 [.v .nilFunc]:=dV
theorem ahQ:TY 148 Tryz.t147.desc 1 16 [.v .nilIface]:=dV
theorem aep:TS 153 Tryz.t152.desc 7 88 [.v (.int .i64 0),.str [],.sl 0 [] .nil,.str [],.v (.int .i64 0),.v (.int .i64 0),.v (.int .i64 0)] [(0,1),(1,1),(2,1),(3,1),(4,3)]/\FL 153 0 0 false 1/\FL 153 1 1 false 1/\FL 153 2 2 false 1/\FL 153 3 3 false 1/\FL 153 4 4 true 3:=⟨iZ,bp,bp,bp,bp,bp⟩
theorem DL:TY 155 (.slice 153) 1 24 [.sl 0 [] .nil]:=dV
theorem BK:TS 160 Tryz.t159.desc 2 32 [.str [],.str []] [(0,1),(1,1)]/\FL 160 0 0 false 1/\FL 160 1 1 false 1:=⟨iZ,bp,bp⟩
theorem ahR:TY 162 (.pointer 166) 1 8 [.v (.pointer none)]:=dV
theorem aeq:TY 163 (.map 30 63) 1 8 [.v (.map none)]:=dV
theorem aer:TY 164 (.slice 61) 1 24 [.sl 0 [] .nil]:=dV
theorem ahS:TS 166 Tryz.t165.desc 8 120 [.v (.pointer none),.v (.pointer none),.str [],.str [],.str [],.v (.map none),.sl 0 [] .nil,.sl 0 [] .nil] [(0,1),(1,1),(2,3),(5,1),(6,1),(7,1)]/\FL 166 0 0 false 1/\FL 166 1 1 false 1/\FL 166 2 2 true 3/\FL 166 3 5 false 1/\FL 166 4 6 false 1/\FL 166 5 7 false 1:=⟨iZ,bp,bp,bp,bp,bp,bp⟩
theorem G8:TY 167 (.slice 175) 1 24 [.sl 0 [] .nil]:=dV
theorem DM:TS 169 Tryz.t168.desc 7 136 [.str [],.str [],.str [],.str [],.sl 0 [] .nil,.sl 0 [] .nil,.sl 0 [] .nil] [(0,3),(3,1),(4,1),(5,1),(6,1)]/\FL 169 0 0 true 3/\FL 169 1 3 false 1/\FL 169 2 4 false 1/\FL 169 3 5 false 1/\FL 169 4 6 false 1:=⟨iZ,bp,bp,bp,bp,bp⟩
theorem ahT:TY 173 Tryz.t173.desc 1 8 [.v .nilFunc]:=dV
theorem Lf:TS 175 Tryz.t174.desc 10 152 [.str [],.str [],.str [],.str [],.v (.bool false),.str [],.sl 0 [] .nil,.v (.int .i64 0),.v (.bool false),.sl 0 [] .nil] [(0,4),(4,3),(7,1),(8,1),(9,1)]/\FL 175 0 0 true 4/\FL 175 1 4 true 3/\FL 175 2 7 false 1/\FL 175 3 8 false 1/\FL 175 4 9 false 1:=⟨iZ,bp,bp,bp,bp,bp⟩
theorem aes:TY 177 (.map 67 169) 1 8 [.v (.map none)]:=dV
theorem aet:TS 179 Tryz.t178.desc 2 16 [.v (.pointer none),.v (.map none)] [(0,1),(1,1)]/\FL 179 0 0 false 1/\FL 179 1 1 false 1:=⟨iZ,bp,bp⟩
theorem ahU:TY 186 Tryz.t186.desc 1 8 [.v .nilFunc]:=dV
theorem ahV:TY 189 (.pointer 5) 1 8 [.v (.pointer none)]:=dV
theorem G9:TY 210 .unsafePointer 1 8 [.v (.pointer none)]:=dV
theorem aeu:TS 212 Tryz.t159.desc 2 32 [.str [],.str []] [(0,1),(1,1)]/\FL 212 0 0 false 1/\FL 212 1 1 false 1:=⟨iZ,bp,bp⟩
theorem aev:TS 221 Tryz.t220.desc 6 64 [.v (.bool false),.str [],.v (.bool false),.v (.bool false),.str [],.v (.bool false)] [(0,3),(3,3)]/\FL 221 0 0 true 3/\FL 221 1 3 true 3:=⟨iZ,bp,bp⟩
theorem xd:TY 222 (.slice 67) 1 24 [.sl 0 [] .nil]:=dV
theorem ahW:TY 226 (.pointer 232) 1 8 [.v (.pointer none)]:=dV
theorem aew:TY 227 (.pointer 262) 1 8 [.v (.pointer none)]:=dV
theorem ahX:TS 232 Tryz.t231.desc 17 280 [.v (.pointer none),.v (.pointer none),.str [],.str [],.str [],.v (.bool false),.str [],.str [],.str [],.str [],.str [],.str [],.str [],.sl 0 [] .nil,.sl 0 [] .nil,.sl 0 [] .nil,.sl 0 [] .nil] [(0,1),(1,1),(2,3),(5,11),(16,1)]/\FL 232 0 0 false 1/\FL 232 1 1 false 1/\FL 232 2 2 true 3/\FL 232 3 5 true 11/\FL 232 4 16 false 1:=⟨iZ,bp,bp,bp,bp,bp⟩
theorem aex:TY 256 (.slice 106) 1 24 [.sl 0 [] .nil]:=dV
theorem G_:TY 260 (.map 9 9) 1 8 [.v (.map none)]:=dV
theorem ahY:TS 262 Tryz.t261.desc 4 48 [.sl 0 [] .nil,.v (.map none),.v (.map none),.v (.int .i64 0)] [(0,1),(1,1),(2,1),(3,1)]/\FL 262 0 0 false 1/\FL 262 1 1 false 1/\FL 262 2 2 false 1/\FL 262 3 3 true 1:=⟨iZ,bp,bp,bp,bp⟩
theorem aey:TY 268 (.pointer 270) 1 8 [.v (.pointer none)]:=dV
theorem ahZ:TS 270 Tryz.t269.desc 2 32 [.v (.pointer none),.sl 0 [] .nil] [(0,1),(1,1)]/\FL 270 0 0 false 1/\FL 270 1 1 false 1:=⟨iZ,bp,bp⟩
theorem ah0:TY 272 (.pointer 275) 1 8 [.v (.pointer none)]:=dV
theorem ah1:TY 273 (.map 30 4) 1 8 [.v (.map none)]:=dV
theorem ah2:TS 275 Tryz.t274.desc 2 32 [.sl 0 [] .nil,.v (.map none)] [(0,1),(1,1)]/\FL 275 0 0 false 1/\FL 275 1 1 false 1:=⟨iZ,bp,bp⟩
theorem ah3:TY 285 (.pointer 287) 1 8 [.v (.pointer none)]:=dV
theorem ah4:TS 287 Tryz.t286.desc 1 16 [.str []] [(0,1)]/\FL 287 0 0 false 1:=⟨iZ,bp⟩
theorem ah5:TS 300 Tryz.t299.desc 2 24 [.v (.int .i64 0),.str []] [(0,1),(1,1)]/\FL 300 0 0 false 1/\FL 300 1 1 false 1:=⟨iZ,bp,bp⟩
theorem ah6:TY 326 Tryz.t326.desc 1 8 [.v .nilFunc]:=dV
theorem ah7:TY 330 (.pointer 100) 1 8 [.v (.pointer none)]:=dV
theorem ah8:TY 332 (.pointer 2) 1 8 [.v (.pointer none)]:=dV
theorem ah9:TY 343 (.pointer 136) 1 8 [.v (.pointer none)]:=dV
theorem aez:TY 349 Tryz.t349.desc 1 8 [.v .nilFunc]:=dV
theorem ah_:TY 358 (.pointer 130) 1 8 [.v (.pointer none)]:=dV
theorem aia:TY 360 (.pointer 128) 1 8 [.v (.pointer none)]:=dV
theorem aib:TY 364 (.pointer 367) 1 8 [.v (.pointer none)]:=dV
theorem Lg:TY 365 (.slice 393) 1 24 [.sl 0 [] .nil]:=dV
theorem aic:TS 367 Tryz.t366.desc 8 120 [.str [],.sl 0 [] .nil,.sl 0 [] .nil,.str [],.sl 0 [] .nil,.v (.int .i64 0),.v (.bool false),.v (.bool false)] [(0,4),(4,1),(5,1),(6,1),(7,1)]/\FL 367 0 0 true 4/\FL 367 1 4 false 1/\FL 367 2 5 false 1/\FL 367 3 6 false 1/\FL 367 4 7 false 1:=⟨iZ,bp,bp,bp,bp,bp⟩
theorem aeA:TS 371 Tryz.t370.desc 2 24 [.v (.int .i64 0),.str []] [(0,1),(1,1)]/\FL 371 0 0 false 1/\FL 371 1 1 false 1:=⟨iZ,bp,bp⟩
theorem Y_:TS 373 Tryz.t372.desc 5 96 [.str [],.sl 0 [] .nil,.sl 0 [] .nil,.str [],.str []] [(0,4),(4,1)]/\FL 373 0 0 true 4/\FL 373 1 4 false 1:=⟨iZ,bp,bp⟩
theorem aid:TY 381 (.pointer 134) 1 8 [.v (.pointer none)]:=dV
theorem aeB:TS 385 Tryz.t384.desc 2 16 [.v (.int .i64 0),.v (.int .i64 0)] [(0,1),(1,1)]/\FL 385 0 0 false 1/\FL 385 1 1 false 1:=⟨iZ,bp,bp⟩
theorem aie:TY 386 (.pointer 390) 1 8 [.v (.pointer none)]:=dV
theorem aif:TS 388 Tryz.t387.desc 2 24 [.str [],.v (.int .i64 0)] [(0,1),(1,1)]/\FL 388 0 0 false 1/\FL 388 1 1 false 1:=⟨iZ,bp,bp⟩
theorem aih:TS 390 Tryz.t389.desc 3 48 [.str [],.v (.int .i64 0),.sl 0 [] .nil] [(0,2),(2,1)]/\FL 390 0 0 true 2/\FL 390 1 2 false 1:=⟨iZ,bp,bp⟩
theorem Lh:TY 393 (.pointer 112) 1 8 [.v (.pointer none)]:=dV
theorem Za:TY 398 (.slice 373) 1 24 [.sl 0 [] .nil]:=dV
theorem Zb:TY 401 (.pointer 132) 1 8 [.v (.pointer none)]:=dV
theorem aii:TY 403 (.pointer 21) 1 8 [.v (.pointer none)]:=dV
theorem aij:TY 407 (.pointer 388) 1 8 [.v (.pointer none)]:=dV
theorem Ha:TY 421 (.slice 21) 1 24 [.sl 0 [] .nil]:=dV
set_option maxRecDepth 10000
theorem cN {α :Type} (l:List α) (j:Nat) (h:j<l.length):l.take (j+1)=l.take j++[l[j]]:=by
 rw[List.take_add_one,List.getElem?_eq_getElem h];rfl
section
variable {α :Type} {f: α -> α} {l:List α} {j:Nat}
end
def ph (b:UInt8):Bool:=decide (48<=b.toNat)&&decide (b.toNat<=57)
def lo (b:UInt8):UInt8:=if 65<=b.toNat/\b.toNat<=90 then UInt8.ofNat (b.toNat+32)else b
theorem pj (b:UInt8) (O:VH):VF Tryz.prog 111 [fp b] O (aI fun m O'=>m=mb (ph b)/\O'=O):=by
 have sm:b.toNat<256:=b.toNat_lt;refine VF.ab4 aa Tryz.func111 (c:=_) rfl (Nat.le_of_ble_eq_true rfl) ?_;rw[show Tryz.f111.ntmps=9 from rfl];simp only[cc,Nat.zero_add,Nat.reduceAdd];by_cases h1:48<=b.toNat
 ·by_cases h2:b.toNat<=57
  ·repeat' first
    | with_reducible (first | refine VC.seq' ?_ | refine VC.aD ?_ | refine VC.skip ?_ | refine VC.label ?_ | refine VC.scope ?_ | refine VC.exit ?_ | refine VC.ret ?_ | refine VL.nil ?_)
    | (with_reducible refine gVC ?_;first | refine gp @aG ?_ | refine gr @aG ?_ | (refine gc @aG ?_ ?_<;>(intro DN;try simp only[dcs,ne_eq,reduceCtorEq]at DN)))
    | simp only[XH,Nat.reduceEqDiff,reduceIte]
    | refine eR1 ?_ | refine eR2 ?_ | refine mI.Xy rfl ?_ | refine mI.Xz rfl ?_
   exact⟨by simp[ph,h1,h2,aY],by trivial⟩
  ·repeat' first
    | with_reducible (first | refine VC.seq' ?_ | refine VC.aD ?_ | refine VC.skip ?_ | refine VC.label ?_ | refine VC.scope ?_ | refine VC.exit ?_ | refine VC.ret ?_ | refine VL.nil ?_)
    | (with_reducible refine gVC ?_;first | refine gp @aG ?_ | refine gr @aG ?_ | (refine gc @aG ?_ ?_<;>(intro DN;try simp only[dcs,ne_eq,reduceCtorEq]at DN)))
    | simp only[XH,Nat.reduceEqDiff,reduceIte]
    | refine eR1 ?_ | refine eR2 ?_ | refine mI.Xy rfl ?_ | refine mI.Xz rfl ?_
   exact⟨by simp[ph,h2,aY],by trivial⟩
 ·repeat' first
   | with_reducible (first | refine VC.seq' ?_ | refine VC.aD ?_ | refine VC.skip ?_ | refine VC.label ?_ | refine VC.scope ?_ | refine VC.exit ?_ | refine VC.ret ?_ | refine VL.nil ?_)
   | (with_reducible refine gVC ?_;first | refine gp @aG ?_ | refine gr @aG ?_ | (refine gc @aG ?_ ?_<;>(intro DN;try simp only[dcs,ne_eq,reduceCtorEq]at DN)))
   | simp only[XH,Nat.reduceEqDiff,reduceIte]
   | refine eR1 ?_ | refine eR2 ?_ | refine mI.Xy rfl ?_ | refine mI.Xz rfl ?_
  exact⟨by simp[ph,h1,aY],by trivial⟩
section
variable {tab:bS} {t:TypeId} {a b:List UInt8}
end
def agu (s:List UInt8) (nb:Bool):List UInt8:=
 if s==[103,97]||(s==[102,105,110,97,108]||s==[114,101,108,101,97,115,101])then[]
 else if s==[99,114]then[114,99]
 else if nb&&s==[97]then[97,108,112,104,97]
 else if nb&&s==[98]then[98,101,116,97]
 else if nb&&s==[109]then[109,105,108,101,115,116,111,110,101]
 else s
section
variable {tab:bS} {t:TypeId} {l:List UInt8} {s c:Nat} {z:List MV}
end
def Li (b:UInt8):Bool:=b==46||b==45
abbrev Piece:=List UInt8×Bool×Bool
abbrev Zc:=Bool×Bool×List UInt8
set_option linter.defProp false in
def zp:=And.intro T9<|And.intro T3<|And.intro T4<|And.intro T5<|And.intro th<|And.intro RQ<|And.intro Ld<|And.intro ahQ G9
structure fE (O:VH) (B b:Nat) (q:Option Nat) (s:List UInt8):Prop where
 cell:∃p buf,O.hp b=some (.cells [p,buf])/\(p= .v (.pointer none)\/p= .ptr b 0)/\GR O 5 1 B buf s.length (s.map fp)/\gid buf=q/\buf≠ .sl 0 [] .full
 ne:q≠some b
 nL:∃j,B<=j/\j<O.next/\O.hp j=some (.shape b 145 2)
 lo:B<=b
 hi:b<O.next
 nz:s=[]->q=none
structure eP (O:VH) (b:Nat) (q:Option Nat) (O':VH) (q':Option Nat):Prop where
 next:O.next<=O'.next
 hp:∀i,i<O.next->i≠b->q≠some i->O'.hp i=O.hp i
 new:∀i,i<O.next->q≠some i->q'≠some i
theorem fE.RR {O:VH} {B b:Nat} {q:Option Nat} {s:List UInt8} (h:fE O B b q s):∀i,O.next<=i->q≠some i:=by
 intro i hi e;obtain⟨p,buf,_,_,hg,hq,_⟩:=h.cell;rcases hg with⟨_,_,rfl | rfl⟩ | ⟨k,c,rfl,_,_,hr⟩
 ·rw[<-hq]at e;cases e
 ·rw[<-hq]at e;cases e
 ·rw[<-hq]at e;injection e with e;have:=hr.hi;omega
theorem fE.xe {O:VH} {B b:Nat} {q:Option Nat} {s:List UInt8} (h:fE O B b q s):∀i,q=some i->B<=i:=by
 intro i e;obtain⟨p,buf,_,_,hg,hq,_⟩:=h.cell;rcases hg with⟨_,_,rfl | rfl⟩ | ⟨k,c,rfl,_,_,hr⟩
 ·rw[<-hq]at e;cases e
 ·rw[<-hq]at e;cases e
 ·rw[<-hq]at e;injection e with e;rw[<-e];exact hr.lo
theorem eP.ge {O0 O O':VH} {b:Nat} {q q':Option Nat} (h:O0.Ge O) (u:eP O b q O' q') (hb:O0.next<=b) (hq:∀i,q=some i->O0.next<=i):O0.Ge O':=
 ⟨Nat.le_trans h.next u.next,fun i hi=>(u.hp i (Nat.lt_of_lt_of_le hi h.next) (by omega) (fun e=>by have:=hq i e;omega)).trans (h.hp i hi)⟩
theorem fE.pc {O O':VH} {B b:Nat} {q:Option Nat} {s:List UInt8} (h:fE O B b q s) (hn:O.next<=O'.next) (hb:O'.hp b=O.hp b) (hq:∀i,q=some i->O'.hp i=O.hp i) (hs:∀j k t n,O.hp j=some (.shape k t n)->j<O.next->O'.hp j=O.hp j):fE O' B b q s:=by
 obtain⟨p,buf,h1,h2,h3,h4,h5⟩:=h.cell;obtain⟨j,j1,j2,j3⟩:=h.nL;refine⟨⟨p,buf,hb.trans h1,h2,?_,h4,h5⟩,h.ne,⟨j,j1,by omega,(hs j _ _ _ j3 j2).trans j3⟩,h.lo,by have:=h.hi;omega,h.nz⟩;rcases h3 with h3 | ⟨k,c,rfl,g1,g2,g3⟩
 ·exact .inl h3
 ·refine .inr ⟨k,c,rfl,g1,g2,?_⟩;obtain⟨sp,r1,r2⟩:=g3.cells;obtain⟨i,i1,i2,i3⟩:=g3.nL;exact⟨⟨sp,(hq k h4.symm).trans r1,r2⟩,⟨i,i1,by omega,(hs i _ _ _ i3 i2).trans i3⟩,g3.lo,by have:=g3.hi;omega⟩
theorem fE.xM {O O':VH} {B b:Nat} {q:Option Nat} {s:List UInt8} (h:fE O B b q s) (u:bj O none O'):fE O' B b q s:=
 h.pc u.next (u.hp b h.hi (by simp)) (fun i hi=>u.hp i (by
  rcases Nat.lt_or_ge i O.next with h' | h'
  ·exact h'
  ·exact absurd hi (h.RR i h')) (by simp)) fun j _ _ _ _ hl=>u.hp j hl (by simp)
theorem fE.set {O:VH} {B b i:Nat} {q:Option Nat} {s:List UInt8} {cs:List MV} {x:bV} (h:fE O B b q s) (hi:O.hp i=some (.cells cs)) (hb:i≠b) (hq:q≠some i):fE (O.set i x) B b q s:=
 h.pc (Nat.le_refl _) (VH.ak _ _ (Ne.symm hb)) (fun k hk=>VH.ak _ _ (fun e=>hq (by rw[hk,e]))) fun j _ _ _ hj _=>VH.ak _ _ (fun e=>by rw[e,hi]at hj;cases hj)
theorem fE.fresh (O:VH) {B:Nat} (hB:B<=O.next):fE ((O.push (.cells [.v (.pointer none),.sl 0 [] .nil])).push (.shape O.next 145 2)) B O.next none []:=
 ⟨⟨_,_,(VH.bn _ _ (by show O.next<O.next+1;omega)).trans (VH.aW _ _),.inl rfl,.inl ⟨rfl,rfl,.inl rfl⟩,rfl,by simp⟩,by simp,⟨O.next+1,by omega,by show O.next+1<O.next+1+1;omega,VH.aW _ _⟩,hB,by show O.next<O.next+1+1;omega,fun _=>rfl⟩
theorem Lj (k o:Nat) (O:VH):eb Tryz.prog 113 [.ptr k o] O fun m O'=>m= .ptr k o/\O'=O:=by
 refine eb.of (ex:=Extern.AbiNoEscape.same) Tryz.func113 (by kernel_rfl) (by kernel_rfl) (by kernel_rfl) (by kernel_rfl) fun G w vs hw hv=>?_
 obtain⟨u,us,rfl,h1,h2⟩:=hv.dZ;rw[h2.gL];exact⟨u,Lib.run_noEscape w u,h1⟩
theorem zw {O:VH} {B b:Nat} {q:Option Nat} {s:List UInt8} (h:fE O B b q s):VF Tryz.prog 85 [.ptr b 0] O (aI fun m O'=>fE O' B b q s/\eP O b q O' q):=by
 obtain⟨p,buf,h1,h2,h3,h4,h5⟩:=h.cell;obtain⟨j,j1,j2,j3⟩:=h.nL;have hb:=h.hi;refine VF.dh 20 [] Tryz.func85 ?_;rcases h2 with rfl | rfl
 ·refine ao @zp @h1 ?_;refine VL.toU aa (.inl rfl) (el:=145) (by rw[RQ];rfl) (by rw[G9];rfl) Ld.1.1 (by decide) j3 (by decide) rfl rfl rfl ?_;refine IJ ?_;refine ah.ext (Lj b 0 O) rfl ?_;rintro _ O2 ⟨rfl,rfl⟩;refine IJ ?_;refine VL.af5 aa (.inl rfl) (el:=145) (by rw[G9];rfl) (by rw[RQ];rfl) Ld.1.1 j3 (by kernel_rfl) rfl rfl rfl ?_;refine ao @zp @h1 ?_;refine⟨⟨⟨_,buf,VH.an _ _ _,.inr rfl,h3.pc bj.set (by rw[h4];exact h.ne) (fun k t n=>by rw[h1];simp),h4,h5⟩,h.ne,⟨j,j1,j2,?_⟩,h.lo,h.hi,h.nz⟩,⟨Nat.le_refl _,fun i _ hi _=>VH.ak _ _ hi,fun _ _ h=>h⟩⟩;rw[VH.ak _ _ (fun e=>by rw[e,h1]at j3;cases j3)];exact j3
 ·simp(disch:=first | omega | (simp only[ds]<;>omega) | fail) only[wk,wu,si,aj,cw,Nat.reduceLT,Nat.reduceAdd,Nat.reduceMul,Nat.reduceSub,Nat.reduceBEq,Nat.reduceEqDiff,Int.reduceToNat,reduceIte,zp,h1,KJ (op:=.neq) RQ (s:=1) Ld.1.1];exact⟨h,⟨Nat.le_refl _,fun _ _ _ _=>rfl,fun _ _ h=>h⟩⟩
theorem fE.grown {O O':VH} {B b:Nat} {q:Option Nat} {s:List UInt8} {p buf m:MV} {n' z:Nat} {L:List UInt8} (h:fE O B b q s) (h1:O.hp b=some (.cells [p,buf])) (h2:p= .v (.pointer none)\/p= .ptr b 0) (h4:gid buf=q) (hg:GR O' 5 1 B m n' (L.map fp)) (hn:n'=L.length) (hu:bj O (gid buf) O') (qs:(∃k c,m= .bk k 0 n' c/\(gid buf=some k\/(O.next<=k/\z≠0)))\/m=buf) (hf:buf≠ .sl 0 [] .full) (hz:L=[]->z=0/\s=[]):
  fE (O'.set b (.cells [p,m])) B b (gid m) L/\eP O b q (O'.set b (.cells [p,m])) (gid m):=by
 subst hn;obtain⟨j,j1,j2,j3⟩:=h.nL;have hb:=h.hi
 have hm:m≠ .sl 0 [] .full:=by
  rcases qs with⟨k,c,rfl,_⟩ | rfl
  ·simp
  ·exact hf
 have so:∀i,i<O.next->q≠some i->gid m≠some i:=fun i hi hq=>by
  rcases qs with⟨k,c,rfl,hk⟩ | rfl
  ·rcases hk with hk | hk
   ·rw[<-h4,hk]at hq;exact hq
   ·intro e;injection e with e;have:=hk.1;omega
  ·rw[h4];exact hq
 have hne:gid m≠some b:=so b hb h.ne;have hOb:O'.hp b=some (.cells [p,buf]):=(hu.hp b hb (by rw[h4];exact h.ne)).trans h1
 have hqs:∀i k t n,O.hp i=some (.shape k t n)->i<O.next->O'.hp i=O.hp i:=fun i k t n hi hl=>hu.hp i hl fun e=>by
  obtain⟨p',akc,g1,g2,g3,g4,g5⟩:=h.cell;rw[h1]at g1;injection g1 with g1;injection g1 with g1;injection g1 with e1 e2;injection e2 with e2;subst e2
  rcases g3 with⟨_,_,rfl | rfl⟩ | ⟨k2,c2,rfl,_,_,hr⟩
  ·cases e
  ·cases e
  ·injection e with e;subst e;obtain⟨sp,r1,_⟩:=hr.cells;rw[r1]at hi;cases hi
 refine⟨⟨⟨p,m,VH.an _ _ _,h2,hg.pc bj.set hne (fun k t n=>by rw[hOb];simp),rfl,hm⟩,hne,⟨j,j1,Nat.lt_of_lt_of_le j2 hu.next,?_⟩,h.lo,Nat.lt_of_lt_of_le hb hu.next,fun hL=>?_⟩,⟨hu.next,fun i hi Pv hq=>(VH.ak _ _ Pv).trans (hu.hp i hi (by rw[h4];exact hq)),so⟩⟩
 ·rw[VH.ak _ _ (fun e=>by rw[e,h1]at j3;cases j3)];exact(hqs j _ _ _ j3 j2).trans j3
 ·obtain⟨z0,s0⟩:=hz hL;have hq:=h.nz s0;rw[hq]at h4;rcases qs with⟨k,c,rfl,hk⟩ | rfl
  ·rcases hk with hk | hk
   ·rw[h4]at hk;cases hk
   ·exact absurd z0 hk.2
  ·exact h4
theorem sq {O:VH} {B b:Nat} {q:Option Nat} {s:List UInt8} (c:UInt8) (h:fE O B b q s) (hl:s.length+1<=140737488355328):VF Tryz.prog 86 [.ptr b 0,fp c] O (aI fun m O'=>m= .v .nilIface/\∃q',fE O' B b q' (s++[c])/\eP O b q O' q'):=by
 refine VF.dh 17 [.tmp 4] Tryz.func86 ?_;refine ae @zp ?_;refine ah.rt (zw h) ?_;rintro _ O1 ⟨h',u'⟩;obtain⟨p,buf,h1,h2,h3,h4,h5⟩:=h'.cell;have hb:=h'.hi;refine aM @zp @h1 @aG ?_;refine VL.grow aa (.inl rfl) (te:=⟨.int .u8,1,1,[.v (.int .u8 0)]⟩) (dx:=.slice 5) (q:=.sl 1 [fp c] .full) (j:=1) (ds:=[fp c]) h3 rfl rfl (by rw[th];rfl) T5 (by rw[th];rfl) trivial (by dsimp only;omega) (by simp only[maxLen];omega) (by have:=h'.lo;omega) rfl rfl rfl rfl ?_;intro m O2 hg hu _ qs;have hg':GR O2 5 1 B m (s.length+1) ((s++[c]).map fp):=by rw[List.map_append];exact hg
 have hr:=h'.grown h1 h2 h4 hg' (by simp) hu (qs.imp_right (·.2.1)) h5 (by simp);have hO:O2.hp b=some (.cells [p,buf]):=(hu.hp b hb (by rw[h4];exact h'.ne)).trans h1
 have gJ:dy m=[m]/\dz m=true:=by
  rcases qs with⟨k,cp,rfl,_⟩ | ⟨hj,_⟩
  ·exact⟨rfl,rfl⟩
  ·cases hj
 have cP:=pd (O:=O2) (k:=b) (off:=1) (u:=.slice 5) (b:=24) (z:=[.sl 0 [] .nil]) (cs:=[p,buf]) gJ.1 gJ.2 (by simp);refine aM @zp @hO @cP ?_;exact⟨_,hr.1,⟨Nat.le_trans u'.next hr.2.next,fun i hi Pv hq=>(hr.2.hp i (Nat.lt_of_lt_of_le hi u'.next) Pv hq).trans (u'.hp i hi Pv hq),fun i hi hq=>hr.2.new i (Nat.lt_of_lt_of_le hi u'.next) hq⟩⟩
theorem bC {O:VH} {B b:Nat} {q:Option Nat} {s:List UInt8} (l:List UInt8) (h:fE O B b q s) (hl:s.length+l.length<=140737488355328):VF Tryz.prog 65 [.ptr b 0,.str l] O (aI fun m O'=>m= .tuple [mi l.length,.v .nilIface]/\∃q',fE O' B b q' (s++l)/\eP O b q O' q'):=by
 refine VF.dh 19 [.tmp 4,.tmp 5] Tryz.func65 ?_;refine ae @zp ?_;refine ah.rt (zw h) ?_;rintro _ O1 ⟨h',u'⟩;obtain⟨p,buf,h1,h2,h3,h4,h5⟩:=h'.cell;have hb:=h'.hi;refine ao @zp @h1 ?_;refine VL.grow aa (.inl rfl) (te:=⟨.int .u8,1,1,[.v (.int .u8 0)]⟩) (dx:=.string) (q:=.str l) (j:=l.length) (ds:=l.map fp) h3 rfl (by rw[List.all_map];exact List.all_eq_true.2 fun _ _=>rfl) (by rw[th];rfl) T5 (by rw[T9];rfl) trivial (by dsimp only;omega) (by simp only[maxLen];omega) (by have:=h'.lo;omega) rfl rfl rfl rfl ?_;intro m O2 hg hu _ qs;have hg':GR O2 5 1 B m (s.length+l.length) ((s++l).map fp):=by rw[List.map_append];exact hg
 have hr:=h'.grown h1 h2 h4 hg' (by simp) hu (qs.imp_right (·.2.1)) h5 (by simp[and_comm]);have hO:O2.hp b=some (.cells [p,buf]):=(hu.hp b hb (by rw[h4];exact h'.ne)).trans h1
 have gJ:dy m=[m]/\dz m=true:=by
  rcases qs with⟨k,cp,rfl,_⟩ | ⟨_,rfl,_⟩
  ·exact⟨rfl,rfl⟩
  ·rcases h3 with⟨_,_,rfl | rfl⟩ | ⟨k,c,rfl,_⟩<;>exact⟨rfl,rfl⟩
 have cP:=pd (O:=O2) (k:=b) (off:=1) (u:=.slice 5) (b:=24) (z:=[.sl 0 [] .nil]) (cs:=[p,buf]) gJ.1 gJ.2 (by simp);refine aM @zp @hO @cP ?_;exact⟨_,hr.1,⟨Nat.le_trans u'.next hr.2.next,fun i hi Pv hq=>(hr.2.hp i (Nat.lt_of_lt_of_le hi u'.next) Pv hq).trans (u'.hp i hi Pv hq),fun i hi hq=>hr.2.new i (Nat.lt_of_lt_of_le hi u'.next) hq⟩⟩
theorem po {O:VH} {B b:Nat} {q:Option Nat} {s:List UInt8} (h:fE O B b q s) (hm:s.length<=maxLen):VF Tryz.prog 68 [.ptr b 0] O (aI fun m O'=>m= .str s/\bj O q O'):=by
 obtain⟨p,buf,h1,h2,h3,h4,h5⟩:=h.cell;have hb:=h.hi;refine VF.dh 14 [.tmp 2] Tryz.func68 ?_;refine IJ ?_;refine WC.bI (.held [10,11]) [(0,.rd),(1,.rd),(2,.rd),(3,.rd),(4,.rd),(5,.rd),(6,.rd),(7,.rd),(8,.rd),(9,.rd),(10,.one),(11,.rd)] ?_;have hO:O.hp b=some (.cells [p,buf]):=h1;rcases h3 with⟨e1,e2,rfl | rfl⟩ | ⟨k,c,rfl,g1,g2,g3⟩
 ·have hs:s=[]:=List.eq_nil_of_length_eq_zero e1;subst hs;simp(disch:=first | omega | (simp only[ds]<;>omega) | fail) only[wk,wu,si,aj,cw,Nat.reduceLT,Nat.reduceAdd,Nat.reduceMul,Nat.reduceSub,Nat.reduceBEq,Nat.reduceEqDiff,Int.reduceToNat,reduceIte,zp,h1,vS];refine VL.af4 aa (by kernel_rfl) rfl rfl rfl rfl ?_;refine ae @zp ?_;exact bj.refl _ _
 ·exact absurd rfl h5
 ·have hs:s≠[]:=fun e=>by have:=h.nz e;rw[<-h4]at this;cases this
  have hc:c≠0:=fun e=>hs (List.eq_nil_of_length_eq_zero (by omega))
  have n9:s.length<=maxLen:=hm;simp(disch:=first | omega | (simp only[ds]<;>omega) | fail) only[wk,wu,si,aj,cw,Nat.reduceLT,Nat.reduceAdd,Nat.reduceMul,Nat.reduceSub,Nat.reduceBEq,Nat.reduceEqDiff,Int.reduceToNat,reduceIte,zp,h1,vS,hc];refine VL.ahA aa (by kernel_rfl) (el:=5) (by rw[ahV];rfl) (by kernel_rfl) g3 hs n9 rfl rfl rfl rfl ?_;refine ae @zp ?_;exact h4▸bj.kill
set_option linter.defProp false in
def rA:=And.intro T9<|And.intro T3<|And.intro T4<|And.intro T5 th
theorem DO (s:List UInt8) (c:UInt8):(0<=Lib.indexByte s c) ↔ c∈s:=by
 induction s with
 | nil=>simp[Lib.indexByte]
 | cons b l ih=>
   have gQ:=Lib.indexByte_ge l c;unfold Lib.indexByte;by_cases hb:b=c
   ·subst hb;simp
   ·have:(b==c)=false:=by simpa using hb
    rw[this];simp only[Bool.false_eq_true,if_false,List.mem_cons];by_cases h1:Lib.indexByte l c= -1
    ·rw[h1]at ih ⊢;simp only[beq_self_eq_true,if_true];constructor
     ·intro h;omega
     ·rintro(h | h)
      ·exact absurd h.symm hb
      ·have:=ih.2 h;omega
    ·have:(Lib.indexByte l c== -1)=false:=by simpa using h1
     rw[this];simp only[Bool.false_eq_true,if_false];constructor
     ·intro _;exact .inr (ih.1 (by omega))
     ·rintro(h | h)
      ·exact absurd h.symm hb
      ·have:=ih.2 h;omega
theorem xP (s:List UInt8) (c:UInt8) (O:VH):eb Tryz.prog 169 [.str s,fp c] O fun m O'=>m=mi (Lib.indexByte s c)/\O'=O:=by
 refine eb.of (ex:=Extern.BytealgIndexByte.indexByte) Tryz.func169 (by kernel_rfl) (by kernel_rfl) (by kernel_rfl) (by kernel_rfl) fun G w vs hw hv=>?_
 obtain⟨u,us,rfl,h1,h2⟩:=hv.dZ;obtain⟨u2,us2,rfl,h3,h4⟩:=h2.dZ;rw[h4.gL];cases h1;have:=h3.ie;subst this;refine⟨_,Lib.run_indexByteString _ _ w,?_⟩;have e:((c.toNat:Int).toNat).toUInt8=c:=by simp
 rw[e];exact .v rfl
theorem IK (s:List UInt8) (c:UInt8) (O:VH):VF Tryz.prog 139 [.str s,fp c] O (aI fun m O'=>m=mi (Lib.indexByte s c)/\O'=O):=by
 refine VF.dh 8 [.tmp 4] Tryz.func139 ?_;refine IJ ?_;refine ah.ext (xP s c O) rfl ?_;rintro _ O2 ⟨rfl,rfl⟩;exact IJ trivial
theorem UN (s:List UInt8) (c:UInt8) (O:VH):VF Tryz.prog 108 [.str s,.str [c]] O (aI fun m O'=>∃n:Int,m=mi n/\(0<=n ↔ c∈s)/\O'=O):=by
 refine VF.dh 143 [.tmp 4] Tryz.func108 ?_;cases h:([c]:List UInt8)==s
 ·refine c8 @rA @h @List.length_cons.{0} @List.length_nil.{0} ?_;refine ah.rt (IK s c O) ?_;rintro _ O2 ⟨rfl,rfl⟩;refine ae @rA ?_;exact⟨_,rfl,DO s c⟩
 ·refine c8 @rA @h @List.length_cons.{0} @List.length_nil.{0} ?_;have:s=[c]:=by have:=beq_iff_eq.1 h;exact this.symm
  exact⟨0,rfl,by rw[this];simp⟩
theorem IL (s:List UInt8) (c:UInt8) (O:VH):VF Tryz.prog 81 [.str s,.str [c]] O (aI fun m O'=>∃n:Int,m=mi n/\(0<=n ↔ c∈s)/\O'=O):=by
 refine VF.dh 8 [.tmp 4] Tryz.func81 ?_;refine IJ ?_;refine ah.rt (UN s c O) ?_;rintro _ O2 ⟨n,rfl,h,rfl⟩;refine IJ ?_;exact⟨n,rfl,h⟩
theorem zx (s:List UInt8) (c:UInt8) (O:VH):VF Tryz.prog 112 [.str s,.str [c]] O (aI fun m O'=>m=mb (s.contains c)/\O'=O):=by
 refine VF.dh 9 [.tmp 4] Tryz.func112 ?_;refine IJ ?_;refine ah.rt (IL s c O) ?_;rintro _ O2 ⟨n,rfl,h,rfl⟩;refine IJ ?_
 have:s.contains c=decide (n>=0):=by
  rw[Bool.eq_iff_iff,List.contains_iff_mem,decide_eq_true_iff];exact h.symm
 rw[this]
def Pw (c:UInt8):Bool:=decide ((97<=c.toNat/\c.toNat<=122)\/(65<=c.toNat/\c.toNat<=90)\/(48<=c.toNat/\c.toNat<=57)\/c.toNat=46\/c.toNat=45\/c.toNat=95\/c.toNat=43)
def uL (s:List UInt8):Bool:=s.all Pw&&(decide (1<=s.length)&&decide (s.length<=64))
theorem Px (c:UInt8):((97<=c.toNat/\c.toNat<=122)\/(65<=c.toNat/\c.toNat<=90)\/(48<=c.toNat/\c.toNat<=57)\/c.toNat=46\/c.toNat=45\/c.toNat=95\/c.toNat=43)\/((123<=c.toNat)\/(91<=c.toNat/\c.toNat<=96/\c.toNat≠95)\/(58<=c.toNat/\c.toNat<=64)\/(c.toNat<=47/\c.toNat≠43/\c.toNat≠45/\c.toNat≠46)):=by omega
theorem Py (s:List UInt8) (O:VH) (hs:s.length<=maxLen):VF Tryz.prog 84 [.str s] O (aI fun m O'=>m=mb (uL s)/\O.Ge O'):=by
 have hm:(s.length:Int)<=9223372036854775807:=by simp[maxLen]at hs;omega
 have wN:=VH.aW O (.cells (s.map fp));have zy:=(VH.Ge.refl O).push (.cells (s.map fp));refine VF.dh 50 [.tmp 2] Tryz.func84 ?_;refine ae @rA ?_;refine VL.bytes aa (el:=5) (l:=s) rfl rfl (by rw[T9];rfl) (by rw[th];rfl) (by rw[T5];rfl) hs rfl fun cap h1 h2=>WL.sound aa ?_
 refine ae @rA ?_;refine WC.ik [9] [0,7,8] (fun j:Nat=>[mi j]) (fun j O'=>(O.push (.cells (s.map fp))).Ge O'/\j<=s.length/\(s.take j).all Pw=true) (fun j=>s.length - j) (0) ?_ ?_
 ·exact⟨VH.Ge.refl _,Nat.zero_le _,rfl⟩
 rintro j O2 ⟨oF,hj,jU⟩;have wO:=(oF.hp O.next (Nat.lt_succ_self _)).trans wN;by_cases h2:j<s.length
 ·have hc:=Px s[j];have nS:=List.getElem?_eq_getElem h2;have b_:Pw s[j]=decide ((97<=s[j].toNat/\s[j].toNat<=122)\/(65<=s[j].toNat/\s[j].toNat<=90)\/(48<=s[j].toNat/\s[j].toNat<=57)\/s[j].toNat=46\/s[j].toNat=45\/s[j].toNat=95\/s[j].toNat=43):=rfl;have iM:(s.take (j+1)).all Pw=Pw s[j]:=by rw[cN _ _ h2,List.all_append,jU];simp
  generalize hx:s[j]=c at*;have hD:ph c=decide (48<=c.toNat/\c.toNat<=57):=by unfold ph;rw[Bool.decide_and]
  have hC:([46,45,95,43]:List UInt8).contains c=decide (c.toNat=46\/c.toNat=45\/c.toNat=95\/c.toNat=43):=by
   rw[Bool.eq_iff_iff,List.contains_iff_mem,decide_eq_true_iff];simp only[List.mem_cons,List.not_mem_nil,or_false, <-UInt8.toNat_inj];rfl
  rcases hc with hc | hc
  ·have h1:Pw c=true:=by rw[b_];exact decide_eq_true hc
   rw[h1]at iM;rcases hc with hc | hc | hc | hc | hc | hc | hc
   ·refine c8 @rA @nS @wO @aG ?_;refine aC.next (j+1) ?_;exact⟨oF,by omega,iM⟩
   ·refine c8 @rA @nS @wO @aG ?_;refine aC.next (j+1) ?_;exact⟨oF,by omega,iM⟩
   ·rw[decide_eq_true (by omega)]at hD;refine c8 @rA @nS @wO @aG ?_;refine ah.rt (pj c _) ?_;rintro _ O3 ⟨rfl,rfl⟩;rw[hD];refine ae @rA ?_;refine aC.next (j+1) ?_;exact⟨oF,by omega,iM⟩
   all_goals
    rw[decide_eq_false (by omega)]at hD;rw[decide_eq_true (by omega)]at hC;refine c8 @rA @nS @wO @aG ?_;refine ah.rt (pj c _) ?_;rintro _ O3 ⟨rfl,rfl⟩;rw[hD];refine ae @rA ?_;refine VL.XI aa (el:=5) (l:=[c]) rfl rfl (by rw[th];rfl) (by rw[T9];rfl) (by rw[T5];rfl) rfl rfl rfl (WL.sound aa ?_);refine ae @rA ?_;refine ah.rt (zx [46,45,95,43] c _) ?_;rintro _ O4 ⟨rfl,rfl⟩;rw[hC];refine ae @rA ?_;refine aC.next (j+1) ?_;exact⟨oF,by omega,iM⟩
  ·have h1:Pw c=false:=by rw[b_];exact decide_eq_false (by omega)
   have:uL s=false:=by
    unfold uL;rw[List.all_eq_false.2 ⟨c,by rw[<-hx];exact List.getElem_mem h2,by simp[h1]⟩];rfl
   rw[this];rw[decide_eq_false (by omega)]at hD hC;rcases hc with hc | hc | hc | hc
   all_goals
    refine c8 @rA @nS @wO @aG ?_;refine ah.rt (pj c _) ?_;rintro _ O3 ⟨rfl,rfl⟩;rw[hD];refine ae @rA ?_;refine VL.XI aa (el:=5) (l:=[c]) rfl rfl (by rw[th];rfl) (by rw[T9];rfl) (by rw[T5];rfl) rfl rfl rfl (WL.sound aa ?_);refine ae @rA ?_;refine ah.rt (zx [46,45,95,43] c _) ?_;rintro _ O4 ⟨rfl,rfl⟩;rw[hC];refine ae @rA ?_;exact zy.trans oF
 ·have AD:j=s.length:=by omega
  subst AD;rw[List.take_length]at jU;unfold uL;rw[jU];by_cases h0:0<s.length
  ·have e:decide (1<=s.length)=true:=decide_eq_true h0;rw[e];by_cases DP:s.length<=64
   ·refine ae @rA ?_;exact zy.trans oF
   ·refine ae @rA ?_;exact zy.trans oF
  ·have e:decide (1<=s.length)=false:=decide_eq_false (by omega);rw[e];refine ae @rA ?_;exact zy.trans oF
def tj:Bool->List UInt8->List UInt8->List Piece
 | hy,cur,[]=>[(cur,hy,false)]
 | hy,cur,c::r=>if Li c then(cur,hy,false)::tj (c==45) [] r
   else match cur.getLast? with
    | none=>tj hy [c] r
    | some d=>if ph c=ph d then tj hy (cur++[c]) r else(cur,hy,true)::tj true [c] r
theorem UO (hy:Bool) (cur:List UInt8):tj hy cur []=[(cur,hy,false)]:=rfl
theorem Pz {hy:Bool} {cur r:List UInt8} {c:UInt8} (h:Li c=true):tj hy cur (c::r)=(cur,hy,false)::tj (c==45) [] r:=by rw[tj,if_pos h]
def even (l:List UInt8):Prop:=(∀c∈l,Li c=false)/\∀c∈l,∀d∈l,ph c=ph d
theorem AG:∀(l cur r:List UInt8) (hy:Bool),even (cur++l)->tj hy cur (l++r)=tj hy (cur++l) r
 | [],cur,r,hy,_=>by simp
 | c::l,cur,r,hy,h=>by
   have hm:Li c=false:=h.1 c (by simp);have G5:=AG l (cur++[c]) r hy (by rw[List.append_assoc];exact h);rw[List.append_assoc,List.singleton_append]at G5;rw[<-G5,List.cons_append,tj,if_neg (by rw[hm];simp)];cases hl:cur.getLast? with
   | none=>
     have:cur=[]:=List.getLast?_eq_none_iff.1 hl;subst this;rfl
   | some d=>
     have hd:ph c=ph d:=h.2 c (by simp) d (List.mem_append_left _ (List.mem_of_getLast? hl));simp only[hd,if_true]
end Go.Proofs.YtoclnkfdahmnhaaGreatDoor
