import Derived.Test.YtoclnkfdahmnhaaGreatDoorMA
import Derived.Lib.ConvBytes
import Derived.Laws.BytesString
import Derived.Laws.Externs
import Derived.Deep.AppendSrc
import Derived.Lib.UnsafeStr
import Derived.Laws.StructEq
import Derived.Recover
import Derived.WideLaws
import Derived.Laws.RangeString
import Derived.DeepKeys5
import Derived.Test.YtoclnkfdahmnhaaGreatDoorRows
import Derived.Lib.Bytealg
set_option linter.unusedVariables false
set_option linter.unusedSimpArgs false
namespace Go.Proofs.YtoclnkfdahmnhaaGreatDoor
open Go.RowKit
def iY:List Nat->List MV->Env->Env
 | t::l,m::ms,e=>(t,m)::iY l ms e
 | _,_,e=>e
theorem uI (t:Nat) (l:List Nat) (m:MV) (ms:List MV) (e:Env):iY (t::l) (m::ms) e=(t,m)::iY l ms e:=rfl
theorem D2 (ms:List MV) (e:Env):iY [] ms e=e:=rfl
theorem iu {e e0:Env} (he:∀t x,look e0 t=some x->look e t=some x):∀{l:List Nat} {ms:List MV},looks e l=some ms->∀t x,look (iY l ms e0) t=some x->look e t=some x
 | [],ms,_,t,x,hx=>he t x (by simpa[iY]using hx)
 | k::l,ms,h,t,x,hx=>by
   rw[BU]at h;obtain⟨m,h1,h2⟩:=Option.bind_eq_some_iff.1 h;obtain⟨XL,h3,rfl⟩:=Option.map_eq_some_iff.1 h2;rw[uI,lR]at hx;cases hb:t==k with
   | true=>
     rw[hb,cond_true]at hx;injection hx with hx;subst hx
     have:t=k:=by simpa using hb
     rw[this];exact h1
   | false=>rw[hb,cond_false]at hx;exact iu he h3 t x hx
def ay {σ :Type} (l K:List Nat) (ks:List MV) (ms: σ ->List MV) (I: σ ->VH->Prop) (μ : σ ->Nat) (s: σ) (Q:VQ):VQ:=fun x e O=>match x with
 | .normal=>looks e K=some ks/\∃s',looks e l=some (ms s')/\I s' O/\ μ s'< μ s
 | x=>Q x e O
section
variable {n:Sz} {D:List Deferred} {e:Env} {P:Program} {O:VH} {Q:VQ} {c:Code} {σ :Type} {l K:List Nat} {ks:List MV} {ms: σ ->List MV} {I: σ ->VH->Prop} {μ : σ ->Nat} {s: σ} {i:Nat} {m:MV}
theorem zx:ay l K ks ms I μ s Q (.exit i) e O=Q (.exit i) e O:=rfl
theorem zy:ay l K ks ms I μ s Q (.goto i) e O=Q (.goto i) e O:=rfl
theorem B3:ay l K ks ms I μ s Q .ret e O=Q .ret e O:=rfl
theorem qN:ay l K ks ms I μ s Q (.panic m) e O=Q (.panic m) e O:=rfl
theorem VC.iG (l K:List Nat) (ms: σ ->List MV) (I: σ ->VH->Prop) (μ : σ ->Nat) (s0: σ) (h0:looks e l=some (ms s0)) (hk:looks e K=some ks) (hI:I s0 O)
  (step:∀s O,I s O->VC P n D c (iY l (ms s) (iY K ks [])) O (ay l K ks ms I μ s Q)):VC P n D (.loop c) e O Q:=by
 refine VC.loop (fun k e O=>looks e K=some ks/\∃s,looks e l=some (ms s)/\I s O/\ μ s=k) (k:= μ s0) ⟨hk,s0,h0,hI,rfl⟩ ?_;rintro k e O ⟨hk,s,h1,h2,rfl⟩;refine VC.mono ?_ (VC.env (step s O h2) (iu (iu (e0:=[]) (fun t x h=>by simp[look]at h) hk) h1));intro x e' O' h
 cases x<;>first
  | exact h
  | (obtain⟨h6,s',h3,h4,h5⟩:=h;exact⟨_,h5,h6,s',h3,h4,rfl⟩)
end
abbrev ints (xs:List Int) (t:Tok):MV:=.sl xs.length (xs.map mi) t
abbrev PF (xs:List Bool) (t:Tok):MV:=.sl xs.length (xs.map mb) t
abbrev strs (xs:List (List UInt8)) (t:Tok):MV:=.sl xs.length (xs.map .str) t
set_option linter.defProp false in
def Yj:=And.intro @Option.map_none.{0,0}<|And.intro @Option.bind_none.{0,0}<|And.intro @uI<|And.intro @D2<|And.intro @Int.zero_sub<|And.intro @Bool.not_true<|And.intro @Bool.not_false<|And.intro @decide_true<|And.intro @decide_eq_true<|And.intro @decide_eq_false<|And.intro @Nat.zero_add<|And.intro @Nat.mul_one<|And.intro @Int.toNat_natCast<|And.intro @Nat.add_zero<|And.intro @List.set_cons_zero.{0}<|And.intro @List.set_cons_succ.{0}<|And.intro @List.take_succ_cons.{0}<|And.intro @List.take_zero.{0}<|And.intro @List.drop_succ_cons.{0}<|And.intro @List.drop_zero.{0}<|And.intro @List.getElem?_eq_getElem.{0}<|And.intro @List.getElem?_toArray.{0}<|And.intro @List.getElem?_cons_zero.{0}<|And.intro @List.getElem?_cons_succ.{0}<|And.intro @Option.bind_some.{0,0}<|And.intro @Option.map_some.{0,0}<|And.intro @List.map_cons.{0,0}<|And.intro @List.map_nil.{0,0}<|And.intro @List.getElem?_map.{0,0}<|And.intro @List.getElem_map.{0,0}<|And.intro @if_true.{1}<|And.intro @cond_true.{1} @cond_false.{1}
set_option linter.defProp false in
def Yk:=And.intro @ux<|And.intro @zf<|And.intro @BW<|And.intro @w6<|And.intro @zx<|And.intro @zy<|And.intro @B3<|And.intro @qN<|And.intro @IJ<|And.intro @Px<|And.intro @Py<|And.intro @T6<|And.intro @KX<|And.intro @uw<|And.intro @zc<|And.intro @ze<|And.intro @BV<|And.intro @qM<|And.intro @KY<|And.intro @KZ<|And.intro @Pz<|And.intro @IK<|And.intro @Lh<|And.intro @if_true.{1} @if_false.{1}
section
variable {P:Program} {tab:bV} {n:Sz} {D:List Deferred} {md:Md} {l:List Oper} {Q:VQ} {L':List (Fl×Oper)} {e e':Env} {O O':VH} {c x y:Code} {A:Prop} {id:Nat} {fn:Func} {R:fO->VH->Prop} {m m':MV} {t t':Nat} {o:Operand} {b:Bool}
theorem gVC (h:VC P n D c e O Q):VC P n D c e O Q:=h
theorem gp (a:A) (q:VL P n D .plain ⟨l⟩ L' e' O' Q) (ht:aM P tab:=by exact aa) (h:A->iF tab n ⟨l⟩ (l.map (Fl.one, ·)) e O=some (L',e',O'):=by intro z;simp(disch:=omega) only[Yi,Yj,ints,PF,strs,cw,Nat.reduceLT,Nat.reduceAdd,Nat.reduceBEq,Int.reduceToNat,z]<;>exact rfl):VC P n D (.region id ⟨l⟩ false) e O Q:=VC.Sg (VL.run ht (h a) q)
theorem gr (a:A) (q:VL P n D .reads ⟨l⟩ L' e' O' Q) (ht:aM P tab:=by exact aa) (h1:P.follows .mixedOrders=true:=by kernel_rfl) (h2:Region.noSelect ⟨l⟩=true:=by kernel_rfl) (h3:cz .reads ⟨l⟩ l.length (Array.replicate l.length false) ((List.range' 0 l.length).map (·,Fl.rd))=true:=by kernel_rfl) (h:A->iF tab n ⟨l⟩ (l.map (Fl.rd, ·)) e O=some (L',e',O'):=by intro z;simp(disch:=omega) only[Yi,Yj,ints,PF,strs,cw,Nat.reduceLT,Nat.reduceAdd,Nat.reduceBEq,Int.reduceToNat,z]<;>exact rfl):VC P n D (.region id ⟨l⟩ true) e O Q:=VC.Sm h1 h2 h3 (VL.run ht (h a) q)
theorem gc (a:A) (h1:b=true->VC P n D x e O Q) (h2:b=false->VC P n D y e O Q) (h:A->ev e o=some (.v (.bool b)):=by intro z;simp(disch:=omega) only[Yi,Yj,ints,PF,strs,cw,Nat.reduceLT,Nat.reduceAdd,Nat.reduceBEq,Int.reduceToNat,z]<;>exact rfl):VC P n D (.cond o x y) e O Q:=VC.cond (h a) h1 h2
theorem eR1 (q:R (.ret m) O) (h1:fn.results= #[.tmp t]:=by exact rfl) (h2:look e t=some m:=by simp only[lR,Nat.reduceBEq,cond_true,cond_false]<;>exact rfl):mI tab fn R .ret e O:=mI.ahy h1 h2 q
theorem eR2 (q:R (.ret (.tuple [m,m'])) O) (h1:fn.results= #[.tmp t,.tmp t']:=by exact rfl) (h2:look e t=some m:=by simp only[lR,Nat.reduceBEq,cond_true,cond_false]<;>exact rfl) (h3:look e t'=some m':=by simp only[lR,Nat.reduceBEq,cond_true,cond_false]<;>exact rfl):mI tab fn R .ret e O:=mI.ahz h1 h2 h3 q
end
set_option linter.defProp false in
def dcs:=And.intro @decide_eq_true_eq<|And.intro @decide_eq_false_iff_not<|And.intro @beq_iff_eq.{0}<|And.intro @beq_eq_false_iff_ne.{0}<|And.intro @bne_iff_ne.{0} @bne_eq_false_iff_eq.{0}
section
variable {G H:Gh} {n:Sz} {D:List Deferred} {e:Env} {a:Act} {P:Program} {tab:bV} {O O':VH} {w:World} {m m':MV} {u v:Value} {ops:Array Oper} {Q:VQ}
def Lj (P:Program) (n:Sz) (D:List Deferred) (o:Oper) (e:Env) (O:VH) (M:MV->VH->Prop):Prop:=∀G a w,WR G O w->FR G n D e a->∃m O',M m O'/\df P o a w G m O'
theorem il.D3 {i:Nat} {l:List Nat} {o:Oper} {M:MV->VH->Prop} (ho:ops[i]?=some o) (hg:aK ops o e=some true) (hd:bh n o.dst=true) (hy:Lj P n D o e O M) (h:∀m O',M m O'->il P n D ops l (aV o.dst m e) O' Q):
  il P n D ops (i::l) e O Q:=by
 intro G a w hw aS;obtain⟨m,O',hM,nx,w',H,u,hr,qh,h1,h2,h3,_⟩:=hy G a w hw aS;simp only[wpOps,ho,bd aS hg,if_true];refine .inl ?_;unfold Oper.wp;rw[hr]
 have hk:wpOps P ops (cg G n D Q) l (a.put o.dst u) w':=by
  exact lP (fun _ _ _=>cg.le h1) l _ _ (h m O' hM H (a.put o.dst u) w' h2 ((aS.mono h1).aV hd h3))
 rcases qh with rfl | ⟨rfl,rfl⟩
 ·exact hk
 ·exact hk
theorem VL.D3 {o:Oper} {L:List (Fl×Oper)} {M:MV->VH->Prop} (hg:aK ops o e=some true) (hd:bh n o.dst=true) (hy:Lj P n D o e O M) (h:∀m O',M m O'->VL P n D .plain ops L (aV o.dst m e) O' Q):
  VL P n D .plain ops ((.one,o)::L) e O Q:=by
 intro fuel listed ix hf hp
 match ix,hf with
 | (i,g)::ix,hf=>
   obtain⟨rfl,ho,hf⟩:=hf;exact il.D3 ho hg hd hy fun m O' hM=>h m O' hM 0 #[] ix hf (fun h=>absurd rfl h)
def fB (b:UInt8):MV:=.v (.int .u8 b.toNat)
theorem IL {α :Type} (l:Array α) (x: α) (f: α -> α):(l.push x).modify l.size f=l.push (f x):=by
 apply Array.ext_getElem?;intro i;simp only[Array.getElem?_modify,Array.getElem?_push];by_cases h:i=l.size
 ·subst h;simp
 ·rw[if_neg (Ne.symm h),if_neg h,if_neg h]
theorem F6 (w:World) (C:Array Value) (t:TypeId):(w.alloc (.cells C t)).freeze ⟨w.heap.size,C.size,none⟩ 1=w.alloc (.cells C t (C.size,C.size+1)):=by
 simp[World.freeze,World.alloc, -World.alloc_eq,IL]
theorem D4 (l:List UInt8):aO G (l.map fB) (l.map fun b=>Value.int .u8 b.toNat):=by
 induction l with
 | nil=>exact aO.nil
 | cons b l ih=>exact aO.cons (.v rfl) ih
theorem Ug (ht:aM P tab) (h:WR G O w) {src dst el:TypeId} {l:List UInt8} (hs:(tab src).map cn.under=some .string) (hd:(tab dst).map cn.under=some (.slice el)) (he:(tab el).map cn.under=some (.int .u8)) (hl:l.length<=maxLen):
  ∃c,l.length<=c/\c<=maxLen/\gP P (convert src dst (.string ⟨⟨l⟩⟩)) w G (O.push (.cells (l.map fB))) (.bm O.next 0 l.length c):=by
 have bU:=Lib.run_convert_string_bytes w src dst el ⟨⟨l⟩⟩ (bA ht hs) (bA ht hd) (bA ht he);have oc:(⟨⟨l⟩⟩:ByteArray).size=l.length:=rfl;rw[oc]at bU;have ik:=grownCap_ge w l.length 0 el;have hle:=grownCap_le_maxLen w l.length 0 el hl;refine⟨grownCap w l.length 0 el,ik,hle,?_⟩
 have dP:(Lib.bytesCells w el ⟨⟨l⟩⟩).toList.take (l.map fB).length=l.map fun b=>Value.int .u8 b.toNat:=by
  simp[Lib.bytesCells]
 obtain⟨h1,h2⟩:=h.drew.XH (cs:=l.map fB) (C:=Lib.bytesCells w el ⟨⟨l⟩⟩) ⟨el,((Lib.bytesCells w el ⟨⟨l⟩⟩).size,(Lib.bytesCells w el ⟨⟨l⟩⟩).size+1),.inr (Nat.le_refl _)⟩ (by rw[dP];exact D4 l);have hW:Lib.bytesWorld w el ⟨⟨l⟩⟩=w.drew.alloc (.cells (Lib.bytesCells w el ⟨⟨l⟩⟩) el ((Lib.bytesCells w el ⟨⟨l⟩⟩).size,(Lib.bytesCells w el ⟨⟨l⟩⟩).size+1)):=F6 w.drew _ _;rw[hW]at bU;exact⟨_,_,_,bU,h1,h2,.bm (aE _ _ _) ik hle,fun k b hk=>jx.alloc h.drew _ k b hk⟩
theorem VL.bytes (ht:aM P tab) {d:Option Tmp} {src dst el:TypeId} {x:Operand} {ty:TypeId} {ps:String} {af:Array Edge} {g:Option (Nat×Bool)} {L:List (Fl×Oper)} {l:List UInt8}
  (hg:aK ops (.mk d (.convert src dst x) ty ps af g) e=some true) (hx:ev e x=some (.str l)) (hs:(tab src).map cn.under=some .string) (qO:(tab dst).map cn.under=some (.slice el)) (he:(tab el).map cn.under=some (.int .u8)) (hl:l.length<=maxLen) (hd:bh n d=true)
  (h:∀c,l.length<=c->c<=maxLen->VL P n D .plain ops L (aV d (.bm O.next 0 l.length c) e) (O.push (.cells (l.map fB))) Q):
  VL P n D .plain ops ((.one,.mk d (.convert src dst x) ty ps af g)::L) e O Q:=by
 refine VL.D3 (M:=fun m O'=>∃c,l.length<=c/\c<=maxLen/\m= .bm O.next 0 l.length c/\O'=O.push (.cells (l.map fB))) hg hd (fun G a w hw hf=>?_) ?_
 ·have h1:=hf.ev hx;generalize hu:a.eval x=u at h1;cases h1;obtain⟨c,c1,c2,c3⟩:=Ug (P:=P) ht hw hs qO he hl;exact⟨_,_,⟨c,c1,c2,rfl,rfl⟩,df.of c3 (by simp[execOp,hu])⟩
 ·rintro m O' ⟨c,c1,c2,rfl,rfl⟩;exact h c c1 c2
theorem Lk (l:List UInt8):∀s:List UInt8,(l.map fun b=>(b.toNat:Int)).foldl (fun(r:ByteArray) (n:Int)=>r.push (UInt8.ofNat n.toNat)) ⟨⟨s⟩⟩=⟨⟨s++l⟩⟩:=by
 induction l with
 | nil=>intro s;simp
 | cons b l ih=>
   intro s;rw[List.map_cons,List.foldl_cons]
   have:(⟨⟨s⟩⟩:ByteArray).push (UInt8.ofNat (b.toNat:Int).toNat)=⟨⟨s++[b]⟩⟩:=by
    simp[ByteArray.push]
   rw[this,ih,List.append_assoc];rfl
theorem D5 (a:Addr) (l:List UInt8) (c:Nat) (w:World) (h:∀j v,(l.map fun b=>Value.int .u8 b.toNat)[j]?=some v->w.cell? (a.add j)=some v):
  (Conv.bytesToString (.slice (some a) l.length c)).run P w= .ok (.string ⟨⟨l⟩⟩) w:=by
 have h1:=run_loadCells_list (P:=P) w a (l.map fun b=>Value.int .u8 b.toNat) h;rw[List.length_map]at h1;rw[run_bytesToString (P:=P) w a l.length c (l.map fun b=>(b.toNat:Int)) (by rw[h1,List.map_map];rfl)];rw[show(ByteArray.empty:ByteArray)=⟨⟨[]⟩⟩from rfl,Lk];rfl
theorem Ll {l:List UInt8} {us:List Value} (h:aO G (l.map fB) us):us=l.map fun b=>Value.int .u8 b.toNat:=by
 induction l generalizing us with
 | nil=>exact h.ic
 | cons b l ih=>
   obtain⟨u,TO,rfl,h1,h2⟩:=h.eh;rw[ih h2,h1.iD];rfl
theorem Uh (ht:aM P tab) (h:WR G O w) {src dst el:TypeId} {tk:Tok} {l:List UInt8} (hs:(tab src).map cn.under=some (.slice el)) (hd:(tab dst).map cn.under=some .string) (he:(tab el).map cn.under=some (.int .u8))
  (hx:VR G (.sl l.length (l.map fB) tk) u):gP P (convert src dst u) w G O (.str l):=by
 have hc:=fun a n c=>run_convert_bytes_string (P:=P) w src dst el a n c (bA ht hs) (bA ht he) (bA ht hd)
 refine⟨.string ⟨⟨l⟩⟩,w,G,?_,Gh.Le.refl G,h,.str,jx.refl _ _⟩;generalize hn:l.length=k at hx;generalize hm:l.map fB=cs at hx;cases hx with
 | slnil=>
   obtain rfl:l=[]:=List.eq_nil_of_length_eq_zero hn;rw[hc];rfl
 | j7=>
   obtain rfl:l=[]:=List.eq_nil_of_length_eq_zero hn;rw[hc];rfl
 | n9=>
   obtain rfl:l=[]:=List.eq_nil_of_length_eq_zero hn;rw[hc];exact D5 _ [] _ w fun j v hv=>by simp at hv
 | sl h1 h2 h3 h4 h5 h6=>
   rename_i us c b o;subst hn hm;have h7:=Ll (us:=us) ⟨h1,h3⟩;rw[hc];refine D5 _ l c w fun j v hv=>?_
   rw[<-h7]at hv;rw[Addr.add_lit];exact h.d_ _ _ _ (h2 j v hv)
theorem VL.Yl (ht:aM P tab) {d:Option Tmp} {src dst el:TypeId} {x:Operand} {ty:TypeId} {ps:String} {af:Array Edge} {g:Option (Nat×Bool)} {L:List (Fl×Oper)} {nn:Nat} {cs:List MV} {tk:Tok} {l:List UInt8}
  (hg:aK ops (.mk d (.convert src dst x) ty ps af g) e=some true) (hx:ev e x=some (.sl nn cs tk)) (hs:(tab src).map cn.under=some (.slice el)) (qO:(tab dst).map cn.under=some .string) (he:(tab el).map cn.under=some (.int .u8)) (hn:nn=l.length) (dP:cs=l.map fB) (hd:bh n d=true)
  (h:VL P n D .plain ops L (aV d (.str l) e) O Q):VL P n D .plain ops ((.one,.mk d (.convert src dst x) ty ps af g)::L) e O Q:=by
 subst hn dP;refine VL.D3 (M:=fun m O'=>m= .str l/\O'=O) hg hd (fun G a w hw hf=>?_) ?_
 ·exact⟨_,_,⟨rfl,rfl⟩,df.of (Uh (P:=P) ht hw hs qO he (hf.ev hx)) (by simp[execOp])⟩
 ·rintro m O' ⟨rfl,rfl⟩;exact h
end
section
variable {n:Sz} {D:List Deferred} {e e':Env} {P:Program} {tab:bV} {O O':VH} {m m':MV} {ops:Array Oper} {Q:VQ} {md:Md}
def cj:Op->Bool
 | .call c=>match c.callee with
   | .value _=>true
   | .builtin .append=>true
   | _=>false
 | _=>false
def F7:Fl->Bool
 | .fk=>true
 | _=>false
def aga (P:Program) (n:Sz) (Q:VQ) (d:Option Tmp) (O:VH) (K:Env->VH->Prop) (e:Env) (fv:Option MV) (ms:Option (List MV)):Prop:=
 ∃id fs cs l R,fv=some (.func (.func id) fs cs)/\ms=some l/\Enters P id/\bh n d=true/\VF P id (fs++l++cs) O R/\∀r O',R r O'->match r with
  | .ret m=>K (aV d m e) O'
  | .panic m=>Q (.panic m) (ky n e) O'
def en (P:Program) (id:FuncId) (l:List MV) (O:VH) (M:MV->VH->Prop):Prop:=
 ∀G w vs,WR G O w->aO G l vs->∃m O' u w' H,M m O'/\(callFunc id vs.toArray).run P w= .ok (.value u) w'/\Gh.Le G H/\WR H O' w'/\VR H m u
def gT:Md->Bool
 | .plain=>true
 | _=>false
def agb (P:Program) (n:Sz) (md:Md) (d:Option Tmp) (O:VH) (K:Env->VH->Prop) (e:Env) (fv:Option MV) (ms:Option (List MV)):Prop:=
 ∃id l M,gT md=true/\fv=some (.func (.func id) [] [])/\ms=some l/\bh n d=true/\en P id l O M/\∀m O',M m O'->K (aV d m e) O'
def ah (P:Program) (n:Sz) (md:Md) (Q:VQ) (d:Option Tmp) (O:VH) (K:Env->VH->Prop) (e:Env) (fv:Option MV) (ms:Option (List MV)):Prop:=
 aga P n Q d O K e fv ms\/agb P n md d O K e fv ms
def uJ (P:Program) (n:Sz) (D:List Deferred) (md:Md) (ops:Array Oper) (Q:VQ) (f:Fl) (o:Oper) (L:List (Fl×Oper)) (e:Env) (O:VH) (K:Env->VH->Prop):Prop:=
 match f,o.op with
 | .one,.call c=>match c.callee with
   | .value x=>ah P n md Q o.dst O K e (ev e x) (fE e c.args.toList)
   | _=>VL P n D md ops ((f,o)::L) e O Q
 | _,_=>VL P n D md ops ((f,o)::L) e O Q
theorem VL.ext {o:Oper} {c:Call} {x:Operand} {id:FuncId} {ms:List MV} {M:MV->VH->Prop} {L:List (Fl×Oper)} (hg:aK ops o e=some true) (si:o.op= .call c) (hc:c.callee= .value x) (hf:ev e x=some (.func (.func id) [] [])) (hm:fE e c.args.toList=some ms) (hd:bh n o.dst=true)
  (hx:en P id ms O M) (h:∀m O',M m O'->VL P n D .plain ops L (aV o.dst m e) O' Q):VL P n D .plain ops ((.one,o)::L) e O Q:=by
 intro fuel listed ix rD hp
 match ix,rD with
 | (i,g)::ix,rD=>
   obtain⟨rfl,ho,rD⟩:=rD;intro G a w hw aS;have rB:=aS.ev hf;generalize AO:a.eval x=fv at rB;cases rB with
   | func h1 h2 h3 h4=>
     rename_i us vs;have iX:us=[]:=List.eq_nil_of_length_eq_zero h1;have nS:vs=[]:=List.eq_nil_of_length_eq_zero h3;subst iX;subst nS
     have gH:=aS.fE hm;obtain⟨m,O',u,w',H,hM,hr,g1,g2,g3⟩:=hx G w _ hw gH
     have bU:(execOp a.eval o).run P w= .ok (.value u) w':=by
      have ha: #[]++c.args.map a.eval++ #[]=(c.args.toList.map a.eval).toArray:=by apply Array.ext';simp
      simp only[execOp,si,resolve,hc,AO,Deferred.ofValue,Sem.run_bind,Sem.run_pure,Result.andThen_ok,invoke];rw[ha];exact hr
     simp only[List.map_cons,wpOps,ho,bd aS hg,if_true];refine .inl ?_;unfold Oper.wp;rw[bU];exact lP (fun _ _ _=>cg.le g1) (ix.map (·.1)) _ _ (h m O' hM 0 #[] ix rD (fun h=>absurd rfl h) H (a.put o.dst u) w' g2 ((aS.mono g1).aV hd g3))
theorem uJ.sound {f:Fl} {o:Oper} {L:List (Fl×Oper)} {K:Env->VH->Prop} (hK:∀e O,K e O->VL P n D md ops L e O Q) (hg:aK ops o e=some true) (h:uJ P n D md ops Q f o L e O K):VL P n D md ops ((f,o)::L) e O Q:=by
 obtain⟨d,op,ty,ps,af,g⟩:=o;cases f with
 | one=>
   cases op with
   | call c=>
     obtain⟨cl,as_,ts⟩:=c;cases cl with
     | value x=>
       rcases h with h | h
       ·obtain⟨id,fs,cs,l,R,h1,h2,h3,h4,h5,h6⟩:=h;refine VL.call hg h1 h2 rfl h3 h4 h5 fun r O' hr=>?_
        have:=h6 r O' hr;cases r with
        | ret m=>exact hK _ _ this
        | panic m=>exact this
       ·obtain⟨id,l,M,hp,h1,h2,h3,h4,h5⟩:=h;cases md with
        | plain=>exact VL.ext hg rfl rfl h1 h2 h3 h4 fun m O' hM=>hK _ _ (h5 m O' hM)
        | _=>cases hp
     | _=>exact h
   | _=>exact h
 | _=>exact h
def WL (P:Program) (tab:bV) (n:Sz) (D:List Deferred) (md:Md) (ops:Array Oper) (Q:VQ):List (Fl×Oper)->Env->VH->Prop
 | [],e,O=>Q .normal e O
 | (f,o)::L,e,O=>match aK ops o e with
   | none=>False
   | some false=>(match bh n o.dst&& !F7 f with
     | true=>WL P tab n D md ops Q L (aV o.dst cw e) O
     | false=>False)
   | some true=>(match cj o.op||F7 f with
     | true=>uJ P n D md ops Q f o L e O (WL P tab n D md ops Q L)
     | false=>(match ir tab f o e O with
       | none=>VL P n D md ops ((f,o)::L) e O Q
       | some (m,O')=>(match bh n o.dst with
         | true=>WL P tab n D md ops Q L (aV o.dst m e) O'
         | false=>False)))
theorem WL.sound (ht:aM P tab):∀{L:List (Fl×Oper)} {e:Env} {O:VH},WL P tab n D md ops Q L e O->VL P n D md ops L e O Q
 | [],e,O,h=>VL.nil h
 | (f,o)::L,e,O,h=>by
   rw[WL]at h;split at h
   ·exact h.elim
   ·rename_i hg;split at h
    ·rename_i hd;simp only[Bool.and_eq_true,Bool.not_eq_true']at hd;exact VL.skip (by rintro rfl;exact absurd hd.2 (by decide)) hg hd.1 (WL.sound ht h)
    ·exact h.elim
   ·rename_i hg;split at h
    ·exact uJ.sound (fun e O h=>WL.sound ht h) hg h
    ·split at h
     ·exact h
     ·split at h
      ·exact VL.step ht hg ‹_› ‹_› (WL.sound ht h)
      ·exact h.elim
def D6 (P:Program) (n:Sz) (tab:bV) (D:List Deferred) (A B:Env->VH->VQ->Prop) (e:Env) (O:VH) (Q:VQ):Option MV->Prop
 | some (.v (.bool true))=>A e O Q
 | some (.v (.bool false))=>B e O Q
 | _=>False
def WC (P:Program) (tab:bV) (n:Sz) (D:List Deferred):Code->Env->VH->VQ->Prop
 | .skip,e,O,Q=>Q .normal e O
 | .exit i,e,O,Q=>Q (.exit i) e O
 | .label _,e,O,Q=>Q .normal e O
 | .ret,e,O,Q=>Q .ret e O
 | .scope c,e,O,Q=>WC P tab n D c e O (sj Q)
 | .block id c,e,O,Q=>WC P tab n D c e O (iq id Q)
 | .seq a b,e,O,Q=>WC P tab n D a e O fun x e O=>match x with
   | .normal=>WC P tab n D b e O Q
   | x=>Q x e O
 | .cond c x y,e,O,Q=>D6 P n tab D (WC P tab n D x) (WC P tab n D y) e O Q (ev e c)
 | .region id ops false,e,O,Q=>WL P tab n D .plain ops Q (ops.toList.map (Fl.one, ·)) e O
 | c,e,O,Q=>VC P n D c e O Q
theorem WC.sound (ht:aM P tab):∀{c:Code} {e:Env} {O:VH} {Q:VQ},WC P tab n D c e O Q->VC P n D c e O Q:=by
 intro c;induction c with
 | skip=>intro e O Q h;exact VC.skip h
 | exit i=>intro e O Q h;exact VC.exit h
 | label l=>intro e O Q h;exact VC.label h
 | ret=>intro e O Q h;exact VC.ret h
 | scope c ih=>intro e O Q h;exact VC.scope (ih h)
 | block id c ih=>intro e O Q h;exact VC.az (ih h)
 | seq a b iha ihb=>
   intro e O Q h;refine VC.seq (VC.mono ?_ (iha h));intro x e O hx;cases x<;>first | exact ihb hx | exact hx
 | cond c x y ihx ihy=>
   intro e O Q h;simp only[WC]at h;unfold D6 at h;split at h
   ·rename_i he;exact VC.DO he (ihx h)
   ·rename_i he;exact VC.af9 he (ihy h)
   ·exact h.elim
 | region id ops dr=>
   intro e O Q h;cases dr with
   | true=>exact h
   | false=>obtain⟨l⟩:=ops;exact VC.Sg (WL.sound ht h)
 | loop c ih=>intro e O Q h;exact h
 | _=>intro e O Q h;exact h
def qp (K:Env->VH->Prop) (Q:VQ):VQ:=fun x e O=>match x with
 | .normal=>K e O
 | x=>Q x e O
def iw (tab:bV) (e:Env) (O:VH):List ResultVar->Option (List MV)
 | []=>some []
 | r::rs=>(jM tab e O r).bind fun m=>(iw tab e O rs).map (m:: ·)
def iO (R:fO->VH->Prop) (O:VH):Option (List MV)->Prop
 | none=>False
 | some [m]=>R (.ret m) O
 | some l=>R (.ret (.tuple l)) O
def B4 (tab:bV) (rs:List ResultVar) (R:fO->VH->Prop):VQ:=fun x e O=>match x with
 | .normal=>iO R O (iw tab e O rs)
 | .ret=>iO R O (iw tab e O rs)
 | .panic m=>R (.panic m) O
 | _=>False
theorem rF (rs:List ResultVar):iw tab e O rs=rs.mapM (jM tab e O):=by
 induction rs with
 | nil=>rfl
 | cons r rs ih=>
   rw[iw,ih,List.mapM_cons];simp only[Option.bind_eq_bind];cases jM tab e O r with
   | none=>rfl
   | some m=>simp only[Option.bind_some];cases List.mapM (jM tab e O) rs<;>rfl
theorem VF.ofW (ht:aM P tab) {f:FuncId} {fn:Func} {c:Code} {args:List MV} {rs:List ResultVar} {R:fO->VH->Prop} (hf:P.funcs[f]?=some fn) (hb:fn.body=some c) (hk:(⟨fn.ntmps,0⟩:Sz)=n) (hr:fn.results.toList=rs) (hn:args.length<=n.n)
  (h:WC P tab n [] c (cf 0 args) O (B4 tab rs R)):VF P f args O R:=by
 subst hk;refine VF.enter ht hf hb hn (VC.mono ?_ (WC.sound ht h));intro x e O hx
 have key:iO R O (iw tab e O rs)->∃m,c8 tab fn e O=some m/\R (.ret m) O:=fun h=>by
  unfold c8;rw[hr, <-rF];generalize iw tab e O rs=z at h;unfold iO at h;split at h
  ·exact h.elim
  ·exact⟨_,rfl,h⟩
  ·rename_i l hl;refine⟨.tuple l,?_,h⟩
   match l,hl with
   | [],_=>rfl
   | [m],hl=>exact absurd rfl (hl m)
   | _::_::_,_=>rfl
 cases x<;>first | exact key hx | exact hx
theorem VF.dh {f:FuncId} {fn:Func} {c:Code} {args:List MV} {R:fO->VH->Prop} {Q':Prop} (k:Nat) (rs:List ResultVar) (hf:P.funcs[f]?=some fn) (q:Q') (ht:aM P tab:=by exact aa) (hb:fn.body=some c:=by exact rfl) (hk:(⟨fn.ntmps,0⟩:Sz)=⟨k,0⟩:=by exact rfl) (hr:fn.results.toList=rs:=by exact rfl) (hn:args.length<=k:=by exact Nat.le_of_ble_eq_true rfl) (h:WC P tab ⟨k,0⟩ [] c (cf 0 args) O (B4 tab rs R)=Q':=by conv=>lhs;simp only[cf,Nat.zero_add,Nat.reduceAdd]):VF P f args O R:=VF.ofW ht hf hb hk hr hn (h.mpr q)
def W3 (P:Program) (tab:bV) (n:Sz) (D:List Deferred) (md:Md) (ops:Array Oper) (Q:VQ) (L:List (Fl×Oper)) (e:Env) (O:VH):Bool->Prop
 | true=>WL P tab n D md ops Q L e O
 | false=>False
def W2 (P:Program) (tab:bV) (n:Sz) (D:List Deferred) (md:Md) (ops:Array Oper) (Q:VQ) (f:Fl) (o:Oper) (L:List (Fl×Oper)) (e:Env) (O:VH):Option (MV×VH)->Prop
 | some (m,O')=>W3 P tab n D md ops Q L (aV o.dst m e) O' (bh n o.dst)
 | none=>VL P n D md ops ((f,o)::L) e O Q
def W1 (P:Program) (tab:bV) (n:Sz) (D:List Deferred) (md:Md) (ops:Array Oper) (Q:VQ) (f:Fl) (o:Oper) (L:List (Fl×Oper)) (e:Env) (O:VH):Bool->Option Bool->Prop
 | _,none=>False
 | true,some true=>uJ P n D md ops Q f o L e O (WL P tab n D md ops Q L)
 | false,some true=>W2 P tab n D md ops Q f o L e O (ir tab f o e O)
 | _,some false=>W3 P tab n D md ops Q L (aV o.dst cw e) O (bh n o.dst&& !F7 f)
section
variable {f:Fl} {o:Oper} {L:List (Fl×Oper)} {d:Option Tmp} {p:Op} {ty:TypeId} {ps:String} {af:Array Edge} {g:Option (Nat×Bool)} {b:Bool}
theorem acu:WL P tab n D md ops Q [] e O=Q .normal e O:=rfl
theorem Ym:WL P tab n D md ops Q ((f,.mk d p ty ps af g)::L) e O=W1 P tab n D md ops Q f (.mk d p ty ps af g) L e O (cj p||F7 f) (aK ops (.mk d p ty ps af g) e):=by
 rw[WL];generalize aK ops (.mk d p ty ps af g) e=x;unfold W1;cases x with
 | none=>rfl
 | some b=>
   cases b with
   | false=>
     simp only;unfold W3;split<;>simp only
     all_goals (split<;>rename_i h<;>simp_all)
   | true=>
     simp only;generalize (cj p||F7 f)=y;cases y with
     | true=>rfl
     | false=>
       simp only;unfold W2;cases ir tab f (.mk d p ty ps af g) e O with
       | none=>rfl
       | some r=>unfold W3;cases bh n d<;>rfl
theorem Yn:W1 P tab n D md ops Q f o L e O true (some true)=uJ P n D md ops Q f o L e O (WL P tab n D md ops Q L):=rfl
theorem agc:W1 P tab n D md ops Q f o L e O false (some true)=W2 P tab n D md ops Q f o L e O (ir tab f o e O):=rfl
theorem Yo:W1 P tab n D md ops Q f (.mk d p ty ps af g) L e O b (some false)=W3 P tab n D md ops Q L (aV d cw e) O (bh n d&& !F7 f):=by cases b<;>rfl
theorem Yp:W2 P tab n D md ops Q f (.mk d p ty ps af g) L e O (some (m,O'))=W3 P tab n D md ops Q L (aV d m e) O' (bh n d):=rfl
theorem Yq:W2 P tab n D md ops Q f o L e O none=VL P n D md ops ((f,o)::L) e O Q:=rfl
theorem Yr:W3 P tab n D md ops Q L e O true=WL P tab n D md ops Q L e O:=rfl
variable {K:Env->VH->Prop} {x:Operand} {as_:Array Operand} {ts:Array TypeId}
theorem Lm:uJ P n D md ops Q .one (.mk d (.call {callee:=.value x,args:=as_,argTypes:=ts}) ty ps af g) L e O K=ah P n md Q d O K e (ev e x) (fE e as_.toList):=rfl
theorem F8:uJ P n D md ops Q f (.mk d (.call {callee:=.builtin .append,args:=as_,argTypes:=ts}) ty ps af g) L e O K=VL P n D md ops ((f,.mk d (.call {callee:=.builtin .append,args:=as_,argTypes:=ts}) ty ps af g)::L) e O Q:=by cases f<;>rfl
end
section
variable {c a b:Code} {i id:Nat} {A B:Env->VH->VQ->Prop} {l:List Oper} {K:Env->VH->Prop} {R:fO->VH->Prop} {rs:List ResultVar} {r:ResultVar} {t:Nat} {m1 m2 m3:MV} {x:Operand} {y:Code}
theorem Ys:WC P tab n D .skip e O Q=Q .normal e O:=rfl
theorem Yt:WC P tab n D (.exit i) e O Q=Q (.exit i) e O:=rfl
theorem Ui:WC P tab n D (.label i) e O Q=Q .normal e O:=rfl
theorem acv:WC P tab n D .ret e O Q=Q .ret e O:=rfl
theorem Uj:WC P tab n D (.scope c) e O Q=WC P tab n D c e O (sj Q):=rfl
theorem Uk:WC P tab n D (.block id c) e O Q=WC P tab n D c e O (iq id Q):=rfl
def Yu (P:Program) (tab:bV) (n:Sz) (D:List Deferred) (b:Code) (Q:VQ):Env->VH->Prop:=fun e O=>WC P tab n D b e O Q
theorem Ul:Yu P tab n D b Q e O=WC P tab n D b e O Q:=rfl
theorem acw:WC P tab n D (.seq a b) e O Q=WC P tab n D a e O (qp (Yu P tab n D b Q) Q):=rfl
theorem Yv:WC P tab n D (.cond x a b) e O Q=D6 P n tab D (WC P tab n D a) (WC P tab n D b) e O Q (ev e x):=rfl
theorem PG:WC P tab n D (.region id ⟨l⟩ false) e O Q=WL P tab n D .plain ⟨l⟩ Q (l.map (Fl.one, ·)) e O:=rfl
theorem Um:WC P tab n D (.region id ops true) e O Q=VC P n D (.region id ops true) e O Q:=rfl
theorem Yw:WC P tab n D (.loop c) e O Q=VC P n D (.loop c) e O Q:=rfl
theorem IM:qp K Q .normal e O=K e O:=rfl
theorem PH:qp K Q (.exit i) e O=Q (.exit i) e O:=rfl
theorem PI:qp K Q (.goto i) e O=Q (.goto i) e O:=rfl
theorem Un:qp K Q .ret e O=Q .ret e O:=rfl
theorem B5:qp K Q (.panic m) e O=Q (.panic m) e O:=rfl
theorem Yx:D6 P n tab D A B e O Q (some (.v (.bool true)))=A e O Q:=rfl
theorem Yy:D6 P n tab D A B e O Q (some (.v (.bool false)))=B e O Q:=rfl
theorem Uo:iw tab e O []=some []:=rfl
theorem PJ:iw tab e O (r::rs)=(jM tab e O r).bind fun m=>(iw tab e O rs).map (m:: ·):=rfl
theorem IN:jM tab e O (.tmp t)=look e t:=rfl
theorem F9 {ty:TypeId}:jM tab e O (.cell t ty)=(look e t).bind (eM tab O ty):=rfl
theorem acx:iO R O (some [])=R (.ret (.tuple [])) O:=rfl
theorem acy:iO R O (some [m])=R (.ret m) O:=rfl
theorem acz:iO R O (some [m,m1])=R (.ret (.tuple [m,m1])) O:=rfl
theorem acA:iO R O (some [m,m1,m2])=R (.ret (.tuple [m,m1,m2])) O:=rfl
theorem acB:iO R O (some [m,m1,m2,m3])=R (.ret (.tuple [m,m1,m2,m3])) O:=rfl
theorem IP:B4 tab rs R .normal e O=iO R O (iw tab e O rs):=rfl
theorem Up:B4 tab rs R .ret e O=iO R O (iw tab e O rs):=rfl
theorem Ln:B4 tab rs R (.panic m) e O=R (.panic m) O:=rfl
def c9 (P:Program) (f:FuncId):Bool:=match P.funcs[f]? with
 | some fn=> !(fn.name== "runtime.NumGoroutine")&&fn.body.isSome
 | none=>false
theorem Enters.sr {f:FuncId} (h:c9 P f=true):Enters P f:=by
 unfold c9 at h;split at h
 ·rename_i fn hf;simp only[Bool.and_eq_true,Bool.not_eq_true']at h;exact Enters.of hf h.1 (by cases hb:fn.body with | none=>rw[hb]at h;exact absurd h.2 (by decide) | some c=>rfl)
 ·cases h
theorem ah.rt {f:FuncId} {fs cs ms as_:List MV} {d:Option Tmp} {Φ :MV->VH->Prop} (hR:VF P f as_ O (aH Φ)) (h:∀m O', Φ m O'->K (aV d m e) O') (hb:c9 P f=true:=by kernel_rfl) (ha:fs++ms++cs=as_:=by exact rfl) (hd:bh n d=true:=by exact rfl):
  ah P n md Q d O K e (some (.func (.func f) fs cs)) (some ms):=by
 subst ha
 exact .inl ⟨f,fs,cs,ms,_,rfl,rfl,Enters.sr hb,hd,hR,fun r O' hr=>by
  cases r with
  | ret m=>exact h m O' hr
  | panic m=>exact hr.elim⟩
theorem ah.p {f:FuncId} {fs cs ms as_:List MV} {d:Option Tmp} {R:fO->VH->Prop} (hR:VF P f as_ O R) (h:∀m O',R (.ret m) O'->K (aV d m e) O') (h2:∀m O',R (.panic m) O'->Q (.panic m) (ky n e) O') (hb:c9 P f=true:=by kernel_rfl) (ha:fs++ms++cs=as_:=by exact rfl) (hd:bh n d=true:=by exact rfl):
  ah P n md Q d O K e (some (.func (.func f) fs cs)) (some ms):=by
 subst ha
 exact .inl ⟨f,fs,cs,ms,R,rfl,rfl,Enters.sr hb,hd,hR,fun r O' hr=>by
  cases r with
  | ret m=>exact h m O' hr
  | panic m=>exact h2 m O' hr⟩
theorem ah.ext {f:FuncId} {ms:List MV} {d:Option Tmp} {M:MV->VH->Prop} (hx:en P f ms O M) (hd:bh n d=true) (h:∀m O',M m O'->K (aV d m e) O'):ah P n .plain Q d O K e (some (.func (.func f) [] [])) (some ms):=
 .inr ⟨f,ms,M,rfl,rfl,rfl,hd,hx,h⟩
theorem en.of {f:FuncId} {fn:Func} {ex:Array Value->Sem Value} {ms:List MV} (hf:P.funcs[f]?=some fn) (agd:(fn.name== "runtime.NumGoroutine")=false) (hb:fn.body.isNone=true) (hn:Extern.findNext fn=none) (he:Extern.find fn=some ex)
  (hr:∀G w vs,WR G O w->aO G ms vs->∃u,(ex vs.toArray).run P w= .ok u w/\VR G m u):en P f ms O fun m' O'=>m'=m/\O'=O:=by
 intro G w vs hw hv;obtain⟨u,h1,h2⟩:=hr G w vs hw hv;exact⟨m,O,u,w,G,⟨rfl,rfl⟩,by rw[run_callFunc_extern hf agd hb hn he,h1];rfl,Gh.Le.refl G,hw,h2⟩
theorem WC.reads {id:Nat} {l:List Oper}
  (h:WL P tab n D .reads ⟨l⟩ Q (l.map (Fl.rd, ·)) e O) (ht:aM P tab:=by exact aa) (hm:P.follows .mixedOrders=true:=by kernel_rfl) (hs:Region.noSelect ⟨l⟩=true:=by kernel_rfl) (hp:cz .reads ⟨l⟩ l.length (Array.replicate l.length false) ((List.range' 0 l.length).map (·,Fl.rd))=true:=by kernel_rfl):VC P n D (.region id ⟨l⟩ true) e O Q:=VC.Sm hm hs hp (WL.sound ht h)
theorem WC.bH (md:Md) (ix:List (Nat×Fl)) {id:Nat} {l:List Oper} {L:List (Fl×Oper)}
  (h:WL P tab n D md ⟨l⟩ Q L e O) (ht:aM P tab:=by exact aa) (hne:md≠ .plain:=by simp) (hm:P.follows .mixedOrders=true:=by kernel_rfl) (hs:Region.noSelect ⟨l⟩=true:=by kernel_rfl) (hp:cz md ⟨l⟩ l.length (Array.replicate l.length false) ix=true:=by kernel_rfl) (hL:nA l ix=some L:=by exact rfl):VC P n D (.region id ⟨l⟩ true) e O Q:=VC.Sh md ix hne hm hs hp hL (WL.sound ht h)
variable {σ :Type} {ls Ks:List Nat} {ks:List MV} {ms: σ ->List MV} {I: σ ->VH->Prop} {μ : σ ->Nat} {s: σ}
theorem WC.iG (ls Ks:List Nat) (ms: σ ->List MV) (I: σ ->VH->Prop) (μ : σ ->Nat) (s0: σ) (hI:I s0 O)
  (step:∀s O,I s O->WC P tab n D c (iY ls (ms s) (iY Ks ks [])) O (ay ls Ks ks ms I μ s Q)) (ht:aM P tab:=by exact aa) (h0:looks e ls=some (ms s0):=by exact rfl) (hk:looks e Ks=some ks:=by exact rfl):VC P n D (.loop c) e O Q:=
 VC.iG ls Ks ms I μ s0 h0 hk hI fun s O h=>WC.sound ht (step s O h)
end
theorem VL.app {d:Option Tmp} {x y:Operand} {t ty:TypeId} {ps:String} {af:Array Edge} {g:Option (Nat×Bool)} {L:List (Fl×Oper)} {p q:MV} (hv:ij tab O t p q=some (m,O')) (h:WL P tab n D md ops Q L (aV d m e) O') (ht:aM P tab:=by exact aa) (hx:ev e x=some p:=by exact rfl) (hy:ev e y=some q:=by exact rfl) (hg:aK ops (.mk d (.call {callee:=.builtin .append,args:= #[x,y],argTypes:= #[t,t]}) ty ps af g) e=some true:=by exact rfl) (hd:bh n d=true:=by exact rfl):
  VL P n D md ops ((.one,.mk d (.call {callee:=.builtin .append,args:= #[x,y],argTypes:= #[t,t]}) ty ps af g)::L) e O Q:=
 VL.step ht hg (by rw[v7,cN,hx,hy];exact hv) hd (WL.sound ht h)
end
section
variable {G H:Gh} {n:Sz} {D:List Deferred} {e:Env} {a:Act} {P:Program} {tab:bV} {O O':VH} {w:World} {m m':MV} {u v:Value} {ops:Array Oper} {Q:VQ} {md:Md}
def fQ (P:Program) (n:Sz) (D:List Deferred) (o:Oper) (e:Env) (O:VH) (M:MV->VH->Prop):Prop:=
 ∀G a w,WR G O w->FR G n D e a->∃m O' u w' H,M m O'/\(execOp a.eval o).run P w= .ok (.value u) w'/\Gh.Le G H/\WR H O' w'/\VR H m u
theorem aI.h_ {i:Nat} {o:Oper} {M:MV->VH->Prop} {K:Env->VH->Prop} (ho:ops[i]?=some o) (hg:aK ops o e=some true) (hd:bh n o.dst=true) (hy:fQ P n D o e O M) (h:∀m O',M m O'->K (aV o.dst m e) O'):aI P n D ops i e O Q K:=by
 intro G a w hw aS;obtain⟨m,O',u,w',H,hM,hr,h1,h2,h3⟩:=hy G a w hw aS;simp only[wpOp,ho,bd aS hg,if_true];refine .inl ?_;unfold Oper.wp;rw[hr];exact⟨_,_,H,h1,h2,(aS.mono h1).aV hd h3,h _ _ hM⟩
theorem VL.h_ {o:Oper} {L:List (Fl×Oper)} {M:MV->VH->Prop} (hg:aK ops o e=some true) (hd:bh n o.dst=true) (hA:F1 o.op=true->∀brk,md= .held brk->brk≠[]) (hb:∀brk,md= .held brk->F1 o.op=false\/brk≠[]) (hy:fQ P n D o e O M)
  (pc:∀brk,md= .held brk->∀i,ops[i]?=some o->brk.contains i=true) (h:∀m O',M m O'->VL P n D md ops L (aV o.dst m e) O' Q):VL P n D md ops ((.one,o)::L) e O Q:=by
 intro fuel listed ix hf hp
 match ix,hf with
 | (i,g)::ix,hf=>
   obtain⟨rfl,ho,hf⟩:=hf;cases md with
   | plain=>exact il.one (aI.h_ ho hg hd hy fun m O' hM=>h m O' hM 0 #[] ix hf (fun h=>absurd rfl h))
   | any=>
     obtain⟨h1,h2⟩:=hp (by simp);cases fuel with
     | zero=>cases h2
     | succ fuel=>
       simp only[cz,Bool.and_eq_true]at h2;have hr:Region.ready .any ops listed=[i]:=by simpa using h2.1
       exact bY.all hr (by simp) fun j hj=>by
        obtain rfl:j=i:=by simpa using hj
        exact aI.h_ ho hg hd hy fun m O' hM=>h m O' hM fuel (listed.setIfInBounds j true) ix hf (fun _=>⟨h1,h2.2⟩)
   | reads=>
     obtain⟨h1,h2⟩:=hp (by simp);cases fuel with
     | zero=>cases h2
     | succ fuel=>
       simp only[cz,Bool.and_eq_true]at h2;exact absurd h2.1 (by simp)
   | held brk=>
     obtain⟨h1,h2⟩:=hp (by simp);cases fuel with
     | zero=>cases h2
     | succ fuel=>
       simp only[cz,Bool.and_eq_true]at h2;have hr:Region.ready .any ops listed=[i]:=by simpa using h2.1.1
       have tQ:∀j,(listed.setIfInBounds i true).getD j true=false\/j=i->brk.contains j=true:=by
        rcases rC ho h2.1.2 with⟨h3,_⟩ | h3
        ·rw[pc brk rfl i ho]at h3;cases h3
        ·exact h3
       exact bD.X8 hr tQ (aI.h_ ho hg hd hy fun m O' hM=>h m O' hM fuel (listed.setIfInBounds i true) ix hf (fun _=>⟨h1,h2.2⟩))
theorem VL.pf {o:Oper} {L:List (Fl×Oper)} {M:MV->VH->Prop} (hy:fQ P n D o e O M) (h:∀m O',M m O'->VL P n D md ops L (aV o.dst m e) O' Q) (hmd:md= .plain\/md= .any:=by exact .inl rfl) (hg:aK ops o e=some true:=by exact rfl) (hd:bh n o.dst=true:=by exact rfl):VL P n D md ops ((.one,o)::L) e O Q:=by
 rcases hmd with rfl | rfl
 ·exact VL.h_ hg hd (fun _ _ h=>by cases h) (fun _ h=>by cases h) hy (fun _ h=>by cases h) h
 ·exact VL.h_ hg hd (fun _ _ h=>by cases h) (fun _ h=>by cases h) hy (fun _ h=>by cases h) h
def zA (O:VH) (sz:Nat):MV->Option (Nat×List MV)
 | .sl k ds _=>if ds.length=k*sz then some (k,ds)else none
 | .bm k o n _=>match O.hp k with
   | some (.cells cs)=>if o+n*sz<=cs.length then some (n,(cs.drop o).take (n*sz))else none
   | _=>none
 | .str l=>if sz=1 then some (l.length,l.map fB)else none
 | _=>none
def zB:MV->TypeDesc->Prop
 | .str _,.string=>True
 | .str _,_=>False
 | _,.slice _=>True
 | _,_=>False
theorem strCells_eq (l:List UInt8):byteCells (⟨⟨l⟩⟩:ByteArray)=l.map fun b=>Value.int .u8 b.toNat:=by simp[byteCells]
theorem zC (h:WR G O w) {sz k:Nat} {ds:List MV} {tx:TypeId} {d:TypeDesc} (hs:zA O sz m=some (k,ds)) (hx:VR G m u) (ht:P.underlying tx=some d) (hd:zB m d) (hY:ds.all dE=true):∃us,Src P sz tx u k us w/\aO G ds us:=by
 unfold zA at hs;split at hs
 ·split at hs
  ·rename_i k' kB tk hl;injection hs with hs;injection hs with e1 e2;subst e1;subst e2
   have hk:∃e',P.underlying tx=some (.slice e'):=by
    cases d<;>simp only[zB]at hd
    exact⟨_,ht⟩
   obtain⟨e',hk⟩:=hk
   have nil:∀A c,k'=0->kB=[]->VR G (.sl k' kB tk) (.slice A 0 c)->∃us,Src P sz tx (.slice A 0 c) k' us w/\aO G kB us:=fun A c e1 e2 _=>by
    subst e1;subst e2
    refine⟨[],?_,aO.nil⟩;cases A with
    | none=>exact Src.ofNil w hk c
    | some A=>exact Src.ofSlice w hk A 0 c [] (by simp) (fun j u hu=>by simp at hu) (fun u hu=>by cases hu)
   cases hx with
   | slnil=>exact nil _ _ rfl rfl .slnil
   | n9 h1=>exact nil _ _ rfl rfl (.n9 h1)
   | j7=>exact nil _ _ rfl rfl .j7
   | sl h1 h2 h3 h4 h5 h6=>
     rename_i us c b o;have hv:aO G kB us:=⟨h1,h3⟩;exact⟨us,Src.ofSlice w hk _ k' c us (by rw[h1,hl]) (fun j u hu=>by rw[Addr.add_lit];exact h.d_ _ _ _ (h2 j u hu)) (xD hv hY),hv⟩
  ·cases hs
 ·rename_i k' o n' c';split at hs
  ·rename_i cs Dx;split at hs
   ·rename_i hle;injection hs with hs;injection hs with e1 e2;subst e1;subst e2
    have hk:∃e',P.underlying tx=some (.slice e'):=by
     cases d<;>simp only[zB]at hd
     exact⟨_,ht⟩
    obtain⟨e',hk⟩:=hk;cases hx with
    | bm hp hn hm=>
      rename_i b;obtain⟨b',C,T,h1,h2,h3⟩:=h.cells k' cs Dx;rw[hp]at h1;injection h1 with h1;subst h1
      have hv:=(h3.drop o).take (n'*sz);refine⟨_,Src.ofSlice w hk ⟨b,o,none⟩ n' c' _ ?_ (fun j u hu=>?_) (xD hv hY),hv⟩
      ·rw[hv.1];simp;omega
      ·rw[Addr.add_lit];rw[List.getElem?_take]at hu;split at hu
       ·rw[List.getElem?_drop,List.getElem?_take]at hu;split at hu
        ·simp only[World.cell?,h2,Option.isSome_none,Bool.false_eq_true,if_false];simpa using hu
        ·cases hu
       ·cases hu
   ·cases hs
  ·cases hs
 ·rename_i l;split at hs
  ·rename_i oc;subst oc;injection hs with hs;injection hs with e1 e2;subst e1;subst e2
   have hk:P.underlying tx=some .string:=by
    cases d<;>simp only[zB]at hd
    exact ht
   cases hx;refine⟨_,Src.ofString w hk ⟨⟨l⟩⟩,?_⟩;rw[strCells_eq];exact D4 l
  ·cases hs
 ·cases hs
theorem Yz {α :Type} {s:Sem α} {x y: α} {w1 w2:World} (h1:s.run P w= .ok x w1) (h2:s.run P w= .ok y w2):w1=w2:=by
 rw[h1]at h2;injection h2
theorem PK (h:WR G O w) {k b i:Nat} {cs:List MV} (hk:O.hp k=some (.cells cs)) (hp:G.bJ k=some b) (hi:i<cs.length):(w.cell? ⟨b,i,none⟩).isSome=true/\w.frozen? ⟨b,i,none⟩=false:=by
 obtain⟨b',C,T,e1,e2,e3⟩:=h.cells k cs hk;rw[hp]at e1;injection e1 with e1;subst e1
 have hlen:i<C.size:=by have:=e3.1;simp at this;omega
 constructor
 ·simp only[World.cell?,e2,Option.isSome_none,Bool.false_eq_true,if_false,Array.getElem?_eq_getElem hlen,Option.isSome_some]
 ·obtain⟨t',⟨lo,hi⟩,cu⟩:=T;dsimp only at e2 cu;simp only[World.frozen?,e2,Bool.and_eq_false_imp,decide_eq_true_eq,decide_eq_false_iff_not];intro;omega
theorem Lo (ht:aM P tab) (h:WR G O w) {t tx ty el:TypeId} {te:cn} {d:TypeDesc} {k o n' c j:Nat} {cs ds:List MV} (hu:(tab t).map cn.under=some (.slice el)) (he:tab el=some te) (uK:P.underlying tx=some d) (hk:O.hp k=some (.cells cs)) (hs:zA O te.size m=some (j,ds)) (hd:zB m d) (hY:ds.all dE=true)
  (oh:n'+j<=c) (hle:o+n'*te.size+ds.length<=cs.length) (hx:VR G (.bm k o n' c) u) (hy:VR G m v):
  ∃w' A,(Builtin.append_ #[t,tx] ty #[u,v]).run P w= .ok (.slice A (n'+j) c) w'/\WR G (O.set k (.cells (dW cs (o+n'*te.size) ds))) w'/\VR G (.bm k o (n'+j) c) (.slice A (n'+j) c):=by
 obtain⟨ti,z,i1,i2,i3,i4,i5,i6⟩:=(ht _ te he).info;obtain⟨us,oG,hv⟩:=zC (P:=P) h hs hy uK hd hY;cases hx with
 | bm hp hn hm=>
   rename_i b;have gI:=fun(q:Nat) (hq:q<us.length)=>PK h (i:=o+n'*te.size+q) hk hp (by have:=hv.1;omega)
   rw[<-i2]at oG gI;have hr:=run_append_room_src (P:=P) w t tx ty el ti (bA ht hu) i1 b o n' c v j us oG oh (fun q hq=>(gI q hq).1) (fun q hq=>(gI q hq).2);obtain⟨w2,fy,oP⟩:=xF (P:=P) hp (o+n'*te.size) ds us 0 cs O w h hk hv hY (by omega);have gO:=run_storeCells_cells (P:=P) b (o+n'*ti.size) us 0 w (by simpa using fun q hq=>(gI q hq).1) (by simpa using fun q hq=>(gI q hq).2) oG.one;rw[i2]at gO;have:=Yz fy gO;subst this;rw[i2]at hr;exact⟨_,_,hr,by simpa using oP,.bm hp oh hm⟩
def VH.xO (O:VH) (cs:List MV) (t:TypeId) (n:Nat):VH:=(O.push (.cells cs)).push (.shape O.next t n)
theorem zD (ht:aM P tab) (h:WR G O w) {t tx ty el:TypeId} {te:cn} {d:TypeDesc} {n' c j:Nat} {A:Option Addr} {L ds:List MV} {us:List Value} (hu:(tab t).map cn.under=some (.slice el)) (he:tab el=some te) (uK:P.underlying tx=some d) (hs:zA O te.size m=some (j,ds)) (hd:zB m d) (hY:ds.all dE=true)
  (hL:aO G L us) (om:L.length=n'*te.size) (hold:(Builtin.firstCells te.size n' (.slice A n' c)).run P w.drew= .ok us.toArray w.drew) (oh:c<n'+j) (hb:(n'+j)*te.bytes<=140737488355328) (hm:n'+j<=maxLen) (hy:VR G m v):
  ∃c' w' H zs,n'+j<=c'/\c'<=maxLen/\zs.length=(c' - (n'+j))*te.size/\(Builtin.append_ #[t,tx] ty #[.slice A n' c,v]).run P w= .ok (.slice (some ⟨w.heap.size,0,none⟩) (n'+j) c') w'/\Gh.Le G H/\WR H (O.xO (L++ds++zs) el (c'*te.size)) w'/\VR H (.bm O.next 0 (n'+j) c') (.slice (some ⟨w.heap.size,0,none⟩) (n'+j) c'):=by
 obtain⟨ti,z,i1,i2,i3,i4,i5,i6⟩:=(ht _ te he).info;obtain⟨vs,oG,hv⟩:=zC (P:=P) h hs hy uK hd hY;have ik:=grownCap_ge w (n'+j) c el;have hle:=grownCap_le_maxLen w (n'+j) c el hm;have YA:=oG;rw[<-i2]at YA hold;have hr:=run_append_grow_src (P:=P) w t tx ty el ti z (bA ht hu) i1 i4 A n' c us hold v j vs YA oh (by simp only[maxLen]at hm;omega) (by rw[i3];exact growslice_fits (by omega) hb)
 have hzc:aO G (ig te.zero ((grownCap w (n'+j) c el - (n'+j))*te.size)) (Builtin.zeroCells z.cells (grownCap w (n'+j) c el - (n'+j))).toList:=by
  rcases Nat.eq_zero_or_pos te.zero.length with hz | hz
  ·have hz0:te.size=0:=by have:=(i6 G).1;rw[Array.length_toList,i5]at this;omega
   have:z.cells.size=0:=by rw[i5,hz0]
   rw[hz0,Nat.mul_zero];refine⟨by simp[ig,Builtin.zeroCells,this],fun i c u hc=>by simp[ig]at hc⟩
  ·have hzz:=xG (i6 G) hz ((grownCap w (n'+j) c el - (n'+j))*te.size);rw[<-i5]at hzz ⊢;exact hzz
 have j8:=(hL.append hv).append hzc;obtain⟨g1,g2⟩:=h.drew.push (cs:=L++ds++ig te.zero ((grownCap w (n'+j) c el - (n'+j))*te.size)) (C:=(us++vs).toArray++Builtin.zeroCells z.cells (grownCap w (n'+j) c el - (n'+j))) el (by simpa using j8);have jy:(us++vs).length=(n'+j)*te.size:=by rw[List.length_append,hL.1,om,oG.newsLen,Nat.add_mul]
 have oc:((us++vs).toArray++Builtin.zeroCells z.cells (grownCap w (n'+j) c el - (n'+j))).size=grownCap w (n'+j) c el*te.size:=by
  rw[Array.size_append,KE,i5,List.size_toArray,jy, <-Nat.add_mul]
  congr 1;omega
 refine⟨grownCap w (n'+j) c el,_,_,ig te.zero ((grownCap w (n'+j) c el - (n'+j))*te.size),ik,hle,by simp[ig],hr,g1,g2.DB (aE _ _ _) ?_,.bm (aE _ _ _) ik hle⟩
 have:(w.drew.alloc (.cells ((us++vs).toArray++Builtin.zeroCells z.cells (grownCap w (n'+j) c el - (n'+j))) el)).heap[w.drew.heap.size]?=some (.cells ((us++vs).toArray++Builtin.zeroCells z.cells (grownCap w (n'+j) c el - (n'+j))) el):=by
  rw[eU,if_pos rfl]
 show World.shape? _ w.drew.heap.size=_;simp only[World.shape?,this,oc]
structure Row (O:VH) (el:TypeId) (sz B k c:Nat) (L:List MV):Prop where
 cells:∃sp,O.hp k=some (.cells (L++sp))/\(L++sp).length=c*sz
 nP:∃j,B<=j/\j<O.next/\O.hp j=some (.shape k el (c*sz))
 lo:B<=k
 hi:k<O.next
structure bl (O:VH) (q:Option Nat) (O':VH):Prop where
 next:O.next<=O'.next
 hp:∀i,i<O.next->q≠some i->O'.hp i=O.hp i
def gid:MV->Option Nat
 | .bm k _ _ _=>some k
 | .ptr k _=>some k
 | _=>none
def GR (O:VH) (el:TypeId) (sz B:Nat) (p:MV) (n:Nat) (L:List MV):Prop:=
 (n=0/\L=[]/\(p= .sl 0 [] .nil\/p= .sl 0 [] .full))\/∃k c,p= .bm k 0 n c/\n<=c/\L.length=n*sz/\Row O el sz B k c L
section
variable {el:TypeId} {sz B B' k c q:Nat} {L:List MV} {O1:VH} {x:bW}
theorem bl.refl (O:VH) (q:Option Nat):bl O q O:=⟨Nat.le_refl _,fun _ _ _=>rfl⟩
theorem bl.ge (h:O.Ge O1) (u:bl O1 (some q) O') (hq:O.next<=q):O.Ge O':=⟨Nat.le_trans h.next u.next,fun i hi=>(u.hp i (Nat.lt_of_lt_of_le hi h.next) (by intro e;injection e;omega)).trans (h.hp i hi)⟩
theorem bl.geN (h:O.Ge O1) (u:bl O1 none O'):O.Ge O':=⟨Nat.le_trans h.next u.next,fun i hi=>(u.hp i (Nat.lt_of_lt_of_le hi h.next) (by simp)).trans (h.hp i hi)⟩
theorem bl.lF (h:O.Ge O'):bl O none O':=⟨h.next,fun i hi _=>h.hp i hi⟩
theorem bl.trans {o:Option Nat} (h:bl O o O1) (h2:bl O1 o O'):bl O o O':=⟨Nat.le_trans h.next h2.next,fun i hi hq=>(h2.hp i (Nat.lt_of_lt_of_le hi h.next) hq).trans (h.hp i hi hq)⟩
theorem bl.any {o:Option Nat} (h:bl O none O'):bl O o O':=⟨h.next,fun i hi _=>h.hp i hi (by simp)⟩
theorem bl.set:bl O (some q) (O.set q x):=⟨Nat.le_refl _,fun i _ h=>VH.ak _ _ (fun e=>h (by rw[e]))⟩
theorem bl.push:bl O none (O.push x):=⟨Nat.le_succ _,fun i hi _=>VH.bp _ _ hi⟩
theorem bl.kill:bl O (some q) (O.kill q):=⟨Nat.le_refl _,fun i _ h=>VH.kA _ (fun e=>h (by rw[e]))⟩
theorem Row.ph (h:Row O el sz B k c L) (u:bl O (some q) O') (hq:q≠k) (hs:∀t n,O.hp q≠some (.shape k t n)):Row O' el sz B k c L:=by
 obtain⟨sp,h1,h2⟩:=h.cells;obtain⟨j,h3,h4,h5⟩:=h.nP;refine⟨⟨sp,(u.hp k h.hi (by simpa using hq)).trans h1,h2⟩,⟨j,h3,Nat.lt_of_lt_of_le h4 u.next,(u.hp j h4 ?_).trans h5⟩,h.lo,Nat.lt_of_lt_of_le h.hi u.next⟩;intro e;injection e with e;subst e;exact hs _ _ h5
theorem Row.xP (h:Row O el sz B k c L) (u:bl O none O'):Row O' el sz B k c L:=by
 obtain⟨sp,h1,h2⟩:=h.cells;obtain⟨j,h3,h4,h5⟩:=h.nP;exact⟨⟨sp,(u.hp k h.hi (by simp)).trans h1,h2⟩,⟨j,h3,Nat.lt_of_lt_of_le h4 u.next,(u.hp j h4 (by simp)).trans h5⟩,h.lo,Nat.lt_of_lt_of_le h.hi u.next⟩
theorem GR.xP {p:MV} {n:Nat} (h:GR O el sz B p n L) (u:bl O none O'):GR O' el sz B p n L:=by
 rcases h with h | ⟨k,c,h1,h2,h3,h4⟩
 ·exact .inl h
 ·exact .inr ⟨k,c,h1,h2,h3,h4.xP u⟩
theorem GR.ph {p:MV} {n:Nat} (h:GR O el sz B p n L) (u:bl O (some q) O') (hq:gid p≠some q) (hs:∀k t n,O.hp q≠some (.shape k t n)):GR O' el sz B p n L:=by
 rcases h with h | ⟨k,c,h1,h2,h3,h4⟩
 ·exact .inl h
 ·exact .inr ⟨k,c,h1,h2,h3,h4.ph u (fun e=>hq (by rw[h1,e];rfl)) (hs k)⟩
theorem Row.aeF {L':List MV} (h:Row O el sz B k c L) {sp:List MV} (hl:(L'++sp).length=c*sz):Row (O.set k (.cells (L'++sp))) el sz B k c L':=by
 obtain⟨j,h3,h4,h5⟩:=h.nP;refine⟨⟨sp,VH.an _ _ _,hl⟩,⟨j,h3,h4,?_⟩,h.lo,h.hi⟩;rw[VH.ak _ _ (fun e=>?_)]
 ·exact h5
 ·subst e;obtain⟨sp,h1,_⟩:=h.cells;rw[h1]at h5;cases h5
theorem Row.wider (h:Row O el sz B k c L) (hB:B'<=B):Row O el sz B' k c L:=by
 obtain⟨j,h3,h4,h5⟩:=h.nP;exact⟨h.cells,⟨j,Nat.le_trans hB h3,h4,h5⟩,Nat.le_trans hB h.lo,h.hi⟩
theorem Row.xO {cs:List MV} {t:TypeId} {sp:List MV} (hl:(L++sp).length=c*sz) (hB:B<=O.next):Row (O.xO (L++sp) el (c*sz)) el sz B O.next c L:=
 ⟨⟨sp,(VH.bp _ _ (by show O.next<O.next+1;omega)).trans (VH.aX _ _),hl⟩,⟨O.next+1,by omega,by show O.next+1<O.next+1+1;omega,VH.aX _ _⟩,hB,by show O.next<O.next+1+1;omega⟩
theorem zE (L ds sp:List MV):dW (L++sp) L.length ds=L++ds.take sp.length++sp.drop ds.length:=by
 induction ds generalizing L sp with
 | nil=>simp[dW]
 | cons d ds ih=>
   cases sp with
   | nil=>
     simp only[List.append_nil,List.length_nil,List.take_zero,List.drop_nil,dW]
     have:∀(ds:List MV) (o:Nat),L.length<=o->dW L o ds=L:=by
      intro ds;induction ds with
      | nil=>intro o _;rfl
      | cons x xs ih=>intro o ho;rw[dW,List.set_eq_of_length_le ho];exact ih (o+1) (by omega)
     rw[List.set_eq_of_length_le (Nat.le_refl _)];exact this ds _ (by omega)
   | cons s sp=>
     have:=ih (L++[d]) sp;simp only[dW];rw[List.set_append_right _ _ (Nat.le_refl _),Nat.sub_self,List.set_cons_zero];simp only[List.append_assoc,List.singleton_append,List.length_append,List.length_cons,List.length_nil]at this;rw[this];simp
end
theorem VL.grow (ht:aM P tab) {el:TypeId} {te:cn} {B n' j:Nat} {L ds:List MV} {p q:MV} {dx:TypeDesc} {d:Option Tmp} {x y:Operand} {t tx ty:TypeId} {ps:String} {af:Array Edge} {g:Option (Nat×Bool)} {LL:List (Fl×Oper)} (hmd:md= .plain\/md= .any)
  (hr:GR O el te.size B p n' L) (hs:zA O te.size q=some (j,ds)) (hY:ds.all dE=true) (hu:(tab t).map cn.under=some (.slice el)) (he:tab el=some te) (uK:(tab tx).map cn.under=some dx) (D7:zB q dx) (hb:(n'+j)*te.bytes<=140737488355328) (hm:n'+j<=maxLen) (hB:B<=O.next)
  (hx:ev e x=some p) (hy:ev e y=some q) (hg:aK ops (.mk d (.call {callee:=.builtin .append,args:= #[x,y],argTypes:= #[t,tx]}) ty ps af g) e=some true) (hd:bh n d=true)
  (h:∀m O',GR O' el te.size B m (n'+j) (L++ds)->bl O (gid p) O'->(gid p=none->O.Ge O')->((∃k c,m= .bm k 0 (n'+j) c/\(gid p=some k\/(O.next<=k/\j≠0)))\/(j=0/\m=p/\O'=O))->WL P tab n D md ops Q LL (aV d m e) O'):
  VL P n D md ops ((.one,.mk d (.call {callee:=.builtin .append,args:= #[x,y],argTypes:= #[t,tx]}) ty ps af g)::LL) e O Q:=by
 refine VL.pf (M:=fun m O'=>GR O' el te.size B m (n'+j) (L++ds)/\bl O (gid p) O'/\(gid p=none->O.Ge O')/\((∃k c,m= .bm k 0 (n'+j) c/\(gid p=some k\/(O.next<=k/\j≠0)))\/(j=0/\m=p/\O'=O))) (fun G a w hw hf=>?_) (hmd:=hmd) (hg:=hg) (hd:=hd) fun m O' ⟨h1,h2,h3,h4⟩=>WL.sound ht (h m O' h1 h2 h3 h4)
 have mJ:=hf.ev hx;have wO:=hf.ev hy;have fc:=bA ht uK
 have fin:∀{m O' u w' H},(GR O' el te.size B m (n'+j) (L++ds)/\bl O (gid p) O'/\(gid p=none->O.Ge O')/\((∃k c,m= .bm k 0 (n'+j) c/\(gid p=some k\/(O.next<=k/\j≠0)))\/(j=0/\m=p/\O'=O)))->(Builtin.append_ #[t,tx] ty #[a.eval x,a.eval y]).run P w= .ok u w'->Gh.Le G H->WR H O' w'->VR H m u->
   ∃m O' u w' H,(GR O' el te.size B m (n'+j) (L++ds)/\bl O (gid p) O'/\(gid p=none->O.Ge O')/\((∃k c,m= .bm k 0 (n'+j) c/\(gid p=some k\/(O.next<=k/\j≠0)))\/(j=0/\m=p/\O'=O)))/\(execOp a.eval (.mk d (.call {callee:=.builtin .append,args:= #[x,y],argTypes:= #[t,tx]}) ty ps af g)).run P w= .ok (.value u) w'/\Gh.Le G H/\WR H O' w'/\VR H m u:=fun hM bU h1 h2 h3=>
  ⟨_,_,_,_,_,hM,by simp only[execOp,resolve,invoke,builtin,List.map_toArray,List.map_cons,List.map_nil,Sem.run_bind,Sem.run_pure,Result.andThen_ok]<;>simp[bU],h1,h2,h3⟩
 obtain⟨vs,oG,hv⟩:=zC (P:=P) hw hs wO fc D7 hY;have fP:ds.length=j*te.size:=by rw[<-hv.1];exact oG.newsLen
 rcases hr with⟨rfl,rfl,hp⟩ | ⟨k,c,rfl,zF,om,cH⟩
 ·have hA:∃A,a.eval x= .slice A 0 0/\(∀w',(Builtin.firstCells te.size 0 (.slice A 0 0)).run P w'= .ok #[] w'):=by
   generalize a.eval x=u at mJ
   have key:∀A:Option Addr,∀w',(Builtin.firstCells te.size 0 (.slice A 0 0)).run P w'= .ok #[] w':=fun A w'=>by
    cases A<;>simp[Builtin.firstCells,loadCells,loadCellsFrom]
   rcases hp with rfl | rfl
   ·cases mJ with
    | slnil=>exact⟨_,rfl,key _⟩
    | sl h1 h2 h3 h4 h5 h6=>exact h6.elim
   ·cases mJ with
    | sl h1 h2 h3 h4 h5 h6=>
      have h6:_=0:=h6;subst h6;exact⟨_,rfl,key _⟩
  obtain⟨A,hA,Lp⟩:=hA;have YB:gid p=none:=by rcases hp with rfl | rfl<;>rfl
  by_cases hj:j=0
  ·subst hj;have qO:ds=[]:=List.eq_nil_of_length_eq_zero (by simpa using fP);subst qO;refine fin (m:=p) (O':=O) (u:=a.eval x) (w':=w) (H:=G) ⟨.inl ⟨rfl,rfl,hp⟩,bl.refl _ _,fun _=>VH.Ge.refl _,.inr ⟨rfl,rfl,rfl⟩⟩ ?_ (Gh.Le.refl G) hw mJ;have iX:vs=[]:=by have:=hv.1;simpa using this
   subst iX;rw[hA];have eN:=bA ht hu;obtain⟨ti,z,i1,i2,_⟩:=(ht _ te he).info;rcases oG.kind with⟨e',hk⟩ | hk<;>cases A<;>simp[Builtin.append_,run_underlying eN,run_underlying hk,eV (ht _ te he),oG.len,oG.cells,storeCells]
  ·rw[hA]at fin;obtain⟨c',w',H,zs,g1,g2,g3,g4,g5,g6,g7⟩:=zD (P:=P) ht hw (n':=0) (c:=0) (A:=A) (L:=[]) (us:=[]) (ty:=ty) hu he fc hs D7 hY aO.nil (by simp) (Lp _) (by omega) hb hm wO;refine fin ⟨.inr ⟨O.next,c',rfl,g1,by rw[List.length_append,fP];simp,?_⟩,?_,fun _=>?_,.inl ⟨_,_,rfl,.inr ⟨Nat.le_refl _,hj⟩⟩⟩ g4 g5 g6 g7
   ·refine Row.xO (cs:=[]) (t:=el) ?_ hB;rw[List.length_append,g3,List.length_append,fP,List.length_nil,Nat.zero_add, <-Nat.add_mul]
    congr 1;omega
   ·rw[YB];exact bl.push.trans bl.push
   ·exact((VH.Ge.refl O).push _).push _
 ·obtain⟨sp,dP,gN⟩:=cH.cells;generalize oo:a.eval x=u at mJ;have YC:=mJ;cases YC with
  | bm hp hn hmx=>
    rename_i b;rw[oo]at fin;have hmul:(n'+j)*te.size=n'*te.size+j*te.size:=Nat.add_mul _ _ _;by_cases oh:n'+j<=c
    ·have hle:(n'+j)*te.size<=c*te.size:=Nat.mul_le_mul_right _ oh;obtain⟨w',A,g1,g2,g3⟩:=Lo (P:=P) (ty:=ty) ht hw hu he fc dP hs D7 hY oh (by rw[gN,fP];omega) mJ wO;rw[Nat.zero_add, <-om,zE]at g2
     have Ht:ds.length<=sp.length:=by
      rw[List.length_append]at gN;omega
     rw[List.take_of_length_le Ht]at g2;refine fin ⟨.inr ⟨k,c,rfl,oh,by rw[List.length_append,om,fP,hmul],cH.aeF ?_⟩,bl.set,(fun h=>by cases h),.inl ⟨_,_,rfl,.inl rfl⟩⟩ g1 (Gh.Le.refl G) g2 g3;rw[List.length_append,List.length_append,List.length_drop];rw[List.length_append]at gN;omega
    ·obtain⟨b',C,T,d1,d2,d3⟩:=hw.cells k _ dP;rw[hp]at d1;injection d1 with d1;subst d1
     have hL:=d3.take L.length;rw[List.take_left,List.take_take,Nat.min_eq_left (by rw[List.length_append];omega)]at hL
     have hold:(Builtin.firstCells te.size n' (.slice (some ⟨b,0,none⟩) n' c)).run P w.drew= .ok (C.toList.take L.length).toArray w.drew:=by
      refine run_firstCells_some (P:=P) w.drew te.size n' ⟨b,0,none⟩ n' c _ (by rw[hL.1,om]) fun i u hu=>?_
      rw[Addr.add_lit,Nat.zero_add];rw[List.getElem?_take]at hu;split at hu
      ·have jz:w.drew.heap[b]?=some (.cells C T.t T.fr):=d2;simp only[World.cell?,jz,Option.isSome_none,Bool.false_eq_true,if_false];simpa using hu
      ·cases hu
     obtain⟨c',w',H,zs,g1,g2,g3,g4,g5,g6,g7⟩:=zD (P:=P) (ty:=ty) ht hw (n':=n') (c:=c) (A:=some ⟨b,0,none⟩) (L:=L) hu he fc hs D7 hY hL om hold (by omega) hb hm wO;refine fin ⟨.inr ⟨O.next,c',rfl,g1,by rw[List.length_append,om,fP,hmul],?_⟩,(bl.push.trans bl.push).any,(fun h=>by cases h),.inl ⟨_,_,rfl,.inr ⟨Nat.le_refl _,by omega⟩⟩⟩ g4 g5 g6 g7;refine Row.xO (cs:=[]) (t:=el) ?_ hB;rw[List.length_append,g3,List.length_append,om,fP, <-hmul, <-Nat.add_mul]
     congr 1;omega
end
section
variable {G H:Gh} {n:Sz} {D:List Deferred} {e:Env} {a:Act} {P:Program} {tab:bV} {O O':VH} {w:World} {m m':MV} {u v:Value} {ops:Array Oper} {Q:VQ} {md:Md}
def fG (P:Program) (n:Sz) (D:List Deferred) (o:Oper) (e:Env) (m:MV):Prop:=∀G a,FR G n D e a->c6 P o a G m
theorem aI.pure {i:Nat} {o:Oper} {K:Env->VH->Prop} (ho:ops[i]?=some o) (hg:aK ops o e=some true) (hd:bh n o.dst=true) (hy:fG P n D o e m) (h:K (aV o.dst m e) O):aI P n D ops i e O Q K:=by
 refine aI.h_ (M:=fun m' O'=>m'=m/\O'=O) ho hg hd (fun G a w hw hf=>?_) (by rintro m' O' ⟨rfl,rfl⟩;exact h);obtain⟨u,hu,hr⟩:=hy G a hf;exact⟨m,O,u,w,G,⟨rfl,rfl⟩,hr w hw.ss,Gh.Le.refl G,hw,hu⟩
theorem VL.pure {f:Fl} {o:Oper} {L:List (Fl×Oper)} (qi:f≠ .fk) (hh:f= .one->gT md=true\/md= .any) (hg:aK ops o e=some true) (hd:bh n o.dst=true) (hy:fG P n D o e m) (h:VL P n D md ops L (aV o.dst m e) O Q):VL P n D md ops ((f,o)::L) e O Q:=by
 intro fuel listed ix hf hp
 match ix,hf with
 | (i,g)::ix,hf=>
   obtain⟨rfl,ho,hf⟩:=hf;cases md with
   | plain=>exact il.one (aI.pure ho hg hd hy (h 0 #[] ix hf (fun h=>absurd rfl h)))
   | any=>
     obtain⟨h1,h2⟩:=hp (by simp);cases fuel with
     | zero=>cases h2
     | succ fuel=>
       simp only[cz,Bool.and_eq_true]at h2;have hk:=h fuel (listed.setIfInBounds i true) ix hf (fun _=>⟨h1,h2.2⟩);cases g with
       | one=>
         have hr:Region.ready .any ops listed=[i]:=by simpa using h2.1
         exact bY.all hr (by simp) fun j hj=>by
          obtain rfl:j=i:=by simpa using hj
          exact aI.pure ho hg hd hy hk
       | aw=>
         simp only[Bool.and_eq_true]at h2;intro G a w hw aS;obtain⟨u,hu,hr⟩:=hy G a aS;exact wpAnyH_take ho h1 h2.1.1 h2.1.2 (gQ hd) (.inl ⟨bd aS hg,hr⟩) hw.ss (hk G _ w hw (aS.aV hd hu))
       | rd=>exact absurd h2.1 (by simp)
       | fk=>exact absurd rfl qi
   | reads=>
     obtain⟨h1,h2⟩:=hp (by simp);cases fuel with
     | zero=>cases h2
     | succ fuel=>
       simp only[cz,Bool.and_eq_true]at h2;have hk:=h fuel (listed.setIfInBounds i true) ix hf (fun _=>⟨h1,h2.2⟩);intro G a w hw aS;obtain⟨u,hu,bU⟩:=hy G a aS;have h3:Region.free .any ops listed i=true/\(Region.ready .any ops listed).contains i=true:=by cases g<;>simp_all
       exact wpAnyH_take ho h1 h3.1 h3.2 (gQ hd) (.inl ⟨bd aS hg,fun w' xy=>by rw[xy];exact bU w hw.ss⟩) rfl (hk G _ w hw (aS.aV hd hu))
   | held brk=>
     obtain⟨h1,h2⟩:=hp (by simp);cases fuel with
     | zero=>cases h2
     | succ fuel=>
       simp only[cz,Bool.and_eq_true]at h2;have hk:=h fuel (listed.setIfInBounds i true) ix hf (fun _=>⟨h1,h2.2⟩)
       have hyy:∀G a w,WR G O w->FR G n D e a->∃u,VR G m u/\YieldsIf P ops (Sx G w) o u a:=fun G a w hw aS=>by
        obtain⟨u,hu,bU⟩:=hy G a aS;exact⟨u,hu,.inl ⟨bd aS hg,fun x hx=>bU x hx.1⟩⟩
       cases g with
       | one=>rcases hh rfl with h3 | h3<;>cases h3
       | fk=>exact absurd rfl qi
       | aw=>
         simp only[Bool.and_eq_true]at h2;exact bD.take ho h1 h2.1.1.1 h2.1.1.2 h2.1.2 hd hyy hk
       | rd=>
         simp only[Bool.and_eq_true]at h2;exact bD.take ho h1 h2.1.1.1 h2.1.1.2 h2.1.2 hd hyy hk
def uL (P:Program) (tab:bV):Nat->TypeId->MV->MV->Option Bool
 | 0,_,_,_=>none
 | d+1,t,x,y=>match(tab t).map cn.under,x,y with
   | some .bool,.v (.bool a),.v (.bool b)=>some (a==b)
   | some (.int _),.v (.int k a),.v (.int k' b)=>if k=k' then some (a==b)else none
   | some .string,.str a,.str b=>some (a==b)
   | some (.struct fs),.agg xs,.agg ys=>if P.stoodInHeld t then none else fs.toList.foldr (fun f acc=>
     if f.name≠ "_" then match AI tab f.type xs f.offset,AI tab f.type ys f.offset with
      | some p,some q=>match uL P tab d f.type p q,acc with
        | some b,some c=>some (b&&c)
        | _,_=>none
      | _,_=>none
     else acc) (some true)
   | _,_,_=>none
theorem D8 (ht:aM P tab):∀(d:Nat) {t:TypeId} {x y:MV} {u v:Value} {b:Bool},uL P tab d t x y=some b->VR G x u->VR G y v->∀(k:Nat) (w:World),(Op.equalIn (d+k) t u v).run P w= .ok b w
 | 0,_,_,_,_,_,_,h,_,_,_,_=>by cases h
 | d+1,t,x,y,u,v,b,h,hx,hy,k,w=>by
   rw[show d+1+k=d+k+1 from by omega];simp only[uL]at h;split at h
   ·rename_i hu;injection h with h;subst h
    cases hx;cases hy
    exact run_equalIn_bool w _ _ _ _ (bA ht hu)
   ·rename_i k0 k1 a k2 c hu;split at h
    ·subst k1;injection h with h;subst h
     cases hx;cases hy
     exact run_equalIn_int w _ _ _ _ _ _ (bA ht hu)
    ·cases h
   ·rename_i l r hu;injection h with h;subst h
    cases hx;rename_i e1;cases hy;rw[run_equalIn_string w _ _ _ _ (bA ht hu),toList_mk,toList_mk]
   ·rename_i fs xs ys hu;split at h
    ·cases h
    ·rename_i c5;cases hx with
     | agg a1 a2=>
       cases hy with
       | agg b1 b2=>
         rename_i us vs;have eN:=bA ht hu;have hfo:P.fieldsOf t=fs:=by simp only[Program.fieldsOf,eN]
         rw[run_equalIn_struct w _ _ _ _ (by rw[hfo];exact eN) (by simpa using c5),hfo];have hxs:aO G xs us:=⟨a1,a2⟩;have PL:aO G ys vs:=⟨b1,b2⟩;generalize fs.toList=l at h;clear hu eN hfo;induction l generalizing b with
         | nil=>
           simp only[List.foldr_nil,Option.some.injEq]at h;subst h;rfl
         | cons f l ih=>
           simp only[List.foldr_cons]at h;simp only[Op.eqFields];split at h
           ·rename_i hn;rw[if_pos hn];split at h
            ·rename_i p q hp hq;split at h
             ·rename_i b1 c1 ct gm;injection h with h;subst h
              obtain⟨r1,g1,g2⟩:=vP (P:=P) ht hp hxs;obtain⟨r2,g3,g4⟩:=vP (P:=P) ht hq PL;have hr:=D8 ht d ct g2 g4 k w;simp only[Sem.run_bind,g1 w,g3 w,hr,Result.andThen_ok];cases b1
              ·simp
              ·simpa using ih _ gm
             ·cases h
            ·cases h
           ·rename_i hn;rw[if_neg hn];exact ih _ h
   ·cases h
theorem VL.su (ht:aM P tab) {f:Fl} {op:BinOp} {t t' ty:TypeId} {d:Option Tmp} {x y:Operand} {ps:String} {af:Array Edge} {g:Option (Nat×Bool)} {L:List (Fl×Oper)} {xs ys:List MV} {b:Bool} {bb:Bool} (qi:f≠ .fk) (hh:f= .one->gT md=true\/md= .any)
  (si:(op= .eql/\bb=b)\/(op= .neq/\bb= !b)) (hq:uL P tab 9 t (.agg xs) (.agg ys)=some b) (hgt:P.eqGuardType P.depth t=false) (hx:ev e x=some (.agg xs)) (hy:ev e y=some (.agg ys)) (hg:aK ops (.mk d (.binOp op t x y t') ty ps af g) e=some true) (hd:bh n d=true)
  (h:WL P tab n D md ops Q L (aV d (.v (.bool bb)) e) O):VL P n D md ops ((f,.mk d (.binOp op t x y t') ty ps af g)::L) e O Q:=by
 refine VL.pure qi hh hg hd (fun G a hf=>?_) (WL.sound ht h);have h1:=hf.ev hx;have h2:=hf.ev hy;have hr:=fun w=>D8 (P:=P) ht 9 hq h1 h2 9991 w
 generalize hu:a.eval x=u at h1 hr;generalize hv:a.eval y=v at h2 hr;cases h1 with
 | agg a1 a2=>
   cases h2 with
   | agg b1 b2=>
     rename_i us vs;refine c6.of (s:=do eqGuard op t x y (.agg us.toArray) (.agg vs.toArray);binOp op t (.agg us.toArray) (.agg vs.toArray)) (aW.of (u:=.bool bb) (fun w _=>?_) (.v rfl)) (by simp[execOp,hu,hv]);rw[Sem.run_bind,run_eqGuard_agg w op t x y _ _ hgt,Result.andThen_ok];rcases si with⟨rfl,rfl⟩ | ⟨rfl,rfl⟩
     ·rw[run_eql_struct,hr w];rfl
     ·rw[run_neq_struct,hr w];rfl
theorem WR.Uq (h:WR G O w) {b:Nat} {C:Array Value} {t:TypeId} {fr fr':Nat×Nat} {w':World} (hb:w.heap[b]?=some (.cells C t fr)) (hB:G.B<=b) (mz:w'.heap[b]?=some (.cells C t fr')) (ho:∀j,j≠b->w'.heap[j]?=w.heap[j]?) (hs:w'.heap.size=w.heap.size)
  (hos:w'.os=w.os) (age:w'.tape=w.tape) (ahA:w'.output=w.output) (ee:∀j,O.hp j≠none->G.bJ j≠some b) (uf:∀t c x,O.hp t=some .tok->G.tok t=some (c,x)->c≠b):WR G O w':=by
 have kx:∀p,w'.cell? p=w.cell? p:=fun p=>by
  by_cases e:p.block=b
  ·simp only[World.cell?,e,hb,mz]
  ·simp only[World.cell?,ho _ e]
 refine⟨⟨hos.trans h.base.os,age.trans h.base.tape,ahA.trans h.base.output,by rw[hs];exact h.base.size,fun j hj=>by rw[ho j (by have:j<G.B:=hj;omega)];exact h.base.block j hj⟩,fun b' o u hc=>by rw[kx];exact h.d_ b' o u hc,h.o8,fun k c hk=>?_,h.inj,fun k cs hk=>?_,fun k es ck hk=>?_,fun t ht=>?_,h.k9,
  h.n_ id (fun _ _ _ _ h=>h) fun k b' s _ hs'=>?_,h.qJ id (fun _ _ h=>h) fun k x b' hk hb hx=>by rw[ho b' (fun e=>ee k (by rw[hk];simp) (e▸hb))];exact hx,h.qf,h.AG⟩
 ·obtain⟨h1,h2,h3⟩:=h.jX k c hk;exact⟨h1,by rw[hs];exact h2,h3⟩
 ·obtain⟨c,D,T',h1,h2,h3⟩:=h.cells k cs hk;exact⟨c,D,T',h1,by rw[ho c (fun e=>ee k (by rw[hk];simp) (e▸h1))];exact h2,h3⟩
 ·obtain⟨c,E,h1,h2,h3⟩:=h.map k es ck hk;exact⟨c,E,h1,by rw[ho c (fun e=>ee k (by rw[hk];simp) (e▸h1))];exact h2,h3⟩
 ·obtain⟨c,f,k,r,D,T',h1,h2,h3,h4⟩:=h.tok t ht;exact⟨c,f,k,r,D,T',h1,h2,by rw[ho c (uf t c _ ht h1)];exact h3,h4⟩
 ·by_cases e:b'=b
  ·subst e;simp only[World.shape?,hb]at hs';simp only[World.shape?,mz];exact hs'
  ·exact ie (fun x hx=>by rw[ho _ e];exact hx) hs'
def YD:Op->Bool
 | .call c=>match c.callee with
   | .builtin .unsafeString=>true
   | _=>false
 | _=>false
def v8 (md:Md) (ops:Array Oper):Bool:=match md with
 | .held brk=> !brk.isEmpty&&(List.range ops.size).all fun i=> !((ops[i]?).map fun o=>YD o.op).getD false||brk.contains i
 | _=>true
theorem v_ (h:v8 md ops=true):∀brk,md= .held brk->brk≠[]:=by
 rintro brk rfl rfl;simp[v8]at h
theorem Hu (h:v8 md ops=true) {o:Oper} (ho:YD o.op=true):∀brk,md= .held brk->∀i,ops[i]?=some o->brk.contains i=true:=by
 rintro brk rfl i hi;simp only[v8,Bool.and_eq_true]at h
 have:=List.all_eq_true.1 h.2 i (List.mem_range.2 (by
  rcases Nat.lt_or_ge i ops.size with h' | h'
  ·exact h'
  ·rw[Array.getElem?_eq_none h']at hi;cases hi))
 simpa[hi,ho]using this
theorem VL.ahB (ht:aM P tab) {d:Option Tmp} {x y:Operand} {pt it ty el:TypeId} {ps:String} {af:Array Edge} {g:Option (Nat×Bool)} {L:List (Fl×Oper)} {k c:Nat} {l:List UInt8} {B:Nat}
  (cu:v8 md ops=true)
  (hp:(tab pt).map cn.under=some (.pointer el)) (hce:P.cellsOf el=1) (cH:Row O el 1 B k c (l.map fB)) (F_:l≠[]) (hl:l.length<=maxLen)
  (hx:ev e x=some (.ptr k 0)) (hy:ev e y=some (.v (.int .i64 l.length))) (hg:aK ops (.mk d (.call {callee:=.builtin .unsafeString,args:= #[x,y],argTypes:= #[pt,it]}) ty ps af g) e=some true) (hd:bh n d=true)
  (h:WL P tab n D md ops Q L (aV d (.str l) e) (O.kill k)):VL P n D md ops ((.one,.mk d (.call {callee:=.builtin .unsafeString,args:= #[x,y],argTypes:= #[pt,it]}) ty ps af g)::L) e O Q:=by
 refine VL.h_ (M:=fun m O'=>m= .str l/\O'=O.kill k) hg hd (fun _=>v_ cu) (fun brk hb=>.inr (v_ cu brk hb)) (fun G a w hw hf=>?_) (Hu cu rfl) (by rintro m O' ⟨rfl,rfl⟩;exact WL.sound ht h);have mJ:=hf.ev hx;have wO:=hf.ev hy;generalize oo:a.eval x=u at mJ;generalize xQ:a.eval y=v at wO;have wO:=wO.iD;subst wO;cases mJ with
 | ptr YE=>
   rename_i b;obtain⟨sp,gm,jj⟩:=cH.cells;obtain⟨b',C,T,d1,d2,d3⟩:=hw.cells k _ gm;rw[YE]at d1;injection d1 with d1;subst d1
   obtain⟨j,_,_,hj⟩:=cH.nP;obtain⟨b2,s1,s2⟩:=hw.nP j k _ _ hj;rw[YE]at s1;injection s1 with s1;subst s1
   have hL:=d3.take l.length;have e1:(l.map fB++sp).take l.length=l.map fB:=by rw[List.take_append_of_le_length (by simp),List.take_of_length_le (by simp)]
   rw[e1,List.take_take,Nat.min_eq_left (by simp)]at hL;have hL2:=Ll hL
   have kx:∀j x,l[j]?=some x->w.cell? ((⟨b,0,none⟩:Addr).add j)=some (.int .u8 x.toNat):=fun i x hx=>by
    rw[Addr.add_lit,Nat.zero_add];simp only[World.cell?,d2,Option.isSome_none,Bool.false_eq_true,if_false];have:(C.toList.take l.length)[i]?=some (Value.int .u8 x.toNat):=by rw[hL2,List.getElem?_map,hx];rfl
    rw[List.getElem?_take]at this;split at this
    ·simpa using this
    ·cases this
   have bU:=Lib.run_unsafeString_row (P:=P) w pt it ty el (bA ht hp) hce b _ s2 l F_ (by rw[List.length_append,List.length_map]at jj;omega) hl kx;have zG:l.length≠0:=by simpa using F_
   have hfz:(w.freeze ⟨b,0,none⟩ l.length).heap[b]?=some (.cells C T.t (if T.fr.1==T.fr.2 then(0,0+l.length)else(min T.fr.1 0,max T.fr.2 (0+l.length)))):=by
    simp[World.freeze,zG,Array.getElem?_modify,d2]
   have ahC:∀j,j≠b->(w.freeze ⟨b,0,none⟩ l.length).heap[j]?=w.heap[j]?:=fun j hj=>by
    simp[World.freeze,zG,Array.getElem?_modify,Ne.symm hj]
   refine⟨.str l,O.kill k,.string ⟨⟨l⟩⟩,w.freeze ⟨b,0,none⟩ l.length,G,⟨rfl,rfl⟩,?_,Gh.Le.refl G,?_,.str⟩;rotate_left
   ·refine(hw.kill k).Uq d2 (hw.jX k b YE).1 hfz ahC (by simp[World.freeze,zG]) (by simp[World.freeze,zG]) (by simp[World.freeze,zG]) (by simp[World.freeze,zG]) (fun j hj XK=>?_) fun t c x fl Pn e=>?_
    ·by_cases e:j=k
     ·subst e;exact hj (aE _ _ _)
     ·have PM:O.hp j≠none:=by rwa [show(O.kill k).hp j=O.hp j from ax _ _ e]at hj
      exact e (hw.inj j k b PM (by rw[gm];simp) XK YE)
    ·subst e;have e:t≠k:=fun e=>by subst e;rw[show(O.kill t).hp t=none from aE _ _ _]at fl;cases fl
     rw[show(O.kill k).hp t=O.hp t from ax _ _ e]at fl;obtain⟨_,_,_,_,_,_,q1,_,_,_,_,q7⟩:=hw.tok t fl;rw[Pn]at q1;injection q1 with q1;injection q1 with q1 _;subst q1
     exact q7 k YE
   ·simp[execOp,resolve,invoke,builtin,oo,xQ,bU]
theorem VL.agf (ht:aM P tab) {d:Option Tmp} {x y:Operand} {pt it ty:TypeId} {ps:String} {af:Array Edge} {g:Option (Nat×Bool)} {L:List (Fl×Oper)}
  (cu:v8 md ops=true)
  (hx:ev e x=some (.v (.pointer none))) (hy:ev e y=some (.v (.int .i64 0))) (hg:aK ops (.mk d (.call {callee:=.builtin .unsafeString,args:= #[x,y],argTypes:= #[pt,it]}) ty ps af g) e=some true) (hd:bh n d=true)
  (h:WL P tab n D md ops Q L (aV d (.str []) e) O):VL P n D md ops ((.one,.mk d (.call {callee:=.builtin .unsafeString,args:= #[x,y],argTypes:= #[pt,it]}) ty ps af g)::L) e O Q:=by
 refine VL.h_ (M:=fun m O'=>m= .str []/\O'=O) hg hd (fun _=>v_ cu) (fun brk hb=>.inr (v_ cu brk hb)) (fun G a w hw hf=>?_) (Hu cu rfl) (by rintro m O' ⟨rfl,rfl⟩;exact WL.sound ht h);have mJ:=(hf.ev hx).iD;have wO:=(hf.ev hy).iD;have bU:=Lib.run_unsafeString_none (P:=P) w pt it ty none;refine⟨_,_,_,w,G,⟨rfl,rfl⟩,?_,Gh.Le.refl G,hw,.str⟩;simp[execOp,resolve,invoke,builtin,mJ,wO,bU];rfl
theorem VL.toU (ht:aM P tab) {d:Option Tmp} {x:Operand} {src dst ty el t:TypeId} {ps:String} {af:Array Edge} {g:Option (Nat×Bool)} {L:List (Fl×Oper)} {k s j:Nat} {te:cn} (hmd:md= .plain\/md= .any)
  (hs:(tab src).map cn.under=some (.pointer el)) (Lq:(tab dst).map cn.under=some .unsafePointer) (he:tab el=some te) (hz:te.size≠0) (hj:O.hp j=some (.shape k t s)) (Ur:0<s)
  (hx:ev e x=some (.ptr k 0)) (hg:aK ops (.mk d (.convert src dst x) ty ps af g) e=some true) (hd:bh n d=true) (h:WL P tab n D md ops Q L (aV d (.ptr k 0) e) O):
  VL P n D md ops ((.one,.mk d (.convert src dst x) ty ps af g)::L) e O Q:=by
 refine VL.pf (M:=fun m O'=>m= .ptr k 0/\O'=O) (fun G a w hw hf=>?_) (by rintro m O' ⟨rfl,rfl⟩;exact WL.sound ht h) (hmd:=hmd) (hg:=hg) (hd:=hd);have mJ:=hf.ev hx;generalize oo:a.eval x=u at mJ;cases mJ with
 | ptr hp=>
   rename_i b;obtain⟨ti,z,i1,i2,_⟩:=(ht _ te he).info;obtain⟨b2,s1,s2⟩:=hw.nP j k _ _ hj;rw[hp]at s1;injection s1 with s1;subst s1
   have hr:=Lib.run_to_unsafe (P:=P) w ⟨b,0,none⟩ (bA ht hs) (bA ht Lq) i1 (by rw[i2];exact hz) s2 Ur;exact⟨_,_,_,w,G,⟨rfl,rfl⟩,by simp[execOp,oo,hr],Gh.Le.refl G,hw,.ptr hp⟩
theorem VL.agh (ht:aM P tab) {d:Option Tmp} {x:Operand} {src dst ty el t:TypeId} {ps:String} {af:Array Edge} {g:Option (Nat×Bool)} {L:List (Fl×Oper)} {k s j:Nat} {te:cn} (hmd:md= .plain\/md= .any)
  (hs:(tab src).map cn.under=some .unsafePointer) (Lq:(tab dst).map cn.under=some (.pointer el)) (he:tab el=some te) (hj:O.hp j=some (.shape k t s)) (hl:liesAt P P.depth t (s / P.cellsOf t) 0 el 1=true)
  (hx:ev e x=some (.ptr k 0)) (hg:aK ops (.mk d (.convert src dst x) ty ps af g) e=some true) (hd:bh n d=true) (h:WL P tab n D md ops Q L (aV d (.ptr k 0) e) O):
  VL P n D md ops ((.one,.mk d (.convert src dst x) ty ps af g)::L) e O Q:=by
 refine VL.pf (M:=fun m O'=>m= .ptr k 0/\O'=O) (fun G a w hw hf=>?_) (by rintro m O' ⟨rfl,rfl⟩;exact WL.sound ht h) (hmd:=hmd) (hg:=hg) (hd:=hd);have mJ:=hf.ev hx;generalize oo:a.eval x=u at mJ;cases mJ with
 | ptr hp=>
   rename_i b;obtain⟨ti,z,i1,i2,_⟩:=(ht _ te he).info;obtain⟨b2,s1,s2⟩:=hw.nP j k _ _ hj;rw[hp]at s1;injection s1 with s1;subst s1
   have hr:=Lib.run_from_unsafe (P:=P) w ⟨b,0,none⟩ (bA ht hs) (bA ht Lq) i1 s2 hl;exact⟨_,_,_,w,G,⟨rfl,rfl⟩,by simp[execOp,oo,hr],Gh.Le.refl G,hw,.ptr hp⟩
end
section
variable {tab:bV} {t t' el:TypeId} {O:VH} {a b c d a' b' k o n off:Nat} {z y z':List MV} {u:TypeDesc} {cs ds:List MV} {tk:Tok} {l:List UInt8} {m q:MV} {i j:Int} {kk kk':IntKind} {x:Value}
def w9:Option cn->MV->Option MV
 | some ⟨.string,_,_,_⟩,.str l=>some (.v (.int .i64 l.length))
 | some ⟨.slice _,_,_,_⟩,.sl n _ _=>some (.v (.int .i64 n))
 | some ⟨.slice _,_,_,_⟩,.bm _ _ n _=>some (.v (.int .i64 n))
 | some ⟨.map _ _,_,_,_⟩,.v (.map none)=>some (.v (.int .i64 0))
 | some ⟨.array n _,_,_,_⟩,_=>some (.v (.int .i64 n))
 | _,_=>none
theorem uM:iW tab t m=w9 (tab t) m:=by
 unfold iW w9;cases tab t with
 | none=>rfl
 | some r=>obtain⟨d,_,_,_⟩:=r;cases d<;>cases m<;>first | rfl | (rename_i v;cases v<;>first | rfl | (rename_i q;cases q<;>rfl))
theorem Us:w9 (some ⟨.string,a,b,z⟩) (.str l)=some (.v (.int .i64 l.length)):=rfl
theorem YF:w9 (some ⟨.slice el,a,b,z⟩) (.sl n cs tk)=some (.v (.int .i64 n)):=rfl
theorem Ut:w9 (some ⟨.slice el,a,b,z⟩) (.bm k o n c)=some (.v (.int .i64 n)):=rfl
theorem Uu:w9 (some ⟨.map t t',a,b,z⟩) (.v (.map none))=some (.v (.int .i64 0)):=rfl
theorem Uv:w9 (some ⟨.map t t',a,b,z⟩) (.map k)=none:=rfl
theorem Uw:w9 (some ⟨.array n el,a,b,z⟩) m=some (.v (.int .i64 n)):=by cases m<;>rfl
def YG (O:VH) (s:Option (MV×VH)):Option MV->Option (MV×VH)
 | some r=>some (r,O)
 | none=>s
theorem PN {s:Option (MV×VH)}:YG O s (some m)=some (m,O):=rfl
theorem PO {s:Option (MV×VH)}:YG O s none=s:=rfl
theorem Ux {e:Env} {d:Option Tmp} {x:Operand} {ty:TypeId} {p:String} {af:Array Edge} {g:Option (Nat×Bool)}:cT tab (.mk d (.call {callee:=.builtin .len,args:= #[x],argTypes:= #[t]}) ty p af g) e O=(ev e x).bind fun q=>YG O ((o_ tab O t q).map (·,O)) (w9 (tab t) q):=by
 rw[KQ];cases ev e x with
 | none=>rfl
 | some q=>
   simp only[Option.bind_some,uM];cases w9 (tab t) q<;>rfl
def Lr (tab:bV) (m ix:MV):Option cn->Option MV
 | some r=>match ix,r.under,m with
   | .v (.int _ i),.slice el,.sl n cells _=>match tab el with
     | some te=>if 0<=i/\i<(n:Int)then some (.cX cells (i.toNat*te.size))else none
     | none=>none
   | .v (.int _ i),.slice el,.bm k o n _=>match tab el with
     | some te=>if 0<=i/\i<(n:Int)then some (.ptr k (o+i.toNat*te.size))else none
     | none=>none
   | .v (.int _ i),.array len el,x=>match tab el with
     | some te=>if 0<=i/\i<(len:Int)then ug (i.toNat*te.size) x else none
     | none=>none
   | _,_,_=>none
 | none=>none
theorem aeG:l_ tab t m q=Lr tab m q (tab t):=by
 unfold l_ Lr;cases h:tab t with
 | none=>cases q<;>first | rfl | (rename_i v;cases v<;>rfl)
 | some r=>
   obtain⟨d,_,_,_⟩:=r;cases q<;>first | rfl | skip
   rename_i v;cases v<;>first | rfl | skip
   cases d<;>cases m<;>rfl
def ixS (i:Int) (n:Nat) (cs:List MV):Option cn->Option MV
 | some te=>if 0<=i/\i<(n:Int)then some (.cX cs (i.toNat*te.size))else none
 | none=>none
def ixR (i:Int) (n k o:Nat):Option cn->Option MV
 | some te=>if 0<=i/\i<(n:Int)then some (.ptr k (o+i.toNat*te.size))else none
 | none=>none
def ixA (i:Int) (n:Nat) (m:MV):Option cn->Option MV
 | some te=>if 0<=i/\i<(n:Int)then ug (i.toNat*te.size) m else none
 | none=>none
theorem acC:Lr tab (.sl n cs tk) (.v (.int kk i)) (some ⟨.slice el,a,b,z⟩)=ixS i n cs (tab el):=by unfold Lr ixS;rfl
theorem YH:Lr tab (.bm k o n c) (.v (.int kk i)) (some ⟨.slice el,a,b,z⟩)=ixR i n k o (tab el):=by unfold Lr ixR;rfl
theorem YI:Lr tab m (.v (.int kk i)) (some ⟨.array n el,a,b,z⟩)=ixA i n m (tab el):=by unfold Lr ixA;cases m<;>rfl
theorem acD (h0:0<=i) (h1:i<(n:Int)):ixS i n cs (some ⟨u,a,b,z⟩)=some (.cX cs (i.toNat*a)):=if_pos ⟨h0,h1⟩
theorem acE (h0:0<=i) (h1:i<(n:Int)):ixR i n k o (some ⟨u,a,b,z⟩)=some (.ptr k (o+i.toNat*a)):=if_pos ⟨h0,h1⟩
theorem acF (h0:0<=i) (h1:i<(n:Int)):ixA i n m (some ⟨u,a,b,z⟩)=ug (i.toNat*a) m:=if_pos ⟨h0,h1⟩
theorem YJ:ug a (.ptr k o)=some (.ptr k (o+a)):=rfl
theorem YK:ug a (.cX cs o)=some (.cX cs (o+a)):=rfl
def inT (l:List UInt8) (i:Int):Option cn->Option MV
 | some ⟨.string,_,_,_⟩=>if 0<=i then(l[i.toNat]?).map fB else none
 | _=>none
theorem ahD:vR tab t (.str l) (.v (.int kk i))=inT l i (tab t):=by
 unfold vR inT;cases tab t with
 | none=>rfl
 | some r=>obtain⟨d,_,_,_⟩:=r;cases d<;>rfl
theorem acG (h:0<=i):inT l i (some ⟨.string,a,b,z⟩)=(l[i.toNat]?).map fB:=if_pos h
def YL (off:Nat):Option cn->Option bW->Option MV
 | some r,some (.cells cs)=>mG (ey r.under) r.size cs off
 | _,_=>none
theorem ahE:eM tab O t (.ptr k off)=YL off (tab t) (O.hp k):=by
 unfold eM YL;simp only[cellsOf];cases tab t<;>first | rfl | (cases O.hp k<;>first | rfl | (rename_i x;cases x<;>rfl))
theorem ahF:eM tab O t (.cX cs off)=YL off (tab t) (some (.cells cs)):=by
 unfold eM YL cellsOf;cases tab t<;>rfl
theorem acH:YL off (some ⟨u,a,b,z⟩) (some (.cells cs))=mG (ey u) a cs off:=rfl
theorem YM:mG false a cs off=cs[off]?:=rfl
theorem YN (h:off+a<=cs.length):mG true a cs off=some (.agg ((cs.drop off).take a)):=by simp[mG,h]
theorem Uy:ey .bool=false:=rfl
theorem YO:ey (.int kk)=false:=rfl
theorem YP:ey .string=false:=rfl
theorem YQ:ey (.pointer t)=false:=rfl
theorem acI:ey (.slice t)=false:=rfl
theorem YR:ey (.map t t')=false:=rfl
theorem YS:ey (.array n t)=true:=rfl
theorem acJ {ms:Array (String×TypeId)}:ey (.interface ms)=false:=rfl
theorem acK {ps rs:Array TypeId} {v:Bool}:ey (.func ps rs v)=false:=rfl
def AS (O:VH) (k off:Nat) (m:MV):Option cn->Option bW->Option VH
 | some r,some (.cells cs)=>if(dD m).length=r.size/\(dD m).all dE=true/\off+r.size<=cs.length then some (O.set k (.cells (dW cs off (dD m))))else none
 | _,_=>none
theorem ahG:vO tab O t (.ptr k off) m=AS O k off m (tab t) (O.hp k):=by
 unfold vO AS;cases tab t with
 | none=>rfl
 | some r=>
   simp only;cases O.hp k with
   | none=>rfl
   | some x=>cases x<;>rfl
theorem pj {m:MV} (hm:dD m=[m]) (hl:dE m=true) (h:off<cs.length):AS O k off m (some ⟨u,1,b,z⟩) (some (.cells cs))=some (O.set k (.cells (cs.set off m))):=by
 show(if(dD m).length=1/\(dD m).all dE=true/\off+1<=cs.length then some (O.set k (.cells (dW cs off (dD m))))else none)=_;rw[if_pos ⟨by rw[hm];rfl,by rw[hm];simpa using hl,by omega⟩,hm];rfl
theorem agi (h:off<cs.length):AS O k off (.v x) (some ⟨u,1,b,z⟩) (some (.cells cs))=some (O.set k (.cells (cs.set off (.v x)))):=pj rfl rfl h
theorem agj (h:off<cs.length):AS O k off (.str l) (some ⟨u,1,b,z⟩) (some (.cells cs))=some (O.set k (.cells (cs.set off (.str l)))):=pj rfl rfl h
theorem agk (h:off<cs.length):AS O k off (.ptr c o) (some ⟨u,1,b,z⟩) (some (.cells cs))=some (O.set k (.cells (cs.set off (.ptr c o)))):=pj rfl rfl h
theorem agl (h:off<cs.length):AS O k off (.cX ds o) (some ⟨u,1,b,z⟩) (some (.cells cs))=some (O.set k (.cells (cs.set off (.cX ds o)))):=pj rfl rfl h
theorem acL (h:off<cs.length):AS O k off (.sl n ds tk) (some ⟨u,1,b,z⟩) (some (.cells cs))=some (O.set k (.cells (cs.set off (.sl n ds tk)))):=pj rfl rfl h
theorem YT (h:off<cs.length):AS O k off (.bm c o n d) (some ⟨u,1,b,z⟩) (some (.cells cs))=some (O.set k (.cells (cs.set off (.bm c o n d)))):=pj rfl rfl h
theorem YU (h:off<cs.length):AS O k off (.map c) (some ⟨u,1,b,z⟩) (some (.cells cs))=some (O.set k (.cells (cs.set off (.map c)))):=pj rfl rfl h
theorem acM (h:off<cs.length):AS O k off (.iface t m) (some ⟨u,1,b,z⟩) (some (.cells cs))=some (O.set k (.cells (cs.set off (.iface t m)))):=pj rfl rfl h
theorem acN {fn:Fn} (h:off<cs.length):AS O k off (.func fn ds z') (some ⟨u,1,b,z⟩) (some (.cells cs))=some (O.set k (.cells (cs.set off (.func fn ds z')))):=pj rfl rfl h
theorem YV (h1:ds.length=a) (h2:ds.all dE=true) (h:off+a<=cs.length):AS O k off (.agg ds) (some ⟨u,a,b,z⟩) (some (.cells cs))=some (O.set k (.cells (dW cs off ds))):=if_pos ⟨h1,h2,h⟩
theorem IQ:dW cs off []=cs:=rfl
theorem Ga:dW cs off (m::ds)=dW (cs.set off m) (off+1) ds:=rfl
theorem acO:dE (.v x)=true:=rfl
theorem acP:dE (.str l)=true:=rfl
theorem acQ:dE (.ptr k o)=true:=rfl
theorem acR:dE (.cX cs o)=true:=rfl
theorem YX:dE (.sl n cs tk)=true:=rfl
theorem Uz:dE (.bm k o n c)=true:=rfl
theorem UA:dE (.map k)=true:=rfl
theorem YY:dE (.iface t m)=true:=rfl
theorem YZ {fn:Fn}:dE (.func fn cs ds)=true:=rfl
section
variable {X:bW} {k':Nat} {s:Nat}
theorem acS (h:k'=k):(O.set k X).hp k'=some X:=by subst h;exact VH.an _ _ _
theorem PQ (h:k'≠k):(O.set k X).hp k'=O.hp k':=VH.ak _ _ h
theorem Y0 (h:k'=O.next):(O.push X).hp k'=some X:=by subst h;exact VH.aX _ _
theorem Ls (h:k'≠O.next):(O.push X).hp k'=O.hp k':=VH.pd _ _ h
theorem Lt (h:k'≠k):(O.kill k).hp k'=O.hp k':=VH.kA _ h
theorem eJ:(O.set k X).next=O.next:=rfl
theorem so:(O.push X).next=O.next+1:=rfl
theorem D9:(O.kill k).next=O.next:=rfl
end
theorem Lu {e:Env} {d:Option Tmp} {ty:TypeId} {p:String} {af:Array Edge} {g:Option (Nat×Bool)}:cT tab (.mk d (.alloc t) ty p af g) e O=(tab t).map fun i=>(.ptr O.next 0,vX O t i.size i.zero):=rfl
def alB (O:VH) (t:TypeId) (n:Nat) (z:List MV):Bool->VH
 | true=>(O.push (.cells z)).push (.shape O.next t n)
 | false=>O.push (.cells z)
theorem PR:vX O t n z=alB O t n z (fu z):=by unfold vX alB;cases fu z<;>rfl
theorem agm:alB O t n z true=(O.push (.cells z)).push (.shape O.next t n):=rfl
theorem agn:alB O t n z false=O.push (.cells z):=rfl
theorem ago:fu [.v (.pointer none),.sl 0 [] .nil]=true:=rfl
theorem agp:fu []=false:=rfl
theorem agq:fu [m]=false:=by unfold fu;split<;>first | rfl | simp_all
theorem agr {m1 m2 m3:MV}:fu (m1::m2::m3::z)=false:=by unfold fu;split<;>first | rfl | simp_all
theorem Y1:fu [.v (.int kk i),m]=false:=by unfold fu;split<;>first | rfl | simp_all
theorem UC {b:Bool}:fu [.v (.bool b),m]=false:=by unfold fu;split<;>first | rfl | simp_all
theorem Y2:fu [.str l,m]=false:=by unfold fu;split<;>first | rfl | simp_all
theorem acT:fu [.sl n cs tk,m]=false:=by unfold fu;split<;>first | rfl | simp_all
theorem acU:fu [m,.str l]=false:=by unfold fu;split<;>first | rfl | simp_all
theorem acV:fu [m,.v x]=false:=by unfold fu;split<;>first | rfl | simp_all
def sw (tab:bV) (x:MV) (l h:Option MV):Option cn->Option MV
 | some ⟨.string,_,_,_⟩=>match x with
   | .str s=>match cW 0 l,cW s.length h with
     | some lo,some hi=>if lo<=hi/\hi<=s.length then some (.str ((s.drop lo).take (hi - lo)))else none
     | _,_=>none
   | _=>none
 | some ⟨.slice el,_,_,_⟩=>match x with
   | .sl n cells tk=>match tab el,cW 0 l,cW n h with
     | some te,some lo,some hi=>
       if lo=0/\hi=n then some (.sl n cells tk)
       else if lo<=hi/\hi<=n/\cells.length=n*te.size then some (.sl (hi - lo) ((cells.drop (lo*te.size)).take ((hi - lo)*te.size)) (oO tk te.size (hi==n)))else none
     | _,_,_=>none
   | .bm k o n c=>match tab el,cW 0 l,cW n h with
     | some te,some lo,some hi=>if lo<=hi/\hi<=c then some (.bm k (if c=lo then o else o+lo*te.size) (hi - lo) (c - lo))else none
     | _,_,_=>none
   | _=>none
 | _=>none
theorem ahH {l h:Option MV}:vV tab t m l h=sw tab m l h (tab t):=by
 unfold vV sw;cases tab t with
 | none=>rfl
 | some r=>obtain⟨d,_,_,_⟩:=r;cases d<;>cases m<;>rfl
theorem ags (h0:0<=i) (h1:i<=j) (h2:j<=(l.length:Int)):sw tab (.str l) (some (.v (.int kk i))) (some (.v (.int kk' j))) (some ⟨.string,a,b,z⟩)=some (.str ((l.drop i.toNat).take (j.toNat - i.toNat))):=by
 have e1:0<=j:=by omega
 simp only[sw,cW,if_pos h0,if_pos e1];rw[if_pos ⟨by omega,by omega⟩]
theorem acW (h0:0<=i) (h1:i<=(l.length:Int)):sw tab (.str l) (some (.v (.int kk i))) none (some ⟨.string,a,b,z⟩)=some (.str (l.drop i.toNat)):=by
 simp only[sw,cW,if_pos h0];rw[if_pos ⟨by omega,by omega⟩,List.take_of_length_le (by simp)]
theorem acX (h1:0<=j) (h2:j<=(l.length:Int)):sw tab (.str l) none (some (.v (.int kk j))) (some ⟨.string,a,b,z⟩)=some (.str (l.take j.toNat)):=by
 simp only[sw,cW,if_pos h1];rw[if_pos ⟨by omega,by omega⟩];simp
def Ct (k o lo hi c:Nat):Option cn->Option MV
 | some te=>some (.bm k (if c=lo then o else o+lo*te.size) (hi - lo) (c - lo))
 | none=>none
theorem agt (h0:0<=i) (h1:i<=j) (h2:j<=(c:Int)):sw tab (.bm k o n c) (some (.v (.int kk i))) (some (.v (.int kk' j))) (some ⟨.slice el,a,b,z⟩)=Ct k o i.toNat j.toNat c (tab el):=by
 have e1:0<=j:=by omega
 simp only[sw,cW,if_pos h0,if_pos e1,Ct];cases tab el with
 | none=>rfl
 | some te=>simp only;rw[if_pos ⟨by omega,by omega⟩]
theorem acY (h0:0<=i) (h1:i<=(n:Int)) (h2:n<=c):sw tab (.bm k o n c) (some (.v (.int kk i))) none (some ⟨.slice el,a,b,z⟩)=Ct k o i.toNat n c (tab el):=by
 simp only[sw,cW,if_pos h0,Ct];cases tab el with
 | none=>rfl
 | some te=>simp only;rw[if_pos ⟨by omega,h2⟩]
theorem acZ (h1:0<=j) (h2:j<=(c:Int)):sw tab (.bm k o n c) none (some (.v (.int kk j))) (some ⟨.slice el,a,b,z⟩)=Ct k o 0 j.toNat c (tab el):=by
 simp only[sw,cW,if_pos h1,Ct];cases tab el with
 | none=>rfl
 | some te=>simp only;rw[if_pos ⟨by omega,by omega⟩]
theorem agu:Ct k o 0 n c (some ⟨u,a,b,z⟩)=some (.bm k o n c):=by
 simp only[Ct]
 congr 2
 split<;>simp
theorem ac0 {lo hi:Nat} (h:c≠lo):Ct k o lo hi c (some ⟨u,a,b,z⟩)=some (.bm k (o+lo*a) (hi - lo) (c - lo)):=by
 simp only[Ct,if_neg h]
theorem ac1 {lo hi:Nat} (h:c=lo):Ct k o lo hi c (some ⟨u,a,b,z⟩)=some (.bm k o (hi - lo) (c - lo)):=by
 simp only[Ct,if_pos h]
def Gb (n lo hi:Nat) (cs:List MV) (tk:Tok):Option cn->Option MV
 | some te=>if lo=0/\hi=n then some (.sl n cs tk)
    else if lo<=hi/\hi<=n/\cs.length=n*te.size then some (.sl (hi - lo) ((cs.drop (lo*te.size)).take ((hi - lo)*te.size)) (oO tk te.size (hi==n)))else none
 | none=>none
theorem zH {l h:Option MV} {lo hi:Nat} (hl:cW 0 l=some lo) (hh:cW n h=some hi):sw tab (.sl n cs tk) l h (some ⟨.slice el,a,b,z⟩)=Gb n lo hi cs tk (tab el):=by
 show(match tab el,cW 0 l,cW n h with
   | some te,some lo,some hi=>
     if lo=0/\hi=n then some (MV.sl n cs tk)
     else if lo<=hi/\hi<=n/\cs.length=n*te.size then some (.sl (hi - lo) ((cs.drop (lo*te.size)).take ((hi - lo)*te.size)) (oO tk te.size (hi==n)))else none
   | _,_,_=>none)=_
 rw[hl,hh];cases tab el<;>rfl
theorem agv (h0:0<=i) (h1:0<=j):sw tab (.sl n cs tk) (some (.v (.int kk i))) (some (.v (.int kk' j))) (some ⟨.slice el,a,b,z⟩)=Gb n i.toNat j.toNat cs tk (tab el):=zH (if_pos h0) (if_pos h1)
theorem ac2 (h0:0<=i):sw tab (.sl n cs tk) (some (.v (.int kk i))) none (some ⟨.slice el,a,b,z⟩)=Gb n i.toNat n cs tk (tab el):=zH (if_pos h0) rfl
theorem ac3 (h0:0<=j):sw tab (.sl n cs tk) none (some (.v (.int kk j))) (some ⟨.slice el,a,b,z⟩)=Gb n 0 j.toNat cs tk (tab el):=zH rfl (if_pos h0)
theorem ac4:sw tab (.sl n cs tk) none none (some ⟨.slice el,a,b,z⟩)=Gb n 0 n cs tk (tab el):=zH rfl rfl
theorem D_ {lo hi:Nat} (h0:lo=0) (h1:hi=n):Gb n lo hi cs tk (some ⟨u,a,b,z⟩)=some (.sl n cs tk):=if_pos ⟨h0,h1⟩
theorem AT {lo hi:Nat} (h:lo≠0\/hi≠n) (h1:lo<=hi) (h2:hi<=n) (h3:cs.length=n*a):Gb n lo hi cs tk (some ⟨u,a,b,z⟩)=some (.sl (hi - lo) ((cs.drop (lo*a)).take ((hi - lo)*a)) (oO tk a (hi==n))):=by
 simp only[Gb];rw[if_neg (by omega),if_pos ⟨h1,h2,h3⟩]
def IS (x:MV):Option cn->Option cn->Option MV
 | some _,some ⟨.int k,_,_,_⟩=>match x with
   | .v (.int _ i)=>some (.v (.int k (k.wrap i)))
   | _=>none
 | some ⟨.string,_,_,_⟩,some ⟨.string,_,_,_⟩=>match x with
   | .str l=>some (.str l)
   | _=>none
 | _,_=>none
theorem ahI:AM tab t t' m=IS m (tab t) (tab t'):=by
 unfold AM IS;cases tab t with
 | none=>rfl
 | some r=>
   obtain⟨d,_,_,_⟩:=r;cases tab t' with
   | none=>cases d<;>rfl
   | some r'=>
     obtain⟨d',_,_,_⟩:=r'
     cases d'<;>first
      | (cases d<;>rfl)
      | (cases m<;>first | (cases d<;>rfl) | (rename_i v;cases v<;>cases d<;>rfl))
theorem Y3 {k':IntKind} {r:cn}:IS (.v (.int kk i)) (some r) (some ⟨.int k',a,b,z⟩)=some (.v (.int k' (k'.wrap i))):=rfl
theorem Y4:IS (.str l) (some ⟨.string,a,b,z⟩) (some ⟨.string,a',b',z'⟩)=some (.str l):=rfl
theorem ac5:IS m (some ⟨.string,a,b,z⟩) (some ⟨.slice el,a',b',z'⟩)=none:=rfl
theorem ac6:IS m (some ⟨.slice el,a,b,z⟩) (some ⟨.string,a',b',z'⟩)=none:=rfl
theorem ac7:IS m (some ⟨.pointer el,a,b,z⟩) (some ⟨.unsafePointer,a',b',z'⟩)=none:=rfl
theorem ac8:IS m (some ⟨.unsafePointer,a,b,z⟩) (some ⟨.pointer el,a',b',z'⟩)=none:=rfl
def Hv:List (Nat×Operand)->List MV->List (Nat×MV)
 | (i,_)::l,m::ms=>(i,m)::Hv l ms
 | _,_=>[]
theorem PU (l:List (Nat×Operand)) (ms:List MV):fY l.toArray ms=Hv l ms:=by
 unfold fY;simp only;induction l generalizing ms with
 | nil=>cases ms<;>rfl
 | cons p l ih=>cases ms with
   | nil=>rfl
   | cons m ms=>obtain⟨i,x⟩:=p;simp only[List.map_cons,List.zip_cons_cons,Hv];rw[ih]
theorem UD {ms:List MV}:Hv [] ms=[]:=by cases ms<;>rfl
theorem PV {x:Operand} {l:List (Nat×Operand)} {ms:List MV}:Hv ((n,x)::l) (m::ms)=(n,m)::Hv l ms:=rfl
def Gc (pl:Nat->Option (Nat×Nat)) (cs:List MV) (x:MV) (rest:List (Nat×MV)):Option (Nat×Nat)->Option (List MV)
 | none=>none
 | some (off,size)=>if(dD x).length=size/\off+size<=cs.length then lx pl (dW cs off (dD x)) rest else none
def kO (l:List (Nat×Nat)) (i:Nat):Option (Nat×Nat):=l[i]?
theorem UE {p:Nat×Nat} {l:List (Nat×Nat)}:kO (p::l) 0=some p:=rfl
theorem UF {p:Nat×Nat} {l:List (Nat×Nat)}:kO (p::l) (n+1)=kO l n:=rfl
def Ss (a:Nat) (k:Nat):Option (Nat×Nat):=some (k*a,a)
theorem PW:Ss a k=some (k*a,a):=rfl
theorem PX {pl:Nat->Option (Nat×Nat)}:lx pl cs []=some cs:=rfl
theorem Lv {pl:Nat->Option (Nat×Nat)} {rest:List (Nat×MV)}:lx pl cs ((n,m)::rest)=Gc pl cs m rest (pl n):=by
 rw[lx];cases h:pl n<;>rfl
theorem ac9 {pl:Nat->Option (Nat×Nat)} {rest:List (Nat×MV)} (h:(dD m).length=a/\off+a<=cs.length):Gc pl cs m rest (some (off,a))=lx pl (dW cs off (dD m)) rest:=if_pos h
def bsT (tab:bV) (len:Nat) (parts:List (Nat×MV)):Option cn->Option MV
 | some ⟨.slice el,_,_,_⟩=>match tab el with
   | some te=>if 0<len*te.size/\len*te.size<=16777216/\0<te.zero.length/\len<=maxLen then
     (lx (fun k=>some (k*te.size,te.size)) (ig te.zero (len*te.size)) parts).map fun cs=>.sl len cs .full
     else if len=0/\parts=[]then some (.sl 0 [] .full)else none
   | none=>none
 | _=>none
theorem ahJ {parts:List (Nat×MV)}:kM tab t n parts=bsT tab n parts (tab t):=by
 unfold kM bsT;cases tab t with
 | none=>rfl
 | some r=>obtain⟨d,_,_,_⟩:=r;cases d<;>rfl
def Y5 (n:Nat) (parts:List (Nat×MV)):Option cn->Option MV
 | some te=>if 0<n*te.size/\n*te.size<=16777216/\0<te.zero.length/\n<=maxLen then
    (lx (fun k=>some (k*te.size,te.size)) (ig te.zero (n*te.size)) parts).map fun cs=>.sl n cs .full
   else if n=0/\parts=[]then some (.sl 0 [] .full)else none
 | none=>none
theorem ac_ {parts:List (Nat×MV)}:bsT tab n parts (some ⟨.slice el,a,b,z⟩)=Y5 n parts (tab el):=by unfold bsT Y5;rfl
theorem agw {r:cn}:Y5 0 [] (some r)=some (.sl 0 [] .full):=by simp[Y5]
theorem Lw (h:z.length=a) (h0:0<a):∀n,ig z (n*a)=(List.replicate n z).flatten:=by
 intro n;induction n with
 | zero=>simp[ig]
 | succ n ih=>
   rw[List.replicate_succ',List.flatten_append, <-ih];simp only[ig,Nat.succ_mul];rw[List.range_add,List.map_append]
   congr 1
   subst h;simp only[List.map_map,List.flatten_cons,List.flatten_nil,List.append_nil];apply List.ext_getElem?;intro i;simp only[List.getElem?_map,List.getElem?_range];by_cases hi:i<z.length
   ·simp[hi,Nat.mod_eq_of_lt hi]
   ·simp[List.getElem?_eq_none (Nat.le_of_not_lt hi),hi]
def mK:Nat->List MV->List MV
 | 0,_=>[]
 | n+1,z=>z++mK n z
theorem Lx:∀n,(List.replicate n z).flatten=mK n z
 | 0=>rfl
 | n+1=>by rw[List.replicate_succ,List.flatten_cons,Lx n];rfl
theorem ada:mK 1 z=z:=by simp[mK]
theorem adb:mK 2 z=z++z:=by simp[mK]
theorem ade:mK 3 z=z++(z++z):=by simp[mK]
theorem adf:mK 4 z=z++(z++(z++z)):=by simp[mK]
theorem adg:mK 5 z=z++(z++(z++(z++z))):=by simp[mK]
theorem adh:mK 6 z=z++(z++(z++(z++(z++z)))):=by simp[mK]
theorem adi:mK 7 z=z++(z++(z++(z++(z++(z++z))))):=by simp[mK]
theorem adj:mK 8 z=z++(z++(z++(z++(z++(z++(z++z)))))):=by simp[mK]
theorem adk {parts:List (Nat×MV)} (h:z.length=a) (h0:0<n*a) (h1:n*a<=16777216):Y5 n parts (some ⟨u,a,b,z⟩)=(lx (Ss a) (mK n z) parts).map (MV.sl n · .full):=by
 have ha:0<a:=by rcases Nat.eq_zero_or_pos a with e | e; · subst e;omega
                 ·exact e
 have hn:n<=maxLen:=by
  have:n*1<=n*a:=Nat.mul_le_mul_left _ ha;simp[maxLen];omega
 rw[<-Lx, <-Lw h ha];exact if_pos ⟨h0,h1,by show 0<z.length;omega,hn⟩
def bT (b:Bool):Option cn->Option MV
 | some ⟨.bool,_,_,_⟩=>some (.v (.bool b))
 | _=>none
theorem UG {a b:Bool}:cP tab .eql t (.v (.bool a)) (.v (.bool b))=bT (a==b) (tab t):=by
 simp only[cP,bT];cases tab t with
 | none=>rfl
 | some r=>obtain⟨d,_,_,_⟩:=r;cases d<;>rfl
theorem UH {a b:Bool}:cP tab .neq t (.v (.bool a)) (.v (.bool b))=bT (!(a==b)) (tab t):=by
 simp only[cP,bT];cases tab t with
 | none=>rfl
 | some r=>obtain⟨d,_,_,_⟩:=r;cases d<;>rfl
theorem agx {p:Bool}:bT p (some ⟨.bool,a,b,z⟩)=some (.v (.bool p)):=rfl
def pT (b:Bool):Option cn->Option MV
 | some ⟨.pointer _,_,_,_⟩=>some (.v (.bool b))
 | _=>none
theorem agy {p:Bool}:pT p (some ⟨.pointer el,a,b,z⟩)=some (.v (.bool p)):=rfl
theorem adl {p:Bool}:mF tab .eql t p=pT p (tab t):=by
 simp only[mF,pT];cases tab t with
 | none=>rfl
 | some r=>obtain⟨d,_,_,_⟩:=r;cases d<;>rfl
theorem adm {p:Bool}:mF tab .neq t p=pT (!p) (tab t):=by
 simp only[mF,pT];cases tab t with
 | none=>rfl
 | some r=>obtain⟨d,_,_,_⟩:=r;cases d<;>rfl
section
variable {op:BinOp} {la lb:List UInt8}
theorem UI:cP tab op t (.v (.pointer none)) (.v (.pointer none))=mF tab op t true:=by cases op<;>rfl
theorem UJ:cP tab op t (.ptr k o) (.v (.pointer none))=mF tab op t false:=by cases op<;>rfl
theorem UK:cP tab op t (.v (.pointer none)) (.ptr k o)=mF tab op t false:=by cases op<;>rfl
theorem UL:cP tab op t (.cX cs o) (.v (.pointer none))=mF tab op t false:=by cases op<;>rfl
theorem UM:cP tab op t (.v (.pointer none)) (.cX cs o)=mF tab op t false:=by cases op<;>rfl
theorem UN:cP tab op t (.agg cs) (.agg ds)=none:=by cases op<;>rfl
theorem UO:cP tab .eql t (.str la) (.str lb)=some (.v (.bool (la==lb))):=rfl
theorem UP:cP tab .neq t (.str la) (.str lb)=some (.v (.bool (!(la==lb)))):=rfl
theorem UQ:cP tab .lss t (.str la) (.str lb)=some (.v (.bool (Op.bytesLess la lb))):=rfl
theorem UR:cP tab .leq t (.str la) (.str lb)=some (.v (.bool (Op.bytesLess la lb||la==lb))):=rfl
theorem US:cP tab .gtr t (.str la) (.str lb)=some (.v (.bool (!(Op.bytesLess la lb||la==lb)))):=rfl
theorem UT:cP tab .geq t (.str la) (.str lb)=some (.v (.bool (!(Op.bytesLess la lb)))):=rfl
theorem PY (h:la.length+lb.length<=9223372036854775807):cP tab .add t (.str la) (.str lb)=some (.str (la++lb)):=if_pos h
end
theorem Ly (h:tab t=some ⟨.pointer el,a,b,z⟩) {s:Nat} (h':tab el=some ⟨u,s+1,b',z'⟩) {op:BinOp}:cP tab op t (.ptr k o) (.ptr k o)=mF tab op t true:=by
 cases op<;>simp[cP,h,h',mF]
theorem aG (b:UInt8):fB b= .v (.int .u8 b.toNat):=rfl
theorem adn {n k:Nat}:((n:Int)+(k:Int)).toNat=n+k:=by omega
theorem Y6 {n:Nat}:((n:Int)+1).toNat=n+1:=by omega
theorem Y7 {n:Nat}:((n:Int)+2).toNat=n+2:=by omega
theorem Y8 {n:Nat}:((n:Int) - 1).toNat=n - 1:=by omega
theorem UU {n:Nat}:((n+1:Nat):Int) - 1=n:=by omega
theorem ado (h0:0<=i) (h1:i<=255):IntKind.u8.wrap i=i:=by
 simp only[IntKind.wrap,IntKind.signed,IntKind.bits];simp;omega
theorem Y9 (h0:0<=i) (h1:i<=18446744073709551615):IntKind.u64.wrap i=i:=by
 simp only[IntKind.wrap,IntKind.signed,IntKind.bits];simp;omega
theorem Y_ (h:0<=j):cP tab .shr t (.v (.int kk i)) (.v (.int kk' j))=some (.v (.int kk (i.fdiv (2 ^ (min j.toNat kk.bits))))):=by
 have:¬j<0:=by omega
 simp[cP,yQ,this]
theorem Za:cP tab .and t (.v (.int kk i)) (.v (.int kk j))=some (.v (.int kk (kk.wrap (BitVec.ofInt kk.bits i&&& BitVec.ofInt kk.bits j).toNat))):=by simp[cP,qo]
theorem Zb (h:j≠0):cP tab .rem t (.v (.int kk i)) (.v (.int kk j))=some (.v (.int kk (i.tmod j))):=T0 h
theorem Zc (h:j≠0):cP tab .quo t (.v (.int kk i)) (.v (.int kk j))=some (.v (.int kk (kk.wrap (i.tdiv j)))):=TZ h
end
section
variable {x y z:Operand} {t t':TypeId} {f:Nat} {q:BinOp} {r:UnOp} {as_ Uf:Array Operand} {ts:Array TypeId} {l h k:Option Operand} {fn:Fn} {ps:Array (Nat×Operand)} {bb:Bool}
theorem Zd:cj (.move x)=false:=rfl
theorem PZ:cj (.assign x)=false:=rfl
theorem Ze:cj (.pick x y z)=false:=rfl
theorem IT:cj (.nilCheck x)=false:=rfl
theorem UW:cj (.binOp q t x y t')=false:=rfl
theorem Zf:cj (.unOp r t x)=false:=rfl
theorem LA:cj (.convert t t' x)=false:=rfl
theorem Gd:cj (.fieldAddr t x f)=false:=rfl
theorem UX:cj (.field t x f)=false:=rfl
theorem Gf:cj (.indexAddr t x y)=false:=rfl
theorem UY:cj (.index t x y)=false:=rfl
theorem LB:cj (.extract x f)=false:=rfl
theorem UZ:cj (.slice t x l h k)=false:=rfl
theorem U0:cj (.build t ps)=false:=rfl
theorem IU:cj (.makeFunc fn as_ Uf)=false:=rfl
theorem zI:cj (.makeInterface t x)=false:=rfl
theorem Zg:cj (.load t x)=false:=rfl
theorem U3:cj (.store t x y)=false:=rfl
theorem adp:cj (.box t x)=false:=rfl
theorem U4:cj (.alloc t)=false:=rfl
theorem Ea:cj (.buildSlice t f ps)=false:=rfl
theorem LC:cj (.makeMap t l)=false:=rfl
theorem P1:cj (.lookup t x y bb)=false:=rfl
theorem Gg:cj (.mapUpdate t x y z)=false:=rfl
theorem P2:cj (.insert t x y z)=false:=rfl
theorem Gi:cj (.makeSlice t x y)=false:=rfl
theorem U5:cj (.range t x)=false:=rfl
theorem Zh:cj (.next x bb)=false:=rfl
theorem U6:cj (.entry x)=false:=rfl
theorem Ed:cj (.typeAssert x t t' bb)=false:=rfl
theorem U7:cj (.panic x)=false:=rfl
theorem IV:cj (.mapEntry t x y)=false:=rfl
theorem Ee:cj (.entryStore t x y z)=false:=rfl
theorem Zi:cj (.call {callee:=.builtin .len,args:=as_,argTypes:=ts})=false:=rfl
theorem Zj:cj (.call {callee:=.builtin .max,args:=as_,argTypes:=ts})=false:=rfl
theorem Zk:cj (.call {callee:=.builtin .min,args:=as_,argTypes:=ts})=false:=rfl
theorem uN:cj (.call {callee:=.builtin .unsafeSliceData,args:=as_,argTypes:=ts})=false:=rfl
theorem zJ:cj (.call {callee:=.builtin .unsafeString,args:=as_,argTypes:=ts})=false:=rfl
theorem P3:cj (.call {callee:=.builtin .clear,args:=as_,argTypes:=ts})=false:=rfl
theorem U8:cj (.call {callee:=.builtin .copy,args:=as_,argTypes:=ts})=false:=rfl
theorem Zl:cj (.call {callee:=.builtin .cap,args:=as_,argTypes:=ts})=false:=rfl
theorem LD:cj (.call {callee:=.builtin .delete,args:=as_,argTypes:=ts})=false:=rfl
theorem P4:cj (.call {callee:=.builtin .print,args:=as_,argTypes:=ts})=false:=rfl
theorem IW:cj (.call {callee:=.builtin .println,args:=as_,argTypes:=ts})=false:=rfl
theorem IX:cj (.call {callee:=.builtin .recover,args:=as_,argTypes:=ts})=false:=rfl
theorem adq:cj (.call {callee:=.value x,args:=as_,argTypes:=ts})=true:=rfl
theorem adr:cj (.call {callee:=.builtin .append,args:=as_,argTypes:=ts})=true:=rfl
theorem ads:F7 .one=false:=rfl
theorem adt:F7 .aw=false:=rfl
theorem agz:F7 .rd=false:=rfl
theorem agA:F7 .fk=true:=rfl
end
theorem ay.next {σ :Type} {l K:List Nat} {ks:List MV} {ms: σ ->List MV} {I: σ ->VH->Prop} {μ : σ ->Nat} {s: σ} {Q:VQ} {e:Env} {O:VH} (s': σ) (hI:I s' O) (hk:looks e K=some ks:=by exact rfl) (hl:looks e l=some (ms s'):=by exact rfl) (hm: μ s'< μ s:=by first | omega | (dsimp only;omega)):ay l K ks ms I μ s Q .normal e O:=⟨hk,s',hl,hI,hm⟩
set_option linter.defProp false in
def ws0:=And.intro @Zd<|And.intro @PZ<|And.intro @Ze<|And.intro @IT<|And.intro @UW<|And.intro @Zf<|And.intro @LA<|And.intro @Gd<|And.intro @UX<|And.intro @Gf<|And.intro @UY<|And.intro @LB<|And.intro @UZ<|And.intro @U0<|And.intro @IU<|And.intro @zI<|And.intro @Zg<|And.intro @U3<|And.intro @adp<|And.intro @U4<|And.intro @Ea<|And.intro @LC<|And.intro @P1<|And.intro @Gg<|And.intro @P2<|And.intro @Gi<|And.intro @U5<|And.intro @Zh<|And.intro @U6<|And.intro @Ed<|And.intro @U7<|And.intro @IV<|And.intro @Ee<|And.intro @Zi<|And.intro @Zj<|And.intro @Zk<|And.intro @uN<|And.intro @zJ<|And.intro @P3<|And.intro @U8<|And.intro @Zl<|And.intro @LD<|And.intro @P4<|And.intro @IW<|And.intro @IX<|And.intro @adq<|And.intro @adr<|And.intro @ads<|And.intro @adt<|And.intro @agz<|And.intro @agA<|And.intro @acu<|And.intro @Ym<|And.intro @Yn<|And.intro @agc<|And.intro @Yo<|And.intro @Yp<|And.intro @Yq<|And.intro @Yr<|And.intro @Lm<|And.intro @F8<|And.intro @Ys<|And.intro @Yt<|And.intro @Ui<|And.intro @acv<|And.intro @Uj<|And.intro @Uk<|And.intro @Ul<|And.intro @acw<|And.intro @Yv<|And.intro @PG<|And.intro @Um<|And.intro @Yw<|And.intro @IM<|And.intro @PH<|And.intro @PI<|And.intro @Un<|And.intro @B5<|And.intro @Yx @Yy
set_option linter.defProp false in
def ws1:=And.intro @Uo<|And.intro @PJ<|And.intro @IN<|And.intro @F9<|And.intro @acx<|And.intro @acy<|And.intro @acz<|And.intro @acA<|And.intro @acB<|And.intro @IP<|And.intro @Up<|And.intro @Ln<|And.intro @ux<|And.intro @zf<|And.intro @BW<|And.intro @w6<|And.intro @zx<|And.intro @zy<|And.intro @B3<|And.intro @qN<|And.intro @uw<|And.intro @zc<|And.intro @ze<|And.intro @BV<|And.intro @qM<|And.intro @Lh<|And.intro @Sq<|And.intro @Sr<|And.intro @AR<|And.intro @xM<|And.intro @uF<|And.intro @uG<|And.intro @uH<|And.intro @yZ<|And.intro @BR<|And.intro @uv<|And.intro @BT<|And.intro @zw<|And.intro @BZ<|And.intro @uC<|And.intro @B1<|And.intro @v7<|And.intro @Hn<|And.intro @Lb<|And.intro @R_<|And.intro @Sa<|And.intro @Sb<|And.intro @Sc<|And.intro @Sd<|And.intro @Se<|And.intro @Sf<|And.intro @Ho<|And.intro @Hp<|And.intro @BX<|And.intro @Hq<|And.intro @w7<|And.intro @DT<|And.intro @Hr<|And.intro @zm<|And.intro @uA<|And.intro @DU<|And.intro @uB<|And.intro @DV<|And.intro @zp<|And.intro @DW<|And.intro @DY<|And.intro @w8<|And.intro @pe<|And.intro @Hs<|And.intro @DZ<|And.intro @Lc<|And.intro @Ld<|And.intro @Lf<|And.intro @BY<|And.intro @PD<|And.intro @D0<|And.intro @Lg<|And.intro @D1<|And.intro @th @uD
set_option linter.defProp false in
def ws2:=And.intro @aeD<|And.intro @aeE<|And.intro @Si<|And.intro @Sj<|And.intro @Sk<|And.intro @Sl<|And.intro @y_<|And.intro @zb<|And.intro @DQ<|And.intro @DR<|And.intro @aj<|And.intro @DP<|And.intro @wrap_i64<|And.intro @G7<|And.intro @BQ<|And.intro @Li<|And.intro @Sn<|And.intro @So<|And.intro @wY<|And.intro @DI<|And.intro @G8<|And.intro @yX<|And.intro @uq<|And.intro @DJ<|And.intro @ur<|And.intro @DK<|And.intro @yY<|And.intro @DL<|And.intro @wZ<|And.intro @DM<|And.intro @KP<|And.intro @G9<|And.intro @G_<|And.intro @Ux<|And.intro @KR<|And.intro @KS<|And.intro @Ps<|And.intro @Ha<|And.intro @DN<|And.intro @KU<|And.intro @Lu<|And.intro @tf<|And.intro @uu<|And.intro @R6<|And.intro @R7<|And.intro @KM<|And.intro @R8<|And.intro @G5<|And.intro @DG<|And.intro @DH<|And.intro @yW<|And.intro @BO<|And.intro @KN<|And.intro @lR<|And.intro @KO<|And.intro @G6<|And.intro @Hb<|And.intro @Hc<|And.intro @Hd<|And.intro @He<|And.intro @Hf<|And.intro @Hg<|And.intro @Hh<|And.intro @Hi<|And.intro @Hj<|And.intro @KV<|And.intro @KW<|And.intro @ar<|And.intro @aY<|And.intro @uI<|And.intro @D2<|And.intro @Us<|And.intro @YF<|And.intro @Ut<|And.intro @Uu<|And.intro @Uv<|And.intro @Uw<|And.intro @PN<|And.intro @PO @aeG
set_option linter.defProp false in
def ws3:=And.intro @acC<|And.intro @YH<|And.intro @YI<|And.intro @acD<|And.intro @acE<|And.intro @acF<|And.intro @YJ<|And.intro @YK<|And.intro @ahD<|And.intro @acG<|And.intro @ahE<|And.intro @ahF<|And.intro @acH<|And.intro @YM<|And.intro @YN<|And.intro @Uy<|And.intro @YO<|And.intro @YP<|And.intro @YQ<|And.intro @acI<|And.intro @YR<|And.intro @YS<|And.intro @acJ<|And.intro @acK<|And.intro @ahG<|And.intro @agi<|And.intro @agj<|And.intro @agk<|And.intro @agl<|And.intro @acL<|And.intro @YT<|And.intro @YU<|And.intro @acM<|And.intro @acN<|And.intro @YV<|And.intro @IQ<|And.intro @Ga<|And.intro @acS<|And.intro @PQ<|And.intro @Y0<|And.intro @Ls<|And.intro @Lt<|And.intro @eJ<|And.intro @so<|And.intro @D9<|And.intro @PR<|And.intro @agm<|And.intro @agn<|And.intro @ago<|And.intro @agp<|And.intro @agq<|And.intro @agr<|And.intro @Y1<|And.intro @UC<|And.intro @Y2<|And.intro @acT<|And.intro @acU<|And.intro @acV<|And.intro @ahH<|And.intro @ags<|And.intro @acW<|And.intro @acX<|And.intro @agt<|And.intro @acY<|And.intro @acZ<|And.intro @agu<|And.intro @ac0<|And.intro @ac1<|And.intro @agv<|And.intro @ac2<|And.intro @ac3<|And.intro @ac4<|And.intro @D_<|And.intro @AT<|And.intro @ahI<|And.intro @Y3<|And.intro @Y4<|And.intro @ac5<|And.intro @ac6 @ac7
set_option linter.defProp false in
def ws4:=And.intro @ac8<|And.intro @PU<|And.intro @UD<|And.intro @PV<|And.intro @PX<|And.intro @Lv<|And.intro @UE<|And.intro @UF<|And.intro @PW<|And.intro @ac9<|And.intro @ahJ<|And.intro @ac_<|And.intro @agw<|And.intro @adk<|And.intro @ada<|And.intro @adb<|And.intro @ade<|And.intro @adf<|And.intro @adg<|And.intro @adh<|And.intro @adi<|And.intro @adj<|And.intro @UG<|And.intro @UH<|And.intro @agx<|And.intro @agy<|And.intro @adl<|And.intro @adm<|And.intro @UI<|And.intro @UJ<|And.intro @UK<|And.intro @UL<|And.intro @UM<|And.intro @UN<|And.intro @UO<|And.intro @UP<|And.intro @UQ<|And.intro @UR<|And.intro @US<|And.intro @UT<|And.intro @PY<|And.intro @adn<|And.intro @Y6<|And.intro @Y7<|And.intro @Y8<|And.intro @UU<|And.intro @ado<|And.intro @Y9<|And.intro @Zb<|And.intro @Zc<|And.intro @Y_<|And.intro @Za<|And.intro @Option.map_none.{0,0}<|And.intro @Option.bind_none.{0,0}<|And.intro @Int.zero_sub<|And.intro @Bool.not_true<|And.intro @Bool.not_false<|And.intro @Bool.or_false<|And.intro @Bool.or_true<|And.intro @Bool.true_or<|And.intro @Bool.false_or<|And.intro @Bool.and_true<|And.intro @Bool.and_false<|And.intro @Bool.true_and<|And.intro @Bool.false_and<|And.intro @decide_true<|And.intro @decide_eq_true<|And.intro @decide_eq_false<|And.intro @Nat.zero_add<|And.intro @Nat.mul_one<|And.intro @Int.toNat_natCast<|And.intro @Nat.add_zero<|And.intro @Nat.sub_zero<|And.intro @List.set_cons_zero.{0}<|And.intro @List.set_cons_succ.{0}<|And.intro @List.take_succ_cons.{0}<|And.intro @List.take_zero.{0}<|And.intro @List.drop_succ_cons.{0}<|And.intro @List.drop_zero.{0} @List.getElem?_toArray.{0}
set_option linter.defProp false in
def ws5:=And.intro @List.getElem?_cons_zero.{0}<|And.intro @List.getElem?_cons_succ.{0}<|And.intro @Option.bind_some.{0,0}<|And.intro @Option.map_some.{0,0}<|And.intro @List.map_cons.{0,0}<|And.intro @List.map_nil.{0,0}<|And.intro @List.getElem?_map.{0,0}<|And.intro @List.getElem_map.{0,0}<|And.intro @if_true.{1}<|And.intro @if_false.{1}<|And.intro @cond_true.{1}<|And.intro @cond_false.{1}<|And.intro @List.toList_toArray.{0}<|And.intro @List.cons_append.{0}<|And.intro @List.nil_append.{0}<|And.intro @true_and<|And.intro @and_true<|And.intro @eq_self.{1} @Bool.false_eq_true
set_option linter.defProp false in
def ws:=And.intro @ws0<|And.intro @ws1<|And.intro @ws2<|And.intro @ws3<|And.intro @ws4 @ws5
set_option linter.defProp false in
def ds:=And.intro @eJ<|And.intro @so<|And.intro @D9<|And.intro @AR<|And.intro @xM<|And.intro @uF<|And.intro @uG<|And.intro @uH<|And.intro @acO<|And.intro @acP<|And.intro @acQ<|And.intro @acR<|And.intro @YX<|And.intro @Uz<|And.intro @UA<|And.intro @YY<|And.intro @YZ<|And.intro @List.length_cons.{0}<|And.intro @List.length_nil.{0}<|And.intro @List.all_cons.{0}<|And.intro @List.all_nil.{0}<|And.intro @Bool.and_true<|And.intro @Bool.true_and<|And.intro @Bool.and_self<|And.intro @List.length_set.{0}<|And.intro @List.length_append.{0}<|And.intro @List.length_map.{0,0}<|And.intro @and_true<|And.intro @true_and<|And.intro @eq_self.{1}<|And.intro @Option.some.injEq.{0}<|And.intro @bW.cells.injEq<|And.intro @ne_eq.{1} @not_false_eq_true
section
variable {G H:Gh} {n:Sz} {D:List Deferred} {e:Env} {a:Act} {P:Program} {tab:bV} {O O':VH} {w:World} {m m':MV} {u v:Value} {ops:Array Oper} {Q:VQ} {md:Md}
def zK (K:MV->VH->Prop):Option (MV×VH)->Prop
 | some (m,O)=>K m O
 | none=>False
theorem sy {K:MV->VH->Prop}:zK K (some (m,O))=K m O:=rfl
theorem bY.Hw (i:Nat) {fuel:Nat} {listed:Array Bool} {l:List Oper} {o:Oper} (h:zK (fun m O'=>bY P n D ⟨l⟩ fuel (listed.setIfInBounds i true) (aV o.dst m e) O' Q) (ir tab .aw o e O)) (ht:aM P tab:=by exact aa) (ho:l[i]?=some o:=by exact rfl) (hs:Region.noSelect ⟨l⟩=true:=by kernel_rfl) (hf:Region.free .any ⟨l⟩ listed i=true:=by kernel_rfl) (hr:(Region.ready .any ⟨l⟩ listed).contains i=true:=by kernel_rfl) (hg:aK ⟨l⟩ o e=some true:=by exact rfl) (hd:bh n o.dst=true:=by exact rfl):bY P n D ⟨l⟩ (fuel+1) listed e O Q:=by
 generalize hv:ir tab .aw o e O=v at h;cases v with
 | none=>exact h.elim
 | some p=>
   obtain⟨m,O'⟩:=p;obtain⟨h1,rfl⟩:=ny hv;exact bY.R5 ht (by simpa using ho) hs hf hr hg h1 hd h
theorem aI.st {i:Nat} {l:List Oper} {o:Oper} {M:MV->VH->Prop} {K:Env->VH->Prop} (hy:fQ P n D o e O M) (h:∀m O',M m O'->K (aV o.dst m e) O') (ho:l[i]?=some o:=by exact rfl) (hg:aK ⟨l⟩ o e=some true:=by exact rfl) (hd:bh n o.dst=true:=by exact rfl):aI P n D ⟨l⟩ i e O Q K:=
 aI.h_ (by simpa using ho) hg hd hy h
theorem aI.o1 {i:Nat} {l:List Oper} {o:Oper} {K:Env->VH->Prop} (h:zK (fun m O'=>K (aV o.dst m e) O') (cT tab o e O)) (ht:aM P tab:=by exact aa) (ho:l[i]?=some o:=by exact rfl) (hg:aK ⟨l⟩ o e=some true:=by exact rfl) (hd:bh n o.dst=true:=by exact rfl):aI P n D ⟨l⟩ i e O Q K:=by
 generalize hv:cT tab o e O=v at h;cases v with
 | none=>exact h.elim
 | some p=>exact aI.op ht (by simpa using ho) hg hv hd h
theorem bY.bH (ix:List (Nat×Fl)) {fuel:Nat} {listed:Array Bool} {l:List Oper} {L:List (Fl×Oper)}
  (h:WL P tab n D .any ⟨l⟩ Q L e O) (ht:aM P tab:=by exact aa) (hs:Region.noSelect ⟨l⟩=true:=by kernel_rfl) (hp:cz .any ⟨l⟩ fuel listed ix=true:=by kernel_rfl) (hL:nA l ix=some L:=by exact rfl):bY P n D ⟨l⟩ fuel listed e O Q:=(WL.sound ht h) fuel listed ix (sq hL) (fun _=>⟨hs,hp⟩)
end
section
variable {G H:Gh} {n:Sz} {D:List Deferred} {e:Env} {a:Act} {P:Program} {tab:bV} {O O' B:VH} {w:World} {m m':MV} {u v:Value} {ops:Array Oper} {Q:VQ} {md:Md} {c d:Code} {σ :Type}
def aA {σ :Type} (l:List Nat) (ms: σ ->List MV) (I: σ ->VH->Prop) (Q:VQ):VQ:=fun x e O=>match x with
 | .normal=>∃s,looks e l=some (ms s)/\I s O
 | x=>Q x e O
theorem LG {l:List Nat} {ms: σ ->List MV} {I: σ ->VH->Prop} {i:Nat}:aA l ms I Q (.exit i) e O=Q (.exit i) e O:=rfl
theorem LH {l:List Nat} {ms: σ ->List MV} {I: σ ->VH->Prop} {i:Nat}:aA l ms I Q (.goto i) e O=Q (.goto i) e O:=rfl
theorem P5 {l:List Nat} {ms: σ ->List MV} {I: σ ->VH->Prop}:aA l ms I Q .ret e O=Q .ret e O:=rfl
theorem IY {l:List Nat} {ms: σ ->List MV} {I: σ ->VH->Prop}:aA l ms I Q (.panic m) e O=Q (.panic m) e O:=rfl
theorem aA.mk {l:List Nat} {ms: σ ->List MV} {I: σ ->VH->Prop} (s: σ) (h2:I s O) (h1:looks e l=some (ms s):=by exact rfl):aA l ms I Q .normal e O:=⟨s,h1,h2⟩
theorem VC.join (ht:aM P tab) (l:List Nat) (ms: σ ->List MV) (I: σ ->VH->Prop) (h1:VC P n D c e O (aA l ms I Q)) (h2:∀s O,I s O->WC P tab n D d (iY l (ms s) []) O Q):VC P n D (.seq c d) e O Q:=by
 refine VC.seq (VC.mono ?_ h1);intro x e O h;cases x with
 | normal=>
   obtain⟨s,h3,h4⟩:=h;exact VC.env (WC.sound ht (h2 s O h4)) (iu (e0:=[]) (fun t x h=>by simp[look]at h) h3)
 | _=>exact h
def IZ (P:Program) (n:Sz) (D:List Deferred) (b:Code) (Q:VQ):Env->VH->Prop:=fun e O=>VC P n D b e O Q
theorem U9 {b:Code}:IZ P n D b Q e O=VC P n D b e O Q:=rfl
theorem VC.ag (ht:aM P tab) (h:WC P tab n D c e O (qp (IZ P n D d Q) Q)):VC P n D (.seq c d) e O Q:=by
 refine VC.seq (VC.mono ?_ (WC.sound ht h));intro x e O h;cases x<;>exact h
theorem VC.bj (h:VC P n D c e O (qp (IZ P n D d Q) Q)):VC P n D (.seq c d) e O Q:=by
 refine VC.seq (VC.mono ?_ h);intro x e O h;cases x<;>exact h
theorem VF.Gj (ht:aM P tab) {f:FuncId} {fn:Func} {c:Code} {args:List MV} {rs:List ResultVar} {R:fO->VH->Prop} (hf:P.funcs[f]?=some fn) (hb:fn.body=some c) (hk:(⟨fn.ntmps,0⟩:Sz)=n) (hr:fn.results.toList=rs) (hn:args.length<=n.n)
  (h:VC P n [] c (cf 0 args) O (B4 tab rs R)):VF P f args O R:=by
 subst hk;refine VF.enter ht hf hb hn (VC.mono ?_ h);intro x e O hx
 have key:iO R O (iw tab e O rs)->∃m,c8 tab fn e O=some m/\R (.ret m) O:=fun h=>by
  unfold c8;rw[hr, <-rF];generalize iw tab e O rs=z at h;unfold iO at h;split at h
  ·exact h.elim
  ·exact⟨_,rfl,h⟩
  ·rename_i l hl;refine⟨.tuple l,?_,h⟩
   match l,hl with
   | [],_=>rfl
   | [m],hl=>exact absurd rfl (hl m)
   | _::_::_,_=>rfl
 cases x<;>first | exact key hx | exact hx
theorem VF.bL {f:FuncId} {fn:Func} {c:Code} {args:List MV} {R:fO->VH->Prop} {Q':Prop} (k:Nat) (rs:List ResultVar) (hf:P.funcs[f]?=some fn) (q:Q') (ht:aM P tab:=by exact aa) (hb:fn.body=some c:=by exact rfl) (hk:(⟨fn.ntmps,0⟩:Sz)=⟨k,0⟩:=by exact rfl) (hr:fn.results.toList=rs:=by exact rfl) (hn:args.length<=k:=by exact Nat.le_of_ble_eq_true rfl) (h:VC P ⟨k,0⟩ [] c (cf 0 args) O (B4 tab rs R)=Q':=by conv=>lhs;simp only[cf,Nat.zero_add,Nat.reduceAdd]):VF P f args O R:=VF.Gj ht hf hb hk hr hn (h.mpr q)
theorem VC.bq {ks:List MV} (ls Ks:List Nat) (ms: σ ->List MV) (I: σ ->VH->Prop) (μ : σ ->Nat) (s0: σ) (hI:I s0 O)
  (step:∀s O,I s O->VC P n D c (iY ls (ms s) (iY Ks ks [])) O (ay ls Ks ks ms I μ s Q)) (h0:looks e ls=some (ms s0):=by exact rfl) (hk:looks e Ks=some ks:=by exact rfl):VC P n D (.loop c) e O Q:=VC.iG ls Ks ms I μ s0 h0 hk hI step
theorem VC.agB {K:Env->VH->Prop} {id:Nat} (l:List Nat) (ms: σ ->List MV) (I: σ ->VH->Prop) (h1:VC P n D c e O (iq id (aA l ms I Q))) (h2:∀s O,I s O->K (iY l (ms s) []) O):VC P n D c e O (iq id (qp K Q)):=by
 intro G a w hw hf;refine wp_mono (h1 G a w hw hf) ?_;rintro y a' w' ⟨x,e',O',H,g1,g2,g3,g4,g5⟩
 have nor:∀{x':VX},x'= .normal\/x'= .exit id->(∃s,looks e' l=some (ms s)/\I s O')->FR H n D e' a'->XR H x' y->(∀e O,K e O->iq id (qp K Q) x' e O)->(∀e,FR H n D e a'->FRX H n D x' e a')->cg G n D (iq id (qp K Q)) y a' w':=fun hx ⟨s,h3,h4⟩ hf' hy hK hF=>
  ⟨_,iY l (ms s) [],O',H,g1,g2,hF _ (hf'.less (iu (e0:=[]) (fun t x h=>by simp[look]at h) h3)),hy,hK _ _ (h2 s O' h4)⟩
 cases x with
 | normal=>exact nor (.inl rfl) g5 g3 g4 (fun e O h=>h) (fun e h=>h)
 | exit i=>
   by_cases hi:i=id
   ·subst hi;simp only[iq,if_true]at g5;exact nor (.inr rfl) g5 g3 g4 (fun e O h=>by simp only[iq,if_true];exact h) (fun e h=>h)
   ·refine⟨.exit i,e',O',H,g1,g2,g3,g4,?_⟩;simp only[iq,hi,if_false]at g5 ⊢;exact g5
 | _=>exact⟨_,e',O',H,g1,g2,g3,g4,g5⟩
def ex1:MV->Bool
 | .v _=>true
 | .str _=>true
 | _=>false
def exM:MV->Bool
 | .v _=>true
 | .str _=>true
 | .agg cs=>cs.all ex1
 | _=>false
theorem Ef (h:ex1 m=true) (h1:VR G m u):VR H m u:=by
 cases m with
 | v x=>have:=h1.iD;subst this;cases h1 with | v hp=>exact .v hp
 | str l=>cases h1;exact .str
 | _=>cases h
theorem Eg (h:ex1 m=true) (h1:VR G m u) (h2:VR H m v):v=u:=by
 cases m with
 | v x=>rw[h1.iD,h2.iD]
 | str l=>cases h1;cases h2;rfl
 | _=>cases h
theorem adu (h:exM m=true) (h1:VR G m u):VR H m u:=by
 cases m with
 | v x=>exact Ef (m:=.v x) rfl h1
 | str l=>exact Ef (m:=.str l) rfl h1
 | agg cs=>
   cases h1 with
   | agg h2 h3=>exact .agg h2 fun i c u a b=>Ef (List.all_eq_true.1 h c (List.mem_of_getElem? a)) (h3 i c u a b)
 | _=>cases h
theorem St (h:exM m=true) (h1:VR G m u) (h2:VR H m v):v=u:=by
 cases m with
 | v x=>exact Eg (m:=.v x) rfl h1 h2
 | str l=>exact Eg (m:=.str l) rfl h1 h2
 | agg cs=>
   cases h1 with
   | agg h3 h4=>
     cases h2 with
     | agg h5 h6=>
       congr 2
       refine List.ext_getElem? fun i=>?_
       rename_i us vs;rcases Nat.lt_or_ge i cs.length with hi | hi
       ·have e1:=List.getElem?_eq_getElem (show i<us.length by omega);have e2:=List.getElem?_eq_getElem (show i<vs.length by omega);have e3:=List.getElem?_eq_getElem hi;rw[e1,e2]
        congr 1
        exact Eg (List.all_eq_true.1 h _ (List.getElem_mem hi)) (h4 i _ _ e3 e1) (h6 i _ _ e3 e2)
       ·rw[List.getElem?_eq_none (by omega),List.getElem?_eq_none (by omega)]
 | _=>cases h
def sA (G:Gh) (J:VH->Prop) (x:World):Prop:=∃H O',Gh.Le G H/\WR H O' x/\J O'
theorem sA.le {J:VH->Prop} (h:G.Le H) {x:World} (hb:sA H J x):sA G J x:=by
 obtain⟨K,O',h1,h2,h3⟩:=hb;exact⟨K,O',h.trans h1,h2,h3⟩
theorem sA.ss {J:VH->Prop} {x:World} (h:sA G J x):SS G x:=by
 obtain⟨K,O',h1,h2,_⟩:=h;exact SS.le h1 h2.ss
def TE (brk:List Nat) (G:Gh) (J:VH->Prop) (j:Nat) (x:World):Prop:=SS G x/\(brk.contains j=false->sA G J x)
theorem TE.le {J:VH->Prop} {brk:List Nat} {j:Nat} {x:World} (h:G.Le H) (t:TE brk H J j x):TE brk G J j x:=⟨SS.le h t.1,fun k=>(t.2 k).le h⟩
theorem TE.mk {J:VH->Prop} {brk:List Nat} {j:Nat} {x:World} (h:sA G J x):TE brk G J j x:=⟨h.ss,fun _=>h⟩
def ab (P:Program) (n:Sz) (D:List Deferred) (ops:Array Oper) (brk:List Nat) (J:VH->Prop) (Ψ :Gh->Prop) (Z:Prop) (fuel:Nat) (listed:Array Bool) (e:Env) (O:VH) (Q:VQ):Prop:=
 (∀G H,Gh.Le G H-> Ψ G-> Ψ H)->Z->J O->∀G a w, Ψ G->WR G O w->FR G n D e a->iT P .any ops (cg G n D Q) (TE brk G J) fuel listed a w
theorem VC.nB {id:Nat} (brk:List Nat) (h:ab P n D ops brk (fun O'=>O.Ge O') (fun _=>True) (∀k,O.next<=k->O.hp k=none) ops.size (Array.replicate ops.size false) e O Q) (hm:P.follows .mixedOrders=true:=by kernel_rfl):VC P n D (.region id ops true) e O Q:=
 fun G a w hw hf=>wp_region_any hm (kz _ _ _ _ (h (fun _ _ _ _=>trivial) (fun k hk=>(hw.o8 k hk).2.2) (VH.Ge.refl O) G a _ trivial (hw.drawn _) hf))
theorem ab.take {J:VH->Prop} {Z:Prop} {brk:List Nat} {Ψ :Gh->Prop} {fuel i:Nat} {listed:Array Bool} {o:Oper} (ho:ops[i]?=some o) (hs:Region.noSelect ops=true) (hf:Region.free .any ops listed i=true) (hr:(Region.ready .any ops listed).contains i=true) (hb:lQ ops brk listed i=true)
  (hd:bh n o.dst=true) (hy:∀G a w,Z->J O-> Ψ G->WR G O w->FR G n D e a->∃u,VR G m u/\YieldsIf P ops (sA G J) o u a) (h:ab P n D ops brk J Ψ Z fuel (listed.setIfInBounds i true) (aV o.dst m e) O Q):ab P n D ops brk J Ψ Z (fuel+1) listed e O Q:=by
 intro hΨ hZ hJ G a w hψ hw aS;obtain⟨u,hu,hyi⟩:=hy G a w hZ hJ hψ hw aS;refine nM (S:=sA G J) (W:=fun j=>∃k,j∈j9 ops listed i k) (brk:=fun j=>brk.contains j) ho (Region.noSelect_spec hs) (gQ hd) (fun j x hj hT=>hT.2 hj) (fun x hx=>TE.mk hx) fuel listed a w (Region.free_spec ho hf) BN G3 (G4 hb) (by simpa using hr) hyi ⟨G,O,Gh.Le.refl G,hw,hJ⟩ (h hΨ hZ hJ G _ w hψ hw (aS.aV hd hu))
theorem ab.aw (i:Nat) {brk:List Nat} {Ψ :Gh->Prop} {J:VH->Prop} {Z:Prop} {fuel:Nat} {listed:Array Bool} {l:List Oper} {o:Oper} (h:zK (fun m O'=>ab P n D ⟨l⟩ brk J Ψ Z fuel (listed.setIfInBounds i true) (aV o.dst m e) O' Q) (ir tab .aw o e O)) (ht:aM P tab:=by exact aa) (ho:l[i]?=some o:=by exact rfl) (hs:Region.noSelect ⟨l⟩=true:=by kernel_rfl) (hf:Region.free .any ⟨l⟩ listed i=true:=by kernel_rfl) (hr:(Region.ready .any ⟨l⟩ listed).contains i=true:=by kernel_rfl) (hb:lQ ⟨l⟩ brk listed i=true:=by kernel_rfl) (hg:aK ⟨l⟩ o e=some true:=by exact rfl) (hd:bh n o.dst=true:=by exact rfl):ab P n D ⟨l⟩ brk J Ψ Z (fuel+1) listed e O Q:=by
 generalize hv:ir tab .aw o e O=v at h;cases v with
 | none=>exact h.elim
 | some p=>
   obtain⟨m,O'⟩:=p;obtain⟨h1,rfl⟩:=ny hv;refine ab.take (by simpa using ho) hs hf hr hb hd (fun G a w _ _ _ hw aS=>?_) h;obtain⟨u,hu,bU⟩:=ui (P:=P) ht aS h1
   exact⟨u,hu,.inl ⟨bd aS hg,fun x hx=>by
    obtain⟨H,O2,h2,h3,_⟩:=hx;exact bU x (SS.le h2 h3.ss)⟩⟩
theorem ab.skip (i:Nat) {brk:List Nat} {Ψ :Gh->Prop} {J:VH->Prop} {Z:Prop} {fuel:Nat} {listed:Array Bool} {l:List Oper} {o:Oper} (h:ab P n D ⟨l⟩ brk J Ψ Z fuel (listed.setIfInBounds i true) (aV o.dst cw e) O Q) (ho:l[i]?=some o:=by exact rfl) (hs:Region.noSelect ⟨l⟩=true:=by kernel_rfl) (hf:Region.free .any ⟨l⟩ listed i=true:=by kernel_rfl) (hr:(Region.ready .any ⟨l⟩ listed).contains i=true:=by kernel_rfl) (hb:lQ ⟨l⟩ brk listed i=true:=by kernel_rfl) (hg:aK ⟨l⟩ o e=some false:=by exact rfl) (hd:bh n o.dst=true:=by exact rfl):ab P n D ⟨l⟩ brk J Ψ Z (fuel+1) listed e O Q:=
 ab.take (by simpa using ho) hs hf hr hb hd (fun G a w _ _ _ hw aS=>⟨undef,jT,.inr ⟨bd aS hg,rfl⟩⟩) h
theorem LI {t:TypeId} {p:MV} (hB:B.Ge O) (hN:∀k,B.next<=k->B.hp k=none) (h:eM tab B t p=some m):eM tab O t p=some m:=by
 unfold eM at h ⊢
 have:∀{cs off},cellsOf B p=some (cs,off)->cellsOf O p=some (cs,off):=fun{cs off} hc=>by
  unfold cellsOf at hc ⊢;split at hc
  ·split at hc
   ·rename_i hk;have eb:=Nat.lt_of_not_le fun hle=>by rw[hN _ hle]at hk;cases hk
    rw[hB.hp _ eb,hk];exact hc
   ·cases hc
  ·exact hc
  ·cases hc
 split at h
 ·rename_i i cs off hi hc;rw[this hc,hi];exact h
 ·cases h
theorem ab.ld (i:Nat) {Ψ :Gh->Prop} {brk:List Nat} {fuel:Nat} {listed:Array Bool} {l:List Oper} {d:Option Tmp} {t:TypeId} {x:Operand} {ty:TypeId} {ps:String} {af:Array Edge} {g:Option (Nat×Bool)} {p:MV} (hv:eM tab B t p=some m) (h:ab P n D ⟨l⟩ brk (fun O'=>B.Ge O') Ψ (∀k,B.next<=k->B.hp k=none) fuel (listed.setIfInBounds i true) (aV d m e) O Q) (ht:aM P tab:=by exact aa) (ho:l[i]?=some (.mk d (.load t x) ty ps af g):=by exact rfl) (hs:Region.noSelect ⟨l⟩=true:=by kernel_rfl) (hf:Region.free .any ⟨l⟩ listed i=true:=by kernel_rfl) (hr:(Region.ready .any ⟨l⟩ listed).contains i=true:=by kernel_rfl) (hb:lQ ⟨l⟩ brk listed i=true:=by kernel_rfl) (hg:aK ⟨l⟩ (.mk d (.load t x) ty ps af g) e=some true:=by exact rfl) (hd:bh n d=true:=by exact rfl) (hx:ev e x=some p:=by exact rfl) (hm:exM m=true:=by exact rfl):ab P n D ⟨l⟩ brk (fun O'=>B.Ge O') Ψ (∀k,B.next<=k->B.hp k=none) (fuel+1) listed e O Q:=by
 refine ab.take (o:=.mk d (.load t x) ty ps af g) (by simpa using ho) hs hf hr hb hd (fun G a w hN hB _ hw aS=>?_) h;obtain⟨u,w',K,bU,h1,h2,h3,_⟩:=GW (P:=P) ht hw (LI hB hN hv) (aS.ev hx);obtain⟨u0,Zm⟩:∃u0,VR G m u0:=⟨u,adu hm h3⟩
 refine⟨u0,Zm,.inl ⟨bd aS hg,fun y hy=>?_⟩⟩;obtain⟨H,O2,g1,g2,g3⟩:=hy;obtain⟨r,g4,g5⟩:=nR (P:=P) ht g2 (LI g3 hN hv) ((aS.ev hx).mono g1);have:=g5 y g2.sx;have er:=St hm Zm g4;subst er;simp only[execOp,Sem.run_bind,this];rfl
theorem mM {Q:Exit->Act->World->Prop} {S:World->Prop} {T:Nat->World->Prop}:∀(fuel:Nat) (listed:Array Bool) (a:Act) (w:World),(∀j,listed.getD j true=false->∀x,S x->T j x)->wpAnyH P .any ops Q S fuel listed a w->iT P .any ops Q T fuel listed a w:=by
 intro fuel;induction fuel with
 | zero=>intro listed a w _ h;exact⟨h.1,h.2⟩
 | succ fuel ih=>
   intro listed a w hT h;refine⟨h.1,fun i hi=>?_⟩;have eN:=(mem_ready.1 hi).1
   exact wpOp_mono (fun a' w' h'=>⟨hT i eN _ h'.1,ih _ _ _ (fun j hj x=>hT j (by
    by_cases F5:i=j
    ·subst F5;exact eN
    ·rw[getD_set_ne true F5]at hj;exact hj) x) h'.2⟩) (h.2 i hi)
theorem ab.fin {brk:List Nat} {Ψ :Gh->Prop} {J:VH->Prop} {Z:Prop} {fuel:Nat} {listed:Array Bool} (hb:((List.range listed.size).all fun j=>listed.getD j true||brk.contains j)=true) (h:bY P n D ops fuel listed e O Q):ab P n D ops brk J Ψ Z fuel listed e O Q:=by
 intro hΨ hZ hJ G a w hψ hw aS;refine mM _ _ _ _ (fun j hj x hs=>⟨hs,fun hh=>?_⟩) (h G a w hw aS);rcases Nat.lt_or_ge j listed.size with hl | hl
 ·have:=List.all_eq_true.1 hb j (List.mem_range.2 hl);rw[hj,Bool.false_or]at this;rw[this]at hh;cases hh
 ·rw[Array.getD_eq_getD_getElem?,Array.getElem?_eq_none (by simpa using hl)]at hj;cases hj
theorem ab.one {brk:List Nat} {Ψ :Gh->Prop} {J:VH->Prop} {Z:Prop} {fuel i:Nat} {listed:Array Bool}
  (h:aI P n D ops i e O Q fun e' O'=>J O'/\ab P n D ops brk J Ψ Z fuel (listed.setIfInBounds i true) e' O' Q) (hr:Region.ready .any ops listed=[i]:=by kernel_rfl):ab P n D ops brk J Ψ Z (fuel+1) listed e O Q:=by
 intro hΨ hZ hJ G a w hψ hw aS;refine jn hr (by simp) fun j hj=>?_
 obtain rfl:j=i:=by simpa using hj
 refine wpOp_mono (fun a' w' ⟨e',O',H,h1,h2,h3,h4,h5⟩=>⟨TE.mk ⟨H,O',h1,h2,h4⟩,jo (fun _ _ _=>cg.le h1) _ _ _ _ (fun k _ x hT=>hT.le h1) (h5 hΨ hZ h4 H a' w' (hΨ _ _ h1 hψ) h2 h3)⟩) (h G a w hw aS)
theorem ab.call {brk:List Nat} {Ψ :Gh->Prop} {J:VH->Prop} {Z:Prop} {fuel i:Nat} {listed:Array Bool} {l:List Oper} {d:Option Tmp} {f:Operand} {as_:Array Operand} {ts:Array TypeId} {ty:TypeId} {ps:String} {af:Array Edge} {g:Option (Nat×Bool)} {id:FuncId} {ms:List MV} {Φ :MV->VH->Prop} (hR:VF P id ms O (aH Φ))
  (h:∀m O', Φ m O'->J O'/\ab P n D ⟨l⟩ brk J Ψ Z fuel (listed.setIfInBounds i true) (aV d m e) O' Q) (hr:Region.ready .any ⟨l⟩ listed=[i]:=by kernel_rfl) (ho:l[i]?=some (.mk d (.call {callee:=.value f,args:=as_,argTypes:=ts}) ty ps af g):=by exact rfl) (hg:aK ⟨l⟩ (.mk d (.call {callee:=.value f,args:=as_,argTypes:=ts}) ty ps af g) e=some true:=by exact rfl) (hf:ev e f=some (.func (.func id) [] []):=by exact rfl) (hm:fE e as_.toList=some ms:=by exact rfl) (hb:c9 P id=true:=by kernel_rfl) (hd:bh n d=true:=by exact rfl):ab P n D ⟨l⟩ brk J Ψ Z (fuel+1) listed e O Q:=
 ab.one (aI.call (o:=.mk d (.call {callee:=.value f,args:=as_,argTypes:=ts}) ty ps af g) (by simpa using ho) hg rfl rfl hf hm (Enters.sr hb) hd (by simpa using hR) fun r O' hr=>by
  cases r with
  | ret m=>exact h m O' hr
  | panic m=>exact hr.elim) (hr:=hr)
theorem ab.op {brk:List Nat} {Ψ :Gh->Prop} {J:VH->Prop} {Z:Prop} {fuel i:Nat} {listed:Array Bool} {l:List Oper} {o:Oper}
  (h:zK (fun m O'=>J O'/\ab P n D ⟨l⟩ brk J Ψ Z fuel (listed.setIfInBounds i true) (aV o.dst m e) O' Q) (cT tab o e O)) (ht:aM P tab:=by exact aa) (hr:Region.ready .any ⟨l⟩ listed=[i]:=by kernel_rfl) (ho:l[i]?=some o:=by exact rfl) (hg:aK ⟨l⟩ o e=some true:=by exact rfl) (hd:bh n o.dst=true:=by exact rfl):ab P n D ⟨l⟩ brk J Ψ Z (fuel+1) listed e O Q:=
 ab.one (aI.o1 h (ht:=ht) (ho:=ho) (hg:=hg) (hd:=hd)) (hr:=hr)
theorem ab.st {brk:List Nat} {Ψ :Gh->Prop} {J:VH->Prop} {Z:Prop} {fuel i:Nat} {listed:Array Bool} {l:List Oper} {o:Oper} {M:MV->VH->Prop} (hy:fQ P n D o e O M)
  (h:∀m O',M m O'->J O'/\ab P n D ⟨l⟩ brk J Ψ Z fuel (listed.setIfInBounds i true) (aV o.dst m e) O' Q) (hr:Region.ready .any ⟨l⟩ listed=[i]:=by kernel_rfl) (ho:l[i]?=some o:=by exact rfl) (hg:aK ⟨l⟩ o e=some true:=by exact rfl) (hd:bh n o.dst=true:=by exact rfl):ab P n D ⟨l⟩ brk J Ψ Z (fuel+1) listed e O Q:=
 ab.one (aI.st hy h (ho:=ho) (hg:=hg) (hd:=hd)) (hr:=hr)
theorem ab.bH (ix:List (Nat×Fl)) {brk:List Nat} {Ψ :Gh->Prop} {J:VH->Prop} {Z:Prop} {fuel:Nat} {listed:Array Bool} {l:List Oper} {L:List (Fl×Oper)}
  (h:WL P tab n D .any ⟨l⟩ Q L e O) (ht:aM P tab:=by exact aa) (hb:((List.range listed.size).all fun j=>listed.getD j true||brk.contains j)=true:=by kernel_rfl) (hs:Region.noSelect ⟨l⟩=true:=by kernel_rfl) (hp:cz .any ⟨l⟩ fuel listed ix=true:=by kernel_rfl) (hL:nA l ix=some L:=by exact rfl):ab P n D ⟨l⟩ brk J Ψ Z fuel listed e O Q:=ab.fin hb (bY.bH ix h (ht:=ht) (hs:=hs) (hp:=hp) (hL:=hL))
end
set_option linter.defProp false in
def wk:=And.intro @ws<|And.intro @U9<|And.intro @LG<|And.intro @LH<|And.intro @P5 @IY
section
variable {G H:Gh} {n:Sz} {D:List Deferred} {e:Env} {a:Act} {P:Program} {tab:bV} {O O':VH} {w:World} {m m':MV} {u v:Value} {ops:Array Oper} {Q:VQ} {md:Md}
theorem qq {t:TypeId} {ms:Array (String×TypeId)} (hu:P.underlying t=some (.interface ms)):P.underlying t=some (.interface (P.methodsAt t)):=by
 rw[hu,Program.methodsAt,hu]
theorem fG.Su {d:Option Tmp} {op:BinOp} {t t' ty tv:TypeId} {x:Operand} {ps:String} {af:Array Edge} {g:Option (Nat×Bool)} {p:MV} {bb:Bool} {ms:Array (String×TypeId)} (hu:P.underlying t=some (.interface ms)) (hx:ev e x=some (.iface tv p)) (si:(op= .eql/\bb=false)\/(op= .neq/\bb=true)):
  fG P n D (.mk d (.binOp op t x (.const .nilIface) t') ty ps af g) e (.v (.bool bb)):=by
 intro G a hf;have h1:=hf.ev hx;generalize hv:a.eval x=v at h1;have hc:a.eval (.const .nilIface)= .nilIface:=rfl;cases h1 with
 | iface h2=>
   rename_i u;refine c6.of (s:=do eqGuard op t x (.const .nilIface) (.iface tv u) .nilIface;binOp op t (.iface tv u) .nilIface) (aW.of (u:=.bool bb) (fun w _=>?_) (.v rfl)) (by simp[execOp,hv,hc]);have P6:(eqGuard op t x (.const .nilIface) (.iface tv u) .nilIface).run P w= .ok () w:=by rcases si with⟨rfl,_⟩ | ⟨rfl,_⟩<;>simp[eqGuard]
   rw[Sem.run_bind,P6,Result.andThen_ok];rcases si with⟨rfl,rfl⟩ | ⟨rfl,rfl⟩
   ·exact run_eql_held_nil w t tv u (qq hu)
   ·exact run_neq_held_nil w t tv u (qq hu)
theorem fG.Eh {d:Option Tmp} {op:BinOp} {t t' ty:TypeId} {x:Operand} {ps:String} {af:Array Edge} {g:Option (Nat×Bool)} {bb:Bool} {ms:Array (String×TypeId)} (hu:P.underlying t=some (.interface ms)) (hx:ev e x=some (.v .nilIface)) (si:(op= .eql/\bb=true)\/(op= .neq/\bb=false)):
  fG P n D (.mk d (.binOp op t x (.const .nilIface) t') ty ps af g) e (.v (.bool bb)):=by
 intro G a hf;have h1:=(hf.ev hx).iD;have hc:a.eval (.const .nilIface)= .nilIface:=rfl;refine c6.of (s:=do eqGuard op t x (.const .nilIface) .nilIface .nilIface;binOp op t .nilIface .nilIface) (aW.of (u:=.bool bb) (fun w _=>?_) (.v rfl)) (by simp[execOp,h1,hc]);have P6:(eqGuard op t x (.const .nilIface) .nilIface .nilIface).run P w= .ok () w:=by rcases si with⟨rfl,_⟩ | ⟨rfl,_⟩<;>cases x<;>simp[eqGuard]
 rw[Sem.run_bind,P6,Result.andThen_ok];rcases si with⟨rfl,rfl⟩ | ⟨rfl,rfl⟩
 ·exact run_eql_nil_nil w t (qq hu)
 ·exact run_neq_nil_nil w t (qq hu)
theorem fG.asT {d:Option Tmp} {t s ty:TypeId} {x:Operand} {ps:String} {af:Array Edge} {g:Option (Nat×Bool)} {p:MV} {u:TypeDesc} (hu:P.underlying s=some u) (hi:∀ms,u≠ .interface ms) (hx:ev e x=some (.iface s p)):
  fG P n D (.mk d (.typeAssert x t s true) ty ps af g) e (.tuple [p,.v (.bool true)]):=by
 intro G a hf;have h1:=hf.ev hx;generalize hv:a.eval x=v at h1;cases h1 with
 | iface h2=>
   rename_i w0;refine c6.of (s:=Instr.typeAssert (.iface s w0) t s true) (aW.of (u:=.tuple #[w0,.bool true]) (fun w _=>?_) ?_) (by simp[execOp,hv])
   ·simp only[Instr.typeAssert,Sem.run_bind,run_underlying hu,Result.andThen_ok]
    cases u<;>first
     | rfl
     | simp
     | (rename_i ms;exact absurd rfl (hi ms))
   ·exact VR.tuple (cs:=[p,.v (.bool true)]) (us:=[w0,.bool true]) rfl fun i c u hc hu=>by
     match i with
     | 0=>simp at hc hu;subst hc;subst hu;exact h2
     | 1=>simp at hc hu;subst hc;subst hu;exact .v rfl
     | i+2=>simp at hc
theorem VL.panic {d:Option Tmp} {x:Operand} {ty t:TypeId} {ps:String} {af:Array Edge} {g:Option (Nat×Bool)} {L:List (Fl×Oper)} {p:MV} (hmd:md= .plain) (hx:ev e x=some (.iface t p)) (hg:aK ops (.mk d (.panic x) ty ps af g) e=some true)
  (h:Q (.panic (.iface t p)) (ky n e) O):VL P n D md ops ((.one,.mk d (.panic x) ty ps af g)::L) e O Q:=by
 subst hmd;intro fuel listed ix hf hp
 match ix,hf with
 | (i,g')::ix,hf=>
   obtain⟨rfl,ho,hf⟩:=hf;intro G a w hw aS;have h1:=aS.ev hx
   have I0:∃u,a.eval x= .iface t u:=by
    generalize a.eval x=v at h1;cases h1;exact⟨_,rfl⟩
   obtain⟨u,hv⟩:=I0
   have bU:(execOp a.eval (.mk d (.panic x) ty ps af g)).run P w= .halt (.panic (.iface t u)) w:=by
    simp[execOp,hv,Instr.panic,goPanic]
   simp only[List.map_cons,wpOps,ho,bd aS hg,if_true];refine .inl ?_;unfold Oper.wp;rw[bU];exact⟨.panic (.iface t p),ky n e,O,G,Gh.Le.refl G,hw,⟨DC,aS.less AN⟩,⟨_,rfl,by rw[<-hv];exact h1⟩,h⟩
def MR (G:Gh):Option MV->FrameMode->Prop
 | none,.returning=>True
 | some m,.panicking [⟨v,false,false⟩]=>VR G m v
 | _,_=>False
def fZ (P:Program) (g:FuncId) (args:List MV) (x:Option MV) (O:VH) (K:VH->Prop):Prop:=
 ∀G w vs u,WR G O w->aO G args vs->MR G x u->CallsD P g vs.toArray u w fun r u' w'=>(∃v,r= .returned v)/\settle u'= .returning/\∃O' H,Gh.Le G H/\WR H O' w'/\K O'
def zL:Option MV->MV
 | none=>.v .nilIface
 | some m=>m
theorem fZ.rec {f:FuncId} {fn:Func} {c:Code} {id:Nat} {d:Tmp} {ty:TypeId} {ps:String} {af:Array Edge} {args:List MV} {x:Option MV} {K:VH->Prop} (hf:P.funcs[f]?=some fn) (hd:d<fn.ntmps)
  (h:WC P tab ⟨fn.ntmps,0⟩ [] c ((d,zL x)::cf 0 args) O fun y _ O'=>match y with
   | .normal=>K O'
   | .ret=>K O'
   | _=>False) (ht:aM P tab:=by exact aa) (hb:fn.body=some (.seq (.region id ⟨[.mk (some d) (.call {callee:=.builtin .recover,args:= #[],argTypes:= #[]}) ty ps af none]⟩ false) c):=by exact rfl) (hr:fn.results= #[]:=by exact rfl) (hn:args.length<=fn.ntmps:=by exact Nat.le_of_ble_eq_true rfl):fZ P f args x O K:=by
 intro G w vs u hw hv hu;refine callsD_of_wpS hf hb fun c0 cs hm=>wpS_seq (wpS_region ?_)
 have aS:FR G ⟨fn.ntmps,0⟩ [] (cf 0 args) {tmps:=vs.toArray++Array.replicate (fn.ntmps - vs.toArray.size) undef,defers:=[]}:=by
  have hl:=hv.1;refine⟨rfl,by simp;omega,fun t x hx=>?_⟩;rw[im,if_pos (Nat.zero_le _),Nat.sub_zero]at hx;obtain⟨u,h1,h2⟩:=hv.get hx;refine⟨u,?_,h2⟩;have eb:=(List.getElem?_eq_some_iff.1 h1).1;rw[Array.getElem?_append_left (by simpa using eb)];simpa using h1
 generalize ({tmps:=vs.toArray++Array.replicate (fn.ntmps - vs.toArray.size) undef,defers:=[]}:Act)=a at aS
 have bU:(execOp a.eval (.mk (some d) (.call {callee:=.builtin .recover,args:= #[],argTypes:= #[]}) ty ps af none)).run P w= .ok .recover w:=by
  simp[execOp,resolve,invoke,builtin]
 have go:∀(v:Value) (u':FrameMode),VR G (zL x) v->settle u'= .returning->(c.wpS P (bodyPostS P fn c0 cs fun r u' w'=>(∃v,r= .returned v)/\settle u'= .returning/\∃O' H,Gh.Le G H/\WR H O' w'/\K O')) (a.put (some d) v) ({c0 with mode:=u'}::cs) w:=by
  intro v u' XQ hs;refine wpS_of_wp ?_;refine wp_mono (WC.sound ht h G _ w hw (FR.put aS hd XQ)) ?_;rintro y a' w' ⟨z,e',O',H,g1,g2,g3,g4,g5⟩
  have fin:FR H ⟨fn.ntmps,0⟩ [] e' a'->K O'->bodyPostS P fn c0 cs (fun r u' w'=>(∃v,r= .returned v)/\settle u'= .returning/\∃O' H,Gh.Le G H/\WR H O' w'/\K O') .normal a' ({c0 with mode:=u'}::cs) w':=fun hf' hk=>
   ⟨hf'.defers,u',rfl,.tuple #[],by simp[results,hr],⟨_,rfl⟩,hs,O',H,g1,g2,hk⟩
  cases y<;>cases z<;>first
   | exact False.elim g4
   | exact fin g3 g5
   | exact g5.elim
 have LJ:(List.range (Array.mk [Oper.mk (some d) (.call {callee:=.builtin .recover,args:= #[],argTypes:= #[]}) ty ps af none]).size)=[0]:=rfl;rw[LJ];simp only[wpOpsS,List.getElem?_toArray,List.getElem?_cons_zero,bU];have agC:Region.wanted (Oper.mk (some d) (.call {callee:=.builtin .recover,args:= #[],argTypes:= #[]}) ty ps af none) (yielded ⟨[.mk (some d) (.call {callee:=.builtin .recover,args:= #[],argTypes:= #[]}) ty ps af none]⟩ a.tmps)=true:=rfl;rw[if_pos agC];subst hm
 match x,hmu:c0.mode,hu with
 | none,.returning,_=>
   have Hy:recoverD (c0::cs)=none:=by simp[recoverD,hmu]
   rw[Hy];have:=go .nilIface .returning (.v rfl) rfl;rw[show({c0 with mode:=.returning}:Frame)=c0 from by rw[<-hmu]]at this;exact this
 | some m,.panicking [⟨v,false,false⟩],XQ=>
   have Hy:recoverD (c0::cs)=some (v,{c0 with mode:=.panicking [⟨v,true,false⟩]}::cs):=by simp[recoverD,hmu]
   rw[Hy];exact go v _ XQ (by simp[settle])
def LK (P:Program) (tab:bV) (rs:List ResultVar) (g:FuncId) (ms:List MV) (R:fO->VH->Prop):VQ:=fun x e O=>match x with
 | .normal=>fZ P g ms none O fun O'=>iO R O' (iw tab e O' rs)
 | .ret=>fZ P g ms none O fun O'=>iO R O' (iw tab e O' rs)
 | .panic m=>fZ P g ms (some m) O fun O'=>iO R O' (iw tab e O' rs)
 | _=>False
theorem VF.deferred {f g:FuncId} {fn:Func} {A rest:Code} {id k lo:Nat} {t:Tmp} {cap:Array Operand} {ty Zn:TypeId} {ps Zo:String} {af Zp:Array Edge} {args:List MV} {rs:List ResultVar} {R:fO->VH->Prop} (hf:P.funcs[f]?=some fn) (hE:Enters P g)
  (h:WC P tab ⟨k,0⟩ [] A (cf 0 args) O fun x e O'=>match x with
   | .normal=>∃ms,fE e cap.toList=some ms/\∀D,VC P ⟨k,lo⟩ D rest ((t,.func (.func g) [] ms)::e) O' (LK P tab rs g ms R)
   | _=>False) (ht:aM P tab:=by exact aa) (hb:fn.body=some (.seq A (.seq (.region id ⟨[.mk (some t) (.makeFunc (.func g) #[] cap) ty ps af none,.mk none (.defer {callee:=.value (.tmp t),args:= #[],argTypes:= #[]}) Zn Zo Zp none]⟩ false) rest)):=by exact rfl) (hk:fn.ntmps=k:=by exact rfl) (hr:fn.results.toList=rs:=by exact rfl) (hn:args.length<=k:=by exact Nat.le_of_ble_eq_true rfl) (fl:t<k:=by decide):VF P f args O R:=by
 subst hk;intro G w vs hw hv;refine calls_of_wp_defers hf hb ?_
 have aS:FR G ⟨fn.ntmps,0⟩ [] (cf 0 args) {tmps:=vs.toArray++Array.replicate (fn.ntmps - vs.toArray.size) undef,defers:=[]}:=by
  have hl:=hv.1;refine⟨rfl,by simp;omega,fun t x hx=>?_⟩;rw[im,if_pos (Nat.zero_le _),Nat.sub_zero]at hx;obtain⟨u,h1,h2⟩:=hv.get hx;refine⟨u,?_,h2⟩;have eb:=(List.getElem?_eq_some_iff.1 h1).1;rw[Array.getElem?_append_left (by simpa using eb)];simpa using h1
 refine wp_seq (wp_mono (WC.sound ht h G _ w hw aS) ?_);rintro y a1 w1 ⟨x,e,O1,H,g1,g2,g3,g4,g5⟩
 cases y<;>cases x<;>first
  | exact False.elim g4
  | exact g5.elim
  | skip
 obtain⟨ms,hm,P7⟩:=g5;have g3:FR H ⟨fn.ntmps,0⟩ [] e a1:=g3;have iX:=g3.fE hm;have FZ:cap.map a1.eval=(cap.toList.map a1.eval).toArray:=by apply Array.ext';simp
 generalize cap.toList.map a1.eval=us at iX FZ
 have P8:(execOp a1.eval (.mk (some t) (.makeFunc (.func g) #[] cap) ty ps af none)).run P w1= .ok (.value (.func (.func g) #[] us.toArray)) w1:=by
  simp[execOp,Instr.makeFunc,FZ]
 have hz:=g3.size;dsimp only at hz
 have hev:(a1.put (some t) (.func (.func g) #[] us.toArray)).eval (.tmp t)= .func (.func g) #[] us.toArray:=by
  simp[Act.eval,Act.put,hz,fl]
 have P9:(execOp (a1.put (some t) (.func (.func g) #[] us.toArray)).eval (.mk none (.defer {callee:=.value (.tmp t),args:= #[],argTypes:= #[]}) Zn Zo Zp none)).run P w1= .ok (.defer {target:=.fn (.func g) us.toArray,args:= #[]}) w1:=by
  simp[execOp,resolve,hev,Deferred.ofValue]
 refine wp_seq (wp_region ?_);have LJ:∀o1 o2:Oper,List.range (Array.mk [o1,o2]).size=[0,1]:=fun _ _=>rfl
 rw[LJ];have I1:∀(o1 o2:Oper) (tm:Array Value),o1.guard=none->Region.wanted o1 (yielded ⟨[o1,o2]⟩ tm)=true:=fun o1 o2 tm h=>by simp[Region.wanted,h]
 have oP:∀(o1 o2:Oper) (tm:Array Value),o2.guard=none->Region.wanted o2 (yielded ⟨[o1,o2]⟩ tm)=true:=fun o1 o2 tm h=>by simp[Region.wanted,h]
 simp only[wpOps,List.getElem?_toArray,List.getElem?_cons_zero,List.getElem?_cons_succ];rw[if_pos (I1 _ _ _ rfl)];refine .inl ?_;unfold Oper.wp;rw[P8,Oper.upon_value];simp only[wpOps,List.getElem?_toArray,List.getElem?_cons_zero,List.getElem?_cons_succ];rw[if_pos (oP _ _ _ rfl)];refine .inl ?_;first | unfold Oper.wp | skip
 rw[P9,Oper.upon_defer];have xN:FR H ⟨fn.ntmps,0⟩ [] ((t,.func (.func g) [] ms)::e) (a1.put (some t) (.func (.func g) #[] us.toArray)):=FR.put g3 fl (.func (fs:=[]) (us:=[]) rfl (fun i c u h=>by simp at h) iX.1 iX.2);generalize a1.put (some t) (.func (.func g) #[] us.toArray)=a2 at xN;have Cu:FR H ⟨fn.ntmps,lo⟩ [{target:=.fn (.func g) us.toArray,args:= #[]}] ((t,.func (.func g) [] ms)::e) {a2 with defers:={target:=.fn (.func g) us.toArray,args:= #[]}::a2.defers}:=⟨by rw[xN.defers],xN.size,xN.get⟩;show rest.wp P _ _ _;refine wp_mono (P7 _ H _ w1 g2 Cu) ?_;rintro y a' w' ⟨x,e',O',K,k1,k2,k3,k4,k5⟩
 have hinv:∀w:World,(invoke (.fn (.func g) us.toArray) #[]).run P w= .ok (.enter g us.toArray) w:=fun w=>by
  simp[invoke,hE us.toArray w]
 have fin:∀(u:FrameMode) (z:Option MV),u≠ .run->MR K z u->FR K ⟨fn.ntmps,lo⟩ [{target:=.fn (.func g) us.toArray,args:= #[]}] e' a'->fZ P g ms z O' (fun O'=>iO R O' (iw tab e' O' rs))->
   Leaves P fn a'.tmps (fun x w'=>∃r O' H,Gh.Le G H/\WR H O' w'/\ER H r x/\R r O') a'.defers u w':=by
  intro u z hu hmr Zq hd;rw[Zq.defers];refine leaves_cons hu (hinv _) ((hd K w' us u k2 (iX.mono k1) hmr).mono ?_);rintro r u' F3 ⟨⟨v,rfl⟩,hs,O2,K2,q1,q2,q3⟩;dsimp only;rw[hs]
  have key:∃m,c8 tab fn e' O2=some m/\R (.ret m) O2:=by
   unfold c8;rw[hr, <-rF];generalize iw tab e' O2 rs=z at q3;unfold iO at q3;split at q3
   ·exact q3.elim
   ·exact⟨_,rfl,q3⟩
   ·rename_i l hl;refine⟨.tuple l,?_,q3⟩
    match l,hl with
    | [],_=>rfl
    | [m],hl=>exact absurd rfl (hl m)
    | _::_::_,_=>rfl
  obtain⟨m,h6,h7⟩:=key;obtain⟨u2,h8,h9⟩:=kN (P:=P) ht q2 (Zq.mono q1) h6;exact⟨u2,h8,.ret m,O2,K2,(g1.trans k1).trans q1,q2,h9,h7⟩
 cases y with
 | normal=>cases x<;>first | exact False.elim k4 | exact fin .returning none (by simp) trivial k3 k5
 | ret=>cases x<;>first | exact False.elim k4 | exact fin .returning none (by simp) trivial k3 k5
 | panic c=>
   cases x with
   | panic m=>
     obtain⟨u,rfl,hvu⟩:=k4;exact fin (.panicking [⟨u,false,false⟩]) (some m) (by simp) hvu k3.2 k5
   | _=>exact False.elim k4
 | exit i=>cases x<;>first | exact False.elim k4 | exact k5.elim
 | goto i=>cases x<;>first | exact False.elim k4 | exact k5.elim
 | outgrown=>cases x<;>exact False.elim k4
theorem U_:ky n []=[]:=rfl
theorem P_ {N L t:Nat}:ky ⟨N,L⟩ ((t,m)::e)=bif decide (t<L)then(t,m)::ky ⟨N,L⟩ e else ky ⟨N,L⟩ e:=rfl
theorem I2 {rs:List ResultVar} {g:FuncId} {ms:List MV} {R:fO->VH->Prop}:LK P tab rs g ms R .normal e O=fZ P g ms none O fun O'=>iO R O' (iw tab e O' rs):=rfl
theorem Va {rs:List ResultVar} {g:FuncId} {ms:List MV} {R:fO->VH->Prop}:LK P tab rs g ms R .ret e O=fZ P g ms none O fun O'=>iO R O' (iw tab e O' rs):=rfl
theorem LN {rs:List ResultVar} {g:FuncId} {ms:List MV} {R:fO->VH->Prop}:LK P tab rs g ms R (.panic m) e O=fZ P g ms (some m) O fun O'=>iO R O' (iw tab e O' rs):=rfl
end
set_option linter.defProp false in
def wd:=And.intro @Ya<|And.intro @U_<|And.intro @P_<|And.intro @I2<|And.intro @Va<|And.intro @LN<|And.intro @qM<|And.intro @qN @B5
section
variable {G H:Gh} {n:Sz} {D:List Deferred} {e:Env} {a:Act} {P:Program} {tab:bV} {O O':VH} {w:World} {m m':MV} {u v:Value} {ops:Array Oper} {Q:VQ} {md:Md}
theorem WR.LO (h:WR G O w) (X:Obj):G.Le {G with bJ:=bn G.bJ O.next (some w.heap.size)}/\WR {G with bJ:=bn G.bJ O.next (some w.heap.size)} (O.push (.obj X)) (w.alloc X):=by
 have hle:=Gh.Le.Iv h.l0.1 w.heap.size;have hg:=h.grow X
 have ee:∀k b,bn G.bJ O.next (some w.heap.size) k=some b->(k=O.next/\b=w.heap.size)\/(k≠O.next/\G.bJ k=some b):=fun k b hk=>by
  by_cases e:k=O.next
  ·subst e;rw[aE]at hk;injection hk with hk;exact .inl ⟨rfl,hk.symm⟩
  ·rw[ax _ _ e]at hk;exact .inr ⟨e,hk⟩
 have nw:∀j x,bn O.hp O.next (some (bW.obj X)) j=some x->(j=O.next/\x= .obj X)\/(j≠O.next/\O.hp j=some x):=fun j x hj=>by
  by_cases e:j=O.next
  ·subst e;rw[aE]at hj;injection hj with hj;exact .inl ⟨rfl,hj.symm⟩
  ·rw[ax _ _ e]at hj;exact .inr ⟨e,hj⟩
 refine⟨hle,hg.base,hg.d_,fun k hk=>?_,fun k b hk=>?_,fun j k b lj lk hj hk=>?_,fun k ds hk=>?_,fun k es ck hk=>?_,fun t ht=>?_,fun s t b x y hs ht h1 h2=>?_,h.n_ hle.bJ (lO (by simp)) fun _ _ _ _=>ie fun _=>dm w _,fun k x hk=>?_,h.qf,h.qK hle (l9 (by simp))⟩
 ·have hk:O.next+1<=k:=hk;obtain⟨h1,h2,h3⟩:=h.o8 k (by omega);exact⟨by show bn _ _ _ _=_;rw[ax _ _ (by omega)];exact h1,h2,by show bn _ _ _ _=_;rw[ax _ _ (by omega)];exact h3⟩
 ·rcases ee k b hk with⟨_,rfl⟩ | ⟨dN,hk⟩
  ·exact⟨h.XG,by simp,fun _=>h.vM⟩
  ·obtain⟨p1,p2,p3⟩:=hg.jX k b hk;exact⟨p1,p2,fun hne=>p3 (by have hne:bn O.hp O.next (some (.obj X)) k≠none:=hne;rwa [ax _ _ dN]at hne)⟩
 ·rcases ee j b hj with⟨rfl,rfl⟩ | ⟨cY,hj⟩<;>rcases ee k _ hk with⟨rfl,hb⟩ | ⟨dN,hk⟩
  ·rfl
  ·have:=(h.jX _ _ hk).2.1;omega
  ·subst hb;have:=(h.jX _ _ hj).2.1;omega
  ·exact h.inj j k b (by have lj:bn O.hp O.next (some (.obj X)) j≠none:=lj;rwa [ax _ _ cY]at lj) (by have lk:bn O.hp O.next (some (.obj X)) k≠none:=lk;rwa [ax _ _ dN]at lk) hj hk
 ·rcases nw k _ hk with⟨_,e⟩ | ⟨_,hk⟩
  ·cases e
  ·obtain⟨b,C,T,h1,h2,h3⟩:=hg.cells k ds hk;exact⟨b,C,T,hle.bJ h1,h2,h3.mono hle⟩
 ·rcases nw k _ hk with⟨_,e⟩ | ⟨_,hk⟩
  ·cases e
  ·obtain⟨b,E,h1,h2,h3,h4,h5⟩:=hg.map k es ck hk;exact⟨b,E,hle.bJ h1,h2,h3,h4.mono hle,h5.mono hle⟩
 ·rcases nw t _ ht with⟨_,e⟩ | ⟨_,ht⟩
  ·cases e
  ·obtain⟨b,f,k,r,C,T,h1,h2,h3,h4,h5,h6⟩:=hg.tok t ht;refine⟨b,f,k,r,C,T,h1,h2,h3,h4,h5,fun j hj=>?_⟩;rcases ee j b hj with⟨_,rfl⟩ | ⟨_,hj⟩
   ·exact absurd rfl (h.oN ht h1)
   ·exact h6 j hj
 ·rcases nw s _ hs with⟨_,e⟩ | ⟨_,hs⟩
  ·cases e
  ·rcases nw t _ ht with⟨_,e⟩ | ⟨_,ht⟩
   ·cases e
   ·exact h.k9 s t b x y hs ht h1 h2
 ·rcases nw k _ hk with⟨rfl,e⟩ | ⟨_,hk⟩
  ·injection e with e;subst e
   exact⟨w.heap.size,aE _ _ _,by rw[eU,if_pos rfl]⟩
  ·obtain⟨b,h1,h2⟩:=hg.obj k x hk;exact⟨b,hle.bJ h1,h2⟩
theorem WR.setObj (h:WR G O w) {k b:Nat} {X Y:Obj} (hk:O.hp k=some (.obj X)) (hp:G.bJ k=some b) (hX:∀C t fr,X≠ .cells C t fr):WR G (O.set k (.obj Y)) {w with heap:=w.heap.setIfInBounds b Y}:=by
 obtain⟨b',h1,h2⟩:=h.obj k X hk;rw[hp]at h1;injection h1 with h1;subst h1
 have hne:∀j b',j≠k->O.hp j≠none->G.bJ j=some b'->b'≠b:=fun j b' hj lj mz e=>hj (h.inj j k b lj (by rw[hk];simp) (e▸mz) hp)
 have gI:∀j,bn O.hp k (some (.obj Y)) j≠none->O.hp j≠none:=fun j hn=>by
  by_cases e:j=k
  ·subst e;rw[hk];simp
  ·rwa [ax _ _ e]at hn
 have xz:=uj Y h2;have ef:∀j,j≠b->({w with heap:=w.heap.setIfInBounds b Y}:World).heap[j]?=w.heap[j]?:=fun j hj=>oe _ hj
 have hB:=(h.jX k b hp).1
 have nw:∀j x,(∀y,x≠ .obj y)->bn O.hp k (some (bW.obj Y)) j=some x->j≠k/\O.hp j=some x:=fun j x hx hj=>by
  by_cases e:j=k
  ·subst e;rw[aE]at hj;injection hj with hj;exact absurd hj.symm (hx _)
  ·rw[ax _ _ e]at hj;exact⟨e,hj⟩
 refine⟨⟨h.base.os,h.base.tape,h.base.output,by simpa using h.base.size,fun j hj=>?_⟩,fun b' o u' oa=>?_,fun j hj=>?_,fun j b' hj=>?_,fun j k' b' lj lk=>h.inj j k' b' (gI j lj) (gI k' lk),fun j ds hj=>?_,fun j es2 ck2 hj=>?_,fun t ht=>?_,fun s t b' x y hs ht=>?_,h.n_ id (lO (by simp)) fun j b' s hj hs=>ie (fun x hx=>by
   by_cases e:b'=b
   ·subst e;rw[h2]at hx;injection hx with hx;subst hx
    exfalso;simp only[World.shape?,h2]at hs
    cases X<;>first
     | exact hX _ _ _ rfl
     | cases hs
   ·rw[ef _ e];exact hx) hs,fun j x hj=>?_,h.qf,h.qK (Gh.Le.refl _) (l9 (by simp))⟩
 ·rw[ef j (by have:j<G.B:=hj;omega)];exact h.base.block j hj
 ·have tQ:b'≠b:=fun e=>by subst e;rw[(h.jX k b' hp).2.2 (by rw[hk];simp) o]at oa;cases oa
  rw[tc _ (by exact tQ)];exact h.d_ b' o u' oa
 ·obtain⟨d1,d2,d3⟩:=h.o8 j hj;refine⟨d1,d2,?_⟩;show bn _ _ _ _=_;rw[ax _ _ (fun e=>by subst e;rw[d3]at hk;cases hk)];exact d3
 ·obtain⟨p1,p2,p3⟩:=h.jX j b' hj;exact⟨p1,by simpa using p2,fun hne=>p3 (gI j hne)⟩
 ·obtain⟨e,hj⟩:=nw j _ (by simp) hj;obtain⟨b',D,T',d1,d2,d3⟩:=h.cells j ds hj;exact⟨b',D,T',d1,by rw[ef _ (hne j b' e (by rw[hj];simp) d1)];exact d2,d3⟩
 ·obtain⟨e,hj⟩:=nw j _ (by simp) hj;obtain⟨b',E,d1,d2,d3⟩:=h.map j es2 ck2 hj;exact⟨b',E,d1,by rw[ef _ (hne j b' e (by rw[hj];simp) d1)];exact d2,d3⟩
 ·obtain⟨e,ht⟩:=nw t _ (by simp) ht;obtain⟨b',f,k',r,D,T',d1,d2,d3,d4,d6,d7⟩:=h.tok t ht;exact⟨b',f,k',r,D,T',d1,d2,by rw[ef _ (fun e=>d7 k (by rw[e];exact hp))];exact d3,d4,d6,d7⟩
 ·obtain⟨_,hs⟩:=nw s _ (by simp) hs;obtain⟨_,ht⟩:=nw t _ (by simp) ht;exact h.k9 s t b' x y hs ht
 ·have hj:bn O.hp k (some (.obj Y)) j=some (.obj x):=hj;by_cases e:j=k
  ·subst e;rw[aE]at hj;injection hj with hj;injection hj with hj;subst hj
   exact⟨b,hp,xz⟩
  ·rw[ax _ _ e]at hj;obtain⟨b',d1,d2⟩:=h.obj j x hj;exact⟨b',d1,by rw[ef _ (hne j b' e (by rw[hj];simp) d1)];exact d2⟩
section
variable {d:Option Tmp} {op:BinOp} {t t' ty:TypeId} {x y:Operand} {ps:String} {af:Array Edge} {g:Option (Nat×Bool)} {b:Bool} {p q:MV}
theorem Qa:cT tab (.mk d (.range t x) ty ps af g) e O=none:=rfl
theorem Ve:cT tab (.mk d (.next x b) ty ps af g) e O=none:=rfl
theorem Cv:cT tab (.mk d (.typeAssert x t t' b) ty ps af g) e O=none:=rfl
def I3 (t:TypeId):Option cn->Option MV->Option MV
 | some i,some p=>match i.under with
   | .interface _=>none
   | _=>some (.iface t p)
 | _,_=>none
theorem Vf:cT tab (.mk d (.makeInterface t x) ty ps af g) e O=(I3 t (tab t) (ev e x)).map (·,O):=by
 unfold cT ei iE I3;dsimp only;cases tab t with
 | none=>rfl
 | some i=>
   cases ev e x with
   | none=>obtain⟨u,a,b,z⟩:=i;cases u<;>rfl
   | some p=>obtain⟨u,a,b,z⟩:=i;cases u<;>rfl
theorem Qb:cT tab (.mk d (.panic x) ty ps af g) e O=none:=rfl
theorem Vg:cP tab op t (.iface ty p) (.v .nilIface)=none:=by cases op<;>rfl
theorem Vh:cP tab op t (.v .nilIface) (.iface ty p)=none:=by cases op<;>rfl
theorem Zr {cs:List MV} {i:Nat}:rq (.tuple cs) i=cs[i]?:=rfl
theorem Zs {r:Int} {a b a' b':Nat} {z z':List MV}:IS (.v (.int .i32 r)) (some ⟨.int .i32,a,b,z⟩) (some ⟨.string,a',b',z'⟩)=none:=rfl
theorem Zt:cP tab op t (.v .nilIface) (.v .nilIface)=none:=by cases op<;>rfl
end
end
set_option linter.defProp false in
def wi:=And.intro @Vf<|And.intro @Qa<|And.intro @Ve<|And.intro @Cv<|And.intro @Qb<|And.intro @Vg<|And.intro @Vh<|And.intro @Zr<|And.intro @Zs @Zt
section
variable {G H:Gh} {n:Sz} {D:List Deferred} {e e':Env} {a:Act} {P:Program} {tab:bV} {O O':VH} {w:World} {m m':MV} {u v:Value} {ops:Array Oper} {Q:VQ} {md:Md}
def kC (cs:List MV) (X:Obj) (G:Gh):Prop:=∃C:Array Value,∃T:Fz C,X= .cells C T.t T.fr/\aO G cs (C.toList.take cs.length)
theorem kC.mono {cs:List MV} {X:Obj} (h:G.Le H) (hx:kC cs X G):kC cs X H:=by
 obtain⟨C,T,h1,h2⟩:=hx;exact⟨C,T,h1,h2.mono h⟩
theorem VH.qs {x:bW} {k j:Nat}:(j=k/\(O.set k x).hp j=some x)\/(j≠k/\(O.set k x).hp j=O.hp j):=by
 by_cases e:j=k
 ·subst e;exact .inl ⟨rfl,VH.an _ _ _⟩
 ·exact .inr ⟨e,VH.ak _ _ e⟩
theorem AU {x:bW} {k j:Nat} (hk:O.hp k≠none) (h:(O.set k x).hp j≠none):O.hp j≠none:=by
 rcases VH.qs (O:=O) (x:=x) (k:=k) (j:=j)with⟨rfl,_⟩ | ⟨_,e⟩
 ·exact hk
 ·rwa [e]at h
theorem WR.swap {k:Nat} {x:bW} (h:WR G O w) (hk:O.hp k≠none) (hc:∀cs,x= .cells cs->∃b,∃C:Array Value,∃T:Fz C,G.bJ k=some b/\w.heap[b]?=some (.cells C T.t T.fr)/\aO G cs (C.toList.take cs.length))
  (ho:∀X,x= .obj X->∃b,G.bJ k=some b/\w.heap[b]?=some X) (hm:∀es ck,x≠ .map es ck) (ht:x≠ .tok) (hs:∀j t n,x≠ .shape j t n) (hf:∀p,x≠ .fact p:=by intro _ e;cases e):WR G (O.set k x) w where
 base:=h.base
 d_:=h.d_
 o8 j hj:=by
  obtain⟨h1,h2,h3⟩:=h.o8 j hj;exact⟨h1,h2,(VH.ak _ _ (fun e=>by subst e;exact hk h3)).trans h3⟩
 jX j b hj:=by
  obtain⟨h1,h2,h3⟩:=h.jX j b hj;exact⟨h1,h2,fun hn=>h3 (AU hk hn)⟩
 inj i j b hi hj:=h.inj i j b (AU hk hi) (AU hk hj)
 cells j cs hj:=by
  rcases VH.qs (O:=O) (x:=x) (k:=k) (j:=j)with⟨rfl,e⟩ | ⟨_,e⟩
  ·rw[e]at hj;injection hj with hj;exact hc cs hj
  ·rw[e]at hj;exact h.cells j cs hj
 map j es ck hj:=by
  rcases VH.qs (O:=O) (x:=x) (k:=k) (j:=j)with⟨rfl,e⟩ | ⟨_,e⟩
  ·rw[e]at hj;injection hj with hj;exact absurd hj (hm _ _)
  ·rw[e]at hj;exact h.map j es ck hj
 tok j hj:=by
  rcases VH.qs (O:=O) (x:=x) (k:=k) (j:=j)with⟨rfl,e⟩ | ⟨_,e⟩
  ·rw[e]at hj;injection hj with hj;exact absurd hj ht
  ·rw[e]at hj;exact h.tok j hj
 k9 i j b y z hi hj:=by
  rcases VH.qs (O:=O) (x:=x) (k:=k) (j:=i)with⟨rfl,e⟩ | ⟨_,e⟩
  ·rw[e]at hi;injection hi with hi;exact absurd hi ht
  ·rw[e]at hi;rcases VH.qs (O:=O) (x:=x) (k:=k) (j:=j)with⟨rfl,e⟩ | ⟨_,e⟩
   ·rw[e]at hj;injection hj with hj;exact absurd hj ht
   ·rw[e]at hj;exact h.k9 i j b y z hi hj
 nP j k' t n hj:=by
  rcases VH.qs (O:=O) (x:=x) (k:=k) (j:=j)with⟨rfl,e⟩ | ⟨_,e⟩
  ·rw[e]at hj;injection hj with hj;exact absurd hj (hs _ _ _)
  ·rw[e]at hj;exact h.nP j k' t n hj
 obj j y hj:=by
  rcases VH.qs (O:=O) (x:=x) (k:=k) (j:=j)with⟨rfl,e⟩ | ⟨_,e⟩
  ·rw[e]at hj;injection hj with hj;exact ho y hj
  ·rw[e]at hj;exact h.obj j y hj
 qf:=h.qf
 AG:=h.qK (Gh.Le.refl _) (l9 hf)
theorem WR.fix {k:Nat} {cs:List MV} (h:WR G O w) (hk:O.hp k=some (.cells cs)):∃X,kC cs X G/\WR G (O.set k (.obj X)) w:=by
 obtain⟨b,C,T,h1,h2,h3⟩:=h.cells k cs hk;exact⟨_,⟨C,T,rfl,h3⟩,h.swap (by rw[hk];simp) (fun _ e=>by cases e) (fun X e=>by injection e with e;exact⟨b,h1,by rw[h2,e]⟩) (fun _ _ e=>by cases e) (fun e=>by cases e) (fun _ _ _ e=>by cases e) (fun _ e=>by cases e)⟩
theorem WR.w_ {k:Nat} {cs:List MV} {X:Obj} (h:WR G O w) (hk:O.hp k=some (.obj X)) (hx:kC cs X G):WR G (O.set k (.cells cs)) w:=by
 obtain⟨b,h1,h2⟩:=h.obj k X hk;obtain⟨C,T,rfl,h3⟩:=hx;exact h.swap (by rw[hk];simp) (fun cs' e=>by injection e with e;subst e;exact⟨b,C,T,h1,h2,h3⟩) (fun X e=>by cases e) (fun _ _ e=>by cases e) (fun e=>by cases e) (fun _ _ _ e=>by cases e) (fun _ e=>by cases e)
theorem VC.po {id:Nat} (brk:List Nat) (k:Nat) {cs:List MV} (hk:O.hp k=some (.cells cs)) (h:∀X,ab P n D ops brk (fun O'=>O'.hp k=some (.obj X)) (kC cs X) True ops.size (Array.replicate ops.size false) e (O.set k (.obj X)) Q) (hm:P.follows .mixedOrders=true:=by kernel_rfl):VC P n D (.region id ops true) e O Q:=
 fun G a w hw hf=>by
  obtain⟨X,hx,oP⟩:=(hw.drawn _).fix hk;exact wp_region_any hm (kz _ _ _ _ (h X (fun _ _=>kC.mono) trivial (VH.an _ _ _) G a _ hx oP hf))
theorem Ei (ht:aM P tab) {t:TypeId} {i:cn} {cs:List MV} {us:List Value} {off:Nat} (hi:tab t=some i) (hv:mG (ey i.under) i.size cs off=some m) (nS:aO G cs us):
  ∃r,VR G m r/\∀y b,(∀j v,us[j]?=some v->y.cell? ⟨b,j,none⟩=some v)->(Instr.loadAt t (.pointer (some ⟨b,off,none⟩))).run P y= .ok r y:=by
 have fc:=ht t i hi;simp only[Instr.loadAt,Instr.sureAddr,loadVar];unfold mG at hv;split at hv
 ·rename_i o9;split at hv
  ·rename_i hle;injection hv with hv;subst hv
   have BI:=(nS.drop off).take i.size;have hlen:((us.drop off).take i.size).length=i.size:=by simp[nS.1];omega
   refine⟨_,.agg BI.1 BI.2,fun y b hy=>?_⟩
   have yR:∀j v,((us.drop off).take i.size)[j]?=some v->y.cell? ((⟨b,off,none⟩:Addr).add j)=some v:=by
    intro j v hj;rw[Addr.add_lit];rw[List.getElem?_take]at hj;split at hj
    ·rw[List.getElem?_drop]at hj;exact hy _ v hj
    ·cases hj
   have xE:=run_loadCells_list (P:=P) y ⟨b,off,none⟩ _ yR;rw[hlen]at xE;simp[nQ fc,o9,eV fc,xE]
  ·cases hv
 ·rename_i o9;obtain⟨v,ob,Cq⟩:=nS.get hv;exact⟨v,Cq,fun y b hy=>by simp[nQ fc,o9,hy _ v ob]⟩
theorem ab.sB (i:Nat) {brk:List Nat} {cs:List MV} {X:Obj} {fuel:Nat} {listed:Array Bool} {l:List Oper} {d:Option Tmp} {t:TypeId} {x:Operand} {ty:TypeId} {ps:String} {af:Array Edge} {g:Option (Nat×Bool)} {k off:Nat} (hv:eM tab (O.set k (.cells cs)) t (.ptr k off)=some m) (h:ab P n D ⟨l⟩ brk (fun O'=>O'.hp k=some (.obj X)) (kC cs X) True fuel (listed.setIfInBounds i true) (aV d m e) O Q) (ht:aM P tab:=by exact aa) (ho:l[i]?=some (.mk d (.load t x) ty ps af g):=by exact rfl) (hs:Region.noSelect ⟨l⟩=true:=by kernel_rfl) (hf:Region.free .any ⟨l⟩ listed i=true:=by kernel_rfl) (hr:(Region.ready .any ⟨l⟩ listed).contains i=true:=by kernel_rfl) (hb:lQ ⟨l⟩ brk listed i=true:=by kernel_rfl) (hg:aK ⟨l⟩ (.mk d (.load t x) ty ps af g) e=some true:=by exact rfl) (hd:bh n d=true:=by exact rfl) (hx:ev e x=some (.ptr k off):=by exact rfl):ab P n D ⟨l⟩ brk (fun O'=>O'.hp k=some (.obj X)) (kC cs X) True (fuel+1) listed e O Q:=by
 refine ab.take (o:=.mk d (.load t x) ty ps af g) (by simpa using ho) hs hf hr hb hd (fun G a w _ hJ hψ hw aS=>?_) h;obtain⟨C,T,rfl,h3⟩:=hψ;unfold eM at hv;simp only[cellsOf,VH.an]at hv;split at hv
 ·rename_i ti cs' off' Pk hc;injection hc with hc;injection hc with e1 e2;subst e1;subst e2
  obtain⟨r,ni,fy⟩:=Ei (P:=P) ht Pk hv h3;have Zu:=aS.ev hx;generalize Zv:a.eval x=xu at Zu;cases Zu with
  | ptr hp=>
    rename_i b;refine⟨r,ni,.inl ⟨bd aS hg,fun y hy=>?_⟩⟩;obtain⟨H,O2,g1,g2,g3⟩:=hy;obtain⟨b',ct,bZ⟩:=g2.obj k _ g3;rw[g1.bJ hp]at ct;injection ct with ct;subst ct
    have:=fy y b fun j v hj=>by
     rw[List.getElem?_take]at hj;split at hj
     ·simp only[World.cell?,bZ,Option.isSome_none,Bool.false_eq_true,if_false];simpa using hj
     ·cases hj
    simp only[execOp,Sem.run_bind,Zv,this];rfl
 ·cases hv
theorem adv {Q Q':Exit->Act->World->Prop} {i:Nat} {K:Act->World->Prop} (hQ:∀y a w,Q y a w->Q' y a w) (h1:wpOp P ops Q i K a w):wpOp P ops Q' i K a w:=by
 unfold wpOp at h1 ⊢;split
 ·rename_i ho;simp only[ho]at h1;exact h1
 ·rename_i o ho;simp only[ho]at h1;split
  ·rename_i rA;simp only[rA,if_true]at h1;refine h1.imp (fun h2=>?_) (fun⟨h2,a',w',h3⟩=>⟨h2,a',w',hQ _ _ _ h3⟩);unfold Oper.wp at h2 ⊢;generalize (execOp a.eval o).run P w=r at*;cases r with
   | ok nx w'=>
     cases nx<;>simp only[Oper.upon]at h2 ⊢ <;>first
      | exact h2
      | (refine Calls.mono h2 fun x F3 he=>?_
         cases x with
         | returned v=>exact he
         | panicked c=>exact hQ _ _ _ he
         | outgrown=>obtain⟨a',w',h3⟩:=he;exact⟨a',w',hQ _ _ _ h3⟩)
   | halt x w'=>cases x<;>simp only[Oper.upon]at h2 ⊢ <;>first | exact h2 | exact hQ _ _ _ h2
  ·rename_i rA;simp only[rA]at h1;exact h1
def Sv (k:Nat) (X:Obj) (cs:List MV) (Q:VQ):VQ:=fun x e O=>match x with
 | .panic m=>O.hp k=some (.obj X)/\Q (.panic m) e (O.set k (.cells cs))
 | _=>False
theorem Sv.post {k:Nat} {X:Obj} {cs:List MV} {y:Exit} (hψ :kC cs X G) (h:cg G n D (Sv k X cs Q) y a w):cg G n D Q y a w:=by
 obtain⟨x,e,O,H,h1,h2,h3,h4,h5⟩:=h;cases x with
 | panic m=>exact⟨_,e,_,H,h1,h2.w_ h5.1 (hψ.mono h1),h3,h4,h5.2⟩
 | _=>exact h5.elim
theorem ab.jA {brk:List Nat} {k:Nat} {cs:List MV} {X:Obj} {fuel i:Nat} {listed:Array Bool} {l:List Oper} {d:Option Tmp} {f:Operand} {as_:Array Operand} {ts:Array TypeId} {ty:TypeId} {ps:String} {af:Array Edge} {g:Option (Nat×Bool)} {id:FuncId} {ms:List MV} {R:fO->VH->Prop} (hR:VF P id ms O R)
  (h:∀m O',R (.ret m) O'->O'.hp k=some (.obj X)/\ab P n D ⟨l⟩ brk (fun O'=>O'.hp k=some (.obj X)) (kC cs X) True fuel (listed.setIfInBounds i true) (aV d m e) O' Q) (h2:∀m O',R (.panic m) O'->O'.hp k=some (.obj X)/\Q (.panic m) (ky n e) (O'.set k (.cells cs))) (hr:Region.ready .any ⟨l⟩ listed=[i]:=by kernel_rfl) (ho:l[i]?=some (.mk d (.call {callee:=.value f,args:=as_,argTypes:=ts}) ty ps af g):=by exact rfl) (hg:aK ⟨l⟩ (.mk d (.call {callee:=.value f,args:=as_,argTypes:=ts}) ty ps af g) e=some true:=by exact rfl) (hf:ev e f=some (.func (.func id) [] []):=by exact rfl) (hm:fE e as_.toList=some ms:=by exact rfl) (hb:c9 P id=true:=by kernel_rfl) (hd:bh n d=true:=by exact rfl):ab P n D ⟨l⟩ brk (fun O'=>O'.hp k=some (.obj X)) (kC cs X) True (fuel+1) listed e O Q:=by
 intro hΨ hZ hJ G a w hψ hw aS;refine jn hr (by simp) fun j hj=>?_
 obtain rfl:j=i:=by simpa using hj
 have h1:=aI.call (Q:=Sv k X cs Q) (K:=fun e' O'=>O'.hp k=some (.obj X)/\ab P n D ⟨l⟩ brk (fun O'=>O'.hp k=some (.obj X)) (kC cs X) True fuel (listed.setIfInBounds j true) e' O' Q) (o:=.mk d (.call {callee:=.value f,args:=as_,argTypes:=ts}) ty ps af g) (by simpa using ho) hg rfl rfl hf hm (Enters.sr hb) hd (by simpa using hR) (fun r O' hr=>by
  cases r with
  | ret m=>exact h m O' hr
  | panic m=>exact h2 m O' hr) G a w hw aS
 refine adv (fun _ _ _=>Sv.post hψ) (wpOp_mono (fun a' w' ⟨e',O',H,h1,h2,h3,h4,h5⟩=>⟨TE.mk ⟨H,O',h1,h2,h4⟩,jo (fun _ _ _=>cg.le h1) _ _ _ _ (fun k _ x hT=>hT.le h1) (h5 hΨ hZ h4 H a' w' (hψ.mono h1) h2 h3)⟩) h1)
theorem ab.w_ {brk:List Nat} {k:Nat} {cs:List MV} {X:Obj} {fuel:Nat} {listed:Array Bool} (hb:((List.range listed.size).all fun j=>listed.getD j true||brk.contains j)=true) (h:bY P n D ops fuel listed e (O.set k (.cells cs)) Q):ab P n D ops brk (fun O'=>O'.hp k=some (.obj X)) (kC cs X) True fuel listed e O Q:=by
 intro hΨ hZ hJ G a w hψ hw aS;refine mM _ _ _ _ (fun j hj x hs=>⟨hs,fun hh=>?_⟩) (h G a w (hw.w_ hJ hψ) aS);rcases Nat.lt_or_ge j listed.size with hl | hl
 ·have:=List.all_eq_true.1 hb j (List.mem_range.2 hl);rw[hj,Bool.false_or]at this;rw[this]at hh;cases hh
 ·rw[Array.getD_eq_getD_getElem?,Array.getElem?_eq_none (by simpa using hl)]at hj;cases hj
theorem ab.mO (ix:List (Nat×Fl)) {brk:List Nat} {k:Nat} {cs:List MV} {X:Obj} {fuel:Nat} {listed:Array Bool} {l:List Oper} {L:List (Fl×Oper)}
  (h:WL P tab n D .any ⟨l⟩ Q L e (O.set k (.cells cs))) (ht:aM P tab:=by exact aa) (hb:((List.range listed.size).all fun j=>listed.getD j true||brk.contains j)=true:=by kernel_rfl) (hs:Region.noSelect ⟨l⟩=true:=by kernel_rfl) (hp:cz .any ⟨l⟩ fuel listed ix=true:=by kernel_rfl) (hL:nA l ix=some L:=by exact rfl):ab P n D ⟨l⟩ brk (fun O'=>O'.hp k=some (.obj X)) (kC cs X) True fuel listed e O Q:=ab.w_ hb (bY.bH ix h (ht:=ht) (hs:=hs) (hp:=hp) (hL:=hL))
end
def Wk (m m':MV):Prop:=∀G u,VR G m u->VR G m' u
def eD (a b:List MV):Prop:=a.length=b.length/\∀(i:Nat) (c d:MV),a[i]?=some c->b[i]?=some d->Wk c d
theorem Wk.refl (m:MV):Wk m m:=fun _ _ h=>h
theorem Wk.trans {a b c:MV} (h:Wk a b) (k:Wk b c):Wk a c:=fun G u x=>k G u (h G u x)
theorem eD.refl (a:List MV):eD a a:=⟨rfl,fun i c d h k=>by rw[h]at k;injection k with k;subst k;exact Wk.refl _⟩
theorem eD.cons {a b:List MV} {x y:MV} (h:Wk x y) (k:eD a b):eD (x::a) (y::b):=by
 refine⟨by rw[List.length_cons,List.length_cons,k.1],fun i c d e f=>?_⟩;cases i with
 | zero=>simp only[List.getElem?_cons_zero,Option.some.injEq]at e f;subst e;subst f;exact h
 | succ i=>simp only[List.getElem?_cons_succ]at e f;exact k.2 i c d e f
theorem eD.get {a b:List MV} (k:eD a b) {i:Nat} {d:MV} (h:b[i]?=some d):∃c,a[i]?=some c/\Wk c d:=by
 have hi:i<a.length:=by rw[k.1];exact(List.getElem?_eq_some_iff.1 h).1
 exact⟨a[i],List.getElem?_eq_getElem hi,k.2 i _ _ (List.getElem?_eq_getElem hi) h⟩
theorem eD.use {G:Gh} {a b:List MV} (k:eD a b) {us:List Value} (h:∀(i:Nat) (c:MV) (u:Value),a[i]?=some c->us[i]?=some u->VR G c u):∀(i:Nat) (c:MV) (u:Value),b[i]?=some c->us[i]?=some u->VR G c u:=fun i d u h1 h2=>by
 obtain⟨c,h3,h4⟩:=k.get h1;exact h4 G u (h i c u h3 h2)
theorem eD.vrs {G:Gh} {a b:List MV} (k:eD a b) {us:List Value} (h:aO G a us):aO G b us:=⟨h.1.trans k.1,k.use h.2⟩
theorem Wk.agg {a b:List MV} (k:eD a b):Wk (.agg a) (.agg b):=fun G u h=>by
 cases h with
 | agg h1 h2=>exact .agg (h1.trans k.1) (k.use h2)
theorem Wk.tuple {a b:List MV} (k:eD a b):Wk (.tuple a) (.tuple b):=fun G u h=>by
 cases h with
 | tuple h1 h2=>exact .tuple (h1.trans k.1) (k.use h2)
theorem Wk.iface {t:TypeId} {a b:MV} (k:Wk a b):Wk (.iface t a) (.iface t b):=fun G u h=>by
 cases h with
 | iface h1=>exact .iface (k G _ h1)
theorem eD.eq_nil {b:List MV} (k:eD [] b):b=[]:=List.eq_nil_of_length_eq_zero k.1.symm
theorem Wk.sl {n:Nat} {a b:List MV} {t:Tok} (k:eD a b):Wk (.sl n a t) (.sl n b t):=fun G u h=>by
 cases h with
 | slnil=>rw[k.eq_nil];exact .slnil
 | n9 h1=>rw[k.eq_nil];exact .n9 h1
 | j7=>rw[k.eq_nil];exact .j7
 | sl h1 h2 h3 h4 h5 h6=>exact .sl (h1.trans k.1) h2 (k.use h3) h4 h5 (k.1▸h6)
theorem Wk.tok {n:Nat} {a:List MV} {t:Tok}:Wk (.sl n a t) (.sl n a .au):=fun G u h=>by
 cases h with
 | slnil=>exact .j7
 | n9 h1=>exact .n9 h1
 | j7=>exact .j7
 | sl h1 h2 h3 h4 h5 h6=>exact .sl h1 h2 h3 h4 h5 trivial
mutual
def au:MV->MV
 | .sl n cs _=>.sl n (cI cs) .au
 | .agg cs=>.agg (cI cs)
 | .tuple cs=>.tuple (cI cs)
 | .iface t x=>.iface t (au x)
 | .v x=>.v x
 | .str l=>.str l
 | .ptr b o=>.ptr b o
 | .cX cs o=>.cX cs o
 | .bm b o n c=>.bm b o n c
 | .map b=>.map b
 | .func f a b=>.func f a b
def cI:List MV->List MV
 | []=>[]
 | c::cs=>au c::cI cs
end
mutual
theorem zM:∀m,Wk m (au m)
 | .sl n cs t=>by rw[au];exact(Wk.sl (pq cs)).trans Wk.tok
 | .agg cs=>by rw[au];exact Wk.agg (pq cs)
 | .tuple cs=>by rw[au];exact Wk.tuple (pq cs)
 | .iface t x=>by rw[au];exact Wk.iface (zM x)
 | .v x=>by rw[au];exact Wk.refl _
 | .str l=>by rw[au];exact Wk.refl _
 | .ptr b o=>by rw[au];exact Wk.refl _
 | .cX cs o=>by rw[au];exact Wk.refl _
 | .bm b o n c=>by rw[au];exact Wk.refl _
 | .map b=>by rw[au];exact Wk.refl _
 | .func f a b=>by rw[au];exact Wk.refl _
theorem pq:∀cs,eD cs (cI cs)
 | []=>by rw[cI];exact eD.refl _
 | c::cs=>by rw[cI];exact eD.cons (zM c) (pq cs)
end
theorem mP (a b:List MV):cI (a++b)=cI a++cI b:=by
 induction a with
 | nil=>rw[cI,List.nil_append,List.nil_append]
 | cons x a ih=>rw[List.cons_append,cI,cI,ih,List.cons_append]
theorem kD {α :Type} {f: α ->List MV} (h:∀x,cI (f x)=f x) (L:List α):cI (L.flatMap f)=L.flatMap f:=by
 induction L with
 | nil=>rw[List.flatMap_nil,cI]
 | cons x L ih=>rw[List.flatMap_cons,mP,h,ih]
theorem Vi (L:List (List UInt8)):cI (L.map .str)=L.map .str:=by
 induction L with
 | nil=>rw[List.map_nil,cI]
 | cons x L ih=>rw[List.map_cons,cI,au,ih]
def oH:MV->MV
 | .sl n cs t=>.sl n (cI cs) t
 | m=>au m
theorem LP (m:MV):Wk m (oH m):=by
 cases m with
 | sl n cs t=>exact Wk.sl (pq cs)
 | _=>exact zM _
def Ej:List MV->List MV
 | []=>[]
 | c::cs=>oH c::Ej cs
theorem LQ:∀cs,eD cs (Ej cs)
 | []=>eD.refl _
 | c::cs=>eD.cons (LP c) (LQ cs)
def tj:MV->MV
 | .sl n cs t=>.sl n (cI cs) t
 | .tuple cs=>.tuple (Ej cs)
 | m=>au m
theorem Zw (m:MV):Wk m (tj m):=by
 cases m with
 | sl n cs t=>exact Wk.sl (pq cs)
 | tuple cs=>exact Wk.tuple (LQ cs)
 | _=>exact zM _
section
variable {P:Program} {f:FuncId} {as_ bs:List MV} {O:VH}
theorem VF.fgR {R:fO->VH->Prop} (h:VF P f as_ O fun r O'=>match r with
  | .ret m=>R (.ret (tj m)) O'
  | .panic m=>R (.panic (au m)) O'):VF P f as_ O R:=fun G w vs hw hv=>by
 refine(h G w vs hw hv).mono ?_;rintro x w' ⟨r,O',H,h1,h2,h3,h4⟩;cases r with
 | ret m=>cases x with
   | returned v=>exact⟨.ret _,O',H,h1,h2,Zw m H v h3,h4⟩
   | _=>exact h3.elim
 | panic m=>cases x with
   | panicked c=>obtain⟨u,h5,h6⟩:=h3;exact⟨.panic _,O',H,h1,h2,⟨u,h5,zM m H u h6⟩,h4⟩
   | _=>exact h3.elim
theorem VF.fg {Φ :MV->VH->Prop} (h:VF P f as_ O (aH fun m O'=> Φ (tj m) O')):VF P f as_ O (aH Φ):=VF.fgR (VF.mono (fun r O' hr=>by cases r with
 | ret m=>exact hr
 | panic m=>exact hr.elim) h)
variable {n:Sz} {md:Md} {Q:VQ} {e:Env} {K:Env->VH->Prop}
end
section
variable {P:Program} {tab:bV} {n:Sz} {D:List Deferred} {md:Md} {ops:Array Oper} {Q:VQ} {e e':Env} {O O':VH} {m m':MV}
def EW (e e':Env):Prop:=∀t x',look e' t=some x'->∃x,look e t=some x/\Wk x x'
theorem EW.refl (e:Env):EW e e:=fun t x h=>⟨x,h,Wk.refl _⟩
theorem EW.top {k:Nat} (h:Wk m m'):EW ((k,m)::e) ((k,m')::e):=fun t x hx=>by
 rw[look]at hx ⊢;cases ht:t==k
 ·rw[ht]at hx;exact⟨x,hx,Wk.refl _⟩
 ·rw[ht]at hx;injection hx with hx;subst hx;exact⟨m,rfl,h⟩
theorem EW.aV {d:Option Tmp} (h:Wk m m'):EW (aV d m e) (aV d m' e):=by
 cases d with
 | none=>exact EW.refl _
 | some k=>exact EW.top h
theorem FR.wk {G:Gh} {a:Act} (h:FR G n D e a) (hl:EW e e'):FR G n D e' a:=⟨h.defers,h.size,fun t x hx=>by
 obtain⟨y,h1,h2⟩:=hl t x hx;obtain⟨u,h3,h4⟩:=h.get t y h1;exact⟨u,h3,h2 G u h4⟩⟩
theorem VL.wk {L:List (Fl×Oper)} (hl:EW e e') (h:VL P n D md ops L e' O Q):VL P n D md ops L e O Q:=fun fuel listed ix h1 h2=>by
 have:=h fuel listed ix h1 h2;cases md<;>exact fun G a w hw hf=>this G a w hw (hf.wk hl)
theorem VC.bu {c d:Code} {σ :Type} (l:List Nat) (ms: σ ->List MV) (I: σ ->VH->Prop) (h1:VC P n D c e O (aA l ms I Q)) (h2:∀s O,I s O->VC P n D d (iY l (ms s) []) O Q):VC P n D (.seq c d) e O Q:=by
 refine VC.seq (VC.mono ?_ h1);intro x e O h;cases x with
 | normal=>
   obtain⟨s,h3,h4⟩:=h;exact VC.env (h2 s O h4) (iu (e0:=[]) (fun t x h=>by simp[look]at h) h3)
 | _=>exact h
theorem VL.k_ {d:Option Tmp} {x y:Operand} {t ty:TypeId} {ps:String} {af:Array Edge} {g:Option (Nat×Bool)} {L:List (Fl×Oper)} {p q:MV} (hv:ij tab O t p q=some (m,O')) (hw:oH m=m') (h:WL P tab n D md ops Q L (aV d m' e) O') (ht:aM P tab:=by exact aa) (hx:ev e x=some p:=by exact rfl) (hy:ev e y=some q:=by exact rfl) (hg:aK ops (.mk d (.call {callee:=.builtin .append,args:= #[x,y],argTypes:= #[t,t]}) ty ps af g) e=some true:=by exact rfl) (hd:bh n d=true:=by exact rfl):
  VL P n D md ops ((.one,.mk d (.call {callee:=.builtin .append,args:= #[x,y],argTypes:= #[t,t]}) ty ps af g)::L) e O Q:=
 VL.step ht hg (by rw[v7,cN,hx,hy];exact hv) hd (VL.wk (EW.aV (hw▸LP m)) (WL.sound ht h))
end
section
variable {n:Nat} {cs as_ bs:List MV} {t:Tok} {ty:TypeId} {x:MV} {l:List UInt8} {b o:Nat} {v:Value} {f:Fn} {c:MV}
theorem Zx:tj (.sl n cs t)= .sl n (cI cs) t:=rfl
theorem LR:tj (.tuple cs)= .tuple (Ej cs):=rfl
theorem Vj:tj (.agg cs)= .agg (cI cs):=by show au (.agg cs)=_;rw[au]
theorem adw:tj (.v v)= .v v:=by show au (.v v)=_;rw[au]
theorem Vk:tj (.str l)= .str l:=by show au (.str l)=_;rw[au]
theorem Vl:tj (.ptr b o)= .ptr b o:=by show au (.ptr b o)=_;rw[au]
theorem Vm {i j:Nat}:tj (.bm b o i j)= .bm b o i j:=by show au (.bm b o i j)=_;rw[au]
theorem Vn:tj (.map b)= .map b:=by show au (.map b)=_;rw[au]
theorem Qc:tj (.func f as_ bs)= .func f as_ bs:=by show au (.func f as_ bs)=_;rw[au]
theorem rG:oH (.sl n cs t)= .sl n (cI cs) t:=rfl
theorem LS:oH (.tuple cs)= .tuple (cI cs):=by show au (.tuple cs)=_;rw[au]
theorem Vo:oH (.agg cs)= .agg (cI cs):=by show au (.agg cs)=_;rw[au]
theorem adx:oH (.v v)= .v v:=by show au (.v v)=_;rw[au]
theorem Vp:oH (.str l)= .str l:=by show au (.str l)=_;rw[au]
theorem Vq:oH (.ptr b o)= .ptr b o:=by show au (.ptr b o)=_;rw[au]
theorem Qd:oH (.cX cs o)= .cX cs o:=by show au (.cX cs o)=_;rw[au]
theorem Vr {i j:Nat}:oH (.bm b o i j)= .bm b o i j:=by show au (.bm b o i j)=_;rw[au]
theorem Vs:oH (.map b)= .map b:=by show au (.map b)=_;rw[au]
theorem Qe:oH (.func f as_ bs)= .func f as_ bs:=by show au (.func f as_ bs)=_;rw[au]
theorem LU:oH (.iface ty x)= .iface ty (au x):=by show au (.iface ty x)=_;rw[au]
theorem Vt:Ej []=[]:=rfl
theorem Qf:Ej (c::cs)=oH c::Ej cs:=rfl
theorem ady:au (.sl n cs t)= .sl n (cI cs) .au:=by rw[au]
theorem Zy:au (.agg cs)= .agg (cI cs):=by rw[au]
theorem agD:au (.v v)= .v v:=by rw[au]
theorem Zz:au (.str l)= .str l:=by rw[au]
theorem ZA:au (.ptr b o)= .ptr b o:=by rw[au]
theorem ZB {i j:Nat}:au (.bm b o i j)= .bm b o i j:=by rw[au]
theorem ZC:au (.map b)= .map b:=by rw[au]
theorem Qg:au (.iface ty x)= .iface ty (au x):=by rw[au]
theorem Hz:cI []=[]:=by rw[cI]
theorem Qh:cI (c::cs)=au c::cI cs:=by rw[cI]
end
set_option linter.defProp false in
def wu:=And.intro @Zx<|And.intro @LR<|And.intro @Vj<|And.intro @adw<|And.intro @Vk<|And.intro @Vl<|And.intro @Vm<|And.intro @Vn<|And.intro @Qc<|And.intro @rG<|And.intro @LS<|And.intro @Vo<|And.intro @adx<|And.intro @Vp<|And.intro @Vq<|And.intro @Qd<|And.intro @Vr<|And.intro @Vs<|And.intro @Qe<|And.intro @LU<|And.intro @Vt<|And.intro @Qf<|And.intro @ady<|And.intro @Zy<|And.intro @agD<|And.intro @Zz<|And.intro @ZA<|And.intro @ZB<|And.intro @ZC<|And.intro @Qg<|And.intro @Hz<|And.intro @Qh<|And.intro @mP @Vi
open Go.MapKept (run_setObj_map)
section
variable {G H:Gh} {n:Sz} {D:List Deferred} {e:Env} {a:Act} {P:Program} {tab:bV} {O O':VH} {w:World} {m m':MV} {u v:Value} {ops:Array Oper} {Q:VQ} {md:Md}
theorem I4 {t:TypeId} {x:MV} {cs:List MV} {ok:Bool}:jL tab O t x (.agg cs) ok=none:=by
 unfold jL;split
 ·split
  ·rename_i kd te h1 h2;have:BL kd (.agg cs)=false:=by cases kd<;>rfl
   rw[this]
  ·rfl
 ·rfl
theorem Cw {t:TypeId} {x y:MV} {cs:List MV}:fh tab O t x (.agg cs) y=none:=by
 unfold fh;split
 ·split
  ·rename_i kd es ck h1 h2;have:BL kd (.agg cs)=false:=by cases kd<;>rfl
   rw[this]
  ·rfl
 ·rfl
def fm (l:List (List UInt8)):Value:=.agg (l.map fun s=>Value.string ⟨⟨s⟩⟩).toArray
structure tn (P:Program) (kt:TypeId) (N:Nat):Prop where
 law:WideMaps.KeyLaw P kt
 of:∀l:List (List UInt8),l.length=N->(∀s∈l,s.length<=maxLen)->∃lit,keyOf P kt (fm l)=some lit
theorem HA:∀{l:List (List UInt8)} {us:List Value},aO G (l.map .str) us->us=l.map fun s=>Value.string ⟨⟨s⟩⟩
 | [],us,h=>List.eq_nil_of_length_eq_zero h.1
 | s::l,[],h=>by have:=h.1;simp at this
 | s::l,x::us,h=>by
   have h1:VR G (.str s) x:=h.2 0 _ _ rfl rfl;cases h1;rw[List.map_cons,HA (l:=l) (us:=us) ⟨by have:=h.1;simpa using this,fun i c u a b=>h.2 (i+1) c u (by simpa using a) (by simpa using b)⟩]
theorem zN {l:List (List UInt8)} (h:VR G (.agg (l.map .str)) v):v=fm l:=by
 cases h with
 | agg h1 h2=>rw[HA ⟨h1,h2⟩];rfl
theorem Qi {l m:List (List UInt8)} (h:fm l=fm m):l=m:=by
 unfold fm at h;injection h with h;have h:=congrArg Array.toList h;simp only at h
 have:∀{l m:List (List UInt8)},l.map (fun s=>Value.string ⟨⟨s⟩⟩)=m.map (fun s=>Value.string ⟨⟨s⟩⟩)->l=m:=by
  intro l;induction l with
  | nil=>intro m h;cases m with
    | nil=>rfl
    | cons y m=>simp at h
  | cons x l ih=>intro m h;cases m with
    | nil=>simp at h
    | cons y m=>
      simp only[List.map_cons,List.cons.injEq,Value.string.injEq,ByteArray.mk.injEq,Array.mk.injEq]at h;rw[h.1,ih h.2]
 exact this h
abbrev fe:=List (List (List UInt8)×MV×Nat)
def cy (M:fe):wN:=M.map fun p=>(.agg (p.1.map .str),p.2.1,p.2.2)
def iZ (l:List (List UInt8)) (M:fe):Option MV:=(M.find? (·.1==l)).map (·.2.1)
def jq (l:List (List UInt8)) (y:MV) (ck:Nat) (M:fe):fe:=if M.any (·.1==l)then M.map (fun p=>if p.1=l then(l,y,p.2.2)else p)else M++[(l,y,ck)]
def LV (l:List (List UInt8)) (ck:Nat) (M:fe):Nat:=if M.any (·.1==l)then ck else ck+1
structure nT (N:Nat) (M:fe):Prop where
 len:∀p∈M,p.1.length=N/\∀s∈p.1,s.length<=maxLen
 one:(M.map (·.1)).Nodup
theorem I5 {M:fe} (h:(M.map (·.1)).Nodup) {j:Nat} {p:List (List UInt8)×MV×Nat} (hp:M[j]?=some p):iZ p.1 M=some p.2.1:=by
 unfold iZ;induction M generalizing j with
 | nil=>simp at hp
 | cons x M ih=>
   simp only[List.map_cons,List.nodup_cons]at h;cases j with
   | zero=>simp only[List.getElem?_cons_zero,Option.some.injEq]at hp;subst hp;simp
   | succ j=>
     simp only[List.getElem?_cons_succ]at hp;have hm:p.1∈M.map (·.1):=List.mem_map_of_mem (List.mem_of_getElem? hp)
     have hne:(x.1==p.1)=false:=by
      rw[beq_eq_false_iff_ne];intro e;exact h.1 (e▸hm)
     rw[List.find?_cons,hne];exact ih h.2 hp
theorem wa {M:fe} {l:List (List UInt8)} (h:∀p∈M,p.1≠l):iZ l M=none:=by
 unfold iZ;rw[List.find?_eq_none.2 (fun p hp=>by simpa using h p hp)];rfl
theorem gB.keys {M:fe} {E:List MapEntry} (h:gB G (cy M) E):E.length=M.length/\∀(j:Nat) (p:List (List UInt8)×MV×Nat) (x:MapEntry),M[j]?=some p->E[j]?=some x->x.key=fm p.1/\VR G p.2.1 x.val/\x.born=p.2.2:=by
 have hl:E.length=M.length:=by have:=h.key.1;simpa[cy]using this
 refine⟨hl,fun j p x hp hx=>⟨?_,?_,?_⟩⟩
 ·exact zN (h.key.2 j _ _ (by simp[cy,hp]) (by simp[hx]))
 ·exact h.val.2 j _ _ (by simp[cy,hp]) (by simp[hx])
 ·have:=congrArg (fun l=>l[j]?) h.born;simpa[cy,hp,hx]using this
theorem zO {kt:TypeId} {N:Nat} (K:tn P kt N) {M:fe} {E:List MapEntry} {l:List (List UInt8)} (hM:nT N M) (hE:gB G (cy M) E) (hl:l.length=N) (hs:∀s∈l,s.length<=maxLen) (w:World):
  ((Instr.findKey kt (fm l) E).run P w= .ok none w/\∀p∈M,p.1≠l)\/∃(j:Nat) (p:List (List UInt8)×MV×Nat) (x:MapEntry),(Instr.findKey kt (fm l) E).run P w= .ok (some (j,x.val)) w/\M[j]?=some p/\p.1=l/\E[j]?=some x/\VR G p.2.1 x.val:=by
 obtain⟨lit,xc⟩:=K.of l hl hs;obtain⟨h1,h2⟩:=hE.keys
 have j8:∀x∈E,∃q,keyOf P kt x.key=some q:=fun x hx=>by
  obtain⟨j,hj,rfl⟩:=List.mem_iff_getElem.1 hx;have Vu:j<M.length:=by omega
  have:=(h2 j _ _ (List.getElem?_eq_getElem Vu) (List.getElem?_eq_getElem hj)).1;rw[this];exact K.of _ (hM.len _ (List.getElem_mem Vu)).1 (hM.len _ (List.getElem_mem Vu)).2
 rcases K.law.find w xc E j8 with⟨g1,g2⟩ | ⟨j,x,g1,g2,g3⟩
 ·refine .inl ⟨g1,fun p hp e=>?_⟩;obtain⟨j,hj,rfl⟩:=List.mem_iff_getElem.1 hp;have ZD:j<E.length:=by omega
  have:=(h2 j _ _ (List.getElem?_eq_getElem hj) (List.getElem?_eq_getElem ZD)).1;exact g2 _ (List.getElem_mem ZD) (by rw[this,e])
 ·have ZD:=(List.getElem?_eq_some_iff.1 g2).1;have Vu:j<M.length:=by omega
  have h3:=h2 j _ _ (List.getElem?_eq_getElem Vu) g2;exact .inr ⟨j,M[j],x,g1,List.getElem?_eq_getElem Vu,Qi (h3.1.symm.trans g3),g2,h3.2.1⟩
theorem gB.ahK {M:fe} {E:List MapEntry} {l:List (List UInt8)} {y:MV} {yv:Value} (hM:(M.map (·.1)).Nodup) (hE:gB G (cy M) E) (hy:VR G y yv) {j:Nat} {p:List (List UInt8)×MV×Nat} (hp:M[j]?=some p) (dK:p.1=l) (hk:VR G (.agg (l.map .str)) (fm l)):
  gB G (cy (M.map fun p=>if p.1=l then(l,y,p.2.2)else p)) (E.modify j fun x=>{x with key:=fm l,val:=yv}):=by
 have e:cy (M.map fun p=>if p.1=l then(l,y,p.2.2)else p)=setAt (cy M) j (.agg (l.map .str)) y:=by
  clear hE hy hk;unfold cy setAt;induction M generalizing j with
  | nil=>simp at hp
  | cons x M ih=>
    simp only[List.map_cons,List.nodup_cons]at hM;cases j with
    | zero=>
      simp only[List.getElem?_cons_zero,Option.some.injEq]at hp;subst hp
      have fF:M.map (fun p=>if p.1=l then(l,y,p.2.2)else p)=M:=by
       have:∀q∈M,(if q.1=l then(l,y,q.2.2)else q)=q:=fun q hq=>if_neg fun e=>hM.1 (by rw[dK, <-e];exact List.mem_map_of_mem hq)
       calc M.map (fun p=>if p.1=l then(l,y,p.2.2)else p)=M.map id:=List.map_congr_left this
        _=M:=by simp
      simp only[List.map_cons,List.modify_zero_cons,if_pos dK];rw[fF]
    | succ j=>
      simp only[List.getElem?_cons_succ]at hp;have hne:¬x.1=l:=fun e=>hM.1 (by rw[e, <-dK];exact List.mem_map_of_mem (List.mem_of_getElem? hp))
      simp only[List.map_cons,List.modify_succ_cons,if_neg hne];rw[ih hM.2 hp]
 rw[e];exact gB.modify hk hy j hE
theorem ZE (l:List (List UInt8)):VR G (.agg (l.map .str)) (fm l):=by
 unfold fm;refine .agg (by simp) fun i c u h1 h2=>?_
 simp only[List.getElem?_map,Option.map_eq_some_iff]at h1 h2;obtain⟨s,h3,rfl⟩:=h1;obtain⟨t,h4,rfl⟩:=h2;rw[h3]at h4;injection h4 with h4;subst h4
 exact .str
def fH (P:Program) (n:Sz) (D:List Deferred) (o:Oper) (e:Env) (O:VH) (m:MV):Prop:=∀G a w,WR G O w->FR G n D e a->∃u,VR G m u/\∀x,Sx G w x->(execOp a.eval o).run P x= .ok (.value u) x
theorem aI.hold {i:Nat} {o:Oper} {K:Env->VH->Prop} (ho:ops[i]?=some o) (hg:aK ops o e=some true) (hd:bh n o.dst=true) (hy:fH P n D o e O m) (h:K (aV o.dst m e) O):aI P n D ops i e O Q K:=by
 refine aI.h_ (M:=fun m' O'=>m'=m/\O'=O) ho hg hd (fun G a w hw hf=>?_) (by rintro m' O' ⟨rfl,rfl⟩;exact h);obtain⟨u,hu,hr⟩:=hy G a w hw hf;exact⟨m,O,u,w,G,⟨rfl,rfl⟩,hr w hw.sx,Gh.Le.refl G,hw,hu⟩
theorem VL.hold {f:Fl} {o:Oper} {L:List (Fl×Oper)} (hh:(f= .one/\(md= .plain\/md= .any))\/f= .rd) (hg:aK ops o e=some true) (hd:bh n o.dst=true) (hy:fH P n D o e O m) (h:VL P n D md ops L (aV o.dst m e) O Q):VL P n D md ops ((f,o)::L) e O Q:=by
 intro fuel listed ix hf hp
 match ix,hf with
 | (i,g)::ix,hf=>
   obtain⟨rfl,ho,hf⟩:=hf;cases md with
   | plain=>exact il.one (aI.hold ho hg hd hy (h 0 #[] ix hf (fun h=>absurd rfl h)))
   | any=>
     obtain⟨h1,h2⟩:=hp (by simp);cases fuel with
     | zero=>cases h2
     | succ fuel=>
       simp only[cz,Bool.and_eq_true]at h2;have hk:=h fuel (listed.setIfInBounds i true) ix hf (fun _=>⟨h1,h2.2⟩);rcases hh with⟨rfl,_⟩ | rfl
       ·have hr:Region.ready .any ops listed=[i]:=by simpa using h2.1
        exact bY.all hr (by simp) fun j hj=>by
         obtain rfl:j=i:=by simpa using hj
         exact aI.hold ho hg hd hy hk
       ·exact absurd h2.1 (by simp)
   | reads=>
     obtain⟨h1,h2⟩:=hp (by simp);cases fuel with
     | zero=>cases h2
     | succ fuel=>
       simp only[cz,Bool.and_eq_true]at h2;have hk:=h fuel (listed.setIfInBounds i true) ix hf (fun _=>⟨h1,h2.2⟩);rcases hh with⟨_,h3 | h3⟩ | rfl
       ·cases h3
       ·cases h3
       intro G a w hw aS;obtain⟨u,hu,bU⟩:=hy G a w hw aS;have h3:Region.free .any ops listed i=true/\(Region.ready .any ops listed).contains i=true:=by simp_all
       exact wpAnyH_take ho h1 h3.1 h3.2 (gQ hd) (.inl ⟨bd aS hg,fun w' xy=>by rw[xy];exact bU w hw.sx⟩) rfl (hk G _ w hw (aS.aV hd hu))
   | held brk=>
     obtain⟨h1,h2⟩:=hp (by simp);cases fuel with
     | zero=>cases h2
     | succ fuel=>
       simp only[cz,Bool.and_eq_true]at h2;have hk:=h fuel (listed.setIfInBounds i true) ix hf (fun _=>⟨h1,h2.2⟩);rcases hh with⟨_,h3 | h3⟩ | rfl
       ·cases h3
       ·cases h3
       simp only[Bool.and_eq_true]at h2
       exact bD.take ho h1 h2.1.1.1 h2.1.1.2 h2.1.2 hd (fun G a w hw aS=>by
        obtain⟨u,hu,bU⟩:=hy G a w hw aS;exact⟨u,hu,.inl ⟨bd aS hg,fun x hx=>bU x hx⟩⟩) hk
def xR (ok:Bool) (z:MV):Option MV->MV
 | some m=>if ok then .tuple [m,.v (.bool true)]else m
 | none=>if ok then .tuple [z,.v (.bool false)]else z
theorem Sw {z m:MV}:xR false z (some m)=m:=rfl
theorem adz {z m:MV}:xR true z (some m)= .tuple [m,.v (.bool true)]:=rfl
theorem adA {z:MV}:xR false z none=z:=rfl
theorem I6 {z:MV}:xR true z none= .tuple [z,.v (.bool false)]:=rfl
theorem fH.ly {kt et:TypeId} {N:Nat} (K:tn P kt N) (ht:aM P tab) {d:Option Tmp} {t ty:TypeId} {x y:Operand} {ok:Bool} {ps:String} {af:Array Edge} {g:Option (Nat×Bool)} {b ck:Nat} {M:fe} {l:List (List UInt8)} {te:cn} {z:MV} (hU:P.underlying t=some (.map kt et)) (nh:tab et=some te) (hz:yU te=some z)
  (hx:ev e x=some (.map b)) (hb:O.hp b=some (.map (cy M) ck)) (hM:nT N M) (hy:ev e y=some (.agg (l.map .str))) (hl:l.length=N) (hs:∀s∈l,s.length<=maxLen):fH P n D (.mk d (.lookup t x y ok) ty ps af g) e O (xR ok z (iZ l M)):=by
 intro G a w hw hf;have h1:=hf.ev hx;have h2:=hf.ev hy;generalize oo:a.eval x=u at h1;generalize xQ:a.eval y=v at h2;have hv:=zN h2;subst hv;cases h1 with
 | map ee=>
   rename_i b';obtain⟨b2,E,e1,e2,e3,e4,e5⟩:=hw.map _ _ _ hb;rw[ee]at e1;injection e1 with e1;subst e1
   have hE:gB G (cy M) E.toList:=⟨e3,e4,e5⟩;obtain⟨lit,xc⟩:=K.of l hl hs;obtain⟨zv,z1,z2⟩:=xK (ht et te nh) hz;have aeH:∀y,Sx G w y->y.heap[b']?=some (.map E ck):=fun y hy=>(hy.2 _ _ ee).trans e2
   by_cases hin:∃p∈M,p.1=l
   ·have h3:=zO K hM hE hl hs w;rcases h3 with⟨_,g2⟩ | ⟨j,p,q,_,g2,g3,g4,g5⟩
    ·obtain⟨p,hp,e⟩:=hin;exact absurd e (g2 p hp)
    have gn:iZ l M=some p.2.1:=by rw[<-g3];exact I5 hM.one g2
    rw[gn];refine⟨if ok then .tuple #[q.val,.bool true]else q.val,?_,fun yw hyw=>?_⟩
    ·cases ok
     ·exact g5
     ·exact VR.tuple (us:=[q.val,.bool true]) rfl (aO.cons g5 (aO.cons (.v rfl) aO.nil)).2
    ·have hr:(Instr.findKey kt (fm l) E.toList).run P yw= .ok (some (j,q.val)) yw:=by
      rcases zO K hM hE hl hs yw with⟨_,g6⟩ | ⟨j',p',q',g6,g7,g8,g9,_⟩
      ·exact absurd g3 (g6 p (List.mem_of_getElem? g2))
      ·have lz:j'=j:=by
        have h5:(M.map (·.1))[j']?=some l:=by simp[g7,g8]
        have h6:(M.map (·.1))[j]?=some l:=by simp[g2,g3]
        exact(List.getElem?_inj (by simpa using(List.getElem?_eq_some_iff.1 g7).1) hM.one).1 (h5.trans h6.symm)
       subst lz;rw[g4]at g9;injection g9 with g9;subst g9
       exact g6
     have Cx:=K.law.check yw E.isEmpty xc;simp only[execOp,oo,xQ,Instr.lookup,Sem.run_bind,run_underlying hU,Result.andThen_ok,MapKept.run_getObj_map (aeH yw hyw),Cx,hr,Sem.run_pure]
   ·have fF:∀p∈M,p.1≠l:=fun p hp e=>hin ⟨p,hp,e⟩
    rw[wa fF];refine⟨if ok then .tuple #[zv,.bool false]else zv,?_,fun yw hyw=>?_⟩
    ·cases ok
     ·exact z2 G
     ·exact VR.tuple (us:=[zv,.bool false]) rfl (aO.cons (z2 G) (aO.cons (.v rfl) aO.nil)).2
    ·have hr:(Instr.findKey kt (fm l) E.toList).run P yw= .ok none yw:=by
      rcases zO K hM hE hl hs yw with⟨g6,_⟩ | ⟨j',p',q',_,g7,g8,_⟩
      ·exact g6
      ·exact absurd g8 (fF p' (List.mem_of_getElem? g7))
     have Cx:=K.law.check yw E.isEmpty xc;simp only[execOp,oo,xQ,Instr.lookup,Sem.run_bind,run_underlying hU,Result.andThen_ok,MapKept.run_getObj_map (aeH yw hyw),Cx,hr,Sem.run_pure,z1]
def oq (P:Program) (n:Sz) (D:List Deferred) (o:Oper) (e:Env) (O O':VH):Prop:=∀G a w,WR G O w->FR G n D e a->∃w' H,(execOp a.eval o).run P w= .ok .skip w'/\Gh.Le G H/\WR H O' w'
theorem aI.ot {i:Nat} {o:Oper} {K:Env->VH->Prop} (ho:ops[i]?=some o) (hg:aK ops o e=some true) (hd:bh n o.dst=true) (hy:oq P n D o e O O') (h:K (aV o.dst cw e) O'):aI P n D ops i e O Q K:=by
 intro G a w hw aS;obtain⟨w',H,hr,h1,h2⟩:=hy G a w hw aS;simp only[wpOp,ho,bd aS hg,if_true];refine .inl ?_;unfold Oper.wp;rw[hr];exact⟨_,_,H,h1,h2,(aS.mono h1).aV hd jT,h⟩
theorem VL.ot {o:Oper} {L:List (Fl×Oper)} (hg:aK ops o e=some true) (hd:bh n o.dst=true) (hy:oq P n D o e O O')
  (pc:∀brk,md= .held brk->∀i,ops[i]?=some o->brk.contains i=true) (h:VL P n D md ops L (aV o.dst cw e) O' Q):VL P n D md ops ((.one,o)::L) e O Q:=by
 intro fuel listed ix hf hp
 match ix,hf with
 | (i,g)::ix,hf=>
   obtain⟨rfl,ho,hf⟩:=hf;cases md with
   | plain=>exact il.one (aI.ot ho hg hd hy (h 0 #[] ix hf (fun h=>absurd rfl h)))
   | any=>
     obtain⟨h1,h2⟩:=hp (by simp);cases fuel with
     | zero=>cases h2
     | succ fuel=>
       simp only[cz,Bool.and_eq_true]at h2;have hr:Region.ready .any ops listed=[i]:=by simpa using h2.1
       exact bY.all hr (by simp) fun j hj=>by
        obtain rfl:j=i:=by simpa using hj
        exact aI.ot ho hg hd hy (h fuel (listed.setIfInBounds j true) ix hf (fun _=>⟨h1,h2.2⟩))
   | reads=>
     obtain⟨h1,h2⟩:=hp (by simp);cases fuel with
     | zero=>cases h2
     | succ fuel=>
       simp only[cz,Bool.and_eq_true]at h2;exact absurd h2.1 (by simp)
   | held brk=>
     obtain⟨h1,h2⟩:=hp (by simp);cases fuel with
     | zero=>cases h2
     | succ fuel=>
       simp only[cz,Bool.and_eq_true]at h2;have hr:Region.ready .any ops listed=[i]:=by simpa using h2.1.1
       have tQ:∀j,(listed.setIfInBounds i true).getD j true=false\/j=i->brk.contains j=true:=by
        rcases rC ho h2.1.2 with⟨h3,_⟩ | h3
        ·rw[pc brk rfl i ho]at h3;cases h3
        ·exact h3
       exact bD.X8 hr tQ (aI.ot ho hg hd hy (h fuel (listed.setIfInBounds i true) ix hf (fun _=>⟨h1,h2.2⟩)))
theorem oq.jq {kt et:TypeId} {N:Nat} (K:tn P kt N) {d:Option Tmp} {t ty:TypeId} {x y z:Operand} {ps:String} {af:Array Edge} {g:Option (Nat×Bool)} {b ck:Nat} {M:fe} {l:List (List UInt8)} (hU:P.underlying t=some (.map kt et))
  (hx:ev e x=some (.map b)) (hb:O.hp b=some (.map (cy M) ck)) (hM:nT N M) (hy:ev e y=some (.agg (l.map .str))) (hl:l.length=N) (hs:∀s∈l,s.length<=maxLen) (hz:ev e z=some m):oq P n D (.mk d (.mapUpdate t x y z) ty ps af g) e O (O.set b (.map (cy (jq l m ck M)) (LV l ck M))):=by
 intro G a w hw hf;have h1:=hf.ev hx;have h2:=hf.ev hy;have h3:=hf.ev hz;generalize oo:a.eval x=u at h1;generalize xQ:a.eval y=v at h2;generalize haz:a.eval z=r at h3;have hv:=zN h2;subst hv;cases h1 with
 | map ee=>
   rename_i b';obtain⟨b2,E,e1,e2,e3,e4,e5⟩:=hw.map _ _ _ hb;rw[ee]at e1;injection e1 with e1;subst e1
   have hE:gB G (cy M) E.toList:=⟨e3,e4,e5⟩;obtain⟨lit,xc⟩:=K.of l hl hs;have Cx:=K.law.check w false xc;rcases zO K hM hE hl hs w with⟨g1,g2⟩ | ⟨j,p,q,g1,g2,g3,g4,g5⟩
   ·have jr:M.any (·.1==l)=false:=by rw[List.any_eq_false];intro p hp;simpa using g2 p hp
    have hr:gB G (cy (M++[(l,m,ck)])) (E.push {key:=fm l,val:=r,born:=ck}).toList:=by
     rw[Array.toList_push];unfold cy;rw[List.map_append];exact hE.append (gB.cons rfl h2 h3 gB.nil)
    refine⟨?wx,G,?rn,Gh.Le.refl G,?wr⟩
    case wr=>rw[Go.Proofs.YtoclnkfdahmnhaaGreatDoor.jq,LV,jr];exact hw.sf (ck':=ck+1) hb ee e2 hr
    case rn=>
     simp only[execOp,oo,xQ,haz,Instr.mapUpdate,Sem.run_bind,run_underlying hU,Result.andThen_ok,MapKept.run_getObj_map e2,Cx,g1,run_setObj_map _ e2];rfl
   ·have jr:M.any (·.1==l)=true:=List.any_eq_true.2 ⟨p,List.mem_of_getElem? g2,by simp[g3]⟩;have I7:q.key=fm l:=by have:=(hE.keys.2 j p q g2 g4).1;rw[this,g3]
    have c5:=K.law.stays w xc;have hr:=gB.ahK hM.one hE h3 g2 g3 (ZE l);rw[<-Array.toList_modify]at hr
    have qg:((E[j]?).map (·.key)).getD (fm l)=fm l:=by
     have:E[j]?=some q:=by simpa using g4
     rw[this];exact I7
    refine⟨?wy,G,?rm,Gh.Le.refl G,?ws⟩
    case ws=>rw[Go.Proofs.YtoclnkfdahmnhaaGreatDoor.jq,LV,jr];exact hw.sf (ck':=ck) hb ee e2 hr
    case rm=>
     simp only[execOp,oo,xQ,haz,Instr.mapUpdate,Sem.run_bind,run_underlying hU,Result.andThen_ok,MapKept.run_getObj_map e2,Cx,g1,qg,c5,run_setObj_map _ e2];rfl
end
theorem rH {N:Nat} {M:fe} {l:List (List UInt8)} {y:MV} {ck:Nat} (h:nT N M) (hl:l.length=N) (hs:∀s∈l,s.length<=maxLen):nT N (jq l y ck M):=by
 unfold jq;split
 ·have hk:(M.map (fun p=>if p.1=l then(l,y,p.2.2)else p)).map (·.1)=M.map (·.1):=by
   rw[List.map_map];refine List.map_congr_left fun p _=>?_
   show(if p.1=l then(l,y,p.2.2)else p).1=p.1;split
   ·rename_i e;exact e.symm
   ·rfl
  refine⟨fun p hp=>?_,by rw[hk];exact h.one⟩;have:p.1∈M.map (·.1):=by rw[<-hk];exact List.mem_map_of_mem hp
  obtain⟨q,hq,e⟩:=List.mem_map.1 this;rw[<-e];exact h.len q hq
 ·rename_i fF;have fF:∀p∈M,¬p.1=l:=fun p hp e=>fF (List.any_eq_true.2 ⟨p,hp,by simp[e]⟩)
  refine⟨fun p hp=>?_,?_⟩
  ·rcases List.mem_append.1 hp with hp | hp
   ·exact h.len p hp
   ·rw[List.mem_singleton.1 hp];exact⟨hl,hs⟩
  ·rw[List.map_append,List.nodup_append];refine⟨h.one,by simp,fun x hx z hz e=>?_⟩;simp only[List.map_cons,List.map_nil,List.mem_singleton]at hz;obtain⟨q,hq,e2⟩:=List.mem_map.1 hx;exact fF q hq (by rw[e2,e,hz])
def Sy (P:Program):List Field->Nat->Bool
 | [],_=>true
 | f::r,i=>(match P.underlying f.type with | some .string=>true | _=>false)&&f.offset==i&&P.cellsOf f.type==1&&Sy P r (i+1)
def skB (P:Program) (kt:TypeId) (N:Nat):Bool:=match P.underlying kt with
 | some (.struct fs)=>P.keyType kt&&fs.all (·.name != "_")&&P.cellsOf kt==N&&fs.size==N&&Sy P fs.toList 0&&decide (kt<P.types.size)&&decide (P.types.size+2<=10000)
 | _=>false
theorem mapM_some {α β :Type} {g: α ->Option β}:∀{L:List α},(∀f∈L,∃y,g f=some y)->∃ys,L.mapM g=some ys
 | [],_=>⟨[],rfl⟩
 | f::L,h=>by
   obtain⟨y,hy⟩:=h f (by simp);obtain⟨ys,PL⟩:=mapM_some (L:=L) fun x hx=>h x (List.mem_cons_of_mem _ hx)
   exact⟨y::ys,by rw[List.mapM_cons,hy];simp[PL]⟩
theorem LW {P:Program}:∀{L:List Field} {i:Nat},Sy P L i=true->∀(j:Nat) (f:Field),L[j]?=some f->P.underlying f.type=some .string/\f.offset=i+j/\P.cellsOf f.type=1
 | [],_,_,j,f,h=>by simp at h
 | g::L,i,hB,j,f,h=>by
   simp only[Sy,Bool.and_eq_true,beq_iff_eq]at hB;obtain⟨⟨⟨h1,h2⟩,h3⟩,h4⟩:=hB;cases j with
   | zero=>
     simp only[List.getElem?_cons_zero,Option.some.injEq]at h;subst h;refine⟨?_,h2,h3⟩;split at h1
     ·assumption
     ·cases h1
   | succ j=>
     have:=LW h4 j f (by simpa using h);exact⟨this.1,by omega,this.2.2⟩
theorem tn.sr {P:Program} {kt:TypeId} {N:Nat} (hl:laidOutB P=true) (h:skB P kt N=true):tn P kt N:=by
 unfold skB at h;split at h
 ·rename_i fs hu;simp only[Bool.and_eq_true,beq_iff_eq,decide_eq_true_eq]at h;obtain⟨⟨⟨⟨⟨⟨h1,h2⟩,h3⟩,h4⟩,h5⟩,h6⟩,h7⟩:=h;refine⟨deep_law_gate hl h7 h6 h1 (by rw[hu]),fun l hlen hs=>?_⟩
  have agE:(fm l).formed P kt=true:=by
   unfold fm Value.formed;simp only[hu];simp[hlen,h3]
  have agF:∃ls,P.keyLits (P.types.size+1) kt (fm l).cells.toList=some ls:=by
   obtain⟨D,hD⟩:∃D,P.types.size=D+1:=⟨P.types.size - 1,by have:0<P.types.size:=Nat.lt_of_le_of_lt (Nat.zero_le kt) h6;omega⟩
   rw[hD];unfold Program.keyLits;have hc:(fm l).cells.toList=l.map fun s=>Value.string ⟨⟨s⟩⟩:=by simp[fm,Value.cells]
   rw[hc];simp only[hu];rw[if_pos ⟨by simp[hlen,h3],h2⟩]
   obtain⟨ys,PL⟩:=mapM_some (L:=fs.toList) (g:=fun f=>P.keyLits (D+1) f.type (((l.map fun s=>Value.string ⟨⟨s⟩⟩).drop f.offset).take (P.cellsOf f.type))) fun f hf=>by
    obtain⟨j,hj,rfl⟩:=List.mem_iff_getElem.1 hf;obtain⟨g1,g2,g3⟩:=LW h5 j _ (List.getElem?_eq_getElem hj);rw[Nat.zero_add]at g2;have AV:j<l.length:=by rw[hlen, <-h4];simpa using hj
    have xd:((l.map fun s=>Value.string ⟨⟨s⟩⟩).drop j).take 1=[Value.string ⟨⟨l[j]⟩⟩]:=by
     rw[List.drop_eq_getElem_cons (by simpa using AV)];simp
    rw[g2,g3,xd];unfold Program.keyLits;simp only[g1];exact⟨_,if_pos (hs _ (List.getElem_mem AV))⟩
   exact⟨ys.flatten,by rw[PL];rfl⟩
  obtain⟨ls,Vv⟩:=agF;refine⟨.string (keyBytes ls),?_⟩;unfold keyOf;simp only[hu];rw[h1,agE,Vv];rfl
 ·cases h
set_option linter.defProp false in
def zk:=And.intro wk<|And.intro wu<|And.intro @I4<|And.intro @Cw<|And.intro @Option.map_none.{0,0}<|And.intro @Sw<|And.intro @adz<|And.intro @adA<|And.intro @I6<|And.intro @Zr<|And.intro @Option.isSome_some.{0}<|And.intro @Option.isSome_none.{0}<|And.intro @sy @aj
section
variable {A1 A2 A3 A4 A5 A6 A7 A8 A9 P Q:Prop}
theorem I8 (q:Q) (h:P=Q:=by conv=>lhs;simp(disch:=first | omega | (simp only[ds]<;>omega) | fail) only[zk,cw,Nat.reduceLT,Nat.reduceAdd,Nat.reduceMul,Nat.reduceSub,Nat.reduceBEq,Nat.reduceEqDiff,Int.reduceToNat,reduceIte]):P:=(h).mpr q
theorem ae (a1:A1) (q:Q) (h:A1->P=Q:=by intro a1;conv=>lhs;simp(disch:=first | omega | (simp only[ds]<;>omega) | fail) only[zk,cw,Nat.reduceLT,Nat.reduceAdd,Nat.reduceMul,Nat.reduceSub,Nat.reduceBEq,Nat.reduceEqDiff,Int.reduceToNat,reduceIte,a1]):P:=(h a1).mpr q
theorem fp (a1:A1) (h:A1->P:=by intro a1;simp(disch:=first | omega | (simp only[ds]<;>omega) | fail) only[zk,cw,Nat.reduceLT,Nat.reduceAdd,Nat.reduceMul,Nat.reduceSub,Nat.reduceBEq,Nat.reduceEqDiff,Int.reduceToNat,reduceIte,a1]):P:=h a1
theorem ao (a1:A1) (a2:A2) (q:Q) (h:A1->A2->P=Q:=by intro a1 a2;conv=>lhs;simp(disch:=first | omega | (simp only[ds]<;>omega) | fail) only[zk,cw,Nat.reduceLT,Nat.reduceAdd,Nat.reduceMul,Nat.reduceSub,Nat.reduceBEq,Nat.reduceEqDiff,Int.reduceToNat,reduceIte,a1,a2]):P:=(h a1 a2).mpr q
theorem dq (a1:A1) (a2:A2) (h:A1->A2->P:=by intro a1 a2;simp(disch:=first | omega | (simp only[ds]<;>omega) | fail) only[zk,cw,Nat.reduceLT,Nat.reduceAdd,Nat.reduceMul,Nat.reduceSub,Nat.reduceBEq,Nat.reduceEqDiff,Int.reduceToNat,reduceIte,a1,a2]):P:=h a1 a2
theorem aN (a1:A1) (a2:A2) (a3:A3) (q:Q) (h:A1->A2->A3->P=Q:=by intro a1 a2 a3;conv=>lhs;simp(disch:=first | omega | (simp only[ds]<;>omega) | fail) only[zk,cw,Nat.reduceLT,Nat.reduceAdd,Nat.reduceMul,Nat.reduceSub,Nat.reduceBEq,Nat.reduceEqDiff,Int.reduceToNat,reduceIte,a1,a2,a3]):P:=(h a1 a2 a3).mpr q
theorem kt3 (a1:A1) (a2:A2) (a3:A3) (h:A1->A2->A3->P:=by intro a1 a2 a3;simp(disch:=first | omega | (simp only[ds]<;>omega) | fail) only[zk,cw,Nat.reduceLT,Nat.reduceAdd,Nat.reduceMul,Nat.reduceSub,Nat.reduceBEq,Nat.reduceEqDiff,Int.reduceToNat,reduceIte,a1,a2,a3]):P:=h a1 a2 a3
theorem cU (a1:A1) (a2:A2) (a3:A3) (a4:A4) (q:Q) (h:A1->A2->A3->A4->P=Q:=by intro a1 a2 a3 a4;conv=>lhs;simp(disch:=first | omega | (simp only[ds]<;>omega) | fail) only[zk,cw,Nat.reduceLT,Nat.reduceAdd,Nat.reduceMul,Nat.reduceSub,Nat.reduceBEq,Nat.reduceEqDiff,Int.reduceToNat,reduceIte,a1,a2,a3,a4]):P:=(h a1 a2 a3 a4).mpr q
theorem kt4 (a1:A1) (a2:A2) (a3:A3) (a4:A4) (h:A1->A2->A3->A4->P:=by intro a1 a2 a3 a4;simp(disch:=first | omega | (simp only[ds]<;>omega) | fail) only[zk,cw,Nat.reduceLT,Nat.reduceAdd,Nat.reduceMul,Nat.reduceSub,Nat.reduceBEq,Nat.reduceEqDiff,Int.reduceToNat,reduceIte,a1,a2,a3,a4]):P:=h a1 a2 a3 a4
theorem ia (a1:A1) (a2:A2) (a3:A3) (a4:A4) (a5:A5) (q:Q) (h:A1->A2->A3->A4->A5->P=Q:=by intro a1 a2 a3 a4 a5;conv=>lhs;simp(disch:=first | omega | (simp only[ds]<;>omega) | fail) only[zk,cw,Nat.reduceLT,Nat.reduceAdd,Nat.reduceMul,Nat.reduceSub,Nat.reduceBEq,Nat.reduceEqDiff,Int.reduceToNat,reduceIte,a1,a2,a3,a4,a5]):P:=(h a1 a2 a3 a4 a5).mpr q
theorem kt5 (a1:A1) (a2:A2) (a3:A3) (a4:A4) (a5:A5) (h:A1->A2->A3->A4->A5->P:=by intro a1 a2 a3 a4 a5;simp(disch:=first | omega | (simp only[ds]<;>omega) | fail) only[zk,cw,Nat.reduceLT,Nat.reduceAdd,Nat.reduceMul,Nat.reduceSub,Nat.reduceBEq,Nat.reduceEqDiff,Int.reduceToNat,reduceIte,a1,a2,a3,a4,a5]):P:=h a1 a2 a3 a4 a5
theorem AW (a1:A1) (a2:A2) (a3:A3) (a4:A4) (a5:A5) (a6:A6) (q:Q) (h:A1->A2->A3->A4->A5->A6->P=Q:=by intro a1 a2 a3 a4 a5 a6;conv=>lhs;simp(disch:=first | omega | (simp only[ds]<;>omega) | fail) only[zk,cw,Nat.reduceLT,Nat.reduceAdd,Nat.reduceMul,Nat.reduceSub,Nat.reduceBEq,Nat.reduceEqDiff,Int.reduceToNat,reduceIte,a1,a2,a3,a4,a5,a6]):P:=(h a1 a2 a3 a4 a5 a6).mpr q
theorem kt6 (a1:A1) (a2:A2) (a3:A3) (a4:A4) (a5:A5) (a6:A6) (h:A1->A2->A3->A4->A5->A6->P:=by intro a1 a2 a3 a4 a5 a6;simp(disch:=first | omega | (simp only[ds]<;>omega) | fail) only[zk,cw,Nat.reduceLT,Nat.reduceAdd,Nat.reduceMul,Nat.reduceSub,Nat.reduceBEq,Nat.reduceEqDiff,Int.reduceToNat,reduceIte,a1,a2,a3,a4,a5,a6]):P:=h a1 a2 a3 a4 a5 a6
theorem ZF (a1:A1) (a2:A2) (a3:A3) (a4:A4) (a5:A5) (a6:A6) (a7:A7) (q:Q) (h:A1->A2->A3->A4->A5->A6->A7->P=Q:=by intro a1 a2 a3 a4 a5 a6 a7;conv=>lhs;simp(disch:=first | omega | (simp only[ds]<;>omega) | fail) only[zk,cw,Nat.reduceLT,Nat.reduceAdd,Nat.reduceMul,Nat.reduceSub,Nat.reduceBEq,Nat.reduceEqDiff,Int.reduceToNat,reduceIte,a1,a2,a3,a4,a5,a6,a7]):P:=(h a1 a2 a3 a4 a5 a6 a7).mpr q
theorem Qj (a1:A1) (a2:A2) (a3:A3) (a4:A4) (a5:A5) (a6:A6) (a7:A7) (a8:A8) (q:Q) (h:A1->A2->A3->A4->A5->A6->A7->A8->P=Q:=by intro a1 a2 a3 a4 a5 a6 a7 a8;conv=>lhs;simp(disch:=first | omega | (simp only[ds]<;>omega) | fail) only[zk,cw,Nat.reduceLT,Nat.reduceAdd,Nat.reduceMul,Nat.reduceSub,Nat.reduceBEq,Nat.reduceEqDiff,Int.reduceToNat,reduceIte,a1,a2,a3,a4,a5,a6,a7,a8]):P:=(h a1 a2 a3 a4 a5 a6 a7 a8).mpr q
theorem kw9 (a1:A1) (a2:A2) (a3:A3) (a4:A4) (a5:A5) (a6:A6) (a7:A7) (a8:A8) (a9:A9) (q:Q) (h:A1->A2->A3->A4->A5->A6->A7->A8->A9->P=Q:=by intro a1 a2 a3 a4 a5 a6 a7 a8 a9;conv=>lhs;simp(disch:=first | omega | (simp only[ds]<;>omega) | fail) only[zk,cw,Nat.reduceLT,Nat.reduceAdd,Nat.reduceMul,Nat.reduceSub,Nat.reduceBEq,Nat.reduceEqDiff,Int.reduceToNat,reduceIte,a1,a2,a3,a4,a5,a6,a7,a8,a9]):P:=(h a1 a2 a3 a4 a5 a6 a7 a8 a9).mpr q
end
theorem aa:aM Tryz.prog (eA Tryz.prog):=X9 _
abbrev TY (t:Nat) (d:TypeDesc) (a b:Nat) (z:List MV):Prop:=eA Tryz.prog t=some ⟨d,a,b,z⟩
abbrev TS (t:Nat) (d:TypeDesc) (a b:Nat) (z:List MV) (p:List (Nat×Nat)):Prop:=TY t d a b z/\ey d=true/\∀x,vT (eA Tryz.prog) t x=(lx (kO p) z x).map .agg
abbrev FL (t i f:Nat) (g:Bool) (s:Nat):Prop:=(∀k o,jm (eA Tryz.prog) t i (.ptr k o)=some (.ptr k (o+f)))/\(∀c o,jm (eA Tryz.prog) t i (.cX c o)=some (.cX c (o+f)))/\∀c,vQ (eA Tryz.prog) t (.agg c) i=mG g s c f
theorem ec {t a b:Nat} {d:TypeDesc} {z:List MV} (h:eA Tryz.prog t=some ⟨d,a,b,z⟩:=by kernel_rfl):TY t d a b z:=h
theorem jk {t a b:Nat} {d:TypeDesc} {z:List MV} {p:List (Nat×Nat)} (h:eA Tryz.prog t=some ⟨d,a,b,z⟩:=by kernel_rfl) (h1:ey d=true:=by kernel_rfl) (h2:∀x,vT (eA Tryz.prog) t x=(lx (kO p) z x).map .agg:=by intro x;kernel_rfl):TS t d a b z p:=⟨h,h1,h2⟩
theorem bw {t i f s:Nat} {g:Bool} (h:∀k o,jm (eA Tryz.prog) t i (.ptr k o)=some (.ptr k (o+f)):=by intro k o;kernel_rfl) (h1:∀c o,jm (eA Tryz.prog) t i (.cX c o)=some (.cX c (o+f)):=by intro c o;kernel_rfl) (h2:∀c,vQ (eA Tryz.prog) t (.agg c) i=mG g s c f:=by intro c;kernel_rfl):FL t i f g s:=⟨h,h1,h2⟩
theorem T2:TY 2 (.int .i64) 1 8 [.v (.int .i64 0)]:=ec
theorem T3:TY 3 (.int .i64) 1 8 [.v (.int .i64 0)]:=ec
theorem T4:TY 4 .bool 1 1 [.v (.bool false)]:=ec
theorem T5:TY 5 (.int .u8) 1 1 [.v (.int .u8 0)]:=ec
theorem T9:TY 9 .string 1 16 [.str []]:=ec
theorem Qk:TY 21 (.int .i32) 1 4 [.v (.int .i32 0)]:=ec
theorem Ek:TY 22 (.slice 35) 1 24 [.sl 0 [] .nil]:=ec
theorem T26:TY 26 (.slice 4) 1 24 [.sl 0 [] .nil]:=ec
theorem T28:TY 28 (.slice 3) 1 24 [.sl 0 [] .nil]:=ec
theorem ZG:TS 30 Tryz.t29.desc 4 64 [.str [],.str [],.str [],.str []] [(0,1),(1,1),(2,1),(3,1)]/\FL 30 0 0 false 1/\FL 30 1 1 false 1/\FL 30 2 2 false 1/\FL 30 3 3 false 1:=⟨jk,bw,bw,bw,bw⟩
theorem T31:TY 31 (.slice 221) 1 24 [.sl 0 [] .nil]:=ec
theorem T33:TS 33 Tryz.t32.desc 3 48 [.v (.bool false),.str [],.sl 0 [] .nil] [(0,1),(1,1),(2,1)]/\FL 33 0 0 false 1/\FL 33 1 1 false 1/\FL 33 2 2 false 1:=⟨jk,bw,bw,bw⟩
theorem T35:TS 35 Tryz.t34.desc 13 168 [.v (.int .i64 0),.v (.int .i64 0),.v (.int .i64 0),.str [],.str [],.str [],.str [],.str [],.v (.bool false),.str [],.sl 0 [] .nil,.v (.int .i64 0),.v (.bool false)] [(0,1),(1,1),(2,1),(3,4),(7,1),(8,3),(11,1),(12,1)]/\FL 35 0 0 false 1/\FL 35 1 1 false 1/\FL 35 2 2 false 1/\FL 35 3 3 true 4/\FL 35 4 7 false 1/\FL 35 5 8 true 3/\FL 35 6 11 false 1/\FL 35 7 12 false 1:=⟨jk,bw,bw,bw,bw,bw,bw,bw,bw⟩
theorem Ql:TY 36 (.slice 39) 1 24 [.sl 0 [] .nil]:=ec
theorem T39:TS 39 Tryz.t38.desc 7 96 [.str [],.str [],.str [],.str [],.v (.int .i64 0),.str [],.v (.int .i64 0)] [(0,4),(4,1),(5,1),(6,1)]/\FL 39 0 0 true 4/\FL 39 1 4 false 1/\FL 39 2 5 false 1/\FL 39 3 6 false 1:=⟨jk,bw,bw,bw,bw⟩
theorem zP:TY 51 (.slice 9) 1 24 [.sl 0 [] .nil]:=ec
theorem T58:TY 58 (.pointer 102) 1 8 [.v (.pointer none)]:=ec
theorem Em:TY 61 (.slice 140) 1 24 [.sl 0 [] .nil]:=ec
theorem AX:TS 63 Tryz.t62.desc 8 120 [.str [],.str [],.str [],.str [],.str [],.v (.int .i64 0),.v (.int .i64 0),.sl 0 [] .nil] [(0,1),(1,1),(2,1),(3,1),(4,1),(5,1),(6,1),(7,1)]/\FL 63 0 0 false 1/\FL 63 1 1 false 1/\FL 63 2 2 false 1/\FL 63 3 3 false 1/\FL 63 4 4 false 1/\FL 63 5 5 false 1/\FL 63 6 6 false 1/\FL 63 7 7 false 1:=⟨jk,bw,bw,bw,bw,bw,bw,bw,bw⟩
theorem T65:TY 65 (.int .i64) 1 8 [.v (.int .i64 0)]:=ec
theorem AY:TS 67 Tryz.t66.desc 3 48 [.str [],.str [],.str []] [(0,1),(1,1),(2,1)]/\FL 67 0 0 false 1/\FL 67 1 1 false 1/\FL 67 2 2 false 1:=⟨jk,bw,bw,bw⟩
theorem T69:TS 69 Tryz.t68.desc 3 24 [.v (.int .i64 0),.v (.int .i64 0),.v (.int .i64 0)] [(0,1),(1,1),(2,1)]/\FL 69 0 0 false 1/\FL 69 1 1 false 1/\FL 69 2 2 false 1:=⟨jk,bw,bw,bw⟩
theorem T71:TS 71 Tryz.t70.desc 8 96 [.v (.int .i64 0),.str [],.str [],.str [],.v (.int .i64 0),.v (.int .i64 0),.v (.int .i64 0),.str []] [(0,1),(1,3),(4,3),(7,1)]/\FL 71 0 0 false 1/\FL 71 1 1 true 3/\FL 71 2 4 true 3/\FL 71 3 7 false 1:=⟨jk,bw,bw,bw,bw⟩
theorem T75:TY 75 (.map 30 3) 1 8 [.v (.map none)]:=ec
theorem T77:TS 77 Tryz.t76.desc 4 80 [.sl 0 [] .nil,.sl 0 [] .nil,.sl 0 [] .nil,.v (.map none)] [(0,1),(1,1),(2,1),(3,1)]/\FL 77 0 0 false 1/\FL 77 1 1 false 1/\FL 77 2 2 false 1/\FL 77 3 3 false 1:=⟨jk,bw,bw,bw,bw⟩
theorem T78:TY 78 (.pointer 77) 1 8 [.v (.pointer none)]:=ec
theorem T91:TY 91 Tryz.t91.desc 1 8 [.v .nilFunc]:=ec
theorem T94:TY 94 (.map 67 126) 1 8 [.v (.map none)]:=ec
theorem T95:TY 95 (.map 140 51) 1 8 [.v (.map none)]:=ec
theorem aeI:TS 100 Tryz.t99.desc 1 8 [.v (.int .i64 0)] [(0,0),(0,0),(0,1)]/\FL 100 2 0 false 1:=⟨jk,bw⟩
theorem SA:TS 102 Tryz.t101.desc 4 32 [.v (.map none),.v (.map none),.v (.int .i64 0),.v (.int .i64 0)] [(0,1),(1,1),(2,1),(3,1)]/\FL 102 0 0 false 1/\FL 102 1 1 false 1/\FL 102 2 2 true 1/\FL 102 3 3 true 1:=⟨jk,bw,bw,bw,bw⟩
theorem uO:TY 103 (.slice 63) 1 24 [.sl 0 [] .nil]:=ec
theorem zQ:TY 104 (.slice 160) 1 24 [.sl 0 [] .nil]:=ec
theorem LX:TS 106 Tryz.t105.desc 11 192 [.v (.bool false),.str [],.str [],.str [],.str [],.str [],.str [],.str [],.sl 0 [] .nil,.sl 0 [] .nil,.sl 0 [] .nil] [(0,1),(1,3),(4,1),(5,1),(6,1),(7,1),(8,1),(9,1),(10,1)]/\FL 106 0 0 false 1/\FL 106 1 1 true 3/\FL 106 2 4 false 1/\FL 106 3 5 false 1/\FL 106 4 6 false 1/\FL 106 5 7 false 1/\FL 106 6 8 false 1/\FL 106 7 9 false 1/\FL 106 8 10 false 1:=⟨jk,bw,bw,bw,bw,bw,bw,bw,bw,bw⟩
theorem aeJ:TY 109 (.slice 212) 1 24 [.sl 0 [] .nil]:=ec
theorem nU:TY 110 (.slice 112) 1 24 [.sl 0 [] .nil]:=ec
theorem tq:TS 112 Tryz.t111.desc 4 80 [.str [],.sl 0 [] .nil,.sl 0 [] .nil,.str []] [(0,1),(1,1),(2,1),(3,1)]/\FL 112 0 0 false 1/\FL 112 1 1 false 1/\FL 112 2 2 false 1/\FL 112 3 3 false 1:=⟨jk,bw,bw,bw,bw⟩
theorem ahL:TY 115 (.pointer 179) 1 8 [.v (.pointer none)]:=ec
theorem SB:TY 126 (.pointer 138) 1 8 [.v (.pointer none)]:=ec
theorem ahM:TY 128 (.int .u32) 1 4 [.v (.int .u32 0)]:=ec
theorem ahN:TS 130 Tryz.t129.desc 1 4 [.v (.int .u32 0)] [(0,0),(0,1)]/\FL 130 1 0 false 1:=⟨jk,bw⟩
theorem ZH:TS 132 Tryz.t131.desc 2 8 [.v (.int .i32 0),.v (.int .u32 0)] [(0,1),(1,1)]/\FL 132 0 0 false 1/\FL 132 1 1 false 1:=⟨jk,bw,bw⟩
theorem ahO:TS 134 Tryz.t133.desc 2 8 [.v (.int .i32 0),.v (.int .u32 0)] [(0,0),(0,2)]/\FL 134 1 0 true 2:=⟨jk,bw⟩
theorem ahP:TS 136 Tryz.t135.desc 3 12 [.v (.int .u32 0),.v (.int .i32 0),.v (.int .u32 0)] [(0,0),(0,1),(1,2)]/\FL 136 1 0 true 1/\FL 136 2 1 true 2:=⟨jk,bw,bw⟩
theorem aeK:TS 138 Tryz.t137.desc 23 320 [.str [],.v (.int .u32 0),.v (.int .i32 0),.v (.int .u32 0),.v (.bool false),.str [],.str [],.str [],.str [],.str [],.str [],.str [],.sl 0 [] .nil,.sl 0 [] .nil,.sl 0 [] .nil,.v (.int .i64 0),.str [],.str [],.str [],.v (.int .i64 0),.v (.int .i64 0),.v (.int .i64 0),.str []] [(0,1),(1,3),(4,11),(15,8)]/\FL 138 0 0 false 1/\FL 138 1 1 true 3/\FL 138 2 4 true 11/\FL 138 3 15 true 8:=⟨jk,bw,bw,bw,bw⟩
theorem B6:TS 140 Tryz.t139.desc 2 32 [.str [],.str []] [(0,1),(1,1)]/\FL 140 0 0 false 1/\FL 140 1 1 false 1:=⟨jk,bw,bw⟩
theorem SC:TY 142 (.pointer 145) 1 8 [.v (.pointer none)]:=ec
theorem tr:TY 143 (.slice 5) 1 24 [.sl 0 [] .nil]:=ec
theorem LY:TS 145 Tryz.t144.desc 2 32 [.v (.pointer none),.sl 0 [] .nil] [(0,1),(1,1)]/\FL 145 0 0 false 1/\FL 145 1 1 false 1:=⟨jk,bw,bw⟩
theorem ahQ:TY 146 Tryz.t146.desc 1 8 [.v .nilFunc]:=ec
theorem ahR:TY 148 Tryz.t147.desc 1 16 [.v .nilIface]:=ec
theorem aeL:TS 153 Tryz.t152.desc 7 88 [.v (.int .i64 0),.str [],.sl 0 [] .nil,.str [],.v (.int .i64 0),.v (.int .i64 0),.v (.int .i64 0)] [(0,1),(1,1),(2,1),(3,1),(4,3)]/\FL 153 0 0 false 1/\FL 153 1 1 false 1/\FL 153 2 2 false 1/\FL 153 3 3 false 1/\FL 153 4 4 true 3:=⟨jk,bw,bw,bw,bw,bw⟩
theorem En:TY 155 (.slice 153) 1 24 [.sl 0 [] .nil]:=ec
theorem B7:TS 160 Tryz.t159.desc 2 32 [.str [],.str []] [(0,1),(1,1)]/\FL 160 0 0 false 1/\FL 160 1 1 false 1:=⟨jk,bw,bw⟩
theorem ahS:TY 162 (.pointer 166) 1 8 [.v (.pointer none)]:=ec
theorem aeM:TY 163 (.map 30 63) 1 8 [.v (.map none)]:=ec
theorem aeN:TY 164 (.slice 61) 1 24 [.sl 0 [] .nil]:=ec
theorem ahT:TS 166 Tryz.t165.desc 8 120 [.v (.pointer none),.v (.pointer none),.str [],.str [],.str [],.v (.map none),.sl 0 [] .nil,.sl 0 [] .nil] [(0,1),(1,1),(2,3),(5,1),(6,1),(7,1)]/\FL 166 0 0 false 1/\FL 166 1 1 false 1/\FL 166 2 2 true 3/\FL 166 3 5 false 1/\FL 166 4 6 false 1/\FL 166 5 7 false 1:=⟨jk,bw,bw,bw,bw,bw,bw⟩
theorem HB:TY 167 (.slice 175) 1 24 [.sl 0 [] .nil]:=ec
theorem Eo:TS 169 Tryz.t168.desc 7 136 [.str [],.str [],.str [],.str [],.sl 0 [] .nil,.sl 0 [] .nil,.sl 0 [] .nil] [(0,3),(3,1),(4,1),(5,1),(6,1)]/\FL 169 0 0 true 3/\FL 169 1 3 false 1/\FL 169 2 4 false 1/\FL 169 3 5 false 1/\FL 169 4 6 false 1:=⟨jk,bw,bw,bw,bw,bw⟩
theorem ahU:TY 173 Tryz.t173.desc 1 8 [.v .nilFunc]:=ec
theorem LZ:TS 175 Tryz.t174.desc 10 152 [.str [],.str [],.str [],.str [],.v (.bool false),.str [],.sl 0 [] .nil,.v (.int .i64 0),.v (.bool false),.sl 0 [] .nil] [(0,4),(4,3),(7,1),(8,1),(9,1)]/\FL 175 0 0 true 4/\FL 175 1 4 true 3/\FL 175 2 7 false 1/\FL 175 3 8 false 1/\FL 175 4 9 false 1:=⟨jk,bw,bw,bw,bw,bw⟩
theorem aeO:TY 177 (.map 67 169) 1 8 [.v (.map none)]:=ec
theorem aeP:TS 179 Tryz.t178.desc 2 16 [.v (.pointer none),.v (.map none)] [(0,1),(1,1)]/\FL 179 0 0 false 1/\FL 179 1 1 false 1:=⟨jk,bw,bw⟩
theorem ahV:TY 186 Tryz.t186.desc 1 8 [.v .nilFunc]:=ec
theorem ahW:TY 189 (.pointer 5) 1 8 [.v (.pointer none)]:=ec
theorem HC:TY 210 .unsafePointer 1 8 [.v (.pointer none)]:=ec
theorem aeQ:TS 212 Tryz.t159.desc 2 32 [.str [],.str []] [(0,1),(1,1)]/\FL 212 0 0 false 1/\FL 212 1 1 false 1:=⟨jk,bw,bw⟩
theorem aeR:TS 221 Tryz.t220.desc 6 64 [.v (.bool false),.str [],.v (.bool false),.v (.bool false),.str [],.v (.bool false)] [(0,3),(3,3)]/\FL 221 0 0 true 3/\FL 221 1 3 true 3:=⟨jk,bw,bw⟩
theorem xe:TY 222 (.slice 67) 1 24 [.sl 0 [] .nil]:=ec
theorem ahX:TY 226 (.pointer 232) 1 8 [.v (.pointer none)]:=ec
theorem aeS:TY 227 (.pointer 262) 1 8 [.v (.pointer none)]:=ec
theorem ahY:TS 232 Tryz.t231.desc 17 280 [.v (.pointer none),.v (.pointer none),.str [],.str [],.str [],.v (.bool false),.str [],.str [],.str [],.str [],.str [],.str [],.str [],.sl 0 [] .nil,.sl 0 [] .nil,.sl 0 [] .nil,.sl 0 [] .nil] [(0,1),(1,1),(2,3),(5,11),(16,1)]/\FL 232 0 0 false 1/\FL 232 1 1 false 1/\FL 232 2 2 true 3/\FL 232 3 5 true 11/\FL 232 4 16 false 1:=⟨jk,bw,bw,bw,bw,bw⟩
theorem aeT:TY 256 (.slice 106) 1 24 [.sl 0 [] .nil]:=ec
theorem HD:TY 260 (.map 9 9) 1 8 [.v (.map none)]:=ec
theorem ahZ:TS 262 Tryz.t261.desc 4 48 [.sl 0 [] .nil,.v (.map none),.v (.map none),.v (.int .i64 0)] [(0,1),(1,1),(2,1),(3,1)]/\FL 262 0 0 false 1/\FL 262 1 1 false 1/\FL 262 2 2 false 1/\FL 262 3 3 true 1:=⟨jk,bw,bw,bw,bw⟩
theorem aeU:TY 268 (.pointer 270) 1 8 [.v (.pointer none)]:=ec
theorem ah0:TS 270 Tryz.t269.desc 2 32 [.v (.pointer none),.sl 0 [] .nil] [(0,1),(1,1)]/\FL 270 0 0 false 1/\FL 270 1 1 false 1:=⟨jk,bw,bw⟩
theorem ah1:TY 272 (.pointer 275) 1 8 [.v (.pointer none)]:=ec
theorem ah2:TY 273 (.map 30 4) 1 8 [.v (.map none)]:=ec
theorem ah3:TS 275 Tryz.t274.desc 2 32 [.sl 0 [] .nil,.v (.map none)] [(0,1),(1,1)]/\FL 275 0 0 false 1/\FL 275 1 1 false 1:=⟨jk,bw,bw⟩
theorem ah4:TY 285 (.pointer 287) 1 8 [.v (.pointer none)]:=ec
theorem ah5:TS 287 Tryz.t286.desc 1 16 [.str []] [(0,1)]/\FL 287 0 0 false 1:=⟨jk,bw⟩
theorem ah6:TS 300 Tryz.t299.desc 2 24 [.v (.int .i64 0),.str []] [(0,1),(1,1)]/\FL 300 0 0 false 1/\FL 300 1 1 false 1:=⟨jk,bw,bw⟩
theorem ah7:TY 326 Tryz.t326.desc 1 8 [.v .nilFunc]:=ec
theorem ah8:TY 330 (.pointer 100) 1 8 [.v (.pointer none)]:=ec
theorem ah9:TY 332 (.pointer 2) 1 8 [.v (.pointer none)]:=ec
theorem ah_:TY 343 (.pointer 136) 1 8 [.v (.pointer none)]:=ec
theorem aeV:TY 349 Tryz.t349.desc 1 8 [.v .nilFunc]:=ec
theorem aia:TY 358 (.pointer 130) 1 8 [.v (.pointer none)]:=ec
theorem aib:TY 360 (.pointer 128) 1 8 [.v (.pointer none)]:=ec
theorem aic:TY 364 (.pointer 367) 1 8 [.v (.pointer none)]:=ec
theorem L3:TY 365 (.slice 393) 1 24 [.sl 0 [] .nil]:=ec
theorem aid:TS 367 Tryz.t366.desc 8 120 [.str [],.sl 0 [] .nil,.sl 0 [] .nil,.str [],.sl 0 [] .nil,.v (.int .i64 0),.v (.bool false),.v (.bool false)] [(0,4),(4,1),(5,1),(6,1),(7,1)]/\FL 367 0 0 true 4/\FL 367 1 4 false 1/\FL 367 2 5 false 1/\FL 367 3 6 false 1/\FL 367 4 7 false 1:=⟨jk,bw,bw,bw,bw,bw⟩
theorem aeW:TS 371 Tryz.t370.desc 2 24 [.v (.int .i64 0),.str []] [(0,1),(1,1)]/\FL 371 0 0 false 1/\FL 371 1 1 false 1:=⟨jk,bw,bw⟩
theorem ZI:TS 373 Tryz.t372.desc 5 96 [.str [],.sl 0 [] .nil,.sl 0 [] .nil,.str [],.str []] [(0,4),(4,1)]/\FL 373 0 0 true 4/\FL 373 1 4 false 1:=⟨jk,bw,bw⟩
theorem aie:TY 381 (.pointer 134) 1 8 [.v (.pointer none)]:=ec
theorem aeX:TS 385 Tryz.t384.desc 2 16 [.v (.int .i64 0),.v (.int .i64 0)] [(0,1),(1,1)]/\FL 385 0 0 false 1/\FL 385 1 1 false 1:=⟨jk,bw,bw⟩
theorem aif:TY 386 (.pointer 390) 1 8 [.v (.pointer none)]:=ec
theorem aih:TS 388 Tryz.t387.desc 2 24 [.str [],.v (.int .i64 0)] [(0,1),(1,1)]/\FL 388 0 0 false 1/\FL 388 1 1 false 1:=⟨jk,bw,bw⟩
theorem aii:TS 390 Tryz.t389.desc 3 48 [.str [],.v (.int .i64 0),.sl 0 [] .nil] [(0,2),(2,1)]/\FL 390 0 0 true 2/\FL 390 1 2 false 1:=⟨jk,bw,bw⟩
theorem L4:TY 393 (.pointer 112) 1 8 [.v (.pointer none)]:=ec
theorem ZJ:TY 398 (.slice 373) 1 24 [.sl 0 [] .nil]:=ec
theorem ZK:TY 401 (.pointer 132) 1 8 [.v (.pointer none)]:=ec
theorem aij:TY 403 (.pointer 21) 1 8 [.v (.pointer none)]:=ec
theorem aik:TY 407 (.pointer 388) 1 8 [.v (.pointer none)]:=ec
theorem HE:TY 421 (.slice 21) 1 24 [.sl 0 [] .nil]:=ec
set_option maxRecDepth 10000
theorem cQ {α :Type} (l:List α) (j:Nat) (h:j<l.length):l.take (j+1)=l.take j++[l[j]]:=by
 rw[List.take_add_one,List.getElem?_eq_getElem h];rfl
section
variable {α :Type} {f: α -> α} {l:List α} {j:Nat}
end
def pr (b:UInt8):Bool:=decide (48<=b.toNat)&&decide (b.toNat<=57)
def lo (b:UInt8):UInt8:=if 65<=b.toNat/\b.toNat<=90 then UInt8.ofNat (b.toNat+32)else b
theorem pw (b:UInt8) (O:VH):VF Tryz.prog 111 [fB b] O (aH fun m O'=>m=mb (pr b)/\O'=O):=by
 have sC:b.toNat<256:=b.toNat_lt;refine VF.acr aa Tryz.func111 (c:=_) rfl (Nat.le_of_ble_eq_true rfl) ?_;rw[show Tryz.f111.ntmps=9 from rfl];simp only[cf,Nat.zero_add,Nat.reduceAdd];by_cases h1:48<=b.toNat
 ·by_cases h2:b.toNat<=57
  ·repeat' first
    | with_reducible (first | refine VC.seq' ?_ | refine VC.az ?_ | refine VC.skip ?_ | refine VC.label ?_ | refine VC.scope ?_ | refine VC.exit ?_ | refine VC.ret ?_ | refine VL.nil ?_)
    | (with_reducible refine gVC ?_;first | refine gp @aG ?_ | refine gr @aG ?_ | (refine gc @aG ?_ ?_<;>(intro Ep;try simp only[dcs,ne_eq,reduceCtorEq]at Ep)))
    | simp only[Yk,Nat.reduceEqDiff,reduceIte]
    | refine eR1 ?_ | refine eR2 ?_ | refine mI.Yb rfl ?_ | refine mI.Yc rfl ?_
   exact⟨by simp[pr,h1,h2,aY],by trivial⟩
  ·repeat' first
    | with_reducible (first | refine VC.seq' ?_ | refine VC.az ?_ | refine VC.skip ?_ | refine VC.label ?_ | refine VC.scope ?_ | refine VC.exit ?_ | refine VC.ret ?_ | refine VL.nil ?_)
    | (with_reducible refine gVC ?_;first | refine gp @aG ?_ | refine gr @aG ?_ | (refine gc @aG ?_ ?_<;>(intro Ep;try simp only[dcs,ne_eq,reduceCtorEq]at Ep)))
    | simp only[Yk,Nat.reduceEqDiff,reduceIte]
    | refine eR1 ?_ | refine eR2 ?_ | refine mI.Yb rfl ?_ | refine mI.Yc rfl ?_
   exact⟨by simp[pr,h2,aY],by trivial⟩
 ·repeat' first
   | with_reducible (first | refine VC.seq' ?_ | refine VC.az ?_ | refine VC.skip ?_ | refine VC.label ?_ | refine VC.scope ?_ | refine VC.exit ?_ | refine VC.ret ?_ | refine VL.nil ?_)
   | (with_reducible refine gVC ?_;first | refine gp @aG ?_ | refine gr @aG ?_ | (refine gc @aG ?_ ?_<;>(intro Ep;try simp only[dcs,ne_eq,reduceCtorEq]at Ep)))
   | simp only[Yk,Nat.reduceEqDiff,reduceIte]
   | refine eR1 ?_ | refine eR2 ?_ | refine mI.Yb rfl ?_ | refine mI.Yc rfl ?_
  exact⟨by simp[pr,h1,aY],by trivial⟩
section
variable {tab:bV} {t:TypeId} {a b:List UInt8}
end
def agG (s:List UInt8) (nb:Bool):List UInt8:=
 if s==[103,97]||(s==[102,105,110,97,108]||s==[114,101,108,101,97,115,101])then[]
 else if s==[99,114]then[114,99]
 else if nb&&s==[97]then[97,108,112,104,97]
 else if nb&&s==[98]then[98,101,116,97]
 else if nb&&s==[109]then[109,105,108,101,115,116,111,110,101]
 else s
section
variable {tab:bV} {t:TypeId} {l:List UInt8} {s c:Nat} {z:List MV}
end
def L5 (b:UInt8):Bool:=b==46||b==45
abbrev Piece:=List UInt8×Bool×Bool
abbrev ZL:=Bool×Bool×List UInt8
set_option linter.defProp false in
def zR:=And.intro T9<|And.intro T3<|And.intro T4<|And.intro T5<|And.intro tr<|And.intro SC<|And.intro LY<|And.intro ahR HC
structure fR (O:VH) (B b:Nat) (q:Option Nat) (s:List UInt8):Prop where
 cell:∃p buf,O.hp b=some (.cells [p,buf])/\(p= .v (.pointer none)\/p= .ptr b 0)/\GR O 5 1 B buf s.length (s.map fB)/\gid buf=q/\buf≠ .sl 0 [] .full
 ne:q≠some b
 nP:∃j,B<=j/\j<O.next/\O.hp j=some (.shape b 145 2)
 lo:B<=b
 hi:b<O.next
 nz:s=[]->q=none
structure eW (O:VH) (b:Nat) (q:Option Nat) (O':VH) (q':Option Nat):Prop where
 next:O.next<=O'.next
 hp:∀i,i<O.next->i≠b->q≠some i->O'.hp i=O.hp i
 new:∀i,i<O.next->q≠some i->q'≠some i
theorem fR.SD {O:VH} {B b:Nat} {q:Option Nat} {s:List UInt8} (h:fR O B b q s):∀i,O.next<=i->q≠some i:=by
 intro i hi e;obtain⟨p,buf,_,_,hg,hq,_⟩:=h.cell;rcases hg with⟨_,_,rfl | rfl⟩ | ⟨k,c,rfl,_,_,hr⟩
 ·rw[<-hq]at e;cases e
 ·rw[<-hq]at e;cases e
 ·rw[<-hq]at e;injection e with e;have:=hr.hi;omega
theorem fR.xf {O:VH} {B b:Nat} {q:Option Nat} {s:List UInt8} (h:fR O B b q s):∀i,q=some i->B<=i:=by
 intro i e;obtain⟨p,buf,_,_,hg,hq,_⟩:=h.cell;rcases hg with⟨_,_,rfl | rfl⟩ | ⟨k,c,rfl,_,_,hr⟩
 ·rw[<-hq]at e;cases e
 ·rw[<-hq]at e;cases e
 ·rw[<-hq]at e;injection e with e;rw[<-e];exact hr.lo
theorem eW.ge {O0 O O':VH} {b:Nat} {q q':Option Nat} (h:O0.Ge O) (u:eW O b q O' q') (hb:O0.next<=b) (hq:∀i,q=some i->O0.next<=i):O0.Ge O':=
 ⟨Nat.le_trans h.next u.next,fun i hi=>(u.hp i (Nat.lt_of_lt_of_le hi h.next) (by omega) (fun e=>by have:=hq i e;omega)).trans (h.hp i hi)⟩
theorem fR.ph {O O':VH} {B b:Nat} {q:Option Nat} {s:List UInt8} (h:fR O B b q s) (hn:O.next<=O'.next) (hb:O'.hp b=O.hp b) (hq:∀i,q=some i->O'.hp i=O.hp i) (hs:∀j k t n,O.hp j=some (.shape k t n)->j<O.next->O'.hp j=O.hp j):fR O' B b q s:=by
 obtain⟨p,buf,h1,h2,h3,h4,h5⟩:=h.cell;obtain⟨j,j1,j2,j3⟩:=h.nP;refine⟨⟨p,buf,hb.trans h1,h2,?_,h4,h5⟩,h.ne,⟨j,j1,by omega,(hs j _ _ _ j3 j2).trans j3⟩,h.lo,by have:=h.hi;omega,h.nz⟩;rcases h3 with h3 | ⟨k,c,rfl,g1,g2,g3⟩
 ·exact .inl h3
 ·refine .inr ⟨k,c,rfl,g1,g2,?_⟩;obtain⟨sp,r1,r2⟩:=g3.cells;obtain⟨i,i1,i2,i3⟩:=g3.nP;exact⟨⟨sp,(hq k h4.symm).trans r1,r2⟩,⟨i,i1,by omega,(hs i _ _ _ i3 i2).trans i3⟩,g3.lo,by have:=g3.hi;omega⟩
theorem fR.xP {O O':VH} {B b:Nat} {q:Option Nat} {s:List UInt8} (h:fR O B b q s) (u:bl O none O'):fR O' B b q s:=
 h.ph u.next (u.hp b h.hi (by simp)) (fun i hi=>u.hp i (by
  rcases Nat.lt_or_ge i O.next with h' | h'
  ·exact h'
  ·exact absurd hi (h.SD i h')) (by simp)) fun j _ _ _ _ hl=>u.hp j hl (by simp)
theorem fR.set {O:VH} {B b i:Nat} {q:Option Nat} {s:List UInt8} {cs:List MV} {x:bW} (h:fR O B b q s) (hi:O.hp i=some (.cells cs)) (hb:i≠b) (hq:q≠some i):fR (O.set i x) B b q s:=
 h.ph (Nat.le_refl _) (VH.ak _ _ (Ne.symm hb)) (fun k hk=>VH.ak _ _ (fun e=>hq (by rw[hk,e]))) fun j _ _ _ hj _=>VH.ak _ _ (fun e=>by rw[e,hi]at hj;cases hj)
theorem fR.fresh (O:VH) {B:Nat} (hB:B<=O.next):fR ((O.push (.cells [.v (.pointer none),.sl 0 [] .nil])).push (.shape O.next 145 2)) B O.next none []:=
 ⟨⟨_,_,(VH.bp _ _ (by show O.next<O.next+1;omega)).trans (VH.aX _ _),.inl rfl,.inl ⟨rfl,rfl,.inl rfl⟩,rfl,by simp⟩,by simp,⟨O.next+1,by omega,by show O.next+1<O.next+1+1;omega,VH.aX _ _⟩,hB,by show O.next<O.next+1+1;omega,fun _=>rfl⟩
theorem L6 (k o:Nat) (O:VH):en Tryz.prog 113 [.ptr k o] O fun m O'=>m= .ptr k o/\O'=O:=by
 refine en.of (ex:=Extern.AbiNoEscape.same) Tryz.func113 (by kernel_rfl) (by kernel_rfl) (by kernel_rfl) (by kernel_rfl) fun G w vs hw hv=>?_
 obtain⟨u,us,rfl,h1,h2⟩:=hv.eh;rw[h2.ic];exact⟨u,Lib.run_noEscape w u,h1⟩
theorem zS {O:VH} {B b:Nat} {q:Option Nat} {s:List UInt8} (h:fR O B b q s):VF Tryz.prog 85 [.ptr b 0] O (aH fun m O'=>fR O' B b q s/\eW O b q O' q):=by
 obtain⟨p,buf,h1,h2,h3,h4,h5⟩:=h.cell;obtain⟨j,j1,j2,j3⟩:=h.nP;have hb:=h.hi;refine VF.dh 20 [] Tryz.func85 ?_;rcases h2 with rfl | rfl
 ·refine ao @zR @h1 ?_;refine VL.toU aa (.inl rfl) (el:=145) (by rw[SC];rfl) (by rw[HC];rfl) LY.1.1 (by decide) j3 (by decide) rfl rfl rfl ?_;refine I8 ?_;refine ah.ext (L6 b 0 O) rfl ?_;rintro _ O2 ⟨rfl,rfl⟩;refine I8 ?_;refine VL.agh aa (.inl rfl) (el:=145) (by rw[HC];rfl) (by rw[SC];rfl) LY.1.1 j3 (by kernel_rfl) rfl rfl rfl ?_;refine ao @zR @h1 ?_;refine⟨⟨⟨_,buf,VH.an _ _ _,.inr rfl,h3.ph bl.set (by rw[h4];exact h.ne) (fun k t n=>by rw[h1];simp),h4,h5⟩,h.ne,⟨j,j1,j2,?_⟩,h.lo,h.hi,h.nz⟩,⟨Nat.le_refl _,fun i _ hi _=>VH.ak _ _ hi,fun _ _ h=>h⟩⟩;rw[VH.ak _ _ (fun e=>by rw[e,h1]at j3;cases j3)];exact j3
 ·simp(disch:=first | omega | (simp only[ds]<;>omega) | fail) only[wk,wu,sy,aj,cw,Nat.reduceLT,Nat.reduceAdd,Nat.reduceMul,Nat.reduceSub,Nat.reduceBEq,Nat.reduceEqDiff,Int.reduceToNat,reduceIte,zR,h1,Ly (op:=.neq) SC (s:=1) LY.1.1];exact⟨h,⟨Nat.le_refl _,fun _ _ _ _=>rfl,fun _ _ h=>h⟩⟩
theorem fR.grown {O O':VH} {B b:Nat} {q:Option Nat} {s:List UInt8} {p buf m:MV} {n' z:Nat} {L:List UInt8} (h:fR O B b q s) (h1:O.hp b=some (.cells [p,buf])) (h2:p= .v (.pointer none)\/p= .ptr b 0) (h4:gid buf=q) (hg:GR O' 5 1 B m n' (L.map fB)) (hn:n'=L.length) (hu:bl O (gid buf) O') (qt:(∃k c,m= .bm k 0 n' c/\(gid buf=some k\/(O.next<=k/\z≠0)))\/m=buf) (hf:buf≠ .sl 0 [] .full) (hz:L=[]->z=0/\s=[]):
  fR (O'.set b (.cells [p,m])) B b (gid m) L/\eW O b q (O'.set b (.cells [p,m])) (gid m):=by
 subst hn;obtain⟨j,j1,j2,j3⟩:=h.nP;have hb:=h.hi
 have hm:m≠ .sl 0 [] .full:=by
  rcases qt with⟨k,c,rfl,_⟩ | rfl
  ·simp
  ·exact hf
 have qP:∀i,i<O.next->q≠some i->gid m≠some i:=fun i hi hq=>by
  rcases qt with⟨k,c,rfl,hk⟩ | rfl
  ·rcases hk with hk | hk
   ·rw[<-h4,hk]at hq;exact hq
   ·intro e;injection e with e;have:=hk.1;omega
  ·rw[h4];exact hq
 have hne:gid m≠some b:=qP b hb h.ne;have hOb:O'.hp b=some (.cells [p,buf]):=(hu.hp b hb (by rw[h4];exact h.ne)).trans h1
 have hqs:∀i k t n,O.hp i=some (.shape k t n)->i<O.next->O'.hp i=O.hp i:=fun i k t n hi hl=>hu.hp i hl fun e=>by
  obtain⟨p',akc,g1,g2,g3,g4,g5⟩:=h.cell;rw[h1]at g1;injection g1 with g1;injection g1 with g1;injection g1 with e1 e2;injection e2 with e2;subst e2
  rcases g3 with⟨_,_,rfl | rfl⟩ | ⟨k2,c2,rfl,_,_,hr⟩
  ·cases e
  ·cases e
  ·injection e with e;subst e;obtain⟨sp,r1,_⟩:=hr.cells;rw[r1]at hi;cases hi
 refine⟨⟨⟨p,m,VH.an _ _ _,h2,hg.ph bl.set hne (fun k t n=>by rw[hOb];simp),rfl,hm⟩,hne,⟨j,j1,Nat.lt_of_lt_of_le j2 hu.next,?_⟩,h.lo,Nat.lt_of_lt_of_le hb hu.next,fun hL=>?_⟩,⟨hu.next,fun i hi L7 hq=>(VH.ak _ _ L7).trans (hu.hp i hi (by rw[h4];exact hq)),qP⟩⟩
 ·rw[VH.ak _ _ (fun e=>by rw[e,h1]at j3;cases j3)];exact(hqs j _ _ _ j3 j2).trans j3
 ·obtain⟨z0,s0⟩:=hz hL;have hq:=h.nz s0;rw[hq]at h4;rcases qt with⟨k,c,rfl,hk⟩ | rfl
  ·rcases hk with hk | hk
   ·rw[h4]at hk;cases hk
   ·exact absurd z0 hk.2
  ·exact h4
theorem sD {O:VH} {B b:Nat} {q:Option Nat} {s:List UInt8} (c:UInt8) (h:fR O B b q s) (hl:s.length+1<=140737488355328):VF Tryz.prog 86 [.ptr b 0,fB c] O (aH fun m O'=>m= .v .nilIface/\∃q',fR O' B b q' (s++[c])/\eW O b q O' q'):=by
 refine VF.dh 17 [.tmp 4] Tryz.func86 ?_;refine ae @zR ?_;refine ah.rt (zS h) ?_;rintro _ O1 ⟨h',u'⟩;obtain⟨p,buf,h1,h2,h3,h4,h5⟩:=h'.cell;have hb:=h'.hi;refine aN @zR @h1 @aG ?_;refine VL.grow aa (.inl rfl) (te:=⟨.int .u8,1,1,[.v (.int .u8 0)]⟩) (dx:=.slice 5) (q:=.sl 1 [fB c] .full) (j:=1) (ds:=[fB c]) h3 rfl rfl (by rw[tr];rfl) T5 (by rw[tr];rfl) trivial (by dsimp only;omega) (by simp only[maxLen];omega) (by have:=h'.lo;omega) rfl rfl rfl rfl ?_;intro m O2 hg hu _ qt;have hg':GR O2 5 1 B m (s.length+1) ((s++[c]).map fB):=by rw[List.map_append];exact hg
 have hr:=h'.grown h1 h2 h4 hg' (by simp) hu (qt.imp_right (·.2.1)) h5 (by simp);have hO:O2.hp b=some (.cells [p,buf]):=(hu.hp b hb (by rw[h4];exact h'.ne)).trans h1
 have hY:dD m=[m]/\dE m=true:=by
  rcases qt with⟨k,cp,rfl,_⟩ | ⟨hj,_⟩
  ·exact⟨rfl,rfl⟩
  ·cases hj
 have c5:=pj (O:=O2) (k:=b) (off:=1) (u:=.slice 5) (b:=24) (z:=[.sl 0 [] .nil]) (cs:=[p,buf]) hY.1 hY.2 (by simp);refine aN @zR @hO @c5 ?_;exact⟨_,hr.1,⟨Nat.le_trans u'.next hr.2.next,fun i hi L7 hq=>(hr.2.hp i (Nat.lt_of_lt_of_le hi u'.next) L7 hq).trans (u'.hp i hi L7 hq),fun i hi hq=>hr.2.new i (Nat.lt_of_lt_of_le hi u'.next) hq⟩⟩
theorem bI {O:VH} {B b:Nat} {q:Option Nat} {s:List UInt8} (l:List UInt8) (h:fR O B b q s) (hl:s.length+l.length<=140737488355328):VF Tryz.prog 65 [.ptr b 0,.str l] O (aH fun m O'=>m= .tuple [mi l.length,.v .nilIface]/\∃q',fR O' B b q' (s++l)/\eW O b q O' q'):=by
 refine VF.dh 19 [.tmp 4,.tmp 5] Tryz.func65 ?_;refine ae @zR ?_;refine ah.rt (zS h) ?_;rintro _ O1 ⟨h',u'⟩;obtain⟨p,buf,h1,h2,h3,h4,h5⟩:=h'.cell;have hb:=h'.hi;refine ao @zR @h1 ?_;refine VL.grow aa (.inl rfl) (te:=⟨.int .u8,1,1,[.v (.int .u8 0)]⟩) (dx:=.string) (q:=.str l) (j:=l.length) (ds:=l.map fB) h3 rfl (by rw[List.all_map];exact List.all_eq_true.2 fun _ _=>rfl) (by rw[tr];rfl) T5 (by rw[T9];rfl) trivial (by dsimp only;omega) (by simp only[maxLen];omega) (by have:=h'.lo;omega) rfl rfl rfl rfl ?_;intro m O2 hg hu _ qt;have hg':GR O2 5 1 B m (s.length+l.length) ((s++l).map fB):=by rw[List.map_append];exact hg
 have hr:=h'.grown h1 h2 h4 hg' (by simp) hu (qt.imp_right (·.2.1)) h5 (by simp[and_comm]);have hO:O2.hp b=some (.cells [p,buf]):=(hu.hp b hb (by rw[h4];exact h'.ne)).trans h1
 have hY:dD m=[m]/\dE m=true:=by
  rcases qt with⟨k,cp,rfl,_⟩ | ⟨_,rfl,_⟩
  ·exact⟨rfl,rfl⟩
  ·rcases h3 with⟨_,_,rfl | rfl⟩ | ⟨k,c,rfl,_⟩<;>exact⟨rfl,rfl⟩
 have c5:=pj (O:=O2) (k:=b) (off:=1) (u:=.slice 5) (b:=24) (z:=[.sl 0 [] .nil]) (cs:=[p,buf]) hY.1 hY.2 (by simp);refine aN @zR @hO @c5 ?_;exact⟨_,hr.1,⟨Nat.le_trans u'.next hr.2.next,fun i hi L7 hq=>(hr.2.hp i (Nat.lt_of_lt_of_le hi u'.next) L7 hq).trans (u'.hp i hi L7 hq),fun i hi hq=>hr.2.new i (Nat.lt_of_lt_of_le hi u'.next) hq⟩⟩
theorem px {O:VH} {B b:Nat} {q:Option Nat} {s:List UInt8} (h:fR O B b q s) (hm:s.length<=maxLen):VF Tryz.prog 68 [.ptr b 0] O (aH fun m O'=>m= .str s/\bl O q O'):=by
 obtain⟨p,buf,h1,h2,h3,h4,h5⟩:=h.cell;have hb:=h.hi;refine VF.dh 14 [.tmp 2] Tryz.func68 ?_;refine I8 ?_;refine WC.bH (.held [10,11]) [(0,.rd),(1,.rd),(2,.rd),(3,.rd),(4,.rd),(5,.rd),(6,.rd),(7,.rd),(8,.rd),(9,.rd),(10,.one),(11,.rd)] ?_;have hO:O.hp b=some (.cells [p,buf]):=h1;rcases h3 with⟨e1,e2,rfl | rfl⟩ | ⟨k,c,rfl,g1,g2,g3⟩
 ·have hs:s=[]:=List.eq_nil_of_length_eq_zero e1;subst hs;simp(disch:=first | omega | (simp only[ds]<;>omega) | fail) only[wk,wu,sy,aj,cw,Nat.reduceLT,Nat.reduceAdd,Nat.reduceMul,Nat.reduceSub,Nat.reduceBEq,Nat.reduceEqDiff,Int.reduceToNat,reduceIte,zR,h1,vW];refine VL.agf aa (by kernel_rfl) rfl rfl rfl rfl ?_;refine ae @zR ?_;exact bl.refl _ _
 ·exact absurd rfl h5
 ·have hs:s≠[]:=fun e=>by have:=h.nz e;rw[<-h4]at this;cases this
  have hc:c≠0:=fun e=>hs (List.eq_nil_of_length_eq_zero (by omega))
  have oc:s.length<=maxLen:=hm;simp(disch:=first | omega | (simp only[ds]<;>omega) | fail) only[wk,wu,sy,aj,cw,Nat.reduceLT,Nat.reduceAdd,Nat.reduceMul,Nat.reduceSub,Nat.reduceBEq,Nat.reduceEqDiff,Int.reduceToNat,reduceIte,zR,h1,vW,hc];refine VL.ahB aa (by kernel_rfl) (el:=5) (by rw[ahW];rfl) (by kernel_rfl) g3 hs oc rfl rfl rfl rfl ?_;refine ae @zR ?_;exact h4▸bl.kill
set_option linter.defProp false in
def rI:=And.intro T9<|And.intro T3<|And.intro T4<|And.intro T5 tr
theorem Er (s:List UInt8) (c:UInt8):(0<=Lib.indexByte s c) ↔ c∈s:=by
 induction s with
 | nil=>simp[Lib.indexByte]
 | cons b l ih=>
   have ik:=Lib.indexByte_ge l c;unfold Lib.indexByte;by_cases hb:b=c
   ·subst hb;simp
   ·have:(b==c)=false:=by simpa using hb
    rw[this];simp only[Bool.false_eq_true,if_false,List.mem_cons];by_cases h1:Lib.indexByte l c= -1
    ·rw[h1]at ih ⊢;simp only[beq_self_eq_true,if_true];constructor
     ·intro h;omega
     ·rintro(h | h)
      ·exact absurd h.symm hb
      ·have:=ih.2 h;omega
    ·have:(Lib.indexByte l c== -1)=false:=by simpa using h1
     rw[this];simp only[Bool.false_eq_true,if_false];constructor
     ·intro _;exact .inr (ih.1 (by omega))
     ·rintro(h | h)
      ·exact absurd h.symm hb
      ·have:=ih.2 h;omega
theorem xS (s:List UInt8) (c:UInt8) (O:VH):en Tryz.prog 169 [.str s,fB c] O fun m O'=>m=mi (Lib.indexByte s c)/\O'=O:=by
 refine en.of (ex:=Extern.BytealgIndexByte.indexByte) Tryz.func169 (by kernel_rfl) (by kernel_rfl) (by kernel_rfl) (by kernel_rfl) fun G w vs hw hv=>?_
 obtain⟨u,us,rfl,h1,h2⟩:=hv.eh;obtain⟨u2,us2,rfl,h3,h4⟩:=h2.eh;rw[h4.ic];cases h1;have:=h3.iD;subst this;refine⟨_,Lib.run_indexByteString _ _ w,?_⟩;have e:((c.toNat:Int).toNat).toUInt8=c:=by simp
 rw[e];exact .v rfl
theorem I9 (s:List UInt8) (c:UInt8) (O:VH):VF Tryz.prog 139 [.str s,fB c] O (aH fun m O'=>m=mi (Lib.indexByte s c)/\O'=O):=by
 refine VF.dh 8 [.tmp 4] Tryz.func139 ?_;refine I8 ?_;refine ah.ext (xS s c O) rfl ?_;rintro _ O2 ⟨rfl,rfl⟩;exact I8 trivial
theorem Vw (s:List UInt8) (c:UInt8) (O:VH):VF Tryz.prog 108 [.str s,.str [c]] O (aH fun m O'=>∃n:Int,m=mi n/\(0<=n ↔ c∈s)/\O'=O):=by
 refine VF.dh 143 [.tmp 4] Tryz.func108 ?_;cases h:([c]:List UInt8)==s
 ·refine cU @rI @h @List.length_cons.{0} @List.length_nil.{0} ?_;refine ah.rt (I9 s c O) ?_;rintro _ O2 ⟨rfl,rfl⟩;refine ae @rI ?_;exact⟨_,rfl,Er s c⟩
 ·refine cU @rI @h @List.length_cons.{0} @List.length_nil.{0} ?_;have:s=[c]:=by have:=beq_iff_eq.1 h;exact this.symm
  exact⟨0,rfl,by rw[this];simp⟩
theorem I_ (s:List UInt8) (c:UInt8) (O:VH):VF Tryz.prog 81 [.str s,.str [c]] O (aH fun m O'=>∃n:Int,m=mi n/\(0<=n ↔ c∈s)/\O'=O):=by
 refine VF.dh 8 [.tmp 4] Tryz.func81 ?_;refine I8 ?_;refine ah.rt (Vw s c O) ?_;rintro _ O2 ⟨n,rfl,h,rfl⟩;refine I8 ?_;exact⟨n,rfl,h⟩
theorem zT (s:List UInt8) (c:UInt8) (O:VH):VF Tryz.prog 112 [.str s,.str [c]] O (aH fun m O'=>m=mb (s.contains c)/\O'=O):=by
 refine VF.dh 9 [.tmp 4] Tryz.func112 ?_;refine I8 ?_;refine ah.rt (I_ s c O) ?_;rintro _ O2 ⟨n,rfl,h,rfl⟩;refine I8 ?_
 have:s.contains c=decide (n>=0):=by
  rw[Bool.eq_iff_iff,List.contains_iff_mem,decide_eq_true_iff];exact h.symm
 rw[this]
def Qm (c:UInt8):Bool:=decide ((97<=c.toNat/\c.toNat<=122)\/(65<=c.toNat/\c.toNat<=90)\/(48<=c.toNat/\c.toNat<=57)\/c.toNat=46\/c.toNat=45\/c.toNat=95\/c.toNat=43)
def uP (s:List UInt8):Bool:=s.all Qm&&(decide (1<=s.length)&&decide (s.length<=64))
theorem Qn (c:UInt8):((97<=c.toNat/\c.toNat<=122)\/(65<=c.toNat/\c.toNat<=90)\/(48<=c.toNat/\c.toNat<=57)\/c.toNat=46\/c.toNat=45\/c.toNat=95\/c.toNat=43)\/((123<=c.toNat)\/(91<=c.toNat/\c.toNat<=96/\c.toNat≠95)\/(58<=c.toNat/\c.toNat<=64)\/(c.toNat<=47/\c.toNat≠43/\c.toNat≠45/\c.toNat≠46)):=by omega
theorem Qo (s:List UInt8) (O:VH) (hs:s.length<=maxLen):VF Tryz.prog 84 [.str s] O (aH fun m O'=>m=mb (uP s)/\O.Ge O'):=by
 have hm:(s.length:Int)<=9223372036854775807:=by simp[maxLen]at hs;omega
 have wP:=VH.aX O (.cells (s.map fB));have zU:=(VH.Ge.refl O).push (.cells (s.map fB));refine VF.dh 50 [.tmp 2] Tryz.func84 ?_;refine ae @rI ?_;refine VL.bytes aa (el:=5) (l:=s) rfl rfl (by rw[T9];rfl) (by rw[tr];rfl) (by rw[T5];rfl) hs rfl fun cap h1 h2=>WL.sound aa ?_
 refine ae @rI ?_;refine WC.iG [9] [0,7,8] (fun j:Nat=>[mi j]) (fun j O'=>(O.push (.cells (s.map fB))).Ge O'/\j<=s.length/\(s.take j).all Qm=true) (fun j=>s.length - j) (0) ?_ ?_
 ·exact⟨VH.Ge.refl _,Nat.zero_le _,rfl⟩
 rintro j O2 ⟨oI,hj,j8⟩;have wQ:=(oI.hp O.next (Nat.lt_succ_self _)).trans wP;by_cases h2:j<s.length
 ·have hc:=Qn s[j];have oQ:=List.getElem?_eq_getElem h2;have cu:Qm s[j]=decide ((97<=s[j].toNat/\s[j].toNat<=122)\/(65<=s[j].toNat/\s[j].toNat<=90)\/(48<=s[j].toNat/\s[j].toNat<=57)\/s[j].toNat=46\/s[j].toNat=45\/s[j].toNat=95\/s[j].toNat=43):=rfl;have i_:(s.take (j+1)).all Qm=Qm s[j]:=by rw[cQ _ _ h2,List.all_append,j8];simp
  generalize hx:s[j]=c at*;have hD:pr c=decide (48<=c.toNat/\c.toNat<=57):=by unfold pr;rw[Bool.decide_and]
  have hC:([46,45,95,43]:List UInt8).contains c=decide (c.toNat=46\/c.toNat=45\/c.toNat=95\/c.toNat=43):=by
   rw[Bool.eq_iff_iff,List.contains_iff_mem,decide_eq_true_iff];simp only[List.mem_cons,List.not_mem_nil,or_false, <-UInt8.toNat_inj];rfl
  rcases hc with hc | hc
  ·have h1:Qm c=true:=by rw[cu];exact decide_eq_true hc
   rw[h1]at i_;rcases hc with hc | hc | hc | hc | hc | hc | hc
   ·refine cU @rI @oQ @wQ @aG ?_;refine ay.next (j+1) ?_;exact⟨oI,by omega,i_⟩
   ·refine cU @rI @oQ @wQ @aG ?_;refine ay.next (j+1) ?_;exact⟨oI,by omega,i_⟩
   ·rw[decide_eq_true (by omega)]at hD;refine cU @rI @oQ @wQ @aG ?_;refine ah.rt (pw c _) ?_;rintro _ O3 ⟨rfl,rfl⟩;rw[hD];refine ae @rI ?_;refine ay.next (j+1) ?_;exact⟨oI,by omega,i_⟩
   all_goals
    rw[decide_eq_false (by omega)]at hD;rw[decide_eq_true (by omega)]at hC;refine cU @rI @oQ @wQ @aG ?_;refine ah.rt (pw c _) ?_;rintro _ O3 ⟨rfl,rfl⟩;rw[hD];refine ae @rI ?_;refine VL.Yl aa (el:=5) (l:=[c]) rfl rfl (by rw[tr];rfl) (by rw[T9];rfl) (by rw[T5];rfl) rfl rfl rfl (WL.sound aa ?_);refine ae @rI ?_;refine ah.rt (zT [46,45,95,43] c _) ?_;rintro _ O4 ⟨rfl,rfl⟩;rw[hC];refine ae @rI ?_;refine ay.next (j+1) ?_;exact⟨oI,by omega,i_⟩
  ·have h1:Qm c=false:=by rw[cu];exact decide_eq_false (by omega)
   have:uP s=false:=by
    unfold uP;rw[List.all_eq_false.2 ⟨c,by rw[<-hx];exact List.getElem_mem h2,by simp[h1]⟩];rfl
   rw[this];rw[decide_eq_false (by omega)]at hD hC;rcases hc with hc | hc | hc | hc
   all_goals
    refine cU @rI @oQ @wQ @aG ?_;refine ah.rt (pw c _) ?_;rintro _ O3 ⟨rfl,rfl⟩;rw[hD];refine ae @rI ?_;refine VL.Yl aa (el:=5) (l:=[c]) rfl rfl (by rw[tr];rfl) (by rw[T9];rfl) (by rw[T5];rfl) rfl rfl rfl (WL.sound aa ?_);refine ae @rI ?_;refine ah.rt (zT [46,45,95,43] c _) ?_;rintro _ O4 ⟨rfl,rfl⟩;rw[hC];refine ae @rI ?_;exact zU.trans oI
 ·have AV:j=s.length:=by omega
  subst AV;rw[List.take_length]at j8;unfold uP;rw[j8];by_cases h0:0<s.length
  ·have e:decide (1<=s.length)=true:=decide_eq_true h0;rw[e];by_cases Es:s.length<=64
   ·refine ae @rI ?_;exact zU.trans oI
   ·refine ae @rI ?_;exact zU.trans oI
  ·have e:decide (1<=s.length)=false:=decide_eq_false (by omega);rw[e];refine ae @rI ?_;exact zU.trans oI
def tu:Bool->List UInt8->List UInt8->List Piece
 | hy,cur,[]=>[(cur,hy,false)]
 | hy,cur,c::r=>if L5 c then(cur,hy,false)::tu (c==45) [] r
   else match cur.getLast? with
    | none=>tu hy [c] r
    | some d=>if pr c=pr d then tu hy (cur++[c]) r else(cur,hy,true)::tu true [c] r
theorem Vx (hy:Bool) (cur:List UInt8):tu hy cur []=[(cur,hy,false)]:=rfl
theorem Qp {hy:Bool} {cur r:List UInt8} {c:UInt8} (h:L5 c=true):tu hy cur (c::r)=(cur,hy,false)::tu (c==45) [] r:=by rw[tu,if_pos h]
def even (l:List UInt8):Prop:=(∀c∈l,L5 c=false)/\∀c∈l,∀d∈l,pr c=pr d
theorem AZ:∀(l cur r:List UInt8) (hy:Bool),even (cur++l)->tu hy cur (l++r)=tu hy (cur++l) r
 | [],cur,r,hy,_=>by simp
 | c::l,cur,r,hy,h=>by
   have hm:L5 c=false:=h.1 c (by simp);have Hy:=AZ l (cur++[c]) r hy (by rw[List.append_assoc];exact h);rw[List.append_assoc,List.singleton_append]at Hy;rw[<-Hy,List.cons_append,tu,if_neg (by rw[hm];simp)];cases hl:cur.getLast? with
   | none=>
     have:cur=[]:=List.getLast?_eq_none_iff.1 hl;subst this;rfl
   | some d=>
     have hd:pr c=pr d:=h.2 c (by simp) d (List.mem_append_left _ (List.mem_of_getLast? hl));simp only[hd,if_true]
end Go.Proofs.YtoclnkfdahmnhaaGreatDoor
